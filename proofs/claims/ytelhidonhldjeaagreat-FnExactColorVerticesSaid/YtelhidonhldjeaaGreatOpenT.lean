
/- From the rows' reading of slices of triangles to the walks' words. -/
import Derived.Test.YtelhidonhldjeaaGreatOpen
import Derived.Test.YtelhidonhldjeaaGreatTris
import Derived.ProofKit
import Derived.Lib.SmallJoins
import Derived.Deep.Slices
import Derived.Deep.Fields
set_option linter.unusedVariables false
set_option linter.unusedSimpArgs false
namespace Go.Proofs.YtelhidonhldjeaaGreat
open Go.ChangeShapes Go.WideShapes Go.ChangeAt Go.RowKit Go.Deep Go.Joins

section
variable {H : Type} {enc : TypeId × Value → H} {P : Program} {w : World} {base : Nat} {spare : Nat → Bool} {held : Bool}
/-- A slice of structs of three ints, read as data: it reads as triangles. -/
theorem open_tris {t e : TypeId} {f0 f1 f2 : Field} {it : TypeId} {fuel : Nat} {cs : List Value} {x : DataW H × List MemPlace} (ht : P.underlying t = some (.slice e)) (he : P.underlying e = some (.struct #[f0, f1, f2]))
    (h0 : f0.type = it) (h1 : f1.type = it) (h2 : f2.type = it) (hit : P.underlying it = some (.int .i64)) (hone : oneCellFields P #[f0, f1, f2] = true) (hC : P.cellsOf e = 3) (h : DataW.trod enc P w base spare held fuel t cs = some x) :
    ∃ (A : Option Addr) (n c : Nat) (ps : List TI), cs = [.slice A n c] ∧ ps.length = n ∧ n ≤ c ∧ c ≤ maxLen ∧ TrisAt w w.heap.size A ps := by
  rcases Deep.open_slice ht h with ⟨rfl, _⟩ | ⟨a, len, cap, m, n, D, Pl, rfl, hb, hl, hm, hmm, hx, hi⟩
  · exact ⟨none, 0, 0, [], rfl, rfl, by simp, by simp [maxLen], fun h => by simp at h⟩
  · have hlm : len ≤ m := by rw [hmm]; split <;> omega
    have key : ∀ i, i < len → ∃ p : TI, w.cell? (a.add (i * 3)) = some (.int .i64 p.a) ∧ w.cell? ((a.add (i * 3)).add 1) = some (.int .i64 p.b) ∧ w.cell? ((a.add (i * 3)).add 2) = some (.int .i64 p.c) := by
      intro i hil
      obtain ⟨cs', hc, ht'⟩ := hi i (by omega)
      rw [hC] at hc
      obtain ⟨ys, n', hn', hy, hlen, hyl, hf⟩ := DataW.trod_struct he ht'
      obtain ⟨_, hcl, hat⟩ := World.cells?_some hc
      have g0 := hf 0 f0 rfl
      have g1 := hf 1 f1 rfl
      have g2 := hf 2 f2 rfl
      obtain ⟨o0, k0⟩ := hone_of hone 0 f0 rfl
      obtain ⟨o1, k1⟩ := hone_of hone 1 f1 rfl
      obtain ⟨o2, k2⟩ := hone_of hone 2 f2 rfl
      have a0 := hat 0 (by omega)
      have a1 := hat 1 (by omega)
      have a2 := hat 2 (by omega)
      match cs', hcl with
      | [v0, v1, v2], _ =>
        match ys, hyl with
        | [y0, y1, y2], _ =>
          rw [o0, k0] at g0
          rw [o1, k1] at g1
          rw [o2, k2] at g2
          simp at g0 g1 g2 a0 a1 a2
          obtain ⟨n0, e0, _⟩ := DataW.trod_int (by rw [h0]; exact hit) g0
          obtain ⟨n1, e1, _⟩ := DataW.trod_int (by rw [h1]; exact hit) g1
          obtain ⟨n2, e2, _⟩ := DataW.trod_int (by rw [h2]; exact hit) g2
          simp at e0 e1 e2
          subst e0 e1 e2
          exact ⟨⟨n0, n1, n2⟩, by simpa [Addr.add] using a0, by simpa using a1, by simpa using a2⟩
    have key2 : ∀ i, ∃ p : TI, i < len → w.cell? (a.add (i * 3)) = some (.int .i64 p.a) ∧ w.cell? ((a.add (i * 3)).add 1) = some (.int .i64 p.b) ∧ w.cell? ((a.add (i * 3)).add 2) = some (.int .i64 p.c) := fun i => by
      by_cases h : i < len
      · obtain ⟨p, hp⟩ := key i h
        exact ⟨p, fun _ => hp⟩
      · exact ⟨default, fun h' => absurd h' h⟩
    obtain ⟨F, hF⟩ := Classical.skolem.1 key2
    have hps : ∀ i, i < len → gt ((List.range len).map F) i = F i := fun i h => by
      simp [gt, h]
    refine ⟨some a, len, cap, (List.range len).map F, rfl, by simp, hl, hm, fun hn => ?_⟩
    have hn' : 0 < len := by simpa using hn
    clear key key2 hi hx hmm hb
    obtain ⟨b, o, sp⟩ := a
    have hsp : sp = none := by
      have h := (hF 0 hn').1
      have e : Addr.add ⟨b, o, sp⟩ (0 * 3) = ⟨b, o, sp⟩ := by simp [Addr.add]
      rw [e] at h
      cases sp with
      | none => rfl
      | some s =>
        exfalso
        unfold World.cell? at h
        split at h <;> simp at h
    subst hsp
    have hadd : ∀ i j, Addr.add ⟨b, i, none⟩ j = ⟨b, i + j, none⟩ := fun i j => by unfold Addr.add; split <;> simp_all
    refine ⟨b, o, rfl, ?_, fun i hi => ?_⟩
    · have h := (hF 0 hn').1
      rw [hadd] at h
      exact World.block_lt_of_cell? w _ h
    · have hil : i < len := by simpa using hi
      obtain ⟨e1, e2, e3⟩ := hF i hil
      rw [hadd] at e1
      rw [hadd, hadd] at e2 e3
      rw [hps i hil]
      exact ⟨e1, e2, e3⟩

end
end Go.Proofs.YtelhidonhldjeaaGreat
