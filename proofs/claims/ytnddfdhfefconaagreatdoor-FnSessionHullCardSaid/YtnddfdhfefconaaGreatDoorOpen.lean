
/- From the rows' reading of arguments to the walks' words, and back. -/
import Derived.Test.YtnddfdhfefconaaGreatDoorRows
import Derived.Test.YtnddfdhfefconaaGreatDoorBase
import Derived.ProofKit
import Derived.Lib.SmallJoins
import Derived.Deep.Slices
import Derived.Deep.Fields
set_option linter.unusedVariables false
set_option linter.unusedSimpArgs false
namespace Go.Proofs.YtnddfdhfefconaaGreatDoor
open Go.ChangeShapes Go.WideShapes Go.ChangeAt Go.RowKit Go.Deep Go.Joins

section
variable {H : Type} {enc : TypeId × Value → H} {P : Program} {w : World} {base : Nat} {spare : Nat → Bool} {held : Bool}
/-- A slice of structs of two ints, read as data: it reads as points. -/
theorem open_pts {t e : TypeId} {f0 f1 : Field} {it : TypeId} {fuel : Nat} {cs : List Value} {x : DataW H × List MemPlace} (ht : P.underlying t = some (.slice e)) (he : P.underlying e = some (.struct #[f0, f1]))
    (h0 : f0.type = it) (h1 : f1.type = it) (hit : P.underlying it = some (.int .i64)) (hone : oneCellFields P #[f0, f1] = true) (hC : P.cellsOf e = 2) (h : DataW.trod enc P w base spare held fuel t cs = some x) :
    ∃ (A : Option Addr) (n c : Nat) (ps : List Pt), cs = [.slice A n c] ∧ ps.length = n ∧ n ≤ c ∧ c ≤ maxLen ∧ PtsAt w w.heap.size A ps := by
  rcases Deep.open_slice ht h with ⟨rfl, _⟩ | ⟨a, len, cap, m, n, D, Pl, rfl, hb, hl, hm, hmm, hx, hi⟩
  · exact ⟨none, 0, 0, [], rfl, rfl, by simp, by simp [maxLen], fun h => by simp at h⟩
  · have hlm : len ≤ m := by rw [hmm]; split <;> omega
    have key : ∀ i, i < len → ∃ p : Pt, w.cell? (a.add (i * 2)) = some (.int .i64 p.x) ∧ w.cell? ((a.add (i * 2)).add 1) = some (.int .i64 p.y) := by
      intro i hil
      obtain ⟨cs', hc, ht'⟩ := hi i (by omega)
      rw [hC] at hc
      obtain ⟨ys, n', hn', hy, hlen, hyl, hf⟩ := DataW.trod_struct he ht'
      obtain ⟨_, hcl, hat⟩ := World.cells?_some hc
      have g0 := hf 0 f0 rfl
      have g1 := hf 1 f1 rfl
      obtain ⟨o0, k0⟩ := hone_of hone 0 f0 rfl
      obtain ⟨o1, k1⟩ := hone_of hone 1 f1 rfl
      have a0 := hat 0 (by omega)
      have a1 := hat 1 (by omega)
      match cs', hcl with
      | [v0, v1], _ =>
        match ys, hyl with
        | [y0, y1], _ =>
          rw [o0, k0] at g0
          rw [o1, k1] at g1
          simp at g0 g1 a0 a1
          obtain ⟨n0, e0, _⟩ := DataW.trod_int (by rw [h0]; exact hit) g0
          obtain ⟨n1, e1, _⟩ := DataW.trod_int (by rw [h1]; exact hit) g1
          simp at e0 e1
          subst e0 e1
          exact ⟨⟨n0, n1⟩, by simpa [Addr.add] using a0, by simpa using a1⟩
    have key2 : ∀ i, ∃ p : Pt, i < len → w.cell? (a.add (i * 2)) = some (.int .i64 p.x) ∧ w.cell? ((a.add (i * 2)).add 1) = some (.int .i64 p.y) := fun i => by
      by_cases h : i < len
      · obtain ⟨p, hp⟩ := key i h
        exact ⟨p, fun _ => hp⟩
      · exact ⟨default, fun h' => absurd h' h⟩
    obtain ⟨F, hF⟩ := Classical.skolem.1 key2
    have hps : ∀ i, i < len → gp ((List.range len).map F) i = F i := fun i h => by
      simp [gp, h]
    refine ⟨some a, len, cap, (List.range len).map F, rfl, by simp, hl, hm, fun hn => ?_⟩
    have hn' : 0 < len := by simpa using hn
    clear key key2 hi hx hmm hb
    obtain ⟨b, o, sp⟩ := a
    have hsp : sp = none := by
      have h := (hF 0 hn').1
      have e : Addr.add ⟨b, o, sp⟩ (0 * 2) = ⟨b, o, sp⟩ := by simp [Addr.add]
      rw [e] at h
      cases sp with
      | none => rfl
      | some s =>
        exfalso
        unfold World.cell? at h
        split at h <;> simp at h
    subst hsp
    have hadd : ∀ i j, Addr.add ⟨b, i, none⟩ j = ⟨b, i + j, none⟩ := fun i j => by unfold Addr.add; split <;> simp_all
    refine ⟨b, o, rfl, ?_, fun i hi => ?_⟩
    · have h := (hF 0 hn').1
      rw [hadd] at h
      exact World.block_lt_of_cell? w _ h
    · have hil : i < len := by simpa using hi
      obtain ⟨e1, e2⟩ := hF i hil
      rw [hadd] at e1
      rw [hadd, hadd] at e2
      unfold pX pY
      rw [hps i hil]
      exact ⟨e1, e2⟩

/-- A slice of ints, read as data. -/
theorem open_intsAt {t e : TypeId} {fuel : Nat} {cs : List Value} {x : DataW H × List MemPlace} (ht : P.underlying t = some (.slice e)) (he : P.underlying e = some (.int .i64)) (hC : P.cellsOf e = 1)
    (h : DataW.trod enc P w base spare held fuel t cs = some x) :
    ∃ (A : Option Addr) (n c : Nat) (zs : List Int), cs = [.slice A n c] ∧ zs.length = n ∧ n ≤ c ∧ c ≤ maxLen ∧ IntsAt w w.heap.size A zs := by
  rcases Deep.open_slice ht h with ⟨rfl, _⟩ | ⟨a, len, cap, m, n, D, Pl, rfl, hb, hl, hm, hmm, hx, hi⟩
  · exact ⟨none, 0, 0, [], rfl, rfl, by simp, by simp [maxLen], fun h => by simp at h⟩
  · have hlm : len ≤ m := by rw [hmm]; split <;> omega
    have key2 : ∀ i, ∃ z : Int, i < len → w.cell? (a.add i) = some (.int .i64 z) := fun i => by
      by_cases hil : i < len
      · obtain ⟨cs', hc, ht'⟩ := hi i (by omega)
        rw [hC, Nat.mul_one] at hc
        obtain ⟨_, hcl, hat⟩ := World.cells?_some hc
        obtain ⟨z, e0, _⟩ := DataW.trod_int he ht'
        subst e0
        have := hat 0 (by omega)
        exact ⟨z, fun _ => by simpa [Addr.add] using this⟩
      · exact ⟨0, fun h' => absurd h' hil⟩
    obtain ⟨F, hF⟩ := Classical.skolem.1 key2
    have hps : ∀ i, i < len → gi ((List.range len).map F) i = F i := fun i h => by
      simp [gi, h]
    refine ⟨some a, len, cap, (List.range len).map F, rfl, by simp, hl, hm, fun hn => ?_⟩
    have hn' : 0 < len := by simpa using hn
    clear key2 hi hx hmm hb
    obtain ⟨b, o, sp⟩ := a
    have hsp : sp = none := by
      have h := hF 0 hn'
      have e : Addr.add ⟨b, o, sp⟩ 0 = ⟨b, o, sp⟩ := by simp [Addr.add]
      rw [e] at h
      cases sp with
      | none => rfl
      | some s =>
        exfalso
        unfold World.cell? at h
        split at h <;> simp at h
    subst hsp
    have hadd : ∀ i j, Addr.add ⟨b, i, none⟩ j = ⟨b, i + j, none⟩ := fun i j => by unfold Addr.add; split <;> simp_all
    refine ⟨b, o, rfl, ?_, fun i hi => ?_⟩
    · have h := hF 0 hn'
      rw [hadd] at h
      exact World.block_lt_of_cell? w _ h
    · have hil : i < len := by simpa using hi
      have e1 := hF i hil
      rw [hadd] at e1
      rw [hps i hil]
      exact e1

theorem trodAll_below {W W' : World} (hl : laidOutB P = true) (hb : Below W.heap.size W W') : ∀ (ts : List TypeId) (vs : List Value) (ds : List (DataW H)) (ps : List MemPlace), (∀ t ∈ ts, P.readableRec t = true ∧ t < P.types.size) →
    DataW.TrodAll enc P W 0 (fun _ => true) true ts vs ds ps → (∀ x ∈ ps, x.block < W.heap.size) → DataW.TrodAll enc P W' 0 (fun b => decide (b < W.heap.size)) true ts vs ds ps
  | [], [], [], _, _, h, _ => h
  | t :: ts, v :: vs, d :: ds, ps, hr, ⟨p, q, h1, h2, h3⟩, hlt => by
    subst h3
    exact ⟨p, q, Below.trod hl (hr t (by simp)).1 (hr t (by simp)).2 h1 hb (fun x hx => hlt x (by simp [hx])),
      trodAll_below hl hb ts vs ds q (fun t ht => hr t (by simp [ht])) h2 (fun x hx => hlt x (by simp [hx])), rfl⟩

/-- A law's last step: it hands back true, and of what was there nothing has turned. -/
theorem law_post {f : Func} {s : ChangeSpec} {W W' : World} {args : Array Value} {ds gs : List (DataW H)} {before : List MemPlace} (hl : laidOutB P = true)
    (hW : DataW.Whole enc P f.params.toList s.vars false W args.toList ds gs before) (hv : s.vars = [])
    (hr0 : (f.params.toList.all fun t => P.readableRec t && decide (t < P.types.size)) = true)
    (hres : f.resultTypes.toList = [4]) (hu : P.underlying 4 = some .bool)
    (h1 : (s.fn H (ds ++ gs)).results = [.lit (.bool true)]) (h2 : (s.fn H (ds ++ gs)).args = ds) (h3 : (s.fn H (ds ++ gs)).vars = []) (hb : Below W.heap.size W W') :
    s.post enc P f false true false false W args (.bool true) W' := by
  have hr : ∀ t ∈ f.params.toList, P.readableRec t = true ∧ t < P.types.size := fun t ht => by simpa using List.all_eq_true.1 hr0 t ht
  have hlt : ∀ p ∈ before, p.block < W.heap.size := fun p hp => hW.lt p hp
  have hW' := hW
  obtain ⟨p, q, hA, hV, rfl, hz, hn⟩ := hW
  have hq : q = [] := by
    rw [hv] at hV
    cases gs with
    | nil => exact hV
    | cons _ _ => exact hV.elim
  subst hq
  have hsz : f.resultTypes.size = 1 := by rw [← Array.length_toList, hres]; rfl
  refine ⟨ds, gs, _, [], p, [], hW', ?_, ?_, ?_, hb.frame _, fun h => by cases h⟩
  · rw [h1, hres, hsz]
    exact trodAll_mk1 (shut_bool hu true)
  · rw [h2]
    exact trodAll_below hl hb _ _ _ _ hr hA (fun x hx => hlt x (by simp [hx]))
  · rw [h3, hv]; exact rfl
end
theorem Tryz.own : ownKnob Tryz.prog.godebug = none := by kernel_rfl
theorem Tryz.laidOut : laidOutB Tryz.prog = true := by kernel_rfl
end Go.Proofs.YtnddfdhfefconaaGreatDoor
