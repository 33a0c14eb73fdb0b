
/- RunSession of the program, whatever the questions answer. -/
import Derived.Test.YtnddfdhfefconaaGreatDoorAns
set_option linter.unusedVariables false
set_option linter.unusedSimpArgs false
namespace Go.Proofs.YtnddfdhfefconaaGreatDoor
open Go.RowKit

/-- The points behind the first k lines. -/
def stN (G : List UInt8 → List Pt → List UInt8) (ls : List (List UInt8)) : Nat → List Pt
  | 0 => []
  | k + 1 => (stepL G (gstr ls k) (stN G ls k)).2
/-- What the first k lines print. -/
def ouN (G : List UInt8 → List Pt → List UInt8) (ls : List (List UInt8)) : Nat → List UInt8
  | 0 => []
  | k + 1 => (ouN G ls k ++ (stepL G (gstr ls k) (stN G ls k)).1) ++ [10]
def runL (G : List UInt8 → List Pt → List UInt8) (ls : List (List UInt8)) : List UInt8 := ouN G ls (min ls.length 30)
theorem stN_ok (G : List UInt8 → List Pt → List UInt8) (ls : List (List UInt8)) : ∀ k, stN G ls k ≠ [] → listOk (stN G ls k) = true
  | 0 => fun h => absurd rfl h
  | k + 1 => stepL_ok (stN_ok G ls k)
def Short (G : List UInt8 → List Pt → List UInt8) : Prop := ∀ l ps, ps ≠ [] → listOk ps = true → (G l ps).length ≤ 100000
theorem step_len {G : List UInt8 → List Pt → List UInt8} (h : Short G) (l : List UInt8) (ps : List Pt) (hok : ps ≠ [] → listOk ps = true) : (stepL G l ps).1.length ≤ 100000 := by
  unfold stepL
  split
  · split <;> simp [sOk, sNo]
  · split
    · rename_i hh
      exact h l ps hh.2 (hok hh.2)
    · simp [sWhat]
theorem ouN_len {G : List UInt8 → List Pt → List UInt8} (h : Short G) (ls : List (List UInt8)) : ∀ k, (ouN G ls k).length ≤ 100001 * k
  | 0 => by simp [ouN]
  | k + 1 => by
    have ih := ouN_len h ls k
    have := step_len h (gstr ls k) (stN G ls k) (stN_ok G ls k)
    rw [ouN, List.length_append, List.length_append]
    simp
    omega
theorem Bld.kept {B b : Nat} {l : List UInt8} {w w' : World} {sb : Nat} (h : Bld B b l w) (hg : w.grownBy w' (some sb)) (hsb : sb < B) : Bld B b l w' := by
  have key : ∀ p, Lib.BuilderAtF 49 5 B b p (Lib.byteCells l) w → Lib.BuilderAtF 49 5 B b p (Lib.byteCells l) w' := fun p ⟨hB, v, hb, hown, hne⟩ => by
    refine ⟨hB, v, (hg.block b (heap_lt hb) (by intro e; injection e with e; omega)).trans hb, hown.kept hg ?_, hne⟩
    refine .inr fun e => ?_
    have := (hown.lt sb e).1
    omega
  rcases h with h | h
  · exact .inl (key _ h)
  · exact .inr (key _ h)
theorem Bld.fresh {B b : Nat} {w : World} (hB : B ≤ b) (h : w.heap[b]? = some (.cells #[.pointer none, .slice none 0 0] 49 (0, 0))) : Bld B b [] w :=
  .inl ⟨hB, _, h, World.ownsRowF_nil _ _ _ _, by simp [Value.ownBlock]⟩
theorem Bld.lt {B b : Nat} {l : List UInt8} {w : World} (h : Bld B b l w) : b < w.heap.size := by
  rcases h with ⟨_, _, h, _⟩ | ⟨_, _, h, _⟩ <;> exact heap_lt h
theorem Sess.others {w w' : World} {base sb B b : Nat} {l : List UInt8} {ps : List Pt} (h : Sess w base sb ps) (hb : Below B w w') (hsb : sb < B) (hk : Lib.OthersKept 5 (some b) w w') (hl : Bld B b l w) : Sess w' base sb ps := by
  obtain ⟨A, n, c, h1, h2, h3, h4, h5⟩ := h
  refine ⟨A, n, c, (hb.block sb hsb).trans h1, h2, h3, h4, fun h0 => ?_⟩
  obtain ⟨g, m, f, hA, hg, hm, ⟨cs, hc, hs, hf⟩, hff⟩ := h5 h0
  refine ⟨g, m, f, hA, hg, hm, ⟨cs, ?_, hs, hf⟩, hff⟩
  refine hk g _ hc ?_ (fun c fz e => by injection e with _ e _; cases e)
  intro e
  injection e with e
  subst e
  rcases hl with ⟨_, v, hh, _⟩ | ⟨_, v, hh, _⟩ <;> (rw [hc] at hh; simp at hh)
set_option maxRecDepth 20000 in
set_option maxHeartbeats 4000000 in
theorem iRun_any (G : List UInt8 → List Pt → List UInt8) (hG : Short G) (ls : List (List UInt8)) (A : Option Addr) (n c : Nat) (w : World) (hn : ls.length = n) (hcap : n ≤ c) (hcm : c ≤ 9223372036854775807) (hl : ∀ l ∈ ls, l.length ≤ 1048576) (hs : StrsAt w w.heap.size A ls) (ht : Tab w) (hE : Errs w) (hM : MaxL w)
    (hC : ∀ k, k < min n 30 → CmdI G (gstr ls k) (stN G ls k) w) :
    Calls Tryz.prog 11 #[.slice A n c] w fun e w' => e = .returned (.string (bS (runL G ls))) ∧ Below w.heap.size w w' := by
  obtain ⟨m, hm⟩ : ∃ m, m = min n 30 := ⟨_, rfl⟩
  have hm1 : m ≤ n := by omega
  have hm2 : m ≤ 30 := by omega
  have eM : min (n : Int) 30 = (m : Int) := by omega
  have RES : Hid (runL G ls = ouN G ls m) := hide (by unfold runL; rw [hn, hm])
  rw [RES.out]
  have CELL : Hid (∀ k, k < m → ∃ b o, A = some ⟨b, o, none⟩ ∧ b < w.heap.size ∧ w.cell? ⟨b, o + k, none⟩ = some (.string (bS (gstr ls k)))) := hide (fun k hk => by
    obtain ⟨b, o, hA, hb, hc⟩ := hs (by omega)
    exact ⟨b, o, hA, hb, hc k (by omega)⟩)
  have LEN : Hid (∀ k, k < m → (gstr ls k).length ≤ 1048576) := hide (fun k hk => hl _ (gstr_mem (by omega)))
  have CM := hide (fun k (hk : k < m) => hC k (by omega))
  have AN := hide (fun (k : Nat) (hk : k < m) (sb : Nat) (W : World) (hb : Below w.heap.size w W) (hS : Sess W w.heap.size sb (stN G ls k)) (hsb : w.heap.size ≤ sb) =>
    iAns_any G (gstr ls k) (stN G ls k) w.heap.size sb W (LEN.out k hk) hS hb.size hsb (ht.to hb) (hE.to hb) (hM.to hb) (fun h0 k' hk' A' n' c' W' hb' h1 h2 h3 h4 h5 => CM.out k hk h0 k' hk' A' n' c' W' (hb.trans (hb'.mono hb.size)) h1 h2 h3 h4 h5))
  have OL := hide (fun k => ouN_len hG ls k)
  have SL := hide (fun k => step_len hG (gstr ls k) (stN G ls k) (stN_ok G ls k))
  have NX : Hid (∀ k, ouN G ls (k + 1) = (ouN G ls k ++ (stepL G (gstr ls k) (stN G ls k)).1) ++ [10] ∧ stN G ls (k + 1) = (stepL G (gstr ls k) (stN G ls k)).2) := hide (fun k => ⟨rfl, rfl⟩)
  have WS := hide wstr_any
  have WB := hide wbyte_any
  have BT := hide bstr_any
  have H0 : Hid (∀ W : World, W = (w.alloc (.cells #[.slice none 0 0] 46)).alloc (.cells #[.pointer none, .slice none 0 0] 49) → W.heap.size = w.heap.size + 2 ∧ Below w.heap.size w W ∧ Sess W w.heap.size w.heap.size (stN G ls 0) ∧ Bld (w.heap.size + 1) (w.heap.size + 1) (ouN G ls 0) W) := hide (fun W hW => by
    subst hW
    refine ⟨by simp, (by (repeat' (first | (with_reducible first | exact Below.refl _ _ | assumption | refine below_ext _ ?_ ?_ | refine Below.alloc ?_ ?_ _ | refine Below.drew ?_ | refine below_drewN ?_ _ | refine le_drewN _ ?_ | refine Below.setCell ?_ ?_ _ | exact Nat.le_refl _ | refine le_ext _ ?_ | refine le_alloc _ ?_ | refine le_setCell _ _ ?_ | refine le_drew ?_) | omega | (simp; done) | (simp; omega)))), ⟨none, 0, 0, (Below.heap_alloc _ _ _ (by simp)).trans (heap_alloc_new _ _), rfl, Nat.le_refl _, by omega, PRow.nil _ _ _⟩, Bld.fresh (Nat.le_refl _) ?_⟩
    have := heap_alloc_new (w.alloc (.cells #[.slice none 0 0] 46)) (.cells #[.pointer none, .slice none 0 0] 49)
    rw [size_alloc] at this
    exact this)
  clear hn hl hs ht hE hM hC hm RES
  go_enter Tryz.func11, Tryz.ntmps11
  go_wp2_with fail
  obtain ⟨W0, hW0⟩ : ∃ W0, W0 = (w.alloc (.cells #[.slice none 0 0] 46)).alloc (.cells #[.pointer none, .slice none 0 0] 49) := ⟨_, rfl⟩
  rw [← hW0]
  obtain ⟨z0, B0, S0, L0⟩ := H0.out W0 hW0
  have S0H := hide S0
  have L0H := hide L0
  clear hW0 H0 S0 L0
  have sbw : w.heap.size < W0.heap.size := by omega
  go_loopw [15] (fun u15 wr => ∃ k : Nat, k ≤ m ∧ u15 = .int .i64 k ∧ Hid (Sess wr w.heap.size w.heap.size (stN G ls k)) ∧ Hid (Bld (w.heap.size + 1) (w.heap.size + 1) (ouN G ls k) wr) ∧ Below w.heap.size w wr) (fun u15 _ => m - (intOf u15).toNat)
  case atStart => exact ⟨0, Nat.zero_le _, rfl, S0H, L0H, B0⟩
  case round =>
    obtain ⟨k, hk, rfl, hS, hL, hbel⟩ := hrel
    have hlb := hL.out.lt
    by_cases hlt : k < m
    · obtain ⟨b1, o1, rfl, hb1, hc1⟩ := CELL.out k hlt
      have hx := (hbel.cell (p := ⟨b1, o1 + k, none⟩) hb1).trans hc1
      have AK := hide (AN.out k hlt w.heap.size wr hbel hS.out (Nat.le_refl _))
      obtain ⟨nx1, nx2⟩ := NX.out k
      have NX1 := hide nx1
      have NX2 := hide nx2
      have ol := OL.out k
      have sl := SL.out k
      have z1 := hbel.size
      have HBL := hide hbel
      clear hc1 nx1 nx2 AN NX OL SL CM LEN CELL
      generalize gstr ls k = l at *
      generalize hst : stepL G l (stN G ls k) = st at *
      clear hst
      obtain ⟨o, ps'⟩ := st
      simp only at AK NX1 NX2 sl
      go_wp2_with fail
      refine AK.out.mono ?_
      rintro e w2 ⟨rfl, hS2, hg2⟩
      have L2 := hide (hL.out.kept hg2 (Nat.lt_succ_self _))
      have S2 := hide hS2
      have z2 := hg2.size
      have B2 := hide (Below.grown HBL.out hg2 HBL.out.size (fun j hj => by cases hj; exact Nat.le_refl _))
      clear hS2 hg2
      go_wp2_with fail
      refine (WS.out (w.heap.size + 1) (w.heap.size + 1) _ o w2 L2.out (by omega) (by omega)).mono ?_
      rintro e w3 ⟨rfl, hL3, hb3, hk3⟩
      have S3 := hide (S2.out.others hb3 (Nat.lt_succ_self _) hk3 L2.out)
      have L3 := hide hL3
      have z3 := hb3.size
      have B3 := hide (B2.out.trans (hb3.mono (Nat.le_succ _)))
      clear hL3 hb3 hk3
      go_wp2_with fail
      refine (WB.out (w.heap.size + 1) (w.heap.size + 1) _ w3 L3.out (by rw [List.length_append]; omega) (by omega)).mono ?_
      rintro e w4 ⟨rfl, hL4, hb4, hk4⟩
      have S4 := hide (S3.out.others hb4 (Nat.lt_succ_self _) hk4 L3.out)
      have L4 := hide hL4
      have B4 := hide (B3.out.trans (hb4.mono (Nat.le_succ _)))
      clear hL4 hb4 hk4
      go_wp2_with fail
      exact ⟨⟨k + 1, by omega, by go_num, hide (by rw [NX2.out]; exact S4.out), hide (by rw [NX1.out]; exact L4.out), B4.out⟩, by simp [intOf]; omega⟩
    · obtain rfl : k = m := by omega
      have z1 := hbel.size
      have BK := hide (BT.out (w.heap.size + 1) (w.heap.size + 1) _ wr hL.out (by omega))
      clear AN NX OL SL CM LEN CELL hS
      go_wp2_with fail
      refine BK.out.mono ?_
      rintro e w5 ⟨rfl, hb5⟩
      have B5 := hide (hbel.trans (hb5.mono (Nat.le_succ _)))
      clear hb5
      go_wp2_with fail
      go_ret
      exact ⟨rfl, B5.out⟩
end Go.Proofs.YtnddfdhfefconaaGreatDoor
