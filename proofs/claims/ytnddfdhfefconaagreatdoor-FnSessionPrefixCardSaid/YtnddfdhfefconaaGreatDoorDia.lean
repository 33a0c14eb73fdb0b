
/- Diameter: the first pair of points with the largest distance, of both. -/
import Derived.Test.YtnddfdhfefconaaGreatDoorCmd
set_option linter.unusedVariables false
set_option linter.unusedSimpArgs false
namespace Go.Proofs.YtnddfdhfefconaaGreatDoor
open Go.RowKit

def sqI (ps : List Pt) (i k : Nat) : Int := (pX ps k - pX ps i) * (pX ps k - pX ps i) + (pY ps k - pY ps i) * (pY ps k - pY ps i)
def dIn (ps : List Pt) (i : Nat) (s : Nat × Nat) : Nat → Nat × Nat
  | 0 => s
  | m + 1 => if sqI ps (dIn ps i s m).1 (dIn ps i s m).2 < sqI ps i (i + 1 + m) then (i, i + 1 + m) else dIn ps i s m
def dOut (ps : List Pt) : Nat → Nat × Nat
  | 0 => (0, 0)
  | i + 1 => dIn ps i (dOut ps i) (ps.length - (i + 1))
def farL (ps : List Pt) : Nat × Nat := dOut ps ps.length
theorem sqI_nn (ps : List Pt) (i k : Nat) : 0 ≤ sqI ps i k := by
  unfold sqI
  have a : ∀ x : Int, 0 ≤ x * x := fun x => by
    rcases Int.le_total 0 x with h | h
    · exact Int.mul_nonneg h h
    · have := Int.mul_nonneg (show 0 ≤ -x by omega) (show 0 ≤ -x by omega)
      rwa [Int.neg_mul_neg] at this
  have := a (pX ps k - pX ps i)
  have := a (pY ps k - pY ps i)
  omega
theorem sqI_same (ps : List Pt) (i : Nat) : sqI ps i i = 0 := by
  unfold sqI
  rw [Int.sub_self, Int.sub_self]; rfl
theorem dIn_lt {ps : List Pt} {i : Nat} {s : Nat × Nat} (hs : s.1 < ps.length ∧ s.2 < ps.length) : ∀ m, i + 1 + m ≤ ps.length → (dIn ps i s m).1 < ps.length ∧ (dIn ps i s m).2 < ps.length
  | 0, _ => hs
  | m + 1, h => by
    unfold dIn
    split
    · exact ⟨by show i < _; omega, by show i + 1 + m < _; omega⟩
    · exact dIn_lt hs m (by omega)
theorem dOut_lt {ps : List Pt} (h0 : 0 < ps.length) : ∀ i, i ≤ ps.length → (dOut ps i).1 < ps.length ∧ (dOut ps i).2 < ps.length
  | 0, _ => ⟨h0, h0⟩
  | i + 1, h => dIn_lt (dOut_lt h0 i (by omega)) _ (by omega)
theorem dIn_next {ps : List Pt} {i k a b : Nat} {s : Nat × Nat} (hk : i + 1 ≤ k) (h : dIn ps i s (k - (i + 1)) = (a, b)) : dIn ps i s (k + 1 - (i + 1)) = if sqI ps a b < sqI ps i k then (i, k) else (a, b) := by
  rw [show k + 1 - (i + 1) = (k - (i + 1)) + 1 by omega, dIn, h, show i + 1 + (k - (i + 1)) = k by omega]
theorem sqI_bd {ps : List Pt} (hb : ∀ p ∈ ps, (-1000 ≤ p.x ∧ p.x ≤ 1000) ∧ -1000 ≤ p.y ∧ p.y ≤ 1000) {i k : Nat} (hi : i < ps.length) (hk : k < ps.length) : sqI ps i k ≤ 8000000 := by
  obtain ⟨⟨p1, p2⟩, p3, p4⟩ := hb _ (gp_mem hi)
  obtain ⟨⟨p5, p6⟩, p7, p8⟩ := hb _ (gp_mem hk)
  unfold sqI pX pY
  have m1 := mul_bd (M := 2000) (N := 2000) (a := (gp ps k).x - (gp ps i).x) (b := (gp ps k).x - (gp ps i).x) ⟨by omega, by omega⟩ ⟨by omega, by omega⟩
  have m2 := mul_bd (M := 2000) (N := 2000) (a := (gp ps k).y - (gp ps i).y) (b := (gp ps k).y - (gp ps i).y) ⟨by omega, by omega⟩ ⟨by omega, by omega⟩
  omega
/-- How the program's state stands to the reference's. -/
def DRel (ps : List Pt) (s : Nat × Nat) (a b : Nat) (z : Int) : Prop := (z < 0 ∧ s = (0, 0)) ∨ (z = 0 ∧ s = (0, 0)) ∨ (0 < z ∧ s = (a, b) ∧ z = sqI ps a b)
theorem DRel.yes {ps : List Pt} {s : Nat × Nat} {a b i k : Nat} {z : Int} (h : DRel ps s a b z) (hz : z < 0 ∨ z < sqI ps i k) : DRel ps (if sqI ps s.1 s.2 < sqI ps i k then (i, k) else s) i k (sqI ps i k) := by
  have n := sqI_nn ps i k
  rcases h with ⟨h1, rfl⟩ | ⟨h1, rfl⟩ | ⟨h1, rfl, h2⟩
  · rw [sqI_same]
    by_cases h : 0 < sqI ps i k
    · rw [if_pos h]; exact .inr (.inr ⟨h, rfl, rfl⟩)
    · rw [if_neg h]; exact .inr (.inl ⟨by omega, rfl⟩)
  · rw [sqI_same]
    have h : 0 < sqI ps i k := by omega
    rw [if_pos h]; exact .inr (.inr ⟨h, rfl, rfl⟩)
  · have h : sqI ps a b < sqI ps i k := by omega
    rw [if_pos h]; exact .inr (.inr ⟨by omega, rfl, rfl⟩)
theorem DRel.no {ps : List Pt} {s : Nat × Nat} {a b i k : Nat} {z : Int} (h : DRel ps s a b z) (h1 : ¬ z < 0) (h2 : ¬ z < sqI ps i k) : DRel ps (if sqI ps s.1 s.2 < sqI ps i k then (i, k) else s) a b z := by
  rcases h with ⟨h3, rfl⟩ | ⟨h3, rfl⟩ | ⟨h3, rfl, h4⟩
  · omega
  · rw [sqI_same, if_neg (by omega)]; exact .inr (.inl ⟨h3, rfl⟩)
  · rw [if_neg (by show ¬ sqI ps a b < _; omega)]; exact .inr (.inr ⟨h3, rfl, h4⟩)
theorem DRel.bd {ps : List Pt} {s : Nat × Nat} {a b : Nat} {z : Int} (h : DRel ps s a b z) : s = if z ≤ 0 then (0, 0) else (a, b) := by
  rcases h with ⟨h3, rfl⟩ | ⟨h3, rfl⟩ | ⟨h3, rfl, h4⟩
  · rw [if_pos (by omega)]
  · rw [if_pos (by omega)]
  · rw [if_neg (by omega)]
theorem DRel.val {ps : List Pt} {s : Nat × Nat} {a b : Nat} {z : Int} (h : DRel ps s a b z) : (if z ≤ 0 then 0 else z) = sqI ps s.1 s.2 := by
  rcases h with ⟨h3, rfl⟩ | ⟨h3, rfl⟩ | ⟨h3, rfl, h4⟩
  · rw [if_pos (by omega), sqI_same]
  · rw [if_pos (by omega), sqI_same]
  · rw [if_neg (by omega)]; exact h4
set_option maxHeartbeats 4000000 in
theorem sfarthest_any (ps : List Pt) (A : Option Addr) (n c : Nat) (w : World) (hn : ps.length = n) (hm : n ≤ 20) (h0 : 0 < n) (hb : ∀ p ∈ ps, (-1000 ≤ p.x ∧ p.x ≤ 1000) ∧ -1000 ≤ p.y ∧ p.y ≤ 1000) (hs : PtsAt w w.heap.size A ps) :
    Calls Tryz.prog 62 #[.slice A n c] w fun e w' => e = .returned (.tuple #[.int .i64 ((farL ps).1 : Nat), .int .i64 ((farL ps).2 : Nat)]) ∧ ∃ x, w' = ext w x := by
  have HN := hide hn
  have HB := hide hb
  have HS := hide hs
  have HF : Hid (farL ps = dOut ps n) := hide (by unfold farL; rw [hn])
  have BO := hide (fun i (hi : i ≤ n) => dOut_lt (ps := ps) (by omega) i (by omega))
  have OS : Hid (∀ i, dOut ps (i + 1) = dIn ps i (dOut ps i) (n - (i + 1))) := hide (fun i => by rw [← hn]; rfl)
  have NX := hide (fun (i k a b : Nat) (s : Nat × Nat) (hk : i + 1 ≤ k) h => @dIn_next ps i k a b s hk h)
  clear hn hb hs
  go_enter Tryz.func62, Tryz.ntmps62
  go_wp2
  go_loopw [4, 5, 6] (fun u4 u5 u6 wr => ∃ i a b : Nat, i ≤ n ∧ a < n ∧ b < n ∧ u6 = .int .i64 i ∧ u4 = .int .i64 a ∧ u5 = .int .i64 b ∧ Hid (dOut ps i = (a, b)) ∧ Below w.heap.size w wr) (fun _ _ u6 _ => n - (intOf u6).toNat)
  case atStart => exact ⟨0, 0, 0, Nat.zero_le _, h0, h0, rfl, rfl, rfl, hide rfl, Below.refl _ _⟩
  case round =>
    obtain ⟨i, a0, b0, hi, ha, hbb, rfl, rfl, rfl, HD, hbel0⟩ := hrel
    by_cases hlt : i < n
    · go_wp2
      obtain ⟨W0, hW0⟩ : ∃ W0, W0 = wr := ⟨_, rfl⟩
      subst hW0
      go_loopw [4, 5, 7] (fun u4 u5 u7 wr => ∃ k a b : Nat, i + 1 ≤ k ∧ k ≤ n ∧ a < n ∧ b < n ∧ u7 = .int .i64 k ∧ u4 = .int .i64 a ∧ u5 = .int .i64 b ∧ Hid (dIn ps i (dOut ps i) (k - (i + 1)) = (a, b)) ∧ Below w.heap.size w wr) (fun _ _ u7 _ => n - (intOf u7).toNat)
      case atStart => exact ⟨i + 1, a0, b0, Nat.le_refl _, hlt, ha, hbb, by go_num, rfl, rfl, hide (by rw [Nat.sub_self]; exact HD.out), hbel0⟩
      case round =>
        obtain ⟨k, a, b', hik, hk, ha1, hb1, rfl, rfl, rfl, HI, hbel⟩ := hrel
        have hsz := hbel.size
        by_cases hkn : k < n
        · obtain ⟨b, o, rfl, hb, hcs⟩ := HS.out (by rw [HN.out]; omega)
          have gix := (hbel.cell (p := ⟨b, o + i * 2, none⟩) hb).trans (hcs i (by rw [HN.out]; omega)).1
          have giy := (hbel.cell (p := ⟨b, o + i * 2 + 1, none⟩) hb).trans (hcs i (by rw [HN.out]; omega)).2
          obtain ⟨⟨p1, p2⟩, p3, p4⟩ := HB.out _ (gp_mem (show i < ps.length by rw [HN.out]; omega))
          have pa : -100000 ≤ (pX ps i) ∧ (pX ps i) ≤ 100000 := ⟨by unfold pX; omega, by unfold pX; omega⟩
          have pb : -100000 ≤ (pY ps i) ∧ (pY ps i) ≤ 100000 := ⟨by unfold pY; omega, by unfold pY; omega⟩
          clear p1 p2 p3 p4
          have gkx := (hbel.cell (p := ⟨b, o + k * 2, none⟩) hb).trans (hcs k (by rw [HN.out]; omega)).1
          have gky := (hbel.cell (p := ⟨b, o + k * 2 + 1, none⟩) hb).trans (hcs k (by rw [HN.out]; omega)).2
          obtain ⟨⟨q1, q2⟩, q3, q4⟩ := HB.out _ (gp_mem (show k < ps.length by rw [HN.out]; omega))
          have qa : -100000 ≤ (pX ps k) ∧ (pX ps k) ≤ 100000 := ⟨by unfold pX; omega, by unfold pX; omega⟩
          have qb : -100000 ≤ (pY ps k) ∧ (pY ps k) ≤ 100000 := ⟨by unfold pY; omega, by unfold pY; omega⟩
          clear q1 q2 q3 q4
          have gax := (hbel.cell (p := ⟨b, o + a * 2, none⟩) hb).trans (hcs a (by rw [HN.out]; omega)).1
          have gay := (hbel.cell (p := ⟨b, o + a * 2 + 1, none⟩) hb).trans (hcs a (by rw [HN.out]; omega)).2
          obtain ⟨⟨r1, r2⟩, r3, r4⟩ := HB.out _ (gp_mem (show a < ps.length by rw [HN.out]; omega))
          have ra : -100000 ≤ (pX ps a) ∧ (pX ps a) ≤ 100000 := ⟨by unfold pX; omega, by unfold pX; omega⟩
          have rb : -100000 ≤ (pY ps a) ∧ (pY ps a) ≤ 100000 := ⟨by unfold pY; omega, by unfold pY; omega⟩
          clear r1 r2 r3 r4
          have gbx := (hbel.cell (p := ⟨b, o + b' * 2, none⟩) hb).trans (hcs b' (by rw [HN.out]; omega)).1
          have gby := (hbel.cell (p := ⟨b, o + b' * 2 + 1, none⟩) hb).trans (hcs b' (by rw [HN.out]; omega)).2
          obtain ⟨⟨s1, s2⟩, s3, s4⟩ := HB.out _ (gp_mem (show b' < ps.length by rw [HN.out]; omega))
          have sa : -100000 ≤ (pX ps b') ∧ (pX ps b') ≤ 100000 := ⟨by unfold pX; omega, by unfold pX; omega⟩
          have sb : -100000 ≤ (pY ps b') ∧ (pY ps b') ≤ 100000 := ⟨by unfold pY; omega, by unfold pY; omega⟩
          clear s1 s2 s3 s4
          have nx := NX.out i k a b' _ hik HI.out
          have SA : Hid (sqI ps a b' = (pX ps b' - pX ps a) * (pX ps b' - pX ps a) + (pY ps b' - pY ps a) * (pY ps b' - pY ps a)) := hide rfl
          have SI : Hid (sqI ps i k = (pX ps k - pX ps i) * (pX ps k - pX ps i) + (pY ps k - pY ps i) * (pY ps k - pY ps i)) := hide rfl
          have q1 : (i : Int) < (n : Int) := by omega
          have q2 : (k : Int) < (n : Int) := by omega
          have q3 : (a : Int) < (n : Int) := by omega
          have q4 : (b' : Int) < (n : Int) := by omega
          have q5 : (0 : Int) ≤ (i : Int) := by omega
          have q6 : (0 : Int) ≤ (k : Int) := by omega
          have q7 : (0 : Int) ≤ (a : Int) := by omega
          have q8 : (0 : Int) ≤ (b' : Int) := by omega
          by_cases hc : sqI ps a b' < sqI ps i k
          · rw [if_pos hc] at nx
            rw [SA.out, SI.out] at hc
            have NXH := hide nx
            clear nx SA SI hcs HI HD HF OS NX BO
            generalize pX ps i = X1 at *
            generalize pY ps i = Y1 at *
            generalize pX ps k = X2 at *
            generalize pY ps k = Y2 at *
            generalize pX ps a = X3 at *
            generalize pY ps a = Y3 at *
            generalize pX ps b' = X4 at *
            generalize pY ps b' = Y4 at *
            go_wp2_with fail
            refine wp_region_ext (by kernel_rfl) (by kernel_rfl) ?_
            repeat (go_big_quiet_step ((first | (go_at_call 64; exact Calls.in_ext (ssquare_any _ _ _ _ _ (by omega) (by omega) (by omega) (by omega))))))
            refine wpQuiet_nil ?_
            rintro _ hnq
            have hzq := ext_sz hnq
            obtain ⟨nq, rfl⟩ := hnq
            (try simp at hzq)
            go_wp2_with fail
            exact ⟨⟨k + 1, i, k, by omega, hkn, hlt, hkn, by go_num, rfl, rfl, NXH, Below.trans hbel (by (repeat' (first | (with_reducible first | exact Below.refl _ _ | assumption | refine below_ext _ ?_ ?_ | refine Below.alloc ?_ ?_ _ | refine Below.drew ?_ | refine below_drewN ?_ _ | refine le_drewN _ ?_ | refine Below.setCell ?_ ?_ _ | exact Nat.le_refl _ | refine le_ext _ ?_ | refine le_alloc _ ?_ | refine le_setCell _ _ ?_ | refine le_drew ?_) | omega | (simp; done) | (simp; omega))))⟩, by simp [intOf]; omega⟩
          · rw [if_neg hc] at nx
            rw [SA.out, SI.out] at hc
            have NXH := hide nx
            clear nx SA SI hcs HI HD HF OS NX BO
            generalize pX ps i = X1 at *
            generalize pY ps i = Y1 at *
            generalize pX ps k = X2 at *
            generalize pY ps k = Y2 at *
            generalize pX ps a = X3 at *
            generalize pY ps a = Y3 at *
            generalize pX ps b' = X4 at *
            generalize pY ps b' = Y4 at *
            go_wp2_with fail
            refine wp_region_ext (by kernel_rfl) (by kernel_rfl) ?_
            repeat (go_big_quiet_step ((first | (go_at_call 64; exact Calls.in_ext (ssquare_any _ _ _ _ _ (by omega) (by omega) (by omega) (by omega))))))
            refine wpQuiet_nil ?_
            rintro _ hnq
            have hzq := ext_sz hnq
            obtain ⟨nq, rfl⟩ := hnq
            (try simp at hzq)
            go_wp2_with fail
            exact ⟨⟨k + 1, a, b', by omega, hkn, ha1, hb1, by go_num, rfl, rfl, NXH, Below.trans hbel (by (repeat' (first | (with_reducible first | exact Below.refl _ _ | assumption | refine below_ext _ ?_ ?_ | refine Below.alloc ?_ ?_ _ | refine Below.drew ?_ | refine below_drewN ?_ _ | refine le_drewN _ ?_ | refine Below.setCell ?_ ?_ _ | exact Nat.le_refl _ | refine le_ext _ ?_ | refine le_alloc _ ?_ | refine le_setCell _ _ ?_ | refine le_drew ?_) | omega | (simp; done) | (simp; omega))))⟩, by simp [intOf]; omega⟩
        · have ek : k = n := by omega
          have HD2 : Hid (dOut ps (i + 1) = (a, b')) := hide (by rw [OS.out, ← ek]; exact HI.out)
          clear ek HI HD OS NX HF BO
          go_wp2
          exact ⟨⟨i + 1, a, b', hlt, ha1, hb1, by go_num, rfl, rfl, HD2, hbel⟩, by simp [intOf]; omega⟩
    · have e1 : i = n := by omega
      have HR : Hid (farL ps = (a0, b0)) := hide (by rw [HF.out, ← e1]; exact HD.out)
      clear e1 OS NX BO HF
      go_wp2
      ((try simp only [Exit.inBlock, Exit.then]); refine bodyPost_ret (by simp [results, Tryz.results62, go_sem, ↓IntWalk.iteOmega]; try rfl) rfl ?_)
      exact ⟨by rw [HR.out], ext_mk hbel0⟩
set_option maxHeartbeats 400000 in
theorem dia1_any (x y : Int) (w : World) : Calls Tryz.prog 139 #[.int .i64 x, .int .i64 y] w fun e w' => e = .returned (.bool (decide (y < x))) ∧ w = w' := by
  go_enter Tryz.func139, Tryz.ntmps139
  go_wp2
  go_ret
  exact ⟨rfl, rfl⟩
set_option maxHeartbeats 4000000 in
theorem bestPair_any (ps : List Pt) (A : Option Addr) (n c : Nat) (w : World) (hn : ps.length = n) (hm : n ≤ 20) (h0 : 0 < n) (hb : ∀ p ∈ ps, (-1000 ≤ p.x ∧ p.x ≤ 1000) ∧ -1000 ≤ p.y ∧ p.y ≤ 1000) (hs : PtsAt w w.heap.size A ps) :
    Calls Tryz.prog 138 #[.slice A n c, .func (.func 139) #[] #[]] w fun e w' => ∃ (a b : Nat) (z : Int), e = .returned (.tuple #[.int .i64 a, .int .i64 b, .int .i64 z]) ∧ DRel ps (farL ps) a b z ∧ ∃ x, w' = ext w x := by
  have HN := hide hn
  have HB := hide hb
  have HS := hide hs
  have HF : Hid (farL ps = dOut ps n) := hide (by unfold farL; rw [hn])
  have OS : Hid (∀ i, dOut ps (i + 1) = dIn ps i (dOut ps i) (n - (i + 1))) := hide (fun i => by rw [← hn]; rfl)
  have NX := hide (fun (i k : Nat) (s : Nat × Nat) (hk : i + 1 ≤ k) => @dIn_next ps i k (dIn ps i s (k - (i + 1))).1 (dIn ps i s (k - (i + 1))).2 s hk rfl)
  have eg := enters _ Tryz.func139 (by kernel_rfl) rfl
  have D1 := hide dia1_any
  have BD := hide (fun (i k : Nat) (hi : i < n) (hk : k < n) => @sqI_bd ps hb i k (by omega) (by omega))
  have NN := hide (sqI_nn ps)
  clear hn hb hs
  go_enter Tryz.func138, Tryz.ntmps138
  go_wp2
  go_loopw [7, 8, 9, 15] (fun u7 u8 u9 u15 wr => ∃ (i a b : Nat) (z : Int), i ≤ n ∧ -1 ≤ z ∧ z ≤ 8000000 ∧ u15 = .int .i64 i ∧ u7 = .int .i64 a ∧ u8 = .int .i64 b ∧ u9 = .int .i64 z ∧ Hid (DRel ps (dOut ps i) a b z) ∧ Below w.heap.size w wr) (fun _ _ _ u15 _ => n - (intOf u15).toNat)
  case atStart => exact ⟨0, 0, 0, -1, Nat.zero_le _, by omega, by omega, rfl, rfl, rfl, rfl, hide (.inl ⟨by omega, rfl⟩), Below.refl _ _⟩
  case round =>
    obtain ⟨i, a0, b0, z0, hi, hz1, hz2, rfl, rfl, rfl, rfl, HD, hbel0⟩ := hrel
    by_cases hlt : i < n
    · go_wp2
      obtain ⟨W0, hW0⟩ : ∃ W0, W0 = wr := ⟨_, rfl⟩
      subst hW0
      go_loopw [7, 8, 9, 11] (fun u7 u8 u9 u11 wr => ∃ (k a b : Nat) (z : Int), i + 1 ≤ k ∧ k ≤ n ∧ -1 ≤ z ∧ z ≤ 8000000 ∧ u11 = .int .i64 k ∧ u7 = .int .i64 a ∧ u8 = .int .i64 b ∧ u9 = .int .i64 z ∧ Hid (DRel ps (dIn ps i (dOut ps i) (k - (i + 1))) a b z) ∧ Below w.heap.size w wr) (fun _ _ _ u11 _ => n - (intOf u11).toNat)
      case atStart => exact ⟨i + 1, a0, b0, z0, Nat.le_refl _, hlt, hz1, hz2, by go_num, rfl, rfl, rfl, hide (by rw [Nat.sub_self]; exact HD.out), hbel0⟩
      case round =>
        obtain ⟨k, a, b', z, hik, hk, hz3, hz4, rfl, rfl, rfl, rfl, HI, hbel⟩ := hrel
        have hsz := hbel.size
        by_cases hkn : k < n
        · obtain ⟨b, o, rfl, hb, hcs⟩ := HS.out (by rw [HN.out]; omega)
          have gix := (hbel.cell (p := ⟨b, o + i * 2, none⟩) hb).trans (hcs i (by rw [HN.out]; omega)).1
          have giy := (hbel.cell (p := ⟨b, o + i * 2 + 1, none⟩) hb).trans (hcs i (by rw [HN.out]; omega)).2
          obtain ⟨⟨p1, p2⟩, p3, p4⟩ := HB.out _ (gp_mem (show i < ps.length by rw [HN.out]; omega))
          have pa : -100000 ≤ (pX ps i) ∧ (pX ps i) ≤ 100000 := ⟨by unfold pX; omega, by unfold pX; omega⟩
          have pb : -100000 ≤ (pY ps i) ∧ (pY ps i) ≤ 100000 := ⟨by unfold pY; omega, by unfold pY; omega⟩
          clear p1 p2 p3 p4
          have gkx := (hbel.cell (p := ⟨b, o + k * 2, none⟩) hb).trans (hcs k (by rw [HN.out]; omega)).1
          have gky := (hbel.cell (p := ⟨b, o + k * 2 + 1, none⟩) hb).trans (hcs k (by rw [HN.out]; omega)).2
          obtain ⟨⟨q1, q2⟩, q3, q4⟩ := HB.out _ (gp_mem (show k < ps.length by rw [HN.out]; omega))
          have qa : -100000 ≤ (pX ps k) ∧ (pX ps k) ≤ 100000 := ⟨by unfold pX; omega, by unfold pX; omega⟩
          have qb : -100000 ≤ (pY ps k) ∧ (pY ps k) ≤ 100000 := ⟨by unfold pY; omega, by unfold pY; omega⟩
          clear q1 q2 q3 q4
          have nx := NX.out i k (dOut ps i) hik
          have SI : Hid (sqI ps i k = (pX ps k - pX ps i) * (pX ps k - pX ps i) + (pY ps k - pY ps i) * (pY ps k - pY ps i)) := hide rfl
          have q1 : (i : Int) < (n : Int) := by omega
          have q2 : (k : Int) < (n : Int) := by omega
          have q5 : (0 : Int) ≤ (i : Int) := by omega
          have q6 : (0 : Int) ≤ (k : Int) := by omega
          have nn := NN.out i k
          have bd := BD.out i k hlt hkn
          by_cases hc : z < 0 ∨ z < sqI ps i k
          · have RR : Hid (DRel ps (dIn ps i (dOut ps i) (k + 1 - (i + 1))) i k (sqI ps i k)) := hide (by rw [nx]; exact HI.out.yes hc)
            have FR : Hid (sqI ps i k = (pX ps k - pX ps i) * (pX ps k - pX ps i) + (pY ps k - pY ps i) * (pY ps k - pY ps i)) := SI
            rw [SI.out] at hc nn bd RR
            clear nx SI FR hcs HI HD HF OS NX NN BD
            by_cases hc1 : z < 0
            · clear hc
              generalize pX ps i = X1 at *
              generalize pY ps i = Y1 at *
              generalize pX ps k = X2 at *
              generalize pY ps k = Y2 at *
              go_wp2_with fail
              refine wp_region_ext (by kernel_rfl) (by kernel_rfl) ?_
              repeat (go_big_quiet_step ((first | (go_at_call 188; exact Calls.in_ext (far_any _ _ _ _ _ (by omega) (by omega) (by omega) (by omega))))))
              refine wpQuiet_nil ?_
              rintro _ hnq
              have hzq := ext_sz hnq
              obtain ⟨nq, rfl⟩ := hnq
              (try simp at hzq)
              go_wp2_with fail
              exact ⟨⟨k + 1, i, k, _, by omega, hkn, by omega, bd, by go_num, rfl, rfl, rfl, RR, Below.trans hbel (by (repeat' (first | (with_reducible first | exact Below.refl _ _ | assumption | refine below_ext _ ?_ ?_ | refine Below.alloc ?_ ?_ _ | refine Below.drew ?_ | refine below_drewN ?_ _ | refine le_drewN _ ?_ | refine Below.setCell ?_ ?_ _ | exact Nat.le_refl _ | refine le_ext _ ?_ | refine le_alloc _ ?_ | refine le_setCell _ _ ?_ | refine le_drew ?_) | omega | (simp; done) | (simp; omega))))⟩, by simp [intOf]; omega⟩
            · have hc2 := hc.resolve_left hc1
              clear hc
              generalize pX ps i = X1 at *
              generalize pY ps i = Y1 at *
              generalize pX ps k = X2 at *
              generalize pY ps k = Y2 at *
              go_wp2_with fail
              refine wp_region_ext (by kernel_rfl) (by kernel_rfl) ?_
              repeat (go_big_quiet_step ((first | (go_at_call 188; exact Calls.in_ext (far_any _ _ _ _ _ (by omega) (by omega) (by omega) (by omega))))))
              refine wpQuiet_nil ?_
              rintro _ hnq
              have hzq := ext_sz hnq
              obtain ⟨nq, rfl⟩ := hnq
              (try simp at hzq)
              go_wp2_with fail
              refine (D1.out _ _ _).mono ?_
              rintro e w' ⟨rfl, rfl⟩
              go_wp2_with fail
              exact ⟨⟨k + 1, i, k, _, by omega, hkn, by omega, bd, by go_num, rfl, rfl, rfl, RR, Below.trans hbel (by (repeat' (first | (with_reducible first | exact Below.refl _ _ | assumption | refine below_ext _ ?_ ?_ | refine Below.alloc ?_ ?_ _ | refine Below.drew ?_ | refine below_drewN ?_ _ | refine le_drewN _ ?_ | refine Below.setCell ?_ ?_ _ | exact Nat.le_refl _ | refine le_ext _ ?_ | refine le_alloc _ ?_ | refine le_setCell _ _ ?_ | refine le_drew ?_) | omega | (simp; done) | (simp; omega))))⟩, by simp [intOf]; omega⟩
          · have hc1 : ¬ z < 0 := fun h => hc (.inl h)
            have hc2 : ¬ z < sqI ps i k := fun h => hc (.inr h)
            have RR : Hid (DRel ps (dIn ps i (dOut ps i) (k + 1 - (i + 1))) a b' z) := hide (by rw [nx]; exact HI.out.no hc1 hc2)
            rw [SI.out] at hc2 nn bd
            clear hc nx SI hcs HI HD HF OS NX NN BD
            generalize pX ps i = X1 at *
            generalize pY ps i = Y1 at *
            generalize pX ps k = X2 at *
            generalize pY ps k = Y2 at *
            go_wp2_with fail
            refine wp_region_ext (by kernel_rfl) (by kernel_rfl) ?_
            repeat (go_big_quiet_step ((first | (go_at_call 188; exact Calls.in_ext (far_any _ _ _ _ _ (by omega) (by omega) (by omega) (by omega))))))
            refine wpQuiet_nil ?_
            rintro _ hnq
            have hzq := ext_sz hnq
            obtain ⟨nq, rfl⟩ := hnq
            (try simp at hzq)
            go_wp2_with fail
            refine (D1.out _ _ _).mono ?_
            rintro e w' ⟨rfl, rfl⟩
            go_wp2_with fail
            exact ⟨⟨k + 1, a, b', z, by omega, hkn, hz3, hz4, by go_num, rfl, rfl, rfl, RR, Below.trans hbel (by (repeat' (first | (with_reducible first | exact Below.refl _ _ | assumption | refine below_ext _ ?_ ?_ | refine Below.alloc ?_ ?_ _ | refine Below.drew ?_ | refine below_drewN ?_ _ | refine le_drewN _ ?_ | refine Below.setCell ?_ ?_ _ | exact Nat.le_refl _ | refine le_ext _ ?_ | refine le_alloc _ ?_ | refine le_setCell _ _ ?_ | refine le_drew ?_) | omega | (simp; done) | (simp; omega))))⟩, by simp [intOf]; omega⟩
        · have ek : k = n := by omega
          have HD2 : Hid (DRel ps (dOut ps (i + 1)) a b' z) := hide (by rw [OS.out, ← ek]; exact HI.out)
          clear ek HI HD OS NX HF
          go_wp2
          exact ⟨⟨i + 1, a, b', z, hlt, hz3, hz4, by go_num, rfl, rfl, rfl, HD2, hbel⟩, by simp [intOf]; omega⟩
    · have e1 : i = n := by omega
      have HR : Hid (DRel ps (farL ps) a0 b0 z0) := hide (by rw [HF.out, ← e1]; exact HD.out)
      clear e1 OS NX HF
      go_wp2
      ((try simp only [Exit.inBlock, Exit.then]); refine bodyPost_ret (by simp [results, Tryz.results138, go_sem, ↓IntWalk.iteOmega]; try rfl) rfl ?_)
      exact ⟨a0, b0, z0, rfl, HR.out, ext_mk hbel0⟩
theorem ints3 (W : World) (x y z : Int) : IntsAt (W.alloc (.cells #[.int .i64 x, .int .i64 y, .int .i64 z] 3)) (W.alloc (.cells #[.int .i64 x, .int .i64 y, .int .i64 z] 3)).heap.size (some ⟨W.heap.size, 0, none⟩) [x, y, z] := fun _ =>
  ⟨W.heap.size, 0, rfl, by simp, fun i hi => by
    have hi : i < 3 := hi
    match i, hi with
    | 0, _ => exact (heap_cell (heap_alloc_new W _) 0).trans rfl
    | 1, _ => exact (heap_cell (heap_alloc_new W _) 1).trans rfl
    | 2, _ => exact (heap_cell (heap_alloc_new W _) 2).trans rfl⟩
/-- The text of the diameter. -/
def diaT (ps : List Pt) : List UInt8 := intsT [((farL ps).1 : Int), ((farL ps).2 : Int), sqI ps (farL ps).1 (farL ps).2]
theorem dia_big {ps : List Pt} (h0 : ps ≠ []) (hok : listOk ps = true) : Big [((farL ps).1 : Int), ((farL ps).2 : Int), sqI ps (farL ps).1 (farL ps).2] := by
  have hl : 0 < ps.length := List.length_pos_iff.2 h0
  obtain ⟨h1, h2⟩ := listOk_1 hok
  obtain ⟨f1, f2⟩ : (farL ps).1 < ps.length ∧ (farL ps).2 < ps.length := dOut_lt hl _ (Nat.le_refl _)
  have b1 := sqI_bd (ps := ps) (fun p hp => ok_bd (h2 p hp)) f1 f2
  have b2 := sqI_nn ps (farL ps).1 (farL ps).2
  intro y hy
  simp at hy
  rcases hy with e | e | e <;> (rw [e]; omega)
theorem dia_len (ps : List Pt) (h0 : ps ≠ []) (hok : listOk ps = true) : (diaT ps).length ≤ 100000 := by
  have := intsT_len (dia_big h0 hok)
  unfold diaT
  simp at this ⊢
  omega
set_option maxHeartbeats 1000000 in
theorem iDia_any (ps : List Pt) (A : Option Addr) (n c : Nat) (w : World) (hn : ps.length = n) (h0 : ps ≠ []) (hok : listOk ps = true) (hs : PtsAt w w.heap.size A ps) :
    Calls Tryz.prog 95 #[.slice A n c] w fun e w' => e = .returned (.tuple #[.int .i64 ((farL ps).1 : Nat), .int .i64 ((farL ps).2 : Nat), .int .i64 (sqI ps (farL ps).1 (farL ps).2)]) ∧ ∃ x, w' = ext w x := by
  obtain ⟨h1, h2⟩ := listOk_1 hok
  have hl : 0 < n := by rw [← hn]; exact List.length_pos_iff.2 h0
  have LO := hide (listOk_any ps A n c w hn (by omega) hs)
  rw [hok] at LO
  have BP := hide (fun (W : World) (hb : Below w.heap.size w W) => bestPair_any ps A n c W hn (by omega) hl (fun p hp => ok_bd (h2 p hp)) (hs.to hb))
  have bz : ((n : Int) == 0) = false := by rw [beq_eq_false_iff_ne]; omega
  clear hn h0 hok hs h1 h2
  go_enter Tryz.func95, Tryz.ntmps95
  go_wp2_with fail
  refine LO.out.mono ?_
  rintro e w' ⟨rfl, hw'⟩; have hzy1 := ext_sz hw'; obtain ⟨y1, rfl⟩ := hw'; (try simp at hzy1)
  go_wp2_with fail
  refine (BP.out _ (by (repeat' (first | (with_reducible first | exact Below.refl _ _ | assumption | refine below_ext _ ?_ ?_ | refine Below.alloc ?_ ?_ _ | refine Below.drew ?_ | refine below_drewN ?_ _ | refine le_drewN _ ?_ | refine Below.setCell ?_ ?_ _ | exact Nat.le_refl _ | refine le_ext _ ?_ | refine le_alloc _ ?_ | refine le_setCell _ _ ?_ | refine le_drew ?_) | omega | (simp; done) | (simp; omega))))).mono ?_
  rintro e w2 ⟨a, b, z, rfl, hR, hx⟩
  have hv := hR.val
  have hbd := hR.bd
  have B2 := hide ((show Below w.heap.size w (ext w y1) from (by (repeat' (first | (with_reducible first | exact Below.refl _ _ | assumption | refine below_ext _ ?_ ?_ | refine Below.alloc ?_ ?_ _ | refine Below.drew ?_ | refine below_drewN ?_ _ | refine le_drewN _ ?_ | refine Below.setCell ?_ ?_ _ | exact Nat.le_refl _ | refine le_ext _ ?_ | refine le_alloc _ ?_ | refine le_setCell _ _ ?_ | refine le_drew ?_) | omega | (simp; done) | (simp; omega))))).trans ((ext_bel hx).mono (by first | omega | (simp; done) | (simp; omega))))
  clear hx BP LO hR
  by_cases hz : z ≤ 0
  · rw [if_pos hz] at hv hbd
    have EV := hide hv
    have EB := hide hbd
    clear hv hbd
    go_wp2_with fail
    ((try simp only [Exit.inBlock, Exit.then]); refine bodyPost_ret (by simp [results, Tryz.results95, go_sem, ↓IntWalk.iteOmega]; try rfl) rfl ?_)
    exact ⟨by rw [← EV.out, EB.out]; rfl, ext_mk B2.out⟩
  · rw [if_neg hz] at hv hbd
    have EV := hide hv
    have EB := hide hbd
    clear hv hbd
    go_wp2_with fail
    ((try simp only [Exit.inBlock, Exit.then]); refine bodyPost_ret (by simp [results, Tryz.results95, go_sem, ↓IntWalk.iteOmega]; try rfl) rfl ?_)
    exact ⟨by rw [← EV.out, EB.out], ext_mk B2.out⟩
set_option maxHeartbeats 1000000 in
theorem q5_any (ps : List Pt) (A : Option Addr) (n c : Nat) (w : World) (hn : ps.length = n) (h0 : ps ≠ []) (hok : listOk ps = true) (hs : PtsAt w w.heap.size A ps) (ht : Tab w) :
    Calls Tryz.prog 94 #[.slice A n c] w fun e w' => e = .returned (.string (bS (diaT ps))) ∧ ∃ x, w' = ext w x := by
  have HH := hide (iDia_any ps A n c w hn h0 hok hs)
  have TO := hide (fun (A' : Option Addr) (W : World) (hb : Below w.heap.size w W) h2 => told_any [((farL ps).1 : Int), ((farL ps).2 : Int), sqI ps (farL ps).1 (farL ps).2] A' 3 3 W rfl (by omega) (dia_big h0 hok) h2 (ht.to hb))
  have ON := hide ints3
  unfold diaT
  clear hn h0 hok hs ht
  generalize sqI ps (farL ps).1 (farL ps).2 = z at *
  generalize (farL ps).1 = a at *
  generalize (farL ps).2 = b at *
  go_enter Tryz.func94, Tryz.ntmps94
  go_wp2_with fail
  refine HH.out.mono ?_
  rintro e w' ⟨rfl, hw'⟩; have hzy1 := ext_sz hw'; obtain ⟨y1, rfl⟩ := hw'; (try simp at hzy1)
  go_wp2_with fail
  refine (TO.out _ _ (by (repeat' (first | (with_reducible first | exact Below.refl _ _ | assumption | refine below_ext _ ?_ ?_ | refine Below.alloc ?_ ?_ _ | refine Below.drew ?_ | refine below_drewN ?_ _ | refine le_drewN _ ?_ | refine Below.setCell ?_ ?_ _ | exact Nat.le_refl _ | refine le_ext _ ?_ | refine le_alloc _ ?_ | refine le_setCell _ _ ?_ | refine le_drew ?_) | omega | (simp; done) | (simp; omega)))) (ON.out _ _ _ _)).mono ?_
  rintro e w' ⟨rfl, hw'⟩; have hzy2 := ext_sz hw'; obtain ⟨y2, rfl⟩ := hw'; (try simp at hzy2)
  go_wp2_with fail
  go_ret
  exact ⟨rfl, (ext_mk (by (repeat' (first | (with_reducible first | exact Below.refl _ _ | assumption | refine below_ext _ ?_ ?_ | refine Below.alloc ?_ ?_ _ | refine Below.drew ?_ | refine below_drewN ?_ _ | refine le_drewN _ ?_ | refine Below.setCell ?_ ?_ _ | exact Nat.le_refl _ | refine le_ext _ ?_ | refine le_alloc _ ?_ | refine le_setCell _ _ ?_ | refine le_drew ?_) | omega | (simp; done) | (simp; omega)))))⟩
set_option maxRecDepth 20000 in
set_option maxHeartbeats 4000000 in
theorem sq_dia (ps : List Pt) (h0 : ps ≠ []) : AnsS qDiameter (diaT ps) ps := by
  intro A n c w hn hok hc hcm hs
  obtain ⟨h1, h2⟩ := listOk_1 hok
  have hl : 0 < n := by rw [← hn]; exact List.length_pos_iff.2 h0
  have h3 : ∀ p ∈ ps, (-1000 ≤ p.x ∧ p.x ≤ 1000) ∧ -1000 ≤ p.y ∧ p.y ≤ 1000 := fun p hp => ok_bd (h2 p hp)
  have HH := hide (sfarthest_any ps A n c w hn (by omega) hl h3 hs)
  have BG := dia_big h0 hok
  obtain ⟨f1, f2⟩ : (farL ps).1 < n ∧ (farL ps).2 < n := by rw [← hn]; exact dOut_lt (by omega) _ (Nat.le_refl _)
  have FI := hide (fun (A' : Option Addr) (W : World) h2 => fmtInts_any [((farL ps).1 : Int), ((farL ps).2 : Int), sqI ps (farL ps).1 (farL ps).2] A' 3 3 W rfl (by omega) BG h2)
  have ON := hide ints3
  obtain ⟨b, o, rfl, hb, hcs⟩ := hs (by omega)
  obtain ⟨gx, gy⟩ := hcs (farL ps).1 (by omega)
  obtain ⟨kx, ky⟩ := hcs (farL ps).2 (by omega)
  obtain ⟨⟨p1, p2⟩, p3, p4⟩ := h3 _ (gp_mem (show (farL ps).1 < ps.length by omega))
  obtain ⟨⟨p5, p6⟩, p7, p8⟩ := h3 _ (gp_mem (show (farL ps).2 < ps.length by omega))
  have X1 : -100000 ≤ (pX ps (farL ps).1) ∧ (pX ps (farL ps).1) ≤ 100000 := ⟨by unfold pX; omega, by unfold pX; omega⟩
  have X2 : -100000 ≤ (pY ps (farL ps).1) ∧ (pY ps (farL ps).1) ≤ 100000 := ⟨by unfold pY; omega, by unfold pY; omega⟩
  have X3 : -100000 ≤ (pX ps (farL ps).2) ∧ (pX ps (farL ps).2) ≤ 100000 := ⟨by unfold pX; omega, by unfold pX; omega⟩
  have X4 : -100000 ≤ (pY ps (farL ps).2) ∧ (pY ps (farL ps).2) ≤ 100000 := ⟨by unfold pY; omega, by unfold pY; omega⟩
  have SQ := hide (fun W => ssquare_any (pX ps (farL ps).1) (pY ps (farL ps).1) (pX ps (farL ps).2) (pY ps (farL ps).2) W X1 X2 X3 X4)
  have SI : sqI ps (farL ps).1 (farL ps).2 = (pX ps (farL ps).2 - pX ps (farL ps).1) * (pX ps (farL ps).2 - pX ps (farL ps).1) + (pY ps (farL ps).2 - pY ps (farL ps).1) * (pY ps (farL ps).2 - pY ps (farL ps).1) := rfl
  unfold diaT
  rw [← SI] at SQ
  clear p1 p2 p3 p4 p5 p6 p7 p8 X1 X2 X3 X4 SI
  have y1 := lit_no (l := qDiameter) (q := [104, 117, 108, 108]) (by decide)
  have y2 := lit_no (l := qDiameter) (q := [97, 114, 101, 97]) (by decide)
  have y3 := lit_yes (l := qDiameter) (q := [100, 105, 97, 109, 101, 116, 101, 114]) rfl
  clear hn h0 hok hs h1 h2 h3 hcs BG
  generalize bS qDiameter = S at *
  generalize pX ps (farL ps).1 = X1 at *
  generalize pY ps (farL ps).1 = Y1 at *
  generalize pX ps (farL ps).2 = X2 at *
  generalize pY ps (farL ps).2 = Y2 at *
  generalize sqI ps (farL ps).1 (farL ps).2 = z at *
  generalize (farL ps).1 = a at *
  generalize (farL ps).2 = d at *
  have q1 : (a : Int) < (n : Int) := by omega
  have q2 : (d : Int) < (n : Int) := by omega
  have q3 : (0 : Int) ≤ (a : Int) := by omega
  have q4 : (0 : Int) ≤ (d : Int) := by omega
  go_enter Tryz.func34, Tryz.ntmps34
  go_wp2_with fail
  refine HH.out.mono ?_
  rintro e w' ⟨rfl, hw'⟩; have hzu1 := ext_sz hw'; obtain ⟨u1, rfl⟩ := hw'; (try simp at hzu1)
  go_wp2_with fail
  go_region_with (first | (go_at_call 64; refine (SQ.out _).mono ?_; rintro e w' ⟨rfl, hw'⟩; have hzu2 := ext_sz hw'; obtain ⟨u2, rfl⟩ := hw'; (try simp at hzu2)) | (go_at_call 63; refine (FI.out _ _ (ON.out _ _ _ _)).mono ?_; rintro e w' ⟨rfl, hw'⟩; have hzu3 := ext_sz hw'; obtain ⟨u3, rfl⟩ := hw'; (try simp at hzu3)))
  all_goals
    go_wp2_with fail
    go_ret
    exact ⟨rfl, (ext_mk (by (repeat' (first | (with_reducible first | exact Below.refl _ _ | assumption | refine below_ext _ ?_ ?_ | refine Below.alloc ?_ ?_ _ | refine Below.drew ?_ | refine below_drewN ?_ _ | refine le_drewN _ ?_ | refine Below.setCell ?_ ?_ _ | exact Nat.le_refl _ | refine le_ext _ ?_ | refine le_alloc _ ?_ | refine le_setCell _ _ ?_ | refine le_drew ?_) | omega | (simp; done) | (simp; omega)))))⟩
end Go.Proofs.YtnddfdhfefconaaGreatDoor
