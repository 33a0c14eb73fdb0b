
/- The reference's diagonals. -/
import Derived.Test.YtdneaakpdibkmaaLoc
import Derived.Test.YtdneaakpdibkmaaRing
import Derived.Test.YtdneaakpdibkmaaSimS
import Derived.Test.YtdneaakpdibkmaaCanM
set_option linter.unusedVariables false
set_option linter.unusedSimpArgs false
namespace Go.Proofs.Ytdneaakpdibkmaa
open Go.RowKit

theorem diagS_no {ps : List Pt} {i k : Nat} (h : i = k ∨ (i + 1) % ps.length = k ∨ (k + 1) % ps.length = i) : diagS ps i k = false := by
  unfold diagS
  rw [← Bool.not_eq_true]
  simp only [Bool.and_eq_true, Bool.not_eq_true', Bool.or_eq_false_iff, decide_eq_false_iff_not]
  intro hh
  omega
theorem diagS_at {ps : List Pt} {i k j : Nat} (hj : j < ps.length) (h : eS ps i k j = false) : diagS ps i k = false := by
  unfold diagS
  rw [← Bool.not_eq_true]
  simp only [Bool.and_eq_true, List.all_eq_true, List.mem_range]
  exact fun hh => by rw [hh.2.1 j hj] at h; cases h
theorem diagS_last {ps : List Pt} {i k : Nat} (h1 : ¬ (i = k ∨ (i + 1) % ps.length = k ∨ (k + 1) % ps.length = i)) (h2 : ∀ j, j < ps.length → eS ps i k j = true) : diagS ps i k = coneB ps i k := by
  unfold diagS
  rw [decide_eq_false (fun e => h1 (.inl e)), decide_eq_false (fun e => h1 (.inr (.inl e))), decide_eq_false (fun e => h1 (.inr (.inr e))), List.all_eq_true.2 fun j hj => h2 j (List.mem_range.1 hj)]
  rfl
theorem ring_neg {n i : Nat} (hi : i < n) (h2 : 2 ≤ n) : (n - ((n - i) % n + n - 1) % n) % n = (i + 1) % n ∧ (n - ((n - i) % n + 1) % n) % n = (i + n - 1) % n := by
  have a1 : (n - i) % n = if i = 0 then 0 else n - i := by
    split
    · rename_i h; subst h; rw [Nat.sub_zero, Nat.mod_self]
    · exact Nat.mod_eq_of_lt (by omega)
  have a2 := mod_next hi
  have a3 : (i + n - 1) % n = if i = 0 then n - 1 else i - 1 := by
    split
    · rename_i h; subst h; rw [Nat.zero_add]; exact Nat.mod_eq_of_lt (by omega)
    · rw [show i + n - 1 = i - 1 + n by omega, Nat.add_mod_right]; exact Nat.mod_eq_of_lt (by omega)
  rw [a1, a3]
  by_cases h0 : i = 0
  · subst h0
    rw [if_pos rfl, if_pos rfl, Nat.zero_add, Nat.zero_add, Nat.mod_eq_of_lt (show n - 1 < n by omega), Nat.mod_eq_of_lt (show 1 < n by omega)]
    exact ⟨by rw [show n - (n - 1) = 1 by omega, Nat.mod_eq_of_lt (show 1 < n by omega)], Nat.mod_eq_of_lt (by omega)⟩
  · rw [if_neg h0, if_neg h0, show n - i + n - 1 = n - i - 1 + n by omega, Nat.add_mod_right, Nat.mod_eq_of_lt (show n - i - 1 < n by omega)]
    refine ⟨by rw [show n - (n - i - 1) = i + 1 by omega], ?_⟩
    by_cases h1 : i = 1
    · subst h1
      rw [show n - 1 + 1 = n by omega, Nat.mod_self, Nat.sub_zero, Nat.mod_self]
    · rw [Nat.mod_eq_of_lt (show n - i + 1 < n by omega), show n - (n - i + 1) = i - 1 by omega]
      exact Nat.mod_eq_of_lt (by omega)
theorem rg_at {ps : List Pt} (h3 : 3 ≤ ps.length) {i : Nat} (hi : i < ps.length) :
    gi (rgL ps) (rgI ps i) = (i : Int) ∧ gi (rgL ps) ((rgI ps i + ps.length - 1) % ps.length) = ((if areaL ps < 0 then (i + 1) % ps.length else (i + ps.length - 1) % ps.length : Nat) : Int) ∧ gi (rgL ps) ((rgI ps i + 1) % ps.length) = ((if areaL ps < 0 then (i + ps.length - 1) % ps.length else (i + 1) % ps.length : Nat) : Int) := by
  have lm : ∀ j, j % ps.length < ps.length := fun j => Nat.mod_lt _ (by omega)
  rw [rgL_at (rgI_lt hi), rgL_at (lm _), rgL_at (lm _), rgI_inv hi]
  refine ⟨rfl, ?_⟩
  by_cases h : areaL ps < 0
  · unfold rgI
    simp only [if_pos h]
    have := ring_neg hi (show 2 ≤ ps.length by omega)
    simp only [this.1, this.2]
    first | done | (refine ⟨?_, ?_⟩ <;> first | rfl | trivial | simp) | trivial
  · unfold rgI
    simp only [if_neg h]
    first | done | (refine ⟨?_, ?_⟩ <;> first | rfl | trivial | simp) | trivial
theorem mod_or {n k m : Nat} (hk : k < n) (h : m = (k + 1) % n) : (k + 1 = n ∧ m = 0) ∨ (k + 1 < n ∧ m = k + 1) := by
  have := mod_next hk
  split at this <;> omega
set_option maxRecDepth 20000 in
set_option maxHeartbeats 4000000 in
theorem sdiagonal_any (ps : List Pt) (i k : Nat) (A : Option Addr) (n c : Nat) (w : World) (hn : ps.length = n) (hok : simB ps = true) (hi : i < n) (hk : k < n) (hs : PtsAt w w.heap.size A ps) :
    Calls Try.prog 70 #[.slice A n c, .int .i64 i, .int .i64 k] w fun e w' => e = .returned (.bool (diagS ps i k)) ∧ ∃ x, w' = ext w x := by
  obtain ⟨hib, h3, h20, _⟩ := simB_parts hok
  have hp3 := simB_P3 hok
  have DN := hide (diagS_no (ps := ps) (i := i) (k := k))
  have DA := hide (fun j => diagS_at (ps := ps) (i := i) (k := k) (j := j))
  have DL := hide (diagS_last (ps := ps) (i := i) (k := k))
  rw [hn] at DN DA DL
  obtain ⟨i1, hi1⟩ : ∃ j, j = (i + 1) % n := ⟨_, rfl⟩
  obtain ⟨k1, hk1⟩ : ∃ j, j = (k + 1) % n := ⟨_, rfl⟩
  have mi := mod_or hi hi1
  have mk := mod_or hk hk1
  rw [← hi1] at DN DL
  rw [← hk1] at DN DL
  have li1 : i1 < n := by rw [hi1]; exact Nat.mod_lt _ (by omega)
  have lk1 : k1 < n := by rw [hk1]; exact Nat.mod_lt _ (by omega)
  have e2 : Int.tmod ((i : Int) + 1) (n : Int) = (i1 : Int) := by rw [hi1]; exact (Int.ofNat_tmod (i + 1) n).symm
  have e3 : Int.tmod ((k : Int) + 1) (n : Int) = (k1 : Int) := by rw [hk1]; exact (Int.ofNat_tmod (k + 1) n).symm
  have e4 : ((i : Int) + 1) % (n : Int) = (i1 : Int) := by rw [hi1]; exact (Int.natCast_emod (i + 1) n).symm
  have e5 : ((k : Int) + 1) % (n : Int) = (k1 : Int) := by rw [hk1]; exact (Int.natCast_emod (k + 1) n).symm
  have w1 : IntKind.i64.wrap ((i : Int) + 1) = (i : Int) + 1 := IntWalk.i64_in _ (by omega)
  have w2 : IntKind.i64.wrap ((k : Int) + 1) = (k : Int) + 1 := IntWalk.i64_in _ (by omega)
  have w3 : IntKind.i64.wrap (i1 : Int) = (i1 : Int) := IntWalk.i64_in _ (by omega)
  have w4 : IntKind.i64.wrap (k1 : Int) = (k1 : Int) := IntWalk.i64_in _ (by omega)
  have q5 : ¬ n = 0 := by omega
  by_cases hd1 : i = k
  · have d1 : ((i : Int) == (k : Int)) = true := by rw [beq_iff_eq]; omega
    have K := hide (DN.out (.inl hd1))
    clear DN DA DL hib hp3 hok hs hi1 hk1 hd1 mi mk hn
    go_enter Try.func70, Try.ntmps70
    go_wp2_with fail
    go_ret
    exact ⟨ret_bool K.out.symm, (ext_mk (by (repeat' (first | (with_reducible exact Below.refl _ _) | (with_reducible assumption) | (with_reducible refine below_ext _ ?_ ?_) | (with_reducible refine Below.alloc ?_ ?_ _) | (with_reducible refine Below.drew ?_) | (with_reducible refine below_drewN ?_ _) | (with_reducible refine le_drewN _ ?_) | (with_reducible refine Below.setCell ?_ ?_ _) | (with_reducible exact Nat.le_refl _) | (with_reducible refine le_ext _ ?_) | (with_reducible refine le_alloc _ ?_) | (with_reducible refine le_setCell _ _ ?_) | (with_reducible refine le_drew ?_) | omega | (simp; done) | (simp; omega)))))⟩
  have d1 : ((i : Int) == (k : Int)) = false := by rw [beq_eq_false_iff_ne]; omega
  by_cases hd2 : i1 = k
  · have d2 : ((i1 : Int) == (k : Int)) = true := by rw [beq_iff_eq]; omega
    have K := hide (DN.out (.inr (.inl hd2)))
    clear DN DA DL hib hp3 hok hs hi1 hk1 hd1 hd2 mi mk hn
    go_enter Try.func70, Try.ntmps70
    go_wp2_with fail
    go_ret
    exact ⟨ret_bool K.out.symm, (ext_mk (by (repeat' (first | (with_reducible exact Below.refl _ _) | (with_reducible assumption) | (with_reducible refine below_ext _ ?_ ?_) | (with_reducible refine Below.alloc ?_ ?_ _) | (with_reducible refine Below.drew ?_) | (with_reducible refine below_drewN ?_ _) | (with_reducible refine le_drewN _ ?_) | (with_reducible refine Below.setCell ?_ ?_ _) | (with_reducible exact Nat.le_refl _) | (with_reducible refine le_ext _ ?_) | (with_reducible refine le_alloc _ ?_) | (with_reducible refine le_setCell _ _ ?_) | (with_reducible refine le_drew ?_) | omega | (simp; done) | (simp; omega)))))⟩
  have d2 : ((i1 : Int) == (k : Int)) = false := by rw [beq_eq_false_iff_ne]; omega
  by_cases hd3 : k1 = i
  · have d3 : ((k1 : Int) == (i : Int)) = true := by rw [beq_iff_eq]; omega
    have K := hide (DN.out (.inr (.inr hd3)))
    clear DN DA DL hib hp3 hok hs hi1 hk1 hd1 hd2 hd3 mi mk hn
    go_enter Try.func70, Try.ntmps70
    go_wp2_with fail
    go_ret
    exact ⟨ret_bool K.out.symm, (ext_mk (by (repeat' (first | (with_reducible exact Below.refl _ _) | (with_reducible assumption) | (with_reducible refine below_ext _ ?_ ?_) | (with_reducible refine Below.alloc ?_ ?_ _) | (with_reducible refine Below.drew ?_) | (with_reducible refine below_drewN ?_ _) | (with_reducible refine le_drewN _ ?_) | (with_reducible refine Below.setCell ?_ ?_ _) | (with_reducible exact Nat.le_refl _) | (with_reducible refine le_ext _ ?_) | (with_reducible refine le_alloc _ ?_) | (with_reducible refine le_setCell _ _ ?_) | (with_reducible refine le_drew ?_) | omega | (simp; done) | (simp; omega)))))⟩
  have d3 : ((k1 : Int) == (i : Int)) = false := by rw [beq_eq_false_iff_ne]; omega
  have DL := hide (DL.out (by omega))
  have EO := hide (fun (j : Nat) (hj : j < n) (W : World) (hb : Below w.heap.size w W) => edgeOf_any ps j A n c W hn (by omega) hj (hs.to hb))
  have RO := hide (fun (W : World) (hb : Below w.heap.size w W) => ringOf_any ps A n c W hn (by omega) hp3 (hs.to hb))
  have RG := rg_at (ps := ps) (by omega) (show i < ps.length by omega)
  rw [hn] at RG
  have LRG : Hid (rgI ps i < n ∧ (rgL ps).length = n ∧ ∀ q, q < rgI ps i → gi (rgL ps) q ≠ (i : Int)) := hide (by
    have h1 := rgI_lt (ps := ps) (i := i) (by omega)
    refine ⟨by omega, by unfold rgL; rw [rgTo_len]; exact hn, fun q hq e => ?_⟩
    rw [rgL_at (show q < ps.length by omega)] at e
    have h2 := rgI_inv (ps := ps) (i := q) (by omega)
    rw [show rgI ps q = i by omega] at h2
    omega)
  have PO := hide (fun (Z : Option Addr) (n2 c2 : Nat) (hn2 : (rgL ps).length = n2) (W : World) (hz : IntsAt W W.heap.size Z (rgL ps)) => placeOf_any (rgL ps) (i : Int) (rgI ps i) Z n2 c2 W hn2 (by have := LRG.out.2.1; omega) (by have := LRG.out; omega) RG.1 LRG.out.2.2 hz)
  have IC := hide (fun (Z : Option Addr) (c2 : Nat) (W : World) (hb : Below w.heap.size w W) (hz : IntsAt W W.heap.size Z (rgL ps)) => inCone_any ps (rgL ps) (rgI ps i) _ i _ (pX ps k) (pY ps k) A Z n c n c2 W hn LRG.out.2.1 (by omega) (by omega) LRG.out.1 RG.2.1 RG.1 RG.2.2 (by split <;> exact Nat.mod_lt _ (by omega)) hi (by split <;> exact Nat.mod_lt _ (by omega)) hib (hib _ (gp_mem (show k < ps.length by omega))) (hs.to hb) hz (coneB ps i k) (by
    unfold coneB
    rw [hn]
    by_cases ha : areaL ps < 0
    · simp only [if_pos ha]; rfl
    · simp only [if_neg ha]; rfl))
  have PA := hide (hs (by omega))
  have HN := hide hn
  have BI : Hid (∀ i, i < n → (-100000 ≤ (gp ps i).x ∧ (gp ps i).x ≤ 100000) ∧ (-100000 ≤ (gp ps i).y ∧ (gp ps i).y ≤ 100000)) := hide (fun i hi => hib _ (gp_mem (by omega)))
  have ic := hp3 _ (gp_mem (show i < ps.length by omega))
  have kc := hp3 _ (gp_mem (show k < ps.length by omega))
  obtain ⟨b, o, rfl, hbl, hcs⟩ := PA.out
  have CP : Hid (∀ j, j < n → w.cell? ⟨b, o + j * 2, none⟩ = some (.int .i64 (gp ps j).x) ∧ w.cell? ⟨b, o + j * 2 + 1, none⟩ = some (.int .i64 (gp ps j).y)) := hide (fun j hj => hcs j (by omega))
  obtain ⟨xi, yi⟩ := hcs i (by omega)
  obtain ⟨xk, yk⟩ := hcs k (by omega)
  have hX1 : -1000 ≤ (pX ps i) ∧ (pX ps i) ≤ 1000 := by unfold pX; omega
  have hY1 : -1000 ≤ (pY ps i) ∧ (pY ps i) ≤ 1000 := by unfold pY; omega
  have hX2 : -1000 ≤ (pX ps k) ∧ (pX ps k) ≤ 1000 := by unfold pX; omega
  have hY2 : -1000 ≤ (pY ps k) ∧ (pY ps k) ≤ 1000 := by unfold pY; omega
  have hnk : n ≤ 20 := by omega
  have q1 : (0 : Int) ≤ (i : Int) := by omega
  have q2 : (i : Int) < (n : Int) := by omega
  have q3 : (0 : Int) ≤ (k : Int) := by omega
  have q4 : (k : Int) < (n : Int) := by omega
  have OS : Hid (∀ j W, j < n → Calls Try.prog 102 #[.agg #[.int .i64 (pX ps i), .int .i64 (pY ps i), .int .i64 (pX ps k), .int .i64 (pY ps k)], .agg #[.int .i64 (gp ps j).x, .int .i64 (gp ps j).y]] W fun r w' => r = .returned (.bool (onSeg (gp ps i) (gp ps k) (gp ps j))) ∧ ∃ n, w' = ext W n) := hide (fun j W hj => by
    have h1 := BI.out j hj
    exact sonSeg_any _ _ _ _ _ _ W (by omega) (by omega) (by omega) (by omega) h1.1 h1.2)
  have RE0 : Hid (∀ j W, j < n → Calls Try.prog 100 #[.agg #[.int .i64 (pX ps i), .int .i64 (pY ps i), .int .i64 (pX ps k), .int .i64 (pY ps k)], .agg #[.int .i64 (gp ps j).x, .int .i64 (gp ps j).y, .int .i64 (gp ps ((j + 1) % n)).x, .int .i64 (gp ps ((j + 1) % n)).y]] W fun r w' => r = .returned (.int .i64 (relS (gp ps i, gp ps k) (gp ps j, gp ps ((j + 1) % n)))) ∧ ∃ n, w' = ext W n) := hide (fun j W hj => by
    have h1 := BI.out j hj
    have h2 := BI.out _ (Nat.mod_lt (j + 1) (show 0 < n by omega))
    exact srelation_any _ _ _ _ _ _ _ _ W (by omega) (by omega) (by omega) (by omega) h1.1 h1.2 h2.1 h2.2)
  have EVj : Hid (∀ j, eS ps i k j = if j = i ∨ j = k ∨ (j + 1) % n = i ∨ (j + 1) % n = k then !((decide (j ≠ i ∧ j ≠ k) && onSeg (gp ps i) (gp ps k) (gp ps j)) || (decide ((j + 1) % n ≠ i ∧ (j + 1) % n ≠ k) && onSeg (gp ps i) (gp ps k) (gp ps ((j + 1) % n)))) else decide (relS (gp ps i, gp ps k) (gp ps j, gp ps ((j + 1) % n)) = 0)) := hide (fun j => by
    rw [← HN.out]; rfl)
  have MI := hide mi
  have MK := hide mk
  clear hcs hs hib hp3 hok ic kc hn PA RG mi mk hi1 hk1
  generalize pX ps i = XI at *
  generalize pY ps i = YI at *
  generalize pX ps k = XK at *
  generalize pY ps k = YK at *
  go_enter Try.func70, Try.ntmps70
  go_wp2_with fail
  go_region
  have B6 := hide (show Below w.heap.size w ((w.alloc (.cells #[.int .i64 XI, .int .i64 YI, .int .i64 XK, .int .i64 YK] 62)).drew) from (by (repeat' (first | (with_reducible exact Below.refl _ _) | (with_reducible assumption) | (with_reducible refine below_ext _ ?_ ?_) | (with_reducible refine Below.alloc ?_ ?_ _) | (with_reducible refine Below.drew ?_) | (with_reducible refine below_drewN ?_ _) | (with_reducible refine le_drewN _ ?_) | (with_reducible refine Below.setCell ?_ ?_ _) | (with_reducible exact Nat.le_refl _) | (with_reducible refine le_ext _ ?_) | (with_reducible refine le_alloc _ ?_) | (with_reducible refine le_setCell _ _ ?_) | (with_reducible refine le_drew ?_) | omega | (simp; done) | (simp; omega)))))
  have BX := hide (show ((w.alloc (.cells #[.int .i64 XI, .int .i64 YI, .int .i64 XK, .int .i64 YK] 62)).drew).heap[w.heap.size]? = some (.cells #[.int .i64 XI, .int .i64 YI, .int .i64 XK, .int .i64 YK] 62 (0, 0)) from heap_alloc_new w (.cells #[.int .i64 XI, .int .i64 YI, .int .i64 XK, .int .i64 YK] 62))
  have hwb : w.heap.size + 1 ≤ ((w.alloc (.cells #[.int .i64 XI, .int .i64 YI, .int .i64 XK, .int .i64 YK] 62)).drew).heap.size := by simp
  generalize ((w.alloc (.cells #[.int .i64 XI, .int .i64 YI, .int .i64 XK, .int .i64 YK] 62)).drew) = W5 at *
  go_wp2_with fail
  go_loopw [9] (fun u9 wr => ∃ j : Nat, j ≤ n ∧ u9 = .int .i64 j ∧ Hid (∀ q, q < j → eS ps i k q = true) ∧ Below W5.heap.size W5 wr) (fun u9 _ => n - (intOf u9).toNat)
  case atStart => exact ⟨0, Nat.zero_le _, rfl, hide (fun q hq => by omega), Below.refl _ _⟩
  case round =>
    obtain ⟨j, hj, rfl, HF, hbel⟩ := hrel
    have hsz := hbel.size
    have bx := (hbel.block w.heap.size (by omega)).trans BX.out
    have hbw := hide (B6.out.trans (hbel.mono B6.out.size))
    by_cases hlt : j < n
    · obtain ⟨j1, hj1⟩ : ∃ x, x = (j + 1) % n := ⟨_, rfl⟩
      have lj1 : j1 < n := by rw [hj1]; exact Nat.mod_lt _ (by omega)
      have mj := mod_or hlt hj1
      have EOj := hide (EO.out j hlt)
      have RE := hide (fun W => RE0.out j W hlt)
      have EV := hide (EVj.out j)
      rw [← hj1] at EOj RE EV
      have O1 := hide (fun W => OS.out j W hlt)
      have O2 := hide (fun W => OS.out j1 W lj1)
      have NF : Hid (eS ps i k j = true → ∀ q, q < j + 1 → eS ps i k q = true) := hide (fun h q hq => by
        by_cases e : q = j
        · rw [e]; exact h
        · exact HF.out q (by omega))
      have FA := hide (DA.out j hlt)
      obtain ⟨p1, p2⟩ := CP.out j hlt
      obtain ⟨p3, p4⟩ := CP.out j1 lj1
      have g1 := (hbw.out.cell (p := ⟨b, o + j * 2, none⟩) hbl).trans p1
      have g2 := (hbw.out.cell (p := ⟨b, o + j * 2 + 1, none⟩) hbl).trans p2
      have g3 := (hbw.out.cell (p := ⟨b, o + j1 * 2, none⟩) hbl).trans p3
      have g4 := (hbw.out.cell (p := ⟨b, o + j1 * 2 + 1, none⟩) hbl).trans p4
      have hbsz := hbw.out.size
      have f2 : Int.tmod ((j : Int) + 1) (n : Int) = (j1 : Int) := by rw [hj1]; exact (Int.ofNat_tmod (j + 1) n).symm
      have f3 : ((j : Int) + 1) % (n : Int) = (j1 : Int) := by rw [hj1]; exact (Int.natCast_emod (j + 1) n).symm
      have v1 : IntKind.i64.wrap ((j : Int) + 1) = (j : Int) + 1 := IntWalk.i64_in _ (by omega)
      have v2 : IntKind.i64.wrap (j1 : Int) = (j1 : Int) := IntWalk.i64_in _ (by omega)
      have q6 : (0 : Int) ≤ (j : Int) := by omega
      have q7 : (j : Int) < (n : Int) := by omega
      have q8 : (0 : Int) ≤ (j1 : Int) := by omega
      have q9 : (j1 : Int) < (n : Int) := by omega
      clear p1 p2 p3 p4 DA RE0 EVj DL EO RO PO IC LRG CP OS xi yi xk yk hj1 HF
      have mi := MI.out
      have mk := MK.out
      generalize eS ps i k j = EI at *
      generalize relS (gp ps i, gp ps k) (gp ps j, gp ps j1) = RI at *
      generalize onSeg (gp ps i) (gp ps k) (gp ps j) = V1 at *
      generalize onSeg (gp ps i) (gp ps k) (gp ps j1) = V2 at *
      generalize (gp ps j).x = X1 at *
      generalize (gp ps j).y = Y1 at *
      generalize (gp ps j1).x = X2 at *
      generalize (gp ps j1).y = Y2 at *
      by_cases hc0 : j = i
      · have cji : (((j : Nat) : Int) == (i : Int)) = true := by rw [beq_iff_eq]; omega
        have mji : (((j : Nat) : Int) != (i : Int)) = false := by rw [bne_eq_false_iff_eq]; omega
        have cjk : (((j : Nat) : Int) == (k : Int)) = false := by rw [beq_eq_false_iff_ne]; omega
        have mjk : (((j : Nat) : Int) != (k : Int)) = true := by rw [bne_iff_ne]; omega
        have cj1i : (((j1 : Nat) : Int) == (i : Int)) = false := by rw [beq_eq_false_iff_ne]; omega
        have mj1i : (((j1 : Nat) : Int) != (i : Int)) = true := by rw [bne_iff_ne]; omega
        have cj1k : (((j1 : Nat) : Int) == (k : Int)) = false := by rw [beq_eq_false_iff_ne]; omega
        have mj1k : (((j1 : Nat) : Int) != (k : Int)) = true := by rw [bne_iff_ne]; omega
        have KE : Hid (EI = !V2) := hide (by rw [EV.out, if_pos (by omega), decide_eq_false (show ¬ (j ≠ i ∧ j ≠ k) by omega), Bool.false_and, Bool.false_or, decide_eq_true (show j1 ≠ i ∧ j1 ≠ k by omega), Bool.true_and])
        clear EV mi mk mj RE hc0 hd1 hd2 hd3 O1
        cases V2
        · skip
          go_wp2_with fail
          refine (EOj.out _ (hbw.out.trans (by (repeat' (first | (with_reducible exact Below.refl _ _) | (with_reducible assumption) | (with_reducible refine below_ext _ ?_ ?_) | (with_reducible refine Below.alloc ?_ ?_ _) | (with_reducible refine Below.drew ?_) | (with_reducible refine below_drewN ?_ _) | (with_reducible refine le_drewN _ ?_) | (with_reducible refine Below.setCell ?_ ?_ _) | (with_reducible exact Nat.le_refl _) | (with_reducible refine le_ext _ ?_) | (with_reducible refine le_alloc _ ?_) | (with_reducible refine le_setCell _ _ ?_) | (with_reducible refine le_drew ?_) | omega | (simp; done) | (simp; omega)))))).mono ?_
          rintro e w' ⟨rfl, hw'⟩; have hzy1 := ext_sz hw'; obtain ⟨y1, rfl⟩ := hw'; (try simp at hzy1)
          have BZ := hide (show Below wr.heap.size wr ((ext wr y1).alloc (.cells #[.int .i64 X1, .int .i64 Y1, .int .i64 X2, .int .i64 Y2] 62)) from (by (repeat' (first | (with_reducible exact Below.refl _ _) | (with_reducible assumption) | (with_reducible refine below_ext _ ?_ ?_) | (with_reducible refine Below.alloc ?_ ?_ _) | (with_reducible refine Below.drew ?_) | (with_reducible refine below_drewN ?_ _) | (with_reducible refine le_drewN _ ?_) | (with_reducible refine Below.setCell ?_ ?_ _) | (with_reducible exact Nat.le_refl _) | (with_reducible refine le_ext _ ?_) | (with_reducible refine le_alloc _ ?_) | (with_reducible refine le_setCell _ _ ?_) | (with_reducible refine le_drew ?_) | omega | (simp; done) | (simp; omega)))))
          have t0 := heap_cell ((BZ.out.block w.heap.size (by omega)).trans bx)
          have t00 := t0 0
          have t01 := t0 1
          have t02 := t0 2
          have t03 := t0 3
          have r1 := (BZ.out.cell (p := ⟨b, o + j * 2, none⟩) (by simp; omega)).trans g1
          have r2 := (BZ.out.cell (p := ⟨b, o + j * 2 + 1, none⟩) (by simp; omega)).trans g2
          have r3 := (BZ.out.cell (p := ⟨b, o + j1 * 2, none⟩) (by simp; omega)).trans g3
          have r4 := (BZ.out.cell (p := ⟨b, o + j1 * 2 + 1, none⟩) (by simp; omega)).trans g4
          have t1 := heap_cell (heap_alloc_new (ext wr y1) (.cells #[.int .i64 X1, .int .i64 Y1, .int .i64 X2, .int .i64 Y2] 62))
          have t10 := t1 0
          have t11 := t1 1
          have t12 := t1 2
          have t13 := t1 3
          simp at t00 t01 t02 t03
          simp at t10 t11 t12 t13
          have SZ : wr.heap.size + 1 ≤ ((ext wr y1).alloc (.cells #[.int .i64 X1, .int .i64 Y1, .int .i64 X2, .int .i64 Y2] 62)).heap.size := by simp; omega
          clear t0 t1
          go_wp2_with fail
          generalize hA0 : (ext wr y1).heap.size = BA at *
          generalize hWa : (ext wr y1).alloc (.cells #[.int .i64 X1, .int .i64 Y1, .int .i64 X2, .int .i64 Y2] 62) = Wa at *
          clear hWa hA0 bx g1 g2 g3 g4
          refine wp_region_ext (by kernel_rfl) (by kernel_rfl) ?_
          repeat (go_big_quiet_step ((first | (go_at_call 102; exact Calls.in_ext (O2.out _)))))
          refine wpQuiet_nil ?_
          rintro _ hnq
          have hzq := ext_sz hnq
          obtain ⟨nq, rfl⟩ := hnq
          (try simp at hzq)
          go_wp2_with fail
          exact ⟨⟨j + 1, by omega, by go_num, hide (NF.out KE.out), hbel.trans ((BZ.out.mono hsz).trans (Below.mono (by (repeat' (first | (with_reducible exact Below.refl _ _) | (with_reducible assumption) | (with_reducible refine below_ext _ ?_ ?_) | (with_reducible refine Below.alloc ?_ ?_ _) | (with_reducible refine Below.drew ?_) | (with_reducible refine below_drewN ?_ _) | (with_reducible refine le_drewN _ ?_) | (with_reducible refine Below.setCell ?_ ?_ _) | (with_reducible exact Nat.le_refl _) | (with_reducible refine le_ext _ ?_) | (with_reducible refine le_alloc _ ?_) | (with_reducible refine le_setCell _ _ ?_) | (with_reducible refine le_drew ?_) | omega | (simp; done) | (simp; omega)))) (Nat.le_trans hsz BZ.out.size)))⟩, by simp [intOf]; omega⟩
        · skip
          go_wp2_with fail
          refine (EOj.out _ (hbw.out.trans (by (repeat' (first | (with_reducible exact Below.refl _ _) | (with_reducible assumption) | (with_reducible refine below_ext _ ?_ ?_) | (with_reducible refine Below.alloc ?_ ?_ _) | (with_reducible refine Below.drew ?_) | (with_reducible refine below_drewN ?_ _) | (with_reducible refine le_drewN _ ?_) | (with_reducible refine Below.setCell ?_ ?_ _) | (with_reducible exact Nat.le_refl _) | (with_reducible refine le_ext _ ?_) | (with_reducible refine le_alloc _ ?_) | (with_reducible refine le_setCell _ _ ?_) | (with_reducible refine le_drew ?_) | omega | (simp; done) | (simp; omega)))))).mono ?_
          rintro e w' ⟨rfl, hw'⟩; have hzy1 := ext_sz hw'; obtain ⟨y1, rfl⟩ := hw'; (try simp at hzy1)
          have BZ := hide (show Below wr.heap.size wr ((ext wr y1).alloc (.cells #[.int .i64 X1, .int .i64 Y1, .int .i64 X2, .int .i64 Y2] 62)) from (by (repeat' (first | (with_reducible exact Below.refl _ _) | (with_reducible assumption) | (with_reducible refine below_ext _ ?_ ?_) | (with_reducible refine Below.alloc ?_ ?_ _) | (with_reducible refine Below.drew ?_) | (with_reducible refine below_drewN ?_ _) | (with_reducible refine le_drewN _ ?_) | (with_reducible refine Below.setCell ?_ ?_ _) | (with_reducible exact Nat.le_refl _) | (with_reducible refine le_ext _ ?_) | (with_reducible refine le_alloc _ ?_) | (with_reducible refine le_setCell _ _ ?_) | (with_reducible refine le_drew ?_) | omega | (simp; done) | (simp; omega)))))
          have t0 := heap_cell ((BZ.out.block w.heap.size (by omega)).trans bx)
          have t00 := t0 0
          have t01 := t0 1
          have t02 := t0 2
          have t03 := t0 3
          have r1 := (BZ.out.cell (p := ⟨b, o + j * 2, none⟩) (by simp; omega)).trans g1
          have r2 := (BZ.out.cell (p := ⟨b, o + j * 2 + 1, none⟩) (by simp; omega)).trans g2
          have r3 := (BZ.out.cell (p := ⟨b, o + j1 * 2, none⟩) (by simp; omega)).trans g3
          have r4 := (BZ.out.cell (p := ⟨b, o + j1 * 2 + 1, none⟩) (by simp; omega)).trans g4
          have t1 := heap_cell (heap_alloc_new (ext wr y1) (.cells #[.int .i64 X1, .int .i64 Y1, .int .i64 X2, .int .i64 Y2] 62))
          have t10 := t1 0
          have t11 := t1 1
          have t12 := t1 2
          have t13 := t1 3
          simp at t00 t01 t02 t03
          simp at t10 t11 t12 t13
          have SZ : wr.heap.size + 1 ≤ ((ext wr y1).alloc (.cells #[.int .i64 X1, .int .i64 Y1, .int .i64 X2, .int .i64 Y2] 62)).heap.size := by simp; omega
          clear t0 t1
          go_wp2_with fail
          generalize hA0 : (ext wr y1).heap.size = BA at *
          generalize hWa : (ext wr y1).alloc (.cells #[.int .i64 X1, .int .i64 Y1, .int .i64 X2, .int .i64 Y2] 62) = Wa at *
          clear hWa hA0 bx g1 g2 g3 g4
          refine wp_region_ext (by kernel_rfl) (by kernel_rfl) ?_
          repeat (go_big_quiet_step ((first | (go_at_call 102; exact Calls.in_ext (O2.out _)))))
          refine wpQuiet_nil ?_
          rintro _ hnq
          have hzq := ext_sz hnq
          obtain ⟨nq, rfl⟩ := hnq
          (try simp at hzq)
          go_wp2_with fail
          go_ret
          exact ⟨ret_bool (FA.out KE.out).symm, ext_mk (hbw.out.trans ((BZ.out.mono hbsz).trans (Below.mono (by (repeat' (first | (with_reducible exact Below.refl _ _) | (with_reducible assumption) | (with_reducible refine below_ext _ ?_ ?_) | (with_reducible refine Below.alloc ?_ ?_ _) | (with_reducible refine Below.drew ?_) | (with_reducible refine below_drewN ?_ _) | (with_reducible refine le_drewN _ ?_) | (with_reducible refine Below.setCell ?_ ?_ _) | (with_reducible exact Nat.le_refl _) | (with_reducible refine le_ext _ ?_) | (with_reducible refine le_alloc _ ?_) | (with_reducible refine le_setCell _ _ ?_) | (with_reducible refine le_drew ?_) | omega | (simp; done) | (simp; omega)))) (Nat.le_trans hbsz BZ.out.size))))⟩
      by_cases hc1 : j = k
      · have cji : (((j : Nat) : Int) == (i : Int)) = false := by rw [beq_eq_false_iff_ne]; omega
        have mji : (((j : Nat) : Int) != (i : Int)) = true := by rw [bne_iff_ne]; omega
        have cjk : (((j : Nat) : Int) == (k : Int)) = true := by rw [beq_iff_eq]; omega
        have mjk : (((j : Nat) : Int) != (k : Int)) = false := by rw [bne_eq_false_iff_eq]; omega
        have cj1i : (((j1 : Nat) : Int) == (i : Int)) = false := by rw [beq_eq_false_iff_ne]; omega
        have mj1i : (((j1 : Nat) : Int) != (i : Int)) = true := by rw [bne_iff_ne]; omega
        have cj1k : (((j1 : Nat) : Int) == (k : Int)) = false := by rw [beq_eq_false_iff_ne]; omega
        have mj1k : (((j1 : Nat) : Int) != (k : Int)) = true := by rw [bne_iff_ne]; omega
        have KE : Hid (EI = !V2) := hide (by rw [EV.out, if_pos (by omega), decide_eq_false (show ¬ (j ≠ i ∧ j ≠ k) by omega), Bool.false_and, Bool.false_or, decide_eq_true (show j1 ≠ i ∧ j1 ≠ k by omega), Bool.true_and])
        clear EV mi mk mj RE hc0 hc1 hd1 hd2 hd3 O1
        cases V2
        · skip
          go_wp2_with fail
          refine (EOj.out _ (hbw.out.trans (by (repeat' (first | (with_reducible exact Below.refl _ _) | (with_reducible assumption) | (with_reducible refine below_ext _ ?_ ?_) | (with_reducible refine Below.alloc ?_ ?_ _) | (with_reducible refine Below.drew ?_) | (with_reducible refine below_drewN ?_ _) | (with_reducible refine le_drewN _ ?_) | (with_reducible refine Below.setCell ?_ ?_ _) | (with_reducible exact Nat.le_refl _) | (with_reducible refine le_ext _ ?_) | (with_reducible refine le_alloc _ ?_) | (with_reducible refine le_setCell _ _ ?_) | (with_reducible refine le_drew ?_) | omega | (simp; done) | (simp; omega)))))).mono ?_
          rintro e w' ⟨rfl, hw'⟩; have hzy1 := ext_sz hw'; obtain ⟨y1, rfl⟩ := hw'; (try simp at hzy1)
          have BZ := hide (show Below wr.heap.size wr ((ext wr y1).alloc (.cells #[.int .i64 X1, .int .i64 Y1, .int .i64 X2, .int .i64 Y2] 62)) from (by (repeat' (first | (with_reducible exact Below.refl _ _) | (with_reducible assumption) | (with_reducible refine below_ext _ ?_ ?_) | (with_reducible refine Below.alloc ?_ ?_ _) | (with_reducible refine Below.drew ?_) | (with_reducible refine below_drewN ?_ _) | (with_reducible refine le_drewN _ ?_) | (with_reducible refine Below.setCell ?_ ?_ _) | (with_reducible exact Nat.le_refl _) | (with_reducible refine le_ext _ ?_) | (with_reducible refine le_alloc _ ?_) | (with_reducible refine le_setCell _ _ ?_) | (with_reducible refine le_drew ?_) | omega | (simp; done) | (simp; omega)))))
          have t0 := heap_cell ((BZ.out.block w.heap.size (by omega)).trans bx)
          have t00 := t0 0
          have t01 := t0 1
          have t02 := t0 2
          have t03 := t0 3
          have r1 := (BZ.out.cell (p := ⟨b, o + j * 2, none⟩) (by simp; omega)).trans g1
          have r2 := (BZ.out.cell (p := ⟨b, o + j * 2 + 1, none⟩) (by simp; omega)).trans g2
          have r3 := (BZ.out.cell (p := ⟨b, o + j1 * 2, none⟩) (by simp; omega)).trans g3
          have r4 := (BZ.out.cell (p := ⟨b, o + j1 * 2 + 1, none⟩) (by simp; omega)).trans g4
          have t1 := heap_cell (heap_alloc_new (ext wr y1) (.cells #[.int .i64 X1, .int .i64 Y1, .int .i64 X2, .int .i64 Y2] 62))
          have t10 := t1 0
          have t11 := t1 1
          have t12 := t1 2
          have t13 := t1 3
          simp at t00 t01 t02 t03
          simp at t10 t11 t12 t13
          have SZ : wr.heap.size + 1 ≤ ((ext wr y1).alloc (.cells #[.int .i64 X1, .int .i64 Y1, .int .i64 X2, .int .i64 Y2] 62)).heap.size := by simp; omega
          clear t0 t1
          go_wp2_with fail
          generalize hA0 : (ext wr y1).heap.size = BA at *
          generalize hWa : (ext wr y1).alloc (.cells #[.int .i64 X1, .int .i64 Y1, .int .i64 X2, .int .i64 Y2] 62) = Wa at *
          clear hWa hA0 bx g1 g2 g3 g4
          refine wp_region_ext (by kernel_rfl) (by kernel_rfl) ?_
          repeat (go_big_quiet_step ((first | (go_at_call 102; exact Calls.in_ext (O2.out _)))))
          refine wpQuiet_nil ?_
          rintro _ hnq
          have hzq := ext_sz hnq
          obtain ⟨nq, rfl⟩ := hnq
          (try simp at hzq)
          go_wp2_with fail
          exact ⟨⟨j + 1, by omega, by go_num, hide (NF.out KE.out), hbel.trans ((BZ.out.mono hsz).trans (Below.mono (by (repeat' (first | (with_reducible exact Below.refl _ _) | (with_reducible assumption) | (with_reducible refine below_ext _ ?_ ?_) | (with_reducible refine Below.alloc ?_ ?_ _) | (with_reducible refine Below.drew ?_) | (with_reducible refine below_drewN ?_ _) | (with_reducible refine le_drewN _ ?_) | (with_reducible refine Below.setCell ?_ ?_ _) | (with_reducible exact Nat.le_refl _) | (with_reducible refine le_ext _ ?_) | (with_reducible refine le_alloc _ ?_) | (with_reducible refine le_setCell _ _ ?_) | (with_reducible refine le_drew ?_) | omega | (simp; done) | (simp; omega)))) (Nat.le_trans hsz BZ.out.size)))⟩, by simp [intOf]; omega⟩
        · skip
          go_wp2_with fail
          refine (EOj.out _ (hbw.out.trans (by (repeat' (first | (with_reducible exact Below.refl _ _) | (with_reducible assumption) | (with_reducible refine below_ext _ ?_ ?_) | (with_reducible refine Below.alloc ?_ ?_ _) | (with_reducible refine Below.drew ?_) | (with_reducible refine below_drewN ?_ _) | (with_reducible refine le_drewN _ ?_) | (with_reducible refine Below.setCell ?_ ?_ _) | (with_reducible exact Nat.le_refl _) | (with_reducible refine le_ext _ ?_) | (with_reducible refine le_alloc _ ?_) | (with_reducible refine le_setCell _ _ ?_) | (with_reducible refine le_drew ?_) | omega | (simp; done) | (simp; omega)))))).mono ?_
          rintro e w' ⟨rfl, hw'⟩; have hzy1 := ext_sz hw'; obtain ⟨y1, rfl⟩ := hw'; (try simp at hzy1)
          have BZ := hide (show Below wr.heap.size wr ((ext wr y1).alloc (.cells #[.int .i64 X1, .int .i64 Y1, .int .i64 X2, .int .i64 Y2] 62)) from (by (repeat' (first | (with_reducible exact Below.refl _ _) | (with_reducible assumption) | (with_reducible refine below_ext _ ?_ ?_) | (with_reducible refine Below.alloc ?_ ?_ _) | (with_reducible refine Below.drew ?_) | (with_reducible refine below_drewN ?_ _) | (with_reducible refine le_drewN _ ?_) | (with_reducible refine Below.setCell ?_ ?_ _) | (with_reducible exact Nat.le_refl _) | (with_reducible refine le_ext _ ?_) | (with_reducible refine le_alloc _ ?_) | (with_reducible refine le_setCell _ _ ?_) | (with_reducible refine le_drew ?_) | omega | (simp; done) | (simp; omega)))))
          have t0 := heap_cell ((BZ.out.block w.heap.size (by omega)).trans bx)
          have t00 := t0 0
          have t01 := t0 1
          have t02 := t0 2
          have t03 := t0 3
          have r1 := (BZ.out.cell (p := ⟨b, o + j * 2, none⟩) (by simp; omega)).trans g1
          have r2 := (BZ.out.cell (p := ⟨b, o + j * 2 + 1, none⟩) (by simp; omega)).trans g2
          have r3 := (BZ.out.cell (p := ⟨b, o + j1 * 2, none⟩) (by simp; omega)).trans g3
          have r4 := (BZ.out.cell (p := ⟨b, o + j1 * 2 + 1, none⟩) (by simp; omega)).trans g4
          have t1 := heap_cell (heap_alloc_new (ext wr y1) (.cells #[.int .i64 X1, .int .i64 Y1, .int .i64 X2, .int .i64 Y2] 62))
          have t10 := t1 0
          have t11 := t1 1
          have t12 := t1 2
          have t13 := t1 3
          simp at t00 t01 t02 t03
          simp at t10 t11 t12 t13
          have SZ : wr.heap.size + 1 ≤ ((ext wr y1).alloc (.cells #[.int .i64 X1, .int .i64 Y1, .int .i64 X2, .int .i64 Y2] 62)).heap.size := by simp; omega
          clear t0 t1
          go_wp2_with fail
          generalize hA0 : (ext wr y1).heap.size = BA at *
          generalize hWa : (ext wr y1).alloc (.cells #[.int .i64 X1, .int .i64 Y1, .int .i64 X2, .int .i64 Y2] 62) = Wa at *
          clear hWa hA0 bx g1 g2 g3 g4
          refine wp_region_ext (by kernel_rfl) (by kernel_rfl) ?_
          repeat (go_big_quiet_step ((first | (go_at_call 102; exact Calls.in_ext (O2.out _)))))
          refine wpQuiet_nil ?_
          rintro _ hnq
          have hzq := ext_sz hnq
          obtain ⟨nq, rfl⟩ := hnq
          (try simp at hzq)
          go_wp2_with fail
          go_ret
          exact ⟨ret_bool (FA.out KE.out).symm, ext_mk (hbw.out.trans ((BZ.out.mono hbsz).trans (Below.mono (by (repeat' (first | (with_reducible exact Below.refl _ _) | (with_reducible assumption) | (with_reducible refine below_ext _ ?_ ?_) | (with_reducible refine Below.alloc ?_ ?_ _) | (with_reducible refine Below.drew ?_) | (with_reducible refine below_drewN ?_ _) | (with_reducible refine le_drewN _ ?_) | (with_reducible refine Below.setCell ?_ ?_ _) | (with_reducible exact Nat.le_refl _) | (with_reducible refine le_ext _ ?_) | (with_reducible refine le_alloc _ ?_) | (with_reducible refine le_setCell _ _ ?_) | (with_reducible refine le_drew ?_) | omega | (simp; done) | (simp; omega)))) (Nat.le_trans hbsz BZ.out.size))))⟩
      by_cases hc2 : j1 = i
      · have cji : (((j : Nat) : Int) == (i : Int)) = false := by rw [beq_eq_false_iff_ne]; omega
        have mji : (((j : Nat) : Int) != (i : Int)) = true := by rw [bne_iff_ne]; omega
        have cjk : (((j : Nat) : Int) == (k : Int)) = false := by rw [beq_eq_false_iff_ne]; omega
        have mjk : (((j : Nat) : Int) != (k : Int)) = true := by rw [bne_iff_ne]; omega
        have cj1i : (((j1 : Nat) : Int) == (i : Int)) = true := by rw [beq_iff_eq]; omega
        have mj1i : (((j1 : Nat) : Int) != (i : Int)) = false := by rw [bne_eq_false_iff_eq]; omega
        have cj1k : (((j1 : Nat) : Int) == (k : Int)) = false := by rw [beq_eq_false_iff_ne]; omega
        have mj1k : (((j1 : Nat) : Int) != (k : Int)) = true := by rw [bne_iff_ne]; omega
        have KE : Hid (EI = !V1) := hide (by rw [EV.out, if_pos (by omega), decide_eq_true (show j ≠ i ∧ j ≠ k by omega), Bool.true_and, decide_eq_false (show ¬ (j1 ≠ i ∧ j1 ≠ k) by omega), Bool.false_and, Bool.or_false])
        clear EV mi mk mj RE hc0 hc1 hc2 hd1 hd2 hd3 O2
        cases V1
        · skip
          go_wp2_with fail
          refine (EOj.out _ (hbw.out.trans (by (repeat' (first | (with_reducible exact Below.refl _ _) | (with_reducible assumption) | (with_reducible refine below_ext _ ?_ ?_) | (with_reducible refine Below.alloc ?_ ?_ _) | (with_reducible refine Below.drew ?_) | (with_reducible refine below_drewN ?_ _) | (with_reducible refine le_drewN _ ?_) | (with_reducible refine Below.setCell ?_ ?_ _) | (with_reducible exact Nat.le_refl _) | (with_reducible refine le_ext _ ?_) | (with_reducible refine le_alloc _ ?_) | (with_reducible refine le_setCell _ _ ?_) | (with_reducible refine le_drew ?_) | omega | (simp; done) | (simp; omega)))))).mono ?_
          rintro e w' ⟨rfl, hw'⟩; have hzy1 := ext_sz hw'; obtain ⟨y1, rfl⟩ := hw'; (try simp at hzy1)
          have BZ := hide (show Below wr.heap.size wr ((ext wr y1).alloc (.cells #[.int .i64 X1, .int .i64 Y1, .int .i64 X2, .int .i64 Y2] 62)) from (by (repeat' (first | (with_reducible exact Below.refl _ _) | (with_reducible assumption) | (with_reducible refine below_ext _ ?_ ?_) | (with_reducible refine Below.alloc ?_ ?_ _) | (with_reducible refine Below.drew ?_) | (with_reducible refine below_drewN ?_ _) | (with_reducible refine le_drewN _ ?_) | (with_reducible refine Below.setCell ?_ ?_ _) | (with_reducible exact Nat.le_refl _) | (with_reducible refine le_ext _ ?_) | (with_reducible refine le_alloc _ ?_) | (with_reducible refine le_setCell _ _ ?_) | (with_reducible refine le_drew ?_) | omega | (simp; done) | (simp; omega)))))
          have t0 := heap_cell ((BZ.out.block w.heap.size (by omega)).trans bx)
          have t00 := t0 0
          have t01 := t0 1
          have t02 := t0 2
          have t03 := t0 3
          have r1 := (BZ.out.cell (p := ⟨b, o + j * 2, none⟩) (by simp; omega)).trans g1
          have r2 := (BZ.out.cell (p := ⟨b, o + j * 2 + 1, none⟩) (by simp; omega)).trans g2
          have r3 := (BZ.out.cell (p := ⟨b, o + j1 * 2, none⟩) (by simp; omega)).trans g3
          have r4 := (BZ.out.cell (p := ⟨b, o + j1 * 2 + 1, none⟩) (by simp; omega)).trans g4
          have t1 := heap_cell (heap_alloc_new (ext wr y1) (.cells #[.int .i64 X1, .int .i64 Y1, .int .i64 X2, .int .i64 Y2] 62))
          have t10 := t1 0
          have t11 := t1 1
          have t12 := t1 2
          have t13 := t1 3
          simp at t00 t01 t02 t03
          simp at t10 t11 t12 t13
          have SZ : wr.heap.size + 1 ≤ ((ext wr y1).alloc (.cells #[.int .i64 X1, .int .i64 Y1, .int .i64 X2, .int .i64 Y2] 62)).heap.size := by simp; omega
          clear t0 t1
          go_wp2_with fail
          generalize hA0 : (ext wr y1).heap.size = BA at *
          generalize hWa : (ext wr y1).alloc (.cells #[.int .i64 X1, .int .i64 Y1, .int .i64 X2, .int .i64 Y2] 62) = Wa at *
          clear hWa hA0 bx g1 g2 g3 g4
          refine wp_region_ext (by kernel_rfl) (by kernel_rfl) ?_
          repeat (go_big_quiet_step ((first | (go_at_call 102; exact Calls.in_ext (O1.out _)))))
          refine wpQuiet_nil ?_
          rintro _ hnq
          have hzq := ext_sz hnq
          obtain ⟨nq, rfl⟩ := hnq
          (try simp at hzq)
          go_wp2_with fail
          exact ⟨⟨j + 1, by omega, by go_num, hide (NF.out KE.out), hbel.trans ((BZ.out.mono hsz).trans (Below.mono (by (repeat' (first | (with_reducible exact Below.refl _ _) | (with_reducible assumption) | (with_reducible refine below_ext _ ?_ ?_) | (with_reducible refine Below.alloc ?_ ?_ _) | (with_reducible refine Below.drew ?_) | (with_reducible refine below_drewN ?_ _) | (with_reducible refine le_drewN _ ?_) | (with_reducible refine Below.setCell ?_ ?_ _) | (with_reducible exact Nat.le_refl _) | (with_reducible refine le_ext _ ?_) | (with_reducible refine le_alloc _ ?_) | (with_reducible refine le_setCell _ _ ?_) | (with_reducible refine le_drew ?_) | omega | (simp; done) | (simp; omega)))) (Nat.le_trans hsz BZ.out.size)))⟩, by simp [intOf]; omega⟩
        · skip
          go_wp2_with fail
          refine (EOj.out _ (hbw.out.trans (by (repeat' (first | (with_reducible exact Below.refl _ _) | (with_reducible assumption) | (with_reducible refine below_ext _ ?_ ?_) | (with_reducible refine Below.alloc ?_ ?_ _) | (with_reducible refine Below.drew ?_) | (with_reducible refine below_drewN ?_ _) | (with_reducible refine le_drewN _ ?_) | (with_reducible refine Below.setCell ?_ ?_ _) | (with_reducible exact Nat.le_refl _) | (with_reducible refine le_ext _ ?_) | (with_reducible refine le_alloc _ ?_) | (with_reducible refine le_setCell _ _ ?_) | (with_reducible refine le_drew ?_) | omega | (simp; done) | (simp; omega)))))).mono ?_
          rintro e w' ⟨rfl, hw'⟩; have hzy1 := ext_sz hw'; obtain ⟨y1, rfl⟩ := hw'; (try simp at hzy1)
          have BZ := hide (show Below wr.heap.size wr ((ext wr y1).alloc (.cells #[.int .i64 X1, .int .i64 Y1, .int .i64 X2, .int .i64 Y2] 62)) from (by (repeat' (first | (with_reducible exact Below.refl _ _) | (with_reducible assumption) | (with_reducible refine below_ext _ ?_ ?_) | (with_reducible refine Below.alloc ?_ ?_ _) | (with_reducible refine Below.drew ?_) | (with_reducible refine below_drewN ?_ _) | (with_reducible refine le_drewN _ ?_) | (with_reducible refine Below.setCell ?_ ?_ _) | (with_reducible exact Nat.le_refl _) | (with_reducible refine le_ext _ ?_) | (with_reducible refine le_alloc _ ?_) | (with_reducible refine le_setCell _ _ ?_) | (with_reducible refine le_drew ?_) | omega | (simp; done) | (simp; omega)))))
          have t0 := heap_cell ((BZ.out.block w.heap.size (by omega)).trans bx)
          have t00 := t0 0
          have t01 := t0 1
          have t02 := t0 2
          have t03 := t0 3
          have r1 := (BZ.out.cell (p := ⟨b, o + j * 2, none⟩) (by simp; omega)).trans g1
          have r2 := (BZ.out.cell (p := ⟨b, o + j * 2 + 1, none⟩) (by simp; omega)).trans g2
          have r3 := (BZ.out.cell (p := ⟨b, o + j1 * 2, none⟩) (by simp; omega)).trans g3
          have r4 := (BZ.out.cell (p := ⟨b, o + j1 * 2 + 1, none⟩) (by simp; omega)).trans g4
          have t1 := heap_cell (heap_alloc_new (ext wr y1) (.cells #[.int .i64 X1, .int .i64 Y1, .int .i64 X2, .int .i64 Y2] 62))
          have t10 := t1 0
          have t11 := t1 1
          have t12 := t1 2
          have t13 := t1 3
          simp at t00 t01 t02 t03
          simp at t10 t11 t12 t13
          have SZ : wr.heap.size + 1 ≤ ((ext wr y1).alloc (.cells #[.int .i64 X1, .int .i64 Y1, .int .i64 X2, .int .i64 Y2] 62)).heap.size := by simp; omega
          clear t0 t1
          go_wp2_with fail
          generalize hA0 : (ext wr y1).heap.size = BA at *
          generalize hWa : (ext wr y1).alloc (.cells #[.int .i64 X1, .int .i64 Y1, .int .i64 X2, .int .i64 Y2] 62) = Wa at *
          clear hWa hA0 bx g1 g2 g3 g4
          refine wp_region_ext (by kernel_rfl) (by kernel_rfl) ?_
          repeat (go_big_quiet_step ((first | (go_at_call 102; exact Calls.in_ext (O1.out _)))))
          refine wpQuiet_nil ?_
          rintro _ hnq
          have hzq := ext_sz hnq
          obtain ⟨nq, rfl⟩ := hnq
          (try simp at hzq)
          go_wp2_with fail
          go_ret
          exact ⟨ret_bool (FA.out KE.out).symm, ext_mk (hbw.out.trans ((BZ.out.mono hbsz).trans (Below.mono (by (repeat' (first | (with_reducible exact Below.refl _ _) | (with_reducible assumption) | (with_reducible refine below_ext _ ?_ ?_) | (with_reducible refine Below.alloc ?_ ?_ _) | (with_reducible refine Below.drew ?_) | (with_reducible refine below_drewN ?_ _) | (with_reducible refine le_drewN _ ?_) | (with_reducible refine Below.setCell ?_ ?_ _) | (with_reducible exact Nat.le_refl _) | (with_reducible refine le_ext _ ?_) | (with_reducible refine le_alloc _ ?_) | (with_reducible refine le_setCell _ _ ?_) | (with_reducible refine le_drew ?_) | omega | (simp; done) | (simp; omega)))) (Nat.le_trans hbsz BZ.out.size))))⟩
      by_cases hc3 : j1 = k
      · have cji : (((j : Nat) : Int) == (i : Int)) = false := by rw [beq_eq_false_iff_ne]; omega
        have mji : (((j : Nat) : Int) != (i : Int)) = true := by rw [bne_iff_ne]; omega
        have cjk : (((j : Nat) : Int) == (k : Int)) = false := by rw [beq_eq_false_iff_ne]; omega
        have mjk : (((j : Nat) : Int) != (k : Int)) = true := by rw [bne_iff_ne]; omega
        have cj1i : (((j1 : Nat) : Int) == (i : Int)) = false := by rw [beq_eq_false_iff_ne]; omega
        have mj1i : (((j1 : Nat) : Int) != (i : Int)) = true := by rw [bne_iff_ne]; omega
        have cj1k : (((j1 : Nat) : Int) == (k : Int)) = true := by rw [beq_iff_eq]; omega
        have mj1k : (((j1 : Nat) : Int) != (k : Int)) = false := by rw [bne_eq_false_iff_eq]; omega
        have KE : Hid (EI = !V1) := hide (by rw [EV.out, if_pos (by omega), decide_eq_true (show j ≠ i ∧ j ≠ k by omega), Bool.true_and, decide_eq_false (show ¬ (j1 ≠ i ∧ j1 ≠ k) by omega), Bool.false_and, Bool.or_false])
        clear EV mi mk mj RE hc0 hc1 hc2 hc3 hd1 hd2 hd3 O2
        cases V1
        · skip
          go_wp2_with fail
          refine (EOj.out _ (hbw.out.trans (by (repeat' (first | (with_reducible exact Below.refl _ _) | (with_reducible assumption) | (with_reducible refine below_ext _ ?_ ?_) | (with_reducible refine Below.alloc ?_ ?_ _) | (with_reducible refine Below.drew ?_) | (with_reducible refine below_drewN ?_ _) | (with_reducible refine le_drewN _ ?_) | (with_reducible refine Below.setCell ?_ ?_ _) | (with_reducible exact Nat.le_refl _) | (with_reducible refine le_ext _ ?_) | (with_reducible refine le_alloc _ ?_) | (with_reducible refine le_setCell _ _ ?_) | (with_reducible refine le_drew ?_) | omega | (simp; done) | (simp; omega)))))).mono ?_
          rintro e w' ⟨rfl, hw'⟩; have hzy1 := ext_sz hw'; obtain ⟨y1, rfl⟩ := hw'; (try simp at hzy1)
          have BZ := hide (show Below wr.heap.size wr ((ext wr y1).alloc (.cells #[.int .i64 X1, .int .i64 Y1, .int .i64 X2, .int .i64 Y2] 62)) from (by (repeat' (first | (with_reducible exact Below.refl _ _) | (with_reducible assumption) | (with_reducible refine below_ext _ ?_ ?_) | (with_reducible refine Below.alloc ?_ ?_ _) | (with_reducible refine Below.drew ?_) | (with_reducible refine below_drewN ?_ _) | (with_reducible refine le_drewN _ ?_) | (with_reducible refine Below.setCell ?_ ?_ _) | (with_reducible exact Nat.le_refl _) | (with_reducible refine le_ext _ ?_) | (with_reducible refine le_alloc _ ?_) | (with_reducible refine le_setCell _ _ ?_) | (with_reducible refine le_drew ?_) | omega | (simp; done) | (simp; omega)))))
          have t0 := heap_cell ((BZ.out.block w.heap.size (by omega)).trans bx)
          have t00 := t0 0
          have t01 := t0 1
          have t02 := t0 2
          have t03 := t0 3
          have r1 := (BZ.out.cell (p := ⟨b, o + j * 2, none⟩) (by simp; omega)).trans g1
          have r2 := (BZ.out.cell (p := ⟨b, o + j * 2 + 1, none⟩) (by simp; omega)).trans g2
          have r3 := (BZ.out.cell (p := ⟨b, o + j1 * 2, none⟩) (by simp; omega)).trans g3
          have r4 := (BZ.out.cell (p := ⟨b, o + j1 * 2 + 1, none⟩) (by simp; omega)).trans g4
          have t1 := heap_cell (heap_alloc_new (ext wr y1) (.cells #[.int .i64 X1, .int .i64 Y1, .int .i64 X2, .int .i64 Y2] 62))
          have t10 := t1 0
          have t11 := t1 1
          have t12 := t1 2
          have t13 := t1 3
          simp at t00 t01 t02 t03
          simp at t10 t11 t12 t13
          have SZ : wr.heap.size + 1 ≤ ((ext wr y1).alloc (.cells #[.int .i64 X1, .int .i64 Y1, .int .i64 X2, .int .i64 Y2] 62)).heap.size := by simp; omega
          clear t0 t1
          go_wp2_with fail
          generalize hA0 : (ext wr y1).heap.size = BA at *
          generalize hWa : (ext wr y1).alloc (.cells #[.int .i64 X1, .int .i64 Y1, .int .i64 X2, .int .i64 Y2] 62) = Wa at *
          clear hWa hA0 bx g1 g2 g3 g4
          refine wp_region_ext (by kernel_rfl) (by kernel_rfl) ?_
          repeat (go_big_quiet_step ((first | (go_at_call 102; exact Calls.in_ext (O1.out _)))))
          refine wpQuiet_nil ?_
          rintro _ hnq
          have hzq := ext_sz hnq
          obtain ⟨nq, rfl⟩ := hnq
          (try simp at hzq)
          go_wp2_with fail
          exact ⟨⟨j + 1, by omega, by go_num, hide (NF.out KE.out), hbel.trans ((BZ.out.mono hsz).trans (Below.mono (by (repeat' (first | (with_reducible exact Below.refl _ _) | (with_reducible assumption) | (with_reducible refine below_ext _ ?_ ?_) | (with_reducible refine Below.alloc ?_ ?_ _) | (with_reducible refine Below.drew ?_) | (with_reducible refine below_drewN ?_ _) | (with_reducible refine le_drewN _ ?_) | (with_reducible refine Below.setCell ?_ ?_ _) | (with_reducible exact Nat.le_refl _) | (with_reducible refine le_ext _ ?_) | (with_reducible refine le_alloc _ ?_) | (with_reducible refine le_setCell _ _ ?_) | (with_reducible refine le_drew ?_) | omega | (simp; done) | (simp; omega)))) (Nat.le_trans hsz BZ.out.size)))⟩, by simp [intOf]; omega⟩
        · skip
          go_wp2_with fail
          refine (EOj.out _ (hbw.out.trans (by (repeat' (first | (with_reducible exact Below.refl _ _) | (with_reducible assumption) | (with_reducible refine below_ext _ ?_ ?_) | (with_reducible refine Below.alloc ?_ ?_ _) | (with_reducible refine Below.drew ?_) | (with_reducible refine below_drewN ?_ _) | (with_reducible refine le_drewN _ ?_) | (with_reducible refine Below.setCell ?_ ?_ _) | (with_reducible exact Nat.le_refl _) | (with_reducible refine le_ext _ ?_) | (with_reducible refine le_alloc _ ?_) | (with_reducible refine le_setCell _ _ ?_) | (with_reducible refine le_drew ?_) | omega | (simp; done) | (simp; omega)))))).mono ?_
          rintro e w' ⟨rfl, hw'⟩; have hzy1 := ext_sz hw'; obtain ⟨y1, rfl⟩ := hw'; (try simp at hzy1)
          have BZ := hide (show Below wr.heap.size wr ((ext wr y1).alloc (.cells #[.int .i64 X1, .int .i64 Y1, .int .i64 X2, .int .i64 Y2] 62)) from (by (repeat' (first | (with_reducible exact Below.refl _ _) | (with_reducible assumption) | (with_reducible refine below_ext _ ?_ ?_) | (with_reducible refine Below.alloc ?_ ?_ _) | (with_reducible refine Below.drew ?_) | (with_reducible refine below_drewN ?_ _) | (with_reducible refine le_drewN _ ?_) | (with_reducible refine Below.setCell ?_ ?_ _) | (with_reducible exact Nat.le_refl _) | (with_reducible refine le_ext _ ?_) | (with_reducible refine le_alloc _ ?_) | (with_reducible refine le_setCell _ _ ?_) | (with_reducible refine le_drew ?_) | omega | (simp; done) | (simp; omega)))))
          have t0 := heap_cell ((BZ.out.block w.heap.size (by omega)).trans bx)
          have t00 := t0 0
          have t01 := t0 1
          have t02 := t0 2
          have t03 := t0 3
          have r1 := (BZ.out.cell (p := ⟨b, o + j * 2, none⟩) (by simp; omega)).trans g1
          have r2 := (BZ.out.cell (p := ⟨b, o + j * 2 + 1, none⟩) (by simp; omega)).trans g2
          have r3 := (BZ.out.cell (p := ⟨b, o + j1 * 2, none⟩) (by simp; omega)).trans g3
          have r4 := (BZ.out.cell (p := ⟨b, o + j1 * 2 + 1, none⟩) (by simp; omega)).trans g4
          have t1 := heap_cell (heap_alloc_new (ext wr y1) (.cells #[.int .i64 X1, .int .i64 Y1, .int .i64 X2, .int .i64 Y2] 62))
          have t10 := t1 0
          have t11 := t1 1
          have t12 := t1 2
          have t13 := t1 3
          simp at t00 t01 t02 t03
          simp at t10 t11 t12 t13
          have SZ : wr.heap.size + 1 ≤ ((ext wr y1).alloc (.cells #[.int .i64 X1, .int .i64 Y1, .int .i64 X2, .int .i64 Y2] 62)).heap.size := by simp; omega
          clear t0 t1
          go_wp2_with fail
          generalize hA0 : (ext wr y1).heap.size = BA at *
          generalize hWa : (ext wr y1).alloc (.cells #[.int .i64 X1, .int .i64 Y1, .int .i64 X2, .int .i64 Y2] 62) = Wa at *
          clear hWa hA0 bx g1 g2 g3 g4
          refine wp_region_ext (by kernel_rfl) (by kernel_rfl) ?_
          repeat (go_big_quiet_step ((first | (go_at_call 102; exact Calls.in_ext (O1.out _)))))
          refine wpQuiet_nil ?_
          rintro _ hnq
          have hzq := ext_sz hnq
          obtain ⟨nq, rfl⟩ := hnq
          (try simp at hzq)
          go_wp2_with fail
          go_ret
          exact ⟨ret_bool (FA.out KE.out).symm, ext_mk (hbw.out.trans ((BZ.out.mono hbsz).trans (Below.mono (by (repeat' (first | (with_reducible exact Below.refl _ _) | (with_reducible assumption) | (with_reducible refine below_ext _ ?_ ?_) | (with_reducible refine Below.alloc ?_ ?_ _) | (with_reducible refine Below.drew ?_) | (with_reducible refine below_drewN ?_ _) | (with_reducible refine le_drewN _ ?_) | (with_reducible refine Below.setCell ?_ ?_ _) | (with_reducible exact Nat.le_refl _) | (with_reducible refine le_ext _ ?_) | (with_reducible refine le_alloc _ ?_) | (with_reducible refine le_setCell _ _ ?_) | (with_reducible refine le_drew ?_) | omega | (simp; done) | (simp; omega)))) (Nat.le_trans hbsz BZ.out.size))))⟩
      have cji : (((j : Nat) : Int) == (i : Int)) = false := by rw [beq_eq_false_iff_ne]; omega
      have cjk : (((j : Nat) : Int) == (k : Int)) = false := by rw [beq_eq_false_iff_ne]; omega
      have cj1i : (((j1 : Nat) : Int) == (i : Int)) = false := by rw [beq_eq_false_iff_ne]; omega
      have cj1k : (((j1 : Nat) : Int) == (k : Int)) = false := by rw [beq_eq_false_iff_ne]; omega
      have EV := hide (EV.out.trans (if_neg (by omega)))
      clear mi mk mj hc0 hc1 hc2 hc3 hd1 hd2 hd3 O1 O2
      by_cases hr : RI = 0
      · have dR : (RI != 0) = false := by simp [hr]
        have KE : Hid (EI = true) := hide (by rw [EV.out, decide_eq_true hr])
        clear EV hr
        go_wp2_with fail
        refine (EOj.out _ (hbw.out.trans (by (repeat' (first | (with_reducible exact Below.refl _ _) | (with_reducible assumption) | (with_reducible refine below_ext _ ?_ ?_) | (with_reducible refine Below.alloc ?_ ?_ _) | (with_reducible refine Below.drew ?_) | (with_reducible refine below_drewN ?_ _) | (with_reducible refine le_drewN _ ?_) | (with_reducible refine Below.setCell ?_ ?_ _) | (with_reducible exact Nat.le_refl _) | (with_reducible refine le_ext _ ?_) | (with_reducible refine le_alloc _ ?_) | (with_reducible refine le_setCell _ _ ?_) | (with_reducible refine le_drew ?_) | omega | (simp; done) | (simp; omega)))))).mono ?_
        rintro e w' ⟨rfl, hw'⟩; have hzy1 := ext_sz hw'; obtain ⟨y1, rfl⟩ := hw'; (try simp at hzy1)
        have BZ := hide (show Below wr.heap.size wr ((ext wr y1).alloc (.cells #[.int .i64 X1, .int .i64 Y1, .int .i64 X2, .int .i64 Y2] 62)) from (by (repeat' (first | (with_reducible exact Below.refl _ _) | (with_reducible assumption) | (with_reducible refine below_ext _ ?_ ?_) | (with_reducible refine Below.alloc ?_ ?_ _) | (with_reducible refine Below.drew ?_) | (with_reducible refine below_drewN ?_ _) | (with_reducible refine le_drewN _ ?_) | (with_reducible refine Below.setCell ?_ ?_ _) | (with_reducible exact Nat.le_refl _) | (with_reducible refine le_ext _ ?_) | (with_reducible refine le_alloc _ ?_) | (with_reducible refine le_setCell _ _ ?_) | (with_reducible refine le_drew ?_) | omega | (simp; done) | (simp; omega)))))
        have t0 := heap_cell ((BZ.out.block w.heap.size (by omega)).trans bx)
        have t00 := t0 0
        have t01 := t0 1
        have t02 := t0 2
        have t03 := t0 3
        have r1 := (BZ.out.cell (p := ⟨b, o + j * 2, none⟩) (by simp; omega)).trans g1
        have r2 := (BZ.out.cell (p := ⟨b, o + j * 2 + 1, none⟩) (by simp; omega)).trans g2
        have r3 := (BZ.out.cell (p := ⟨b, o + j1 * 2, none⟩) (by simp; omega)).trans g3
        have r4 := (BZ.out.cell (p := ⟨b, o + j1 * 2 + 1, none⟩) (by simp; omega)).trans g4
        have t1 := heap_cell (heap_alloc_new (ext wr y1) (.cells #[.int .i64 X1, .int .i64 Y1, .int .i64 X2, .int .i64 Y2] 62))
        have t10 := t1 0
        have t11 := t1 1
        have t12 := t1 2
        have t13 := t1 3
        simp at t00 t01 t02 t03
        simp at t10 t11 t12 t13
        have SZ : wr.heap.size + 1 ≤ ((ext wr y1).alloc (.cells #[.int .i64 X1, .int .i64 Y1, .int .i64 X2, .int .i64 Y2] 62)).heap.size := by simp; omega
        clear t0 t1
        go_wp2_with fail
        generalize hA0 : (ext wr y1).heap.size = BA at *
        generalize hWa : (ext wr y1).alloc (.cells #[.int .i64 X1, .int .i64 Y1, .int .i64 X2, .int .i64 Y2] 62) = Wa at *
        clear hWa hA0 bx g1 g2 g3 g4
        refine (RE.out _).mono ?_
        rintro e w' ⟨rfl, hw'⟩; have hzy2 := ext_sz hw'; obtain ⟨y2, rfl⟩ := hw'; (try simp at hzy2)
        go_wp2_with fail
        exact ⟨⟨j + 1, by omega, by go_num, hide (NF.out KE.out), hbel.trans ((BZ.out.mono hsz).trans (Below.mono (by (repeat' (first | (with_reducible exact Below.refl _ _) | (with_reducible assumption) | (with_reducible refine below_ext _ ?_ ?_) | (with_reducible refine Below.alloc ?_ ?_ _) | (with_reducible refine Below.drew ?_) | (with_reducible refine below_drewN ?_ _) | (with_reducible refine le_drewN _ ?_) | (with_reducible refine Below.setCell ?_ ?_ _) | (with_reducible exact Nat.le_refl _) | (with_reducible refine le_ext _ ?_) | (with_reducible refine le_alloc _ ?_) | (with_reducible refine le_setCell _ _ ?_) | (with_reducible refine le_drew ?_) | omega | (simp; done) | (simp; omega)))) (Nat.le_trans hsz BZ.out.size)))⟩, by simp [intOf]; omega⟩
      · have dR : (RI != 0) = true := by simp [hr]
        have KE : Hid (EI = false) := hide (by rw [EV.out, decide_eq_false hr])
        clear EV hr
        go_wp2_with fail
        refine (EOj.out _ (hbw.out.trans (by (repeat' (first | (with_reducible exact Below.refl _ _) | (with_reducible assumption) | (with_reducible refine below_ext _ ?_ ?_) | (with_reducible refine Below.alloc ?_ ?_ _) | (with_reducible refine Below.drew ?_) | (with_reducible refine below_drewN ?_ _) | (with_reducible refine le_drewN _ ?_) | (with_reducible refine Below.setCell ?_ ?_ _) | (with_reducible exact Nat.le_refl _) | (with_reducible refine le_ext _ ?_) | (with_reducible refine le_alloc _ ?_) | (with_reducible refine le_setCell _ _ ?_) | (with_reducible refine le_drew ?_) | omega | (simp; done) | (simp; omega)))))).mono ?_
        rintro e w' ⟨rfl, hw'⟩; have hzy1 := ext_sz hw'; obtain ⟨y1, rfl⟩ := hw'; (try simp at hzy1)
        have BZ := hide (show Below wr.heap.size wr ((ext wr y1).alloc (.cells #[.int .i64 X1, .int .i64 Y1, .int .i64 X2, .int .i64 Y2] 62)) from (by (repeat' (first | (with_reducible exact Below.refl _ _) | (with_reducible assumption) | (with_reducible refine below_ext _ ?_ ?_) | (with_reducible refine Below.alloc ?_ ?_ _) | (with_reducible refine Below.drew ?_) | (with_reducible refine below_drewN ?_ _) | (with_reducible refine le_drewN _ ?_) | (with_reducible refine Below.setCell ?_ ?_ _) | (with_reducible exact Nat.le_refl _) | (with_reducible refine le_ext _ ?_) | (with_reducible refine le_alloc _ ?_) | (with_reducible refine le_setCell _ _ ?_) | (with_reducible refine le_drew ?_) | omega | (simp; done) | (simp; omega)))))
        have t0 := heap_cell ((BZ.out.block w.heap.size (by omega)).trans bx)
        have t00 := t0 0
        have t01 := t0 1
        have t02 := t0 2
        have t03 := t0 3
        have r1 := (BZ.out.cell (p := ⟨b, o + j * 2, none⟩) (by simp; omega)).trans g1
        have r2 := (BZ.out.cell (p := ⟨b, o + j * 2 + 1, none⟩) (by simp; omega)).trans g2
        have r3 := (BZ.out.cell (p := ⟨b, o + j1 * 2, none⟩) (by simp; omega)).trans g3
        have r4 := (BZ.out.cell (p := ⟨b, o + j1 * 2 + 1, none⟩) (by simp; omega)).trans g4
        have t1 := heap_cell (heap_alloc_new (ext wr y1) (.cells #[.int .i64 X1, .int .i64 Y1, .int .i64 X2, .int .i64 Y2] 62))
        have t10 := t1 0
        have t11 := t1 1
        have t12 := t1 2
        have t13 := t1 3
        simp at t00 t01 t02 t03
        simp at t10 t11 t12 t13
        have SZ : wr.heap.size + 1 ≤ ((ext wr y1).alloc (.cells #[.int .i64 X1, .int .i64 Y1, .int .i64 X2, .int .i64 Y2] 62)).heap.size := by simp; omega
        clear t0 t1
        go_wp2_with fail
        generalize hA0 : (ext wr y1).heap.size = BA at *
        generalize hWa : (ext wr y1).alloc (.cells #[.int .i64 X1, .int .i64 Y1, .int .i64 X2, .int .i64 Y2] 62) = Wa at *
        clear hWa hA0 bx g1 g2 g3 g4
        refine (RE.out _).mono ?_
        rintro e w' ⟨rfl, hw'⟩; have hzy2 := ext_sz hw'; obtain ⟨y2, rfl⟩ := hw'; (try simp at hzy2)
        go_wp2_with fail
        go_ret
        exact ⟨ret_bool (FA.out KE.out).symm, ext_mk (hbw.out.trans ((BZ.out.mono hbsz).trans (Below.mono (by (repeat' (first | (with_reducible exact Below.refl _ _) | (with_reducible assumption) | (with_reducible refine below_ext _ ?_ ?_) | (with_reducible refine Below.alloc ?_ ?_ _) | (with_reducible refine Below.drew ?_) | (with_reducible refine below_drewN ?_ _) | (with_reducible refine le_drewN _ ?_) | (with_reducible refine Below.setCell ?_ ?_ _) | (with_reducible exact Nat.le_refl _) | (with_reducible refine le_ext _ ?_) | (with_reducible refine le_alloc _ ?_) | (with_reducible refine le_setCell _ _ ?_) | (with_reducible refine le_drew ?_) | omega | (simp; done) | (simp; omega)))) (Nat.le_trans hbsz BZ.out.size))))⟩
    · have hin' : j = n := by omega
      subst hin'
      have K := hide (DL.out HF.out)
      have xk' := (hbw.out.cell (p := ⟨b, o + k * 2, none⟩) hbl).trans xk
      have yk' := (hbw.out.cell (p := ⟨b, o + k * 2 + 1, none⟩) hbl).trans yk
      have hbsz := hbw.out.size
      have IC2 := hide (fun (Z : Option Addr) (c2 : Nat) (W : World) (hb : Below wr.heap.size wr W) (hz : IntsAt W W.heap.size Z (rgL ps)) => IC.out Z c2 W (hbw.out.trans (hb.mono hbsz)) hz)
      clear DL DA RE0 EVj EO CP OS bx xi yi xk yk HF IC
      generalize coneB ps i k = CB at *
      go_wp2_with fail
      refine (RO.out _ hbw.out).mono ?_
      rintro e w5 ⟨v5, rfl, hown5, x5, hw5⟩
      obtain ⟨A5, n5, c5, rfl⟩ := own_slice hown5
      have l5 := hown5.ints.1
      have e5 : j = n5 := by have := LRG.out.2.1; omega
      subst e5
      have Z5 := hide hown5.ints.2.2.2
      have B5 := hide (show Below wr.heap.size wr w5 by rw [hw5]; exact ext_below wr x5)
      have z5 := B5.out.size
      have xk'' := (B5.out.cell (p := ⟨b, o + k * 2, none⟩) (by simp; omega)).trans xk'
      have yk'' := (B5.out.cell (p := ⟨b, o + k * 2 + 1, none⟩) (by simp; omega)).trans yk'
      have IC3 := hide (fun (W : World) (hb : Below w5.heap.size w5 W) => IC2.out A5 c5 W (B5.out.trans (hb.mono z5)) (Z5.out.to hb))
      have PO3 := hide (fun (W : World) (hb : Below w5.heap.size w5 W) => PO.out A5 j c5 LRG.out.2.1 W (Z5.out.to hb))
      clear hown5 hw5 IC2 PO RO xk' yk' LRG l5
      generalize rgI ps i = RI at *
      go_wp2_with fail
      refine wp_region_ext (by kernel_rfl) (by kernel_rfl) ?_
      repeat (go_big_quiet_step ((first | (go_at_call 105; exact Calls.in_ext (PO3.out _ (by (repeat' (first | (with_reducible exact Below.refl _ _) | (with_reducible assumption) | (with_reducible refine below_ext _ ?_ ?_) | (with_reducible refine Below.alloc ?_ ?_ _) | (with_reducible refine Below.drew ?_) | (with_reducible refine below_drewN ?_ _) | (with_reducible refine le_drewN _ ?_) | (with_reducible refine Below.setCell ?_ ?_ _) | (with_reducible exact Nat.le_refl _) | (with_reducible refine le_ext _ ?_) | (with_reducible refine le_alloc _ ?_) | (with_reducible refine le_setCell _ _ ?_) | (with_reducible refine le_drew ?_) | omega | (simp; done) | (simp; omega)))))) | (go_at_call 104; exact Calls.in_ext (IC3.out _ (by (repeat' (first | (with_reducible exact Below.refl _ _) | (with_reducible assumption) | (with_reducible refine below_ext _ ?_ ?_) | (with_reducible refine Below.alloc ?_ ?_ _) | (with_reducible refine Below.drew ?_) | (with_reducible refine below_drewN ?_ _) | (with_reducible refine le_drewN _ ?_) | (with_reducible refine Below.setCell ?_ ?_ _) | (with_reducible exact Nat.le_refl _) | (with_reducible refine le_ext _ ?_) | (with_reducible refine le_alloc _ ?_) | (with_reducible refine le_setCell _ _ ?_) | (with_reducible refine le_drew ?_) | omega | (simp; done) | (simp; omega)))))))))
      refine wpQuiet_nil ?_
      rintro _ hnq
      have hzq := ext_sz hnq
      obtain ⟨nq, rfl⟩ := hnq
      (try simp at hzq)
      go_wp2_with fail
      go_ret
      exact ⟨ret_bool K.out.symm, ext_mk (hbw.out.trans ((B5.out.mono hbsz).trans (Below.mono (by (repeat' (first | (with_reducible exact Below.refl _ _) | (with_reducible assumption) | (with_reducible refine below_ext _ ?_ ?_) | (with_reducible refine Below.alloc ?_ ?_ _) | (with_reducible refine Below.drew ?_) | (with_reducible refine below_drewN ?_ _) | (with_reducible refine le_drewN _ ?_) | (with_reducible refine Below.setCell ?_ ?_ _) | (with_reducible exact Nat.le_refl _) | (with_reducible refine le_ext _ ?_) | (with_reducible refine le_alloc _ ?_) | (with_reducible refine le_setCell _ _ ?_) | (with_reducible refine le_drew ?_) | omega | (simp; done) | (simp; omega)))) (Nat.le_trans hbsz z5))))⟩
end Go.Proofs.Ytdneaakpdibkmaa
