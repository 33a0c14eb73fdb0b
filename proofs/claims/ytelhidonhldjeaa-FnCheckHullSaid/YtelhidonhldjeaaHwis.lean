
/- HullWitness: the reference's; equal lists of rows. -/
import Derived.Test.YtelhidonhldjeaaHwit
set_option linter.unusedVariables false
set_option linter.unusedSimpArgs false
namespace Go.Proofs.Ytelhidonhldjeaa
open Go.RowKit

set_option maxHeartbeats 400000 in
theorem equalInts_any (zs ys : List Int) (A A' : Option Addr) (n c n' c' : Nat) (w : World) (hn : zs.length = n) (hn' : ys.length = n') (hm : n ≤ 2000000) (hm' : n' ≤ 2000000) (hs : IntsAt w w.heap.size A zs) (hs' : IntsAt w w.heap.size A' ys) :
    Calls Try.prog 70 #[.slice A n c, .slice A' n' c'] w fun e w' => e = .returned (.bool (decide (zs = ys))) ∧ ∃ m, w' = ext w m := by
  by_cases hnn : n = n'
  · subst hnn
    have hne : ((n : Int) != (n : Int)) = false := by simp
    go_enter Try.func70, Try.ntmps70
    go_wp2
    go_loopw [5] (fun v wr => ∃ k : Nat, k ≤ n ∧ v = .int .i64 k ∧ Hid (∀ j, j < k → gi zs j = gi ys j) ∧ ∃ x, wr = ext w x) (fun v _ => n - (intOf v).toNat)
    case atStart => exact ⟨0, Nat.zero_le _, rfl, fun j hj => by omega, ext_same w⟩
    case round =>
      obtain ⟨k, hk, rfl, hp, x, rfl⟩ := hrel
      by_cases hlt : k < n
      · obtain ⟨b, o, rfl, hb, hc⟩ := hs (by omega)
        have hx := hc k (by omega)
        obtain ⟨b', o', rfl, hb', hc'⟩ := hs' (by omega)
        have hx' := hc' k (by omega)
        have hsz := ext_size w x
        clear hc hc'
        by_cases ht : gi zs k = gi ys k
        · have HT := hide ht
          go_wp2
          refine wp_region_ext (by kernel_rfl) (by kernel_rfl) ?_
          repeat (go_big_quiet_step (fail))
          refine wpQuiet_nil ?_
          rintro _ hnq
          have hzq := ext_sz hnq
          obtain ⟨nq, rfl⟩ := hnq
          (try simp at hzq)
          go_wp2
          exact ⟨⟨k + 1, by omega, by go_num, fun j hj => by rcases Nat.lt_succ_iff_lt_or_eq.1 hj with h | rfl; exact hp.out j h; exact HT.out, (ext_mk (by (repeat' (first | (with_reducible exact Below.refl _ _) | (with_reducible assumption) | (with_reducible refine below_ext _ ?_ ?_) | (with_reducible refine Below.alloc ?_ ?_ _) | (with_reducible refine Below.drew ?_) | (with_reducible refine below_drewN ?_ _) | (with_reducible refine le_drewN _ ?_) | (with_reducible refine Below.setCell ?_ ?_ _) | (with_reducible exact Nat.le_refl _) | (with_reducible refine le_ext _ ?_) | (with_reducible refine le_alloc _ ?_) | (with_reducible refine le_setCell _ _ ?_) | (with_reducible refine le_drew ?_) | omega | (simp; done) | (simp; omega)))))⟩, by simp [intOf]; omega⟩
        · go_wp2
          refine wp_region_ext (by kernel_rfl) (by kernel_rfl) ?_
          repeat (go_big_quiet_step (fail))
          refine wpQuiet_nil ?_
          rintro _ hnq
          have hzq := ext_sz hnq
          obtain ⟨nq, rfl⟩ := hnq
          (try simp at hzq)
          go_wp2
          go_ret
          exact ⟨ret_bool (decide_eq_false (fun h => ht (by rw [h]))).symm, (ext_mk (by (repeat' (first | (with_reducible exact Below.refl _ _) | (with_reducible assumption) | (with_reducible refine below_ext _ ?_ ?_) | (with_reducible refine Below.alloc ?_ ?_ _) | (with_reducible refine Below.drew ?_) | (with_reducible refine below_drewN ?_ _) | (with_reducible refine le_drewN _ ?_) | (with_reducible refine Below.setCell ?_ ?_ _) | (with_reducible exact Nat.le_refl _) | (with_reducible refine le_ext _ ?_) | (with_reducible refine le_alloc _ ?_) | (with_reducible refine le_setCell _ _ ?_) | (with_reducible refine le_drew ?_) | omega | (simp; done) | (simp; omega)))))⟩
      · have : k = n := by omega
        subst this
        go_wp2
        go_ret
        exact ⟨ret_bool (decide_eq_true (ints_eq (by omega) (fun i hi => hp.out i (by omega)))).symm, (ext_mk (by (repeat' (first | (with_reducible exact Below.refl _ _) | (with_reducible assumption) | (with_reducible refine below_ext _ ?_ ?_) | (with_reducible refine Below.alloc ?_ ?_ _) | (with_reducible refine Below.drew ?_) | (with_reducible refine below_drewN ?_ _) | (with_reducible refine le_drewN _ ?_) | (with_reducible refine Below.setCell ?_ ?_ _) | (with_reducible exact Nat.le_refl _) | (with_reducible refine le_ext _ ?_) | (with_reducible refine le_alloc _ ?_) | (with_reducible refine le_setCell _ _ ?_) | (with_reducible refine le_drew ?_) | omega | (simp; done) | (simp; omega)))))⟩
  · have hne : ((n : Int) != n') = true := by rw [bne_iff_ne]; omega
    go_enter Try.func70, Try.ntmps70
    go_wp2
    go_ret
    exact ⟨ret_bool (decide_eq_false (fun h => hnn (by rw [← hn, ← hn', h]))).symm, (ext_mk (by (repeat' (first | (with_reducible exact Below.refl _ _) | (with_reducible assumption) | (with_reducible refine below_ext _ ?_ ?_) | (with_reducible refine Below.alloc ?_ ?_ _) | (with_reducible refine Below.drew ?_) | (with_reducible refine below_drewN ?_ _) | (with_reducible refine le_drewN _ ?_) | (with_reducible refine Below.setCell ?_ ?_ _) | (with_reducible exact Nat.le_refl _) | (with_reducible refine le_ext _ ?_) | (with_reducible refine le_alloc _ ?_) | (with_reducible refine le_setCell _ _ ?_) | (with_reducible refine le_drew ?_) | omega | (simp; done) | (simp; omega)))))⟩
/-- No row of vs lies below lo. -/
def LowV (lo : Nat) (vs : List Value) : Prop := ∀ (j : Nat) (A : Option Addr) (n c : Nat), vs[j]? = some (Value.slice A n c) → ∀ g o s, A = some ⟨g, o, s⟩ → lo ≤ g
theorem LowV.nil (lo : Nat) : LowV lo [] := fun j A n c h => by simp at h
theorem LowV.snoc {lo : Nat} {vs : List Value} {A : Option Addr} {n c : Nat} (h : LowV lo vs) (hA : ∀ g o s, A = some ⟨g, o, s⟩ → lo ≤ g) : LowV lo (vs ++ [.slice A n c]) := fun j A' n' c' e g o s e2 => by
  by_cases hj : j < vs.length
  · rw [List.getElem?_append_left hj] at e; exact h j A' n' c' e g o s e2
  · rw [List.getElem?_append_right (by omega)] at e
    by_cases h0 : j - vs.length = 0
    · rw [h0] at e
      simp at e
      exact hA g o s (by rw [e.1]; exact e2)
    · rw [List.getElem?_eq_none (by simp; omega)] at e; cases e
/-- A slice of rows, none of which lies below lo. -/
def RowsLo (lo : Nat) (w : World) (A : Option Addr) (n : Nat) (zss : List (List Int)) : Prop := zss.length = n ∧ (A = none → n = 0) ∧ (∀ b o s, A = some ⟨b, o, s⟩ → s = none) ∧ ∃ vs no, VR w no vs zss ∧ LowV lo vs ∧ (0 < n → ∃ g o, A = some ⟨g, o, none⟩ ∧ g < w.heap.size ∧ ∀ i v, vs[i]? = some v → w.cell? ⟨g, o + i, none⟩ = some v)
theorem RowsLo.rows {lo : Nat} {w : World} {A : Option Addr} {n : Nat} {zss : List (List Int)} (h : RowsLo lo w A n zss) : RowsAt w A n zss := by
  obtain ⟨h1, _, _, vs, no, hv, _, hc⟩ := h
  refine ⟨h1, fun h0 => ?_⟩
  obtain ⟨g, o, e, hg, hcc⟩ := hc h0
  exact ⟨g, o, vs, no, e, hg, hv, hcc⟩
theorem OwnV.rowsLo {w : World} {base lo : Nat} {A : Option Addr} {n c : Nat} {vs : List Value} {zss : List (List Int)} {no : Option Nat} (h : OwnV w base (.slice A n c) vs) (hv : VR w no vs zss) (hl : LowV lo vs) : RowsLo lo w A n zss := by
  obtain ⟨h1, _, _, h4⟩ := h.vals
  refine ⟨by rw [← hv.len]; exact h1, ?_, ?_, vs, no, hv, hl, fun h0 => ?_⟩
  · intro e
    refine Classical.byContradiction fun hn => ?_
    obtain ⟨g, hA, _⟩ := h4 (by omega)
    rw [e] at hA; cases hA
  · intro b o s e
    unfold OwnV at h
    rcases h.2 with ⟨hv', _⟩ | ⟨g, cap, cur, hv', _⟩
    · injection hv' with e1; rw [e] at e1; cases e1
    · injection hv' with e1; rw [e] at e1; injection e1 with e1; injection e1 with _ _ e1
  · obtain ⟨g, hA, hg, _, hc⟩ := h4 (by omega)
    exact ⟨g, 0, hA, hg, fun i v hi => by rw [Nat.zero_add]; exact hc i v hi⟩
theorem pts_grown {w W : World} {no : Option Nat} {A : Option Addr} {ps : List Pt} (h : PtsAt w w.heap.size A ps) (hg : w.grownBy W no) (hA : ∀ g o s, A = some ⟨g, o, s⟩ → g < w.heap.size ∧ some g ≠ no) : PtsAt W W.heap.size A ps := fun h0 => by
  obtain ⟨b, o, e, hB, hc⟩ := h h0
  have hb := hg.block b hB (hA b o none e).2
  exact ⟨b, o, e, Nat.lt_of_lt_of_le hB hg.size, fun i hi => ⟨(World.cell?_of_block (a := ⟨b, o + i * 2, none⟩) hb).trans (hc i hi).1, (World.cell?_of_block (a := ⟨b, o + i * 2 + 1, none⟩) hb).trans (hc i hi).2⟩⟩
theorem ne_grown {w W : World} {no no' : Option Nat} {A : Option Addr} (hA : ∀ g o s, A = some ⟨g, o, s⟩ → g < w.heap.size ∧ some g ≠ no) (hg : w.grownBy W no) (hno : no' = no ∨ no' = some w.heap.size) : ∀ g o s, A = some ⟨g, o, s⟩ → g < W.heap.size ∧ some g ≠ no' := fun g o s e => by
  have h1 := hA g o s e
  refine ⟨Nat.lt_of_lt_of_le h1.1 hg.size, ?_⟩
  rcases hno with e2 | e2
  · rw [e2]; exact h1.2
  · rw [e2]; intro e3
    injection e3 with e3
    omega
set_option maxRecDepth 20000 in
set_option maxHeartbeats 2000000 in
theorem sHwit_any (ps : List Pt) (A : Option Addr) (n c : Nat) (w : World) (hn : ps.length = n) (hm : n ≤ 2000000) (hs : PtsAt w w.heap.size A ps) :
    Calls Try.prog 32 #[.slice A n c] w fun e w' => ∃ A' n' c' zss, e = .returned (.slice A' n' c') ∧ RowsLo w.heap.size w' A' n' zss ∧ (if listOk ps then WtsL (hullOf ps) ps n zss else zss = []) ∧ ∃ x, w' = ext w x := by
  have HC := hide (fun (W : World) (hb : Below w.heap.size w W) => validPoints_any ps A n c W hn hm (hs.to hb))
  by_cases h : listOk ps = true
  · obtain ⟨hib, hle⟩ := listOk_InB h
    have HU := hide (fun (W : World) (hb : Below w.heap.size w W) => shull_any ps A n c W hn (by omega) hib (hs.to hb))
    have HB : Hid (∀ p ∈ hullOf ps, (-100000 ≤ p.x ∧ p.x ≤ 100000) ∧ -100000 ≤ p.y ∧ p.y ≤ 100000) := hide (fun p hp => hib p (hullOf_sub hp))
    have PB : Hid (∀ i, i < n → (-100000 ≤ (gp ps i).x ∧ (gp ps i).x ≤ 100000) ∧ -100000 ≤ (gp ps i).y ∧ (gp ps i).y ≤ 100000) := hide (fun i hi => hib _ (gp_mem (by omega)))
    have HL := hide (hullOf_len' ps)
    have k20 : n ≤ 1000 := by omega
    simp only [if_pos h]
    rw [h] at HC
    have HN := hide hn
    have HS := hide hs
    have O1 := hide (OwnV.empty w w.heap.size 0 (Nat.le_refl _) #[] rfl (by simp [maxLen]))
    clear hn hs h hib hle
    go_enter Try.func32, Try.ntmps32
    go_wp2_with fail
    refine (HC.out _ (by (repeat' (first | (with_reducible exact Below.refl _ _) | (with_reducible assumption) | (with_reducible refine below_ext _ ?_ ?_) | (with_reducible refine Below.alloc ?_ ?_ _) | (with_reducible refine Below.drew ?_) | (with_reducible refine below_drewN ?_ _) | (with_reducible refine le_drewN _ ?_) | (with_reducible refine Below.setCell ?_ ?_ _) | (with_reducible exact Nat.le_refl _) | (with_reducible refine le_ext _ ?_) | (with_reducible refine le_alloc _ ?_) | (with_reducible refine le_setCell _ _ ?_) | (with_reducible refine le_drew ?_) | omega | (simp; done) | (simp; omega))))).mono ?_
    rintro e w' ⟨rfl, hw'⟩; have hzy1 := ext_sz hw'; obtain ⟨y1, rfl⟩ := hw'; (try simp at hzy1)
    go_wp2_with fail
    refine (HU.out _ (by (repeat' (first | (with_reducible exact Below.refl _ _) | (with_reducible assumption) | (with_reducible refine below_ext _ ?_ ?_) | (with_reducible refine Below.alloc ?_ ?_ _) | (with_reducible refine Below.drew ?_) | (with_reducible refine below_drewN ?_ _) | (with_reducible refine le_drewN _ ?_) | (with_reducible refine Below.setCell ?_ ?_ _) | (with_reducible exact Nat.le_refl _) | (with_reducible refine le_ext _ ?_) | (with_reducible refine le_alloc _ ?_) | (with_reducible refine le_setCell _ _ ?_) | (with_reducible refine le_drew ?_) | omega | (simp; done) | (simp; omega))))).mono ?_
    rintro e w2 ⟨v2, rfl, own2, hx2⟩
    obtain ⟨A2, n2, c2, rfl⟩ := own2.slice
    have B2 := ext_bel hx2
    have B0 := (show Below (w.alloc (.cells #[] 65)).heap.size (w.alloc (.cells #[] 65)) (ext (w.alloc (.cells #[] 65)) y1) from (by (repeat' (first | (with_reducible exact Below.refl _ _) | (with_reducible assumption) | (with_reducible refine below_ext _ ?_ ?_) | (with_reducible refine Below.alloc ?_ ?_ _) | (with_reducible refine Below.drew ?_) | (with_reducible refine below_drewN ?_ _) | (with_reducible refine le_drewN _ ?_) | (with_reducible refine Below.setCell ?_ ?_ _) | (with_reducible exact Nat.le_refl _) | (with_reducible refine le_ext _ ?_) | (with_reducible refine le_alloc _ ?_) | (with_reducible refine le_setCell _ _ ?_) | (with_reducible refine le_drew ?_) | omega | (simp; done) | (simp; omega)))))
    have B1 := (show Below w.heap.size w (ext (w.alloc (.cells #[] 65)) y1) from (by (repeat' (first | (with_reducible exact Below.refl _ _) | (with_reducible assumption) | (with_reducible refine below_ext _ ?_ ?_) | (with_reducible refine Below.alloc ?_ ?_ _) | (with_reducible refine Below.drew ?_) | (with_reducible refine below_drewN ?_ _) | (with_reducible refine le_drewN _ ?_) | (with_reducible refine Below.setCell ?_ ?_ _) | (with_reducible exact Nat.le_refl _) | (with_reducible refine le_ext _ ?_) | (with_reducible refine le_alloc _ ?_) | (with_reducible refine le_setCell _ _ ?_) | (with_reducible refine le_drew ?_) | omega | (simp; done) | (simp; omega)))))
    have BW := hide (B1.trans (B2.mono B1.size))
    have O4 := hide ((O1.out.below B0).below B2)
    have PR := hide own2.pts.2.2.2
    have L2 := hide own2.pts.1
    have k2 : n2 ≤ 1000 := by have := HL.out; have := HN.out; have := L2.out; omega
    have WS := BW.out.size
    have NB : Hid (∀ g o s, A2 = some ⟨g, o, s⟩ → g < w2.heap.size ∧ some g ≠ some w.heap.size) := hide (fun g o s e => by
      subst e
      have h1 := World.ownsRow.lt own2 g rfl
      have h2 : w.heap.size + 1 ≤ (ext (w.alloc (.cells #[] 65)) y1).heap.size := by have := B0.size; simpa using this
      refine ⟨h1.2, fun e => ?_⟩
      injection e with e
      have := h1.1
      omega)
    clear own2 hx2 B1 B2 B0 O1
    go_wp2_with fail
    go_loopw [3, 5] (fun u3 u5 wr => ∃ (k : Nat) (vs : List Value) (zss : List (List Int)), k ≤ n ∧ u5 = .int .i64 k ∧ OwnV wr w.heap.size u3 vs ∧ Hid (VR wr u3.ownBlock vs zss) ∧ Hid (WtsL (hullOf ps) ps k zss) ∧ Below w.heap.size w wr ∧ Hid (PtsAt wr wr.heap.size A2 (hullOf ps)) ∧ Hid (∀ g o s, A2 = some ⟨g, o, s⟩ → g < wr.heap.size ∧ some g ≠ u3.ownBlock) ∧ Hid (LowV w.heap.size vs)) (fun _ u5 _ => n - (intOf u5).toNat)
    case atStart => exact ⟨0, [], [], Nat.zero_le _, rfl, O4.out, hide (VR.nil _ _), hide ⟨rfl, fun j hj => by omega⟩, BW.out, PR, NB, hide (LowV.nil _)⟩
    case round =>
      obtain ⟨k, vs, zss, hk, rfl, hown, HV, HW, hbel, PH, NB, LV⟩ := hrel
      obtain ⟨A0, n0, c0, rfl⟩ := hown.slice
      have hsz := hbel.size
      have lv := hown.vals.1
      have lz := HW.out.1
      have lvz := HV.out.len
      have OWN0 := hide hown
      have LT0 : Hid (∀ k, (Value.slice A0 n0 c0).ownBlock = some k → k < wr.heap.size) := hide (fun k hk => (World.ownsRow.lt hown k hk).2)
      clear hown
      by_cases hlt : k < n
      · obtain ⟨b, o, rfl, hbl, hc⟩ := HS.out (by rw [HN.out]; omega)
        obtain ⟨hx0, hy0⟩ := hc k (by rw [HN.out]; omega)
        obtain ⟨p1, p2⟩ := PB.out k hlt
        have hx := (hbel.cell (p := ⟨b, o + k * 2, none⟩) hbl).trans hx0
        have hy := (hbel.cell (p := ⟨b, o + k * 2 + 1, none⟩) hbl).trans hy0
        change wr.cell? ⟨b, o + k * 2, none⟩ = some (.int .i64 (gp ps k).x) at hx
        change wr.cell? ⟨b, o + k * 2 + 1, none⟩ = some (.int .i64 (gp ps k).y) at hy
        have WT := hide (fun (W : World) (hb : Below wr.heap.size wr W) => swit_any (hullOf ps) (gp ps k).x (gp ps k).y A2 n2 c2 W L2.out k2 HB.out p1 p2 (PH.out.to hb))
        have SN := hide (fun (zs : List Int) (hw : isWL (hullOf ps) ⟨(gp ps k).x, (gp ps k).y⟩ zs) => HW.out.snoc (show isWL (hullOf ps) (gp ps k) zs from hw))
        have q1 : (0 : Int) ≤ (k : Int) := by omega
        have q2' : (k : Int) < (n : Int) := by omega
        clear hc hx0 hy0 p1 p2
        generalize (gp ps k).x = X at *
        generalize (gp ps k).y = Y at *
        go_wp2_with fail
        refine (WT.out _ (by (repeat' (first | (with_reducible exact Below.refl _ _) | (with_reducible assumption) | (with_reducible refine below_ext _ ?_ ?_) | (with_reducible refine Below.alloc ?_ ?_ _) | (with_reducible refine Below.drew ?_) | (with_reducible refine below_drewN ?_ _) | (with_reducible refine le_drewN _ ?_) | (with_reducible refine Below.setCell ?_ ?_ _) | (with_reducible exact Nat.le_refl _) | (with_reducible refine le_ext _ ?_) | (with_reducible refine le_alloc _ ?_) | (with_reducible refine le_setCell _ _ ?_) | (with_reducible refine le_drew ?_) | omega | (simp; done) | (simp; omega))))).mono ?_
        rintro e w5 ⟨v5, zs, rfl, hw5, own5, hx5⟩
        obtain ⟨A5, n5, c5, rfl⟩ := own_slice own5
        have I5 := hide own5.ints
        have E5 := hide (ext_bel hx5)
        have NW := hide (SN.out zs hw5)
        have hs5 := E5.out.size
        have OW5 := hide (OWN0.out.below E5.out)
        have HV5 := hide ((HV.out.below E5.out).snoc I5.out.1 I5.out.2.1 I5.out.2.2.2 (own_free own5 (Nat.le_refl _) LT0.out))
        have HV6 := hide (fun (o : Obj) => HV5.out.below (show Below w5.heap.size w5 (w5.alloc o) from (by (repeat' (first | (with_reducible exact Below.refl _ _) | (with_reducible assumption) | (with_reducible refine below_ext _ ?_ ?_) | (with_reducible refine Below.alloc ?_ ?_ _) | (with_reducible refine Below.drew ?_) | (with_reducible refine below_drewN ?_ _) | (with_reducible refine le_drewN _ ?_) | (with_reducible refine Below.setCell ?_ ?_ _) | (with_reducible exact Nat.le_refl _) | (with_reducible refine le_ext _ ?_) | (with_reducible refine le_alloc _ ?_) | (with_reducible refine le_setCell _ _ ?_) | (with_reducible refine le_drew ?_) | omega | (simp; done) | (simp; omega))))))
        have BA := hide (fun (o : Obj) => show Below w5.heap.size w5 (w5.alloc o) from (by (repeat' (first | (with_reducible exact Below.refl _ _) | (with_reducible assumption) | (with_reducible refine below_ext _ ?_ ?_) | (with_reducible refine Below.alloc ?_ ?_ _) | (with_reducible refine Below.drew ?_) | (with_reducible refine below_drewN ?_ _) | (with_reducible refine le_drewN _ ?_) | (with_reducible refine Below.setCell ?_ ?_ _) | (with_reducible exact Nat.le_refl _) | (with_reducible refine le_ext _ ?_) | (with_reducible refine le_alloc _ ?_) | (with_reducible refine le_setCell _ _ ?_) | (with_reducible refine le_drew ?_) | omega | (simp; done) | (simp; omega)))))
        have LV5 := hide (LV.out.snoc (A := A5) (n := n5) (c := c5) (fun g o s e => by subst e; exact Nat.le_trans hsz (World.ownsRow.lt own5 g rfl).1))
        have NB5 := hide (fun (o : Obj) => (show ∀ g o' s, A2 = some ⟨g, o', s⟩ → g < (w5.alloc o).heap.size ∧ some g ≠ (Value.slice A0 n0 c0).ownBlock from fun g o' s e => ⟨Nat.lt_of_lt_of_le (NB.out g o' s e).1 (Nat.le_trans hs5 (show Below w5.heap.size w5 (w5.alloc o) from (by (repeat' (first | (with_reducible exact Below.refl _ _) | (with_reducible assumption) | (with_reducible refine below_ext _ ?_ ?_) | (with_reducible refine Below.alloc ?_ ?_ _) | (with_reducible refine Below.drew ?_) | (with_reducible refine below_drewN ?_ _) | (with_reducible refine le_drewN _ ?_) | (with_reducible refine Below.setCell ?_ ?_ _) | (with_reducible exact Nat.le_refl _) | (with_reducible refine le_ext _ ?_) | (with_reducible refine le_alloc _ ?_) | (with_reducible refine le_setCell _ _ ?_) | (with_reducible refine le_drew ?_) | omega | (simp; done) | (simp; omega))))).size), (NB.out g o' s e).2⟩))
        have PH5 := hide (fun (o : Obj) => (PH.out.to E5.out).to (show Below w5.heap.size w5 (w5.alloc o) from (by (repeat' (first | (with_reducible exact Below.refl _ _) | (with_reducible assumption) | (with_reducible refine below_ext _ ?_ ?_) | (with_reducible refine Below.alloc ?_ ?_ _) | (with_reducible refine Below.drew ?_) | (with_reducible refine below_drewN ?_ _) | (with_reducible refine le_drewN _ ?_) | (with_reducible refine Below.setCell ?_ ?_ _) | (with_reducible exact Nat.le_refl _) | (with_reducible refine le_ext _ ?_) | (with_reducible refine le_alloc _ ?_) | (with_reducible refine le_setCell _ _ ?_) | (with_reducible refine le_drew ?_) | omega | (simp; done) | (simp; omega))))))
        clear own5 hx5 hw5
        have hal : vs.length ≤ 2000000 := by omega
        go_wp2_with (at_builtin; refine app_val rfl _ _ rfl w.heap.size (.slice A0 n0 c0) vs rfl (OW5.out.below (by (repeat' (first | (with_reducible exact Below.refl _ _) | (with_reducible assumption) | (with_reducible refine below_ext _ ?_ ?_) | (with_reducible refine Below.alloc ?_ ?_ _) | (with_reducible refine Below.drew ?_) | (with_reducible refine below_drewN ?_ _) | (with_reducible refine le_drewN _ ?_) | (with_reducible refine Below.setCell ?_ ?_ _) | (with_reducible exact Nat.le_refl _) | (with_reducible refine le_ext _ ?_) | (with_reducible refine le_alloc _ ?_) | (with_reducible refine le_setCell _ _ ?_) | (with_reducible refine le_drew ?_) | omega | (simp; done) | (simp; omega))))) A5 n5 c5 _ _ rfl (by simp [go_sem]) hal (by simp; omega) ?_; intro v' w' hown' hb' hat hgr; obtain ⟨A', n', c', rfl⟩ := hown'.slice; have OWN' := hide hown'; have HB' := hide hb'; have HV7 := hide ((HV6.out _).grown hgr hat); have PN := hide (pts_grown (PH5.out _) hgr (NB5.out _)); have NBn := hide (ne_grown (NB5.out _) hgr hat); clear hown' hat hb' hgr)
        exact ⟨⟨k + 1, vs ++ [.slice A5 n5 c5], zss ++ [zs], by omega, by go_num, OWN'.out, HV7.out |> hide, NW, Below.trans (Below.trans hbel (E5.out.mono hsz)) (Below.trans ((BA.out _).mono (Nat.le_trans hsz hs5)) HB'.out), PN, NBn, LV5⟩, by simp [intOf]; omega⟩
      · have ek : k = n := by omega
        have HWn : Hid (WtsL (hullOf ps) ps n zss) := hide (by rw [← ek]; exact HW.out)
        have RW := hide (OWN0.out.rowsLo HV.out LV.out)
        clear ek HW HV
        go_wp2_with fail
        go_ret
        exact ⟨_, _, _, zss, rfl, RW.out, HWn.out, ext_mk hbel⟩
  · have h := eq_false_of_ne_true h
    rw [h] at HC
    simp only [if_neg (show ¬ listOk ps = true by rw [h]; decide)]
    clear hn hs h
    go_enter Try.func32, Try.ntmps32
    go_wp2_with fail
    refine (HC.out _ (by (repeat' (first | (with_reducible exact Below.refl _ _) | (with_reducible assumption) | (with_reducible refine below_ext _ ?_ ?_) | (with_reducible refine Below.alloc ?_ ?_ _) | (with_reducible refine Below.drew ?_) | (with_reducible refine below_drewN ?_ _) | (with_reducible refine le_drewN _ ?_) | (with_reducible refine Below.setCell ?_ ?_ _) | (with_reducible exact Nat.le_refl _) | (with_reducible refine le_ext _ ?_) | (with_reducible refine le_alloc _ ?_) | (with_reducible refine le_setCell _ _ ?_) | (with_reducible refine le_drew ?_) | omega | (simp; done) | (simp; omega))))).mono ?_
    rintro e w' ⟨rfl, hw'⟩; have hzy1 := ext_sz hw'; obtain ⟨y1, rfl⟩ := hw'; (try simp at hzy1)
    go_wp2_with fail
    go_ret
    exact ⟨none, 0, 0, [], rfl, ⟨rfl, fun _ => rfl, (fun b o s e => by cases e), [], none, VR.nil _ _, LowV.nil _, fun h => by omega⟩, rfl, (ext_mk (by (repeat' (first | (with_reducible exact Below.refl _ _) | (with_reducible assumption) | (with_reducible refine below_ext _ ?_ ?_) | (with_reducible refine Below.alloc ?_ ?_ _) | (with_reducible refine Below.drew ?_) | (with_reducible refine below_drewN ?_ _) | (with_reducible refine le_drewN _ ?_) | (with_reducible refine Below.setCell ?_ ?_ _) | (with_reducible exact Nat.le_refl _) | (with_reducible refine le_ext _ ?_) | (with_reducible refine le_alloc _ ?_) | (with_reducible refine le_setCell _ _ ?_) | (with_reducible refine le_drew ?_) | omega | (simp; done) | (simp; omega)))))⟩
set_option maxHeartbeats 1000000 in
theorem equalProofs_any (zss yss : List (List Int)) (A A' : Option Addr) (n c n' c' : Nat) (w : World) (hm : n ≤ 2000000) (hm' : n' ≤ 2000000) (hz : RowsAt w A n zss) (hy : RowsAt w A' n' yss) (hb : ∀ j, (gz zss j).length ≤ 1000 ∧ (gz yss j).length ≤ 1000) :
    Calls Try.prog 31 #[.slice A n c, .slice A' n' c'] w fun e w' => e = .returned (.bool (decide (zss = yss))) ∧ ∃ m, w' = ext w m := by
  by_cases hnn : n = n'
  · subst hnn
    have HZ := hide hz
    have HY := hide hy
    have HB := hide hb
    have EQ : Hid ((∀ j, j < n → gz zss j = gz yss j) → zss = yss) := hide (fun h => List.ext_getElem (by rw [hz.1, hy.1]) fun j h1 h2 => by
      have e := h j (by rw [← hz.1]; exact h1)
      unfold gz at e
      rw [List.getD_eq_getElem?_getD, List.getD_eq_getElem?_getD, List.getElem?_eq_getElem h1, List.getElem?_eq_getElem h2] at e
      exact e)
    clear hz hy hb
    go_enter Try.func31, Try.ntmps31
    go_wp2
    go_loopw [5] (fun v wr => ∃ k : Nat, k ≤ n ∧ v = .int .i64 k ∧ Hid (∀ j, j < k → gz zss j = gz yss j) ∧ ∃ x, wr = ext w x) (fun v _ => n - (intOf v).toNat)
    case atStart => exact ⟨0, Nat.zero_le _, rfl, fun j hj => by omega, ext_same w⟩
    case round =>
      obtain ⟨k, hk, rfl, hp, x, rfl⟩ := hrel
      by_cases hlt : k < n
      · obtain ⟨g, o, rfl, hg, A1, n1, c1, hc1, l1, hq1, i1⟩ := HZ.out.row hlt
        obtain ⟨g', o', rfl, hg', A2, n2, c2, hc2, l2, hq2, i2⟩ := HY.out.row hlt
        have hbk := HB.out k
        have EI := hide (fun (W : World) (hb : Below w.heap.size w W) => equalInts_any (gz zss k) (gz yss k) A1 A2 n1 c1 n2 c2 W l1 l2 (by omega) (by omega) (i1.to hb) (i2.to hb))
        have hsz := ext_size w x
        have q1 : (0 : Int) ≤ (k : Int) := by omega
        have q2 : (k : Int) < (n : Int) := by omega
        clear l1 l2 i1 i2 hbk
        by_cases he : gz zss k = gz yss k
        · rw [decide_eq_true he] at EI
          have HE := hide he
          clear he
          go_wp2_with fail
          refine wp_region_ext (by kernel_rfl) (by kernel_rfl) ?_
          repeat (go_big_quiet_step ((first | (go_at_call 70; exact Calls.in_ext (EI.out _ (by (repeat' (first | (with_reducible exact Below.refl _ _) | (with_reducible assumption) | (with_reducible refine below_ext _ ?_ ?_) | (with_reducible refine Below.alloc ?_ ?_ _) | (with_reducible refine Below.drew ?_) | (with_reducible refine below_drewN ?_ _) | (with_reducible refine le_drewN _ ?_) | (with_reducible refine Below.setCell ?_ ?_ _) | (with_reducible exact Nat.le_refl _) | (with_reducible refine le_ext _ ?_) | (with_reducible refine le_alloc _ ?_) | (with_reducible refine le_setCell _ _ ?_) | (with_reducible refine le_drew ?_) | omega | (simp; done) | (simp; omega)))))))))
          refine wpQuiet_nil ?_
          rintro _ hnq
          have hzq := ext_sz hnq
          obtain ⟨nq, rfl⟩ := hnq
          (try simp at hzq)
          go_wp2_with fail
          exact ⟨⟨k + 1, by omega, by go_num, fun j hj => by rcases Nat.lt_succ_iff_lt_or_eq.1 hj with h | rfl; exact hp.out j h; exact HE.out, (ext_mk (by (repeat' (first | (with_reducible exact Below.refl _ _) | (with_reducible assumption) | (with_reducible refine below_ext _ ?_ ?_) | (with_reducible refine Below.alloc ?_ ?_ _) | (with_reducible refine Below.drew ?_) | (with_reducible refine below_drewN ?_ _) | (with_reducible refine le_drewN _ ?_) | (with_reducible refine Below.setCell ?_ ?_ _) | (with_reducible exact Nat.le_refl _) | (with_reducible refine le_ext _ ?_) | (with_reducible refine le_alloc _ ?_) | (with_reducible refine le_setCell _ _ ?_) | (with_reducible refine le_drew ?_) | omega | (simp; done) | (simp; omega)))))⟩, by simp [intOf]; omega⟩
        · rw [decide_eq_false he] at EI
          have R := hide (decide_eq_false (p := zss = yss) (fun h => he (by rw [h])))
          clear he
          go_wp2_with fail
          refine wp_region_ext (by kernel_rfl) (by kernel_rfl) ?_
          repeat (go_big_quiet_step ((first | (go_at_call 70; exact Calls.in_ext (EI.out _ (by (repeat' (first | (with_reducible exact Below.refl _ _) | (with_reducible assumption) | (with_reducible refine below_ext _ ?_ ?_) | (with_reducible refine Below.alloc ?_ ?_ _) | (with_reducible refine Below.drew ?_) | (with_reducible refine below_drewN ?_ _) | (with_reducible refine le_drewN _ ?_) | (with_reducible refine Below.setCell ?_ ?_ _) | (with_reducible exact Nat.le_refl _) | (with_reducible refine le_ext _ ?_) | (with_reducible refine le_alloc _ ?_) | (with_reducible refine le_setCell _ _ ?_) | (with_reducible refine le_drew ?_) | omega | (simp; done) | (simp; omega)))))))))
          refine wpQuiet_nil ?_
          rintro _ hnq
          have hzq := ext_sz hnq
          obtain ⟨nq, rfl⟩ := hnq
          (try simp at hzq)
          go_wp2_with fail
          go_ret
          exact ⟨ret_bool R.out.symm, (ext_mk (by (repeat' (first | (with_reducible exact Below.refl _ _) | (with_reducible assumption) | (with_reducible refine below_ext _ ?_ ?_) | (with_reducible refine Below.alloc ?_ ?_ _) | (with_reducible refine Below.drew ?_) | (with_reducible refine below_drewN ?_ _) | (with_reducible refine le_drewN _ ?_) | (with_reducible refine Below.setCell ?_ ?_ _) | (with_reducible exact Nat.le_refl _) | (with_reducible refine le_ext _ ?_) | (with_reducible refine le_alloc _ ?_) | (with_reducible refine le_setCell _ _ ?_) | (with_reducible refine le_drew ?_) | omega | (simp; done) | (simp; omega)))))⟩
      · have ek : k = n := by omega
        have R := hide (decide_eq_true (p := zss = yss) (EQ.out (fun j hj => hp.out j (by omega))))
        clear ek
        go_wp2_with fail
        go_ret
        exact ⟨ret_bool R.out.symm, (ext_mk (by (repeat' (first | (with_reducible exact Below.refl _ _) | (with_reducible assumption) | (with_reducible refine below_ext _ ?_ ?_) | (with_reducible refine Below.alloc ?_ ?_ _) | (with_reducible refine Below.drew ?_) | (with_reducible refine below_drewN ?_ _) | (with_reducible refine le_drewN _ ?_) | (with_reducible refine Below.setCell ?_ ?_ _) | (with_reducible exact Nat.le_refl _) | (with_reducible refine le_ext _ ?_) | (with_reducible refine le_alloc _ ?_) | (with_reducible refine le_setCell _ _ ?_) | (with_reducible refine le_drew ?_) | omega | (simp; done) | (simp; omega)))))⟩
  · have hne : ((n : Int) != n') = true := by rw [bne_iff_ne]; omega
    have R := hide (decide_eq_false (p := zss = yss) (fun h => hnn (by rw [← hz.1, ← hy.1, h])))
    clear hz hy hb
    go_enter Try.func31, Try.ntmps31
    go_wp2
    go_ret
    exact ⟨ret_bool R.out.symm, (ext_mk (by (repeat' (first | (with_reducible exact Below.refl _ _) | (with_reducible assumption) | (with_reducible refine below_ext _ ?_ ?_) | (with_reducible refine Below.alloc ?_ ?_ _) | (with_reducible refine Below.drew ?_) | (with_reducible refine below_drewN ?_ _) | (with_reducible refine le_drewN _ ?_) | (with_reducible refine Below.setCell ?_ ?_ _) | (with_reducible exact Nat.le_refl _) | (with_reducible refine le_ext _ ?_) | (with_reducible refine le_alloc _ ?_) | (with_reducible refine le_setCell _ _ ?_) | (with_reducible refine le_drew ?_) | omega | (simp; done) | (simp; omega)))))⟩
end Go.Proofs.Ytelhidonhldjeaa
