
/- The program's HullsMeet. -/
import Derived.Test.YtoendanihhocjaaEdge
import Derived.Test.YtoendanihhocjaaTri
import Derived.Test.YtoendanihhocjaaMink
set_option linter.unusedVariables false
set_option linter.unusedSimpArgs false
namespace Go.Proofs.Ytoendanihhocjaa
open Go.RowKit

theorem ring_edges (h : List Pt) : ring h = edgesL h := by
  unfold ring
  refine List.ext_getElem ?_ fun i h1 h2 => ?_
  · rw [edgesL_len]; simp; omega
  · have h3 : i < h.length := by rwa [edgesL_len] at h2
    rw [← gs_lt h2, edgesL_at h3]
    unfold edgeAt
    rw [List.getElem_zip, gp_lt h3]
    congr 1
    by_cases hi : i + 1 < h.length
    · rw [Nat.mod_eq_of_lt hi, gp_lt hi, List.getElem_append_left (by simp; omega)]
      simp [Nat.add_comm]
    · have : i + 1 = h.length := by omega
      rw [this, Nat.mod_self, List.getElem_append_right (by simp; omega), gp_lt (by omega)]
      have h0 : i - (h.length - 1) = 0 := by omega
      simp [h0]
theorem meetI_3 {h : List Pt} (hl : 3 ≤ h.length) : meetI h = !(edgesL h).any fun e => decide (trn e.1 e.2 origin < 0) := by
  match h, hl with
  | a :: b :: c :: r, _ =>
    show (ring (a :: b :: c :: r)).all (fun e => decide (0 ≤ trn e.1 e.2 origin)) = _
    rw [ring_edges, List.not_any_eq_all_not]
    congr 1
    funext e
    rw [← decide_not]
    congr 1
    rw [eq_iff_iff]; omega
set_option maxHeartbeats 400000 in
theorem hm1_any (a b c d : Int) (w : World) (ha : -100000 ≤ a ∧ a ≤ 100000) (hb : -100000 ≤ b ∧ b ≤ 100000) (hc : -100000 ≤ c ∧ c ≤ 100000) (hd : -100000 ≤ d ∧ d ≤ 100000) :
    Calls Try.prog 58 #[.agg #[.int .i64 a, .int .i64 b, .int .i64 c, .int .i64 d]] w fun e w' => e = .returned (.bool (decide (trn ⟨a, b⟩ ⟨c, d⟩ origin < 0))) ∧ ∃ n, w' = ext w n := by
  go_enter Try.func58, Try.ntmps58
  go_wp2_with (go_at_call 59; refine (turn_any _ _ _ _ _ _ _ (by omega) (by omega) (by omega) (by omega) (by omega) (by omega)).mono ?_; rintro e w' ⟨rfl, hw'⟩; have hzy := ext_sz hw'; obtain ⟨y, rfl⟩ := hw'; (try simp at hzy))
  go_ret
  exact ⟨ret_bool (by simp [trn, origin]), (ext_mk (by (repeat' (first | (with_reducible exact Below.refl _ _) | (with_reducible assumption) | (with_reducible refine below_ext _ ?_ ?_) | (with_reducible refine Below.alloc ?_ ?_ _) | (with_reducible refine Below.drew ?_) | (with_reducible refine below_drewN ?_ _) | (with_reducible refine le_drewN _ ?_) | (with_reducible refine Below.setCell ?_ ?_ _) | (with_reducible exact Nat.le_refl _) | (with_reducible refine le_ext _ ?_) | (with_reducible refine le_alloc _ ?_) | (with_reducible refine le_setCell _ _ ?_) | (with_reducible refine le_drew ?_) | omega | (simp; done) | (simp; omega)))))⟩
theorem hull_pos {l : List Pt} (h : l ≠ []) : 1 ≤ (hullOf l).length := by
  obtain ⟨m, hm, hm2⟩ := set_min h
  have : m ∈ hullOf l := hullOf_mem.2 (.inl (min_low hm hm2).1)
  exact List.length_pos_of_mem this
theorem meetI_1 {h : List Pt} (hl : h.length = 1) : meetI h = eqP (pX h 0) (pY h 0) 0 0 := by
  match h, hl with
  | [a], _ =>
    show decide (a = origin) = eqP a.x a.y 0 0
    rw [← eqP_dec]; rfl
theorem meetI_2 {h : List Pt} (hl : h.length = 2) : meetI h = onSeg ⟨pX h 0, pY h 0⟩ ⟨pX h 1, pY h 1⟩ ⟨0, 0⟩ := by
  match h, hl with
  | [a, b], _ => rfl
def meetOf (a b : List Pt) : Bool := bothL a b && meetI (hullOf (sumsL a (b.map negP)))
theorem meetOf_no {a b : List Pt} (h : bothL a b = false) : meetOf a b = false := by unfold meetOf; rw [h]; rfl
theorem meetOf_yes {a b : List Pt} (h : bothL a b = true) : meetOf a b = meetI (hullOf (sumsL a (b.map negP))) := by unfold meetOf; rw [h]; rfl
theorem neg_take {b : List Pt} {k : Nat} (hk : k < b.length) : (b.take (k + 1)).map negP = (b.take k).map negP ++ [⟨-pX b k, -pY b k⟩] := by
  rw [List.take_succ_eq_append_getElem hk, List.map_append, ← gp_lt hk]; rfl
theorem bothL_neg {a b : List Pt} (h : bothL a b = true) : bothL a (b.map negP) = true := by
  unfold bothL at h ⊢
  simp only [Bool.and_eq_true, List.length_map] at h ⊢
  refine ⟨⟨⟨h.1.1.1, ?_⟩, h.1.2⟩, h.2⟩
  have hb := h.1.1.2
  unfold listOk at hb ⊢
  simp only [Bool.and_eq_true, List.length_map] at hb ⊢
  refine ⟨hb.1, List.all_eq_true.2 fun p hp => ?_⟩
  obtain ⟨q, hq, rfl⟩ := List.mem_map.1 hp
  have := vP_iff.1 (List.all_eq_true.1 hb.2 q hq)
  unfold Pt.ok
  rw [vP_iff]
  unfold negP
  simp only
  omega
set_option maxHeartbeats 2000000 in
theorem iMeetNo (a b : List Pt) (A1 A2 : Option Addr) (n1 c1 n2 c2 : Nat) (w : World) (h1 : a.length = n1) (h2 : b.length = n2) (m1 : n1 ≤ 2000000) (m2 : n2 ≤ 2000000) (s1 : PtsAt w w.heap.size A1 a) (s2 : PtsAt w w.heap.size A2 b) (hB : bothL a b = false) :
    Calls Try.prog 29 #[.slice A1 n1 c1, .slice A2 n2 c2] w fun e w' => e = .returned (.bool (meetOf a b)) ∧ ∃ x, w' = ext w x := by
  have HB := hide (bothOk_any a b A1 A2 n1 c1 n2 c2 w h1 h2 m1 m2 s1 s2)
  rw [hB] at HB
  have HB2 := hide HB.out
  have M := hide (meetOf_no hB)
  clear HB hB h1 h2 s1 s2
  go_enter Try.func29, Try.ntmps29
  go_wp2_with fail
  refine HB2.out.mono ?_
  rintro e w' ⟨rfl, hw'⟩; have hzy := ext_sz hw'; obtain ⟨y, rfl⟩ := hw'; (try simp at hzy)
  go_wp2
  go_ret
  exact ⟨ret_bool M.out.symm, (ext_mk (by (repeat' (first | (with_reducible exact Below.refl _ _) | (with_reducible assumption) | (with_reducible refine below_ext _ ?_ ?_) | (with_reducible refine Below.alloc ?_ ?_ _) | (with_reducible refine Below.drew ?_) | (with_reducible refine below_drewN ?_ _) | (with_reducible refine le_drewN _ ?_) | (with_reducible refine Below.setCell ?_ ?_ _) | (with_reducible exact Nat.le_refl _) | (with_reducible refine le_ext _ ?_) | (with_reducible refine le_alloc _ ?_) | (with_reducible refine le_setCell _ _ ?_) | (with_reducible refine le_drew ?_) | omega | (simp; done) | (simp; omega)))))⟩
set_option maxHeartbeats 2000000 in
theorem iMeetYes (a b : List Pt) (A1 A2 : Option Addr) (n1 c1 n2 c2 : Nat) (w : World) (h1 : a.length = n1) (h2 : b.length = n2) (m1 : n1 ≤ 2000000) (m2 : n2 ≤ 2000000) (s1 : PtsAt w w.heap.size A1 a) (s2 : PtsAt w w.heap.size A2 b) (hB : bothL a b = true) :
    Calls Try.prog 29 #[.slice A1 n1 c1, .slice A2 n2 c2] w fun e w' => e = .returned (.bool (meetOf a b)) ∧ ∃ x, w' = ext w x := by
  have HB := hide (bothOk_any a b A1 A2 n1 c1 n2 c2 w h1 h2 m1 m2 s1 s2)
  rw [hB] at HB
  have HB2 := hide HB.out
  have M := hide (meetOf_yes hB)
  obtain ⟨la, lb, ls, ba, bb, bs⟩ := sums_20 (bothL_neg hB)
  rw [List.length_map] at lb
  have bq := (sums_20 hB).2.2.2.2.1
  have HA := hide (allOk_InB (lOk_all (show listOk b = true from by unfold bothL at hB; simp only [Bool.and_eq_true] at hB; exact hB.1.1.2)))
  have HH1 := hide (fun (W : World) (B2 : Option Addr) (k c : Nat) (hk : (b.map negP).length = k) (r1 : PtsAt W W.heap.size A1 a) (r2 : PtsAt W W.heap.size B2 (b.map negP)) => sums_any a (b.map negP) A1 B2 n1 c1 k c W h1 hk (by omega) (by rw [← hk, List.length_map]; omega) ba bb r1 r2)
  have HS := hide s1
  have HS2 := hide s2
  have HN1 := hide h1
  have HN2 := hide h2
  have LS := hide ls
  have BS := hide bs
  have BQ := hide bq
  have k2 : n2 ≤ 20 := by omega
  have HLN := hide (hullOf_len' (sumsL a (b.map negP)))
  have HPO := hide (hull_pos (l := sumsL a (b.map negP)) (fun e => by
    unfold bothL at hB
    simp only [Bool.and_eq_true, decide_eq_true_eq] at hB
    have := sumsL_len a (b.map negP)
    rw [e, List.length_map] at this
    have h3 := Nat.mul_pos hB.1.2 hB.2
    simp at this
    omega))
  have BH : Hid (InB (hullOf (sumsL a (b.map negP)))) := hide (fun p hp => BS.out p (hullOf_sub hp))
  obtain ⟨i0, hi, hz0, hz1, hz2⟩ := info_parts ptElt.inf
  have IP := hide (And.intro hi (And.intro hz0 (And.intro hz1 hz2)))
  clear hi hz0 hz1 hz2
  have mk1 : i0.bytes * n2 ≤ 281474976710656 := by rw [IP.out.2.2.2]; omega
  have mk2 : n2 ≤ maxLen := by unfold maxLen; omega
  clear HB hB h1 h2 s1 s2 la lb ls ba bb bs bq
  go_enter Try.func29, Try.ntmps29
  go_wp2_with fail
  refine HB2.out.mono ?_
  rintro e w' ⟨rfl, hw'⟩; have hzy := ext_sz hw'; obtain ⟨y, rfl⟩ := hw'; (try simp at hzy)
  have Bw := ext_below w y
  generalize hW : ext w y = W1 at *
  clear hW
  have S1 := hide (HS.out.to Bw)
  have S2 := hide (HS2.out.to Bw)
  go_wp2_with (refine wpList_make_own _ rfl (.const (.int .i64 0)) (.tmp 14) 23 rfl W1.heap.size 25 i0 _ 2 ptElt.und IP.out.1 IP.out.2.1 IP.out.2.2.1 .i64 .i64 _ n2 rfl rfl rfl mk1 mk2 (Nat.le_refl _) ?_; intro w1 hown1 hgr1; have O1 := hide (show OwnP w1 W1.heap.size _ [] from hown1); have B1 := hide ((Below.refl _ _).grown hgr1 (Nat.le_refl _) (fun k hk => by cases hk)); clear hown1 hgr1)
  go_loopw [5, 18] (fun u5 u18 wr => ∃ (k : Nat), k ≤ n2 ∧ u18 = .int .i64 k ∧ OwnP wr W1.heap.size u5 ((b.take k).map negP) ∧ Below W1.heap.size W1 wr) (fun _ u18 _ => n2 - (intOf u18).toNat)
  case atStart => exact ⟨0, Nat.zero_le _, rfl, O1.out.below (by (repeat' (first | (with_reducible exact Below.refl _ _) | (with_reducible assumption) | (with_reducible refine below_ext _ ?_ ?_) | (with_reducible refine Below.alloc ?_ ?_ _) | (with_reducible refine Below.drew ?_) | (with_reducible refine below_drewN ?_ _) | (with_reducible refine le_drewN _ ?_) | (with_reducible refine Below.setCell ?_ ?_ _) | (with_reducible exact Nat.le_refl _) | (with_reducible refine le_ext _ ?_) | (with_reducible refine le_alloc _ ?_) | (with_reducible refine le_setCell _ _ ?_) | (with_reducible refine le_drew ?_) | omega | (simp; done) | (simp; omega)))), Below.trans B1.out (by (repeat' (first | (with_reducible exact Below.refl _ _) | (with_reducible assumption) | (with_reducible refine below_ext _ ?_ ?_) | (with_reducible refine Below.alloc ?_ ?_ _) | (with_reducible refine Below.drew ?_) | (with_reducible refine below_drewN ?_ _) | (with_reducible refine le_drewN _ ?_) | (with_reducible refine Below.setCell ?_ ?_ _) | (with_reducible exact Nat.le_refl _) | (with_reducible refine le_ext _ ?_) | (with_reducible refine le_alloc _ ?_) | (with_reducible refine le_setCell _ _ ?_) | (with_reducible refine le_drew ?_) | omega | (simp; done) | (simp; omega))))⟩
  case round =>
    obtain ⟨k, hk, rfl, hown, hbel⟩ := hrel
    obtain ⟨A0, n0, c0, rfl⟩ := hown.slice
    have hsz := hbel.size
    have OWN0 := hide hown
    clear hown
    by_cases hlt : k < n2
    · obtain ⟨b1, o1, rfl, hbl1, hc1⟩ := S2.out (by rw [HN2.out]; omega)
      obtain ⟨hx0, hy0⟩ := hc1 k (by rw [HN2.out]; omega)
      obtain ⟨⟨p1, p2⟩, p3, p4⟩ := BQ.out.at (i := k) (by rw [HN2.out]; exact hlt)
      have hx := (hbel.cell (p := ⟨b1, o1 + k * 2, none⟩) hbl1).trans hx0
      have hy := (hbel.cell (p := ⟨b1, o1 + k * 2 + 1, none⟩) hbl1).trans hy0
      clear hc1 hx0 hy0
      have NX := hide (neg_take (b := b) (k := k) (by rw [HN2.out]; exact hlt))
      have NL : ((b.take k).map negP).length ≤ 2000000 := by rw [List.length_map, List.length_take]; omega
      go_wp2_with fail
      refine (minus_any _ _ _ _ _ (by omega) (by omega) (by omega) (by omega)).mono ?_
      rintro e w' ⟨rfl, hw'⟩; have hzy2 := ext_sz hw'; obtain ⟨y2, rfl⟩ := hw'; (try simp at hzy2)
      go_wp2_with (at_builtin; refine app_pt rfl _ _ rfl W1.heap.size (.slice A0 n0 c0) ((b.take k).map negP) rfl (OWN0.out.below (by (repeat' (first | (with_reducible exact Below.refl _ _) | (with_reducible assumption) | (with_reducible refine below_ext _ ?_ ?_) | (with_reducible refine Below.alloc ?_ ?_ _) | (with_reducible refine Below.drew ?_) | (with_reducible refine below_drewN ?_ _) | (with_reducible refine le_drewN _ ?_) | (with_reducible refine Below.setCell ?_ ?_ _) | (with_reducible exact Nat.le_refl _) | (with_reducible refine le_ext _ ?_) | (with_reducible refine le_alloc _ ?_) | (with_reducible refine le_setCell _ _ ?_) | (with_reducible refine le_drew ?_) | omega | (simp; done) | (simp; omega))))) (-pX b k) (-pY b k) _ _ rfl (by simp [go_sem]) (by simp [go_sem]) NL (by simp; omega) ?_; intro v' w' hown' hb' hat hgr; obtain ⟨A4, n4, c4, rfl⟩ := hown'.slice; have O4 := hide hown'; clear hown' hat hgr)
      exact ⟨⟨k + 1, by omega, by go_num, by rw [NX.out]; exact O4.out, Below.trans (Below.trans hbel (by (repeat' (first | (with_reducible exact Below.refl _ _) | (with_reducible assumption) | (with_reducible refine below_ext _ ?_ ?_) | (with_reducible refine Below.alloc ?_ ?_ _) | (with_reducible refine Below.drew ?_) | (with_reducible refine below_drewN ?_ _) | (with_reducible refine le_drewN _ ?_) | (with_reducible refine Below.setCell ?_ ?_ _) | (with_reducible exact Nat.le_refl _) | (with_reducible refine le_ext _ ?_) | (with_reducible refine le_alloc _ ?_) | (with_reducible refine le_setCell _ _ ?_) | (with_reducible refine le_drew ?_) | omega | (simp; done) | (simp; omega))))) hb'⟩, by simp [intOf]; omega⟩
    · have hkn : k = n2 := by omega
      subst hkn
      have e0 : b.take k = b := List.take_of_length_le (by rw [HN2.out]; exact Nat.le_refl _)
      have OWN1 : Hid (OwnP wr W1.heap.size (.slice A0 n0 c0) (b.map negP)) := hide (by have := OWN0.out; rw [e0] at this; exact this)
      clear e0 OWN0
      have l0 := hide OWN1.out.pts.1
      have P1 := hide (S1.out.to hbel)
      have P2 := hide OWN1.out.pts.2.2.2
      have BF := hide (Bw.trans (hbel.mono Bw.size))
      clear OWN1
      go_wp2_with fail
      refine (HH1.out _ _ _ _ l0.out P1.out P2.out).mono ?_
      rintro e w5 ⟨v5, rfl, hown5, x5, rfl⟩
      obtain ⟨A3, n3, c3, rfl⟩ := hown5.slice
      have l3 := hown5.pts.1
      have p3 := hown5.pts.2.2.2
      have f3 := hown5.form.1
      have HH := hide (fun W hW => hull_any (sumsL a (b.map negP)) A3 n3 c3 W l3 (by have := LS.out; omega) BS.out hW f3)
      have P3 := hide p3
      clear hown5 p3 f3 l3
      go_wp2_with fail
      refine (HH.out _ P3.out).mono ?_
      rintro e w4 ⟨A4, n4, c4, rfl, l4, q4, q4b, p4, f4, x4, rfl⟩
      have P4 := hide p4.pts
      have L4 := hide l4
      have l4m : n4 ≤ 1000 := by have := HLN.out; have := LS.out; omega
      have l4p : 1 ≤ n4 := by have := HPO.out; omega
      clear p4 f4 l4
      have BF2 := hide (BF.out.trans (show Below w.heap.size wr (ext (ext wr x5) x4) from (by (repeat' (first | (with_reducible exact Below.refl _ _) | (with_reducible assumption) | (with_reducible refine below_ext _ ?_ ?_) | (with_reducible refine Below.alloc ?_ ?_ _) | (with_reducible refine Below.drew ?_) | (with_reducible refine below_drewN ?_ _) | (with_reducible refine le_drewN _ ?_) | (with_reducible refine Below.setCell ?_ ?_ _) | (with_reducible exact Nat.le_refl _) | (with_reducible refine le_ext _ ?_) | (with_reducible refine le_alloc _ ?_) | (with_reducible refine le_setCell _ _ ?_) | (with_reducible refine le_drew ?_) | omega | (simp; done) | (simp; omega))))))
      generalize hW6 : ext (ext wr x5) x4 = w6 at *
      clear hW6 HH HH1 P3 HB2 HS HS2 S1 S2 P1 P2
      generalize hullOf (sumsL a (b.map negP)) = L at *
      have s6 := BF2.out.size
      rcases (show n4 = 1 ∨ n4 = 2 ∨ 3 ≤ n4 by omega) with e4 | e4 | e4
      · subst e4
        have MI := hide (meetI_1 L4.out)
        obtain ⟨b4, o4, rfl, hb4, hc4⟩ := P4.out (by rw [L4.out]; omega)
        obtain ⟨hx4, hy4⟩ := hc4 0 (by rw [L4.out]; omega)
        rw [Nat.zero_mul, Nat.add_zero] at hx4 hy4
        clear hc4
        have E := @run_eqPt
        go_wp2
        all_goals
          go_ret
          exact ⟨ret_bool (by rw [M.out, MI.out]; try simp [*]), ext_mk (BF2.out.trans (by (repeat' (first | (with_reducible exact Below.refl _ _) | (with_reducible assumption) | (with_reducible refine below_ext _ ?_ ?_) | (with_reducible refine Below.alloc ?_ ?_ _) | (with_reducible refine Below.drew ?_) | (with_reducible refine below_drewN ?_ _) | (with_reducible refine le_drewN _ ?_) | (with_reducible refine Below.setCell ?_ ?_ _) | (with_reducible exact Nat.le_refl _) | (with_reducible refine le_ext _ ?_) | (with_reducible refine le_alloc _ ?_) | (with_reducible refine le_setCell _ _ ?_) | (with_reducible refine le_drew ?_) | omega | (simp; done) | (simp; omega)))))⟩
      · subst e4
        have MI := hide (meetI_2 L4.out)
        obtain ⟨b4, o4, rfl, hb4, hc4⟩ := P4.out (by rw [L4.out]; omega)
        obtain ⟨hx4, hy4⟩ := hc4 0 (by rw [L4.out]; omega)
        obtain ⟨hx5, hy5⟩ := hc4 1 (by rw [L4.out]; omega)
        rw [Nat.zero_mul, Nat.add_zero] at hx4 hy4
        rw [Nat.one_mul] at hx5 hy5
        obtain ⟨⟨p1, p2⟩, p3, p4⟩ := BH.out.at (i := 0) (by rw [L4.out]; omega)
        obtain ⟨⟨p5, p6⟩, p7, p8⟩ := BH.out.at (i := 1) (by rw [L4.out]; omega)
        clear hc4
        go_wp2
        refine wp_region_ext (by kernel_rfl) (by kernel_rfl) ?_
        repeat (go_big_quiet_step ((first | (go_at_call 55; exact Calls.in_ext (has_any _ _ _ _ _ _ _ (by omega) (by omega) (by omega) (by omega) (by omega) (by omega))))))
        refine wpQuiet_nil ?_
        rintro _ hnq
        have hzq := ext_sz hnq
        obtain ⟨nq, rfl⟩ := hnq
        (try simp at hzq)
        go_wp2
        go_ret
        exact ⟨ret_bool (by rw [M.out, MI.out]), ext_mk (BF2.out.trans (by (repeat' (first | (with_reducible exact Below.refl _ _) | (with_reducible assumption) | (with_reducible refine below_ext _ ?_ ?_) | (with_reducible refine Below.alloc ?_ ?_ _) | (with_reducible refine Below.drew ?_) | (with_reducible refine below_drewN ?_ _) | (with_reducible refine le_drewN _ ?_) | (with_reducible refine Below.setCell ?_ ?_ _) | (with_reducible exact Nat.le_refl _) | (with_reducible refine le_ext _ ?_) | (with_reducible refine le_alloc _ ?_) | (with_reducible refine le_setCell _ _ ?_) | (with_reducible refine le_drew ?_) | omega | (simp; done) | (simp; omega)))))⟩
      · have MI := hide (meetI_3 (h := L) (by rw [L4.out]; exact e4))
        have d1 : ((n4 : Int) == 1) = false := by rw [beq_eq_false_iff_ne]; omega
        have d2 : ((n4 : Int) == 2) = false := by rw [beq_eq_false_iff_ne]; omega
        go_wp2_with fail
        refine (edges_any L A4 n4 c4 _ L4.out l4m P4.out).mono ?_
        rintro e w7 ⟨v7, rfl, hown7, x7, rfl⟩
        obtain ⟨A7, n7, c7, rfl⟩ := hown7.slice
        have l7 := hown7.segs.1
        have AS : (List.range n7).any (fun i => decide (trn (gs (edgesL L) i).1 (gs (edgesL L) i).2 origin < 0)) = (edgesL L).any (fun e => decide (trn e.1 e.2 origin < 0)) := by
          have h := any_segs (edgesL L) (fun e => decide (trn e.1 e.2 origin < 0))
          rw [l7] at h
          exact h
        have HC := hide (ContainsFuncG_any 58 #[] (fun i => decide (trn (gs (edgesL L) i).1 (gs (edgesL L) i).2 origin < 0)) (edgesL L) A7 n7 c7 (ext w6 x7) l7 (by have := edgesL_len L; have := L4.out; omega) (enters _ Try.func58 (by kernel_rfl) rfl) hown7.segs.2.2.2 (fun W i _ hi => by
          rw [edgesL_len] at hi
          rw [edgesL_at hi]
          obtain ⟨⟨p1, p2⟩, p3, p4⟩ := BH.out.at hi
          obtain ⟨⟨p5, p6⟩, p7, p8⟩ := BH.out.at (i := (i + 1) % L.length) (Nat.mod_lt _ (by omega))
          exact hm1_any _ _ _ _ W ⟨p1, p2⟩ ⟨p3, p4⟩ ⟨p5, p6⟩ ⟨p7, p8⟩))
        rw [AS] at HC
        clear AS
        clear hown7
        go_wp2_with fail
        refine HC.out.mono ?_
        rintro e w' ⟨rfl, hw'⟩; have hzy8 := ext_sz hw'; obtain ⟨y8, rfl⟩ := hw'; (try simp at hzy8)
        go_wp2
        go_ret
        exact ⟨ret_bool (by rw [M.out, MI.out]), ext_mk (BF2.out.trans (by (repeat' (first | (with_reducible exact Below.refl _ _) | (with_reducible assumption) | (with_reducible refine below_ext _ ?_ ?_) | (with_reducible refine Below.alloc ?_ ?_ _) | (with_reducible refine Below.drew ?_) | (with_reducible refine below_drewN ?_ _) | (with_reducible refine le_drewN _ ?_) | (with_reducible refine Below.setCell ?_ ?_ _) | (with_reducible exact Nat.le_refl _) | (with_reducible refine le_ext _ ?_) | (with_reducible refine le_alloc _ ?_) | (with_reducible refine le_setCell _ _ ?_) | (with_reducible refine le_drew ?_) | omega | (simp; done) | (simp; omega)))))⟩
theorem iMeet_any (a b : List Pt) (A1 A2 : Option Addr) (n1 c1 n2 c2 : Nat) (w : World) (h1 : a.length = n1) (h2 : b.length = n2) (m1 : n1 ≤ 2000000) (m2 : n2 ≤ 2000000) (s1 : PtsAt w w.heap.size A1 a) (s2 : PtsAt w w.heap.size A2 b) :
    Calls Try.prog 29 #[.slice A1 n1 c1, .slice A2 n2 c2] w fun e w' => e = .returned (.bool (meetOf a b)) ∧ ∃ x, w' = ext w x := by
  by_cases hB : bothL a b = true
  · exact iMeetYes a b A1 A2 n1 c1 n2 c2 w h1 h2 m1 m2 s1 s2 hB
  · exact iMeetNo a b A1 A2 n1 c1 n2 c2 w h1 h2 m1 m2 s1 s2 (eq_false_of_ne_true hB)
end Go.Proofs.Ytoendanihhocjaa
