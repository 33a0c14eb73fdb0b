
/- FnCheckGuards: the law's walk. -/
import Derived.Test.YtelhidonhldjeaaGreatLGds
import Derived.Test.YtelhidonhldjeaaGreatDrwG
set_option linter.unusedVariables false
set_option linter.unusedSimpArgs false
namespace Go.Proofs.YtelhidonhldjeaaGreat
open Go.RowKit

theorem wpList_want {ops : Array Oper} {rest : List Oper} {o : Oper} {a : Act} {Q : Exit → Act → World → Prop} {w : World} (hw : Region.wanted o (yielded ops a.tmps) = true) (h : ∀ K : Act → World → Prop, (∀ a w, wpList Tryz.prog ops Q rest a w → K a w) → o.wp Tryz.prog a w K Q) : wpList Tryz.prog ops Q (o :: rest) a w :=
  wpList_step fun K hK => by rw [if_pos hw]; exact h K hK
/-- append(v, ys...) under a guard. -/
theorem app_intsG {ops : Array Oper} {rest : List Oper} {o : Oper} {a : Act} {Q : Exit → Act → World → Prop} {w : World} (hw : Region.wanted o (yielded ops a.tmps) = true) (s x : Operand)
    (ho : o.op = .call { callee := .builtin .append, args := #[s, x], argTypes := #[24, 24] })
    (base : Nat) (v : Value) (zs : List Int) (hs : a.eval s = v) (hown : Own w base v zs) (A : Option Addr) (m c B : Nat) (ys : List Int) (hx : a.eval x = .slice A m c) (hm : ys.length = m) (hq : IntsAt w B A ys) (hA : (A = none → m = 0) ∧ ∀ b o s, A = some ⟨b, o, s⟩ → s = none)
    (hlen : zs.length ≤ 2000000) (hlen2 : m ≤ 2000000) (hbase : base ≤ w.heap.size)
    (h : ∀ v' w', Own w' base v' (zs ++ ys) → Below base w w' → (v'.ownBlock = v.ownBlock ∨ v'.ownBlock = some w.heap.size) → w.grownBy w' v.ownBlock → wpList Tryz.prog ops Q rest (a.put o.dst v') w') :
    wpList Tryz.prog ops Q (o :: rest) a w :=
  wpList_want hw fun K hK => ints_wp s x ho base v zs hs hown A m c B ys hx hm hq hA hlen hlen2 hbase fun v' w' h1 h2 h3 h4 => hK _ _ (h v' w' h1 h2 h3 h4)
theorem zIr_succ (i : Nat) : zI (List.range (i + 1)) = zI (List.range i) ++ [(i : Int)] := by unfold zI; rw [List.range_succ, List.map_append]; rfl
theorem zIr_len (i : Nat) : (zI (List.range i)).length = i := by rw [zI_len, List.length_range]
theorem zIr_mem {n a : Nat} (h : a < n) : (a : Int) ∈ zI (List.range n) := List.mem_map.2 ⟨a, List.mem_range.2 h, rfl⟩
theorem grd_every {ps : List Pt} {ts : List TI} (h : chkT ps ts = true) : grdB ps ts (zI (List.range ps.length)) = true := by
  refine grd_all h (fun x hx => ?_) (fun j hj => ?_)
  · obtain ⟨i, hi, rfl⟩ := List.mem_map.1 hx
    have := List.mem_range.1 hi
    omega
  · obtain ⟨a, b, c, et, la, _, _⟩ := (chk_col h).tri j hj
    rw [et]
    exact .inl (zIr_mem la)
theorem hasN_iff {gs : List Int} {x : Int} : hasN gs x = true ↔ x ∈ gs := by
  refine ⟨fun h => ?_, hasN_mem⟩
  unfold hasN at h
  rw [List.any_eq_true] at h
  obtain ⟨i, hi, e⟩ := h
  have hi := List.mem_range.1 hi
  rw [eq_of_beq e, gi_lt hi]
  exact List.getElem_mem hi
theorem grd_more {ps : List Pt} {ts : List TI} {gs : List Int} (h : grdB ps ts gs = true) : grdB ps ts (gs ++ [(ps.length : Int) - 1]) = true := by
  unfold grdB at h
  rw [Bool.and_eq_true, Bool.and_eq_true, Bool.not_eq_true', Bool.not_eq_true', List.any_eq_false, List.any_eq_false] at h
  obtain ⟨h1, h2, h3⟩ := h
  have h0 : 0 < ps.length := by have := (chk_parts h1).2.1; omega
  refine grd_all h1 (fun x hx => ?_) (fun j hj => ?_)
  · rcases List.mem_append.1 hx with hm | hm
    · obtain ⟨i, hi, rfl⟩ := List.getElem_of_mem hm
      have := h2 i (List.mem_range.2 hi)
      rw [Bool.not_eq_true, Bool.not_eq_false', gi_lt hi] at this
      unfold inN at this
      rw [Bool.and_eq_true, decide_eq_true_eq, decide_eq_true_eq] at this
      exact this
    · rw [List.mem_singleton.1 hm]; omega
  · have := h3 j (List.mem_range.2 hj)
    rw [Bool.not_eq_true, Bool.not_eq_false'] at this
    unfold seenB at this
    rw [Bool.or_eq_true, Bool.or_eq_true, hasN_iff, hasN_iff, hasN_iff] at this
    rcases this with e | e | e
    · exact .inl (List.mem_append.2 (.inl e))
    · exact .inr (.inl (List.mem_append.2 (.inl e)))
    · exact .inr (.inr (List.mem_append.2 (.inl e)))
set_option maxHeartbeats 400000 in
theorem iCkT2_any (ps : List Pt) (ts : List TI) (A Z : Option Addr) (n c m d : Nat) (w : World) (hn : ps.length = n) (hm : n ≤ 2000000) (hA : Plain A n) (ht : ts.length = m) (hm2 : m ≤ 2000000) (hs : PtsAt w w.heap.size A ps) (hz : TrisAt w w.heap.size Z ts) :
    Calls Tryz.prog 27 #[.slice A n c, .slice Z m d] w fun e w' => e = .returned (.bool (chkT ps ts)) ∧ ∃ x, w' = ext w x := by
  have HC := hide (iCheckT_any ps ts A Z n c m d w hn hm hA ht hm2 hs hz)
  clear hn ht hs hz
  go_enter Tryz.func27, Tryz.ntmps27
  go_wp2_with fail
  refine HC.out.mono ?_
  rintro e w' ⟨rfl, hw'⟩; have hzy1 := ext_sz hw'; obtain ⟨y1, rfl⟩ := hw'; (try simp at hzy1)
  go_wp2_with fail
  go_ret
  exact ⟨rfl, (ext_mk (by (repeat' (first | (with_reducible first | exact Below.refl _ _ | assumption | refine below_ext _ ?_ ?_ | refine Below.alloc ?_ ?_ _ | refine Below.drew ?_ | refine below_drewN ?_ _ | refine le_drewN _ ?_ | refine Below.setCell ?_ ?_ _ | exact Nat.le_refl _ | refine le_ext _ ?_ | refine le_alloc _ ?_ | refine le_setCell _ _ ?_ | refine le_drew ?_) | omega | (simp; done) | (simp; omega)))))⟩
set_option maxRecDepth 20000 in
set_option maxHeartbeats 4000000 in
theorem lawCkG (n c : Nat) (A : Option Addr) (w : World) (hn : n ≤ c) (hc : c ≤ 9223372036854775807) (hA : BytesAt w w.heap.size A n) :
    Calls Tryz.prog 6 #[.slice A n c] w fun e w' => e = .returned (.bool true) ∧ Below w.heap.size w w' := by
  by_cases hle : n ≤ 1048576
  · have hd : decide ((1048576 : Int) < (n : Int)) = false := decide_eq_false (by omega)
    go_enter Tryz.func6, Tryz.ntmps6
    go_wp2_with fail
    refine (drawCkG_any n c A _ hn hc hA).mono ?_
    rintro e w1 ⟨A1, n1, c1, Z1, m1, d1, G1, k1, e1, ps, ts, gs, rfl, o1, lp, cbp, ht1, lm1, tz1, hg1, lk1, ig1, fg1, B1⟩
    have h1 := hide o1.pts.1
    have P1 := hide o1.pts.2.2.2
    have F1 := hide o1.form.1
    have H2 := hide ht1
    have T1 := hide tz1
    have H3 := hide hg1
    have G3 := hide ig1
    have FG := hide fg1
    have kn : n1 ≤ 9 := by have := h1.out; omega
    have IG := hide (fun (gs' : List Int) (G : Option Addr) (k e : Nat) (W : World) (hb : Below w1.heap.size w1 W) (hg : gs'.length = k) (hk : k ≤ 2000000) (hgs : IntsAt W W.heap.size G gs') => iGrd_any ps ts gs' A1 Z1 G n1 c1 m1 d1 k e W h1.out (by omega) F1.out H2.out (by omega) hg hk (P1.out.to hb) (T1.out.to hb) hgs)
    have SG := hide (fun (W : World) (hb : Below w1.heap.size w1 W) => sGrd_any ps ts gs A1 Z1 G1 n1 c1 m1 d1 k1 e1 W h1.out (by omega) H2.out (by omega) H3.out (by omega) (P1.out.to hb) (T1.out.to hb) (G3.out.to hb))
    have CK := hide (fun (W : World) (hb : Below w1.heap.size w1 W) => iCkT2_any ps ts A1 Z1 n1 c1 m1 d1 W h1.out (by omega) F1.out H2.out (by omega) (P1.out.to hb) (T1.out.to hb))
    have s1 := B1.size
    have EV : Hid (chkT ps ts = true → grdB ps ts (zI (List.range n1)) = true) := hide (fun h => by rw [← h1.out]; exact grd_every h)
    have MO : Hid (grdB ps ts gs = true → grdB ps ts (gs ++ [(n1 : Int) - 1]) = true) := hide (fun h => by rw [← h1.out]; exact grd_more h)
    have C0 : Hid (chkT ps ts = true → 3 ≤ n1) := hide (fun h => by rw [← h1.out]; exact (chk_tri h).2.2.2.1)
    have IG0 := hide (fun W hb => IG.out gs G1 k1 e1 W hb H3.out (by omega) (G3.out.to hb))
    clear o1 hA cbp ht1 tz1 hg1 ig1 F1 fg1
    generalize hV : grdB ps ts gs = V at *
    generalize hC : chkT ps ts = C at *
    clear hV hC
    go_wp2_with fail
    refine (IG0.out _ (Below.refl _ _)).mono ?_
    rintro e w2 ⟨rfl, hx2⟩
    have D2 := hide (ext_bel hx2)
    clear hx2 IG0
    go_wp2_with fail
    refine (SG.out _ D2.out).mono ?_
    rintro e w3 ⟨rfl, hx3⟩
    have D3 := hide (D2.out.trans ((ext_bel hx3).mono D2.out.size))
    have s3 := D3.out.size
    clear hx3
    cases C
    · cases V
      · skip
        go_wp2_with fail
        refine (CK.out _ D3.out).mono ?_
        rintro e w4 ⟨rfl, hx4⟩
        have D4 := hide (D3.out.trans ((ext_bel hx4).mono s3))
        clear hx4
        go_wp2_with fail
        refine (SG.out _ D4.out).mono ?_
        rintro e w5 ⟨rfl, hx5⟩
        have D5 := hide (D4.out.trans ((ext_bel hx5).mono D4.out.size))
        clear hx5
        go_wp2_with fail
        go_ret
        exact ⟨rfl, B1.trans (D5.out.mono s1)⟩
      · skip
        go_wp2_with fail
        refine (CK.out _ D3.out).mono ?_
        rintro e w4 ⟨rfl, hx4⟩
        have D4 := hide (D3.out.trans ((ext_bel hx4).mono s3))
        clear hx4
        go_wp2_with fail
        refine (SG.out _ D4.out).mono ?_
        rintro e w5 ⟨rfl, hx5⟩
        have D5 := hide (D4.out.trans ((ext_bel hx5).mono D4.out.size))
        clear hx5
        go_wp2_with fail
        go_ret
        exact ⟨rfl, B1.trans (D5.out.mono s1)⟩
    · have EVt := hide (EV.out rfl)
      have n3 := C0.out rfl
      have wm : IntKind.i64.wrap ((n1 : Int) - 1) = (n1 : Int) - 1 := IntWalk.i64_in _ (by omega)
      have ZL := hide (fun i => zIr_len i)
      have ZS := hide (fun i => zIr_succ i)
      clear EV C0 SG
      cases V
      · skip
        go_wp2_with fail
        refine (CK.out _ D3.out).mono ?_
        rintro e w4 ⟨rfl, hx4⟩
        have D4 := hide (D3.out.trans ((ext_bel hx4).mono s3))
        have s4 := D4.out.size
        clear hx4 CK
        go_wp2_with fail
        go_loopw [7, 8] (fun u7 u8 wr => ∃ i : Nat, i ≤ n1 ∧ u8 = .int .i64 i ∧ Own wr w4.heap.size u7 (zI (List.range i)) ∧ Below w4.heap.size w4 wr) (fun _ u8 _ => n1 - (intOf u8).toNat)
        case atStart => exact ⟨0, Nat.zero_le _, rfl, (Own.empty w4 _ (Nat.le_refl _)), (by (repeat' (first | (with_reducible first | exact Below.refl _ _ | assumption | refine below_ext _ ?_ ?_ | refine Below.alloc ?_ ?_ _ | refine Below.drew ?_ | refine below_drewN ?_ _ | refine le_drewN _ ?_ | refine Below.setCell ?_ ?_ _ | exact Nat.le_refl _ | refine le_ext _ ?_ | refine le_alloc _ ?_ | refine le_setCell _ _ ?_ | refine le_drew ?_) | omega | (simp; done) | (simp; omega))))⟩
        case' round =>
          obtain ⟨i, hi, rfl, hown, hbel⟩ := hrel
          obtain ⟨A7, n7, c7, rfl⟩ := own_slice hown
          have O7 := hide hown
          have hsz := hbel.size
          by_cases hlt : i < n1
          · have NL : (zI (List.range i)).length ≤ 2000000 := by rw [ZL.out]; omega
            have NX := hide (ZS.out i)
            clear hown
            generalize zI (List.range i) = ZZ at *
            go_wp2_with (at_builtin; refine app_one rfl _ _ rfl w4.heap.size (.slice A7 n7 c7) ZZ rfl (O7.out.below (by (repeat' (first | (with_reducible first | exact Below.refl _ _ | assumption | refine below_ext _ ?_ ?_ | refine Below.alloc ?_ ?_ _ | refine Below.drew ?_ | refine below_drewN ?_ _ | refine le_drewN _ ?_ | refine Below.setCell ?_ ?_ _ | exact Nat.le_refl _ | refine le_ext _ ?_ | refine le_alloc _ ?_ | refine le_setCell _ _ ?_ | refine le_drew ?_) | omega | (simp; done) | (simp; omega))))) (i : Int) _ _ rfl (by simp [go_sem]) NL (by simp; omega) ?_; intro v8 w8 hown8 hb8 hat8 hgr8; obtain ⟨A8, n8, c8, rfl⟩ := own_slice hown8; have O8 := hide hown8; have B8 := hide (Below.trans (Below.mono (show Below wr.heap.size wr _ from (by (repeat' (first | (with_reducible first | exact Below.refl _ _ | assumption | refine below_ext _ ?_ ?_ | refine Below.alloc ?_ ?_ _ | refine Below.drew ?_ | refine below_drewN ?_ _ | refine le_drewN _ ?_ | refine Below.setCell ?_ ?_ _ | exact Nat.le_refl _ | refine le_ext _ ?_ | refine le_alloc _ ?_ | refine le_setCell _ _ ?_ | refine le_drew ?_) | omega | (simp; done) | (simp; omega))))) hsz) hb8); clear hown8 hat8 hgr8 hb8)
            exact ⟨⟨i + 1, by omega, by go_num, by rw [NX.out]; exact O8.out, hbel.trans B8.out⟩, by simp [intOf]; omega⟩
          have ei : n1 = i := by omega
          subst ei
          have R7 := hide hown.ints
          have DW := hide (D4.out.trans (hbel.mono s4))
          have IGa := hide (IG.out (zI (List.range n1)) A7 n7 c7 wr DW.out R7.out.1 (by have := R7.out.1; rw [ZL.out] at this; omega) R7.out.2.2.2)
          rw [EVt.out] at IGa
          clear hown EVt ZS
        go_wp2_with fail
        refine IGa.out.mono ?_
        rintro e w5 ⟨rfl, hx5⟩
        have D5 := hide (DW.out.trans ((ext_bel hx5).mono DW.out.size))
        clear hx5 IGa
        go_wp2_with fail
        go_ret
        exact ⟨rfl, B1.trans (D5.out.mono s1)⟩
      · have MOt := hide (MO.out rfl)
        go_wp2_with fail
        refine (CK.out _ D3.out).mono ?_
        rintro e w4 ⟨rfl, hx4⟩
        have D4 := hide (D3.out.trans ((ext_bel hx4).mono s3))
        have s4 := D4.out.size
        clear hx4 CK
        go_wp2_with fail
        go_loopw [7, 8] (fun u7 u8 wr => ∃ i : Nat, i ≤ n1 ∧ u8 = .int .i64 i ∧ Own wr w4.heap.size u7 (zI (List.range i)) ∧ Below w4.heap.size w4 wr) (fun _ u8 _ => n1 - (intOf u8).toNat)
        case atStart => exact ⟨0, Nat.zero_le _, rfl, (Own.empty w4 _ (Nat.le_refl _)), (by (repeat' (first | (with_reducible first | exact Below.refl _ _ | assumption | refine below_ext _ ?_ ?_ | refine Below.alloc ?_ ?_ _ | refine Below.drew ?_ | refine below_drewN ?_ _ | refine le_drewN _ ?_ | refine Below.setCell ?_ ?_ _ | exact Nat.le_refl _ | refine le_ext _ ?_ | refine le_alloc _ ?_ | refine le_setCell _ _ ?_ | refine le_drew ?_) | omega | (simp; done) | (simp; omega))))⟩
        case' round =>
          obtain ⟨i, hi, rfl, hown, hbel⟩ := hrel
          obtain ⟨A7, n7, c7, rfl⟩ := own_slice hown
          have O7 := hide hown
          have hsz := hbel.size
          by_cases hlt : i < n1
          · have NL : (zI (List.range i)).length ≤ 2000000 := by rw [ZL.out]; omega
            have NX := hide (ZS.out i)
            clear hown
            generalize zI (List.range i) = ZZ at *
            go_wp2_with (at_builtin; refine app_one rfl _ _ rfl w4.heap.size (.slice A7 n7 c7) ZZ rfl (O7.out.below (by (repeat' (first | (with_reducible first | exact Below.refl _ _ | assumption | refine below_ext _ ?_ ?_ | refine Below.alloc ?_ ?_ _ | refine Below.drew ?_ | refine below_drewN ?_ _ | refine le_drewN _ ?_ | refine Below.setCell ?_ ?_ _ | exact Nat.le_refl _ | refine le_ext _ ?_ | refine le_alloc _ ?_ | refine le_setCell _ _ ?_ | refine le_drew ?_) | omega | (simp; done) | (simp; omega))))) (i : Int) _ _ rfl (by simp [go_sem]) NL (by simp; omega) ?_; intro v8 w8 hown8 hb8 hat8 hgr8; obtain ⟨A8, n8, c8, rfl⟩ := own_slice hown8; have O8 := hide hown8; have B8 := hide (Below.trans (Below.mono (show Below wr.heap.size wr _ from (by (repeat' (first | (with_reducible first | exact Below.refl _ _ | assumption | refine below_ext _ ?_ ?_ | refine Below.alloc ?_ ?_ _ | refine Below.drew ?_ | refine below_drewN ?_ _ | refine le_drewN _ ?_ | refine Below.setCell ?_ ?_ _ | exact Nat.le_refl _ | refine le_ext _ ?_ | refine le_alloc _ ?_ | refine le_setCell _ _ ?_ | refine le_drew ?_) | omega | (simp; done) | (simp; omega))))) hsz) hb8); clear hown8 hat8 hgr8 hb8)
            exact ⟨⟨i + 1, by omega, by go_num, by rw [NX.out]; exact O8.out, hbel.trans B8.out⟩, by simp [intOf]; omega⟩
          have ei : n1 = i := by omega
          subst ei
          have R7 := hide hown.ints
          have DW := hide (D4.out.trans (hbel.mono s4))
          have IGa := hide (IG.out (zI (List.range n1)) A7 n7 c7 wr DW.out R7.out.1 (by have := R7.out.1; rw [ZL.out] at this; omega) R7.out.2.2.2)
          rw [EVt.out] at IGa
          clear hown EVt ZS
        go_wp2_with fail
        refine IGa.out.mono ?_
        rintro e w5 ⟨rfl, hx5⟩
        have D5 := hide (DW.out.trans ((ext_bel hx5).mono DW.out.size))
        clear hx5 IGa
        have EMP := hide (Own.empty w5 w5.heap.size (Nat.le_refl _))
        have G5 := hide (G3.out.to D5.out)
        have s5 := D5.out.size
        have NL : ([] ++ gs : List Int).length ≤ 2000000 := by rw [List.nil_append, H3.out]; omega
        have LT := hide (fun W : World => Own.lit W ((n1 : Int) - 1))
        go_wp2_with (at_builtin; first | (refine app_intsG (by rfl) _ _ rfl w5.heap.size _ [] rfl EMP.out G1 k1 e1 w5.heap.size gs rfl H3.out (G5.out.below (by (repeat' (first | (with_reducible first | exact Below.refl _ _ | assumption | refine below_ext _ ?_ ?_ | refine Below.alloc ?_ ?_ _ | refine Below.drew ?_ | refine below_drewN ?_ _ | refine le_drewN _ ?_ | refine Below.setCell ?_ ?_ _ | exact Nat.le_refl _ | refine le_ext _ ?_ | refine le_alloc _ ?_ | refine le_setCell _ _ ?_ | refine le_drew ?_) | omega | (simp; done) | (simp; omega))))) FG.out (Nat.zero_le _) (by omega) (by simp) ?_; intro v8 w8 hown8 hb8 hat8 hgr8; obtain ⟨A8, n8, c8, rfl⟩ := own_slice hown8; have O8 := hide hown8; have B8 := hide ((show Below w5.heap.size w5 _ from (by (repeat' (first | (with_reducible first | exact Below.refl _ _ | assumption | refine below_ext _ ?_ ?_ | refine Below.alloc ?_ ?_ _ | refine Below.drew ?_ | refine below_drewN ?_ _ | refine le_drewN _ ?_ | refine Below.setCell ?_ ?_ _ | exact Nat.le_refl _ | refine le_ext _ ?_ | refine le_alloc _ ?_ | refine le_setCell _ _ ?_ | refine le_drew ?_) | omega | (simp; done) | (simp; omega))))).trans hb8); have s8 := B8.out.size; clear hown8 hat8 hgr8 hb8) | (refine app_intsG (by rfl) _ _ rfl w5.heap.size (.slice A8 n8 c8) ([] ++ gs) rfl (O8.out.below (by (repeat' (first | (with_reducible first | exact Below.refl _ _ | assumption | refine below_ext _ ?_ ?_ | refine Below.alloc ?_ ?_ _ | refine Below.drew ?_ | refine below_drewN ?_ _ | refine le_drewN _ ?_ | refine Below.setCell ?_ ?_ _ | exact Nat.le_refl _ | refine le_ext _ ?_ | refine le_alloc _ ?_ | refine le_setCell _ _ ?_ | refine le_drew ?_) | omega | (simp; done) | (simp; omega))))) (some ⟨w8.heap.size, 0, none⟩) 1 1 _ [(n1 : Int) - 1] rfl rfl (LT.out w8).ints.2.2.2 some_form NL (by omega) (by simp; omega) ?_; intro v9 w9 hown9 hb9 hat9 hgr9; obtain ⟨A9, n9, c9, rfl⟩ := own_slice hown9; have O9 := hide hown9; have B9 := hide (B8.out.trans ((show Below w5.heap.size w8 _ from (by (repeat' (first | (with_reducible first | exact Below.refl _ _ | assumption | refine below_ext _ ?_ ?_ | refine Below.alloc ?_ ?_ _ | refine Below.drew ?_ | refine below_drewN ?_ _ | refine le_drewN _ ?_ | refine Below.setCell ?_ ?_ _ | exact Nat.le_refl _ | refine le_ext _ ?_ | refine le_alloc _ ?_ | refine le_setCell _ _ ?_ | refine le_drew ?_) | omega | (simp; done) | (simp; omega))))).trans hb9)); clear hown9 hat9 hgr9 hb9))
        have R9 : Hid ((gs ++ [(n1 : Int) - 1]).length = n9 ∧ IntsAt w9 w9.heap.size A9 (gs ++ [(n1 : Int) - 1])) := hide (by have := O9.out.ints; rw [List.nil_append] at this; exact ⟨this.1, this.2.2.2⟩)
        have D9 := hide (D5.out.trans (B9.out.mono s5))
        have IGm := IG.out (gs ++ [(n1 : Int) - 1]) A9 n9 c9 w9 D9.out R9.out.1 (by have := R9.out.1; rw [List.length_append, H3.out] at this; simp at this; omega) R9.out.2
        rw [MOt.out] at IGm
        refine IGm.mono ?_
        rintro e w10 ⟨rfl, hx10⟩
        have D10 := hide (D9.out.trans ((ext_bel hx10).mono D9.out.size))
        clear hx10
        go_wp2_with fail
        go_ret
        exact ⟨rfl, B1.trans (D10.out.mono s1)⟩
  · skip
    have hd : decide ((1048576 : Int) < (n : Int)) = true := decide_eq_true (by omega)
    go_enter Tryz.func6, Tryz.ntmps6
    go_wp2
    go_ret
    exact ⟨rfl, (by (repeat' (first | (with_reducible first | exact Below.refl _ _ | assumption | refine below_ext _ ?_ ?_ | refine Below.alloc ?_ ?_ _ | refine Below.drew ?_ | refine below_drewN ?_ _ | refine le_drewN _ ?_ | refine Below.setCell ?_ ?_ _ | exact Nat.le_refl _ | refine le_ext _ ?_ | refine le_alloc _ ?_ | refine le_setCell _ _ ?_ | refine le_drew ?_) | omega | (simp; done) | (simp; omega))))⟩
end Go.Proofs.YtelhidonhldjeaaGreat
