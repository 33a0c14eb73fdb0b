
/- Texts of points: both EncodePoints. -/
import Derived.Test.YtnddfdhfefconaaGreatDoorPtM
import Derived.Test.YtnddfdhfefconaaGreatDoorEnc
import Derived.Test.YtnddfdhfefconaaGreatDoorSHull
set_option linter.unusedVariables false
set_option linter.unusedSimpArgs false
namespace Go.Proofs.YtnddfdhfefconaaGreatDoor
open Go.RowKit

theorem step_str {ops : Array Oper} {o : Oper} {a : Act} {K : Act → World → Prop} {Q : Exit → Act → World → Prop} {E : Prop} {w : World} (hgd : o.guard = none) (s x : Operand)
    (ho : o.op = .call { callee := .builtin .append, args := #[s, x], argTypes := #[27, 27] })
    (base : Nat) (v : Value) (ss : List (List UInt8)) (hs : a.eval s = v) (hown : OwnS w base v ss) (S : ByteArray) (y : List UInt8) (hS : S = bS y) (b c : Nat) (hx : a.eval x = .slice (some ⟨b, 0, none⟩) 1 c) (hc : w.cell? ⟨b, 0, none⟩ = some (.string S))
    (hlen : ss.length ≤ 2000000) (hbase : base ≤ w.heap.size)
    (h : ∀ v' w', OwnS w' base v' (ss ++ [y]) → Below base w w' → (v'.ownBlock = v.ownBlock ∨ v'.ownBlock = some w.heap.size) → w.grownBy w' v.ownBlock → K (a.put o.dst v') w') :
    if Region.wanted o (yielded ops a.tmps) = true then Oper.wp Tryz.prog o a w K Q else E := by
  have hw : Region.wanted o (yielded ops a.tmps) = true := by simp [Region.wanted, hgd]
  rw [if_pos hw]
  subst hS
  exact app_wp strElt s x ho base v ss.length _ hs hown (some ⟨b, 0, none⟩) 1 c [.string (bS y)] hx rfl (fun _ => ⟨b, 0, rfl, fun j u hj => by
      cases j with
      | zero => simp at hj; subst hj; exact hc
      | succ j => simp at hj⟩) (fun h => by cases h) (fun _ _ _ e => by injection e with e; injection e with _ _ e; exact e.symm) (fun u hu => by simp at hu; subst hu; rfl) (by unfold maxLen; omega) (by omega) hbase fun v' w' h2 h3 h4 =>
    h v' w' (by unfold OwnS strVals; rw [List.length_append, List.map_append]; exact h2) ((Below.refl _ _).grown h3 hbase hown.lt) h4 h3
theorem joinX : Builder.Extra Tryz.prog Tryz.joinS_ren where
  sizeBuilder := by kernel_rfl
  liesBuilder := by kernel_rfl
  t5 := Tryz.underlying5
  a5 := Tryz.isAgg5
  z5 := Tryz.sizeOf5
  v5 := Tryz.zeroValue5
  infoByte := by kernel_rfl
  cellsByte := by kernel_rfl
  sizeByte := by kernel_rfl
  neB5 := by decide
theorem map_bS (ss : List (List UInt8)) : (ss.map bS).map (fun x => x.data.toList) = ss := by
  rw [List.map_map]
  conv => rhs; rw [← List.map_id ss]
  exact List.map_congr_left fun x _ => bS_list x
theorem join_any (ss : List (List UInt8)) (A : Option Addr) (n c : Nat) (w : World) (hn : ss.length = n) (hc : n ≤ c) (hs : StrsAt w w.heap.size A ss) (hm : n ≤ 2000000) (hl : (Lib.join ss [44]).length ≤ 2000000) :
    Calls Tryz.prog 24 #[.slice A n c, .string (bS [44])] w fun e w' => e = .returned (.string (bS (Lib.join ss [44]))) ∧ ∃ x, w' = ext w x := by
  by_cases h0 : n = 0
  · subst h0
    obtain rfl := List.length_eq_zero_iff.1 hn
    refine Calls.mono (Any.strings_Join_none (ρ := Tryz.joinS_ren) { Tryz.joinS with } joinX A c (bS [44]) w) fun e w' hh => ⟨hh.1, ?_⟩
    rw [hh.2]
    exact ext_same w
  · obtain ⟨b, o, rfl, hb, hcs⟩ := hs (by omega)
    have h := Any.strings_Join (ρ := Tryz.joinS_ren) { Tryz.joinS with } joinX b o c (ss.map bS) (bS [44]) w (fun j x hj => by
      rw [List.getElem?_map] at hj
      cases e : ss[j]? with
      | none => rw [e] at hj; cases hj
      | some y =>
        rw [e] at hj
        cases hj
        have hlt : j < ss.length := (List.getElem?_eq_some_iff.1 e).1
        rw [hcs j hlt, gstr_lt hlt]
        rw [List.getElem?_eq_getElem hlt] at e
        injection e with e
        rw [e]) hb (by rw [List.length_map]; omega) (by rw [List.length_map]; omega) (by rw [map_bS, bS_list]; omega)
    rw [List.length_map, hn, map_bS, bS_list] at h
    exact Calls.mono h fun e w' hh => ⟨hh.1, ext_mk hh.2⟩
theorem encE_no {ps : List Pt} (h : listOk ps = false) : encE ps = [] := by unfold encE; rw [h]; rfl
theorem encE_yes {ps : List Pt} (h : listOk ps = true) : encE ps = encL ps := by unfold encE; rw [if_pos h]
theorem ptT_take {ps : List Pt} {k : Nat} (hk : k < ps.length) : (ps.take (k + 1)).map ptT = (ps.take k).map ptT ++ [ptT ⟨pX ps k, pY ps k⟩] := by
  rw [List.take_succ_eq_append_getElem hk, List.map_append, ← gp_lt hk]; rfl
theorem pt_cat (x y : Int) (h : (-9223372036854775808 ≤ x ∧ x ≤ 9223372036854775807) ∧ (-9223372036854775808 ≤ y ∧ y ≤ 9223372036854775807)) (I1 I2 : ByteArray) (e1 : I1 = bS (Lib.itoa x)) (e2 : I2 = bS (Lib.itoa y)) :
    ∃ S1 S : ByteArray, I1 ++ (⟨#[32]⟩ : ByteArray) = S1 ∧ S1 ++ I2 = S ∧ S = bS (ptT ⟨x, y⟩) ∧ ¬ 9223372036854775807 < I1.size + (⟨#[32]⟩ : ByteArray).size ∧ ¬ 9223372036854775807 < S1.size + I2.size ∧ ¬ 9223372036854775807 < I1.size + 1 := by
  subst e1 e2
  have l1 := itoa_len x h.1
  have l2 := itoa_len y h.2
  have i32 : bS [32] = ⟨#[32]⟩ := rfl
  rw [← i32]
  refine ⟨bS (Lib.itoa x ++ [32]), bS (ptT ⟨x, y⟩), bS_app _ _, bS_app _ _, rfl, ?_, ?_, ?_⟩
  · rw [bS_size, bS_size]; simp; omega
  · rw [bS_size, bS_size]; simp; omega
  · rw [bS_size]; omega
set_option maxRecDepth 20000 in
set_option maxHeartbeats 4000000 in
theorem iEncL_any (ps : List Pt) (A : Option Addr) (n c : Nat) (w : World) (hn : ps.length = n) (hm : n ≤ 2000000) (hs : PtsAt w w.heap.size A ps) (ht : Tab w) :
    Calls Tryz.prog 9 #[.slice A n c] w fun e w' => e = .returned (.string (bS (encE ps))) ∧ ∃ x, w' = ext w x := by
  have HC := hide (fun (W : World) (hb : Below w.heap.size w W) => listOk_any ps A n c W hn (by omega) (hs.to hb))
  cases hok : listOk ps
  · rw [hok] at HC
    rw [encE_no hok, bS_nil]
    clear hok hn hs ht
    go_enter Tryz.func9, Tryz.ntmps9
    go_wp2_with fail
    refine (HC.out _ (by (repeat' (first | (with_reducible first | exact Below.refl _ _ | assumption | refine below_ext _ ?_ ?_ | refine Below.alloc ?_ ?_ _ | refine Below.drew ?_ | refine below_drewN ?_ _ | refine le_drewN _ ?_ | refine Below.setCell ?_ ?_ _ | exact Nat.le_refl _ | refine le_ext _ ?_ | refine le_alloc _ ?_ | refine le_setCell _ _ ?_ | refine le_drew ?_) | omega | (simp; done) | (simp; omega))))).mono ?_
    rintro e w' ⟨rfl, hw'⟩; have hzy1 := ext_sz hw'; obtain ⟨y1, rfl⟩ := hw'; (try simp at hzy1)
    go_wp2
    go_ret
    exact ⟨rfl, (ext_mk (by (repeat' (first | (with_reducible first | exact Below.refl _ _ | assumption | refine below_ext _ ?_ ?_ | refine Below.alloc ?_ ?_ _ | refine Below.drew ?_ | refine below_drewN ?_ _ | refine le_drewN _ ?_ | refine Below.setCell ?_ ?_ _ | exact Nat.le_refl _ | refine le_ext _ ?_ | refine le_alloc _ ?_ | refine le_setCell _ _ ?_ | refine le_drew ?_) | omega | (simp; done) | (simp; omega)))))⟩
  · rw [hok] at HC
    rw [encE_yes hok]
    have HN := hide hn
    have HS := hide hs
    obtain ⟨h20, hpk⟩ := listOk_1 hok
    have BI : Hid (∀ i, i < n → ((-1000 ≤ pX ps i ∧ pX ps i ≤ 1000) ∧ (-1000 ≤ pY ps i ∧ pY ps i ≤ 1000))) := hide (fun i hi => ok_bd (hpk _ (gp_mem (by omega))))
    have EL := hide (encL_len hpk)
    have k20 : n ≤ 20 := by omega
    obtain ⟨IT, hIT⟩ : ∃ IT : Int → ByteArray, ∀ k, IT k = bS (Lib.itoa k) := ⟨_, fun _ => rfl⟩
    have HIT := hide hIT
    have IA := hide (fun (k : Int) (W : World) (hk : -1000 ≤ k ∧ k ≤ 1000) (hb : Below w.heap.size w W) => (itoa_any k W (by omega) (ht.to hb)).mono (fun e w' hh => (⟨by rw [hIT k]; exact hh.1, hh.2⟩ : e = .returned (.string (IT k)) ∧ ∃ x, w' = ext W x)))
    have TK := hide (fun (k : Nat) (hk : k < n) => ptT_take (ps := ps) (k := k) (by omega))
    obtain ⟨i0, hi, hz0, hz1, hz2⟩ := info_parts strElt.inf
    have IP := hide (And.intro hi (And.intro hz0 (And.intro hz1 hz2)))
    clear hi hz0 hz1 hz2
    have mk1 : i0.bytes * n ≤ 281474976710656 := by rw [IP.out.2.2.2]; omega
    have mk2 : n ≤ maxLen := by unfold maxLen; omega
    clear hok hn hs h20 hpk ht hIT
    go_enter Tryz.func9, Tryz.ntmps9
    go_wp2_with fail
    refine (HC.out _ (by (repeat' (first | (with_reducible first | exact Below.refl _ _ | assumption | refine below_ext _ ?_ ?_ | refine Below.alloc ?_ ?_ _ | refine Below.drew ?_ | refine below_drewN ?_ _ | refine le_drewN _ ?_ | refine Below.setCell ?_ ?_ _ | exact Nat.le_refl _ | refine le_ext _ ?_ | refine le_alloc _ ?_ | refine le_setCell _ _ ?_ | refine le_drew ?_) | omega | (simp; done) | (simp; omega))))).mono ?_
    rintro e w' ⟨rfl, hw'⟩; have hzy1 := ext_sz hw'; obtain ⟨y1, rfl⟩ := hw'; (try simp at hzy1)
    have BW := hide (show Below w.heap.size w (ext w y1) from (by (repeat' (first | (with_reducible first | exact Below.refl _ _ | assumption | refine below_ext _ ?_ ?_ | refine Below.alloc ?_ ?_ _ | refine Below.drew ?_ | refine below_drewN ?_ _ | refine le_drewN _ ?_ | refine Below.setCell ?_ ?_ _ | exact Nat.le_refl _ | refine le_ext _ ?_ | refine le_alloc _ ?_ | refine le_setCell _ _ ?_ | refine le_drew ?_) | omega | (simp; done) | (simp; omega)))))
    have sw := BW.out.size
    generalize ext w y1 = W1 at *
    go_wp2_with (refine wpList_make_own _ rfl (.const (.int .i64 0)) (.tmp 10) 27 rfl W1.heap.size 9 i0 _ 1 strElt.und IP.out.1 IP.out.2.1 IP.out.2.2.1 .i64 .i64 _ n rfl rfl rfl mk1 mk2 (Nat.le_refl _) ?_; intro w1 hown1 hgr1; have O1 := hide (show OwnS w1 W1.heap.size _ [] from hown1); have B1 := hide ((Below.refl _ _).grown hgr1 (Nat.le_refl _) (fun k hk => by cases hk)); clear hown1 hgr1)
    go_loopw [3, 14] (fun u3 u14 wr => ∃ (k : Nat), k ≤ n ∧ u14 = .int .i64 k ∧ OwnS wr W1.heap.size u3 ((ps.take k).map ptT) ∧ Below W1.heap.size W1 wr) (fun _ u14 _ => n - (intOf u14).toNat)
    case atStart => exact ⟨0, Nat.zero_le _, rfl, O1.out.below (by (repeat' (first | (with_reducible first | exact Below.refl _ _ | assumption | refine below_ext _ ?_ ?_ | refine Below.alloc ?_ ?_ _ | refine Below.drew ?_ | refine below_drewN ?_ _ | refine le_drewN _ ?_ | refine Below.setCell ?_ ?_ _ | exact Nat.le_refl _ | refine le_ext _ ?_ | refine le_alloc _ ?_ | refine le_setCell _ _ ?_ | refine le_drew ?_) | omega | (simp; done) | (simp; omega)))), Below.trans B1.out (by (repeat' (first | (with_reducible first | exact Below.refl _ _ | assumption | refine below_ext _ ?_ ?_ | refine Below.alloc ?_ ?_ _ | refine Below.drew ?_ | refine below_drewN ?_ _ | refine le_drewN _ ?_ | refine Below.setCell ?_ ?_ _ | exact Nat.le_refl _ | refine le_ext _ ?_ | refine le_alloc _ ?_ | refine le_setCell _ _ ?_ | refine le_drew ?_) | omega | (simp; done) | (simp; omega))))⟩
    case round =>
      obtain ⟨k, hk, rfl, hown, hbel⟩ := hrel
      obtain ⟨A0, n0, c0, rfl⟩ := hown.slice
      have hsz := hbel.size
      have OWN0 := hide hown
      clear hown
      by_cases hlt : k < n
      · obtain ⟨b1, o1, rfl, hbl1, hc1⟩ := HS.out (by rw [HN.out]; omega)
        obtain ⟨hx0, hy0⟩ := hc1 k (by rw [HN.out]; omega)
        obtain ⟨p1, p2⟩ := BI.out k hlt
        have hbb := BW.out.trans (hbel.mono BW.out.size)
        have hx := (hbb.cell (p := ⟨b1, o1 + k * 2, none⟩) hbl1).trans hx0
        have hy := (hbb.cell (p := ⟨b1, o1 + k * 2 + 1, none⟩) hbl1).trans hy0
        clear hc1 hx0 hy0
        have NX := hide (TK.out k hlt)
        have NL : ((ps.take k).map ptT).length ≤ 2000000 := by rw [List.length_map, List.length_take]; omega
        obtain ⟨S1, S, E1, E2, e9, K1, K2, K3⟩ := pt_cat (pX ps k) (pY ps k) (by omega) _ _ (HIT.out _) (HIT.out _)
        have ES := hide e9
        clear e9
        generalize pX ps k = X at *
        generalize pY ps k = Y at *
        go_wp2_with fail
        have IX := hide (fun (W : World) (hb : Below wr.heap.size wr W) => IA.out X W p1 (hbb.trans (hb.mono hbb.size)))
        have IY := hide (fun (W : World) (hb : Below wr.heap.size wr W) => IA.out Y W p2 (hbb.trans (hb.mono hbb.size)))
        obtain ⟨W2, hW2⟩ : ∃ W2, W2 = wr.alloc (.cells #[.int .i64 X, .int .i64 Y] 41) := ⟨_, rfl⟩
        have t0 : Hid (W2.cell? ⟨wr.heap.size, 0, none⟩ = some (.int .i64 X) ∧ W2.cell? ⟨wr.heap.size, 1, none⟩ = some (.int .i64 Y)) := hide (by subst hW2; exact ⟨(heap_cell (heap_alloc_new _ _) 0).trans rfl, (heap_cell (heap_alloc_new _ _) 1).trans rfl⟩)
        have BR : Hid (Below wr.heap.size wr W2) := hide (by subst hW2; exact (by (repeat' (first | (with_reducible first | exact Below.refl _ _ | assumption | refine below_ext _ ?_ ?_ | refine Below.alloc ?_ ?_ _ | refine Below.drew ?_ | refine below_drewN ?_ _ | refine le_drewN _ ?_ | refine Below.setCell ?_ ?_ _ | exact Nat.le_refl _ | refine le_ext _ ?_ | refine le_alloc _ ?_ | refine le_setCell _ _ ?_ | refine le_drew ?_) | omega | (simp; done) | (simp; omega)))))
        have zr : W2.heap.size = wr.heap.size + 1 := by subst hW2; simp
        rw [← hW2]
        clear hW2 hx hy
        have OWN2 := hide (OWN0.out.below BR.out)
        have SC : Hid (∀ W : World, Below W2.heap.size W2 W → W.cell? ⟨wr.heap.size, 0, none⟩ = some (.int .i64 X) ∧ W.cell? ⟨wr.heap.size, 1, none⟩ = some (.int .i64 Y)) := hide (fun W hW => ⟨(hW.cell (p := ⟨wr.heap.size, 0, none⟩) (by simp; omega)).trans t0.out.1, (hW.cell (p := ⟨wr.heap.size, 1, none⟩) (by simp; omega)).trans t0.out.2⟩)
        have IZ := hide (fun (z : Int) (W : World) (hz : -1000 ≤ z ∧ z ≤ 1000) (hb : Below W2.heap.size W2 W) => IA.out z W hz ((hbb.trans (BR.out.mono hbb.size)).trans (hb.mono (by have := hbb.size; omega))))
        have OD : Hid (∀ W : World, Below W2.heap.size W2 W → OwnS (W.alloc (.cells #[.string S] 9)) W1.heap.size (.slice A0 n0 c0) ((ps.take k).map ptT)) := hide (fun W hW => OWN2.out.below (hW.alloc hW.size _))
        have NC : Hid (∀ W : World, (W.alloc (.cells #[.string S] 9)).cell? ⟨W.heap.size, 0, none⟩ = some (.string S)) := hide (fun W => (heap_cell (heap_alloc_new W _) 0).trans rfl)
        have SZ : Hid (∀ (W : World) (o : Obj), Below W2.heap.size W2 W → W1.heap.size ≤ (W.alloc o).heap.size) := hide (fun W o hW => by have := hW.size; rw [size_alloc]; omega)
        have BD0 := hide (show Below W2.heap.size W2 W2.drew from (by (repeat' (first | (with_reducible first | exact Below.refl _ _ | assumption | refine below_ext _ ?_ ?_ | refine Below.alloc ?_ ?_ _ | refine Below.drew ?_ | refine below_drewN ?_ _ | refine le_drewN _ ?_ | refine Below.setCell ?_ ?_ _ | exact Nat.le_refl _ | refine le_ext _ ?_ | refine le_alloc _ ?_ | refine le_setCell _ _ ?_ | refine le_drew ?_) | omega | (simp; done) | (simp; omega)))))
        have BDA := hide (fun (W : World) (o : Obj) (hW : Below W2.heap.size W2 W) => show Below W2.heap.size W2 (W.alloc o) from (hW.alloc hW.size o))
        have LE : W1.heap.size ≤ W2.heap.size := by omega
        have NE : Hid (some wr.heap.size ≠ (Value.slice A0 n0 c0).ownBlock) := hide (fun e => by have := (World.ownsRow.lt OWN0.out wr.heap.size e.symm).2; omega)
        have LZ : Hid (∀ (W : World) (o : Obj), Below W2.heap.size W2 W → wr.heap.size < (W.alloc o).heap.size) := hide (fun W o hW => by have := hW.size; rw [size_alloc]; omega)
        clear IX IY IA t0
        go_region_held3 (fun W => W.cell? ⟨wr.heap.size, 0, none⟩ = some (.int .i64 X) ∧ W.cell? ⟨wr.heap.size, 1, none⟩ = some (.int .i64 Y)) (first | exact SC.out _ BD0.out | exact SC.out _ B6.out | exact SC.out _ (BDA.out _ _ B6.out) | exact C7.out) (first | (go_at_call 23; refine (IZ.out _ _ (by first | exact p1 | exact p2) (by first | exact BD0.out | exact B6.out)).mono ?_; rintro e w6 ⟨rfl, hx6⟩; have B6 : Hid (Below W2.heap.size W2 w6) := hide (by first | exact B6.out.trans ((ext_bel hx6).mono B6.out.size) | exact BD0.out.trans ((ext_bel hx6).mono BD0.out.size)); have hz6 := B6.out.size; clear hx6) | (refine step_str (by rfl) (.tmp 18) (.tmp 27) (by rfl) W1.heap.size (.slice A0 n0 c0) ((ps.take k).map ptT) (by rfl) (OD.out _ B6.out) S (ptT ⟨X, Y⟩) ES.out (w6.heap.size) 1 (by rfl) (NC.out _) NL (SZ.out _ _ B6.out) ?_; intro v7 w7 hown7 hb7 hat7 hgr7; obtain ⟨A7, n7, c7, rfl⟩ := hown7.slice; have O7 := hide hown7; have B7 := hide (((BDA.out _ _ B6.out).mono LE).trans hb7); have C7 := hide (And.intro ((World.cell?_of_block (a := ⟨wr.heap.size, 0, none⟩) (hgr7.block _ (LZ.out _ _ B6.out) NE.out)).trans (SC.out _ (BDA.out _ _ B6.out)).1) ((World.cell?_of_block (a := ⟨wr.heap.size, 1, none⟩) (hgr7.block _ (LZ.out _ _ B6.out) NE.out)).trans (SC.out _ (BDA.out _ _ B6.out)).2)); clear hown7 hat7 hgr7))
        go_wp2_with fail
        exact ⟨⟨k + 1, by omega, by go_num, by rw [NX.out]; exact O7.out, (hbel.trans (BR.out.mono hsz)).trans B7.out⟩, by simp [intOf]; omega⟩
      · have e0 : ps.take k = ps := List.take_of_length_le (by rw [HN.out]; omega)
        have OWN1 : Hid (OwnS wr W1.heap.size (.slice A0 n0 c0) (ps.map ptT)) := hide (by have := OWN0.out; rw [e0] at this; exact this)
        clear e0 OWN0
        obtain ⟨l0, l1, _, hst⟩ := OWN1.out.strs
        have n20 : n0 ≤ 20 := by rw [List.length_map, HN.out] at l0; omega
        have HJ : Hid (Calls Tryz.prog 24 #[.slice A0 n0 c0, .string ⟨#[44]⟩] wr fun e w' => e = .returned (.string (bS (encL ps))) ∧ ∃ x, w' = ext wr x) := hide (join_any (ps.map ptT) A0 n0 c0 wr l0 l1 hst (by omega) (by have := EL.out; rw [HN.out] at this; show (encL ps).length ≤ _; omega))
        have BF := hide (BW.out.trans (hbel.mono BW.out.size))
        clear l0 l1 hst OWN1
        go_wp2_with fail
        refine HJ.out.mono ?_
        rintro e w' ⟨rfl, hw'⟩; have hzy5 := ext_sz hw'; obtain ⟨y5, rfl⟩ := hw'; (try simp at hzy5)
        go_wp2
        go_ret
        exact ⟨rfl, ext_mk (BF.out.trans (Below.mono (show Below wr.heap.size wr _ from (by (repeat' (first | (with_reducible first | exact Below.refl _ _ | assumption | refine below_ext _ ?_ ?_ | refine Below.alloc ?_ ?_ _ | refine Below.drew ?_ | refine below_drewN ?_ _ | refine le_drewN _ ?_ | refine Below.setCell ?_ ?_ _ | exact Nat.le_refl _ | refine le_ext _ ?_ | refine le_alloc _ ?_ | refine le_setCell _ _ ?_ | refine le_drew ?_) | omega | (simp; done) | (simp; omega))))) BF.out.size))⟩
/-! ### the reference's -/
theorem fmt_step {ps : List Pt} {k : Nat} (hk : k < ps.length) : encL (ps.take (k + 1)) = if k = 0 then ptT ⟨pX ps k, pY ps k⟩ else (encL (ps.take k) ++ [44]) ++ ptT ⟨pX ps k, pY ps k⟩ := by
  rw [List.take_succ_eq_append_getElem hk, ← gp_lt hk]
  by_cases h : k = 0
  · subst h
    rw [if_pos rfl]
    show Lib.join [ptT (gp ps 0)] [44] = _
    rw [Lib.join_one]; rfl
  · rw [if_neg h]
    exact encL_snoc (by intro e; have := congrArg List.length e; rw [List.length_take, List.length_nil] at this; omega) _
theorem ok_take {ps : List Pt} (h : ∀ p ∈ ps, p.ok = true) (k : Nat) : (encL (ps.take k)).length ≤ 44 * k := by
  have h1 := encL_len (ps := ps.take k) (fun p hp => h p (List.mem_of_mem_take hp))
  rw [List.length_take] at h1
  omega
set_option maxHeartbeats 2000000 in
theorem fmtPt_any (x y : Int) (w : World) (hx : -1000 ≤ x ∧ x ≤ 1000) (hy : -1000 ≤ y ∧ y ≤ 1000) : Calls Tryz.prog 47 #[.agg #[.int .i64 x, .int .i64 y]] w fun e w' => e = .returned (.string (bS (ptT ⟨x, y⟩))) ∧ ∃ n, w' = ext w n := by
  obtain ⟨IT, hIT⟩ : ∃ IT : Int → ByteArray, ∀ k, IT k = bS (Lib.itoa k) := ⟨_, fun _ => rfl⟩
  have IA := hide (fun (k : Int) (W : World) (hk : -1000 ≤ k ∧ k ≤ 1000) => (sfmt_any k W (by omega)).mono (fun e w' hh => (⟨by rw [hIT k]; exact hh.1, hh.2⟩ : e = .returned (.string (IT k)) ∧ ∃ x, w' = ext W x)))
  obtain ⟨S1, S, E1, E2, e9, K1, K2, K3⟩ := pt_cat x y (by omega) _ _ (hIT _) (hIT _)
  rw [← e9]
  clear e9 hIT
  go_enter Tryz.func47, Tryz.ntmps47
  go_wp2_with fail
  refine wp_region_ext (by kernel_rfl) (by kernel_rfl) ?_
  repeat (go_big_quiet_step ((first | (go_at_call 60; exact Calls.in_ext (IA.out _ _ (by first | exact hx | exact hy))))))
  refine wpQuiet_nil ?_
  rintro _ hnq
  have hzq := ext_sz hnq
  obtain ⟨nq, rfl⟩ := hnq
  (try simp at hzq)
  go_wp2_with fail
  go_ret
  exact ⟨rfl, (ext_mk (by (repeat' (first | (with_reducible first | exact Below.refl _ _ | assumption | refine below_ext _ ?_ ?_ | refine Below.alloc ?_ ?_ _ | refine Below.drew ?_ | refine below_drewN ?_ _ | refine le_drewN _ ?_ | refine Below.setCell ?_ ?_ _ | exact Nat.le_refl _ | refine le_ext _ ?_ | refine le_alloc _ ?_ | refine le_setCell _ _ ?_ | refine le_drew ?_) | omega | (simp; done) | (simp; omega)))))⟩
set_option maxHeartbeats 4000000 in
theorem fmtL_any (ps : List Pt) (A : Option Addr) (n c : Nat) (w : World) (hn : ps.length = n) (hok : listOk ps = true) (hs : PtsAt w w.heap.size A ps) :
    Calls Tryz.prog 26 #[.slice A n c] w fun e w' => e = .returned (.string (bS (encL ps))) ∧ ∃ x, w' = ext w x := by
  obtain ⟨h20, hpk⟩ := listOk_1 hok
  have HN := hide hn
  have HS := hide hs
  have BI : Hid (∀ i, i < n → ((-1000 ≤ pX ps i ∧ pX ps i ≤ 1000) ∧ (-1000 ≤ pY ps i ∧ pY ps i ≤ 1000))) := hide (fun i hi => ok_bd (hpk _ (gp_mem (by omega))))
  obtain ⟨FT, hFT⟩ : ∃ FT : Nat → ByteArray, ∀ k, FT k = bS (encL (ps.take k)) := ⟨_, fun _ => rfl⟩
  have F0 : FT 0 = ⟨#[]⟩ := by rw [hFT 0]; rfl
  have FN : Hid (FT n = bS (encL ps)) := hide (by rw [hFT n, List.take_of_length_le (by omega)])
  have ST : Hid (∀ k, k < n → ∃ S1 S2 : ByteArray, FT k ++ (⟨#[44]⟩ : ByteArray) = S1 ∧ (k = 0 → FT k ++ S2 = FT (k + 1)) ∧ (0 < k → S1 ++ S2 = FT (k + 1)) ∧ S2 = bS (ptT ⟨pX ps k, pY ps k⟩) ∧ ¬ 9223372036854775807 < (FT k).size + (⟨#[44]⟩ : ByteArray).size ∧ ¬ 9223372036854775807 < (FT k).size + S2.size ∧ ¬ 9223372036854775807 < S1.size + S2.size) := hide (fun k hk => by
    have hp := BI.out k hk
    have l1 := ok_take hpk k
    have l2 := ptT_len (p := ⟨pX ps k, pY ps k⟩) (by simp only; omega)
    have st := fmt_step (ps := ps) (k := k) (by omega)
    have i44 : bS [44] = ⟨#[44]⟩ := rfl
    rw [hFT k, hFT (k + 1), ← i44]
    refine ⟨_, _, rfl, fun h => ?_, fun h => ?_, rfl, ?_, ?_, ?_⟩
    · subst h
      rw [st, if_pos rfl, bS_app]; rfl
    · rw [st, if_neg (by omega), bS_app, bS_app]
    · rw [bS_size, bS_size]; simp; omega
    · rw [bS_size, bS_size]; omega
    · rw [bS_app, bS_size, bS_size, List.length_append]; simp; omega)
  have PF := hide (fun (x y : Int) (W : World) (hx : -1000 ≤ x ∧ x ≤ 1000) (hy : -1000 ≤ y ∧ y ≤ 1000) => fmtPt_any x y W hx hy)
  have k20 : n ≤ 20 := by omega
  rw [← FN.out]
  clear hn hok hs h20 hpk hFT FN
  go_enter Tryz.func26, Tryz.ntmps26
  go_wp2_with fail
  go_loopw [3, 4] (fun u3 u4 wr => ∃ (k : Nat), k ≤ n ∧ u4 = .int .i64 k ∧ u3 = .string (FT k) ∧ ∃ x, wr = ext w x) (fun _ u4 _ => n - (intOf u4).toNat)
  case atStart => exact ⟨0, Nat.zero_le _, rfl, by rw [F0], ext_same w⟩
  case round =>
    obtain ⟨k, hk, rfl, rfl, x, rfl⟩ := hrel
    by_cases hlt : k < n
    · obtain ⟨b1, o1, rfl, hbl1, hc1⟩ := HS.out (by rw [HN.out]; omega)
      obtain ⟨hx0, hy0⟩ := hc1 k (by rw [HN.out]; omega)
      obtain ⟨p1, p2⟩ := BI.out k hlt
      obtain ⟨S1, S2, E1, E2, E3, e9, K1, K2, K3⟩ := ST.out k hlt
      have PP := hide (fun W => PF.out (pX ps k) (pY ps k) W p1 p2)
      rw [← e9] at PP
      clear e9 hc1 p1 p2
      generalize pX ps k = X at *
      generalize pY ps k = Y at *
      by_cases h0 : 0 < k
      · have E3 := E3 h0
        have d0 : decide ((0 : Int) < (k : Int)) = true := by simp; omega
        clear E2
        go_wp2_with fail
        refine (PP.out _).mono ?_
        rintro e w' ⟨rfl, hw'⟩; have hzy := ext_sz hw'; obtain ⟨y, rfl⟩ := hw'; (try simp at hzy)
        go_wp2_with fail
        exact ⟨⟨k + 1, by omega, by go_num, rfl, (ext_mk (by (repeat' (first | (with_reducible first | exact Below.refl _ _ | assumption | refine below_ext _ ?_ ?_ | refine Below.alloc ?_ ?_ _ | refine Below.drew ?_ | refine below_drewN ?_ _ | refine le_drewN _ ?_ | refine Below.setCell ?_ ?_ _ | exact Nat.le_refl _ | refine le_ext _ ?_ | refine le_alloc _ ?_ | refine le_setCell _ _ ?_ | refine le_drew ?_) | omega | (simp; done) | (simp; omega)))))⟩, by simp [intOf]; omega⟩
      · have E2 := E2 (by omega)
        have d0 : decide ((0 : Int) < (k : Int)) = false := by simp; omega
        clear E3 E1 K1 K3
        go_wp2_with fail
        refine (PP.out _).mono ?_
        rintro e w' ⟨rfl, hw'⟩; have hzy := ext_sz hw'; obtain ⟨y, rfl⟩ := hw'; (try simp at hzy)
        go_wp2_with fail
        exact ⟨⟨k + 1, by omega, by go_num, rfl, (ext_mk (by (repeat' (first | (with_reducible first | exact Below.refl _ _ | assumption | refine below_ext _ ?_ ?_ | refine Below.alloc ?_ ?_ _ | refine Below.drew ?_ | refine below_drewN ?_ _ | refine le_drewN _ ?_ | refine Below.setCell ?_ ?_ _ | exact Nat.le_refl _ | refine le_ext _ ?_ | refine le_alloc _ ?_ | refine le_setCell _ _ ?_ | refine le_drew ?_) | omega | (simp; done) | (simp; omega)))))⟩, by simp [intOf]; omega⟩
    · have : k = n := by omega
      subst this
      go_wp2
      go_ret
      exact ⟨rfl, (ext_mk (by (repeat' (first | (with_reducible first | exact Below.refl _ _ | assumption | refine below_ext _ ?_ ?_ | refine Below.alloc ?_ ?_ _ | refine Below.drew ?_ | refine below_drewN ?_ _ | refine le_drewN _ ?_ | refine Below.setCell ?_ ?_ _ | exact Nat.le_refl _ | refine le_ext _ ?_ | refine le_alloc _ ?_ | refine le_setCell _ _ ?_ | refine le_drew ?_) | omega | (simp; done) | (simp; omega)))))⟩
set_option maxHeartbeats 2000000 in
theorem sEncL_any (ps : List Pt) (A : Option Addr) (n c : Nat) (w : World) (hn : ps.length = n) (hm : n ≤ 2000000) (hs : PtsAt w w.heap.size A ps) :
    Calls Tryz.prog 10 #[.slice A n c] w fun e w' => e = .returned (.string (bS (encE ps))) ∧ ∃ x, w' = ext w x := by
  have HC := hide (fun (W : World) (hb : Below w.heap.size w W) => validPoints_any ps A n c W hn (by omega) (hs.to hb))
  cases hok : listOk ps
  · rw [hok] at HC
    rw [encE_no hok, bS_nil]
    clear hok hn hs
    go_enter Tryz.func10, Tryz.ntmps10
    go_wp2_with fail
    refine (HC.out _ (by (repeat' (first | (with_reducible first | exact Below.refl _ _ | assumption | refine below_ext _ ?_ ?_ | refine Below.alloc ?_ ?_ _ | refine Below.drew ?_ | refine below_drewN ?_ _ | refine le_drewN _ ?_ | refine Below.setCell ?_ ?_ _ | exact Nat.le_refl _ | refine le_ext _ ?_ | refine le_alloc _ ?_ | refine le_setCell _ _ ?_ | refine le_drew ?_) | omega | (simp; done) | (simp; omega))))).mono ?_
    rintro e w' ⟨rfl, hw'⟩; have hzy1 := ext_sz hw'; obtain ⟨y1, rfl⟩ := hw'; (try simp at hzy1)
    go_wp2
    go_ret
    exact ⟨rfl, (ext_mk (by (repeat' (first | (with_reducible first | exact Below.refl _ _ | assumption | refine below_ext _ ?_ ?_ | refine Below.alloc ?_ ?_ _ | refine Below.drew ?_ | refine below_drewN ?_ _ | refine le_drewN _ ?_ | refine Below.setCell ?_ ?_ _ | exact Nat.le_refl _ | refine le_ext _ ?_ | refine le_alloc _ ?_ | refine le_setCell _ _ ?_ | refine le_drew ?_) | omega | (simp; done) | (simp; omega)))))⟩
  · rw [hok] at HC
    rw [encE_yes hok]
    have FR := hide (fun (W : World) (hb : Below w.heap.size w W) => fmtL_any ps A n c W hn hok (hs.to hb))
    clear hok hn hs
    generalize bS (encL ps) = S at *
    go_enter Tryz.func10, Tryz.ntmps10
    go_wp2_with fail
    refine (HC.out _ (by (repeat' (first | (with_reducible first | exact Below.refl _ _ | assumption | refine below_ext _ ?_ ?_ | refine Below.alloc ?_ ?_ _ | refine Below.drew ?_ | refine below_drewN ?_ _ | refine le_drewN _ ?_ | refine Below.setCell ?_ ?_ _ | exact Nat.le_refl _ | refine le_ext _ ?_ | refine le_alloc _ ?_ | refine le_setCell _ _ ?_ | refine le_drew ?_) | omega | (simp; done) | (simp; omega))))).mono ?_
    rintro e w' ⟨rfl, hw'⟩; have hzy1 := ext_sz hw'; obtain ⟨y1, rfl⟩ := hw'; (try simp at hzy1)
    go_wp2_with ((go_at_call 26; refine (FR.out _ (by (repeat' (first | (with_reducible first | exact Below.refl _ _ | assumption | refine below_ext _ ?_ ?_ | refine Below.alloc ?_ ?_ _ | refine Below.drew ?_ | refine below_drewN ?_ _ | refine le_drewN _ ?_ | refine Below.setCell ?_ ?_ _ | exact Nat.le_refl _ | refine le_ext _ ?_ | refine le_alloc _ ?_ | refine le_setCell _ _ ?_ | refine le_drew ?_) | omega | (simp; done) | (simp; omega))))).mono ?_; rintro e w' ⟨rfl, hw'⟩; have hzz := ext_sz hw'; obtain ⟨z, rfl⟩ := hw'; (try simp at hzz)))
    go_ret
    exact ⟨rfl, (ext_mk (by (repeat' (first | (with_reducible first | exact Below.refl _ _ | assumption | refine below_ext _ ?_ ?_ | refine Below.alloc ?_ ?_ _ | refine Below.drew ?_ | refine below_drewN ?_ _ | refine le_drewN _ ?_ | refine Below.setCell ?_ ?_ _ | exact Nat.le_refl _ | refine le_ext _ ?_ | refine le_alloc _ ?_ | refine le_setCell _ _ ?_ | refine le_drew ?_) | omega | (simp; done) | (simp; omega)))))⟩
end Go.Proofs.YtnddfdhfefconaaGreatDoor
