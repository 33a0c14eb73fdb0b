
/- FnCanonical: the law's walk. -/
import Derived.Test.YtelhidonhldjeaaCan
import Derived.Test.YtelhidonhldjeaaSCan
import Derived.Test.YtelhidonhldjeaaDrawD
import Derived.Test.YtelhidonhldjeaaHlp2
set_option linter.unusedVariables false
set_option linter.unusedSimpArgs false
namespace Go.Proofs.Ytelhidonhldjeaa
open Go.RowKit

theorem step_ptsG {ops : Array Oper} {o : Oper} {a : Act} {K : Act → World → Prop} {Q : Exit → Act → World → Prop} {E : Prop} {w : World} (hw : Region.wanted o (yielded ops a.tmps) = true) (s x : Operand)
    (ho : o.op = .call { callee := .builtin .append, args := #[s, x], argTypes := #[23, 23] })
    (base : Nat) (v : Value) (ps : List Pt) (hs : a.eval s = v) (hown : OwnP w base v ps) (A : Option Addr) (m c B : Nat) (qs : List Pt) (hx : a.eval x = .slice A m c) (hm : qs.length = m) (hq : PtsAt w B A qs) (hA : (A = none → m = 0) ∧ ∀ b o s, A = some ⟨b, o, s⟩ → s = none)
    (hlen : ps.length ≤ 2000000) (hlen2 : m ≤ 2000000) (hbase : base ≤ w.heap.size)
    (h : ∀ v' w', OwnP w' base v' (ps ++ qs) → Below base w w' → (v'.ownBlock = v.ownBlock ∨ v'.ownBlock = some w.heap.size) → w.grownBy w' v.ownBlock → K (a.put o.dst v') w') :
    if Region.wanted o (yielded ops a.tmps) = true then Oper.wp Try.prog o a w K Q else E := by
  rw [if_pos hw]
  refine app_wp ptElt s x ho base v ps.length _ hs hown A m c (ptVals qs) hx (by rw [ptVals_len, hm]) hq.src hA.1 hA.2 (ptVals_one _) (by unfold maxLen; omega) (by omega) hbase fun v' w' h2 h3 h4 => ?_
  exact h v' w' (by unfold OwnP; rw [List.length_append, ptVals_app, hm]; exact h2) ((Below.refl _ _).grown h3 hbase hown.lt) h4 h3
theorem can_first {ps : List Pt} (h : simB ps = true) : gp (canL ps) 0 = gp (sortP ps) 0 := by
  obtain ⟨_, h3, _, _⟩ := simB_parts h
  obtain ⟨c1, c2, c3⟩ := can_sim h
  obtain ⟨l1, l2⟩ := lpt_min (ps := ps) (by omega)
  have hm : gp (canL ps) 0 ∈ ps := can_mem.1 (gp_mem (by rw [can_len]; omega))
  show gp (canL ps) 0 = lpt ps
  rcases c3 _ (can_mem.2 l1) with e | e
  · exact e.symm
  · rcases l2 _ hm with e2 | e2
    · exact e2
    · unfold ltP at e e2; omega
theorem canO_rev {ps : List Pt} (h : simB ps = true) : canO ps.reverse = canL ps := by
  have ha : areaL ps ≠ 0 := by rcases area_sgn h with ⟨_, h⟩ | ⟨_, h⟩ <;> omega
  unfold canO
  rw [if_pos (rev_sim h), can_rev ha]
theorem canO_rot {ps : List Pt} (h : simB ps = true) {k : Nat} (hk : k < ps.length) : canO (ps.drop k ++ ps.take k) = canL ps := by
  have hr : simB (rotP ps k) = true := simB_rot h hk (listOk_mem (simB_listOk h) (rotP_len ps k) fun q hq => rotP_mem.1 hq)
  show canO (rotP ps k) = canL ps
  unfold canO
  rw [if_pos hr, can_rot (sim_of h).nodup hk]
theorem sortO_can {ps : List Pt} (h : simB ps = true) : sortO (canL ps) = sortP ps ∧ sortO ps = sortP ps := by
  have hl := (simB_parts h).2.2.2.1
  have hl2 : listOk (canL ps) = true := listOk_mem hl (can_len ps) fun q hq => can_mem.1 hq
  unfold sortO
  rw [if_pos hl, if_pos hl2]
  exact ⟨sortP_ext fun q => can_mem, rfl⟩
set_option maxRecDepth 20000 in
set_option maxHeartbeats 2000000 in
theorem lawCan (n c m d : Nat) (A B : Option Addr) (w : World) (hn : n ≤ c) (hc : c ≤ 9223372036854775807) (hm : m ≤ 9223372036854775807) (hA : BytesAt w w.heap.size A n) :
    Calls Try.prog 6 #[.slice A n c, .slice B m d] w fun e w' => e = .returned (.bool true) ∧ Below w.heap.size w w' := by
  by_cases hle : n ≤ 1048576
  · have hd : decide ((1048576 : Int) < (n : Int)) = false := decide_eq_false (by omega)
    by_cases hle2 : m ≤ 1048576
    · have hd2 : decide ((1048576 : Int) < (m : Int)) = false := decide_eq_false (by omega)
      go_enter Try.func6, Try.ntmps6
      go_wp2_with fail
      refine (drawCan_any n c A _ hn hc hA).mono ?_
      rintro e w1 ⟨v1, ps, rfl, o1, lp, cbp, B1⟩
      obtain ⟨A1, n1, c1, rfl⟩ := o1.slice
      have h1 := hide o1.pts.1
      have P1 := hide o1.pts.2.2.2
      have F1 := hide o1.form.1
      have hnc1 : n1 ≤ c1 := o1.pts.2.1
      have hcm1 : c1 ≤ 9223372036854775807 := by have := o1.pts.2.2.1; unfold maxLen at this; exact this
      have k1 : n1 ≤ 20 := by have := h1.out; omega
      have CA := hide (fun (W : World) (hb : Below w1.heap.size w1 W) => iCan_any ps A1 n1 c1 W h1.out (by omega) F1.out (P1.out.to hb))
      have CS := hide (fun (W : World) (hb : Below w1.heap.size w1 W) => sCan_any ps A1 n1 c1 W h1.out (by omega) hnc1 hcm1 (P1.out.to hb))
      have s1 := B1.size
      have LCO : (canO ps).length ≤ 2000000 := by
        unfold canO
        split
        · rw [can_len]; omega
        · exact Nat.zero_le _
      by_cases hok : simB ps = true
      · have h3 : 3 ≤ n1 := by have := (simB_parts hok).2.1; rw [← h1.out]; exact this
        have EC : canO ps = canL ps := can_bd hok
        have LC : (canL ps).length = n1 := by rw [can_len]; exact h1.out
        have FST := can_first hok
        have AP := (can_sim hok).2.1
        have d3 : decide (0 < areaL (canL ps)) = true := decide_eq_true AP
        have DA := dblA_2 (can_sim hok).1
        have OR := canO_rev hok
        have OT := hide (fun k (hk : k < ps.length) => canO_rot hok hk)
        obtain ⟨SO1, SO2⟩ := sortO_can hok
        have LS : (sortP ps).length ≤ 20 := by have := sortP_len ps; rw [h1.out] at this; omega
        have LS0 : 0 < (sortP ps).length := List.length_pos_of_mem (sortP_mem.2 (gp_mem (show 0 < ps.length by rw [h1.out]; omega)))
        obtain ⟨g1, hA1, _, _, _, _⟩ := o1.head (by omega)
        subst hA1
        rw [EC] at CA CS LCO
        clear o1 hA cbp EC hok AP
        have ST := hide (fun (W : World) (hb : Below w1.heap.size w1 W) => sortPoints_any ps (some ⟨g1, 0, none⟩) n1 c1 W h1.out (by omega) F1.out (P1.out.to hb))
        rw [SO2] at ST
        go_wp2_with fail
        refine (CA.out _ (by (repeat' (first | (with_reducible exact Below.refl _ _) | (with_reducible assumption) | (with_reducible refine below_ext _ ?_ ?_) | (with_reducible refine Below.alloc ?_ ?_ _) | (with_reducible refine Below.drew ?_) | (with_reducible refine below_drewN ?_ _) | (with_reducible refine le_drewN _ ?_) | (with_reducible refine Below.setCell ?_ ?_ _) | (with_reducible exact Nat.le_refl _) | (with_reducible refine le_ext _ ?_) | (with_reducible refine le_alloc _ ?_) | (with_reducible refine le_setCell _ _ ?_) | (with_reducible refine le_drew ?_) | omega | (simp; done) | (simp; omega))))).mono ?_
        rintro e w6 ⟨v6, rfl, o6, hx6⟩
        obtain ⟨A6, n6, c6, rfl⟩ := o6.slice
        have l6 := hide o6.pts.1
        have q6 := o6.pts.2.1
        have P6 := hide o6.pts.2.2.2
        have F6 := hide o6.form.1
        have D6 := hide (ext_bel hx6)
        have E6 : Hid (n6 = n1) := hide (by have := l6.out; omega)
        have k6 : n6 ≤ 2000000 := by have := E6.out; omega
        clear o6 hx6
        go_wp2_with fail
        refine (CS.out _ D6.out).mono ?_
        rintro e w7 ⟨v7, rfl, o7, hx7⟩
        obtain ⟨A7, n7, c7, rfl⟩ := o7.slice
        have l7 := hide o7.pts.1
        have P7 := hide o7.pts.2.2.2
        have E7 := hide (ext_bel hx7)
        have D7 := hide (D6.out.trans (E7.out.mono D6.out.size))
        clear o7 hx7
        go_wp2_with fail
        have k7 : n7 ≤ 2000000 := by have := l7.out; omega
        refine (equalPoints_any (canL ps) (canL ps) _ _ _ _ _ _ _ l6.out l7.out k6 k7 (P6.out.to E7.out) P7.out).mono ?_
        rintro e w8 ⟨rfl, hx8⟩
        have dt : decide (canL ps = canL ps) = true := decide_eq_true rfl
        have E8 := hide (ext_bel hx8)
        have D8 := hide (D7.out.trans (E8.out.mono D7.out.size))
        have G8 := hide (E7.out.trans (E8.out.mono E7.out.size))
        clear hx8 P7 l7
        have d6 : ((n6 : Int) == 0) = false := by rw [beq_eq_false_iff_ne]; have := E6.out; omega
        have q5 : ¬ n1 = 0 := by omega
        obtain ⟨k, hk⟩ : ∃ k, k = m % n1 := ⟨_, rfl⟩
        have hkl : k < n1 := by rw [hk]; exact Nat.mod_lt _ (by omega)
        have e2 : Int.tmod (m : Int) (n1 : Int) = (k : Int) := by rw [hk]; exact (Int.ofNat_tmod m n1).symm
        have e3 : (m : Int) % (n1 : Int) = (k : Int) := by rw [hk]; exact (Int.natCast_emod m n1).symm
        have i3 : IntKind.i64.wrap (k : Int) = (k : Int) := IntWalk.i64_in _ (by omega)
        clear hk
        go_wp2_with fail
        refine (ST.out _ D8.out).mono ?_
        rintro e w9 ⟨A9, n9, c9, rfl, l9', q9, qc9, pr9, pl9, hx9⟩
        have l9 := hide l9'
        have P9 := hide pr9.pts
        have E9 := hide (ext_bel hx9)
        have D9 := hide (D8.out.trans (E9.out.mono D8.out.size))
        have G9 := hide (G8.out.trans (E9.out.mono G8.out.size))
        clear pr9 hx9
        have BT := hide (B1.trans (D9.out.mono s1))
        -- what the last statement needs, at any world behind this one
        have sz9 := D9.out.size
        have PC : Hid (∀ W, Below w9.heap.size w9 W → PtsAt W W.heap.size A6 (canL ps)) := hide (fun W hb => (P6.out.to G9.out).to hb)
        have PS : Hid (∀ W, Below w9.heap.size w9 W → PtsAt W W.heap.size A9 (sortP ps)) := hide (fun W hb => P9.out.to hb)
        have PP : Hid (∀ W, Below w9.heap.size w9 W → PtsAt W W.heap.size (some ⟨g1, 0, none⟩) ps) := hide (fun W hb => (P1.out.to D9.out).to hb)
        have F6b : Plain A6 n6 := F6.out
        have DAc := hide (fun (W : World) (hb : Below w9.heap.size w9 W) => iDbl_any (canL ps) A6 n6 c6 W l6.out k6 F6.out (PC.out W hb))
        rw [DA] at DAc
        have BKc := hide (fun (W : World) (hb : Below w9.heap.size w9 W) => backwards_any ps (some ⟨g1, 0, none⟩) n1 c1 W h1.out (by omega) (PP.out W hb))
        have CRc := hide (fun (X : Option Addr) (a b : Nat) (W : World) (hl : ps.reverse.length = a) (hf : Plain X a) (hp : PtsAt W W.heap.size X ps.reverse) => iCan_any ps.reverse X a b W hl (by rw [List.length_reverse, h1.out] at hl; omega) hf hp)
        rw [OR] at CRc
        have CTc := hide (fun (X : Option Addr) (a b : Nat) (W : World) (hl : (ps.drop k ++ ps.take k).length = a) (hf : Plain X a) (hp : PtsAt W W.heap.size X (ps.drop k ++ ps.take k)) => iCan_any (ps.drop k ++ ps.take k) X a b W hl (by rw [List.length_append, List.length_drop, List.length_take, h1.out] at hl; omega) hf hp)
        rw [OT.out k (by rw [h1.out]; exact hkl)] at CTc
        have EQc : Hid (∀ (X : Option Addr) (a b : Nat) (W : World) (hl : (canL ps).length = a) (hp : PtsAt W W.heap.size X (canL ps)) (hb : Below w9.heap.size w9 W), Calls Try.prog 21 #[.slice X a b, .slice A6 n6 c6] W fun e w' => e = .returned (.bool true) ∧ ∃ m, w' = ext W m) := hide (fun X a b W hl hp hb => by
          have := equalPoints_any (canL ps) (canL ps) X A6 a b n6 c6 W hl l6.out (by have := l6.out; omega) k6 hp (PC.out W hb)
          exact this.mono (fun e w' hh => ⟨by rw [hh.1]; simp, hh.2⟩))
        have EQs : Hid (∀ (X : Option Addr) (a b : Nat) (W : World) (hl : (sortP ps).length = a) (hp : PtsAt W W.heap.size X (sortP ps)) (hb : Below w9.heap.size w9 W), Calls Try.prog 21 #[.slice X a b, .slice A9 n9 c9] W fun e w' => e = .returned (.bool true) ∧ ∃ m, w' = ext W m) := hide (fun X a b W hl hp hb => by
          have := equalPoints_any (sortP ps) (sortP ps) X A9 a b n9 c9 W hl l9.out (by omega) (by omega) hp (PS.out W hb)
          rw [decide_eq_true (rfl : sortP ps = sortP ps)] at this
          exact this)
        have STc := hide (fun (W : World) (hb : Below w9.heap.size w9 W) => sortPoints_any (canL ps) A6 n6 c6 W l6.out k6 F6.out (PC.out W hb))
        rw [SO1] at STc
        obtain ⟨b6, o6, rfl, hb6, hc6⟩ := PC.out w9 (Below.refl _ _) (by rw [LC]; omega)
        obtain ⟨b9, o9, rfl, hb9, hc9⟩ := PS.out w9 (Below.refl _ _) LS0
        obtain ⟨x6, y6⟩ := hc6 0 (by rw [LC]; omega)
        obtain ⟨x9, y9⟩ := hc9 0 LS0
        have ex : pX (canL ps) 0 = pX (sortP ps) 0 := by unfold pX; rw [FST]
        have ey : pY (canL ps) 0 = pY (sortP ps) 0 := by unfold pY; rw [FST]
        rw [ex] at x6
        rw [ey] at y6
        generalize pX (sortP ps) 0 = X at *
        generalize pY (sortP ps) 0 = Y at *
        rw [Nat.zero_mul, Nat.add_zero] at x6 y6 x9 y9
        have RUN : ∀ W, (binOp .eql 39 (.agg #[.int .i64 X, .int .i64 Y]) (.agg #[.int .i64 X, .int .i64 Y])).run Try.prog W = .ok (.bool true) W := fun W => (run_eqPt X Y X Y W).trans (by simp [eqP])
        have SC : Hid (∀ W : World, Below w9.heap.size w9 W → W.cell? ⟨b6, o6, none⟩ = some (.int .i64 X) ∧ W.cell? ⟨b6, o6 + 1, none⟩ = some (.int .i64 Y) ∧ W.cell? ⟨b9, o9, none⟩ = some (.int .i64 X) ∧ W.cell? ⟨b9, o9 + 1, none⟩ = some (.int .i64 Y)) := hide (fun W hb => ⟨(hb.cell (p := ⟨b6, o6, none⟩) hb6).trans x6, (hb.cell (p := ⟨b6, o6 + 1, none⟩) hb6).trans y6, (hb.cell (p := ⟨b9, o9, none⟩) hb9).trans x9, (hb.cell (p := ⟨b9, o9 + 1, none⟩) hb9).trans y9⟩)
        have D0 := hide (show Below w9.heap.size w9 w9.drew from (by (repeat' (first | (with_reducible exact Below.refl _ _) | (with_reducible assumption) | (with_reducible refine below_ext _ ?_ ?_) | (with_reducible refine Below.alloc ?_ ?_ _) | (with_reducible refine Below.drew ?_) | (with_reducible refine below_drewN ?_ _) | (with_reducible refine le_drewN _ ?_) | (with_reducible refine Below.setCell ?_ ?_ _) | (with_reducible exact Nat.le_refl _) | (with_reducible refine le_ext _ ?_) | (with_reducible refine le_alloc _ ?_) | (with_reducible refine le_setCell _ _ ?_) | (with_reducible refine le_drew ?_) | omega | (simp; done) | (simp; omega)))))
        have PTK : Hid (∀ W, Below w9.heap.size w9 W → PtsAt W W.heap.size (some ⟨g1, 0, none⟩) (ps.take k)) := hide (fun W hW => (PP.out W hW).pre k)
        have PTD : Hid (∀ W, Below w9.heap.size w9 W → PtsAt W W.heap.size (some ⟨g1, 0 + k * 2, none⟩) ((ps.drop k).take (n1 - k))) := hide (fun W hW => (PP.out W hW).cut (a := k) (m := n1 - k) (by rw [h1.out]; omega))
        rw [List.take_of_length_le (by rw [List.length_drop, h1.out]; exact Nat.le_refl _), Nat.zero_add] at PTD
        have LD2 : Hid ((ps.drop k).length = n1 - k) := hide (by rw [List.length_drop, h1.out])
        have LT2 : Hid ((ps.take k).length = k) := hide (by rw [List.length_take, h1.out]; omega)
        have LA : ([] ++ ps.drop k).length ≤ 2000000 := by rw [List.nil_append, LD2.out]; omega
        have FD : Hid ((some (⟨g1, k * 2, none⟩ : Addr) = none → n1 - k = 0) ∧ ∀ b o s, some (⟨g1, k * 2, none⟩ : Addr) = some ⟨b, o, s⟩ → s = none) := ⟨(fun h => by cases h), (fun b o s h => by injection h with h; injection h with _ _ h; exact h.symm)⟩
        have FT : Hid ((some (⟨g1, 0, none⟩ : Addr) = none → k = 0) ∧ ∀ b o s, some (⟨g1, 0, none⟩ : Addr) = some ⟨b, o, s⟩ → s = none) := ⟨(fun h => by cases h), (fun b o s h => by injection h with h; injection h with _ _ h; exact h.symm)⟩
        have K1 : n1 - k ≤ 2000000 := by omega
        have K2 : k ≤ 2000000 := by omega
        have hq6 : ¬ c1 = k := by omega
        have r0 : (0 : Int) ≤ (k : Int) := by omega
        have r1 : (k : Int) ≤ (n1 : Int) := by omega
        have r2 : (n1 : Int) ≤ (c1 : Int) := by omega
        have r3 : (k : Int) ≤ (c1 : Int) := by omega
        have r4 : (0 : Int) < (n6 : Int) := by have := E6.out; omega
        have r5 : (0 : Int) < (n9 : Int) := by have := l9.out; omega
        have r6 : 0 < n6 := by have := E6.out; omega
        have r7 : 0 < n9 := by have := l9.out; omega
        clear x6 y6 x9 y9 hc6 hc9 CA CS ST G8 G9 E7 E8 E9 D6 D7 D8 D9 P6 P9 P1 B1 DA OR OT SO1 SO2 FST LCO LC ex ey dt d6
        go_wp2_with fail
        go_region_held3 (fun W => W.cell? ⟨b6, o6, none⟩ = some (.int .i64 X) ∧ W.cell? ⟨b6, o6 + 1, none⟩ = some (.int .i64 Y) ∧ W.cell? ⟨b9, o9, none⟩ = some (.int .i64 X) ∧ W.cell? ⟨b9, o9 + 1, none⟩ = some (.int .i64 Y)) (first | exact SC.out _ D0.out | exact SC.out _ (Below.refl _ _) | exact SC.out _ D20.out | exact SC.out _ D21.out | exact SC.out _ D22.out | exact SC.out _ D23.out | exact SC.out _ D23a.out | exact SC.out _ D24.out | exact SC.out _ D25.out | exact SC.out _ D26.out | exact SC.out _ D27.out | exact SC.out _ D28.out | exact SC.out _ D29.out) (first
          | (go_at_call 21; refine (EQs.out _ _ _ _ L28.out P28.out D28.out).mono ?_; rintro e w29 ⟨rfl, hx29⟩; have D29 := hide (D28.out.trans ((ext_bel hx29).mono D28.out.size)); clear hx29)
          | (go_at_call 27; refine (STc.out _ D27.out).mono ?_; rintro e w28 ⟨A28, n28, c28, rfl, l28, q28, qc28, pr28, pl28, hx28⟩; have L28 := hide l28; have P28 := hide pr28.pts; have D28 := hide (D27.out.trans ((ext_bel hx28).mono D27.out.size)); clear hx28 pr28)
          | (go_at_call 21; refine (EQc.out _ _ _ _ L26.out P26.out D26.out).mono ?_; rintro e w27 ⟨rfl, hx27⟩; have D27 := hide (D26.out.trans ((ext_bel hx27).mono D26.out.size)); clear hx27)
          | (go_at_call 25; refine (CTc.out _ _ _ _ L25.out F25.out P25.out).mono ?_; rintro e w26 ⟨v26, rfl, o26, hx26⟩; obtain ⟨A26, n26, c26, rfl⟩ := o26.slice; have L26 := hide o26.pts.1; have P26 := hide o26.pts.2.2.2; have D26 := hide (D25.out.trans ((ext_bel hx26).mono D25.out.size)); clear o26 hx26)
          | (refine step_ptsG (by rfl) (.tmp 66) (.tmp 69) (by rfl) w23.heap.size (.slice A24 n24 c24) ([] ++ ps.drop k) (by rfl) O24.out (some ⟨g1, 0, none⟩) k c1 _ (ps.take k) (by rfl) LT2.out (PTK.out _ D24.out) FT.out LA K2 SZ24 ?_; intro v25 w25 hown25 hb25 hat25 hgr25; obtain ⟨A25, n25, c25, rfl⟩ := hown25.slice; have O25 := hide (show OwnP w25 w23.heap.size (.slice A25 n25 c25) (ps.drop k ++ ps.take k) from hown25); have L25 := hide O25.out.pts.1; have P25 := hide O25.out.pts.2.2.2; have F25 := hide O25.out.form.1; have D25 := hide (D24.out.trans (hb25.mono S923)); clear hown25 hat25 hgr25 hb25)
          | (refine step_ptsG (by rfl) (.tmp 62) (.tmp 65) (by rfl) w23.heap.size (.slice (some ⟨w23.heap.size, 0, none⟩) 0 0) [] (by rfl) E23.out (some ⟨g1, k * 2, none⟩) (n1 - k) (c1 - k) _ (ps.drop k) (by rfl) LD2.out (PTD.out _ D23a.out) FD.out (Nat.zero_le _) K1 SZ23 ?_; intro v24 w24 hown24 hb24 hat24 hgr24; obtain ⟨A24, n24, c24, rfl⟩ := hown24.slice; have O24 := hide hown24; have SZ24 : w23.heap.size ≤ w24.heap.size := Nat.le_trans SZ23 hb24.size; have D24 := hide (D23a.out.trans (hb24.mono S923)); clear hown24 hat24 hgr24 hb24)
          | (go_at_call 21; refine (EQc.out _ _ _ _ L22.out P22.out D22.out).mono ?_; rintro e w23 ⟨rfl, hx23⟩; have D23 := hide (D22.out.trans ((ext_bel hx23).mono D22.out.size)); have D23a := hide (D23.out.trans ((show Below w23.heap.size w23 (w23.alloc (.cells #[] 39)) from (by (repeat' (first | (with_reducible exact Below.refl _ _) | (with_reducible assumption) | (with_reducible refine below_ext _ ?_ ?_) | (with_reducible refine Below.alloc ?_ ?_ _) | (with_reducible refine Below.drew ?_) | (with_reducible refine below_drewN ?_ _) | (with_reducible refine le_drewN _ ?_) | (with_reducible refine Below.setCell ?_ ?_ _) | (with_reducible exact Nat.le_refl _) | (with_reducible refine le_ext _ ?_) | (with_reducible refine le_alloc _ ?_) | (with_reducible refine le_setCell _ _ ?_) | (with_reducible refine le_drew ?_) | omega | (simp; done) | (simp; omega))))).mono D23.out.size)); have E23 := hide (OwnP.empty w23 w23.heap.size 0 (Nat.le_refl _) #[] rfl (by simp [maxLen])); have S923 : w9.heap.size ≤ w23.heap.size := D23.out.size; have SZ23 : w23.heap.size ≤ (w23.alloc (.cells #[] 39)).heap.size := (show Below w23.heap.size w23 (w23.alloc (.cells #[] 39)) from (by (repeat' (first | (with_reducible exact Below.refl _ _) | (with_reducible assumption) | (with_reducible refine below_ext _ ?_ ?_) | (with_reducible refine Below.alloc ?_ ?_ _) | (with_reducible refine Below.drew ?_) | (with_reducible refine below_drewN ?_ _) | (with_reducible refine le_drewN _ ?_) | (with_reducible refine Below.setCell ?_ ?_ _) | (with_reducible exact Nat.le_refl _) | (with_reducible refine le_ext _ ?_) | (with_reducible refine le_alloc _ ?_) | (with_reducible refine le_setCell _ _ ?_) | (with_reducible refine le_drew ?_) | omega | (simp; done) | (simp; omega))))).size; clear hx23)
          | (go_at_call 25; refine (CRc.out _ _ _ _ L21.out F21.out P21.out).mono ?_; rintro e w22 ⟨v22, rfl, o22, hx22⟩; obtain ⟨A22, n22, c22, rfl⟩ := o22.slice; have L22 := hide o22.pts.1; have P22 := hide o22.pts.2.2.2; have D22 := hide (D21.out.trans ((ext_bel hx22).mono D21.out.size)); clear o22 hx22)
          | (go_at_call 28; refine (BKc.out _ D20.out).mono ?_; rintro e w21 ⟨v21, rfl, o21, hx21⟩; obtain ⟨A21, n21, c21, rfl⟩ := o21.slice; have L21 := hide o21.pts.1; have P21 := hide o21.pts.2.2.2; have F21 := hide o21.form.1; have D21 := hide (D20.out.trans ((ext_bel hx21).mono D20.out.size)); clear o21 hx21)
          | (go_at_call 16; refine (DAc.out _ D0.out).mono ?_; rintro e w20 ⟨rfl, hx20⟩; have D20 := hide (D0.out.trans ((ext_bel hx20).mono D0.out.size)); clear hx20))
        all_goals go_wp2_with fail
        all_goals go_ret
        all_goals exact ⟨rfl, BT.out.trans (D29.out.mono (Nat.le_trans s1 sz9))⟩
      · have hok := eq_false_of_ne_true hok
        have EC : canO ps = [] := can_no hok
        rw [EC] at CA CS
        clear o1 hA cbp EC hok
        go_wp2_with fail
        refine (CA.out _ (by (repeat' (first | (with_reducible exact Below.refl _ _) | (with_reducible assumption) | (with_reducible refine below_ext _ ?_ ?_) | (with_reducible refine Below.alloc ?_ ?_ _) | (with_reducible refine Below.drew ?_) | (with_reducible refine below_drewN ?_ _) | (with_reducible refine le_drewN _ ?_) | (with_reducible refine Below.setCell ?_ ?_ _) | (with_reducible exact Nat.le_refl _) | (with_reducible refine le_ext _ ?_) | (with_reducible refine le_alloc _ ?_) | (with_reducible refine le_setCell _ _ ?_) | (with_reducible refine le_drew ?_) | omega | (simp; done) | (simp; omega))))).mono ?_
        rintro e w6 ⟨v6, rfl, o6, hx6⟩
        obtain ⟨A6, n6, c6, rfl⟩ := o6.slice
        have l6 := hide o6.pts.1
        have P6 := hide o6.pts.2.2.2
        have D6 := hide (ext_bel hx6)
        have E6 : Hid (n6 = 0) := hide l6.out.symm
        clear o6 hx6
        go_wp2_with fail
        refine (CS.out _ D6.out).mono ?_
        rintro e w7 ⟨v7, rfl, o7, hx7⟩
        obtain ⟨A7, n7, c7, rfl⟩ := o7.slice
        have l7 := hide o7.pts.1
        have P7 := hide o7.pts.2.2.2
        have E7 := hide (ext_bel hx7)
        have D7 := hide (D6.out.trans (E7.out.mono D6.out.size))
        clear o7 hx7
        go_wp2_with fail
        have k6 : n6 ≤ 2000000 := by have := E6.out; omega
        have k7 : n7 ≤ 2000000 := by have : 0 = n7 := l7.out; omega
        refine (equalPoints_any [] [] _ _ _ _ _ _ _ l6.out l7.out k6 k7 (P6.out.to E7.out) P7.out).mono ?_
        rintro e w8 ⟨rfl, hx8⟩
        have dt : decide (([] : List Pt) = []) = true := decide_eq_true rfl
        have E8 := hide (ext_bel hx8)
        have D8 := hide (D7.out.trans (E8.out.mono D7.out.size))
        have P8 := hide ((P6.out.to E7.out).to E8.out)
        have d6 : ((n6 : Int) == 0) = true := by rw [E6.out]; rfl
        clear hx8 P7 l7
        go_wp2_with fail
        refine (CS.out _ D8.out).mono ?_
        rintro e w9 ⟨v9, rfl, o9, hx9⟩
        obtain ⟨A9, n9, c9, rfl⟩ := o9.slice
        have l9 := hide o9.pts.1
        have P9 := hide o9.pts.2.2.2
        have E9 := hide (ext_bel hx9)
        have D9 := hide (D8.out.trans (E9.out.mono D8.out.size))
        clear o9 hx9
        go_wp2_with fail
        have k9 : n9 ≤ 2000000 := by have : 0 = n9 := l9.out; omega
        refine (equalPoints_any [] [] _ _ _ _ _ _ _ l6.out l9.out k6 k9 (P8.out.to E9.out) P9.out).mono ?_
        rintro e w10 ⟨rfl, hx10⟩
        have D10 := hide (D9.out.trans ((ext_bel hx10).mono D9.out.size))
        clear hx10
        go_wp2_with fail
        go_ret
        exact ⟨rfl, B1.trans (D10.out.mono s1)⟩
    · have hd2 : decide ((1048576 : Int) < (m : Int)) = true := decide_eq_true (by omega)
      go_enter Try.func6, Try.ntmps6
      go_wp2
      go_ret
      exact ⟨rfl, (by (repeat' (first | (with_reducible exact Below.refl _ _) | (with_reducible assumption) | (with_reducible refine below_ext _ ?_ ?_) | (with_reducible refine Below.alloc ?_ ?_ _) | (with_reducible refine Below.drew ?_) | (with_reducible refine below_drewN ?_ _) | (with_reducible refine le_drewN _ ?_) | (with_reducible refine Below.setCell ?_ ?_ _) | (with_reducible exact Nat.le_refl _) | (with_reducible refine le_ext _ ?_) | (with_reducible refine le_alloc _ ?_) | (with_reducible refine le_setCell _ _ ?_) | (with_reducible refine le_drew ?_) | omega | (simp; done) | (simp; omega))))⟩
  · have hd : decide ((1048576 : Int) < (n : Int)) = true := decide_eq_true (by omega)
    go_enter Try.func6, Try.ntmps6
    go_wp2
    go_ret
    exact ⟨rfl, (by (repeat' (first | (with_reducible exact Below.refl _ _) | (with_reducible assumption) | (with_reducible refine below_ext _ ?_ ?_) | (with_reducible refine Below.alloc ?_ ?_ _) | (with_reducible refine Below.drew ?_) | (with_reducible refine below_drewN ?_ _) | (with_reducible refine le_drewN _ ?_) | (with_reducible refine Below.setCell ?_ ?_ _) | (with_reducible exact Nat.le_refl _) | (with_reducible refine le_ext _ ?_) | (with_reducible refine le_alloc _ ?_) | (with_reducible refine le_setCell _ _ ?_) | (with_reducible refine le_drew ?_) | omega | (simp; done) | (simp; omega))))⟩
end Go.Proofs.Ytelhidonhldjeaa
