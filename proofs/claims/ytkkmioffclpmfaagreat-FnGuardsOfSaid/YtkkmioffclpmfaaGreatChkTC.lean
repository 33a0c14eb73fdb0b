
import Derived.Test.YtkkmioffclpmfaaGreatChkTM
import Derived.Test.YtkkmioffclpmfaaGreatClip
import Derived.Test.YtkkmioffclpmfaaGreatRing
import Derived.Test.YtkkmioffclpmfaaGreatEar
/- Triangles that divide a polygon: the reference's test. -/
set_option linter.unusedVariables false
set_option linter.unusedSimpArgs false
namespace Go.Proofs.YtkkmioffclpmfaaGreat
open Go.RowKit

/-- The sides from i to k among the first j triangles. -/
def cT (ts : List TI) (j : Nat) (i k : Int) : Nat := (ts.take j).countP fun t => (t.a == i && t.b == k) || (t.b == i && t.c == k) || (t.c == i && t.a == k)
theorem take_succ_gt {ts : List TI} {j : Nat} (h : j < ts.length) : ts.take (j + 1) = ts.take j ++ [gt ts j] := by
  rw [List.take_add_one, List.getElem?_eq_getElem h, gt_lt h]; rfl
theorem cT_succ {ts : List TI} {j : Nat} (h : j < ts.length) (i k : Int) : cT ts (j + 1) i k = cT ts j i k + if (((gt ts j).a == i && (gt ts j).b == k) || ((gt ts j).b == i && (gt ts j).c == k) || ((gt ts j).c == i && (gt ts j).a == k)) = true then 1 else 0 := by
  unfold cT
  rw [take_succ_gt h, List.countP_append, List.countP_cons, List.countP_nil, Nat.zero_add]
theorem cT_le (ts : List TI) (j : Nat) (i k : Int) : cT ts j i k ≤ ts.length := by
  unfold cT
  exact Nat.le_trans (List.countP_le_length ..) (by rw [List.length_take]; omega)
theorem cT_all {ts : List TI} {n : Nat} (h : ∀ t ∈ ts, tIn n t = true) (i k : Nat) : cT ts ts.length i k = cntS (ts.map toN) i k := by
  unfold cT cntS
  rw [List.take_length, List.countP_map]
  refine List.countP_congr fun t ht => ?_
  obtain ⟨a, b, c, rfl, _⟩ := tIn_iff.1 (h t ht)
  simp only [Function.comp, sideB_iff, toN, Int.toNat_natCast, Bool.or_eq_true, Bool.and_eq_true, beq_iff_eq]
  omega
set_option maxHeartbeats 1000000 in
theorem sidesFrom_any (ts : List TI) (i k : Int) (A : Option Addr) (m d : Nat) (w : World) (hm : ts.length = m) (hb : m ≤ 1000) (hs : TrisAt w w.heap.size A ts) :
    Calls Tryz.prog 59 #[.slice A m d, .int .i64 i, .int .i64 k] w fun e w' => e = .returned (.int .i64 (cT ts m i k)) ∧ ∃ x, w' = ext w x := by
  have HS := hide hs
  have HM := hide hm
  have CL := hide (fun j => cT_le ts j i k)
  rw [hm] at CL
  clear hs hm
  go_enter Tryz.func59, Tryz.ntmps59
  go_wp2
  go_loopw [7, 8] (fun u7 u8 wr => ∃ j : Nat, j ≤ m ∧ u8 = .int .i64 j ∧ u7 = .int .i64 (cT ts j i k) ∧ Below w.heap.size w wr) (fun _ u8 _ => m - (intOf u8).toNat)
  case atStart => exact ⟨0, Nat.zero_le _, rfl, by simp [cT], Below.refl _ _⟩
  case round =>
    obtain ⟨j, hj, rfl, rfl, hbel⟩ := hrel
    have hsz := hbel.size
    have hcl := CL.out j
    by_cases hlt : j < m
    · obtain ⟨b, o, rfl, hbl, hcs⟩ := HS.out (by rw [HM.out]; omega)
      obtain ⟨x0, y0, z0⟩ := hcs j (by rw [HM.out]; omega)
      have g1 := (hbel.cell (p := ⟨b, o + j * 3, none⟩) hbl).trans x0
      have g2 := (hbel.cell (p := ⟨b, o + j * 3 + 1, none⟩) hbl).trans y0
      have g3 := (hbel.cell (p := ⟨b, o + j * 3 + 2, none⟩) hbl).trans z0
      have NX := hide (cT_succ (ts := ts) (j := j) (by rw [HM.out]; omega) i k)
      have q1 : (0 : Int) ≤ (j : Int) := by omega
      have q2 : (j : Int) < (m : Int) := by omega
      clear hcs x0 y0 z0
      generalize (gt ts j).a = X at *
      generalize (gt ts j).b = Y at *
      generalize (gt ts j).c = Z at *
      have fin : ∀ (W : World) (v : Int), Below wr.heap.size wr W → v = (cT ts (j + 1) i k : Int) → ∃ j' : Nat, j' ≤ m ∧ Value.int .i64 ((j : Int) + 1) = Value.int .i64 j' ∧ Value.int .i64 v = Value.int .i64 (cT ts j' i k) ∧ Below w.heap.size w W := fun W v hb hv => ⟨j + 1, by omega, by go_num, by rw [hv], hbel.trans (hb.mono hsz)⟩
      have FIN := hide fin
      clear fin
      generalize hcj : cT ts j i k = cj at *
      clear hcj
      go_wp2_with fail
      all_goals
        refine ⟨FIN.out _ _ (by (repeat' (first | (with_reducible first | exact Below.refl _ _ | assumption | refine below_ext _ ?_ ?_ | refine Below.alloc ?_ ?_ _ | refine Below.drew ?_ | refine below_drewN ?_ _ | refine le_drewN _ ?_ | refine Below.setCell ?_ ?_ _ | exact Nat.le_refl _ | refine le_ext _ ?_ | refine le_alloc _ ?_ | refine le_setCell _ _ ?_ | refine le_drew ?_) | omega | (simp; done) | (simp; omega)))) ?_, by simp [intOf]; omega⟩
        rw [NX.out]
        clear NX FIN g1 g2 g3 HS HM CL
        simp only [beq_iff_eq, beq_eq_false_iff_ne, ne_eq, Bool.or_eq_true, Bool.and_eq_true] at *
        split <;> (push_cast; omega)
    · have ej : j = m := by omega
      have EJ : Hid ((cT ts j i k : Int) = (cT ts m i k : Int)) := hide (by rw [ej])
      rw [EJ.out]
      clear EJ ej
      go_wp2
      go_ret
      exact ⟨rfl, ext_mk hbel⟩
set_option maxHeartbeats 1000000 in
theorem follows_any (rs : List Nat) (x y : Nat) (A : Option Addr) (m d : Nat) (w : World) (hm : rs.length = m) (hb : m ≤ 1000) (hs : IntsAt w w.heap.size A (zI rs)) :
    Calls Tryz.prog 60 #[.slice A m d, .int .i64 x, .int .i64 y] w fun e w' => e = .returned (.bool (folB rs x y)) ∧ ∃ z, w' = ext w z := by
  have CS : Hid (0 < m → ∃ b o, A = some ⟨b, o, none⟩ ∧ b < w.heap.size ∧ ∀ j, j < m → w.cell? ⟨b, o + j, none⟩ = some (.int .i64 (gn rs j))) := hide (fun h0 => by
    obtain ⟨b, o, e, hb, hc⟩ := hs (by rw [zI_len]; omega)
    exact ⟨b, o, e, hb, fun j hj => by rw [← gi_zI]; exact hc j (by rw [zI_len]; omega)⟩)
  have FB : Hid (folB rs x y = (List.range m).any fun j => decide (gn rs j = x) && decide (gn rs ((j + 1) % m) = y)) := hide (by unfold folB aft; rw [hm])
  rw [FB.out]
  clear hs hm FB
  go_enter Tryz.func60, Tryz.ntmps60
  go_wp2
  go_loopw [7] (fun u7 wr => ∃ j : Nat, j ≤ m ∧ u7 = .int .i64 j ∧ Hid (∀ i, i < j → (decide (gn rs i = x) && decide (gn rs ((i + 1) % m) = y)) = false) ∧ Below w.heap.size w wr) (fun u7 _ => m - (intOf u7).toNat)
  case atStart => exact ⟨0, Nat.zero_le _, rfl, hide (fun i hi => by omega), Below.refl _ _⟩
  case round =>
    obtain ⟨j, hj, rfl, HP, hbel⟩ := hrel
    have hsz := hbel.size
    by_cases hlt : j < m
    · obtain ⟨b, o, rfl, hbl, hcs⟩ := CS.out (by omega)
      obtain ⟨r, hr⟩ : ∃ r, r = (j + 1) % m := ⟨_, rfl⟩
      have hrl : r < m := by rw [hr]; exact Nat.mod_lt _ (by omega)
      have g1 := (hbel.cell (p := ⟨b, o + j, none⟩) hbl).trans (hcs j hlt)
      have g2 := (hbel.cell (p := ⟨b, o + r, none⟩) hbl).trans (hcs r hrl)
      have e2 : Int.tmod ((j : Int) + 1) (m : Int) = (r : Int) := by rw [hr]; exact (Int.ofNat_tmod (j + 1) m).symm
      have w1 : IntKind.i64.wrap ((j : Int) + 1) = (j : Int) + 1 := IntWalk.i64_in _ (by omega)
      have w3 : IntKind.i64.wrap (r : Int) = (r : Int) := IntWalk.i64_in _ (by omega)
      have q1 : (0 : Int) ≤ (j : Int) := by omega
      have q2 : (j : Int) < (m : Int) := by omega
      have q3 : (0 : Int) ≤ (r : Int) := by omega
      have q4 : (r : Int) < (m : Int) := by omega
      have q5 : ¬ m = 0 := by omega
      have YES : Hid ((decide (gn rs j = x) && decide (gn rs r = y)) = true → ((List.range m).any fun j => decide (gn rs j = x) && decide (gn rs ((j + 1) % m) = y)) = true) := hide (fun h => List.any_eq_true.2 ⟨j, List.mem_range.2 hlt, by rw [hr] at h; exact h⟩)
      have NO : Hid ((decide (gn rs j = x) && decide (gn rs r = y)) = false → ∀ i, i < j + 1 → (decide (gn rs i = x) && decide (gn rs ((i + 1) % m) = y)) = false) := hide (fun h i hi => by
        by_cases e : i = j
        · rw [e, ← hr]; exact h
        · exact HP.out i (by omega))
      clear hcs hr
      generalize gn rs j = X at *
      generalize gn rs r = Y at *
      by_cases e3 : X = x
      · have d1 : ((X : Int) == (x : Int)) = true := by rw [e3]; simp
        by_cases e4 : Y = y
        · have d2 : ((Y : Int) == (y : Int)) = true := by rw [e4]; simp
          have HV := hide (YES.out (by rw [decide_eq_true e3, decide_eq_true e4]; rfl))
          clear YES NO e3 e4
          go_wp2_with fail
          go_ret
          exact ⟨ret_bool HV.out.symm, ext_mk hbel⟩
        · have d2 : ((Y : Int) == (y : Int)) = false := by rw [beq_eq_false_iff_ne]; omega
          have HV := hide (NO.out (by rw [decide_eq_false e4, Bool.and_false]))
          clear YES NO e3 e4
          go_wp2_with fail
          exact ⟨⟨j + 1, by omega, by go_num, HV, hbel⟩, by simp [intOf]; omega⟩
      · have d1 : ((X : Int) == (x : Int)) = false := by rw [beq_eq_false_iff_ne]; omega
        have HV := hide (NO.out (by rw [decide_eq_false e3, Bool.false_and]))
        clear YES NO e3
        go_wp2_with fail
        exact ⟨⟨j + 1, by omega, by go_num, HV, hbel⟩, by simp [intOf]; omega⟩
    · have ej : j = m := by omega
      have HV : Hid (((List.range m).any fun j => decide (gn rs j = x) && decide (gn rs ((j + 1) % m) = y)) = false) := hide (by
        rw [List.any_eq_false]
        intro i hi
        rw [HP.out i (by rw [ej]; exact List.mem_range.1 hi)]; decide)
      clear ej
      go_wp2_with fail
      go_ret
      exact ⟨ret_bool HV.out.symm, ext_mk hbel⟩
end Go.Proofs.YtkkmioffclpmfaaGreat
/- CheckTriangulation of the reference. -/
set_option linter.unusedVariables false
set_option linter.unusedSimpArgs false
namespace Go.Proofs.YtkkmioffclpmfaaGreat
open Go.RowKit

theorem chk_no1 {ps : List Pt} {ts : List TI} (h : clipB ps = false) : chkT ps ts = false := by unfold chkT; rw [h]; rfl
theorem chk_no {ps : List Pt} {ts : List TI} (h : ¬ (ts.length + 2 = ps.length ∧ (∀ t ∈ ts, tOk ps t = true) ∧ areaT ps (ts.map toN) = absA ps ∧ partsB ps.length (rgN ps) (ts.map toN) = true)) : chkT ps ts = false := by
  rw [← Bool.not_eq_true]
  intro hh
  obtain ⟨_, h2, h3, h4, h5⟩ := chk_parts hh
  exact h ⟨h2, h3, h4, h5⟩
theorem chk_yes {ps : List Pt} {ts : List TI} (h1 : clipB ps = true) (h2 : ts.length + 2 = ps.length) (h3 : ∀ t ∈ ts, tOk ps t = true) (h5 : partsB ps.length (rgN ps) (ts.map toN) = true) : chkT ps ts = decide (areaT ps (ts.map toN) = absA ps) := by
  unfold chkT
  rw [h1, decide_eq_true h2, List.all_eq_true.2 h3, h5]
  simp
def sumA (ps : List Pt) (ts : List TI) (j : Nat) : Int := areaT ps ((ts.take j).map toN)
theorem areaT_app (ps : List Pt) : ∀ (L : List Tri3) (t : Tri3), areaT ps (L ++ [t]) = areaT ps L + trnT ps t
  | [], t => by show trnT ps t + 0 = 0 + trnT ps t; omega
  | s :: L, t => by
    show trnT ps s + areaT ps (L ++ [t]) = trnT ps s + areaT ps L + trnT ps t
    rw [areaT_app ps L t]; omega
theorem sumA_succ (ps : List Pt) {ts : List TI} {j : Nat} (h : j < ts.length) : sumA ps ts (j + 1) = sumA ps ts j + trnT ps (toN (gt ts j)) := by
  unfold sumA
  rw [take_succ_gt h, List.map_append]
  exact areaT_app ps _ _
theorem absA_abs (ps : List Pt) : absI (areaL ps) = absA ps := by unfold absI absA; split <;> split <;> omega
theorem inN_in (n : Nat) (x : Int) : inB x 0 ((n : Int) - 1) = inN n x := rfl
theorem trn_b5 {ps : List Pt} (hib : ∀ p ∈ ps, (-100000 ≤ p.x ∧ p.x ≤ 100000) ∧ (-100000 ≤ p.y ∧ p.y ≤ 100000)) {a b c : Nat} (ha : a < ps.length) (hb : b < ps.length) (hc : c < ps.length) : -80000000000 ≤ trn (gp ps a) (gp ps b) (gp ps c) ∧ trn (gp ps a) (gp ps b) (gp ps c) ≤ 80000000000 := by
  obtain ⟨a1, a2⟩ := hib _ (gp_mem ha)
  obtain ⟨b1, b2⟩ := hib _ (gp_mem hb)
  obtain ⟨c1, c2⟩ := hib _ (gp_mem hc)
  exact turn_b5 a1 a2 b1 b2 c1 c2
set_option maxRecDepth 20000 in
set_option maxHeartbeats 4000000 in
theorem sCheckT_any (ps : List Pt) (ts : List TI) (A Z : Option Addr) (n c m d : Nat) (w : World) (hn : ps.length = n) (hm : n ≤ 2000000) (ht : ts.length = m) (hm2 : m ≤ 2000000) (hs : PtsAt w w.heap.size A ps) (hz : TrisAt w w.heap.size Z ts) :
    Calls Tryz.prog 24 #[.slice A n c, .slice Z m d] w fun e w' => e = .returned (.bool (chkT ps ts)) ∧ ∃ x, w' = ext w x := by
  have HC := hide (validBorder_any ps A n c w hn hm hs)
  by_cases hok : clipB ps = true
  · by_cases hlen : m + 2 = n
    · rw [hok] at HC
      have hsim := clipB_sim hok
      obtain ⟨hib, h3, h20, _, hnd⟩ := simB_parts hsim
      have hib3 : ∀ p ∈ ps, (-1000 ≤ p.x ∧ p.x ≤ 1000) ∧ -1000 ≤ p.y ∧ p.y ≤ 1000 := by
        have hl := simB_listOk hsim
        unfold listOk at hl
        rw [Bool.and_eq_true] at hl
        intro p hp
        obtain ⟨i, hi, rfl⟩ := gp_of_mem hp
        have := allOk_at hl.2 hi
        exact ⟨⟨this.1, this.2.1⟩, this.2.2.1, this.2.2.2⟩
      have RO := hide (fun (W : World) (hb : Below w.heap.size w W) => ringOf_any ps A n c W hn (by omega) hib3 (hs.to hb))
      have DA := hide (fun (W : World) (hb : Below w.heap.size w W) => sarea_any ps A n c W hn (by omega) hib3 (hs.to hb))
      have SF := hide (fun (i k : Int) (W : World) (hb : Below w.heap.size w W) => sidesFrom_any ts i k Z m d W ht (by omega) (hz.to hb))
      have RL : Hid ((zI (rgN ps)).length = n) := hide (by rw [zI_len, rgN_len, hn])
      have FO := hide (fun (x y : Nat) (B : Option Addr) (e : Nat) (W : World) (hz : IntsAt W W.heap.size B (zI (rgN ps))) => follows_any (rgN ps) x y B n e W (by rw [rgN_len, hn]) (by omega) hz)
      have NO3 : Hid (∀ j, j < m → tOk ps (gt ts j) = false → chkT ps ts = false) := hide (fun j hj h => chk_no fun hh => by have := hh.2.1 _ (gt_mem (show j < ts.length by omega)); rw [h] at this; cases this)
      have NO5 : Hid (∀ x y, x < n → y < n → pairOk (rgN ps) (ts.map toN) x y = false → chkT ps ts = false) := hide (fun x y hx hy h => chk_no fun hh => by
        have := partsB_iff.1 hh.2.2.2 x y (by omega) (by omega)
        rw [h] at this; cases this)
      have YES : Hid ((∀ j, j < m → tOk ps (gt ts j) = true) → (∀ x y, x < n → y < n → pairOk (rgN ps) (ts.map toN) x y = true) → chkT ps ts = decide (sumA ps ts m = absA ps)) := hide (fun h3 h5 => by
        have h3' : ∀ t ∈ ts, tOk ps t = true := fun t hht => by
          obtain ⟨j, hj, rfl⟩ := gt_of_mem hht
          exact h3 j (by omega)
        rw [chk_yes hok (by omega) h3' (partsB_iff.2 fun x y hx hy => h5 x y (by omega) (by omega))]
        unfold sumA
        rw [List.take_of_length_le (by omega)])
      have CTA : Hid ((∀ j, j < m → tOk ps (gt ts j) = true) → ∀ i k : Nat, cT ts m i k = cntS (ts.map toN) i k) := hide (fun h3 i k => by
        rw [← ht]
        refine cT_all (n := ps.length) (fun t hht => ?_) i k
        obtain ⟨j, hj, rfl⟩ := gt_of_mem hht
        have := h3 j (by omega)
        unfold tOk at this
        rw [Bool.and_eq_true] at this
        exact this.1)
      have SUM := hide (fun j (hj : j < m) => sumA_succ ps (ts := ts) (j := j) (by omega))
      have TOK : Hid (∀ j, j < m → tOk ps (gt ts j) = (tIn n (gt ts j) && decide (0 < trnT ps (toN (gt ts j))))) := hide (fun j hj => by unfold tOk; rw [hn])
      have PC : Hid (0 < n → ∃ b o, A = some ⟨b, o, none⟩ ∧ b < w.heap.size ∧ ∀ i, i < n → w.cell? ⟨b, o + i * 2, none⟩ = some (.int .i64 (pX ps i)) ∧ w.cell? ⟨b, o + i * 2 + 1, none⟩ = some (.int .i64 (pY ps i))) := hide (fun h0 => by
        obtain ⟨b, o, e, hb, hc⟩ := hs (by omega)
        exact ⟨b, o, e, hb, fun i hi => hc i (by omega)⟩)
      have BI : Hid (∀ i, i < n → (-100000 ≤ (pX ps i) ∧ (pX ps i) ≤ 100000) ∧ (-100000 ≤ (pY ps i) ∧ (pY ps i) ≤ 100000)) := hide (fun i hi => hib _ (gp_mem (by omega)))
      have TB : Hid (∀ a b c, a < n → b < n → c < n → -80000000000 ≤ trn (gp ps a) (gp ps b) (gp ps c) ∧ trn (gp ps a) (gp ps b) (gp ps c) ≤ 80000000000) := hide (fun a b c h1 h2 h3 => trn_b5 hib (by omega) (by omega) (by omega))
      have ABS := hide (absA_abs ps)
      have RGE : Hid (zI (rgN ps) = rgL ps) := hide (zI_rgN ps)
      have AB := areaTo_bd3 hib3 n (by omega)
      have AE : areaTo ps n = areaL ps := by unfold areaL; rw [hn]
      rw [AE] at AB
      have abl : -2000000000 ≤ areaL ps ∧ areaL ps ≤ 2000000000 := by omega
      have HZ := hide hz
      have HT := hide ht
      have k20 : n ≤ 20 := by omega
      have k3 : 3 ≤ n := by omega
      have D1 : ((m : Int) != (n : Int) - 2) = false := by simp; omega
      clear hok hn hs hib h3 h20 hnd hsim hib3 AB AE hz ht
      go_enter Tryz.func24, Tryz.ntmps24
      go_wp2_with fail
      refine HC.out.mono ?_
      rintro e w' ⟨rfl, hw'⟩; have hzy1 := ext_sz hw'; obtain ⟨y1, rfl⟩ := hw'; (try simp at hzy1)
      have B1 := ext_below w y1
      generalize hW1 : ext w y1 = W1 at *
      clear hW1
      go_wp2_with fail
      go_loopw [5, 6] (fun u5 u6 wr => ∃ j : Nat, j ≤ m ∧ u6 = .int .i64 j ∧ u5 = .int .i64 (sumA ps ts j) ∧ -(j * 80000000000 : Int) ≤ sumA ps ts j ∧ sumA ps ts j ≤ j * 80000000000 ∧ Hid (∀ i, i < j → tOk ps (gt ts i) = true) ∧ Below w.heap.size w wr) (fun _ u6 _ => m - (intOf u6).toNat)
      case atStart => exact ⟨0, Nat.zero_le _, rfl, rfl, by simp [sumA, areaT], by simp [sumA, areaT], hide (fun i hi => by omega), B1⟩
      case round =>
        obtain ⟨j, hj, rfl, rfl, sb1, sb2, HP, hbel⟩ := hrel
        have hsz := hbel.size
        by_cases hlt : j < m
        · obtain ⟨b, o, rfl, hbl, hcs⟩ := HZ.out (by rw [HT.out]; omega)
          obtain ⟨x0, y0, z0⟩ := hcs j (by rw [HT.out]; omega)
          have g1 := (hbel.cell (p := ⟨b, o + j * 3, none⟩) hbl).trans x0
          have g2 := (hbel.cell (p := ⟨b, o + j * 3 + 1, none⟩) hbl).trans y0
          have g3 := (hbel.cell (p := ⟨b, o + j * 3 + 2, none⟩) hbl).trans z0
          have q1 : (0 : Int) ≤ (j : Int) := by omega
          have q2 : (j : Int) < (m : Int) := by omega
          have N3 := hide (NO3.out j hlt)
          have TK := hide (TOK.out j hlt)
          have SM := hide (SUM.out j hlt)
          clear hcs x0 y0 z0
          by_cases hin : tIn n (gt ts j) = true
          · obtain ⟨a, b', c', et, la, lb, lc⟩ := tIn_iff.1 hin
            have eN : toN (gt ts j) = ⟨a, b', c'⟩ := by rw [et]; simp [toN]
            have TK2 : Hid (tOk ps (gt ts j) = decide (0 < trn (gp ps a) (gp ps b') (gp ps c'))) := hide (by rw [TK.out, hin, eN]; rfl)
            have SM2 : Hid (sumA ps ts (j + 1) = sumA ps ts j + trn (gp ps a) (gp ps b') (gp ps c')) := hide (by rw [SM.out, eN]; rfl)
            rw [et] at g1 g2 g3
            have tb := TB.out a b' c' la lb lc
            obtain ⟨b0, o0, rfl, hb0, hc0⟩ := PC.out (by omega)
            obtain ⟨xa0, ya0⟩ := hc0 a la
            obtain ⟨xb0, yb0⟩ := hc0 b' lb
            obtain ⟨xc0, yc0⟩ := hc0 c' lc
            have xa := (hbel.cell (p := ⟨b0, o0 + a * 2, none⟩) hb0).trans xa0
            have ya := (hbel.cell (p := ⟨b0, o0 + a * 2 + 1, none⟩) hb0).trans ya0
            have xb := (hbel.cell (p := ⟨b0, o0 + b' * 2, none⟩) hb0).trans xb0
            have yb := (hbel.cell (p := ⟨b0, o0 + b' * 2 + 1, none⟩) hb0).trans yb0
            have xc := (hbel.cell (p := ⟨b0, o0 + c' * 2, none⟩) hb0).trans xc0
            have yc := (hbel.cell (p := ⟨b0, o0 + c' * 2 + 1, none⟩) hb0).trans yc0
            have CR := hide (fun W => scross_any (pX ps a) (pY ps a) (pX ps b') (pY ps b') (pX ps c') (pY ps c') W (BI.out a la).1 (BI.out a la).2 (BI.out b' lb).1 (BI.out b' lb).2 (BI.out c' lc).1 (BI.out c' lc).2)
            have EU : Hid (((pX ps b' - pX ps a) * (pY ps c' - pY ps a) - (pY ps b' - pY ps a) * (pX ps c' - pX ps a)) = trn (gp ps a) (gp ps b') (gp ps c')) := hide rfl
            rw [EU.out] at CR
            have i1 : inB (a : Int) 0 ((n : Int) - 1) = true := by rw [inB_iff]; omega
            have i2 : inB (b' : Int) 0 ((n : Int) - 1) = true := by rw [inB_iff]; omega
            have i3 : inB (c' : Int) 0 ((n : Int) - 1) = true := by rw [inB_iff]; omega
            have q3 : (0 : Int) ≤ (a : Int) := by omega
            have q4 : (a : Int) < (n : Int) := by omega
            have q5 : (0 : Int) ≤ (b' : Int) := by omega
            have q6 : (b' : Int) < (n : Int) := by omega
            have q7 : (0 : Int) ≤ (c' : Int) := by omega
            have q8 : (c' : Int) < (n : Int) := by omega
            clear hc0 xa0 ya0 xb0 yb0 xc0 yc0 EU eN et hin TK SM
            generalize trn (gp ps a) (gp ps b') (gp ps c') = U at *
            by_cases hU : U ≤ 0
            · have dU : decide (U ≤ 0) = true := decide_eq_true hU
              have HV := hide (N3.out (by rw [TK2.out]; exact decide_eq_false (by omega)))
              clear hU TK2 SM2 N3
              go_wp2_with fail
              refine wp_region_ext (by kernel_rfl) (by kernel_rfl) ?_
              repeat (go_big_quiet_step ((first | (go_at_call 57; refine Calls.in_ext ((inRange_any _ _ _ _).mono (fun e w' hh => ⟨hh.1.trans (by first | rw [i1] | rw [i2] | rw [i3]), by rw [← hh.2]; exact ext_same _⟩))) | (go_at_call 58; exact Calls.in_ext (CR.out _)))))
              refine wpQuiet_nil ?_
              rintro _ hnq
              have hzq := ext_sz hnq
              obtain ⟨nq, rfl⟩ := hnq
              (try simp at hzq)
              go_wp2_with fail
              go_ret
              exact ⟨ret_bool HV.out.symm, ext_mk (hbel.trans (by (repeat' (first | (with_reducible first | exact Below.refl _ _ | assumption | refine below_ext _ ?_ ?_ | refine Below.alloc ?_ ?_ _ | refine Below.drew ?_ | refine below_drewN ?_ _ | refine le_drewN _ ?_ | refine Below.setCell ?_ ?_ _ | exact Nat.le_refl _ | refine le_ext _ ?_ | refine le_alloc _ ?_ | refine le_setCell _ _ ?_ | refine le_drew ?_) | omega | (simp; done) | (simp; omega)))))⟩
            · have dU : decide (U ≤ 0) = false := decide_eq_false hU
              have TKY : Hid (tOk ps (gt ts j) = true) := hide (by rw [TK2.out]; exact decide_eq_true (by omega))
              clear hU TK2 N3
              go_wp2_with fail
              refine wp_region_ext (by kernel_rfl) (by kernel_rfl) ?_
              repeat (go_big_quiet_step ((first | (go_at_call 57; refine Calls.in_ext ((inRange_any _ _ _ _).mono (fun e w' hh => ⟨hh.1.trans (by first | rw [i1] | rw [i2] | rw [i3]), by rw [← hh.2]; exact ext_same _⟩))) | (go_at_call 58; exact Calls.in_ext (CR.out _)))))
              refine wpQuiet_nil ?_
              rintro _ hnq
              have hzq := ext_sz hnq
              obtain ⟨nq, rfl⟩ := hnq
              (try simp at hzq)
              go_wp2_with fail
              refine wp_region_ext (by kernel_rfl) (by kernel_rfl) ?_
              repeat (go_big_quiet_step ((first | (go_at_call 58; exact Calls.in_ext (CR.out _)))))
              refine wpQuiet_nil ?_
              rintro _ hnq
              have hzq := ext_sz hnq
              obtain ⟨nq, rfl⟩ := hnq
              (try simp at hzq)
              go_wp2_with fail
              exact ⟨⟨j + 1, by omega, by go_num, by rw [SM2.out], by rw [SM2.out]; push_cast; omega, by rw [SM2.out]; push_cast; omega, hide (fun i hi => by
                by_cases e : i = j
                · rw [e]; exact TKY.out
                · exact HP.out i (by omega)), hbel.trans (by (repeat' (first | (with_reducible first | exact Below.refl _ _ | assumption | refine below_ext _ ?_ ?_ | refine Below.alloc ?_ ?_ _ | refine Below.drew ?_ | refine below_drewN ?_ _ | refine le_drewN _ ?_ | refine Below.setCell ?_ ?_ _ | exact Nat.le_refl _ | refine le_ext _ ?_ | refine le_alloc _ ?_ | refine le_setCell _ _ ?_ | refine le_drew ?_) | omega | (simp; done) | (simp; omega))))⟩, by simp [intOf]; omega⟩
          · have hin := eq_false_of_ne_true hin
            have HV := hide (N3.out (by rw [TK.out, hin]; rfl))
            have IN : Hid (tIn n (gt ts j) = (inB (gt ts j).a 0 ((n : Int) - 1) && (inB (gt ts j).b 0 ((n : Int) - 1) && inB (gt ts j).c 0 ((n : Int) - 1)))) := hide rfl
            rw [IN.out] at hin
            clear TK SM IN N3
            generalize (gt ts j).a = X at *
            generalize (gt ts j).b = Y at *
            generalize (gt ts j).c = V at *
            cases i1 : inB X 0 ((n : Int) - 1)
            · clear hin
              go_wp2_with fail
              refine wp_region_ext (by kernel_rfl) (by kernel_rfl) ?_
              repeat (go_big_quiet_step ((first | (go_at_call 57; refine Calls.in_ext ((inRange_any _ _ _ _).mono (fun e w' hh => ⟨hh.1.trans (by first | rw [i1] | rw [i2] | rw [i3]), by rw [← hh.2]; exact ext_same _⟩))))))
              refine wpQuiet_nil ?_
              rintro _ hnq
              have hzq := ext_sz hnq
              obtain ⟨nq, rfl⟩ := hnq
              (try simp at hzq)
              go_wp2_with fail
              go_ret
              exact ⟨ret_bool HV.out.symm, ext_mk (hbel.trans (by (repeat' (first | (with_reducible first | exact Below.refl _ _ | assumption | refine below_ext _ ?_ ?_ | refine Below.alloc ?_ ?_ _ | refine Below.drew ?_ | refine below_drewN ?_ _ | refine le_drewN _ ?_ | refine Below.setCell ?_ ?_ _ | exact Nat.le_refl _ | refine le_ext _ ?_ | refine le_alloc _ ?_ | refine le_setCell _ _ ?_ | refine le_drew ?_) | omega | (simp; done) | (simp; omega)))))⟩
            · cases i2 : inB Y 0 ((n : Int) - 1)
              · clear hin
                go_wp2_with fail
                refine wp_region_ext (by kernel_rfl) (by kernel_rfl) ?_
                repeat (go_big_quiet_step ((first | (go_at_call 57; refine Calls.in_ext ((inRange_any _ _ _ _).mono (fun e w' hh => ⟨hh.1.trans (by first | rw [i1] | rw [i2] | rw [i3]), by rw [← hh.2]; exact ext_same _⟩))))))
                refine wpQuiet_nil ?_
                rintro _ hnq
                have hzq := ext_sz hnq
                obtain ⟨nq, rfl⟩ := hnq
                (try simp at hzq)
                go_wp2_with fail
                go_ret
                exact ⟨ret_bool HV.out.symm, ext_mk (hbel.trans (by (repeat' (first | (with_reducible first | exact Below.refl _ _ | assumption | refine below_ext _ ?_ ?_ | refine Below.alloc ?_ ?_ _ | refine Below.drew ?_ | refine below_drewN ?_ _ | refine le_drewN _ ?_ | refine Below.setCell ?_ ?_ _ | exact Nat.le_refl _ | refine le_ext _ ?_ | refine le_alloc _ ?_ | refine le_setCell _ _ ?_ | refine le_drew ?_) | omega | (simp; done) | (simp; omega)))))⟩
              · have i3 : inB V 0 ((n : Int) - 1) = false := by rw [i1, i2] at hin; simpa using hin
                clear hin
                go_wp2_with fail
                refine wp_region_ext (by kernel_rfl) (by kernel_rfl) ?_
                repeat (go_big_quiet_step ((first | (go_at_call 57; refine Calls.in_ext ((inRange_any _ _ _ _).mono (fun e w' hh => ⟨hh.1.trans (by first | rw [i1] | rw [i2] | rw [i3]), by rw [← hh.2]; exact ext_same _⟩))))))
                refine wpQuiet_nil ?_
                rintro _ hnq
                have hzq := ext_sz hnq
                obtain ⟨nq, rfl⟩ := hnq
                (try simp at hzq)
                go_wp2_with fail
                go_ret
                exact ⟨ret_bool HV.out.symm, ext_mk (hbel.trans (by (repeat' (first | (with_reducible first | exact Below.refl _ _ | assumption | refine below_ext _ ?_ ?_ | refine Below.alloc ?_ ?_ _ | refine Below.drew ?_ | refine below_drewN ?_ _ | refine le_drewN _ ?_ | refine Below.setCell ?_ ?_ _ | exact Nat.le_refl _ | refine le_ext _ ?_ | refine le_alloc _ ?_ | refine le_setCell _ _ ?_ | refine le_drew ?_) | omega | (simp; done) | (simp; omega)))))⟩
        · have ej : j = m := by omega
          have HALL : Hid (∀ i, i < m → tOk ps (gt ts i) = true) := hide (fun i hi => HP.out i (by omega))
          have SFN := hide (fun (i k : Nat) (W : World) (hb : Below w.heap.size w W) => (SF.out i k W hb).mono (fun e w' hh => And.intro (hh.1.trans (by rw [CTA.out HALL.out i k])) hh.2))
          have Y2 := hide (YES.out HALL.out)
          have SE : Hid (sumA ps ts j = sumA ps ts m) := hide (by rw [ej])
          rw [SE.out]
          clear ej SUM TOK PC BI TB HZ HT SF CTA YES NO3 HP sb1 sb2 SE HALL
          generalize ts.map toN = T at *
          generalize rgN ps = rs at *
          go_wp2_with fail
          refine (RO.out _ (hbel.trans (by (repeat' (first | (with_reducible first | exact Below.refl _ _ | assumption | refine below_ext _ ?_ ?_ | refine Below.alloc ?_ ?_ _ | refine Below.drew ?_ | refine below_drewN ?_ _ | refine le_drewN _ ?_ | refine Below.setCell ?_ ?_ _ | exact Nat.le_refl _ | refine le_ext _ ?_ | refine le_alloc _ ?_ | refine le_setCell _ _ ?_ | refine le_drew ?_) | omega | (simp; done) | (simp; omega)))))).mono ?_
          rintro e w2 ⟨v2, rfl, own2, hx2⟩
          obtain ⟨A2, n2, c2, rfl⟩ := own_slice own2
          rw [← RGE.out] at own2
          obtain ⟨l2, q2, q2b, I2⟩ := own2.ints
          have B2 := ext_bel hx2
          have e2 : n2 = n := by rw [← l2]; exact RL.out
          subst e2
          have I2h := hide I2
          have B2h := hide (hbel.trans (B2.mono hsz))
          have s2 := B2h.out.size
          unfold maxLen at q2b
          clear own2 hx2 B2 I2 l2 RGE RO
          go_wp2_with fail
          go_loopw [9, 10, 11] (fun u9 _ _ wr => ∃ x : Nat, x ≤ n2 ∧ u9 = .int .i64 x ∧ Hid (∀ i k, i < x → k < n2 → pairOk rs T i k = true) ∧ Below w2.heap.size w2 wr) (fun u9 _ _ _ => n2 - (intOf u9).toNat)
          case atStart => exact ⟨0, Nat.zero_le _, rfl, hide (fun i k hi hk => by omega), Below.refl _ _⟩
          case round =>
            obtain ⟨x, hx, rfl, HP, hbel2⟩ := hrel
            have hsz2 := hbel2.size
            by_cases hxl : x < n2
            · go_wp2_with fail
              go_loopw [10, 11] (fun u10 _ wr => ∃ y : Nat, y ≤ n2 ∧ u10 = .int .i64 y ∧ Hid (∀ k, k < y → pairOk rs T x k = true) ∧ Below w2.heap.size w2 wr) (fun u10 _ _ => n2 - (intOf u10).toNat)
              case atStart => exact ⟨0, Nat.zero_le _, rfl, hide (fun k hk => by omega), hbel2⟩
              case round =>
                obtain ⟨y, hy, rfl, HQ, hbel3⟩ := hrel
                have hsz3 := hbel3.size
                have hB3 := B2h.out.trans (hbel3.mono s2)
                by_cases hyl : y < n2
                · have S1 := hide (fun (W : World) (hb : Below w.heap.size w W) => SFN.out x y W hb)
                  have S2 := hide (fun (W : World) (hb : Below w.heap.size w W) => SFN.out y x W hb)
                  have F1 := hide (fun (W : World) (hb : Below w2.heap.size w2 W) => FO.out x y A2 c2 W (I2h.out.to hb))
                  have F2 := hide (fun (W : World) (hb : Below w2.heap.size w2 W) => FO.out y x A2 c2 W (I2h.out.to hb))
                  have PO : Hid (pairOk rs T x y = (if folB rs x y then decide (cntS T x y = 1) && decide (cntS T y x = 0) else if folB rs y x then true else decide (cntS T x y ≤ 1) && decide (cntS T x y = cntS T y x))) := hide rfl
                  have N5 := hide (NO5.out x y hxl hyl)
                  have NX : Hid (pairOk rs T x y = true → ∀ k, k < y + 1 → pairOk rs T x k = true) := hide (fun h k hk => by
                    by_cases e : k = y
                    · rw [e]; exact h
                    · exact HQ.out k (by omega))
                  rw [PO.out] at N5 NX
                  clear PO
                  generalize folB rs x y = f1 at *
                  generalize folB rs y x = f2 at *
                  generalize cntS T x y = P at *
                  generalize cntS T y x = Q at *
                  cases f1
                  · cases f2
                    · by_cases h1 : 1 < P
                      · have d1 : decide ((1 : Int) < (P : Int)) = true := decide_eq_true (by omega)
                        have HV := hide (N5.out (by
                          rw [if_neg (by decide), if_neg (by decide), decide_eq_false (show ¬ P ≤ 1 by omega)]; rfl))
                        clear N5 NX h1
                        go_wp2_with fail
                        refine (S1.out _ hB3).mono ?_
                        rintro e w' ⟨rfl, hw'⟩; have hzz1 := ext_sz hw'; obtain ⟨z1, rfl⟩ := hw'; (try simp at hzz1)
                        go_wp2_with fail
                        refine (F1.out _ (hbel3.trans (by (repeat' (first | (with_reducible first | exact Below.refl _ _ | assumption | refine below_ext _ ?_ ?_ | refine Below.alloc ?_ ?_ _ | refine Below.drew ?_ | refine below_drewN ?_ _ | refine le_drewN _ ?_ | refine Below.setCell ?_ ?_ _ | exact Nat.le_refl _ | refine le_ext _ ?_ | refine le_alloc _ ?_ | refine le_setCell _ _ ?_ | refine le_drew ?_) | omega | (simp; done) | (simp; omega)))))).mono ?_
                        rintro e w' ⟨rfl, hw'⟩; have hzz2 := ext_sz hw'; obtain ⟨z2, rfl⟩ := hw'; (try simp at hzz2)
                        go_wp2_with fail
                        refine (F2.out _ (hbel3.trans (by (repeat' (first | (with_reducible first | exact Below.refl _ _ | assumption | refine below_ext _ ?_ ?_ | refine Below.alloc ?_ ?_ _ | refine Below.drew ?_ | refine below_drewN ?_ _ | refine le_drewN _ ?_ | refine Below.setCell ?_ ?_ _ | exact Nat.le_refl _ | refine le_ext _ ?_ | refine le_alloc _ ?_ | refine le_setCell _ _ ?_ | refine le_drew ?_) | omega | (simp; done) | (simp; omega)))))).mono ?_
                        rintro e w' ⟨rfl, hw'⟩; have hzz3 := ext_sz hw'; obtain ⟨z3, rfl⟩ := hw'; (try simp at hzz3)
                        go_wp2_with fail
                        go_ret
                        exact ⟨ret_bool HV.out.symm, ext_mk (hB3.trans (by (repeat' (first | (with_reducible first | exact Below.refl _ _ | assumption | refine below_ext _ ?_ ?_ | refine Below.alloc ?_ ?_ _ | refine Below.drew ?_ | refine below_drewN ?_ _ | refine le_drewN _ ?_ | refine Below.setCell ?_ ?_ _ | exact Nat.le_refl _ | refine le_ext _ ?_ | refine le_alloc _ ?_ | refine le_setCell _ _ ?_ | refine le_drew ?_) | omega | (simp; done) | (simp; omega)))))⟩
                      · have d1 : decide ((1 : Int) < (P : Int)) = false := decide_eq_false (by omega)
                        by_cases h2 : P = Q
                        · have d2 : ((P : Int) != (Q : Int)) = false := by rw [h2]; simp
                          have NY := hide (NX.out (by rw [if_neg (by decide), if_neg (by decide), decide_eq_true (show P ≤ 1 by omega), decide_eq_true h2]; rfl))
                          clear N5 NX h1 h2
                          go_wp2_with fail
                          refine (S1.out _ hB3).mono ?_
                          rintro e w' ⟨rfl, hw'⟩; have hzz1 := ext_sz hw'; obtain ⟨z1, rfl⟩ := hw'; (try simp at hzz1)
                          go_wp2_with fail
                          refine (F1.out _ (hbel3.trans (by (repeat' (first | (with_reducible first | exact Below.refl _ _ | assumption | refine below_ext _ ?_ ?_ | refine Below.alloc ?_ ?_ _ | refine Below.drew ?_ | refine below_drewN ?_ _ | refine le_drewN _ ?_ | refine Below.setCell ?_ ?_ _ | exact Nat.le_refl _ | refine le_ext _ ?_ | refine le_alloc _ ?_ | refine le_setCell _ _ ?_ | refine le_drew ?_) | omega | (simp; done) | (simp; omega)))))).mono ?_
                          rintro e w' ⟨rfl, hw'⟩; have hzz2 := ext_sz hw'; obtain ⟨z2, rfl⟩ := hw'; (try simp at hzz2)
                          go_wp2_with fail
                          refine (F2.out _ (hbel3.trans (by (repeat' (first | (with_reducible first | exact Below.refl _ _ | assumption | refine below_ext _ ?_ ?_ | refine Below.alloc ?_ ?_ _ | refine Below.drew ?_ | refine below_drewN ?_ _ | refine le_drewN _ ?_ | refine Below.setCell ?_ ?_ _ | exact Nat.le_refl _ | refine le_ext _ ?_ | refine le_alloc _ ?_ | refine le_setCell _ _ ?_ | refine le_drew ?_) | omega | (simp; done) | (simp; omega)))))).mono ?_
                          rintro e w' ⟨rfl, hw'⟩; have hzz3 := ext_sz hw'; obtain ⟨z3, rfl⟩ := hw'; (try simp at hzz3)
                          go_wp2_with fail
                          refine (S2.out _ (hB3.trans (by (repeat' (first | (with_reducible first | exact Below.refl _ _ | assumption | refine below_ext _ ?_ ?_ | refine Below.alloc ?_ ?_ _ | refine Below.drew ?_ | refine below_drewN ?_ _ | refine le_drewN _ ?_ | refine Below.setCell ?_ ?_ _ | exact Nat.le_refl _ | refine le_ext _ ?_ | refine le_alloc _ ?_ | refine le_setCell _ _ ?_ | refine le_drew ?_) | omega | (simp; done) | (simp; omega)))))).mono ?_
                          rintro e w' ⟨rfl, hw'⟩; have hzz4 := ext_sz hw'; obtain ⟨z4, rfl⟩ := hw'; (try simp at hzz4)
                          go_wp2_with fail
                          exact ⟨⟨y + 1, by omega, by go_num, NY, hbel3.trans (by (repeat' (first | (with_reducible first | exact Below.refl _ _ | assumption | refine below_ext _ ?_ ?_ | refine Below.alloc ?_ ?_ _ | refine Below.drew ?_ | refine below_drewN ?_ _ | refine le_drewN _ ?_ | refine Below.setCell ?_ ?_ _ | exact Nat.le_refl _ | refine le_ext _ ?_ | refine le_alloc _ ?_ | refine le_setCell _ _ ?_ | refine le_drew ?_) | omega | (simp; done) | (simp; omega))))⟩, by simp [intOf]; omega⟩
                        · have d2 : ((P : Int) != (Q : Int)) = true := by simp; omega
                          have HV := hide (N5.out (by
                            rw [if_neg (by decide), if_neg (by decide), decide_eq_false h2, Bool.and_false]))
                          clear N5 NX h1 h2
                          go_wp2_with fail
                          refine (S1.out _ hB3).mono ?_
                          rintro e w' ⟨rfl, hw'⟩; have hzz1 := ext_sz hw'; obtain ⟨z1, rfl⟩ := hw'; (try simp at hzz1)
                          go_wp2_with fail
                          refine (F1.out _ (hbel3.trans (by (repeat' (first | (with_reducible first | exact Below.refl _ _ | assumption | refine below_ext _ ?_ ?_ | refine Below.alloc ?_ ?_ _ | refine Below.drew ?_ | refine below_drewN ?_ _ | refine le_drewN _ ?_ | refine Below.setCell ?_ ?_ _ | exact Nat.le_refl _ | refine le_ext _ ?_ | refine le_alloc _ ?_ | refine le_setCell _ _ ?_ | refine le_drew ?_) | omega | (simp; done) | (simp; omega)))))).mono ?_
                          rintro e w' ⟨rfl, hw'⟩; have hzz2 := ext_sz hw'; obtain ⟨z2, rfl⟩ := hw'; (try simp at hzz2)
                          go_wp2_with fail
                          refine (F2.out _ (hbel3.trans (by (repeat' (first | (with_reducible first | exact Below.refl _ _ | assumption | refine below_ext _ ?_ ?_ | refine Below.alloc ?_ ?_ _ | refine Below.drew ?_ | refine below_drewN ?_ _ | refine le_drewN _ ?_ | refine Below.setCell ?_ ?_ _ | exact Nat.le_refl _ | refine le_ext _ ?_ | refine le_alloc _ ?_ | refine le_setCell _ _ ?_ | refine le_drew ?_) | omega | (simp; done) | (simp; omega)))))).mono ?_
                          rintro e w' ⟨rfl, hw'⟩; have hzz3 := ext_sz hw'; obtain ⟨z3, rfl⟩ := hw'; (try simp at hzz3)
                          go_wp2_with fail
                          refine (S2.out _ (hB3.trans (by (repeat' (first | (with_reducible first | exact Below.refl _ _ | assumption | refine below_ext _ ?_ ?_ | refine Below.alloc ?_ ?_ _ | refine Below.drew ?_ | refine below_drewN ?_ _ | refine le_drewN _ ?_ | refine Below.setCell ?_ ?_ _ | exact Nat.le_refl _ | refine le_ext _ ?_ | refine le_alloc _ ?_ | refine le_setCell _ _ ?_ | refine le_drew ?_) | omega | (simp; done) | (simp; omega)))))).mono ?_
                          rintro e w' ⟨rfl, hw'⟩; have hzz4 := ext_sz hw'; obtain ⟨z4, rfl⟩ := hw'; (try simp at hzz4)
                          go_wp2_with fail
                          go_ret
                          exact ⟨ret_bool HV.out.symm, ext_mk (hB3.trans (by (repeat' (first | (with_reducible first | exact Below.refl _ _ | assumption | refine below_ext _ ?_ ?_ | refine Below.alloc ?_ ?_ _ | refine Below.drew ?_ | refine below_drewN ?_ _ | refine le_drewN _ ?_ | refine Below.setCell ?_ ?_ _ | exact Nat.le_refl _ | refine le_ext _ ?_ | refine le_alloc _ ?_ | refine le_setCell _ _ ?_ | refine le_drew ?_) | omega | (simp; done) | (simp; omega)))))⟩
                    · have NY := hide (NX.out (by rw [if_neg (by decide), if_pos rfl]))
                      clear N5 NX
                      go_wp2_with fail
                      refine (S1.out _ hB3).mono ?_
                      rintro e w' ⟨rfl, hw'⟩; have hzz1 := ext_sz hw'; obtain ⟨z1, rfl⟩ := hw'; (try simp at hzz1)
                      go_wp2_with fail
                      refine (F1.out _ (hbel3.trans (by (repeat' (first | (with_reducible first | exact Below.refl _ _ | assumption | refine below_ext _ ?_ ?_ | refine Below.alloc ?_ ?_ _ | refine Below.drew ?_ | refine below_drewN ?_ _ | refine le_drewN _ ?_ | refine Below.setCell ?_ ?_ _ | exact Nat.le_refl _ | refine le_ext _ ?_ | refine le_alloc _ ?_ | refine le_setCell _ _ ?_ | refine le_drew ?_) | omega | (simp; done) | (simp; omega)))))).mono ?_
                      rintro e w' ⟨rfl, hw'⟩; have hzz2 := ext_sz hw'; obtain ⟨z2, rfl⟩ := hw'; (try simp at hzz2)
                      go_wp2_with fail
                      refine (F2.out _ (hbel3.trans (by (repeat' (first | (with_reducible first | exact Below.refl _ _ | assumption | refine below_ext _ ?_ ?_ | refine Below.alloc ?_ ?_ _ | refine Below.drew ?_ | refine below_drewN ?_ _ | refine le_drewN _ ?_ | refine Below.setCell ?_ ?_ _ | exact Nat.le_refl _ | refine le_ext _ ?_ | refine le_alloc _ ?_ | refine le_setCell _ _ ?_ | refine le_drew ?_) | omega | (simp; done) | (simp; omega)))))).mono ?_
                      rintro e w' ⟨rfl, hw'⟩; have hzz3 := ext_sz hw'; obtain ⟨z3, rfl⟩ := hw'; (try simp at hzz3)
                      go_wp2_with fail
                      exact ⟨⟨y + 1, by omega, by go_num, NY, hbel3.trans (by (repeat' (first | (with_reducible first | exact Below.refl _ _ | assumption | refine below_ext _ ?_ ?_ | refine Below.alloc ?_ ?_ _ | refine Below.drew ?_ | refine below_drewN ?_ _ | refine le_drewN _ ?_ | refine Below.setCell ?_ ?_ _ | exact Nat.le_refl _ | refine le_ext _ ?_ | refine le_alloc _ ?_ | refine le_setCell _ _ ?_ | refine le_drew ?_) | omega | (simp; done) | (simp; omega))))⟩, by simp [intOf]; omega⟩
                  · by_cases h1 : P = 1
                    · have d1 : ((P : Int) != 1) = false := by rw [h1]; rfl
                      by_cases h2 : Q = 0
                      · have d2 : ((Q : Int) != 0) = false := by rw [h2]; rfl
                        have NY := hide (NX.out (by rw [if_pos rfl, decide_eq_true h1, decide_eq_true h2]; rfl))
                        clear N5 NX h1 h2
                        go_wp2_with fail
                        refine (S1.out _ hB3).mono ?_
                        rintro e w' ⟨rfl, hw'⟩; have hzz1 := ext_sz hw'; obtain ⟨z1, rfl⟩ := hw'; (try simp at hzz1)
                        go_wp2_with fail
                        refine (F1.out _ (hbel3.trans (by (repeat' (first | (with_reducible first | exact Below.refl _ _ | assumption | refine below_ext _ ?_ ?_ | refine Below.alloc ?_ ?_ _ | refine Below.drew ?_ | refine below_drewN ?_ _ | refine le_drewN _ ?_ | refine Below.setCell ?_ ?_ _ | exact Nat.le_refl _ | refine le_ext _ ?_ | refine le_alloc _ ?_ | refine le_setCell _ _ ?_ | refine le_drew ?_) | omega | (simp; done) | (simp; omega)))))).mono ?_
                        rintro e w' ⟨rfl, hw'⟩; have hzz2 := ext_sz hw'; obtain ⟨z2, rfl⟩ := hw'; (try simp at hzz2)
                        go_wp2_with fail
                        refine (S2.out _ (hB3.trans (by (repeat' (first | (with_reducible first | exact Below.refl _ _ | assumption | refine below_ext _ ?_ ?_ | refine Below.alloc ?_ ?_ _ | refine Below.drew ?_ | refine below_drewN ?_ _ | refine le_drewN _ ?_ | refine Below.setCell ?_ ?_ _ | exact Nat.le_refl _ | refine le_ext _ ?_ | refine le_alloc _ ?_ | refine le_setCell _ _ ?_ | refine le_drew ?_) | omega | (simp; done) | (simp; omega)))))).mono ?_
                        rintro e w' ⟨rfl, hw'⟩; have hzz3 := ext_sz hw'; obtain ⟨z3, rfl⟩ := hw'; (try simp at hzz3)
                        go_wp2_with fail
                        exact ⟨⟨y + 1, by omega, by go_num, NY, hbel3.trans (by (repeat' (first | (with_reducible first | exact Below.refl _ _ | assumption | refine below_ext _ ?_ ?_ | refine Below.alloc ?_ ?_ _ | refine Below.drew ?_ | refine below_drewN ?_ _ | refine le_drewN _ ?_ | refine Below.setCell ?_ ?_ _ | exact Nat.le_refl _ | refine le_ext _ ?_ | refine le_alloc _ ?_ | refine le_setCell _ _ ?_ | refine le_drew ?_) | omega | (simp; done) | (simp; omega))))⟩, by simp [intOf]; omega⟩
                      · have d2 : ((Q : Int) != 0) = true := by simp; omega
                        have HV := hide (N5.out (by rw [if_pos rfl, decide_eq_false h2, Bool.and_false]))
                        clear N5 NX h1 h2
                        go_wp2_with fail
                        refine (S1.out _ hB3).mono ?_
                        rintro e w' ⟨rfl, hw'⟩; have hzz1 := ext_sz hw'; obtain ⟨z1, rfl⟩ := hw'; (try simp at hzz1)
                        go_wp2_with fail
                        refine (F1.out _ (hbel3.trans (by (repeat' (first | (with_reducible first | exact Below.refl _ _ | assumption | refine below_ext _ ?_ ?_ | refine Below.alloc ?_ ?_ _ | refine Below.drew ?_ | refine below_drewN ?_ _ | refine le_drewN _ ?_ | refine Below.setCell ?_ ?_ _ | exact Nat.le_refl _ | refine le_ext _ ?_ | refine le_alloc _ ?_ | refine le_setCell _ _ ?_ | refine le_drew ?_) | omega | (simp; done) | (simp; omega)))))).mono ?_
                        rintro e w' ⟨rfl, hw'⟩; have hzz2 := ext_sz hw'; obtain ⟨z2, rfl⟩ := hw'; (try simp at hzz2)
                        go_wp2_with fail
                        refine (S2.out _ (hB3.trans (by (repeat' (first | (with_reducible first | exact Below.refl _ _ | assumption | refine below_ext _ ?_ ?_ | refine Below.alloc ?_ ?_ _ | refine Below.drew ?_ | refine below_drewN ?_ _ | refine le_drewN _ ?_ | refine Below.setCell ?_ ?_ _ | exact Nat.le_refl _ | refine le_ext _ ?_ | refine le_alloc _ ?_ | refine le_setCell _ _ ?_ | refine le_drew ?_) | omega | (simp; done) | (simp; omega)))))).mono ?_
                        rintro e w' ⟨rfl, hw'⟩; have hzz3 := ext_sz hw'; obtain ⟨z3, rfl⟩ := hw'; (try simp at hzz3)
                        go_wp2_with fail
                        go_ret
                        exact ⟨ret_bool HV.out.symm, ext_mk (hB3.trans (by (repeat' (first | (with_reducible first | exact Below.refl _ _ | assumption | refine below_ext _ ?_ ?_ | refine Below.alloc ?_ ?_ _ | refine Below.drew ?_ | refine below_drewN ?_ _ | refine le_drewN _ ?_ | refine Below.setCell ?_ ?_ _ | exact Nat.le_refl _ | refine le_ext _ ?_ | refine le_alloc _ ?_ | refine le_setCell _ _ ?_ | refine le_drew ?_) | omega | (simp; done) | (simp; omega)))))⟩
                    · have d1 : ((P : Int) != 1) = true := by simp; omega
                      have HV := hide (N5.out (by rw [if_pos rfl, decide_eq_false h1]; rfl))
                      clear N5 NX h1
                      go_wp2_with fail
                      refine (S1.out _ hB3).mono ?_
                      rintro e w' ⟨rfl, hw'⟩; have hzz1 := ext_sz hw'; obtain ⟨z1, rfl⟩ := hw'; (try simp at hzz1)
                      go_wp2_with fail
                      refine (F1.out _ (hbel3.trans (by (repeat' (first | (with_reducible first | exact Below.refl _ _ | assumption | refine below_ext _ ?_ ?_ | refine Below.alloc ?_ ?_ _ | refine Below.drew ?_ | refine below_drewN ?_ _ | refine le_drewN _ ?_ | refine Below.setCell ?_ ?_ _ | exact Nat.le_refl _ | refine le_ext _ ?_ | refine le_alloc _ ?_ | refine le_setCell _ _ ?_ | refine le_drew ?_) | omega | (simp; done) | (simp; omega)))))).mono ?_
                      rintro e w' ⟨rfl, hw'⟩; have hzz2 := ext_sz hw'; obtain ⟨z2, rfl⟩ := hw'; (try simp at hzz2)
                      go_wp2_with fail
                      go_ret
                      exact ⟨ret_bool HV.out.symm, ext_mk (hB3.trans (by (repeat' (first | (with_reducible first | exact Below.refl _ _ | assumption | refine below_ext _ ?_ ?_ | refine Below.alloc ?_ ?_ _ | refine Below.drew ?_ | refine below_drewN ?_ _ | refine le_drewN _ ?_ | refine Below.setCell ?_ ?_ _ | exact Nat.le_refl _ | refine le_ext _ ?_ | refine le_alloc _ ?_ | refine le_setCell _ _ ?_ | refine le_drew ?_) | omega | (simp; done) | (simp; omega)))))⟩
                · have ey : y = n2 := by omega
                  have HR : Hid (∀ i k, i < x + 1 → k < n2 → pairOk rs T i k = true) := hide (fun i k hi hk => by
                    by_cases e : i = x
                    · rw [e]; exact HQ.out k (by omega)
                    · exact HP.out i k (by omega) hk)
                  clear ey
                  go_wp2_with fail
                  exact ⟨⟨x + 1, by omega, by go_num, HR, hbel3⟩, by simp [intOf]; omega⟩
            · have ex : x = n2 := by omega
              have HV := hide (Y2.out (fun i k hi hk => HP.out i k (by omega) hk))
              rw [← ABS.out] at HV
              clear ex Y2
              have hB4 := B2h.out.trans (hbel2.mono s2)
              generalize sumA ps ts m = SS at *
              go_wp2_with fail
              refine (DA.out _ hB4).mono ?_
              rintro e w' ⟨rfl, hw'⟩; have hzz1 := ext_sz hw'; obtain ⟨z1, rfl⟩ := hw'; (try simp at hzz1)
              go_wp2_with fail
              refine (sabs_any _ _ (by omega)).mono ?_
              rintro e w' ⟨rfl, rfl⟩
              go_wp2_with fail
              go_ret
              exact ⟨ret_bool (by rw [HV.out, Bool.eq_iff_iff, beq_iff_eq, decide_eq_true_eq]), ext_mk (hB4.trans (by (repeat' (first | (with_reducible first | exact Below.refl _ _ | assumption | refine below_ext _ ?_ ?_ | refine Below.alloc ?_ ?_ _ | refine Below.drew ?_ | refine below_drewN ?_ _ | refine le_drewN _ ?_ | refine Below.setCell ?_ ?_ _ | exact Nat.le_refl _ | refine le_ext _ ?_ | refine le_alloc _ ?_ | refine le_setCell _ _ ?_ | refine le_drew ?_) | omega | (simp; done) | (simp; omega)))))⟩
    · rw [hok] at HC
      have HV := hide (chk_no (ps := ps) (ts := ts) (fun hh => hlen (by omega)))
      have D1 : ((m : Int) != (n : Int) - 2) = true := by simp; omega
      clear hok hs hn ht hz
      go_enter Tryz.func24, Tryz.ntmps24
      go_wp2_with fail
      refine HC.out.mono ?_
      rintro e w' ⟨rfl, hw'⟩; have hzy1 := ext_sz hw'; obtain ⟨y1, rfl⟩ := hw'; (try simp at hzy1)
      go_wp2_with fail
      go_ret
      exact ⟨ret_bool HV.out.symm, (ext_mk (by (repeat' (first | (with_reducible first | exact Below.refl _ _ | assumption | refine below_ext _ ?_ ?_ | refine Below.alloc ?_ ?_ _ | refine Below.drew ?_ | refine below_drewN ?_ _ | refine le_drewN _ ?_ | refine Below.setCell ?_ ?_ _ | exact Nat.le_refl _ | refine le_ext _ ?_ | refine le_alloc _ ?_ | refine le_setCell _ _ ?_ | refine le_drew ?_) | omega | (simp; done) | (simp; omega)))))⟩
  · rw [eq_false_of_ne_true hok] at HC
    have HV := hide (chk_no1 (ts := ts) (eq_false_of_ne_true hok))
    clear hok hn hs
    go_enter Tryz.func24, Tryz.ntmps24
    go_wp2_with fail
    refine HC.out.mono ?_
    rintro e w' ⟨rfl, hw'⟩; have hzy1 := ext_sz hw'; obtain ⟨y1, rfl⟩ := hw'; (try simp at hzy1)
    go_wp2_with fail
    go_ret
    exact ⟨ret_bool HV.out.symm, (ext_mk (by (repeat' (first | (with_reducible first | exact Below.refl _ _ | assumption | refine below_ext _ ?_ ?_ | refine Below.alloc ?_ ?_ _ | refine Below.drew ?_ | refine below_drewN ?_ _ | refine le_drewN _ ?_ | refine Below.setCell ?_ ?_ _ | exact Nat.le_refl _ | refine le_ext _ ?_ | refine le_alloc _ ?_ | refine le_setCell _ _ ?_ | refine le_drew ?_) | omega | (simp; done) | (simp; omega)))))⟩
end Go.Proofs.YtkkmioffclpmfaaGreat
