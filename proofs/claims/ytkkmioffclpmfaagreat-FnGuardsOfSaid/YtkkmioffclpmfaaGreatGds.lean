
/- GuardsOf of the program and of the reference. -/
import Derived.Test.YtkkmioffclpmfaaGreatColI
import Derived.Test.YtkkmioffclpmfaaGreatTrnI
import Derived.Test.YtkkmioffclpmfaaGreatGrpM
set_option linter.unusedVariables false
set_option linter.unusedSimpArgs false
namespace Go.Proofs.YtkkmioffclpmfaaGreat
open Go.RowKit

/-- The place of the first least among the first ones. -/
def mi (N : Nat → Nat) : Nat → Nat
  | 0 => 0
  | k + 1 => if N (k + 1) < N (mi N k) then k + 1 else mi N k
theorem mi_lt (N : Nat → Nat) : ∀ k, mi N k ≤ k
  | 0 => Nat.le_refl _
  | k + 1 => by
    have := mi_lt N k
    unfold mi
    split <;> omega
theorem mi_yes {N : Nat → Nat} {k : Nat} (h : N (k + 1) < N (mi N k)) : mi N (k + 1) = k + 1 := by
  show (if _ then _ else _) = _
  rw [if_pos h]
theorem mi_no {N : Nat → Nat} {k : Nat} (h : ¬ N (k + 1) < N (mi N k)) : mi N (k + 1) = mi N k := by
  show (if _ then _ else _) = _
  rw [if_neg h]
theorem mi_best {N : Nat → Nat} {F : Nat → List Int} {cs : List Int} (hN : ∀ k, k < 3 → N k = (F k).length) (hF : ∀ k : Nat, k < 3 → F k = grp cs (k : Int)) : F (mi N 2) = bestG cs := by
  have n0 := hN 0 (by omega)
  have n1 := hN 1 (by omega)
  have n2 := hN 2 (by omega)
  have f0 := hF 0 (by omega)
  have f1 := hF 1 (by omega)
  have f2 := hF 2 (by omega)
  have g0 : F 0 = grp cs 0 := f0
  have g1 : F 1 = grp cs 1 := f1
  have g2 : F 2 = grp cs 2 := f2
  unfold bestG pickG
  rw [← g0, ← g1, ← g2]
  by_cases h1 : N 1 < N 0
  · have e1 : mi N 1 = 1 := mi_yes h1
    rw [if_pos (show (F 1).length < (F 0).length by omega)]
    by_cases h2 : N 2 < N 1
    · have e2 : mi N 2 = 2 := mi_yes (by rw [e1]; exact h2)
      rw [e2, if_pos (by omega)]
    · have e2 : mi N 2 = mi N 1 := mi_no (by rw [e1]; exact h2)
      rw [e2, e1, if_neg (by omega)]
  · have e1 : mi N 1 = 0 := mi_no h1
    rw [if_neg (show ¬ (F 1).length < (F 0).length by omega)]
    by_cases h2 : N 2 < N 0
    · have e2 : mi N 2 = 2 := mi_yes (by rw [e1]; exact h2)
      rw [e2, if_pos (by omega)]
    · have e2 : mi N 2 = mi N 1 := mi_no (by rw [e1]; exact h2)
      rw [e2, e1, if_neg (by omega)]
theorem grpK_yes {cs : List Int} {k : Int} {i : Nat} (h : gi cs i = k) : grpK cs k (i + 1) = grpK cs k i ++ [(i : Int)] := by
  show (if _ then _ else _) = _
  rw [if_pos h]
theorem grpK_no {cs : List Int} {k : Int} {i : Nat} (h : gi cs i ≠ k) : grpK cs k (i + 1) = grpK cs k i := by
  show (if _ then _ else _) = _
  rw [if_neg h]
/-- The three groups, as far as the first i vertices. -/
structure GrpAt (w0 w : World) (gb : Nat) (cs : List Int) (i : Nat) (f : Nat → Value) : Prop where
  frm : Frm w0 w gb
  row : RowAt w gb 69 3 f
  own : ∀ k : Nat, k < 3 → Own w w0.heap.size (f k) (grpK cs (k : Int) i)
  dj : ∀ j k, j < 3 → k < 3 → j ≠ k → ∀ b, (f j).ownBlock = some b → (f k).ownBlock ≠ some b
theorem GrpAt.step {w0 w : World} {gb : Nat} {cs : List Int} {i : Nat} {f : Nat → Value} (h : GrpAt w0 w gb cs i f) (hgb : gb < w0.heap.size) {c : Nat} (hc : c < 3) (hcol : gi cs i = c) {o : Obj} {v : Value} {w7 : World} (hown : Own w7 w0.heap.size v (grpK cs (c : Int) i ++ [(i : Int)])) (hb : Below w0.heap.size (w.alloc o) w7) (hat : v.ownBlock = (f c).ownBlock ∨ v.ownBlock = some (w.alloc o).heap.size) (hgr : (w.alloc o).grownBy w7 (f c).ownBlock) :
    GrpAt w0 (w7.setCell ⟨gb, c, none⟩ v) gb cs (i + 1) (fun j => if j = c then v else f j) := by
  have hsz := h.frm.size
  have ha : Below w.heap.size w (w.alloc o) := (Below.refl _ _).alloc (Nat.le_refl _) o
  have hsa : (w.alloc o).heap.size = w.heap.size + 1 := by simp
  have s7 := hgr.size
  have R7 : RowAt w7 gb 69 3 f := (h.row.below ha h.row.lt).below hb hgb
  refine ⟨?_, R7.set hc v, fun k hk => ?_, fun j k hj hk hjk b hb1 hb2 => ?_⟩
  · exact Frm.trans ⟨(hb.os.trans ha.os).trans h.frm.os, (hb.tape.trans ha.tape).trans h.frm.tape, (hb.output.trans ha.output).trans h.frm.output, by omega, fun k hk hkg => ((hb.block k hk).trans (ha.block k (by omega))).trans (h.frm.block k hk hkg)⟩ (Frm.set _ _ _ _)
  · by_cases e : k = c
    · subst e
      show Own _ _ (if k = k then v else f k) _
      rw [if_pos rfl, grpK_yes hcol]
      exact own_block hown fun q hq => Below.heap_setCell _ _ _ _ (by have := hown.lt q hq; show q ≠ gb; omega)
    · show Own _ _ (if k = c then v else f k) _
      rw [if_neg e, grpK_no (by rw [hcol]; omega)]
      have hk1 := h.own k hk
      refine own_block hk1 fun q hq => ?_
      have hq1 := hk1.lt q hq
      have hq2 := hk1.lt2 q hq
      refine (Below.heap_setCell _ _ _ _ (show q ≠ gb by omega)).trans ((hgr.block q (by omega) fun e2 => ?_).trans (ha.block q hq2))
      exact h.dj k c hk hc e q hq e2.symm
  · have lt2 : ∀ k, k < 3 → ∀ b, (f k).ownBlock = some b → b < w.heap.size := fun k hk b hb => (h.own k hk).lt2 b hb
    have vb : ∀ k, k < 3 → k ≠ c → ∀ b, v.ownBlock = some b → (f k).ownBlock ≠ some b := fun k hk hkc b h1 h2 => by
      rcases hat with e | e
      · exact h.dj k c hk hc hkc b h2 (e ▸ h1)
      · have := lt2 k hk b h2
        rw [e] at h1
        injection h1 with h1
        omega
    by_cases ej : j = c
    · rw [if_pos ej] at hb1
      rw [if_neg (by omega)] at hb2
      exact vb k hk (by omega) b hb1 hb2
    · rw [if_neg ej] at hb1
      by_cases ek : k = c
      · rw [if_pos ek] at hb2
        exact vb j hj ej b hb2 hb1
      · rw [if_neg ek] at hb2
        exact h.dj j k hj hk hjk b hb1 hb2

set_option maxHeartbeats 400000 in
theorem gd1_any (A A' : Option Addr) (n c n' c' : Nat) (w : World) (hn : n ≤ 2000000) (hn' : n' ≤ 2000000) :
    Calls Tryz.prog 69 #[.slice A n c, .slice A' n' c'] w fun e w' => e = .returned (.int .i64 ((n : Int) - n')) ∧ ∃ x, w' = ext w x := by
  go_enter Tryz.func69, Tryz.ntmps69
  go_wp2_with fail
  go_ret
  exact ⟨rfl, (ext_mk (by (repeat' (first | (with_reducible first | exact Below.refl _ _ | assumption | refine below_ext _ ?_ ?_ | refine Below.alloc ?_ ?_ _ | refine Below.drew ?_ | refine below_drewN ?_ _ | refine le_drewN _ ?_ | refine Below.setCell ?_ ?_ _ | exact Nat.le_refl _ | refine le_ext _ ?_ | refine le_alloc _ ?_ | refine le_setCell _ _ ?_ | refine le_drew ?_) | omega | (simp; done) | (simp; omega)))))⟩
set_option maxHeartbeats 1000000 in
theorem minF_any (A : Nat → Option Addr) (N C : Nat → Nat) (gb c : Nat) (w : World) (hN : ∀ k, k < 3 → N k ≤ 2000000) (hc : ∀ k, k < 3 → w.cell? ⟨gb, k, none⟩ = some (.slice (A k) (N k) (C k))) :
    Calls Tryz.prog 68 #[.slice (some ⟨gb, 0, none⟩) 3 c, .func (.func 69) #[] #[]] w fun e w' => e = .returned (.slice (A (mi N 2)) (N (mi N 2)) (C (mi N 2))) ∧ ∃ x, w' = ext w x := by
  have eg : ∀ args w, (callFunc 69 args).run Tryz.prog w = .ok (.enter 69 args) w := enters _ Tryz.func69 (by kernel_rfl) rfl
  have lg := World.block_lt_of_cell? w _ (hc 0 (by omega))
  have HC := hide hc
  have HN := hide hN
  have h0 := hc 0 (by omega)
  have MI := hide (mi_lt N)
  have M0 : Hid (mi N 0 = 0) := hide rfl
  clear hc hN
  go_enter Tryz.func68, Tryz.ntmps68
  go_wp2_with fail
  clear h0
  go_loopw [5, 6] (fun u5 u6 wr => ∃ j : Nat, j ≤ 2 ∧ u6 = .int .i64 ((j + 1 : Nat) : Int) ∧ u5 = .slice (A (mi N j)) (N (mi N j)) (C (mi N j)) ∧ Below w.heap.size w wr) (fun _ u6 _ => 3 - (intOf u6).toNat)
  case atStart => exact ⟨0, by omega, rfl, by rw [M0.out], (by (repeat' (first | (with_reducible first | exact Below.refl _ _ | assumption | refine below_ext _ ?_ ?_ | refine Below.alloc ?_ ?_ _ | refine Below.drew ?_ | refine below_drewN ?_ _ | refine le_drewN _ ?_ | refine Below.setCell ?_ ?_ _ | exact Nat.le_refl _ | refine le_ext _ ?_ | refine le_alloc _ ?_ | refine le_setCell _ _ ?_ | refine le_drew ?_) | omega | (simp; done) | (simp; omega))))⟩
  case round =>
    obtain ⟨j, hj, rfl, rfl, hbel⟩ := hrel
    have hsz := hbel.size
    by_cases hlt : j < 2
    · have k1 := (hbel.cell (p := ⟨gb, j + 1, none⟩) lg).trans (HC.out (j + 1) (by omega))
      have b1 := HN.out (j + 1) (by omega)
      have b2 := HN.out (mi N j) (by have := MI.out j; omega)
      have YE := hide (mi_yes (N := N) (k := j))
      have NO := hide (mi_no (N := N) (k := j))
      have d1 : decide (((j + 1 : Nat) : Int) < 3) = true := decide_eq_true (by omega)
      have q1 : (0 : Int) ≤ ((j + 1 : Nat) : Int) := by omega
      have q2 : ((j + 1 : Nat) : Int) < 3 := by omega
      have GD := hide (fun W => gd1_any (A (j + 1)) (A (mi N j)) (N (j + 1)) (C (j + 1)) (N (mi N j)) (C (mi N j)) W b1 b2)
      by_cases hh : N (j + 1) < N (mi N j)
      · have e1 := YE.out hh
        have d2 : decide (((N (j + 1) : Nat) : Int) - (N (mi N j) : Nat) < 0) = true := decide_eq_true (by omega)
        have E1 := hide e1
        have J1 : Hid (j + 1 + 1 = j + 2) := hide rfl
        clear YE NO MI M0 HN hh b1 b2 e1
        generalize N (mi N j) = NM at *
        generalize C (mi N j) = CM at *
        generalize A (mi N j) = AM at *
        go_wp2_with (go_at_fn 69; refine (GD.out _).mono ?_; rintro e w' ⟨rfl, hw'⟩; have hzy := ext_sz hw'; obtain ⟨y, rfl⟩ := hw'; (try simp at hzy))
        exact ⟨⟨j + 1, by omega, by go_num, by rw [E1.out], hbel.trans (by (repeat' (first | (with_reducible first | exact Below.refl _ _ | assumption | refine below_ext _ ?_ ?_ | refine Below.alloc ?_ ?_ _ | refine Below.drew ?_ | refine below_drewN ?_ _ | refine le_drewN _ ?_ | refine Below.setCell ?_ ?_ _ | exact Nat.le_refl _ | refine le_ext _ ?_ | refine le_alloc _ ?_ | refine le_setCell _ _ ?_ | refine le_drew ?_) | omega | (simp; done) | (simp; omega))))⟩, by simp [intOf]; omega⟩
      · have e1 := NO.out hh
        have d2 : decide (((N (j + 1) : Nat) : Int) - (N (mi N j) : Nat) < 0) = false := decide_eq_false (by omega)
        have E1 := hide e1
        clear YE NO MI M0 HN hh b1 b2 e1
        generalize hNM : N (mi N j) = NM at *
        generalize hCM : C (mi N j) = CM at *
        generalize hAM : A (mi N j) = AM at *
        have HH := hide (And.intro hNM (And.intro hCM hAM))
        clear hNM hCM hAM
        go_wp2_with (go_at_fn 69; refine (GD.out _).mono ?_; rintro e w' ⟨rfl, hw'⟩; have hzy := ext_sz hw'; obtain ⟨y, rfl⟩ := hw'; (try simp at hzy))
        exact ⟨⟨j + 1, by omega, by go_num, by rw [E1.out, HH.out.1, HH.out.2.1, HH.out.2.2], hbel.trans (by (repeat' (first | (with_reducible first | exact Below.refl _ _ | assumption | refine below_ext _ ?_ ?_ | refine Below.alloc ?_ ?_ _ | refine Below.drew ?_ | refine below_drewN ?_ _ | refine le_drewN _ ?_ | refine Below.setCell ?_ ?_ _ | exact Nat.le_refl _ | refine le_ext _ ?_ | refine le_alloc _ ?_ | refine le_setCell _ _ ?_ | refine le_drew ?_) | omega | (simp; done) | (simp; omega))))⟩, by simp [intOf]; omega⟩
    · have ej : j = 2 := by omega
      subst ej
      go_wp2
      go_ret
      exact ⟨rfl, ext_mk hbel⟩
set_option maxRecDepth 20000 in
set_option maxHeartbeats 2000000 in
theorem iGds_any (ps : List Pt) (A : Option Addr) (n c : Nat) (w : World) (hn : ps.length = n) (hm : n ≤ 2000000) (hA : Plain A n) (hs : PtsAt w w.heap.size A ps) :
    Calls Tryz.prog 29 #[.slice A n c] w fun e w' => ∃ A' n', e = .returned (.slice A' n' n') ∧ (grdV ps).length = n' ∧ n' ≤ 1000 ∧ IRow w' w.heap.size A' (grdV ps) ∧ ∃ x, w' = ext w x := by
  have HC := hide (clippable_any ps A n c w hn hm hA hs)
  by_cases hok : clipB ps = true
  · rw [hok] at HC
    have hck := tri_chk hok
    have HV : Hid (grdV ps = bestG (colL ((triI ps).map toN) n)) := hide (by unfold grdV; rw [if_pos hok, hn])
    have TR := hide (fun (W : World) (hb : Below w.heap.size w W) => itri0_any ps A n c W hn hok (hs.to hb))
    obtain ⟨c1, c2, c3, c4, c5⟩ := chk_tri hck
    have LT : Hid (∀ m, (triI ps).length = m → m ≤ 1000) := hide (fun m h => by have := triI_len hok; omega)
    have CO := hide (fun (Z : Option Addr) (m d : Nat) (W : World) (hlm : (triI ps).length = m) (hz : TrisAt W W.heap.size Z (triI ps)) => colors_any (triI ps) Z m d n W hlm (by have := triI_len hok; omega) (by omega) (by omega) (fun j hj => by rw [← hn]; exact c1 j (by omega)) c2 (by rw [← hn]; exact c3) hz)
    have TC := chk_col hck
    rw [hn] at TC
    have TL : Hid ((colL ((triI ps).map toN) n).length = n) := hide (by rw [TC.len, hn])
    have CR : Hid (∀ i, i < n → ∃ k : Nat, k < 3 ∧ gi (colL ((triI ps).map toN) n) i = k) := hide (fun i hi => by
      have := TC.rng i (by omega)
      exact ⟨(gi (colL ((triI ps).map toN) n) i).toNat, by omega, by omega⟩)
    have k20 : n ≤ 20 := by omega
    rw [HV.out]
    clear hok hck hn hs HV c1 c2 c3 c4 c5 TC
    generalize triI ps = TS at *
    generalize colL (TS.map toN) n = L at *
    have GL : Hid (∀ k : Int, ∀ i, (grpK L k i).length ≤ i) := hide (fun k i => grpK_len L k i)
    have GB : Hid (∀ k : Nat, k < 3 → grpK L (k : Int) n = grp L (k : Int)) := hide (fun k _ => by unfold grp; rw [TL.out])
    have BE := hide (fun (N : Nat → Nat) (F : Nat → List Int) => mi_best (N := N) (F := F) (cs := L))
    have ML := hide (fun N => mi_lt N 2)
    have CP := hide (fun (A : Option Addr) (n c : Nat) (W : World) (h1 : n ≤ c) (h2 : c ≤ 9223372036854775807) (h3 : 0 < n → A ≠ none) => clipN_any A n c W h1 h2 h3)
    have MF := hide (fun (A : Nat → Option Addr) (N C : Nat → Nat) (gb c : Nat) (W : World) h1 h2 => minF_any A N C gb c W h1 h2)
    go_enter Tryz.func29, Tryz.ntmps29
    go_wp2_with fail
    refine HC.out.mono ?_
    rintro e w' ⟨rfl, hw'⟩; have hzy1 := ext_sz hw'; obtain ⟨y1, rfl⟩ := hw'; (try simp at hzy1)
    go_wp2_with fail
    refine (TR.out _ (by (repeat' (first | (with_reducible first | exact Below.refl _ _ | assumption | refine below_ext _ ?_ ?_ | refine Below.alloc ?_ ?_ _ | refine Below.drew ?_ | refine below_drewN ?_ _ | refine le_drewN _ ?_ | refine Below.setCell ?_ ?_ _ | exact Nat.le_refl _ | refine le_ext _ ?_ | refine le_alloc _ ?_ | refine le_setCell _ _ ?_ | refine le_drew ?_) | omega | (simp; done) | (simp; omega))))).mono ?_
    rintro e w2 ⟨v2, rfl, own2, hx2⟩
    obtain ⟨A2, n2, c2, rfl⟩ := own2.slice
    have R2 := hide own2.tris
    have D2 := ext_bel hx2
    obtain ⟨gb, hgb⟩ : ∃ gb, gb = (ext w y1).heap.size := ⟨_, rfl⟩
    have G2 : Hid (RowAt w2 gb 69 3 (fun _ => .slice none 0 0)) := hide (by
      rw [hgb]
      exact (RowAt.new (f := fun _ => .slice none 0 0) (ext w y1) #[.slice none 0 0, .slice none 0 0, .slice none 0 0] _ (fun j hj => by
        have hj : j < 3 := hj
        match j, hj with
        | 0, _ => rfl
        | 1, _ => rfl
        | 2, _ => rfl)).below D2 (by simp))
    have B2 := hide ((show Below w.heap.size w _ from (by (repeat' (first | (with_reducible first | exact Below.refl _ _ | assumption | refine below_ext _ ?_ ?_ | refine Below.alloc ?_ ?_ _ | refine Below.drew ?_ | refine below_drewN ?_ _ | refine le_drewN _ ?_ | refine Below.setCell ?_ ?_ _ | exact Nat.le_refl _ | refine le_ext _ ?_ | refine le_alloc _ ?_ | refine le_setCell _ _ ?_ | refine le_drew ?_) | omega | (simp; done) | (simp; omega))))).trans (D2.mono (show w.heap.size ≤ _ by simp; omega)))
    have wg : w.heap.size ≤ gb := by omega
    clear own2 hx2 D2
    go_wp2_with fail
    rw [← hgb]
    refine (CO.out A2 n2 c2 w2 R2.out.1 R2.out.2.2.2).mono ?_
    rintro e w3 ⟨gc, rfl, hgc, ca3, hx3⟩
    have D3 := ext_bel hx3
    have G3 := hide (G2.out.below D3 G2.out.lt)
    have B3 := hide (B2.out.trans (D3.mono B2.out.size))
    have CA := hide ca3
    have lgc := ca3.lt
    have lgb := G2.out.lt
    have ngc : gc ≠ gb := by omega
    have l3 := G3.out.lt
    clear hx3 ca3 D3 hgb
    go_wp2_with fail
    go_loopw [15] (fun u15 wr => ∃ i : Nat, i ≤ n ∧ u15 = .int .i64 i ∧ ∃ f, Hid (GrpAt w3 wr gb L i f)) (fun u15 _ => n - (intOf u15).toNat)
    case atStart => exact ⟨0, Nat.zero_le _, rfl, fun _ => .slice none 0 0, hide ⟨Frm.refl _ _, G3.out, fun k _ => Own.nil _ _, fun j k _ _ _ b hb _ => by cases hb⟩⟩
    case round =>
      obtain ⟨i, hi, rfl, f, hG⟩ := hrel
      have hsz := hG.out.frm.size
      by_cases hlt : i < n
      · obtain ⟨k, hk, hcol⟩ := CR.out i hlt
        have hc1 := (hG.out.frm.cell (j := i) lgc ngc).trans (CA.out.cell (i := i) (by rw [TL.out]; exact hlt))
        rw [hcol] at hc1
        have hown := hG.out.own k hk
        obtain ⟨A4, n4, c4, e4⟩ := own_slice hown
        have hc2 := hG.out.row.cell hk
        have hfr := hG.out.row.frozen k
        have ST := hide (fun (o : Obj) (v : Value) (w7 : World) h1 h2 h3 h4 => hG.out.step l3 hk hcol (o := o) (v := v) (w7 := w7) h1 h2 h3 h4)
        rw [e4] at hc2 hown ST
        have OW := hide hown
        have NL : (grpK L (k : Int) i).length ≤ 2000000 := by have := GL.out (k : Int) i; omega
        have q1 : (0 : Int) ≤ (i : Int) := by omega
        have q2 : (i : Int) < (n : Int) := by omega
        have q3 : (0 : Int) ≤ (k : Int) := by omega
        have q4 : (k : Int) < 3 := by omega
        clear hown e4 hcol
        generalize grpK L (k : Int) i = ZS at *
        go_wp2_with (at_builtin; refine app_one rfl _ _ rfl w3.heap.size (.slice A4 n4 c4) ZS rfl (OW.out.below (by (repeat' (first | (with_reducible first | exact Below.refl _ _ | assumption | refine below_ext _ ?_ ?_ | refine Below.alloc ?_ ?_ _ | refine Below.drew ?_ | refine below_drewN ?_ _ | refine le_drewN _ ?_ | refine Below.setCell ?_ ?_ _ | exact Nat.le_refl _ | refine le_ext _ ?_ | refine le_alloc _ ?_ | refine le_setCell _ _ ?_ | refine le_drew ?_) | omega | (simp; done) | (simp; omega))))) (i : Int) _ _ rfl (by simp [go_sem]) NL (by simp; omega) ?_; intro v7 w7 hown7 hb7 hat7 hgr7; have ST7 := hide (ST.out _ v7 w7 hown7 hb7 hat7 hgr7); obtain ⟨A7, n7, c7, rfl⟩ := own_slice hown7; have R7 : Hid (RowAt w7 gb 69 3 f) := hide ((hG.out.row.below (show Below wr.heap.size wr _ from (by (repeat' (first | (with_reducible first | exact Below.refl _ _ | assumption | refine below_ext _ ?_ ?_ | refine Below.alloc ?_ ?_ _ | refine Below.drew ?_ | refine below_drewN ?_ _ | refine le_drewN _ ?_ | refine Below.setCell ?_ ?_ _ | exact Nat.le_refl _ | refine le_ext _ ?_ | refine le_alloc _ ?_ | refine le_setCell _ _ ?_ | refine le_drew ?_) | omega | (simp; done) | (simp; omega))))) hG.out.row.lt).below hb7 l3); have fr7 := R7.out.frozen k; have cl7 := R7.out.cell hk; have LT7 := hb7.size; clear hown7 hat7 hgr7 hb7)
        exact ⟨⟨i + 1, by omega, by go_num, _, hide ST7.out⟩, by simp [intOf]; omega⟩
      · have ei : i = n := by omega
        subst ei
        have SL : Hid (∀ k, ∃ x : Option Addr × Nat × Nat, k < 3 → f k = .slice x.1 x.2.1 x.2.2 ∧ Own wr w3.heap.size (.slice x.1 x.2.1 x.2.2) (grp L (k : Int))) := hide (fun k => by
          by_cases hk : k < 3
          · have ho := hG.out.own k hk
            obtain ⟨A4, n4, c4, e4⟩ := own_slice ho
            rw [GB.out k hk, e4] at ho
            exact ⟨(A4, n4, c4), fun _ => ⟨e4, ho⟩⟩
          · exact ⟨(none, 0, 0), fun h => absurd h hk⟩)
        obtain ⟨X, hX⟩ := Classical.skolem.1 SL.out
        have HX := hide hX
        have NX : Hid (∀ k, k < 3 → (X k).2.1 = (grp L (k : Int)).length ∧ (X k).2.1 ≤ i) := hide (fun k hk => by
          have h1 := (HX.out k hk).2.irow.1
          have h2 := GL.out (k : Int) i
          rw [GB.out k hk] at h2
          exact ⟨h1.symm, by omega⟩)
        have MX := hide (MF.out (fun k => (X k).1) (fun k => (X k).2.1) (fun k => (X k).2.2) gb 3 wr (fun k hk => by have := (NX.out k hk).2; omega) (fun k hk => by rw [hG.out.row.cell hk, (HX.out k hk).1]))
        have BX := hide (BE.out (fun k => (X k).2.1) (fun k => grp L (k : Int)) (fun k hk => (NX.out k hk).1) (fun k _ => rfl))
        have MB := ML.out (fun k => (X k).2.1)
        clear hX SL
        generalize mi (fun k => (X k).2.1) 2 = M at *
        have OM := hide (HX.out M (by omega)).2
        have NM := (NX.out M (by omega)).2
        rw [BX.out] at OM
        have IRM := hide OM.out.irow
        have FM := hide OM.out.form
        have CM := OM.out.ints.2.1
        have CM2 := OM.out.ints.2.2.1
        unfold maxLen at CM2
        have BW := hide (B3.out.trans (hG.out.frm.below (B := w.heap.size) wg B3.out.size))
        have s3 := B3.out.size
        clear NX HX BX BE GB GL CR ML OM hG
        generalize (X M).1 = X1 at *
        generalize (X M).2.1 = X2 at *
        generalize (X M).2.2 = X3 at *
        have CX := hide (fun W => CP.out X1 X2 X3 W CM (by omega) (fun h e => by have := FM.out.1 e; omega))
        clear CP MF FM
        go_wp2_with fail
        refine MX.out.mono ?_
        rintro e w5 ⟨rfl, hx5⟩
        have E5 := hide (ext_bel hx5)
        clear hx5 MX
        go_wp2_with fail
        refine (CX.out w5).mono ?_
        rintro e w' ⟨rfl, hw⟩
        have hw := hw.symm
        subst hw
        go_wp2_with fail
        go_ret
        exact ⟨_, _, rfl, IRM.out.1, by omega, (IRM.out.2.below E5.out).more s3, ext_mk (BW.out.trans (E5.out.mono BW.out.size))⟩
  · have hok := eq_false_of_ne_true hok
    rw [hok] at HC
    have HV : Hid (grdV ps = []) := hide (if_neg (by rw [hok]; decide))
    rw [HV.out]
    clear hok hs hn HV
    go_enter Tryz.func29, Tryz.ntmps29
    go_wp2_with fail
    refine HC.out.mono ?_
    rintro e w' ⟨rfl, hw'⟩; have hzy1 := ext_sz hw'; obtain ⟨y1, rfl⟩ := hw'; (try simp at hzy1)
    go_wp2_with fail
    go_ret
    exact ⟨_, _, rfl, rfl, by omega, IRow.nil _ _ _, (ext_mk (by (repeat' (first | (with_reducible first | exact Below.refl _ _ | assumption | refine below_ext _ ?_ ?_ | refine Below.alloc ?_ ?_ _ | refine Below.drew ?_ | refine below_drewN ?_ _ | refine le_drewN _ ?_ | refine Below.setCell ?_ ?_ _ | exact Nat.le_refl _ | refine le_ext _ ?_ | refine le_alloc _ ?_ | refine le_setCell _ _ ?_ | refine le_drew ?_) | omega | (simp; done) | (simp; omega)))))⟩
set_option maxRecDepth 20000 in
set_option maxHeartbeats 2000000 in
theorem sGds_any (ps : List Pt) (A : Option Addr) (n c : Nat) (w : World) (hn : ps.length = n) (hm : n ≤ 2000000) (hs : PtsAt w w.heap.size A ps) :
    Calls Tryz.prog 27 #[.slice A n c] w fun e w' => ∃ v, e = .returned v ∧ Own w' w.heap.size v (grdV ps) ∧ ∃ x, w' = ext w x := by
  have HC := hide (validBorder_any ps A n c w hn hm hs)
  by_cases hok : clipB ps = true
  · rw [hok] at HC
    have hck := tri_chk hok
    have HV : Hid (grdV ps = bstG (colL ((triI ps).map toN) n) 3) := hide (by unfold grdV; rw [if_pos hok, hn]; rfl)
    have TR := hide (fun (W : World) (hb : Below w.heap.size w W) => cutEars_any ps A n c W hn hok (hs.to hb))
    obtain ⟨c1, c2, c3, c4, c5⟩ := chk_tri hck
    have CO := hide (fun (Z : Option Addr) (m d : Nat) (W : World) (hlm : (triI ps).length = m) (hz : TrisAt W W.heap.size Z (triI ps)) => colorsOf_any (triI ps) Z m d n W hlm (by have := triI_len hok; omega) (by omega) (by omega) (fun j hj => by rw [← hn]; exact c1 j (by omega)) hz)
    have TC := chk_col hck
    rw [hn] at TC
    have TL : Hid ((colL ((triI ps).map toN) n).length = n) := hide (by rw [TC.len, hn])
    have k20 : n ≤ 20 := by omega
    have k3 : 3 ≤ n := by omega
    rw [HV.out]
    clear hok hck hn hs HV c1 c2 c3 c4 c5 TC
    generalize triI ps = TS at *
    generalize colL (TS.map toN) n = L at *
    have GL : Hid (∀ k : Int, ∀ i, (grpK L k i).length ≤ i) := hide (fun k i => grpK_len L k i)
    have GB : Hid (∀ k : Int, grpK L k n = grp L k) := hide (fun k => by unfold grp; rw [TL.out])
    have BN := hide (bstG_next L)
    go_enter Tryz.func27, Tryz.ntmps27
    go_wp2_with fail
    refine HC.out.mono ?_
    rintro e w' ⟨rfl, hw'⟩; have hzy1 := ext_sz hw'; obtain ⟨y1, rfl⟩ := hw'; (try simp at hzy1)
    go_wp2_with fail
    refine (TR.out _ (by (repeat' (first | (with_reducible first | exact Below.refl _ _ | assumption | refine below_ext _ ?_ ?_ | refine Below.alloc ?_ ?_ _ | refine Below.drew ?_ | refine below_drewN ?_ _ | refine le_drewN _ ?_ | refine Below.setCell ?_ ?_ _ | exact Nat.le_refl _ | refine le_ext _ ?_ | refine le_alloc _ ?_ | refine le_setCell _ _ ?_ | refine le_drew ?_) | omega | (simp; done) | (simp; omega))))).mono ?_
    rintro e w2 ⟨v2, rfl, own2, hx2⟩
    obtain ⟨A2, n2, c2, rfl⟩ := own2.slice
    have R2 := hide own2.tris
    have D2 := ext_bel hx2
    have B2 := hide ((show Below w.heap.size w _ from (by (repeat' (first | (with_reducible first | exact Below.refl _ _ | assumption | refine below_ext _ ?_ ?_ | refine Below.alloc ?_ ?_ _ | refine Below.drew ?_ | refine below_drewN ?_ _ | refine le_drewN _ ?_ | refine Below.setCell ?_ ?_ _ | exact Nat.le_refl _ | refine le_ext _ ?_ | refine le_alloc _ ?_ | refine le_setCell _ _ ?_ | refine le_drew ?_) | omega | (simp; done) | (simp; omega))))).trans (D2.mono (show w.heap.size ≤ _ by omega)))
    clear own2 hx2 D2
    go_wp2_with fail
    refine (CO.out A2 n2 c2 w2 R2.out.1 R2.out.2.2.2).mono ?_
    rintro e w3 ⟨v3, rfl, own3, hx3⟩
    obtain ⟨A3, n3, c3, rfl⟩ := own_slice own3
    have D3 := ext_bel hx3
    have B3 := hide (B2.out.trans (D3.mono B2.out.size))
    have l3 : n3 = n := by rw [← own3.ints.1]; exact TL.out
    subst l3
    have R3 := hide own3.ints.2.2.2
    have LE := hide (fun i (h : i < n3) => (show i < L.length by rw [TL.out]; exact h))
    clear hx3 own3 D3 R2
    obtain ⟨b, o, rfl, hb, hcs⟩ := R3.out (by rw [TL.out]; omega)
    have CEL : Hid (∀ i, i < n3 → w3.cell? ⟨b, o + i, none⟩ = some (.int .i64 (gi L i))) := hide (fun i hi => hcs i (LE.out i hi))
    clear R3 hcs LE TL CO TR
    go_wp2_with fail
    go_loopw [4, 5, 6, 7] (fun u4 u5 _ _ wr => ∃ k : Nat, k ≤ 3 ∧ u5 = .int .i64 k ∧ Own wr w3.heap.size u4 (bstG L k) ∧ Below w3.heap.size w3 wr) (fun _ u5 _ _ _ => 3 - (intOf u5).toNat)
    case atStart => exact ⟨0, by omega, rfl, (Own.empty w3 _ (Nat.le_refl _)), (by (repeat' (first | (with_reducible first | exact Below.refl _ _ | assumption | refine below_ext _ ?_ ?_ | refine Below.alloc ?_ ?_ _ | refine Below.drew ?_ | refine below_drewN ?_ _ | refine le_drewN _ ?_ | refine Below.setCell ?_ ?_ _ | exact Nat.le_refl _ | refine le_ext _ ?_ | refine le_alloc _ ?_ | refine le_setCell _ _ ?_ | refine le_drew ?_) | omega | (simp; done) | (simp; omega))))⟩
    case round =>
      obtain ⟨k, hk, rfl, hown, hbel⟩ := hrel
      obtain ⟨A4, n4, c4, rfl⟩ := own_slice hown
      obtain ⟨W0, hW0⟩ : ∃ W0, W0 = wr := ⟨_, rfl⟩
      subst hW0
      have L4 := hide hown.ints.1
      have OW := hide hown
      have hsz := hbel.size
      by_cases hlt : k < 3
      · have d3 : decide ((k : Int) < 3) = true := decide_eq_true (by omega)
        have NXT := hide (BN.out k)
        have GBk := hide (GB.out (k : Int))
        have CELk : Hid (∀ (W : World) i, Below W0.heap.size W0 W → i < n3 → W.cell? ⟨b, o + i, none⟩ = some (.int .i64 (gi L i))) := hide (fun W i hB hi => ((hbel.trans (hB.mono hsz)).cell (p := ⟨b, o + i, none⟩) hb).trans (CEL.out i hi))
        have EMP := hide (Own.empty W0 W0.heap.size (Nat.le_refl _))
        clear hown CEL BN GB
        go_wp2_with fail
        go_loopw [6, 7] (fun u6 u7 wr => ∃ i : Nat, i ≤ n3 ∧ u7 = .int .i64 i ∧ Own wr W0.heap.size u6 (grpK L (k : Int) i) ∧ Below W0.heap.size W0 wr) (fun _ u7 _ => n3 - (intOf u7).toNat)
        case atStart => exact ⟨0, Nat.zero_le _, rfl, EMP.out, (by (repeat' (first | (with_reducible first | exact Below.refl _ _ | assumption | refine below_ext _ ?_ ?_ | refine Below.alloc ?_ ?_ _ | refine Below.drew ?_ | refine below_drewN ?_ _ | refine le_drewN _ ?_ | refine Below.setCell ?_ ?_ _ | exact Nat.le_refl _ | refine le_ext _ ?_ | refine le_alloc _ ?_ | refine le_setCell _ _ ?_ | refine le_drew ?_) | omega | (simp; done) | (simp; omega))))⟩
        case round =>
          obtain ⟨i, hi, rfl, hown6, hbel2⟩ := hrel
          obtain ⟨A6, n6, c6, rfl⟩ := own_slice hown6
          have hsz2 := hbel2.size
          have O6 := hide hown6
          have L6 := hide hown6.ints.1
          by_cases hli : i < n3
          · have hc1 := CELk.out wr i hbel2 hli
            have NL : (grpK L (k : Int) i).length ≤ 2000000 := by have := GL.out (k : Int) i; omega
            have q1 : (0 : Int) ≤ (i : Int) := by omega
            have q2 : (i : Int) < (n3 : Int) := by omega
            have YE := hide (grpK_yes (cs := L) (k := (k : Int)) (i := i))
            have NO := hide (grpK_no (cs := L) (k := (k : Int)) (i := i))
            clear hown6 L6
            by_cases hg : gi L i = (k : Int)
            · have dg : (gi L i == (k : Int)) = true := by rw [hg]; exact beq_self_eq_true _
              have NX := hide (YE.out hg)
              clear YE NO hg
              generalize gi L i = GI at *
              generalize grpK L (k : Int) i = ZS at *
              go_wp2_with (at_builtin; refine app_one rfl _ _ rfl W0.heap.size (.slice A6 n6 c6) ZS rfl (O6.out.below (by (repeat' (first | (with_reducible first | exact Below.refl _ _ | assumption | refine below_ext _ ?_ ?_ | refine Below.alloc ?_ ?_ _ | refine Below.drew ?_ | refine below_drewN ?_ _ | refine le_drewN _ ?_ | refine Below.setCell ?_ ?_ _ | exact Nat.le_refl _ | refine le_ext _ ?_ | refine le_alloc _ ?_ | refine le_setCell _ _ ?_ | refine le_drew ?_) | omega | (simp; done) | (simp; omega))))) (i : Int) _ _ rfl (by simp [go_sem]) NL (by simp; omega) ?_; intro v7 w7 hown7 hb7 hat7 hgr7; obtain ⟨A7, n7, c7, rfl⟩ := own_slice hown7; have O7 := hide hown7; have B7 := hide (Below.trans (Below.mono (show Below wr.heap.size wr _ from (by (repeat' (first | (with_reducible first | exact Below.refl _ _ | assumption | refine below_ext _ ?_ ?_ | refine Below.alloc ?_ ?_ _ | refine Below.drew ?_ | refine below_drewN ?_ _ | refine le_drewN _ ?_ | refine Below.setCell ?_ ?_ _ | exact Nat.le_refl _ | refine le_ext _ ?_ | refine le_alloc _ ?_ | refine le_setCell _ _ ?_ | refine le_drew ?_) | omega | (simp; done) | (simp; omega))))) hsz2) hb7); clear hown7 hat7 hgr7 hb7)
              exact ⟨⟨i + 1, by omega, by go_num, by rw [NX.out]; exact O7.out, hbel2.trans B7.out⟩, by simp [intOf]; omega⟩
            · have dg : (gi L i == (k : Int)) = false := by rw [beq_eq_false_iff_ne]; exact hg
              have NX := hide (NO.out hg)
              clear YE NO hg
              generalize gi L i = GI at *
              go_wp2_with fail
              exact ⟨⟨i + 1, by omega, by go_num, by rw [NX.out]; exact O6.out, hbel2⟩, by simp [intOf]; omega⟩
          · have ei : i = n3 := by omega
            subst ei
            rw [GBk.out] at L6 O6
            have BB := hide (hbel.trans (hbel2.mono hsz))
            clear hown6 CELk GL
            by_cases hz : k = 0
            · have dz : ((k : Int) == 0) = true := by rw [hz]; rfl
              rw [if_pos (Or.inl hz)] at NXT
              clear hz
              go_wp2_with fail
              exact ⟨⟨k + 1, by omega, by go_num, by rw [NXT.out]; exact O6.out.base hsz, BB.out⟩, by simp [intOf]; omega⟩
            · have dz : ((k : Int) == 0) = false := by rw [beq_eq_false_iff_ne]; omega
              by_cases hl : n6 < n4
              · have dl : decide ((n6 : Int) < (n4 : Int)) = true := decide_eq_true (by omega)
                rw [if_pos (Or.inr (by rw [L6.out, L4.out]; exact hl))] at NXT
                clear hz
                go_wp2_with fail
                exact ⟨⟨k + 1, by omega, by go_num, by rw [NXT.out]; exact O6.out.base hsz, BB.out⟩, by simp [intOf]; omega⟩
              · have dl : decide ((n6 : Int) < (n4 : Int)) = false := decide_eq_false (by omega)
                rw [if_neg (by rw [L6.out, L4.out]; omega)] at NXT
                clear hz
                go_wp2_with fail
                exact ⟨⟨k + 1, by omega, by go_num, by rw [NXT.out]; exact OW.out.below hbel2, BB.out⟩, by simp [intOf]; omega⟩
      · have ek : k = 3 := by omega
        have d3 : decide ((k : Int) < 3) = false := decide_eq_false (by omega)
        have OF : Hid (Own W0 w.heap.size (.slice A4 n4 c4) (bstG L 3)) := hide (by rw [← ek]; exact OW.out.base B3.out.size)
        clear ek hown
        go_wp2_with fail
        go_ret
        exact ⟨_, rfl, OF.out, ext_mk (B3.out.trans (hbel.mono B3.out.size))⟩
  · have hok := eq_false_of_ne_true hok
    rw [hok] at HC
    have HV : Hid (grdV ps = []) := hide (if_neg (by rw [hok]; decide))
    rw [HV.out]
    clear hok hs hn HV
    go_enter Tryz.func27, Tryz.ntmps27
    go_wp2_with fail
    refine HC.out.mono ?_
    rintro e w' ⟨rfl, hw'⟩; have hzy1 := ext_sz hw'; obtain ⟨y1, rfl⟩ := hw'; (try simp at hzy1)
    go_wp2_with fail
    go_ret
    exact ⟨_, rfl, Own.nil _ _, (ext_mk (by (repeat' (first | (with_reducible first | exact Below.refl _ _ | assumption | refine below_ext _ ?_ ?_ | refine Below.alloc ?_ ?_ _ | refine Below.drew ?_ | refine below_drewN ?_ _ | refine le_drewN _ ?_ | refine Below.setCell ?_ ?_ _ | exact Nat.le_refl _ | refine le_ext _ ?_ | refine le_alloc _ ?_ | refine le_setCell _ _ ?_ | refine le_drew ?_) | omega | (simp; done) | (simp; omega)))))⟩
theorem grdV_len (ps : List Pt) : (grdV ps).length ≤ 1000 := by
  have h := grdV_third ps
  unfold grdV at h ⊢
  split
  · rename_i hok
    rw [if_pos hok] at h
    obtain ⟨_, _, h20, _⟩ := simB_parts (clipB_sim hok)
    omega
  · simp
end Go.Proofs.YtkkmioffclpmfaaGreat
