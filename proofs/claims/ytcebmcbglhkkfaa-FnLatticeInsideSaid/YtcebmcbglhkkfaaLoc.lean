
/- Where a point lies of a simple polygon: the program's. -/
import Derived.Test.YtcebmcbglhkkfaaConv
import Derived.Test.YtcebmcbglhkkfaaCanD
import Derived.Test.YtcebmcbglhkkfaaPoly
import Derived.Test.YtcebmcbglhkkfaaHas
import Derived.Test.YtcebmcbglhkkfaaCanM
set_option linter.unusedVariables false
set_option linter.unusedSimpArgs false
namespace Go.Proofs.Ytcebmcbglhkkfaa
open Go.RowKit

theorem cwTo_succ (ps : List Pt) (q : Pt) (k : Nat) : cwTo ps q (k + 1) = cwTo ps q k + cw (gp ps k) (gp ps ((k + 1) % ps.length)) q := rfl
theorem inK_same {ps : List Pt} {q : Pt} {k : Nat} (h : cw (gp ps k) (gp ps ((k + 1) % ps.length)) q = 0) : inK ps q (k + 1) = inK ps q k := by
  unfold inK; rw [cwTo_succ, h, Int.add_zero]
theorem inK_flip {ps : List Pt} {q : Pt} {k : Nat} (h : cw (gp ps k) (gp ps ((k + 1) % ps.length)) q ≠ 0) : inK ps q (k + 1) = -inK ps q k := by
  unfold inK; rw [cwTo_succ]
  have : cw (gp ps k) (gp ps ((k + 1) % ps.length)) q = 1 ∨ cw (gp ps k) (gp ps ((k + 1) % ps.length)) q = -1 := by
    rcases cw_cases (gp ps k) (gp ps ((k + 1) % ps.length)) q with ⟨_, e⟩ | ⟨_, e⟩ | ⟨_, _, e⟩
    · exact .inl e
    · exact .inr e
    · exact absurd e h
  split <;> split <;> omega
/-- The test of an edge, its lower end first. -/
theorem cw_up_ne {a b q : Pt} (h : ¬ b.y < a.y) : cw a b q ≠ 0 ↔ (a.y ≤ q.y ∧ q.y < b.y ∧ 0 < trn a b q) := by
  rcases cw_cases a b q with ⟨c, e⟩ | ⟨c, e⟩ | ⟨c, _, e⟩ <;> rw [e]
  · simp [c]
  · omega
  · simp; intro h1 h2; have := fun h3 => c ⟨h1, h2, h3⟩; omega
theorem cw_dn_ne {a b q : Pt} (h : b.y < a.y) : cw a b q ≠ 0 ↔ (b.y ≤ q.y ∧ q.y < a.y ∧ 0 < trn b a q) := by
  have f := trn_flip a b q
  rcases cw_cases a b q with ⟨c, e⟩ | ⟨c, e⟩ | ⟨_, c, e⟩ <;> rw [e]
  · omega
  · have : 0 < trn b a q := by omega
    simp [c, this]
  · simp; intro h1 h2; have := fun h3 => c ⟨h1, h2, h3⟩; omega
theorem locI_on {ps : List Pt} {q : Pt} {j : Nat} (hj : j < ps.length) (h : onSeg (gp ps j) (gp ps ((j + 1) % ps.length)) q = true) : locI ps q = 0 := by
  have : onAny ps q = true := by
    unfold onAny
    rw [List.any_eq_true]
    exact ⟨j, List.mem_range.2 hj, h⟩
  unfold locI
  rw [this]; rfl
theorem locI_in {ps : List Pt} {q : Pt} (h : ∀ j, j < ps.length → onSeg (gp ps j) (gp ps ((j + 1) % ps.length)) q = false) : locI ps q = inK ps q ps.length := by
  unfold locI; rw [onAny_no.2 h]; rfl
theorem inK_bd (ps : List Pt) (q : Pt) (k : Nat) : -1 ≤ inK ps q k ∧ inK ps q k ≤ 1 := by unfold inK; split <;> omega
set_option maxHeartbeats 4000000 in
theorem locate_any (ps : List Pt) (x y : Int) (A : Option Addr) (n c : Nat) (w : World) (hn : ps.length = n) (hm : n ≤ 1000) (hib : ∀ p ∈ ps, (-100000 ≤ p.x ∧ p.x ≤ 100000) ∧ (-100000 ≤ p.y ∧ p.y ≤ 100000)) (hq : (-100000 ≤ x ∧ x ≤ 100000) ∧ -100000 ≤ y ∧ y ≤ 100000) (hs : PtsAt w w.heap.size A ps) :
    Calls Try.prog 41 #[.slice A n c, .agg #[.int .i64 x, .int .i64 y]] w fun e w' => e = .returned (.int .i64 (locI ps ⟨x, y⟩)) ∧ ∃ x, w' = ext w x := by
  have HE := hide (fun (W : World) (hb : Below w.heap.size w W) => edges_any ps A n c W hn (by omega) (hs.to hb))
  have HN := hide hn
  have BI : Hid (∀ i, i < n → (-100000 ≤ (gp ps i).x ∧ (gp ps i).x ≤ 100000) ∧ (-100000 ≤ (gp ps i).y ∧ (gp ps i).y ≤ 100000)) := hide (fun i hi => hib _ (gp_mem (by omega)))
  have L0 : Hid (∀ i, i < n → onSeg (gp ps i) (gp ps ((i + 1) % n)) ⟨x, y⟩ = true → locI ps ⟨x, y⟩ = 0) := hide (fun i hi h => locI_on (j := i) (by omega) (by rw [hn]; exact h))
  have L1 : Hid ((∀ i, i < n → onSeg (gp ps i) (gp ps ((i + 1) % n)) ⟨x, y⟩ = false) → locI ps ⟨x, y⟩ = inK ps ⟨x, y⟩ n) := hide (fun h => by rw [locI_in (fun j hj => by rw [hn]; exact h j (by omega)), hn])
  have UP : Hid (∀ i, ¬ (gp ps ((i + 1) % n)).y < (gp ps i).y → inK ps ⟨x, y⟩ (i + 1) = if (gp ps i).y ≤ y ∧ y < (gp ps ((i + 1) % n)).y ∧ 0 < trn (gp ps i) (gp ps ((i + 1) % n)) ⟨x, y⟩ then -inK ps ⟨x, y⟩ i else inK ps ⟨x, y⟩ i) := hide (fun i h => by
    have := cw_up_ne (q := ⟨x, y⟩) h
    subst hn
    split
    · rename_i hc; exact inK_flip (this.2 hc)
    · rename_i hc; exact inK_same (Classical.byContradiction fun hh => hc (this.1 hh)))
  have DN : Hid (∀ i, (gp ps ((i + 1) % n)).y < (gp ps i).y → inK ps ⟨x, y⟩ (i + 1) = if (gp ps ((i + 1) % n)).y ≤ y ∧ y < (gp ps i).y ∧ 0 < trn (gp ps ((i + 1) % n)) (gp ps i) ⟨x, y⟩ then -inK ps ⟨x, y⟩ i else inK ps ⟨x, y⟩ i) := hide (fun i h => by
    have := cw_dn_ne (q := ⟨x, y⟩) h
    subst hn
    split
    · rename_i hc; exact inK_flip (this.2 hc)
    · rename_i hc; exact inK_same (Classical.byContradiction fun hh => hc (this.1 hh)))
  have IB := hide (inK_bd ps ⟨x, y⟩)
  have I0 : Hid (inK ps ⟨x, y⟩ 0 = -1) := hide rfl
  clear hn hs hib
  go_enter Try.func41, Try.ntmps41
  go_wp2_with fail
  refine (HE.out _ (by (repeat' (first | (with_reducible first | exact Below.refl _ _ | assumption | refine below_ext _ ?_ ?_ | refine Below.alloc ?_ ?_ _ | refine Below.drew ?_ | refine below_drewN ?_ _ | refine le_drewN _ ?_ | refine Below.setCell ?_ ?_ _ | exact Nat.le_refl _ | refine le_ext _ ?_ | refine le_alloc _ ?_ | refine le_setCell _ _ ?_ | refine le_drew ?_) | omega | (simp; done) | (simp; omega))))).mono ?_
  rintro e w5 ⟨v5, rfl, hown5, x5, rfl⟩
  obtain ⟨A5, n5, c5, rfl⟩ := hown5.slice
  have l5 := hown5.segs.1
  have e5 : n = n5 := by have := HN.out; rw [edgesL_len] at l5; omega
  subst e5
  have SG := hide hown5.segs.2.2.2
  clear hown5 l5
  have B5 := hide (show Below w.heap.size w (ext (w.alloc (.cells #[.int .i64 x, .int .i64 y] 31)) x5) from (by (repeat' (first | (with_reducible first | exact Below.refl _ _ | assumption | refine below_ext _ ?_ ?_ | refine Below.alloc ?_ ?_ _ | refine Below.drew ?_ | refine below_drewN ?_ _ | refine le_drewN _ ?_ | refine Below.setCell ?_ ?_ _ | exact Nat.le_refl _ | refine le_ext _ ?_ | refine le_alloc _ ?_ | refine le_setCell _ _ ?_ | refine le_drew ?_) | omega | (simp; done) | (simp; omega)))))
  have BX := hide ((Below.block (show Below (w.alloc (.cells #[.int .i64 x, .int .i64 y] 31)).heap.size (w.alloc (.cells #[.int .i64 x, .int .i64 y] 31)) (ext (w.alloc (.cells #[.int .i64 x, .int .i64 y] 31)) x5) from (by (repeat' (first | (with_reducible first | exact Below.refl _ _ | assumption | refine below_ext _ ?_ ?_ | refine Below.alloc ?_ ?_ _ | refine Below.drew ?_ | refine below_drewN ?_ _ | refine le_drewN _ ?_ | refine Below.setCell ?_ ?_ _ | exact Nat.le_refl _ | refine le_ext _ ?_ | refine le_alloc _ ?_ | refine le_setCell _ _ ?_ | refine le_drew ?_) | omega | (simp; done) | (simp; omega))))) w.heap.size (by simp)).trans (heap_alloc_new w (.cells #[.int .i64 x, .int .i64 y] 31)))
  have hwb : w.heap.size + 1 ≤ (ext (w.alloc (.cells #[.int .i64 x, .int .i64 y] 31)) x5).heap.size := Nat.le_trans (by simp) (ext_size _ x5)
  generalize ext (w.alloc (.cells #[.int .i64 x, .int .i64 y] 31)) x5 = W5 at *
  have CS : Hid (0 < n → ∃ b o, A5 = some ⟨b, o, none⟩ ∧ b < W5.heap.size ∧ ∀ i, i < n → W5.cell? ⟨b, o + i * 4, none⟩ = some (.int .i64 (gp ps i).x) ∧ W5.cell? ⟨b, o + i * 4 + 1, none⟩ = some (.int .i64 (gp ps i).y) ∧ W5.cell? ⟨b, o + i * 4 + 2, none⟩ = some (.int .i64 (gp ps ((i + 1) % n)).x) ∧ W5.cell? ⟨b, o + i * 4 + 3, none⟩ = some (.int .i64 (gp ps ((i + 1) % n)).y)) := hide (fun h0 => by
    obtain ⟨b5, o5, hA, hb5, hcs5⟩ := SG.out (by rw [edgesL_len, HN.out]; exact h0)
    refine ⟨b5, o5, hA, hb5, fun i hi => ?_⟩
    have := hcs5 i (by rw [edgesL_len, HN.out]; exact hi)
    rw [edgesL_at (by rw [HN.out]; exact hi)] at this
    unfold edgeAt at this
    rw [HN.out] at this
    exact this)
  clear SG
  rw [← I0.out]
  go_wp2_with fail
  go_loopw [5, 13] (fun u5 u13 wr => ∃ i : Nat, i ≤ n ∧ u13 = .int .i64 i ∧ u5 = .int .i64 (inK ps ⟨x, y⟩ i) ∧ Hid (∀ j, j < i → onSeg (gp ps j) (gp ps ((j + 1) % n)) ⟨x, y⟩ = false) ∧ Below W5.heap.size W5 wr) (fun _ u13 _ => n - (intOf u13).toNat)
  case atStart => exact ⟨0, Nat.zero_le _, rfl, rfl, hide (fun j hj => by omega), Below.refl _ _⟩
  case round =>
    obtain ⟨i, hi, rfl, rfl, HF, hbel⟩ := hrel
    have hsz := hbel.size
    have bx := (hbel.block w.heap.size (by omega)).trans BX.out
    have x0 := heap_cell bx 0
    have x1 := heap_cell bx 1
    simp at x0 x1
    clear bx
    by_cases hlt : i < n
    · obtain ⟨b5, o5, rfl, hb5, cs5⟩ := CS.out (by omega)
      obtain ⟨c1, c2, c3, c4⟩ := cs5 i hlt
      have g1 := (hbel.cell (p := ⟨b5, o5 + i * 4, none⟩) hb5).trans c1
      have g2 := (hbel.cell (p := ⟨b5, o5 + i * 4 + 1, none⟩) hb5).trans c2
      have g3 := (hbel.cell (p := ⟨b5, o5 + i * 4 + 2, none⟩) hb5).trans c3
      have g4 := (hbel.cell (p := ⟨b5, o5 + i * 4 + 3, none⟩) hb5).trans c4
      clear c1 c2 c3 c4 cs5
      have hil : (i + 1) % n < n := Nat.mod_lt _ (by omega)
      obtain ⟨⟨p1, p2⟩, p3, p4⟩ := BI.out i hlt
      obtain ⟨⟨p5, p6⟩, p7, p8⟩ := BI.out _ hil
      have ib := IB.out i
      have UPi := hide (UP.out i)
      have DNi := hide (DN.out i)
      have LZ := hide (L0.out i hlt)
      have NF : Hid (onSeg (gp ps i) (gp ps ((i + 1) % n)) ⟨x, y⟩ = false → ∀ j, j < i + 1 → onSeg (gp ps j) (gp ps ((j + 1) % n)) ⟨x, y⟩ = false) := hide (fun h j hj => by
        by_cases e : j = i
        · rw [e]; exact h
        · exact HF.out j (by omega))
      have HA := hide (fun W => has_any (gp ps i).x (gp ps i).y (gp ps ((i + 1) % n)).x (gp ps ((i + 1) % n)).y x y W (by omega) (by omega) (by omega) (by omega) (by omega) (by omega))
      have TU := hide (fun W => turn_any (gp ps i).x (gp ps i).y (gp ps ((i + 1) % n)).x (gp ps ((i + 1) % n)).y x y W ⟨p1, p2⟩ ⟨p3, p4⟩ ⟨p5, p6⟩ ⟨p7, p8⟩ (by omega) (by omega))
      have TU2 := hide (fun W => turn_any (gp ps ((i + 1) % n)).x (gp ps ((i + 1) % n)).y (gp ps i).x (gp ps i).y x y W ⟨p5, p6⟩ ⟨p7, p8⟩ ⟨p1, p2⟩ ⟨p3, p4⟩ (by omega) (by omega))
      have TV : Hid (((gp ps ((i + 1) % n)).x - (gp ps i).x) * (y - (gp ps i).y) - ((gp ps ((i + 1) % n)).y - (gp ps i).y) * (x - (gp ps i).x) = trn (gp ps i) (gp ps ((i + 1) % n)) ⟨x, y⟩) := hide rfl
      have TV2 : Hid (((gp ps i).x - (gp ps ((i + 1) % n)).x) * (y - (gp ps ((i + 1) % n)).y) - ((gp ps i).y - (gp ps ((i + 1) % n)).y) * (x - (gp ps ((i + 1) % n)).x) = trn (gp ps ((i + 1) % n)) (gp ps i) ⟨x, y⟩) := hide rfl
      have PE1 : Hid (onSeg ⟨(gp ps i).x, (gp ps i).y⟩ ⟨(gp ps ((i + 1) % n)).x, (gp ps ((i + 1) % n)).y⟩ ⟨x, y⟩ = onSeg (gp ps i) (gp ps ((i + 1) % n)) ⟨x, y⟩) := hide rfl
      rw [TV.out] at TU
      rw [TV2.out] at TU2
      rw [PE1.out] at HA
      clear hil p1 p2 p3 p4 p5 p6 p7 p8 TV TV2 PE1
      generalize trn (gp ps i) (gp ps ((i + 1) % n)) ⟨x, y⟩ = T at *
      generalize trn (gp ps ((i + 1) % n)) (gp ps i) ⟨x, y⟩ = T2 at *
      generalize onSeg (gp ps i) (gp ps ((i + 1) % n)) ⟨x, y⟩ = ON at *
      generalize (gp ps i).x = X1 at *
      generalize (gp ps i).y = Y1 at *
      generalize (gp ps ((i + 1) % n)).x = X2 at *
      generalize (gp ps ((i + 1) % n)).y = Y2 at *
      generalize inK ps ⟨x, y⟩ i = LV at *
      go_wp2_with fail
      refine (HA.out _).mono ?_
      rintro e w' ⟨rfl, hw'⟩; have hzy8 := ext_sz hw'; obtain ⟨y8, rfl⟩ := hw'; (try simp at hzy8)
      cases hON : ON
      · subst hON
        have NFo := hide (NF.out rfl)
        clear NF LZ HA
        by_cases hY : Y2 < Y1
        · have dY : decide (Y2 < Y1) = true := decide_eq_true hY
          have DNo := DNi.out hY
          clear DNi UPi UP DN TU hY
          by_cases k1 : Y2 ≤ y
          · have d1 : decide (Y2 ≤ y) = true := decide_eq_true k1
            by_cases k2 : y < Y1
            · have d2 : decide (y < Y1) = true := decide_eq_true k2
              by_cases k3 : 0 < T2
              · have d3 : decide (0 < T2) = true := decide_eq_true k3
                rw [if_pos ⟨k1, k2, k3⟩] at DNo
                have DNo := hide DNo
                clear k1 k2 k3
                go_wp2_with fail
                go_region
                all_goals go_wp2_with fail
                all_goals refine (TU2.out _).mono ?_
                all_goals (rintro e w' ⟨rfl, hw'⟩; have hzy9 := ext_sz hw'; obtain ⟨y9, rfl⟩ := hw'; (try simp at hzy9))
                all_goals go_wp2_with fail
                all_goals exact ⟨⟨i + 1, by omega, by go_num, by rw [DNo.out], hide NFo.out, hbel.trans (by (repeat' (first | (with_reducible first | exact Below.refl _ _ | assumption | refine below_ext _ ?_ ?_ | refine Below.alloc ?_ ?_ _ | refine Below.drew ?_ | refine below_drewN ?_ _ | refine le_drewN _ ?_ | refine Below.setCell ?_ ?_ _ | exact Nat.le_refl _ | refine le_ext _ ?_ | refine le_alloc _ ?_ | refine le_setCell _ _ ?_ | refine le_drew ?_) | omega | (simp; done) | (simp; omega))))⟩, by simp [intOf]; omega⟩
              · have d3 : decide (0 < T2) = false := decide_eq_false k3
                rw [if_neg (fun h => k3 h.2.2)] at DNo
                have DNo := hide DNo
                clear k1 k2 k3
                go_wp2_with fail
                go_region
                all_goals go_wp2_with fail
                all_goals refine (TU2.out _).mono ?_
                all_goals (rintro e w' ⟨rfl, hw'⟩; have hzy9 := ext_sz hw'; obtain ⟨y9, rfl⟩ := hw'; (try simp at hzy9))
                all_goals go_wp2_with fail
                all_goals exact ⟨⟨i + 1, by omega, by go_num, by rw [DNo.out], hide NFo.out, hbel.trans (by (repeat' (first | (with_reducible first | exact Below.refl _ _ | assumption | refine below_ext _ ?_ ?_ | refine Below.alloc ?_ ?_ _ | refine Below.drew ?_ | refine below_drewN ?_ _ | refine le_drewN _ ?_ | refine Below.setCell ?_ ?_ _ | exact Nat.le_refl _ | refine le_ext _ ?_ | refine le_alloc _ ?_ | refine le_setCell _ _ ?_ | refine le_drew ?_) | omega | (simp; done) | (simp; omega))))⟩, by simp [intOf]; omega⟩
            · have d2 : decide (y < Y1) = false := decide_eq_false k2
              rw [if_neg (fun h => k2 h.2.1)] at DNo
              have DNo := hide DNo
              clear k1 k2
              go_wp2_with fail
              go_region
              all_goals go_wp2_with fail
              all_goals exact ⟨⟨i + 1, by omega, by go_num, by rw [DNo.out], hide NFo.out, hbel.trans (by (repeat' (first | (with_reducible first | exact Below.refl _ _ | assumption | refine below_ext _ ?_ ?_ | refine Below.alloc ?_ ?_ _ | refine Below.drew ?_ | refine below_drewN ?_ _ | refine le_drewN _ ?_ | refine Below.setCell ?_ ?_ _ | exact Nat.le_refl _ | refine le_ext _ ?_ | refine le_alloc _ ?_ | refine le_setCell _ _ ?_ | refine le_drew ?_) | omega | (simp; done) | (simp; omega))))⟩, by simp [intOf]; omega⟩
          · have d1 : decide (Y2 ≤ y) = false := decide_eq_false k1
            rw [if_neg (fun h => k1 h.1)] at DNo
            have DNo := hide DNo
            clear k1
            go_wp2_with fail
            go_region
            all_goals go_wp2_with fail
            all_goals exact ⟨⟨i + 1, by omega, by go_num, by rw [DNo.out], hide NFo.out, hbel.trans (by (repeat' (first | (with_reducible first | exact Below.refl _ _ | assumption | refine below_ext _ ?_ ?_ | refine Below.alloc ?_ ?_ _ | refine Below.drew ?_ | refine below_drewN ?_ _ | refine le_drewN _ ?_ | refine Below.setCell ?_ ?_ _ | exact Nat.le_refl _ | refine le_ext _ ?_ | refine le_alloc _ ?_ | refine le_setCell _ _ ?_ | refine le_drew ?_) | omega | (simp; done) | (simp; omega))))⟩, by simp [intOf]; omega⟩
        · have dY : decide (Y2 < Y1) = false := decide_eq_false hY
          have UPo := UPi.out (by omega)
          clear DNi UPi UP DN TU2 hY
          by_cases k1 : Y1 ≤ y
          · have d1 : decide (Y1 ≤ y) = true := decide_eq_true k1
            by_cases k2 : y < Y2
            · have d2 : decide (y < Y2) = true := decide_eq_true k2
              by_cases k3 : 0 < T
              · have d3 : decide (0 < T) = true := decide_eq_true k3
                rw [if_pos ⟨k1, k2, k3⟩] at UPo
                have UPo := hide UPo
                clear k1 k2 k3
                go_wp2_with fail
                go_region
                all_goals go_wp2_with fail
                all_goals refine (TU.out _).mono ?_
                all_goals (rintro e w' ⟨rfl, hw'⟩; have hzy9 := ext_sz hw'; obtain ⟨y9, rfl⟩ := hw'; (try simp at hzy9))
                all_goals go_wp2_with fail
                all_goals exact ⟨⟨i + 1, by omega, by go_num, by rw [UPo.out], hide NFo.out, hbel.trans (by (repeat' (first | (with_reducible first | exact Below.refl _ _ | assumption | refine below_ext _ ?_ ?_ | refine Below.alloc ?_ ?_ _ | refine Below.drew ?_ | refine below_drewN ?_ _ | refine le_drewN _ ?_ | refine Below.setCell ?_ ?_ _ | exact Nat.le_refl _ | refine le_ext _ ?_ | refine le_alloc _ ?_ | refine le_setCell _ _ ?_ | refine le_drew ?_) | omega | (simp; done) | (simp; omega))))⟩, by simp [intOf]; omega⟩
              · have d3 : decide (0 < T) = false := decide_eq_false k3
                rw [if_neg (fun h => k3 h.2.2)] at UPo
                have UPo := hide UPo
                clear k1 k2 k3
                go_wp2_with fail
                go_region
                all_goals go_wp2_with fail
                all_goals refine (TU.out _).mono ?_
                all_goals (rintro e w' ⟨rfl, hw'⟩; have hzy9 := ext_sz hw'; obtain ⟨y9, rfl⟩ := hw'; (try simp at hzy9))
                all_goals go_wp2_with fail
                all_goals exact ⟨⟨i + 1, by omega, by go_num, by rw [UPo.out], hide NFo.out, hbel.trans (by (repeat' (first | (with_reducible first | exact Below.refl _ _ | assumption | refine below_ext _ ?_ ?_ | refine Below.alloc ?_ ?_ _ | refine Below.drew ?_ | refine below_drewN ?_ _ | refine le_drewN _ ?_ | refine Below.setCell ?_ ?_ _ | exact Nat.le_refl _ | refine le_ext _ ?_ | refine le_alloc _ ?_ | refine le_setCell _ _ ?_ | refine le_drew ?_) | omega | (simp; done) | (simp; omega))))⟩, by simp [intOf]; omega⟩
            · have d2 : decide (y < Y2) = false := decide_eq_false k2
              rw [if_neg (fun h => k2 h.2.1)] at UPo
              have UPo := hide UPo
              clear k1 k2
              go_wp2_with fail
              go_region
              all_goals go_wp2_with fail
              all_goals exact ⟨⟨i + 1, by omega, by go_num, by rw [UPo.out], hide NFo.out, hbel.trans (by (repeat' (first | (with_reducible first | exact Below.refl _ _ | assumption | refine below_ext _ ?_ ?_ | refine Below.alloc ?_ ?_ _ | refine Below.drew ?_ | refine below_drewN ?_ _ | refine le_drewN _ ?_ | refine Below.setCell ?_ ?_ _ | exact Nat.le_refl _ | refine le_ext _ ?_ | refine le_alloc _ ?_ | refine le_setCell _ _ ?_ | refine le_drew ?_) | omega | (simp; done) | (simp; omega))))⟩, by simp [intOf]; omega⟩
          · have d1 : decide (Y1 ≤ y) = false := decide_eq_false k1
            rw [if_neg (fun h => k1 h.1)] at UPo
            have UPo := hide UPo
            clear k1
            go_wp2_with fail
            go_region
            all_goals go_wp2_with fail
            all_goals exact ⟨⟨i + 1, by omega, by go_num, by rw [UPo.out], hide NFo.out, hbel.trans (by (repeat' (first | (with_reducible first | exact Below.refl _ _ | assumption | refine below_ext _ ?_ ?_ | refine Below.alloc ?_ ?_ _ | refine Below.drew ?_ | refine below_drewN ?_ _ | refine le_drewN _ ?_ | refine Below.setCell ?_ ?_ _ | exact Nat.le_refl _ | refine le_ext _ ?_ | refine le_alloc _ ?_ | refine le_setCell _ _ ?_ | refine le_drew ?_) | omega | (simp; done) | (simp; omega))))⟩, by simp [intOf]; omega⟩
      · subst hON
        have LZo := hide (LZ.out rfl)
        clear NF LZ HA UP DN UPi DNi TU TU2
        go_wp2_with fail
        go_ret
        exact ⟨ret_int LZo.out.symm, ext_mk (B5.out.trans ((hbel.trans (by (repeat' (first | (with_reducible first | exact Below.refl _ _ | assumption | refine below_ext _ ?_ ?_ | refine Below.alloc ?_ ?_ _ | refine Below.drew ?_ | refine below_drewN ?_ _ | refine le_drewN _ ?_ | refine Below.setCell ?_ ?_ _ | exact Nat.le_refl _ | refine le_ext _ ?_ | refine le_alloc _ ?_ | refine le_setCell _ _ ?_ | refine le_drew ?_) | omega | (simp; done) | (simp; omega))))).mono B5.out.size))⟩
    · have hin' : i = n := by omega
      subst hin'
      have HV := hide (L1.out HF.out)
      go_wp2
      go_ret
      exact ⟨ret_int HV.out.symm, ext_mk (B5.out.trans (hbel.mono B5.out.size))⟩
/-- Where a point lies, or 2. -/
def locW (ps : List Pt) (q : Pt) : Int := if simB ps && vP q.x q.y then locI ps q else 2
theorem locW_1 {ps : List Pt} {q : Pt} (h : simB ps = false) : locW ps q = 2 := by unfold locW; rw [h]; rfl
theorem locW_2 {ps : List Pt} {q : Pt} (h : vP q.x q.y = false) : locW ps q = 2 := by unfold locW; rw [h]; simp
theorem locW_3 {ps : List Pt} {q : Pt} (h : simB ps = true) (h2 : vP q.x q.y = true) : locW ps q = locI ps q := by unfold locW; rw [h, h2]; rfl
set_option maxHeartbeats 1000000 in
theorem iLocate_any (ps : List Pt) (x y : Int) (A : Option Addr) (n c : Nat) (w : World) (hn : ps.length = n) (hm : n ≤ 2000000) (hA : Plain A n) (hs : PtsAt w w.heap.size A ps) :
    Calls Try.prog 16 #[.slice A n c, .agg #[.int .i64 x, .int .i64 y]] w fun e w' => e = .returned (.int .i64 (locW ps ⟨x, y⟩)) ∧ ∃ x, w' = ext w x := by
  have HC := hide (fun (W : World) (hb : Below w.heap.size w W) => simple_any ps A n c W hn hm hA (hs.to hb))
  by_cases hok : simB ps = true
  · rw [hok] at HC
    obtain ⟨hib, h3, h20, _⟩ := simB_parts hok
    have HVA := hide (fun W => valid_any x y W)
    by_cases hv : vP x y = true
    · rw [hv] at HVA
      have hq := vP_iff.1 hv
      have HV := hide (locW_3 (q := ⟨x, y⟩) hok hv)
      have HL := hide (fun (W : World) (hb : Below w.heap.size w W) => locate_any ps x y A n c W hn (by omega) hib ⟨by omega, by omega⟩ (hs.to hb))
      clear hok hn hs hib h20 h3 hv hq
      go_enter Try.func16, Try.ntmps16
      go_wp2_with fail
      refine (HC.out _ (by (repeat' (first | (with_reducible first | exact Below.refl _ _ | assumption | refine below_ext _ ?_ ?_ | refine Below.alloc ?_ ?_ _ | refine Below.drew ?_ | refine below_drewN ?_ _ | refine le_drewN _ ?_ | refine Below.setCell ?_ ?_ _ | exact Nat.le_refl _ | refine le_ext _ ?_ | refine le_alloc _ ?_ | refine le_setCell _ _ ?_ | refine le_drew ?_) | omega | (simp; done) | (simp; omega))))).mono ?_
      rintro e w' ⟨rfl, hw'⟩; have hzy1 := ext_sz hw'; obtain ⟨y1, rfl⟩ := hw'; (try simp at hzy1)
      go_wp2_with fail
      refine (HVA.out _).mono ?_
      rintro e w' ⟨rfl, hw'⟩; have hzy2 := ext_sz hw'; obtain ⟨y2, rfl⟩ := hw'; (try simp at hzy2)
      go_wp2_with fail
      refine (HL.out _ (by (repeat' (first | (with_reducible first | exact Below.refl _ _ | assumption | refine below_ext _ ?_ ?_ | refine Below.alloc ?_ ?_ _ | refine Below.drew ?_ | refine below_drewN ?_ _ | refine le_drewN _ ?_ | refine Below.setCell ?_ ?_ _ | exact Nat.le_refl _ | refine le_ext _ ?_ | refine le_alloc _ ?_ | refine le_setCell _ _ ?_ | refine le_drew ?_) | omega | (simp; done) | (simp; omega))))).mono ?_
      rintro e w' ⟨rfl, hw'⟩; have hzy3 := ext_sz hw'; obtain ⟨y3, rfl⟩ := hw'; (try simp at hzy3)
      go_wp2_with fail
      go_ret
      exact ⟨ret_int HV.out.symm, (ext_mk (by (repeat' (first | (with_reducible first | exact Below.refl _ _ | assumption | refine below_ext _ ?_ ?_ | refine Below.alloc ?_ ?_ _ | refine Below.drew ?_ | refine below_drewN ?_ _ | refine le_drewN _ ?_ | refine Below.setCell ?_ ?_ _ | exact Nat.le_refl _ | refine le_ext _ ?_ | refine le_alloc _ ?_ | refine le_setCell _ _ ?_ | refine le_drew ?_) | omega | (simp; done) | (simp; omega)))))⟩
    · rw [eq_false_of_ne_true hv] at HVA
      have HV := hide (locW_2 (ps := ps) (q := ⟨x, y⟩) (eq_false_of_ne_true hv))
      clear hok hn hs hib h20 h3 hv
      go_enter Try.func16, Try.ntmps16
      go_wp2_with fail
      refine (HC.out _ (by (repeat' (first | (with_reducible first | exact Below.refl _ _ | assumption | refine below_ext _ ?_ ?_ | refine Below.alloc ?_ ?_ _ | refine Below.drew ?_ | refine below_drewN ?_ _ | refine le_drewN _ ?_ | refine Below.setCell ?_ ?_ _ | exact Nat.le_refl _ | refine le_ext _ ?_ | refine le_alloc _ ?_ | refine le_setCell _ _ ?_ | refine le_drew ?_) | omega | (simp; done) | (simp; omega))))).mono ?_
      rintro e w' ⟨rfl, hw'⟩; have hzy1 := ext_sz hw'; obtain ⟨y1, rfl⟩ := hw'; (try simp at hzy1)
      go_wp2_with fail
      refine (HVA.out _).mono ?_
      rintro e w' ⟨rfl, hw'⟩; have hzy2 := ext_sz hw'; obtain ⟨y2, rfl⟩ := hw'; (try simp at hzy2)
      go_wp2_with fail
      go_ret
      exact ⟨ret_int HV.out.symm, (ext_mk (by (repeat' (first | (with_reducible first | exact Below.refl _ _ | assumption | refine below_ext _ ?_ ?_ | refine Below.alloc ?_ ?_ _ | refine Below.drew ?_ | refine below_drewN ?_ _ | refine le_drewN _ ?_ | refine Below.setCell ?_ ?_ _ | exact Nat.le_refl _ | refine le_ext _ ?_ | refine le_alloc _ ?_ | refine le_setCell _ _ ?_ | refine le_drew ?_) | omega | (simp; done) | (simp; omega)))))⟩
  · rw [eq_false_of_ne_true hok] at HC
    have HV := hide (locW_1 (q := ⟨x, y⟩) (eq_false_of_ne_true hok))
    clear hok hn hs
    go_enter Try.func16, Try.ntmps16
    go_wp2_with fail
    refine (HC.out _ (by (repeat' (first | (with_reducible first | exact Below.refl _ _ | assumption | refine below_ext _ ?_ ?_ | refine Below.alloc ?_ ?_ _ | refine Below.drew ?_ | refine below_drewN ?_ _ | refine le_drewN _ ?_ | refine Below.setCell ?_ ?_ _ | exact Nat.le_refl _ | refine le_ext _ ?_ | refine le_alloc _ ?_ | refine le_setCell _ _ ?_ | refine le_drew ?_) | omega | (simp; done) | (simp; omega))))).mono ?_
    rintro e w' ⟨rfl, hw'⟩; have hzy1 := ext_sz hw'; obtain ⟨y1, rfl⟩ := hw'; (try simp at hzy1)
    go_wp2_with fail
    go_ret
    exact ⟨ret_int HV.out.symm, (ext_mk (by (repeat' (first | (with_reducible first | exact Below.refl _ _ | assumption | refine below_ext _ ?_ ?_ | refine Below.alloc ?_ ?_ _ | refine Below.drew ?_ | refine below_drewN ?_ _ | refine le_drewN _ ?_ | refine Below.setCell ?_ ?_ _ | exact Nat.le_refl _ | refine le_ext _ ?_ | refine le_alloc _ ?_ | refine le_setCell _ _ ?_ | refine le_drew ?_) | omega | (simp; done) | (simp; omega)))))⟩
end Go.Proofs.Ytcebmcbglhkkfaa
