
import Derived.Test.YtnddfdhfefconaaGreatDoorSorted
import Derived.Outline
import Derived.Test.YtnddfdhfefconaaGreatDoorApp
import Derived.Test.YtnddfdhfefconaaGreatDoorHullK
import Derived.Test.YtnddfdhfefconaaGreatDoorSeg
import Derived.Deep.CutRange
import Derived.BigRegion
import Derived.Deep.RegionHeld3
/- The reference's sorting by insertion: pointLess, addPoint, sorted. -/
set_option linter.unusedVariables false
set_option linter.unusedSimpArgs false
namespace Go.Proofs.YtnddfdhfefconaaGreatDoor
open Go.RowKit

theorem PtsAt.pre {w : World} {B : Nat} {A : Option Addr} {ps : List Pt} (h : PtsAt w B A ps) (k : Nat) : PtsAt w B A (ps.take k) := fun h0 => by
  rw [List.length_take] at h0
  obtain ⟨b, o, hA, hB, hc⟩ := h (by omega)
  refine ⟨b, o, hA, hB, fun i hi => ?_⟩
  rw [List.length_take] at hi
  have e : gp (ps.take k) i = gp ps i := by
    unfold gp; rw [List.getD_eq_getElem?_getD, List.getD_eq_getElem?_getD, List.getElem?_take, if_pos (by omega)]
  unfold pX pY
  rw [e]
  exact hc i (by omega)
theorem PtsAt.none_ (w : World) (B : Nat) (A : Option Addr) : PtsAt w B A [] := fun h => absurd h (Nat.lt_irrefl 0)
theorem insP_at {p : Pt} : ∀ {L : List Pt} {k : Nat}, k ≤ L.length → (∀ i, i < k → ltP (gp L i) p) → (k < L.length → ¬ ltP (gp L k) p) → insP p L = if k < L.length ∧ gp L k = p then L else L.take k ++ p :: L.drop k
  | [], k, hk, _, _ => by simp at hk; subst hk; simp [insP]
  | a :: r, 0, _, _, h => by
    have h := h (by simp)
    have e : gp (a :: r) 0 = a := rfl
    rw [e] at h ⊢
    rw [insP, if_neg h]
    by_cases ha : a = p
    · rw [if_pos ha, if_pos ⟨by simp, ha⟩]
    · rw [if_neg ha, if_neg (fun hh => ha hh.2)]; simp
  | a :: r, k + 1, hk, h1, h2 => by
    have ha := h1 0 (by omega)
    have e : gp (a :: r) 0 = a := rfl
    rw [e] at ha
    have es : ∀ i, gp (a :: r) (i + 1) = gp r i := fun i => by simp [gp]
    rw [insP, if_pos ha, insP_at (L := r) (k := k) (by simpa using hk) (fun i hi => by rw [← es]; exact h1 (i + 1) (by omega)) (fun hh => by rw [← es]; exact h2 (by simpa using hh)), es]
    by_cases hc : k < r.length ∧ gp r k = p
    · rw [if_pos hc, if_pos ⟨by simpa using hc.1, hc.2⟩]
    · rw [if_neg hc, if_neg (fun hh => hc ⟨by simpa using hh.1, hh.2⟩)]; simp
set_option maxHeartbeats 400000 in
theorem pointLess_any (a b c d : Int) (w : World) : Calls Tryz.prog 208 #[.agg #[.int .i64 a, .int .i64 b], .agg #[.int .i64 c, .int .i64 d]] w fun e w' => e = .returned (.bool (decide (ltP ⟨a, b⟩ ⟨c, d⟩))) ∧ ∃ n, w' = ext w n := by
  have HL : Hid (∀ v : Bool, ((a < c ∨ (a = c ∧ b < d)) ↔ v = true) → decide (ltP ⟨a, b⟩ ⟨c, d⟩) = v) := hide (fun v hv => by
    rw [Bool.eq_iff_iff, decide_eq_true_iff]; exact hv)
  by_cases h1 : a < c
  · have e := hide (HL.out true (by simp; omega))
    have hd : decide (a < c) = true := decide_eq_true h1
    go_enter Tryz.func208, Tryz.ntmps208
    go_wp2
    go_returns
    exact ⟨ret_bool e.out.symm, (ext_mk (by (repeat' (first | (with_reducible first | exact Below.refl _ _ | assumption | refine below_ext _ ?_ ?_ | refine Below.alloc ?_ ?_ _ | refine Below.drew ?_ | refine below_drewN ?_ _ | refine le_drewN _ ?_ | refine Below.setCell ?_ ?_ _ | exact Nat.le_refl _ | refine le_ext _ ?_ | refine le_alloc _ ?_ | refine le_setCell _ _ ?_ | refine le_drew ?_) | omega | (simp; done) | (simp; omega)))))⟩
  · have hd : decide (a < c) = false := decide_eq_false h1
    by_cases h2 : a = c
    · have hd2 : (a == c) = true := by simpa using h2
      by_cases h3 : b < d
      · have e := hide (HL.out true (by simp; omega))
        have hd3 : decide (b < d) = true := decide_eq_true h3
        clear h2
        go_enter Tryz.func208, Tryz.ntmps208
        go_wp2
        go_returns
        exact ⟨ret_bool e.out.symm, (ext_mk (by (repeat' (first | (with_reducible first | exact Below.refl _ _ | assumption | refine below_ext _ ?_ ?_ | refine Below.alloc ?_ ?_ _ | refine Below.drew ?_ | refine below_drewN ?_ _ | refine le_drewN _ ?_ | refine Below.setCell ?_ ?_ _ | exact Nat.le_refl _ | refine le_ext _ ?_ | refine le_alloc _ ?_ | refine le_setCell _ _ ?_ | refine le_drew ?_) | omega | (simp; done) | (simp; omega)))))⟩
      · have e := hide (HL.out false (by simp; omega))
        have hd3 : decide (b < d) = false := decide_eq_false h3
        clear h2
        go_enter Tryz.func208, Tryz.ntmps208
        go_wp2
        go_returns
        exact ⟨ret_bool e.out.symm, (ext_mk (by (repeat' (first | (with_reducible first | exact Below.refl _ _ | assumption | refine below_ext _ ?_ ?_ | refine Below.alloc ?_ ?_ _ | refine Below.drew ?_ | refine below_drewN ?_ _ | refine le_drewN _ ?_ | refine Below.setCell ?_ ?_ _ | exact Nat.le_refl _ | refine le_ext _ ?_ | refine le_alloc _ ?_ | refine le_setCell _ _ ?_ | refine le_drew ?_) | omega | (simp; done) | (simp; omega)))))⟩
    · have e := hide (HL.out false (by simp; omega))
      have hd2 : (a == c) = false := by simpa using h2
      go_enter Tryz.func208, Tryz.ntmps208
      go_wp2
      go_returns
      exact ⟨ret_bool e.out.symm, (ext_mk (by (repeat' (first | (with_reducible first | exact Below.refl _ _ | assumption | refine below_ext _ ?_ ?_ | refine Below.alloc ?_ ?_ _ | refine Below.drew ?_ | refine below_drewN ?_ _ | refine le_drewN _ ?_ | refine Below.setCell ?_ ?_ _ | exact Nat.le_refl _ | refine le_ext _ ?_ | refine le_alloc _ ?_ | refine le_setCell _ _ ?_ | refine le_drew ?_) | omega | (simp; done) | (simp; omega)))))⟩
theorem OwnP.some_ {w : World} {base : Nat} {A : Option Addr} {n c : Nat} {ps : List Pt} (h : OwnP w base (.slice A n c) ps) : (A = none ∧ n = 0 ∧ c = 0) ∨ ∃ g, A = some ⟨g, 0, none⟩ ∧ base ≤ g ∧ g < w.heap.size := by
  have hl := h.lt
  have hl2 := h.lt2
  unfold OwnP at h
  rcases h.2 with ⟨hv, h1⟩ | ⟨g, cap, cur, hv, hg, hgg, _⟩
  · injection hv with e1 e2 e3
    exact .inl ⟨e1, e2, e3⟩
  · injection hv with e1 e2 e3
    exact .inr ⟨g, e1, hg, heap_lt hgg⟩
set_option maxHeartbeats 1000000 in
theorem addPoint_any (ps : List Pt) (x y : Int) (A : Option Addr) (n c base : Nat) (w : World) (hm : n ≤ 1000000) (hb : base ≤ w.heap.size) (hown : OwnP w base (.slice A n c) ps) :
    Calls Tryz.prog 163 #[.slice A n c, .agg #[.int .i64 x, .int .i64 y]] w fun e w' => ∃ v, e = .returned v ∧ OwnP w' base v (insP ⟨x, y⟩ ps) ∧ ∃ q, w' = ext w q := by
  have HL := hide hown.pts.1
  have hnc := hown.pts.2.1
  have hcm : c ≤ 9223372036854775807 := by have := hown.pts.2.2.1; unfold maxLen at this; exact this
  have OWN := hide hown
  have hsome := hown.some_
  clear hown
  go_enter Tryz.func163, Tryz.ntmps163
  go_wp2
  go_loopw [5] (fun u5 wr => ∃ k : Nat, k ≤ n ∧ u5 = .int .i64 k ∧ Hid (∀ i, i < k → ltP (gp ps i) ⟨x, y⟩) ∧ Hid (wr.heap[w.heap.size]? = some (.cells #[.int .i64 x, .int .i64 y] 41 (0, 0))) ∧ Below w.heap.size w wr ∧ w.heap.size + 1 ≤ wr.heap.size) (fun u5 _ => n - (intOf u5).toNat)
  case atStart => exact ⟨0, Nat.zero_le _, rfl, (fun i hi => by omega), heap_alloc_new w _, (by (repeat' (first | (with_reducible first | exact Below.refl _ _ | assumption | refine below_ext _ ?_ ?_ | refine Below.alloc ?_ ?_ _ | refine Below.drew ?_ | refine below_drewN ?_ _ | refine le_drewN _ ?_ | refine Below.setCell ?_ ?_ _ | exact Nat.le_refl _ | refine le_ext _ ?_ | refine le_alloc _ ?_ | refine le_setCell _ _ ?_ | refine le_drew ?_) | omega | (simp; done) | (simp; omega)))), by simp⟩
  case round =>
    obtain ⟨k, hk, rfl, hlo, BX, hbel, hszr⟩ := hrel
    have hszw : w.heap.size ≤ wr.heap.size := by omega
    have c0 := heap_cell BX.out 0
    have c1 := heap_cell BX.out 1
    simp at c0 c1
    have OW := hide (OWN.out.below hbel)
    have PTS := hide OW.out.pts.2.2.2
    have C2 : Hid (∀ W, Below wr.heap.size wr W → W.cell? ⟨w.heap.size, 0, none⟩ = some (.int .i64 x) ∧ W.cell? ⟨w.heap.size, 1, none⟩ = some (.int .i64 y)) := hide (fun W hW => ⟨(hW.cell (p := ⟨w.heap.size, 0, none⟩) (by show w.heap.size < _; omega)).trans c0, (hW.cell (p := ⟨w.heap.size, 1, none⟩) (by show w.heap.size < _; omega)).trans c1⟩)
    have TL : Hid ((ps.take k).length = k) := hide (by rw [List.length_take, HL.out]; omega)
    have PTK : Hid (∀ W, Below wr.heap.size wr W → PtsAt W wr.heap.size A (ps.take k)) := hide (fun W hW => (PTS.out.pre k).below hW)
    by_cases hlt : k < n
    · rcases hsome with ⟨rfl, rfl, rfl⟩ | ⟨g, rfl, g1, g2⟩
      · omega
      · obtain ⟨_, hgb, _, _, _, hcs⟩ := OW.out.head (by omega)
        injection hgb with hgb
        injection hgb with hgb
        subst hgb
        obtain ⟨k0, k1⟩ := hcs k hlt
        clear hcs
        have hd10 : decide ((k : Int) < (n : Int)) = true := decide_eq_true (by omega)
        cases ht : decide (ltP ⟨pX ps k, pY ps k⟩ ⟨x, y⟩)
        · have HI := hide (insP_at (p := ⟨x, y⟩) (L := ps) (k := k) (by rw [HL.out]; omega) hlo.out (fun _ => of_decide_eq_false ht))
          go_wp2_with fail
          refine wp_region_ext (by kernel_rfl) (by kernel_rfl) ?_
          repeat (go_big_quiet_step ((first | (go_at_call 208; exact Calls.in_ext (pointLess_any _ _ _ _ _)))))
          refine wpQuiet_nil ?_
          rintro _ hnq
          have hzq := ext_sz hnq
          obtain ⟨nq, rfl⟩ := hnq
          (try simp at hzq)
          generalize hW1 : ext wr nq = W1 at *
          have hb1 : Below wr.heap.size wr W1 := by rw [← hW1]; exact ext_below _ _
          have hs1 := hb1.size
          clear hW1 hzq
          have q0 := (hb1.cell (p := ⟨g, k * 2, none⟩) (by show g < _; omega)).trans k0
          have q1 := (hb1.cell (p := ⟨g, k * 2 + 1, none⟩) (by show g < _; omega)).trans k1
          obtain ⟨c01, c11⟩ := C2.out _ hb1
          go_wp2_with fail
          by_cases hxy : pX ps k = x ∧ pY ps k = y
          · obtain ⟨ex, ey⟩ := hxy
            have INS : Hid (insP ⟨x, y⟩ ps = ps) := hide (by rw [HI.out, if_pos ⟨by rw [HL.out]; exact hlt, pt_eq ex ey⟩])
            refine wp_region_ext (by kernel_rfl) (by kernel_rfl) ?_
            repeat (go_big_quiet_step (fail))
            refine wpQuiet_nil ?_
            rintro _ hnq
            have hzq := ext_sz hnq
            obtain ⟨nq, rfl⟩ := hnq
            (try simp at hzq)
            generalize hW2 : ext W1 nq = W2 at *
            have hb2 : Below W1.heap.size W1 W2 := by rw [← hW2]; exact ext_below _ _
            have hs2 := hb2.size
            clear hW2 hzq
            go_wp2_with fail
            go_ret
            exact ⟨_, rfl, by rw [INS.out]; exact OW.out.below (hb1.trans (hb2.mono hs1)), ext_mk (hbel.trans ((hb1.trans (hb2.mono hs1)).mono hszw))⟩
          · have INS : Hid (insP ⟨x, y⟩ ps = ps.take k ++ ⟨x, y⟩ :: ps.drop k) := hide (by rw [HI.out, if_neg (fun h => hxy (by unfold pX pY; rw [h.2]; exact ⟨rfl, rfl⟩))])
            have PTD : Hid (∀ W : World, Below wr.heap.size wr W → PtsAt W wr.heap.size (some ⟨g, 0 + k * 2, none⟩) ((ps.drop k).take (n - k))) := hide (fun W hW => (PTS.out.cut (a := k) (m := n - k) (by rw [HL.out]; omega)).below hW)
            rw [List.take_of_length_le (by rw [List.length_drop, HL.out]; exact Nat.le_refl _), Nat.zero_add] at PTD
            have FA : Hid ((some (⟨g, 0, none⟩ : Addr) = none → k = 0) ∧ ∀ b o s, some (⟨g, 0, none⟩ : Addr) = some ⟨b, o, s⟩ → s = none) := ⟨(fun h => by cases h), (fun b o s h => by injection h with h; injection h with _ _ h; exact h.symm)⟩
            have FD : Hid ((some (⟨g, k * 2, none⟩ : Addr) = none → n - k = 0) ∧ ∀ b o s, some (⟨g, k * 2, none⟩ : Addr) = some ⟨b, o, s⟩ → s = none) := ⟨(fun h => by cases h), (fun b o s h => by injection h with h; injection h with _ _ h; exact h.symm)⟩
            have hq6 : ¬ c = k := by omega
            by_cases hx : pX ps k = x
            · have hy : ¬ pY ps k = y := fun h => hxy ⟨hx, h⟩
              clear hxy
              refine wp_region_ext (by kernel_rfl) (by kernel_rfl) ?_
              repeat (go_big_quiet_step (fail))
              refine wpQuiet_nil ?_
              rintro _ hnq
              have hzq := ext_sz hnq
              obtain ⟨nq, rfl⟩ := hnq
              (try simp at hzq)
              generalize hW2 : ext W1 nq = W2 at *
              have hb2 : Below W1.heap.size W1 W2 := by rw [← hW2]; exact ext_below _ _
              have hs2 := hb2.size
              clear hW2 hzq
              have b2 := hb1.trans (hb2.mono hs1)
              obtain ⟨c02, c12⟩ := C2.out _ b2
              have hs2 := b2.size
              go_wp2_with (at_builtin; first | (refine app_pts rfl (.tmp 34) (.tmp 37) rfl wr.heap.size (.slice (some ⟨W2.heap.size, 0, none⟩) 0 0) [] rfl (OwnP.empty W2 wr.heap.size 0 hs2 #[] rfl (by simp [maxLen])) (some ⟨g, 0, none⟩) k c wr.heap.size (ps.take k) rfl TL.out (PTK.out _ (b2.alloc hs2 _)) (FA.out.1) (FA.out.2) (Nat.zero_le _) (by omega) (by simp; omega) ?_; intro v7 w7 hown7 hb7 hat7 hgr7; obtain ⟨A7, n7, c7, rfl⟩ := hown7.slice; have O7 := hide hown7; have b7 := (b2.alloc hs2 _).trans hb7; have s7 := b7.size; obtain ⟨c07, c17⟩ := C2.out _ b7; clear hown7 hat7 hgr7 hb7) | (refine app_pt rfl (.tmp 39) (.tmp 41) rfl wr.heap.size (.slice A7 n7 c7) ([] ++ ps.take k) rfl (O7.out.below (by (repeat' (first | (with_reducible first | exact Below.refl _ _ | assumption | refine below_ext _ ?_ ?_ | refine Below.alloc ?_ ?_ _ | refine Below.drew ?_ | refine below_drewN ?_ _ | refine le_drewN _ ?_ | refine Below.setCell ?_ ?_ _ | exact Nat.le_refl _ | refine le_ext _ ?_ | refine le_alloc _ ?_ | refine le_setCell _ _ ?_ | refine le_drew ?_) | omega | (simp; done) | (simp; omega))))) x y _ _ rfl (by simp [go_sem]) (by simp [go_sem]) (by first | (simp [List.length_take]; done) | (simp [List.length_take]; omega)) (by simp; omega) ?_; intro v8 w8 hown8 hb8 hat8 hgr8; obtain ⟨A8, n8, c8, rfl⟩ := hown8.slice; have O8 := hide hown8; have b8 := (b7.alloc s7 _).trans hb8; have s8 := b8.size; clear hown8 hat8 hgr8 hb8) | (refine app_pts rfl (.tmp 43) (.tmp 46) rfl wr.heap.size (.slice A8 n8 c8) ([] ++ ps.take k ++ [⟨x, y⟩]) rfl O8.out (some ⟨g, k * 2, none⟩) (n - k) (c - k) wr.heap.size (ps.drop k) rfl (by have := HL.out; rw [List.length_drop]; omega) (PTD.out _ b8) (FD.out.1) (FD.out.2) (by first | (simp [List.length_take]; done) | (simp [List.length_take]; omega)) (by omega) s8 ?_; intro v9 w9 hown9 hb9 hat9 hgr9; obtain ⟨A9, n9, c9, rfl⟩ := hown9.slice; have O9 := hide hown9; have b9 := b8.trans hb9; have s9 := b9.size; clear hown9 hat9 hgr9 hb9))
              go_ret
              exact ⟨_, rfl, by rw [INS.out]; rw [show ps.take k ++ (⟨x, y⟩ : Pt) :: ps.drop k = [] ++ ps.take k ++ [⟨x, y⟩] ++ ps.drop k from by simp]; exact O9.out.base (Nat.le_trans hb hszw), ext_mk (hbel.trans (b9.mono hszw))⟩
            · clear hxy
              refine wp_region_ext (by kernel_rfl) (by kernel_rfl) ?_
              repeat (go_big_quiet_step (fail))
              refine wpQuiet_nil ?_
              rintro _ hnq
              have hzq := ext_sz hnq
              obtain ⟨nq, rfl⟩ := hnq
              (try simp at hzq)
              generalize hW2 : ext W1 nq = W2 at *
              have hb2 : Below W1.heap.size W1 W2 := by rw [← hW2]; exact ext_below _ _
              have hs2 := hb2.size
              clear hW2 hzq
              have b2 := hb1.trans (hb2.mono hs1)
              obtain ⟨c02, c12⟩ := C2.out _ b2
              have hs2 := b2.size
              go_wp2_with (at_builtin; first | (refine app_pts rfl (.tmp 34) (.tmp 37) rfl wr.heap.size (.slice (some ⟨W2.heap.size, 0, none⟩) 0 0) [] rfl (OwnP.empty W2 wr.heap.size 0 hs2 #[] rfl (by simp [maxLen])) (some ⟨g, 0, none⟩) k c wr.heap.size (ps.take k) rfl TL.out (PTK.out _ (b2.alloc hs2 _)) (FA.out.1) (FA.out.2) (Nat.zero_le _) (by omega) (by simp; omega) ?_; intro v7 w7 hown7 hb7 hat7 hgr7; obtain ⟨A7, n7, c7, rfl⟩ := hown7.slice; have O7 := hide hown7; have b7 := (b2.alloc hs2 _).trans hb7; have s7 := b7.size; obtain ⟨c07, c17⟩ := C2.out _ b7; clear hown7 hat7 hgr7 hb7) | (refine app_pt rfl (.tmp 39) (.tmp 41) rfl wr.heap.size (.slice A7 n7 c7) ([] ++ ps.take k) rfl (O7.out.below (by (repeat' (first | (with_reducible first | exact Below.refl _ _ | assumption | refine below_ext _ ?_ ?_ | refine Below.alloc ?_ ?_ _ | refine Below.drew ?_ | refine below_drewN ?_ _ | refine le_drewN _ ?_ | refine Below.setCell ?_ ?_ _ | exact Nat.le_refl _ | refine le_ext _ ?_ | refine le_alloc _ ?_ | refine le_setCell _ _ ?_ | refine le_drew ?_) | omega | (simp; done) | (simp; omega))))) x y _ _ rfl (by simp [go_sem]) (by simp [go_sem]) (by first | (simp [List.length_take]; done) | (simp [List.length_take]; omega)) (by simp; omega) ?_; intro v8 w8 hown8 hb8 hat8 hgr8; obtain ⟨A8, n8, c8, rfl⟩ := hown8.slice; have O8 := hide hown8; have b8 := (b7.alloc s7 _).trans hb8; have s8 := b8.size; clear hown8 hat8 hgr8 hb8) | (refine app_pts rfl (.tmp 43) (.tmp 46) rfl wr.heap.size (.slice A8 n8 c8) ([] ++ ps.take k ++ [⟨x, y⟩]) rfl O8.out (some ⟨g, k * 2, none⟩) (n - k) (c - k) wr.heap.size (ps.drop k) rfl (by have := HL.out; rw [List.length_drop]; omega) (PTD.out _ b8) (FD.out.1) (FD.out.2) (by first | (simp [List.length_take]; done) | (simp [List.length_take]; omega)) (by omega) s8 ?_; intro v9 w9 hown9 hb9 hat9 hgr9; obtain ⟨A9, n9, c9, rfl⟩ := hown9.slice; have O9 := hide hown9; have b9 := b8.trans hb9; have s9 := b9.size; clear hown9 hat9 hgr9 hb9))
              go_ret
              exact ⟨_, rfl, by rw [INS.out]; rw [show ps.take k ++ (⟨x, y⟩ : Pt) :: ps.drop k = [] ++ ps.take k ++ [⟨x, y⟩] ++ ps.drop k from by simp]; exact O9.out.base (Nat.le_trans hb hszw), ext_mk (hbel.trans (b9.mono hszw))⟩
        · have HI := hide (of_decide_eq_true ht)
          go_wp2_with fail
          refine wp_region_ext (by kernel_rfl) (by kernel_rfl) ?_
          repeat (go_big_quiet_step ((first | (go_at_call 208; exact Calls.in_ext (pointLess_any _ _ _ _ _)))))
          refine wpQuiet_nil ?_
          rintro _ hnq
          have hzq := ext_sz hnq
          obtain ⟨nq, rfl⟩ := hnq
          (try simp at hzq)
          go_wp2_with fail
          exact ⟨⟨k + 1, by omega, by go_num, hide (fun i hi => by
            by_cases e : i = k
            · subst e; exact HI.out
            · exact hlo.out i (by omega)), hide (((ext_below wr nq).block w.heap.size (by omega)).trans BX.out), (by (repeat' (first | (with_reducible first | exact Below.refl _ _ | assumption | refine below_ext _ ?_ ?_ | refine Below.alloc ?_ ?_ _ | refine Below.drew ?_ | refine below_drewN ?_ _ | refine le_drewN _ ?_ | refine Below.setCell ?_ ?_ _ | exact Nat.le_refl _ | refine le_ext _ ?_ | refine le_alloc _ ?_ | refine le_setCell _ _ ?_ | refine le_drew ?_) | omega | (simp; done) | (simp; omega)))), by omega⟩, by simp [intOf]; omega⟩
    · have hkn : k = n := by omega
      subst hkn
      have INS : Hid (insP ⟨x, y⟩ ps = ps.take k ++ ⟨x, y⟩ :: ps.drop k) := hide (by rw [insP_at (k := k) (by rw [HL.out]; exact Nat.le_refl _) hlo.out (fun h => by have := HL.out; omega), if_neg (fun h => by have := HL.out; have := h.1; omega)])
      have hd10 : decide ((k : Int) < (k : Int)) = false := decide_eq_false (by omega)
      have PTD : Hid (∀ (B : Option Addr) (W : World), Below wr.heap.size wr W → PtsAt W wr.heap.size B (ps.drop k)) := hide (fun B W _ => by rw [List.drop_of_length_le (by rw [HL.out]; exact Nat.le_refl _)]; exact PtsAt.none_ _ _ _)
      go_wp2_with fail
      refine wp_region_ext (by kernel_rfl) (by kernel_rfl) ?_
      repeat (go_big_quiet_step (fail))
      refine wpQuiet_nil ?_
      rintro _ hnq
      have hzq := ext_sz hnq
      obtain ⟨nq, rfl⟩ := hnq
      (try simp at hzq)
      generalize hW1 : ext wr nq = W1 at *
      have hb1 : Below wr.heap.size wr W1 := by rw [← hW1]; exact ext_below _ _
      have hs1 := hb1.size
      clear hW1 hzq
      go_wp2_with fail
      refine wp_region_ext (by kernel_rfl) (by kernel_rfl) ?_
      repeat (go_big_quiet_step (fail))
      refine wpQuiet_nil ?_
      rintro _ hnq
      have hzq := ext_sz hnq
      obtain ⟨nq, rfl⟩ := hnq
      (try simp at hzq)
      generalize hW2 : ext W1 nq = W2 at *
      have hb2 : Below W1.heap.size W1 W2 := by rw [← hW2]; exact ext_below _ _
      have hs2 := hb2.size
      clear hW2 hzq
      have b2 := hb1.trans (hb2.mono hs1)
      obtain ⟨c02, c12⟩ := C2.out _ b2
      have hs2 := b2.size
      rcases hsome with ⟨rfl, rfl, rfl⟩ | ⟨g, rfl, g1, g2⟩
      · have FA : Hid (((none : Option Addr) = none → 0 = 0) ∧ ∀ b o s, (none : Option Addr) = some ⟨b, o, s⟩ → s = none) := ⟨(fun _ => rfl), (fun b o s h => by cases h)⟩
        have FD : Hid (((none : Option Addr) = none → (0 : Nat) = 0) ∧ ∀ b o s, (none : Option Addr) = some ⟨b, o, s⟩ → s = none) := ⟨(fun _ => rfl), (fun b o s h => by cases h)⟩
        have PTE := hide (PTD.out none)
        clear PTD
        have PTD := PTE
        go_wp2_with (at_builtin; first | (refine app_pts rfl (.tmp 34) (.tmp 37) rfl wr.heap.size (.slice (some ⟨W2.heap.size, 0, none⟩) 0 0) [] rfl (OwnP.empty W2 wr.heap.size 0 hs2 #[] rfl (by simp [maxLen])) none 0 0 wr.heap.size (ps.take 0) rfl TL.out (PTK.out _ (b2.alloc hs2 _)) (FA.out.1) (FA.out.2) (Nat.zero_le _) (by omega) (by simp; omega) ?_; intro v7 w7 hown7 hb7 hat7 hgr7; obtain ⟨A7, n7, c7, rfl⟩ := hown7.slice; have O7 := hide hown7; have b7 := (b2.alloc hs2 _).trans hb7; have s7 := b7.size; obtain ⟨c07, c17⟩ := C2.out _ b7; clear hown7 hat7 hgr7 hb7) | (refine app_pt rfl (.tmp 39) (.tmp 41) rfl wr.heap.size (.slice A7 n7 c7) ([] ++ ps.take 0) rfl (O7.out.below (by (repeat' (first | (with_reducible first | exact Below.refl _ _ | assumption | refine below_ext _ ?_ ?_ | refine Below.alloc ?_ ?_ _ | refine Below.drew ?_ | refine below_drewN ?_ _ | refine le_drewN _ ?_ | refine Below.setCell ?_ ?_ _ | exact Nat.le_refl _ | refine le_ext _ ?_ | refine le_alloc _ ?_ | refine le_setCell _ _ ?_ | refine le_drew ?_) | omega | (simp; done) | (simp; omega))))) x y _ _ rfl (by simp [go_sem]) (by simp [go_sem]) (by first | (simp [List.length_take]; done) | (simp [List.length_take]; omega)) (by simp; omega) ?_; intro v8 w8 hown8 hb8 hat8 hgr8; obtain ⟨A8, n8, c8, rfl⟩ := hown8.slice; have O8 := hide hown8; have b8 := (b7.alloc s7 _).trans hb8; have s8 := b8.size; clear hown8 hat8 hgr8 hb8) | (refine app_pts rfl (.tmp 43) (.tmp 46) rfl wr.heap.size (.slice A8 n8 c8) ([] ++ ps.take 0 ++ [⟨x, y⟩]) rfl O8.out none (0) 0 wr.heap.size (ps.drop 0) rfl (by have := HL.out; rw [List.length_drop]; omega) (PTD.out _ b8) (FD.out.1) (FD.out.2) (by first | (simp [List.length_take]; done) | (simp [List.length_take]; omega)) (by omega) s8 ?_; intro v9 w9 hown9 hb9 hat9 hgr9; obtain ⟨A9, n9, c9, rfl⟩ := hown9.slice; have O9 := hide hown9; have b9 := b8.trans hb9; have s9 := b9.size; clear hown9 hat9 hgr9 hb9))
        go_ret
        exact ⟨_, rfl, by rw [INS.out]; rw [show ps.take 0 ++ (⟨x, y⟩ : Pt) :: ps.drop 0 = [] ++ ps.take 0 ++ [⟨x, y⟩] ++ ps.drop 0 from by simp]; exact O9.out.base (Nat.le_trans hb hszw), ext_mk (hbel.trans (b9.mono hszw))⟩
      · have FA : Hid ((some (⟨g, 0, none⟩ : Addr) = none → k = 0) ∧ ∀ b o s, some (⟨g, 0, none⟩ : Addr) = some ⟨b, o, s⟩ → s = none) := ⟨(fun h => by cases h), (fun b o s h => by injection h with h; injection h with _ _ h; exact h.symm)⟩
        by_cases hq6 : c = k
        · have FD : Hid ((some (⟨g, 0, none⟩ : Addr) = none → (0 : Nat) = 0) ∧ ∀ b o s, some (⟨g, 0, none⟩ : Addr) = some ⟨b, o, s⟩ → s = none) := ⟨(fun h => by cases h), (fun b o s h => by injection h with h; injection h with _ _ h; exact h.symm)⟩
          subst hq6
          have PTE := hide (PTD.out (some ⟨g, 0, none⟩))
          clear PTD
          have PTD := PTE
          go_wp2_with (at_builtin; first | (refine app_pts rfl (.tmp 34) (.tmp 37) rfl wr.heap.size (.slice (some ⟨W2.heap.size, 0, none⟩) 0 0) [] rfl (OwnP.empty W2 wr.heap.size 0 hs2 #[] rfl (by simp [maxLen])) (some ⟨g, 0, none⟩) c c wr.heap.size (ps.take c) rfl TL.out (PTK.out _ (b2.alloc hs2 _)) (FA.out.1) (FA.out.2) (Nat.zero_le _) (by omega) (by simp; omega) ?_; intro v7 w7 hown7 hb7 hat7 hgr7; obtain ⟨A7, n7, c7, rfl⟩ := hown7.slice; have O7 := hide hown7; have b7 := (b2.alloc hs2 _).trans hb7; have s7 := b7.size; obtain ⟨c07, c17⟩ := C2.out _ b7; clear hown7 hat7 hgr7 hb7) | (refine app_pt rfl (.tmp 39) (.tmp 41) rfl wr.heap.size (.slice A7 n7 c7) ([] ++ ps.take c) rfl (O7.out.below (by (repeat' (first | (with_reducible first | exact Below.refl _ _ | assumption | refine below_ext _ ?_ ?_ | refine Below.alloc ?_ ?_ _ | refine Below.drew ?_ | refine below_drewN ?_ _ | refine le_drewN _ ?_ | refine Below.setCell ?_ ?_ _ | exact Nat.le_refl _ | refine le_ext _ ?_ | refine le_alloc _ ?_ | refine le_setCell _ _ ?_ | refine le_drew ?_) | omega | (simp; done) | (simp; omega))))) x y _ _ rfl (by simp [go_sem]) (by simp [go_sem]) (by first | (simp [List.length_take]; done) | (simp [List.length_take]; omega)) (by simp; omega) ?_; intro v8 w8 hown8 hb8 hat8 hgr8; obtain ⟨A8, n8, c8, rfl⟩ := hown8.slice; have O8 := hide hown8; have b8 := (b7.alloc s7 _).trans hb8; have s8 := b8.size; clear hown8 hat8 hgr8 hb8) | (refine app_pts rfl (.tmp 43) (.tmp 46) rfl wr.heap.size (.slice A8 n8 c8) ([] ++ ps.take c ++ [⟨x, y⟩]) rfl O8.out (some ⟨g, 0, none⟩) (0) 0 wr.heap.size (ps.drop c) rfl (by have := HL.out; rw [List.length_drop]; omega) (PTD.out _ b8) (FD.out.1) (FD.out.2) (by first | (simp [List.length_take]; done) | (simp [List.length_take]; omega)) (by omega) s8 ?_; intro v9 w9 hown9 hb9 hat9 hgr9; obtain ⟨A9, n9, c9, rfl⟩ := hown9.slice; have O9 := hide hown9; have b9 := b8.trans hb9; have s9 := b9.size; clear hown9 hat9 hgr9 hb9))
          go_ret
          exact ⟨_, rfl, by rw [INS.out]; rw [show ps.take c ++ (⟨x, y⟩ : Pt) :: ps.drop c = [] ++ ps.take c ++ [⟨x, y⟩] ++ ps.drop c from by simp]; exact O9.out.base (Nat.le_trans hb hszw), ext_mk (hbel.trans (b9.mono hszw))⟩
        · have FD : Hid ((some (⟨g, k * 2, none⟩ : Addr) = none → (0 : Nat) = 0) ∧ ∀ b o s, some (⟨g, k * 2, none⟩ : Addr) = some ⟨b, o, s⟩ → s = none) := ⟨(fun h => by cases h), (fun b o s h => by injection h with h; injection h with _ _ h; exact h.symm)⟩
          have PTE := hide (PTD.out (some ⟨g, k * 2, none⟩))
          clear PTD
          have PTD := PTE
          go_wp2_with (at_builtin; first | (refine app_pts rfl (.tmp 34) (.tmp 37) rfl wr.heap.size (.slice (some ⟨W2.heap.size, 0, none⟩) 0 0) [] rfl (OwnP.empty W2 wr.heap.size 0 hs2 #[] rfl (by simp [maxLen])) (some ⟨g, 0, none⟩) k c wr.heap.size (ps.take k) rfl TL.out (PTK.out _ (b2.alloc hs2 _)) (FA.out.1) (FA.out.2) (Nat.zero_le _) (by omega) (by simp; omega) ?_; intro v7 w7 hown7 hb7 hat7 hgr7; obtain ⟨A7, n7, c7, rfl⟩ := hown7.slice; have O7 := hide hown7; have b7 := (b2.alloc hs2 _).trans hb7; have s7 := b7.size; obtain ⟨c07, c17⟩ := C2.out _ b7; clear hown7 hat7 hgr7 hb7) | (refine app_pt rfl (.tmp 39) (.tmp 41) rfl wr.heap.size (.slice A7 n7 c7) ([] ++ ps.take k) rfl (O7.out.below (by (repeat' (first | (with_reducible first | exact Below.refl _ _ | assumption | refine below_ext _ ?_ ?_ | refine Below.alloc ?_ ?_ _ | refine Below.drew ?_ | refine below_drewN ?_ _ | refine le_drewN _ ?_ | refine Below.setCell ?_ ?_ _ | exact Nat.le_refl _ | refine le_ext _ ?_ | refine le_alloc _ ?_ | refine le_setCell _ _ ?_ | refine le_drew ?_) | omega | (simp; done) | (simp; omega))))) x y _ _ rfl (by simp [go_sem]) (by simp [go_sem]) (by first | (simp [List.length_take]; done) | (simp [List.length_take]; omega)) (by simp; omega) ?_; intro v8 w8 hown8 hb8 hat8 hgr8; obtain ⟨A8, n8, c8, rfl⟩ := hown8.slice; have O8 := hide hown8; have b8 := (b7.alloc s7 _).trans hb8; have s8 := b8.size; clear hown8 hat8 hgr8 hb8) | (refine app_pts rfl (.tmp 43) (.tmp 46) rfl wr.heap.size (.slice A8 n8 c8) ([] ++ ps.take k ++ [⟨x, y⟩]) rfl O8.out (some ⟨g, k * 2, none⟩) (0) (c - k) wr.heap.size (ps.drop k) rfl (by have := HL.out; rw [List.length_drop]; omega) (PTD.out _ b8) (FD.out.1) (FD.out.2) (by first | (simp [List.length_take]; done) | (simp [List.length_take]; omega)) (by omega) s8 ?_; intro v9 w9 hown9 hb9 hat9 hgr9; obtain ⟨A9, n9, c9, rfl⟩ := hown9.slice; have O9 := hide hown9; have b9 := b8.trans hb9; have s9 := b9.size; clear hown9 hat9 hgr9 hb9))
          go_ret
          exact ⟨_, rfl, by rw [INS.out]; rw [show ps.take k ++ (⟨x, y⟩ : Pt) :: ps.drop k = [] ++ ps.take k ++ [⟨x, y⟩] ++ ps.drop k from by simp]; exact O9.out.base (Nat.le_trans hb hszw), ext_mk (hbel.trans (b9.mono hszw))⟩
end Go.Proofs.YtnddfdhfefconaaGreatDoor
/- Half hulls: the program's 'half' and the reference's 'chain'. -/
set_option linter.unusedVariables false
set_option linter.unusedSimpArgs false
namespace Go.Proofs.YtnddfdhfefconaaGreatDoor
open Go.RowKit

def popL (p : Pt) (L : List Pt) : List Pt := (popTo p L.reverse).reverse
theorem rev_two : ∀ {L : List Pt} {m : Nat}, L.length = m + 2 → ∃ r, L = r ++ [gp L m, gp L (m + 1)] ∧ r.length = m := by
  intro L m h
  refine ⟨L.take m, ?_, by rw [List.length_take]; omega⟩
  apply List.ext_getElem
  · simp; omega
  · intro i h1 h2
    rw [List.getElem_append]
    split
    · rw [List.getElem_take]
    · rename_i hi
      have hm : (L.take m).length = m := by rw [List.length_take]; omega
      rw [hm] at hi
      by_cases e : i = m
      · subst e
        simp only [hm, Nat.sub_self, List.getElem_cons_zero]
        rw [gp_lt (by omega)]
      · have e : i = m + 1 := by omega
        subst e
        have : m + 1 - m = 1 := by omega
        simp [hm, this, gp_lt (show m + 1 < L.length by omega)]
theorem popL_short {p : Pt} {L : List Pt} (h : L.length ≤ 1) : popL p L = L := by
  match L, h with
  | [], _ => rfl
  | [a], _ => rfl
theorem popL_step {p : Pt} {L : List Pt} {m : Nat} (h : L.length = m + 2) (ht : trn (gp L m) (gp L (m + 1)) p ≤ 0) : popL p L = popL p (L.take (m + 1)) := by
  obtain ⟨r, e, hr⟩ := rev_two h
  have e2 : L.take (m + 1) = r ++ [gp L m] := by
    rw [show L.take (m + 1) = (r ++ [gp L m, gp L (m + 1)]).take (m + 1) from by rw [← e]]
    rw [show r ++ [gp L m, gp L (m + 1)] = (r ++ [gp L m]) ++ [gp L (m + 1)] from by simp, List.take_left' (by simp [hr])]
  unfold popL
  rw [e2, show L.reverse = gp L (m + 1) :: gp L m :: r.reverse from by rw [show L.reverse = (r ++ [gp L m, gp L (m + 1)]).reverse from by rw [← e]]; simp, popTo, if_pos ht]
  simp
theorem popL_stop {p : Pt} {L : List Pt} {m : Nat} (h : L.length = m + 2) (ht : ¬ trn (gp L m) (gp L (m + 1)) p ≤ 0) : popL p L = L := by
  obtain ⟨r, e, hr⟩ := rev_two h
  unfold popL
  rw [show L.reverse = gp L (m + 1) :: gp L m :: r.reverse from by rw [show L.reverse = (r ++ [gp L m, gp L (m + 1)]).reverse from by rw [← e]]; simp, popTo, if_neg ht]
  rw [show (gp L (m + 1) :: gp L m :: r.reverse).reverse = r ++ [gp L m, gp L (m + 1)] from by simp, ← e]
theorem halfR_snoc : ∀ (s st : List Pt) (p : Pt), halfR st (s ++ [p]) = p :: popTo p (halfR st s)
  | [], st, p => rfl
  | q :: s, st, p => by rw [List.cons_append, halfR, halfR, halfR_snoc s]
theorem halfL_take {s : List Pt} {k : Nat} (hk : k < s.length) : halfL (s.take (k + 1)) = popL ⟨pX s k, pY s k⟩ (halfL (s.take k)) ++ [⟨pX s k, pY s k⟩] := by
  have e : s.take (k + 1) = s.take k ++ [gp s k] := by rw [gp_lt hk, List.take_succ_eq_append_getElem hk]
  rw [e]
  unfold halfL popL
  rw [halfR_snoc, List.reverse_reverse, List.reverse_cons]; rfl
/-- All coordinates are small enough to reckon with. -/
def InB (s : List Pt) : Prop := ∀ p ∈ s, (-100000 ≤ p.x ∧ p.x ≤ 100000) ∧ (-100000 ≤ p.y ∧ p.y ≤ 100000)
theorem InB.at {s : List Pt} (h : InB s) {i : Nat} (hi : i < s.length) : (-100000 ≤ (pX s i) ∧ (pX s i) ≤ 100000) ∧ (-100000 ≤ (pY s i) ∧ (pY s i) ≤ 100000) := h (gp s i) (gp_mem hi)
def lenV : Value → Nat
  | .slice _ n _ => n
  | _ => 0
theorem halfL_sub {s : List Pt} {q : Pt} (h : q ∈ halfL s) : q ∈ s := by
  have pop : ∀ (p : Pt) (st : List Pt) (q : Pt), q ∈ popTo p st → q ∈ st := by
    intro p st
    induction st with
    | nil => intro q h; exact h
    | cons t st ih =>
      intro q h
      cases st with
      | nil => exact h
      | cons u r =>
        rw [popTo] at h
        split at h
        · exact List.mem_cons_of_mem _ (ih q h)
        · exact h
  have go : ∀ (s st : List Pt) (q : Pt), q ∈ halfR st s → q ∈ st ∨ q ∈ s := by
    intro s
    induction s with
    | nil => intro st q h; exact .inl h
    | cons p s ih =>
      intro st q h
      rw [halfR] at h
      rcases ih _ q h with h | h
      · rcases List.mem_cons.1 h with h | h
        · exact .inr (by simp [h])
        · exact .inl (pop p st q h)
      · exact .inr (List.mem_cons_of_mem _ h)
  unfold halfL at h
  rw [List.mem_reverse] at h
  rcases go s [] q h with h | h
  · cases h
  · exact h
theorem halfL_len (s : List Pt) : (halfL s).length ≤ s.length := by
  have pop : ∀ (p : Pt) (st : List Pt), (popTo p st).length ≤ st.length := by
    intro p st
    induction st with
    | nil => exact Nat.le_refl _
    | cons t st ih =>
      cases st with
      | nil => exact Nat.le_refl _
      | cons u r =>
        rw [popTo]
        split
        · have := ih; simp at this ⊢; omega
        · exact Nat.le_refl _
  have go : ∀ (s st : List Pt), (halfR st s).length ≤ st.length + s.length := by
    intro s
    induction s with
    | nil => intro st; exact Nat.le_refl _
    | cons p s ih =>
      intro st
      rw [halfR]
      have := ih (p :: popTo p st)
      have := pop p st
      simp at *; omega
  unfold halfL
  rw [List.length_reverse]
  have := go s []
  simpa using this
set_option maxHeartbeats 2000000 in
theorem half_any (s : List Pt) (A : Option Addr) (n c : Nat) (w : World) (hn : s.length = n) (hm : n ≤ 1000) (hb : InB s) (hs : PtsAt w w.heap.size A s) :
    Calls Tryz.prog 54 #[.slice A n c] w fun e w' => ∃ v, e = .returned v ∧ OwnP w' w.heap.size v (halfL s) ∧ ∃ x, w' = ext w x := by
  have HN := hide hn
  have HB := hide hb
  clear hn hb
  go_enter Tryz.func54, Tryz.ntmps54
  go_wp2
  go_loopw [3, 9] (fun u3 u9 wr => ∃ (k : Nat) (L : List Pt), k ≤ n ∧ u9 = .int .i64 k ∧ OwnP wr w.heap.size u3 L ∧ Hid (L = halfL (s.take k)) ∧ L.length ≤ k ∧ Below w.heap.size w wr) (fun _ u9 _ => n - (intOf u9).toNat)
  case atStart => exact ⟨0, [], Nat.zero_le _, rfl, OwnP.empty w w.heap.size 0 (Nat.le_refl _) #[] rfl (by simp [maxLen]), rfl, Nat.le_refl _, (by (repeat' (first | (with_reducible first | exact Below.refl _ _ | assumption | refine below_ext _ ?_ ?_ | refine Below.alloc ?_ ?_ _ | refine Below.drew ?_ | refine below_drewN ?_ _ | refine le_drewN _ ?_ | refine Below.setCell ?_ ?_ _ | exact Nat.le_refl _ | refine le_ext _ ?_ | refine le_alloc _ ?_ | refine le_setCell _ _ ?_ | refine le_drew ?_) | omega | (simp; done) | (simp; omega))))⟩
  case round =>
    obtain ⟨k, L, hk, rfl, hown, hL, hLl, hbel⟩ := hrel
    obtain ⟨A0, n0, c0, rfl⟩ := hown.slice
    have hsz := hbel.size
    by_cases hlt : k < n
    · obtain ⟨b, o, rfl, hbl, hc⟩ := hs (by rw [HN.out]; omega)
      obtain ⟨hx0, hy0⟩ := hc k (by rw [HN.out]; omega)
      have hx := (hbel.cell (p := ⟨b, o + k * 2, none⟩) hbl).trans hx0
      have hy := (hbel.cell (p := ⟨b, o + k * 2 + 1, none⟩) hbl).trans hy0
      have bp := HB.out.at (i := k) (by rw [HN.out]; exact hlt)
      obtain ⟨⟨bp1, bp2⟩, bp3, bp4⟩ := bp
      have HC := hide hc
      clear hc hx0 hy0
      have OWN0 := hide hown
      clear hown
      go_wp2_with fail
      go_loopw [3] (fun u3 wi => ∃ L' : List Pt, OwnP wi w.heap.size u3 L' ∧ Hid (popL ⟨pX s k, pY s k⟩ L' = popL ⟨pX s k, pY s k⟩ L) ∧ Hid (∀ q ∈ L', q ∈ L) ∧ L'.length ≤ k ∧ Below wr.heap.size wr wi ∧ wr.heap.size + 1 ≤ wi.heap.size ∧ wi.heap[wr.heap.size]? = some (.cells #[.int .i64 (pX s k), .int .i64 (pY s k)] 41 (0, 0))) (fun u3 _ => lenV u3)
      case atStart => exact ⟨L, OWN0.out.below (by (repeat' (first | (with_reducible first | exact Below.refl _ _ | assumption | refine below_ext _ ?_ ?_ | refine Below.alloc ?_ ?_ _ | refine Below.drew ?_ | refine below_drewN ?_ _ | refine le_drewN _ ?_ | refine Below.setCell ?_ ?_ _ | exact Nat.le_refl _ | refine le_ext _ ?_ | refine le_alloc _ ?_ | refine le_setCell _ _ ?_ | refine le_drew ?_) | omega | (simp; done) | (simp; omega)))), rfl, fun q h => h, hLl, (by (repeat' (first | (with_reducible first | exact Below.refl _ _ | assumption | refine below_ext _ ?_ ?_ | refine Below.alloc ?_ ?_ _ | refine Below.drew ?_ | refine below_drewN ?_ _ | refine le_drewN _ ?_ | refine Below.setCell ?_ ?_ _ | exact Nat.le_refl _ | refine le_ext _ ?_ | refine le_alloc _ ?_ | refine le_setCell _ _ ?_ | refine le_drew ?_) | omega | (simp; done) | (simp; omega)))), by simp, heap_alloc_new _ _⟩
      case round =>
        obtain ⟨L', hown', hpop, hsub, hl', hbi, hszi, hbox⟩ := hrel
        obtain ⟨A1, n1, c1, rfl⟩ := hown'.slice
        have hl1 := hown'.pts.1
        have hcm := hown'.pts.2.2.1
        have hnc := hown'.pts.2.1
        have hbw : Below w.heap.size w wr := hbel.trans (hbi.mono hbel.size)
        unfold maxLen at hcm
        have z0 := heap_cell hbox 0
        have z1 := heap_cell hbox 1
        simp at z0 z1
        have HBOX := hide hbox
        have OWN1 := hide hown'
        clear hbox hown'
        have hszi2 := hbi.size
        by_cases h1 : 1 < n1
        · obtain ⟨m, rfl⟩ : ∃ m, n1 = m + 2 := ⟨n1 - 2, by omega⟩
          obtain ⟨gb, rfl, g1, g2, _, hcs⟩ := OWN1.out.head (by omega)
          obtain ⟨x1, y1⟩ := hcs m (by omega)
          obtain ⟨x2, y2⟩ := hcs (m + 1) (by omega)
          have q1 := HB.out _ (List.mem_of_mem_take (halfL_sub (by rw [← hL.out]; exact hsub.out (gp L' m) (gp_mem (by omega)))))
          have q2 := HB.out _ (List.mem_of_mem_take (halfL_sub (by rw [← hL.out]; exact hsub.out (gp L' (m + 1)) (gp_mem (by omega)))))
          change ((-100000 ≤ (pX L' m) ∧ (pX L' m) ≤ 100000) ∧ (-100000 ≤ (pY L' m) ∧ (pY L' m) ≤ 100000)) at q1
          change ((-100000 ≤ (pX L' (m + 1)) ∧ (pX L' (m + 1)) ≤ 100000) ∧ (-100000 ≤ (pY L' (m + 1)) ∧ (pY L' (m + 1)) ≤ 100000)) at q2
          obtain ⟨⟨q11, q12⟩, q13, q14⟩ := q1
          obtain ⟨⟨q21, q22⟩, q23, q24⟩ := q2
          clear hcs
          have hg : decide ((1 : Int) < (m : Int) + 2) = true := decide_eq_true (by omega)
          have r1 : (m : Int) < (m : Int) + 2 := by omega
          have r2 : (m : Int) + 1 < (m : Int) + 2 := by omega
          cases ht : decide ((pX L' (m + 1) - pX L' m) * (pY s k - pY L' m) - (pY L' (m + 1) - pY L' m) * (pX s k - pX L' m) ≤ 0)
          · have HT := hide (of_decide_eq_false ht)
            have hst := popL_stop (p := ⟨pX s k, pY s k⟩) hl1 HT.out
            have HST := hide hst
            clear hst
            go_wp2_with fail
            refine wp_region_ext (by kernel_rfl) (by kernel_rfl) ?_
            repeat (go_big_quiet_step ((first | (go_at_call 107; exact Calls.in_ext (turn_any _ _ _ _ _ _ _ (by omega) (by omega) (by omega) (by omega) (by omega) (by omega))))))
            refine wpQuiet_nil ?_
            rintro _ hnq
            have hzq := ext_sz hnq
            obtain ⟨nq, rfl⟩ := hnq
            (try simp at hzq)
            have NEXT : Hid (L' ++ [⟨pX s k, pY s k⟩] = halfL (s.take (k + 1))) := hide (by rw [halfL_take (by rw [HN.out]; exact hlt), ← hL.out, ← hpop.out, HST.out])
            go_wp2_with (at_builtin; refine app_pt rfl _ _ rfl w.heap.size (.slice (some ⟨gb, 0, none⟩) (m + 2) c1) L' rfl (OWN1.out.below (by (repeat' (first | (with_reducible first | exact Below.refl _ _ | assumption | refine below_ext _ ?_ ?_ | refine Below.alloc ?_ ?_ _ | refine Below.drew ?_ | refine below_drewN ?_ _ | refine le_drewN _ ?_ | refine Below.setCell ?_ ?_ _ | exact Nat.le_refl _ | refine le_ext _ ?_ | refine le_alloc _ ?_ | refine le_setCell _ _ ?_ | refine le_drew ?_) | omega | (simp; done) | (simp; omega))))) (pX s k) (pY s k) _ _ rfl (by simp [go_sem]) (by simp [go_sem]) (by omega) (by simp; omega) ?_; intro v' w' hown' hb' hat hgr; obtain ⟨A2, n2, c2, rfl⟩ := hown'.slice; have HO3 := hide hown'; clear hown' hat hgr)
            exact ⟨⟨k + 1, L' ++ [⟨pX s k, pY s k⟩], by omega, by go_num, HO3.out, NEXT, by simp; omega, Below.trans (by (repeat' (first | (with_reducible first | exact Below.refl _ _ | assumption | refine below_ext _ ?_ ?_ | refine Below.alloc ?_ ?_ _ | refine Below.drew ?_ | refine below_drewN ?_ _ | refine le_drewN _ ?_ | refine Below.setCell ?_ ?_ _ | exact Nat.le_refl _ | refine le_ext _ ?_ | refine le_alloc _ ?_ | refine le_setCell _ _ ?_ | refine le_drew ?_) | omega | (simp; done) | (simp; omega)))) hb'⟩, by simp [intOf]; omega⟩
          · have HT := hide (of_decide_eq_true ht)
            go_wp2_with fail
            refine wp_region_ext (by kernel_rfl) (by kernel_rfl) ?_
            repeat (go_big_quiet_step ((first | (go_at_call 107; exact Calls.in_ext (turn_any _ _ _ _ _ _ _ (by omega) (by omega) (by omega) (by omega) (by omega) (by omega))))))
            refine wpQuiet_nil ?_
            rintro _ hnq
            have hzq := ext_sz hnq
            obtain ⟨nq, rfl⟩ := hnq
            (try simp at hzq)
            go_wp2_with fail
            have hst := popL_step (p := ⟨pX s k, pY s k⟩) hl1 HT.out
            exact ⟨⟨L'.take (m + 1), OwnP.take (OWN1.out.below (by (repeat' (first | (with_reducible first | exact Below.refl _ _ | assumption | refine below_ext _ ?_ ?_ | refine Below.alloc ?_ ?_ _ | refine Below.drew ?_ | refine below_drewN ?_ _ | refine le_drewN _ ?_ | refine Below.setCell ?_ ?_ _ | exact Nat.le_refl _ | refine le_ext _ ?_ | refine le_alloc _ ?_ | refine le_setCell _ _ ?_ | refine le_drew ?_) | omega | (simp; done) | (simp; omega))))) (by omega) (fun h => by cases h), hst.symm.trans hpop.out, fun q hq => hsub.out q (List.mem_of_mem_take hq), by rw [List.length_take]; omega, (by (repeat' (first | (with_reducible first | exact Below.refl _ _ | assumption | refine below_ext _ ?_ ?_ | refine Below.alloc ?_ ?_ _ | refine Below.drew ?_ | refine below_drewN ?_ _ | refine le_drewN _ ?_ | refine Below.setCell ?_ ?_ _ | exact Nat.le_refl _ | refine le_ext _ ?_ | refine le_alloc _ ?_ | refine le_setCell _ _ ?_ | refine le_drew ?_) | omega | (simp; done) | (simp; omega)))), by omega, ((ext_below _ nq).block _ (by omega)).trans HBOX.out⟩, by simp [lenV]⟩
        · have HST := hide (popL_short (p := ⟨pX s k, pY s k⟩) (L := L') (by omega))
          have hg : decide ((1 : Int) < (n1 : Int)) = false := decide_eq_false (by omega)
          go_wp2_with fail
          go_quiet (fail)
          have NEXT : Hid (L' ++ [⟨pX s k, pY s k⟩] = halfL (s.take (k + 1))) := hide (by rw [halfL_take (by rw [HN.out]; exact hlt), ← hL.out, ← hpop.out, HST.out])
          go_wp2_with (at_builtin; refine app_pt rfl _ _ rfl w.heap.size (.slice A1 n1 c1) L' rfl (OWN1.out.below (by (repeat' (first | (with_reducible first | exact Below.refl _ _ | assumption | refine below_ext _ ?_ ?_ | refine Below.alloc ?_ ?_ _ | refine Below.drew ?_ | refine below_drewN ?_ _ | refine le_drewN _ ?_ | refine Below.setCell ?_ ?_ _ | exact Nat.le_refl _ | refine le_ext _ ?_ | refine le_alloc _ ?_ | refine le_setCell _ _ ?_ | refine le_drew ?_) | omega | (simp; done) | (simp; omega))))) (pX s k) (pY s k) _ _ rfl (by simp [go_sem]) (by simp [go_sem]) (by omega) (by simp; omega) ?_; intro v' w' hown' hb' hat hgr; obtain ⟨A2, n2, c2, rfl⟩ := hown'.slice; have HO3 := hide hown'; clear hown' hat hgr)
          exact ⟨⟨k + 1, L' ++ [⟨pX s k, pY s k⟩], by omega, by go_num, HO3.out, NEXT, by simp; omega, Below.trans (by (repeat' (first | (with_reducible first | exact Below.refl _ _ | assumption | refine below_ext _ ?_ ?_ | refine Below.alloc ?_ ?_ _ | refine Below.drew ?_ | refine below_drewN ?_ _ | refine le_drewN _ ?_ | refine Below.setCell ?_ ?_ _ | exact Nat.le_refl _ | refine le_ext _ ?_ | refine le_alloc _ ?_ | refine le_setCell _ _ ?_ | refine le_drew ?_) | omega | (simp; done) | (simp; omega)))) hb'⟩, by simp [intOf]; omega⟩
    · have : k = n := by omega
      subst this
      have OWN0 := hide hown
      clear hown
      go_wp2
      go_ret
      exact ⟨_, rfl, by rw [show halfL s = L from by rw [hL.out, List.take_of_length_le (by rw [HN.out]; omega)]]; exact OWN0.out, ext_mk hbel⟩
set_option maxHeartbeats 2000000 in
theorem chain_any (s : List Pt) (A : Option Addr) (n c : Nat) (w : World) (hn : s.length = n) (hm : n ≤ 1000) (hb : InB s) (hs : PtsAt w w.heap.size A s) :
    Calls Tryz.prog 111 #[.slice A n c] w fun e w' => ∃ v, e = .returned v ∧ OwnP w' w.heap.size v (halfL s) ∧ ∃ x, w' = ext w x := by
  have HN := hide hn
  have HB := hide hb
  clear hn hb
  go_enter Tryz.func111, Tryz.ntmps111
  go_wp2
  go_loopw [3, 4] (fun u3 u9 wr => ∃ (k : Nat) (L : List Pt), k ≤ n ∧ u9 = .int .i64 k ∧ OwnP wr w.heap.size u3 L ∧ Hid (L = halfL (s.take k)) ∧ L.length ≤ k ∧ Below w.heap.size w wr) (fun _ u9 _ => n - (intOf u9).toNat)
  case atStart => exact ⟨0, [], Nat.zero_le _, rfl, OwnP.empty w w.heap.size 0 (Nat.le_refl _) #[] rfl (by simp [maxLen]), rfl, Nat.le_refl _, (by (repeat' (first | (with_reducible first | exact Below.refl _ _ | assumption | refine below_ext _ ?_ ?_ | refine Below.alloc ?_ ?_ _ | refine Below.drew ?_ | refine below_drewN ?_ _ | refine le_drewN _ ?_ | refine Below.setCell ?_ ?_ _ | exact Nat.le_refl _ | refine le_ext _ ?_ | refine le_alloc _ ?_ | refine le_setCell _ _ ?_ | refine le_drew ?_) | omega | (simp; done) | (simp; omega))))⟩
  case round =>
    obtain ⟨k, L, hk, rfl, hown, hL, hLl, hbel⟩ := hrel
    obtain ⟨A0, n0, c0, rfl⟩ := hown.slice
    have hsz := hbel.size
    by_cases hlt : k < n
    · obtain ⟨b, o, rfl, hbl, hc⟩ := hs (by rw [HN.out]; omega)
      obtain ⟨hx0, hy0⟩ := hc k (by rw [HN.out]; omega)
      have hx := (hbel.cell (p := ⟨b, o + k * 2, none⟩) hbl).trans hx0
      have hy := (hbel.cell (p := ⟨b, o + k * 2 + 1, none⟩) hbl).trans hy0
      have bp := HB.out.at (i := k) (by rw [HN.out]; exact hlt)
      obtain ⟨⟨bp1, bp2⟩, bp3, bp4⟩ := bp
      have HC := hide hc
      clear hc hx0 hy0
      have OWN0 := hide hown
      clear hown
      go_wp2_with fail
      go_loopw [3] (fun u3 wi => ∃ L' : List Pt, OwnP wi w.heap.size u3 L' ∧ Hid (popL ⟨pX s k, pY s k⟩ L' = popL ⟨pX s k, pY s k⟩ L) ∧ Hid (∀ q ∈ L', q ∈ L) ∧ L'.length ≤ k ∧ Below wr.heap.size wr wi) (fun u3 _ => lenV u3)
      case atStart => exact ⟨L, OWN0.out, rfl, fun q h => h, hLl, (by (repeat' (first | (with_reducible first | exact Below.refl _ _ | assumption | refine below_ext _ ?_ ?_ | refine Below.alloc ?_ ?_ _ | refine Below.drew ?_ | refine below_drewN ?_ _ | refine le_drewN _ ?_ | refine Below.setCell ?_ ?_ _ | exact Nat.le_refl _ | refine le_ext _ ?_ | refine le_alloc _ ?_ | refine le_setCell _ _ ?_ | refine le_drew ?_) | omega | (simp; done) | (simp; omega))))⟩
      case round =>
        obtain ⟨L', hown', hpop, hsub, hl', hbi⟩ := hrel
        obtain ⟨A1, n1, c1, rfl⟩ := hown'.slice
        have hl1 := hown'.pts.1
        have hcm := hown'.pts.2.2.1
        have hnc := hown'.pts.2.1
        have hbw : Below w.heap.size w wr := hbel.trans (hbi.mono hbel.size)
        unfold maxLen at hcm
        have z0 := (hbi.cell (p := ⟨b, o + k * 2, none⟩) (Nat.lt_of_lt_of_le hbl hbel.size)).trans hx
        have z1 := (hbi.cell (p := ⟨b, o + k * 2 + 1, none⟩) (Nat.lt_of_lt_of_le hbl hbel.size)).trans hy
        have OWN1 := hide hown'
        clear hown'
        have hszi2 := hbi.size
        by_cases h1 : 1 < n1
        · obtain ⟨m, rfl⟩ : ∃ m, n1 = m + 2 := ⟨n1 - 2, by omega⟩
          obtain ⟨gb, rfl, g1, g2, _, hcs⟩ := OWN1.out.head (by omega)
          obtain ⟨x1, y1⟩ := hcs m (by omega)
          obtain ⟨x2, y2⟩ := hcs (m + 1) (by omega)
          have q1 := HB.out _ (List.mem_of_mem_take (halfL_sub (by rw [← hL.out]; exact hsub.out (gp L' m) (gp_mem (by omega)))))
          have q2 := HB.out _ (List.mem_of_mem_take (halfL_sub (by rw [← hL.out]; exact hsub.out (gp L' (m + 1)) (gp_mem (by omega)))))
          change ((-100000 ≤ (pX L' m) ∧ (pX L' m) ≤ 100000) ∧ (-100000 ≤ (pY L' m) ∧ (pY L' m) ≤ 100000)) at q1
          change ((-100000 ≤ (pX L' (m + 1)) ∧ (pX L' (m + 1)) ≤ 100000) ∧ (-100000 ≤ (pY L' (m + 1)) ∧ (pY L' (m + 1)) ≤ 100000)) at q2
          obtain ⟨⟨q11, q12⟩, q13, q14⟩ := q1
          obtain ⟨⟨q21, q22⟩, q23, q24⟩ := q2
          clear hcs
          have hg : decide ((1 : Int) < (m : Int) + 2) = true := decide_eq_true (by omega)
          have r1 : (m : Int) < (m : Int) + 2 := by omega
          have r2 : (m : Int) + 1 < (m : Int) + 2 := by omega
          cases ht : decide ((pX L' (m + 1) - pX L' m) * (pY s k - pY L' m) - (pY L' (m + 1) - pY L' m) * (pX s k - pX L' m) ≤ 0)
          · have HT := hide (of_decide_eq_false ht)
            have hst := popL_stop (p := ⟨pX s k, pY s k⟩) hl1 HT.out
            have HST := hide hst
            clear hst
            go_wp2_with fail
            refine wp_region_ext (by kernel_rfl) (by kernel_rfl) ?_
            repeat (go_big_quiet_step ((first | (go_at_call 164; exact Calls.in_ext (scross_any _ _ _ _ _ _ _ (by omega) (by omega) (by omega) (by omega) (by omega) (by omega))))))
            refine wpQuiet_nil ?_
            rintro _ hnq
            have hzq := ext_sz hnq
            obtain ⟨nq, rfl⟩ := hnq
            (try simp at hzq)
            have NEXT : Hid (L' ++ [⟨pX s k, pY s k⟩] = halfL (s.take (k + 1))) := hide (by rw [halfL_take (by rw [HN.out]; exact hlt), ← hL.out, ← hpop.out, HST.out])
            go_wp2_with (at_builtin; refine app_pt rfl _ _ rfl w.heap.size (.slice (some ⟨gb, 0, none⟩) (m + 2) c1) L' rfl (OWN1.out.below (by (repeat' (first | (with_reducible first | exact Below.refl _ _ | assumption | refine below_ext _ ?_ ?_ | refine Below.alloc ?_ ?_ _ | refine Below.drew ?_ | refine below_drewN ?_ _ | refine le_drewN _ ?_ | refine Below.setCell ?_ ?_ _ | exact Nat.le_refl _ | refine le_ext _ ?_ | refine le_alloc _ ?_ | refine le_setCell _ _ ?_ | refine le_drew ?_) | omega | (simp; done) | (simp; omega))))) (pX s k) (pY s k) _ _ rfl (by simp [go_sem]) (by simp [go_sem]) (by omega) (by simp; omega) ?_; intro v' w' hown' hb' hat hgr; obtain ⟨A2, n2, c2, rfl⟩ := hown'.slice; have HO3 := hide hown'; clear hown' hat hgr)
            exact ⟨⟨k + 1, L' ++ [⟨pX s k, pY s k⟩], by omega, by go_num, HO3.out, NEXT, by simp; omega, Below.trans (by (repeat' (first | (with_reducible first | exact Below.refl _ _ | assumption | refine below_ext _ ?_ ?_ | refine Below.alloc ?_ ?_ _ | refine Below.drew ?_ | refine below_drewN ?_ _ | refine le_drewN _ ?_ | refine Below.setCell ?_ ?_ _ | exact Nat.le_refl _ | refine le_ext _ ?_ | refine le_alloc _ ?_ | refine le_setCell _ _ ?_ | refine le_drew ?_) | omega | (simp; done) | (simp; omega)))) hb'⟩, by simp [intOf]; omega⟩
          · have HT := hide (of_decide_eq_true ht)
            go_wp2_with fail
            refine wp_region_ext (by kernel_rfl) (by kernel_rfl) ?_
            repeat (go_big_quiet_step ((first | (go_at_call 164; exact Calls.in_ext (scross_any _ _ _ _ _ _ _ (by omega) (by omega) (by omega) (by omega) (by omega) (by omega))))))
            refine wpQuiet_nil ?_
            rintro _ hnq
            have hzq := ext_sz hnq
            obtain ⟨nq, rfl⟩ := hnq
            (try simp at hzq)
            go_wp2_with fail
            have hst := popL_step (p := ⟨pX s k, pY s k⟩) hl1 HT.out
            exact ⟨⟨L'.take (m + 1), OwnP.take (OWN1.out.below (by (repeat' (first | (with_reducible first | exact Below.refl _ _ | assumption | refine below_ext _ ?_ ?_ | refine Below.alloc ?_ ?_ _ | refine Below.drew ?_ | refine below_drewN ?_ _ | refine le_drewN _ ?_ | refine Below.setCell ?_ ?_ _ | exact Nat.le_refl _ | refine le_ext _ ?_ | refine le_alloc _ ?_ | refine le_setCell _ _ ?_ | refine le_drew ?_) | omega | (simp; done) | (simp; omega))))) (by omega) (fun h => by cases h), hst.symm.trans hpop.out, fun q hq => hsub.out q (List.mem_of_mem_take hq), by rw [List.length_take]; omega, (by (repeat' (first | (with_reducible first | exact Below.refl _ _ | assumption | refine below_ext _ ?_ ?_ | refine Below.alloc ?_ ?_ _ | refine Below.drew ?_ | refine below_drewN ?_ _ | refine le_drewN _ ?_ | refine Below.setCell ?_ ?_ _ | exact Nat.le_refl _ | refine le_ext _ ?_ | refine le_alloc _ ?_ | refine le_setCell _ _ ?_ | refine le_drew ?_) | omega | (simp; done) | (simp; omega))))⟩, by simp [lenV]⟩
        · have HST := hide (popL_short (p := ⟨pX s k, pY s k⟩) (L := L') (by omega))
          have hg : decide ((1 : Int) < (n1 : Int)) = false := decide_eq_false (by omega)
          go_wp2_with fail
          go_quiet (fail)
          have NEXT : Hid (L' ++ [⟨pX s k, pY s k⟩] = halfL (s.take (k + 1))) := hide (by rw [halfL_take (by rw [HN.out]; exact hlt), ← hL.out, ← hpop.out, HST.out])
          go_wp2_with (at_builtin; refine app_pt rfl _ _ rfl w.heap.size (.slice A1 n1 c1) L' rfl (OWN1.out.below (by (repeat' (first | (with_reducible first | exact Below.refl _ _ | assumption | refine below_ext _ ?_ ?_ | refine Below.alloc ?_ ?_ _ | refine Below.drew ?_ | refine below_drewN ?_ _ | refine le_drewN _ ?_ | refine Below.setCell ?_ ?_ _ | exact Nat.le_refl _ | refine le_ext _ ?_ | refine le_alloc _ ?_ | refine le_setCell _ _ ?_ | refine le_drew ?_) | omega | (simp; done) | (simp; omega))))) (pX s k) (pY s k) _ _ rfl (by simp [go_sem]) (by simp [go_sem]) (by omega) (by simp; omega) ?_; intro v' w' hown' hb' hat hgr; obtain ⟨A2, n2, c2, rfl⟩ := hown'.slice; have HO3 := hide hown'; clear hown' hat hgr)
          exact ⟨⟨k + 1, L' ++ [⟨pX s k, pY s k⟩], by omega, by go_num, HO3.out, NEXT, by simp; omega, Below.trans (by (repeat' (first | (with_reducible first | exact Below.refl _ _ | assumption | refine below_ext _ ?_ ?_ | refine Below.alloc ?_ ?_ _ | refine Below.drew ?_ | refine below_drewN ?_ _ | refine le_drewN _ ?_ | refine Below.setCell ?_ ?_ _ | exact Nat.le_refl _ | refine le_ext _ ?_ | refine le_alloc _ ?_ | refine le_setCell _ _ ?_ | refine le_drew ?_) | omega | (simp; done) | (simp; omega)))) hb'⟩, by simp [intOf]; omega⟩
    · have : k = n := by omega
      subst this
      have OWN0 := hide hown
      clear hown
      go_wp2
      go_ret
      exact ⟨_, rfl, by rw [show halfL s = L from by rw [hL.out, List.take_of_length_le (by rw [HN.out]; omega)]]; exact OWN0.out, ext_mk hbel⟩
end Go.Proofs.YtnddfdhfefconaaGreatDoor
/- The reference's hull: sorted, reversed, hull, sums. -/
set_option linter.unusedVariables false
set_option linter.unusedSimpArgs false
namespace Go.Proofs.YtnddfdhfefconaaGreatDoor
open Go.RowKit

theorem step_pts {ops : Array Oper} {o : Oper} {a : Act} {K : Act → World → Prop} {Q : Exit → Act → World → Prop} {E : Prop} {w : World} (hgd : o.guard = none) (s x : Operand)
    (ho : o.op = .call { callee := .builtin .append, args := #[s, x], argTypes := #[23, 23] })
    (base : Nat) (v : Value) (ps : List Pt) (hs : a.eval s = v) (hown : OwnP w base v ps) (A : Option Addr) (m c B : Nat) (qs : List Pt) (hx : a.eval x = .slice A m c) (hm : qs.length = m) (hq : PtsAt w B A qs) (hA : (A = none → m = 0) ∧ ∀ b o s, A = some ⟨b, o, s⟩ → s = none)
    (hlen : ps.length ≤ 2000000) (hlen2 : m ≤ 2000000) (hbase : base ≤ w.heap.size)
    (h : ∀ v' w', OwnP w' base v' (ps ++ qs) → Below base w w' → (v'.ownBlock = v.ownBlock ∨ v'.ownBlock = some w.heap.size) → w.grownBy w' v.ownBlock → K (a.put o.dst v') w') :
    if Region.wanted o (yielded ops a.tmps) = true then Oper.wp Tryz.prog o a w K Q else E := by
  have hw : Region.wanted o (yielded ops a.tmps) = true := by simp [Region.wanted, hgd]
  rw [if_pos hw]
  refine app_wp ptElt s x ho base v ps.length _ hs hown A m c (ptVals qs) hx (by rw [ptVals_len, hm]) hq.src hA.1 hA.2 (ptVals_one _) (by unfold maxLen; omega) (by omega) hbase fun v' w' h2 h3 h4 => ?_
  exact h v' w' (by unfold OwnP; rw [List.length_append, ptVals_app, hm]; exact h2) ((Below.refl _ _).grown h3 hbase hown.lt) h4 h3
theorem step_pt {ops : Array Oper} {o : Oper} {a : Act} {K : Act → World → Prop} {Q : Exit → Act → World → Prop} {E : Prop} {w : World} (hgd : o.guard = none) (s x : Operand)
    (ho : o.op = .call { callee := .builtin .append, args := #[s, x], argTypes := #[23, 23] })
    (base : Nat) (v : Value) (ps : List Pt) (hs : a.eval s = v) (hown : OwnP w base v ps) (p q : Int) (b c : Nat) (hx : a.eval x = .slice (some ⟨b, 0, none⟩) 1 c) (h0 : w.cell? ⟨b, 0, none⟩ = some (.int .i64 p)) (h1 : w.cell? ⟨b, 1, none⟩ = some (.int .i64 q))
    (hlen : ps.length ≤ 2000000) (hbase : base ≤ w.heap.size)
    (h : ∀ v' w', OwnP w' base v' (ps ++ [⟨p, q⟩]) → Below base w w' → (v'.ownBlock = v.ownBlock ∨ v'.ownBlock = some w.heap.size) → w.grownBy w' v.ownBlock → K (a.put o.dst v') w') :
    if Region.wanted o (yielded ops a.tmps) = true then Oper.wp Tryz.prog o a w K Q else E :=
  step_pts (B := b + 1) hgd s x ho base v ps hs hown (some ⟨b, 0, none⟩) 1 c [⟨p, q⟩] hx rfl (fun _ => ⟨b, 0, rfl, Nat.lt_succ_self _, fun i hi => by
    have : i = 0 := by simp at hi; exact hi
    subst this
    exact ⟨by simpa [pX, gp] using h0, by simpa [pY, gp] using h1⟩⟩) ⟨(fun h => by cases h), (fun b o s h => by injection h with h; injection h with _ _ h3; exact h3.symm)⟩ hlen (by omega) hbase h
theorem sortP_take {ps : List Pt} {k : Nat} (hk : k < ps.length) : sortP (ps.take (k + 1)) = insP ⟨pX ps k, pY ps k⟩ (sortP (ps.take k)) := by
  rw [List.take_succ_eq_append_getElem hk, ← gp_lt hk]
  unfold sortP
  rw [List.foldl_append]; rfl
theorem rev_drop {ps : List Pt} {m : Nat} (hm : m < ps.length) : (ps.drop m).reverse = (ps.drop (m + 1)).reverse ++ [⟨pX ps m, pY ps m⟩] := by
  rw [List.drop_eq_getElem_cons hm, List.reverse_cons, ← gp_lt hm]; rfl
theorem hullOf_two {l : List Pt} (h : (sortP l).length < 3) : sortP l = hullOf l := by
  unfold hullOf
  split
  · rfl
  · rename_i h2
    have e : (sortP l).length = 2 := by omega
    unfold lowL upL
    match hs : sortP l, e with
    | [a, b], _ => simp [halfL, halfR, popTo]
set_option maxHeartbeats 1000000 in
theorem ssorted_any (ps : List Pt) (A : Option Addr) (n c : Nat) (w : World) (hn : ps.length = n) (hm : n ≤ 1000) (hs : PtsAt w w.heap.size A ps) :
    Calls Tryz.prog 110 #[.slice A n c] w fun e w' => ∃ v, e = .returned v ∧ OwnP w' w.heap.size v (sortP ps) ∧ ∃ x, w' = ext w x := by
  have HN := hide hn
  clear hn
  go_enter Tryz.func110, Tryz.ntmps110
  go_wp2
  go_loopw [3, 4] (fun u3 u4 wr => ∃ (k : Nat) (L : List Pt), k ≤ n ∧ u4 = .int .i64 k ∧ OwnP wr w.heap.size u3 L ∧ Hid (L = sortP (ps.take k)) ∧ L.length ≤ k ∧ Below w.heap.size w wr) (fun _ u4 _ => n - (intOf u4).toNat)
  case atStart => exact ⟨0, [], Nat.zero_le _, rfl, OwnP.empty w w.heap.size 0 (Nat.le_refl _) #[] rfl (by simp [maxLen]), rfl, Nat.le_refl _, (by (repeat' (first | (with_reducible first | exact Below.refl _ _ | assumption | refine below_ext _ ?_ ?_ | refine Below.alloc ?_ ?_ _ | refine Below.drew ?_ | refine below_drewN ?_ _ | refine le_drewN _ ?_ | refine Below.setCell ?_ ?_ _ | exact Nat.le_refl _ | refine le_ext _ ?_ | refine le_alloc _ ?_ | refine le_setCell _ _ ?_ | refine le_drew ?_) | omega | (simp; done) | (simp; omega))))⟩
  case round =>
    obtain ⟨k, L, hk, rfl, hown, hL, hLl, hbel⟩ := hrel
    obtain ⟨A0, n0, c0, rfl⟩ := hown.slice
    have hsz := hbel.size
    have hl0 := hown.pts.1
    have OWN0 := hide hown
    clear hown
    by_cases hlt : k < n
    · obtain ⟨b, o, rfl, hbl, hc⟩ := hs (by rw [HN.out]; omega)
      obtain ⟨hx0, hy0⟩ := hc k (by rw [HN.out]; omega)
      have hx := (hbel.cell (p := ⟨b, o + k * 2, none⟩) hbl).trans hx0
      have hy := (hbel.cell (p := ⟨b, o + k * 2 + 1, none⟩) hbl).trans hy0
      clear hc hx0 hy0
      have NX := hide (sortP_take (ps := ps) (k := k) (by rw [HN.out]; exact hlt))
      have NL := hide (insP_len (⟨pX ps k, pY ps k⟩ : Pt) L)
      go_wp2_with (go_at_call 163; refine (addPoint_any L (pX ps k) (pY ps k) A0 n0 c0 w.heap.size _ (by omega) (by omega) OWN0.out).mono ?_; rintro e w' ⟨v', rfl, hown', hw'⟩; have hz := ext_sz hw'; obtain ⟨y, rfl⟩ := hw'; have OWN1 := hide hown'; clear hown')
      exact ⟨⟨k + 1, _, by omega, by go_num, OWN1.out, hide (by rw [NX.out, hL.out]), by have := NL.out; omega, (by (repeat' (first | (with_reducible first | exact Below.refl _ _ | assumption | refine below_ext _ ?_ ?_ | refine Below.alloc ?_ ?_ _ | refine Below.drew ?_ | refine below_drewN ?_ _ | refine le_drewN _ ?_ | refine Below.setCell ?_ ?_ _ | exact Nat.le_refl _ | refine le_ext _ ?_ | refine le_alloc _ ?_ | refine le_setCell _ _ ?_ | refine le_drew ?_) | omega | (simp; done) | (simp; omega))))⟩, by simp [intOf]; omega⟩
    · have : k = n := by omega
      subst this
      go_wp2
      go_ret
      exact ⟨_, rfl, by rw [show sortP ps = L from by rw [hL.out, List.take_of_length_le (by rw [HN.out]; omega)]]; exact OWN0.out, ext_mk hbel⟩
set_option maxHeartbeats 1000000 in
theorem reversed_any (ps : List Pt) (A : Option Addr) (n c : Nat) (w : World) (hn : ps.length = n) (hm : n ≤ 1000) (hs : PtsAt w w.heap.size A ps) :
    Calls Tryz.prog 71 #[.slice A n c] w fun e w' => ∃ v, e = .returned v ∧ OwnP w' w.heap.size v ps.reverse ∧ ∃ x, w' = ext w x := by
  have HN := hide hn
  clear hn
  go_enter Tryz.func71, Tryz.ntmps71
  go_wp2
  go_loopw [3, 4] (fun u3 u4 wr => ∃ (k : Nat) (z : Int) (L : List Pt), k ≤ n ∧ u4 = .int .i64 z ∧ z = (k : Int) - 1 ∧ OwnP wr w.heap.size u3 L ∧ Hid (L = (ps.drop k).reverse) ∧ L.length ≤ n - k ∧ Below w.heap.size w wr) (fun _ u4 _ => (intOf u4 + 1).toNat)
  case atStart => exact ⟨n, (n : Int) - 1, [], Nat.le_refl _, by go_num, rfl, OwnP.empty w w.heap.size 0 (Nat.le_refl _) #[] rfl (by simp [maxLen]), hide (by rw [List.drop_of_length_le (by rw [HN.out]; exact Nat.le_refl _)]; rfl), Nat.zero_le _, (by (repeat' (first | (with_reducible first | exact Below.refl _ _ | assumption | refine below_ext _ ?_ ?_ | refine Below.alloc ?_ ?_ _ | refine Below.drew ?_ | refine below_drewN ?_ _ | refine le_drewN _ ?_ | refine Below.setCell ?_ ?_ _ | exact Nat.le_refl _ | refine le_ext _ ?_ | refine le_alloc _ ?_ | refine le_setCell _ _ ?_ | refine le_drew ?_) | omega | (simp; done) | (simp; omega))))⟩
  case round =>
    obtain ⟨k, z, L, hk, rfl, hz, hown, hL, hLl, hbel⟩ := hrel
    obtain ⟨A0, n0, c0, rfl⟩ := hown.slice
    have hsz := hbel.size
    have hl0 := hown.pts.1
    have OWN0 := hide hown
    clear hown
    by_cases hlt : 0 < k
    · obtain ⟨m, rfl⟩ : ∃ m, k = m + 1 := ⟨k - 1, by omega⟩
      obtain rfl : z = (m : Int) := by omega
      clear hz
      obtain ⟨b, o, rfl, hbl, hc⟩ := hs (by rw [HN.out]; omega)
      obtain ⟨hx0, hy0⟩ := hc m (by rw [HN.out]; omega)
      have hx := (hbel.cell (p := ⟨b, o + m * 2, none⟩) hbl).trans hx0
      have hy := (hbel.cell (p := ⟨b, o + m * 2 + 1, none⟩) hbl).trans hy0
      clear hc hx0 hy0
      have NX := hide (rev_drop (ps := ps) (m := m) (by rw [HN.out]; omega))
      have hml : (m : Int) < (n : Int) := by omega
      go_wp2_with (at_builtin; refine app_pt rfl _ _ rfl w.heap.size (.slice A0 n0 c0) L rfl (OWN0.out.below (by (repeat' (first | (with_reducible first | exact Below.refl _ _ | assumption | refine below_ext _ ?_ ?_ | refine Below.alloc ?_ ?_ _ | refine Below.drew ?_ | refine below_drewN ?_ _ | refine le_drewN _ ?_ | refine Below.setCell ?_ ?_ _ | exact Nat.le_refl _ | refine le_ext _ ?_ | refine le_alloc _ ?_ | refine le_setCell _ _ ?_ | refine le_drew ?_) | omega | (simp; done) | (simp; omega))))) (pX ps m) (pY ps m) _ _ rfl (by simp [go_sem]) (by simp [go_sem]) (by omega) (by simp; omega) ?_; intro v' w' hown' hb' hat hgr; obtain ⟨A2, n2, c2, rfl⟩ := hown'.slice; have HO3 := hide hown'; clear hown' hat hgr)
      exact ⟨⟨m, (m : Int) - 1, L ++ [⟨pX ps m, pY ps m⟩], by omega, by go_num, rfl, HO3.out, hide (by rw [NX.out, hL.out]), by simp; omega, Below.trans (by (repeat' (first | (with_reducible first | exact Below.refl _ _ | assumption | refine below_ext _ ?_ ?_ | refine Below.alloc ?_ ?_ _ | refine Below.drew ?_ | refine below_drewN ?_ _ | refine le_drewN _ ?_ | refine Below.setCell ?_ ?_ _ | exact Nat.le_refl _ | refine le_ext _ ?_ | refine le_alloc _ ?_ | refine le_setCell _ _ ?_ | refine le_drew ?_) | omega | (simp; done) | (simp; omega)))) hb'⟩, by first | (simp [intOf]; done) | (simp [intOf]; omega)⟩
    · obtain rfl : k = 0 := by omega
      obtain rfl : z = -1 := by omega
      clear hz
      go_wp2
      go_ret
      exact ⟨_, rfl, by rw [show ps.reverse = L from by rw [hL.out]; rfl]; exact OWN0.out, ext_mk hbel⟩
theorem popTo_len (p : Pt) : ∀ st : List Pt, st ≠ [] → 1 ≤ (popTo p st).length
  | [], h => absurd rfl h
  | [a], _ => by simp [popTo]
  | a :: b :: r, _ => by
    rw [popTo]
    split
    · exact popTo_len p (b :: r) (by simp)
    · simp
theorem halfL_pos {s : List Pt} (h : s ≠ []) : 1 ≤ (halfL s).length := by
  unfold halfL
  rw [List.length_reverse]
  have e : s = s.dropLast ++ [s.getLast h] := (List.dropLast_concat_getLast h).symm
  rw [e, halfR_snoc]
  simp
theorem take_dropLast {l : List Pt} {m : Nat} (h : l.length = m + 1) : l.take m = l.dropLast := by
  rw [List.dropLast_eq_take, h]; rfl
theorem hullOf_more {l : List Pt} (h : ¬ (sortP l).length < 2) : (lowL l).dropLast ++ (upL l).dropLast = hullOf l := by
  unfold hullOf; rw [if_neg h]
theorem InB.sort {s : List Pt} (h : InB s) : InB (sortP s) := fun p hp => h p (sortP_mem.1 hp)
theorem InB.rev {s : List Pt} (h : InB s) : InB s.reverse := fun p hp => h p (List.mem_reverse.1 hp)
set_option maxHeartbeats 1000000 in
theorem shull_any (ps : List Pt) (A : Option Addr) (n c : Nat) (w : World) (hn : ps.length = n) (hm : n ≤ 1000) (hb : InB ps) (hs : PtsAt w w.heap.size A ps) :
    Calls Tryz.prog 59 #[.slice A n c] w fun e w' => ∃ v, e = .returned v ∧ OwnP w' w.heap.size v (hullOf ps) ∧ ∃ x, w' = ext w x := by
  have SL := hide (sortP_len ps)
  have HN := hide hn
  go_enter Tryz.func59, Tryz.ntmps59
  go_wp2_with fail
  refine (ssorted_any ps A n c _ hn hm hs).mono ?_
  rintro e w1 ⟨v1, rfl, hown1, x1, rfl⟩
  obtain ⟨A1, n1, c1, rfl⟩ := hown1.slice
  have hl1 := hown1.pts.1
  have P1 := hide hown1.pts.2.2.2
  have O1 := hide hown1
  have hs1 := ext_size w x1
  have hm1 : n1 ≤ 1000 := by have := SL.out; omega
  clear hown1
  have HL1 := hide hl1
  clear hn hs
  by_cases h3 : n1 < 3
  · have HT := hide (hullOf_two (l := ps) (by rw [HL1.out]; exact h3))
    clear hl1
    go_wp2
    go_ret
    exact ⟨_, rfl, by rw [← HT.out]; exact O1.out, (ext_mk (by (repeat' (first | (with_reducible first | exact Below.refl _ _ | assumption | refine below_ext _ ?_ ?_ | refine Below.alloc ?_ ?_ _ | refine Below.drew ?_ | refine below_drewN ?_ _ | refine le_drewN _ ?_ | refine Below.setCell ?_ ?_ _ | exact Nat.le_refl _ | refine le_ext _ ?_ | refine le_alloc _ ?_ | refine le_setCell _ _ ?_ | refine le_drew ?_) | omega | (simp; done) | (simp; omega)))))⟩
  · have HT := hide (hullOf_more (l := ps) (by rw [HL1.out]; omega))
    have hne : sortP ps ≠ [] := fun h => by rw [h] at hl1; simp at hl1; omega
    have LP1 := hide (halfL_pos hne)
    have LP2 := hide (halfL_pos (s := (sortP ps).reverse) (by simpa using hne))
    clear hne hl1
    have hd : decide ((n1 : Int) < 3) = false := decide_eq_false (by omega)
    generalize hW1 : ext w x1 = w1 at *
    have HB1 := hide (show Below w.heap.size w w1 from by rw [← hW1]; exact ext_below _ _)
    clear hW1
    go_wp2_with fail
    refine (chain_any (sortP ps) A1 n1 c1 _ HL1.out hm1 hb.sort P1.out).mono ?_
    rintro e w2 ⟨v2, rfl, hown2, x2, rfl⟩
    obtain ⟨A2, n2, c2, rfl⟩ := hown2.slice
    generalize hW2 : ext w1 x2 = w2 at *
    have HB2 := hide (show Below w1.heap.size w1 w2 from by rw [← hW2]; exact ext_below _ _)
    clear hW2
    have hs2 := HB2.out.size
    have O2 := hide hown2
    have P1b := hide (P1.out.to HB2.out)
    clear hown2
    go_wp2_with fail
    refine (reversed_any (sortP ps) A1 n1 c1 _ HL1.out hm1 P1b.out).mono ?_
    rintro e w3 ⟨v3, rfl, hown3, x3, rfl⟩
    obtain ⟨A3, n3, c3, rfl⟩ := hown3.slice
    generalize hW3 : ext w2 x3 = w3 at *
    have HB3 := hide (show Below w2.heap.size w2 w3 from by rw [← hW3]; exact ext_below _ _)
    clear hW3
    have hs3 := HB3.out.size
    have hl3 := hown3.pts.1
    have P3 := hide hown3.pts.2.2.2
    rw [List.length_reverse, HL1.out] at hl3
    subst hl3
    clear hown3
    have HL3 : Hid ((sortP ps).reverse.length = n1) := hide (by rw [List.length_reverse, HL1.out])
    go_wp2_with fail
    refine (chain_any (sortP ps).reverse A3 n1 c3 _ HL3.out hm1 hb.sort.rev P3.out).mono ?_
    rintro e w4 ⟨v4, rfl, hown4, x4, rfl⟩
    obtain ⟨A4, n4, c4, rfl⟩ := hown4.slice
    generalize hW4 : ext w3 x4 = w4 at *
    have HB4 := hide (show Below w3.heap.size w3 w4 from by rw [← hW4]; exact ext_below _ _)
    clear hW4
    have hs4 := HB4.out.size
    have O2b := O2.out.below (w := w2) (HB3.out.trans (HB4.out.mono hs3))
    have l2 := O2b.pts.1
    have l4 := hown4.pts.1
    obtain ⟨m2, rfl⟩ : ∃ m, n2 = m + 1 := ⟨n2 - 1, by have := LP1.out; omega⟩
    obtain ⟨m4, rfl⟩ : ∃ m, n4 = m + 1 := ⟨n4 - 1, by have := LP2.out; omega⟩
    obtain ⟨g2, rfl, ga, gb, _, _⟩ := O2b.head (by omega)
    obtain ⟨g4, rfl, gc, gd, _, _⟩ := hown4.head (by omega)
    have c2a := O2b.pts.2.1
    have c2b := O2b.pts.2.2.1
    have c4a := hown4.pts.2.1
    have c4b := hown4.pts.2.2.1
    have T2 := O2b.take (k := m2) (by omega) (fun h => by cases h)
    have T4 := hown4.take (k := m4) (by omega) (fun h => by cases h)
    rw [take_dropLast l2] at T2
    rw [take_dropLast l4] at T4
    have T2H := hide (T2.below (W := w4.drew) (by (repeat' (first | (with_reducible first | exact Below.refl _ _ | assumption | refine below_ext _ ?_ ?_ | refine Below.alloc ?_ ?_ _ | refine Below.drew ?_ | refine below_drewN ?_ _ | refine le_drewN _ ?_ | refine Below.setCell ?_ ?_ _ | exact Nat.le_refl _ | refine le_ext _ ?_ | refine le_alloc _ ?_ | refine le_setCell _ _ ?_ | refine le_drew ?_) | omega | (simp; done) | (simp; omega)))))
    have T4H := hide ((T4.below (W := w4.drew) (by (repeat' (first | (with_reducible first | exact Below.refl _ _ | assumption | refine below_ext _ ?_ ?_ | refine Below.alloc ?_ ?_ _ | refine Below.drew ?_ | refine below_drewN ?_ _ | refine le_drewN _ ?_ | refine Below.setCell ?_ ?_ _ | exact Nat.le_refl _ | refine le_ext _ ?_ | refine le_alloc _ ?_ | refine le_setCell _ _ ?_ | refine le_drew ?_) | omega | (simp; done) | (simp; omega))))).pts.2.2.2)
    have LL : Hid ((halfL (sortP ps).reverse).dropLast.length = m4) := hide (by rw [List.length_dropLast, l4]; rfl)
    have LL2 : (halfL (sortP ps)).dropLast.length ≤ 2000000 := by have := halfL_len (sortP ps); have := HL1.out; rw [List.length_dropLast, l2]; omega
    have LL4 : m4 ≤ 2000000 := by have := halfL_len (sortP ps).reverse; have := HL3.out; omega
    have FF : Hid ((some (⟨g4, 0, none⟩ : Addr) = none → m4 = 0) ∧ ∀ b o s, some (⟨g4, 0, none⟩ : Addr) = some ⟨b, o, s⟩ → s = none) := ⟨(fun h => by cases h), (fun b o s h => by injection h with h; injection h with _ _ h; exact h.symm)⟩
    have SZ : w1.heap.size ≤ w4.drew.heap.size := by show _ ≤ w4.heap.size; omega
    unfold maxLen at c2b c4b
    clear T2 T4 hown4 O2b O2 l2 l4
    have e1 : IntKind.i64.wrap ((m2 : Int) + 1 - 1) = m2 := by rw [Int.add_sub_cancel]; exact IntWalk.i64_in _ (by omega)
    have e2 : IntKind.i64.wrap ((m4 : Int) + 1 - 1) = m4 := by rw [Int.add_sub_cancel]; exact IntWalk.i64_in _ (by omega)
    have e3 : IntKind.i64.wrap (m2 : Int) = m2 := IntWalk.i64_in _ (by omega)
    have e4 : IntKind.i64.wrap (m4 : Int) = m4 := IntWalk.i64_in _ (by omega)
    have q1 : (m2 : Int) ≤ (c2 : Int) := by omega
    have q2 : (m4 : Int) ≤ (c4 : Int) := by omega
    go_wp2_with fail
    go_region_held3 (fun W => True) (exact trivial) (first | (refine step_pts (by rfl) (.tmp 21) (.tmp 26) (by rfl) w1.heap.size (.slice (some ⟨g2, 0, none⟩) m2 c2) (halfL (sortP ps)).dropLast (by rfl) T2H.out (some ⟨g4, 0, none⟩) m4 c4 w4.heap.size (halfL (sortP ps).reverse).dropLast (by rfl) LL.out T4H.out FF.out LL2 LL4 SZ ?_; intro v7 w7 hown7 hb7 hat7 hgr7; obtain ⟨A7, n7, c7, rfl⟩ := hown7.slice; have O7 := hide hown7; have B7 := hide hb7; clear hown7 hat7 hgr7))
    go_wp2_with fail
    go_ret
    have HT2 := HT.out
    unfold lowL upL at HT2
    exact ⟨_, rfl, by rw [← HT2]; exact O7.out.base hs1, ext_mk ((((HB1.out.trans (HB2.out.mono hs1)).trans (HB3.out.mono (by omega))).trans (HB4.out.mono (by omega))).trans (Below.trans (by (repeat' (first | (with_reducible first | exact Below.refl _ _ | assumption | refine below_ext _ ?_ ?_ | refine Below.alloc ?_ ?_ _ | refine Below.drew ?_ | refine below_drewN ?_ _ | refine le_drewN _ ?_ | refine Below.setCell ?_ ?_ _ | exact Nat.le_refl _ | refine le_ext _ ?_ | refine le_alloc _ ?_ | refine le_setCell _ _ ?_ | refine le_drew ?_) | omega | (simp; done) | (simp; omega)))) (B7.out.mono hs1)))⟩
end Go.Proofs.YtnddfdhfefconaaGreatDoor
