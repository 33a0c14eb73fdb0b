
/- The reference's sorting by insertion: pointLess, addPoint, sorted. -/
import Derived.Test.YtelhidonhldjeaaSorted
import Derived.Outline
set_option linter.unusedVariables false
set_option linter.unusedSimpArgs false
namespace Go.Proofs.Ytelhidonhldjeaa
open Go.RowKit

theorem PtsAt.pre {w : World} {B : Nat} {A : Option Addr} {ps : List Pt} (h : PtsAt w B A ps) (k : Nat) : PtsAt w B A (ps.take k) := fun h0 => by
  rw [List.length_take] at h0
  obtain ⟨b, o, hA, hB, hc⟩ := h (by omega)
  refine ⟨b, o, hA, hB, fun i hi => ?_⟩
  rw [List.length_take] at hi
  have e : gp (ps.take k) i = gp ps i := by
    unfold gp; rw [List.getD_eq_getElem?_getD, List.getD_eq_getElem?_getD, List.getElem?_take, if_pos (by omega)]
  unfold pX pY
  rw [e]
  exact hc i (by omega)
theorem PtsAt.none_ (w : World) (B : Nat) (A : Option Addr) : PtsAt w B A [] := fun h => absurd h (Nat.lt_irrefl 0)
theorem insP_at {p : Pt} : ∀ {L : List Pt} {k : Nat}, k ≤ L.length → (∀ i, i < k → ltP (gp L i) p) → (k < L.length → ¬ ltP (gp L k) p) → insP p L = if k < L.length ∧ gp L k = p then L else L.take k ++ p :: L.drop k
  | [], k, hk, _, _ => by simp at hk; subst hk; simp [insP]
  | a :: r, 0, _, _, h => by
    have h := h (by simp)
    have e : gp (a :: r) 0 = a := rfl
    rw [e] at h ⊢
    rw [insP, if_neg h]
    by_cases ha : a = p
    · rw [if_pos ha, if_pos ⟨by simp, ha⟩]
    · rw [if_neg ha, if_neg (fun hh => ha hh.2)]; simp
  | a :: r, k + 1, hk, h1, h2 => by
    have ha := h1 0 (by omega)
    have e : gp (a :: r) 0 = a := rfl
    rw [e] at ha
    have es : ∀ i, gp (a :: r) (i + 1) = gp r i := fun i => by simp [gp]
    rw [insP, if_pos ha, insP_at (L := r) (k := k) (by simpa using hk) (fun i hi => by rw [← es]; exact h1 (i + 1) (by omega)) (fun hh => by rw [← es]; exact h2 (by simpa using hh)), es]
    by_cases hc : k < r.length ∧ gp r k = p
    · rw [if_pos hc, if_pos ⟨by simpa using hc.1, hc.2⟩]
    · rw [if_neg hc, if_neg (fun hh => hc ⟨by simpa using hh.1, hh.2⟩)]; simp
set_option maxHeartbeats 400000 in
theorem pointLess_any (a b c d : Int) (w : World) : Calls Try.prog 119 #[.agg #[.int .i64 a, .int .i64 b], .agg #[.int .i64 c, .int .i64 d]] w fun e w' => e = .returned (.bool (decide (ltP ⟨a, b⟩ ⟨c, d⟩))) ∧ ∃ n, w' = ext w n := by
  have HL : Hid (∀ v : Bool, ((a < c ∨ (a = c ∧ b < d)) ↔ v = true) → decide (ltP ⟨a, b⟩ ⟨c, d⟩) = v) := hide (fun v hv => by
    rw [Bool.eq_iff_iff, decide_eq_true_iff]; exact hv)
  by_cases h1 : a < c
  · have e := hide (HL.out true (by simp; omega))
    have hd : decide (a < c) = true := decide_eq_true h1
    go_enter Try.func119, Try.ntmps119
    go_wp2
    go_returns
    exact ⟨ret_bool e.out.symm, (ext_mk (by (repeat' (first | (with_reducible exact Below.refl _ _) | (with_reducible assumption) | (with_reducible refine below_ext _ ?_ ?_) | (with_reducible refine Below.alloc ?_ ?_ _) | (with_reducible refine Below.drew ?_) | (with_reducible refine below_drewN ?_ _) | (with_reducible refine le_drewN _ ?_) | (with_reducible refine Below.setCell ?_ ?_ _) | (with_reducible exact Nat.le_refl _) | (with_reducible refine le_ext _ ?_) | (with_reducible refine le_alloc _ ?_) | (with_reducible refine le_setCell _ _ ?_) | (with_reducible refine le_drew ?_) | omega | (simp; done) | (simp; omega)))))⟩
  · have hd : decide (a < c) = false := decide_eq_false h1
    by_cases h2 : a = c
    · have hd2 : (a == c) = true := by simpa using h2
      by_cases h3 : b < d
      · have e := hide (HL.out true (by simp; omega))
        have hd3 : decide (b < d) = true := decide_eq_true h3
        clear h2
        go_enter Try.func119, Try.ntmps119
        go_wp2
        go_returns
        exact ⟨ret_bool e.out.symm, (ext_mk (by (repeat' (first | (with_reducible exact Below.refl _ _) | (with_reducible assumption) | (with_reducible refine below_ext _ ?_ ?_) | (with_reducible refine Below.alloc ?_ ?_ _) | (with_reducible refine Below.drew ?_) | (with_reducible refine below_drewN ?_ _) | (with_reducible refine le_drewN _ ?_) | (with_reducible refine Below.setCell ?_ ?_ _) | (with_reducible exact Nat.le_refl _) | (with_reducible refine le_ext _ ?_) | (with_reducible refine le_alloc _ ?_) | (with_reducible refine le_setCell _ _ ?_) | (with_reducible refine le_drew ?_) | omega | (simp; done) | (simp; omega)))))⟩
      · have e := hide (HL.out false (by simp; omega))
        have hd3 : decide (b < d) = false := decide_eq_false h3
        clear h2
        go_enter Try.func119, Try.ntmps119
        go_wp2
        go_returns
        exact ⟨ret_bool e.out.symm, (ext_mk (by (repeat' (first | (with_reducible exact Below.refl _ _) | (with_reducible assumption) | (with_reducible refine below_ext _ ?_ ?_) | (with_reducible refine Below.alloc ?_ ?_ _) | (with_reducible refine Below.drew ?_) | (with_reducible refine below_drewN ?_ _) | (with_reducible refine le_drewN _ ?_) | (with_reducible refine Below.setCell ?_ ?_ _) | (with_reducible exact Nat.le_refl _) | (with_reducible refine le_ext _ ?_) | (with_reducible refine le_alloc _ ?_) | (with_reducible refine le_setCell _ _ ?_) | (with_reducible refine le_drew ?_) | omega | (simp; done) | (simp; omega)))))⟩
    · have e := hide (HL.out false (by simp; omega))
      have hd2 : (a == c) = false := by simpa using h2
      go_enter Try.func119, Try.ntmps119
      go_wp2
      go_returns
      exact ⟨ret_bool e.out.symm, (ext_mk (by (repeat' (first | (with_reducible exact Below.refl _ _) | (with_reducible assumption) | (with_reducible refine below_ext _ ?_ ?_) | (with_reducible refine Below.alloc ?_ ?_ _) | (with_reducible refine Below.drew ?_) | (with_reducible refine below_drewN ?_ _) | (with_reducible refine le_drewN _ ?_) | (with_reducible refine Below.setCell ?_ ?_ _) | (with_reducible exact Nat.le_refl _) | (with_reducible refine le_ext _ ?_) | (with_reducible refine le_alloc _ ?_) | (with_reducible refine le_setCell _ _ ?_) | (with_reducible refine le_drew ?_) | omega | (simp; done) | (simp; omega)))))⟩
theorem OwnP.some_ {w : World} {base : Nat} {A : Option Addr} {n c : Nat} {ps : List Pt} (h : OwnP w base (.slice A n c) ps) : (A = none ∧ n = 0 ∧ c = 0) ∨ ∃ g, A = some ⟨g, 0, none⟩ ∧ base ≤ g ∧ g < w.heap.size := by
  have hl := h.lt
  have hl2 := h.lt2
  unfold OwnP at h
  rcases h.2 with ⟨hv, h1⟩ | ⟨g, cap, cur, hv, hg, hgg, _⟩
  · injection hv with e1 e2 e3
    exact .inl ⟨e1, e2, e3⟩
  · injection hv with e1 e2 e3
    exact .inr ⟨g, e1, hg, heap_lt hgg⟩
set_option maxHeartbeats 1000000 in
theorem addPoint_any (ps : List Pt) (x y : Int) (A : Option Addr) (n c base : Nat) (w : World) (hm : n ≤ 1000000) (hb : base ≤ w.heap.size) (hown : OwnP w base (.slice A n c) ps) :
    Calls Try.prog 149 #[.slice A n c, .agg #[.int .i64 x, .int .i64 y]] w fun e w' => ∃ v, e = .returned v ∧ OwnP w' base v (insP ⟨x, y⟩ ps) ∧ ∃ q, w' = ext w q := by
  have HL := hide hown.pts.1
  have hnc := hown.pts.2.1
  have hcm : c ≤ 9223372036854775807 := by have := hown.pts.2.2.1; unfold maxLen at this; exact this
  have OWN := hide hown
  have hsome := hown.some_
  clear hown
  go_enter Try.func149, Try.ntmps149
  go_wp2
  go_loopw [5] (fun u5 wr => ∃ k : Nat, k ≤ n ∧ u5 = .int .i64 k ∧ Hid (∀ i, i < k → ltP (gp ps i) ⟨x, y⟩) ∧ Hid (wr.heap[w.heap.size]? = some (.cells #[.int .i64 x, .int .i64 y] 39 (0, 0))) ∧ Below w.heap.size w wr ∧ w.heap.size + 1 ≤ wr.heap.size) (fun u5 _ => n - (intOf u5).toNat)
  case atStart => exact ⟨0, Nat.zero_le _, rfl, (fun i hi => by omega), heap_alloc_new w _, (by (repeat' (first | (with_reducible exact Below.refl _ _) | (with_reducible assumption) | (with_reducible refine below_ext _ ?_ ?_) | (with_reducible refine Below.alloc ?_ ?_ _) | (with_reducible refine Below.drew ?_) | (with_reducible refine below_drewN ?_ _) | (with_reducible refine le_drewN _ ?_) | (with_reducible refine Below.setCell ?_ ?_ _) | (with_reducible exact Nat.le_refl _) | (with_reducible refine le_ext _ ?_) | (with_reducible refine le_alloc _ ?_) | (with_reducible refine le_setCell _ _ ?_) | (with_reducible refine le_drew ?_) | omega | (simp; done) | (simp; omega)))), by simp⟩
  case round =>
    obtain ⟨k, hk, rfl, hlo, BX, hbel, hszr⟩ := hrel
    have hszw : w.heap.size ≤ wr.heap.size := by omega
    have c0 := heap_cell BX.out 0
    have c1 := heap_cell BX.out 1
    simp at c0 c1
    have OW := hide (OWN.out.below hbel)
    have PTS := hide OW.out.pts.2.2.2
    have C2 : Hid (∀ W, Below wr.heap.size wr W → W.cell? ⟨w.heap.size, 0, none⟩ = some (.int .i64 x) ∧ W.cell? ⟨w.heap.size, 1, none⟩ = some (.int .i64 y)) := hide (fun W hW => ⟨(hW.cell (p := ⟨w.heap.size, 0, none⟩) (by show w.heap.size < _; omega)).trans c0, (hW.cell (p := ⟨w.heap.size, 1, none⟩) (by show w.heap.size < _; omega)).trans c1⟩)
    have TL : Hid ((ps.take k).length = k) := hide (by rw [List.length_take, HL.out]; omega)
    have PTK : Hid (∀ W, Below wr.heap.size wr W → PtsAt W wr.heap.size A (ps.take k)) := hide (fun W hW => (PTS.out.pre k).below hW)
    by_cases hlt : k < n
    · rcases hsome with ⟨rfl, rfl, rfl⟩ | ⟨g, rfl, g1, g2⟩
      · omega
      · obtain ⟨_, hgb, _, _, _, hcs⟩ := OW.out.head (by omega)
        injection hgb with hgb
        injection hgb with hgb
        subst hgb
        obtain ⟨k0, k1⟩ := hcs k hlt
        clear hcs
        have hd10 : decide ((k : Int) < (n : Int)) = true := decide_eq_true (by omega)
        cases ht : decide (ltP ⟨pX ps k, pY ps k⟩ ⟨x, y⟩)
        · have HI := hide (insP_at (p := ⟨x, y⟩) (L := ps) (k := k) (by rw [HL.out]; omega) hlo.out (fun _ => of_decide_eq_false ht))
          go_wp2_with fail
          refine wp_region_ext (by kernel_rfl) (by kernel_rfl) ?_
          repeat (go_big_quiet_step ((first | (go_at_call 119; exact Calls.in_ext (pointLess_any _ _ _ _ _)))))
          refine wpQuiet_nil ?_
          rintro _ hnq
          have hzq := ext_sz hnq
          obtain ⟨nq, rfl⟩ := hnq
          (try simp at hzq)
          generalize hW1 : ext wr nq = W1 at *
          have hb1 : Below wr.heap.size wr W1 := by rw [← hW1]; exact ext_below _ _
          have hs1 := hb1.size
          clear hW1 hzq
          have q0 := (hb1.cell (p := ⟨g, k * 2, none⟩) (by show g < _; omega)).trans k0
          have q1 := (hb1.cell (p := ⟨g, k * 2 + 1, none⟩) (by show g < _; omega)).trans k1
          obtain ⟨c01, c11⟩ := C2.out _ hb1
          go_wp2_with fail
          by_cases hxy : pX ps k = x ∧ pY ps k = y
          · obtain ⟨ex, ey⟩ := hxy
            have INS : Hid (insP ⟨x, y⟩ ps = ps) := hide (by rw [HI.out, if_pos ⟨by rw [HL.out]; exact hlt, pt_eq ex ey⟩])
            refine wp_region_ext (by kernel_rfl) (by kernel_rfl) ?_
            repeat (go_big_quiet_step (fail))
            refine wpQuiet_nil ?_
            rintro _ hnq
            have hzq := ext_sz hnq
            obtain ⟨nq, rfl⟩ := hnq
            (try simp at hzq)
            generalize hW2 : ext W1 nq = W2 at *
            have hb2 : Below W1.heap.size W1 W2 := by rw [← hW2]; exact ext_below _ _
            have hs2 := hb2.size
            clear hW2 hzq
            go_wp2_with fail
            go_ret
            exact ⟨_, rfl, by rw [INS.out]; exact OW.out.below (hb1.trans (hb2.mono hs1)), ext_mk (hbel.trans ((hb1.trans (hb2.mono hs1)).mono hszw))⟩
          · have INS : Hid (insP ⟨x, y⟩ ps = ps.take k ++ ⟨x, y⟩ :: ps.drop k) := hide (by rw [HI.out, if_neg (fun h => hxy (by unfold pX pY; rw [h.2]; exact ⟨rfl, rfl⟩))])
            have PTD : Hid (∀ W : World, Below wr.heap.size wr W → PtsAt W wr.heap.size (some ⟨g, 0 + k * 2, none⟩) ((ps.drop k).take (n - k))) := hide (fun W hW => (PTS.out.cut (a := k) (m := n - k) (by rw [HL.out]; omega)).below hW)
            rw [List.take_of_length_le (by rw [List.length_drop, HL.out]; exact Nat.le_refl _), Nat.zero_add] at PTD
            have FA : Hid ((some (⟨g, 0, none⟩ : Addr) = none → k = 0) ∧ ∀ b o s, some (⟨g, 0, none⟩ : Addr) = some ⟨b, o, s⟩ → s = none) := ⟨(fun h => by cases h), (fun b o s h => by injection h with h; injection h with _ _ h; exact h.symm)⟩
            have FD : Hid ((some (⟨g, k * 2, none⟩ : Addr) = none → n - k = 0) ∧ ∀ b o s, some (⟨g, k * 2, none⟩ : Addr) = some ⟨b, o, s⟩ → s = none) := ⟨(fun h => by cases h), (fun b o s h => by injection h with h; injection h with _ _ h; exact h.symm)⟩
            have hq6 : ¬ c = k := by omega
            by_cases hx : pX ps k = x
            · have hy : ¬ pY ps k = y := fun h => hxy ⟨hx, h⟩
              clear hxy
              refine wp_region_ext (by kernel_rfl) (by kernel_rfl) ?_
              repeat (go_big_quiet_step (fail))
              refine wpQuiet_nil ?_
              rintro _ hnq
              have hzq := ext_sz hnq
              obtain ⟨nq, rfl⟩ := hnq
              (try simp at hzq)
              generalize hW2 : ext W1 nq = W2 at *
              have hb2 : Below W1.heap.size W1 W2 := by rw [← hW2]; exact ext_below _ _
              have hs2 := hb2.size
              clear hW2 hzq
              have b2 := hb1.trans (hb2.mono hs1)
              obtain ⟨c02, c12⟩ := C2.out _ b2
              have hs2 := b2.size
              go_wp2_with (at_builtin; first | (refine app_pts rfl (.tmp 34) (.tmp 37) rfl wr.heap.size (.slice (some ⟨W2.heap.size, 0, none⟩) 0 0) [] rfl (OwnP.empty W2 wr.heap.size 0 hs2 #[] rfl (by simp [maxLen])) (some ⟨g, 0, none⟩) k c wr.heap.size (ps.take k) rfl TL.out (PTK.out _ (b2.alloc hs2 _)) (FA.out.1) (FA.out.2) (Nat.zero_le _) (by omega) (by simp; omega) ?_; intro v7 w7 hown7 hb7 hat7 hgr7; obtain ⟨A7, n7, c7, rfl⟩ := hown7.slice; have O7 := hide hown7; have b7 := (b2.alloc hs2 _).trans hb7; have s7 := b7.size; obtain ⟨c07, c17⟩ := C2.out _ b7; clear hown7 hat7 hgr7 hb7) | (refine app_pt rfl (.tmp 39) (.tmp 41) rfl wr.heap.size (.slice A7 n7 c7) ([] ++ ps.take k) rfl (O7.out.below (by (repeat' (first | (with_reducible exact Below.refl _ _) | (with_reducible assumption) | (with_reducible refine below_ext _ ?_ ?_) | (with_reducible refine Below.alloc ?_ ?_ _) | (with_reducible refine Below.drew ?_) | (with_reducible refine below_drewN ?_ _) | (with_reducible refine le_drewN _ ?_) | (with_reducible refine Below.setCell ?_ ?_ _) | (with_reducible exact Nat.le_refl _) | (with_reducible refine le_ext _ ?_) | (with_reducible refine le_alloc _ ?_) | (with_reducible refine le_setCell _ _ ?_) | (with_reducible refine le_drew ?_) | omega | (simp; done) | (simp; omega))))) x y _ _ rfl (by simp [go_sem]) (by simp [go_sem]) (by first | (simp [List.length_take]; done) | (simp [List.length_take]; omega)) (by simp; omega) ?_; intro v8 w8 hown8 hb8 hat8 hgr8; obtain ⟨A8, n8, c8, rfl⟩ := hown8.slice; have O8 := hide hown8; have b8 := (b7.alloc s7 _).trans hb8; have s8 := b8.size; clear hown8 hat8 hgr8 hb8) | (refine app_pts rfl (.tmp 43) (.tmp 46) rfl wr.heap.size (.slice A8 n8 c8) ([] ++ ps.take k ++ [⟨x, y⟩]) rfl O8.out (some ⟨g, k * 2, none⟩) (n - k) (c - k) wr.heap.size (ps.drop k) rfl (by have := HL.out; rw [List.length_drop]; omega) (PTD.out _ b8) (FD.out.1) (FD.out.2) (by first | (simp [List.length_take]; done) | (simp [List.length_take]; omega)) (by omega) s8 ?_; intro v9 w9 hown9 hb9 hat9 hgr9; obtain ⟨A9, n9, c9, rfl⟩ := hown9.slice; have O9 := hide hown9; have b9 := b8.trans hb9; have s9 := b9.size; clear hown9 hat9 hgr9 hb9))
              go_ret
              exact ⟨_, rfl, by rw [INS.out]; rw [show ps.take k ++ (⟨x, y⟩ : Pt) :: ps.drop k = [] ++ ps.take k ++ [⟨x, y⟩] ++ ps.drop k from by simp]; exact O9.out.base (Nat.le_trans hb hszw), ext_mk (hbel.trans (b9.mono hszw))⟩
            · clear hxy
              refine wp_region_ext (by kernel_rfl) (by kernel_rfl) ?_
              repeat (go_big_quiet_step (fail))
              refine wpQuiet_nil ?_
              rintro _ hnq
              have hzq := ext_sz hnq
              obtain ⟨nq, rfl⟩ := hnq
              (try simp at hzq)
              generalize hW2 : ext W1 nq = W2 at *
              have hb2 : Below W1.heap.size W1 W2 := by rw [← hW2]; exact ext_below _ _
              have hs2 := hb2.size
              clear hW2 hzq
              have b2 := hb1.trans (hb2.mono hs1)
              obtain ⟨c02, c12⟩ := C2.out _ b2
              have hs2 := b2.size
              go_wp2_with (at_builtin; first | (refine app_pts rfl (.tmp 34) (.tmp 37) rfl wr.heap.size (.slice (some ⟨W2.heap.size, 0, none⟩) 0 0) [] rfl (OwnP.empty W2 wr.heap.size 0 hs2 #[] rfl (by simp [maxLen])) (some ⟨g, 0, none⟩) k c wr.heap.size (ps.take k) rfl TL.out (PTK.out _ (b2.alloc hs2 _)) (FA.out.1) (FA.out.2) (Nat.zero_le _) (by omega) (by simp; omega) ?_; intro v7 w7 hown7 hb7 hat7 hgr7; obtain ⟨A7, n7, c7, rfl⟩ := hown7.slice; have O7 := hide hown7; have b7 := (b2.alloc hs2 _).trans hb7; have s7 := b7.size; obtain ⟨c07, c17⟩ := C2.out _ b7; clear hown7 hat7 hgr7 hb7) | (refine app_pt rfl (.tmp 39) (.tmp 41) rfl wr.heap.size (.slice A7 n7 c7) ([] ++ ps.take k) rfl (O7.out.below (by (repeat' (first | (with_reducible exact Below.refl _ _) | (with_reducible assumption) | (with_reducible refine below_ext _ ?_ ?_) | (with_reducible refine Below.alloc ?_ ?_ _) | (with_reducible refine Below.drew ?_) | (with_reducible refine below_drewN ?_ _) | (with_reducible refine le_drewN _ ?_) | (with_reducible refine Below.setCell ?_ ?_ _) | (with_reducible exact Nat.le_refl _) | (with_reducible refine le_ext _ ?_) | (with_reducible refine le_alloc _ ?_) | (with_reducible refine le_setCell _ _ ?_) | (with_reducible refine le_drew ?_) | omega | (simp; done) | (simp; omega))))) x y _ _ rfl (by simp [go_sem]) (by simp [go_sem]) (by first | (simp [List.length_take]; done) | (simp [List.length_take]; omega)) (by simp; omega) ?_; intro v8 w8 hown8 hb8 hat8 hgr8; obtain ⟨A8, n8, c8, rfl⟩ := hown8.slice; have O8 := hide hown8; have b8 := (b7.alloc s7 _).trans hb8; have s8 := b8.size; clear hown8 hat8 hgr8 hb8) | (refine app_pts rfl (.tmp 43) (.tmp 46) rfl wr.heap.size (.slice A8 n8 c8) ([] ++ ps.take k ++ [⟨x, y⟩]) rfl O8.out (some ⟨g, k * 2, none⟩) (n - k) (c - k) wr.heap.size (ps.drop k) rfl (by have := HL.out; rw [List.length_drop]; omega) (PTD.out _ b8) (FD.out.1) (FD.out.2) (by first | (simp [List.length_take]; done) | (simp [List.length_take]; omega)) (by omega) s8 ?_; intro v9 w9 hown9 hb9 hat9 hgr9; obtain ⟨A9, n9, c9, rfl⟩ := hown9.slice; have O9 := hide hown9; have b9 := b8.trans hb9; have s9 := b9.size; clear hown9 hat9 hgr9 hb9))
              go_ret
              exact ⟨_, rfl, by rw [INS.out]; rw [show ps.take k ++ (⟨x, y⟩ : Pt) :: ps.drop k = [] ++ ps.take k ++ [⟨x, y⟩] ++ ps.drop k from by simp]; exact O9.out.base (Nat.le_trans hb hszw), ext_mk (hbel.trans (b9.mono hszw))⟩
        · have HI := hide (of_decide_eq_true ht)
          go_wp2_with fail
          refine wp_region_ext (by kernel_rfl) (by kernel_rfl) ?_
          repeat (go_big_quiet_step ((first | (go_at_call 119; exact Calls.in_ext (pointLess_any _ _ _ _ _)))))
          refine wpQuiet_nil ?_
          rintro _ hnq
          have hzq := ext_sz hnq
          obtain ⟨nq, rfl⟩ := hnq
          (try simp at hzq)
          go_wp2_with fail
          exact ⟨⟨k + 1, by omega, by go_num, hide (fun i hi => by
            by_cases e : i = k
            · subst e; exact HI.out
            · exact hlo.out i (by omega)), hide (((ext_below wr nq).block w.heap.size (by omega)).trans BX.out), (by (repeat' (first | (with_reducible exact Below.refl _ _) | (with_reducible assumption) | (with_reducible refine below_ext _ ?_ ?_) | (with_reducible refine Below.alloc ?_ ?_ _) | (with_reducible refine Below.drew ?_) | (with_reducible refine below_drewN ?_ _) | (with_reducible refine le_drewN _ ?_) | (with_reducible refine Below.setCell ?_ ?_ _) | (with_reducible exact Nat.le_refl _) | (with_reducible refine le_ext _ ?_) | (with_reducible refine le_alloc _ ?_) | (with_reducible refine le_setCell _ _ ?_) | (with_reducible refine le_drew ?_) | omega | (simp; done) | (simp; omega)))), by omega⟩, by simp [intOf]; omega⟩
    · have hkn : k = n := by omega
      subst hkn
      have INS : Hid (insP ⟨x, y⟩ ps = ps.take k ++ ⟨x, y⟩ :: ps.drop k) := hide (by rw [insP_at (k := k) (by rw [HL.out]; exact Nat.le_refl _) hlo.out (fun h => by have := HL.out; omega), if_neg (fun h => by have := HL.out; have := h.1; omega)])
      have hd10 : decide ((k : Int) < (k : Int)) = false := decide_eq_false (by omega)
      have PTD : Hid (∀ (B : Option Addr) (W : World), Below wr.heap.size wr W → PtsAt W wr.heap.size B (ps.drop k)) := hide (fun B W _ => by rw [List.drop_of_length_le (by rw [HL.out]; exact Nat.le_refl _)]; exact PtsAt.none_ _ _ _)
      go_wp2_with fail
      refine wp_region_ext (by kernel_rfl) (by kernel_rfl) ?_
      repeat (go_big_quiet_step (fail))
      refine wpQuiet_nil ?_
      rintro _ hnq
      have hzq := ext_sz hnq
      obtain ⟨nq, rfl⟩ := hnq
      (try simp at hzq)
      generalize hW1 : ext wr nq = W1 at *
      have hb1 : Below wr.heap.size wr W1 := by rw [← hW1]; exact ext_below _ _
      have hs1 := hb1.size
      clear hW1 hzq
      go_wp2_with fail
      refine wp_region_ext (by kernel_rfl) (by kernel_rfl) ?_
      repeat (go_big_quiet_step (fail))
      refine wpQuiet_nil ?_
      rintro _ hnq
      have hzq := ext_sz hnq
      obtain ⟨nq, rfl⟩ := hnq
      (try simp at hzq)
      generalize hW2 : ext W1 nq = W2 at *
      have hb2 : Below W1.heap.size W1 W2 := by rw [← hW2]; exact ext_below _ _
      have hs2 := hb2.size
      clear hW2 hzq
      have b2 := hb1.trans (hb2.mono hs1)
      obtain ⟨c02, c12⟩ := C2.out _ b2
      have hs2 := b2.size
      rcases hsome with ⟨rfl, rfl, rfl⟩ | ⟨g, rfl, g1, g2⟩
      · have FA : Hid (((none : Option Addr) = none → 0 = 0) ∧ ∀ b o s, (none : Option Addr) = some ⟨b, o, s⟩ → s = none) := ⟨(fun _ => rfl), (fun b o s h => by cases h)⟩
        have FD : Hid (((none : Option Addr) = none → (0 : Nat) = 0) ∧ ∀ b o s, (none : Option Addr) = some ⟨b, o, s⟩ → s = none) := ⟨(fun _ => rfl), (fun b o s h => by cases h)⟩
        have PTE := hide (PTD.out none)
        clear PTD
        have PTD := PTE
        go_wp2_with (at_builtin; first | (refine app_pts rfl (.tmp 34) (.tmp 37) rfl wr.heap.size (.slice (some ⟨W2.heap.size, 0, none⟩) 0 0) [] rfl (OwnP.empty W2 wr.heap.size 0 hs2 #[] rfl (by simp [maxLen])) none 0 0 wr.heap.size (ps.take 0) rfl TL.out (PTK.out _ (b2.alloc hs2 _)) (FA.out.1) (FA.out.2) (Nat.zero_le _) (by omega) (by simp; omega) ?_; intro v7 w7 hown7 hb7 hat7 hgr7; obtain ⟨A7, n7, c7, rfl⟩ := hown7.slice; have O7 := hide hown7; have b7 := (b2.alloc hs2 _).trans hb7; have s7 := b7.size; obtain ⟨c07, c17⟩ := C2.out _ b7; clear hown7 hat7 hgr7 hb7) | (refine app_pt rfl (.tmp 39) (.tmp 41) rfl wr.heap.size (.slice A7 n7 c7) ([] ++ ps.take 0) rfl (O7.out.below (by (repeat' (first | (with_reducible exact Below.refl _ _) | (with_reducible assumption) | (with_reducible refine below_ext _ ?_ ?_) | (with_reducible refine Below.alloc ?_ ?_ _) | (with_reducible refine Below.drew ?_) | (with_reducible refine below_drewN ?_ _) | (with_reducible refine le_drewN _ ?_) | (with_reducible refine Below.setCell ?_ ?_ _) | (with_reducible exact Nat.le_refl _) | (with_reducible refine le_ext _ ?_) | (with_reducible refine le_alloc _ ?_) | (with_reducible refine le_setCell _ _ ?_) | (with_reducible refine le_drew ?_) | omega | (simp; done) | (simp; omega))))) x y _ _ rfl (by simp [go_sem]) (by simp [go_sem]) (by first | (simp [List.length_take]; done) | (simp [List.length_take]; omega)) (by simp; omega) ?_; intro v8 w8 hown8 hb8 hat8 hgr8; obtain ⟨A8, n8, c8, rfl⟩ := hown8.slice; have O8 := hide hown8; have b8 := (b7.alloc s7 _).trans hb8; have s8 := b8.size; clear hown8 hat8 hgr8 hb8) | (refine app_pts rfl (.tmp 43) (.tmp 46) rfl wr.heap.size (.slice A8 n8 c8) ([] ++ ps.take 0 ++ [⟨x, y⟩]) rfl O8.out none (0) 0 wr.heap.size (ps.drop 0) rfl (by have := HL.out; rw [List.length_drop]; omega) (PTD.out _ b8) (FD.out.1) (FD.out.2) (by first | (simp [List.length_take]; done) | (simp [List.length_take]; omega)) (by omega) s8 ?_; intro v9 w9 hown9 hb9 hat9 hgr9; obtain ⟨A9, n9, c9, rfl⟩ := hown9.slice; have O9 := hide hown9; have b9 := b8.trans hb9; have s9 := b9.size; clear hown9 hat9 hgr9 hb9))
        go_ret
        exact ⟨_, rfl, by rw [INS.out]; rw [show ps.take 0 ++ (⟨x, y⟩ : Pt) :: ps.drop 0 = [] ++ ps.take 0 ++ [⟨x, y⟩] ++ ps.drop 0 from by simp]; exact O9.out.base (Nat.le_trans hb hszw), ext_mk (hbel.trans (b9.mono hszw))⟩
      · have FA : Hid ((some (⟨g, 0, none⟩ : Addr) = none → k = 0) ∧ ∀ b o s, some (⟨g, 0, none⟩ : Addr) = some ⟨b, o, s⟩ → s = none) := ⟨(fun h => by cases h), (fun b o s h => by injection h with h; injection h with _ _ h; exact h.symm)⟩
        by_cases hq6 : c = k
        · have FD : Hid ((some (⟨g, 0, none⟩ : Addr) = none → (0 : Nat) = 0) ∧ ∀ b o s, some (⟨g, 0, none⟩ : Addr) = some ⟨b, o, s⟩ → s = none) := ⟨(fun h => by cases h), (fun b o s h => by injection h with h; injection h with _ _ h; exact h.symm)⟩
          subst hq6
          have PTE := hide (PTD.out (some ⟨g, 0, none⟩))
          clear PTD
          have PTD := PTE
          go_wp2_with (at_builtin; first | (refine app_pts rfl (.tmp 34) (.tmp 37) rfl wr.heap.size (.slice (some ⟨W2.heap.size, 0, none⟩) 0 0) [] rfl (OwnP.empty W2 wr.heap.size 0 hs2 #[] rfl (by simp [maxLen])) (some ⟨g, 0, none⟩) c c wr.heap.size (ps.take c) rfl TL.out (PTK.out _ (b2.alloc hs2 _)) (FA.out.1) (FA.out.2) (Nat.zero_le _) (by omega) (by simp; omega) ?_; intro v7 w7 hown7 hb7 hat7 hgr7; obtain ⟨A7, n7, c7, rfl⟩ := hown7.slice; have O7 := hide hown7; have b7 := (b2.alloc hs2 _).trans hb7; have s7 := b7.size; obtain ⟨c07, c17⟩ := C2.out _ b7; clear hown7 hat7 hgr7 hb7) | (refine app_pt rfl (.tmp 39) (.tmp 41) rfl wr.heap.size (.slice A7 n7 c7) ([] ++ ps.take c) rfl (O7.out.below (by (repeat' (first | (with_reducible exact Below.refl _ _) | (with_reducible assumption) | (with_reducible refine below_ext _ ?_ ?_) | (with_reducible refine Below.alloc ?_ ?_ _) | (with_reducible refine Below.drew ?_) | (with_reducible refine below_drewN ?_ _) | (with_reducible refine le_drewN _ ?_) | (with_reducible refine Below.setCell ?_ ?_ _) | (with_reducible exact Nat.le_refl _) | (with_reducible refine le_ext _ ?_) | (with_reducible refine le_alloc _ ?_) | (with_reducible refine le_setCell _ _ ?_) | (with_reducible refine le_drew ?_) | omega | (simp; done) | (simp; omega))))) x y _ _ rfl (by simp [go_sem]) (by simp [go_sem]) (by first | (simp [List.length_take]; done) | (simp [List.length_take]; omega)) (by simp; omega) ?_; intro v8 w8 hown8 hb8 hat8 hgr8; obtain ⟨A8, n8, c8, rfl⟩ := hown8.slice; have O8 := hide hown8; have b8 := (b7.alloc s7 _).trans hb8; have s8 := b8.size; clear hown8 hat8 hgr8 hb8) | (refine app_pts rfl (.tmp 43) (.tmp 46) rfl wr.heap.size (.slice A8 n8 c8) ([] ++ ps.take c ++ [⟨x, y⟩]) rfl O8.out (some ⟨g, 0, none⟩) (0) 0 wr.heap.size (ps.drop c) rfl (by have := HL.out; rw [List.length_drop]; omega) (PTD.out _ b8) (FD.out.1) (FD.out.2) (by first | (simp [List.length_take]; done) | (simp [List.length_take]; omega)) (by omega) s8 ?_; intro v9 w9 hown9 hb9 hat9 hgr9; obtain ⟨A9, n9, c9, rfl⟩ := hown9.slice; have O9 := hide hown9; have b9 := b8.trans hb9; have s9 := b9.size; clear hown9 hat9 hgr9 hb9))
          go_ret
          exact ⟨_, rfl, by rw [INS.out]; rw [show ps.take c ++ (⟨x, y⟩ : Pt) :: ps.drop c = [] ++ ps.take c ++ [⟨x, y⟩] ++ ps.drop c from by simp]; exact O9.out.base (Nat.le_trans hb hszw), ext_mk (hbel.trans (b9.mono hszw))⟩
        · have FD : Hid ((some (⟨g, k * 2, none⟩ : Addr) = none → (0 : Nat) = 0) ∧ ∀ b o s, some (⟨g, k * 2, none⟩ : Addr) = some ⟨b, o, s⟩ → s = none) := ⟨(fun h => by cases h), (fun b o s h => by injection h with h; injection h with _ _ h; exact h.symm)⟩
          have PTE := hide (PTD.out (some ⟨g, k * 2, none⟩))
          clear PTD
          have PTD := PTE
          go_wp2_with (at_builtin; first | (refine app_pts rfl (.tmp 34) (.tmp 37) rfl wr.heap.size (.slice (some ⟨W2.heap.size, 0, none⟩) 0 0) [] rfl (OwnP.empty W2 wr.heap.size 0 hs2 #[] rfl (by simp [maxLen])) (some ⟨g, 0, none⟩) k c wr.heap.size (ps.take k) rfl TL.out (PTK.out _ (b2.alloc hs2 _)) (FA.out.1) (FA.out.2) (Nat.zero_le _) (by omega) (by simp; omega) ?_; intro v7 w7 hown7 hb7 hat7 hgr7; obtain ⟨A7, n7, c7, rfl⟩ := hown7.slice; have O7 := hide hown7; have b7 := (b2.alloc hs2 _).trans hb7; have s7 := b7.size; obtain ⟨c07, c17⟩ := C2.out _ b7; clear hown7 hat7 hgr7 hb7) | (refine app_pt rfl (.tmp 39) (.tmp 41) rfl wr.heap.size (.slice A7 n7 c7) ([] ++ ps.take k) rfl (O7.out.below (by (repeat' (first | (with_reducible exact Below.refl _ _) | (with_reducible assumption) | (with_reducible refine below_ext _ ?_ ?_) | (with_reducible refine Below.alloc ?_ ?_ _) | (with_reducible refine Below.drew ?_) | (with_reducible refine below_drewN ?_ _) | (with_reducible refine le_drewN _ ?_) | (with_reducible refine Below.setCell ?_ ?_ _) | (with_reducible exact Nat.le_refl _) | (with_reducible refine le_ext _ ?_) | (with_reducible refine le_alloc _ ?_) | (with_reducible refine le_setCell _ _ ?_) | (with_reducible refine le_drew ?_) | omega | (simp; done) | (simp; omega))))) x y _ _ rfl (by simp [go_sem]) (by simp [go_sem]) (by first | (simp [List.length_take]; done) | (simp [List.length_take]; omega)) (by simp; omega) ?_; intro v8 w8 hown8 hb8 hat8 hgr8; obtain ⟨A8, n8, c8, rfl⟩ := hown8.slice; have O8 := hide hown8; have b8 := (b7.alloc s7 _).trans hb8; have s8 := b8.size; clear hown8 hat8 hgr8 hb8) | (refine app_pts rfl (.tmp 43) (.tmp 46) rfl wr.heap.size (.slice A8 n8 c8) ([] ++ ps.take k ++ [⟨x, y⟩]) rfl O8.out (some ⟨g, k * 2, none⟩) (0) (c - k) wr.heap.size (ps.drop k) rfl (by have := HL.out; rw [List.length_drop]; omega) (PTD.out _ b8) (FD.out.1) (FD.out.2) (by first | (simp [List.length_take]; done) | (simp [List.length_take]; omega)) (by omega) s8 ?_; intro v9 w9 hown9 hb9 hat9 hgr9; obtain ⟨A9, n9, c9, rfl⟩ := hown9.slice; have O9 := hide hown9; have b9 := b8.trans hb9; have s9 := b9.size; clear hown9 hat9 hgr9 hb9))
          go_ret
          exact ⟨_, rfl, by rw [INS.out]; rw [show ps.take k ++ (⟨x, y⟩ : Pt) :: ps.drop k = [] ++ ps.take k ++ [⟨x, y⟩] ++ ps.drop k from by simp]; exact O9.out.base (Nat.le_trans hb hszw), ext_mk (hbel.trans (b9.mono hszw))⟩
end Go.Proofs.Ytelhidonhldjeaa
