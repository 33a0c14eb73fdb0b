
/- spec.collinear; where the points leave the first line. -/
import Derived.Test.YtcebmcbglhkkfaaSwpI
set_option linter.unusedVariables false
set_option linter.unusedSimpArgs false
namespace Go.Proofs.Ytcebmcbglhkkfaa
open Go.RowKit

def Zt (ps : List Pt) (a b c : Nat) : Prop := trn (gp ps a) (gp ps b) (gp ps c) = 0
def ColS (ps : List Pt) : Prop := ∀ a, a < ps.length → ∀ b, b < a → ∀ c, c < b → Zt ps a b c
noncomputable instance (ps : List Pt) : Decidable (ColS ps) := Classical.propDecidable _
set_option maxHeartbeats 2000000 in
theorem sCol_any (ps : List Pt) (A : Option Addr) (n c : Nat) (w : World) (hn : ps.length = n) (hm : n ≤ 1000) (hb5 : ∀ p ∈ ps, (-100000 ≤ p.x ∧ p.x ≤ 100000) ∧ (-100000 ≤ p.y ∧ p.y ≤ 100000)) (hs : PtsAt w w.heap.size A ps) :
    Calls Try.prog 63 #[.slice A n c] w fun e w' => e = .returned (.bool (decide (ColS ps))) ∧ ∃ x, w' = ext w x := by
  have HN := hide hn
  have HS := hide hs
  have BI : Hid (∀ i, i < n → (-100000 ≤ (pX ps i) ∧ (pX ps i) ≤ 100000) ∧ (-100000 ≤ (pY ps i) ∧ (pY ps i) ≤ 100000)) := hide (fun i hi => hb5 _ (gp_mem (by omega)))
  have CR : Hid (∀ i j k, i < n → j < n → k < n → ∀ W, Calls Try.prog 64 #[.agg #[.int .i64 (pX ps i), .int .i64 (pY ps i)], .agg #[.int .i64 (pX ps j), .int .i64 (pY ps j)], .agg #[.int .i64 (pX ps k), .int .i64 (pY ps k)]] W fun e w' => e = .returned (.int .i64 (trn (gp ps i) (gp ps j) (gp ps k))) ∧ ∃ x, w' = ext W x) := hide (fun i j k hi hj hk W => scross_any _ _ _ _ _ _ W (BI.out i hi).1 (BI.out i hi).2 (BI.out j hj).1 (BI.out j hj).2 (BI.out k hk).1 (BI.out k hk).2)
  have YES : Hid ((∀ a, a < n → ∀ b, b < a → ∀ c, c < b → Zt ps a b c) → decide (ColS ps) = true) := hide (fun h => decide_eq_true (by unfold ColS; rw [hn]; exact h))
  have NO : Hid (∀ a b c, a < n → b < a → c < b → ¬ Zt ps a b c → decide (ColS ps) = false) := hide (fun a b c ha hb hc h => decide_eq_false (fun hh => h (hh a (by omega) b hb c hc)))
  clear hn hs hb5
  go_enter Try.func63, Try.ntmps63
  go_wp2_with fail
  go_loopw [3] (fun u3 wr => ∃ i : Nat, i ≤ n ∧ u3 = .int .i64 i ∧ Hid (∀ a, a < i → ∀ b, b < a → ∀ c, c < b → Zt ps a b c) ∧ ∃ x, wr = ext w x) (fun u3 _ => n - (intOf u3).toNat)
  case atStart => exact ⟨0, Nat.zero_le _, rfl, hide (fun a ha => by omega), ext_same w⟩
  case round =>
    obtain ⟨i, hi, rfl, hp, x, rfl⟩ := hrel
    by_cases hlt : i < n
    · have hsz := ext_size w x
      obtain ⟨W1, hW1⟩ : ∃ W1, W1 = ext w x := ⟨_, rfl⟩
      have HB1 : Hid (Below w.heap.size w W1) := hide (by rw [hW1]; exact (by (repeat' (first | (with_reducible first | exact Below.refl _ _ | assumption | refine below_ext _ ?_ ?_ | refine Below.alloc ?_ ?_ _ | refine Below.drew ?_ | refine below_drewN ?_ _ | refine le_drewN _ ?_ | refine Below.setCell ?_ ?_ _ | exact Nat.le_refl _ | refine le_ext _ ?_ | refine le_alloc _ ?_ | refine le_setCell _ _ ?_ | refine le_drew ?_) | omega | (simp; done) | (simp; omega)))))
      rw [← hW1]
      clear hW1 hsz
      go_wp2_with fail
      go_loopw [4] (fun u4 wr => ∃ j : Nat, j ≤ i ∧ u4 = .int .i64 j ∧ Hid (∀ b, b < j → ∀ c, c < b → Zt ps i b c) ∧ ∃ y, wr = ext W1 y) (fun u4 _ => i - (intOf u4).toNat)
      case atStart => exact ⟨0, Nat.zero_le _, rfl, hide (fun a ha => by omega), ext_same W1⟩
      case round =>
        obtain ⟨j, hj, rfl, hq, y, rfl⟩ := hrel
        by_cases hlt2 : j < i
        · obtain ⟨W2, hW2⟩ : ∃ W2, W2 = ext W1 y := ⟨_, rfl⟩
          have HB2 : Hid (Below W1.heap.size W1 W2) := hide (by rw [hW2]; exact (by (repeat' (first | (with_reducible first | exact Below.refl _ _ | assumption | refine below_ext _ ?_ ?_ | refine Below.alloc ?_ ?_ _ | refine Below.drew ?_ | refine below_drewN ?_ _ | refine le_drewN _ ?_ | refine Below.setCell ?_ ?_ _ | exact Nat.le_refl _ | refine le_ext _ ?_ | refine le_alloc _ ?_ | refine le_setCell _ _ ?_ | refine le_drew ?_) | omega | (simp; done) | (simp; omega)))))
          rw [← hW2]
          clear hW2
          go_wp2_with fail
          go_loopw [5] (fun u5 wr => ∃ k : Nat, k ≤ j ∧ u5 = .int .i64 k ∧ Hid (∀ c, c < k → Zt ps i j c) ∧ ∃ z, wr = ext W2 z) (fun u5 _ => j - (intOf u5).toNat)
          case atStart => exact ⟨0, Nat.zero_le _, rfl, hide (fun a ha => by omega), ext_same W2⟩
          case round =>
            obtain ⟨k, hk, rfl, hr, z, rfl⟩ := hrel
            by_cases hlt3 : k < j
            · have HB3 := HB1.out.trans ((HB2.out.trans ((show Below W2.heap.size W2 (ext W2 z) from (by (repeat' (first | (with_reducible first | exact Below.refl _ _ | assumption | refine below_ext _ ?_ ?_ | refine Below.alloc ?_ ?_ _ | refine Below.drew ?_ | refine below_drewN ?_ _ | refine le_drewN _ ?_ | refine Below.setCell ?_ ?_ _ | exact Nat.le_refl _ | refine le_ext _ ?_ | refine le_alloc _ ?_ | refine le_setCell _ _ ?_ | refine le_drew ?_) | omega | (simp; done) | (simp; omega))))).mono HB2.out.size)).mono HB1.out.size)
              obtain ⟨b, o, rfl, hb, hc⟩ := HS.out (by rw [HN.out]; omega)
              obtain ⟨xi0, yi0⟩ := hc i (by rw [HN.out]; omega)
              obtain ⟨xj0, yj0⟩ := hc j (by rw [HN.out]; omega)
              obtain ⟨xk0, yk0⟩ := hc k (by rw [HN.out]; omega)
              have xi := (HB3.cell (p := ⟨b, o + i * 2, none⟩) hb).trans xi0
              have yi := (HB3.cell (p := ⟨b, o + i * 2 + 1, none⟩) hb).trans yi0
              have xj := (HB3.cell (p := ⟨b, o + j * 2, none⟩) hb).trans xj0
              have yj := (HB3.cell (p := ⟨b, o + j * 2 + 1, none⟩) hb).trans yj0
              have xk := (HB3.cell (p := ⟨b, o + k * 2, none⟩) hb).trans xk0
              have yk := (HB3.cell (p := ⟨b, o + k * 2 + 1, none⟩) hb).trans yk0
              have CC := hide (CR.out i j k hlt (by omega) (by omega))
              have q1 : (k : Int) < (n : Int) := by omega
              have q2 : (j : Int) < (n : Int) := by omega
              have q3 : (i : Int) < (n : Int) := by omega
              have q4 : k < n := by omega
              have q6 : (0 : Int) ≤ (k : Int) := by omega
              have l1 : b < (ext W2 z).heap.size := by have := HB3.size; omega
              have q5 : j < n := by omega
              clear hc xi0 yi0 xj0 yj0 xk0 yk0
              by_cases h0 : trn (gp ps i) (gp ps j) (gp ps k) = 0
              · rw [h0] at CC
                have HZ : Hid (Zt ps i j k) := hide h0
                clear h0
                generalize pX ps i = XI at *
                generalize pY ps i = YI at *
                generalize pX ps j = XJ at *
                generalize pY ps j = YJ at *
                generalize pX ps k = XK at *
                generalize pY ps k = YK at *
                go_wp2_with fail
                refine wp_region_ext (by kernel_rfl) (by kernel_rfl) ?_
                repeat (go_big_quiet_step ((first | (go_at_call 64; exact Calls.in_ext (CC.out _)))))
                refine wpQuiet_nil ?_
                rintro _ hnq
                have hzq := ext_sz hnq
                obtain ⟨nq, rfl⟩ := hnq
                (try simp at hzq)
                go_wp2_with fail
                exact ⟨⟨k + 1, by omega, by go_num, hide (fun c hc => by rcases Nat.lt_succ_iff_lt_or_eq.1 hc with h | rfl; exact hr.out c h; exact HZ.out), (ext_mk (by (repeat' (first | (with_reducible first | exact Below.refl _ _ | assumption | refine below_ext _ ?_ ?_ | refine Below.alloc ?_ ?_ _ | refine Below.drew ?_ | refine below_drewN ?_ _ | refine le_drewN _ ?_ | refine Below.setCell ?_ ?_ _ | exact Nat.le_refl _ | refine le_ext _ ?_ | refine le_alloc _ ?_ | refine le_setCell _ _ ?_ | refine le_drew ?_) | omega | (simp; done) | (simp; omega)))))⟩, by simp [intOf]; omega⟩
              · have R := hide (NO.out i j k hlt hlt2 hlt3 h0)
                have d0 : (trn (gp ps i) (gp ps j) (gp ps k) != 0) = true := by simpa using h0
                clear h0
                generalize trn (gp ps i) (gp ps j) (gp ps k) = T at *
                generalize pX ps i = XI at *
                generalize pY ps i = YI at *
                generalize pX ps j = XJ at *
                generalize pY ps j = YJ at *
                generalize pX ps k = XK at *
                generalize pY ps k = YK at *
                go_wp2_with fail
                refine wp_region_ext (by kernel_rfl) (by kernel_rfl) ?_
                repeat (go_big_quiet_step ((first | (go_at_call 64; exact Calls.in_ext (CC.out _)))))
                refine wpQuiet_nil ?_
                rintro _ hnq
                have hzq := ext_sz hnq
                obtain ⟨nq, rfl⟩ := hnq
                (try simp at hzq)
                go_wp2_with fail
                go_ret
                exact ⟨ret_bool R.out.symm, ext_mk (HB3.trans (Below.mono (show Below (ext W2 z).heap.size (ext W2 z) _ from (by (repeat' (first | (with_reducible first | exact Below.refl _ _ | assumption | refine below_ext _ ?_ ?_ | refine Below.alloc ?_ ?_ _ | refine Below.drew ?_ | refine below_drewN ?_ _ | refine le_drewN _ ?_ | refine Below.setCell ?_ ?_ _ | exact Nat.le_refl _ | refine le_ext _ ?_ | refine le_alloc _ ?_ | refine le_setCell _ _ ?_ | refine le_drew ?_) | omega | (simp; done) | (simp; omega))))) HB3.size))⟩
            · have HR := hide (fun c (hc : c < j) => hr.out c (by omega))
              have B12 := HB2.out.trans ((show Below W2.heap.size W2 (ext W2 z) from (by (repeat' (first | (with_reducible first | exact Below.refl _ _ | assumption | refine below_ext _ ?_ ?_ | refine Below.alloc ?_ ?_ _ | refine Below.drew ?_ | refine below_drewN ?_ _ | refine le_drewN _ ?_ | refine Below.setCell ?_ ?_ _ | exact Nat.le_refl _ | refine le_ext _ ?_ | refine le_alloc _ ?_ | refine le_setCell _ _ ?_ | refine le_drew ?_) | omega | (simp; done) | (simp; omega))))).mono HB2.out.size)
              go_wp2_with fail
              exact ⟨⟨j + 1, by omega, by go_num, hide (fun b hb c hc => by rcases Nat.lt_succ_iff_lt_or_eq.1 hb with h | rfl; exact hq.out b h c hc; exact HR.out c hc), ext_mk B12⟩, by simp [intOf]; omega⟩
        · have HR := hide (fun b (hb : b < i) c hc => hq.out b (by omega) c hc)
          have B12 := HB1.out.trans ((show Below W1.heap.size W1 (ext W1 y) from (by (repeat' (first | (with_reducible first | exact Below.refl _ _ | assumption | refine below_ext _ ?_ ?_ | refine Below.alloc ?_ ?_ _ | refine Below.drew ?_ | refine below_drewN ?_ _ | refine le_drewN _ ?_ | refine Below.setCell ?_ ?_ _ | exact Nat.le_refl _ | refine le_ext _ ?_ | refine le_alloc _ ?_ | refine le_setCell _ _ ?_ | refine le_drew ?_) | omega | (simp; done) | (simp; omega))))).mono HB1.out.size)
          go_wp2_with fail
          exact ⟨⟨i + 1, by omega, by go_num, hide (fun a ha b hb c hc => by rcases Nat.lt_succ_iff_lt_or_eq.1 ha with h | rfl; exact hp.out a h b hb c hc; exact HR.out b hb c hc), ext_mk B12⟩, by simp [intOf]; omega⟩
    · have R := hide (YES.out (fun a ha b hb c hc => hp.out a (by omega) b hb c hc))
      go_wp2_with fail
      go_ret
      exact ⟨ret_bool R.out.symm, (ext_mk (by (repeat' (first | (with_reducible first | exact Below.refl _ _ | assumption | refine below_ext _ ?_ ?_ | refine Below.alloc ?_ ?_ _ | refine Below.drew ?_ | refine below_drewN ?_ _ | refine le_drewN _ ?_ | refine Below.setCell ?_ ?_ _ | exact Nat.le_refl _ | refine le_ext _ ?_ | refine le_alloc _ ?_ | refine le_setCell _ _ ?_ | refine le_drew ?_) | omega | (simp; done) | (simp; omega)))))⟩
/-! ### the first point off the line -/
theorem Line.take {ps : List Pt} {n : Nat} (hO : Ord ps) (h2 : 2 ≤ n) (hn : n < ps.length) (h : Line ps n) : ColS (ps.take (n + 1)) ↔ trn (gp ps 0) (gp ps 1) (gp ps n) = 0 := by
  have ln : (ps.take (n + 1)).length = n + 1 := by rw [List.length_take]; omega
  have eg : ∀ i, i < n + 1 → gp (ps.take (n + 1)) i = gp ps i := fun i hi => by
    unfold gp; rw [List.getD_eq_getElem?_getD, List.getD_eq_getElem?_getD, List.getElem?_take, if_pos hi]
  constructor
  · intro hc
    have := hc n (by omega) 1 (by omega) 0 (by omega)
    unfold Zt at this
    rw [eg n (by omega), eg 1 (by omega), eg 0 (by omega)] at this
    have e : trn (gp ps 0) (gp ps 1) (gp ps n) = - trn (gp ps n) (gp ps 1) (gp ps 0) := by unfold trn; grind
    omega
  · intro h0 a ha b hb c hc
    have hl : Line ps (n + 1) := fun d hd => by
      rcases Nat.lt_succ_iff_lt_or_eq.1 hd with h' | rfl
      · exact h d h'
      · exact h0
    unfold Zt
    rw [ln] at ha
    rw [eg a ha, eg b (by omega), eg c (by omega)]
    exact hl.any hO (by omega) (by omega) ha (by omega) (by omega)
theorem colB_iff {ps : List Pt} (hO : Ord ps) : colB ps = true ↔ Line ps ps.length := by
  unfold colB
  rw [Bool.not_eq_true', List.any_eq_false]
  simp only [List.mem_range, decide_eq_true_eq, Decidable.not_not]
  constructor
  · intro h d hd
    by_cases h1 : ps.length ≤ 1
    · have : d = 0 := by omega
      subst this
      unfold trn; grind
    have l1 := hO 0 (ps.length - 1) (by omega) (by omega)
    have e1 := h 1 (by omega)
    have e2 := h d hd
    have key : ((gp ps (ps.length - 1)).x - (gp ps 0).x) * trn (gp ps 0) (gp ps 1) (gp ps d) = 0 ∧ ((gp ps (ps.length - 1)).y - (gp ps 0).y) * trn (gp ps 0) (gp ps 1) (gp ps d) = 0 := by
      unfold trn at e1 e2 ⊢
      constructor <;> grind
    rcases Int.mul_eq_zero.1 key.1 with hx | hx
    · rcases Int.mul_eq_zero.1 key.2 with hy | hy
      · unfold ltP at l1; omega
      · exact hy
    · exact hx
  · intro h i hi
    by_cases h1 : ps.length ≤ 1
    · have : i = 0 := by omega
      subst this
      unfold trn; grind
    exact h.any hO (Nat.le_refl _) (by omega) (by omega) (by omega) hi
/-- Either all points are on the first line, or there is a first point off it. -/
theorem line_or (ps : List Pt) : Line ps ps.length ∨ ∃ n, 2 ≤ n ∧ n < ps.length ∧ Line ps n ∧ trn (gp ps 0) (gp ps 1) (gp ps n) ≠ 0 := by
  have key : ∀ m, m ≤ ps.length → Line ps m ∨ ∃ n, 2 ≤ n ∧ n < ps.length ∧ Line ps n ∧ trn (gp ps 0) (gp ps 1) (gp ps n) ≠ 0 := by
    intro m
    induction m with
    | zero => intro _; exact .inl (fun d hd => by omega)
    | succ m ih =>
      intro hm
      rcases ih (by omega) with h | h
      · by_cases h0 : trn (gp ps 0) (gp ps 1) (gp ps m) = 0
        · refine .inl fun d hd => ?_
          rcases Nat.lt_succ_iff_lt_or_eq.1 hd with h' | rfl
          · exact h d h'
          · exact h0
        · refine .inr ⟨m, ?_, by omega, h, h0⟩
          rcases Nat.lt_or_ge m 2 with h2 | h2
          · exfalso
            have : m = 0 ∨ m = 1 := by omega
            rcases this with rfl | rfl
            · exact h0 (by unfold trn; grind)
            · exact h0 (by unfold trn; grind)
          · exact h2
      · exact .inr h
  exact key _ (Nat.le_refl _)
end Go.Proofs.Ytcebmcbglhkkfaa
