
/- An ear is cut off by a diagonal. No program in sight. -/
import Derived.Test.YtkkmioffclpmfaaGreatEarM
set_option linter.unusedVariables false
set_option linter.unusedSimpArgs false
namespace Go.Proofs.YtkkmioffclpmfaaGreat
open Go.RowKit

/-- The places beside vertex v in the ring. -/
theorem ring_near {ps : List Pt} (h3 : 3 ≤ ps.length) {v : Nat} (hv : v < ps.length) :
    (areaL ps < 0 → bef (rgN ps) (rgI ps v) = (v + 1) % ps.length ∧ aft (rgN ps) (rgI ps v) = (v + ps.length - 1) % ps.length) ∧
    (¬ areaL ps < 0 → bef (rgN ps) (rgI ps v) = (v + ps.length - 1) % ps.length ∧ aft (rgN ps) (rgI ps v) = (v + 1) % ps.length) := by
  have hl := rgN_len ps
  unfold bef aft
  rw [hl]
  rw [rgN_at (Nat.mod_lt _ (by omega)), rgN_at (Nat.mod_lt _ (by omega))]
  unfold rgI
  generalize ps.length = n at *
  constructor
  · intro ha
    simp only [if_pos ha]
    by_cases v0 : v = 0
    · subst v0
      rw [Nat.sub_zero, Nat.mod_self, Nat.zero_add, Nat.mod_eq_of_lt (show n - 1 < n by omega), Nat.zero_add, Nat.mod_eq_of_lt (show 1 < n by omega)]
      exact ⟨by rw [show n - (n - 1) = 1 by omega]; exact Nat.mod_eq_of_lt (by omega), by exact Nat.mod_eq_of_lt (by omega)⟩
    · rw [Nat.mod_eq_of_lt (show n - v < n by omega), show n - v + n - 1 = n - v - 1 + n by omega, Nat.add_mod_right, Nat.mod_eq_of_lt (show n - v - 1 < n by omega), show n - (n - v - 1) = v + 1 by omega]
      refine ⟨rfl, ?_⟩
      rw [show v + n - 1 = v - 1 + n by omega, Nat.add_mod_right, Nat.mod_eq_of_lt (show v - 1 < n by omega)]
      by_cases v1 : v = 1
      · subst v1
        rw [show n - 1 + 1 = n by omega, Nat.mod_self, Nat.sub_zero, Nat.mod_self]
      · rw [Nat.mod_eq_of_lt (show n - v + 1 < n by omega), show n - (n - v + 1) = v - 1 by omega]
        exact Nat.mod_eq_of_lt (by omega)
  · intro ha
    simp only [if_neg ha]
    exact ⟨trivial, trivial⟩
/-- What an ear is, told by the vertices. -/
theorem earV_iff {ps : List Pt} (h3 : 3 ≤ ps.length) {v : Nat} (hv : v < ps.length) (he : earV ps v = true) :
    0 < trn (gp ps (bef (rgN ps) (rgI ps v))) (gp ps v) (gp ps (aft (rgN ps) (rgI ps v))) ∧ ∀ j, j < ps.length → j ≠ bef (rgN ps) (rgI ps v) → j ≠ v → j ≠ aft (rgN ps) (rgI ps v) → ¬ InT (gp ps (bef (rgN ps) (rgI ps v))) (gp ps v) (gp ps (aft (rgN ps) (rgI ps v))) (gp ps j) := by
  unfold earV earB at he
  rw [rgN_at (rgI_lt hv), rgI_inv hv, Bool.and_eq_true, decide_eq_true_eq, Bool.not_eq_true', ← Bool.not_eq_true, List.any_eq_true] at he
  obtain ⟨ht, hn⟩ := he
  refine ⟨ht, fun j hj j1 j2 j3 hT => hn ⟨rgI ps j, List.mem_range.2 (by rw [rgN_len]; exact rgI_lt hj), ?_⟩⟩
  rw [rgN_at (rgI_lt hj), rgI_inv hj]
  unfold triN
  rw [(inT_triB ht).2 hT, decide_eq_false j1, decide_eq_false j2, decide_eq_false j3]
  rfl
theorem ear_diag {ps : List Pt} (h : simB ps = true) (h4 : 4 ≤ ps.length) {v : Nat} (hv : v < ps.length) (he : earV ps v = true) : diagI ps ((v + ps.length - 1) % ps.length) ((v + 1) % ps.length) = true := by
  have S := sim_of h
  obtain ⟨ht, hE⟩ := earV_iff (by omega) hv he
  obtain ⟨N1, N2⟩ := ring_near (by omega) hv
  obtain ⟨hi, ev⟩ := pred_ex hv
  have hb : (v + 1) % ps.length < ps.length := Nat.mod_lt _ (by omega)
  obtain ⟨hd, ed⟩ := pred_ex hi
  generalize ei : (v + ps.length - 1) % ps.length = i at *
  have e2 : (i + 2) % ps.length = (v + 1) % ps.length := by rw [← mod2, ev]
  generalize edd : (i + ps.length - 1) % ps.length = d at *
  have mi := mod_next hi
  have mv := mod_next hv
  have md := mod_next hd
  rw [ev] at mi
  rw [ed] at md
  have dv : d ≠ v := by split at mi <;> split at md <;> omega
  have db : d ≠ (v + 1) % ps.length := by split at mi <;> split at md <;> split at mv <;> omega
  have di : d ≠ i := by split at md <;> omega
  have vi : v ≠ i := by split at mi <;> omega
  have D := S.apart v d hv hd dv db (by rw [ed]; exact vi)
  rw [ed] at D
  have C := cor_of S h4 hi
  rw [ev, e2] at C
  have main : Cho ps i ((v + 1) % ps.length) ∧ coneB ps i ((v + 1) % ps.length) = true := by
    unfold coneB
    rw [ev, edd]
    by_cases ha : areaL ps < 0
    · obtain ⟨n1, n2⟩ := N1 ha
      rw [n1, n2] at ht hE
      have t' : trn (gp ps i) (gp ps v) (gp ps ((v + 1) % ps.length)) < 0 := by
        have : trn (gp ps i) (gp ps v) (gp ps ((v + 1) % ps.length)) = - trn (gp ps ((v + 1) % ps.length)) (gp ps v) (gp ps i) := by unfold trn; grind
        omega
      have c := C.2 t'
      refine ⟨cor_ear S c h4 hE, ?_⟩
      rw [if_pos ha, decide_eq_true_eq]
      have r1 : trn (gp ps v) (gp ps i) (gp ps ((v + 1) % ps.length)) = trn (gp ps ((v + 1) % ps.length)) (gp ps v) (gp ps i) := trn_r1 _ _ _
      by_cases hc : 0 < trn (gp ps v) (gp ps i) (gp ps d)
      · have := ear_next ht hc (hE d hd db dv di) D.swap1.swap2.turn
        have r2 : trn (gp ps i) (gp ps d) (gp ps ((v + 1) % ps.length)) = trn (gp ps ((v + 1) % ps.length)) (gp ps i) (gp ps d) := trn_r1 _ _ _
        exact .inl ⟨hc, by omega, by omega⟩
      · exact .inr ⟨hc, fun hh => by omega⟩
    · obtain ⟨n1, n2⟩ := N2 ha
      rw [n1, n2] at ht hE
      have c := C.1 ht
      refine ⟨(cor_ear S c h4 hE).symm, ?_⟩
      rw [if_neg ha, decide_eq_true_eq]
      by_cases hc : 0 < trn (gp ps d) (gp ps i) (gp ps v)
      · have := ear_prev ht hc (hE d hd di dv db) D
        exact .inl ⟨hc, this, ht⟩
      · exact .inr ⟨hc, fun hh => by omega⟩
  refine (diagI_iff S hi hb).2 ⟨main.1, ?_⟩
  rw [loc_cone S main.1, main.2]; rfl
end Go.Proofs.YtkkmioffclpmfaaGreat
