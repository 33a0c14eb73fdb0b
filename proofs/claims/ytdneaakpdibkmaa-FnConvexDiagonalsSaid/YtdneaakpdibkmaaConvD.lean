
/- Plain: a convex polygon has all diagonals; how many these are. -/
import Derived.Test.YtdneaakpdibkmaaCanM
import Derived.Test.YtdneaakpdibkmaaPairs
import Derived.Test.YtdneaakpdibkmaaConv
set_option linter.unusedVariables false
set_option linter.unusedSimpArgs false
namespace Go.Proofs.Ytdneaakpdibkmaa
open Go.RowKit

theorem ci_ne {ps : List Pt} (h : CI ps) {a b c : Nat} (ha : a < ps.length) (hb : b < ps.length) (hc : c < ps.length) (ab : a ≠ b) (bc : b ≠ c) (ac : a ≠ c) : trn (gp ps a) (gp ps b) (gp ps c) ≠ 0 := by
  have f1 : ∀ x y z : Pt, trn y x z = -trn x y z := fun x y z => by unfold trn; grind
  have f2 := trn_r1
  by_cases h1 : a < b <;> by_cases h2 : b < c <;> by_cases h3 : a < c
  · have := h a b c h1 h2 hc; omega
  · omega
  · have := h a c b h3 (by omega) hb
    have e1 := f1 (gp ps a) (gp ps c) (gp ps b)
    have e2 := trn_r1 (gp ps c) (gp ps a) (gp ps b)
    omega
  · have := h c a b (by omega) h1 hb
    have e2 := trn_r1 (gp ps c) (gp ps a) (gp ps b)
    omega
  · have := h b a c (by omega) h3 hc
    have e1 := f1 (gp ps b) (gp ps a) (gp ps c)
    omega
  · have := h b c a h2 (by omega) ha
    have e2 := trn_r2 (gp ps b) (gp ps c) (gp ps a)
    omega
  · omega
  · have := h c b a (by omega) (by omega) ha
    have e1 := f1 (gp ps c) (gp ps b) (gp ps a)
    have e2 := trn_r2 (gp ps b) (gp ps c) (gp ps a)
    omega
theorem onSeg_off {a b q : Pt} (h : trn a b q ≠ 0) : onSeg a b q = false := by
  rw [← Bool.not_eq_true]
  intro hh
  exact h (onS_iff hh)
theorem conv_cho {ps : List Pt} (h : convB ps = true) {i k : Nat} (hi : i < ps.length) (hk : k < ps.length) (hne : i ≠ k) (n1 : k ≠ (i + 1) % ps.length) (n2 : i ≠ (k + 1) % ps.length) : Cho ps i k ∧ coneB ps i k = true := by
  have hc := convB_conv h
  have hCI := conv_CI hc
  have h0 := h
  unfold convB leftB at h0
  simp only [Bool.and_eq_true, List.all_eq_true, List.mem_range, decide_eq_true_eq] at h0
  have S := sim_of h0.1
  have lo : ∀ {i v : Nat}, i < ps.length → v < ps.length → v ≠ i → v ≠ (i + 1) % ps.length → 0 < trn (gp ps i) (gp ps ((i + 1) % ps.length)) (gp ps v) := fun hi hv a b => left_of hc S.nodup hi hv a b
  have nx : ∀ j, (j + 1) % ps.length < ps.length := fun j => Nat.mod_lt _ (by omega)
  refine ⟨⟨hi, hk, hne, n1, n2, fun j hj a b c d => ?_, fun j hj a b => onSeg_off (ci_ne hCI hi hk hj hne (fun e => b e.symm) (fun e => a e.symm))⟩, ?_⟩
  · have t1 := lo hj hi (fun e => a e.symm) (fun e => b e.symm)
    have t2 := lo hj hk (fun e => c e.symm) (fun e => d e.symm)
    exact ⟨onSeg_off (by omega), onSeg_off (by omega), onSeg_off (ci_ne hCI hi hk hj hne (fun e => c e.symm) (fun e => a e.symm)), onSeg_off (ci_ne hCI hi hk (nx j) hne (fun e => d e.symm) (fun e => b e.symm)), fun hh => by omega⟩
  · have hA : ¬ areaL ps < 0 := by
      have hL := conv_Lft S h0.2
      rcases area_sgn h0.1 with hh | hh <;> omega
    obtain ⟨p1, p2⟩ := pred_ex hi
    unfold coneB
    rw [if_neg hA]
    generalize (i + ps.length - 1) % ps.length = m at *
    have mi := mod_next hi
    have mm := mod_next p1
    have mk := mod_next hk
    have h3 := S.three
    have q1 := lo p1 (nx i) (by split at mi <;> split at mm <;> omega) (by rw [p2]; split at mi <;> split at mm <;> omega)
    have q2 := lo p1 hk (by rintro rfl; exact n2 p2.symm) (by rw [p2]; exact fun e => hne e.symm)
    have q3 := lo hi hk (fun e => hne e.symm) n1
    rw [p2] at q1 q2
    exact decide_eq_true (.inl ⟨q1, q2, q3⟩)
theorem conv_diag {ps : List Pt} (h : convB ps = true) {i k : Nat} (hi : i < ps.length) (hk : k < ps.length) : diagI ps i k = decide (i ≠ k ∧ k ≠ (i + 1) % ps.length ∧ i ≠ (k + 1) % ps.length) := by
  have h0 := h
  unfold convB at h0
  rw [Bool.and_eq_true] at h0
  have S := sim_of h0.1
  by_cases hp : i ≠ k ∧ k ≠ (i + 1) % ps.length ∧ i ≠ (k + 1) % ps.length
  · rw [decide_eq_true hp, diag_eq S hi hk]
    exact (diagS_iff S hi hk).2 (conv_cho h hi hk hp.1 hp.2.1 hp.2.2)
  · rw [decide_eq_false hp, ← Bool.not_eq_true, diagI_iff S hi hk]
    exact fun hh => hp ⟨hh.1.ne, hh.1.n1, hh.1.n2⟩
/-! ### how many -/
def diagL (ps : List Pt) : List Pt := if simB ps then (prL ps.length).filter (fun d => diagI ps d.x.toNat d.y.toNat) else []
def apB (n : Nat) (d : Pt) : Bool := !(decide (d.x + 1 = d.y) || (decide (d.x = 0) && decide (d.y + 1 = n)))
theorem ap_count : ∀ n, n < 21 → 3 ≤ n → ((prL n).filter (apB n)).length = n * (n - 3) / 2 := by decide +kernel
theorem conv_count {ps : List Pt} (h : convB ps = true) : (diagL ps).length = ps.length * (ps.length - 3) / 2 ∧ 3 ≤ ps.length ∧ ps.length < 21 := by
  have h0 := h
  unfold convB at h0
  rw [Bool.and_eq_true] at h0
  obtain ⟨_, h3, h20, _⟩ := simB_parts h0.1
  refine ⟨?_, by omega, by omega⟩
  rw [← ap_count ps.length (by omega) (by omega)]
  unfold diagL
  rw [if_pos h0.1]
  congr 1
  refine List.filter_congr fun d hd => ?_
  obtain ⟨i, k, h1, h2, h3', rfl⟩ := prsTo_mem.1 (show d ∈ prsTo ps.length ps.length from hd)
  simp only [Int.toNat_natCast]
  rw [conv_diag h (by omega) h3']
  have mi := mod_next (show i < ps.length by omega)
  have mk := mod_next h3'
  unfold apB
  rw [Bool.eq_iff_iff]
  simp only [decide_eq_true_eq, Bool.not_eq_true', Bool.or_eq_false_iff, decide_eq_false_iff_not, Bool.and_eq_false_iff]
  constructor
  · rintro ⟨a, b, c⟩
    refine ⟨fun e => b ?_, ?_⟩
    · rw [mi, if_neg (by omega)]; omega
    · by_cases e : i = 0
      · exact .inr fun e2 => c (by rw [mk, if_pos (by omega)]; exact e)
      · exact .inl (by omega)
  · rintro ⟨a, b⟩
    refine ⟨by omega, fun e => ?_, fun e => ?_⟩
    · rw [mi] at e; split at e <;> omega
    · rw [mk] at e; split at e <;> omega
/-! ### a diagonal, whichever way the corners go -/
theorem loc_rev (ps : List Pt) (q : Pt) : locI ps.reverse q = locI ps q := by
  have h1 : cwTo ps.reverse q ps.reverse.length = -cwTo ps q ps.length := edge_rev (fun a b => cw a b q) (fun a b => cw_swap a b q) ps
  have h2 : onAny ps.reverse q = onAny ps q := by
    have key : ∀ qs : List Pt, onAny qs q = false → onAny qs.reverse q = false := fun qs h => by
      rw [onAny_no] at h ⊢
      intro j hj
      rw [List.length_reverse] at hj ⊢
      have lm : (j + 1) % qs.length < qs.length := Nat.mod_lt _ (by omega)
      rw [rev_at hj, rev_at lm]
      have := h (qs.length - 1 - (j + 1) % qs.length) (by omega)
      rw [rev_ix hj] at this
      rw [onSeg_swap]; exact this
    by_cases h : onAny ps q = false
    · rw [h, key ps h]
    · rw [Bool.not_eq_false] at h
      rw [h, ← Bool.not_eq_false]
      intro h3
      have := key _ h3
      rw [List.reverse_reverse, h] at this
      cases this
  unfold locI inK
  rw [h1, h2]
  have e : (-cwTo ps q ps.length % 2 = 0) = (cwTo ps q ps.length % 2 = 0) := by rw [eq_iff_iff]; omega
  simp only [e]
theorem cho_rev {ps : List Pt} {i k : Nat} (c : Cho ps.reverse i k) : Cho ps (ps.length - 1 - i) (ps.length - 1 - k) := by
  have hi := c.hi
  have hk := c.hk
  have n1 := c.n1
  have n2 := c.n2
  have ne := c.ne
  rw [List.length_reverse] at hi hk n1 n2
  have mi := mod_next hi
  have mk := mod_next hk
  have gi' : gp ps.reverse i = gp ps (ps.length - 1 - i) := rev_at hi
  have gk : gp ps.reverse k = gp ps (ps.length - 1 - k) := rev_at hk
  refine ⟨by omega, by omega, by omega, ?_, ?_, fun j hj a b d e => ?_, fun j hj a b => ?_⟩
  · have := mod_next (show ps.length - 1 - i < ps.length by omega)
    rw [this]; split <;> split at mk <;> omega
  · have := mod_next (show ps.length - 1 - k < ps.length by omega)
    rw [this]; split <;> split at mi <;> omega
  · have lm : (j + 1) % ps.length < ps.length := Nat.mod_lt _ (by omega)
    have l2 : ps.length - 1 - (j + 1) % ps.length < ps.length := by omega
    have D := c.far (ps.length - 1 - (j + 1) % ps.length) (by rw [List.length_reverse]; exact l2) (by omega) (by rw [List.length_reverse, rev_ix hj]; omega) (by omega) (by rw [List.length_reverse, rev_ix hj]; omega)
    rw [List.length_reverse, rev_ix hj, rev_at l2, rev_at (show ps.length - 1 - j < ps.length by omega), gi', gk, show ps.length - 1 - (ps.length - 1 - (j + 1) % ps.length) = (j + 1) % ps.length by omega, show ps.length - 1 - (ps.length - 1 - j) = j by omega] at D
    exact D.swap1
  · have D := c.off (ps.length - 1 - j) (by rw [List.length_reverse]; omega) (by omega) (by omega)
    rw [rev_at (show ps.length - 1 - j < ps.length by omega), gi', gk, show ps.length - 1 - (ps.length - 1 - j) = j by omega] at D
    exact D
theorem diag_any {ps : List Pt} (h : simB ps = true) (h4 : 4 ≤ ps.length) : ∃ i k, i < ps.length ∧ k < ps.length ∧ diagI ps i k = true := by
  rcases area_sgn h with ⟨hL, _⟩ | ⟨_, ha⟩
  · exact diag_ex (sim_of h) h4 hL
  · have hr := rev_sim h
    have hL : Lft ps.reverse = 1 := by
      rcases area_sgn hr with ⟨e, _⟩ | ⟨_, e⟩
      · exact e
      · rw [area_rev] at e; omega
    obtain ⟨i, k, hi, hk, hd⟩ := diag_ex (sim_of hr) (by rw [List.length_reverse]; exact h4) hL
    obtain ⟨c, hl⟩ := (diagI_iff (sim_of hr) hi hk).1 hd
    rw [List.length_reverse] at hi hk
    rw [List.map_reverse, loc_rev, rev_at hi, rev_at hk] at hl
    exact ⟨ps.length - 1 - i, ps.length - 1 - k, by omega, by omega, (diagI_iff (sim_of h) (by omega) (by omega)).2 ⟨cho_rev c, hl⟩⟩
theorem diagL_mem {ps : List Pt} (h : simB ps = true) {i k : Nat} (hik : i < k) (hk : k < ps.length) (hd : diagI ps i k = true) : (⟨(i : Int), (k : Int)⟩ : Pt) ∈ diagL ps := by
  unfold diagL
  rw [if_pos h, List.mem_filter]
  exact ⟨prsTo_mem.2 ⟨i, k, by omega, hik, hk, rfl⟩, hd⟩
theorem diagL_pos {ps : List Pt} (h : simB ps = true) (h4 : 4 ≤ ps.length) : 0 < (diagL ps).length := by
  obtain ⟨i, k, hi, hk, hd⟩ := diag_any h h4
  rcases Nat.lt_trichotomy i k with hh | hh | hh
  · exact List.length_pos_of_mem (diagL_mem h hh hk hd)
  · have := ((diagI_iff (sim_of h) hi hk).1 hd).1.ne
    exact absurd hh this
  · rw [diag_symm (sim_of h) hk hi] at hd
    exact List.length_pos_of_mem (diagL_mem h hh hi hd)
/-! ### the list, row by row -/
def dRow (ps : List Pt) (a b : Nat) : List Pt := (rowPr a b).filter (fun d => diagI ps d.x.toNat d.y.toNat)
def dTo (ps : List Pt) (a : Nat) : List Pt := (prsTo ps.length a).filter (fun d => diagI ps d.x.toNat d.y.toNat)
theorem dRow_nil (ps : List Pt) (a : Nat) : dRow ps a (a + 1) = [] := by unfold dRow; rw [rowPr_nil]; rfl
theorem dRow_yes {ps : List Pt} {a b : Nat} (h : a + 1 ≤ b) (hd : diagI ps a b = true) : dRow ps a (b + 1) = dRow ps a b ++ [⟨(a : Int), (b : Int)⟩] := by
  unfold dRow; rw [rowPr_succ h, List.filter_append]; simp [hd]
theorem dRow_no {ps : List Pt} {a b : Nat} (h : a + 1 ≤ b) (hd : diagI ps a b = false) : dRow ps a (b + 1) = dRow ps a b := by
  unfold dRow; rw [rowPr_succ h, List.filter_append]; simp [hd]
theorem dTo_succ (ps : List Pt) (a : Nat) : dTo ps (a + 1) = dTo ps a ++ dRow ps a ps.length := by
  unfold dTo dRow; rw [← List.filter_append]; rfl
theorem dTo_len (ps : List Pt) (a : Nat) : (dTo ps a).length ≤ a * ps.length := Nat.le_trans (List.length_filter_le _ _) (prsTo_len _ _)
theorem dRow_len (ps : List Pt) (a b : Nat) : (dRow ps a b).length ≤ b := by
  refine Nat.le_trans (List.length_filter_le _ _) ?_
  rw [rowPr_len]; omega
theorem dTo_all {ps : List Pt} (h : simB ps = true) : dTo ps ps.length = diagL ps := by unfold diagL; rw [if_pos h]; rfl
theorem dTo_pre (ps : List Pt) {a : Nat} : ∀ {b : Nat}, a ≤ b → dTo ps a <+: dTo ps b
  | b, h => by
    induction b with
    | zero => rw [show a = 0 by omega]; exact List.prefix_refl _
    | succ b ih =>
      by_cases e : a = b + 1
      · rw [e]; exact List.prefix_refl _
      · rw [dTo_succ]; exact (ih (by omega)).trans (List.prefix_append _ _)
theorem dRow_pre (ps : List Pt) {a c : Nat} (hc : a + 1 ≤ c) : ∀ {b : Nat}, c ≤ b → dRow ps a c <+: dRow ps a b
  | b, h => by
    induction b with
    | zero => omega
    | succ b ih =>
      by_cases e : c = b + 1
      · rw [e]; exact List.prefix_refl _
      · have hp := ih (by omega)
        by_cases hd : diagI ps a b = true
        · rw [dRow_yes (by omega) hd]; exact hp.trans (List.prefix_append _ _)
        · rw [dRow_no (by omega) (eq_false_of_ne_true hd)]; exact hp
theorem pre_at {ps : List Pt} (h : simB ps = true) {i k : Nat} (hik : i < k) (hk : k < ps.length) (hd : diagI ps i k = true) : (dTo ps i ++ dRow ps i k).length < (diagL ps).length ∧ pX (diagL ps) (dTo ps i ++ dRow ps i k).length = i ∧ pY (diagL ps) (dTo ps i ++ dRow ps i k).length = k := by
  have h1 := dTo_pre ps (show i + 1 ≤ ps.length by omega)
  rw [dTo_all h, dTo_succ] at h1
  have h2 := dRow_pre ps (show i + 1 ≤ k + 1 by omega) (show k + 1 ≤ ps.length by omega)
  rw [dRow_yes (by omega) hd] at h2
  have h3 := ((List.prefix_append_right_inj (dTo ps i)).2 h2).trans h1
  rw [← List.append_assoc] at h3
  obtain ⟨t, ht⟩ := h3
  have e : gp (diagL ps) (dTo ps i ++ dRow ps i k).length = ⟨(i : Int), (k : Int)⟩ := by
    rw [← ht]
    unfold gp
    simp [List.getD_eq_getElem?_getD]
  refine ⟨by rw [← ht]; first | (simp; done) | (simp; omega), ?_, ?_⟩
  · unfold pX; rw [e]
  · unfold pY; rw [e]
end Go.Proofs.Ytdneaakpdibkmaa
