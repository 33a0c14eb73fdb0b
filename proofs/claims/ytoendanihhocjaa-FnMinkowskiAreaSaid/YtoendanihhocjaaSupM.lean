
/- Support values, in plain words: of hulls, in the opposite direction, of sums; hulls that meet. No program in sight. -/
import Derived.Test.YtoendanihhocjaaSupp
import Derived.Test.YtoendanihhocjaaMeetI
set_option linter.unusedVariables false
set_option linter.unusedSimpArgs false
namespace Go.Proofs.Ytoendanihhocjaa
open Go.RowKit

theorem bestTo_max (f : Nat → Int) : ∀ k i, i < k → f i ≤ f (bestTo f k)
  | 0, i, h => by omega
  | k + 1, i, h => by
    by_cases hc : f (bestTo f k) < f k
    · rw [bestTo_yes hc]
      rcases Nat.lt_succ_iff_lt_or_eq.1 h with h | rfl
      · have := bestTo_max f k i h; omega
      · exact Int.le_refl _
    · rw [bestTo_no hc]
      rcases Nat.lt_succ_iff_lt_or_eq.1 h with h | rfl
      · exact bestTo_max f k i h
      · omega
/-- The support value of these arguments is one. -/
def SupOk (ps : List Pt) (x y : Int) : Prop := listOk ps = true ∧ ps.length ≠ 0 ∧ vP x y = true
theorem SupOk.iff (ps : List Pt) (x y : Int) : SupOk ps x y ↔ ¬ extremeOf ps x y < 0 := by
  constructor
  · rintro ⟨h1, h2, h3⟩; rw [extremeOf_yes h1 h2 h3]; omega
  · intro h
    rcases extremeOf_cases ps x y with e | ⟨e, h1, h2, h3⟩
    · omega
    · exact ⟨h1, by omega, h3⟩
theorem support_max {ps : List Pt} {x y : Int} (h : SupOk ps x y) : (∀ p ∈ ps, dotP p x y ≤ supportOf ps x y) ∧ ∃ p ∈ ps, dotP p x y = supportOf ps x y := by
  obtain ⟨h1, h2, h3⟩ := h
  rw [supportOf_yes (extremeOf_yes h1 h2 h3)]
  constructor
  · intro p hp
    obtain ⟨i, hi, rfl⟩ := gp_of_mem hp
    exact bestTo_max (dotAt ps x y) ps.length i hi
  · exact ⟨gp ps (bestTo (dotAt ps x y) ps.length), gp_mem (bestTo_lt _ _ (by omega)), rfl⟩
theorem support_bd {ps : List Pt} {x y : Int} (h : SupOk ps x y) : -2000000 ≤ supportOf ps x y ∧ supportOf ps x y ≤ 2000000 := by
  obtain ⟨_, p, hp, e⟩ := support_max h
  rw [← e]
  have h1 := h.1
  unfold listOk at h1
  simp only [Bool.and_eq_true] at h1
  have h2 := vP_iff.1 (List.all_eq_true.1 h1.2 p hp)
  have h3 := vP_iff.1 h.2.2
  have m1 := mul_bd (a := p.x) (b := x) (M := 1000) (N := 1000) (by omega) (by omega)
  have m2 := mul_bd (a := p.y) (b := y) (M := 1000) (N := 1000) (by omega) (by omega)
  unfold dotP
  omega
theorem support_eq {ps : List Pt} {x y m : Int} (h : SupOk ps x y) (h1 : ∀ p ∈ ps, dotP p x y ≤ m) (h2 : ∃ p ∈ ps, m ≤ dotP p x y) : supportOf ps x y = m := by
  obtain ⟨g1, p, hp, e⟩ := support_max h
  obtain ⟨q, hq, e2⟩ := h2
  have := h1 p hp
  have := g1 q hq
  omega
theorem listOk_sub {ps qs : List Pt} (h : listOk ps = true) (hs : ∀ q ∈ qs, q ∈ ps) (hl : qs.length ≤ 20) : listOk qs = true := by
  unfold listOk at h ⊢
  simp only [Bool.and_eq_true, decide_eq_true_eq] at h ⊢
  exact ⟨hl, List.all_eq_true.2 fun q hq => List.all_eq_true.1 h.2 q (hs q hq)⟩
theorem listOk_InB' {a : List Pt} (h : listOk a = true) : a.length ≤ 20 := by unfold listOk at h; simp only [Bool.and_eq_true, decide_eq_true_eq] at h; exact h.1
theorem listOk_hull {ps : List Pt} (h : listOk ps = true) : listOk (hullOf ps) = true :=
  listOk_sub h (fun q hq => hullOf_sub hq) (Nat.le_trans (hullOf_len' ps) (listOk_InB' h))
theorem hull_ne {ps : List Pt} (h : ps.length ≠ 0) : (hullOf ps).length ≠ 0 := by
  have := hull_pos (l := ps) (fun e => h (by rw [e]; rfl))
  omega
theorem SupOk.hull {ps : List Pt} {x y : Int} (h : SupOk ps x y) : SupOk (hullOf ps) x y := ⟨listOk_hull h.1, hull_ne h.2.1, h.2.2⟩
theorem support_hull {ps : List Pt} {x y : Int} (h : SupOk ps x y) : supportOf (hullOf ps) x y = supportOf ps x y := by
  obtain ⟨g1, p, hp, e⟩ := support_max h
  refine support_eq h.hull (fun q hq => g1 q (hullOf_sub hq)) ?_
  obtain ⟨v, hv, hle⟩ := hull_far hp x y
  exact ⟨v, hv, by omega⟩
theorem dotP_opp (p : Pt) (x y : Int) : dotP p (-x) (-y) = -dotP p x y := by unfold dotP; grind
theorem vP_neg {x y : Int} (h : vP x y = true) : vP (-x) (-y) = true := by rw [vP_iff] at *; omega
theorem SupOk.opp {ps : List Pt} {x y : Int} (h : SupOk ps x y) : SupOk ps (-x) (-y) := ⟨h.1, h.2.1, vP_neg h.2.2⟩
theorem support_opp {ps : List Pt} {x y : Int} (h : SupOk ps x y) : 0 ≤ supportOf ps x y + supportOf ps (-x) (-y) := by
  obtain ⟨g1, p, hp, e⟩ := support_max h
  have := (support_max h.opp).1 p hp
  rw [dotP_opp] at this
  omega
theorem dotP_add (p q : Pt) (x y : Int) : dotP (addP p q) x y = dotP p x y + dotP q x y := by unfold dotP addP; grind
theorem support_sums {a b : List Pt} {x y : Int} (ha : SupOk a x y) (hb : SupOk b x y) (hs : SupOk (hullOf (sumsL a b)) x y) : supportOf (hullOf (sumsL a b)) x y = supportOf a x y + supportOf b x y := by
  obtain ⟨a1, p, hp, ea⟩ := support_max ha
  obtain ⟨b1, q, hq, eb⟩ := support_max hb
  refine support_eq hs (fun r hr => ?_) ?_
  · obtain ⟨u, v, hu, hv, rfl⟩ := sumsL_mem.1 (hullOf_sub hr)
    have := a1 u hu
    have := b1 v hv
    rw [dotP_add]; omega
  · obtain ⟨v, hv, hle⟩ := hull_far (sumsL_mem.2 ⟨p, q, hp, hq, rfl⟩) x y
    refine ⟨v, hv, ?_⟩
    rw [dotP_add] at hle
    omega
/-! ### hulls that meet -/
theorem bothL_len {a b : List Pt} (h : bothL a b = true) : a ≠ [] ∧ b ≠ [] := by
  unfold bothL at h
  simp only [Bool.and_eq_true, decide_eq_true_eq] at h
  exact ⟨fun e => by rw [e] at h; simp at h, fun e => by rw [e] at h; simp at h⟩
theorem bothL_mk {a b : List Pt} (h1 : listOk a = true) (h2 : listOk b = true) (h3 : a ≠ []) (h4 : b ≠ []) : bothL a b = true := by
  unfold bothL
  have := List.length_pos_iff.2 h3
  have := List.length_pos_iff.2 h4
  simp [h1, h2, *]
theorem bothL_parts {a b : List Pt} (h : bothL a b = true) : listOk a = true ∧ listOk b = true ∧ a ≠ [] ∧ b ≠ [] := by
  have := bothL_len h
  unfold bothL at h
  simp only [Bool.and_eq_true, decide_eq_true_eq] at h
  exact ⟨h.1.1.1, h.1.1.2, this⟩
theorem bothL_comm (a b : List Pt) : bothL a b = bothL b a := by
  rw [Bool.eq_iff_iff]
  constructor <;> intro h <;> obtain ⟨h1, h2, h3, h4⟩ := bothL_parts h <;> exact bothL_mk h2 h1 h4 h3
theorem sums_ne {a b : List Pt} (ha : a ≠ []) (hb : b ≠ []) : sumsL a (b.map negP) ≠ [] := by
  obtain ⟨p, hp⟩ := List.exists_mem_of_ne_nil a ha
  obtain ⟨q, hq⟩ := List.exists_mem_of_ne_nil b hb
  have := sumsL_mem.2 ⟨p, negP q, hp, List.mem_map.2 ⟨q, hq, rfl⟩, rfl⟩
  exact List.ne_nil_of_mem this
theorem meet_has {a b : List Pt} (h : bothL a b = true) : meetOf a b = true ↔ ∀ x y, ∃ p q, p ∈ a ∧ q ∈ b ∧ dotP q x y ≤ dotP p x y := by
  rw [meetOf_yes h, meet_iff (sums_ne (bothL_len h).1 (bothL_len h).2)]
  have dn : ∀ q x y, dotP (negP q) x y = -dotP q x y := fun q x y => by unfold dotP negP; grind
  constructor
  · intro H x y
    obtain ⟨r, hr, hd⟩ := H x y
    obtain ⟨p, q', hp, hq', rfl⟩ := sumsL_mem.1 hr
    obtain ⟨q, hq, rfl⟩ := List.mem_map.1 hq'
    rw [dotP_add, dn] at hd
    exact ⟨p, q, hp, hq, by omega⟩
  · intro H x y
    obtain ⟨p, q, hp, hq, hd⟩ := H x y
    exact ⟨_, sumsL_mem.2 ⟨p, negP q, hp, List.mem_map.2 ⟨q, hq, rfl⟩, rfl⟩, by rw [dotP_add, dn]; omega⟩
theorem meet_comm {a b : List Pt} (h : bothL a b = true) : meetOf b a = meetOf a b := by
  have hb : bothL b a = true := by rw [bothL_comm]; exact h
  rw [Bool.eq_iff_iff, meet_has h, meet_has hb]
  constructor
  · intro H x y
    obtain ⟨p, q, hp, hq, hd⟩ := H (-x) (-y)
    rw [dotP_opp, dotP_opp] at hd
    exact ⟨q, p, hq, hp, by omega⟩
  · intro H x y
    obtain ⟨p, q, hp, hq, hd⟩ := H (-x) (-y)
    rw [dotP_opp, dotP_opp] at hd
    exact ⟨q, p, hq, hp, by omega⟩
theorem meet_common {a b : List Pt} (h : bothL a b = true) {p : Pt} (hp : p ∈ a) (hq : p ∈ b) : meetOf a b = true :=
  (meet_has h).2 fun x y => ⟨p, p, hp, hq, Int.le_refl _⟩
theorem meet_self {a : List Pt} (h : listOk a = true) (hne : a ≠ []) : meetOf a a = true := by
  obtain ⟨p, hp⟩ := List.exists_mem_of_ne_nil a hne
  exact meet_common (bothL_mk h h hne hne) hp hp
theorem meet_support {a b : List Pt} (ha : SupOk a 1 0) (hb : SupOk b (-1) 0) (h : meetOf a b = true) : -supportOf b (-1) 0 ≤ supportOf a 1 0 := by
  have hB : bothL a b = true := bothL_mk ha.1 hb.1 (fun e => ha.2.1 (by rw [e]; rfl)) (fun e => hb.2.1 (by rw [e]; rfl))
  obtain ⟨p, q, hp, hq, hd⟩ := (meet_has hB).1 h 1 0
  have h1 := (support_max ha).1 p hp
  have h2 := (support_max hb).1 q hq
  have : dotP q (-1) 0 = -dotP q 1 0 := by have := dotP_opp q 1 0; simpa using this
  omega
theorem listOk_near {ps : List Pt} (h : ∀ p ∈ ps, (-900 ≤ p.x ∧ p.x ≤ 900) ∧ (-900 ≤ p.y ∧ p.y ≤ 900)) (hl : ps.length ≤ 20) : listOk ps = true := by
  unfold listOk
  simp only [Bool.and_eq_true, decide_eq_true_eq]
  refine ⟨hl, List.all_eq_true.2 fun p hp => ?_⟩
  have := h p hp
  unfold Pt.ok
  rw [vP_iff]; omega
end Go.Proofs.Ytoendanihhocjaa
