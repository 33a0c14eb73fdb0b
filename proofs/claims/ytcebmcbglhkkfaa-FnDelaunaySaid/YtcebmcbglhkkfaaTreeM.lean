
import Derived.Test.YtcebmcbglhkkfaaEarM
/- The triangles that are cut off: sides, areas, colors. No program in sight. -/
set_option linter.unusedVariables false
set_option linter.unusedSimpArgs false
namespace Go.Proofs.Ytcebmcbglhkkfaa
open Go.RowKit

/-- The place y is next to x in the ring. -/
def Fol (rs : List Nat) (x y : Nat) : Prop := ∃ j, j < rs.length ∧ gn rs j = x ∧ aft rs j = y
theorem Fol.only {rs : List Nat} (h : rs.Nodup) {x y z : Nat} (h1 : Fol rs x y) (h2 : Fol rs x z) : y = z := by
  obtain ⟨j, hj, a1, a2⟩ := h1
  obtain ⟨k, hk, b1, b2⟩ := h2
  have : j = k := gn_inj h hj hk (by rw [a1, b1])
  rw [← a2, ← b2, this]
theorem Fol.mem {rs : List Nat} {x y : Nat} (h : Fol rs x y) : x ∈ rs ∧ y ∈ rs := by
  obtain ⟨j, hj, rfl, rfl⟩ := h
  exact ⟨gn_mem hj, gn_mem (Nat.mod_lt _ (by omega))⟩
theorem Fol.at_ {rs : List Nat} {k : Nat} (hk : k < rs.length) : Fol rs (gn rs k) (aft rs k) := ⟨k, hk, rfl, rfl⟩
theorem Fol.bef_ {rs : List Nat} {k : Nat} (hk : k < rs.length) : Fol rs (bef rs k) (gn rs k) := by
  obtain ⟨p1, p2⟩ := pred_ex hk
  exact ⟨_, p1, rfl, by unfold aft; rw [p2]⟩
theorem er_next {n k j : Nat} (h4 : 4 ≤ n) (hk : k < n) (hj : j < n) (hjk : j ≠ k) (hn : (j + 1) % n ≠ k) :
    ∃ i, i < n - 1 ∧ (if i < k then i else i + 1) = j ∧ (if (i + 1) % (n - 1) < k then (i + 1) % (n - 1) else (i + 1) % (n - 1) + 1) = (j + 1) % n := by
  rw [mod_next hj] at hn ⊢
  by_cases h : j < k
  · refine ⟨j, by omega, if_pos h, ?_⟩
    rw [mod_next (show j < n - 1 by omega)]
    split at hn <;> split <;> split <;> omega
  · refine ⟨j - 1, by omega, by rw [if_neg (by omega)]; omega, ?_⟩
    rw [mod_next (show j - 1 < n - 1 by omega)]
    split at hn <;> split <;> split <;> omega
theorem er_back {n k i : Nat} (h4 : 4 ≤ n) (hk : k < n) (hi : i < n - 1) :
    (if i < k then i else i + 1) < n ∧ (if i < k then i else i + 1) ≠ k ∧
    ((((if i < k then i else i + 1) + 1) % n = k ∧ (if (i + 1) % (n - 1) < k then (i + 1) % (n - 1) else (i + 1) % (n - 1) + 1) = (k + 1) % n ∧ (k + n - 1) % n = (if i < k then i else i + 1)) ∨
     ((k + n - 1) % n ≠ (if i < k then i else i + 1) ∧ (if (i + 1) % (n - 1) < k then (i + 1) % (n - 1) else (i + 1) % (n - 1) + 1) = ((if i < k then i else i + 1) + 1) % n)) := by
  have kp : (k + n - 1) % n = if k = 0 then n - 1 else k - 1 := by
    split
    · rename_i e; subst e; rw [Nat.zero_add, Nat.mod_eq_of_lt (by omega)]
    · rw [show k + n - 1 = k - 1 + n by omega, Nat.add_mod_right]; exact Nat.mod_eq_of_lt (by omega)
  have mi := mod_next hi
  have mk := mod_next hk
  by_cases h : i < k
  · simp only [if_pos h]
    have m1 := mod_next (show i < n by omega)
    generalize (k + n - 1) % n = P at *
    generalize (i + 1) % (n - 1) = Q at *
    generalize (i + 1) % n = R at *
    generalize (k + 1) % n = U at *
    refine ⟨by omega, by omega, ?_⟩
    split at kp <;> split at mi <;> split at m1 <;> split at mk <;> (try split) <;> omega
  · simp only [if_neg h]
    have m1 := mod_next (show i + 1 < n by omega)
    generalize (k + n - 1) % n = P at *
    generalize (i + 1) % (n - 1) = Q at *
    generalize (i + 1 + 1) % n = R at *
    generalize (k + 1) % n = U at *
    refine ⟨by omega, by omega, ?_⟩
    split at kp <;> split at mi <;> split at m1 <;> split at mk <;> (try split) <;> omega
theorem aft_erase {rs : List Nat} (h4 : 4 ≤ rs.length) {k i : Nat} (hk : k < rs.length) (hi : i < rs.length - 1) :
    aft (rs.eraseIdx k) i = gn rs (if (i + 1) % (rs.length - 1) < k then (i + 1) % (rs.length - 1) else (i + 1) % (rs.length - 1) + 1) := by
  have hl : (rs.eraseIdx k).length = rs.length - 1 := List.length_eraseIdx_of_lt hk
  unfold aft
  rw [hl, gn_erase hk (Nat.mod_lt _ (by omega))]
  split <;> rfl
theorem gn_erase' {rs : List Nat} {k j : Nat} (hk : k < rs.length) (hj : j < rs.length - 1) : gn (rs.eraseIdx k) j = gn rs (if j < k then j else j + 1) := by
  rw [gn_erase hk hj]; split <;> rfl
/-- Who follows whom behind a cut. -/
theorem fol_cut {rs : List Nat} (hd : rs.Nodup) (h4 : 4 ≤ rs.length) {k : Nat} (hk : k < rs.length) :
    (∀ x y, Fol rs x y → x ≠ bef rs k → x ≠ gn rs k → Fol (rs.eraseIdx k) x y) ∧ (∀ x y, Fol (rs.eraseIdx k) x y → x ≠ bef rs k → Fol rs x y) ∧ Fol (rs.eraseIdx k) (bef rs k) (aft rs k) ∧ ¬ Fol rs (aft rs k) (bef rs k) ∧ gn rs k ∉ rs.eraseIdx k := by
  have hl : (rs.eraseIdx k).length = rs.length - 1 := List.length_eraseIdx_of_lt hk
  obtain ⟨p1, p2⟩ := pred_ex hk
  refine ⟨?_, ?_, ?_, ?_, ?_⟩
  · rintro x y ⟨j, hj, rfl, rfl⟩ h1 h2
    have n1 : j ≠ k := fun e => h2 (by rw [e])
    have n2 : (j + 1) % rs.length ≠ k := fun e => h1 (by
      unfold bef; rw [← e, pred_back hj])
    obtain ⟨i, hi, e1, e2⟩ := er_next h4 hk hj n1 n2
    refine ⟨i, by omega, by rw [gn_erase' hk hi, e1], by rw [aft_erase h4 hk hi, e2]; rfl⟩
  · rintro x y ⟨i, hi, rfl, rfl⟩ h1
    rw [hl] at hi
    rw [gn_erase' hk hi] at h1 ⊢
    rw [aft_erase h4 hk hi]
    obtain ⟨b1, b2, b3⟩ := er_back h4 hk hi
    rcases b3 with ⟨_, _, b⟩ | ⟨_, b⟩
    · exact absurd (by unfold bef; rw [b]) h1
    · rw [b]; exact Fol.at_ b1
  · have q : (k + rs.length - 1) % rs.length ≠ k := by
      have := mod_next p1
      rw [p2] at this
      split at this <;> omega
    obtain ⟨i, hi, e1⟩ : ∃ i, i < rs.length - 1 ∧ (if i < k then i else i + 1) = (k + rs.length - 1) % rs.length := by
      by_cases h : (k + rs.length - 1) % rs.length < k
      · exact ⟨_, by omega, if_pos h⟩
      · exact ⟨(k + rs.length - 1) % rs.length - 1, by omega, by rw [if_neg (by omega)]; omega⟩
    obtain ⟨b1, b2, b3⟩ := er_back h4 hk hi
    rw [e1] at b3
    rcases b3 with ⟨_, b, _⟩ | ⟨b, _⟩
    · exact ⟨i, by omega, by rw [gn_erase' hk hi, e1]; rfl, by rw [aft_erase h4 hk hi, b]; rfl⟩
    · exact absurd rfl b
  · rintro ⟨j, hj, e1, e2⟩
    have a1 : j = (k + 1) % rs.length := gn_inj hd hj (Nat.mod_lt _ (by omega)) e1
    have a2 : (j + 1) % rs.length = (k + rs.length - 1) % rs.length := gn_inj hd (Nat.mod_lt _ (by omega)) p1 e2
    have m1 := mod_next hk
    have m2 := mod_next hj
    have m3 := mod_next p1
    rw [p2] at m3
    split at m1 <;> split at m2 <;> split at m3 <;> omega
  · intro hm
    obtain ⟨i, hi, e⟩ := gn_of_mem hm
    rw [hl] at hi
    rw [gn_erase' hk hi] at e
    obtain ⟨b1, b2, _⟩ := er_back h4 hk hi
    exact b2 (gn_inj hd b1 hk e)

/-! ### sides -/
def sideB (t : Tri3) (i k : Nat) : Bool := (decide (t.a = i) && decide (t.b = k)) || (decide (t.b = i) && decide (t.c = k)) || (decide (t.c = i) && decide (t.a = k))
def cntS (T : List Tri3) (i k : Nat) : Nat := T.countP fun t => sideB t i k
theorem sideB_iff {t : Tri3} {i k : Nat} : sideB t i k = true ↔ (t.a = i ∧ t.b = k) ∨ (t.b = i ∧ t.c = k) ∨ (t.c = i ∧ t.a = k) := by
  unfold sideB; simp only [Bool.or_eq_true, Bool.and_eq_true, decide_eq_true_eq, or_assoc]
theorem cntS_cons (t : Tri3) (T : List Tri3) (i k : Nat) : cntS (t :: T) i k = cntS T i k + if sideB t i k = true then 1 else 0 := by unfold cntS; rw [List.countP_cons]
theorem cntS_none {T : List Tri3} {i k : Nat} (h : ∀ t ∈ T, sideB t i k = false) : cntS T i k = 0 := by
  unfold cntS; rw [List.countP_eq_zero]
  intro t ht hh; rw [h t ht] at hh; cases hh
structure Parts (rs : List Nat) (T : List Tri3) : Prop where
  one : ∀ i k, Fol rs i k → cntS T i k = 1 ∧ cntS T k i = 0
  two : ∀ i k, ¬ Fol rs i k → ¬ Fol rs k i → cntS T i k ≤ 1 ∧ cntS T i k = cntS T k i
def InRing (rs : List Nat) (T : List Tri3) : Prop := ∀ t ∈ T, t.a ∈ rs ∧ t.b ∈ rs ∧ t.c ∈ rs
def trnT (ps : List Pt) (t : Tri3) : Int := trn (gp ps t.a) (gp ps t.b) (gp ps t.c)
def areaT (ps : List Pt) : List Tri3 → Int
  | [] => 0
  | t :: T => trnT ps t + areaT ps T
theorem three_list {rs : List Nat} (h : rs.length = 3) : rs = [gn rs 0, gn rs 1, gn rs 2] := by
  match rs, h with
  | [a, b, c], _ => rfl
theorem fol_three {rs : List Nat} (h : rs.length = 3) {x y : Nat} : Fol rs x y ↔ (gn rs 0 = x ∧ gn rs 1 = y) ∨ (gn rs 1 = x ∧ gn rs 2 = y) ∨ (gn rs 2 = x ∧ gn rs 0 = y) := by
  unfold Fol aft
  rw [h]
  constructor
  · rintro ⟨j, hj, h1, h2⟩
    match j, hj with
    | 0, _ => exact .inl ⟨h1, h2⟩
    | 1, _ => exact .inr (.inl ⟨h1, h2⟩)
    | 2, _ => exact .inr (.inr ⟨h1, h2⟩)
  · rintro (⟨h1, h2⟩ | ⟨h1, h2⟩ | ⟨h1, h2⟩)
    · exact ⟨0, by omega, h1, h2⟩
    · exact ⟨1, by omega, h1, h2⟩
    · exact ⟨2, by omega, h1, h2⟩
theorem parts_three {rs : List Nat} (hd : rs.Nodup) (h : rs.length = 3) : Parts rs [lastT rs] := by
  have n01 : gn rs 0 ≠ gn rs 1 := fun e => by have := gn_inj hd (by omega) (by omega) e; omega
  have n02 : gn rs 0 ≠ gn rs 2 := fun e => by have := gn_inj hd (by omega) (by omega) e; omega
  have n12 : gn rs 1 ≠ gn rs 2 := fun e => by have := gn_inj hd (by omega) (by omega) e; omega
  have S : ∀ x y, sideB (lastT rs) x y = true ↔ Fol rs x y := fun x y => by rw [sideB_iff, fol_three h]; rfl
  have C : ∀ x y, cntS [lastT rs] x y = if sideB (lastT rs) x y = true then 1 else 0 := fun x y => by
    rw [cntS_cons, show cntS [] x y = 0 from rfl]; omega
  constructor
  · intro i k hf
    refine ⟨by rw [C, if_pos ((S i k).2 hf)], ?_⟩
    rw [C, if_neg fun hh => ?_]
    have hg := (S k i).1 hh
    rw [fol_three h] at hf hg
    omega
  · intro i k h1 h2
    rw [C, C, if_neg fun hh => h1 ((S i k).1 hh), if_neg fun hh => h2 ((S k i).1 hh)]
    exact ⟨by omega, rfl⟩
theorem parts_cons {rs : List Nat} (hd : rs.Nodup) (h4 : 4 ≤ rs.length) {k : Nat} (hk : k < rs.length) {T : List Tri3} (hP : Parts (rs.eraseIdx k) T) (hI : InRing (rs.eraseIdx k) T) : Parts rs (⟨bef rs k, gn rs k, aft rs k⟩ :: T) := by
  obtain ⟨F1, F2, F3, F4, F5⟩ := fol_cut hd h4 hk
  have Fa := Fol.bef_ hk
  have Fc := Fol.at_ hk
  have hde : (rs.eraseIdx k).Nodup := hd.sublist (List.eraseIdx_sublist ..)
  have nac : bef rs k ≠ aft rs k := fun e => by
    have p := pred_ex hk
    have e := gn_inj hd p.1 (Nat.mod_lt _ (by omega)) e
    have m1 := mod_next hk
    have m2 := mod_next p.1
    rw [p.2] at m2
    rw [← e] at m1
    split at m1 <;> split at m2 <;> omega
  have ma := F3.mem.1
  have mc := F3.mem.2
  generalize bef rs k = a at *
  generalize gn rs k = b at *
  generalize aft rs k = c at *
  generalize rs.eraseIdx k = es at *
  have nab : a ≠ b := fun e => F5 (by rw [← e]; exact ma)
  have ncb : c ≠ b := fun e => F5 (by rw [← e]; exact mc)
  have zb : ∀ x, cntS T x b = 0 := fun x => cntS_none fun t ht => by
    obtain ⟨t1, t2, t3⟩ := hI t ht
    rw [← Bool.not_eq_true, sideB_iff]
    rintro (⟨_, e⟩ | ⟨_, e⟩ | ⟨_, e⟩) <;> exact F5 (by rw [← e]; assumption)
  have bz : ∀ x, cntS T b x = 0 := fun x => cntS_none fun t ht => by
    obtain ⟨t1, t2, t3⟩ := hI t ht
    rw [← Bool.not_eq_true, sideB_iff]
    rintro (⟨e, _⟩ | ⟨e, _⟩ | ⟨e, _⟩) <;> exact F5 (by rw [← e]; assumption)
  have S : ∀ x y, sideB ⟨a, b, c⟩ x y = true ↔ (a = x ∧ b = y) ∨ (b = x ∧ c = y) ∨ (c = x ∧ a = y) := fun x y => sideB_iff
  have C : ∀ x y, cntS (⟨a, b, c⟩ :: T) x y = cntS T x y + if (a = x ∧ b = y) ∨ (b = x ∧ c = y) ∨ (c = x ∧ a = y) then 1 else 0 := fun x y => by
    rw [cntS_cons]
    congr 1
    by_cases hs : sideB ⟨a, b, c⟩ x y = true
    · rw [if_pos hs, if_pos ((S x y).1 hs)]
    · rw [if_neg hs, if_neg fun h => hs ((S x y).2 h)]
  constructor
  · intro x y hf
    by_cases xa : x = a
    · subst xa
      have : y = b := Fol.only hd hf Fa
      subst this
      rw [C, C, zb, bz, if_pos (.inl ⟨rfl, rfl⟩), if_neg (by omega)]; exact ⟨rfl, rfl⟩
    · by_cases xb : x = b
      · subst xb
        have : y = c := Fol.only hd hf Fc
        subst this
        rw [C, C, zb, bz, if_pos (.inr (.inl ⟨rfl, rfl⟩)), if_neg (by omega)]; exact ⟨rfl, rfl⟩
      · have hf' := F1 x y hf xa xb
        have yb : y ≠ b := fun e => F5 (by rw [← e]; exact hf'.mem.2)
        have nca : ¬ (x = c ∧ y = a) := fun ⟨e1, e2⟩ => F4 (by rw [← e1, ← e2]; exact hf)
        obtain ⟨o1, o2⟩ := hP.one x y hf'
        rw [C, C, o1, o2, if_neg (by omega), if_neg (by omega)]; exact ⟨rfl, rfl⟩
  · intro x y h1 h2
    obtain ⟨o1, o2⟩ := hP.one a c F3
    by_cases e1 : x = a ∧ y = c
    · obtain ⟨rfl, rfl⟩ := e1
      rw [C, C, o1, o2, if_neg (by omega), if_pos (by omega)]; exact ⟨by omega, rfl⟩
    · by_cases e2 : x = c ∧ y = a
      · obtain ⟨rfl, rfl⟩ := e2
        rw [C, C, o1, o2, if_pos (by omega), if_neg (by omega)]; exact ⟨by omega, rfl⟩
      · have m1 : ¬ (a = x ∧ b = y) := fun ⟨p, q⟩ => h1 (by rw [← p, ← q]; exact Fa)
        have m2 : ¬ (b = x ∧ c = y) := fun ⟨p, q⟩ => h1 (by rw [← p, ← q]; exact Fc)
        have m3 : ¬ (a = y ∧ b = x) := fun ⟨p, q⟩ => h2 (by rw [← p, ← q]; exact Fa)
        have m4 : ¬ (b = y ∧ c = x) := fun ⟨p, q⟩ => h2 (by rw [← p, ← q]; exact Fc)
        have g1 : ¬ Fol es x y := fun hf => by
          by_cases xa : x = a
          · subst xa; exact e1 ⟨rfl, Fol.only hde hf F3⟩
          · exact h1 (F2 x y hf xa)
        have g2 : ¬ Fol es y x := fun hf => by
          by_cases ya : y = a
          · subst ya; exact e2 ⟨Fol.only hde hf F3, rfl⟩
          · exact h2 (F2 y x hf ya)
        obtain ⟨t1, t2⟩ := hP.two x y g1 g2
        rw [C, C, if_neg (by omega), if_neg (by omega)]
        exact ⟨by omega, by omega⟩
theorem area_cut {ps : List Pt} {rs : List Nat} (h : RingOk ps rs) (h4 : 4 ≤ rs.length) {k : Nat} (hk : k < rs.length) : areaL (rpt ps rs) = trn (gp ps (bef rs k)) (gp ps (gn rs k)) (gp ps (aft rs k)) + areaL (rpt ps (rs.eraseIdx k)) := by
  obtain ⟨p1, p2⟩ := pred_ex hk
  have p3 : ((k + rs.length - 1) % rs.length + 2) % rs.length = (k + 1) % rs.length := by rw [← mod2, p2]
  have p4 : (k + 1) % rs.length < rs.length := Nat.mod_lt _ (by omega)
  have rl := rpt_len ps rs
  have A := (sgn_sum (ps := rpt ps rs) (i := (k + rs.length - 1) % rs.length) (d := 2) (k := (k + 1) % rs.length) (by rw [rl]; exact p1) (by rw [rl]; omega) (by rw [rl]; exact p3) (by rw [rl]; exact p4)).1
  rw [area_sum (arc (rpt ps rs) ((k + rs.length - 1) % rs.length) 2), tri_sums crP (by rw [rl]; exact p1), cr_tri, rl, p2, p3, gp_rpt ps p1, gp_rpt ps hk, gp_rpt ps p4] at A
  have ha : (arc (rpt ps rs) ((k + 1) % rs.length) (rs.length - 2)).length = rs.length - 1 := by rw [arc_len]; omega
  rw [ear_arc h h4 hk, area_rot (by rw [ha]; exact Nat.mod_lt _ (by omega)), A]; rfl
theorem area_three {ps : List Pt} {rs : List Nat} (h3 : rs.length = 3) : areaL (rpt ps rs) = trnT ps (lastT rs) := by
  have e3 : rpt ps rs = [gp ps (gn rs 0), gp ps (gn rs 1), gp ps (gn rs 2)] := by
    have := three_list h3
    unfold rpt
    generalize e0 : gn rs 0 = x0 at *
    generalize e1 : gn rs 1 = x1 at *
    generalize e2 : gn rs 2 = x2 at *
    rw [this]; rfl
  rw [e3, area3]; rfl
/-- All of it: sides, places, areas. -/
theorem cut_parts {ps : List Pt} : ∀ (f : Nat) (rs : List Nat), RingOk ps rs → rs.length = f + 3 → Parts rs (cutL ps f rs) ∧ InRing rs (cutL ps f rs) ∧ (∀ t ∈ cutL ps f rs, 0 < trnT ps t) ∧ areaT ps (cutL ps f rs) = areaL (rpt ps rs)
  | 0, rs, h, hl => by
    refine ⟨parts_three h.nodup hl, fun t ht => ?_, fun t ht => ?_, ?_⟩
    · rw [List.mem_singleton.1 ht]
      exact ⟨gn_mem (by omega), gn_mem (by omega), gn_mem (by omega)⟩
    · rw [List.mem_singleton.1 ht, ← area_three hl]
      have := sgn_ok _ _ rfl h.sim
      unfold SgnOk at this
      have := h.lft
      omega
    · rw [area_three hl]; show trnT ps (lastT rs) + 0 = _; omega
  | f + 1, rs, h, hl => by
    obtain ⟨e1, e2, _⟩ := fEar_ok h (by omega)
    obtain ⟨c1, c2⟩ := cutR_ok h (by omega)
    obtain ⟨i1, i2, i3, i4⟩ := cut_parts f (cutR ps rs) c1 (by omega)
    have sub : ∀ i, i ∈ cutR ps rs → i ∈ rs := fun i hi => (List.eraseIdx_sublist ..).subset hi
    have tp : 0 < trnT ps (clipT ps rs) := by
      unfold earB at e2
      rw [Bool.and_eq_true, decide_eq_true_eq] at e2
      exact e2.1
    refine ⟨parts_cons h.nodup (by omega) e1 i1 i2, fun t ht => ?_, fun t ht => ?_, ?_⟩
    · rcases List.mem_cons.1 ht with rfl | ht
      · exact ⟨gn_mem (Nat.mod_lt _ (by omega)), gn_mem e1, gn_mem (Nat.mod_lt _ (by omega))⟩
      · obtain ⟨t1, t2, t3⟩ := i2 t ht
        exact ⟨sub _ t1, sub _ t2, sub _ t3⟩
    · rcases List.mem_cons.1 ht with rfl | ht
      · exact tp
      · exact i3 t ht
    · show trnT ps (clipT ps rs) + areaT ps (cutL ps f (cutR ps rs)) = _
      rw [i4, area_cut h (by omega) e1]; rfl
theorem area_ring {ps : List Pt} (h : 0 < ps.length) : areaL (rpt ps (rgN ps)) = (if areaL ps < 0 then -areaL ps else areaL ps) := by
  rw [rpt_rgN]
  split
  · rw [area_rot (by rw [List.length_reverse]; omega), area_rev]
  · rfl
/-- The triangles of a polygon. -/
theorem tri_parts {ps : List Pt} (h : simB ps = true) : Parts (rgN ps) (triL ps) ∧ InRing (rgN ps) (triL ps) ∧ (∀ t ∈ triL ps, 0 < trnT ps t) ∧ areaT ps (triL ps) = (if areaL ps < 0 then -areaL ps else areaL ps) ∧ (triL ps).length = ps.length - 2 := by
  have h3 := (sim_of h).three
  obtain ⟨i1, i2, i3, i4⟩ := cut_parts (ps.length - 3) (rgN ps) (ring_first h) (by rw [rgN_len]; omega)
  refine ⟨i1, i2, i3, by rw [← area_ring (by omega)]; exact i4, ?_⟩
  unfold triL; rw [cutL_len]; omega
end Go.Proofs.Ytcebmcbglhkkfaa
/- Colors of the vertices of triangles: the search, what it finds; triangles that are cut off can be colored. No program in sight. -/
set_option linter.unusedVariables false
set_option linter.unusedSimpArgs false
namespace Go.Proofs.Ytcebmcbglhkkfaa
open Go.RowKit

/-- No triangle has a color twice. -/
def fitT (t : Tri3) (cs : List Int) : Bool := !((decide (0 ≤ gi cs t.a) && (decide (gi cs t.a = gi cs t.b) || decide (gi cs t.a = gi cs t.c))) || (decide (0 ≤ gi cs t.b) && decide (gi cs t.b = gi cs t.c)))
def fitC (T : List Tri3) (cs : List Int) : Bool := T.all fun t => fitT t cs
/-- The first colors from place i on, f places being left. -/
def srch (T : List Tri3) : Nat → Nat → List Int → Option (List Int)
  | 0, _, cs => some cs
  | f + 1, i, cs =>
    match (if fitC T (cs.set i 0) then srch T f (i + 1) (cs.set i 0) else none) with
    | some r => some r
    | none => match (if fitC T (cs.set i 1) then srch T f (i + 1) (cs.set i 1) else none) with
      | some r => some r
      | none => if fitC T (cs.set i 2) then srch T f (i + 1) (cs.set i 2) else none
def noCol (n : Nat) : List Int := List.replicate n (-1)
def colL (T : List Tri3) (n : Nat) : List Int := (srch T n 0 (noCol n)).getD (noCol n)
theorem gi_set {cs : List Int} {i j : Nat} {x : Int} (hi : i < cs.length) : gi (cs.set i x) j = if j = i then x else gi cs j := by
  unfold gi
  rw [List.getD_eq_getElem?_getD, List.getD_eq_getElem?_getD, List.getElem?_set]
  by_cases h : i = j
  · rw [if_pos h, if_pos h.symm, if_pos (by omega)]; rfl
  · rw [if_neg h, if_neg (fun e => h e.symm)]
structure ColOk (T : List Tri3) (g : Nat → Int) : Prop where
  rng : ∀ i, 0 ≤ g i ∧ g i ≤ 2
  diff : ∀ t ∈ T, g t.a ≠ g t.b ∧ g t.b ≠ g t.c ∧ g t.a ≠ g t.c
theorem fit_iff {T : List Tri3} {cs : List Int} : fitC T cs = true ↔ ∀ t ∈ T, ¬ (0 ≤ gi cs t.a ∧ (gi cs t.a = gi cs t.b ∨ gi cs t.a = gi cs t.c)) ∧ ¬ (0 ≤ gi cs t.b ∧ gi cs t.b = gi cs t.c) := by
  unfold fitC
  rw [List.all_eq_true]
  refine forall_congr' fun t => forall_congr' fun _ => ?_
  unfold fitT
  simp only [Bool.not_eq_true', Bool.or_eq_false_iff, ← Bool.not_eq_true, Bool.and_eq_true, Bool.or_eq_true, decide_eq_true_eq]
  exact not_or
/-- What is found. -/
theorem srch_some {T : List Tri3} : ∀ (f i : Nat) (cs r : List Int), cs.length = i + f → fitC T cs = true → (∀ j, j < i → 0 ≤ gi cs j ∧ gi cs j ≤ 2) → srch T f i cs = some r → r.length = cs.length ∧ fitC T r = true ∧ (∀ j, j < i → gi r j = gi cs j) ∧ ∀ j, j < i + f → 0 ≤ gi r j ∧ gi r j ≤ 2
  | 0, i, cs, r, hl, hf, hc, h => by
    injection h with h; subst h
    exact ⟨rfl, hf, fun _ _ => rfl, fun j hj => hc j (by omega)⟩
  | f + 1, i, cs, r, hl, hf, hc, h => by
    have step : ∀ k : Int, 0 ≤ k → k ≤ 2 → (if fitC T (cs.set i k) then srch T f (i + 1) (cs.set i k) else none) = some r → r.length = cs.length ∧ fitC T r = true ∧ (∀ j, j < i → gi r j = gi cs j) ∧ ∀ j, j < i + (f + 1) → 0 ≤ gi r j ∧ gi r j ≤ 2 := fun k k0 k2 hk => by
      split at hk
      · rename_i hft
        have hs : ∀ j, gi (cs.set i k) j = if j = i then k else gi cs j := fun j => gi_set (by omega)
        obtain ⟨a1, a2, a3, a4⟩ := srch_some f (i + 1) (cs.set i k) r (by rw [List.length_set]; omega) hft (fun j hj => by
          rw [hs]; split
          · exact ⟨k0, k2⟩
          · exact hc j (by omega)) hk
        refine ⟨by rw [a1, List.length_set], a2, fun j hj => by rw [a3 j (by omega), hs, if_neg (by omega)], fun j hj => a4 j (by omega)⟩
      · cases hk
    unfold srch at h
    split at h
    · rename_i r0 h0
      injection h with h; subst h
      exact step 0 (by omega) (by omega) h0
    · split at h
      · rename_i r1 h1
        injection h with h; subst h
        exact step 1 (by omega) (by omega) h1
      · exact step 2 (by omega) (by omega) h
/-- It finds what there is. -/
theorem srch_ex {T : List Tri3} {g : Nat → Int} (hg : ColOk T g) : ∀ (f i : Nat) (cs : List Int), cs.length = i + f → (∀ j, gi cs j = g j ∨ gi cs j < 0 ∨ i + f ≤ j) → (∀ j, j < i → gi cs j = g j) → (∀ t ∈ T, t.a < i + f ∧ t.b < i + f ∧ t.c < i + f) → ∃ r, srch T f i cs = some r
  | 0, i, cs, hl, hn, hc, hT => ⟨cs, rfl⟩
  | f + 1, i, cs, hl, hn, hc, hT => by
    have hs : ∀ (k : Int) j, gi (cs.set i k) j = if j = i then k else gi cs j := fun k j => gi_set (by omega)
    have hft : fitC T (cs.set i (g i)) = true := by
      rw [fit_iff]
      intro t ht
      obtain ⟨d1, d2, d3⟩ := hg.diff t ht
      obtain ⟨b1, b2, b3⟩ := hT t ht
      have v : ∀ j, j < i + (f + 1) → gi (cs.set i (g i)) j = g j ∨ gi (cs.set i (g i)) j < 0 := fun j hj => by
        rw [hs]; split
        · rename_i e; subst e; exact .inl rfl
        · rcases hn j with h | h | h
          · exact .inl h
          · exact .inr h
          · omega
      have va := v _ b1
      have vb := v _ b2
      have vc := v _ b3
      constructor
      · rintro ⟨h0, h1 | h1⟩ <;> omega
      · rintro ⟨h0, h1⟩; omega
    obtain ⟨r, hr⟩ := srch_ex hg f (i + 1) (cs.set i (g i)) (by rw [List.length_set]; omega) (fun j => by
      rw [hs]; split
      · rename_i e; subst e; exact .inl rfl
      · rcases hn j with h | h | h
        · exact .inl h
        · exact .inr (.inl h)
        · exact .inr (.inr (by omega))) (fun j hj => by
      rw [hs]; split
      · rename_i e; subst e; rfl
      · exact hc j (by omega)) (fun t ht => by have := hT t ht; omega)
    have hk : (if fitC T (cs.set i (g i)) then srch T f (i + 1) (cs.set i (g i)) else none) = some r := by rw [if_pos hft]; exact hr
    have hb := hg.rng i
    unfold srch
    split
    · exact ⟨_, rfl⟩
    · rename_i h0
      split
      · exact ⟨_, rfl⟩
      · rename_i h1
        have g2 : g i = 2 := by
          rcases (show g i = 0 ∨ g i = 1 ∨ g i = 2 by omega) with e | e | e
          · rw [e] at hk; rw [hk] at h0; cases h0
          · rw [e] at hk; rw [hk] at h1; cases h1
          · exact e
        rw [g2] at hk
        exact ⟨r, hk⟩
theorem gi_noCol (n j : Nat) : gi (noCol n) j = if j < n then -1 else 0 := by
  unfold gi noCol
  rw [List.getD_eq_getElem?_getD]
  split
  · rename_i h; rw [List.getElem?_replicate, if_pos h]; rfl
  · rename_i h; rw [List.getElem?_replicate, if_neg h]; rfl
theorem fit_noCol {T : List Tri3} {n : Nat} (hT : ∀ t ∈ T, t.a < n ∧ t.b < n ∧ t.c < n) : fitC T (noCol n) = true := by
  rw [fit_iff]
  intro t ht
  obtain ⟨b1, b2, b3⟩ := hT t ht
  rw [gi_noCol, gi_noCol, gi_noCol, if_pos b1, if_pos b2, if_pos b3]
  omega
/-- Colors that exist are found, and the first vertex has the first color. -/
theorem col_found {T : List Tri3} {n : Nat} (h0 : 0 < n) (hT : ∀ t ∈ T, t.a < n ∧ t.b < n ∧ t.c < n) (hex : ∃ g, ColOk T g) : (colL T n).length = n ∧ fitC T (colL T n) = true ∧ (∀ j, j < n → 0 ≤ gi (colL T n) j ∧ gi (colL T n) j ≤ 2) ∧ gi (colL T n) 0 = 0 := by
  obtain ⟨g, hg⟩ := hex
  -- colors turned so that the first vertex has the first one
  have hg' : ColOk T fun i => (g i + 3 - g 0) % 3 := by
    have b0 := hg.rng 0
    refine ⟨fun i => ⟨Int.emod_nonneg _ (by omega), by have := Int.emod_lt_of_pos (g i + 3 - g 0) (show (0 : Int) < 3 by omega); omega⟩, fun t ht => ?_⟩
    obtain ⟨d1, d2, d3⟩ := hg.diff t ht
    have ba := hg.rng t.a
    have bb := hg.rng t.b
    have bc := hg.rng t.c
    exact ⟨by omega, by omega, by omega⟩
  have e0 : ((g 0 + 3 - g 0) % 3 : Int) = 0 := by omega
  have nl : (noCol n).length = n := by simp [noCol]
  -- place 0 takes color 0
  obtain ⟨m, rfl⟩ : ∃ m, n = m + 1 := ⟨n - 1, by omega⟩
  have hs : ∀ j, gi ((noCol (m + 1)).set 0 0) j = if j = 0 then 0 else gi (noCol (m + 1)) j := fun j => gi_set (by rw [nl]; omega)
  have hft : fitC T ((noCol (m + 1)).set 0 0) = true := by
    rw [fit_iff]
    intro t ht
    obtain ⟨d1, d2, d3⟩ := hg'.diff t ht
    obtain ⟨b1, b2, b3⟩ := hT t ht
    have z : ∀ j, j < m + 1 → (gi ((noCol (m + 1)).set 0 0) j = 0 ∧ j = 0) ∨ gi ((noCol (m + 1)).set 0 0) j = -1 := fun j hj => by
      rw [hs]; split
      · rename_i e; exact .inl ⟨rfl, e⟩
      · rw [gi_noCol, if_pos hj]; exact .inr rfl
    have za := z _ b1
    have zb := z _ b2
    have zc := z _ b3
    have nab : t.a ≠ t.b := fun e => d1 (by rw [e])
    have nbc : t.b ≠ t.c := fun e => d2 (by rw [e])
    have nac : t.a ≠ t.c := fun e => d3 (by rw [e])
    omega
  obtain ⟨r, hr⟩ := srch_ex hg' m 1 ((noCol (m + 1)).set 0 0) (by rw [List.length_set, nl]; omega) (fun j => by
    rw [hs]; split
    · rename_i e; subst e; exact .inl e0.symm
    · rw [gi_noCol]; split
      · exact .inr (.inl (by omega))
      · exact .inr (.inr (by omega))) (fun j hj => by
    rw [hs, if_pos (by omega), show j = 0 by omega]; exact e0.symm) (fun t ht => by have := hT t ht; omega)
  have ec : srch T (m + 1) 0 (noCol (m + 1)) = some r := by
    unfold srch
    rw [if_pos hft, hr]
  obtain ⟨a1, a2, a3, a4⟩ := srch_some m 1 ((noCol (m + 1)).set 0 0) r (by rw [List.length_set, nl]; omega) hft (fun j hj => by rw [hs, if_pos (by omega)]; omega) hr
  have el : colL T (m + 1) = r := by unfold colL; rw [ec]; rfl
  rw [el]
  refine ⟨by rw [a1, List.length_set, nl], a2, fun j hj => a4 j (by omega), by rw [a3 0 (by omega), hs, if_pos rfl]⟩
theorem fit_diff {T : List Tri3} {cs : List Int} {n : Nat} (hf : fitC T cs = true) (hT : ∀ t ∈ T, t.a < n ∧ t.b < n ∧ t.c < n) (hc : ∀ j, j < n → 0 ≤ gi cs j) {t : Tri3} (ht : t ∈ T) : gi cs t.a ≠ gi cs t.b ∧ gi cs t.b ≠ gi cs t.c ∧ gi cs t.a ≠ gi cs t.c := by
  have := (fit_iff.1 hf) t ht
  obtain ⟨b1, b2, b3⟩ := hT t ht
  have := hc _ b1
  have := hc _ b2
  omega
/-- Triangles that are cut off can be colored. -/
theorem cut_color {ps : List Pt} : ∀ (f : Nat) (rs : List Nat), RingOk ps rs → rs.length = f + 3 → ∃ g, ColOk (cutL ps f rs) g
  | 0, rs, h, hl => by
    have n01 : gn rs 0 ≠ gn rs 1 := fun e => by have := gn_inj h.nodup (by omega) (by omega) e; omega
    have n02 : gn rs 0 ≠ gn rs 2 := fun e => by have := gn_inj h.nodup (by omega) (by omega) e; omega
    have n12 : gn rs 1 ≠ gn rs 2 := fun e => by have := gn_inj h.nodup (by omega) (by omega) e; omega
    refine ⟨fun i => if i = gn rs 0 then 0 else if i = gn rs 1 then 1 else 2, fun i => by split <;> (try split) <;> omega, fun t ht => ?_⟩
    rw [List.mem_singleton.1 ht]
    show (if gn rs 0 = gn rs 0 then (0 : Int) else _) ≠ (if gn rs 1 = gn rs 0 then (0 : Int) else if gn rs 1 = gn rs 1 then 1 else 2) ∧ (if gn rs 1 = gn rs 0 then (0 : Int) else if gn rs 1 = gn rs 1 then 1 else 2) ≠ (if gn rs 2 = gn rs 0 then (0 : Int) else if gn rs 2 = gn rs 1 then 1 else 2) ∧ (if gn rs 0 = gn rs 0 then (0 : Int) else _) ≠ (if gn rs 2 = gn rs 0 then (0 : Int) else if gn rs 2 = gn rs 1 then 1 else 2)
    rw [if_pos rfl, if_neg n01.symm, if_pos rfl, if_neg n02.symm, if_neg n12.symm]
    omega
  | f + 1, rs, h, hl => by
    obtain ⟨e1, e2, _⟩ := fEar_ok h (by omega)
    obtain ⟨c1, c2⟩ := cutR_ok h (by omega)
    obtain ⟨i1, i2, _⟩ := cut_parts f (cutR ps rs) c1 (by omega)
    obtain ⟨g, hg⟩ := cut_color f (cutR ps rs) c1 (by omega)
    obtain ⟨F1, F2, F3, F4, F5⟩ := fol_cut h.nodup (by omega) e1
    have hac : g (bef rs (fEar ps rs)) ≠ g (aft rs (fEar ps rs)) := by
      obtain ⟨o1, _⟩ := i1.one _ _ F3
      have : 0 < (cutL ps f (cutR ps rs)).countP fun t => sideB t (bef rs (fEar ps rs)) (aft rs (fEar ps rs)) := by
        show 0 < cntS _ _ _; omega
      obtain ⟨t, ht, hs⟩ := List.countP_pos_iff.1 this
      obtain ⟨d1, d2, d3⟩ := hg.diff t ht
      rcases sideB_iff.1 hs with ⟨x, y⟩ | ⟨x, y⟩ | ⟨x, y⟩
      · rw [← x, ← y]; exact d1
      · rw [← x, ← y]; exact d2
      · rw [← x, ← y]; exact d3.symm
    have ba := hg.rng (bef rs (fEar ps rs))
    have bc := hg.rng (aft rs (fEar ps rs))
    have nab : bef rs (fEar ps rs) ≠ gn rs (fEar ps rs) := fun e => F5 (by rw [← e]; exact F3.mem.1)
    have ncb : aft rs (fEar ps rs) ≠ gn rs (fEar ps rs) := fun e => F5 (by rw [← e]; exact F3.mem.2)
    refine ⟨fun i => if i = gn rs (fEar ps rs) then 3 - g (bef rs (fEar ps rs)) - g (aft rs (fEar ps rs)) else g i, fun i => ?_, fun t ht => ?_⟩
    · by_cases e : i = gn rs (fEar ps rs)
      · simp only [if_pos e]; omega
      · simp only [if_neg e]; exact hg.rng i
    · rcases List.mem_cons.1 ht with rfl | ht
      · show (if bef rs (fEar ps rs) = gn rs (fEar ps rs) then _ else g (bef rs (fEar ps rs))) ≠ (if gn rs (fEar ps rs) = gn rs (fEar ps rs) then _ else _) ∧ (if gn rs (fEar ps rs) = gn rs (fEar ps rs) then _ else _) ≠ (if aft rs (fEar ps rs) = gn rs (fEar ps rs) then _ else g (aft rs (fEar ps rs))) ∧ (if bef rs (fEar ps rs) = gn rs (fEar ps rs) then _ else g (bef rs (fEar ps rs))) ≠ (if aft rs (fEar ps rs) = gn rs (fEar ps rs) then _ else g (aft rs (fEar ps rs)))
        rw [if_neg nab, if_pos rfl, if_neg ncb]
        omega
      · obtain ⟨t1, t2, t3⟩ := i2 t ht
        have q : ∀ i, i ∈ cutR ps rs → i ≠ gn rs (fEar ps rs) := fun i hi e => F5 (by rw [← e]; exact hi)
        show (if t.a = gn rs (fEar ps rs) then _ else g t.a) ≠ (if t.b = gn rs (fEar ps rs) then _ else g t.b) ∧ (if t.b = gn rs (fEar ps rs) then _ else g t.b) ≠ (if t.c = gn rs (fEar ps rs) then _ else g t.c) ∧ (if t.a = gn rs (fEar ps rs) then _ else g t.a) ≠ (if t.c = gn rs (fEar ps rs) then _ else g t.c)
        rw [if_neg (q _ t1), if_neg (q _ t2), if_neg (q _ t3)]
        exact hg.diff t ht
theorem tri_color {ps : List Pt} (h : simB ps = true) : ∃ g, ColOk (triL ps) g := by
  have h3 := (sim_of h).three
  exact cut_color (ps.length - 3) (rgN ps) (ring_first h) (by rw [rgN_len]; omega)
end Go.Proofs.Ytcebmcbglhkkfaa
/- Triangles that divide a ring can be colored with three colors. No program in sight. -/
set_option linter.unusedVariables false
set_option linter.unusedSimpArgs false
namespace Go.Proofs.Ytcebmcbglhkkfaa
open Go.RowKit

theorem cntS_app (L R : List Tri3) (i k : Nat) : cntS (L ++ R) i k = cntS L i k + cntS R i k := by unfold cntS; rw [List.countP_append]
theorem cntS_perm {L R : List Tri3} (h : L.Perm R) (i k : Nat) : cntS L i k = cntS R i k := by unfold cntS; exact h.countP_eq _
/-- Corners that differ, below n. -/
def TriOk (n : Nat) (t : Tri3) : Prop := t.a < n ∧ t.b < n ∧ t.c < n ∧ t.a ≠ t.b ∧ t.b ≠ t.c ∧ t.a ≠ t.c
theorem sumN_comm (f : Nat → Nat → Int) (m : Nat) : ∀ n, sumN (fun i => sumN (fun k => f i k) m) n = sumN (fun k => sumN (fun i => f i k) n) m
  | 0 => by
    show 0 = _
    rw [sumN_zero]; exact fun k _ => rfl
  | n + 1 => by
    show sumN (fun i => sumN (fun k => f i k) m) n + sumN (fun k => f n k) m = _
    rw [sumN_comm f m n, ← sumN_add]; rfl
theorem sumN_neg (f : Nat → Int) : ∀ n, sumN (fun k => -f k) n = -sumN f n
  | 0 => rfl
  | n + 1 => by
    show sumN (fun k => -f k) n + -f n = -(sumN f n + f n)
    rw [sumN_neg f n]; omega
/-- As many sides begin at a vertex as end there. -/
theorem side_one {n : Nat} {t : Tri3} (h : TriOk n t) (v : Nat) : sumN (fun k => if sideB t v k = true then (1 : Int) else 0) n = sumN (fun k => if sideB t k v = true then (1 : Int) else 0) n := by
  obtain ⟨a1, a2, a3, d1, d2, d3⟩ := h
  have e1 : ∀ k, (if sideB t v k = true then (1 : Int) else 0) = (if k = t.b then (if t.a = v then 1 else 0) else 0) + (if k = t.c then (if t.b = v then 1 else 0) else 0) + (if k = t.a then (if t.c = v then 1 else 0) else 0) := fun k => by
    by_cases hs : sideB t v k = true
    · rw [if_pos hs]
      rcases sideB_iff.1 hs with ⟨x, y⟩ | ⟨x, y⟩ | ⟨x, y⟩
      · rw [if_pos y.symm, if_pos x, if_neg (by omega), if_neg (by omega)]; rfl
      · rw [if_neg (by omega), if_pos y.symm, if_pos x, if_neg (by omega)]; rfl
      · rw [if_neg (by omega), if_neg (by omega), if_pos y.symm, if_pos x]; rfl
    · rw [if_neg hs]
      rw [sideB_iff] at hs
      by_cases x : k = t.b
      · rw [if_pos x, if_neg (by omega), if_neg (by omega), if_neg (by omega)]; rfl
      · by_cases y : k = t.c
        · rw [if_neg x, if_pos y, if_neg (by omega), if_neg (by omega)]; rfl
        · rw [if_neg x, if_neg y]
          by_cases z : k = t.a
          · rw [if_pos z, if_neg (by omega)]; rfl
          · rw [if_neg z]; rfl
  have e2 : ∀ k, (if sideB t k v = true then (1 : Int) else 0) = (if k = t.a then (if t.b = v then 1 else 0) else 0) + (if k = t.b then (if t.c = v then 1 else 0) else 0) + (if k = t.c then (if t.a = v then 1 else 0) else 0) := fun k => by
    by_cases hs : sideB t k v = true
    · rw [if_pos hs]
      rcases sideB_iff.1 hs with ⟨x, y⟩ | ⟨x, y⟩ | ⟨x, y⟩
      · rw [if_pos x.symm, if_pos y, if_neg (by omega), if_neg (by omega)]; rfl
      · rw [if_neg (by omega), if_pos x.symm, if_pos y, if_neg (by omega)]; rfl
      · rw [if_neg (by omega), if_neg (by omega), if_pos x.symm, if_pos y]; rfl
    · rw [if_neg hs]
      rw [sideB_iff] at hs
      by_cases x : k = t.a
      · rw [if_pos x, if_neg (by omega), if_neg (by omega), if_neg (by omega)]; rfl
      · by_cases y : k = t.b
        · rw [if_neg x, if_pos y, if_neg (by omega), if_neg (by omega)]; rfl
        · rw [if_neg x, if_neg y]
          by_cases z : k = t.c
          · rw [if_pos z, if_neg (by omega)]; rfl
          · rw [if_neg z]; rfl
  rw [sumN_congr (fun k _ => e1 k), sumN_congr (fun k _ => e2 k)]
  rw [sumN_add, sumN_add, sumN_add, sumN_add, sumN_one, sumN_one, sumN_one, sumN_one, sumN_one, sumN_one]
  rw [if_pos a1, if_pos a2, if_pos a3, if_pos a1, if_pos a2, if_pos a3]
  omega
theorem cntS_int (t : Tri3) (T : List Tri3) (i k : Nat) : (cntS (t :: T) i k : Int) = cntS T i k + if sideB t i k = true then (1 : Int) else 0 := by
  rw [cntS_cons]; split <;> simp
theorem flow {n : Nat} : ∀ {T : List Tri3}, (∀ t ∈ T, TriOk n t) → ∀ v, sumN (fun k => (cntS T v k : Int)) n = sumN (fun k => (cntS T k v : Int)) n
  | [], _, v => rfl
  | t :: T, h, v => by
    rw [sumN_congr (fun k _ => cntS_int t T v k), sumN_congr (fun k _ => cntS_int t T k v), sumN_add, sumN_add, flow (fun s hs => h s (List.mem_cons_of_mem _ hs)) v, side_one (h t (List.mem_cons_self ..)) v]
/-- Areas by the sides. -/
theorem side_area {n : Nat} {t : Tri3} (h : TriOk n t) (ps : List Pt) : sumN (fun i => sumN (fun k => (if sideB t i k = true then (1 : Int) else 0) * crP (gp ps i) (gp ps k)) n) n = trnT ps t := by
  obtain ⟨a1, a2, a3, d1, d2, d3⟩ := h
  have e1 : ∀ i k, (if sideB t i k = true then (1 : Int) else 0) * crP (gp ps i) (gp ps k) = (if k = t.b then (if i = t.a then crP (gp ps t.a) (gp ps t.b) else 0) else 0) + (if k = t.c then (if i = t.b then crP (gp ps t.b) (gp ps t.c) else 0) else 0) + (if k = t.a then (if i = t.c then crP (gp ps t.c) (gp ps t.a) else 0) else 0) := fun i k => by
    by_cases hs : sideB t i k = true
    · rw [if_pos hs, Int.one_mul]
      rcases sideB_iff.1 hs with ⟨x, y⟩ | ⟨x, y⟩ | ⟨x, y⟩ <;> subst x <;> subst y
      · rw [if_pos rfl, if_pos rfl, if_neg (by omega), if_neg (by omega)]; omega
      · rw [if_neg (by omega), if_pos rfl, if_pos rfl, if_neg (by omega)]; omega
      · rw [if_neg (by omega), if_neg (by omega), if_pos rfl, if_pos rfl]; omega
    · rw [if_neg hs, Int.zero_mul]
      rw [sideB_iff] at hs
      by_cases x : k = t.b
      · rw [if_pos x, if_neg (by omega), if_neg (by omega), if_neg (by omega)]; rfl
      · by_cases y : k = t.c
        · rw [if_neg x, if_pos y, if_neg (by omega), if_neg (by omega)]; rfl
        · rw [if_neg x, if_neg y]
          by_cases z : k = t.a
          · rw [if_pos z, if_neg (by omega)]; rfl
          · rw [if_neg z]; rfl
  have e2 : ∀ i, sumN (fun k => (if sideB t i k = true then (1 : Int) else 0) * crP (gp ps i) (gp ps k)) n = (if i = t.a then crP (gp ps t.a) (gp ps t.b) else 0) + (if i = t.b then crP (gp ps t.b) (gp ps t.c) else 0) + (if i = t.c then crP (gp ps t.c) (gp ps t.a) else 0) := fun i => by
    rw [sumN_congr (fun k _ => e1 i k), sumN_add, sumN_add, sumN_one, sumN_one, sumN_one, if_pos a2, if_pos a3, if_pos a1]
  rw [sumN_congr (fun i _ => e2 i), sumN_add, sumN_add, sumN_one, sumN_one, sumN_one, if_pos a1, if_pos a2, if_pos a3, cr_tri]; rfl
theorem area_sides {n : Nat} (ps : List Pt) : ∀ {T : List Tri3}, (∀ t ∈ T, TriOk n t) → sumN (fun i => sumN (fun k => (cntS T i k : Int) * crP (gp ps i) (gp ps k)) n) n = areaT ps T
  | [], _ => by
    rw [sumN_zero]; rfl
    intro i _
    exact sumN_zero fun k _ => by rw [show cntS [] i k = 0 from rfl]; simp
  | t :: T, h => by
    have e : ∀ i k, (cntS (t :: T) i k : Int) * crP (gp ps i) (gp ps k) = (cntS T i k : Int) * crP (gp ps i) (gp ps k) + (if sideB t i k = true then (1 : Int) else 0) * crP (gp ps i) (gp ps k) := fun i k => by
      rw [cntS_int, Int.add_mul]
    rw [sumN_congr (fun i _ => sumN_congr (fun k _ => e i k)), sumN_congr (fun i _ => sumN_add _ _ n), sumN_add, area_sides ps (fun s hs => h s (List.mem_cons_of_mem _ hs)), side_area (h t (List.mem_cons_self ..)) ps]
    show _ = trnT ps t + areaT ps T
    omega
theorem area_pos {ps : List Pt} : ∀ {T : List Tri3}, (∀ t ∈ T, 0 < trnT ps t) → T ≠ [] → 0 < areaT ps T
  | [], _, h => absurd rfl h
  | [t], h, _ => by
    have := h t (List.mem_cons_self ..)
    show 0 < trnT ps t + 0; omega
  | t :: s :: T, h, _ => by
    have h1 := h t (List.mem_cons_self ..)
    have h2 := area_pos (T := s :: T) (fun x hx => h x (List.mem_cons_of_mem _ hx)) (by simp)
    show 0 < trnT ps t + areaT ps (s :: T); omega
/-- Two triangles with a side in opposite directions. -/
def Adj (s t : Tri3) : Prop := ∃ i k, sideB s i k = true ∧ sideB t k i = true
theorem Adj.symm {s t : Tri3} (h : Adj s t) : Adj t s := by obtain ⟨i, k, a, b⟩ := h; exact ⟨k, i, b, a⟩
/-- What divides a ring. -/
structure Divs (ps : List Pt) (rs : List Nat) (T : List Tri3) : Prop where
  nodup : rs.Nodup
  three : 3 ≤ rs.length
  all : ∀ i, i < rs.length ↔ i ∈ rs
  parts : Parts rs T
  ok : ∀ t ∈ T, TriOk rs.length t
  pos : ∀ t ∈ T, 0 < trnT ps t
theorem sumN_two {f : Nat → Int} {a b n : Nat} (ha : a < n) (hb : b < n) (hab : a ≠ b) (h : ∀ k, k < n → k ≠ a → k ≠ b → f k = 0) : sumN f n = f a + f b := by
  have e : ∀ k, k < n → f k = (if k = a then f a else 0) + (if k = b then f b else 0) := fun k hk => by
    by_cases x : k = a
    · subst x; rw [if_pos rfl, if_neg hab]; omega
    · by_cases y : k = b
      · subst y; rw [if_neg x, if_pos rfl]; omega
      · rw [if_neg x, if_neg y, h k hk x y]; rfl
  rw [sumN_congr e, sumN_add, sumN_one, sumN_one, if_pos ha, if_pos hb]
/-- A part that touches nothing else has all the ring's edges. -/
theorem part_all {ps : List Pt} {rs : List Nat} {T L R : List Tri3} (h : Divs ps rs T) (hp : (L ++ R).Perm T) (hn : L ≠ []) (hA : ∀ s ∈ L, ∀ t ∈ R, ¬ Adj s t) : ∀ j, j < rs.length → cntS L (gn rs j) (aft rs j) = 1 := by
  have h3 := h.three
  have c : ∀ i k, cntS T i k = cntS L i k + cntS R i k := fun i k => by rw [← cntS_perm hp, cntS_app]
  have hL : ∀ t ∈ L, t ∈ T := fun t ht => hp.subset (List.mem_append_left _ ht)
  have okL : ∀ t ∈ L, TriOk rs.length t := fun t ht => h.ok t (hL t ht)
  -- where L has a side, R has not the opposite one
  have opp : ∀ i k, 0 < cntS L i k → cntS R k i = 0 := fun i k hc => by
    refine cntS_none fun t ht => ?_
    obtain ⟨s, hs, hsd⟩ := List.countP_pos_iff.1 (show 0 < L.countP fun t => sideB t i k from hc)
    rw [← Bool.not_eq_true]
    exact fun hh => hA s hs t ht ⟨i, k, hsd, hh⟩
  have sym : ∀ i k, ¬ Fol rs i k → ¬ Fol rs k i → cntS L i k = cntS L k i := fun i k f1 f2 => by
    obtain ⟨b1, b2⟩ := h.parts.two i k f1 f2
    have c1 := c i k
    have c2 := c k i
    have o1 := opp i k
    have o2 := opp k i
    by_cases z1 : cntS L i k = 0 <;> by_cases z2 : cntS L k i = 0
    · omega
    · have := o2 (by omega); omega
    · have := o1 (by omega); omega
    · omega
  have bak : ∀ i k, Fol rs i k → cntS L k i = 0 := fun i k f => by
    have := (h.parts.one i k f).2
    have := c k i
    omega
  -- around the ring
  have nxt : ∀ j, j < rs.length → cntS L (gn rs ((j + rs.length - 1) % rs.length)) (gn rs j) = cntS L (gn rs j) (aft rs j) := fun j hj => by
    obtain ⟨p1, p2⟩ := pred_ex hj
    have F1 : Fol rs (gn rs ((j + rs.length - 1) % rs.length)) (gn rs j) := Fol.bef_ hj
    have F2 : Fol rs (gn rs j) (aft rs j) := Fol.at_ hj
    have hne : gn rs ((j + rs.length - 1) % rs.length) ≠ aft rs j := fun e => by
      have e := gn_inj h.nodup p1 (Nat.mod_lt _ (by omega)) e
      have m1 := mod_next hj
      have m2 := mod_next p1
      rw [p2] at m2
      rw [← e] at m1
      split at m1 <;> split at m2 <;> omega
    have z : ∀ k, k < rs.length → k ≠ gn rs ((j + rs.length - 1) % rs.length) → k ≠ aft rs j → (cntS L (gn rs j) k : Int) - cntS L k (gn rs j) = 0 := fun k hk k1 k2 => by
      have f1 : ¬ Fol rs (gn rs j) k := fun f => k2 (Fol.only h.nodup f F2)
      have f2 : ¬ Fol rs k (gn rs j) := fun f => k1 (by
        obtain ⟨i, hi, e1, e2⟩ := f
        have e2 := gn_inj h.nodup (Nat.mod_lt _ (by omega)) hj e2
        rw [← e1, ← e2, pred_back hi])
      rw [sym _ _ f1 f2]; omega
    have fl := flow okL (gn rs j)
    have s := sumN_two (f := fun k => (cntS L (gn rs j) k : Int) - cntS L k (gn rs j)) ((h.all _).2 (gn_mem p1)) ((h.all _).2 (gn_mem (Nat.mod_lt (j + 1) (by omega)))) hne z
    rw [sumN_sub, fl] at s
    have b1 := bak _ _ F1
    have b2 := bak _ _ F2
    have s : (0 : Int) = (cntS L (gn rs j) (gn rs ((j + rs.length - 1) % rs.length)) : Int) - cntS L (gn rs ((j + rs.length - 1) % rs.length)) (gn rs j) + ((cntS L (gn rs j) (aft rs j) : Int) - cntS L (aft rs j) (gn rs j)) := by
      have : ∀ x : Int, x - x = 0 := fun x => by omega
      rw [this] at s; exact s
    omega
  have all : ∀ j, j < rs.length → cntS L (gn rs j) (aft rs j) = cntS L (gn rs 0) (aft rs 0) := fun j => by
    induction j with
    | zero => exact fun _ => rfl
    | succ j ih =>
      intro hj
      have := nxt (j + 1) hj
      rw [show j + 1 + rs.length - 1 = j + rs.length by omega, Nat.add_mod_right, Nat.mod_eq_of_lt (show j < rs.length by omega)] at this
      rw [← this, ← ih (by omega)]
      unfold aft; rw [Nat.mod_eq_of_lt hj]
  have le1 : ∀ j, j < rs.length → cntS L (gn rs j) (aft rs j) ≤ 1 := fun j hj => by
    have := (h.parts.one _ _ (Fol.at_ hj)).1
    have := c (gn rs j) (aft rs j)
    omega
  by_cases e : cntS L (gn rs 0) (aft rs 0) = 1
  · exact fun j hj => by rw [all j hj, e]
  · -- then the sides of L cancel
    exfalso
    have l0 := le1 0 (by omega)
    have z0 : ∀ i k, Fol rs i k → cntS L i k = 0 := fun i k f => by
      obtain ⟨j, hj, rfl, rfl⟩ := f
      rw [all j hj]; omega
    have symA : ∀ i k, cntS L i k = cntS L k i := fun i k => by
      by_cases f1 : Fol rs i k
      · rw [z0 i k f1, bak i k f1]
      · by_cases f2 : Fol rs k i
        · rw [z0 k i f2, bak k i f2]
        · exact sym i k f1 f2
    have A := area_sides ps okL
    have P := area_pos (fun t ht => h.pos t (hL t ht)) hn
    have N : sumN (fun i => sumN (fun k => (cntS L i k : Int) * crP (gp ps i) (gp ps k)) rs.length) rs.length = -sumN (fun i => sumN (fun k => (cntS L i k : Int) * crP (gp ps i) (gp ps k)) rs.length) rs.length := by
      rw [← sumN_neg]
      rw [sumN_comm]
      refine sumN_congr fun i _ => ?_
      rw [← sumN_neg]
      refine sumN_congr fun k _ => ?_
      rw [symA k i, crP_swap (gp ps i) (gp ps k)]
      rw [Int.mul_neg]
    omega
/-- What divides a ring hangs together. -/
theorem div_conn {ps : List Pt} {rs : List Nat} {T L R : List Tri3} (h : Divs ps rs T) (hp : (L ++ R).Perm T) (hL : L ≠ []) (hR : R ≠ []) : ∃ s ∈ L, ∃ t ∈ R, Adj s t := by
  refine Classical.byContradiction fun hn => ?_
  have hA : ∀ s ∈ L, ∀ t ∈ R, ¬ Adj s t := fun s hs t ht ha => hn ⟨s, hs, t, ht, ha⟩
  have h3 := h.three
  have a1 := part_all h hp hL hA 0 (by omega)
  have a2 := part_all h (List.perm_append_comm.trans hp) hR (fun s hs t ht ha => hA t ht s hs ha.symm) 0 (by omega)
  have o := (h.parts.one _ _ (Fol.at_ (show 0 < rs.length by omega))).1
  rw [← cntS_perm hp, cntS_app] at o
  omega
theorem nodupN_len : ∀ {l l' : List Nat}, l.Nodup → (∀ q ∈ l, q ∈ l') → l.length ≤ l'.length
  | [], _, _, _ => Nat.zero_le _
  | a :: r, l', h, hs => by
    have h' := List.nodup_cons.1 h
    have := nodupN_len (l := r) (l' := l'.erase a) h'.2 (fun q hq => (List.mem_erase_of_ne (fun e => by subst e; exact h'.1 hq)).2 (hs q (by simp [hq])))
    have h2 := List.length_erase_of_mem (hs a (by simp))
    have := List.length_pos_of_mem (hs a (by simp))
    rw [List.length_cons]; omega
/-- Colored so far, or a vertex met twice. -/
def Half (L : List Tri3) : Prop := ∃ vs : List Nat, (∀ t ∈ L, t.a ∈ vs ∧ t.b ∈ vs ∧ t.c ∈ vs) ∧ ((vs.length ≤ L.length + 2 ∧ ∃ g, ColOk L g) ∨ vs.length ≤ L.length + 1)
theorem half_one {n : Nat} {t : Tri3} (h : TriOk n t) : Half [t] := by
  obtain ⟨_, _, _, d1, d2, d3⟩ := h
  refine ⟨[t.a, t.b, t.c], fun s hs => ?_, .inl ⟨by simp, fun i => if i = t.a then 0 else if i = t.b then 1 else 2, fun i => by split <;> (try split) <;> omega, fun s hs => ?_⟩⟩
  · rw [List.mem_singleton.1 hs]; simp
  · rw [List.mem_singleton.1 hs]
    simp only [if_pos, if_neg d1.symm, if_neg d2.symm, if_neg d3.symm]
    omega
theorem half_more {n : Nat} {L : List Tri3} {s t : Tri3} (ht : TriOk n t) (hs : s ∈ L) (ha : Adj s t) (hl : Half L) : Half (t :: L) := by
  obtain ⟨vs, hv, hc⟩ := hl
  obtain ⟨i, k, s1, t1⟩ := ha
  obtain ⟨x1, x2, x3, d1, d2, d3⟩ := ht
  obtain ⟨v1, v2, v3⟩ := hv s hs
  -- the corners of t: i, k and m
  obtain ⟨m, hm, hmi, hmk, hik⟩ : ∃ m, (∀ P : Nat → Prop, P i → P k → P m → P t.a ∧ P t.b ∧ P t.c) ∧ m ≠ i ∧ m ≠ k ∧ i ≠ k := by
    rcases sideB_iff.1 t1 with ⟨x, y⟩ | ⟨x, y⟩ | ⟨x, y⟩ <;> subst x <;> subst y
    · exact ⟨t.c, fun P a b c => ⟨b, a, c⟩, d2.symm, d3.symm, d1.symm⟩
    · exact ⟨t.a, fun P a b c => ⟨c, b, a⟩, d3, d1, d2.symm⟩
    · exact ⟨t.b, fun P a b c => ⟨a, c, b⟩, d1.symm, d2, d3⟩
  have iv : i ∈ vs := by rcases sideB_iff.1 s1 with ⟨x, y⟩ | ⟨x, y⟩ | ⟨x, y⟩ <;> subst x <;> assumption
  have kv : k ∈ vs := by rcases sideB_iff.1 s1 with ⟨x, y⟩ | ⟨x, y⟩ | ⟨x, y⟩ <;> subst y <;> assumption
  by_cases mv : m ∈ vs
  · refine ⟨vs, fun u hu => ?_, .inr ?_⟩
    · rcases List.mem_cons.1 hu with rfl | hu
      · exact hm (· ∈ vs) iv kv mv
      · exact hv u hu
    · rw [List.length_cons]; rcases hc with ⟨h, _⟩ | h <;> omega
  · refine ⟨m :: vs, fun u hu => ?_, ?_⟩
    · rcases List.mem_cons.1 hu with rfl | hu
      · exact hm (· ∈ m :: vs) (List.mem_cons_of_mem _ iv) (List.mem_cons_of_mem _ kv) (List.mem_cons_self ..)
      · obtain ⟨a, b, c⟩ := hv u hu
        exact ⟨List.mem_cons_of_mem _ a, List.mem_cons_of_mem _ b, List.mem_cons_of_mem _ c⟩
    · rw [List.length_cons, List.length_cons]
      rcases hc with ⟨h, g, hg⟩ | h
      · refine .inl ⟨by omega, fun j => if j = m then 3 - g i - g k else g j, ?_, ?_⟩
        · have gd : g i ≠ g k := by
            obtain ⟨e1, e2, e3⟩ := hg.diff s hs
            rcases sideB_iff.1 s1 with ⟨x, y⟩ | ⟨x, y⟩ | ⟨x, y⟩ <;> subst x <;> subst y
            · exact e1
            · exact e2
            · exact e3.symm
          have bi := hg.rng i
          have bk := hg.rng k
          intro j
          by_cases e : j = m
          · simp only [if_pos e]; omega
          · simp only [if_neg e]; exact hg.rng j
        · intro u hu
          have gd : g i ≠ g k := by
            obtain ⟨e1, e2, e3⟩ := hg.diff s hs
            rcases sideB_iff.1 s1 with ⟨x, y⟩ | ⟨x, y⟩ | ⟨x, y⟩ <;> subst x <;> subst y
            · exact e1
            · exact e2
            · exact e3.symm
          have bi := hg.rng i
          have bk := hg.rng k
          rcases List.mem_cons.1 hu with rfl | hu
          · have fi : (if i = m then 3 - g i - g k else g i) = g i := if_neg fun e => hmi e.symm
            have fk : (if k = m then 3 - g i - g k else g k) = g k := if_neg fun e => hmk e.symm
            have fm : (if m = m then 3 - g i - g k else g m) = 3 - g i - g k := if_pos rfl
            show (if u.a = m then 3 - g i - g k else g u.a) ≠ (if u.b = m then 3 - g i - g k else g u.b) ∧ (if u.b = m then 3 - g i - g k else g u.b) ≠ (if u.c = m then 3 - g i - g k else g u.c) ∧ (if u.a = m then 3 - g i - g k else g u.a) ≠ (if u.c = m then 3 - g i - g k else g u.c)
            rcases sideB_iff.1 t1 with ⟨x, y⟩ | ⟨x, y⟩ | ⟨x, y⟩
            · have z : u.c = m := by have := (hm (fun j => j = i ∨ j = k ∨ j = m) (.inl rfl) (.inr (.inl rfl)) (.inr (.inr rfl))).2.2; omega
              rw [x, y, z, fi, fk, fm]; omega
            · have z : u.a = m := by have := (hm (fun j => j = i ∨ j = k ∨ j = m) (.inl rfl) (.inr (.inl rfl)) (.inr (.inr rfl))).1; omega
              rw [x, y, z, fi, fk, fm]; omega
            · have z : u.b = m := by have := (hm (fun j => j = i ∨ j = k ∨ j = m) (.inl rfl) (.inr (.inl rfl)) (.inr (.inr rfl))).2.1; omega
              rw [x, y, z, fi, fk, fm]; omega
          · obtain ⟨a, b, c⟩ := hv u hu
            have q : ∀ j, j ∈ vs → j ≠ m := fun j hj e => mv (by rw [← e]; exact hj)
            simp only [if_neg (q _ a), if_neg (q _ b), if_neg (q _ c)]
            exact hg.diff u hu
      · exact .inr (by omega)
theorem div_half {ps : List Pt} {rs : List Nat} {T : List Tri3} (h : Divs ps rs T) (hn : T ≠ []) : ∀ m, m < T.length → ∃ L R : List Tri3, (L ++ R).Perm T ∧ L.length = m + 1 ∧ Half L
  | 0, _ => by
    match T, hn with
    | t :: T, _ => exact ⟨[t], T, List.Perm.refl _, rfl, half_one (h.ok t (List.mem_cons_self ..))⟩
  | m + 1, hm => by
    obtain ⟨L, R, hp, hl, hh⟩ := div_half h hn m (by omega)
    have hlen := hp.length_eq
    rw [List.length_append] at hlen
    obtain ⟨s, hs, t, ht, ha⟩ := div_conn h hp (fun e => by rw [e] at hl; simp at hl) (fun e => by rw [e] at hlen; simp at hlen; omega)
    have hpt : R.Perm (t :: R.erase t) := List.perm_cons_erase ht
    refine ⟨t :: L, R.erase t, ?_, by rw [List.length_cons, hl], half_more (h.ok t (hp.subset (List.mem_append_right _ ht))) hs ha hh⟩
    refine List.Perm.trans ?_ hp
    refine List.Perm.trans ?_ (hpt.symm.append_left L)
    exact List.perm_middle.symm
/-- Triangles that divide a ring, two less than vertices, can be colored. -/
theorem div_color {ps : List Pt} {rs : List Nat} {T : List Tri3} (h : Divs ps rs T) (hl : T.length = rs.length - 2) : ∃ g, ColOk T g := by
  have h3 := h.three
  have hn : T ≠ [] := fun e => by rw [e] at hl; simp at hl; omega
  obtain ⟨L, R, hp, hm, vs, hv, hc⟩ := div_half h hn (T.length - 1) (by omega)
  have hR : R = [] := by
    have := hp.length_eq
    rw [List.length_append] at this
    exact List.length_eq_zero_iff.1 (by omega)
  subst hR
  rw [List.append_nil] at hp
  have cover : ∀ i, i < rs.length → i ∈ vs := fun i hi => by
    obtain ⟨j, hj, e⟩ := gn_of_mem ((h.all i).1 hi)
    have o := (h.parts.one _ _ (Fol.at_ hj)).1
    rw [← cntS_perm hp] at o
    obtain ⟨t, ht, hs⟩ := List.countP_pos_iff.1 (show 0 < L.countP fun t => sideB t (gn rs j) (aft rs j) by show 0 < cntS _ _ _; omega)
    obtain ⟨a, b, c⟩ := hv t ht
    rcases sideB_iff.1 hs with ⟨x, _⟩ | ⟨x, _⟩ | ⟨x, _⟩ <;> rw [← e, ← x] <;> assumption
  have big : rs.length ≤ vs.length := by
    have : (List.range rs.length).length ≤ vs.length := nodupN_len List.nodup_range fun i hi => cover i (List.mem_range.1 hi)
    rwa [List.length_range] at this
  rcases hc with ⟨_, g, hg⟩ | hc
  · exact ⟨g, hg.rng, fun t ht => hg.diff t (hp.symm.subset ht)⟩
  · omega
end Go.Proofs.Ytcebmcbglhkkfaa
