
/- The triangles that are cut off: sides, areas, colors. No program in sight. -/
import Derived.Test.YtkkmioffclpmfaaEarM
set_option linter.unusedVariables false
set_option linter.unusedSimpArgs false
namespace Go.Proofs.Ytkkmioffclpmfaa
open Go.RowKit

/-- The place y is next to x in the ring. -/
def Fol (rs : List Nat) (x y : Nat) : Prop := ∃ j, j < rs.length ∧ gn rs j = x ∧ aft rs j = y
theorem Fol.only {rs : List Nat} (h : rs.Nodup) {x y z : Nat} (h1 : Fol rs x y) (h2 : Fol rs x z) : y = z := by
  obtain ⟨j, hj, a1, a2⟩ := h1
  obtain ⟨k, hk, b1, b2⟩ := h2
  have : j = k := gn_inj h hj hk (by rw [a1, b1])
  rw [← a2, ← b2, this]
theorem Fol.mem {rs : List Nat} {x y : Nat} (h : Fol rs x y) : x ∈ rs ∧ y ∈ rs := by
  obtain ⟨j, hj, rfl, rfl⟩ := h
  exact ⟨gn_mem hj, gn_mem (Nat.mod_lt _ (by omega))⟩
theorem Fol.at_ {rs : List Nat} {k : Nat} (hk : k < rs.length) : Fol rs (gn rs k) (aft rs k) := ⟨k, hk, rfl, rfl⟩
theorem Fol.bef_ {rs : List Nat} {k : Nat} (hk : k < rs.length) : Fol rs (bef rs k) (gn rs k) := by
  obtain ⟨p1, p2⟩ := pred_ex hk
  exact ⟨_, p1, rfl, by unfold aft; rw [p2]⟩
theorem er_next {n k j : Nat} (h4 : 4 ≤ n) (hk : k < n) (hj : j < n) (hjk : j ≠ k) (hn : (j + 1) % n ≠ k) :
    ∃ i, i < n - 1 ∧ (if i < k then i else i + 1) = j ∧ (if (i + 1) % (n - 1) < k then (i + 1) % (n - 1) else (i + 1) % (n - 1) + 1) = (j + 1) % n := by
  rw [mod_next hj] at hn ⊢
  by_cases h : j < k
  · refine ⟨j, by omega, if_pos h, ?_⟩
    rw [mod_next (show j < n - 1 by omega)]
    split at hn <;> split <;> split <;> omega
  · refine ⟨j - 1, by omega, by rw [if_neg (by omega)]; omega, ?_⟩
    rw [mod_next (show j - 1 < n - 1 by omega)]
    split at hn <;> split <;> split <;> omega
theorem er_back {n k i : Nat} (h4 : 4 ≤ n) (hk : k < n) (hi : i < n - 1) :
    (if i < k then i else i + 1) < n ∧ (if i < k then i else i + 1) ≠ k ∧
    ((((if i < k then i else i + 1) + 1) % n = k ∧ (if (i + 1) % (n - 1) < k then (i + 1) % (n - 1) else (i + 1) % (n - 1) + 1) = (k + 1) % n ∧ (k + n - 1) % n = (if i < k then i else i + 1)) ∨
     ((k + n - 1) % n ≠ (if i < k then i else i + 1) ∧ (if (i + 1) % (n - 1) < k then (i + 1) % (n - 1) else (i + 1) % (n - 1) + 1) = ((if i < k then i else i + 1) + 1) % n)) := by
  have kp : (k + n - 1) % n = if k = 0 then n - 1 else k - 1 := by
    split
    · rename_i e; subst e; rw [Nat.zero_add, Nat.mod_eq_of_lt (by omega)]
    · rw [show k + n - 1 = k - 1 + n by omega, Nat.add_mod_right]; exact Nat.mod_eq_of_lt (by omega)
  have mi := mod_next hi
  have mk := mod_next hk
  by_cases h : i < k
  · simp only [if_pos h]
    have m1 := mod_next (show i < n by omega)
    generalize (k + n - 1) % n = P at *
    generalize (i + 1) % (n - 1) = Q at *
    generalize (i + 1) % n = R at *
    generalize (k + 1) % n = U at *
    refine ⟨by omega, by omega, ?_⟩
    split at kp <;> split at mi <;> split at m1 <;> split at mk <;> (try split) <;> omega
  · simp only [if_neg h]
    have m1 := mod_next (show i + 1 < n by omega)
    generalize (k + n - 1) % n = P at *
    generalize (i + 1) % (n - 1) = Q at *
    generalize (i + 1 + 1) % n = R at *
    generalize (k + 1) % n = U at *
    refine ⟨by omega, by omega, ?_⟩
    split at kp <;> split at mi <;> split at m1 <;> split at mk <;> (try split) <;> omega
theorem aft_erase {rs : List Nat} (h4 : 4 ≤ rs.length) {k i : Nat} (hk : k < rs.length) (hi : i < rs.length - 1) :
    aft (rs.eraseIdx k) i = gn rs (if (i + 1) % (rs.length - 1) < k then (i + 1) % (rs.length - 1) else (i + 1) % (rs.length - 1) + 1) := by
  have hl : (rs.eraseIdx k).length = rs.length - 1 := List.length_eraseIdx_of_lt hk
  unfold aft
  rw [hl, gn_erase hk (Nat.mod_lt _ (by omega))]
  split <;> rfl
theorem gn_erase' {rs : List Nat} {k j : Nat} (hk : k < rs.length) (hj : j < rs.length - 1) : gn (rs.eraseIdx k) j = gn rs (if j < k then j else j + 1) := by
  rw [gn_erase hk hj]; split <;> rfl
/-- Who follows whom behind a cut. -/
theorem fol_cut {rs : List Nat} (hd : rs.Nodup) (h4 : 4 ≤ rs.length) {k : Nat} (hk : k < rs.length) :
    (∀ x y, Fol rs x y → x ≠ bef rs k → x ≠ gn rs k → Fol (rs.eraseIdx k) x y) ∧ (∀ x y, Fol (rs.eraseIdx k) x y → x ≠ bef rs k → Fol rs x y) ∧ Fol (rs.eraseIdx k) (bef rs k) (aft rs k) ∧ ¬ Fol rs (aft rs k) (bef rs k) ∧ gn rs k ∉ rs.eraseIdx k := by
  have hl : (rs.eraseIdx k).length = rs.length - 1 := List.length_eraseIdx_of_lt hk
  obtain ⟨p1, p2⟩ := pred_ex hk
  refine ⟨?_, ?_, ?_, ?_, ?_⟩
  · rintro x y ⟨j, hj, rfl, rfl⟩ h1 h2
    have n1 : j ≠ k := fun e => h2 (by rw [e])
    have n2 : (j + 1) % rs.length ≠ k := fun e => h1 (by
      unfold bef; rw [← e, pred_back hj])
    obtain ⟨i, hi, e1, e2⟩ := er_next h4 hk hj n1 n2
    refine ⟨i, by omega, by rw [gn_erase' hk hi, e1], by rw [aft_erase h4 hk hi, e2]; rfl⟩
  · rintro x y ⟨i, hi, rfl, rfl⟩ h1
    rw [hl] at hi
    rw [gn_erase' hk hi] at h1 ⊢
    rw [aft_erase h4 hk hi]
    obtain ⟨b1, b2, b3⟩ := er_back h4 hk hi
    rcases b3 with ⟨_, _, b⟩ | ⟨_, b⟩
    · exact absurd (by unfold bef; rw [b]) h1
    · rw [b]; exact Fol.at_ b1
  · have q : (k + rs.length - 1) % rs.length ≠ k := by
      have := mod_next p1
      rw [p2] at this
      split at this <;> omega
    obtain ⟨i, hi, e1⟩ : ∃ i, i < rs.length - 1 ∧ (if i < k then i else i + 1) = (k + rs.length - 1) % rs.length := by
      by_cases h : (k + rs.length - 1) % rs.length < k
      · exact ⟨_, by omega, if_pos h⟩
      · exact ⟨(k + rs.length - 1) % rs.length - 1, by omega, by rw [if_neg (by omega)]; omega⟩
    obtain ⟨b1, b2, b3⟩ := er_back h4 hk hi
    rw [e1] at b3
    rcases b3 with ⟨_, b, _⟩ | ⟨b, _⟩
    · exact ⟨i, by omega, by rw [gn_erase' hk hi, e1]; rfl, by rw [aft_erase h4 hk hi, b]; rfl⟩
    · exact absurd rfl b
  · rintro ⟨j, hj, e1, e2⟩
    have a1 : j = (k + 1) % rs.length := gn_inj hd hj (Nat.mod_lt _ (by omega)) e1
    have a2 : (j + 1) % rs.length = (k + rs.length - 1) % rs.length := gn_inj hd (Nat.mod_lt _ (by omega)) p1 e2
    have m1 := mod_next hk
    have m2 := mod_next hj
    have m3 := mod_next p1
    rw [p2] at m3
    split at m1 <;> split at m2 <;> split at m3 <;> omega
  · intro hm
    obtain ⟨i, hi, e⟩ := gn_of_mem hm
    rw [hl] at hi
    rw [gn_erase' hk hi] at e
    obtain ⟨b1, b2, _⟩ := er_back h4 hk hi
    exact b2 (gn_inj hd b1 hk e)

/-! ### sides -/
def sideB (t : Tri3) (i k : Nat) : Bool := (decide (t.a = i) && decide (t.b = k)) || (decide (t.b = i) && decide (t.c = k)) || (decide (t.c = i) && decide (t.a = k))
def cntS (T : List Tri3) (i k : Nat) : Nat := T.countP fun t => sideB t i k
theorem sideB_iff {t : Tri3} {i k : Nat} : sideB t i k = true ↔ (t.a = i ∧ t.b = k) ∨ (t.b = i ∧ t.c = k) ∨ (t.c = i ∧ t.a = k) := by
  unfold sideB; simp only [Bool.or_eq_true, Bool.and_eq_true, decide_eq_true_eq, or_assoc]
theorem cntS_cons (t : Tri3) (T : List Tri3) (i k : Nat) : cntS (t :: T) i k = cntS T i k + if sideB t i k = true then 1 else 0 := by unfold cntS; rw [List.countP_cons]
theorem cntS_none {T : List Tri3} {i k : Nat} (h : ∀ t ∈ T, sideB t i k = false) : cntS T i k = 0 := by
  unfold cntS; rw [List.countP_eq_zero]
  intro t ht hh; rw [h t ht] at hh; cases hh
structure Parts (rs : List Nat) (T : List Tri3) : Prop where
  one : ∀ i k, Fol rs i k → cntS T i k = 1 ∧ cntS T k i = 0
  two : ∀ i k, ¬ Fol rs i k → ¬ Fol rs k i → cntS T i k ≤ 1 ∧ cntS T i k = cntS T k i
def InRing (rs : List Nat) (T : List Tri3) : Prop := ∀ t ∈ T, t.a ∈ rs ∧ t.b ∈ rs ∧ t.c ∈ rs
def trnT (ps : List Pt) (t : Tri3) : Int := trn (gp ps t.a) (gp ps t.b) (gp ps t.c)
def areaT (ps : List Pt) : List Tri3 → Int
  | [] => 0
  | t :: T => trnT ps t + areaT ps T
theorem three_list {rs : List Nat} (h : rs.length = 3) : rs = [gn rs 0, gn rs 1, gn rs 2] := by
  match rs, h with
  | [a, b, c], _ => rfl
theorem fol_three {rs : List Nat} (h : rs.length = 3) {x y : Nat} : Fol rs x y ↔ (gn rs 0 = x ∧ gn rs 1 = y) ∨ (gn rs 1 = x ∧ gn rs 2 = y) ∨ (gn rs 2 = x ∧ gn rs 0 = y) := by
  unfold Fol aft
  rw [h]
  constructor
  · rintro ⟨j, hj, h1, h2⟩
    match j, hj with
    | 0, _ => exact .inl ⟨h1, h2⟩
    | 1, _ => exact .inr (.inl ⟨h1, h2⟩)
    | 2, _ => exact .inr (.inr ⟨h1, h2⟩)
  · rintro (⟨h1, h2⟩ | ⟨h1, h2⟩ | ⟨h1, h2⟩)
    · exact ⟨0, by omega, h1, h2⟩
    · exact ⟨1, by omega, h1, h2⟩
    · exact ⟨2, by omega, h1, h2⟩
theorem parts_three {rs : List Nat} (hd : rs.Nodup) (h : rs.length = 3) : Parts rs [lastT rs] := by
  have n01 : gn rs 0 ≠ gn rs 1 := fun e => by have := gn_inj hd (by omega) (by omega) e; omega
  have n02 : gn rs 0 ≠ gn rs 2 := fun e => by have := gn_inj hd (by omega) (by omega) e; omega
  have n12 : gn rs 1 ≠ gn rs 2 := fun e => by have := gn_inj hd (by omega) (by omega) e; omega
  have S : ∀ x y, sideB (lastT rs) x y = true ↔ Fol rs x y := fun x y => by rw [sideB_iff, fol_three h]; rfl
  have C : ∀ x y, cntS [lastT rs] x y = if sideB (lastT rs) x y = true then 1 else 0 := fun x y => by
    rw [cntS_cons, show cntS [] x y = 0 from rfl]; omega
  constructor
  · intro i k hf
    refine ⟨by rw [C, if_pos ((S i k).2 hf)], ?_⟩
    rw [C, if_neg fun hh => ?_]
    have hg := (S k i).1 hh
    rw [fol_three h] at hf hg
    omega
  · intro i k h1 h2
    rw [C, C, if_neg fun hh => h1 ((S i k).1 hh), if_neg fun hh => h2 ((S k i).1 hh)]
    exact ⟨by omega, rfl⟩
theorem parts_cons {rs : List Nat} (hd : rs.Nodup) (h4 : 4 ≤ rs.length) {k : Nat} (hk : k < rs.length) {T : List Tri3} (hP : Parts (rs.eraseIdx k) T) (hI : InRing (rs.eraseIdx k) T) : Parts rs (⟨bef rs k, gn rs k, aft rs k⟩ :: T) := by
  obtain ⟨F1, F2, F3, F4, F5⟩ := fol_cut hd h4 hk
  have Fa := Fol.bef_ hk
  have Fc := Fol.at_ hk
  have hde : (rs.eraseIdx k).Nodup := hd.sublist (List.eraseIdx_sublist ..)
  have nac : bef rs k ≠ aft rs k := fun e => by
    have p := pred_ex hk
    have e := gn_inj hd p.1 (Nat.mod_lt _ (by omega)) e
    have m1 := mod_next hk
    have m2 := mod_next p.1
    rw [p.2] at m2
    rw [← e] at m1
    split at m1 <;> split at m2 <;> omega
  have ma := F3.mem.1
  have mc := F3.mem.2
  generalize bef rs k = a at *
  generalize gn rs k = b at *
  generalize aft rs k = c at *
  generalize rs.eraseIdx k = es at *
  have nab : a ≠ b := fun e => F5 (by rw [← e]; exact ma)
  have ncb : c ≠ b := fun e => F5 (by rw [← e]; exact mc)
  have zb : ∀ x, cntS T x b = 0 := fun x => cntS_none fun t ht => by
    obtain ⟨t1, t2, t3⟩ := hI t ht
    rw [← Bool.not_eq_true, sideB_iff]
    rintro (⟨_, e⟩ | ⟨_, e⟩ | ⟨_, e⟩) <;> exact F5 (by rw [← e]; assumption)
  have bz : ∀ x, cntS T b x = 0 := fun x => cntS_none fun t ht => by
    obtain ⟨t1, t2, t3⟩ := hI t ht
    rw [← Bool.not_eq_true, sideB_iff]
    rintro (⟨e, _⟩ | ⟨e, _⟩ | ⟨e, _⟩) <;> exact F5 (by rw [← e]; assumption)
  have S : ∀ x y, sideB ⟨a, b, c⟩ x y = true ↔ (a = x ∧ b = y) ∨ (b = x ∧ c = y) ∨ (c = x ∧ a = y) := fun x y => sideB_iff
  have C : ∀ x y, cntS (⟨a, b, c⟩ :: T) x y = cntS T x y + if (a = x ∧ b = y) ∨ (b = x ∧ c = y) ∨ (c = x ∧ a = y) then 1 else 0 := fun x y => by
    rw [cntS_cons]
    congr 1
    by_cases hs : sideB ⟨a, b, c⟩ x y = true
    · rw [if_pos hs, if_pos ((S x y).1 hs)]
    · rw [if_neg hs, if_neg fun h => hs ((S x y).2 h)]
  constructor
  · intro x y hf
    by_cases xa : x = a
    · subst xa
      have : y = b := Fol.only hd hf Fa
      subst this
      rw [C, C, zb, bz, if_pos (.inl ⟨rfl, rfl⟩), if_neg (by omega)]; exact ⟨rfl, rfl⟩
    · by_cases xb : x = b
      · subst xb
        have : y = c := Fol.only hd hf Fc
        subst this
        rw [C, C, zb, bz, if_pos (.inr (.inl ⟨rfl, rfl⟩)), if_neg (by omega)]; exact ⟨rfl, rfl⟩
      · have hf' := F1 x y hf xa xb
        have yb : y ≠ b := fun e => F5 (by rw [← e]; exact hf'.mem.2)
        have nca : ¬ (x = c ∧ y = a) := fun ⟨e1, e2⟩ => F4 (by rw [← e1, ← e2]; exact hf)
        obtain ⟨o1, o2⟩ := hP.one x y hf'
        rw [C, C, o1, o2, if_neg (by omega), if_neg (by omega)]; exact ⟨rfl, rfl⟩
  · intro x y h1 h2
    obtain ⟨o1, o2⟩ := hP.one a c F3
    by_cases e1 : x = a ∧ y = c
    · obtain ⟨rfl, rfl⟩ := e1
      rw [C, C, o1, o2, if_neg (by omega), if_pos (by omega)]; exact ⟨by omega, rfl⟩
    · by_cases e2 : x = c ∧ y = a
      · obtain ⟨rfl, rfl⟩ := e2
        rw [C, C, o1, o2, if_pos (by omega), if_neg (by omega)]; exact ⟨by omega, rfl⟩
      · have m1 : ¬ (a = x ∧ b = y) := fun ⟨p, q⟩ => h1 (by rw [← p, ← q]; exact Fa)
        have m2 : ¬ (b = x ∧ c = y) := fun ⟨p, q⟩ => h1 (by rw [← p, ← q]; exact Fc)
        have m3 : ¬ (a = y ∧ b = x) := fun ⟨p, q⟩ => h2 (by rw [← p, ← q]; exact Fa)
        have m4 : ¬ (b = y ∧ c = x) := fun ⟨p, q⟩ => h2 (by rw [← p, ← q]; exact Fc)
        have g1 : ¬ Fol es x y := fun hf => by
          by_cases xa : x = a
          · subst xa; exact e1 ⟨rfl, Fol.only hde hf F3⟩
          · exact h1 (F2 x y hf xa)
        have g2 : ¬ Fol es y x := fun hf => by
          by_cases ya : y = a
          · subst ya; exact e2 ⟨Fol.only hde hf F3, rfl⟩
          · exact h2 (F2 y x hf ya)
        obtain ⟨t1, t2⟩ := hP.two x y g1 g2
        rw [C, C, if_neg (by omega), if_neg (by omega)]
        exact ⟨by omega, by omega⟩
theorem area_cut {ps : List Pt} {rs : List Nat} (h : RingOk ps rs) (h4 : 4 ≤ rs.length) {k : Nat} (hk : k < rs.length) : areaL (rpt ps rs) = trn (gp ps (bef rs k)) (gp ps (gn rs k)) (gp ps (aft rs k)) + areaL (rpt ps (rs.eraseIdx k)) := by
  obtain ⟨p1, p2⟩ := pred_ex hk
  have p3 : ((k + rs.length - 1) % rs.length + 2) % rs.length = (k + 1) % rs.length := by rw [← mod2, p2]
  have p4 : (k + 1) % rs.length < rs.length := Nat.mod_lt _ (by omega)
  have rl := rpt_len ps rs
  have A := (sgn_sum (ps := rpt ps rs) (i := (k + rs.length - 1) % rs.length) (d := 2) (k := (k + 1) % rs.length) (by rw [rl]; exact p1) (by rw [rl]; omega) (by rw [rl]; exact p3) (by rw [rl]; exact p4)).1
  rw [area_sum (arc (rpt ps rs) ((k + rs.length - 1) % rs.length) 2), tri_sums crP (by rw [rl]; exact p1), cr_tri, rl, p2, p3, gp_rpt ps p1, gp_rpt ps hk, gp_rpt ps p4] at A
  have ha : (arc (rpt ps rs) ((k + 1) % rs.length) (rs.length - 2)).length = rs.length - 1 := by rw [arc_len]; omega
  rw [ear_arc h h4 hk, area_rot (by rw [ha]; exact Nat.mod_lt _ (by omega)), A]; rfl
theorem area_three {ps : List Pt} {rs : List Nat} (h3 : rs.length = 3) : areaL (rpt ps rs) = trnT ps (lastT rs) := by
  have e3 : rpt ps rs = [gp ps (gn rs 0), gp ps (gn rs 1), gp ps (gn rs 2)] := by
    have := three_list h3
    unfold rpt
    generalize e0 : gn rs 0 = x0 at *
    generalize e1 : gn rs 1 = x1 at *
    generalize e2 : gn rs 2 = x2 at *
    rw [this]; rfl
  rw [e3, area3]; rfl
/-- All of it: sides, places, areas. -/
theorem cut_parts {ps : List Pt} : ∀ (f : Nat) (rs : List Nat), RingOk ps rs → rs.length = f + 3 → Parts rs (cutL ps f rs) ∧ InRing rs (cutL ps f rs) ∧ (∀ t ∈ cutL ps f rs, 0 < trnT ps t) ∧ areaT ps (cutL ps f rs) = areaL (rpt ps rs)
  | 0, rs, h, hl => by
    refine ⟨parts_three h.nodup hl, fun t ht => ?_, fun t ht => ?_, ?_⟩
    · rw [List.mem_singleton.1 ht]
      exact ⟨gn_mem (by omega), gn_mem (by omega), gn_mem (by omega)⟩
    · rw [List.mem_singleton.1 ht, ← area_three hl]
      have := sgn_ok _ _ rfl h.sim
      unfold SgnOk at this
      have := h.lft
      omega
    · rw [area_three hl]; show trnT ps (lastT rs) + 0 = _; omega
  | f + 1, rs, h, hl => by
    obtain ⟨e1, e2, _⟩ := fEar_ok h (by omega)
    obtain ⟨c1, c2⟩ := cutR_ok h (by omega)
    obtain ⟨i1, i2, i3, i4⟩ := cut_parts f (cutR ps rs) c1 (by omega)
    have sub : ∀ i, i ∈ cutR ps rs → i ∈ rs := fun i hi => (List.eraseIdx_sublist ..).subset hi
    have tp : 0 < trnT ps (clipT ps rs) := by
      unfold earB at e2
      rw [Bool.and_eq_true, decide_eq_true_eq] at e2
      exact e2.1
    refine ⟨parts_cons h.nodup (by omega) e1 i1 i2, fun t ht => ?_, fun t ht => ?_, ?_⟩
    · rcases List.mem_cons.1 ht with rfl | ht
      · exact ⟨gn_mem (Nat.mod_lt _ (by omega)), gn_mem e1, gn_mem (Nat.mod_lt _ (by omega))⟩
      · obtain ⟨t1, t2, t3⟩ := i2 t ht
        exact ⟨sub _ t1, sub _ t2, sub _ t3⟩
    · rcases List.mem_cons.1 ht with rfl | ht
      · exact tp
      · exact i3 t ht
    · show trnT ps (clipT ps rs) + areaT ps (cutL ps f (cutR ps rs)) = _
      rw [i4, area_cut h (by omega) e1]; rfl
theorem area_ring {ps : List Pt} (h : 0 < ps.length) : areaL (rpt ps (rgN ps)) = (if areaL ps < 0 then -areaL ps else areaL ps) := by
  rw [rpt_rgN]
  split
  · rw [area_rot (by rw [List.length_reverse]; omega), area_rev]
  · rfl
/-- The triangles of a polygon. -/
theorem tri_parts {ps : List Pt} (h : simB ps = true) : Parts (rgN ps) (triL ps) ∧ InRing (rgN ps) (triL ps) ∧ (∀ t ∈ triL ps, 0 < trnT ps t) ∧ areaT ps (triL ps) = (if areaL ps < 0 then -areaL ps else areaL ps) ∧ (triL ps).length = ps.length - 2 := by
  have h3 := (sim_of h).three
  obtain ⟨i1, i2, i3, i4⟩ := cut_parts (ps.length - 3) (rgN ps) (ring_first h) (by rw [rgN_len]; omega)
  refine ⟨i1, i2, i3, by rw [← area_ring (by omega)]; exact i4, ?_⟩
  unfold triL; rw [cutL_len]; omega
end Go.Proofs.Ytkkmioffclpmfaa
