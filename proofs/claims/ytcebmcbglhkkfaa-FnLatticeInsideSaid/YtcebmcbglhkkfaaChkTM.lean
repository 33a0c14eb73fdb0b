
/- Triangles that divide a polygon: the test, told by places. No program in sight. -/
import Derived.Test.YtcebmcbglhkkfaaTreeM
import Derived.Test.YtcebmcbglhkkfaaTris
set_option linter.unusedVariables false
set_option linter.unusedSimpArgs false
namespace Go.Proofs.Ytcebmcbglhkkfaa
open Go.RowKit

def toN (t : TI) : Tri3 := ⟨t.a.toNat, t.b.toNat, t.c.toNat⟩
def ofN (t : Tri3) : TI := ⟨t.a, t.b, t.c⟩
theorem toN_ofN (t : Tri3) : toN (ofN t) = t := by cases t; simp [toN, ofN]
theorem map_toN_ofN (T : List Tri3) : (T.map ofN).map toN = T := by
  rw [List.map_map]
  conv => rhs; rw [← List.map_id T]
  exact List.map_congr_left fun t _ => toN_ofN t
def inN (n : Nat) (x : Int) : Bool := decide (0 ≤ x) && decide (x ≤ (n : Int) - 1)
def tIn (n : Nat) (t : TI) : Bool := inN n t.a && (inN n t.b && inN n t.c)
theorem tIn_iff {n : Nat} {t : TI} : tIn n t = true ↔ ∃ a b c : Nat, t = ⟨a, b, c⟩ ∧ a < n ∧ b < n ∧ c < n := by
  unfold tIn inN
  simp only [Bool.and_eq_true, decide_eq_true_eq]
  constructor
  · rintro ⟨⟨h1, h2⟩, ⟨h3, h4⟩, h5, h6⟩
    refine ⟨t.a.toNat, t.b.toNat, t.c.toNat, ?_, by omega, by omega, by omega⟩
    cases t
    simp only at h1 h3 h5 ⊢
    rw [Int.toNat_of_nonneg h1, Int.toNat_of_nonneg h3, Int.toNat_of_nonneg h5]
  · rintro ⟨a, b, c, rfl, h1, h2, h3⟩
    simp only
    omega
def tOk (ps : List Pt) (t : TI) : Bool := tIn ps.length t && decide (0 < trnT ps (toN t))
def absA (ps : List Pt) : Int := if areaL ps < 0 then -areaL ps else areaL ps
def folB (rs : List Nat) (x y : Nat) : Bool := (List.range rs.length).any fun j => decide (gn rs j = x) && decide (aft rs j = y)
theorem folB_iff {rs : List Nat} {x y : Nat} : folB rs x y = true ↔ Fol rs x y := by
  unfold folB Fol
  rw [List.any_eq_true]
  constructor
  · rintro ⟨j, hj, h⟩
    rw [Bool.and_eq_true, decide_eq_true_eq, decide_eq_true_eq] at h
    exact ⟨j, List.mem_range.1 hj, h.1, h.2⟩
  · rintro ⟨j, hj, h1, h2⟩
    exact ⟨j, List.mem_range.2 hj, by rw [Bool.and_eq_true, decide_eq_true_eq, decide_eq_true_eq]; exact ⟨h1, h2⟩⟩
def pairOk (rs : List Nat) (T : List Tri3) (x y : Nat) : Bool :=
  if folB rs x y then decide (cntS T x y = 1) && decide (cntS T y x = 0) else if folB rs y x then true else decide (cntS T x y ≤ 1) && decide (cntS T x y = cntS T y x)
def partsB (n : Nat) (rs : List Nat) (T : List Tri3) : Bool := (List.range n).all fun x => (List.range n).all fun y => pairOk rs T x y
theorem partsB_iff {n : Nat} {rs : List Nat} {T : List Tri3} : partsB n rs T = true ↔ ∀ x y, x < n → y < n → pairOk rs T x y = true := by
  unfold partsB
  rw [List.all_eq_true]
  constructor
  · intro h x y hx hy
    have := h x (List.mem_range.2 hx)
    rw [List.all_eq_true] at this
    exact this y (List.mem_range.2 hy)
  · intro h x hx
    rw [List.all_eq_true]
    exact fun y hy => h x y (List.mem_range.1 hx) (List.mem_range.1 hy)
theorem parts_of {n : Nat} {rs : List Nat} {T : List Tri3} (hn : ∀ i, i ∈ rs → i < n) (hT : ∀ t ∈ T, t.a < n ∧ t.b < n ∧ t.c < n) (h3 : 3 ≤ rs.length) (hd : rs.Nodup) (h : partsB n rs T = true) : Parts rs T := by
  rw [partsB_iff] at h
  have two : ∀ i k, Fol rs i k → ¬ Fol rs k i := fun i k h1 h2 => by
    obtain ⟨j, hj, e1, e2⟩ := h1
    obtain ⟨m, hm, d1, d2⟩ := h2
    have a1 : m = (j + 1) % rs.length := gn_inj hd hm (Nat.mod_lt _ (by omega)) (d1.trans e2.symm)
    have a2 : j = (m + 1) % rs.length := gn_inj hd hj (Nat.mod_lt _ (by omega)) (e1.trans d2.symm)
    have m1 := mod_next hj
    have m2 := mod_next hm
    split at m1 <;> split at m2 <;> omega
  have off : ∀ i k, (n ≤ i ∨ n ≤ k) → cntS T i k = 0 := fun i k hik => cntS_none fun t ht => by
    obtain ⟨t1, t2, t3⟩ := hT t ht
    rw [← Bool.not_eq_true, sideB_iff]
    omega
  constructor
  · intro i k hf
    have m := hf.mem
    have := h i k (hn i m.1) (hn k m.2)
    unfold pairOk at this
    rw [if_pos (folB_iff.2 hf), Bool.and_eq_true, decide_eq_true_eq, decide_eq_true_eq] at this
    exact this
  · intro i k h1 h2
    by_cases hik : i < n ∧ k < n
    · have := h i k hik.1 hik.2
      unfold pairOk at this
      rw [if_neg (fun e => h1 (folB_iff.1 e)), if_neg (fun e => h2 (folB_iff.1 e)), Bool.and_eq_true, decide_eq_true_eq, decide_eq_true_eq] at this
      exact this
    · rw [off i k (by omega), off k i (by omega)]; exact ⟨by omega, rfl⟩
theorem of_parts {n : Nat} {rs : List Nat} {T : List Tri3} (h : Parts rs T) : partsB n rs T = true := by
  rw [partsB_iff]
  intro x y _ _
  unfold pairOk
  by_cases h1 : Fol rs x y
  · rw [if_pos (folB_iff.2 h1), Bool.and_eq_true, decide_eq_true_eq, decide_eq_true_eq]
    exact h.one x y h1
  · rw [if_neg (fun e => h1 (folB_iff.1 e))]
    by_cases h2 : Fol rs y x
    · rw [if_pos (folB_iff.2 h2)]
    · rw [if_neg (fun e => h2 (folB_iff.1 e)), Bool.and_eq_true, decide_eq_true_eq, decide_eq_true_eq]
      exact h.two x y h1 h2
def chkT (ps : List Pt) (ts : List TI) : Bool :=
  clipB ps && (decide (ts.length + 2 = ps.length) && (ts.all (tOk ps) && (decide (areaT ps (ts.map toN) = absA ps) && partsB ps.length (rgN ps) (ts.map toN))))
theorem tOk_at {ps : List Pt} {t : TI} (h : tOk ps t = true) : TriOk ps.length (toN t) ∧ 0 < trnT ps (toN t) := by
  unfold tOk at h
  rw [Bool.and_eq_true, decide_eq_true_eq, tIn_iff] at h
  obtain ⟨⟨a, b, c, rfl, h1, h2, h3⟩, hp⟩ := h
  refine ⟨?_, hp⟩
  have e : toN ⟨a, b, c⟩ = ⟨a, b, c⟩ := by simp [toN]
  rw [e] at hp ⊢
  have z : ∀ u v : Pt, trn u u v = 0 ∧ trn u v u = 0 ∧ trn v u u = 0 := fun u v => by unfold trn; refine ⟨?_, ?_, ?_⟩ <;> grind
  refine ⟨h1, h2, h3, fun e => ?_, fun e => ?_, fun e => ?_⟩
  · simp only at e
    unfold trnT at hp
    simp only [e] at hp
    rw [(z _ _).1] at hp; omega
  · simp only at e
    unfold trnT at hp
    simp only [e] at hp
    rw [(z _ _).2.2] at hp; omega
  · simp only at e
    unfold trnT at hp
    simp only [e] at hp
    rw [(z _ _).2.1] at hp; omega
theorem chk_parts {ps : List Pt} {ts : List TI} (h : chkT ps ts = true) : clipB ps = true ∧ ts.length + 2 = ps.length ∧ (∀ t ∈ ts, tOk ps t = true) ∧ areaT ps (ts.map toN) = absA ps ∧ partsB ps.length (rgN ps) (ts.map toN) = true := by
  unfold chkT at h
  rw [Bool.and_eq_true, Bool.and_eq_true, Bool.and_eq_true, Bool.and_eq_true, decide_eq_true_eq, decide_eq_true_eq, List.all_eq_true] at h
  exact ⟨h.1, h.2.1, h.2.2.1, h.2.2.2.1, h.2.2.2.2⟩
theorem chk_divs {ps : List Pt} {ts : List TI} (h : chkT ps ts = true) : Divs ps (rgN ps) (ts.map toN) ∧ (ts.map toN).length = (rgN ps).length - 2 := by
  obtain ⟨h1, h2, h3, h4, h5⟩ := chk_parts h
  have hs : simB ps = true := by unfold clipB at h1; rw [Bool.and_eq_true] at h1; exact h1.1
  have n3 := (sim_of hs).three
  have ok : ∀ t ∈ ts.map toN, TriOk ps.length t ∧ 0 < trnT ps t := fun t ht => by
    obtain ⟨s, hs, rfl⟩ := List.mem_map.1 ht
    exact tOk_at (h3 s hs)
  refine ⟨⟨rgN_nodup ps, by rw [rgN_len]; exact n3, fun i => ?_, parts_of (fun i hi => rgN_lt hi) (fun t ht => ?_) (by rw [rgN_len]; exact n3) (rgN_nodup ps) h5, fun t ht => by rw [rgN_len]; exact (ok t ht).1, fun t ht => (ok t ht).2⟩, by rw [List.length_map, rgN_len]; omega⟩
  · rw [rgN_len]
    constructor
    · intro hi
      have := gn_mem (rs := rgN ps) (k := rgI ps i) (by rw [rgN_len]; exact rgI_lt hi)
      rw [rgN_at (rgI_lt hi), rgI_inv hi] at this
      exact this
    · exact fun hi => rgN_lt hi
  · obtain ⟨a, b, c, _⟩ := (ok t ht).1
    exact ⟨a, b, c⟩
theorem chk_color {ps : List Pt} {ts : List TI} (h : chkT ps ts = true) : ∃ g, ColOk (ts.map toN) g := div_color (chk_divs h).1 (chk_divs h).2
theorem chk_in {ps : List Pt} {ts : List TI} (h : chkT ps ts = true) : ∀ t ∈ ts.map toN, t.a < ps.length ∧ t.b < ps.length ∧ t.c < ps.length := fun t ht => by
  obtain ⟨s, hs, rfl⟩ := List.mem_map.1 ht
  obtain ⟨a, b, c, _⟩ := (tOk_at ((chk_parts h).2.2.1 s hs)).1
  exact ⟨a, b, c⟩
/-- The triangles of a polygon, as numbers. -/
def triI (ps : List Pt) : List TI := (triL ps).map ofN
theorem tri_chk {ps : List Pt} (h : clipB ps = true) : chkT ps (triI ps) = true := by
  have hs : simB ps = true := by unfold clipB at h; rw [Bool.and_eq_true] at h; exact h.1
  have n3 := (sim_of hs).three
  obtain ⟨t1, t2, t3, t4, t5⟩ := tri_parts hs
  unfold chkT
  have e : (triI ps).map toN = triL ps := map_toN_ofN _
  rw [e, h, of_parts t1]
  rw [decide_eq_true (show (triI ps).length + 2 = ps.length by unfold triI; rw [List.length_map, t5]; omega), decide_eq_true (show areaT ps (triL ps) = absA ps from t4)]
  have : (triI ps).all (tOk ps) = true := by
    rw [List.all_eq_true]
    intro t ht
    unfold triI at ht
    obtain ⟨s, hs, rfl⟩ := List.mem_map.1 ht
    unfold tOk
    rw [toN_ofN, decide_eq_true (t3 s hs)]
    obtain ⟨m1, m2, m3⟩ := t2 s hs
    rw [Bool.and_true, tIn_iff]
    exact ⟨s.a, s.b, s.c, rfl, rgN_lt m1, rgN_lt m2, rgN_lt m3⟩
  rw [this]; rfl
/-! ### both loops over all pairs -/
theorem ring_pos {rs : List Nat} (hd : rs.Nodup) (h3 : 3 ≤ rs.length) {i k : Nat} (hi : i < rs.length) (hk : k < rs.length) : Fol rs (gn rs i) (gn rs k) ↔ k = (i + 1) % rs.length := by
  constructor
  · rintro ⟨j, hj, e1, e2⟩
    have := gn_inj hd hj hi e1
    subst this
    exact gn_inj hd hk (Nat.mod_lt _ (by omega)) e2.symm
  · intro e
    exact ⟨i, hi, rfl, by unfold aft; rw [← e]⟩
theorem cnt_self {n : Nat} {T : List Tri3} (h : ∀ t ∈ T, TriOk n t) (x : Nat) : cntS T x x = 0 := cntS_none fun t ht => by
  obtain ⟨_, _, _, d1, d2, d3⟩ := h t ht
  rw [← Bool.not_eq_true, sideB_iff]
  omega
/-- The pair at two places of the ring, by their distance. -/
theorem pair_pos {n : Nat} {rs : List Nat} {T : List Tri3} (hd : rs.Nodup) (hl : rs.length = n) (h3 : 3 ≤ n) (hT : ∀ t ∈ T, TriOk n t) {i k : Nat} (hi : i < n) (hk : k < n) :
    pairOk rs T (gn rs i) (gn rs k) = (if (k + n - i) % n = 0 ∨ (k + n - i) % n = n - 1 then true else if (k + n - i) % n = 1 then decide (cntS T (gn rs i) (gn rs k) = 1) && decide (cntS T (gn rs k) (gn rs i) = 0) else decide (cntS T (gn rs i) (gn rs k) ≤ 1) && decide (cntS T (gn rs i) (gn rs k) = cntS T (gn rs k) (gn rs i))) := by
  have R1 := ring_pos hd (by omega) (show i < rs.length by omega) (show k < rs.length by omega)
  have R2 := ring_pos hd (by omega) (show k < rs.length by omega) (show i < rs.length by omega)
  rw [hl] at R1 R2
  have m1 := mod_next hi
  have m2 := mod_next hk
  have D : (k + n - i) % n = if i ≤ k then k - i else k + n - i := by
    split
    · rw [show k + n - i = k - i + n by omega, Nat.add_mod_right]; exact Nat.mod_eq_of_lt (by omega)
    · exact Nat.mod_eq_of_lt (by omega)
  unfold pairOk
  by_cases e0 : i = k
  · subst e0
    rw [if_neg (fun e => by have := R1.1 (folB_iff.1 e); split at m1 <;> omega), if_neg (fun e => by have := R1.1 (folB_iff.1 e); split at m1 <;> omega), if_pos (by left; rw [D]; simp), cnt_self hT]
    rfl
  · by_cases f1 : Fol rs (gn rs i) (gn rs k)
    · have e := R1.1 f1
      have d1 : (k + n - i) % n = 1 := by rw [D]; split at m1 <;> split <;> omega
      rw [if_pos (folB_iff.2 f1), if_neg (by omega), if_pos d1]
    · have n1 : k ≠ (i + 1) % n := fun e => f1 (R1.2 e)
      rw [if_neg (fun e => f1 (folB_iff.1 e))]
      by_cases f2 : Fol rs (gn rs k) (gn rs i)
      · have e := R2.1 f2
        have d1 : (k + n - i) % n = n - 1 := by rw [D]; split at m2 <;> split <;> omega
        rw [if_pos (folB_iff.2 f2), if_pos (.inr d1)]
      · have n2 : i ≠ (k + 1) % n := fun e => f2 (R2.2 e)
        rw [if_neg (fun e => f2 (folB_iff.1 e)), if_neg, if_neg]
        · rw [D]; split at m1 <;> split <;> omega
        · rw [D]; split at m1 <;> split at m2 <;> split <;> omega
theorem partsB_ring {n : Nat} {rs : List Nat} {T : List Tri3} (hn : ∀ i, i < n ↔ i ∈ rs) (hl : rs.length = n) : (partsB n rs T = true ↔ ∀ i k, i < n → k < n → pairOk rs T (gn rs i) (gn rs k) = true) := by
  rw [partsB_iff]
  constructor
  · exact fun h i k hi hk => h _ _ ((hn _).2 (gn_mem (by omega))) ((hn _).2 (gn_mem (by omega)))
  · intro h x y hx hy
    obtain ⟨i, hi, rfl⟩ := gn_of_mem ((hn x).1 hx)
    obtain ⟨k, hk, rfl⟩ := gn_of_mem ((hn y).1 hy)
    exact h i k (by omega) (by omega)
end Go.Proofs.Ytcebmcbglhkkfaa
