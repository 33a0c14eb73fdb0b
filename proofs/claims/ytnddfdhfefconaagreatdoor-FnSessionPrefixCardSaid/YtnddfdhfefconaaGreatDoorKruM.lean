
/- Stable sorting of a row, plain: moves within a part, insertion, rotation, merging by symmetric parts. -/
/- Smallest spanning trees, plain: taking edges in order against taking the smallest again and again. -/
import Derived.Test.YtnddfdhfefconaaGreatDoorHullK
import Derived.Test.YtnddfdhfefconaaGreatDoorPairs
set_option linter.unusedVariables false
set_option linter.unusedSimpArgs false
namespace Go.Proofs.YtnddfdhfefconaaGreatDoor
open Go.RowKit

/-- d' is d with the places a ≤ i < b moved among themselves. -/
def Mv (a b : Nat) (d d' : Nat → Pt) : Prop :=
  ∃ σ τ : Nat → Nat, (∀ i, σ (τ i) = i) ∧ (∀ i, τ (σ i) = i) ∧ (∀ i, (i < a ∨ b ≤ i) → σ i = i) ∧ (∀ i, a ≤ i → i < b → a ≤ σ i ∧ σ i < b) ∧ ∀ i, d' i = d (σ i)
theorem Mv.refl (a b : Nat) (d : Nat → Pt) : Mv a b d d := ⟨id, id, fun _ => rfl, fun _ => rfl, fun _ _ => rfl, fun _ h1 h2 => ⟨h1, h2⟩, fun _ => rfl⟩
theorem Mv.trans {a b : Nat} {d e f : Nat → Pt} (h : Mv a b d e) (g : Mv a b e f) : Mv a b d f := by
  obtain ⟨σ, τ, h1, h2, h3, h4, h5⟩ := h
  obtain ⟨σ', τ', g1, g2, g3, g4, g5⟩ := g
  refine ⟨fun i => σ (σ' i), fun i => τ' (τ i), fun i => (show σ (σ' (τ' (τ i))) = i by rw [g1, h1]), fun i => (show τ' (τ (σ (σ' i))) = i by rw [h2, g2]), fun i hi => (show σ (σ' i) = i by rw [g3 i hi, h3 i hi]), fun i hi hj => ?_, fun i => by rw [g5, h5]⟩
  obtain ⟨k1, k2⟩ := g4 i hi hj
  exact h4 _ k1 k2
theorem Mv.wide {a b a' b' : Nat} {d e : Nat → Pt} (h : Mv a b d e) (ha : a' ≤ a) (hb : b ≤ b') : Mv a' b' d e := by
  obtain ⟨σ, τ, h1, h2, h3, h4, h5⟩ := h
  refine ⟨σ, τ, h1, h2, fun i hi => h3 i (by omega), fun i hi hj => ?_, h5⟩
  by_cases k : i < a ∨ b ≤ i
  · rw [h3 i k]; exact ⟨hi, hj⟩
  · obtain ⟨k1, k2⟩ := h4 i (by omega) (by omega)
    omega
theorem Mv.out {a b : Nat} {d e : Nat → Pt} (h : Mv a b d e) {i : Nat} (hi : i < a ∨ b ≤ i) : e i = d i := by
  obtain ⟨σ, τ, h1, h2, h3, h4, h5⟩ := h
  rw [h5, h3 i hi]
theorem Mv.at {a b : Nat} {d e : Nat → Pt} (h : Mv a b d e) {i : Nat} (h1 : a ≤ i) (h2 : i < b) : ∃ j, a ≤ j ∧ j < b ∧ e i = d j := by
  obtain ⟨σ, τ, _, _, _, h4, h5⟩ := h
  obtain ⟨k1, k2⟩ := h4 i h1 h2
  exact ⟨_, k1, k2, h5 i⟩
theorem Mv.from {a b : Nat} {d e : Nat → Pt} (h : Mv a b d e) {j : Nat} (h1 : a ≤ j) (h2 : j < b) : ∃ i, a ≤ i ∧ i < b ∧ e i = d j := by
  obtain ⟨σ, τ, s1, s2, h3, h4, h5⟩ := h
  refine ⟨τ j, ?_, ?_, by rw [h5, s1]⟩
  · by_cases k : τ j < a ∨ b ≤ τ j
    · have := h3 _ k; rw [s1] at this; omega
    · omega
  · by_cases k : τ j < a ∨ b ≤ τ j
    · have := h3 _ k; rw [s1] at this; omega
    · omega
def swF (d : Nat → Pt) (i j : Nat) : Nat → Pt := fun k => if k = i then d j else if k = j then d i else d k
theorem Mv.swap {a b i j : Nat} (d : Nat → Pt) (hi : a ≤ i) (hi2 : i < b) (hj : a ≤ j) (hj2 : j < b) : Mv a b d (swF d i j) := by
  refine ⟨fun k => if k = i then j else if k = j then i else k, fun k => if k = i then j else if k = j then i else k, fun k => ?_, fun k => ?_, fun k hk => ?_, fun k h1 h2 => ?_, fun k => ?_⟩
  · simp only
    repeat' split
    all_goals omega
  · simp only
    repeat' split
    all_goals omega
  · simp only
    repeat' split
    all_goals omega
  · simp only
    repeat' split
    all_goals omega
  · simp only [swF]
    by_cases e1 : k = i
    · rw [if_pos e1, if_pos e1]
    · by_cases e2 : k = j
      · rw [if_neg e1, if_pos e2, if_neg e1, if_pos e2]
      · rw [if_neg e1, if_neg e2, if_neg e1, if_neg e2]

/-! ### the order -/
/-- First by K, then by the pair itself. -/
def ltS (K : Pt → Int) (p q : Pt) : Prop := K p < K q ∨ (K p = K q ∧ ltP p q)
theorem ltS_tr {K : Pt → Int} {p q r : Pt} (h : ltS K p q) (g : ltS K q r) : ltS K p r := by
  unfold ltS at *
  rcases h with h | ⟨h, h'⟩ <;> rcases g with g | ⟨g, g'⟩
  · exact .inl (by omega)
  · exact .inl (by omega)
  · exact .inl (by omega)
  · exact .inr ⟨by omega, by unfold ltP at *; omega⟩
theorem ltS_as {K : Pt → Int} {p q : Pt} (h : ltS K p q) : ¬ ltS K q p := by
  unfold ltS ltP at *; omega
theorem ltS_le {K : Pt → Int} {p q : Pt} (h : ltS K p q) : K p ≤ K q := by
  rcases h with h | ⟨h, _⟩
  · exact Int.le_of_lt h
  · exact Int.le_of_eq h
theorem ltS_of {K : Pt → Int} {p q : Pt} (h : ltP p q) (hk : K p ≤ K q) : ltS K p q := by
  by_cases e : K p = K q
  · exact .inr ⟨e, h⟩
  · exact .inl (by omega)
def Asc2 (a b : Nat) (d : Nat → Pt) : Prop := ∀ i j, a ≤ i → i < j → j < b → ltP (d i) (d j)
def Srt (K : Pt → Int) (a b : Nat) (d : Nat → Pt) : Prop := ∀ i j, a ≤ i → i < j → j < b → ltS K (d i) (d j)
def Crs (a m b : Nat) (d : Nat → Pt) : Prop := ∀ i j, a ≤ i → i < m → m ≤ j → j < b → ltP (d i) (d j)
theorem Srt.le {K : Pt → Int} {a b : Nat} {d : Nat → Pt} (h : Srt K a b d) {i j : Nat} (h1 : a ≤ i) (h2 : i ≤ j) (h3 : j < b) : K (d i) ≤ K (d j) := by
  by_cases e : i = j
  · rw [e]; exact Int.le_refl _
  · exact ltS_le (h i j h1 (by omega) h3)
/-! ### insertion -/
/-- The element of place i has come to place j. -/
structure InsI (K : Pt → Int) (a i j : Nat) (d0 d : Nat → Pt) : Prop where
  x : d j = d0 i
  mv : Mv a (i + 1) d0 d
  two : ∀ p q, a ≤ p → p < q → q ≤ i → p ≠ j → q ≠ j → ltS K (d p) (d q)
  hi : ∀ q, j < q → q ≤ i → ltS K (d0 i) (d q)
  lo : ∀ p, a ≤ p → p < j → ltP (d p) (d0 i)
/-- The first i - a are sorted; the others lie as they lay. -/
structure InsO (K : Pt → Int) (a i : Nat) (d0 d : Nat → Pt) : Prop where
  mv : Mv a i d0 d
  srt : Srt K a i d
theorem InsO.start (K : Pt → Int) (a : Nat) (d : Nat → Pt) : InsO K a (a + 1) d d := ⟨Mv.refl _ _ _, fun i j h1 h2 h3 => by omega⟩
theorem InsO.inner {K : Pt → Int} {a i b : Nat} {d0 d : Nat → Pt} (h : InsO K a i d0 d) (ha : Asc2 a b d0) (hi : i < b) : InsI K a i i d0 d := by
  refine ⟨h.mv.out (.inr (Nat.le_refl _)), h.mv.wide (Nat.le_refl _) (Nat.le_succ _), fun p q h1 h2 h3 h4 h5 => h.srt p q h1 h2 (by omega), fun q h1 h2 => by omega, fun p h1 h2 => ?_⟩
  obtain ⟨j, k1, k2, e⟩ := h.mv.at h1 h2
  rw [e]
  exact ha j i k1 k2 hi
theorem InsI.step {K : Pt → Int} {a i j : Nat} {d0 d : Nat → Pt} (h : InsI K a i j d0 d) (haj : a < j) (hji : j ≤ i) (hk : K (d j) < K (d (j - 1))) : InsI K a i (j - 1) d0 (swF d j (j - 1)) := by
  obtain ⟨x, mv, two, hi, lo⟩ := h
  rw [x] at hk
  refine ⟨?_, mv.trans (Mv.swap d (by omega) (by omega) (by omega) (by omega)), fun p q h1 h2 h3 h4 h5 => ?_, fun q h1 h2 => ?_, fun p h1 h2 => ?_⟩
  · unfold swF; rw [if_neg (by omega), if_pos rfl, x]
  · unfold swF
    by_cases e1 : p = j
    · rw [if_pos e1, if_neg (by omega), if_neg h5]
      exact two (j - 1) q (by omega) (by omega) h3 (by omega) (by omega)
    · rw [if_neg e1, if_neg h4]
      by_cases e2 : q = j
      · rw [if_pos e2]
        exact two p (j - 1) h1 (by omega) (by omega) e1 (by omega)
      · rw [if_neg e2, if_neg h5]
        exact two p q h1 h2 h3 e1 e2
  · unfold swF
    by_cases e1 : q = j
    · rw [if_pos e1]; exact .inl hk
    · rw [if_neg e1, if_neg (by omega)]; exact hi q (by omega) h2
  · unfold swF
    rw [if_neg (by omega), if_neg (by omega)]; exact lo p h1 (by omega)
theorem InsI.stop {K : Pt → Int} {a i j : Nat} {d0 d : Nat → Pt} (h : InsI K a i j d0 d) (haj : a ≤ j) (hji : j ≤ i) (hk : a < j → ¬ K (d j) < K (d (j - 1))) : InsO K a (i + 1) d0 d := by
  obtain ⟨x, mv, two, hi, lo⟩ := h
  refine ⟨mv, fun p q h1 h2 h3 => ?_⟩
  by_cases e1 : p = j
  · rw [e1, x]; exact hi q (by omega) (by omega)
  · by_cases e2 : q = j
    · have hk := hk (by omega)
      rw [x] at hk
      have l := ltS_of (K := K) (lo (j - 1) (by omega) (by omega)) (by omega)
      rw [e2, x]
      by_cases e3 : p = j - 1
      · rw [e3]; exact l
      · exact ltS_tr (two p (j - 1) h1 (by omega) (by omega) e1 (by omega)) l
    · exact two p q h1 h2 (by omega) e1 e2
/-! ### rotation -/
/-- The parts [a, m) and [m, b) change places. -/
def rot (a m b : Nat) (d : Nat → Pt) : Nat → Pt := fun k => if a ≤ k ∧ k < a + (b - m) then d (k + (m - a)) else if a + (b - m) ≤ k ∧ k < b then d (k - (b - m)) else d k
theorem rot_lo {a m b : Nat} (d : Nat → Pt) {k : Nat} (h1 : a ≤ k) (h2 : k < a + (b - m)) : rot a m b d k = d (k + (m - a)) := by unfold rot; rw [if_pos ⟨h1, h2⟩]
theorem rot_hi {a m b : Nat} (d : Nat → Pt) {k : Nat} (h1 : a + (b - m) ≤ k) (h2 : k < b) : rot a m b d k = d (k - (b - m)) := by unfold rot; rw [if_neg (by omega), if_pos ⟨h1, h2⟩]
theorem rot_no {a m b : Nat} (d : Nat → Pt) {k : Nat} (ham : a ≤ m) (hmb : m ≤ b) (h : k < a ∨ b ≤ k) : rot a m b d k = d k := by unfold rot; rw [if_neg (by omega), if_neg (by omega)]
theorem rot_same (a b : Nat) (d : Nat → Pt) : rot a a b d = d ∧ rot a b b d = d := by
  constructor
  · funext k
    unfold rot
    repeat' split
    all_goals first | rfl | omega | (congr 1; omega)
  · funext k
    unfold rot
    repeat' split
    all_goals first | rfl | omega | (congr 1; omega)
theorem rot_mv {a m b : Nat} (d : Nat → Pt) (ham : a ≤ m) (hmb : m ≤ b) : Mv a b d (rot a m b d) := by
  refine ⟨fun k => if a ≤ k ∧ k < a + (b - m) then k + (m - a) else if a + (b - m) ≤ k ∧ k < b then k - (b - m) else k, fun k => if a ≤ k ∧ k < m then k + (b - m) else if m ≤ k ∧ k < b then k - (m - a) else k, fun k => ?_, fun k => ?_, fun k hk => ?_, fun k h1 h2 => ?_, fun k => ?_⟩
  · simp only
    repeat' split
    all_goals omega
  · simp only
    repeat' split
    all_goals omega
  · simp only
    repeat' split
    all_goals omega
  · simp only
    repeat' split
    all_goals omega
  · simp only [rot]
    by_cases e1 : a ≤ k ∧ k < a + (b - m)
    · rw [if_pos e1, if_pos e1]
    · by_cases e2 : a + (b - m) ≤ k ∧ k < b
      · rw [if_neg e1, if_pos e2, if_neg e1, if_pos e2]
      · rw [if_neg e1, if_neg e2, if_neg e1, if_neg e2]
/-- n places from a on and from b on change contents. -/
def swR (a b n : Nat) (d : Nat → Pt) : Nat → Pt := fun k => if a ≤ k ∧ k < a + n then d (k - a + b) else if b ≤ k ∧ k < b + n then d (k - b + a) else d k
theorem swR_0 (a b : Nat) (d : Nat → Pt) : swR a b 0 d = d := by
  funext k
  unfold swR
  repeat' split
  all_goals first | rfl | omega
theorem swR_S {a b n t : Nat} (d : Nat → Pt) (h : a + n ≤ b) (ht : t < n) : swF (swR a b t d) (a + t) (b + t) = swR a b (t + 1) d := by
  funext k; unfold swF swR
  repeat' split
  all_goals first | rfl | omega | (congr 1; omega)
theorem rot_big {m i j : Nat} (d : Nat → Pt) (hi : i ≤ m) (h : j < i) : rot (m - (i - j)) m (m + j) (swR (m - i) m j d) = rot (m - i) m (m + j) d := by
  funext k; unfold rot swR
  repeat' split
  all_goals first | rfl | omega | (congr 1; omega)
theorem rot_small {m i j : Nat} (d : Nat → Pt) (hi : i ≤ m) (h : i < j) : rot (m - i) m (m + (j - i)) (swR (m - i) (m + j - i) i d) = rot (m - i) m (m + j) d := by
  funext k; unfold rot swR
  repeat' split
  all_goals first | rfl | omega | (congr 1; omega)
theorem rot_even {m i : Nat} (d : Nat → Pt) (hi : i ≤ m) : swR (m - i) m i d = rot (m - i) m (m + i) d := by
  funext k; unfold rot swR
  repeat' split
  all_goals first | rfl | omega | (congr 1; omega)
theorem rot_up {a k : Nat} (d : Nat → Pt) (h : a ≤ k) : swF (rot a (a + 1) (k + 1) d) k (k + 1) = rot a (a + 1) (k + 2) d := by
  funext x; unfold swF
  by_cases e1 : x = k
  · rw [if_pos e1, e1, rot_no d (by omega) (by omega) (by omega), rot_lo d h (by omega)]
    congr 1; omega
  · rw [if_neg e1]
    by_cases e2 : x = k + 1
    · rw [if_pos e2, e2, rot_hi (k := k) d (by omega) (by omega), rot_hi d (by omega) (by omega)]
      congr 1; omega
    · rw [if_neg e2]
      by_cases e3 : a ≤ x ∧ x < k
      · rw [rot_lo d e3.1 (by omega), rot_lo d e3.1 (by omega)]
      · rw [rot_no d (by omega) (by omega) (by omega), rot_no d (by omega) (by omega) (by omega)]
theorem rot_down {m k : Nat} (d : Nat → Pt) (h0 : 0 < k) (h : k ≤ m) : swF (rot k m (m + 1) d) k (k - 1) = rot (k - 1) m (m + 1) d := by
  funext x; unfold swF
  by_cases e1 : x = k
  · rw [if_pos e1, e1, rot_no d (by omega) (by omega) (by omega), rot_hi d (by omega) (by omega)]
    congr 1; omega
  · rw [if_neg e1]
    by_cases e2 : x = k - 1
    · rw [if_pos e2, e2, rot_lo (k := k) d (by omega) (by omega), rot_lo d (by omega) (by omega)]
      congr 1; omega
    · rw [if_neg e2]
      by_cases e3 : k < x ∧ x < m + 1
      · rw [rot_hi d (by omega) e3.2, rot_hi d (by omega) e3.2]
      · rw [rot_no d (by omega) (by omega) (by omega), rot_no d (by omega) (by omega) (by omega)]
/-! ### searching -/
/-- P holds from lo to i and nowhere from j to hi. -/
structure Bs (lo hi i j : Nat) (P : Nat → Prop) : Prop where
  le : lo ≤ i ∧ i ≤ j ∧ j ≤ hi
  yes : ∀ h, lo ≤ h → h < i → P h
  no : ∀ h, j ≤ h → h < hi → ¬ P h
theorem Bs.start {lo hi : Nat} (P : Nat → Prop) (h : lo ≤ hi) : Bs lo hi lo hi P := ⟨by omega, fun _ h1 h2 => by omega, fun _ h1 h2 => by omega⟩
def Dn (lo hi : Nat) (P : Nat → Prop) : Prop := ∀ x y, lo ≤ x → x ≤ y → y < hi → P y → P x
theorem Bs.up {lo hi i j h : Nat} {P : Nat → Prop} (b : Bs lo hi i j P) (m : Dn lo hi P) (h1 : i ≤ h) (h2 : h < j) (hp : P h) : Bs lo hi (h + 1) j P :=
  ⟨by have := b.le; omega, fun x k1 k2 => m x h k1 (by omega) (by have := b.le; omega) hp, b.no⟩
theorem Bs.down {lo hi i j h : Nat} {P : Nat → Prop} (b : Bs lo hi i j P) (m : Dn lo hi P) (h1 : i ≤ h) (h2 : h < j) (hp : ¬ P h) : Bs lo hi i h P :=
  ⟨by have := b.le; omega, b.yes, fun x k1 k2 hx => hp (m h x (by have := b.le; omega) k1 k2 hx)⟩
/-! ### merging -/
structure PreM (K : Pt → Int) (a m b : Nat) (d : Nat → Pt) : Prop where
  l : Srt K a m d
  r : Srt K m b d
  c : Crs a m b d
structure PostM (K : Pt → Int) (a b : Nat) (d d' : Nat → Pt) : Prop where
  mv : Mv a b d d'
  srt : Srt K a b d'
theorem PreM.dn1 {K : Pt → Int} {a m b : Nat} {d : Nat → Pt} (h : PreM K a m b d) (v : Int) : Dn m b (fun h => K (d h) < v) := fun x y h1 h2 h3 hp => by
  have := h.r.le h1 h2 h3
  show K (d x) < v
  have hp : K (d y) < v := hp
  omega
theorem PreM.dn2 {K : Pt → Int} {a m b : Nat} {d : Nat → Pt} (h : PreM K a m b d) (v : Int) : Dn a m (fun h => ¬ v < K (d h)) := fun x y h1 h2 h3 hp => by
  have := h.l.le h1 h2 h3
  show ¬ v < K (d x)
  have hp : ¬ v < K (d y) := hp
  omega
theorem PreM.one1 {K : Pt → Int} {a b i : Nat} {d : Nat → Pt} (h : PreM K a (a + 1) b d) (hb : Bs (a + 1) b i i (fun h => K (d h) < K (d a))) : PostM K a b d (rot a (a + 1) i d) := by
  have hle := hb.le
  refine ⟨(rot_mv d (by omega) (by omega)).wide (Nat.le_refl _) (by omega), fun p q h1 h2 h3 => ?_⟩
  by_cases e1 : q < i - 1
  · rw [rot_lo d h1 (by omega), rot_lo d (by omega) (by omega)]
    exact h.r _ _ (by omega) (by omega) (by omega)
  · by_cases e2 : q = i - 1
    · rw [rot_lo d h1 (by omega), rot_hi d (by omega) (by omega), show q - (i - (a + 1)) = a by omega]
      exact .inl (hb.yes _ (by omega) (by omega))
    · rw [rot_no (k := q) d (by omega) (by omega) (by omega)]
      by_cases e3 : p < i - 1
      · rw [rot_lo d h1 (by omega)]
        exact h.r _ _ (by omega) (by omega) (by omega)
      · by_cases e4 : p = i - 1
        · rw [rot_hi d (by omega) (by omega), show p - (i - (a + 1)) = a by omega]
          have := hb.no q (by omega) h3
          exact ltS_of (h.c a q (by omega) (by omega) (by omega) h3) (by omega)
        · rw [rot_no d (by omega) (by omega) (by omega)]
          exact h.r _ _ (by omega) h2 h3
theorem PreM.one2 {K : Pt → Int} {a m i : Nat} {d : Nat → Pt} (h : PreM K a m (m + 1) d) (hb : Bs a m i i (fun h => ¬ K (d m) < K (d h))) : PostM K a (m + 1) d (rot i m (m + 1) d) := by
  have hle := hb.le
  refine ⟨(rot_mv d (by omega) (by omega)).wide (by omega) (Nat.le_refl _), fun p q h1 h2 h3 => ?_⟩
  by_cases e1 : q < i
  · rw [rot_no d (by omega) (by omega) (by omega), rot_no d (by omega) (by omega) (by omega)]
    exact h.l _ _ h1 h2 (by omega)
  · by_cases e2 : q = i
    · rw [rot_no d (by omega) (by omega) (by omega), rot_lo d (by omega) (by omega), show q + (m - i) = m by omega]
      have := hb.yes p h1 (by omega)
      exact ltS_of (h.c p m h1 (by omega) (by omega) (by omega)) (by omega)
    · rw [rot_hi (k := q) d (by omega) (by omega)]
      by_cases e3 : p < i
      · rw [rot_no d (by omega) (by omega) (by omega)]
        exact h.l _ _ h1 (by omega) (by omega)
      · by_cases e4 : p = i
        · rw [rot_lo d (by omega) (by omega), show p + (m - i) = m by omega]
          exact .inl (Int.not_le.1 (fun hc => hb.no (q - (m + 1 - m)) (by omega) (by omega) (by show ¬ _ < _; omega)))
        · rw [rot_hi d (by omega) (by omega)]
          exact h.l _ _ (by omega) (by omega) (by omega)
/-- Where the search for the cut begins and ends. -/
def sLo (a m b : Nat) : Nat := if (a + b) / 2 < m then (a + b) / 2 + m - b else a
def sHi (a m b : Nat) : Nat := if (a + b) / 2 < m then (a + b) / 2 else m
theorem sLH {a m b : Nat} (h1 : a < m) (h2 : m < b) : a ≤ sLo a m b ∧ sLo a m b ≤ sHi a m b ∧ sHi a m b ≤ m ∧ sHi a m b ≤ (a + b) / 2 := by
  unfold sLo sHi; split <;> omega
theorem PreM.dn3 {K : Pt → Int} {a m b : Nat} {d : Nat → Pt} (h : PreM K a m b d) (h1 : a < m) (h2 : m < b) : Dn (sLo a m b) (sHi a m b) (fun c => ¬ K (d ((a + b) / 2 + m - 1 - c)) < K (d c)) := fun x y k1 k2 k3 hp => by
  have hp : ¬ K (d ((a + b) / 2 + m - 1 - y)) < K (d y) := hp
  show ¬ K (d ((a + b) / 2 + m - 1 - x)) < K (d x)
  have l : a ≤ x ∧ y < m ∧ m ≤ (a + b) / 2 + m - 1 - y ∧ (a + b) / 2 + m - 1 - x < b := by
    unfold sLo at k1; unfold sHi at k3
    split at k1 <;> split at k3 <;> omega
  have q1 := h.l.le l.1 k2 l.2.1
  have q2 := h.r.le l.2.2.1 (show (a + b) / 2 + m - 1 - y ≤ (a + b) / 2 + m - 1 - x by omega) l.2.2.2
  omega
/-- The cut of symmetric parts: both halves can be merged by themselves, and the first is below the second. -/
theorem PreM.cut {K : Pt → Int} {a m b s : Nat} {d : Nat → Pt} (h : PreM K a m b d) (h1 : a < m) (h2 : m < b) (hb : Bs (sLo a m b) (sHi a m b) s s (fun c => ¬ K (d ((a + b) / 2 + m - 1 - c)) < K (d c))) :
    ∀ e, e = rot s m ((a + b) / 2 + m - s) d → PreM K a s ((a + b) / 2) e ∧ PreM K ((a + b) / 2) ((a + b) / 2 + m - s) b e ∧ ∀ i j, a ≤ i → i < (a + b) / 2 → (a + b) / 2 ≤ j → j < b → ltS K (e i) (e j) := by
  intro e he
  obtain ⟨c, hc⟩ : ∃ c, c = (a + b) / 2 := ⟨_, rfl⟩
  have key : a ≤ s ∧ s ≤ m ∧ s ≤ c ∧ m ≤ c + m - s ∧ c + m - s ≤ b ∧ c < b ∧ (a < s → c + m - s < b → K (d (s - 1)) ≤ K (d (c + m - s))) ∧ (s < m → m < c + m - s → K (d (c + m - s - 1)) < K (d s)) := by
    have l := sLH h1 h2
    have hl := hb.le
    rw [← hc] at l
    have hbe : c + m - s ≤ b := by
      have : sLo a m b ≤ s := hb.le.1
      unfold sLo at this
      rw [← hc] at this
      split at this <;> omega
    refine ⟨by omega, by omega, by omega, by omega, hbe, by omega, fun k1 k2 => ?_, fun k1 k2 => ?_⟩
    · have y := hb.yes (s - 1) (by unfold sLo; rw [← hc]; split <;> omega) (by omega)
      have y : ¬ K (d ((a + b) / 2 + m - 1 - (s - 1))) < K (d (s - 1)) := y
      rw [← hc, show c + m - 1 - (s - 1) = c + m - s by omega] at y
      omega
    · have y := hb.no s (Nat.le_refl _) (by unfold sHi; rw [← hc]; split <;> omega)
      have y : ¬ ¬ K (d ((a + b) / 2 + m - 1 - s)) < K (d s) := y
      rw [← hc, show c + m - 1 - s = c + m - s - 1 by omega] at y
      omega
  rw [← hc]
  rw [← hc] at he
  clear hb
  obtain ⟨k1, k2, k3, k4, k5, k6, k7, k8⟩ := key
  obtain ⟨t, ht⟩ : ∃ t, t = c + m - s := ⟨_, rfl⟩
  rw [← ht] at he k4 k5 k7 k8 ⊢
  -- the four parts
  have p1 : ∀ i, a ≤ i → i < s → e i = d i := fun i _ hi => by rw [he, rot_no d k2 k4 (by omega)]
  have p2 : ∀ i, s ≤ i → i < c → e i = d (i + (m - s)) := fun i hi hj => by rw [he, rot_lo d hi (by omega)]
  have p3 : ∀ i, c ≤ i → i < t → e i = d (i - (t - m)) := fun i hi hj => by rw [he, rot_hi d (by omega) hj]
  have p4 : ∀ i, t ≤ i → i < b → e i = d i := fun i hi _ => by rw [he, rot_no d k2 k4 (by omega)]
  refine ⟨⟨fun i j g1 g2 g3 => ?_, fun i j g1 g2 g3 => ?_, fun i j g1 g2 g3 g4 => ?_⟩, ⟨fun i j g1 g2 g3 => ?_, fun i j g1 g2 g3 => ?_, fun i j g1 g2 g3 g4 => ?_⟩, fun i j g1 g2 g3 g4 => ?_⟩
  · rw [p1 i g1 (by omega), p1 j (by omega) g3]; exact h.l i j g1 g2 (by omega)
  · rw [p2 i g1 (by omega), p2 j (by omega) g3]; exact h.r _ _ (by omega) (by omega) (by omega)
  · rw [p1 i g1 g2, p2 j g3 g4]; exact h.c _ _ g1 (by omega) (by omega) (by omega)
  · rw [p3 i g1 (by omega), p3 j (by omega) g3]; exact h.l _ _ (by omega) (by omega) (by omega)
  · rw [p4 i g1 (by omega), p4 j (by omega) g3]; exact h.r _ _ (by omega) g2 g3
  · rw [p3 i g1 g2, p4 j g3 g4]; exact h.c _ _ (by omega) (by omega) (by omega) g4
  · by_cases e1 : i < s
    · rw [p1 i g1 e1]
      by_cases e2 : j < t
      · rw [p3 j g3 e2]; exact h.l _ _ g1 (by omega) (by omega)
      · rw [p4 j (by omega) g4]
        have u1 := h.l.le g1 (show i ≤ s - 1 by omega) (by omega)
        have u2 := h.r.le k4 (show t ≤ j by omega) g4
        have u3 := k7 (by omega) (by omega)
        exact ltS_of (h.c _ _ g1 (by omega) (by omega) g4) (by omega)
    · rw [p2 i (by omega) g2]
      by_cases e2 : j < t
      · rw [p3 j g3 e2]
        have u1 := h.r.le (show m ≤ i + (m - s) by omega) (show i + (m - s) ≤ t - 1 by omega) (by omega)
        have u2 := h.l.le k1 (show s ≤ j - (t - m) by omega) (by omega)
        have u3 := k8 (by omega) (by omega)
        exact .inl (by omega)
      · rw [p4 j (by omega) g4]; exact h.r _ _ (by omega) (by omega) g4
theorem PreM.left {K : Pt → Int} {a b s : Nat} {d : Nat → Pt} (h : PreM K a s b d) (hs : ¬ (a < s ∧ s < b)) (h1 : a ≤ s) (h2 : s ≤ b) : PostM K a b d d := by
  refine ⟨Mv.refl _ _ _, ?_⟩
  by_cases e : a = s
  · rw [e]; exact h.r
  · have : s = b := by omega
    rw [← this]; exact h.l
theorem PreM.past {K : Pt → Int} {a s b x y : Nat} {d e : Nat → Pt} (h : PreM K a s b d) (hs : a ≤ s) (hm : Mv x y d e) (hy : y ≤ a) : PreM K a s b e := by
  have o : ∀ i, a ≤ i → e i = d i := fun i hi => hm.out (.inr (by omega))
  exact ⟨fun i j g1 g2 g3 => by rw [o i g1, o j (by omega)]; exact h.l i j g1 g2 g3, fun i j g1 g2 g3 => by rw [o i (by omega), o j (by omega)]; exact h.r i j g1 g2 g3, fun i j g1 g2 g3 g4 => by rw [o i g1, o j (by omega)]; exact h.c i j g1 g2 g3 g4⟩
/-- Both halves merged. -/
theorem merged {K : Pt → Int} {a c b : Nat} {d e e1 e2 : Nat → Pt} (h0 : Mv a b d e) (hac : a ≤ c) (hcb : c ≤ b) (hf : ∀ i j, a ≤ i → i < c → c ≤ j → j < b → ltS K (e i) (e j)) (h1 : PostM K a c e e1) (h2 : PostM K c b e1 e2) : PostM K a b d e2 := by
  refine ⟨h0.trans ((h1.mv.wide (Nat.le_refl _) hcb).trans (h2.mv.wide hac (Nat.le_refl _))), fun i j g1 g2 g3 => ?_⟩
  by_cases k1 : j < c
  · rw [h2.mv.out (.inl (by omega)), h2.mv.out (.inl k1)]; exact h1.srt i j g1 g2 k1
  · by_cases k2 : c ≤ i
    · exact h2.srt i j k2 g2 g3
    · rw [h2.mv.out (i := i) (.inl (by omega))]
      obtain ⟨x, x1, x2, x3⟩ := h1.mv.at g1 (show i < c by omega)
      obtain ⟨y, y1, y2, y3⟩ := h2.mv.at (show c ≤ j by omega) g3
      rw [x3, y3, h1.mv.out (.inr y1)]
      exact hf x y x1 x2 y1 y2
/-! ### blocks -/
def Siz (s : Nat) : Prop := s = 20 ∨ s = 40 ∨ s = 80 ∨ s = 160
/-- Up to a the blocks of 20 are sorted. -/
structure Ph0 (K : Pt → Int) (a n : Nat) (d0 d : Nat → Pt) : Prop where
  mv : Mv 0 n d0 d
  one : ∀ i j, i < j → j < a → i / 20 = j / 20 → ltS K (d i) (d j)
  lo : ∀ i j, i < j → j < n → i / 20 < j / 20 → ltP (d i) (d j)
  hi : Asc2 a n d
theorem Ph0.start {K : Pt → Int} {n : Nat} {d : Nat → Pt} (h : Asc2 0 n d) : Ph0 K 0 n d d :=
  ⟨Mv.refl _ _ _, fun i j _ h2 => by omega, fun i j h1 h2 _ => h i j (Nat.zero_le _) h1 h2, h⟩
theorem Ph0.step {K : Pt → Int} {a b n : Nat} {d0 d e : Nat → Pt} (h : Ph0 K a n d0 d) (ha : a % 20 = 0) (hb : a ≤ b ∧ b ≤ a + 20 ∧ b ≤ n) (hb2 : b = a + 20 ∨ b = n) (g : PostM K a b d e) : Ph0 K b n d0 e := by
  refine ⟨h.mv.trans (g.mv.wide (Nat.zero_le _) hb.2.2), fun i j h1 h2 h3 => ?_, fun i j h1 h2 h3 => ?_, fun i j h1 h2 h3 => ?_⟩
  · by_cases k : a ≤ i
    · exact g.srt i j k h1 h2
    · rw [g.mv.out (.inl (by omega)), g.mv.out (.inl (by omega))]
      exact h.one i j h1 (by omega) h3
  · by_cases k1 : a ≤ i ∧ i < b
    · obtain ⟨x, x1, x2, x3⟩ := g.mv.at k1.1 k1.2
      rw [x3, g.mv.out (.inr (by omega))]
      exact h.lo x j (by omega) h2 (by omega)
    · rw [g.mv.out (i := i) (by omega)]
      by_cases k2 : a ≤ j ∧ j < b
      · obtain ⟨x, x1, x2, x3⟩ := g.mv.at k2.1 k2.2
        rw [x3]
        exact h.lo i x (by omega) (by omega) (by omega)
      · rw [g.mv.out (i := j) (by omega)]
        exact h.lo i j h1 h2 h3
  · rw [g.mv.out (.inr (by omega)), g.mv.out (.inr (by omega))]
    exact h.hi i j (by omega) h2 h3
/-- Up to a the blocks of 2 s are sorted, from there on those of s. -/
structure Phs (K : Pt → Int) (s a n : Nat) (d0 d : Nat → Pt) : Prop where
  mv : Mv 0 n d0 d
  two : ∀ i j, i < j → j < a → i / (2 * s) = j / (2 * s) → ltS K (d i) (d j)
  one : ∀ i j, a ≤ i → i < j → j < n → i / s = j / s → ltS K (d i) (d j)
  lo : ∀ i j, i < j → j < n → i / (2 * s) < j / (2 * s) → ltP (d i) (d j)
  hi : ∀ i j, a ≤ i → i < j → j < n → i / s < j / s → ltP (d i) (d j)
theorem Ph0.done {K : Pt → Int} {n : Nat} {d0 d : Nat → Pt} (h : Ph0 K n n d0 d) : Phs K 20 0 n d0 d :=
  ⟨h.mv, fun i j _ h2 => by omega, fun i j _ h1 h2 h3 => h.one i j h1 h2 h3, fun i j h1 h2 h3 => h.lo i j h1 h2 (by omega), fun i j _ h1 h2 h3 => h.lo i j h1 h2 h3⟩
theorem Phs.pre {K : Pt → Int} {s a b n : Nat} {d0 d : Nat → Pt} (h : Phs K s a n d0 d) (hs : Siz s) (ha : a % (2 * s) = 0) (hb : a + s ≤ b ∧ b ≤ a + 2 * s ∧ b ≤ n) : PreM K a (a + s) b d := by
  refine ⟨fun i j h1 h2 h3 => h.one i j h1 h2 (by omega) ?_, fun i j h1 h2 h3 => h.one i j (by omega) h2 (by omega) ?_, fun i j h1 h2 h3 h4 => h.hi i j h1 (by omega) (by omega) ?_⟩
  all_goals rcases hs with rfl | rfl | rfl | rfl <;> omega
theorem Phs.step {K : Pt → Int} {s a b n : Nat} {d0 d e : Nat → Pt} (h : Phs K s a n d0 d) (hs : Siz s) (ha : a % (2 * s) = 0) (hb : a ≤ b ∧ b ≤ a + 2 * s ∧ b ≤ n) (hb2 : b = a + 2 * s ∨ b = n) (g : PostM K a b d e) : Phs K s b n d0 e := by
  have dv : ∀ x y, a ≤ x → x < b → a ≤ y → y < b → x / (2 * s) = y / (2 * s) := fun x y h1 h2 h3 h4 => by
    rcases hs with rfl | rfl | rfl | rfl <;> omega
  have db : ∀ i j, i / (2 * s) < j / (2 * s) → ¬ (a ≤ i ∧ i < b ∧ a ≤ j ∧ j < b) := fun i j h1 h2 => by
    have := dv i j h2.1 h2.2.1 h2.2.2.1 h2.2.2.2; omega
  have dl : ∀ i j, i < a → a ≤ j → i / (2 * s) < j / (2 * s) := fun i j h1 h2 => by
    rcases hs with rfl | rfl | rfl | rfl <;> omega
  have ds : ∀ i j, i / s < j / s → i < j := fun i j h1 => by
    rcases hs with rfl | rfl | rfl | rfl <;> omega
  have d2 : ∀ i j, i / (2 * s) < j / (2 * s) → i < j := fun i j h1 => by
    rcases hs with rfl | rfl | rfl | rfl <;> omega
  refine ⟨h.mv.trans (g.mv.wide (Nat.zero_le _) hb.2.2), fun i j h1 h2 h3 => ?_, fun i j h1 h2 h3 h4 => ?_, fun i j h1 h2 h3 => ?_, fun i j h1 h2 h3 h4 => ?_⟩
  · by_cases k : a ≤ i
    · exact g.srt i j k h1 h2
    · by_cases k2 : a ≤ j
      · have := dl i j (by omega) k2; omega
      · rw [g.mv.out (.inl (by omega)), g.mv.out (.inl (by omega))]
        exact h.two i j h1 (by omega) h3
  · rw [g.mv.out (.inr (by omega)), g.mv.out (.inr (by omega))]
    exact h.one i j (by omega) h2 h3 h4
  · by_cases k1 : a ≤ i ∧ i < b
    · obtain ⟨x, x1, x2, x3⟩ := g.mv.at k1.1 k1.2
      have := dv i x k1.1 k1.2 x1 x2
      have := db i j h3
      rw [x3, g.mv.out (.inr (by omega))]
      exact h.lo x j (by omega) h2 (by omega)
    · rw [g.mv.out (i := i) (by omega)]
      by_cases k2 : a ≤ j ∧ j < b
      · obtain ⟨x, x1, x2, x3⟩ := g.mv.at k2.1 k2.2
        have := dv j x k2.1 k2.2 x1 x2
        rw [x3]
        have := d2 i x (by omega)
        exact h.lo i x (by omega) (by omega) (by omega)
      · rw [g.mv.out (i := j) (by omega)]
        exact h.lo i j h1 h2 h3
  · rw [g.mv.out (.inr (by omega)), g.mv.out (.inr (by omega))]
    exact h.hi i j (by omega) h2 h3 h4
/-- A last block alone. -/
theorem Phs.last {K : Pt → Int} {s a n : Nat} {d0 d : Nat → Pt} (h : Phs K s a n d0 d) (hs : Siz s) (ha : a % (2 * s) = 0) (h1 : a ≤ n) (h2 : n ≤ a + s) : Phs K s n n d0 d :=
  h.step hs ha ⟨h1, by omega, Nat.le_refl _⟩ (.inr rfl) ⟨Mv.refl _ _ _, fun i j g1 g2 g3 => h.one i j g1 g2 g3 (by rcases hs with rfl | rfl | rfl | rfl <;> omega)⟩
theorem Phs.next {K : Pt → Int} {s n : Nat} {d0 d : Nat → Pt} (h : Phs K s n n d0 d) (hs : Siz s) : Phs K (2 * s) 0 n d0 d :=
  ⟨h.mv, fun i j _ h2 => by omega, fun i j _ h1 h2 h3 => h.two i j h1 h2 h3, fun i j h1 h2 h3 => h.lo i j h1 h2 (by rcases hs with rfl | rfl | rfl | rfl <;> omega), fun i j _ h1 h2 h3 => h.lo i j h1 h2 h3⟩
theorem Phs.srt {K : Pt → Int} {s n : Nat} {d0 d : Nat → Pt} (h : Phs K s 0 n d0 d) (hn : n ≤ s) : Srt K 0 n d := fun i j h1 h2 h3 =>
  h.one i j h1 h2 h3 (by rw [Nat.div_eq_of_lt (by omega), Nat.div_eq_of_lt (by omega)])
theorem Mv.one {a : Nat} {d e : Nat → Pt} (h : Mv a (a + 1) d e) : e = d := by
  funext k
  by_cases hk : k = a
  · obtain ⟨j, h1, h2, h3⟩ := h.at (i := k) (by omega) (by omega)
    rw [h3, show j = k by omega]
  · exact h.out (by omega)
theorem InsO.done {K : Pt → Int} {a b i : Nat} {d e : Nat → Pt} (h : InsO K a i d e) (hab : a ≤ b) (h1 : b ≤ i) (h2 : i ≤ b ∨ i = a + 1) : PostM K a b d e := by
  by_cases k : i = b
  · rw [← k]; exact ⟨h.mv, h.srt⟩
  · have e1 : i = a + 1 := by omega
    rw [e1] at h
    have := h.mv.one
    rw [this]
    exact ⟨Mv.refl _ _ _, fun x y g1 g2 g3 => by omega⟩
end Go.Proofs.YtnddfdhfefconaaGreatDoor
namespace Go.Proofs.YtnddfdhfefconaaGreatDoor
open Go.RowKit

def pq (x y : Nat) : Pt := ⟨(x : Int), (y : Int)⟩
/-- Two groups become one: the program's way and the reference's. -/
def mrg (c : Nat → Nat) (p : Pt) : Nat → Nat := fun i => if c i = c p.x.toNat then c p.y.toNat else c i
def mrgS (c : Nat → Nat) (p : Pt) : Nat → Nat := fun i => if c i = c p.y.toNat then c p.x.toNat else c i
/-- Edges taken in order if they join two groups. -/
def krS (c : Nat → Nat) : List Pt → List Pt
  | [] => []
  | p :: L => if c p.x.toNat = c p.y.toNat then krS c L else p :: krS (mrg c p) L
def krC (c : Nat → Nat) : List Pt → Nat → Nat
  | [] => c
  | p :: L => krC (mrg c p) L
theorem mrg_eq {c : Nat → Nat} {p : Pt} (h : c p.x.toNat = c p.y.toNat) : mrg c p = c := by
  funext i; unfold mrg; split <;> omega
theorem krS_snoc (p : Pt) : ∀ (L : List Pt) (c : Nat → Nat), krS c (L ++ [p]) = krS c L ++ (if krC c L p.x.toNat = krC c L p.y.toNat then [] else [p])
  | [], c => by
    show krS c [p] = [] ++ _
    rw [List.nil_append]
    unfold krS krC
    split <;> rfl
  | q :: L, c => by
    rw [List.cons_append, krS, krS, krC]
    split
    · rename_i h; rw [krS_snoc p L, mrg_eq h]
    · rw [krS_snoc p L]; rfl
theorem krC_snoc (p : Pt) : ∀ (L : List Pt) (c : Nat → Nat), krC c (L ++ [p]) = mrg (krC c L) p
  | [], c => rfl
  | q :: L, c => by rw [List.cons_append, krC, krC, krC_snoc p L]
theorem krS_sub {p : Pt} : ∀ (L : List Pt) (c : Nat → Nat), p ∈ krS c L → p ∈ L
  | [], c, h => by cases h
  | q :: L, c, h => by
    unfold krS at h
    split at h
    · exact List.mem_cons_of_mem _ (krS_sub L _ h)
    · rcases List.mem_cons.1 h with rfl | h
      · exact List.mem_cons_self
      · exact List.mem_cons_of_mem _ (krS_sub L _ h)
theorem krS_len : ∀ (L : List Pt) (c : Nat → Nat), (krS c L).length ≤ L.length
  | [], c => Nat.le_refl _
  | q :: L, c => by
    unfold krS
    split
    · exact Nat.le_succ_of_le (krS_len L _)
    · rw [List.length_cons, List.length_cons]; exact Nat.succ_le_succ (krS_len L _)
/-! ### the same groups -/
def SameG (c d : Nat → Nat) : Prop := ∀ i k, c i = c k ↔ d i = d k
theorem SameG.one {c d : Nat → Nat} (h : SameG c d) (p : Pt) : SameG (mrg c p) (mrgS d p) := by
  intro i k
  have h1 := h i k
  have h2 := h i p.x.toNat
  have h3 := h i p.y.toNat
  have h4 := h k p.x.toNat
  have h5 := h k p.y.toNat
  have h6 := h p.x.toNat p.y.toNat
  unfold mrg mrgS
  generalize p.x.toNat = x at *
  generalize p.y.toNat = y at *
  generalize c i = a1 at *
  generalize c k = a2 at *
  generalize c x = a3 at *
  generalize c y = a4 at *
  generalize d i = b1 at *
  generalize d k = b2 at *
  generalize d x = b3 at *
  generalize d y = b4 at *
  repeat' split
  all_goals omega
theorem SameG.both {c d : Nat → Nat} (h : SameG c d) (p : Pt) : SameG (mrg c p) (mrg d p) := by
  intro i k
  have h1 := h i k
  have h2 := h i p.x.toNat
  have h3 := h i p.y.toNat
  have h4 := h k p.x.toNat
  have h5 := h k p.y.toNat
  have h6 := h p.x.toNat p.y.toNat
  unfold mrg
  generalize p.x.toNat = x at *
  generalize p.y.toNat = y at *
  generalize c i = a1 at *
  generalize c k = a2 at *
  generalize c x = a3 at *
  generalize c y = a4 at *
  generalize d i = b1 at *
  generalize d k = b2 at *
  generalize d x = b3 at *
  generalize d y = b4 at *
  repeat' split
  all_goals omega
theorem SameG.refl (c : Nat → Nat) : SameG c c := fun _ _ => Iff.rfl
theorem krS_same : ∀ (L : List Pt) {c d : Nat → Nat}, SameG c d → krS c L = krS d L
  | [], c, d, h => rfl
  | p :: L, c, d, h => by
    unfold krS
    have h1 := h p.x.toNat p.y.toNat
    by_cases e : c p.x.toNat = c p.y.toNat
    · rw [if_pos e, if_pos (h1.1 e)]; exact krS_same L h
    · rw [if_neg e, if_neg (fun x => e (h1.2 x)), krS_same L (h.both p)]
/-- What is joined stays joined. -/
theorem mrg_keep {c : Nat → Nat} {i k : Nat} (p : Pt) (h : c i = c k) : mrg c p i = mrg c p k := by unfold mrg; rw [h]
theorem mrg_two (c : Nat → Nat) (p : Pt) : mrg c p p.x.toNat = mrg c p p.y.toNat := by
  unfold mrg; rw [if_pos rfl]; split <;> rfl
theorem krS_skip : ∀ (L M : List Pt) (c : Nat → Nat), (∀ p ∈ L, c p.x.toNat = c p.y.toNat) → krS c (L ++ M) = krS c M
  | [], M, c, _ => rfl
  | p :: L, M, c, h => by
    rw [List.cons_append, krS, if_pos (h p List.mem_cons_self)]
    exact krS_skip L M c (fun q hq => h q (List.mem_cons_of_mem _ hq))
/-- The smallest edge that joins two groups is the next one taken. -/
theorem krS_best {K : Pt → Int} {L : List Pt} (hs : L.Pairwise (ltS K)) {c : Nat → Nat} {p : Pt} (hp : p ∈ L) (hc : c p.x.toNat ≠ c p.y.toNat) (hb : ∀ q ∈ L, c q.x.toNat ≠ c q.y.toNat → q = p ∨ ltS K p q) :
    krS c L = p :: krS (mrg c p) L := by
  obtain ⟨L1, L2, rfl⟩ := List.append_of_mem hp
  rw [List.pairwise_append, List.pairwise_cons] at hs
  have h1 : ∀ q ∈ L1, c q.x.toNat = c q.y.toNat := fun q hq => by
    by_cases e : c q.x.toNat = c q.y.toNat
    · exact e
    · have l := hs.2.2 q hq p List.mem_cons_self
      rcases hb q (List.mem_append_left _ hq) e with rfl | g
      · exact absurd l (ltS_as l)
      · exact absurd l (ltS_as g)
  rw [krS_skip L1 _ c h1, krS_skip L1 _ (mrg c p) (fun q hq => mrg_keep p (h1 q hq))]
  rw [krS, if_neg hc, krS, if_pos (mrg_two c p)]
theorem krS_end {L : List Pt} {c : Nat → Nat} (h : ∀ p ∈ L, c p.x.toNat = c p.y.toNat) : krS c L = [] := by
  have := krS_skip L [] c h
  rwa [List.append_nil] at this
/-! ### how many groups -/
def fixN (c : Nat → Nat) : Nat → Nat
  | 0 => 0
  | n + 1 => fixN c n + if c n = n then 1 else 0
theorem fix_id : ∀ n, fixN id n = n
  | 0 => rfl
  | n + 1 => by
    show fixN id n + (if n = n then 1 else 0) = n + 1
    rw [fix_id n, if_pos rfl]
theorem fix_drop {c d : Nat → Nat} {x : Nat} (hx : c x = x) (hd : d x ≠ x) (h : ∀ l, l ≠ x → (d l = l ↔ c l = l)) : ∀ n, fixN d n + (if x < n then 1 else 0) = fixN c n
  | 0 => by simp [fixN]
  | n + 1 => by
    have ih := fix_drop hx hd h n
    unfold fixN
    by_cases e : n = x
    · subst e
      rw [if_neg hd, if_pos hx, if_pos (by omega)]
      rw [if_neg (by omega)] at ih
      omega
    · have := h n e
      by_cases g : c n = n
      · rw [if_pos g, if_pos (this.2 g)]
        by_cases l : x < n
        · rw [if_pos l] at ih; rw [if_pos (by omega)]; omega
        · rw [if_neg l] at ih; rw [if_neg (by omega)]; omega
      · rw [if_neg g, if_neg (fun z => g (this.1 z))]
        by_cases l : x < n
        · rw [if_pos l] at ih; rw [if_pos (by omega)]; omega
        · rw [if_neg l] at ih; rw [if_neg (by omega)]; omega
theorem fix_one {c : Nat → Nat} {i : Nat} (h : c i = i) : ∀ n, i < n → 1 ≤ fixN c n
  | 0, hi => by omega
  | n + 1, hi => by
    unfold fixN
    by_cases e : i = n
    · subst e; rw [if_pos h]; omega
    · have := fix_one h n (by omega); omega
theorem fix_two {c : Nat → Nat} {i k : Nat} (h : c i = i) (g : c k = k) (hik : i < k) : ∀ n, k < n → 2 ≤ fixN c n
  | 0, hi => by omega
  | n + 1, hi => by
    unfold fixN
    by_cases e : k = n
    · subst e; rw [if_pos g]; have := fix_one h k hik; omega
    · have := fix_two h g hik n (by omega); omega
theorem fix_get1 {c : Nat → Nat} : ∀ n, 1 ≤ fixN c n → ∃ i, i < n ∧ c i = i
  | 0, h => by unfold fixN at h; omega
  | n + 1, h => by
    unfold fixN at h
    by_cases e : c n = n
    · exact ⟨n, by omega, e⟩
    · rw [if_neg e] at h
      obtain ⟨i, h1, h2⟩ := fix_get1 n h
      exact ⟨i, by omega, h2⟩
theorem fix_get2 {c : Nat → Nat} : ∀ n, 2 ≤ fixN c n → ∃ i k, i < k ∧ k < n ∧ c i = i ∧ c k = k
  | 0, h => by unfold fixN at h; omega
  | n + 1, h => by
    unfold fixN at h
    by_cases e : c n = n
    · rw [if_pos e] at h
      obtain ⟨i, h1, h2⟩ := fix_get1 (c := c) n (by omega)
      exact ⟨i, n, h1, by omega, h2, e⟩
    · rw [if_neg e] at h
      obtain ⟨i, k, h1, h2, h3⟩ := fix_get2 n h
      exact ⟨i, k, h1, by omega, h3⟩
/-- A group is named after one of its own. -/
structure Rep (n : Nat) (c : Nat → Nat) : Prop where
  rep : ∀ i, c (c i) = c i
  lt : ∀ i, i < n → c i < n
theorem Rep.id (n : Nat) : Rep n id := ⟨fun _ => rfl, fun _ h => h⟩
theorem Rep.next {n : Nat} {c : Nat → Nat} (h : Rep n c) {p : Pt} (h1 : p.x.toNat < n) (h2 : p.y.toNat < n) : Rep n (mrg c p) := by
  refine ⟨fun i => ?_, fun i hi => ?_⟩
  · unfold mrg
    have := h.rep
    by_cases e : c i = c p.x.toNat
    · rw [if_pos e, this]; split <;> rfl
    · rw [if_neg e, this, if_neg e]
  · unfold mrg; split
    · exact h.lt _ h2
    · exact h.lt _ hi
theorem Rep.nextS {n : Nat} {c : Nat → Nat} (h : Rep n c) {p : Pt} (h1 : p.x.toNat < n) (h2 : p.y.toNat < n) : Rep n (mrgS c p) := by
  refine ⟨fun i => ?_, fun i hi => ?_⟩
  · unfold mrgS
    have := h.rep
    by_cases e : c i = c p.y.toNat
    · rw [if_pos e, this]; split <;> rfl
    · rw [if_neg e, this, if_neg e]
  · unfold mrgS; split
    · exact h.lt _ h1
    · exact h.lt _ hi
theorem Rep.dropS {n : Nat} {c : Nat → Nat} (h : Rep n c) {p : Pt} (h2 : p.y.toNat < n) (hc : c p.x.toNat ≠ c p.y.toNat) : fixN (mrgS c p) n + 1 = fixN c n := by
  have := fix_drop (c := c) (d := mrgS c p) (x := c p.y.toNat) (h.rep _) (by unfold mrgS; rw [h.rep, if_pos rfl]; exact hc) (fun l hl => by
    unfold mrgS
    by_cases e : c l = c p.y.toNat
    · rw [if_pos e]
      constructor
      · intro g; rw [← g, h.rep] at e; exact absurd e hc
      · intro g; rw [g] at e; exact absurd e hl
    · rw [if_neg e]) n
  rwa [if_pos (h.lt _ h2)] at this
theorem Rep.drop {n : Nat} {c : Nat → Nat} (h : Rep n c) {p : Pt} (h1 : p.x.toNat < n) (hc : c p.x.toNat ≠ c p.y.toNat) : fixN (mrg c p) n + 1 = fixN c n := by
  have := fix_drop (c := c) (d := mrg c p) (x := c p.x.toNat) (h.rep _) (by unfold mrg; rw [h.rep, if_pos rfl]; exact fun e => hc e.symm) (fun l hl => by
    unfold mrg
    by_cases e : c l = c p.x.toNat
    · rw [if_pos e]
      constructor
      · intro g; rw [← g, h.rep] at e; exact absurd e.symm hc
      · intro g; rw [g] at e; exact absurd e hl
    · rw [if_neg e]) n
  rwa [if_pos (h.lt _ h1)] at this
theorem krS_few {n : Nat} (h0 : 0 < n) : ∀ (L : List Pt) (c : Nat → Nat), Rep n c → (∀ p ∈ L, p.x.toNat < n ∧ p.y.toNat < n) → (krS c L).length + 1 ≤ fixN c n
  | [], c, h, _ => fix_one (h.rep 0) n (h.lt 0 h0)
  | p :: L, c, h, hp => by
    have h1 := hp p List.mem_cons_self
    unfold krS
    split
    · exact krS_few h0 L c h (fun q hq => hp q (List.mem_cons_of_mem _ hq))
    · rename_i e
      have := krS_few h0 L (mrg c p) (h.next h1.1 h1.2) (fun q hq => hp q (List.mem_cons_of_mem _ hq))
      have := h.drop h1.1 e
      rw [List.length_cons]; omega
/-! ### the reference's tree -/
/-- These edges have been taken; these are the groups. -/
structure RefT (n : Nat) (L out : List Pt) (c : Nat → Nat) : Prop where
  eq : krS id L = out ++ krS c L
  rep : Rep n c
  cnt : fixN c n + out.length = n
theorem RefT.start (n : Nat) (L : List Pt) : RefT n L [] id := ⟨rfl, Rep.id n, by rw [fix_id]; rfl⟩
theorem RefT.step {K : Pt → Int} {n : Nat} {L out : List Pt} {c : Nat → Nat} (h : RefT n L out c) (hs : L.Pairwise (ltS K)) {p : Pt} (hp : p ∈ L) (h1 : p.x.toNat < n) (h2 : p.y.toNat < n) (hc : c p.x.toNat ≠ c p.y.toNat)
    (hb : ∀ q ∈ L, c q.x.toNat ≠ c q.y.toNat → q = p ∨ ltS K p q) : RefT n L (out ++ [p]) (mrgS c p) := by
  refine ⟨?_, h.rep.nextS h1 h2, ?_⟩
  · rw [h.eq, krS_best hs hp hc hb, krS_same L ((SameG.refl c).one p), List.append_assoc]; rfl
  · have := h.rep.dropS h2 hc
    have := h.cnt
    rw [List.length_append, List.length_singleton]; omega
theorem RefT.stop {n : Nat} {L out : List Pt} {c : Nat → Nat} (h : RefT n L out c) (hL : ∀ p ∈ L, p.x.toNat < n ∧ p.y.toNat < n) (hn : n ≤ out.length + 1) : krS id L = out := by
  have e := krS_end (L := L) (c := c) (fun p hp => by
    obtain ⟨h1, h2⟩ := hL p hp
    by_cases g : c p.x.toNat = c p.y.toNat
    · exact g
    · have r1 := h.rep.rep p.x.toNat
      have r2 := h.rep.rep p.y.toNat
      have l1 := h.rep.lt _ h1
      have l2 := h.rep.lt _ h2
      have := h.cnt
      rcases Nat.lt_or_gt_of_ne g with g | g
      · have := fix_two r1 r2 g n l2; omega
      · have := fix_two r2 r1 g n l1; omega)
  rw [h.eq, e, List.append_nil]
theorem RefT.more {n : Nat} {L out : List Pt} {c : Nat → Nat} (h : RefT n L out c) (hn : out.length + 1 < n) : ∃ i k, i < k ∧ k < n ∧ c i ≠ c k := by
  have := h.cnt
  obtain ⟨i, k, h1, h2, h3, h4⟩ := fix_get2 (c := c) n (by omega)
  exact ⟨i, k, h1, h2, by omega⟩
theorem RefT.len {n : Nat} {L out : List Pt} {c : Nat → Nat} (h : RefT n L out c) (h0 : 0 < n) : out.length + 1 ≤ n := by
  have := h.cnt
  have := fix_one (h.rep.rep 0) n (h.rep.lt 0 h0)
  omega
/-! ### the smallest edge -/
/-- Of the pairs up to (i, k) the smallest that joins two groups; -1 if none does. -/
def BsT (K : Pt → Int) (c : Nat → Nat) (n i k : Nat) (A B : Int) : Prop :=
  (A = -1 ∧ B = 0 ∧ ∀ x y, x < y → y < n → (x < i ∨ (x = i ∧ y < k)) → c x = c y) ∨
  (∃ a b : Nat, A = a ∧ B = b ∧ a < b ∧ b < n ∧ (a < i ∨ (a = i ∧ b < k)) ∧ c a ≠ c b ∧ ∀ x y, x < y → y < n → (x < i ∨ (x = i ∧ y < k)) → c x ≠ c y → pq x y = pq a b ∨ ltS K (pq a b) (pq x y))
theorem BsT.start (K : Pt → Int) (c : Nat → Nat) (n : Nat) : BsT K c n 0 1 (-1) 0 := .inl ⟨rfl, rfl, fun x y h1 h2 h3 => by omega⟩
theorem BsT.row {K : Pt → Int} {c : Nat → Nat} {n i : Nat} {A B : Int} (h : BsT K c n i n A B) : BsT K c n (i + 1) (i + 1 + 1) A B := by
  rcases h with ⟨h1, h2, h3⟩ | ⟨a, b, h1, h2, h3, h4, h5, h6, h7⟩
  · exact .inl ⟨h1, h2, fun x y g1 g2 g3 => h3 x y g1 g2 (by omega)⟩
  · exact .inr ⟨a, b, h1, h2, h3, h4, by omega, h6, fun x y g1 g2 g3 g4 => h7 x y g1 g2 (by omega) g4⟩
theorem BsT.no {K : Pt → Int} {c : Nat → Nat} {n i k : Nat} {A B : Int} (h : BsT K c n i k A B) (he : c i = c k ∨ (0 ≤ A ∧ ¬ K (pq i k) < K (pq A.toNat B.toNat))) : BsT K c n i (k + 1) A B := by
  rcases h with ⟨h1, h2, h3⟩ | ⟨a, b, h1, h2, h3, h4, h5, h6, h7⟩
  · refine .inl ⟨h1, h2, fun x y g1 g2 g3 => ?_⟩
    by_cases e : x = i ∧ y = k
    · rw [e.1, e.2]
      rcases he with he | ⟨he, _⟩
      · exact he
      · omega
    · exact h3 x y g1 g2 (by omega)
  · refine .inr ⟨a, b, h1, h2, h3, h4, by omega, h6, fun x y g1 g2 g3 g4 => ?_⟩
    by_cases e : x = i ∧ y = k
    · rw [e.1, e.2] at g4 ⊢
      rcases he with he | ⟨_, he⟩
      · exact absurd he g4
      · rw [h1, h2] at he
        rw [show ((a : Nat) : Int).toNat = a from rfl, show ((b : Nat) : Int).toNat = b from rfl] at he
        refine .inr (ltS_of ?_ (by omega))
        unfold ltP pq
        simp only
        omega
    · exact h7 x y g1 g2 (by omega) g4
theorem BsT.yes {K : Pt → Int} {c : Nat → Nat} {n i k : Nat} {A B : Int} (h : BsT K c n i k A B) (hik : i < k) (hk : k < n) (hc : c i ≠ c k) (he : A < 0 ∨ K (pq i k) < K (pq A.toNat B.toNat)) : BsT K c n i (k + 1) (i : Int) (k : Int) := by
  refine .inr ⟨i, k, rfl, rfl, hik, hk, by omega, hc, fun x y g1 g2 g3 g4 => ?_⟩
  by_cases e : x = i ∧ y = k
  · rw [e.1, e.2]; exact .inl rfl
  · rcases h with ⟨h1, h2, h3⟩ | ⟨a, b, h1, h2, h3, h4, h5, h6, h7⟩
    · exact absurd (h3 x y g1 g2 (by omega)) g4
    · rw [h1, h2] at he
      rw [show ((a : Nat) : Int).toNat = a from rfl, show ((b : Nat) : Int).toNat = b from rfl] at he
      have he : K (pq i k) < K (pq a b) := by omega
      rcases h7 x y g1 g2 (by omega) g4 with g | g
      · rw [g]; exact .inr (.inl he)
      · exact .inr (ltS_tr (.inl he) g)
/-- The pairs, sorted. -/
structure SrtL (K : Pt → Int) (n : Nat) (L : List Pt) : Prop where
  srt : L.Pairwise (ltS K)
  mem : ∀ p, p ∈ L ↔ ∃ i k : Nat, i < k ∧ k < n ∧ p = pq i k
theorem SrtL.lt {K : Pt → Int} {n : Nat} {L : List Pt} (h : SrtL K n L) : ∀ p ∈ L, p.x.toNat < n ∧ p.y.toNat < n := fun p hp => by
  obtain ⟨i, k, h1, h2, rfl⟩ := (h.mem p).1 hp
  show ((i : Nat) : Int).toNat < n ∧ ((k : Nat) : Int).toNat < n
  omega
/-- The reference's step. -/
theorem RefT.best {K : Pt → Int} {n : Nat} {L out : List Pt} {c : Nat → Nat} {A B : Int} (h : RefT n L out c) (hL : SrtL K n L) (hn : out.length + 1 < n) (hb : BsT K c n n (n + 1) A B) :
    ∃ a b : Nat, A = a ∧ B = b ∧ a < b ∧ b < n ∧ c a ≠ c b ∧ RefT n L (out ++ [pq a b]) (mrgS c (pq a b)) := by
  obtain ⟨i, k, h1, h2, h3⟩ := h.more hn
  rcases hb with ⟨_, _, g⟩ | ⟨a, b, g1, g2, g3, g4, g5, g6, g7⟩
  · exact absurd (g i k h1 h2 (by omega)) h3
  · refine ⟨a, b, g1, g2, g3, g4, g6, h.step hL.srt ((hL.mem _).2 ⟨a, b, g3, g4, rfl⟩) (show ((a : Nat) : Int).toNat < n by omega) (show ((b : Nat) : Int).toNat < n by omega) g6 (fun q hq hc => ?_)⟩
    obtain ⟨x, y, k1, k2, rfl⟩ := (hL.mem q).1 hq
    exact g7 x y k1 k2 (by omega) hc
/-! ### the program's forest -/
/-- rt: where the way up ends; h: how far it is. -/
structure Fst (n : Nat) (f rt h : Nat → Nat) : Prop where
  lt : ∀ i, i < n → f i < n
  up : ∀ i, i < n → rt (f i) = rt i
  top : ∀ i, i < n → f i = i → rt i = i
  go : ∀ i, i < n → f i ≠ i → h (f i) < h i
  rep : Rep n rt
  fix : ∀ i, i < n → rt i = i → f i = i
theorem Fst.id (n : Nat) : Fst n id id (fun _ => 0) := ⟨fun _ h => h, fun _ _ => rfl, fun _ _ _ => rfl, fun _ _ h => absurd rfl h, Rep.id n, fun _ _ _ => rfl⟩
theorem Fst.join {n : Nat} {f rt h : Nat → Nat} (F : Fst n f rt h) {p : Pt} (h1 : p.x.toNat < n) (h2 : p.y.toNat < n) :
    ∃ h', Fst n (fun i => if i = rt p.x.toNat then rt p.y.toNat else f i) (mrg rt p) h' := by
  obtain ⟨a, ha⟩ : ∃ a, a = rt p.x.toNat := ⟨_, rfl⟩
  obtain ⟨b, hb⟩ : ∃ b, b = rt p.y.toNat := ⟨_, rfl⟩
  have a1 : a < n := by rw [ha]; exact F.rep.lt _ h1
  have b1 : b < n := by rw [hb]; exact F.rep.lt _ h2
  have a2 : rt a = a := by rw [ha]; exact F.rep.rep _
  have b2 : rt b = b := by rw [hb]; exact F.rep.rep _
  have M : ∀ i, mrg rt p i = if rt i = a then b else rt i := fun i => by rw [ha, hb]; rfl
  have R := F.rep.next h1 h2
  rw [← ha, ← hb]
  refine ⟨fun i => if rt i = a ∧ a ≠ b then h i + h b + 1 else h i, fun i hi => ?_, fun i hi => ?_, fun i hi hf => ?_, fun i hi hf => ?_, R, fun i hi hr => ?_⟩
  · show (if i = a then b else f i) < n
    split
    · exact b1
    · exact F.lt i hi
  · show mrg rt p (if i = a then b else f i) = mrg rt p i
    rw [M, M]
    by_cases e : i = a
    · rw [if_pos e, e, a2, if_pos rfl, b2]; split <;> rfl
    · rw [if_neg e, F.up i hi]
  · rw [M]
    replace hf : (if i = a then b else f i) = i := hf
    by_cases e : i = a
    · rw [if_pos e] at hf; rw [e, a2, if_pos rfl, hf, e]
    · rw [if_neg e] at hf
      have := F.top i hi hf
      rw [this, if_neg e]
  · replace hf : (if i = a then b else f i) ≠ i := hf
    show (if rt (if i = a then b else f i) = a ∧ a ≠ b then h (if i = a then b else f i) + h b + 1 else h (if i = a then b else f i)) < (if rt i = a ∧ a ≠ b then h i + h b + 1 else h i)
    by_cases e : i = a
    · rw [if_pos e] at hf ⊢
      rw [e] at hf ⊢
      rw [a2, b2, if_neg (fun z => z.2 z.1.symm), if_pos ⟨rfl, fun z => hf z.symm⟩]
      omega
    · rw [if_neg e] at hf ⊢
      have := F.go i hi hf
      rw [F.up i hi]
      split <;> omega
  · rw [M] at hr
    show (if i = a then b else f i) = i
    by_cases e : i = a
    · rw [if_pos e]
      rw [e, a2, if_pos rfl] at hr; rw [hr, e]
    · rw [if_neg e]
      by_cases g : rt i = a
      · rw [if_pos g] at hr
        have : rt i = i := by rw [← hr, b2]
        rw [this] at g; exact absurd g e
      · rw [if_neg g] at hr; exact F.fix i hi hr
end Go.Proofs.YtnddfdhfefconaaGreatDoor
