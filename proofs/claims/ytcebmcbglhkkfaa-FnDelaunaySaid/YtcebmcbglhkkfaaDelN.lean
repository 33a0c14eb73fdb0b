
import Derived.Test.YtcebmcbglhkkfaaDelM
/- Flips in a list of triangles: what is found first, what it keeps, that they end, that at the end no point is inside a circle. No program in sight. -/
set_option linter.unusedVariables false
set_option linter.unusedSimpArgs false
namespace Go.Proofs.Ytcebmcbglhkkfaa
open Go.RowKit

/-! ### the first that is found -/
def fnd {α : Type} (n : Nat) (f : Nat → Option α) : Option α := (List.range n).findSome? f
theorem fnd_succ {α : Type} (n : Nat) (f : Nat → Option α) : fnd (n + 1) f = (fnd n f).or (f n) := by
  unfold fnd
  rw [List.range_succ, List.findSome?_append]
  congr 1
  cases h : f n <;> simp [h]
theorem fnd_none {α : Type} {f : Nat → Option α} : ∀ {n : Nat}, (∀ j, j < n → f j = none) → fnd n f = none
  | 0, _ => rfl
  | n + 1, h => by rw [fnd_succ, fnd_none fun j hj => h j (by omega), h n (by omega)]; rfl
theorem fnd_some {α : Type} {f : Nat → Option α} {v : α} {i : Nat} : ∀ {n : Nat}, i < n → f i = some v → (∀ j, j < i → f j = none) → fnd n f = some v
  | 0, h, _, _ => by omega
  | n + 1, h, hi, hl => by
    rw [fnd_succ]
    by_cases e : i = n
    · subst e; rw [fnd_none hl, hi]; rfl
    · rw [fnd_some (n := n) (by omega) hi hl]; rfl
theorem fnd_at {α : Type} {f : Nat → Option α} {v : α} : ∀ {n : Nat}, fnd n f = some v → ∃ i, i < n ∧ f i = some v
  | 0, h => by cases h
  | n + 1, h => by
    rw [fnd_succ] at h
    cases e : fnd n f with
    | none => rw [e] at h; exact ⟨n, by omega, h⟩
    | some u =>
      rw [e] at h
      obtain ⟨i, hi, hh⟩ := fnd_at e
      exact ⟨i, by omega, by rw [hh]; exact h⟩
theorem fnd_all {α : Type} {f : Nat → Option α} {n : Nat} (h : fnd n f = none) {j : Nat} (hj : j < n) : f j = none := by
  cases e : f j with
  | none => rfl
  | some v =>
    exfalso
    obtain ⟨i, hi, hl⟩ := lst_ex (Q := fun i => f i ≠ none) ⟨j, by rw [e]; simp⟩
    have hin : i < n := by
      rcases Nat.lt_or_ge j i with c | c
      · exact absurd (by rw [e]; simp) (hl j c)
      · omega
    cases e2 : f i with
    | none => exact hi e2
    | some u =>
      have := fnd_some hin e2 (fun m hm => by have := hl m hm; simpa using this)
      rw [h] at this; cases this

/-! ### lists of triangles -/
def gT (T : List Tri3) (i : Nat) : Tri3 := T.getD i default
theorem gT_lt {T : List Tri3} {i : Nat} (h : i < T.length) : gT T i = T[i] := by unfold gT; rw [List.getD_eq_getElem?_getD, List.getElem?_eq_getElem h]; rfl
theorem gT_mem {T : List Tri3} {i : Nat} (h : i < T.length) : gT T i ∈ T := by rw [gT_lt h]; exact List.getElem_mem h
theorem gT_of_mem {T : List Tri3} {t : Tri3} (h : t ∈ T) : ∃ i, i < T.length ∧ gT T i = t := by
  obtain ⟨i, hi, rfl⟩ := List.getElem_of_mem h
  exact ⟨i, hi, gT_lt hi⟩
theorem gT_set {T : List Tri3} {i k : Nat} (t : Tri3) (hk : k < T.length) : gT (T.set i t) k = if i = k then t else gT T k := by
  rw [gT_lt (by rw [List.length_set]; exact hk), gT_lt hk, List.getElem_set]
def smT (g : Tri3 → Int) : List Tri3 → Int
  | [] => 0
  | t :: T => g t + smT g T
theorem smT_set (g : Tri3 → Int) (t : Tri3) : ∀ (T : List Tri3) (i : Nat), i < T.length → smT g (T.set i t) = smT g T - g (gT T i) + g t
  | [], i, h => by simp at h
  | x :: T, 0, _ => by
    show g t + smT g T = g x + smT g T - g x + g t
    omega
  | x :: T, i + 1, h => by
    have ih := smT_set g t T i (by simpa using h)
    show g x + smT g (T.set i t) = g x + smT g T - g (gT T i) + g t
    omega
theorem TF_sm (F : Nat → Nat → Int) : ∀ T, TF F T = smT (sdF F) T
  | [] => rfl
  | t :: T => by rw [TF, TF_sm F T]; rfl
theorem smT_nn {g : Tri3 → Int} : ∀ {T : List Tri3}, (∀ t ∈ T, 0 ≤ g t) → 0 ≤ smT g T
  | [], _ => Int.le_refl _
  | t :: T, h => by
    have := smT_nn (T := T) fun u hu => h u (List.mem_cons_of_mem _ hu)
    have := h t List.mem_cons_self
    show 0 ≤ g t + smT g T
    omega
theorem smT_ge {g : Tri3 → Int} : ∀ {T : List Tri3} {t : Tri3}, t ∈ T → (∀ t ∈ T, 0 ≤ g t) → g t ≤ smT g T
  | x :: T, t, ht, h => by
    have h1 := smT_nn (T := T) fun u hu => h u (List.mem_cons_of_mem _ hu)
    have h2 := h x List.mem_cons_self
    show g t ≤ g x + smT g T
    rcases List.mem_cons.1 ht with e | e
    · subst e; omega
    · have := smT_ge (T := T) e fun u hu => h u (List.mem_cons_of_mem _ hu)
      omega

/-! ### what is flipped -/
def hitB (ps : List Pt) (T : List Tri3) (i s k r : Nat) : Bool :=
  decide (cor (gT T k) r = cor (gT T i) (s + 1)) && decide (cor (gT T k) (r + 1) = cor (gT T i) s) && decide (0 < icD (gp ps (cor (gT T i) s)) (gp ps (cor (gT T i) (s + 1))) (gp ps (cor (gT T i) (s + 2))) (gp ps (cor (gT T k) (r + 2))))
def flipAt (T : List Tri3) (i s k r : Nat) : List Tri3 := (T.set i ⟨cor (gT T i) (s + 2), cor (gT T i) s, cor (gT T k) (r + 2)⟩).set k ⟨cor (gT T i) (s + 2), cor (gT T k) (r + 2), cor (gT T i) (s + 1)⟩
def flR (ps : List Pt) (T : List Tri3) (i s k r : Nat) : Option (List Tri3) := if hitB ps T i s k r = true then some (flipAt T i s k r) else none
def flK (ps : List Pt) (T : List Tri3) (i s k : Nat) : Option (List Tri3) := fnd 3 (flR ps T i s k)
def flS (ps : List Pt) (T : List Tri3) (i s : Nat) : Option (List Tri3) := fnd T.length (flK ps T i s)
def flI (ps : List Pt) (T : List Tri3) (i : Nat) : Option (List Tri3) := fnd 3 (flS ps T i)
def flip1 (ps : List Pt) (T : List Tri3) : Option (List Tri3) := fnd T.length (flI ps T)
theorem flip1_some {ps : List Pt} {T T' : List Tri3} (h : flip1 ps T = some T') : ∃ i s k r, i < T.length ∧ s < 3 ∧ k < T.length ∧ r < 3 ∧ hitB ps T i s k r = true ∧ T' = flipAt T i s k r := by
  obtain ⟨i, hi, h⟩ := fnd_at h
  obtain ⟨s, hs, h⟩ := fnd_at h
  obtain ⟨k, hk, h⟩ := fnd_at h
  obtain ⟨r, hr, h⟩ := fnd_at h
  refine ⟨i, s, k, r, hi, hs, hk, hr, ?_⟩
  unfold flR at h
  split at h
  · rename_i hh; injection h with h; exact ⟨hh, h.symm⟩
  · cases h
theorem flip1_none {ps : List Pt} {T : List Tri3} (h : flip1 ps T = none) {i s k r : Nat} (hi : i < T.length) (hs : s < 3) (hk : k < T.length) (hr : r < 3) : hitB ps T i s k r = false := by
  have h4 : flR ps T i s k r = none := fnd_all (fnd_all (fnd_all (fnd_all h hi) hs) hk) hr
  unfold flR at h4
  split at h4
  · cases h4
  · rename_i hh; simpa using hh
/-- T came out of T0 by flips. -/
structure Mesh (ps : List Pt) (T0 T : List Tri3) : Prop where
  tri : ∀ t ∈ T, TriG ps t
  sum : ∀ F : Nat → Nat → Int, (∀ x y, F y x = -F x y) → TF F T = TF F T0
  len : T.length = T0.length
def volS (ps : List Pt) (T : List Tri3) : Int := smT (volT ps) T
theorem vol_nn {ps : List Pt} {T0 T : List Tri3} (h : Mesh ps T0 T) : 0 ≤ volS ps T :=
  smT_nn fun t ht => Int.mul_nonneg (Int.le_of_lt (h.tri t ht).pos) (by have := hP_nn (gp ps t.a); have := hP_nn (gp ps t.b); have := hP_nn (gp ps t.c); omega)
theorem cor_no {t : Tri3} (h : t.a ≠ t.b ∧ t.b ≠ t.c ∧ t.c ≠ t.a) {s r : Nat} (hs : s < 3) (hr : r < 3) (e1 : cor t r = cor t (s + 1)) (e2 : cor t (r + 1) = cor t s) : False := by
  obtain ⟨h1, h2, h3⟩ := h
  match s, hs, r, hr with
  | 0, _, 0, _ => exact h1 e1
  | 0, _, 1, _ => exact h3 e2
  | 0, _, 2, _ => exact h2 e1.symm
  | 1, _, 0, _ => exact h3 e1.symm
  | 1, _, 1, _ => exact h2 e1
  | 1, _, 2, _ => exact h1 e2
  | 2, _, 0, _ => exact h2 e2
  | 2, _, 1, _ => exact h1 e1.symm
  | 2, _, 2, _ => exact h3 e1
theorem cor_per (t : Tri3) (s : Nat) : cor t (s + 3) = cor t s := by unfold cor; rw [Nat.add_mod_right]
theorem mesh_flip {ps : List Pt} {T0 T : List Tri3} (h : Mesh ps T0 T) {i s k r : Nat} (hi : i < T.length) (hs : s < 3) (hk : k < T.length) (hr : r < 3) (hh : hitB ps T i s k r = true) : Mesh ps T0 (flipAt T i s k r) ∧ volS ps (flipAt T i s k r) < volS ps T := by
  unfold hitB at hh
  simp only [Bool.and_eq_true, decide_eq_true_eq] at hh
  obtain ⟨⟨e1, e2⟩, hD⟩ := hh
  have t1 := (h.tri _ (gT_mem hi))
  have t2 := (h.tri _ (gT_mem hk))
  have r1 := t1.rot hs
  have r2 := t2.rot hr
  have hik : i ≠ k := fun e => by
    subst e
    exact cor_no t1.ne hs hr e1 e2
  have eu : rotT (gT T k) r = ⟨cor (gT T i) (s + 1), cor (gT T i) s, cor (gT T k) (r + 2)⟩ := by unfold rotT; rw [e1, e2]
  rw [eu] at r2
  obtain ⟨n1, n2⟩ := flip_tri r1 r2 hD
  have g2 : gT (T.set i ⟨cor (gT T i) (s + 2), cor (gT T i) s, cor (gT T k) (r + 2)⟩) k = gT T k := by rw [gT_set _ hk, if_neg hik]
  have sm : ∀ g : Tri3 → Int, smT g (flipAt T i s k r) = smT g T - g (gT T i) - g (gT T k) + g ⟨cor (gT T i) (s + 2), cor (gT T i) s, cor (gT T k) (r + 2)⟩ + g ⟨cor (gT T i) (s + 2), cor (gT T k) (r + 2), cor (gT T i) (s + 1)⟩ := fun g => by
    unfold flipAt
    rw [smT_set g _ _ _ (by rw [List.length_set]; exact hk), smT_set g _ _ _ hi, g2]
    omega
  refine ⟨⟨fun t ht => ?_, fun F hF => ?_, by unfold flipAt; rw [List.length_set, List.length_set]; exact h.len⟩, ?_⟩
  · unfold flipAt at ht
    rcases List.mem_or_eq_of_mem_set ht with ht | e
    · rcases List.mem_or_eq_of_mem_set ht with ht | e
      · exact h.tri t ht
      · rw [e]; exact n1
    · rw [e]; exact n2
  · rw [TF_sm, sm, ← h.sum F hF, TF_sm]
    have a1 := rot_sd F (gT T i) hs
    have a2 := rot_sd F (gT T k) hr
    rw [eu] at a2
    unfold rotT at a1
    unfold sdF at *
    simp only at a1 a2 ⊢
    have := hF (cor (gT T i) s) (cor (gT T i) (s + 1))
    have := hF (cor (gT T i) (s + 2)) (cor (gT T k) (r + 2))
    omega
  · unfold volS
    rw [sm]
    have a1 := rot_vol ps (gT T i) hs
    have a2 := rot_vol ps (gT T k) hr
    rw [eu] at a2
    unfold rotT at a1
    unfold volT trnT at *
    simp only at a1 a2 ⊢
    have := vol_flip (gp ps (cor (gT T i) s)) (gp ps (cor (gT T i) (s + 1))) (gp ps (cor (gT T i) (s + 2))) (gp ps (cor (gT T k) (r + 2)))
    omega
theorem mesh_flip1 {ps : List Pt} {T0 T T' : List Tri3} (h : Mesh ps T0 T) (hf : flip1 ps T = some T') : Mesh ps T0 T' ∧ volS ps T' < volS ps T := by
  obtain ⟨i, s, k, r, hi, hs, hk, hr, hh, rfl⟩ := flip1_some hf
  exact mesh_flip h hi hs hk hr hh
/-- f flips, or until none is left. -/
def delF (ps : List Pt) : Nat → List Tri3 → List Tri3
  | 0, T => T
  | f + 1, T => (flip1 ps T).elim T (delF ps f)
theorem delF_end {ps : List Pt} {T : List Tri3} (h : flip1 ps T = none) : ∀ f, delF ps f T = T
  | 0 => rfl
  | f + 1 => by unfold delF; rw [h]; rfl
theorem delF_step {ps : List Pt} {T T' : List Tri3} (h : flip1 ps T = some T') (f : Nat) : delF ps (f + 1) T = delF ps f T' := by
  show (flip1 ps T).elim T (delF ps f) = _
  rw [h]; rfl
theorem delF_mesh {ps : List Pt} {T0 : List Tri3} : ∀ (f : Nat) {T : List Tri3}, Mesh ps T0 T → (volS ps T).toNat ≤ f → Mesh ps T0 (delF ps f T) ∧ flip1 ps (delF ps f T) = none
  | 0, T, h, hv => by
    refine ⟨h, ?_⟩
    show flip1 ps T = none
    cases e : flip1 ps T with
    | none => rfl
    | some T' =>
      have := mesh_flip1 h e
      have := vol_nn this.1
      have := vol_nn h
      omega
  | f + 1, T, h, hv => by
    cases e : flip1 ps T with
    | none => rw [delF_end e]; exact ⟨h, e⟩
    | some T' =>
      rw [delF_step e]
      have h' := mesh_flip1 h e
      have := vol_nn h'.1
      have := vol_nn h
      exact delF_mesh f h'.1 (by omega)

/-! ### locally, hence everywhere -/
def dq (ps : List Pt) (t : Tri3) (q : Nat) : Int := icD (gp ps t.a) (gp ps t.b) (gp ps t.c) (gp ps q)
theorem rot_dq (ps : List Pt) (t : Tri3) (q : Nat) {s : Nat} (hs : s < 3) : dq ps (rotT t s) q = dq ps t q := by
  rcases rot_cases t hs with e | e | e <;> rw [e] <;> unfold dq <;> simp only
  · exact ic_rot _ _ _ _
  · rw [ic_rot, ic_rot]
theorem cnt_lt {p q : Nat → Bool} {x : Nat} : ∀ {l : List Nat}, (∀ y ∈ l, p y = true → q y = true) → x ∈ l → q x = true → p x = false → (l.filter p).length < (l.filter q).length := by
  have le : ∀ {l : List Nat}, (∀ y ∈ l, p y = true → q y = true) → (l.filter p).length ≤ (l.filter q).length := by
    intro l
    induction l with
    | nil => intro _; exact Nat.le_refl _
    | cons a l ih =>
      intro h
      have ih := ih fun y hy => h y (List.mem_cons_of_mem _ hy)
      have ha := h a List.mem_cons_self
      rw [List.filter_cons, List.filter_cons]
      split
      · rename_i hp; rw [if_pos (ha hp)]; simp; omega
      · split
        · simp; omega
        · exact ih
  intro l
  induction l with
  | nil => intro _ h; cases h
  | cons a l ih =>
    intro h hx hq hp
    have h' : ∀ y ∈ l, p y = true → q y = true := fun y hy => h y (List.mem_cons_of_mem _ hy)
    have ha := h a List.mem_cons_self
    rw [List.filter_cons, List.filter_cons]
    rcases List.mem_cons.1 hx with e | e
    · subst e
      rw [hp, hq]
      have := le h'
      simp; omega
    · have ih := ih h' e hq hp
      split
      · rename_i hp; rw [if_pos (ha hp)]; simp; omega
      · split
        · simp; omega
        · exact ih
def edF (a b : Nat) (x y : Nat) : Int := (if x = a ∧ y = b then 1 else 0) - (if x = b ∧ y = a then 1 else 0)
theorem edF_anti (a b x y : Nat) : edF a b y x = -edF a b x y := by
  unfold edF
  by_cases h1 : x = a ∧ y = b <;> by_cases h2 : x = b ∧ y = a
  · rw [if_pos h1, if_pos h2, if_pos ⟨h2.2, h2.1⟩, if_pos ⟨h1.2, h1.1⟩]; rfl
  · rw [if_pos h1, if_neg h2, if_neg (fun h => h2 ⟨h.2, h.1⟩), if_pos ⟨h1.2, h1.1⟩]; rfl
  · rw [if_neg h1, if_pos h2, if_pos ⟨h2.2, h2.1⟩, if_neg (fun h => h1 ⟨h.2, h.1⟩)]; rfl
  · rw [if_neg h1, if_neg h2, if_neg (fun h => h2 ⟨h.2, h.1⟩), if_neg (fun h => h1 ⟨h.2, h.1⟩)]; rfl
theorem sumN_some {f : Nat → Int} : ∀ {n : Nat}, 0 < sumN f n → ∃ j, j < n ∧ 0 < f j
  | 0, h => absurd h (by simp [sumN])
  | n + 1, h => by
    have h' : 0 < sumN f n + f n := h
    by_cases c : 0 < sumN f n
    · obtain ⟨j, hj, hh⟩ := sumN_some c
      exact ⟨j, by omega, hh⟩
    · exact ⟨n, by omega, by omega⟩
/-- Beyond a side of a triangle that does not have all points on its left lies another triangle. -/
theorem side_ex {ps : List Pt} {T0 T : List Tri3} {R : List Nat} (h : Mesh ps T0 T) (hR : Rg ps ps.length R) (hS : ∀ F : Nat → Nat → Int, (∀ x y, F y x = -F x y) → ChF F R = TF F T0) {t : Tri3} (ht : t ∈ T) {s : Nat} (hs : s < 3) {q : Nat} (hq : q < ps.length)
    (hn : trn (gp ps (cor t s)) (gp ps (cor t (s + 1))) (gp ps q) < 0) : ∃ u ∈ T, ∃ r, r < 3 ∧ cor u r = cor t (s + 1) ∧ cor u (r + 1) = cor t s := by
  refine Classical.byContradiction fun hno => ?_
  have hab : cor t s ≠ cor t (s + 1) := fun e => by rw [e, trn_aab] at hn; omega
  generalize ea : cor t s = a at *
  generalize eb : cor t (s + 1) = b at *
  have e1 := hS (edF a b) (edF_anti a b)
  rw [← h.sum _ (edF_anti a b), TF_sm] at e1
  have nob : ∀ u ∈ T, ∀ r, r < 3 → ¬ (cor u r = b ∧ cor u (r + 1) = a) := fun u hu r hr hh => hno ⟨u, hu, r, hr, hh⟩
  have nn : ∀ u ∈ T, 0 ≤ sdF (edF a b) u := fun u hu => by
    have c0 := nob u hu 0 (by omega)
    have c1 := nob u hu 1 (by omega)
    have c2 := nob u hu 2 (by omega)
    have c0 : ¬ (u.a = b ∧ u.b = a) := c0
    have c1 : ¬ (u.b = b ∧ u.c = a) := c1
    have c2 : ¬ (u.c = b ∧ u.a = a) := c2
    unfold sdF edF
    rw [if_neg c0, if_neg c1, if_neg c2]
    split <;> split <;> split <;> omega
  have ge := smT_ge ht nn
  have one : 1 ≤ sdF (edF a b) t := by
    rw [← rot_sd (edF a b) t hs]
    have hnb := nn t ht
    have c : sdF (edF a b) (rotT t s) = edF a b a b + edF a b b (cor t (s + 2)) + edF a b (cor t (s + 2)) a := by unfold sdF rotT; rw [ea, eb]
    rw [c]
    have d0 : cor t (s + 2) = a → False := fun e => nob t ht ((s + 1) % 3) (Nat.mod_lt _ (by omega)) (by
      have q1 : cor t ((s + 1) % 3) = cor t (s + 1) := by unfold cor; rw [Nat.mod_mod]
      have q2 : cor t ((s + 1) % 3 + 1) = cor t (s + 2) := by unfold cor; rw [Nat.mod_add_mod]
      rw [q1, q2, eb, e]; exact ⟨rfl, rfl⟩)
    have d1 : cor t (s + 2) = b → False := fun e => nob t ht ((s + 2) % 3) (Nat.mod_lt _ (by omega)) (by
      have q1 : cor t ((s + 2) % 3) = cor t (s + 2) := by unfold cor; rw [Nat.mod_mod]
      have q2 : cor t ((s + 2) % 3 + 1) = cor t s := by unfold cor; rw [Nat.mod_add_mod, show s + 2 + 1 = s + 3 by omega, Nat.add_mod_right]
      rw [q1, q2, ea, e]; exact ⟨rfl, rfl⟩)
    unfold edF
    rw [if_pos ⟨rfl, rfl⟩, if_neg (fun h => hab h.1), if_neg (fun h => hab h.1.symm), if_neg (fun h => d0 h.2), if_neg (fun h => d0 h.1), if_neg (fun h => d1 h.1)]
    omega
  unfold ChF at e1
  obtain ⟨j, hj, hpos⟩ := sumN_some (f := fun j => edF a b (gm R j) (gm R (j + 1))) (n := R.length) (by omega)
  have hj2 : gm R j = a ∧ gm R (j + 1) = b := by
    refine Decidable.byContradiction fun hc => ?_
    unfold edF at hpos
    (try simp only at hpos)
    rw [if_neg hc] at hpos
    split at hpos <;> omega
  have := hR.left j q hq
  rw [hj2.1, hj2.2] at this
  omega
/-- No triangle's ratio is larger. -/
def Top (ps : List Pt) (T : List Tri3) (q : Nat) (t : Tri3) : Prop := ∀ u ∈ T, dq ps u q * trnT ps t ≤ dq ps t q * trnT ps u
theorem ratio_trans {d1 d2 d3 s1 s2 s3 : Int} (p2 : 0 < s2) (p1 : 0 < s1) (p3 : 0 < s3) (h : d1 * s2 ≤ d2 * s1) (h' : d2 * s3 ≤ d3 * s2) : d1 * s3 ≤ d3 * s1 := by
  have a := Int.mul_le_mul_of_nonneg_right h (Int.le_of_lt p3)
  have b := Int.mul_le_mul_of_nonneg_right h' (Int.le_of_lt p1)
  have c : (d3 * s1 - d1 * s3) * s2 = d3 * s2 * s1 - d1 * s2 * s3 := by grind
  have d : d2 * s1 * s3 = d2 * s3 * s1 := by grind
  have := nn_of_mul (S := s2) (x := d3 * s1 - d1 * s3) p2 (by rw [Int.mul_comm]; omega)
  omega
theorem top_ex {ps : List Pt} {q : Nat} : ∀ {T : List Tri3}, T ≠ [] → (∀ t ∈ T, 0 < trnT ps t) → ∃ t ∈ T, Top ps T q t
  | [], h, _ => absurd rfl h
  | [t], _, hp => ⟨t, List.mem_singleton.2 rfl, fun u hu => by rw [List.mem_singleton.1 hu]; exact Int.le_refl _⟩
  | t :: x :: T, _, hp => by
    obtain ⟨m, hm, htop⟩ := top_ex (T := x :: T) (by simp) fun u hu => hp u (List.mem_cons_of_mem _ hu)
    have pt := hp t List.mem_cons_self
    have pm := hp m (List.mem_cons_of_mem _ hm)
    rcases Int.le_total (dq ps t q * trnT ps m) (dq ps m q * trnT ps t) with c | c
    · refine ⟨m, List.mem_cons_of_mem _ hm, fun u hu => ?_⟩
      rcases List.mem_cons.1 hu with e | e
      · subst e; exact c
      · exact htop u e
    · refine ⟨t, List.mem_cons_self, fun u hu => ?_⟩
      rcases List.mem_cons.1 hu with e | e
      · subst e; exact Int.le_refl _
      · exact ratio_trans pm (hp u hu) pt (htop u e) c
def farN (ps : List Pt) (t : Tri3) (s : Nat) : Nat := ((List.range ps.length).filter fun x => decide (dq ps t x = 0) && decide (trn (gp ps (cor t s)) (gp ps (cor t (s + 1))) (gp ps x) < 0)).length
theorem ic_aa (a b c : Pt) : icD a b c a = 0 := by unfold icD sqP trn; grind
/-- A point inside a triangle's circle lies beyond one of its sides. -/
theorem beyond {ps : List Pt} {t : Tri3} (h : TriG ps t) {q : Nat} (hq : q < ps.length) (hd : 0 < dq ps t q) : ∃ s, s < 3 ∧ trn (gp ps (cor t s)) (gp ps (cor t (s + 1))) (gp ps q) < 0 := by
  refine Classical.byContradiction fun hno => ?_
  have k : ∀ s, s < 3 → 0 ≤ trn (gp ps (cor t s)) (gp ps (cor t (s + 1))) (gp ps q) := fun s hs => by
    refine Decidable.byContradiction fun hn => hno ⟨s, hs, by omega⟩
  unfold dq at hd
  rcases h.emp q hq (k 0 (by omega)) (k 1 (by omega)) (k 2 (by omega)) with e | e | e
  · rw [e, ic_aa] at hd; omega
  · rw [e, ← ic_rot, ic_aa] at hd; omega
  · rw [e, ← ic_rot, ← ic_rot, ic_aa] at hd; omega
theorem no_top {ps : List Pt} {T0 T : List Tri3} {R : List Nat} (h : Mesh ps T0 T) (hR : Rg ps ps.length R) (hS : ∀ F : Nat → Nat → Int, (∀ x y, F y x = -F x y) → ChF F R = TF F T0) (hf : flip1 ps T = none) {q : Nat} (hq : q < ps.length) :
    ∀ (N : Nat) (t : Tri3) (s : Nat), t ∈ T → s < 3 → Top ps T q t → 0 < dq ps t q → trn (gp ps (cor t s)) (gp ps (cor t (s + 1))) (gp ps q) < 0 → farN ps t s < N → False
  | 0, t, s, _, _, _, _, _, hN => by omega
  | N + 1, t, s, ht, hs, htop, hd, hb, hN => by
    obtain ⟨u, hu, r, hr, e1, e2⟩ := side_ex h hR hS ht hs hq hb
    obtain ⟨i, hi, rfl⟩ := gT_of_mem ht
    obtain ⟨k, hk, rfl⟩ := gT_of_mem hu
    have hno := flip1_none hf hi hs hk hr
    unfold hitB at hno
    rw [decide_eq_true e1, decide_eq_true e2] at hno
    simp only [Bool.true_and, decide_eq_false_iff_not] at hno
    have G1 := h.tri _ ht
    have G2 := h.tri _ hu
    have R1 := G1.rot hs
    have R2 := G2.rot hr
    have top := htop _ hu
    rw [← rot_dq ps (gT T k) q hr, ← rot_dq ps (gT T i) q hs, ← rot_trn ps (gT T i) hs, ← rot_trn ps (gT T k) hr] at top
    have dt : 0 < dq ps (rotT (gT T i) s) q := by rw [rot_dq ps _ q hs]; exact hd
    have eu : rotT (gT T k) r = ⟨cor (gT T i) (s + 1), cor (gT T i) s, cor (gT T k) (r + 2)⟩ := by unfold rotT; rw [e1, e2]
    rw [eu] at top R2
    have et : rotT (gT T i) s = ⟨cor (gT T i) s, cor (gT T i) (s + 1), cor (gT T i) (s + 2)⟩ := rfl
    rw [et] at top R1 dt
    have S1 : 0 < trn (gp ps (cor (gT T i) s)) (gp ps (cor (gT T i) (s + 1))) (gp ps (cor (gT T i) (s + 2))) := R1.pos
    have S2 : 0 < trn (gp ps (cor (gT T i) (s + 1))) (gp ps (cor (gT T i) s)) (gp ps (cor (gT T k) (r + 2))) := R2.pos
    have ld : cor (gT T k) (r + 2) < ps.length := R2.pt.2.2
    have dqt : ∀ x, dq ps (gT T i) x = icD (gp ps (cor (gT T i) s)) (gp ps (cor (gT T i) (s + 1))) (gp ps (cor (gT T i) (s + 2))) (gp ps x) := fun x => by rw [← rot_dq ps (gT T i) x hs]; rfl
    have dqu : ∀ x, dq ps (gT T k) x = icD (gp ps (cor (gT T i) (s + 1))) (gp ps (cor (gT T i) s)) (gp ps (cor (gT T k) (r + 2))) (gp ps x) := fun x => by rw [← rot_dq ps (gT T k) x hr, eu]; rfl
    have tk : trnT ps (gT T k) = trn (gp ps (cor (gT T i) (s + 1))) (gp ps (cor (gT T i) s)) (gp ps (cor (gT T k) (r + 2))) := by rw [← rot_trn ps _ hr, eu]; rfl
    have ti : trnT ps (gT T i) = trn (gp ps (cor (gT T i) s)) (gp ps (cor (gT T i) (s + 1))) (gp ps (cor (gT T i) (s + 2))) := by rw [← rot_trn ps _ hs]; rfl
    have corA : ∀ x, cor (gT T k) ((r + 1) % 3 + x) = cor (gT T k) (r + 1 + x) := fun x => by unfold cor; rw [Nat.mod_add_mod]
    have corB : ∀ x, cor (gT T k) ((r + 2) % 3 + x) = cor (gT T k) (r + 2 + x) := fun x => by unfold cor; rw [Nat.mod_add_mod]
    have hfN : farN ps (gT T i) s = ((List.range ps.length).filter fun x => decide (icD (gp ps (cor (gT T i) s)) (gp ps (cor (gT T i) (s + 1))) (gp ps (cor (gT T i) (s + 2))) (gp ps x) = 0) && decide (trn (gp ps (cor (gT T i) s)) (gp ps (cor (gT T i) (s + 1))) (gp ps x) < 0)).length := by
      unfold farN; simp only [dqt]
    have hfA : farN ps (gT T k) ((r + 1) % 3) = ((List.range ps.length).filter fun x => decide (icD (gp ps (cor (gT T i) (s + 1))) (gp ps (cor (gT T i) s)) (gp ps (cor (gT T k) (r + 2))) (gp ps x) = 0) && decide (trn (gp ps (cor (gT T i) s)) (gp ps (cor (gT T k) (r + 2))) (gp ps x) < 0)).length := by
      unfold farN
      have c0 := corA 0
      rw [Nat.add_zero, Nat.add_zero] at c0
      rw [c0, corA 1, e2]
      simp only [dqu]
    have hfB : farN ps (gT T k) ((r + 2) % 3) = ((List.range ps.length).filter fun x => decide (icD (gp ps (cor (gT T i) (s + 1))) (gp ps (cor (gT T i) s)) (gp ps (cor (gT T k) (r + 2))) (gp ps x) = 0) && decide (trn (gp ps (cor (gT T k) (r + 2))) (gp ps (cor (gT T i) (s + 1))) (gp ps x) < 0)).length := by
      unfold farN
      have c0 := corB 0
      rw [Nat.add_zero, Nat.add_zero] at c0
      rw [c0, corB 1, show r + 2 + 1 = r + 3 by omega, cor_per, e1]
      simp only [dqu]
    have sdA : trn (gp ps (cor (gT T k) ((r + 1) % 3))) (gp ps (cor (gT T k) ((r + 1) % 3 + 1))) (gp ps q) = trn (gp ps (cor (gT T i) s)) (gp ps (cor (gT T k) (r + 2))) (gp ps q) := by
      have c0 := corA 0
      rw [Nat.add_zero, Nat.add_zero] at c0
      rw [c0, corA 1, e2]
    have sdB : trn (gp ps (cor (gT T k) ((r + 2) % 3))) (gp ps (cor (gT T k) ((r + 2) % 3 + 1))) (gp ps q) = trn (gp ps (cor (gT T k) (r + 2))) (gp ps (cor (gT T i) (s + 1))) (gp ps q) := by
      have c0 := corB 0
      rw [Nat.add_zero, Nat.add_zero] at c0
      rw [c0, corB 1, show r + 2 + 1 = r + 3 by omega, cor_per, e1]
    have emp2 := R2.emp
    unfold EmpT at emp2
    simp only at emp2
    have bey := beyond G2 hq
    rw [dqu] at bey
    have topk : Top ps T q (gT T k) ↔ ∀ v ∈ T, dq ps v q * trn (gp ps (cor (gT T i) (s + 1))) (gp ps (cor (gT T i) s)) (gp ps (cor (gT T k) (r + 2))) ≤ icD (gp ps (cor (gT T i) (s + 1))) (gp ps (cor (gT T i) s)) (gp ps (cor (gT T k) (r + 2))) (gp ps q) * trnT ps v := by
      unfold Top; rw [dqu, tk]
    have topi : ∀ v ∈ T, dq ps v q * trn (gp ps (cor (gT T i) s)) (gp ps (cor (gT T i) (s + 1))) (gp ps (cor (gT T i) (s + 2))) ≤ icD (gp ps (cor (gT T i) s)) (gp ps (cor (gT T i) (s + 1))) (gp ps (cor (gT T i) (s + 2))) (gp ps q) * trnT ps v := fun v hv => by
      have := htop v hv
      rw [dqt, ti] at this
      exact this
    have IH := fun s' h1 h2 h3 h4 h5 => no_top h hR hS hf hq N (gT T k) s' hu h1 h2 h3 h4 h5
    rw [dqu] at IH
    have cornq : ∀ s', s' < 3 → trn (gp ps (cor (gT T k) s')) (gp ps (cor (gT T k) (s' + 1))) (gp ps q) < 0 → s' = r ∨ s' = (r + 1) % 3 ∨ s' = (r + 2) % 3 := fun s' h' _ => by omega
    have sdr : trn (gp ps (cor (gT T k) r)) (gp ps (cor (gT T k) (r + 1))) (gp ps q) = trn (gp ps (cor (gT T i) (s + 1))) (gp ps (cor (gT T i) s)) (gp ps q) := by rw [e1, e2]
    unfold dq trnT at top
    unfold dq at dt
    simp only at top dt
    rw [hfN] at hN
    clear hfN dqt ti hd
    generalize cor (gT T k) (r + 2) = d at *
    generalize cor (gT T i) s = a at *
    generalize cor (gT T i) (s + 1) = b at *
    generalize cor (gT T i) (s + 2) = c at *
    have pw := fun x => ic_pow (gp ps a) (gp ps b) (gp ps c) (gp ps d) (gp ps x)
    -- the ratio is the same, and d on the circle
    have z0 : icD (gp ps a) (gp ps b) (gp ps c) (gp ps d) = 0 := by
      have p := pw q
      have m : 0 ≤ icD (gp ps a) (gp ps b) (gp ps c) (gp ps d) * trn (gp ps a) (gp ps b) (gp ps q) := Int.mul_nonneg_of_nonpos_of_nonpos (by omega) (Int.le_of_lt hb)
      have m1 := Int.mul_comm (trn (gp ps b) (gp ps a) (gp ps d)) (icD (gp ps a) (gp ps b) (gp ps c) (gp ps q))
      have m2 := Int.mul_comm (trn (gp ps a) (gp ps b) (gp ps c)) (icD (gp ps b) (gp ps a) (gp ps d) (gp ps q))
      have z : icD (gp ps a) (gp ps b) (gp ps c) (gp ps d) * trn (gp ps a) (gp ps b) (gp ps q) = 0 := by omega
      rcases Int.mul_eq_zero.1 z with e | e
      · exact e
      · omega
    have pz : ∀ x, trn (gp ps b) (gp ps a) (gp ps d) * icD (gp ps a) (gp ps b) (gp ps c) (gp ps x) = trn (gp ps a) (gp ps b) (gp ps c) * icD (gp ps b) (gp ps a) (gp ps d) (gp ps x) := fun x => by
      have p := pw x
      rw [z0, Int.zero_mul] at p
      omega
    have du : 0 < icD (gp ps b) (gp ps a) (gp ps d) (gp ps q) := by
      have p := pz q
      have := Int.mul_pos S2 dt
      refine Decidable.byContradiction fun hn => ?_
      have := Int.mul_nonpos_of_nonneg_of_nonpos (Int.le_of_lt S1) (show icD (gp ps b) (gp ps a) (gp ps d) (gp ps q) ≤ 0 by omega)
      omega
    have onz : ∀ x, icD (gp ps b) (gp ps a) (gp ps d) (gp ps x) = 0 → icD (gp ps a) (gp ps b) (gp ps c) (gp ps x) = 0 := fun x hx => by
      have p := pz x
      rw [hx, Int.mul_zero] at p
      rcases Int.mul_eq_zero.1 p with e | e
      · omega
      · exact e
    have tu : Top ps T q (gT T k) := topk.2 fun v hv => by
      have p := pz q
      have t1 := topi v hv
      have t2 := Int.mul_le_mul_of_nonneg_left t1 (Int.le_of_lt S2)
      have := nn_of_mul (S := trn (gp ps a) (gp ps b) (gp ps c)) (x := icD (gp ps b) (gp ps a) (gp ps d) (gp ps q) * trnT ps v - dq ps v q * trn (gp ps b) (gp ps a) (gp ps d)) S1 (by
        have e1 : trn (gp ps a) (gp ps b) (gp ps c) * (icD (gp ps b) (gp ps a) (gp ps d) (gp ps q) * trnT ps v - dq ps v q * trn (gp ps b) (gp ps a) (gp ps d)) = (trn (gp ps a) (gp ps b) (gp ps c) * icD (gp ps b) (gp ps a) (gp ps d) (gp ps q)) * trnT ps v - trn (gp ps b) (gp ps a) (gp ps d) * (dq ps v q * trn (gp ps a) (gp ps b) (gp ps c)) := by grind
        rw [e1, ← p, Int.mul_assoc]
        omega)
      omega
    have dbe : trn (gp ps a) (gp ps b) (gp ps d) < 0 := by have := trn_swap (gp ps b) (gp ps a) (gp ps d); omega
    -- what is beyond the next side is beyond this one
    have inA : ∀ x, icD (gp ps b) (gp ps a) (gp ps d) (gp ps x) = 0 → trn (gp ps a) (gp ps d) (gp ps x) < 0 → trn (gp ps a) (gp ps b) (gp ps x) < 0 := fun x h1 h2 => by
      have S' : 0 < trn (gp ps a) (gp ps d) (gp ps b) := by rw [← trn_rot]; exact S2
      have nb : gp ps b ≠ gp ps x := fun e => by rw [← e] at h2; omega
      have c := (ic_conv (a := gp ps a) (b := gp ps d) (c := gp ps b) (d := gp ps x) S' (by rw [trn_rot]; exact h2) (.inr ⟨by rw [ic_rot]; exact h1, nb⟩)).1
      have := trn_rot (gp ps x) (gp ps b) (gp ps a)
      have := trn_swap (gp ps b) (gp ps a) (gp ps x)
      omega
    have inB : ∀ x, icD (gp ps b) (gp ps a) (gp ps d) (gp ps x) = 0 → trn (gp ps d) (gp ps b) (gp ps x) < 0 → trn (gp ps a) (gp ps b) (gp ps x) < 0 := fun x h1 h2 => by
      have S' : 0 < trn (gp ps d) (gp ps b) (gp ps a) := by rw [trn_rot]; exact S2
      have nb : gp ps a ≠ gp ps x := fun e => by rw [← e] at h2; omega
      have c := (ic_conv (a := gp ps d) (b := gp ps b) (c := gp ps a) (d := gp ps x) S' (by rw [trn_rot]; exact h2) (.inr ⟨by rw [← ic_rot]; exact h1, nb⟩)).2
      have := trn_rot (gp ps x) (gp ps b) (gp ps a)
      have := trn_swap (gp ps b) (gp ps a) (gp ps x)
      omega
    obtain ⟨s', hs', hb'⟩ := bey du
    rcases cornq s' hs' hb' with e | e | e
    · rw [e, sdr] at hb'
      have := trn_swap (gp ps b) (gp ps a) (gp ps q)
      omega
    · subst e
      refine IH _ hs' tu du hb' ?_
      rw [hfA]
      refine Nat.lt_of_lt_of_le (cnt_lt (x := d) (fun y _ hy => ?_) (List.mem_range.2 ld) ?_ ?_) (Nat.lt_succ_iff.1 hN)
      · simp only [Bool.and_eq_true, decide_eq_true_eq] at hy ⊢
        exact ⟨onz y hy.1, inA y hy.1 hy.2⟩
      · simp only [Bool.and_eq_true, decide_eq_true_eq]
        exact ⟨z0, dbe⟩
      · rw [trn_abb]; simp
    · subst e
      refine IH _ hs' tu du hb' ?_
      rw [hfB]
      refine Nat.lt_of_lt_of_le (cnt_lt (x := d) (fun y _ hy => ?_) (List.mem_range.2 ld) ?_ ?_) (Nat.lt_succ_iff.1 hN)
      · simp only [Bool.and_eq_true, decide_eq_true_eq] at hy ⊢
        exact ⟨onz y hy.1, inB y hy.1 hy.2⟩
      · simp only [Bool.and_eq_true, decide_eq_true_eq]
        exact ⟨z0, dbe⟩
      · rw [trn_aba]; simp
/-- Triangles that cannot be flipped are Delaunay. -/
theorem mesh_local {ps : List Pt} {T0 T : List Tri3} {R : List Nat} (h : Mesh ps T0 T) (hR : Rg ps ps.length R) (hS : ∀ F : Nat → Nat → Int, (∀ x y, F y x = -F x y) → ChF F R = TF F T0) (hf : flip1 ps T = none) {t : Tri3} (ht : t ∈ T) {q : Nat} (hq : q < ps.length) : dq ps t q ≤ 0 := by
  refine Decidable.byContradiction fun hn => ?_
  obtain ⟨m, hm, htop⟩ := top_ex (ps := ps) (q := q) (T := T) (fun e => by rw [e] at ht; cases ht) fun u hu => (h.tri u hu).pos
  have pm := (h.tri m hm).pos
  have p := htop t ht
  have dm : 0 < dq ps m q := by
    have a := Int.mul_pos (show 0 < dq ps t q by omega) pm
    refine Decidable.byContradiction fun hc => ?_
    have := Int.mul_nonpos_of_nonpos_of_nonneg (show dq ps m q ≤ 0 by omega) (Int.le_of_lt (h.tri t ht).pos)
    omega
  obtain ⟨s, hs, hb⟩ := beyond (h.tri m hm) hq dm
  exact no_top h hR hS hf hq (farN ps m s + 1) m s hm hs htop dm hb (Nat.lt_succ_self _)
end Go.Proofs.Ytcebmcbglhkkfaa
