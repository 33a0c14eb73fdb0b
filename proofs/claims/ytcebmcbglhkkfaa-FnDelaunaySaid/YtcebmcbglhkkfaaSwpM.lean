
import Derived.Test.YtcebmcbglhkkfaaTreeM
/- The sweep: points are added in order to a ring of places; what it keeps. No program in sight. -/
set_option linter.unusedVariables false
set_option linter.unusedSimpArgs false
namespace Go.Proofs.Ytcebmcbglhkkfaa
open Go.RowKit

theorem lst_ex {Q : Nat → Prop} (h : ∃ n, Q n) : ∃ n, Q n ∧ ∀ m, m < n → ¬ Q m := by
  obtain ⟨n, hn⟩ := h
  induction n using Nat.strongRecOn with
  | _ n ih =>
    by_cases hm : ∃ m, m < n ∧ Q m
    · obtain ⟨m, h1, h2⟩ := hm; exact ih m h1 h2
    · exact ⟨n, hn, fun m h1 h2 => hm ⟨m, h1, h2⟩⟩

/-! ### rings as functions that come round -/
def gm (r : List Nat) (i : Nat) : Nat := gn r (i % r.length)
theorem gm_add (r : List Nat) (i : Nat) : gm r (i + r.length) = gm r i := by unfold gm; rw [Nat.add_mod_right]
theorem gm_lt {r : List Nat} {i : Nat} (h : i < r.length) : gm r i = gn r i := by unfold gm; rw [Nat.mod_eq_of_lt h]
theorem gm_mod (r : List Nat) (i : Nat) : gm r (i % r.length) = gm r i := by unfold gm; rw [Nat.mod_mod]
theorem gm_mem {r : List Nat} (h : 0 < r.length) (i : Nat) : gm r i ∈ r := gn_mem (Nat.mod_lt _ h)
theorem gm_of_mem {r : List Nat} {x : Nat} (h : x ∈ r) : ∃ i, i < r.length ∧ gm r i = x := by
  obtain ⟨k, hk, e⟩ := gn_of_mem h
  exact ⟨k, hk, by rw [gm_lt hk, e]⟩
theorem gn_left {A B : List Nat} {i : Nat} (h : i < A.length) : gn (A ++ B) i = gn A i := by
  unfold gn; rw [List.getD_eq_getElem?_getD, List.getD_eq_getElem?_getD, List.getElem?_append_left h]
theorem gn_right {A B : List Nat} {i : Nat} : gn (A ++ B) (A.length + i) = gn B i := by
  unfold gn; rw [List.getD_eq_getElem?_getD, List.getD_eq_getElem?_getD, List.getElem?_append_right (by omega), Nat.add_sub_cancel_left]
theorem gm_turn (A B : List Nat) (j : Nat) : gm (B ++ A) (B.length + j) = gm (A ++ B) j := by
  rcases Nat.eq_zero_or_pos (A.length + B.length) with h0 | h0
  · have ha : A = [] := List.length_eq_zero_iff.1 (by omega)
    have hb : B = [] := List.length_eq_zero_iff.1 (by omega)
    subst ha hb; simp [gm]
  have l1 : (B ++ A).length = A.length + B.length := by simp; omega
  have l2 : (A ++ B).length = A.length + B.length := by simp
  unfold gm
  rw [l1, l2]
  have hj : j % (A.length + B.length) < A.length + B.length := Nat.mod_lt _ h0
  rw [← Nat.add_mod_mod]
  generalize j % (A.length + B.length) = i at *
  by_cases h : i < A.length
  · rw [Nat.mod_eq_of_lt (by omega), gn_right, gn_left h]
  · obtain ⟨e, rfl⟩ : ∃ e, i = A.length + e := ⟨i - A.length, by omega⟩
    rw [gn_right, show B.length + (A.length + e) = e + (A.length + B.length) by omega, Nat.add_mod_right, Nat.mod_eq_of_lt (by omega), gn_left (by omega)]
/-! ### one run of trues -/
theorem run_ex {f : Nat → Bool} {m : Nat} (h1 : ∃ i, i < m ∧ f i = true) (h0 : ∃ i, i < m ∧ f i = false)
    (hu : ∀ i j, i < m → j < m → f ((i + m - 1) % m) = false → f i = true → f ((j + m - 1) % m) = false → f j = true → i = j) :
    ∃ s k, s < m ∧ 1 ≤ k ∧ k < m ∧ ∀ i, i < m → f ((s + i) % m) = decide (i < k) := by
  obtain ⟨i0, hi0, t0⟩ := h1
  obtain ⟨z, hz, fz⟩ := h0
  have hm : 0 < m := by omega
  obtain ⟨d, hd, dl⟩ := lst_ex (Q := fun d => f ((z + d) % m) = true) ⟨i0 + m - z, by
    rw [show z + (i0 + m - z) = i0 + m by omega, Nat.add_mod_right, Nat.mod_eq_of_lt hi0]; exact t0⟩
  have d1 : 1 ≤ d := by
    rcases Nat.eq_zero_or_pos d with e | e
    · subst e; rw [Nat.add_zero, Nat.mod_eq_of_lt hz, fz] at hd; cases hd
    · exact e
  have hs : (z + d) % m < m := Nat.mod_lt _ hm
  have rise : f (((z + d) % m + m - 1) % m) = false := by
    have e : ((z + d) % m + m - 1) % m = (z + (d - 1)) % m := by
      rw [show (z + d) % m + m - 1 = (z + d) % m + (m - 1) by omega, Nat.mod_add_mod, show z + d + (m - 1) = z + (d - 1) + m by omega, Nat.add_mod_right]
    rw [e]
    have := dl (d - 1) (by omega)
    simpa using this
  generalize (z + d) % m = s at *
  obtain ⟨k, ⟨hk1, hk⟩, kl⟩ := lst_ex (Q := fun k => 1 ≤ k ∧ f ((s + k) % m) = false) ⟨m - 1, by
    have : m ≠ 1 := fun e => by
      subst e
      have a : s = 0 := by omega
      subst a
      rw [show (0 + 1 - 1) % 1 = 0 by omega] at rise
      rw [rise] at hd; cases hd
    exact ⟨by omega, by rw [show s + (m - 1) = s + m - 1 by omega]; exact rise⟩⟩
  have hkm : k < m := by
    rcases Nat.lt_or_ge k m with h | h
    · exact h
    · exfalso
      rcases Nat.lt_or_ge (m - 1) k with h2 | h2
      · by_cases h3 : 1 ≤ m - 1
        · exact kl (m - 1) h2 ⟨h3, by rw [show s + (m - 1) = s + m - 1 by omega]; exact rise⟩
        · have a : m = 1 := by omega
          subst a
          have a : s = 0 := by omega
          subst a
          rw [show (0 + 1 - 1) % 1 = 0 by omega] at rise
          rw [rise] at hd; cases hd
      · omega
  refine ⟨s, k, hs, hk1, hkm, fun i hi => ?_⟩
  by_cases hik : i < k
  · rw [decide_eq_true hik]
    rcases Nat.eq_zero_or_pos i with e | e
    · subst e; rw [Nat.add_zero, Nat.mod_eq_of_lt hs]; exact hd
    · have := kl i hik
      cases hh : f ((s + i) % m)
      · exact absurd ⟨e, hh⟩ this
      · rfl
  · rw [decide_eq_false hik]
    cases hh : f ((s + i) % m)
    · rfl
    · exfalso
      obtain ⟨e, ⟨he1, he2⟩, el⟩ := lst_ex (Q := fun e => k ≤ e ∧ f ((s + e) % m) = true) ⟨i, by omega, hh⟩
      have hei : e ≤ i := by
        rcases Nat.lt_or_ge i e with h | h
        · exact absurd ⟨by omega, hh⟩ (el i h)
        · exact h
      have hne : e ≠ k := fun ee => by rw [ee, hk] at he2; cases he2
      have hp : f (((s + e) % m + m - 1) % m) = false := by
        have e3 : ((s + e) % m + m - 1) % m = (s + (e - 1)) % m := by
          rw [show (s + e) % m + m - 1 = (s + e) % m + (m - 1) by omega, Nat.mod_add_mod, show s + e + (m - 1) = s + (e - 1) + m by omega, Nat.add_mod_right]
        rw [e3]
        cases h4 : f ((s + (e - 1)) % m)
        · rfl
        · exact absurd ⟨by omega, h4⟩ (el (e - 1) (by omega))
      have := hu _ _ (Nat.mod_lt (s + e) hm) hs hp he2 rise hd
      rcases Nat.lt_or_ge (s + e) m with h | h
      · rw [Nat.mod_eq_of_lt h] at this; omega
      · rw [Nat.mod_eq_sub_mod h, Nat.mod_eq_of_lt (by omega)] at this; omega

/-! ### the program's step -/
def seenB (ps : List Pt) (r : List Nat) (n i : Nat) : Bool := decide (trn (gp ps (gn r i)) (gp ps (aft r i)) (gp ps n) < 0)
def befB (ps : List Pt) (r : List Nat) (n i : Nat) : Bool := seenB ps r n ((i + r.length - 1) % r.length)
def blkN (ps : List Pt) (r : List Nat) (n i : Nat) : List Nat :=
  (if (!befB ps r n i || !seenB ps r n i) = true then [gn r i] else []) ++ (if (!befB ps r n i && seenB ps r n i) = true then [n] else [])
def ringTo (ps : List Pt) (r : List Nat) (n k : Nat) : List Nat := (List.range k).flatMap (blkN ps r n)
def newTo (ps : List Pt) (r : List Nat) (n k : Nat) : List Tri3 := (List.range k).flatMap fun i => if seenB ps r n i = true then [⟨aft r i, gn r i, n⟩] else []
theorem flat_turn {α : Type} (b : Nat → List α) {m s : Nat} (hs : s < m) :
    ∃ A B, (List.range m).flatMap b = A ++ B ∧ (List.range m).flatMap (fun i => b ((s + i) % m)) = B ++ A := by
  refine ⟨(List.range s).flatMap b, ((List.range (m - s)).map (s + ·)).flatMap b, ?_, ?_⟩
  · rw [← List.flatMap_append, ← List.range_add, show s + (m - s) = m by omega]
  · have h : List.range m = List.range (m - s) ++ (List.range s).map ((m - s) + ·) := by rw [← List.range_add, show m - s + s = m by omega]
    rw [h, List.flatMap_append, List.flatMap_map, List.flatMap_map]
    congr 1
    · rw [List.flatMap_def, List.flatMap_def]
      congr 1
      refine List.map_congr_left fun i hi => ?_
      rw [List.mem_range] at hi
      rw [Nat.mod_eq_of_lt (by omega)]
    · rw [List.flatMap_def, List.flatMap_def]
      congr 1
      refine List.map_congr_left fun i hi => ?_
      rw [List.mem_range] at hi
      show b ((s + (m - s + i)) % m) = b i
      rw [show s + (m - s + i) = i + m by omega, Nat.add_mod_right, Nat.mod_eq_of_lt (by omega)]
/-- The ring as it is seen from its place s on. -/
def rG (r : List Nat) (s i : Nat) : Nat := gm r (s + i)
theorem rG_end (r : List Nat) (s : Nat) : rG r s r.length = rG r s 0 := by unfold rG; rw [Nat.add_zero, gm_add]
theorem rG_add (r : List Nat) (s i : Nat) : rG r s (i + r.length) = rG r s i := by unfold rG; rw [← Nat.add_assoc, gm_add]
def nxR (r : List Nat) (n s k : Nat) : List Nat := rG r s 0 :: n :: (List.range (r.length - k)).map fun i => rG r s (k + i)
/-- What is seen is a run: k places from s on. -/
structure Run (ps : List Pt) (r : List Nat) (n s k : Nat) : Prop where
  start : s < r.length
  one : 1 ≤ k
  lt : k < r.length
  at_ : ∀ i, i < r.length → (trn (gp ps (rG r s i)) (gp ps (rG r s (i + 1))) (gp ps n) < 0 ↔ i < k)
theorem aft_gm (r : List Nat) (i : Nat) : aft r i = gm r (i + 1) := rfl
theorem gn_mod (r : List Nat) (i : Nat) : gn r (i % r.length) = gm r i := rfl
theorem seen_at {ps : List Pt} {r : List Nat} {n s : Nat} (i : Nat) : seenB ps r n ((s + i) % r.length) = decide (trn (gp ps (rG r s i)) (gp ps (rG r s (i + 1))) (gp ps n) < 0) := by
  unfold seenB rG aft gm
  rw [Nat.mod_add_mod]; rfl
theorem blk_run {ps : List Pt} {r : List Nat} {n s k : Nat} (h : Run ps r n s k) {i : Nat} (hi : i < r.length) :
    blkN ps r n ((s + i) % r.length) = if i = 0 then [rG r s 0, n] else if i < k then [] else [rG r s i] := by
  have h1 := h.one
  have h2 := h.lt
  have e1 : seenB ps r n ((s + i) % r.length) = decide (i < k) := by rw [seen_at]; exact decide_eq_decide.2 (h.at_ i hi)
  have e0 : gn r ((s + i) % r.length) = rG r s i := rfl
  have e2 : befB ps r n ((s + i) % r.length) = decide (1 ≤ i ∧ i - 1 < k) := by
    unfold befB
    have q : ((s + i) % r.length + r.length - 1) % r.length = (s + (if i = 0 then r.length - 1 else i - 1)) % r.length := by
      rw [show (s + i) % r.length + r.length - 1 = (s + i) % r.length + (r.length - 1) by omega, Nat.mod_add_mod]
      split
      · rename_i e; subst e; rw [Nat.add_zero]
      · rw [show s + i + (r.length - 1) = s + (i - 1) + r.length by omega, Nat.add_mod_right]
    rw [q, seen_at, decide_eq_decide]
    split
    · rename_i e; subst e
      rw [h.at_ (r.length - 1) (by omega)]; omega
    · rw [h.at_ (i - 1) (by omega)]; omega
  unfold blkN
  rw [e1, e2, e0]
  by_cases c0 : i = 0
  · subst c0
    rw [if_pos rfl]
    simp
    omega
  · rw [if_neg c0]
    by_cases ck : i < k
    · rw [if_pos ck]
      have a1 : decide (1 ≤ i ∧ i - 1 < k) = true := decide_eq_true (by omega)
      rw [a1, decide_eq_true ck]; rfl
    · rw [if_neg ck, decide_eq_false ck]; simp
theorem range_cut {k m : Nat} (h : k ≤ m) : List.range m = List.range k ++ (List.range (m - k)).map (k + ·) := by rw [← List.range_add, show k + (m - k) = m by omega]
theorem ring_run {ps : List Pt} {r : List Nat} {n s k : Nat} (h : Run ps r n s k) : ∃ A B, ringTo ps r n r.length = A ++ B ∧ nxR r n s k = B ++ A := by
  obtain ⟨A, B, e1, e2⟩ := flat_turn (blkN ps r n) h.start
  refine ⟨A, B, e1, ?_⟩
  rw [← e2]
  have h1 := h.one
  have h2 := h.lt
  have q : (List.range r.length).flatMap (fun i => blkN ps r n ((s + i) % r.length)) = (List.range r.length).flatMap (fun i => if i = 0 then [rG r s 0, n] else if i < k then [] else [rG r s i]) := by
    rw [List.flatMap_def, List.flatMap_def]
    congr 1
    refine List.map_congr_left fun i hi => ?_
    exact blk_run h (List.mem_range.1 hi)
  rw [q, range_cut (k := 1) (m := r.length) (by omega), List.flatMap_append]
  have q1 : ((List.range 1).flatMap fun i => if i = 0 then [rG r s 0, n] else if i < k then [] else [rG r s i]) = [rG r s 0, n] := rfl
  rw [q1, range_cut (k := k - 1) (m := r.length - 1) (by omega), List.map_append, List.flatMap_append, List.flatMap_map, List.map_map, List.flatMap_map]
  have q2 : ((List.range (k - 1)).flatMap fun i => if 1 + i = 0 then [rG r s 0, n] else if 1 + i < k then [] else [rG r s (1 + i)]) = [] := by
    rw [List.flatMap_eq_nil_iff]
    intro i hi
    rw [List.mem_range] at hi
    rw [if_neg (by omega), if_pos (by omega)]
  rw [q2]
  unfold nxR
  rw [List.nil_append, show r.length - 1 - (k - 1) = r.length - k by omega]
  show rG r s 0 :: n :: _ = rG r s 0 :: n :: _
  congr 2
  have q3 : ∀ i, (if (1 + (k - 1 + i)) = 0 then [rG r s 0, n] else if 1 + (k - 1 + i) < k then [] else [rG r s (1 + (k - 1 + i))]) = [rG r s (k + i)] := fun i => by
    rw [if_neg (by omega), if_neg (by omega), show 1 + (k - 1 + i) = k + i by omega]
  simp only [Function.comp_def, q3]
  rw [List.flatMap_def]
  induction (List.range (r.length - k)) with
  | nil => rfl
  | cons a l ih => simp [ih]
theorem new_run {ps : List Pt} {r : List Nat} {n s k : Nat} (h : Run ps r n s k) : ∃ A B, newTo ps r n r.length = A ++ B ∧ ((List.range k).map fun i => (⟨rG r s (i + 1), rG r s i, n⟩ : Tri3)) = B ++ A := by
  obtain ⟨A, B, e1, e2⟩ := flat_turn (fun i => if seenB ps r n i = true then [(⟨aft r i, gn r i, n⟩ : Tri3)] else []) h.start
  refine ⟨A, B, e1, ?_⟩
  rw [← e2]
  have h1 := h.one
  have h2 := h.lt
  have q : (List.range r.length).flatMap (fun i => if seenB ps r n ((s + i) % r.length) = true then [(⟨aft r ((s + i) % r.length), gn r ((s + i) % r.length), n⟩ : Tri3)] else []) = (List.range r.length).flatMap (fun i => if i < k then [(⟨rG r s (i + 1), rG r s i, n⟩ : Tri3)] else []) := by
    rw [List.flatMap_def, List.flatMap_def]
    congr 1
    refine List.map_congr_left fun i hi => ?_
    have hi := List.mem_range.1 hi
    rw [seen_at]
    have e : aft r ((s + i) % r.length) = rG r s (i + 1) := by unfold aft rG gm; rw [Nat.mod_add_mod]; rfl
    by_cases c : i < k
    · rw [if_pos c, if_pos (decide_eq_true ((h.at_ i hi).2 c)), e]; rfl
    · rw [if_neg c, if_neg (by rw [decide_eq_true_iff, h.at_ i hi]; exact c)]
  rw [q, range_cut (k := k) (m := r.length) (by omega), List.flatMap_append, List.flatMap_map]
  have q2 : ((List.range (r.length - k)).flatMap fun i => if k + i < k then [(⟨rG r s (k + i + 1), rG r s (k + i), n⟩ : Tri3)] else []) = [] := by
    rw [List.flatMap_eq_nil_iff]
    intro i hi
    rw [if_neg (by omega)]
  rw [q2, List.append_nil, List.flatMap_def]
  have q3 : ∀ l : List Nat, (∀ i ∈ l, i < k) → (l.map fun i => (⟨rG r s (i + 1), rG r s i, n⟩ : Tri3)) = (l.map fun i => if i < k then [(⟨rG r s (i + 1), rG r s i, n⟩ : Tri3)] else []).flatten := by
    intro l
    induction l with
    | nil => intro _; rfl
    | cons a l ih =>
      intro hl
      rw [List.map_cons, List.map_cons, List.flatten_cons, if_pos (hl a List.mem_cons_self), ← ih (fun i hi => hl i (List.mem_cons_of_mem _ hi))]
      rfl
  exact q3 _ fun i hi => List.mem_range.1 hi

/-! ### the new ring's neighbours -/
theorem nxR_len (r : List Nat) (n s k : Nat) : (nxR r n s k).length = r.length - k + 2 := by simp [nxR]
theorem nxR_at {r : List Nat} {n s k i : Nat} (hi : i < r.length - k) : gn (nxR r n s k) (i + 2) = rG r s (k + i) := by
  unfold nxR gn
  simp [List.getD_eq_getElem?_getD, hi]
theorem gm_nxR {r : List Nat} {n s k : Nat} (hk : k < r.length) (j : Nat) :
    (gm (nxR r n s k) j = rG r s 0 ∧ gm (nxR r n s k) (j + 1) = n ∧ gm (nxR r n s k) (j + 2) = rG r s k) ∨
    (gm (nxR r n s k) j = n ∧ gm (nxR r n s k) (j + 1) = rG r s k ∧ gm (nxR r n s k) (j + 2) = rG r s (k + 1)) ∨
    (gm (nxR r n s k) j = rG r s (r.length - 1) ∧ gm (nxR r n s k) (j + 1) = rG r s 0 ∧ gm (nxR r n s k) (j + 2) = n) ∨
    (∃ i, k < i ∧ i < r.length ∧ gm (nxR r n s k) j = rG r s (i - 1) ∧ gm (nxR r n s k) (j + 1) = rG r s i ∧ gm (nxR r n s k) (j + 2) = rG r s (i + 1)) := by
  have L := nxR_len r n s k
  have M0 : 0 < (nxR r n s k).length := by omega
  have key : ∀ t, gm (nxR r n s k) t = (if t % (nxR r n s k).length = 0 then rG r s 0 else if t % (nxR r n s k).length = 1 then n else rG r s (k + (t % (nxR r n s k).length - 2))) := fun t => by
    have ht : t % (nxR r n s k).length < (nxR r n s k).length := Nat.mod_lt _ M0
    unfold gm
    generalize t % (nxR r n s k).length = q at *
    split
    · rename_i e; subst e; rfl
    · split
      · rename_i e; subst e; rfl
      · obtain ⟨e, rfl⟩ : ∃ e, q = e + 2 := ⟨q - 2, by omega⟩
        rw [nxR_at (by omega)]; rfl
  have nx : ∀ t, (t + 1) % (nxR r n s k).length = if t % (nxR r n s k).length + 1 = (nxR r n s k).length then 0 else t % (nxR r n s k).length + 1 := fun t => by
    have ht : t % (nxR r n s k).length < (nxR r n s k).length := Nat.mod_lt _ M0
    rw [← Nat.mod_add_mod]
    split
    · rename_i e; rw [e, Nat.mod_self]
    · exact Nat.mod_eq_of_lt (by omega)
  have a0 := key j
  have a1 := key (j + 1)
  have a2 := key (j + 2)
  have n1 := nx j
  have n2 := nx (j + 1)
  have h0 : j % (nxR r n s k).length < (nxR r n s k).length := Nat.mod_lt _ M0
  rw [n2] at a2
  rw [n1] at a1 a2
  generalize j % (nxR r n s k).length = q at *
  rw [L] at *
  have we := rG_end r s
  rcases Nat.lt_or_ge q 1 with c | c
  · have : q = 0 := by omega
    subst this
    left
    rw [if_pos rfl] at a0
    rw [if_neg (show ¬ 0 + 1 = r.length - k + 2 by omega)] at a1 a2
    rw [if_neg (by omega), if_pos (by omega)] at a1
    rw [if_neg (show ¬ 0 + 1 + 1 = r.length - k + 2 by omega), if_neg (by omega), if_neg (by omega)] at a2
    exact ⟨a0, a1, a2⟩
  rcases Nat.lt_or_ge q 2 with c2 | c2
  · have : q = 1 := by omega
    subst this
    right; left
    rw [if_neg (by omega), if_pos rfl] at a0
    rw [if_neg (show ¬ 1 + 1 = r.length - k + 2 by omega)] at a1 a2
    rw [if_neg (by omega), if_neg (by omega)] at a1
    refine ⟨a0, a1, ?_⟩
    by_cases e : r.length - k = 1
    · rw [if_pos (show 1 + 1 + 1 = r.length - k + 2 by omega), if_pos rfl] at a2
      rw [a2, show k + 1 = r.length by omega, we]
    · rw [if_neg (show ¬ 1 + 1 + 1 = r.length - k + 2 by omega), if_neg (by omega), if_neg (by omega)] at a2
      rw [a2]
  right; right
  rw [if_neg (by omega), if_neg (by omega)] at a0
  by_cases e : q + 1 = r.length - k + 2
  · left
    rw [if_pos e] at a1 a2
    rw [if_pos rfl] at a1
    rw [if_neg (show ¬ 0 + 1 = r.length - k + 2 by omega), if_neg (by omega), if_pos (by omega)] at a2
    exact ⟨by rw [a0]; congr 1; omega, a1, a2⟩
  · right
    rw [if_neg e] at a1 a2
    rw [if_neg (by omega), if_neg (by omega)] at a1
    refine ⟨k + (q - 2) + 1, by omega, by omega, by rw [a0]; congr 1, by rw [a1]; congr 1; omega, ?_⟩
    by_cases e2 : q + 1 + 1 = r.length - k + 2
    · rw [if_pos e2, if_pos rfl] at a2
      rw [a2, ← we]; congr 1; omega
    · rw [if_neg e2, if_neg (by omega), if_neg (by omega)] at a2
      rw [a2]; congr 1; omega
end Go.Proofs.Ytcebmcbglhkkfaa
