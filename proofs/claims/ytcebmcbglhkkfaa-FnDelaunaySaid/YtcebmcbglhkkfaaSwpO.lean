
import Derived.Test.YtcebmcbglhkkfaaSwpN
/- The sweep: every new point sees one run of edges; the triangles; the whole sweep. No program in sight. -/
set_option linter.unusedVariables false
set_option linter.unusedSimpArgs false
namespace Go.Proofs.Ytcebmcbglhkkfaa
open Go.RowKit

section
variable {ps : List Pt} {n : Nat} {r : List Nat}
/-- Some edge is seen: the one behind or ahead of the last point. -/
theorem Rg.some_seen (h : Rg ps n r) (hO : Ord ps) (hn : n < ps.length) (hF : ∀ j, gm r j ≠ gm r (j + 2)) (hmx : ∃ j, gm r j + 1 = n) : ∃ j, trn (gp ps (gm r j)) (gp ps (gm r (j + 1))) (gp ps n) < 0 := by
  obtain ⟨j0, hj0⟩ := hmx
  have m0 : 0 < r.length := by have := h.two; omega
  -- a place that has one before it
  obtain ⟨j, hj⟩ : ∃ j, gm r (j + 1) + 1 = n := ⟨j0 + r.length - 1, by rw [show j0 + r.length - 1 + 1 = j0 + r.length by omega, gm_add]; exact hj0⟩
  refine Classical.byContradiction fun hno => ?_
  have u1 : 0 ≤ trn (gp ps (gm r j)) (gp ps (gm r (j + 1))) (gp ps n) := by
    refine Decidable.byContradiction fun hh => hno ⟨j, by omega⟩
  have u2 : 0 ≤ trn (gp ps (gm r (j + 1))) (gp ps (gm r (j + 2))) (gp ps n) := by
    refine Decidable.byContradiction fun hh => hno ⟨j + 1, by show trn (gp ps (gm r (j + 1))) (gp ps (gm r (j + 1 + 1))) (gp ps n) < 0; have e : j + 1 + 1 = j + 2 := rfl; rw [e]; omega⟩
  have l1 := h.left j (gm r (j + 2)) (h.lt _)
  have b1 := h.bet j (gm r (j + 2)) (h.lt _)
  have b2 := h.bet (j + 1) (gm r j) (h.lt _)
  have hx := h.lt j
  have hy := h.lt (j + 1)
  have hz := h.lt (j + 2)
  have nx := h.ne j
  have nz := h.ne (j + 1)
  have hf := hF j
  have e2 : j + 1 + 1 = j + 2 := rfl
  rw [e2] at b2 nz
  generalize gm r j = x at *
  generalize gm r (j + 1) = y at *
  generalize gm r (j + 2) = z at *
  have lx := hO x y (by omega) (by omega)
  have lz := hO z y (by omega) (by omega)
  have ln := hO y n (by omega) hn
  -- u = y - x, v' = y - z, w = n - y
  have f1 : 0 ≤ cr (gp ps x) (gp ps y) (gp ps y) (gp ps n) := by rw [← trn_1]; exact u1
  have f2 : 0 ≤ cr (gp ps y) (gp ps n) (gp ps z) (gp ps y) := by
    have : cr (gp ps y) (gp ps n) (gp ps z) (gp ps y) = trn (gp ps y) (gp ps z) (gp ps n) := by unfold trn cr; grind
    omega
  have f3 : cr (gp ps x) (gp ps y) (gp ps z) (gp ps y) = -trn (gp ps x) (gp ps y) (gp ps z) := by unfold trn cr; grind
  have f4 := cr_trans lx ln lz f1 f2
  have z0 : trn (gp ps x) (gp ps y) (gp ps z) = 0 := by omega
  have c1 := b1 z0
  have c2 := b2 (by rw [← trn_rot]; exact z0)
  unfold Btw at c1 c2
  omega
/-- Not both edges at the first point are seen. -/
theorem Rg.first_not (h : Rg ps n r) (hO : Ord ps) (hn : n < ps.length) {j : Nat} (hj : gm r (j + 1) = 0) (s1 : trn (gp ps (gm r j)) (gp ps (gm r (j + 1))) (gp ps n) < 0) (s2 : trn (gp ps (gm r (j + 1))) (gp ps (gm r (j + 2))) (gp ps n) < 0) : False := by
  have l1 := h.left j (gm r (j + 2)) (h.lt _)
  have hx := h.lt j
  have hz := h.lt (j + 2)
  have nx := h.ne j
  have nz := h.ne (j + 1)
  have e2 : j + 1 + 1 = j + 2 := rfl
  rw [e2] at nz
  rw [hj] at *
  generalize gm r j = x at *
  generalize gm r (j + 2) = z at *
  have lx := hO 0 x (by omega) (by omega)
  have lz := hO 0 z (by omega) (by omega)
  have ln := hO 0 n (by omega) hn
  have f1 : 0 < cr (gp ps 0) (gp ps x) (gp ps 0) (gp ps n) := by
    have : cr (gp ps 0) (gp ps x) (gp ps 0) (gp ps n) = -trn (gp ps x) (gp ps 0) (gp ps n) := by unfold trn cr; grind
    omega
  have f2 : 0 < cr (gp ps 0) (gp ps n) (gp ps 0) (gp ps z) := by
    have : cr (gp ps 0) (gp ps n) (gp ps 0) (gp ps z) = -trn (gp ps 0) (gp ps z) (gp ps n) := by unfold trn cr; grind
    omega
  have f3 := cr_trans_l lx ln lz f1 (Int.le_of_lt f2)
  have : cr (gp ps 0) (gp ps x) (gp ps 0) (gp ps z) = -trn (gp ps x) (gp ps 0) (gp ps z) := by unfold trn cr; grind
  omega
/-- Where two runs would begin: there is one. -/
theorem Rg.one_run (h : Rg ps n r) (hO : Ord ps) (hn : n < ps.length) {i j : Nat} (ui : 0 ≤ trn (gp ps (gm r i)) (gp ps (gm r (i + 1))) (gp ps n)) (si : trn (gp ps (gm r (i + 1))) (gp ps (gm r (i + 2))) (gp ps n) < 0)
    (uj : 0 ≤ trn (gp ps (gm r j)) (gp ps (gm r (j + 1))) (gp ps n)) (sj : trn (gp ps (gm r (j + 1))) (gp ps (gm r (j + 2))) (gp ps n) < 0) : gm r (i + 1) = gm r (j + 1) := by
  have t1 := h.tang hO hn i ui si (h.lt (j + 1))
  have t2 := h.tang hO hn j uj sj (h.lt (i + 1))
  have li := h.left (i + 1) (gm r (j + 1)) (h.lt _)
  have lj := h.left (j + 1) (gm r (i + 1)) (h.lt _)
  have a1 := h.lt (i + 1)
  have a2 := h.lt (j + 1)
  have e2 : i + 1 + 1 = i + 2 := rfl
  have e3 : j + 1 + 1 = j + 2 := rfl
  rw [e2] at li
  rw [e3] at lj
  generalize gm r (i + 1) = a at *
  generalize gm r (j + 1) = b at *
  generalize gm r (i + 2) = a' at *
  generalize gm r (j + 2) = b' at *
  have z : trn (gp ps a) (gp ps n) (gp ps b) = 0 := by
    have : trn (gp ps b) (gp ps n) (gp ps a) = -trn (gp ps a) (gp ps n) (gp ps b) := by unfold trn; grind
    omega
  rcases Nat.lt_trichotomy a b with e | e | e
  · exfalso
    have := dir_lt (p := gp ps a) (q := gp ps a') (hO a n (by omega) hn) (hO a b e (by omega)) z (by rw [← trn_2]; exact si)
    rw [← trn_2] at this
    omega
  · exact e
  · exfalso
    have z' : trn (gp ps b) (gp ps n) (gp ps a) = 0 := by
      have : trn (gp ps b) (gp ps n) (gp ps a) = -trn (gp ps a) (gp ps n) (gp ps b) := by unfold trn; grind
      omega
    have := dir_lt (p := gp ps b) (q := gp ps b') (hO b n (by omega) hn) (hO b a e (by omega)) z' (by rw [← trn_2]; exact sj)
    rw [← trn_2] at this
    omega
theorem gm_inj {r : List Nat} (hd : r.Nodup) {i j : Nat} (hi : i < r.length) (hj : j < r.length) (e : gm r i = gm r j) : i = j := by
  rw [gm_lt hi, gm_lt hj] at e
  exact gn_inj hd hi hj e
/-- What a ring of n points, not all on one line, keeps. -/
structure Fat (ps : List Pt) (n : Nat) (r : List Nat) : Prop extends Rg ps n r where
  fat : ∀ j, gm r j ≠ gm r (j + 2)
  nodup : r.Nodup
  mx : ∃ j, gm r j + 1 = n
  mn : ∃ j, gm r j = 0
theorem Fat.run (h : Fat ps n r) (hO : Ord ps) (hn : n < ps.length) : ∃ s k, Run ps r n s k := by
  have m0 : 0 < r.length := by have := h.two; omega
  have gmod : ∀ i, gm r (i % r.length) = gm r i := gm_mod r
  have gs : ∀ i, seenB ps r n (i % r.length) = decide (trn (gp ps (gm r i)) (gp ps (gm r (i + 1))) (gp ps n) < 0) := fun i => by
    unfold seenB aft
    rw [Nat.mod_add_mod]
    rfl
  obtain ⟨s, k, hs, h1, hk, hat⟩ := run_ex (f := seenB ps r n) (m := r.length) (by
      obtain ⟨j, hj⟩ := h.toRg.some_seen hO hn h.fat h.mx
      exact ⟨j % r.length, Nat.mod_lt _ m0, by rw [gs]; exact decide_eq_true hj⟩) (by
      obtain ⟨j0, hj0⟩ := h.mn
      have hj : gm r (j0 + r.length - 1 + 1) = 0 := by rw [show j0 + r.length - 1 + 1 = j0 + r.length by omega, gm_add]; exact hj0
      by_cases c1 : trn (gp ps (gm r (j0 + r.length - 1))) (gp ps (gm r (j0 + r.length - 1 + 1))) (gp ps n) < 0
      · by_cases c2 : trn (gp ps (gm r (j0 + r.length - 1 + 1))) (gp ps (gm r (j0 + r.length - 1 + 2))) (gp ps n) < 0
        · exact (h.toRg.first_not hO hn hj c1 c2).elim
        · exact ⟨(j0 + r.length - 1 + 1) % r.length, Nat.mod_lt _ m0, by rw [gs]; exact decide_eq_false c2⟩
      · exact ⟨(j0 + r.length - 1) % r.length, Nat.mod_lt _ m0, by rw [gs]; exact decide_eq_false c1⟩)
    (fun i j hi hj ui si uj sj => by
      rw [gs] at ui uj
      have si' := gs i
      rw [Nat.mod_eq_of_lt hi, si] at si'
      have sj' := gs j
      rw [Nat.mod_eq_of_lt hj, sj] at sj'
      have ui := of_decide_eq_false ui
      have uj := of_decide_eq_false uj
      have si := of_decide_eq_true si'.symm
      have sj := of_decide_eq_true sj'.symm
      have ei : gm r (i + r.length - 1 + 1) = gm r i := by rw [show i + r.length - 1 + 1 = i + r.length by omega, gm_add]
      have ej : gm r (j + r.length - 1 + 1) = gm r j := by rw [show j + r.length - 1 + 1 = j + r.length by omega, gm_add]
      have ei2 : gm r (i + r.length - 1 + 2) = gm r (i + 1) := by rw [show i + r.length - 1 + 2 = i + 1 + r.length by omega, gm_add]
      have ej2 : gm r (j + r.length - 1 + 2) = gm r (j + 1) := by rw [show j + r.length - 1 + 2 = j + 1 + r.length by omega, gm_add]
      have := h.toRg.one_run hO hn (i := i + r.length - 1) (j := j + r.length - 1) (by omega) (by rw [ei, ei2]; exact si) (by omega) (by rw [ej, ej2]; exact sj)
      rw [ei, ej] at this
      exact gm_inj h.nodup hi hj this)
  exact ⟨s, k, hs, h1, hk, fun i hi => by
    have := hat i hi
    rw [gs] at this
    exact decide_eq_decide.1 this⟩
/-! ### turning a ring -/
theorem Fat.turn {A B : List Nat} (h : Fat ps n (B ++ A)) : Fat ps n (A ++ B) := by
  have g : ∀ j, gm (A ++ B) j = gm (B ++ A) (B.length + j) := fun j => (gm_turn A B j).symm
  have g1 : ∀ j, gm (A ++ B) (j + 1) = gm (B ++ A) (B.length + j + 1) := fun j => g (j + 1)
  have g2 : ∀ j, gm (A ++ B) (j + 2) = gm (B ++ A) (B.length + j + 2) := fun j => g (j + 2)
  have gb : ∀ j, gm (B ++ A) j = gm (A ++ B) (A.length + j) := fun j => (gm_turn B A j).symm
  exact
    { two := by have := h.two; simp at this ⊢; omega
      lt := fun j => by rw [g]; exact h.lt _
      ne := fun j => by rw [g, g1]; exact h.ne _
      left := fun j => by rw [g, g1]; exact h.left _
      bet := fun j => by rw [g, g1]; exact h.bet _
      crn := fun j => by rw [g j, g2 j, g1 j]; exact h.crn _
      fat := fun j => by rw [g, g2]; exact h.fat _
      nodup := List.perm_append_comm.nodup_iff.1 h.nodup
      mx := by obtain ⟨j, hj⟩ := h.mx; exact ⟨A.length + j, by rw [← gb]; exact hj⟩
      mn := by obtain ⟨j, hj⟩ := h.mn; exact ⟨A.length + j, by rw [← gb]; exact hj⟩ }
def ChF (F : Nat → Nat → Int) (r : List Nat) : Int := sumN (fun j => F (gm r j) (gm r (j + 1))) r.length
theorem ChF_from (F : Nat → Nat → Int) (r : List Nat) {s : Nat} (hs : s < r.length) : ChF F r = sumN (fun j => F (rG r s j) (rG r s (j + 1))) r.length := by
  unfold ChF
  rw [← sumN_shift (fun j => F (gm r j) (gm r (j + 1))) hs]
  refine sumN_congr fun j _ => ?_
  unfold rG
  rw [gm_mod]
  congr 1
  have e : gm r ((s + j) % r.length + 1) = gm r (s + j + 1) := by unfold gm; rw [Nat.mod_add_mod]
  rw [e]; rfl
theorem ChF_turn (F : Nat → Nat → Int) (A B : List Nat) (hA : 0 < A.length) : ChF F (A ++ B) = ChF F (B ++ A) := by
  rw [ChF_from F (B ++ A) (s := B.length) (by simp; omega)]
  unfold ChF rG
  rw [show (A ++ B).length = (B ++ A).length by simp; omega]
  refine sumN_congr fun j _ => ?_
  rw [gm_turn, show B.length + (j + 1) = B.length + (j + 1) from rfl, gm_turn]
def TF (F : Nat → Nat → Int) : List Tri3 → Int
  | [] => 0
  | t :: T => F t.a t.b + F t.b t.c + F t.c t.a + TF F T
theorem TF_app (F : Nat → Nat → Int) : ∀ S T, TF F (S ++ T) = TF F S + TF F T
  | [], T => by simp [TF]
  | t :: S, T => by rw [List.cons_append, TF, TF, TF_app F S T]; omega
theorem TF_run (F : Nat → Nat → Int) (hF : ∀ x y, F y x = -F x y) (G : Nat → Nat) (n : Nat) : ∀ k, TF F ((List.range k).map fun i => (⟨G (i + 1), G i, n⟩ : Tri3)) = F (G 0) n - F (G k) n - sumN (fun i => F (G i) (G (i + 1))) k
  | 0 => by simp [TF, sumN]
  | k + 1 => by
    rw [List.range_succ, List.map_append, TF_app, TF_run F hF G n k]
    show _ + (F (G (k + 1)) (G k) + F (G k) n + F n (G (k + 1)) + 0) = F (G 0) n - F (G (k + 1)) n - (sumN (fun i => F (G i) (G (i + 1))) k + F (G k) (G (k + 1)))
    have := hF (G k) (G (k + 1))
    have := hF (G (k + 1)) n
    omega
/-- What the new ring's edges add up to. -/
theorem ChF_nx (F : Nat → Nat → Int) {s k : Nat} (hk : k < r.length) (hs : s < r.length) (h1 : 1 ≤ k) :
    ChF F (nxR r n s k) = F (rG r s 0) n + F n (rG r s k) + (ChF F r - sumN (fun i => F (rG r s i) (rG r s (i + 1))) k) := by
  have L := nxR_len r n s k
  have e0 := rG_end r s
  have A0 : gm (nxR r n s k) 0 = rG r s 0 := by rw [gm_lt (by omega)]; rfl
  have A1 : gm (nxR r n s k) 1 = n := by rw [gm_lt (by omega)]; rfl
  have A2 : ∀ i, i ≤ r.length - k → gm (nxR r n s k) (2 + i) = rG r s (k + i) := fun i hi => by
    rcases Nat.lt_or_ge i (r.length - k) with h | h
    · rw [gm_lt (by omega), Nat.add_comm 2 i]
      exact nxR_at h
    · have ei : i = r.length - k := by omega
      rw [ei, show 2 + (r.length - k) = 0 + (nxR r n s k).length by omega, gm_add, A0, show k + (r.length - k) = r.length by omega, e0]
  unfold ChF
  rw [L, show r.length - k + 2 = 2 + (r.length - k) by omega, sumN_split]
  have t2 : sumN (fun j => F (gm (nxR r n s k) j) (gm (nxR r n s k) (j + 1))) 2 = F (rG r s 0) n + F n (rG r s k) := by
    show (0 + F (gm (nxR r n s k) 0) (gm (nxR r n s k) (0 + 1))) + F (gm (nxR r n s k) 1) (gm (nxR r n s k) (1 + 1)) = _
    have := A2 0 (by omega)
    rw [Nat.add_zero k] at this
    rw [A0, show (0 : Nat) + 1 = 1 from rfl, A1, show (1 : Nat) + 1 = 2 + 0 from rfl, this]
    omega
  have t3 : sumN (fun j => F (gm (nxR r n s k) (2 + j)) (gm (nxR r n s k) (2 + j + 1))) (r.length - k) = sumN (fun j => F (rG r s (k + j)) (rG r s (k + j + 1))) (r.length - k) := sumN_congr fun j hj => by
    rw [A2 j (by omega), show 2 + j + 1 = 2 + (j + 1) by omega, A2 (j + 1) (by omega)]
    rfl
  rw [t2, t3]
  have := ChF_from F r hs
  unfold ChF at this
  rw [this]
  have sp := sumN_split (fun j => F (rG r s j) (rG r s (j + 1))) k (r.length - k)
  rw [show k + (r.length - k) = r.length by omega] at sp
  omega
/-! ### one step -/
def ptT (t : Tri3) (n : Nat) : Prop := t.a < n ∧ t.b < n ∧ t.c < n
/-- No point of the list but its corners lies in the triangle. -/
def EmpT (ps : List Pt) (t : Tri3) : Prop := ∀ d, d < ps.length → 0 ≤ trn (gp ps t.a) (gp ps t.b) (gp ps d) → 0 ≤ trn (gp ps t.b) (gp ps t.c) (gp ps d) → 0 ≤ trn (gp ps t.c) (gp ps t.a) (gp ps d) → d = t.a ∨ d = t.b ∨ d = t.c
/-- A point ahead of all three corners in order lies in no triangle. -/
theorem lex_out {a b c d : Pt} (ha : ltP a d) (hb : ltP b d) (hc : ltP c d) (h : 0 < trn a b c) (h1 : 0 ≤ trn a b d) (h2 : 0 ≤ trn b c d) (h3 : 0 ≤ trn c a d) : False := by
  have fa := fwd ha
  have fb := fwd hb
  have fc := fwd hc
  -- a direction in which all three differences are positive
  have key : ∀ u v : Int, (0 < u ∨ (u = 0 ∧ 0 < v)) → ∀ M : Int, (if v < 0 then -v else v) < M → 0 < u * M + v := fun u v h M hM => by
    rcases h with h | ⟨h, h'⟩
    · have : M ≤ u * M := by
        have := Int.mul_le_mul_of_nonneg_right (show (1 : Int) ≤ u by omega) (show 0 ≤ M by split at hM <;> omega)
        rwa [Int.one_mul] at this
      split at hM <;> omega
    · subst h; simp; exact h'
  obtain ⟨M, m1, m2, m3⟩ : ∃ M : Int, (if d.y - a.y < 0 then -(d.y - a.y) else d.y - a.y) < M ∧ (if d.y - b.y < 0 then -(d.y - b.y) else d.y - b.y) < M ∧ (if d.y - c.y < 0 then -(d.y - c.y) else d.y - c.y) < M :=
    ⟨(if d.y - a.y < 0 then -(d.y - a.y) else d.y - a.y) + (if d.y - b.y < 0 then -(d.y - b.y) else d.y - b.y) + (if d.y - c.y < 0 then -(d.y - c.y) else d.y - c.y) + 1, by split <;> split <;> split <;> omega, by split <;> split <;> split <;> omega, by split <;> split <;> split <;> omega⟩
  have k1 := key _ _ fa M m1
  have k2 := key _ _ fb M m2
  have k3 := key _ _ fc M m3
  have e : ∀ p : Pt, dotP d M 1 - dotP p M 1 = (d.x - p.x) * M + (d.y - p.y) := fun p => by unfold dotP; rw [Int.sub_mul]; omega
  rcases tri_far h1 h2 h3 h M 1 with q | q | q
  · have := e a; omega
  · have := e b; omega
  · have := e c; omega
theorem Rg.new_tri (h : Rg ps n r) (hO : Ord ps) (hn : n < ps.length) (j : Nat) (s : trn (gp ps (gm r j)) (gp ps (gm r (j + 1))) (gp ps n) < 0) :
    ptT ⟨gm r (j + 1), gm r j, n⟩ (n + 1) ∧ 0 < trnT ps ⟨gm r (j + 1), gm r j, n⟩ ∧ EmpT ps ⟨gm r (j + 1), gm r j, n⟩ := by
  have hx := h.lt j
  have hy := h.lt (j + 1)
  have hl := h.left j
  have hb := h.bet j
  have hne := h.ne j
  generalize gm r j = x at *
  generalize gm r (j + 1) = y at *
  have sw := trn_swap (gp ps y) (gp ps x) (gp ps n)
  refine ⟨⟨by show y < n + 1; omega, by show x < n + 1; omega, by show n < n + 1; omega⟩, by show 0 < trn (gp ps y) (gp ps x) (gp ps n); omega, fun d hd h1 h2 h3 => ?_⟩
  show d = y ∨ d = x ∨ d = n
  have h1 : 0 ≤ trn (gp ps y) (gp ps x) (gp ps d) := h1
  have h2 : 0 ≤ trn (gp ps x) (gp ps n) (gp ps d) := h2
  have h3 : 0 ≤ trn (gp ps n) (gp ps y) (gp ps d) := h3
  rcases Nat.lt_trichotomy d n with c | c | c
  · have l := hl d c
    have sd := trn_swap (gp ps y) (gp ps x) (gp ps d)
    have z : trn (gp ps x) (gp ps y) (gp ps d) = 0 := by omega
    have nb := hb d c z
    unfold Btw at nb
    refine Classical.byContradiction fun hno => ?_
    have hdx : d ≠ x := fun e => hno (.inr (.inl e))
    have hdy : d ≠ y := fun e => hno (.inl e)
    -- d is on the line of x and y, but not between
    have wx := hO x n hx hn
    have wy := hO y n hy hn
    have s' : 0 < trn (gp ps y) (gp ps x) (gp ps n) := by omega
    -- the identity of the line: two of the three turns have opposite signs
    have e1 : trn (gp ps x) (gp ps n) (gp ps d) = cr (gp ps d) (gp ps x) (gp ps x) (gp ps n) := by unfold trn cr; grind
    have e2 : trn (gp ps n) (gp ps y) (gp ps d) = cr (gp ps y) (gp ps d) (gp ps y) (gp ps n) * -1 * -1 := by unfold trn cr; grind
    have cases4 : (x < d ∧ y < d) ∨ (d < x ∧ d < y) := by omega
    have t0 := tri_sum (gp ps y) (gp ps x) (gp ps n) (gp ps d)
    have a1 : trn (gp ps x) (gp ps y) (gp ps n) = cr (gp ps x) (gp ps y) (gp ps x) (gp ps n) := trn_2 _ _ _
    have a2 : trn (gp ps x) (gp ps y) (gp ps n) = cr (gp ps x) (gp ps y) (gp ps y) (gp ps n) := trn_1 _ _ _
    rcases cases4 with ⟨p1, p2⟩ | ⟨p1, p2⟩
    · have f1 := hO x d p1 hd
      have f2 := hO y d p2 hd
      -- both x d and y d go forward; the one of x y says which turn is negative
      rcases Nat.lt_or_ge x y with o | o
      · have f3 := hO x y o (by omega)
        -- x, y, d: trn n y d is negative
        have g1 : cr (gp ps y) (gp ps d) (gp ps x) (gp ps y) = 0 := by have : cr (gp ps y) (gp ps d) (gp ps x) (gp ps y) = trn (gp ps x) (gp ps y) (gp ps d) * -1 := by { unfold trn cr; grind }; omega
        have g2 := cr_trans_l wy f3 f2 (e := gp ps y) (f := gp ps d) (by have : cr (gp ps y) (gp ps n) (gp ps x) (gp ps y) = -cr (gp ps x) (gp ps y) (gp ps y) (gp ps n) := cr_flip _ _ _ _; omega) (by have : cr (gp ps x) (gp ps y) (gp ps y) (gp ps d) = -cr (gp ps y) (gp ps d) (gp ps x) (gp ps y) := cr_flip _ _ _ _; omega)
        have : trn (gp ps n) (gp ps y) (gp ps d) = -cr (gp ps y) (gp ps n) (gp ps y) (gp ps d) := by unfold trn cr; grind
        omega
      · have o : y < x := by omega
        have f3 := hO y x o (by omega)
        have g1 : cr (gp ps x) (gp ps d) (gp ps y) (gp ps x) = 0 := by have : cr (gp ps x) (gp ps d) (gp ps y) (gp ps x) = trn (gp ps x) (gp ps y) (gp ps d) := by { unfold trn cr; grind }; omega
        have g0 : 0 < cr (gp ps y) (gp ps x) (gp ps x) (gp ps n) := by have : cr (gp ps y) (gp ps x) (gp ps x) (gp ps n) = trn (gp ps y) (gp ps x) (gp ps n) := (trn_1 _ _ _).symm; omega
        have g2 := cr_trans_r f1 f3 wx (by omega) g0
        have : trn (gp ps x) (gp ps n) (gp ps d) = -cr (gp ps x) (gp ps d) (gp ps x) (gp ps n) := by unfold trn cr; grind
        omega
    · have f1 := hO d x p1 (by omega)
      have f2 := hO d y p2 (by omega)
      rcases Nat.lt_or_ge x y with o | o
      · have f3 := hO x y o (by omega)
        have g1 : cr (gp ps d) (gp ps x) (gp ps x) (gp ps y) = 0 := by have : cr (gp ps d) (gp ps x) (gp ps x) (gp ps y) = trn (gp ps x) (gp ps y) (gp ps d) := by { unfold trn cr; grind }; omega
        have g0 : cr (gp ps x) (gp ps y) (gp ps x) (gp ps n) < 0 := by omega
        have g2 := cr_trans_l wx f3 f1 (e := gp ps d) (f := gp ps x) (by have : cr (gp ps x) (gp ps n) (gp ps x) (gp ps y) = -cr (gp ps x) (gp ps y) (gp ps x) (gp ps n) := cr_flip _ _ _ _; omega) (by have : cr (gp ps x) (gp ps y) (gp ps d) (gp ps x) = -cr (gp ps d) (gp ps x) (gp ps x) (gp ps y) := cr_flip _ _ _ _; omega)
        have : cr (gp ps x) (gp ps n) (gp ps d) (gp ps x) = -cr (gp ps d) (gp ps x) (gp ps x) (gp ps n) := cr_flip _ _ _ _
        omega
      · have o : y < x := by omega
        have f3 := hO y x o (by omega)
        have g1 : cr (gp ps d) (gp ps y) (gp ps y) (gp ps x) = 0 := by have : cr (gp ps d) (gp ps y) (gp ps y) (gp ps x) = trn (gp ps x) (gp ps y) (gp ps d) * -1 := by { unfold trn cr; grind }; omega
        have g0 : 0 < cr (gp ps y) (gp ps x) (gp ps y) (gp ps n) := by have : cr (gp ps y) (gp ps x) (gp ps y) (gp ps n) = trn (gp ps y) (gp ps x) (gp ps n) := (trn_2 _ _ _).symm; omega
        have g2 := cr_trans_r f2 f3 wy (by omega) g0
        have : trn (gp ps n) (gp ps y) (gp ps d) = -cr (gp ps d) (gp ps y) (gp ps y) (gp ps n) := by unfold trn cr; grind
        omega
  · exact .inr (.inr c)
  · exfalso
    exact lex_out (hO y d (by omega) hd) (hO x d (by omega) hd) (hO n d c hd) (show 0 < trn (gp ps y) (gp ps x) (gp ps n) by omega) h1 h2 h3
/-- A point is added to a fat ring, or to a line of points. -/
theorem Rg.add (h : Rg ps n r) (hO : Ord ps) (hn : n < ps.length) {s k : Nat} (hR : Run ps r n s k) (hc : ∀ j, gm r j = gm r (j + 2) → trn (gp ps (gm r j)) (gp ps (gm r (j + 1))) (gp ps n) ≠ 0)
    (hd : ∀ i j, (i = 0 ∨ k ≤ i) → (j = 0 ∨ k ≤ j) → i < r.length → j < r.length → rG r s i = rG r s j → i = j) (hmn : ∃ i, (i = 0 ∨ k ≤ i) ∧ i < r.length ∧ rG r s i = 0) :
    Fat ps (n + 1) (ringTo ps r n r.length) ∧ (ringTo ps r n r.length).length + k = r.length + 2 ∧ (newTo ps r n r.length).length = k ∧
    (∀ F : Nat → Nat → Int, (∀ x y, F y x = -F x y) → ChF F (ringTo ps r n r.length) = ChF F r + TF F (newTo ps r n r.length)) ∧
    ∀ t ∈ newTo ps r n r.length, ptT t (n + 1) ∧ 0 < trnT ps t ∧ EmpT ps t := by
  have h1 := hR.one
  have hk := hR.lt
  have gl : ∀ i, rG r s i < n := fun i => h.lt _
  obtain ⟨q1, q2⟩ := h.step hO hn hR hc
  obtain ⟨A, B, e1, e2⟩ := ring_run hR
  obtain ⟨A', B', e1', e2'⟩ := new_run hR
  have L := nxR_len r n s k
  have FB : Fat ps (n + 1) (nxR r n s k) :=
    { q1 with
      fat := q2
      nodup := by
        unfold nxR
        rw [List.nodup_cons, List.nodup_cons]
        refine ⟨?_, ?_, ?_⟩
        · rw [List.mem_cons, List.mem_map]
          rintro (e | ⟨i, hi, e⟩)
          · have := gl 0; omega
          · rw [List.mem_range] at hi
            have := hd (k + i) 0 (.inr (by omega)) (.inl rfl) (by omega) (by omega) e
            omega
        · rw [List.mem_map]
          rintro ⟨i, _, e⟩
          have := gl (k + i); omega
        · rw [List.nodup_iff_pairwise_ne, List.pairwise_map]
          refine List.Pairwise.imp_of_mem ?_ (List.nodup_iff_pairwise_ne.1 List.nodup_range)
          intro a b ha hb hab e
          rw [List.mem_range] at ha hb
          have := hd (k + a) (k + b) (.inr (by omega)) (.inr (by omega)) (by omega) (by omega) e
          omega
      mx := ⟨1, by rw [gm_lt (by omega)]; rfl⟩
      mn := by
        obtain ⟨i, hi, hil, e⟩ := hmn
        rcases hi with hi | hi
        · subst hi; exact ⟨0, by rw [gm_lt (by omega)]; exact e⟩
        · refine ⟨i - k + 2, by rw [gm_lt (by omega), nxR_at (by omega), show k + (i - k) = i by omega]; exact e⟩ }
  have lens : (ringTo ps r n r.length).length = r.length - k + 2 := by
    rw [e1, List.length_append, Nat.add_comm, ← List.length_append, ← e2, L]
  refine ⟨?_, by omega, ?_, fun F hF => ?_, fun t ht => ?_⟩
  · rw [e1]; rw [e2] at FB; exact FB.turn
  · rw [e1', List.length_append, Nat.add_comm, ← List.length_append, ← e2']; simp
  · have c1 : ChF F (ringTo ps r n r.length) = ChF F (nxR r n s k) := by
      rw [e1, e2]
      rcases Nat.eq_zero_or_pos A.length with z | z
      · have : A = [] := List.length_eq_zero_iff.1 z
        subst this; simp
      · exact ChF_turn F A B z
    have c2 : TF F (newTo ps r n r.length) = TF F ((List.range k).map fun i => (⟨rG r s (i + 1), rG r s i, n⟩ : Tri3)) := by
      rw [e1', e2', TF_app, TF_app]; omega
    rw [c1, c2, ChF_nx F hk hR.start h1, TF_run F hF (rG r s) n k]
    have := hF (rG r s k) n
    omega
  · have hm : t ∈ ((List.range k).map fun i => (⟨rG r s (i + 1), rG r s i, n⟩ : Tri3)) := by
      rw [e2', List.mem_append]
      rw [e1', List.mem_append] at ht
      exact ht.symm
    obtain ⟨i, hi, rfl⟩ := List.mem_map.1 hm
    rw [List.mem_range] at hi
    exact h.new_tri hO hn (s + i) ((hR.at_ i (by omega)).2 hi)
end
end Go.Proofs.Ytcebmcbglhkkfaa
