
import Derived.Test.YtcebmcbglhkkfaaSwpP
import Derived.Test.YtcebmcbglhkkfaaCirM
/- Flipped triangles: the determinant of a circle, what a flip keeps, why flips end, and that triangles that cannot be flipped are Delaunay. No program in sight. -/
set_option linter.unusedVariables false
set_option linter.unusedSimpArgs false
namespace Go.Proofs.Ytcebmcbglhkkfaa
open Go.RowKit

/-! ### triangles, turned -/
def cor (t : Tri3) (s : Nat) : Nat := if s % 3 = 0 then t.a else if s % 3 = 1 then t.b else t.c
def rotT (t : Tri3) (s : Nat) : Tri3 := ⟨cor t s, cor t (s + 1), cor t (s + 2)⟩
def sdF (F : Nat → Nat → Int) (t : Tri3) : Int := F t.a t.b + F t.b t.c + F t.c t.a
theorem rot_cases (t : Tri3) {s : Nat} (hs : s < 3) : rotT t s = t ∨ rotT t s = ⟨t.b, t.c, t.a⟩ ∨ rotT t s = ⟨t.c, t.a, t.b⟩ := by
  match s, hs with
  | 0, _ => exact .inl rfl
  | 1, _ => exact .inr (.inl rfl)
  | 2, _ => exact .inr (.inr rfl)
theorem rot_sd (F : Nat → Nat → Int) (t : Tri3) {s : Nat} (hs : s < 3) : sdF F (rotT t s) = sdF F t := by
  rcases rot_cases t hs with e | e | e <;> rw [e] <;> unfold sdF <;> (try simp only) <;> omega
theorem rot_trn (ps : List Pt) (t : Tri3) {s : Nat} (hs : s < 3) : trnT ps (rotT t s) = trnT ps t := by
  rcases rot_cases t hs with e | e | e <;> rw [e] <;> unfold trnT
  · exact (trn_rot _ _ _).symm
  · exact trn_rot _ _ _
theorem rot_pt {t : Tri3} {n : Nat} (h : ptT t n) {s : Nat} (hs : s < 3) : ptT (rotT t s) n := by
  obtain ⟨h1, h2, h3⟩ := h
  rcases rot_cases t hs with e | e | e <;> rw [e]
  · exact ⟨h1, h2, h3⟩
  · exact ⟨h2, h3, h1⟩
  · exact ⟨h3, h1, h2⟩
theorem rot_emp {ps : List Pt} {t : Tri3} (h : EmpT ps t) {s : Nat} (hs : s < 3) : EmpT ps (rotT t s) := by
  rcases rot_cases t hs with e | e | e <;> rw [e]
  · exact h
  · intro d hd h1 h2 h3
    have := h d hd h3 h1 h2
    show d = t.b ∨ d = t.c ∨ d = t.a
    omega
  · intro d hd h1 h2 h3
    have := h d hd h2 h3 h1
    show d = t.c ∨ d = t.a ∨ d = t.b
    omega
def hP (p : Pt) : Int := p.x * p.x + p.y * p.y
/-- Thrice the room under the lifted triangle, and twice. -/
def volT (ps : List Pt) (t : Tri3) : Int := trnT ps t * (hP (gp ps t.a) + hP (gp ps t.b) + hP (gp ps t.c))
theorem rot_vol (ps : List Pt) (t : Tri3) {s : Nat} (hs : s < 3) : volT ps (rotT t s) = volT ps t := by
  unfold volT
  rw [rot_trn ps t hs]
  congr 1
  rcases rot_cases t hs with e | e | e <;> rw [e] <;> simp only <;> omega
theorem hP_nn (p : Pt) : 0 ≤ hP p := by
  have := sqP_nn p ⟨0, 0⟩
  unfold sqP at this
  simpa [hP] using this
theorem vol_flip (a b c d : Pt) : trn c a d * (hP c + hP a + hP d) + trn c d b * (hP c + hP d + hP b) = trn a b c * (hP a + hP b + hP c) + trn b a d * (hP b + hP a + hP d) - icD a b c d := by unfold icD sqP hP trn; grind
/-! ### one flip -/
structure TriG (ps : List Pt) (t : Tri3) : Prop where
  pt : ptT t ps.length
  pos : 0 < trnT ps t
  emp : EmpT ps t
theorem TriG.rot {ps : List Pt} {t : Tri3} (h : TriG ps t) {s : Nat} (hs : s < 3) : TriG ps (rotT t s) := ⟨rot_pt h.pt hs, by rw [rot_trn ps t hs]; exact h.pos, rot_emp h.emp hs⟩
theorem TriG.ne {ps : List Pt} {t : Tri3} (h : TriG ps t) : t.a ≠ t.b ∧ t.b ≠ t.c ∧ t.c ≠ t.a := by
  have := h.pos
  unfold trnT at this
  refine ⟨fun e => ?_, fun e => ?_, fun e => ?_⟩
  · rw [e, trn_aab] at this; omega
  · rw [e, trn_abb] at this; omega
  · rw [e, trn_aba] at this; omega
theorem nn_of_mul {S x : Int} (hS : 0 < S) (h : 0 ≤ S * x) : 0 ≤ x := by
  refine Decidable.byContradiction fun hn => ?_
  have := Int.mul_neg_of_pos_of_neg hS (show x < 0 by omega)
  omega
/-- Two triangles with a common side whose corners are inside each other's circle: the other two. -/
theorem flip_tri {ps : List Pt} {a b c d : Nat} (h1 : TriG ps ⟨a, b, c⟩) (h2 : TriG ps ⟨b, a, d⟩) (hD : 0 < icD (gp ps a) (gp ps b) (gp ps c) (gp ps d)) : TriG ps ⟨c, a, d⟩ ∧ TriG ps ⟨c, d, b⟩ := by
  obtain ⟨la, lb, lc⟩ := h1.pt
  obtain ⟨_, _, ld⟩ := h2.pt
  have p1 : 0 < trn (gp ps a) (gp ps b) (gp ps c) := h1.pos
  have p2 : 0 < trn (gp ps b) (gp ps a) (gp ps d) := h2.pos
  have E1 := h1.emp
  have E2 := h2.emp
  unfold EmpT at E1 E2
  simp only at la lb lc ld E1 E2
  have A : trn (gp ps d) (gp ps a) (gp ps b) < 0 := by have := trn_swap (gp ps b) (gp ps a) (gp ps d); have := trn_rot (gp ps d) (gp ps a) (gp ps b); omega
  obtain ⟨G, B⟩ := ic_conv p1 A (.inl hD)
  have q1 : 0 < trn (gp ps c) (gp ps a) (gp ps d) := by have := trn_rot (gp ps d) (gp ps c) (gp ps a); omega
  have q2 : 0 < trn (gp ps c) (gp ps d) (gp ps b) := by have := trn_rot (gp ps d) (gp ps b) (gp ps c); have := trn_rot (gp ps b) (gp ps c) (gp ps d); omega
  have r1 : 0 < trn (gp ps b) (gp ps c) (gp ps d) := by rw [← trn_rot]; exact B
  have r2 : 0 < trn (gp ps b) (gp ps c) (gp ps a) := by rw [← trn_rot]; exact p1
  have r3 : 0 < trn (gp ps d) (gp ps b) (gp ps a) := by rw [trn_rot]; exact p2
  have r4 : 0 < trn (gp ps c) (gp ps a) (gp ps b) := by rw [trn_rot]; exact p1
  have r5 : 0 < trn (gp ps a) (gp ps d) (gp ps b) := by rw [← trn_rot]; exact p2
  have r6 : 0 < trn (gp ps a) (gp ps d) (gp ps c) := by have := trn_rot (gp ps c) (gp ps a) (gp ps d); have e := trn_rot (gp ps a) (gp ps d) (gp ps c); omega
  refine ⟨⟨⟨lc, la, ld⟩, q1, fun q hq e1 e2 e3 => ?_⟩, ⟨⟨lc, ld, lb⟩, q2, fun q hq e1 e2 e3 => ?_⟩⟩
  · simp only at e1 e2 e3 ⊢
    have nb : q ≠ b := fun e => by
      subst e
      have := trn_swap (gp ps c) (gp ps d) (gp ps q)
      omega
    rcases Int.le_total 0 (trn (gp ps a) (gp ps b) (gp ps q)) with hs | hs
    · have bc : 0 ≤ trn (gp ps b) (gp ps c) (gp ps q) := by
        refine nn_of_mul q1 ?_
        rw [bary3 (gp ps c) (gp ps a) (gp ps d) (gp ps b) (gp ps c) (gp ps q), trn_abb]
        have m1 := Int.mul_nonneg e3 (Int.le_of_lt r2)
        have m2 := Int.mul_nonneg e1 (Int.le_of_lt r1)
        omega
      have := E1 q hq hs bc e1
      omega
    · have hs' : 0 ≤ trn (gp ps b) (gp ps a) (gp ps q) := by have := trn_swap (gp ps b) (gp ps a) (gp ps q); omega
      have db : 0 ≤ trn (gp ps d) (gp ps b) (gp ps q) := by
        refine nn_of_mul q1 ?_
        rw [bary3 (gp ps c) (gp ps a) (gp ps d) (gp ps d) (gp ps b) (gp ps q), trn_aba]
        have m1 := Int.mul_nonneg e2 (Int.le_of_lt (show 0 < trn (gp ps d) (gp ps b) (gp ps c) from B))
        have m2 := Int.mul_nonneg e3 (Int.le_of_lt r3)
        omega
      have := E2 q hq hs' e2 db
      omega
  · simp only at e1 e2 e3 ⊢
    have na : q ≠ a := fun e => by
      subst e
      have := trn_swap (gp ps c) (gp ps d) (gp ps q)
      have := trn_rot (gp ps c) (gp ps d) (gp ps q)
      have := trn_rot (gp ps d) (gp ps q) (gp ps c)
      have := trn_swap (gp ps q) (gp ps c) (gp ps d)
      omega
    rcases Int.le_total 0 (trn (gp ps a) (gp ps b) (gp ps q)) with hs | hs
    · have ca : 0 ≤ trn (gp ps c) (gp ps a) (gp ps q) := by
        refine nn_of_mul q2 ?_
        rw [bary3 (gp ps c) (gp ps d) (gp ps b) (gp ps c) (gp ps a) (gp ps q), trn_aba]
        have m1 := Int.mul_nonneg e3 (Int.le_of_lt q1)
        have m2 := Int.mul_nonneg e1 (Int.le_of_lt r4)
        omega
      have := E1 q hq hs e3 ca
      omega
    · have hs' : 0 ≤ trn (gp ps b) (gp ps a) (gp ps q) := by have := trn_swap (gp ps b) (gp ps a) (gp ps q); omega
      have ad : 0 ≤ trn (gp ps a) (gp ps d) (gp ps q) := by
        refine nn_of_mul q2 ?_
        rw [bary3 (gp ps c) (gp ps d) (gp ps b) (gp ps a) (gp ps d) (gp ps q), trn_abb]
        have m1 := Int.mul_nonneg e2 (Int.le_of_lt r6)
        have m2 := Int.mul_nonneg e1 (Int.le_of_lt r5)
        omega
      have := E2 q hq hs' ad e2
      omega
end Go.Proofs.Ytcebmcbglhkkfaa
