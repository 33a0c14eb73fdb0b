
import Derived.Test.YtcebmcbglhkkfaaSwpP
import Derived.Test.YtcebmcbglhkkfaaConv
/- The points on the hull's boundary are the last ring's. No program in sight. -/
set_option linter.unusedVariables false
set_option linter.unusedSimpArgs false
namespace Go.Proofs.Ytcebmcbglhkkfaa
open Go.RowKit

theorem par_pos {ux uy vx vy x y : Int} (hu : 0 < ux ∨ (ux = 0 ∧ 0 < uy)) (hv : 0 < vx ∨ (vx = 0 ∧ 0 < vy)) (h0 : ux * vy = uy * vx) (h : 0 < ux * y - uy * x) : 0 < vx * y - vy * x := by
  have := dir_lt (p := ⟨0, 0⟩) (q := ⟨x, y⟩) (a := ⟨0, 0⟩) (n := ⟨ux, uy⟩) (d := ⟨vx, vy⟩) (by unfold ltP; simp; omega) (by unfold ltP; simp; omega) (by unfold trn; simp; omega) (by unfold cr; simp; have := Int.mul_comm x uy; have := Int.mul_comm y ux; omega)
  unfold cr at this
  simp at this
  have := Int.mul_comm x vy
  have := Int.mul_comm y vx
  omega
theorem par_iff {ux uy vx vy x y : Int} (hu : 0 < ux ∨ (ux = 0 ∧ 0 < uy)) (hv : 0 < vx ∨ (vx = 0 ∧ 0 < vy)) (h0 : ux * vy = uy * vx) : (0 < ux * y - uy * x ↔ 0 < vx * y - vy * x) ∧ (ux * y - uy * x < 0 ↔ vx * y - vy * x < 0) := by
  have h0' : vx * uy = vy * ux := by rw [Int.mul_comm vx, Int.mul_comm vy]; exact h0.symm
  have e1 : ux * -y - uy * -x = -(ux * y - uy * x) := by rw [Int.mul_neg, Int.mul_neg]; omega
  have e2 : vx * -y - vy * -x = -(vx * y - vy * x) := by rw [Int.mul_neg, Int.mul_neg]; omega
  refine ⟨⟨par_pos hu hv h0, par_pos hv hu h0'⟩, fun h => ?_, fun h => ?_⟩
  · have := par_pos (x := -x) (y := -y) hu hv h0 (by omega); omega
  · have := par_pos (x := -x) (y := -y) hv hu h0' (by omega); omega
/-- y lies on a line between x and q: what is left of x y is right of y q. -/
theorem line_sgn {x y q z : Pt} (h : trn x y q = 0) (hb : (ltP x y ∧ ltP y q) ∨ (ltP q y ∧ ltP y x)) : (0 < trn x y z ↔ trn y z q < 0) ∧ (trn x y z < 0 ↔ 0 < trn y z q) := by
  have f := cr_flip y z y q
  rw [trn_1] at h ⊢
  rw [trn_2 y z q, f]
  unfold cr at h ⊢
  rcases hb with ⟨h1, h2⟩ | ⟨h1, h2⟩
  · have a := fwd h1
    have b := fwd h2
    generalize y.x - x.x = ux at *
    generalize y.y - x.y = uy at *
    generalize q.x - y.x = vx at *
    generalize q.y - y.y = vy at *
    generalize z.x - y.x = X at *
    generalize z.y - y.y = Y at *
    have := par_iff (x := X) (y := Y) a b (by omega)
    omega
  · have a := fwd h2
    have b := fwd h1
    have e1 : y.x - x.x = -(x.x - y.x) := by omega
    have e2 : y.y - x.y = -(x.y - y.y) := by omega
    have e3 : q.x - y.x = -(y.x - q.x) := by omega
    have e4 : q.y - y.y = -(y.y - q.y) := by omega
    rw [e1, e2, e3, e4] at h
    rw [e1, e2, e3, e4]
    generalize x.x - y.x = ux at *
    generalize x.y - y.y = uy at *
    generalize y.x - q.x = vx at *
    generalize y.y - q.y = vy at *
    generalize z.x - y.x = X at *
    generalize z.y - y.y = Y at *
    simp only [Int.neg_mul, Int.mul_neg] at h ⊢
    have := par_iff (x := X) (y := Y) a b (by omega)
    omega
theorem ord_btw {ps : List Pt} (hO : Ord ps) {x y q : Nat} (hx : x < ps.length) (hy : y < ps.length) (hq : q < ps.length) (h : Btw x y q) : (ltP (gp ps x) (gp ps y) ∧ ltP (gp ps y) (gp ps q)) ∨ (ltP (gp ps q) (gp ps y) ∧ ltP (gp ps y) (gp ps x)) := by
  rcases h with ⟨a, b⟩ | ⟨a, b⟩
  · exact .inl ⟨hO x y a hy, hO y q b hq⟩
  · exact .inr ⟨hO q y a hy, hO y x b hx⟩
section
variable {ps : List Pt} {n : Nat} {r : List Nat}
/-- b lies between a and q on a line, c follows b: the line goes on. -/
theorem goes_on (hO : Ord ps) {x y z q : Nat} (hx : x < ps.length) (hy : y < ps.length) (hz : z < ps.length) (hq : q < ps.length) (hxz : x ≠ z) (hyz : y ≠ z) (hzq : z ≠ q) (h0 : trn (gp ps x) (gp ps y) (gp ps q) = 0) (hb : Btw x y q)
    (hs : (0 ≤ trn (gp ps x) (gp ps y) (gp ps z) ∧ 0 ≤ trn (gp ps y) (gp ps z) (gp ps q)) ∨ (trn (gp ps x) (gp ps y) (gp ps z) ≤ 0 ∧ trn (gp ps y) (gp ps z) (gp ps q) ≤ 0))
    (b1 : trn (gp ps x) (gp ps y) (gp ps z) = 0 → ¬ Btw x z y) (b2 : trn (gp ps x) (gp ps y) (gp ps z) = 0 → ¬ Btw y x z) (b3 : trn (gp ps y) (gp ps z) (gp ps q) = 0 → ¬ Btw y q z) : trn (gp ps y) (gp ps z) (gp ps q) = 0 ∧ Btw y z q := by
  have ls := line_sgn (z := gp ps z) h0 (ord_btw hO hx hy hq hb)
  obtain ⟨z0, zq⟩ : trn (gp ps x) (gp ps y) (gp ps z) = 0 ∧ trn (gp ps y) (gp ps z) (gp ps q) = 0 := by
    clear b1 b2 b3 hb h0 hxz hyz hzq hx hy hz hq
    generalize trn (gp ps x) (gp ps y) (gp ps z) = A at *
    generalize trn (gp ps y) (gp ps z) (gp ps q) = B at *
    obtain ⟨⟨i1, i2⟩, i3, i4⟩ := ls
    rcases hs with ⟨s1, s2⟩ | ⟨s1, s2⟩
    · have : ¬ 0 < A := fun e => by have := i1 e; omega
      have : ¬ 0 < B := fun e => by have := i4 e; omega
      constructor <;> omega
    · have : ¬ A < 0 := fun e => by have := i3 e; omega
      have : ¬ B < 0 := fun e => by have := i2 e; omega
      constructor <;> omega
  have c1 := b1 z0
  have c2 := b2 z0
  have c3 := b3 zq
  refine ⟨zq, ?_⟩
  clear ls hs b1 b2 b3 z0 zq h0 hO
  unfold Btw at *
  rcases hb with ⟨o1, o2⟩ | ⟨o1, o2⟩
  · left; omega
  · right; omega
theorem Fat.no_line (h : Fat ps n r) (hO : Ord ps) (hn : n ≤ ps.length) {q : Nat} (hq : q < n) (hm : ∀ j, gm r j ≠ q) : ∀ (f j : Nat), (q - gm r (j + 1)) + (gm r (j + 1) - q) ≤ f → trn (gp ps (gm r j)) (gp ps (gm r (j + 1))) (gp ps q) = 0 → Btw (gm r j) (gm r (j + 1)) q → False
  | 0, j, hf, h0, hb => by have := hm (j + 1); omega
  | f + 1, j, hf, h0, hb => by
    have a0 := h.lt j
    have a1 := h.lt (j + 1)
    have a2 := h.lt (j + 2)
    have b2 := h.bet (j + 1) (gm r j) a0
    have b3 := h.bet (j + 1) q hq
    have l2 := h.left (j + 1) q hq
    have n2 := h.ne (j + 1)
    have e2 : j + 1 + 1 = j + 2 := rfl
    rw [e2] at b2 b3 l2 n2
    obtain ⟨a, b⟩ := goes_on hO (x := gm r j) (y := gm r (j + 1)) (z := gm r (j + 2)) (q := q) (by omega) (by omega) (by omega) (by omega) (h.fat j) n2 (hm (j + 2)) h0 hb (.inl ⟨h.left j _ a2, l2⟩) (h.bet j _ a2) (fun z => b2 (by rw [← trn_rot]; exact z)) b3
    refine h.no_line hO hn hq hm f (j + 1) ?_ a b
    show (q - gm r (j + 2)) + (gm r (j + 2) - q) ≤ f
    unfold Btw at b
    omega
theorem Btw.symm {x d y : Nat} (h : Btw x d y) : Btw y d x := by unfold Btw at *; omega
theorem Fat.no_back (h : Fat ps n r) (hO : Ord ps) (hn : n ≤ ps.length) {q : Nat} (hq : q < n) (hm : ∀ j, gm r j ≠ q) : ∀ (f j : Nat), (q - gm r j) + (gm r j - q) ≤ f → trn (gp ps (gm r j)) (gp ps (gm r (j + 1))) (gp ps q) = 0 → Btw (gm r (j + 1)) (gm r j) q → False
  | 0, j, hf, h0, hb => by have := hm j; omega
  | f + 1, j, hf, h0, hb => by
    have m0 : 0 < r.length := by have := h.two; omega
    -- the place before
    have p1 : gm r (j + r.length - 1 + 1) = gm r j := by rw [show j + r.length - 1 + 1 = j + r.length by omega, gm_add]
    have p2 : gm r (j + r.length - 1 + 2) = gm r (j + 1) := by rw [show j + r.length - 1 + 2 = j + 1 + r.length by omega, gm_add]
    generalize j + r.length - 1 = i at *
    have a0 := h.lt i
    have a1 := h.lt j
    have a2 := h.lt (j + 1)
    have lj := h.left j (gm r i) a0
    have li := h.left i q hq
    have bj := h.bet j (gm r i) a0
    have bi := h.bet i (gm r (j + 1)) a2
    have bq := h.bet i q hq
    have ni := h.ne i
    have fi := h.fat i
    rw [p1] at li bi bq ni
    rw [p2] at fi
    have s1 := trn_swap (gp ps (gm r (j + 1))) (gp ps (gm r j)) (gp ps (gm r i))
    have s2 := trn_swap (gp ps (gm r j)) (gp ps (gm r i)) (gp ps q)
    have s3 := trn_swap (gp ps (gm r (j + 1))) (gp ps (gm r j)) (gp ps q)
    obtain ⟨a, b⟩ := goes_on hO (x := gm r (j + 1)) (y := gm r j) (z := gm r i) (q := q) (by omega) (by omega) (by omega) (by omega) (fun e => fi e.symm) (fun e => ni e.symm) (hm i) (by omega) hb (.inr ⟨by omega, by omega⟩) (fun z hb => bj (by omega) hb.symm) (fun z hb => bi (by rw [trn_rot]; have := trn_rot (gp ps (gm r (j + 1))) (gp ps (gm r j)) (gp ps (gm r i)); have := trn_swap (gp ps (gm r j)) (gp ps (gm r (j + 1))) (gp ps (gm r i)); rw [← trn_rot] ; have t := trn_rot (gp ps (gm r i)) (gp ps (gm r j)) (gp ps (gm r (j + 1))); omega) hb.symm) (fun z hb => bq (by omega) hb.symm)
    refine h.no_back hO hn hq hm f i ?_ (by rw [p1]; omega) (by rw [p1]; exact b)
    unfold Btw at b
    omega
end
/-- The direction (u, v) has all these points on its left, seen from q. -/
def BdP (l : List Pt) (q : Pt) : Prop := ∃ u v : Int, (u ≠ 0 ∨ v ≠ 0) ∧ ∀ x ∈ l, 0 ≤ u * (x.y - q.y) - v * (x.x - q.x)
/-- A ring whose edges all have q strictly on the left has points on both sides of every line through q. -/
theorem no_wrap {g : Nat → Pt} {m : Nat} (hm : 0 < m) (hg : g m = g 0) {q : Pt} (hp : ∀ j, 0 < trn (g j) (g (j + 1)) q) {u v : Int} (h0 : u ≠ 0 ∨ v ≠ 0) (hy : ∀ j, 0 ≤ u * ((g j).y - q.y) - v * ((g j).x - q.x)) : False := by
  have key : ∀ a b c : Pt, (u * (b.y - q.y) - v * (b.x - q.x)) * trn q a c = (u * (c.y - q.y) - v * (c.x - q.x)) * trn q a b + (u * (a.y - q.y) - v * (a.x - q.x)) * trn q b c := fun a b c => by unfold trn; grind
  have hq : ∀ j, 0 < trn q (g j) (g (j + 1)) := fun j => by rw [trn_rot]; exact hp j
  have pos : ∀ j, 0 < u * ((g (j + 1)).y - q.y) - v * ((g (j + 1)).x - q.x) := fun j => by
    refine Decidable.byContradiction fun hn => ?_
    have z1 : u * ((g (j + 1)).y - q.y) - v * ((g (j + 1)).x - q.x) = 0 := by have := hy (j + 1); omega
    have k := key (g j) (g (j + 1)) (g (j + 1 + 1))
    rw [z1, Int.zero_mul] at k
    have a1 := Int.mul_nonneg (hy (j + 1 + 1)) (Int.le_of_lt (hq j))
    have a2 := Int.mul_nonneg (hy j) (Int.le_of_lt (hq (j + 1)))
    have z2 : (u * ((g j).y - q.y) - v * ((g j).x - q.x)) * trn q (g (j + 1)) (g (j + 1 + 1)) = 0 := by omega
    have z3 : u * ((g j).y - q.y) - v * ((g j).x - q.x) = 0 := by
      rcases Int.mul_eq_zero.1 z2 with e | e
      · exact e
      · have := hq (j + 1); omega
    -- both lie on the line: the turn is zero
    have t1 : u * trn q (g j) (g (j + 1)) = ((g j).x - q.x) * (u * ((g (j + 1)).y - q.y) - v * ((g (j + 1)).x - q.x)) - ((g (j + 1)).x - q.x) * (u * ((g j).y - q.y) - v * ((g j).x - q.x)) := by unfold trn; grind
    have t2 : v * trn q (g j) (g (j + 1)) = ((g j).y - q.y) * (u * ((g (j + 1)).y - q.y) - v * ((g (j + 1)).x - q.x)) - ((g (j + 1)).y - q.y) * (u * ((g j).y - q.y) - v * ((g j).x - q.x)) := by unfold trn; grind
    rw [z1, z3, Int.mul_zero, Int.mul_zero] at t1 t2
    have := hq j
    rcases h0 with h0 | h0
    · rcases Int.mul_eq_zero.1 (show u * trn q (g j) (g (j + 1)) = 0 by omega) with e | e <;> omega
    · rcases Int.mul_eq_zero.1 (show v * trn q (g j) (g (j + 1)) = 0 by omega) with e | e <;> omega
  have up : ∀ t, 0 < trn q (g 1) (g (1 + t + 1)) := fun t => by
    induction t with
    | zero => exact hq 1
    | succ t ih =>
      have k := key (g 1) (g (1 + t + 1)) (g (1 + (t + 1) + 1))
      have a1 := Int.mul_pos (pos (1 + (t + 1))) ih
      have a2 := Int.mul_pos (pos 0) (hq (1 + t + 1))
      have a3 := pos (1 + t)
      refine Decidable.byContradiction fun hn => ?_
      have := Int.mul_nonpos_of_nonneg_of_nonpos (Int.le_of_lt a3) (show trn q (g 1) (g (1 + (t + 1) + 1)) ≤ 0 by omega)
      have e : g (1 + t + 1 + 1) = g (1 + (t + 1) + 1) := by rw [show 1 + t + 1 + 1 = 1 + (t + 1) + 1 by omega]
      rw [e] at a2
      rw [show (0 : Nat) + 1 = 1 from rfl] at a2
      omega
  -- the ring comes round to its first point, and one step on
  rcases Nat.lt_or_ge m 2 with c | c
  · have e : m = 1 := by omega
    subst e
    have := hp 0
    rw [show (0 : Nat) + 1 = 1 from rfl, hg, trn_aab] at this
    omega
  · have u1 := up (m - 2)
    rw [show 1 + (m - 2) + 1 = m by omega, hg] at u1
    have q0 := hq 0
    rw [show (0 : Nat) + 1 = 1 from rfl] at q0
    have e : trn q (g 1) (g 0) = -trn q (g 0) (g 1) := by unfold trn; grind
    omega
section
variable {ps : List Pt} {n : Nat} {r : List Nat}
theorem Fat.mem_iff (h : Fat ps ps.length r) (hO : Ord ps) {i : Nat} (hi : i < ps.length) : i ∈ r ↔ BdP ps (gp ps i) := by
  have m0 : 0 < r.length := by have := h.two; omega
  constructor
  · intro hm
    obtain ⟨j, _, rfl⟩ := gm_of_mem hm
    have hne : gp ps (gm r j) ≠ gp ps (gm r (j + 1)) := fun e => by
      have a1 := h.lt j
      have a2 := h.lt (j + 1)
      rcases Nat.lt_trichotomy (gm r j) (gm r (j + 1)) with c | c | c
      · exact ltP_ne (hO _ _ c a2) e
      · exact h.ne j c
      · exact ltP_ne (hO _ _ c a1) e.symm
    refine ⟨(gp ps (gm r (j + 1))).x - (gp ps (gm r j)).x, (gp ps (gm r (j + 1))).y - (gp ps (gm r j)).y, ?_, fun x hx => ?_⟩
    · refine Decidable.byContradiction fun hno => hne ?_
      exact pt_eq (by omega) (by omega)
    · obtain ⟨d, hd, rfl⟩ := gp_of_mem hx
      exact h.left j d hd
  · rintro ⟨u, v, h0, hl⟩
    refine Classical.byContradiction fun hno => ?_
    have hm : ∀ j, gm r j ≠ i := fun j e => hno (by rw [← e]; exact gm_mem m0 j)
    refine no_wrap (g := fun j => gp ps (gm r j)) m0 (by show gp ps (gm r r.length) = gp ps (gm r 0); have := gm_add r 0; rw [Nat.zero_add] at this; rw [this]) (q := gp ps i) (fun j => ?_) h0 (fun j => hl _ (gp_mem (h.lt j)))
    refine Decidable.byContradiction fun hnp => ?_
    have z : trn (gp ps (gm r j)) (gp ps (gm r (j + 1))) (gp ps i) = 0 := by have := h.left j i hi; have hnp : ¬ 0 < trn (gp ps (gm r j)) (gp ps (gm r (j + 1))) (gp ps i) := hnp; omega
    have nb := h.bet j i hi z
    have m1 := hm j
    have m2 := hm (j + 1)
    have ne := h.ne j
    by_cases c : Btw (gm r j) (gm r (j + 1)) i
    · exact h.no_line hO (Nat.le_refl _) hi hm _ j (Nat.le_refl _) z c
    · -- i lies ahead of the edge's first point: the edge before it
      have c2 : Btw (gm r (j + 1)) (gm r j) i := by unfold Btw at *; omega
      exact h.no_back hO (Nat.le_refl _) hi hm _ j (Nat.le_refl _) z c2
end
end Go.Proofs.Ytcebmcbglhkkfaa
