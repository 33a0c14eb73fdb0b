
import Derived.Test.YtcebmcbglhkkfaaSwpM
/- The sweep's rings: what a ring of places keeps when a point is added that lies behind all others in order. No program in sight. -/
set_option linter.unusedVariables false
set_option linter.unusedSimpArgs false
namespace Go.Proofs.Ytcebmcbglhkkfaa
open Go.RowKit

theorem cr_par {a b c d e f : Pt} (h1 : ltP a b) (h2 : ltP c d) (h3 : ltP e f) (g1 : cr a b c d = 0) (g2 : 0 ≤ cr c d e f) : 0 ≤ cr a b e f := cr_trans h1 h2 h3 (Int.le_of_eq g1.symm) g2
theorem cr_par' {a b c d e f : Pt} (h1 : ltP a b) (h2 : ltP c d) (h3 : ltP e f) (g1 : 0 ≤ cr a b c d) (g2 : cr c d e f = 0) : 0 ≤ cr a b e f := cr_trans h1 h2 h3 g1 (Int.le_of_eq g2.symm)
theorem plk5 (x y z n d : Pt) : cr x y y z * cr y n y d = cr x y y n * cr y z y d - cr x y y d * cr y z y n := by unfold cr; grind
/-- A point that is right of y z though not of x y: y n has all points left that x y and y z have. -/
theorem tang_gen {x y z n d : Pt} (h : 0 < trn x y z) (u : 0 ≤ trn x y n) (s : trn y z n < 0) (a : 0 ≤ trn x y d) (b : 0 ≤ trn y z d) : 0 ≤ trn y n d := by
  rw [trn_1] at h u a
  rw [trn_2] at s b ⊢
  have e := plk5 x y z n d
  have p1 : 0 ≤ cr x y y n * cr y z y d := Int.mul_nonneg u b
  have p2 : cr x y y d * cr y z y n ≤ 0 := Int.mul_nonpos_of_nonneg_of_nonpos a (Int.le_of_lt s)
  refine Decidable.byContradiction fun hn => ?_
  have := Int.mul_neg_of_pos_of_neg h (show cr y n y d < 0 by omega)
  omega
theorem exit_gen {x y z n d : Pt} (h : 0 < trn x y z) (s : trn x y n < 0) (u : 0 ≤ trn y z n) (a : 0 ≤ trn x y d) (b : 0 ≤ trn y z d) : 0 ≤ trn n y d := by
  have e0 : trn n y d = -trn y n d := by unfold trn; grind
  rw [e0]
  rw [trn_1] at h s a
  rw [trn_2] at u b ⊢
  have e := plk5 x y z n d
  have p1 : cr x y y n * cr y z y d ≤ 0 := Int.mul_nonpos_of_nonpos_of_nonneg (Int.le_of_lt s) b
  have p2 : 0 ≤ cr x y y d * cr y z y n := Int.mul_nonneg a u
  refine Decidable.byContradiction fun hn => ?_
  have := Int.mul_pos h (show 0 < cr y n y d by omega)
  omega
/-- Points in order. -/
def Ord (ps : List Pt) : Prop := ∀ i k, i < k → k < ps.length → ltP (gp ps i) (gp ps k)
theorem Ord.of {ps : List Pt} (h : Asc ps) : Ord ps := fun i k hik hk => by
  rw [gp_lt hk, gp_lt (show i < ps.length by omega)]
  exact List.pairwise_iff_getElem.1 h i k (by omega) hk hik
theorem Ord.lt_iff {ps : List Pt} (h : Ord ps) {i k : Nat} (hi : i < ps.length) (hk : k < ps.length) : ltP (gp ps i) (gp ps k) ↔ i < k := by
  constructor
  · intro hl
    rcases Nat.lt_trichotomy i k with e | e | e
    · exact e
    · subst e; exact absurd hl (ltP_irr _)
    · exact absurd hl (ltP_asymm (h k i e hi))
  · intro e; exact h i k e hk
def Btw (x d y : Nat) : Prop := (x < d ∧ d < y) ∨ (y < d ∧ d < x)
/-- What a ring of the first n points keeps. -/
structure Rg (ps : List Pt) (n : Nat) (r : List Nat) : Prop where
  two : 2 ≤ r.length
  lt : ∀ j, gm r j < n
  ne : ∀ j, gm r j ≠ gm r (j + 1)
  left : ∀ j d, d < n → 0 ≤ trn (gp ps (gm r j)) (gp ps (gm r (j + 1))) (gp ps d)
  bet : ∀ j d, d < n → trn (gp ps (gm r j)) (gp ps (gm r (j + 1))) (gp ps d) = 0 → ¬ Btw (gm r j) d (gm r (j + 1))
  crn : ∀ j, gm r j = gm r (j + 2) → (∀ d, d < n → d ≤ gm r (j + 1)) ∨ (∀ d, d < n → gm r (j + 1) ≤ d)
/-- Three places on one line, y not between: a corner of a ring that goes straight. -/
theorem straight {ps : List Pt} (hO : Ord ps) {n x y z N : Nat} (hn : N ≤ ps.length) (hx : x < n) (hy : y < n) (hz : z < n) (hnN : n < N) (h0 : trn (gp ps x) (gp ps y) (gp ps z) = 0) (ho : (x < y ∧ y < z) ∨ (z < y ∧ y < x)) :
    (0 ≤ trn (gp ps x) (gp ps y) (gp ps n) ↔ 0 ≤ trn (gp ps y) (gp ps z) (gp ps n)) := by
  have wl := hO y n hy (by omega)
  have e1 := trn_1 (gp ps x) (gp ps y) (gp ps n)
  have e2 := trn_2 (gp ps y) (gp ps z) (gp ps n)
  rw [trn_1] at h0
  rcases ho with ⟨h1, h2⟩ | ⟨h1, h2⟩
  · have l1 := hO x y h1 (by omega)
    have l2 := hO y z h2 (by omega)
    have f1 : cr (gp ps y) (gp ps z) (gp ps x) (gp ps y) = 0 := by have := cr_flip (gp ps x) (gp ps y) (gp ps y) (gp ps z); omega
    rw [e1, e2]
    exact ⟨fun h => cr_par l2 l1 wl f1 h, fun h => cr_par l1 l2 wl h0 h⟩
  · have l1 := hO z y h1 (by omega)
    have l2 := hO y x h2 (by omega)
    have r1 : cr (gp ps y) (gp ps x) (gp ps y) (gp ps n) = -cr (gp ps x) (gp ps y) (gp ps y) (gp ps n) := by unfold cr; grind
    have r2 : cr (gp ps z) (gp ps y) (gp ps y) (gp ps n) = -cr (gp ps y) (gp ps z) (gp ps y) (gp ps n) := by unfold cr; grind
    have r3 : cr (gp ps y) (gp ps x) (gp ps z) (gp ps y) = cr (gp ps x) (gp ps y) (gp ps y) (gp ps z) := by unfold cr; grind
    have r4 : cr (gp ps z) (gp ps y) (gp ps y) (gp ps x) = -cr (gp ps x) (gp ps y) (gp ps y) (gp ps z) := by unfold cr; grind
    have r5 : cr (gp ps y) (gp ps n) (gp ps y) (gp ps x) = cr (gp ps x) (gp ps y) (gp ps y) (gp ps n) := by unfold cr; grind
    have r6 : cr (gp ps y) (gp ps n) (gp ps z) (gp ps y) = cr (gp ps y) (gp ps z) (gp ps y) (gp ps n) := by unfold cr; grind
    rw [e1, e2]
    constructor
    · intro h
      have := cr_par' wl l2 l1 (by rw [r5]; exact h) (by rw [r3]; exact h0)
      omega
    · intro h
      have := cr_par' wl l1 l2 (by rw [r6]; exact h) (by rw [r4]; omega)
      omega
/-- The two vectors from a, both forward, on one line, n beyond a. -/
theorem ray_ge {a b d n : Pt} (hb : ltP a b) (hd : ltP a d) (hn : ltP a n) (h0 : trn a b d = 0) (h : 0 ≤ trn a n b) : 0 ≤ trn a n d := by
  rw [trn_2] at h0 h ⊢
  exact cr_par' hn hb hd h h0
theorem ray_ge2 {a b d n : Pt} (hb : ltP b a) (hd : ltP d a) (hn : ltP a n) (h0 : trn a b d = 0) (h : 0 ≤ trn a n b) : 0 ≤ trn a n d := by
  have e0 : trn a n d = cr d a a n := by unfold trn cr; grind
  have e1 : trn a n b = cr b a a n := by unfold trn cr; grind
  have e2 : trn a b d = cr b a d a := by unfold trn cr; grind
  have e3 : cr d a b a = -cr b a d a := by unfold cr; grind
  rw [e0]
  rw [e1] at h
  rw [e2] at h0
  exact cr_par hd hb hn (by omega) h
theorem dir_lt {p q a n d : Pt} (hn : ltP a n) (hd : ltP a d) (h0 : trn a n d = 0) (h : cr p q a n < 0) : cr p q a d < 0 := by
  have e : trn a n d = (n.x - a.x) * (d.y - a.y) - (n.y - a.y) * (d.x - a.x) := rfl
  rw [e] at h0
  unfold cr at *
  generalize q.x - p.x = vx at *
  generalize q.y - p.y = vy at *
  have hn := fwd hn
  have hd := fwd hd
  generalize n.x - a.x = nx at *
  generalize n.y - a.y = ny at *
  generalize d.x - a.x = dx at *
  generalize d.y - a.y = dy at *
  rcases hn with hn | ⟨hn, hn2⟩
  · have hdx : 0 < dx := by
      rcases hd with hd | ⟨hd, hd2⟩
      · exact hd
      · subst hd
        have := Int.mul_pos hn hd2
        simp at h0; omega
    have key : nx * (vx * dy - vy * dx) = dx * (vx * ny - vy * nx) := by
      have : nx * dy = ny * dx := by omega
      grind
    refine Decidable.byContradiction fun hh => ?_
    have q1 := Int.mul_nonneg (Int.le_of_lt hn) (show 0 ≤ vx * dy - vy * dx by omega)
    have q2 := Int.mul_neg_of_pos_of_neg hdx h
    omega
  · subst hn
    have hdx : dx = 0 := by
      have h1 : ny * dx = 0 := by have := Int.zero_mul dy; omega
      rcases Int.mul_eq_zero.1 h1 with e | e
      · omega
      · exact e
    subst hdx
    have hdy : 0 < dy := by omega
    simp at h ⊢
    refine Decidable.byContradiction fun hh => ?_
    have h1 : 0 ≤ vx * dy := by omega
    have hv : 0 ≤ vx := by
      refine Decidable.byContradiction fun hv => ?_
      have := Int.mul_neg_of_neg_of_pos (show vx < 0 by omega) hdy
      omega
    have := Int.mul_nonneg hv (Int.le_of_lt hn2)
    omega
section
variable {ps : List Pt} {n : Nat} {r : List Nat}
/-- The corner where the run of seen edges begins. -/
theorem Rg.tang (h : Rg ps n r) (hO : Ord ps) (hn : n < ps.length) (j : Nat) (u : 0 ≤ trn (gp ps (gm r j)) (gp ps (gm r (j + 1))) (gp ps n)) (s : trn (gp ps (gm r (j + 1))) (gp ps (gm r (j + 2))) (gp ps n) < 0) {d : Nat} (hd : d < n) :
    0 ≤ trn (gp ps (gm r (j + 1))) (gp ps n) (gp ps d) := by
  have l1 := h.left j
  have l2 := h.left (j + 1)
  have b1 := h.bet j
  have b2 := h.bet (j + 1)
  have n1 := h.ne j
  have n2 := h.ne (j + 1)
  have hx := h.lt j
  have hy := h.lt (j + 1)
  have hz := h.lt (j + 2)
  have hc := h.crn j
  have e2 : j + 1 + 1 = j + 2 := rfl
  rw [e2] at l2 b2 n2
  generalize gm r j = x at *
  generalize gm r (j + 1) = y at *
  generalize gm r (j + 2) = z at *
  have wl := hO y n hy (by omega)
  rcases Int.lt_or_eq_of_le (l1 z hz) with h0 | h0
  · exact tang_gen h0 u s (l1 d hd) (l2 d hd)
  have h0 := h0.symm
  by_cases hxz : x = z
  · subst hxz
    have z0 : trn (gp ps y) (gp ps x) (gp ps d) = 0 := by
      have := l1 d hd
      have := l2 d hd
      have e := trn_swap (gp ps x) (gp ps y) (gp ps d)
      omega
    have sb : 0 ≤ trn (gp ps y) (gp ps n) (gp ps x) := by
      have : trn (gp ps y) (gp ps n) (gp ps x) = -trn (gp ps y) (gp ps x) (gp ps n) := by unfold trn; grind
      omega
    by_cases hdy : d = y
    · subst hdy; rw [trn_aba]; exact Int.le_refl _
    rcases hc rfl with hm | hm
    · have := hm d hd
      have := hm x hx
      exact ray_ge2 (hO x y (by omega) (by omega)) (hO d y (by omega) (by omega)) wl z0 sb
    · have := hm d hd
      have := hm x hx
      exact ray_ge (hO y x (by omega) (by omega)) (hO y d (by omega) (by omega)) wl z0 sb
  · exfalso
    have ho : (x < y ∧ y < z) ∨ (z < y ∧ y < x) := by
      have q1 := b1 z hz h0
      have q2 := b2 x hx (by rw [← trn_rot]; exact h0)
      unfold Btw at q1 q2
      omega
    have := (straight hO (N := ps.length) (Nat.le_refl _) hx hy hz hn h0 ho).1 u
    omega
/-- The corner where it ends. -/
theorem Rg.exit_ (h : Rg ps n r) (hO : Ord ps) (hn : n < ps.length) (j : Nat) (s : trn (gp ps (gm r j)) (gp ps (gm r (j + 1))) (gp ps n) < 0) (u : 0 ≤ trn (gp ps (gm r (j + 1))) (gp ps (gm r (j + 2))) (gp ps n)) {d : Nat} (hd : d < n) :
    0 ≤ trn (gp ps n) (gp ps (gm r (j + 1))) (gp ps d) := by
  have l1 := h.left j
  have l2 := h.left (j + 1)
  have b1 := h.bet j
  have b2 := h.bet (j + 1)
  have n1 := h.ne j
  have n2 := h.ne (j + 1)
  have hx := h.lt j
  have hy := h.lt (j + 1)
  have hz := h.lt (j + 2)
  have hc := h.crn j
  have e2 : j + 1 + 1 = j + 2 := rfl
  rw [e2] at l2 b2 n2
  generalize gm r j = x at *
  generalize gm r (j + 1) = y at *
  generalize gm r (j + 2) = z at *
  have wl := hO y n hy (by omega)
  rcases Int.lt_or_eq_of_le (l1 z hz) with h0 | h0
  · exact exit_gen h0 s u (l1 d hd) (l2 d hd)
  have h0 := h0.symm
  by_cases hxz : x = z
  · subst hxz
    have z0 : trn (gp ps y) (gp ps x) (gp ps d) = 0 := by
      have := l1 d hd
      have := l2 d hd
      have e := trn_swap (gp ps x) (gp ps y) (gp ps d)
      omega
    have key : 0 ≤ trn (gp ps n) (gp ps y) (gp ps d) ↔ trn (gp ps y) (gp ps n) (gp ps d) ≤ 0 := by
      have : trn (gp ps n) (gp ps y) (gp ps d) = -trn (gp ps y) (gp ps n) (gp ps d) := by unfold trn; grind
      omega
    by_cases hdy : d = y
    · subst hdy; rw [trn_abb]; exact Int.le_refl _
    rw [key]
    refine Decidable.byContradiction fun hh => ?_
    have z1 : trn (gp ps y) (gp ps d) (gp ps x) = 0 := by
      have : trn (gp ps y) (gp ps d) (gp ps x) = -trn (gp ps y) (gp ps x) (gp ps d) := by unfold trn; grind
      omega
    have sb : trn (gp ps y) (gp ps n) (gp ps x) ≤ 0 := by
      have : trn (gp ps y) (gp ps n) (gp ps x) = -trn (gp ps y) (gp ps x) (gp ps n) := by unfold trn; grind
      omega
    have sx : trn (gp ps x) (gp ps y) (gp ps n) = trn (gp ps y) (gp ps n) (gp ps x) := trn_rot _ _ _
    rcases hc rfl with hm | hm
    · have := hm d hd
      have := hm x hx
      have l1 := hO x y (by omega) (by omega)
      have l2 := hO d y (by omega) (by omega)
      -- from d's strict side to x's
      have e0 : trn (gp ps y) (gp ps n) (gp ps d) = cr (gp ps d) (gp ps y) (gp ps y) (gp ps n) := by unfold trn cr; grind
      have e1 : trn (gp ps y) (gp ps n) (gp ps x) = cr (gp ps x) (gp ps y) (gp ps y) (gp ps n) := by unfold trn cr; grind
      have e3 : cr (gp ps x) (gp ps y) (gp ps d) (gp ps y) = trn (gp ps y) (gp ps x) (gp ps d) := by unfold trn cr; grind
      have := cr_trans_r l1 l2 wl (by rw [e3]; omega) (by rw [← e0]; omega)
      omega
    · have := hm d hd
      have := hm x hx
      have l1 := hO y x (by omega) (by omega)
      have l2 := hO y d (by omega) (by omega)
      have e0 : trn (gp ps y) (gp ps n) (gp ps d) = cr (gp ps y) (gp ps n) (gp ps y) (gp ps d) := trn_2 _ _ _
      have e1 : trn (gp ps y) (gp ps n) (gp ps x) = cr (gp ps y) (gp ps n) (gp ps y) (gp ps x) := trn_2 _ _ _
      have e3 : cr (gp ps y) (gp ps d) (gp ps y) (gp ps x) = trn (gp ps y) (gp ps d) (gp ps x) := (trn_2 _ _ _).symm
      have := cr_trans_l wl l2 l1 (by rw [← e0]; omega) (by rw [e3]; omega)
      omega
  · exfalso
    have ho : (x < y ∧ y < z) ∨ (z < y ∧ y < x) := by
      have q1 := b1 z hz h0
      have q2 := b2 x hx (by rw [← trn_rot]; exact h0)
      unfold Btw at q1 q2
      omega
    have := (straight hO (N := ps.length) (Nat.le_refl _) hx hy hz hn h0 ho).2 u
    omega
/-- The ring with the new point. -/
theorem Rg.step (h : Rg ps n r) (hO : Ord ps) (hn : n < ps.length) {s k : Nat} (hR : Run ps r n s k) (hc : ∀ j, gm r j = gm r (j + 2) → trn (gp ps (gm r j)) (gp ps (gm r (j + 1))) (gp ps n) ≠ 0) :
    Rg ps (n + 1) (nxR r n s k) ∧ ∀ j, gm (nxR r n s k) j ≠ gm (nxR r n s k) (j + 2) := by
  have h1 := hR.one
  have hk := hR.lt
  have m0 : 0 < r.length := by omega
  have gl : ∀ i, rG r s i < n := fun i => h.lt _
  have per : ∀ i, rG r s (i + r.length) = rG r s i := rG_add r s
  have seen : ∀ i, i < r.length → (trn (gp ps (rG r s i)) (gp ps (rG r s (i + 1))) (gp ps n) < 0 ↔ i < k) := hR.at_
  have e0 : rG r s r.length = rG r s 0 := rG_end r s
  have s0 : trn (gp ps (rG r s 0)) (gp ps (rG r s 1)) (gp ps n) < 0 := (seen 0 m0).2 (by omega)
  have um : 0 ≤ trn (gp ps (rG r s (r.length - 1))) (gp ps (rG r s 0)) (gp ps n) := by
    have := seen (r.length - 1) (by omega)
    rw [show r.length - 1 + 1 = r.length by omega, e0] at this
    omega
  have sk : trn (gp ps (rG r s (k - 1))) (gp ps (rG r s k)) (gp ps n) < 0 := by
    have := (seen (k - 1) (by omega)).2 (by omega)
    rwa [show k - 1 + 1 = k by omega] at this
  have uk : 0 ≤ trn (gp ps (rG r s k)) (gp ps (rG r s (k + 1))) (gp ps n) := by
    have := seen k hk
    omega
  have T : ∀ d, d < n → 0 ≤ trn (gp ps (rG r s 0)) (gp ps n) (gp ps d) := fun d hd => by
    have a1 : gm r (s + (r.length - 1) + 1) = rG r s 0 := by rw [show s + (r.length - 1) + 1 = s + r.length by omega]; exact e0
    have a2 : gm r (s + (r.length - 1) + 2) = rG r s 1 := by rw [show s + (r.length - 1) + 2 = s + 1 + r.length by omega]; exact gm_add r (s + 1)
    have := h.tang hO hn (s + (r.length - 1)) (by rw [a1]; exact um) (by rw [a1, a2]; exact s0) hd
    rwa [a1] at this
  have X : ∀ d, d < n → 0 ≤ trn (gp ps n) (gp ps (rG r s k)) (gp ps d) := fun d hd => by
    have a1 : gm r (s + (k - 1) + 1) = rG r s k := by rw [show s + (k - 1) + 1 = s + k by omega]; rfl
    have a2 : gm r (s + (k - 1) + 2) = rG r s (k + 1) := by rw [show s + (k - 1) + 2 = s + (k + 1) by omega]; rfl
    have := h.exit_ hO hn (s + (k - 1)) (by rw [a1]; exact sk) (by rw [a1, a2]; exact uk) hd
    rwa [a1] at this
  have n0k : rG r s 0 ≠ rG r s k := fun e => by
    have t1 := T (rG r s 1) (gl 1)
    have t2 := X (rG r s 1) (gl 1)
    rw [← e] at t2
    have e1 : trn (gp ps (rG r s 0)) (gp ps n) (gp ps (rG r s 1)) = -trn (gp ps (rG r s 0)) (gp ps (rG r s 1)) (gp ps n) := by unfold trn; grind
    have e2 : trn (gp ps n) (gp ps (rG r s 0)) (gp ps (rG r s 1)) = trn (gp ps (rG r s 0)) (gp ps (rG r s 1)) (gp ps n) := trn_rot _ _ _
    omega
  -- the pairs
  have P : ∀ j, (gm (nxR r n s k) j = rG r s 0 ∧ gm (nxR r n s k) (j + 1) = n) ∨ (gm (nxR r n s k) j = n ∧ gm (nxR r n s k) (j + 1) = rG r s k) ∨ ∃ i, k ≤ i ∧ i < r.length ∧ gm (nxR r n s k) j = rG r s i ∧ gm (nxR r n s k) (j + 1) = rG r s (i + 1) := fun j => by
    rcases gm_nxR (n := n) (s := s) hk j with ⟨a, b, c⟩ | ⟨a, b, c⟩ | ⟨a, b, c⟩ | ⟨i, i1, i2, a, b, c⟩
    · exact .inl ⟨a, b⟩
    · exact .inr (.inl ⟨a, b⟩)
    · exact .inr (.inr ⟨r.length - 1, by omega, by omega, a, by rw [b, show r.length - 1 + 1 = r.length by omega, e0]⟩)
    · exact .inr (.inr ⟨i - 1, by omega, by omega, a, by rw [b, show i - 1 + 1 = i by omega]⟩)
  have F : ∀ j, gm (nxR r n s k) j ≠ gm (nxR r n s k) (j + 2) := fun j => by
    rcases gm_nxR (n := n) (s := s) hk j with ⟨a, b, c⟩ | ⟨a, b, c⟩ | ⟨a, b, c⟩ | ⟨i, i1, i2, a, b, c⟩
    · rw [a, c]; exact n0k
    · rw [a, c]; have := gl (k + 1); omega
    · rw [a, c]; have := gl (r.length - 1); omega
    · rw [a, c]
      intro e
      have a1 : gm r (s + (i - 1) + 1) = rG r s i := by rw [show s + (i - 1) + 1 = s + i by omega]; rfl
      have a2 : gm r (s + (i - 1) + 2) = rG r s (i + 1) := by rw [show s + (i - 1) + 2 = s + (i + 1) by omega]; rfl
      have := hc (s + (i - 1)) (by rw [a2]; exact e)
      rw [a1] at this
      have u1 := seen (i - 1) (by omega)
      rw [show i - 1 + 1 = i by omega] at u1
      have u2 := seen i i2
      rw [← e] at u2
      have e3 : trn (gp ps (rG r s i)) (gp ps (rG r s (i - 1))) (gp ps n) = -trn (gp ps (rG r s (i - 1))) (gp ps (rG r s i)) (gp ps n) := by unfold trn; grind
      have e4 : (gm r (s + (i - 1))) = rG r s (i - 1) := rfl
      rw [e4] at this
      omega
  refine ⟨⟨by rw [nxR_len]; omega, fun j => ?_, fun j => ?_, fun j d hd => ?_, fun j d hd => ?_, fun j e => absurd e (F j)⟩, F⟩
  · rcases P j with ⟨a, _⟩ | ⟨a, _⟩ | ⟨i, _, _, a, _⟩
    · rw [a]; have := gl 0; omega
    · rw [a]; omega
    · rw [a]; have := gl i; omega
  · rcases P j with ⟨a, b⟩ | ⟨a, b⟩ | ⟨i, _, _, a, b⟩
    · rw [a, b]; have := gl 0; omega
    · rw [a, b]; have := gl k; omega
    · rw [a, b]; exact h.ne (s + i)
  · rcases P j with ⟨a, b⟩ | ⟨a, b⟩ | ⟨i, i1, i2, a, b⟩
    · rw [a, b]
      by_cases e : d = n
      · subst e; rw [trn_abb]; exact Int.le_refl _
      · exact T d (by omega)
    · rw [a, b]
      by_cases e : d = n
      · subst e; rw [trn_aba]; exact Int.le_refl _
      · exact X d (by omega)
    · rw [a, b]
      by_cases e : d = n
      · subst e
        have := seen i i2
        omega
      · exact h.left (s + i) d (by omega)
  · rcases P j with ⟨a, b⟩ | ⟨a, b⟩ | ⟨i, i1, i2, a, b⟩
    · rw [a, b]
      intro z hb
      have g0 := gl 0
      have hbt : rG r s 0 < d ∧ d < n := by unfold Btw at hb; omega
      have := dir_lt (p := gp ps (rG r s 0)) (q := gp ps (rG r s 1)) (hO (rG r s 0) n (by omega) hn) (hO (rG r s 0) d hbt.1 (by omega)) z (by rw [← trn_2]; exact s0)
      rw [← trn_2] at this
      have := h.left s d hbt.2
      have e1 : gm r s = rG r s 0 := rfl
      have e2 : gm r (s + 1) = rG r s 1 := rfl
      rw [e1, e2] at this
      omega
    · rw [a, b]
      intro z hb
      have g0 := gl k
      have hbt : rG r s k < d ∧ d < n := by unfold Btw at hb; omega
      have z' : trn (gp ps (rG r s k)) (gp ps n) (gp ps d) = 0 := by
        have e1 : trn (gp ps (rG r s k)) (gp ps n) (gp ps d) = -trn (gp ps n) (gp ps (rG r s k)) (gp ps d) := by unfold trn; grind
        omega
      have := dir_lt (p := gp ps (rG r s (k - 1))) (q := gp ps (rG r s k)) (hO (rG r s k) n (by omega) hn) (hO (rG r s k) d hbt.1 (by omega)) z' (by rw [← trn_1]; exact sk)
      rw [← trn_1] at this
      have := h.left (s + (k - 1)) d hbt.2
      have e1 : gm r (s + (k - 1)) = rG r s (k - 1) := rfl
      have e2 : gm r (s + (k - 1) + 1) = rG r s k := by rw [show s + (k - 1) + 1 = s + k by omega]; rfl
      rw [e1, e2] at this
      omega
    · rw [a, b]
      by_cases e : d = n
      · subst e
        intro _ hb
        have := gl i
        have := gl (i + 1)
        unfold Btw at hb; omega
      · exact h.bet (s + i) d (by omega)
end
end Go.Proofs.Ytcebmcbglhkkfaa
