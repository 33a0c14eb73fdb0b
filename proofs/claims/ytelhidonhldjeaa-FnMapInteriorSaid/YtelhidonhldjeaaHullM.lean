/- Half hulls in plain words: what the stack of Andrew's method holds: those points of a sorted list that lie strictly below every segment over them. No program in sight. -/
import Derived.Test.YtelhidonhldjeaaLeaf
set_option linter.unusedVariables false
set_option linter.unusedSimpArgs false
namespace Go.Proofs.Ytelhidonhldjeaa
open Go.RowKit

/-! ### the order of points, and slopes -/
def ltP (a b : Pt) : Prop := a.x < b.x ∨ (a.x = b.x ∧ a.y < b.y)
instance (a b : Pt) : Decidable (ltP a b) := by unfold ltP; infer_instance
theorem ltP_irr (a : Pt) : ¬ ltP a a := by unfold ltP; omega
theorem ltP_trans {a b c : Pt} (h : ltP a b) (h' : ltP b c) : ltP a c := by unfold ltP at *; omega
theorem ltP_asymm {a b : Pt} (h : ltP a b) : ¬ ltP b a := by unfold ltP at *; omega
theorem pt_eq {a b : Pt} (hx : a.x = b.x) (hy : a.y = b.y) : a = b := by cases a; cases b; simp at hx hy; simp [hx, hy]
theorem ltP_tri (a b : Pt) : ltP a b ∨ a = b ∨ ltP b a := by
  by_cases h : a.x = b.x ∧ a.y = b.y
  · exact .inr (.inl (pt_eq h.1 h.2))
  · unfold ltP; omega
theorem ltP_ne {a b : Pt} (h : ltP a b) : a ≠ b := fun e => by subst e; exact ltP_irr a h
/-- The slope from c to d against that from a to b: positive if it is greater. -/
def cr (a b c d : Pt) : Int := (b.x - a.x) * (d.y - c.y) - (b.y - a.y) * (d.x - c.x)
theorem trn_1 (x y z : Pt) : trn x y z = cr x y y z := by unfold trn cr; grind
theorem trn_2 (x y z : Pt) : trn x y z = cr x y x z := by unfold trn cr; grind
theorem trn_3 (x y z : Pt) : trn x y z = cr x z y z := by unfold trn cr; grind
theorem cr_flip (a b c d : Pt) : cr a b c d = -cr c d a b := by unfold cr; grind
/-- Slopes of ways that go forward are ordered. -/
theorem vec_trans {ax ay bx yb cx cy : Int} (ha : 0 < ax ∨ (ax = 0 ∧ 0 < ay)) (hb : 0 < bx ∨ (bx = 0 ∧ 0 < yb)) (hc : 0 < cx ∨ (cx = 0 ∧ 0 < cy)) (h1 : 0 ≤ ax * yb - ay * bx) (h2 : 0 ≤ bx * cy - yb * cx) :
    0 ≤ ax * cy - ay * cx ∧ ((0 < ax * yb - ay * bx ∨ 0 < bx * cy - yb * cx) → 0 < ax * cy - ay * cx) := by
  have hax : 0 ≤ ax := by omega
  have hcx : 0 ≤ cx := by omega
  rcases hb with hb | ⟨hb, hb2⟩
  · have key : bx * (ax * cy - ay * cx) = ax * (bx * cy - yb * cx) + cx * (ax * yb - ay * bx) := by grind
    have p1 := Int.mul_nonneg hax h2
    have p2 := Int.mul_nonneg hcx h1
    constructor
    · refine Decidable.byContradiction fun hn => ?_
      have := Int.mul_neg_of_pos_of_neg hb (show ax * cy - ay * cx < 0 by omega)
      omega
    · intro hs
      refine Decidable.byContradiction fun hn => ?_
      have hle : ax * cy - ay * cx ≤ 0 := by omega
      have h0 : bx * (ax * cy - ay * cx) ≤ 0 := Int.mul_nonpos_of_nonneg_of_nonpos (by omega) hle
      have e1 : ax * (bx * cy - yb * cx) = 0 := by omega
      have e2 : cx * (ax * yb - ay * bx) = 0 := by omega
      rcases hs with hs | hs
      · rcases Int.mul_eq_zero.1 e2 with h | h
        · -- cx = 0, so cy > 0
          subst h
          have hcy : 0 < cy := by omega
          have : ax * cy ≤ 0 := by simpa using hle
          rcases ha with ha | ⟨ha, ha2⟩
          · have := Int.mul_pos ha hcy; omega
          · subst ha
            have : ay * bx < 0 := by simp at hs; omega
            have := Int.mul_pos ha2 hb
            omega
        · omega
      · rcases Int.mul_eq_zero.1 e1 with h | h
        · subst h
          have hay : 0 < ay := by omega
          have : 0 < ay * bx := Int.mul_pos hay hb
          simp at h1
          omega
        · omega
  · subst hb
    simp at h1 h2 ⊢
    have h3 : cx ≤ 0 := by
      refine Decidable.byContradiction fun hn => ?_
      have := Int.mul_pos hb2 (show 0 < cx by omega)
      omega
    have : cx = 0 := by omega
    subst this
    have hcy : 0 < cy := by omega
    have := Int.mul_nonneg hax (show 0 ≤ cy by omega)
    constructor
    · simpa using this
    · intro hs
      simp at hs
      have hax2 : 0 < ax := by
        refine Decidable.byContradiction fun hn => ?_
        have : ax = 0 := by omega
        subst this
        simp at hs
      have := Int.mul_pos hax2 hcy
      simpa using this
theorem fwd {a b : Pt} (h : ltP a b) : 0 < b.x - a.x ∨ (b.x - a.x = 0 ∧ 0 < b.y - a.y) := by unfold ltP at h; omega
theorem cr_trans {a b c d e f : Pt} (h1 : ltP a b) (h2 : ltP c d) (h3 : ltP e f) (g1 : 0 ≤ cr a b c d) (g2 : 0 ≤ cr c d e f) : 0 ≤ cr a b e f := (vec_trans (fwd h1) (fwd h2) (fwd h3) g1 g2).1
theorem cr_trans_l {a b c d e f : Pt} (h1 : ltP a b) (h2 : ltP c d) (h3 : ltP e f) (g1 : 0 < cr a b c d) (g2 : 0 ≤ cr c d e f) : 0 < cr a b e f := (vec_trans (fwd h1) (fwd h2) (fwd h3) (Int.le_of_lt g1) g2).2 (.inl g1)
theorem cr_trans_r {a b c d e f : Pt} (h1 : ltP a b) (h2 : ltP c d) (h3 : ltP e f) (g1 : 0 ≤ cr a b c d) (g2 : 0 < cr c d e f) : 0 < cr a b e f := (vec_trans (fwd h1) (fwd h2) (fwd h3) g1 (Int.le_of_lt g2)).2 (.inr g2)

/-- q above u t, t above u p: q above u p. -/
theorem above_1 {u q t p : Pt} (h1 : ltP u q) (h2 : ltP q t) (h3 : ltP t p) (g1 : trn u q t ≤ 0) (g2 : trn u t p ≤ 0) : trn u q p ≤ 0 := by
  have a : 0 ≤ cr u t u q := by rw [cr_flip, ← trn_2]; omega
  have b : 0 ≤ cr u p u t := by rw [cr_flip, ← trn_2]; omega
  have c := cr_trans (ltP_trans (ltP_trans h1 h2) h3) (ltP_trans h1 h2) h1 b a
  rw [cr_flip, ← trn_2] at c
  omega
/-- q above t p, t above u p: q above u p. -/
theorem above_2 {u q t p : Pt} (h1 : ltP u t) (h2 : ltP t q) (h3 : ltP q p) (g1 : trn t q p ≤ 0) (g2 : trn u t p ≤ 0) : trn u q p ≤ 0 := by
  have a : 0 ≤ cr q p t p := by rw [cr_flip, ← trn_3]; omega
  have b : 0 ≤ cr t p u p := by rw [cr_flip, ← trn_3]; omega
  have c := cr_trans h3 (ltP_trans h2 h3) (ltP_trans h1 (ltP_trans h2 h3)) a b
  rw [cr_flip, ← trn_3] at c
  omega

/-! ### the stack: its top first -/
def popTo (p : Pt) : List Pt → List Pt
  | t :: u :: r => if trn u t p ≤ 0 then popTo p (u :: r) else t :: u :: r
  | l => l
def halfR : List Pt → List Pt → List Pt
  | st, [] => st
  | st, p :: ps => halfR (p :: popTo p st) ps
/-- The half hull of a sorted list, in its order. -/
def halfL (s : List Pt) : List Pt := (halfR [] s).reverse

def Desc : List Pt → Prop
  | a :: b :: r => ltP b a ∧ Desc (b :: r)
  | _ => True
def ConvD : List Pt → Prop
  | a :: b :: c :: r => 0 < trn c b a ∧ ConvD (b :: c :: r)
  | _ => True
/-- q is one of these, or lies above the segment between two neighbours. -/
def CovD : List Pt → Pt → Prop
  | [], _ => False
  | [a], q => q = a
  | a :: b :: r, q => q = a ∨ (ltP b q ∧ ltP q a ∧ trn b q a ≤ 0) ∨ CovD (b :: r) q
theorem Desc.tail {a : Pt} {r : List Pt} (h : Desc (a :: r)) : Desc r := by
  cases r with
  | nil => trivial
  | cons b r => exact h.2
theorem ConvD.tail {a : Pt} {r : List Pt} (h : ConvD (a :: r)) : ConvD r := by
  match r, h with
  | [], _ => trivial
  | [b], _ => trivial
  | b :: c :: r, h => exact h.2
theorem CovD.le : ∀ {r : List Pt} {a q : Pt}, Desc (a :: r) → CovD (a :: r) q → q = a ∨ ltP q a
  | [], a, q, _, h => .inl h
  | b :: r, a, q, hd, h => by
    rcases h with h | h | h
    · exact .inl h
    · exact .inr h.2.1
    · rcases CovD.le hd.2 h with h | h
      · subst h; exact .inr hd.1
      · exact .inr (ltP_trans h hd.1)
theorem CovD.mem : ∀ {l : List Pt} {q : Pt}, q ∈ l → CovD l q
  | [], _, h => by cases h
  | [a], q, h => List.mem_singleton.1 h
  | a :: b :: r, q, h => by
    rcases List.mem_cons.1 h with h | h
    · exact .inl h
    · exact .inr (.inr (CovD.mem h))
/-- What popping leaves: all that was covered is, or lies above the way from the new top to p. -/
theorem pop_inv {p : Pt} : ∀ {r : List Pt} {t : Pt} (s : Pt → Prop), Desc (t :: r) → ConvD (t :: r) → ltP t p → (∀ q, s q → CovD (t :: r) q ∨ (ltP t q ∧ ltP q p ∧ trn t q p ≤ 0)) →
    ∃ t' r', popTo p (t :: r) = t' :: r' ∧ Desc (t' :: r') ∧ ConvD (t' :: r') ∧ ltP t' p ∧ (∀ q, s q → CovD (t' :: r') q ∨ (ltP t' q ∧ ltP q p ∧ trn t' q p ≤ 0)) ∧ (∀ u r'', r' = u :: r'' → 0 < trn u t' p) ∧ ∀ q ∈ t' :: r', q ∈ t :: r
  | [], t, s, hd, hc, hp, hs => ⟨t, [], rfl, hd, hc, hp, hs, (fun u r'' h => by cases h), fun q h => h⟩
  | u :: r, t, s, hd, hc, hp, hs => by
    by_cases h : trn u t p ≤ 0
    · rw [popTo, if_pos h]
      obtain ⟨t', r', e, h1, h2, h3, h4, h5, h6⟩ := pop_inv (p := p) (r := r) (t := u) s hd.2 hc.tail (ltP_trans hd.1 hp) (fun q hq => by
        rcases hs q hq with (h' | h' | h') | h'
        · subst h'; exact .inr ⟨hd.1, hp, h⟩
        · exact .inr ⟨h'.1, ltP_trans h'.2.1 hp, above_1 h'.1 h'.2.1 hp h'.2.2 h⟩
        · exact .inl h'
        · exact .inr ⟨ltP_trans hd.1 h'.1, h'.2.1, above_2 hd.1 h'.1 h'.2.1 h'.2.2 h⟩)
      exact ⟨t', r', e, h1, h2, h3, h4, h5, fun q hq => List.mem_cons_of_mem _ (h6 q hq)⟩
    · rw [popTo, if_neg h]
      exact ⟨t, u :: r, rfl, hd, hc, hp, hs, (fun u' r'' e => by injection e with e1 e2; subst e1; omega), fun q h => h⟩
structure Stk (s : Pt → Prop) (st : List Pt) : Prop where
  desc : Desc st
  conv : ConvD st
  cov : ∀ q, s q → CovD st q
  sub : ∀ q ∈ st, s q
theorem Stk.push {s : Pt → Prop} {st : List Pt} (h : Stk s st) {p : Pt} (hp : ∀ q, s q → ltP q p) : Stk (fun q => s q ∨ q = p) (p :: popTo p st) := by
  cases st with
  | nil =>
    exact ⟨trivial, trivial, fun q hq => by
      rcases hq with hq | hq
      · exact (h.cov q hq).elim
      · exact hq, fun q hq => by simp [popTo] at hq; exact .inr hq⟩
  | cons t r =>
    obtain ⟨t', r', e, h1, h2, h3, h4, h5, h6⟩ := pop_inv s h.desc h.conv (hp t (h.sub t (by simp))) (fun q hq => .inl (h.cov q hq))
    rw [e]
    refine ⟨⟨h3, h1⟩, ?_, fun q hq => ?_, fun q hq => ?_⟩
    · cases r' with
      | nil => trivial
      | cons u r'' => exact ⟨h5 u r'' rfl, h2⟩
    · rcases hq with hq | hq
      · rcases h4 q hq with h | h
        · exact .inr (.inr h)
        · exact .inr (.inl h)
      · exact .inl hq
    · rcases List.mem_cons.1 hq with h' | h'
      · exact .inr h'
      · exact .inl (h.sub q (h6 q h'))
theorem Stk.congr {s s' : Pt → Prop} {st : List Pt} (h : Stk s st) (he : ∀ q, s q ↔ s' q) : Stk s' st := ⟨h.desc, h.conv, fun q hq => h.cov q ((he q).2 hq), fun q hq => (he q).1 (h.sub q hq)⟩
def Asc (s : List Pt) : Prop := s.Pairwise ltP
theorem halfR_stk : ∀ (ps : List Pt) (s : Pt → Prop) (st : List Pt), Stk s st → Asc ps → (∀ q, s q → ∀ p ∈ ps, ltP q p) → Stk (fun q => s q ∨ q ∈ ps) (halfR st ps)
  | [], s, st, h, _, _ => h.congr (by simp)
  | p :: ps, s, st, h, ha, hlt => by
    rw [halfR]
    have ha' := List.pairwise_cons.1 ha
    refine (halfR_stk ps _ _ (h.push (fun q hq => hlt q hq p (by simp))) ha'.2 (fun q hq r hr => ?_)).congr (fun q => by simp [or_assoc])
    rcases hq with hq | hq
    · exact hlt q hq r (by simp [hr])
    · subst hq; exact ha'.1 r hr
theorem half_stk {s : List Pt} (ha : Asc s) : Stk (fun q => q ∈ s) (halfR [] s) :=
  (halfR_stk s (fun _ => False) [] ⟨trivial, trivial, fun _ h => h.elim, fun q h => by cases h⟩ ha (fun _ h => h.elim)).congr (by simp)

/-! ### what the stack holds lies strictly below all segments over it -/
theorem conv_edges : ∀ {r : List Pt} {a b : Pt}, Desc (a :: b :: r) → ConvD (a :: b :: r) → ∀ {l r' : List Pt} {t c : Pt}, b :: r = l ++ t :: c :: r' → 0 < cr c t b a
  | [], a, b, hd, hc, l, r', t, c, he => by
    exfalso
    have := congrArg List.length he
    simp at this; omega
  | d :: r, a, b, hd, hc, l, r', t, c, he => by
    have h0 : 0 < cr d b b a := by rw [← trn_1]; exact hc.1
    cases l with
    | nil =>
      injection he with e1 e2
      injection e2 with e2 e3
      subst e1 e2
      exact h0
    | cons x l =>
      injection he with e1 e2
      have h1 := conv_edges hd.2 hc.2 e2
      have hct : ltP c t := by
        have : Desc (d :: r) := hd.2.2
        rw [e2] at this
        clear e2 h1
        induction l with
        | nil => exact this.1
        | cons y l ih => exact ih this.tail
      exact cr_trans_l hct hd.2.1 hd.1 h1 (Int.le_of_lt h0)
/-- From c to the left: no slope is greater than that of the edge that ends there. -/
theorem claim_A : ∀ {r : List Pt} {c u a : Pt}, Desc (c :: u :: r) → ConvD (c :: u :: r) → CovD (c :: u :: r) a → ltP a c → 0 ≤ cr a c u c
  | r, c, u, a, hd, hc, h, hac => by
    rcases h with h | h | h
    · subst h; exact absurd hac (ltP_irr _)
    · rw [cr_flip, ← trn_3]; omega
    · rcases CovD.le hd.2 h with h' | h'
      · subst h'; unfold cr; rw [Int.mul_comm]; omega
      · match r, hd, hc, h with
        | [], hd, hc, h => exact absurd h' (by rw [show a = u from h]; exact ltP_irr _)
        | v :: r, hd, hc, h =>
          have h1 := claim_A hd.2 hc.2 h h'
          have h2 : 0 < cr v u u c := by rw [← trn_1]; exact hc.1
          have h3 : 0 < cr a u u c := cr_trans_r h' hd.2.1 hd.1 h1 h2
          rw [← trn_1, trn_3] at h3
          omega
/-- From c to the right: no slope is less than that of the edge that begins there. -/
theorem claim_B : ∀ {D l r : List Pt} {t c b : Pt}, Desc D → ConvD D → D = l ++ t :: c :: r → CovD D b → ltP c b → 0 ≤ cr c t c b
  | [], l, r, t, c, b, hd, hc, he, h, hcb => h.elim
  | [x], l, r, t, c, b, hd, hc, he, h, hcb => by
    exfalso
    have := congrArg List.length he
    simp at this; omega
  | x :: y :: D, l, r, t, c, b, hd, hc, he, h, hcb => by
    cases l with
    | nil =>
      injection he with e1 e2
      injection e2 with e2 e3
      subst e1 e2 e3
      rcases h with h | h | h
      · subst h; unfold cr; rw [Int.mul_comm]; omega
      · have := h.2.2
        rw [trn_2, cr_flip] at this
        omega
      · rcases CovD.le hd.2 h with h' | h'
        · subst h'; exact absurd hcb (ltP_irr _)
        · exact absurd hcb (ltP_asymm h')
    | cons z l =>
      injection he with e1 e2
      subst e1
      have hct : ltP c t := by
        have : Desc (y :: D) := hd.2
        rw [e2] at this
        clear e2
        induction l with
        | nil => exact this.1
        | cons y l ih => exact ih this.tail
      have edge := conv_edges hd hc e2
      have hy := claim_B hd.2 hc.tail e2 (CovD.mem (by simp : y ∈ y :: D))
      have hcy : ltP c y := by
        have : Desc (y :: D) := hd.2
        have hy2 : CovD (y :: D) t := by rw [e2]; exact CovD.mem (by simp)
        rcases CovD.le hd.2 hy2 with h | h
        · subst h; exact hct
        · exact ltP_trans hct h
      have hy := hy hcy
      -- b between y and x, or x: the slope from y to b is at least that from y to x
      have fin : ltP y b → 0 ≤ cr y x y b → 0 ≤ cr c t c b := fun hyb hb => by
        have h1 : 0 < cr c t y b := cr_trans_l hct hd.1 hyb edge hb
        -- c < y < b: c to y and y to b have slopes of at least c to t
        have e : cr c t c b = cr c t c y + cr c t y b := by unfold cr; grind
        omega
      rcases h with h | h | h
      · subst h
        exact fin hd.1 (by unfold cr; rw [Int.mul_comm]; omega)
      · refine fin h.1 ?_
        have := h.2.2
        rw [trn_2, cr_flip] at this
        omega
      · exact claim_B hd.2 hc.tail e2 h hcb
theorem mid_split : ∀ {D : List Pt} {c a b : Pt}, Desc D → c ∈ D → CovD D a → CovD D b → ltP a c → ltP c b → ∃ l t u r, D = l ++ t :: c :: u :: r
  | [], c, a, b, _, h, _, _, _, _ => by cases h
  | [x], c, a, b, hd, h, ha, hb, hac, hcb => by
    have e1 : a = x := ha
    have e2 : b = x := hb
    subst e1 e2
    exact absurd (ltP_trans hac hcb) (ltP_irr _)
  | x :: y :: D, c, a, b, hd, h, ha, hb, hac, hcb => by
    rcases List.mem_cons.1 h with h | h
    · subst h
      rcases CovD.le hd hb with h' | h'
      · subst h'; exact absurd hcb (ltP_irr _)
      · exact absurd hcb (ltP_asymm h')
    · have hcy : c = y ∨ ltP c y := CovD.le hd.2 (CovD.mem h)
      rcases hcy with rfl | hcy
      · have ha' : CovD (c :: D) a := by
          rcases ha with ha | ha | ha
          · subst ha; exact absurd hac (ltP_asymm hd.1)
          · exact absurd hac (ltP_asymm ha.1)
          · exact ha
        cases D with
        | nil => exact absurd hac (by rw [show a = c from ha']; exact ltP_irr _)
        | cons u r => exact ⟨[], x, u, r, rfl⟩
      · have ha' : CovD (y :: D) a := by
          rcases ha with ha | ha | ha
          · subst ha; exact absurd (ltP_trans hac hcy) (ltP_asymm hd.1)
          · exact absurd (ltP_trans hac hcy) (ltP_asymm ha.1)
          · exact ha
        obtain ⟨l, t, u, r, e⟩ := mid_split (b := y) hd.2 h ha' (CovD.mem (by simp)) hac hcy
        exact ⟨x :: l, t, u, r, by rw [e]; rfl⟩
theorem desc_drop : ∀ {l r : List Pt}, Desc (l ++ r) → Desc r
  | [], _, h => h
  | _ :: l, _, h => desc_drop (l := l) h.tail
theorem conv_drop : ∀ {l r : List Pt}, ConvD (l ++ r) → ConvD r
  | [], _, h => h
  | _ :: l, _, h => conv_drop (l := l) h.tail
theorem cov_drop : ∀ {l r : List Pt} {t a : Pt}, Desc (l ++ t :: r) → CovD (l ++ t :: r) a → ltP a t → CovD (t :: r) a
  | [], _, _, _, _, h, _ => h
  | x :: l, r, t, a, hd, h, hat => by
    have hd' : Desc (l ++ t :: r) := hd.tail
    refine cov_drop (l := l) hd' ?_ hat
    have hxt : ∀ y, CovD (l ++ t :: r) y → ltP y x := fun y hy => by
      match h2 : l ++ t :: r, hd, hy with
      | [], _, hy => exact hy.elim
      | z :: w, hd, hy =>
        have hd : Desc (x :: z :: w) := by have := hd; rw [List.cons_append, h2] at this; exact this
        rcases CovD.le hd.2 hy with h | h
        · subst h; exact hd.1
        · exact ltP_trans h hd.1
    have hta : CovD (l ++ t :: r) t := CovD.mem (by simp)
    match h2 : l ++ t :: r, h, hta with
    | [], _, hta => exact hta.elim
    | z :: w, h, hta =>
      have h : CovD (x :: z :: w) a := by have := h; rw [List.cons_append, h2] at this; exact this
      rw [h2] at hd' hxt
      rcases h with h | h | h
      · subst h; exact absurd hat (ltP_asymm (hxt t hta))
      · rcases CovD.le hd' hta with h' | h'
        · subst h'; exact absurd hat (ltP_asymm h.1)
        · exact absurd (ltP_trans hat h') (ltP_asymm h.1)
      · exact h
/-- Point p lies strictly below every segment between two of s over it. -/
def LowOk (s : Pt → Prop) (p : Pt) : Prop := ∀ a, s a → ∀ b, s b → ltP a p → ltP p b → 0 < trn a p b
theorem Stk.low {s : Pt → Prop} {st : List Pt} (h : Stk s st) {c : Pt} (hc : c ∈ st) : LowOk s c := by
  intro a ha b hb hac hcb
  have ca := h.cov a ha
  have cb := h.cov b hb
  obtain ⟨l, t, u, r, e⟩ := mid_split h.desc hc ca cb hac hcb
  have hd := h.desc
  have hv := h.conv
  rw [e] at hd hv ca cb
  have hd1 := desc_drop hd
  have hv1 := conv_drop hv
  have gB := claim_B hd hv rfl cb hcb
  have ca1 : CovD (c :: u :: r) a := by
    have : l ++ t :: c :: u :: r = (l ++ [t]) ++ c :: u :: r := by simp
    rw [this] at hd ca
    exact cov_drop hd ca hac
  have gA := claim_A hd1.2 hv1.2 ca1 hac
  have gM : 0 < cr u c c t := by rw [← trn_1]; exact hv1.1
  have h1 : 0 < cr a c c t := cr_trans_r hac hd1.2.1 hd1.1 gA gM
  have h2 : 0 < cr a c c b := cr_trans_l hac hd1.1 hcb h1 gB
  rw [trn_1]; exact h2
theorem Stk.mem_iff {s : Pt → Prop} {st : List Pt} (h : Stk s st) (p : Pt) : p ∈ st ↔ s p ∧ LowOk s p := by
  refine ⟨fun hp => ⟨h.sub p hp, h.low hp⟩, fun ⟨hp, hl⟩ => ?_⟩
  have key : ∀ {D : List Pt}, (∀ q ∈ D, s q) → CovD D p → p ∈ D := by
    intro D hD hc
    induction D with
    | nil => exact hc.elim
    | cons x D ih =>
      cases D with
      | nil => rw [show p = x from hc]; simp
      | cons y D =>
        rcases hc with hc | hc | hc
        · subst hc; simp
        · have := hl y (hD y (by simp)) x (hD x (by simp)) hc.1 hc.2.1
          omega
        · exact List.mem_cons_of_mem _ (ih (fun q hq => hD q (List.mem_cons_of_mem _ hq)) hc)
  exact key h.sub (h.cov p hp)
end Go.Proofs.Ytelhidonhldjeaa
