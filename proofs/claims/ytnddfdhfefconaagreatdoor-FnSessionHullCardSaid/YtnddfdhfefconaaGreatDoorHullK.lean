
import Derived.Test.YtnddfdhfefconaaGreatDoorLeaf
/- Half hulls in plain words: what the stack of Andrew's method holds: those points of a sorted list that lie strictly below every segment over them. No program in sight. -/
set_option linter.unusedVariables false
set_option linter.unusedSimpArgs false
namespace Go.Proofs.YtnddfdhfefconaaGreatDoor
open Go.RowKit

/-! ### the order of points, and slopes -/
def ltP (a b : Pt) : Prop := a.x < b.x ∨ (a.x = b.x ∧ a.y < b.y)
instance (a b : Pt) : Decidable (ltP a b) := by unfold ltP; infer_instance
theorem ltP_irr (a : Pt) : ¬ ltP a a := by unfold ltP; omega
theorem ltP_trans {a b c : Pt} (h : ltP a b) (h' : ltP b c) : ltP a c := by unfold ltP at *; omega
theorem ltP_asymm {a b : Pt} (h : ltP a b) : ¬ ltP b a := by unfold ltP at *; omega
theorem pt_eq {a b : Pt} (hx : a.x = b.x) (hy : a.y = b.y) : a = b := by cases a; cases b; simp at hx hy; simp [hx, hy]
theorem ltP_tri (a b : Pt) : ltP a b ∨ a = b ∨ ltP b a := by
  by_cases h : a.x = b.x ∧ a.y = b.y
  · exact .inr (.inl (pt_eq h.1 h.2))
  · unfold ltP; omega
theorem ltP_ne {a b : Pt} (h : ltP a b) : a ≠ b := fun e => by subst e; exact ltP_irr a h
/-- The slope from c to d against that from a to b: positive if it is greater. -/
def cr (a b c d : Pt) : Int := (b.x - a.x) * (d.y - c.y) - (b.y - a.y) * (d.x - c.x)
theorem trn_1 (x y z : Pt) : trn x y z = cr x y y z := by unfold trn cr; grind
theorem trn_2 (x y z : Pt) : trn x y z = cr x y x z := by unfold trn cr; grind
theorem trn_3 (x y z : Pt) : trn x y z = cr x z y z := by unfold trn cr; grind
theorem cr_flip (a b c d : Pt) : cr a b c d = -cr c d a b := by unfold cr; grind
/-- Slopes of ways that go forward are ordered. -/
theorem vec_trans {ax ay bx yb cx cy : Int} (ha : 0 < ax ∨ (ax = 0 ∧ 0 < ay)) (hb : 0 < bx ∨ (bx = 0 ∧ 0 < yb)) (hc : 0 < cx ∨ (cx = 0 ∧ 0 < cy)) (h1 : 0 ≤ ax * yb - ay * bx) (h2 : 0 ≤ bx * cy - yb * cx) :
    0 ≤ ax * cy - ay * cx ∧ ((0 < ax * yb - ay * bx ∨ 0 < bx * cy - yb * cx) → 0 < ax * cy - ay * cx) := by
  have hax : 0 ≤ ax := by omega
  have hcx : 0 ≤ cx := by omega
  rcases hb with hb | ⟨hb, hb2⟩
  · have key : bx * (ax * cy - ay * cx) = ax * (bx * cy - yb * cx) + cx * (ax * yb - ay * bx) := by grind
    have p1 := Int.mul_nonneg hax h2
    have p2 := Int.mul_nonneg hcx h1
    constructor
    · refine Decidable.byContradiction fun hn => ?_
      have := Int.mul_neg_of_pos_of_neg hb (show ax * cy - ay * cx < 0 by omega)
      omega
    · intro hs
      refine Decidable.byContradiction fun hn => ?_
      have hle : ax * cy - ay * cx ≤ 0 := by omega
      have h0 : bx * (ax * cy - ay * cx) ≤ 0 := Int.mul_nonpos_of_nonneg_of_nonpos (by omega) hle
      have e1 : ax * (bx * cy - yb * cx) = 0 := by omega
      have e2 : cx * (ax * yb - ay * bx) = 0 := by omega
      rcases hs with hs | hs
      · rcases Int.mul_eq_zero.1 e2 with h | h
        · -- cx = 0, so cy > 0
          subst h
          have hcy : 0 < cy := by omega
          have : ax * cy ≤ 0 := by simpa using hle
          rcases ha with ha | ⟨ha, ha2⟩
          · have := Int.mul_pos ha hcy; omega
          · subst ha
            have : ay * bx < 0 := by simp at hs; omega
            have := Int.mul_pos ha2 hb
            omega
        · omega
      · rcases Int.mul_eq_zero.1 e1 with h | h
        · subst h
          have hay : 0 < ay := by omega
          have : 0 < ay * bx := Int.mul_pos hay hb
          simp at h1
          omega
        · omega
  · subst hb
    simp at h1 h2 ⊢
    have h3 : cx ≤ 0 := by
      refine Decidable.byContradiction fun hn => ?_
      have := Int.mul_pos hb2 (show 0 < cx by omega)
      omega
    have : cx = 0 := by omega
    subst this
    have hcy : 0 < cy := by omega
    have := Int.mul_nonneg hax (show 0 ≤ cy by omega)
    constructor
    · simpa using this
    · intro hs
      simp at hs
      have hax2 : 0 < ax := by
        refine Decidable.byContradiction fun hn => ?_
        have : ax = 0 := by omega
        subst this
        simp at hs
      have := Int.mul_pos hax2 hcy
      simpa using this
theorem fwd {a b : Pt} (h : ltP a b) : 0 < b.x - a.x ∨ (b.x - a.x = 0 ∧ 0 < b.y - a.y) := by unfold ltP at h; omega
theorem cr_trans {a b c d e f : Pt} (h1 : ltP a b) (h2 : ltP c d) (h3 : ltP e f) (g1 : 0 ≤ cr a b c d) (g2 : 0 ≤ cr c d e f) : 0 ≤ cr a b e f := (vec_trans (fwd h1) (fwd h2) (fwd h3) g1 g2).1
theorem cr_trans_l {a b c d e f : Pt} (h1 : ltP a b) (h2 : ltP c d) (h3 : ltP e f) (g1 : 0 < cr a b c d) (g2 : 0 ≤ cr c d e f) : 0 < cr a b e f := (vec_trans (fwd h1) (fwd h2) (fwd h3) (Int.le_of_lt g1) g2).2 (.inl g1)
theorem cr_trans_r {a b c d e f : Pt} (h1 : ltP a b) (h2 : ltP c d) (h3 : ltP e f) (g1 : 0 ≤ cr a b c d) (g2 : 0 < cr c d e f) : 0 < cr a b e f := (vec_trans (fwd h1) (fwd h2) (fwd h3) g1 (Int.le_of_lt g2)).2 (.inr g2)

/-- q above u t, t above u p: q above u p. -/
theorem above_1 {u q t p : Pt} (h1 : ltP u q) (h2 : ltP q t) (h3 : ltP t p) (g1 : trn u q t ≤ 0) (g2 : trn u t p ≤ 0) : trn u q p ≤ 0 := by
  have a : 0 ≤ cr u t u q := by rw [cr_flip, ← trn_2]; omega
  have b : 0 ≤ cr u p u t := by rw [cr_flip, ← trn_2]; omega
  have c := cr_trans (ltP_trans (ltP_trans h1 h2) h3) (ltP_trans h1 h2) h1 b a
  rw [cr_flip, ← trn_2] at c
  omega
/-- q above t p, t above u p: q above u p. -/
theorem above_2 {u q t p : Pt} (h1 : ltP u t) (h2 : ltP t q) (h3 : ltP q p) (g1 : trn t q p ≤ 0) (g2 : trn u t p ≤ 0) : trn u q p ≤ 0 := by
  have a : 0 ≤ cr q p t p := by rw [cr_flip, ← trn_3]; omega
  have b : 0 ≤ cr t p u p := by rw [cr_flip, ← trn_3]; omega
  have c := cr_trans h3 (ltP_trans h2 h3) (ltP_trans h1 (ltP_trans h2 h3)) a b
  rw [cr_flip, ← trn_3] at c
  omega

/-! ### the stack: its top first -/
def popTo (p : Pt) : List Pt → List Pt
  | t :: u :: r => if trn u t p ≤ 0 then popTo p (u :: r) else t :: u :: r
  | l => l
def halfR : List Pt → List Pt → List Pt
  | st, [] => st
  | st, p :: ps => halfR (p :: popTo p st) ps
/-- The half hull of a sorted list, in its order. -/
def halfL (s : List Pt) : List Pt := (halfR [] s).reverse

def Desc : List Pt → Prop
  | a :: b :: r => ltP b a ∧ Desc (b :: r)
  | _ => True
def ConvD : List Pt → Prop
  | a :: b :: c :: r => 0 < trn c b a ∧ ConvD (b :: c :: r)
  | _ => True
/-- q is one of these, or lies above the segment between two neighbours. -/
def CovD : List Pt → Pt → Prop
  | [], _ => False
  | [a], q => q = a
  | a :: b :: r, q => q = a ∨ (ltP b q ∧ ltP q a ∧ trn b q a ≤ 0) ∨ CovD (b :: r) q
theorem Desc.tail {a : Pt} {r : List Pt} (h : Desc (a :: r)) : Desc r := by
  cases r with
  | nil => trivial
  | cons b r => exact h.2
theorem ConvD.tail {a : Pt} {r : List Pt} (h : ConvD (a :: r)) : ConvD r := by
  match r, h with
  | [], _ => trivial
  | [b], _ => trivial
  | b :: c :: r, h => exact h.2
theorem CovD.le : ∀ {r : List Pt} {a q : Pt}, Desc (a :: r) → CovD (a :: r) q → q = a ∨ ltP q a
  | [], a, q, _, h => .inl h
  | b :: r, a, q, hd, h => by
    rcases h with h | h | h
    · exact .inl h
    · exact .inr h.2.1
    · rcases CovD.le hd.2 h with h | h
      · subst h; exact .inr hd.1
      · exact .inr (ltP_trans h hd.1)
theorem CovD.mem : ∀ {l : List Pt} {q : Pt}, q ∈ l → CovD l q
  | [], _, h => by cases h
  | [a], q, h => List.mem_singleton.1 h
  | a :: b :: r, q, h => by
    rcases List.mem_cons.1 h with h | h
    · exact .inl h
    · exact .inr (.inr (CovD.mem h))
/-- What popping leaves: all that was covered is, or lies above the way from the new top to p. -/
theorem pop_inv {p : Pt} : ∀ {r : List Pt} {t : Pt} (s : Pt → Prop), Desc (t :: r) → ConvD (t :: r) → ltP t p → (∀ q, s q → CovD (t :: r) q ∨ (ltP t q ∧ ltP q p ∧ trn t q p ≤ 0)) →
    ∃ t' r', popTo p (t :: r) = t' :: r' ∧ Desc (t' :: r') ∧ ConvD (t' :: r') ∧ ltP t' p ∧ (∀ q, s q → CovD (t' :: r') q ∨ (ltP t' q ∧ ltP q p ∧ trn t' q p ≤ 0)) ∧ (∀ u r'', r' = u :: r'' → 0 < trn u t' p) ∧ ∀ q ∈ t' :: r', q ∈ t :: r
  | [], t, s, hd, hc, hp, hs => ⟨t, [], rfl, hd, hc, hp, hs, (fun u r'' h => by cases h), fun q h => h⟩
  | u :: r, t, s, hd, hc, hp, hs => by
    by_cases h : trn u t p ≤ 0
    · rw [popTo, if_pos h]
      obtain ⟨t', r', e, h1, h2, h3, h4, h5, h6⟩ := pop_inv (p := p) (r := r) (t := u) s hd.2 hc.tail (ltP_trans hd.1 hp) (fun q hq => by
        rcases hs q hq with (h' | h' | h') | h'
        · subst h'; exact .inr ⟨hd.1, hp, h⟩
        · exact .inr ⟨h'.1, ltP_trans h'.2.1 hp, above_1 h'.1 h'.2.1 hp h'.2.2 h⟩
        · exact .inl h'
        · exact .inr ⟨ltP_trans hd.1 h'.1, h'.2.1, above_2 hd.1 h'.1 h'.2.1 h'.2.2 h⟩)
      exact ⟨t', r', e, h1, h2, h3, h4, h5, fun q hq => List.mem_cons_of_mem _ (h6 q hq)⟩
    · rw [popTo, if_neg h]
      exact ⟨t, u :: r, rfl, hd, hc, hp, hs, (fun u' r'' e => by injection e with e1 e2; subst e1; omega), fun q h => h⟩
structure Stk (s : Pt → Prop) (st : List Pt) : Prop where
  desc : Desc st
  conv : ConvD st
  cov : ∀ q, s q → CovD st q
  sub : ∀ q ∈ st, s q
theorem Stk.push {s : Pt → Prop} {st : List Pt} (h : Stk s st) {p : Pt} (hp : ∀ q, s q → ltP q p) : Stk (fun q => s q ∨ q = p) (p :: popTo p st) := by
  cases st with
  | nil =>
    exact ⟨trivial, trivial, fun q hq => by
      rcases hq with hq | hq
      · exact (h.cov q hq).elim
      · exact hq, fun q hq => by simp [popTo] at hq; exact .inr hq⟩
  | cons t r =>
    obtain ⟨t', r', e, h1, h2, h3, h4, h5, h6⟩ := pop_inv s h.desc h.conv (hp t (h.sub t (by simp))) (fun q hq => .inl (h.cov q hq))
    rw [e]
    refine ⟨⟨h3, h1⟩, ?_, fun q hq => ?_, fun q hq => ?_⟩
    · cases r' with
      | nil => trivial
      | cons u r'' => exact ⟨h5 u r'' rfl, h2⟩
    · rcases hq with hq | hq
      · rcases h4 q hq with h | h
        · exact .inr (.inr h)
        · exact .inr (.inl h)
      · exact .inl hq
    · rcases List.mem_cons.1 hq with h' | h'
      · exact .inr h'
      · exact .inl (h.sub q (h6 q h'))
theorem Stk.congr {s s' : Pt → Prop} {st : List Pt} (h : Stk s st) (he : ∀ q, s q ↔ s' q) : Stk s' st := ⟨h.desc, h.conv, fun q hq => h.cov q ((he q).2 hq), fun q hq => (he q).1 (h.sub q hq)⟩
def Asc (s : List Pt) : Prop := s.Pairwise ltP
theorem halfR_stk : ∀ (ps : List Pt) (s : Pt → Prop) (st : List Pt), Stk s st → Asc ps → (∀ q, s q → ∀ p ∈ ps, ltP q p) → Stk (fun q => s q ∨ q ∈ ps) (halfR st ps)
  | [], s, st, h, _, _ => h.congr (by simp)
  | p :: ps, s, st, h, ha, hlt => by
    rw [halfR]
    have ha' := List.pairwise_cons.1 ha
    refine (halfR_stk ps _ _ (h.push (fun q hq => hlt q hq p (by simp))) ha'.2 (fun q hq r hr => ?_)).congr (fun q => by simp [or_assoc])
    rcases hq with hq | hq
    · exact hlt q hq r (by simp [hr])
    · subst hq; exact ha'.1 r hr
theorem half_stk {s : List Pt} (ha : Asc s) : Stk (fun q => q ∈ s) (halfR [] s) :=
  (halfR_stk s (fun _ => False) [] ⟨trivial, trivial, fun _ h => h.elim, fun q h => by cases h⟩ ha (fun _ h => h.elim)).congr (by simp)

/-! ### what the stack holds lies strictly below all segments over it -/
theorem conv_edges : ∀ {r : List Pt} {a b : Pt}, Desc (a :: b :: r) → ConvD (a :: b :: r) → ∀ {l r' : List Pt} {t c : Pt}, b :: r = l ++ t :: c :: r' → 0 < cr c t b a
  | [], a, b, hd, hc, l, r', t, c, he => by
    exfalso
    have := congrArg List.length he
    simp at this; omega
  | d :: r, a, b, hd, hc, l, r', t, c, he => by
    have h0 : 0 < cr d b b a := by rw [← trn_1]; exact hc.1
    cases l with
    | nil =>
      injection he with e1 e2
      injection e2 with e2 e3
      subst e1 e2
      exact h0
    | cons x l =>
      injection he with e1 e2
      have h1 := conv_edges hd.2 hc.2 e2
      have hct : ltP c t := by
        have : Desc (d :: r) := hd.2.2
        rw [e2] at this
        clear e2 h1
        induction l with
        | nil => exact this.1
        | cons y l ih => exact ih this.tail
      exact cr_trans_l hct hd.2.1 hd.1 h1 (Int.le_of_lt h0)
/-- From c to the left: no slope is greater than that of the edge that ends there. -/
theorem claim_A : ∀ {r : List Pt} {c u a : Pt}, Desc (c :: u :: r) → ConvD (c :: u :: r) → CovD (c :: u :: r) a → ltP a c → 0 ≤ cr a c u c
  | r, c, u, a, hd, hc, h, hac => by
    rcases h with h | h | h
    · subst h; exact absurd hac (ltP_irr _)
    · rw [cr_flip, ← trn_3]; omega
    · rcases CovD.le hd.2 h with h' | h'
      · subst h'; unfold cr; rw [Int.mul_comm]; omega
      · match r, hd, hc, h with
        | [], hd, hc, h => exact absurd h' (by rw [show a = u from h]; exact ltP_irr _)
        | v :: r, hd, hc, h =>
          have h1 := claim_A hd.2 hc.2 h h'
          have h2 : 0 < cr v u u c := by rw [← trn_1]; exact hc.1
          have h3 : 0 < cr a u u c := cr_trans_r h' hd.2.1 hd.1 h1 h2
          rw [← trn_1, trn_3] at h3
          omega
/-- From c to the right: no slope is less than that of the edge that begins there. -/
theorem claim_B : ∀ {D l r : List Pt} {t c b : Pt}, Desc D → ConvD D → D = l ++ t :: c :: r → CovD D b → ltP c b → 0 ≤ cr c t c b
  | [], l, r, t, c, b, hd, hc, he, h, hcb => h.elim
  | [x], l, r, t, c, b, hd, hc, he, h, hcb => by
    exfalso
    have := congrArg List.length he
    simp at this; omega
  | x :: y :: D, l, r, t, c, b, hd, hc, he, h, hcb => by
    cases l with
    | nil =>
      injection he with e1 e2
      injection e2 with e2 e3
      subst e1 e2 e3
      rcases h with h | h | h
      · subst h; unfold cr; rw [Int.mul_comm]; omega
      · have := h.2.2
        rw [trn_2, cr_flip] at this
        omega
      · rcases CovD.le hd.2 h with h' | h'
        · subst h'; exact absurd hcb (ltP_irr _)
        · exact absurd hcb (ltP_asymm h')
    | cons z l =>
      injection he with e1 e2
      subst e1
      have hct : ltP c t := by
        have : Desc (y :: D) := hd.2
        rw [e2] at this
        clear e2
        induction l with
        | nil => exact this.1
        | cons y l ih => exact ih this.tail
      have edge := conv_edges hd hc e2
      have hy := claim_B hd.2 hc.tail e2 (CovD.mem (by simp : y ∈ y :: D))
      have hcy : ltP c y := by
        have : Desc (y :: D) := hd.2
        have hy2 : CovD (y :: D) t := by rw [e2]; exact CovD.mem (by simp)
        rcases CovD.le hd.2 hy2 with h | h
        · subst h; exact hct
        · exact ltP_trans hct h
      have hy := hy hcy
      -- b between y and x, or x: the slope from y to b is at least that from y to x
      have fin : ltP y b → 0 ≤ cr y x y b → 0 ≤ cr c t c b := fun hyb hb => by
        have h1 : 0 < cr c t y b := cr_trans_l hct hd.1 hyb edge hb
        -- c < y < b: c to y and y to b have slopes of at least c to t
        have e : cr c t c b = cr c t c y + cr c t y b := by unfold cr; grind
        omega
      rcases h with h | h | h
      · subst h
        exact fin hd.1 (by unfold cr; rw [Int.mul_comm]; omega)
      · refine fin h.1 ?_
        have := h.2.2
        rw [trn_2, cr_flip] at this
        omega
      · exact claim_B hd.2 hc.tail e2 h hcb
theorem mid_split : ∀ {D : List Pt} {c a b : Pt}, Desc D → c ∈ D → CovD D a → CovD D b → ltP a c → ltP c b → ∃ l t u r, D = l ++ t :: c :: u :: r
  | [], c, a, b, _, h, _, _, _, _ => by cases h
  | [x], c, a, b, hd, h, ha, hb, hac, hcb => by
    have e1 : a = x := ha
    have e2 : b = x := hb
    subst e1 e2
    exact absurd (ltP_trans hac hcb) (ltP_irr _)
  | x :: y :: D, c, a, b, hd, h, ha, hb, hac, hcb => by
    rcases List.mem_cons.1 h with h | h
    · subst h
      rcases CovD.le hd hb with h' | h'
      · subst h'; exact absurd hcb (ltP_irr _)
      · exact absurd hcb (ltP_asymm h')
    · have hcy : c = y ∨ ltP c y := CovD.le hd.2 (CovD.mem h)
      rcases hcy with rfl | hcy
      · have ha' : CovD (c :: D) a := by
          rcases ha with ha | ha | ha
          · subst ha; exact absurd hac (ltP_asymm hd.1)
          · exact absurd hac (ltP_asymm ha.1)
          · exact ha
        cases D with
        | nil => exact absurd hac (by rw [show a = c from ha']; exact ltP_irr _)
        | cons u r => exact ⟨[], x, u, r, rfl⟩
      · have ha' : CovD (y :: D) a := by
          rcases ha with ha | ha | ha
          · subst ha; exact absurd (ltP_trans hac hcy) (ltP_asymm hd.1)
          · exact absurd (ltP_trans hac hcy) (ltP_asymm ha.1)
          · exact ha
        obtain ⟨l, t, u, r, e⟩ := mid_split (b := y) hd.2 h ha' (CovD.mem (by simp)) hac hcy
        exact ⟨x :: l, t, u, r, by rw [e]; rfl⟩
theorem desc_drop : ∀ {l r : List Pt}, Desc (l ++ r) → Desc r
  | [], _, h => h
  | _ :: l, _, h => desc_drop (l := l) h.tail
theorem conv_drop : ∀ {l r : List Pt}, ConvD (l ++ r) → ConvD r
  | [], _, h => h
  | _ :: l, _, h => conv_drop (l := l) h.tail
theorem cov_drop : ∀ {l r : List Pt} {t a : Pt}, Desc (l ++ t :: r) → CovD (l ++ t :: r) a → ltP a t → CovD (t :: r) a
  | [], _, _, _, _, h, _ => h
  | x :: l, r, t, a, hd, h, hat => by
    have hd' : Desc (l ++ t :: r) := hd.tail
    refine cov_drop (l := l) hd' ?_ hat
    have hxt : ∀ y, CovD (l ++ t :: r) y → ltP y x := fun y hy => by
      match h2 : l ++ t :: r, hd, hy with
      | [], _, hy => exact hy.elim
      | z :: w, hd, hy =>
        have hd : Desc (x :: z :: w) := by have := hd; rw [List.cons_append, h2] at this; exact this
        rcases CovD.le hd.2 hy with h | h
        · subst h; exact hd.1
        · exact ltP_trans h hd.1
    have hta : CovD (l ++ t :: r) t := CovD.mem (by simp)
    match h2 : l ++ t :: r, h, hta with
    | [], _, hta => exact hta.elim
    | z :: w, h, hta =>
      have h : CovD (x :: z :: w) a := by have := h; rw [List.cons_append, h2] at this; exact this
      rw [h2] at hd' hxt
      rcases h with h | h | h
      · subst h; exact absurd hat (ltP_asymm (hxt t hta))
      · rcases CovD.le hd' hta with h' | h'
        · subst h'; exact absurd hat (ltP_asymm h.1)
        · exact absurd (ltP_trans hat h') (ltP_asymm h.1)
      · exact h
/-- Point p lies strictly below every segment between two of s over it. -/
def LowOk (s : Pt → Prop) (p : Pt) : Prop := ∀ a, s a → ∀ b, s b → ltP a p → ltP p b → 0 < trn a p b
theorem Stk.low {s : Pt → Prop} {st : List Pt} (h : Stk s st) {c : Pt} (hc : c ∈ st) : LowOk s c := by
  intro a ha b hb hac hcb
  have ca := h.cov a ha
  have cb := h.cov b hb
  obtain ⟨l, t, u, r, e⟩ := mid_split h.desc hc ca cb hac hcb
  have hd := h.desc
  have hv := h.conv
  rw [e] at hd hv ca cb
  have hd1 := desc_drop hd
  have hv1 := conv_drop hv
  have gB := claim_B hd hv rfl cb hcb
  have ca1 : CovD (c :: u :: r) a := by
    have : l ++ t :: c :: u :: r = (l ++ [t]) ++ c :: u :: r := by simp
    rw [this] at hd ca
    exact cov_drop hd ca hac
  have gA := claim_A hd1.2 hv1.2 ca1 hac
  have gM : 0 < cr u c c t := by rw [← trn_1]; exact hv1.1
  have h1 : 0 < cr a c c t := cr_trans_r hac hd1.2.1 hd1.1 gA gM
  have h2 : 0 < cr a c c b := cr_trans_l hac hd1.1 hcb h1 gB
  rw [trn_1]; exact h2
theorem Stk.mem_iff {s : Pt → Prop} {st : List Pt} (h : Stk s st) (p : Pt) : p ∈ st ↔ s p ∧ LowOk s p := by
  refine ⟨fun hp => ⟨h.sub p hp, h.low hp⟩, fun ⟨hp, hl⟩ => ?_⟩
  have key : ∀ {D : List Pt}, (∀ q ∈ D, s q) → CovD D p → p ∈ D := by
    intro D hD hc
    induction D with
    | nil => exact hc.elim
    | cons x D ih =>
      cases D with
      | nil => rw [show p = x from hc]; simp
      | cons y D =>
        rcases hc with hc | hc | hc
        · subst hc; simp
        · have := hl y (hD y (by simp)) x (hD x (by simp)) hc.1 hc.2.1
          omega
        · exact List.mem_cons_of_mem _ (ih (fun q hq => hD q (List.mem_cons_of_mem _ hq)) hc)
  exact key h.sub (h.cov p hp)
end Go.Proofs.YtnddfdhfefconaaGreatDoor
/- Sorted lists of points and hulls in plain words; hulls hang on the set of points alone; hulls of sums. No program in sight. -/
set_option linter.unusedVariables false
set_option linter.unusedSimpArgs false
namespace Go.Proofs.YtnddfdhfefconaaGreatDoor
open Go.RowKit

/-! ### sorted, each once -/
def insP (p : Pt) : List Pt → List Pt
  | [] => [p]
  | q :: r => if ltP q p then q :: insP p r else if q = p then q :: r else p :: q :: r
def sortP (l : List Pt) : List Pt := l.foldl (fun acc p => insP p acc) []
theorem insP_mem {p q : Pt} : ∀ {l : List Pt}, q ∈ insP p l ↔ q = p ∨ q ∈ l
  | [] => by simp [insP]
  | a :: r => by
    rw [insP]
    by_cases h1 : ltP a p
    · rw [if_pos h1, List.mem_cons, List.mem_cons, insP_mem (l := r)]
      constructor
      · rintro (h | h | h)
        · exact .inr (.inl h)
        · exact .inl h
        · exact .inr (.inr h)
      · rintro (h | h | h)
        · exact .inr (.inl h)
        · exact .inl h
        · exact .inr (.inr h)
    · rw [if_neg h1]
      by_cases h2 : a = p
      · subst h2; simp
      · rw [if_neg h2]; simp
theorem insP_asc {p : Pt} : ∀ {l : List Pt}, Asc l → Asc (insP p l)
  | [], _ => by simp [insP, Asc]
  | a :: r, h => by
    have h' := List.pairwise_cons.1 h
    rw [insP]
    by_cases h1 : ltP a p
    · rw [if_pos h1]
      refine List.pairwise_cons.2 ⟨fun q hq => ?_, insP_asc h'.2⟩
      rcases insP_mem.1 hq with e | e
      · subst e; exact h1
      · exact h'.1 q e
    · rw [if_neg h1]
      by_cases h2 : a = p
      · rw [if_pos h2]; exact h
      · rw [if_neg h2]
        have h3 : ltP p a := by
          rcases ltP_tri a p with h | h | h
          · exact absurd h h1
          · exact absurd h h2
          · exact h
        refine List.pairwise_cons.2 ⟨fun q hq => ?_, h⟩
        rcases List.mem_cons.1 hq with e | e
        · subst e; exact h3
        · exact ltP_trans h3 (h'.1 q e)
theorem sortP_go : ∀ (l acc : List Pt), Asc acc → Asc (l.foldl (fun acc p => insP p acc) acc) ∧ ∀ q, q ∈ l.foldl (fun acc p => insP p acc) acc ↔ q ∈ acc ∨ q ∈ l
  | [], acc, h => ⟨h, fun q => by simp⟩
  | p :: l, acc, h => by
    obtain ⟨h1, h2⟩ := sortP_go l (insP p acc) (insP_asc h)
    refine ⟨h1, fun q => ?_⟩
    rw [List.foldl_cons, h2 q, insP_mem, List.mem_cons]
    constructor
    · rintro ((h | h) | h)
      · exact .inr (.inl h)
      · exact .inl h
      · exact .inr (.inr h)
    · rintro (h | h | h)
      · exact .inl (.inr h)
      · exact .inl (.inl h)
      · exact .inr h
theorem sortP_asc (l : List Pt) : Asc (sortP l) := (sortP_go l [] List.Pairwise.nil).1
theorem sortP_mem {l : List Pt} {q : Pt} : q ∈ sortP l ↔ q ∈ l := by
  have := (sortP_go l [] List.Pairwise.nil).2 q
  simpa [sortP] using this
theorem asc_ext : ∀ {l l' : List Pt}, Asc l → Asc l' → (∀ q, q ∈ l ↔ q ∈ l') → l = l'
  | [], [], _, _, _ => rfl
  | [], b :: r, _, _, h => by have := (h b).2 (by simp); cases this
  | a :: r, [], _, _, h => by have := (h a).1 (by simp); cases this
  | a :: r, b :: r', h1, h2, h => by
    have g1 := List.pairwise_cons.1 h1
    have g2 := List.pairwise_cons.1 h2
    have e : a = b := by
      rcases List.mem_cons.1 ((h a).1 (by simp)) with e | e
      · exact e
      · rcases List.mem_cons.1 ((h b).2 (by simp)) with e' | e'
        · exact e'.symm
        · exact absurd (g2.1 a e) (ltP_asymm (g1.1 b e'))
    subst e
    rw [asc_ext g1.2 g2.2 (fun q => ?_)]
    constructor
    · intro hq
      rcases List.mem_cons.1 ((h q).1 (List.mem_cons_of_mem _ hq)) with e | e
      · subst e; exact absurd (g1.1 _ hq) (ltP_irr _)
      · exact e
    · intro hq
      rcases List.mem_cons.1 ((h q).2 (List.mem_cons_of_mem _ hq)) with e | e
      · subst e; exact absurd (g2.1 _ hq) (ltP_irr _)
      · exact e
theorem sortP_ext {l l' : List Pt} (h : ∀ q, q ∈ l ↔ q ∈ l') : sortP l = sortP l' := asc_ext (sortP_asc l) (sortP_asc l') fun q => by rw [sortP_mem, sortP_mem, h q]
theorem sortP_self {l : List Pt} (h : Asc l) : sortP l = l := asc_ext (sortP_asc l) h fun q => sortP_mem
theorem asc_nodup {l : List Pt} (h : Asc l) : l.Nodup := h.imp ltP_ne
theorem insP_len (p : Pt) : ∀ l : List Pt, (insP p l).length ≤ l.length + 1
  | [] => by simp [insP]
  | q :: r => by
    rw [insP]
    split
    · have := insP_len p r; simp; omega
    · split <;> simp
theorem sortP_len (l : List Pt) : (sortP l).length ≤ l.length := by
  have : ∀ (l acc : List Pt), (l.foldl (fun acc p => insP p acc) acc).length ≤ acc.length + l.length := by
    intro l
    induction l with
    | nil => intro acc; simp
    | cons p l ih =>
      intro acc
      rw [List.foldl_cons]
      have := ih (insP p acc)
      have := insP_len p acc
      simp; omega
  simpa [sortP] using this l []

/-! ### both halves -/
def negP (p : Pt) : Pt := ⟨-p.x, -p.y⟩
theorem negP_negP (p : Pt) : negP (negP p) = p := by cases p; simp [negP]
theorem negP_lt {a b : Pt} : ltP (negP a) (negP b) ↔ ltP b a := by unfold ltP negP; constructor <;> intro h <;> simp at * <;> omega
theorem negP_trn (a b c : Pt) : trn (negP a) (negP b) (negP c) = trn a b c := by unfold trn negP; grind
theorem popTo_neg (p : Pt) : ∀ st : List Pt, popTo (negP p) (st.map negP) = (popTo p st).map negP
  | [] => rfl
  | [a] => rfl
  | t :: u :: r => by
    have h := popTo_neg p (u :: r)
    simp only [List.map_cons, popTo, negP_trn] at h ⊢
    split
    · exact h
    · rfl
theorem halfR_neg : ∀ (ps st : List Pt), halfR (st.map negP) (ps.map negP) = (halfR st ps).map negP
  | [], st => rfl
  | p :: ps, st => by
    rw [List.map_cons, halfR, halfR, popTo_neg, ← List.map_cons, halfR_neg ps]
theorem halfL_neg (s : List Pt) : halfL (s.map negP) = (halfL s).map negP := by
  unfold halfL
  have h := halfR_neg s []
  rw [List.map_nil] at h
  rw [h, List.map_reverse]
/-- p lies strictly above every segment of s under it. -/
def UpOk (s : Pt → Prop) (p : Pt) : Prop := ∀ a, s a → ∀ b, s b → ltP p a → ltP b p → 0 < trn a p b
theorem desc_asc : ∀ {l : List Pt}, Desc l → Asc l.reverse
  | [], _ => by simp [Asc]
  | [a], _ => by simp [Asc]
  | a :: b :: r, h => by
    rw [List.reverse_cons]
    refine List.pairwise_append.2 ⟨desc_asc h.2, by simp, fun q hq x hx => ?_⟩
    rw [List.mem_singleton.1 hx]
    rw [List.mem_reverse] at hq
    rcases CovD.le h.2 (CovD.mem hq) with e | e
    · subst e; exact h.1
    · exact ltP_trans e h.1
def lowL (l : List Pt) : List Pt := halfL (sortP l)
def upL (l : List Pt) : List Pt := halfL (sortP l).reverse
theorem lowL_asc (l : List Pt) : Asc (lowL l) := desc_asc (half_stk (sortP_asc l)).desc
theorem lowL_mem {l : List Pt} {p : Pt} : p ∈ lowL l ↔ p ∈ l ∧ LowOk (· ∈ l) p := by
  unfold lowL halfL
  rw [List.mem_reverse, (half_stk (sortP_asc l)).mem_iff]
  simp only [sortP_mem, LowOk]
theorem upL_neg (l : List Pt) : upL l = (lowL (l.map negP)).map negP := by
  have : (sortP l).reverse.map negP = sortP (l.map negP) := by
    refine asc_ext ?_ (sortP_asc _) fun q => ?_
    · unfold Asc
      rw [List.pairwise_map, List.pairwise_reverse]
      exact (sortP_asc l).imp fun h => negP_lt.2 h
    · rw [sortP_mem, List.mem_map, List.mem_map]
      constructor
      · rintro ⟨a, h, e⟩; exact ⟨a, sortP_mem.1 (List.mem_reverse.1 h), e⟩
      · rintro ⟨a, h, e⟩; exact ⟨a, List.mem_reverse.2 (sortP_mem.2 h), e⟩
  unfold upL lowL
  rw [← this, halfL_neg, List.map_map]
  have e : negP ∘ negP = id := funext fun p => negP_negP p
  rw [e, List.map_id]
theorem upL_mem {l : List Pt} {p : Pt} : p ∈ upL l ↔ p ∈ l ∧ UpOk (· ∈ l) p := by
  rw [upL_neg, List.mem_map]
  constructor
  · rintro ⟨q, hq, rfl⟩
    obtain ⟨h1, h2⟩ := lowL_mem.1 hq
    obtain ⟨r, hr, rfl⟩ := List.mem_map.1 h1
    rw [negP_negP]
    refine ⟨hr, fun a ha b hb hpa hbp => ?_⟩
    have := h2 (negP a) (List.mem_map.2 ⟨a, ha, rfl⟩) (negP b) (List.mem_map.2 ⟨b, hb, rfl⟩) (negP_lt.2 hpa) (negP_lt.2 hbp)
    rwa [negP_trn] at this
  · rintro ⟨h1, h2⟩
    refine ⟨negP p, lowL_mem.2 ⟨List.mem_map.2 ⟨p, h1, rfl⟩, fun a ha b hb hpa hbp => ?_⟩, negP_negP p⟩
    obtain ⟨a', ha', rfl⟩ := List.mem_map.1 ha
    obtain ⟨b', hb', rfl⟩ := List.mem_map.1 hb
    rw [negP_trn]
    exact h2 a' ha' b' hb' (negP_lt.1 hpa) (negP_lt.1 hbp)
def Dsc (s : List Pt) : Prop := s.Pairwise fun a b => ltP b a
theorem upL_dsc (l : List Pt) : Dsc (upL l) := by
  rw [upL_neg]
  unfold Dsc
  rw [List.pairwise_map]
  exact (lowL_asc _).imp fun h => negP_lt.2 h
theorem dsc_ext {l l' : List Pt} (h1 : Dsc l) (h2 : Dsc l') (h : ∀ q, q ∈ l ↔ q ∈ l') : l = l' := by
  have := asc_ext (l := l.reverse) (l' := l'.reverse) (List.pairwise_reverse.2 h1) (List.pairwise_reverse.2 h2) (fun q => by rw [List.mem_reverse, List.mem_reverse, h q])
  have := congrArg List.reverse this
  simpa using this
/-- The hull: counterclockwise from the least point on. -/
def hullOf (l : List Pt) : List Pt := if (sortP l).length < 2 then sortP l else (lowL l).dropLast ++ (upL l).dropLast
/-- A point of l that is no vertex below lies above a segment between two that are. -/
theorem low_cover {l : List Pt} {p : Pt} (hp : p ∈ l) (h : ¬ LowOk (· ∈ l) p) : ∃ u v, u ∈ lowL l ∧ v ∈ lowL l ∧ ltP u p ∧ ltP p v ∧ trn u p v ≤ 0 := by
  have st := half_stk (sortP_asc l)
  have hc := st.cov p (sortP_mem.2 hp)
  have key : ∀ {D : List Pt}, (∀ q ∈ D, q ∈ halfR [] (sortP l)) → CovD D p → p ∈ D ∨ ∃ u v, u ∈ lowL l ∧ v ∈ lowL l ∧ ltP u p ∧ ltP p v ∧ trn u p v ≤ 0 := by
    intro D hD hc
    induction D with
    | nil => exact hc.elim
    | cons x D ih =>
      cases D with
      | nil => exact .inl (by rw [show p = x from hc]; simp)
      | cons y D =>
        rcases hc with hc | hc | hc
        · subst hc; exact .inl (by simp)
        · exact .inr ⟨y, x, by unfold lowL halfL; rw [List.mem_reverse]; exact hD y (by simp), by unfold lowL halfL; rw [List.mem_reverse]; exact hD x (by simp), hc⟩
        · rcases ih (fun q hq => hD q (List.mem_cons_of_mem _ hq)) hc with h | h
          · exact .inl (List.mem_cons_of_mem _ h)
          · exact .inr h
  rcases key (fun q h => h) hc with h' | h'
  · exact absurd (lowL_mem.1 (by unfold lowL halfL; rw [List.mem_reverse]; exact h')).2 h
  · exact h'
theorem up_cover {l : List Pt} {p : Pt} (hp : p ∈ l) (h : ¬ UpOk (· ∈ l) p) : ∃ u v, u ∈ upL l ∧ v ∈ upL l ∧ ltP p u ∧ ltP v p ∧ trn u p v ≤ 0 := by
  have h' : ¬ LowOk (· ∈ l.map negP) (negP p) := fun hl => h fun a ha b hb hpa hbp => by
    have := hl (negP a) (List.mem_map.2 ⟨a, ha, rfl⟩) (negP b) (List.mem_map.2 ⟨b, hb, rfl⟩) (negP_lt.2 hpa) (negP_lt.2 hbp)
    rwa [negP_trn] at this
  obtain ⟨u, v, hu, hv, h1, h2, h3⟩ := low_cover (List.mem_map.2 ⟨p, hp, rfl⟩) h'
  refine ⟨negP u, negP v, by rw [upL_neg]; exact List.mem_map.2 ⟨u, hu, rfl⟩, by rw [upL_neg]; exact List.mem_map.2 ⟨v, hv, rfl⟩, ?_, ?_, ?_⟩
  · rw [← negP_lt, negP_negP]; exact h1
  · rw [← negP_lt, negP_negP]; exact h2
  · rw [← negP_trn, negP_negP, negP_negP]; exact h3
/-- Points between may be left out: both halves are the same. -/
theorem low_ext {l l' : List Pt} (h1 : ∀ q ∈ l', q ∈ l) (h2 : ∀ q ∈ lowL l, q ∈ l') : lowL l = lowL l' := by
  refine asc_ext (lowL_asc l) (lowL_asc l') fun q => ?_
  constructor
  · intro hq
    exact lowL_mem.2 ⟨h2 q hq, fun a ha b hb => (lowL_mem.1 hq).2 a (h1 a ha) b (h1 b hb)⟩
  · intro hq
    obtain ⟨g1, g2⟩ := lowL_mem.1 hq
    refine lowL_mem.2 ⟨h1 q g1, Classical.byContradiction fun hn => ?_⟩
    obtain ⟨u, v, hu, hv, k1, k2, k3⟩ := low_cover (h1 q g1) hn
    have := g2 u (h2 u hu) v (h2 v hv) k1 k2
    omega
theorem up_ext {l l' : List Pt} (h1 : ∀ q ∈ l', q ∈ l) (h2 : ∀ q ∈ upL l, q ∈ l') : upL l = upL l' := by
  refine dsc_ext (upL_dsc l) (upL_dsc l') fun q => ?_
  constructor
  · intro hq
    exact upL_mem.2 ⟨h2 q hq, fun a ha b hb => (upL_mem.1 hq).2 a (h1 a ha) b (h1 b hb)⟩
  · intro hq
    obtain ⟨g1, g2⟩ := upL_mem.1 hq
    refine upL_mem.2 ⟨h1 q g1, Classical.byContradiction fun hn => ?_⟩
    obtain ⟨u, v, hu, hv, k1, k2, k3⟩ := up_cover (h1 q g1) hn
    have := g2 u (h2 u hu) v (h2 v hv) k1 k2
    omega
/-- The least and the greatest point. -/
theorem asc_min {l : List Pt} (h : Asc l) (hn : l ≠ []) : ∃ m, m ∈ l ∧ l.head? = some m ∧ ∀ q ∈ l, q = m ∨ ltP m q := by
  cases l with
  | nil => exact absurd rfl hn
  | cons m r => exact ⟨m, by simp, rfl, fun q hq => by
      rcases List.mem_cons.1 hq with e | e
      · exact .inl e
      · exact .inr ((List.pairwise_cons.1 h).1 q e)⟩
theorem asc_max {l : List Pt} (h : Asc l) (hn : l ≠ []) : ∃ m, m ∈ l ∧ l.getLast? = some m ∧ ∀ q ∈ l, q = m ∨ ltP q m := by
  have hr : Asc (l.reverse.map negP) := by
    unfold Asc
    rw [List.pairwise_map, List.pairwise_reverse]
    exact List.Pairwise.imp (fun h => negP_lt.2 h) h
  obtain ⟨m, h1, h2, h3⟩ := asc_min hr (by simpa using hn)
  obtain ⟨m', hm', rfl⟩ := List.mem_map.1 h1
  rw [List.mem_reverse] at hm'
  refine ⟨m', hm', ?_, fun q hq => ?_⟩
  · rw [List.head?_map, List.head?_reverse] at h2
    cases hl : l.getLast? with
    | none => rw [hl] at h2; cases h2
    | some x =>
      rw [hl] at h2
      have : negP x = negP m' := Option.some.inj h2
      rw [show x = m' from by rw [← negP_negP x, this, negP_negP]]
  · rcases h3 (negP q) (List.mem_map.2 ⟨q, List.mem_reverse.2 hq, rfl⟩) with e | e
    · exact .inl (by rw [← negP_negP q, e, negP_negP])
    · exact .inr (negP_lt.1 e)
theorem ne_sort {l : List Pt} (h : l ≠ []) : sortP l ≠ [] := by
  cases l with
  | nil => exact absurd rfl h
  | cons a r => intro e; have : a ∈ sortP (a :: r) := sortP_mem.2 (by simp); rw [e] at this; cases this
theorem set_min {l : List Pt} (h : l ≠ []) : ∃ m ∈ l, ∀ q ∈ l, q = m ∨ ltP m q := by
  obtain ⟨m, h1, _, h3⟩ := asc_min (sortP_asc l) (ne_sort h)
  exact ⟨m, sortP_mem.1 h1, fun q hq => h3 q (sortP_mem.2 hq)⟩
theorem set_max {l : List Pt} (h : l ≠ []) : ∃ m ∈ l, ∀ q ∈ l, q = m ∨ ltP q m := by
  obtain ⟨m, h1, _, h3⟩ := asc_max (sortP_asc l) (ne_sort h)
  exact ⟨m, sortP_mem.1 h1, fun q hq => h3 q (sortP_mem.2 hq)⟩
theorem min_low {l : List Pt} {m : Pt} (h : m ∈ l) (hm : ∀ q ∈ l, q = m ∨ ltP m q) : m ∈ lowL l ∧ m ∈ upL l := by
  refine ⟨lowL_mem.2 ⟨h, fun a ha b hb h1 h2 => ?_⟩, upL_mem.2 ⟨h, fun a ha b hb h1 h2 => ?_⟩⟩
  · rcases hm a ha with e | e
    · subst e; exact absurd h1 (ltP_irr _)
    · exact absurd h1 (ltP_asymm e)
  · rcases hm b hb with e | e
    · subst e; exact absurd h2 (ltP_irr _)
    · exact absurd h2 (ltP_asymm e)
theorem max_low {l : List Pt} {m : Pt} (h : m ∈ l) (hm : ∀ q ∈ l, q = m ∨ ltP q m) : m ∈ lowL l ∧ m ∈ upL l := by
  refine ⟨lowL_mem.2 ⟨h, fun a ha b hb h1 h2 => ?_⟩, upL_mem.2 ⟨h, fun a ha b hb h1 h2 => ?_⟩⟩
  · rcases hm b hb with e | e
    · subst e; exact absurd h2 (ltP_irr _)
    · exact absurd h2 (ltP_asymm e)
  · rcases hm a ha with e | e
    · subst e; exact absurd h1 (ltP_irr _)
    · exact absurd h1 (ltP_asymm e)
theorem mem_dropLast {l : List Pt} {x q : Pt} (hl : l.getLast? = some x) : q ∈ l ↔ q ∈ l.dropLast ∨ q = x := by
  have : l = l.dropLast ++ [x] := by
    obtain ⟨hne, h2⟩ := List.getLast?_eq_some_iff.1 hl
    rw [h2]; simp
  rw [show (q ∈ l) = (q ∈ l.dropLast ++ [x]) from by rw [← this], List.mem_append, List.mem_singleton]
theorem last_of {l : List Pt} (h : Asc l) {m : Pt} (hm : m ∈ l) (hx : ∀ q ∈ l, q = m ∨ ltP q m) : l.getLast? = some m := by
  obtain ⟨x, h1, h2, h3⟩ := asc_max h (by intro e; subst e; cases hm)
  rcases h3 m hm with e | e
  · rw [e]; exact h2
  · rcases hx x h1 with e' | e'
    · rw [← e']; exact h2
    · exact absurd e (ltP_asymm e')
theorem last_of_d {l : List Pt} (h : Dsc l) {m : Pt} (hm : m ∈ l) (hx : ∀ q ∈ l, q = m ∨ ltP m q) : l.getLast? = some m := by
  have hr : Asc l.reverse := List.pairwise_reverse.2 h
  obtain ⟨x, h1, h2, h3⟩ := asc_min hr (by intro e; have := List.reverse_eq_nil_iff.1 e; subst this; cases hm)
  rw [List.head?_reverse] at h2
  rcases h3 m (List.mem_reverse.2 hm) with e | e
  · rw [e]; exact h2
  · rcases hx x (List.mem_reverse.1 h1) with e' | e'
    · rw [← e']; exact h2
    · exact absurd e (ltP_asymm e')
theorem sort_two {l : List Pt} {a b : Pt} (ha : a ∈ l) (hb : b ∈ l) (h : a ≠ b) : 2 ≤ (sortP l).length := by
  have h1 := sortP_mem.2 ha
  have h2 := sortP_mem.2 hb
  match hs : sortP l, h1, h2 with
  | [], h1, _ => cases h1
  | [x], h1, h2 => exact absurd ((List.mem_singleton.1 h1).trans (List.mem_singleton.1 h2).symm) h
  | x :: y :: r, _, _ => simp
theorem two_of_sort {l : List Pt} (h : 2 ≤ (sortP l).length) : ∃ a b, a ∈ l ∧ b ∈ l ∧ ltP a b := by
  match hs : sortP l, h with
  | x :: y :: r, _ =>
    have := sortP_asc l
    rw [hs] at this
    exact ⟨x, y, sortP_mem.1 (by rw [hs]; simp), sortP_mem.1 (by rw [hs]; simp), (List.pairwise_cons.1 this).1 y (by simp)⟩
/-- Who is a vertex. -/
theorem hullOf_mem {l : List Pt} {q : Pt} : q ∈ hullOf l ↔ q ∈ lowL l ∨ q ∈ upL l := by
  unfold hullOf
  by_cases hl : l = []
  · subst hl; simp [sortP, lowL, upL, halfL, halfR]
  obtain ⟨mn, hmn, hmin⟩ := set_min hl
  obtain ⟨mx, hmx, hmax⟩ := set_max hl
  by_cases h : (sortP l).length < 2
  · rw [if_pos h, sortP_mem]
    have one : ∀ a ∈ l, a = mn := fun a ha => Decidable.byContradiction fun hne => by have := sort_two ha hmn hne; omega
    constructor
    · intro hq
      have := one q hq
      subst this
      exact .inl (min_low hmn hmin).1
    · rintro (hq | hq)
      · exact (lowL_mem.1 hq).1
      · exact (upL_mem.1 hq).1
  · rw [if_neg h, List.mem_append]
    obtain ⟨a, b, ha, hb, hab⟩ := two_of_sort (l := l) (by omega)
    have hne : mn ≠ mx := by
      intro e
      subst e
      rcases hmin b hb with e | e
      · subst e
        rcases hmin a ha with e | e
        · subst e; exact ltP_irr _ hab
        · exact ltP_asymm hab e
      · rcases hmax b hb with e' | e'
        · subst e'; exact ltP_irr _ e
        · exact ltP_asymm e e'
    have L := last_of (lowL_asc l) (max_low hmx hmax).1 (fun q hq => hmax q (lowL_mem.1 hq).1)
    have U := last_of_d (upL_dsc l) (min_low hmn hmin).2 (fun q hq => hmin q (upL_mem.1 hq).1)
    rw [mem_dropLast L, mem_dropLast U]
    have m1 := (mem_dropLast (q := mn) L).1 (min_low hmn hmin).1
    have m2 := (mem_dropLast (q := mx) U).1 (max_low hmx hmax).2
    constructor
    · rintro (h | h)
      · exact .inl (.inl h)
      · exact .inr (.inl h)
    · rintro ((h | h) | (h | h))
      · exact .inl h
      · subst h
        rcases m2 with h | h
        · exact .inr h
        · exact absurd h.symm hne
      · exact .inr h
      · subst h
        rcases m1 with h | h
        · exact .inl h
        · exact absurd h hne
theorem hullOf_sub {l : List Pt} {q : Pt} (h : q ∈ hullOf l) : q ∈ l := by
  rcases hullOf_mem.1 h with h | h
  · exact (lowL_mem.1 h).1
  · exact (upL_mem.1 h).1
/-- Two lists with one another's vertices have one hull. -/
theorem hull_ext {l l' : List Pt} (h1 : ∀ q ∈ l', q ∈ l) (h2 : ∀ q ∈ hullOf l, q ∈ l') : hullOf l = hullOf l' := by
  have e1 := low_ext h1 (fun q hq => h2 q (hullOf_mem.2 (.inl hq)))
  have e2 := up_ext h1 (fun q hq => h2 q (hullOf_mem.2 (.inr hq)))
  by_cases hl : l = []
  · subst hl
    have : l' = [] := List.eq_nil_iff_forall_not_mem.2 fun q hq => by have := h1 q hq; cases this
    rw [this]
  obtain ⟨mn, hmn, hmin⟩ := set_min hl
  obtain ⟨mx, hmx, hmax⟩ := set_max hl
  have i1 := h2 mn (hullOf_mem.2 (.inl (min_low hmn hmin).1))
  have i2 := h2 mx (hullOf_mem.2 (.inl (max_low hmx hmax).1))
  unfold hullOf
  by_cases h : (sortP l).length < 2
  · have one : ∀ a ∈ l, a = mn := fun a ha => Decidable.byContradiction fun hne => by have := sort_two ha hmn hne; omega
    have : sortP l = sortP l' := sortP_ext fun q => ⟨fun hq => by rw [one q hq]; exact i1, h1 q⟩
    rw [← this, if_pos h, if_pos h]
  · have hne : mn ≠ mx := by
      obtain ⟨a, b, ha, hb, hab⟩ := two_of_sort (l := l) (by omega)
      intro e
      subst e
      rcases hmin b hb with e | e
      · subst e
        rcases hmin a ha with e | e
        · subst e; exact ltP_irr _ hab
        · exact ltP_asymm hab e
      · rcases hmax b hb with e' | e'
        · subst e'; exact ltP_irr _ e
        · exact ltP_asymm e e'
    have := sort_two i1 i2 hne
    rw [if_neg h, if_neg (by omega), e1, e2]
theorem hull_set {l l' : List Pt} (h : ∀ q, q ∈ l ↔ q ∈ l') : hullOf l = hullOf l' := hull_ext (fun q hq => (h q).2 hq) (fun q hq => (h q).1 (hullOf_sub hq))
theorem hull_hull (l : List Pt) : hullOf (hullOf l) = hullOf l := (hull_ext (l := l) (l' := hullOf l) (fun q hq => hullOf_sub hq) (fun q hq => hq)).symm
end Go.Proofs.YtnddfdhfefconaaGreatDoor
/- Hulls of sums, of moved and doubled points; how far hulls are in a direction; how many vertices they have. No program in sight. -/
set_option linter.unusedVariables false
set_option linter.unusedSimpArgs false
namespace Go.Proofs.YtnddfdhfefconaaGreatDoor
open Go.RowKit

def addP (p q : Pt) : Pt := ⟨p.x + q.x, p.y + q.y⟩
def sumsL (a b : List Pt) : List Pt := a.flatMap fun p => b.map fun q => addP p q
theorem sumsL_mem {a b : List Pt} {r : Pt} : r ∈ sumsL a b ↔ ∃ p q, p ∈ a ∧ q ∈ b ∧ r = addP p q := by
  unfold sumsL
  rw [List.mem_flatMap]
  constructor
  · rintro ⟨p, hp, h⟩
    obtain ⟨q, hq, rfl⟩ := List.mem_map.1 h
    exact ⟨p, q, hp, hq, rfl⟩
  · rintro ⟨p, q, hp, hq, rfl⟩
    exact ⟨p, hp, List.mem_map.2 ⟨q, hq, rfl⟩⟩
theorem addP_lt_r {a b : Pt} (c : Pt) (h : ltP a b) : ltP (addP a c) (addP b c) := by unfold ltP addP at *; simp; omega
theorem addP_lt_l {a b : Pt} (c : Pt) (h : ltP a b) : ltP (addP c a) (addP c b) := by unfold ltP addP at *; simp; omega
theorem addP_trn_r (a b c t : Pt) : trn (addP a t) (addP b t) (addP c t) = trn a b c := by unfold trn addP; grind
theorem addP_trn_l (a b c t : Pt) : trn (addP t a) (addP t b) (addP t c) = trn a b c := by unfold trn addP; grind
theorem addP_comm (a b : Pt) : addP a b = addP b a := by unfold addP; rw [Int.add_comm a.x, Int.add_comm a.y]
/-- A lower vertex of the sums is a sum of lower vertices. -/
theorem sum_low {a b : List Pt} {r : Pt} (h : r ∈ lowL (sumsL a b)) : ∃ p q, p ∈ lowL a ∧ q ∈ lowL b ∧ r = addP p q := by
  obtain ⟨h1, h2⟩ := lowL_mem.1 h
  obtain ⟨p, q, hp, hq, rfl⟩ := sumsL_mem.1 h1
  refine ⟨p, q, lowL_mem.2 ⟨hp, fun x hx y hy h3 h4 => ?_⟩, lowL_mem.2 ⟨hq, fun x hx y hy h3 h4 => ?_⟩, rfl⟩
  · have := h2 (addP x q) (sumsL_mem.2 ⟨x, q, hx, hq, rfl⟩) (addP y q) (sumsL_mem.2 ⟨y, q, hy, hq, rfl⟩) (addP_lt_r q h3) (addP_lt_r q h4)
    rwa [addP_trn_r] at this
  · have := h2 (addP p x) (sumsL_mem.2 ⟨p, x, hp, hx, rfl⟩) (addP p y) (sumsL_mem.2 ⟨p, y, hp, hy, rfl⟩) (addP_lt_l p h3) (addP_lt_l p h4)
    rwa [addP_trn_l] at this
theorem sum_up {a b : List Pt} {r : Pt} (h : r ∈ upL (sumsL a b)) : ∃ p q, p ∈ upL a ∧ q ∈ upL b ∧ r = addP p q := by
  obtain ⟨h1, h2⟩ := upL_mem.1 h
  obtain ⟨p, q, hp, hq, rfl⟩ := sumsL_mem.1 h1
  refine ⟨p, q, upL_mem.2 ⟨hp, fun x hx y hy h3 h4 => ?_⟩, upL_mem.2 ⟨hq, fun x hx y hy h3 h4 => ?_⟩, rfl⟩
  · have := h2 (addP x q) (sumsL_mem.2 ⟨x, q, hx, hq, rfl⟩) (addP y q) (sumsL_mem.2 ⟨y, q, hy, hq, rfl⟩) (addP_lt_r q h3) (addP_lt_r q h4)
    rwa [addP_trn_r] at this
  · have := h2 (addP p x) (sumsL_mem.2 ⟨p, x, hp, hx, rfl⟩) (addP p y) (sumsL_mem.2 ⟨p, y, hp, hy, rfl⟩) (addP_lt_l p h3) (addP_lt_l p h4)
    rwa [addP_trn_l] at this
/-- The hull of the sums is that of the sums of the vertices. -/
theorem hull_sums (a b : List Pt) : hullOf (sumsL a b) = hullOf (sumsL (hullOf a) (hullOf b)) := by
  refine hull_ext (fun q hq => ?_) (fun q hq => ?_)
  · obtain ⟨x, y, hx, hy, rfl⟩ := sumsL_mem.1 hq
    exact sumsL_mem.2 ⟨x, y, hullOf_sub hx, hullOf_sub hy, rfl⟩
  · rcases hullOf_mem.1 hq with h | h
    · obtain ⟨x, y, hx, hy, rfl⟩ := sum_low h
      exact sumsL_mem.2 ⟨x, y, hullOf_mem.2 (.inl hx), hullOf_mem.2 (.inl hy), rfl⟩
    · obtain ⟨x, y, hx, hy, rfl⟩ := sum_up h
      exact sumsL_mem.2 ⟨x, y, hullOf_mem.2 (.inr hx), hullOf_mem.2 (.inr hy), rfl⟩
theorem hull_sums_comm (a b : List Pt) : hullOf (sumsL a b) = hullOf (sumsL b a) := hull_set fun q => by
  rw [sumsL_mem, sumsL_mem]
  constructor
  · rintro ⟨x, y, hx, hy, rfl⟩; exact ⟨y, x, hy, hx, addP_comm _ _⟩
  · rintro ⟨x, y, hx, hy, rfl⟩; exact ⟨y, x, hy, hx, addP_comm _ _⟩

/-! ### maps that keep order and turns -/
structure Keeps (f : Pt → Pt) : Prop where
  lt : ∀ a b, ltP (f a) (f b) ↔ ltP a b
  trn : ∀ a b c, 0 < trn (f a) (f b) (f c) ↔ 0 < trn a b c
theorem Keeps.inj {f : Pt → Pt} (h : Keeps f) {a b : Pt} (e : f a = f b) : a = b := by
  rcases ltP_tri a b with h1 | h1 | h1
  · have := (h.lt a b).2 h1; rw [e] at this; exact absurd this (ltP_irr _)
  · exact h1
  · have := (h.lt b a).2 h1; rw [e] at this; exact absurd this (ltP_irr _)
theorem asc_map {f : Pt → Pt} (h : Keeps f) {l : List Pt} (hl : Asc l) : Asc (l.map f) := by
  unfold Asc; rw [List.pairwise_map]; exact hl.imp fun {a b} hab => (h.lt a b).2 hab
theorem sortP_map {f : Pt → Pt} (h : Keeps f) (l : List Pt) : sortP (l.map f) = (sortP l).map f :=
  asc_ext (sortP_asc _) (asc_map h (sortP_asc l)) fun q => by
    rw [sortP_mem, List.mem_map, List.mem_map]
    constructor
    · rintro ⟨a, ha, e⟩; exact ⟨a, sortP_mem.2 ha, e⟩
    · rintro ⟨a, ha, e⟩; exact ⟨a, sortP_mem.1 ha, e⟩
theorem popTo_map {f : Pt → Pt} (h : Keeps f) (p : Pt) : ∀ st : List Pt, popTo (f p) (st.map f) = (popTo p st).map f
  | [] => rfl
  | [a] => rfl
  | t :: u :: r => by
    have ih := popTo_map h p (u :: r)
    have ht := h.trn u t p
    simp only [List.map_cons, popTo] at ih ⊢
    by_cases hh : trn u t p ≤ 0
    · rw [if_pos hh, if_pos (by omega)]; exact ih
    · rw [if_neg hh, if_neg (by omega)]; rfl
theorem halfR_map {f : Pt → Pt} (h : Keeps f) : ∀ (ps st : List Pt), halfR (st.map f) (ps.map f) = (halfR st ps).map f
  | [], st => rfl
  | p :: ps, st => by rw [List.map_cons, halfR, halfR, popTo_map h, ← List.map_cons, halfR_map h ps]
theorem halfL_map {f : Pt → Pt} (h : Keeps f) (s : List Pt) : halfL (s.map f) = (halfL s).map f := by
  unfold halfL
  have hh := halfR_map h s []
  rw [List.map_nil] at hh
  rw [hh, List.map_reverse]
theorem hull_map {f : Pt → Pt} (h : Keeps f) (l : List Pt) : hullOf (l.map f) = (hullOf l).map f := by
  unfold hullOf lowL upL
  rw [sortP_map h, ← List.map_reverse, halfL_map h, halfL_map h, List.length_map]
  split
  · rfl
  · rw [List.map_append, ← List.map_dropLast, ← List.map_dropLast]
theorem keeps_add (t : Pt) : Keeps fun p => addP p t := ⟨fun a b => by unfold ltP addP; simp, fun a b c => by rw [addP_trn_r]⟩
def dblP (p : Pt) : Pt := ⟨2 * p.x, 2 * p.y⟩
theorem dbl_trn (a b c : Pt) : trn (dblP a) (dblP b) (dblP c) = 4 * trn a b c := by unfold trn dblP; grind
theorem keeps_dbl : Keeps dblP := ⟨fun a b => by unfold ltP dblP; simp; omega, fun a b c => by rw [dbl_trn]; omega⟩
theorem sums_one (a : List Pt) (t : Pt) : sumsL a [t] = a.map fun p => addP p t := by
  unfold sumsL
  induction a with
  | nil => rfl
  | cons p a ih => rw [List.flatMap_cons, ih]; rfl
theorem hull_move (a : List Pt) (t : Pt) : hullOf (sumsL a [t]) = (hullOf a).map fun p => addP p t := by rw [sums_one, hull_map (keeps_add t)]
theorem mid_trn (a b : Pt) : trn (dblP a) (addP a b) (dblP b) = 0 := by unfold trn dblP addP; grind
theorem dbl_add {a b : Pt} (h : ltP a b) : ltP (dblP a) (addP a b) ∧ ltP (addP a b) (dblP b) := by unfold ltP dblP addP at *; simp; omega
theorem add_self (a : Pt) : addP a a = dblP a := by unfold addP dblP; rw [show a.x + a.x = 2 * a.x from by omega, show a.y + a.y = 2 * a.y from by omega]
/-- Points added to themselves: their hull is the doubled one. -/
theorem hull_self (a : List Pt) : hullOf (sumsL a a) = (hullOf a).map dblP := by
  rw [← hull_map keeps_dbl]
  refine hull_ext (fun q hq => ?_) (fun q hq => ?_)
  · obtain ⟨p, hp, rfl⟩ := List.mem_map.1 hq
    exact sumsL_mem.2 ⟨p, p, hp, hp, (add_self p).symm⟩
  · obtain ⟨p, r, hp, hr, rfl⟩ := sumsL_mem.1 (hullOf_sub hq)
    have dm : ∀ x ∈ a, dblP x ∈ sumsL a a := fun x hx => sumsL_mem.2 ⟨x, x, hx, hx, (add_self x).symm⟩
    have eq : p = r := by
      rcases ltP_tri p r with h | h | h
      · obtain ⟨h1, h2⟩ := dbl_add h
        rcases hullOf_mem.1 hq with hh | hh
        · have := (lowL_mem.1 hh).2 _ (dm p hp) _ (dm r hr) h1 h2
          rw [mid_trn] at this; omega
        · have := (upL_mem.1 hh).2 _ (dm r hr) _ (dm p hp) h2 h1
          have e : trn (dblP r) (addP p r) (dblP p) = 0 := by rw [addP_comm]; exact mid_trn r p
          omega
      · exact h
      · obtain ⟨h1, h2⟩ := dbl_add h
        rw [addP_comm] at h1 h2
        rcases hullOf_mem.1 hq with hh | hh
        · have := (lowL_mem.1 hh).2 _ (dm r hr) _ (dm p hp) h1 h2
          have e : trn (dblP r) (addP p r) (dblP p) = 0 := by rw [addP_comm]; exact mid_trn r p
          omega
        · have := (upL_mem.1 hh).2 _ (dm p hp) _ (dm r hr) h2 h1
          have e : trn (dblP p) (addP p r) (dblP r) = 0 := mid_trn p r
          omega
    subst eq
    exact List.mem_map.2 ⟨p, hp, (add_self p).symm⟩

/-! ### how many vertices -/
theorem low_up {l : List Pt} {p a b : Pt} (h1 : p ∈ lowL l) (h2 : p ∈ upL l) (ha : a ∈ l) (hb : b ∈ l) (hap : ltP a p) (hpb : ltP p b) : False := by
  have g1 := (lowL_mem.1 h1).2 a ha b hb hap hpb
  have g2 := (upL_mem.1 h2).2 b hb a ha hpb hap
  have e : trn b p a = -trn a p b := by unfold trn; grind
  omega
theorem dsc_nodup {l : List Pt} (h : Dsc l) : l.Nodup := List.Pairwise.imp (S := fun a b : Pt => a ≠ b) (fun {a b} hab => (ltP_ne hab).symm) h
theorem hullOf_nodup (l : List Pt) : (hullOf l).Nodup := by
  unfold hullOf
  by_cases h : (sortP l).length < 2
  · rw [if_pos h]; exact asc_nodup (sortP_asc l)
  · rw [if_neg h]
    have hl : l ≠ [] := by intro e; subst e; simp [sortP] at h
    obtain ⟨mn, hmn, hmin⟩ := set_min hl
    obtain ⟨mx, hmx, hmax⟩ := set_max hl
    have L := last_of (lowL_asc l) (max_low hmx hmax).1 (fun q hq => hmax q (lowL_mem.1 hq).1)
    have U := last_of_d (upL_dsc l) (min_low hmn hmin).2 (fun q hq => hmin q (upL_mem.1 hq).1)
    refine List.nodup_append.2 ⟨?_, ?_, fun p hp q hq e => ?_⟩
    · exact ((asc_nodup (lowL_asc l)).sublist (List.dropLast_sublist _))
    · have : (upL l).Nodup := dsc_nodup (upL_dsc l)
      exact this.sublist (List.dropLast_sublist _)
    · subst e
      have hp' := (mem_dropLast (q := p) L).2 (.inl hp)
      have hq' := (mem_dropLast (q := p) U).2 (.inl hq)
      have n1 : p ≠ mx := by
        intro e; subst e
        have nd := asc_nodup (lowL_asc l)
        obtain ⟨hne, h2⟩ := List.getLast?_eq_some_iff.1 L
        rw [h2] at nd hp
        simp at hp
        have := (List.nodup_append.1 nd).2.2 _ hp _ (List.mem_singleton.2 rfl)
        exact this rfl
      have n2 : p ≠ mn := by
        intro e; subst e
        have nd : (upL l).Nodup := dsc_nodup (upL_dsc l)
        obtain ⟨hne, h2⟩ := List.getLast?_eq_some_iff.1 U
        rw [h2] at nd hq
        simp at hq
        have := (List.nodup_append.1 nd).2.2 _ hq _ (List.mem_singleton.2 rfl)
        exact this rfl
      have hpl := (lowL_mem.1 hp').1
      have k1 : ltP mn p := (hmin p hpl).resolve_left n2
      have k2 : ltP p mx := (hmax p hpl).resolve_left n1
      exact low_up hp' hq' hmn hmx k1 k2
theorem nodup_len : ∀ {l l' : List Pt}, l.Nodup → (∀ q ∈ l, q ∈ l') → l.length ≤ l'.length
  | [], _, _, _ => by simp
  | a :: r, l', h, hs => by
    have h' := List.nodup_cons.1 h
    have := nodup_len (l := r) (l' := l'.erase a) h'.2 (fun q hq => (List.mem_erase_of_ne (fun e => by subst e; exact h'.1 hq)).2 (hs q (by simp [hq])))
    have hm := hs a (by simp)
    rw [List.length_erase_of_mem hm] at this
    have : 0 < l'.length := List.length_pos_of_mem hm
    simp; omega
theorem hullOf_len (l : List Pt) : (hullOf l).length ≤ (sortP l).length := nodup_len (hullOf_nodup l) fun q hq => sortP_mem.2 (hullOf_sub hq)
theorem hullOf_len' (l : List Pt) : (hullOf l).length ≤ l.length := Nat.le_trans (hullOf_len l) (sortP_len l)

/-! ### how far in a direction -/
def dotP (p : Pt) (x y : Int) : Int := p.x * x + p.y * y
theorem seg_far {u p v : Pt} {x y : Int} (h1 : ltP u p) (h2 : ltP p v) (ht : trn u p v ≤ 0) (hy : y ≤ 0) : dotP p x y ≤ dotP u x y ∨ dotP p x y ≤ dotP v x y := by
  refine Decidable.byContradiction fun hn => ?_
  have n1 : dotP u x y < dotP p x y := by omega
  have n2 : dotP v x y < dotP p x y := by omega
  clear hn
  have key : (v.x - u.x) * dotP p x y = (v.x - p.x) * dotP u x y + (p.x - u.x) * dotP v x y + -y * trn u p v := by unfold dotP trn; grind
  have e1 : 0 ≤ p.x - u.x := by unfold ltP at h1; omega
  have e2 : 0 ≤ v.x - p.x := by unfold ltP at h2; omega
  have k := Int.mul_nonpos_of_nonneg_of_nonpos (show 0 ≤ -y by omega) ht
  by_cases hx : 0 < v.x - u.x
  · have a1 : (v.x - p.x) * dotP u x y ≤ (v.x - p.x) * dotP p x y := Int.mul_le_mul_of_nonneg_left (by omega) e2
    have a2 : (p.x - u.x) * dotP v x y ≤ (p.x - u.x) * dotP p x y := Int.mul_le_mul_of_nonneg_left (by omega) e1
    have e : (v.x - u.x) * dotP p x y = (v.x - p.x) * dotP p x y + (p.x - u.x) * dotP p x y := by grind
    by_cases hx1 : 0 < p.x - u.x
    · have : (p.x - u.x) * dotP v x y < (p.x - u.x) * dotP p x y := Int.mul_lt_mul_of_pos_left (by omega) hx1
      omega
    · have : (v.x - p.x) * dotP u x y < (v.x - p.x) * dotP p x y := Int.mul_lt_mul_of_pos_left (by omega) (by omega)
      omega
  · have hpx : p.x = u.x := by omega
    have hpy : u.y < p.y := by unfold ltP at h1; omega
    have : (p.y - u.y) * y ≤ 0 := Int.mul_nonpos_of_nonneg_of_nonpos (by omega) hy
    have e : dotP p x y = dotP u x y + (p.y - u.y) * y := by unfold dotP; rw [hpx]; grind
    omega
theorem dotP_neg (p : Pt) (x y : Int) : dotP (negP p) (-x) (-y) = dotP p x y := by unfold dotP negP; grind
/-- Some vertex is as far as p. -/
theorem hull_far {l : List Pt} {p : Pt} (hp : p ∈ l) (x y : Int) : ∃ v, v ∈ hullOf l ∧ dotP p x y ≤ dotP v x y := by
  by_cases hy : y ≤ 0
  · by_cases h : LowOk (· ∈ l) p
    · exact ⟨p, hullOf_mem.2 (.inl (lowL_mem.2 ⟨hp, h⟩)), Int.le_refl _⟩
    · obtain ⟨u, v, hu, hv, k1, k2, k3⟩ := low_cover hp h
      rcases seg_far (x := x) k1 k2 k3 hy with g | g
      · exact ⟨u, hullOf_mem.2 (.inl hu), g⟩
      · exact ⟨v, hullOf_mem.2 (.inl hv), g⟩
  · by_cases h : UpOk (· ∈ l) p
    · exact ⟨p, hullOf_mem.2 (.inr (upL_mem.2 ⟨hp, h⟩)), Int.le_refl _⟩
    · obtain ⟨u, v, hu, hv, k1, k2, k3⟩ := up_cover hp h
      have := seg_far (x := -x) (y := -y) (negP_lt.2 k1) (negP_lt.2 k2) (by rw [negP_trn]; exact k3) (by omega)
      rw [dotP_neg, dotP_neg, dotP_neg] at this
      rcases this with g | g
      · exact ⟨u, hullOf_mem.2 (.inr hu), g⟩
      · exact ⟨v, hullOf_mem.2 (.inr hv), g⟩
end Go.Proofs.YtnddfdhfefconaaGreatDoor
/- Hulls are convex: each three vertices in order turn to the left; what lies inside of all edges lies in a triangle of vertices; when the hull of some points has the origin. No program in sight. -/
set_option linter.unusedVariables false
set_option linter.unusedSimpArgs false
namespace Go.Proofs.YtnddfdhfefconaaGreatDoor
open Go.RowKit

/-- Each three in order turn to the left. -/
def ConvP (h : List Pt) : Prop := ∀ a b c, [a, b, c].Sublist h → 0 < trn a b c
theorem trn_rot (a b c : Pt) : trn a b c = trn b c a := by unfold trn; grind
theorem trn_swap (a b c : Pt) : trn a b c = -trn b a c := by unfold trn; grind
theorem trn_aab (a b : Pt) : trn a a b = 0 := by unfold trn; grind
theorem trn_aba (a b : Pt) : trn a b a = 0 := by unfold trn; grind
theorem trn_abb (a b : Pt) : trn a b b = 0 := by unfold trn; grind
theorem asc_sub2 {l : List Pt} (h : Asc l) {a b : Pt} (hs : [a, b].Sublist l) : ltP a b := by
  have := h.sublist hs
  exact (List.pairwise_cons.1 this).1 b (by simp)
theorem dsc_sub2 {l : List Pt} (h : Dsc l) {a b : Pt} (hs : [a, b].Sublist l) : ltP b a := by
  have := h.sublist hs
  exact (List.pairwise_cons.1 this).1 b (by simp)
theorem mem_sub {l l' : List Pt} (h : l.Sublist l') {a : Pt} (ha : a ∈ l) : a ∈ l' := h.subset ha
/-- A below b among the lower vertices, c an upper one. -/
theorem low_low_up {l : List Pt} {a b c : Pt} (ha : a ∈ lowL l) (hb : b ∈ lowL l) (hc : c ∈ upL l) (hab : ltP a b) (h1 : c ≠ a) (h2 : c ≠ b) : 0 < trn a b c := by
  obtain ⟨la, oa⟩ := lowL_mem.1 ha
  obtain ⟨lb, ob⟩ := lowL_mem.1 hb
  obtain ⟨lc, oc⟩ := upL_mem.1 hc
  rcases ltP_tri c a with h | h | h
  · rw [trn_rot, trn_rot]; exact oa c lc b lb h hab
  · exact absurd h h1
  · rcases ltP_tri c b with h' | h' | h'
    · rw [trn_rot]; exact oc b lb a la h' h
    · exact absurd h' h2
    · exact ob a la c lc hab h'
theorem up_up_low {l : List Pt} {a b c : Pt} (ha : a ∈ upL l) (hb : b ∈ upL l) (hc : c ∈ lowL l) (hab : ltP b a) (h1 : c ≠ a) (h2 : c ≠ b) : 0 < trn a b c := by
  obtain ⟨la, oa⟩ := upL_mem.1 ha
  obtain ⟨lb, ob⟩ := upL_mem.1 hb
  obtain ⟨lc, oc⟩ := lowL_mem.1 hc
  rcases ltP_tri a c with h | h | h
  · rw [trn_rot, trn_rot]; exact oa c lc b lb h hab
  · exact absurd h.symm h1
  · rcases ltP_tri b c with h' | h' | h'
    · rw [trn_rot]; exact oc b lb a la h' h
    · exact absurd h'.symm h2
    · exact ob a la c lc hab h'
theorem hull_conv (l : List Pt) : ConvP (hullOf l) := by
  intro a b c hs
  have nd : [a, b, c].Nodup := (hullOf_nodup l).sublist hs
  obtain ⟨n1, n2⟩ := List.nodup_cons.1 nd
  obtain ⟨n3, _⟩ := List.nodup_cons.1 n2
  simp at n1 n3
  unfold hullOf at hs
  by_cases h : (sortP l).length < 2
  · rw [if_pos h] at hs
    have := hs.length_le
    simp at this; omega
  · rw [if_neg h] at hs
    obtain ⟨l1, l2, e, s1, s2⟩ := List.sublist_append_iff.1 hs
    have s1 := s1.trans (List.dropLast_sublist _)
    have s2 := s2.trans (List.dropLast_sublist _)
    match l1, e with
    | [], e =>
      simp at e; subst e
      have hab : ltP b a := dsc_sub2 (upL_dsc l) (List.Sublist.trans (by simp) s2)
      have hbc : ltP c b := dsc_sub2 (upL_dsc l) (List.Sublist.trans (by simp) s2)
      have ha := upL_mem.1 (mem_sub s2 (by simp : a ∈ _))
      have hb := upL_mem.1 (mem_sub s2 (by simp : b ∈ _))
      have hc := upL_mem.1 (mem_sub s2 (by simp : c ∈ _))
      exact hb.2 a ha.1 c hc.1 hab hbc
    | [x], e =>
      simp at e; obtain ⟨rfl, rfl⟩ := e
      have hbc : ltP c b := dsc_sub2 (upL_dsc l) s2
      rw [trn_rot]
      exact up_up_low (mem_sub s2 (by simp)) (mem_sub s2 (by simp)) (mem_sub s1 (by simp)) hbc n1.1 n1.2
    | [x, y], e =>
      simp at e; obtain ⟨rfl, rfl, rfl⟩ := e
      have hab : ltP a b := asc_sub2 (lowL_asc l) s1
      exact low_low_up (mem_sub s1 (by simp)) (mem_sub s1 (by simp)) (mem_sub s2 (by simp)) hab (fun e => n1.2 e.symm) (fun e => n3 e.symm)
    | [x, y, z], e =>
      simp at e; obtain ⟨rfl, rfl, rfl, rfl⟩ := e
      have hab : ltP a b := asc_sub2 (lowL_asc l) (List.Sublist.trans (by simp) s1)
      have hbc : ltP b c := asc_sub2 (lowL_asc l) (List.Sublist.trans (by simp) s1)
      have ha := lowL_mem.1 (mem_sub s1 (by simp : a ∈ _))
      have hb := lowL_mem.1 (mem_sub s1 (by simp : b ∈ _))
      have hc := lowL_mem.1 (mem_sub s1 (by simp : c ∈ _))
      exact hb.2 a ha.1 c hc.1 hab hbc
    | x :: y :: z :: w :: l1, e => simp at e

/-! ### edges -/
/-- The edges of a ring, as pairs: each with the next, the last with the first. -/
def ring (h : List Pt) : List (Pt × Pt) := h.zip (h.drop 1 ++ h.take 1)
def chainE : Pt → List Pt → List (Pt × Pt)
  | _, [] => []
  | a, b :: r => (a, b) :: chainE b r
theorem chain_zip : ∀ (a : Pt) (r : List Pt) (z : Pt), (a :: r).zip (r ++ [z]) = chainE a (r ++ [z])
  | a, [], z => rfl
  | a, b :: r, z => by
    have := chain_zip b r z
    simp only [List.cons_append, List.zip_cons_cons, chainE] at this ⊢
    rw [this]
theorem ring_cons (a : Pt) (r : List Pt) : ring (a :: r) = chainE a (r ++ [a]) := by
  unfold ring
  simp only [List.drop_succ_cons, List.drop_zero, List.take_succ_cons, List.take_zero]
  exact chain_zip a r a
/-- q lies inside of all edges, the border let in. -/
def Inside (h : List Pt) (q : Pt) : Prop := ∀ e ∈ ring h, 0 ≤ trn e.1 e.2 q
/-- An edge: its ends are neighbours, or the last and the first. -/
theorem chainE_mem : ∀ {a : Pt} {r : List Pt} {e : Pt × Pt}, e ∈ chainE a r → [e.1, e.2].Sublist (a :: r)
  | a, [], e, h => by cases h
  | a, b :: r, e, h => by
    rcases List.mem_cons.1 h with h | h
    · subst h; exact List.Sublist.cons_cons a (List.Sublist.cons_cons b (List.nil_sublist r))
    · exact (chainE_mem h).trans (List.sublist_cons_self a _)
theorem chainE_snoc : ∀ {a : Pt} {r : List Pt} {z : Pt} {e : Pt × Pt}, e ∈ chainE a (r ++ [z]) → e ∈ chainE a r ∨ e = ((a :: r).getLastD a, z)
  | a, [], z, e, h => by simp [chainE] at h; exact .inr (by simp [h])
  | a, b :: r, z, e, h => by
    rw [List.cons_append, chainE] at h
    rcases List.mem_cons.1 h with h | h
    · exact .inl (by subst h; simp [chainE])
    · rcases chainE_snoc h with h | h
      · exact .inl (List.mem_cons_of_mem _ h)
      · refine .inr ?_
        rw [h]
        cases r with
        | nil => rfl
        | cons c r => simp [List.getLastD]
theorem adj_split : ∀ {a : Pt} {r : List Pt} {e : Pt × Pt}, e ∈ chainE a r → ∃ l1 l2, a :: r = l1 ++ e.1 :: e.2 :: l2
  | a, [], e, h => by cases h
  | a, b :: r, e, h => by
    rcases List.mem_cons.1 h with h | h
    · subst h; exact ⟨[], r, rfl⟩
    · obtain ⟨l1, l2, e⟩ := adj_split h
      exact ⟨a :: l1, l2, by rw [e]; rfl⟩
/-- All vertices lie inside of each edge; strictly, but for its ends. -/
theorem edge_left {h : List Pt} (hc : ConvP h) {e : Pt × Pt} (he : e ∈ ring h) {v : Pt} (hv : v ∈ h) : v = e.1 ∨ v = e.2 ∨ 0 < trn e.1 e.2 v := by
  cases h with
  | nil => cases hv
  | cons a r =>
    rw [ring_cons] at he
    rcases chainE_snoc he with he | he
    · obtain ⟨l1, l2, es⟩ := adj_split he
      rw [es] at hv hc
      rcases List.mem_append.1 hv with hv | hv
      · refine .inr (.inr ?_)
        rw [trn_rot, trn_rot]
        refine hc _ _ _ ?_
        have s1 : [v].Sublist l1 := List.singleton_sublist.2 hv
        have s2 : [e.1, e.2].Sublist (e.1 :: e.2 :: l2) := List.Sublist.cons_cons _ (List.Sublist.cons_cons _ (List.nil_sublist _))
        exact s1.append s2
      · rcases List.mem_cons.1 hv with hv | hv
        · exact .inl hv
        · rcases List.mem_cons.1 hv with hv | hv
          · exact .inr (.inl hv)
          · refine .inr (.inr ?_)
            refine hc _ _ _ ?_
            have s2 : [e.1, e.2, v].Sublist (e.1 :: e.2 :: l2) := List.Sublist.cons_cons _ (List.Sublist.cons_cons _ (List.singleton_sublist.2 hv))
            exact s2.trans (List.sublist_append_right l1 _)
    · -- the last edge
      subst he
      cases hr : r.getLast? with
      | none =>
        have : r = [] := List.getLast?_eq_none_iff.1 hr
        subst this
        simp at hv; subst hv; exact .inl rfl
      | some z =>
        obtain ⟨r0, hr0⟩ := List.getLast?_eq_some_iff.1 hr
        have hl : (a :: r).getLastD a = z := by
          rw [hr0, show a :: (r0 ++ [z]) = (a :: r0) ++ [z] from rfl, List.getLastD_concat]
        rw [hl]
        rcases List.mem_cons.1 hv with hv | hv
        · exact .inr (.inl hv)
        · rw [hr0] at hv hc
          rcases List.mem_append.1 hv with hv | hv
          · refine .inr (.inr ?_)
            show 0 < trn z a v
            rw [trn_rot]
            refine hc _ _ _ (List.Sublist.cons_cons _ ?_)
            exact (List.singleton_sublist.2 hv).append (List.Sublist.refl [z])
          · exact .inl (List.mem_singleton.1 hv)
/-- The triangle's own words for an affine function. -/
theorem bary (a b c q : Pt) (m x y : Int) : trn a b c * (dotP q x y + m) = trn b c q * (dotP a x y + m) + trn c a q * (dotP b x y + m) + trn a b q * (dotP c x y + m) := by unfold trn dotP; grind
theorem tri_sum (a b c q : Pt) : trn a b c = trn b c q + trn c a q + trn a b q := by unfold trn; grind
/-- A point in a triangle is no farther in any direction than one of its corners. -/
theorem tri_far {a b c q : Pt} (h1 : 0 ≤ trn a b q) (h2 : 0 ≤ trn b c q) (h3 : 0 ≤ trn c a q) (h : 0 < trn a b c) (x y : Int) : dotP q x y ≤ dotP a x y ∨ dotP q x y ≤ dotP b x y ∨ dotP q x y ≤ dotP c x y := by
  refine Decidable.byContradiction fun hn => ?_
  have k := bary a b c q (-dotP q x y) x y
  have s := tri_sum a b c q
  have n1 : dotP a x y + -dotP q x y < 0 := by omega
  have n2 : dotP b x y + -dotP q x y < 0 := by omega
  have n3 : dotP c x y + -dotP q x y < 0 := by omega
  have z : dotP q x y + -dotP q x y = 0 := by omega
  rw [z, Int.mul_zero] at k
  have p1 := Int.mul_nonpos_of_nonneg_of_nonpos h2 (Int.le_of_lt n1)
  have p2 := Int.mul_nonpos_of_nonneg_of_nonpos h3 (Int.le_of_lt n2)
  have p3 := Int.mul_nonpos_of_nonneg_of_nonpos h1 (Int.le_of_lt n3)
  by_cases g1 : 0 < trn b c q
  · have := Int.mul_neg_of_pos_of_neg g1 n1; omega
  · by_cases g2 : 0 < trn c a q
    · have := Int.mul_neg_of_pos_of_neg g2 n2; omega
    · have := Int.mul_neg_of_pos_of_neg (show 0 < trn a b q by omega) n3; omega
/-- A fan from a: q lies between two of its ways. -/
theorem fan : ∀ {r : List Pt} {a b q : Pt}, 0 ≤ trn a b q → (∀ e ∈ chainE b r, 0 ≤ trn e.1 e.2 q) → r ≠ [] → 0 ≤ trn (r.getLastD b) a q →
    ∃ c d, (c, d) ∈ chainE b r ∧ 0 ≤ trn a c q ∧ 0 ≤ trn c d q ∧ 0 ≤ trn d a q
  | [], _, _, _, _, _, h, _ => absurd rfl h
  | [d], a, b, q, h1, h2, _, h3 => ⟨b, d, by simp [chainE], h1, h2 (b, d) (by simp [chainE]), by simpa using h3⟩
  | d :: d' :: r, a, b, q, h1, h2, _, h3 => by
    by_cases h : 0 ≤ trn d a q
    · exact ⟨b, d, by simp [chainE], h1, h2 (b, d) (by simp [chainE]), h⟩
    · have h4 : 0 ≤ trn a d q := by rw [trn_swap]; omega
      obtain ⟨c, e, k1, k2⟩ := fan (r := d' :: r) (b := d) h4 (fun e he => h2 e (List.mem_cons_of_mem _ he)) (by simp) (by
        have : (d :: d' :: r).getLastD b = (d' :: r).getLastD d := by simp [List.getLastD]
        rw [← this]; exact h3)
      exact ⟨c, e, List.mem_cons_of_mem _ k1, k2⟩
/-- What lies inside of all edges of a convex ring lies in a triangle of the fan of its first vertex. -/
theorem in_fan {a b c : Pt} {r : List Pt} (hc : ConvP (a :: b :: c :: r)) {q : Pt} (hi : Inside (a :: b :: c :: r) q) :
    ∃ u v, [a, u, v].Sublist (a :: b :: c :: r) ∧ 0 < trn a u v ∧ 0 ≤ trn a u q ∧ 0 ≤ trn u v q ∧ 0 ≤ trn v a q := by
  unfold Inside at hi
  rw [ring_cons] at hi
  have h1 : 0 ≤ trn a b q := hi (a, b) (by simp [chainE])
  have h2 : ∀ e ∈ chainE b (c :: r), 0 ≤ trn e.1 e.2 q := fun e he => hi e (by
    rw [List.cons_append, chainE]
    refine List.mem_cons_of_mem _ ?_
    have : ∀ (b : Pt) (r : List Pt) (z : Pt), ∀ e ∈ chainE b r, e ∈ chainE b (r ++ [z]) := by
      intro b r z
      induction r generalizing b with
      | nil => intro e he; cases he
      | cons d r ih =>
        intro e he
        rw [List.cons_append, chainE]
        rcases List.mem_cons.1 he with he | he
        · subst he; simp
        · exact List.mem_cons_of_mem _ (ih d e he)
    exact this b (c :: r) a e he)
  have h3 : 0 ≤ trn ((c :: r).getLastD b) a q := hi ((c :: r).getLastD b, a) (by
    have : ∀ (b : Pt) (r : List Pt) (z : Pt), (r.getLastD b, z) ∈ chainE b (r ++ [z]) := by
      intro b r z
      induction r generalizing b with
      | nil => simp [chainE]
      | cons d r ih =>
        rw [List.cons_append, chainE]
        refine List.mem_cons_of_mem _ ?_
        have := ih d
        rwa [show (d :: r).getLastD b = r.getLastD d from by cases r <;> simp [List.getLastD]]
    rw [List.cons_append, chainE]
    exact List.mem_cons_of_mem _ (this b (c :: r) a))
  obtain ⟨u, v, k1, k2, k3, k4⟩ := fan h1 h2 (by simp) h3
  have s := List.Sublist.cons_cons a (chainE_mem k1)
  exact ⟨u, v, s, hc _ _ _ s, k2, k3, k4⟩
end Go.Proofs.YtnddfdhfefconaaGreatDoor
/- When the hull of some points has the origin: if and only if no direction leads away from all of them. No program in sight. -/
set_option linter.unusedVariables false
set_option linter.unusedSimpArgs false
namespace Go.Proofs.YtnddfdhfefconaaGreatDoor
open Go.RowKit

def origin : Pt := ⟨0, 0⟩
/-- The program's test. -/
def meetI : List Pt → Bool
  | [] => false
  | [a] => decide (a = origin)
  | [a, b] => onSeg a b origin
  | h => (ring h).all fun e => decide (0 ≤ trn e.1 e.2 origin)
def HasO (l : List Pt) : Prop := ∀ x y, ∃ p, p ∈ l ∧ 0 ≤ dotP p x y
theorem sqz {u v : Int} (h : u * u + v * v ≤ 0) : u = 0 ∧ v = 0 := by
  have nn : ∀ a : Int, 0 ≤ a * a := fun a => by
    rcases Int.le_total 0 a with h | h
    · exact Int.mul_nonneg h h
    · have := Int.mul_nonneg (a := -a) (b := -a) (by omega) (by omega); rwa [Int.neg_mul_neg] at this
  have pos : ∀ a : Int, a ≠ 0 → 0 < a * a := fun a ha => by
    rcases Int.lt_trichotomy a 0 with h1 | h1 | h1
    · have := Int.mul_pos (a := -a) (b := -a) (by omega) (by omega); rw [Int.neg_mul_neg] at this; omega
    · exact absurd h1 ha
    · exact Int.mul_pos h1 h1
  refine ⟨Decidable.byContradiction fun hu => ?_, Decidable.byContradiction fun hv => ?_⟩
  · have := pos u hu; have := nn v; omega
  · have := pos v hv; have := nn u; omega
theorem dotP_origin (x y : Int) : dotP origin x y = 0 := by unfold dotP origin; simp
/-- A hull of one or two vertices, and what it holds. -/
theorem seg_has {a b : Pt} (h : onSeg a b origin = true) (x y : Int) : 0 ≤ dotP a x y ∨ 0 ≤ dotP b x y := by
  unfold onSeg at h
  simp only [Bool.and_eq_true, decide_eq_true_eq] at h
  obtain ⟨h1, h2⟩ := h
  have e1 : a.x * b.y - a.y * b.x = 0 := by unfold trn origin at h1; simp at h1; grind
  have e2 : a.x * b.x + a.y * b.y ≤ 0 := by unfold origin at h2; simpa using h2
  refine Decidable.byContradiction fun hn => ?_
  have n1 : dotP a x y < 0 := by omega
  have n2 : dotP b x y < 0 := by omega
  have p := Int.mul_pos_of_neg_of_neg n1 n2
  -- (a·d)(b·d) + (a×d)(b×d) = (a·b)(d·d)
  have k1 : dotP a x y * dotP b x y + (a.x * y - a.y * x) * (b.x * y - b.y * x) = (a.x * b.x + a.y * b.y) * (x * x + y * y) := by unfold dotP; grind
  have k2 : dotP a x y * (b.x * y - b.y * x) = dotP b x y * (a.x * y - a.y * x) := by
    have : dotP a x y * (b.x * y - b.y * x) - dotP b x y * (a.x * y - a.y * x) = -((a.x * b.y - a.y * b.x) * (x * x + y * y)) := by unfold dotP; grind
    rw [e1] at this
    simp at this
    omega
  have nn : 0 ≤ x * x + y * y := by
    have sq : ∀ a : Int, 0 ≤ a * a := fun a => by
      rcases Int.le_total 0 a with h | h
      · exact Int.mul_nonneg h h
      · have := Int.mul_nonneg (a := -a) (b := -a) (by omega) (by omega); rwa [Int.neg_mul_neg] at this
    have := sq x; have := sq y; omega
  have k3 := Int.mul_nonpos_of_nonpos_of_nonneg e2 nn
  -- the two cross products have one sign
  have k4 : 0 ≤ (a.x * y - a.y * x) * (b.x * y - b.y * x) := by
    rcases Int.lt_trichotomy (a.x * y - a.y * x) 0 with g | g | g
    · have : 0 < dotP b x y * (a.x * y - a.y * x) := Int.mul_pos_of_neg_of_neg n2 g
      have g2 : b.x * y - b.y * x < 0 := by
        refine Decidable.byContradiction fun hh => ?_
        have := Int.mul_nonpos_of_nonpos_of_nonneg (Int.le_of_lt n1) (show 0 ≤ b.x * y - b.y * x by omega)
        omega
      exact Int.le_of_lt (Int.mul_pos_of_neg_of_neg g g2)
    · rw [g]; simp
    · have : dotP b x y * (a.x * y - a.y * x) < 0 := Int.mul_neg_of_neg_of_pos n2 g
      have g2 : 0 < b.x * y - b.y * x := by
        refine Decidable.byContradiction fun hh => ?_
        have := Int.mul_nonneg_of_nonpos_of_nonpos (Int.le_of_lt n1) (show b.x * y - b.y * x ≤ 0 by omega)
        omega
      exact Int.le_of_lt (Int.mul_pos g g2)
  omega
/-- A direction that leads away from both ends of a segment that has not the origin. -/
theorem seg_not {a b : Pt} (h : onSeg a b origin = false) : ∃ x y, dotP a x y < 0 ∧ dotP b x y < 0 := by
  unfold onSeg at h
  by_cases h1 : trn a b origin = 0
  · rw [decide_eq_true h1, Bool.true_and] at h
    have h2 := of_decide_eq_false h
    have e2 : 0 < a.x * b.x + a.y * b.y := by unfold origin at h2; simp at h2; omega
    have nn : ∀ a : Int, 0 ≤ a * a := fun a => by
      rcases Int.le_total 0 a with h | h
      · exact Int.mul_nonneg h h
      · have := Int.mul_nonneg (a := -a) (b := -a) (by omega) (by omega); rwa [Int.neg_mul_neg] at this
    refine ⟨-(a.x + b.x), -(a.y + b.y), ?_, ?_⟩
    · have : dotP a (-(a.x + b.x)) (-(a.y + b.y)) = -(a.x * a.x + a.y * a.y) - (a.x * b.x + a.y * b.y) := by unfold dotP; grind
      have := nn a.x; have := nn a.y; omega
    · have : dotP b (-(a.x + b.x)) (-(a.y + b.y)) = -(b.x * b.x + b.y * b.y) - (a.x * b.x + a.y * b.y) := by unfold dotP; grind
      have := nn b.x; have := nn b.y; omega
  · have e1 : trn a b origin = dotP a (-(a.y - b.y)) (a.x - b.x) := by unfold trn dotP origin; grind
    have e2 : dotP b (-(a.y - b.y)) (a.x - b.x) = dotP a (-(a.y - b.y)) (a.x - b.x) := by unfold dotP; grind
    have e3 : dotP a (a.y - b.y) (-(a.x - b.x)) = -dotP a (-(a.y - b.y)) (a.x - b.x) := by unfold dotP; grind
    have e4 : dotP b (a.y - b.y) (-(a.x - b.x)) = -dotP b (-(a.y - b.y)) (a.x - b.x) := by unfold dotP; grind
    by_cases hp : 0 < trn a b origin
    · exact ⟨a.y - b.y, -(a.x - b.x), by omega, by omega⟩
    · exact ⟨-(a.y - b.y), a.x - b.x, by omega, by omega⟩
theorem trn_dot (a b p : Pt) : trn a b p = dotP p (-(b.y - a.y)) (b.x - a.x) + trn a b origin := by unfold trn dotP origin; grind
theorem inside_far {l : List Pt} {q : Pt} (hlen : 3 ≤ (hullOf l).length) (hi : Inside (hullOf l) q) (x y : Int) : ∃ p, p ∈ l ∧ dotP q x y ≤ dotP p x y := by
  have hc := hull_conv l
  match hh : hullOf l, hlen with
  | a :: b :: c :: r, _ =>
    rw [hh] at hc hi
    obtain ⟨u, v, s, k0, k1, k2, k3⟩ := in_fan hc hi
    have mem : ∀ z ∈ a :: b :: c :: r, z ∈ l := fun z hz => hullOf_sub (by rw [hh]; exact hz)
    rcases tri_far k1 k2 k3 k0 x y with g | g | g
    · exact ⟨a, mem a (by simp), g⟩
    · exact ⟨u, mem u (s.subset (by simp)), g⟩
    · exact ⟨v, mem v (s.subset (by simp)), g⟩
/-- All points lie inside of the hull's edges. -/
theorem all_inside {l : List Pt} {q : Pt} (hq : q ∈ l) : Inside (hullOf l) q := by
  intro e he
  obtain ⟨v, hv, hd⟩ := hull_far hq (-(-(e.2.y - e.1.y))) (-(e.2.x - e.1.x))
  have e1 : ∀ p : Pt, dotP p (-(-(e.2.y - e.1.y))) (-(e.2.x - e.1.x)) = -dotP p (-(e.2.y - e.1.y)) (e.2.x - e.1.x) := fun p => by unfold dotP; grind
  rw [e1, e1] at hd
  have t1 := trn_dot e.1 e.2 q
  have t2 := trn_dot e.1 e.2 v
  have : 0 ≤ trn e.1 e.2 v := by
    rcases edge_left (hull_conv l) he hv with h | h | h
    · rw [h, trn_aba]; omega
    · rw [h, trn_abb]; omega
    · omega
  omega
theorem meet_iff {l : List Pt} (hl : l ≠ []) : meetI (hullOf l) = true ↔ HasO l := by
  have hc := hull_conv l
  have sub : ∀ z, z ∈ hullOf l → z ∈ l := fun z hz => hullOf_sub hz
  have far : ∀ {x y : Int} {p : Pt}, p ∈ l → ∃ v, v ∈ hullOf l ∧ dotP p x y ≤ dotP v x y := fun hp => hull_far hp _ _
  match hh : hullOf l with
  | [] =>
    exfalso
    cases l with
    | nil => exact hl rfl
    | cons p l =>
      obtain ⟨v, hv, _⟩ := far (x := 0) (y := 0) (by simp : p ∈ p :: l)
      rw [hh] at hv; cases hv
  | [a] =>
    rw [hh] at sub
    constructor
    · intro h x y
      have : a = origin := of_decide_eq_true h
      exact ⟨a, sub a (by simp), by rw [this, dotP_origin]; omega⟩
    · intro h
      refine decide_eq_true (Classical.byContradiction fun hn => ?_)
      obtain ⟨p, hp, hd⟩ := h (-a.x) (-a.y)
      obtain ⟨v, hv, hd2⟩ := far (x := -a.x) (y := -a.y) hp
      rw [hh] at hv
      have := List.mem_singleton.1 hv
      subst this
      have e : dotP v (-v.x) (-v.y) = -(v.x * v.x + v.y * v.y) := by unfold dotP; grind
      obtain ⟨z1, z2⟩ := sqz (u := v.x) (v := v.y) (by omega)
      exact hn (by cases v; simp at z1 z2; simp [origin, z1, z2])
  | [a, b] =>
    rw [hh] at sub
    constructor
    · intro h x y
      rcases seg_has h x y with g | g
      · exact ⟨a, sub a (by simp), g⟩
      · exact ⟨b, sub b (by simp), g⟩
    · intro h
      refine Classical.byContradiction fun hn => ?_
      have hn : onSeg a b origin = false := by rw [← Bool.not_eq_true]; exact hn
      obtain ⟨x, y, n1, n2⟩ := seg_not hn
      obtain ⟨p, hp, hd⟩ := h x y
      obtain ⟨v, hv, hd2⟩ := far (x := x) (y := y) hp
      rw [hh] at hv
      rcases List.mem_cons.1 hv with e | e
      · subst e; omega
      · have := List.mem_singleton.1 e; subst this; omega
  | a :: b :: c :: r =>
    have em : meetI (a :: b :: c :: r) = true ↔ Inside (hullOf l) origin := by
      rw [hh]
      show ((ring (a :: b :: c :: r)).all fun e => decide (0 ≤ trn e.1 e.2 origin)) = true ↔ _
      rw [List.all_eq_true]
      constructor
      · intro h e he; exact of_decide_eq_true (h e he)
      · intro h e he; exact decide_eq_true (h e he)
    rw [em]
    constructor
    · intro h x y
      obtain ⟨p, hp, hd⟩ := inside_far (by rw [hh]; simp) h x y
      rw [dotP_origin] at hd
      exact ⟨p, hp, hd⟩
    · intro h e he
      refine Decidable.byContradiction fun hn => ?_
      obtain ⟨p, hp, hd⟩ := h (-(-(e.2.y - e.1.y))) (-(e.2.x - e.1.x))
      have e1 : dotP p (-(-(e.2.y - e.1.y))) (-(e.2.x - e.1.x)) = -dotP p (-(e.2.y - e.1.y)) (e.2.x - e.1.x) := by unfold dotP; grind
      have := all_inside hp e he
      have := trn_dot e.1 e.2 p
      omega
end Go.Proofs.YtnddfdhfefconaaGreatDoor
/- Triangles that have a point, in plain words: a hull has the origin iff one of its vertices' triangles has. No program in sight. -/
set_option linter.unusedVariables false
set_option linter.unusedSimpArgs false
namespace Go.Proofs.YtnddfdhfefconaaGreatDoor
open Go.RowKit

def triB (a b c q : Pt) : Bool :=
  if sgn (trn a b c) = 0 then decide (a = q) || (decide (a ≠ b) && onSeg a b q) || (decide (b ≠ c) && onSeg b c q) || (decide (a ≠ c) && onSeg a c q)
  else decide (0 ≤ sgn (trn a b q) * sgn (trn a b c)) && decide (0 ≤ sgn (trn b c q) * sgn (trn a b c)) && decide (0 ≤ sgn (trn c a q) * sgn (trn a b c))
theorem sgn_ge {u : Int} (h : 0 ≤ sgn u) : 0 ≤ u := by unfold sgn at h; split at h <;> omega
theorem sgn_le {u : Int} (h : sgn u ≤ 0) : u ≤ 0 := by
  unfold sgn at h
  split at h
  · omega
  · split at h <;> omega
theorem tri_has {a b c : Pt} (h : triB a b c origin = true) (x y : Int) : 0 ≤ dotP a x y ∨ 0 ≤ dotP b x y ∨ 0 ≤ dotP c x y := by
  unfold triB at h
  split at h
  · simp only [Bool.or_eq_true, Bool.and_eq_true, decide_eq_true_eq] at h
    rcases h with ((h | h) | h) | h
    · subst h; exact .inl (by rw [dotP_origin]; exact Int.le_refl 0)
    · rcases seg_has h.2 x y with h | h
      · exact .inl h
      · exact .inr (.inl h)
    · rcases seg_has h.2 x y with h | h
      · exact .inr (.inl h)
      · exact .inr (.inr h)
    · rcases seg_has h.2 x y with h | h
      · exact .inl h
      · exact .inr (.inr h)
  · rename_i h0
    simp only [Bool.and_eq_true, decide_eq_true_eq] at h
    obtain ⟨⟨h1, h2⟩, h3⟩ := h
    have hd := dotP_origin x y
    rcases Int.lt_trichotomy (trn a b c) 0 with ht | ht | ht
    · rw [sgn_neg ht] at h1 h2 h3
      have g1 := sgn_le (u := trn a b origin) (by omega)
      have g2 := sgn_le (u := trn b c origin) (by omega)
      have g3 := sgn_le (u := trn c a origin) (by omega)
      have e0 := trn_swap a b c
      rcases tri_far (a := b) (b := a) (c := c) (q := origin) (by rw [trn_swap]; omega) (by rw [trn_swap]; omega) (by rw [trn_swap]; omega) (by omega) x y with h | h | h <;> omega
    · exact absurd (sgn_zero ht) h0
    · rw [sgn_pos ht] at h1 h2 h3
      have g1 := sgn_ge (u := trn a b origin) (by omega)
      have g2 := sgn_ge (u := trn b c origin) (by omega)
      have g3 := sgn_ge (u := trn c a origin) (by omega)
      rcases tri_far g1 g2 g3 ht x y with h | h | h <;> omega
def WitB (h : List Pt) (q : Pt) : Prop := ∃ i k n, i ≤ k ∧ k ≤ n ∧ n < h.length ∧ triB (gp h i) (gp h k) (gp h n) q = true
theorem gp_succ (a : Pt) (r : List Pt) (i : Nat) : gp (a :: r) (i + 1) = gp r i := by simp [gp]
theorem sub1_idx : ∀ {h : List Pt} {x : Pt}, [x].Sublist h → ∃ i, i < h.length ∧ gp h i = x := fun hs => gp_of_mem (hs.subset (by simp))
theorem sub2_idx : ∀ {h : List Pt} {x y : Pt}, [x, y].Sublist h → ∃ i k, i < k ∧ k < h.length ∧ gp h i = x ∧ gp h k = y
  | [], _, _, hs => by cases hs
  | a :: r, x, y, hs => by
    cases hs with
    | cons _ hs =>
      obtain ⟨i, k, h1, h2, h3, h4⟩ := sub2_idx hs
      exact ⟨i + 1, k + 1, by omega, by simpa using h2, by rw [gp_succ]; exact h3, by rw [gp_succ]; exact h4⟩
    | cons_cons _ hs =>
      obtain ⟨k, h2, h4⟩ := sub1_idx hs
      exact ⟨0, k + 1, by omega, by simpa using h2, rfl, by rw [gp_succ]; exact h4⟩
theorem sub3_idx : ∀ {h : List Pt} {x y z : Pt}, [x, y, z].Sublist h → ∃ i k n, i < k ∧ k < n ∧ n < h.length ∧ gp h i = x ∧ gp h k = y ∧ gp h n = z
  | [], _, _, _, hs => by cases hs
  | a :: r, x, y, z, hs => by
    cases hs with
    | cons _ hs =>
      obtain ⟨i, k, n, h1, h2, h3, h4, h5, h6⟩ := sub3_idx hs
      exact ⟨i + 1, k + 1, n + 1, by omega, by omega, by simpa using h3, by rw [gp_succ]; exact h4, by rw [gp_succ]; exact h5, by rw [gp_succ]; exact h6⟩
    | cons_cons _ hs =>
      obtain ⟨k, n, h1, h2, h3, h4⟩ := sub2_idx hs
      exact ⟨0, k + 1, n + 1, by omega, by omega, by simpa using h2, rfl, by rw [gp_succ]; exact h3, by rw [gp_succ]; exact h4⟩
theorem wit_iff {l : List Pt} (hl : l ≠ []) : WitB (hullOf l) origin ↔ meetI (hullOf l) = true := by
  constructor
  · rintro ⟨i, k, n, h1, h2, h3, ht⟩
    rw [meet_iff hl]
    intro x y
    rcases tri_has ht x y with h | h | h
    · exact ⟨_, hullOf_sub (gp_mem (show i < (hullOf l).length by omega)), h⟩
    · exact ⟨_, hullOf_sub (gp_mem (show k < (hullOf l).length by omega)), h⟩
    · exact ⟨_, hullOf_sub (gp_mem h3), h⟩
  · intro hm
    have hc := hull_conv l
    have hd := hullOf_nodup l
    match hh : hullOf l, hm, hc, hd with
    | [], hm, _, _ => cases hm
    | [a], hm, _, _ =>
      have : a = origin := of_decide_eq_true hm
      refine ⟨0, 0, 0, Nat.le_refl _, Nat.le_refl _, by simp, ?_⟩
      show triB a a a origin = true
      unfold triB
      rw [if_pos (sgn_zero (trn_aab a a)), decide_eq_true this]; simp
    | [a, b], hm, _, hd =>
      have hab : a ≠ b := by simp at hd; exact hd
      refine ⟨0, 0, 1, Nat.le_refl _, by omega, by simp, ?_⟩
      show triB a a b origin = true
      unfold triB
      rw [if_pos (sgn_zero (trn_aab a b))]
      have hm : onSeg a b origin = true := hm
      simp [hm, hab]
    | a :: b :: c :: r, hm, hc, _ =>
      have hi : Inside (a :: b :: c :: r) origin := fun e he => of_decide_eq_true (List.all_eq_true.1 hm e he)
      obtain ⟨u, v, hs, h1, h2, h3, h4⟩ := in_fan hc hi
      obtain ⟨i, k, n, g1, g2, g3, e1, e2, e3⟩ := sub3_idx hs
      refine ⟨i, k, n, by omega, by omega, g3, ?_⟩
      rw [e1, e2, e3]
      unfold triB
      have s0 : ∀ {u : Int}, 0 ≤ u → 0 ≤ sgn u := fun {u} h => by unfold sgn; split <;> (try split) <;> omega
      rw [sgn_pos h1, if_neg (by omega)]
      simp only [Int.mul_one, decide_eq_true (s0 h2), decide_eq_true (s0 h3), decide_eq_true (s0 h4), Bool.and_self]
end Go.Proofs.YtnddfdhfefconaaGreatDoor
