
import Derived.Test.YtnddfdhfefconaaGreatDoorLeaf
/- Half hulls in plain words: what the stack of Andrew's method holds: those points of a sorted list that lie strictly below every segment over them. No program in sight. -/
set_option linter.unusedVariables false
set_option linter.unusedSimpArgs false
namespace Go.Proofs.YtnddfdhfefconaaGreatDoor
open Go.RowKit

/-! ### the order of points, and slopes -/
def ltP (a b : Pt) : Prop := a.x < b.x ∨ (a.x = b.x ∧ a.y < b.y)
instance (a b : Pt) : Decidable (ltP a b) := by unfold ltP; infer_instance
theorem ltP_irr (a : Pt) : ¬ ltP a a := by unfold ltP; omega
theorem ltP_trans {a b c : Pt} (h : ltP a b) (h' : ltP b c) : ltP a c := by unfold ltP at *; omega
theorem ltP_asymm {a b : Pt} (h : ltP a b) : ¬ ltP b a := by unfold ltP at *; omega
theorem pt_eq {a b : Pt} (hx : a.x = b.x) (hy : a.y = b.y) : a = b := by cases a; cases b; simp at hx hy; simp [hx, hy]
theorem ltP_tri (a b : Pt) : ltP a b ∨ a = b ∨ ltP b a := by
  by_cases h : a.x = b.x ∧ a.y = b.y
  · exact .inr (.inl (pt_eq h.1 h.2))
  · unfold ltP; omega
theorem ltP_ne {a b : Pt} (h : ltP a b) : a ≠ b := fun e => by subst e; exact ltP_irr a h
/-- The slope from c to d against that from a to b: positive if it is greater. -/
def cr (a b c d : Pt) : Int := (b.x - a.x) * (d.y - c.y) - (b.y - a.y) * (d.x - c.x)
theorem trn_1 (x y z : Pt) : trn x y z = cr x y y z := by unfold trn cr; grind
theorem trn_2 (x y z : Pt) : trn x y z = cr x y x z := by unfold trn cr; grind
theorem trn_3 (x y z : Pt) : trn x y z = cr x z y z := by unfold trn cr; grind
theorem cr_flip (a b c d : Pt) : cr a b c d = -cr c d a b := by unfold cr; grind
/-- Slopes of ways that go forward are ordered. -/
theorem vec_trans {ax ay bx yb cx cy : Int} (ha : 0 < ax ∨ (ax = 0 ∧ 0 < ay)) (hb : 0 < bx ∨ (bx = 0 ∧ 0 < yb)) (hc : 0 < cx ∨ (cx = 0 ∧ 0 < cy)) (h1 : 0 ≤ ax * yb - ay * bx) (h2 : 0 ≤ bx * cy - yb * cx) :
    0 ≤ ax * cy - ay * cx ∧ ((0 < ax * yb - ay * bx ∨ 0 < bx * cy - yb * cx) → 0 < ax * cy - ay * cx) := by
  have hax : 0 ≤ ax := by omega
  have hcx : 0 ≤ cx := by omega
  rcases hb with hb | ⟨hb, hb2⟩
  · have key : bx * (ax * cy - ay * cx) = ax * (bx * cy - yb * cx) + cx * (ax * yb - ay * bx) := by grind
    have p1 := Int.mul_nonneg hax h2
    have p2 := Int.mul_nonneg hcx h1
    constructor
    · refine Decidable.byContradiction fun hn => ?_
      have := Int.mul_neg_of_pos_of_neg hb (show ax * cy - ay * cx < 0 by omega)
      omega
    · intro hs
      refine Decidable.byContradiction fun hn => ?_
      have hle : ax * cy - ay * cx ≤ 0 := by omega
      have h0 : bx * (ax * cy - ay * cx) ≤ 0 := Int.mul_nonpos_of_nonneg_of_nonpos (by omega) hle
      have e1 : ax * (bx * cy - yb * cx) = 0 := by omega
      have e2 : cx * (ax * yb - ay * bx) = 0 := by omega
      rcases hs with hs | hs
      · rcases Int.mul_eq_zero.1 e2 with h | h
        · -- cx = 0, so cy > 0
          subst h
          have hcy : 0 < cy := by omega
          have : ax * cy ≤ 0 := by simpa using hle
          rcases ha with ha | ⟨ha, ha2⟩
          · have := Int.mul_pos ha hcy; omega
          · subst ha
            have : ay * bx < 0 := by simp at hs; omega
            have := Int.mul_pos ha2 hb
            omega
        · omega
      · rcases Int.mul_eq_zero.1 e1 with h | h
        · subst h
          have hay : 0 < ay := by omega
          have : 0 < ay * bx := Int.mul_pos hay hb
          simp at h1
          omega
        · omega
  · subst hb
    simp at h1 h2 ⊢
    have h3 : cx ≤ 0 := by
      refine Decidable.byContradiction fun hn => ?_
      have := Int.mul_pos hb2 (show 0 < cx by omega)
      omega
    have : cx = 0 := by omega
    subst this
    have hcy : 0 < cy := by omega
    have := Int.mul_nonneg hax (show 0 ≤ cy by omega)
    constructor
    · simpa using this
    · intro hs
      simp at hs
      have hax2 : 0 < ax := by
        refine Decidable.byContradiction fun hn => ?_
        have : ax = 0 := by omega
        subst this
        simp at hs
      have := Int.mul_pos hax2 hcy
      simpa using this
theorem fwd {a b : Pt} (h : ltP a b) : 0 < b.x - a.x ∨ (b.x - a.x = 0 ∧ 0 < b.y - a.y) := by unfold ltP at h; omega
theorem cr_trans {a b c d e f : Pt} (h1 : ltP a b) (h2 : ltP c d) (h3 : ltP e f) (g1 : 0 ≤ cr a b c d) (g2 : 0 ≤ cr c d e f) : 0 ≤ cr a b e f := (vec_trans (fwd h1) (fwd h2) (fwd h3) g1 g2).1
theorem cr_trans_l {a b c d e f : Pt} (h1 : ltP a b) (h2 : ltP c d) (h3 : ltP e f) (g1 : 0 < cr a b c d) (g2 : 0 ≤ cr c d e f) : 0 < cr a b e f := (vec_trans (fwd h1) (fwd h2) (fwd h3) (Int.le_of_lt g1) g2).2 (.inl g1)
theorem cr_trans_r {a b c d e f : Pt} (h1 : ltP a b) (h2 : ltP c d) (h3 : ltP e f) (g1 : 0 ≤ cr a b c d) (g2 : 0 < cr c d e f) : 0 < cr a b e f := (vec_trans (fwd h1) (fwd h2) (fwd h3) g1 (Int.le_of_lt g2)).2 (.inr g2)

/-- q above u t, t above u p: q above u p. -/
theorem above_1 {u q t p : Pt} (h1 : ltP u q) (h2 : ltP q t) (h3 : ltP t p) (g1 : trn u q t ≤ 0) (g2 : trn u t p ≤ 0) : trn u q p ≤ 0 := by
  have a : 0 ≤ cr u t u q := by rw [cr_flip, ← trn_2]; omega
  have b : 0 ≤ cr u p u t := by rw [cr_flip, ← trn_2]; omega
  have c := cr_trans (ltP_trans (ltP_trans h1 h2) h3) (ltP_trans h1 h2) h1 b a
  rw [cr_flip, ← trn_2] at c
  omega
/-- q above t p, t above u p: q above u p. -/
theorem above_2 {u q t p : Pt} (h1 : ltP u t) (h2 : ltP t q) (h3 : ltP q p) (g1 : trn t q p ≤ 0) (g2 : trn u t p ≤ 0) : trn u q p ≤ 0 := by
  have a : 0 ≤ cr q p t p := by rw [cr_flip, ← trn_3]; omega
  have b : 0 ≤ cr t p u p := by rw [cr_flip, ← trn_3]; omega
  have c := cr_trans h3 (ltP_trans h2 h3) (ltP_trans h1 (ltP_trans h2 h3)) a b
  rw [cr_flip, ← trn_3] at c
  omega

/-! ### the stack: its top first -/
def popTo (p : Pt) : List Pt → List Pt
  | t :: u :: r => if trn u t p ≤ 0 then popTo p (u :: r) else t :: u :: r
  | l => l
def halfR : List Pt → List Pt → List Pt
  | st, [] => st
  | st, p :: ps => halfR (p :: popTo p st) ps
/-- The half hull of a sorted list, in its order. -/
def halfL (s : List Pt) : List Pt := (halfR [] s).reverse

def Desc : List Pt → Prop
  | a :: b :: r => ltP b a ∧ Desc (b :: r)
  | _ => True
def ConvD : List Pt → Prop
  | a :: b :: c :: r => 0 < trn c b a ∧ ConvD (b :: c :: r)
  | _ => True
/-- q is one of these, or lies above the segment between two neighbours. -/
def CovD : List Pt → Pt → Prop
  | [], _ => False
  | [a], q => q = a
  | a :: b :: r, q => q = a ∨ (ltP b q ∧ ltP q a ∧ trn b q a ≤ 0) ∨ CovD (b :: r) q
theorem Desc.tail {a : Pt} {r : List Pt} (h : Desc (a :: r)) : Desc r := by
  cases r with
  | nil => trivial
  | cons b r => exact h.2
theorem ConvD.tail {a : Pt} {r : List Pt} (h : ConvD (a :: r)) : ConvD r := by
  match r, h with
  | [], _ => trivial
  | [b], _ => trivial
  | b :: c :: r, h => exact h.2
theorem CovD.le : ∀ {r : List Pt} {a q : Pt}, Desc (a :: r) → CovD (a :: r) q → q = a ∨ ltP q a
  | [], a, q, _, h => .inl h
  | b :: r, a, q, hd, h => by
    rcases h with h | h | h
    · exact .inl h
    · exact .inr h.2.1
    · rcases CovD.le hd.2 h with h | h
      · subst h; exact .inr hd.1
      · exact .inr (ltP_trans h hd.1)
theorem CovD.mem : ∀ {l : List Pt} {q : Pt}, q ∈ l → CovD l q
  | [], _, h => by cases h
  | [a], q, h => List.mem_singleton.1 h
  | a :: b :: r, q, h => by
    rcases List.mem_cons.1 h with h | h
    · exact .inl h
    · exact .inr (.inr (CovD.mem h))
/-- What popping leaves: all that was covered is, or lies above the way from the new top to p. -/
theorem pop_inv {p : Pt} : ∀ {r : List Pt} {t : Pt} (s : Pt → Prop), Desc (t :: r) → ConvD (t :: r) → ltP t p → (∀ q, s q → CovD (t :: r) q ∨ (ltP t q ∧ ltP q p ∧ trn t q p ≤ 0)) →
    ∃ t' r', popTo p (t :: r) = t' :: r' ∧ Desc (t' :: r') ∧ ConvD (t' :: r') ∧ ltP t' p ∧ (∀ q, s q → CovD (t' :: r') q ∨ (ltP t' q ∧ ltP q p ∧ trn t' q p ≤ 0)) ∧ (∀ u r'', r' = u :: r'' → 0 < trn u t' p) ∧ ∀ q ∈ t' :: r', q ∈ t :: r
  | [], t, s, hd, hc, hp, hs => ⟨t, [], rfl, hd, hc, hp, hs, (fun u r'' h => by cases h), fun q h => h⟩
  | u :: r, t, s, hd, hc, hp, hs => by
    by_cases h : trn u t p ≤ 0
    · rw [popTo, if_pos h]
      obtain ⟨t', r', e, h1, h2, h3, h4, h5, h6⟩ := pop_inv (p := p) (r := r) (t := u) s hd.2 hc.tail (ltP_trans hd.1 hp) (fun q hq => by
        rcases hs q hq with (h' | h' | h') | h'
        · subst h'; exact .inr ⟨hd.1, hp, h⟩
        · exact .inr ⟨h'.1, ltP_trans h'.2.1 hp, above_1 h'.1 h'.2.1 hp h'.2.2 h⟩
        · exact .inl h'
        · exact .inr ⟨ltP_trans hd.1 h'.1, h'.2.1, above_2 hd.1 h'.1 h'.2.1 h'.2.2 h⟩)
      exact ⟨t', r', e, h1, h2, h3, h4, h5, fun q hq => List.mem_cons_of_mem _ (h6 q hq)⟩
    · rw [popTo, if_neg h]
      exact ⟨t, u :: r, rfl, hd, hc, hp, hs, (fun u' r'' e => by injection e with e1 e2; subst e1; omega), fun q h => h⟩
structure Stk (s : Pt → Prop) (st : List Pt) : Prop where
  desc : Desc st
  conv : ConvD st
  cov : ∀ q, s q → CovD st q
  sub : ∀ q ∈ st, s q
theorem Stk.push {s : Pt → Prop} {st : List Pt} (h : Stk s st) {p : Pt} (hp : ∀ q, s q → ltP q p) : Stk (fun q => s q ∨ q = p) (p :: popTo p st) := by
  cases st with
  | nil =>
    exact ⟨trivial, trivial, fun q hq => by
      rcases hq with hq | hq
      · exact (h.cov q hq).elim
      · exact hq, fun q hq => by simp [popTo] at hq; exact .inr hq⟩
  | cons t r =>
    obtain ⟨t', r', e, h1, h2, h3, h4, h5, h6⟩ := pop_inv s h.desc h.conv (hp t (h.sub t (by simp))) (fun q hq => .inl (h.cov q hq))
    rw [e]
    refine ⟨⟨h3, h1⟩, ?_, fun q hq => ?_, fun q hq => ?_⟩
    · cases r' with
      | nil => trivial
      | cons u r'' => exact ⟨h5 u r'' rfl, h2⟩
    · rcases hq with hq | hq
      · rcases h4 q hq with h | h
        · exact .inr (.inr h)
        · exact .inr (.inl h)
      · exact .inl hq
    · rcases List.mem_cons.1 hq with h' | h'
      · exact .inr h'
      · exact .inl (h.sub q (h6 q h'))
theorem Stk.congr {s s' : Pt → Prop} {st : List Pt} (h : Stk s st) (he : ∀ q, s q ↔ s' q) : Stk s' st := ⟨h.desc, h.conv, fun q hq => h.cov q ((he q).2 hq), fun q hq => (he q).1 (h.sub q hq)⟩
def Asc (s : List Pt) : Prop := s.Pairwise ltP
theorem halfR_stk : ∀ (ps : List Pt) (s : Pt → Prop) (st : List Pt), Stk s st → Asc ps → (∀ q, s q → ∀ p ∈ ps, ltP q p) → Stk (fun q => s q ∨ q ∈ ps) (halfR st ps)
  | [], s, st, h, _, _ => h.congr (by simp)
  | p :: ps, s, st, h, ha, hlt => by
    rw [halfR]
    have ha' := List.pairwise_cons.1 ha
    refine (halfR_stk ps _ _ (h.push (fun q hq => hlt q hq p (by simp))) ha'.2 (fun q hq r hr => ?_)).congr (fun q => by simp [or_assoc])
    rcases hq with hq | hq
    · exact hlt q hq r (by simp [hr])
    · subst hq; exact ha'.1 r hr
theorem half_stk {s : List Pt} (ha : Asc s) : Stk (fun q => q ∈ s) (halfR [] s) :=
  (halfR_stk s (fun _ => False) [] ⟨trivial, trivial, fun _ h => h.elim, fun q h => by cases h⟩ ha (fun _ h => h.elim)).congr (by simp)

/-! ### what the stack holds lies strictly below all segments over it -/
theorem conv_edges : ∀ {r : List Pt} {a b : Pt}, Desc (a :: b :: r) → ConvD (a :: b :: r) → ∀ {l r' : List Pt} {t c : Pt}, b :: r = l ++ t :: c :: r' → 0 < cr c t b a
  | [], a, b, hd, hc, l, r', t, c, he => by
    exfalso
    have := congrArg List.length he
    simp at this; omega
  | d :: r, a, b, hd, hc, l, r', t, c, he => by
    have h0 : 0 < cr d b b a := by rw [← trn_1]; exact hc.1
    cases l with
    | nil =>
      injection he with e1 e2
      injection e2 with e2 e3
      subst e1 e2
      exact h0
    | cons x l =>
      injection he with e1 e2
      have h1 := conv_edges hd.2 hc.2 e2
      have hct : ltP c t := by
        have : Desc (d :: r) := hd.2.2
        rw [e2] at this
        clear e2 h1
        induction l with
        | nil => exact this.1
        | cons y l ih => exact ih this.tail
      exact cr_trans_l hct hd.2.1 hd.1 h1 (Int.le_of_lt h0)
/-- From c to the left: no slope is greater than that of the edge that ends there. -/
theorem claim_A : ∀ {r : List Pt} {c u a : Pt}, Desc (c :: u :: r) → ConvD (c :: u :: r) → CovD (c :: u :: r) a → ltP a c → 0 ≤ cr a c u c
  | r, c, u, a, hd, hc, h, hac => by
    rcases h with h | h | h
    · subst h; exact absurd hac (ltP_irr _)
    · rw [cr_flip, ← trn_3]; omega
    · rcases CovD.le hd.2 h with h' | h'
      · subst h'; unfold cr; rw [Int.mul_comm]; omega
      · match r, hd, hc, h with
        | [], hd, hc, h => exact absurd h' (by rw [show a = u from h]; exact ltP_irr _)
        | v :: r, hd, hc, h =>
          have h1 := claim_A hd.2 hc.2 h h'
          have h2 : 0 < cr v u u c := by rw [← trn_1]; exact hc.1
          have h3 : 0 < cr a u u c := cr_trans_r h' hd.2.1 hd.1 h1 h2
          rw [← trn_1, trn_3] at h3
          omega
/-- From c to the right: no slope is less than that of the edge that begins there. -/
theorem claim_B : ∀ {D l r : List Pt} {t c b : Pt}, Desc D → ConvD D → D = l ++ t :: c :: r → CovD D b → ltP c b → 0 ≤ cr c t c b
  | [], l, r, t, c, b, hd, hc, he, h, hcb => h.elim
  | [x], l, r, t, c, b, hd, hc, he, h, hcb => by
    exfalso
    have := congrArg List.length he
    simp at this; omega
  | x :: y :: D, l, r, t, c, b, hd, hc, he, h, hcb => by
    cases l with
    | nil =>
      injection he with e1 e2
      injection e2 with e2 e3
      subst e1 e2 e3
      rcases h with h | h | h
      · subst h; unfold cr; rw [Int.mul_comm]; omega
      · have := h.2.2
        rw [trn_2, cr_flip] at this
        omega
      · rcases CovD.le hd.2 h with h' | h'
        · subst h'; exact absurd hcb (ltP_irr _)
        · exact absurd hcb (ltP_asymm h')
    | cons z l =>
      injection he with e1 e2
      subst e1
      have hct : ltP c t := by
        have : Desc (y :: D) := hd.2
        rw [e2] at this
        clear e2
        induction l with
        | nil => exact this.1
        | cons y l ih => exact ih this.tail
      have edge := conv_edges hd hc e2
      have hy := claim_B hd.2 hc.tail e2 (CovD.mem (by simp : y ∈ y :: D))
      have hcy : ltP c y := by
        have : Desc (y :: D) := hd.2
        have hy2 : CovD (y :: D) t := by rw [e2]; exact CovD.mem (by simp)
        rcases CovD.le hd.2 hy2 with h | h
        · subst h; exact hct
        · exact ltP_trans hct h
      have hy := hy hcy
      -- b between y and x, or x: the slope from y to b is at least that from y to x
      have fin : ltP y b → 0 ≤ cr y x y b → 0 ≤ cr c t c b := fun hyb hb => by
        have h1 : 0 < cr c t y b := cr_trans_l hct hd.1 hyb edge hb
        -- c < y < b: c to y and y to b have slopes of at least c to t
        have e : cr c t c b = cr c t c y + cr c t y b := by unfold cr; grind
        omega
      rcases h with h | h | h
      · subst h
        exact fin hd.1 (by unfold cr; rw [Int.mul_comm]; omega)
      · refine fin h.1 ?_
        have := h.2.2
        rw [trn_2, cr_flip] at this
        omega
      · exact claim_B hd.2 hc.tail e2 h hcb
theorem mid_split : ∀ {D : List Pt} {c a b : Pt}, Desc D → c ∈ D → CovD D a → CovD D b → ltP a c → ltP c b → ∃ l t u r, D = l ++ t :: c :: u :: r
  | [], c, a, b, _, h, _, _, _, _ => by cases h
  | [x], c, a, b, hd, h, ha, hb, hac, hcb => by
    have e1 : a = x := ha
    have e2 : b = x := hb
    subst e1 e2
    exact absurd (ltP_trans hac hcb) (ltP_irr _)
  | x :: y :: D, c, a, b, hd, h, ha, hb, hac, hcb => by
    rcases List.mem_cons.1 h with h | h
    · subst h
      rcases CovD.le hd hb with h' | h'
      · subst h'; exact absurd hcb (ltP_irr _)
      · exact absurd hcb (ltP_asymm h')
    · have hcy : c = y ∨ ltP c y := CovD.le hd.2 (CovD.mem h)
      rcases hcy with rfl | hcy
      · have ha' : CovD (c :: D) a := by
          rcases ha with ha | ha | ha
          · subst ha; exact absurd hac (ltP_asymm hd.1)
          · exact absurd hac (ltP_asymm ha.1)
          · exact ha
        cases D with
        | nil => exact absurd hac (by rw [show a = c from ha']; exact ltP_irr _)
        | cons u r => exact ⟨[], x, u, r, rfl⟩
      · have ha' : CovD (y :: D) a := by
          rcases ha with ha | ha | ha
          · subst ha; exact absurd (ltP_trans hac hcy) (ltP_asymm hd.1)
          · exact absurd (ltP_trans hac hcy) (ltP_asymm ha.1)
          · exact ha
        obtain ⟨l, t, u, r, e⟩ := mid_split (b := y) hd.2 h ha' (CovD.mem (by simp)) hac hcy
        exact ⟨x :: l, t, u, r, by rw [e]; rfl⟩
theorem desc_drop : ∀ {l r : List Pt}, Desc (l ++ r) → Desc r
  | [], _, h => h
  | _ :: l, _, h => desc_drop (l := l) h.tail
theorem conv_drop : ∀ {l r : List Pt}, ConvD (l ++ r) → ConvD r
  | [], _, h => h
  | _ :: l, _, h => conv_drop (l := l) h.tail
theorem cov_drop : ∀ {l r : List Pt} {t a : Pt}, Desc (l ++ t :: r) → CovD (l ++ t :: r) a → ltP a t → CovD (t :: r) a
  | [], _, _, _, _, h, _ => h
  | x :: l, r, t, a, hd, h, hat => by
    have hd' : Desc (l ++ t :: r) := hd.tail
    refine cov_drop (l := l) hd' ?_ hat
    have hxt : ∀ y, CovD (l ++ t :: r) y → ltP y x := fun y hy => by
      match h2 : l ++ t :: r, hd, hy with
      | [], _, hy => exact hy.elim
      | z :: w, hd, hy =>
        have hd : Desc (x :: z :: w) := by have := hd; rw [List.cons_append, h2] at this; exact this
        rcases CovD.le hd.2 hy with h | h
        · subst h; exact hd.1
        · exact ltP_trans h hd.1
    have hta : CovD (l ++ t :: r) t := CovD.mem (by simp)
    match h2 : l ++ t :: r, h, hta with
    | [], _, hta => exact hta.elim
    | z :: w, h, hta =>
      have h : CovD (x :: z :: w) a := by have := h; rw [List.cons_append, h2] at this; exact this
      rw [h2] at hd' hxt
      rcases h with h | h | h
      · subst h; exact absurd hat (ltP_asymm (hxt t hta))
      · rcases CovD.le hd' hta with h' | h'
        · subst h'; exact absurd hat (ltP_asymm h.1)
        · exact absurd (ltP_trans hat h') (ltP_asymm h.1)
      · exact h
/-- Point p lies strictly below every segment between two of s over it. -/
def LowOk (s : Pt → Prop) (p : Pt) : Prop := ∀ a, s a → ∀ b, s b → ltP a p → ltP p b → 0 < trn a p b
theorem Stk.low {s : Pt → Prop} {st : List Pt} (h : Stk s st) {c : Pt} (hc : c ∈ st) : LowOk s c := by
  intro a ha b hb hac hcb
  have ca := h.cov a ha
  have cb := h.cov b hb
  obtain ⟨l, t, u, r, e⟩ := mid_split h.desc hc ca cb hac hcb
  have hd := h.desc
  have hv := h.conv
  rw [e] at hd hv ca cb
  have hd1 := desc_drop hd
  have hv1 := conv_drop hv
  have gB := claim_B hd hv rfl cb hcb
  have ca1 : CovD (c :: u :: r) a := by
    have : l ++ t :: c :: u :: r = (l ++ [t]) ++ c :: u :: r := by simp
    rw [this] at hd ca
    exact cov_drop hd ca hac
  have gA := claim_A hd1.2 hv1.2 ca1 hac
  have gM : 0 < cr u c c t := by rw [← trn_1]; exact hv1.1
  have h1 : 0 < cr a c c t := cr_trans_r hac hd1.2.1 hd1.1 gA gM
  have h2 : 0 < cr a c c b := cr_trans_l hac hd1.1 hcb h1 gB
  rw [trn_1]; exact h2
theorem Stk.mem_iff {s : Pt → Prop} {st : List Pt} (h : Stk s st) (p : Pt) : p ∈ st ↔ s p ∧ LowOk s p := by
  refine ⟨fun hp => ⟨h.sub p hp, h.low hp⟩, fun ⟨hp, hl⟩ => ?_⟩
  have key : ∀ {D : List Pt}, (∀ q ∈ D, s q) → CovD D p → p ∈ D := by
    intro D hD hc
    induction D with
    | nil => exact hc.elim
    | cons x D ih =>
      cases D with
      | nil => rw [show p = x from hc]; simp
      | cons y D =>
        rcases hc with hc | hc | hc
        · subst hc; simp
        · have := hl y (hD y (by simp)) x (hD x (by simp)) hc.1 hc.2.1
          omega
        · exact List.mem_cons_of_mem _ (ih (fun q hq => hD q (List.mem_cons_of_mem _ hq)) hc)
  exact key h.sub (h.cov p hp)
end Go.Proofs.YtnddfdhfefconaaGreatDoor
/- Sorted lists of points and hulls in plain words; hulls hang on the set of points alone; hulls of sums. No program in sight. -/
set_option linter.unusedVariables false
set_option linter.unusedSimpArgs false
namespace Go.Proofs.YtnddfdhfefconaaGreatDoor
open Go.RowKit

/-! ### sorted, each once -/
def insP (p : Pt) : List Pt → List Pt
  | [] => [p]
  | q :: r => if ltP q p then q :: insP p r else if q = p then q :: r else p :: q :: r
def sortP (l : List Pt) : List Pt := l.foldl (fun acc p => insP p acc) []
theorem insP_mem {p q : Pt} : ∀ {l : List Pt}, q ∈ insP p l ↔ q = p ∨ q ∈ l
  | [] => by simp [insP]
  | a :: r => by
    rw [insP]
    by_cases h1 : ltP a p
    · rw [if_pos h1, List.mem_cons, List.mem_cons, insP_mem (l := r)]
      constructor
      · rintro (h | h | h)
        · exact .inr (.inl h)
        · exact .inl h
        · exact .inr (.inr h)
      · rintro (h | h | h)
        · exact .inr (.inl h)
        · exact .inl h
        · exact .inr (.inr h)
    · rw [if_neg h1]
      by_cases h2 : a = p
      · subst h2; simp
      · rw [if_neg h2]; simp
theorem insP_asc {p : Pt} : ∀ {l : List Pt}, Asc l → Asc (insP p l)
  | [], _ => by simp [insP, Asc]
  | a :: r, h => by
    have h' := List.pairwise_cons.1 h
    rw [insP]
    by_cases h1 : ltP a p
    · rw [if_pos h1]
      refine List.pairwise_cons.2 ⟨fun q hq => ?_, insP_asc h'.2⟩
      rcases insP_mem.1 hq with e | e
      · subst e; exact h1
      · exact h'.1 q e
    · rw [if_neg h1]
      by_cases h2 : a = p
      · rw [if_pos h2]; exact h
      · rw [if_neg h2]
        have h3 : ltP p a := by
          rcases ltP_tri a p with h | h | h
          · exact absurd h h1
          · exact absurd h h2
          · exact h
        refine List.pairwise_cons.2 ⟨fun q hq => ?_, h⟩
        rcases List.mem_cons.1 hq with e | e
        · subst e; exact h3
        · exact ltP_trans h3 (h'.1 q e)
theorem sortP_go : ∀ (l acc : List Pt), Asc acc → Asc (l.foldl (fun acc p => insP p acc) acc) ∧ ∀ q, q ∈ l.foldl (fun acc p => insP p acc) acc ↔ q ∈ acc ∨ q ∈ l
  | [], acc, h => ⟨h, fun q => by simp⟩
  | p :: l, acc, h => by
    obtain ⟨h1, h2⟩ := sortP_go l (insP p acc) (insP_asc h)
    refine ⟨h1, fun q => ?_⟩
    rw [List.foldl_cons, h2 q, insP_mem, List.mem_cons]
    constructor
    · rintro ((h | h) | h)
      · exact .inr (.inl h)
      · exact .inl h
      · exact .inr (.inr h)
    · rintro (h | h | h)
      · exact .inl (.inr h)
      · exact .inl (.inl h)
      · exact .inr h
theorem sortP_asc (l : List Pt) : Asc (sortP l) := (sortP_go l [] List.Pairwise.nil).1
theorem sortP_mem {l : List Pt} {q : Pt} : q ∈ sortP l ↔ q ∈ l := by
  have := (sortP_go l [] List.Pairwise.nil).2 q
  simpa [sortP] using this
theorem asc_ext : ∀ {l l' : List Pt}, Asc l → Asc l' → (∀ q, q ∈ l ↔ q ∈ l') → l = l'
  | [], [], _, _, _ => rfl
  | [], b :: r, _, _, h => by have := (h b).2 (by simp); cases this
  | a :: r, [], _, _, h => by have := (h a).1 (by simp); cases this
  | a :: r, b :: r', h1, h2, h => by
    have g1 := List.pairwise_cons.1 h1
    have g2 := List.pairwise_cons.1 h2
    have e : a = b := by
      rcases List.mem_cons.1 ((h a).1 (by simp)) with e | e
      · exact e
      · rcases List.mem_cons.1 ((h b).2 (by simp)) with e' | e'
        · exact e'.symm
        · exact absurd (g2.1 a e) (ltP_asymm (g1.1 b e'))
    subst e
    rw [asc_ext g1.2 g2.2 (fun q => ?_)]
    constructor
    · intro hq
      rcases List.mem_cons.1 ((h q).1 (List.mem_cons_of_mem _ hq)) with e | e
      · subst e; exact absurd (g1.1 _ hq) (ltP_irr _)
      · exact e
    · intro hq
      rcases List.mem_cons.1 ((h q).2 (List.mem_cons_of_mem _ hq)) with e | e
      · subst e; exact absurd (g2.1 _ hq) (ltP_irr _)
      · exact e
theorem sortP_ext {l l' : List Pt} (h : ∀ q, q ∈ l ↔ q ∈ l') : sortP l = sortP l' := asc_ext (sortP_asc l) (sortP_asc l') fun q => by rw [sortP_mem, sortP_mem, h q]
theorem asc_nodup {l : List Pt} (h : Asc l) : l.Nodup := h.imp ltP_ne
theorem insP_len (p : Pt) : ∀ l : List Pt, (insP p l).length ≤ l.length + 1
  | [] => by simp [insP]
  | q :: r => by
    rw [insP]
    split
    · have := insP_len p r; simp; omega
    · split <;> simp
theorem sortP_len (l : List Pt) : (sortP l).length ≤ l.length := by
  have : ∀ (l acc : List Pt), (l.foldl (fun acc p => insP p acc) acc).length ≤ acc.length + l.length := by
    intro l
    induction l with
    | nil => intro acc; simp
    | cons p l ih =>
      intro acc
      rw [List.foldl_cons]
      have := ih (insP p acc)
      have := insP_len p acc
      simp; omega
  simpa [sortP] using this l []

/-! ### both halves -/
def negP (p : Pt) : Pt := ⟨-p.x, -p.y⟩
theorem negP_negP (p : Pt) : negP (negP p) = p := by cases p; simp [negP]
theorem negP_lt {a b : Pt} : ltP (negP a) (negP b) ↔ ltP b a := by unfold ltP negP; constructor <;> intro h <;> simp at * <;> omega
theorem negP_trn (a b c : Pt) : trn (negP a) (negP b) (negP c) = trn a b c := by unfold trn negP; grind
theorem popTo_neg (p : Pt) : ∀ st : List Pt, popTo (negP p) (st.map negP) = (popTo p st).map negP
  | [] => rfl
  | [a] => rfl
  | t :: u :: r => by
    have h := popTo_neg p (u :: r)
    simp only [List.map_cons, popTo, negP_trn] at h ⊢
    split
    · exact h
    · rfl
theorem halfR_neg : ∀ (ps st : List Pt), halfR (st.map negP) (ps.map negP) = (halfR st ps).map negP
  | [], st => rfl
  | p :: ps, st => by
    rw [List.map_cons, halfR, halfR, popTo_neg, ← List.map_cons, halfR_neg ps]
theorem halfL_neg (s : List Pt) : halfL (s.map negP) = (halfL s).map negP := by
  unfold halfL
  have h := halfR_neg s []
  rw [List.map_nil] at h
  rw [h, List.map_reverse]
/-- p lies strictly above every segment of s under it. -/
def UpOk (s : Pt → Prop) (p : Pt) : Prop := ∀ a, s a → ∀ b, s b → ltP p a → ltP b p → 0 < trn a p b
theorem desc_asc : ∀ {l : List Pt}, Desc l → Asc l.reverse
  | [], _ => by simp [Asc]
  | [a], _ => by simp [Asc]
  | a :: b :: r, h => by
    rw [List.reverse_cons]
    refine List.pairwise_append.2 ⟨desc_asc h.2, by simp, fun q hq x hx => ?_⟩
    rw [List.mem_singleton.1 hx]
    rw [List.mem_reverse] at hq
    rcases CovD.le h.2 (CovD.mem hq) with e | e
    · subst e; exact h.1
    · exact ltP_trans e h.1
def lowL (l : List Pt) : List Pt := halfL (sortP l)
def upL (l : List Pt) : List Pt := halfL (sortP l).reverse
theorem lowL_asc (l : List Pt) : Asc (lowL l) := desc_asc (half_stk (sortP_asc l)).desc
theorem lowL_mem {l : List Pt} {p : Pt} : p ∈ lowL l ↔ p ∈ l ∧ LowOk (· ∈ l) p := by
  unfold lowL halfL
  rw [List.mem_reverse, (half_stk (sortP_asc l)).mem_iff]
  simp only [sortP_mem, LowOk]
theorem upL_neg (l : List Pt) : upL l = (lowL (l.map negP)).map negP := by
  have : (sortP l).reverse.map negP = sortP (l.map negP) := by
    refine asc_ext ?_ (sortP_asc _) fun q => ?_
    · unfold Asc
      rw [List.pairwise_map, List.pairwise_reverse]
      exact (sortP_asc l).imp fun h => negP_lt.2 h
    · rw [sortP_mem, List.mem_map, List.mem_map]
      constructor
      · rintro ⟨a, h, e⟩; exact ⟨a, sortP_mem.1 (List.mem_reverse.1 h), e⟩
      · rintro ⟨a, h, e⟩; exact ⟨a, List.mem_reverse.2 (sortP_mem.2 h), e⟩
  unfold upL lowL
  rw [← this, halfL_neg, List.map_map]
  have e : negP ∘ negP = id := funext fun p => negP_negP p
  rw [e, List.map_id]
theorem upL_mem {l : List Pt} {p : Pt} : p ∈ upL l ↔ p ∈ l ∧ UpOk (· ∈ l) p := by
  rw [upL_neg, List.mem_map]
  constructor
  · rintro ⟨q, hq, rfl⟩
    obtain ⟨h1, h2⟩ := lowL_mem.1 hq
    obtain ⟨r, hr, rfl⟩ := List.mem_map.1 h1
    rw [negP_negP]
    refine ⟨hr, fun a ha b hb hpa hbp => ?_⟩
    have := h2 (negP a) (List.mem_map.2 ⟨a, ha, rfl⟩) (negP b) (List.mem_map.2 ⟨b, hb, rfl⟩) (negP_lt.2 hpa) (negP_lt.2 hbp)
    rwa [negP_trn] at this
  · rintro ⟨h1, h2⟩
    refine ⟨negP p, lowL_mem.2 ⟨List.mem_map.2 ⟨p, h1, rfl⟩, fun a ha b hb hpa hbp => ?_⟩, negP_negP p⟩
    obtain ⟨a', ha', rfl⟩ := List.mem_map.1 ha
    obtain ⟨b', hb', rfl⟩ := List.mem_map.1 hb
    rw [negP_trn]
    exact h2 a' ha' b' hb' (negP_lt.1 hpa) (negP_lt.1 hbp)
def Dsc (s : List Pt) : Prop := s.Pairwise fun a b => ltP b a
theorem upL_dsc (l : List Pt) : Dsc (upL l) := by
  rw [upL_neg]
  unfold Dsc
  rw [List.pairwise_map]
  exact (lowL_asc _).imp fun h => negP_lt.2 h
/-- The hull: counterclockwise from the least point on. -/
def hullOf (l : List Pt) : List Pt := if (sortP l).length < 2 then sortP l else (lowL l).dropLast ++ (upL l).dropLast
/-- The least and the greatest point. -/
theorem asc_min {l : List Pt} (h : Asc l) (hn : l ≠ []) : ∃ m, m ∈ l ∧ l.head? = some m ∧ ∀ q ∈ l, q = m ∨ ltP m q := by
  cases l with
  | nil => exact absurd rfl hn
  | cons m r => exact ⟨m, by simp, rfl, fun q hq => by
      rcases List.mem_cons.1 hq with e | e
      · exact .inl e
      · exact .inr ((List.pairwise_cons.1 h).1 q e)⟩
theorem asc_max {l : List Pt} (h : Asc l) (hn : l ≠ []) : ∃ m, m ∈ l ∧ l.getLast? = some m ∧ ∀ q ∈ l, q = m ∨ ltP q m := by
  have hr : Asc (l.reverse.map negP) := by
    unfold Asc
    rw [List.pairwise_map, List.pairwise_reverse]
    exact List.Pairwise.imp (fun h => negP_lt.2 h) h
  obtain ⟨m, h1, h2, h3⟩ := asc_min hr (by simpa using hn)
  obtain ⟨m', hm', rfl⟩ := List.mem_map.1 h1
  rw [List.mem_reverse] at hm'
  refine ⟨m', hm', ?_, fun q hq => ?_⟩
  · rw [List.head?_map, List.head?_reverse] at h2
    cases hl : l.getLast? with
    | none => rw [hl] at h2; cases h2
    | some x =>
      rw [hl] at h2
      have : negP x = negP m' := Option.some.inj h2
      rw [show x = m' from by rw [← negP_negP x, this, negP_negP]]
  · rcases h3 (negP q) (List.mem_map.2 ⟨q, List.mem_reverse.2 hq, rfl⟩) with e | e
    · exact .inl (by rw [← negP_negP q, e, negP_negP])
    · exact .inr (negP_lt.1 e)
theorem ne_sort {l : List Pt} (h : l ≠ []) : sortP l ≠ [] := by
  cases l with
  | nil => exact absurd rfl h
  | cons a r => intro e; have : a ∈ sortP (a :: r) := sortP_mem.2 (by simp); rw [e] at this; cases this
theorem set_min {l : List Pt} (h : l ≠ []) : ∃ m ∈ l, ∀ q ∈ l, q = m ∨ ltP m q := by
  obtain ⟨m, h1, _, h3⟩ := asc_min (sortP_asc l) (ne_sort h)
  exact ⟨m, sortP_mem.1 h1, fun q hq => h3 q (sortP_mem.2 hq)⟩
theorem set_max {l : List Pt} (h : l ≠ []) : ∃ m ∈ l, ∀ q ∈ l, q = m ∨ ltP q m := by
  obtain ⟨m, h1, _, h3⟩ := asc_max (sortP_asc l) (ne_sort h)
  exact ⟨m, sortP_mem.1 h1, fun q hq => h3 q (sortP_mem.2 hq)⟩
theorem min_low {l : List Pt} {m : Pt} (h : m ∈ l) (hm : ∀ q ∈ l, q = m ∨ ltP m q) : m ∈ lowL l ∧ m ∈ upL l := by
  refine ⟨lowL_mem.2 ⟨h, fun a ha b hb h1 h2 => ?_⟩, upL_mem.2 ⟨h, fun a ha b hb h1 h2 => ?_⟩⟩
  · rcases hm a ha with e | e
    · subst e; exact absurd h1 (ltP_irr _)
    · exact absurd h1 (ltP_asymm e)
  · rcases hm b hb with e | e
    · subst e; exact absurd h2 (ltP_irr _)
    · exact absurd h2 (ltP_asymm e)
theorem max_low {l : List Pt} {m : Pt} (h : m ∈ l) (hm : ∀ q ∈ l, q = m ∨ ltP q m) : m ∈ lowL l ∧ m ∈ upL l := by
  refine ⟨lowL_mem.2 ⟨h, fun a ha b hb h1 h2 => ?_⟩, upL_mem.2 ⟨h, fun a ha b hb h1 h2 => ?_⟩⟩
  · rcases hm b hb with e | e
    · subst e; exact absurd h2 (ltP_irr _)
    · exact absurd h2 (ltP_asymm e)
  · rcases hm a ha with e | e
    · subst e; exact absurd h1 (ltP_irr _)
    · exact absurd h1 (ltP_asymm e)
theorem mem_dropLast {l : List Pt} {x q : Pt} (hl : l.getLast? = some x) : q ∈ l ↔ q ∈ l.dropLast ∨ q = x := by
  have : l = l.dropLast ++ [x] := by
    obtain ⟨hne, h2⟩ := List.getLast?_eq_some_iff.1 hl
    rw [h2]; simp
  rw [show (q ∈ l) = (q ∈ l.dropLast ++ [x]) from by rw [← this], List.mem_append, List.mem_singleton]
theorem last_of {l : List Pt} (h : Asc l) {m : Pt} (hm : m ∈ l) (hx : ∀ q ∈ l, q = m ∨ ltP q m) : l.getLast? = some m := by
  obtain ⟨x, h1, h2, h3⟩ := asc_max h (by intro e; subst e; cases hm)
  rcases h3 m hm with e | e
  · rw [e]; exact h2
  · rcases hx x h1 with e' | e'
    · rw [← e']; exact h2
    · exact absurd e (ltP_asymm e')
theorem last_of_d {l : List Pt} (h : Dsc l) {m : Pt} (hm : m ∈ l) (hx : ∀ q ∈ l, q = m ∨ ltP m q) : l.getLast? = some m := by
  have hr : Asc l.reverse := List.pairwise_reverse.2 h
  obtain ⟨x, h1, h2, h3⟩ := asc_min hr (by intro e; have := List.reverse_eq_nil_iff.1 e; subst this; cases hm)
  rw [List.head?_reverse] at h2
  rcases h3 m (List.mem_reverse.2 hm) with e | e
  · rw [e]; exact h2
  · rcases hx x (List.mem_reverse.1 h1) with e' | e'
    · rw [← e']; exact h2
    · exact absurd e (ltP_asymm e')
theorem sort_two {l : List Pt} {a b : Pt} (ha : a ∈ l) (hb : b ∈ l) (h : a ≠ b) : 2 ≤ (sortP l).length := by
  have h1 := sortP_mem.2 ha
  have h2 := sortP_mem.2 hb
  match hs : sortP l, h1, h2 with
  | [], h1, _ => cases h1
  | [x], h1, h2 => exact absurd ((List.mem_singleton.1 h1).trans (List.mem_singleton.1 h2).symm) h
  | x :: y :: r, _, _ => simp
theorem two_of_sort {l : List Pt} (h : 2 ≤ (sortP l).length) : ∃ a b, a ∈ l ∧ b ∈ l ∧ ltP a b := by
  match hs : sortP l, h with
  | x :: y :: r, _ =>
    have := sortP_asc l
    rw [hs] at this
    exact ⟨x, y, sortP_mem.1 (by rw [hs]; simp), sortP_mem.1 (by rw [hs]; simp), (List.pairwise_cons.1 this).1 y (by simp)⟩
/-- Who is a vertex. -/
theorem hullOf_mem {l : List Pt} {q : Pt} : q ∈ hullOf l ↔ q ∈ lowL l ∨ q ∈ upL l := by
  unfold hullOf
  by_cases hl : l = []
  · subst hl; simp [sortP, lowL, upL, halfL, halfR]
  obtain ⟨mn, hmn, hmin⟩ := set_min hl
  obtain ⟨mx, hmx, hmax⟩ := set_max hl
  by_cases h : (sortP l).length < 2
  · rw [if_pos h, sortP_mem]
    have one : ∀ a ∈ l, a = mn := fun a ha => Decidable.byContradiction fun hne => by have := sort_two ha hmn hne; omega
    constructor
    · intro hq
      have := one q hq
      subst this
      exact .inl (min_low hmn hmin).1
    · rintro (hq | hq)
      · exact (lowL_mem.1 hq).1
      · exact (upL_mem.1 hq).1
  · rw [if_neg h, List.mem_append]
    obtain ⟨a, b, ha, hb, hab⟩ := two_of_sort (l := l) (by omega)
    have hne : mn ≠ mx := by
      intro e
      subst e
      rcases hmin b hb with e | e
      · subst e
        rcases hmin a ha with e | e
        · subst e; exact ltP_irr _ hab
        · exact ltP_asymm hab e
      · rcases hmax b hb with e' | e'
        · subst e'; exact ltP_irr _ e
        · exact ltP_asymm e e'
    have L := last_of (lowL_asc l) (max_low hmx hmax).1 (fun q hq => hmax q (lowL_mem.1 hq).1)
    have U := last_of_d (upL_dsc l) (min_low hmn hmin).2 (fun q hq => hmin q (upL_mem.1 hq).1)
    rw [mem_dropLast L, mem_dropLast U]
    have m1 := (mem_dropLast (q := mn) L).1 (min_low hmn hmin).1
    have m2 := (mem_dropLast (q := mx) U).1 (max_low hmx hmax).2
    constructor
    · rintro (h | h)
      · exact .inl (.inl h)
      · exact .inr (.inl h)
    · rintro ((h | h) | (h | h))
      · exact .inl h
      · subst h
        rcases m2 with h | h
        · exact .inr h
        · exact absurd h.symm hne
      · exact .inr h
      · subst h
        rcases m1 with h | h
        · exact .inl h
        · exact absurd h hne
theorem hullOf_sub {l : List Pt} {q : Pt} (h : q ∈ hullOf l) : q ∈ l := by
  rcases hullOf_mem.1 h with h | h
  · exact (lowL_mem.1 h).1
  · exact (upL_mem.1 h).1
end Go.Proofs.YtnddfdhfefconaaGreatDoor
/- Hulls of sums, of moved and doubled points; how far hulls are in a direction; how many vertices they have. No program in sight. -/
set_option linter.unusedVariables false
set_option linter.unusedSimpArgs false
namespace Go.Proofs.YtnddfdhfefconaaGreatDoor
open Go.RowKit

/-! ### maps that keep order and turns -/
structure Keeps (f : Pt → Pt) : Prop where
  lt : ∀ a b, ltP (f a) (f b) ↔ ltP a b
  trn : ∀ a b c, 0 < trn (f a) (f b) (f c) ↔ 0 < trn a b c
theorem Keeps.inj {f : Pt → Pt} (h : Keeps f) {a b : Pt} (e : f a = f b) : a = b := by
  rcases ltP_tri a b with h1 | h1 | h1
  · have := (h.lt a b).2 h1; rw [e] at this; exact absurd this (ltP_irr _)
  · exact h1
  · have := (h.lt b a).2 h1; rw [e] at this; exact absurd this (ltP_irr _)
/-! ### how many vertices -/
theorem low_up {l : List Pt} {p a b : Pt} (h1 : p ∈ lowL l) (h2 : p ∈ upL l) (ha : a ∈ l) (hb : b ∈ l) (hap : ltP a p) (hpb : ltP p b) : False := by
  have g1 := (lowL_mem.1 h1).2 a ha b hb hap hpb
  have g2 := (upL_mem.1 h2).2 b hb a ha hpb hap
  have e : trn b p a = -trn a p b := by unfold trn; grind
  omega
theorem dsc_nodup {l : List Pt} (h : Dsc l) : l.Nodup := List.Pairwise.imp (S := fun a b : Pt => a ≠ b) (fun {a b} hab => (ltP_ne hab).symm) h
theorem hullOf_nodup (l : List Pt) : (hullOf l).Nodup := by
  unfold hullOf
  by_cases h : (sortP l).length < 2
  · rw [if_pos h]; exact asc_nodup (sortP_asc l)
  · rw [if_neg h]
    have hl : l ≠ [] := by intro e; subst e; simp [sortP] at h
    obtain ⟨mn, hmn, hmin⟩ := set_min hl
    obtain ⟨mx, hmx, hmax⟩ := set_max hl
    have L := last_of (lowL_asc l) (max_low hmx hmax).1 (fun q hq => hmax q (lowL_mem.1 hq).1)
    have U := last_of_d (upL_dsc l) (min_low hmn hmin).2 (fun q hq => hmin q (upL_mem.1 hq).1)
    refine List.nodup_append.2 ⟨?_, ?_, fun p hp q hq e => ?_⟩
    · exact ((asc_nodup (lowL_asc l)).sublist (List.dropLast_sublist _))
    · have : (upL l).Nodup := dsc_nodup (upL_dsc l)
      exact this.sublist (List.dropLast_sublist _)
    · subst e
      have hp' := (mem_dropLast (q := p) L).2 (.inl hp)
      have hq' := (mem_dropLast (q := p) U).2 (.inl hq)
      have n1 : p ≠ mx := by
        intro e; subst e
        have nd := asc_nodup (lowL_asc l)
        obtain ⟨hne, h2⟩ := List.getLast?_eq_some_iff.1 L
        rw [h2] at nd hp
        simp at hp
        have := (List.nodup_append.1 nd).2.2 _ hp _ (List.mem_singleton.2 rfl)
        exact this rfl
      have n2 : p ≠ mn := by
        intro e; subst e
        have nd : (upL l).Nodup := dsc_nodup (upL_dsc l)
        obtain ⟨hne, h2⟩ := List.getLast?_eq_some_iff.1 U
        rw [h2] at nd hq
        simp at hq
        have := (List.nodup_append.1 nd).2.2 _ hq _ (List.mem_singleton.2 rfl)
        exact this rfl
      have hpl := (lowL_mem.1 hp').1
      have k1 : ltP mn p := (hmin p hpl).resolve_left n2
      have k2 : ltP p mx := (hmax p hpl).resolve_left n1
      exact low_up hp' hq' hmn hmx k1 k2
theorem nodup_len : ∀ {l l' : List Pt}, l.Nodup → (∀ q ∈ l, q ∈ l') → l.length ≤ l'.length
  | [], _, _, _ => by simp
  | a :: r, l', h, hs => by
    have h' := List.nodup_cons.1 h
    have := nodup_len (l := r) (l' := l'.erase a) h'.2 (fun q hq => (List.mem_erase_of_ne (fun e => by subst e; exact h'.1 hq)).2 (hs q (by simp [hq])))
    have hm := hs a (by simp)
    rw [List.length_erase_of_mem hm] at this
    have : 0 < l'.length := List.length_pos_of_mem hm
    simp; omega
theorem hullOf_len (l : List Pt) : (hullOf l).length ≤ (sortP l).length := nodup_len (hullOf_nodup l) fun q hq => sortP_mem.2 (hullOf_sub hq)
theorem hullOf_len' (l : List Pt) : (hullOf l).length ≤ l.length := Nat.le_trans (hullOf_len l) (sortP_len l)

end Go.Proofs.YtnddfdhfefconaaGreatDoor
/- Hulls are convex: each three vertices in order turn to the left; what lies inside of all edges lies in a triangle of vertices; when the hull of some points has the origin. No program in sight. -/
set_option linter.unusedVariables false
set_option linter.unusedSimpArgs false
namespace Go.Proofs.YtnddfdhfefconaaGreatDoor
open Go.RowKit

end Go.Proofs.YtnddfdhfefconaaGreatDoor
/- When the hull of some points has the origin: if and only if no direction leads away from all of them. No program in sight. -/
set_option linter.unusedVariables false
set_option linter.unusedSimpArgs false
namespace Go.Proofs.YtnddfdhfefconaaGreatDoor
open Go.RowKit

def origin : Pt := ⟨0, 0⟩
end Go.Proofs.YtnddfdhfefconaaGreatDoor
/- Triangles that have a point, in plain words: a hull has the origin iff one of its vertices' triangles has. No program in sight. -/
set_option linter.unusedVariables false
set_option linter.unusedSimpArgs false
namespace Go.Proofs.YtnddfdhfefconaaGreatDoor
open Go.RowKit

end Go.Proofs.YtnddfdhfefconaaGreatDoor
