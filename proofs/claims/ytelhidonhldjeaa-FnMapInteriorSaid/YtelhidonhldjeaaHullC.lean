/- Hulls are convex: each three vertices in order turn to the left; what lies inside of all edges lies in a triangle of vertices; when the hull of some points has the origin. No program in sight. -/
import Derived.Test.YtelhidonhldjeaaHullX
set_option linter.unusedVariables false
set_option linter.unusedSimpArgs false
namespace Go.Proofs.Ytelhidonhldjeaa
open Go.RowKit

/-- Each three in order turn to the left. -/
def ConvP (h : List Pt) : Prop := ∀ a b c, [a, b, c].Sublist h → 0 < trn a b c
theorem trn_rot (a b c : Pt) : trn a b c = trn b c a := by unfold trn; grind
theorem trn_swap (a b c : Pt) : trn a b c = -trn b a c := by unfold trn; grind
theorem trn_aab (a b : Pt) : trn a a b = 0 := by unfold trn; grind
theorem trn_aba (a b : Pt) : trn a b a = 0 := by unfold trn; grind
theorem trn_abb (a b : Pt) : trn a b b = 0 := by unfold trn; grind
theorem asc_sub2 {l : List Pt} (h : Asc l) {a b : Pt} (hs : [a, b].Sublist l) : ltP a b := by
  have := h.sublist hs
  exact (List.pairwise_cons.1 this).1 b (by simp)
theorem dsc_sub2 {l : List Pt} (h : Dsc l) {a b : Pt} (hs : [a, b].Sublist l) : ltP b a := by
  have := h.sublist hs
  exact (List.pairwise_cons.1 this).1 b (by simp)
theorem mem_sub {l l' : List Pt} (h : l.Sublist l') {a : Pt} (ha : a ∈ l) : a ∈ l' := h.subset ha
/-- A below b among the lower vertices, c an upper one. -/
theorem low_low_up {l : List Pt} {a b c : Pt} (ha : a ∈ lowL l) (hb : b ∈ lowL l) (hc : c ∈ upL l) (hab : ltP a b) (h1 : c ≠ a) (h2 : c ≠ b) : 0 < trn a b c := by
  obtain ⟨la, oa⟩ := lowL_mem.1 ha
  obtain ⟨lb, ob⟩ := lowL_mem.1 hb
  obtain ⟨lc, oc⟩ := upL_mem.1 hc
  rcases ltP_tri c a with h | h | h
  · rw [trn_rot, trn_rot]; exact oa c lc b lb h hab
  · exact absurd h h1
  · rcases ltP_tri c b with h' | h' | h'
    · rw [trn_rot]; exact oc b lb a la h' h
    · exact absurd h' h2
    · exact ob a la c lc hab h'
theorem up_up_low {l : List Pt} {a b c : Pt} (ha : a ∈ upL l) (hb : b ∈ upL l) (hc : c ∈ lowL l) (hab : ltP b a) (h1 : c ≠ a) (h2 : c ≠ b) : 0 < trn a b c := by
  obtain ⟨la, oa⟩ := upL_mem.1 ha
  obtain ⟨lb, ob⟩ := upL_mem.1 hb
  obtain ⟨lc, oc⟩ := lowL_mem.1 hc
  rcases ltP_tri a c with h | h | h
  · rw [trn_rot, trn_rot]; exact oa c lc b lb h hab
  · exact absurd h.symm h1
  · rcases ltP_tri b c with h' | h' | h'
    · rw [trn_rot]; exact oc b lb a la h' h
    · exact absurd h'.symm h2
    · exact ob a la c lc hab h'
theorem hull_conv (l : List Pt) : ConvP (hullOf l) := by
  intro a b c hs
  have nd : [a, b, c].Nodup := (hullOf_nodup l).sublist hs
  obtain ⟨n1, n2⟩ := List.nodup_cons.1 nd
  obtain ⟨n3, _⟩ := List.nodup_cons.1 n2
  simp at n1 n3
  unfold hullOf at hs
  by_cases h : (sortP l).length < 2
  · rw [if_pos h] at hs
    have := hs.length_le
    simp at this; omega
  · rw [if_neg h] at hs
    obtain ⟨l1, l2, e, s1, s2⟩ := List.sublist_append_iff.1 hs
    have s1 := s1.trans (List.dropLast_sublist _)
    have s2 := s2.trans (List.dropLast_sublist _)
    match l1, e with
    | [], e =>
      simp at e; subst e
      have hab : ltP b a := dsc_sub2 (upL_dsc l) (List.Sublist.trans (by simp) s2)
      have hbc : ltP c b := dsc_sub2 (upL_dsc l) (List.Sublist.trans (by simp) s2)
      have ha := upL_mem.1 (mem_sub s2 (by simp : a ∈ _))
      have hb := upL_mem.1 (mem_sub s2 (by simp : b ∈ _))
      have hc := upL_mem.1 (mem_sub s2 (by simp : c ∈ _))
      exact hb.2 a ha.1 c hc.1 hab hbc
    | [x], e =>
      simp at e; obtain ⟨rfl, rfl⟩ := e
      have hbc : ltP c b := dsc_sub2 (upL_dsc l) s2
      rw [trn_rot]
      exact up_up_low (mem_sub s2 (by simp)) (mem_sub s2 (by simp)) (mem_sub s1 (by simp)) hbc n1.1 n1.2
    | [x, y], e =>
      simp at e; obtain ⟨rfl, rfl, rfl⟩ := e
      have hab : ltP a b := asc_sub2 (lowL_asc l) s1
      exact low_low_up (mem_sub s1 (by simp)) (mem_sub s1 (by simp)) (mem_sub s2 (by simp)) hab (fun e => n1.2 e.symm) (fun e => n3 e.symm)
    | [x, y, z], e =>
      simp at e; obtain ⟨rfl, rfl, rfl, rfl⟩ := e
      have hab : ltP a b := asc_sub2 (lowL_asc l) (List.Sublist.trans (by simp) s1)
      have hbc : ltP b c := asc_sub2 (lowL_asc l) (List.Sublist.trans (by simp) s1)
      have ha := lowL_mem.1 (mem_sub s1 (by simp : a ∈ _))
      have hb := lowL_mem.1 (mem_sub s1 (by simp : b ∈ _))
      have hc := lowL_mem.1 (mem_sub s1 (by simp : c ∈ _))
      exact hb.2 a ha.1 c hc.1 hab hbc
    | x :: y :: z :: w :: l1, e => simp at e

/-! ### edges -/
/-- The edges of a ring, as pairs: each with the next, the last with the first. -/
def ring (h : List Pt) : List (Pt × Pt) := h.zip (h.drop 1 ++ h.take 1)
def chainE : Pt → List Pt → List (Pt × Pt)
  | _, [] => []
  | a, b :: r => (a, b) :: chainE b r
theorem chain_zip : ∀ (a : Pt) (r : List Pt) (z : Pt), (a :: r).zip (r ++ [z]) = chainE a (r ++ [z])
  | a, [], z => rfl
  | a, b :: r, z => by
    have := chain_zip b r z
    simp only [List.cons_append, List.zip_cons_cons, chainE] at this ⊢
    rw [this]
theorem ring_cons (a : Pt) (r : List Pt) : ring (a :: r) = chainE a (r ++ [a]) := by
  unfold ring
  simp only [List.drop_succ_cons, List.drop_zero, List.take_succ_cons, List.take_zero]
  exact chain_zip a r a
/-- q lies inside of all edges, the border let in. -/
def Inside (h : List Pt) (q : Pt) : Prop := ∀ e ∈ ring h, 0 ≤ trn e.1 e.2 q
/-- An edge: its ends are neighbours, or the last and the first. -/
theorem chainE_mem : ∀ {a : Pt} {r : List Pt} {e : Pt × Pt}, e ∈ chainE a r → [e.1, e.2].Sublist (a :: r)
  | a, [], e, h => by cases h
  | a, b :: r, e, h => by
    rcases List.mem_cons.1 h with h | h
    · subst h; exact List.Sublist.cons_cons a (List.Sublist.cons_cons b (List.nil_sublist r))
    · exact (chainE_mem h).trans (List.sublist_cons_self a _)
theorem chainE_snoc : ∀ {a : Pt} {r : List Pt} {z : Pt} {e : Pt × Pt}, e ∈ chainE a (r ++ [z]) → e ∈ chainE a r ∨ e = ((a :: r).getLastD a, z)
  | a, [], z, e, h => by simp [chainE] at h; exact .inr (by simp [h])
  | a, b :: r, z, e, h => by
    rw [List.cons_append, chainE] at h
    rcases List.mem_cons.1 h with h | h
    · exact .inl (by subst h; simp [chainE])
    · rcases chainE_snoc h with h | h
      · exact .inl (List.mem_cons_of_mem _ h)
      · refine .inr ?_
        rw [h]
        cases r with
        | nil => rfl
        | cons c r => simp [List.getLastD]
theorem adj_split : ∀ {a : Pt} {r : List Pt} {e : Pt × Pt}, e ∈ chainE a r → ∃ l1 l2, a :: r = l1 ++ e.1 :: e.2 :: l2
  | a, [], e, h => by cases h
  | a, b :: r, e, h => by
    rcases List.mem_cons.1 h with h | h
    · subst h; exact ⟨[], r, rfl⟩
    · obtain ⟨l1, l2, e⟩ := adj_split h
      exact ⟨a :: l1, l2, by rw [e]; rfl⟩
/-- All vertices lie inside of each edge; strictly, but for its ends. -/
theorem edge_left {h : List Pt} (hc : ConvP h) {e : Pt × Pt} (he : e ∈ ring h) {v : Pt} (hv : v ∈ h) : v = e.1 ∨ v = e.2 ∨ 0 < trn e.1 e.2 v := by
  cases h with
  | nil => cases hv
  | cons a r =>
    rw [ring_cons] at he
    rcases chainE_snoc he with he | he
    · obtain ⟨l1, l2, es⟩ := adj_split he
      rw [es] at hv hc
      rcases List.mem_append.1 hv with hv | hv
      · refine .inr (.inr ?_)
        rw [trn_rot, trn_rot]
        refine hc _ _ _ ?_
        have s1 : [v].Sublist l1 := List.singleton_sublist.2 hv
        have s2 : [e.1, e.2].Sublist (e.1 :: e.2 :: l2) := List.Sublist.cons_cons _ (List.Sublist.cons_cons _ (List.nil_sublist _))
        exact s1.append s2
      · rcases List.mem_cons.1 hv with hv | hv
        · exact .inl hv
        · rcases List.mem_cons.1 hv with hv | hv
          · exact .inr (.inl hv)
          · refine .inr (.inr ?_)
            refine hc _ _ _ ?_
            have s2 : [e.1, e.2, v].Sublist (e.1 :: e.2 :: l2) := List.Sublist.cons_cons _ (List.Sublist.cons_cons _ (List.singleton_sublist.2 hv))
            exact s2.trans (List.sublist_append_right l1 _)
    · -- the last edge
      subst he
      cases hr : r.getLast? with
      | none =>
        have : r = [] := List.getLast?_eq_none_iff.1 hr
        subst this
        simp at hv; subst hv; exact .inl rfl
      | some z =>
        obtain ⟨r0, hr0⟩ := List.getLast?_eq_some_iff.1 hr
        have hl : (a :: r).getLastD a = z := by
          rw [hr0, show a :: (r0 ++ [z]) = (a :: r0) ++ [z] from rfl, List.getLastD_concat]
        rw [hl]
        rcases List.mem_cons.1 hv with hv | hv
        · exact .inr (.inl hv)
        · rw [hr0] at hv hc
          rcases List.mem_append.1 hv with hv | hv
          · refine .inr (.inr ?_)
            show 0 < trn z a v
            rw [trn_rot]
            refine hc _ _ _ (List.Sublist.cons_cons _ ?_)
            exact (List.singleton_sublist.2 hv).append (List.Sublist.refl [z])
          · exact .inl (List.mem_singleton.1 hv)
/-- The triangle's own words for an affine function. -/
theorem bary (a b c q : Pt) (m x y : Int) : trn a b c * (dotP q x y + m) = trn b c q * (dotP a x y + m) + trn c a q * (dotP b x y + m) + trn a b q * (dotP c x y + m) := by unfold trn dotP; grind
theorem tri_sum (a b c q : Pt) : trn a b c = trn b c q + trn c a q + trn a b q := by unfold trn; grind
/-- A point in a triangle is no farther in any direction than one of its corners. -/
theorem tri_far {a b c q : Pt} (h1 : 0 ≤ trn a b q) (h2 : 0 ≤ trn b c q) (h3 : 0 ≤ trn c a q) (h : 0 < trn a b c) (x y : Int) : dotP q x y ≤ dotP a x y ∨ dotP q x y ≤ dotP b x y ∨ dotP q x y ≤ dotP c x y := by
  refine Decidable.byContradiction fun hn => ?_
  have k := bary a b c q (-dotP q x y) x y
  have s := tri_sum a b c q
  have n1 : dotP a x y + -dotP q x y < 0 := by omega
  have n2 : dotP b x y + -dotP q x y < 0 := by omega
  have n3 : dotP c x y + -dotP q x y < 0 := by omega
  have z : dotP q x y + -dotP q x y = 0 := by omega
  rw [z, Int.mul_zero] at k
  have p1 := Int.mul_nonpos_of_nonneg_of_nonpos h2 (Int.le_of_lt n1)
  have p2 := Int.mul_nonpos_of_nonneg_of_nonpos h3 (Int.le_of_lt n2)
  have p3 := Int.mul_nonpos_of_nonneg_of_nonpos h1 (Int.le_of_lt n3)
  by_cases g1 : 0 < trn b c q
  · have := Int.mul_neg_of_pos_of_neg g1 n1; omega
  · by_cases g2 : 0 < trn c a q
    · have := Int.mul_neg_of_pos_of_neg g2 n2; omega
    · have := Int.mul_neg_of_pos_of_neg (show 0 < trn a b q by omega) n3; omega
/-- A fan from a: q lies between two of its ways. -/
theorem fan : ∀ {r : List Pt} {a b q : Pt}, 0 ≤ trn a b q → (∀ e ∈ chainE b r, 0 ≤ trn e.1 e.2 q) → r ≠ [] → 0 ≤ trn (r.getLastD b) a q →
    ∃ c d, (c, d) ∈ chainE b r ∧ 0 ≤ trn a c q ∧ 0 ≤ trn c d q ∧ 0 ≤ trn d a q
  | [], _, _, _, _, _, h, _ => absurd rfl h
  | [d], a, b, q, h1, h2, _, h3 => ⟨b, d, by simp [chainE], h1, h2 (b, d) (by simp [chainE]), by simpa using h3⟩
  | d :: d' :: r, a, b, q, h1, h2, _, h3 => by
    by_cases h : 0 ≤ trn d a q
    · exact ⟨b, d, by simp [chainE], h1, h2 (b, d) (by simp [chainE]), h⟩
    · have h4 : 0 ≤ trn a d q := by rw [trn_swap]; omega
      obtain ⟨c, e, k1, k2⟩ := fan (r := d' :: r) (b := d) h4 (fun e he => h2 e (List.mem_cons_of_mem _ he)) (by simp) (by
        have : (d :: d' :: r).getLastD b = (d' :: r).getLastD d := by simp [List.getLastD]
        rw [← this]; exact h3)
      exact ⟨c, e, List.mem_cons_of_mem _ k1, k2⟩
/-- What lies inside of all edges of a convex ring lies in a triangle of the fan of its first vertex. -/
theorem in_fan {a b c : Pt} {r : List Pt} (hc : ConvP (a :: b :: c :: r)) {q : Pt} (hi : Inside (a :: b :: c :: r) q) :
    ∃ u v, [a, u, v].Sublist (a :: b :: c :: r) ∧ 0 < trn a u v ∧ 0 ≤ trn a u q ∧ 0 ≤ trn u v q ∧ 0 ≤ trn v a q := by
  unfold Inside at hi
  rw [ring_cons] at hi
  have h1 : 0 ≤ trn a b q := hi (a, b) (by simp [chainE])
  have h2 : ∀ e ∈ chainE b (c :: r), 0 ≤ trn e.1 e.2 q := fun e he => hi e (by
    rw [List.cons_append, chainE]
    refine List.mem_cons_of_mem _ ?_
    have : ∀ (b : Pt) (r : List Pt) (z : Pt), ∀ e ∈ chainE b r, e ∈ chainE b (r ++ [z]) := by
      intro b r z
      induction r generalizing b with
      | nil => intro e he; cases he
      | cons d r ih =>
        intro e he
        rw [List.cons_append, chainE]
        rcases List.mem_cons.1 he with he | he
        · subst he; simp
        · exact List.mem_cons_of_mem _ (ih d e he)
    exact this b (c :: r) a e he)
  have h3 : 0 ≤ trn ((c :: r).getLastD b) a q := hi ((c :: r).getLastD b, a) (by
    have : ∀ (b : Pt) (r : List Pt) (z : Pt), (r.getLastD b, z) ∈ chainE b (r ++ [z]) := by
      intro b r z
      induction r generalizing b with
      | nil => simp [chainE]
      | cons d r ih =>
        rw [List.cons_append, chainE]
        refine List.mem_cons_of_mem _ ?_
        have := ih d
        rwa [show (d :: r).getLastD b = r.getLastD d from by cases r <;> simp [List.getLastD]]
    rw [List.cons_append, chainE]
    exact List.mem_cons_of_mem _ (this b (c :: r) a))
  obtain ⟨u, v, k1, k2, k3, k4⟩ := fan h1 h2 (by simp) h3
  have s := List.Sublist.cons_cons a (chainE_mem k1)
  exact ⟨u, v, s, hc _ _ _ s, k2, k3, k4⟩
end Go.Proofs.Ytelhidonhldjeaa
