/- Sorted lists of points and hulls in plain words; hulls hang on the set of points alone; hulls of sums. No program in sight. -/
import Derived.Test.YtelhidonhldjeaaHullM
set_option linter.unusedVariables false
set_option linter.unusedSimpArgs false
namespace Go.Proofs.Ytelhidonhldjeaa
open Go.RowKit

/-! ### sorted, each once -/
def insP (p : Pt) : List Pt → List Pt
  | [] => [p]
  | q :: r => if ltP q p then q :: insP p r else if q = p then q :: r else p :: q :: r
def sortP (l : List Pt) : List Pt := l.foldl (fun acc p => insP p acc) []
theorem insP_mem {p q : Pt} : ∀ {l : List Pt}, q ∈ insP p l ↔ q = p ∨ q ∈ l
  | [] => by simp [insP]
  | a :: r => by
    rw [insP]
    by_cases h1 : ltP a p
    · rw [if_pos h1, List.mem_cons, List.mem_cons, insP_mem (l := r)]
      constructor
      · rintro (h | h | h)
        · exact .inr (.inl h)
        · exact .inl h
        · exact .inr (.inr h)
      · rintro (h | h | h)
        · exact .inr (.inl h)
        · exact .inl h
        · exact .inr (.inr h)
    · rw [if_neg h1]
      by_cases h2 : a = p
      · subst h2; simp
      · rw [if_neg h2]; simp
theorem insP_asc {p : Pt} : ∀ {l : List Pt}, Asc l → Asc (insP p l)
  | [], _ => by simp [insP, Asc]
  | a :: r, h => by
    have h' := List.pairwise_cons.1 h
    rw [insP]
    by_cases h1 : ltP a p
    · rw [if_pos h1]
      refine List.pairwise_cons.2 ⟨fun q hq => ?_, insP_asc h'.2⟩
      rcases insP_mem.1 hq with e | e
      · subst e; exact h1
      · exact h'.1 q e
    · rw [if_neg h1]
      by_cases h2 : a = p
      · rw [if_pos h2]; exact h
      · rw [if_neg h2]
        have h3 : ltP p a := by
          rcases ltP_tri a p with h | h | h
          · exact absurd h h1
          · exact absurd h h2
          · exact h
        refine List.pairwise_cons.2 ⟨fun q hq => ?_, h⟩
        rcases List.mem_cons.1 hq with e | e
        · subst e; exact h3
        · exact ltP_trans h3 (h'.1 q e)
theorem sortP_go : ∀ (l acc : List Pt), Asc acc → Asc (l.foldl (fun acc p => insP p acc) acc) ∧ ∀ q, q ∈ l.foldl (fun acc p => insP p acc) acc ↔ q ∈ acc ∨ q ∈ l
  | [], acc, h => ⟨h, fun q => by simp⟩
  | p :: l, acc, h => by
    obtain ⟨h1, h2⟩ := sortP_go l (insP p acc) (insP_asc h)
    refine ⟨h1, fun q => ?_⟩
    rw [List.foldl_cons, h2 q, insP_mem, List.mem_cons]
    constructor
    · rintro ((h | h) | h)
      · exact .inr (.inl h)
      · exact .inl h
      · exact .inr (.inr h)
    · rintro (h | h | h)
      · exact .inl (.inr h)
      · exact .inl (.inl h)
      · exact .inr h
theorem sortP_asc (l : List Pt) : Asc (sortP l) := (sortP_go l [] List.Pairwise.nil).1
theorem sortP_mem {l : List Pt} {q : Pt} : q ∈ sortP l ↔ q ∈ l := by
  have := (sortP_go l [] List.Pairwise.nil).2 q
  simpa [sortP] using this
theorem asc_ext : ∀ {l l' : List Pt}, Asc l → Asc l' → (∀ q, q ∈ l ↔ q ∈ l') → l = l'
  | [], [], _, _, _ => rfl
  | [], b :: r, _, _, h => by have := (h b).2 (by simp); cases this
  | a :: r, [], _, _, h => by have := (h a).1 (by simp); cases this
  | a :: r, b :: r', h1, h2, h => by
    have g1 := List.pairwise_cons.1 h1
    have g2 := List.pairwise_cons.1 h2
    have e : a = b := by
      rcases List.mem_cons.1 ((h a).1 (by simp)) with e | e
      · exact e
      · rcases List.mem_cons.1 ((h b).2 (by simp)) with e' | e'
        · exact e'.symm
        · exact absurd (g2.1 a e) (ltP_asymm (g1.1 b e'))
    subst e
    rw [asc_ext g1.2 g2.2 (fun q => ?_)]
    constructor
    · intro hq
      rcases List.mem_cons.1 ((h q).1 (List.mem_cons_of_mem _ hq)) with e | e
      · subst e; exact absurd (g1.1 _ hq) (ltP_irr _)
      · exact e
    · intro hq
      rcases List.mem_cons.1 ((h q).2 (List.mem_cons_of_mem _ hq)) with e | e
      · subst e; exact absurd (g2.1 _ hq) (ltP_irr _)
      · exact e
theorem sortP_ext {l l' : List Pt} (h : ∀ q, q ∈ l ↔ q ∈ l') : sortP l = sortP l' := asc_ext (sortP_asc l) (sortP_asc l') fun q => by rw [sortP_mem, sortP_mem, h q]
theorem sortP_self {l : List Pt} (h : Asc l) : sortP l = l := asc_ext (sortP_asc l) h fun q => sortP_mem
theorem asc_nodup {l : List Pt} (h : Asc l) : l.Nodup := h.imp ltP_ne
theorem insP_len (p : Pt) : ∀ l : List Pt, (insP p l).length ≤ l.length + 1
  | [] => by simp [insP]
  | q :: r => by
    rw [insP]
    split
    · have := insP_len p r; simp; omega
    · split <;> simp
theorem sortP_len (l : List Pt) : (sortP l).length ≤ l.length := by
  have : ∀ (l acc : List Pt), (l.foldl (fun acc p => insP p acc) acc).length ≤ acc.length + l.length := by
    intro l
    induction l with
    | nil => intro acc; simp
    | cons p l ih =>
      intro acc
      rw [List.foldl_cons]
      have := ih (insP p acc)
      have := insP_len p acc
      simp; omega
  simpa [sortP] using this l []

/-! ### both halves -/
def negP (p : Pt) : Pt := ⟨-p.x, -p.y⟩
theorem negP_negP (p : Pt) : negP (negP p) = p := by cases p; simp [negP]
theorem negP_lt {a b : Pt} : ltP (negP a) (negP b) ↔ ltP b a := by unfold ltP negP; constructor <;> intro h <;> simp at * <;> omega
theorem negP_trn (a b c : Pt) : trn (negP a) (negP b) (negP c) = trn a b c := by unfold trn negP; grind
theorem popTo_neg (p : Pt) : ∀ st : List Pt, popTo (negP p) (st.map negP) = (popTo p st).map negP
  | [] => rfl
  | [a] => rfl
  | t :: u :: r => by
    have h := popTo_neg p (u :: r)
    simp only [List.map_cons, popTo, negP_trn] at h ⊢
    split
    · exact h
    · rfl
theorem halfR_neg : ∀ (ps st : List Pt), halfR (st.map negP) (ps.map negP) = (halfR st ps).map negP
  | [], st => rfl
  | p :: ps, st => by
    rw [List.map_cons, halfR, halfR, popTo_neg, ← List.map_cons, halfR_neg ps]
theorem halfL_neg (s : List Pt) : halfL (s.map negP) = (halfL s).map negP := by
  unfold halfL
  have h := halfR_neg s []
  rw [List.map_nil] at h
  rw [h, List.map_reverse]
/-- p lies strictly above every segment of s under it. -/
def UpOk (s : Pt → Prop) (p : Pt) : Prop := ∀ a, s a → ∀ b, s b → ltP p a → ltP b p → 0 < trn a p b
theorem desc_asc : ∀ {l : List Pt}, Desc l → Asc l.reverse
  | [], _ => by simp [Asc]
  | [a], _ => by simp [Asc]
  | a :: b :: r, h => by
    rw [List.reverse_cons]
    refine List.pairwise_append.2 ⟨desc_asc h.2, by simp, fun q hq x hx => ?_⟩
    rw [List.mem_singleton.1 hx]
    rw [List.mem_reverse] at hq
    rcases CovD.le h.2 (CovD.mem hq) with e | e
    · subst e; exact h.1
    · exact ltP_trans e h.1
def lowL (l : List Pt) : List Pt := halfL (sortP l)
def upL (l : List Pt) : List Pt := halfL (sortP l).reverse
theorem lowL_asc (l : List Pt) : Asc (lowL l) := desc_asc (half_stk (sortP_asc l)).desc
theorem lowL_mem {l : List Pt} {p : Pt} : p ∈ lowL l ↔ p ∈ l ∧ LowOk (· ∈ l) p := by
  unfold lowL halfL
  rw [List.mem_reverse, (half_stk (sortP_asc l)).mem_iff]
  simp only [sortP_mem, LowOk]
theorem upL_neg (l : List Pt) : upL l = (lowL (l.map negP)).map negP := by
  have : (sortP l).reverse.map negP = sortP (l.map negP) := by
    refine asc_ext ?_ (sortP_asc _) fun q => ?_
    · unfold Asc
      rw [List.pairwise_map, List.pairwise_reverse]
      exact (sortP_asc l).imp fun h => negP_lt.2 h
    · rw [sortP_mem, List.mem_map, List.mem_map]
      constructor
      · rintro ⟨a, h, e⟩; exact ⟨a, sortP_mem.1 (List.mem_reverse.1 h), e⟩
      · rintro ⟨a, h, e⟩; exact ⟨a, List.mem_reverse.2 (sortP_mem.2 h), e⟩
  unfold upL lowL
  rw [← this, halfL_neg, List.map_map]
  have e : negP ∘ negP = id := funext fun p => negP_negP p
  rw [e, List.map_id]
theorem upL_mem {l : List Pt} {p : Pt} : p ∈ upL l ↔ p ∈ l ∧ UpOk (· ∈ l) p := by
  rw [upL_neg, List.mem_map]
  constructor
  · rintro ⟨q, hq, rfl⟩
    obtain ⟨h1, h2⟩ := lowL_mem.1 hq
    obtain ⟨r, hr, rfl⟩ := List.mem_map.1 h1
    rw [negP_negP]
    refine ⟨hr, fun a ha b hb hpa hbp => ?_⟩
    have := h2 (negP a) (List.mem_map.2 ⟨a, ha, rfl⟩) (negP b) (List.mem_map.2 ⟨b, hb, rfl⟩) (negP_lt.2 hpa) (negP_lt.2 hbp)
    rwa [negP_trn] at this
  · rintro ⟨h1, h2⟩
    refine ⟨negP p, lowL_mem.2 ⟨List.mem_map.2 ⟨p, h1, rfl⟩, fun a ha b hb hpa hbp => ?_⟩, negP_negP p⟩
    obtain ⟨a', ha', rfl⟩ := List.mem_map.1 ha
    obtain ⟨b', hb', rfl⟩ := List.mem_map.1 hb
    rw [negP_trn]
    exact h2 a' ha' b' hb' (negP_lt.1 hpa) (negP_lt.1 hbp)
def Dsc (s : List Pt) : Prop := s.Pairwise fun a b => ltP b a
theorem upL_dsc (l : List Pt) : Dsc (upL l) := by
  rw [upL_neg]
  unfold Dsc
  rw [List.pairwise_map]
  exact (lowL_asc _).imp fun h => negP_lt.2 h
theorem dsc_ext {l l' : List Pt} (h1 : Dsc l) (h2 : Dsc l') (h : ∀ q, q ∈ l ↔ q ∈ l') : l = l' := by
  have := asc_ext (l := l.reverse) (l' := l'.reverse) (List.pairwise_reverse.2 h1) (List.pairwise_reverse.2 h2) (fun q => by rw [List.mem_reverse, List.mem_reverse, h q])
  have := congrArg List.reverse this
  simpa using this
/-- The hull: counterclockwise from the least point on. -/
def hullOf (l : List Pt) : List Pt := if (sortP l).length < 2 then sortP l else (lowL l).dropLast ++ (upL l).dropLast
/-- A point of l that is no vertex below lies above a segment between two that are. -/
theorem low_cover {l : List Pt} {p : Pt} (hp : p ∈ l) (h : ¬ LowOk (· ∈ l) p) : ∃ u v, u ∈ lowL l ∧ v ∈ lowL l ∧ ltP u p ∧ ltP p v ∧ trn u p v ≤ 0 := by
  have st := half_stk (sortP_asc l)
  have hc := st.cov p (sortP_mem.2 hp)
  have key : ∀ {D : List Pt}, (∀ q ∈ D, q ∈ halfR [] (sortP l)) → CovD D p → p ∈ D ∨ ∃ u v, u ∈ lowL l ∧ v ∈ lowL l ∧ ltP u p ∧ ltP p v ∧ trn u p v ≤ 0 := by
    intro D hD hc
    induction D with
    | nil => exact hc.elim
    | cons x D ih =>
      cases D with
      | nil => exact .inl (by rw [show p = x from hc]; simp)
      | cons y D =>
        rcases hc with hc | hc | hc
        · subst hc; exact .inl (by simp)
        · exact .inr ⟨y, x, by unfold lowL halfL; rw [List.mem_reverse]; exact hD y (by simp), by unfold lowL halfL; rw [List.mem_reverse]; exact hD x (by simp), hc⟩
        · rcases ih (fun q hq => hD q (List.mem_cons_of_mem _ hq)) hc with h | h
          · exact .inl (List.mem_cons_of_mem _ h)
          · exact .inr h
  rcases key (fun q h => h) hc with h' | h'
  · exact absurd (lowL_mem.1 (by unfold lowL halfL; rw [List.mem_reverse]; exact h')).2 h
  · exact h'
theorem up_cover {l : List Pt} {p : Pt} (hp : p ∈ l) (h : ¬ UpOk (· ∈ l) p) : ∃ u v, u ∈ upL l ∧ v ∈ upL l ∧ ltP p u ∧ ltP v p ∧ trn u p v ≤ 0 := by
  have h' : ¬ LowOk (· ∈ l.map negP) (negP p) := fun hl => h fun a ha b hb hpa hbp => by
    have := hl (negP a) (List.mem_map.2 ⟨a, ha, rfl⟩) (negP b) (List.mem_map.2 ⟨b, hb, rfl⟩) (negP_lt.2 hpa) (negP_lt.2 hbp)
    rwa [negP_trn] at this
  obtain ⟨u, v, hu, hv, h1, h2, h3⟩ := low_cover (List.mem_map.2 ⟨p, hp, rfl⟩) h'
  refine ⟨negP u, negP v, by rw [upL_neg]; exact List.mem_map.2 ⟨u, hu, rfl⟩, by rw [upL_neg]; exact List.mem_map.2 ⟨v, hv, rfl⟩, ?_, ?_, ?_⟩
  · rw [← negP_lt, negP_negP]; exact h1
  · rw [← negP_lt, negP_negP]; exact h2
  · rw [← negP_trn, negP_negP, negP_negP]; exact h3
/-- Points between may be left out: both halves are the same. -/
theorem low_ext {l l' : List Pt} (h1 : ∀ q ∈ l', q ∈ l) (h2 : ∀ q ∈ lowL l, q ∈ l') : lowL l = lowL l' := by
  refine asc_ext (lowL_asc l) (lowL_asc l') fun q => ?_
  constructor
  · intro hq
    exact lowL_mem.2 ⟨h2 q hq, fun a ha b hb => (lowL_mem.1 hq).2 a (h1 a ha) b (h1 b hb)⟩
  · intro hq
    obtain ⟨g1, g2⟩ := lowL_mem.1 hq
    refine lowL_mem.2 ⟨h1 q g1, Classical.byContradiction fun hn => ?_⟩
    obtain ⟨u, v, hu, hv, k1, k2, k3⟩ := low_cover (h1 q g1) hn
    have := g2 u (h2 u hu) v (h2 v hv) k1 k2
    omega
theorem up_ext {l l' : List Pt} (h1 : ∀ q ∈ l', q ∈ l) (h2 : ∀ q ∈ upL l, q ∈ l') : upL l = upL l' := by
  refine dsc_ext (upL_dsc l) (upL_dsc l') fun q => ?_
  constructor
  · intro hq
    exact upL_mem.2 ⟨h2 q hq, fun a ha b hb => (upL_mem.1 hq).2 a (h1 a ha) b (h1 b hb)⟩
  · intro hq
    obtain ⟨g1, g2⟩ := upL_mem.1 hq
    refine upL_mem.2 ⟨h1 q g1, Classical.byContradiction fun hn => ?_⟩
    obtain ⟨u, v, hu, hv, k1, k2, k3⟩ := up_cover (h1 q g1) hn
    have := g2 u (h2 u hu) v (h2 v hv) k1 k2
    omega
/-- The least and the greatest point. -/
theorem asc_min {l : List Pt} (h : Asc l) (hn : l ≠ []) : ∃ m, m ∈ l ∧ l.head? = some m ∧ ∀ q ∈ l, q = m ∨ ltP m q := by
  cases l with
  | nil => exact absurd rfl hn
  | cons m r => exact ⟨m, by simp, rfl, fun q hq => by
      rcases List.mem_cons.1 hq with e | e
      · exact .inl e
      · exact .inr ((List.pairwise_cons.1 h).1 q e)⟩
theorem asc_max {l : List Pt} (h : Asc l) (hn : l ≠ []) : ∃ m, m ∈ l ∧ l.getLast? = some m ∧ ∀ q ∈ l, q = m ∨ ltP q m := by
  have hr : Asc (l.reverse.map negP) := by
    unfold Asc
    rw [List.pairwise_map, List.pairwise_reverse]
    exact List.Pairwise.imp (fun h => negP_lt.2 h) h
  obtain ⟨m, h1, h2, h3⟩ := asc_min hr (by simpa using hn)
  obtain ⟨m', hm', rfl⟩ := List.mem_map.1 h1
  rw [List.mem_reverse] at hm'
  refine ⟨m', hm', ?_, fun q hq => ?_⟩
  · rw [List.head?_map, List.head?_reverse] at h2
    cases hl : l.getLast? with
    | none => rw [hl] at h2; cases h2
    | some x =>
      rw [hl] at h2
      have : negP x = negP m' := Option.some.inj h2
      rw [show x = m' from by rw [← negP_negP x, this, negP_negP]]
  · rcases h3 (negP q) (List.mem_map.2 ⟨q, List.mem_reverse.2 hq, rfl⟩) with e | e
    · exact .inl (by rw [← negP_negP q, e, negP_negP])
    · exact .inr (negP_lt.1 e)
theorem ne_sort {l : List Pt} (h : l ≠ []) : sortP l ≠ [] := by
  cases l with
  | nil => exact absurd rfl h
  | cons a r => intro e; have : a ∈ sortP (a :: r) := sortP_mem.2 (by simp); rw [e] at this; cases this
theorem set_min {l : List Pt} (h : l ≠ []) : ∃ m ∈ l, ∀ q ∈ l, q = m ∨ ltP m q := by
  obtain ⟨m, h1, _, h3⟩ := asc_min (sortP_asc l) (ne_sort h)
  exact ⟨m, sortP_mem.1 h1, fun q hq => h3 q (sortP_mem.2 hq)⟩
theorem set_max {l : List Pt} (h : l ≠ []) : ∃ m ∈ l, ∀ q ∈ l, q = m ∨ ltP q m := by
  obtain ⟨m, h1, _, h3⟩ := asc_max (sortP_asc l) (ne_sort h)
  exact ⟨m, sortP_mem.1 h1, fun q hq => h3 q (sortP_mem.2 hq)⟩
theorem min_low {l : List Pt} {m : Pt} (h : m ∈ l) (hm : ∀ q ∈ l, q = m ∨ ltP m q) : m ∈ lowL l ∧ m ∈ upL l := by
  refine ⟨lowL_mem.2 ⟨h, fun a ha b hb h1 h2 => ?_⟩, upL_mem.2 ⟨h, fun a ha b hb h1 h2 => ?_⟩⟩
  · rcases hm a ha with e | e
    · subst e; exact absurd h1 (ltP_irr _)
    · exact absurd h1 (ltP_asymm e)
  · rcases hm b hb with e | e
    · subst e; exact absurd h2 (ltP_irr _)
    · exact absurd h2 (ltP_asymm e)
theorem max_low {l : List Pt} {m : Pt} (h : m ∈ l) (hm : ∀ q ∈ l, q = m ∨ ltP q m) : m ∈ lowL l ∧ m ∈ upL l := by
  refine ⟨lowL_mem.2 ⟨h, fun a ha b hb h1 h2 => ?_⟩, upL_mem.2 ⟨h, fun a ha b hb h1 h2 => ?_⟩⟩
  · rcases hm b hb with e | e
    · subst e; exact absurd h2 (ltP_irr _)
    · exact absurd h2 (ltP_asymm e)
  · rcases hm a ha with e | e
    · subst e; exact absurd h1 (ltP_irr _)
    · exact absurd h1 (ltP_asymm e)
theorem mem_dropLast {l : List Pt} {x q : Pt} (hl : l.getLast? = some x) : q ∈ l ↔ q ∈ l.dropLast ∨ q = x := by
  have : l = l.dropLast ++ [x] := by
    obtain ⟨hne, h2⟩ := List.getLast?_eq_some_iff.1 hl
    rw [h2]; simp
  rw [show (q ∈ l) = (q ∈ l.dropLast ++ [x]) from by rw [← this], List.mem_append, List.mem_singleton]
theorem last_of {l : List Pt} (h : Asc l) {m : Pt} (hm : m ∈ l) (hx : ∀ q ∈ l, q = m ∨ ltP q m) : l.getLast? = some m := by
  obtain ⟨x, h1, h2, h3⟩ := asc_max h (by intro e; subst e; cases hm)
  rcases h3 m hm with e | e
  · rw [e]; exact h2
  · rcases hx x h1 with e' | e'
    · rw [← e']; exact h2
    · exact absurd e (ltP_asymm e')
theorem last_of_d {l : List Pt} (h : Dsc l) {m : Pt} (hm : m ∈ l) (hx : ∀ q ∈ l, q = m ∨ ltP m q) : l.getLast? = some m := by
  have hr : Asc l.reverse := List.pairwise_reverse.2 h
  obtain ⟨x, h1, h2, h3⟩ := asc_min hr (by intro e; have := List.reverse_eq_nil_iff.1 e; subst this; cases hm)
  rw [List.head?_reverse] at h2
  rcases h3 m (List.mem_reverse.2 hm) with e | e
  · rw [e]; exact h2
  · rcases hx x (List.mem_reverse.1 h1) with e' | e'
    · rw [← e']; exact h2
    · exact absurd e (ltP_asymm e')
theorem sort_two {l : List Pt} {a b : Pt} (ha : a ∈ l) (hb : b ∈ l) (h : a ≠ b) : 2 ≤ (sortP l).length := by
  have h1 := sortP_mem.2 ha
  have h2 := sortP_mem.2 hb
  match hs : sortP l, h1, h2 with
  | [], h1, _ => cases h1
  | [x], h1, h2 => exact absurd ((List.mem_singleton.1 h1).trans (List.mem_singleton.1 h2).symm) h
  | x :: y :: r, _, _ => simp
theorem two_of_sort {l : List Pt} (h : 2 ≤ (sortP l).length) : ∃ a b, a ∈ l ∧ b ∈ l ∧ ltP a b := by
  match hs : sortP l, h with
  | x :: y :: r, _ =>
    have := sortP_asc l
    rw [hs] at this
    exact ⟨x, y, sortP_mem.1 (by rw [hs]; simp), sortP_mem.1 (by rw [hs]; simp), (List.pairwise_cons.1 this).1 y (by simp)⟩
/-- Who is a vertex. -/
theorem hullOf_mem {l : List Pt} {q : Pt} : q ∈ hullOf l ↔ q ∈ lowL l ∨ q ∈ upL l := by
  unfold hullOf
  by_cases hl : l = []
  · subst hl; simp [sortP, lowL, upL, halfL, halfR]
  obtain ⟨mn, hmn, hmin⟩ := set_min hl
  obtain ⟨mx, hmx, hmax⟩ := set_max hl
  by_cases h : (sortP l).length < 2
  · rw [if_pos h, sortP_mem]
    have one : ∀ a ∈ l, a = mn := fun a ha => Decidable.byContradiction fun hne => by have := sort_two ha hmn hne; omega
    constructor
    · intro hq
      have := one q hq
      subst this
      exact .inl (min_low hmn hmin).1
    · rintro (hq | hq)
      · exact (lowL_mem.1 hq).1
      · exact (upL_mem.1 hq).1
  · rw [if_neg h, List.mem_append]
    obtain ⟨a, b, ha, hb, hab⟩ := two_of_sort (l := l) (by omega)
    have hne : mn ≠ mx := by
      intro e
      subst e
      rcases hmin b hb with e | e
      · subst e
        rcases hmin a ha with e | e
        · subst e; exact ltP_irr _ hab
        · exact ltP_asymm hab e
      · rcases hmax b hb with e' | e'
        · subst e'; exact ltP_irr _ e
        · exact ltP_asymm e e'
    have L := last_of (lowL_asc l) (max_low hmx hmax).1 (fun q hq => hmax q (lowL_mem.1 hq).1)
    have U := last_of_d (upL_dsc l) (min_low hmn hmin).2 (fun q hq => hmin q (upL_mem.1 hq).1)
    rw [mem_dropLast L, mem_dropLast U]
    have m1 := (mem_dropLast (q := mn) L).1 (min_low hmn hmin).1
    have m2 := (mem_dropLast (q := mx) U).1 (max_low hmx hmax).2
    constructor
    · rintro (h | h)
      · exact .inl (.inl h)
      · exact .inr (.inl h)
    · rintro ((h | h) | (h | h))
      · exact .inl h
      · subst h
        rcases m2 with h | h
        · exact .inr h
        · exact absurd h.symm hne
      · exact .inr h
      · subst h
        rcases m1 with h | h
        · exact .inl h
        · exact absurd h hne
theorem hullOf_sub {l : List Pt} {q : Pt} (h : q ∈ hullOf l) : q ∈ l := by
  rcases hullOf_mem.1 h with h | h
  · exact (lowL_mem.1 h).1
  · exact (upL_mem.1 h).1
/-- Two lists with one another's vertices have one hull. -/
theorem hull_ext {l l' : List Pt} (h1 : ∀ q ∈ l', q ∈ l) (h2 : ∀ q ∈ hullOf l, q ∈ l') : hullOf l = hullOf l' := by
  have e1 := low_ext h1 (fun q hq => h2 q (hullOf_mem.2 (.inl hq)))
  have e2 := up_ext h1 (fun q hq => h2 q (hullOf_mem.2 (.inr hq)))
  by_cases hl : l = []
  · subst hl
    have : l' = [] := List.eq_nil_iff_forall_not_mem.2 fun q hq => by have := h1 q hq; cases this
    rw [this]
  obtain ⟨mn, hmn, hmin⟩ := set_min hl
  obtain ⟨mx, hmx, hmax⟩ := set_max hl
  have i1 := h2 mn (hullOf_mem.2 (.inl (min_low hmn hmin).1))
  have i2 := h2 mx (hullOf_mem.2 (.inl (max_low hmx hmax).1))
  unfold hullOf
  by_cases h : (sortP l).length < 2
  · have one : ∀ a ∈ l, a = mn := fun a ha => Decidable.byContradiction fun hne => by have := sort_two ha hmn hne; omega
    have : sortP l = sortP l' := sortP_ext fun q => ⟨fun hq => by rw [one q hq]; exact i1, h1 q⟩
    rw [← this, if_pos h, if_pos h]
  · have hne : mn ≠ mx := by
      obtain ⟨a, b, ha, hb, hab⟩ := two_of_sort (l := l) (by omega)
      intro e
      subst e
      rcases hmin b hb with e | e
      · subst e
        rcases hmin a ha with e | e
        · subst e; exact ltP_irr _ hab
        · exact ltP_asymm hab e
      · rcases hmax b hb with e' | e'
        · subst e'; exact ltP_irr _ e
        · exact ltP_asymm e e'
    have := sort_two i1 i2 hne
    rw [if_neg h, if_neg (by omega), e1, e2]
theorem hull_set {l l' : List Pt} (h : ∀ q, q ∈ l ↔ q ∈ l') : hullOf l = hullOf l' := hull_ext (fun q hq => (h q).2 hq) (fun q hq => (h q).1 (hullOf_sub hq))
theorem hull_hull (l : List Pt) : hullOf (hullOf l) = hullOf l := (hull_ext (l := l) (l' := hullOf l) (fun q hq => hullOf_sub hq) (fun q hq => hq)).symm
end Go.Proofs.Ytelhidonhldjeaa
