/- Hulls of sums, of moved and doubled points; how far hulls are in a direction; how many vertices they have. No program in sight. -/
import Derived.Test.YtelhidonhldjeaaHullS
set_option linter.unusedVariables false
set_option linter.unusedSimpArgs false
namespace Go.Proofs.Ytelhidonhldjeaa
open Go.RowKit

def addP (p q : Pt) : Pt := ⟨p.x + q.x, p.y + q.y⟩
def sumsL (a b : List Pt) : List Pt := a.flatMap fun p => b.map fun q => addP p q
theorem sumsL_mem {a b : List Pt} {r : Pt} : r ∈ sumsL a b ↔ ∃ p q, p ∈ a ∧ q ∈ b ∧ r = addP p q := by
  unfold sumsL
  rw [List.mem_flatMap]
  constructor
  · rintro ⟨p, hp, h⟩
    obtain ⟨q, hq, rfl⟩ := List.mem_map.1 h
    exact ⟨p, q, hp, hq, rfl⟩
  · rintro ⟨p, q, hp, hq, rfl⟩
    exact ⟨p, hp, List.mem_map.2 ⟨q, hq, rfl⟩⟩
theorem addP_lt_r {a b : Pt} (c : Pt) (h : ltP a b) : ltP (addP a c) (addP b c) := by unfold ltP addP at *; simp; omega
theorem addP_lt_l {a b : Pt} (c : Pt) (h : ltP a b) : ltP (addP c a) (addP c b) := by unfold ltP addP at *; simp; omega
theorem addP_trn_r (a b c t : Pt) : trn (addP a t) (addP b t) (addP c t) = trn a b c := by unfold trn addP; grind
theorem addP_trn_l (a b c t : Pt) : trn (addP t a) (addP t b) (addP t c) = trn a b c := by unfold trn addP; grind
theorem addP_comm (a b : Pt) : addP a b = addP b a := by unfold addP; rw [Int.add_comm a.x, Int.add_comm a.y]
/-- A lower vertex of the sums is a sum of lower vertices. -/
theorem sum_low {a b : List Pt} {r : Pt} (h : r ∈ lowL (sumsL a b)) : ∃ p q, p ∈ lowL a ∧ q ∈ lowL b ∧ r = addP p q := by
  obtain ⟨h1, h2⟩ := lowL_mem.1 h
  obtain ⟨p, q, hp, hq, rfl⟩ := sumsL_mem.1 h1
  refine ⟨p, q, lowL_mem.2 ⟨hp, fun x hx y hy h3 h4 => ?_⟩, lowL_mem.2 ⟨hq, fun x hx y hy h3 h4 => ?_⟩, rfl⟩
  · have := h2 (addP x q) (sumsL_mem.2 ⟨x, q, hx, hq, rfl⟩) (addP y q) (sumsL_mem.2 ⟨y, q, hy, hq, rfl⟩) (addP_lt_r q h3) (addP_lt_r q h4)
    rwa [addP_trn_r] at this
  · have := h2 (addP p x) (sumsL_mem.2 ⟨p, x, hp, hx, rfl⟩) (addP p y) (sumsL_mem.2 ⟨p, y, hp, hy, rfl⟩) (addP_lt_l p h3) (addP_lt_l p h4)
    rwa [addP_trn_l] at this
theorem sum_up {a b : List Pt} {r : Pt} (h : r ∈ upL (sumsL a b)) : ∃ p q, p ∈ upL a ∧ q ∈ upL b ∧ r = addP p q := by
  obtain ⟨h1, h2⟩ := upL_mem.1 h
  obtain ⟨p, q, hp, hq, rfl⟩ := sumsL_mem.1 h1
  refine ⟨p, q, upL_mem.2 ⟨hp, fun x hx y hy h3 h4 => ?_⟩, upL_mem.2 ⟨hq, fun x hx y hy h3 h4 => ?_⟩, rfl⟩
  · have := h2 (addP x q) (sumsL_mem.2 ⟨x, q, hx, hq, rfl⟩) (addP y q) (sumsL_mem.2 ⟨y, q, hy, hq, rfl⟩) (addP_lt_r q h3) (addP_lt_r q h4)
    rwa [addP_trn_r] at this
  · have := h2 (addP p x) (sumsL_mem.2 ⟨p, x, hp, hx, rfl⟩) (addP p y) (sumsL_mem.2 ⟨p, y, hp, hy, rfl⟩) (addP_lt_l p h3) (addP_lt_l p h4)
    rwa [addP_trn_l] at this
/-- The hull of the sums is that of the sums of the vertices. -/
theorem hull_sums (a b : List Pt) : hullOf (sumsL a b) = hullOf (sumsL (hullOf a) (hullOf b)) := by
  refine hull_ext (fun q hq => ?_) (fun q hq => ?_)
  · obtain ⟨x, y, hx, hy, rfl⟩ := sumsL_mem.1 hq
    exact sumsL_mem.2 ⟨x, y, hullOf_sub hx, hullOf_sub hy, rfl⟩
  · rcases hullOf_mem.1 hq with h | h
    · obtain ⟨x, y, hx, hy, rfl⟩ := sum_low h
      exact sumsL_mem.2 ⟨x, y, hullOf_mem.2 (.inl hx), hullOf_mem.2 (.inl hy), rfl⟩
    · obtain ⟨x, y, hx, hy, rfl⟩ := sum_up h
      exact sumsL_mem.2 ⟨x, y, hullOf_mem.2 (.inr hx), hullOf_mem.2 (.inr hy), rfl⟩
theorem hull_sums_comm (a b : List Pt) : hullOf (sumsL a b) = hullOf (sumsL b a) := hull_set fun q => by
  rw [sumsL_mem, sumsL_mem]
  constructor
  · rintro ⟨x, y, hx, hy, rfl⟩; exact ⟨y, x, hy, hx, addP_comm _ _⟩
  · rintro ⟨x, y, hx, hy, rfl⟩; exact ⟨y, x, hy, hx, addP_comm _ _⟩

/-! ### maps that keep order and turns -/
structure Keeps (f : Pt → Pt) : Prop where
  lt : ∀ a b, ltP (f a) (f b) ↔ ltP a b
  trn : ∀ a b c, 0 < trn (f a) (f b) (f c) ↔ 0 < trn a b c
theorem Keeps.inj {f : Pt → Pt} (h : Keeps f) {a b : Pt} (e : f a = f b) : a = b := by
  rcases ltP_tri a b with h1 | h1 | h1
  · have := (h.lt a b).2 h1; rw [e] at this; exact absurd this (ltP_irr _)
  · exact h1
  · have := (h.lt b a).2 h1; rw [e] at this; exact absurd this (ltP_irr _)
theorem asc_map {f : Pt → Pt} (h : Keeps f) {l : List Pt} (hl : Asc l) : Asc (l.map f) := by
  unfold Asc; rw [List.pairwise_map]; exact hl.imp fun {a b} hab => (h.lt a b).2 hab
theorem sortP_map {f : Pt → Pt} (h : Keeps f) (l : List Pt) : sortP (l.map f) = (sortP l).map f :=
  asc_ext (sortP_asc _) (asc_map h (sortP_asc l)) fun q => by
    rw [sortP_mem, List.mem_map, List.mem_map]
    constructor
    · rintro ⟨a, ha, e⟩; exact ⟨a, sortP_mem.2 ha, e⟩
    · rintro ⟨a, ha, e⟩; exact ⟨a, sortP_mem.1 ha, e⟩
theorem popTo_map {f : Pt → Pt} (h : Keeps f) (p : Pt) : ∀ st : List Pt, popTo (f p) (st.map f) = (popTo p st).map f
  | [] => rfl
  | [a] => rfl
  | t :: u :: r => by
    have ih := popTo_map h p (u :: r)
    have ht := h.trn u t p
    simp only [List.map_cons, popTo] at ih ⊢
    by_cases hh : trn u t p ≤ 0
    · rw [if_pos hh, if_pos (by omega)]; exact ih
    · rw [if_neg hh, if_neg (by omega)]; rfl
theorem halfR_map {f : Pt → Pt} (h : Keeps f) : ∀ (ps st : List Pt), halfR (st.map f) (ps.map f) = (halfR st ps).map f
  | [], st => rfl
  | p :: ps, st => by rw [List.map_cons, halfR, halfR, popTo_map h, ← List.map_cons, halfR_map h ps]
theorem halfL_map {f : Pt → Pt} (h : Keeps f) (s : List Pt) : halfL (s.map f) = (halfL s).map f := by
  unfold halfL
  have hh := halfR_map h s []
  rw [List.map_nil] at hh
  rw [hh, List.map_reverse]
theorem hull_map {f : Pt → Pt} (h : Keeps f) (l : List Pt) : hullOf (l.map f) = (hullOf l).map f := by
  unfold hullOf lowL upL
  rw [sortP_map h, ← List.map_reverse, halfL_map h, halfL_map h, List.length_map]
  split
  · rfl
  · rw [List.map_append, ← List.map_dropLast, ← List.map_dropLast]
theorem keeps_add (t : Pt) : Keeps fun p => addP p t := ⟨fun a b => by unfold ltP addP; simp, fun a b c => by rw [addP_trn_r]⟩
def dblP (p : Pt) : Pt := ⟨2 * p.x, 2 * p.y⟩
theorem dbl_trn (a b c : Pt) : trn (dblP a) (dblP b) (dblP c) = 4 * trn a b c := by unfold trn dblP; grind
theorem keeps_dbl : Keeps dblP := ⟨fun a b => by unfold ltP dblP; simp; omega, fun a b c => by rw [dbl_trn]; omega⟩
theorem sums_one (a : List Pt) (t : Pt) : sumsL a [t] = a.map fun p => addP p t := by
  unfold sumsL
  induction a with
  | nil => rfl
  | cons p a ih => rw [List.flatMap_cons, ih]; rfl
theorem hull_move (a : List Pt) (t : Pt) : hullOf (sumsL a [t]) = (hullOf a).map fun p => addP p t := by rw [sums_one, hull_map (keeps_add t)]
theorem mid_trn (a b : Pt) : trn (dblP a) (addP a b) (dblP b) = 0 := by unfold trn dblP addP; grind
theorem dbl_add {a b : Pt} (h : ltP a b) : ltP (dblP a) (addP a b) ∧ ltP (addP a b) (dblP b) := by unfold ltP dblP addP at *; simp; omega
theorem add_self (a : Pt) : addP a a = dblP a := by unfold addP dblP; rw [show a.x + a.x = 2 * a.x from by omega, show a.y + a.y = 2 * a.y from by omega]
/-- Points added to themselves: their hull is the doubled one. -/
theorem hull_self (a : List Pt) : hullOf (sumsL a a) = (hullOf a).map dblP := by
  rw [← hull_map keeps_dbl]
  refine hull_ext (fun q hq => ?_) (fun q hq => ?_)
  · obtain ⟨p, hp, rfl⟩ := List.mem_map.1 hq
    exact sumsL_mem.2 ⟨p, p, hp, hp, (add_self p).symm⟩
  · obtain ⟨p, r, hp, hr, rfl⟩ := sumsL_mem.1 (hullOf_sub hq)
    have dm : ∀ x ∈ a, dblP x ∈ sumsL a a := fun x hx => sumsL_mem.2 ⟨x, x, hx, hx, (add_self x).symm⟩
    have eq : p = r := by
      rcases ltP_tri p r with h | h | h
      · obtain ⟨h1, h2⟩ := dbl_add h
        rcases hullOf_mem.1 hq with hh | hh
        · have := (lowL_mem.1 hh).2 _ (dm p hp) _ (dm r hr) h1 h2
          rw [mid_trn] at this; omega
        · have := (upL_mem.1 hh).2 _ (dm r hr) _ (dm p hp) h2 h1
          have e : trn (dblP r) (addP p r) (dblP p) = 0 := by rw [addP_comm]; exact mid_trn r p
          omega
      · exact h
      · obtain ⟨h1, h2⟩ := dbl_add h
        rw [addP_comm] at h1 h2
        rcases hullOf_mem.1 hq with hh | hh
        · have := (lowL_mem.1 hh).2 _ (dm r hr) _ (dm p hp) h1 h2
          have e : trn (dblP r) (addP p r) (dblP p) = 0 := by rw [addP_comm]; exact mid_trn r p
          omega
        · have := (upL_mem.1 hh).2 _ (dm p hp) _ (dm r hr) h2 h1
          have e : trn (dblP p) (addP p r) (dblP r) = 0 := mid_trn p r
          omega
    subst eq
    exact List.mem_map.2 ⟨p, hp, (add_self p).symm⟩

/-! ### how many vertices -/
theorem low_up {l : List Pt} {p a b : Pt} (h1 : p ∈ lowL l) (h2 : p ∈ upL l) (ha : a ∈ l) (hb : b ∈ l) (hap : ltP a p) (hpb : ltP p b) : False := by
  have g1 := (lowL_mem.1 h1).2 a ha b hb hap hpb
  have g2 := (upL_mem.1 h2).2 b hb a ha hpb hap
  have e : trn b p a = -trn a p b := by unfold trn; grind
  omega
theorem dsc_nodup {l : List Pt} (h : Dsc l) : l.Nodup := List.Pairwise.imp (S := fun a b : Pt => a ≠ b) (fun {a b} hab => (ltP_ne hab).symm) h
theorem hullOf_nodup (l : List Pt) : (hullOf l).Nodup := by
  unfold hullOf
  by_cases h : (sortP l).length < 2
  · rw [if_pos h]; exact asc_nodup (sortP_asc l)
  · rw [if_neg h]
    have hl : l ≠ [] := by intro e; subst e; simp [sortP] at h
    obtain ⟨mn, hmn, hmin⟩ := set_min hl
    obtain ⟨mx, hmx, hmax⟩ := set_max hl
    have L := last_of (lowL_asc l) (max_low hmx hmax).1 (fun q hq => hmax q (lowL_mem.1 hq).1)
    have U := last_of_d (upL_dsc l) (min_low hmn hmin).2 (fun q hq => hmin q (upL_mem.1 hq).1)
    refine List.nodup_append.2 ⟨?_, ?_, fun p hp q hq e => ?_⟩
    · exact ((asc_nodup (lowL_asc l)).sublist (List.dropLast_sublist _))
    · have : (upL l).Nodup := dsc_nodup (upL_dsc l)
      exact this.sublist (List.dropLast_sublist _)
    · subst e
      have hp' := (mem_dropLast (q := p) L).2 (.inl hp)
      have hq' := (mem_dropLast (q := p) U).2 (.inl hq)
      have n1 : p ≠ mx := by
        intro e; subst e
        have nd := asc_nodup (lowL_asc l)
        obtain ⟨hne, h2⟩ := List.getLast?_eq_some_iff.1 L
        rw [h2] at nd hp
        simp at hp
        have := (List.nodup_append.1 nd).2.2 _ hp _ (List.mem_singleton.2 rfl)
        exact this rfl
      have n2 : p ≠ mn := by
        intro e; subst e
        have nd : (upL l).Nodup := dsc_nodup (upL_dsc l)
        obtain ⟨hne, h2⟩ := List.getLast?_eq_some_iff.1 U
        rw [h2] at nd hq
        simp at hq
        have := (List.nodup_append.1 nd).2.2 _ hq _ (List.mem_singleton.2 rfl)
        exact this rfl
      have hpl := (lowL_mem.1 hp').1
      have k1 : ltP mn p := (hmin p hpl).resolve_left n2
      have k2 : ltP p mx := (hmax p hpl).resolve_left n1
      exact low_up hp' hq' hmn hmx k1 k2
theorem nodup_len : ∀ {l l' : List Pt}, l.Nodup → (∀ q ∈ l, q ∈ l') → l.length ≤ l'.length
  | [], _, _, _ => by simp
  | a :: r, l', h, hs => by
    have h' := List.nodup_cons.1 h
    have := nodup_len (l := r) (l' := l'.erase a) h'.2 (fun q hq => (List.mem_erase_of_ne (fun e => by subst e; exact h'.1 hq)).2 (hs q (by simp [hq])))
    have hm := hs a (by simp)
    rw [List.length_erase_of_mem hm] at this
    have : 0 < l'.length := List.length_pos_of_mem hm
    simp; omega
theorem hullOf_len (l : List Pt) : (hullOf l).length ≤ (sortP l).length := nodup_len (hullOf_nodup l) fun q hq => sortP_mem.2 (hullOf_sub hq)
theorem hullOf_len' (l : List Pt) : (hullOf l).length ≤ l.length := Nat.le_trans (hullOf_len l) (sortP_len l)

/-! ### how far in a direction -/
def dotP (p : Pt) (x y : Int) : Int := p.x * x + p.y * y
theorem seg_far {u p v : Pt} {x y : Int} (h1 : ltP u p) (h2 : ltP p v) (ht : trn u p v ≤ 0) (hy : y ≤ 0) : dotP p x y ≤ dotP u x y ∨ dotP p x y ≤ dotP v x y := by
  refine Decidable.byContradiction fun hn => ?_
  have n1 : dotP u x y < dotP p x y := by omega
  have n2 : dotP v x y < dotP p x y := by omega
  clear hn
  have key : (v.x - u.x) * dotP p x y = (v.x - p.x) * dotP u x y + (p.x - u.x) * dotP v x y + -y * trn u p v := by unfold dotP trn; grind
  have e1 : 0 ≤ p.x - u.x := by unfold ltP at h1; omega
  have e2 : 0 ≤ v.x - p.x := by unfold ltP at h2; omega
  have k := Int.mul_nonpos_of_nonneg_of_nonpos (show 0 ≤ -y by omega) ht
  by_cases hx : 0 < v.x - u.x
  · have a1 : (v.x - p.x) * dotP u x y ≤ (v.x - p.x) * dotP p x y := Int.mul_le_mul_of_nonneg_left (by omega) e2
    have a2 : (p.x - u.x) * dotP v x y ≤ (p.x - u.x) * dotP p x y := Int.mul_le_mul_of_nonneg_left (by omega) e1
    have e : (v.x - u.x) * dotP p x y = (v.x - p.x) * dotP p x y + (p.x - u.x) * dotP p x y := by grind
    by_cases hx1 : 0 < p.x - u.x
    · have : (p.x - u.x) * dotP v x y < (p.x - u.x) * dotP p x y := Int.mul_lt_mul_of_pos_left (by omega) hx1
      omega
    · have : (v.x - p.x) * dotP u x y < (v.x - p.x) * dotP p x y := Int.mul_lt_mul_of_pos_left (by omega) (by omega)
      omega
  · have hpx : p.x = u.x := by omega
    have hpy : u.y < p.y := by unfold ltP at h1; omega
    have : (p.y - u.y) * y ≤ 0 := Int.mul_nonpos_of_nonneg_of_nonpos (by omega) hy
    have e : dotP p x y = dotP u x y + (p.y - u.y) * y := by unfold dotP; rw [hpx]; grind
    omega
theorem dotP_neg (p : Pt) (x y : Int) : dotP (negP p) (-x) (-y) = dotP p x y := by unfold dotP negP; grind
/-- Some vertex is as far as p. -/
theorem hull_far {l : List Pt} {p : Pt} (hp : p ∈ l) (x y : Int) : ∃ v, v ∈ hullOf l ∧ dotP p x y ≤ dotP v x y := by
  by_cases hy : y ≤ 0
  · by_cases h : LowOk (· ∈ l) p
    · exact ⟨p, hullOf_mem.2 (.inl (lowL_mem.2 ⟨hp, h⟩)), Int.le_refl _⟩
    · obtain ⟨u, v, hu, hv, k1, k2, k3⟩ := low_cover hp h
      rcases seg_far (x := x) k1 k2 k3 hy with g | g
      · exact ⟨u, hullOf_mem.2 (.inl hu), g⟩
      · exact ⟨v, hullOf_mem.2 (.inl hv), g⟩
  · by_cases h : UpOk (· ∈ l) p
    · exact ⟨p, hullOf_mem.2 (.inr (upL_mem.2 ⟨hp, h⟩)), Int.le_refl _⟩
    · obtain ⟨u, v, hu, hv, k1, k2, k3⟩ := up_cover hp h
      have := seg_far (x := -x) (y := -y) (negP_lt.2 k1) (negP_lt.2 k2) (by rw [negP_trn]; exact k3) (by omega)
      rw [dotP_neg, dotP_neg, dotP_neg] at this
      rcases this with g | g
      · exact ⟨u, hullOf_mem.2 (.inr hu), g⟩
      · exact ⟨v, hullOf_mem.2 (.inr hv), g⟩
end Go.Proofs.Ytelhidonhldjeaa
