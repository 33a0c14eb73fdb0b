
/- Areas of hulls, in plain words: two sets of points that a point parts, in order, have hulls whose areas add up to no more than that of the hull of both; a hull of sums is at least as large as both hulls. No program in sight. -/
import Derived.Test.YtoendanihhocjaaMkM
set_option linter.unusedVariables false
set_option linter.unusedSimpArgs false
namespace Go.Proofs.Ytoendanihhocjaa
open Go.RowKit

/-- The sum of the outer products along a chain. -/
def chA : List Pt → Int
  | a :: b :: r => crP a b + chA (b :: r)
  | _ => 0
theorem chA_app : ∀ (l : List Pt) (c : Pt) (r : List Pt), chA (l ++ c :: r) = chA (l ++ [c]) + chA (c :: r)
  | [], c, r => by simp [chA]
  | [a], c, r => by simp [chA]
  | a :: b :: l, c, r => by
    have ih := chA_app (b :: l) c r
    simp only [List.cons_append] at ih ⊢
    rw [chA, chA, ih]; omega
theorem trn_crP (u t p : Pt) : trn u t p = crP u t + crP t p - crP u p := by unfold trn crP; grind
theorem crP_anti (a b : Pt) : crP a b = -crP b a := by unfold crP; grind
theorem chA_rev : ∀ l : List Pt, chA l.reverse = -chA l
  | [] => by simp [chA]
  | [a] => by simp [chA]
  | a :: b :: l => by
    have ih := chA_rev (b :: l)
    rw [List.reverse_cons, List.reverse_cons, List.append_assoc]
    show chA (l.reverse ++ b :: [a]) = _
    rw [chA_app, ← List.reverse_cons, ih, chA, chA]
    have := crP_anti a b
    simp only [chA]
    omega
/-- Points that are left out by the half of the hull add to the sum. -/
theorem pop_chA (p : Pt) : ∀ st : List Pt, chA (p :: st) ≥ chA (p :: popTo p st)
  | [] => by simp [popTo]
  | [a] => by simp [popTo]
  | a :: b :: r => by
    rw [popTo]
    split
    · rename_i h
      have ih := pop_chA p (b :: r)
      have ht := trn_crP b a p
      have h1 := crP_anti p b
      have h2 := crP_anti a b
      have h3 := crP_anti p a
      simp only [chA] at ih ⊢
      have e1 : chA (p :: b :: r) = crP p b + chA (b :: r) := by rw [chA]
      have e2 : chA (p :: a :: b :: r) = crP p a + (crP a b + chA (b :: r)) := by rw [chA, chA]
      have ih2 : chA (p :: popTo p (b :: r)) ≤ chA (p :: b :: r) := ih
      omega
    · exact Int.le_refl _
theorem halfR_chA : ∀ (ps st : List Pt), chA (halfR st ps) ≤ chA (ps.reverse ++ st)
  | [], st => by simp [halfR]
  | p :: ps, st => by
    rw [halfR]
    have ih := halfR_chA ps (p :: popTo p st)
    refine Int.le_trans ih ?_
    rw [List.reverse_cons, List.append_assoc]
    show chA (ps.reverse ++ p :: popTo p st) ≤ chA (ps.reverse ++ p :: st)
    rw [chA_app, chA_app ps.reverse p st]
    have := pop_chA p st
    omega
/-- The sum along the lower half is at least that along all points. -/
theorem halfL_chA (s : List Pt) : chA s ≤ chA (halfL s) := by
  have h := halfR_chA s []
  rw [List.append_nil, chA_rev] at h
  unfold halfL
  rw [chA_rev]
  omega
theorem ins_chA {s : Pt → Prop} {l : Pt} (hl : LowOk s l) : ∀ {r : List Pt} {a : Pt}, (∀ q ∈ a :: r, s q) → (a = l ∨ ltP a l) → (∃ b, b ∈ a :: r ∧ (b = l ∨ ltP l b)) → chA (a :: r) ≤ chA (insP l (a :: r))
  | r, a, hs, ha, hb => by
    rcases ha with rfl | ha
    · rw [insP, if_neg (ltP_irr _), if_pos rfl]; exact Int.le_refl _
    · rw [insP, if_pos ha]
      match r, hs, hb with
      | [], hs, hb =>
        obtain ⟨b, hb, h⟩ := hb
        rw [List.mem_singleton.1 hb] at h
        rcases h with rfl | h
        · exact absurd ha (ltP_irr _)
        · exact absurd h (ltP_asymm ha)
      | b :: r, hs, hb =>
        rcases ltP_tri b l with h | h | h
        · have ih := ins_chA hl (r := r) (a := b) (fun q hq => hs q (List.mem_cons_of_mem _ hq)) (.inr h) (by
            obtain ⟨q, hq, h2⟩ := hb
            rcases List.mem_cons.1 hq with rfl | hq
            · exfalso
              rcases h2 with rfl | h2
              · exact ltP_irr _ ha
              · exact ltP_asymm ha h2
            · exact ⟨q, hq, h2⟩)
          have e : ∃ r', insP l (b :: r) = b :: r' := ⟨insP l r, by rw [insP, if_pos h]⟩
          obtain ⟨r', e⟩ := e
          rw [e] at ih ⊢
          rw [chA, chA]
          omega
        · rw [insP, h, if_neg (ltP_irr _), if_pos rfl]
          exact Int.le_refl _
        · rw [insP, if_neg (ltP_asymm h), if_neg (fun e => ltP_irr _ (e ▸ h))]
          have := hl a (hs a (by simp)) b (hs b (by simp)) ha h
          rw [trn_crP] at this
          rw [chA, chA, chA]
          omega
theorem fold_chA {Z : List Pt} {m M : Pt} (hm : ∀ q ∈ Z, q = m ∨ ltP m q) (hM : ∀ q ∈ Z, q = M ∨ ltP q M) : ∀ (K C : List Pt), (∀ k ∈ K, k ∈ Z ∧ LowOk (· ∈ Z) k) → Asc C → (∀ q ∈ C, q ∈ Z) → m ∈ C → M ∈ C →
    ∃ D, Asc D ∧ (∀ q ∈ D, q ∈ Z) ∧ (∀ k ∈ K, k ∈ D) ∧ (∀ q ∈ C, q ∈ D) ∧ chA C ≤ chA D
  | [], C, _, h1, h2, _, _ => ⟨C, h1, h2, fun _ h => (List.not_mem_nil h).elim, fun _ h => h, Int.le_refl _⟩
  | k :: K, C, hK, h1, h2, h3, h4 => by
    obtain ⟨kz, kl⟩ := hK k (by simp)
    obtain ⟨D, d1, d2, d3, d4, d5⟩ := fold_chA hm hM K (insP k C) (fun x hx => hK x (List.mem_cons_of_mem _ hx)) (insP_asc h1) (fun q hq => by
      rcases insP_mem.1 hq with rfl | h
      · exact kz
      · exact h2 q h) (insP_mem.2 (.inr h3)) (insP_mem.2 (.inr h4))
    refine ⟨D, d1, d2, fun x hx => ?_, fun q hq => d4 q (insP_mem.2 (.inr hq)), ?_⟩
    · rcases List.mem_cons.1 hx with rfl | hx
      · exact d4 _ (insP_mem.2 (.inl rfl))
      · exact d3 x hx
    · refine Int.le_trans ?_ d5
      match C, h1, h2, h3, h4 with
      | a :: r, h1, h2, h3, h4 =>
        refine ins_chA kl h2 ?_ ⟨M, h4, ?_⟩
        · have ha : a = m ∨ ltP a m := by
            rcases List.mem_cons.1 h3 with h | h
            · exact .inl h.symm
            · exact .inr ((List.pairwise_cons.1 h1).1 m h)
          rcases hm k kz with e | h
          · rw [e]; exact ha
          · rcases ha with e | h'
            · rw [e]; exact .inr h
            · exact .inr (ltP_trans h' h)
        · rcases hM k kz with e | h
          · exact .inl e.symm
          · exact .inr h
/-- Of all chains in order, from the first point to the last, the lower half has the greatest sum. -/
theorem low_best {Z C : List Pt} {m M : Pt} (hm : ∀ q ∈ Z, q = m ∨ ltP m q) (hM : ∀ q ∈ Z, q = M ∨ ltP q M) (h1 : Asc C) (h2 : ∀ q ∈ C, q ∈ Z) (h3 : m ∈ C) (h4 : M ∈ C) : chA C ≤ chA (lowL Z) := by
  obtain ⟨D, d1, d2, d3, _, d5⟩ := fold_chA hm hM (lowL Z) C (fun k hk => lowL_mem.1 hk) h1 h2 h3 h4
  have e : lowL Z = halfL D := by
    rw [low_ext (l := Z) (l' := D) d2 d3]
    unfold lowL
    rw [sortP_self d1]
  rw [e]
  exact Int.le_trans d5 (halfL_chA D)
theorem chA_neg : ∀ l : List Pt, chA (l.map negP) = chA l
  | [] => rfl
  | [a] => rfl
  | a :: b :: l => by
    have ih := chA_neg (b :: l)
    simp only [List.map_cons] at ih ⊢
    rw [chA, chA, ih]
    have : crP (negP a) (negP b) = crP a b := by unfold crP negP; grind
    omega
theorem up_best {Z C : List Pt} {m M : Pt} (hm : ∀ q ∈ Z, q = m ∨ ltP m q) (hM : ∀ q ∈ Z, q = M ∨ ltP q M) (h1 : Dsc C) (h2 : ∀ q ∈ C, q ∈ Z) (h3 : m ∈ C) (h4 : M ∈ C) : chA C ≤ chA (upL Z) := by
  rw [upL_neg, chA_neg, ← chA_neg C]
  refine low_best (Z := Z.map negP) (m := negP M) (M := negP m) ?_ ?_ ?_ ?_ (List.mem_map.2 ⟨M, h4, rfl⟩) (List.mem_map.2 ⟨m, h3, rfl⟩)
  · intro q hq
    obtain ⟨p, hp, rfl⟩ := List.mem_map.1 hq
    rcases hM p hp with rfl | h
    · exact .inl rfl
    · exact .inr (negP_lt.2 h)
  · intro q hq
    obtain ⟨p, hp, rfl⟩ := List.mem_map.1 hq
    rcases hm p hp with rfl | h
    · exact .inl rfl
    · exact .inr (negP_lt.2 h)
  · unfold Asc
    rw [List.pairwise_map]
    exact List.Pairwise.imp (fun {a b} h => negP_lt.2 h) h1
  · intro q hq
    obtain ⟨p, hp, rfl⟩ := List.mem_map.1 hq
    exact List.mem_map.2 ⟨p, h2 p hp, rfl⟩
/-! ### the area of a hull is the sum along both halves -/
def cyc (ps : List Pt) (i : Nat) : Pt := gp ps (i % ps.length)
theorem chA_range (f : Nat → Pt) : ∀ k, chA ((List.range (k + 2)).map f) = chA ((List.range (k + 1)).map f) + crP (f k) (f (k + 1)) := fun k => by
  rw [List.range_succ (n := k + 1), List.map_append, List.range_succ (n := k), List.map_append, List.append_assoc]
  show chA ((List.range k).map f ++ f k :: [f (k + 1)]) = chA ((List.range k).map f ++ [f k]) + _
  rw [chA_app]
  simp [chA]
theorem areaTo_chA (ps : List Pt) : ∀ k, k ≤ ps.length → areaTo ps k = chA ((List.range (k + 1)).map (cyc ps))
  | 0, _ => by simp [areaTo, chA]
  | k + 1, h => by
    rw [chA_range, ← areaTo_chA ps k (by omega), areaTo]
    have e : cyc ps k = gp ps k := by unfold cyc; rw [Nat.mod_eq_of_lt (by omega)]
    rw [e]; rfl
theorem areaL_chA {a : Pt} {r : List Pt} : areaL (a :: r) = chA (a :: r ++ [a]) := by
  unfold areaL
  rw [areaTo_chA _ _ (Nat.le_refl _)]
  congr 1
  refine List.ext_getElem (by simp) fun i h1 h2 => ?_
  rw [List.getElem_map, List.getElem_range]
  unfold cyc
  simp only [List.length_map, List.length_range] at h1
  by_cases hi : i < (a :: r).length
  · rw [Nat.mod_eq_of_lt hi, gp_lt hi, List.getElem_append_left hi]
  · have : i = (a :: r).length := by omega
    subst this
    rw [Nat.mod_self, List.getElem_append_right (Nat.le_refl _)]
    simp [gp]
theorem dropLast_last {l : List Pt} {x : Pt} (h : l.getLast? = some x) : l = l.dropLast ++ [x] := by
  have hne : l ≠ [] := fun e => by rw [e] at h; cases h
  have e : x = l.getLast hne := by rw [List.getLast?_eq_some_getLast hne] at h; exact (Option.some.inj h).symm
  rw [e, List.dropLast_concat_getLast]
theorem first_of {l : List Pt} (h : Asc l) {m : Pt} (hm : m ∈ l) (hx : ∀ q ∈ l, q = m ∨ ltP m q) : ∃ r, l = m :: r := by
  match l, h, hm, hx with
  | a :: r, h, hm, hx =>
    rcases hx a (by simp) with e | e
    · exact ⟨r, by rw [e]⟩
    · rcases List.mem_cons.1 hm with h' | h'
      · exact ⟨r, by rw [h']⟩
      · exact absurd e (ltP_asymm ((List.pairwise_cons.1 h).1 m h'))
theorem first_of_d {l : List Pt} (h : Dsc l) {m : Pt} (hm : m ∈ l) (hx : ∀ q ∈ l, q = m ∨ ltP q m) : ∃ r, l = m :: r := by
  match l, h, hm, hx with
  | a :: r, h, hm, hx =>
    rcases hx a (by simp) with e | e
    · exact ⟨r, by rw [e]⟩
    · rcases List.mem_cons.1 hm with h' | h'
      · exact ⟨r, by rw [h']⟩
      · exact absurd e (ltP_asymm ((List.pairwise_cons.1 h).1 m h'))
/-- Both halves of a set: from the first point to the last and back. -/
structure Ends (Z : List Pt) (m M : Pt) : Prop where
  hm : ∀ q ∈ Z, q = m ∨ ltP m q
  hM : ∀ q ∈ Z, q = M ∨ ltP q M
  mz : m ∈ Z
  Mz : M ∈ Z
theorem ends_of {Z : List Pt} (h : Z ≠ []) : ∃ m M, Ends Z m M := by
  obtain ⟨m, h1, h2⟩ := set_min h
  obtain ⟨M, h3, h4⟩ := set_max h
  exact ⟨m, M, h2, h4, h1, h3⟩
theorem Ends.low {Z : List Pt} {m M : Pt} (e : Ends Z m M) : (∃ r, lowL Z = m :: r) ∧ (lowL Z).getLast? = some M :=
  ⟨first_of (lowL_asc Z) (min_low e.mz e.hm).1 (fun q hq => e.hm q (lowL_mem.1 hq).1), last_of (lowL_asc Z) (max_low e.Mz e.hM).1 (fun q hq => e.hM q (lowL_mem.1 hq).1)⟩
theorem Ends.up {Z : List Pt} {m M : Pt} (e : Ends Z m M) : (∃ r, upL Z = M :: r) ∧ (upL Z).getLast? = some m :=
  ⟨first_of_d (upL_dsc Z) (max_low e.Mz e.hM).2 (fun q hq => e.hM q (upL_mem.1 hq).1), last_of_d (upL_dsc Z) (min_low e.mz e.hm).2 (fun q hq => e.hm q (upL_mem.1 hq).1)⟩
theorem area_halves {Z : List Pt} (h : Z ≠ []) : areaL (hullOf Z) = chA (lowL Z) + chA (upL Z) := by
  obtain ⟨m, M, e⟩ := ends_of h
  obtain ⟨⟨r, l1⟩, l2⟩ := e.low
  obtain ⟨⟨r', u1⟩, u2⟩ := e.up
  unfold hullOf
  split
  · rename_i hs
    have hlen : (sortP Z).length = 1 := by
      have := List.length_pos_iff.2 (ne_sort h)
      omega
    match hz : sortP Z, hlen with
    | [x], _ =>
      have el : lowL Z = [x] := by unfold lowL; rw [hz]; rfl
      have eu : upL Z = [x] := by unfold upL; rw [hz]; rfl
      rw [el, eu, areaL_chA]
      have : crP x x = 0 := by unfold crP; grind
      simp [chA, this]
  · rename_i hs
    have d1 := dropLast_last l2
    have d2 := dropLast_last u2
    have hne : (lowL Z).dropLast ≠ [] := fun en => by
      rw [en, List.nil_append] at d1
      rw [d1] at l1
      have hmM : M = m := by injection l1
      obtain ⟨a, b, ha, hb, hab⟩ := two_of_sort (l := Z) (by omega)
      have h1 := e.hm a ha
      have h2 := e.hM b hb
      rw [hmM] at h2
      rcases h1 with rfl | h1 <;> rcases h2 with rfl | h2
      · exact ltP_irr _ hab
      · exact ltP_asymm hab h2
      · exact ltP_asymm hab h1
      · exact ltP_irr _ (ltP_trans h1 (ltP_trans hab h2))
    obtain ⟨a, t, et⟩ : ∃ a t, (lowL Z).dropLast = a :: t := by
      match (lowL Z).dropLast, hne with
      | a :: t, _ => exact ⟨a, t, rfl⟩
    have ea : a = m := by
      rw [d1, et] at l1
      injection l1
    rw [et, List.cons_append, areaL_chA, ea, ← List.cons_append, ← ea, ← et, List.append_assoc, ea, ← d2, u1, chA_app, ← u1, ← d1]
/-! ### moves -/
theorem chA_move (t : Pt) : ∀ (r : List Pt) (a z : Pt), (a :: r).getLast? = some z → chA ((a :: r).map fun p => addP p t) = chA (a :: r) + crP a t - crP z t
  | [], a, z, h => by
    have : a = z := by simpa using h
    subst this
    simp [chA]
  | b :: r, a, z, h => by
    have ih := chA_move t r b z (by simpa using h)
    simp only [List.map_cons] at ih ⊢
    rw [chA, ih, chA]
    have : crP (addP a t) (addP b t) = crP a b + crP a t - crP b t := by unfold crP addP; grind
    omega
theorem lowL_move (Z : List Pt) (t : Pt) : lowL (Z.map fun p => addP p t) = (lowL Z).map fun p => addP p t := by
  unfold lowL
  rw [sortP_map (keeps_add t), halfL_map (keeps_add t)]
theorem upL_move (Z : List Pt) (t : Pt) : upL (Z.map fun p => addP p t) = (upL Z).map fun p => addP p t := by
  unfold upL
  rw [sortP_map (keeps_add t), ← List.map_reverse, halfL_map (keeps_add t)]
theorem halves_move {Z : List Pt} (h : Z ≠ []) (t : Pt) : chA (lowL (Z.map fun p => addP p t)) + chA (upL (Z.map fun p => addP p t)) = chA (lowL Z) + chA (upL Z) := by
  obtain ⟨m, M, e⟩ := ends_of h
  obtain ⟨⟨r, l1⟩, l2⟩ := e.low
  obtain ⟨⟨r', u1⟩, u2⟩ := e.up
  rw [lowL_move, upL_move, l1, u1, chA_move t r m M (by rw [← l1]; exact l2), chA_move t r' M m (by rw [← u1]; exact u2)]
  omega
/-! ### sums -/
/-- Two sets in Z, parted by c, which is the last of one and the first of the other. -/
theorem halves_add {X Y Z : List Pt} {m c M : Pt} (hx : Ends X m c) (hy : Ends Y c M) (hz : Ends Z m M) (sx : ∀ q ∈ X, q ∈ Z) (sy : ∀ q ∈ Y, q ∈ Z) : (chA (lowL X) + chA (upL X)) + (chA (lowL Y) + chA (upL Y)) ≤ chA (lowL Z) + chA (upL Z) := by
  obtain ⟨⟨r1, a1⟩, a2⟩ := hx.low
  obtain ⟨⟨r2, b1⟩, b2⟩ := hx.up
  obtain ⟨⟨r3, c1⟩, c2⟩ := hy.low
  obtain ⟨⟨r4, d1⟩, d2⟩ := hy.up
  have k1 := dropLast_last a2
  have k2 := dropLast_last d2
  have l1 : chA (lowL X) + chA (lowL Y) ≤ chA (lowL Z) := by
    have e : chA (lowL X) + chA (lowL Y) = chA ((lowL X).dropLast ++ lowL Y) := by rw [c1, chA_app, ← k1]
    rw [e]
    refine low_best hz.hm hz.hM ?_ ?_ ?_ ?_
    · unfold Asc
      rw [List.pairwise_append]
      refine ⟨List.Pairwise.sublist (List.dropLast_sublist _) (lowL_asc X), lowL_asc Y, fun p hp q hq => ?_⟩
      have hp1 : p = c ∨ ltP p c := hx.hM p (lowL_mem.1 ((List.dropLast_sublist _).subset hp)).1
      have hq1 : q = c ∨ ltP c q := hy.hm q (lowL_mem.1 hq).1
      have hpc : ltP p c := by
        have h := lowL_asc X
        rw [k1] at h
        exact (List.pairwise_append.1 h).2.2 p hp c (by simp)
      rcases hq1 with rfl | h
      · exact hpc
      · exact ltP_trans hpc h
    · intro q hq
      rcases List.mem_append.1 hq with h | h
      · exact sx q (lowL_mem.1 ((List.dropLast_sublist _).subset h)).1
      · exact sy q (lowL_mem.1 h).1
    · have : m ∈ lowL X := by rw [a1]; simp
      rw [k1] at this
      rcases List.mem_append.1 this with h | h
      · exact List.mem_append.2 (.inl h)
      · rw [List.mem_singleton.1 h]; exact List.mem_append.2 (.inr (by rw [c1]; simp))
    · exact List.mem_append.2 (.inr (List.mem_of_getLast? c2))
  have l2 : chA (upL Y) + chA (upL X) ≤ chA (upL Z) := by
    have e : chA (upL Y) + chA (upL X) = chA ((upL Y).dropLast ++ upL X) := by rw [b1, chA_app, ← k2]
    rw [e]
    refine up_best hz.hm hz.hM ?_ ?_ ?_ ?_
    · unfold Dsc
      rw [List.pairwise_append]
      refine ⟨List.Pairwise.sublist (List.dropLast_sublist _) (upL_dsc Y), upL_dsc X, fun p hp q hq => ?_⟩
      have hq1 : q = c ∨ ltP q c := hx.hM q (upL_mem.1 hq).1
      have hpc : ltP c p := by
        have h := upL_dsc Y
        rw [k2] at h
        exact (List.pairwise_append.1 h).2.2 p hp c (by simp)
      rcases hq1 with rfl | h
      · exact hpc
      · exact ltP_trans h hpc
    · intro q hq
      rcases List.mem_append.1 hq with h | h
      · exact sy q (upL_mem.1 ((List.dropLast_sublist _).subset h)).1
      · exact sx q (upL_mem.1 h).1
    · exact List.mem_append.2 (.inr (List.mem_of_getLast? b2))
    · have : M ∈ upL Y := by rw [d1]; simp
      rw [k2] at this
      rcases List.mem_append.1 this with h | h
      · exact List.mem_append.2 (.inl h)
      · rw [List.mem_singleton.1 h]; exact List.mem_append.2 (.inr (by rw [b1]; simp))
  omega
theorem ends_move {Z : List Pt} {m M : Pt} (e : Ends Z m M) (t : Pt) : Ends (Z.map fun p => addP p t) (addP m t) (addP M t) := by
  refine ⟨fun q hq => ?_, fun q hq => ?_, List.mem_map.2 ⟨m, e.mz, rfl⟩, List.mem_map.2 ⟨M, e.Mz, rfl⟩⟩
  · obtain ⟨p, hp, rfl⟩ := List.mem_map.1 hq
    rcases e.hm p hp with rfl | h
    · exact .inl rfl
    · exact .inr (addP_lt_r t h)
  · obtain ⟨p, hp, rfl⟩ := List.mem_map.1 hq
    rcases e.hM p hp with rfl | h
    · exact .inl rfl
    · exact .inr (addP_lt_r t h)
theorem area_sums {a b : List Pt} (ha : a ≠ []) (hb : b ≠ []) : areaL (hullOf a) + areaL (hullOf b) ≤ areaL (hullOf (sumsL a b)) := by
  obtain ⟨m, M, ea⟩ := ends_of ha
  obtain ⟨n, N, eb⟩ := ends_of hb
  have hne : sumsL a b ≠ [] := List.ne_nil_of_mem (sumsL_mem.2 ⟨m, n, ea.mz, eb.mz, rfl⟩)
  rw [area_halves ha, area_halves hb, area_halves hne, ← halves_move ha n, ← halves_move hb M]
  have ez : Ends (sumsL a b) (addP m n) (addP N M) := by
    refine ⟨fun q hq => ?_, fun q hq => ?_, sumsL_mem.2 ⟨m, n, ea.mz, eb.mz, rfl⟩, sumsL_mem.2 ⟨M, N, ea.Mz, eb.Mz, addP_comm _ _⟩⟩
    · obtain ⟨u, v, hu, hv, rfl⟩ := sumsL_mem.1 hq
      rcases ea.hm u hu with rfl | h1 <;> rcases eb.hm v hv with rfl | h2
      · exact .inl rfl
      · exact .inr (addP_lt_l _ h2)
      · exact .inr (addP_lt_r _ h1)
      · exact .inr (ltP_trans (addP_lt_r n h1) (addP_lt_l u h2))
    · obtain ⟨u, v, hu, hv, rfl⟩ := sumsL_mem.1 hq
      rw [addP_comm N M]
      rcases ea.hM u hu with rfl | h1 <;> rcases eb.hM v hv with rfl | h2
      · exact .inl rfl
      · exact .inr (addP_lt_l _ h2)
      · exact .inr (addP_lt_r _ h1)
      · exact .inr (ltP_trans (addP_lt_r v h1) (addP_lt_l M h2))
  have e1 := ends_move ea n
  have e2 := ends_move eb M
  rw [addP_comm n M] at e2
  refine halves_add e1 e2 ez (fun q hq => ?_) (fun q hq => ?_)
  · obtain ⟨p, hp, rfl⟩ := List.mem_map.1 hq
    exact sumsL_mem.2 ⟨p, n, hp, eb.mz, rfl⟩
  · obtain ⟨p, hp, rfl⟩ := List.mem_map.1 hq
    exact sumsL_mem.2 ⟨M, p, ea.Mz, hp, addP_comm _ _⟩
theorem mink_area {a b : List Pt} (h : (minkOf a b).2 = true) (hl : (minkOf a b).1.length ≤ 20) : hullArea a + hullArea b ≤ hullArea (minkOf a b).1 := by
  rcases mink_cases a b with e | ⟨h1, h2, e⟩
  · rw [e] at h; cases h
  · rw [e] at hl ⊢
    obtain ⟨q1, q2, q3, q4⟩ := bothL_parts h1
    unfold hullArea
    rw [if_pos q1, if_pos q2, if_pos (listOk_mk h2 hl), hull_hull]
    exact area_sums q3 q4
end Go.Proofs.Ytoendanihhocjaa
