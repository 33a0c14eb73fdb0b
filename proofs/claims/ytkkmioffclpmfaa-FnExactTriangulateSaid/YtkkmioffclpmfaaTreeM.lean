
/- Triangles that divide a ring can be colored with three colors. No program in sight. -/
import Derived.Test.YtkkmioffclpmfaaColM
set_option linter.unusedVariables false
set_option linter.unusedSimpArgs false
namespace Go.Proofs.Ytkkmioffclpmfaa
open Go.RowKit

theorem cntS_app (L R : List Tri3) (i k : Nat) : cntS (L ++ R) i k = cntS L i k + cntS R i k := by unfold cntS; rw [List.countP_append]
theorem cntS_perm {L R : List Tri3} (h : L.Perm R) (i k : Nat) : cntS L i k = cntS R i k := by unfold cntS; exact h.countP_eq _
/-- Corners that differ, below n. -/
def TriOk (n : Nat) (t : Tri3) : Prop := t.a < n ∧ t.b < n ∧ t.c < n ∧ t.a ≠ t.b ∧ t.b ≠ t.c ∧ t.a ≠ t.c
theorem sumN_comm (f : Nat → Nat → Int) (m : Nat) : ∀ n, sumN (fun i => sumN (fun k => f i k) m) n = sumN (fun k => sumN (fun i => f i k) n) m
  | 0 => by
    show 0 = _
    rw [sumN_zero]; exact fun k _ => rfl
  | n + 1 => by
    show sumN (fun i => sumN (fun k => f i k) m) n + sumN (fun k => f n k) m = _
    rw [sumN_comm f m n, ← sumN_add]; rfl
theorem sumN_neg (f : Nat → Int) : ∀ n, sumN (fun k => -f k) n = -sumN f n
  | 0 => rfl
  | n + 1 => by
    show sumN (fun k => -f k) n + -f n = -(sumN f n + f n)
    rw [sumN_neg f n]; omega
/-- As many sides begin at a vertex as end there. -/
theorem side_one {n : Nat} {t : Tri3} (h : TriOk n t) (v : Nat) : sumN (fun k => if sideB t v k = true then (1 : Int) else 0) n = sumN (fun k => if sideB t k v = true then (1 : Int) else 0) n := by
  obtain ⟨a1, a2, a3, d1, d2, d3⟩ := h
  have e1 : ∀ k, (if sideB t v k = true then (1 : Int) else 0) = (if k = t.b then (if t.a = v then 1 else 0) else 0) + (if k = t.c then (if t.b = v then 1 else 0) else 0) + (if k = t.a then (if t.c = v then 1 else 0) else 0) := fun k => by
    by_cases hs : sideB t v k = true
    · rw [if_pos hs]
      rcases sideB_iff.1 hs with ⟨x, y⟩ | ⟨x, y⟩ | ⟨x, y⟩
      · rw [if_pos y.symm, if_pos x, if_neg (by omega), if_neg (by omega)]; rfl
      · rw [if_neg (by omega), if_pos y.symm, if_pos x, if_neg (by omega)]; rfl
      · rw [if_neg (by omega), if_neg (by omega), if_pos y.symm, if_pos x]; rfl
    · rw [if_neg hs]
      rw [sideB_iff] at hs
      by_cases x : k = t.b
      · rw [if_pos x, if_neg (by omega), if_neg (by omega), if_neg (by omega)]; rfl
      · by_cases y : k = t.c
        · rw [if_neg x, if_pos y, if_neg (by omega), if_neg (by omega)]; rfl
        · rw [if_neg x, if_neg y]
          by_cases z : k = t.a
          · rw [if_pos z, if_neg (by omega)]; rfl
          · rw [if_neg z]; rfl
  have e2 : ∀ k, (if sideB t k v = true then (1 : Int) else 0) = (if k = t.a then (if t.b = v then 1 else 0) else 0) + (if k = t.b then (if t.c = v then 1 else 0) else 0) + (if k = t.c then (if t.a = v then 1 else 0) else 0) := fun k => by
    by_cases hs : sideB t k v = true
    · rw [if_pos hs]
      rcases sideB_iff.1 hs with ⟨x, y⟩ | ⟨x, y⟩ | ⟨x, y⟩
      · rw [if_pos x.symm, if_pos y, if_neg (by omega), if_neg (by omega)]; rfl
      · rw [if_neg (by omega), if_pos x.symm, if_pos y, if_neg (by omega)]; rfl
      · rw [if_neg (by omega), if_neg (by omega), if_pos x.symm, if_pos y]; rfl
    · rw [if_neg hs]
      rw [sideB_iff] at hs
      by_cases x : k = t.a
      · rw [if_pos x, if_neg (by omega), if_neg (by omega), if_neg (by omega)]; rfl
      · by_cases y : k = t.b
        · rw [if_neg x, if_pos y, if_neg (by omega), if_neg (by omega)]; rfl
        · rw [if_neg x, if_neg y]
          by_cases z : k = t.c
          · rw [if_pos z, if_neg (by omega)]; rfl
          · rw [if_neg z]; rfl
  rw [sumN_congr (fun k _ => e1 k), sumN_congr (fun k _ => e2 k)]
  rw [sumN_add, sumN_add, sumN_add, sumN_add, sumN_one, sumN_one, sumN_one, sumN_one, sumN_one, sumN_one]
  rw [if_pos a1, if_pos a2, if_pos a3, if_pos a1, if_pos a2, if_pos a3]
  omega
theorem cntS_int (t : Tri3) (T : List Tri3) (i k : Nat) : (cntS (t :: T) i k : Int) = cntS T i k + if sideB t i k = true then (1 : Int) else 0 := by
  rw [cntS_cons]; split <;> simp
theorem flow {n : Nat} : ∀ {T : List Tri3}, (∀ t ∈ T, TriOk n t) → ∀ v, sumN (fun k => (cntS T v k : Int)) n = sumN (fun k => (cntS T k v : Int)) n
  | [], _, v => rfl
  | t :: T, h, v => by
    rw [sumN_congr (fun k _ => cntS_int t T v k), sumN_congr (fun k _ => cntS_int t T k v), sumN_add, sumN_add, flow (fun s hs => h s (List.mem_cons_of_mem _ hs)) v, side_one (h t (List.mem_cons_self ..)) v]
/-- Areas by the sides. -/
theorem side_area {n : Nat} {t : Tri3} (h : TriOk n t) (ps : List Pt) : sumN (fun i => sumN (fun k => (if sideB t i k = true then (1 : Int) else 0) * crP (gp ps i) (gp ps k)) n) n = trnT ps t := by
  obtain ⟨a1, a2, a3, d1, d2, d3⟩ := h
  have e1 : ∀ i k, (if sideB t i k = true then (1 : Int) else 0) * crP (gp ps i) (gp ps k) = (if k = t.b then (if i = t.a then crP (gp ps t.a) (gp ps t.b) else 0) else 0) + (if k = t.c then (if i = t.b then crP (gp ps t.b) (gp ps t.c) else 0) else 0) + (if k = t.a then (if i = t.c then crP (gp ps t.c) (gp ps t.a) else 0) else 0) := fun i k => by
    by_cases hs : sideB t i k = true
    · rw [if_pos hs, Int.one_mul]
      rcases sideB_iff.1 hs with ⟨x, y⟩ | ⟨x, y⟩ | ⟨x, y⟩ <;> subst x <;> subst y
      · rw [if_pos rfl, if_pos rfl, if_neg (by omega), if_neg (by omega)]; omega
      · rw [if_neg (by omega), if_pos rfl, if_pos rfl, if_neg (by omega)]; omega
      · rw [if_neg (by omega), if_neg (by omega), if_pos rfl, if_pos rfl]; omega
    · rw [if_neg hs, Int.zero_mul]
      rw [sideB_iff] at hs
      by_cases x : k = t.b
      · rw [if_pos x, if_neg (by omega), if_neg (by omega), if_neg (by omega)]; rfl
      · by_cases y : k = t.c
        · rw [if_neg x, if_pos y, if_neg (by omega), if_neg (by omega)]; rfl
        · rw [if_neg x, if_neg y]
          by_cases z : k = t.a
          · rw [if_pos z, if_neg (by omega)]; rfl
          · rw [if_neg z]; rfl
  have e2 : ∀ i, sumN (fun k => (if sideB t i k = true then (1 : Int) else 0) * crP (gp ps i) (gp ps k)) n = (if i = t.a then crP (gp ps t.a) (gp ps t.b) else 0) + (if i = t.b then crP (gp ps t.b) (gp ps t.c) else 0) + (if i = t.c then crP (gp ps t.c) (gp ps t.a) else 0) := fun i => by
    rw [sumN_congr (fun k _ => e1 i k), sumN_add, sumN_add, sumN_one, sumN_one, sumN_one, if_pos a2, if_pos a3, if_pos a1]
  rw [sumN_congr (fun i _ => e2 i), sumN_add, sumN_add, sumN_one, sumN_one, sumN_one, if_pos a1, if_pos a2, if_pos a3, cr_tri]; rfl
theorem area_sides {n : Nat} (ps : List Pt) : ∀ {T : List Tri3}, (∀ t ∈ T, TriOk n t) → sumN (fun i => sumN (fun k => (cntS T i k : Int) * crP (gp ps i) (gp ps k)) n) n = areaT ps T
  | [], _ => by
    rw [sumN_zero]; rfl
    intro i _
    exact sumN_zero fun k _ => by rw [show cntS [] i k = 0 from rfl]; simp
  | t :: T, h => by
    have e : ∀ i k, (cntS (t :: T) i k : Int) * crP (gp ps i) (gp ps k) = (cntS T i k : Int) * crP (gp ps i) (gp ps k) + (if sideB t i k = true then (1 : Int) else 0) * crP (gp ps i) (gp ps k) := fun i k => by
      rw [cntS_int, Int.add_mul]
    rw [sumN_congr (fun i _ => sumN_congr (fun k _ => e i k)), sumN_congr (fun i _ => sumN_add _ _ n), sumN_add, area_sides ps (fun s hs => h s (List.mem_cons_of_mem _ hs)), side_area (h t (List.mem_cons_self ..)) ps]
    show _ = trnT ps t + areaT ps T
    omega
theorem area_pos {ps : List Pt} : ∀ {T : List Tri3}, (∀ t ∈ T, 0 < trnT ps t) → T ≠ [] → 0 < areaT ps T
  | [], _, h => absurd rfl h
  | [t], h, _ => by
    have := h t (List.mem_cons_self ..)
    show 0 < trnT ps t + 0; omega
  | t :: s :: T, h, _ => by
    have h1 := h t (List.mem_cons_self ..)
    have h2 := area_pos (T := s :: T) (fun x hx => h x (List.mem_cons_of_mem _ hx)) (by simp)
    show 0 < trnT ps t + areaT ps (s :: T); omega
/-- Two triangles with a side in opposite directions. -/
def Adj (s t : Tri3) : Prop := ∃ i k, sideB s i k = true ∧ sideB t k i = true
theorem Adj.symm {s t : Tri3} (h : Adj s t) : Adj t s := by obtain ⟨i, k, a, b⟩ := h; exact ⟨k, i, b, a⟩
/-- What divides a ring. -/
structure Divs (ps : List Pt) (rs : List Nat) (T : List Tri3) : Prop where
  nodup : rs.Nodup
  three : 3 ≤ rs.length
  all : ∀ i, i < rs.length ↔ i ∈ rs
  parts : Parts rs T
  ok : ∀ t ∈ T, TriOk rs.length t
  pos : ∀ t ∈ T, 0 < trnT ps t
theorem sumN_two {f : Nat → Int} {a b n : Nat} (ha : a < n) (hb : b < n) (hab : a ≠ b) (h : ∀ k, k < n → k ≠ a → k ≠ b → f k = 0) : sumN f n = f a + f b := by
  have e : ∀ k, k < n → f k = (if k = a then f a else 0) + (if k = b then f b else 0) := fun k hk => by
    by_cases x : k = a
    · subst x; rw [if_pos rfl, if_neg hab]; omega
    · by_cases y : k = b
      · subst y; rw [if_neg x, if_pos rfl]; omega
      · rw [if_neg x, if_neg y, h k hk x y]; rfl
  rw [sumN_congr e, sumN_add, sumN_one, sumN_one, if_pos ha, if_pos hb]
/-- A part that touches nothing else has all the ring's edges. -/
theorem part_all {ps : List Pt} {rs : List Nat} {T L R : List Tri3} (h : Divs ps rs T) (hp : (L ++ R).Perm T) (hn : L ≠ []) (hA : ∀ s ∈ L, ∀ t ∈ R, ¬ Adj s t) : ∀ j, j < rs.length → cntS L (gn rs j) (aft rs j) = 1 := by
  have h3 := h.three
  have c : ∀ i k, cntS T i k = cntS L i k + cntS R i k := fun i k => by rw [← cntS_perm hp, cntS_app]
  have hL : ∀ t ∈ L, t ∈ T := fun t ht => hp.subset (List.mem_append_left _ ht)
  have okL : ∀ t ∈ L, TriOk rs.length t := fun t ht => h.ok t (hL t ht)
  -- where L has a side, R has not the opposite one
  have opp : ∀ i k, 0 < cntS L i k → cntS R k i = 0 := fun i k hc => by
    refine cntS_none fun t ht => ?_
    obtain ⟨s, hs, hsd⟩ := List.countP_pos_iff.1 (show 0 < L.countP fun t => sideB t i k from hc)
    rw [← Bool.not_eq_true]
    exact fun hh => hA s hs t ht ⟨i, k, hsd, hh⟩
  have sym : ∀ i k, ¬ Fol rs i k → ¬ Fol rs k i → cntS L i k = cntS L k i := fun i k f1 f2 => by
    obtain ⟨b1, b2⟩ := h.parts.two i k f1 f2
    have c1 := c i k
    have c2 := c k i
    have o1 := opp i k
    have o2 := opp k i
    by_cases z1 : cntS L i k = 0 <;> by_cases z2 : cntS L k i = 0
    · omega
    · have := o2 (by omega); omega
    · have := o1 (by omega); omega
    · omega
  have bak : ∀ i k, Fol rs i k → cntS L k i = 0 := fun i k f => by
    have := (h.parts.one i k f).2
    have := c k i
    omega
  -- around the ring
  have nxt : ∀ j, j < rs.length → cntS L (gn rs ((j + rs.length - 1) % rs.length)) (gn rs j) = cntS L (gn rs j) (aft rs j) := fun j hj => by
    obtain ⟨p1, p2⟩ := pred_ex hj
    have F1 : Fol rs (gn rs ((j + rs.length - 1) % rs.length)) (gn rs j) := Fol.bef_ hj
    have F2 : Fol rs (gn rs j) (aft rs j) := Fol.at_ hj
    have hne : gn rs ((j + rs.length - 1) % rs.length) ≠ aft rs j := fun e => by
      have e := gn_inj h.nodup p1 (Nat.mod_lt _ (by omega)) e
      have m1 := mod_next hj
      have m2 := mod_next p1
      rw [p2] at m2
      rw [← e] at m1
      split at m1 <;> split at m2 <;> omega
    have z : ∀ k, k < rs.length → k ≠ gn rs ((j + rs.length - 1) % rs.length) → k ≠ aft rs j → (cntS L (gn rs j) k : Int) - cntS L k (gn rs j) = 0 := fun k hk k1 k2 => by
      have f1 : ¬ Fol rs (gn rs j) k := fun f => k2 (Fol.only h.nodup f F2)
      have f2 : ¬ Fol rs k (gn rs j) := fun f => k1 (by
        obtain ⟨i, hi, e1, e2⟩ := f
        have e2 := gn_inj h.nodup (Nat.mod_lt _ (by omega)) hj e2
        rw [← e1, ← e2, pred_back hi])
      rw [sym _ _ f1 f2]; omega
    have fl := flow okL (gn rs j)
    have s := sumN_two (f := fun k => (cntS L (gn rs j) k : Int) - cntS L k (gn rs j)) ((h.all _).2 (gn_mem p1)) ((h.all _).2 (gn_mem (Nat.mod_lt (j + 1) (by omega)))) hne z
    rw [sumN_sub, fl] at s
    have b1 := bak _ _ F1
    have b2 := bak _ _ F2
    have s : (0 : Int) = (cntS L (gn rs j) (gn rs ((j + rs.length - 1) % rs.length)) : Int) - cntS L (gn rs ((j + rs.length - 1) % rs.length)) (gn rs j) + ((cntS L (gn rs j) (aft rs j) : Int) - cntS L (aft rs j) (gn rs j)) := by
      have : ∀ x : Int, x - x = 0 := fun x => by omega
      rw [this] at s; exact s
    omega
  have all : ∀ j, j < rs.length → cntS L (gn rs j) (aft rs j) = cntS L (gn rs 0) (aft rs 0) := fun j => by
    induction j with
    | zero => exact fun _ => rfl
    | succ j ih =>
      intro hj
      have := nxt (j + 1) hj
      rw [show j + 1 + rs.length - 1 = j + rs.length by omega, Nat.add_mod_right, Nat.mod_eq_of_lt (show j < rs.length by omega)] at this
      rw [← this, ← ih (by omega)]
      unfold aft; rw [Nat.mod_eq_of_lt hj]
  have le1 : ∀ j, j < rs.length → cntS L (gn rs j) (aft rs j) ≤ 1 := fun j hj => by
    have := (h.parts.one _ _ (Fol.at_ hj)).1
    have := c (gn rs j) (aft rs j)
    omega
  by_cases e : cntS L (gn rs 0) (aft rs 0) = 1
  · exact fun j hj => by rw [all j hj, e]
  · -- then the sides of L cancel
    exfalso
    have l0 := le1 0 (by omega)
    have z0 : ∀ i k, Fol rs i k → cntS L i k = 0 := fun i k f => by
      obtain ⟨j, hj, rfl, rfl⟩ := f
      rw [all j hj]; omega
    have symA : ∀ i k, cntS L i k = cntS L k i := fun i k => by
      by_cases f1 : Fol rs i k
      · rw [z0 i k f1, bak i k f1]
      · by_cases f2 : Fol rs k i
        · rw [z0 k i f2, bak k i f2]
        · exact sym i k f1 f2
    have A := area_sides ps okL
    have P := area_pos (fun t ht => h.pos t (hL t ht)) hn
    have N : sumN (fun i => sumN (fun k => (cntS L i k : Int) * crP (gp ps i) (gp ps k)) rs.length) rs.length = -sumN (fun i => sumN (fun k => (cntS L i k : Int) * crP (gp ps i) (gp ps k)) rs.length) rs.length := by
      rw [← sumN_neg]
      rw [sumN_comm]
      refine sumN_congr fun i _ => ?_
      rw [← sumN_neg]
      refine sumN_congr fun k _ => ?_
      rw [symA k i, crP_swap (gp ps i) (gp ps k)]
      rw [Int.mul_neg]
    omega
/-- What divides a ring hangs together. -/
theorem div_conn {ps : List Pt} {rs : List Nat} {T L R : List Tri3} (h : Divs ps rs T) (hp : (L ++ R).Perm T) (hL : L ≠ []) (hR : R ≠ []) : ∃ s ∈ L, ∃ t ∈ R, Adj s t := by
  refine Classical.byContradiction fun hn => ?_
  have hA : ∀ s ∈ L, ∀ t ∈ R, ¬ Adj s t := fun s hs t ht ha => hn ⟨s, hs, t, ht, ha⟩
  have h3 := h.three
  have a1 := part_all h hp hL hA 0 (by omega)
  have a2 := part_all h (List.perm_append_comm.trans hp) hR (fun s hs t ht ha => hA t ht s hs ha.symm) 0 (by omega)
  have o := (h.parts.one _ _ (Fol.at_ (show 0 < rs.length by omega))).1
  rw [← cntS_perm hp, cntS_app] at o
  omega
theorem nodupN_len : ∀ {l l' : List Nat}, l.Nodup → (∀ q ∈ l, q ∈ l') → l.length ≤ l'.length
  | [], _, _, _ => Nat.zero_le _
  | a :: r, l', h, hs => by
    have h' := List.nodup_cons.1 h
    have := nodupN_len (l := r) (l' := l'.erase a) h'.2 (fun q hq => (List.mem_erase_of_ne (fun e => by subst e; exact h'.1 hq)).2 (hs q (by simp [hq])))
    have h2 := List.length_erase_of_mem (hs a (by simp))
    have := List.length_pos_of_mem (hs a (by simp))
    rw [List.length_cons]; omega
/-- Colored so far, or a vertex met twice. -/
def Half (L : List Tri3) : Prop := ∃ vs : List Nat, (∀ t ∈ L, t.a ∈ vs ∧ t.b ∈ vs ∧ t.c ∈ vs) ∧ ((vs.length ≤ L.length + 2 ∧ ∃ g, ColOk L g) ∨ vs.length ≤ L.length + 1)
theorem half_one {n : Nat} {t : Tri3} (h : TriOk n t) : Half [t] := by
  obtain ⟨_, _, _, d1, d2, d3⟩ := h
  refine ⟨[t.a, t.b, t.c], fun s hs => ?_, .inl ⟨by simp, fun i => if i = t.a then 0 else if i = t.b then 1 else 2, fun i => by split <;> (try split) <;> omega, fun s hs => ?_⟩⟩
  · rw [List.mem_singleton.1 hs]; simp
  · rw [List.mem_singleton.1 hs]
    simp only [if_pos, if_neg d1.symm, if_neg d2.symm, if_neg d3.symm]
    omega
theorem half_more {n : Nat} {L : List Tri3} {s t : Tri3} (ht : TriOk n t) (hs : s ∈ L) (ha : Adj s t) (hl : Half L) : Half (t :: L) := by
  obtain ⟨vs, hv, hc⟩ := hl
  obtain ⟨i, k, s1, t1⟩ := ha
  obtain ⟨x1, x2, x3, d1, d2, d3⟩ := ht
  obtain ⟨v1, v2, v3⟩ := hv s hs
  -- the corners of t: i, k and m
  obtain ⟨m, hm, hmi, hmk, hik⟩ : ∃ m, (∀ P : Nat → Prop, P i → P k → P m → P t.a ∧ P t.b ∧ P t.c) ∧ m ≠ i ∧ m ≠ k ∧ i ≠ k := by
    rcases sideB_iff.1 t1 with ⟨x, y⟩ | ⟨x, y⟩ | ⟨x, y⟩ <;> subst x <;> subst y
    · exact ⟨t.c, fun P a b c => ⟨b, a, c⟩, d2.symm, d3.symm, d1.symm⟩
    · exact ⟨t.a, fun P a b c => ⟨c, b, a⟩, d3, d1, d2.symm⟩
    · exact ⟨t.b, fun P a b c => ⟨a, c, b⟩, d1.symm, d2, d3⟩
  have iv : i ∈ vs := by rcases sideB_iff.1 s1 with ⟨x, y⟩ | ⟨x, y⟩ | ⟨x, y⟩ <;> subst x <;> assumption
  have kv : k ∈ vs := by rcases sideB_iff.1 s1 with ⟨x, y⟩ | ⟨x, y⟩ | ⟨x, y⟩ <;> subst y <;> assumption
  by_cases mv : m ∈ vs
  · refine ⟨vs, fun u hu => ?_, .inr ?_⟩
    · rcases List.mem_cons.1 hu with rfl | hu
      · exact hm (· ∈ vs) iv kv mv
      · exact hv u hu
    · rw [List.length_cons]; rcases hc with ⟨h, _⟩ | h <;> omega
  · refine ⟨m :: vs, fun u hu => ?_, ?_⟩
    · rcases List.mem_cons.1 hu with rfl | hu
      · exact hm (· ∈ m :: vs) (List.mem_cons_of_mem _ iv) (List.mem_cons_of_mem _ kv) (List.mem_cons_self ..)
      · obtain ⟨a, b, c⟩ := hv u hu
        exact ⟨List.mem_cons_of_mem _ a, List.mem_cons_of_mem _ b, List.mem_cons_of_mem _ c⟩
    · rw [List.length_cons, List.length_cons]
      rcases hc with ⟨h, g, hg⟩ | h
      · refine .inl ⟨by omega, fun j => if j = m then 3 - g i - g k else g j, ?_, ?_⟩
        · have gd : g i ≠ g k := by
            obtain ⟨e1, e2, e3⟩ := hg.diff s hs
            rcases sideB_iff.1 s1 with ⟨x, y⟩ | ⟨x, y⟩ | ⟨x, y⟩ <;> subst x <;> subst y
            · exact e1
            · exact e2
            · exact e3.symm
          have bi := hg.rng i
          have bk := hg.rng k
          intro j
          by_cases e : j = m
          · simp only [if_pos e]; omega
          · simp only [if_neg e]; exact hg.rng j
        · intro u hu
          have gd : g i ≠ g k := by
            obtain ⟨e1, e2, e3⟩ := hg.diff s hs
            rcases sideB_iff.1 s1 with ⟨x, y⟩ | ⟨x, y⟩ | ⟨x, y⟩ <;> subst x <;> subst y
            · exact e1
            · exact e2
            · exact e3.symm
          have bi := hg.rng i
          have bk := hg.rng k
          rcases List.mem_cons.1 hu with rfl | hu
          · have fi : (if i = m then 3 - g i - g k else g i) = g i := if_neg fun e => hmi e.symm
            have fk : (if k = m then 3 - g i - g k else g k) = g k := if_neg fun e => hmk e.symm
            have fm : (if m = m then 3 - g i - g k else g m) = 3 - g i - g k := if_pos rfl
            show (if u.a = m then 3 - g i - g k else g u.a) ≠ (if u.b = m then 3 - g i - g k else g u.b) ∧ (if u.b = m then 3 - g i - g k else g u.b) ≠ (if u.c = m then 3 - g i - g k else g u.c) ∧ (if u.a = m then 3 - g i - g k else g u.a) ≠ (if u.c = m then 3 - g i - g k else g u.c)
            rcases sideB_iff.1 t1 with ⟨x, y⟩ | ⟨x, y⟩ | ⟨x, y⟩
            · have z : u.c = m := by have := (hm (fun j => j = i ∨ j = k ∨ j = m) (.inl rfl) (.inr (.inl rfl)) (.inr (.inr rfl))).2.2; omega
              rw [x, y, z, fi, fk, fm]; omega
            · have z : u.a = m := by have := (hm (fun j => j = i ∨ j = k ∨ j = m) (.inl rfl) (.inr (.inl rfl)) (.inr (.inr rfl))).1; omega
              rw [x, y, z, fi, fk, fm]; omega
            · have z : u.b = m := by have := (hm (fun j => j = i ∨ j = k ∨ j = m) (.inl rfl) (.inr (.inl rfl)) (.inr (.inr rfl))).2.1; omega
              rw [x, y, z, fi, fk, fm]; omega
          · obtain ⟨a, b, c⟩ := hv u hu
            have q : ∀ j, j ∈ vs → j ≠ m := fun j hj e => mv (by rw [← e]; exact hj)
            simp only [if_neg (q _ a), if_neg (q _ b), if_neg (q _ c)]
            exact hg.diff u hu
      · exact .inr (by omega)
theorem div_half {ps : List Pt} {rs : List Nat} {T : List Tri3} (h : Divs ps rs T) (hn : T ≠ []) : ∀ m, m < T.length → ∃ L R : List Tri3, (L ++ R).Perm T ∧ L.length = m + 1 ∧ Half L
  | 0, _ => by
    match T, hn with
    | t :: T, _ => exact ⟨[t], T, List.Perm.refl _, rfl, half_one (h.ok t (List.mem_cons_self ..))⟩
  | m + 1, hm => by
    obtain ⟨L, R, hp, hl, hh⟩ := div_half h hn m (by omega)
    have hlen := hp.length_eq
    rw [List.length_append] at hlen
    obtain ⟨s, hs, t, ht, ha⟩ := div_conn h hp (fun e => by rw [e] at hl; simp at hl) (fun e => by rw [e] at hlen; simp at hlen; omega)
    have hpt : R.Perm (t :: R.erase t) := List.perm_cons_erase ht
    refine ⟨t :: L, R.erase t, ?_, by rw [List.length_cons, hl], half_more (h.ok t (hp.subset (List.mem_append_right _ ht))) hs ha hh⟩
    refine List.Perm.trans ?_ hp
    refine List.Perm.trans ?_ (hpt.symm.append_left L)
    exact List.perm_middle.symm
/-- Triangles that divide a ring, two less than vertices, can be colored. -/
theorem div_color {ps : List Pt} {rs : List Nat} {T : List Tri3} (h : Divs ps rs T) (hl : T.length = rs.length - 2) : ∃ g, ColOk T g := by
  have h3 := h.three
  have hn : T ≠ [] := fun e => by rw [e] at hl; simp at hl; omega
  obtain ⟨L, R, hp, hm, vs, hv, hc⟩ := div_half h hn (T.length - 1) (by omega)
  have hR : R = [] := by
    have := hp.length_eq
    rw [List.length_append] at this
    exact List.length_eq_zero_iff.1 (by omega)
  subst hR
  rw [List.append_nil] at hp
  have cover : ∀ i, i < rs.length → i ∈ vs := fun i hi => by
    obtain ⟨j, hj, e⟩ := gn_of_mem ((h.all i).1 hi)
    have o := (h.parts.one _ _ (Fol.at_ hj)).1
    rw [← cntS_perm hp] at o
    obtain ⟨t, ht, hs⟩ := List.countP_pos_iff.1 (show 0 < L.countP fun t => sideB t (gn rs j) (aft rs j) by show 0 < cntS _ _ _; omega)
    obtain ⟨a, b, c⟩ := hv t ht
    rcases sideB_iff.1 hs with ⟨x, _⟩ | ⟨x, _⟩ | ⟨x, _⟩ <;> rw [← e, ← x] <;> assumption
  have big : rs.length ≤ vs.length := by
    have : (List.range rs.length).length ≤ vs.length := nodupN_len List.nodup_range fun i hi => cover i (List.mem_range.1 hi)
    rwa [List.length_range] at this
  rcases hc with ⟨_, g, hg⟩ | hc
  · exact ⟨g, hg.rng, fun t ht => hg.diff t (hp.symm.subset ht)⟩
  · omega
end Go.Proofs.Ytkkmioffclpmfaa
