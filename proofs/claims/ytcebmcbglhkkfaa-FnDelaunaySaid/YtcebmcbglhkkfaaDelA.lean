
import Derived.Test.YtcebmcbglhkkfaaDelN
import Derived.Test.YtcebmcbglhkkfaaSwpR
/- The area of a mesh is the hull's. No program in sight. -/
set_option linter.unusedVariables false
set_option linter.unusedSimpArgs false
namespace Go.Proofs.Ytcebmcbglhkkfaa
open Go.RowKit

/-! ### sums over rings -/
def lsm : List Int → Int
  | [] => 0
  | a :: l => a + lsm l
theorem lsm_app : ∀ l m, lsm (l ++ m) = lsm l + lsm m
  | [], m => by simp [lsm]
  | a :: l, m => by rw [List.cons_append, lsm, lsm, lsm_app l m]; omega
theorem lsm_perm {l m : List Int} (h : List.Perm l m) : lsm l = lsm m := by
  induction h with
  | nil => rfl
  | cons a _ ih => rw [lsm, lsm, ih]
  | swap a b l => rw [lsm, lsm, lsm, lsm]; omega
  | trans _ _ h1 h2 => rw [h1, h2]
theorem sumN_lsm (f : Nat → Int) : ∀ n, sumN f n = lsm ((List.range n).map f)
  | 0 => rfl
  | n + 1 => by
    rw [List.range_succ, List.map_append, lsm_app, ← sumN_lsm f n]
    show sumN f n + f n = sumN f n + (f n + 0)
    omega
theorem range_gp (f : Pt → Int) (c : List Pt) : (List.range c.length).map (fun k => f (gp c k)) = c.map f := by
  refine List.ext_getElem (by simp) fun i h1 h2 => ?_
  have hi : i < c.length := by simpa using h2
  simp [gp_lt hi]
theorem sum_same {c h : List Pt} (hp : List.Perm c h) (f : Pt → Int) : sumN (fun k => f (gp c k)) c.length = sumN (fun k => f (gp h k)) h.length := by
  rw [sumN_lsm, sumN_lsm, range_gp, range_gp]
  exact lsm_perm (hp.map f)
theorem gpn_inj {c : List Pt} (hd : c.Nodup) {i j : Nat} (hi : i < c.length) (hj : j < c.length) (e : gp c i = gp c j) : i = j := by
  rw [gp_lt hi, gp_lt hj] at e
  exact (List.getElem_inj hd).1 e
/-- A ring through all corners of the hull that has all points on its left. -/
structure Wc (ps c : List Pt) : Prop where
  nodup : c.Nodup
  sub : ∀ p ∈ c, p ∈ ps
  left : ∀ i, i < c.length → ∀ q ∈ ps, 0 ≤ trn (gp c i) (gp c ((i + 1) % c.length)) q
  has : ∀ p ∈ hullOf ps, p ∈ c
theorem Wc.len {ps c : List Pt} (h : Wc ps c) (h3 : 3 ≤ (hullOf ps).length) : 3 ≤ c.length := Nat.le_trans h3 (nodup_len (hullOf_nodup ps) h.has)
theorem ci_ne {h : List Pt} (hc : CI h) {x y z : Nat} (hx : x < h.length) (hy : y < h.length) (hz : z < h.length) (h1 : x ≠ y) (h2 : y ≠ z) (h3 : z ≠ x) : trn (gp h x) (gp h y) (gp h z) ≠ 0 := by
  have s1 := trn_swap (gp h x) (gp h y) (gp h z)
  have r1 := trn_rot (gp h x) (gp h y) (gp h z)
  have r2 := trn_rot (gp h y) (gp h z) (gp h x)
  have r3 := trn_rot (gp h y) (gp h x) (gp h z)
  have r4 := trn_rot (gp h x) (gp h z) (gp h y)
  rcases Nat.lt_or_gt_of_ne h1 with a | a <;> rcases Nat.lt_or_gt_of_ne h2 with b | b <;> rcases Nat.lt_or_gt_of_ne h3 with c | c
  · omega
  · have := hc x y z a b hz; omega
  · have := hc z x y c a hy; omega
  · have := hc x z y c b hy; omega
  · have := hc y z x b c hx; omega
  · have := hc y x z a c hz; omega
  · have := hc z y x b a hx; omega
  · omega
/-- All corners are the hull's: the same ring. -/
theorem Wc.same {ps c : List Pt} (h : Wc ps c) (h3 : 3 ≤ (hullOf ps).length) (hs : ∀ p ∈ c, p ∈ hullOf ps) (F : Pt → Pt → Int) : edgeSum F c = edgeSum F (hullOf ps) := by
  have hl := h.len h3
  have m0 : 0 < (hullOf ps).length := by omega
  have ci := conv_CI (hull_conv ps)
  have hnd := hullOf_nodup ps
  have hp : List.Perm (hullOf ps) c := by
    rw [List.perm_ext_iff_of_nodup hnd h.nodup]
    exact fun p => ⟨h.has p, hs p⟩
  -- what follows a point in the hull
  let f : Pt → Int := fun u => F u (gp (hullOf ps) (((hullOf ps).idxOf u + 1) % (hullOf ps).length))
  have fi : ∀ j, j < (hullOf ps).length → f (gp (hullOf ps) j) = F (gp (hullOf ps) j) (gp (hullOf ps) ((j + 1) % (hullOf ps).length)) := fun j hj => by
    have e : (hullOf ps).idxOf (gp (hullOf ps) j) = j := by
      rw [gp_lt hj]; exact hnd.idxOf_getElem j hj
    show F _ _ = _
    rw [e]
  unfold edgeSum
  rw [← sumN_congr fi, ← sum_same hp.symm f]
  refine sumN_congr fun i hi => ?_
  have hi' : (i + 1) % c.length < c.length := Nat.mod_lt _ (by omega)
  have ine : i ≠ (i + 1) % c.length := by
    rcases Nat.lt_or_ge (i + 1) c.length with k | k
    · rw [Nat.mod_eq_of_lt k]; omega
    · rw [show i + 1 = c.length by omega, Nat.mod_self]; omega
  obtain ⟨j, hj, ej⟩ := gp_of_mem (hs _ (gp_mem hi))
  obtain ⟨l, hlt, el⟩ := gp_of_mem (hs _ (gp_mem hi'))
  have hj' : (j + 1) % (hullOf ps).length < (hullOf ps).length := Nat.mod_lt _ m0
  have jne : j ≠ (j + 1) % (hullOf ps).length := by
    rcases Nat.lt_or_ge (j + 1) (hullOf ps).length with k | k
    · rw [Nat.mod_eq_of_lt k]; omega
    · rw [show j + 1 = (hullOf ps).length by omega, Nat.mod_self]; omega
  have jl : j ≠ l := fun e => by
    subst e
    exact ine (gpn_inj h.nodup hi hi' (by rw [← ej, el]))
  have t1 := h.left i hi (gp (hullOf ps) ((j + 1) % (hullOf ps).length)) (hullOf_sub (gp_mem hj'))
  have t2 := hull_left (hullOf_sub (gp_mem hlt)) hj
  rw [← ej, ← el] at t1
  have sw : trn (gp (hullOf ps) j) (gp (hullOf ps) ((j + 1) % (hullOf ps).length)) (gp (hullOf ps) l) = -trn (gp (hullOf ps) j) (gp (hullOf ps) l) (gp (hullOf ps) ((j + 1) % (hullOf ps).length)) := by unfold trn; grind
  have e : (j + 1) % (hullOf ps).length = l := by
    refine Decidable.byContradiction fun hne => ?_
    exact ci_ne ci hj hj' hlt jne hne (fun e => jl e.symm) (by omega)
  show F _ _ = f _
  rw [← ej, fi j hj, e, el]
/-- A point of the ring that is no corner of the hull can be left out. -/
theorem Wc.cut {ps c : List Pt} (h : Wc ps c) (h3 : 3 ≤ (hullOf ps).length) {b : Pt} (hb : b ∈ c) (hn : b ∉ hullOf ps) : ∃ c', Wc ps c' ∧ c'.length + 1 = c.length ∧ edgeSum crP c' = edgeSum crP c := by
  have hl := h.len h3
  obtain ⟨k, hk, ek⟩ := gp_of_mem hb
  have L := rotP_len c k
  -- the ring from b on
  obtain ⟨x, rest, hr⟩ : ∃ x rest, rotP c k = x :: rest := by
    cases e : rotP c k with
    | nil => rw [e] at L; simp at L; omega
    | cons x r => exact ⟨x, r, rfl⟩
  have ex : x = b := by
    have := rotP_at hk (j := 0) (by omega)
    rw [hr] at this
    rw [Nat.add_zero, Nat.mod_eq_of_lt hk, ek] at this
    exact this
  subst ex
  have L' : rest.length + 1 = c.length := by rw [← L, hr]; rfl
  have lf : ∀ i, i < (x :: rest).length → ∀ q ∈ ps, 0 ≤ trn (gp (x :: rest) i) (gp (x :: rest) ((i + 1) % (x :: rest).length)) q := fun i hi q hq => by
    have l1 : (x :: rest).length = c.length := by rw [← hr]; exact L
    rw [l1] at hi ⊢
    rw [← hr, rotP_at hk hi, rotP_at hk (Nat.mod_lt _ (by omega))]
    have := h.left ((k + i) % c.length) (Nat.mod_lt _ (by omega)) q hq
    rw [Nat.mod_add_mod] at this
    rw [Nat.add_mod_mod, ← Nat.add_assoc]
    exact this
  have nd : (x :: rest).Nodup := by
    have : (rotP c k).Nodup := by
      unfold rotP
      exact List.perm_append_comm.nodup_iff.1 (by rw [List.take_append_drop]; exact h.nodup)
    rwa [hr] at this
  have mem : ∀ p, p ∈ x :: rest ↔ p ∈ c := fun p => by rw [← hr]; exact rotP_mem
  have es : edgeSum crP (x :: rest) = edgeSum crP c := by rw [← hr]; exact edge_rot crP hk
  obtain ⟨m, hm⟩ : ∃ m, rest.length = m + 2 := ⟨rest.length - 2, by omega⟩
  have lc : (x :: rest).length = m + 3 := by simp; omega
  have g0 : gp (x :: rest) 0 = x := rfl
  have gs : ∀ i, gp (x :: rest) (i + 1) = gp rest i := fun i => rfl
  have eL := lf (m + 2) (by omega)
  have eF := lf 0 (by omega)
  rw [lc, show (m + 2 + 1) % (m + 3) = 0 by rw [show m + 2 + 1 = m + 3 by omega, Nat.mod_self], g0, show m + 2 = m + 1 + 1 by omega, gs] at eL
  rw [lc, show (0 + 1) % (m + 3) = 0 + 1 by rw [Nat.mod_eq_of_lt (by omega)], g0, gs] at eF
  have ha : gp rest (m + 1) ∈ ps := h.sub _ ((mem _).1 (List.mem_cons_of_mem _ (gp_mem (by omega))))
  have hx : gp rest 0 ∈ ps := h.sub _ ((mem _).1 (List.mem_cons_of_mem _ (gp_mem (by omega))))
  -- the corner at x is flat
  have flat : trn (gp rest (m + 1)) x (gp rest 0) = 0 := by
    refine Decidable.byContradiction fun hne => hn ?_
    have hpos : 0 < trn (gp rest (m + 1)) x (gp rest 0) := by have := eL _ hx; omega
    obtain ⟨v, hv, hle⟩ := hull_far (h.sub _ hb) ((gp rest 0).y - (gp rest (m + 1)).y) ((gp rest (m + 1)).x - (gp rest 0).x)
    have hvp := hullOf_sub hv
    have p1 := eL v hvp
    have p2 := eF v hvp
    unfold dotP at hle
    have sm : trn (gp rest (m + 1)) x v + trn x (gp rest 0) v = (x.x * ((gp rest 0).y - (gp rest (m + 1)).y) + x.y * ((gp rest (m + 1)).x - (gp rest 0).x)) - (v.x * ((gp rest 0).y - (gp rest (m + 1)).y) + v.y * ((gp rest (m + 1)).x - (gp rest 0).x)) := by unfold trn; grind
    have z1 : trn (gp rest (m + 1)) x v = 0 := by omega
    have z2 : trn x (gp rest 0) v = 0 := by omega
    have k1 : (v.x - x.x) * trn (gp rest (m + 1)) x (gp rest 0) = ((gp rest 0).x - x.x) * trn (gp rest (m + 1)) x v - (x.x - (gp rest (m + 1)).x) * trn x (gp rest 0) v := by unfold trn; grind
    have k2 : (v.y - x.y) * trn (gp rest (m + 1)) x (gp rest 0) = ((gp rest 0).y - x.y) * trn (gp rest (m + 1)) x v - (x.y - (gp rest (m + 1)).y) * trn x (gp rest 0) v := by unfold trn; grind
    rw [z1, z2, Int.mul_zero, Int.mul_zero] at k1 k2
    have : v = x := pt_eq (by rcases Int.mul_eq_zero.1 (show (v.x - x.x) * trn (gp rest (m + 1)) x (gp rest 0) = 0 by omega) with e | e <;> omega) (by rcases Int.mul_eq_zero.1 (show (v.y - x.y) * trn (gp rest (m + 1)) x (gp rest 0) = 0 by omega) with e | e <;> omega)
    rw [← this]; exact hv
  refine ⟨rest, ⟨(List.nodup_cons.1 nd).2, fun p hp => h.sub _ ((mem _).1 (List.mem_cons_of_mem _ hp)), fun i hi q hq => ?_, fun p hp => ?_⟩, L', ?_⟩
  · rw [hm] at hi ⊢
    rcases Nat.lt_or_ge (i + 1) (m + 2) with c | c
    · rw [Nat.mod_eq_of_lt c]
      have := lf (i + 1) (by omega) q hq
      rw [lc, Nat.mod_eq_of_lt (show i + 1 + 1 < m + 3 by omega), gs, gs] at this
      exact this
    · have ei : i = m + 1 := by omega
      rw [ei, show m + 1 + 1 = m + 2 by omega, Nat.mod_self]
      have p1 := eL q hq
      have p2 := eF q hq
      have e : trn (gp rest (m + 1)) (gp rest 0) q = trn (gp rest (m + 1)) x q + trn x (gp rest 0) q - trn (gp rest (m + 1)) x (gp rest 0) := by unfold trn; grind
      omega
  · rcases List.mem_cons.1 ((mem p).2 (h.has p hp)) with e | e
    · subst e; exact absurd hp hn
    · exact e
  · rw [← es]
    unfold edgeSum
    rw [lc, hm]
    have q1 := sumN_split (fun k => crP (gp rest k) (gp rest ((k + 1) % (m + 2)))) (m + 1) 1
    have q2 := sumN_split (fun k => crP (gp (x :: rest) k) (gp (x :: rest) ((k + 1) % (m + 3)))) 1 (m + 2)
    have q3 := sumN_split (fun j => crP (gp (x :: rest) (1 + j)) (gp (x :: rest) ((1 + j + 1) % (m + 3)))) (m + 1) 1
    rw [show m + 1 + 1 = m + 2 by omega] at q1 q3
    rw [show 1 + (m + 2) = m + 3 by omega] at q2
    rw [q1, q2, q3]
    have c1 : sumN (fun j => crP (gp (x :: rest) (1 + j)) (gp (x :: rest) ((1 + j + 1) % (m + 3)))) (m + 1) = sumN (fun k => crP (gp rest k) (gp rest ((k + 1) % (m + 2)))) (m + 1) := sumN_congr fun j hj => by
      rw [Nat.mod_eq_of_lt (show 1 + j + 1 < m + 3 by omega), Nat.mod_eq_of_lt (show j + 1 < m + 2 by omega), show 1 + j + 1 = (j + 1) + 1 by omega, show 1 + j = j + 1 by omega, gs, gs]
    rw [c1]
    have d1 : sumN (fun j => crP (gp rest (m + 1 + j)) (gp rest ((m + 1 + j + 1) % (m + 2)))) 1 = crP (gp rest (m + 1)) (gp rest 0) := by
      show 0 + crP (gp rest (m + 1 + 0)) (gp rest ((m + 1 + 0 + 1) % (m + 2))) = _
      rw [Nat.add_zero, show m + 1 + 1 = m + 2 by omega, Nat.mod_self]; omega
    have d2 : sumN (fun k => crP (gp (x :: rest) k) (gp (x :: rest) ((k + 1) % (m + 3)))) 1 = crP x (gp rest 0) := by
      show 0 + crP (gp (x :: rest) 0) (gp (x :: rest) ((0 + 1) % (m + 3))) = _
      rw [Nat.mod_eq_of_lt (show 0 + 1 < m + 3 by omega), g0, gs]; omega
    have d3 : sumN (fun j => crP (gp (x :: rest) (1 + (m + 1 + j))) (gp (x :: rest) ((1 + (m + 1 + j) + 1) % (m + 3)))) 1 = crP (gp rest (m + 1)) x := by
      show 0 + crP (gp (x :: rest) (1 + (m + 1 + 0))) (gp (x :: rest) ((1 + (m + 1 + 0) + 1) % (m + 3))) = _
      rw [show 1 + (m + 1 + 0) + 1 = m + 3 by omega, Nat.mod_self, show 1 + (m + 1 + 0) = m + 1 + 1 by omega, g0, gs]; omega
    rw [d1, d2, d3]
    have e : trn (gp rest (m + 1)) x (gp rest 0) = crP (gp rest (m + 1)) x + crP x (gp rest 0) - crP (gp rest (m + 1)) (gp rest 0) := by unfold trn crP; grind
    omega
theorem Wc.area {ps : List Pt} (h3 : 3 ≤ (hullOf ps).length) : ∀ (n : Nat) (c : List Pt), c.length = n → Wc ps c → edgeSum crP c = edgeSum crP (hullOf ps)
  | 0, c, hn, h => by have := h.len h3; omega
  | n + 1, c, hn, h => by
    by_cases hs : ∀ p ∈ c, p ∈ hullOf ps
    · exact h.same h3 hs crP
    · obtain ⟨b, hb⟩ := Classical.not_forall.1 hs
      obtain ⟨hb, hnb⟩ := Classical.not_imp.1 hb
      obtain ⟨c', h', l', e'⟩ := h.cut h3 hb hnb
      rw [← e']
      exact Wc.area h3 n c' (by omega) h'
/-- A corner of the hull: a line through it has all points on one side. -/
theorem hull_BdP {ps : List Pt} (h3 : 3 ≤ (hullOf ps).length) {p : Pt} (hp : p ∈ hullOf ps) : BdP ps p := by
  have m0 : 0 < (hullOf ps).length := by omega
  have hnd := hullOf_nodup ps
  obtain ⟨j, hj, rfl⟩ := gp_of_mem hp
  have hj' : (j + 1) % (hullOf ps).length < (hullOf ps).length := Nat.mod_lt _ m0
  have jne : j ≠ (j + 1) % (hullOf ps).length := by
    rcases Nat.lt_or_ge (j + 1) (hullOf ps).length with k | k
    · rw [Nat.mod_eq_of_lt k]; omega
    · rw [show j + 1 = (hullOf ps).length by omega, Nat.mod_self]; omega
  refine ⟨(gp (hullOf ps) ((j + 1) % (hullOf ps).length)).x - (gp (hullOf ps) j).x, (gp (hullOf ps) ((j + 1) % (hullOf ps).length)).y - (gp (hullOf ps) j).y, ?_, fun x hx => hull_left hx hj⟩
  refine Decidable.byContradiction fun hno => jne (gpn_inj hnd hj hj' (pt_eq (by omega) (by omega)))
theorem fat_wc {ps : List Pt} {R : List Nat} (h : Fat ps ps.length R) (hO : Ord ps) (h3 : 3 ≤ (hullOf ps).length) : Wc ps (R.map (gp ps)) := by
  have m0 : 0 < R.length := by have := h.two; omega
  have hlt : ∀ x ∈ R, x < ps.length := fun x hx => by
    obtain ⟨j, _, e⟩ := gm_of_mem hx
    rw [← e]; exact h.lt j
  have gR : ∀ i, i < R.length → gp (R.map (gp ps)) i = gp ps (gm R i) := fun i hi => by
    rw [gp_lt (by rw [List.length_map]; exact hi), List.getElem_map, gm_lt hi, gn_lt hi]
  refine ⟨?_, fun p hp => ?_, fun i hi q hq => ?_, fun p hp => ?_⟩
  · rw [List.nodup_iff_pairwise_ne, List.pairwise_map]
    refine List.Pairwise.imp_of_mem ?_ h.nodup
    intro a b ha hb hab e
    rcases Nat.lt_or_gt_of_ne hab with c | c
    · exact ltP_ne (hO a b c (hlt b hb)) e
    · exact ltP_ne (hO b a c (hlt a ha)) e.symm
  · obtain ⟨x, hx, rfl⟩ := List.mem_map.1 hp
    exact gp_mem (hlt x hx)
  · rw [List.length_map] at hi ⊢
    rw [gR i hi, gR _ (Nat.mod_lt _ m0), gm_mod]
    obtain ⟨d, hd, rfl⟩ := gp_of_mem hq
    exact h.left i d hd
  · have hps := hullOf_sub hp
    obtain ⟨i, hi, rfl⟩ := gp_of_mem hps
    exact List.mem_map.2 ⟨i, (h.mem_iff hO hi).2 (hull_BdP h3 hp), rfl⟩
theorem ring_area {ps : List Pt} {R : List Nat} (h : Fat ps ps.length R) (hO : Ord ps) (h3 : 3 ≤ (hullOf ps).length) : ChF (fun x y => crP (gp ps x) (gp ps y)) R = areaL (hullOf ps) := by
  have m0 : 0 < R.length := by have := h.two; omega
  rw [area_sum, ← Wc.area h3 _ _ rfl (fat_wc h hO h3)]
  unfold ChF edgeSum
  rw [List.length_map]
  refine sumN_congr fun i hi => ?_
  have gR : ∀ i, i < R.length → gp (R.map (gp ps)) i = gp ps (gm R i) := fun i hi => by
    rw [gp_lt (by rw [List.length_map]; exact hi), List.getElem_map, gm_lt hi, gn_lt hi]
  rw [gR i hi, gR _ (Nat.mod_lt _ m0), gm_mod]
theorem sd_trn (ps : List Pt) (t : Tri3) : sdF (fun x y => crP (gp ps x) (gp ps y)) t = trnT ps t := by unfold sdF trnT crP trn; grind
theorem smT_congr {f g : Tri3 → Int} (h : ∀ t, f t = g t) : ∀ T, smT f T = smT g T
  | [] => rfl
  | t :: T => by rw [smT, smT, h, smT_congr h T]
theorem mesh_area {ps : List Pt} {T0 T : List Tri3} {R : List Nat} (h : Mesh ps T0 T) (hR : Fat ps ps.length R) (hO : Ord ps) (h3 : 3 ≤ (hullOf ps).length) (hS : ∀ F : Nat → Nat → Int, (∀ x y, F y x = -F x y) → ChF F R = TF F T0) : smT (trnT ps) T = areaL (hullOf ps) := by
  rw [← ring_area hR hO h3, hS _ (fun x y => crP_swap _ _), ← h.sum _ (fun x y => crP_swap _ _), TF_sm]
  exact (smT_congr (sd_trn ps) T).symm
end Go.Proofs.Ytcebmcbglhkkfaa
