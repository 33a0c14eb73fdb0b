
import Derived.Test.YtelhidonhldjeaaCrvQ
import Derived.Test.YtelhidonhldjeaaCrvJ
/- Simple, told back: a ring of the curve theorem is simple by the program's test; rings turned and reversed. -/
set_option linter.unusedVariables false
set_option linter.unusedSimpArgs false
namespace Go.Proofs.Ytelhidonhldjeaa

theorem pt_ne {p q : Pt} (h : p ≠ q) : p.x - q.x ≠ 0 ∨ p.y - q.y ≠ 0 := by
  by_cases a : p.x = q.x
  · by_cases b : p.y = q.y
    · exact absurd (by cases p; cases q; simp_all) h
    · exact .inr (by omega)
  · exact .inl (by omega)
theorem opp_off {o q r : Pt} (hoq : o ≠ q) (hqr : q ≠ r) (p : Opp o q r) : onSeg o q r = false ∧ onSeg q r o = false := by
  by_cases h0 : trn o q r = 0
  · have hl := p h0
    have n1 := pt_ne hoq
    have n2 := pt_ne hqr
    have D := dot_pos (u1 := o.x - q.x) (u2 := o.y - q.y) (v1 := q.x - r.x) (v2 := q.y - r.y) (by unfold trn at h0; grind) n1 n2 (by unfold LowP at hl; omega)
    have S1 := sq_nonneg' (q.x - r.x)
    have S2 := sq_nonneg' (q.y - r.y)
    have S3 := sq_nonneg' (o.x - q.x)
    have S4 := sq_nonneg' (o.y - q.y)
    constructor
    · rw [← Bool.not_eq_true]
      intro h
      unfold onSeg at h
      simp only [Bool.and_eq_true, decide_eq_true_eq] at h
      have e : (o.x - r.x) * (q.x - r.x) + (o.y - r.y) * (q.y - r.y) = ((o.x - q.x) * (q.x - r.x) + (o.y - q.y) * (q.y - r.y)) + ((q.x - r.x) * (q.x - r.x) + (q.y - r.y) * (q.y - r.y)) := by grind
      omega
    · rw [← Bool.not_eq_true]
      intro h
      unfold onSeg at h
      simp only [Bool.and_eq_true, decide_eq_true_eq] at h
      have e : (q.x - o.x) * (r.x - o.x) + (q.y - o.y) * (r.y - o.y) = ((o.x - q.x) * (q.x - r.x) + (o.y - q.y) * (q.y - r.y)) + ((o.x - q.x) * (o.x - q.x) + (o.y - q.y) * (o.y - q.y)) := by grind
      omega
  · exact ⟨onS_no h0, onS_no (by rw [show trn q r o = trn o q r by unfold trn; grind]; exact h0)⟩
theorem Opp.rev {o q r : Pt} (p : Opp o q r) : Opp r q o := fun h => by
  have := p (by unfold trn at *; grind)
  by_cases a : LowP q o <;> by_cases b : LowP q r <;> simp_all
theorem rel_one {s t : Sg} (h : (cmn s t).length = 1) : relI s t = 1 := by unfold relI relOf; rw [h]; rfl
theorem adj_rel {ps : List Pt} (h : Sim ps) {j : Nat} (hj : j < ps.length) : relI (edgeAt ps ((j + 1) % ps.length)) (edgeAt ps j) = 1 ∧ relI (edgeAt ps j) (edgeAt ps ((j + 1) % ps.length)) = 1 := by
  have h3 := h.three
  have h1 : (j + 1) % ps.length < ps.length := Nat.mod_lt _ (by omega)
  have h2 : (j + 2) % ps.length < ps.length := Nat.mod_lt _ (by omega)
  have m1 := mod_next hj
  have m2 := mod_next h1
  rw [mod2] at m2
  have n1 : gp ps j ≠ gp ps ((j + 1) % ps.length) := sim_ne h hj h1 (by split at m1 <;> omega)
  have n2 : gp ps ((j + 1) % ps.length) ≠ gp ps ((j + 2) % ps.length) := sim_ne h h1 h2 (by split at m2 <;> omega)
  obtain ⟨o1, o2⟩ := opp_off n1 n2 (h.opp j hj)
  have e1 : edgeAt ps j = (gp ps j, gp ps ((j + 1) % ps.length)) := rfl
  have e2 : edgeAt ps ((j + 1) % ps.length) = (gp ps ((j + 1) % ps.length), gp ps ((j + 2) % ps.length)) := by unfold edgeAt; rw [mod2]
  rw [e1, e2]
  constructor
  · refine rel_one (of_decide_eq_true ?_)
    rw [touch_len (s := (gp ps ((j + 1) % ps.length), gp ps ((j + 2) % ps.length))) (t := (gp ps j, gp ps ((j + 1) % ps.length))) n2 n1 (u := gp ps ((j + 1) % ps.length)) (w := gp ps ((j + 2) % ps.length)) (x := gp ps j) (.inl ⟨rfl, rfl⟩) (.inr ⟨rfl, rfl⟩) o1]
    unfold onS
    rw [o2]; rfl
  · refine rel_one (of_decide_eq_true ?_)
    rw [touch_len (s := (gp ps j, gp ps ((j + 1) % ps.length))) (t := (gp ps ((j + 1) % ps.length), gp ps ((j + 2) % ps.length))) n1 n2 (u := gp ps ((j + 1) % ps.length)) (w := gp ps j) (x := gp ps ((j + 2) % ps.length)) (.inr ⟨rfl, rfl⟩) (.inl ⟨rfl, rfl⟩) o2]
    unfold onS
    rw [o1]; rfl
/-- A ring of the curve theorem with valid points is simple by the test. -/
theorem sim_simB {ps : List Pt} (h : Sim ps) (hl : listOk ps = true) : simB ps = true := by
  have h3 := h.three
  unfold simB
  rw [Bool.and_eq_true]
  refine ⟨?_, ?_⟩
  · unfold ringB
    rw [hl, decide_eq_true h3, decide_eq_true (sortP_nodup h.nodup)]; rfl
  · rw [pairsB_iff]
    intro i hi k hk
    have hkl : k < ps.length := by omega
    have mi := mod_next hi
    have mk := mod_next hkl
    unfold pairI
    rw [beq_iff_eq]
    by_cases hn : i = k + 1 ∨ i + 1 = k + ps.length
    · rw [if_pos (by unfold nextTo; simp only [Bool.or_eq_true, decide_eq_true_eq]; exact hn)]
      rcases hn with hn | hn
      · have e : i = (k + 1) % ps.length := by split at mk <;> omega
        rw [e]; exact (adj_rel h hkl).1
      · have e : k = (i + 1) % ps.length := by split at mi <;> omega
        rw [e]; exact (adj_rel h hi).2
    · rw [if_neg (by unfold nextTo; simp only [Bool.or_eq_true, decide_eq_true_eq]; exact hn)]
      exact dj_rel (h.apart k i hkl hi (by omega) (by split at mk <;> omega) (by split at mi <;> omega))
theorem nodup_of {ps : List Pt} (h : ∀ i j, i < ps.length → j < ps.length → gp ps i = gp ps j → i = j) : ps.Nodup := by
  unfold List.Nodup
  rw [List.pairwise_iff_getElem]
  intro i j hi hj hij e
  have := h i j hi hj (by rw [gp_lt hi, gp_lt hj]; exact e)
  omega
theorem rot_ix {n k j : Nat} : (k + (j + 1) % n) % n = ((k + j) % n + 1) % n := by rw [Nat.add_mod_mod, Nat.mod_add_mod]; rfl
theorem rot_ix2 {n k j : Nat} : (k + (j + 2) % n) % n = ((k + j) % n + 2) % n := by rw [Nat.add_mod_mod, Nat.mod_add_mod]; rfl
theorem sim_rot {ps qs : List Pt} (h : Sim ps) (hl : qs.length = ps.length) {k : Nat} (hk : k < ps.length) (he : ∀ j, j < ps.length → gp qs j = gp ps ((k + j) % ps.length)) : Sim qs := by
  have h3 := h.three
  have lt : ∀ j, (k + j) % ps.length < ps.length := fun j => Nat.mod_lt _ (by omega)
  have lm : ∀ j, j % ps.length < ps.length := fun j => Nat.mod_lt _ (by omega)
  have inj : ∀ {i j}, i < ps.length → j < ps.length → (k + i) % ps.length = (k + j) % ps.length → i = j := fun hi hj e => am_inj hk hi hj e
  refine ⟨by rw [hl]; exact h3, nodup_of fun i j hi hj e => ?_, fun i j hi hj n1 n2 n3 => ?_, fun i hi => ?_⟩
  · rw [hl] at hi hj
    rw [he i hi, he j hj] at e
    exact inj hi hj (gp_inj h.nodup (lt _) (lt _) e)
  · rw [hl] at hi hj n2 n3 ⊢
    rw [he i hi, he j hj, he _ (lm _), he _ (lm _), rot_ix, rot_ix]
    exact h.apart _ _ (lt i) (lt j) (fun e => n1 (inj hj hi e)) (fun e => n2 (inj hj (lm _) (by rw [rot_ix]; exact e))) (fun e => n3 (inj hi (lm _) (by rw [rot_ix]; exact e)))
  · rw [hl] at hi ⊢
    rw [he i hi, he _ (lm _), he _ (lm _), rot_ix, rot_ix2]
    exact h.opp _ (lt i)
theorem rev_ix {n j : Nat} (hj : j < n) : (n - 1 - (j + 1) % n + 1) % n = n - 1 - j := by
  have := mod_next hj
  split at this
  · rw [this, show n - 1 - 0 + 1 = n by omega, Nat.mod_self]; omega
  · rw [this, Nat.mod_eq_of_lt (by omega)]; omega
theorem sim_rev {ps qs : List Pt} (h : Sim ps) (hl : qs.length = ps.length) (he : ∀ j, j < ps.length → gp qs j = gp ps (ps.length - 1 - j)) : Sim qs := by
  have h3 := h.three
  have lm : ∀ j, j % ps.length < ps.length := fun j => Nat.mod_lt _ (by omega)
  have lr : ∀ j, ps.length - 1 - j < ps.length := fun j => by omega
  refine ⟨by rw [hl]; exact h3, nodup_of fun i j hi hj e => ?_, fun i j hi hj n1 n2 n3 => ?_, fun i hi => ?_⟩
  · rw [hl] at hi hj
    rw [he i hi, he j hj] at e
    have := gp_inj h.nodup (lr _) (lr _) e
    omega
  · rw [hl] at hi hj n2 n3 ⊢
    have l1 := lm (i + 1)
    have l2 := lm (j + 1)
    rw [he i hi, he j hj, he _ l1, he _ l2]
    have D := h.apart (ps.length - 1 - (i + 1) % ps.length) (ps.length - 1 - (j + 1) % ps.length) (lr _) (lr _)
      (fun e => n1 (by have a1 := mod_next hi; have a2 := mod_next hj; split at a1 <;> split at a2 <;> omega)) (by rw [rev_ix hi]; omega) (by rw [rev_ix hj]; omega)
    rw [rev_ix hi, rev_ix hj] at D
    exact D.swap1.swap2
  · rw [hl] at hi ⊢
    have l1 := lm (i + 1)
    have l2 := lm (i + 2)
    rw [he i hi, he _ l1, he _ l2]
    have e2 := rev_ix l1
    rw [mod2] at e2
    have P := h.opp (ps.length - 1 - (i + 2) % ps.length) (lr _)
    rw [e2] at P
    have e3 : (ps.length - 1 - (i + 2) % ps.length + 2) % ps.length = ps.length - 1 - i := by
      rw [← rev_ix hi, ← e2, mod2]
    rw [e3] at P
    exact P.rev
/-! ### lists -/
theorem gp_app1 {a b : List Pt} {i : Nat} (h : i < a.length) : gp (a ++ b) i = gp a i := by
  unfold gp; rw [List.getD_eq_getElem?_getD, List.getD_eq_getElem?_getD, List.getElem?_append_left h]
theorem gp_app2 {a b : List Pt} {i : Nat} (h : a.length ≤ i) : gp (a ++ b) i = gp b (i - a.length) := by
  unfold gp; rw [List.getD_eq_getElem?_getD, List.getD_eq_getElem?_getD, List.getElem?_append_right h]
def rotP (ps : List Pt) (k : Nat) : List Pt := ps.drop k ++ ps.take k
theorem rotP_len (ps : List Pt) (k : Nat) : (rotP ps k).length = ps.length := by unfold rotP; simp; omega
theorem gp_drop (ps : List Pt) (k i : Nat) : gp (ps.drop k) i = gp ps (k + i) := by
  unfold gp; simp [List.getD_eq_getElem?_getD]
theorem gp_take {ps : List Pt} {k i : Nat} (h : i < k) : gp (ps.take k) i = gp ps i := by
  unfold gp; simp [List.getD_eq_getElem?_getD, List.getElem?_take, h]
theorem rotP_at {ps : List Pt} {k : Nat} (hk : k < ps.length) {j : Nat} (hj : j < ps.length) : gp (rotP ps k) j = gp ps ((k + j) % ps.length) := by
  unfold rotP
  rw [am hk (show j ≤ ps.length by omega)]
  by_cases h : k + j < ps.length
  · rw [if_pos h, gp_app1 (by rw [List.length_drop]; omega), gp_drop]
  · rw [if_neg h, gp_app2 (by rw [List.length_drop]; omega), List.length_drop, gp_take (by omega)]
    congr 1; omega
theorem rev_at {ps : List Pt} {j : Nat} (hj : j < ps.length) : gp ps.reverse j = gp ps (ps.length - 1 - j) := by
  unfold gp; rw [List.getD_eq_getElem?_getD, List.getD_eq_getElem?_getD, List.getElem?_reverse hj]
theorem rotP_mem {ps : List Pt} {k : Nat} {p : Pt} : p ∈ rotP ps k ↔ p ∈ ps := by
  unfold rotP
  rw [List.mem_append, or_comm, ← List.mem_append, List.take_append_drop]
theorem simB_rot {ps : List Pt} (h : simB ps = true) {k : Nat} (hk : k < ps.length) (hl : listOk (rotP ps k) = true) : simB (rotP ps k) = true := sim_simB (sim_rot (sim_of h) (rotP_len ps k) hk (fun j hj => rotP_at hk hj)) hl
theorem simB_rev {ps : List Pt} (h : simB ps = true) (hl : listOk ps.reverse = true) : simB ps.reverse = true := sim_simB (sim_rev (sim_of h) (List.length_reverse ..) (fun j hj => rev_at hj)) hl
end Go.Proofs.Ytelhidonhldjeaa
/- The canonical form of a polygon; a convex ring that begins with its least point is its own hull. -/
set_option linter.unusedVariables false
set_option linter.unusedSimpArgs false
namespace Go.Proofs.Ytelhidonhldjeaa

/-! ### a convex ring is its own hull -/
theorem pw_ext {R : Pt → Pt → Prop} (hx : ∀ a b, R a b → R b a → False) : ∀ {l l' : List Pt}, l.Pairwise R → l'.Pairwise R → (∀ q, q ∈ l ↔ q ∈ l') → l = l'
  | [], [], _, _, _ => rfl
  | [], b :: r, _, _, h => absurd ((h b).2 (by simp)) (by simp)
  | a :: r, [], _, _, h => absurd ((h a).1 (by simp)) (by simp)
  | a :: r, b :: s, h1, h2, h => by
    rw [List.pairwise_cons] at h1 h2
    have hab : a = b := by
      by_cases e : a = b
      · exact e
      · exfalso
        have ha : a ∈ s := by
          have := (h a).1 (by simp)
          rw [List.mem_cons] at this
          exact this.resolve_left e
        have hb : b ∈ r := by
          have := (h b).2 (by simp)
          rw [List.mem_cons] at this
          exact this.resolve_left (fun e2 => e e2.symm)
        exact hx _ _ (h1.1 b hb) (h2.1 a ha)
    subst hab
    congr 1
    refine pw_ext hx h1.2 h2.2 fun q => ?_
    constructor
    · intro hq
      have := (h q).1 (by simp [hq])
      rw [List.mem_cons] at this
      rcases this with e | hs
      · subst e; exact absurd (h1.1 q hq) (fun r => hx _ _ r r)
      · exact hs
    · intro hq
      have := (h q).2 (by simp [hq])
      rw [List.mem_cons] at this
      rcases this with e | hs
      · subst e; exact absurd (h2.1 q hq) (fun r => hx _ _ r r)
      · exact hs
/-- No point with all others strictly on one side is above a segment and below another one. -/
theorem no_low {A B : Int} {p s t : Pt} (h1 : ltP s p) (h2 : ltP p t) (ht : trn s p t ≤ 0) (fs : 0 < A * (s.x - p.x) + B * (s.y - p.y)) (ft : 0 < A * (t.x - p.x) + B * (t.y - p.y)) : B < 0 := by
  have l0 : 0 ≤ t.x - p.x := by unfold ltP at h2; omega
  have m0 : 0 ≤ p.x - s.x := by unfold ltP at h1; omega
  have e : (t.x - p.x) * (A * (s.x - p.x) + B * (s.y - p.y)) + (p.x - s.x) * (A * (t.x - p.x) + B * (t.y - p.y)) = B * trn s p t := by unfold trn; grind
  by_cases hB : B < 0
  · exact hB
  · exfalso
    have hle : B * trn s p t ≤ 0 := by
      have := Int.mul_nonneg (show 0 ≤ B by omega) (show 0 ≤ -(trn s p t) by omega)
      rw [Int.mul_neg] at this; omega
    by_cases z1 : t.x = p.x
    · by_cases z2 : p.x = s.x
      · have y1 : s.y < p.y := by unfold ltP at h1; omega
        rw [show s.x - p.x = 0 by omega, Int.mul_zero] at fs
        have := Int.mul_nonneg (show 0 ≤ B by omega) (show 0 ≤ p.y - s.y by omega)
        have e2 : B * (s.y - p.y) = -(B * (p.y - s.y)) := by grind
        omega
      · have := Int.mul_pos (show 0 < p.x - s.x by omega) ft
        rw [show t.x - p.x = 0 by omega, Int.zero_mul] at e
        rw [show t.x - p.x = 0 by omega] at this
        omega
    · have q1 := Int.mul_pos (show 0 < t.x - p.x by omega) fs
      have q2 := Int.mul_nonneg m0 (Int.le_of_lt ft)
      omega
theorem conv_mem {c : List Pt} (hc : ConvP c) (hd : c.Nodup) (h3 : 3 ≤ c.length) {p : Pt} (hp : p ∈ c) : p ∈ hullOf c := by
  obtain ⟨j, hj, rfl⟩ := gp_of_mem hp
  obtain ⟨i, hi, hij⟩ : ∃ i, i < c.length ∧ (i + 1) % c.length = j := ⟨_, (pred_ex hj).1, (pred_ex hj).2⟩
  have hn : (j + 1) % c.length < c.length := Nat.mod_lt _ (by omega)
  have mi := mod_next hi
  have mj := mod_next hj
  have F : ∀ v, v < c.length → v ≠ j → 0 < ((gp c i).y - (gp c ((j + 1) % c.length)).y) * ((gp c v).x - (gp c j).x) + ((gp c ((j + 1) % c.length)).x - (gp c i).x) * ((gp c v).y - (gp c j).y) := fun v hv hvj => by
    have e : ((gp c i).y - (gp c ((j + 1) % c.length)).y) * ((gp c v).x - (gp c j).x) + ((gp c ((j + 1) % c.length)).x - (gp c i).x) * ((gp c v).y - (gp c j).y) = trn (gp c i) (gp c j) (gp c v) + trn (gp c j) (gp c ((j + 1) % c.length)) (gp c v) := by unfold trn; grind
    rw [e]
    have g1 : v = i ∨ 0 < trn (gp c i) (gp c j) (gp c v) := by
      by_cases e : v = i
      · exact .inl e
      · have := left_of hc hd hi hv e (by rw [hij]; exact hvj)
        rw [hij] at this
        exact .inr this
    have g2 : v = (j + 1) % c.length ∨ 0 < trn (gp c j) (gp c ((j + 1) % c.length)) (gp c v) := by
      by_cases e : v = (j + 1) % c.length
      · exact .inl e
      · exact .inr (left_of hc hd hj hv hvj e)
    have z1 : v = i → trn (gp c i) (gp c j) (gp c v) = 0 := fun e => by rw [e]; exact trn_aba _ _
    have z2 : v = (j + 1) % c.length → trn (gp c j) (gp c ((j + 1) % c.length)) (gp c v) = 0 := fun e => by rw [e]; exact trn_abb _ _
    have ne : ¬ (v = i ∧ v = (j + 1) % c.length) := by rintro ⟨a, b⟩; split at mi <;> split at mj <;> omega
    rcases g1 with g1 | g1
    · rcases g2 with g2 | g2
      · exact absurd ⟨g1, g2⟩ ne
      · have := z1 g1; omega
    · rcases g2 with g2 | g2
      · have := z2 g2; omega
      · omega
  have FM : ∀ q, q ∈ c → q ≠ gp c j → 0 < ((gp c i).y - (gp c ((j + 1) % c.length)).y) * (q.x - (gp c j).x) + ((gp c ((j + 1) % c.length)).x - (gp c i).x) * (q.y - (gp c j).y) := fun q hq hne => by
    obtain ⟨v, hv, rfl⟩ := gp_of_mem hq
    exact F v hv (fun e => hne (by rw [e]))
  rw [hullOf_mem]
  by_cases h1 : gp c j ∈ lowL c
  · exact .inl h1
  by_cases h2 : gp c j ∈ upL c
  · exact .inr h2
  exfalso
  obtain ⟨s, t, hs, ht, l1, l2, le⟩ := low_cover hp (fun hh => h1 (lowL_mem.2 ⟨hp, hh⟩))
  obtain ⟨s', t', hs', ht', l1', l2', le'⟩ := up_cover hp (fun hh => h2 (upL_mem.2 ⟨hp, hh⟩))
  have ne1 := ltP_ne l1
  have ne2 := ltP_ne l2
  have ne3 := ltP_ne l1'
  have ne4 := ltP_ne l2'
  have b1 := no_low l1 l2 le (FM s (lowL_mem.1 hs).1 ne1) (FM t (lowL_mem.1 ht).1 ne2.symm)
  have f3 := FM s' (upL_mem.1 hs').1 ne3.symm
  have f4 := FM t' (upL_mem.1 ht').1 ne4
  have b2 := no_low (A := -((gp c i).y - (gp c ((j + 1) % c.length)).y)) (B := -((gp c ((j + 1) % c.length)).x - (gp c i).x)) (p := negP (gp c j)) (s := negP s') (t := negP t') (negP_lt.2 l1') (negP_lt.2 l2') (by rw [negP_trn]; exact le') (by unfold negP; simp only; grind) (by unfold negP; simp only; grind)
  omega
theorem hull_of_conv {c : List Pt} (hc : ConvP c) (hd : c.Nodup) (h3 : 3 ≤ c.length) (hm : ∀ q ∈ c, q = gp c 0 ∨ ltP (gp c 0) q) : hullOf c = c := by
  match c, hc, hd, h3, hm with
  | a :: b :: r, hc, hd, h3, hm =>
    have e0 : gp (a :: b :: r) 0 = a := rfl
    rw [e0] at hm
    have hmem : ∀ q, q ∈ hullOf (a :: b :: r) ↔ q ∈ a :: b :: r := fun q => ⟨hullOf_sub, conv_mem hc hd h3⟩
    have hab : a ≠ b := fun e => by rw [List.nodup_cons] at hd; exact hd.1 (by rw [e]; simp)
    have h2 : ¬ (sortP (a :: b :: r)).length < 2 := by have := sort_two (l := a :: b :: r) (by simp) (by simp) hab; omega
    have ha := (min_low (l := a :: b :: r) (m := a) (by simp) hm).1
    obtain ⟨m, m1, m2, m3⟩ := asc_min (lowL_asc (a :: b :: r)) (fun e => by rw [e] at ha; cases ha)
    have ema : m = a := by
      rcases m3 a ha with e | e
      · exact e.symm
      · rcases hm m (lowL_mem.1 m1).1 with e2 | e2
        · exact e2
        · exfalso; unfold ltP at e e2; omega
    obtain ⟨x, x1, x2⟩ := set_max (l := a :: b :: r) (by simp)
    have hx := (max_low x1 x2).1
    have hxa : x ≠ a := fun e => by
      rcases x2 b (by simp) with e2 | e2
      · exact hab (by rw [e2, e])
      · rcases hm b (by simp) with e3 | e3
        · exact hab e3.symm
        · rw [e] at e2; unfold ltP at e2 e3; omega
    obtain ⟨r', hr'⟩ : ∃ r', hullOf (a :: b :: r) = a :: r' := by
      unfold hullOf
      rw [if_neg h2]
      match hl : lowL (a :: b :: r), m2, hx, m1 with
      | [y], m2, hx, m1 =>
        simp only [List.head?_cons, Option.some.injEq] at m2
        simp only [List.mem_cons, List.not_mem_nil, or_false] at hx
        exact absurd (by rw [hx, m2, ema]) hxa
      | y :: z :: t, m2, hx, m1 =>
        simp only [List.head?_cons, Option.some.injEq] at m2
        exact ⟨_, by rw [List.dropLast_cons_cons, List.cons_append, m2, ema]⟩
    have hc' := hull_conv (a :: b :: r)
    have hd' := hullOf_nodup (a :: b :: r)
    rw [hr'] at hmem hc' hd' ⊢
    congr 1
    have P1 : (b :: r).Pairwise fun u v => 0 < trn a u v := List.pairwise_iff_forall_sublist.2 fun {u v} h => hc a u v (h.cons_cons a)
    have P2 : r'.Pairwise fun u v => 0 < trn a u v := List.pairwise_iff_forall_sublist.2 fun {u v} h => hc' a u v (h.cons_cons a)
    rw [List.nodup_cons] at hd hd'
    refine pw_ext (fun u v h1 h2 => by have : trn a v u = -trn a u v := (by unfold trn; grind); omega) P2 P1 fun q => ?_
    have := hmem q
    rw [List.mem_cons, List.mem_cons (l := b :: r)] at this
    constructor
    · intro hq
      rcases this.1 (.inr hq) with e | e
      · exact absurd (by rw [← e]; exact hq) hd'.1
      · exact e
    · intro hq
      rcases this.2 (.inr hq) with e | e
      · exact absurd (by rw [← e]; exact hq) hd.1
      · exact e
/-! ### the canonical form -/
def minTo (q : List Pt) : Nat → Nat
  | 0 => 0
  | k + 1 => if ltP (gp q k) (gp q (minTo q k)) then k else minTo q k
theorem minTo_lt {q : List Pt} (h0 : 0 < q.length) : ∀ k, k ≤ q.length → minTo q k < q.length
  | 0, _ => h0
  | k + 1, h => by
    unfold minTo
    split
    · omega
    · exact minTo_lt h0 k (by omega)
theorem minTo_le {q : List Pt} : ∀ (k j : Nat), j < k → ¬ ltP (gp q j) (gp q (minTo q k))
  | k + 1, j, h => by
    unfold minTo
    have ih := minTo_le (q := q) k
    split
    · rename_i hl
      by_cases e : j = k
      · subst e; unfold ltP; omega
      · have := ih j (by omega)
        unfold ltP at *; omega
    · rename_i hl
      by_cases e : j = k
      · subst e; exact hl
      · exact ih j (by omega)
def minIx (q : List Pt) : Nat := minTo q q.length
def canL (ps : List Pt) : List Pt := rotP (if areaL ps < 0 then ps.reverse else ps) (minIx (if areaL ps < 0 then ps.reverse else ps))
theorem min_only {q : List Pt} (hd : q.Nodup) {m : Nat} (hm : m < q.length) (h : ∀ j, j < q.length → ¬ ltP (gp q j) (gp q m)) : m = minIx q := by
  have h1 := minTo_lt (q := q) (by omega) q.length (Nat.le_refl _)
  have h2 := h (minIx q) h1
  have h3 := minTo_le (q := q) q.length m hm
  refine gp_inj hd hm h1 ?_
  unfold minIx at *
  generalize gp q m = a at *
  generalize gp q (minTo q q.length) = b at *
  unfold ltP at h2 h3
  cases a; cases b
  simp only [Pt.mk.injEq]
  simp only at h2 h3
  omega
theorem gp_ext {a b : List Pt} (hl : a.length = b.length) (h : ∀ j, j < a.length → gp a j = gp b j) : a = b := by
  refine List.ext_getElem hl fun j h1 h2 => ?_
  have := h j h1
  rw [gp_lt h1, gp_lt h2] at this
  exact this
theorem rot_can {q : List Pt} (hd : q.Nodup) {k : Nat} (hk : k < q.length) : rotP (rotP q k) (minIx (rotP q k)) = rotP q (minIx q) := by
  have hm : minIx (rotP q k) < q.length := by have := minTo_lt (q := rotP q k) (by rw [rotP_len]; omega) (rotP q k).length (Nat.le_refl _); rw [rotP_len] at this; unfold minIx; rw [rotP_len]; exact this
  have hM : (k + minIx (rotP q k)) % q.length = minIx q := by
    refine min_only hd (Nat.mod_lt _ (by omega)) fun j hj => ?_
    rw [← rotP_at hk hm]
    obtain ⟨i, hi, e⟩ := gp_of_mem (rotP_mem (k := k).2 (gp_mem hj))
    rw [← e]
    exact minTo_le _ i hi
  refine gp_ext (by rw [rotP_len, rotP_len, rotP_len]) fun j hj => ?_
  rw [rotP_len, rotP_len] at hj
  rw [rotP_at (by rw [rotP_len]; exact hm) (by rw [rotP_len]; exact hj), rotP_len, rotP_at hk (Nat.mod_lt _ (by omega)), rotP_at (by rw [← hM]; exact Nat.mod_lt _ (by omega)) hj, ← hM, Nat.mod_add_mod, Nat.add_mod_mod, Nat.add_assoc]
theorem rev_rot {ps : List Pt} {k : Nat} (hk : k ≤ ps.length) : (rotP ps k).reverse = rotP ps.reverse (ps.length - k) := by
  unfold rotP
  rw [List.reverse_append, List.drop_reverse, List.take_reverse, show ps.length - (ps.length - k) = k by omega]
/-! areas -/
theorem sumN_flip : ∀ (n : Nat) (f : Nat → Int), sumN (fun i => f (n - 1 - i)) n = sumN f n
  | 0, f => rfl
  | n + 1, f => by
    have h1 := sumN_split f 1 n
    have h2 := sumN_flip n (fun x => f (1 + x))
    rw [Nat.add_comm 1 n] at h1
    rw [h1]
    show sumN (fun i => f (n + 1 - 1 - i)) n + f (n + 1 - 1 - n) = sumN f 1 + _
    rw [← h2]
    have h3 : sumN (fun i => f (n + 1 - 1 - i)) n = sumN (fun i => f (1 + (n - 1 - i))) n := sumN_congr fun i hi => by rw [show n + 1 - 1 - i = 1 + (n - 1 - i) by omega]
    rw [h3, show n + 1 - 1 - n = 0 by omega]
    have h4 : sumN f 1 = f 0 := by simp [sumN]
    omega
theorem edge_rot (F : Pt → Pt → Int) {ps : List Pt} {k : Nat} (hk : k < ps.length) : edgeSum F (rotP ps k) = edgeSum F ps := by
  unfold edgeSum
  rw [rotP_len]
  have h := sumN_shift (fun m => F (gp ps m) (gp ps ((m + 1) % ps.length))) hk
  rw [← h]
  exact sumN_congr fun j hj => by rw [rotP_at hk hj, rotP_at hk (Nat.mod_lt _ (by omega)), rot_ix]
theorem edge_rev (F : Pt → Pt → Int) (hF : ∀ a b, F b a = -F a b) (ps : List Pt) : edgeSum F ps.reverse = -edgeSum F ps := by
  unfold edgeSum
  rw [List.length_reverse]
  by_cases h0 : ps.length = 0
  · rw [h0]; simp [sumN]
  have h1 : sumN (fun j => F (gp ps.reverse j) (gp ps.reverse ((j + 1) % ps.length))) ps.length = sumN (fun j => -F (gp ps (ps.length - 1 - (j + 1) % ps.length)) (gp ps ((ps.length - 1 - (j + 1) % ps.length + 1) % ps.length))) ps.length := sumN_congr fun j hj => by
    rw [rev_at hj, rev_at (Nat.mod_lt _ (by omega)), rev_ix hj, hF]
  have h2 := sumN_flip ps.length (fun m => -F (gp ps m) (gp ps ((m + 1) % ps.length)))
  have h3 : sumN (fun j => -F (gp ps (ps.length - 1 - (j + 1) % ps.length)) (gp ps ((ps.length - 1 - (j + 1) % ps.length + 1) % ps.length))) ps.length = sumN (fun i => -F (gp ps (ps.length - 1 - i)) (gp ps ((ps.length - 1 - i + 1) % ps.length))) ps.length := by
    by_cases h1' : ps.length = 1
    · rw [h1']; simp [sumN]
    · have := sumN_shift (fun i => -F (gp ps (ps.length - 1 - i)) (gp ps ((ps.length - 1 - i + 1) % ps.length))) (n := ps.length) (i := 1) (by omega)
      rw [← this]
      exact sumN_congr fun j hj => by rw [Nat.add_comm 1 j]
  rw [h1, h3, h2]
  have : ∀ (f : Nat → Int) n, sumN (fun m => -f m) n = -sumN f n := fun f n => by
    have := sumN_sub (fun _ => 0) f n
    simp only [Int.zero_sub] at this
    rw [this, show sumN (fun _ => (0 : Int)) n = 0 from sumN_zero fun _ _ => rfl]
    omega
  exact this _ _
theorem area_rot {ps : List Pt} {k : Nat} (hk : k < ps.length) : areaL (rotP ps k) = areaL ps := by rw [area_sum, area_sum, edge_rot crP hk]
theorem area_rev (ps : List Pt) : areaL ps.reverse = -areaL ps := by rw [area_sum, area_sum, edge_rev crP crP_swap]
theorem can_rot {ps : List Pt} (hd : ps.Nodup) {k : Nat} (hk : k < ps.length) : canL (rotP ps k) = canL ps := by
  unfold canL
  rw [area_rot hk]
  by_cases h : areaL ps < 0
  · simp only [if_pos h]
    rw [rev_rot (Nat.le_of_lt hk)]
    by_cases h0 : k = 0
    · subst h0
      have e : rotP ps.reverse (ps.length - 0) = ps.reverse := by
        unfold rotP
        rw [Nat.sub_zero, List.drop_of_length_le (by rw [List.length_reverse]; omega), List.take_of_length_le (by rw [List.length_reverse]; omega)]; rfl
      rw [e]
    · exact rot_can (List.pairwise_reverse.2 (hd.imp fun h => h.symm)) (by rw [List.length_reverse]; omega)
  · simp only [if_neg h]
    exact rot_can hd hk
theorem can_rev {ps : List Pt} (h : areaL ps ≠ 0) : canL ps.reverse = canL ps := by
  unfold canL
  rw [area_rev]
  by_cases ha : areaL ps < 0
  · rw [if_neg (by omega), if_pos ha]
  · rw [if_pos (by omega), if_neg ha, List.reverse_reverse]
theorem can_len (ps : List Pt) : (canL ps).length = ps.length := by
  unfold canL
  rw [rotP_len]
  split
  · exact List.length_reverse ..
  · rfl
theorem can_mem {ps : List Pt} {q : Pt} : q ∈ canL ps ↔ q ∈ ps := by
  unfold canL
  rw [rotP_mem]
  split
  · exact List.mem_reverse
  · rfl
theorem listOk_mem {ps qs : List Pt} (h : listOk ps = true) (hl : qs.length = ps.length) (hm : ∀ q, q ∈ qs → q ∈ ps) : listOk qs = true := by
  unfold listOk allOk at *
  simp only [Bool.and_eq_true, decide_eq_true_eq, List.all_eq_true] at *
  exact ⟨by omega, fun q hq => h.2 q (hm q hq)⟩
theorem simB_listOk {ps : List Pt} (h : simB ps = true) : listOk ps = true := by
  unfold simB at h
  rw [Bool.and_eq_true] at h
  exact (ring_parts h.1).1
theorem rot_sim {ps : List Pt} (h : simB ps = true) {k : Nat} (hk : k < ps.length) : simB (rotP ps k) = true := simB_rot h hk (listOk_mem (simB_listOk h) (rotP_len ps k) fun q hq => rotP_mem.1 hq)
theorem rev_sim {ps : List Pt} (h : simB ps = true) : simB ps.reverse = true := simB_rev h (listOk_mem (simB_listOk h) (List.length_reverse ..) fun q hq => List.mem_reverse.1 hq)
theorem can_sim {ps : List Pt} (h : simB ps = true) : simB (canL ps) = true ∧ 0 < areaL (canL ps) ∧ ∀ q ∈ canL ps, q = gp (canL ps) 0 ∨ ltP (gp (canL ps) 0) q := by
  have S := sim_of h
  have h3 := S.three
  have key : ∀ qs : List Pt, simB qs = true → 0 < areaL qs → simB (rotP qs (minIx qs)) = true ∧ 0 < areaL (rotP qs (minIx qs)) ∧ ∀ q ∈ rotP qs (minIx qs), q = gp (rotP qs (minIx qs)) 0 ∨ ltP (gp (rotP qs (minIx qs)) 0) q := fun qs hq ha => by
    have q3 := (sim_of hq).three
    have hm : minIx qs < qs.length := minTo_lt (q := qs) (by omega) qs.length (Nat.le_refl _)
    refine ⟨rot_sim hq hm, by rw [area_rot hm]; exact ha, fun q hq => ?_⟩
    rw [rotP_at hm (by omega), Nat.add_zero, Nat.mod_eq_of_lt hm]
    obtain ⟨j, hj, e⟩ := gp_of_mem (rotP_mem.1 hq)
    have := minTo_le (q := qs) qs.length j hj
    rw [e] at this
    unfold minIx
    generalize gp qs (minTo qs qs.length) = b at *
    by_cases e2 : q = b
    · exact .inl e2
    · right
      have := pt_ne e2
      unfold ltP at *
      omega
  unfold canL
  rcases area_sgn h with ⟨_, ha⟩ | ⟨_, ha⟩
  · rw [if_neg (by omega)]
    exact key ps h ha
  · rw [if_pos ha]
    exact key _ (rev_sim h) (by rw [area_rev]; omega)
/-! ### IsConvex -/
theorem arc_rot {ps : List Pt} {k : Nat} (hk : k < ps.length) : arc ps k (ps.length - 1) = rotP ps k := by
  refine gp_ext (by rw [arc_len, rotP_len]; omega) fun j hj => ?_
  rw [arc_len] at hj
  rw [arc_at ps (by omega), rotP_at hk (by omega)]
theorem conv_CI {ps : List Pt} (h : ConvP ps) : CI ps := fun a b c h1 h2 h3 => by
  refine h _ _ _ ?_
  have e : [gp ps a, gp ps b, gp ps c] = [⟨a, by omega⟩, ⟨b, by omega⟩, ⟨c, h3⟩].map (fun i : Fin ps.length => ps[i]) := by
    simp only [List.map_cons, List.map_nil]
    rw [gp_lt (show a < ps.length by omega), gp_lt (show b < ps.length by omega), gp_lt h3]; rfl
  rw [e]
  refine List.map_getElem_sublist ?_
  simp only [List.pairwise_cons, List.mem_cons, List.not_mem_nil, or_false, forall_eq_or_imp, forall_eq, false_imp_iff, implies_true, List.Pairwise.nil, and_true]
  exact ⟨⟨h1, Nat.lt_trans h1 h2⟩, h2⟩
theorem CI_rot {ps : List Pt} {k : Nat} (hk : k < ps.length) (h : CI ps) : CI (rotP ps k) := by
  by_cases h0 : k = 0
  · subst h0
    have : rotP ps 0 = ps := by unfold rotP; simp
    rw [this]; exact h
  · have l : (rotP ps k).length = ps.length := rotP_len ps k
    refine CI_turn (s := ps.length - k) (by omega) ?_
    rw [arc_rot (by omega)]
    have : rotP (rotP ps k) (ps.length - k) = ps := by
      refine gp_ext (by rw [rotP_len, rotP_len]) fun j hj => ?_
      rw [rotP_len, rotP_len] at hj
      rw [rotP_at (by omega) (by omega), l, rotP_at hk (Nat.mod_lt _ (by omega)), Nat.add_mod_mod, show k + (ps.length - k + j) = j + ps.length by omega, Nat.add_mod_right, Nat.mod_eq_of_lt hj]
    rw [this]; exact h
theorem conv_can {ps : List Pt} (h : simB ps = true) : convB ps = (decide (0 < areaL ps) && decide (canL ps = hullOf ps)) := by
  have S := sim_of h
  have h3 := S.three
  obtain ⟨c1, c2, c3⟩ := can_sim h
  have hm : minIx ps < ps.length := minTo_lt (q := ps) (by omega) ps.length (Nat.le_refl _)
  rw [Bool.eq_iff_iff, Bool.and_eq_true, decide_eq_true_eq, decide_eq_true_eq]
  have hh : hullOf (canL ps) = hullOf ps := hull_set fun q => can_mem
  constructor
  · intro hc
    have hl := hc
    unfold convB leftB at hl
    simp only [Bool.and_eq_true, List.all_eq_true, List.mem_range, decide_eq_true_eq] at hl
    have L1 := conv_Lft S hl.2
    have ha : 0 < areaL ps := by rcases area_sgn h with ⟨_, ha⟩ | ⟨h0, _⟩ <;> omega
    refine ⟨ha, ?_⟩
    rw [← hh]
    refine (hull_of_conv ?_ (sim_of c1).nodup (sim_of c1).three c3).symm
    unfold canL
    rw [if_neg (by omega)]
    exact CI_conv (CI_rot hm (conv_CI (convB_conv hc)))
  · rintro ⟨ha, hc⟩
    have hC : ConvP (canL ps) := by rw [hc]; exact hull_conv ps
    have hr : canL ps = rotP ps (minIx ps) := by unfold canL; rw [if_neg (by omega)]
    have C : CI ps := CI_turn (s := minIx ps) hm (by rw [arc_rot hm, ← hr]; exact conv_CI hC)
    exact conv_conv (simB_listOk h) (CI_conv C) S.nodup h3
end Go.Proofs.Ytelhidonhldjeaa
