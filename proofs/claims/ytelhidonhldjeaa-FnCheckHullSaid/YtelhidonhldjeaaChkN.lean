
/- Plain: what CheckHull checks; the two ways to say the shape of a hull; what is accepted is the hull. -/
import Derived.Test.YtelhidonhldjeaaHwM
import Derived.Test.YtelhidonhldjeaaChkM
set_option linter.unusedVariables false
set_option linter.unusedSimpArgs false
namespace Go.Proofs.Ytelhidonhldjeaa
open Go.RowKit

theorem onSeg_no {a b q : Pt} (h : trn a b q ≠ 0) : onSeg a b q = false := by
  rw [← Bool.not_eq_true]
  intro hh
  exact h (onS_iff hh)
def rowB (hs : List Pt) (q : Pt) (zs : List Int) : Bool := decide (zs.length = 3) && ((inB (gi zs 0) 0 ((hs.length : Int) - 1) && inB (gi zs 1) 0 ((hs.length : Int) - 1) && inB (gi zs 2) 0 ((hs.length : Int) - 1)) && triB (gp hs (gi zs 0).toNat) (gp hs (gi zs 1).toNat) (gp hs (gi zs 2).toNat) q)
def chkB (ps hs : List Pt) (zss : List (List Int)) : Bool := listOk ps && (decide (ps.length ≠ 0) && (listOk hs && (shapedB hs && (decide (zss.length = ps.length) && (hs.all (fun q => decide (q ∈ ps)) && (List.range ps.length).all (fun i => rowB hs (gp ps i) (gz zss i)))))))
theorem chk_iff {ps hs : List Pt} {zss : List (List Int)} : chkB ps hs zss = true ↔ listOk ps = true ∧ ps.length ≠ 0 ∧ listOk hs = true ∧ shapedB hs = true ∧ zss.length = ps.length ∧ (∀ q ∈ hs, q ∈ ps) ∧ ∀ i, i < ps.length → rowB hs (gp ps i) (gz zss i) = true := by
  unfold chkB
  simp only [Bool.and_eq_true, decide_eq_true_eq, List.all_eq_true, List.mem_range]
theorem two_least {hs : List Pt} (h2 : hs.length = 2) (h : ltP (gp hs 0) (gp hs 1)) : hullOf hs = hs := by
  match hs, h2, h with
  | [a, b], _, h =>
    have h : ltP a b := h
    obtain ⟨h0, hm⟩ := hull_least (l := [a, b]) (by simp)
    have e0 : gp (hullOf [a, b]) 0 = a := by
      rcases hm a (by simp) with e | e
      · exact e.symm
      · have := hullOf_sub (gp_mem h0)
        simp only [List.mem_cons, List.not_mem_nil, or_false] at this
        rcases this with e2 | e2
        · exact e2
        · rw [e2] at e; exact absurd e (lt_asym h)
    have hb : b ∈ hullOf [a, b] := hullOf_mem.2 (.inl (max_low (l := [a, b]) (by simp) (fun q hq => by
      simp only [List.mem_cons, List.not_mem_nil, or_false] at hq
      rcases hq with e | e
      · exact .inr (by rw [e]; exact h)
      · exact .inl e)).1)
    have hd := hullOf_nodup [a, b]
    have hab : a ≠ b := fun e => by rw [e] at h; exact lt_irr _ h
    have sub : ∀ q ∈ hullOf [a, b], q = a ∨ q = b := fun q hq => by
      have := hullOf_sub hq
      simpa using this
    match hh : hullOf [a, b], e0, hb, hd, sub with
    | [], _, hb, _, _ => cases hb
    | [x], e0, hb, _, _ =>
      have : x = a := e0
      simp only [List.mem_cons, List.not_mem_nil, or_false] at hb
      exact absurd (this.symm.trans hb.symm) hab
    | x :: y :: r, e0, hb, hd, sub =>
      have ex : x = a := e0
      subst ex
      obtain ⟨hd1, hd2⟩ := List.nodup_cons.1 (show (x :: y :: r).Nodup by rw [← hh]; exact hd)
      obtain ⟨hd3, _⟩ := List.nodup_cons.1 hd2
      have ey : y = b := by
        rcases sub y (by simp) with e | e
        · exact absurd (by rw [e]; simp) hd1
        · exact e
      have er : r = [] := by
        cases r with
        | nil => rfl
        | cons z t =>
          rcases sub z (by simp) with e | e
          · exact absurd (by rw [e]; simp) hd1
          · exact absurd (by rw [ey, e]; simp) hd3
      subst er
      exact congrArg (fun z => [x, z]) ey
theorem first_least {hs : List Pt} (h0 : 0 < hs.length) (h : gp hs 0 = gp (sortP hs) 0) : ∀ q ∈ hs, q = gp hs 0 ∨ ltP (gp hs 0) q := by
  obtain ⟨m, h1, hh, h3⟩ := asc_min (sortP_asc hs) (ne_sort (fun e => by rw [e] at h0; simp at h0))
  have e0 : gp (sortP hs) 0 = m := by
    cases hs' : sortP hs with
    | nil => rw [hs'] at hh; cases hh
    | cons a r => rw [hs'] at hh; injection hh
  rw [h, e0]
  exact fun q hq => h3 q (sortP_mem.2 hq)
theorem shaped_hull {hs : List Pt} (h : shapedB hs = true) : hullOf hs = hs := by
  unfold shapedB at h
  split at h
  · cases h
  · rename_i h0
    split at h
    · rename_i h1
      match hs, h1 with
      | [a], _ => rfl
    · split at h
      · rename_i h1 h2
        exact two_least h2 (of_decide_eq_true h)
      · rename_i h1 h2
        rw [Bool.and_eq_true] at h
        have hc := convB_conv h.1
        have h1' := h.1
        unfold convB at h1'
        rw [Bool.and_eq_true] at h1'
        exact hull_of_conv hc (sim_of h1'.1).nodup (by omega) (first_least (by omega) (of_decide_eq_true h.2))
theorem hull_checked {ps hs : List Pt} {zss : List (List Int)} (h : chkB ps hs zss = true) : hullOf ps = hs := by
  obtain ⟨h1, h2, h3, h4, h5, h6, h7⟩ := chk_iff.1 h
  have hsub : ∀ q ∈ hullOf ps, q ∈ hs := fun q hq => by
    obtain ⟨i, hi, e⟩ := gp_of_mem (hullOf_sub hq)
    have hr := h7 i hi
    unfold rowB at hr
    simp only [Bool.and_eq_true, decide_eq_true_eq, inB_iff] at hr
    obtain ⟨_, ⟨⟨r0, r1⟩, r2⟩, ht⟩ := hr
    rw [e] at ht
    have m0 : gp hs (gi (gz zss i) 0).toNat ∈ hs := gp_mem (by omega)
    have m1 : gp hs (gi (gz zss i) 1).toNat ∈ hs := gp_mem (by omega)
    have m2 : gp hs (gi (gz zss i) 2).toNat ∈ hs := gp_mem (by omega)
    rcases hull_corner hq (h6 _ m0) (h6 _ m1) (h6 _ m2) ht with e | e | e
    · rw [e]; exact m0
    · rw [e]; exact m1
    · rw [e]; exact m2
  rw [hull_ext h6 hsub, shaped_hull h4]
/-! ### the reference's shape -/
def ringC (hs : List Pt) (i k : Nat) : Bool := !((decide (gp hs k ≠ gp hs i) && (decide (gp hs k ≠ gp hs ((i + 1) % hs.length)) && decide (trn (gp hs i) (gp hs ((i + 1) % hs.length)) (gp hs k) ≤ 0))) || (decide (k ≠ i) && decide (gp hs k = gp hs i)))
def ringS (hs : List Pt) : Bool := (List.range hs.length).all fun i => (List.range hs.length).all fun k => ringC hs i k
def shapeS (hs : List Pt) : Bool := if hs.length < 3 then decide (hs.length = 1) || (decide (hs.length = 2) && decide (ltP (gp hs 0) (gp hs 1))) else ringS hs && (List.range hs.length).all fun i => decide (i = 0) || decide (ltP (gp hs 0) (gp hs i))
theorem ringC_iff {hs : List Pt} {i k : Nat} : ringC hs i k = true ↔ (gp hs k ≠ gp hs i → gp hs k ≠ gp hs ((i + 1) % hs.length) → 0 < trn (gp hs i) (gp hs ((i + 1) % hs.length)) (gp hs k)) ∧ (k ≠ i → gp hs k ≠ gp hs i) := by
  unfold ringC
  rw [Bool.not_eq_true', Bool.or_eq_false_iff]
  simp only [Bool.and_eq_false_iff, decide_eq_false_iff_not, ne_eq, Int.not_le]
  constructor
  · rintro ⟨a, b⟩
    exact ⟨fun h1 h2 => by rcases a with a | a | a; exact absurd h1 a; exact absurd h2 a; exact a, fun h1 h2 => by rcases b with b | b; exact b h1; exact b h2⟩
  · rintro ⟨a, b⟩
    refine ⟨?_, ?_⟩
    · by_cases h1 : gp hs k = gp hs i
      · exact .inl (fun h => h h1)
      · by_cases h2 : gp hs k = gp hs ((i + 1) % hs.length)
        · exact .inr (.inl (fun h => h h2))
        · exact .inr (.inr (a h1 h2))
    · by_cases h1 : k = i
      · exact .inl (fun h => h h1)
      · exact .inr (b h1)
theorem shape_eq {hs : List Pt} (hok : listOk hs = true) : shapeS hs = shapedB hs := by
  unfold shapeS shapedB
  by_cases h3 : hs.length < 3
  · rw [if_pos h3]
    by_cases h0 : hs.length = 0
    · rw [if_pos h0, h0]; rfl
    · rw [if_neg h0]
      by_cases h1 : hs.length = 1
      · rw [if_pos h1, h1]; rfl
      · rw [if_neg h1, if_pos (by omega), decide_eq_false h1, decide_eq_true (show hs.length = 2 by omega)]; rfl
  · rw [if_neg h3, if_neg (by omega), if_neg (by omega), if_neg (by omega)]
    have hn : 0 < hs.length := by omega
    have ml : ∀ j, j % hs.length < hs.length := fun j => Nat.mod_lt _ hn
    rw [Bool.eq_iff_iff]
    simp only [Bool.and_eq_true, List.all_eq_true, List.mem_range, Bool.or_eq_true, decide_eq_true_eq]
    constructor
    · rintro ⟨hr, hl⟩
      unfold ringS at hr
      simp only [List.all_eq_true, List.mem_range, ringC_iff] at hr
      have nd : hs.Nodup := nodup_of fun i j hi hj e => Classical.byContradiction fun hne => (hr j hj i hi).2 hne e
      have lf : ∀ {i v : Nat}, i < hs.length → v < hs.length → v ≠ i → v ≠ (i + 1) % hs.length → 0 < trn (gp hs i) (gp hs ((i + 1) % hs.length)) (gp hs v) := fun {i v} hi hv a b =>
        (hr i hi v hv).1 ((hr i hi v hv).2 a) (fun e => b (gp_inj nd hv (ml _) e))
      have S : Sim hs := by
        refine ⟨by omega, nd, fun i j hi hj n1 n2 n3 => ?_, fun i hi => ?_⟩
        · have mi := mod_next hi
          have mj := mod_next hj
          have a1 := lf hi hj (by omega) (by omega)
          have a2 := lf hi (ml (j + 1)) (by omega) (by split at mi <;> split at mj <;> omega)
          have b1 := lf hj hi (by omega) (by omega)
          have b2 := lf hj (ml (i + 1)) (by omega) (by split at mi <;> split at mj <;> omega)
          exact ⟨onSeg_no (by omega), onSeg_no (by omega), onSeg_no (by omega), onSeg_no (by omega), fun hh => by omega⟩
        · have mi := mod_next hi
          have h2 : (i + 2) % hs.length < hs.length := ml _
          have m2 := mod_next (ml (i + 1))
          rw [mod2] at m2
          have := lf hi h2 (by split at mi <;> split at m2 <;> omega) (by split at mi <;> split at m2 <;> omega)
          intro h0
          rw [h0] at this; omega
      refine ⟨?_, ?_⟩
      · unfold convB leftB
        rw [Bool.and_eq_true, sim_simB S hok, List.all_eq_true]
        refine ⟨rfl, fun i hi => decide_eq_true ?_⟩
        rw [List.mem_range] at hi
        have mi := mod_next hi
        have m2 := mod_next (ml (i + 1))
        rw [mod2] at m2
        exact lf hi (ml _) (by split at mi <;> split at m2 <;> omega) (by split at mi <;> split at m2 <;> omega)
      · exact least_first hn fun q hq => by
          obtain ⟨i, hi, e⟩ := gp_of_mem hq
          rcases hl i hi with h | h
          · left; rw [← e, h]
          · right; rw [← e]; exact h
    · rintro ⟨hc, hf⟩
      have hC := convB_conv hc
      have hc' := hc
      unfold convB at hc'
      rw [Bool.and_eq_true] at hc'
      have nd := (sim_of hc'.1).nodup
      refine ⟨?_, fun i hi => ?_⟩
      · unfold ringS
        simp only [List.all_eq_true, List.mem_range, ringC_iff]
        exact fun i hi k hk => ⟨fun a b => left_of hC nd hi hk (fun e => a (by rw [e])) (fun e => b (by rw [e])), fun a e => a (gp_inj nd hk hi e)⟩
      · by_cases h0 : i = 0
        · exact .inl h0
        · rcases first_least hn hf _ (gp_mem hi) with e | e
          · exact absurd (gp_inj nd hi hn e) h0
          · exact .inr e
end Go.Proofs.Ytelhidonhldjeaa
