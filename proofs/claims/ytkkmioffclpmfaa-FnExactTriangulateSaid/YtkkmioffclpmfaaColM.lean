
/- Colors of the vertices of triangles: the search, what it finds; triangles that are cut off can be colored. No program in sight. -/
import Derived.Test.YtkkmioffclpmfaaTrsM
set_option linter.unusedVariables false
set_option linter.unusedSimpArgs false
namespace Go.Proofs.Ytkkmioffclpmfaa
open Go.RowKit

/-- No triangle has a color twice. -/
def fitT (t : Tri3) (cs : List Int) : Bool := !((decide (0 ≤ gi cs t.a) && (decide (gi cs t.a = gi cs t.b) || decide (gi cs t.a = gi cs t.c))) || (decide (0 ≤ gi cs t.b) && decide (gi cs t.b = gi cs t.c)))
def fitC (T : List Tri3) (cs : List Int) : Bool := T.all fun t => fitT t cs
/-- The first colors from place i on, f places being left. -/
def srch (T : List Tri3) : Nat → Nat → List Int → Option (List Int)
  | 0, _, cs => some cs
  | f + 1, i, cs =>
    match (if fitC T (cs.set i 0) then srch T f (i + 1) (cs.set i 0) else none) with
    | some r => some r
    | none => match (if fitC T (cs.set i 1) then srch T f (i + 1) (cs.set i 1) else none) with
      | some r => some r
      | none => if fitC T (cs.set i 2) then srch T f (i + 1) (cs.set i 2) else none
def noCol (n : Nat) : List Int := List.replicate n (-1)
def colL (T : List Tri3) (n : Nat) : List Int := (srch T n 0 (noCol n)).getD (noCol n)
theorem gi_set {cs : List Int} {i j : Nat} {x : Int} (hi : i < cs.length) : gi (cs.set i x) j = if j = i then x else gi cs j := by
  unfold gi
  rw [List.getD_eq_getElem?_getD, List.getD_eq_getElem?_getD, List.getElem?_set]
  by_cases h : i = j
  · rw [if_pos h, if_pos h.symm, if_pos (by omega)]; rfl
  · rw [if_neg h, if_neg (fun e => h e.symm)]
structure ColOk (T : List Tri3) (g : Nat → Int) : Prop where
  rng : ∀ i, 0 ≤ g i ∧ g i ≤ 2
  diff : ∀ t ∈ T, g t.a ≠ g t.b ∧ g t.b ≠ g t.c ∧ g t.a ≠ g t.c
theorem fit_iff {T : List Tri3} {cs : List Int} : fitC T cs = true ↔ ∀ t ∈ T, ¬ (0 ≤ gi cs t.a ∧ (gi cs t.a = gi cs t.b ∨ gi cs t.a = gi cs t.c)) ∧ ¬ (0 ≤ gi cs t.b ∧ gi cs t.b = gi cs t.c) := by
  unfold fitC
  rw [List.all_eq_true]
  refine forall_congr' fun t => forall_congr' fun _ => ?_
  unfold fitT
  simp only [Bool.not_eq_true', Bool.or_eq_false_iff, ← Bool.not_eq_true, Bool.and_eq_true, Bool.or_eq_true, decide_eq_true_eq]
  exact not_or
/-- What is found. -/
theorem srch_some {T : List Tri3} : ∀ (f i : Nat) (cs r : List Int), cs.length = i + f → fitC T cs = true → (∀ j, j < i → 0 ≤ gi cs j ∧ gi cs j ≤ 2) → srch T f i cs = some r → r.length = cs.length ∧ fitC T r = true ∧ (∀ j, j < i → gi r j = gi cs j) ∧ ∀ j, j < i + f → 0 ≤ gi r j ∧ gi r j ≤ 2
  | 0, i, cs, r, hl, hf, hc, h => by
    injection h with h; subst h
    exact ⟨rfl, hf, fun _ _ => rfl, fun j hj => hc j (by omega)⟩
  | f + 1, i, cs, r, hl, hf, hc, h => by
    have step : ∀ k : Int, 0 ≤ k → k ≤ 2 → (if fitC T (cs.set i k) then srch T f (i + 1) (cs.set i k) else none) = some r → r.length = cs.length ∧ fitC T r = true ∧ (∀ j, j < i → gi r j = gi cs j) ∧ ∀ j, j < i + (f + 1) → 0 ≤ gi r j ∧ gi r j ≤ 2 := fun k k0 k2 hk => by
      split at hk
      · rename_i hft
        have hs : ∀ j, gi (cs.set i k) j = if j = i then k else gi cs j := fun j => gi_set (by omega)
        obtain ⟨a1, a2, a3, a4⟩ := srch_some f (i + 1) (cs.set i k) r (by rw [List.length_set]; omega) hft (fun j hj => by
          rw [hs]; split
          · exact ⟨k0, k2⟩
          · exact hc j (by omega)) hk
        refine ⟨by rw [a1, List.length_set], a2, fun j hj => by rw [a3 j (by omega), hs, if_neg (by omega)], fun j hj => a4 j (by omega)⟩
      · cases hk
    unfold srch at h
    split at h
    · rename_i r0 h0
      injection h with h; subst h
      exact step 0 (by omega) (by omega) h0
    · split at h
      · rename_i r1 h1
        injection h with h; subst h
        exact step 1 (by omega) (by omega) h1
      · exact step 2 (by omega) (by omega) h
/-- It finds what there is. -/
theorem srch_ex {T : List Tri3} {g : Nat → Int} (hg : ColOk T g) : ∀ (f i : Nat) (cs : List Int), cs.length = i + f → (∀ j, gi cs j = g j ∨ gi cs j < 0 ∨ i + f ≤ j) → (∀ j, j < i → gi cs j = g j) → (∀ t ∈ T, t.a < i + f ∧ t.b < i + f ∧ t.c < i + f) → ∃ r, srch T f i cs = some r
  | 0, i, cs, hl, hn, hc, hT => ⟨cs, rfl⟩
  | f + 1, i, cs, hl, hn, hc, hT => by
    have hs : ∀ (k : Int) j, gi (cs.set i k) j = if j = i then k else gi cs j := fun k j => gi_set (by omega)
    have hft : fitC T (cs.set i (g i)) = true := by
      rw [fit_iff]
      intro t ht
      obtain ⟨d1, d2, d3⟩ := hg.diff t ht
      obtain ⟨b1, b2, b3⟩ := hT t ht
      have v : ∀ j, j < i + (f + 1) → gi (cs.set i (g i)) j = g j ∨ gi (cs.set i (g i)) j < 0 := fun j hj => by
        rw [hs]; split
        · rename_i e; subst e; exact .inl rfl
        · rcases hn j with h | h | h
          · exact .inl h
          · exact .inr h
          · omega
      have va := v _ b1
      have vb := v _ b2
      have vc := v _ b3
      constructor
      · rintro ⟨h0, h1 | h1⟩ <;> omega
      · rintro ⟨h0, h1⟩; omega
    obtain ⟨r, hr⟩ := srch_ex hg f (i + 1) (cs.set i (g i)) (by rw [List.length_set]; omega) (fun j => by
      rw [hs]; split
      · rename_i e; subst e; exact .inl rfl
      · rcases hn j with h | h | h
        · exact .inl h
        · exact .inr (.inl h)
        · exact .inr (.inr (by omega))) (fun j hj => by
      rw [hs]; split
      · rename_i e; subst e; rfl
      · exact hc j (by omega)) (fun t ht => by have := hT t ht; omega)
    have hk : (if fitC T (cs.set i (g i)) then srch T f (i + 1) (cs.set i (g i)) else none) = some r := by rw [if_pos hft]; exact hr
    have hb := hg.rng i
    unfold srch
    split
    · exact ⟨_, rfl⟩
    · rename_i h0
      split
      · exact ⟨_, rfl⟩
      · rename_i h1
        have g2 : g i = 2 := by
          rcases (show g i = 0 ∨ g i = 1 ∨ g i = 2 by omega) with e | e | e
          · rw [e] at hk; rw [hk] at h0; cases h0
          · rw [e] at hk; rw [hk] at h1; cases h1
          · exact e
        rw [g2] at hk
        exact ⟨r, hk⟩
theorem gi_noCol (n j : Nat) : gi (noCol n) j = if j < n then -1 else 0 := by
  unfold gi noCol
  rw [List.getD_eq_getElem?_getD]
  split
  · rename_i h; rw [List.getElem?_replicate, if_pos h]; rfl
  · rename_i h; rw [List.getElem?_replicate, if_neg h]; rfl
theorem fit_noCol {T : List Tri3} {n : Nat} (hT : ∀ t ∈ T, t.a < n ∧ t.b < n ∧ t.c < n) : fitC T (noCol n) = true := by
  rw [fit_iff]
  intro t ht
  obtain ⟨b1, b2, b3⟩ := hT t ht
  rw [gi_noCol, gi_noCol, gi_noCol, if_pos b1, if_pos b2, if_pos b3]
  omega
/-- Colors that exist are found, and the first vertex has the first color. -/
theorem col_found {T : List Tri3} {n : Nat} (h0 : 0 < n) (hT : ∀ t ∈ T, t.a < n ∧ t.b < n ∧ t.c < n) (hex : ∃ g, ColOk T g) : (colL T n).length = n ∧ fitC T (colL T n) = true ∧ (∀ j, j < n → 0 ≤ gi (colL T n) j ∧ gi (colL T n) j ≤ 2) ∧ gi (colL T n) 0 = 0 := by
  obtain ⟨g, hg⟩ := hex
  -- colors turned so that the first vertex has the first one
  have hg' : ColOk T fun i => (g i + 3 - g 0) % 3 := by
    have b0 := hg.rng 0
    refine ⟨fun i => ⟨Int.emod_nonneg _ (by omega), by have := Int.emod_lt_of_pos (g i + 3 - g 0) (show (0 : Int) < 3 by omega); omega⟩, fun t ht => ?_⟩
    obtain ⟨d1, d2, d3⟩ := hg.diff t ht
    have ba := hg.rng t.a
    have bb := hg.rng t.b
    have bc := hg.rng t.c
    exact ⟨by omega, by omega, by omega⟩
  have e0 : ((g 0 + 3 - g 0) % 3 : Int) = 0 := by omega
  have nl : (noCol n).length = n := by simp [noCol]
  -- place 0 takes color 0
  obtain ⟨m, rfl⟩ : ∃ m, n = m + 1 := ⟨n - 1, by omega⟩
  have hs : ∀ j, gi ((noCol (m + 1)).set 0 0) j = if j = 0 then 0 else gi (noCol (m + 1)) j := fun j => gi_set (by rw [nl]; omega)
  have hft : fitC T ((noCol (m + 1)).set 0 0) = true := by
    rw [fit_iff]
    intro t ht
    obtain ⟨d1, d2, d3⟩ := hg'.diff t ht
    obtain ⟨b1, b2, b3⟩ := hT t ht
    have z : ∀ j, j < m + 1 → (gi ((noCol (m + 1)).set 0 0) j = 0 ∧ j = 0) ∨ gi ((noCol (m + 1)).set 0 0) j = -1 := fun j hj => by
      rw [hs]; split
      · rename_i e; exact .inl ⟨rfl, e⟩
      · rw [gi_noCol, if_pos hj]; exact .inr rfl
    have za := z _ b1
    have zb := z _ b2
    have zc := z _ b3
    have nab : t.a ≠ t.b := fun e => d1 (by rw [e])
    have nbc : t.b ≠ t.c := fun e => d2 (by rw [e])
    have nac : t.a ≠ t.c := fun e => d3 (by rw [e])
    omega
  obtain ⟨r, hr⟩ := srch_ex hg' m 1 ((noCol (m + 1)).set 0 0) (by rw [List.length_set, nl]; omega) (fun j => by
    rw [hs]; split
    · rename_i e; subst e; exact .inl e0.symm
    · rw [gi_noCol]; split
      · exact .inr (.inl (by omega))
      · exact .inr (.inr (by omega))) (fun j hj => by
    rw [hs, if_pos (by omega), show j = 0 by omega]; exact e0.symm) (fun t ht => by have := hT t ht; omega)
  have ec : srch T (m + 1) 0 (noCol (m + 1)) = some r := by
    unfold srch
    rw [if_pos hft, hr]
  obtain ⟨a1, a2, a3, a4⟩ := srch_some m 1 ((noCol (m + 1)).set 0 0) r (by rw [List.length_set, nl]; omega) hft (fun j hj => by rw [hs, if_pos (by omega)]; omega) hr
  have el : colL T (m + 1) = r := by unfold colL; rw [ec]; rfl
  rw [el]
  refine ⟨by rw [a1, List.length_set, nl], a2, fun j hj => a4 j (by omega), by rw [a3 0 (by omega), hs, if_pos rfl]⟩
theorem fit_diff {T : List Tri3} {cs : List Int} {n : Nat} (hf : fitC T cs = true) (hT : ∀ t ∈ T, t.a < n ∧ t.b < n ∧ t.c < n) (hc : ∀ j, j < n → 0 ≤ gi cs j) {t : Tri3} (ht : t ∈ T) : gi cs t.a ≠ gi cs t.b ∧ gi cs t.b ≠ gi cs t.c ∧ gi cs t.a ≠ gi cs t.c := by
  have := (fit_iff.1 hf) t ht
  obtain ⟨b1, b2, b3⟩ := hT t ht
  have := hc _ b1
  have := hc _ b2
  omega
/-- Triangles that are cut off can be colored. -/
theorem cut_color {ps : List Pt} : ∀ (f : Nat) (rs : List Nat), RingOk ps rs → rs.length = f + 3 → ∃ g, ColOk (cutL ps f rs) g
  | 0, rs, h, hl => by
    have n01 : gn rs 0 ≠ gn rs 1 := fun e => by have := gn_inj h.nodup (by omega) (by omega) e; omega
    have n02 : gn rs 0 ≠ gn rs 2 := fun e => by have := gn_inj h.nodup (by omega) (by omega) e; omega
    have n12 : gn rs 1 ≠ gn rs 2 := fun e => by have := gn_inj h.nodup (by omega) (by omega) e; omega
    refine ⟨fun i => if i = gn rs 0 then 0 else if i = gn rs 1 then 1 else 2, fun i => by split <;> (try split) <;> omega, fun t ht => ?_⟩
    rw [List.mem_singleton.1 ht]
    show (if gn rs 0 = gn rs 0 then (0 : Int) else _) ≠ (if gn rs 1 = gn rs 0 then (0 : Int) else if gn rs 1 = gn rs 1 then 1 else 2) ∧ (if gn rs 1 = gn rs 0 then (0 : Int) else if gn rs 1 = gn rs 1 then 1 else 2) ≠ (if gn rs 2 = gn rs 0 then (0 : Int) else if gn rs 2 = gn rs 1 then 1 else 2) ∧ (if gn rs 0 = gn rs 0 then (0 : Int) else _) ≠ (if gn rs 2 = gn rs 0 then (0 : Int) else if gn rs 2 = gn rs 1 then 1 else 2)
    rw [if_pos rfl, if_neg n01.symm, if_pos rfl, if_neg n02.symm, if_neg n12.symm]
    omega
  | f + 1, rs, h, hl => by
    obtain ⟨e1, e2, _⟩ := fEar_ok h (by omega)
    obtain ⟨c1, c2⟩ := cutR_ok h (by omega)
    obtain ⟨i1, i2, _⟩ := cut_parts f (cutR ps rs) c1 (by omega)
    obtain ⟨g, hg⟩ := cut_color f (cutR ps rs) c1 (by omega)
    obtain ⟨F1, F2, F3, F4, F5⟩ := fol_cut h.nodup (by omega) e1
    have hac : g (bef rs (fEar ps rs)) ≠ g (aft rs (fEar ps rs)) := by
      obtain ⟨o1, _⟩ := i1.one _ _ F3
      have : 0 < (cutL ps f (cutR ps rs)).countP fun t => sideB t (bef rs (fEar ps rs)) (aft rs (fEar ps rs)) := by
        show 0 < cntS _ _ _; omega
      obtain ⟨t, ht, hs⟩ := List.countP_pos_iff.1 this
      obtain ⟨d1, d2, d3⟩ := hg.diff t ht
      rcases sideB_iff.1 hs with ⟨x, y⟩ | ⟨x, y⟩ | ⟨x, y⟩
      · rw [← x, ← y]; exact d1
      · rw [← x, ← y]; exact d2
      · rw [← x, ← y]; exact d3.symm
    have ba := hg.rng (bef rs (fEar ps rs))
    have bc := hg.rng (aft rs (fEar ps rs))
    have nab : bef rs (fEar ps rs) ≠ gn rs (fEar ps rs) := fun e => F5 (by rw [← e]; exact F3.mem.1)
    have ncb : aft rs (fEar ps rs) ≠ gn rs (fEar ps rs) := fun e => F5 (by rw [← e]; exact F3.mem.2)
    refine ⟨fun i => if i = gn rs (fEar ps rs) then 3 - g (bef rs (fEar ps rs)) - g (aft rs (fEar ps rs)) else g i, fun i => ?_, fun t ht => ?_⟩
    · by_cases e : i = gn rs (fEar ps rs)
      · simp only [if_pos e]; omega
      · simp only [if_neg e]; exact hg.rng i
    · rcases List.mem_cons.1 ht with rfl | ht
      · show (if bef rs (fEar ps rs) = gn rs (fEar ps rs) then _ else g (bef rs (fEar ps rs))) ≠ (if gn rs (fEar ps rs) = gn rs (fEar ps rs) then _ else _) ∧ (if gn rs (fEar ps rs) = gn rs (fEar ps rs) then _ else _) ≠ (if aft rs (fEar ps rs) = gn rs (fEar ps rs) then _ else g (aft rs (fEar ps rs))) ∧ (if bef rs (fEar ps rs) = gn rs (fEar ps rs) then _ else g (bef rs (fEar ps rs))) ≠ (if aft rs (fEar ps rs) = gn rs (fEar ps rs) then _ else g (aft rs (fEar ps rs)))
        rw [if_neg nab, if_pos rfl, if_neg ncb]
        omega
      · obtain ⟨t1, t2, t3⟩ := i2 t ht
        have q : ∀ i, i ∈ cutR ps rs → i ≠ gn rs (fEar ps rs) := fun i hi e => F5 (by rw [← e]; exact hi)
        show (if t.a = gn rs (fEar ps rs) then _ else g t.a) ≠ (if t.b = gn rs (fEar ps rs) then _ else g t.b) ∧ (if t.b = gn rs (fEar ps rs) then _ else g t.b) ≠ (if t.c = gn rs (fEar ps rs) then _ else g t.c) ∧ (if t.a = gn rs (fEar ps rs) then _ else g t.a) ≠ (if t.c = gn rs (fEar ps rs) then _ else g t.c)
        rw [if_neg (q _ t1), if_neg (q _ t2), if_neg (q _ t3)]
        exact hg.diff t ht
theorem tri_color {ps : List Pt} (h : simB ps = true) : ∃ g, ColOk (triL ps) g := by
  have h3 := (sim_of h).three
  exact cut_color (ps.length - 3) (rgN ps) (ring_first h) (by rw [rgN_len]; omega)
end Go.Proofs.Ytkkmioffclpmfaa
