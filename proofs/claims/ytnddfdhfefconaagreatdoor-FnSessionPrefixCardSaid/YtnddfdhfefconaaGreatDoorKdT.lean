
/- The order of a k-d tree, plain: sorting indices by insertion; the nodes in order. -/
/- KdOrder of the reference. -/
/- KdOrder of the reference; its answer to 'kd'. -/
import Derived.Test.YtnddfdhfefconaaGreatDoorCrf
set_option linter.unusedVariables false
set_option linter.unusedSimpArgs false
namespace Go.Proofs.YtnddfdhfefconaaGreatDoor
open Go.RowKit

/-- The point at an index, its coordinates exchanged or not. -/
def ptK (ps : List Pt) (t : Bool) (i : Nat) : Pt := if t = true then ⟨pY ps i, pX ps i⟩ else ⟨pX ps i, pY ps i⟩
def kL (ps : List Pt) (t : Bool) (i k : Nat) : Prop := (ptK ps t i).x < (ptK ps t k).x ∨ ((ptK ps t i).x = (ptK ps t k).x ∧ ((ptK ps t i).y < (ptK ps t k).y ∨ ((ptK ps t i).y = (ptK ps t k).y ∧ i < k)))
instance (ps : List Pt) (t : Bool) (i k : Nat) : Decidable (kL ps t i k) := by unfold kL; infer_instance
theorem kL_tri (ps : List Pt) (t : Bool) (i k : Nat) : kL ps t i k ∨ i = k ∨ kL ps t k i := by unfold kL; omega
theorem kL_asy {ps : List Pt} {t : Bool} {i k : Nat} (h : kL ps t i k) : ¬ kL ps t k i := by unfold kL at *; omega
theorem kL_tr {ps : List Pt} {t : Bool} {i j k : Nat} (h : kL ps t i j) (h2 : kL ps t j k) : kL ps t i k := by unfold kL at *; omega
/-- Where x goes, looking from the right. -/
def posR (ps : List Pt) (t : Bool) (l : List Nat) (x : Nat) : Nat → Nat
  | 0 => 0
  | k + 1 => if kL ps t x (l.getD k 0) then posR ps t l x k else k + 1
def insK (ps : List Pt) (t : Bool) (l : List Nat) (x : Nat) : List Nat := l.take (posR ps t l x l.length) ++ x :: l.drop (posR ps t l x l.length)
def srtK (ps : List Pt) (t : Bool) (l : List Nat) : List Nat := l.foldl (insK ps t) []
def kdF (ps : List Pt) : Nat → Bool → List Nat → List Nat
  | 0, _, _ => []
  | f + 1, t, l => if l = [] then [] else (srtK ps t l).getD (l.length / 2) 0 :: (kdF ps f (!t) ((srtK ps t l).take (l.length / 2)) ++ kdF ps f (!t) ((srtK ps t l).drop (l.length / 2 + 1)))
def kdL (ps : List Pt) : List Nat := kdF ps ps.length false (List.range ps.length)
theorem posR_le (ps : List Pt) (t : Bool) (l : List Nat) (x : Nat) : ∀ k, posR ps t l x k ≤ k
  | 0 => Nat.le_refl _
  | k + 1 => by unfold posR; split; exact Nat.le_succ_of_le (posR_le ps t l x k); exact Nat.le_refl _
theorem posR_hi (ps : List Pt) (t : Bool) (l : List Nat) (x : Nat) : ∀ k j, posR ps t l x k ≤ j → j < k → kL ps t x (l.getD j 0)
  | 0, j, _, h => by omega
  | k + 1, j, h1, h2 => by
    unfold posR at h1
    split at h1
    · rename_i hk
      by_cases e : j = k
      · rw [e]; exact hk
      · exact posR_hi ps t l x k j h1 (by omega)
    · omega
theorem posR_lo (ps : List Pt) (t : Bool) (l : List Nat) (x : Nat) : ∀ k, 0 < posR ps t l x k → ¬ kL ps t x (l.getD (posR ps t l x k - 1) 0)
  | 0, h => by unfold posR at h; omega
  | k + 1, h => by
    unfold posR at h ⊢
    split at h
    · rename_i hk; rw [if_pos hk]; exact posR_lo ps t l x k h
    · rename_i hk; rw [if_neg hk, Nat.add_sub_cancel]; exact hk
theorem insK_perm (ps : List Pt) (t : Bool) (l : List Nat) (x : Nat) : (insK ps t l x).Perm (x :: l) := by
  unfold insK
  refine List.perm_middle.trans ?_
  rw [List.take_append_drop]
theorem insK_sorted {ps : List Pt} {t : Bool} {l : List Nat} {x : Nat} (hs : l.Pairwise (kL ps t)) (hx : x ∉ l) : (insK ps t l x).Pairwise (kL ps t) := by
  unfold insK
  have hle := posR_le ps t l x l.length
  have hhi := posR_hi ps t l x l.length
  have hlo := posR_lo ps t l x l.length
  generalize posR ps t l x l.length = p at *
  have lo : ∀ a ∈ l.take p, kL ps t a x := by
    intro a ha
    obtain ⟨j, hj, rfl⟩ := List.getElem_of_mem ha
    rw [List.length_take] at hj
    rw [List.getElem_take]
    have h1 := hlo (by omega)
    have h2 : l.getD (p - 1) 0 = l[p - 1] := by rw [List.getD_eq_getElem?_getD, List.getElem?_eq_getElem (by omega)]; rfl
    rw [h2] at h1
    have h3 : kL ps t l[p - 1] x := by
      rcases kL_tri ps t l[p - 1] x with h | h | h
      · exact h
      · exact absurd (by rw [← h]; exact List.getElem_mem _) hx
      · exact absurd h h1
    by_cases e : j = p - 1
    · subst e; exact h3
    · exact kL_tr (List.pairwise_iff_getElem.1 hs j (p - 1) (by omega) (by omega) (by omega)) h3
  have hi : ∀ a ∈ l.drop p, kL ps t x a := by
    intro a ha
    obtain ⟨j, hj, rfl⟩ := List.getElem_of_mem ha
    rw [List.length_drop] at hj
    rw [List.getElem_drop]
    have := hhi (p + j) (by omega) (by omega)
    rwa [List.getD_eq_getElem?_getD, List.getElem?_eq_getElem (by omega)] at this
  rw [List.pairwise_append]
  refine ⟨hs.sublist (List.take_sublist _ _), List.pairwise_cons.2 ⟨hi, hs.sublist (List.drop_sublist _ _)⟩, fun a ha b hb => ?_⟩
  rcases List.mem_cons.1 hb with rfl | hb
  · exact lo a ha
  · exact kL_tr (lo a ha) (hi b hb)
theorem srt_go {ps : List Pt} {t : Bool} : ∀ (l acc : List Nat), acc.Pairwise (kL ps t) → l.Nodup → (∀ x ∈ l, x ∉ acc) → (l.foldl (insK ps t) acc).Pairwise (kL ps t) ∧ (l.foldl (insK ps t) acc).Perm (l ++ acc)
  | [], acc, h, _, _ => ⟨h, List.Perm.refl _⟩
  | x :: l, acc, h, hn, hd => by
    rw [List.nodup_cons] at hn
    have ip := insK_perm ps t acc x
    have := srt_go l (insK ps t acc x) (insK_sorted h (hd x (by simp))) hn.2 (fun y hy hm => by
      rcases List.mem_cons.1 (ip.mem_iff.1 hm) with e | e
      · exact hn.1 (by rw [← e]; exact hy)
      · exact hd y (List.mem_cons_of_mem _ hy) e)
    refine ⟨this.1, this.2.trans ?_⟩
    rw [List.cons_append]
    exact ((List.Perm.append_left l ip).trans List.perm_middle)
theorem srtK_sorted (ps : List Pt) (t : Bool) {l : List Nat} (h : l.Nodup) : (srtK ps t l).Pairwise (kL ps t) := (srt_go l [] List.Pairwise.nil h (fun x _ hx => by cases hx)).1
theorem srtK_perm (ps : List Pt) (t : Bool) {l : List Nat} (h : l.Nodup) : (srtK ps t l).Perm l := by
  have := (srt_go (ps := ps) (t := t) l [] List.Pairwise.nil h (fun x _ hx => by cases hx)).2
  rwa [List.append_nil] at this
theorem srtK_only {ps : List Pt} {t : Bool} {l l' : List Nat} (h : l.Nodup) (hp : l'.Perm l) (hs : l'.Pairwise (kL ps t)) : l' = srtK ps t l :=
  List.Perm.eq_of_pairwise (le := kL ps t) (fun a b _ _ h1 h2 => absurd h2 (kL_asy h1)) hs (srtK_sorted ps t h) (hp.trans (srtK_perm ps t h).symm)
theorem insK_len (ps : List Pt) (t : Bool) (l : List Nat) (x : Nat) : (insK ps t l x).length = l.length + 1 := (insK_perm ps t l x).length_eq
theorem fold_len (ps : List Pt) (t : Bool) : ∀ (l acc : List Nat), (l.foldl (insK ps t) acc).length = l.length + acc.length
  | [], acc => by simp
  | x :: l, acc => by rw [List.foldl_cons, fold_len ps t l, insK_len, List.length_cons]; omega
theorem srtK_len (ps : List Pt) (t : Bool) (l : List Nat) : (srtK ps t l).length = l.length := by unfold srtK; rw [fold_len]; rfl
theorem srtK_mem (ps : List Pt) (t : Bool) : ∀ (l acc : List Nat) (x : Nat), x ∈ l.foldl (insK ps t) acc ↔ x ∈ l ∨ x ∈ acc
  | [], acc, x => by simp
  | y :: l, acc, x => by
    rw [List.foldl_cons, srtK_mem ps t l, (insK_perm ps t acc y).mem_iff, List.mem_cons, List.mem_cons]
    exact ⟨fun h => by rcases h with h | h | h; exact .inl (.inr h); exact .inl (.inl h); exact .inr h, fun h => by rcases h with (h | h) | h; exact .inr (.inl h); exact .inl h; exact .inr (.inr h)⟩
theorem srt_take (ps : List Pt) (t : Bool) (l : List Nat) (i : Nat) (h : i < l.length) : srtK ps t (l.take (i + 1)) = insK ps t (srtK ps t (l.take i)) l[i] := by
  unfold srtK
  rw [List.take_succ_eq_append_getElem h, List.foldl_append]; rfl
theorem kdF_len (ps : List Pt) : ∀ (f : Nat) (t : Bool) (l : List Nat), (kdF ps f t l).length ≤ l.length
  | 0, _, _ => Nat.zero_le _
  | f + 1, t, l => by
    unfold kdF
    split
    · simp
    · rename_i h
      have h0 : 0 < l.length := List.length_pos_iff.2 h
      have h1 := kdF_len ps f (!t) ((srtK ps t l).take (l.length / 2))
      have h2 := kdF_len ps f (!t) ((srtK ps t l).drop (l.length / 2 + 1))
      rw [List.length_take, srtK_len] at h1
      rw [List.length_drop, srtK_len] at h2
      rw [List.length_cons, List.length_append]
      omega
theorem kdF_mem (ps : List Pt) : ∀ (f : Nat) (t : Bool) (l : List Nat) (x : Nat), x ∈ kdF ps f t l → x ∈ l
  | 0, _, _, x, h => by cases h
  | f + 1, t, l, x, h => by
    unfold kdF at h
    split at h
    · cases h
    · rename_i hne
      have h0 : 0 < l.length := List.length_pos_iff.2 hne
      have ml : ∀ y, y ∈ srtK ps t l → y ∈ l := fun y hy => by
        rcases (srtK_mem ps t l [] y).1 hy with h | h
        · exact h
        · cases h
      rcases List.mem_cons.1 h with rfl | h
      · rw [List.getD_eq_getElem?_getD, List.getElem?_eq_getElem (by rw [srtK_len]; omega)]
        exact ml _ (List.getElem_mem _)
      · rcases List.mem_append.1 h with h | h
        · exact ml _ (List.mem_of_mem_take (kdF_mem ps f _ _ x h))
        · exact ml _ (List.mem_of_mem_drop (kdF_mem ps f _ _ x h))
/-- The text of the tree. -/
def kdT (ps : List Pt) : List UInt8 := intsT (zI (kdL ps))
theorem kdL_mem (ps : List Pt) : (kdL ps).length ≤ ps.length ∧ ∀ k ∈ kdL ps, k < ps.length := by
  unfold kdL
  refine ⟨?_, fun k hk => List.mem_range.1 (kdF_mem _ _ _ _ _ hk)⟩
  have := kdF_len ps ps.length false (List.range ps.length)
  simpa using this
theorem kd_big (ps : List Pt) (h : ps.length ≤ 20) : Big (zI (kdL ps)) := fun y hy => by
  obtain ⟨k, hk, rfl⟩ := List.mem_map.1 hy
  have := (kdL_mem ps).2 k hk
  omega
theorem kd_len (ps : List Pt) (h0 : ps ≠ []) (hok : listOk ps = true) : (kdT ps).length ≤ 100000 := by
  have h20 := (listOk_1 hok).1
  have := intsT_len (kd_big ps h20)
  have h3 := (kdL_mem ps).1
  rw [zI_len] at this
  unfold kdT
  omega
end Go.Proofs.YtnddfdhfefconaaGreatDoor
namespace Go.Proofs.YtnddfdhfefconaaGreatDoor
open Go.RowKit

theorem kL_dec (ps : List Pt) (t : Bool) (i k : Nat) : decide (kL ps t i k) = (decide (ltP (ptK ps t i) (ptK ps t k)) || (eqP (ptK ps t i).x (ptK ps t i).y (ptK ps t k).x (ptK ps t k).y && decide (i < k))) := by
  rw [Bool.eq_iff_iff]
  simp only [decide_eq_true_eq, Bool.or_eq_true, Bool.and_eq_true, eqP_iff]
  unfold kL ltP
  omega
set_option maxHeartbeats 4000000 in
theorem before_any (ps : List Pt) (t : Bool) (i k : Nat) (A : Option Addr) (n c : Nat) (w : World) (hn : ps.length = n) (hi : i < n) (hk : k < n) (hs : PtsAt w w.heap.size A ps) :
    Calls Tryz.prog 167 #[.slice A n c, .int .i64 (if t = true then 1 else 0), .int .i64 i, .int .i64 k] w fun e w' => e = .returned (.bool (decide (kL ps t i k))) ∧ ∃ x, w' = ext w x := by
  obtain ⟨b, o, rfl, hb, hcs⟩ := hs (by omega)
  obtain ⟨ix, iy⟩ := hcs i (by omega)
  obtain ⟨kx, ky⟩ := hcs k (by omega)
  have q1 : (i : Int) < (n : Int) := by omega
  have q2 : (k : Int) < (n : Int) := by omega
  have q3 : (0 : Int) ≤ (i : Int) := by omega
  have q4 : (0 : Int) ≤ (k : Int) := by omega
  have PL := hide (fun (a b : Pt) W => pointLess_any a.x a.y b.x b.y W)
  have RV := hide (kL_dec ps t i k)
  have RE := @run_eqPt
  clear hn hcs hs
  cases t
  · have PK := hide (PL.out (ptK ps false i) (ptK ps false k))
    have e1 : ptK ps false i = ⟨pX ps i, pY ps i⟩ := rfl
    have e2 : ptK ps false k = ⟨pX ps k, pY ps k⟩ := rfl
    rw [e1, e2] at PK RV
    clear e1 e2 PL
    generalize pX ps i = X1 at *
    generalize pY ps i = Y1 at *
    generalize pX ps k = X2 at *
    generalize pY ps k = Y2 at *
    simp only at PK RV
    cases hP : decide (ltP (⟨X1, Y1⟩ : Pt) ⟨X2, Y2⟩)
    · rw [hP] at PK RV
      clear hP
      cases hE : eqP X1 Y1 X2 Y2
      · rw [hE] at RV
        go_enter Tryz.func167, Tryz.ntmps167
        go_wp2_with fail
        refine (PK.out _).mono ?_
        rintro e w' ⟨rfl, hw'⟩; have hzy := ext_sz hw'; obtain ⟨y, rfl⟩ := hw'; (try simp at hzy)
        go_wp2_with fail
        go_ret
        exact ⟨congrArg (fun z => Ending.returned (.bool z)) RV.out.symm, (ext_mk (by (repeat' (first | (with_reducible first | exact Below.refl _ _ | assumption | refine below_ext _ ?_ ?_ | refine Below.alloc ?_ ?_ _ | refine Below.drew ?_ | refine below_drewN ?_ _ | refine le_drewN _ ?_ | refine Below.setCell ?_ ?_ _ | exact Nat.le_refl _ | refine le_ext _ ?_ | refine le_alloc _ ?_ | refine le_setCell _ _ ?_ | refine le_drew ?_) | omega | (simp; done) | (simp; omega)))))⟩
      · rw [hE] at RV
        go_enter Tryz.func167, Tryz.ntmps167
        go_wp2_with fail
        refine (PK.out _).mono ?_
        rintro e w' ⟨rfl, hw'⟩; have hzy := ext_sz hw'; obtain ⟨y, rfl⟩ := hw'; (try simp at hzy)
        go_wp2_with fail
        go_ret
        exact ⟨congrArg (fun z => Ending.returned (.bool z)) RV.out.symm, (ext_mk (by (repeat' (first | (with_reducible first | exact Below.refl _ _ | assumption | refine below_ext _ ?_ ?_ | refine Below.alloc ?_ ?_ _ | refine Below.drew ?_ | refine below_drewN ?_ _ | refine le_drewN _ ?_ | refine Below.setCell ?_ ?_ _ | exact Nat.le_refl _ | refine le_ext _ ?_ | refine le_alloc _ ?_ | refine le_setCell _ _ ?_ | refine le_drew ?_) | omega | (simp; done) | (simp; omega)))))⟩
    · rw [hP] at PK RV
      clear hP
      go_enter Tryz.func167, Tryz.ntmps167
      go_wp2_with fail
      refine (PK.out _).mono ?_
      rintro e w' ⟨rfl, hw'⟩; have hzy := ext_sz hw'; obtain ⟨y, rfl⟩ := hw'; (try simp at hzy)
      go_wp2_with fail
      go_ret
      exact ⟨congrArg (fun z => Ending.returned (.bool z)) RV.out.symm, (ext_mk (by (repeat' (first | (with_reducible first | exact Below.refl _ _ | assumption | refine below_ext _ ?_ ?_ | refine Below.alloc ?_ ?_ _ | refine Below.drew ?_ | refine below_drewN ?_ _ | refine le_drewN _ ?_ | refine Below.setCell ?_ ?_ _ | exact Nat.le_refl _ | refine le_ext _ ?_ | refine le_alloc _ ?_ | refine le_setCell _ _ ?_ | refine le_drew ?_) | omega | (simp; done) | (simp; omega)))))⟩
  · have PK := hide (PL.out (ptK ps true i) (ptK ps true k))
    have e1 : ptK ps true i = ⟨pY ps i, pX ps i⟩ := rfl
    have e2 : ptK ps true k = ⟨pY ps k, pX ps k⟩ := rfl
    rw [e1, e2] at PK RV
    clear e1 e2 PL
    generalize pX ps i = X1 at *
    generalize pY ps i = Y1 at *
    generalize pX ps k = X2 at *
    generalize pY ps k = Y2 at *
    simp only at PK RV
    cases hP : decide (ltP (⟨Y1, X1⟩ : Pt) ⟨Y2, X2⟩)
    · rw [hP] at PK RV
      clear hP
      cases hE : eqP Y1 X1 Y2 X2
      · rw [hE] at RV
        go_enter Tryz.func167, Tryz.ntmps167
        go_wp2_with fail
        refine (PK.out _).mono ?_
        rintro e w' ⟨rfl, hw'⟩; have hzy := ext_sz hw'; obtain ⟨y, rfl⟩ := hw'; (try simp at hzy)
        go_wp2_with fail
        go_ret
        exact ⟨congrArg (fun z => Ending.returned (.bool z)) RV.out.symm, (ext_mk (by (repeat' (first | (with_reducible first | exact Below.refl _ _ | assumption | refine below_ext _ ?_ ?_ | refine Below.alloc ?_ ?_ _ | refine Below.drew ?_ | refine below_drewN ?_ _ | refine le_drewN _ ?_ | refine Below.setCell ?_ ?_ _ | exact Nat.le_refl _ | refine le_ext _ ?_ | refine le_alloc _ ?_ | refine le_setCell _ _ ?_ | refine le_drew ?_) | omega | (simp; done) | (simp; omega)))))⟩
      · rw [hE] at RV
        go_enter Tryz.func167, Tryz.ntmps167
        go_wp2_with fail
        refine (PK.out _).mono ?_
        rintro e w' ⟨rfl, hw'⟩; have hzy := ext_sz hw'; obtain ⟨y, rfl⟩ := hw'; (try simp at hzy)
        go_wp2_with fail
        go_ret
        exact ⟨congrArg (fun z => Ending.returned (.bool z)) RV.out.symm, (ext_mk (by (repeat' (first | (with_reducible first | exact Below.refl _ _ | assumption | refine below_ext _ ?_ ?_ | refine Below.alloc ?_ ?_ _ | refine Below.drew ?_ | refine below_drewN ?_ _ | refine le_drewN _ ?_ | refine Below.setCell ?_ ?_ _ | exact Nat.le_refl _ | refine le_ext _ ?_ | refine le_alloc _ ?_ | refine le_setCell _ _ ?_ | refine le_drew ?_) | omega | (simp; done) | (simp; omega)))))⟩
    · rw [hP] at PK RV
      clear hP
      go_enter Tryz.func167, Tryz.ntmps167
      go_wp2_with fail
      refine (PK.out _).mono ?_
      rintro e w' ⟨rfl, hw'⟩; have hzy := ext_sz hw'; obtain ⟨y, rfl⟩ := hw'; (try simp at hzy)
      go_wp2_with fail
      go_ret
      exact ⟨congrArg (fun z => Ending.returned (.bool z)) RV.out.symm, (ext_mk (by (repeat' (first | (with_reducible first | exact Below.refl _ _ | assumption | refine below_ext _ ?_ ?_ | refine Below.alloc ?_ ?_ _ | refine Below.drew ?_ | refine below_drewN ?_ _ | refine le_drewN _ ?_ | refine Below.setCell ?_ ?_ _ | exact Nat.le_refl _ | refine le_ext _ ?_ | refine le_alloc _ ?_ | refine le_setCell _ _ ?_ | refine le_drew ?_) | omega | (simp; done) | (simp; omega)))))⟩
theorem zI_app (a b : List Nat) : zI (a ++ b) = zI a ++ zI b := by simp [zI]
theorem zI_take (a : List Nat) (k : Nat) : (zI a).take k = zI (a.take k) := by unfold zI; rw [List.map_take]
theorem zI_drop (a : List Nat) (k : Nat) : (zI a).drop k = zI (a.drop k) := by unfold zI; rw [List.map_drop]
theorem ints_take {w : World} {B : Nat} {A : Option Addr} {zs : List Int} (h : IntsAt w B A zs) (k : Nat) : IntsAt w B A (zs.take k) := fun h0 => by
  rw [List.length_take] at h0
  obtain ⟨b, o, hA, hB, hc⟩ := h (by omega)
  refine ⟨b, o, hA, hB, fun i hi => ?_⟩
  rw [List.length_take] at hi
  rw [hc i (by omega), gi_lt (by omega), gi_lt (by rw [List.length_take]; omega), List.getElem_take]
theorem ints_drop {w : World} {B b o : Nat} {zs : List Int} (h : IntsAt w B (some ⟨b, o, none⟩) zs) (k : Nat) : IntsAt w B (some ⟨b, o + k, none⟩) (zs.drop k) := fun h0 => by
  rw [List.length_drop] at h0
  obtain ⟨b', o', hA, hB, hc⟩ := h (by omega)
  injection hA with hA; injection hA with e1 e2
  subst e1 e2
  refine ⟨_, _, rfl, hB, fun i hi => ?_⟩
  rw [List.length_drop] at hi
  have := hc (k + i) (by omega)
  rw [Nat.add_assoc, this, gi_lt (by omega), gi_lt (by rw [List.length_drop]; omega), List.getElem_drop]
theorem ints_keep {w W : World} {B b o : Nat} {zs : List Int} (h : IntsAt w B (some ⟨b, o, none⟩) zs) (hb : W.heap[b]? = w.heap[b]?) : IntsAt W B (some ⟨b, o, none⟩) zs := fun h0 => by
  obtain ⟨b', o', hA, hB, hc⟩ := h h0
  injection hA with hA; injection hA with e1 e2
  subst e1 e2
  exact ⟨_, _, rfl, hB, fun i hi => (World.cell?_of_block hb).trans (hc i hi)⟩
theorem own_shape {w : World} {base : Nat} {v : Value} {zs : List Int} (h : Own w base v zs) (hn : v.ownBlock ≠ none) : ∃ g n c, v = .slice (some ⟨g, 0, none⟩) n c := by
  unfold Own at h
  rcases h.2 with ⟨hv, _⟩ | ⟨g', cap, cur, hv, _⟩
  · rw [hv] at hn; exact absurd rfl hn
  · exact ⟨_, _, _, hv⟩
theorem posR_S {ps : List Pt} {t : Bool} {l : List Nat} {x k : Nat} (h : k < l.length) : posR ps t l x (k + 1) = if kL ps t x l[k] then posR ps t l x k else k + 1 := by
  rw [posR, List.getD_eq_getElem?_getD, List.getElem?_eq_getElem h]; rfl
theorem grown_trans {w W W' : World} {o o' : Option Nat} (h : w.grownBy W o) (h' : W.grownBy W' o') (ho : o' = o ∨ ∃ k, o' = some k ∧ w.heap.size ≤ k) : w.grownBy W' o :=
  ⟨h'.os.trans h.os, h'.tape.trans h.tape, h'.output.trans h.output, Nat.le_trans h.size h'.size, fun k hk hne => (h'.block k (Nat.lt_of_lt_of_le hk h.size) (fun e => by
    rcases ho with h1 | ⟨j, h1, h2⟩
    · exact hne (by rw [e, h1])
    · rw [h1] at e; injection e with e; omega)).trans (h.block k hk hne)⟩
set_option maxRecDepth 20000 in
set_option maxHeartbeats 8000000 in
theorem kdS_any (ps : List Pt) (A : Option Addr) (n c : Nat) (hn : ps.length = n) (hn2 : n ≤ 20) :
    ∀ (f : Nat) (t : Bool) (l : List Nat) (A1 : Option Addr) (m1 c1 : Nat) (v : Value) (zs : List Int) (base : Nat) (w : World), l.length ≤ f → l.length = m1 → m1 ≤ 20 → zs.length + m1 ≤ 100 → l.Nodup → (∀ k ∈ l, k < n) → PtsAt w base A ps → IntsAt w w.heap.size A1 (zI l) → Own w base v zs → base ≤ w.heap.size →
    Calls Tryz.prog 116 #[.slice A n c, .slice A1 m1 c1, .int .i64 (if t = true then 1 else 0), v] w fun e w' =>
      ∃ v', e = .returned v' ∧ Own w' base v' (zs ++ zI (kdF ps f t l)) ∧ Below base w w' ∧ w.grownBy w' v.ownBlock ∧ (v'.ownBlock = v.ownBlock ∨ ∃ k, v'.ownBlock = some k ∧ w.heap.size ≤ k) := by
  intro f
  induction f with
  | zero =>
    intro t l A1 m1 c1 v zs base w h1 h2 h20 hz hnd hk hp hi hown hb
    have : l = [] := List.eq_nil_of_length_eq_zero (by omega)
    subst this
    have e0 : m1 = 0 := by rw [← h2]; rfl
    subst e0
    have OW := hide hown
    clear hi hp hk hnd hown
    cases t <;> (
      go_enter Tryz.func116, Tryz.ntmps116
      go_wp2_with fail
      go_ret
      exact ⟨v, rfl, by rw [show kdF ps 0 _ [] = [] from rfl]; simpa [zI] using OW.out, Below.refl _ _, bel_grown (Below.refl _ _) _, .inl rfl⟩)
  | succ f ih =>
    intro t l A1 m1 c1 v zs base w h1 h2 h20 hz hnd hk hp hi hown hb
    by_cases h0 : m1 = 0
    · subst h0
      have : l = [] := List.eq_nil_of_length_eq_zero h2
      subst this
      have OW := hide hown
      clear hi hp hk hnd hown ih
      cases t <;> (
        go_enter Tryz.func116, Tryz.ntmps116
        go_wp2_with fail
        go_ret
        exact ⟨v, rfl, by rw [show kdF ps (f + 1) _ [] = [] by unfold kdF; rfl]; simpa [zI] using OW.out, Below.refl _ _, bel_grown (Below.refl _ _) _, .inl rfl⟩)
    · have BF := hide (fun (i k : Nat) (W : World) (hb' : Below w.heap.size w W) (hi' : i < n) (hk' : k < n) => before_any ps t i k A n c W hn hi' hk' (((hp.more hb).to hb')))
      have IH := hide ih
      have HK := hide hk
      have ST := hide (fun i (h : i < l.length) => srt_take ps t l i h)
      have SLN := hide (fun l => srtK_len ps t l)
      have SMM := hide (fun (l : List Nat) x (h : x ∈ srtK ps t l) => (show x ∈ l from by
        rcases (srtK_mem ps t l [] x).1 h with h | h
        · exact h
        · cases h))
      have ND := hide hnd
      have HP := hide hp
      have HI := hide hi
      have OW := hide hown
      have HL := hide h2
      have HF := hide h1
      have bz : ((m1 : Int) == 0) = false := by rw [beq_eq_false_iff_ne]; omega
      obtain ⟨T, hT⟩ : ∃ T : Int, T = if t = true then 1 else 0 := ⟨_, rfl⟩
      rw [← hT]
      rw [← hT] at BF
      have HT := hide hT
      clear hT
      have H0 := hide (Own.empty w w.heap.size (Nat.le_refl _))
      clear ih hk hp hi hown hnd h2 h1 hn
      go_enter Tryz.func116, Tryz.ntmps116
      go_wp2_with fail
      go_loopw [9, 10] (fun u9 u10 wr => ∃ i : Nat, i ≤ m1 ∧ u10 = .int .i64 i ∧ (∃ g n c, u9 = .slice (some ⟨g, 0, none⟩) n c) ∧ Hid (Own wr w.heap.size u9 (zI (srtK ps t (l.take i)))) ∧ Below w.heap.size w wr) (fun _ u10 _ => m1 - (intOf u10).toNat)
      case atStart => exact ⟨0, Nat.zero_le _, rfl, ⟨_, _, _, rfl⟩, H0, (by (repeat' (first | (with_reducible first | exact Below.refl _ _ | assumption | refine below_ext _ ?_ ?_ | refine Below.alloc ?_ ?_ _ | refine Below.drew ?_ | refine below_drewN ?_ _ | refine le_drewN _ ?_ | refine Below.setCell ?_ ?_ _ | exact Nat.le_refl _ | refine le_ext _ ?_ | refine le_alloc _ ?_ | refine le_setCell _ _ ?_ | refine le_drew ?_) | omega | (simp; done) | (simp; omega))))⟩
      case round =>
        obtain ⟨i, hi, rfl, HSH9, HO, hbel⟩ := hrel
        obtain ⟨g9, n9, c9, rfl⟩ := HSH9
        have hsz := hbel.size
        by_cases hlt : i < m1
        · have hl : i < l.length := by rw [HL.out]; exact hlt
          have st := ST.out i hl
          obtain ⟨b1, o1, rfl, hb1, hc1⟩ := HI.out (by rw [zI_len]; omega)
          have ci := (hbel.cell (p := ⟨b1, o1 + i, none⟩) hb1).trans (hc1 i (by rw [zI_len]; omega))
          rw [zI_at hl] at ci
          have kx := HK.out l[i] (List.getElem_mem _)
          obtain ⟨x, hx⟩ : ∃ x, x = l[i] := ⟨_, rfl⟩
          rw [← hx] at st ci kx
          have ci0 : Hid (w.cell? ⟨b1, o1 + i, none⟩ = some (.int .i64 (x : Int))) := hide (by rw [hx, ← zI_at hl]; exact hc1 i (by rw [zI_len]; omega))
          obtain ⟨S, hS⟩ : ∃ S, S = srtK ps t (l.take i) := ⟨_, rfl⟩
          have SB : ∀ j (h : j < S.length), S[j] < n := fun j h => HK.out _ (List.mem_of_mem_take (SMM.out _ _ (by rw [← hS]; exact List.getElem_mem _)))
          have SLI : S.length = i := by rw [hS, SLN.out, List.length_take]; omega
          rw [← hS] at st HO
          have e9 := HO.out.ints.1
          rw [zI_len, SLI] at e9
          subst e9
          have STH := hide st
          have SBH := hide SB
          have SLH := hide SLI
          clear hx hS st SB SLI hc1 hl ST HL HI
          go_wp2_with fail
          obtain ⟨W0, hW0⟩ : ∃ W0, W0 = wr := ⟨_, rfl⟩
          subst hW0
          go_loopw [11] (fun u11 wr => ∃ k : Nat, k ≤ i ∧ u11 = .int .i64 k ∧ Hid (posR ps t S x i = posR ps t S x k) ∧ Below W0.heap.size W0 wr) (fun u11 _ => (intOf u11).toNat)
          case atStart => exact ⟨i, Nat.le_refl _, rfl, hide rfl, Below.refl _ _⟩
          case round =>
            obtain ⟨k, hk, rfl, HP2, hbel2⟩ := hrel
            have BF2 := hide (fun (y : Nat) (W : World) (hb' : Below wr.heap.size wr W) (hy : y < n) => BF.out x y W (hbel.trans ((hbel2.trans (hb'.mono hbel2.size)).mono hsz)) kx hy)
            by_cases hk0 : k = 0
            · have PK : Hid (posR ps t S x i = k) := hide (by rw [HP2.out, hk0]; rfl)
              have n1 : ¬ 0 < k := by omega
              have n2 : ¬ (0 : Int) < (k : Int) := by omega
              have n3 : decide ((0 : Int) < (k : Int)) = false := decide_eq_false n2
              clear hk0 HP2
              go_wp2_with fail
              refine wp_region_ext (by kernel_rfl) (by kernel_rfl) ?_
              repeat (go_big_quiet_step (fail))
              refine wpQuiet_nil ?_
              rintro _ hnq
              have hzq := ext_sz hnq
              obtain ⟨nq, rfl⟩ := hnq
              (try simp at hzq)
              have hb9 : Below W0.heap.size W0 (ext wr nq) := hbel2.trans ((ext_below wr nq).mono hbel2.size)
              generalize ext wr nq = W9 at *
              have NLk : (zI (S.take k)).length = k := by rw [zI_len, List.length_take, SLH.out]; omega
              have NLd : (zI (S.drop k)).length = i - k := by rw [zI_len, List.length_drop, SLH.out]
              have gl := HO.out.lt2 g9 rfl
              have z9 := hb9.size
              have g9l : g9 < W9.heap.size := by omega
              have SI := hide (HO.out.ints.2.2.2.to hb9)
              have TKI : Hid (IntsAt W9 W9.heap.size (some ⟨g9, 0, none⟩) (zI (S.take k))) := hide (by have := ints_take SI.out k; rw [zI_take] at this; exact this)
              have DRI : Hid (IntsAt W9 W9.heap.size (some ⟨g9, k, none⟩) (zI (S.drop k))) := hide (by have := ints_drop SI.out k; rw [zI_drop, Nat.zero_add] at this; exact this)
              have INS : Hid (zI (srtK ps t (l.take (i + 1))) = ([] ++ zI (S.take k)) ++ [(x : Int)] ++ zI (S.drop k)) := hide (by rw [STH.out]; unfold insK; rw [SLH.out, PK.out, zI_app]; simp [zI])
              have E0 := hide (Own.empty W9 w.heap.size (by omega))
              have BW9 := hide (hbel.trans (hb9.mono hsz))
              have c9v := (BW9.out.cell (p := ⟨b1, o1 + i, none⟩) hb1).trans ci0.out
              have lk1 : ([] ++ zI (S.take k) : List Int).length ≤ 2000000 := by rw [List.nil_append, NLk]; omega
              have lk2 : (([] ++ zI (S.take k)) ++ [(x : Int)]).length ≤ 2000000 := by rw [List.length_append, List.nil_append, NLk]; simp; omega
              have q1 : (k : Int) ≤ (i : Int) := by omega
              have q0 : (0 : Int) ≤ (k : Int) := by omega
              have q3 : (i : Int) ≤ (c9 : Int) := by have := HO.out.ints.2.1; omega
              have q4 : i ≤ c9 := by omega
              have qk : k ≤ c9 := by omega
              by_cases hcap : c9 = k
              · have ek : i - k = 0 := by omega
                go_wp2_with (first | (at_builtin; refine app_ints rfl (.tmp 45) (.tmp 48) rfl w.heap.size (.slice (some ⟨W9.heap.size, 0, none⟩) 0 0) [] rfl E0.out (some ⟨g9, 0, none⟩) k _ W9.heap.size (zI (S.take k)) rfl NLk (TKI.out.below ((Below.refl _ _).alloc (Nat.le_refl _) _)) ⟨(fun h => by cases h), (fun b o s h => by injection h with h; injection h with _ _ h3; exact h3.symm)⟩ (by simp) (by omega) (by simp; omega) ?_; intro v5 w5 hown5 hb5 hat5 hgr5; have O5 := hide hown5; have k5 := hgr5.block g9 (by rw [size_alloc]; omega) (fun e => by have e3 : g9 = W9.heap.size := Option.some.inj e; omega); have D5 := hide (ints_keep (DRI.out.below ((Below.refl W9.heap.size W9).alloc (Nat.le_refl _) (.cells #[] 3))) k5); have NE5 : Hid (some g9 ≠ v5.ownBlock) := hide (fun e => hat5.elim (fun h => by have e3 : g9 = W9.heap.size := Option.some.inj (e.trans h); omega) (fun h => by have e3 : g9 = (W9.alloc (.cells #[] 3)).heap.size := Option.some.inj (e.trans h); rw [size_alloc] at e3; omega)); have B5 := hide (BW9.out.trans ((Below.alloc (Below.refl _ _) (by omega) _ : Below w.heap.size W9 (W9.alloc (.cells #[] 3))).trans hb5)); have c5 := (B5.out.cell (p := ⟨b1, o1 + i, none⟩) hb1).trans ci0.out; have AT5 := hide hat5; have z5 := hb5.size; have Z5 := B5.out.size; simp at z5; clear hown5 hb5 hat5 hgr5 k5) | (at_builtin; refine app_one rfl (.tmp 50) (.tmp 55) rfl w.heap.size v5 _ rfl (O5.out.below ((Below.refl _ _).alloc (Nat.le_refl _) _)) (x : Int) _ _ rfl (by simp [go_sem]) lk1 (by simp; omega) ?_; intro v6 w6 hown6 hb6 hat6 hgr6; have O6 := hide hown6; have k6 := hgr6.block g9 (by rw [size_alloc]; omega) NE5.out; have D6 := hide (ints_keep (D5.out.below ((Below.refl W9.heap.size w5).alloc (by omega) (.cells #[.int .i64 (x : Int)] 3))) k6); have AT6 := hide hat6; have B6 := hide (B5.out.trans ((Below.alloc (Below.refl _ _) Z5 _ : Below w.heap.size w5 (w5.alloc (.cells #[.int .i64 (x : Int)] 3))).trans hb6)); clear hown6 hb6 hat6 hgr6 k6) | (at_builtin; refine app_ints rfl (.tmp 57) (.tmp 60) rfl w.heap.size v6 _ rfl O6.out _ _ _ W9.heap.size (zI (S.drop k)) rfl (by first | exact NLd | (rw [NLd]; omega)) (fun h0 => absurd h0 (by rw [NLd]; omega)) ⟨(fun h => by cases h), (fun b o s h => by injection h with h; injection h with _ _ h3; exact h3.symm)⟩ lk2 (by omega) B6.out.size ?_; intro v7 w7 hown7 hb7 hat7 hgr7; have O7 := hide hown7; have AT7 := hide hat7; have B7 := hide (B6.out.trans hb7); clear hown7 hb7 hat7 hgr7))
                have NN : v7.ownBlock ≠ none := by
                  rcases AT7.out with e | e
                  · rw [e]
                    rcases AT6.out with e | e
                    · rw [e]
                      rcases AT5.out with e | e
                      · rw [e]; intro h; cases h
                      · rw [e]; intro h; cases h
                    · rw [e]; intro h; cases h
                  · rw [e]; intro h; cases h
                exact ⟨⟨i + 1, hlt, by go_num, own_shape O7.out NN, hide (by rw [INS.out]; exact O7.out), B7.out⟩, by simp [intOf]; omega⟩
              · go_wp2_with (first | (at_builtin; refine app_ints rfl (.tmp 45) (.tmp 48) rfl w.heap.size (.slice (some ⟨W9.heap.size, 0, none⟩) 0 0) [] rfl E0.out (some ⟨g9, 0, none⟩) k _ W9.heap.size (zI (S.take k)) rfl NLk (TKI.out.below ((Below.refl _ _).alloc (Nat.le_refl _) _)) ⟨(fun h => by cases h), (fun b o s h => by injection h with h; injection h with _ _ h3; exact h3.symm)⟩ (by simp) (by omega) (by simp; omega) ?_; intro v5 w5 hown5 hb5 hat5 hgr5; have O5 := hide hown5; have k5 := hgr5.block g9 (by rw [size_alloc]; omega) (fun e => by have e3 : g9 = W9.heap.size := Option.some.inj e; omega); have D5 := hide (ints_keep (DRI.out.below ((Below.refl W9.heap.size W9).alloc (Nat.le_refl _) (.cells #[] 3))) k5); have NE5 : Hid (some g9 ≠ v5.ownBlock) := hide (fun e => hat5.elim (fun h => by have e3 : g9 = W9.heap.size := Option.some.inj (e.trans h); omega) (fun h => by have e3 : g9 = (W9.alloc (.cells #[] 3)).heap.size := Option.some.inj (e.trans h); rw [size_alloc] at e3; omega)); have B5 := hide (BW9.out.trans ((Below.alloc (Below.refl _ _) (by omega) _ : Below w.heap.size W9 (W9.alloc (.cells #[] 3))).trans hb5)); have c5 := (B5.out.cell (p := ⟨b1, o1 + i, none⟩) hb1).trans ci0.out; have AT5 := hide hat5; have z5 := hb5.size; have Z5 := B5.out.size; simp at z5; clear hown5 hb5 hat5 hgr5 k5) | (at_builtin; refine app_one rfl (.tmp 50) (.tmp 55) rfl w.heap.size v5 _ rfl (O5.out.below ((Below.refl _ _).alloc (Nat.le_refl _) _)) (x : Int) _ _ rfl (by simp [go_sem]) lk1 (by simp; omega) ?_; intro v6 w6 hown6 hb6 hat6 hgr6; have O6 := hide hown6; have k6 := hgr6.block g9 (by rw [size_alloc]; omega) NE5.out; have D6 := hide (ints_keep (D5.out.below ((Below.refl W9.heap.size w5).alloc (by omega) (.cells #[.int .i64 (x : Int)] 3))) k6); have AT6 := hide hat6; have B6 := hide (B5.out.trans ((Below.alloc (Below.refl _ _) Z5 _ : Below w.heap.size w5 (w5.alloc (.cells #[.int .i64 (x : Int)] 3))).trans hb6)); clear hown6 hb6 hat6 hgr6 k6) | (at_builtin; refine app_ints rfl (.tmp 57) (.tmp 60) rfl w.heap.size v6 _ rfl O6.out (some ⟨g9, k, none⟩) (i - k) _ W9.heap.size (zI (S.drop k)) rfl NLd D6.out ⟨(fun h => by cases h), (fun b o s h => by injection h with h; injection h with _ _ h3; exact h3.symm)⟩ lk2 (by omega) B6.out.size ?_; intro v7 w7 hown7 hb7 hat7 hgr7; have O7 := hide hown7; have AT7 := hide hat7; have B7 := hide (B6.out.trans hb7); clear hown7 hb7 hat7 hgr7))
                have NN : v7.ownBlock ≠ none := by
                  rcases AT7.out with e | e
                  · rw [e]
                    rcases AT6.out with e | e
                    · rw [e]
                      rcases AT5.out with e | e
                      · rw [e]; intro h; cases h
                      · rw [e]; intro h; cases h
                    · rw [e]; intro h; cases h
                  · rw [e]; intro h; cases h
                exact ⟨⟨i + 1, hlt, by go_num, own_shape O7.out NN, hide (by rw [INS.out]; exact O7.out), B7.out⟩, by simp [intOf]; omega⟩
            · obtain ⟨k', rfl⟩ : ∃ k', k = k' + 1 := ⟨k - 1, by omega⟩
              have hks : k' < S.length := by rw [SLH.out]; omega
              have ps1 := posR_S (ps := ps) (t := t) (x := x) hks
              have yb := SBH.out k' hks
              have gl0 := HO.out.lt2 g9 rfl
              have hz20 := hbel2.size
              have q31 : (i : Int) ≤ (c9 : Int) := by have := HO.out.ints.2.1; omega
              obtain ⟨gb, hgb, _, _, _, hcy⟩ := HO.out.head (by omega)
              injection hgb with hgb; injection hgb with hgb
              subst hgb
              have cy := (hbel2.cell (p := ⟨g9, k', none⟩) gl0).trans (hcy k' (by omega))
              rw [zI_at hks] at cy
              have cx := (hbel2.cell (p := ⟨b1, o1 + i, none⟩) (Nat.lt_of_lt_of_le hb1 hsz)).trans ci
              have BY := hide (fun (W : World) (hb' : Below wr.heap.size wr W) => BF2.out S[k'] W hb' yb)
              have y1 : (k' : Int) < (i : Int) := by omega
              have y2 : (i : Int) < (m1 : Int) := by omega
              by_cases hlt2 : kL ps t x S[k']
              · rw [decide_eq_true hlt2] at BY
                have PK : Hid (posR ps t S x i = posR ps t S x k') := hide (by rw [HP2.out, ps1, if_pos hlt2])
                clear hlt2 ps1 HP2 hcy
                generalize S[k'] = y at *
                go_wp2_with fail
                refine wp_region_ext (by kernel_rfl) (by kernel_rfl) ?_
                repeat (go_big_quiet_step ((first | (go_at_call 167; exact Calls.in_ext (BY.out _ (ext_below wr _))))))
                refine wpQuiet_nil ?_
                rintro _ hnq
                have hzq := ext_sz hnq
                obtain ⟨nq, rfl⟩ := hnq
                (try simp at hzq)
                go_wp2_with fail
                exact ⟨⟨k', by omega, by go_num, PK, hbel2.trans ((ext_below wr nq).mono hbel2.size)⟩, by first | (simp [intOf]; done) | (simp [intOf]; omega)⟩
              · rw [decide_eq_false hlt2] at BY
                have PK : Hid (posR ps t S x i = k' + 1) := hide (by rw [HP2.out, ps1, if_neg hlt2])
                clear hlt2 ps1 HP2 hcy
                generalize S[k'] = y at *
                go_wp2_with fail
                refine wp_region_ext (by kernel_rfl) (by kernel_rfl) ?_
                repeat (go_big_quiet_step ((first | (go_at_call 167; exact Calls.in_ext (BY.out _ (ext_below wr _))))))
                refine wpQuiet_nil ?_
                rintro _ hnq
                have hzq := ext_sz hnq
                obtain ⟨nq, rfl⟩ := hnq
                (try simp at hzq)
                clear BY cy cx yb
                have hb9 : Below W0.heap.size W0 (ext wr nq) := hbel2.trans ((ext_below wr nq).mono hbel2.size)
                generalize ext wr nq = W9 at *
                have NLk : (zI (S.take (k' + 1))).length = (k' + 1) := by rw [zI_len, List.length_take, SLH.out]; omega
                have NLd : (zI (S.drop (k' + 1))).length = i - (k' + 1) := by rw [zI_len, List.length_drop, SLH.out]
                have gl := HO.out.lt2 g9 rfl
                have z9 := hb9.size
                have g9l : g9 < W9.heap.size := by omega
                have SI := hide (HO.out.ints.2.2.2.to hb9)
                have TKI : Hid (IntsAt W9 W9.heap.size (some ⟨g9, 0, none⟩) (zI (S.take (k' + 1)))) := hide (by have := ints_take SI.out (k' + 1); rw [zI_take] at this; exact this)
                have DRI : Hid (IntsAt W9 W9.heap.size (some ⟨g9, (k' + 1), none⟩) (zI (S.drop (k' + 1)))) := hide (by have := ints_drop SI.out (k' + 1); rw [zI_drop, Nat.zero_add] at this; exact this)
                have INS : Hid (zI (srtK ps t (l.take (i + 1))) = ([] ++ zI (S.take (k' + 1))) ++ [(x : Int)] ++ zI (S.drop (k' + 1))) := hide (by rw [STH.out]; unfold insK; rw [SLH.out, PK.out, zI_app]; simp [zI])
                have E0 := hide (Own.empty W9 w.heap.size (by omega))
                have BW9 := hide (hbel.trans (hb9.mono hsz))
                have c9v := (BW9.out.cell (p := ⟨b1, o1 + i, none⟩) hb1).trans ci0.out
                have lk1 : ([] ++ zI (S.take (k' + 1)) : List Int).length ≤ 2000000 := by rw [List.nil_append, NLk]; omega
                have lk2 : (([] ++ zI (S.take (k' + 1))) ++ [(x : Int)]).length ≤ 2000000 := by rw [List.length_append, List.nil_append, NLk]; simp; omega
                have q1 : ((k' + 1) : Int) ≤ (i : Int) := by omega
                have q0 : (0 : Int) ≤ ((k' + 1) : Int) := by omega
                have q3 : (i : Int) ≤ (c9 : Int) := by have := HO.out.ints.2.1; omega
                have q4 : i ≤ c9 := by omega
                have qk : (k' + 1) ≤ c9 := by omega
                by_cases hcap : c9 = (k' + 1)
                · have ek : i - (k' + 1) = 0 := by omega
                  go_wp2_with (first | (at_builtin; refine app_ints rfl (.tmp 45) (.tmp 48) rfl w.heap.size (.slice (some ⟨W9.heap.size, 0, none⟩) 0 0) [] rfl E0.out (some ⟨g9, 0, none⟩) (k' + 1) _ W9.heap.size (zI (S.take (k' + 1))) rfl NLk (TKI.out.below ((Below.refl _ _).alloc (Nat.le_refl _) _)) ⟨(fun h => by cases h), (fun b o s h => by injection h with h; injection h with _ _ h3; exact h3.symm)⟩ (by simp) (by omega) (by simp; omega) ?_; intro v5 w5 hown5 hb5 hat5 hgr5; have O5 := hide hown5; have k5 := hgr5.block g9 (by rw [size_alloc]; omega) (fun e => by have e3 : g9 = W9.heap.size := Option.some.inj e; omega); have D5 := hide (ints_keep (DRI.out.below ((Below.refl W9.heap.size W9).alloc (Nat.le_refl _) (.cells #[] 3))) k5); have NE5 : Hid (some g9 ≠ v5.ownBlock) := hide (fun e => hat5.elim (fun h => by have e3 : g9 = W9.heap.size := Option.some.inj (e.trans h); omega) (fun h => by have e3 : g9 = (W9.alloc (.cells #[] 3)).heap.size := Option.some.inj (e.trans h); rw [size_alloc] at e3; omega)); have B5 := hide (BW9.out.trans ((Below.alloc (Below.refl _ _) (by omega) _ : Below w.heap.size W9 (W9.alloc (.cells #[] 3))).trans hb5)); have c5 := (B5.out.cell (p := ⟨b1, o1 + i, none⟩) hb1).trans ci0.out; have AT5 := hide hat5; have z5 := hb5.size; have Z5 := B5.out.size; simp at z5; clear hown5 hb5 hat5 hgr5 k5) | (at_builtin; refine app_one rfl (.tmp 50) (.tmp 55) rfl w.heap.size v5 _ rfl (O5.out.below ((Below.refl _ _).alloc (Nat.le_refl _) _)) (x : Int) _ _ rfl (by simp [go_sem]) lk1 (by simp; omega) ?_; intro v6 w6 hown6 hb6 hat6 hgr6; have O6 := hide hown6; have k6 := hgr6.block g9 (by rw [size_alloc]; omega) NE5.out; have D6 := hide (ints_keep (D5.out.below ((Below.refl W9.heap.size w5).alloc (by omega) (.cells #[.int .i64 (x : Int)] 3))) k6); have AT6 := hide hat6; have B6 := hide (B5.out.trans ((Below.alloc (Below.refl _ _) Z5 _ : Below w.heap.size w5 (w5.alloc (.cells #[.int .i64 (x : Int)] 3))).trans hb6)); clear hown6 hb6 hat6 hgr6 k6) | (at_builtin; refine app_ints rfl (.tmp 57) (.tmp 60) rfl w.heap.size v6 _ rfl O6.out _ _ _ W9.heap.size (zI (S.drop (k' + 1))) rfl (by first | exact NLd | (rw [NLd]; omega)) (fun h0 => absurd h0 (by rw [NLd]; omega)) ⟨(fun h => by cases h), (fun b o s h => by injection h with h; injection h with _ _ h3; exact h3.symm)⟩ lk2 (by omega) B6.out.size ?_; intro v7 w7 hown7 hb7 hat7 hgr7; have O7 := hide hown7; have AT7 := hide hat7; have B7 := hide (B6.out.trans hb7); clear hown7 hb7 hat7 hgr7))
                  have NN : v7.ownBlock ≠ none := by
                    rcases AT7.out with e | e
                    · rw [e]
                      rcases AT6.out with e | e
                      · rw [e]
                        rcases AT5.out with e | e
                        · rw [e]; intro h; cases h
                        · rw [e]; intro h; cases h
                      · rw [e]; intro h; cases h
                    · rw [e]; intro h; cases h
                  exact ⟨⟨i + 1, hlt, by go_num, own_shape O7.out NN, hide (by rw [INS.out]; exact O7.out), B7.out⟩, by simp [intOf]; omega⟩
                · go_wp2_with (first | (at_builtin; refine app_ints rfl (.tmp 45) (.tmp 48) rfl w.heap.size (.slice (some ⟨W9.heap.size, 0, none⟩) 0 0) [] rfl E0.out (some ⟨g9, 0, none⟩) (k' + 1) _ W9.heap.size (zI (S.take (k' + 1))) rfl NLk (TKI.out.below ((Below.refl _ _).alloc (Nat.le_refl _) _)) ⟨(fun h => by cases h), (fun b o s h => by injection h with h; injection h with _ _ h3; exact h3.symm)⟩ (by simp) (by omega) (by simp; omega) ?_; intro v5 w5 hown5 hb5 hat5 hgr5; have O5 := hide hown5; have k5 := hgr5.block g9 (by rw [size_alloc]; omega) (fun e => by have e3 : g9 = W9.heap.size := Option.some.inj e; omega); have D5 := hide (ints_keep (DRI.out.below ((Below.refl W9.heap.size W9).alloc (Nat.le_refl _) (.cells #[] 3))) k5); have NE5 : Hid (some g9 ≠ v5.ownBlock) := hide (fun e => hat5.elim (fun h => by have e3 : g9 = W9.heap.size := Option.some.inj (e.trans h); omega) (fun h => by have e3 : g9 = (W9.alloc (.cells #[] 3)).heap.size := Option.some.inj (e.trans h); rw [size_alloc] at e3; omega)); have B5 := hide (BW9.out.trans ((Below.alloc (Below.refl _ _) (by omega) _ : Below w.heap.size W9 (W9.alloc (.cells #[] 3))).trans hb5)); have c5 := (B5.out.cell (p := ⟨b1, o1 + i, none⟩) hb1).trans ci0.out; have AT5 := hide hat5; have z5 := hb5.size; have Z5 := B5.out.size; simp at z5; clear hown5 hb5 hat5 hgr5 k5) | (at_builtin; refine app_one rfl (.tmp 50) (.tmp 55) rfl w.heap.size v5 _ rfl (O5.out.below ((Below.refl _ _).alloc (Nat.le_refl _) _)) (x : Int) _ _ rfl (by simp [go_sem]) lk1 (by simp; omega) ?_; intro v6 w6 hown6 hb6 hat6 hgr6; have O6 := hide hown6; have k6 := hgr6.block g9 (by rw [size_alloc]; omega) NE5.out; have D6 := hide (ints_keep (D5.out.below ((Below.refl W9.heap.size w5).alloc (by omega) (.cells #[.int .i64 (x : Int)] 3))) k6); have AT6 := hide hat6; have B6 := hide (B5.out.trans ((Below.alloc (Below.refl _ _) Z5 _ : Below w.heap.size w5 (w5.alloc (.cells #[.int .i64 (x : Int)] 3))).trans hb6)); clear hown6 hb6 hat6 hgr6 k6) | (at_builtin; refine app_ints rfl (.tmp 57) (.tmp 60) rfl w.heap.size v6 _ rfl O6.out (some ⟨g9, (k' + 1), none⟩) (i - (k' + 1)) _ W9.heap.size (zI (S.drop (k' + 1))) rfl NLd D6.out ⟨(fun h => by cases h), (fun b o s h => by injection h with h; injection h with _ _ h3; exact h3.symm)⟩ lk2 (by omega) B6.out.size ?_; intro v7 w7 hown7 hb7 hat7 hgr7; have O7 := hide hown7; have AT7 := hide hat7; have B7 := hide (B6.out.trans hb7); clear hown7 hb7 hat7 hgr7))
                  have NN : v7.ownBlock ≠ none := by
                    rcases AT7.out with e | e
                    · rw [e]
                      rcases AT6.out with e | e
                      · rw [e]
                        rcases AT5.out with e | e
                        · rw [e]; intro h; cases h
                        · rw [e]; intro h; cases h
                      · rw [e]; intro h; cases h
                    · rw [e]; intro h; cases h
                  exact ⟨⟨i + 1, hlt, by go_num, own_shape O7.out NN, hide (by rw [INS.out]; exact O7.out), B7.out⟩, by simp [intOf]; omega⟩
        · have ei : l.take i = l := List.take_of_length_le (by rw [HL.out]; omega)
          have HO2 : Hid (Own wr w.heap.size (.slice (some ⟨g9, 0, none⟩) n9 c9) (zI (srtK ps t l))) := hide (by have := HO.out; rw [ei] at this; exact this)
          have e9 := HO2.out.ints.1
          rw [zI_len, SLN.out, HL.out] at e9
          subst e9
          obtain ⟨S, hS⟩ : ∃ S, S = srtK ps t l := ⟨_, rfl⟩
          have SL : S.length = m1 := by rw [hS, SLN.out, HL.out]
          have KD : Hid (kdF ps (f + 1) t l = S.getD (m1 / 2) 0 :: (kdF ps f (!t) (S.take (m1 / 2)) ++ kdF ps f (!t) (S.drop (m1 / 2 + 1)))) := hide (by
            rw [hS, ← HL.out, kdF, if_neg (by intro e; rw [e] at HL; exact h0 HL.out.symm)])
          rw [← hS] at HO2
          have SN : S.Nodup := by rw [hS]; exact (srtK_perm ps t ND.out).nodup_iff.2 ND.out
          have SMn : ∀ k ∈ S, k < n := fun k hk => HK.out _ (SMM.out _ _ (by rw [← hS]; exact hk))
          obtain ⟨hf, hhf⟩ : ∃ hf, hf = m1 / 2 := ⟨_, rfl⟩
          rw [← hhf] at KD
          have hfl : hf < S.length := by omega
          have e2 : (m1 : Int) / 2 = (hf : Int) := by omega
          obtain ⟨y, hy⟩ : ∃ y, y = S[hf] := ⟨_, rfl⟩
          have gy : S.getD hf 0 = y := by rw [hy, List.getD_eq_getElem?_getD, List.getElem?_eq_getElem hfl]; rfl
          rw [gy] at KD
          obtain ⟨gb, hgb, gbw, glr, _, hcy⟩ := HO2.out.head (by omega)
          injection hgb with hgb; injection hgb with hgb
          subst hgb
          have cy := hcy hf (by omega)
          rw [zI_at hfl, ← hy] at cy
          have OWr := hide (OW.out.below hbel)
          have vlt : ∀ k, v.ownBlock = some k → k < w.heap.size := OW.out.lt2
          obtain ⟨T', hT'⟩ : ∃ T' : Int, T' = if (!t) = true then 1 else 0 := ⟨_, rfl⟩
          have e3 : 1 - T = T' := by rw [hT', HT.out]; cases t <;> rfl
          have t0 : 0 ≤ T' := by rw [hT']; split <;> omega
          have t1 : T' ≤ 1 := by rw [hT']; split <;> omega
          have SI := hide (HO2.out.ints.2.2.2)
          have q1 : (hf : Int) < (m1 : Int) := by omega
          have q0 : (0 : Int) ≤ (hf : Int) := by omega
          have q4 : m1 ≤ c9 := HO2.out.ints.2.1
          have q5 : (hf : Int) ≤ (c9 : Int) := by omega
          have lz : zs.length ≤ 2000000 := by omega
          have IH1 := hide (fun (v1 : Value) (zs1 : List Int) (w1 : World) (hz1 : zs1.length + hf ≤ 100) (hp1 : PtsAt w1 base A ps) (hi1 : IntsAt w1 w1.heap.size (some ⟨g9, 0, none⟩) (zI (S.take hf))) (ho1 : Own w1 base v1 zs1) (hb1 : base ≤ w1.heap.size) =>
            IH.out (!t) (S.take hf) (some ⟨g9, 0, none⟩) hf c9 v1 zs1 base w1 (by rw [List.length_take]; have := HF.out; have := HL.out; omega) (by rw [List.length_take]; omega) (by omega) hz1 (SN.sublist (List.take_sublist _ _)) (fun k hk => SMn k (List.mem_of_mem_take hk)) hp1 hi1 ho1 hb1)
          have IH2 := hide (fun (A2 : Option Addr) (m2 c2 : Nat) (v1 : Value) (zs1 : List Int) (w1 : World) (hm2 : m1 - (hf + 1) = m2) (hz1 : zs1.length + m2 ≤ 100) (hp1 : PtsAt w1 base A ps) (hi1 : IntsAt w1 w1.heap.size A2 (zI (S.drop (hf + 1)))) (ho1 : Own w1 base v1 zs1) (hb1 : base ≤ w1.heap.size) =>
            IH.out (!t) (S.drop (hf + 1)) A2 m2 c2 v1 zs1 base w1 (by rw [List.length_drop]; have := HF.out; have := HL.out; omega) (by rw [List.length_drop]; omega) (by omega) hz1 (SN.sublist (List.drop_sublist _ _)) (fun k hk => SMn k (List.mem_of_mem_drop hk)) hp1 hi1 ho1 hb1)
          rw [← hT'] at IH1 IH2
          have lenT := kdF_len ps f (!t) (S.take hf)
          rw [List.length_take] at lenT
          have SLH := hide SL
          clear ei HO ST HI H0 BF hhf hS SL SN SMn hy gy hcy hT' hfl IH HK SMM SLN ND HL HF
          go_wp2_with (at_builtin; refine app_one rfl (.tmp 65) (.tmp 70) rfl base v zs rfl (OWr.out.below (by (repeat' (first | (with_reducible first | exact Below.refl _ _ | assumption | refine below_ext _ ?_ ?_ | refine Below.alloc ?_ ?_ _ | refine Below.drew ?_ | refine below_drewN ?_ _ | refine le_drewN _ ?_ | refine Below.setCell ?_ ?_ _ | exact Nat.le_refl _ | refine le_ext _ ?_ | refine le_alloc _ ?_ | refine le_setCell _ _ ?_ | refine le_drew ?_) | omega | (simp; done) | (simp; omega))))) (y : Int) _ _ rfl (by simp [go_sem]) lz (by simp; omega) ?_; intro v1 w1 hown1 hb1 hat1 hgr1; have O1 := hide hown1; have B1 := hide ((hbel.mono hb).trans ((Below.alloc (Below.refl _ _) (by omega) _ : Below base wr (wr.alloc (.cells #[.int .i64 (y : Int)] 3))).trans hb1)); have k1 := hgr1.block g9 (by rw [size_alloc]; omega) (fun e => by have := vlt g9 e.symm; omega); have S1 := hide (ints_keep (SI.out.below ((Below.refl wr.heap.size wr).alloc (Nat.le_refl _) (.cells #[.int .i64 (y : Int)] 3))) k1); have z1 := hb1.size; have Z1 := hgr1.size; rw [size_alloc] at Z1; have G1 := hide (grown_trans (bel_grown (hbel.trans ((Below.alloc (Below.refl _ _) hsz _ : Below w.heap.size wr (wr.alloc (.cells #[.int .i64 (y : Int)] 3))))) v.ownBlock) hgr1 (.inl rfl)); have AT1 : Hid (v1.ownBlock = v.ownBlock ∨ v1.ownBlock = some (wr.heap.size + 1)) := hide (by rw [size_alloc] at hat1; exact hat1); clear hown1 hb1 hat1 hgr1 k1)
          have ZB : base ≤ w1.heap.size := Nat.le_trans hb B1.out.size
          refine (IH1.out v1 (zs ++ [(y : Int)]) w1 (by rw [List.length_append]; simp; omega) (HP.out.below B1.out) (by have := ints_take (S1.out.more (show wr.heap.size ≤ w1.heap.size by omega)) hf; rw [zI_take] at this; exact this) O1.out ZB).mono ?_
          rintro e w2 ⟨v2, rfl, hown2, hb2, hgr2, hat2⟩
          have O2 := hide hown2
          have B2 := hide (B1.out.trans hb2)
          have ne1 : some g9 ≠ v1.ownBlock := fun e => by
            rcases AT1.out with h | h
            · have := vlt g9 (by rw [← h]; exact e.symm); omega
            · rw [h] at e; injection e with e; omega
          have k2 := hgr2.block g9 (by omega) ne1
          have S2 := hide (ints_keep (S1.out.more (show wr.heap.size ≤ w2.heap.size by have := hgr2.size; omega)) k2)
          have Z2 := hgr2.size
          have at1 : v1.ownBlock = v.ownBlock ∨ ∃ k, v1.ownBlock = some k ∧ w.heap.size ≤ k := AT1.out.imp id (fun h => ⟨_, h, by omega⟩)
          have G2 := hide (grown_trans G1.out hgr2 at1)
          have AT2 : Hid (v2.ownBlock = v.ownBlock ∨ ∃ k, v2.ownBlock = some k ∧ w.heap.size ≤ k) := hide (hat2.elim (fun h => by rw [h]; exact at1) (fun ⟨k, h1, h2⟩ => .inr ⟨k, h1, by omega⟩))
          clear hown2 hb2 hgr2 hat2 ne1 k2 at1 IH1
          have lz2 : ((zs ++ [(y : Int)]) ++ zI (kdF ps f (!t) (S.take hf))).length + (m1 - (hf + 1)) ≤ 100 := by
            rw [List.length_append, List.length_append, zI_len]; simp; omega
          have ZB2 : base ≤ w2.heap.size := Nat.le_trans hb B2.out.size
          by_cases hcap : c9 = hf + 1
          · have m0 : m1 - (hf + 1) = 0 := by omega
            have IHk := hide (IH2.out (some ⟨g9, 0, none⟩) 0 0 v2 _ w2 m0 (by omega) (HP.out.below B2.out) (fun h0 => absurd h0 (by rw [zI_len, List.length_drop, SLH.out]; omega)) O2.out ZB2)
            have q7 : (hf : Int) + 1 ≤ (m1 : Int) := by omega
            clear IH2
            go_wp2_with fail
            refine IHk.out.mono ?_
            rintro e w3 ⟨v3, rfl, hown3, hb3, hgr3, hat3⟩
            have O3 := hide hown3
            have B3 := hide (B2.out.trans hb3)
            have G3 := hide (grown_trans G2.out hgr3 AT2.out)
            have AT3 : Hid (v3.ownBlock = v.ownBlock ∨ ∃ k, v3.ownBlock = some k ∧ w.heap.size ≤ k) := hide (hat3.elim (fun h => by rw [h]; exact AT2.out) (fun ⟨k, h1, h2⟩ => .inr ⟨k, h1, by have := B2.out.size; omega⟩))
            clear hown3 hb3 hgr3 hat3
            go_wp2_with fail
            go_ret
            exact ⟨v3, rfl, by rw [KD.out]; have := O3.out; simpa [zI, List.append_assoc] using this, B3.out, G3.out, AT3.out⟩
          · have IHk := hide (IH2.out (some ⟨g9, hf + 1, none⟩) (m1 - (hf + 1)) (c9 - (hf + 1)) v2 _ w2 rfl lz2 (HP.out.below B2.out) (by have := ints_drop S2.out (hf + 1); rw [zI_drop] at this; rw [show 0 + (hf + 1) = hf + 1 from Nat.zero_add _] at this; exact this) O2.out ZB2)
            have q7 : (hf : Int) + 1 ≤ (m1 : Int) := by omega
            clear IH2
            go_wp2_with fail
            refine IHk.out.mono ?_
            rintro e w3 ⟨v3, rfl, hown3, hb3, hgr3, hat3⟩
            have O3 := hide hown3
            have B3 := hide (B2.out.trans hb3)
            have G3 := hide (grown_trans G2.out hgr3 AT2.out)
            have AT3 : Hid (v3.ownBlock = v.ownBlock ∨ ∃ k, v3.ownBlock = some k ∧ w.heap.size ≤ k) := hide (hat3.elim (fun h => by rw [h]; exact AT2.out) (fun ⟨k, h1, h2⟩ => .inr ⟨k, h1, by have := B2.out.size; omega⟩))
            clear hown3 hb3 hgr3 hat3
            go_wp2_with fail
            go_ret
            exact ⟨v3, rfl, by rw [KD.out]; have := O3.out; simpa [zI, List.append_assoc] using this, B3.out, G3.out, AT3.out⟩
end Go.Proofs.YtnddfdhfefconaaGreatDoor
namespace Go.Proofs.YtnddfdhfefconaaGreatDoor
open Go.RowKit

theorem zI_rng (i : Nat) : zI (List.range (i + 1)) = zI (List.range i) ++ [(i : Int)] := by rw [List.range_succ, zI_app]; rfl
set_option maxRecDepth 20000 in
set_option maxHeartbeats 4000000 in
theorem sKd_any (ps : List Pt) (A : Option Addr) (n c : Nat) (w : World) (hn : ps.length = n) (hok : listOk ps = true) (hs : PtsAt w w.heap.size A ps) :
    Calls Tryz.prog 68 #[.slice A n c] w fun e w' => ∃ A' n' c', e = .returned (.slice A' n' c') ∧ (zI (kdL ps)).length = n' ∧ IntsAt w' w'.heap.size A' (zI (kdL ps)) ∧ ∃ x, w' = ext w x := by
  obtain ⟨h1, h2⟩ := listOk_1 hok
  have h20 : n ≤ 20 := by omega
  have VP := hide (fun (W : World) (hb : Below w.heap.size w W) => validPoints_any ps A n c W hn (by omega) (hs.to hb))
  rw [hok] at VP
  have KO := hide (fun (A1 : Option Addr) (c1 : Nat) (v : Value) (W : World) (hb : Below w.heap.size w W) (hi : IntsAt W W.heap.size A1 (zI (List.range n))) (ho : Own W w.heap.size v []) => by
    have := kdS_any ps A n c hn h20 n false (List.range n) A1 n c1 v [] w.heap.size W (by rw [List.length_range]; exact Nat.le_refl _) List.length_range h20 (by simp; omega) List.nodup_range (fun k hk => List.mem_range.1 hk) (hs.below hb) hi ho hb.size
    rw [List.nil_append, show kdF ps n false (List.range n) = kdL ps by unfold kdL; rw [hn]] at this
    exact this)
  have NXT := hide zI_rng
  have H0 := hide (Own.empty w w.heap.size (Nat.le_refl _))
  clear hn hok hs h1 h2
  generalize zI (kdL ps) = R at *
  go_enter Tryz.func68, Tryz.ntmps68
  go_wp2_with fail
  refine (VP.out _ (by (repeat' (first | (with_reducible first | exact Below.refl _ _ | assumption | refine below_ext _ ?_ ?_ | refine Below.alloc ?_ ?_ _ | refine Below.drew ?_ | refine below_drewN ?_ _ | refine le_drewN _ ?_ | refine Below.setCell ?_ ?_ _ | exact Nat.le_refl _ | refine le_ext _ ?_ | refine le_alloc _ ?_ | refine le_setCell _ _ ?_ | refine le_drew ?_) | omega | (simp; done) | (simp; omega))))).mono ?_
  rintro e w' ⟨rfl, hw'⟩; have hzy1 := ext_sz hw'; obtain ⟨y1, rfl⟩ := hw'; (try simp at hzy1)
  have H1 := hide (H0.out.below (ext_below _ y1))
  have B1 := hide (show Below w.heap.size w (ext (w.alloc (.cells #[] 3)) y1) from (by (repeat' (first | (with_reducible first | exact Below.refl _ _ | assumption | refine below_ext _ ?_ ?_ | refine Below.alloc ?_ ?_ _ | refine Below.drew ?_ | refine below_drewN ?_ _ | refine le_drewN _ ?_ | refine Below.setCell ?_ ?_ _ | exact Nat.le_refl _ | refine le_ext _ ?_ | refine le_alloc _ ?_ | refine le_setCell _ _ ?_ | refine le_drew ?_) | omega | (simp; done) | (simp; omega)))))
  generalize ext (w.alloc (.cells #[] 3)) y1 = W1 at *
  clear VP H0
  go_wp2_with fail
  go_loopw [3, 4] (fun u3 u4 wr => ∃ i : Nat, i ≤ n ∧ u4 = .int .i64 i ∧ Hid (Own wr w.heap.size u3 (zI (List.range i))) ∧ Below w.heap.size w wr) (fun _ u4 _ => n - (intOf u4).toNat)
  case atStart => exact ⟨0, Nat.zero_le _, rfl, H1, B1.out⟩
  case round =>
    obtain ⟨i, hi, rfl, HO, hbel⟩ := hrel
    obtain ⟨A3, n3, c3, rfl⟩ := own_slice HO.out
    have hsz := hbel.size
    by_cases hlt : i < n
    · have NX := hide (NXT.out i)
      have lz : (zI (List.range i)).length ≤ 2000000 := by rw [zI_len, List.length_range]; omega
      go_wp2_with (at_builtin; refine app_one rfl _ _ rfl w.heap.size (.slice A3 n3 c3) _ rfl (HO.out.below (by (repeat' (first | (with_reducible first | exact Below.refl _ _ | assumption | refine below_ext _ ?_ ?_ | refine Below.alloc ?_ ?_ _ | refine Below.drew ?_ | refine below_drewN ?_ _ | refine le_drewN _ ?_ | refine Below.setCell ?_ ?_ _ | exact Nat.le_refl _ | refine le_ext _ ?_ | refine le_alloc _ ?_ | refine le_setCell _ _ ?_ | refine le_drew ?_) | omega | (simp; done) | (simp; omega))))) (i : Int) _ _ rfl (by simp [go_sem]) lz (by simp; omega) ?_; intro v7 w7 hown7 hb7 hat7 hgr7; have O7 := hide hown7; have B7 := hide (Below.trans (Below.trans hbel (by (repeat' (first | (with_reducible first | exact Below.refl _ _ | assumption | refine below_ext _ ?_ ?_ | refine Below.alloc ?_ ?_ _ | refine Below.drew ?_ | refine below_drewN ?_ _ | refine le_drewN _ ?_ | refine Below.setCell ?_ ?_ _ | exact Nat.le_refl _ | refine le_ext _ ?_ | refine le_alloc _ ?_ | refine le_setCell _ _ ?_ | refine le_drew ?_) | omega | (simp; done) | (simp; omega))))) hb7); clear hown7 hb7 hat7 hgr7)
      exact ⟨⟨i + 1, hlt, by go_num, hide (by rw [NX.out]; exact O7.out), B7.out⟩, by simp [intOf]; omega⟩
    · have ei : i = n := by omega
      have e3 := HO.out.ints.1
      rw [zI_len, List.length_range] at e3
      have HI : Hid (IntsAt wr wr.heap.size A3 (zI (List.range n))) := hide (by have := HO.out.ints.2.2.2; rw [ei] at this; exact this)
      have e4 : n3 = n := by omega
      subst e4
      have KOk := hide (KO.out A3 c3 (.slice (some ⟨wr.heap.size, 0, none⟩) 0 0) (wr.alloc (.cells #[] 3)) (hbel.trans (Below.alloc (Below.refl _ _) hsz _)) (HI.out.to (Below.alloc (Below.refl _ _) (Nat.le_refl _) _)) (Own.empty wr w.heap.size hsz))
      clear ei e3 KO NXT HO
      go_wp2_with fail
      refine KOk.out.mono ?_
      rintro e w5 ⟨v5, rfl, hown, hb5, _, _⟩
      obtain ⟨A5, n5, c5, rfl⟩ := own_slice hown
      obtain ⟨l5, _, _, i5⟩ := hown.ints
      have L5 := hide l5
      have I5 := hide i5
      have B5 := hide ((hbel.trans (Below.alloc (Below.refl _ _) hsz _)).trans hb5)
      clear hown hb5 l5 i5
      go_wp2_with fail
      go_ret
      exact ⟨A5, n5, c5, rfl, L5.out, I5.out, ext_mk B5.out⟩
set_option maxHeartbeats 1000000 in
theorem sq_kd (ps : List Pt) : AnsS qKd (kdT ps) ps := by
  intro A n c w hn hok hc hcm hs
  have HH := hide (sKd_any ps A n c w hn hok hs)
  have h3 := (kdL_mem ps).1
  have h20 := (listOk_1 hok).1
  have FI := hide (fun (A' : Option Addr) (n' c' : Nat) (W : World) (hl : (zI (kdL ps)).length = n') h2 => fmtInts_any (zI (kdL ps)) A' n' c' W hl (by rw [zI_len] at hl; omega) (kd_big ps h20) h2)
  unfold kdT
  have y1 := lit_no (l := qKd) (q := [104, 117, 108, 108]) (by decide)
  have y2 := lit_no (l := qKd) (q := [97, 114, 101, 97]) (by decide)
  have y3 := lit_no (l := qKd) (q := [100, 105, 97, 109, 101, 116, 101, 114]) (by decide)
  have y4 := lit_no (l := qKd) (q := [99, 105, 114, 99, 108, 101]) (by decide)
  have y5 := lit_no (l := qKd) (q := [116, 114, 101, 101]) (by decide)
  have y6 := lit_yes (l := qKd) (q := [107, 100]) rfl
  clear hn hok hs
  generalize bS qKd = S at *
  generalize zI (kdL ps) = zs at *
  go_enter Tryz.func34, Tryz.ntmps34
  go_wp2_with fail
  refine HH.out.mono ?_
  rintro e w2 ⟨A2, n2, c2, rfl, l2, i2, hx⟩
  have B2 := hide (ext_bel hx)
  have TK := hide (FI.out A2 n2 c2 w2 l2 i2)
  clear hx FI i2 l2
  go_wp2_with fail
  refine TK.out.mono ?_
  rintro e w' ⟨rfl, hw'⟩; have hzy := ext_sz hw'; obtain ⟨y, rfl⟩ := hw'; (try simp at hzy)
  go_wp2_with fail
  go_ret
  exact ⟨rfl, ext_mk (B2.out.trans (Below.mono (show Below w2.heap.size w2 _ from (by (repeat' (first | (with_reducible first | exact Below.refl _ _ | assumption | refine below_ext _ ?_ ?_ | refine Below.alloc ?_ ?_ _ | refine Below.drew ?_ | refine below_drewN ?_ _ | refine le_drewN _ ?_ | refine Below.setCell ?_ ?_ _ | exact Nat.le_refl _ | refine le_ext _ ?_ | refine le_alloc _ ?_ | refine le_setCell _ _ ?_ | refine le_drew ?_) | omega | (simp; done) | (simp; omega))))) B2.out.size))⟩
end Go.Proofs.YtnddfdhfefconaaGreatDoor
