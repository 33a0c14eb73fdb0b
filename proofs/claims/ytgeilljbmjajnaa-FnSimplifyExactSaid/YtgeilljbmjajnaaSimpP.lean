
/- SimplifyPath of the program. -/
import Derived.Test.YtgeilljbmjajnaaSimpI
import Derived.Laws.EntriesVeiled
set_option linter.unusedVariables false
set_option linter.unusedSimpArgs false
namespace Go.Proofs.Ytgeilljbmjajnaa
open Go.RowKit

/-- The slice at A is a row of ints of the call's own, at block base or later; its block may be longer. -/
def IRow (w : World) (base : Nat) (A : Option Addr) (zs : List Int) : Prop :=
  0 < zs.length → ∃ g m f, A = some ⟨g, 0, none⟩ ∧ base ≤ g ∧ zs.length ≤ m ∧ RowAt w g 3 m f ∧ ∀ i, i < zs.length → f i = .int .i64 (gi zs i)
theorem IRow.nil (w : World) (base : Nat) (A : Option Addr) : IRow w base A [] := fun h => absurd h (Nat.lt_irrefl 0)
theorem IRow.below {w W : World} {base : Nat} {A : Option Addr} {zs : List Int} (h : IRow w base A zs) (hb : Below w.heap.size w W) : IRow W base A zs := fun h0 => by
  obtain ⟨g, m, f, hA, hg, hm, hr, hf⟩ := h h0
  exact ⟨g, m, f, hA, hg, hm, hr.below hb hr.lt, hf⟩
theorem IRow.more {w : World} {base base' : Nat} {A : Option Addr} {zs : List Int} (h : IRow w base A zs) (hb : base' ≤ base) : IRow w base' A zs := fun h0 => by
  obtain ⟨g, m, f, hA, hg, hm, hr, hf⟩ := h h0
  exact ⟨g, m, f, hA, Nat.le_trans hb hg, hm, hr, hf⟩
theorem IRow.ints {w : World} {base : Nat} {A : Option Addr} {zs : List Int} (h : IRow w base A zs) : IntsAt w w.heap.size A zs := fun h0 => by
  obtain ⟨g, m, f, hA, hg, hm, hr, hf⟩ := h h0
  exact ⟨g, 0, hA, hr.lt, fun i hi => by rw [Nat.zero_add, hr.cell (by omega), hf i hi]⟩
theorem Own.irow {w : World} {base : Nat} {A : Option Addr} {n c : Nat} {zs : List Int} (h : Own w base (.slice A n c) zs) : zs.length = n ∧ IRow w base A zs := by
  have hi := h.ints
  refine ⟨hi.1, fun h0 => ?_⟩
  have hin := hi.2.2.2
  unfold Own at h
  rcases h.2 with ⟨hv, h1⟩ | ⟨g, cp, cur, hv, hg, hgg, hnc, hcm, hsz, htk⟩
  · omega
  · injection hv with h1 h2 h3
    subst h1 h2 h3
    refine ⟨g, _, fun j => cur.getD j undef, rfl, hg, hnc, ⟨cur, hgg, by omega, fun j hj => ?_⟩, fun i hi2 => ?_⟩
    · have : j < cur.size := by omega
      simp [this]
    · obtain ⟨b, o, hA, _, hc⟩ := hin h0
      injection hA with hA; injection hA with e1 e2
      subst e1 e2
      have := hc i hi2
      rw [Nat.zero_add, heap_cell hgg] at this
      show cur.getD i undef = _
      rw [Array.getD_eq_getD_getElem?, this]; rfl
set_option maxHeartbeats 400000 in
theorem clipI_any (A : Option Addr) (n c : Nat) (w : World) (hn : n ≤ c) (hc : c ≤ 9223372036854775807) (hA : 0 < n → A ≠ none) :
    Calls Try.prog 48 #[.slice A n c] w fun e w' => e = .returned (.slice A n n) ∧ w = w' := by
  go_enter Try.func48, Try.ntmps48
  go_wp2
  go_ret
  exact ⟨rfl, rfl⟩
theorem Cap.start {w : World} {pb mb : Nat} {A : Option Addr} {n c : Nat} {most : Int} (hp : w.heap[pb]? = some (.cells #[.slice A n c] 27 (0, 0))) (hm : w.heap[mb]? = some (.cells #[.int .i64 most] 3 (0, 0))) :
    Cap w.heap.size pb mb (w.heap.size + 1 + 1) (w.heap.size + 1) A n c most (((w.alloc (.cells #[.int .i64 0] 3)).alloc (.cells #[.slice (some ⟨w.heap.size, 0, none⟩) 1 1] 33)).alloc (.cells #[selfFn pb mb (w.heap.size + 1 + 1) (w.heap.size + 1)] 70)) (.slice (some ⟨w.heap.size, 0, none⟩) 1 1) [0] := by
  have lp := heap_lt hp
  have lm := heap_lt hm
  have three : ∀ (o1 o2 o3 : Obj), ((w.alloc o1).alloc o2).heap[w.heap.size + 1]? = some o2 ∧ (((w.alloc o1).alloc o2).alloc o3).heap[w.heap.size + 1 + 1]? = some o3 := fun o1 o2 o3 => by
    have h1 := heap_alloc_new (w.alloc o1) o2
    have h2 := heap_alloc_new ((w.alloc o1).alloc o2) o3
    rw [size_alloc] at h1
    rw [size_alloc, size_alloc] at h2
    exact ⟨h1, h2⟩
  have old : ∀ (o1 o2 o3 : Obj) (k : Nat), k < w.heap.size → (((w.alloc o1).alloc o2).alloc o3).heap[k]? = w.heap[k]? := fun o1 o2 o3 k hk =>
    (Below.heap_alloc _ _ k (by rw [size_alloc, size_alloc]; omega)).trans ((Below.heap_alloc _ _ k (by rw [size_alloc]; omega)).trans (Below.heap_alloc _ _ k hk))
  refine ⟨(old _ _ _ pb lp).trans hp, (old _ _ _ mb lm).trans hm, (three _ _ _).2, (Below.heap_alloc _ _ _ (by rw [size_alloc, size_alloc]; omega)).trans (three _ _ (.cells #[] 0 (0, 0))).1, ?_, by omega, ?_, by omega⟩
  · exact (Own.lit w 0).below (((Below.refl _ _).alloc (Nat.le_refl _) _).alloc (by simp) _)
  · intro k hk
    have : k = w.heap.size := (Option.some.inj hk).symm
    omega
theorem two_boxes (w y : World) (o1 o2 : Obj) : (ext ((w.alloc o1).alloc o2) y).heap[w.heap.size]? = some o1 ∧ (ext ((w.alloc o1).alloc o2) y).heap[w.heap.size + 1]? = some o2 := by
  have h2 := heap_alloc_new (w.alloc o1) o2
  rw [size_alloc] at h2
  exact ⟨((ext_below _ y).block _ (by rw [size_alloc, size_alloc]; omega)).trans ((Below.heap_alloc _ _ _ (by rw [size_alloc]; omega)).trans (heap_alloc_new w o1)), ((ext_below _ y).block _ (by rw [size_alloc, size_alloc]; omega)).trans h2⟩
set_option maxHeartbeats 2000000 in
theorem iSimplify_any (ps : List Pt) (most : Int) (A : Option Addr) (n c : Nat) (w : World) (hn : ps.length = n) (hm : n ≤ 2000000) (hs : PtsAt w w.heap.size A ps) :
    Calls Try.prog 21 #[.slice A n c, .int .i64 most] w fun e w' => ∃ A' n' c', e = .returned (.slice A' n' c') ∧ (simplifyOf ps most).length = n' ∧ n' ≤ c' ∧ c' ≤ 9223372036854775807 ∧ IRow w' w.heap.size A' (simplifyOf ps most) ∧ ∃ x, w' = ext w x := by
  cases h1 : pathOk ps
  · have HR := hide (simplifyOf_no (ps := ps) (most := most) (.inl h1))
    go_enter Try.func21, Try.ntmps21
    go_wp2_with (go_at_call 37; refine (pathOk_any ps _ _ _ _ hn hm (hs.to (by (repeat' (first | (with_reducible exact Below.refl _ _) | (with_reducible assumption) | (with_reducible refine below_ext _ ?_ ?_) | (with_reducible refine Below.alloc ?_ ?_ _) | (with_reducible refine Below.drew ?_) | (with_reducible refine below_drewN ?_ _) | (with_reducible refine le_drewN _ ?_) | (with_reducible refine Below.setCell ?_ ?_ _) | (with_reducible exact Nat.le_refl _) | (with_reducible refine le_ext _ ?_) | (with_reducible refine le_alloc _ ?_) | (with_reducible refine le_setCell _ _ ?_) | (with_reducible refine le_drew ?_) | omega | (simp; done) | (simp; omega)))))).mono ?_; rintro e w' ⟨rfl, hw'⟩; have hzy := ext_sz hw'; obtain ⟨y, rfl⟩ := hw'; (try simp at hzy))
    go_ret
    exact ⟨_, _, _, rfl, by rw [HR.out]; rfl, Nat.le_refl _, by omega, by rw [HR.out]; exact IRow.nil _ _ _, (ext_mk (by (repeat' (first | (with_reducible exact Below.refl _ _) | (with_reducible assumption) | (with_reducible refine below_ext _ ?_ ?_) | (with_reducible refine Below.alloc ?_ ?_ _) | (with_reducible refine Below.drew ?_) | (with_reducible refine below_drewN ?_ _) | (with_reducible refine le_drewN _ ?_) | (with_reducible refine Below.setCell ?_ ?_ _) | (with_reducible exact Nat.le_refl _) | (with_reducible refine le_ext _ ?_) | (with_reducible refine le_alloc _ ?_) | (with_reducible refine le_setCell _ _ ?_) | (with_reducible refine le_drew ?_) | omega | (simp; done) | (simp; omega)))))⟩
  cases h2 : inB most 0 8000000
  · have HR := hide (simplifyOf_no (ps := ps) (most := most) (.inr h2))
    go_enter Try.func21, Try.ntmps21
    go_wp2_with (first | (go_at_call 37; refine (pathOk_any ps _ _ _ _ hn hm (hs.to (by (repeat' (first | (with_reducible exact Below.refl _ _) | (with_reducible assumption) | (with_reducible refine below_ext _ ?_ ?_) | (with_reducible refine Below.alloc ?_ ?_ _) | (with_reducible refine Below.drew ?_) | (with_reducible refine below_drewN ?_ _) | (with_reducible refine le_drewN _ ?_) | (with_reducible refine Below.setCell ?_ ?_ _) | (with_reducible exact Nat.le_refl _) | (with_reducible refine le_ext _ ?_) | (with_reducible refine le_alloc _ ?_) | (with_reducible refine le_setCell _ _ ?_) | (with_reducible refine le_drew ?_) | omega | (simp; done) | (simp; omega)))))).mono ?_; rintro e w' ⟨rfl, hw'⟩; have hzy := ext_sz hw'; obtain ⟨y, rfl⟩ := hw'; (try simp at hzy)) | (go_at_call 38; refine (squareOk_any _ _).mono ?_; rintro e w' ⟨rfl, rfl⟩))
    go_ret
    exact ⟨_, _, _, rfl, by rw [HR.out]; rfl, Nat.le_refl _, by omega, by rw [HR.out]; exact IRow.nil _ _ _, (ext_mk (by (repeat' (first | (with_reducible exact Below.refl _ _) | (with_reducible assumption) | (with_reducible refine below_ext _ ?_ ?_) | (with_reducible refine Below.alloc ?_ ?_ _) | (with_reducible refine Below.drew ?_) | (with_reducible refine below_drewN ?_ _) | (with_reducible refine le_drewN _ ?_) | (with_reducible refine Below.setCell ?_ ?_ _) | (with_reducible exact Nat.le_refl _) | (with_reducible refine le_ext _ ?_) | (with_reducible refine le_alloc _ ?_) | (with_reducible refine le_setCell _ _ ?_) | (with_reducible refine le_drew ?_) | omega | (simp; done) | (simp; omega)))))⟩
  · have HR := hide (simplifyOf_yes h1 h2)
    have hp := pathOk_len h1
    have h20 := listOk_len (pathOk_list h1)
    obtain ⟨mo1, mo2⟩ := inB_iff.1 h2
    have hall := listOk_all (pathOk_list h1)
    have hkl := keepL_len (ps := ps) (most := most) (n - 1) 0 (n - 1)
    have HS := hide (fun (base pb mb fb kb : Nat) => between_any ps most n c base pb mb fb kb A hn (by omega) ⟨mo1, mo2⟩ hall (n - 1) 0 (n - 1))
    have hc0 : ((0 : Nat) : Int) = 0 := rfl
    have hc1 : ((n - 1 : Nat) : Int) = (n : Int) - 1 := by omega
    simp only [hc0, hc1] at HS
    rw [hn, hc1] at HR
    clear hc0 hc1 hall
    go_enter Try.func21, Try.ntmps21
    go_wp2_with (first | (go_at_call 37; refine (pathOk_any ps _ _ _ _ hn hm (hs.to (by (repeat' (first | (with_reducible exact Below.refl _ _) | (with_reducible assumption) | (with_reducible refine below_ext _ ?_ ?_) | (with_reducible refine Below.alloc ?_ ?_ _) | (with_reducible refine Below.drew ?_) | (with_reducible refine below_drewN ?_ _) | (with_reducible refine le_drewN _ ?_) | (with_reducible refine Below.setCell ?_ ?_ _) | (with_reducible exact Nat.le_refl _) | (with_reducible refine le_ext _ ?_) | (with_reducible refine le_alloc _ ?_) | (with_reducible refine le_setCell _ _ ?_) | (with_reducible refine le_drew ?_) | omega | (simp; done) | (simp; omega)))))).mono ?_; rintro e w' ⟨rfl, hw'⟩; have hzy := ext_sz hw'; obtain ⟨y, rfl⟩ := hw'; (try simp at hzy)) | (go_at_call 38; refine (squareOk_any _ _).mono ?_; rintro e w' ⟨rfl, rfl⟩))
    obtain ⟨t1, t2⟩ := two_boxes w y (.cells #[.slice A n c] 27) (.cells #[.int .i64 most] 3)
    have hb0 : Below w.heap.size w (ext ((w.alloc (.cells #[.slice A n c] 27)).alloc (.cells #[.int .i64 most] 3)) y) := (by (repeat' (first | (with_reducible exact Below.refl _ _) | (with_reducible assumption) | (with_reducible refine below_ext _ ?_ ?_) | (with_reducible refine Below.alloc ?_ ?_ _) | (with_reducible refine Below.drew ?_) | (with_reducible refine below_drewN ?_ _) | (with_reducible refine le_drewN _ ?_) | (with_reducible refine Below.setCell ?_ ?_ _) | (with_reducible exact Nat.le_refl _) | (with_reducible refine le_ext _ ?_) | (with_reducible refine le_alloc _ ?_) | (with_reducible refine le_setCell _ _ ?_) | (with_reducible refine le_drew ?_) | omega | (simp; done) | (simp; omega))))
    generalize ext ((w.alloc (.cells #[.slice A n c] 27)).alloc (.cells #[.int .i64 most] 3)) y = W0 at *
    have HCAP := hide (Cap.start t1 t2)
    have T := hide (And.intro t1 t2)
    clear t1 t2
    refine (HS.out W0.heap.size _ _ _ _ _ [0] _ (Nat.sub_zero _) (by omega) (by omega) (by simp; omega) (by simp; omega) ((hs.below (Below.mono (by (repeat' (first | (with_reducible exact Below.refl _ _) | (with_reducible assumption) | (with_reducible refine below_ext _ ?_ ?_) | (with_reducible refine Below.alloc ?_ ?_ _) | (with_reducible refine Below.drew ?_) | (with_reducible refine below_drewN ?_ _) | (with_reducible refine le_drewN _ ?_) | (with_reducible refine Below.setCell ?_ ?_ _) | (with_reducible exact Nat.le_refl _) | (with_reducible refine le_ext _ ?_) | (with_reducible refine le_alloc _ ?_) | (with_reducible refine le_setCell _ _ ?_) | (with_reducible refine le_drew ?_) | omega | (simp; done) | (simp; omega)))) (Nat.le_refl _))).more hb0.size) HCAP.out).mono ?_
    rintro e w1 ⟨v1, rfl, hcap1, hb1⟩
    have ck : w1.cell? ⟨W0.heap.size + 1, 0, none⟩ = some v1 := heap_cell hcap1.k 0
    have cp : w1.cell? ⟨w.heap.size, 0, none⟩ = some (.slice A n c) := heap_cell hcap1.p 0
    have OWN1 := hide hcap1.own
    clear hcap1
    have hbw1 : Below w.heap.size w w1 := Below.trans (by (repeat' (first | (with_reducible exact Below.refl _ _) | (with_reducible assumption) | (with_reducible refine below_ext _ ?_ ?_) | (with_reducible refine Below.alloc ?_ ?_ _) | (with_reducible refine Below.drew ?_) | (with_reducible refine below_drewN ?_ _) | (with_reducible refine le_drewN _ ?_) | (with_reducible refine Below.setCell ?_ ?_ _) | (with_reducible exact Nat.le_refl _) | (with_reducible refine le_ext _ ?_) | (with_reducible refine le_alloc _ ?_) | (with_reducible refine le_setCell _ _ ?_) | (with_reducible refine le_drew ?_) | omega | (simp; done) | (simp; omega)))) (hb1.mono hb0.size)
    have hz1 := hb1.size
    simp at hz1
    have hl2 : ([0] ++ keepOf ps most 0 (n - 1)).length ≤ 2000 := by rw [List.length_append]; unfold keepOf; simp; omega
    have hbs := hb0.size
    go_wp2_with (first | (at_builtin; refine app_one rfl _ _ rfl W0.heap.size v1 ([0] ++ keepOf ps most 0 (n - 1)) rfl (OWN1.out.below (by (repeat' (first | (with_reducible exact Below.refl _ _) | (with_reducible assumption) | (with_reducible refine below_ext _ ?_ ?_) | (with_reducible refine Below.alloc ?_ ?_ _) | (with_reducible refine Below.drew ?_) | (with_reducible refine below_drewN ?_ _) | (with_reducible refine le_drewN _ ?_) | (with_reducible refine Below.setCell ?_ ?_ _) | (with_reducible exact Nat.le_refl _) | (with_reducible refine le_ext _ ?_) | (with_reducible refine le_alloc _ ?_) | (with_reducible refine le_setCell _ _ ?_) | (with_reducible refine le_drew ?_) | omega | (simp; done) | (simp; omega))))) ((n : Int) - 1) _ _ rfl (by simp [go_sem]) (by omega) (by simp; omega) ?_; intro v' w' hown' hb' hat hgr; obtain ⟨A', n', c', rfl⟩ := own_slice hown'; obtain ⟨ho1, ho2, ho3, ho4⟩ := hown'.ints; have OWN2 := hide hown'; clear hown' hat hgr) | (go_at_call 48; refine (clipI_any _ _ _ _ (by omega) (by unfold maxLen at *; omega) ?_).mono ?_))
    · intro h0
      obtain ⟨b, o, hA, _⟩ := ho4 (by omega)
      rw [hA]
      simp
    rintro e w2 ⟨rfl, rfl⟩
    have hl := OWN2.out.irow
    have HL := hide hl
    have HBE : Hid (∃ x, w' = ext w x) := hide (ext_mk (Below.trans (Below.alloc hbw1 (by omega) _) (hb'.mono hbs)))
    clear hl
    go_wp2
    go_ret
    exact ⟨_, _, _, rfl, by rw [HR.out]; exact HL.out.1, Nat.le_refl _, by unfold maxLen at *; omega, by rw [HR.out]; exact HL.out.2.more hbs, HBE.out⟩
end Go.Proofs.Ytgeilljbmjajnaa
