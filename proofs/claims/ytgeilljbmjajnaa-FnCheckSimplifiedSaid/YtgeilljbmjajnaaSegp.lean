
/- The program's OnSegment; the laws' equalInts and isIn. -/
import Derived.Test.YtgeilljbmjajnaaMSimp
import Derived.Test.YtgeilljbmjajnaaHelp
import Derived.Test.YtgeilljbmjajnaaHas
set_option linter.unusedVariables false
set_option linter.unusedSimpArgs false
namespace Go.Proofs.Ytgeilljbmjajnaa
open Go.RowKit

set_option maxHeartbeats 400000 in
theorem equalInts_any (zs ys : List Int) (A A' : Option Addr) (n c n' c' : Nat) (w : World) (hn : zs.length = n) (hn' : ys.length = n') (hm : n ≤ 2000000) (hm' : n' ≤ 2000000) (hs : IntsAt w w.heap.size A zs) (hs' : IntsAt w w.heap.size A' ys) :
    Calls Try.prog 22 #[.slice A n c, .slice A' n' c'] w fun e w' => e = .returned (.bool (decide (zs = ys))) ∧ ∃ m, w' = ext w m := by
  by_cases hnn : n = n'
  · subst hnn
    have hne : ((n : Int) != (n : Int)) = false := by simp
    go_enter Try.func22, Try.ntmps22
    go_wp2
    go_loopw [5] (fun v wr => ∃ k : Nat, k ≤ n ∧ v = .int .i64 k ∧ Hid (∀ j, j < k → gi zs j = gi ys j) ∧ ∃ x, wr = ext w x) (fun v _ => n - (intOf v).toNat)
    case atStart => exact ⟨0, Nat.zero_le _, rfl, fun j hj => by omega, ext_same w⟩
    case round =>
      obtain ⟨k, hk, rfl, hp, x, rfl⟩ := hrel
      by_cases hlt : k < n
      · obtain ⟨b, o, rfl, hb, hc⟩ := hs (by omega)
        have hx := hc k (by omega)
        obtain ⟨b', o', rfl, hb', hc'⟩ := hs' (by omega)
        have hx' := hc' k (by omega)
        have hsz := ext_size w x
        clear hc hc'
        by_cases ht : gi zs k = gi ys k
        · have HT := hide ht
          go_wp2
          refine wp_region_ext (by kernel_rfl) (by kernel_rfl) ?_
          repeat (go_big_quiet_step (fail))
          refine wpQuiet_nil ?_
          rintro _ hnq
          have hzq := ext_sz hnq
          obtain ⟨nq, rfl⟩ := hnq
          (try simp at hzq)
          go_wp2
          exact ⟨⟨k + 1, by omega, by go_num, fun j hj => by rcases Nat.lt_succ_iff_lt_or_eq.1 hj with h | rfl; exact hp.out j h; exact HT.out, (ext_mk (by (repeat' (first | (with_reducible exact Below.refl _ _) | (with_reducible assumption) | (with_reducible refine below_ext _ ?_ ?_) | (with_reducible refine Below.alloc ?_ ?_ _) | (with_reducible refine Below.drew ?_) | (with_reducible refine below_drewN ?_ _) | (with_reducible refine le_drewN _ ?_) | (with_reducible refine Below.setCell ?_ ?_ _) | (with_reducible exact Nat.le_refl _) | (with_reducible refine le_ext _ ?_) | (with_reducible refine le_alloc _ ?_) | (with_reducible refine le_setCell _ _ ?_) | (with_reducible refine le_drew ?_) | omega | (simp; done) | (simp; omega)))))⟩, by simp [intOf]; omega⟩
        · go_wp2
          refine wp_region_ext (by kernel_rfl) (by kernel_rfl) ?_
          repeat (go_big_quiet_step (fail))
          refine wpQuiet_nil ?_
          rintro _ hnq
          have hzq := ext_sz hnq
          obtain ⟨nq, rfl⟩ := hnq
          (try simp at hzq)
          go_wp2
          go_ret
          exact ⟨ret_bool (decide_eq_false (fun h => ht (by rw [h]))).symm, (ext_mk (by (repeat' (first | (with_reducible exact Below.refl _ _) | (with_reducible assumption) | (with_reducible refine below_ext _ ?_ ?_) | (with_reducible refine Below.alloc ?_ ?_ _) | (with_reducible refine Below.drew ?_) | (with_reducible refine below_drewN ?_ _) | (with_reducible refine le_drewN _ ?_) | (with_reducible refine Below.setCell ?_ ?_ _) | (with_reducible exact Nat.le_refl _) | (with_reducible refine le_ext _ ?_) | (with_reducible refine le_alloc _ ?_) | (with_reducible refine le_setCell _ _ ?_) | (with_reducible refine le_drew ?_) | omega | (simp; done) | (simp; omega)))))⟩
      · have : k = n := by omega
        subst this
        go_wp2
        go_ret
        exact ⟨ret_bool (decide_eq_true (ints_eq (by omega) (fun i hi => hp.out i (by omega)))).symm, (ext_mk (by (repeat' (first | (with_reducible exact Below.refl _ _) | (with_reducible assumption) | (with_reducible refine below_ext _ ?_ ?_) | (with_reducible refine Below.alloc ?_ ?_ _) | (with_reducible refine Below.drew ?_) | (with_reducible refine below_drewN ?_ _) | (with_reducible refine le_drewN _ ?_) | (with_reducible refine Below.setCell ?_ ?_ _) | (with_reducible exact Nat.le_refl _) | (with_reducible refine le_ext _ ?_) | (with_reducible refine le_alloc _ ?_) | (with_reducible refine le_setCell _ _ ?_) | (with_reducible refine le_drew ?_) | omega | (simp; done) | (simp; omega)))))⟩
  · have hne : ((n : Int) != n') = true := by rw [bne_iff_ne]; omega
    go_enter Try.func22, Try.ntmps22
    go_wp2
    go_ret
    exact ⟨ret_bool (decide_eq_false (fun h => hnn (by rw [← hn, ← hn', h]))).symm, (ext_mk (by (repeat' (first | (with_reducible exact Below.refl _ _) | (with_reducible assumption) | (with_reducible refine below_ext _ ?_ ?_) | (with_reducible refine Below.alloc ?_ ?_ _) | (with_reducible refine Below.drew ?_) | (with_reducible refine below_drewN ?_ _) | (with_reducible refine le_drewN _ ?_) | (with_reducible refine Below.setCell ?_ ?_ _) | (with_reducible exact Nat.le_refl _) | (with_reducible refine le_ext _ ?_) | (with_reducible refine le_alloc _ ?_) | (with_reducible refine le_setCell _ _ ?_) | (with_reducible refine le_drew ?_) | omega | (simp; done) | (simp; omega)))))⟩
set_option maxHeartbeats 400000 in
theorem isIn_any (zs : List Int) (z : Int) (A : Option Addr) (n c : Nat) (w : World) (hn : zs.length = n) (hm : n ≤ 2000000) (hs : IntsAt w w.heap.size A zs) :
    Calls Try.prog 25 #[.slice A n c, .int .i64 z] w fun e w' => e = .returned (.bool (decide (z ∈ zs))) ∧ ∃ m, w' = ext w m := by
  have HN := hide hn
  clear hn
  go_enter Try.func25, Try.ntmps25
  go_wp2
  go_loopw [5] (fun v wr => ∃ k : Nat, k ≤ n ∧ v = .int .i64 k ∧ Hid (∀ j, j < k → gi zs j ≠ z) ∧ ∃ x, wr = ext w x) (fun v _ => n - (intOf v).toNat)
  case atStart => exact ⟨0, Nat.zero_le _, rfl, fun j hj => by omega, ext_same w⟩
  case round =>
    obtain ⟨k, hk, rfl, hp, x, rfl⟩ := hrel
    by_cases hlt : k < n
    · obtain ⟨b, o, rfl, hb, hc⟩ := hs (by rw [HN.out]; omega)
      have hx := hc k (by rw [HN.out]; omega)
      have hsz := ext_size w x
      clear hc
      by_cases ht : gi zs k = z
      · have HT := hide ht
        have hd : (gi zs k == z) = true := by simpa using ht
        clear ht
        go_wp2
        go_ret
        refine ⟨ret_bool (decide_eq_true ?_).symm, (ext_mk (by (repeat' (first | (with_reducible exact Below.refl _ _) | (with_reducible assumption) | (with_reducible refine below_ext _ ?_ ?_) | (with_reducible refine Below.alloc ?_ ?_ _) | (with_reducible refine Below.drew ?_) | (with_reducible refine below_drewN ?_ _) | (with_reducible refine le_drewN _ ?_) | (with_reducible refine Below.setCell ?_ ?_ _) | (with_reducible exact Nat.le_refl _) | (with_reducible refine le_ext _ ?_) | (with_reducible refine le_alloc _ ?_) | (with_reducible refine le_setCell _ _ ?_) | (with_reducible refine le_drew ?_) | omega | (simp; done) | (simp; omega)))))⟩
        rw [← HT.out, gi_lt (by rw [HN.out]; exact hlt)]
        exact List.getElem_mem _
      · have HT := hide ht
        have hd : (gi zs k == z) = false := by simpa using ht
        clear ht
        go_wp2
        exact ⟨⟨k + 1, by omega, by go_num, fun j hj => by rcases Nat.lt_succ_iff_lt_or_eq.1 hj with h | rfl; exact hp.out j h; exact HT.out, (ext_mk (by (repeat' (first | (with_reducible exact Below.refl _ _) | (with_reducible assumption) | (with_reducible refine below_ext _ ?_ ?_) | (with_reducible refine Below.alloc ?_ ?_ _) | (with_reducible refine Below.drew ?_) | (with_reducible refine below_drewN ?_ _) | (with_reducible refine le_drewN _ ?_) | (with_reducible refine Below.setCell ?_ ?_ _) | (with_reducible exact Nat.le_refl _) | (with_reducible refine le_ext _ ?_) | (with_reducible refine le_alloc _ ?_) | (with_reducible refine le_setCell _ _ ?_) | (with_reducible refine le_drew ?_) | omega | (simp; done) | (simp; omega)))))⟩, by simp [intOf]; omega⟩
    · have : k = n := by omega
      subst this
      go_wp2
      go_ret
      refine ⟨ret_bool (decide_eq_false (fun h => ?_)).symm, (ext_mk (by (repeat' (first | (with_reducible exact Below.refl _ _) | (with_reducible assumption) | (with_reducible refine below_ext _ ?_ ?_) | (with_reducible refine Below.alloc ?_ ?_ _) | (with_reducible refine Below.drew ?_) | (with_reducible refine below_drewN ?_ _) | (with_reducible refine le_drewN _ ?_) | (with_reducible refine Below.setCell ?_ ?_ _) | (with_reducible exact Nat.le_refl _) | (with_reducible refine le_ext _ ?_) | (with_reducible refine le_alloc _ ?_) | (with_reducible refine le_setCell _ _ ?_) | (with_reducible refine le_drew ?_) | omega | (simp; done) | (simp; omega)))))⟩
      obtain ⟨i, hi, he⟩ := List.getElem_of_mem h
      exact hp.out i (by have := HN.out; omega) (by rw [gi_lt hi]; exact he)
def segOk (a b c d : Int) : Bool := vP a b && (vP c d && !(decide (a = c) && decide (b = d)))
theorem segOk_all (a b c d : Int) : segOk a b c d = (allOk [⟨a, b⟩, ⟨c, d⟩] && !(decide (a = c) && decide (b = d))) := by
  unfold segOk allOk; simp [Pt.ok, Bool.and_assoc]
theorem two_pts (w : World) (T : TypeId) (g : Nat) (hg : g = w.heap.size) (a b c d : Int) : PtsAt (w.alloc (.cells #[.int .i64 a, .int .i64 b, .int .i64 c, .int .i64 d] T)) (w.alloc (.cells #[.int .i64 a, .int .i64 b, .int .i64 c, .int .i64 d] T)).heap.size (some ⟨g, 0, none⟩) [⟨a, b⟩, ⟨c, d⟩] := fun _ => by
  subst hg
  refine ⟨w.heap.size, 0, rfl, by simp, fun i hi => ?_⟩
  match i with
  | 0 => exact ⟨World.cell?_alloc_new w _ T 0, World.cell?_alloc_new w _ T 1⟩
  | 1 => exact ⟨World.cell?_alloc_new w _ T 2, World.cell?_alloc_new w _ T 3⟩
  | i + 2 => simp at hi; omega
set_option maxHeartbeats 400000 in
theorem segValid_any (a b c d : Int) (w : World) : Calls Try.prog 51 #[.agg #[.int .i64 a, .int .i64 b, .int .i64 c, .int .i64 d]] w fun r w' => r = .returned (.bool (segOk a b c d)) ∧ ∃ n, w' = ext w n := by
  have HO := hide (segOk_all a b c d)
  cases hk : allOk [⟨a, b⟩, ⟨c, d⟩]
  · rw [hk] at HO
    go_enter Try.func51, Try.ntmps51
    go_wp2_with fail
    refine (allValid_any [⟨a, b⟩, ⟨c, d⟩] _ 2 2 _ rfl (by omega) (two_pts _ _ _ (by simp) _ _ _ _)).mono ?_
    rw [hk]
    rintro e w' ⟨rfl, hw'⟩; have hzy := ext_sz hw'; obtain ⟨y, rfl⟩ := hw'; (try simp at hzy)
    clear hk
    go_wp2
    go_ret
    exact ⟨ret_bool (by rw [HO.out]; rfl), (ext_mk (by (repeat' (first | (with_reducible exact Below.refl _ _) | (with_reducible assumption) | (with_reducible refine below_ext _ ?_ ?_) | (with_reducible refine Below.alloc ?_ ?_ _) | (with_reducible refine Below.drew ?_) | (with_reducible refine below_drewN ?_ _) | (with_reducible refine le_drewN _ ?_) | (with_reducible refine Below.setCell ?_ ?_ _) | (with_reducible exact Nat.le_refl _) | (with_reducible refine le_ext _ ?_) | (with_reducible refine le_alloc _ ?_) | (with_reducible refine le_setCell _ _ ?_) | (with_reducible refine le_drew ?_) | omega | (simp; done) | (simp; omega)))))⟩
  · rw [hk] at HO
    have H1 := hide hk
    by_cases h1 : a = c
    · subst h1
      by_cases h2 : b = d
      · subst h2
        clear hk
        go_enter Try.func51, Try.ntmps51
        go_wp2_with fail
        refine (allValid_any [⟨a, b⟩, ⟨a, b⟩] _ 2 2 _ rfl (by omega) (two_pts _ _ _ (by simp) _ _ _ _)).mono ?_
        rw [H1.out]
        rintro e w' ⟨rfl, hw'⟩; have hzy := ext_sz hw'; obtain ⟨y, rfl⟩ := hw'; (try simp at hzy)
        go_wp2
        go_ret
        exact ⟨ret_bool (by rw [HO.out]; simp), (ext_mk (by (repeat' (first | (with_reducible exact Below.refl _ _) | (with_reducible assumption) | (with_reducible refine below_ext _ ?_ ?_) | (with_reducible refine Below.alloc ?_ ?_ _) | (with_reducible refine Below.drew ?_) | (with_reducible refine below_drewN ?_ _) | (with_reducible refine le_drewN _ ?_) | (with_reducible refine Below.setCell ?_ ?_ _) | (with_reducible exact Nat.le_refl _) | (with_reducible refine le_ext _ ?_) | (with_reducible refine le_alloc _ ?_) | (with_reducible refine le_setCell _ _ ?_) | (with_reducible refine le_drew ?_) | omega | (simp; done) | (simp; omega)))))⟩
      · have H2 := hide h2
        clear hk
        go_enter Try.func51, Try.ntmps51
        go_wp2_with fail
        refine (allValid_any [⟨a, b⟩, ⟨a, d⟩] _ 2 2 _ rfl (by omega) (two_pts _ _ _ (by simp) _ _ _ _)).mono ?_
        rw [H1.out]
        rintro e w' ⟨rfl, hw'⟩; have hzy := ext_sz hw'; obtain ⟨y, rfl⟩ := hw'; (try simp at hzy)
        go_wp2
        go_ret
        exact ⟨ret_bool (by rw [HO.out]; simp [H2.out]), (ext_mk (by (repeat' (first | (with_reducible exact Below.refl _ _) | (with_reducible assumption) | (with_reducible refine below_ext _ ?_ ?_) | (with_reducible refine Below.alloc ?_ ?_ _) | (with_reducible refine Below.drew ?_) | (with_reducible refine below_drewN ?_ _) | (with_reducible refine le_drewN _ ?_) | (with_reducible refine Below.setCell ?_ ?_ _) | (with_reducible exact Nat.le_refl _) | (with_reducible refine le_ext _ ?_) | (with_reducible refine le_alloc _ ?_) | (with_reducible refine le_setCell _ _ ?_) | (with_reducible refine le_drew ?_) | omega | (simp; done) | (simp; omega)))))⟩
    · have H2 := hide h1
      by_cases h2 : b = d
      · subst h2
        clear hk
        go_enter Try.func51, Try.ntmps51
        go_wp2_with fail
        refine (allValid_any [⟨a, b⟩, ⟨c, b⟩] _ 2 2 _ rfl (by omega) (two_pts _ _ _ (by simp) _ _ _ _)).mono ?_
        rw [H1.out]
        rintro e w' ⟨rfl, hw'⟩; have hzy := ext_sz hw'; obtain ⟨y, rfl⟩ := hw'; (try simp at hzy)
        go_wp2
        go_ret
        exact ⟨ret_bool (by rw [HO.out]; simp [H2.out]), (ext_mk (by (repeat' (first | (with_reducible exact Below.refl _ _) | (with_reducible assumption) | (with_reducible refine below_ext _ ?_ ?_) | (with_reducible refine Below.alloc ?_ ?_ _) | (with_reducible refine Below.drew ?_) | (with_reducible refine below_drewN ?_ _) | (with_reducible refine le_drewN _ ?_) | (with_reducible refine Below.setCell ?_ ?_ _) | (with_reducible exact Nat.le_refl _) | (with_reducible refine le_ext _ ?_) | (with_reducible refine le_alloc _ ?_) | (with_reducible refine le_setCell _ _ ?_) | (with_reducible refine le_drew ?_) | omega | (simp; done) | (simp; omega)))))⟩
      · have H3 := hide h2
        clear hk
        go_enter Try.func51, Try.ntmps51
        go_wp2_with fail
        refine (allValid_any [⟨a, b⟩, ⟨c, d⟩] _ 2 2 _ rfl (by omega) (two_pts _ _ _ (by simp) _ _ _ _)).mono ?_
        rw [H1.out]
        rintro e w' ⟨rfl, hw'⟩; have hzy := ext_sz hw'; obtain ⟨y, rfl⟩ := hw'; (try simp at hzy)
        go_wp2
        go_ret
        exact ⟨ret_bool (by rw [HO.out]; simp [H2.out]), (ext_mk (by (repeat' (first | (with_reducible exact Below.refl _ _) | (with_reducible assumption) | (with_reducible refine below_ext _ ?_ ?_) | (with_reducible refine Below.alloc ?_ ?_ _) | (with_reducible refine Below.drew ?_) | (with_reducible refine below_drewN ?_ _) | (with_reducible refine le_drewN _ ?_) | (with_reducible refine Below.setCell ?_ ?_ _) | (with_reducible exact Nat.le_refl _) | (with_reducible refine le_ext _ ?_) | (with_reducible refine le_alloc _ ?_) | (with_reducible refine le_setCell _ _ ?_) | (with_reducible refine le_drew ?_) | omega | (simp; done) | (simp; omega)))))⟩
def onSegOk (a b c d e f : Int) : Bool := segOk a b c d && (vP e f && onSeg ⟨a, b⟩ ⟨c, d⟩ ⟨e, f⟩)
set_option maxHeartbeats 400000 in
theorem onSegment_any (a b c d e f : Int) (w : World) : Calls Try.prog 26 #[.agg #[.int .i64 a, .int .i64 b, .int .i64 c, .int .i64 d], .agg #[.int .i64 e, .int .i64 f]] w fun r w' => r = .returned (.bool (onSegOk a b c d e f)) ∧ ∃ n, w' = ext w n := by
  have HO : Hid (onSegOk a b c d e f = (segOk a b c d && (vP e f && onSeg ⟨a, b⟩ ⟨c, d⟩ ⟨e, f⟩))) := rfl
  cases h1 : segOk a b c d
  · have H1 := hide h1
    clear h1
    go_enter Try.func26, Try.ntmps26
    go_wp2_with fail
    refine (segValid_any _ _ _ _ _).mono ?_
    rw [H1.out]
    rintro e w' ⟨rfl, hw'⟩; have hzy := ext_sz hw'; obtain ⟨y, rfl⟩ := hw'; (try simp at hzy)
    go_wp2
    go_ret
    exact ⟨ret_bool (by rw [HO.out, H1.out]; rfl), (ext_mk (by (repeat' (first | (with_reducible exact Below.refl _ _) | (with_reducible assumption) | (with_reducible refine below_ext _ ?_ ?_) | (with_reducible refine Below.alloc ?_ ?_ _) | (with_reducible refine Below.drew ?_) | (with_reducible refine below_drewN ?_ _) | (with_reducible refine le_drewN _ ?_) | (with_reducible refine Below.setCell ?_ ?_ _) | (with_reducible exact Nat.le_refl _) | (with_reducible refine le_ext _ ?_) | (with_reducible refine le_alloc _ ?_) | (with_reducible refine le_setCell _ _ ?_) | (with_reducible refine le_drew ?_) | omega | (simp; done) | (simp; omega)))))⟩
  cases h2 : vP e f
  · have H1 := hide h1
    have H2 := hide h2
    clear h1 h2
    go_enter Try.func26, Try.ntmps26
    go_wp2_with fail
    refine (segValid_any _ _ _ _ _).mono ?_
    rw [H1.out]
    rintro e w' ⟨rfl, hw'⟩; have hzy := ext_sz hw'; obtain ⟨y, rfl⟩ := hw'; (try simp at hzy)
    go_wp2_with fail
    refine (valid_any _ _ _).mono ?_
    rw [H2.out]
    rintro e w' ⟨rfl, hw'⟩; have hzz := ext_sz hw'; obtain ⟨z, rfl⟩ := hw'; (try simp at hzz)
    go_wp2
    go_ret
    exact ⟨ret_bool (by rw [HO.out, H1.out, H2.out]; rfl), (ext_mk (by (repeat' (first | (with_reducible exact Below.refl _ _) | (with_reducible assumption) | (with_reducible refine below_ext _ ?_ ?_) | (with_reducible refine Below.alloc ?_ ?_ _) | (with_reducible refine Below.drew ?_) | (with_reducible refine below_drewN ?_ _) | (with_reducible refine le_drewN _ ?_) | (with_reducible refine Below.setCell ?_ ?_ _) | (with_reducible exact Nat.le_refl _) | (with_reducible refine le_ext _ ?_) | (with_reducible refine le_alloc _ ?_) | (with_reducible refine le_setCell _ _ ?_) | (with_reducible refine le_drew ?_) | omega | (simp; done) | (simp; omega)))))⟩
  · have H1 := hide h1
    have H2 := hide h2
    have hb : (-1000 ≤ a ∧ a ≤ 1000) ∧ (-1000 ≤ b ∧ b ≤ 1000) ∧ (-1000 ≤ c ∧ c ≤ 1000) ∧ (-1000 ≤ d ∧ d ≤ 1000) ∧ (-1000 ≤ e ∧ e ≤ 1000) ∧ (-1000 ≤ f ∧ f ≤ 1000) := by
      unfold segOk at h1
      simp only [Bool.and_eq_true] at h1
      have k1 := vP_iff.1 h1.1
      have k2 := vP_iff.1 h1.2.1
      have k3 := vP_iff.1 h2
      omega
    obtain ⟨b1, b2, b3, b4, b5, b6⟩ := hb
    clear h1 h2
    go_enter Try.func26, Try.ntmps26
    go_wp2_with fail
    refine (segValid_any _ _ _ _ _).mono ?_
    rw [H1.out]
    rintro e w' ⟨rfl, hw'⟩; have hzy := ext_sz hw'; obtain ⟨y, rfl⟩ := hw'; (try simp at hzy)
    go_wp2_with fail
    refine (valid_any _ _ _).mono ?_
    rw [H2.out]
    rintro e w' ⟨rfl, hw'⟩; have hzz := ext_sz hw'; obtain ⟨z, rfl⟩ := hw'; (try simp at hzz)
    go_wp2_with fail
    refine (has_any _ _ _ _ _ _ _ b1 b2 b3 b4 b5 b6).mono ?_
    rintro e w' ⟨rfl, hw'⟩; have hzu := ext_sz hw'; obtain ⟨u, rfl⟩ := hw'; (try simp at hzu)
    go_wp2
    go_ret
    exact ⟨ret_bool (by rw [HO.out, H1.out, H2.out]; rfl), (ext_mk (by (repeat' (first | (with_reducible exact Below.refl _ _) | (with_reducible assumption) | (with_reducible refine below_ext _ ?_ ?_) | (with_reducible refine Below.alloc ?_ ?_ _) | (with_reducible refine Below.drew ?_) | (with_reducible refine below_drewN ?_ _) | (with_reducible refine le_drewN _ ?_) | (with_reducible refine Below.setCell ?_ ?_ _) | (with_reducible exact Nat.le_refl _) | (with_reducible refine le_ext _ ?_) | (with_reducible refine le_alloc _ ?_) | (with_reducible refine le_setCell _ _ ?_) | (with_reducible refine le_drew ?_) | omega | (simp; done) | (simp; omega)))))⟩
end Go.Proofs.Ytgeilljbmjajnaa
