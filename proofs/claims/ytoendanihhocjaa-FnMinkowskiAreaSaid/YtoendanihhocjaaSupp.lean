
/- Extreme and SupportValue, of the program and of the reference. -/
import Derived.Test.YtoendanihhocjaaFunc
set_option linter.unusedVariables false
set_option linter.unusedSimpArgs false
namespace Go.Proofs.Ytoendanihhocjaa
open Go.RowKit

/-- The first index up to k at which f is greatest. -/
def bestTo (f : Nat → Int) : Nat → Nat
  | 0 => 0
  | k + 1 => if f (bestTo f k) < f k then k else bestTo f k
theorem bestTo_lt (f : Nat → Int) : ∀ k, 0 < k → bestTo f k < k
  | 1, _ => by simp [bestTo]
  | k + 2, _ => by
    have := bestTo_lt f (k + 1) (by omega)
    rw [bestTo]; split <;> omega
theorem bestTo_yes {f : Nat → Int} {k : Nat} (h : f (bestTo f k) < f k) : bestTo f (k + 1) = k := by rw [bestTo, if_pos h]
theorem bestTo_no {f : Nat → Int} {k : Nat} (h : ¬ f (bestTo f k) < f k) : bestTo f (k + 1) = bestTo f k := by rw [bestTo, if_neg h]
def dotAt (ps : List Pt) (x y : Int) (i : Nat) : Int := pX ps i * x + pY ps i * y
def extremeOf (ps : List Pt) (x y : Int) : Int := if listOk ps && !decide (ps.length = 0) && vP x y then (bestTo (dotAt ps x y) ps.length : Nat) else -1
def supportOf (ps : List Pt) (x y : Int) : Int := if extremeOf ps x y < 0 then 0 else dotAt ps x y (bestTo (dotAt ps x y) ps.length)

theorem listOk_len {ps : List Pt} (h : listOk ps = true) : ps.length ≤ 20 := by simp [listOk] at h; exact h.1
theorem listOk_all {ps : List Pt} (h : listOk ps = true) : allOk ps = true := by simp [listOk] at h; exact h.2
theorem listOk_at {ps : List Pt} (h : listOk ps = true) {i : Nat} (hi : i < ps.length) : -1000 ≤ pX ps i ∧ pX ps i ≤ 1000 ∧ -1000 ≤ pY ps i ∧ pY ps i ≤ 1000 := allOk_at (listOk_all h) hi

set_option maxHeartbeats 400000 in
theorem sextreme_any (ps : List Pt) (dx dy : Int) (A : Option Addr) (n c : Nat) (w : World) (hn : ps.length = n) (h20 : n ≤ 20) (hok : allOk ps = true) (hd : vP dx dy = true) (hs : PtsAt w w.heap.size A ps) :
    Calls Try.prog 66 #[.slice A n c, .agg #[.int .i64 dx, .int .i64 dy]] w fun e w' => e = .returned (.int .i64 (bestTo (dotAt ps dx dy) n : Nat)) ∧ ∃ m, w' = ext w m := by
  have HO := hide hok
  obtain ⟨d1, d2, d3, d4⟩ := vP_iff.1 hd
  clear hok hd
  go_enter Try.func66, Try.ntmps66
  go_wp2
  go_loopw [5, 6] (fun v5 v6 wr => ∃ k b : Nat, k ≤ n ∧ v5 = .int .i64 b ∧ v6 = .int .i64 k ∧ Hid (b = bestTo (dotAt ps dx dy) k) ∧ ∃ x, wr = ext (w.alloc (.cells #[.int .i64 dx, .int .i64 dy] 25)) x) (fun v5 v6 _ => n - (intOf v6).toNat)
  case atStart => exact ⟨0, 0, Nat.zero_le _, rfl, rfl, rfl, ext_same _⟩
  case round =>
    obtain ⟨k, b, hk, rfl, rfl, hb, x, rfl⟩ := hrel
    by_cases hlt : k < n
    · obtain ⟨bl, o, rfl, hbl, hc⟩ := hs (by omega)
      have hbk : b < n := by
        rcases Nat.eq_zero_or_pos k with h0 | h0
        · have := hb.out; rw [h0] at this; simp [bestTo] at this; omega
        · have := hb.out; have := bestTo_lt (dotAt ps dx dy) k h0; omega
      obtain ⟨hx, hy⟩ := hc k (by omega)
      obtain ⟨hx2, hy2⟩ := hc b (by omega)
      obtain ⟨p1, p2, p3, p4⟩ := allOk_at HO.out (i := k) (by omega)
      obtain ⟨q1, q2, q3, q4⟩ := allOk_at HO.out (i := b) (by omega)
      have m1 := mul_bd (a := pX ps k) (b := dx) (M := 1000) (N := 1000) (by omega) (by omega)
      have m2 := mul_bd (a := pY ps k) (b := dy) (M := 1000) (N := 1000) (by omega) (by omega)
      have m3 := mul_bd (a := pX ps b) (b := dx) (M := 1000) (N := 1000) (by omega) (by omega)
      have m4 := mul_bd (a := pY ps b) (b := dy) (M := 1000) (N := 1000) (by omega) (by omega)
      clear hc p1 p2 p3 p4 q1 q2 q3 q4 d1 d2 d3 d4
      have hsz := ext_size (w.alloc (.cells #[.int .i64 dx, .int .i64 dy] 25)) x
      simp only [World.size_alloc] at hsz
      go_wp2
      refine wp_region_ext (by kernel_rfl) (by kernel_rfl) ?_
      repeat (go_big_quiet_step (fail))
      refine wpQuiet_nil ?_
      rintro _ hnq
      have hzq := ext_sz hnq
      obtain ⟨nq, rfl⟩ := hnq
      (try simp at hzq)
      go_wp2
      · case roundEnd =>
        have ht : pX ps b * dx + pY ps b * dy < pX ps k * dx + pY ps k * dy := by assumption
        exact ⟨⟨k + 1, k, by omega, rfl, by go_num, (bestTo_yes (by rw [← hb.out]; exact ht)).symm, (ext_mk (by (repeat' (first | (with_reducible exact Below.refl _ _) | (with_reducible assumption) | (with_reducible refine below_ext _ ?_ ?_) | (with_reducible refine Below.alloc ?_ ?_ _) | (with_reducible refine Below.drew ?_) | (with_reducible refine below_drewN ?_ _) | (with_reducible refine le_drewN _ ?_) | (with_reducible refine Below.setCell ?_ ?_ _) | (with_reducible exact Nat.le_refl _) | (with_reducible refine le_ext _ ?_) | (with_reducible refine le_alloc _ ?_) | (with_reducible refine le_setCell _ _ ?_) | (with_reducible refine le_drew ?_) | omega | (simp; done) | (simp; omega)))))⟩, by simp [intOf]; omega⟩
      · case roundEnd =>
        have ht : pX ps k * dx + pY ps k * dy ≤ pX ps b * dx + pY ps b * dy := by assumption
        exact ⟨⟨k + 1, b, by omega, rfl, by go_num, (hb.out.trans (bestTo_no (by rw [← hb.out]; exact Int.not_lt.2 ht)).symm), (ext_mk (by (repeat' (first | (with_reducible exact Below.refl _ _) | (with_reducible assumption) | (with_reducible refine below_ext _ ?_ ?_) | (with_reducible refine Below.alloc ?_ ?_ _) | (with_reducible refine Below.drew ?_) | (with_reducible refine below_drewN ?_ _) | (with_reducible refine le_drewN _ ?_) | (with_reducible refine Below.setCell ?_ ?_ _) | (with_reducible exact Nat.le_refl _) | (with_reducible refine le_ext _ ?_) | (with_reducible refine le_alloc _ ?_) | (with_reducible refine le_setCell _ _ ?_) | (with_reducible refine le_drew ?_) | omega | (simp; done) | (simp; omega)))))⟩, by simp [intOf]; omega⟩
    · have : k = n := by omega
      subst this
      go_wp2
      go_ret
      exact ⟨ret_int (by rw [hb.out]), (ext_mk (by (repeat' (first | (with_reducible exact Below.refl _ _) | (with_reducible assumption) | (with_reducible refine below_ext _ ?_ ?_) | (with_reducible refine Below.alloc ?_ ?_ _) | (with_reducible refine Below.drew ?_) | (with_reducible refine below_drewN ?_ _) | (with_reducible refine le_drewN _ ?_) | (with_reducible refine Below.setCell ?_ ?_ _) | (with_reducible exact Nat.le_refl _) | (with_reducible refine le_ext _ ?_) | (with_reducible refine le_alloc _ ?_) | (with_reducible refine le_setCell _ _ ?_) | (with_reducible refine le_drew ?_) | omega | (simp; done) | (simp; omega)))))⟩
set_option maxHeartbeats 400000 in
theorem iextreme_any (ps : List Pt) (dx dy : Int) (A : Option Addr) (n c : Nat) (w : World) (hn : ps.length = n) (h20 : n ≤ 20) (hok : allOk ps = true) (hd : vP dx dy = true) (hs : PtsAt w w.heap.size A ps) :
    Calls Try.prog 41 #[.slice A n c, .agg #[.int .i64 dx, .int .i64 dy]] w fun e w' => e = .returned (.int .i64 (bestTo (dotAt ps dx dy) n : Nat)) ∧ ∃ m, w' = ext w m := by
  have HO := hide hok
  obtain ⟨d1, d2, d3, d4⟩ := vP_iff.1 hd
  clear hok hd
  go_enter Try.func41, Try.ntmps41
  go_wp2
  go_loopw [5, 10] (fun v5 v10 wr => ∃ k b : Nat, k ≤ n ∧ v5 = .int .i64 b ∧ v10 = .int .i64 k ∧ Hid (b = bestTo (dotAt ps dx dy) k) ∧ ∃ x, wr = ext (w.alloc (.cells #[.int .i64 dx, .int .i64 dy] 25)) x) (fun v5 v10 _ => n - (intOf v10).toNat)
  case atStart => exact ⟨0, 0, Nat.zero_le _, rfl, rfl, rfl, ext_same _⟩
  case round =>
    obtain ⟨k, b, hk, rfl, rfl, hb, x, rfl⟩ := hrel
    by_cases hlt : k < n
    · obtain ⟨bl, o, rfl, hbl, hc⟩ := hs (by omega)
      have hbk : b < n := by
        rcases Nat.eq_zero_or_pos k with h0 | h0
        · have := hb.out; rw [h0] at this; simp [bestTo] at this; omega
        · have := hb.out; have := bestTo_lt (dotAt ps dx dy) k h0; omega
      obtain ⟨hx, hy⟩ := hc k (by omega)
      obtain ⟨hx2, hy2⟩ := hc b (by omega)
      obtain ⟨p1, p2, p3, p4⟩ := allOk_at HO.out (i := k) (by omega)
      obtain ⟨q1, q2, q3, q4⟩ := allOk_at HO.out (i := b) (by omega)
      have hsz := ext_size (w.alloc (.cells #[.int .i64 dx, .int .i64 dy] 25)) x
      simp only [World.size_alloc] at hsz
      clear hc
      go_wp2
      refine wp_region_ext (by kernel_rfl) (by kernel_rfl) ?_
      repeat (go_big_quiet_step ((first | (go_at_call 37; exact Calls.in_ext (dot_any _ _ _ _ _ (by omega) (by omega) (by omega) (by omega))))))
      refine wpQuiet_nil ?_
      rintro _ hnq
      have hzq := ext_sz hnq
      obtain ⟨nq, rfl⟩ := hnq
      (try simp at hzq)
      go_wp2
      · case roundEnd =>
        have ht : pX ps b * dx + pY ps b * dy < pX ps k * dx + pY ps k * dy := by assumption
        exact ⟨⟨k + 1, k, by omega, rfl, by go_num, (bestTo_yes (by rw [← hb.out]; exact ht)).symm, (ext_mk (by (repeat' (first | (with_reducible exact Below.refl _ _) | (with_reducible assumption) | (with_reducible refine below_ext _ ?_ ?_) | (with_reducible refine Below.alloc ?_ ?_ _) | (with_reducible refine Below.drew ?_) | (with_reducible refine below_drewN ?_ _) | (with_reducible refine le_drewN _ ?_) | (with_reducible refine Below.setCell ?_ ?_ _) | (with_reducible exact Nat.le_refl _) | (with_reducible refine le_ext _ ?_) | (with_reducible refine le_alloc _ ?_) | (with_reducible refine le_setCell _ _ ?_) | (with_reducible refine le_drew ?_) | omega | (simp; done) | (simp; omega)))))⟩, by simp [intOf]; omega⟩
      · case roundEnd =>
        have ht : pX ps k * dx + pY ps k * dy ≤ pX ps b * dx + pY ps b * dy := by assumption
        exact ⟨⟨k + 1, b, by omega, rfl, by go_num, (hb.out.trans (bestTo_no (by rw [← hb.out]; exact Int.not_lt.2 ht)).symm), (ext_mk (by (repeat' (first | (with_reducible exact Below.refl _ _) | (with_reducible assumption) | (with_reducible refine below_ext _ ?_ ?_) | (with_reducible refine Below.alloc ?_ ?_ _) | (with_reducible refine Below.drew ?_) | (with_reducible refine below_drewN ?_ _) | (with_reducible refine le_drewN _ ?_) | (with_reducible refine Below.setCell ?_ ?_ _) | (with_reducible exact Nat.le_refl _) | (with_reducible refine le_ext _ ?_) | (with_reducible refine le_alloc _ ?_) | (with_reducible refine le_setCell _ _ ?_) | (with_reducible refine le_drew ?_) | omega | (simp; done) | (simp; omega)))))⟩, by simp [intOf]; omega⟩
    · have : k = n := by omega
      subst this
      go_wp2
      go_ret
      exact ⟨ret_int (by rw [hb.out]), (ext_mk (by (repeat' (first | (with_reducible exact Below.refl _ _) | (with_reducible assumption) | (with_reducible refine below_ext _ ?_ ?_) | (with_reducible refine Below.alloc ?_ ?_ _) | (with_reducible refine Below.drew ?_) | (with_reducible refine below_drewN ?_ _) | (with_reducible refine le_drewN _ ?_) | (with_reducible refine Below.setCell ?_ ?_ _) | (with_reducible exact Nat.le_refl _) | (with_reducible refine le_ext _ ?_) | (with_reducible refine le_alloc _ ?_) | (with_reducible refine le_setCell _ _ ?_) | (with_reducible refine le_drew ?_) | omega | (simp; done) | (simp; omega)))))⟩

theorem extremeOf_no {ps : List Pt} {x y : Int} (h : listOk ps = false ∨ ps.length = 0 ∨ vP x y = false) : extremeOf ps x y = -1 := by
  unfold extremeOf; rw [if_neg]; rcases h with h | h | h <;> simp [h]
theorem extremeOf_yes {ps : List Pt} {x y : Int} (h1 : listOk ps = true) (h2 : ps.length ≠ 0) (h3 : vP x y = true) : extremeOf ps x y = (bestTo (dotAt ps x y) ps.length : Nat) := by
  unfold extremeOf; rw [if_pos]; simp [h1, h3, h2]
theorem extremeOf_cases (ps : List Pt) (x y : Int) : extremeOf ps x y = -1 ∨ (extremeOf ps x y = (bestTo (dotAt ps x y) ps.length : Nat) ∧ listOk ps = true ∧ 0 < ps.length ∧ vP x y = true) := by
  by_cases h1 : listOk ps = true
  · by_cases h2 : ps.length = 0
    · exact .inl (extremeOf_no (.inr (.inl h2)))
    · by_cases h3 : vP x y = true
      · exact .inr ⟨extremeOf_yes h1 h2 h3, h1, by omega, h3⟩
      · exact .inl (extremeOf_no (.inr (.inr (by simpa using h3))))
  · exact .inl (extremeOf_no (.inl (by simpa using h1)))

set_option maxHeartbeats 400000 in
theorem sExtreme_any (ps : List Pt) (dx dy : Int) (A : Option Addr) (n c : Nat) (w : World) (hn : ps.length = n) (hm : n ≤ 2000000) (hs : PtsAt w w.heap.size A ps) :
    Calls Try.prog 38 #[.slice A n c, .agg #[.int .i64 dx, .int .i64 dy]] w fun e w' => e = .returned (.int .i64 (extremeOf ps dx dy)) ∧ ∃ m, w' = ext w m := by
  cases h1 : listOk ps
  · have HR := hide (extremeOf_no (x := dx) (y := dy) (.inl h1))
    go_enter Try.func38, Try.ntmps38
    go_wp2_with (go_at_call 43; refine (validPoints_any ps _ _ _ _ hn hm (hs.to (by (repeat' (first | (with_reducible exact Below.refl _ _) | (with_reducible assumption) | (with_reducible refine below_ext _ ?_ ?_) | (with_reducible refine Below.alloc ?_ ?_ _) | (with_reducible refine Below.drew ?_) | (with_reducible refine below_drewN ?_ _) | (with_reducible refine le_drewN _ ?_) | (with_reducible refine Below.setCell ?_ ?_ _) | (with_reducible exact Nat.le_refl _) | (with_reducible refine le_ext _ ?_) | (with_reducible refine le_alloc _ ?_) | (with_reducible refine le_setCell _ _ ?_) | (with_reducible refine le_drew ?_) | omega | (simp; done) | (simp; omega)))))).mono ?_; rintro e w' ⟨rfl, hw'⟩; have hzy := ext_sz hw'; obtain ⟨y, rfl⟩ := hw'; (try simp at hzy))
    go_ret
    exact ⟨ret_int HR.out.symm, (ext_mk (by (repeat' (first | (with_reducible exact Below.refl _ _) | (with_reducible assumption) | (with_reducible refine below_ext _ ?_ ?_) | (with_reducible refine Below.alloc ?_ ?_ _) | (with_reducible refine Below.drew ?_) | (with_reducible refine below_drewN ?_ _) | (with_reducible refine le_drewN _ ?_) | (with_reducible refine Below.setCell ?_ ?_ _) | (with_reducible exact Nat.le_refl _) | (with_reducible refine le_ext _ ?_) | (with_reducible refine le_alloc _ ?_) | (with_reducible refine le_setCell _ _ ?_) | (with_reducible refine le_drew ?_) | omega | (simp; done) | (simp; omega)))))⟩
  have h20 := listOk_len h1
  by_cases h2 : n = 0
  · have HR := hide (extremeOf_no (ps := ps) (x := dx) (y := dy) (.inr (.inl (hn.trans h2))))
    subst h2
    go_enter Try.func38, Try.ntmps38
    go_wp2_with (go_at_call 43; refine (validPoints_any ps _ _ _ _ hn hm (hs.to (by (repeat' (first | (with_reducible exact Below.refl _ _) | (with_reducible assumption) | (with_reducible refine below_ext _ ?_ ?_) | (with_reducible refine Below.alloc ?_ ?_ _) | (with_reducible refine Below.drew ?_) | (with_reducible refine below_drewN ?_ _) | (with_reducible refine le_drewN _ ?_) | (with_reducible refine Below.setCell ?_ ?_ _) | (with_reducible exact Nat.le_refl _) | (with_reducible refine le_ext _ ?_) | (with_reducible refine le_alloc _ ?_) | (with_reducible refine le_setCell _ _ ?_) | (with_reducible refine le_drew ?_) | omega | (simp; done) | (simp; omega)))))).mono ?_; rintro e w' ⟨rfl, hw'⟩; have hzy := ext_sz hw'; obtain ⟨y, rfl⟩ := hw'; (try simp at hzy))
    go_ret
    exact ⟨ret_int HR.out.symm, (ext_mk (by (repeat' (first | (with_reducible exact Below.refl _ _) | (with_reducible assumption) | (with_reducible refine below_ext _ ?_ ?_) | (with_reducible refine Below.alloc ?_ ?_ _) | (with_reducible refine Below.drew ?_) | (with_reducible refine below_drewN ?_ _) | (with_reducible refine le_drewN _ ?_) | (with_reducible refine Below.setCell ?_ ?_ _) | (with_reducible exact Nat.le_refl _) | (with_reducible refine le_ext _ ?_) | (with_reducible refine le_alloc _ ?_) | (with_reducible refine le_setCell _ _ ?_) | (with_reducible refine le_drew ?_) | omega | (simp; done) | (simp; omega)))))⟩
  cases h3 : vP dx dy
  · have HR := hide (extremeOf_no (ps := ps) (x := dx) (y := dy) (.inr (.inr h3)))
    go_enter Try.func38, Try.ntmps38
    go_wp2_with (first | (go_at_call 43; refine (validPoints_any ps _ _ _ _ hn hm (hs.to (by (repeat' (first | (with_reducible exact Below.refl _ _) | (with_reducible assumption) | (with_reducible refine below_ext _ ?_ ?_) | (with_reducible refine Below.alloc ?_ ?_ _) | (with_reducible refine Below.drew ?_) | (with_reducible refine below_drewN ?_ _) | (with_reducible refine le_drewN _ ?_) | (with_reducible refine Below.setCell ?_ ?_ _) | (with_reducible exact Nat.le_refl _) | (with_reducible refine le_ext _ ?_) | (with_reducible refine le_alloc _ ?_) | (with_reducible refine le_setCell _ _ ?_) | (with_reducible refine le_drew ?_) | omega | (simp; done) | (simp; omega)))))).mono ?_; rintro e w' ⟨rfl, hw'⟩; have hzy := ext_sz hw'; obtain ⟨y, rfl⟩ := hw'; (try simp at hzy)) | (go_at_call 46; refine (svalid_any _ _ _).mono ?_; rintro e w' ⟨rfl, hw'⟩; have hzz := ext_sz hw'; obtain ⟨z, rfl⟩ := hw'; (try simp at hzz)))
    go_ret
    exact ⟨ret_int HR.out.symm, (ext_mk (by (repeat' (first | (with_reducible exact Below.refl _ _) | (with_reducible assumption) | (with_reducible refine below_ext _ ?_ ?_) | (with_reducible refine Below.alloc ?_ ?_ _) | (with_reducible refine Below.drew ?_) | (with_reducible refine below_drewN ?_ _) | (with_reducible refine le_drewN _ ?_) | (with_reducible refine Below.setCell ?_ ?_ _) | (with_reducible exact Nat.le_refl _) | (with_reducible refine le_ext _ ?_) | (with_reducible refine le_alloc _ ?_) | (with_reducible refine le_setCell _ _ ?_) | (with_reducible refine le_drew ?_) | omega | (simp; done) | (simp; omega)))))⟩
  · have HR := hide ((extremeOf_yes h1 (by omega) h3).trans (by rw [hn]))
    go_enter Try.func38, Try.ntmps38
    go_wp2_with (first | (go_at_call 43; refine (validPoints_any ps _ _ _ _ hn hm (hs.to (by (repeat' (first | (with_reducible exact Below.refl _ _) | (with_reducible assumption) | (with_reducible refine below_ext _ ?_ ?_) | (with_reducible refine Below.alloc ?_ ?_ _) | (with_reducible refine Below.drew ?_) | (with_reducible refine below_drewN ?_ _) | (with_reducible refine le_drewN _ ?_) | (with_reducible refine Below.setCell ?_ ?_ _) | (with_reducible exact Nat.le_refl _) | (with_reducible refine le_ext _ ?_) | (with_reducible refine le_alloc _ ?_) | (with_reducible refine le_setCell _ _ ?_) | (with_reducible refine le_drew ?_) | omega | (simp; done) | (simp; omega)))))).mono ?_; rintro e w' ⟨rfl, hw'⟩; have hzy := ext_sz hw'; obtain ⟨y, rfl⟩ := hw'; (try simp at hzy)) | (go_at_call 46; refine (svalid_any _ _ _).mono ?_; rintro e w' ⟨rfl, hw'⟩; have hzz := ext_sz hw'; obtain ⟨z, rfl⟩ := hw'; (try simp at hzz)) | (go_at_call 66; refine (sextreme_any ps _ _ _ _ _ _ hn (by omega) (listOk_all h1) h3 (hs.to (by (repeat' (first | (with_reducible exact Below.refl _ _) | (with_reducible assumption) | (with_reducible refine below_ext _ ?_ ?_) | (with_reducible refine Below.alloc ?_ ?_ _) | (with_reducible refine Below.drew ?_) | (with_reducible refine below_drewN ?_ _) | (with_reducible refine le_drewN _ ?_) | (with_reducible refine Below.setCell ?_ ?_ _) | (with_reducible exact Nat.le_refl _) | (with_reducible refine le_ext _ ?_) | (with_reducible refine le_alloc _ ?_) | (with_reducible refine le_setCell _ _ ?_) | (with_reducible refine le_drew ?_) | omega | (simp; done) | (simp; omega)))))).mono ?_; rintro e w' ⟨rfl, hw'⟩; have hzu := ext_sz hw'; obtain ⟨u, rfl⟩ := hw'; (try simp at hzu)))
    go_ret
    exact ⟨ret_int HR.out.symm, (ext_mk (by (repeat' (first | (with_reducible exact Below.refl _ _) | (with_reducible assumption) | (with_reducible refine below_ext _ ?_ ?_) | (with_reducible refine Below.alloc ?_ ?_ _) | (with_reducible refine Below.drew ?_) | (with_reducible refine below_drewN ?_ _) | (with_reducible refine le_drewN _ ?_) | (with_reducible refine Below.setCell ?_ ?_ _) | (with_reducible exact Nat.le_refl _) | (with_reducible refine le_ext _ ?_) | (with_reducible refine le_alloc _ ?_) | (with_reducible refine le_setCell _ _ ?_) | (with_reducible refine le_drew ?_) | omega | (simp; done) | (simp; omega)))))⟩
set_option maxHeartbeats 400000 in
theorem iExtreme_any (ps : List Pt) (dx dy : Int) (A : Option Addr) (n c : Nat) (w : World) (hn : ps.length = n) (hm : n ≤ 2000000) (hs : PtsAt w w.heap.size A ps) :
    Calls Try.prog 17 #[.slice A n c, .agg #[.int .i64 dx, .int .i64 dy]] w fun e w' => e = .returned (.int .i64 (extremeOf ps dx dy)) ∧ ∃ m, w' = ext w m := by
  cases h1 : listOk ps
  · have HR := hide (extremeOf_no (x := dx) (y := dy) (.inl h1))
    go_enter Try.func17, Try.ntmps17
    go_wp2_with (go_at_call 39; refine (listOk_any ps _ _ _ _ hn hm (hs.to (by (repeat' (first | (with_reducible exact Below.refl _ _) | (with_reducible assumption) | (with_reducible refine below_ext _ ?_ ?_) | (with_reducible refine Below.alloc ?_ ?_ _) | (with_reducible refine Below.drew ?_) | (with_reducible refine below_drewN ?_ _) | (with_reducible refine le_drewN _ ?_) | (with_reducible refine Below.setCell ?_ ?_ _) | (with_reducible exact Nat.le_refl _) | (with_reducible refine le_ext _ ?_) | (with_reducible refine le_alloc _ ?_) | (with_reducible refine le_setCell _ _ ?_) | (with_reducible refine le_drew ?_) | omega | (simp; done) | (simp; omega)))))).mono ?_; rintro e w' ⟨rfl, hw'⟩; have hzy := ext_sz hw'; obtain ⟨y, rfl⟩ := hw'; (try simp at hzy))
    go_ret
    exact ⟨ret_int HR.out.symm, (ext_mk (by (repeat' (first | (with_reducible exact Below.refl _ _) | (with_reducible assumption) | (with_reducible refine below_ext _ ?_ ?_) | (with_reducible refine Below.alloc ?_ ?_ _) | (with_reducible refine Below.drew ?_) | (with_reducible refine below_drewN ?_ _) | (with_reducible refine le_drewN _ ?_) | (with_reducible refine Below.setCell ?_ ?_ _) | (with_reducible exact Nat.le_refl _) | (with_reducible refine le_ext _ ?_) | (with_reducible refine le_alloc _ ?_) | (with_reducible refine le_setCell _ _ ?_) | (with_reducible refine le_drew ?_) | omega | (simp; done) | (simp; omega)))))⟩
  have h20 := listOk_len h1
  by_cases h2 : n = 0
  · have HR := hide (extremeOf_no (ps := ps) (x := dx) (y := dy) (.inr (.inl (hn.trans h2))))
    subst h2
    go_enter Try.func17, Try.ntmps17
    go_wp2_with (go_at_call 39; refine (listOk_any ps _ _ _ _ hn hm (hs.to (by (repeat' (first | (with_reducible exact Below.refl _ _) | (with_reducible assumption) | (with_reducible refine below_ext _ ?_ ?_) | (with_reducible refine Below.alloc ?_ ?_ _) | (with_reducible refine Below.drew ?_) | (with_reducible refine below_drewN ?_ _) | (with_reducible refine le_drewN _ ?_) | (with_reducible refine Below.setCell ?_ ?_ _) | (with_reducible exact Nat.le_refl _) | (with_reducible refine le_ext _ ?_) | (with_reducible refine le_alloc _ ?_) | (with_reducible refine le_setCell _ _ ?_) | (with_reducible refine le_drew ?_) | omega | (simp; done) | (simp; omega)))))).mono ?_; rintro e w' ⟨rfl, hw'⟩; have hzy := ext_sz hw'; obtain ⟨y, rfl⟩ := hw'; (try simp at hzy))
    go_ret
    exact ⟨ret_int HR.out.symm, (ext_mk (by (repeat' (first | (with_reducible exact Below.refl _ _) | (with_reducible assumption) | (with_reducible refine below_ext _ ?_ ?_) | (with_reducible refine Below.alloc ?_ ?_ _) | (with_reducible refine Below.drew ?_) | (with_reducible refine below_drewN ?_ _) | (with_reducible refine le_drewN _ ?_) | (with_reducible refine Below.setCell ?_ ?_ _) | (with_reducible exact Nat.le_refl _) | (with_reducible refine le_ext _ ?_) | (with_reducible refine le_alloc _ ?_) | (with_reducible refine le_setCell _ _ ?_) | (with_reducible refine le_drew ?_) | omega | (simp; done) | (simp; omega)))))⟩
  cases h3 : vP dx dy
  · have HR := hide (extremeOf_no (ps := ps) (x := dx) (y := dy) (.inr (.inr h3)))
    go_enter Try.func17, Try.ntmps17
    go_wp2_with (first | (go_at_call 39; refine (listOk_any ps _ _ _ _ hn hm (hs.to (by (repeat' (first | (with_reducible exact Below.refl _ _) | (with_reducible assumption) | (with_reducible refine below_ext _ ?_ ?_) | (with_reducible refine Below.alloc ?_ ?_ _) | (with_reducible refine Below.drew ?_) | (with_reducible refine below_drewN ?_ _) | (with_reducible refine le_drewN _ ?_) | (with_reducible refine Below.setCell ?_ ?_ _) | (with_reducible exact Nat.le_refl _) | (with_reducible refine le_ext _ ?_) | (with_reducible refine le_alloc _ ?_) | (with_reducible refine le_setCell _ _ ?_) | (with_reducible refine le_drew ?_) | omega | (simp; done) | (simp; omega)))))).mono ?_; rintro e w' ⟨rfl, hw'⟩; have hzy := ext_sz hw'; obtain ⟨y, rfl⟩ := hw'; (try simp at hzy)) | (go_at_call 40; refine (valid_any _ _ _).mono ?_; rintro e w' ⟨rfl, hw'⟩; have hzz := ext_sz hw'; obtain ⟨z, rfl⟩ := hw'; (try simp at hzz)))
    go_ret
    exact ⟨ret_int HR.out.symm, (ext_mk (by (repeat' (first | (with_reducible exact Below.refl _ _) | (with_reducible assumption) | (with_reducible refine below_ext _ ?_ ?_) | (with_reducible refine Below.alloc ?_ ?_ _) | (with_reducible refine Below.drew ?_) | (with_reducible refine below_drewN ?_ _) | (with_reducible refine le_drewN _ ?_) | (with_reducible refine Below.setCell ?_ ?_ _) | (with_reducible exact Nat.le_refl _) | (with_reducible refine le_ext _ ?_) | (with_reducible refine le_alloc _ ?_) | (with_reducible refine le_setCell _ _ ?_) | (with_reducible refine le_drew ?_) | omega | (simp; done) | (simp; omega)))))⟩
  · have HR := hide ((extremeOf_yes h1 (by omega) h3).trans (by rw [hn]))
    go_enter Try.func17, Try.ntmps17
    go_wp2_with (first | (go_at_call 39; refine (listOk_any ps _ _ _ _ hn hm (hs.to (by (repeat' (first | (with_reducible exact Below.refl _ _) | (with_reducible assumption) | (with_reducible refine below_ext _ ?_ ?_) | (with_reducible refine Below.alloc ?_ ?_ _) | (with_reducible refine Below.drew ?_) | (with_reducible refine below_drewN ?_ _) | (with_reducible refine le_drewN _ ?_) | (with_reducible refine Below.setCell ?_ ?_ _) | (with_reducible exact Nat.le_refl _) | (with_reducible refine le_ext _ ?_) | (with_reducible refine le_alloc _ ?_) | (with_reducible refine le_setCell _ _ ?_) | (with_reducible refine le_drew ?_) | omega | (simp; done) | (simp; omega)))))).mono ?_; rintro e w' ⟨rfl, hw'⟩; have hzy := ext_sz hw'; obtain ⟨y, rfl⟩ := hw'; (try simp at hzy)) | (go_at_call 40; refine (valid_any _ _ _).mono ?_; rintro e w' ⟨rfl, hw'⟩; have hzz := ext_sz hw'; obtain ⟨z, rfl⟩ := hw'; (try simp at hzz)) | (go_at_call 41; refine (iextreme_any ps _ _ _ _ _ _ hn (by omega) (listOk_all h1) h3 (hs.to (by (repeat' (first | (with_reducible exact Below.refl _ _) | (with_reducible assumption) | (with_reducible refine below_ext _ ?_ ?_) | (with_reducible refine Below.alloc ?_ ?_ _) | (with_reducible refine Below.drew ?_) | (with_reducible refine below_drewN ?_ _) | (with_reducible refine le_drewN _ ?_) | (with_reducible refine Below.setCell ?_ ?_ _) | (with_reducible exact Nat.le_refl _) | (with_reducible refine le_ext _ ?_) | (with_reducible refine le_alloc _ ?_) | (with_reducible refine le_setCell _ _ ?_) | (with_reducible refine le_drew ?_) | omega | (simp; done) | (simp; omega)))))).mono ?_; rintro e w' ⟨rfl, hw'⟩; have hzu := ext_sz hw'; obtain ⟨u, rfl⟩ := hw'; (try simp at hzu)))
    go_ret
    exact ⟨ret_int HR.out.symm, (ext_mk (by (repeat' (first | (with_reducible exact Below.refl _ _) | (with_reducible assumption) | (with_reducible refine below_ext _ ?_ ?_) | (with_reducible refine Below.alloc ?_ ?_ _) | (with_reducible refine Below.drew ?_) | (with_reducible refine below_drewN ?_ _) | (with_reducible refine le_drewN _ ?_) | (with_reducible refine Below.setCell ?_ ?_ _) | (with_reducible exact Nat.le_refl _) | (with_reducible refine le_ext _ ?_) | (with_reducible refine le_alloc _ ?_) | (with_reducible refine le_setCell _ _ ?_) | (with_reducible refine le_drew ?_) | omega | (simp; done) | (simp; omega)))))⟩

theorem supportOf_no {ps : List Pt} {x y : Int} (h : extremeOf ps x y = -1) : supportOf ps x y = 0 := by unfold supportOf; rw [if_pos (by omega)]
theorem supportOf_yes {ps : List Pt} {x y : Int} (h : extremeOf ps x y = (bestTo (dotAt ps x y) ps.length : Nat)) : supportOf ps x y = dotAt ps x y (bestTo (dotAt ps x y) ps.length) := by unfold supportOf; rw [if_neg (by omega)]
set_option maxHeartbeats 400000 in
theorem sSupport_any (ps : List Pt) (dx dy : Int) (A : Option Addr) (n c : Nat) (w : World) (hn : ps.length = n) (hm : n ≤ 2000000) (hs : PtsAt w w.heap.size A ps) :
    Calls Try.prog 16 #[.slice A n c, .agg #[.int .i64 dx, .int .i64 dy]] w fun e w' => e = .returned (.int .i64 (supportOf ps dx dy)) ∧ ∃ m, w' = ext w m := by
  rcases extremeOf_cases ps dx dy with h | ⟨h, h1, h2, h3⟩
  · have HR := hide (supportOf_no h)
    go_enter Try.func16, Try.ntmps16
    go_wp2_with (go_at_call 38; refine (sExtreme_any ps _ _ _ _ _ _ hn hm (hs.to (by (repeat' (first | (with_reducible exact Below.refl _ _) | (with_reducible assumption) | (with_reducible refine below_ext _ ?_ ?_) | (with_reducible refine Below.alloc ?_ ?_ _) | (with_reducible refine Below.drew ?_) | (with_reducible refine below_drewN ?_ _) | (with_reducible refine le_drewN _ ?_) | (with_reducible refine Below.setCell ?_ ?_ _) | (with_reducible exact Nat.le_refl _) | (with_reducible refine le_ext _ ?_) | (with_reducible refine le_alloc _ ?_) | (with_reducible refine le_setCell _ _ ?_) | (with_reducible refine le_drew ?_) | omega | (simp; done) | (simp; omega)))))).mono ?_; rintro e w' ⟨rfl, hw'⟩; have hzy := ext_sz hw'; obtain ⟨y, rfl⟩ := hw'; (try simp at hzy))
    go_ret
    exact ⟨ret_int HR.out.symm, (ext_mk (by (repeat' (first | (with_reducible exact Below.refl _ _) | (with_reducible assumption) | (with_reducible refine below_ext _ ?_ ?_) | (with_reducible refine Below.alloc ?_ ?_ _) | (with_reducible refine Below.drew ?_) | (with_reducible refine below_drewN ?_ _) | (with_reducible refine le_drewN _ ?_) | (with_reducible refine Below.setCell ?_ ?_ _) | (with_reducible exact Nat.le_refl _) | (with_reducible refine le_ext _ ?_) | (with_reducible refine le_alloc _ ?_) | (with_reducible refine le_setCell _ _ ?_) | (with_reducible refine le_drew ?_) | omega | (simp; done) | (simp; omega)))))⟩
  · have HR := hide ((supportOf_yes h).trans rfl)
    have hbl := bestTo_lt (dotAt ps dx dy) ps.length h2
    obtain ⟨i, hi⟩ : ∃ i, i = bestTo (dotAt ps dx dy) ps.length := ⟨_, rfl⟩
    rw [← hi] at HR hbl h
    clear hi
    obtain ⟨b, o, rfl, hb, hc⟩ := hs h2
    obtain ⟨hx, hy⟩ := hc i hbl
    obtain ⟨p1, p2, p3, p4⟩ := listOk_at h1 hbl
    obtain ⟨d1, d2, d3, d4⟩ := vP_iff.1 h3
    have m1 := mul_bd (a := pX ps i) (b := dx) (M := 1000) (N := 1000) (by omega) (by omega)
    have m2 := mul_bd (a := pY ps i) (b := dy) (M := 1000) (N := 1000) (by omega) (by omega)
    have h4 : i < n := by omega
    clear hc h1 h2 h3 hbl
    go_enter Try.func16, Try.ntmps16
    go_wp2_with (go_at_call 38; refine (sExtreme_any ps _ _ _ _ _ _ hn hm (hs.to (by (repeat' (first | (with_reducible exact Below.refl _ _) | (with_reducible assumption) | (with_reducible refine below_ext _ ?_ ?_) | (with_reducible refine Below.alloc ?_ ?_ _) | (with_reducible refine Below.drew ?_) | (with_reducible refine below_drewN ?_ _) | (with_reducible refine le_drewN _ ?_) | (with_reducible refine Below.setCell ?_ ?_ _) | (with_reducible exact Nat.le_refl _) | (with_reducible refine le_ext _ ?_) | (with_reducible refine le_alloc _ ?_) | (with_reducible refine le_setCell _ _ ?_) | (with_reducible refine le_drew ?_) | omega | (simp; done) | (simp; omega)))))).mono ?_; rintro e w' ⟨rfl, hw'⟩; have hzy := ext_sz hw'; obtain ⟨y, rfl⟩ := hw'; (try simp at hzy))
    refine wp_region_ext (by kernel_rfl) (by kernel_rfl) ?_
    repeat (go_big_quiet_step (fail))
    refine wpQuiet_nil ?_
    rintro _ hnq
    have hzq := ext_sz hnq
    obtain ⟨nq, rfl⟩ := hnq
    (try simp at hzq)
    go_wp2
    go_ret
    exact ⟨ret_int HR.out.symm, (ext_mk (by (repeat' (first | (with_reducible exact Below.refl _ _) | (with_reducible assumption) | (with_reducible refine below_ext _ ?_ ?_) | (with_reducible refine Below.alloc ?_ ?_ _) | (with_reducible refine Below.drew ?_) | (with_reducible refine below_drewN ?_ _) | (with_reducible refine le_drewN _ ?_) | (with_reducible refine Below.setCell ?_ ?_ _) | (with_reducible exact Nat.le_refl _) | (with_reducible refine le_ext _ ?_) | (with_reducible refine le_alloc _ ?_) | (with_reducible refine le_setCell _ _ ?_) | (with_reducible refine le_drew ?_) | omega | (simp; done) | (simp; omega)))))⟩
set_option maxHeartbeats 400000 in
theorem iSupport_any (ps : List Pt) (dx dy : Int) (A : Option Addr) (n c : Nat) (w : World) (hn : ps.length = n) (hm : n ≤ 2000000) (hs : PtsAt w w.heap.size A ps) :
    Calls Try.prog 15 #[.slice A n c, .agg #[.int .i64 dx, .int .i64 dy]] w fun e w' => e = .returned (.int .i64 (supportOf ps dx dy)) ∧ ∃ m, w' = ext w m := by
  rcases extremeOf_cases ps dx dy with h | ⟨h, h1, h2, h3⟩
  · have HR := hide (supportOf_no h)
    go_enter Try.func15, Try.ntmps15
    go_wp2_with (go_at_call 17; refine (iExtreme_any ps _ _ _ _ _ _ hn hm (hs.to (by (repeat' (first | (with_reducible exact Below.refl _ _) | (with_reducible assumption) | (with_reducible refine below_ext _ ?_ ?_) | (with_reducible refine Below.alloc ?_ ?_ _) | (with_reducible refine Below.drew ?_) | (with_reducible refine below_drewN ?_ _) | (with_reducible refine le_drewN _ ?_) | (with_reducible refine Below.setCell ?_ ?_ _) | (with_reducible exact Nat.le_refl _) | (with_reducible refine le_ext _ ?_) | (with_reducible refine le_alloc _ ?_) | (with_reducible refine le_setCell _ _ ?_) | (with_reducible refine le_drew ?_) | omega | (simp; done) | (simp; omega)))))).mono ?_; rintro e w' ⟨rfl, hw'⟩; have hzy := ext_sz hw'; obtain ⟨y, rfl⟩ := hw'; (try simp at hzy))
    go_ret
    exact ⟨ret_int HR.out.symm, (ext_mk (by (repeat' (first | (with_reducible exact Below.refl _ _) | (with_reducible assumption) | (with_reducible refine below_ext _ ?_ ?_) | (with_reducible refine Below.alloc ?_ ?_ _) | (with_reducible refine Below.drew ?_) | (with_reducible refine below_drewN ?_ _) | (with_reducible refine le_drewN _ ?_) | (with_reducible refine Below.setCell ?_ ?_ _) | (with_reducible exact Nat.le_refl _) | (with_reducible refine le_ext _ ?_) | (with_reducible refine le_alloc _ ?_) | (with_reducible refine le_setCell _ _ ?_) | (with_reducible refine le_drew ?_) | omega | (simp; done) | (simp; omega)))))⟩
  · have HR := hide ((supportOf_yes h).trans rfl)
    have hbl := bestTo_lt (dotAt ps dx dy) ps.length h2
    obtain ⟨i, hi⟩ : ∃ i, i = bestTo (dotAt ps dx dy) ps.length := ⟨_, rfl⟩
    rw [← hi] at HR hbl h
    clear hi
    obtain ⟨b, o, rfl, hb, hc⟩ := hs h2
    obtain ⟨hx, hy⟩ := hc i hbl
    obtain ⟨p1, p2, p3, p4⟩ := listOk_at h1 hbl
    obtain ⟨d1, d2, d3, d4⟩ := vP_iff.1 h3
    have h4 : i < n := by omega
    clear hc h1 h2 h3 hbl
    go_enter Try.func15, Try.ntmps15
    go_wp2_with (go_at_call 17; refine (iExtreme_any ps _ _ _ _ _ _ hn hm (hs.to (by (repeat' (first | (with_reducible exact Below.refl _ _) | (with_reducible assumption) | (with_reducible refine below_ext _ ?_ ?_) | (with_reducible refine Below.alloc ?_ ?_ _) | (with_reducible refine Below.drew ?_) | (with_reducible refine below_drewN ?_ _) | (with_reducible refine le_drewN _ ?_) | (with_reducible refine Below.setCell ?_ ?_ _) | (with_reducible exact Nat.le_refl _) | (with_reducible refine le_ext _ ?_) | (with_reducible refine le_alloc _ ?_) | (with_reducible refine le_setCell _ _ ?_) | (with_reducible refine le_drew ?_) | omega | (simp; done) | (simp; omega)))))).mono ?_; rintro e w' ⟨rfl, hw'⟩; have hzy := ext_sz hw'; obtain ⟨y, rfl⟩ := hw'; (try simp at hzy))
    refine wp_region_ext (by kernel_rfl) (by kernel_rfl) ?_
    repeat (go_big_quiet_step ((first | (go_at_call 37; exact Calls.in_ext (dot_any _ _ _ _ _ (by omega) (by omega) (by omega) (by omega))))))
    refine wpQuiet_nil ?_
    rintro _ hnq
    have hzq := ext_sz hnq
    obtain ⟨nq, rfl⟩ := hnq
    (try simp at hzq)
    go_wp2
    go_ret
    exact ⟨ret_int HR.out.symm, (ext_mk (by (repeat' (first | (with_reducible exact Below.refl _ _) | (with_reducible assumption) | (with_reducible refine below_ext _ ?_ ?_) | (with_reducible refine Below.alloc ?_ ?_ _) | (with_reducible refine Below.drew ?_) | (with_reducible refine below_drewN ?_ _) | (with_reducible refine le_drewN _ ?_) | (with_reducible refine Below.setCell ?_ ?_ _) | (with_reducible exact Nat.le_refl _) | (with_reducible refine le_ext _ ?_) | (with_reducible refine le_alloc _ ?_) | (with_reducible refine le_setCell _ _ ?_) | (with_reducible refine le_drew ?_) | omega | (simp; done) | (simp; omega)))))⟩
end Go.Proofs.Ytoendanihhocjaa
