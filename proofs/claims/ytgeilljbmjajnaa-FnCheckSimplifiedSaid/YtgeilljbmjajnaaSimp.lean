
/- SimplifyPath of the reference. -/
import Derived.Test.YtgeilljbmjajnaaFrac
import Derived.Test.YtgeilljbmjajnaaApp
set_option linter.unusedVariables false
set_option linter.unusedSimpArgs false
namespace Go.Proofs.Ytgeilljbmjajnaa
open Go.RowKit

theorem top_none {ps : List Pt} {most : Int} {f t : Nat} (hm : 0 ≤ most) (hall : allOk ps = true) (hft : f < t) (ht : t < ps.length) (h : topOf ps most f t = none) :
    sOutK ps f t t = f ∨ (f < sOutK ps f t t ∧ sOutK ps f t t < t ∧ devAtN ps f t (sOutK ps f t t) ≤ most * devAtD ps f t (sOutK ps f t t)) := by
  have h1 := (best_one (ps := ps) (f := f) (t := t) hm (fun i hi => (dev_bds hall (by omega) ht (by omega)).2.1) (t - (f + 1)) (by omega)).1 h
  unfold sOutK sOut
  cases hs : sbest ps f t (t - (f + 1)) with
  | none => exact .inl rfl
  | some b =>
    have := sbest_bd hs
    have h2 := of_decide_eq_false (h1 b hs)
    exact .inr ⟨this.1, by show b < t; omega, by show devAtN ps f t b ≤ _; exact Int.not_lt.1 h2⟩
theorem top_some {ps : List Pt} {most : Int} {f t b : Nat} (hm : 0 ≤ most) (hall : allOk ps = true) (hft : f < t) (ht : t < ps.length) (h : topOf ps most f t = some b) :
    sOutK ps f t t = b ∧ most * devAtD ps f t b < devAtN ps f t b := by
  have h1 := (best_one (ps := ps) (f := f) (t := t) hm (fun i hi => (dev_bds hall (by omega) ht (by omega)).2.1) (t - (f + 1)) (by omega)).2 b h
  unfold sOutK sOut
  rw [h1.1]
  exact ⟨rfl, of_decide_eq_true h1.2⟩

set_option maxHeartbeats 1000000 in
theorem simplify_any (ps : List Pt) (most : Int) (n c base : Nat) (A : Option Addr) (hn : ps.length = n) (hm : n ≤ 100) (hmo : 0 ≤ most ∧ most ≤ 8000000) (hall : allOk ps = true) :
    ∀ (d f t : Nat) (v : Value) (zs : List Int) (w : World), t - f = d → f < t → t < n → zs.length + (t - f) ≤ 1000 → base ≤ w.heap.size → PtsAt w base A ps → Own w base v zs →
    Calls Try.prog 49 #[.slice A n c, .int .i64 f, .int .i64 t, .int .i64 most, v] w fun e w' => ∃ v', e = .returned v' ∧ Own w' base v' (zs ++ keepOf ps most f t ++ [(t : Int)]) ∧ Below base w w' := by
  intro d
  induction d using Nat.strongRecOn with
  | _ d ih =>
  intro f t v zs w hd hft ht hlen hbase hs hown
  have IH := hide ih
  have HALL := hide hall
  clear ih hall
  have hsw := hs.more hbase
  cases htop : topOf ps most f t with
  | none =>
    have HK := hide (keepOf_none htop)
    rcases top_none hmo.1 HALL.out hft (by omega) htop with h | ⟨h1, h2, h3⟩
    · have HW := hide (fun w hs => worst_any ps f t A n c w hn (by omega) HALL.out hft ht hs)
      have HD := hide (fun w hs => deviation_any ps f t f A n c w hn (by omega) HALL.out (by omega) ht (by omega) hs)
      rw [h] at HW
      clear htop h
      go_enter Try.func49, Try.ntmps49
      go_wp2_with fail
      refine (HW.out _ (hsw.to (by (repeat' (first | (with_reducible exact Below.refl _ _) | (with_reducible assumption) | (with_reducible refine below_ext _ ?_ ?_) | (with_reducible refine Below.alloc ?_ ?_ _) | (with_reducible refine Below.drew ?_) | (with_reducible refine below_drewN ?_ _) | (with_reducible refine le_drewN _ ?_) | (with_reducible refine Below.setCell ?_ ?_ _) | (with_reducible exact Nat.le_refl _) | (with_reducible refine le_ext _ ?_) | (with_reducible refine le_alloc _ ?_) | (with_reducible refine le_setCell _ _ ?_) | (with_reducible refine le_drew ?_) | omega | (simp; done) | (simp; omega)))))).mono ?_
      rintro e w' ⟨rfl, hw'⟩; have hzy1 := ext_sz hw'; obtain ⟨y1, rfl⟩ := hw'; (try simp at hzy1)
      go_wp2_with fail
      refine (HD.out _ (hsw.to (by (repeat' (first | (with_reducible exact Below.refl _ _) | (with_reducible assumption) | (with_reducible refine below_ext _ ?_ ?_) | (with_reducible refine Below.alloc ?_ ?_ _) | (with_reducible refine Below.drew ?_) | (with_reducible refine below_drewN ?_ _) | (with_reducible refine le_drewN _ ?_) | (with_reducible refine Below.setCell ?_ ?_ _) | (with_reducible exact Nat.le_refl _) | (with_reducible refine le_ext _ ?_) | (with_reducible refine le_alloc _ ?_) | (with_reducible refine le_setCell _ _ ?_) | (with_reducible refine le_drew ?_) | omega | (simp; done) | (simp; omega)))))).mono ?_
      rintro e w' ⟨rfl, hw'⟩; have hzy2 := ext_sz hw'; obtain ⟨y2, rfl⟩ := hw'; (try simp at hzy2)
      go_wp2_with (at_builtin; refine app_one rfl _ _ rfl base v zs rfl (hown.below (by (repeat' (first | (with_reducible exact Below.refl _ _) | (with_reducible assumption) | (with_reducible refine below_ext _ ?_ ?_) | (with_reducible refine Below.alloc ?_ ?_ _) | (with_reducible refine Below.drew ?_) | (with_reducible refine below_drewN ?_ _) | (with_reducible refine le_drewN _ ?_) | (with_reducible refine Below.setCell ?_ ?_ _) | (with_reducible exact Nat.le_refl _) | (with_reducible refine le_ext _ ?_) | (with_reducible refine le_alloc _ ?_) | (with_reducible refine le_setCell _ _ ?_) | (with_reducible refine le_drew ?_) | omega | (simp; done) | (simp; omega))))) t _ _ rfl (by simp [go_sem]) (by omega) (by simp; omega) ?_; intro v' w' hown' hb' hat hgr)
      go_ret
      exact ⟨v', rfl, by rw [HK.out, List.append_nil]; exact hown', Below.trans (by (repeat' (first | (with_reducible exact Below.refl _ _) | (with_reducible assumption) | (with_reducible refine below_ext _ ?_ ?_) | (with_reducible refine Below.alloc ?_ ?_ _) | (with_reducible refine Below.drew ?_) | (with_reducible refine below_drewN ?_ _) | (with_reducible refine le_drewN _ ?_) | (with_reducible refine Below.setCell ?_ ?_ _) | (with_reducible exact Nat.le_refl _) | (with_reducible refine le_ext _ ?_) | (with_reducible refine le_alloc _ ?_) | (with_reducible refine le_setCell _ _ ?_) | (with_reducible refine le_drew ?_) | omega | (simp; done) | (simp; omega)))) hb'⟩
    · have HW := hide (fun w hs => worst_any ps f t A n c w hn (by omega) HALL.out hft ht hs)
      obtain ⟨b, hb⟩ : ∃ b, b = sOutK ps f t t := ⟨_, rfl⟩
      rw [← hb] at h1 h2 h3 HW
      clear hb htop
      have HD := hide (fun w hs => deviation_any ps f t b A n c w hn (by omega) HALL.out (by omega) ht (by omega) hs)
      obtain ⟨⟨n1, n2⟩, n3, n4⟩ := dev_bds HALL.out (f := f) (t := t) (i := b) (by omega) (by omega) (by omega)
      have m1 := mul_bd (a := most) (b := devAtD ps f t b) (M := 8000000) (N := 8000000) (by omega) (by omega)
      have e1 : ((b : Int) == (f : Int)) = false := by rw [beq_eq_false_iff_ne]; omega
      have e2 : (b == f) = false := by rw [beq_eq_false_iff_ne]; omega
      go_enter Try.func49, Try.ntmps49
      go_wp2_with fail
      refine (HW.out _ (hsw.to (by (repeat' (first | (with_reducible exact Below.refl _ _) | (with_reducible assumption) | (with_reducible refine below_ext _ ?_ ?_) | (with_reducible refine Below.alloc ?_ ?_ _) | (with_reducible refine Below.drew ?_) | (with_reducible refine below_drewN ?_ _) | (with_reducible refine le_drewN _ ?_) | (with_reducible refine Below.setCell ?_ ?_ _) | (with_reducible exact Nat.le_refl _) | (with_reducible refine le_ext _ ?_) | (with_reducible refine le_alloc _ ?_) | (with_reducible refine le_setCell _ _ ?_) | (with_reducible refine le_drew ?_) | omega | (simp; done) | (simp; omega)))))).mono ?_
      rintro e w' ⟨rfl, hw'⟩; have hzy1 := ext_sz hw'; obtain ⟨y1, rfl⟩ := hw'; (try simp at hzy1)
      go_wp2_with fail
      refine (HD.out _ (hsw.to (by (repeat' (first | (with_reducible exact Below.refl _ _) | (with_reducible assumption) | (with_reducible refine below_ext _ ?_ ?_) | (with_reducible refine Below.alloc ?_ ?_ _) | (with_reducible refine Below.drew ?_) | (with_reducible refine below_drewN ?_ _) | (with_reducible refine le_drewN _ ?_) | (with_reducible refine Below.setCell ?_ ?_ _) | (with_reducible exact Nat.le_refl _) | (with_reducible refine le_ext _ ?_) | (with_reducible refine le_alloc _ ?_) | (with_reducible refine le_setCell _ _ ?_) | (with_reducible refine le_drew ?_) | omega | (simp; done) | (simp; omega)))))).mono ?_
      rintro e w' ⟨rfl, hw'⟩; have hzy2 := ext_sz hw'; obtain ⟨y2, rfl⟩ := hw'; (try simp at hzy2)
      go_wp2_with (at_builtin; refine app_one rfl _ _ rfl base v zs rfl (hown.below (by (repeat' (first | (with_reducible exact Below.refl _ _) | (with_reducible assumption) | (with_reducible refine below_ext _ ?_ ?_) | (with_reducible refine Below.alloc ?_ ?_ _) | (with_reducible refine Below.drew ?_) | (with_reducible refine below_drewN ?_ _) | (with_reducible refine le_drewN _ ?_) | (with_reducible refine Below.setCell ?_ ?_ _) | (with_reducible exact Nat.le_refl _) | (with_reducible refine le_ext _ ?_) | (with_reducible refine le_alloc _ ?_) | (with_reducible refine le_setCell _ _ ?_) | (with_reducible refine le_drew ?_) | omega | (simp; done) | (simp; omega))))) t _ _ rfl (by simp [go_sem]) (by omega) (by simp; omega) ?_; intro v' w' hown' hb' hat hgr)
      go_ret
      exact ⟨v', rfl, by rw [HK.out, List.append_nil]; exact hown', Below.trans (by (repeat' (first | (with_reducible exact Below.refl _ _) | (with_reducible assumption) | (with_reducible refine below_ext _ ?_ ?_) | (with_reducible refine Below.alloc ?_ ?_ _) | (with_reducible refine Below.drew ?_) | (with_reducible refine below_drewN ?_ _) | (with_reducible refine le_drewN _ ?_) | (with_reducible refine Below.setCell ?_ ?_ _) | (with_reducible exact Nat.le_refl _) | (with_reducible refine le_ext _ ?_) | (with_reducible refine le_alloc _ ?_) | (with_reducible refine le_setCell _ _ ?_) | (with_reducible refine le_drew ?_) | omega | (simp; done) | (simp; omega)))) hb'⟩
  | some b =>
    have HK := hide (keepOf_some htop)
    have hbd := topOf_bd htop
    have hl1 := keepL_len (ps := ps) (most := most) (b - f) f b
    obtain ⟨h1, h2⟩ := top_some hmo.1 HALL.out hft (by omega) htop
    have HW := hide (fun w hs => worst_any ps f t A n c w hn (by omega) HALL.out hft ht hs)
    rw [h1] at HW
    clear h1 htop
    have HD := hide (fun w hs => deviation_any ps f t b A n c w hn (by omega) HALL.out (by omega) ht (by omega) hs)
    obtain ⟨⟨n1, n2⟩, n3, n4⟩ := dev_bds HALL.out (f := f) (t := t) (i := b) (by omega) (by omega) (by omega)
    have m1 := mul_bd (a := most) (b := devAtD ps f t b) (M := 8000000) (N := 8000000) (by omega) (by omega)
    have e1 : ((b : Int) == (f : Int)) = false := by rw [beq_eq_false_iff_ne]; omega
    have e2 : (b == f) = false := by rw [beq_eq_false_iff_ne]; omega
    go_enter Try.func49, Try.ntmps49
    go_wp2_with fail
    refine (HW.out _ (hsw.to (by (repeat' (first | (with_reducible exact Below.refl _ _) | (with_reducible assumption) | (with_reducible refine below_ext _ ?_ ?_) | (with_reducible refine Below.alloc ?_ ?_ _) | (with_reducible refine Below.drew ?_) | (with_reducible refine below_drewN ?_ _) | (with_reducible refine le_drewN _ ?_) | (with_reducible refine Below.setCell ?_ ?_ _) | (with_reducible exact Nat.le_refl _) | (with_reducible refine le_ext _ ?_) | (with_reducible refine le_alloc _ ?_) | (with_reducible refine le_setCell _ _ ?_) | (with_reducible refine le_drew ?_) | omega | (simp; done) | (simp; omega)))))).mono ?_
    rintro e w' ⟨rfl, hw'⟩; have hzy1 := ext_sz hw'; obtain ⟨y1, rfl⟩ := hw'; (try simp at hzy1)
    go_wp2_with fail
    refine (HD.out _ (hsw.to (by (repeat' (first | (with_reducible exact Below.refl _ _) | (with_reducible assumption) | (with_reducible refine below_ext _ ?_ ?_) | (with_reducible refine Below.alloc ?_ ?_ _) | (with_reducible refine Below.drew ?_) | (with_reducible refine below_drewN ?_ _) | (with_reducible refine le_drewN _ ?_) | (with_reducible refine Below.setCell ?_ ?_ _) | (with_reducible exact Nat.le_refl _) | (with_reducible refine le_ext _ ?_) | (with_reducible refine le_alloc _ ?_) | (with_reducible refine le_setCell _ _ ?_) | (with_reducible refine le_drew ?_) | omega | (simp; done) | (simp; omega)))))).mono ?_
    rintro e w' ⟨rfl, hw'⟩; have hzy2 := ext_sz hw'; obtain ⟨y2, rfl⟩ := hw'; (try simp at hzy2)
    go_wp2_with fail
    refine (IH.out (b - f) (by omega) f b v zs _ rfl (by omega) (by omega) (by omega) (by first | omega | (simp; omega)) (hs.below (Below.mono (by (repeat' (first | (with_reducible exact Below.refl _ _) | (with_reducible assumption) | (with_reducible refine below_ext _ ?_ ?_) | (with_reducible refine Below.alloc ?_ ?_ _) | (with_reducible refine Below.drew ?_) | (with_reducible refine below_drewN ?_ _) | (with_reducible refine le_drewN _ ?_) | (with_reducible refine Below.setCell ?_ ?_ _) | (with_reducible exact Nat.le_refl _) | (with_reducible refine le_ext _ ?_) | (with_reducible refine le_alloc _ ?_) | (with_reducible refine le_setCell _ _ ?_) | (with_reducible refine le_drew ?_) | omega | (simp; done) | (simp; omega)))) (Nat.le_refl _))) (hown.below (by (repeat' (first | (with_reducible exact Below.refl _ _) | (with_reducible assumption) | (with_reducible refine below_ext _ ?_ ?_) | (with_reducible refine Below.alloc ?_ ?_ _) | (with_reducible refine Below.drew ?_) | (with_reducible refine below_drewN ?_ _) | (with_reducible refine le_drewN _ ?_) | (with_reducible refine Below.setCell ?_ ?_ _) | (with_reducible exact Nat.le_refl _) | (with_reducible refine le_ext _ ?_) | (with_reducible refine le_alloc _ ?_) | (with_reducible refine le_setCell _ _ ?_) | (with_reducible refine le_drew ?_) | omega | (simp; done) | (simp; omega)))))).mono ?_
    rintro e w1 ⟨v1, rfl, hown1, hb1⟩
    have hz1 := hb1.size
    (try simp at hz1)
    go_wp2_with fail
    refine (IH.out (t - b) (by omega) b t v1 _ w1 rfl (by omega) (by omega) ?_ ?_ ?_ hown1).mono ?_
    · simp only [List.length_append, List.length_cons, List.length_nil]
      unfold keepOf
      omega
    · omega
    · exact (hs.below (Below.mono (by (repeat' (first | (with_reducible exact Below.refl _ _) | (with_reducible assumption) | (with_reducible refine below_ext _ ?_ ?_) | (with_reducible refine Below.alloc ?_ ?_ _) | (with_reducible refine Below.drew ?_) | (with_reducible refine below_drewN ?_ _) | (with_reducible refine le_drewN _ ?_) | (with_reducible refine Below.setCell ?_ ?_ _) | (with_reducible exact Nat.le_refl _) | (with_reducible refine le_ext _ ?_) | (with_reducible refine le_alloc _ ?_) | (with_reducible refine le_setCell _ _ ?_) | (with_reducible refine le_drew ?_) | omega | (simp; done) | (simp; omega)))) (Nat.le_refl _))).below hb1
    rintro e w2 ⟨v2, rfl, hown2, hb2⟩
    go_wp2_with fail
    go_ret
    refine ⟨v2, rfl, ?_, Below.trans (Below.trans (by (repeat' (first | (with_reducible exact Below.refl _ _) | (with_reducible assumption) | (with_reducible refine below_ext _ ?_ ?_) | (with_reducible refine Below.alloc ?_ ?_ _) | (with_reducible refine Below.drew ?_) | (with_reducible refine below_drewN ?_ _) | (with_reducible refine le_drewN _ ?_) | (with_reducible refine Below.setCell ?_ ?_ _) | (with_reducible exact Nat.le_refl _) | (with_reducible refine le_ext _ ?_) | (with_reducible refine le_alloc _ ?_) | (with_reducible refine le_setCell _ _ ?_) | (with_reducible refine le_drew ?_) | omega | (simp; done) | (simp; omega)))) hb1) hb2⟩
    rw [HK.out]
    simpa [List.append_assoc] using hown2
theorem simplifyOf_no {ps : List Pt} {most : Int} (h : pathOk ps = false ∨ inB most 0 8000000 = false) : simplifyOf ps most = [] := by
  unfold simplifyOf; rw [if_neg]; rcases h with h | h <;> simp [h]
theorem simplifyOf_yes {ps : List Pt} {most : Int} (h1 : pathOk ps = true) (h2 : inB most 0 8000000 = true) : simplifyOf ps most = (0 :: keepOf ps most 0 (ps.length - 1)) ++ [((ps.length - 1 : Nat) : Int)] := by
  unfold simplifyOf; rw [if_pos]; simp [h1, h2]
theorem simplifyOf_len (ps : List Pt) (most : Int) : (simplifyOf ps most).length ≤ 21 := by
  cases h1 : pathOk ps
  · rw [simplifyOf_no (.inl h1)]; simp
  cases h2 : inB most 0 8000000
  · rw [simplifyOf_no (.inr h2)]; simp
  rw [simplifyOf_yes h1 h2]
  have := keepL_len (ps := ps) (most := most) (ps.length - 1) 0 (ps.length - 1)
  have := listOk_len (pathOk_list h1)
  simp only [List.length_append, List.length_cons, List.length_nil]
  unfold keepOf
  rw [Nat.sub_zero]
  omega
set_option maxHeartbeats 1000000 in
theorem sSimplify_any (ps : List Pt) (most : Int) (A : Option Addr) (n c : Nat) (w : World) (hn : ps.length = n) (hm : n ≤ 2000000) (hs : PtsAt w w.heap.size A ps) :
    Calls Try.prog 23 #[.slice A n c, .int .i64 most] w fun e w' => ∃ v, e = .returned v ∧ Own w' w.heap.size v (simplifyOf ps most) ∧ ∃ x, w' = ext w x := by
  cases h1 : pathOk ps
  · have HR := hide (simplifyOf_no (ps := ps) (most := most) (.inl h1))
    go_enter Try.func23, Try.ntmps23
    go_wp2_with (go_at_call 34; refine (validPath_any ps _ _ _ _ hn hm (hs.to (by (repeat' (first | (with_reducible exact Below.refl _ _) | (with_reducible assumption) | (with_reducible refine below_ext _ ?_ ?_) | (with_reducible refine Below.alloc ?_ ?_ _) | (with_reducible refine Below.drew ?_) | (with_reducible refine below_drewN ?_ _) | (with_reducible refine le_drewN _ ?_) | (with_reducible refine Below.setCell ?_ ?_ _) | (with_reducible exact Nat.le_refl _) | (with_reducible refine le_ext _ ?_) | (with_reducible refine le_alloc _ ?_) | (with_reducible refine le_setCell _ _ ?_) | (with_reducible refine le_drew ?_) | omega | (simp; done) | (simp; omega)))))).mono ?_; rintro e w' ⟨rfl, hw'⟩; have hzy := ext_sz hw'; obtain ⟨y, rfl⟩ := hw'; (try simp at hzy))
    go_ret
    exact ⟨_, rfl, by rw [HR.out]; exact Own.nil _ _, (ext_mk (by (repeat' (first | (with_reducible exact Below.refl _ _) | (with_reducible assumption) | (with_reducible refine below_ext _ ?_ ?_) | (with_reducible refine Below.alloc ?_ ?_ _) | (with_reducible refine Below.drew ?_) | (with_reducible refine below_drewN ?_ _) | (with_reducible refine le_drewN _ ?_) | (with_reducible refine Below.setCell ?_ ?_ _) | (with_reducible exact Nat.le_refl _) | (with_reducible refine le_ext _ ?_) | (with_reducible refine le_alloc _ ?_) | (with_reducible refine le_setCell _ _ ?_) | (with_reducible refine le_drew ?_) | omega | (simp; done) | (simp; omega)))))⟩
  cases h2 : inB most 0 8000000
  · have HR := hide (simplifyOf_no (ps := ps) (most := most) (.inr h2))
    go_enter Try.func23, Try.ntmps23
    go_wp2_with (first | (go_at_call 34; refine (validPath_any ps _ _ _ _ hn hm (hs.to (by (repeat' (first | (with_reducible exact Below.refl _ _) | (with_reducible assumption) | (with_reducible refine below_ext _ ?_ ?_) | (with_reducible refine Below.alloc ?_ ?_ _) | (with_reducible refine Below.drew ?_) | (with_reducible refine below_drewN ?_ _) | (with_reducible refine le_drewN _ ?_) | (with_reducible refine Below.setCell ?_ ?_ _) | (with_reducible exact Nat.le_refl _) | (with_reducible refine le_ext _ ?_) | (with_reducible refine le_alloc _ ?_) | (with_reducible refine le_setCell _ _ ?_) | (with_reducible refine le_drew ?_) | omega | (simp; done) | (simp; omega)))))).mono ?_; rintro e w' ⟨rfl, hw'⟩; have hzy := ext_sz hw'; obtain ⟨y, rfl⟩ := hw'; (try simp at hzy)) | (go_at_call 35; refine (inRange_any _ _ _ _).mono ?_; rintro e w' ⟨rfl, rfl⟩))
    go_ret
    exact ⟨_, rfl, by rw [HR.out]; exact Own.nil _ _, (ext_mk (by (repeat' (first | (with_reducible exact Below.refl _ _) | (with_reducible assumption) | (with_reducible refine below_ext _ ?_ ?_) | (with_reducible refine Below.alloc ?_ ?_ _) | (with_reducible refine Below.drew ?_) | (with_reducible refine below_drewN ?_ _) | (with_reducible refine le_drewN _ ?_) | (with_reducible refine Below.setCell ?_ ?_ _) | (with_reducible exact Nat.le_refl _) | (with_reducible refine le_ext _ ?_) | (with_reducible refine le_alloc _ ?_) | (with_reducible refine le_setCell _ _ ?_) | (with_reducible refine le_drew ?_) | omega | (simp; done) | (simp; omega)))))⟩
  · have HR := hide (simplifyOf_yes h1 h2)
    have hp := pathOk_len h1
    have h20 := listOk_len (pathOk_list h1)
    obtain ⟨mo1, mo2⟩ := inB_iff.1 h2
    have hall := listOk_all (pathOk_list h1)
    have HS := hide (fun (base : Nat) => simplify_any ps most n c base A hn (by omega) ⟨mo1, mo2⟩ hall (n - 1) 0 (n - 1))
    have hc0 : ((0 : Nat) : Int) = 0 := rfl
    have hc1 : ((n - 1 : Nat) : Int) = (n : Int) - 1 := by omega
    simp only [hc0, hc1] at HS
    rw [hn, hc1] at HR
    clear hc0 hc1 hall
    go_enter Try.func23, Try.ntmps23
    go_wp2_with (first | (go_at_call 34; refine (validPath_any ps _ _ _ _ hn hm (hs.to (by (repeat' (first | (with_reducible exact Below.refl _ _) | (with_reducible assumption) | (with_reducible refine below_ext _ ?_ ?_) | (with_reducible refine Below.alloc ?_ ?_ _) | (with_reducible refine Below.drew ?_) | (with_reducible refine below_drewN ?_ _) | (with_reducible refine le_drewN _ ?_) | (with_reducible refine Below.setCell ?_ ?_ _) | (with_reducible exact Nat.le_refl _) | (with_reducible refine le_ext _ ?_) | (with_reducible refine le_alloc _ ?_) | (with_reducible refine le_setCell _ _ ?_) | (with_reducible refine le_drew ?_) | omega | (simp; done) | (simp; omega)))))).mono ?_; rintro e w' ⟨rfl, hw'⟩; have hzy := ext_sz hw'; obtain ⟨y, rfl⟩ := hw'; (try simp at hzy)) | (go_at_call 35; refine (inRange_any _ _ _ _).mono ?_; rintro e w' ⟨rfl, rfl⟩))
    refine (HS.out w.heap.size _ [0] _ (Nat.sub_zero _) (by omega) (by omega) (by simp; omega) (by simp; omega) (hs.below (Below.mono (by (repeat' (first | (with_reducible exact Below.refl _ _) | (with_reducible assumption) | (with_reducible refine below_ext _ ?_ ?_) | (with_reducible refine Below.alloc ?_ ?_ _) | (with_reducible refine Below.drew ?_) | (with_reducible refine below_drewN ?_ _) | (with_reducible refine le_drewN _ ?_) | (with_reducible refine Below.setCell ?_ ?_ _) | (with_reducible exact Nat.le_refl _) | (with_reducible refine le_ext _ ?_) | (with_reducible refine le_alloc _ ?_) | (with_reducible refine le_setCell _ _ ?_) | (with_reducible refine le_drew ?_) | omega | (simp; done) | (simp; omega)))) (Nat.le_refl _))) ((Own.lit _ 0).base hzy)).mono ?_
    rintro e w1 ⟨v1, rfl, hown1, hb1⟩
    go_wp2
    go_ret
    exact ⟨v1, rfl, by rw [HR.out]; exact hown1, ext_mk (Below.trans (by (repeat' (first | (with_reducible exact Below.refl _ _) | (with_reducible assumption) | (with_reducible refine below_ext _ ?_ ?_) | (with_reducible refine Below.alloc ?_ ?_ _) | (with_reducible refine Below.drew ?_) | (with_reducible refine below_drewN ?_ _) | (with_reducible refine le_drewN _ ?_) | (with_reducible refine Below.setCell ?_ ?_ _) | (with_reducible exact Nat.le_refl _) | (with_reducible refine le_ext _ ?_) | (with_reducible refine le_alloc _ ?_) | (with_reducible refine le_setCell _ _ ?_) | (with_reducible refine le_drew ?_) | omega | (simp; done) | (simp; omega)))) hb1)⟩
end Go.Proofs.Ytgeilljbmjajnaa
