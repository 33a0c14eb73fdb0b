
/- ColorVertices of the program and of the reference. -/
import Derived.Test.YtelhidonhldjeaaGreatColJ
set_option linter.unusedVariables false
set_option linter.unusedSimpArgs false
namespace Go.Proofs.YtelhidonhldjeaaGreat
open Go.RowKit

def colV (ps : List Pt) (ts : List TI) : List Int := if chkT ps ts = true then colL (ts.map toN) ps.length else []
theorem chk_tri {ps : List Pt} {ts : List TI} (h : chkT ps ts = true) : (∀ j, j < ts.length → tIn ps.length (gt ts j) = true) ∧ (∀ j, j < ts.length → (gt ts j).a ≠ (gt ts j).b ∧ (gt ts j).b ≠ (gt ts j).c ∧ (gt ts j).a ≠ (gt ts j).c) ∧ fitC (ts.map toN) (noCol ps.length) = true ∧ 3 ≤ ps.length ∧ ps.length ≤ 20 := by
  obtain ⟨hok, hl, ht, _, _⟩ := chk_parts h
  have hin : ∀ j, j < ts.length → tIn ps.length (gt ts j) = true := fun j hj => by
    have := ht _ (gt_mem hj)
    unfold tOk at this
    rw [Bool.and_eq_true] at this
    exact this.1
  obtain ⟨_, h3, h20, _, _⟩ := simB_parts (clipB_sim hok)
  refine ⟨hin, fun j hj => ?_, fit_noCol fun t hh => ?_, h3, h20⟩
  · obtain ⟨a, b, c, et, la, lb, lc⟩ := tIn_iff.1 (hin j hj)
    have h2 := (tOk_at (ht _ (gt_mem hj))).1
    rw [et] at h2 ⊢
    unfold TriOk toN at h2
    simp only [Int.toNat_natCast] at h2
    obtain ⟨_, _, _, d1, d2, d3⟩ := h2
    exact ⟨fun e => d1 (by have e : (a : Int) = b := e; omega), fun e => d2 (by have e : (b : Int) = c := e; omega), fun e => d3 (by have e : (a : Int) = c := e; omega)⟩
  · obtain ⟨s, hs, rfl⟩ := List.mem_map.1 hh
    have h2 := (tOk_at (ht _ hs)).1
    exact ⟨h2.1, h2.2.1, h2.2.2.1⟩
theorem ColAt.irow {w : World} {base g m : Nat} {cs : List Int} (h : ColAt w g m cs) (hb : base ≤ g) : IRow w base (some ⟨g, 0, none⟩) cs := fun _ => by
  obtain ⟨h1, f, hr, hf⟩ := h
  exact ⟨g, m, f, rfl, hb, h1, hr, hf⟩
set_option maxHeartbeats 1000000 in
theorem iColV_any (ps : List Pt) (ts : List TI) (A Z : Option Addr) (n c m d : Nat) (w : World) (hn : ps.length = n) (hm : n ≤ 2000000) (hA : Plain A n) (ht : ts.length = m) (hm2 : m ≤ 2000000) (hs : PtsAt w w.heap.size A ps) (hz : TrisAt w w.heap.size Z ts) :
    Calls Tryz.prog 19 #[.slice A n c, .slice Z m d] w fun e w' => ∃ A' n', e = .returned (.slice A' n' n') ∧ (colV ps ts).length = n' ∧ n' ≤ 20 ∧ IRow w' w.heap.size A' (colV ps ts) ∧ ∃ x, w' = ext w x := by
  have HC := hide (iCheckT_any ps ts A Z n c m d w hn hm hA ht hm2 hs hz)
  by_cases hok : chkT ps ts = true
  · rw [hok] at HC
    have HV : Hid (colV ps ts = colL (ts.map toN) n) := hide (by unfold colV; rw [if_pos hok, hn])
    obtain ⟨c1, c2, c3, c4, c5⟩ := chk_tri hok
    have LL := hide (colL_len (ts.map toN) n)
    have CO := hide (fun (W : World) (hb : Below w.heap.size w W) => colors_any ts Z m d n W ht hm2 (by omega) (by omega) (fun j hj => by rw [← hn]; exact c1 j (by omega)) c2 (by rw [← hn]; exact c3) (hz.to hb))
    have k20 : n ≤ 20 := by omega
    rw [HV.out]
    clear hok hn ht hs hz HV c1 c2 c3 c4 c5
    generalize colL (ts.map toN) n = L at *
    go_enter Tryz.func19, Tryz.ntmps19
    go_wp2_with fail
    refine HC.out.mono ?_
    rintro e w' ⟨rfl, hw'⟩; have hzy1 := ext_sz hw'; obtain ⟨y1, rfl⟩ := hw'; (try simp at hzy1)
    go_wp2_with fail
    refine (CO.out _ (by (repeat' (first | (with_reducible exact Below.refl _ _) | (with_reducible assumption) | (with_reducible refine below_ext _ ?_ ?_) | (with_reducible refine Below.alloc ?_ ?_ _) | (with_reducible refine Below.drew ?_) | (with_reducible refine below_drewN ?_ _) | (with_reducible refine le_drewN _ ?_) | (with_reducible refine Below.setCell ?_ ?_ _) | (with_reducible exact Nat.le_refl _) | (with_reducible refine le_ext _ ?_) | (with_reducible refine le_alloc _ ?_) | (with_reducible refine le_setCell _ _ ?_) | (with_reducible refine le_drew ?_) | omega | (simp; done) | (simp; omega))))).mono ?_
    rintro e w2 ⟨g, rfl, hg, ca, hx2⟩
    have CA := hide ca
    have B2 := hide ((show Below w.heap.size w (ext w y1) from (by (repeat' (first | (with_reducible exact Below.refl _ _) | (with_reducible assumption) | (with_reducible refine below_ext _ ?_ ?_) | (with_reducible refine Below.alloc ?_ ?_ _) | (with_reducible refine Below.drew ?_) | (with_reducible refine below_drewN ?_ _) | (with_reducible refine le_drewN _ ?_) | (with_reducible refine Below.setCell ?_ ?_ _) | (with_reducible exact Nat.le_refl _) | (with_reducible refine le_ext _ ?_) | (with_reducible refine le_alloc _ ?_) | (with_reducible refine le_setCell _ _ ?_) | (with_reducible refine le_drew ?_) | omega | (simp; done) | (simp; omega))))).trans ((ext_bel hx2).mono (by omega)))
    clear ca hx2
    go_wp2_with fail
    go_ret
    exact ⟨_, _, rfl, LL.out, k20, CA.out.irow (by omega), ext_mk B2.out⟩
  · have hok := eq_false_of_ne_true hok
    rw [hok] at HC
    have HV : Hid (colV ps ts = []) := hide (if_neg (by rw [hok]; decide))
    rw [HV.out]
    clear hok hs hn ht hz HV
    go_enter Tryz.func19, Tryz.ntmps19
    go_wp2_with fail
    refine HC.out.mono ?_
    rintro e w' ⟨rfl, hw'⟩; have hzy1 := ext_sz hw'; obtain ⟨y1, rfl⟩ := hw'; (try simp at hzy1)
    go_wp2_with fail
    go_ret
    exact ⟨_, _, rfl, rfl, by omega, IRow.nil _ _ _, (ext_mk (by (repeat' (first | (with_reducible exact Below.refl _ _) | (with_reducible assumption) | (with_reducible refine below_ext _ ?_ ?_) | (with_reducible refine Below.alloc ?_ ?_ _) | (with_reducible refine Below.drew ?_) | (with_reducible refine below_drewN ?_ _) | (with_reducible refine le_drewN _ ?_) | (with_reducible refine Below.setCell ?_ ?_ _) | (with_reducible exact Nat.le_refl _) | (with_reducible refine le_ext _ ?_) | (with_reducible refine le_alloc _ ?_) | (with_reducible refine le_setCell _ _ ?_) | (with_reducible refine le_drew ?_) | omega | (simp; done) | (simp; omega)))))⟩
set_option maxHeartbeats 1000000 in
theorem sColV_any (ps : List Pt) (ts : List TI) (A Z : Option Addr) (n c m d : Nat) (w : World) (hn : ps.length = n) (hm : n ≤ 2000000) (ht : ts.length = m) (hm2 : m ≤ 2000000) (hs : PtsAt w w.heap.size A ps) (hz : TrisAt w w.heap.size Z ts) :
    Calls Tryz.prog 18 #[.slice A n c, .slice Z m d] w fun e w' => ∃ v, e = .returned v ∧ Own w' w.heap.size v (colV ps ts) ∧ ∃ x, w' = ext w x := by
  have HC := hide (sCheckT_any ps ts A Z n c m d w hn hm ht hm2 hs hz)
  by_cases hok : chkT ps ts = true
  · rw [hok] at HC
    have HV : Hid (colV ps ts = colL (ts.map toN) n) := hide (by unfold colV; rw [if_pos hok, hn])
    obtain ⟨c1, c2, c3, c4, c5⟩ := chk_tri hok
    have CO := hide (fun (W : World) (hb : Below w.heap.size w W) => colorsOf_any ts Z m d n W ht hm2 (by omega) (by omega) (fun j hj => by rw [← hn]; exact c1 j (by omega)) (hz.to hb))
    rw [HV.out]
    clear hok hn ht hs hz HV c1 c2 c3 c4 c5
    generalize colL (ts.map toN) n = L at *
    go_enter Tryz.func18, Tryz.ntmps18
    go_wp2_with fail
    refine HC.out.mono ?_
    rintro e w' ⟨rfl, hw'⟩; have hzy1 := ext_sz hw'; obtain ⟨y1, rfl⟩ := hw'; (try simp at hzy1)
    go_wp2_with fail
    refine (CO.out _ (by (repeat' (first | (with_reducible exact Below.refl _ _) | (with_reducible assumption) | (with_reducible refine below_ext _ ?_ ?_) | (with_reducible refine Below.alloc ?_ ?_ _) | (with_reducible refine Below.drew ?_) | (with_reducible refine below_drewN ?_ _) | (with_reducible refine le_drewN _ ?_) | (with_reducible refine Below.setCell ?_ ?_ _) | (with_reducible exact Nat.le_refl _) | (with_reducible refine le_ext _ ?_) | (with_reducible refine le_alloc _ ?_) | (with_reducible refine le_setCell _ _ ?_) | (with_reducible refine le_drew ?_) | omega | (simp; done) | (simp; omega))))).mono ?_
    rintro e w2 ⟨v2, rfl, own2, hx2⟩
    have B2 := hide ((show Below w.heap.size w (ext w y1) from (by (repeat' (first | (with_reducible exact Below.refl _ _) | (with_reducible assumption) | (with_reducible refine below_ext _ ?_ ?_) | (with_reducible refine Below.alloc ?_ ?_ _) | (with_reducible refine Below.drew ?_) | (with_reducible refine below_drewN ?_ _) | (with_reducible refine le_drewN _ ?_) | (with_reducible refine Below.setCell ?_ ?_ _) | (with_reducible exact Nat.le_refl _) | (with_reducible refine le_ext _ ?_) | (with_reducible refine le_alloc _ ?_) | (with_reducible refine le_setCell _ _ ?_) | (with_reducible refine le_drew ?_) | omega | (simp; done) | (simp; omega))))).trans ((ext_bel hx2).mono (by omega)))
    clear hx2
    go_wp2_with fail
    go_ret
    exact ⟨v2, rfl, own2.base (by omega), ext_mk B2.out⟩
  · have hok := eq_false_of_ne_true hok
    rw [hok] at HC
    have HV : Hid (colV ps ts = []) := hide (if_neg (by rw [hok]; decide))
    rw [HV.out]
    clear hok hs hn ht hz HV
    go_enter Tryz.func18, Tryz.ntmps18
    go_wp2_with fail
    refine HC.out.mono ?_
    rintro e w' ⟨rfl, hw'⟩; have hzy1 := ext_sz hw'; obtain ⟨y1, rfl⟩ := hw'; (try simp at hzy1)
    go_wp2_with fail
    go_ret
    exact ⟨_, rfl, Own.nil _ _, (ext_mk (by (repeat' (first | (with_reducible exact Below.refl _ _) | (with_reducible assumption) | (with_reducible refine below_ext _ ?_ ?_) | (with_reducible refine Below.alloc ?_ ?_ _) | (with_reducible refine Below.drew ?_) | (with_reducible refine below_drewN ?_ _) | (with_reducible refine le_drewN _ ?_) | (with_reducible refine Below.setCell ?_ ?_ _) | (with_reducible exact Nat.le_refl _) | (with_reducible refine le_ext _ ?_) | (with_reducible refine le_alloc _ ?_) | (with_reducible refine le_setCell _ _ ?_) | (with_reducible refine le_drew ?_) | omega | (simp; done) | (simp; omega)))))⟩
end Go.Proofs.YtelhidonhldjeaaGreat
