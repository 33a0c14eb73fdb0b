
/- The smallest circle: which points a support encloses; the program's and the reference's tests. -/
/- EnclosingSupport of the program: a search over ascending indices. -/
/- EnclosingSupport of the reference: its tests. -/
import Derived.Test.YtnddfdhfefconaaGreatDoorCirc
import Derived.Test.YtnddfdhfefconaaGreatDoorDia
import Derived.Laws.EntriesVeiled
set_option linter.unusedVariables false
set_option linter.unusedSimpArgs false
namespace Go.Proofs.YtnddfdhfefconaaGreatDoor
open Go.RowKit

def dtP (p q r : Pt) : Int := (q.x - p.x) * (r.x - p.x) + (q.y - p.y) * (r.y - p.y)
theorem dtP_comm (p q r : Pt) : dtP p q r = dtP p r q := by
  unfold dtP
  rw [Int.mul_comm (q.x - p.x), Int.mul_comm (q.y - p.y)]
def acB (a b c : Pt) : Bool := decide (trn a b c ≠ 0) && decide (0 < dtP a b c) && decide (0 < dtP b c a) && decide (0 < dtP c a b)
/-- These points determine a circle. -/
def detB : List Pt → Bool
  | [_] => true
  | [a, b] => !decide (a = b)
  | [a, b, c] => acB a b c
  | _ => false
/-- The circle of these points has q. -/
def encB : List Pt → Pt → Bool
  | [a], q => decide (a = q)
  | [a, b], q => decide ((a.x - q.x) * (b.x - q.x) + (a.y - q.y) * (b.y - q.y) ≤ 0)
  | [a, b, c], q => decide (0 ≤ sgn (icD a b c q) * sgn (trn a b c))
  | _, _ => false
theorem ptsAt1 {w : World} {B : Nat} {A : Option Addr} {a : Pt} (h : PtsAt w B A [a]) : ∃ b o, A = some ⟨b, o, none⟩ ∧ b < B ∧ w.cell? ⟨b, o, none⟩ = some (.int .i64 a.x) ∧ w.cell? ⟨b, o + 1, none⟩ = some (.int .i64 a.y) := by
  obtain ⟨b, o, hA, hb, hc⟩ := h (by simp)
  obtain ⟨h1, h2⟩ := hc 0 (by simp)
  simp only [Nat.zero_mul, Nat.add_zero] at h1 h2
  exact ⟨b, o, hA, hb, h1, h2⟩
theorem ptsAt2 {w : World} {B : Nat} {A : Option Addr} {a c : Pt} (h : PtsAt w B A [a, c]) : ∃ b o, A = some ⟨b, o, none⟩ ∧ b < B ∧ (w.cell? ⟨b, o, none⟩ = some (.int .i64 a.x) ∧ w.cell? ⟨b, o + 1, none⟩ = some (.int .i64 a.y)) ∧ (w.cell? ⟨b, o + 2, none⟩ = some (.int .i64 c.x) ∧ w.cell? ⟨b, o + 2 + 1, none⟩ = some (.int .i64 c.y)) := by
  obtain ⟨b, o, hA, hb, hc⟩ := h (by simp)
  obtain ⟨h1, h2⟩ := hc 0 (by simp)
  simp only [Nat.zero_mul, Nat.add_zero] at h1 h2
  exact ⟨b, o, hA, hb, ⟨h1, h2⟩, hc 1 (by simp)⟩
theorem ptsAt3 {w : World} {B : Nat} {A : Option Addr} {a c d : Pt} (h : PtsAt w B A [a, c, d]) : ∃ b o, A = some ⟨b, o, none⟩ ∧ b < B ∧ (w.cell? ⟨b, o, none⟩ = some (.int .i64 a.x) ∧ w.cell? ⟨b, o + 1, none⟩ = some (.int .i64 a.y)) ∧ (w.cell? ⟨b, o + 2, none⟩ = some (.int .i64 c.x) ∧ w.cell? ⟨b, o + 2 + 1, none⟩ = some (.int .i64 c.y)) ∧ (w.cell? ⟨b, o + 4, none⟩ = some (.int .i64 d.x) ∧ w.cell? ⟨b, o + 4 + 1, none⟩ = some (.int .i64 d.y)) := by
  obtain ⟨b, o, hA, hb, hc⟩ := h (by simp)
  obtain ⟨h1, h2⟩ := hc 0 (by simp)
  simp only [Nat.zero_mul, Nat.add_zero] at h1 h2
  exact ⟨b, o, hA, hb, ⟨h1, h2⟩, hc 1 (by simp), hc 2 (by simp)⟩
set_option maxHeartbeats 400000 in
theorem narrow_any (a b c d e f : Int) (w : World) (ha : -100000 ≤ a ∧ a ≤ 100000) (hb : -100000 ≤ b ∧ b ≤ 100000) (hc : -100000 ≤ c ∧ c ≤ 100000) (hd : -100000 ≤ d ∧ d ≤ 100000) (he : -100000 ≤ e ∧ e ≤ 100000) (hf : -100000 ≤ f ∧ f ≤ 100000) :
    Calls Tryz.prog 246 #[.agg #[.int .i64 a, .int .i64 b], .agg #[.int .i64 c, .int .i64 d], .agg #[.int .i64 e, .int .i64 f]] w fun r w' => r = .returned (.bool (decide (0 < (c - a) * (e - a) + (d - b) * (f - b)))) ∧ ∃ x, w' = ext w x := by
  go_enter Tryz.func246, Tryz.ntmps246
  go_wp2
  refine wp_region_ext (by kernel_rfl) (by kernel_rfl) ?_
  repeat (go_big_quiet_step ((first | (go_at_call 161; exact Calls.in_ext (minus_any _ _ _ _ _ (by omega) (by omega) (by omega) (by omega))) | (go_at_call 211; exact Calls.in_ext (dot_any _ _ _ _ _ (by omega) (by omega) (by omega) (by omega))))))
  refine wpQuiet_nil ?_
  rintro _ hnq
  have hzq := ext_sz hnq
  obtain ⟨nq, rfl⟩ := hnq
  (try simp at hzq)
  go_wp2
  go_returns
  exact ⟨rfl, (ext_mk (by (repeat' (first | (with_reducible first | exact Below.refl _ _ | assumption | refine below_ext _ ?_ ?_ | refine Below.alloc ?_ ?_ _ | refine Below.drew ?_ | refine below_drewN ?_ _ | refine le_drewN _ ?_ | refine Below.setCell ?_ ?_ _ | exact Nat.le_refl _ | refine le_ext _ ?_ | refine le_alloc _ ?_ | refine le_setCell _ _ ?_ | refine le_drew ?_) | omega | (simp; done) | (simp; omega)))))⟩
set_option maxHeartbeats 2000000 in
theorem acute_any (p q r : Pt) (w : World) (hp : p.ok = true) (hq : q.ok = true) (hr : r.ok = true) :
    Calls Tryz.prog 223 #[.agg #[.int .i64 p.x, .int .i64 p.y], .agg #[.int .i64 q.x, .int .i64 q.y], .agg #[.int .i64 r.x, .int .i64 r.y]] w fun e w' => e = .returned (.bool (acB p q r)) ∧ ∃ x, w' = ext w x := by
  have bp := okb hp
  have bq := okb hq
  have br := okb hr
  obtain ⟨a, b⟩ := p
  obtain ⟨c, d⟩ := q
  obtain ⟨e, f⟩ := r
  simp only at bp bq br
  clear hp hq hr
  have ha : -100000 ≤ a ∧ a ≤ 100000 := ⟨by omega, by omega⟩
  have hb : -100000 ≤ b ∧ b ≤ 100000 := ⟨by omega, by omega⟩
  have hc : -100000 ≤ c ∧ c ≤ 100000 := ⟨by omega, by omega⟩
  have hd : -100000 ≤ d ∧ d ≤ 100000 := ⟨by omega, by omega⟩
  have he : -100000 ≤ e ∧ e ≤ 100000 := ⟨by omega, by omega⟩
  have hf : -100000 ≤ f ∧ f ≤ 100000 := ⟨by omega, by omega⟩
  clear bp bq br
  have TU := hide (fun W => turn_any a b c d e f W ha hb hc hd he hf)
  have N1 := hide (fun W => narrow_any a b c d e f W ha hb hc hd he hf)
  have N2 := hide (fun W => narrow_any c d e f a b W hc hd he hf ha hb)
  have N3 := hide (fun W => narrow_any e f a b c d W he hf ha hb hc hd)
  have RV : Hid (acB ⟨a, b⟩ ⟨c, d⟩ ⟨e, f⟩ = (decide ((c - a) * (f - b) - (d - b) * (e - a) ≠ 0) && decide (0 < (c - a) * (e - a) + (d - b) * (f - b)) && decide (0 < (e - c) * (a - c) + (f - d) * (b - d)) && decide (0 < (a - e) * (c - e) + (b - f) * (d - f)))) := hide rfl
  rw [RV.out]
  have eg := enters _ Tryz.func246 (by kernel_rfl) rfl
  clear RV ha hb hc hd he hf
  generalize (c - a) * (f - b) - (d - b) * (e - a) = D at *
  generalize decide (0 < (c - a) * (e - a) + (d - b) * (f - b)) = x1 at *
  generalize decide (0 < (e - c) * (a - c) + (f - d) * (b - d)) = x2 at *
  generalize decide (0 < (a - e) * (c - e) + (b - f) * (d - f)) = x3 at *
  by_cases h0 : D = 0
  · have hz : decide (D ≠ 0) = false := by simpa using h0
    rw [hz]
    have hz2 : (D != 0) = false := by simpa using h0
    clear h0 hz
    go_enter Tryz.func223, Tryz.ntmps223
    go_wp2_with fail
    refine (TU.out _).mono ?_
    rintro e w' ⟨rfl, hw'⟩; have hzy1 := ext_sz hw'; obtain ⟨y1, rfl⟩ := hw'; (try simp at hzy1)
    go_wp2_with fail
    go_ret
    exact ⟨by simp, (ext_mk (by (repeat' (first | (with_reducible first | exact Below.refl _ _ | assumption | refine below_ext _ ?_ ?_ | refine Below.alloc ?_ ?_ _ | refine Below.drew ?_ | refine below_drewN ?_ _ | refine le_drewN _ ?_ | refine Below.setCell ?_ ?_ _ | exact Nat.le_refl _ | refine le_ext _ ?_ | refine le_alloc _ ?_ | refine le_setCell _ _ ?_ | refine le_drew ?_) | omega | (simp; done) | (simp; omega)))))⟩
  · have hz : decide (D ≠ 0) = true := by simpa using h0
    rw [hz]
    have hz2 : (D != 0) = true := by simpa using h0
    clear h0 hz
    cases x1
    · go_enter Tryz.func223, Tryz.ntmps223
      go_wp2_with fail
      refine (TU.out _).mono ?_
      rintro e w' ⟨rfl, hw'⟩; have hzy1 := ext_sz hw'; obtain ⟨y1, rfl⟩ := hw'; (try simp at hzy1)
      go_wp2_with fail
      refine (N1.out _).mono ?_
      rintro e w' ⟨rfl, hw'⟩; have hzy2 := ext_sz hw'; obtain ⟨y2, rfl⟩ := hw'; (try simp at hzy2)
      go_wp2_with fail
      go_ret
      exact ⟨by simp, (ext_mk (by (repeat' (first | (with_reducible first | exact Below.refl _ _ | assumption | refine below_ext _ ?_ ?_ | refine Below.alloc ?_ ?_ _ | refine Below.drew ?_ | refine below_drewN ?_ _ | refine le_drewN _ ?_ | refine Below.setCell ?_ ?_ _ | exact Nat.le_refl _ | refine le_ext _ ?_ | refine le_alloc _ ?_ | refine le_setCell _ _ ?_ | refine le_drew ?_) | omega | (simp; done) | (simp; omega)))))⟩
    · cases x2
      · go_enter Tryz.func223, Tryz.ntmps223
        go_wp2_with fail
        refine (TU.out _).mono ?_
        rintro e w' ⟨rfl, hw'⟩; have hzy1 := ext_sz hw'; obtain ⟨y1, rfl⟩ := hw'; (try simp at hzy1)
        go_wp2_with fail
        refine (N1.out _).mono ?_
        rintro e w' ⟨rfl, hw'⟩; have hzy2 := ext_sz hw'; obtain ⟨y2, rfl⟩ := hw'; (try simp at hzy2)
        go_wp2_with fail
        refine (N2.out _).mono ?_
        rintro e w' ⟨rfl, hw'⟩; have hzy3 := ext_sz hw'; obtain ⟨y3, rfl⟩ := hw'; (try simp at hzy3)
        go_wp2_with fail
        go_ret
        exact ⟨by simp, (ext_mk (by (repeat' (first | (with_reducible first | exact Below.refl _ _ | assumption | refine below_ext _ ?_ ?_ | refine Below.alloc ?_ ?_ _ | refine Below.drew ?_ | refine below_drewN ?_ _ | refine le_drewN _ ?_ | refine Below.setCell ?_ ?_ _ | exact Nat.le_refl _ | refine le_ext _ ?_ | refine le_alloc _ ?_ | refine le_setCell _ _ ?_ | refine le_drew ?_) | omega | (simp; done) | (simp; omega)))))⟩
      · go_enter Tryz.func223, Tryz.ntmps223
        go_wp2_with fail
        refine (TU.out _).mono ?_
        rintro e w' ⟨rfl, hw'⟩; have hzy1 := ext_sz hw'; obtain ⟨y1, rfl⟩ := hw'; (try simp at hzy1)
        go_wp2_with fail
        refine (N1.out _).mono ?_
        rintro e w' ⟨rfl, hw'⟩; have hzy2 := ext_sz hw'; obtain ⟨y2, rfl⟩ := hw'; (try simp at hzy2)
        go_wp2_with fail
        refine (N2.out _).mono ?_
        rintro e w' ⟨rfl, hw'⟩; have hzy3 := ext_sz hw'; obtain ⟨y3, rfl⟩ := hw'; (try simp at hzy3)
        go_wp2_with fail
        refine (N3.out _).mono ?_
        rintro e w' ⟨rfl, hw'⟩; have hzy4 := ext_sz hw'; obtain ⟨y4, rfl⟩ := hw'; (try simp at hzy4)
        go_wp2_with fail
        go_ret
        exact ⟨by simp, (ext_mk (by (repeat' (first | (with_reducible first | exact Below.refl _ _ | assumption | refine below_ext _ ?_ ?_ | refine Below.alloc ?_ ?_ _ | refine Below.drew ?_ | refine below_drewN ?_ _ | refine le_drewN _ ?_ | refine Below.setCell ?_ ?_ _ | exact Nat.le_refl _ | refine le_ext _ ?_ | refine le_alloc _ ?_ | refine le_setCell _ _ ?_ | refine le_drew ?_) | omega | (simp; done) | (simp; omega)))))⟩
set_option maxHeartbeats 2000000 in
theorem det1_any (a : Pt) (A : Option Addr) (c : Nat) (w : World) :
    Calls Tryz.prog 190 #[.slice A 1 c] w fun e w' => e = .returned (.bool (detB [a])) ∧ ∃ x, w' = ext w x := by
  go_enter Tryz.func190, Tryz.ntmps190
  go_wp2
  go_ret
  exact ⟨rfl, (ext_mk (by (repeat' (first | (with_reducible first | exact Below.refl _ _ | assumption | refine below_ext _ ?_ ?_ | refine Below.alloc ?_ ?_ _ | refine Below.drew ?_ | refine below_drewN ?_ _ | refine le_drewN _ ?_ | refine Below.setCell ?_ ?_ _ | exact Nat.le_refl _ | refine le_ext _ ?_ | refine le_alloc _ ?_ | refine le_setCell _ _ ?_ | refine le_drew ?_) | omega | (simp; done) | (simp; omega)))))⟩
set_option maxHeartbeats 2000000 in
theorem det2_any (a d : Pt) (A : Option Addr) (c : Nat) (w : World) (hs : PtsAt w w.heap.size A [a, d]) :
    Calls Tryz.prog 190 #[.slice A 2 c] w fun e w' => e = .returned (.bool (detB [a, d])) ∧ ∃ x, w' = ext w x := by
  obtain ⟨b, o, rfl, hb, ⟨x0, y0⟩, x1, y1⟩ := ptsAt2 hs
  clear hs
  have N := @run_nePt
  have RV : Hid (detB [a, d] = !eqP a.x a.y d.x d.y) := hide (by
    show (!decide (a = d)) = _
    congr 1
    rw [Bool.eq_iff_iff, eqP_iff, decide_eq_true_iff]
    constructor
    · rintro rfl; exact ⟨rfl, rfl⟩
    · rintro ⟨h1, h2⟩; cases a; cases d; simp_all)
  rw [RV.out]
  clear RV
  generalize a.x = X0 at *
  generalize a.y = Y0 at *
  generalize d.x = X1 at *
  generalize d.y = Y1 at *
  go_enter Tryz.func190, Tryz.ntmps190
  go_wp2
  refine wp_region_ext (by kernel_rfl) (by kernel_rfl) ?_
  repeat (go_big_quiet_step (fail))
  refine wpQuiet_nil ?_
  rintro _ hnq
  have hzq := ext_sz hnq
  obtain ⟨nq, rfl⟩ := hnq
  (try simp at hzq)
  go_wp2
  go_ret
  exact ⟨rfl, (ext_mk (by (repeat' (first | (with_reducible first | exact Below.refl _ _ | assumption | refine below_ext _ ?_ ?_ | refine Below.alloc ?_ ?_ _ | refine Below.drew ?_ | refine below_drewN ?_ _ | refine le_drewN _ ?_ | refine Below.setCell ?_ ?_ _ | exact Nat.le_refl _ | refine le_ext _ ?_ | refine le_alloc _ ?_ | refine le_setCell _ _ ?_ | refine le_drew ?_) | omega | (simp; done) | (simp; omega)))))⟩
set_option maxHeartbeats 2000000 in
theorem det3_any (p q r : Pt) (A : Option Addr) (c : Nat) (w : World) (hp : p.ok = true) (hq : q.ok = true) (hr : r.ok = true) (hs : PtsAt w w.heap.size A [p, q, r]) :
    Calls Tryz.prog 190 #[.slice A 3 c] w fun e w' => e = .returned (.bool (detB [p, q, r])) ∧ ∃ x, w' = ext w x := by
  obtain ⟨b, o, rfl, hb, ⟨x0, y0⟩, ⟨x1, y1⟩, x2, y2⟩ := ptsAt3 hs
  have AC := hide (fun W => acute_any p q r W hp hq hr)
  have RV : Hid (detB [p, q, r] = acB p q r) := hide rfl
  rw [RV.out]
  clear RV hs hp hq hr
  generalize acB p q r = E at *
  generalize p.x = X0 at *
  generalize p.y = Y0 at *
  generalize q.x = X1 at *
  generalize q.y = Y1 at *
  generalize r.x = X2 at *
  generalize r.y = Y2 at *
  go_enter Tryz.func190, Tryz.ntmps190
  go_wp2
  refine wp_region_ext (by kernel_rfl) (by kernel_rfl) ?_
  repeat (go_big_quiet_step ((first | (go_at_call 223; exact Calls.in_ext (AC.out _)))))
  refine wpQuiet_nil ?_
  rintro _ hnq
  have hzq := ext_sz hnq
  obtain ⟨nq, rfl⟩ := hnq
  (try simp at hzq)
  go_wp2
  go_ret
  exact ⟨rfl, (ext_mk (by (repeat' (first | (with_reducible first | exact Below.refl _ _ | assumption | refine below_ext _ ?_ ?_ | refine Below.alloc ?_ ?_ _ | refine Below.drew ?_ | refine below_drewN ?_ _ | refine le_drewN _ ?_ | refine Below.setCell ?_ ?_ _ | exact Nat.le_refl _ | refine le_ext _ ?_ | refine le_alloc _ ?_ | refine le_setCell _ _ ?_ | refine le_drew ?_) | omega | (simp; done) | (simp; omega)))))⟩
set_option maxHeartbeats 2000000 in
theorem enc1_any (a q : Pt) (A : Option Addr) (c : Nat) (w : World) (hs : PtsAt w w.heap.size A [a]) :
    Calls Tryz.prog 192 #[.slice A 1 c, .agg #[.int .i64 q.x, .int .i64 q.y]] w fun e w' => e = .returned (.bool (encB [a] q)) ∧ ∃ x, w' = ext w x := by
  obtain ⟨b, o, rfl, hb, x0, y0⟩ := ptsAt1 hs
  clear hs
  have N := @run_eqPt
  have RV : Hid (encB [a] q = eqP a.x a.y q.x q.y) := hide (by
    show (decide (a = q)) = _
    rw [Bool.eq_iff_iff, eqP_iff, decide_eq_true_iff]
    constructor
    · rintro rfl; exact ⟨rfl, rfl⟩
    · rintro ⟨h1, h2⟩; cases a; cases q; simp_all)
  rw [RV.out]
  clear RV
  generalize a.x = X0 at *
  generalize a.y = Y0 at *
  generalize q.x = X1 at *
  generalize q.y = Y1 at *
  go_enter Tryz.func192, Tryz.ntmps192
  go_wp2
  refine wp_region_ext (by kernel_rfl) (by kernel_rfl) ?_
  repeat (go_big_quiet_step (fail))
  refine wpQuiet_nil ?_
  rintro _ hnq
  have hzq := ext_sz hnq
  obtain ⟨nq, rfl⟩ := hnq
  (try simp at hzq)
  go_wp2
  go_ret
  exact ⟨rfl, (ext_mk (by (repeat' (first | (with_reducible first | exact Below.refl _ _ | assumption | refine below_ext _ ?_ ?_ | refine Below.alloc ?_ ?_ _ | refine Below.drew ?_ | refine below_drewN ?_ _ | refine le_drewN _ ?_ | refine Below.setCell ?_ ?_ _ | exact Nat.le_refl _ | refine le_ext _ ?_ | refine le_alloc _ ?_ | refine le_setCell _ _ ?_ | refine le_drew ?_) | omega | (simp; done) | (simp; omega)))))⟩
set_option maxHeartbeats 2000000 in
theorem enc2_any (a d q : Pt) (A : Option Addr) (c : Nat) (w : World) (ha : a.ok = true) (hd : d.ok = true) (hq : q.ok = true) (hs : PtsAt w w.heap.size A [a, d]) :
    Calls Tryz.prog 192 #[.slice A 2 c, .agg #[.int .i64 q.x, .int .i64 q.y]] w fun e w' => e = .returned (.bool (encB [a, d] q)) ∧ ∃ x, w' = ext w x := by
  obtain ⟨b, o, rfl, hb, ⟨x0, y0⟩, x1, y1⟩ := ptsAt2 hs
  have RV : Hid (encB [a, d] q = decide ((a.x - q.x) * (d.x - q.x) + (a.y - q.y) * (d.y - q.y) ≤ 0)) := hide rfl
  rw [RV.out]
  have ba := okb ha
  have bd := okb hd
  have bq := okb hq
  clear RV hs ha hd hq
  generalize a.x = X0 at *
  generalize a.y = Y0 at *
  generalize d.x = X1 at *
  generalize d.y = Y1 at *
  generalize q.x = X2 at *
  generalize q.y = Y2 at *
  go_enter Tryz.func192, Tryz.ntmps192
  go_wp2
  refine wp_region_ext (by kernel_rfl) (by kernel_rfl) ?_
  repeat (go_big_quiet_step ((first | (go_at_call 161; exact Calls.in_ext (minus_any _ _ _ _ _ (by omega) (by omega) (by omega) (by omega))) | (go_at_call 211; exact Calls.in_ext (dot_any _ _ _ _ _ (by omega) (by omega) (by omega) (by omega))))))
  refine wpQuiet_nil ?_
  rintro _ hnq
  have hzq := ext_sz hnq
  obtain ⟨nq, rfl⟩ := hnq
  (try simp at hzq)
  go_wp2
  go_ret
  exact ⟨rfl, (ext_mk (by (repeat' (first | (with_reducible first | exact Below.refl _ _ | assumption | refine below_ext _ ?_ ?_ | refine Below.alloc ?_ ?_ _ | refine Below.drew ?_ | refine below_drewN ?_ _ | refine le_drewN _ ?_ | refine Below.setCell ?_ ?_ _ | exact Nat.le_refl _ | refine le_ext _ ?_ | refine le_alloc _ ?_ | refine le_setCell _ _ ?_ | refine le_drew ?_) | omega | (simp; done) | (simp; omega)))))⟩
set_option maxHeartbeats 2000000 in
theorem enc3_any (p q r s : Pt) (A : Option Addr) (c : Nat) (w : World) (hp : p.ok = true) (hq : q.ok = true) (hr : r.ok = true) (hz : s.ok = true) (hs : PtsAt w w.heap.size A [p, q, r]) :
    Calls Tryz.prog 192 #[.slice A 3 c, .agg #[.int .i64 s.x, .int .i64 s.y]] w fun e w' => e = .returned (.bool (encB [p, q, r] s)) ∧ ∃ x, w' = ext w x := by
  obtain ⟨b, o, rfl, hb, ⟨x0, y0⟩, ⟨x1, y1⟩, x2, y2⟩ := ptsAt3 hs
  have AC := hide (fun W => iCircle_any p q r s W hp hq hr hz)
  have RV : Hid (encB [p, q, r] s = decide (0 ≤ sgn (icD p q r s) * sgn (trn p q r))) := hide rfl
  rw [RV.out]
  clear RV hs hp hq hr hz
  generalize sgn (icD p q r s) * sgn (trn p q r) = E at *
  generalize p.x = X0 at *
  generalize p.y = Y0 at *
  generalize q.x = X1 at *
  generalize q.y = Y1 at *
  generalize r.x = X2 at *
  generalize r.y = Y2 at *
  generalize s.x = X3 at *
  generalize s.y = Y3 at *
  go_enter Tryz.func192, Tryz.ntmps192
  go_wp2
  refine wp_region_ext (by kernel_rfl) (by kernel_rfl) ?_
  repeat (go_big_quiet_step ((first | (go_at_call 224; exact Calls.in_ext (AC.out _)))))
  refine wpQuiet_nil ?_
  rintro _ hnq
  have hzq := ext_sz hnq
  obtain ⟨nq, rfl⟩ := hnq
  (try simp at hzq)
  go_wp2
  go_ret
  exact ⟨rfl, (ext_mk (by (repeat' (first | (with_reducible first | exact Below.refl _ _ | assumption | refine below_ext _ ?_ ?_ | refine Below.alloc ?_ ?_ _ | refine Below.drew ?_ | refine below_drewN ?_ _ | refine le_drewN _ ?_ | refine Below.setCell ?_ ?_ _ | exact Nat.le_refl _ | refine le_ext _ ?_ | refine le_alloc _ ?_ | refine le_setCell _ _ ?_ | refine le_drew ?_) | omega | (simp; done) | (simp; omega)))))⟩
end Go.Proofs.YtnddfdhfefconaaGreatDoor
namespace Go.Proofs.YtnddfdhfefconaaGreatDoor
open Go.RowKit

def zI (ks : List Nat) : List Int := ks.map fun (k : Nat) => (k : Int)
theorem zI_len (ks : List Nat) : (zI ks).length = ks.length := by simp [zI]
theorem zI_at {ks : List Nat} {i : Nat} (h : i < ks.length) : gi (zI ks) i = ((ks[i] : Nat) : Int) := by
  rw [gi_lt (by rw [zI_len]; exact h)]; simp [zI]
theorem zI_snoc (ks : List Nat) (k : Nat) : zI (ks ++ [k]) = zI ks ++ [(k : Int)] := by simp [zI]
/-- The circle of these indices has all points. -/
def supB (ps : List Pt) (ks : List Nat) : Bool := detB (ks.map (gp ps)) && !((List.range ps.length).any fun i => !encB (ks.map (gp ps)) (gp ps i))
/-- The first ascending indices, m more than those of s, from nx on, whose circle has all. -/
def srch (ps : List Pt) : Nat → Nat → List Nat → Option (List Nat)
  | 0, _, s => if supB ps s = true then some s else none
  | m + 1, nx, s => (List.range' nx (ps.length - nx)).findSome? fun k => srch ps m (k + 1) (s ++ [k])
theorem det_any (ss : List Pt) (A : Option Addr) (n c : Nat) (w : World) (hn : ss.length = n) (h3 : n = 1 ∨ n = 2 ∨ n = 3) (hok : ∀ p ∈ ss, p.ok = true) (hs : PtsAt w w.heap.size A ss) :
    Calls Tryz.prog 190 #[.slice A n c] w fun e w' => e = .returned (.bool (detB ss)) ∧ ∃ x, w' = ext w x := by
  rcases h3 with rfl | rfl | rfl
  · match ss, hn with
    | [a], _ => exact det1_any a A c w
  · match ss, hn with
    | [a, b], _ => exact det2_any a b A c w hs
  · match ss, hn with
    | [a, b, d], _ => exact det3_any a b d A c w (hok _ (by simp)) (hok _ (by simp)) (hok _ (by simp)) hs
theorem enc_any (ss : List Pt) (q : Pt) (A : Option Addr) (n c : Nat) (w : World) (hn : ss.length = n) (h3 : n = 1 ∨ n = 2 ∨ n = 3) (hok : ∀ p ∈ ss, p.ok = true) (hq : q.ok = true) (hs : PtsAt w w.heap.size A ss) :
    Calls Tryz.prog 192 #[.slice A n c, .agg #[.int .i64 q.x, .int .i64 q.y]] w fun e w' => e = .returned (.bool (encB ss q)) ∧ ∃ x, w' = ext w x := by
  rcases h3 with rfl | rfl | rfl
  · match ss, hn with
    | [a], _ => exact enc1_any a q A c w hs
  · match ss, hn with
    | [a, b], _ => exact enc2_any a b q A c w (hok _ (by simp)) (hok _ (by simp)) hq hs
  · match ss, hn with
    | [a, b, d], _ => exact enc3_any a b d q A c w (hok _ (by simp)) (hok _ (by simp)) (hok _ (by simp)) hq hs
set_option maxHeartbeats 2000000 in
theorem chosen_any (ps : List Pt) (ks : List Nat) (A A2 : Option Addr) (n c m c2 : Nat) (w : World) (hn : ps.length = n) (hm : ks.length = m) (h3 : m ≤ 100) (hk : ∀ k ∈ ks, k < n) (hs : PtsAt w w.heap.size A ps) (hi : IntsAt w w.heap.size A2 (zI ks)) :
    Calls Tryz.prog 189 #[.slice A n c, .slice A2 m c2] w fun e w' => ∃ v, e = .returned v ∧ OwnP w' w.heap.size v (ks.map (gp ps)) ∧ ∃ x, w' = ext w x := by
  have HN := hide hn
  have HM := hide hm
  have HS := hide hs
  have HI := hide hi
  have GK : Hid (∀ i (h : i < m), ∃ j, j < n ∧ gi (zI ks) i = ((j : Nat) : Int) ∧ (ks.take (i + 1)).map (gp ps) = (ks.take i).map (gp ps) ++ [⟨pX ps j, pY ps j⟩]) := hide (fun i h => ⟨ks[i], hk _ (List.getElem_mem _), zI_at (by omega), by rw [List.take_succ_eq_append_getElem (by omega), List.map_append]; rfl⟩)
  obtain ⟨i0, hi0, hz0, hz1, hz2⟩ := info_parts ptElt.inf
  have IP := hide (And.intro hi0 (And.intro hz0 (And.intro hz1 hz2)))
  clear hi0 hz0 hz1 hz2
  have mk1 : i0.bytes * m ≤ 281474976710656 := by rw [IP.out.2.2.2]; omega
  have mk2 : m ≤ maxLen := by unfold maxLen; omega
  clear hn hm hs hi hk
  go_enter Tryz.func189, Tryz.ntmps189
  go_wp2_with (refine wpList_make_own _ rfl (.const (.int .i64 0)) (.tmp 9) 23 rfl w.heap.size 41 i0 _ 2 ptElt.und IP.out.1 IP.out.2.1 IP.out.2.2.1 .i64 .i64 _ m rfl rfl rfl mk1 mk2 (Nat.le_refl _) ?_; intro w1 hown1 hgr1; have O1 := hide (show OwnP w1 w.heap.size _ [] from hown1); have B1 := hide ((Below.refl _ _).grown hgr1 (Nat.le_refl _) (fun k hk => by cases hk)); clear hown1 hgr1)
  go_loopw [5, 13] (fun u5 u13 wr => ∃ (k : Nat), k ≤ m ∧ u13 = .int .i64 k ∧ OwnP wr w.heap.size u5 ((ks.take k).map (gp ps)) ∧ Below w.heap.size w wr) (fun _ u13 _ => m - (intOf u13).toNat)
  case atStart => exact ⟨0, Nat.zero_le _, rfl, O1.out.below (by (repeat' (first | (with_reducible first | exact Below.refl _ _ | assumption | refine below_ext _ ?_ ?_ | refine Below.alloc ?_ ?_ _ | refine Below.drew ?_ | refine below_drewN ?_ _ | refine le_drewN _ ?_ | refine Below.setCell ?_ ?_ _ | exact Nat.le_refl _ | refine le_ext _ ?_ | refine le_alloc _ ?_ | refine le_setCell _ _ ?_ | refine le_drew ?_) | omega | (simp; done) | (simp; omega)))), Below.trans B1.out (by (repeat' (first | (with_reducible first | exact Below.refl _ _ | assumption | refine below_ext _ ?_ ?_ | refine Below.alloc ?_ ?_ _ | refine Below.drew ?_ | refine below_drewN ?_ _ | refine le_drewN _ ?_ | refine Below.setCell ?_ ?_ _ | exact Nat.le_refl _ | refine le_ext _ ?_ | refine le_alloc _ ?_ | refine le_setCell _ _ ?_ | refine le_drew ?_) | omega | (simp; done) | (simp; omega))))⟩
  case round =>
    obtain ⟨k, hk, rfl, hown, hbel⟩ := hrel
    obtain ⟨A0, n0, c0, rfl⟩ := hown.slice
    have hsz := hbel.size
    have OWN := hide hown
    clear hown
    by_cases hlt : k < m
    · obtain ⟨j, hj, hg, htk⟩ := GK.out k hlt
      have TK := hide htk
      obtain ⟨b1, o1, rfl, hbl1, hc1⟩ := HI.out (by rw [zI_len, HM.out]; omega)
      have hx := (hbel.cell (p := ⟨b1, o1 + k, none⟩) hbl1).trans (hc1 k (by rw [zI_len, HM.out]; omega))
      rw [hg] at hx
      obtain ⟨b, o, rfl, hb, hcs⟩ := HS.out (by rw [HN.out]; omega)
      have gx := (hbel.cell (p := ⟨b, o + j * 2, none⟩) hb).trans (hcs j (by rw [HN.out]; omega)).1
      have gy := (hbel.cell (p := ⟨b, o + j * 2 + 1, none⟩) hb).trans (hcs j (by rw [HN.out]; omega)).2
      have NL : ((ks.take k).map (gp ps)).length ≤ 2000000 := by rw [List.length_map, List.length_take]; omega
      have q1 : (0 : Int) ≤ (j : Int) := by omega
      have q2 : (j : Int) < (n : Int) := by omega
      clear hc1 hcs htk hg
      generalize pX ps j = X at *
      generalize pY ps j = Y at *
      go_wp2_with (at_builtin; refine app_pt rfl _ _ rfl w.heap.size (.slice A0 n0 c0) _ rfl (OWN.out.below (by (repeat' (first | (with_reducible first | exact Below.refl _ _ | assumption | refine below_ext _ ?_ ?_ | refine Below.alloc ?_ ?_ _ | refine Below.drew ?_ | refine below_drewN ?_ _ | refine le_drewN _ ?_ | refine Below.setCell ?_ ?_ _ | exact Nat.le_refl _ | refine le_ext _ ?_ | refine le_alloc _ ?_ | refine le_setCell _ _ ?_ | refine le_drew ?_) | omega | (simp; done) | (simp; omega))))) X Y _ _ rfl (by simp [go_sem]) (by simp [go_sem]) NL (by simp; omega) ?_; intro v7 w7 hown7 hb7 hat7 hgr7; obtain ⟨A7, n7, c7, rfl⟩ := hown7.slice; have O7 := hide hown7; have B7 := hide hb7; clear hown7 hb7 hat7 hgr7)
      exact ⟨⟨k + 1, by omega, by go_num, by rw [TK.out]; exact O7.out, Below.trans (Below.trans hbel (by (repeat' (first | (with_reducible first | exact Below.refl _ _ | assumption | refine below_ext _ ?_ ?_ | refine Below.alloc ?_ ?_ _ | refine Below.drew ?_ | refine below_drewN ?_ _ | refine le_drewN _ ?_ | refine Below.setCell ?_ ?_ _ | exact Nat.le_refl _ | refine le_ext _ ?_ | refine le_alloc _ ?_ | refine le_setCell _ _ ?_ | refine le_drew ?_) | omega | (simp; done) | (simp; omega))))) B7.out⟩, by simp [intOf]; omega⟩
    · have e0 : ks.take k = ks := List.take_of_length_le (by rw [HM.out]; omega)
      have OWN1 : Hid (OwnP wr w.heap.size (.slice A0 n0 c0) (ks.map (gp ps))) := hide (by have := OWN.out; rw [e0] at this; exact this)
      clear e0 OWN
      go_wp2
      go_ret
      exact ⟨_, rfl, OWN1.out, ext_mk hbel⟩
set_option maxHeartbeats 2000000 in
theorem encl1_any (ss : List Pt) (q : Pt) (A : Option Addr) (n c sb : Nat) (w : World) (hn : ss.length = n) (h3 : n = 1 ∨ n = 2 ∨ n = 3) (hok : ∀ p ∈ ss, p.ok = true) (hq : q.ok = true) (hs : PtsAt w w.heap.size A ss) (hsb : sb < w.heap.size) (hc : w.cell? ⟨sb, 0, none⟩ = some (.slice A n c)) :
    Calls Tryz.prog 191 #[.agg #[.int .i64 q.x, .int .i64 q.y], .pointer (some ⟨sb, 0, none⟩)] w fun e w' => e = .returned (.bool (!encB ss q)) ∧ ∃ x, w' = ext w x := by
  have EN := hide (fun (W : World) (hb : Below w.heap.size w W) => enc_any ss q A n c W hn h3 hok hq (hs.to hb))
  clear hn h3 hok hq hs
  generalize encB ss q = E at *
  generalize q.x = X at *
  generalize q.y = Y at *
  go_enter Tryz.func191, Tryz.ntmps191
  go_wp2_with fail
  refine (EN.out _ (by (repeat' (first | (with_reducible first | exact Below.refl _ _ | assumption | refine below_ext _ ?_ ?_ | refine Below.alloc ?_ ?_ _ | refine Below.drew ?_ | refine below_drewN ?_ _ | refine le_drewN _ ?_ | refine Below.setCell ?_ ?_ _ | exact Nat.le_refl _ | refine le_ext _ ?_ | refine le_alloc _ ?_ | refine le_setCell _ _ ?_ | refine le_drew ?_) | omega | (simp; done) | (simp; omega))))).mono ?_
  rintro e w' ⟨rfl, hw'⟩; have hzy := ext_sz hw'; obtain ⟨y, rfl⟩ := hw'; (try simp at hzy)
  go_wp2_with fail
  go_ret
  exact ⟨rfl, (ext_mk (by (repeat' (first | (with_reducible first | exact Below.refl _ _ | assumption | refine below_ext _ ?_ ?_ | refine Below.alloc ?_ ?_ _ | refine Below.drew ?_ | refine below_drewN ?_ _ | refine le_drewN _ ?_ | refine Below.setCell ?_ ?_ _ | exact Nat.le_refl _ | refine le_ext _ ?_ | refine le_alloc _ ?_ | refine le_setCell _ _ ?_ | refine le_drew ?_) | omega | (simp; done) | (simp; omega)))))⟩
set_option maxHeartbeats 2000000 in
theorem encl_any (ps : List Pt) (ks : List Nat) (A A2 : Option Addr) (n c m c2 : Nat) (w : World) (hn : ps.length = n) (hn2 : n ≤ 1000) (hok : ∀ p ∈ ps, p.ok = true) (hm : ks.length = m) (h3 : m = 1 ∨ m = 2 ∨ m = 3) (hk : ∀ k ∈ ks, k < n) (hs : PtsAt w w.heap.size A ps) (hi : IntsAt w w.heap.size A2 (zI ks)) :
    Calls Tryz.prog 141 #[.slice A n c, .slice A2 m c2] w fun e w' => e = .returned (.bool (supB ps ks)) ∧ ∃ x, w' = ext w x := by
  have CH := hide (chosen_any ps ks A A2 n c m c2 w hn hm (by omega) hk hs hi)
  have okS : ∀ p ∈ ks.map (gp ps), p.ok = true := fun p hp => by
    obtain ⟨k, hk', rfl⟩ := List.mem_map.1 hp
    exact hok _ (gp_mem (by have := hk k hk'; omega))
  have lS : (ks.map (gp ps)).length = m := by rw [List.length_map, hm]
  have RV : Hid (supB ps ks = (detB (ks.map (gp ps)) && !((List.range n).any fun i => !encB (ks.map (gp ps)) (gp ps i)))) := hide (by unfold supB; rw [hn])
  rw [RV.out]
  clear RV
  generalize ks.map (gp ps) = ss at *
  have DT := hide (fun (A' : Option Addr) (c' : Nat) (W : World) h => det_any ss A' m c' W lS h3 okS h)
  have CF := hide (fun (A' : Option Addr) (c' sb : Nat) (W : World) (hb : Below w.heap.size w W) (hsb : sb < W.heap.size) (h : PtsAt W W.heap.size A' ss) (hc : W.cell? ⟨sb, 0, none⟩ = some (.slice A' m c')) =>
    ContainsFunc_any 191 #[.pointer (some ⟨sb, 0, none⟩)] (fun i => !encB ss (gp ps i)) ps A n c W hn (by omega) (enters _ Tryz.func191 (by kernel_rfl) rfl) (hs.to hb) (fun W2 i hW2 hi' => encl1_any ss (gp ps i) A' m c' sb W2 lS h3 okS (hok _ (gp_mem hi')) (h.to hW2) (Nat.lt_of_lt_of_le hsb hW2.size) ((hW2.cell (p := ⟨sb, 0, none⟩) hsb).trans hc)))
  clear hn hok hm hk hs hi okS
  go_enter Tryz.func141, Tryz.ntmps141
  go_wp2_with fail
  refine CH.out.mono ?_
  rintro e w2 ⟨v2, rfl, hown, hx⟩
  obtain ⟨A3, n3, c3, rfl⟩ := hown.slice
  obtain ⟨l3, _, _, p3⟩ := hown.pts
  have e3 : n3 = m := by omega
  subst e3
  have B2 := hide (ext_bel hx)
  have z2 := B2.out.size
  have P3 := hide p3
  have K4 := hide (heap_alloc_new w2 (.cells #[.slice A3 n3 c3] 23))
  have B4 : Below w2.heap.size w2 (w2.alloc (.cells #[.slice A3 n3 c3] 23)) := (Below.refl _ _).alloc (Nat.le_refl _) _
  have P4 := hide (p3.to B4)
  have C4 : (w2.alloc (.cells #[.slice A3 n3 c3] 23)).cell? ⟨w2.heap.size, 0, none⟩ = some (.slice A3 n3 c3) := (heap_cell K4.out 0).trans rfl
  have Z4 : (w2.alloc (.cells #[.slice A3 n3 c3] 23)).heap.size = w2.heap.size + 1 := by simp
  have D4 := hide (DT.out A3 c3 _ P4.out)
  have BB4 := hide (B2.out.trans (B4.mono z2))
  have CFk := hide (fun (W : World) (hb : Below (w2.heap.size + 1) (w2.alloc (.cells #[.slice A3 n3 c3] 23)) W) => CF.out A3 c3 w2.heap.size W (BB4.out.trans (hb.mono (by omega))) (by have := hb.size; omega) (P4.out.to (by rw [Z4]; exact hb)) ((hb.cell (p := ⟨w2.heap.size, 0, none⟩) (by simp)).trans C4))
  clear hown hx p3 CH DT CF lS l3
  have hb2 := B2.out
  cases hd : detB ss
  · have HD := hide hd
    rw [hd] at D4
    clear hd
    go_wp2_with fail
    refine D4.out.mono ?_
    rintro e w' ⟨rfl, hw'⟩; have hzy5 := ext_sz hw'; obtain ⟨y5, rfl⟩ := hw'; (try simp at hzy5)
    go_wp2_with fail
    go_ret
    exact ⟨by rw [HD.out]; rfl, (ext_mk (by (repeat' (first | (with_reducible first | exact Below.refl _ _ | assumption | refine below_ext _ ?_ ?_ | refine Below.alloc ?_ ?_ _ | refine Below.drew ?_ | refine below_drewN ?_ _ | refine le_drewN _ ?_ | refine Below.setCell ?_ ?_ _ | exact Nat.le_refl _ | refine le_ext _ ?_ | refine le_alloc _ ?_ | refine le_setCell _ _ ?_ | refine le_drew ?_) | omega | (simp; done) | (simp; omega)))))⟩
  · have HD := hide hd
    rw [hd] at D4
    clear hd
    go_wp2_with fail
    refine D4.out.mono ?_
    rintro e w' ⟨rfl, hw'⟩; have hzy5 := ext_sz hw'; obtain ⟨y5, rfl⟩ := hw'; (try simp at hzy5)
    go_wp2_with fail
    refine (CFk.out _ (below_ext _ (Below.refl _ _) (by simp))).mono ?_
    rintro e w' ⟨rfl, hw'⟩; have hzy6 := ext_sz hw'; obtain ⟨y6, rfl⟩ := hw'; (try simp at hzy6)
    go_wp2_with fail
    go_ret
    exact ⟨by rw [HD.out]; rfl, (ext_mk (by (repeat' (first | (with_reducible first | exact Below.refl _ _ | assumption | refine below_ext _ ?_ ?_ | refine Below.alloc ?_ ?_ _ | refine Below.drew ?_ | refine below_drewN ?_ _ | refine le_drewN _ ?_ | refine Below.setCell ?_ ?_ _ | exact Nat.le_refl _ | refine le_ext _ ?_ | refine le_alloc _ ?_ | refine le_setCell _ _ ?_ | refine le_drew ?_) | omega | (simp; done) | (simp; omega)))))⟩
theorem srch_S (ps : List Pt) (m nx : Nat) (s : List Nat) : srch ps (m + 1) nx s = (List.range' nx (ps.length - nx)).findSome? fun k => srch ps m (k + 1) (s ++ [k]) := rfl
/-- The search so far: none from nx up to k. -/
def noTo (ps : List Pt) (m nx k : Nat) (s : List Nat) : Prop := ∀ j, nx ≤ j → j < k → srch ps m (j + 1) (s ++ [j]) = none
theorem srch_hit {ps : List Pt} {m nx k : Nat} {s r : List Nat} (h1 : nx ≤ k) (h2 : k < ps.length) (hn : noTo ps m nx k s) (h : srch ps m (k + 1) (s ++ [k]) = some r) : srch ps (m + 1) nx s = some r := by
  rw [srch_S]
  rw [show ps.length - nx = (k - nx) + ((ps.length - k - 1) + 1) by omega, ← List.range'_append_1, List.findSome?_append]
  have e1 : (List.range' nx (k - nx)).findSome? (fun k => srch ps m (k + 1) (s ++ [k])) = none := by
    rw [List.findSome?_eq_none_iff]
    intro j hj
    rw [List.mem_range'_1] at hj
    exact hn j hj.1 (by omega)
  rw [e1, show nx + (k - nx) = k by omega, List.range'_succ, List.findSome?_cons, h]; rfl
theorem srch_none {ps : List Pt} {m nx : Nat} {s : List Nat} (hn : noTo ps m nx ps.length s) : srch ps (m + 1) nx s = none := by
  rw [srch_S, List.findSome?_eq_none_iff]
  intro j hj
  rw [List.mem_range'_1] at hj
  exact hn j hj.1 (by omega)
theorem srch_len {ps : List Pt} : ∀ (m nx : Nat) (s r : List Nat), srch ps m nx s = some r → r.length = s.length + m
  | 0, nx, s, r, h => by
    unfold srch at h
    split at h
    · injection h with h; rw [← h]; rfl
    · cases h
  | m + 1, nx, s, r, h => by
    rw [srch_S] at h
    obtain ⟨k, _, hk⟩ := List.exists_of_findSome?_eq_some h
    have := srch_len m (k + 1) (s ++ [k]) r hk
    rw [List.length_append] at this
    simp at this; omega
theorem srch_lt {ps : List Pt} : ∀ (m nx : Nat) (s r : List Nat), (∀ k ∈ s, k < ps.length) → srch ps m nx s = some r → ∀ k ∈ r, k < ps.length
  | 0, nx, s, r, hs, h => by
    unfold srch at h
    split at h
    · injection h with h; rw [← h]; exact hs
    · cases h
  | m + 1, nx, s, r, hs, h => by
    rw [srch_S] at h
    obtain ⟨k, hk1, hk⟩ := List.exists_of_findSome?_eq_some h
    rw [List.mem_range'_1] at hk1
    refine srch_lt m (k + 1) (s ++ [k]) r ?_ hk
    intro j hj
    rcases List.mem_append.1 hj with h | h
    · exact hs j h
    · rw [List.mem_singleton.1 h]; omega
def fromFn (sb lb fb : Nat) : Value := .func (.func 140) #[] #[.pointer (some ⟨sb, 0, none⟩), .pointer (some ⟨lb, 0, none⟩), .pointer (some ⟨fb, 0, none⟩)]
/-- What the closure has captured: the indices, the list, itself. -/
structure CapE (base sb lb fb : Nat) (A : Option Addr) (n c : Nat) (W : World) (v : Value) (zs : List Int) : Prop where
  k : W.heap[sb]? = some (.cells #[v] 63 (0, 0))
  p : W.heap[lb]? = some (.cells #[.slice A n c] 23 (0, 0))
  f : W.heap[fb]? = some (.cells #[fromFn sb lb fb] 136 (0, 0))
  own : Own W base v zs
  le : base ≤ sb
  off : ∀ k, v.ownBlock = some k → k ≠ sb ∧ k ≠ lb ∧ k ≠ fb
  ne : lb ≠ sb ∧ fb ≠ sb
theorem CapE.later {base sb lb fb : Nat} {A : Option Addr} {n c : Nat} {W W' : World} {v : Value} {zs : List Int} (h : CapE base sb lb fb A n c W v zs) (hb : Below W.heap.size W W') : CapE base sb lb fb A n c W' v zs :=
  ⟨(hb.block _ (heap_lt h.k)).trans h.k, (hb.block _ (heap_lt h.p)).trans h.p, (hb.block _ (heap_lt h.f)).trans h.f, h.own.below hb, h.le, h.off, h.ne⟩
/-- Behind 's = append(s, y)'. -/
theorem CapE.put {base sb lb fb : Nat} {A : Option Addr} {n c : Nat} {W W' : World} {o : Obj} {v v' : Value} {zs zs' : List Int} (h : CapE base sb lb fb A n c W v zs) (hgr : (W.alloc o).grownBy W' v.ownBlock)
    (hown : Own W' base v' zs') (hat : v'.ownBlock = v.ownBlock ∨ v'.ownBlock = some (W.alloc o).heap.size) :
    W'.heap[sb]? = some (.cells #[v] 63 (0, 0)) ∧ CapE base sb lb fb A n c (W'.setCell ⟨sb, 0, none⟩ v') v' zs' := by
  have step : ∀ k ob, k < W.heap.size → (∀ j, v.ownBlock = some j → j ≠ k) → W.heap[k]? = some ob → W'.heap[k]? = some ob := fun k ob hk hne hob =>
    (hgr.block k (by simp; omega) (fun e => hne k e.symm rfl)).trans ((Below.heap_alloc W o k hk).trans hob)
  have hk := step sb _ (heap_lt h.k) (fun j hj => (h.off j hj).1) h.k
  have off' : ∀ k, v'.ownBlock = some k → k ≠ sb ∧ k ≠ lb ∧ k ≠ fb := by
    intro k hk
    rcases hat with e | e
    · exact h.off k (e.symm.trans hk)
    · have := heap_lt h.p; have := heap_lt h.f; have := heap_lt h.k
      have hkk := Option.some.inj (e.symm.trans hk)
      rw [size_alloc] at hkk
      omega
  refine ⟨hk, cell_set1 hk v', ?_, ?_, ?_, h.le, off', h.ne⟩
  · exact (Below.heap_setCell W' _ _ lb h.ne.1).trans (step lb _ (heap_lt h.p) (fun j hj => (h.off j hj).2.1) h.p)
  · exact (Below.heap_setCell W' _ _ fb h.ne.2).trans (step fb _ (heap_lt h.f) (fun j hj => (h.off j hj).2.2) h.f)
  · exact own_block hown (fun k hk2 => Below.heap_setCell W' _ _ k (off' k hk2).1)
/-- Behind 's = s[:len(s)-1]'. -/
theorem Own.pop {w : World} {base : Nat} {A : Option Addr} {n c : Nat} {zs : List Int} {x : Int} (h : Own w base (.slice A n c) (zs ++ [x])) : Own w base (.slice A (n - 1) c) zs := by
  have hn := h.ints.1
  rw [List.length_append] at hn
  have hn : zs.length = n - 1 := by simp at hn; omega
  unfold Own at *
  rcases h.2 with ⟨hv, h0⟩ | ⟨g, cap, cur, hv, hg, hgg, hnc, hcm, hsz, htk⟩
  · simp at h0
  · injection hv with h1 h2 h3
    refine ⟨by simp, .inr ⟨g, cap, cur, by rw [h1, h3, hn], hg, hgg, by simp at hnc; omega, hcm, hsz, ?_⟩⟩
    have e : (cur.toList.take ((zs ++ [x]).length * 1)).take (zs.length * 1) = ((zs ++ [x]).map (Value.int .i64)).take (zs.length * 1) := by rw [htk]
    rw [List.take_take, Nat.min_eq_left (by simp)] at e
    rw [e, List.map_append, List.take_left' (by simp)]
theorem CapE.pop {base sb lb fb : Nat} {A : Option Addr} {n c : Nat} {W : World} {B : Option Addr} {m d : Nat} {zs : List Int} {x : Int} (h : CapE base sb lb fb A n c W (.slice B m d) (zs ++ [x])) : CapE base sb lb fb A n c (W.setCell ⟨sb, 0, none⟩ (.slice B (m - 1) d)) (.slice B (m - 1) d) zs := by
  refine ⟨cell_set1 h.k _, (Below.heap_setCell W _ _ lb h.ne.1).trans h.p, (Below.heap_setCell W _ _ fb h.ne.2).trans h.f, own_block h.own.pop (fun k hk => Below.heap_setCell W _ _ k (h.off k (by cases B <;> exact hk)).1), h.le, fun k hk => h.off k (by cases B <;> exact hk), h.ne⟩
set_option maxRecDepth 20000 in
set_option maxHeartbeats 4000000 in
theorem from_any (ps : List Pt) (n c base sb lb fb : Nat) (A : Option Addr) (hn : ps.length = n) (hm : n ≤ 100) (hok : ∀ p ∈ ps, p.ok = true) :
    ∀ (m nx M : Nat) (v : Value) (s : List Nat) (w : World), s.length + m = M → 1 ≤ M → M ≤ 3 → nx ≤ n → (∀ k ∈ s, k < n) → base ≤ w.heap.size → PtsAt w base A ps → CapE base sb lb fb A n c w v (zI s) →
    Calls Tryz.prog 140 #[.int .i64 M, .int .i64 nx, .pointer (some ⟨sb, 0, none⟩), .pointer (some ⟨lb, 0, none⟩), .pointer (some ⟨fb, 0, none⟩)] w
      fun e w' => ∃ v', e = .returned (.bool (srch ps m nx s).isSome) ∧ CapE base sb lb fb A n c w' v' (zI ((srch ps m nx s).getD s)) ∧ Below base w w' := by
  intro m
  induction m with
  | zero =>
    intro nx M v s w hM h1 h3 hnx hs hbase hpt hcap
    have EC := hide (fun (A2 : Option Addr) (m2 c2 : Nat) (W : World) (hb : Below w.heap.size w W) (hm2 : s.length = m2) (hi : IntsAt W W.heap.size A2 (zI s)) => encl_any ps s A A2 n c m2 c2 W hn (by omega) hok hm2 (by omega) hs (((hpt.more hbase).to hb)) hi)
    have CAP := hide hcap
    have ck : w.cell? ⟨sb, 0, none⟩ = some v := heap_cell hcap.k 0
    have cp : w.cell? ⟨lb, 0, none⟩ = some (.slice A n c) := heap_cell hcap.p 0
    obtain ⟨A2, m2, c2, rfl⟩ := own_slice hcap.own
    obtain ⟨l2, _, _, i2⟩ := hcap.own.ints
    rw [zI_len] at l2
    have ECk := hide (EC.out A2 m2 c2 w (Below.refl _ _) l2 i2)
    have RS : Hid (srch ps 0 nx s = if supB ps s = true then some s else none) := hide rfl
    have eq : ((m2 : Int) == (M : Int)) = true := by rw [beq_iff_eq]; omega
    clear EC hcap i2 hpt hok hM l2
    go_enter Tryz.func140, Tryz.ntmps140
    go_wp2_with fail
    refine ECk.out.mono ?_
    rintro e w' ⟨rfl, hw'⟩; have hzy := ext_sz hw'; obtain ⟨y, rfl⟩ := hw'; (try simp at hzy)
    have B := hide ((show Below w.heap.size w (ext w y) from (by (repeat' (first | (with_reducible first | exact Below.refl _ _ | assumption | refine below_ext _ ?_ ?_ | refine Below.alloc ?_ ?_ _ | refine Below.drew ?_ | refine below_drewN ?_ _ | refine le_drewN _ ?_ | refine Below.setCell ?_ ?_ _ | exact Nat.le_refl _ | refine le_ext _ ?_ | refine le_alloc _ ?_ | refine le_setCell _ _ ?_ | refine le_drew ?_) | omega | (simp; done) | (simp; omega))))).mono hbase)
    have CAP2 := hide (CAP.out.later (show Below w.heap.size w (ext w y) from (by (repeat' (first | (with_reducible first | exact Below.refl _ _ | assumption | refine below_ext _ ?_ ?_ | refine Below.alloc ?_ ?_ _ | refine Below.drew ?_ | refine below_drewN ?_ _ | refine le_drewN _ ?_ | refine Below.setCell ?_ ?_ _ | exact Nat.le_refl _ | refine le_ext _ ?_ | refine le_alloc _ ?_ | refine le_setCell _ _ ?_ | refine le_drew ?_) | omega | (simp; done) | (simp; omega))))))
    go_wp2_with fail
    go_ret
    refine ⟨.slice A2 m2 c2, ?_, ?_, B.out⟩
    · rw [RS.out]; cases supB ps s <;> rfl
    · rw [RS.out]
      cases supB ps s
      · exact CAP2.out
      · exact CAP2.out
  | succ m ih =>
    intro nx M v s w hM h1 h3 hnx hs hbase hpt hcap
    have IH := hide ih
    have CAP := hide hcap
    have PT := hide hpt
    have HSS := hide hs
    have ck : w.cell? ⟨sb, 0, none⟩ = some v := heap_cell hcap.k 0
    obtain ⟨A2, m2, c2, rfl⟩ := own_slice hcap.own
    obtain ⟨l2, _, _, i2⟩ := hcap.own.ints
    rw [zI_len] at l2
    have eq : ((m2 : Int) == (M : Int)) = false := by rw [beq_eq_false_iff_ne]; omega
    have HM := hide hM
    have L2 := hide l2
    clear hM l2
    clear ih hcap i2 hpt hs hok
    go_enter Tryz.func140, Tryz.ntmps140
    go_wp2_with fail
    go_loopw [8] (fun u8 wr => ∃ (k : Nat) (v : Value), nx ≤ k ∧ k ≤ n ∧ u8 = .int .i64 k ∧ Hid (CapE base sb lb fb A n c wr v (zI s)) ∧ Hid (noTo ps m nx k s) ∧ Below base w wr) (fun u8 _ => n - (intOf u8).toNat)
    case atStart => exact ⟨nx, _, Nat.le_refl _, hnx, rfl, CAP, hide (fun j h1 h2 => by omega), Below.refl _ _⟩
    case round =>
      obtain ⟨k, v, hk1, hk2, rfl, hC, hN, hbel⟩ := hrel
      clear ck CAP eq
      have CAP1 := hide hC.out
      have OWN1 := hide hC.out.own
      have ck : wr.cell? ⟨sb, 0, none⟩ = some v := heap_cell hC.out.k 0
      have cp : wr.cell? ⟨lb, 0, none⟩ = some (.slice A n c) := heap_cell hC.out.p 0
      have lk := heap_lt hC.out.k
      have zb := hbel.size
      by_cases hlt : k < n
      · have hle : base ≤ sb := hC.out.le
        have hl1 : (zI s).length ≤ 2000000 := by have := HM.out; rw [zI_len]; omega
        have hb2a : Below base w (wr.alloc (.cells #[.int .i64 (k : Int)] 3)) := hbel.alloc (by omega) _
        have IHk : Hid (∀ (v : Value) (W : World), Below base w W → CapE base sb lb fb A n c W v (zI s ++ [(k : Int)]) → Calls Tryz.prog 140 #[.int .i64 M, .int .i64 ((k : Int) + 1), .pointer (some ⟨sb, 0, none⟩), .pointer (some ⟨lb, 0, none⟩), .pointer (some ⟨fb, 0, none⟩)] W
            fun e w' => ∃ v', e = .returned (.bool (srch ps m (k + 1) (s ++ [k])).isSome) ∧ CapE base sb lb fb A n c w' v' (zI ((srch ps m (k + 1) (s ++ [k])).getD (s ++ [k]))) ∧ Below base W w') := hide (fun v W hb hc => by
          have h := IH.out (k + 1) M v (s ++ [k]) W (by have := HM.out; simp; omega) h1 h3 (by omega) (fun j hj => by
            rcases List.mem_append.1 hj with h | h
            · exact HSS.out j h
            · rw [List.mem_singleton.1 h]; exact hlt) (Nat.le_trans hbase hb.size) (PT.out.below hb) (by rw [zI_snoc]; exact hc)
          rw [show ((k + 1 : Nat) : Int) = (k : Int) + 1 by omega] at h
          exact h)
        have HIT : Hid (∀ r, srch ps m (k + 1) (s ++ [k]) = some r → srch ps (m + 1) nx s = some r) := hide (fun r h => srch_hit hk1 (by omega) hN.out h)
        have MISS : Hid (srch ps m (k + 1) (s ++ [k]) = none → noTo ps m nx (k + 1) s) := hide (fun h j h1 h2 => by
          by_cases e : j = k
          · rw [e]; exact h
          · exact hN.out j h1 (by omega))
        have SNC := hide (zI_snoc s k)
        clear IH hC hN PT HSS
        go_wp2_with (at_builtin; refine app_one rfl _ _ rfl base v (zI s) rfl (OWN1.out.below (by (repeat' (first | (with_reducible first | exact Below.refl _ _ | assumption | refine below_ext _ ?_ ?_ | refine Below.alloc ?_ ?_ _ | refine Below.drew ?_ | refine below_drewN ?_ _ | refine le_drewN _ ?_ | refine Below.setCell ?_ ?_ _ | exact Nat.le_refl _ | refine le_ext _ ?_ | refine le_alloc _ ?_ | refine le_setCell _ _ ?_ | refine le_drew ?_) | omega | (simp; done) | (simp; omega))))) (k : Int) _ _ rfl (by simp [go_sem]) hl1 (by simp; omega) ?_; intro v' w' hown' hb' hat hgr; obtain ⟨A', n', c', rfl⟩ := own_slice hown'; obtain ⟨hkk, hcap2⟩ := CapE.put CAP1.out hgr hown' hat; have ck2 := heap_cell hkk 0; have fk2 := heap_frozen hkk 0; simp at ck2; have CAP2 := hide hcap2; have lk2 := heap_lt hkk; have hw2 := hb'.size; have hb2 := Below.setCell (p := ⟨sb, 0, none⟩) (hb2a.trans hb') hle (.slice A' n' c'); have cw : w'.cell? ⟨fb, 0, none⟩ = some (fromFn sb lb fb) := heap_cell ((Below.heap_setCell w' _ _ fb CAP1.out.ne.2).symm.trans hcap2.f) 0; unfold fromFn at cw; have nfk : ¬ sb = fb := fun e => CAP1.out.ne.2 e.symm; have nkf : ¬ fb = sb := CAP1.out.ne.2; clear hkk hcap2 hgr hown' hat)
        refine (IHk.out _ _ hb2 CAP2.out).mono ?_
        rintro e w3 ⟨v3, rfl, hcap3, hb3⟩
        have CAP3 := hide hcap3
        have B3 := hide (hb2.trans hb3)
        clear hcap3 hb3
        cases hr : srch ps m (k + 1) (s ++ [k]) with
        | some r =>
          have HR := hide (HIT.out r hr)
          have CAP4 : Hid (CapE base sb lb fb A n c w3 v3 (zI r)) := hide (by have := CAP3.out; rw [hr] at this; exact this)
          clear hr CAP3 IHk
          go_wp2_with fail
          go_ret
          exact ⟨v3, by rw [HR.out]; rfl, by rw [HR.out]; exact CAP4.out, B3.out⟩
        | none =>
          have HN2 := hide (MISS.out hr)
          have CAP4 : Hid (CapE base sb lb fb A n c w3 v3 (zI s ++ [(k : Int)])) := hide (by have := CAP3.out; rw [hr] at this; rw [← SNC.out]; exact this)
          clear hr CAP3 IHk
          obtain ⟨A3, n3, c3, rfl⟩ := own_slice CAP4.out.own
          obtain ⟨l3, nc3, _, _⟩ := CAP4.out.own.ints
          obtain ⟨q, rfl⟩ : ∃ q, n3 = q + 1 := ⟨n3 - 1, by simp at l3; omega⟩
          have ck4 : w3.cell? ⟨sb, 0, none⟩ = some (.slice A3 (q + 1) c3) := heap_cell CAP4.out.k 0
          have fk4 := heap_frozen CAP4.out.k 0
          have lk4 := heap_lt CAP4.out.k
          have POP := hide CAP4.out.pop
          rw [Nat.add_sub_cancel] at POP
          have hq : q ≤ 100 := by have := HM.out; rw [List.length_append, zI_len] at l3; simp at l3; omega
          have B5 := hide (Below.setCell (p := ⟨sb, 0, none⟩) B3.out hle (.slice A3 q c3))
          clear l3
          go_wp2_with fail
          exact ⟨⟨k + 1, _, by omega, hlt, by go_num, POP, HN2, B5.out⟩, by simp [intOf]; omega⟩
      · have HR : Hid (srch ps (m + 1) nx s = none) := hide (srch_none (by rw [hn, show n = k by omega]; exact hN.out))
        clear hN IH
        go_wp2_with fail
        go_ret
        exact ⟨v, by rw [HR.out]; rfl, by rw [HR.out]; exact CAP1.out, hbel⟩
/-- The answer to 'circle'. -/
def encL3 (ps : List Pt) : List Nat := ((srch ps 1 0 []).orElse fun _ => (srch ps 2 0 []).orElse fun _ => srch ps 3 0 []).getD []
def cirT (ps : List Pt) : List UInt8 := intsT (zI (encL3 ps))
theorem encL3_mem (ps : List Pt) : (encL3 ps).length ≤ 3 ∧ ∀ k ∈ encL3 ps, k < ps.length := by
  have key : ∀ m, m ≤ 3 → ∀ r, srch ps m 0 [] = some r → r.length ≤ 3 ∧ ∀ k ∈ r, k < ps.length := fun m hm r h =>
    ⟨by rw [srch_len m 0 [] r h]; simpa using hm, srch_lt m 0 [] r (fun k hk => by cases hk) h⟩
  unfold encL3
  cases h1 : srch ps 1 0 [] with
  | some r => exact key 1 (by omega) r h1
  | none =>
    cases h2 : srch ps 2 0 [] with
    | some r => exact key 2 (by omega) r h2
    | none =>
      cases h3 : srch ps 3 0 [] with
      | some r => exact key 3 (by omega) r h3
      | none => exact ⟨by simp, fun k hk => by simp at hk⟩
theorem encL3_hit {ps : List Pt} {k : Nat} {r : List Nat} (h1 : 1 ≤ k) (h3 : k ≤ 3) (hn : ∀ j, 1 ≤ j → j < k → srch ps j 0 [] = none) (h : srch ps k 0 [] = some r) : encL3 ps = r := by
  unfold encL3
  by_cases e1 : k = 1
  · subst e1; rw [h]; rfl
  · rw [hn 1 (by omega) (by omega)]
    by_cases e2 : k = 2
    · subst e2; rw [h]; rfl
    · rw [hn 2 (by omega) (by omega)]
      have : k = 3 := by omega
      subst this
      rw [h]; rfl
theorem encL3_no {ps : List Pt} (hn : ∀ j, 1 ≤ j → j < 4 → srch ps j 0 [] = none) : encL3 ps = [] := by
  unfold encL3
  rw [hn 1 (by omega) (by omega), hn 2 (by omega) (by omega), hn 3 (by omega) (by omega)]; rfl
theorem CapE.start {w : World} {lb : Nat} {A : Option Addr} {n c : Nat} (hp : w.heap[lb]? = some (.cells #[.slice A n c] 23 (0, 0))) :
    CapE w.heap.size (w.heap.size + 1) lb (w.heap.size + 1 + 1) A n c (((w.alloc (.cells #[] 3)).alloc (.cells #[.slice (some ⟨w.heap.size, 0, none⟩) 0 0] 63)).alloc (.cells #[fromFn (w.heap.size + 1) lb (w.heap.size + 1 + 1)] 136)) (.slice (some ⟨w.heap.size, 0, none⟩) 0 0) [] := by
  have lp := heap_lt hp
  have three : ∀ (o1 o2 o3 : Obj), ((w.alloc o1).alloc o2).heap[w.heap.size + 1]? = some o2 ∧ (((w.alloc o1).alloc o2).alloc o3).heap[w.heap.size + 1 + 1]? = some o3 := fun o1 o2 o3 => by
    have h1 := heap_alloc_new (w.alloc o1) o2
    have h2 := heap_alloc_new ((w.alloc o1).alloc o2) o3
    rw [size_alloc] at h1
    rw [size_alloc, size_alloc] at h2
    exact ⟨h1, h2⟩
  have old : ∀ (o1 o2 o3 : Obj) (k : Nat), k < w.heap.size → (((w.alloc o1).alloc o2).alloc o3).heap[k]? = w.heap[k]? := fun o1 o2 o3 k hk =>
    (Below.heap_alloc _ _ k (by rw [size_alloc, size_alloc]; omega)).trans ((Below.heap_alloc _ _ k (by rw [size_alloc]; omega)).trans (Below.heap_alloc _ _ k hk))
  refine ⟨(Below.heap_alloc _ _ _ (by rw [size_alloc, size_alloc]; omega)).trans (three _ _ (.cells #[] 0 (0, 0))).1, (old _ _ _ lb lp).trans hp, (three _ _ _).2, ?_, by omega, ?_, by omega⟩
  · exact (Own.empty w w.heap.size (Nat.le_refl _)).below (((Below.refl _ _).alloc (Nat.le_refl _) _).alloc (by simp) _)
  · intro k hk
    have : k = w.heap.size := (Option.some.inj hk).symm
    omega
set_option maxRecDepth 20000 in
set_option maxHeartbeats 4000000 in
theorem iEncl_any (ps : List Pt) (A : Option Addr) (n c : Nat) (w : World) (hn : ps.length = n) (hok : listOk ps = true) (hs : PtsAt w w.heap.size A ps) :
    Calls Tryz.prog 97 #[.slice A n c] w fun e w' => ∃ A' n' c', e = .returned (.slice A' n' c') ∧ (zI (encL3 ps)).length = n' ∧ IntsAt w' w'.heap.size A' (zI (encL3 ps)) ∧ ∃ x, w' = ext w x := by
  obtain ⟨h1, h2⟩ := listOk_1 hok
  have LO := hide (fun (W : World) (hb : Below w.heap.size w W) => listOk_any ps A n c W hn (by omega) (hs.to hb))
  rw [hok] at LO
  have FR := hide (fun (base sb lb fb m : Nat) (v : Value) (W : World) (hm1 : 1 ≤ m) (hm3 : m ≤ 3) (hbase : base ≤ W.heap.size) (hp : PtsAt W base A ps) (hc : CapE base sb lb fb A n c W v (zI [])) => from_any ps n c base sb lb fb A hn (by omega) h2 m 0 m v [] W (by simp) hm1 hm3 (Nat.zero_le _) (fun k hk => by cases hk) hbase hp hc)
  have CL := hide clipN_any
  have HS := hide hs
  clear hn hok h1 h2 hs
  go_enter Tryz.func97, Tryz.ntmps97
  go_wp2_with fail
  refine (LO.out _ (by (repeat' (first | (with_reducible first | exact Below.refl _ _ | assumption | refine below_ext _ ?_ ?_ | refine Below.alloc ?_ ?_ _ | refine Below.drew ?_ | refine below_drewN ?_ _ | refine le_drewN _ ?_ | refine Below.setCell ?_ ?_ _ | exact Nat.le_refl _ | refine le_ext _ ?_ | refine le_alloc _ ?_ | refine le_setCell _ _ ?_ | refine le_drew ?_) | omega | (simp; done) | (simp; omega))))).mono ?_
  rintro e w' ⟨rfl, hw'⟩
  have B1 := hide ((show Below w.heap.size w (w.alloc (.cells #[.slice A n c] 23)) from (by (repeat' (first | (with_reducible first | exact Below.refl _ _ | assumption | refine below_ext _ ?_ ?_ | refine Below.alloc ?_ ?_ _ | refine Below.drew ?_ | refine below_drewN ?_ _ | refine le_drewN _ ?_ | refine Below.setCell ?_ ?_ _ | exact Nat.le_refl _ | refine le_ext _ ?_ | refine le_alloc _ ?_ | refine le_setCell _ _ ?_ | refine le_drew ?_) | omega | (simp; done) | (simp; omega))))).trans ((ext_bel hw').mono (by first | omega | (simp; done) | (simp; omega))))
  have K1 := hide (((ext_bel hw').block _ (by simp)).trans (heap_alloc_new w (.cells #[.slice A n c] 23)))
  have z1 : w.heap.size < w'.heap.size := by have := (ext_bel hw').size; simp at this; omega
  clear hw' LO
  have CAP0 := hide (CapE.start K1.out)
  have HP1 := hide (HS.out.below (B1.out.mono (Nat.le_refl _)))
  have B9 := hide (((((Below.refl w'.heap.size w').alloc (Nat.le_refl _) (.cells #[] 3)).alloc (by simp) (.cells #[.slice (some ⟨w'.heap.size, 0, none⟩) 0 0] 63)).alloc (by simp; omega) (.cells #[fromFn (w'.heap.size + 1) w.heap.size (w'.heap.size + 1 + 1)] 136)))
  unfold fromFn at B9
  go_wp2_with fail
  go_loopw [5] (fun u5 wr => ∃ (k : Nat) (v : Value), 1 ≤ k ∧ k ≤ 4 ∧ u5 = .int .i64 k ∧ Hid (CapE w'.heap.size (w'.heap.size + 1) w.heap.size (w'.heap.size + 1 + 1) A n c wr v (zI [])) ∧ Hid (∀ j, 1 ≤ j → j < k → srch ps j 0 [] = none) ∧ Below w'.heap.size w' wr) (fun u5 _ => 4 - (intOf u5).toNat)
  case atStart => exact ⟨1, _, Nat.le_refl _, by omega, rfl, CAP0, hide (fun j h1 h2 => by omega), B9.out⟩
  case round =>
    obtain ⟨k, v, hk1, hk2, rfl, hC, hN, hbel⟩ := hrel
    clear CAP0 B9
    have zz := hbel.size
    have BW := hide (B1.out.trans (hbel.mono (by omega)))
    by_cases hlt : k ≤ 3
    · have cf : wr.cell? ⟨w'.heap.size + 1 + 1, 0, none⟩ = some (fromFn (w'.heap.size + 1) w.heap.size (w'.heap.size + 1 + 1)) := heap_cell hC.out.f 0
      unfold fromFn at cf
      have FRk := hide (FR.out w'.heap.size (w'.heap.size + 1) w.heap.size (w'.heap.size + 1 + 1) k v wr hk1 hlt (by omega) (((HP1.out.more (Nat.le_of_lt z1)).below hbel)) hC.out)
      have HIT := hide (fun r (h : srch ps k 0 [] = some r) => encL3_hit hk1 hlt hN.out h)
      have MISS : Hid (srch ps k 0 [] = none → ∀ j, 1 ≤ j → j < k + 1 → srch ps j 0 [] = none) := hide (fun h j h1 h2 => by
        by_cases e : j = k
        · rw [e]; exact h
        · exact hN.out j h1 (by omega))
      clear hC hN FR HP1 HS
      go_wp2_with fail
      refine FRk.out.mono ?_
      rintro e w3 ⟨v3, rfl, hcap3, hb3⟩
      have CAP3 := hide hcap3
      have B3 := hide (hbel.trans hb3)
      clear hcap3 hb3 FRk
      cases hr : srch ps k 0 [] with
      | some r =>
        have HR := hide (HIT.out r hr)
        have CAP4 : Hid (CapE w'.heap.size (w'.heap.size + 1) w.heap.size (w'.heap.size + 1 + 1) A n c w3 v3 (zI r)) := hide (by have := CAP3.out; rw [hr] at this; exact this)
        clear hr CAP3
        obtain ⟨A3, n3, c3, rfl⟩ := own_slice CAP4.out.own
        obtain ⟨l3, nc3, mc3, i3⟩ := CAP4.out.own.ints
        have fm := CAP4.out.own.form.1
        have ck4 : w3.cell? ⟨w'.heap.size + 1, 0, none⟩ = some (.slice A3 n3 c3) := heap_cell CAP4.out.k 0
        have I3 := hide i3
        have L3 := hide l3
        have CLk := hide (CL.out A3 n3 c3 w3 nc3 (by unfold maxLen at mc3; omega) (fun h e => by have := fm e; omega))
        clear l3 i3 fm CL
        go_wp2_with fail
        refine CLk.out.mono ?_
        rintro e w5 ⟨rfl, rfl⟩
        go_wp2_with fail
        go_ret
        exact ⟨A3, n3, n3, rfl, by rw [HR.out]; exact L3.out, by rw [HR.out]; exact I3.out, ext_mk (B1.out.trans (B3.out.mono (by omega)))⟩
      | none =>
        have HN2 := hide (MISS.out hr)
        have CAP4 : Hid (CapE w'.heap.size (w'.heap.size + 1) w.heap.size (w'.heap.size + 1 + 1) A n c w3 v3 (zI [])) := hide (by have := CAP3.out; rw [hr] at this; exact this)
        clear hr CAP3
        go_wp2_with fail
        exact ⟨⟨k + 1, v3, by omega, by omega, by go_num, CAP4, HN2, B3.out⟩, by simp [intOf]; omega⟩
    · have e4 : k = 4 := by omega
      have HR := hide (encL3_no (ps := ps) (by rw [← e4]; exact hN.out))
      clear hN FR
      go_wp2_with fail
      go_ret
      exact ⟨none, 0, 0, rfl, by rw [HR.out]; rfl, by rw [HR.out]; exact fun h => absurd h (Nat.lt_irrefl 0), ext_mk BW.out⟩
theorem cir_big (ps : List Pt) (h : ps.length ≤ 20) : Big (zI (encL3 ps)) := fun y hy => by
  obtain ⟨k, hk, rfl⟩ := List.mem_map.1 hy
  have := (encL3_mem ps).2 k hk
  omega
theorem cir_len (ps : List Pt) (h0 : ps ≠ []) (hok : listOk ps = true) : (cirT ps).length ≤ 100000 := by
  have := intsT_len (cir_big ps (listOk_1 hok).1)
  have h3 := (encL3_mem ps).1
  rw [zI_len] at this
  unfold cirT
  omega
set_option maxHeartbeats 1000000 in
theorem q6_any (ps : List Pt) (A : Option Addr) (n c : Nat) (w : World) (hn : ps.length = n) (hok : listOk ps = true) (hs : PtsAt w w.heap.size A ps) (ht : Tab w) :
    Calls Tryz.prog 96 #[.slice A n c] w fun e w' => e = .returned (.string (bS (cirT ps))) ∧ ∃ x, w' = ext w x := by
  have HH := hide (iEncl_any ps A n c w hn hok hs)
  have h3 := (encL3_mem ps).1
  have TO := hide (fun (A' : Option Addr) (n' c' : Nat) (W : World) (hb : Below w.heap.size w W) (hl : (zI (encL3 ps)).length = n') h2 => told_any (zI (encL3 ps)) A' n' c' W hl (by rw [zI_len] at hl; omega) (cir_big ps (listOk_1 hok).1) h2 (ht.to hb))
  unfold cirT
  clear hn hok hs ht
  generalize zI (encL3 ps) = zs at *
  go_enter Tryz.func96, Tryz.ntmps96
  go_wp2_with fail
  refine HH.out.mono ?_
  rintro e w2 ⟨A2, n2, c2, rfl, l2, i2, hx⟩
  have B2 := hide (ext_bel hx)
  have TK := hide (TO.out A2 n2 c2 w2 B2.out l2 i2)
  clear hx TO i2 l2
  go_wp2_with fail
  refine TK.out.mono ?_
  rintro e w' ⟨rfl, hw'⟩; have hzy := ext_sz hw'; obtain ⟨y, rfl⟩ := hw'; (try simp at hzy)
  go_wp2_with fail
  go_ret
  exact ⟨rfl, ext_mk (B2.out.trans (Below.mono (show Below w2.heap.size w2 _ from (by (repeat' (first | (with_reducible first | exact Below.refl _ _ | assumption | refine below_ext _ ?_ ?_ | refine Below.alloc ?_ ?_ _ | refine Below.drew ?_ | refine below_drewN ?_ _ | refine le_drewN _ ?_ | refine Below.setCell ?_ ?_ _ | exact Nat.le_refl _ | refine le_ext _ ?_ | refine le_alloc _ ?_ | refine le_setCell _ _ ?_ | refine le_drew ?_) | omega | (simp; done) | (simp; omega))))) B2.out.size))⟩
end Go.Proofs.YtnddfdhfefconaaGreatDoor
namespace Go.Proofs.YtnddfdhfefconaaGreatDoor
open Go.RowKit

theorem intsAt1 {w : World} {B : Nat} {A : Option Addr} {i : Nat} (h : IntsAt w B A (zI [i])) : ∃ b o, A = some ⟨b, o, none⟩ ∧ b < B ∧ w.cell? ⟨b, o, none⟩ = some (.int .i64 (i : Int)) := by
  obtain ⟨b, o, hA, hb, hc⟩ := h (by simp [zI])
  exact ⟨b, o, hA, hb, hc 0 (by simp [zI])⟩
theorem intsAt2 {w : World} {B : Nat} {A : Option Addr} {i j : Nat} (h : IntsAt w B A (zI [i, j])) : ∃ b o, A = some ⟨b, o, none⟩ ∧ b < B ∧ w.cell? ⟨b, o, none⟩ = some (.int .i64 (i : Int)) ∧ w.cell? ⟨b, o + 1, none⟩ = some (.int .i64 (j : Int)) := by
  obtain ⟨b, o, hA, hb, hc⟩ := h (by simp [zI])
  exact ⟨b, o, hA, hb, hc 0 (by simp [zI]), hc 1 (by simp [zI])⟩
theorem intsAt3 {w : World} {B : Nat} {A : Option Addr} {i j k : Nat} (h : IntsAt w B A (zI [i, j, k])) : ∃ b o, A = some ⟨b, o, none⟩ ∧ b < B ∧ w.cell? ⟨b, o, none⟩ = some (.int .i64 (i : Int)) ∧ w.cell? ⟨b, o + 1, none⟩ = some (.int .i64 (j : Int)) ∧ w.cell? ⟨b, o + 2, none⟩ = some (.int .i64 (k : Int)) := by
  obtain ⟨b, o, hA, hb, hc⟩ := h (by simp [zI])
  exact ⟨b, o, hA, hb, hc 0 (by simp [zI]), hc 1 (by simp [zI]), hc 2 (by simp [zI])⟩
theorem eqP_dcd (a d : Pt) : decide (a = d) = eqP a.x a.y d.x d.y := by
  rw [Bool.eq_iff_iff, eqP_iff, decide_eq_true_iff]
  constructor
  · rintro rfl; exact ⟨rfl, rfl⟩
  · rintro ⟨h1, h2⟩; cases a; cases d; simp_all
def AscN (ks : List Nat) : Prop := ∀ t, 0 < t → t < ks.length → ks.getD (t - 1) 0 < ks.getD t 0
set_option maxHeartbeats 4000000 in
theorem isSup_any (ps : List Pt) (ks : List Nat) (A A2 : Option Addr) (n c m c2 : Nat) (w : World) (hn : ps.length = n) (hn2 : n ≤ 1000) (hok : ∀ p ∈ ps, p.ok = true) (hm : ks.length = m) (h3 : m = 1 ∨ m = 2 ∨ m = 3) (hk : ∀ k ∈ ks, k < n) (hasc : AscN ks) (hs : PtsAt w w.heap.size A ps) (hi : IntsAt w w.heap.size A2 (zI ks)) :
    Calls Tryz.prog 113 #[.slice A n c, .slice A2 m c2] w fun e w' => e = .returned (.bool (detB (ks.map (gp ps)))) ∧ ∃ x, w' = ext w x := by
  have HN := hide hn
  have HM := hide hm
  have HK := hide hk
  have HOK := hide hok
  have HS := hide hs
  have HI := hide hi
  have ASC := hide hasc
  have IR := hide inRange_any
  have n0 : 0 < n := by
    have : 0 < ks.length := by omega
    have := hk _ (List.getElem_mem this); omega
  clear hn hok hm hk hs hi hasc
  go_enter Tryz.func113, Tryz.ntmps113
  go_wp2_with fail
  go_loopw [5] (fun u5 wr => ∃ t : Nat, t ≤ m ∧ u5 = .int .i64 t ∧ Below w.heap.size w wr) (fun u5 _ => m - (intOf u5).toNat)
  case atStart => exact ⟨0, Nat.zero_le _, rfl, Below.refl _ _⟩
  case round =>
    obtain ⟨t, ht, rfl, hbel⟩ := hrel
    have hsz := hbel.size
    by_cases hlt : t < m
    · have hl : t < ks.length := by rw [HM.out]; omega
      obtain ⟨b2, o2, rfl, hb2, hcs⟩ := HI.out (by rw [zI_len]; omega)
      have c1 := (hbel.cell (p := ⟨b2, o2 + t, none⟩) hb2).trans (hcs t (by rw [zI_len]; omega))
      rw [zI_at hl] at c1
      have b1 := HK.out ks[t] (List.getElem_mem _)
      have as1 := ASC.out t
      have g1 : ks.getD t 0 = ks[t] := by simp [List.getD_eq_getElem?_getD, List.getElem?_eq_getElem hl]
      rw [g1] at as1
      clear g1
      have q1 : (t : Int) < (m : Int) := by omega
      have q0 : (0 : Int) ≤ (t : Int) := by omega
      by_cases h0 : t = 0
      · have q5 : ¬ (0 : Int) < (t : Int) := by omega
        have q9 : ¬ 0 < t := by omega
        have d0 : decide ((0 : Int) < (t : Int)) = false := decide_eq_false q5
        clear as1 hcs HI HS ASC h0
        generalize ks[t] = j at *
        have ib : inB (j : Int) 0 ((n : Int) - 1) = true := inB_iff.2 ⟨by omega, by omega⟩
        clear hl
        go_wp2_with fail
        refine wp_region_ext (by kernel_rfl) (by kernel_rfl) ?_
        repeat (go_big_quiet_step ((first | (go_at_call 81; exact Calls.in_ext ((inRange_any _ _ _ _).mono (fun e w' h => ⟨h.1, by rw [← h.2]; exact ext_same _⟩))))))
        refine wpQuiet_nil ?_
        rintro _ hnq
        have hzq := ext_sz hnq
        obtain ⟨nq, rfl⟩ := hnq
        (try simp at hzq)
        go_wp2_with fail
        exact ⟨⟨t + 1, by omega, by go_num, Below.trans hbel (by (repeat' (first | (with_reducible first | exact Below.refl _ _ | assumption | refine below_ext _ ?_ ?_ | refine Below.alloc ?_ ?_ _ | refine Below.drew ?_ | refine below_drewN ?_ _ | refine le_drewN _ ?_ | refine Below.setCell ?_ ?_ _ | exact Nat.le_refl _ | refine le_ext _ ?_ | refine le_alloc _ ?_ | refine le_setCell _ _ ?_ | refine le_drew ?_) | omega | (simp; done) | (simp; omega))))⟩, by simp [intOf]; omega⟩
      · have as2 := as1 (by omega) hl
        have hl2 : t - 1 < ks.length := by omega
        have g2 : ks.getD (t - 1) 0 = ks[t - 1] := by simp [List.getD_eq_getElem?_getD, List.getElem?_eq_getElem hl2]
        rw [g2] at as2
        have c0 := (hbel.cell (p := ⟨b2, o2 + (t - 1), none⟩) hb2).trans (hcs (t - 1) (by rw [zI_len]; omega))
        rw [zI_at hl2] at c0
        clear g2 as1 hcs HI HS ASC
        generalize ks[t] = j at *
        generalize ks[t - 1] = i at *
        clear hl hl2
        obtain ⟨t', rfl⟩ : ∃ t', t = t' + 1 := ⟨t - 1, by omega⟩
        rw [Nat.add_sub_cancel] at c0
        have ib : inB (j : Int) 0 ((n : Int) - 1) = true := inB_iff.2 ⟨by omega, by omega⟩
        have q6 : ¬ (j : Int) ≤ (i : Int) := by omega
        have q7 : (t' : Int) < (m : Int) := by omega
        clear h0
        go_wp2_with fail
        refine wp_region_ext (by kernel_rfl) (by kernel_rfl) ?_
        repeat (go_big_quiet_step ((first | (go_at_call 81; exact Calls.in_ext ((inRange_any _ _ _ _).mono (fun e w' h => ⟨h.1, by rw [← h.2]; exact ext_same _⟩))))))
        refine wpQuiet_nil ?_
        rintro _ hnq
        have hzq := ext_sz hnq
        obtain ⟨nq, rfl⟩ := hnq
        (try simp at hzq)
        go_wp2_with fail
        exact ⟨⟨t' + 1 + 1, by omega, by go_num, Below.trans hbel (by (repeat' (first | (with_reducible first | exact Below.refl _ _ | assumption | refine below_ext _ ?_ ?_ | refine Below.alloc ?_ ?_ _ | refine Below.drew ?_ | refine below_drewN ?_ _ | refine le_drewN _ ?_ | refine Below.setCell ?_ ?_ _ | exact Nat.le_refl _ | refine le_ext _ ?_ | refine le_alloc _ ?_ | refine le_setCell _ _ ?_ | refine le_drew ?_) | omega | (simp; done) | (simp; omega))))⟩, by simp [intOf]; omega⟩
    · have IS := hide (HI.out.to hbel)
      obtain ⟨b, o, rfl, hb, hcs0⟩ := HS.out (by rw [HN.out]; omega)
      have hcs := fun (i : Nat) (hi : i < ps.length) => And.intro ((hbel.cell (p := ⟨b, o + i * 2, none⟩) hb).trans (hcs0 i hi).1) ((hbel.cell (p := ⟨b, o + i * 2 + 1, none⟩) hb).trans (hcs0 i hi).2)
      clear hcs0 HI HS ASC
      have BB := hide hbel
      rcases h3 with rfl | rfl | rfl
      · obtain ⟨i, rfl⟩ : ∃ i, ks = [i] := by
          match ks, HM.out with
          | [i], _ => exact ⟨i, rfl⟩
        clear hcs IS HK
        go_wp2_with fail
        go_ret
        exact ⟨rfl, ext_mk BB.out⟩
      · obtain ⟨i, j, rfl⟩ : ∃ i j, ks = [i, j] := by
          match ks, HM.out with
          | [i, j], _ => exact ⟨i, j, rfl⟩
        obtain ⟨b2, o2, rfl, hb2, c0, c1⟩ := intsAt2 IS.out
        have hi := HK.out i (by simp)
        have hj := HK.out j (by simp)
        have RV : Hid (detB ([i, j].map (gp ps)) = !eqP (pX ps i) (pY ps i) (pX ps j) (pY ps j)) := hide (by show (!decide (gp ps i = gp ps j)) = _; rw [eqP_dcd]; rfl)
        have N := @run_nePt
        have iq1 : (0 : Int) ≤ (i : Int) := by omega
        have iq2 : (i : Int) < (n : Int) := by omega
        obtain ⟨ix, iy⟩ := hcs i (by rw [HN.out]; omega)
        have jq1 : (0 : Int) ≤ (j : Int) := by omega
        have jq2 : (j : Int) < (n : Int) := by omega
        obtain ⟨jx, jy⟩ := hcs j (by rw [HN.out]; omega)
        clear hcs IS HK
        generalize pX ps i = X1 at *
        generalize pY ps i = Y1 at *
        generalize pX ps j = X2 at *
        generalize pY ps j = Y2 at *
        go_wp2_with fail
        refine wp_region_ext (by kernel_rfl) (by kernel_rfl) ?_
        repeat (go_big_quiet_step (fail))
        refine wpQuiet_nil ?_
        rintro _ hnq
        have hzq := ext_sz hnq
        obtain ⟨nq, rfl⟩ := hnq
        (try simp at hzq)
        go_wp2_with fail
        go_ret
        exact ⟨congrArg (fun z => Ending.returned (.bool z)) RV.out.symm, ext_mk (Below.trans BB.out (Below.mono (show Below wr.heap.size wr _ from (by (repeat' (first | (with_reducible first | exact Below.refl _ _ | assumption | refine below_ext _ ?_ ?_ | refine Below.alloc ?_ ?_ _ | refine Below.drew ?_ | refine below_drewN ?_ _ | refine le_drewN _ ?_ | refine Below.setCell ?_ ?_ _ | exact Nat.le_refl _ | refine le_ext _ ?_ | refine le_alloc _ ?_ | refine le_setCell _ _ ?_ | refine le_drew ?_) | omega | (simp; done) | (simp; omega))))) hsz))⟩
      · obtain ⟨i, j, k, rfl⟩ : ∃ i j k, ks = [i, j, k] := by
          match ks, HM.out with
          | [i, j, k], _ => exact ⟨i, j, k, rfl⟩
        obtain ⟨b2, o2, rfl, hb2, c0, c1, c3⟩ := intsAt3 IS.out
        have hi := HK.out i (by simp)
        have hj := HK.out j (by simp)
        have hk := HK.out k (by simp)
        have oi := okb (HOK.out _ (gp_mem (show i < ps.length by rw [HN.out]; omega)))
        have oj := okb (HOK.out _ (gp_mem (show j < ps.length by rw [HN.out]; omega)))
        have ok := okb (HOK.out _ (gp_mem (show k < ps.length by rw [HN.out]; omega)))
        have SC : Hid (∀ W, Calls Tryz.prog 164 #[.agg #[.int .i64 (pX ps i), .int .i64 (pY ps i)], .agg #[.int .i64 (pX ps j), .int .i64 (pY ps j)], .agg #[.int .i64 (pX ps k), .int .i64 (pY ps k)]] W fun e w' => e = .returned (.int .i64 (trn (gp ps i) (gp ps j) (gp ps k))) ∧ ∃ x, w' = ext W x) := hide (fun W => scross_any (gp ps i).x (gp ps i).y (gp ps j).x (gp ps j).y (gp ps k).x (gp ps k).y W (by omega) (by omega) (by omega) (by omega) (by omega) (by omega))
        have D1 : Hid (∀ W, Calls Tryz.prog 165 #[.agg #[.int .i64 (pX ps i), .int .i64 (pY ps i)], .agg #[.int .i64 (pX ps j), .int .i64 (pY ps j)], .agg #[.int .i64 (pX ps k), .int .i64 (pY ps k)]] W fun e w' => e = .returned (.int .i64 (dtP (gp ps i) (gp ps j) (gp ps k))) ∧ ∃ x, w' = ext W x) := hide (fun W => sdot_any (gp ps i).x (gp ps i).y (gp ps j).x (gp ps j).y (gp ps k).x (gp ps k).y W (by omega) (by omega) (by omega) (by omega) (by omega) (by omega))
        have D2 : Hid (∀ W, Calls Tryz.prog 165 #[.agg #[.int .i64 (pX ps j), .int .i64 (pY ps j)], .agg #[.int .i64 (pX ps i), .int .i64 (pY ps i)], .agg #[.int .i64 (pX ps k), .int .i64 (pY ps k)]] W fun e w' => e = .returned (.int .i64 (dtP (gp ps j) (gp ps i) (gp ps k))) ∧ ∃ x, w' = ext W x) := hide (fun W => sdot_any (gp ps j).x (gp ps j).y (gp ps i).x (gp ps i).y (gp ps k).x (gp ps k).y W (by omega) (by omega) (by omega) (by omega) (by omega) (by omega))
        have D3 : Hid (∀ W, Calls Tryz.prog 165 #[.agg #[.int .i64 (pX ps k), .int .i64 (pY ps k)], .agg #[.int .i64 (pX ps i), .int .i64 (pY ps i)], .agg #[.int .i64 (pX ps j), .int .i64 (pY ps j)]] W fun e w' => e = .returned (.int .i64 (dtP (gp ps k) (gp ps i) (gp ps j))) ∧ ∃ x, w' = ext W x) := hide (fun W => sdot_any (gp ps k).x (gp ps k).y (gp ps i).x (gp ps i).y (gp ps j).x (gp ps j).y W (by omega) (by omega) (by omega) (by omega) (by omega) (by omega))
        have RV : Hid (detB ([i, j, k].map (gp ps)) = (decide (trn (gp ps i) (gp ps j) (gp ps k) ≠ 0) && decide (0 < dtP (gp ps i) (gp ps j) (gp ps k)) && decide (0 < dtP (gp ps j) (gp ps i) (gp ps k)) && decide (0 < dtP (gp ps k) (gp ps i) (gp ps j)))) := hide (by
          show acB (gp ps i) (gp ps j) (gp ps k) = _
          unfold acB
          rw [dtP_comm (gp ps j)])
        have iq1 : (0 : Int) ≤ (i : Int) := by omega
        have iq2 : (i : Int) < (n : Int) := by omega
        obtain ⟨ix, iy⟩ := hcs i (by rw [HN.out]; omega)
        have jq1 : (0 : Int) ≤ (j : Int) := by omega
        have jq2 : (j : Int) < (n : Int) := by omega
        obtain ⟨jx, jy⟩ := hcs j (by rw [HN.out]; omega)
        have kq1 : (0 : Int) ≤ (k : Int) := by omega
        have kq2 : (k : Int) < (n : Int) := by omega
        obtain ⟨kx, ky⟩ := hcs k (by rw [HN.out]; omega)
        clear hcs IS HK oi oj ok
        generalize pX ps i = X1 at *
        generalize pY ps i = Y1 at *
        generalize pX ps j = X2 at *
        generalize pY ps j = Y2 at *
        generalize pX ps k = X3 at *
        generalize pY ps k = Y3 at *
        generalize trn (gp ps i) (gp ps j) (gp ps k) = z0 at *
        generalize dtP (gp ps i) (gp ps j) (gp ps k) = z1 at *
        generalize dtP (gp ps j) (gp ps i) (gp ps k) = z2 at *
        generalize dtP (gp ps k) (gp ps i) (gp ps j) = z3 at *
        by_cases e0 : z0 = 0
        · have b0 : (z0 != 0) = false := by simpa using e0
          rw [show decide (z0 ≠ 0) = false by simpa using e0] at RV
          clear e0
          go_wp2_with fail
          refine (SC.out _).mono ?_
          rintro e w' ⟨rfl, hw'⟩; have hzy0 := ext_sz hw'; obtain ⟨y0, rfl⟩ := hw'; (try simp at hzy0)
          go_wp2_with fail
          go_ret
          exact ⟨congrArg (fun z => Ending.returned (.bool z)) RV.out.symm, ext_mk (Below.trans BB.out (Below.mono (show Below wr.heap.size wr _ from (by (repeat' (first | (with_reducible first | exact Below.refl _ _ | assumption | refine below_ext _ ?_ ?_ | refine Below.alloc ?_ ?_ _ | refine Below.drew ?_ | refine below_drewN ?_ _ | refine le_drewN _ ?_ | refine Below.setCell ?_ ?_ _ | exact Nat.le_refl _ | refine le_ext _ ?_ | refine le_alloc _ ?_ | refine le_setCell _ _ ?_ | refine le_drew ?_) | omega | (simp; done) | (simp; omega))))) hsz))⟩
        · have b0 : (z0 != 0) = true := by simpa using e0
          rw [show decide (z0 ≠ 0) = true by simpa using e0] at RV
          clear e0
          by_cases e1 : 0 < z1
          · rw [decide_eq_true e1] at RV
            by_cases e2 : 0 < z2
            · rw [decide_eq_true e2] at RV
              go_wp2_with fail
              refine (SC.out _).mono ?_
              rintro e w' ⟨rfl, hw'⟩; have hzy0 := ext_sz hw'; obtain ⟨y0, rfl⟩ := hw'; (try simp at hzy0)
              go_wp2_with fail
              refine (D1.out _).mono ?_
              rintro e w' ⟨rfl, hw'⟩; have hzy1 := ext_sz hw'; obtain ⟨y1, rfl⟩ := hw'; (try simp at hzy1)
              go_wp2_with fail
              refine (D2.out _).mono ?_
              rintro e w' ⟨rfl, hw'⟩; have hzy2 := ext_sz hw'; obtain ⟨y2, rfl⟩ := hw'; (try simp at hzy2)
              go_wp2_with fail
              refine (D3.out _).mono ?_
              rintro e w' ⟨rfl, hw'⟩; have hzy3 := ext_sz hw'; obtain ⟨y3, rfl⟩ := hw'; (try simp at hzy3)
              go_wp2_with fail
              go_ret
              exact ⟨congrArg (fun z => Ending.returned (.bool z)) RV.out.symm, ext_mk (Below.trans BB.out (Below.mono (show Below wr.heap.size wr _ from (by (repeat' (first | (with_reducible first | exact Below.refl _ _ | assumption | refine below_ext _ ?_ ?_ | refine Below.alloc ?_ ?_ _ | refine Below.drew ?_ | refine below_drewN ?_ _ | refine le_drewN _ ?_ | refine Below.setCell ?_ ?_ _ | exact Nat.le_refl _ | refine le_ext _ ?_ | refine le_alloc _ ?_ | refine le_setCell _ _ ?_ | refine le_drew ?_) | omega | (simp; done) | (simp; omega))))) hsz))⟩
            · rw [decide_eq_false e2] at RV
              go_wp2_with fail
              refine (SC.out _).mono ?_
              rintro e w' ⟨rfl, hw'⟩; have hzy0 := ext_sz hw'; obtain ⟨y0, rfl⟩ := hw'; (try simp at hzy0)
              go_wp2_with fail
              refine (D1.out _).mono ?_
              rintro e w' ⟨rfl, hw'⟩; have hzy1 := ext_sz hw'; obtain ⟨y1, rfl⟩ := hw'; (try simp at hzy1)
              go_wp2_with fail
              refine (D2.out _).mono ?_
              rintro e w' ⟨rfl, hw'⟩; have hzy2 := ext_sz hw'; obtain ⟨y2, rfl⟩ := hw'; (try simp at hzy2)
              go_wp2_with fail
              go_ret
              exact ⟨congrArg (fun z => Ending.returned (.bool z)) RV.out.symm, ext_mk (Below.trans BB.out (Below.mono (show Below wr.heap.size wr _ from (by (repeat' (first | (with_reducible first | exact Below.refl _ _ | assumption | refine below_ext _ ?_ ?_ | refine Below.alloc ?_ ?_ _ | refine Below.drew ?_ | refine below_drewN ?_ _ | refine le_drewN _ ?_ | refine Below.setCell ?_ ?_ _ | exact Nat.le_refl _ | refine le_ext _ ?_ | refine le_alloc _ ?_ | refine le_setCell _ _ ?_ | refine le_drew ?_) | omega | (simp; done) | (simp; omega))))) hsz))⟩
          · rw [decide_eq_false e1] at RV
            go_wp2_with fail
            refine (SC.out _).mono ?_
            rintro e w' ⟨rfl, hw'⟩; have hzy0 := ext_sz hw'; obtain ⟨y0, rfl⟩ := hw'; (try simp at hzy0)
            go_wp2_with fail
            refine (D1.out _).mono ?_
            rintro e w' ⟨rfl, hw'⟩; have hzy1 := ext_sz hw'; obtain ⟨y1, rfl⟩ := hw'; (try simp at hzy1)
            go_wp2_with fail
            go_ret
            exact ⟨congrArg (fun z => Ending.returned (.bool z)) RV.out.symm, ext_mk (Below.trans BB.out (Below.mono (show Below wr.heap.size wr _ from (by (repeat' (first | (with_reducible first | exact Below.refl _ _ | assumption | refine below_ext _ ?_ ?_ | refine Below.alloc ?_ ?_ _ | refine Below.drew ?_ | refine below_drewN ?_ _ | refine le_drewN _ ?_ | refine Below.setCell ?_ ?_ _ | exact Nat.le_refl _ | refine le_ext _ ?_ | refine le_alloc _ ?_ | refine le_setCell _ _ ?_ | refine le_drew ?_) | omega | (simp; done) | (simp; omega))))) hsz))⟩
set_option maxHeartbeats 4000000 in
theorem inSup_any (ps : List Pt) (ks : List Nat) (q : Pt) (A A2 : Option Addr) (n c m c2 : Nat) (w : World) (hn : ps.length = n) (hn2 : n ≤ 1000) (hok : ∀ p ∈ ps, p.ok = true) (hq : q.ok = true) (hm : ks.length = m) (h3 : m = 1 ∨ m = 2 ∨ m = 3) (hk : ∀ k ∈ ks, k < n) (hs : PtsAt w w.heap.size A ps) (hi : IntsAt w w.heap.size A2 (zI ks)) :
    Calls Tryz.prog 166 #[.slice A n c, .slice A2 m c2, .agg #[.int .i64 q.x, .int .i64 q.y]] w fun e w' => e = .returned (.bool (encB (ks.map (gp ps)) q)) ∧ ∃ x, w' = ext w x := by
  have n0 : 0 < n := by
    have : 0 < ks.length := by omega
    have := hk _ (List.getElem_mem this); omega
  have HN := hide hn
  obtain ⟨b, o, rfl, hb, hcs⟩ := hs (by omega)
  have bq := okb hq
  clear hs
  rcases h3 with rfl | rfl | rfl
  · obtain ⟨i, rfl⟩ : ∃ i, ks = [i] := by
      match ks, hm with
      | [i], _ => exact ⟨i, rfl⟩
    obtain ⟨b2, o2, rfl, hb2, c0⟩ := intsAt1 hi
    have hi' := hk i (by simp)
    have RV : Hid (encB ([i].map (gp ps)) q = eqP (pX ps i) (pY ps i) q.x q.y) := hide (by show (decide (gp ps i = q)) = _; rw [eqP_dcd]; rfl)
    have N := @run_eqPt
    have iq1 : (0 : Int) ≤ (i : Int) := by omega
    have iq2 : (i : Int) < (n : Int) := by omega
    obtain ⟨ix, iy⟩ := hcs i (by rw [HN.out]; omega)
    clear hcs hi hk hm hn hok hq bq
    generalize pX ps i = X1 at *
    generalize pY ps i = Y1 at *
    generalize q.x = X2 at *
    generalize q.y = Y2 at *
    go_enter Tryz.func166, Tryz.ntmps166
    go_wp2_with fail
    go_ret
    exact ⟨congrArg (fun z => Ending.returned (.bool z)) RV.out.symm, (ext_mk (by (repeat' (first | (with_reducible first | exact Below.refl _ _ | assumption | refine below_ext _ ?_ ?_ | refine Below.alloc ?_ ?_ _ | refine Below.drew ?_ | refine below_drewN ?_ _ | refine le_drewN _ ?_ | refine Below.setCell ?_ ?_ _ | exact Nat.le_refl _ | refine le_ext _ ?_ | refine le_alloc _ ?_ | refine le_setCell _ _ ?_ | refine le_drew ?_) | omega | (simp; done) | (simp; omega)))))⟩
  · obtain ⟨i, j, rfl⟩ : ∃ i j, ks = [i, j] := by
      match ks, hm with
      | [i, j], _ => exact ⟨i, j, rfl⟩
    obtain ⟨b2, o2, rfl, hb2, c0, c1⟩ := intsAt2 hi
    have hi' := hk i (by simp)
    have hj' := hk j (by simp)
    have oi := okb (hok _ (gp_mem (show i < ps.length by omega)))
    have oj := okb (hok _ (gp_mem (show j < ps.length by omega)))
    have D1 : Hid (∀ W, Calls Tryz.prog 165 #[.agg #[.int .i64 q.x, .int .i64 q.y], .agg #[.int .i64 (pX ps i), .int .i64 (pY ps i)], .agg #[.int .i64 (pX ps j), .int .i64 (pY ps j)]] W fun e w' => e = .returned (.int .i64 ((pX ps i - q.x) * (pX ps j - q.x) + (pY ps i - q.y) * (pY ps j - q.y))) ∧ ∃ x, w' = ext W x) := hide (fun W => sdot_any q.x q.y (gp ps i).x (gp ps i).y (gp ps j).x (gp ps j).y W (by omega) (by omega) (by omega) (by omega) (by omega) (by omega))
    have RV : Hid (encB ([i, j].map (gp ps)) q = decide ((pX ps i - q.x) * (pX ps j - q.x) + (pY ps i - q.y) * (pY ps j - q.y) ≤ 0)) := hide rfl
    have iq1 : (0 : Int) ≤ (i : Int) := by omega
    have iq2 : (i : Int) < (n : Int) := by omega
    obtain ⟨ix, iy⟩ := hcs i (by rw [HN.out]; omega)
    have jq1 : (0 : Int) ≤ (j : Int) := by omega
    have jq2 : (j : Int) < (n : Int) := by omega
    obtain ⟨jx, jy⟩ := hcs j (by rw [HN.out]; omega)
    clear hcs hi hk hm hn hok hq bq oi oj
    generalize (pX ps i - q.x) * (pX ps j - q.x) + (pY ps i - q.y) * (pY ps j - q.y) = z at *
    generalize pX ps i = X1 at *
    generalize pY ps i = Y1 at *
    generalize pX ps j = X2 at *
    generalize pY ps j = Y2 at *
    generalize q.x = X3 at *
    generalize q.y = Y3 at *
    go_enter Tryz.func166, Tryz.ntmps166
    go_wp2_with fail
    refine wp_region_ext (by kernel_rfl) (by kernel_rfl) ?_
    repeat (go_big_quiet_step ((first | (go_at_call 165; exact Calls.in_ext (D1.out _)))))
    refine wpQuiet_nil ?_
    rintro _ hnq
    have hzq := ext_sz hnq
    obtain ⟨nq, rfl⟩ := hnq
    (try simp at hzq)
    go_wp2_with fail
    go_ret
    exact ⟨congrArg (fun z => Ending.returned (.bool z)) RV.out.symm, (ext_mk (by (repeat' (first | (with_reducible first | exact Below.refl _ _ | assumption | refine below_ext _ ?_ ?_ | refine Below.alloc ?_ ?_ _ | refine Below.drew ?_ | refine below_drewN ?_ _ | refine le_drewN _ ?_ | refine Below.setCell ?_ ?_ _ | exact Nat.le_refl _ | refine le_ext _ ?_ | refine le_alloc _ ?_ | refine le_setCell _ _ ?_ | refine le_drew ?_) | omega | (simp; done) | (simp; omega)))))⟩
  · obtain ⟨i, j, k, rfl⟩ : ∃ i j k, ks = [i, j, k] := by
      match ks, hm with
      | [i, j, k], _ => exact ⟨i, j, k, rfl⟩
    obtain ⟨b2, o2, rfl, hb2, c0, c1, c3⟩ := intsAt3 hi
    have hi' := hk i (by simp)
    have hj' := hk j (by simp)
    have hk' := hk k (by simp)
    have oi := hok _ (gp_mem (show i < ps.length by omega))
    have oj := hok _ (gp_mem (show j < ps.length by omega))
    have ok := hok _ (gp_mem (show k < ps.length by omega))
    have pi := okb oi
    have pj := okb oj
    have pk := okb ok
    have CI : Hid (∀ W, Calls Tryz.prog 209 #[.agg #[.int .i64 (pX ps i), .int .i64 (pY ps i)], .agg #[.int .i64 (pX ps j), .int .i64 (pY ps j)], .agg #[.int .i64 (pX ps k), .int .i64 (pY ps k)], .agg #[.int .i64 q.x, .int .i64 q.y]] W fun e w' => e = .returned (.int .i64 (sgn (icD (gp ps i) (gp ps j) (gp ps k) q))) ∧ ∃ x, w' = ext W x) := hide (fun W => sCircle_any (gp ps i) (gp ps j) (gp ps k) q W oi oj ok hq)
    have SC : Hid (∀ W, Calls Tryz.prog 164 #[.agg #[.int .i64 (pX ps i), .int .i64 (pY ps i)], .agg #[.int .i64 (pX ps j), .int .i64 (pY ps j)], .agg #[.int .i64 (pX ps k), .int .i64 (pY ps k)]] W fun e w' => e = .returned (.int .i64 (trn (gp ps i) (gp ps j) (gp ps k))) ∧ ∃ x, w' = ext W x) := hide (fun W => scross_any (gp ps i).x (gp ps i).y (gp ps j).x (gp ps j).y (gp ps k).x (gp ps k).y W (by omega) (by omega) (by omega) (by omega) (by omega) (by omega))
    have SG := hide ssign_any
    have RV : Hid (encB ([i, j, k].map (gp ps)) q = decide (0 ≤ sgn (icD (gp ps i) (gp ps j) (gp ps k) q) * sgn (trn (gp ps i) (gp ps j) (gp ps k)))) := hide rfl
    have s1 : -1 ≤ sgn (icD (gp ps i) (gp ps j) (gp ps k) q) ∧ sgn (icD (gp ps i) (gp ps j) (gp ps k) q) ≤ 1 := sgn_bd _
    have s2 : -1 ≤ sgn (trn (gp ps i) (gp ps j) (gp ps k)) ∧ sgn (trn (gp ps i) (gp ps j) (gp ps k)) ≤ 1 := sgn_bd _
    have s3 := mul_bd (M := 1) (N := 1) s1 s2
    have iq1 : (0 : Int) ≤ (i : Int) := by omega
    have iq2 : (i : Int) < (n : Int) := by omega
    obtain ⟨ix, iy⟩ := hcs i (by rw [HN.out]; omega)
    have jq1 : (0 : Int) ≤ (j : Int) := by omega
    have jq2 : (j : Int) < (n : Int) := by omega
    obtain ⟨jx, jy⟩ := hcs j (by rw [HN.out]; omega)
    have kq1 : (0 : Int) ≤ (k : Int) := by omega
    have kq2 : (k : Int) < (n : Int) := by omega
    obtain ⟨kx, ky⟩ := hcs k (by rw [HN.out]; omega)
    clear hcs hi hk hm hn hok hq bq oi oj ok pi pj pk
    generalize trn (gp ps i) (gp ps j) (gp ps k) = z0 at *
    generalize sgn (icD (gp ps i) (gp ps j) (gp ps k) q) = z1 at *
    generalize pX ps i = X1 at *
    generalize pY ps i = Y1 at *
    generalize pX ps j = X2 at *
    generalize pY ps j = Y2 at *
    generalize pX ps k = X3 at *
    generalize pY ps k = Y3 at *
    generalize q.x = X4 at *
    generalize q.y = Y4 at *
    go_enter Tryz.func166, Tryz.ntmps166
    go_wp2_with fail
    refine wp_region_ext (by kernel_rfl) (by kernel_rfl) ?_
    repeat (go_big_quiet_step ((first | (go_at_call 209; exact Calls.in_ext (CI.out _)) | (go_at_call 164; exact Calls.in_ext (SC.out _)) | (go_at_call 169; exact Calls.in_ext (SG.out _ _)))))
    refine wpQuiet_nil ?_
    rintro _ hnq
    have hzq := ext_sz hnq
    obtain ⟨nq, rfl⟩ := hnq
    (try simp at hzq)
    go_wp2_with fail
    go_ret
    exact ⟨congrArg (fun z => Ending.returned (.bool z)) RV.out.symm, (ext_mk (by (repeat' (first | (with_reducible first | exact Below.refl _ _ | assumption | refine below_ext _ ?_ ?_ | refine Below.alloc ?_ ?_ _ | refine Below.drew ?_ | refine below_drewN ?_ _ | refine le_drewN _ ?_ | refine Below.setCell ?_ ?_ _ | exact Nat.le_refl _ | refine le_ext _ ?_ | refine le_alloc _ ?_ | refine le_setCell _ _ ?_ | refine le_drew ?_) | omega | (simp; done) | (simp; omega)))))⟩
set_option maxHeartbeats 4000000 in
theorem sEnc_any' (ps : List Pt) (ks : List Nat) (A A2 : Option Addr) (n c m c2 : Nat) (w : World) (hn : ps.length = n) (hn2 : n ≤ 1000) (hok : ∀ p ∈ ps, p.ok = true) (hm : ks.length = m) (h3 : m = 1 ∨ m = 2 ∨ m = 3) (hk : ∀ k ∈ ks, k < n) (hs : PtsAt w w.heap.size A ps) (hi : IntsAt w w.heap.size A2 (zI ks)) :
    Calls Tryz.prog 114 #[.slice A n c, .slice A2 m c2] w fun e w' => e = .returned (.bool (!((List.range n).any fun i => !encB (ks.map (gp ps)) (gp ps i)))) ∧ ∃ x, w' = ext w x := by
  have HN := hide hn
  have HS := hide hs
  have IN := hide (fun (k : Nat) (W : World) (hb : Below w.heap.size w W) (hk' : k < n) => inSup_any ps ks (gp ps k) A A2 n c m c2 W hn hn2 hok (hok _ (gp_mem (by omega))) hm h3 hk (hs.to hb) (hi.to hb))
  clear hn hok hm hk hs hi
  generalize ks.map (gp ps) = ss at *
  go_enter Tryz.func114, Tryz.ntmps114
  go_wp2_with fail
  go_loopw [5] (fun u5 wr => ∃ t : Nat, t ≤ n ∧ u5 = .int .i64 t ∧ Hid (∀ j, j < t → encB ss (gp ps j) = true) ∧ Below w.heap.size w wr) (fun u5 _ => n - (intOf u5).toNat)
  case atStart => exact ⟨0, Nat.zero_le _, rfl, hide (fun j hj => by omega), Below.refl _ _⟩
  case round =>
    obtain ⟨t, ht, rfl, HA, hbel⟩ := hrel
    have hsz := hbel.size
    by_cases hlt : t < n
    · have INk : Hid (Calls Tryz.prog 166 #[.slice A n c, .slice A2 m c2, .agg #[.int .i64 (pX ps t), .int .i64 (pY ps t)]] wr fun e w' => e = .returned (.bool (encB ss (gp ps t))) ∧ ∃ x, w' = ext wr x) := hide (IN.out t wr hbel hlt)
      obtain ⟨b, o, rfl, hb, hcs⟩ := HS.out (by rw [HN.out]; omega)
      have gx := (hbel.cell (p := ⟨b, o + t * 2, none⟩) hb).trans (hcs t (by rw [HN.out]; omega)).1
      have gy := (hbel.cell (p := ⟨b, o + t * 2 + 1, none⟩) hb).trans (hcs t (by rw [HN.out]; omega)).2
      have q1 : (t : Int) < (n : Int) := by omega
      clear hcs IN HS
      generalize pX ps t = X at *
      generalize pY ps t = Y at *
      cases he : encB ss (gp ps t)
      · have RV : Hid ((!((List.range n).any fun i => !encB ss (gp ps i))) = false) := hide (by
          rw [Bool.not_eq_false', List.any_eq_true]
          exact ⟨t, List.mem_range.2 hlt, by rw [he]; rfl⟩)
        rw [he] at INk
        clear he
        go_wp2_with fail
        refine INk.out.mono ?_
        rintro e w' ⟨rfl, hw'⟩; have hzy := ext_sz hw'; obtain ⟨y, rfl⟩ := hw'; (try simp at hzy)
        go_wp2_with fail
        go_ret
        exact ⟨congrArg (fun z => Ending.returned (.bool z)) RV.out.symm, ext_mk (Below.trans hbel (Below.mono (show Below wr.heap.size wr _ from (by (repeat' (first | (with_reducible first | exact Below.refl _ _ | assumption | refine below_ext _ ?_ ?_ | refine Below.alloc ?_ ?_ _ | refine Below.drew ?_ | refine below_drewN ?_ _ | refine le_drewN _ ?_ | refine Below.setCell ?_ ?_ _ | exact Nat.le_refl _ | refine le_ext _ ?_ | refine le_alloc _ ?_ | refine le_setCell _ _ ?_ | refine le_drew ?_) | omega | (simp; done) | (simp; omega))))) hsz))⟩
      · have HA2 : Hid (∀ j, j < t + 1 → encB ss (gp ps j) = true) := hide (fun j hj => by
          by_cases e : j = t
          · rw [e]; exact he
          · exact HA.out j (by omega))
        rw [he] at INk
        clear he
        go_wp2_with fail
        refine INk.out.mono ?_
        rintro e w' ⟨rfl, hw'⟩; have hzy := ext_sz hw'; obtain ⟨y, rfl⟩ := hw'; (try simp at hzy)
        go_wp2_with fail
        exact ⟨⟨t + 1, by omega, by go_num, HA2, Below.trans hbel (by (repeat' (first | (with_reducible first | exact Below.refl _ _ | assumption | refine below_ext _ ?_ ?_ | refine Below.alloc ?_ ?_ _ | refine Below.drew ?_ | refine below_drewN ?_ _ | refine le_drewN _ ?_ | refine Below.setCell ?_ ?_ _ | exact Nat.le_refl _ | refine le_ext _ ?_ | refine le_alloc _ ?_ | refine le_setCell _ _ ?_ | refine le_drew ?_) | omega | (simp; done) | (simp; omega))))⟩, by simp [intOf]; omega⟩
    · have e : t = n := by omega
      have RV : Hid ((!((List.range n).any fun i => !encB ss (gp ps i))) = true) := hide (by
        rw [Bool.not_eq_true', List.any_eq_false]
        intro j hj
        rw [HA.out j (by rw [e]; exact List.mem_range.1 hj)]; simp)
      clear e HA IN HS
      go_wp2_with fail
      go_ret
      exact ⟨congrArg (fun z => Ending.returned (.bool z)) RV.out.symm, ext_mk hbel⟩
end Go.Proofs.YtnddfdhfefconaaGreatDoor
