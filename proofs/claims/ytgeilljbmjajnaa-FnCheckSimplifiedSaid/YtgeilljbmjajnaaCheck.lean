
/- CheckSimplified, of the program and of the reference. -/
import Derived.Test.YtgeilljbmjajnaaPath
import Derived.Test.YtgeilljbmjajnaaSeg
import Derived.Test.YtgeilljbmjajnaaCmp
set_option linter.unusedVariables false
set_option linter.unusedSimpArgs false
namespace Go.Proofs.Ytgeilljbmjajnaa
open Go.RowKit

theorem sq_nn (a : Int) : 0 ≤ a * a := by
  rcases Int.le_total 0 a with h | h
  · exact Int.mul_nonneg h h
  · have := Int.mul_nonneg (a := -a) (b := -a) (by omega) (by omega); rwa [Int.neg_mul_neg] at this
theorem sq_pos {a : Int} (h : a ≠ 0) : 1 ≤ a * a := by
  rcases Int.lt_trichotomy a 0 with h1 | h1 | h1
  · have := Int.mul_pos (a := -a) (b := -a) (by omega) (by omega); rw [Int.neg_mul_neg] at this; omega
  · exact absurd h1 h
  · have := Int.mul_pos h1 h1; omega
def inR (p : Pt) : Prop := (-1000 ≤ p.x ∧ p.x ≤ 1000) ∧ (-1000 ≤ p.y ∧ p.y ≤ 1000)
theorem inR_ok {ps : List Pt} (h : allOk ps = true) {i : Nat} (hi : i < ps.length) : inR (gp ps i) := by
  obtain ⟨h1, h2, h3, h4⟩ := allOk_at h hi
  exact ⟨⟨h1, h2⟩, ⟨h3, h4⟩⟩
theorem dst_bd {a b : Pt} (ha : inR a) (hb : inR b) : 0 ≤ dst a b ∧ dst a b ≤ 8000000 := by
  have m1 := mul_bd (sub_bd hb.1 ha.1) (sub_bd hb.1 ha.1)
  have m2 := mul_bd (sub_bd hb.2 ha.2) (sub_bd hb.2 ha.2)
  have s1 := sq_nn (b.x - a.x)
  have s2 := sq_nn (b.y - a.y)
  unfold dst; constructor <;> omega
theorem trn_bd {a b c : Pt} (ha : inR a) (hb : inR b) (hc : inR c) : -8000000 ≤ trn a b c ∧ trn a b c ≤ 8000000 := by
  have m1 := mul_bd (sub_bd hb.1 ha.1) (sub_bd hc.2 ha.2)
  have m2 := mul_bd (sub_bd hb.2 ha.2) (sub_bd hc.1 ha.1)
  unfold trn; constructor <;> omega
theorem devN_bd {a b p : Pt} (ha : inR a) (hb : inR b) (hp : inR p) : 0 ≤ devN a b p ∧ devN a b p ≤ 64000000000000 := by
  unfold devN
  split
  · have := dst_bd ha hp; omega
  · split
    · have := dst_bd hb hp; omega
    · have := mul_bd (trn_bd ha hb hp) (trn_bd ha hb hp); have := sq_nn (trn a b p); omega
theorem dst_pos {a b : Pt} (h : a ≠ b) : 1 ≤ dst a b := by
  have s1 := sq_nn (b.x - a.x)
  have s2 := sq_nn (b.y - a.y)
  unfold dst
  by_cases hx : b.x - a.x = 0
  · have hy : b.y - a.y ≠ 0 := fun hy => h (by cases a; cases b; simp at *; omega)
    have := sq_pos hy; omega
  · have := sq_pos hx; omega
theorem devD_bd {a b p : Pt} (ha : inR a) (hb : inR b) : 1 ≤ devD a b p ∧ devD a b p ≤ 8000000 := by
  unfold devD
  split
  · omega
  · rename_i h1
    split
    · omega
    · have := dst_bd ha hb
      have hab : a ≠ b := fun e => h1 (by subst e; unfold inn; simp)
      have := dst_pos hab; omega

/-- Point p lies farther than most from the segment a b. -/
def over (most : Int) (a b p : Pt) : Bool := decide (most * devD a b p < devN a b p)
theorem over_cmp (most : Int) (a b p : Pt) : decide (0 < cmpF (devN a b p) (devD a b p) most 1) = over most a b p := by
  unfold cmpF over sgn
  rw [Int.mul_one, Bool.eq_iff_iff, decide_eq_true_iff, decide_eq_true_iff]
  split
  · constructor <;> intro <;> omega
  · split <;> constructor <;> intro <;> omega
set_option maxHeartbeats 400000 in
theorem closure_any (a b c d e f most : Int) (bs bm : Nat) (w : World) (ha : -1000 ≤ a ∧ a ≤ 1000) (hb : -1000 ≤ b ∧ b ≤ 1000) (hc : -1000 ≤ c ∧ c ≤ 1000) (hd : -1000 ≤ d ∧ d ≤ 1000) (he : -1000 ≤ e ∧ e ≤ 1000) (hf : -1000 ≤ f ∧ f ≤ 1000) (hm : 0 ≤ most ∧ most ≤ 8000000)
    (s0 : w.cell? ⟨bs, 0, none⟩ = some (.int .i64 a)) (s1 : w.cell? ⟨bs, 1, none⟩ = some (.int .i64 b)) (s2 : w.cell? ⟨bs, 2, none⟩ = some (.int .i64 c)) (s3 : w.cell? ⟨bs, 3, none⟩ = some (.int .i64 d)) (sm : w.cell? ⟨bm, 0, none⟩ = some (.int .i64 most)) :
    Calls Try.prog 41 #[.agg #[.int .i64 e, .int .i64 f], .pointer (some ⟨bs, 0, none⟩), .pointer (some ⟨bm, 0, none⟩)] w fun r w' => r = .returned (.bool (over most ⟨a, b⟩ ⟨c, d⟩ ⟨e, f⟩)) ∧ ∃ n, w' = ext w n := by
  have HC := hide (over_cmp most ⟨a, b⟩ ⟨c, d⟩ ⟨e, f⟩)
  have n1 := devN_bd (a := ⟨a, b⟩) (b := ⟨c, d⟩) (p := ⟨e, f⟩) ⟨ha, hb⟩ ⟨hc, hd⟩ ⟨he, hf⟩
  have n2 := devD_bd (a := ⟨a, b⟩) (b := ⟨c, d⟩) (p := ⟨e, f⟩) ⟨ha, hb⟩ ⟨hc, hd⟩
  have l1 : bs < w.heap.size := World.block_lt_of_cell? w _ s0
  have l2 : bm < w.heap.size := World.block_lt_of_cell? w _ sm
  have HA := hide (fun w => away_any a b c d e f w ha hb hc hd he hf)
  generalize devN ⟨a, b⟩ ⟨c, d⟩ ⟨e, f⟩ = N at *
  generalize devD ⟨a, b⟩ ⟨c, d⟩ ⟨e, f⟩ = D at *
  go_enter Try.func41, Try.ntmps41
  go_wp2
  refine wp_region_ext (by kernel_rfl) (by kernel_rfl) ?_
  repeat (go_big_quiet_step ((first | (go_at_call 42; exact Calls.in_ext (HA.out _)) | (go_at_call 43; exact Calls.in_ext (compare_any _ _ _ _ _ (by omega) (by omega) (by omega) (by omega))))))
  refine wpQuiet_nil ?_
  rintro _ hnq
  have hzq := ext_sz hnq
  obtain ⟨nq, rfl⟩ := hnq
  (try simp at hzq)
  go_wp2
  go_ret
  exact ⟨ret_bool HC.out, (ext_mk (by (repeat' (first | (with_reducible exact Below.refl _ _) | (with_reducible assumption) | (with_reducible refine below_ext _ ?_ ?_) | (with_reducible refine Below.alloc ?_ ?_ _) | (with_reducible refine Below.drew ?_) | (with_reducible refine below_drewN ?_ _) | (with_reducible refine le_drewN _ ?_) | (with_reducible refine Below.setCell ?_ ?_ _) | (with_reducible exact Nat.le_refl _) | (with_reducible refine le_ext _ ?_) | (with_reducible refine le_alloc _ ?_) | (with_reducible refine le_setCell _ _ ?_) | (with_reducible refine le_drew ?_) | omega | (simp; done) | (simp; omega)))))⟩
def spanOk (ps : List Pt) (most : Int) (f t : Nat) : Bool := !((List.range (t - (f + 1))).any fun i => over most (gp ps f) (gp ps t) (gp ps (f + 1 + i)))
/-- Step i of the check: the indices ascend and lie inside, and no point between them is over. -/
def stepOk (ps : List Pt) (most : Int) (zs : List Int) (i : Nat) : Bool := inB (gi zs i) (gi zs (i - 1) + 1) (ps.length - 1) && spanOk ps most (gi zs (i - 1)).toNat (gi zs i).toNat
def checkOk (ps : List Pt) (most : Int) (zs : List Int) : Bool :=
  pathOk ps && (inB most 0 8000000 && (decide (2 ≤ zs.length) && (decide (gi zs 0 = 0) && (decide (gi zs (zs.length - 1) = ps.length - 1) && decide (∀ i, i < zs.length → 1 ≤ i → stepOk ps most zs i = true)))))
theorem checkOk_1 {ps : List Pt} {most : Int} {zs : List Int} (h : pathOk ps = false) : checkOk ps most zs = false := by unfold checkOk; rw [h]; rfl
theorem checkOk_2 {ps : List Pt} {most : Int} {zs : List Int} (h : inB most 0 8000000 = false) : checkOk ps most zs = false := by unfold checkOk; rw [h]; simp
theorem checkOk_3 {ps : List Pt} {most : Int} {zs : List Int} (h : ¬ 2 ≤ zs.length) : checkOk ps most zs = false := by unfold checkOk; simp [h]
theorem checkOk_4 {ps : List Pt} {most : Int} {zs : List Int} (h : ¬ gi zs 0 = 0) : checkOk ps most zs = false := by unfold checkOk; simp [h]
theorem checkOk_5 {ps : List Pt} {most : Int} {zs : List Int} (h : ¬ gi zs (zs.length - 1) = ps.length - 1) : checkOk ps most zs = false := by unfold checkOk; simp [h]
theorem checkOk_6 {ps : List Pt} {most : Int} {zs : List Int} {i : Nat} (hi : i < zs.length) (h1 : 1 ≤ i) (h : stepOk ps most zs i = false) : checkOk ps most zs = false := by
  have : decide (∀ i, i < zs.length → 1 ≤ i → stepOk ps most zs i = true) = false := decide_eq_false (fun hh => by rw [hh i hi h1] at h; cases h)
  unfold checkOk; rw [this]; simp
theorem checkOk_7 {ps : List Pt} {most : Int} {zs : List Int} (h1 : pathOk ps = true) (h2 : inB most 0 8000000 = true) (h3 : 2 ≤ zs.length) (h4 : gi zs 0 = 0) (h5 : gi zs (zs.length - 1) = ps.length - 1)
    (h : ∀ i, i < zs.length → 1 ≤ i → stepOk ps most zs i = true) : checkOk ps most zs = true := by
  have : decide (∀ i, i < zs.length → 1 ≤ i → stepOk ps most zs i = true) = true := decide_eq_true h
  unfold checkOk; rw [this, h1, h2]; simp [h3, h4, h5]
theorem step_bd {ps : List Pt} {most : Int} {zs : List Int} (h0 : gi zs 0 = 0) (hn : 0 < ps.length) : ∀ (k : Nat), (∀ j, j < k → 1 ≤ j → stepOk ps most zs j = true) → ∀ j, j < k → 0 ≤ gi zs j ∧ gi zs j ≤ ps.length - 1
  | 0, _, j, hj => by omega
  | k + 1, h, j, hj => by
    by_cases hj0 : j = 0
    · subst hj0; rw [h0]; omega
    · have h1 := h j hj (by omega)
      unfold stepOk at h1
      rw [Bool.and_eq_true, inB_iff] at h1
      have h2 := step_bd h0 hn k (fun i hi hi1 => h i (by omega) hi1) (j - 1) (by omega)
      omega
set_option maxHeartbeats 400000 in
theorem squareOk_any (a : Int) (w : World) : Calls Try.prog 38 #[.int .i64 a] w fun e w' => e = .returned (.bool (inB a 0 8000000)) ∧ w = w' := by
  go_enter Try.func38, Try.ntmps38
  go_wp2_with (go_at_call 39; refine (within_any _ _ _ _).mono ?_; rintro e w' ⟨rfl, rfl⟩)
  go_ret
  exact ⟨rfl, rfl⟩
set_option maxHeartbeats 1000000 in
theorem iCheck_no (ps : List Pt) (most : Int) (zs : List Int) (A A' : Option Addr) (n c m c' : Nat) (w : World) (hn : ps.length = n) (hz : zs.length = m) (hm : n ≤ 2000000) (hm' : m ≤ 2000000) (hs : PtsAt w w.heap.size A ps) (hi : IntsAt w w.heap.size A' zs)
    (h : pathOk ps = false ∨ inB most 0 8000000 = false ∨ ¬ 2 ≤ zs.length ∨ ¬ gi zs 0 = 0 ∨ ¬ gi zs (zs.length - 1) = ps.length - 1) :
    Calls Try.prog 18 #[.slice A n c, .int .i64 most, .slice A' m c'] w fun e w' => e = .returned (.bool false) ∧ ∃ x, w' = ext w x := by
  cases h1 : pathOk ps
  · go_enter Try.func18, Try.ntmps18
    go_wp2_with (go_at_call 37; refine (pathOk_any ps _ _ _ _ hn hm (hs.to (by (repeat' (first | (with_reducible exact Below.refl _ _) | (with_reducible assumption) | (with_reducible refine below_ext _ ?_ ?_) | (with_reducible refine Below.alloc ?_ ?_ _) | (with_reducible refine Below.drew ?_) | (with_reducible refine below_drewN ?_ _) | (with_reducible refine le_drewN _ ?_) | (with_reducible refine Below.setCell ?_ ?_ _) | (with_reducible exact Nat.le_refl _) | (with_reducible refine le_ext _ ?_) | (with_reducible refine le_alloc _ ?_) | (with_reducible refine le_setCell _ _ ?_) | (with_reducible refine le_drew ?_) | omega | (simp; done) | (simp; omega)))))).mono ?_; rintro e w' ⟨rfl, hw'⟩; have hzy := ext_sz hw'; obtain ⟨y, rfl⟩ := hw'; (try simp at hzy))
    go_ret
    exact ⟨rfl, (ext_mk (by (repeat' (first | (with_reducible exact Below.refl _ _) | (with_reducible assumption) | (with_reducible refine below_ext _ ?_ ?_) | (with_reducible refine Below.alloc ?_ ?_ _) | (with_reducible refine Below.drew ?_) | (with_reducible refine below_drewN ?_ _) | (with_reducible refine le_drewN _ ?_) | (with_reducible refine Below.setCell ?_ ?_ _) | (with_reducible exact Nat.le_refl _) | (with_reducible refine le_ext _ ?_) | (with_reducible refine le_alloc _ ?_) | (with_reducible refine le_setCell _ _ ?_) | (with_reducible refine le_drew ?_) | omega | (simp; done) | (simp; omega)))))⟩
  cases h2 : inB most 0 8000000
  · go_enter Try.func18, Try.ntmps18
    go_wp2_with (first | (go_at_call 37; refine (pathOk_any ps _ _ _ _ hn hm (hs.to (by (repeat' (first | (with_reducible exact Below.refl _ _) | (with_reducible assumption) | (with_reducible refine below_ext _ ?_ ?_) | (with_reducible refine Below.alloc ?_ ?_ _) | (with_reducible refine Below.drew ?_) | (with_reducible refine below_drewN ?_ _) | (with_reducible refine le_drewN _ ?_) | (with_reducible refine Below.setCell ?_ ?_ _) | (with_reducible exact Nat.le_refl _) | (with_reducible refine le_ext _ ?_) | (with_reducible refine le_alloc _ ?_) | (with_reducible refine le_setCell _ _ ?_) | (with_reducible refine le_drew ?_) | omega | (simp; done) | (simp; omega)))))).mono ?_; rintro e w' ⟨rfl, hw'⟩; have hzy := ext_sz hw'; obtain ⟨y, rfl⟩ := hw'; (try simp at hzy)) | (go_at_call 38; refine (squareOk_any _ _).mono ?_; rintro e w' ⟨rfl, rfl⟩))
    go_ret
    exact ⟨rfl, (ext_mk (by (repeat' (first | (with_reducible exact Below.refl _ _) | (with_reducible assumption) | (with_reducible refine below_ext _ ?_ ?_) | (with_reducible refine Below.alloc ?_ ?_ _) | (with_reducible refine Below.drew ?_) | (with_reducible refine below_drewN ?_ _) | (with_reducible refine le_drewN _ ?_) | (with_reducible refine Below.setCell ?_ ?_ _) | (with_reducible exact Nat.le_refl _) | (with_reducible refine le_ext _ ?_) | (with_reducible refine le_alloc _ ?_) | (with_reducible refine le_setCell _ _ ?_) | (with_reducible refine le_drew ?_) | omega | (simp; done) | (simp; omega)))))⟩
  by_cases h3 : m < 2
  · go_enter Try.func18, Try.ntmps18
    go_wp2_with (first | (go_at_call 37; refine (pathOk_any ps _ _ _ _ hn hm (hs.to (by (repeat' (first | (with_reducible exact Below.refl _ _) | (with_reducible assumption) | (with_reducible refine below_ext _ ?_ ?_) | (with_reducible refine Below.alloc ?_ ?_ _) | (with_reducible refine Below.drew ?_) | (with_reducible refine below_drewN ?_ _) | (with_reducible refine le_drewN _ ?_) | (with_reducible refine Below.setCell ?_ ?_ _) | (with_reducible exact Nat.le_refl _) | (with_reducible refine le_ext _ ?_) | (with_reducible refine le_alloc _ ?_) | (with_reducible refine le_setCell _ _ ?_) | (with_reducible refine le_drew ?_) | omega | (simp; done) | (simp; omega)))))).mono ?_; rintro e w' ⟨rfl, hw'⟩; have hzy := ext_sz hw'; obtain ⟨y, rfl⟩ := hw'; (try simp at hzy)) | (go_at_call 38; refine (squareOk_any _ _).mono ?_; rintro e w' ⟨rfl, rfl⟩))
    go_ret
    exact ⟨rfl, (ext_mk (by (repeat' (first | (with_reducible exact Below.refl _ _) | (with_reducible assumption) | (with_reducible refine below_ext _ ?_ ?_) | (with_reducible refine Below.alloc ?_ ?_ _) | (with_reducible refine Below.drew ?_) | (with_reducible refine below_drewN ?_ _) | (with_reducible refine le_drewN _ ?_) | (with_reducible refine Below.setCell ?_ ?_ _) | (with_reducible exact Nat.le_refl _) | (with_reducible refine le_ext _ ?_) | (with_reducible refine le_alloc _ ?_) | (with_reducible refine le_setCell _ _ ?_) | (with_reducible refine le_drew ?_) | omega | (simp; done) | (simp; omega)))))⟩
  obtain ⟨b, o, rfl, hb, hc⟩ := hi (by omega)
  have z0 : w.cell? ⟨b, o, none⟩ = some (.int .i64 (gi zs 0)) := hc 0 (by omega)
  have zl := hc (m - 1) (by omega)
  clear hc
  by_cases h4 : gi zs 0 = 0
  · have h5 : ¬ gi zs (m - 1) = (n : Int) - 1 := by
      rw [hz, hn] at h
      rcases h with h | h | h | h | h
      · rw [h1] at h; cases h
      · rw [h2] at h; cases h
      · omega
      · exact absurd h4 h
      · exact h
    have hp := pathOk_len h1
    have h6 : (gi zs (m - 1) != (n : Int) - 1) = true := by simpa using h5
    rw [h4] at z0
    clear h h4 h5
    go_enter Try.func18, Try.ntmps18
    go_wp2_with (first | (go_at_call 37; refine (pathOk_any ps _ _ _ _ hn hm (hs.to (by (repeat' (first | (with_reducible exact Below.refl _ _) | (with_reducible assumption) | (with_reducible refine below_ext _ ?_ ?_) | (with_reducible refine Below.alloc ?_ ?_ _) | (with_reducible refine Below.drew ?_) | (with_reducible refine below_drewN ?_ _) | (with_reducible refine le_drewN _ ?_) | (with_reducible refine Below.setCell ?_ ?_ _) | (with_reducible exact Nat.le_refl _) | (with_reducible refine le_ext _ ?_) | (with_reducible refine le_alloc _ ?_) | (with_reducible refine le_setCell _ _ ?_) | (with_reducible refine le_drew ?_) | omega | (simp; done) | (simp; omega)))))).mono ?_; rintro e w' ⟨rfl, hw'⟩; have hzy := ext_sz hw'; obtain ⟨y, rfl⟩ := hw'; (try simp at hzy)) | (go_at_call 38; refine (squareOk_any _ _).mono ?_; rintro e w' ⟨rfl, rfl⟩))
    go_ret
    exact ⟨rfl, (ext_mk (by (repeat' (first | (with_reducible exact Below.refl _ _) | (with_reducible assumption) | (with_reducible refine below_ext _ ?_ ?_) | (with_reducible refine Below.alloc ?_ ?_ _) | (with_reducible refine Below.drew ?_) | (with_reducible refine below_drewN ?_ _) | (with_reducible refine le_drewN _ ?_) | (with_reducible refine Below.setCell ?_ ?_ _) | (with_reducible exact Nat.le_refl _) | (with_reducible refine le_ext _ ?_) | (with_reducible refine le_alloc _ ?_) | (with_reducible refine le_setCell _ _ ?_) | (with_reducible refine le_drew ?_) | omega | (simp; done) | (simp; omega)))))⟩
  · have h6 : (gi zs 0 != 0) = true := by simpa using h4
    clear h h4
    go_enter Try.func18, Try.ntmps18
    go_wp2_with (first | (go_at_call 37; refine (pathOk_any ps _ _ _ _ hn hm (hs.to (by (repeat' (first | (with_reducible exact Below.refl _ _) | (with_reducible assumption) | (with_reducible refine below_ext _ ?_ ?_) | (with_reducible refine Below.alloc ?_ ?_ _) | (with_reducible refine Below.drew ?_) | (with_reducible refine below_drewN ?_ _) | (with_reducible refine le_drewN _ ?_) | (with_reducible refine Below.setCell ?_ ?_ _) | (with_reducible exact Nat.le_refl _) | (with_reducible refine le_ext _ ?_) | (with_reducible refine le_alloc _ ?_) | (with_reducible refine le_setCell _ _ ?_) | (with_reducible refine le_drew ?_) | omega | (simp; done) | (simp; omega)))))).mono ?_; rintro e w' ⟨rfl, hw'⟩; have hzy := ext_sz hw'; obtain ⟨y, rfl⟩ := hw'; (try simp at hzy)) | (go_at_call 38; refine (squareOk_any _ _).mono ?_; rintro e w' ⟨rfl, rfl⟩))
    go_ret
    exact ⟨rfl, (ext_mk (by (repeat' (first | (with_reducible exact Below.refl _ _) | (with_reducible assumption) | (with_reducible refine below_ext _ ?_ ?_) | (with_reducible refine Below.alloc ?_ ?_ _) | (with_reducible refine Below.drew ?_) | (with_reducible refine below_drewN ?_ _) | (with_reducible refine le_drewN _ ?_) | (with_reducible refine Below.setCell ?_ ?_ _) | (with_reducible exact Nat.le_refl _) | (with_reducible refine le_ext _ ?_) | (with_reducible refine le_alloc _ ?_) | (with_reducible refine le_setCell _ _ ?_) | (with_reducible refine le_drew ?_) | omega | (simp; done) | (simp; omega)))))⟩
set_option maxHeartbeats 2000000 in
theorem iCheck_yes (ps : List Pt) (most : Int) (zs : List Int) (A A' : Option Addr) (n c m c' : Nat) (w : World) (hn : ps.length = n) (hz : zs.length = m) (hm : n ≤ 2000000) (hm' : m ≤ 2000000) (hs : PtsAt w w.heap.size A ps) (hi : IntsAt w w.heap.size A' zs)
    (hcap : n ≤ c) (hcm : c ≤ 9223372036854775807) (h1 : pathOk ps = true) (h2 : inB most 0 8000000 = true) (h3 : 2 ≤ m) (h4 : gi zs 0 = 0) (h5 : gi zs (m - 1) = (n : Int) - 1) :
    Calls Try.prog 18 #[.slice A n c, .int .i64 most, .slice A' m c'] w fun e w' => e = .returned (.bool (checkOk ps most zs)) ∧ ∃ x, w' = ext w x := by
  have hp := pathOk_len h1
  obtain ⟨b, o, rfl, hb, hc⟩ := hi (by omega)
  obtain ⟨pb, po, rfl, hpb, hpc⟩ := hs (by omega)
  have z0 : w.cell? ⟨b, o, none⟩ = some (.int .i64 (gi zs 0)) := hc 0 (by omega)
  have zl := hc (m - 1) (by omega)
  rw [h4] at z0
  rw [h5] at zl
  have H1 := hide h1
  have H4 := hide h4
  have H5 := hide h5
  have HC := hide hc
  have HP := hide hpc
  clear hc hpc h4 h5
  go_enter Try.func18, Try.ntmps18
  go_wp2_with (first | (go_at_call 37; refine (pathOk_any ps _ _ _ _ hn hm (hs.to (by (repeat' (first | (with_reducible exact Below.refl _ _) | (with_reducible assumption) | (with_reducible refine below_ext _ ?_ ?_) | (with_reducible refine Below.alloc ?_ ?_ _) | (with_reducible refine Below.drew ?_) | (with_reducible refine below_drewN ?_ _) | (with_reducible refine le_drewN _ ?_) | (with_reducible refine Below.setCell ?_ ?_ _) | (with_reducible exact Nat.le_refl _) | (with_reducible refine le_ext _ ?_) | (with_reducible refine le_alloc _ ?_) | (with_reducible refine le_setCell _ _ ?_) | (with_reducible refine le_drew ?_) | omega | (simp; done) | (simp; omega)))))).mono ?_; rintro e w' ⟨rfl, hw'⟩; have hzy := ext_sz hw'; obtain ⟨y, rfl⟩ := hw'; (try simp at hzy)) | (go_at_call 38; refine (squareOk_any _ _).mono ?_; rintro e w' ⟨rfl, rfl⟩))
  clear z0 zl
  go_loopw [7] (fun v wr => ∃ k : Nat, 1 ≤ k ∧ k ≤ m ∧ v = .int .i64 k ∧ Hid (∀ j, j < k → 1 ≤ j → stepOk ps most zs j = true) ∧ ∃ x, wr = ext (w.alloc (.cells #[.int .i64 most] 3)) x) (fun v _ => m - (intOf v).toNat)
  case atStart => exact ⟨1, Nat.le_refl _, by omega, rfl, fun j hj h1 => by omega, by exact ⟨_, rfl⟩⟩
  case round =>
    obtain ⟨k, hk1, hk, rfl, hst, x, rfl⟩ := hrel
    have hsz := ext_size (w.alloc (.cells #[.int .i64 most] 3)) x
    simp only [World.size_alloc] at hsz
    by_cases hlt : k < m
    · have hw1 : IntKind.i64.wrap ((k : Int) - 1) = (k : Int) - 1 := IntWalk.i64_in _ (by omega)
      have ht1 : ((k : Int) - 1).toNat = k - 1 := by omega
      have zk := HC.out k (by omega)
      have zk1 := HC.out (k - 1) (by omega)
      obtain ⟨f0, f1⟩ := step_bd H4.out (by omega) k hst.out (k - 1) (by omega)
      obtain ⟨f, hf⟩ := Int.eq_ofNat_of_zero_le f0
      rw [hf] at zk1 f1
      have HF := hide hf
      clear hf f0
      by_cases hin : inB (gi zs k) ((f : Int) + 1) ((n : Int) - 1) = true
      · obtain ⟨t0, t1⟩ := inB_iff.1 hin
        obtain ⟨t, ht⟩ := Int.eq_ofNat_of_zero_le (show 0 ≤ gi zs k by omega)
        have HT := hide ht
        rw [ht] at zk t0 t1 hin
        obtain ⟨p1, p2⟩ := HP.out f (by omega)
        obtain ⟨q1, q2⟩ := HP.out t (by omega)
        clear ht
        go_wp2
        refine wp_region_ext (by kernel_rfl) (by kernel_rfl) ?_
        repeat (go_big_quiet_step (fail))
        refine wpQuiet_nil ?_
        rintro _ hnq
        have hzq := ext_sz hnq
        obtain ⟨nq, rfl⟩ := hnq
        (try simp at hzq)
        go_wp2_with (go_at_call 39; refine (within_any _ _ _ _).mono ?_; rintro e w' ⟨rfl, rfl⟩)
        have hsp : pathOk ps = true → (List.range (t - (f + 1))).any (fun i => over most (gp ps f) (gp ps t) (gp ps (f + 1 + i))) = !spanOk ps most f t := fun _ => by unfold spanOk; rw [Bool.not_not]
        have HSP := hide (hsp h1)
        have HSO : Hid (stepOk ps most zs k = spanOk ps most f t) := by
          unfold Hid stepOk
          rw [HF.out, HT.out, hn, hin]; simp
        clear hsp
        have b0 : Below w.heap.size w (ext (ext (w.alloc (.cells #[.int .i64 most] 3)) x) nq) := (by (repeat' (first | (with_reducible exact Below.refl _ _) | (with_reducible assumption) | (with_reducible refine below_ext _ ?_ ?_) | (with_reducible refine Below.alloc ?_ ?_ _) | (with_reducible refine Below.drew ?_) | (with_reducible refine below_drewN ?_ _) | (with_reducible refine le_drewN _ ?_) | (with_reducible refine Below.setCell ?_ ?_ _) | (with_reducible exact Nat.le_refl _) | (with_reducible refine le_ext _ ?_) | (with_reducible refine le_alloc _ ?_) | (with_reducible refine le_setCell _ _ ?_) | (with_reducible refine le_drew ?_) | omega | (simp; done) | (simp; omega))))
        have c0 : (ext (ext (w.alloc (.cells #[.int .i64 most] 3)) x) nq).cell? ⟨w.heap.size, 0, none⟩ = some (.int .i64 most) := by simp [go_sem, ↓IntWalk.iteOmega]
        have b1 : ∃ y, ext (ext (w.alloc (.cells #[.int .i64 most] 3)) x) nq = ext (w.alloc (.cells #[.int .i64 most] 3)) y := ext_mk (by (repeat' (first | (with_reducible exact Below.refl _ _) | (with_reducible assumption) | (with_reducible refine below_ext _ ?_ ?_) | (with_reducible refine Below.alloc ?_ ?_ _) | (with_reducible refine Below.drew ?_) | (with_reducible refine below_drewN ?_ _) | (with_reducible refine le_drewN _ ?_) | (with_reducible refine Below.setCell ?_ ?_ _) | (with_reducible exact Nat.le_refl _) | (with_reducible refine le_ext _ ?_) | (with_reducible refine le_alloc _ ?_) | (with_reducible refine le_setCell _ _ ?_) | (with_reducible refine le_drew ?_) | omega | (simp; done) | (simp; omega))))
        have B1 := hide b1
        clear b1
        generalize ext (ext (w.alloc (.cells #[.int .i64 most] 3)) x) nq = W0 at *
        have p1' := (b0.cell (p := ⟨pb, po + f * 2, none⟩) hpb).trans p1
        have p2' := (b0.cell (p := ⟨pb, po + f * 2 + 1, none⟩) hpb).trans p2
        have q1' := (b0.cell (p := ⟨pb, po + t * 2, none⟩) hpb).trans q1
        have q2' := (b0.cell (p := ⟨pb, po + t * 2 + 1, none⟩) hpb).trans q2
        have hz0 : w.heap.size < W0.heap.size := World.block_lt_of_cell? W0 _ c0
        go_region
        go_wp2_with fail
        have hW1 : Below w.heap.size w ((W0.alloc (.cells #[.int .i64 (pX ps f), .int .i64 (pY ps f), .int .i64 (pX ps t), .int .i64 (pY ps t)] 49)).drew) := (by (repeat' (first | (with_reducible exact Below.refl _ _) | (with_reducible assumption) | (with_reducible refine below_ext _ ?_ ?_) | (with_reducible refine Below.alloc ?_ ?_ _) | (with_reducible refine Below.drew ?_) | (with_reducible refine below_drewN ?_ _) | (with_reducible refine le_drewN _ ?_) | (with_reducible refine Below.setCell ?_ ?_ _) | (with_reducible exact Nat.le_refl _) | (with_reducible refine le_ext _ ?_) | (with_reducible refine le_alloc _ ?_) | (with_reducible refine le_setCell _ _ ?_) | (with_reducible refine le_drew ?_) | omega | (simp; done) | (simp; omega))))
        refine (ContainsFunc_any 41 #[.pointer (some ⟨W0.heap.size, 0, none⟩), .pointer (some ⟨w.heap.size, 0, none⟩)] (fun i => over most (gp ps f) (gp ps t) (gp ps (f + 1 + i))) ((ps.drop (f + 1)).take (t - (f + 1))) _ _ _ _
          (by rw [List.length_take, List.length_drop]; omega) (by omega) (enters _ Try.func41 (by kernel_rfl) rfl) (PtsAt.cut (hs.to hW1) (by omega)) ?_).mono ?_
        · intro W i hbW hi'
          have hii : i < t - (f + 1) := by rw [List.length_take, List.length_drop] at hi'; omega
          have hall := listOk_all (pathOk_list H1.out)
          obtain ⟨a1, a2, a3, a4⟩ := allOk_at hall (i := f) (by omega)
          obtain ⟨e1, e2, e3, e4⟩ := allOk_at hall (i := t) (by omega)
          obtain ⟨g1, g2, g3, g4⟩ := allOk_at hall (i := f + 1 + i) (by omega)
          have hx : pX ((ps.drop (f + 1)).take (t - (f + 1))) i = pX ps (f + 1 + i) := by unfold pX; rw [gp_drop_take _ _ _ _ hii]
          have hy : pY ((ps.drop (f + 1)).take (t - (f + 1))) i = pY ps (f + 1 + i) := by unfold pY; rw [gp_drop_take _ _ _ _ hii]
          rw [hx, hy]
          refine closure_any (pX ps f) (pY ps f) (pX ps t) (pY ps t) (pX ps (f + 1 + i)) (pY ps (f + 1 + i)) most W0.heap.size w.heap.size W ⟨a1, a2⟩ ⟨a3, a4⟩ ⟨e1, e2⟩ ⟨e3, e4⟩ ⟨g1, g2⟩ ⟨g3, g4⟩ (by rw [inB_iff] at h2; omega) ?_ ?_ ?_ ?_ ?_
          all_goals
            refine (hbW.cell (by first | (simp; done) | (simp; omega))).trans ?_
            simp [go_sem, ↓IntWalk.iteOmega, c0]
        rintro e w' ⟨rfl, hw'⟩; have hzy := ext_sz hw'; obtain ⟨y, rfl⟩ := hw'; (try simp at hzy)
        rw [HSP.out]
        obtain ⟨yb, hyb⟩ := B1.out
        have hW3 : Below (w.alloc (.cells #[.int .i64 most] 3)).heap.size (w.alloc (.cells #[.int .i64 most] 3)) W0 := by rw [hyb]; exact ext_below _ _
        clear hyb
        have hz1 : w.heap.size + 1 ≤ W0.heap.size := by omega
        cases hso : spanOk ps most f t
        · have HR := hide (checkOk_6 (ps := ps) (most := most) (zs := zs) (i := k) (by omega) hk1 (HSO.out.trans hso))
          go_wp2
          go_ret
          exact ⟨ret_bool HR.out.symm, (ext_mk (by (repeat' (first | (with_reducible exact Below.refl _ _) | (with_reducible assumption) | (with_reducible refine below_ext _ ?_ ?_) | (with_reducible refine Below.alloc ?_ ?_ _) | (with_reducible refine Below.drew ?_) | (with_reducible refine below_drewN ?_ _) | (with_reducible refine le_drewN _ ?_) | (with_reducible refine Below.setCell ?_ ?_ _) | (with_reducible exact Nat.le_refl _) | (with_reducible refine le_ext _ ?_) | (with_reducible refine le_alloc _ ?_) | (with_reducible refine le_setCell _ _ ?_) | (with_reducible refine le_drew ?_) | omega | (simp; done) | (simp; omega)))))⟩
        · have HR := hide (HSO.out.trans hso)
          go_wp2
          exact ⟨⟨k + 1, by omega, by omega, by go_num, fun j hj h1 => by rcases Nat.lt_succ_iff_lt_or_eq.1 hj with h | rfl; exact hst.out j h h1; exact HR.out, (ext_mk (by (repeat' (first | (with_reducible exact Below.refl _ _) | (with_reducible assumption) | (with_reducible refine below_ext _ ?_ ?_) | (with_reducible refine Below.alloc ?_ ?_ _) | (with_reducible refine Below.drew ?_) | (with_reducible refine below_drewN ?_ _) | (with_reducible refine le_drewN _ ?_) | (with_reducible refine Below.setCell ?_ ?_ _) | (with_reducible exact Nat.le_refl _) | (with_reducible refine le_ext _ ?_) | (with_reducible refine le_alloc _ ?_) | (with_reducible refine le_setCell _ _ ?_) | (with_reducible refine le_drew ?_) | omega | (simp; done) | (simp; omega)))))⟩, by simp [intOf]; omega⟩
      · have hin2 : inB (gi zs k) ((f : Int) + 1) ((n : Int) - 1) = false := by simpa using hin
        have HR := hide (checkOk_6 (ps := ps) (most := most) (zs := zs) (i := k) (by omega) hk1 (by unfold stepOk; rw [HF.out, hn, hin2]; rfl))
        go_wp2
        refine wp_region_ext (by kernel_rfl) (by kernel_rfl) ?_
        repeat (go_big_quiet_step (fail))
        refine wpQuiet_nil ?_
        rintro _ hnq
        have hzq := ext_sz hnq
        obtain ⟨nq, rfl⟩ := hnq
        (try simp at hzq)
        go_wp2_with (go_at_call 39; refine (within_any _ _ _ _).mono ?_; rintro e w' ⟨rfl, rfl⟩)
        go_ret
        exact ⟨ret_bool HR.out.symm, (ext_mk (by (repeat' (first | (with_reducible exact Below.refl _ _) | (with_reducible assumption) | (with_reducible refine below_ext _ ?_ ?_) | (with_reducible refine Below.alloc ?_ ?_ _) | (with_reducible refine Below.drew ?_) | (with_reducible refine below_drewN ?_ _) | (with_reducible refine le_drewN _ ?_) | (with_reducible refine Below.setCell ?_ ?_ _) | (with_reducible exact Nat.le_refl _) | (with_reducible refine le_ext _ ?_) | (with_reducible refine le_alloc _ ?_) | (with_reducible refine le_setCell _ _ ?_) | (with_reducible refine le_drew ?_) | omega | (simp; done) | (simp; omega)))))⟩
    · have : k = m := by omega
      subst this
      have HR := hide (checkOk_7 (ps := ps) (most := most) (zs := zs) H1.out h2 (by omega) H4.out (by rw [hz, hn]; exact H5.out) (fun i hi h1 => hst.out i (by omega) h1))
      go_wp2
      go_ret
      exact ⟨ret_bool HR.out.symm, (ext_mk (by (repeat' (first | (with_reducible exact Below.refl _ _) | (with_reducible assumption) | (with_reducible refine below_ext _ ?_ ?_) | (with_reducible refine Below.alloc ?_ ?_ _) | (with_reducible refine Below.drew ?_) | (with_reducible refine below_drewN ?_ _) | (with_reducible refine le_drewN _ ?_) | (with_reducible refine Below.setCell ?_ ?_ _) | (with_reducible exact Nat.le_refl _) | (with_reducible refine le_ext _ ?_) | (with_reducible refine le_alloc _ ?_) | (with_reducible refine le_setCell _ _ ?_) | (with_reducible refine le_drew ?_) | omega | (simp; done) | (simp; omega)))))⟩
theorem iCheck_any (ps : List Pt) (most : Int) (zs : List Int) (A A' : Option Addr) (n c m c' : Nat) (w : World) (hn : ps.length = n) (hz : zs.length = m) (hm : n ≤ 2000000) (hm' : m ≤ 2000000) (hs : PtsAt w w.heap.size A ps) (hi : IntsAt w w.heap.size A' zs)
    (hcap : n ≤ c) (hcm : c ≤ 9223372036854775807) :
    Calls Try.prog 18 #[.slice A n c, .int .i64 most, .slice A' m c'] w fun e w' => e = .returned (.bool (checkOk ps most zs)) ∧ ∃ x, w' = ext w x := by
  cases h1 : pathOk ps
  · rw [checkOk_1 h1]; exact iCheck_no ps most zs A A' n c m c' w hn hz hm hm' hs hi (.inl h1)
  cases h2 : inB most 0 8000000
  · rw [checkOk_2 h2]; exact iCheck_no ps most zs A A' n c m c' w hn hz hm hm' hs hi (.inr (.inl h2))
  by_cases h3 : ¬ 2 ≤ zs.length
  · rw [checkOk_3 h3]; exact iCheck_no ps most zs A A' n c m c' w hn hz hm hm' hs hi (.inr (.inr (.inl h3)))
  rw [Decidable.not_not] at h3
  by_cases h4 : ¬ gi zs 0 = 0
  · rw [checkOk_4 h4]; exact iCheck_no ps most zs A A' n c m c' w hn hz hm hm' hs hi (.inr (.inr (.inr (.inl h4))))
  rw [Decidable.not_not] at h4
  by_cases h5 : ¬ gi zs (zs.length - 1) = ps.length - 1
  · rw [checkOk_5 h5]; exact iCheck_no ps most zs A A' n c m c' w hn hz hm hm' hs hi (.inr (.inr (.inr (.inr h5))))
  rw [Decidable.not_not] at h5
  exact iCheck_yes ps most zs A A' n c m c' w hn hz hm hm' hs hi hcap hcm h1 h2 (by omega) h4 (by rw [← hz, ← hn]; exact h5)
set_option maxHeartbeats 1000000 in
theorem sCheck_no (ps : List Pt) (most : Int) (zs : List Int) (A A' : Option Addr) (n c m c' : Nat) (w : World) (hn : ps.length = n) (hz : zs.length = m) (hm : n ≤ 2000000) (hm' : m ≤ 2000000) (hs : PtsAt w w.heap.size A ps) (hi : IntsAt w w.heap.size A' zs)
    (h : pathOk ps = false ∨ inB most 0 8000000 = false ∨ ¬ 2 ≤ zs.length ∨ ¬ gi zs 0 = 0 ∨ ¬ gi zs (zs.length - 1) = ps.length - 1) :
    Calls Try.prog 16 #[.slice A n c, .int .i64 most, .slice A' m c'] w fun e w' => e = .returned (.bool false) ∧ ∃ x, w' = ext w x := by
  cases h1 : pathOk ps
  · go_enter Try.func16, Try.ntmps16
    go_wp2_with (go_at_call 34; refine (validPath_any ps _ _ _ _ hn hm (hs.to (by (repeat' (first | (with_reducible exact Below.refl _ _) | (with_reducible assumption) | (with_reducible refine below_ext _ ?_ ?_) | (with_reducible refine Below.alloc ?_ ?_ _) | (with_reducible refine Below.drew ?_) | (with_reducible refine below_drewN ?_ _) | (with_reducible refine le_drewN _ ?_) | (with_reducible refine Below.setCell ?_ ?_ _) | (with_reducible exact Nat.le_refl _) | (with_reducible refine le_ext _ ?_) | (with_reducible refine le_alloc _ ?_) | (with_reducible refine le_setCell _ _ ?_) | (with_reducible refine le_drew ?_) | omega | (simp; done) | (simp; omega)))))).mono ?_; rintro e w' ⟨rfl, hw'⟩; have hzy := ext_sz hw'; obtain ⟨y, rfl⟩ := hw'; (try simp at hzy))
    go_ret
    exact ⟨rfl, (ext_mk (by (repeat' (first | (with_reducible exact Below.refl _ _) | (with_reducible assumption) | (with_reducible refine below_ext _ ?_ ?_) | (with_reducible refine Below.alloc ?_ ?_ _) | (with_reducible refine Below.drew ?_) | (with_reducible refine below_drewN ?_ _) | (with_reducible refine le_drewN _ ?_) | (with_reducible refine Below.setCell ?_ ?_ _) | (with_reducible exact Nat.le_refl _) | (with_reducible refine le_ext _ ?_) | (with_reducible refine le_alloc _ ?_) | (with_reducible refine le_setCell _ _ ?_) | (with_reducible refine le_drew ?_) | omega | (simp; done) | (simp; omega)))))⟩
  cases h2 : inB most 0 8000000
  · go_enter Try.func16, Try.ntmps16
    go_wp2_with (first | (go_at_call 34; refine (validPath_any ps _ _ _ _ hn hm (hs.to (by (repeat' (first | (with_reducible exact Below.refl _ _) | (with_reducible assumption) | (with_reducible refine below_ext _ ?_ ?_) | (with_reducible refine Below.alloc ?_ ?_ _) | (with_reducible refine Below.drew ?_) | (with_reducible refine below_drewN ?_ _) | (with_reducible refine le_drewN _ ?_) | (with_reducible refine Below.setCell ?_ ?_ _) | (with_reducible exact Nat.le_refl _) | (with_reducible refine le_ext _ ?_) | (with_reducible refine le_alloc _ ?_) | (with_reducible refine le_setCell _ _ ?_) | (with_reducible refine le_drew ?_) | omega | (simp; done) | (simp; omega)))))).mono ?_; rintro e w' ⟨rfl, hw'⟩; have hzy := ext_sz hw'; obtain ⟨y, rfl⟩ := hw'; (try simp at hzy)) | (go_at_call 35; refine (inRange_any _ _ _ _).mono ?_; rintro e w' ⟨rfl, rfl⟩))
    go_ret
    exact ⟨rfl, (ext_mk (by (repeat' (first | (with_reducible exact Below.refl _ _) | (with_reducible assumption) | (with_reducible refine below_ext _ ?_ ?_) | (with_reducible refine Below.alloc ?_ ?_ _) | (with_reducible refine Below.drew ?_) | (with_reducible refine below_drewN ?_ _) | (with_reducible refine le_drewN _ ?_) | (with_reducible refine Below.setCell ?_ ?_ _) | (with_reducible exact Nat.le_refl _) | (with_reducible refine le_ext _ ?_) | (with_reducible refine le_alloc _ ?_) | (with_reducible refine le_setCell _ _ ?_) | (with_reducible refine le_drew ?_) | omega | (simp; done) | (simp; omega)))))⟩
  by_cases h3 : m < 2
  · go_enter Try.func16, Try.ntmps16
    go_wp2_with (first | (go_at_call 34; refine (validPath_any ps _ _ _ _ hn hm (hs.to (by (repeat' (first | (with_reducible exact Below.refl _ _) | (with_reducible assumption) | (with_reducible refine below_ext _ ?_ ?_) | (with_reducible refine Below.alloc ?_ ?_ _) | (with_reducible refine Below.drew ?_) | (with_reducible refine below_drewN ?_ _) | (with_reducible refine le_drewN _ ?_) | (with_reducible refine Below.setCell ?_ ?_ _) | (with_reducible exact Nat.le_refl _) | (with_reducible refine le_ext _ ?_) | (with_reducible refine le_alloc _ ?_) | (with_reducible refine le_setCell _ _ ?_) | (with_reducible refine le_drew ?_) | omega | (simp; done) | (simp; omega)))))).mono ?_; rintro e w' ⟨rfl, hw'⟩; have hzy := ext_sz hw'; obtain ⟨y, rfl⟩ := hw'; (try simp at hzy)) | (go_at_call 35; refine (inRange_any _ _ _ _).mono ?_; rintro e w' ⟨rfl, rfl⟩))
    go_ret
    exact ⟨rfl, (ext_mk (by (repeat' (first | (with_reducible exact Below.refl _ _) | (with_reducible assumption) | (with_reducible refine below_ext _ ?_ ?_) | (with_reducible refine Below.alloc ?_ ?_ _) | (with_reducible refine Below.drew ?_) | (with_reducible refine below_drewN ?_ _) | (with_reducible refine le_drewN _ ?_) | (with_reducible refine Below.setCell ?_ ?_ _) | (with_reducible exact Nat.le_refl _) | (with_reducible refine le_ext _ ?_) | (with_reducible refine le_alloc _ ?_) | (with_reducible refine le_setCell _ _ ?_) | (with_reducible refine le_drew ?_) | omega | (simp; done) | (simp; omega)))))⟩
  obtain ⟨b, o, rfl, hb, hc⟩ := hi (by omega)
  have z0 : w.cell? ⟨b, o, none⟩ = some (.int .i64 (gi zs 0)) := hc 0 (by omega)
  have zl := hc (m - 1) (by omega)
  clear hc
  by_cases h4 : gi zs 0 = 0
  · have h5 : ¬ gi zs (m - 1) = (n : Int) - 1 := by
      rw [hz, hn] at h
      rcases h with h | h | h | h | h
      · rw [h1] at h; cases h
      · rw [h2] at h; cases h
      · omega
      · exact absurd h4 h
      · exact h
    have hp := pathOk_len h1
    have h6 : (gi zs (m - 1) != (n : Int) - 1) = true := by simpa using h5
    rw [h4] at z0
    clear h h4 h5
    go_enter Try.func16, Try.ntmps16
    go_wp2_with (first | (go_at_call 34; refine (validPath_any ps _ _ _ _ hn hm (hs.to (by (repeat' (first | (with_reducible exact Below.refl _ _) | (with_reducible assumption) | (with_reducible refine below_ext _ ?_ ?_) | (with_reducible refine Below.alloc ?_ ?_ _) | (with_reducible refine Below.drew ?_) | (with_reducible refine below_drewN ?_ _) | (with_reducible refine le_drewN _ ?_) | (with_reducible refine Below.setCell ?_ ?_ _) | (with_reducible exact Nat.le_refl _) | (with_reducible refine le_ext _ ?_) | (with_reducible refine le_alloc _ ?_) | (with_reducible refine le_setCell _ _ ?_) | (with_reducible refine le_drew ?_) | omega | (simp; done) | (simp; omega)))))).mono ?_; rintro e w' ⟨rfl, hw'⟩; have hzy := ext_sz hw'; obtain ⟨y, rfl⟩ := hw'; (try simp at hzy)) | (go_at_call 35; refine (inRange_any _ _ _ _).mono ?_; rintro e w' ⟨rfl, rfl⟩))
    go_ret
    exact ⟨rfl, (ext_mk (by (repeat' (first | (with_reducible exact Below.refl _ _) | (with_reducible assumption) | (with_reducible refine below_ext _ ?_ ?_) | (with_reducible refine Below.alloc ?_ ?_ _) | (with_reducible refine Below.drew ?_) | (with_reducible refine below_drewN ?_ _) | (with_reducible refine le_drewN _ ?_) | (with_reducible refine Below.setCell ?_ ?_ _) | (with_reducible exact Nat.le_refl _) | (with_reducible refine le_ext _ ?_) | (with_reducible refine le_alloc _ ?_) | (with_reducible refine le_setCell _ _ ?_) | (with_reducible refine le_drew ?_) | omega | (simp; done) | (simp; omega)))))⟩
  · have h6 : (gi zs 0 != 0) = true := by simpa using h4
    clear h h4
    go_enter Try.func16, Try.ntmps16
    go_wp2_with (first | (go_at_call 34; refine (validPath_any ps _ _ _ _ hn hm (hs.to (by (repeat' (first | (with_reducible exact Below.refl _ _) | (with_reducible assumption) | (with_reducible refine below_ext _ ?_ ?_) | (with_reducible refine Below.alloc ?_ ?_ _) | (with_reducible refine Below.drew ?_) | (with_reducible refine below_drewN ?_ _) | (with_reducible refine le_drewN _ ?_) | (with_reducible refine Below.setCell ?_ ?_ _) | (with_reducible exact Nat.le_refl _) | (with_reducible refine le_ext _ ?_) | (with_reducible refine le_alloc _ ?_) | (with_reducible refine le_setCell _ _ ?_) | (with_reducible refine le_drew ?_) | omega | (simp; done) | (simp; omega)))))).mono ?_; rintro e w' ⟨rfl, hw'⟩; have hzy := ext_sz hw'; obtain ⟨y, rfl⟩ := hw'; (try simp at hzy)) | (go_at_call 35; refine (inRange_any _ _ _ _).mono ?_; rintro e w' ⟨rfl, rfl⟩))
    go_ret
    exact ⟨rfl, (ext_mk (by (repeat' (first | (with_reducible exact Below.refl _ _) | (with_reducible assumption) | (with_reducible refine below_ext _ ?_ ?_) | (with_reducible refine Below.alloc ?_ ?_ _) | (with_reducible refine Below.drew ?_) | (with_reducible refine below_drewN ?_ _) | (with_reducible refine le_drewN _ ?_) | (with_reducible refine Below.setCell ?_ ?_ _) | (with_reducible exact Nat.le_refl _) | (with_reducible refine le_ext _ ?_) | (with_reducible refine le_alloc _ ?_) | (with_reducible refine le_setCell _ _ ?_) | (with_reducible refine le_drew ?_) | omega | (simp; done) | (simp; omega)))))⟩
theorem over_self {most : Int} (h : 0 ≤ most) (a b : Pt) : over most a b a = false := by
  have h1 : inn a b a ≤ 0 := by unfold inn; simp
  unfold over
  rw [devN_1 h1, devD_1 h1]
  exact decide_eq_false (by unfold dst; simp; omega)
theorem span_yes {ps : List Pt} {most : Int} {f t : Nat} (h : ∀ j, f ≤ j → j < t → over most (gp ps f) (gp ps t) (gp ps j) = false) : spanOk ps most f t = true := by
  unfold spanOk
  rw [Bool.not_eq_true', List.any_eq_false]
  intro i hi
  rw [Bool.not_eq_true]
  exact h _ (by omega) (by have := List.mem_range.1 hi; omega)
theorem span_no {ps : List Pt} {most : Int} {f t j : Nat} (hm : 0 ≤ most) (h1 : f ≤ j) (h2 : j < t) (h : over most (gp ps f) (gp ps t) (gp ps j) = true) : spanOk ps most f t = false := by
  have hj : f < j := by
    rcases Nat.lt_or_ge f j with h3 | h3
    · exact h3
    · have : j = f := by omega
      subst this
      rw [over_self hm] at h; cases h
  unfold spanOk
  rw [Bool.not_eq_false', List.any_eq_true]
  exact ⟨j - (f + 1), List.mem_range.2 (by omega), by rw [show f + 1 + (j - (f + 1)) = j from by omega]; exact h⟩
set_option maxHeartbeats 2000000 in
theorem sCheck_yes (ps : List Pt) (most : Int) (zs : List Int) (A A' : Option Addr) (n c m c' : Nat) (w : World) (hn : ps.length = n) (hz : zs.length = m) (hm : n ≤ 2000000) (hm' : m ≤ 2000000) (hs : PtsAt w w.heap.size A ps) (hi : IntsAt w w.heap.size A' zs)
    (h1 : pathOk ps = true) (h2 : inB most 0 8000000 = true) (h3 : 2 ≤ m) (h4 : gi zs 0 = 0) (h5 : gi zs (m - 1) = (n : Int) - 1) :
    Calls Try.prog 16 #[.slice A n c, .int .i64 most, .slice A' m c'] w fun e w' => e = .returned (.bool (checkOk ps most zs)) ∧ ∃ x, w' = ext w x := by
  have hp := pathOk_len h1
  obtain ⟨b, o, rfl, hb, hc⟩ := hi (by omega)
  have z0 : w.cell? ⟨b, o, none⟩ = some (.int .i64 (gi zs 0)) := hc 0 (by omega)
  have zl := hc (m - 1) (by omega)
  rw [h4] at z0
  rw [h5] at zl
  have H1 := hide h1
  have H4 := hide h4
  have H5 := hide h5
  have HC := hide hc
  obtain ⟨mo1, mo2⟩ := inB_iff.1 h2
  clear hc h4 h5
  go_enter Try.func16, Try.ntmps16
  go_wp2_with (first | (go_at_call 34; refine (validPath_any ps _ _ _ _ hn hm (hs.to (by (repeat' (first | (with_reducible exact Below.refl _ _) | (with_reducible assumption) | (with_reducible refine below_ext _ ?_ ?_) | (with_reducible refine Below.alloc ?_ ?_ _) | (with_reducible refine Below.drew ?_) | (with_reducible refine below_drewN ?_ _) | (with_reducible refine le_drewN _ ?_) | (with_reducible refine Below.setCell ?_ ?_ _) | (with_reducible exact Nat.le_refl _) | (with_reducible refine le_ext _ ?_) | (with_reducible refine le_alloc _ ?_) | (with_reducible refine le_setCell _ _ ?_) | (with_reducible refine le_drew ?_) | omega | (simp; done) | (simp; omega)))))).mono ?_; rintro e w' ⟨rfl, hw'⟩; have hzy := ext_sz hw'; obtain ⟨y, rfl⟩ := hw'; (try simp at hzy)) | (go_at_call 35; refine (inRange_any _ _ _ _).mono ?_; rintro e w' ⟨rfl, rfl⟩))
  clear z0 zl
  go_loopw [7] (fun v wr => ∃ k : Nat, 1 ≤ k ∧ k ≤ m ∧ v = .int .i64 k ∧ Hid (∀ j, j < k → 1 ≤ j → stepOk ps most zs j = true) ∧ ∃ x, wr = ext w x) (fun v _ => m - (intOf v).toNat)
  case atStart => exact ⟨1, Nat.le_refl _, by omega, rfl, fun j hj h1 => by omega, (ext_mk (by (repeat' (first | (with_reducible exact Below.refl _ _) | (with_reducible assumption) | (with_reducible refine below_ext _ ?_ ?_) | (with_reducible refine Below.alloc ?_ ?_ _) | (with_reducible refine Below.drew ?_) | (with_reducible refine below_drewN ?_ _) | (with_reducible refine le_drewN _ ?_) | (with_reducible refine Below.setCell ?_ ?_ _) | (with_reducible exact Nat.le_refl _) | (with_reducible refine le_ext _ ?_) | (with_reducible refine le_alloc _ ?_) | (with_reducible refine le_setCell _ _ ?_) | (with_reducible refine le_drew ?_) | omega | (simp; done) | (simp; omega)))))⟩
  case round =>
    obtain ⟨k, hk1, hk, rfl, hst, x, rfl⟩ := hrel
    have hsz := ext_size w x
    by_cases hlt : k < m
    · have hw1 : IntKind.i64.wrap ((k : Int) - 1) = (k : Int) - 1 := IntWalk.i64_in _ (by omega)
      have ht1 : ((k : Int) - 1).toNat = k - 1 := by omega
      have zk := HC.out k (by omega)
      have zk1 := HC.out (k - 1) (by omega)
      obtain ⟨f0, f1⟩ := step_bd H4.out (by omega) k hst.out (k - 1) (by omega)
      obtain ⟨f, hf⟩ := Int.eq_ofNat_of_zero_le f0
      rw [hf] at zk1 f1
      have HF := hide hf
      clear hf f0
      by_cases hle : gi zs k ≤ (f : Int)
      · have hin2 : inB (gi zs k) ((f : Int) + 1) ((n : Int) - 1) = false := inB_no.2 (by omega)
        have HR := hide (checkOk_6 (ps := ps) (most := most) (zs := zs) (i := k) (by omega) hk1 (by unfold stepOk; rw [HF.out, hn, hin2]; rfl))
        clear hin2
        go_wp2
        refine wp_region_ext (by kernel_rfl) (by kernel_rfl) ?_
        repeat (go_big_quiet_step (fail))
        refine wpQuiet_nil ?_
        rintro _ hnq
        have hzq := ext_sz hnq
        obtain ⟨nq, rfl⟩ := hnq
        (try simp at hzq)
        go_wp2
        go_ret
        exact ⟨ret_bool HR.out.symm, (ext_mk (by (repeat' (first | (with_reducible exact Below.refl _ _) | (with_reducible assumption) | (with_reducible refine below_ext _ ?_ ?_) | (with_reducible refine Below.alloc ?_ ?_ _) | (with_reducible refine Below.drew ?_) | (with_reducible refine below_drewN ?_ _) | (with_reducible refine le_drewN _ ?_) | (with_reducible refine Below.setCell ?_ ?_ _) | (with_reducible exact Nat.le_refl _) | (with_reducible refine le_ext _ ?_) | (with_reducible refine le_alloc _ ?_) | (with_reducible refine le_setCell _ _ ?_) | (with_reducible refine le_drew ?_) | omega | (simp; done) | (simp; omega)))))⟩
      have hgt : (f : Int) < gi zs k := by omega
      have hd1 : decide (gi zs k ≤ (f : Int)) = false := decide_eq_false hle
      by_cases hge : (n : Int) ≤ gi zs k
      · have hin2 : inB (gi zs k) ((f : Int) + 1) ((n : Int) - 1) = false := inB_no.2 (by omega)
        have HR := hide (checkOk_6 (ps := ps) (most := most) (zs := zs) (i := k) (by omega) hk1 (by unfold stepOk; rw [HF.out, hn, hin2]; rfl))
        clear hin2
        go_wp2
        refine wp_region_ext (by kernel_rfl) (by kernel_rfl) ?_
        repeat (go_big_quiet_step (fail))
        refine wpQuiet_nil ?_
        rintro _ hnq
        have hzq := ext_sz hnq
        obtain ⟨nq, rfl⟩ := hnq
        (try simp at hzq)
        go_wp2
        go_ret
        exact ⟨ret_bool HR.out.symm, (ext_mk (by (repeat' (first | (with_reducible exact Below.refl _ _) | (with_reducible assumption) | (with_reducible refine below_ext _ ?_ ?_) | (with_reducible refine Below.alloc ?_ ?_ _) | (with_reducible refine Below.drew ?_) | (with_reducible refine below_drewN ?_ _) | (with_reducible refine le_drewN _ ?_) | (with_reducible refine Below.setCell ?_ ?_ _) | (with_reducible exact Nat.le_refl _) | (with_reducible refine le_ext _ ?_) | (with_reducible refine le_alloc _ ?_) | (with_reducible refine le_setCell _ _ ?_) | (with_reducible refine le_drew ?_) | omega | (simp; done) | (simp; omega)))))⟩
      obtain ⟨t, ht⟩ := Int.eq_ofNat_of_zero_le (show 0 ≤ gi zs k by omega)
      have HT := hide ht
      have HSO : Hid (stepOk ps most zs k = spanOk ps most f t) := by
        unfold Hid stepOk
        rw [HF.out, HT.out, hn, inB_iff.2 (by omega)]; simp
      rw [ht] at zk hle hge hgt hd1
      have hft : f < t := by omega
      have htn : t < n := by omega
      clear ht hle hge hgt
      have hd2 : decide (n ≤ t) = false := decide_eq_false (by omega)
      have hd3 : decide (t ≤ f) = false := decide_eq_false (by omega)
      go_wp2
      refine wp_region_ext (by kernel_rfl) (by kernel_rfl) ?_
      repeat (go_big_quiet_step (fail))
      refine wpQuiet_nil ?_
      rintro _ hnq
      have hzq := ext_sz hnq
      obtain ⟨nq, rfl⟩ := hnq
      (try simp at hzq)
      go_wp2
      go_loopw [8] (fun v wr => ∃ j : Nat, f ≤ j ∧ j ≤ t ∧ v = .int .i64 j ∧ Hid (∀ i, f ≤ i → i < j → over most (gp ps f) (gp ps t) (gp ps i) = false) ∧ ∃ x, wr = ext w x) (fun v _ => t - (intOf v).toNat)
      case atStart => exact ⟨f, Nat.le_refl _, by omega, rfl, fun j hj h1 => by omega, (ext_mk (by (repeat' (first | (with_reducible exact Below.refl _ _) | (with_reducible assumption) | (with_reducible refine below_ext _ ?_ ?_) | (with_reducible refine Below.alloc ?_ ?_ _) | (with_reducible refine Below.drew ?_) | (with_reducible refine below_drewN ?_ _) | (with_reducible refine le_drewN _ ?_) | (with_reducible refine Below.setCell ?_ ?_ _) | (with_reducible exact Nat.le_refl _) | (with_reducible refine le_ext _ ?_) | (with_reducible refine le_alloc _ ?_) | (with_reducible refine le_setCell _ _ ?_) | (with_reducible refine le_drew ?_) | omega | (simp; done) | (simp; omega)))))⟩
      case round =>
        obtain ⟨j, hfj, hjt, rfl, hov, x2, rfl⟩ := hrel
        have hsz2 := ext_size w x2
        by_cases hlt2 : j < t
        · have hall := listOk_all (pathOk_list H1.out)
          have n1 := devN_bd (inR_ok hall (i := f) (by omega)) (inR_ok hall (i := t) (by omega)) (inR_ok hall (i := j) (by omega))
          have n2 := devD_bd (p := gp ps j) (inR_ok hall (i := f) (by omega)) (inR_ok hall (i := t) (by omega))
          have n3 := mul_bd (a := most) (b := devD (gp ps f) (gp ps t) (gp ps j)) (M := 8000000) (N := 8000000) (by omega) (by omega)
          have HOV : Hid (over most (gp ps f) (gp ps t) (gp ps j) = decide (most * devAtD ps f t j < devAtN ps f t j)) := rfl
          change 0 ≤ devAtN ps f t j ∧ devAtN ps f t j ≤ _ at n1
          change 1 ≤ devAtD ps f t j ∧ devAtD ps f t j ≤ _ at n2
          change _ ≤ most * devAtD ps f t j ∧ most * devAtD ps f t j ≤ _ at n3
          by_cases hov2 : most * devAtD ps f t j < devAtN ps f t j
          · have HR := hide (checkOk_6 (ps := ps) (most := most) (zs := zs) (i := k) (by omega) hk1 (HSO.out.trans (span_no mo1 hfj hlt2 (HOV.out.trans (decide_eq_true hov2)))))
            go_wp2
            refine wp_region_ext (by kernel_rfl) (by kernel_rfl) ?_
            repeat (go_big_quiet_step ((first | (go_at_call 36; exact Calls.in_ext (deviation_any ps _ _ _ _ _ _ _ hn hm hall (by omega) (by omega) (by omega) (hs.to (by (repeat' (first | (with_reducible exact Below.refl _ _) | (with_reducible assumption) | (with_reducible refine below_ext _ ?_ ?_) | (with_reducible refine Below.alloc ?_ ?_ _) | (with_reducible refine Below.drew ?_) | (with_reducible refine below_drewN ?_ _) | (with_reducible refine le_drewN _ ?_) | (with_reducible refine Below.setCell ?_ ?_ _) | (with_reducible exact Nat.le_refl _) | (with_reducible refine le_ext _ ?_) | (with_reducible refine le_alloc _ ?_) | (with_reducible refine le_setCell _ _ ?_) | (with_reducible refine le_drew ?_) | omega | (simp; done) | (simp; omega))))))))))
            refine wpQuiet_nil ?_
            rintro _ hnq
            have hzq := ext_sz hnq
            obtain ⟨nq, rfl⟩ := hnq
            (try simp at hzq)
            go_wp2
            go_ret
            exact ⟨ret_bool HR.out.symm, (ext_mk (by (repeat' (first | (with_reducible exact Below.refl _ _) | (with_reducible assumption) | (with_reducible refine below_ext _ ?_ ?_) | (with_reducible refine Below.alloc ?_ ?_ _) | (with_reducible refine Below.drew ?_) | (with_reducible refine below_drewN ?_ _) | (with_reducible refine le_drewN _ ?_) | (with_reducible refine Below.setCell ?_ ?_ _) | (with_reducible exact Nat.le_refl _) | (with_reducible refine le_ext _ ?_) | (with_reducible refine le_alloc _ ?_) | (with_reducible refine le_setCell _ _ ?_) | (with_reducible refine le_drew ?_) | omega | (simp; done) | (simp; omega)))))⟩
          · have HR := hide (HOV.out.trans (decide_eq_false hov2))
            go_wp2
            refine wp_region_ext (by kernel_rfl) (by kernel_rfl) ?_
            repeat (go_big_quiet_step ((first | (go_at_call 36; exact Calls.in_ext (deviation_any ps _ _ _ _ _ _ _ hn hm hall (by omega) (by omega) (by omega) (hs.to (by (repeat' (first | (with_reducible exact Below.refl _ _) | (with_reducible assumption) | (with_reducible refine below_ext _ ?_ ?_) | (with_reducible refine Below.alloc ?_ ?_ _) | (with_reducible refine Below.drew ?_) | (with_reducible refine below_drewN ?_ _) | (with_reducible refine le_drewN _ ?_) | (with_reducible refine Below.setCell ?_ ?_ _) | (with_reducible exact Nat.le_refl _) | (with_reducible refine le_ext _ ?_) | (with_reducible refine le_alloc _ ?_) | (with_reducible refine le_setCell _ _ ?_) | (with_reducible refine le_drew ?_) | omega | (simp; done) | (simp; omega))))))))))
            refine wpQuiet_nil ?_
            rintro _ hnq
            have hzq := ext_sz hnq
            obtain ⟨nq, rfl⟩ := hnq
            (try simp at hzq)
            go_wp2
            exact ⟨⟨j + 1, by omega, by omega, by go_num, fun i hi h1 => by rcases Nat.lt_succ_iff_lt_or_eq.1 h1 with h | rfl; exact hov.out i hi h; exact HR.out, (ext_mk (by (repeat' (first | (with_reducible exact Below.refl _ _) | (with_reducible assumption) | (with_reducible refine below_ext _ ?_ ?_) | (with_reducible refine Below.alloc ?_ ?_ _) | (with_reducible refine Below.drew ?_) | (with_reducible refine below_drewN ?_ _) | (with_reducible refine le_drewN _ ?_) | (with_reducible refine Below.setCell ?_ ?_ _) | (with_reducible exact Nat.le_refl _) | (with_reducible refine le_ext _ ?_) | (with_reducible refine le_alloc _ ?_) | (with_reducible refine le_setCell _ _ ?_) | (with_reducible refine le_drew ?_) | omega | (simp; done) | (simp; omega)))))⟩, by simp [intOf]; omega⟩
        · have : j = t := by omega
          subst this
          have HR := hide (HSO.out.trans (span_yes hov.out))
          go_wp2
          exact ⟨⟨k + 1, by omega, by omega, by go_num, fun j hj h1 => by rcases Nat.lt_succ_iff_lt_or_eq.1 hj with h | rfl; exact hst.out j h h1; exact HR.out, (ext_mk (by (repeat' (first | (with_reducible exact Below.refl _ _) | (with_reducible assumption) | (with_reducible refine below_ext _ ?_ ?_) | (with_reducible refine Below.alloc ?_ ?_ _) | (with_reducible refine Below.drew ?_) | (with_reducible refine below_drewN ?_ _) | (with_reducible refine le_drewN _ ?_) | (with_reducible refine Below.setCell ?_ ?_ _) | (with_reducible exact Nat.le_refl _) | (with_reducible refine le_ext _ ?_) | (with_reducible refine le_alloc _ ?_) | (with_reducible refine le_setCell _ _ ?_) | (with_reducible refine le_drew ?_) | omega | (simp; done) | (simp; omega)))))⟩, by simp [intOf]; omega⟩
    · have : k = m := by omega
      subst this
      have HR := hide (checkOk_7 (ps := ps) (most := most) (zs := zs) H1.out h2 (by omega) H4.out (by rw [hz, hn]; exact H5.out) (fun i hi h1 => hst.out i (by omega) h1))
      go_wp2
      go_ret
      exact ⟨ret_bool HR.out.symm, (ext_mk (by (repeat' (first | (with_reducible exact Below.refl _ _) | (with_reducible assumption) | (with_reducible refine below_ext _ ?_ ?_) | (with_reducible refine Below.alloc ?_ ?_ _) | (with_reducible refine Below.drew ?_) | (with_reducible refine below_drewN ?_ _) | (with_reducible refine le_drewN _ ?_) | (with_reducible refine Below.setCell ?_ ?_ _) | (with_reducible exact Nat.le_refl _) | (with_reducible refine le_ext _ ?_) | (with_reducible refine le_alloc _ ?_) | (with_reducible refine le_setCell _ _ ?_) | (with_reducible refine le_drew ?_) | omega | (simp; done) | (simp; omega)))))⟩
theorem sCheck_any (ps : List Pt) (most : Int) (zs : List Int) (A A' : Option Addr) (n c m c' : Nat) (w : World) (hn : ps.length = n) (hz : zs.length = m) (hm : n ≤ 2000000) (hm' : m ≤ 2000000) (hs : PtsAt w w.heap.size A ps) (hi : IntsAt w w.heap.size A' zs) :
    Calls Try.prog 16 #[.slice A n c, .int .i64 most, .slice A' m c'] w fun e w' => e = .returned (.bool (checkOk ps most zs)) ∧ ∃ x, w' = ext w x := by
  cases h1 : pathOk ps
  · rw [checkOk_1 h1]; exact sCheck_no ps most zs A A' n c m c' w hn hz hm hm' hs hi (.inl h1)
  cases h2 : inB most 0 8000000
  · rw [checkOk_2 h2]; exact sCheck_no ps most zs A A' n c m c' w hn hz hm hm' hs hi (.inr (.inl h2))
  by_cases h3 : ¬ 2 ≤ zs.length
  · rw [checkOk_3 h3]; exact sCheck_no ps most zs A A' n c m c' w hn hz hm hm' hs hi (.inr (.inr (.inl h3)))
  rw [Decidable.not_not] at h3
  by_cases h4 : ¬ gi zs 0 = 0
  · rw [checkOk_4 h4]; exact sCheck_no ps most zs A A' n c m c' w hn hz hm hm' hs hi (.inr (.inr (.inr (.inl h4))))
  rw [Decidable.not_not] at h4
  by_cases h5 : ¬ gi zs (zs.length - 1) = ps.length - 1
  · rw [checkOk_5 h5]; exact sCheck_no ps most zs A A' n c m c' w hn hz hm hm' hs hi (.inr (.inr (.inr (.inr h5))))
  rw [Decidable.not_not] at h5
  exact sCheck_yes ps most zs A A' n c m c' w hn hz hm hm' hs hi h1 h2 (by omega) h4 (by rw [← hz, ← hn]; exact h5)
end Go.Proofs.Ytgeilljbmjajnaa
