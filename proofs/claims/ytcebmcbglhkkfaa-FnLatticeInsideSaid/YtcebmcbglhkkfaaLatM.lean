
/- Pick's theorem for lattice points: plain. -/
import Derived.Test.YtcebmcbglhkkfaaInsM
set_option linter.unusedVariables false
set_option linter.unusedSimpArgs false
namespace Go.Proofs.Ytcebmcbglhkkfaa
open Go.RowKit

/-! ### counts along a row -/
theorem cnt_lt (z : Int) : ∀ (m : Nat), 0 ≤ z → z ≤ m → sumN (fun i => if (i : Int) < z then 1 else 0) m = z
  | 0, h0, h1 => by show (0 : Int) = z; omega
  | m + 1, h0, h1 => by
    show sumN (fun i => if (i : Int) < z then 1 else 0) m + (if (m : Int) < z then 1 else 0) = z
    by_cases h : (m : Int) < z
    · rw [if_pos h, sumN_congr (g := fun _ => 1) fun k hk => by rw [if_pos (by omega)]]
      have : ∀ n : Nat, sumN (fun _ => 1) n = n := fun n => by
        induction n with
        | zero => rfl
        | succ n ih => show sumN (fun _ => 1) n + 1 = _; rw [ih]; push_cast; rfl
      rw [this]; omega
    · rw [if_neg h, cnt_lt z m h0 (by omega)]; omega
theorem cnt_eq (z : Int) (c : Int) : ∀ (m : Nat), sumN (fun i => if (i : Int) = z then c else 0) m = if 0 ≤ z ∧ z < m then c else 0
  | 0 => by rw [if_neg (by omega)]; rfl
  | m + 1 => by
    show sumN (fun i => if (i : Int) = z then c else 0) m + (if (m : Int) = z then c else 0) = _
    rw [cnt_eq z c m]
    by_cases h : (m : Int) = z
    · rw [if_pos h, if_neg (by omega), if_pos (by omega)]; omega
    · rw [if_neg h]
      by_cases h2 : 0 ≤ z ∧ z < m
      · rw [if_pos h2, if_pos (by omega)]; omega
      · rw [if_neg h2, if_neg (by omega)]; rfl
/-! ### multiples -/
def dvN (h : Nat) (d : Int) (t : Nat) : Int := if (h : Int) ∣ (t : Int) * d then 1 else 0
theorem mult_block {k : Nat} (hk : 0 < k) (F : Nat → Int) (hF : ∀ t, F t = if k ∣ t then 1 else 0) : ∀ g : Nat, sumN F (g * k) = g
  | 0 => by rw [Nat.zero_mul]; rfl
  | g + 1 => by
    rw [Nat.succ_mul, sumN_split, mult_block hk F hF g]
    have : sumN (fun j => F (g * k + j)) k = 1 := by
      rw [sumN_congr (g := fun j => if (j : Int) = 0 then 1 else 0) fun j hj => by
        rw [hF]
        have e : k ∣ g * k + j ↔ k ∣ j := by rw [Nat.dvd_add_right (Nat.dvd_mul_left k g)]
        by_cases h0 : j = 0
        · subst h0; rw [if_pos (by rw [e]; exact Nat.dvd_zero k), if_pos (by omega)]
        · rw [if_neg (by rw [e]; exact fun hd => by have := Nat.le_of_dvd (by omega) hd; omega), if_neg (by omega)]]
      rw [cnt_eq, if_pos (by omega)]
    rw [this]; push_cast; rfl
theorem dv_iff {h : Nat} (hh : 0 < h) (d : Int) (t : Nat) : (h : Int) ∣ (t : Int) * d ↔ (h / Nat.gcd h d.natAbs) ∣ t := by
  have e : (h : Int) ∣ (t : Int) * d ↔ h ∣ t * d.natAbs := by
    rw [← Int.natAbs_dvd_natAbs, Int.natAbs_mul, Int.natAbs_natCast, Int.natAbs_natCast]
  rw [e]
  have hg : 0 < Nat.gcd h d.natAbs := Nat.gcd_pos_of_pos_left _ hh
  obtain ⟨h', eh⟩ := Nat.gcd_dvd_left h d.natAbs
  obtain ⟨d', ed⟩ := Nat.gcd_dvd_right h d.natAbs
  have q1 : h / Nat.gcd h d.natAbs = h' := by rw [Nat.div_eq_of_eq_mul_right hg eh]
  rw [q1]
  have cop : Nat.Coprime h' d' := by
    have := Nat.coprime_div_gcd_div_gcd (m := h) (n := d.natAbs) hg
    rwa [q1, Nat.div_eq_of_eq_mul_right hg ed] at this
  generalize Nat.gcd h d.natAbs = g at *
  rw [eh, ed]
  constructor
  · intro hd
    have : g * h' ∣ g * (t * d') := by rw [show g * (t * d') = t * (g * d') by rw [Nat.mul_left_comm]]; exact hd
    have := Nat.dvd_of_mul_dvd_mul_left hg this
    exact cop.dvd_of_dvd_mul_right this
  · rintro ⟨c, rfl⟩
    exact ⟨c * d', by rw [Nat.mul_assoc, Nat.mul_left_comm]; simp [Nat.mul_assoc, Nat.mul_comm, Nat.mul_left_comm]⟩
theorem dv_sum {h : Nat} (hh : 0 < h) (d : Int) : sumN (dvN h d) h = Nat.gcd h d.natAbs := by
  have hg : 0 < Nat.gcd h d.natAbs := Nat.gcd_pos_of_pos_left _ hh
  obtain ⟨h', eh⟩ := Nat.gcd_dvd_left h d.natAbs
  have q1 : h / Nat.gcd h d.natAbs = h' := by rw [Nat.div_eq_of_eq_mul_right hg eh]
  have h'0 : 0 < h' := by rcases Nat.eq_zero_or_pos h' with e | e; rw [e] at eh; omega; exact e
  have := mult_block h'0 (dvN h d) (fun t => by unfold dvN; simp only [dv_iff hh d t, q1]) (Nat.gcd h d.natAbs)
  rwa [← eh] at this
/-! ### a sum of quotients, rounded up -/
def upQ (h : Nat) (d : Int) (t : Nat) : Int := -((-((t : Int) * d)) / (h : Int))
theorem upQ_zero (h : Nat) (d : Int) : upQ h d 0 = 0 := by unfold upQ; simp
theorem upQ_pair {h : Nat} (hh : 0 < h) (d : Int) {t : Nat} (ht : t ≤ h) : upQ h d t + upQ h d (h - t) = d + 1 - dvN h d t := by
  have hc : ((h - t : Nat) : Int) = (h : Int) - t := by omega
  have e2 : -(((h : Int) - t) * d) = (t : Int) * d + (-d) * h := by rw [Int.sub_mul, Int.neg_mul, Int.mul_comm d]; omega
  unfold upQ dvN
  rw [hc, e2, Int.add_mul_ediv_right _ _ (by omega)]
  generalize (t : Int) * d = p
  have hp : (0 : Int) < h := by omega
  generalize (h : Int) = H at *
  have e1 := Int.emod_add_mul_ediv p H
  have m1 := Int.emod_nonneg p (by omega : H ≠ 0)
  have m2 := Int.emod_lt_of_pos p hp
  by_cases hd : H ∣ p
  · rw [if_pos hd]
    obtain ⟨c, rfl⟩ := hd
    rw [show -(H * c) = H * (-c) by rw [Int.mul_neg], Int.mul_ediv_cancel_left _ (by omega), Int.mul_ediv_cancel_left _ (by omega)]
    omega
  · rw [if_neg hd]
    have hm : p % H ≠ 0 := fun e => hd (Int.dvd_of_emod_eq_zero e)
    have e3 : -p / H = -(p / H) - 1 := by
      have : -p = (H - p % H) + (-(p / H) - 1) * H := by
        rw [Int.sub_mul, Int.neg_mul, Int.mul_comm (p / H) H]; omega
      rw [this, Int.add_mul_ediv_right _ _ (by omega), Int.ediv_eq_zero_of_lt (by omega) (by omega)]
      have : (H - p % H + (-(p / H) - 1) * H) = -p := this.symm
      omega
    omega
/-- Twice the sum. -/
theorem upQ_sum {h : Nat} (hh : 0 < h) (d : Int) : 2 * sumN (upQ h d) h = h * d + h - d - Nat.gcd h d.natAbs := by
  have s1 : sumN (upQ h d) (h + 1) = sumN (upQ h d) h + d := by
    show sumN (upQ h d) h + upQ h d h = _
    have := upQ_pair hh d (t := h) (Nat.le_refl h)
    rw [Nat.sub_self, upQ_zero] at this
    have hz : dvN h d h = 1 := by unfold dvN; rw [if_pos (Int.dvd_mul_right _ _)]
    omega
  have s2 := sumN_flip (h + 1) (upQ h d)
  have s3 : sumN (fun t => upQ h d t + upQ h d (h - t)) (h + 1) = 2 * sumN (upQ h d) (h + 1) := by
    rw [sumN_add]
    have : sumN (fun t => upQ h d (h - t)) (h + 1) = sumN (fun i => upQ h d (h + 1 - 1 - i)) (h + 1) := sumN_congr fun k _ => by rw [Nat.add_sub_cancel]
    rw [this, s2]; omega
  have s4 : sumN (fun t => upQ h d t + upQ h d (h - t)) (h + 1) = sumN (fun t => (d + 1) + -dvN h d t) (h + 1) := sumN_congr fun k hk => by
    have := upQ_pair hh d (t := k) (by omega)
    omega
  have c1 : ∀ n : Nat, sumN (fun _ => d + 1) n = n * (d + 1) := fun n => by
    induction n with
    | zero => show (0 : Int) = _; simp
    | succ n ih => show sumN (fun _ => d + 1) n + (d + 1) = _; rw [ih]; push_cast; rw [Int.add_mul]; omega
  have c2 : ∀ n, sumN (fun t => -dvN h d t) n = -sumN (dvN h d) n := fun n => by
    induction n with
    | zero => rfl
    | succ n ih => show sumN (fun t => -dvN h d t) n + -dvN h d n = -(sumN (dvN h d) n + dvN h d n); rw [ih]; omega
  have s5 : sumN (dvN h d) (h + 1) = Nat.gcd h d.natAbs + 1 := by
    show sumN (dvN h d) h + dvN h d h = _
    rw [dv_sum hh d]
    unfold dvN; rw [if_pos (Int.dvd_mul_right _ _)]
  rw [s4, sumN_add, c1, c2, s5] at s3
  rw [s1] at s3
  have : ((h + 1 : Nat) : Int) * (d + 1) = h * d + h + d + 1 := by push_cast; rw [Int.add_mul, Int.mul_add]; omega
  omega
/-! ### sums over a box -/
def boxS (X Y : Int) (m n : Nat) (f : Pt → Int) : Int := sumN (fun y => sumN (fun x => f ⟨X + (x : Nat), Y + (y : Nat)⟩) m) n
theorem boxS_congr {X Y : Int} {m n : Nat} {f g : Pt → Int} (h : ∀ q, f q = g q) : boxS X Y m n f = boxS X Y m n g := sumN_congr fun y _ => sumN_congr fun x _ => h _
theorem boxS_add (X Y : Int) (m n : Nat) (f g : Pt → Int) : boxS X Y m n (fun q => f q + g q) = boxS X Y m n f + boxS X Y m n g := by
  unfold boxS
  rw [← sumN_add]
  exact sumN_congr fun y _ => sumN_add _ _ m
theorem sumN_mul (c : Int) (f : Nat → Int) : ∀ n, sumN (fun k => c * f k) n = c * sumN f n
  | 0 => by show (0 : Int) = c * 0; rw [Int.mul_zero]
  | n + 1 => by show sumN (fun k => c * f k) n + c * f n = c * (sumN f n + f n); rw [sumN_mul c f n, Int.mul_add]
theorem boxS_mul (X Y : Int) (m n : Nat) (c : Int) (f : Pt → Int) : boxS X Y m n (fun q => c * f q) = c * boxS X Y m n f := by
  unfold boxS
  rw [← sumN_mul]
  exact sumN_congr fun y _ => sumN_mul c _ m
/-- Where a point is in the box. -/
def InBox (X Y : Int) (m n : Nat) (p : Pt) : Prop := X ≤ p.x ∧ p.x < X + m ∧ Y ≤ p.y ∧ p.y < Y + n
theorem boxS_pt {X Y : Int} {m n : Nat} {p : Pt} (h : InBox X Y m n p) (c : Int) : boxS X Y m n (fun q => if q = p then c else 0) = c := by
  obtain ⟨h1, h2, h3, h4⟩ := h
  unfold boxS
  rw [sumN_congr (g := fun y => if (y : Int) = p.y - Y then c else 0) fun y _ => ?_, cnt_eq, if_pos (by omega)]
  by_cases hy : (y : Int) = p.y - Y
  · rw [if_pos hy, sumN_congr (g := fun x => if (x : Int) = p.x - X then c else 0) fun x _ => ?_, cnt_eq, if_pos (by omega)]
    by_cases hx : (x : Int) = p.x - X
    · rw [if_pos hx]
      show (if (⟨X + (x : Nat), Y + (y : Nat)⟩ : Pt) = p then c else 0) = c
      rw [if_pos]
      cases p
      simp only at hx hy
      congr 1 <;> omega
    · rw [if_neg hx]
      show (if (⟨X + (x : Nat), Y + (y : Nat)⟩ : Pt) = p then c else 0) = 0
      rw [if_neg]
      intro e
      have : X + (x : Int) = p.x := congrArg Pt.x e
      omega
  · rw [if_neg hy]
    refine sumN_zero fun x _ => if_neg fun e => ?_
    have : Y + (y : Int) = p.y := congrArg Pt.y e
    omega
/-- A sum over a window of rows. -/
theorem sumN_win (F : Nat → Int) (p h : Nat) : ∀ n, p + h ≤ n → sumN (fun y => if p ≤ y ∧ y < p + h then F (y - p) else 0) n = sumN F h := fun n hn => by
  obtain ⟨r, rfl⟩ : ∃ r, n = p + (h + r) := ⟨n - p - h, by omega⟩
  rw [sumN_split, sumN_zero (n := p) (fun k hk => if_neg (by omega)), sumN_split, sumN_zero (n := r) (fun k hk => if_neg (by omega)), sumN_congr (g := F) fun k hk => ?_]
  · omega
  · rw [if_pos (by omega), show p + k - p = k by omega]
/-! ### crossings of one edge -/
theorem upQ_lt {h : Nat} (hh : 0 < h) (d : Int) (t : Nat) (z : Int) : (h : Int) * z < (t : Int) * d ↔ z < upQ h d t := by
  unfold upQ
  have e := Int.ediv_lt_iff_lt_mul (a := -((t : Int) * d)) (b := -z) (c := (h : Int)) (by omega)
  have e2 : -z * (h : Int) = -((h : Int) * z) := by rw [Int.neg_mul, Int.mul_comm]
  rw [e2] at e
  constructor
  · intro hl
    have := e.2 (by omega)
    omega
  · intro hl
    have := e.1 (by omega)
    omega
theorem upQ_bd {h : Nat} (hh : 0 < h) (d : Int) {t : Nat} (ht : t ≤ h) (lo hi : Int) (h0 : lo ≤ 0) (h1 : 0 ≤ hi) (h2 : lo ≤ d) (h3 : d ≤ hi) : lo ≤ upQ h d t ∧ upQ h d t ≤ hi := by
  have td1 : (t : Int) * d ≤ (h : Int) * hi := by
    have a := Int.mul_le_mul_of_nonneg_left h3 (show (0 : Int) ≤ t by omega)
    have b := Int.mul_le_mul_of_nonneg_right (show (t : Int) ≤ h by omega) h1
    omega
  have td2 : (h : Int) * lo ≤ (t : Int) * d := by
    have a := Int.mul_le_mul_of_nonneg_left h2 (show (0 : Int) ≤ t by omega)
    have b := Int.mul_le_mul_of_nonpos_right (show (t : Int) ≤ h by omega) h0
    omega
  constructor
  · have := (upQ_lt hh d t (lo - 1)).1 (by rw [Int.mul_sub]; omega)
    omega
  · have := mt (upQ_lt hh d t hi).2 (by omega)
    omega
theorem cw_box_up {X Y : Int} {m n : Nat} {a b : Pt} (ha : InBox X Y m n a) (hb : InBox X Y m n b) (hab : a.y < b.y) : 2 * boxS X Y m n (cw a b) = (a.x + b.x - 2 * X) * (b.y - a.y) + (b.y - a.y) - (b.x - a.x) - Nat.gcd (b.y - a.y).natAbs (b.x - a.x).natAbs := by
  obtain ⟨a1, a2, a3, a4⟩ := ha
  obtain ⟨b1, b2, b3, b4⟩ := hb
  obtain ⟨h, eh⟩ : ∃ h : Nat, b.y - a.y = h := ⟨(b.y - a.y).toNat, by omega⟩
  obtain ⟨p, ep⟩ : ∃ p : Nat, a.y - Y = p := ⟨(a.y - Y).toNat, by omega⟩
  have hh : 0 < h := by omega
  have row : ∀ y, y < n → sumN (fun x => cw a b ⟨X + (x : Nat), Y + (y : Nat)⟩) m = if p ≤ y ∧ y < p + h then (fun t => (a.x - X) + upQ h (b.x - a.x) t) (y - p) else 0 := fun y hy => by
    by_cases hw : p ≤ y ∧ y < p + h
    · rw [if_pos hw]
      have hb1 := upQ_bd hh (b.x - a.x) (t := y - p) (by omega) (X - a.x) (X + m - 1 - a.x) (by omega) (by omega) (by omega) (by omega)
      show _ = a.x - X + upQ h (b.x - a.x) (y - p)
      rw [← cnt_lt (a.x - X + upQ h (b.x - a.x) (y - p)) m (by omega) (by omega)]
      refine sumN_congr fun x hx => ?_
      have et : trn a b ⟨X + (x : Nat), Y + (y : Nat)⟩ = ((y - p : Nat) : Int) * (b.x - a.x) - (h : Int) * (X + x - a.x) := by
        rw [show ((y - p : Nat) : Int) = Y + y - a.y by omega, ← eh]; unfold trn; grind
      have key := upQ_lt hh (b.x - a.x) (y - p) (X + x - a.x)
      unfold cw
      rw [et]
      by_cases hl : (x : Int) < a.x - X + upQ h (b.x - a.x) (y - p)
      · rw [if_pos hl, if_pos]
        exact ⟨by show a.y ≤ Y + y; omega, by show Y + y < b.y; omega, by have := key.2 (by omega); omega⟩
      · rw [if_neg hl, if_neg, if_neg]
        · rintro ⟨h1, h2, _⟩
          have h1 : b.y ≤ Y + y := h1
          omega
        · rintro ⟨_, _, h3⟩
          exact hl (by have := key.1 (by omega); omega)
    · rw [if_neg hw]
      refine sumN_zero fun x _ => ?_
      unfold cw
      rw [if_neg, if_neg]
      · rintro ⟨h1, h2, _⟩
        have h1 : b.y ≤ Y + y := h1
        have h2 : Y + y < a.y := h2
        omega
      · rintro ⟨h1, h2, _⟩
        have h1 : a.y ≤ Y + y := h1
        have h2 : Y + y < b.y := h2
        omega
  have e1 : boxS X Y m n (cw a b) = sumN (fun t => (a.x - X) + upQ h (b.x - a.x) t) h := by
    unfold boxS
    rw [sumN_congr row]
    exact sumN_win (fun t => (a.x - X) + upQ h (b.x - a.x) t) p h n (by omega)
  have c1 : ∀ (c : Int) (n : Nat), sumN (fun _ => c) n = n * c := fun c n => by
    induction n with
    | zero => show (0 : Int) = _; simp
    | succ n ih => show sumN (fun _ => c) n + c = _; rw [ih]; push_cast; rw [Int.add_mul]; omega
  have e2 := upQ_sum hh (b.x - a.x)
  rw [e1, sumN_add, c1, Int.mul_add, e2, eh, Int.natAbs_natCast]
  have : 2 * ((h : Int) * (a.x - X)) + ((h : Int) * (b.x - a.x)) = (a.x + b.x - 2 * X) * h := by grind
  omega
theorem cw_hor {a b : Pt} (h : a.y = b.y) (q : Pt) : cw a b q = 0 := by
  unfold cw
  rw [if_neg (by omega), if_neg (by omega)]
/-- Which edges have the points on them counted. -/
def epsI (a b : Pt) : Int := if b.y < a.y ∨ (b.y = a.y ∧ a.x < b.x) then 1 else 0
def gcdE (a b : Pt) : Int := gcdI (b.x - a.x) (b.y - a.y)
theorem gcdE_swap (a b : Pt) : gcdE b a = gcdE a b := by
  unfold gcdE gcdI
  rw [show a.x - b.x = -(b.x - a.x) by omega, show a.y - b.y = -(b.y - a.y) by omega, Int.neg_gcd, Int.gcd_neg]
theorem cw_box {X Y : Int} {m n : Nat} {a b : Pt} (ha : InBox X Y m n a) (hb : InBox X Y m n b) : 2 * boxS X Y m n (cw a b) = (a.x + b.x - 2 * X) * (b.y - a.y) + (b.y - a.y) - (b.x - a.x) + (2 * epsI a b - 1) * gcdE a b := by
  rcases Int.lt_trichotomy a.y b.y with h | h | h
  · have e := cw_box_up ha hb h
    have eE : epsI a b = 0 := if_neg (by omega)
    have eg : gcdE a b = Nat.gcd (b.y - a.y).natAbs (b.x - a.x).natAbs := by
      unfold gcdE gcdI Int.gcd
      rw [Nat.gcd_comm]
    rw [e, eE, eg]; omega
  · have e0 : boxS X Y m n (cw a b) = 0 := sumN_zero fun y _ => sumN_zero fun x _ => cw_hor h _
    have eg : gcdE a b = (b.x - a.x).natAbs := by
      unfold gcdE gcdI
      rw [show b.y - a.y = 0 by omega, Int.gcd_zero]
    rw [e0, eg, show b.y - a.y = 0 by omega]
    unfold epsI
    by_cases hx : a.x < b.x
    · rw [if_pos (.inr ⟨h.symm, hx⟩)]; omega
    · rw [if_neg (by omega)]; omega
  · have e := cw_box_up hb ha h
    have eE : epsI a b = 1 := if_pos (.inl h)
    have eg : gcdE a b = Nat.gcd (a.y - b.y).natAbs (a.x - b.x).natAbs := by
      rw [← gcdE_swap]
      unfold gcdE gcdI Int.gcd
      rw [Nat.gcd_comm]
    have es : boxS X Y m n (cw a b) = -boxS X Y m n (cw b a) := by
      have := boxS_mul X Y m n (-1) (cw b a)
      rw [boxS_congr (g := cw a b) fun q => by rw [cw_swap a b]; omega] at this
      omega
    have : (a.x + b.x - 2 * X) * (b.y - a.y) = -((b.x + a.x - 2 * X) * (a.y - b.y)) := by grind
    rw [es, eE, eg]; omega
/-! ### lattice points on a side -/
def oS (a b q : Pt) : Int := if onSeg a b q = true ∧ q ≠ a ∧ q ≠ b then 1 else 0
theorem oS_swap (a b q : Pt) : oS b a q = oS a b q := by
  unfold oS
  rw [onSeg_swap]
  by_cases h : onSeg a b q = true ∧ q ≠ a ∧ q ≠ b
  · rw [if_pos h, if_pos ⟨h.1, h.2.2, h.2.1⟩]
  · rw [if_neg h, if_neg fun hh => h ⟨hh.1, hh.2.2, hh.2.1⟩]
theorem on_up {a b q : Pt} (hab : a.y < b.y) : onSeg a b q = true ↔ trn a b q = 0 ∧ a.y ≤ q.y ∧ q.y ≤ b.y := by
  have e : trn a b q = 0 → (b.y - a.y) * (b.y - a.y) * ((a.x - q.x) * (b.x - q.x) + (a.y - q.y) * (b.y - q.y)) = -(((b.x - a.x) * (b.x - a.x) + (b.y - a.y) * (b.y - a.y)) * ((q.y - a.y) * (b.y - q.y))) := fun h => by
    have h : (b.y - a.y) * (q.x - a.x) = (b.x - a.x) * (q.y - a.y) := by unfold trn at h; omega
    have x1 : (b.y - a.y) * (a.x - q.x) = -((b.x - a.x) * (q.y - a.y)) := by grind
    have x2 : (b.y - a.y) * (b.x - q.x) = (b.x - a.x) * (b.y - q.y) := by grind
    have : (b.y - a.y) * (b.y - a.y) * ((a.x - q.x) * (b.x - q.x) + (a.y - q.y) * (b.y - q.y)) = ((b.y - a.y) * (a.x - q.x)) * ((b.y - a.y) * (b.x - q.x)) + (b.y - a.y) * (b.y - a.y) * ((a.y - q.y) * (b.y - q.y)) := by grind
    rw [this, x1, x2]; grind
  have hp : 0 < (b.y - a.y) * (b.y - a.y) := Int.mul_pos (by omega) (by omega)
  have hs : 0 < (b.x - a.x) * (b.x - a.x) + (b.y - a.y) * (b.y - a.y) := by have := sq_nonneg' (b.x - a.x); omega
  unfold onSeg
  rw [Bool.and_eq_true, decide_eq_true_eq, decide_eq_true_eq]
  constructor
  · rintro ⟨h1, h2⟩
    have e := e h1
    have h3 := Int.mul_nonpos_of_nonneg_of_nonpos (Int.le_of_lt hp) h2
    refine ⟨h1, ?_⟩
    refine Classical.byContradiction fun hn => ?_
    have : (q.y - a.y) * (b.y - q.y) < 0 := by
      rcases Int.lt_or_le q.y a.y with h | h
      · exact Int.mul_neg_of_neg_of_pos (by omega) (by omega)
      · exact Int.mul_neg_of_pos_of_neg (by omega) (by omega)
    have := Int.mul_neg_of_pos_of_neg hs this
    omega
  · rintro ⟨h1, h2, h3⟩
    have e := e h1
    refine ⟨h1, Classical.byContradiction fun hn => ?_⟩
    have k1 := Int.mul_pos hp (show 0 < (a.x - q.x) * (b.x - q.x) + (a.y - q.y) * (b.y - q.y) by omega)
    have k2 := Int.mul_nonneg (Int.le_of_lt hs) (Int.mul_nonneg (show 0 ≤ q.y - a.y by omega) (show 0 ≤ b.y - q.y by omega))
    omega
theorem oS_up {X Y : Int} {m n : Nat} {a b : Pt} (ha : InBox X Y m n a) (hb : InBox X Y m n b) (hab : a.y < b.y) : boxS X Y m n (oS a b) = gcdE a b - 1 := by
  obtain ⟨a1, a2, a3, a4⟩ := ha
  obtain ⟨b1, b2, b3, b4⟩ := hb
  obtain ⟨h, eh⟩ : ∃ h : Nat, b.y - a.y = h := ⟨(b.y - a.y).toNat, by omega⟩
  obtain ⟨p, ep⟩ : ∃ p : Nat, a.y - Y = p := ⟨(a.y - Y).toNat, by omega⟩
  have hh : 0 < h := by omega
  have et : ∀ x y : Nat, trn a b ⟨X + (x : Nat), Y + (y : Nat)⟩ = (Y + y - a.y) * (b.x - a.x) - (h : Int) * (X + x - a.x) := fun x y => by
    rw [← eh]; unfold trn; grind
  have row : ∀ y, y < n → sumN (fun x => oS a b ⟨X + (x : Nat), Y + (y : Nat)⟩) m = if p ≤ y ∧ y < p + h then (fun t => dvN h (b.x - a.x) t + if (t : Int) = 0 then -1 else 0) (y - p) else 0 := fun y hy => by
    by_cases hw : p < y ∧ y < p + h
    · rw [if_pos (by omega)]
      show _ = dvN h (b.x - a.x) (y - p) + if ((y - p : Nat) : Int) = 0 then -1 else 0
      rw [if_neg (by omega), Int.add_zero]
      have hb1 := upQ_bd hh (b.x - a.x) (t := y - p) (by omega) (X - a.x) (X + m - 1 - a.x) (by omega) (by omega) (by omega) (by omega)
      have on : ∀ x : Nat, oS a b ⟨X + (x : Nat), Y + (y : Nat)⟩ = if (h : Int) * (X + x - a.x) = ((y - p : Nat) : Int) * (b.x - a.x) then 1 else 0 := fun x => by
        unfold oS
        have e := on_up (q := ⟨X + (x : Nat), Y + (y : Nat)⟩) hab
        rw [et, show Y + (y : Int) - a.y = ((y - p : Nat) : Int) by omega] at e
        by_cases hz : (h : Int) * (X + x - a.x) = ((y - p : Nat) : Int) * (b.x - a.x)
        · rw [if_pos hz, if_pos]
          refine ⟨e.2 ⟨by omega, by show a.y ≤ Y + y; omega, by show Y + y ≤ b.y; omega⟩, fun hc => ?_, fun hc => ?_⟩
          · have : Y + (y : Int) = a.y := congrArg Pt.y hc
            omega
          · have : Y + (y : Int) = b.y := congrArg Pt.y hc
            omega
        · rw [if_neg hz, if_neg fun hc => hz (by have := (e.1 hc.1).1; omega)]
      rw [sumN_congr fun x _ => on x]
      unfold dvN
      by_cases hd : (h : Int) ∣ ((y - p : Nat) : Int) * (b.x - a.x)
      · rw [if_pos hd]
        have uq : upQ h (b.x - a.x) (y - p) = ((y - p : Nat) : Int) * (b.x - a.x) / h := by
          unfold upQ
          obtain ⟨c, ec⟩ := hd
          rw [ec, show -((h : Int) * c) = h * (-c) by rw [Int.mul_neg], Int.mul_ediv_cancel_left _ (by omega), Int.mul_ediv_cancel_left _ (by omega)]; omega
        obtain ⟨c, ec⟩ := hd
        rw [ec, Int.mul_ediv_cancel_left _ (by omega)] at uq
        rw [sumN_congr (g := fun x => if (x : Int) = a.x - X + c then 1 else 0) fun x _ => ?_, cnt_eq, if_pos (by omega)]
        by_cases hx : (x : Int) = a.x - X + c
        · rw [if_pos hx, if_pos (by rw [ec, hx]; congr 1; omega)]
        · rw [if_neg hx, if_neg fun hc => hx (by rw [ec] at hc; have := Int.eq_of_mul_eq_mul_left (by omega) hc; omega)]
      · rw [if_neg hd]
        exact sumN_zero fun x _ => if_neg fun hc => hd ⟨_, hc.symm⟩
    · have z : ∀ x : Nat, oS a b ⟨X + (x : Nat), Y + (y : Nat)⟩ = 0 := fun x => by
        unfold oS
        refine if_neg fun hc => ?_
        obtain ⟨c1, c2, c3⟩ := (on_up hab).1 hc.1
        have c2 : a.y ≤ Y + y := c2
        have c3 : Y + y ≤ b.y := c3
        rw [et] at c1
        by_cases y0 : y = p
        · rw [show Y + (y : Int) - a.y = 0 by omega, Int.zero_mul] at c1
          have := (Int.mul_eq_zero.1 (show (h : Int) * (X + x - a.x) = 0 by omega)).resolve_left (by omega)
          refine hc.2.1 ?_
          cases a
          simp only at *
          congr 1 <;> omega
        · have yh : (y : Int) = p + h := by omega
          rw [show Y + (y : Int) - a.y = h by omega] at c1
          have : (h : Int) * (b.x - a.x) = h * (X + x - a.x) := by omega
          have := Int.eq_of_mul_eq_mul_left (by omega) this
          refine hc.2.2 ?_
          cases b
          simp only at *
          congr 1 <;> omega
      rw [sumN_zero fun x _ => z x]
      by_cases hw2 : p ≤ y ∧ y < p + h
      · rw [if_pos hw2]
        show 0 = dvN h (b.x - a.x) (y - p) + if ((y - p : Nat) : Int) = 0 then -1 else 0
        rw [show y - p = 0 by omega, if_pos (by omega)]
        unfold dvN
        rw [if_pos (by simp)]; rfl
      · rw [if_neg hw2]
  have e1 : boxS X Y m n (oS a b) = sumN (fun t => dvN h (b.x - a.x) t + if (t : Int) = 0 then -1 else 0) h := by
    unfold boxS
    rw [sumN_congr row]
    exact sumN_win (fun t => dvN h (b.x - a.x) t + if (t : Int) = 0 then -1 else 0) p h n (by omega)
  have eg : gcdE a b = Nat.gcd h (b.x - a.x).natAbs := by
    unfold gcdE gcdI Int.gcd
    rw [Nat.gcd_comm, eh, Int.natAbs_natCast]
  rw [e1, sumN_add, dv_sum hh, cnt_eq, if_pos (by omega), eg]; omega
theorem on_hor {a b q : Pt} (hab : a.y = b.y) (hx : a.x < b.x) : onSeg a b q = true ↔ q.y = a.y ∧ a.x ≤ q.x ∧ q.x ≤ b.x := by
  unfold onSeg
  rw [Bool.and_eq_true, decide_eq_true_eq, decide_eq_true_eq]
  have e : trn a b q = (b.x - a.x) * (q.y - a.y) := by unfold trn; rw [← hab]; grind
  rw [e]
  constructor
  · rintro ⟨h1, h2⟩
    have hy := (Int.mul_eq_zero.1 h1).resolve_left (by omega)
    rw [show a.y - q.y = 0 by omega, Int.zero_mul] at h2
    refine ⟨by omega, ?_⟩
    refine Classical.byContradiction fun hn => ?_
    rcases Int.lt_or_le q.x a.x with h | h
    · have := Int.mul_pos (show 0 < a.x - q.x by omega) (show 0 < b.x - q.x by omega); omega
    · have := Int.mul_pos_of_neg_of_neg (show a.x - q.x < 0 by omega) (show b.x - q.x < 0 by omega); omega
  · rintro ⟨h1, h2, h3⟩
    refine ⟨by rw [h1, Int.sub_self, Int.mul_zero], ?_⟩
    rw [show a.y - q.y = 0 by omega, Int.zero_mul]
    have := Int.mul_nonpos_of_nonpos_of_nonneg (show a.x - q.x ≤ 0 by omega) (show 0 ≤ b.x - q.x by omega)
    omega
theorem oS_hor {X Y : Int} {m n : Nat} {a b : Pt} (ha : InBox X Y m n a) (hb : InBox X Y m n b) (hab : a.y = b.y) (hx : a.x < b.x) : boxS X Y m n (oS a b) = gcdE a b - 1 := by
  obtain ⟨a1, a2, a3, a4⟩ := ha
  obtain ⟨b1, b2, b3, b4⟩ := hb
  have row : ∀ y, y < n → sumN (fun x => oS a b ⟨X + (x : Nat), Y + (y : Nat)⟩) m = if (y : Int) = a.y - Y then b.x - a.x - 1 else 0 := fun y hy => by
    by_cases h : (y : Int) = a.y - Y
    · rw [if_pos h]
      have e1 := cnt_lt (b.x - X) m (by omega) (by omega)
      have e2 := cnt_lt (a.x - X + 1) m (by omega) (by omega)
      have e3 : sumN (fun x => oS a b ⟨X + (x : Nat), Y + (y : Nat)⟩ + if (x : Int) < a.x - X + 1 then 1 else 0) m = sumN (fun x => if (x : Int) < b.x - X then 1 else 0) m := sumN_congr fun x _ => by
        unfold oS
        have on := on_hor (q := ⟨X + (x : Nat), Y + (y : Nat)⟩) hab hx
        by_cases c1 : a.x < X + x ∧ X + x < b.x
        · rw [if_pos, if_neg (by omega), if_pos (by omega)]; rfl
          refine ⟨on.2 ⟨by show Y + (y : Int) = a.y; omega, by show a.x ≤ X + x; omega, by show X + (x : Int) ≤ b.x; omega⟩, fun hc => ?_, fun hc => ?_⟩
          · have : X + (x : Int) = a.x := congrArg Pt.x hc
            omega
          · have : X + (x : Int) = b.x := congrArg Pt.x hc
            omega
        · rw [if_neg]
          · by_cases c2 : (x : Int) < a.x - X + 1
            · rw [if_pos c2, if_pos (by omega)]; rfl
            · rw [if_neg c2, if_neg (by omega)]; rfl
          · rintro ⟨hc1, hc2, hc3⟩
            obtain ⟨h1, h2, h3⟩ := on.1 hc1
            have h2 : a.x ≤ X + x := h2
            have h3 : X + (x : Int) ≤ b.x := h3
            have h1 : Y + (y : Int) = a.y := h1
            by_cases k1 : X + (x : Int) = a.x
            · refine hc2 ?_
              cases a
              simp only at *
              congr 1
            · refine hc3 ?_
              cases b
              simp only at *
              congr 1 <;> omega
      rw [sumN_add, e1, e2] at e3
      omega
    · rw [if_neg h]
      refine sumN_zero fun x _ => ?_
      unfold oS
      refine if_neg fun hc => ?_
      have : Y + (y : Int) = a.y := ((on_hor hab hx).1 hc.1).1
      omega
  have eg : gcdE a b = b.x - a.x := by
    unfold gcdE gcdI
    rw [show b.y - a.y = 0 by omega, Int.gcd_zero]; omega
  unfold boxS
  rw [sumN_congr row, cnt_eq, if_pos (by omega), eg]
/-- A side has one point less than its divisor between its ends. -/
theorem oS_box {X Y : Int} {m n : Nat} {a b : Pt} (ha : InBox X Y m n a) (hb : InBox X Y m n b) (hab : a ≠ b) : boxS X Y m n (oS a b) = gcdE a b - 1 := by
  rcases Int.lt_trichotomy a.y b.y with h | h | h
  · exact oS_up ha hb h
  · rcases Int.lt_trichotomy a.x b.x with hx | hx | hx
    · exact oS_hor ha hb h hx
    · refine absurd ?_ hab
      cases a; cases b
      simp only at h hx
      rw [h, hx]
    · rw [boxS_congr (g := oS b a) fun q => (oS_swap a b q).symm, oS_hor hb ha h.symm hx, gcdE_swap]
  · rw [boxS_congr (g := oS b a) fun q => (oS_swap a b q).symm, oS_up hb ha h, gcdE_swap]
/-! ### a triangle's points -/
def vtx (o q r : Pt) : Int := if r.y ≤ q.y ∧ q.y < o.y then 1 else 0
def sT (a b c q : Pt) : Int := if 0 < trn b c q ∧ 0 < trn c a q ∧ 0 < trn a b q then 1 else 0
theorem cwT_rot (a b c q : Pt) : cwT b c a q = cwT a b c q := by unfold cwT; omega
theorem sT_rot (a b c q : Pt) : sT b c a q = sT a b c q := by
  unfold sT
  by_cases h : 0 < trn b c q ∧ 0 < trn c a q ∧ 0 < trn a b q
  · rw [if_pos h, if_pos ⟨h.2.1, h.2.2, h.1⟩]
  · rw [if_neg h, if_neg fun hh => h ⟨hh.2.2, hh.1, hh.2.1⟩]
/-- At a corner. -/
theorem cwT_vtx {a b c : Pt} (h : 0 < trn a b c) : cwT a b c a = vtx c a b := by
  have h1 : trn b c a = trn a b c := trn_r1 a b c
  unfold cwT cw vtx
  rw [trn_aba, trn_abb, h1]
  (repeat' split) <;> omega
/-- On an open side. -/
theorem cwT_side {a b c q : Pt} (h : 0 < trn a b c) (h0 : trn a b q = 0) (h1 : 0 < trn b c q) (h2 : 0 < trn c a q) : cwT a b c q = epsI a b := by
  have hb := bary_y a b c q
  rw [h0, Int.zero_mul, Int.add_zero] at hb
  have hy : (a.y < q.y ∧ q.y < b.y) ∨ (b.y < q.y ∧ q.y < a.y) ∨ (a.y = q.y ∧ b.y = q.y) := by
    rcases Int.lt_trichotomy a.y q.y with hl | hl | hl
    · have := Int.mul_neg_of_pos_of_neg h1 (show a.y - q.y < 0 by omega)
      have : 0 < b.y - q.y := Classical.byContradiction fun hn => by
        have := Int.mul_nonpos_of_nonneg_of_nonpos (Int.le_of_lt h2) (show b.y - q.y ≤ 0 by omega)
        omega
      omega
    · rw [show a.y - q.y = 0 by omega, Int.mul_zero, Int.zero_add] at hb
      have := (Int.mul_eq_zero.1 hb).resolve_left (by omega)
      omega
    · have := Int.mul_pos h1 (show 0 < a.y - q.y by omega)
      have : b.y - q.y < 0 := Classical.byContradiction fun hn => by
        have := Int.mul_nonneg (Int.le_of_lt h2) (show 0 ≤ b.y - q.y by omega)
        omega
      omega
  have hor : a.y = b.y → (a.x < b.x ∧ a.y < c.y) ∨ (b.x < a.x ∧ c.y < a.y) := fun e => by
    have et : trn a b c = (b.x - a.x) * (c.y - a.y) := by unfold trn; rw [← e]; grind
    rw [et] at h
    rcases Int.lt_trichotomy a.x b.x with hl | hl | hl
    · left; refine ⟨hl, Classical.byContradiction fun hn => ?_⟩
      have := Int.mul_nonpos_of_nonneg_of_nonpos (show 0 ≤ b.x - a.x by omega) (show c.y - a.y ≤ 0 by omega)
      omega
    · rw [show b.x - a.x = 0 by omega, Int.zero_mul] at h; omega
    · right; refine ⟨hl, Classical.byContradiction fun hn => ?_⟩
      have := Int.mul_nonpos_of_nonpos_of_nonneg (show b.x - a.x ≤ 0 by omega) (show 0 ≤ c.y - a.y by omega)
      omega
  clear hb
  unfold cwT cw epsI
  rw [h0]
  rcases hy with hy | hy | hy
  · clear hor; (repeat' split) <;> omega
  · clear hor; (repeat' split) <;> omega
  · have := hor (by omega)
    clear hor; (repeat' split) <;> omega
/-- Two lines of a triangle meet at its corner. -/
theorem two_lines {a b c q : Pt} (h : 0 < trn a b c) (h1 : trn a b q = 0) (h2 : trn b c q = 0) : q = b := by
  have x2 : trn a b c * (b.x - q.x) = trn b c q * (b.x - a.x) + trn a b q * (b.x - c.x) := by unfold trn; grind
  have y2 : trn a b c * (b.y - q.y) = trn b c q * (b.y - a.y) + trn a b q * (b.y - c.y) := by unfold trn; grind
  rw [h1, h2, Int.zero_mul, Int.zero_mul] at x2 y2
  have e1 := (Int.mul_eq_zero.1 (x2.trans rfl)).resolve_left (by omega)
  have e2 := (Int.mul_eq_zero.1 (y2.trans rfl)).resolve_left (by omega)
  cases q; cases b
  simp only at e1 e2
  congr 1 <;> omega
theorem tri_ne {a b c : Pt} (h : 0 < trn a b c) : a ≠ b ∧ b ≠ c ∧ c ≠ a := by
  refine ⟨fun e => ?_, fun e => ?_, fun e => ?_⟩
  · rw [e, trn_aab] at h; omega
  · rw [e, trn_abb] at h; omega
  · rw [e, trn_aba] at h; omega
/-- What an open side's point sees. -/
theorem oS_pos {a b c q : Pt} (h : 0 < trn a b c) (ho : onSeg a b q = true ∧ q ≠ a ∧ q ≠ b) : trn a b q = 0 ∧ 0 < trn b c q ∧ 0 < trn c a q := by
  obtain ⟨h1, h2, h3⟩ := ho
  have h0 := onS_iff h1
  obtain ⟨g1, g2⟩ := seg_pos (tri_ne h).1 h1 h
  refine ⟨h0, ?_, ?_⟩
  · rcases Int.lt_or_le 0 (trn b c q) with hl | hl
    · exact hl
    · exact absurd (two_lines h h0 (by omega)) h3
  · rcases Int.lt_or_le 0 (trn c a q) with hl | hl
    · exact hl
    · refine absurd (two_lines (a := c) (b := a) (c := b) (by rw [trn_r2]; exact h) (by omega) h0) h2
theorem oS_no {a b q : Pt} (h : trn a b q ≠ 0) : oS a b q = 0 := if_neg fun hc => h (onS_iff hc.1)
theorem tri_point {a b c : Pt} (h : 0 < trn a b c) (q : Pt) : cwT a b c q = sT a b c q + (epsI a b * oS a b q + epsI b c * oS b c q + epsI c a * oS c a q) + ((if q = a then vtx c a b else 0) + (if q = b then vtx a b c else 0) + (if q = c then vtx b c a else 0)) := by
  have hr1 : 0 < trn b c a := by rw [trn_r1]; exact h
  have hr2 : 0 < trn c a b := by rw [trn_r2]; exact h
  obtain ⟨n1, n2, n3⟩ := tri_ne h
  have atv : ∀ {a b c : Pt}, 0 < trn a b c → sT a b c a = 0 ∧ oS a b a = 0 ∧ oS b c a = 0 ∧ oS c a a = 0 := fun {a b c} h => by
    refine ⟨if_neg fun hc => ?_, if_neg fun hc => hc.2.1 rfl, oS_no (by rw [trn_r1]; omega), if_neg fun hc => hc.2.2 rfl⟩
    rw [trn_aba] at hc; omega
  have side : ∀ {a b c : Pt}, 0 < trn a b c → (onSeg a b q = true ∧ q ≠ a ∧ q ≠ b) → q ≠ c ∧ sT a b c q = 0 ∧ oS a b q = 1 ∧ oS b c q = 0 ∧ oS c a q = 0 ∧ cwT a b c q = epsI a b := fun {a b c} h ho => by
    obtain ⟨z, p1, p2⟩ := oS_pos h ho
    refine ⟨fun e => by rw [e, trn_abb] at p1; omega, if_neg fun hc => by omega, if_pos ho, oS_no (by omega), oS_no (by omega), cwT_side h z p1 p2⟩
  by_cases qa : q = a
  · subst qa
    obtain ⟨e1, e2, e3, e4⟩ := atv h
    rw [cwT_vtx h, e1, e2, e3, e4, if_pos rfl, if_neg n1, if_neg n3.symm]; omega
  by_cases qb : q = b
  · subst qb
    obtain ⟨e1, e2, e3, e4⟩ := atv hr1
    rw [← cwT_rot, ← sT_rot, cwT_vtx hr1, e1, e2, e3, e4, if_neg n1.symm, if_pos rfl, if_neg n2]; omega
  by_cases qc : q = c
  · subst qc
    obtain ⟨e1, e2, e3, e4⟩ := atv hr2
    rw [← cwT_rot, ← cwT_rot, ← sT_rot, ← sT_rot, cwT_vtx hr2, e1, e2, e3, e4, if_neg n3, if_neg n2.symm, if_pos rfl]; omega
  rw [if_neg qa, if_neg qb, if_neg qc]
  by_cases o1 : onSeg a b q = true ∧ q ≠ a ∧ q ≠ b
  · obtain ⟨_, e1, e2, e3, e4, e5⟩ := side h o1
    rw [e1, e2, e3, e4, e5]; omega
  by_cases o2 : onSeg b c q = true ∧ q ≠ b ∧ q ≠ c
  · obtain ⟨_, e1, e2, e3, e4, e5⟩ := side hr1 o2
    rw [← cwT_rot, ← sT_rot, e1, e2, e3, e4, e5]; omega
  by_cases o3 : onSeg c a q = true ∧ q ≠ c ∧ q ≠ a
  · obtain ⟨_, e1, e2, e3, e4, e5⟩ := side hr2 o3
    rw [← cwT_rot, ← cwT_rot, ← sT_rot, ← sT_rot, e1, e2, e3, e4, e5]; omega
  have z1 : oS a b q = 0 := if_neg o1
  have z2 : oS b c q = 0 := if_neg o2
  have z3 : oS c a q = 0 := if_neg o3
  rw [z1, z2, z3]
  by_cases hs : 0 < trn b c q ∧ 0 < trn c a q ∧ 0 < trn a b q
  · rw [cwT_yes hs.1 hs.2.1 hs.2.2, show sT a b c q = 1 from if_pos hs]; omega
  · rw [show sT a b c q = 0 from if_neg hs]
    rcases cwT_01 h q with e | e
    · rw [e]; omega
    · exfalso
      obtain ⟨i1, i2, i3⟩ := cwT_in h e
      by_cases t3 : trn a b q = 0
      · exact o1 ⟨side_on h i1 i2 t3, qa, qb⟩
      by_cases t1 : trn b c q = 0
      · exact o2 ⟨side_on hr1 i2 i3 t1, qb, qc⟩
      by_cases t2 : trn c a q = 0
      · exact o3 ⟨side_on hr2 i3 i1 t2, qc, qa⟩
      exact hs (by omega)
theorem vtx_sum {a b c : Pt} (h : 0 < trn a b c) : vtx c a b + vtx a b c + vtx b c a = epsI a b + epsI b c + epsI c a - 1 := by
  have hor : ∀ {a b c : Pt}, 0 < trn a b c → a.y = b.y → (a.x < b.x ∧ a.y < c.y) ∨ (b.x < a.x ∧ c.y < a.y) := fun {a b c} h e => by
    have et : trn a b c = (b.x - a.x) * (c.y - a.y) := by unfold trn; rw [← e]; grind
    rw [et] at h
    rcases Int.lt_trichotomy a.x b.x with hl | hl | hl
    · left; refine ⟨hl, Classical.byContradiction fun hn => ?_⟩
      have := Int.mul_nonpos_of_nonneg_of_nonpos (show 0 ≤ b.x - a.x by omega) (show c.y - a.y ≤ 0 by omega)
      omega
    · rw [show b.x - a.x = 0 by omega, Int.zero_mul] at h; omega
    · right; refine ⟨hl, Classical.byContradiction fun hn => ?_⟩
      have := Int.mul_nonpos_of_nonpos_of_nonneg (show b.x - a.x ≤ 0 by omega) (show 0 ≤ c.y - a.y by omega)
      omega
  have h1 := hor h
  have h2 := hor (a := b) (b := c) (c := a) (by rw [trn_r1]; exact h)
  have h3 := hor (a := c) (b := a) (c := b) (by rw [trn_r2]; exact h)
  have k1 : a.y ≠ b.y ∨ (a.x < b.x ∧ a.y < c.y) ∨ (b.x < a.x ∧ c.y < a.y) := by by_cases e : a.y = b.y; exact .inr (h1 e); exact .inl e
  have k2 : b.y ≠ c.y ∨ (b.x < c.x ∧ b.y < a.y) ∨ (c.x < b.x ∧ a.y < b.y) := by by_cases e : b.y = c.y; exact .inr (h2 e); exact .inl e
  have k3 : c.y ≠ a.y ∨ (c.x < a.x ∧ c.y < b.y) ∨ (a.x < c.x ∧ b.y < c.y) := by by_cases e : c.y = a.y; exact .inr (h3 e); exact .inl e
  clear h1 h2 h3 h hor
  unfold vtx epsI
  (repeat' split) <;> omega
/-- Pick's theorem for a triangle. -/
theorem pick_tri {X Y : Int} {m n : Nat} {a b c : Pt} (h : 0 < trn a b c) (ha : InBox X Y m n a) (hb : InBox X Y m n b) (hc : InBox X Y m n c) : 2 * boxS X Y m n (sT a b c) = trn a b c - (gcdE a b + gcdE b c + gcdE c a) + 2 := by
  obtain ⟨n1, n2, n3⟩ := tri_ne h
  have e := boxS_congr (X := X) (Y := Y) (m := m) (n := n) (tri_point h)
  have s1 := cw_box ha hb
  have s2 := cw_box hb hc
  have s3 := cw_box hc ha
  have w : boxS X Y m n (cwT a b c) = boxS X Y m n (cw a b) + boxS X Y m n (cw b c) + boxS X Y m n (cw c a) := by
    rw [← boxS_add, ← boxS_add]; rfl
  rw [boxS_add, boxS_add, boxS_add, boxS_add, boxS_add, boxS_add, boxS_mul, boxS_mul, boxS_mul, boxS_pt ha, boxS_pt hb, boxS_pt hc, oS_box ha hb n1, oS_box hb hc n2, oS_box hc ha n3] at e
  have v := vtx_sum h
  have A : (a.x + b.x - 2 * X) * (b.y - a.y) + (b.x + c.x - 2 * X) * (c.y - b.y) + (c.x + a.x - 2 * X) * (a.y - c.y) = trn a b c := by unfold trn; grind
  have d1 : (2 * epsI a b - 1) * gcdE a b = 2 * (epsI a b * gcdE a b) - gcdE a b := by grind
  have d2 : (2 * epsI b c - 1) * gcdE b c = 2 * (epsI b c * gcdE b c) - gcdE b c := by grind
  have d3 : (2 * epsI c a - 1) * gcdE c a = 2 * (epsI c a * gcdE c a) - gcdE c a := by grind
  have g1 : epsI a b * (gcdE a b - 1) = epsI a b * gcdE a b - epsI a b := by grind
  have g2 : epsI b c * (gcdE b c - 1) = epsI b c * gcdE b c - epsI b c := by grind
  have g3 : epsI c a * (gcdE c a - 1) = epsI c a * gcdE c a - epsI c a := by grind
  rw [g1, g2, g3] at e
  rw [d1] at s1
  rw [d2] at s2
  rw [d3] at s3
  omega
/-! ### rings -/
/-- A point within a triangle of a division of a ring is inside of it. -/
theorem ring_inside {ps : List Pt} {rs : List Nat} (hR : RingOk ps rs) {T : List Tri3} (hP : Parts rs T) (ok : ∀ t ∈ T, TriOk ps.length t) (pos : ∀ t ∈ T, 0 < trn (gp ps t.a) (gp ps t.b) (gp ps t.c)) {s : Tri3} (hs : s ∈ T) {q : Pt}
    (h1 : 0 < trn (gp ps s.b) (gp ps s.c) q) (h2 : 0 < trn (gp ps s.c) (gp ps s.a) q) (h3 : 0 < trn (gp ps s.a) (gp ps s.b) q) : (∀ a b, Fol rs a b → onSeg (gp ps a) (gp ps b) q = false) ∧ wn (rpt ps rs) q = 1 := by
  have n3 := hR.three
  constructor
  · intro a b hf
    rw [← Bool.not_eq_true]
    intro hq
    have hab : gp ps a ≠ gp ps b := ring_ne hR hf.mem.1 hf.mem.2 fun e => by
      subst e
      obtain ⟨j, hj, e1, e2⟩ := hf
      have : (j + 1) % rs.length = j := gn_inj hR.nodup (Nat.mod_lt _ (by omega)) hj (e2.trans e1.symm)
      have mj := mod_next hj
      split at mj <;> omega
    have c1 := (hP.one a b hf).1
    obtain ⟨u, hu, hsd⟩ := List.countP_pos_iff.1 (show 0 < T.countP fun t => sideB t a b by unfold cntS at c1; omega)
    have su : s ≠ u := fun e => by
      subst e
      have z := onS_iff hq
      rcases sideB_iff.1 hsd with ⟨rfl, rfl⟩ | ⟨rfl, rfl⟩ | ⟨rfl, rfl⟩ <;> omega
    obtain ⟨d, hF, hd⟩ := side_third (ok u hu) hsd
    have hd0 : 0 < trn (gp ps a) (gp ps b) (gp ps d) := by rw [← hd ps]; exact pos u hu
    obtain ⟨g1, g2⟩ := seg_pos hab hq hd0
    have g0 := onS_iff hq
    obtain ⟨L, hL0, l1, l2, l3⟩ := bd_three (trn (gp ps s.b) (gp ps s.c) (gp ps a) + (trn (gp ps s.b) (gp ps s.c) (gp ps b) + trn (gp ps s.b) (gp ps s.c) (gp ps d))) (trn (gp ps s.c) (gp ps s.a) (gp ps a) + (trn (gp ps s.c) (gp ps s.a) (gp ps b) + trn (gp ps s.c) (gp ps s.a) (gp ps d))) (trn (gp ps s.a) (gp ps s.b) (gp ps a) + (trn (gp ps s.a) (gp ps s.b) (gp ps b) + trn (gp ps s.a) (gp ps s.b) (gp ps d)))
    obtain ⟨N, hN⟩ : ∃ N : Int, N = L + 4 := ⟨_, rfl⟩
    have hN0 : 0 < N := by omega
    obtain ⟨x, hx⟩ : ∃ x : Pt, x = ⟨(N - 3) * q.x + (gp ps a).x + (gp ps b).x + (gp ps d).x, (N - 3) * q.y + (gp ps a).y + (gp ps b).y + (gp ps d).y⟩ := ⟨_, rfl⟩
    have nt : ∀ i k, trn (gp (ps.map (scP N)) i) (gp (ps.map (scP N)) k) x = N * ((N - 3) * trn (gp ps i) (gp ps k) q + trn (gp ps i) (gp ps k) (gp ps a) + trn (gp ps i) (gp ps k) (gp ps b) + trn (gp ps i) (gp ps k) (gp ps d)) := fun i k => by rw [gp_sc, gp_sc, hx]; exact near_trn N _ _ q _ _ _
    have hR' := ring_sc hN0 hR
    have W := parts_wn hR' hP (fun t ht => by rw [List.length_map]; exact ok t ht) x
    have nn : ∀ t ∈ T, 0 ≤ cw (gp (ps.map (scP N)) t.a) (gp (ps.map (scP N)) t.b) x + cw (gp (ps.map (scP N)) t.b) (gp (ps.map (scP N)) t.c) x + cw (gp (ps.map (scP N)) t.c) (gp (ps.map (scP N)) t.a) x := fun t ht => by
      have hp : 0 < trn (gp (ps.map (scP N)) t.a) (gp (ps.map (scP N)) t.b) (gp (ps.map (scP N)) t.c) := by
        rw [gp_sc, gp_sc, gp_sc, trn_sc]
        exact Int.mul_pos (Int.mul_pos hN0 hN0) (pos t ht)
      have := cwT_01 hp x
      unfold cwT at this
      omega
    have T2 := sumF_two (F := fun i k => cw (gp (ps.map (scP N)) i) (gp (ps.map (scP N)) k) x) nn s hs u hu su
    have e1 : cwT (gp (ps.map (scP N)) s.a) (gp (ps.map (scP N)) s.b) (gp (ps.map (scP N)) s.c) x = 1 := by
      refine cwT_yes ?_ ?_ ?_
      · rw [nt, Int.add_assoc, Int.add_assoc]; exact lin_pos (L := L) (by omega) l1 hN hL0
      · rw [nt, Int.add_assoc, Int.add_assoc]; exact lin_pos (L := L) (by omega) l2 hN hL0
      · rw [nt, Int.add_assoc, Int.add_assoc]; exact lin_pos (L := L) (by omega) l3 hN hL0
    have e2 : cwT (gp (ps.map (scP N)) a) (gp (ps.map (scP N)) b) (gp (ps.map (scP N)) d) x = 1 := by
      refine cwT_yes ?_ ?_ ?_
      · rw [nt, trn_aba, trn_abb, trn_r1 (gp ps a) (gp ps b) (gp ps d)]
        have := Int.mul_nonneg (show 0 ≤ N - 3 by omega) g1
        exact Int.mul_pos hN0 (by omega)
      · rw [nt, trn_aba, trn_abb, trn_r2 (gp ps a) (gp ps b) (gp ps d)]
        have := Int.mul_nonneg (show 0 ≤ N - 3 by omega) g2
        exact Int.mul_pos hN0 (by omega)
      · rw [nt, trn_aba, trn_abb, g0, Int.mul_zero]
        exact Int.mul_pos hN0 (by omega)
    have hF2 := hF fun i k => cw (gp (ps.map (scP N)) i) (gp (ps.map (scP N)) k) x
    unfold cwT at e1 e2
    have B := wn_01 hR' x
    omega
  · have W := parts_wn hR hP ok q
    have nn : ∀ t ∈ T, 0 ≤ cw (gp ps t.a) (gp ps t.b) q + cw (gp ps t.b) (gp ps t.c) q + cw (gp ps t.c) (gp ps t.a) q := fun t ht => by
      have := cwT_01 (pos t ht) q
      unfold cwT at this
      omega
    have T1 := (sumF_ge (F := fun i k => cw (gp ps i) (gp ps k) q) nn).2 s hs
    have e1 := cwT_yes h1 h2 h3
    unfold cwT at e1
    have B := wn_01 hR q
    omega
theorem onAny_fol {ps : List Pt} {rs : List Nat} (h0 : 0 < rs.length) {q : Pt} : onAny (rpt ps rs) q = false ↔ ∀ a b, Fol rs a b → onSeg (gp ps a) (gp ps b) q = false := by
  rw [onAny_no, rpt_len]
  constructor
  · rintro h a b ⟨j, hj, rfl, rfl⟩
    have := h j hj
    rw [gp_rpt ps hj, gp_rpt ps (Nat.mod_lt _ h0)] at this
    exact this
  · intro h j hj
    rw [gp_rpt ps hj, gp_rpt ps (Nat.mod_lt _ h0)]
    exact h _ _ (Fol.at_ hj)
theorem chord_off {ps : List Pt} {rs : List Nat} (h : RingOk ps rs) {x y : Nat} (c : ChoV ps rs x y) {m : Pt} (hm : onSeg (gp ps x) (gp ps y) m = true) (m1 : m ≠ gp ps x) (m2 : m ≠ gp ps y) : onAny (rpt ps rs) m = false := by
  obtain ⟨i, hi, ei⟩ := gn_of_mem c.hx
  obtain ⟨z, hz, ez⟩ := gn_of_mem c.hy
  have hn : 0 < rs.length := by omega
  obtain ⟨p1, p2⟩ := pred_ex hi
  subst ei ez
  have C := cho_of h hi hz c
  have rl := rpt_len ps rs
  have := (chord_at h.sim (i := (i + rs.length - 1) % rs.length) (z := z) (m := m) (by rw [rl]; exact p1) (by rw [rl, p2]; exact C) (by rw [rl, p2, gp_rpt ps hi, gp_rpt ps hz]; exact hm) (by rw [rl, p2, gp_rpt ps hi]; exact m1) (by rw [gp_rpt ps hz]; exact m2)).1
  exact onAny_no.2 this
def inR (ps : List Pt) (rs : List Nat) (q : Pt) : Int := if wn (rpt ps rs) q = 1 ∧ onAny (rpt ps rs) q = false then 1 else 0
theorem inR_on {ps : List Pt} {rs : List Nat} {a b : Nat} (hf : Fol rs a b) {q : Pt} (h : onSeg (gp ps a) (gp ps b) q = true) : inR ps rs q = 0 := by
  have h0 : 0 < rs.length := by obtain ⟨j, hj, _⟩ := hf; omega
  refine if_neg fun hc => ?_
  rw [(onAny_fol h0).1 hc.2 a b hf] at h
  cases h
theorem inR_cut {ps : List Pt} {rs : List Nat} (h : RingOk ps rs) (h4 : 4 ≤ rs.length) (hk : fEar ps rs < rs.length) (he : earB ps rs (fEar ps rs) = true) (q : Pt) :
    inR ps rs q = sT (gp ps (bef rs (fEar ps rs))) (gp ps (gn rs (fEar ps rs))) (gp ps (aft rs (fEar ps rs))) q + inR ps (cutR ps rs) q + oS (gp ps (aft rs (fEar ps rs))) (gp ps (bef rs (fEar ps rs))) q := by
  have hc := ring_cut h h4 hk he
  have n0 : 0 < rs.length := by omega
  have ec : cutR ps rs = rs.eraseIdx (fEar ps rs) := rfl
  have n1 : 0 < (cutR ps rs).length := by have := hc.three; rw [ec]; omega
  obtain ⟨cv, ci⟩ := ear_inn h h4 hk he
  obtain ⟨F1, F2, F3, F4, F5⟩ := fol_cut h.nodup h4 hk
  have Fb : Fol rs (bef rs (fEar ps rs)) (gn rs (fEar ps rs)) := Fol.bef_ hk
  have Fa : Fol rs (gn rs (fEar ps rs)) (aft rs (fEar ps rs)) := Fol.at_ hk
  have ht : 0 < trn (gp ps (bef rs (fEar ps rs))) (gp ps (gn rs (fEar ps rs))) (gp ps (aft rs (fEar ps rs))) := by
    have := he
    unfold earB at this
    rw [Bool.and_eq_true, decide_eq_true_eq] at this
    exact this.1
  have C := wn_cut h h4 hk q
  rw [← ec] at C F1 F2 F3
  by_cases hon : onSeg (gp ps (aft rs (fEar ps rs))) (gp ps (bef rs (fEar ps rs))) q = true
  · have z := onS_iff hon
    have s0 : sT (gp ps (bef rs (fEar ps rs))) (gp ps (gn rs (fEar ps rs))) (gp ps (aft rs (fEar ps rs))) q = 0 := if_neg fun hh => by omega
    have r0 : inR ps (cutR ps rs) q = 0 := inR_on F3 (by rw [onSeg_swap]; exact hon)
    rw [s0, r0]
    by_cases q1 : q = gp ps (aft rs (fEar ps rs))
    · rw [inR_on Fa (by rw [q1]; exact onSeg_end2 _ _), show oS _ _ q = 0 from if_neg fun hh => hh.2.1 q1]; rfl
    · by_cases q2 : q = gp ps (bef rs (fEar ps rs))
      · rw [inR_on Fb (by rw [q2]; exact onSeg_end1 _ _), show oS _ _ q = 0 from if_neg fun hh => hh.2.2 q2]; rfl
      · have w := ci 1 (scP 1 q) (by omega) (by rw [onSeg_sc (by omega)]; exact hon) (by rw [scP_1, scP_1]; exact q1) (by rw [scP_1, scP_1]; exact q2)
        rw [wn_sc (by omega)] at w
        rw [show oS _ _ q = 1 from if_pos ⟨hon, q1, q2⟩, show inR ps rs q = 1 from if_pos ⟨w, chord_off h cv hon q1 q2⟩]; rfl
  · rw [show oS _ _ q = 0 from if_neg fun hh => hon hh.1, Int.add_zero]
    have hon' := eq_false_of_ne_true hon
    by_cases hs : 0 < trn (gp ps (gn rs (fEar ps rs))) (gp ps (aft rs (fEar ps rs))) q ∧ 0 < trn (gp ps (aft rs (fEar ps rs))) (gp ps (bef rs (fEar ps rs))) q ∧ 0 < trn (gp ps (bef rs (fEar ps rs))) (gp ps (gn rs (fEar ps rs))) q
    · obtain ⟨p1, p2, p3, _⟩ := cut_parts (rs.length - 3) rs h (by omega)
      have ok : ∀ t ∈ cutL ps (rs.length - 3) rs, TriOk ps.length t := fun t ht => by
        obtain ⟨m1, m2, m3⟩ := p2 t ht
        have hp := p3 t ht
        unfold trnT at hp
        refine ⟨h.lt _ m1, h.lt _ m2, h.lt _ m3, fun e => ?_, fun e => ?_, fun e => ?_⟩
        · rw [e, trn_aab] at hp; omega
        · rw [e, trn_abb] at hp; omega
        · rw [e, trn_aba] at hp; omega
      have hm : clipT ps rs ∈ cutL ps (rs.length - 3) rs := by
        obtain ⟨f, hf⟩ : ∃ f, rs.length - 3 = f + 1 := ⟨rs.length - 4, by omega⟩
        rw [hf]; exact List.mem_cons_self ..
      obtain ⟨o1, o2⟩ := ring_inside h p1 ok (fun t ht => p3 t ht) hm hs.1 hs.2.1 hs.2.2
      have e1 := cwT_yes hs.1 hs.2.1 hs.2.2
      rw [show sT _ _ _ q = 1 from if_pos hs, show inR ps rs q = 1 from if_pos ⟨o2, (onAny_fol n0).2 o1⟩, show inR ps (cutR ps rs) q = 0 from if_neg fun hh => by have := hh.1; omega]; rfl
    · rw [show sT _ _ _ q = 0 from if_neg hs, Int.zero_add]
      have side0 : ∀ {w : Nat}, (w = bef rs (fEar ps rs) ∨ w = aft rs (fEar ps rs)) → onSeg (gp ps (gn rs (fEar ps rs))) (gp ps w) q = true → inR ps (cutR ps rs) q = 0 := fun {w} hw hq => by
        by_cases qw : q = gp ps w
        · exfalso
          rcases hw with rfl | rfl
          · rw [qw, onSeg_end2] at hon'; cases hon'
          · rw [qw, onSeg_end1] at hon'; cases hon'
        · have t := tip_out h h4 hk he hw (K := 1) (z := scP 1 q) (by omega) (by rw [onSeg_sc (by omega)]; exact hq) (by rw [scP_1, scP_1]; exact qw)
          rw [wn_sc (by omega)] at t
          refine if_neg fun hh => ?_
          have := hh.1
          rw [ec] at this
          omega
      by_cases s1 : onSeg (gp ps (bef rs (fEar ps rs))) (gp ps (gn rs (fEar ps rs))) q = true
      · rw [inR_on Fb s1, side0 (.inl rfl) (by rw [onSeg_swap]; exact s1)]
      by_cases s2 : onSeg (gp ps (gn rs (fEar ps rs))) (gp ps (aft rs (fEar ps rs))) q = true
      · rw [inR_on Fa s2, side0 (.inr rfl) s2]
      have w0 : cwT (gp ps (bef rs (fEar ps rs))) (gp ps (gn rs (fEar ps rs))) (gp ps (aft rs (fEar ps rs))) q = 0 := by
        rcases cwT_01 ht q with e | e
        · exact e
        · exfalso
          obtain ⟨i1, i2, i3⟩ := cwT_in ht e
          have hr1 : 0 < trn (gp ps (gn rs (fEar ps rs))) (gp ps (aft rs (fEar ps rs))) (gp ps (bef rs (fEar ps rs))) := by rw [trn_r1]; exact ht
          have hr2 : 0 < trn (gp ps (aft rs (fEar ps rs))) (gp ps (bef rs (fEar ps rs))) (gp ps (gn rs (fEar ps rs))) := by rw [trn_r2]; exact ht
          by_cases t3 : trn (gp ps (bef rs (fEar ps rs))) (gp ps (gn rs (fEar ps rs))) q = 0
          · exact s1 (side_on ht i1 i2 t3)
          by_cases t1 : trn (gp ps (gn rs (fEar ps rs))) (gp ps (aft rs (fEar ps rs))) q = 0
          · exact s2 (side_on hr1 i2 i3 t1)
          by_cases t2 : trn (gp ps (aft rs (fEar ps rs))) (gp ps (bef rs (fEar ps rs))) q = 0
          · exact hon (side_on hr2 i3 i1 t2)
          exact hs (by omega)
      rw [w0, Int.zero_add] at C
      have off : onAny (rpt ps rs) q = false ↔ onAny (rpt ps (cutR ps rs)) q = false := by
        rw [onAny_fol n0, onAny_fol n1]
        constructor
        · intro ho a b hf
          by_cases ea : a = bef rs (fEar ps rs)
          · subst ea
            rw [Fol.only hc.nodup hf F3, onSeg_swap]; exact hon'
          · exact ho a b (F2 a b hf ea)
        · intro ho a b hf
          by_cases ea : a = bef rs (fEar ps rs)
          · subst ea
            rw [Fol.only h.nodup hf Fb]; exact eq_false_of_ne_true s1
          · by_cases et : a = gn rs (fEar ps rs)
            · subst et
              rw [Fol.only h.nodup hf Fa]; exact eq_false_of_ne_true s2
            · exact ho a b (F1 a b hf ea et)
      unfold inR
      rw [C]
      by_cases ho : onAny (rpt ps rs) q = false
      · rw [ho, off.1 ho]
      · rw [if_neg fun hh => ho hh.2, if_neg fun hh => ho (off.2 hh.2)]
theorem bnd_sum (ps : List Pt) : bndL ps = edgeSum gcdE ps := by
  unfold bndL edgeSum
  generalize hn : ps.length = n
  have : ∀ k, bndTo ps k = sumN (fun k => gcdE (gp ps k) (gp ps ((k + 1) % n))) k := fun k => by
    induction k with
    | zero => rfl
    | succ k ih => unfold bndTo sumN; rw [ih, hn]; rfl
  exact this n
theorem bnd_cut {ps : List Pt} {rs : List Nat} (h : RingOk ps rs) (h4 : 4 ≤ rs.length) {k : Nat} (hk : k < rs.length) : bndL (rpt ps rs) = bndL (rpt ps (rs.eraseIdx k)) + gcdE (gp ps (bef rs k)) (gp ps (gn rs k)) + gcdE (gp ps (gn rs k)) (gp ps (aft rs k)) - gcdE (gp ps (bef rs k)) (gp ps (aft rs k)) := by
  have rl := rpt_len ps rs
  have n0 : 0 < rs.length := by omega
  have p4 : (k + 1) % rs.length < rs.length := Nat.mod_lt _ n0
  obtain ⟨p1, p2⟩ := pred_ex hk
  have ha : (arc (rpt ps rs) ((k + 1) % rs.length) (rs.length - 2)).length = rs.length - 1 := by rw [arc_len]; omega
  rw [bnd_sum, bnd_sum, ear_arc h h4 hk, edge_rot _ (by rw [ha]; exact Nat.mod_lt _ (by omega)), arc_sum _ _ (by rw [rl]; exact p4), rl]
  have sh := sumN_shift (fun m => gcdE (gp (rpt ps rs) m) (gp (rpt ps rs) ((m + 1) % rs.length))) p4
  unfold edgeSum
  rw [rl, ← sh]
  have sp := sumN_split (fun j => gcdE (gp (rpt ps rs) (((k + 1) % rs.length + j) % rs.length)) (gp (rpt ps rs) ((((k + 1) % rs.length + j) % rs.length + 1) % rs.length))) (rs.length - 2) 2
  rw [show rs.length - 2 + 2 = rs.length by omega] at sp
  rw [sp]
  have m1 : ((k + 1) % rs.length + (rs.length - 2)) % rs.length = (k + rs.length - 1) % rs.length := by
    rw [Nat.mod_add_mod]; congr 1; omega
  have m2 : ((k + 1) % rs.length + (rs.length - 2 + 1)) % rs.length = k := by
    rw [Nat.mod_add_mod, show k + 1 + (rs.length - 2 + 1) = k + rs.length by omega, Nat.add_mod_right, Nat.mod_eq_of_lt hk]
  have e2 : sumN (fun j => gcdE (gp (rpt ps rs) (((k + 1) % rs.length + (rs.length - 2 + j)) % rs.length)) (gp (rpt ps rs) ((((k + 1) % rs.length + (rs.length - 2 + j)) % rs.length + 1) % rs.length))) 2 = gcdE (gp ps (bef rs k)) (gp ps (gn rs k)) + gcdE (gp ps (gn rs k)) (gp ps (aft rs k)) := by
    show 0 + gcdE (gp (rpt ps rs) (((k + 1) % rs.length + (rs.length - 2 + 0)) % rs.length)) (gp (rpt ps rs) ((((k + 1) % rs.length + (rs.length - 2 + 0)) % rs.length + 1) % rs.length)) + gcdE (gp (rpt ps rs) (((k + 1) % rs.length + (rs.length - 2 + 1)) % rs.length)) (gp (rpt ps rs) ((((k + 1) % rs.length + (rs.length - 2 + 1)) % rs.length + 1) % rs.length)) = _
    simp only [Nat.add_zero]
    rw [m1, m2, p2, gp_rpt ps p1, gp_rpt ps hk, gp_rpt ps p4, Int.zero_add]; rfl
  rw [e2, m1, gp_rpt ps p1, gp_rpt ps p4]
  have e1 : sumN (fun j => gcdE (gp (rpt ps rs) (((k + 1) % rs.length + j) % rs.length)) (gp (rpt ps rs) ((((k + 1) % rs.length + j) % rs.length + 1) % rs.length))) (rs.length - 2) = sumN (fun j => gcdE (gp (rpt ps rs) (((k + 1) % rs.length + j) % rs.length)) (gp (rpt ps rs) (((k + 1) % rs.length + j + 1) % rs.length))) (rs.length - 2) := sumN_congr fun j _ => by rw [Nat.mod_add_mod ((k + 1) % rs.length + j) rs.length 1]
  rw [e1]
  show _ = _ + gcdE (gp ps (bef rs k)) (gp ps (aft rs k)) + _ + _ - _
  omega
theorem bnd_three {ps : List Pt} {rs : List Nat} (h3 : rs.length = 3) : bndL (rpt ps rs) = gcdE (gp ps (gn rs 0)) (gp ps (gn rs 1)) + gcdE (gp ps (gn rs 1)) (gp ps (gn rs 2)) + gcdE (gp ps (gn rs 2)) (gp ps (gn rs 0)) := by
  have e3 : rpt ps rs = [gp ps (gn rs 0), gp ps (gn rs 1), gp ps (gn rs 2)] := by
    have := three_list h3
    unfold rpt
    generalize e0 : gn rs 0 = x0 at *
    generalize e1 : gn rs 1 = x1 at *
    generalize e2 : gn rs 2 = x2 at *
    rw [this]; rfl
  rw [bnd_sum, e3]
  generalize gp ps (gn rs 0) = p0
  generalize gp ps (gn rs 1) = p1
  generalize gp ps (gn rs 2) = p2
  unfold edgeSum
  simp [sumN, gp]
/-- Pick's theorem for a ring. -/
theorem pick_ring {ps : List Pt} {X Y : Int} {m n : Nat} : ∀ (f : Nat) (rs : List Nat), RingOk ps rs → rs.length = f + 3 → (∀ i ∈ rs, InBox X Y m n (gp ps i)) → 2 * boxS X Y m n (inR ps rs) = areaL (rpt ps rs) - bndL (rpt ps rs) + 2
  | 0, rs, h, hl, hb => by
    have ht := lft_three h hl
    have e : ∀ q, inR ps rs q = sT (gp ps (gn rs 0)) (gp ps (gn rs 1)) (gp ps (gn rs 2)) q := fun q => by
      have off : onAny (rpt ps rs) q = false ↔ onSeg (gp ps (gn rs 0)) (gp ps (gn rs 1)) q = false ∧ onSeg (gp ps (gn rs 1)) (gp ps (gn rs 2)) q = false ∧ onSeg (gp ps (gn rs 2)) (gp ps (gn rs 0)) q = false := by
        rw [onAny_fol (by omega)]
        constructor
        · intro ho
          exact ⟨ho _ _ ((fol_three hl).2 (.inl ⟨rfl, rfl⟩)), ho _ _ ((fol_three hl).2 (.inr (.inl ⟨rfl, rfl⟩))), ho _ _ ((fol_three hl).2 (.inr (.inr ⟨rfl, rfl⟩)))⟩
        · rintro ⟨h1, h2, h3⟩ a b hf
          rcases (fol_three hl).1 hf with ⟨rfl, rfl⟩ | ⟨rfl, rfl⟩ | ⟨rfl, rfl⟩
          · exact h1
          · exact h2
          · exact h3
      unfold inR
      rw [wn_three hl]
      by_cases hs : 0 < trn (gp ps (gn rs 1)) (gp ps (gn rs 2)) q ∧ 0 < trn (gp ps (gn rs 2)) (gp ps (gn rs 0)) q ∧ 0 < trn (gp ps (gn rs 0)) (gp ps (gn rs 1)) q
      · rw [show sT _ _ _ q = 1 from if_pos hs, if_pos ⟨cwT_yes hs.1 hs.2.1 hs.2.2, off.2 ⟨on_no (by omega), on_no (by omega), on_no (by omega)⟩⟩]
      · rw [show sT _ _ _ q = 0 from if_neg hs, if_neg]
        rintro ⟨e, ho⟩
        obtain ⟨i1, i2, i3⟩ := cwT_in ht e
        obtain ⟨o1, o2, o3⟩ := off.1 ho
        have hr1 : 0 < trn (gp ps (gn rs 1)) (gp ps (gn rs 2)) (gp ps (gn rs 0)) := by rw [trn_r1]; exact ht
        have hr2 : 0 < trn (gp ps (gn rs 2)) (gp ps (gn rs 0)) (gp ps (gn rs 1)) := by rw [trn_r2]; exact ht
        by_cases t3 : trn (gp ps (gn rs 0)) (gp ps (gn rs 1)) q = 0
        · rw [side_on ht i1 i2 t3] at o1; cases o1
        by_cases t1 : trn (gp ps (gn rs 1)) (gp ps (gn rs 2)) q = 0
        · rw [side_on hr1 i2 i3 t1] at o2; cases o2
        by_cases t2 : trn (gp ps (gn rs 2)) (gp ps (gn rs 0)) q = 0
        · rw [side_on hr2 i3 i1 t2] at o3; cases o3
        exact hs (by omega)
    rw [boxS_congr e, pick_tri ht (hb _ (gn_mem (by omega))) (hb _ (gn_mem (by omega))) (hb _ (gn_mem (by omega))), area_three hl, bnd_three hl]; rfl
  | f + 1, rs, h, hl, hb => by
    obtain ⟨e1, e2, _⟩ := fEar_ok h (by omega)
    have h4 : 4 ≤ rs.length := by omega
    obtain ⟨c1, c2⟩ := cutR_ok h h4
    have Fb : Fol rs (bef rs (fEar ps rs)) (gn rs (fEar ps rs)) := Fol.bef_ e1
    have Fa : Fol rs (gn rs (fEar ps rs)) (aft rs (fEar ps rs)) := Fol.at_ e1
    have ht : 0 < trn (gp ps (bef rs (fEar ps rs))) (gp ps (gn rs (fEar ps rs))) (gp ps (aft rs (fEar ps rs))) := by
      have := e2
      unfold earB at this
      rw [Bool.and_eq_true, decide_eq_true_eq] at this
      exact this.1
    have ih := pick_ring f (cutR ps rs) c1 (by omega) fun i hi => hb i ((List.eraseIdx_sublist ..).subset hi)
    have P := pick_tri ht (hb _ Fb.mem.1) (hb _ Fb.mem.2) (hb _ Fa.mem.2)
    have O := oS_box (hb _ Fa.mem.2) (hb _ Fb.mem.1) (tri_ne ht).2.2
    have A := area_cut h h4 e1
    have B := bnd_cut h h4 e1
    rw [boxS_congr fun q => inR_cut h h4 e1 e2 q, boxS_add, boxS_add, O]
    have g := gcdE_swap (gp ps (aft rs (fEar ps rs))) (gp ps (bef rs (fEar ps rs)))
    have ec : cutR ps rs = rs.eraseIdx (fEar ps rs) := rfl
    rw [← ec] at A B
    omega
theorem edge_rev_s (F : Pt → Pt → Int) (hF : ∀ a b, F b a = F a b) (ps : List Pt) : edgeSum F ps.reverse = edgeSum F ps := by
  unfold edgeSum
  rw [List.length_reverse]
  by_cases h0 : ps.length = 0
  · rw [h0]; rfl
  have h1 : sumN (fun j => F (gp ps.reverse j) (gp ps.reverse ((j + 1) % ps.length))) ps.length = sumN (fun j => F (gp ps (ps.length - 1 - (j + 1) % ps.length)) (gp ps ((ps.length - 1 - (j + 1) % ps.length + 1) % ps.length))) ps.length := sumN_congr fun j hj => by
    rw [rev_at hj, rev_at (Nat.mod_lt _ (by omega)), rev_ix hj, hF]
  have h2 := sumN_flip ps.length (fun m => F (gp ps m) (gp ps ((m + 1) % ps.length)))
  have h3 : sumN (fun j => F (gp ps (ps.length - 1 - (j + 1) % ps.length)) (gp ps ((ps.length - 1 - (j + 1) % ps.length + 1) % ps.length))) ps.length = sumN (fun i => F (gp ps (ps.length - 1 - i)) (gp ps ((ps.length - 1 - i + 1) % ps.length))) ps.length := by
    by_cases h1' : ps.length = 1
    · rw [h1']; simp [sumN]
    · have := sumN_shift (fun i => F (gp ps (ps.length - 1 - i)) (gp ps ((ps.length - 1 - i + 1) % ps.length))) (n := ps.length) (i := 1) (by omega)
      rw [← this]
      exact sumN_congr fun j hj => by rw [Nat.add_comm 1 j]
  rw [h1, h3, h2]
/-- Pick's theorem: the lattice points inside of a polygon. -/
theorem pick_poly {ps : List Pt} (h : simB ps = true) {X Y : Int} {m n : Nat} (hb : ∀ p ∈ ps, InBox X Y m n p) : 2 * boxS X Y m n (fun q => if locI ps q = 1 then 1 else 0) = absI (areaL ps) - bndL ps + 2 := by
  have S := sim_of h
  have n3 := S.three
  have hR := ring_first h
  have P := pick_ring (X := X) (Y := Y) (m := m) (n := n) (ps.length - 3) (rgN ps) hR (by rw [rgN_len]; omega) fun i hi => hb _ (gp_mem (rgN_lt hi))
  have e : ∀ q, (fun q => if locI ps q = 1 then (1 : Int) else 0) q = inR ps (rgN ps) q := fun q => by
    have on : onAny ps q = false ↔ onAny (rpt ps (rgN ps)) q = false := by
      rw [onAny_fol (by rw [rgN_len]; omega), onAny_no]
      constructor
      · intro ho a b hf
        have ha := rgN_lt hf.mem.1
        have hb := rgN_lt hf.mem.2
        by_cases hneg : areaL ps < 0
        · have := fol_pred hR.nodup ((fol_first n3 hb).2.1 hneg) hf
          rw [← this, onSeg_swap]; exact ho b hb
        · have := Fol.only hR.nodup ((fol_first n3 ha).2.2 hneg) hf
          rw [← this]; exact ho a ha
      · intro ho j hj
        by_cases hneg : areaL ps < 0
        · rw [onSeg_swap]; exact ho _ _ ((fol_first n3 hj).2.1 hneg)
        · exact ho _ _ ((fol_first n3 hj).2.2 hneg)
    have o1 : (0 : Int) < 1 := by omega
    have w2 := wn_first n3 (K := 1) (q := scP 1 q)
    rw [wn_sc o1, wn_sc o1] at w2
    have B := wn_01 hR q
    unfold inR
    show (if locI ps q = 1 then (1 : Int) else 0) = _
    unfold locI
    by_cases ho : onAny ps q = false
    · rw [ho, on.1 ho]
      have hw : inK ps q ps.length = if wn ps q % 2 = 0 then -1 else 1 := rfl
      rw [if_neg (show ¬ false = true by decide), hw]
      by_cases hz : wn (rpt ps (rgN ps)) q = 1
      · have h2 : ¬ wn ps q % 2 = 0 := by omega
        rw [if_neg h2, if_pos rfl, if_pos ⟨hz, rfl⟩]
      · have h2 : wn ps q % 2 = 0 := by omega
        rw [if_pos h2, if_neg (show ¬ (-1 : Int) = 1 by decide), if_neg (show ¬ (wn (rpt ps (rgN ps)) q = 1 ∧ false = false) from fun hh => hz hh.1)]
    · have ho' : onAny ps q = true := by rw [← Bool.not_eq_false]; exact ho
      rw [if_pos ho', if_neg (show ¬ (0 : Int) = 1 by decide), if_neg (show ¬ (wn (rpt ps (rgN ps)) q = 1 ∧ onAny (rpt ps (rgN ps)) q = false) from fun hh => ho (on.2 hh.2))]
  rw [boxS_congr e, P]
  have ea := area_ring (ps := ps) (by omega)
  have eb : bndL (rpt ps (rgN ps)) = bndL ps := by
    rw [rpt_rgN]
    split
    · rw [bnd_sum, edge_rot _ (by rw [List.length_reverse]; omega), edge_rev_s _ (fun a b => gcdE_swap a b), ← bnd_sum]
    · rfl
  rw [ea, eb]
  unfold absI
  split <;> split <;> omega
end Go.Proofs.Ytcebmcbglhkkfaa
