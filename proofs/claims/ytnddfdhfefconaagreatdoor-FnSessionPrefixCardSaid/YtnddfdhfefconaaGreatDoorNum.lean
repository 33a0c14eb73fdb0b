
/- Fractions: valid ones; texts of numbers, plain. -/
/- The reference's text of a number. -/
/- Texts of numbers and of fractions, and how they are read: plain. -/
import Derived.Test.YtnddfdhfefconaaGreatDoorLeaf
import Derived.Lib.ItoaNum
import Derived.Lib.ItoaLen
import Derived.Lib.AtoiAll
import Derived.Lib.LaidTab
import Derived.Laws.IdiomStrings
import Derived.Lib.ConvBytes
import Derived.Deep.RegionWith
import Derived.Deep.RegionHeld3
import Derived.Lib.IndexMore
import Derived.Lib.IndexLaws
set_option linter.unusedVariables false
set_option linter.unusedSimpArgs false
namespace Go.Proofs.YtnddfdhfefconaaGreatDoor
open Go.RowKit

/-- A string of these bytes. -/
def bS (l : List UInt8) : ByteArray := ⟨l.toArray⟩
theorem bS_app (a b : List UInt8) : bS a ++ bS b = bS (a ++ b) := by
  apply ByteArray.ext
  simp [bS]
theorem bS_list (a : List UInt8) : (bS a).data.toList = a := by simp [bS]
theorem bS_size (a : List UInt8) : (bS a).size = a.length := by simp [bS, ByteArray.size]
theorem bS_of (s : ByteArray) : s = bS s.data.toList := by
  apply ByteArray.ext
  simp [bS]

/-! ### a listed table stays -/
theorem tab_below {P : Program} {w w' : World} {name : String} {k : IntKind} {zs : List Int} (h : Lib.TabIs P w name k zs) (hb : Below w.heap.size w w') : Lib.TabIs P w' name k zs := by
  unfold Lib.TabIs World.var? at *
  cases hg : P.globalNamed name with
  | none => simp [hg] at h
  | some g =>
    simp only [hg, Option.bind_some] at h ⊢
    have hlt : g < w.heap.size := by
      rcases Nat.lt_or_ge g w.heap.size with h' | h'
      · exact h'
      · rw [Array.getElem?_eq_none h'] at h; simp at h
    rw [hb.block g hlt]
    exact h

def gcdR (a b : Int) : Int := (Int.gcd a b : Int)
/-! ### fractions -/
def ratB (n d : Int) : Bool := inB n (-100000000000) 100000000000 && inB d 1 20000000 && decide (gcdR n d = 1)
end Go.Proofs.YtnddfdhfefconaaGreatDoor
namespace Go.Proofs.YtnddfdhfefconaaGreatDoor
open Go.RowKit

/-! ### texts, plain -/
theorem dec_lt {u : Nat} (h : u < 10) : Lib.decDigits u = [UInt8.ofNat (48 + u)] := Lib.decDigits_one h
theorem dec_ge {u : Nat} (h : ¬ u < 10) : Lib.decDigits u = Lib.decDigits (u / 10) ++ [UInt8.ofNat (48 + u % 10)] := by rw [Lib.decDigits, dif_neg h]
theorem itoa_pos {n : Int} (h : 0 ≤ n) : Lib.itoa n = Lib.decDigits n.toNat := by unfold Lib.itoa; rw [if_neg (by omega)]
theorem itoa_neg {n : Int} (h : n < 0) : Lib.itoa n = 45 :: Lib.itoa (-n) := by
  rw [itoa_pos (n := -n) (by omega)]; unfold Lib.itoa; rw [if_pos h]; congr 2; omega
theorem itoa_one {n : Int} (h : 0 ≤ n) (h2 : n < 10) : Lib.itoa n = [UInt8.ofNat (48 + n.toNat)] := by rw [itoa_pos h, dec_lt (by omega)]
theorem itoa_more {n : Int} (h : ¬ n < 10) : Lib.itoa n = Lib.itoa (n.tdiv 10) ++ [UInt8.ofNat (48 + (n.tmod 10).toNat)] := by
  have h0 : 0 ≤ n := by omega
  have e1 : n.tdiv 10 = n / 10 := Int.tdiv_eq_ediv_of_nonneg h0
  have e2 : n.tmod 10 = n % 10 := Int.tmod_eq_emod_of_nonneg h0
  rw [itoa_pos h0, dec_ge (by omega), e1, e2, itoa_pos (by omega)]
  congr 2
  · congr 1; omega
  · congr 2; omega
theorem itoa_len (n : Int) (h : -9223372036854775808 ≤ n ∧ n ≤ 9223372036854775807) : (Lib.itoa n).length ≤ 21 := Lib.itoa_length_le n h.1 h.2
/-- string of one byte. -/
theorem run_one (w : World) (a : Addr) (c : Nat) (z : Int) (b : UInt8) (hz : z = (b.toNat : Int)) (hc : w.cell? a = some (.int .u8 z)) :
    (convert 22 9 (.slice (some a) 1 c)).run Tryz.prog w = .ok (.string (bS [b])) w := by
  have := run_convert_bytes_back (P := Tryz.prog) w 22 9 5 a c [b] Tryz.underlying22 Tryz.underlying5 Tryz.underlying9 (fun j hj => by
    have : j = 0 := by simpa using hj
    subst this
    simpa [Addr.add, hz] using hc)
  exact this
set_option maxHeartbeats 2000000 in
theorem fmt_pos : ∀ (f : Nat) (n : Int) (w : World), 0 ≤ n → n.toNat < f → n ≤ 9223372036854775807 →
    Calls Tryz.prog 60 #[.int .i64 n] w fun e w' => e = .returned (.string (bS (Lib.itoa n))) ∧ ∃ x, w' = ext w x
  | 0, n, w, _, h, _ => by omega
  | f + 1, n, w, h0, hf, hx => by
    by_cases h : n < 10
    · have E := hide (itoa_one h0 h)
      have RC := fun (W : World) (b c : Nat) (hc : W.cell? ⟨b, 0, none⟩ = some (.int .u8 (48 + n))) => run_one W ⟨b, 0, none⟩ c (48 + n) (UInt8.ofNat (48 + n.toNat)) (by rw [show (UInt8.ofNat (48 + n.toNat)).toNat = 48 + n.toNat by simp [UInt8.toNat_ofNat']; omega]; omega) hc
      have i1 : IntKind.i64.wrap (48 + n) = 48 + n := IntWalk.i64_in _ (by omega)
      have i2 : IntKind.u8.wrap (48 + n) = 48 + n := IntWalk.u8_in _ (by omega)
      rw [← E.out] at RC
      have d1 : decide (n < -9223372036854775807) = false := decide_eq_false (by omega)
      have d2 : decide (n < 0) = false := decide_eq_false (by omega)
      have d3 : decide (n < 10) = true := decide_eq_true h
      clear E
      generalize bS (Lib.itoa n) = S at *
      go_enter Tryz.func60, Tryz.ntmps60
      go_wp2_with fail
      go_ret
      exact ⟨rfl, (ext_mk (by (repeat' (first | (with_reducible first | exact Below.refl _ _ | assumption | refine below_ext _ ?_ ?_ | refine Below.alloc ?_ ?_ _ | refine Below.drew ?_ | refine below_drewN ?_ _ | refine le_drewN _ ?_ | refine Below.setCell ?_ ?_ _ | exact Nat.le_refl _ | refine le_ext _ ?_ | refine le_alloc _ ?_ | refine le_setCell _ _ ?_ | refine le_drew ?_) | omega | (simp; done) | (simp; omega)))))⟩
    · have E := hide (itoa_more h)
      have h10 : 10 ≤ n := by omega
      have e1 : n.tdiv 10 = n / 10 := Int.tdiv_eq_ediv_of_nonneg h0
      have e2 : n.tmod 10 = n % 10 := Int.tmod_eq_emod_of_nonneg h0
      have IH := hide (fun W => fmt_pos f (n / 10) W (by omega) (by omega) (by omega))
      have RC := fun (W : World) (b c : Nat) (hc : W.cell? ⟨b, 0, none⟩ = some (.int .u8 (48 + n % 10))) => run_one W ⟨b, 0, none⟩ c (48 + n % 10) (UInt8.ofNat (48 + (n % 10).toNat)) (by rw [show (UInt8.ofNat (48 + (n % 10).toNat)).toNat = 48 + (n % 10).toNat by simp [UInt8.toNat_ofNat']; omega]; omega) hc
      rw [e1, e2] at E
      have i0 : IntKind.i64.wrap (n / 10) = n / 10 := IntWalk.i64_in _ (by omega)
      have i3 : IntKind.i64.wrap (n % 10) = n % 10 := IntWalk.i64_in _ (by omega)
      have i1 : IntKind.i64.wrap (48 + n % 10) = 48 + n % 10 := IntWalk.i64_in _ (by omega)
      have i2 : IntKind.u8.wrap (48 + n % 10) = 48 + n % 10 := IntWalk.u8_in _ (by omega)
      have d1 : decide (n < -9223372036854775807) = false := decide_eq_false (by omega)
      have d2 : decide (n < 0) = false := decide_eq_false (by omega)
      have d3 : decide (n < 10) = false := decide_eq_false h
      have EE := hide (bS_app (Lib.itoa (n / 10)) [UInt8.ofNat (48 + (n % 10).toNat)])
      rw [← E.out] at EE
      have KL : ¬ 9223372036854775807 < (bS (Lib.itoa (n / 10))).size + (bS [UInt8.ofNat (48 + (n % 10).toNat)]).size := by
        have := itoa_len (n / 10) (by omega)
        rw [bS_size, bS_size]; simp; omega
      clear E
      generalize bS (Lib.itoa n) = S at *
      generalize bS (Lib.itoa (n / 10)) = S1 at *
      generalize bS [UInt8.ofNat (48 + (n % 10).toNat)] = S2 at *
      go_enter Tryz.func60, Tryz.ntmps60
      go_wp2_with fail
      go_region_with ((go_at_call 60; refine (IH.out _).mono ?_; rintro e w' ⟨rfl, hw'⟩; have hzy := ext_sz hw'; obtain ⟨y, rfl⟩ := hw'; (try simp at hzy)))
      all_goals go_wp2_with fail
      all_goals go_ret
      all_goals exact ⟨by first | rfl | (simp only [EE.out]; rfl) | (simp [EE.out]), (ext_mk (by (repeat' (first | (with_reducible first | exact Below.refl _ _ | assumption | refine below_ext _ ?_ ?_ | refine Below.alloc ?_ ?_ _ | refine Below.drew ?_ | refine below_drewN ?_ _ | refine le_drewN _ ?_ | refine Below.setCell ?_ ?_ _ | exact Nat.le_refl _ | refine le_ext _ ?_ | refine le_alloc _ ?_ | refine le_setCell _ _ ?_ | refine le_drew ?_) | omega | (simp; done) | (simp; omega)))))⟩
theorem sfmt_any (n : Int) (w : World) (h : -9223372036854775808 < n ∧ n ≤ 9223372036854775807) :
    Calls Tryz.prog 60 #[.int .i64 n] w fun e w' => e = .returned (.string (bS (Lib.itoa n))) ∧ ∃ x, w' = ext w x := by
  by_cases h0 : n < 0
  · have FP := hide (fun W => fmt_pos ((-n).toNat + 1) (-n) W (by omega) (by omega) (by omega))
    have E := hide (itoa_neg h0)
    have EE := hide (bS_app [45] (Lib.itoa (-n)))
    rw [List.singleton_append, ← E.out] at EE
    have KL : ¬ 9223372036854775807 < (bS [45]).size + (bS (Lib.itoa (-n))).size := by
      have := itoa_len (-n) (by omega)
      rw [bS_size, bS_size]; simp; omega
    rw [show bS [45] = ⟨#[45]⟩ from rfl] at EE KL
    have i0 : IntKind.i64.wrap (-n) = -n := IntWalk.i64_in _ (by omega)
    have d1 : decide (n < -9223372036854775807) = false := decide_eq_false (by omega)
    have d2 : decide (n < 0) = true := decide_eq_true h0
    clear E
    generalize bS (Lib.itoa n) = S at *
    generalize bS (Lib.itoa (-n)) = S1 at *
    go_enter Tryz.func60, Tryz.ntmps60
    go_wp2_with fail
    refine (FP.out _).mono ?_
    rintro e w' ⟨rfl, hw'⟩; have hzy := ext_sz hw'; obtain ⟨y, rfl⟩ := hw'; (try simp at hzy)
    go_wp2_with fail
    go_ret
    exact ⟨by first | rfl | (simp only [EE.out]; rfl) | (simp [EE.out]), (ext_mk (by (repeat' (first | (with_reducible first | exact Below.refl _ _ | assumption | refine below_ext _ ?_ ?_ | refine Below.alloc ?_ ?_ _ | refine Below.drew ?_ | refine below_drewN ?_ _ | refine le_drewN _ ?_ | refine Below.setCell ?_ ?_ _ | exact Nat.le_refl _ | refine le_ext _ ?_ | refine le_alloc _ ?_ | refine le_setCell _ _ ?_ | refine le_drew ?_) | omega | (simp; done) | (simp; omega)))))⟩
  · exact fmt_pos (n.toNat + 1) n w (by omega) (by omega) h.2
end Go.Proofs.YtnddfdhfefconaaGreatDoor
namespace Go.Proofs.YtnddfdhfefconaaGreatDoor
open Go.RowKit

/-! ### bytes of numerals -/
theorem dig_val {d : Nat} (h : d < 10) : (UInt8.ofNat (48 + d)).toNat = 48 + d := by
  simp [UInt8.toNat_ofNat']; omega
theorem dec_dig : ∀ (u : Nat), ∀ b ∈ Lib.decDigits u, 48 ≤ b.toNat ∧ b.toNat ≤ 57 := by
  intro u
  induction u using Nat.strongRecOn with
  | _ u ih =>
    intro b hb
    by_cases h : u < 10
    · rw [dec_lt h] at hb
      rw [List.mem_singleton.1 hb, dig_val h]; omega
    · rw [dec_ge h] at hb
      rcases List.mem_append.1 hb with hb | hb
      · exact ih _ (by omega) b hb
      · rw [List.mem_singleton.1 hb, dig_val (by omega)]; omega
theorem dec_ne (u : Nat) : Lib.decDigits u ≠ [] := by
  by_cases h : u < 10
  · rw [dec_lt h]; simp
  · rw [dec_ge h]; simp
/-- A number's text has digits and '-' alone. -/
theorem itoa_mem (n : Int) : ∀ b ∈ Lib.itoa n, b.toNat = 45 ∨ (48 ≤ b.toNat ∧ b.toNat ≤ 57) := by
  intro b hb
  unfold Lib.itoa at hb
  split at hb
  · rcases List.mem_cons.1 hb with rfl | hb
    · exact .inl rfl
    · exact .inr (dec_dig _ b hb)
  · exact .inr (dec_dig _ b hb)
theorem dec_len : ∀ (k u : Nat), u < 10 ^ k → 0 < k → (Lib.decDigits u).length ≤ k
  | 0, u, h, h0 => by omega
  | k + 1, u, h, _ => by
    by_cases hu : u < 10
    · rw [dec_lt hu]; simp
    · rw [dec_ge hu, List.length_append]
      have : 0 < k := by
        rcases Nat.eq_zero_or_pos k with e | e
        · subst e; simp at h; omega
        · exact e
      have := dec_len k (u / 10) (by rw [Nat.pow_succ] at h; omega) this
      simp; omega
/-! ### parsing a numeral -/
theorem parse_app : ∀ (l : List UInt8) (acc u : Nat) (d : Nat), d < 10 → Lib.parseUint10 acc l = .ok u → u * 10 + d < 18446744073709551616 → Lib.parseUint10 acc (l ++ [UInt8.ofNat (48 + d)]) = .ok (u * 10 + d)
  | [], acc, u, d, hd, h, hu => by
    simp only [Lib.parseUint10, Lib.NumEnd.ok.injEq] at h
    subst h
    simp only [List.nil_append, Lib.parseUint10, dig_val hd]
    rw [if_pos (by omega), if_neg (by omega), if_neg (by omega)]
    congr 1; omega
  | c :: r, acc, u, d, hd, h, hu => by
    simp only [List.cons_append, Lib.parseUint10] at h ⊢
    split at h
    · rename_i hc
      rw [if_pos hc]
      split at h
      · cases h
      · rename_i h1
        rw [if_neg h1]
        split at h
        · cases h
        · rename_i h2
          rw [if_neg h2]
          exact parse_app r _ u d hd h hu
    · cases h
theorem parse_dec : ∀ (u : Nat), u < 9223372036854775809 → Lib.parseUint10 0 (Lib.decDigits u) = .ok u := by
  intro u
  induction u using Nat.strongRecOn with
  | _ u ih =>
    intro hu
    by_cases h : u < 10
    · rw [dec_lt h]
      have := parse_app [] 0 0 u h rfl (by omega)
      simpa using this
    · rw [dec_ge h]
      have := parse_app _ 0 (u / 10) (u % 10) (by omega) (ih (u / 10) (by omega) (by omega)) (by omega)
      rw [this]; congr 1; omega
theorem atoi_itoa {n : Int} (h : -9223372036854775808 ≤ n ∧ n ≤ 9223372036854775807) : Lib.atoiAll (Lib.itoa n) = .ok n := by
  have key : ∀ l : List UInt8, l ≠ [] → Lib.parseMag l = Lib.parseUint10 0 l := fun l hl => by unfold Lib.parseMag; rw [if_neg hl]
  by_cases h0 : n < 0
  · rw [itoa_neg h0, itoa_pos (n := -n) (by omega)]
    unfold Lib.atoiAll
    simp only
    rw [if_pos (.inr (by decide)), key _ (dec_ne _), parse_dec _ (by omega)]
    simp
    rw [if_neg (by omega)]
    congr 1; omega
  · rw [itoa_pos (by omega)]
    have hm := dec_dig n.toNat
    have hne := dec_ne n.toNat
    have hp := parse_dec n.toNat (by omega)
    generalize Lib.decDigits n.toNat = l at *
    match l, hne with
    | c :: r, _ =>
      have hc := hm c List.mem_cons_self
      unfold Lib.atoiAll
      simp only
      rw [if_neg (by omega), key _ (by simp), hp]
      simp only
      rw [if_neg (by omega), if_neg (by omega), if_neg (by omega)]
      congr 1; omega
/-! ### cutting at one byte -/
theorem cut_no {l : List UInt8} {c : UInt8} (h : c ∉ l) : Lib.cut l [c] = (l, [], false) := by
  have : ¬ 0 ≤ Lib.index l [c] := by
    rcases Lib.index_spec l [c] with ⟨e, _⟩ | ⟨i, _, hi, ho, _⟩
    · omega
    · unfold Lib.occAt at ho
      simp [List.isPrefixOf] at ho
      exfalso
      cases hd : l.drop i with
      | nil => rw [hd] at ho; simp at ho
      | cons x r =>
        rw [hd] at ho
        simp at ho
        exact h (by have : x ∈ l.drop i := by rw [hd]; simp
                    rw [ho]; exact List.mem_of_mem_drop this)
  unfold Lib.cut
  rw [if_neg this]
theorem cut_at {a b : List UInt8} {c : UInt8} (h : c ∉ a) : Lib.cut (a ++ c :: b) [c] = (a, b, true) := by
  have hi : Lib.index (a ++ c :: b) [c] = (a.length : Nat) := by
    refine Lib.index_hit ?_ (by simp) (by simp [Lib.occAt, List.isPrefixOf])
    intro j hj
    unfold Lib.occAt
    rw [List.drop_append_of_le_length (by omega)]
    cases hd : a.drop j with
    | nil => have := congrArg List.length hd; simp at this; omega
    | cons x r =>
      have : x ∈ a := List.mem_of_mem_drop (by rw [hd]; simp : x ∈ a.drop j)
      simp [List.isPrefixOf]
      intro e; exact h (by rw [e]; exact this)
  unfold Lib.cut
  rw [if_pos (by rw [hi]; omega), hi]
  simp
theorem split_at (l : List UInt8) (c : UInt8) : c ∉ l ∨ ∃ a b, l = a ++ c :: b ∧ c ∉ a := by
  induction l with
  | nil => left; simp
  | cons x r ih =>
    by_cases e : x = c
    · right; exact ⟨[], r, by rw [e]; rfl, by simp⟩
    · rcases ih with h | ⟨a, b, rfl, ha⟩
      · left; simp [h]; exact fun hh => e hh.symm
      · right; exact ⟨x :: a, b, rfl, by simp [ha]; exact fun hh => e hh.symm⟩
/-! ### texts of fractions -/
def ratT (n d : Int) : List UInt8 := if d = 1 then Lib.itoa n else Lib.itoa n ++ ([47] ++ Lib.itoa d)
def ratE (n d : Int) : List UInt8 := if ratB n d = true then ratT n d else []
/-- l is the text of the fraction n/d. -/
def isR (l : List UInt8) (n d : Int) : Prop := ratB n d = true ∧ ratT n d = l
/-- What DecodeRat answers. -/
noncomputable def decR (l : List UInt8) : Int × Int × Bool := @dite _ (∃ p : Int × Int, isR l p.1 p.2) (Classical.propDecidable _) (fun h => (h.choose.1, h.choose.2, true)) (fun _ => (0, 0, false))
/-! ### the reference's way -/
/-- What its loop has read behind k bytes. -/
def parT (l : List UInt8) : Nat → Int
  | 0 => 0
  | k + 1 => 10 * parT l k + ((l.getD k 0).toNat : Int) - 48
theorem parT_bd (l : List UInt8) : ∀ k, 48 - (10 ^ k * 48 : Int) ≤ parT l k ∧ parT l k ≤ 10 ^ k * 207 - 207
  | 0 => by simp [parT]
  | k + 1 => by
    have h := parT_bd l k
    have hb : (l.getD k 0).toNat < 256 := UInt8.toNat_lt _
    have hp : (0 : Int) < 10 ^ k := Int.pow_pos (by omega)
    rw [Int.pow_succ]
    simp only [parT]
    omega
theorem parT_app (l r : List UInt8) : ∀ k, k ≤ l.length → parT (l ++ r) k = parT l k
  | 0, _ => rfl
  | k + 1, h => by
    simp only [parT]
    rw [parT_app l r k (by omega)]
    congr 3
    simp [List.getD_eq_getElem?_getD, List.getElem?_append_left (show k < l.length by omega)]
theorem parT_dec : ∀ (u : Nat), parT (Lib.decDigits u) (Lib.decDigits u).length = u := by
  intro u
  induction u using Nat.strongRecOn with
  | _ u ih =>
    by_cases h : u < 10
    · rw [dec_lt h]
      simp only [List.length_singleton, parT]
      have : ([UInt8.ofNat (48 + u)].getD 0 0) = UInt8.ofNat (48 + u) := rfl
      rw [this, dig_val h]; omega
    · rw [dec_ge h, List.length_append, List.length_singleton]
      simp only [parT]
      rw [parT_app _ _ _ (Nat.le_refl _), ih _ (by omega)]
      have : ((Lib.decDigits (u / 10) ++ [UInt8.ofNat (48 + u % 10)]).getD (Lib.decDigits (u / 10)).length 0) = UInt8.ofNat (48 + u % 10) := by simp
      rw [this, dig_val (by omega)]; omega
/-- parseInt: at most 12 digits behind the sign. -/
def parI (l : List UInt8) : Int := if l.head? = some 45 then -parT (l.drop 1) (min 12 (l.drop 1).length) else parT l (min 12 l.length)
theorem parI_itoa {n : Int} (h : -100000000000 ≤ n ∧ n ≤ 100000000000) : parI (Lib.itoa n) = n := by
  by_cases h0 : n < 0
  · have hl := dec_len 12 (-n).toNat (by omega) (by omega)
    rw [itoa_neg h0, itoa_pos (n := -n) (by omega)]
    unfold parI
    rw [if_pos (show (45 :: Lib.decDigits (-n).toNat).head? = some 45 from rfl), List.drop_one, List.tail_cons, Nat.min_eq_right hl, parT_dec]
    omega
  · have hl := dec_len 12 n.toNat (by omega) (by omega)
    rw [itoa_pos (by omega)]
    have hd := dec_dig n.toNat
    unfold parI
    rw [if_neg (fun e => by
      have := hd 45 (List.mem_of_mem_head? (by rw [e]; rfl))
      simp at this), Nat.min_eq_right hl, parT_dec]
    omega
/-- What DecodeRatPoint answers. -/
noncomputable def decP (l : List UInt8) : (Int × Int × Int × Int) × Bool :=
  if (decR (Lib.cut l [32]).1).2.2 = true ∧ (decR (Lib.cut l [32]).2.1).2.2 = true then (((decR (Lib.cut l [32]).1).1, (decR (Lib.cut l [32]).1).2.1, (decR (Lib.cut l [32]).2.1).1, (decR (Lib.cut l [32]).2.1).2.1), true) else ((0, 0, 0, 0), false)
end Go.Proofs.YtnddfdhfefconaaGreatDoor
