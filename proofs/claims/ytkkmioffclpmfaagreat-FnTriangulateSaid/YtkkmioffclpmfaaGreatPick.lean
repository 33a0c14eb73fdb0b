
/- The reference's reader of pseudo-random numbers: pick answers SOME number in 0..n-1 (which, is not asked). -/
import Derived.Test.YtkkmioffclpmfaaGreatLeaf
set_option linter.unusedVariables false
set_option linter.unusedSimpArgs false
namespace Go.Proofs.YtkkmioffclpmfaaGreat
open Go.RowKit

/-- n bytes lie at A, below block B. -/
def BytesAt (w : World) (B : Nat) (A : Option Addr) (n : Nat) : Prop :=
  0 < n → ∃ b o, A = some ⟨b, o, none⟩ ∧ b < B ∧ ∀ i, i < n → ∃ z : Nat, z < 256 ∧ w.cell? ⟨b, o + i, none⟩ = some (.int .u8 (z : Nat))
theorem BytesAt.below {w w' : World} {B : Nat} {A : Option Addr} {n : Nat} (h : BytesAt w B A n) (hb : Below B w w') : BytesAt w' B A n := fun hn => by
  obtain ⟨b, o, hA, hB, hc⟩ := h hn
  exact ⟨b, o, hA, hB, fun i hi => by
    obtain ⟨z, hz, hx⟩ := hc i hi
    exact ⟨z, hz, (hb.cell (p := ⟨b, o + i, none⟩) hB).trans hx⟩⟩
/-- A reader at block g, over n bytes below block B, that has read p numbers. -/
structure Rd (w : World) (B : Nat) (A : Option Addr) (n c g p : Nat) : Prop where
  blk : w.heap[g]? = some (.cells #[.slice A n c, .int .i64 (p : Nat)] 85 (0, 0))
  byt : BytesAt w B A n
  le : B ≤ g
theorem Rd.lt {w : World} {B : Nat} {A : Option Addr} {n c g p : Nat} (h : Rd w B A n c g p) : g < w.heap.size := heap_lt h.blk
theorem Rd.below {w w' : World} {B : Nat} {A : Option Addr} {n c g p : Nat} (h : Rd w B A n c g p) (hb : Below w.heap.size w w') : Rd w' B A n c g p :=
  ⟨(hb.block g h.lt).trans h.blk, h.byt.below (hb.mono (Nat.le_trans h.le (Nat.le_of_lt h.lt))), h.le⟩
theorem Rd.keep {w w' : World} {B : Nat} {A : Option Addr} {n c g p : Nat} (h : Rd w B A n c g p) (hb : Below B w w') (hg : w'.heap[g]? = w.heap[g]?) : Rd w' B A n c g p :=
  ⟨hg.trans h.blk, h.byt.below hb, h.le⟩
theorem But.drewN {w w' : World} {g : Nat} (h : But w w' g) (n : Nat) : But w (w'.drewN n) g := ⟨h.os, h.tape, h.output, h.size, h.block⟩
theorem Rd.drewN {w : World} {B : Nat} {A : Option Addr} {n c g p : Nat} (h : Rd w B A n c g p) (m : Nat) : Rd (w.drewN m) B A n c g p := h.below ⟨rfl, rfl, rfl, Nat.le_refl _, fun _ _ => rfl⟩
theorem Rd.to {w W : World} {B : Nat} {A : Option Addr} {n c g p : Nat} (h : Rd w B A n c g p) (hb : Below w.heap.size w W) : Rd W B A n c g p := h.below hb
theorem i64_xor (a b : Nat) (ha : a < 1099511627776) (hb : b < 1099511627776) : bits .xor .i64 (a : Int) (b : Int) = ((a ^^^ b : Nat) : Int) := by
  have hx : a ^^^ b < 2 ^ 40 := Nat.xor_lt_two_pow (by omega) (by omega)
  have h1 : (BitVec.ofInt 64 (a : Int)).toNat = a := by
    rw [BitVec.ofInt_natCast, BitVec.toNat_ofNat]; exact Nat.mod_eq_of_lt (by omega)
  have h2 : (BitVec.ofInt 64 (b : Int)).toNat = b := by
    rw [BitVec.ofInt_natCast, BitVec.toNat_ofNat]; exact Nat.mod_eq_of_lt (by omega)
  show IntKind.i64.wrap ((BitVec.ofInt 64 (a : Int) ^^^ BitVec.ofInt 64 (b : Int)).toNat : Int) = _
  rw [BitVec.toNat_xor, h1, h2]
  exact IntWalk.i64_in _ (by omega)
theorem w64 {x : Int} (h : -9223372036854775808 ≤ x ∧ x < 9223372036854775808) : wrap64 x = x := by unfold wrap64; omega
theorem mix_val (z1 z2 p q n : Nat) (h1 : z1 < 256) (h2 : z2 < 256) (hp : p ≤ 1000000) (hq : q ≤ p) (Q : Int) (hQ : Q = (q : Int)) :
    (bits BinOp.xor IntKind.i64 (wrap64 ((z1 : Int) * 131 + z2 * 1117 + p * 29 + wrap64 (wrap64 Q * 53))) (wrap64 ((wrap64 ((z1 : Int) * 131 + z2 * 1117 + p * 29 + wrap64 (wrap64 Q * 53))).tdiv 64))).tmod n
      = ((((z1 * 131 + z2 * 1117 + p * 29 + q * 53) ^^^ ((z1 * 131 + z2 * 1117 + p * 29 + q * 53) / 64)) % n : Nat) : Int) := by
  subst hQ
  have hY : z1 * 131 + z2 * 1117 + p * 29 + q * 53 < 1099511627776 := by omega
  rw [w64 (x := (q : Int)) (by omega), w64 (x := (q : Int) * 53) (by omega), show (z1 : Int) * 131 + z2 * 1117 + p * 29 + q * 53 = ((z1 * 131 + z2 * 1117 + p * 29 + q * 53 : Nat) : Int) from by omega]
  generalize z1 * 131 + z2 * 1117 + p * 29 + q * 53 = Y at *
  rw [w64 (x := (Y : Int)) (by omega), show (Y : Int).tdiv 64 = ((Y / 64 : Nat) : Int) from (Int.ofNat_tdiv Y 64).symm]
  have : Y / 64 ≤ Y := Nat.div_le_self _ _
  rw [w64 (x := ((Y / 64 : Nat) : Int)) (by omega), i64_xor Y (Y / 64) hY (by omega)]
  exact (Int.ofNat_tmod _ n).symm
set_option maxHeartbeats 2000000 in
theorem pick_any (n B nb c g p : Nat) (A : Option Addr) (w : World) (hn : 1 ≤ n) (hn2 : n ≤ 1000000000) (hp : p ≤ 1000000) (hnb : nb ≤ 2000) (hr : Rd w B A nb c g p) :
    Calls Tryz.prog 56 #[.pointer (some ⟨g, 0, none⟩), .int .i64 n] w fun e w' => ∃ v : Nat, e = .returned (.int .i64 v) ∧ v < n ∧ But w w' g ∧ Rd w' B A nb c g (p + 1) := by
  have hblk := hr.blk
  have q0 := heap_cell hblk 0
  have q1 := heap_cell hblk 1
  have f0 := heap_frozen hblk 1
  simp at q0 q1
  have lg := hr.lt
  have HB : Hid (But w (w.setCell ⟨g, 1, none⟩ (.int .i64 ((p + 1 : Nat) : Int))) g) := hide ((But.refl w g).set 1 _)
  have hblk2 : (w.setCell ⟨g, 1, none⟩ (.int .i64 ((p + 1 : Nat) : Int))).heap[g]? = some (.cells #[.slice A nb c, .int .i64 ((p + 1 : Nat) : Int)] 85 (0, 0)) := by
    simp [World.setCell, Array.getElem?_modify, hblk]
  have HR : Hid (Rd (w.setCell ⟨g, 1, none⟩ (.int .i64 ((p + 1 : Nat) : Int))) B A nb c g (p + 1)) := hide ⟨hblk2, hr.byt.below (HB.out.below hr.le), hr.le⟩
  have hd1 : decide ((n : Int) < 1) = false := decide_eq_false (by omega)
  have HBY := hide hr.byt
  have hle := hr.le
  clear hblk hblk2 hr
  by_cases h0 : nb = 0
  · subst h0
    go_enter Tryz.func56, Tryz.ntmps56
    go_wp2
    go_ret
    exact ⟨0, rfl, by omega, HB.out, HR.out⟩
  · obtain ⟨b, o, rfl, hb, hby⟩ := HBY.out (by omega)
    have hbg : ¬ b = g := by omega
    have hgb : ¬ g = b := by omega
    have hd2 : ((nb : Int) == 0) = false := by rw [beq_eq_false_iff_ne]; omega
    have hd3 : (nb == 0) = false := by rw [beq_eq_false_iff_ne]; omega
    by_cases hlt : p < nb
    · obtain ⟨z, hz, hx⟩ := hby p hlt
      clear hby
      have ht : Int.tmod (z : Int) (n : Int) = ((z % n : Nat) : Int) := (Int.ofNat_tmod z n).symm
      have hm := Nat.mod_lt z (show 0 < n from hn)
      go_enter Tryz.func56, Tryz.ntmps56
      go_wp2
      go_ret
      exact ⟨z % n, rfl, hm, HB.out, HR.out⟩
    · have m1 := Nat.mod_lt p (show 0 < nb by omega)
      have m2 := Nat.mod_lt (p * 7 + 3) (show 0 < nb by omega)
      have m3 : p / nb ≤ p := Nat.div_le_self _ _
      obtain ⟨z1, hz1, hx1⟩ := hby _ m1
      obtain ⟨z2, hz2, hx2⟩ := hby _ m2
      clear hby
      have e1 : Int.tmod (p : Int) (nb : Int) = ((p % nb : Nat) : Int) := (Int.ofNat_tmod p nb).symm
      have e2 : Int.tmod ((p : Int) * 7 + 3) (nb : Int) = (((p * 7 + 3) % nb : Nat) : Int) := (Int.ofNat_tmod (p * 7 + 3) nb).symm
      have e3 : Int.tdiv (p : Int) (nb : Int) = ((p / nb : Nat) : Int) := (Int.ofNat_tdiv p nb).symm
      have n1 : (0 : Int) ≤ ((p : Int) * 7 + 3) % (nb : Int) := Int.emod_nonneg _ (by omega)
      have n2 : ((p : Int) * 7 + 3) % (nb : Int) < (nb : Int) := Int.emod_lt_of_pos _ (by omega)
      go_enter Tryz.func56, Tryz.ntmps56
      go_wp2
      go_quiet (fail)
      go_wp2_with fail
      go_ret
      exact ⟨_, ret_int (mix_val z1 z2 p (p / nb) n hz1 hz2 hp m3 _ rfl), Nat.mod_lt _ hn, HB.out.drewN _, HR.out.drewN _⟩
end Go.Proofs.YtkkmioffclpmfaaGreat
