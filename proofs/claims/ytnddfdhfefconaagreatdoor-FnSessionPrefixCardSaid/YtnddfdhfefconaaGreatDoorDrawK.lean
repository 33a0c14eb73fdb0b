import Derived.Test.YtnddfdhfefconaaGreatDoorLeaf
import Derived.Test.YtnddfdhfefconaaGreatDoorApp
import Derived.Outline
import Derived.Test.YtnddfdhfefconaaGreatDoorSHull
import Derived.Test.YtnddfdhfefconaaGreatDoorTri
set_option linter.unusedVariables false
set_option linter.unusedSimpArgs false
namespace Go.Proofs.YtnddfdhfefconaaGreatDoor
open Go.RowKit
def BytesAt (w : World) (B : Nat) (A : Option Addr) (n : Nat) : Prop :=
  0 < n → ∃ b o, A = some ⟨b, o, none⟩ ∧ b < B ∧ ∀ i, i < n → ∃ z : Nat, z < 256 ∧ w.cell? ⟨b, o + i, none⟩ = some (.int .u8 (z : Nat))
theorem BytesAt.below {w w' : World} {B : Nat} {A : Option Addr} {n : Nat} (h : BytesAt w B A n) (hb : Below B w w') : BytesAt w' B A n := fun hn => by
  obtain ⟨b, o, hA, hB, hc⟩ := h hn
  exact ⟨b, o, hA, hB, fun i hi => by
    obtain ⟨z, hz, hx⟩ := hc i hi
    exact ⟨z, hz, (hb.cell (p := ⟨b, o + i, none⟩) hB).trans hx⟩⟩
structure Rd (w : World) (B : Nat) (A : Option Addr) (n c g p : Nat) : Prop where
  blk : w.heap[g]? = some (.cells #[.slice A n c, .int .i64 (p : Nat)] 67 (0, 0))
  byt : BytesAt w B A n
  le : B ≤ g
theorem Rd.lt {w : World} {B : Nat} {A : Option Addr} {n c g p : Nat} (h : Rd w B A n c g p) : g < w.heap.size := heap_lt h.blk
theorem Rd.below {w w' : World} {B : Nat} {A : Option Addr} {n c g p : Nat} (h : Rd w B A n c g p) (hb : Below w.heap.size w w') : Rd w' B A n c g p :=
  ⟨(hb.block g h.lt).trans h.blk, h.byt.below (hb.mono (Nat.le_trans h.le (Nat.le_of_lt h.lt))), h.le⟩
theorem Rd.keep {w w' : World} {B : Nat} {A : Option Addr} {n c g p : Nat} (h : Rd w B A n c g p) (hb : Below B w w') (hg : w'.heap[g]? = w.heap[g]?) : Rd w' B A n c g p :=
  ⟨hg.trans h.blk, h.byt.below hb, h.le⟩
theorem But.drewN {w w' : World} {g : Nat} (h : But w w' g) (n : Nat) : But w (w'.drewN n) g := ⟨h.os, h.tape, h.output, h.size, h.block⟩
theorem Rd.drewN {w : World} {B : Nat} {A : Option Addr} {n c g p : Nat} (h : Rd w B A n c g p) (m : Nat) : Rd (w.drewN m) B A n c g p := h.below ⟨rfl, rfl, rfl, Nat.le_refl _, fun _ _ => rfl⟩
theorem Rd.to {w W : World} {B : Nat} {A : Option Addr} {n c g p : Nat} (h : Rd w B A n c g p) (hb : Below w.heap.size w W) : Rd W B A n c g p := h.below hb
theorem i64_xor (a b : Nat) (ha : a < 1099511627776) (hb : b < 1099511627776) : bits .xor .i64 (a : Int) (b : Int) = ((a ^^^ b : Nat) : Int) := by
  have hx : a ^^^ b < 2 ^ 40 := Nat.xor_lt_two_pow (by omega) (by omega)
  have h1 : (BitVec.ofInt 64 (a : Int)).toNat = a := by
    rw [BitVec.ofInt_natCast, BitVec.toNat_ofNat]; exact Nat.mod_eq_of_lt (by omega)
  have h2 : (BitVec.ofInt 64 (b : Int)).toNat = b := by
    rw [BitVec.ofInt_natCast, BitVec.toNat_ofNat]; exact Nat.mod_eq_of_lt (by omega)
  show IntKind.i64.wrap ((BitVec.ofInt 64 (a : Int) ^^^ BitVec.ofInt 64 (b : Int)).toNat : Int) = _
  rw [BitVec.toNat_xor, h1, h2]
  exact IntWalk.i64_in _ (by omega)
theorem w64 {x : Int} (h : -9223372036854775808 ≤ x ∧ x < 9223372036854775808) : wrap64 x = x := by unfold wrap64; omega
theorem mix_val (z1 z2 p q n : Nat) (h1 : z1 < 256) (h2 : z2 < 256) (hp : p ≤ 1000000) (hq : q ≤ p) (Q : Int) (hQ : Q = (q : Int)) :
    (bits BinOp.xor IntKind.i64 (wrap64 ((z1 : Int) * 131 + z2 * 1117 + p * 29 + wrap64 (wrap64 Q * 53))) (wrap64 ((wrap64 ((z1 : Int) * 131 + z2 * 1117 + p * 29 + wrap64 (wrap64 Q * 53))).tdiv 64))).tmod n
      = ((((z1 * 131 + z2 * 1117 + p * 29 + q * 53) ^^^ ((z1 * 131 + z2 * 1117 + p * 29 + q * 53) / 64)) % n : Nat) : Int) := by
  subst hQ
  have hY : z1 * 131 + z2 * 1117 + p * 29 + q * 53 < 1099511627776 := by omega
  rw [w64 (x := (q : Int)) (by omega), w64 (x := (q : Int) * 53) (by omega), show (z1 : Int) * 131 + z2 * 1117 + p * 29 + q * 53 = ((z1 * 131 + z2 * 1117 + p * 29 + q * 53 : Nat) : Int) from by omega]
  generalize z1 * 131 + z2 * 1117 + p * 29 + q * 53 = Y at *
  rw [w64 (x := (Y : Int)) (by omega), show (Y : Int).tdiv 64 = ((Y / 64 : Nat) : Int) from (Int.ofNat_tdiv Y 64).symm]
  have : Y / 64 ≤ Y := Nat.div_le_self _ _
  rw [w64 (x := ((Y / 64 : Nat) : Int)) (by omega), i64_xor Y (Y / 64) hY (by omega)]
  exact (Int.ofNat_tmod _ n).symm
set_option maxHeartbeats 2000000 in
theorem pick_any (n B nb c g p : Nat) (A : Option Addr) (w : World) (hn : 1 ≤ n) (hn2 : n ≤ 1000000000) (hp : p ≤ 1000000) (hnb : nb ≤ 2000) (hr : Rd w B A nb c g p) :
    Calls Tryz.prog 35 #[.pointer (some ⟨g, 0, none⟩), .int .i64 n] w fun e w' => ∃ v : Nat, e = .returned (.int .i64 v) ∧ v < n ∧ But w w' g ∧ Rd w' B A nb c g (p + 1) := by
  have hblk := hr.blk
  have q0 := heap_cell hblk 0
  have q1 := heap_cell hblk 1
  have f0 := heap_frozen hblk 1
  simp at q0 q1
  have lg := hr.lt
  have HB : Hid (But w (w.setCell ⟨g, 1, none⟩ (.int .i64 ((p + 1 : Nat) : Int))) g) := hide ((But.refl w g).set 1 _)
  have hblk2 : (w.setCell ⟨g, 1, none⟩ (.int .i64 ((p + 1 : Nat) : Int))).heap[g]? = some (.cells #[.slice A nb c, .int .i64 ((p + 1 : Nat) : Int)] 67 (0, 0)) := by
    simp [World.setCell, Array.getElem?_modify, hblk]
  have HR : Hid (Rd (w.setCell ⟨g, 1, none⟩ (.int .i64 ((p + 1 : Nat) : Int))) B A nb c g (p + 1)) := hide ⟨hblk2, hr.byt.below (HB.out.below hr.le), hr.le⟩
  have hd1 : decide ((n : Int) < 1) = false := decide_eq_false (by omega)
  have HBY := hide hr.byt
  have hle := hr.le
  clear hblk hblk2 hr
  by_cases h0 : nb = 0
  · subst h0
    go_enter Tryz.func35, Tryz.ntmps35
    go_wp2
    go_ret
    exact ⟨0, rfl, by omega, HB.out, HR.out⟩
  · obtain ⟨b, o, rfl, hb, hby⟩ := HBY.out (by omega)
    have hbg : ¬ b = g := by omega
    have hgb : ¬ g = b := by omega
    have hd2 : ((nb : Int) == 0) = false := by rw [beq_eq_false_iff_ne]; omega
    have hd3 : (nb == 0) = false := by rw [beq_eq_false_iff_ne]; omega
    by_cases hlt : p < nb
    · obtain ⟨z, hz, hx⟩ := hby p hlt
      clear hby
      have ht : Int.tmod (z : Int) (n : Int) = ((z % n : Nat) : Int) := (Int.ofNat_tmod z n).symm
      have hm := Nat.mod_lt z (show 0 < n from hn)
      go_enter Tryz.func35, Tryz.ntmps35
      go_wp2
      go_ret
      exact ⟨z % n, rfl, hm, HB.out, HR.out⟩
    · have m1 := Nat.mod_lt p (show 0 < nb by omega)
      have m2 := Nat.mod_lt (p * 7 + 3) (show 0 < nb by omega)
      have m3 : p / nb ≤ p := Nat.div_le_self _ _
      obtain ⟨z1, hz1, hx1⟩ := hby _ m1
      obtain ⟨z2, hz2, hx2⟩ := hby _ m2
      clear hby
      have e1 : Int.tmod (p : Int) (nb : Int) = ((p % nb : Nat) : Int) := (Int.ofNat_tmod p nb).symm
      have e2 : Int.tmod ((p : Int) * 7 + 3) (nb : Int) = (((p * 7 + 3) % nb : Nat) : Int) := (Int.ofNat_tmod (p * 7 + 3) nb).symm
      have e3 : Int.tdiv (p : Int) (nb : Int) = ((p / nb : Nat) : Int) := (Int.ofNat_tdiv p nb).symm
      have n1 : (0 : Int) ≤ ((p : Int) * 7 + 3) % (nb : Int) := Int.emod_nonneg _ (by omega)
      have n2 : ((p : Int) * 7 + 3) % (nb : Int) < (nb : Int) := Int.emod_lt_of_pos _ (by omega)
      go_enter Tryz.func35, Tryz.ntmps35
      go_wp2
      go_quiet (fail)
      go_wp2_with fail
      go_ret
      exact ⟨_, ret_int (mix_val z1 z2 p (p / nb) n hz1 hz2 hp m3 _ rfl), Nat.mod_lt _ hn, HB.out.drewN _, HR.out.drewN _⟩
end Go.Proofs.YtnddfdhfefconaaGreatDoor
set_option linter.unusedVariables false
set_option linter.unusedSimpArgs false
namespace Go.Proofs.YtnddfdhfefconaaGreatDoor
open Go.RowKit
set_option maxHeartbeats 400000 in
theorem newReader_any (n c : Nat) (A : Option Addr) (w : World) (hn : n ≤ c) (hc : c ≤ 9223372036854775807) (hA : BytesAt w w.heap.size A n) :
    Calls Tryz.prog 21 #[.slice A n c] w fun e w' => ∃ g nb, e = .returned (.pointer (some ⟨g, 0, none⟩)) ∧ w.heap.size ≤ g ∧ nb ≤ 2000 ∧ Rd w' w.heap.size A nb c g 0 ∧ ∃ x, w' = ext w x := by
  by_cases h : 2000 < n
  · obtain ⟨b, o, rfl, hb, hby⟩ := hA (by omega)
    have HBY := hide hby
    clear hby hA
    go_enter Tryz.func21, Tryz.ntmps21
    go_wp2
    go_ret
    have HB2 : BytesAt w w.heap.size (some ⟨b, o, none⟩) 2000 := fun _ => ⟨b, o, rfl, hb, fun i hi => HBY.out i (by omega)⟩
    exact ⟨_, 2000, rfl, Nat.le_refl _, Nat.le_refl _, ⟨heap_alloc_new _ _, HB2.below (by (repeat' (first | (with_reducible first | exact Below.refl _ _ | assumption | refine below_ext _ ?_ ?_ | refine Below.alloc ?_ ?_ _ | refine Below.drew ?_ | refine below_drewN ?_ _ | refine le_drewN _ ?_ | refine Below.setCell ?_ ?_ _ | exact Nat.le_refl _ | refine le_ext _ ?_ | refine le_alloc _ ?_ | refine le_setCell _ _ ?_ | refine le_drew ?_) | omega | (simp; done) | (simp; omega)))), Nat.le_refl _⟩, (ext_mk (by (repeat' (first | (with_reducible first | exact Below.refl _ _ | assumption | refine below_ext _ ?_ ?_ | refine Below.alloc ?_ ?_ _ | refine Below.drew ?_ | refine below_drewN ?_ _ | refine le_drewN _ ?_ | refine Below.setCell ?_ ?_ _ | exact Nat.le_refl _ | refine le_ext _ ?_ | refine le_alloc _ ?_ | refine le_setCell _ _ ?_ | refine le_drew ?_) | omega | (simp; done) | (simp; omega)))))⟩
  · go_enter Tryz.func21, Tryz.ntmps21
    go_wp2
    go_ret
    exact ⟨_, n, rfl, Nat.le_refl _, by omega, ⟨heap_alloc_new _ _, hA.below (by (repeat' (first | (with_reducible first | exact Below.refl _ _ | assumption | refine below_ext _ ?_ ?_ | refine Below.alloc ?_ ?_ _ | refine Below.drew ?_ | refine below_drewN ?_ _ | refine le_drewN _ ?_ | refine Below.setCell ?_ ?_ _ | exact Nat.le_refl _ | refine le_ext _ ?_ | refine le_alloc _ ?_ | refine le_setCell _ _ ?_ | refine le_drew ?_) | omega | (simp; done) | (simp; omega)))), Nat.le_refl _⟩, (ext_mk (by (repeat' (first | (with_reducible first | exact Below.refl _ _ | assumption | refine below_ext _ ?_ ?_ | refine Below.alloc ?_ ?_ _ | refine Below.drew ?_ | refine below_drewN ?_ _ | refine le_drewN _ ?_ | refine Below.setCell ?_ ?_ _ | exact Nat.le_refl _ | refine le_ext _ ?_ | refine le_alloc _ ?_ | refine le_setCell _ _ ?_ | refine le_drew ?_) | omega | (simp; done) | (simp; omega)))))⟩
structure Drew (w w' : World) (B : Nat) (A : Option Addr) (nb c g p p' : Nat) : Prop where
  rd : Rd w' B A nb c g p'
  os : w'.os = w.os
  tape : w'.tape = w.tape
  output : w'.output = w.output
  size : w.heap.size ≤ w'.heap.size
  block : ∀ k, k < w.heap.size → k ≠ g → w'.heap[k]? = w.heap[k]?
theorem Drew.of_but {w w' : World} {B : Nat} {A : Option Addr} {nb c g p p' : Nat} (h : But w w' g) (hr : Rd w' B A nb c g p') : Drew w w' B A nb c g p p' :=
  ⟨hr, h.os, h.tape, h.output, Nat.le_of_eq h.size.symm, fun k _ hk => h.block k hk⟩
theorem Drew.below {w w' : World} {B C : Nat} {A : Option Addr} {nb c g p p' : Nat} (h : Drew w w' B A nb c g p p') (hC : C ≤ g) (hw : C ≤ w.heap.size) : Below C w w' :=
  ⟨h.os, h.tape, h.output, h.size, fun k hk => h.block k (by omega) (by omega)⟩
theorem Drew.trans {w w' w'' : World} {B : Nat} {A : Option Addr} {nb c g p p' p'' : Nat} (h : Drew w w' B A nb c g p p') (h' : Drew w' w'' B A nb c g p' p'') : Drew w w'' B A nb c g p p'' :=
  ⟨h'.rd, h'.os.trans h.os, h'.tape.trans h.tape, h'.output.trans h.output, Nat.le_trans h.size h'.size, fun k hk hg => (h'.block k (Nat.lt_of_lt_of_le hk h.size) hg).trans (h.block k hk hg)⟩
theorem Drew.then {w w' w'' : World} {B : Nat} {A : Option Addr} {nb c g p p' : Nat} (h : Drew w w' B A nb c g p p') (hb : Below w'.heap.size w' w'') : Drew w w'' B A nb c g p p' :=
  ⟨h.rd.below hb, hb.os.trans h.os, hb.tape.trans h.tape, hb.output.trans h.output, Nat.le_trans h.size hb.size, fun k hk hg => (hb.block k (Nat.lt_of_lt_of_le hk h.size)).trans (h.block k hk hg)⟩
theorem Drew.first {w w' : World} {B : Nat} {A : Option Addr} {nb c g p : Nat} (h : Rd w B A nb c g p) (hb : Below w.heap.size w w') : Drew w w' B A nb c g p p :=
  ⟨h.below hb, hb.os, hb.tape, hb.output, hb.size, fun k hk _ => hb.block k hk⟩
theorem Drew.set {w w' : World} {B : Nat} {A : Option Addr} {nb c g p p' : Nat} (h : Drew w w' B A nb c g p p') (hg : g < w.heap.size) (hB : B ≤ w.heap.size) {q : Addr} (hq : w.heap.size ≤ q.block) (v : Value) : Drew w (w'.setCell q v) B A nb c g p p' := by
  have hb : ∀ k, k < w.heap.size → (w'.setCell q v).heap[k]? = w'.heap[k]? := fun k hk => Below.heap_setCell w' _ _ k (by omega)
  have hbe : Below B w' (w'.setCell q v) := ⟨rfl, rfl, rfl, by simp [World.setCell], fun k hk => hb k (by omega)⟩
  exact ⟨h.rd.keep hbe (hb g hg), h.os, h.tape, h.output, by simpa [World.setCell] using h.size, fun k hk hkg => (hb k hk).trans (h.block k hk hkg)⟩
set_option maxHeartbeats 400000 in
theorem one_any (zs : List Int) (B nb c g p gz cz : Nat) (T : TypeId) (m : Nat) (f : Nat → Value) (A : Option Addr) (w : World) (h1 : 1 ≤ zs.length) (h2 : zs.length ≤ 1000) (hp : p ≤ 1000000) (hnb : nb ≤ 2000) (hr : Rd w B A nb c g p)
    (hrow : RowAt w gz T m f) (hm : zs.length ≤ m) (hf : ∀ i, i < zs.length → f i = .int .i64 (gi zs i)) (hne : gz ≠ g) :
    Calls Tryz.prog 37 #[.pointer (some ⟨g, 0, none⟩), .slice (some ⟨gz, 0, none⟩) zs.length cz] w fun e w' => ∃ z : Int, e = .returned (.int .i64 z) ∧ z ∈ zs ∧ But w w' g ∧ Rd w' B A nb c g (p + 1) := by
  generalize hn : zs.length = n at *
  have HF := hide hf
  have HROW := hide hrow
  have HN := hide hn
  clear hf hrow hn
  go_enter Tryz.func37, Tryz.ntmps37
  go_wp2_with fail
  refine (pick_any n B nb c g p A _ h1 (by omega) hp hnb hr).mono ?_
  rintro e w' ⟨v, rfl, hv, hb, hr'⟩
  have HR := hide hr'
  have hc := (HROW.out.but hb hne).cell (j := v) (by omega)
  rw [HF.out v hv] at hc
  clear hr'
  go_wp2
  go_ret
  exact ⟨gi zs v, rfl, by rw [gi_lt (by rw [HN.out]; exact hv)]; exact List.getElem_mem _, hb, HR.out⟩
set_option maxHeartbeats 400000 in
theorem randomPoint_any (B nb c g p : Nat) (A : Option Addr) (w : World) (hp : p ≤ 900000) (hnb : nb ≤ 2000) (hr : Rd w B A nb c g p) :
    Calls Tryz.prog 42 #[.pointer (some ⟨g, 0, none⟩)] w fun e w' => ∃ x y : Int, e = .returned (.agg #[.int .i64 x, .int .i64 y]) ∧ (-2 ≤ x ∧ x ≤ 6) ∧ (-2 ≤ y ∧ y ≤ 6) ∧ Drew w w' B A nb c g p (p + 2) := by
  have lg := hr.lt
  have hd9 : ((9 : Nat) : Int) = 9 := rfl
  have hr0 := hr.below ((Below.refl _ w).alloc (Nat.le_refl _) (.cells #[.int .i64 0, .int .i64 0] 41))
  have D0 := hide (Drew.first hr ((Below.refl _ w).alloc (Nat.le_refl _) (.cells #[.int .i64 0, .int .i64 0] 41)))
  have hg0 := heap_alloc_new w (.cells #[.int .i64 0, .int .i64 0] 41)
  clear hd9
  go_enter Tryz.func42, Tryz.ntmps42
  go_wp2_with fail
  refine (pick_any 9 B nb c g p A _ (by omega) (by omega) (by omega) hnb hr0).mono ?_
  rintro e w1 ⟨v1, rfl, hv1, hb1, hr1⟩
  have hg1 := (hb1.block w.heap.size (by omega)).trans hg0
  go_wp2_with fail
  refine (pick_any 9 B nb c g (p + 1) A _ (by omega) (by omega) (by omega) hnb hr1).mono ?_
  rintro e w2 ⟨v2, rfl, hv2, hb2, hr2⟩
  have hg2 := (hb2.block w.heap.size (by omega)).trans hg1
  have D2 := (D0.out.trans (Drew.of_but hb1 hr1)).trans (Drew.of_but hb2 hr2)
  have c0 := heap_cell hg2 0
  have c1 := heap_cell hg2 1
  have f0 := heap_frozen hg2 0
  have f1 := heap_frozen hg2 1
  simp at c0 c1
  have D3 := (D2.set lg (Nat.le_trans hr.le (Nat.le_of_lt lg)) (q := ⟨w.heap.size, 0, none⟩) (Nat.le_refl _) (.int .i64 ((v1 : Int) - 2))).set lg (Nat.le_trans hr.le (Nat.le_of_lt lg)) (q := ⟨w.heap.size, 1, none⟩) (Nat.le_refl _) (.int .i64 ((v2 : Int) - 2))
  have hgF := box_set2 hg2 (.int .i64 ((v1 : Int) - 2)) (.int .i64 ((v2 : Int) - 2))
  have D3H := hide D3
  have HGF := hide hgF
  clear hg0 hg1 hg2 hr0 hr1 hr2 hb1 hb2 D2 D3 hgF
  go_wp2
  generalize (w2.setCell ⟨w.heap.size, 0, none⟩ (.int .i64 ((v1 : Int) - 2))).setCell ⟨w.heap.size, 1, none⟩ (.int .i64 ((v2 : Int) - 2)) = W at *
  have k0 := heap_cell HGF.out 0
  have k1 := heap_cell HGF.out 1
  simp at k0 k1
  ((try simp only [Exit.inBlock, Exit.then]); refine bodyPost_ret (by simp [results, Tryz.results42, go_sem, ↓IntWalk.iteOmega, k0, k1]; try rfl) rfl ?_)
  exact ⟨_, _, rfl, by omega, by omega, D3H.out⟩
end Go.Proofs.YtnddfdhfefconaaGreatDoor
namespace Go.Proofs.YtnddfdhfefconaaGreatDoor
open Go.RowKit
theorem OwnP.drew {w w' : World} {base B nb c g p p' : Nat} {A : Option Addr} {v : Value} {ps : List Pt} (h : OwnP w base v ps) (hd : Drew w w' B A nb c g p p') (hg : g < base) : OwnP w' base v ps :=
  own_block h fun k hk => hd.block k (h.lt2 k hk) (by have := h.lt k hk; omega)
theorem Drew.grown {w w' w'' : World} {B nb c g p p' : Nat} {A : Option Addr} {row : Option Nat} (h : Drew w w' B A nb c g p p') (hgr : w'.grownBy w'' row) (hrow : ∀ k, row = some k → w.heap.size ≤ k) (hg : g < w.heap.size) : Drew w w'' B A nb c g p p' := by
  have hb : ∀ k, k < w.heap.size → w''.heap[k]? = w'.heap[k]? := fun k hk => hgr.block k (Nat.lt_of_lt_of_le hk h.size) (fun e => by have := hrow k e.symm; omega)
  have hB := h.rd.le
  exact ⟨h.rd.keep ⟨hgr.os, hgr.tape, hgr.output, hgr.size, fun k hk => hb k (by omega)⟩ (hb g hg), hgr.os.trans h.os, hgr.tape.trans h.tape, hgr.output.trans h.output, Nat.le_trans h.size hgr.size, fun k hk hkg => (hb k hk).trans (h.block k hk hkg)⟩
end Go.Proofs.YtnddfdhfefconaaGreatDoor
set_option linter.unusedVariables false
set_option linter.unusedSimpArgs false
namespace Go.Proofs.YtnddfdhfefconaaGreatDoor
open Go.RowKit
def CB (m : Int) (ps : List Pt) : Prop := ∀ p ∈ ps, (-m ≤ p.x ∧ p.x ≤ m) ∧ (-m ≤ p.y ∧ p.y ≤ m)
theorem CB.nil (m : Int) : CB m [] := fun p hp => by cases hp
theorem CB.snoc {m : Int} {ps : List Pt} (h : CB m ps) {x y : Int} (hx : -m ≤ x ∧ x ≤ m) (hy : -m ≤ y ∧ y ≤ m) : CB m (ps ++ [⟨x, y⟩]) := fun p hp => by
  rcases List.mem_append.1 hp with hp | hp
  · exact h p hp
  · rw [List.mem_singleton.1 hp]; exact ⟨hx, hy⟩
theorem CB.set {m : Int} {ps : List Pt} (h : CB m ps) {x y : Int} {i : Nat} (hx : -m ≤ x ∧ x ≤ m) (hy : -m ≤ y ∧ y ≤ m) : CB m (ps.set i ⟨x, y⟩) := fun p hp => by
  rcases List.mem_or_eq_of_mem_set hp with hp | rfl
  · exact h p hp
  · exact ⟨hx, hy⟩
theorem CB.at {m : Int} {ps : List Pt} (h : CB m ps) {i : Nat} (hi : i < ps.length) : (-m ≤ pX ps i ∧ pX ps i ≤ m) ∧ (-m ≤ pY ps i ∧ pY ps i ≤ m) := h _ (gp_mem hi)
theorem CB.more {m m' : Int} {ps : List Pt} (h : CB m ps) (hm : m ≤ m') : CB m' ps := fun p hp => by have := h p hp; omega
set_option maxHeartbeats 2000000 in
theorem randomPoints_any (most B nb c g p : Nat) (A : Option Addr) (w : World) (hm : most ≤ 1000) (hp : p ≤ 700000) (hnb : nb ≤ 2000) (hr : Rd w B A nb c g p) :
    Calls Tryz.prog 36 #[.pointer (some ⟨g, 0, none⟩), .int .i64 most] w fun e w' => ∃ v ps p', e = .returned v ∧ OwnP w' w.heap.size v ps ∧ ps.length ≤ most ∧ CB 1000 ps ∧ p' ≤ p + 2 + 2 * most ∧ Drew w w' B A nb c g p p' := by
  have lg := hr.lt
  have hBg := hr.le
  go_enter Tryz.func36, Tryz.ntmps36
  go_wp2_with fail
  refine (pick_any 6 B nb c g p A _ (by omega) (by omega) (by omega) hnb (hr.to (by (repeat' (first | (with_reducible first | exact Below.refl _ _ | assumption | refine below_ext _ ?_ ?_ | refine Below.alloc ?_ ?_ _ | refine Below.drew ?_ | refine below_drewN ?_ _ | refine le_drewN _ ?_ | refine Below.setCell ?_ ?_ _ | exact Nat.le_refl _ | refine le_ext _ ?_ | refine le_alloc _ ?_ | refine le_setCell _ _ ?_ | refine le_drew ?_) | omega | (simp; done) | (simp; omega)))))).mono ?_
  rintro e w1 ⟨v1, rfl, hv1, hb1, hr1⟩
  have D1 : Drew w w1 B A nb c g p (p + 1) := (Drew.first hr (by (repeat' (first | (with_reducible first | exact Below.refl _ _ | assumption | refine below_ext _ ?_ ?_ | refine Below.alloc ?_ ?_ _ | refine Below.drew ?_ | refine below_drewN ?_ _ | refine le_drewN _ ?_ | refine Below.setCell ?_ ?_ _ | exact Nat.le_refl _ | refine le_ext _ ?_ | refine le_alloc _ ?_ | refine le_setCell _ _ ?_ | refine le_drew ?_) | omega | (simp; done) | (simp; omega))))).trans (Drew.of_but hb1 hr1)
  have O1 : OwnP w1 w.heap.size (.slice (some ⟨w.heap.size, 0, none⟩) 0 0) [] := (OwnP.empty w w.heap.size 0 (Nat.le_refl _) #[] rfl (by simp [maxLen])).drew (Drew.of_but (p := p) hb1 hr1) lg
  clear hb1
  go_wp2_with fail
  have em : (most : Int) + 1 = ((most + 1 : Nat) : Int) := by omega
  rw [em]
  refine (pick_any (most + 1) B nb c g (p + 1) A _ (by omega) (by omega) (by omega) hnb hr1).mono ?_
  rintro e w2 ⟨v2, rfl, hv2, hb2, hr2⟩
  have D2 := D1.trans (Drew.of_but (p := p + 1) hb2 hr2)
  have O2 := O1.drew (Drew.of_but (p := p + 1) hb2 hr2) lg
  clear em hb2 hr1 hr2 D1 O1
  go_wp2_with fail
  go_loopw [5, 7] (fun u5 u7 wr => ∃ m ps q, m ≤ most ∧ u7 = .int .i64 (m : Nat) ∧ OwnP wr w.heap.size u5 ps ∧ ps.length + m ≤ most ∧ q + 2 * m ≤ p + 2 + 2 * most ∧ CB 1000 ps ∧ Drew w wr B A nb c g p q) (fun _ u7 _ => (intOf u7).toNat)
  case atStart => exact ⟨v2, [], p + 2, by omega, rfl, O2, by simp; omega, by omega, CB.nil _, D2⟩
  case round =>
    obtain ⟨m0, ps, q, hm0, rfl, hown, hlen, hq, hcb, hD⟩ := hrel
    obtain ⟨A', n', c', rfl⟩ := hown.slice
    by_cases hlt : 0 < m0
    · obtain ⟨m, rfl⟩ : ∃ m, m0 = m + 1 := ⟨m0 - 1, by omega⟩
      have hd : decide ((0 : Int) < ((m + 1 : Nat) : Int)) = true := decide_eq_true (by omega)
      go_wp2_with fail
      refine (randomPoint_any B nb c g q A _ (by omega) hnb hD.rd).mono ?_
      rintro e w5 ⟨x, y, rfl, hx, hy, D5⟩
      have HO := hide (hown.drew D5 lg)
      have HD5 := hide (hD.trans D5)
      have s5 : w.heap.size ≤ w5.heap.size := HD5.out.size
      clear hown hD D5
      by_cases h0 : v1 = 0
      · have hd0 : ((v1 : Int) == 0) = true := by rw [beq_iff_eq]; omega
        have hd1 : ((v1 : Int) == 1) = false := by rw [beq_eq_false_iff_ne]; omega
        clear h0
        go_wp2_with (at_builtin; refine app_pt rfl _ _ rfl w.heap.size (.slice A' n' c') ps rfl (HO.out.below (by (repeat' (first | (with_reducible first | exact Below.refl _ _ | assumption | refine below_ext _ ?_ ?_ | refine Below.alloc ?_ ?_ _ | refine Below.drew ?_ | refine below_drewN ?_ _ | refine le_drewN _ ?_ | refine Below.setCell ?_ ?_ _ | exact Nat.le_refl _ | refine le_ext _ ?_ | refine le_alloc _ ?_ | refine le_setCell _ _ ?_ | refine le_drew ?_) | omega | (simp; done) | (simp; omega))))) (x) (2 * x + 1) _ _ rfl (by simp [go_sem]) (by simp [go_sem]) (by omega) (by simp; omega) ?_; intro v' w' hown' hb' hat hgr; obtain ⟨A2, n2, c2, rfl⟩ := hown'.slice; have HO3 := hide hown'; clear hown' hat)
        have hDF := (HD5.out.then (by (repeat' (first | (with_reducible first | exact Below.refl _ _ | assumption | refine below_ext _ ?_ ?_ | refine Below.alloc ?_ ?_ _ | refine Below.drew ?_ | refine below_drewN ?_ _ | refine le_drewN _ ?_ | refine Below.setCell ?_ ?_ _ | exact Nat.le_refl _ | refine le_ext _ ?_ | refine le_alloc _ ?_ | refine le_setCell _ _ ?_ | refine le_drew ?_) | omega | (simp; done) | (simp; omega))))).grown hgr (fun j hj => HO.out.lt j hj) lg
        have HDF := hide hDF
        clear hgr hDF
        go_wp2_with fail
        exact ⟨⟨m, ps ++ [⟨x, 2 * x + 1⟩], q + 2, by omega, by go_num, HO3.out, by simp; omega, by omega, hcb.snoc (by omega) (by omega), HDF.out⟩, by first | (simp [intOf]; done) | (simp [intOf]; omega)⟩
      · have hd0 : ((v1 : Int) == 0) = false := by rw [beq_eq_false_iff_ne]; omega
        by_cases h1 : v1 = 1
        · have hd1 : ((v1 : Int) == 1) = true := by rw [beq_iff_eq]; omega
          clear h0 h1
          go_wp2_with (at_builtin; refine app_pt rfl _ _ rfl w.heap.size (.slice A' n' c') ps rfl (HO.out.below (by (repeat' (first | (with_reducible first | exact Below.refl _ _ | assumption | refine below_ext _ ?_ ?_ | refine Below.alloc ?_ ?_ _ | refine Below.drew ?_ | refine below_drewN ?_ _ | refine le_drewN _ ?_ | refine Below.setCell ?_ ?_ _ | exact Nat.le_refl _ | refine le_ext _ ?_ | refine le_alloc _ ?_ | refine le_setCell _ _ ?_ | refine le_drew ?_) | omega | (simp; done) | (simp; omega))))) (x * 100) (y * 37) _ _ rfl (by simp [go_sem]) (by simp [go_sem]) (by omega) (by simp; omega) ?_; intro v' w' hown' hb' hat hgr; obtain ⟨A2, n2, c2, rfl⟩ := hown'.slice; have HO3 := hide hown'; clear hown' hat)
          have hDF := (HD5.out.then (by (repeat' (first | (with_reducible first | exact Below.refl _ _ | assumption | refine below_ext _ ?_ ?_ | refine Below.alloc ?_ ?_ _ | refine Below.drew ?_ | refine below_drewN ?_ _ | refine le_drewN _ ?_ | refine Below.setCell ?_ ?_ _ | exact Nat.le_refl _ | refine le_ext _ ?_ | refine le_alloc _ ?_ | refine le_setCell _ _ ?_ | refine le_drew ?_) | omega | (simp; done) | (simp; omega))))).grown hgr (fun j hj => HO.out.lt j hj) lg
          have HDF := hide hDF
          clear hgr hDF
          go_wp2_with fail
          exact ⟨⟨m, ps ++ [⟨x * 100, y * 37⟩], q + 2, by omega, by go_num, HO3.out, by simp; omega, by omega, hcb.snoc (by omega) (by omega), HDF.out⟩, by first | (simp [intOf]; done) | (simp [intOf]; omega)⟩
        · have hd1 : ((v1 : Int) == 1) = false := by rw [beq_eq_false_iff_ne]; omega
          clear h0 h1
          go_wp2_with (at_builtin; refine app_pt rfl _ _ rfl w.heap.size (.slice A' n' c') ps rfl (HO.out.below (by (repeat' (first | (with_reducible first | exact Below.refl _ _ | assumption | refine below_ext _ ?_ ?_ | refine Below.alloc ?_ ?_ _ | refine Below.drew ?_ | refine below_drewN ?_ _ | refine le_drewN _ ?_ | refine Below.setCell ?_ ?_ _ | exact Nat.le_refl _ | refine le_ext _ ?_ | refine le_alloc _ ?_ | refine le_setCell _ _ ?_ | refine le_drew ?_) | omega | (simp; done) | (simp; omega))))) (x) (y) _ _ rfl (by simp [go_sem]) (by simp [go_sem]) (by omega) (by simp; omega) ?_; intro v' w' hown' hb' hat hgr; obtain ⟨A2, n2, c2, rfl⟩ := hown'.slice; have HO3 := hide hown'; clear hown' hat)
          have hDF := (HD5.out.then (by (repeat' (first | (with_reducible first | exact Below.refl _ _ | assumption | refine below_ext _ ?_ ?_ | refine Below.alloc ?_ ?_ _ | refine Below.drew ?_ | refine below_drewN ?_ _ | refine le_drewN _ ?_ | refine Below.setCell ?_ ?_ _ | exact Nat.le_refl _ | refine le_ext _ ?_ | refine le_alloc _ ?_ | refine le_setCell _ _ ?_ | refine le_drew ?_) | omega | (simp; done) | (simp; omega))))).grown hgr (fun j hj => HO.out.lt j hj) lg
          have HDF := hide hDF
          clear hgr hDF
          go_wp2_with fail
          exact ⟨⟨m, ps ++ [⟨x, y⟩], q + 2, by omega, by go_num, HO3.out, by simp; omega, by omega, hcb.snoc (by omega) (by omega), HDF.out⟩, by first | (simp [intOf]; done) | (simp [intOf]; omega)⟩
    · have hk0 : m0 = 0 := by omega
      subst hk0
      have HO := hide hown
      have HD := hide hD
      clear hown hD
      go_wp2
      go_ret
      exact ⟨_, ps, q, rfl, HO.out, by omega, hcb, by omega, HD.out⟩
theorem BytesAt.more {w : World} {B B' : Nat} {A : Option Addr} {n : Nat} (h : BytesAt w B A n) (hB : B ≤ B') : BytesAt w B' A n := fun hn => by
  obtain ⟨b, o, hA, hb, hc⟩ := h hn
  exact ⟨b, o, hA, by omega, hc⟩
theorem gp_set_ne {ps : List Pt} {i j : Nat} (h : i ≠ j) (p : Pt) : gp (ps.set i p) j = gp ps j := by
  unfold gp; rw [List.getD_eq_getElem?_getD, List.getD_eq_getElem?_getD, List.getElem?_set_ne h]
end Go.Proofs.YtnddfdhfefconaaGreatDoor
set_option linter.unusedVariables false
set_option linter.unusedSimpArgs false
namespace Go.Proofs.YtnddfdhfefconaaGreatDoor
open Go.RowKit
theorem lit_pts (W : World) (T : TypeId) (qs : List Pt) (cs : Array Value) (h : cs = (ptVals qs).toArray) : PtsAt (W.alloc (.cells cs T)) (W.heap.size + 1) (some ⟨W.heap.size, 0, none⟩) qs := by
  refine Src.pts (fun j u hu => ?_) (Nat.lt_succ_self _)
  subst h
  rw [Nat.zero_add, heap_cell (heap_alloc_new W _) j]
  simpa using hu
theorem ptVals_setP : ∀ (ps : List Pt) (i : Nat) (x y : Int), ptVals (ps.set i ⟨x, y⟩) = ((ptVals ps).set (i * 2) (.int .i64 x)).set (i * 2 + 1) (.int .i64 y)
  | [], i, x, y => by simp [ptVals]
  | p :: ps, 0, x, y => rfl
  | p :: ps, i + 1, x, y => by
    rw [show (i + 1) * 2 = i * 2 + 1 + 1 from by omega]
    simp [ptVals, ptVals_setP ps i x y]
theorem OwnP.setP {w : World} {base g : Nat} {n c : Nat} {ps : List Pt} (h : OwnP w base (.slice (some ⟨g, 0, none⟩) n c) ps) (i : Nat) (x y : Int) :
    OwnP ((w.setCell ⟨g, i * 2, none⟩ (.int .i64 x)).setCell ⟨g, i * 2 + 1, none⟩ (.int .i64 y)) base (.slice (some ⟨g, 0, none⟩) n c) (ps.set i ⟨x, y⟩) := by
  have hl := h.pts.1
  unfold OwnP at h ⊢
  rcases h.2 with ⟨hv, h1⟩ | ⟨g', cap, cur, hv, hg, hgg, hnc, hcm, hsz, htk⟩
  · cases hv
  · injection hv with e1 e2 e3
    injection e1 with e1
    injection e1 with e1
    subst e1 e3
    refine ⟨by rw [ptVals_len], .inr ⟨g, c, (cur.setIfInBounds (i * 2) (.int .i64 x)).setIfInBounds (i * 2 + 1) (.int .i64 y), by rw [List.length_set, hl], hg, by simp [World.setCell, Array.getElem?_modify, hgg], by rw [List.length_set]; omega, hcm, by simpa using hsz, ?_⟩⟩
    rw [List.length_set, ptVals_setP, ← htk, Array.toList_setIfInBounds, Array.toList_setIfInBounds, List.take_set, List.take_set]
theorem PtsAt.blk {w w' : World} {B b o : Nat} {ps : List Pt} (h : PtsAt w B (some ⟨b, o, none⟩) ps) (hb : w'.heap[b]? = w.heap[b]?) : PtsAt w' B (some ⟨b, o, none⟩) ps := fun hn => by
  obtain ⟨b', o', hA, hB, hc⟩ := h hn
  injection hA with hA; injection hA with h1 h2 _
  subst h1 h2
  exact ⟨b, o, rfl, hB, fun i hi => ⟨(World.cell?_of_block hb).trans (hc i hi).1, (World.cell?_of_block hb).trans (hc i hi).2⟩⟩
theorem gp_set_eq {ps : List Pt} {i : Nat} (h : i < ps.length) (p : Pt) : gp (ps.set i p) i = p := by
  rw [gp_lt (by rw [List.length_set]; exact h)]; simp
theorem CB.of {m : Int} {ps : List Pt} (h : ∀ i, i < ps.length → (-m ≤ pX ps i ∧ pX ps i ≤ m) ∧ (-m ≤ pY ps i ∧ pY ps i ≤ m)) : CB m ps := fun p hp => by
  obtain ⟨i, hi, rfl⟩ := gp_of_mem hp
  exact h i hi
theorem CB.rev {m : Int} {ps : List Pt} (h : CB m ps) : CB m ps.reverse := fun p hp => h p (List.mem_reverse.1 hp)
theorem CB.drop {m : Int} {ps : List Pt} (h : CB m ps) (k : Nat) : CB m (ps.drop k) := fun p hp => h p (List.mem_of_mem_drop hp)
theorem CB.take {m : Int} {ps : List Pt} (h : CB m ps) (k : Nat) : CB m (ps.take k) := fun p hp => h p (List.mem_of_mem_take hp)
theorem CB.app {m : Int} {ps qs : List Pt} (h : CB m ps) (h' : CB m qs) : CB m (ps ++ qs) := fun p hp => (List.mem_append.1 hp).elim (h p) (h' p)
theorem cell_top (w : World) (a b c d e f : Obj) (cs : Array Value) (T : TypeId) (j : Nat) : (((((((w.alloc a).alloc b).alloc c).alloc d).alloc e).alloc f).alloc (.cells cs T)).cell? ⟨w.heap.size + 1 + 1 + 1 + 1 + 1 + 1, j, none⟩ = cs[j]? := by
  have SZ : ((((((w.alloc a).alloc b).alloc c).alloc d).alloc e).alloc f).heap.size = w.heap.size + 1 + 1 + 1 + 1 + 1 + 1 := by simp only [size_alloc]
  rw [← SZ]
  exact heap_cell (heap_alloc_new _ (.cells cs T)) j
theorem pts0 (w : World) (qs : List Pt) (cs : Array Value) (hc : cs = (ptVals qs).toArray) (T : TypeId) (b c d e f g : Obj) : PtsAt (((((((w.alloc (.cells cs T)).alloc b).alloc c).alloc d).alloc e).alloc f).alloc g) (w.heap.size + 6) (some ⟨w.heap.size, 0, none⟩) qs := by
  have h := lit_pts w T qs cs hc
  have hb : Below (w.heap.size + 1) (w.alloc (.cells cs T)) (((((((w.alloc (.cells cs T)).alloc b).alloc c).alloc d).alloc e).alloc f).alloc g) := by
    refine Below.alloc (Below.alloc (Below.alloc (Below.alloc (Below.alloc (Below.alloc (Below.refl _ _) ?_ _) ?_ _) ?_ _) ?_ _) ?_ _) ?_ _ <;> simp <;> omega
  exact (h.below hb).more (by omega)
theorem pts1 (w : World) (qs : List Pt) (cs : Array Value) (hc : cs = (ptVals qs).toArray) (T : TypeId) (a c d e f g : Obj) : PtsAt (((((((w.alloc a).alloc (.cells cs T)).alloc c).alloc d).alloc e).alloc f).alloc g) (w.heap.size + 6) (some ⟨w.heap.size + 1, 0, none⟩) qs := by
  have h := lit_pts (w.alloc a) T qs cs hc
  have hb : Below (w.heap.size + 2) ((w.alloc a).alloc (.cells cs T)) (((((((w.alloc a).alloc (.cells cs T)).alloc c).alloc d).alloc e).alloc f).alloc g) := by
    refine Below.alloc (Below.alloc (Below.alloc (Below.alloc (Below.alloc (Below.refl _ _) ?_ _) ?_ _) ?_ _) ?_ _) ?_ _ <;> simp <;> omega
  rw [size_alloc] at h
  exact (h.below hb).more (by omega)
theorem pts2 (w : World) (qs : List Pt) (cs : Array Value) (hc : cs = (ptVals qs).toArray) (T : TypeId) (a b d e f g : Obj) : PtsAt (((((((w.alloc a).alloc b).alloc (.cells cs T)).alloc d).alloc e).alloc f).alloc g) (w.heap.size + 6) (some ⟨w.heap.size + 1 + 1, 0, none⟩) qs := by
  have h := lit_pts ((w.alloc a).alloc b) T qs cs hc
  have hb : Below (w.heap.size + 3) (((w.alloc a).alloc b).alloc (.cells cs T)) (((((((w.alloc a).alloc b).alloc (.cells cs T)).alloc d).alloc e).alloc f).alloc g) := by
    refine Below.alloc (Below.alloc (Below.alloc (Below.alloc (Below.refl _ _) ?_ _) ?_ _) ?_ _) ?_ _ <;> simp <;> omega
  rw [size_alloc, size_alloc] at h
  exact (h.below hb).more (by omega)
theorem pts3 (w : World) (qs : List Pt) (cs : Array Value) (hc : cs = (ptVals qs).toArray) (T : TypeId) (a b c e f g : Obj) : PtsAt (((((((w.alloc a).alloc b).alloc c).alloc (.cells cs T)).alloc e).alloc f).alloc g) (w.heap.size + 6) (some ⟨w.heap.size + 1 + 1 + 1, 0, none⟩) qs := by
  have h := lit_pts (((w.alloc a).alloc b).alloc c) T qs cs hc
  have hb : Below (w.heap.size + 4) ((((w.alloc a).alloc b).alloc c).alloc (.cells cs T)) (((((((w.alloc a).alloc b).alloc c).alloc (.cells cs T)).alloc e).alloc f).alloc g) := by
    refine Below.alloc (Below.alloc (Below.alloc (Below.refl _ _) ?_ _) ?_ _) ?_ _ <;> simp <;> omega
  rw [size_alloc, size_alloc, size_alloc] at h
  exact (h.below hb).more (by omega)
theorem pts4 (w : World) (qs : List Pt) (cs : Array Value) (hc : cs = (ptVals qs).toArray) (T : TypeId) (a b c d f g : Obj) : PtsAt (((((((w.alloc a).alloc b).alloc c).alloc d).alloc (.cells cs T)).alloc f).alloc g) (w.heap.size + 6) (some ⟨w.heap.size + 1 + 1 + 1 + 1, 0, none⟩) qs := by
  have h := lit_pts ((((w.alloc a).alloc b).alloc c).alloc d) T qs cs hc
  have hb : Below (w.heap.size + 5) (((((w.alloc a).alloc b).alloc c).alloc d).alloc (.cells cs T)) (((((((w.alloc a).alloc b).alloc c).alloc d).alloc (.cells cs T)).alloc f).alloc g) := by
    refine Below.alloc (Below.alloc (Below.refl _ _) ?_ _) ?_ _ <;> simp <;> omega
  rw [size_alloc, size_alloc, size_alloc, size_alloc] at h
  exact (h.below hb).more (by omega)
theorem pts5 (w : World) (qs : List Pt) (cs : Array Value) (hc : cs = (ptVals qs).toArray) (T : TypeId) (a b c d e g : Obj) : PtsAt (((((((w.alloc a).alloc b).alloc c).alloc d).alloc e).alloc (.cells cs T)).alloc g) (w.heap.size + 6) (some ⟨w.heap.size + 1 + 1 + 1 + 1 + 1, 0, none⟩) qs := by
  have h := lit_pts (((((w.alloc a).alloc b).alloc c).alloc d).alloc e) T qs cs hc
  have hb : Below (w.heap.size + 6) ((((((w.alloc a).alloc b).alloc c).alloc d).alloc e).alloc (.cells cs T)) (((((((w.alloc a).alloc b).alloc c).alloc d).alloc e).alloc (.cells cs T)).alloc g) := by
    refine Below.alloc (Below.refl _ _) ?_ _ <;> simp <;> omega
  rw [size_alloc, size_alloc, size_alloc, size_alloc, size_alloc] at h
  exact (h.below hb).more (by omega)
set_option maxHeartbeats 2000000 in
theorem shapes_key (w : World) : ∀ j, j < 6 → ∃ g n qs, ((((((((w.alloc (.cells #[.int .i64 0, .int .i64 0, .int .i64 4, .int .i64 0, .int .i64 4, .int .i64 4, .int .i64 0, .int .i64 4] 41)).alloc (.cells #[.int .i64 0, .int .i64 0, .int .i64 6, .int .i64 0, .int .i64 6, .int .i64 6, .int .i64 3, .int .i64 2, .int .i64 0, .int .i64 6] 41)).alloc (.cells #[.int .i64 0, .int .i64 0, .int .i64 5, .int .i64 1, .int .i64 7, .int .i64 5, .int .i64 2, .int .i64 7, .int .i64 (-1), .int .i64 4] 41)).alloc (.cells #[.int .i64 0, .int .i64 0, .int .i64 2, .int .i64 0, .int .i64 2, .int .i64 3, .int .i64 4, .int .i64 3, .int .i64 4, .int .i64 0, .int .i64 6, .int .i64 0, .int .i64 6, .int .i64 5, .int .i64 0, .int .i64 5] 41)).alloc (.cells #[.int .i64 0, .int .i64 0, .int .i64 3, .int .i64 1, .int .i64 6, .int .i64 0, .int .i64 5, .int .i64 3, .int .i64 6, .int .i64 6, .int .i64 3, .int .i64 5, .int .i64 0, .int .i64 6, .int .i64 1, .int .i64 3] 41)).alloc (.cells #[.int .i64 0, .int .i64 0, .int .i64 9, .int .i64 2, .int .i64 1, .int .i64 3] 41)).alloc (.cells #[.slice (some ⟨w.heap.size, 0, none⟩) 4 4, .slice (some ⟨w.heap.size + 1, 0, none⟩) 5 5, .slice (some ⟨w.heap.size + 1 + 1, 0, none⟩) 5 5, .slice (some ⟨w.heap.size + 1 + 1 + 1, 0, none⟩) 8 8, .slice (some ⟨w.heap.size + 1 + 1 + 1 + 1, 0, none⟩) 8 8, .slice (some ⟨w.heap.size + 1 + 1 + 1 + 1 + 1, 0, none⟩) 3 3] 23))).cell? ⟨w.heap.size + 1 + 1 + 1 + 1 + 1 + 1, j, none⟩ = some (.slice (some ⟨g, 0, none⟩) n n) ∧ qs.length = n ∧ 3 ≤ n ∧ n ≤ 8 ∧ CB 9 qs ∧ w.heap.size ≤ g ∧ PtsAt ((((((((w.alloc (.cells #[.int .i64 0, .int .i64 0, .int .i64 4, .int .i64 0, .int .i64 4, .int .i64 4, .int .i64 0, .int .i64 4] 41)).alloc (.cells #[.int .i64 0, .int .i64 0, .int .i64 6, .int .i64 0, .int .i64 6, .int .i64 6, .int .i64 3, .int .i64 2, .int .i64 0, .int .i64 6] 41)).alloc (.cells #[.int .i64 0, .int .i64 0, .int .i64 5, .int .i64 1, .int .i64 7, .int .i64 5, .int .i64 2, .int .i64 7, .int .i64 (-1), .int .i64 4] 41)).alloc (.cells #[.int .i64 0, .int .i64 0, .int .i64 2, .int .i64 0, .int .i64 2, .int .i64 3, .int .i64 4, .int .i64 3, .int .i64 4, .int .i64 0, .int .i64 6, .int .i64 0, .int .i64 6, .int .i64 5, .int .i64 0, .int .i64 5] 41)).alloc (.cells #[.int .i64 0, .int .i64 0, .int .i64 3, .int .i64 1, .int .i64 6, .int .i64 0, .int .i64 5, .int .i64 3, .int .i64 6, .int .i64 6, .int .i64 3, .int .i64 5, .int .i64 0, .int .i64 6, .int .i64 1, .int .i64 3] 41)).alloc (.cells #[.int .i64 0, .int .i64 0, .int .i64 9, .int .i64 2, .int .i64 1, .int .i64 3] 41)).alloc (.cells #[.slice (some ⟨w.heap.size, 0, none⟩) 4 4, .slice (some ⟨w.heap.size + 1, 0, none⟩) 5 5, .slice (some ⟨w.heap.size + 1 + 1, 0, none⟩) 5 5, .slice (some ⟨w.heap.size + 1 + 1 + 1, 0, none⟩) 8 8, .slice (some ⟨w.heap.size + 1 + 1 + 1 + 1, 0, none⟩) 8 8, .slice (some ⟨w.heap.size + 1 + 1 + 1 + 1 + 1, 0, none⟩) 3 3] 23))) (w.heap.size + 6) (some ⟨g, 0, none⟩) qs := by
  intro j hj
  rw [cell_top]
  match j, hj with
  | 0, _ => exact ⟨_, _, [⟨0, 0⟩, ⟨4, 0⟩, ⟨4, 4⟩, ⟨0, 4⟩], rfl, rfl, by omega, by omega, by unfold CB; decide, by omega, pts0 w _ _ (by rfl) _ _ _ _ _ _ _⟩
  | 1, _ => exact ⟨_, _, [⟨0, 0⟩, ⟨6, 0⟩, ⟨6, 6⟩, ⟨3, 2⟩, ⟨0, 6⟩], rfl, rfl, by omega, by omega, by unfold CB; decide, by omega, pts1 w _ _ (by rfl) _ _ _ _ _ _ _⟩
  | 2, _ => exact ⟨_, _, [⟨0, 0⟩, ⟨5, 1⟩, ⟨7, 5⟩, ⟨2, 7⟩, ⟨-1, 4⟩], rfl, rfl, by omega, by omega, by unfold CB; decide, by omega, pts2 w _ _ (by rfl) _ _ _ _ _ _ _⟩
  | 3, _ => exact ⟨_, _, [⟨0, 0⟩, ⟨2, 0⟩, ⟨2, 3⟩, ⟨4, 3⟩, ⟨4, 0⟩, ⟨6, 0⟩, ⟨6, 5⟩, ⟨0, 5⟩], rfl, rfl, by omega, by omega, by unfold CB; decide, by omega, pts3 w _ _ (by rfl) _ _ _ _ _ _ _⟩
  | 4, _ => exact ⟨_, _, [⟨0, 0⟩, ⟨3, 1⟩, ⟨6, 0⟩, ⟨5, 3⟩, ⟨6, 6⟩, ⟨3, 5⟩, ⟨0, 6⟩, ⟨1, 3⟩], rfl, rfl, by omega, by omega, by unfold CB; decide, by omega, pts4 w _ _ (by rfl) _ _ _ _ _ _ _⟩
  | 5, _ => exact ⟨_, _, [⟨0, 0⟩, ⟨9, 2⟩, ⟨1, 3⟩], rfl, rfl, by omega, by omega, by unfold CB; decide, by omega, pts5 w _ _ (by rfl) _ _ _ _ _ _ _⟩
end Go.Proofs.YtnddfdhfefconaaGreatDoor
