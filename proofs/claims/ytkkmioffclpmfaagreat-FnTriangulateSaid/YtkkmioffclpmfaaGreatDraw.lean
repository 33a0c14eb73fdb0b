
/- The reference's generators: a new reader, one of a list of numbers, a random point. -/
import Derived.Test.YtkkmioffclpmfaaGreatPick
set_option linter.unusedVariables false
set_option linter.unusedSimpArgs false
namespace Go.Proofs.YtkkmioffclpmfaaGreat
open Go.RowKit

set_option maxHeartbeats 400000 in
theorem newReader_any (n c : Nat) (A : Option Addr) (w : World) (hn : n ≤ c) (hc : c ≤ 9223372036854775807) (hA : BytesAt w w.heap.size A n) :
    Calls Tryz.prog 38 #[.slice A n c] w fun e w' => ∃ g nb, e = .returned (.pointer (some ⟨g, 0, none⟩)) ∧ w.heap.size ≤ g ∧ nb ≤ 2000 ∧ Rd w' w.heap.size A nb c g 0 ∧ ∃ x, w' = ext w x := by
  by_cases h : 2000 < n
  · obtain ⟨b, o, rfl, hb, hby⟩ := hA (by omega)
    have HBY := hide hby
    clear hby hA
    go_enter Tryz.func38, Tryz.ntmps38
    go_wp2
    go_ret
    have HB2 : BytesAt w w.heap.size (some ⟨b, o, none⟩) 2000 := fun _ => ⟨b, o, rfl, hb, fun i hi => HBY.out i (by omega)⟩
    exact ⟨_, 2000, rfl, Nat.le_refl _, Nat.le_refl _, ⟨heap_alloc_new _ _, HB2.below (by (repeat' (first | (with_reducible exact Below.refl _ _) | (with_reducible assumption) | (with_reducible refine below_ext _ ?_ ?_) | (with_reducible refine Below.alloc ?_ ?_ _) | (with_reducible refine Below.drew ?_) | (with_reducible refine below_drewN ?_ _) | (with_reducible refine le_drewN _ ?_) | (with_reducible refine Below.setCell ?_ ?_ _) | (with_reducible exact Nat.le_refl _) | (with_reducible refine le_ext _ ?_) | (with_reducible refine le_alloc _ ?_) | (with_reducible refine le_setCell _ _ ?_) | (with_reducible refine le_drew ?_) | omega | (simp; done) | (simp; omega)))), Nat.le_refl _⟩, (ext_mk (by (repeat' (first | (with_reducible exact Below.refl _ _) | (with_reducible assumption) | (with_reducible refine below_ext _ ?_ ?_) | (with_reducible refine Below.alloc ?_ ?_ _) | (with_reducible refine Below.drew ?_) | (with_reducible refine below_drewN ?_ _) | (with_reducible refine le_drewN _ ?_) | (with_reducible refine Below.setCell ?_ ?_ _) | (with_reducible exact Nat.le_refl _) | (with_reducible refine le_ext _ ?_) | (with_reducible refine le_alloc _ ?_) | (with_reducible refine le_setCell _ _ ?_) | (with_reducible refine le_drew ?_) | omega | (simp; done) | (simp; omega)))))⟩
  · go_enter Tryz.func38, Tryz.ntmps38
    go_wp2
    go_ret
    exact ⟨_, n, rfl, Nat.le_refl _, by omega, ⟨heap_alloc_new _ _, hA.below (by (repeat' (first | (with_reducible exact Below.refl _ _) | (with_reducible assumption) | (with_reducible refine below_ext _ ?_ ?_) | (with_reducible refine Below.alloc ?_ ?_ _) | (with_reducible refine Below.drew ?_) | (with_reducible refine below_drewN ?_ _) | (with_reducible refine le_drewN _ ?_) | (with_reducible refine Below.setCell ?_ ?_ _) | (with_reducible exact Nat.le_refl _) | (with_reducible refine le_ext _ ?_) | (with_reducible refine le_alloc _ ?_) | (with_reducible refine le_setCell _ _ ?_) | (with_reducible refine le_drew ?_) | omega | (simp; done) | (simp; omega)))), Nat.le_refl _⟩, (ext_mk (by (repeat' (first | (with_reducible exact Below.refl _ _) | (with_reducible assumption) | (with_reducible refine below_ext _ ?_ ?_) | (with_reducible refine Below.alloc ?_ ?_ _) | (with_reducible refine Below.drew ?_) | (with_reducible refine below_drewN ?_ _) | (with_reducible refine le_drewN _ ?_) | (with_reducible refine Below.setCell ?_ ?_ _) | (with_reducible exact Nat.le_refl _) | (with_reducible refine le_ext _ ?_) | (with_reducible refine le_alloc _ ?_) | (with_reducible refine le_setCell _ _ ?_) | (with_reducible refine le_drew ?_) | omega | (simp; done) | (simp; omega)))))⟩
/-- What a draw leaves: the reader, moved on; whatever lies below B; and whatever is not the reader's own block. -/
structure Drew (w w' : World) (B : Nat) (A : Option Addr) (nb c g p p' : Nat) : Prop where
  rd : Rd w' B A nb c g p'
  os : w'.os = w.os
  tape : w'.tape = w.tape
  output : w'.output = w.output
  size : w.heap.size ≤ w'.heap.size
  block : ∀ k, k < w.heap.size → k ≠ g → w'.heap[k]? = w.heap[k]?
theorem Drew.of_but {w w' : World} {B : Nat} {A : Option Addr} {nb c g p p' : Nat} (h : But w w' g) (hr : Rd w' B A nb c g p') : Drew w w' B A nb c g p p' :=
  ⟨hr, h.os, h.tape, h.output, Nat.le_of_eq h.size.symm, fun k _ hk => h.block k hk⟩
theorem Drew.below {w w' : World} {B C : Nat} {A : Option Addr} {nb c g p p' : Nat} (h : Drew w w' B A nb c g p p') (hC : C ≤ g) (hw : C ≤ w.heap.size) : Below C w w' :=
  ⟨h.os, h.tape, h.output, h.size, fun k hk => h.block k (by omega) (by omega)⟩
theorem Drew.trans {w w' w'' : World} {B : Nat} {A : Option Addr} {nb c g p p' p'' : Nat} (h : Drew w w' B A nb c g p p') (h' : Drew w' w'' B A nb c g p' p'') : Drew w w'' B A nb c g p p'' :=
  ⟨h'.rd, h'.os.trans h.os, h'.tape.trans h.tape, h'.output.trans h.output, Nat.le_trans h.size h'.size, fun k hk hg => (h'.block k (Nat.lt_of_lt_of_le hk h.size) hg).trans (h.block k hk hg)⟩
theorem Drew.then {w w' w'' : World} {B : Nat} {A : Option Addr} {nb c g p p' : Nat} (h : Drew w w' B A nb c g p p') (hb : Below w'.heap.size w' w'') : Drew w w'' B A nb c g p p' :=
  ⟨h.rd.below hb, hb.os.trans h.os, hb.tape.trans h.tape, hb.output.trans h.output, Nat.le_trans h.size hb.size, fun k hk hg => (hb.block k (Nat.lt_of_lt_of_le hk h.size)).trans (h.block k hk hg)⟩
theorem Drew.first {w w' : World} {B : Nat} {A : Option Addr} {nb c g p : Nat} (h : Rd w B A nb c g p) (hb : Below w.heap.size w w') : Drew w w' B A nb c g p p :=
  ⟨h.below hb, hb.os, hb.tape, hb.output, hb.size, fun k hk _ => hb.block k hk⟩
theorem Drew.set {w w' : World} {B : Nat} {A : Option Addr} {nb c g p p' : Nat} (h : Drew w w' B A nb c g p p') (hg : g < w.heap.size) (hB : B ≤ w.heap.size) {q : Addr} (hq : w.heap.size ≤ q.block) (v : Value) : Drew w (w'.setCell q v) B A nb c g p p' := by
  have hb : ∀ k, k < w.heap.size → (w'.setCell q v).heap[k]? = w'.heap[k]? := fun k hk => Below.heap_setCell w' _ _ k (by omega)
  have hbe : Below B w' (w'.setCell q v) := ⟨rfl, rfl, rfl, by simp [World.setCell], fun k hk => hb k (by omega)⟩
  exact ⟨h.rd.keep hbe (hb g hg), h.os, h.tape, h.output, by simpa [World.setCell] using h.size, fun k hk hkg => (hb k hk).trans (h.block k hk hkg)⟩
set_option maxHeartbeats 400000 in
theorem one_any (zs : List Int) (B nb c g p gz cz : Nat) (T : TypeId) (m : Nat) (f : Nat → Value) (A : Option Addr) (w : World) (h1 : 1 ≤ zs.length) (h2 : zs.length ≤ 1000) (hp : p ≤ 1000000) (hnb : nb ≤ 2000) (hr : Rd w B A nb c g p)
    (hrow : RowAt w gz T m f) (hm : zs.length ≤ m) (hf : ∀ i, i < zs.length → f i = .int .i64 (gi zs i)) (hne : gz ≠ g) :
    Calls Tryz.prog 121 #[.pointer (some ⟨g, 0, none⟩), .slice (some ⟨gz, 0, none⟩) zs.length cz] w fun e w' => ∃ z : Int, e = .returned (.int .i64 z) ∧ z ∈ zs ∧ But w w' g ∧ Rd w' B A nb c g (p + 1) := by
  generalize hn : zs.length = n at *
  have HF := hide hf
  have HROW := hide hrow
  have HN := hide hn
  clear hf hrow hn
  go_enter Tryz.func121, Tryz.ntmps121
  go_wp2_with fail
  refine (pick_any n B nb c g p A _ h1 (by omega) hp hnb hr).mono ?_
  rintro e w' ⟨v, rfl, hv, hb, hr'⟩
  have HR := hide hr'
  have hc := (HROW.out.but hb hne).cell (j := v) (by omega)
  rw [HF.out v hv] at hc
  clear hr'
  go_wp2
  go_ret
  exact ⟨gi zs v, rfl, by rw [gi_lt (by rw [HN.out]; exact hv)]; exact List.getElem_mem _, hb, HR.out⟩
set_option maxHeartbeats 400000 in
theorem randomPoint_any (B nb c g p : Nat) (A : Option Addr) (w : World) (hp : p ≤ 900000) (hnb : nb ≤ 2000) (hr : Rd w B A nb c g p) :
    Calls Tryz.prog 120 #[.pointer (some ⟨g, 0, none⟩)] w fun e w' => ∃ x y : Int, e = .returned (.agg #[.int .i64 x, .int .i64 y]) ∧ (-2 ≤ x ∧ x ≤ 6) ∧ (-2 ≤ y ∧ y ≤ 6) ∧ Drew w w' B A nb c g p (p + 2) := by
  have lg := hr.lt
  have hd9 : ((9 : Nat) : Int) = 9 := rfl
  have hr0 := hr.below ((Below.refl _ w).alloc (Nat.le_refl _) (.cells #[.int .i64 0, .int .i64 0] 35))
  have D0 := hide (Drew.first hr ((Below.refl _ w).alloc (Nat.le_refl _) (.cells #[.int .i64 0, .int .i64 0] 35)))
  have hg0 := heap_alloc_new w (.cells #[.int .i64 0, .int .i64 0] 35)
  clear hd9
  go_enter Tryz.func120, Tryz.ntmps120
  go_wp2_with fail
  refine (pick_any 9 B nb c g p A _ (by omega) (by omega) (by omega) hnb hr0).mono ?_
  rintro e w1 ⟨v1, rfl, hv1, hb1, hr1⟩
  have hg1 := (hb1.block w.heap.size (by omega)).trans hg0
  go_wp2_with fail
  refine (pick_any 9 B nb c g (p + 1) A _ (by omega) (by omega) (by omega) hnb hr1).mono ?_
  rintro e w2 ⟨v2, rfl, hv2, hb2, hr2⟩
  have hg2 := (hb2.block w.heap.size (by omega)).trans hg1
  have D2 := (D0.out.trans (Drew.of_but hb1 hr1)).trans (Drew.of_but hb2 hr2)
  have c0 := heap_cell hg2 0
  have c1 := heap_cell hg2 1
  have f0 := heap_frozen hg2 0
  have f1 := heap_frozen hg2 1
  simp at c0 c1
  have D3 := (D2.set lg (Nat.le_trans hr.le (Nat.le_of_lt lg)) (q := ⟨w.heap.size, 0, none⟩) (Nat.le_refl _) (.int .i64 ((v1 : Int) - 2))).set lg (Nat.le_trans hr.le (Nat.le_of_lt lg)) (q := ⟨w.heap.size, 1, none⟩) (Nat.le_refl _) (.int .i64 ((v2 : Int) - 2))
  have hgF := box_set2 hg2 (.int .i64 ((v1 : Int) - 2)) (.int .i64 ((v2 : Int) - 2))
  have D3H := hide D3
  have HGF := hide hgF
  clear hg0 hg1 hg2 hr0 hr1 hr2 hb1 hb2 D2 D3 hgF
  go_wp2
  generalize (w2.setCell ⟨w.heap.size, 0, none⟩ (.int .i64 ((v1 : Int) - 2))).setCell ⟨w.heap.size, 1, none⟩ (.int .i64 ((v2 : Int) - 2)) = W at *
  have k0 := heap_cell HGF.out 0
  have k1 := heap_cell HGF.out 1
  simp at k0 k1
  ((try simp only [Exit.inBlock, Exit.then]); refine bodyPost_ret (by simp [results, Tryz.results120, go_sem, ↓IntWalk.iteOmega, k0, k1]; try rfl) rfl ?_)
  exact ⟨_, _, rfl, by omega, by omega, D3H.out⟩
end Go.Proofs.YtkkmioffclpmfaaGreat
