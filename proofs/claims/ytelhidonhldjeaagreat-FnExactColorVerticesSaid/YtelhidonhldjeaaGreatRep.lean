
/- The library's Repeat of one number. -/
import Derived.Test.YtelhidonhldjeaaGreatColS
import Derived.Test.YtelhidonhldjeaaGreatHelp
import Derived.Test.YtelhidonhldjeaaGreatSlayB
import Derived.Shelf.Bits.Mul64
import Derived.Laws.CopyOwn
import Derived.BigRegion
import Derived.Deep.RegionHeld3
set_option linter.unusedVariables false
set_option linter.unusedSimpArgs false
namespace Go.Proofs.YtelhidonhldjeaaGreat
open Go.RowKit

theorem splice_len {L cs : List Value} {n k q : Nat} (hL : L.length = n) (hc : cs.length = q) (h : k + q ≤ n) : (splice L k cs).length = n := by rw [length_splice _ _ _ (by omega), hL]
theorem splice_fill {L : List Value} {v : Value} {n k q : Nat} (hL : L.length = n) (hk : L.take k = List.replicate k v) (h : k + q ≤ n) : (splice L k (List.replicate q v)).take (k + q) = List.replicate (k + q) v := by
  unfold splice
  rw [hk, List.length_replicate, ← List.append_assoc, List.replicate_append_replicate, List.take_append_of_le_length (by rw [List.length_replicate]; exact Nat.le_refl _), List.take_of_length_le (by rw [List.length_replicate]; exact Nat.le_refl _)]
theorem repInfo : (Tryz.prog.info? 3).map (fun i => (i.zero, i.size, i.bytes)) = some (some (.int .i64 0), 1, 8) := by kernel_rfl
set_option maxRecDepth 20000 in
set_option maxHeartbeats 2000000 in
theorem rep_any (x : Int) (b c n : Nat) (w : World) (h0 : 0 < n) (hn : n ≤ 1000000) (hx : w.cell? ⟨b, 0, none⟩ = some (.int .i64 x)) :
    Calls Tryz.prog 76 #[.slice (some ⟨b, 0, none⟩) 1 c, .int .i64 n] w fun e w' => ∃ g, e = .returned (.slice (some ⟨g, 0, none⟩) n n) ∧ w.heap.size ≤ g ∧ ColAt w' g n (List.replicate n x) ∧ ∃ y, w' = ext w y := by
  have lb := World.block_lt_of_cell? w _ hx
  have MU : Hid (∀ W : World, Calls Tryz.prog 99 #[.int .u64 1, .int .u64 n] W fun e w' => e = .returned (.tuple #[.int .u64 0, .int .u64 n]) ∧ w' = W) := hide (fun W => by
    have h := Any.bits_Mul Tryz.mulB 1 n (by omega) (by omega) W
    rw [show 1 * n / 18446744073709551616 = 0 by omega, show 1 * n % 18446744073709551616 = n by omega] at h
    exact h)
  obtain ⟨i0, hi, hz0, hz1, hz2⟩ := info_parts repInfo
  have hmk : ∀ w : World, (Instr.makeSlice 24 (.int .i64 (n : Int)) (.int .i64 (n : Int))).run Tryz.prog w = .ok (.slice (some ⟨w.heap.size, 0, none⟩) n n) (w.alloc (.cells (madeCells #[.int .i64 0] n) 3)) := by
    have := fun w => make_row (P := Tryz.prog) 24 3 i0 _ Tryz.underlying24 hi hz0 n n (Nat.le_refl _) (by rw [hz2]; omega) (by omega) w
    rw [hz1, Nat.mul_one] at this; exact this
  clear hi hz0 hz1 hz2
  have w1 : IntKind.u64.wrap (n : Int) = (n : Int) := by rw [IntKind.wrap_u64]; omega
  have w2 : IntKind.i64.wrap (n : Int) = (n : Int) := IntWalk.i64_in _ (by omega)
  have d1 : decide ((n : Int) < 0) = false := decide_eq_false (by omega)
  have d2 : decide ((9223372036854775807 : Int) < (n : Int)) = false := decide_eq_false (by omega)
  obtain ⟨L0, hL0⟩ : ∃ L : List Value, L = (madeCells #[.int .i64 0] n).toList := ⟨_, rfl⟩
  have LL0 : L0.length = n := by rw [hL0, Array.length_toList, size_madeCells]; first | done | simp
  have HA : Hid (∀ W : World, (W.alloc (.cells (madeCells #[.int .i64 0] n) 3)).heap[W.heap.size]? = some (.cells L0.toArray 3 (0, 0))) := hide (fun W => by rw [hL0, Array.toArray_toList]; exact heap_alloc_new W _)
  clear hL0
  go_enter Tryz.func76, Tryz.ntmps76
  go_wp2_with fail
  refine (MU.out _).mono ?_
  rintro e w' ⟨rfl, hw⟩
  have hw := hw.symm
  subst hw
  have hsz : (Tryz.prog.info? 3).map (·.size) = some 1 := by kernel_rfl
  have m1 : [Value.int .i64 x].length = Nat.min 1 n := by show 1 = min 1 n; omega
  have f1 : 0 + [Value.int .i64 x].length ≤ L0.length := by rw [LL0]; show 0 + 1 ≤ n; omega
  have o1 : ∀ v ∈ [Value.int .i64 x], v.oneCell' = true := by intro v hv; rw [List.mem_singleton.1 hv]; rfl
  have HS : ∀ W : World, Below w.heap.size w W → ∀ j v, [Value.int .i64 x][j]? = some v → W.cell? ((⟨b, 0, none⟩ : Addr).add j) = some v := fun W hb j v hv => by
    match j, hv with
    | 0, hv => injection hv with hv; rw [← hv]; exact (hb.cell (p := ⟨b, 0, none⟩) lb).trans hx
  have M1 := hide m1
  have F1 := hide f1
  have O1 := hide o1
  have HS1 := hide HS
  clear m1 f1 o1 HS
  obtain ⟨X1, hX1⟩ : ∃ X1, X1 = [Value.int .i64 x] := ⟨_, rfl⟩
  rw [← hX1] at M1 F1 O1 HS1
  have LX : X1.length = 1 := by rw [hX1]; rfl
  have SP1 : Hid ((splice L0 0 X1).take 1 = List.replicate 1 (Value.int .i64 x)) := hide (by rw [hX1]; exact splice_fill (L := L0) (k := 0) (q := 1) LL0 rfl (by omega))
  have SL1 : Hid ((splice L0 0 X1).length = n) := hide (splice_len LL0 LX (by omega))
  clear hX1
  go_wp2_with (refine wpList_copy_splice rfl _ _ 24 24 rfl 3 Tryz.underlying24 hsz (some ⟨w.heap.size, 0, none⟩) (some ⟨b, 0, none⟩) n n 1 c rfl rfl w.heap.size 0 L0 3 (HA.out w) X1 M1.out (fun _ => ⟨rfl, ⟨b, 0, none⟩, rfl, HS1.out _ (by (repeat' (first | (with_reducible exact Below.refl _ _) | (with_reducible assumption) | (with_reducible refine below_ext _ ?_ ?_) | (with_reducible refine Below.alloc ?_ ?_ _) | (with_reducible refine Below.drew ?_) | (with_reducible refine below_drewN ?_ _) | (with_reducible refine le_drewN _ ?_) | (with_reducible refine Below.setCell ?_ ?_ _) | (with_reducible exact Nat.le_refl _) | (with_reducible refine le_ext _ ?_) | (with_reducible refine le_alloc _ ?_) | (with_reducible refine le_setCell _ _ ?_) | (with_reducible refine le_drew ?_) | omega | (simp; done) | (simp; omega))))⟩) F1.out O1.out w.heap.size w (by (repeat' (first | (with_reducible exact Below.refl _ _) | (with_reducible assumption) | (with_reducible refine below_ext _ ?_ ?_) | (with_reducible refine Below.alloc ?_ ?_ _) | (with_reducible refine Below.drew ?_) | (with_reducible refine below_drewN ?_ _) | (with_reducible refine le_drewN _ ?_) | (with_reducible refine Below.setCell ?_ ?_ _) | (with_reducible exact Nat.le_refl _) | (with_reducible refine le_ext _ ?_) | (with_reducible refine le_alloc _ ?_) | (with_reducible refine le_setCell _ _ ?_) | (with_reducible refine le_drew ?_) | omega | (simp; done) | (simp; omega)))) (Nat.le_refl _) ?_; intro w3 hg3 hb3)
  have HG3 := hide hg3.out
  have SZ3 := hb3.size
  clear hg3 HA F1 O1 M1 HS1 MU hmk
  go_loopw [8] (fun u8 wr => ∃ k : Nat, 1 ≤ k ∧ k ≤ n ∧ u8 = .int .i64 k ∧ ∃ L : List Value, L.length = n ∧ L.take k = List.replicate k (Value.int .i64 x) ∧ Hid (wr.heap[w.heap.size]? = some (.cells L.toArray 3 (0, 0))) ∧ Below w.heap.size w wr) (fun u8 _ => n - (intOf u8).toNat)
  case atStart => exact ⟨1, Nat.le_refl _, by omega, by go_num, _, SL1.out, SP1.out, HG3, hb3⟩
  case round =>
    obtain ⟨k, hk1, hk2, rfl, L, hL, htk, HG, hbel⟩ := hrel
    have HLL := hide hL
    have HTK := hide htk
    have hlt0 : w.heap.size < wr.heap.size := heap_lt HG.out
    clear hL htk SL1 SP1 HG3
    by_cases hlt : k < n
    · obtain ⟨q, hq⟩ : ∃ q, q = Nat.min k (n - k) := ⟨_, rfl⟩
      have hq1 : q ≤ k := by rw [hq]; exact Nat.min_le_left _ _
      have hq2 : q ≤ n - k := by rw [hq]; exact Nat.min_le_right _ _
      have hq3 : 1 ≤ q := by rw [hq]; show 1 ≤ min k (n - k); omega
      obtain ⟨X, hX⟩ : ∃ X, X = List.replicate q (Value.int .i64 x) := ⟨_, rfl⟩
      have LX : X.length = q := by rw [hX, List.length_replicate]
      have M1 : Hid (X.length = Nat.min k (n - k)) := hide (by rw [LX, hq])
      have F1 : Hid (k + X.length ≤ L.length) := hide (by rw [LX, HLL.out]; omega)
      have O1 : Hid (∀ v ∈ X, v.oneCell' = true) := hide (fun v hv => by rw [hX] at hv; rw [(List.mem_replicate.1 hv).2]; rfl)
      have HS1 : Hid (∀ W : World, W.heap[w.heap.size]? = wr.heap[w.heap.size]? → ∀ j v, X[j]? = some v → W.cell? ((⟨w.heap.size, 0, none⟩ : Addr).add j) = some v) := hide (fun W hW j v hv => by
        have hj : j < q := by rw [← LX]; exact (List.getElem?_eq_some_iff.1 hv).1
        rw [hX, List.getElem?_replicate, if_pos hj] at hv
        have h1 : L[j]? = some v := by
          have h2 : (L.take k)[j]? = some v := by rw [HTK.out, List.getElem?_replicate, if_pos (by omega)]; exact hv
          rw [List.getElem?_take, if_pos (by omega)] at h2
          exact h2
        rw [show (⟨w.heap.size, 0, none⟩ : Addr).add j = ⟨w.heap.size, j, none⟩ by simp [Addr.add]; exact fun h => h.symm, heap_cell (hW.trans HG.out)]
        show L.toArray[j]? = some v
        rw [List.getElem?_toArray]; exact h1)
      have NL : Hid ((splice L k X).length = n) := hide (splice_len HLL.out LX (by omega))
      have NT : Hid ((splice L k X).take (k + q) = List.replicate (k + q) (Value.int .i64 x)) := hide (by rw [hX]; exact splice_fill HLL.out HTK.out (by omega))
      have hsz : (Tryz.prog.info? 3).map (·.size) = some 1 := by kernel_rfl
      have w3 : IntKind.i64.wrap ((k : Int) + (q : Int)) = (k : Int) + (q : Int) := IntWalk.i64_in _ (by omega)
      have r1 : (0 : Int) ≤ (k : Int) := by omega
      have r2 : (k : Int) ≤ (n : Int) := by omega
      have r3 : ¬ n = k := by omega
      have dl : decide ((k : Int) < (n : Int)) = true := decide_eq_true (by omega)
      clear hX hq
      go_wp2_with fail
      go_region_held3 (fun W => True) (exact trivial) (first | (refine step_copy_splice (by rfl) (.tmp 41) (.tmp 44) 24 24 (by rfl) 3 Tryz.underlying24 hsz (some ⟨w.heap.size, k, none⟩) (some ⟨w.heap.size, 0, none⟩) (n - k) (n - k) k n (by rfl) (by rfl) w.heap.size k L 3 HG.out X M1.out (fun _ => ⟨rfl, ⟨w.heap.size, 0, none⟩, rfl, HS1.out _ rfl⟩) F1.out O1.out w.heap.size w (Below.trans hbel (by (repeat' (first | (with_reducible exact Below.refl _ _) | (with_reducible assumption) | (with_reducible refine below_ext _ ?_ ?_) | (with_reducible refine Below.alloc ?_ ?_ _) | (with_reducible refine Below.drew ?_) | (with_reducible refine below_drewN ?_ _) | (with_reducible refine le_drewN _ ?_) | (with_reducible refine Below.setCell ?_ ?_ _) | (with_reducible exact Nat.le_refl _) | (with_reducible refine le_ext _ ?_) | (with_reducible refine le_alloc _ ?_) | (with_reducible refine le_setCell _ _ ?_) | (with_reducible refine le_drew ?_) | omega | (simp; done) | (simp; omega))))) (Nat.le_refl _) ?_; intro w3 hg3 hb3))
      all_goals
        have HG3 := hide hg3.out
        clear hg3
        go_wp2_with fail
        exact ⟨⟨k + q, by omega, by omega, by go_num, _, NL.out, NT.out, HG3, hb3⟩, by simp [intOf]; omega⟩
    · have ek : k = n := by omega
      subst ek
      have dl : decide ((k : Int) < (k : Int)) = false := decide_eq_false (by omega)
      go_wp2_with fail
      go_ret
      refine ⟨w.heap.size, rfl, Nat.le_refl _, ⟨by rw [List.length_replicate]; exact Nat.le_refl _, fun j => .int .i64 x, ⟨L.toArray, HG.out, by simp [HLL.out], fun j hj => ?_⟩, fun i hi => ?_⟩, ext_mk hbel⟩
      · have h2 : (L.take k)[j]? = some (.int .i64 x) := by rw [HTK.out, List.getElem?_replicate, if_pos hj]
        rw [List.getElem?_take, if_pos hj] at h2
        rw [List.getElem?_toArray]; exact h2
      · rw [List.length_replicate] at hi
        rw [gi_lt (by rw [List.length_replicate]; exact hi), List.getElem_replicate]
end Go.Proofs.YtelhidonhldjeaaGreat
