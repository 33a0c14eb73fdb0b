
/- The program's sweep. -/
import Derived.Test.YtcebmcbglhkkfaaSwpC
import Derived.Test.YtcebmcbglhkkfaaTris
import Derived.Test.YtcebmcbglhkkfaaApp
import Derived.Deep.RegionHeld3
set_option linter.unusedVariables false
set_option linter.unusedSimpArgs false
namespace Go.Proofs.Ytcebmcbglhkkfaa
open Go.RowKit

def ri (r : List Nat) : List Int := r.map (fun i : Nat => (i : Int))
def sT (ts : List Tri3) : List TI := ts.map fun t => ⟨(t.a : Int), (t.b : Int), (t.c : Int)⟩
theorem ri_len (r : List Nat) : (ri r).length = r.length := by unfold ri; simp
theorem ri_gi {r : List Nat} {i : Nat} (h : i < r.length) : gi (ri r) i = (gn r i : Int) := by
  unfold gi gn ri
  rw [List.getD_eq_getElem?_getD, List.getD_eq_getElem?_getD, List.getElem?_map, List.getElem?_eq_getElem h]; rfl
theorem ri_app (r s : List Nat) : ri (r ++ s) = ri r ++ ri s := by unfold ri; simp
theorem sT_app (a b : List Tri3) : sT (a ++ b) = sT a ++ sT b := by unfold sT; simp
theorem sT_len (a : List Tri3) : (sT a).length = a.length := by unfold sT; simp
theorem range_ri (k : Nat) : ri (List.range (k + 1)) = ri (List.range k) ++ [(k : Int)] := by rw [List.range_succ, ri_app]; rfl
/-- The ring while it comes back. -/
def flB (n j : Nat) : List Nat := List.range n ++ (List.range j).map fun i => n - 2 - i
theorem flB_0 (n : Nat) : flB n 0 = List.range n := by unfold flB; simp
theorem flB_s (n j : Nat) : ri (flB n (j + 1)) = ri (flB n j) ++ [((n - 2 - j : Nat) : Int)] := by
  unfold flB; rw [List.range_succ, List.map_append, ← List.append_assoc, ri_app]; rfl
theorem flB_end (n : Nat) : flB n (n - 2) = flatR n := rfl
theorem flat_gmlt {q : Nat} (h2 : 2 ≤ q) (i : Nat) : gm (flatR q) i < q := by
  have hl := flat_len h2
  have hm : i % (flatR q).length < (flatR q).length := Nat.mod_lt _ (by omega)
  unfold gm
  rw [flat_at h2 (by omega)]
  unfold flV
  split <;> omega
theorem sw_bd {ps : List Pt} {q : Nat} (h : Line ps q) (hO : Ord ps) (h2 : 2 ≤ q) (hx : trn (gp ps 0) (gp ps 1) (gp ps q) ≠ 0) : ∀ f, q + f ≤ ps.length →
    2 ≤ (swS ps q f).1.length ∧ (swS ps q f).1.length ≤ 2 * (q + f) ∧ (∀ i, gm (swS ps q f).1 i < q + f) ∧ (swS ps q f).2.length ≤ 2 * (q + f)
  | 0, _ => by
    have hl := flat_len h2
    show 2 ≤ (flatR q).length ∧ (flatR q).length ≤ _ ∧ (∀ i, gm (flatR q) i < q + 0) ∧ ([] : List Tri3).length ≤ _
    exact ⟨by omega, by omega, fun i => flat_gmlt h2 i, Nat.zero_le _⟩
  | f + 1, hf => by
    obtain ⟨a, b, _, _⟩ := swS_main h hO h2 hx f (by omega)
    exact ⟨a.two, by omega, a.lt, by omega⟩
theorem newTo_s (ps : List Pt) (r : List Nat) (n k : Nat) : newTo ps r n (k + 1) = newTo ps r n k ++ (if seenB ps r n k = true then [⟨aft r k, gn r k, n⟩] else []) := by
  unfold newTo; rw [List.range_succ, List.flatMap_append]; simp
theorem ringTo_s (ps : List Pt) (r : List Nat) (n k : Nat) : ringTo ps r n (k + 1) = ringTo ps r n k ++ blkN ps r n k := by
  unfold ringTo; rw [List.range_succ, List.flatMap_append]; simp
theorem newTo_len (ps : List Pt) (r : List Nat) (n : Nat) : ∀ k, (newTo ps r n k).length ≤ k
  | 0 => by simp [newTo]
  | k + 1 => by
    have := newTo_len ps r n k
    rw [newTo_s, List.length_append]
    split <;> simp <;> omega
theorem ringTo_len (ps : List Pt) (r : List Nat) (n : Nat) : ∀ k, (ringTo ps r n k).length ≤ 2 * k
  | 0 => by simp [ringTo]
  | k + 1 => by
    have := ringTo_len ps r n k
    rw [ringTo_s, List.length_append]
    unfold blkN
    rw [List.length_append]
    split <;> split <;> simp <;> omega
/-- Two rows of different types do not lie in one block. -/
theorem own_apart {w : World} {b b' : Nat} {e e' : TypeId} {s s' : Nat} {v v' : Value} {n n' : Nat} {xs xs' : List Value} (hte : e ≠ e') (h : w.ownsRow b e s v n xs) (h' : w.ownsRow b' e' s' v' n' xs') : v.ownBlock = none ∨ v.ownBlock ≠ v'.ownBlock := by
  rcases h.2 with ⟨rfl, _⟩ | ⟨g, cap, cur, rfl, _, hg, _⟩
  · exact .inl rfl
  rcases h'.2 with ⟨rfl, _⟩ | ⟨g', cap', cur', rfl, _, hg', _⟩
  · exact .inr (by simp [Value.ownBlock])
  · refine .inr fun e0 => ?_
    obtain rfl : g = g' := by simpa [Value.ownBlock] using e0
    rw [hg] at hg'
    simp at hg'
    exact hte hg'.2
theorem ord_sort {ps : List Pt} (hO : Ord ps) : sortP ps = ps := sortP_self (by
  unfold Asc
  rw [List.pairwise_iff_getElem]
  intro i j hi hj hij
  have := hO i j hij hj
  rwa [gp_lt hi, gp_lt hj] at this)
theorem row_apart {w : World} {b : Nat} {e : TypeId} {sz : Nat} {v : Value} {n : Nat} {xs : List Value} (h : w.ownsRow b e sz v n xs) {g : Nat} {T : TypeId} {m : Nat} {f : Nat → Value} (hr : RowAt w g T m f) (hT : T ≠ e) : some g ≠ v.ownBlock := by
  obtain ⟨cs, hc, _, _⟩ := hr
  rcases h.2 with ⟨rfl, _⟩ | ⟨g', cap, cur, rfl, _, hg, _⟩
  · simp [Value.ownBlock]
  · intro e0
    obtain rfl : g = g' := by simpa [Value.ownBlock] using e0
    rw [hc] at hg
    simp at hg
    exact hT hg.2
theorem grownBy_set (w : World) (p : Addr) (v : Value) : w.grownBy (w.setCell p v) (some p.block) :=
  ⟨rfl, rfl, rfl, by simp [World.setCell], fun k _ hk => Below.heap_setCell _ _ _ k (fun e => hk (by rw [e]))⟩
theorem boolInfo : (Try.prog.info? 4).map (fun i => (i.zero, i.size, i.bytes)) = some (some (.bool false), 1, 1) := by kernel_rfl
theorem make_bools (n : Nat) (hn : n ≤ 1000) (w : World) : (Instr.makeSlice 58 (.int .i64 (n : Int)) (.int .i64 (n : Int))).run Try.prog w = .ok (.slice (some ⟨w.heap.size, 0, none⟩) n n) (w.alloc (.cells (madeCells #[.bool false] n) 4)) := by
  obtain ⟨i0, hi, hz0, hz1, hz2⟩ := info_parts boolInfo
  have := make_row (P := Try.prog) 58 4 i0 _ Try.underlying58 hi hz0 n n (Nat.le_refl _) (by rw [hz2]; omega) (by omega) w
  rw [hz1, Nat.mul_one] at this; exact this
theorem row_bools (w : World) (n : Nat) : ∃ f, RowAt (w.alloc (.cells (madeCells #[.bool false] n) 4)) w.heap.size 4 n f :=
  ⟨fun j => (madeCells #[.bool false] n).getD j default, by
    have h := RowAt.new w (madeCells #[.bool false] n) 4 (f := fun j => (madeCells #[.bool false] n).getD j default) (fun j hj => by
      show _ = some ((madeCells #[.bool false] n).getD j default)
      rw [Array.getD_eq_getD_getElem?, Array.getElem?_eq_getElem hj]; rfl)
    rw [size_madeCells] at h; exact h⟩
set_option maxHeartbeats 4000000 in
theorem iSweep_flat (ps : List Pt) (A : Option Addr) (n c : Nat) (w : World) (hn : ps.length = n) (hok : listOk ps = true) (hO : Ord ps) (hl : Line ps ps.length) (hs : PtsAt w w.heap.size A ps) (hA : Plain A n) :
    Calls Try.prog 28 #[.slice A n c] w fun e w' => ∃ A' n' c', e = .returned (.slice A' n' c') ∧ n' = 0 ∧ n' ≤ c' ∧ c' ≤ 9223372036854775807 ∧ Plain A' n' ∧ ∃ x, w' = ext w x := by
  obtain ⟨hib, h20⟩ := listOk_InB hok
  have e0 : colB (sortP ps) = true := by rw [ord_sort hO]; exact (colB_iff hO).2 hl
  have HC := hide (fun (W : World) (hb : Below w.heap.size w W) => iCol_any ps A n c W hn (by omega) hib (hs.to hb) hA)
  rw [e0] at HC
  clear hib h20 e0 hs hl hO hok
  go_enter Try.func28, Try.ntmps28
  go_wp2_with fail
  refine (HC.out _ (by (repeat' (first | (with_reducible first | exact Below.refl _ _ | assumption | refine below_ext _ ?_ ?_ | refine Below.alloc ?_ ?_ _ | refine Below.drew ?_ | refine below_drewN ?_ _ | refine le_drewN _ ?_ | refine Below.setCell ?_ ?_ _ | exact Nat.le_refl _ | refine le_ext _ ?_ | refine le_alloc _ ?_ | refine le_setCell _ _ ?_ | refine le_drew ?_) | omega | (simp; done) | (simp; omega))))).mono ?_
  rintro e w' ⟨rfl, hw'⟩; have hzy1 := ext_sz hw'; obtain ⟨y1, rfl⟩ := hw'; (try simp at hzy1)
  go_wp2_with fail
  go_ret
  exact ⟨_, _, _, rfl, rfl, Nat.le_refl _, by omega, Plain.some, (ext_mk (by (repeat' (first | (with_reducible first | exact Below.refl _ _ | assumption | refine below_ext _ ?_ ?_ | refine Below.alloc ?_ ?_ _ | refine Below.drew ?_ | refine below_drewN ?_ _ | refine le_drewN _ ?_ | refine Below.setCell ?_ ?_ _ | exact Nat.le_refl _ | refine le_ext _ ?_ | refine le_alloc _ ?_ | refine le_setCell _ _ ?_ | refine le_drew ?_) | omega | (simp; done) | (simp; omega)))))⟩
set_option maxRecDepth 100000 in
set_option maxHeartbeats 8000000 in
theorem iSweep_any (ps : List Pt) (A : Option Addr) (n c : Nat) (w : World) (hn : ps.length = n) (hok : listOk ps = true) (hO : Ord ps) (q : Nat) (h2 : 2 ≤ q) (hq : q < n) (hl : Line ps q) (hx : trn (gp ps 0) (gp ps 1) (gp ps q) ≠ 0) (hs : PtsAt w w.heap.size A ps) (hA : Plain A n) :
    Calls Try.prog 28 #[.slice A n c] w fun e w' => ∃ A' n' c', e = .returned (.slice A' n' c') ∧ (sT (swS ps q (n - q)).2).length = n' ∧ n' ≤ c' ∧ c' ≤ 9223372036854775807 ∧ TRow w' w.heap.size A' (sT (swS ps q (n - q)).2) ∧ Plain A' n' ∧ ∃ x, w' = ext w x := by
  obtain ⟨hib, h20⟩ := listOk_InB hok
  have e0 : colB (sortP ps) = false := by
    rw [ord_sort hO, Bool.eq_false_iff]
    intro e
    exact hx ((colB_iff hO).1 e q (by omega))
  have HC := hide (fun (W : World) (hb : Below w.heap.size w W) => iCol_any ps A n c W hn (by omega) hib (hs.to hb) hA)
  rw [e0] at HC
  have HN := hide hn
  obtain ⟨pb, po, rfl, hpb, hpc⟩ := hs (by omega)
  have CELL : Hid (∀ (W : World), Below w.heap.size w W → ∀ i, i < n → W.cell? ⟨pb, po + i * 2, none⟩ = some (.int .i64 (pX ps i)) ∧ W.cell? ⟨pb, po + i * 2 + 1, none⟩ = some (.int .i64 (pY ps i))) := hide (fun W hb i hi => ⟨(hb.cell (p := ⟨pb, po + i * 2, none⟩) hpb).trans (hpc i (by omega)).1, (hb.cell (p := ⟨pb, po + i * 2 + 1, none⟩) hpb).trans (hpc i (by omega)).2⟩)
  have BI : Hid (∀ i, i < n → (-100000 ≤ (pX ps i) ∧ (pX ps i) ≤ 100000) ∧ (-100000 ≤ (pY ps i) ∧ (pY ps i) ≤ 100000)) := hide (fun i hi => hib _ (gp_mem (by omega)))
  have TU : Hid (∀ i j k, i < n → j < n → k < n → ∀ W, Calls Try.prog 37 #[.agg #[.int .i64 (pX ps i), .int .i64 (pY ps i)], .agg #[.int .i64 (pX ps j), .int .i64 (pY ps j)], .agg #[.int .i64 (pX ps k), .int .i64 (pY ps k)]] W fun e w' => e = .returned (.int .i64 (trn (gp ps i) (gp ps j) (gp ps k))) ∧ ∃ x, w' = ext W x) := hide (fun i j k hi hj hk W => turn_any _ _ _ _ _ _ W (BI.out i hi).1 (BI.out i hi).2 (BI.out j hj).1 (BI.out j hj).2 (BI.out k hk).1 (BI.out k hk).2)
  have SB := hide (fun (f : Nat) (hf : q + f ≤ n) => sw_bd hl hO h2 hx f (by omega))
  have LQ := hide hl
  have HX := hide hx
  have HPB := hide hpb
  have n20 : n ≤ 20 := by omega
  clear hib h20 e0 hs hl hO hok hx hpc BI hA hn hpb
  go_enter Try.func28, Try.ntmps28
  go_wp2_with fail
  refine (HC.out _ (by (repeat' (first | (with_reducible first | exact Below.refl _ _ | assumption | refine below_ext _ ?_ ?_ | refine Below.alloc ?_ ?_ _ | refine Below.drew ?_ | refine below_drewN ?_ _ | refine le_drewN _ ?_ | refine Below.setCell ?_ ?_ _ | exact Nat.le_refl _ | refine le_ext _ ?_ | refine le_alloc _ ?_ | refine le_setCell _ _ ?_ | refine le_drew ?_) | omega | (simp; done) | (simp; omega))))).mono ?_
  rintro e w' ⟨rfl, hw'⟩; have hzy1 := ext_sz hw'; obtain ⟨y1, rfl⟩ := hw'; (try simp at hzy1)
  have E0 := hide ((OwnT.empty w w.heap.size (Nat.le_refl _)).below (show Below (w.alloc (.cells #[] 37)).heap.size (w.alloc (.cells #[] 37)) (ext (w.alloc (.cells #[] 37)) y1) from (by (repeat' (first | (with_reducible first | exact Below.refl _ _ | assumption | refine below_ext _ ?_ ?_ | refine Below.alloc ?_ ?_ _ | refine Below.drew ?_ | refine below_drewN ?_ _ | refine le_drewN _ ?_ | refine Below.setCell ?_ ?_ _ | exact Nat.le_refl _ | refine le_ext _ ?_ | refine le_alloc _ ?_ | refine le_setCell _ _ ?_ | refine le_drew ?_) | omega | (simp; done) | (simp; omega))))))
  have BW0 := hide (show Below w.heap.size w (ext (w.alloc (.cells #[] 37)) y1) from (by (repeat' (first | (with_reducible first | exact Below.refl _ _ | assumption | refine below_ext _ ?_ ?_ | refine Below.alloc ?_ ?_ _ | refine Below.drew ?_ | refine below_drewN ?_ _ | refine le_drewN _ ?_ | refine Below.setCell ?_ ?_ _ | exact Nat.le_refl _ | refine le_ext _ ?_ | refine le_alloc _ ?_ | refine le_setCell _ _ ?_ | refine le_drew ?_) | omega | (simp; done) | (simp; omega)))))
  have z0 : w.heap.size + 1 ≤ (ext (w.alloc (.cells #[] 37)) y1).heap.size := by omega
  generalize ext (w.alloc (.cells #[] 37)) y1 = W0 at *
  go_wp2_with fail
  -- where the points leave the line
  go_loopw [4] (fun u4 wr => ∃ m : Nat, 2 ≤ m ∧ m ≤ q ∧ u4 = .int .i64 m ∧ ∃ x, wr = ext W0 x) (fun u4 _ => q - (intOf u4).toNat)
  case atStart => exact ⟨2, Nat.le_refl _, h2, rfl, ext_same W0⟩
  case round =>
    obtain ⟨m, hm2, hmq, rfl, x, rfl⟩ := hrel
    have BX := BW0.out.trans ((show Below W0.heap.size W0 (ext W0 x) from (by (repeat' (first | (with_reducible first | exact Below.refl _ _ | assumption | refine below_ext _ ?_ ?_ | refine Below.alloc ?_ ?_ _ | refine Below.drew ?_ | refine below_drewN ?_ _ | refine le_drewN _ ?_ | refine Below.setCell ?_ ?_ _ | exact Nat.le_refl _ | refine le_ext _ ?_ | refine le_alloc _ ?_ | refine le_setCell _ _ ?_ | refine le_drew ?_) | omega | (simp; done) | (simp; omega))))).mono BW0.out.size)
    have lb : pb < (ext W0 x).heap.size := by have := HPB.out; have := BX.size; omega
    obtain ⟨x0, y0⟩ := CELL.out _ BX 0 (by omega)
    obtain ⟨x1, y1'⟩ := CELL.out _ BX 1 (by omega)
    obtain ⟨xm, ym⟩ := CELL.out _ BX m (by omega)
    simp only [Nat.zero_mul, Nat.add_zero, Nat.one_mul] at x0 y0 x1 y1'
    have TT := hide (TU.out 0 1 m (by omega) (by omega) (by omega))
    have q1 : (m : Int) < (n : Int) := by omega
    have q2 : (0 : Int) < (n : Int) := by omega
    have q3 : (1 : Int) < (n : Int) := by omega
    have q4 : 0 < n := by omega
    have q5 : 1 < n := by omega
    have q6 : m < n := by omega
    have q7 : (0 : Int) ≤ (m : Int) := by omega
    by_cases hlt : m < q
    · have ez : trn (gp ps 0) (gp ps 1) (gp ps m) = 0 := LQ.out m hlt
      rw [ez] at TT
      clear ez
      generalize pX ps 0 = X0 at *
      generalize pY ps 0 = Y0 at *
      generalize pX ps 1 = X1 at *
      generalize pY ps 1 = Y1 at *
      generalize pX ps m = XM at *
      generalize pY ps m = YM at *
      go_wp2_with fail
      refine wp_region_ext (by kernel_rfl) (by kernel_rfl) ?_
      repeat (go_big_quiet_step ((first | (go_at_call 37; exact Calls.in_ext (TT.out _)))))
      refine wpQuiet_nil ?_
      rintro _ hnq
      have hzq := ext_sz hnq
      obtain ⟨nq, rfl⟩ := hnq
      (try simp at hzq)
      go_wp2_with fail
      exact ⟨⟨m + 1, by omega, by omega, by go_num, (ext_mk (by (repeat' (first | (with_reducible first | exact Below.refl _ _ | assumption | refine below_ext _ ?_ ?_ | refine Below.alloc ?_ ?_ _ | refine Below.drew ?_ | refine below_drewN ?_ _ | refine le_drewN _ ?_ | refine Below.setCell ?_ ?_ _ | exact Nat.le_refl _ | refine le_ext _ ?_ | refine le_alloc _ ?_ | refine le_setCell _ _ ?_ | refine le_drew ?_) | omega | (simp; done) | (simp; omega)))))⟩, by simp [intOf]; omega⟩
    · obtain rfl : m = q := by omega
      have d0 : (trn (gp ps 0) (gp ps 1) (gp ps m) == 0) = false := by have := HX.out; simpa using this
      clear q2 q3 q4 q5
      generalize trn (gp ps 0) (gp ps 1) (gp ps m) = T at *
      generalize pX ps 0 = X0 at *
      generalize pY ps 0 = Y0 at *
      generalize pX ps 1 = X1 at *
      generalize pY ps 1 = Y1 at *
      generalize pX ps m = XM at *
      generalize pY ps m = YM at *
      go_wp2_with fail
      refine wp_region_ext (by kernel_rfl) (by kernel_rfl) ?_
      repeat (go_big_quiet_step ((first | (go_at_call 37; exact Calls.in_ext (TT.out _)))))
      refine wpQuiet_nil ?_
      rintro _ hnq
      have hzq := ext_sz hnq
      obtain ⟨nq, rfl⟩ := hnq
      (try simp at hzq)
      obtain ⟨W1, hW1⟩ : ∃ W1, W1 = ext (ext W0 x) nq := ⟨_, rfl⟩
      have B01 : Hid (Below W0.heap.size W0 W1) := hide (by rw [hW1]; exact (by (repeat' (first | (with_reducible first | exact Below.refl _ _ | assumption | refine below_ext _ ?_ ?_ | refine Below.alloc ?_ ?_ _ | refine Below.drew ?_ | refine below_drewN ?_ _ | refine le_drewN _ ?_ | refine Below.setCell ?_ ?_ _ | exact Nat.le_refl _ | refine le_ext _ ?_ | refine le_alloc _ ?_ | refine le_setCell _ _ ?_ | refine le_drew ?_) | omega | (simp; done) | (simp; omega)))))
      rw [← hW1]
      clear hW1 BX lb x0 y0 x1 y1' xm ym TT q1 q7 d0 hzq hmq hm2 hlt
      have z1 := B01.out.size
      have E1 := hide (E0.out.below B01.out)
      have BW1 := hide (BW0.out.trans (B01.out.mono BW0.out.size))
      clear E0 B01
      go_wp2_with fail
      go_loopw [5, 37] (fun u5 u37 wr => ∃ k : Nat, k ≤ m ∧ u37 = .int .i64 k ∧ Own wr W1.heap.size u5 (ri (List.range k)) ∧ Below W1.heap.size W1 wr) (fun _ u37 _ => m - (intOf u37).toNat)
      case atStart => exact ⟨0, Nat.zero_le _, rfl, Own.empty _ _ (Nat.le_refl _), (by (repeat' (first | (with_reducible first | exact Below.refl _ _ | assumption | refine below_ext _ ?_ ?_ | refine Below.alloc ?_ ?_ _ | refine Below.drew ?_ | refine below_drewN ?_ _ | refine le_drewN _ ?_ | refine Below.setCell ?_ ?_ _ | exact Nat.le_refl _ | refine le_ext _ ?_ | refine le_alloc _ ?_ | refine le_setCell _ _ ?_ | refine le_drew ?_) | omega | (simp; done) | (simp; omega))))⟩
      case round =>
        obtain ⟨k, hk, rfl, hown, hbel⟩ := hrel
        obtain ⟨A5, n5, c5, rfl⟩ := own_slice hown
        have OWN := hide hown
        have hsz := hbel.size
        clear hown
        by_cases hlt : k < m
        · have RR := hide (range_ri k)
          have NL : (ri (List.range k)).length ≤ 2000000 := by rw [ri_len, List.length_range]; omega
          go_wp2_with (at_builtin; refine app_one rfl _ _ rfl W1.heap.size (.slice A5 n5 c5) (ri (List.range k)) rfl (OWN.out.below (by (repeat' (first | (with_reducible first | exact Below.refl _ _ | assumption | refine below_ext _ ?_ ?_ | refine Below.alloc ?_ ?_ _ | refine Below.drew ?_ | refine below_drewN ?_ _ | refine le_drewN _ ?_ | refine Below.setCell ?_ ?_ _ | exact Nat.le_refl _ | refine le_ext _ ?_ | refine le_alloc _ ?_ | refine le_setCell _ _ ?_ | refine le_drew ?_) | omega | (simp; done) | (simp; omega))))) (k : Int) _ _ rfl (by simp [go_sem]) NL (by simp; omega) ?_; intro v' w' hown' hb' hat hgr; obtain ⟨A6, n6, c6, rfl⟩ := own_slice hown'; have O6 := hide hown'; have HB6 := hide hb'; clear hown' hat hgr hb')
          exact ⟨⟨k + 1, by omega, by go_num, by rw [RR.out]; exact O6.out, Below.trans (Below.trans hbel (by (repeat' (first | (with_reducible first | exact Below.refl _ _ | assumption | refine below_ext _ ?_ ?_ | refine Below.alloc ?_ ?_ _ | refine Below.drew ?_ | refine below_drewN ?_ _ | refine le_drewN _ ?_ | refine Below.setCell ?_ ?_ _ | exact Nat.le_refl _ | refine le_ext _ ?_ | refine le_alloc _ ?_ | refine le_setCell _ _ ?_ | refine le_drew ?_) | omega | (simp; done) | (simp; omega))))) HB6.out⟩, by simp [intOf]; omega⟩
        · have ek : k = m := by omega
          have OWN1 : Hid (Own wr W1.heap.size (.slice A5 n5 c5) (ri (flB m 0))) := hide (by rw [flB_0, ← ek]; exact OWN.out)
          clear OWN hk ek
          have q8 : (2 : Int) ≤ (m : Int) := by omega
          obtain ⟨W2, hW2⟩ : ∃ W2, W2 = wr := ⟨_, rfl⟩
          rw [← hW2] at OWN1 hbel hsz ⊢
          clear hW2
          have HB2 := hide hbel
          clear hbel
          go_wp2_with fail
          go_loopw [5, 7] (fun u5 u7 wr => ∃ j : Nat, j ≤ m - 2 ∧ u7 = .int .i64 ((m : Int) - 2 - (j : Int)) ∧ Own wr W1.heap.size u5 (ri (flB m j)) ∧ Below W1.heap.size W1 wr) (fun _ u7 _ => (intOf u7).toNat)
          case atStart => exact ⟨0, Nat.zero_le _, by simp, OWN1.out, HB2.out⟩
          case round =>
            obtain ⟨j, hj, rfl, hown, hbel⟩ := hrel
            obtain ⟨A6, n6, c6, rfl⟩ := own_slice hown
            have OWN := hide hown
            have hsz3 := hbel.size
            clear hown
            by_cases hlt3 : j < m - 2
            · have q9 : (0 : Int) < (m : Int) - 2 - (j : Int) := by omega
              have RR : Hid (ri (flB m (j + 1)) = ri (flB m j) ++ [(m : Int) - 2 - (j : Int)]) := hide (by rw [flB_s]; congr 2; omega)
              have NL : (ri (flB m j)).length ≤ 2000000 := by rw [ri_len]; unfold flB; simp; omega
              go_wp2_with (at_builtin; refine app_one rfl _ _ rfl W1.heap.size (.slice A6 n6 c6) (ri (flB m j)) rfl (OWN.out.below (by (repeat' (first | (with_reducible first | exact Below.refl _ _ | assumption | refine below_ext _ ?_ ?_ | refine Below.alloc ?_ ?_ _ | refine Below.drew ?_ | refine below_drewN ?_ _ | refine le_drewN _ ?_ | refine Below.setCell ?_ ?_ _ | exact Nat.le_refl _ | refine le_ext _ ?_ | refine le_alloc _ ?_ | refine le_setCell _ _ ?_ | refine le_drew ?_) | omega | (simp; done) | (simp; omega))))) ((m : Int) - 2 - (j : Int)) _ _ rfl (by simp [go_sem]) NL (by simp; omega) ?_; intro v' w' hown' hb' hat hgr; obtain ⟨A7, n7, c7, rfl⟩ := own_slice hown'; have O7 := hide hown'; have HB7 := hide hb'; clear hown' hat hgr hb')
              exact ⟨⟨j + 1, by omega, by congr 1; omega, by rw [RR.out]; exact O7.out, Below.trans (Below.trans hbel (by (repeat' (first | (with_reducible first | exact Below.refl _ _ | assumption | refine below_ext _ ?_ ?_ | refine Below.alloc ?_ ?_ _ | refine Below.drew ?_ | refine below_drewN ?_ _ | refine le_drewN _ ?_ | refine Below.setCell ?_ ?_ _ | exact Nat.le_refl _ | refine le_ext _ ?_ | refine le_alloc _ ?_ | refine le_setCell _ _ ?_ | refine le_drew ?_) | omega | (simp; done) | (simp; omega))))) HB7.out⟩, by simp [intOf]; omega⟩
            · have q9 : ¬ (0 : Int) < (m : Int) - 2 - (j : Int) := by omega
              have OWN2 : Hid (Own wr W1.heap.size (.slice A6 n6 c6) (ri (swS ps m 0).1)) := hide (by have ej : j = m - 2 := by omega
                                                                                                      have := OWN.out
                                                                                                      rw [ej, flB_end] at this
                                                                                                      exact this)
              obtain ⟨W3, hW3⟩ : ∃ W3, W3 = wr := ⟨_, rfl⟩
              rw [← hW3] at OWN2 hbel hsz3 ⊢
              clear hW3 OWN OWN1 HB2 hsz hlt
              have E3 := hide (E1.out.below hbel)
              have BW3 := hide (BW1.out.trans (hbel.mono BW1.out.size))
              have OW3 := hide (OWN2.out.base (show w.heap.size ≤ W1.heap.size by omega))
              clear E1 BW1 hbel OWN2
              go_wp2_with fail
              go_loopw [3, 4, 5] (fun u3 u4 u5 wr => ∃ f : Nat, m + f ≤ n ∧ u4 = .int .i64 ((m + f : Nat) : Int) ∧ OwnT wr w.heap.size u3 (sT (swS ps m f).2) ∧ Own wr w.heap.size u5 (ri (swS ps m f).1) ∧ Below w.heap.size w wr) (fun _ u4 _ _ => n - (intOf u4).toNat)
              case atStart => exact ⟨0, by omega, rfl, E3.out, OW3.out, BW3.out⟩
              case round =>
                obtain ⟨f, hf, rfl, hownT, hown, hbel⟩ := hrel
                obtain ⟨A3, n3, c3, rfl⟩ := hownT.slice
                obtain ⟨A5, n5, c5, rfl⟩ := own_slice hown
                by_cases hlt4 : m + f < n
                · obtain ⟨r2, r40, rlt, t40⟩ := SB.out f hf
                  have NX := hide (show (swS ps m (f + 1)).1 = ringTo ps (swS ps m f).1 (m + f) (swS ps m f).1.length ∧ (swS ps m (f + 1)).2 = (swS ps m f).2 ++ newTo ps (swS ps m f).1 (m + f) (swS ps m f).1.length from ⟨rfl, rfl⟩)
                  obtain ⟨N, hN⟩ : ∃ N, N = m + f := ⟨_, rfl⟩
                  rw [← hN] at NX rlt hlt4 r40 t40 ⊢
                  generalize (swS ps m f).1 = R at *
                  generalize (swS ps m f).2 = TS at *
                  obtain ⟨lR, q5c, q5m, _⟩ := hown.ints
                  rw [ri_len] at lR
                  obtain ⟨Wa, hWa⟩ : ∃ Wa, Wa = wr := ⟨_, rfl⟩
                  rw [← hWa] at hownT hown hbel ⊢
                  have HNN := hide hN
                  clear hWa hf hN
                  have RL := hide rlt
                  have HLR := hide lR
                  have n50 : n5 ≤ 40 := by omega
                  have n51 : 2 ≤ n5 := by omega
                  have n52 : 0 < n5 := by omega
                  rw [lR] at NX
                  have hmk := make_bools n5 (by omega)
                  obtain ⟨fS0, hS0⟩ := row_bools Wa n5
                  have HT0 := hide (hownT.below (show Below Wa.heap.size Wa (Wa.alloc (.cells (madeCells #[.bool false] n5) 4)) from (by (repeat' (first | (with_reducible first | exact Below.refl _ _ | assumption | refine below_ext _ ?_ ?_ | refine Below.alloc ?_ ?_ _ | refine Below.drew ?_ | refine below_drewN ?_ _ | refine le_drewN _ ?_ | refine Below.setCell ?_ ?_ _ | exact Nat.le_refl _ | refine le_ext _ ?_ | refine le_alloc _ ?_ | refine le_setCell _ _ ?_ | refine le_drew ?_) | omega | (simp; done) | (simp; omega))))))
                  have HR0 := hide (own_below hown (show Below Wa.heap.size Wa (Wa.alloc (.cells (madeCells #[.bool false] n5) 4)) from (by (repeat' (first | (with_reducible first | exact Below.refl _ _ | assumption | refine below_ext _ ?_ ?_ | refine Below.alloc ?_ ?_ _ | refine Below.drew ?_ | refine below_drewN ?_ _ | refine le_drewN _ ?_ | refine Below.setCell ?_ ?_ _ | exact Nat.le_refl _ | refine le_ext _ ?_ | refine le_alloc _ ?_ | refine le_setCell _ _ ?_ | refine le_drew ?_) | omega | (simp; done) | (simp; omega))))))
                  have HS0 := hide hS0
                  have hza := hbel.size
                  have HBa := hide (hbel.alloc hza (.cells (madeCells #[.bool false] n5) 4))
                  clear hownT hown hS0 rlt lR r2 r40 hbel E3 OW3 BW3
                  go_wp2_with fail
                  clear hmk
                  go_loopw [3, 67] (fun u3 u67 wr => ∃ i : Nat, i ≤ n5 ∧ u67 = .int .i64 i ∧ OwnT wr w.heap.size u3 (sT (TS ++ newTo ps R N i)) ∧ Own wr w.heap.size (.slice A5 n5 c5) (ri R) ∧ (∃ fS, RowAt wr Wa.heap.size 4 n5 fS ∧ ∀ j, j < i → fS j = .bool (seenB ps R N j)) ∧ Below w.heap.size w wr) (fun _ u67 _ => n5 - (intOf u67).toNat)
                  case atStart => exact ⟨0, Nat.zero_le _, rfl, by simpa [newTo] using HT0.out, HR0.out, ⟨fS0, HS0.out, fun j hj => by omega⟩, HBa.out⟩
                  case round =>
                    obtain ⟨i, hi, rfl, hownT, hown, ⟨fS, hS, hfS⟩, hbel⟩ := hrel
                    obtain ⟨A8, n8, c8, rfl⟩ := hownT.slice
                    by_cases hlt5 : i < n5
                    · obtain ⟨rb, ro, rfl, hrb, hrc⟩ := hown.ints.2.2.2 (by rw [ri_len, HLR.out]; omega)
                      obtain ⟨j, hj⟩ : ∃ j, j = (i + 1) % n5 := ⟨_, rfl⟩
                      have hjn : j < n5 := by rw [hj]; exact Nat.mod_lt _ n52
                      have ci : wr.cell? ⟨rb, ro + i, none⟩ = some (.int .i64 ((gn R i : Nat) : Int)) := by rw [← ri_gi (by rw [HLR.out]; omega)]; exact hrc i (by rw [ri_len, HLR.out]; omega)
                      have cj : wr.cell? ⟨rb, ro + j, none⟩ = some (.int .i64 ((gn R j : Nat) : Int)) := by rw [← ri_gi (by rw [HLR.out]; omega)]; exact hrc j (by rw [ri_len, HLR.out]; omega)
                      have la : gn R i < N := by have := RL.out i; rwa [gm_lt (by rw [HLR.out]; omega)] at this
                      have lb : gn R j < N := by have := RL.out j; rwa [gm_lt (by rw [HLR.out]; omega)] at this
                      have e2 : Int.tmod ((i : Int) + 1) (n5 : Int) = (j : Int) := by rw [hj]; exact (Int.ofNat_tmod (i + 1) n5).symm
                      have NS := hide (newTo_s ps R N i)
                      have SD : Hid (seenB ps R N i = decide (trn (gp ps (gn R i)) (gp ps (gn R j)) (gp ps N) < 0)) := hide (by unfold seenB aft; rw [HLR.out, hj])
                      have AF : Hid (aft R i = gn R j) := hide (by unfold aft; rw [HLR.out, hj])
                      have TT := hide (TU.out (gn R i) (gn R j) N (by omega) (by omega) hlt4)
                      obtain ⟨xa, ya⟩ := CELL.out wr hbel (gn R i) (by omega)
                      obtain ⟨xb, yb⟩ := CELL.out wr hbel (gn R j) (by omega)
                      obtain ⟨xn, yn⟩ := CELL.out wr hbel N hlt4
                      have NL : (sT (TS ++ newTo ps R N i)).length ≤ 2000000 := by rw [sT_len, List.length_append]; have := newTo_len ps R N i; omega
                      rw [AF.out] at NS
                      have HSH := hide hS
                      have HOT := hide hownT
                      have HOR := hide hown
                      have HBL := hide hbel
                      have HFS := hide hfS
                      have LE := hide hbel.size
                      have LA : Hid (w.heap.size ≤ (⟨Wa.heap.size, i, none⟩ : Addr).block) := hide hza
                      clear hownT hown hrc hfS hbel AF
                      generalize gn R i = a at *
                      generalize gn R j = b at *
                      have SC : Hid (∀ W, Below w.heap.size wr W → W.cell? ⟨pb, po + a * 2, none⟩ = some (.int .i64 (pX ps a)) ∧ W.cell? ⟨pb, po + a * 2 + 1, none⟩ = some (.int .i64 (pY ps a)) ∧ W.cell? ⟨pb, po + b * 2, none⟩ = some (.int .i64 (pX ps b)) ∧ W.cell? ⟨pb, po + b * 2 + 1, none⟩ = some (.int .i64 (pY ps b)) ∧ W.cell? ⟨pb, po + N * 2, none⟩ = some (.int .i64 (pX ps N)) ∧ W.cell? ⟨pb, po + N * 2 + 1, none⟩ = some (.int .i64 (pY ps N))) := hide (fun W hW => ⟨(hW.cell (p := ⟨pb, po + a * 2, none⟩) HPB.out).trans xa, (hW.cell (p := ⟨pb, po + a * 2 + 1, none⟩) HPB.out).trans ya, (hW.cell (p := ⟨pb, po + b * 2, none⟩) HPB.out).trans xb, (hW.cell (p := ⟨pb, po + b * 2 + 1, none⟩) HPB.out).trans yb, (hW.cell (p := ⟨pb, po + N * 2, none⟩) HPB.out).trans xn, (hW.cell (p := ⟨pb, po + N * 2 + 1, none⟩) HPB.out).trans yn⟩)
                      have BD9 := hide (show Below wr.heap.size wr wr.drew from (by (repeat' (first | (with_reducible first | exact Below.refl _ _ | assumption | refine below_ext _ ?_ ?_ | refine Below.alloc ?_ ?_ _ | refine Below.drew ?_ | refine below_drewN ?_ _ | refine le_drewN _ ?_ | refine Below.setCell ?_ ?_ _ | exact Nat.le_refl _ | refine le_ext _ ?_ | refine le_alloc _ ?_ | refine le_setCell _ _ ?_ | refine le_drew ?_) | omega | (simp; done) | (simp; omega)))))
                      have BD0 := hide (BD9.out.mono LE.out)
                      have b1 : (a : Int) < (n : Int) := by omega
                      have b2 : (b : Int) < (n : Int) := by omega
                      have b3 : (N : Int) < (n : Int) := by omega
                      have b4 : a < n := by omega
                      have b5 : b < n := by omega
                      have b6 : (i : Int) < (n5 : Int) := by omega
                      have b7 : (j : Int) < (n5 : Int) := by omega
                      have b8 : ((n5 : Int) == 0) = false := by rw [beq_eq_false_iff_ne]; omega
                      have b9 : pb < wr.heap.size := by have := HPB.out; have := LE.out; omega
                      clear hj
                      by_cases hsn : trn (gp ps a) (gp ps b) (gp ps N) < 0
                      · have dN : decide (trn (gp ps a) (gp ps b) (gp ps N) < 0) = true := decide_eq_true hsn
                        rw [dN] at SD
                        clear hsn
                        generalize trn (gp ps a) (gp ps b) (gp ps N) = T0 at *
                        generalize pX ps a = XA at *
                        generalize pY ps a = YA at *
                        generalize pX ps b = XB at *
                        generalize pY ps b = YB at *
                        generalize pX ps N = XN at *
                        generalize pY ps N = YN at *
                        go_wp2_with fail
                        go_region_held3 (fun W => W.cell? ⟨pb, po + a * 2, none⟩ = some (.int .i64 XA) ∧ W.cell? ⟨pb, po + a * 2 + 1, none⟩ = some (.int .i64 YA) ∧ W.cell? ⟨pb, po + b * 2, none⟩ = some (.int .i64 XB) ∧ W.cell? ⟨pb, po + b * 2 + 1, none⟩ = some (.int .i64 YB) ∧ W.cell? ⟨pb, po + N * 2, none⟩ = some (.int .i64 XN) ∧ W.cell? ⟨pb, po + N * 2 + 1, none⟩ = some (.int .i64 YN)) (first | exact SC.out _ BD0.out | exact SC.out _ B6m.out | exact SC.out _ (SB6.out _)) ((go_at_call 37; refine (TT.out _).mono ?_; rintro e w6 ⟨rfl, hx6⟩; have B6 := hide (BD9.out.trans (ext_bel hx6)); have B6m := hide (B6.out.mono LE.out); have SB6 := hide (fun v => B6m.out.setCell (p := ⟨Wa.heap.size, i, none⟩) LA.out v); have R6 := hide (HSH.out.below B6.out HSH.out.lt); have sc6 := R6.out.cell hlt5; have sf6 := R6.out.frozen i; have R7 := hide (R6.out.set hlt5 (.bool true)); have c7 : (w6.setCell ⟨Wa.heap.size, i, none⟩ (.bool true)).cell? ⟨Wa.heap.size, i, none⟩ = some (.bool true) := (by simpa using R7.out.cell hlt5); have z6 := B6.out.size; clear hx6))
                        have T6 := HOT.out.below B6.out
                        have O6 := own_below HOR.out B6.out
                        have T7 := hide (World.ownsRow.kept T6 (grownBy_set w6 ⟨Wa.heap.size, i, none⟩ (.bool true)) (.inr (row_apart T6 R6.out (by decide)).symm))
                        have O7 := hide (World.ownsRow.kept O6 (grownBy_set w6 ⟨Wa.heap.size, i, none⟩ (.bool true)) (.inr (row_apart O6 R6.out (by decide)).symm))
                        have B7 := hide (SB6.out (.bool true))
                        have z7 := B7.out.size
                        clear T6 O6 sc6 sf6 B6 B6m SB6 R6
                        generalize w6.setCell ⟨Wa.heap.size, i, none⟩ (.bool true) = w7 at *
                        have NX5 : Hid (sT (TS ++ newTo ps R N (i + 1)) = sT (TS ++ newTo ps R N i) ++ [⟨(b : Int), (a : Int), (N : Int)⟩]) := hide (by rw [NS.out, SD.out, if_pos rfl, ← List.append_assoc, sT_app (TS ++ newTo ps R N i)]; rfl)
                        have za := LE.out
                        go_wp2_with (at_builtin; refine app_tri rfl _ _ rfl w.heap.size (.slice A8 n8 c8) (sT (TS ++ newTo ps R N i)) rfl (OwnT.below T7.out (by (repeat' (first | (with_reducible first | exact Below.refl _ _ | assumption | refine below_ext _ ?_ ?_ | refine Below.alloc ?_ ?_ _ | refine Below.drew ?_ | refine below_drewN ?_ _ | refine le_drewN _ ?_ | refine Below.setCell ?_ ?_ _ | exact Nat.le_refl _ | refine le_ext _ ?_ | refine le_alloc _ ?_ | refine le_setCell _ _ ?_ | refine le_drew ?_) | omega | (simp; done) | (simp; omega))))) (b : Int) (a : Int) (N : Int) _ _ rfl (by simp [go_sem]) (by simp [go_sem]) (by simp [go_sem]) NL (by simp; omega) ?_; intro v' w8 hown' hb' hat hgr; obtain ⟨A9, n9, c9, rfl⟩ := hown'.slice; have T8 := hide hown'; have HB8 := hide hb'; have HG8 := hide hgr; clear hown' hat hgr hb')
                        have T7a := OwnT.below T7.out (show Below w7.heap.size w7 (w7.alloc (.cells #[.int .i64 (b : Int), .int .i64 (a : Int), .int .i64 (N : Int)] 37)) from (by (repeat' (first | (with_reducible first | exact Below.refl _ _ | assumption | refine below_ext _ ?_ ?_ | refine Below.alloc ?_ ?_ _ | refine Below.drew ?_ | refine below_drewN ?_ _ | refine le_drewN _ ?_ | refine Below.setCell ?_ ?_ _ | exact Nat.le_refl _ | refine le_ext _ ?_ | refine le_alloc _ ?_ | refine le_setCell _ _ ?_ | refine le_drew ?_) | omega | (simp; done) | (simp; omega)))))
                        have O7a := own_below O7.out (show Below w7.heap.size w7 (w7.alloc (.cells #[.int .i64 (b : Int), .int .i64 (a : Int), .int .i64 (N : Int)] 37)) from (by (repeat' (first | (with_reducible first | exact Below.refl _ _ | assumption | refine below_ext _ ?_ ?_ | refine Below.alloc ?_ ?_ _ | refine Below.drew ?_ | refine below_drewN ?_ _ | refine le_drewN _ ?_ | refine Below.setCell ?_ ?_ _ | exact Nat.le_refl _ | refine le_ext _ ?_ | refine le_alloc _ ?_ | refine le_setCell _ _ ?_ | refine le_drew ?_) | omega | (simp; done) | (simp; omega)))))
                        have R7a := R7.out.alloc (.cells #[.int .i64 (b : Int), .int .i64 (a : Int), .int .i64 (N : Int)] 37)
                        exact ⟨⟨i + 1, by omega, by go_num, by rw [NX5.out]; exact T8.out, World.ownsRow.kept O7a HG8.out (own_apart (by decide) O7a T7a), ⟨_, R7a.block (HG8.out.block _ R7a.lt (row_apart T7a R7a (by decide))), fun x hx => by
                          by_cases hxi : x = i
                          · rw [if_pos hxi, hxi, SD.out]
                          · rw [if_neg hxi]; exact HFS.out x (by omega)⟩, (HBL.out.trans (B7.out.alloc (by omega) _)).trans HB8.out⟩, by simp [intOf]; omega⟩
                      · have dN : decide (trn (gp ps a) (gp ps b) (gp ps N) < 0) = false := decide_eq_false hsn
                        rw [dN] at SD
                        clear hsn
                        generalize trn (gp ps a) (gp ps b) (gp ps N) = T0 at *
                        generalize pX ps a = XA at *
                        generalize pY ps a = YA at *
                        generalize pX ps b = XB at *
                        generalize pY ps b = YB at *
                        generalize pX ps N = XN at *
                        generalize pY ps N = YN at *
                        go_wp2_with fail
                        go_region_held3 (fun W => W.cell? ⟨pb, po + a * 2, none⟩ = some (.int .i64 XA) ∧ W.cell? ⟨pb, po + a * 2 + 1, none⟩ = some (.int .i64 YA) ∧ W.cell? ⟨pb, po + b * 2, none⟩ = some (.int .i64 XB) ∧ W.cell? ⟨pb, po + b * 2 + 1, none⟩ = some (.int .i64 YB) ∧ W.cell? ⟨pb, po + N * 2, none⟩ = some (.int .i64 XN) ∧ W.cell? ⟨pb, po + N * 2 + 1, none⟩ = some (.int .i64 YN)) (first | exact SC.out _ BD0.out | exact SC.out _ B6m.out | exact SC.out _ (SB6.out _)) ((go_at_call 37; refine (TT.out _).mono ?_; rintro e w6 ⟨rfl, hx6⟩; have B6 := hide (BD9.out.trans (ext_bel hx6)); have B6m := hide (B6.out.mono LE.out); have SB6 := hide (fun v => B6m.out.setCell (p := ⟨Wa.heap.size, i, none⟩) LA.out v); have R6 := hide (HSH.out.below B6.out HSH.out.lt); have sc6 := R6.out.cell hlt5; have sf6 := R6.out.frozen i; have R7 := hide (R6.out.set hlt5 (.bool false)); have c7 : (w6.setCell ⟨Wa.heap.size, i, none⟩ (.bool false)).cell? ⟨Wa.heap.size, i, none⟩ = some (.bool false) := (by simpa using R7.out.cell hlt5); have z6 := B6.out.size; clear hx6))
                        have T6 := HOT.out.below B6.out
                        have O6 := own_below HOR.out B6.out
                        have T7 := hide (World.ownsRow.kept T6 (grownBy_set w6 ⟨Wa.heap.size, i, none⟩ (.bool false)) (.inr (row_apart T6 R6.out (by decide)).symm))
                        have O7 := hide (World.ownsRow.kept O6 (grownBy_set w6 ⟨Wa.heap.size, i, none⟩ (.bool false)) (.inr (row_apart O6 R6.out (by decide)).symm))
                        have B7 := hide (SB6.out (.bool false))
                        have z7 := B7.out.size
                        clear T6 O6 sc6 sf6 B6 B6m SB6 R6
                        generalize w6.setCell ⟨Wa.heap.size, i, none⟩ (.bool false) = w7 at *
                        have NX5 : Hid (newTo ps R N (i + 1) = newTo ps R N i) := hide (by rw [NS.out, SD.out]; simp)
                        go_wp2_with fail
                        exact ⟨⟨i + 1, by omega, by go_num, by rw [NX5.out]; exact T7.out, O7.out, ⟨_, R7.out, fun x hx => by
                          by_cases hxi : x = i
                          · rw [if_pos hxi, hxi, SD.out]
                          · rw [if_neg hxi]; exact HFS.out x (by omega)⟩, HBL.out.trans B7.out⟩, by simp [intOf]; omega⟩
                    · obtain rfl : i = n5 := by omega
                      have HOT := hide hownT
                      have HOR := hide hown
                      have HSH := hide hS
                      have HFS := hide hfS
                      have HBL := hide hbel
                      obtain ⟨Wc, hWc⟩ : ∃ Wc, Wc = wr := ⟨_, rfl⟩
                      rw [← hWc] at HOT HOR HSH HBL ⊢
                      clear hownT hown hS hfS hbel hWc hi
                      have zc := HBL.out.size
                      go_wp2_with fail
                      go_loopw [13, 111] (fun u13 u111 wr => ∃ x : Nat, x ≤ i ∧ u111 = .int .i64 x ∧ Own wr Wc.heap.size u13 (ri (ringTo ps R N x)) ∧ Below Wc.heap.size Wc wr) (fun _ u111 _ => i - (intOf u111).toNat)
                      case atStart => exact ⟨0, Nat.zero_le _, rfl, Own.empty _ _ (Nat.le_refl _), (by (repeat' (first | (with_reducible first | exact Below.refl _ _ | assumption | refine below_ext _ ?_ ?_ | refine Below.alloc ?_ ?_ _ | refine Below.drew ?_ | refine below_drewN ?_ _ | refine le_drewN _ ?_ | refine Below.setCell ?_ ?_ _ | exact Nat.le_refl _ | refine le_ext _ ?_ | refine le_alloc _ ?_ | refine le_setCell _ _ ?_ | refine le_drew ?_) | omega | (simp; done) | (simp; omega))))⟩
                      case round =>
                        obtain ⟨x, hx, rfl, hown, hbel⟩ := hrel
                        obtain ⟨A13, n13, c13, rfl⟩ := own_slice hown
                        have OWN := hide hown
                        have hszc := hbel.size
                        clear hown
                        by_cases hlt6 : x < i
                        · obtain ⟨rb, ro, rfl, hrb, hrc⟩ := HOR.out.ints.2.2.2 (by rw [ri_len, HLR.out]; omega)
                          obtain ⟨y, hy⟩ : ∃ y, y = (x + i - 1) % i := ⟨_, rfl⟩
                          have hyn : y < i := by rw [hy]; exact Nat.mod_lt _ n52
                          have cx0 : Wc.cell? ⟨rb, ro + x, none⟩ = some (.int .i64 ((gn R x : Nat) : Int)) := by rw [← ri_gi (by rw [HLR.out]; omega)]; exact hrc x (by rw [ri_len, HLR.out]; omega)
                          have cx := (hbel.cell (p := ⟨rb, ro + x, none⟩) hrb).trans cx0
                          have RS := HSH.out.below hbel HSH.out.lt
                          have sx := RS.cell hlt6
                          have sy := RS.cell hyn
                          rw [HFS.out x hlt6] at sx
                          rw [HFS.out y hyn] at sy
                          have lrb : rb < wr.heap.size := by omega
                          have lsb := RS.lt
                          have e3 : Int.tmod ((x : Int) + (i : Int) - 1) (i : Int) = (y : Int) := by
                            rw [hy, show (x : Int) + (i : Int) - 1 = ((x + i - 1 : Nat) : Int) by omega]; exact (Int.ofNat_tmod (x + i - 1) i).symm
                          have BF : Hid (befB ps R N x = seenB ps R N y) := hide (by unfold befB; rw [HLR.out, hy])
                          have RS1 := hide (ringTo_s ps R N x)
                          have NL : (ri (ringTo ps R N x)).length ≤ 2000000 := by rw [ri_len]; have := ringTo_len ps R N x; omega
                          have NL2 : (ri (ringTo ps R N x) ++ [((gn R x : Nat) : Int)]).length ≤ 2000000 := by rw [List.length_append, ri_len]; have := ringTo_len ps R N x; simp; omega
                          have BK := hide (show blkN ps R N x = (if (!befB ps R N x || !seenB ps R N x) = true then [gn R x] else []) ++ (if (!befB ps R N x && seenB ps R N x) = true then [N] else []) from rfl)
                          rw [BF.out] at BK
                          have b6 : (x : Int) < (i : Int) := by omega
                          have b7 : (y : Int) < (i : Int) := by omega
                          have b8 : ((i : Int) == 0) = false := by rw [beq_eq_false_iff_ne]; omega
                          clear hy cx0 hrc RS BF
                          generalize hsx : seenB ps R N x = SX at *
                          have HSX := hide hsx
                          clear hsx
                          generalize seenB ps R N y = SY at *
                          generalize gn R x = a at *
                          cases SY <;> cases SX
                          · have NR : Hid (ri (ringTo ps R N (x + 1)) = ri (ringTo ps R N x) ++ [(a : Int)]) := hide (by rw [RS1.out, BK.out, ri_app]; rfl)
                            go_wp2_with (at_builtin; refine app_one rfl _ _ rfl Wc.heap.size (.slice A13 n13 c13) (ri (ringTo ps R N x)) rfl (own_below OWN.out (by (repeat' (first | (with_reducible first | exact Below.refl _ _ | assumption | refine below_ext _ ?_ ?_ | refine Below.alloc ?_ ?_ _ | refine Below.drew ?_ | refine below_drewN ?_ _ | refine le_drewN _ ?_ | refine Below.setCell ?_ ?_ _ | exact Nat.le_refl _ | refine le_ext _ ?_ | refine le_alloc _ ?_ | refine le_setCell _ _ ?_ | refine le_drew ?_) | omega | (simp; done) | (simp; omega))))) (a : Int) _ _ rfl (by simp [go_sem]) NL (by simp; omega) ?_; intro v' w14 hown' hb' hat hgr; obtain ⟨A14, n14, c14, rfl⟩ := own_slice hown'; have O14 := hide hown'; have H14 := hide hb'; have sx14 := ((HSH.out.below (Below.trans (Below.trans hbel (by (repeat' (first | (with_reducible first | exact Below.refl _ _ | assumption | refine below_ext _ ?_ ?_ | refine Below.alloc ?_ ?_ _ | refine Below.drew ?_ | refine below_drewN ?_ _ | refine le_drewN _ ?_ | refine Below.setCell ?_ ?_ _ | exact Nat.le_refl _ | refine le_ext _ ?_ | refine le_alloc _ ?_ | refine le_setCell _ _ ?_ | refine le_drew ?_) | omega | (simp; done) | (simp; omega))))) hb') HSH.out.lt).cell hlt6).trans (congrArg some ((HFS.out x hlt6).trans (congrArg Value.bool HSX.out))); clear hown' hat hgr hb')
                            exact ⟨⟨x + 1, by omega, by go_num, by rw [NR.out]; exact O14.out, Below.trans (Below.trans hbel (by (repeat' (first | (with_reducible first | exact Below.refl _ _ | assumption | refine below_ext _ ?_ ?_ | refine Below.alloc ?_ ?_ _ | refine Below.drew ?_ | refine below_drewN ?_ _ | refine le_drewN _ ?_ | refine Below.setCell ?_ ?_ _ | exact Nat.le_refl _ | refine le_ext _ ?_ | refine le_alloc _ ?_ | refine le_setCell _ _ ?_ | refine le_drew ?_) | omega | (simp; done) | (simp; omega))))) H14.out⟩, by simp [intOf]; omega⟩
                          · have NR : Hid (ri (ringTo ps R N (x + 1)) = (ri (ringTo ps R N x) ++ [(a : Int)]) ++ [(N : Int)]) := hide (by rw [RS1.out, BK.out, ri_app, List.append_assoc]; rfl)
                            go_wp2_with (first | (at_builtin; refine app_one rfl _ _ rfl Wc.heap.size (.slice A13 n13 c13) (ri (ringTo ps R N x)) rfl (own_below OWN.out (by (repeat' (first | (with_reducible first | exact Below.refl _ _ | assumption | refine below_ext _ ?_ ?_ | refine Below.alloc ?_ ?_ _ | refine Below.drew ?_ | refine below_drewN ?_ _ | refine le_drewN _ ?_ | refine Below.setCell ?_ ?_ _ | exact Nat.le_refl _ | refine le_ext _ ?_ | refine le_alloc _ ?_ | refine le_setCell _ _ ?_ | refine le_drew ?_) | omega | (simp; done) | (simp; omega))))) (a : Int) _ _ rfl (by simp [go_sem]) NL (by simp; omega) ?_; intro v' w14 hown' hb' hat hgr; obtain ⟨A14, n14, c14, rfl⟩ := own_slice hown'; have O14 := hide hown'; have H14 := hide hb'; have sx14 := ((HSH.out.below (Below.trans (Below.trans hbel (by (repeat' (first | (with_reducible first | exact Below.refl _ _ | assumption | refine below_ext _ ?_ ?_ | refine Below.alloc ?_ ?_ _ | refine Below.drew ?_ | refine below_drewN ?_ _ | refine le_drewN _ ?_ | refine Below.setCell ?_ ?_ _ | exact Nat.le_refl _ | refine le_ext _ ?_ | refine le_alloc _ ?_ | refine le_setCell _ _ ?_ | refine le_drew ?_) | omega | (simp; done) | (simp; omega))))) hb') HSH.out.lt).cell hlt6).trans (congrArg some ((HFS.out x hlt6).trans (congrArg Value.bool HSX.out))); have z14 : Wc.heap.size ≤ w14.heap.size := Nat.le_trans (by simp; omega) hb'.size; clear hown' hat hgr hb') | (at_builtin; refine app_one rfl _ _ rfl Wc.heap.size (.slice A14 n14 c14) (ri (ringTo ps R N x) ++ [(a : Int)]) rfl (own_below O14.out (by (repeat' (first | (with_reducible first | exact Below.refl _ _ | assumption | refine below_ext _ ?_ ?_ | refine Below.alloc ?_ ?_ _ | refine Below.drew ?_ | refine below_drewN ?_ _ | refine le_drewN _ ?_ | refine Below.setCell ?_ ?_ _ | exact Nat.le_refl _ | refine le_ext _ ?_ | refine le_alloc _ ?_ | refine le_setCell _ _ ?_ | refine le_drew ?_) | omega | (simp; done) | (simp; omega))))) (N : Int) _ _ rfl (by simp [go_sem]) NL2 (by simp; omega) ?_; intro v' w15 hown' hb' hat hgr; obtain ⟨A15, n15, c15, rfl⟩ := own_slice hown'; have O15 := hide hown'; have H15 := hide hb'; clear hown' hat hgr hb'))
                            exact ⟨⟨x + 1, by omega, by go_num, by rw [NR.out]; exact O15.out, Below.trans (Below.trans (Below.trans (Below.trans hbel (by (repeat' (first | (with_reducible first | exact Below.refl _ _ | assumption | refine below_ext _ ?_ ?_ | refine Below.alloc ?_ ?_ _ | refine Below.drew ?_ | refine below_drewN ?_ _ | refine le_drewN _ ?_ | refine Below.setCell ?_ ?_ _ | exact Nat.le_refl _ | refine le_ext _ ?_ | refine le_alloc _ ?_ | refine le_setCell _ _ ?_ | refine le_drew ?_) | omega | (simp; done) | (simp; omega))))) H14.out) (by (repeat' (first | (with_reducible first | exact Below.refl _ _ | assumption | refine below_ext _ ?_ ?_ | refine Below.alloc ?_ ?_ _ | refine Below.drew ?_ | refine below_drewN ?_ _ | refine le_drewN _ ?_ | refine Below.setCell ?_ ?_ _ | exact Nat.le_refl _ | refine le_ext _ ?_ | refine le_alloc _ ?_ | refine le_setCell _ _ ?_ | refine le_drew ?_) | omega | (simp; done) | (simp; omega))))) H15.out⟩, by simp [intOf]; omega⟩
                          · have NR : Hid (ri (ringTo ps R N (x + 1)) = ri (ringTo ps R N x) ++ [(a : Int)]) := hide (by rw [RS1.out, BK.out, ri_app]; rfl)
                            go_wp2_with (at_builtin; refine app_one rfl _ _ rfl Wc.heap.size (.slice A13 n13 c13) (ri (ringTo ps R N x)) rfl (own_below OWN.out (by (repeat' (first | (with_reducible first | exact Below.refl _ _ | assumption | refine below_ext _ ?_ ?_ | refine Below.alloc ?_ ?_ _ | refine Below.drew ?_ | refine below_drewN ?_ _ | refine le_drewN _ ?_ | refine Below.setCell ?_ ?_ _ | exact Nat.le_refl _ | refine le_ext _ ?_ | refine le_alloc _ ?_ | refine le_setCell _ _ ?_ | refine le_drew ?_) | omega | (simp; done) | (simp; omega))))) (a : Int) _ _ rfl (by simp [go_sem]) NL (by simp; omega) ?_; intro v' w14 hown' hb' hat hgr; obtain ⟨A14, n14, c14, rfl⟩ := own_slice hown'; have O14 := hide hown'; have H14 := hide hb'; have sx14 := ((HSH.out.below (Below.trans (Below.trans hbel (by (repeat' (first | (with_reducible first | exact Below.refl _ _ | assumption | refine below_ext _ ?_ ?_ | refine Below.alloc ?_ ?_ _ | refine Below.drew ?_ | refine below_drewN ?_ _ | refine le_drewN _ ?_ | refine Below.setCell ?_ ?_ _ | exact Nat.le_refl _ | refine le_ext _ ?_ | refine le_alloc _ ?_ | refine le_setCell _ _ ?_ | refine le_drew ?_) | omega | (simp; done) | (simp; omega))))) hb') HSH.out.lt).cell hlt6).trans (congrArg some ((HFS.out x hlt6).trans (congrArg Value.bool HSX.out))); clear hown' hat hgr hb')
                            exact ⟨⟨x + 1, by omega, by go_num, by rw [NR.out]; exact O14.out, Below.trans (Below.trans hbel (by (repeat' (first | (with_reducible first | exact Below.refl _ _ | assumption | refine below_ext _ ?_ ?_ | refine Below.alloc ?_ ?_ _ | refine Below.drew ?_ | refine below_drewN ?_ _ | refine le_drewN _ ?_ | refine Below.setCell ?_ ?_ _ | exact Nat.le_refl _ | refine le_ext _ ?_ | refine le_alloc _ ?_ | refine le_setCell _ _ ?_ | refine le_drew ?_) | omega | (simp; done) | (simp; omega))))) H14.out⟩, by simp [intOf]; omega⟩
                          · have NR : Hid (ri (ringTo ps R N (x + 1)) = ri (ringTo ps R N x)) := hide (by rw [RS1.out, BK.out]; simp)
                            go_wp2_with fail
                            exact ⟨⟨x + 1, by omega, by go_num, by rw [NR.out]; exact OWN.out, hbel⟩, by simp [intOf]; omega⟩
                        · obtain rfl : x = i := by omega
                          have HT9 := hide (HOT.out.below hbel)
                          have HB9 := hide (HBL.out.trans (hbel.mono zc))
                          have HO9 := hide (OWN.out.base (show w.heap.size ≤ Wc.heap.size by omega))
                          rw [← NX.out.2] at HT9
                          rw [← NX.out.1] at HO9
                          have eN := HNN.out
                          clear HOT HOR HSH HFS HBL OWN hbel
                          go_wp2_with fail
                          exact ⟨⟨f + 1, by omega, by congr 1 <;> omega, HT9.out, HO9.out, HB9.out⟩, by simp [intOf]; omega⟩
                · obtain rfl : f = n - m := by omega
                  obtain ⟨lT, hcT, hmT, _⟩ := hownT.tris
                  have HT := hide hownT
                  have CL := hide (clipT_any A3 n3 c3 wr hcT (by unfold maxLen at hmT; omega) hownT.form)
                  have HBf := hide hbel
                  clear hownT hown hbel
                  go_wp2_with fail
                  refine CL.out.mono ?_
                  rintro e w9 ⟨rfl, rfl⟩
                  go_wp2_with fail
                  go_ret
                  exact ⟨A3, n3, n3, rfl, lT, Nat.le_refl _, by unfold maxLen at hmT; omega, HT.out.trow.2, HT.out.form, ext_mk HBf.out⟩
end Go.Proofs.Ytcebmcbglhkkfaa
