
import Derived.Test.YtkkmioffclpmfaaGreatChkTM
import Derived.Test.YtkkmioffclpmfaaGreatApp
import Derived.Test.YtkkmioffclpmfaaGreatHelp
import Derived.Test.YtkkmioffclpmfaaGreatSlayB
import Derived.Shelf.Bits.Mul64
import Derived.Laws.CopyOwn
import Derived.BigRegion
import Derived.Deep.RegionHeld3
/- Colors of the reference: fits, extend, colorsOf. -/
set_option linter.unusedVariables false
set_option linter.unusedSimpArgs false
namespace Go.Proofs.YtkkmioffclpmfaaGreat
open Go.RowKit

/-- w' is w but for block g and later blocks. -/
structure Frm (w w' : World) (g : Nat) : Prop where
  os : w'.os = w.os
  tape : w'.tape = w.tape
  output : w'.output = w.output
  size : w.heap.size ≤ w'.heap.size
  block : ∀ k, k < w.heap.size → k ≠ g → w'.heap[k]? = w.heap[k]?
theorem Frm.refl (w : World) (g : Nat) : Frm w w g := ⟨rfl, rfl, rfl, Nat.le_refl _, fun _ _ _ => rfl⟩
theorem Frm.trans {a b c : World} {g : Nat} (h : Frm a b g) (h2 : Frm b c g) : Frm a c g :=
  ⟨h2.os.trans h.os, h2.tape.trans h.tape, h2.output.trans h.output, Nat.le_trans h.size h2.size, fun k hk hg => (h2.block k (Nat.lt_of_lt_of_le hk h.size) hg).trans (h.block k hk hg)⟩
theorem Frm.bel {w w' : World} (g : Nat) (h : Below w.heap.size w w') : Frm w w' g := ⟨h.os, h.tape, h.output, h.size, fun k hk _ => h.block k hk⟩
theorem Frm.set (w : World) (g j : Nat) (v : Value) : Frm w (w.setCell ⟨g, j, none⟩ v) g :=
  ⟨rfl, rfl, rfl, by simp, fun k _ hk => Below.heap_setCell w _ _ k hk⟩
theorem Frm.cell {w w' : World} {g b j : Nat} (h : Frm w w' g) (hb : b < w.heap.size) (hg : b ≠ g) : w'.cell? ⟨b, j, none⟩ = w.cell? ⟨b, j, none⟩ := World.cell?_of_block (h.block b hb hg)
theorem Frm.below {w w' : World} {g B : Nat} (h : Frm w w' g) (hB : B ≤ g) (hs : B ≤ w.heap.size) : Below B w w' := ⟨h.os, h.tape, h.output, h.size, fun k hk => h.block k (by omega) (by omega)⟩
/-- The colors lie in block cb. -/
def ColAt (w : World) (cb m : Nat) (cs : List Int) : Prop := cs.length ≤ m ∧ ∃ f, RowAt w cb 3 m f ∧ ∀ i, i < cs.length → f i = .int .i64 (gi cs i)
theorem ColAt.block {w w' : World} {cb m : Nat} {cs : List Int} (h : ColAt w cb m cs) (hb : w'.heap[cb]? = w.heap[cb]?) : ColAt w' cb m cs := by
  obtain ⟨h1, f, hr, hf⟩ := h
  exact ⟨h1, f, hr.block hb, hf⟩
theorem ColAt.lt {w : World} {cb m : Nat} {cs : List Int} (h : ColAt w cb m cs) : cb < w.heap.size := by obtain ⟨_, f, hr, _⟩ := h; exact hr.lt
theorem ColAt.bel {w w' : World} {cb m : Nat} {cs : List Int} (h : ColAt w cb m cs) (hb : Below w.heap.size w w') : ColAt w' cb m cs := h.block (hb.block _ h.lt)
theorem ColAt.cell {w : World} {cb m : Nat} {cs : List Int} (h : ColAt w cb m cs) {i : Nat} (hi : i < cs.length) : w.cell? ⟨cb, i, none⟩ = some (.int .i64 (gi cs i)) := by
  obtain ⟨h1, f, hr, hf⟩ := h
  rw [hr.cell (by omega), hf i hi]
theorem ColAt.frozen {w : World} {cb m : Nat} {cs : List Int} (h : ColAt w cb m cs) (i : Nat) : w.frozen? ⟨cb, i, none⟩ = false := by
  obtain ⟨h1, f, hr, hf⟩ := h
  exact hr.frozen i
theorem ColAt.set {w : World} {cb m : Nat} {cs : List Int} (h : ColAt w cb m cs) {i : Nat} (hi : i < cs.length) (x : Int) : ColAt (w.setCell ⟨cb, i, none⟩ (.int .i64 x)) cb m (cs.set i x) := by
  obtain ⟨h1, f, hr, hf⟩ := h
  refine ⟨by rw [List.length_set]; exact h1, _, hr.set (by omega) _, fun j hj => ?_⟩
  rw [List.length_set] at hj
  rw [gi_set hi]
  by_cases e : j = i
  · rw [if_pos e, if_pos e]
  · rw [if_neg e, if_neg e, hf j hj]
theorem beqD (x y : Int) : (x == y) = decide (x = y) := by by_cases h : x = y <;> simp [h]
theorem fitC_no {ts : List TI} {cs : List Int} {j : Nat} (hj : j < ts.length) (h : fitT (toN (gt ts j)) cs = false) : fitC (ts.map toN) cs = false := by
  rw [← Bool.not_eq_true]
  intro hh
  unfold fitC at hh
  rw [List.all_eq_true] at hh
  have := hh _ (List.mem_map.2 ⟨_, gt_mem hj, rfl⟩)
  rw [h] at this
  cases this
theorem fitC_yes {ts : List TI} {cs : List Int} (h : ∀ j, j < ts.length → fitT (toN (gt ts j)) cs = true) : fitC (ts.map toN) cs = true := by
  unfold fitC
  rw [List.all_eq_true]
  intro t ht
  obtain ⟨s, hs, rfl⟩ := List.mem_map.1 ht
  obtain ⟨j, hj, rfl⟩ := gt_of_mem hs
  exact h j hj
set_option maxRecDepth 20000 in
set_option maxHeartbeats 2000000 in
theorem fits_any (ts : List TI) (cs : List Int) (Z : Option Addr) (m d n c cm sb cb : Nat) (w : World) (ht : ts.length = m) (hm : m ≤ 2000000) (hn : cs.length = n) (hn2 : n ≤ 2000000) (hnc : n ≤ c) (hin : ∀ j, j < m → tIn n (gt ts j) = true) (hz : TrisAt w w.heap.size Z ts) (hc : ColAt w cb cm cs)
    (hl : w.cell? ⟨sb, 0, none⟩ = some (.slice Z m d)) (hcol : w.cell? ⟨sb, 1, none⟩ = some (.slice (some ⟨cb, 0, none⟩) n c)) :
    Calls Tryz.prog 149 #[.pointer (some ⟨sb, 0, none⟩)] w fun e w' => e = .returned (.bool (fitC (ts.map toN) cs)) ∧ ∃ x, w' = ext w x := by
  have lsb := World.block_lt_of_cell? w _ hl
  have lcb := hc.lt
  have HZ := hide hz
  have HT := hide ht
  have CC : Hid (∀ i, i < n → w.cell? ⟨cb, i, none⟩ = some (.int .i64 (gi cs i))) := hide (fun i hi => hc.cell (by omega))
  have TI : Hid (∀ j, j < m → ∃ a b c : Nat, gt ts j = ⟨a, b, c⟩ ∧ a < n ∧ b < n ∧ c < n) := hide (fun j hj => tIn_iff.1 (hin j hj))
  have N1 : Hid (∀ j, j < m → fitT (toN (gt ts j)) cs = false → fitC (ts.map toN) cs = false) := hide (fun j hj => fitC_no (by omega))
  have Y1 : Hid ((∀ j, j < m → fitT (toN (gt ts j)) cs = true) → fitC (ts.map toN) cs = true) := hide (fun h => fitC_yes (fun j hj => h j (by omega)))
  have HL := hide hl
  have HC := hide hcol
  clear hz ht hc hin hn hl hcol
  generalize fitC (ts.map toN) cs = VV at *
  go_enter Tryz.func149, Tryz.ntmps149
  go_wp2_with fail
  go_loopw [3] (fun u3 wr => ∃ j : Nat, j ≤ m ∧ u3 = .int .i64 j ∧ Hid (∀ x, x < j → fitT (toN (gt ts x)) cs = true) ∧ Below w.heap.size w wr) (fun u3 _ => m - (intOf u3).toNat)
  case atStart => exact ⟨0, Nat.zero_le _, rfl, hide (fun j hj => by omega), Below.refl _ _⟩
  case round =>
    obtain ⟨j, hj, rfl, HP, hbel⟩ := hrel
    have hsz := hbel.size
    have hl := (hbel.cell (p := ⟨sb, 0, none⟩) lsb).trans HL.out
    have hcol := (hbel.cell (p := ⟨sb, 1, none⟩) lsb).trans HC.out
    by_cases hlt : j < m
    · obtain ⟨b, o, rfl, hbl, hcs⟩ := HZ.out (by rw [HT.out]; omega)
      obtain ⟨x0, y0, z0⟩ := hcs j (by rw [HT.out]; omega)
      have g1 := (hbel.cell (p := ⟨b, o + j * 3, none⟩) hbl).trans x0
      have g2 := (hbel.cell (p := ⟨b, o + j * 3 + 1, none⟩) hbl).trans y0
      have g3 := (hbel.cell (p := ⟨b, o + j * 3 + 2, none⟩) hbl).trans z0
      obtain ⟨a, b', c', et, la, lb, lc⟩ := TI.out j hlt
      have eN : toN (gt ts j) = ⟨a, b', c'⟩ := by rw [et]; simp [toN]
      have k1 := (hbel.cell (p := ⟨cb, a, none⟩) lcb).trans (CC.out a la)
      have k2 := (hbel.cell (p := ⟨cb, b', none⟩) lcb).trans (CC.out b' lb)
      have k3 := (hbel.cell (p := ⟨cb, c', none⟩) lcb).trans (CC.out c' lc)
      have NX : Hid (fitT (toN (gt ts j)) cs = true → ∀ x, x < j + 1 → fitT (toN (gt ts x)) cs = true) := hide (fun h x hx => by
        by_cases ee : x = j
        · rw [ee]; exact h
        · exact HP.out x (by omega))
      have NO := hide (N1.out j hlt)
      have FT : Hid (fitT (toN (gt ts j)) cs = !((decide (0 ≤ gi cs a) && ((gi cs a == gi cs b') || (gi cs a == gi cs c'))) || (decide (0 ≤ gi cs b') && (gi cs b' == gi cs c')))) := hide (by
        rw [eN]; unfold fitT
        simp only [beqD])
      rw [FT.out] at NX NO
      rw [et] at g1 g2 g3
      have q1 : (0 : Int) ≤ (j : Int) := by omega
      have q2 : (j : Int) < (m : Int) := by omega
      have q3 : (0 : Int) ≤ (a : Int) := by omega
      have q4 : (a : Int) < (n : Int) := by omega
      have q5 : (0 : Int) ≤ (b' : Int) := by omega
      have q6 : (b' : Int) < (n : Int) := by omega
      have q7 : (0 : Int) ≤ (c' : Int) := by omega
      have q8 : (c' : Int) < (n : Int) := by omega
      clear hcs x0 y0 z0 FT eN et CC TI
      generalize gi cs a = X at *
      generalize gi cs b' = Y at *
      generalize gi cs c' = V at *
      go_wp2_with fail
      refine wp_region_ext (by kernel_rfl) (by kernel_rfl) ?_
      repeat (go_big_quiet_step (fail))
      refine wpQuiet_nil ?_
      rintro _ hnq
      have hzq := ext_sz hnq
      obtain ⟨nq, rfl⟩ := hnq
      (try simp at hzq)
      go_wp2_with fail
      refine wp_region_ext (by kernel_rfl) (by kernel_rfl) ?_
      repeat (go_big_quiet_step (fail))
      refine wpQuiet_nil ?_
      rintro _ hnq
      have hzq := ext_sz hnq
      obtain ⟨nq, rfl⟩ := hnq
      (try simp at hzq)
      go_wp2_with fail
      refine wp_region_ext (by kernel_rfl) (by kernel_rfl) ?_
      repeat (go_big_quiet_step (fail))
      refine wpQuiet_nil ?_
      rintro _ hnq
      have hzq := ext_sz hnq
      obtain ⟨nq, rfl⟩ := hnq
      (try simp at hzq)
      cases dX : decide (0 ≤ X)
      · rw [dX] at NX NO
        cases dY : decide (0 ≤ Y)
        · rw [dY] at NX NO
          (have NY := hide (NX.out rfl); go_wp2_with fail; exact ⟨⟨j + 1, by omega, by go_num, NY, hbel.trans (by (repeat' (first | (with_reducible first | exact Below.refl _ _ | assumption | refine below_ext _ ?_ ?_ | refine Below.alloc ?_ ?_ _ | refine Below.drew ?_ | refine below_drewN ?_ _ | refine le_drewN _ ?_ | refine Below.setCell ?_ ?_ _ | exact Nat.le_refl _ | refine le_ext _ ?_ | refine le_alloc _ ?_ | refine le_setCell _ _ ?_ | refine le_drew ?_) | omega | (simp; done) | (simp; omega))))⟩, by simp [intOf]; omega⟩)
        · rw [dY] at NX NO
          cases e3 : (Y == V)
          · rw [e3] at NX NO
            (have NY := hide (NX.out rfl); go_wp2_with fail; exact ⟨⟨j + 1, by omega, by go_num, NY, hbel.trans (by (repeat' (first | (with_reducible first | exact Below.refl _ _ | assumption | refine below_ext _ ?_ ?_ | refine Below.alloc ?_ ?_ _ | refine Below.drew ?_ | refine below_drewN ?_ _ | refine le_drewN _ ?_ | refine Below.setCell ?_ ?_ _ | exact Nat.le_refl _ | refine le_ext _ ?_ | refine le_alloc _ ?_ | refine le_setCell _ _ ?_ | refine le_drew ?_) | omega | (simp; done) | (simp; omega))))⟩, by simp [intOf]; omega⟩)
          · rw [e3] at NX NO
            (have HV := NO.out rfl; subst HV; go_wp2_with fail; go_ret; exact ⟨rfl, ext_mk (hbel.trans (by (repeat' (first | (with_reducible first | exact Below.refl _ _ | assumption | refine below_ext _ ?_ ?_ | refine Below.alloc ?_ ?_ _ | refine Below.drew ?_ | refine below_drewN ?_ _ | refine le_drewN _ ?_ | refine Below.setCell ?_ ?_ _ | exact Nat.le_refl _ | refine le_ext _ ?_ | refine le_alloc _ ?_ | refine le_setCell _ _ ?_ | refine le_drew ?_) | omega | (simp; done) | (simp; omega)))))⟩)
      · rw [dX] at NX NO
        cases e1 : (X == Y)
        · rw [e1] at NX NO
          cases e2 : (X == V)
          · rw [e2] at NX NO
            cases dY : decide (0 ≤ Y)
            · rw [dY] at NX NO
              (have NY := hide (NX.out rfl); go_wp2_with fail; exact ⟨⟨j + 1, by omega, by go_num, NY, hbel.trans (by (repeat' (first | (with_reducible first | exact Below.refl _ _ | assumption | refine below_ext _ ?_ ?_ | refine Below.alloc ?_ ?_ _ | refine Below.drew ?_ | refine below_drewN ?_ _ | refine le_drewN _ ?_ | refine Below.setCell ?_ ?_ _ | exact Nat.le_refl _ | refine le_ext _ ?_ | refine le_alloc _ ?_ | refine le_setCell _ _ ?_ | refine le_drew ?_) | omega | (simp; done) | (simp; omega))))⟩, by simp [intOf]; omega⟩)
            · rw [dY] at NX NO
              cases e3 : (Y == V)
              · rw [e3] at NX NO
                (have NY := hide (NX.out rfl); go_wp2_with fail; exact ⟨⟨j + 1, by omega, by go_num, NY, hbel.trans (by (repeat' (first | (with_reducible first | exact Below.refl _ _ | assumption | refine below_ext _ ?_ ?_ | refine Below.alloc ?_ ?_ _ | refine Below.drew ?_ | refine below_drewN ?_ _ | refine le_drewN _ ?_ | refine Below.setCell ?_ ?_ _ | exact Nat.le_refl _ | refine le_ext _ ?_ | refine le_alloc _ ?_ | refine le_setCell _ _ ?_ | refine le_drew ?_) | omega | (simp; done) | (simp; omega))))⟩, by simp [intOf]; omega⟩)
              · rw [e3] at NX NO
                (have HV := NO.out rfl; subst HV; go_wp2_with fail; go_ret; exact ⟨rfl, ext_mk (hbel.trans (by (repeat' (first | (with_reducible first | exact Below.refl _ _ | assumption | refine below_ext _ ?_ ?_ | refine Below.alloc ?_ ?_ _ | refine Below.drew ?_ | refine below_drewN ?_ _ | refine le_drewN _ ?_ | refine Below.setCell ?_ ?_ _ | exact Nat.le_refl _ | refine le_ext _ ?_ | refine le_alloc _ ?_ | refine le_setCell _ _ ?_ | refine le_drew ?_) | omega | (simp; done) | (simp; omega)))))⟩)
          · rw [e2] at NX NO
            (have HV := NO.out rfl; subst HV; go_wp2_with fail; go_ret; exact ⟨rfl, ext_mk (hbel.trans (by (repeat' (first | (with_reducible first | exact Below.refl _ _ | assumption | refine below_ext _ ?_ ?_ | refine Below.alloc ?_ ?_ _ | refine Below.drew ?_ | refine below_drewN ?_ _ | refine le_drewN _ ?_ | refine Below.setCell ?_ ?_ _ | exact Nat.le_refl _ | refine le_ext _ ?_ | refine le_alloc _ ?_ | refine le_setCell _ _ ?_ | refine le_drew ?_) | omega | (simp; done) | (simp; omega)))))⟩)
        · rw [e1] at NX NO
          (have HV := NO.out rfl; subst HV; go_wp2_with fail; go_ret; exact ⟨rfl, ext_mk (hbel.trans (by (repeat' (first | (with_reducible first | exact Below.refl _ _ | assumption | refine below_ext _ ?_ ?_ | refine Below.alloc ?_ ?_ _ | refine Below.drew ?_ | refine below_drewN ?_ _ | refine le_drewN _ ?_ | refine Below.setCell ?_ ?_ _ | exact Nat.le_refl _ | refine le_ext _ ?_ | refine le_alloc _ ?_ | refine le_setCell _ _ ?_ | refine le_drew ?_) | omega | (simp; done) | (simp; omega)))))⟩)
    · have HV := Y1.out (fun x hx => HP.out x (by omega))
      subst HV
      go_wp2_with fail
      go_ret
      exact ⟨rfl, ext_mk hbel⟩
def tryC (T : List Tri3) (f i : Nat) (cs : List Int) (x : Nat) : Option (List Int) := if fitC T (cs.set i (x : Int)) then srch T f (i + 1) (cs.set i (x : Int)) else none
theorem srch_hit {T : List Tri3} {f i k : Nat} {cs r : List Int} (hk : k < 3) (h : ∀ x, x < k → tryC T f i cs x = none) (hr : tryC T f i cs k = some r) : srch T (f + 1) i cs = some r := by
  have e : srch T (f + 1) i cs = match tryC T f i cs 0 with
    | some r => some r
    | none => match tryC T f i cs 1 with
      | some r => some r
      | none => tryC T f i cs 2 := rfl
  rw [e]
  match k, hk with
  | 0, _ => rw [hr]
  | 1, _ => rw [h 0 (by omega), hr]
  | 2, _ => rw [h 0 (by omega), h 1 (by omega), hr]
theorem srch_miss {T : List Tri3} {f i : Nat} {cs : List Int} (h : ∀ x, x < 3 → tryC T f i cs x = none) : srch T (f + 1) i cs = none := by
  have e : srch T (f + 1) i cs = match tryC T f i cs 0 with
    | some r => some r
    | none => match tryC T f i cs 1 with
      | some r => some r
      | none => tryC T f i cs 2 := rfl
  rw [e, h 0 (by omega), h 1 (by omega), h 2 (by omega)]
theorem set_back {cs : List Int} {i : Nat} (hi : i < cs.length) (h : gi cs i = -1) : cs.set i (-1) = cs := by
  rw [← h, gi_lt hi, List.set_getElem_self]
set_option maxRecDepth 20000 in
set_option maxHeartbeats 2000000 in
theorem extend_any (ts : List TI) (Z : Option Addr) (m d n c cm sb cb B : Nat) (ht : ts.length = m) (hm : m ≤ 2000000) (hn2 : n ≤ 2000000) (hnc : n ≤ c) (hin : ∀ j, j < m → tIn n (gt ts j) = true) (hsb : sb < cb) (hB : B ≤ cb) : ∀ (f i : Nat) (cs : List Int) (w : World), i + f = n → cs.length = n → (∀ j, i ≤ j → j < n → gi cs j = -1) → B ≤ w.heap.size → TrisAt w B Z ts → ColAt w cb cm cs →
    w.cell? ⟨sb, 0, none⟩ = some (.slice Z m d) → w.cell? ⟨sb, 1, none⟩ = some (.slice (some ⟨cb, 0, none⟩) n c) →
    Calls Tryz.prog 112 #[.pointer (some ⟨sb, 0, none⟩), .int .i64 i] w fun e w' => e = .returned (.bool (srch (ts.map toN) f i cs).isSome) ∧ ColAt w' cb cm ((srch (ts.map toN) f i cs).getD cs) ∧ Frm w w' cb
  | 0, i, cs, w, hif, hn, hmi, hBw, hz, hc, hl, hcol => by
    have ei : i = n := by omega
    subst ei
    have R0 : Hid (srch (ts.map toN) 0 i cs = some cs) := hide rfl
    rw [R0.out]
    have HC := hide hc
    clear hc hz hmi hin ht hn R0
    go_enter Tryz.func112, Tryz.ntmps112
    go_wp2_with fail
    go_ret
    exact ⟨rfl, HC.out, Frm.refl _ _⟩
  | f + 1, i, cs, w, hif, hn, hmi, hBw, hz, hc, hl, hcol => by
    have hi : i < n := by omega
    have IH := hide (fun (x : Nat) (W : World) (hF : Frm w W cb) (hcW : ColAt W cb cm (cs.set i (x : Int))) => extend_any ts Z m d n c cm sb cb B ht hm hn2 hnc hin hsb hB f (i + 1) (cs.set i (x : Int)) W (by omega) (by rw [List.length_set]; exact hn) (fun j h1 h2 => by rw [gi_set (by omega), if_neg (by omega)]; exact hmi j (by omega) h2) (Nat.le_trans hBw hF.size) (hz.below (hF.below hB hBw)) hcW ((hF.cell (b := sb) (World.block_lt_of_cell? w _ hl) (by omega)).trans hl) ((hF.cell (b := sb) (World.block_lt_of_cell? w _ hl) (by omega)).trans hcol))
    have FI := hide (fun (x : Nat) (W : World) (hF : Frm w W cb) (hcW : ColAt W cb cm (cs.set i (x : Int))) => fits_any ts (cs.set i (x : Int)) Z m d n c cm sb cb W ht hm (by rw [List.length_set]; exact hn) hn2 hnc hin ((hz.below (hF.below hB hBw)).more (Nat.le_trans hBw hF.size)) hcW ((hF.cell (b := sb) (World.block_lt_of_cell? w _ hl) (by omega)).trans hl) ((hF.cell (b := sb) (World.block_lt_of_cell? w _ hl) (by omega)).trans hcol))
    have SB := hide (set_back (by omega) (hmi i (Nat.le_refl _) hi))
    have HIT := hide (fun k hk h r hr => srch_hit (T := ts.map toN) (f := f) (i := i) (k := k) (cs := cs) (r := r) hk h hr)
    have MISS := hide (srch_miss (T := ts.map toN) (f := f) (i := i) (cs := cs))
    have TR : Hid (∀ k, tryC (ts.map toN) f i cs k = if fitC (ts.map toN) (cs.set i (k : Int)) then srch (ts.map toN) f (i + 1) (cs.set i (k : Int)) else none) := hide (fun k => rfl)
    have HC := hide hc
    have lsb := World.block_lt_of_cell? w _ hl
    have lcb := hc.lt
    have HL := hide hl
    have HN := hide hn
    have HO := hide hcol
    clear hc hz hmi hin ht hl hcol hn
    generalize srch (ts.map toN) (f + 1) i cs = R at *
    have w1 : IntKind.i64.wrap ((i : Int) + 1) = ((i + 1 : Nat) : Int) := by rw [IntWalk.i64_in _ (by omega)]; push_cast; rfl
    have dl : ((i : Int) == (n : Int)) = false := by rw [beq_eq_false_iff_ne]; omega
    have q3 : (0 : Int) ≤ (i : Int) := by omega
    have q4 : (i : Int) < (n : Int) := by omega
    have hl := HL.out
    have hcol := HO.out
    go_enter Tryz.func112, Tryz.ntmps112
    go_wp2_with fail
    clear hl hcol
    go_loopw [5] (fun u5 wr => ∃ (k : Nat) (y : Int), k ≤ 3 ∧ u5 = .int .i64 k ∧ ColAt wr cb cm (cs.set i y) ∧ Hid (∀ x, x < k → tryC (ts.map toN) f i cs x = none) ∧ Frm w wr cb) (fun u5 _ => 3 - (intOf u5).toNat)
    case atStart => exact ⟨0, -1, by omega, rfl, by rw [SB.out]; exact HC.out, hide (fun x hx => by omega), Frm.refl _ _⟩
    case round =>
      obtain ⟨k, y, hk, rfl, hca, HP, hF⟩ := hrel
      have hl := (hF.cell (j := 0) lsb (by omega)).trans HL.out
      have hcol := (hF.cell (j := 1) lsb (by omega)).trans HO.out
      have hck := hca.cell (i := i) (by rw [List.length_set]; have := HN.out; omega)
      have hfr := hca.frozen i
      have hsz := hF.size
      have CA := hide (fun (x : Int) => hca.set (i := i) (by rw [List.length_set]; have := HN.out; omega) x)
      generalize gi (cs.set i y) i = yy at *
      by_cases hlt : k < 3
      · have d3 : decide ((k : Int) < 3) = true := decide_eq_true (by omega)
        have F1 : Hid (Frm w (wr.setCell ⟨cb, i, none⟩ (.int .i64 (k : Int))) cb) := hide (hF.trans (Frm.set _ _ _ _))
        have C1 : Hid (ColAt (wr.setCell ⟨cb, i, none⟩ (.int .i64 (k : Int))) cb cm (cs.set i (k : Int))) := hide (by have := CA.out (k : Int); rw [List.set_set] at this; exact this)
        have FIk := hide (FI.out k _ F1.out C1.out)
        have TRk := hide (TR.out k)
        have NX : Hid (tryC (ts.map toN) f i cs k = none → ∀ x, x < k + 1 → tryC (ts.map toN) f i cs x = none) := hide (fun h x hx => by
          by_cases ee : x = k
          · rw [ee]; exact h
          · exact HP.out x (by omega))
        have HITk := hide (fun r hr => HIT.out k hlt HP.out r hr)
        clear hca CA FI TR HIT MISS HP
        by_cases hfit : fitC (ts.map toN) (cs.set i (k : Int)) = true
        · rw [hfit] at FIk
          have TR2 : Hid (tryC (ts.map toN) f i cs k = srch (ts.map toN) f (i + 1) (cs.set i (k : Int))) := hide (by rw [TRk.out, if_pos hfit])
          rw [TR2.out] at NX HITk
          clear hfit TRk TR2
          have IHk := hide (fun (W : World) (hF : Frm w W cb) (hcW : ColAt W cb cm (cs.set i (k : Int))) => IH.out k W hF hcW)
          clear IH
          generalize srch (ts.map toN) f (i + 1) (cs.set i (k : Int)) = S at *
          go_wp2_with fail
          refine FIk.out.mono ?_
          rintro e w2 ⟨rfl, hx2⟩
          have D2 := ext_bel hx2
          have F2 := hide (F1.out.trans (Frm.bel cb D2))
          have C2 := hide (C1.out.bel D2)
          clear hx2 D2
          go_wp2_with fail
          refine (IHk.out _ F2.out C2.out).mono ?_
          rintro e w3 ⟨rfl, ca3, F3⟩
          have F3h := hide (F2.out.trans F3)
          cases S with
          | none =>
            have NY := hide (NX.out rfl)
            have CA3 := hide ca3
            clear NX HITk ca3 F3
            go_wp2_with fail
            exact ⟨⟨k + 1, (k : Int), by omega, by go_num, CA3.out, NY, F3h.out⟩, by simp [intOf]; omega⟩
          | some r =>
            have HV := HITk.out r rfl
            have CA3 := hide ca3
            subst HV
            clear NX HITk ca3 F3
            go_wp2_with fail
            go_ret
            exact ⟨rfl, CA3.out, F3h.out⟩
        · have hfit := eq_false_of_ne_true hfit
          rw [hfit] at FIk
          have NY := hide (NX.out (by rw [TRk.out, if_neg (by rw [hfit]; decide)]))
          clear hfit TRk NX HITk IH
          go_wp2_with fail
          refine FIk.out.mono ?_
          rintro e w2 ⟨rfl, hx2⟩
          have D2 := ext_bel hx2
          have F2 := hide (F1.out.trans (Frm.bel cb D2))
          have C2 := hide (C1.out.bel D2)
          clear hx2 D2
          go_wp2_with fail
          exact ⟨⟨k + 1, (k : Int), by omega, by go_num, C2.out, NY, F2.out⟩, by simp [intOf]; omega⟩
      · have d3 : decide ((k : Int) < 3) = false := decide_eq_false (by omega)
        have HV := MISS.out (fun x hx => HP.out x (by omega))
        subst HV
        have F1 : Hid (Frm w (wr.setCell ⟨cb, i, none⟩ (.int .i64 (-1))) cb) := hide (hF.trans (Frm.set _ _ _ _))
        have C1 : Hid (ColAt (wr.setCell ⟨cb, i, none⟩ (.int .i64 (-1))) cb cm cs) := hide (by have := CA.out (-1); rw [List.set_set, SB.out] at this; exact this)
        clear hca CA FI TR HIT MISS HP IH
        go_wp2_with fail
        go_ret
        exact ⟨rfl, C1.out, F1.out⟩
theorem Own.col {w : World} {base : Nat} {A : Option Addr} {n c : Nat} {zs : List Int} (h : Own w base (.slice A n c) zs) (h0 : 0 < n) : ∃ g, A = some ⟨g, 0, none⟩ ∧ base ≤ g ∧ zs.length = n ∧ n ≤ c ∧ c ≤ maxLen ∧ ColAt w g c zs := by
  have hi := h.ints
  have hin := hi.2.2.2
  unfold Own at h
  rcases h.2 with ⟨hv, h1⟩ | ⟨g, cp, cur, hv, hg, hgg, hnc, hcm, hsz, htk⟩
  · have := hi.1; omega
  · injection hv with h1 h2 h3
    subst h1 h2 h3
    refine ⟨g, rfl, hg, rfl, hnc, hcm, hnc, fun j => cur.getD j undef, ⟨cur, hgg, by omega, fun j hj => ?_⟩, fun i hi2 => ?_⟩
    · have : j < cur.size := by omega
      simp [this]
    · obtain ⟨b, o, hA, _, hc⟩ := hin h0
      injection hA with hA; injection hA with e1 e2
      subst e1 e2
      have := hc i hi2
      rw [Nat.zero_add, heap_cell hgg] at this
      show cur.getD i undef = _
      rw [Array.getD_eq_getD_getElem?, this]; rfl
theorem ColAt.own {w : World} {base g n c : Nat} {zs : List Int} (h : ColAt w g c zs) (hb : base ≤ g) (hn : zs.length = n) (hc : c ≤ maxLen) : Own w base (.slice (some ⟨g, 0, none⟩) n c) zs := by
  subst hn
  obtain ⟨h1, f, ⟨cur, hgg, hsz, hcur⟩, hf⟩ := h
  refine ⟨by rw [List.length_map, Nat.mul_one], .inr ⟨g, c, cur, rfl, hb, hgg, h1, hc, by omega, ?_⟩⟩
  refine List.ext_getElem? fun k => ?_
  rw [Nat.mul_one, List.getElem?_take, List.getElem?_map]
  by_cases hk : k < zs.length
  · rw [if_pos hk, Array.getElem?_toList, hcur k (by omega), hf k hk, List.getElem?_eq_getElem hk, gi_lt hk]; rfl
  · rw [if_neg hk, List.getElem?_eq_none (by omega)]; rfl
theorem gi_noCol' {n j : Nat} (h : j < n) : gi (noCol n) j = -1 := by rw [gi_noCol, if_pos h]
theorem noCol_one (n : Nat) : noCol (n + 1) = noCol n ++ [-1] := by unfold noCol; rw [List.replicate_succ']
theorem noCol_len (n : Nat) : (noCol n).length = n := List.length_replicate ..
theorem srch_len {T : List Tri3} : ∀ (f i : Nat) (cs r : List Int), srch T f i cs = some r → r.length = cs.length
  | 0, i, cs, r, h => by injection h with h; rw [h]
  | f + 1, i, cs, r, h => by
    have step : ∀ k : Int, (if fitC T (cs.set i k) then srch T f (i + 1) (cs.set i k) else none) = some r → r.length = cs.length := fun k hk => by
      split at hk
      · have := srch_len f (i + 1) _ r hk
        rwa [List.length_set] at this
      · cases hk
    unfold srch at h
    split at h
    · rename_i r0 h0; injection h with h; subst h; exact step 0 h0
    · split at h
      · rename_i r0 h0; injection h with h; subst h; exact step 1 h0
      · exact step 2 h
theorem colL_len (T : List Tri3) (n : Nat) : (colL T n).length = n := by
  unfold colL
  cases h : srch T n 0 (noCol n) with
  | none => exact noCol_len n
  | some r => exact (srch_len _ _ _ _ h).trans (noCol_len n)
set_option maxRecDepth 20000 in
set_option maxHeartbeats 2000000 in
theorem colorsOf_any (ts : List TI) (Z : Option Addr) (m d n : Nat) (w : World) (ht : ts.length = m) (hm : m ≤ 2000000) (h0 : 0 < n) (hn2 : n ≤ 2000000) (hin : ∀ j, j < m → tIn n (gt ts j) = true) (hz : TrisAt w w.heap.size Z ts) :
    Calls Tryz.prog 65 #[.int .i64 n, .slice Z m d] w fun e w' => ∃ v, e = .returned v ∧ Own w' w.heap.size v (colL (ts.map toN) n) ∧ ∃ x, w' = ext w x := by
  have EX := hide (fun (c cb : Nat) (W : World) (hnc : n ≤ c) (hcb : w.heap.size < cb) (hb : Below w.heap.size w W) (hc : ColAt W cb c (noCol n)) (hl : W.cell? ⟨w.heap.size, 0, none⟩ = some (.slice Z m d)) (hcol : W.cell? ⟨w.heap.size, 1, none⟩ = some (.slice (some ⟨cb, 0, none⟩) n c)) =>
    extend_any ts Z m d n c c w.heap.size cb w.heap.size ht hm hn2 hnc hin hcb (by omega) n 0 (noCol n) W (by omega) (noCol_len n) (fun j _ hj => gi_noCol' hj) hb.size (hz.below hb) hc hl hcol)
  have CL : Hid ((srch (ts.map toN) n 0 (noCol n)).getD (noCol n) = colL (ts.map toN) n) := hide rfl
  rw [CL.out] at EX
  have LL := hide (colL_len (ts.map toN) n)
  clear hz hin ht CL
  generalize colL (ts.map toN) n = CO at *
  generalize (srch (ts.map toN) n 0 (noCol n)).isSome = bb at *
  go_enter Tryz.func65, Tryz.ntmps65
  go_wp2_with fail
  go_loopw [6] (fun u6 wr => ∃ k : Nat, k ≤ n ∧ u6 = .int .i64 k ∧ ∃ v, RowAt wr w.heap.size 107 2 (fun j => if j = 0 then .slice Z m d else v) ∧ Own wr (w.heap.size + 1) v (noCol k) ∧ Below w.heap.size w wr) (fun u6 _ => n - (intOf u6).toNat)
  case atStart =>
    refine ⟨0, Nat.zero_le _, rfl, .slice none 0 0, ?_, Own.nil _ _, (by (repeat' (first | (with_reducible first | exact Below.refl _ _ | assumption | refine below_ext _ ?_ ?_ | refine Below.alloc ?_ ?_ _ | refine Below.drew ?_ | refine below_drewN ?_ _ | refine le_drewN _ ?_ | refine Below.setCell ?_ ?_ _ | exact Nat.le_refl _ | refine le_ext _ ?_ | refine le_alloc _ ?_ | refine le_setCell _ _ ?_ | refine le_drew ?_) | omega | (simp; done) | (simp; omega))))⟩
    exact RowAt.new (f := fun j => if j = 0 then .slice Z m d else .slice none 0 0) w #[.slice Z m d, .slice none 0 0] _ (fun j hj => by
      have hj : j < 2 := hj
      match j, hj with
      | 0, _ => rfl
      | 1, _ => rfl)
  case round =>
    obtain ⟨k, hk, rfl, v, hrow, hown, hbel⟩ := hrel
    have hl := hrow.cell (j := 0) (by omega)
    have hcol := hrow.cell (j := 1) (by omega)
    rw [if_pos rfl] at hl
    rw [if_neg (by omega)] at hcol
    have hfr := hrow.frozen 1
    have lsb := hrow.lt
    obtain ⟨A4, n4, c4, rfl⟩ := own_slice hown
    have HR := hide hrow
    have OW := hide hown
    have hsz := hbel.size
    clear hrow
    by_cases hlt : k < n
    · have NL : (noCol k).length ≤ 2000000 := by rw [noCol_len]; omega
      have NX := hide (noCol_one k)
      clear hown EX
      go_wp2_with (at_builtin; refine app_one rfl _ _ rfl (w.heap.size + 1) (.slice A4 n4 c4) (noCol k) rfl (OW.out.below (by (repeat' (first | (with_reducible first | exact Below.refl _ _ | assumption | refine below_ext _ ?_ ?_ | refine Below.alloc ?_ ?_ _ | refine Below.drew ?_ | refine below_drewN ?_ _ | refine le_drewN _ ?_ | refine Below.setCell ?_ ?_ _ | exact Nat.le_refl _ | refine le_ext _ ?_ | refine le_alloc _ ?_ | refine le_setCell _ _ ?_ | refine le_drew ?_) | omega | (simp; done) | (simp; omega))))) (-1) _ _ rfl (by simp [go_sem]) NL (by simp; omega) ?_; intro v7 w7 hown7 hb7 hat7 hgr7; obtain ⟨A7, n7, c7, rfl⟩ := own_slice hown7; have O7 := hide hown7; have BK7 : Hid (w7.heap[w.heap.size]? = wr.heap[w.heap.size]?) := hide ((hb7.block _ (by omega)).trans ((show Below wr.heap.size wr _ from (by (repeat' (first | (with_reducible first | exact Below.refl _ _ | assumption | refine below_ext _ ?_ ?_ | refine Below.alloc ?_ ?_ _ | refine Below.drew ?_ | refine below_drewN ?_ _ | refine le_drewN _ ?_ | refine Below.setCell ?_ ?_ _ | exact Nat.le_refl _ | refine le_ext _ ?_ | refine le_alloc _ ?_ | refine le_setCell _ _ ?_ | refine le_drew ?_) | omega | (simp; done) | (simp; omega))))).block _ (by omega))); have R7 := hide (HR.out.block BK7.out); have cl7 := (World.cell?_of_block BK7.out).trans hcol; have fr7 := R7.out.frozen 1; have B7 := hide (Below.trans (Below.mono (show Below wr.heap.size wr _ from (by (repeat' (first | (with_reducible first | exact Below.refl _ _ | assumption | refine below_ext _ ?_ ?_ | refine Below.alloc ?_ ?_ _ | refine Below.drew ?_ | refine below_drewN ?_ _ | refine le_drewN _ ?_ | refine Below.setCell ?_ ?_ _ | exact Nat.le_refl _ | refine le_ext _ ?_ | refine le_alloc _ ?_ | refine le_setCell _ _ ?_ | refine le_drew ?_) | omega | (simp; done) | (simp; omega))))) (show w.heap.size + 1 ≤ wr.heap.size by omega)) hb7); have LT7 := hide O7.out.lt; clear hown7 hat7 hgr7 hb7)
      refine ⟨⟨k + 1, by omega, by go_num, .slice A7 n7 c7, ?_, ?_, ?_⟩, by simp [intOf]; omega⟩
      · refine (R7.out.set (i := 1) (by omega) _).congr fun j hj => ?_
        by_cases e1 : j = 1
        · rw [if_pos e1, if_neg (by omega)]
        · rw [if_neg e1, if_pos (show j = 0 by omega), if_pos (show j = 0 by omega)]
      · rw [NX.out]
        exact own_block O7.out fun q hq => Below.heap_setCell _ _ _ _ (by have := LT7.out q hq; show q ≠ w.heap.size; omega)
      · exact hbel.trans ((B7.out.mono (by omega)).trans (show Below w.heap.size w7 _ from (by (repeat' (first | (with_reducible first | exact Below.refl _ _ | assumption | refine below_ext _ ?_ ?_ | refine Below.alloc ?_ ?_ _ | refine Below.drew ?_ | refine below_drewN ?_ _ | refine le_drewN _ ?_ | refine Below.setCell ?_ ?_ _ | exact Nat.le_refl _ | refine le_ext _ ?_ | refine le_alloc _ ?_ | refine le_setCell _ _ ?_ | refine le_drew ?_) | omega | (simp; done) | (simp; omega))))))
    · have ek : k = n := by omega
      subst ek
      have n4k : n4 = k := by rw [← hown.ints.1, noCol_len]
      subst n4k
      obtain ⟨cb, rfl, hcb, _, hnc, hcm, hca⟩ := hown.col h0
      have EXk := hide (EX.out c4 cb wr hnc (by omega) hbel hca hl hcol)
      clear EX hown OW hca
      go_wp2_with fail
      refine EXk.out.mono ?_
      rintro e w3 ⟨rfl, ca3, F3⟩
      have cl3 := (F3.cell (j := 1) lsb (by omega)).trans hcol
      have CA3 := hide (ca3.own (base := w.heap.size) (by omega) LL.out hcm)
      have B3 := hide (hbel.trans (F3.below (B := w.heap.size) (by omega) hsz))
      clear ca3 F3
      go_wp2_with fail
      go_ret
      exact ⟨_, rfl, CA3.out, ext_mk B3.out⟩
end Go.Proofs.YtkkmioffclpmfaaGreat
/- The library's Repeat of one number. -/
set_option linter.unusedVariables false
set_option linter.unusedSimpArgs false
namespace Go.Proofs.YtkkmioffclpmfaaGreat
open Go.RowKit

theorem splice_len {L cs : List Value} {n k q : Nat} (hL : L.length = n) (hc : cs.length = q) (h : k + q ≤ n) : (splice L k cs).length = n := by rw [length_splice _ _ _ (by omega), hL]
theorem splice_fill {L : List Value} {v : Value} {n k q : Nat} (hL : L.length = n) (hk : L.take k = List.replicate k v) (h : k + q ≤ n) : (splice L k (List.replicate q v)).take (k + q) = List.replicate (k + q) v := by
  unfold splice
  rw [hk, List.length_replicate, ← List.append_assoc, List.replicate_append_replicate, List.take_append_of_le_length (by rw [List.length_replicate]; exact Nat.le_refl _), List.take_of_length_le (by rw [List.length_replicate]; exact Nat.le_refl _)]
theorem repInfo : (Tryz.prog.info? 3).map (fun i => (i.zero, i.size, i.bytes)) = some (some (.int .i64 0), 1, 8) := by kernel_rfl
set_option maxRecDepth 20000 in
set_option maxHeartbeats 2000000 in
theorem rep_any (x : Int) (b c n : Nat) (w : World) (h0 : 0 < n) (hn : n ≤ 1000000) (hx : w.cell? ⟨b, 0, none⟩ = some (.int .i64 x)) :
    Calls Tryz.prog 113 #[.slice (some ⟨b, 0, none⟩) 1 c, .int .i64 n] w fun e w' => ∃ g, e = .returned (.slice (some ⟨g, 0, none⟩) n n) ∧ w.heap.size ≤ g ∧ ColAt w' g n (List.replicate n x) ∧ ∃ y, w' = ext w y := by
  have lb := World.block_lt_of_cell? w _ hx
  have MU : Hid (∀ W : World, Calls Tryz.prog 150 #[.int .u64 1, .int .u64 n] W fun e w' => e = .returned (.tuple #[.int .u64 0, .int .u64 n]) ∧ w' = W) := hide (fun W => by
    have h := Any.bits_Mul Tryz.mulB 1 n (by omega) (by omega) W
    rw [show 1 * n / 18446744073709551616 = 0 by omega, show 1 * n % 18446744073709551616 = n by omega] at h
    exact h)
  obtain ⟨i0, hi, hz0, hz1, hz2⟩ := info_parts repInfo
  have hmk : ∀ w : World, (Instr.makeSlice 25 (.int .i64 (n : Int)) (.int .i64 (n : Int))).run Tryz.prog w = .ok (.slice (some ⟨w.heap.size, 0, none⟩) n n) (w.alloc (.cells (madeCells #[.int .i64 0] n) 3)) := by
    have := fun w => make_row (P := Tryz.prog) 25 3 i0 _ Tryz.underlying25 hi hz0 n n (Nat.le_refl _) (by rw [hz2]; omega) (by omega) w
    rw [hz1, Nat.mul_one] at this; exact this
  clear hi hz0 hz1 hz2
  have w1 : IntKind.u64.wrap (n : Int) = (n : Int) := by rw [IntKind.wrap_u64]; omega
  have w2 : IntKind.i64.wrap (n : Int) = (n : Int) := IntWalk.i64_in _ (by omega)
  have d1 : decide ((n : Int) < 0) = false := decide_eq_false (by omega)
  have d2 : decide ((9223372036854775807 : Int) < (n : Int)) = false := decide_eq_false (by omega)
  obtain ⟨L0, hL0⟩ : ∃ L : List Value, L = (madeCells #[.int .i64 0] n).toList := ⟨_, rfl⟩
  have LL0 : L0.length = n := by rw [hL0, Array.length_toList, size_madeCells]; first | done | simp
  have HA : Hid (∀ W : World, (W.alloc (.cells (madeCells #[.int .i64 0] n) 3)).heap[W.heap.size]? = some (.cells L0.toArray 3 (0, 0))) := hide (fun W => by rw [hL0, Array.toArray_toList]; exact heap_alloc_new W _)
  clear hL0
  go_enter Tryz.func113, Tryz.ntmps113
  go_wp2_with fail
  refine (MU.out _).mono ?_
  rintro e w' ⟨rfl, hw⟩
  have hw := hw.symm
  subst hw
  have hsz : (Tryz.prog.info? 3).map (·.size) = some 1 := by kernel_rfl
  have m1 : [Value.int .i64 x].length = Nat.min 1 n := by show 1 = min 1 n; omega
  have f1 : 0 + [Value.int .i64 x].length ≤ L0.length := by rw [LL0]; show 0 + 1 ≤ n; omega
  have o1 : ∀ v ∈ [Value.int .i64 x], v.oneCell' = true := by intro v hv; rw [List.mem_singleton.1 hv]; rfl
  have HS : ∀ W : World, Below w.heap.size w W → ∀ j v, [Value.int .i64 x][j]? = some v → W.cell? ((⟨b, 0, none⟩ : Addr).add j) = some v := fun W hb j v hv => by
    match j, hv with
    | 0, hv => injection hv with hv; rw [← hv]; exact (hb.cell (p := ⟨b, 0, none⟩) lb).trans hx
  have M1 := hide m1
  have F1 := hide f1
  have O1 := hide o1
  have HS1 := hide HS
  clear m1 f1 o1 HS
  obtain ⟨X1, hX1⟩ : ∃ X1, X1 = [Value.int .i64 x] := ⟨_, rfl⟩
  rw [← hX1] at M1 F1 O1 HS1
  have LX : X1.length = 1 := by rw [hX1]; rfl
  have SP1 : Hid ((splice L0 0 X1).take 1 = List.replicate 1 (Value.int .i64 x)) := hide (by rw [hX1]; exact splice_fill (L := L0) (k := 0) (q := 1) LL0 rfl (by omega))
  have SL1 : Hid ((splice L0 0 X1).length = n) := hide (splice_len LL0 LX (by omega))
  clear hX1
  go_wp2_with (refine wpList_copy_splice rfl _ _ 25 25 rfl 3 Tryz.underlying25 hsz (some ⟨w.heap.size, 0, none⟩) (some ⟨b, 0, none⟩) n n 1 c rfl rfl w.heap.size 0 L0 3 (HA.out w) X1 M1.out (fun _ => ⟨rfl, ⟨b, 0, none⟩, rfl, HS1.out _ (by (repeat' (first | (with_reducible first | exact Below.refl _ _ | assumption | refine below_ext _ ?_ ?_ | refine Below.alloc ?_ ?_ _ | refine Below.drew ?_ | refine below_drewN ?_ _ | refine le_drewN _ ?_ | refine Below.setCell ?_ ?_ _ | exact Nat.le_refl _ | refine le_ext _ ?_ | refine le_alloc _ ?_ | refine le_setCell _ _ ?_ | refine le_drew ?_) | omega | (simp; done) | (simp; omega))))⟩) F1.out O1.out w.heap.size w (by (repeat' (first | (with_reducible first | exact Below.refl _ _ | assumption | refine below_ext _ ?_ ?_ | refine Below.alloc ?_ ?_ _ | refine Below.drew ?_ | refine below_drewN ?_ _ | refine le_drewN _ ?_ | refine Below.setCell ?_ ?_ _ | exact Nat.le_refl _ | refine le_ext _ ?_ | refine le_alloc _ ?_ | refine le_setCell _ _ ?_ | refine le_drew ?_) | omega | (simp; done) | (simp; omega)))) (Nat.le_refl _) ?_; intro w3 hg3 hb3)
  have HG3 := hide hg3.out
  have SZ3 := hb3.size
  clear hg3 HA F1 O1 M1 HS1 MU hmk
  go_loopw [8] (fun u8 wr => ∃ k : Nat, 1 ≤ k ∧ k ≤ n ∧ u8 = .int .i64 k ∧ ∃ L : List Value, L.length = n ∧ L.take k = List.replicate k (Value.int .i64 x) ∧ Hid (wr.heap[w.heap.size]? = some (.cells L.toArray 3 (0, 0))) ∧ Below w.heap.size w wr) (fun u8 _ => n - (intOf u8).toNat)
  case atStart => exact ⟨1, Nat.le_refl _, by omega, by go_num, _, SL1.out, SP1.out, HG3, hb3⟩
  case round =>
    obtain ⟨k, hk1, hk2, rfl, L, hL, htk, HG, hbel⟩ := hrel
    have HLL := hide hL
    have HTK := hide htk
    have hlt0 : w.heap.size < wr.heap.size := heap_lt HG.out
    clear hL htk SL1 SP1 HG3
    by_cases hlt : k < n
    · obtain ⟨q, hq⟩ : ∃ q, q = Nat.min k (n - k) := ⟨_, rfl⟩
      have hq1 : q ≤ k := by rw [hq]; exact Nat.min_le_left _ _
      have hq2 : q ≤ n - k := by rw [hq]; exact Nat.min_le_right _ _
      have hq3 : 1 ≤ q := by rw [hq]; show 1 ≤ min k (n - k); omega
      obtain ⟨X, hX⟩ : ∃ X, X = List.replicate q (Value.int .i64 x) := ⟨_, rfl⟩
      have LX : X.length = q := by rw [hX, List.length_replicate]
      have M1 : Hid (X.length = Nat.min k (n - k)) := hide (by rw [LX, hq])
      have F1 : Hid (k + X.length ≤ L.length) := hide (by rw [LX, HLL.out]; omega)
      have O1 : Hid (∀ v ∈ X, v.oneCell' = true) := hide (fun v hv => by rw [hX] at hv; rw [(List.mem_replicate.1 hv).2]; rfl)
      have HS1 : Hid (∀ W : World, W.heap[w.heap.size]? = wr.heap[w.heap.size]? → ∀ j v, X[j]? = some v → W.cell? ((⟨w.heap.size, 0, none⟩ : Addr).add j) = some v) := hide (fun W hW j v hv => by
        have hj : j < q := by rw [← LX]; exact (List.getElem?_eq_some_iff.1 hv).1
        rw [hX, List.getElem?_replicate, if_pos hj] at hv
        have h1 : L[j]? = some v := by
          have h2 : (L.take k)[j]? = some v := by rw [HTK.out, List.getElem?_replicate, if_pos (by omega)]; exact hv
          rw [List.getElem?_take, if_pos (by omega)] at h2
          exact h2
        rw [show (⟨w.heap.size, 0, none⟩ : Addr).add j = ⟨w.heap.size, j, none⟩ by simp [Addr.add]; exact fun h => h.symm, heap_cell (hW.trans HG.out)]
        show L.toArray[j]? = some v
        rw [List.getElem?_toArray]; exact h1)
      have NL : Hid ((splice L k X).length = n) := hide (splice_len HLL.out LX (by omega))
      have NT : Hid ((splice L k X).take (k + q) = List.replicate (k + q) (Value.int .i64 x)) := hide (by rw [hX]; exact splice_fill HLL.out HTK.out (by omega))
      have hsz : (Tryz.prog.info? 3).map (·.size) = some 1 := by kernel_rfl
      have w3 : IntKind.i64.wrap ((k : Int) + (q : Int)) = (k : Int) + (q : Int) := IntWalk.i64_in _ (by omega)
      have r1 : (0 : Int) ≤ (k : Int) := by omega
      have r2 : (k : Int) ≤ (n : Int) := by omega
      have r3 : ¬ n = k := by omega
      have dl : decide ((k : Int) < (n : Int)) = true := decide_eq_true (by omega)
      clear hX hq
      go_wp2_with fail
      go_region_held3 (fun W => True) (exact trivial) (first | (refine step_copy_splice (by rfl) (.tmp 41) (.tmp 44) 25 25 (by rfl) 3 Tryz.underlying25 hsz (some ⟨w.heap.size, k, none⟩) (some ⟨w.heap.size, 0, none⟩) (n - k) (n - k) k n (by rfl) (by rfl) w.heap.size k L 3 HG.out X M1.out (fun _ => ⟨rfl, ⟨w.heap.size, 0, none⟩, rfl, HS1.out _ rfl⟩) F1.out O1.out w.heap.size w (Below.trans hbel (by (repeat' (first | (with_reducible first | exact Below.refl _ _ | assumption | refine below_ext _ ?_ ?_ | refine Below.alloc ?_ ?_ _ | refine Below.drew ?_ | refine below_drewN ?_ _ | refine le_drewN _ ?_ | refine Below.setCell ?_ ?_ _ | exact Nat.le_refl _ | refine le_ext _ ?_ | refine le_alloc _ ?_ | refine le_setCell _ _ ?_ | refine le_drew ?_) | omega | (simp; done) | (simp; omega))))) (Nat.le_refl _) ?_; intro w3 hg3 hb3))
      all_goals
        have HG3 := hide hg3.out
        clear hg3
        go_wp2_with fail
        exact ⟨⟨k + q, by omega, by omega, by go_num, _, NL.out, NT.out, HG3, hb3⟩, by simp [intOf]; omega⟩
    · have ek : k = n := by omega
      subst ek
      have dl : decide ((k : Int) < (k : Int)) = false := decide_eq_false (by omega)
      go_wp2_with fail
      go_ret
      refine ⟨w.heap.size, rfl, Nat.le_refl _, ⟨by rw [List.length_replicate]; exact Nat.le_refl _, fun j => .int .i64 x, ⟨L.toArray, HG.out, by simp [HLL.out], fun j hj => ?_⟩, fun i hi => ?_⟩, ext_mk hbel⟩
      · have h2 : (L.take k)[j]? = some (.int .i64 x) := by rw [HTK.out, List.getElem?_replicate, if_pos hj]
        rw [List.getElem?_take, if_pos hj] at h2
        rw [List.getElem?_toArray]; exact h2
      · rw [List.length_replicate] at hi
        rw [gi_lt (by rw [List.length_replicate]; exact hi), List.getElem_replicate]
end Go.Proofs.YtkkmioffclpmfaaGreat
