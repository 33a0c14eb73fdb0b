
/- Both DecodeRatPoint. -/
import Derived.Test.YtlggmjofglmjcaaDoorDecS
set_option linter.unusedVariables false
set_option linter.unusedSimpArgs false
namespace Go.Proofs.YtlggmjofglmjcaaDoor
open Go.RowKit

theorem decP_yes {l : List UInt8} {x : Int × Int × Bool} {y : Int × Int × Bool} (hx : decR (Lib.cut l [32]).1 = x) (hy : decR (Lib.cut l [32]).2.1 = y) (h1 : x.2.2 = true) (h2 : y.2.2 = true) : decP l = ((x.1, x.2.1, y.1, y.2.1), true) := by
  unfold decP
  rw [hx, hy, if_pos ⟨h1, h2⟩]
theorem decP_no {l : List UInt8} {x : Int × Int × Bool} {y : Int × Int × Bool} (hx : decR (Lib.cut l [32]).1 = x) (hy : decR (Lib.cut l [32]).2.1 = y) (h : ¬ (x.2.2 = true ∧ y.2.2 = true)) : decP l = ((0, 0, 0, 0), false) := by
  unfold decP
  rw [hx, hy, if_neg h]
set_option maxHeartbeats 4000000 in
theorem iDecP_any (l : List UInt8) (w : World) (hl : l.length ≤ 2000000) (ht : Tab w) (hE : Errs w) (hM : MaxL w) :
    Calls Tryd.prog 20 #[.string (bS l)] w fun e w' => e = .returned (.tuple #[.agg #[.int .i64 (decP l).1.1, .int .i64 (decP l).1.2.1, .int .i64 (decP l).1.2.2.1, .int .i64 (decP l).1.2.2.2], .bool (decP l).2]) ∧ ∃ x, w' = ext w x := by
  have CU := hide (fun (W : World) (hb : Below w.heap.size w W) => (show Calls Tryd.prog 45 #[.string (bS l), .string ⟨#[32]⟩] W fun e w' => e = .returned (.tuple #[.string (bS (Lib.cut l [32]).1), .string (bS (Lib.cut l [32]).2.1), .bool (Lib.cut l [32]).2.2]) ∧ ∃ x, w' = ext W x from cut_any l 32 W hl (hM.to hb)))
  have DR := hide (fun (m : List UInt8) (W : World) (hb : Below w.heap.size w W) (h : m.length ≤ l.length) => iDec_any m W (by omega) (ht.to hb) (hE.to hb) (hM.to hb))
  have lens := cut_len l 32
  have YES := hide (fun (x y : Int × Int × Bool) => @decP_yes l x y)
  have NO := hide (fun (x y : Int × Int × Bool) => @decP_no l x y)
  clear ht hE hM
  go_enter Tryd.func20, Tryd.ntmps20
  go_wp2_with fail
  refine (CU.out _ (by (repeat' (first | (with_reducible first | exact Below.refl _ _ | assumption | refine below_ext _ ?_ ?_ | refine Below.alloc ?_ ?_ _ | refine Below.drew ?_ | refine below_drewN ?_ _ | refine le_drewN _ ?_ | refine Below.setCell ?_ ?_ _ | exact Nat.le_refl _ | refine le_ext _ ?_ | refine le_alloc _ ?_ | refine le_setCell _ _ ?_ | refine le_drew ?_) | omega | (simp; done) | (simp; omega))))).mono ?_
  rintro e w1 ⟨rfl, hx⟩
  have B1 : Hid (Below w.heap.size w w1) := hide (((by (repeat' (first | (with_reducible first | exact Below.refl _ _ | assumption | refine below_ext _ ?_ ?_ | refine Below.alloc ?_ ?_ _ | refine Below.drew ?_ | refine below_drewN ?_ _ | refine le_drewN _ ?_ | refine Below.setCell ?_ ?_ _ | exact Nat.le_refl _ | refine le_ext _ ?_ | refine le_alloc _ ?_ | refine le_setCell _ _ ?_ | refine le_drew ?_) | omega | (simp; done) | (simp; omega)))) : Below w.heap.size w _).trans ((ext_bel hx).mono (by first | omega | (simp; done) | (simp; omega))))
  have R1 := hide (blk_keep (heap_alloc_new w _) (ext_bel hx))
  have z1 := B1.out.size
  clear hx CU
  generalize (Lib.cut l [32]).1 = la at *
  generalize (Lib.cut l [32]).2.1 = lb at *
  generalize (Lib.cut l [32]).2.2 = pb at *
  have DA := hide (fun W hb => DR.out la W hb lens.1)
  have DB := hide (fun W hb => DR.out lb W hb lens.2)
  have YES := hide (fun h1 h2 => YES.out _ _ rfl rfl h1 h2)
  have NO := hide (fun h => NO.out _ _ rfl rfl h)
  clear DR lens
  generalize decR la = xa at *
  generalize decR lb = xb at *
  obtain ⟨a, b, p⟩ := xa
  obtain ⟨c, d, q⟩ := xb
  go_wp2_with fail
  refine (DA.out _ B1.out).mono ?_
  rintro e w2 ⟨rfl, hx⟩
  have B2 := hide (B1.out.trans ((ext_bel hx).mono B1.out.size))
  have R2 := hide (blk_keep R1.out (ext_bel hx))
  have z2 := B2.out.size
  clear hx DA
  go_wp2_with fail
  refine (DB.out _ (B2.out.alloc (by first | omega | (simp; done) | (simp; omega)) _)).mono ?_
  rintro e w3 ⟨rfl, hx⟩
  have B3 : Hid (Below w.heap.size w w3) := hide ((B2.out.alloc (by first | omega | (simp; done) | (simp; omega)) _).trans ((ext_bel hx).mono (by first | omega | (simp; done) | (simp; omega))))
  have R3 := hide (blk_keep ((Below.heap_alloc _ _ _ (heap_lt R2.out)).trans R2.out) (ext_bel hx))
  have K3 := hide (blk_keep (heap_alloc_new w2 _) (ext_bel hx))
  have z3 := B3.out.size
  have k3 := heap_lt K3.out
  have k30 : _ = some (Value.int .i64 a) := heap_cell K3.out 0
  have k31 : _ = some (Value.int .i64 b) := heap_cell K3.out 1
  have R4 := hide ((Below.heap_alloc w3 (.cells #[.int .i64 c, .int .i64 d] 27) w.heap.size (heap_lt R3.out)).trans R3.out)
  have B4 : Hid (Below w.heap.size w (w3.alloc (.cells #[.int .i64 c, .int .i64 d] 27))) := hide (B3.out.alloc (by first | omega | (simp; done) | (simp; omega)) _)
  clear hx DB
  cases p
  · have HD := hide (NO.out (by simp))
    clear YES NO
    have f50 := heap_frozen R4.out 0
    have f51 := heap_frozen R4.out 1
    have f52 := heap_frozen R4.out 2
    have f53 := heap_frozen R4.out 3
    have E1 := hide (box4_1 R4.out (.int .i64 0))
    have E2 := hide (box4_2 E1.out (.int .i64 0))
    have E3 := hide (box4_3 E2.out (.int .i64 0))
    have E4 := hide (box4_4 E3.out (.int .i64 0))
    have p0 : _ = some (Value.int .i64 0) := heap_cell R4.out 0
    have p1 : _ = some (Value.int .i64 0) := heap_cell E1.out 1
    have p2 : _ = some (Value.int .i64 0) := heap_cell E2.out 2
    have p3 : _ = some (Value.int .i64 0) := heap_cell E3.out 3
    have r0 : _ = some (Value.int .i64 0) := heap_cell E1.out 0
    have r1 : _ = some (Value.int .i64 0) := heap_cell E2.out 1
    have r2 : _ = some (Value.int .i64 0) := heap_cell E3.out 2
    have r3 : _ = some (Value.int .i64 0) := heap_cell E4.out 3
    have z5 := B4.out.size
    clear E1 E2 E3 E4
    go_wp2_with fail
    ((try simp only [Exit.inBlock, Exit.then]); refine bodyPost_ret (by simp [results, Tryd.results20, go_sem, ↓IntWalk.iteOmega, r0, r1, r2, r3]; try rfl) rfl ?_)
    exact ⟨by rw [HD.out], ext_mk (by have := B4.out; exact (by (repeat' (first | (with_reducible first | exact Below.refl _ _ | assumption | refine below_ext _ ?_ ?_ | refine Below.alloc ?_ ?_ _ | refine Below.drew ?_ | refine below_drewN ?_ _ | refine le_drewN _ ?_ | refine Below.setCell ?_ ?_ _ | exact Nat.le_refl _ | refine le_ext _ ?_ | refine le_alloc _ ?_ | refine le_setCell _ _ ?_ | refine le_drew ?_) | omega | (simp; done) | (simp; omega)))))⟩
  cases q
  · have HD := hide (NO.out (by simp))
    clear YES NO
    have f50 := heap_frozen R4.out 0
    have f51 := heap_frozen R4.out 1
    have f52 := heap_frozen R4.out 2
    have f53 := heap_frozen R4.out 3
    have E1 := hide (box4_1 R4.out (.int .i64 0))
    have E2 := hide (box4_2 E1.out (.int .i64 0))
    have E3 := hide (box4_3 E2.out (.int .i64 0))
    have E4 := hide (box4_4 E3.out (.int .i64 0))
    have p0 : _ = some (Value.int .i64 0) := heap_cell R4.out 0
    have p1 : _ = some (Value.int .i64 0) := heap_cell E1.out 1
    have p2 : _ = some (Value.int .i64 0) := heap_cell E2.out 2
    have p3 : _ = some (Value.int .i64 0) := heap_cell E3.out 3
    have r0 : _ = some (Value.int .i64 0) := heap_cell E1.out 0
    have r1 : _ = some (Value.int .i64 0) := heap_cell E2.out 1
    have r2 : _ = some (Value.int .i64 0) := heap_cell E3.out 2
    have r3 : _ = some (Value.int .i64 0) := heap_cell E4.out 3
    have z5 := B4.out.size
    clear E1 E2 E3 E4
    go_wp2_with fail
    ((try simp only [Exit.inBlock, Exit.then]); refine bodyPost_ret (by simp [results, Tryd.results20, go_sem, ↓IntWalk.iteOmega, r0, r1, r2, r3]; try rfl) rfl ?_)
    exact ⟨by rw [HD.out], ext_mk (by have := B4.out; exact (by (repeat' (first | (with_reducible first | exact Below.refl _ _ | assumption | refine below_ext _ ?_ ?_ | refine Below.alloc ?_ ?_ _ | refine Below.drew ?_ | refine below_drewN ?_ _ | refine le_drewN _ ?_ | refine Below.setCell ?_ ?_ _ | exact Nat.le_refl _ | refine le_ext _ ?_ | refine le_alloc _ ?_ | refine le_setCell _ _ ?_ | refine le_drew ?_) | omega | (simp; done) | (simp; omega)))))⟩
  · have HD := hide (YES.out rfl rfl)
    clear YES NO
    have f50 := heap_frozen R4.out 0
    have f51 := heap_frozen R4.out 1
    have f52 := heap_frozen R4.out 2
    have f53 := heap_frozen R4.out 3
    have E1 := hide (box4_1 R4.out (.int .i64 a))
    have E2 := hide (box4_2 E1.out (.int .i64 b))
    have E3 := hide (box4_3 E2.out (.int .i64 c))
    have E4 := hide (box4_4 E3.out (.int .i64 d))
    have p0 : _ = some (Value.int .i64 0) := heap_cell R4.out 0
    have p1 : _ = some (Value.int .i64 0) := heap_cell E1.out 1
    have p2 : _ = some (Value.int .i64 0) := heap_cell E2.out 2
    have p3 : _ = some (Value.int .i64 0) := heap_cell E3.out 3
    have r0 : _ = some (Value.int .i64 a) := heap_cell E1.out 0
    have r1 : _ = some (Value.int .i64 b) := heap_cell E2.out 1
    have r2 : _ = some (Value.int .i64 c) := heap_cell E3.out 2
    have r3 : _ = some (Value.int .i64 d) := heap_cell E4.out 3
    have z5 := B4.out.size
    clear E1 E2 E3 E4
    go_wp2_with fail
    ((try simp only [Exit.inBlock, Exit.then]); refine bodyPost_ret (by simp [results, Tryd.results20, go_sem, ↓IntWalk.iteOmega, r0, r1, r2, r3]; try rfl) rfl ?_)
    exact ⟨by rw [HD.out], ext_mk (by have := B4.out; exact (by (repeat' (first | (with_reducible first | exact Below.refl _ _ | assumption | refine below_ext _ ?_ ?_ | refine Below.alloc ?_ ?_ _ | refine Below.drew ?_ | refine below_drewN ?_ _ | refine le_drewN _ ?_ | refine Below.setCell ?_ ?_ _ | exact Nat.le_refl _ | refine le_ext _ ?_ | refine le_alloc _ ?_ | refine le_setCell _ _ ?_ | refine le_drew ?_) | omega | (simp; done) | (simp; omega)))))⟩
set_option maxHeartbeats 4000000 in
theorem sDecP_any (l : List UInt8) (w : World) (hl : l.length ≤ 2000000) :
    Calls Tryd.prog 19 #[.string (bS l)] w fun e w' => e = .returned (.tuple #[.agg #[.int .i64 (decP l).1.1, .int .i64 (decP l).1.2.1, .int .i64 (decP l).1.2.2.1, .int .i64 (decP l).1.2.2.2], .bool (decP l).2]) ∧ ∃ x, w' = ext w x := by
  have SP := hide (fun (W : World) => (show Calls Tryd.prog 43 #[.string (bS l), .int .u8 32, .int .i64 1] W fun e w' => ∃ v, e = .returned v ∧ OwnS w' W.heap.size v (splN l 32 1) ∧ ∃ x, w' = ext W x from split_any l 32 1 W hl (by omega)))
  have DR := hide (fun (m : List UInt8) (W : World) (h : m.length ≤ l.length) => sDec_any m W (by omega))
  have e1 := splN_1 l 32
  have lens := cut_len l 32
  have YES := hide (fun (x y : Int × Int × Bool) => @decP_yes l x y)
  have NO := hide (fun (x y : Int × Int × Bool) => @decP_no l x y)
  go_enter Tryd.func19, Tryd.ntmps19
  go_wp2_with fail
  refine (SP.out _).mono ?_
  rintro e w1 ⟨v1, rfl, hown, hx⟩
  obtain ⟨A1, n1, c1, rfl⟩ := hown.slice
  obtain ⟨hn1, hc1, _, hs1⟩ := hown.strs
  have B1 : Hid (Below w.heap.size w w1) := hide (((by (repeat' (first | (with_reducible first | exact Below.refl _ _ | assumption | refine below_ext _ ?_ ?_ | refine Below.alloc ?_ ?_ _ | refine Below.drew ?_ | refine below_drewN ?_ _ | refine le_drewN _ ?_ | refine Below.setCell ?_ ?_ _ | exact Nat.le_refl _ | refine le_ext _ ?_ | refine le_alloc _ ?_ | refine le_setCell _ _ ?_ | refine le_drew ?_) | omega | (simp; done) | (simp; omega)))) : Below w.heap.size w _).trans ((ext_bel hx).mono (by first | omega | (simp; done) | (simp; omega))))
  have R1 := hide (blk_keep (heap_alloc_new w _) (ext_bel hx))
  have z1 := B1.out.size
  rw [e1] at hn1 hs1
  clear hown hx e1 SP
  by_cases hp : (Lib.cut l [32]).2.2 = true
  · rw [if_pos hp] at hn1 hs1
    have en : n1 = 2 := by rw [← hn1]; rfl
    subst en
    obtain ⟨b', o, rfl, hb, hcs⟩ := hs1 (by simp)
    have cs0 : w1.cell? ⟨b', o, none⟩ = some (.string (bS (Lib.cut l [32]).1)) := hcs 0 (by simp)
    have cs1 : w1.cell? ⟨b', o + 1, none⟩ = some (.string (bS (Lib.cut l [32]).2.1)) := hcs 1 (by simp)
    clear hcs hn1 hp hs1
    generalize (Lib.cut l [32]).1 = la at *
    generalize (Lib.cut l [32]).2.1 = lb at *
    have DA := hide (fun W => DR.out la W lens.1)
    have DB := hide (fun W => DR.out lb W lens.2)
    have YES := hide (fun h1 h2 => YES.out _ _ rfl rfl h1 h2)
    have NO := hide (fun h => NO.out _ _ rfl rfl h)
    clear DR lens
    generalize decR la = xa at *
    generalize decR lb = xb at *
    obtain ⟨a, b, p⟩ := xa
    obtain ⟨c, d, q⟩ := xb
    go_wp2_with fail
    refine (DA.out _).mono ?_
    rintro e w2 ⟨rfl, hx⟩
    have B2 := hide (B1.out.trans ((ext_bel hx).mono B1.out.size))
    have R2 := hide (blk_keep R1.out (ext_bel hx))
    have cs2 := ((ext_bel hx).cell (p := ⟨b', o + 1, none⟩) hb).trans cs1
    have z2 := B2.out.size
    have z2' := (ext_bel hx).size
    clear hx DA cs0 cs1
    go_wp2_with fail
    refine (DB.out _).mono ?_
    rintro e w3 ⟨rfl, hx⟩
    have B3 : Hid (Below w.heap.size w w3) := hide ((B2.out.alloc (by first | omega | (simp; done) | (simp; omega)) _).trans ((ext_bel hx).mono (by first | omega | (simp; done) | (simp; omega))))
    have R3 := hide (blk_keep ((Below.heap_alloc _ _ _ (heap_lt R2.out)).trans R2.out) (ext_bel hx))
    have K3 := hide (blk_keep (heap_alloc_new w2 _) (ext_bel hx))
    have z3 := B3.out.size
    have k3 := heap_lt K3.out
    have k30 : _ = some (Value.int .i64 a) := heap_cell K3.out 0
    have k31 : _ = some (Value.int .i64 b) := heap_cell K3.out 1
    have R4 := hide ((Below.heap_alloc w3 (.cells #[.int .i64 c, .int .i64 d] 27) w.heap.size (heap_lt R3.out)).trans R3.out)
    have B4 : Hid (Below w.heap.size w (w3.alloc (.cells #[.int .i64 c, .int .i64 d] 27))) := hide (B3.out.alloc (by first | omega | (simp; done) | (simp; omega)) _)
    clear hx DB
    cases p
    · have HD := hide (NO.out (by simp))
      clear YES NO
      have f50 := heap_frozen R4.out 0
      have f51 := heap_frozen R4.out 1
      have f52 := heap_frozen R4.out 2
      have f53 := heap_frozen R4.out 3
      have E1 := hide (box4_1 R4.out (.int .i64 0))
      have E2 := hide (box4_2 E1.out (.int .i64 0))
      have E3 := hide (box4_3 E2.out (.int .i64 0))
      have E4 := hide (box4_4 E3.out (.int .i64 0))
      have p0 : _ = some (Value.int .i64 0) := heap_cell R4.out 0
      have p1 : _ = some (Value.int .i64 0) := heap_cell E1.out 1
      have p2 : _ = some (Value.int .i64 0) := heap_cell E2.out 2
      have p3 : _ = some (Value.int .i64 0) := heap_cell E3.out 3
      have r0 : _ = some (Value.int .i64 0) := heap_cell E1.out 0
      have r1 : _ = some (Value.int .i64 0) := heap_cell E2.out 1
      have r2 : _ = some (Value.int .i64 0) := heap_cell E3.out 2
      have r3 : _ = some (Value.int .i64 0) := heap_cell E4.out 3
      have z5 := B4.out.size
      clear E1 E2 E3 E4
      go_wp2_with fail
      ((try simp only [Exit.inBlock, Exit.then]); refine bodyPost_ret (by simp [results, Tryd.results19, go_sem, ↓IntWalk.iteOmega, r0, r1, r2, r3]; try rfl) rfl ?_)
      exact ⟨by rw [HD.out], ext_mk (by have := B4.out; exact (by (repeat' (first | (with_reducible first | exact Below.refl _ _ | assumption | refine below_ext _ ?_ ?_ | refine Below.alloc ?_ ?_ _ | refine Below.drew ?_ | refine below_drewN ?_ _ | refine le_drewN _ ?_ | refine Below.setCell ?_ ?_ _ | exact Nat.le_refl _ | refine le_ext _ ?_ | refine le_alloc _ ?_ | refine le_setCell _ _ ?_ | refine le_drew ?_) | omega | (simp; done) | (simp; omega)))))⟩
    cases q
    · have HD := hide (NO.out (by simp))
      clear YES NO
      have f50 := heap_frozen R4.out 0
      have f51 := heap_frozen R4.out 1
      have f52 := heap_frozen R4.out 2
      have f53 := heap_frozen R4.out 3
      have E1 := hide (box4_1 R4.out (.int .i64 0))
      have E2 := hide (box4_2 E1.out (.int .i64 0))
      have E3 := hide (box4_3 E2.out (.int .i64 0))
      have E4 := hide (box4_4 E3.out (.int .i64 0))
      have p0 : _ = some (Value.int .i64 0) := heap_cell R4.out 0
      have p1 : _ = some (Value.int .i64 0) := heap_cell E1.out 1
      have p2 : _ = some (Value.int .i64 0) := heap_cell E2.out 2
      have p3 : _ = some (Value.int .i64 0) := heap_cell E3.out 3
      have r0 : _ = some (Value.int .i64 0) := heap_cell E1.out 0
      have r1 : _ = some (Value.int .i64 0) := heap_cell E2.out 1
      have r2 : _ = some (Value.int .i64 0) := heap_cell E3.out 2
      have r3 : _ = some (Value.int .i64 0) := heap_cell E4.out 3
      have z5 := B4.out.size
      clear E1 E2 E3 E4
      go_wp2_with fail
      ((try simp only [Exit.inBlock, Exit.then]); refine bodyPost_ret (by simp [results, Tryd.results19, go_sem, ↓IntWalk.iteOmega, r0, r1, r2, r3]; try rfl) rfl ?_)
      exact ⟨by rw [HD.out], ext_mk (by have := B4.out; exact (by (repeat' (first | (with_reducible first | exact Below.refl _ _ | assumption | refine below_ext _ ?_ ?_ | refine Below.alloc ?_ ?_ _ | refine Below.drew ?_ | refine below_drewN ?_ _ | refine le_drewN _ ?_ | refine Below.setCell ?_ ?_ _ | exact Nat.le_refl _ | refine le_ext _ ?_ | refine le_alloc _ ?_ | refine le_setCell _ _ ?_ | refine le_drew ?_) | omega | (simp; done) | (simp; omega)))))⟩
    · have HD := hide (YES.out rfl rfl)
      clear YES NO
      have f50 := heap_frozen R4.out 0
      have f51 := heap_frozen R4.out 1
      have f52 := heap_frozen R4.out 2
      have f53 := heap_frozen R4.out 3
      have E1 := hide (box4_1 R4.out (.int .i64 a))
      have E2 := hide (box4_2 E1.out (.int .i64 b))
      have E3 := hide (box4_3 E2.out (.int .i64 c))
      have E4 := hide (box4_4 E3.out (.int .i64 d))
      have p0 : _ = some (Value.int .i64 0) := heap_cell R4.out 0
      have p1 : _ = some (Value.int .i64 0) := heap_cell E1.out 1
      have p2 : _ = some (Value.int .i64 0) := heap_cell E2.out 2
      have p3 : _ = some (Value.int .i64 0) := heap_cell E3.out 3
      have r0 : _ = some (Value.int .i64 a) := heap_cell E1.out 0
      have r1 : _ = some (Value.int .i64 b) := heap_cell E2.out 1
      have r2 : _ = some (Value.int .i64 c) := heap_cell E3.out 2
      have r3 : _ = some (Value.int .i64 d) := heap_cell E4.out 3
      have z5 := B4.out.size
      clear E1 E2 E3 E4
      go_wp2_with fail
      ((try simp only [Exit.inBlock, Exit.then]); refine bodyPost_ret (by simp [results, Tryd.results19, go_sem, ↓IntWalk.iteOmega, r0, r1, r2, r3]; try rfl) rfl ?_)
      exact ⟨by rw [HD.out], ext_mk (by have := B4.out; exact (by (repeat' (first | (with_reducible first | exact Below.refl _ _ | assumption | refine below_ext _ ?_ ?_ | refine Below.alloc ?_ ?_ _ | refine Below.drew ?_ | refine below_drewN ?_ _ | refine le_drewN _ ?_ | refine Below.setCell ?_ ?_ _ | exact Nat.le_refl _ | refine le_ext _ ?_ | refine le_alloc _ ?_ | refine le_setCell _ _ ?_ | refine le_drew ?_) | omega | (simp; done) | (simp; omega)))))⟩
  · have hq : (Lib.cut l [32]).2.1 = [] := by
      rcases split_at l 32 with h | ⟨x, y, rfl, hx⟩
      · rw [cut_no h]
      · rw [cut_at hx] at hp; exact absurd rfl hp
    rw [if_neg hp] at hn1 hs1
    have en : n1 = 1 := by rw [← hn1]; rfl
    subst en
    have HD := hide (NO.out _ (0, 0, false) rfl (by rw [hq]; exact decR_nil) (by simp))
    clear YES NO DR hn1 hs1 hq hp lens
    have f50 := heap_frozen R1.out 0
    have f51 := heap_frozen R1.out 1
    have f52 := heap_frozen R1.out 2
    have f53 := heap_frozen R1.out 3
    have E1 := hide (box4_1 R1.out (.int .i64 0))
    have E2 := hide (box4_2 E1.out (.int .i64 0))
    have E3 := hide (box4_3 E2.out (.int .i64 0))
    have E4 := hide (box4_4 E3.out (.int .i64 0))
    have p0 : _ = some (Value.int .i64 0) := heap_cell R1.out 0
    have p1 : _ = some (Value.int .i64 0) := heap_cell E1.out 1
    have p2 : _ = some (Value.int .i64 0) := heap_cell E2.out 2
    have p3 : _ = some (Value.int .i64 0) := heap_cell E3.out 3
    have r0 : _ = some (Value.int .i64 0) := heap_cell E1.out 0
    have r1 : _ = some (Value.int .i64 0) := heap_cell E2.out 1
    have r2 : _ = some (Value.int .i64 0) := heap_cell E3.out 2
    have r3 : _ = some (Value.int .i64 0) := heap_cell E4.out 3
    have z5 := B1.out.size
    clear E1 E2 E3 E4
    go_wp2_with fail
    ((try simp only [Exit.inBlock, Exit.then]); refine bodyPost_ret (by simp [results, Tryd.results19, go_sem, ↓IntWalk.iteOmega, r0, r1, r2, r3]; try rfl) rfl ?_)
    exact ⟨by rw [HD.out], ext_mk (by have := B1.out; exact (by (repeat' (first | (with_reducible first | exact Below.refl _ _ | assumption | refine below_ext _ ?_ ?_ | refine Below.alloc ?_ ?_ _ | refine Below.drew ?_ | refine below_drewN ?_ _ | refine le_drewN _ ?_ | refine Below.setCell ?_ ?_ _ | exact Nat.le_refl _ | refine le_ext _ ?_ | refine le_alloc _ ?_ | refine le_setCell _ _ ?_ | refine le_drew ?_) | omega | (simp; done) | (simp; omega)))))⟩
end Go.Proofs.YtlggmjofglmjcaaDoor
