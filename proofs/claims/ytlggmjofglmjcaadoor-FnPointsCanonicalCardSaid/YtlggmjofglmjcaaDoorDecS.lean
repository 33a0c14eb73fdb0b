
/- Reading numbers and fractions: the reference's parseInt; both DecodeRat, both DecodeRatPoint. -/
import Derived.Test.YtlggmjofglmjcaaDoorStrs
import Derived.Test.YtlggmjofglmjcaaDoorLaid
import Derived.Test.YtlggmjofglmjcaaDoorLEnc
set_option linter.unusedVariables false
set_option linter.unusedSimpArgs false
namespace Go.Proofs.YtlggmjofglmjcaaDoor
open Go.RowKit

theorem parT_pw {k : Nat} (hk : k ≤ 12) (l : List UInt8) : -207000000000000 ≤ parT l k ∧ parT l k ≤ 207000000000000 := by
  have h := parT_bd l k
  have hp : (10 : Int) ^ k ≤ 10 ^ 12 := by
    have := Nat.pow_le_pow_right (show 0 < 10 by omega) hk
    exact_mod_cast this
  have h0 : (0 : Int) < 10 ^ k := Int.pow_pos (by omega)
  omega
theorem bS_at {l : List UInt8} {i : Nat} (h : i < l.length) (h' : i < (bS l).size) : (bS l)[i] = l.getD i 0 := by
  have := bS_get h
  rw [Array.getElem?_eq_getElem (show i < (bS l).data.size from h')] at this
  injection this
theorem min12 {i n : Nat} (h : ¬ (i < n ∧ i < 12)) (hi : i ≤ n) (hi2 : i ≤ 12) : i = min 12 n := by omega
set_option maxHeartbeats 2000000 in
theorem parse_any (l : List UInt8) (w : World) (hl : l.length ≤ 2000000) : Calls Tryd.prog 69 #[.string (bS l)] w fun e w' => e = .returned (.int .i64 (parI l)) ∧ ∃ x, w' = ext w x := by
  have SZ := bS_size l
  by_cases hs : l.head? = some 45
  · have h0 : 0 < l.length := by cases l with | nil => simp at hs | cons a r => simp
    have hP : Hid (parI l = -1 * parT (l.drop 1) (min 12 (l.drop 1).length)) := hide (by unfold parI; rw [if_pos hs]; omega)
    have h0' : 0 < (bS l).size := by omega
    have G0 := bS_at h0 h0'
    have d0 : (((bS l)[0].toNat : Int) == 45) = true := by
      rw [G0]
      cases l with
      | nil => simp at hs
      | cons a r => simp at hs; subst hs; rfl
    have EX : (bS l).extract 1 l.length = bS (l.drop 1) := by
      rw [bS_ext, List.take_of_length_le (by rw [List.length_drop]; exact Nat.le_refl _)]
    have SZ2 : (bS (l.drop 1)).size = l.length - 1 := by rw [bS_size, List.length_drop]
    have GI := hide (fun (i : Nat) (h : i < l.length - 1) (h' : i < (bS (l.drop 1)).size) => bS_at (l := l.drop 1) (by rw [List.length_drop]; exact h) h')
    have ML : (l.drop 1).length = l.length - 1 := List.length_drop
    rw [ML] at hP
    clear hs G0 ML
    generalize l.drop 1 = m at *
    go_enter Tryd.func69, Tryd.ntmps69
    go_wp2
    go_loopw [4, 5] (fun u4 u5 wr => ∃ i : Nat, i ≤ l.length - 1 ∧ i ≤ 12 ∧ u4 = .int .i64 (parT m i) ∧ u5 = .int .i64 i ∧ ∃ x, wr = ext w x) (fun _ u5 _ => 13 - (intOf u5).toNat)
    case atStart => exact ⟨0, Nat.zero_le _, Nat.zero_le _, by go_num, by go_num, ext_same _⟩
    case round =>
      obtain ⟨i, hi, hi2, rfl, rfl, x, rfl⟩ := hrel
      by_cases hc : i < l.length - 1 ∧ i < 12
      · obtain ⟨ha, hb⟩ := hc
        have h' : i < (bS m).size := by omega
        have G := GI.out i ha h'
        have pt := parT_pw hi2 m
        have bt : (m.getD i 0).toNat < 256 := UInt8.toNat_lt _
        have NX : Hid (parT m (i + 1) = 10 * parT m i + ((m.getD i 0).toNat : Int) - 48) := rfl
        rw [← G] at bt NX
        have k1 : IntKind.i64.wrap (10 * parT m i) = 10 * parT m i := IntWalk.i64_in _ (by omega)
        have k2 : IntKind.i64.wrap (10 * parT m i + ((bS m)[i].toNat : Int)) = 10 * parT m i + ((bS m)[i].toNat : Int) := IntWalk.i64_in _ (by omega)
        have k3 : IntKind.i64.wrap (10 * parT m i + ((bS m)[i].toNat : Int) - 48) = 10 * parT m i + ((bS m)[i].toNat : Int) - 48 := IntWalk.i64_in _ (by omega)
        have k4 : IntKind.i64.wrap ((bS m)[i].toNat : Int) = ((bS m)[i].toNat : Int) := IntWalk.i64_in _ (by omega)
        clear G
        go_wp2
        exact ⟨⟨i + 1, by omega, by omega, by rw [NX.out], by go_num, (ext_mk (by (repeat' (first | (with_reducible first | exact Below.refl _ _ | assumption | refine below_ext _ ?_ ?_ | refine Below.alloc ?_ ?_ _ | refine Below.drew ?_ | refine below_drewN ?_ _ | refine le_drewN _ ?_ | refine Below.setCell ?_ ?_ _ | exact Nat.le_refl _ | refine le_ext _ ?_ | refine le_alloc _ ?_ | refine le_setCell _ _ ?_ | refine le_drew ?_) | omega | (simp; done) | (simp; omega)))))⟩, by simp [intOf]; omega⟩
      · have ei := min12 hc hi hi2
        have HV : Hid (-1 * parT m i = parI l) := hide (by rw [hP.out, ei])
        have pt := parT_pw hi2 m
        have k1 : IntKind.i64.wrap (-1 * parT m i) = -1 * parT m i := IntWalk.i64_in _ (by omega)
        rcases Nat.lt_or_ge i (l.length - 1) with hh | hh
        · have e12 : ¬ i < 12 := fun e => hc ⟨hh, e⟩
          clear hc ei
          go_wp2
          go_ret
          exact ⟨ret_int (by rw [← HV.out]; omega), (ext_mk (by (repeat' (first | (with_reducible first | exact Below.refl _ _ | assumption | refine below_ext _ ?_ ?_ | refine Below.alloc ?_ ?_ _ | refine Below.drew ?_ | refine below_drewN ?_ _ | refine le_drewN _ ?_ | refine Below.setCell ?_ ?_ _ | exact Nat.le_refl _ | refine le_ext _ ?_ | refine le_alloc _ ?_ | refine le_setCell _ _ ?_ | refine le_drew ?_) | omega | (simp; done) | (simp; omega)))))⟩
        · have el : ¬ i < l.length - 1 := by omega
          clear hc ei
          go_wp2
          go_ret
          exact ⟨ret_int (by rw [← HV.out]; omega), (ext_mk (by (repeat' (first | (with_reducible first | exact Below.refl _ _ | assumption | refine below_ext _ ?_ ?_ | refine Below.alloc ?_ ?_ _ | refine Below.drew ?_ | refine below_drewN ?_ _ | refine le_drewN _ ?_ | refine Below.setCell ?_ ?_ _ | exact Nat.le_refl _ | refine le_ext _ ?_ | refine le_alloc _ ?_ | refine le_setCell _ _ ?_ | refine le_drew ?_) | omega | (simp; done) | (simp; omega)))))⟩
  · have hP : Hid (parI l = parT l (min 12 l.length)) := hide (by unfold parI; rw [if_neg hs])
    have GI := hide (fun (i : Nat) (h : i < l.length) (h' : i < (bS l).size) => bS_at (l := l) h h')
    have key : ∀ (K : Prop), ((l.length = 0) → K) → ((h0 : 0 < (bS l).size) → (((bS l)[0].toNat : Int) == 45) = false → K) → K := fun K ka kb => by
      rcases Nat.eq_zero_or_pos l.length with e | e
      · exact ka e
      · refine kb (by omega) ?_
        rw [bS_at e (by omega), beq_eq_false_iff_ne]
        intro hh
        apply hs
        cases l with
        | nil => simp at e
        | cons a r =>
          have : a.toNat = 45 := by have h2 : ((a.toNat : Nat) : Int) = 45 := hh; omega
          simp
          exact UInt8.toNat_inj.1 this
    clear hs
    refine key _ (fun he => ?_) (fun h0 d0 => ?_)
    all_goals
      clear key
      go_enter Tryd.func69, Tryd.ntmps69
      go_wp2
      go_loopw [4, 5] (fun u4 u5 wr => ∃ i : Nat, i ≤ l.length ∧ i ≤ 12 ∧ u4 = .int .i64 (parT l i) ∧ u5 = .int .i64 i ∧ ∃ x, wr = ext w x) (fun _ u5 _ => 13 - (intOf u5).toNat)
      case atStart => exact ⟨0, Nat.zero_le _, Nat.zero_le _, by go_num, by go_num, ext_same _⟩
      case round =>
        obtain ⟨i, hi, hi2, rfl, rfl, x, rfl⟩ := hrel
        by_cases hc : i < l.length ∧ i < 12
        · obtain ⟨ha, hb⟩ := hc
          have h' : i < (bS l).size := by omega
          have G := GI.out i ha h'
          have pt := parT_pw hi2 l
          have bt : (l.getD i 0).toNat < 256 := UInt8.toNat_lt _
          have NX : Hid (parT l (i + 1) = 10 * parT l i + ((l.getD i 0).toNat : Int) - 48) := rfl
          rw [← G] at bt NX
          have k1 : IntKind.i64.wrap (10 * parT l i) = 10 * parT l i := IntWalk.i64_in _ (by omega)
          have k2 : IntKind.i64.wrap (10 * parT l i + ((bS l)[i].toNat : Int)) = 10 * parT l i + ((bS l)[i].toNat : Int) := IntWalk.i64_in _ (by omega)
          have k3 : IntKind.i64.wrap (10 * parT l i + ((bS l)[i].toNat : Int) - 48) = 10 * parT l i + ((bS l)[i].toNat : Int) - 48 := IntWalk.i64_in _ (by omega)
          have k4 : IntKind.i64.wrap ((bS l)[i].toNat : Int) = ((bS l)[i].toNat : Int) := IntWalk.i64_in _ (by omega)
          clear G
          go_wp2
          all_goals exact ⟨⟨i + 1, by omega, by omega, by rw [NX.out], by go_num, (ext_mk (by (repeat' (first | (with_reducible first | exact Below.refl _ _ | assumption | refine below_ext _ ?_ ?_ | refine Below.alloc ?_ ?_ _ | refine Below.drew ?_ | refine below_drewN ?_ _ | refine le_drewN _ ?_ | refine Below.setCell ?_ ?_ _ | exact Nat.le_refl _ | refine le_ext _ ?_ | refine le_alloc _ ?_ | refine le_setCell _ _ ?_ | refine le_drew ?_) | omega | (simp; done) | (simp; omega)))))⟩, by simp [intOf]; omega⟩
        · have ei := min12 hc hi hi2
          have HV : Hid (1 * parT l i = parI l) := hide (by rw [hP.out, ei, Int.one_mul])
          have pt := parT_pw hi2 l
          have k1 : IntKind.i64.wrap (1 * parT l i) = 1 * parT l i := IntWalk.i64_in _ (by omega)
          rcases Nat.lt_or_ge i l.length with hh | hh
          · have e12 : ¬ i < 12 := fun e => hc ⟨hh, e⟩
            clear hc ei
            go_wp2
            all_goals go_ret
            all_goals exact ⟨ret_int (by rw [← HV.out]; omega), (ext_mk (by (repeat' (first | (with_reducible first | exact Below.refl _ _ | assumption | refine below_ext _ ?_ ?_ | refine Below.alloc ?_ ?_ _ | refine Below.drew ?_ | refine below_drewN ?_ _ | refine le_drewN _ ?_ | refine Below.setCell ?_ ?_ _ | exact Nat.le_refl _ | refine le_ext _ ?_ | refine le_alloc _ ?_ | refine le_setCell _ _ ?_ | refine le_drew ?_) | omega | (simp; done) | (simp; omega)))))⟩
          · have el : ¬ i < l.length := by omega
            clear hc ei
            go_wp2
            all_goals go_ret
            all_goals exact ⟨ret_int (by rw [← HV.out]; omega), (ext_mk (by (repeat' (first | (with_reducible first | exact Below.refl _ _ | assumption | refine below_ext _ ?_ ?_ | refine Below.alloc ?_ ?_ _ | refine Below.drew ?_ | refine below_drewN ?_ _ | refine le_drewN _ ?_ | refine Below.setCell ?_ ?_ _ | exact Nat.le_refl _ | refine le_ext _ ?_ | refine le_alloc _ ?_ | refine le_setCell _ _ ?_ | refine le_drew ?_) | omega | (simp; done) | (simp; omega)))))⟩
theorem splN_1 (l : List UInt8) (c : UInt8) : splN l c 1 = if (Lib.cut l [c]).2.2 = true then [(Lib.cut l [c]).1, (Lib.cut l [c]).2.1] else [(Lib.cut l [c]).1] := by
  rcases split_at l c with h | ⟨a, b, rfl, ha⟩
  · rw [splN_no h, cut_no h]; rfl
  · rw [splN_at ha, cut_at ha]; rfl
theorem cut_len (l : List UInt8) (c : UInt8) : (Lib.cut l [c]).1.length ≤ l.length ∧ (Lib.cut l [c]).2.1.length ≤ l.length := by
  rcases split_at l c with h | ⟨a, b, rfl, ha⟩
  · rw [cut_no h]; simp
  · rw [cut_at ha]; simp; omega
theorem box2Y {w : World} {g : Nat} {x y : Value} {T : TypeId} (h : w.heap[g]? = some (.cells #[x, y] T (0, 0))) (a : Value) : (w.setCell ⟨g, 1, none⟩ a).heap[g]? = some (.cells #[x, a] T (0, 0)) := by
  simp [World.setCell, Array.getElem?_modify, h]
theorem box2X {w : World} {g : Nat} {x y : Value} {T : TypeId} (h : w.heap[g]? = some (.cells #[x, y] T (0, 0))) (a : Value) : (w.setCell ⟨g, 0, none⟩ a).heap[g]? = some (.cells #[a, y] T (0, 0)) := by
  simp [World.setCell, Array.getElem?_modify, h]
/-- What the reference's DecodeRat has read. -/
def dsN (l : List UInt8) : Int := parI (Lib.cut l [47]).1
def dsD (l : List UInt8) : Int := if (Lib.cut l [47]).2.2 = true then parI (Lib.cut l [47]).2.1 else 1
theorem dS' (l : List UInt8) : decR l = if ratB (dsN l) (dsD l) = true ∧ ratT (dsN l) (dsD l) = l then (dsN l, dsD l, true) else (0, 0, false) := dS
theorem dsD_bd (l : List UInt8) : -1000000000000000 ≤ dsD l ∧ dsD l ≤ 1000000000000000 := by
  unfold dsD; split
  · exact parI_bd _
  · omega
theorem bS_ne (a b : List UInt8) : ((bS a).toList == (bS b).toList) = decide (a = b) := by
  rw [ByteArray.toList_eq, ByteArray.toList_eq, bS_list, bS_list]
  by_cases h : a = b
  · subst h; simp
  · rw [decide_eq_false h]; simpa using h
set_option maxHeartbeats 4000000 in
theorem sDec_any (l : List UInt8) (w : World) (hl : l.length ≤ 2000000) :
    Calls Tryd.prog 44 #[.string (bS l)] w fun e w' => e = .returned (.tuple #[.agg #[.int .i64 (decR l).1, .int .i64 (decR l).2.1], .bool (decR l).2.2]) ∧ ∃ x, w' = ext w x := by
  have SP := hide (fun (W : World) => (show Calls Tryd.prog 43 #[.string (bS l), .int .u8 47, .int .i64 1] W fun e w' => ∃ v, e = .returned v ∧ OwnS w' W.heap.size v (splN l 47 1) ∧ ∃ x, w' = ext W x from split_any l 47 1 W hl (by omega)))
  have PA := hide (fun (m : List UInt8) (W : World) (h : m.length ≤ l.length) => parse_any m W (by omega))
  have SR := hide srat_any
  have FR := hide (fun (W : World) (h : ratB (dsN l) (dsD l) = true) => fmtR_any (dsN l) (dsD l) W (by have := ratB_iff.1 h; omega) (by have := ratB_iff.1 h; omega))
  have e1 := splN_1 l 47
  have lens := cut_len l 47
  have HD := hide (dS' l)
  have HN : Hid (dsN l = parI (Lib.cut l [47]).1) := rfl
  have HDD : Hid (dsD l = if (Lib.cut l [47]).2.2 = true then parI (Lib.cut l [47]).2.1 else 1) := rfl
  go_enter Tryd.func44, Tryd.ntmps44
  go_wp2_with fail
  refine (SP.out _).mono ?_
  rintro e w1 ⟨v1, rfl, hown, hx⟩
  obtain ⟨A1, n1, c1, rfl⟩ := hown.slice
  obtain ⟨hn1, hc1, _, hs1⟩ := hown.strs
  have B1 := hide (ext_bel hx)
  have z1 := B1.out.size
  simp at z1
  rw [e1] at hn1 hs1
  clear hown hx e1 SP
  have R1 := hide (((B1.out.block w.heap.size (by first | omega | (simp; done) | (simp; omega)))).trans (heap_alloc_new w _))
  by_cases hp : (Lib.cut l [47]).2.2 = true
  · rw [if_pos hp] at hn1 hs1
    have en : n1 = 2 := by rw [← hn1]; rfl
    subst en
    obtain ⟨b, o, rfl, hb, hcs⟩ := hs1 (by simp)
    have cs0 : w1.cell? ⟨b, o, none⟩ = some (.string (bS (Lib.cut l [47]).1)) := hcs 0 (by simp)
    have cs1 : w1.cell? ⟨b, o + 1, none⟩ = some (.string (bS (Lib.cut l [47]).2.1)) := hcs 1 (by simp)
    rw [if_pos hp] at HDD
    rw [HN.out, HDD.out] at HD FR
    clear hcs hn1 hp HN HDD hs1
    generalize (Lib.cut l [47]).1 = la at *
    generalize (Lib.cut l [47]).2.1 = lb at *
    go_wp2_with fail
    refine (PA.out _ _ (by omega)).mono ?_
    rintro e w2 ⟨rfl, hx⟩
    have B2 := hide (ext_bel hx)
    have R2 := hide (blk_keep R1.out (ext_bel hx))
    have cs2 := (B2.out.cell (p := ⟨b, o + 1, none⟩) hb).trans cs1
    have z2 := B2.out.size
    clear hx cs0 cs1
    go_wp2_with fail
    refine (PA.out _ _ (by omega)).mono ?_
    rintro e w3 ⟨rfl, hx⟩
    have B3 := hide (ext_bel hx)
    have R3 := hide (blk_keep ((Below.heap_alloc _ _ _ (heap_lt R2.out)).trans R2.out) (ext_bel hx))
    have K3 := hide (blk_keep (heap_alloc_new w2 _) (ext_bel hx))
    have z3 := B3.out.size
    simp at z3
    have k30 := heap_cell K3.out 0
    have k31 := heap_cell K3.out 1
    have k32 := heap_frozen K3.out 1
    have k30 : _ = some (Value.int .i64 (parI la)) := k30
    have k31 : _ = some (Value.int .i64 1) := k31
    clear hx cs2
    generalize parI la = nn at *
    generalize parI lb = dd at *
    go_wp2_with fail
    have R3' := hide (blk_far R3.out (p := ⟨w2.heap.size, 1, none⟩) (by have := heap_lt R2.out; simp; omega) (.int .i64 dd))
    have K3' := hide (box2Y K3.out (.int .i64 dd))
    have BS : Hid (Below w.heap.size w (w3.setCell ⟨w2.heap.size, 1, none⟩ (.int .i64 dd))) := hide (((((((by (repeat' (first | (with_reducible first | exact Below.refl _ _ | assumption | refine below_ext _ ?_ ?_ | refine Below.alloc ?_ ?_ _ | refine Below.drew ?_ | refine below_drewN ?_ _ | refine le_drewN _ ?_ | refine Below.setCell ?_ ?_ _ | exact Nat.le_refl _ | refine le_ext _ ?_ | refine le_alloc _ ?_ | refine le_setCell _ _ ?_ | refine le_drew ?_) | omega | (simp; done) | (simp; omega)))) : Below w.heap.size w _).trans (B1.out.mono (by first | omega | (simp; done) | (simp; omega)))).trans (B2.out.mono (by first | omega | (simp; done) | (simp; omega)))).trans (((by (repeat' (first | (with_reducible first | exact Below.refl _ _ | assumption | refine below_ext _ ?_ ?_ | refine Below.alloc ?_ ?_ _ | refine Below.drew ?_ | refine below_drewN ?_ _ | refine le_drewN _ ?_ | refine Below.setCell ?_ ?_ _ | exact Nat.le_refl _ | refine le_ext _ ?_ | refine le_alloc _ ?_ | refine le_setCell _ _ ?_ | refine le_drew ?_) | omega | (simp; done) | (simp; omega)))) : Below w2.heap.size w2 _).mono (by first | omega | (simp; done) | (simp; omega)) |>.trans (B3.out.mono (by first | omega | (simp; done) | (simp; omega))))).setCell (by simp; omega) _))
    clear k30 k31 k32
    generalize w3.setCell ⟨w2.heap.size, 1, none⟩ (.int .i64 dd) = wa at *
    by_cases hv : ratB nn dd = true ∧ ratT nn dd = l
    · rw [if_pos hv] at HD
      obtain ⟨hv1, hv2⟩ := hv
      have SRk := hide (SR.out nn dd)
      have FRk := hide (fun W => FR.out W hv1)
      rw [hv1] at SRk
      rw [hv2] at FRk
      have dn : ((bS l).toList == (bS l).toList) = true := by rw [bS_ne]; simp
      clear SR FR hv1 hv2
      refine (SRk.out _).mono ?_
      rintro e w4 ⟨rfl, hx⟩
      have B4 := hide (BS.out.trans ((ext_bel hx).mono BS.out.size))
      have R4 := hide (blk_keep R3'.out (ext_bel hx))
      have K4 := hide (blk_keep K3'.out (ext_bel hx))
      have k40 : _ = some (Value.int .i64 nn) := heap_cell K4.out 0
      have k41 : _ = some (Value.int .i64 dd) := heap_cell K4.out 1
      clear hx SRk
      go_wp2_with fail
      refine (FRk.out _).mono ?_
      rintro e w5 ⟨rfl, hx⟩
      have B5 := hide (B4.out.trans ((ext_bel hx).mono B4.out.size))
      have R5 := hide (blk_keep R4.out (ext_bel hx))
      have K5 := hide (blk_keep K4.out (ext_bel hx))
      have z5 := B5.out.size
      have k50 : _ = some (Value.int .i64 nn) := heap_cell K5.out 0
      have k51 : _ = some (Value.int .i64 dd) := heap_cell K5.out 1
      have f50 := heap_frozen R5.out 0
      have f51 := heap_frozen R5.out 1
      have r50 : _ = some (Value.int .i64 0) := heap_cell R5.out 0
      have r51 : _ = some (Value.int .i64 0) := heap_cell R5.out 1
      have G1 := box2X R5.out (.int .i64 nn)
      have G2 := box2Y G1 (.int .i64 dd)
      have g1 : _ = some (Value.int .i64 0) := heap_cell G1 1
      have g2 : _ = some (Value.int .i64 nn) := heap_cell G1 0
      have g3 : _ = some (Value.int .i64 dd) := heap_cell G2 1
      clear hx k40 k41 FRk G1 G2
      go_wp2_with fail
      ((try simp only [Exit.inBlock, Exit.then]); refine bodyPost_ret (by simp [results, Tryd.results44, go_sem, ↓IntWalk.iteOmega, g2, g3]; try rfl) rfl ?_)
      exact ⟨by rw [HD.out], ext_mk (by have := B5.out; exact (by (repeat' (first | (with_reducible first | exact Below.refl _ _ | assumption | refine below_ext _ ?_ ?_ | refine Below.alloc ?_ ?_ _ | refine Below.drew ?_ | refine below_drewN ?_ _ | refine le_drewN _ ?_ | refine Below.setCell ?_ ?_ _ | exact Nat.le_refl _ | refine le_ext _ ?_ | refine le_alloc _ ?_ | refine le_setCell _ _ ?_ | refine le_drew ?_) | omega | (simp; done) | (simp; omega)))))⟩
    · rw [if_neg hv] at HD
      have SRk := hide (SR.out nn dd)
      cases hv1 : ratB nn dd
      · rw [hv1] at SRk
        clear SR FR hv hv1
        refine (SRk.out _).mono ?_
        rintro e w4 ⟨rfl, hx⟩
        have B4 := hide (BS.out.trans ((ext_bel hx).mono BS.out.size))
        have R4 := hide (blk_keep R3'.out (ext_bel hx))
        have f50 := heap_frozen R4.out 0
        have f51 := heap_frozen R4.out 1
        have r50 : _ = some (Value.int .i64 0) := heap_cell R4.out 0
        have r51 : _ = some (Value.int .i64 0) := heap_cell R4.out 1
        have G1 := box2X R4.out (.int .i64 0)
        have G2 := box2Y G1 (.int .i64 0)
        have g1 : _ = some (Value.int .i64 0) := heap_cell G1 1
        have g2 : _ = some (Value.int .i64 0) := heap_cell G1 0
        have g3 : _ = some (Value.int .i64 0) := heap_cell G2 1
        have z5 := B4.out.size
        clear hx SRk G1 G2
        go_wp2_with fail
        ((try simp only [Exit.inBlock, Exit.then]); refine bodyPost_ret (by simp [results, Tryd.results44, go_sem, ↓IntWalk.iteOmega, g2, g3]; try rfl) rfl ?_)
        exact ⟨by rw [HD.out], ext_mk (by have := B4.out; exact (by (repeat' (first | (with_reducible first | exact Below.refl _ _ | assumption | refine below_ext _ ?_ ?_ | refine Below.alloc ?_ ?_ _ | refine Below.drew ?_ | refine below_drewN ?_ _ | refine le_drewN _ ?_ | refine Below.setCell ?_ ?_ _ | exact Nat.le_refl _ | refine le_ext _ ?_ | refine le_alloc _ ?_ | refine le_setCell _ _ ?_ | refine le_drew ?_) | omega | (simp; done) | (simp; omega)))))⟩
      · have FRk := hide (fun W => FR.out W hv1)
        have dn : ((bS (ratT nn dd)).toList == (bS l).toList) = false := by rw [bS_ne, decide_eq_false (fun e => hv ⟨hv1, e⟩)]
        rw [hv1] at SRk
        clear SR FR hv hv1
        generalize bS (ratT nn dd) = S at *
        refine (SRk.out _).mono ?_
        rintro e w4 ⟨rfl, hx⟩
        have B4 := hide (BS.out.trans ((ext_bel hx).mono BS.out.size))
        have R4 := hide (blk_keep R3'.out (ext_bel hx))
        have K4 := hide (blk_keep K3'.out (ext_bel hx))
        have k40 : _ = some (Value.int .i64 nn) := heap_cell K4.out 0
        have k41 : _ = some (Value.int .i64 dd) := heap_cell K4.out 1
        clear hx SRk
        go_wp2_with fail
        refine (FRk.out _).mono ?_
        rintro e w5 ⟨rfl, hx⟩
        have B5 := hide (B4.out.trans ((ext_bel hx).mono B4.out.size))
        have R5 := hide (blk_keep R4.out (ext_bel hx))
        have z5 := B5.out.size
        have f50 := heap_frozen R5.out 0
        have f51 := heap_frozen R5.out 1
        have r50 : _ = some (Value.int .i64 0) := heap_cell R5.out 0
        have r51 : _ = some (Value.int .i64 0) := heap_cell R5.out 1
        have G1 := box2X R5.out (.int .i64 0)
        have G2 := box2Y G1 (.int .i64 0)
        have g1 : _ = some (Value.int .i64 0) := heap_cell G1 1
        have g2 : _ = some (Value.int .i64 0) := heap_cell G1 0
        have g3 : _ = some (Value.int .i64 0) := heap_cell G2 1
        clear hx k40 k41 FRk G1 G2
        go_wp2_with fail
        ((try simp only [Exit.inBlock, Exit.then]); refine bodyPost_ret (by simp [results, Tryd.results44, go_sem, ↓IntWalk.iteOmega, g2, g3]; try rfl) rfl ?_)
        exact ⟨by rw [HD.out], ext_mk (by have := B5.out; exact (by (repeat' (first | (with_reducible first | exact Below.refl _ _ | assumption | refine below_ext _ ?_ ?_ | refine Below.alloc ?_ ?_ _ | refine Below.drew ?_ | refine below_drewN ?_ _ | refine le_drewN _ ?_ | refine Below.setCell ?_ ?_ _ | exact Nat.le_refl _ | refine le_ext _ ?_ | refine le_alloc _ ?_ | refine le_setCell _ _ ?_ | refine le_drew ?_) | omega | (simp; done) | (simp; omega)))))⟩
  · rw [if_neg hp] at hn1 hs1
    have en : n1 = 1 := by rw [← hn1]; rfl
    subst en
    obtain ⟨b, o, rfl, hb, hcs⟩ := hs1 (by simp)
    have cs0 : w1.cell? ⟨b, o, none⟩ = some (.string (bS (Lib.cut l [47]).1)) := hcs 0 (by simp)
    rw [if_neg hp] at HDD
    rw [HN.out, HDD.out] at HD FR
    clear hcs hn1 hp HN HDD hs1
    generalize (Lib.cut l [47]).1 = la at *
    generalize (Lib.cut l [47]).2.1 = lb at *
    go_wp2_with fail
    refine (PA.out _ _ (by omega)).mono ?_
    rintro e w2 ⟨rfl, hx⟩
    have B2 := hide (ext_bel hx)
    have R2 := hide (blk_keep R1.out (ext_bel hx))
    have z2 := B2.out.size
    have R3' := hide ((Below.heap_alloc w2 (.cells #[.int .i64 (parI la), .int .i64 1] 27) w.heap.size (heap_lt R2.out)).trans R2.out)
    have K3' := hide (heap_alloc_new w2 (.cells #[.int .i64 (parI la), .int .i64 1] 27))
    have BS : Hid (Below w.heap.size w (w2.alloc (.cells #[.int .i64 (parI la), .int .i64 1] 27))) := hide ((((((by (repeat' (first | (with_reducible first | exact Below.refl _ _ | assumption | refine below_ext _ ?_ ?_ | refine Below.alloc ?_ ?_ _ | refine Below.drew ?_ | refine below_drewN ?_ _ | refine le_drewN _ ?_ | refine Below.setCell ?_ ?_ _ | exact Nat.le_refl _ | refine le_ext _ ?_ | refine le_alloc _ ?_ | refine le_setCell _ _ ?_ | refine le_drew ?_) | omega | (simp; done) | (simp; omega)))) : Below w.heap.size w _).trans (B1.out.mono (by first | omega | (simp; done) | (simp; omega)))).trans (B2.out.mono (by first | omega | (simp; done) | (simp; omega)))).alloc (by first | omega | (simp; done) | (simp; omega)) _))
    have k30 : _ = some (Value.int .i64 (parI la)) := heap_cell K3'.out 0
    have k31 : _ = some (Value.int .i64 1) := heap_cell K3'.out 1
    clear hx cs0
    generalize parI la = nn at *
    go_wp2_with fail
    clear k30 k31
    generalize w2.alloc (.cells #[.int .i64 nn, .int .i64 1] 27) = wa at *
    by_cases hv : ratB nn 1 = true ∧ ratT nn 1 = l
    · rw [if_pos hv] at HD
      obtain ⟨hv1, hv2⟩ := hv
      have SRk := hide (SR.out nn 1)
      have FRk := hide (fun W => FR.out W hv1)
      rw [hv1] at SRk
      rw [hv2] at FRk
      have dn : ((bS l).toList == (bS l).toList) = true := by rw [bS_ne]; simp
      clear SR FR hv1 hv2
      refine (SRk.out _).mono ?_
      rintro e w4 ⟨rfl, hx⟩
      have B4 := hide (BS.out.trans ((ext_bel hx).mono BS.out.size))
      have R4 := hide (blk_keep R3'.out (ext_bel hx))
      have K4 := hide (blk_keep K3'.out (ext_bel hx))
      have k40 : _ = some (Value.int .i64 nn) := heap_cell K4.out 0
      have k41 : _ = some (Value.int .i64 1) := heap_cell K4.out 1
      clear hx SRk
      go_wp2_with fail
      refine (FRk.out _).mono ?_
      rintro e w5 ⟨rfl, hx⟩
      have B5 := hide (B4.out.trans ((ext_bel hx).mono B4.out.size))
      have R5 := hide (blk_keep R4.out (ext_bel hx))
      have K5 := hide (blk_keep K4.out (ext_bel hx))
      have z5 := B5.out.size
      have k50 : _ = some (Value.int .i64 nn) := heap_cell K5.out 0
      have k51 : _ = some (Value.int .i64 1) := heap_cell K5.out 1
      have f50 := heap_frozen R5.out 0
      have f51 := heap_frozen R5.out 1
      have r50 : _ = some (Value.int .i64 0) := heap_cell R5.out 0
      have r51 : _ = some (Value.int .i64 0) := heap_cell R5.out 1
      have G1 := box2X R5.out (.int .i64 nn)
      have G2 := box2Y G1 (.int .i64 1)
      have g1 : _ = some (Value.int .i64 0) := heap_cell G1 1
      have g2 : _ = some (Value.int .i64 nn) := heap_cell G1 0
      have g3 : _ = some (Value.int .i64 1) := heap_cell G2 1
      clear hx k40 k41 FRk G1 G2
      go_wp2_with fail
      ((try simp only [Exit.inBlock, Exit.then]); refine bodyPost_ret (by simp [results, Tryd.results44, go_sem, ↓IntWalk.iteOmega, g2, g3]; try rfl) rfl ?_)
      exact ⟨by rw [HD.out], ext_mk (by have := B5.out; exact (by (repeat' (first | (with_reducible first | exact Below.refl _ _ | assumption | refine below_ext _ ?_ ?_ | refine Below.alloc ?_ ?_ _ | refine Below.drew ?_ | refine below_drewN ?_ _ | refine le_drewN _ ?_ | refine Below.setCell ?_ ?_ _ | exact Nat.le_refl _ | refine le_ext _ ?_ | refine le_alloc _ ?_ | refine le_setCell _ _ ?_ | refine le_drew ?_) | omega | (simp; done) | (simp; omega)))))⟩
    · rw [if_neg hv] at HD
      have SRk := hide (SR.out nn 1)
      cases hv1 : ratB nn 1
      · rw [hv1] at SRk
        clear SR FR hv hv1
        refine (SRk.out _).mono ?_
        rintro e w4 ⟨rfl, hx⟩
        have B4 := hide (BS.out.trans ((ext_bel hx).mono BS.out.size))
        have R4 := hide (blk_keep R3'.out (ext_bel hx))
        have f50 := heap_frozen R4.out 0
        have f51 := heap_frozen R4.out 1
        have r50 : _ = some (Value.int .i64 0) := heap_cell R4.out 0
        have r51 : _ = some (Value.int .i64 0) := heap_cell R4.out 1
        have G1 := box2X R4.out (.int .i64 0)
        have G2 := box2Y G1 (.int .i64 0)
        have g1 : _ = some (Value.int .i64 0) := heap_cell G1 1
        have g2 : _ = some (Value.int .i64 0) := heap_cell G1 0
        have g3 : _ = some (Value.int .i64 0) := heap_cell G2 1
        have z5 := B4.out.size
        clear hx SRk G1 G2
        go_wp2_with fail
        ((try simp only [Exit.inBlock, Exit.then]); refine bodyPost_ret (by simp [results, Tryd.results44, go_sem, ↓IntWalk.iteOmega, g2, g3]; try rfl) rfl ?_)
        exact ⟨by rw [HD.out], ext_mk (by have := B4.out; exact (by (repeat' (first | (with_reducible first | exact Below.refl _ _ | assumption | refine below_ext _ ?_ ?_ | refine Below.alloc ?_ ?_ _ | refine Below.drew ?_ | refine below_drewN ?_ _ | refine le_drewN _ ?_ | refine Below.setCell ?_ ?_ _ | exact Nat.le_refl _ | refine le_ext _ ?_ | refine le_alloc _ ?_ | refine le_setCell _ _ ?_ | refine le_drew ?_) | omega | (simp; done) | (simp; omega)))))⟩
      · have FRk := hide (fun W => FR.out W hv1)
        have dn : ((bS (ratT nn 1)).toList == (bS l).toList) = false := by rw [bS_ne, decide_eq_false (fun e => hv ⟨hv1, e⟩)]
        rw [hv1] at SRk
        clear SR FR hv hv1
        generalize bS (ratT nn 1) = S at *
        refine (SRk.out _).mono ?_
        rintro e w4 ⟨rfl, hx⟩
        have B4 := hide (BS.out.trans ((ext_bel hx).mono BS.out.size))
        have R4 := hide (blk_keep R3'.out (ext_bel hx))
        have K4 := hide (blk_keep K3'.out (ext_bel hx))
        have k40 : _ = some (Value.int .i64 nn) := heap_cell K4.out 0
        have k41 : _ = some (Value.int .i64 1) := heap_cell K4.out 1
        clear hx SRk
        go_wp2_with fail
        refine (FRk.out _).mono ?_
        rintro e w5 ⟨rfl, hx⟩
        have B5 := hide (B4.out.trans ((ext_bel hx).mono B4.out.size))
        have R5 := hide (blk_keep R4.out (ext_bel hx))
        have z5 := B5.out.size
        have f50 := heap_frozen R5.out 0
        have f51 := heap_frozen R5.out 1
        have r50 : _ = some (Value.int .i64 0) := heap_cell R5.out 0
        have r51 : _ = some (Value.int .i64 0) := heap_cell R5.out 1
        have G1 := box2X R5.out (.int .i64 0)
        have G2 := box2Y G1 (.int .i64 0)
        have g1 : _ = some (Value.int .i64 0) := heap_cell G1 1
        have g2 : _ = some (Value.int .i64 0) := heap_cell G1 0
        have g3 : _ = some (Value.int .i64 0) := heap_cell G2 1
        clear hx k40 k41 FRk G1 G2
        go_wp2_with fail
        ((try simp only [Exit.inBlock, Exit.then]); refine bodyPost_ret (by simp [results, Tryd.results44, go_sem, ↓IntWalk.iteOmega, g2, g3]; try rfl) rfl ?_)
        exact ⟨by rw [HD.out], ext_mk (by have := B5.out; exact (by (repeat' (first | (with_reducible first | exact Below.refl _ _ | assumption | refine below_ext _ ?_ ?_ | refine Below.alloc ?_ ?_ _ | refine Below.drew ?_ | refine below_drewN ?_ _ | refine le_drewN _ ?_ | refine Below.setCell ?_ ?_ _ | exact Nat.le_refl _ | refine le_ext _ ?_ | refine le_alloc _ ?_ | refine le_setCell _ _ ?_ | refine le_drew ?_) | omega | (simp; done) | (simp; omega)))))⟩
set_option maxHeartbeats 4000000 in
theorem iDec_any (l : List UInt8) (w : World) (hl : l.length ≤ 2000000) (ht : Tab w) (hE : Errs w) (hM : MaxL w) :
    Calls Tryd.prog 46 #[.string (bS l)] w fun e w' => e = .returned (.tuple #[.agg #[.int .i64 (decR l).1, .int .i64 (decR l).2.1], .bool (decR l).2.2]) ∧ ∃ x, w' = ext w x := by
  have CU := hide (fun (W : World) (hb : Below w.heap.size w W) => (show Calls Tryd.prog 45 #[.string (bS l), .string ⟨#[47]⟩] W fun e w' => e = .returned (.tuple #[.string (bS (Lib.cut l [47]).1), .string (bS (Lib.cut l [47]).2.1), .bool (Lib.cut l [47]).2.2]) ∧ ∃ x, w' = ext W x from cut_any l 47 W hl (hM.to hb)))
  have OK := hide (fun (m : List UInt8) (v : Int) (W : World) (h : m.length ≤ l.length) (h2 : Lib.atoiAll m = .ok v) => atoi_ok W (by omega) h2)
  have BAD := hide (fun (m : List UInt8) (W : World) (hb : Below w.heap.size w W) (h : m.length ≤ l.length) (h2 : ∀ v, Lib.atoiAll m ≠ .ok v) => atoi_bad W (by omega) h2 (hE.to hb))
  have EN := hide (fun (n d : Int) (W : World) (hb : Below w.heap.size w W) => iEnc_any n d W (ht.to hb))
  have lens := cut_len l 47
  have D1 := hide (@dI_1 l)
  have D2 := hide (@dI_2 l)
  have D3 := hide (fun (n d : Int) => @dI_3 l n d)
  clear ht hE hM
  go_enter Tryd.func46, Tryd.ntmps46
  go_wp2_with fail
  refine (CU.out _ (by (repeat' (first | (with_reducible first | exact Below.refl _ _ | assumption | refine below_ext _ ?_ ?_ | refine Below.alloc ?_ ?_ _ | refine Below.drew ?_ | refine below_drewN ?_ _ | refine le_drewN _ ?_ | refine Below.setCell ?_ ?_ _ | exact Nat.le_refl _ | refine le_ext _ ?_ | refine le_alloc _ ?_ | refine le_setCell _ _ ?_ | refine le_drew ?_) | omega | (simp; done) | (simp; omega))))).mono ?_
  rintro e w1 ⟨rfl, hx⟩
  have B1 : Hid (Below w.heap.size w w1) := hide (((by (repeat' (first | (with_reducible first | exact Below.refl _ _ | assumption | refine below_ext _ ?_ ?_ | refine Below.alloc ?_ ?_ _ | refine Below.drew ?_ | refine below_drewN ?_ _ | refine le_drewN _ ?_ | refine Below.setCell ?_ ?_ _ | exact Nat.le_refl _ | refine le_ext _ ?_ | refine le_alloc _ ?_ | refine le_setCell _ _ ?_ | refine le_drew ?_) | omega | (simp; done) | (simp; omega)))) : Below w.heap.size w _).trans ((ext_bel hx).mono (by first | omega | (simp; done) | (simp; omega))))
  have R1 := hide (blk_keep (heap_alloc_new w _) (ext_bel hx))
  have z1 := B1.out.size
  clear hx CU
  generalize (Lib.cut l [47]).1 = la at *
  generalize (Lib.cut l [47]).2.1 = lb at *
  generalize (Lib.cut l [47]).2.2 = pb at *
  by_cases ha : ∃ v, Lib.atoiAll la = .ok v
  · obtain ⟨nn, ha⟩ := ha
    have OKa := hide (fun (W : World) => OK.out la nn W lens.1 ha)
    have D3 := hide (fun (d : Int) h2 => D3.out nn d ha h2)
    clear D1
    go_wp2_with fail
    refine (OKa.out _).mono ?_
    rintro e w2 ⟨rfl, hx⟩
    have B2 : Hid (Below w.heap.size w w2) := hide (((B1.out.alloc (by first | omega | (simp; done) | (simp; omega)) _)).trans ((ext_bel hx).mono (by first | omega | (simp; done) | (simp; omega))))
    have R2 := hide (blk_keep ((Below.heap_alloc _ _ _ (heap_lt R1.out)).trans R1.out) (ext_bel hx))
    have K2 := hide (blk_keep (heap_alloc_new w1 _) (ext_bel hx))
    have z2 : w1.heap.size + 1 ≤ w2.heap.size := by have := (ext_bel hx).size; simpa using this
    have k20 : _ = some (Value.int .i64 0) := heap_cell K2.out 0
    have k21 : _ = some (Value.int .i64 1) := heap_cell K2.out 1
    have k22 := heap_frozen K2.out 0
    have k23 := heap_frozen K2.out 1
    have R3 := hide (blk_far R2.out (p := ⟨w1.heap.size, 0, none⟩) (by have := heap_lt R1.out; simp; omega) (.int .i64 nn))
    have K3 := hide (box2X K2.out (.int .i64 nn))
    have BS3 : Hid (Below w.heap.size w (w2.setCell ⟨w1.heap.size, 0, none⟩ (.int .i64 nn))) := hide (B2.out.setCell (by simp; omega) _)
    have k30 : _ = some (Value.int .i64 nn) := heap_cell K3.out 0
    have k31 : _ = some (Value.int .i64 1) := heap_cell K3.out 1
    clear hx OKa ha
    cases pb
    · have HD := hide (D3.out 1 (by rfl))
      clear D2 D3 OK BAD
      go_wp2_with fail
      clear k20 k21 k22 k23 k30 k31
      have R3' := R3
      have K3' := K3
      have BS := BS3
      clear R3 K3 BS3
      generalize w2.setCell ⟨w1.heap.size, 0, none⟩ (.int .i64 nn) = wa at *
      by_cases hv : ratE nn 1 = l
      · rw [if_pos hv] at HD
        have ENk := hide (fun (W : World) (hb : Below w.heap.size w W) => EN.out nn 1 W hb)
        rw [hv] at ENk
        have dn : ((bS l).toList == (bS l).toList) = true := by rw [bS_ne]; simp
        clear EN hv
        refine (ENk.out _ BS.out).mono ?_
        rintro e w5 ⟨rfl, hx⟩
        have B5 := hide (BS.out.trans ((ext_bel hx).mono BS.out.size))
        have R5 := hide (blk_keep R3'.out (ext_bel hx))
        have K5 := hide (blk_keep K3'.out (ext_bel hx))
        have z5 := B5.out.size
        have k50 : _ = some (Value.int .i64 nn) := heap_cell K5.out 0
        have k51 : _ = some (Value.int .i64 1) := heap_cell K5.out 1
        have f50 := heap_frozen R5.out 0
        have f51 := heap_frozen R5.out 1
        have r50 : _ = some (Value.int .i64 0) := heap_cell R5.out 0
        have r51 : _ = some (Value.int .i64 0) := heap_cell R5.out 1
        have G1 := box2X R5.out (.int .i64 nn)
        have G2 := box2Y G1 (.int .i64 1)
        have g1 : _ = some (Value.int .i64 0) := heap_cell G1 1
        have g2 : _ = some (Value.int .i64 nn) := heap_cell G1 0
        have g3 : _ = some (Value.int .i64 1) := heap_cell G2 1
        clear hx ENk G1 G2
        go_wp2_with fail
        ((try simp only [Exit.inBlock, Exit.then]); refine bodyPost_ret (by simp [results, Tryd.results46, go_sem, ↓IntWalk.iteOmega, g2, g3]; try rfl) rfl ?_)
        exact ⟨by rw [HD.out], ext_mk (by have := B5.out; exact (by (repeat' (first | (with_reducible first | exact Below.refl _ _ | assumption | refine below_ext _ ?_ ?_ | refine Below.alloc ?_ ?_ _ | refine Below.drew ?_ | refine below_drewN ?_ _ | refine le_drewN _ ?_ | refine Below.setCell ?_ ?_ _ | exact Nat.le_refl _ | refine le_ext _ ?_ | refine le_alloc _ ?_ | refine le_setCell _ _ ?_ | refine le_drew ?_) | omega | (simp; done) | (simp; omega)))))⟩
      · rw [if_neg hv] at HD
        have ENk := hide (fun (W : World) (hb : Below w.heap.size w W) => EN.out nn 1 W hb)
        have dn : ((bS (ratE nn 1)).toList == (bS l).toList) = false := by rw [bS_ne, decide_eq_false hv]
        clear EN hv
        generalize bS (ratE nn 1) = S at *
        refine (ENk.out _ BS.out).mono ?_
        rintro e w5 ⟨rfl, hx⟩
        have B5 := hide (BS.out.trans ((ext_bel hx).mono BS.out.size))
        have R5 := hide (blk_keep R3'.out (ext_bel hx))
        clear hx ENk
        have f50 := heap_frozen R5.out 0
        have f51 := heap_frozen R5.out 1
        have r50 : _ = some (Value.int .i64 0) := heap_cell R5.out 0
        have r51 : _ = some (Value.int .i64 0) := heap_cell R5.out 1
        have G1 := box2X R5.out (.int .i64 0)
        have G2 := box2Y G1 (.int .i64 0)
        have g1 : _ = some (Value.int .i64 0) := heap_cell G1 1
        have g2 : _ = some (Value.int .i64 0) := heap_cell G1 0
        have g3 : _ = some (Value.int .i64 0) := heap_cell G2 1
        have z5 := B5.out.size
        clear G1 G2
        go_wp2_with fail
        ((try simp only [Exit.inBlock, Exit.then]); refine bodyPost_ret (by simp [results, Tryd.results46, go_sem, ↓IntWalk.iteOmega, g2, g3]; try rfl) rfl ?_)
        exact ⟨by rw [HD.out], ext_mk (by have := B5.out; exact (by (repeat' (first | (with_reducible first | exact Below.refl _ _ | assumption | refine below_ext _ ?_ ?_ | refine Below.alloc ?_ ?_ _ | refine Below.drew ?_ | refine below_drewN ?_ _ | refine le_drewN _ ?_ | refine Below.setCell ?_ ?_ _ | exact Nat.le_refl _ | refine le_ext _ ?_ | refine le_alloc _ ?_ | refine le_setCell _ _ ?_ | refine le_drew ?_) | omega | (simp; done) | (simp; omega)))))⟩
    · by_cases hb : ∃ v, Lib.atoiAll lb = .ok v
      · obtain ⟨dd, hb⟩ := hb
        have HD := hide (D3.out dd (by simpa using hb))
        have OKb := hide (fun (W : World) => OK.out lb dd W lens.2 hb)
        clear D2 D3 OK BAD hb
        go_wp2_with fail
        clear k20 k21 k22 k23 k30 k31
        generalize w2.setCell ⟨w1.heap.size, 0, none⟩ (.int .i64 nn) = w3 at *
        refine (OKb.out _).mono ?_
        rintro e w4 ⟨rfl, hx⟩
        have R4 := hide (blk_keep R3.out (ext_bel hx))
        have K4 := hide (blk_keep K3.out (ext_bel hx))
        have B4 := hide (BS3.out.trans ((ext_bel hx).mono BS3.out.size))
        have z4 := B4.out.size
        have k40 : _ = some (Value.int .i64 nn) := heap_cell K4.out 0
        have k41 : _ = some (Value.int .i64 1) := heap_cell K4.out 1
        have k43 := heap_frozen K4.out 1
        have R3' := hide (blk_far R4.out (p := ⟨w1.heap.size, 1, none⟩) (by have := heap_lt R1.out; simp; omega) (.int .i64 dd))
        have K3' := hide (box2Y K4.out (.int .i64 dd))
        have BS : Hid (Below w.heap.size w (w4.setCell ⟨w1.heap.size, 1, none⟩ (.int .i64 dd))) := hide (B4.out.setCell (by simp; omega) _)
        clear hx OKb
        go_wp2_with fail
        clear k40 k41 k43
        generalize w4.setCell ⟨w1.heap.size, 1, none⟩ (.int .i64 dd) = wa at *
        by_cases hv : ratE nn dd = l
        · rw [if_pos hv] at HD
          have ENk := hide (fun (W : World) (hb : Below w.heap.size w W) => EN.out nn dd W hb)
          rw [hv] at ENk
          have dn : ((bS l).toList == (bS l).toList) = true := by rw [bS_ne]; simp
          clear EN hv
          refine (ENk.out _ BS.out).mono ?_
          rintro e w5 ⟨rfl, hx⟩
          have B5 := hide (BS.out.trans ((ext_bel hx).mono BS.out.size))
          have R5 := hide (blk_keep R3'.out (ext_bel hx))
          have K5 := hide (blk_keep K3'.out (ext_bel hx))
          have z5 := B5.out.size
          have k50 : _ = some (Value.int .i64 nn) := heap_cell K5.out 0
          have k51 : _ = some (Value.int .i64 dd) := heap_cell K5.out 1
          have f50 := heap_frozen R5.out 0
          have f51 := heap_frozen R5.out 1
          have r50 : _ = some (Value.int .i64 0) := heap_cell R5.out 0
          have r51 : _ = some (Value.int .i64 0) := heap_cell R5.out 1
          have G1 := box2X R5.out (.int .i64 nn)
          have G2 := box2Y G1 (.int .i64 dd)
          have g1 : _ = some (Value.int .i64 0) := heap_cell G1 1
          have g2 : _ = some (Value.int .i64 nn) := heap_cell G1 0
          have g3 : _ = some (Value.int .i64 dd) := heap_cell G2 1
          clear hx ENk G1 G2
          go_wp2_with fail
          ((try simp only [Exit.inBlock, Exit.then]); refine bodyPost_ret (by simp [results, Tryd.results46, go_sem, ↓IntWalk.iteOmega, g2, g3]; try rfl) rfl ?_)
          exact ⟨by rw [HD.out], ext_mk (by have := B5.out; exact (by (repeat' (first | (with_reducible first | exact Below.refl _ _ | assumption | refine below_ext _ ?_ ?_ | refine Below.alloc ?_ ?_ _ | refine Below.drew ?_ | refine below_drewN ?_ _ | refine le_drewN _ ?_ | refine Below.setCell ?_ ?_ _ | exact Nat.le_refl _ | refine le_ext _ ?_ | refine le_alloc _ ?_ | refine le_setCell _ _ ?_ | refine le_drew ?_) | omega | (simp; done) | (simp; omega)))))⟩
        · rw [if_neg hv] at HD
          have ENk := hide (fun (W : World) (hb : Below w.heap.size w W) => EN.out nn dd W hb)
          have dn : ((bS (ratE nn dd)).toList == (bS l).toList) = false := by rw [bS_ne, decide_eq_false hv]
          clear EN hv
          generalize bS (ratE nn dd) = S at *
          refine (ENk.out _ BS.out).mono ?_
          rintro e w5 ⟨rfl, hx⟩
          have B5 := hide (BS.out.trans ((ext_bel hx).mono BS.out.size))
          have R5 := hide (blk_keep R3'.out (ext_bel hx))
          clear hx ENk
          have f50 := heap_frozen R5.out 0
          have f51 := heap_frozen R5.out 1
          have r50 : _ = some (Value.int .i64 0) := heap_cell R5.out 0
          have r51 : _ = some (Value.int .i64 0) := heap_cell R5.out 1
          have G1 := box2X R5.out (.int .i64 0)
          have G2 := box2Y G1 (.int .i64 0)
          have g1 : _ = some (Value.int .i64 0) := heap_cell G1 1
          have g2 : _ = some (Value.int .i64 0) := heap_cell G1 0
          have g3 : _ = some (Value.int .i64 0) := heap_cell G2 1
          have z5 := B5.out.size
          clear G1 G2
          go_wp2_with fail
          ((try simp only [Exit.inBlock, Exit.then]); refine bodyPost_ret (by simp [results, Tryd.results46, go_sem, ↓IntWalk.iteOmega, g2, g3]; try rfl) rfl ?_)
          exact ⟨by rw [HD.out], ext_mk (by have := B5.out; exact (by (repeat' (first | (with_reducible first | exact Below.refl _ _ | assumption | refine below_ext _ ?_ ?_ | refine Below.alloc ?_ ?_ _ | refine Below.drew ?_ | refine below_drewN ?_ _ | refine le_drewN _ ?_ | refine Below.setCell ?_ ?_ _ | exact Nat.le_refl _ | refine le_ext _ ?_ | refine le_alloc _ ?_ | refine le_setCell _ _ ?_ | refine le_drew ?_) | omega | (simp; done) | (simp; omega)))))⟩
      · have hb : ∀ v, Lib.atoiAll lb ≠ .ok v := fun v hv => hb ⟨v, hv⟩
        have HD := hide (D2.out rfl hb)
        have BADb := hide (fun (W : World) (h : Below w.heap.size w W) => BAD.out lb W h lens.2 hb)
        clear D2 D3 OK BAD hb
        go_wp2_with fail
        clear k20 k21 k22 k23 k30 k31
        generalize w2.setCell ⟨w1.heap.size, 0, none⟩ (.int .i64 nn) = w3 at *
        refine (BADb.out _ BS3.out).mono ?_
        rintro e w4 ⟨vb, Tb, Nb, rfl, hx⟩
        have R4 := hide (blk_keep R3.out (ext_bel hx))
        have B4 := hide (BS3.out.trans ((ext_bel hx).mono BS3.out.size))
        clear hx BADb
        have f50 := heap_frozen R4.out 0
        have f51 := heap_frozen R4.out 1
        have r50 : _ = some (Value.int .i64 0) := heap_cell R4.out 0
        have r51 : _ = some (Value.int .i64 0) := heap_cell R4.out 1
        have G1 := box2X R4.out (.int .i64 0)
        have G2 := box2Y G1 (.int .i64 0)
        have g1 : _ = some (Value.int .i64 0) := heap_cell G1 1
        have g2 : _ = some (Value.int .i64 0) := heap_cell G1 0
        have g3 : _ = some (Value.int .i64 0) := heap_cell G2 1
        have z5 := B4.out.size
        clear G1 G2
        go_wp2_with fail
        ((try simp only [Exit.inBlock, Exit.then]); refine bodyPost_ret (by simp [results, Tryd.results46, go_sem, ↓IntWalk.iteOmega, g2, g3]; try rfl) rfl ?_)
        exact ⟨by rw [HD.out], ext_mk (by have := B4.out; exact (by (repeat' (first | (with_reducible first | exact Below.refl _ _ | assumption | refine below_ext _ ?_ ?_ | refine Below.alloc ?_ ?_ _ | refine Below.drew ?_ | refine below_drewN ?_ _ | refine le_drewN _ ?_ | refine Below.setCell ?_ ?_ _ | exact Nat.le_refl _ | refine le_ext _ ?_ | refine le_alloc _ ?_ | refine le_setCell _ _ ?_ | refine le_drew ?_) | omega | (simp; done) | (simp; omega)))))⟩
  · have ha : ∀ v, Lib.atoiAll la ≠ .ok v := fun v hv => ha ⟨v, hv⟩
    have HD := hide (D1.out ha)
    have BADa := hide (fun (W : World) (h : Below w.heap.size w W) => BAD.out la W h lens.1 ha)
    clear D1 D2 D3 OK BAD ha
    go_wp2_with fail
    refine (BADa.out _ (B1.out.alloc (by first | omega | (simp; done) | (simp; omega)) _)).mono ?_
    rintro e w4 ⟨vb, Tb, Nb, rfl, hx⟩
    have R4 := hide (blk_keep ((Below.heap_alloc _ _ _ (heap_lt R1.out)).trans R1.out) (ext_bel hx))
    have B4 : Hid (Below w.heap.size w w4) := hide (((B1.out.alloc (by first | omega | (simp; done) | (simp; omega)) _)).trans ((ext_bel hx).mono (by first | omega | (simp; done) | (simp; omega))))
    clear hx BADa
    have f50 := heap_frozen R4.out 0
    have f51 := heap_frozen R4.out 1
    have r50 : _ = some (Value.int .i64 0) := heap_cell R4.out 0
    have r51 : _ = some (Value.int .i64 0) := heap_cell R4.out 1
    have G1 := box2X R4.out (.int .i64 0)
    have G2 := box2Y G1 (.int .i64 0)
    have g1 : _ = some (Value.int .i64 0) := heap_cell G1 1
    have g2 : _ = some (Value.int .i64 0) := heap_cell G1 0
    have g3 : _ = some (Value.int .i64 0) := heap_cell G2 1
    have z5 := B4.out.size
    clear G1 G2
    go_wp2_with fail
    ((try simp only [Exit.inBlock, Exit.then]); refine bodyPost_ret (by simp [results, Tryd.results46, go_sem, ↓IntWalk.iteOmega, g2, g3]; try rfl) rfl ?_)
    exact ⟨by rw [HD.out], ext_mk (by have := B4.out; exact (by (repeat' (first | (with_reducible first | exact Below.refl _ _ | assumption | refine below_ext _ ?_ ?_ | refine Below.alloc ?_ ?_ _ | refine Below.drew ?_ | refine below_drewN ?_ _ | refine le_drewN _ ?_ | refine Below.setCell ?_ ?_ _ | exact Nat.le_refl _ | refine le_ext _ ?_ | refine le_alloc _ ?_ | refine le_setCell _ _ ?_ | refine le_drew ?_) | omega | (simp; done) | (simp; omega)))))⟩
end Go.Proofs.YtlggmjofglmjcaaDoor
