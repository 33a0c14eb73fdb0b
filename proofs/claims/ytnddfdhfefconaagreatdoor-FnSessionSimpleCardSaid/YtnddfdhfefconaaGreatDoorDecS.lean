
/- Reading numbers and fractions: the reference's parseInt; both DecodeRat, both DecodeRatPoint. -/
import Derived.Test.YtnddfdhfefconaaGreatDoorStrs
import Derived.Test.YtnddfdhfefconaaGreatDoorLaid
import Derived.Test.YtnddfdhfefconaaGreatDoorLEnc
set_option linter.unusedVariables false
set_option linter.unusedSimpArgs false
namespace Go.Proofs.YtnddfdhfefconaaGreatDoor
open Go.RowKit

theorem parT_pw {k : Nat} (hk : k ≤ 12) (l : List UInt8) : -207000000000000 ≤ parT l k ∧ parT l k ≤ 207000000000000 := by
  have h := parT_bd l k
  have hp : (10 : Int) ^ k ≤ 10 ^ 12 := by
    have := Nat.pow_le_pow_right (show 0 < 10 by omega) hk
    exact_mod_cast this
  have h0 : (0 : Int) < 10 ^ k := Int.pow_pos (by omega)
  omega
theorem bS_at {l : List UInt8} {i : Nat} (h : i < l.length) (h' : i < (bS l).size) : (bS l)[i] = l.getD i 0 := by
  have := bS_get h
  rw [Array.getElem?_eq_getElem (show i < (bS l).data.size from h')] at this
  injection this
theorem min12 {i n : Nat} (h : ¬ (i < n ∧ i < 12)) (hi : i ≤ n) (hi2 : i ≤ 12) : i = min 12 n := by omega
set_option maxHeartbeats 2000000 in
theorem parse_any (l : List UInt8) (w : World) (hl : l.length ≤ 2000000) : Calls Tryz.prog 109 #[.string (bS l)] w fun e w' => e = .returned (.int .i64 (parI l)) ∧ ∃ x, w' = ext w x := by
  have SZ := bS_size l
  by_cases hs : l.head? = some 45
  · have h0 : 0 < l.length := by cases l with | nil => simp at hs | cons a r => simp
    have hP : Hid (parI l = -1 * parT (l.drop 1) (min 12 (l.drop 1).length)) := hide (by unfold parI; rw [if_pos hs]; omega)
    have h0' : 0 < (bS l).size := by omega
    have G0 := bS_at h0 h0'
    have d0 : (((bS l)[0].toNat : Int) == 45) = true := by
      rw [G0]
      cases l with
      | nil => simp at hs
      | cons a r => simp at hs; subst hs; rfl
    have EX : (bS l).extract 1 l.length = bS (l.drop 1) := by
      rw [bS_ext, List.take_of_length_le (by rw [List.length_drop]; exact Nat.le_refl _)]
    have SZ2 : (bS (l.drop 1)).size = l.length - 1 := by rw [bS_size, List.length_drop]
    have GI := hide (fun (i : Nat) (h : i < l.length - 1) (h' : i < (bS (l.drop 1)).size) => bS_at (l := l.drop 1) (by rw [List.length_drop]; exact h) h')
    have ML : (l.drop 1).length = l.length - 1 := List.length_drop
    rw [ML] at hP
    clear hs G0 ML
    generalize l.drop 1 = m at *
    go_enter Tryz.func109, Tryz.ntmps109
    go_wp2
    go_loopw [4, 5] (fun u4 u5 wr => ∃ i : Nat, i ≤ l.length - 1 ∧ i ≤ 12 ∧ u4 = .int .i64 (parT m i) ∧ u5 = .int .i64 i ∧ ∃ x, wr = ext w x) (fun _ u5 _ => 13 - (intOf u5).toNat)
    case atStart => exact ⟨0, Nat.zero_le _, Nat.zero_le _, by go_num, by go_num, ext_same _⟩
    case round =>
      obtain ⟨i, hi, hi2, rfl, rfl, x, rfl⟩ := hrel
      by_cases hc : i < l.length - 1 ∧ i < 12
      · obtain ⟨ha, hb⟩ := hc
        have h' : i < (bS m).size := by omega
        have G := GI.out i ha h'
        have pt := parT_pw hi2 m
        have bt : (m.getD i 0).toNat < 256 := UInt8.toNat_lt _
        have NX : Hid (parT m (i + 1) = 10 * parT m i + ((m.getD i 0).toNat : Int) - 48) := rfl
        rw [← G] at bt NX
        have k1 : IntKind.i64.wrap (10 * parT m i) = 10 * parT m i := IntWalk.i64_in _ (by omega)
        have k2 : IntKind.i64.wrap (10 * parT m i + ((bS m)[i].toNat : Int)) = 10 * parT m i + ((bS m)[i].toNat : Int) := IntWalk.i64_in _ (by omega)
        have k3 : IntKind.i64.wrap (10 * parT m i + ((bS m)[i].toNat : Int) - 48) = 10 * parT m i + ((bS m)[i].toNat : Int) - 48 := IntWalk.i64_in _ (by omega)
        have k4 : IntKind.i64.wrap ((bS m)[i].toNat : Int) = ((bS m)[i].toNat : Int) := IntWalk.i64_in _ (by omega)
        clear G
        go_wp2
        exact ⟨⟨i + 1, by omega, by omega, by rw [NX.out], by go_num, (ext_mk (by (repeat' (first | (with_reducible first | exact Below.refl _ _ | assumption | refine below_ext _ ?_ ?_ | refine Below.alloc ?_ ?_ _ | refine Below.drew ?_ | refine below_drewN ?_ _ | refine le_drewN _ ?_ | refine Below.setCell ?_ ?_ _ | exact Nat.le_refl _ | refine le_ext _ ?_ | refine le_alloc _ ?_ | refine le_setCell _ _ ?_ | refine le_drew ?_) | omega | (simp; done) | (simp; omega)))))⟩, by simp [intOf]; omega⟩
      · have ei := min12 hc hi hi2
        have HV : Hid (-1 * parT m i = parI l) := hide (by rw [hP.out, ei])
        have pt := parT_pw hi2 m
        have k1 : IntKind.i64.wrap (-1 * parT m i) = -1 * parT m i := IntWalk.i64_in _ (by omega)
        rcases Nat.lt_or_ge i (l.length - 1) with hh | hh
        · have e12 : ¬ i < 12 := fun e => hc ⟨hh, e⟩
          clear hc ei
          go_wp2
          go_ret
          exact ⟨ret_int (by rw [← HV.out]; omega), (ext_mk (by (repeat' (first | (with_reducible first | exact Below.refl _ _ | assumption | refine below_ext _ ?_ ?_ | refine Below.alloc ?_ ?_ _ | refine Below.drew ?_ | refine below_drewN ?_ _ | refine le_drewN _ ?_ | refine Below.setCell ?_ ?_ _ | exact Nat.le_refl _ | refine le_ext _ ?_ | refine le_alloc _ ?_ | refine le_setCell _ _ ?_ | refine le_drew ?_) | omega | (simp; done) | (simp; omega)))))⟩
        · have el : ¬ i < l.length - 1 := by omega
          clear hc ei
          go_wp2
          go_ret
          exact ⟨ret_int (by rw [← HV.out]; omega), (ext_mk (by (repeat' (first | (with_reducible first | exact Below.refl _ _ | assumption | refine below_ext _ ?_ ?_ | refine Below.alloc ?_ ?_ _ | refine Below.drew ?_ | refine below_drewN ?_ _ | refine le_drewN _ ?_ | refine Below.setCell ?_ ?_ _ | exact Nat.le_refl _ | refine le_ext _ ?_ | refine le_alloc _ ?_ | refine le_setCell _ _ ?_ | refine le_drew ?_) | omega | (simp; done) | (simp; omega)))))⟩
  · have hP : Hid (parI l = parT l (min 12 l.length)) := hide (by unfold parI; rw [if_neg hs])
    have GI := hide (fun (i : Nat) (h : i < l.length) (h' : i < (bS l).size) => bS_at (l := l) h h')
    have key : ∀ (K : Prop), ((l.length = 0) → K) → ((h0 : 0 < (bS l).size) → (((bS l)[0].toNat : Int) == 45) = false → K) → K := fun K ka kb => by
      rcases Nat.eq_zero_or_pos l.length with e | e
      · exact ka e
      · refine kb (by omega) ?_
        rw [bS_at e (by omega), beq_eq_false_iff_ne]
        intro hh
        apply hs
        cases l with
        | nil => simp at e
        | cons a r =>
          have : a.toNat = 45 := by have h2 : ((a.toNat : Nat) : Int) = 45 := hh; omega
          simp
          exact UInt8.toNat_inj.1 this
    clear hs
    refine key _ (fun he => ?_) (fun h0 d0 => ?_)
    all_goals
      clear key
      go_enter Tryz.func109, Tryz.ntmps109
      go_wp2
      go_loopw [4, 5] (fun u4 u5 wr => ∃ i : Nat, i ≤ l.length ∧ i ≤ 12 ∧ u4 = .int .i64 (parT l i) ∧ u5 = .int .i64 i ∧ ∃ x, wr = ext w x) (fun _ u5 _ => 13 - (intOf u5).toNat)
      case atStart => exact ⟨0, Nat.zero_le _, Nat.zero_le _, by go_num, by go_num, ext_same _⟩
      case round =>
        obtain ⟨i, hi, hi2, rfl, rfl, x, rfl⟩ := hrel
        by_cases hc : i < l.length ∧ i < 12
        · obtain ⟨ha, hb⟩ := hc
          have h' : i < (bS l).size := by omega
          have G := GI.out i ha h'
          have pt := parT_pw hi2 l
          have bt : (l.getD i 0).toNat < 256 := UInt8.toNat_lt _
          have NX : Hid (parT l (i + 1) = 10 * parT l i + ((l.getD i 0).toNat : Int) - 48) := rfl
          rw [← G] at bt NX
          have k1 : IntKind.i64.wrap (10 * parT l i) = 10 * parT l i := IntWalk.i64_in _ (by omega)
          have k2 : IntKind.i64.wrap (10 * parT l i + ((bS l)[i].toNat : Int)) = 10 * parT l i + ((bS l)[i].toNat : Int) := IntWalk.i64_in _ (by omega)
          have k3 : IntKind.i64.wrap (10 * parT l i + ((bS l)[i].toNat : Int) - 48) = 10 * parT l i + ((bS l)[i].toNat : Int) - 48 := IntWalk.i64_in _ (by omega)
          have k4 : IntKind.i64.wrap ((bS l)[i].toNat : Int) = ((bS l)[i].toNat : Int) := IntWalk.i64_in _ (by omega)
          clear G
          go_wp2
          all_goals exact ⟨⟨i + 1, by omega, by omega, by rw [NX.out], by go_num, (ext_mk (by (repeat' (first | (with_reducible first | exact Below.refl _ _ | assumption | refine below_ext _ ?_ ?_ | refine Below.alloc ?_ ?_ _ | refine Below.drew ?_ | refine below_drewN ?_ _ | refine le_drewN _ ?_ | refine Below.setCell ?_ ?_ _ | exact Nat.le_refl _ | refine le_ext _ ?_ | refine le_alloc _ ?_ | refine le_setCell _ _ ?_ | refine le_drew ?_) | omega | (simp; done) | (simp; omega)))))⟩, by simp [intOf]; omega⟩
        · have ei := min12 hc hi hi2
          have HV : Hid (1 * parT l i = parI l) := hide (by rw [hP.out, ei, Int.one_mul])
          have pt := parT_pw hi2 l
          have k1 : IntKind.i64.wrap (1 * parT l i) = 1 * parT l i := IntWalk.i64_in _ (by omega)
          rcases Nat.lt_or_ge i l.length with hh | hh
          · have e12 : ¬ i < 12 := fun e => hc ⟨hh, e⟩
            clear hc ei
            go_wp2
            all_goals go_ret
            all_goals exact ⟨ret_int (by rw [← HV.out]; omega), (ext_mk (by (repeat' (first | (with_reducible first | exact Below.refl _ _ | assumption | refine below_ext _ ?_ ?_ | refine Below.alloc ?_ ?_ _ | refine Below.drew ?_ | refine below_drewN ?_ _ | refine le_drewN _ ?_ | refine Below.setCell ?_ ?_ _ | exact Nat.le_refl _ | refine le_ext _ ?_ | refine le_alloc _ ?_ | refine le_setCell _ _ ?_ | refine le_drew ?_) | omega | (simp; done) | (simp; omega)))))⟩
          · have el : ¬ i < l.length := by omega
            clear hc ei
            go_wp2
            all_goals go_ret
            all_goals exact ⟨ret_int (by rw [← HV.out]; omega), (ext_mk (by (repeat' (first | (with_reducible first | exact Below.refl _ _ | assumption | refine below_ext _ ?_ ?_ | refine Below.alloc ?_ ?_ _ | refine Below.drew ?_ | refine below_drewN ?_ _ | refine le_drewN _ ?_ | refine Below.setCell ?_ ?_ _ | exact Nat.le_refl _ | refine le_ext _ ?_ | refine le_alloc _ ?_ | refine le_setCell _ _ ?_ | refine le_drew ?_) | omega | (simp; done) | (simp; omega)))))⟩
theorem splN_1 (l : List UInt8) (c : UInt8) : splN l c 1 = if (Lib.cut l [c]).2.2 = true then [(Lib.cut l [c]).1, (Lib.cut l [c]).2.1] else [(Lib.cut l [c]).1] := by
  rcases split_at l c with h | ⟨a, b, rfl, ha⟩
  · rw [splN_no h, cut_no h]; rfl
  · rw [splN_at ha, cut_at ha]; rfl
theorem cut_len (l : List UInt8) (c : UInt8) : (Lib.cut l [c]).1.length ≤ l.length ∧ (Lib.cut l [c]).2.1.length ≤ l.length := by
  rcases split_at l c with h | ⟨a, b, rfl, ha⟩
  · rw [cut_no h]; simp
  · rw [cut_at ha]; simp; omega
theorem box2Y {w : World} {g : Nat} {x y : Value} {T : TypeId} (h : w.heap[g]? = some (.cells #[x, y] T (0, 0))) (a : Value) : (w.setCell ⟨g, 1, none⟩ a).heap[g]? = some (.cells #[x, a] T (0, 0)) := by
  simp [World.setCell, Array.getElem?_modify, h]
theorem box2X {w : World} {g : Nat} {x y : Value} {T : TypeId} (h : w.heap[g]? = some (.cells #[x, y] T (0, 0))) (a : Value) : (w.setCell ⟨g, 0, none⟩ a).heap[g]? = some (.cells #[a, y] T (0, 0)) := by
  simp [World.setCell, Array.getElem?_modify, h]
/-- What the reference's DecodeRat has read. -/
def dsN (l : List UInt8) : Int := parI (Lib.cut l [47]).1
def dsD (l : List UInt8) : Int := if (Lib.cut l [47]).2.2 = true then parI (Lib.cut l [47]).2.1 else 1
theorem dS' (l : List UInt8) : decR l = if ratB (dsN l) (dsD l) = true ∧ ratT (dsN l) (dsD l) = l then (dsN l, dsD l, true) else (0, 0, false) := dS
theorem dsD_bd (l : List UInt8) : -1000000000000000 ≤ dsD l ∧ dsD l ≤ 1000000000000000 := by
  unfold dsD; split
  · exact parI_bd _
  · omega
theorem bS_ne (a b : List UInt8) : ((bS a).toList == (bS b).toList) = decide (a = b) := by
  rw [ByteArray.toList_eq, ByteArray.toList_eq, bS_list, bS_list]
  by_cases h : a = b
  · subst h; simp
  · rw [decide_eq_false h]; simpa using h
end Go.Proofs.YtnddfdhfefconaaGreatDoor
