
/- Texts of numbers: told, formatInts; yes. -/
/- strings.Builder and strings.CutPrefix, as the walks want them. -/
/- The map of the questions: how it is made, what stands in it. -/
import Derived.Test.YtnddfdhfefconaaGreatDoorEncP
import Derived.Test.YtnddfdhfefconaaGreatDoorSlayB2
import Derived.Shelf.Strings.BuilderK
import Derived.Shelf.Small.Wraps
import Derived.Test.YtnddfdhfefconaaGreatDoorBase
import Derived.Test.YtnddfdhfefconaaGreatDoorEnc
import Derived.Test.YtnddfdhfefconaaGreatDoorRows
import Derived.Maps.Own
import Derived.Maps.OwnOps
import Derived.Maps.Views
set_option linter.unusedVariables false
set_option linter.unusedSimpArgs false
namespace Go.Proofs.YtnddfdhfefconaaGreatDoor
open Go.RowKit

/-- Numbers with spaces between them. -/
def intsT (zs : List Int) : List UInt8 := Lib.join (zs.map Lib.itoa) [32]
def Big (zs : List Int) : Prop := ∀ z ∈ zs, -9223372036854775808 < z ∧ z ≤ 9223372036854775807
theorem joinB_len (ss : List (List UInt8)) (c : UInt8) (m : Nat) (h : ∀ x ∈ ss, x.length ≤ m) : (Lib.join ss [c]).length ≤ (m + 1) * ss.length := by
  induction ss with
  | nil => simp [Lib.join]
  | cons x r ih =>
    have ih := ih fun y hy => h y (List.mem_cons_of_mem _ hy)
    have hx := h x List.mem_cons_self
    cases r with
    | nil => rw [Lib.join_one]; simp; omega
    | cons y r =>
      rw [join_two]
      simp only [List.length_append, List.length_cons, List.length_nil] at *
      have e : (m + 1) * (r.length + 1 + 1) = (m + 1) * (r.length + 1) + (m + 1) := Nat.mul_succ _ _
      omega
theorem intsT_len {zs : List Int} (h : Big zs) : (intsT zs).length ≤ 22 * zs.length := by
  have := joinB_len (zs.map Lib.itoa) 32 21 (fun x hx => by
    obtain ⟨z, hz, rfl⟩ := List.mem_map.1 hx
    have := h z hz
    exact itoa_len z ⟨by omega, by omega⟩)
  rw [List.length_map] at this
  exact this
theorem intsT_snoc {zs : List Int} (h : zs ≠ []) (z : Int) : intsT (zs ++ [z]) = (intsT zs ++ [32]) ++ Lib.itoa z := by
  unfold intsT
  rw [List.map_append]
  induction zs with
  | nil => exact absurd rfl h
  | cons x r ih =>
    cases r with
    | nil =>
      show Lib.join [Lib.itoa x, Lib.itoa z] [32] = _
      rw [join_two, Lib.join_one]
      show _ = (Lib.join [Lib.itoa x] [32] ++ [32]) ++ Lib.itoa z
      rw [Lib.join_one]; simp
    | cons y r =>
      have ih := ih (by simp)
      simp only [List.map_cons, List.cons_append, List.map_nil] at ih ⊢
      rw [join_two, ih, join_two]
      simp
theorem intsT_one (z : Int) : intsT [z] = Lib.itoa z := Lib.join_one _ _
theorem big_take {zs : List Int} (h : Big zs) (k : Nat) : Big (zs.take k) := fun z hz => h z (List.mem_of_mem_take hz)
theorem joinB_any (sep : UInt8) (ss : List (List UInt8)) (A : Option Addr) (n c : Nat) (w : World) (hn : ss.length = n) (hc : n ≤ c) (hs : StrsAt w w.heap.size A ss) (hm : n ≤ 2000000) (hl : (Lib.join ss [sep]).length ≤ 2000000) :
    Calls Tryz.prog 24 #[.slice A n c, .string (bS [sep])] w fun e w' => e = .returned (.string (bS (Lib.join ss [sep]))) ∧ ∃ x, w' = ext w x := by
  by_cases h0 : n = 0
  · subst h0
    obtain rfl := List.length_eq_zero_iff.1 hn
    refine Calls.mono (Any.strings_Join_none (ρ := Tryz.joinS_ren) { Tryz.joinS with } joinX A c (bS [sep]) w) fun e w' hh => ⟨hh.1, ?_⟩
    rw [hh.2]
    exact ext_same w
  · obtain ⟨b, o, rfl, hb, hcs⟩ := hs (by omega)
    have h := Any.strings_Join (ρ := Tryz.joinS_ren) { Tryz.joinS with } joinX b o c (ss.map bS) (bS [sep]) w (fun j x hj => by
      rw [List.getElem?_map] at hj
      cases e : ss[j]? with
      | none => rw [e] at hj; cases hj
      | some y =>
        rw [e] at hj
        cases hj
        have hlt : j < ss.length := (List.getElem?_eq_some_iff.1 e).1
        rw [hcs j hlt, gstr_lt hlt]
        rw [List.getElem?_eq_getElem hlt] at e
        injection e with e
        rw [e]) hb (by rw [List.length_map]; omega) (by rw [List.length_map]; omega) (by rw [map_bS, bS_list]; omega)
    rw [List.length_map, hn, map_bS, bS_list] at h
    exact Calls.mono h fun e w' hh => ⟨hh.1, ext_mk hh.2⟩
theorem int_take {zs : List Int} {k : Nat} (hk : k < zs.length) : (zs.take (k + 1)).map Lib.itoa = (zs.take k).map Lib.itoa ++ [Lib.itoa (gi zs k)] := by
  rw [List.take_succ_eq_append_getElem hk, List.map_append, ← gi_lt hk]; rfl
set_option maxRecDepth 20000 in
set_option maxHeartbeats 4000000 in
theorem told_any (zs : List Int) (A : Option Addr) (n c : Nat) (w : World) (hn : zs.length = n) (hm : n ≤ 1000) (hb : Big zs) (hs : IntsAt w w.heap.size A zs) (ht : Tab w) :
    Calls Tryz.prog 89 #[.slice A n c] w fun e w' => e = .returned (.string (bS (intsT zs))) ∧ ∃ x, w' = ext w x := by
  have HN := hide hn
  have HS := hide hs
  have HB := hide hb
  have TL := intsT_len hb
  have TL2 := hide TL
  have IA := hide (fun (k : Int) (W : World) (hk : -9223372036854775808 < k ∧ k ≤ 9223372036854775807) (hb : Below w.heap.size w W) => itoa_any k W (by omega) (ht.to hb))
  have GB : Hid (∀ i, i < n → -9223372036854775808 < gi zs i ∧ gi zs i ≤ 9223372036854775807) := hide (fun i hi => by rw [gi_lt (by omega)]; exact hb _ (List.getElem_mem _))
  have TK := hide (fun (k : Nat) (hk : k < n) => int_take (zs := zs) (k := k) (by omega))
  obtain ⟨i0, hi, hz0, hz1, hz2⟩ := info_parts strElt.inf
  have IP := hide (And.intro hi (And.intro hz0 (And.intro hz1 hz2)))
  clear hi hz0 hz1 hz2
  have mk1 : i0.bytes * n ≤ 281474976710656 := by rw [IP.out.2.2.2]; omega
  have mk2 : n ≤ maxLen := by unfold maxLen; omega
  clear hn hs hb TL ht
  go_enter Tryz.func89, Tryz.ntmps89
  go_wp2_with (refine wpList_make_own _ rfl (.const (.int .i64 0)) (.tmp 7) 27 rfl w.heap.size 9 i0 _ 1 strElt.und IP.out.1 IP.out.2.1 IP.out.2.2.1 .i64 .i64 _ n rfl rfl rfl mk1 mk2 (Nat.le_refl _) ?_; intro w1 hown1 hgr1; have O1 := hide (show OwnS w1 w.heap.size _ [] from hown1); have B1 := hide ((Below.refl _ _).grown hgr1 (Nat.le_refl _) (fun k hk => by cases hk)); clear hown1 hgr1)
  go_loopw [3, 11] (fun u3 u11 wr => ∃ (k : Nat), k ≤ n ∧ u11 = .int .i64 k ∧ OwnS wr w.heap.size u3 ((zs.take k).map Lib.itoa) ∧ Below w.heap.size w wr) (fun _ u11 _ => n - (intOf u11).toNat)
  case atStart => exact ⟨0, Nat.zero_le _, rfl, O1.out.below (by (repeat' (first | (with_reducible first | exact Below.refl _ _ | assumption | refine below_ext _ ?_ ?_ | refine Below.alloc ?_ ?_ _ | refine Below.drew ?_ | refine below_drewN ?_ _ | refine le_drewN _ ?_ | refine Below.setCell ?_ ?_ _ | exact Nat.le_refl _ | refine le_ext _ ?_ | refine le_alloc _ ?_ | refine le_setCell _ _ ?_ | refine le_drew ?_) | omega | (simp; done) | (simp; omega)))), Below.trans B1.out (by (repeat' (first | (with_reducible first | exact Below.refl _ _ | assumption | refine below_ext _ ?_ ?_ | refine Below.alloc ?_ ?_ _ | refine Below.drew ?_ | refine below_drewN ?_ _ | refine le_drewN _ ?_ | refine Below.setCell ?_ ?_ _ | exact Nat.le_refl _ | refine le_ext _ ?_ | refine le_alloc _ ?_ | refine le_setCell _ _ ?_ | refine le_drew ?_) | omega | (simp; done) | (simp; omega))))⟩
  case round =>
    obtain ⟨k, hk, rfl, hown, hbel⟩ := hrel
    obtain ⟨A0, n0, c0, rfl⟩ := hown.slice
    have hsz := hbel.size
    have OWN0 := hide hown
    clear hown
    by_cases hlt : k < n
    · obtain ⟨b1, o1, rfl, hbl1, hc1⟩ := HS.out (by rw [HN.out]; omega)
      have hx := (hbel.cell (p := ⟨b1, o1 + k, none⟩) hbl1).trans (hc1 k (by rw [HN.out]; omega))
      have gb := GB.out k hlt
      have NX := hide (TK.out k hlt)
      have NL : ((zs.take k).map Lib.itoa).length ≤ 2000000 := by rw [List.length_map, List.length_take]; omega
      clear hc1
      have IZ := hide (fun (W : World) (hb : Below wr.heap.size wr W) => IA.out (gi zs k) W gb (hbel.trans (hb.mono hbel.size)))
      generalize gi zs k = Z at *
      go_wp2_with fail
      refine (IZ.out _ (by (repeat' (first | (with_reducible first | exact Below.refl _ _ | assumption | refine below_ext _ ?_ ?_ | refine Below.alloc ?_ ?_ _ | refine Below.drew ?_ | refine below_drewN ?_ _ | refine le_drewN _ ?_ | refine Below.setCell ?_ ?_ _ | exact Nat.le_refl _ | refine le_ext _ ?_ | refine le_alloc _ ?_ | refine le_setCell _ _ ?_ | refine le_drew ?_) | omega | (simp; done) | (simp; omega))))).mono ?_
      rintro e w' ⟨rfl, hw'⟩; have hzy := ext_sz hw'; obtain ⟨y, rfl⟩ := hw'; (try simp at hzy)
      have O5 := hide (OWN0.out.below (ext_below wr y))
      go_wp2_with (at_builtin; refine app_str rfl _ _ rfl w.heap.size (.slice A0 n0 c0) _ rfl (O5.out.below (by (repeat' (first | (with_reducible first | exact Below.refl _ _ | assumption | refine below_ext _ ?_ ?_ | refine Below.alloc ?_ ?_ _ | refine Below.drew ?_ | refine below_drewN ?_ _ | refine le_drewN _ ?_ | refine Below.setCell ?_ ?_ _ | exact Nat.le_refl _ | refine le_ext _ ?_ | refine le_alloc _ ?_ | refine le_setCell _ _ ?_ | refine le_drew ?_) | omega | (simp; done) | (simp; omega))))) (Lib.itoa Z) _ _ rfl (by simp [go_sem]) NL (by simp; omega) ?_; intro v7 w7 hown7 hb7 hat7 hgr7; obtain ⟨A7, n7, c7, rfl⟩ := hown7.slice; have O7 := hide hown7; have B7 := hide hb7; clear hown7 hb7 hat7 hgr7)
      exact ⟨⟨k + 1, by omega, by go_num, by rw [NX.out]; exact O7.out, Below.trans (Below.trans hbel (by (repeat' (first | (with_reducible first | exact Below.refl _ _ | assumption | refine below_ext _ ?_ ?_ | refine Below.alloc ?_ ?_ _ | refine Below.drew ?_ | refine below_drewN ?_ _ | refine le_drewN _ ?_ | refine Below.setCell ?_ ?_ _ | exact Nat.le_refl _ | refine le_ext _ ?_ | refine le_alloc _ ?_ | refine le_setCell _ _ ?_ | refine le_drew ?_) | omega | (simp; done) | (simp; omega))))) B7.out⟩, by simp [intOf]; omega⟩
    · have e0 : zs.take k = zs := List.take_of_length_le (by rw [HN.out]; omega)
      have OWN1 : Hid (OwnS wr w.heap.size (.slice A0 n0 c0) (zs.map Lib.itoa)) := hide (by have := OWN0.out; rw [e0] at this; exact this)
      clear e0 OWN0
      obtain ⟨l0, l1, _, hst⟩ := OWN1.out.strs
      rw [List.length_map, HN.out] at l0
      have HJ : Hid (Calls Tryz.prog 24 #[.slice A0 n0 c0, .string ⟨#[32]⟩] wr fun e w' => e = .returned (.string (bS (intsT zs))) ∧ ∃ x, w' = ext wr x) := hide (joinB_any 32 (zs.map Lib.itoa) A0 n0 c0 wr (by rw [List.length_map, HN.out]; exact l0) l1 hst (by omega) (by have := TL2.out; rw [HN.out] at this; show (intsT zs).length ≤ _; omega))
      clear l0 l1 hst OWN1
      go_wp2_with fail
      refine HJ.out.mono ?_
      rintro e w' ⟨rfl, hw'⟩; have hzy5 := ext_sz hw'; obtain ⟨y5, rfl⟩ := hw'; (try simp at hzy5)
      go_wp2
      go_ret
      exact ⟨rfl, ext_mk (hbel.trans (Below.mono (show Below wr.heap.size wr _ from (by (repeat' (first | (with_reducible first | exact Below.refl _ _ | assumption | refine below_ext _ ?_ ?_ | refine Below.alloc ?_ ?_ _ | refine Below.drew ?_ | refine below_drewN ?_ _ | refine le_drewN _ ?_ | refine Below.setCell ?_ ?_ _ | exact Nat.le_refl _ | refine le_ext _ ?_ | refine le_alloc _ ?_ | refine le_setCell _ _ ?_ | refine le_drew ?_) | omega | (simp; done) | (simp; omega))))) hbel.size))⟩
set_option maxHeartbeats 2000000 in
theorem fmtInts_any (zs : List Int) (A : Option Addr) (n c : Nat) (w : World) (hn : zs.length = n) (hm : n ≤ 1000) (hb : Big zs) (hs : IntsAt w w.heap.size A zs) :
    Calls Tryz.prog 63 #[.slice A n c] w fun e w' => e = .returned (.string (bS (intsT zs))) ∧ ∃ x, w' = ext w x := by
  have HN := hide hn
  have HS := hide hs
  have GB : Hid (∀ i, i < n → -9223372036854775808 < gi zs i ∧ gi zs i ≤ 9223372036854775807) := hide (fun i hi => by rw [gi_lt (by omega)]; exact hb _ (List.getElem_mem _))
  obtain ⟨FT, hFT⟩ : ∃ FT : Nat → ByteArray, ∀ k, FT k = bS (intsT (zs.take k)) := ⟨_, fun _ => rfl⟩
  have F0 : FT 0 = ⟨#[]⟩ := by rw [hFT 0]; rfl
  have FN : Hid (FT n = bS (intsT zs)) := hide (by rw [hFT n, List.take_of_length_le (by omega)])
  have ST : Hid (∀ k, k < n → ∃ S1 S2 : ByteArray, FT k ++ (⟨#[32]⟩ : ByteArray) = S1 ∧ (k = 0 → FT k ++ S2 = FT (k + 1)) ∧ (0 < k → S1 ++ S2 = FT (k + 1)) ∧ S2 = bS (Lib.itoa (gi zs k)) ∧ ¬ 9223372036854775807 < (FT k).size + (⟨#[32]⟩ : ByteArray).size ∧ ¬ 9223372036854775807 < (FT k).size + S2.size ∧ ¬ 9223372036854775807 < S1.size + S2.size) := hide (fun k hk => by
    have hp := GB.out k hk
    have l1 := intsT_len (big_take hb k)
    rw [List.length_take] at l1
    have l2 := itoa_len (gi zs k) ⟨by omega, by omega⟩
    have i32 : bS [32] = ⟨#[32]⟩ := rfl
    have st : intsT (zs.take (k + 1)) = if k = 0 then Lib.itoa (gi zs k) else (intsT (zs.take k) ++ [32]) ++ Lib.itoa (gi zs k) := by
      rw [List.take_succ_eq_append_getElem (by omega), ← gi_lt (by omega)]
      by_cases h : k = 0
      · subst h
        rw [if_pos rfl]
        exact intsT_one _
      · rw [if_neg h]
        exact intsT_snoc (by intro e; have := congrArg List.length e; rw [List.length_take, List.length_nil] at this; omega) _
    rw [hFT k, hFT (k + 1), ← i32]
    refine ⟨_, _, rfl, fun h => ?_, fun h => ?_, rfl, ?_, ?_, ?_⟩
    · subst h
      rw [st, if_pos rfl, bS_app]; rfl
    · rw [st, if_neg (by omega), bS_app, bS_app]
    · rw [bS_size, bS_size]; simp; omega
    · rw [bS_size, bS_size]; omega
    · rw [bS_app, bS_size, bS_size, List.length_append]; simp; omega)
  have PF := hide (fun (x : Int) (W : World) (hx : -9223372036854775808 < x ∧ x ≤ 9223372036854775807) => sfmt_any x W hx)
  rw [← FN.out]
  clear hn hs hb hFT FN
  go_enter Tryz.func63, Tryz.ntmps63
  go_wp2_with fail
  go_loopw [3, 4] (fun u3 u4 wr => ∃ (k : Nat), k ≤ n ∧ u4 = .int .i64 k ∧ u3 = .string (FT k) ∧ ∃ x, wr = ext w x) (fun _ u4 _ => n - (intOf u4).toNat)
  case atStart => exact ⟨0, Nat.zero_le _, rfl, by rw [F0], ext_same w⟩
  case round =>
    obtain ⟨k, hk, rfl, rfl, x, rfl⟩ := hrel
    by_cases hlt : k < n
    · obtain ⟨b1, o1, rfl, hbl1, hc1⟩ := HS.out (by rw [HN.out]; omega)
      have hx0 := hc1 k (by rw [HN.out]; omega)
      have p1 := GB.out k hlt
      obtain ⟨S1, S2, E1, E2, E3, e9, K1, K2, K3⟩ := ST.out k hlt
      have PP := hide (fun W => PF.out (gi zs k) W p1)
      rw [← e9] at PP
      clear e9 hc1 p1
      generalize gi zs k = X at *
      by_cases h0 : 0 < k
      · have E3 := E3 h0
        have d0 : decide ((0 : Int) < (k : Int)) = true := by simp; omega
        clear E2
        go_wp2_with fail
        refine (PP.out _).mono ?_
        rintro e w' ⟨rfl, hw'⟩; have hzy := ext_sz hw'; obtain ⟨y, rfl⟩ := hw'; (try simp at hzy)
        go_wp2_with fail
        exact ⟨⟨k + 1, by omega, by go_num, rfl, (ext_mk (by (repeat' (first | (with_reducible first | exact Below.refl _ _ | assumption | refine below_ext _ ?_ ?_ | refine Below.alloc ?_ ?_ _ | refine Below.drew ?_ | refine below_drewN ?_ _ | refine le_drewN _ ?_ | refine Below.setCell ?_ ?_ _ | exact Nat.le_refl _ | refine le_ext _ ?_ | refine le_alloc _ ?_ | refine le_setCell _ _ ?_ | refine le_drew ?_) | omega | (simp; done) | (simp; omega)))))⟩, by simp [intOf]; omega⟩
      · have E2 := E2 (by omega)
        have d0 : decide ((0 : Int) < (k : Int)) = false := by simp; omega
        clear E3 E1 K1 K3
        go_wp2_with fail
        refine (PP.out _).mono ?_
        rintro e w' ⟨rfl, hw'⟩; have hzy := ext_sz hw'; obtain ⟨y, rfl⟩ := hw'; (try simp at hzy)
        go_wp2_with fail
        exact ⟨⟨k + 1, by omega, by go_num, rfl, (ext_mk (by (repeat' (first | (with_reducible first | exact Below.refl _ _ | assumption | refine below_ext _ ?_ ?_ | refine Below.alloc ?_ ?_ _ | refine Below.drew ?_ | refine below_drewN ?_ _ | refine le_drewN _ ?_ | refine Below.setCell ?_ ?_ _ | exact Nat.le_refl _ | refine le_ext _ ?_ | refine le_alloc _ ?_ | refine le_setCell _ _ ?_ | refine le_drew ?_) | omega | (simp; done) | (simp; omega)))))⟩, by simp [intOf]; omega⟩
    · have : k = n := by omega
      subst this
      go_wp2
      go_ret
      exact ⟨rfl, (ext_mk (by (repeat' (first | (with_reducible first | exact Below.refl _ _ | assumption | refine below_ext _ ?_ ?_ | refine Below.alloc ?_ ?_ _ | refine Below.drew ?_ | refine below_drewN ?_ _ | refine le_drewN _ ?_ | refine Below.setCell ?_ ?_ _ | exact Nat.le_refl _ | refine le_ext _ ?_ | refine le_alloc _ ?_ | refine le_setCell _ _ ?_ | refine le_drew ?_) | omega | (simp; done) | (simp; omega)))))⟩
set_option maxHeartbeats 400000 in
theorem yes_any (b : Bool) (s t : ByteArray) (w : World) : Calls Tryz.prog 51 #[.bool b, .string s, .string t] w fun e w' => e = .returned (.string (if b = true then s else t)) ∧ w = w' := by
  cases b
  · go_enter Tryz.func51, Tryz.ntmps51
    go_wp2
    go_ret
    exact ⟨rfl, rfl⟩
  · go_enter Tryz.func51, Tryz.ntmps51
    go_wp2
    go_ret
    exact ⟨rfl, rfl⟩
end Go.Proofs.YtnddfdhfefconaaGreatDoor
namespace Go.Proofs.YtnddfdhfefconaaGreatDoor
open Go.RowKit

def Tryz.bld_ren : Go.Shelf.Ren := ⟨fun | 166 => 27 | 167 => 29 | 169 => 30 | 240 => 48 | 276 => 82 | n => n, fun | 9 => 9 | 3 => 3 | 4 => 4 | 0 => 0 | 5 => 5 | 20 => 20 | 72 => 49 | 70 => 47 | 37 => 22 | 75 => 51 | 127 => 78 | 164 => 101 | 80 => 56 | n => n, fun | n => n⟩
theorem Tryz.bwsS : Go.Proofs.Lays.n166 Tryz.prog Tryz.bld_ren where
  mixed := by kernel_rfl
  f166 := Tryz.func27.trans (congrArg some (by kernel_rfl))
  f240 := Tryz.func48.trans (congrArg some (by kernel_rfl))
  f276 := Tryz.func82.trans (congrArg some (by kernel_rfl))
  t0 := Tryz.underlying0
  a0 := Tryz.isAgg0
  z0 := Tryz.sizeOf0
  v0 := Tryz.zeroValue0
  t3 := Tryz.underlying3
  a3 := Tryz.isAgg3
  z3 := Tryz.sizeOf3
  v3 := Tryz.zeroValue3
  t4 := Tryz.underlying4
  a4 := Tryz.isAgg4
  z4 := Tryz.sizeOf4
  v4 := Tryz.zeroValue4
  t9 := Tryz.underlying9
  a9 := Tryz.isAgg9
  z9 := Tryz.sizeOf9
  v9 := Tryz.zeroValue9
  t20 := Tryz.underlying20
  a20 := Tryz.isAgg20
  z20 := Tryz.sizeOf20
  v20 := Tryz.zeroValue20
  t37 := Tryz.underlying22
  a37 := Tryz.isAgg22
  z37 := Tryz.sizeOf22
  v37 := Tryz.zeroValue22
  t70 := Tryz.underlying47
  a70 := Tryz.isAgg47
  z70 := Tryz.sizeOf47
  v70 := Tryz.zeroValue47
  t72 := Tryz.underlying49
  a72 := Tryz.isAgg49
  z72 := Tryz.sizeOf49
  v72 := Tryz.zeroValue49
  t75 := Tryz.underlying51
  a75 := Tryz.isAgg51
  z75 := Tryz.sizeOf51
  v75 := Tryz.zeroValue51
  t164 := Tryz.underlying101
  a164 := Tryz.isAgg101
  z164 := Tryz.sizeOf101
  v164 := Tryz.zeroValue101
theorem Tryz.bwbS : Go.Proofs.Lays.n167 Tryz.prog Tryz.bld_ren := { Tryz.bwsS with
  f167 := Tryz.func29.trans (congrArg some (by kernel_rfl))
  t5 := Tryz.underlying5
  a5 := Tryz.isAgg5
  z5 := Tryz.sizeOf5
  v5 := Tryz.zeroValue5 }
theorem Tryz.bstrS : Go.Proofs.Lays.n169 Tryz.prog Tryz.bld_ren := { Tryz.bwsS with
  f169 := Tryz.func30.trans (congrArg some (by kernel_rfl))
  t127 := Tryz.underlying78
  a127 := Tryz.isAgg78
  z127 := Tryz.sizeOf78
  v127 := Tryz.zeroValue78 }
theorem bldX : Builder.Extra Tryz.prog Tryz.bld_ren where
  sizeBuilder := by kernel_rfl
  liesBuilder := by kernel_rfl
  t5 := Tryz.underlying5
  a5 := Tryz.isAgg5
  z5 := Tryz.sizeOf5
  v5 := Tryz.zeroValue5
  infoByte := by kernel_rfl
  cellsByte := by kernel_rfl
  sizeByte := by kernel_rfl
  neB5 := by decide
/-- The builder at block b holds these bytes; its blocks lie at B or later. -/
def Bld (B b : Nat) (l : List UInt8) (w : World) : Prop := Lib.IsBuilderF 49 5 B b (Lib.byteCells l) w
theorem cells_app (l m : List UInt8) : Lib.byteCells l ++ Lib.strCells (bS m) = Lib.byteCells (l ++ m) := by
  unfold Lib.strCells Lib.byteCells
  rw [List.map_append, bS_list]
theorem wstr_any (B b : Nat) (l m : List UInt8) (w : World) (h : Bld B b l w) (hl : l.length + m.length ≤ 2000000000) (hB : B ≤ w.heap.size) :
    Calls Tryz.prog 27 #[.pointer (some ⟨b, 0, none⟩), .string (bS m)] w fun e w' => e = .returned (.tuple #[.int .i64 (bS m).size, .nilIface]) ∧ Bld B b (l ++ m) w' ∧ Below B w w' ∧ Lib.OthersKept 5 (some b) w w' := by
  refine Calls.mono (Any.Builder_WriteString_k Tryz.bwsS bldX B b (Lib.byteCells l) (bS m) w h (by rw [bS_size]; unfold Lib.byteCells; rw [List.length_map]; omega) hB) fun e w' hh => ?_
  obtain ⟨h1, h2, h3, h4⟩ := hh
  exact ⟨h1, .inr (by rw [← cells_app]; exact h2), h3, h4⟩
theorem wbyte_any (B b : Nat) (l : List UInt8) (w : World) (h : Bld B b l w) (hl : l.length + 1 ≤ 2000000000) (hB : B ≤ w.heap.size) :
    Calls Tryz.prog 29 #[.pointer (some ⟨b, 0, none⟩), .int .u8 10] w fun e w' => e = .returned .nilIface ∧ Bld B b (l ++ [10]) w' ∧ Below B w w' ∧ Lib.OthersKept 5 (some b) w w' := by
  refine Calls.mono (Any.Builder_WriteByte_k Tryz.bwbS bldX B b (Lib.byteCells l) 10 w h (by unfold Lib.byteCells; rw [List.length_map]; omega) hB) fun e w' hh => ?_
  obtain ⟨h1, h2, h3, h4⟩ := hh
  exact ⟨h1, .inr (by rw [← cells_app]; exact h2), h3, h4⟩
theorem bstr_any (B b : Nat) (l : List UInt8) (w : World) (h : Bld B b l w) (hB : B ≤ w.heap.size) :
    Calls Tryz.prog 30 #[.pointer (some ⟨b, 0, none⟩)] w fun e w' => e = .returned (.string (bS l)) ∧ Below B w w' := by
  refine Calls.mono (Any.Builder_String_any_k Tryz.bstrS bldX B b l w h hB) fun e w' hh => ⟨hh.1, hh.2.2.1⟩
theorem cutp_any (l p : List UInt8) (w : World) :
    Calls Tryz.prog 49 #[.string (bS l), .string (bS p)] w fun e w' => e = .returned (.tuple #[.string (bS (Lib.trimPrefix l p)), .bool (Lib.hasPrefix l p)]) ∧ w = w' := by
  refine Calls.mono (Any.strings_CutPrefix Tryz.cutpS (bS l) (bS p) w) fun e w' hh => ⟨?_, hh.2.symm⟩
  have := hh.1
  rw [bS_list, bS_list] at this
  exact this
end Go.Proofs.YtnddfdhfefconaaGreatDoor
namespace Go.Proofs.YtnddfdhfefconaaGreatDoor
open Go.RowKit Go.Maps

/-- A literal's store into a map: as 'm[k] = v'. -/
theorem wpList_insert_own {H : Type} {P : Program} (w : World) {ops : Array Oper} {rest : List Oper} {o : Oper} {a : Act} {Q : Exit → Act → World → Prop}
    (hg : o.guard = none) (m x v : Operand) (t : TypeId) (hop : o.op = Op.insert t m x v)
    (k e : TypeId) (K : Keyed P k) (ht : P.underlying t = some (.map k e)) (R : Value → Option (DataW H × List MemPlace)) (b n : Nat) (D : DataW H)
    (hm : a.eval m = .map (some b)) (hown : w.ownsMap P k R b n D) (hn : n < maxLen) (key val : Value) (kl : Lit) (hx : a.eval x = key) (hv : a.eval v = val) (hkey : keyOf P k key = some kl)
    (d : DataW H) (ps : List MemPlace) (hval : R val = some (d, ps))
    (hK : ∀ w', w'.ownsMap P k R b (n + 1) (D.put kl d) → w.grownBy w' (some b) → wpList P ops Q rest (a.put o.dst undef) w') :
    wpList P ops Q (o :: rest) a w := by
  refine wpList_plain hg fun K' hK' => ?_
  obtain ⟨w', hrun, r1, r2⟩ := hown.update K ht hn hkey hval
  unfold Oper.wp
  simp [execOp, hop, hm, hx, hv, hrun, Result.andThen]
  exact hK' _ _ (hK w' r1 r2)
/-- A function without captured variables reads as its number. -/
def fnR (v : Value) : Option (DataW Unit × List MemPlace) := match v with
  | .func (.func k) a b => if a.size = 0 ∧ b.size = 0 then some (.lit (.int .i64 (k : Int)), []) else none
  | _ => none
theorem fnR_mk (k : Nat) : fnR (.func (.func k) #[] #[]) = some (.lit (.int .i64 (k : Int)), []) := rfl
theorem fnR_inv {v : Value} {y : DataW Unit × List MemPlace} (h : fnR v = some y) : ∃ k : Nat, v = .func (.func k) #[] #[] ∧ y.1 = .lit (.int .i64 (k : Int)) := by
  unfold fnR at h
  split at h
  · rename_i k a b
    split at h
    · rename_i hh
      injection h with h
      obtain ⟨h1, h2⟩ := hh
      rw [Array.size_eq_zero_iff.1 h1, Array.size_eq_zero_iff.1 h2]
      exact ⟨k, rfl, by rw [← h]⟩
    · cases h
  · cases h
def qHull : List UInt8 := [104, 117, 108, 108]
def qArea : List UInt8 := [97, 114, 101, 97]
def qInside : List UInt8 := [105, 110, 115, 105, 100, 101]
def qSimple : List UInt8 := [115, 105, 109, 112, 108, 101]
def qDiameter : List UInt8 := [100, 105, 97, 109, 101, 116, 101, 114]
def qCircle : List UInt8 := [99, 105, 114, 99, 108, 101]
def qKd : List UInt8 := [107, 100]
def qTree : List UInt8 := [116, 114, 101, 101]
/-- The function that answers to a name. -/
def cmdFn (l : List UInt8) : Option Nat :=
  if l = qHull then some 87 else if l = qArea then some 88 else if l = qInside then some 91 else if l = qSimple then some 93 else
  if l = qDiameter then some 94 else if l = qCircle then some 96 else if l = qKd then some 98 else if l = qTree then some 100 else none
def cmdD : DataW Unit := ((((((((DataW.map []).put (.string qHull) (.lit (.int .i64 ((87 : Nat) : Int)))).put (.string qArea) (.lit (.int .i64 ((88 : Nat) : Int)))).put (.string qInside) (.lit (.int .i64 ((91 : Nat) : Int)))).put (.string qSimple) (.lit (.int .i64 ((93 : Nat) : Int)))).put (.string qDiameter) (.lit (.int .i64 ((94 : Nat) : Int)))).put (.string qCircle) (.lit (.int .i64 ((96 : Nat) : Int)))).put (.string qKd) (.lit (.int .i64 ((98 : Nat) : Int)))).put (.string qTree) (.lit (.int .i64 ((100 : Nat) : Int)))
theorem law : Keyed Tryz.prog 9 := string_keyed Tryz.underlying9
theorem key_bs (l : List UInt8) (hl : l.length ≤ 2000000) : keyOf Tryz.prog 9 (.string (bS l)) = some (.string l) := by
  have := Go.WideMaps.keyOf_string_mk Tryz.underlying9 (s := bS l) (by rw [bS_size]; unfold maxLen; omega)
  rw [bS_list] at this
  exact this
set_option maxRecDepth 20000 in
set_option maxHeartbeats 2000000 in
theorem questions_any (w : World) : Calls Tryz.prog 52 #[] w fun e w' => e = .returned (.map (some w.heap.size)) ∧ w'.ownsMap Tryz.prog 9 fnR w.heap.size 8 cmdD ∧ ∃ x, w' = ext w x := by
  have hmm := @run_makeMap Tryz.prog
  have hown := World.ownsMap_made w Tryz.prog 9 fnR
  have hB := hide (show Below w.heap.size w (w.alloc (.map #[] 0)) from (Below.refl _ _).alloc (Nat.le_refl _) _)
  go_enter Tryz.func52, Tryz.ntmps52
  go_wp2_with (first
    | (refine wpList_insert_own _ rfl _ _ _ 76 rfl 9 25 law Tryz.underlying76 fnR w.heap.size 0 _ rfl hown (by decide) _ _ (.string qHull) rfl rfl (key_bs qHull (by decide)) _ [] (fnR_mk 87) ?_; clear hown; intro w1 hown hg; have hB := hide (Below.grown hB.out hg (by have := hB.out.size; omega) (fun j hj => by cases hj; exact Nat.le_refl _)); clear hg)
    | (refine wpList_insert_own _ rfl _ _ _ 76 rfl 9 25 law Tryz.underlying76 fnR w.heap.size 1 _ rfl hown (by decide) _ _ (.string qArea) rfl rfl (key_bs qArea (by decide)) _ [] (fnR_mk 88) ?_; clear hown; intro w2 hown hg; have hB := hide (Below.grown hB.out hg (by have := hB.out.size; omega) (fun j hj => by cases hj; exact Nat.le_refl _)); clear hg)
    | (refine wpList_insert_own _ rfl _ _ _ 76 rfl 9 25 law Tryz.underlying76 fnR w.heap.size 2 _ rfl hown (by decide) _ _ (.string qInside) rfl rfl (key_bs qInside (by decide)) _ [] (fnR_mk 91) ?_; clear hown; intro w3 hown hg; have hB := hide (Below.grown hB.out hg (by have := hB.out.size; omega) (fun j hj => by cases hj; exact Nat.le_refl _)); clear hg)
    | (refine wpList_insert_own _ rfl _ _ _ 76 rfl 9 25 law Tryz.underlying76 fnR w.heap.size 3 _ rfl hown (by decide) _ _ (.string qSimple) rfl rfl (key_bs qSimple (by decide)) _ [] (fnR_mk 93) ?_; clear hown; intro w4 hown hg; have hB := hide (Below.grown hB.out hg (by have := hB.out.size; omega) (fun j hj => by cases hj; exact Nat.le_refl _)); clear hg)
    | (refine wpList_insert_own _ rfl _ _ _ 76 rfl 9 25 law Tryz.underlying76 fnR w.heap.size 4 _ rfl hown (by decide) _ _ (.string qDiameter) rfl rfl (key_bs qDiameter (by decide)) _ [] (fnR_mk 94) ?_; clear hown; intro w5 hown hg; have hB := hide (Below.grown hB.out hg (by have := hB.out.size; omega) (fun j hj => by cases hj; exact Nat.le_refl _)); clear hg)
    | (refine wpList_insert_own _ rfl _ _ _ 76 rfl 9 25 law Tryz.underlying76 fnR w.heap.size 5 _ rfl hown (by decide) _ _ (.string qCircle) rfl rfl (key_bs qCircle (by decide)) _ [] (fnR_mk 96) ?_; clear hown; intro w6 hown hg; have hB := hide (Below.grown hB.out hg (by have := hB.out.size; omega) (fun j hj => by cases hj; exact Nat.le_refl _)); clear hg)
    | (refine wpList_insert_own _ rfl _ _ _ 76 rfl 9 25 law Tryz.underlying76 fnR w.heap.size 6 _ rfl hown (by decide) _ _ (.string qKd) rfl rfl (key_bs qKd (by decide)) _ [] (fnR_mk 98) ?_; clear hown; intro w7 hown hg; have hB := hide (Below.grown hB.out hg (by have := hB.out.size; omega) (fun j hj => by cases hj; exact Nat.le_refl _)); clear hg)
    | (refine wpList_insert_own _ rfl _ _ _ 76 rfl 9 25 law Tryz.underlying76 fnR w.heap.size 7 _ rfl hown (by decide) _ _ (.string qTree) rfl rfl (key_bs qTree (by decide)) _ [] (fnR_mk 100) ?_; clear hown; intro w8 hown hg; have hB := hide (Below.grown hB.out hg (by have := hB.out.size; omega) (fun j hj => by cases hj; exact Nat.le_refl _)); clear hg))
  go_ret
  exact ⟨rfl, hown, ext_mk hB.out⟩
theorem put_hit {D : DataW Unit} (l : List UInt8) (d z : DataW Unit) (hD : IsMap D) : (D.put (.string l) d).atKey (.string l) z = d := atKey_put_same hD (show Go.WideAt.IsKeyLit (.string l) from trivial) d z
theorem put_map {D : DataW Unit} (k : Lit) (d : DataW Unit) (hD : IsMap D) : IsMap (D.put k d) := by
  obtain ⟨es, e⟩ := hD
  subst e
  exact ⟨_, rfl⟩
theorem cmd_at (l : List UInt8) (zd : DataW Unit) : cmdD.atKey (.string l) zd = match cmdFn l with | some k => .lit (.int .i64 (k : Int)) | none => zd := by
  unfold cmdD cmdFn
  have ne : ∀ {a : List UInt8}, l ≠ a → (Lit.string l) ≠ (Lit.string a) := fun h e => h (by injection e)
  by_cases h8 : l = qTree
  · subst h8
    rw [put_hit]
    · rw [if_neg (by decide), if_neg (by decide), if_neg (by decide), if_neg (by decide), if_neg (by decide), if_neg (by decide), if_neg (by decide), if_pos rfl]
    · (repeat (first | exact isMap_empty | refine put_map _ _ ?_))
  rw [atKey_put_other (ne h8)]
  by_cases h7 : l = qKd
  · subst h7
    rw [put_hit]
    · rw [if_neg (by decide), if_neg (by decide), if_neg (by decide), if_neg (by decide), if_neg (by decide), if_neg (by decide), if_pos rfl]
    · (repeat (first | exact isMap_empty | refine put_map _ _ ?_))
  rw [atKey_put_other (ne h7)]
  by_cases h6 : l = qCircle
  · subst h6
    rw [put_hit]
    · rw [if_neg (by decide), if_neg (by decide), if_neg (by decide), if_neg (by decide), if_neg (by decide), if_pos rfl]
    · (repeat (first | exact isMap_empty | refine put_map _ _ ?_))
  rw [atKey_put_other (ne h6)]
  by_cases h5 : l = qDiameter
  · subst h5
    rw [put_hit]
    · rw [if_neg (by decide), if_neg (by decide), if_neg (by decide), if_neg (by decide), if_pos rfl]
    · (repeat (first | exact isMap_empty | refine put_map _ _ ?_))
  rw [atKey_put_other (ne h5)]
  by_cases h4 : l = qSimple
  · subst h4
    rw [put_hit]
    · rw [if_neg (by decide), if_neg (by decide), if_neg (by decide), if_pos rfl]
    · (repeat (first | exact isMap_empty | refine put_map _ _ ?_))
  rw [atKey_put_other (ne h4)]
  by_cases h3 : l = qInside
  · subst h3
    rw [put_hit]
    · rw [if_neg (by decide), if_neg (by decide), if_pos rfl]
    · (repeat (first | exact isMap_empty | refine put_map _ _ ?_))
  rw [atKey_put_other (ne h3)]
  by_cases h2 : l = qArea
  · subst h2
    rw [put_hit]
    · rw [if_neg (by decide), if_pos rfl]
    · (repeat (first | exact isMap_empty | refine put_map _ _ ?_))
  rw [atKey_put_other (ne h2)]
  by_cases h1 : l = qHull
  · subst h1
    rw [put_hit]
    · rw [if_pos rfl]
    · (repeat (first | exact isMap_empty | refine put_map _ _ ?_))
  rw [atKey_put_other (ne h1), if_neg h1, if_neg h2, if_neg h3, if_neg h4, if_neg h5, if_neg h6, if_neg h7, if_neg h8]
  rfl
set_option maxRecDepth 20000 in
theorem look_cmd {w : World} {b : Nat} (hown : w.ownsMap Tryz.prog 9 fnR b 8 cmdD) (l : List UInt8) (hl : l.length ≤ 2000000) :
    (∀ k, cmdFn l = some k → (Instr.lookup 76 (.map (some b)) (.string (bS l)) true).run Tryz.prog w = .ok (.tuple #[.func (.func k) #[] #[], .bool true]) w) ∧
    (cmdFn l = none → ∃ z, (Instr.lookup 76 (.map (some b)) (.string (bS l)) true).run Tryz.prog w = .ok (.tuple #[z, .bool false]) w) := by
  obtain ⟨es, clock, hb, F, _, hD⟩ := hown
  have hz : ∃ z, (zeroValue 25).run Tryz.prog w = .ok z w := ⟨_, Tryz.zeroValue25 w⟩
  obtain ⟨z, hz⟩ := hz
  rcases Maps.fit_look true law Tryz.underlying76 hz hb F (key_bs l hl) with ⟨hrun, _, hat⟩ | ⟨e0, y, _, _, hrun, hR, hat, _⟩
  · rw [← hD] at hat
    have hn : cmdFn l = none := by
      cases e : cmdFn l with
      | none => rfl
      | some k =>
        have h1 := hat .nil
        rw [cmd_at, e] at h1
        cases h1
    exact ⟨(fun k hk => by rw [hn] at hk; cases hk), (fun _ => ⟨z, by simpa using hrun⟩)⟩
  · rw [← hD] at hat
    obtain ⟨k, hv, hy⟩ := fnR_inv hR
    have hs : cmdFn l = some k := by
      cases e : cmdFn l with
      | none =>
        have h1 := hat .nil
        rw [cmd_at, e, hy] at h1
        cases h1
      | some k' =>
        have h1 := hat .nil
        rw [cmd_at, e, hy] at h1
        injection h1 with h1
        injection h1 with _ h1
        have e2 : k' = k := by exact Int.ofNat.inj h1
        rw [e2]
    refine ⟨fun k' hk => ?_, (fun hn => by rw [hs] at hn; cases hn)⟩
    rw [hs] at hk
    injection hk with hk
    subst hk
    rw [hv] at hrun
    simpa using hrun
end Go.Proofs.YtnddfdhfefconaaGreatDoor
