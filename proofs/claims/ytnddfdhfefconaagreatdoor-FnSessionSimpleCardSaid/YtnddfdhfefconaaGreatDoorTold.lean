
/- Texts of numbers: told, formatInts; yes. -/
import Derived.Test.YtnddfdhfefconaaGreatDoorEncP
set_option linter.unusedVariables false
set_option linter.unusedSimpArgs false
namespace Go.Proofs.YtnddfdhfefconaaGreatDoor
open Go.RowKit

/-- Numbers with spaces between them. -/
def intsT (zs : List Int) : List UInt8 := Lib.join (zs.map Lib.itoa) [32]
def Big (zs : List Int) : Prop := ∀ z ∈ zs, -9223372036854775808 < z ∧ z ≤ 9223372036854775807
theorem joinB_len (ss : List (List UInt8)) (c : UInt8) (m : Nat) (h : ∀ x ∈ ss, x.length ≤ m) : (Lib.join ss [c]).length ≤ (m + 1) * ss.length := by
  induction ss with
  | nil => simp [Lib.join]
  | cons x r ih =>
    have ih := ih fun y hy => h y (List.mem_cons_of_mem _ hy)
    have hx := h x List.mem_cons_self
    cases r with
    | nil => rw [Lib.join_one]; simp; omega
    | cons y r =>
      rw [join_two]
      simp only [List.length_append, List.length_cons, List.length_nil] at *
      have e : (m + 1) * (r.length + 1 + 1) = (m + 1) * (r.length + 1) + (m + 1) := Nat.mul_succ _ _
      omega
theorem intsT_len {zs : List Int} (h : Big zs) : (intsT zs).length ≤ 22 * zs.length := by
  have := joinB_len (zs.map Lib.itoa) 32 21 (fun x hx => by
    obtain ⟨z, hz, rfl⟩ := List.mem_map.1 hx
    have := h z hz
    exact itoa_len z ⟨by omega, by omega⟩)
  rw [List.length_map] at this
  exact this
theorem intsT_snoc {zs : List Int} (h : zs ≠ []) (z : Int) : intsT (zs ++ [z]) = (intsT zs ++ [32]) ++ Lib.itoa z := by
  unfold intsT
  rw [List.map_append]
  induction zs with
  | nil => exact absurd rfl h
  | cons x r ih =>
    cases r with
    | nil =>
      show Lib.join [Lib.itoa x, Lib.itoa z] [32] = _
      rw [join_two, Lib.join_one]
      show _ = (Lib.join [Lib.itoa x] [32] ++ [32]) ++ Lib.itoa z
      rw [Lib.join_one]; simp
    | cons y r =>
      have ih := ih (by simp)
      simp only [List.map_cons, List.cons_append, List.map_nil] at ih ⊢
      rw [join_two, ih, join_two]
      simp
theorem intsT_one (z : Int) : intsT [z] = Lib.itoa z := Lib.join_one _ _
theorem big_take {zs : List Int} (h : Big zs) (k : Nat) : Big (zs.take k) := fun z hz => h z (List.mem_of_mem_take hz)
theorem joinB_any (sep : UInt8) (ss : List (List UInt8)) (A : Option Addr) (n c : Nat) (w : World) (hn : ss.length = n) (hc : n ≤ c) (hs : StrsAt w w.heap.size A ss) (hm : n ≤ 2000000) (hl : (Lib.join ss [sep]).length ≤ 2000000) :
    Calls Tryz.prog 24 #[.slice A n c, .string (bS [sep])] w fun e w' => e = .returned (.string (bS (Lib.join ss [sep]))) ∧ ∃ x, w' = ext w x := by
  by_cases h0 : n = 0
  · subst h0
    obtain rfl := List.length_eq_zero_iff.1 hn
    refine Calls.mono (Any.strings_Join_none (ρ := Tryz.joinS_ren) { Tryz.joinS with } joinX A c (bS [sep]) w) fun e w' hh => ⟨hh.1, ?_⟩
    rw [hh.2]
    exact ext_same w
  · obtain ⟨b, o, rfl, hb, hcs⟩ := hs (by omega)
    have h := Any.strings_Join (ρ := Tryz.joinS_ren) { Tryz.joinS with } joinX b o c (ss.map bS) (bS [sep]) w (fun j x hj => by
      rw [List.getElem?_map] at hj
      cases e : ss[j]? with
      | none => rw [e] at hj; cases hj
      | some y =>
        rw [e] at hj
        cases hj
        have hlt : j < ss.length := (List.getElem?_eq_some_iff.1 e).1
        rw [hcs j hlt, gstr_lt hlt]
        rw [List.getElem?_eq_getElem hlt] at e
        injection e with e
        rw [e]) hb (by rw [List.length_map]; omega) (by rw [List.length_map]; omega) (by rw [map_bS, bS_list]; omega)
    rw [List.length_map, hn, map_bS, bS_list] at h
    exact Calls.mono h fun e w' hh => ⟨hh.1, ext_mk hh.2⟩
theorem int_take {zs : List Int} {k : Nat} (hk : k < zs.length) : (zs.take (k + 1)).map Lib.itoa = (zs.take k).map Lib.itoa ++ [Lib.itoa (gi zs k)] := by
  rw [List.take_succ_eq_append_getElem hk, List.map_append, ← gi_lt hk]; rfl
set_option maxRecDepth 20000 in
set_option maxHeartbeats 4000000 in
theorem told_any (zs : List Int) (A : Option Addr) (n c : Nat) (w : World) (hn : zs.length = n) (hm : n ≤ 1000) (hb : Big zs) (hs : IntsAt w w.heap.size A zs) (ht : Tab w) :
    Calls Tryz.prog 89 #[.slice A n c] w fun e w' => e = .returned (.string (bS (intsT zs))) ∧ ∃ x, w' = ext w x := by
  have HN := hide hn
  have HS := hide hs
  have HB := hide hb
  have TL := intsT_len hb
  have TL2 := hide TL
  have IA := hide (fun (k : Int) (W : World) (hk : -9223372036854775808 < k ∧ k ≤ 9223372036854775807) (hb : Below w.heap.size w W) => itoa_any k W (by omega) (ht.to hb))
  have GB : Hid (∀ i, i < n → -9223372036854775808 < gi zs i ∧ gi zs i ≤ 9223372036854775807) := hide (fun i hi => by rw [gi_lt (by omega)]; exact hb _ (List.getElem_mem _))
  have TK := hide (fun (k : Nat) (hk : k < n) => int_take (zs := zs) (k := k) (by omega))
  obtain ⟨i0, hi, hz0, hz1, hz2⟩ := info_parts strElt.inf
  have IP := hide (And.intro hi (And.intro hz0 (And.intro hz1 hz2)))
  clear hi hz0 hz1 hz2
  have mk1 : i0.bytes * n ≤ 281474976710656 := by rw [IP.out.2.2.2]; omega
  have mk2 : n ≤ maxLen := by unfold maxLen; omega
  clear hn hs hb TL ht
  go_enter Tryz.func89, Tryz.ntmps89
  go_wp2_with (refine wpList_make_own _ rfl (.const (.int .i64 0)) (.tmp 7) 27 rfl w.heap.size 9 i0 _ 1 strElt.und IP.out.1 IP.out.2.1 IP.out.2.2.1 .i64 .i64 _ n rfl rfl rfl mk1 mk2 (Nat.le_refl _) ?_; intro w1 hown1 hgr1; have O1 := hide (show OwnS w1 w.heap.size _ [] from hown1); have B1 := hide ((Below.refl _ _).grown hgr1 (Nat.le_refl _) (fun k hk => by cases hk)); clear hown1 hgr1)
  go_loopw [3, 11] (fun u3 u11 wr => ∃ (k : Nat), k ≤ n ∧ u11 = .int .i64 k ∧ OwnS wr w.heap.size u3 ((zs.take k).map Lib.itoa) ∧ Below w.heap.size w wr) (fun _ u11 _ => n - (intOf u11).toNat)
  case atStart => exact ⟨0, Nat.zero_le _, rfl, O1.out.below (by (repeat' (first | (with_reducible first | exact Below.refl _ _ | assumption | refine below_ext _ ?_ ?_ | refine Below.alloc ?_ ?_ _ | refine Below.drew ?_ | refine below_drewN ?_ _ | refine le_drewN _ ?_ | refine Below.setCell ?_ ?_ _ | exact Nat.le_refl _ | refine le_ext _ ?_ | refine le_alloc _ ?_ | refine le_setCell _ _ ?_ | refine le_drew ?_) | omega | (simp; done) | (simp; omega)))), Below.trans B1.out (by (repeat' (first | (with_reducible first | exact Below.refl _ _ | assumption | refine below_ext _ ?_ ?_ | refine Below.alloc ?_ ?_ _ | refine Below.drew ?_ | refine below_drewN ?_ _ | refine le_drewN _ ?_ | refine Below.setCell ?_ ?_ _ | exact Nat.le_refl _ | refine le_ext _ ?_ | refine le_alloc _ ?_ | refine le_setCell _ _ ?_ | refine le_drew ?_) | omega | (simp; done) | (simp; omega))))⟩
  case round =>
    obtain ⟨k, hk, rfl, hown, hbel⟩ := hrel
    obtain ⟨A0, n0, c0, rfl⟩ := hown.slice
    have hsz := hbel.size
    have OWN0 := hide hown
    clear hown
    by_cases hlt : k < n
    · obtain ⟨b1, o1, rfl, hbl1, hc1⟩ := HS.out (by rw [HN.out]; omega)
      have hx := (hbel.cell (p := ⟨b1, o1 + k, none⟩) hbl1).trans (hc1 k (by rw [HN.out]; omega))
      have gb := GB.out k hlt
      have NX := hide (TK.out k hlt)
      have NL : ((zs.take k).map Lib.itoa).length ≤ 2000000 := by rw [List.length_map, List.length_take]; omega
      clear hc1
      have IZ := hide (fun (W : World) (hb : Below wr.heap.size wr W) => IA.out (gi zs k) W gb (hbel.trans (hb.mono hbel.size)))
      generalize gi zs k = Z at *
      go_wp2_with fail
      refine (IZ.out _ (by (repeat' (first | (with_reducible first | exact Below.refl _ _ | assumption | refine below_ext _ ?_ ?_ | refine Below.alloc ?_ ?_ _ | refine Below.drew ?_ | refine below_drewN ?_ _ | refine le_drewN _ ?_ | refine Below.setCell ?_ ?_ _ | exact Nat.le_refl _ | refine le_ext _ ?_ | refine le_alloc _ ?_ | refine le_setCell _ _ ?_ | refine le_drew ?_) | omega | (simp; done) | (simp; omega))))).mono ?_
      rintro e w' ⟨rfl, hw'⟩; have hzy := ext_sz hw'; obtain ⟨y, rfl⟩ := hw'; (try simp at hzy)
      have O5 := hide (OWN0.out.below (ext_below wr y))
      go_wp2_with (at_builtin; refine app_str rfl _ _ rfl w.heap.size (.slice A0 n0 c0) _ rfl (O5.out.below (by (repeat' (first | (with_reducible first | exact Below.refl _ _ | assumption | refine below_ext _ ?_ ?_ | refine Below.alloc ?_ ?_ _ | refine Below.drew ?_ | refine below_drewN ?_ _ | refine le_drewN _ ?_ | refine Below.setCell ?_ ?_ _ | exact Nat.le_refl _ | refine le_ext _ ?_ | refine le_alloc _ ?_ | refine le_setCell _ _ ?_ | refine le_drew ?_) | omega | (simp; done) | (simp; omega))))) (Lib.itoa Z) _ _ rfl (by simp [go_sem]) NL (by simp; omega) ?_; intro v7 w7 hown7 hb7 hat7 hgr7; obtain ⟨A7, n7, c7, rfl⟩ := hown7.slice; have O7 := hide hown7; have B7 := hide hb7; clear hown7 hb7 hat7 hgr7)
      exact ⟨⟨k + 1, by omega, by go_num, by rw [NX.out]; exact O7.out, Below.trans (Below.trans hbel (by (repeat' (first | (with_reducible first | exact Below.refl _ _ | assumption | refine below_ext _ ?_ ?_ | refine Below.alloc ?_ ?_ _ | refine Below.drew ?_ | refine below_drewN ?_ _ | refine le_drewN _ ?_ | refine Below.setCell ?_ ?_ _ | exact Nat.le_refl _ | refine le_ext _ ?_ | refine le_alloc _ ?_ | refine le_setCell _ _ ?_ | refine le_drew ?_) | omega | (simp; done) | (simp; omega))))) B7.out⟩, by simp [intOf]; omega⟩
    · have e0 : zs.take k = zs := List.take_of_length_le (by rw [HN.out]; omega)
      have OWN1 : Hid (OwnS wr w.heap.size (.slice A0 n0 c0) (zs.map Lib.itoa)) := hide (by have := OWN0.out; rw [e0] at this; exact this)
      clear e0 OWN0
      obtain ⟨l0, l1, _, hst⟩ := OWN1.out.strs
      rw [List.length_map, HN.out] at l0
      have HJ : Hid (Calls Tryz.prog 24 #[.slice A0 n0 c0, .string ⟨#[32]⟩] wr fun e w' => e = .returned (.string (bS (intsT zs))) ∧ ∃ x, w' = ext wr x) := hide (joinB_any 32 (zs.map Lib.itoa) A0 n0 c0 wr (by rw [List.length_map, HN.out]; exact l0) l1 hst (by omega) (by have := TL2.out; rw [HN.out] at this; show (intsT zs).length ≤ _; omega))
      clear l0 l1 hst OWN1
      go_wp2_with fail
      refine HJ.out.mono ?_
      rintro e w' ⟨rfl, hw'⟩; have hzy5 := ext_sz hw'; obtain ⟨y5, rfl⟩ := hw'; (try simp at hzy5)
      go_wp2
      go_ret
      exact ⟨rfl, ext_mk (hbel.trans (Below.mono (show Below wr.heap.size wr _ from (by (repeat' (first | (with_reducible first | exact Below.refl _ _ | assumption | refine below_ext _ ?_ ?_ | refine Below.alloc ?_ ?_ _ | refine Below.drew ?_ | refine below_drewN ?_ _ | refine le_drewN _ ?_ | refine Below.setCell ?_ ?_ _ | exact Nat.le_refl _ | refine le_ext _ ?_ | refine le_alloc _ ?_ | refine le_setCell _ _ ?_ | refine le_drew ?_) | omega | (simp; done) | (simp; omega))))) hbel.size))⟩
set_option maxHeartbeats 2000000 in
theorem fmtInts_any (zs : List Int) (A : Option Addr) (n c : Nat) (w : World) (hn : zs.length = n) (hm : n ≤ 1000) (hb : Big zs) (hs : IntsAt w w.heap.size A zs) :
    Calls Tryz.prog 63 #[.slice A n c] w fun e w' => e = .returned (.string (bS (intsT zs))) ∧ ∃ x, w' = ext w x := by
  have HN := hide hn
  have HS := hide hs
  have GB : Hid (∀ i, i < n → -9223372036854775808 < gi zs i ∧ gi zs i ≤ 9223372036854775807) := hide (fun i hi => by rw [gi_lt (by omega)]; exact hb _ (List.getElem_mem _))
  obtain ⟨FT, hFT⟩ : ∃ FT : Nat → ByteArray, ∀ k, FT k = bS (intsT (zs.take k)) := ⟨_, fun _ => rfl⟩
  have F0 : FT 0 = ⟨#[]⟩ := by rw [hFT 0]; rfl
  have FN : Hid (FT n = bS (intsT zs)) := hide (by rw [hFT n, List.take_of_length_le (by omega)])
  have ST : Hid (∀ k, k < n → ∃ S1 S2 : ByteArray, FT k ++ (⟨#[32]⟩ : ByteArray) = S1 ∧ (k = 0 → FT k ++ S2 = FT (k + 1)) ∧ (0 < k → S1 ++ S2 = FT (k + 1)) ∧ S2 = bS (Lib.itoa (gi zs k)) ∧ ¬ 9223372036854775807 < (FT k).size + (⟨#[32]⟩ : ByteArray).size ∧ ¬ 9223372036854775807 < (FT k).size + S2.size ∧ ¬ 9223372036854775807 < S1.size + S2.size) := hide (fun k hk => by
    have hp := GB.out k hk
    have l1 := intsT_len (big_take hb k)
    rw [List.length_take] at l1
    have l2 := itoa_len (gi zs k) ⟨by omega, by omega⟩
    have i32 : bS [32] = ⟨#[32]⟩ := rfl
    have st : intsT (zs.take (k + 1)) = if k = 0 then Lib.itoa (gi zs k) else (intsT (zs.take k) ++ [32]) ++ Lib.itoa (gi zs k) := by
      rw [List.take_succ_eq_append_getElem (by omega), ← gi_lt (by omega)]
      by_cases h : k = 0
      · subst h
        rw [if_pos rfl]
        exact intsT_one _
      · rw [if_neg h]
        exact intsT_snoc (by intro e; have := congrArg List.length e; rw [List.length_take, List.length_nil] at this; omega) _
    rw [hFT k, hFT (k + 1), ← i32]
    refine ⟨_, _, rfl, fun h => ?_, fun h => ?_, rfl, ?_, ?_, ?_⟩
    · subst h
      rw [st, if_pos rfl, bS_app]; rfl
    · rw [st, if_neg (by omega), bS_app, bS_app]
    · rw [bS_size, bS_size]; simp; omega
    · rw [bS_size, bS_size]; omega
    · rw [bS_app, bS_size, bS_size, List.length_append]; simp; omega)
  have PF := hide (fun (x : Int) (W : World) (hx : -9223372036854775808 < x ∧ x ≤ 9223372036854775807) => sfmt_any x W hx)
  rw [← FN.out]
  clear hn hs hb hFT FN
  go_enter Tryz.func63, Tryz.ntmps63
  go_wp2_with fail
  go_loopw [3, 4] (fun u3 u4 wr => ∃ (k : Nat), k ≤ n ∧ u4 = .int .i64 k ∧ u3 = .string (FT k) ∧ ∃ x, wr = ext w x) (fun _ u4 _ => n - (intOf u4).toNat)
  case atStart => exact ⟨0, Nat.zero_le _, rfl, by rw [F0], ext_same w⟩
  case round =>
    obtain ⟨k, hk, rfl, rfl, x, rfl⟩ := hrel
    by_cases hlt : k < n
    · obtain ⟨b1, o1, rfl, hbl1, hc1⟩ := HS.out (by rw [HN.out]; omega)
      have hx0 := hc1 k (by rw [HN.out]; omega)
      have p1 := GB.out k hlt
      obtain ⟨S1, S2, E1, E2, E3, e9, K1, K2, K3⟩ := ST.out k hlt
      have PP := hide (fun W => PF.out (gi zs k) W p1)
      rw [← e9] at PP
      clear e9 hc1 p1
      generalize gi zs k = X at *
      by_cases h0 : 0 < k
      · have E3 := E3 h0
        have d0 : decide ((0 : Int) < (k : Int)) = true := by simp; omega
        clear E2
        go_wp2_with fail
        refine (PP.out _).mono ?_
        rintro e w' ⟨rfl, hw'⟩; have hzy := ext_sz hw'; obtain ⟨y, rfl⟩ := hw'; (try simp at hzy)
        go_wp2_with fail
        exact ⟨⟨k + 1, by omega, by go_num, rfl, (ext_mk (by (repeat' (first | (with_reducible first | exact Below.refl _ _ | assumption | refine below_ext _ ?_ ?_ | refine Below.alloc ?_ ?_ _ | refine Below.drew ?_ | refine below_drewN ?_ _ | refine le_drewN _ ?_ | refine Below.setCell ?_ ?_ _ | exact Nat.le_refl _ | refine le_ext _ ?_ | refine le_alloc _ ?_ | refine le_setCell _ _ ?_ | refine le_drew ?_) | omega | (simp; done) | (simp; omega)))))⟩, by simp [intOf]; omega⟩
      · have E2 := E2 (by omega)
        have d0 : decide ((0 : Int) < (k : Int)) = false := by simp; omega
        clear E3 E1 K1 K3
        go_wp2_with fail
        refine (PP.out _).mono ?_
        rintro e w' ⟨rfl, hw'⟩; have hzy := ext_sz hw'; obtain ⟨y, rfl⟩ := hw'; (try simp at hzy)
        go_wp2_with fail
        exact ⟨⟨k + 1, by omega, by go_num, rfl, (ext_mk (by (repeat' (first | (with_reducible first | exact Below.refl _ _ | assumption | refine below_ext _ ?_ ?_ | refine Below.alloc ?_ ?_ _ | refine Below.drew ?_ | refine below_drewN ?_ _ | refine le_drewN _ ?_ | refine Below.setCell ?_ ?_ _ | exact Nat.le_refl _ | refine le_ext _ ?_ | refine le_alloc _ ?_ | refine le_setCell _ _ ?_ | refine le_drew ?_) | omega | (simp; done) | (simp; omega)))))⟩, by simp [intOf]; omega⟩
    · have : k = n := by omega
      subst this
      go_wp2
      go_ret
      exact ⟨rfl, (ext_mk (by (repeat' (first | (with_reducible first | exact Below.refl _ _ | assumption | refine below_ext _ ?_ ?_ | refine Below.alloc ?_ ?_ _ | refine Below.drew ?_ | refine below_drewN ?_ _ | refine le_drewN _ ?_ | refine Below.setCell ?_ ?_ _ | exact Nat.le_refl _ | refine le_ext _ ?_ | refine le_alloc _ ?_ | refine le_setCell _ _ ?_ | refine le_drew ?_) | omega | (simp; done) | (simp; omega)))))⟩
set_option maxHeartbeats 400000 in
theorem yes_any (b : Bool) (s t : ByteArray) (w : World) : Calls Tryz.prog 51 #[.bool b, .string s, .string t] w fun e w' => e = .returned (.string (if b = true then s else t)) ∧ w = w' := by
  cases b
  · go_enter Tryz.func51, Tryz.ntmps51
    go_wp2
    go_ret
    exact ⟨rfl, rfl⟩
  · go_enter Tryz.func51, Tryz.ntmps51
    go_wp2
    go_ret
    exact ⟨rfl, rfl⟩
end Go.Proofs.YtnddfdhfefconaaGreatDoor
