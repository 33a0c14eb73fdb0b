
/- DrawCheckGuards. -/
import Derived.Test.YtelhidonhldjeaaGreatDrwT
import Derived.Test.YtelhidonhldjeaaGreatGds
set_option linter.unusedVariables false
set_option linter.unusedSimpArgs false
namespace Go.Proofs.YtelhidonhldjeaaGreat
open Go.RowKit

theorem OwnT.drew {w w' : World} {base B nb c g p p' : Nat} {A : Option Addr} {v : Value} {ts : List TI} (h : OwnT w base v ts) (hd : Drew w w' B A nb c g p p') (hg : g < base) : OwnT w' base v ts :=
  own_block h fun k hk => hd.block k (h.lt2 k hk) (by have := h.lt k hk; omega)
theorem Own.drew {w w' : World} {base B nb c g p p' : Nat} {A : Option Addr} {v : Value} {zs : List Int} (h : Own w base v zs) (hd : Drew w w' B A nb c g p p') (hg : g < base) : Own w' base v zs :=
  own_block h fun k hk => hd.block k (h.lt2 k hk) (by have := h.lt k hk; omega)
theorem ints_two (w : World) (x y : Int) : IntsAt (w.alloc (.cells #[.int .i64 x, .int .i64 y] 3)) (w.alloc (.cells #[.int .i64 x, .int .i64 y] 3)).heap.size (some ⟨w.heap.size, 0, none⟩) [x, y] := fun _ =>
  ⟨w.heap.size, 0, rfl, by simp, fun i hi => (heap_cell (heap_alloc_new w _) _).trans (by
    have hi : i < 2 := hi
    match i, hi with
    | 0, _ => rfl
    | 1, _ => rfl)⟩
theorem some_form {b o k : Nat} : (some (⟨b, o, none⟩ : Addr) = none → k = 0) ∧ ∀ b' o' s, some (⟨b, o, none⟩ : Addr) = some ⟨b', o', s⟩ → s = none :=
  ⟨(fun h => by cases h), (fun b' o' s h => by injection h with h; injection h with _ _ h; exact h.symm)⟩
set_option maxRecDepth 20000 in
set_option maxHeartbeats 2000000 in
theorem drawCkG_any (n c : Nat) (A : Option Addr) (w : World) (hn : n ≤ c) (hc : c ≤ 9223372036854775807) (hA : BytesAt w w.heap.size A n) :
    Calls Tryz.prog 26 #[.slice A n c] w fun e w' => ∃ A1 n1 c1 Z m d G k e' ps ts gs, e = .returned (.tuple #[.slice A1 n1 c1, .slice Z m d, .slice G k e']) ∧ OwnP w' w.heap.size (.slice A1 n1 c1) ps ∧ ps.length ≤ 9 ∧ CB 1001 ps ∧ ts.length = m ∧ m ≤ 1000 ∧ TrisAt w' w'.heap.size Z ts ∧ gs.length = k ∧ k ≤ 1000 ∧ IntsAt w' w'.heap.size G gs ∧ ((G = none → k = 0) ∧ ∀ b o s, G = some ⟨b, o, s⟩ → s = none) ∧ Below w.heap.size w w' := by
  go_enter Tryz.func26, Tryz.ntmps26
  go_wp2_with fail
  refine (newReader_any n c A _ hn hc hA).mono ?_
  rintro e w1 ⟨g, nb, rfl, hg, hnb, hr, hx⟩
  have B1 := ext_bel hx
  have lg := hr.lt
  clear hx
  go_wp2_with fail
  refine (anyPolygon_any _ nb _ g 0 A _ (by omega) hnb hr).mono ?_
  rintro e w2 ⟨v, ps, p2, rfl, hown2, hlen, hcb, hp2, D2⟩
  obtain ⟨A2, n2, c2, rfl⟩ := hown2.slice
  have l2 := hown2.pts.1
  have s2 := D2.size
  have TR := hide (fun (W : World) (hb : Below w2.heap.size w2 W) => sTri_any ps A2 n2 c2 W l2 (by omega) (hown2.pts.2.2.2.to hb))
  have GD := hide (fun (W : World) (hb : Below w2.heap.size w2 W) => sGds_any ps A2 n2 c2 W l2 (by omega) (hown2.pts.2.2.2.to hb))
  have i1 : IntKind.i64.wrap ((n2 : Int) + 1) = ((n2 + 1 : Nat) : Int) := IntWalk.i64_in _ (by omega)
  have O2 := hide hown2
  have DD2 := hide D2
  have TL := hide (triV_len ps)
  have GL := hide (grdV_len ps)
  have OE := hide (fun w => OwnT.empty w w2.heap.size)
  clear hr hown2 D2
  generalize triV ps = TS at *
  generalize grdV ps = GS at *
  go_wp2_with fail
  refine (TR.out _ (by (repeat' (first | (with_reducible first | exact Below.refl _ _ | assumption | refine below_ext _ ?_ ?_ | refine Below.alloc ?_ ?_ _ | refine Below.drew ?_ | refine below_drewN ?_ _ | refine le_drewN _ ?_ | refine Below.setCell ?_ ?_ _ | exact Nat.le_refl _ | refine le_ext _ ?_ | refine le_alloc _ ?_ | refine le_setCell _ _ ?_ | refine le_drew ?_) | omega | (simp; done) | (simp; omega))))).mono ?_
  rintro e w6 ⟨v6, rfl, own6, hx6⟩
  obtain ⟨A6, n6, c6, rfl⟩ := own6.slice
  have R6 := hide own6.tris
  have F6 := hide own6.form
  have E6 := hide (ext_bel hx6)
  have OE6 := hide ((OE.out w2 (Nat.le_refl _)).below E6.out)
  have s6 : w2.heap.size ≤ w6.heap.size := by have := E6.out.size; simp at this; omega
  have W6 := hide ((show Below w2.heap.size w2 _ from (by (repeat' (first | (with_reducible first | exact Below.refl _ _ | assumption | refine below_ext _ ?_ ?_ | refine Below.alloc ?_ ?_ _ | refine Below.drew ?_ | refine below_drewN ?_ _ | refine le_drewN _ ?_ | refine Below.setCell ?_ ?_ _ | exact Nat.le_refl _ | refine le_ext _ ?_ | refine le_alloc _ ?_ | refine le_setCell _ _ ?_ | refine le_drew ?_) | omega | (simp; done) | (simp; omega))))).trans (E6.out.mono (by simp)))
  clear own6 hx6 TR OE
  go_wp2_with (at_builtin; refine app_tris rfl _ _ rfl w2.heap.size _ [] rfl OE6.out A6 n6 c6 _ TS rfl R6.out.1 R6.out.2.2.2 F6.out (Nat.zero_le _) (by have := R6.out.1; have := TL.out; omega) s6 ?_; intro v7 w7 hown7 hb7 hat7 hgr7; obtain ⟨A7, n7, c7, rfl⟩ := hown7.slice; have O7 := hide hown7; have B7 := hide hb7; clear hown7 hat7 hgr7 hb7)
  have WW := hide (W6.out.trans B7.out)
  have s7 := WW.out.size
  have R7 : Hid (TS.length = n7) := hide (by have := O7.out.tris.1; rwa [List.nil_append] at this)
  have k7 : n7 ≤ 1000 := by have := R7.out; have := TL.out; omega
  have EMP := hide (Own.empty w7 w7.heap.size (Nat.le_refl _))
  clear W6 B7 R6 F6 E6 OE6 s6 TL
  refine (GD.out _ (WW.out.trans (by (repeat' (first | (with_reducible first | exact Below.refl _ _ | assumption | refine below_ext _ ?_ ?_ | refine Below.alloc ?_ ?_ _ | refine Below.drew ?_ | refine below_drewN ?_ _ | refine le_drewN _ ?_ | refine Below.setCell ?_ ?_ _ | exact Nat.le_refl _ | refine le_ext _ ?_ | refine le_alloc _ ?_ | refine le_setCell _ _ ?_ | refine le_drew ?_) | omega | (simp; done) | (simp; omega)))))).mono ?_
  rintro e w8 ⟨v8, rfl, own8, hx8⟩
  obtain ⟨A8, n8, c8, rfl⟩ := own_slice own8
  have R8 := hide own8.ints
  have F8 := hide own8.form
  have E8 := hide (ext_bel hx8)
  have OE8 := hide (EMP.out.below E8.out)
  have s8 : w7.heap.size ≤ w8.heap.size := by have := E8.out.size; simp at this; omega
  have W8 := hide ((show Below w7.heap.size w7 _ from (by (repeat' (first | (with_reducible first | exact Below.refl _ _ | assumption | refine below_ext _ ?_ ?_ | refine Below.alloc ?_ ?_ _ | refine Below.drew ?_ | refine below_drewN ?_ _ | refine le_drewN _ ?_ | refine Below.setCell ?_ ?_ _ | exact Nat.le_refl _ | refine le_ext _ ?_ | refine le_alloc _ ?_ | refine le_setCell _ _ ?_ | refine le_drew ?_) | omega | (simp; done) | (simp; omega))))).trans (E8.out.mono (by simp)))
  clear own8 hx8 GD EMP
  go_wp2_with (at_builtin; refine app_ints rfl _ _ rfl w7.heap.size _ [] rfl OE8.out A8 n8 c8 _ GS rfl R8.out.1 R8.out.2.2.2 F8.out (Nat.zero_le _) (by have := R8.out.1; have := GL.out; omega) s8 ?_; intro v9 w9 hown9 hb9 hat9 hgr9; obtain ⟨A9, n9, c9, rfl⟩ := own_slice hown9; have O9 := hide hown9; have B9 := hide hb9; clear hown9 hat9 hgr9 hb9)
  have W79 := hide (W8.out.trans B9.out)
  have W29 := hide (WW.out.trans (W79.out.mono s7))
  have D9 := hide (DD2.out.then W29.out)
  have P9 := hide (O2.out.below W29.out)
  have T9 : Hid (OwnT w9 w2.heap.size (.slice A7 n7 c7) TS) := hide (by have := O7.out.below W79.out; rwa [List.nil_append] at this)
  have I9 : Hid (Own w9 w7.heap.size (.slice A9 n9 c9) GS) := hide (by have := O9.out; rwa [List.nil_append] at this)
  have R9 := hide I9.out.ints.1
  have C9 := I9.out.ints.2.1
  have M9 := I9.out.ints.2.2.1
  unfold maxLen at M9
  have k9 : n9 ≤ 1000 := by have := R9.out; have := GL.out; omega
  have g2 : g < w2.heap.size := by omega
  have g7 : g < w7.heap.size := by omega
  clear O2 DD2 O7 O9 W8 B9 R8 F8 E8 OE8 s8 GL WW W79 W29
  refine (pick_any 4 _ nb _ g p2 A _ (by omega) (by omega) (by omega) hnb D9.out.rd).mono ?_
  rintro e w10 ⟨v10, rfl, hv10, hb10, hr10⟩
  have D10 := hide (D9.out.trans (Drew.of_but (p := p2) hb10 hr10))
  have P10 := hide (P9.out.drew (Drew.of_but (p := p2) hb10 hr10) lg)
  have T10 := hide (T9.out.drew (Drew.of_but (p := p2) hb10 hr10) g2)
  have I10 := hide (I9.out.drew (Drew.of_but (p := p2) hb10 hr10) g7)
  clear hb10 hr10 D9 P9 T9 I9
  by_cases e0 : v10 = 0
  · have t0 : ((v10 : Int) == 0) = true := by rw [e0]; rfl
    clear e0
    go_wp2_with fail
    refine (pick_any (n2 + 1) _ nb _ g (p2 + 1) A _ (by omega) (by omega) (by omega) hnb D10.out.rd).mono ?_
    rintro e w11 ⟨v11, rfl, hv11, hb11, hr11⟩
    have D11 := hide (D10.out.trans (Drew.of_but (p := p2 + 1) hb11 hr11))
    have P11 := hide (P10.out.drew (Drew.of_but (p := p2 + 1) hb11 hr11) lg)
    have T11 := hide (T10.out.drew (Drew.of_but (p := p2 + 1) hb11 hr11) g2)
    clear hb11 hr11 D10 P10 T10 I10
    go_wp2_with fail
    refine (pick_any (n2 + 1) _ nb _ g (p2 + 1 + 1) A _ (by omega) (by omega) (by omega) hnb D11.out.rd).mono ?_
    rintro e w12 ⟨v12, rfl, hv12, hb12, hr12⟩
    have D12 := hide (D11.out.trans (Drew.of_but (p := p2 + 1 + 1) hb12 hr12))
    have P12 := hide (P11.out.drew (Drew.of_but (p := p2 + 1 + 1) hb12 hr12) lg)
    have T12 := hide (T11.out.drew (Drew.of_but (p := p2 + 1 + 1) hb12 hr12) g2)
    clear hb12 hr12 D11 P11 T11
    have BA : Hid (Below w12.heap.size w12 (w12.alloc (.cells #[.int .i64 (v11 : Int), .int .i64 (v12 : Int)] 3))) := hide (by (repeat' (first | (with_reducible first | exact Below.refl _ _ | assumption | refine below_ext _ ?_ ?_ | refine Below.alloc ?_ ?_ _ | refine Below.drew ?_ | refine below_drewN ?_ _ | refine le_drewN _ ?_ | refine Below.setCell ?_ ?_ _ | exact Nat.le_refl _ | refine le_ext _ ?_ | refine le_alloc _ ?_ | refine le_setCell _ _ ?_ | refine le_drew ?_) | omega | (simp; done) | (simp; omega))))
    have BF := hide ((B1.trans (D12.out.below hg B1.size)).trans (BA.out.mono (B1.trans (D12.out.below hg B1.size)).size))
    have PF := hide ((P12.out.below BA.out).base B1.size)
    have TF := hide (T12.out.below BA.out).tris.2.2.2
    have IF := hide (ints_two w12 (v11 : Int) (v12 : Int))
    go_wp2_with fail
    ((try simp only [Exit.inBlock, Exit.then]); refine bodyPost_ret (by simp [results, Tryz.results26, go_sem, ↓IntWalk.iteOmega]; try rfl) rfl ?_)
    exact ⟨_, _, _, _, _, _, _, _, _, ps, TS, _, rfl, PF.out, hlen, hcb, R7.out, k7, TF.out, rfl, by omega, IF.out, some_form, BF.out⟩
  · have t0 : ((v10 : Int) == 0) = false := by rw [beq_eq_false_iff_ne]; omega
    have BF := hide (B1.trans (D10.out.below hg B1.size))
    have PF := hide (P10.out.base B1.size)
    have TF := hide T10.out.tris.2.2.2
    have IF := hide I10.out.ints.2.2.2
    have FF := hide I10.out.form
    by_cases e1 : v10 = 1
    · have t1 : ((v10 : Int) == 1) = true := by rw [e1]; rfl
      by_cases hz : n9 = 0
      · have d0 : decide ((0 : Int) < (n9 : Int)) = false := decide_eq_false (by omega)
        have z0 : ¬ 0 < n9 := by omega
        clear e0 e1 hz D10 P10 T10 I10
        go_wp2_with fail
        ((try simp only [Exit.inBlock, Exit.then]); refine bodyPost_ret (by simp [results, Tryz.results26, go_sem, ↓IntWalk.iteOmega]; try rfl) rfl ?_)
        exact ⟨_, _, _, _, _, _, _, _, _, ps, TS, GS, rfl, PF.out, hlen, hcb, R7.out, k7, TF.out, R9.out, k9, IF.out, FF.out, BF.out⟩
      · have d0 : decide ((0 : Int) < (n9 : Int)) = true := decide_eq_true (by omega)
        have z0 : 0 < n9 := by omega
        obtain ⟨gb, hA9, _, _, _, _⟩ := I10.out.head z0
        subst hA9
        have j1 : (1 : Int) ≤ (n9 : Int) := by omega
        have j2 : (1 : Int) ≤ (c9 : Int) := by omega
        have j3 : 1 ≤ n9 := z0
        have j4 : 1 ≤ c9 := by omega
        have j5 : ((n9 : Int) - 1).toNat = n9 - 1 := by omega
        have k10 : n9 - 1 ≤ 1000 := by omega
        have CUT := hide (IF.out.cut (a := 1) (m := n9 - 1) (by rw [R9.out]; omega))
        have CL : Hid (((GS.drop 1).take (n9 - 1)).length = n9 - 1) := hide (by rw [List.length_take, List.length_drop, R9.out]; omega)
        clear e0 e1 hz D10 P10 T10 I10
        by_cases hcap : c9 = 1
        · have HZ : Hid (([] : List Int).length = n9 - 1) := hide (by show 0 = n9 - 1; omega)
          go_wp2_with fail
          ((try simp only [Exit.inBlock, Exit.then]); refine bodyPost_ret (by simp [results, Tryz.results26, go_sem, ↓IntWalk.iteOmega]; try rfl) rfl ?_)
          exact ⟨_, _, _, _, _, _, _, _, _, ps, TS, [], rfl, PF.out, hlen, hcb, R7.out, k7, TF.out, HZ.out, k10, fun h => absurd h (Nat.lt_irrefl 0), some_form, BF.out⟩
        · go_wp2_with fail
          ((try simp only [Exit.inBlock, Exit.then]); refine bodyPost_ret (by simp [results, Tryz.results26, go_sem, ↓IntWalk.iteOmega]; try rfl) rfl ?_)
          exact ⟨_, _, _, _, _, _, _, _, _, ps, TS, _, rfl, PF.out, hlen, hcb, R7.out, k7, TF.out, CL.out, k10, CUT.out, some_form, BF.out⟩
    · have t1 : ((v10 : Int) == 1) = false := by rw [beq_eq_false_iff_ne]; omega
      clear e0 e1 D10 P10 T10 I10
      go_wp2_with fail
      ((try simp only [Exit.inBlock, Exit.then]); refine bodyPost_ret (by simp [results, Tryz.results26, go_sem, ↓IntWalk.iteOmega]; try rfl) rfl ?_)
      exact ⟨_, _, _, _, _, _, _, _, _, ps, TS, GS, rfl, PF.out, hlen, hcb, R7.out, k7, TF.out, R9.out, k9, IF.out, FF.out, BF.out⟩
end Go.Proofs.YtelhidonhldjeaaGreat
