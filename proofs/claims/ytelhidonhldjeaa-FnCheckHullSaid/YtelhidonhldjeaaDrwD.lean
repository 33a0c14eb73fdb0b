
/- DrawCheckHull. -/
import Derived.Test.YtelhidonhldjeaaDrwC
set_option linter.unusedVariables false
set_option linter.unusedSimpArgs false
namespace Go.Proofs.Ytelhidonhldjeaa
open Go.RowKit

theorem hullL_len (ps : List Pt) : (hullL ps).length ≤ ps.length := by
  unfold hullL
  split
  · exact hullOf_len' ps
  · exact Nat.zero_le _
set_option maxRecDepth 20000 in
set_option maxHeartbeats 2000000 in
theorem drawChk_any (n c : Nat) (A : Option Addr) (w : World) (hn : n ≤ c) (hc : c ≤ 9223372036854775807) (hA : BytesAt w w.heap.size A n) :
    Calls Try.prog 35 #[.slice A n c] w fun e w' => ∃ (A1 B1 Z1 : Option Addr) (n1 c1 m1 d1 r1 f1 : Nat) (ps hs : List Pt) (zss : List (List Int)), e = .returned (.tuple #[.slice A1 n1 c1, .slice B1 m1 d1, .slice Z1 r1 f1]) ∧ ps.length = n1 ∧ hs.length = m1 ∧ n1 ≤ 1000 ∧ m1 ≤ 1000 ∧ r1 ≤ 1000 ∧ Plain A1 n1 ∧ Plain B1 m1 ∧ PtsAt w' w'.heap.size A1 ps ∧ PtsAt w' w'.heap.size B1 hs ∧ RowsAt w' Z1 r1 zss ∧ Below w.heap.size w w' := by
  go_enter Try.func35, Try.ntmps35
  go_wp2_with fail
  refine (newReader_any n c A _ hn hc hA).mono ?_
  rintro e w1 ⟨g, nb, rfl, hg, hnb, hr, hx⟩
  have B1 := ext_bel hx
  have lg := hr.lt
  clear hx
  go_wp2_with fail
  refine (anyPoints_any 8 _ nb _ g 0 A _ (by omega) (by omega) hnb hr).mono ?_
  rintro e w2 ⟨v, ps, p2, rfl, hown2, hlen, hcb, hp2, D2⟩
  obtain ⟨A2, n2, c2, rfl⟩ := hown2.slice
  have l2 := hide hown2.pts.1
  have P2 := hide hown2.pts.2.2.2
  have F2 := hide hown2.form.1
  have k2 : n2 ≤ 21 := by have := l2.out; omega
  have O2 := hide hown2
  have OLT : Hid (∀ k, (Value.slice A2 n2 c2).ownBlock = some k → k < w2.heap.size) := hide hown2.lt2
  have DD2 := hide D2
  have s2 := D2.size
  clear hr hown2 D2 hcb
  have E2 := hide (OwnP.empty w2 w2.heap.size 0 (Nat.le_refl _) #[] rfl (by simp [maxLen]))
  have DA2 := hide (DD2.out.then (show Below w2.heap.size w2 (w2.alloc (.cells #[] 39)) from (by (repeat' (first | (with_reducible exact Below.refl _ _) | (with_reducible assumption) | (with_reducible refine below_ext _ ?_ ?_) | (with_reducible refine Below.alloc ?_ ?_ _) | (with_reducible refine Below.drew ?_) | (with_reducible refine below_drewN ?_ _) | (with_reducible refine le_drewN _ ?_) | (with_reducible refine Below.setCell ?_ ?_ _) | (with_reducible exact Nat.le_refl _) | (with_reducible refine le_ext _ ?_) | (with_reducible refine le_alloc _ ?_) | (with_reducible refine le_setCell _ _ ?_) | (with_reducible refine le_drew ?_) | omega | (simp; done) | (simp; omega))))))
  have OA2 := hide (O2.out.below (show Below w2.heap.size w2 (w2.alloc (.cells #[] 39)) from (by (repeat' (first | (with_reducible exact Below.refl _ _) | (with_reducible assumption) | (with_reducible refine below_ext _ ?_ ?_) | (with_reducible refine Below.alloc ?_ ?_ _) | (with_reducible refine Below.drew ?_) | (with_reducible refine below_drewN ?_ _) | (with_reducible refine le_drewN _ ?_) | (with_reducible refine Below.setCell ?_ ?_ _) | (with_reducible exact Nat.le_refl _) | (with_reducible refine le_ext _ ?_) | (with_reducible refine le_alloc _ ?_) | (with_reducible refine le_setCell _ _ ?_) | (with_reducible refine le_drew ?_) | omega | (simp; done) | (simp; omega))))))
  have SA2 : (w2.alloc (.cells #[] 39)).heap.size = w2.heap.size + 1 := size_alloc _ _
  go_wp2_with fail
  refine (shullO_any ps A2 n2 c2 _ l2.out (by omega) OA2.out.pts.2.2.2).mono ?_
  rintro e w3 ⟨v3, rfl, own3, hx3⟩
  obtain ⟨A3, n3, c3, rfl⟩ := own3.slice
  have l3 := own3.pts.1
  have k3 : n3 ≤ 21 := by have := hullL_len ps; have := l2.out; omega
  have P3 := hide own3.pts.2.2.2
  have F3 := hide own3.form.1
  have L3 := hide l3
  have E3 := hide (ext_bel hx3)
  have S3 := E3.out.size
  have D3 := hide (DA2.out.then E3.out)
  have B23 := hide ((show Below w2.heap.size w2 (w2.alloc (.cells #[] 39)) from (by (repeat' (first | (with_reducible exact Below.refl _ _) | (with_reducible assumption) | (with_reducible refine below_ext _ ?_ ?_) | (with_reducible refine Below.alloc ?_ ?_ _) | (with_reducible refine Below.drew ?_) | (with_reducible refine below_drewN ?_ _) | (with_reducible refine le_drewN _ ?_) | (with_reducible refine Below.setCell ?_ ?_ _) | (with_reducible exact Nat.le_refl _) | (with_reducible refine le_ext _ ?_) | (with_reducible refine le_alloc _ ?_) | (with_reducible refine le_setCell _ _ ?_) | (with_reducible refine le_drew ?_) | omega | (simp; done) | (simp; omega))))).trans (E3.out.mono (by rw [SA2]; omega)))
  have EM3 := hide (E2.out.below E3.out)
  have S23 : w2.heap.size ≤ w3.heap.size := B23.out.size
  clear own3 hx3 l3
  go_wp2_with (at_builtin; refine app_pts rfl (.tmp 13) (.tmp 15) rfl w2.heap.size (.slice (some ⟨w2.heap.size, 0, none⟩) 0 0) [] rfl EM3.out A3 n3 c3 w3.heap.size (hullL ps) rfl L3.out P3.out F3.out.1 F3.out.2 (Nat.zero_le _) (by omega) S23 ?_; intro v4 w4 hown4 hb4 hat4 hgr4; obtain ⟨A4, n4, c4, rfl⟩ := hown4.slice; have O4 := hide hown4; have B24 := hide (B23.out.trans hb4); have D4 := hide (D3.out.grown hgr4 (fun k hk => by cases hk; exact s2) lg); clear hown4 hat4 hgr4 hb4)
  have OHT : Hid (∀ k, (Value.slice A4 n4 c4).ownBlock = some k → k < w4.heap.size) := hide O4.out.lt2
  have EV4 := hide (OwnV.empty w4 w4.heap.size 0 (Nat.le_refl _) #[] rfl (by simp [maxLen]))
  have BA4 := hide (show Below w4.heap.size w4 (w4.alloc (.cells #[] 65)) from (by (repeat' (first | (with_reducible exact Below.refl _ _) | (with_reducible assumption) | (with_reducible refine below_ext _ ?_ ?_) | (with_reducible refine Below.alloc ?_ ?_ _) | (with_reducible refine Below.drew ?_) | (with_reducible refine below_drewN ?_ _) | (with_reducible refine le_drewN _ ?_) | (with_reducible refine Below.setCell ?_ ?_ _) | (with_reducible exact Nat.le_refl _) | (with_reducible refine le_ext _ ?_) | (with_reducible refine le_alloc _ ?_) | (with_reducible refine le_setCell _ _ ?_) | (with_reducible refine le_drew ?_) | omega | (simp; done) | (simp; omega)))))
  have SA4 : (w4.alloc (.cells #[] 65)).heap.size = w4.heap.size + 1 := size_alloc _ _
  have OL4 := hide (O2.out.below B24.out)
  have S24 := B24.out.size
  refine (sHwit_any ps A2 n2 c2 _ l2.out (by omega) (OL4.out.below BA4.out).pts.2.2.2).mono ?_
  rintro e w6 ⟨A6, n6, c6, zss, rfl, R6, hW6, hx6⟩
  have B6 := hide (ext_bel hx6)
  have S6 := B6.out.size
  obtain ⟨lz6, f6a, f6b, vs, no6, V6, LV6, C6⟩ := R6
  have lvs : vs.length = n6 := by rw [V6.len]; exact lz6
  have k6 : n6 ≤ 21 := by
    split at hW6
    · have := hW6.1; omega
    · rw [hW6] at lz6; simp at lz6; omega
  have D6 := hide ((D4.out.then BA4.out).then B6.out)
  have B46 := hide (BA4.out.trans (B6.out.mono (by rw [SA4]; omega)))
  have EM6 := hide (EV4.out.below B6.out)
  have V6b := hide (V6.own LV6 (no' := some w4.heap.size) (fun k hk => by cases hk; rw [SA4]; omega))
  have SR6 : Hid (Src w6 A6 vs) := hide (fun h0 => by obtain ⟨g', o, e, _, hcc⟩ := C6 (by omega); exact ⟨g', o, e, hcc⟩)
  have S46 : w4.heap.size ≤ w6.heap.size := B46.out.size
  have FA6 := hide (And.intro f6a f6b)
  have LVh := hide LV6
  have LZ6 := hide lz6
  have LVS := hide lvs
  have W14 : w1.heap.size ≤ w4.heap.size := by omega
  clear hW6 hx6 V6 LV6 C6 f6a f6b lz6 lvs
  go_wp2_with (at_builtin; refine app_vals rfl (.tmp 17) (.tmp 19) rfl w4.heap.size (.slice (some ⟨w4.heap.size, 0, none⟩) 0 0) [] rfl EM6.out A6 n6 c6 vs rfl LVS.out SR6.out FA6.out.1 FA6.out.2 V6b.out.one (Nat.zero_le _) (by omega) S46 ?_; intro v7 w7 hown7 hb7 hat7 hgr7; obtain ⟨A7, n7, c7, rfl⟩ := hown7.slice; have OV7 := hide hown7; have V7 := hide (V6b.out.grown hgr7 hat7); have B47 := hide (B46.out.trans hb7); have D7 := hide (D6.out.grown hgr7 (fun k hk => by cases hk; exact W14) lg); clear hown7 hat7 hgr7 hb7)
  have OL7 := hide (OL4.out.below B47.out)
  have OH7 := hide (O4.out.below B47.out)
  rw [List.nil_append] at OV7 OH7
  have S47 := B47.out.size
  have ln4 := hide OH7.out.pts.1
  have ln7 : Hid (zss.length = n7) := hide (by rw [LZ6.out]; have := OV7.out.vals.1; have := LVS.out; omega)
  have k4 : n4 ≤ 21 := by have := hullL_len ps; have := l2.out; have := ln4.out; omega
  have k7 : n7 ≤ 21 := by have := ln7.out; have := LZ6.out; omega
  have lo4 : g < (w4.alloc (.cells #[] 65)).heap.size := by omega
  go_wp2_with fail
  refine (pick_any 8 _ nb _ g p2 A _ (by omega) (by omega) (by omega) hnb D7.out.rd).mono ?_
  rintro e w8 ⟨v8, rfl, hv8, hb8, hr8⟩
  have D8 := hide (D7.out.trans (Drew.of_but (p := p2) hb8 hr8))
  have OL8 := hide (OL7.out.drew (Drew.of_but (p := p2) hb8 hr8) lg)
  have OH8 := hide (OH7.out.drew (Drew.of_but (p := p2) hb8 hr8) (by omega))
  have OV8 := hide (OV7.out.drew (Drew.of_but (p := p2) hb8 hr8) (by omega))
  have V8 := hide (V7.out.drew LVh.out (Drew.of_but (p := p2) hb8 hr8) lo4)
  have R8 := hide (OV8.out.rows V8.out)
  have BF8 := hide (B1.trans (D8.out.below hg B1.size))
  have FH8 := hide OH8.out.form.1
  have s8 := D8.out.size
  have s78 : w7.heap.size ≤ w8.heap.size := Nat.le_of_eq hb8.size.symm
  clear hb8 hr8
  by_cases h0 : v8 = 0
  · have e0 : ((v8 : Int) == 0) = true := by rw [beq_iff_eq]; omega
    clear h0
    by_cases hh : 1 < n4
    · have d0 : decide ((1 : Int) < (n4 : Int)) = true := decide_eq_true (by omega)
      obtain ⟨gb, rfl, hgb, hgl, _, _⟩ := OH8.out.head (by omega)
      have PC := hide (OH8.out.pts.2.2.2.cut (a := 1) (m := n4 - 1) (by have := ln4.out; omega))
      have q0 := OH8.out.pts.2.1
      have hq : ¬ c4 = 1 := by omega
      have q1 : (1 : Int) ≤ (n4 : Int) := by omega
      have q2 : (n4 : Int) ≤ (c4 : Int) := by omega
      have q3 : (1 : Int) ≤ (c4 : Int) := by omega
      go_wp2_with fail
      ((try simp only [Exit.inBlock, Exit.then]); refine bodyPost_ret (by simp [results, Try.results35, go_sem, ↓IntWalk.iteOmega]; try rfl) rfl ?_)
      exact ⟨A2, _, A7, n2, c2, n4 - 1, c4 - 1, n7, c7, ps, _, zss, rfl, l2.out, by rw [List.length_take, List.length_drop, ln4.out]; omega, by omega, by omega, by omega, F2.out, Plain.some, OL8.out.pts.2.2.2, PC.out, R8.out, BF8.out⟩
    · have d0 : decide ((1 : Int) < (n4 : Int)) = false := decide_eq_false (by omega)
      go_wp2_with fail
      ((try simp only [Exit.inBlock, Exit.then]); refine bodyPost_ret (by simp [results, Try.results35, go_sem, ↓IntWalk.iteOmega]; try rfl) rfl ?_)
      exact ⟨A2, A4, A7, n2, c2, n4, c4, n7, c7, ps, hullL ps, zss, rfl, l2.out, ln4.out, by omega, by omega, by omega, F2.out, FH8.out, OL8.out.pts.2.2.2, OH8.out.pts.2.2.2, R8.out, BF8.out⟩
  have e0 : ((v8 : Int) == 0) = false := by rw [beq_eq_false_iff_ne]; omega
  by_cases h1 : v8 = 1
  · have e1 : ((v8 : Int) == 1) = true := by rw [beq_iff_eq]; omega
    clear h0 h1
    go_wp2_with fail
    refine (randomPoint_any _ nb _ g (p2 + 1) A _ (by omega) hnb D8.out.rd).mono ?_
    rintro e w9 ⟨x, y, rfl, hx9, hy9, D9r⟩
    have D9 := hide (D8.out.trans D9r)
    have B9 := hide (show Below w9.heap.size w9 (w9.alloc (.cells #[.int .i64 x, .int .i64 y] 39)) from (by (repeat' (first | (with_reducible exact Below.refl _ _) | (with_reducible assumption) | (with_reducible refine below_ext _ ?_ ?_) | (with_reducible refine Below.alloc ?_ ?_ _) | (with_reducible refine Below.drew ?_) | (with_reducible refine below_drewN ?_ _) | (with_reducible refine le_drewN _ ?_) | (with_reducible refine Below.setCell ?_ ?_ _) | (with_reducible exact Nat.le_refl _) | (with_reducible refine le_ext _ ?_) | (with_reducible refine le_alloc _ ?_) | (with_reducible refine le_setCell _ _ ?_) | (with_reducible refine le_drew ?_) | omega | (simp; done) | (simp; omega)))))
    have OL9 := hide ((OL8.out.drew D9r lg).below B9.out)
    have OH9 := hide ((OH8.out.drew D9r (by omega)).below B9.out)
    have OV9 := hide ((OV8.out.drew D9r (by omega)).below B9.out)
    have V9 := hide ((V8.out.drew LVh.out D9r lo4).below B9.out)
    have s9 := D9r.size
    have sz9 : w2.heap.size ≤ (w9.alloc (.cells #[.int .i64 x, .int .i64 y] 39)).heap.size := by have := B9.out.size; omega
    have k9 : (hullL ps).length ≤ 2000000 := by rw [ln4.out]; omega
    have DA9 := hide (D9.out.then B9.out)
    have LS9 := hide OH9.out.lt
    clear D9r
    go_wp2_with (at_builtin; refine app_pt rfl (.tmp 32) (.tmp 35) rfl w2.heap.size (.slice A4 n4 c4) (hullL ps) rfl OH9.out x y w9.heap.size 1 rfl ((heap_cell (heap_alloc_new _ _) 0).trans rfl) ((heap_cell (heap_alloc_new _ _) 1).trans rfl) k9 sz9 ?_; intro v10 w10 hown10 hb10 hat10 hgr10; obtain ⟨A10, n10, c10, rfl⟩ := hown10.slice; have O10 := hide hown10; have D10 := hide (DA9.out.grown hgr10 (fun k hk => by have := LS9.out k hk; omega) lg); have OL10 := hide (show OwnP w10 w1.heap.size (.slice A2 n2 c2) ps from own_far OL9.out hgr10 (fun k hk e => by have := LS9.out k e.symm; have := OLT.out k hk; omega)); have OV10 := hide (show OwnV w10 w4.heap.size (.slice A7 n7 c7) vs from own_far OV9.out hgr10 (fun k hk e => by have := OHT.out k e.symm; have := OV9.out.lt k hk; omega)); have V10 := hide (V9.out.far LVh.out hgr10 (fun k hk => by have := OHT.out k hk; omega)); clear hown10 hb10 hat10 hgr10)
    have R10 := hide (OV10.out.rows V10.out)
    have BF10 := hide (B1.trans (D10.out.below hg B1.size))
    have l10 := hide O10.out.pts.1
    have FH10 := hide O10.out.form.1
    go_wp2_with fail
    ((try simp only [Exit.inBlock, Exit.then]); refine bodyPost_ret (by simp [results, Try.results35, go_sem, ↓IntWalk.iteOmega]; try rfl) rfl ?_)
    exact ⟨A2, A10, A7, n2, c2, n10, c10, n7, c7, ps, _, zss, rfl, l2.out, l10.out, by omega, by have := l10.out; rw [List.length_append, ln4.out] at this; simp at this; omega, by omega, F2.out, FH10.out, OL10.out.pts.2.2.2, O10.out.pts.2.2.2, R10.out, BF10.out⟩
  have e1 : ((v8 : Int) == 1) = false := by rw [beq_eq_false_iff_ne]; omega
  by_cases h2 : v8 = 2
  · have e2 : ((v8 : Int) == 2) = true := by rw [beq_iff_eq]; omega
    clear h0 h1 h2
    by_cases hh : 0 < n7
    · have d0 : decide ((0 : Int) < (n7 : Int)) = true := decide_eq_true (by omega)
      obtain ⟨g7, rfl, _⟩ := OV8.out.vals.2.2.2 (by have := OV8.out.vals.1; omega)
      go_wp2_with fail
      refine (pick_any n7 _ nb _ g (p2 + 1) A _ (by omega) (by omega) (by omega) hnb D8.out.rd).mono ?_
      rintro e w9 ⟨v9, rfl, hv9, hb9, hr9⟩
      have D9 := hide (Drew.of_but (p := p2 + 1) hb9 hr9)
      clear hb9 hr9
      go_wp2_with fail
      refine (pick_any 4 _ nb _ g (p2 + 1 + 1) A _ (by omega) (by omega) (by omega) hnb D9.out.rd).mono ?_
      rintro e w10 ⟨v10, rfl, hv10, hb10, hr10⟩
      have D10 := hide (D9.out.trans (Drew.of_but (p := p2 + 1 + 1) hb10 hr10))
      clear hb10 hr10
      go_wp2_with fail
      refine (pick_any 4 _ nb _ g (p2 + 1 + 1 + 1) A _ (by omega) (by omega) (by omega) hnb D10.out.rd).mono ?_
      rintro e w11 ⟨v11, rfl, hv11, hb11, hr11⟩
      have D11 := hide (D10.out.trans (Drew.of_but (p := p2 + 1 + 1 + 1) hb11 hr11))
      clear hb11 hr11
      go_wp2_with fail
      refine (pick_any 4 _ nb _ g (p2 + 1 + 1 + 1 + 1) A _ (by omega) (by omega) (by omega) hnb D11.out.rd).mono ?_
      rintro e w12 ⟨v12, rfl, hv12, hb12, hr12⟩
      have D12 := hide (D11.out.trans (Drew.of_but (p := p2 + 1 + 1 + 1 + 1) hb12 hr12))
      clear hb12 hr12
      have i1 : IntKind.i64.wrap ((v12 : Int) - 1) = (v12 : Int) - 1 := IntWalk.i64_in _ (by omega)
      have B12 := hide (show Below w12.heap.size w12 (w12.alloc (.cells #[.int .i64 v10, .int .i64 v11, .int .i64 ((v12 : Int) - 1)] 3)) from (by (repeat' (first | (with_reducible exact Below.refl _ _) | (with_reducible assumption) | (with_reducible refine below_ext _ ?_ ?_) | (with_reducible refine Below.alloc ?_ ?_ _) | (with_reducible refine Below.drew ?_) | (with_reducible refine below_drewN ?_ _) | (with_reducible refine le_drewN _ ?_) | (with_reducible refine Below.setCell ?_ ?_ _) | (with_reducible exact Nat.le_refl _) | (with_reducible refine le_ext _ ?_) | (with_reducible refine le_alloc _ ?_) | (with_reducible refine le_setCell _ _ ?_) | (with_reducible refine le_drew ?_) | omega | (simp; done) | (simp; omega)))))
      have OL12 := hide ((OL8.out.drew D12.out lg).below B12.out)
      have OH12 := hide ((OH8.out.drew D12.out (by omega)).below B12.out)
      have OV12 := hide ((OV8.out.drew D12.out (by omega)).below B12.out)
      have V12 := hide ((V8.out.drew LVh.out D12.out lo4).below B12.out)
      have s12 := D12.out.size
      obtain ⟨gl, gs, gf, gc⟩ := OV12.out.cells
      obtain ⟨u, gu⟩ := gc v9 hv9
      have f0 := gf v9
      have q1 : (0 : Int) ≤ (v9 : Int) := by omega
      have q2 : (v9 : Int) < (n7 : Int) := by omega
      have ne7 : w12.heap.size ≠ g7 := by have := (World.ownsRow.lt (OV8.out.drew D12.out (by omega)) g7 rfl).2; omega
      have IA : Hid (IntsAt (w12.alloc (.cells #[.int .i64 v10, .int .i64 v11, .int .i64 ((v12 : Int) - 1)] 3)) (w12.alloc (.cells #[.int .i64 v10, .int .i64 v11, .int .i64 ((v12 : Int) - 1)] 3)).heap.size (some ⟨w12.heap.size, 0, none⟩) [(v10 : Int), (v11 : Int), (v12 : Int) - 1]) := hide (IntsAt.row (RowAt.lits w12 3 [(v10 : Int), (v11 : Int), (v12 : Int) - 1] _ rfl) (Nat.le_refl _))
      have SR := hide (OV12.out.setRow V12.out hv9 (show ([(v10 : Int), (v11 : Int), (v12 : Int) - 1] : List Int).length = 3 from rfl) IA.out (by simp) ne7)
      have OLS := hide (OL12.out.far (q := ⟨g7, v9, none⟩) (fun k hk => by have := OLT.out k hk; show k ≠ g7; omega) (.slice (some ⟨w12.heap.size, 0, none⟩) 3 3))
      have OHS := hide (OH12.out.far (q := ⟨g7, v9, none⟩) (fun k hk => by have := OHT.out k hk; show k ≠ g7; omega) (.slice (some ⟨w12.heap.size, 0, none⟩) 3 3))
      have BFS := hide (((B1.trans (D8.out.below hg B1.size)).trans ((D12.out.below hg (by have := B1.size; omega)).trans (B12.out.mono (by have := B1.size; omega)))).setCell (p := ⟨g7, v9, none⟩) (show w.heap.size ≤ g7 by have := B1.size; omega) (.slice (some ⟨w12.heap.size, 0, none⟩) 3 3))
      clear gf gc
      go_wp2_with fail
      ((try simp only [Exit.inBlock, Exit.then]); refine bodyPost_ret (by simp [results, Try.results35, go_sem, ↓IntWalk.iteOmega]; try rfl) rfl ?_)
      exact ⟨A2, A4, _, n2, c2, n4, c4, n7, c7, ps, hullL ps, _, rfl, l2.out, ln4.out, by omega, by omega, by omega, F2.out, FH8.out, OLS.out.pts.2.2.2, OHS.out.pts.2.2.2, SR.out, BFS.out⟩
    · have d0 : decide ((0 : Int) < (n7 : Int)) = false := decide_eq_false (by omega)
      go_wp2_with fail
      ((try simp only [Exit.inBlock, Exit.then]); refine bodyPost_ret (by simp [results, Try.results35, go_sem, ↓IntWalk.iteOmega]; try rfl) rfl ?_)
      exact ⟨A2, A4, A7, n2, c2, n4, c4, n7, c7, ps, hullL ps, zss, rfl, l2.out, ln4.out, by omega, by omega, by omega, F2.out, FH8.out, OL8.out.pts.2.2.2, OH8.out.pts.2.2.2, R8.out, BF8.out⟩
  have e2 : ((v8 : Int) == 2) = false := by rw [beq_eq_false_iff_ne]; omega
  by_cases h3 : v8 = 3
  · have e3 : ((v8 : Int) == 3) = true := by rw [beq_iff_eq]; omega
    clear h0 h1 h2 h3
    by_cases hh : 2 < n4
    · have d0 : decide ((2 : Int) < (n4 : Int)) = true := decide_eq_true (by omega)
      obtain ⟨gb, rfl, hgb, hgl, hfr, hcs⟩ := OH8.out.head (by omega)
      obtain ⟨x0, y0⟩ := hcs 0 (by omega)
      have q0 := OH8.out.pts.2.1
      have hq1 : ¬ c4 = 1 := by omega
      have hq2 : (1 : Int) ≤ (n4 : Int) := by omega
      have hq3 : (n4 : Int) ≤ (c4 : Int) := by omega
      have hq4 : (1 : Int) ≤ (c4 : Int) := by omega
      have hq5 : (0 : Int) < (n4 : Int) := by omega
      have hq6 : 0 < n4 := by omega
      have PTD : Hid (∀ W, Below w8.heap.size w8 W → PtsAt W w8.heap.size (some ⟨gb, 0 + 1 * 2, none⟩) (((hullL ps).drop 1).take (n4 - 1))) := hide (fun W hW => (OH8.out.pts.2.2.2.cut (a := 1) (m := n4 - 1) (by have := ln4.out; omega)).below hW)
      rw [List.take_of_length_le (by rw [List.length_drop, ln4.out]; omega)] at PTD
      have LD : Hid (((hullL ps).drop 1).length = n4 - 1) := hide (by rw [List.length_drop, ln4.out])
      clear hfr hcs hgb OH8 ln4
      generalize hullL ps = hs at *
      change w8.cell? ⟨gb, 0, none⟩ = _ at x0
      change w8.cell? ⟨gb, 1, none⟩ = _ at y0
      change Hid (∀ W, Below w8.heap.size w8 W → PtsAt W w8.heap.size (some ⟨gb, 2, none⟩) (hs.drop 1)) at PTD
      generalize pX hs 0 = X0 at *
      generalize pY hs 0 = Y0 at *
      have E1 : Hid (OwnP ((w8.alloc (.cells #[] 39)).drew) w8.heap.size (.slice (some ⟨w8.heap.size, 0, none⟩) 0 0) []) := hide ((OwnP.empty w8 w8.heap.size 0 (Nat.le_refl _) #[] rfl (by simp [maxLen])).below (by (repeat' (first | (with_reducible exact Below.refl _ _) | (with_reducible assumption) | (with_reducible refine below_ext _ ?_ ?_) | (with_reducible refine Below.alloc ?_ ?_ _) | (with_reducible refine Below.drew ?_) | (with_reducible refine below_drewN ?_ _) | (with_reducible refine le_drewN _ ?_) | (with_reducible refine Below.setCell ?_ ?_ _) | (with_reducible exact Nat.le_refl _) | (with_reducible refine le_ext _ ?_) | (with_reducible refine le_alloc _ ?_) | (with_reducible refine le_setCell _ _ ?_) | (with_reducible refine le_drew ?_) | omega | (simp; done) | (simp; omega)))))
      have E2x : Hid (OwnP (((w8.alloc (.cells #[] 39)).alloc (.cells #[.int .i64 X0, .int .i64 Y0] 39)).drew) w8.heap.size (.slice (some ⟨w8.heap.size, 0, none⟩) 0 0) []) := hide ((OwnP.empty w8 w8.heap.size 0 (Nat.le_refl _) #[] rfl (by simp [maxLen])).below (by (repeat' (first | (with_reducible exact Below.refl _ _) | (with_reducible assumption) | (with_reducible refine below_ext _ ?_ ?_) | (with_reducible refine Below.alloc ?_ ?_ _) | (with_reducible refine Below.drew ?_) | (with_reducible refine below_drewN ?_ _) | (with_reducible refine le_drewN _ ?_) | (with_reducible refine Below.setCell ?_ ?_ _) | (with_reducible exact Nat.le_refl _) | (with_reducible refine le_ext _ ?_) | (with_reducible refine le_alloc _ ?_) | (with_reducible refine le_setCell _ _ ?_) | (with_reducible refine le_drew ?_) | omega | (simp; done) | (simp; omega)))))
      have E3x : Hid (OwnP (((w8.alloc (.cells #[.int .i64 X0, .int .i64 Y0] 39)).alloc (.cells #[] 39)).drew) w8.heap.size (.slice (some ⟨w8.heap.size + 1, 0, none⟩) 0 0) []) := hide (by
        have h := OwnP.empty (w8.alloc (.cells #[.int .i64 X0, .int .i64 Y0] 39)) w8.heap.size 0 (by simp) #[] rfl (by simp [maxLen])
        rw [size_alloc] at h
        exact h.below (by (repeat' (first | (with_reducible exact Below.refl _ _) | (with_reducible assumption) | (with_reducible refine below_ext _ ?_ ?_) | (with_reducible refine Below.alloc ?_ ?_ _) | (with_reducible refine Below.drew ?_) | (with_reducible refine below_drewN ?_ _) | (with_reducible refine le_drewN _ ?_) | (with_reducible refine Below.setCell ?_ ?_ _) | (with_reducible exact Nat.le_refl _) | (with_reducible refine le_ext _ ?_) | (with_reducible refine le_alloc _ ?_) | (with_reducible refine le_setCell _ _ ?_) | (with_reducible refine le_drew ?_) | omega | (simp; done) | (simp; omega)))))
      have C2x : Hid ((((w8.alloc (.cells #[] 39)).alloc (.cells #[.int .i64 X0, .int .i64 Y0] 39)).drew).heap[w8.heap.size + 1]? = some (.cells #[.int .i64 X0, .int .i64 Y0] 39)) := hide (by
        have h := heap_alloc_new (w8.alloc (.cells #[] 39)) (.cells #[.int .i64 X0, .int .i64 Y0] 39)
        rw [size_alloc] at h
        exact h)
      have C3x : Hid ((((w8.alloc (.cells #[.int .i64 X0, .int .i64 Y0] 39)).alloc (.cells #[] 39)).drew).heap[w8.heap.size]? = some (.cells #[.int .i64 X0, .int .i64 Y0] 39)) := hide ((Below.heap_alloc _ _ _ (by simp)).trans (heap_alloc_new w8 _))
      have NE1 : Hid (some (w8.heap.size + 1) ≠ some w8.heap.size) := hide (fun e => by injection e with e; omega)
      have NE2 : Hid (some w8.heap.size ≠ some (w8.heap.size + 1)) := hide (fun e => by injection e with e; omega)
      have BD0 := hide (show Below w8.heap.size w8 w8.drew from (by (repeat' (first | (with_reducible exact Below.refl _ _) | (with_reducible assumption) | (with_reducible refine below_ext _ ?_ ?_) | (with_reducible refine Below.alloc ?_ ?_ _) | (with_reducible refine Below.drew ?_) | (with_reducible refine below_drewN ?_ _) | (with_reducible refine le_drewN _ ?_) | (with_reducible refine Below.setCell ?_ ?_ _) | (with_reducible exact Nat.le_refl _) | (with_reducible refine le_ext _ ?_) | (with_reducible refine le_alloc _ ?_) | (with_reducible refine le_setCell _ _ ?_) | (with_reducible refine le_drew ?_) | omega | (simp; done) | (simp; omega)))))
      have BD1 : Hid (∀ o : Obj, Below w8.heap.size w8 ((w8.alloc o).drew)) := hide (fun o => (by (repeat' (first | (with_reducible exact Below.refl _ _) | (with_reducible assumption) | (with_reducible refine below_ext _ ?_ ?_) | (with_reducible refine Below.alloc ?_ ?_ _) | (with_reducible refine Below.drew ?_) | (with_reducible refine below_drewN ?_ _) | (with_reducible refine le_drewN _ ?_) | (with_reducible refine Below.setCell ?_ ?_ _) | (with_reducible exact Nat.le_refl _) | (with_reducible refine le_ext _ ?_) | (with_reducible refine le_alloc _ ?_) | (with_reducible refine le_setCell _ _ ?_) | (with_reducible refine le_drew ?_) | omega | (simp; done) | (simp; omega)))))
      have BD2 : Hid (∀ o p : Obj, Below w8.heap.size w8 (((w8.alloc o).alloc p).drew)) := hide (fun o p => (by (repeat' (first | (with_reducible exact Below.refl _ _) | (with_reducible assumption) | (with_reducible refine below_ext _ ?_ ?_) | (with_reducible refine Below.alloc ?_ ?_ _) | (with_reducible refine Below.drew ?_) | (with_reducible refine below_drewN ?_ _) | (with_reducible refine le_drewN _ ?_) | (with_reducible refine Below.setCell ?_ ?_ _) | (with_reducible exact Nat.le_refl _) | (with_reducible refine le_ext _ ?_) | (with_reducible refine le_alloc _ ?_) | (with_reducible refine le_setCell _ _ ?_) | (with_reducible refine le_drew ?_) | omega | (simp; done) | (simp; omega)))))
      have BAP : Hid (∀ W : World, Below W.heap.size W (W.alloc (.cells #[.int .i64 X0, .int .i64 Y0] 39))) := hide (fun W => (by (repeat' (first | (with_reducible exact Below.refl _ _) | (with_reducible assumption) | (with_reducible refine below_ext _ ?_ ?_) | (with_reducible refine Below.alloc ?_ ?_ _) | (with_reducible refine Below.drew ?_) | (with_reducible refine below_drewN ?_ _) | (with_reducible refine le_drewN _ ?_) | (with_reducible refine Below.setCell ?_ ?_ _) | (with_reducible exact Nat.le_refl _) | (with_reducible refine le_ext _ ?_) | (with_reducible refine le_alloc _ ?_) | (with_reducible refine le_setCell _ _ ?_) | (with_reducible refine le_drew ?_) | omega | (simp; done) | (simp; omega)))))
      have K1 : n4 - 1 ≤ 2000000 := by omega
      have LN9 : Hid (([] ++ hs.drop 1 : List Pt).length ≤ 2000000) := hide (by rw [List.nil_append, LD.out]; exact K1)
      have FD : Hid ((some (⟨gb, 2, none⟩ : Addr) = none → n4 - 1 = 0) ∧ ∀ b o s, some (⟨gb, 2, none⟩ : Addr) = some ⟨b, o, s⟩ → s = none) := ⟨(fun h => by cases h), (fun b o s h => by injection h with h; injection h with _ _ h; exact h.symm)⟩
      have SC : Hid (∀ W : World, Below w8.heap.size w8 W → W.cell? ⟨gb, 0, none⟩ = some (.int .i64 X0) ∧ W.cell? ⟨gb, 1, none⟩ = some (.int .i64 Y0)) := hide (fun W hW => ⟨(hW.cell (p := ⟨gb, 0, none⟩) hgl).trans x0, (hW.cell (p := ⟨gb, 1, none⟩) hgl).trans y0⟩)
      go_wp2_with fail
      go_region_held3 (fun W => W.cell? ⟨gb, 0, none⟩ = some (.int .i64 X0) ∧ W.cell? ⟨gb, 1, none⟩ = some (.int .i64 Y0)) (first | exact SC.out _ BD0.out | exact SC.out _ (BD1.out _) | exact SC.out _ (BD2.out _ _) | exact SC.out _ B9.out | exact SC.out _ (B9.out.trans ((BAP.out w9).mono B9.out.size)) | exact SC.out _ B13.out) (first | (refine step_pts (by rfl) (.tmp 61) (.tmp 63) (by rfl) w8.heap.size (.slice (some ⟨w8.heap.size, 0, none⟩) 0 0) [] (by rfl) E1.out (some ⟨gb, 2, none⟩) (n4 - 1) (c4 - 1) w8.heap.size (hs.drop 1) (by rfl) LD.out (PTD.out _ (BD1.out _)) FD.out (Nat.zero_le _) K1 ((BD1.out _)).size ?_; intro v9 w9 hown9 hb9 hat9 hgr9; obtain ⟨A9, n9, c9, rfl⟩ := hown9.slice; have O9 := hide hown9; have B9 := hide (((BD1.out _)).trans hb9); clear hown9 hat9 hgr9 hb9) | (refine step_pts (by rfl) (.tmp 61) (.tmp 63) (by rfl) w8.heap.size (.slice (some ⟨w8.heap.size, 0, none⟩) 0 0) [] (by rfl) E2x.out (some ⟨gb, 2, none⟩) (n4 - 1) (c4 - 1) w8.heap.size (hs.drop 1) (by rfl) LD.out (PTD.out _ (BD2.out _ _)) FD.out (Nat.zero_le _) K1 ((BD2.out _ _)).size ?_; intro v9 w9 hown9 hb9 hat9 hgr9; obtain ⟨A9, n9, c9, rfl⟩ := hown9.slice; have O9 := hide hown9; have B9 := hide (((BD2.out _ _)).trans hb9); have C9 := hide ((hgr9.block (w8.heap.size + 1) (heap_lt C2x.out) NE1.out).trans C2x.out); clear hown9 hat9 hgr9 hb9) | (refine step_pts (by rfl) (.tmp 61) (.tmp 63) (by rfl) w8.heap.size (.slice (some ⟨w8.heap.size + 1, 0, none⟩) 0 0) [] (by rfl) E3x.out (some ⟨gb, 2, none⟩) (n4 - 1) (c4 - 1) w8.heap.size (hs.drop 1) (by rfl) LD.out (PTD.out _ (BD2.out _ _)) FD.out (Nat.zero_le _) K1 ((BD2.out _ _)).size ?_; intro v9 w9 hown9 hb9 hat9 hgr9; obtain ⟨A9, n9, c9, rfl⟩ := hown9.slice; have O9 := hide hown9; have B9 := hide (((BD2.out _ _)).trans hb9); have C9 := hide ((hgr9.block w8.heap.size (heap_lt C3x.out) NE2.out).trans C3x.out); clear hown9 hat9 hgr9 hb9) | (refine step_pt (by rfl) (.tmp 64) (.tmp 68) (by rfl) w8.heap.size (.slice A9 n9 c9) ([] ++ hs.drop 1) (by rfl) (O9.out.below (BAP.out _)) X0 Y0 (w9.heap.size) 1 (by rfl) ((heap_cell (heap_alloc_new _ _) 0).trans rfl) ((heap_cell (heap_alloc_new _ _) 1).trans rfl) LN9.out (Nat.le_trans B9.out.size (BAP.out w9).size) ?_; intro v13 w13 hown13 hb13 hat13 hgr13; obtain ⟨A13, n13, c13, rfl⟩ := hown13.slice; have O13 := hide hown13; have B13 := hide ((B9.out.trans ((BAP.out w9).mono B9.out.size)).trans hb13); clear hown13 hat13 hgr13 hb13) | (refine step_pt (by rfl) (.tmp 64) (.tmp 68) (by rfl) w8.heap.size (.slice A9 n9 c9) ([] ++ hs.drop 1) (by rfl) O9.out X0 Y0 (w8.heap.size + 1) 1 (by rfl) (heap_cell C9.out 0) (heap_cell C9.out 1) LN9.out B9.out.size ?_; intro v13 w13 hown13 hb13 hat13 hgr13; obtain ⟨A13, n13, c13, rfl⟩ := hown13.slice; have O13 := hide hown13; have B13 := hide ((B9.out).trans hb13); clear hown13 hat13 hgr13 hb13) | (refine step_pt (by rfl) (.tmp 64) (.tmp 68) (by rfl) w8.heap.size (.slice A9 n9 c9) ([] ++ hs.drop 1) (by rfl) O9.out X0 Y0 (w8.heap.size) 1 (by rfl) (heap_cell C9.out 0) (heap_cell C9.out 1) LN9.out B9.out.size ?_; intro v13 w13 hown13 hb13 hat13 hgr13; obtain ⟨A13, n13, c13, rfl⟩ := hown13.slice; have O13 := hide hown13; have B13 := hide ((B9.out).trans hb13); clear hown13 hat13 hgr13 hb13))
      all_goals go_wp2_with fail
      all_goals ((try simp only [Exit.inBlock, Exit.then]); refine bodyPost_ret (by simp [results, Try.results35, go_sem, ↓IntWalk.iteOmega]; try rfl) rfl ?_)
      all_goals exact ⟨A2, A13, A7, n2, c2, n13, c13, n7, c7, ps, _, zss, rfl, l2.out, O13.out.pts.1, by omega, by have h1 := O13.out.pts.1; have h2 := LD.out; simp at h1; simp at h2; omega, by omega, F2.out, O13.out.form.1, (OL8.out.below B13.out).pts.2.2.2, O13.out.pts.2.2.2, R8.out.below B13.out, BF8.out.trans (B13.out.mono (by have := BF8.out.size; omega))⟩
    · have d0 : decide ((2 : Int) < (n4 : Int)) = false := decide_eq_false (by omega)
      go_wp2_with fail
      ((try simp only [Exit.inBlock, Exit.then]); refine bodyPost_ret (by simp [results, Try.results35, go_sem, ↓IntWalk.iteOmega]; try rfl) rfl ?_)
      exact ⟨A2, A4, A7, n2, c2, n4, c4, n7, c7, ps, hullL ps, zss, rfl, l2.out, ln4.out, by omega, by omega, by omega, F2.out, FH8.out, OL8.out.pts.2.2.2, OH8.out.pts.2.2.2, R8.out, BF8.out⟩
  have e3 : ((v8 : Int) == 3) = false := by rw [beq_eq_false_iff_ne]; omega
  clear h0 h1 h2 h3
  go_wp2_with fail
  ((try simp only [Exit.inBlock, Exit.then]); refine bodyPost_ret (by simp [results, Try.results35, go_sem, ↓IntWalk.iteOmega]; try rfl) rfl ?_)
  exact ⟨A2, A4, A7, n2, c2, n4, c4, n7, c7, ps, hullL ps, zss, rfl, l2.out, ln4.out, by omega, by omega, by omega, F2.out, FH8.out, OL8.out.pts.2.2.2, OH8.out.pts.2.2.2, R8.out, BF8.out⟩
end Go.Proofs.Ytelhidonhldjeaa
