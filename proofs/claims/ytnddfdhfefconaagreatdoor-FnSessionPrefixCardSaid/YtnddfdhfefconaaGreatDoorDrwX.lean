import Derived.Test.YtnddfdhfefconaaGreatDoorCmd
import Derived.Test.YtnddfdhfefconaaGreatDoorDrawA
import Derived.Deep.CutRange
import Derived.Deep.DeepCutAuto
set_option linter.unusedVariables false
set_option linter.unusedSimpArgs false
namespace Go.Proofs.YtnddfdhfefconaaGreatDoor
open Go.RowKit
theorem rowAt_strs (w : World) (T : TypeId) (ss : List (List UInt8)) (cs : Array Value) (hcs : cs = (strVals ss).toArray) : RowAt (w.alloc (.cells cs T)) w.heap.size T ss.length (fun i => .string (bS (gstr ss i))) := by
  have hl : cs.size = ss.length := by rw [hcs]; simp [strVals]
  have := RowAt.new (f := fun i => .string (bS (gstr ss i))) w cs T (fun j hj => by
    rw [hl] at hj
    rw [hcs]
    simp [strVals, gstr_lt hj, hj])
  rw [hl] at this
  exact this
theorem rowAt_ints (w : World) (T : TypeId) (zs : List Int) (cs : Array Value) (hcs : cs = (zs.map (Value.int .i64)).toArray) : RowAt (w.alloc (.cells cs T)) w.heap.size T zs.length (fun i => .int .i64 (gi zs i)) := by
  have hl : cs.size = zs.length := by rw [hcs]; simp
  have := RowAt.new (f := fun i => .int .i64 (gi zs i)) w cs T (fun j hj => by
    rw [hl] at hj
    rw [hcs]
    simp [gi_lt hj, hj])
  rw [hl] at this
  exact this
theorem OwnS.drew {w w' : World} {base B : Nat} {v : Value} {ss : List (List UInt8)} {A : Option Addr} {nb c g p p' : Nat} (h : OwnS w base v ss) (hg : g < base) (hD : Drew w w' B A nb c g p p') : OwnS w' base v ss :=
  own_block h (fun k hk => hD.block k (World.ownsRow.lt h k hk).2 (by have := (World.ownsRow.lt h k hk).1; omega))
set_option maxHeartbeats 2000000 in
theorem ofS_any (ss : List (List UInt8)) (B nb c g p gz cz : Nat) (T : TypeId) (A : Option Addr) (w : World) (h1 : 1 ≤ ss.length) (h2 : ss.length ≤ 1000) (hp : p ≤ 1000000) (hnb : nb ≤ 2000) (hr : Rd w B A nb c g p)
    (hrow : RowAt w gz T ss.length (fun i => .string (bS (gstr ss i)))) (hne : gz ≠ g) :
    Calls Tryz.prog 38 #[.pointer (some ⟨g, 0, none⟩), .slice (some ⟨gz, 0, none⟩) ss.length cz] w fun e w' => ∃ y : List UInt8, e = .returned (.string (bS y)) ∧ y ∈ ss ∧ But w w' g ∧ Rd w' B A nb c g (p + 1) := by
  generalize hn : ss.length = n at *
  have HROW := hide hrow
  have HN := hide hn
  clear hrow hn
  go_enter Tryz.func38, Tryz.ntmps38
  go_wp2_with fail
  refine (pick_any n B nb c g p A _ h1 (by omega) hp hnb hr).mono ?_
  rintro e w' ⟨v, rfl, hv, hb, hr'⟩
  have HR := hide hr'
  have hc := (HROW.out.but hb hne).cell (j := v) (by omega)
  clear hr'
  go_wp2
  go_ret
  exact ⟨gstr ss v, rfl, gstr_mem (by rw [HN.out]; exact hv), hb, HR.out⟩
theorem Rd.app {w w' : World} {o : Obj} {B B0 : Nat} {A : Option Addr} {n c g p : Nat} (h : Rd w B0 A n c g p) (hb : Below B (w.alloc o) w') (hg : g < B) : Rd w' B0 A n c g p :=
  h.keep ((((Below.refl w.heap.size w).alloc (Nat.le_refl _) o).mono (Nat.le_trans h.le (Nat.le_of_lt h.lt))).trans (hb.mono (by have := h.le; omega))) ((hb.block g hg).trans (Below.heap_alloc w o g h.lt))
theorem bel_app {a w w' : World} {o : Obj} {B C : Nat} (h : Below C a w) (hB : B ≤ w.heap.size) (hC : C ≤ B) (hb : Below B (w.alloc o) w') : Below C a w' :=
  h.trans ((((Below.refl w.heap.size w).alloc (Nat.le_refl _) o).mono (by omega)).trans (hb.mono hC))
def cm14 : List (List UInt8) := [qHull, qArea, qDiameter, qCircle, qTree, qKd, qSimple, qInside, [104, 101, 108, 112], [], [104, 117, 108, 108, 32, 120], [112, 111, 105, 110, 116, 115], [112, 111, 105, 110, 116, 115, 32, 49], [112, 111, 105, 110, 116, 115, 32, 49, 32, 50, 44, 51, 32, 52]]
theorem cm14_len {y : List UInt8} (h : y ∈ cm14) : y.length ≤ 20 := by
  have : ∀ y ∈ cm14, y.length ≤ 20 := by decide
  exact this y h
def nm5 : List Int := [0, 2, 5, 9, 33]
theorem nm5_bd {z : Int} (h : z ∈ nm5) : 0 ≤ z ∧ z ≤ 33 := by
  have : ∀ z ∈ nm5, 0 ≤ z ∧ z ≤ 33 := by decide
  exact this z h
theorem pts_line (ps : List Pt) : (⟨#[112, 111, 105, 110, 116, 115, 32]⟩ : ByteArray) ++ bS (encE ps) = bS (qPts ++ encE ps) ∧ (¬ 9223372036854775807 < 7 + (bS (encE ps)).size) ∧ (¬ 9223372036854775807 < (⟨#[112, 111, 105, 110, 116, 115, 32]⟩ : ByteArray).size + (bS (encE ps)).size) ∧ (qPts ++ encE ps).length ≤ 1000 := by
  have hln := encE_len2 ps
  refine ⟨bS_app qPts (encE ps), by rw [bS_size]; omega, by rw [bS_size]; show ¬ 9223372036854775807 < 7 + _; omega, ?_⟩
  rw [List.length_append]
  have : qPts.length = 7 := rfl
  omega
def LinS (ss : List (List UInt8)) : Prop := ∀ l ∈ ss, l.length ≤ 1000
theorem LinS.snoc {ss : List (List UInt8)} {y : List UInt8} (h : LinS ss) (hy : y.length ≤ 1000) : LinS (ss ++ [y]) := fun l hl => by
  rcases List.mem_append.1 hl with h1 | h1
  · exact h l h1
  · rw [List.mem_singleton.1 h1]; exact hy
set_option maxRecDepth 20000 in
set_option maxHeartbeats 8000000 in
theorem drawRun_any (n c : Nat) (A : Option Addr) (w : World) (hn : n ≤ c) (hc : c ≤ 9223372036854775807) (hA : BytesAt w w.heap.size A n) :
    Calls Tryz.prog 14 #[.slice A n c] w fun e w' => ∃ v ss, e = .returned v ∧ OwnS w' w.heap.size v ss ∧ ss.length ≤ 100 ∧ LinS ss ∧ Below w.heap.size w w' := by
  have NR := hide (newReader_any n c A w hn hc hA)
  have SE := hide (fun (ps : List Pt) (A1 : Option Addr) (n1 c1 : Nat) (W : World) h1 (hm : n1 ≤ 2000000) h2 => sEncL_any ps A1 n1 c1 W h1 hm h2)
  have PL := hide pts_line
  clear hn hc hA
  go_enter Tryz.func14, Tryz.ntmps14
  go_wp2_with fail
  refine NR.out.mono ?_
  rintro e w1 ⟨g, nb, rfl, hg, hnb, hr, hx⟩
  have D1 := hide (ext_bel hx)
  have lg := hr.lt
  have s1 : w.heap.size ≤ w1.heap.size := D1.out.size
  obtain ⟨B, hB⟩ : ∃ B, B = w1.heap.size := ⟨_, rfl⟩
  have HB := hide hB
  have hr0 := hr.below ((Below.refl w1.heap.size w1).alloc (Nat.le_refl _) (.cells #[] 9))
  have O0 : Hid (OwnS (w1.alloc (.cells #[] 9)) B (.slice (some ⟨w1.heap.size, 0, none⟩) 0 0) []) := hide (OwnS.empty w1 B (by omega))
  have BL0 : Hid (Below w.heap.size w (w1.alloc (.cells #[] 9))) := hide (D1.out.trans ((Below.refl _ _).alloc s1 _))
  have gB : g < B := by omega
  have z0 : B ≤ (w1.alloc (.cells #[] 9)).heap.size := by simp; omega
  clear hx NR hr
  go_wp2_with fail
  refine (pick_any 5 _ nb _ g 0 A _ (by omega) (by omega) (by omega) hnb hr0).mono ?_
  rintro e w2 ⟨v2, rfl, hv2, hb2, hr2⟩
  have DD2 := hide (Drew.of_but (p := 0) hb2 hr2)
  have O2 := hide (O0.out.drew gB DD2.out)
  have BL2 : Hid (Below w.heap.size w w2) := hide (BL0.out.trans (DD2.out.below hg (by simp; omega)))
  have z2 : B ≤ w2.heap.size := Nat.le_trans z0 DD2.out.size
  have R2 := hide hr2
  clear hb2 hr2 O0 BL0 DD2 hr0 z0 lg hB
  go_upto_if 11 with (fail)
  go_cut [4] from 11 to 18 (fun u4 wx => ∃ (ss : List (List UInt8)) (p : Nat), p ≤ 40 ∧ ss.length ≤ 1 ∧ Hid (OwnS wx B u4 ss) ∧ Hid (Rd wx w.heap.size A nb c g p) ∧ Hid (LinS ss) ∧ Hid (Below w.heap.size w wx) ∧ B ≤ wx.heap.size)
  case first =>
    by_cases hv : 0 < v2
    · have hd : decide ((0 : Int) < (v2 : Int)) = true := decide_eq_true (by omega)
      go_wp2_with fail
      refine (randomPoints_any 7 _ nb c g 1 A _ (by omega) (by omega) hnb R2.out).mono ?_
      rintro e w3 ⟨v3, ps, p3, rfl, own3, len3, _, hp3, hD3⟩
      have O3 := hide (O2.out.drew gB hD3)
      have R3 := hide hD3.rd
      have BL3 : Hid (Below w.heap.size w w3) := hide (BL2.out.trans (hD3.below hg (Nat.le_trans (by omega) z2)))
      have z3 : B ≤ w3.heap.size := Nat.le_trans z2 hD3.size
      obtain ⟨A3, n3, c3, rfl⟩ := own3.slice
      obtain ⟨l3, _, _, p3'⟩ := own3.pts
      have SEk := hide (SE.out ps A3 n3 c3 w3 l3 (by omega) p3')
      obtain ⟨E1, K1, K2, LL⟩ := PL.out ps
      clear own3 hD3 l3 p3' O2 R2 BL2 SE PL
      generalize bS (encE ps) = S at *
      go_wp2_with fail
      refine SEk.out.mono ?_
      rintro e w4 ⟨rfl, hx⟩
      have O4 := hide (O3.out.below (ext_bel hx))
      have R4 := hide (R3.out.below (ext_bel hx))
      have BL4 : Hid (Below w.heap.size w w4) := hide (BL3.out.trans ((ext_bel hx).mono (Nat.le_trans (by omega) z3)))
      have z4 : B ≤ w4.heap.size := Nat.le_trans z3 (ext_bel hx).size
      clear hx O3 R3 BL3 SEk
      go_wp2_with (at_builtin; refine app_str rfl _ _ rfl B (.slice (some ⟨w1.heap.size, 0, none⟩) 0 0) [] rfl (O4.out.below (by (repeat' (first | (with_reducible first | exact Below.refl _ _ | assumption | refine below_ext _ ?_ ?_ | refine Below.alloc ?_ ?_ _ | refine Below.drew ?_ | refine below_drewN ?_ _ | refine le_drewN _ ?_ | refine Below.setCell ?_ ?_ _ | exact Nat.le_refl _ | refine le_ext _ ?_ | refine le_alloc _ ?_ | refine le_setCell _ _ ?_ | refine le_drew ?_) | omega | (simp; done) | (simp; omega))))) (qPts ++ encE ps) _ _ rfl (by simp [go_sem]) (by simp) (by simp; omega) ?_; intro v7 w7 hown7 hb7 hat7 hgr7; obtain ⟨A7, n7, c7, rfl⟩ := hown7.slice; have O7 := hide hown7; have B7 := hide hb7; clear hown7 hat7 hgr7 hb7)
      go_meet
      exact ⟨[qPts ++ encE ps], p3, by omega, by simp, O7, hide (R4.out.app B7.out gB), hide (fun l hl => by rw [List.mem_singleton.1 hl]; exact LL), hide (bel_app BL4.out z4 (by omega) B7.out), Nat.le_trans (by simp; omega) B7.out.size⟩
    · have hd : decide ((0 : Int) < (v2 : Int)) = false := decide_eq_false (by omega)
      go_wp2_with fail
      go_meet
      exact ⟨[], 1, by omega, by simp, O2, R2, hide (fun l hl => by cases hl), BL2, z2⟩
  case rest =>
    clear O2 R2 BL2 z2
    obtain ⟨ss, p, hp, hls, OO, RR, LL, BL, z3⟩ := hcut
    obtain ⟨w3, hw3⟩ : ∃ w3, w3 = wc := ⟨_, rfl⟩
    subst hw3
    have lg3 := RR.out.lt
    have ONE := hide (fun (W : World) (hb : Below w3.heap.size w3 W) (hrow : RowAt W w3.heap.size 3 nm5.length (fun i => .int .i64 (gi nm5 i))) => one_any nm5 w.heap.size nb _ g p w3.heap.size 5 3 nm5.length _ A W (by decide) (by decide) (by omega) hnb (RR.out.to hb) hrow (Nat.le_refl _) (fun i hi => rfl) (by omega))
    have KA := hide (fun (o : Obj) => (show Below w3.heap.size w3 (w3.alloc o) from (Below.refl _ _).alloc (Nat.le_refl _) o))
    clear PL
    go_wp2_with fail
    refine (ONE.out _ (KA.out _) (rowAt_ints w3 3 nm5 _ rfl)).mono ?_
    rintro e w4 ⟨z, rfl, hz, hb4, hr4⟩
    obtain ⟨z0, z33⟩ := nm5_bd hz
    obtain ⟨q, rfl⟩ : ∃ q : Nat, z = (q : Int) := ⟨z.toNat, by omega⟩
    have D4 := hide (Drew.of_but (p := p) hb4 hr4)
    have O4 := hide ((OO.out.below ((Below.refl w3.heap.size w3).alloc (Nat.le_refl _) (.cells #[.int .i64 0, .int .i64 2, .int .i64 5, .int .i64 9, .int .i64 33] 3))).drew gB D4.out)
    have R4 := hide hr4
    have z4 : B ≤ w4.heap.size := Nat.le_trans z3 (Nat.le_trans (by simp) D4.out.size)
    have BL4 : Hid (Below w.heap.size w w4) := hide ((BL.out.trans (((Below.refl w3.heap.size w3).alloc (Nat.le_refl _) (.cells #[.int .i64 0, .int .i64 2, .int .i64 5, .int .i64 9, .int .i64 33] 3)).mono (by omega))).trans (D4.out.below hg (by simp; omega)))
    have z14 : B ≤ w4.heap.size := z4
    clear hb4 hr4 hz D4 OO RR BL ONE KA lg3 z0
    obtain ⟨A4, n4, c4, rfl⟩ := O4.out.slice
    go_wp2_with fail
    go_loopw [4, 5] (fun u4 u5 wr => ∃ (q : Nat) (ss : List (List UInt8)) (p : Nat), q ≤ 33 ∧ u5 = .int .i64 q ∧ p + 20 * q ≤ 800 ∧ ss.length + 2 * q ≤ 70 ∧ Hid (OwnS wr B u4 ss) ∧ Hid (Rd wr w.heap.size A nb c g p) ∧ Hid (LinS ss) ∧ Hid (Below w.heap.size w wr) ∧ B ≤ wr.heap.size) (fun _ u5 _ => (intOf u5).toNat)
    case atStart => exact ⟨q, ss, p + 1, by omega, rfl, by omega, by omega, O4, R4, LL, BL4, z4⟩
    case round =>
      clear O4 R4 LL BL4 z4 z14 z3
      obtain ⟨q, ss, p, hq, rfl, hp, hls, OO, RR, LL, BL, z3⟩ := hrel
      obtain ⟨A5, n5, c5, rfl⟩ := OO.out.slice
      by_cases hq0 : 0 < q
      · have OF := hide (fun (W : World) (hb : Below wr.heap.size wr W) (hrow : RowAt W wr.heap.size 9 cm14.length (fun i => .string (bS (gstr cm14 i)))) => ofS_any cm14 w.heap.size nb _ g p wr.heap.size 14 9 A W (by decide) (by decide) (by omega) hnb (RR.out.to hb) hrow (by omega))
        have KA := hide (fun (o : Obj) => (show Below wr.heap.size wr (wr.alloc o) from (Below.refl _ _).alloc (Nat.le_refl _) o))
        have SS := hide (fun (p : Nat) (W : World) (hp : p ≤ 700000) (hr : Rd W w.heap.size A nb c g p) => someShape_any w.heap.size nb _ g p A W hp hnb hr)
        have PK := hide (fun (p : Nat) (W : World) (hp : p ≤ 700000) (hr : Rd W w.heap.size A nb c g p) => pick_any 4 w.heap.size nb _ g p A W (by omega) (by omega) (by omega) hnb hr)
        go_wp2_with fail
        refine (OF.out _ (KA.out _) (rowAt_strs wr 9 cm14 _ rfl)).mono ?_
        rintro e w6 ⟨y, rfl, hy, hb6, hr6⟩
        have hyl := cm14_len hy
        have s6 : wr.heap.size < w6.heap.size := by have := hb6.size; simp at this; omega
        have D6 := hide (Drew.of_but (p := p) hb6 hr6)
        have O6 := hide ((OO.out.below (KA.out _)).drew gB D6.out)
        have R6 := hide hr6
        have z6 : B ≤ w6.heap.size := by omega
        have BL6 : Hid (Below w.heap.size w w6) := hide ((BL.out.trans ((KA.out _).mono (Nat.le_trans (by omega) z3))).trans (D6.out.below hg (by simp; omega)))
        clear hb6 hr6 hy D6 OO RR BL OF KA
        have lz : ss.length ≤ 2000000 := by omega
        go_wp2_with (at_builtin; refine app_str rfl _ _ rfl B (.slice A5 n5 c5) ss rfl (O6.out.below (by (repeat' (first | (with_reducible first | exact Below.refl _ _ | assumption | refine below_ext _ ?_ ?_ | refine Below.alloc ?_ ?_ _ | refine Below.drew ?_ | refine below_drewN ?_ _ | refine le_drewN _ ?_ | refine Below.setCell ?_ ?_ _ | exact Nat.le_refl _ | refine le_ext _ ?_ | refine le_alloc _ ?_ | refine le_setCell _ _ ?_ | refine le_drew ?_) | omega | (simp; done) | (simp; omega))))) y _ _ rfl (by simp [go_sem]) lz (by simp; omega) ?_; intro v7 w7 hown7 hb7 hat7 hgr7; obtain ⟨A7, n7, c7, rfl⟩ := hown7.slice; have O7 := hide hown7; have R7 := hide (R6.out.app hb7 gB); have BL7 : Hid (Below w.heap.size w w7) := hide (bel_app BL6.out z6 (by omega) hb7); have z7 : B ≤ w7.heap.size := (Nat.le_trans (by simp; omega) hb7.size); clear hown7 hat7 hgr7 hb7)
        refine (PK.out (p + 1) w7 (by omega) R7.out).mono ?_
        rintro e w8 ⟨v8, rfl, hv8, hb8, hr8⟩
        have D8 := hide (Drew.of_but (p := p + 1) hb8 hr8)
        have O8 := hide (O7.out.drew gB D8.out)
        have R8 := hide hr8
        have z8 : B ≤ w8.heap.size := Nat.le_trans z7 D8.out.size
        have BL8 : Hid (Below w.heap.size w w8) := hide (BL7.out.trans (D8.out.below hg (by omega)))
        have L8 := hide (LL.out.snoc (y := y) (by omega))
        have q9 : (q : Int) - 1 = ((q - 1 : Nat) : Int) := by omega
        clear hb8 hr8 D8 O7 R7 BL7 O6 R6 BL6 PK LL
        by_cases hv : v8 = 0
        · subst hv
          go_wp2_with fail
          refine (SS.out (p + 1 + 1) w8 (by omega) R8.out).mono ?_
          rintro e w9 ⟨v9, ps, p9, rfl, own9, len9, len9', _, hp9, hD9⟩
          have O9 := hide (O8.out.drew gB hD9)
          have R9 := hide hD9.rd
          have BL9 : Hid (Below w.heap.size w w9) := hide (BL8.out.trans (hD9.below hg (by omega)))
          have z9 : B ≤ w9.heap.size := Nat.le_trans z8 hD9.size
          obtain ⟨A9, n9, c9, rfl⟩ := own9.slice
          obtain ⟨l9, _, _, p9'⟩ := own9.pts
          have SEk := hide (SE.out ps A9 n9 c9 w9 l9 (by omega) p9')
          obtain ⟨E1, K1, K2, LLn⟩ := pts_line ps
          clear own9 hD9 l9 p9' O8 R8 BL8 SE SS
          generalize bS (encE ps) = S at *
          go_wp2_with fail
          refine SEk.out.mono ?_
          rintro e wA ⟨rfl, hx⟩
          have OA := hide (O9.out.below (ext_bel hx))
          have RA := hide (R9.out.below (ext_bel hx))
          have BLA : Hid (Below w.heap.size w wA) := hide (BL9.out.trans ((ext_bel hx).mono (by omega)))
          have zA : B ≤ wA.heap.size := Nat.le_trans z9 (ext_bel hx).size
          have lzA : (ss ++ [y]).length ≤ 2000000 := by rw [List.length_append]; simp; omega
          clear hx O9 R9 BL9 SEk
          go_wp2_with (at_builtin; refine app_str rfl _ _ rfl B (.slice A7 n7 c7) (ss ++ [y]) rfl (OA.out.below (by (repeat' (first | (with_reducible first | exact Below.refl _ _ | assumption | refine below_ext _ ?_ ?_ | refine Below.alloc ?_ ?_ _ | refine Below.drew ?_ | refine below_drewN ?_ _ | refine le_drewN _ ?_ | refine Below.setCell ?_ ?_ _ | exact Nat.le_refl _ | refine le_ext _ ?_ | refine le_alloc _ ?_ | refine le_setCell _ _ ?_ | refine le_drew ?_) | omega | (simp; done) | (simp; omega))))) (qPts ++ encE ps) _ _ rfl (by simp [go_sem]) lzA (by simp; omega) ?_; intro vB wB hownB hbB hatB hgrB; obtain ⟨AB, nB, cB, rfl⟩ := hownB.slice; have OB := hide hownB; have RB := hide (RA.out.app hbB gB); have BLB : Hid (Below w.heap.size w wB) := hide (bel_app BLA.out zA (by omega) hbB); have zB : B ≤ wB.heap.size := (Nat.le_trans (by simp; omega) hbB.size); clear hownB hatB hgrB hbB)
          exact ⟨⟨q - 1, _, p9, by omega, rfl, by omega, by rw [List.length_append, List.length_append]; simp; omega, OB, RB, hide (L8.out.snoc LLn), BLB, zB⟩, by simp [intOf]; omega⟩
        · have hd : ((v8 : Int) == 0) = false := by rw [beq_eq_false_iff_ne]; omega
          go_wp2_with fail
          exact ⟨⟨q - 1, _, p + 1 + 1, by omega, rfl, by omega, by rw [List.length_append]; simp; omega, O8, R8, L8, BL8, z8⟩, by simp [intOf]; omega⟩
      · go_wp2_with fail
        go_ret
        exact ⟨_, ss, rfl, OO.out.base (by omega), by omega, LL.out, BL.out⟩
end Go.Proofs.YtnddfdhfefconaaGreatDoor
