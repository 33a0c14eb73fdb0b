
/- laws.FnDelaunay returns true. -/
import Derived.Test.YtcebmcbglhkkfaaDelD
import Derived.Test.YtcebmcbglhkkfaaDrwS
import Derived.Test.YtcebmcbglhkkfaaEqI
import Derived.Test.YtcebmcbglhkkfaaAreaI
set_option linter.unusedVariables false
set_option linter.unusedSimpArgs false
namespace Go.Proofs.Ytcebmcbglhkkfaa
open Go.RowKit

theorem lit3 (w : World) (p q r : Pt) (T : TypeId) (a b c : Obj) : PtsAt ((((w.alloc a).alloc b).alloc c).alloc (.cells #[.int .i64 p.x, .int .i64 p.y, .int .i64 q.x, .int .i64 q.y, .int .i64 r.x, .int .i64 r.y] T)) ((((w.alloc a).alloc b).alloc c).alloc (.cells #[.int .i64 p.x, .int .i64 p.y, .int .i64 q.x, .int .i64 q.y, .int .i64 r.x, .int .i64 r.y] T)).heap.size (some ⟨w.heap.size + 1 + 1 + 1, 0, none⟩) [p, q, r] := by
  have h := RowAt.new (f := ptCell [p, q, r]) (((w.alloc a).alloc b).alloc c) #[.int .i64 p.x, .int .i64 p.y, .int .i64 q.x, .int .i64 q.y, .int .i64 r.x, .int .i64 r.y] T (fun j hj => by
    have hj : j < 6 := hj
    match j, hj with
    | 0, _ => rfl
    | 1, _ => rfl
    | 2, _ => rfl
    | 3, _ => rfl
    | 4, _ => rfl
    | 5, _ => rfl)
  have h2 := PtsAt.of_row (ps := [p, q, r]) h (Nat.le_refl 6) h.lt
  simpa using h2
set_option maxHeartbeats 1000000 in
theorem iCross_any (p q r : Pt) (w : World) (hp : (-1000 ≤ p.x ∧ p.x ≤ 1000) ∧ -1000 ≤ p.y ∧ p.y ≤ 1000) (hq : (-1000 ≤ q.x ∧ q.x ≤ 1000) ∧ -1000 ≤ q.y ∧ q.y ≤ 1000) (hr : (-1000 ≤ r.x ∧ r.x ≤ 1000) ∧ -1000 ≤ r.y ∧ r.y ≤ 1000) :
    Calls Try.prog 22 #[.agg #[.int .i64 p.x, .int .i64 p.y], .agg #[.int .i64 q.x, .int .i64 q.y], .agg #[.int .i64 r.x, .int .i64 r.y]] w fun e w' => e = .returned (.int .i64 (trn p q r)) ∧ ∃ x, w' = ext w x := by
  have AV := hide (fun (W : World) (A : Option Addr) (hs : PtsAt W W.heap.size A [p, q, r]) => allValid_any [p, q, r] A 3 3 W rfl (by omega) hs)
  have OK : Hid (allOk [p, q, r] = true) := hide (by
    have i1 : inB p.x (-1000) 1000 = true := inB_iff.2 (by omega)
    have i2 : inB p.y (-1000) 1000 = true := inB_iff.2 (by omega)
    have i3 : inB q.x (-1000) 1000 = true := inB_iff.2 (by omega)
    have i4 : inB q.y (-1000) 1000 = true := inB_iff.2 (by omega)
    have i5 : inB r.x (-1000) 1000 = true := inB_iff.2 (by omega)
    have i6 : inB r.y (-1000) 1000 = true := inB_iff.2 (by omega)
    simp [allOk, Pt.ok, vP, i1, i2, i3, i4, i5, i6])
  rw [OK.out] at AV
  have TU := hide (fun W => turn_any p.x p.y q.x q.y r.x r.y W ⟨by omega, by omega⟩ ⟨by omega, by omega⟩ ⟨by omega, by omega⟩ ⟨by omega, by omega⟩ ⟨by omega, by omega⟩ ⟨by omega, by omega⟩)
  have L3 := hide (fun (W : World) a b c => lit3 W p q r 31 a b c)
  have E : Hid (((q.x - p.x) * (r.y - p.y) - (q.y - p.y) * (r.x - p.x)) = trn p q r) := hide rfl
  rw [E.out] at TU
  clear hp hq hr E OK
  go_enter Try.func22, Try.ntmps22
  go_wp2_with fail
  refine (AV.out _ _ (L3.out _ _ _ _)).mono ?_
  rintro e w' ⟨rfl, hw'⟩; have hzy1 := ext_sz hw'; obtain ⟨y1, rfl⟩ := hw'; (try simp at hzy1)
  go_wp2_with fail
  refine (TU.out _).mono ?_
  rintro e w' ⟨rfl, hw'⟩; have hzy2 := ext_sz hw'; obtain ⟨y2, rfl⟩ := hw'; (try simp at hzy2)
  go_wp2_with fail
  go_ret
  exact ⟨rfl, (ext_mk (by (repeat' (first | (with_reducible first | exact Below.refl _ _ | assumption | refine below_ext _ ?_ ?_ | refine Below.alloc ?_ ?_ _ | refine Below.drew ?_ | refine below_drewN ?_ _ | refine le_drewN _ ?_ | refine Below.setCell ?_ ?_ _ | exact Nat.le_refl _ | refine le_ext _ ?_ | refine le_alloc _ ?_ | refine le_setCell _ _ ?_ | refine le_drew ?_) | omega | (simp; done) | (simp; omega)))))⟩
set_option maxHeartbeats 2000000 in
theorem drawDel_any (n c : Nat) (A : Option Addr) (w : World) (hn : n ≤ c) (hc : c ≤ 9223372036854775807) (hA : BytesAt w w.heap.size A n) :
    Calls Try.prog 19 #[.slice A n c] w fun e w' => ∃ v ps, e = .returned v ∧ OwnP w' w.heap.size v ps ∧ ps.length ≤ 21 ∧ Below w.heap.size w w' := by
  go_enter Try.func19, Try.ntmps19
  go_wp2_with fail
  refine (newReader_any n c A _ hn hc hA).mono ?_
  rintro e w1 ⟨g, nb, rfl, hg, hnb, hr, hx⟩
  have D1 := ext_bel hx
  have lg := hr.lt
  have s1 : w.heap.size ≤ w1.heap.size := D1.size
  clear hx
  go_wp2_with fail
  refine (anySites_any _ nb _ g 0 A _ (by omega) hnb hr).mono ?_
  rintro e w2 ⟨v, ps, p', rfl, hown, hlen, hp', hD⟩
  have B2 : Below w.heap.size w w2 := D1.trans (hD.below (by omega) (by omega))
  clear hD hr
  go_wp2_with fail
  go_ret
  exact ⟨v, ps, rfl, hown.base s1, hlen, B2⟩

theorem smT_take (g : Tri3 → Int) : ∀ (T : List Tri3) (k : Nat), k < T.length → smT g (T.take (k + 1)) = smT g (T.take k) + g (gT T k)
  | [], k, h => by simp at h
  | x :: T, 0, _ => by
    show g x + 0 = 0 + g x
    omega
  | x :: T, k + 1, h => by
    have ih := smT_take g T k (by simpa using h)
    show g x + smT g (T.take (k + 1)) = g x + smT g (T.take k) + g (gT T k)
    omega
theorem trn_bd {a b c : Pt} (ha : a.ok = true) (hb : b.ok = true) (hc : c.ok = true) : trn a b c ≤ 8000000 := by
  have h1 := okb ha
  have h2 := okb hb
  have h3 := okb hc
  have m1 := mul_bd (a := b.x - a.x) (b := c.y - a.y) (M := 2000) (N := 2000) (by omega) (by omega)
  have m2 := mul_bd (a := b.y - a.y) (b := c.x - a.x) (M := 2000) (N := 2000) (by omega) (by omega)
  unfold trn; omega
theorem sum_bd {g : Tri3 → Int} : ∀ {T : List Tri3}, (∀ t ∈ T, 0 ≤ g t ∧ g t ≤ 8000000) → 0 ≤ smT g T ∧ smT g T ≤ 8000000 * T.length
  | [], _ => by simp [smT]
  | t :: T, h => by
    have ih := sum_bd (T := T) fun u hu => h u (List.mem_cons_of_mem _ hu)
    have := h t List.mem_cons_self
    rw [smT, List.length_cons]
    push_cast
    omega
/-- What the law needs of the flipped triangles. -/
theorem del_law {ps : List Pt} (h : delL ps ≠ []) : siteB ps = true ∧ (delL ps).length ≤ 40 ∧ (sT (delL ps)).length = (sT (sweepL ps)).length ∧ (∀ t ∈ delL ps, ptT t ps.length ∧ 0 < trnT ps t) ∧ (∀ t ∈ delL ps, ∀ q, q < ps.length → dq ps t q ≤ 0) ∧ smT (trnT ps) (delL ps) = hullArea ps ∧
    ∀ k, k ≤ (delL ps).length → 0 ≤ smT (trnT ps) ((delL ps).take k) ∧ smT (trnT ps) ((delL ps).take k) ≤ 400000000 := by
  have hs : siteB ps = true := by
    cases e : siteB ps
    · exact absurd (delL_no e) h
    · rfl
  obtain ⟨hok, hO⟩ := siteB_iff.1 hs
  have ok1 := listOk_1' hok
  obtain ⟨M, hf⟩ := delL_main hs
  obtain ⟨_, ML⟩ := sweep_mesh hs
  have h0 : sweepL ps ≠ [] := fun e => h (List.length_eq_zero_iff.1 (by rw [M.len, e]; rfl))
  obtain ⟨h3, R, fat, hS⟩ := sweep_ring hs h0
  have l40 : (delL ps).length ≤ 40 := by rw [M.len]; omega
  refine ⟨hs, l40, by rw [sT_len, sT_len, M.len], fun t ht => ⟨(M.tri t ht).pt, (M.tri t ht).pos⟩, fun t ht q hq => mesh_local M fat.toRg hS hf ht hq, ?_, fun k hk => ?_⟩
  · rw [mesh_area M fat hO h3 hS]
    unfold hullArea
    rw [if_pos hok]
  · have := sum_bd (g := trnT ps) (T := (delL ps).take k) fun t ht => by
      have g := M.tri t (List.mem_of_mem_take ht)
      refine ⟨Int.le_of_lt g.pos, trn_bd (ok1.2 _ (gp_mem g.pt.1)) (ok1.2 _ (gp_mem g.pt.2.1)) (ok1.2 _ (gp_mem g.pt.2.2))⟩
    rw [List.length_take] at this
    have hm : ((min k (delL ps).length : Nat) : Int) ≤ 40 := by omega
    omega
set_option maxHeartbeats 8000000 in
theorem lawDel (n c : Nat) (A : Option Addr) (w : World) (hn : n ≤ c) (hc : c ≤ 9223372036854775807) (hA : BytesAt w w.heap.size A n) :
    Calls Try.prog 5 #[.slice A n c] w fun e w' => e = .returned (.bool true) ∧ Below w.heap.size w w' := by
  by_cases hl : n ≤ 1048576
  · go_enter Try.func5, Try.ntmps5
    go_wp2_with fail
    refine (drawDel_any n c A _ hn hc hA).mono ?_
    rintro e w1 ⟨v1, ps, rfl, hown, hlen, B1⟩
    obtain ⟨A1, n1, c1, rfl⟩ := hown.slice
    obtain ⟨l1, q1, m1, p1⟩ := hown.pts
    have HI := hide (fun (W : World) (hb : Below w1.heap.size w1 W) => iDel_any ps A1 n1 c1 W l1 (by omega) (p1.to hb) hown.form.1)
    have HS := hide (fun (W : World) (hb : Below w1.heap.size w1 W) => sDel_any ps A1 n1 c1 W l1 (by omega) q1 (by unfold maxLen at m1; omega) (p1.to hb))
    have HW := hide (fun (W : World) (hb : Below w1.heap.size w1 W) => iSwp_any ps A1 n1 c1 W l1 (by omega) (p1.to hb) hown.form.1)
    have HA := hide (fun (W : World) (hb : Below w1.heap.size w1 W) => iHullArea_any ps A1 n1 c1 W l1 (by omega) hown.form.1 (p1.to hb))
    have DL := hide (fun (h : delL ps ≠ []) => del_law h)
    have NZ : Hid ((sT (delL ps)).length ≠ 0 → delL ps ≠ []) := hide (fun h e => h (by rw [e]; rfl))
    have LL : (sT (delL ps)).length ≤ 1000 := by
      by_cases h0 : delL ps = []
      · rw [h0]; simp [sT]
      · have := (DL.out h0).2.1; rw [sT_len]; omega
    have P1 := hide p1
    have L1 := hide l1
    have FO := hide hown.form.1
    clear hown p1 hA
    have d0 : decide (sT (delL ps) = sT (delL ps)) = true := by simp
    go_wp2_with fail
    refine (HI.out _ (Below.refl _ _)).mono ?_
    rintro e w2 ⟨A2, n2, c2, rfl, l2, q2, qb2, tr2, pl2, hx2⟩
    have F2 := ext_bel hx2
    clear hx2
    go_wp2_with fail
    refine (HS.out _ F2).mono ?_
    rintro e w3 ⟨A3, n3, c3, rfl, l3, tr3, hx3⟩
    have D3 := ext_bel hx3
    have F3 := F2.trans (D3.mono F2.size)
    have t3 := tr3.tris
    have tr23 := tr2.below D3
    clear hx3 tr2 tr3
    go_wp2_with fail
    refine (equalTris_any (sT (delL ps)) (sT (delL ps)) _ _ _ _ _ _ _ l2 l3 (by omega) (by omega) tr23.tris t3).mono ?_
    rintro e w4 ⟨rfl, hx4⟩
    have D4 := ext_bel hx4
    have F4 := F3.trans (D4.mono F3.size)
    have tr4 := tr23.below D4
    clear hx4 t3 tr23
    by_cases h0 : n2 = 0
    · have e0 : ((n2 : Int) == 0) = true := by rw [beq_iff_eq]; omega
      clear h0
      go_wp2_with fail
      refine (HS.out _ F4).mono ?_
      rintro e w5 ⟨A5, n5, c5, rfl, l5, tr5, hx5⟩
      have D5 := ext_bel hx5
      have F5 := F4.trans (D5.mono F4.size)
      have t5 := tr5.tris
      have tr45 := tr4.below D5
      clear hx5 tr5
      go_wp2_with fail
      refine (equalTris_any (sT (delL ps)) (sT (delL ps)) _ _ _ _ _ _ _ l2 l5 (by omega) (by omega) tr45.tris t5).mono ?_
      rintro e w6 ⟨rfl, hx6⟩
      have F6 := F5.trans ((ext_bel hx6).mono F5.size)
      clear hx6
      go_wp2_with fail
      go_ret
      exact ⟨rfl, B1.trans (F6.mono B1.size)⟩
    · have e0 : ((n2 : Int) == 0) = false := by rw [beq_eq_false_iff_ne]; omega
      have l2' : (delL ps).length = n2 := by rw [← l2, sT_len]
      obtain ⟨hsite, h40, hlen2, hpt, hdq, hsum, hbd⟩ := DL.out (NZ.out (by rw [l2]; exact h0))
      have ok1 := listOk_1' (siteB_iff.1 hsite).1
      have IS := hide (fun (W : World) (hb : Below w4.heap.size w4 W) => isDel_any ps (delL ps) A1 A2 n1 c1 n2 c2 W l1 hsite (P1.out.to (F4.trans (hb.mono F4.size))) FO.out l2' (by omega) (fun t ht => ⟨by rw [← l1]; exact (hpt t ht).1, (hpt t ht).2⟩) (fun t ht q hq => hdq t ht q (by omega)) (tr4.tris.to hb))
      have SB := hide (fun k (hk : k ≤ n2) => hbd k (by omega))
      have S1 := hide (fun k (hk : k < n2) => smT_take (trnT ps) (delL ps) k (by omega))
      have HSUM : Hid (smT (trnT ps) ((delL ps).take n2) = hullArea ps) := hide (by rw [List.take_of_length_le (by omega)]; exact hsum)
      have CELL : Hid (∀ i, i < n2 → ∀ W, Below w4.heap.size w4 W → ∃ b o, A2 = some ⟨b, o, none⟩ ∧ b < W.heap.size ∧ W.cell? ⟨b, o + i * 3, none⟩ = some (.int .i64 ((gT (delL ps) i).a : Int)) ∧ W.cell? ⟨b, o + i * 3 + 1, none⟩ = some (.int .i64 ((gT (delL ps) i).b : Int)) ∧ W.cell? ⟨b, o + i * 3 + 2, none⟩ = some (.int .i64 ((gT (delL ps) i).c : Int))) := hide (fun i hi W hb => by
        obtain ⟨b, o, hA, hbb, hc⟩ := tr4.tris (by omega)
        obtain ⟨h1, h2, h3⟩ := hc i (by omega)
        rw [gt_sT (by omega)] at h1 h2 h3
        exact ⟨b, o, hA, by have := hb.size; omega, (hb.cell (p := ⟨b, o + i * 3, none⟩) hbb).trans h1, (hb.cell (p := ⟨b, o + i * 3 + 1, none⟩) hbb).trans h2, (hb.cell (p := ⟨b, o + i * 3 + 2, none⟩) hbb).trans h3⟩)
      have PC : Hid (∀ i, i < n1 → ∀ W, Below w4.heap.size w4 W → ∃ b o, A1 = some ⟨b, o, none⟩ ∧ b < W.heap.size ∧ W.cell? ⟨b, o + i * 2, none⟩ = some (.int .i64 (pX ps i)) ∧ W.cell? ⟨b, o + i * 2 + 1, none⟩ = some (.int .i64 (pY ps i))) := hide (fun i hi W hb => by
        obtain ⟨b, o, hA, hbb, hc⟩ := (P1.out.to (F4.trans (hb.mono F4.size))) (by rw [L1.out]; omega)
        obtain ⟨h1, h2⟩ := hc i (by rw [L1.out]; omega)
        exact ⟨b, o, hA, hbb, h1, h2⟩)
      have PTI : Hid (∀ i, i < n2 → (gT (delL ps) i).a < n1 ∧ (gT (delL ps) i).b < n1 ∧ (gT (delL ps) i).c < n1) := hide (fun i hi => by have := (hpt _ (gT_mem (show i < (delL ps).length by omega))).1; rw [L1.out] at this; exact this)
      have CR := hide (fun (a b d : Nat) (ha : a < n1) (hb : b < n1) (hd : d < n1) (W : World) => iCross_any (gp ps a) (gp ps b) (gp ps d) W (okb (ok1.2 _ (gp_mem (by rw [L1.out]; exact ha)))) (okb (ok1.2 _ (gp_mem (by rw [L1.out]; exact hb)))) (okb (ok1.2 _ (gp_mem (by rw [L1.out]; exact hd)))))
      have TT : Hid (∀ i, trnT ps (gT (delL ps) i) = trn (gp ps (gT (delL ps) i).a) (gp ps (gT (delL ps) i).b) (gp ps (gT (delL ps) i).c)) := hide (fun i => rfl)
      have HL2 := hide hlen2
      have L2 := hide l2
      have HF4 := hide F4
      clear h0 hsite h40 hlen2 hpt hdq hsum hbd ok1 tr4 DL NZ HI HS l2 l2' LL d0 hlen
      have s0 : smT (trnT ps) ((delL ps).take 0) = 0 := rfl
      have S0 := hide s0
      clear s0
      go_wp2_with fail
      go_loopw [5, 6] (fun u5 u6 wr => ∃ k : Nat, k ≤ n2 ∧ u6 = .int .i64 k ∧ u5 = .int .i64 (smT (trnT ps) ((delL ps).take k)) ∧ ∃ x, wr = ext w4 x) (fun _ u6 _ => n2 - (intOf u6).toNat)
      case atStart => exact ⟨0, Nat.zero_le _, rfl, by rw [S0.out], ext_same _⟩
      case round =>
        obtain ⟨k, hk, rfl, rfl, x, rfl⟩ := hrel
        have BX : Below w4.heap.size w4 (ext w4 x) := ext_below _ _
        by_cases hlt : k < n2
        · obtain ⟨b, o, rfl, hb, c0, c1', c2'⟩ := CELL.out k hlt _ BX
          obtain ⟨la, lb, lc⟩ := PTI.out k hlt
          obtain ⟨pb, po, rfl, hpb, xa, ya⟩ := PC.out _ la _ BX
          obtain ⟨pb', po', hpp, _, xb, yb⟩ := PC.out _ lb _ BX
          injection hpp with hpp
          injection hpp with hp1 hp2 _
          subst hp1 hp2
          obtain ⟨pb', po', hpp, _, xd, yd⟩ := PC.out _ lc _ BX
          injection hpp with hpp
          injection hpp with hp1 hp2 _
          subst hp1 hp2
          have CRk := hide (CR.out _ _ _ la lb lc)
          have b1 := SB.out k hk
          have b2 := SB.out (k + 1) (by omega)
          have S2 := S1.out k hlt
          rw [TT.out] at S2
          have S2H := hide S2
          rw [S2] at b2
          have r0 : (0 : Int) ≤ (k : Int) := by omega
          have r1 : (k : Int) < (n2 : Int) := by omega
          have r2 : ((gT (delL ps) k).a : Int) < (n1 : Int) := by omega
          have r3 : ((gT (delL ps) k).b : Int) < (n1 : Int) := by omega
          have r4 : ((gT (delL ps) k).c : Int) < (n1 : Int) := by omega
          clear S2 CELL PC PTI CR SB S1 TT IS HW HA
          generalize trn (gp ps (gT (delL ps) k).a) (gp ps (gT (delL ps) k).b) (gp ps (gT (delL ps) k).c) = D at *
          generalize smT (trnT ps) ((delL ps).take k) = S at *
          generalize (gT (delL ps) k).a = a at *
          generalize (gT (delL ps) k).b = b' at *
          generalize (gT (delL ps) k).c = d at *
          generalize hxa : pX ps a = XA at *
          generalize hya : pY ps a = YA at *
          generalize hxb : pX ps b' = XB at *
          generalize hyb : pY ps b' = YB at *
          generalize hxd : pX ps d = XD at *
          generalize hyd : pY ps d = YD at *
          have CRk' : Hid (∀ W, Calls Try.prog 22 #[.agg #[.int .i64 XA, .int .i64 YA], .agg #[.int .i64 XB, .int .i64 YB], .agg #[.int .i64 XD, .int .i64 YD]] W fun e w' => e = .returned (.int .i64 D) ∧ ∃ x, w' = ext W x) := hide (fun W => by
            have := CRk.out W
            rw [← hxa, ← hya, ← hxb, ← hyb, ← hxd, ← hyd]
            exact this)
          clear CRk hxa hya hxb hyb hxd hyd
          go_wp2_with fail
          refine wp_region_ext (by kernel_rfl) (by kernel_rfl) ?_
          repeat (go_big_quiet_step ((first | (go_at_call 22; exact Calls.in_ext (CRk'.out _)))))
          refine wpQuiet_nil ?_
          rintro _ hnq
          have hzq := ext_sz hnq
          obtain ⟨nq, rfl⟩ := hnq
          (try simp at hzq)
          go_wp2_with fail
          exact ⟨⟨k + 1, by omega, by go_num, by rw [S2H.out], (ext_mk (by (repeat' (first | (with_reducible first | exact Below.refl _ _ | assumption | refine below_ext _ ?_ ?_ | refine Below.alloc ?_ ?_ _ | refine Below.drew ?_ | refine below_drewN ?_ _ | refine le_drewN _ ?_ | refine Below.setCell ?_ ?_ _ | exact Nat.le_refl _ | refine le_ext _ ?_ | refine le_alloc _ ?_ | refine le_setCell _ _ ?_ | refine le_drew ?_) | omega | (simp; done) | (simp; omega)))))⟩, by simp [intOf]; omega⟩
        · have ek : k = n2 := by omega
          subst ek
          have HSM := HSUM.out
          rw [HSM]
          have BXH := hide BX
          have hlH : Hid ((sT (sweepL ps)).length = k) := hide (by rw [← HL2.out]; exact L2.out)
          clear HSM CELL PC PTI CR SB S1 TT HSUM HL2
          generalize hullArea ps = AR at *
          have dA : (AR == AR) = true := by simp
          have dk : ((k : Int) == (k : Int)) = true := by simp
          go_wp2_with fail
          refine (IS.out _ BXH.out).mono ?_
          rintro e w' ⟨rfl, hw'⟩; have hzz1 := ext_sz hw'; obtain ⟨z1, rfl⟩ := hw'; (try simp at hzz1)
          go_wp2_with fail
          refine (HW.out _ (HF4.out.trans (Below.mono (by (repeat' (first | (with_reducible first | exact Below.refl _ _ | assumption | refine below_ext _ ?_ ?_ | refine Below.alloc ?_ ?_ _ | refine Below.drew ?_ | refine below_drewN ?_ _ | refine le_drewN _ ?_ | refine Below.setCell ?_ ?_ _ | exact Nat.le_refl _ | refine le_ext _ ?_ | refine le_alloc _ ?_ | refine le_setCell _ _ ?_ | refine le_drew ?_) | omega | (simp; done) | (simp; omega)))) HF4.out.size))).mono ?_
          rintro e w7 ⟨A7, n7, c7, rfl, l7, _, _, _, _, hx7⟩
          obtain rfl : n7 = k := by rw [← l7]; exact hlH.out
          have B7 := hide ((HF4.out.trans (Below.mono (show Below w4.heap.size w4 _ from (by (repeat' (first | (with_reducible first | exact Below.refl _ _ | assumption | refine below_ext _ ?_ ?_ | refine Below.alloc ?_ ?_ _ | refine Below.drew ?_ | refine below_drewN ?_ _ | refine le_drewN _ ?_ | refine Below.setCell ?_ ?_ _ | exact Nat.le_refl _ | refine le_ext _ ?_ | refine le_alloc _ ?_ | refine le_setCell _ _ ?_ | refine le_drew ?_) | omega | (simp; done) | (simp; omega))))) HF4.out.size)).trans ((ext_bel hx7).mono (by have := HF4.out.size; have := ext_size (ext w4 x) z1; have := ext_size w4 x; omega)))
          clear hx7 l7 hlH
          go_wp2_with fail
          refine (HA.out _ B7.out).mono ?_
          rintro e w' ⟨rfl, hw'⟩; have hzz2 := ext_sz hw'; obtain ⟨z2, rfl⟩ := hw'; (try simp at hzz2)
          go_wp2_with fail
          go_ret
          exact ⟨rfl, B1.trans ((B7.out.trans (Below.mono (show Below w7.heap.size w7 _ from (by (repeat' (first | (with_reducible first | exact Below.refl _ _ | assumption | refine below_ext _ ?_ ?_ | refine Below.alloc ?_ ?_ _ | refine Below.drew ?_ | refine below_drewN ?_ _ | refine le_drewN _ ?_ | refine Below.setCell ?_ ?_ _ | exact Nat.le_refl _ | refine le_ext _ ?_ | refine le_alloc _ ?_ | refine le_setCell _ _ ?_ | refine le_drew ?_) | omega | (simp; done) | (simp; omega))))) B7.out.size)).mono B1.size)⟩
  · have d0 : 1048576 < n := by omega
    go_enter Try.func5, Try.ntmps5
    go_wp2_with fail
    go_ret
    exact ⟨rfl, (by (repeat' (first | (with_reducible first | exact Below.refl _ _ | assumption | refine below_ext _ ?_ ?_ | refine Below.alloc ?_ ?_ _ | refine Below.drew ?_ | refine below_drewN ?_ _ | refine le_drewN _ ?_ | refine Below.setCell ?_ ?_ _ | exact Nat.le_refl _ | refine le_ext _ ?_ | refine le_alloc _ ?_ | refine le_setCell _ _ ?_ | refine le_drew ?_) | omega | (simp; done) | (simp; omega))))⟩
end Go.Proofs.Ytcebmcbglhkkfaa
