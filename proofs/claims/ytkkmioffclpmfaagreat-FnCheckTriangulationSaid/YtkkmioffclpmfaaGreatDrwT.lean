
/- DrawCheckTriangulation, DrawColorVertices. -/
import Derived.Test.YtkkmioffclpmfaaGreatDrawA
import Derived.Test.YtkkmioffclpmfaaGreatTrnI
import Derived.BigRegion
set_option linter.unusedVariables false
set_option linter.unusedSimpArgs false
namespace Go.Proofs.YtkkmioffclpmfaaGreat
open Go.RowKit

theorem TrisAt.src {w : World} {B : Nat} {A : Option Addr} {ts : List TI} (h : TrisAt w B A ts) : Src w A (triVals ts) := fun h0 => by
  rw [triVals_len] at h0
  obtain ⟨b, o, hA, _, hc⟩ := h (by omega)
  refine ⟨b, o, hA, fun j u hu => ?_⟩
  have hj : j < ts.length * 3 := by rw [← triVals_len]; exact (List.getElem?_eq_some_iff.1 hu).1
  obtain ⟨e1, e2, e3⟩ := triVals_at ts (j / 3) (by omega)
  obtain ⟨c1, c2, c3⟩ := hc (j / 3) (by omega)
  rcases (show j = j / 3 * 3 ∨ j = j / 3 * 3 + 1 ∨ j = j / 3 * 3 + 2 by omega) with hm | hm | hm
  · rw [← hm] at e1
    rw [show o + j / 3 * 3 = o + j from by omega] at c1
    rw [e1] at hu; injection hu with hu; rw [← hu]; exact c1
  · rw [← hm] at e2
    rw [show o + j / 3 * 3 + 1 = o + j from by omega] at c2
    rw [e2] at hu; injection hu with hu; rw [← hu]; exact c2
  · rw [← hm] at e3
    rw [show o + j / 3 * 3 + 2 = o + j from by omega] at c3
    rw [e3] at hu; injection hu with hu; rw [← hu]; exact c3
/-- Block g holds numbers in its first k cells. -/
def IntBl (w : World) (g M k : Nat) : Prop := k ≤ M ∧ ∃ f, RowAt w g 37 M f ∧ ∀ j, j < k → ∃ x : Int, f j = .int .i64 x
theorem IntBl.lt {w : World} {g M k : Nat} (h : IntBl w g M k) : g < w.heap.size := by obtain ⟨_, f, hr, _⟩ := h; exact hr.lt
theorem IntBl.block {w w' : World} {g M k : Nat} (h : IntBl w g M k) (hb : w'.heap[g]? = w.heap[g]?) : IntBl w' g M k := by
  obtain ⟨h1, f, hr, hf⟩ := h
  exact ⟨h1, f, hr.block hb, hf⟩
theorem IntBl.cell {w : World} {g M k : Nat} (h : IntBl w g M k) {j : Nat} (hj : j < k) : ∃ x : Int, w.cell? ⟨g, j, none⟩ = some (.int .i64 x) := by
  obtain ⟨h1, f, hr, hf⟩ := h
  obtain ⟨x, hx⟩ := hf j hj
  exact ⟨x, by rw [hr.cell (by omega), hx]⟩
theorem IntBl.frozen {w : World} {g M k : Nat} (h : IntBl w g M k) (j : Nat) : w.frozen? ⟨g, j, none⟩ = false := by
  obtain ⟨h1, f, hr, hf⟩ := h
  exact hr.frozen j
theorem IntBl.set {w : World} {g M k : Nat} (h : IntBl w g M k) {j : Nat} (hj : j < k) (x : Int) : IntBl (w.setCell ⟨g, j, none⟩ (.int .i64 x)) g M k := by
  obtain ⟨h1, f, hr, hf⟩ := h
  refine ⟨h1, _, hr.set (by omega) _, fun i hi => ?_⟩
  by_cases e : i = j
  · rw [if_pos e]; exact ⟨x, rfl⟩
  · rw [if_neg e]; exact hf i hi
/-- Such a block reads as triangles. -/
theorem IntBl.tris {w : World} {g M k : Nat} (h : IntBl w g M k) (o l : Nat) (hl : o + l * 3 ≤ k) : ∃ ts : List TI, ts.length = l ∧ TrisAt w w.heap.size (some ⟨g, o, none⟩) ts := by
  have key : ∀ i, ∃ t : TI, i < l → w.cell? ⟨g, o + i * 3, none⟩ = some (.int .i64 t.a) ∧ w.cell? ⟨g, o + i * 3 + 1, none⟩ = some (.int .i64 t.b) ∧ w.cell? ⟨g, o + i * 3 + 2, none⟩ = some (.int .i64 t.c) := fun i => by
    by_cases hi : i < l
    · obtain ⟨x, hx⟩ := h.cell (j := o + i * 3) (by omega)
      obtain ⟨y, hy⟩ := h.cell (j := o + i * 3 + 1) (by omega)
      obtain ⟨z, hz⟩ := h.cell (j := o + i * 3 + 2) (by omega)
      exact ⟨⟨x, y, z⟩, fun _ => ⟨hx, hy, hz⟩⟩
    · exact ⟨default, fun h' => absurd h' hi⟩
  obtain ⟨F, hF⟩ := Classical.skolem.1 key
  have hps : ∀ i, i < l → gt ((List.range l).map F) i = F i := fun i h => by simp [gt, h]
  refine ⟨(List.range l).map F, by simp, fun _ => ⟨g, o, rfl, h.lt, fun i hi => ?_⟩⟩
  have hil : i < l := by simpa using hi
  rw [hps i hil]
  exact hF i hil
theorem TRow.intBl {w : World} {base : Nat} {A : Option Addr} {ts : List TI} (h : TRow w base A ts) (h0 : 0 < ts.length) : ∃ g M, A = some ⟨g, 0, none⟩ ∧ base ≤ g ∧ IntBl w g M (ts.length * 3) := by
  obtain ⟨g, M, f, hA, hg, hm, hr, hf⟩ := h h0
  exact ⟨g, M, hA, hg, hm, f, hr, fun j hj => ⟨_, hf j hj⟩⟩
/-- append(v, us...). -/
theorem app_tris {ops : Array Oper} {rest : List Oper} {o : Oper} {a : Act} {Q : Exit → Act → World → Prop} {w : World} (hgd : o.guard = none) (s x : Operand)
    (ho : o.op = .call { callee := .builtin .append, args := #[s, x], argTypes := #[30, 30] })
    (base : Nat) (v : Value) (ts : List TI) (hs : a.eval s = v) (hown : OwnT w base v ts) (A : Option Addr) (m c B : Nat) (us : List TI) (hx : a.eval x = .slice A m c) (hm : us.length = m) (hq : TrisAt w B A us) (hA : (A = none → m = 0) ∧ ∀ b o s, A = some ⟨b, o, s⟩ → s = none)
    (hlen : ts.length ≤ 2000000) (hlen2 : m ≤ 2000000) (hbase : base ≤ w.heap.size)
    (h : ∀ v' w', OwnT w' base v' (ts ++ us) → Below base w w' → (v'.ownBlock = v.ownBlock ∨ v'.ownBlock = some w.heap.size) → w.grownBy w' v.ownBlock → wpList Tryz.prog ops Q rest (a.put o.dst v') w') :
    wpList Tryz.prog ops Q (o :: rest) a w := by
  refine wpList_plain hgd fun K hK => ?_
  refine app_wp triElt s x ho base v ts.length _ hs hown A m c (triVals us) hx (by rw [triVals_len, hm]) hq.src hA.1 hA.2 (triVals_one _) (by unfold maxLen; omega) (by omega) hbase fun v' w' h2 h3 h4 => hK _ _ ?_
  exact h v' w' (by unfold OwnT; rw [List.length_append, triVals_app, hm]; exact h2) ((Below.refl _ _).grown h3 hbase hown.lt) h4 h3
set_option maxRecDepth 20000 in
set_option maxHeartbeats 2000000 in
theorem drawCkT_any (n c : Nat) (A : Option Addr) (w : World) (hn : n ≤ c) (hc : c ≤ 9223372036854775807) (hA : BytesAt w w.heap.size A n) :
    Calls Tryz.prog 23 #[.slice A n c] w fun e w' => ∃ A1 n1 c1 Z m d ps ts, e = .returned (.tuple #[.slice A1 n1 c1, .slice Z m d]) ∧ OwnP w' w.heap.size (.slice A1 n1 c1) ps ∧ ps.length ≤ 9 ∧ CB 1001 ps ∧ ts.length = m ∧ (m ≤ 1000 ∧ m ≤ d ∧ d ≤ 9223372036854775807) ∧ TrisAt w' w'.heap.size Z ts ∧ Below w.heap.size w w' := by
  go_enter Tryz.func23, Tryz.ntmps23
  go_wp2_with fail
  refine (newReader_any n c A _ hn hc hA).mono ?_
  rintro e w1 ⟨g, nb, rfl, hg, hnb, hr, hx⟩
  have B1 := ext_bel hx
  have lg := hr.lt
  clear hx
  go_wp2_with fail
  refine (anyPolygon_any _ nb _ g 0 A _ (by omega) hnb hr).mono ?_
  rintro e w2 ⟨v, ps, p2, rfl, hown2, hlen, hcb, hp2, D2⟩
  obtain ⟨A2, n2, c2, rfl⟩ := hown2.slice
  have l2 := hown2.pts.1
  have s2 := D2.size
  have PB : Hid (∀ k, (Value.slice A2 n2 c2).ownBlock = some k → k < w2.heap.size) := hide hown2.lt2
  have TR := hide (fun (W : World) (hb : Below w2.heap.size w2 W) => sTri_any ps A2 n2 c2 W l2 (by omega) (hown2.pts.2.2.2.to hb))
  have i1 : IntKind.i64.wrap ((n2 : Int) + 1) = ((n2 + 1 : Nat) : Int) := IntWalk.i64_in _ (by omega)
  have O2 := hide hown2
  have DD2 := hide D2
  have TL := hide (triV_len ps)
  have OE := hide (fun w => OwnT.empty w w2.heap.size)
  clear hr hown2 D2
  generalize triV ps = TS at *
  go_wp2_with fail
  refine (TR.out _ (by (repeat' (first | (with_reducible first | exact Below.refl _ _ | assumption | refine below_ext _ ?_ ?_ | refine Below.alloc ?_ ?_ _ | refine Below.drew ?_ | refine below_drewN ?_ _ | refine le_drewN _ ?_ | refine Below.setCell ?_ ?_ _ | exact Nat.le_refl _ | refine le_ext _ ?_ | refine le_alloc _ ?_ | refine le_setCell _ _ ?_ | refine le_drew ?_) | omega | (simp; done) | (simp; omega))))).mono ?_
  rintro e w6 ⟨v6, rfl, own6, hx6⟩
  obtain ⟨A6, n6, c6, rfl⟩ := own6.slice
  have R6 := hide own6.tris
  have F6 := hide own6.form
  have E6 := hide (ext_bel hx6)
  have OE6 := hide ((OE.out w2 (Nat.le_refl _)).below E6.out)
  have s6 : w2.heap.size ≤ w6.heap.size := by have := E6.out.size; simp at this; omega
  have W6 := hide ((show Below w2.heap.size w2 _ from (by (repeat' (first | (with_reducible first | exact Below.refl _ _ | assumption | refine below_ext _ ?_ ?_ | refine Below.alloc ?_ ?_ _ | refine Below.drew ?_ | refine below_drewN ?_ _ | refine le_drewN _ ?_ | refine Below.setCell ?_ ?_ _ | exact Nat.le_refl _ | refine le_ext _ ?_ | refine le_alloc _ ?_ | refine le_setCell _ _ ?_ | refine le_drew ?_) | omega | (simp; done) | (simp; omega))))).trans (E6.out.mono (by simp)))
  clear own6 hx6 TR OE
  by_cases h0 : n6 = 0
  · have d0 : decide ((0 : Int) < (n6 : Int)) = false := decide_eq_false (by omega)
    have z0 : ¬ 0 < n6 := by omega
    have HZ : Hid (([] : List TI).length = n6) := hide (by rw [h0]; rfl)
    clear h0
    go_wp2_with (at_builtin; refine app_tris rfl _ _ rfl w2.heap.size _ [] rfl OE6.out A6 n6 c6 _ TS rfl R6.out.1 R6.out.2.2.2 F6.out (Nat.zero_le _) (by have := R6.out.1; have := TL.out; omega) s6 ?_; intro v7 w7 hown6 hb7 hat7 hgr7; obtain ⟨A7, n7, c7, rfl⟩ := hown6.slice; have O7 := hide hown6; have B7 := hide hb7; have e7 := hown6.tris.1; rw [List.nil_append, R6.out.1] at e7; subst e7; clear hown6 hat7 hgr7 hb7)
    have WW := hide (W6.out.trans B7.out)
    have D7 := hide (DD2.out.then WW.out)
    have O27 := hide (O2.out.below WW.out)
    have R7 : Hid (TS.length = n6 ∧ TRow w7 w2.heap.size A7 TS) := hide (by have := O7.out.trow; rwa [List.nil_append] at this)
    have C7 := O7.out.tris.2.1
    have M7 := O7.out.tris.2.2.1
    unfold maxLen at M7
    have k7 : n6 ≤ 1000 := by have := R7.out.1; have := TL.out; omega
    have K7 : n6 ≤ 1000 ∧ n6 ≤ c7 ∧ c7 ≤ 9223372036854775807 := ⟨k7, C7, M7⟩
    clear O2 DD2 W6 B7 O7 R6 F6 E6 OE6 s6 TL
    have BF := hide (B1.trans (D7.out.below hg B1.size))
    have OF := hide (O27.out.base B1.size)
    ((try simp only [Exit.inBlock, Exit.then]); refine bodyPost_ret (by simp [results, Tryz.results23, go_sem, ↓IntWalk.iteOmega]; try rfl) rfl ?_)
    exact ⟨_, _, _, _, _, _, ps, [], rfl, OF.out, hlen, hcb, HZ.out, K7, fun h => absurd h (Nat.lt_irrefl 0), BF.out⟩
  · have d0 : decide ((0 : Int) < (n6 : Int)) = true := decide_eq_true (by omega)
    have z0 : 0 < n6 := by omega
    clear h0
    go_wp2_with (at_builtin; refine app_tris rfl _ _ rfl w2.heap.size _ [] rfl OE6.out A6 n6 c6 _ TS rfl R6.out.1 R6.out.2.2.2 F6.out (Nat.zero_le _) (by have := R6.out.1; have := TL.out; omega) s6 ?_; intro v7 w7 hown6 hb7 hat7 hgr7; obtain ⟨A7, n7, c7, rfl⟩ := hown6.slice; have O7 := hide hown6; have B7 := hide hb7; have e7 := hown6.tris.1; rw [List.nil_append, R6.out.1] at e7; subst e7; clear hown6 hat7 hgr7 hb7)
    have WW := hide (W6.out.trans B7.out)
    have D7 := hide (DD2.out.then WW.out)
    have O27 := hide (O2.out.below WW.out)
    have R7 : Hid (TS.length = n6 ∧ TRow w7 w2.heap.size A7 TS) := hide (by have := O7.out.trow; rwa [List.nil_append] at this)
    have C7 := O7.out.tris.2.1
    have M7 := O7.out.tris.2.2.1
    unfold maxLen at M7
    have k7 : n6 ≤ 1000 := by have := R7.out.1; have := TL.out; omega
    have K7 : n6 ≤ 1000 ∧ n6 ≤ c7 ∧ c7 ≤ 9223372036854775807 := ⟨k7, C7, M7⟩
    clear O2 DD2 W6 B7 O7 R6 F6 E6 OE6 s6 TL
    obtain ⟨gb, M, hA7, hgb, hib⟩ := R7.out.2.intBl (by have := R7.out.1; omega)
    subst hA7
    rw [R7.out.1] at hib
    have I7 := hide hib
    have ngb : gb ≠ g := by omega
    clear hib R7
    refine (pick_any n6 _ nb _ g p2 A _ (by omega) (by omega) (by omega) hnb D7.out.rd).mono ?_
    rintro e w8 ⟨v8, rfl, hv8, hb8, hr8⟩
    have D8 := hide (D7.out.trans (Drew.of_but (p := p2) hb8 hr8))
    have O8 := hide (O27.out.drew (Drew.of_but (p := p2) hb8 hr8) lg)
    have I8 := hide (I7.out.block (hb8.block gb ngb))
    clear hb8 hr8 D7 O27 I7
    go_wp2_with fail
    refine (pick_any 6 _ nb _ g (p2 + 1) A _ (by omega) (by omega) (by omega) hnb D8.out.rd).mono ?_
    rintro e w9 ⟨v9, rfl, hv9, hb9, hr9⟩
    have D9 := hide (D8.out.trans (Drew.of_but (p := p2 + 1) hb9 hr9))
    have O9 := hide (O8.out.drew (Drew.of_but (p := p2 + 1) hb9 hr9) lg)
    have I9 := hide (I8.out.block (hb9.block gb ngb))
    have q1 : (0 : Int) ≤ (v8 : Int) := by omega
    have q2 : (v8 : Int) < (n6 : Int) := by omega
    have FAR : Hid (∀ k, (Value.slice A2 n2 c2).ownBlock = some k → k ≠ gb) := hide (fun k hk => by have := PB.out k hk; omega)
    clear hb9 hr9 D8 O8 I8
    by_cases e0 : v9 = 0
    · have t0 : ((v9 : Int) == 0) = true := by rw [e0]; rfl
      clear e0
      go_wp2_with fail
      refine (pick_any (n2 + 1) _ nb _ g (p2 + 1 + 1) A _ (by omega) (by omega) (by omega) hnb D9.out.rd).mono ?_
      rintro e w10 ⟨v10, rfl, hv10, hb10, hr10⟩
      have D10 := hide (D9.out.trans (Drew.of_but (p := p2 + 1 + 1) hb10 hr10))
      have O10 := hide (O9.out.drew (Drew.of_but (p := p2 + 1 + 1) hb10 hr10) lg)
      have I10 := hide (I9.out.block (hb10.block gb ngb))
      obtain ⟨x, hx⟩ := I10.out.cell (j := v8 * 3) (by omega)
      have fx := I10.out.frozen (v8 * 3)
      have TF := hide ((I10.out.set (j := v8 * 3) (by omega) (v10 : Int)).tris 0 n6 (by omega))
      have BF : Hid (Below w.heap.size w (w10.setCell ⟨gb, v8 * 3, none⟩ (.int .i64 (v10 : Int)))) := hide ((B1.trans (D10.out.below hg B1.size)).trans ((Below.refl _ _).setCell (show w.heap.size ≤ gb by have := B1.size; omega) _))
      have OF : Hid (OwnP (w10.setCell ⟨gb, v8 * 3, none⟩ (.int .i64 (v10 : Int))) w.heap.size (.slice A2 n2 c2) ps) := hide ((O10.out.far (q := ⟨gb, v8 * 3, none⟩) FAR.out _).base B1.size)
      clear hb10 hr10 D9 O9 I9 D10 O10 I10
      go_wp2_with fail
      ((try simp only [Exit.inBlock, Exit.then]); refine bodyPost_ret (by simp [results, Tryz.results23, go_sem, ↓IntWalk.iteOmega]; try rfl) rfl ?_)
      obtain ⟨ts, ht, hts⟩ := TF.out
      exact ⟨_, _, _, _, _, _, ps, ts, rfl, OF.out, hlen, hcb, ht, K7, hts, BF.out⟩
    · have t0 : ((v9 : Int) == 0) = false := by rw [beq_eq_false_iff_ne]; omega
      have B9 := hide (B1.trans (D9.out.below hg B1.size))
      have P9 := hide (O9.out.base B1.size)
      have gw : w.heap.size ≤ gb := by have := B1.size; omega
      by_cases e1 : v9 = 1
      · have t1 : ((v9 : Int) == 1) = true := by rw [e1]; rfl
        have TF := hide (I9.out.tris 3 (n6 - 1) (by omega))
        have j1 : (1 : Int) ≤ (n6 : Int) := by omega
        have j2 : (1 : Int) ≤ (c7 : Int) := by omega
        have j3 : 1 ≤ n6 := z0
        have j4 : 1 ≤ c7 := by omega
        have j5 : ((n6 : Int) - 1).toNat = n6 - 1 := by omega
        have k8 : n6 - 1 ≤ 1000 := by omega
        have K8 : n6 - 1 ≤ 1000 ∧ n6 - 1 ≤ c7 - 1 ∧ c7 - 1 ≤ 9223372036854775807 := ⟨k8, by omega, by omega⟩
        clear e0 e1 D9 O9 I9
        by_cases hcap : c7 = 1
        · have HZ : Hid (([] : List TI).length = n6 - 1) := hide (by show 0 = n6 - 1; omega)
          go_wp2_with fail
          ((try simp only [Exit.inBlock, Exit.then]); refine bodyPost_ret (by simp [results, Tryz.results23, go_sem, ↓IntWalk.iteOmega]; try rfl) rfl ?_)
          exact ⟨_, _, _, _, _, _, ps, [], rfl, P9.out, hlen, hcb, HZ.out, ⟨k8, by omega, by omega⟩, fun h => absurd h (Nat.lt_irrefl 0), B9.out⟩
        · go_wp2_with fail
          ((try simp only [Exit.inBlock, Exit.then]); refine bodyPost_ret (by simp [results, Tryz.results23, go_sem, ↓IntWalk.iteOmega]; try rfl) rfl ?_)
          obtain ⟨ts, ht, hts⟩ := TF.out
          exact ⟨_, _, _, _, _, _, ps, ts, rfl, P9.out, hlen, hcb, ht, K8, hts, B9.out⟩
      · have t1 : ((v9 : Int) == 1) = false := by rw [beq_eq_false_iff_ne]; omega
        obtain ⟨x, hx⟩ := I9.out.cell (j := v8 * 3) (by omega)
        obtain ⟨y, hy⟩ := I9.out.cell (j := v8 * 3 + 1) (by omega)
        obtain ⟨z, hz⟩ := I9.out.cell (j := v8 * 3 + 2) (by omega)
        by_cases e2 : v9 = 2
        · have t2 : ((v9 : Int) == 2) = true := by rw [e2]; rfl
          have fx := I9.out.frozen (v8 * 3)
          have fy := I9.out.frozen (v8 * 3 + 1)
          have fz := I9.out.frozen (v8 * 3 + 2)
          have TF := hide ((((I9.out.set (j := v8 * 3) (by omega) y).set (j := v8 * 3 + 1) (by omega) z).set (j := v8 * 3 + 2) (by omega) x).tris 0 n6 (by omega))
          have BF : Hid (Below w.heap.size w (((w9.setCell ⟨gb, v8 * 3, none⟩ (.int .i64 y)).setCell ⟨gb, v8 * 3 + 1, none⟩ (.int .i64 z)).setCell ⟨gb, v8 * 3 + 2, none⟩ (.int .i64 x))) := hide (((B9.out.setCell gw _).setCell gw _).setCell gw _)
          have OF : Hid (OwnP (((w9.setCell ⟨gb, v8 * 3, none⟩ (.int .i64 y)).setCell ⟨gb, v8 * 3 + 1, none⟩ (.int .i64 z)).setCell ⟨gb, v8 * 3 + 2, none⟩ (.int .i64 x)) w.heap.size (.slice A2 n2 c2) ps) := hide (((P9.out.far (q := ⟨gb, v8 * 3, none⟩) FAR.out _).far (q := ⟨gb, v8 * 3 + 1, none⟩) FAR.out _).far (q := ⟨gb, v8 * 3 + 2, none⟩) FAR.out _)
          clear e0 e1 e2 D9 O9 I9
          go_wp2_with fail
          go_region
          go_wp2_with fail
          ((try simp only [Exit.inBlock, Exit.then]); refine bodyPost_ret (by simp [results, Tryz.results23, go_sem, ↓IntWalk.iteOmega]; try rfl) rfl ?_)
          obtain ⟨ts, ht, hts⟩ := TF.out
          exact ⟨_, _, _, _, _, _, ps, ts, rfl, OF.out, hlen, hcb, ht, K7, hts, Below.drew BF.out⟩
        · have t2 : ((v9 : Int) == 2) = false := by rw [beq_eq_false_iff_ne]; omega
          by_cases e3 : v9 = 3
          · have t3 : ((v9 : Int) == 3) = true := by rw [e3]; rfl
            obtain ⟨x0, hx0⟩ := I9.out.cell (j := 0) (by omega)
            obtain ⟨y0, hy0⟩ := I9.out.cell (j := 1) (by omega)
            obtain ⟨z0', hz0⟩ := I9.out.cell (j := 2) (by omega)
            have fx := I9.out.frozen 0
            have fy := I9.out.frozen 1
            have fz := I9.out.frozen 2
            have TF := hide ((((I9.out.set (j := 0) (by omega) x).set (j := 1) (by omega) y).set (j := 2) (by omega) z).tris 0 n6 (by omega))
            have BF : Hid (Below w.heap.size w (((w9.setCell ⟨gb, 0, none⟩ (.int .i64 x)).setCell ⟨gb, 1, none⟩ (.int .i64 y)).setCell ⟨gb, 2, none⟩ (.int .i64 z))) := hide (((B9.out.setCell gw _).setCell gw _).setCell gw _)
            have OF : Hid (OwnP (((w9.setCell ⟨gb, 0, none⟩ (.int .i64 x)).setCell ⟨gb, 1, none⟩ (.int .i64 y)).setCell ⟨gb, 2, none⟩ (.int .i64 z)) w.heap.size (.slice A2 n2 c2) ps) := hide (((P9.out.far (q := ⟨gb, 0, none⟩) FAR.out _).far (q := ⟨gb, 1, none⟩) FAR.out _).far (q := ⟨gb, 2, none⟩) FAR.out _)
            clear e0 e1 e2 e3 D9 O9 I9
            go_wp2_with fail
            ((try simp only [Exit.inBlock, Exit.then]); refine bodyPost_ret (by simp [results, Tryz.results23, go_sem, ↓IntWalk.iteOmega]; try rfl) rfl ?_)
            obtain ⟨ts, ht, hts⟩ := TF.out
            exact ⟨_, _, _, _, _, _, ps, ts, rfl, OF.out, hlen, hcb, ht, K7, hts, BF.out⟩
          · have t3 : ((v9 : Int) == 3) = false := by rw [beq_eq_false_iff_ne]; omega
            have TF := hide (I9.out.tris 0 n6 (by omega))
            clear e0 e1 e2 e3 D9 O9 I9
            go_wp2_with fail
            ((try simp only [Exit.inBlock, Exit.then]); refine bodyPost_ret (by simp [results, Tryz.results23, go_sem, ↓IntWalk.iteOmega]; try rfl) rfl ?_)
            obtain ⟨ts, ht, hts⟩ := TF.out
            exact ⟨_, _, _, _, _, _, ps, ts, rfl, P9.out, hlen, hcb, ht, K7, hts, B9.out⟩
end Go.Proofs.YtkkmioffclpmfaaGreat
