
/- The reference's hull: sorted, reversed, hull, sums. -/
import Derived.Test.YtelhidonhldjeaaAddP
import Derived.Test.YtelhidonhldjeaaHalf
import Derived.Test.YtelhidonhldjeaaHullK
import Derived.BigRegion
import Derived.Deep.RegionHeld3
set_option linter.unusedVariables false
set_option linter.unusedSimpArgs false
namespace Go.Proofs.Ytelhidonhldjeaa
open Go.RowKit

theorem step_pts {ops : Array Oper} {o : Oper} {a : Act} {K : Act → World → Prop} {Q : Exit → Act → World → Prop} {E : Prop} {w : World} (hgd : o.guard = none) (s x : Operand)
    (ho : o.op = .call { callee := .builtin .append, args := #[s, x], argTypes := #[23, 23] })
    (base : Nat) (v : Value) (ps : List Pt) (hs : a.eval s = v) (hown : OwnP w base v ps) (A : Option Addr) (m c B : Nat) (qs : List Pt) (hx : a.eval x = .slice A m c) (hm : qs.length = m) (hq : PtsAt w B A qs) (hA : (A = none → m = 0) ∧ ∀ b o s, A = some ⟨b, o, s⟩ → s = none)
    (hlen : ps.length ≤ 2000000) (hlen2 : m ≤ 2000000) (hbase : base ≤ w.heap.size)
    (h : ∀ v' w', OwnP w' base v' (ps ++ qs) → Below base w w' → (v'.ownBlock = v.ownBlock ∨ v'.ownBlock = some w.heap.size) → w.grownBy w' v.ownBlock → K (a.put o.dst v') w') :
    if Region.wanted o (yielded ops a.tmps) = true then Oper.wp Try.prog o a w K Q else E := by
  have hw : Region.wanted o (yielded ops a.tmps) = true := by simp [Region.wanted, hgd]
  rw [if_pos hw]
  refine app_wp ptElt s x ho base v ps.length _ hs hown A m c (ptVals qs) hx (by rw [ptVals_len, hm]) hq.src hA.1 hA.2 (ptVals_one _) (by unfold maxLen; omega) (by omega) hbase fun v' w' h2 h3 h4 => ?_
  exact h v' w' (by unfold OwnP; rw [List.length_append, ptVals_app, hm]; exact h2) ((Below.refl _ _).grown h3 hbase hown.lt) h4 h3
theorem step_pt {ops : Array Oper} {o : Oper} {a : Act} {K : Act → World → Prop} {Q : Exit → Act → World → Prop} {E : Prop} {w : World} (hgd : o.guard = none) (s x : Operand)
    (ho : o.op = .call { callee := .builtin .append, args := #[s, x], argTypes := #[23, 23] })
    (base : Nat) (v : Value) (ps : List Pt) (hs : a.eval s = v) (hown : OwnP w base v ps) (p q : Int) (b c : Nat) (hx : a.eval x = .slice (some ⟨b, 0, none⟩) 1 c) (h0 : w.cell? ⟨b, 0, none⟩ = some (.int .i64 p)) (h1 : w.cell? ⟨b, 1, none⟩ = some (.int .i64 q))
    (hlen : ps.length ≤ 2000000) (hbase : base ≤ w.heap.size)
    (h : ∀ v' w', OwnP w' base v' (ps ++ [⟨p, q⟩]) → Below base w w' → (v'.ownBlock = v.ownBlock ∨ v'.ownBlock = some w.heap.size) → w.grownBy w' v.ownBlock → K (a.put o.dst v') w') :
    if Region.wanted o (yielded ops a.tmps) = true then Oper.wp Try.prog o a w K Q else E :=
  step_pts (B := b + 1) hgd s x ho base v ps hs hown (some ⟨b, 0, none⟩) 1 c [⟨p, q⟩] hx rfl (fun _ => ⟨b, 0, rfl, Nat.lt_succ_self _, fun i hi => by
    have : i = 0 := by simp at hi; exact hi
    subst this
    exact ⟨by simpa [pX, gp] using h0, by simpa [pY, gp] using h1⟩⟩) ⟨(fun h => by cases h), (fun b o s h => by injection h with h; injection h with _ _ h3; exact h3.symm)⟩ hlen (by omega) hbase h
theorem sortP_take {ps : List Pt} {k : Nat} (hk : k < ps.length) : sortP (ps.take (k + 1)) = insP ⟨pX ps k, pY ps k⟩ (sortP (ps.take k)) := by
  rw [List.take_succ_eq_append_getElem hk, ← gp_lt hk]
  unfold sortP
  rw [List.foldl_append]; rfl
theorem rev_drop {ps : List Pt} {m : Nat} (hm : m < ps.length) : (ps.drop m).reverse = (ps.drop (m + 1)).reverse ++ [⟨pX ps m, pY ps m⟩] := by
  rw [List.drop_eq_getElem_cons hm, List.reverse_cons, ← gp_lt hm]; rfl
theorem hullOf_two {l : List Pt} (h : (sortP l).length < 3) : sortP l = hullOf l := by
  unfold hullOf
  split
  · rfl
  · rename_i h2
    have e : (sortP l).length = 2 := by omega
    unfold lowL upL
    match hs : sortP l, e with
    | [a, b], _ => simp [halfL, halfR, popTo]
set_option maxHeartbeats 1000000 in
theorem ssorted_any (ps : List Pt) (A : Option Addr) (n c : Nat) (w : World) (hn : ps.length = n) (hm : n ≤ 1000) (hs : PtsAt w w.heap.size A ps) :
    Calls Try.prog 123 #[.slice A n c] w fun e w' => ∃ v, e = .returned v ∧ OwnP w' w.heap.size v (sortP ps) ∧ ∃ x, w' = ext w x := by
  have HN := hide hn
  clear hn
  go_enter Try.func123, Try.ntmps123
  go_wp2
  go_loopw [3, 4] (fun u3 u4 wr => ∃ (k : Nat) (L : List Pt), k ≤ n ∧ u4 = .int .i64 k ∧ OwnP wr w.heap.size u3 L ∧ Hid (L = sortP (ps.take k)) ∧ L.length ≤ k ∧ Below w.heap.size w wr) (fun _ u4 _ => n - (intOf u4).toNat)
  case atStart => exact ⟨0, [], Nat.zero_le _, rfl, OwnP.empty w w.heap.size 0 (Nat.le_refl _) #[] rfl (by simp [maxLen]), rfl, Nat.le_refl _, (by (repeat' (first | (with_reducible exact Below.refl _ _) | (with_reducible assumption) | (with_reducible refine below_ext _ ?_ ?_) | (with_reducible refine Below.alloc ?_ ?_ _) | (with_reducible refine Below.drew ?_) | (with_reducible refine below_drewN ?_ _) | (with_reducible refine le_drewN _ ?_) | (with_reducible refine Below.setCell ?_ ?_ _) | (with_reducible exact Nat.le_refl _) | (with_reducible refine le_ext _ ?_) | (with_reducible refine le_alloc _ ?_) | (with_reducible refine le_setCell _ _ ?_) | (with_reducible refine le_drew ?_) | omega | (simp; done) | (simp; omega))))⟩
  case round =>
    obtain ⟨k, L, hk, rfl, hown, hL, hLl, hbel⟩ := hrel
    obtain ⟨A0, n0, c0, rfl⟩ := hown.slice
    have hsz := hbel.size
    have hl0 := hown.pts.1
    have OWN0 := hide hown
    clear hown
    by_cases hlt : k < n
    · obtain ⟨b, o, rfl, hbl, hc⟩ := hs (by rw [HN.out]; omega)
      obtain ⟨hx0, hy0⟩ := hc k (by rw [HN.out]; omega)
      have hx := (hbel.cell (p := ⟨b, o + k * 2, none⟩) hbl).trans hx0
      have hy := (hbel.cell (p := ⟨b, o + k * 2 + 1, none⟩) hbl).trans hy0
      clear hc hx0 hy0
      have NX := hide (sortP_take (ps := ps) (k := k) (by rw [HN.out]; exact hlt))
      have NL := hide (insP_len (⟨pX ps k, pY ps k⟩ : Pt) L)
      go_wp2_with (go_at_call 149; refine (addPoint_any L (pX ps k) (pY ps k) A0 n0 c0 w.heap.size _ (by omega) (by omega) OWN0.out).mono ?_; rintro e w' ⟨v', rfl, hown', hw'⟩; have hz := ext_sz hw'; obtain ⟨y, rfl⟩ := hw'; have OWN1 := hide hown'; clear hown')
      exact ⟨⟨k + 1, _, by omega, by go_num, OWN1.out, hide (by rw [NX.out, hL.out]), by have := NL.out; omega, (by (repeat' (first | (with_reducible exact Below.refl _ _) | (with_reducible assumption) | (with_reducible refine below_ext _ ?_ ?_) | (with_reducible refine Below.alloc ?_ ?_ _) | (with_reducible refine Below.drew ?_) | (with_reducible refine below_drewN ?_ _) | (with_reducible refine le_drewN _ ?_) | (with_reducible refine Below.setCell ?_ ?_ _) | (with_reducible exact Nat.le_refl _) | (with_reducible refine le_ext _ ?_) | (with_reducible refine le_alloc _ ?_) | (with_reducible refine le_setCell _ _ ?_) | (with_reducible refine le_drew ?_) | omega | (simp; done) | (simp; omega))))⟩, by simp [intOf]; omega⟩
    · have : k = n := by omega
      subst this
      go_wp2
      go_ret
      exact ⟨_, rfl, by rw [show sortP ps = L from by rw [hL.out, List.take_of_length_le (by rw [HN.out]; omega)]]; exact OWN0.out, ext_mk hbel⟩
set_option maxHeartbeats 1000000 in
theorem reversed_any (ps : List Pt) (A : Option Addr) (n c : Nat) (w : World) (hn : ps.length = n) (hm : n ≤ 1000) (hs : PtsAt w w.heap.size A ps) :
    Calls Try.prog 118 #[.slice A n c] w fun e w' => ∃ v, e = .returned v ∧ OwnP w' w.heap.size v ps.reverse ∧ ∃ x, w' = ext w x := by
  have HN := hide hn
  clear hn
  go_enter Try.func118, Try.ntmps118
  go_wp2
  go_loopw [3, 4] (fun u3 u4 wr => ∃ (k : Nat) (z : Int) (L : List Pt), k ≤ n ∧ u4 = .int .i64 z ∧ z = (k : Int) - 1 ∧ OwnP wr w.heap.size u3 L ∧ Hid (L = (ps.drop k).reverse) ∧ L.length ≤ n - k ∧ Below w.heap.size w wr) (fun _ u4 _ => (intOf u4 + 1).toNat)
  case atStart => exact ⟨n, (n : Int) - 1, [], Nat.le_refl _, by go_num, rfl, OwnP.empty w w.heap.size 0 (Nat.le_refl _) #[] rfl (by simp [maxLen]), hide (by rw [List.drop_of_length_le (by rw [HN.out]; exact Nat.le_refl _)]; rfl), Nat.zero_le _, (by (repeat' (first | (with_reducible exact Below.refl _ _) | (with_reducible assumption) | (with_reducible refine below_ext _ ?_ ?_) | (with_reducible refine Below.alloc ?_ ?_ _) | (with_reducible refine Below.drew ?_) | (with_reducible refine below_drewN ?_ _) | (with_reducible refine le_drewN _ ?_) | (with_reducible refine Below.setCell ?_ ?_ _) | (with_reducible exact Nat.le_refl _) | (with_reducible refine le_ext _ ?_) | (with_reducible refine le_alloc _ ?_) | (with_reducible refine le_setCell _ _ ?_) | (with_reducible refine le_drew ?_) | omega | (simp; done) | (simp; omega))))⟩
  case round =>
    obtain ⟨k, z, L, hk, rfl, hz, hown, hL, hLl, hbel⟩ := hrel
    obtain ⟨A0, n0, c0, rfl⟩ := hown.slice
    have hsz := hbel.size
    have hl0 := hown.pts.1
    have OWN0 := hide hown
    clear hown
    by_cases hlt : 0 < k
    · obtain ⟨m, rfl⟩ : ∃ m, k = m + 1 := ⟨k - 1, by omega⟩
      obtain rfl : z = (m : Int) := by omega
      clear hz
      obtain ⟨b, o, rfl, hbl, hc⟩ := hs (by rw [HN.out]; omega)
      obtain ⟨hx0, hy0⟩ := hc m (by rw [HN.out]; omega)
      have hx := (hbel.cell (p := ⟨b, o + m * 2, none⟩) hbl).trans hx0
      have hy := (hbel.cell (p := ⟨b, o + m * 2 + 1, none⟩) hbl).trans hy0
      clear hc hx0 hy0
      have NX := hide (rev_drop (ps := ps) (m := m) (by rw [HN.out]; omega))
      have hml : (m : Int) < (n : Int) := by omega
      go_wp2_with (at_builtin; refine app_pt rfl _ _ rfl w.heap.size (.slice A0 n0 c0) L rfl (OWN0.out.below (by (repeat' (first | (with_reducible exact Below.refl _ _) | (with_reducible assumption) | (with_reducible refine below_ext _ ?_ ?_) | (with_reducible refine Below.alloc ?_ ?_ _) | (with_reducible refine Below.drew ?_) | (with_reducible refine below_drewN ?_ _) | (with_reducible refine le_drewN _ ?_) | (with_reducible refine Below.setCell ?_ ?_ _) | (with_reducible exact Nat.le_refl _) | (with_reducible refine le_ext _ ?_) | (with_reducible refine le_alloc _ ?_) | (with_reducible refine le_setCell _ _ ?_) | (with_reducible refine le_drew ?_) | omega | (simp; done) | (simp; omega))))) (pX ps m) (pY ps m) _ _ rfl (by simp [go_sem]) (by simp [go_sem]) (by omega) (by simp; omega) ?_; intro v' w' hown' hb' hat hgr; obtain ⟨A2, n2, c2, rfl⟩ := hown'.slice; have HO3 := hide hown'; clear hown' hat hgr)
      exact ⟨⟨m, (m : Int) - 1, L ++ [⟨pX ps m, pY ps m⟩], by omega, by go_num, rfl, HO3.out, hide (by rw [NX.out, hL.out]), by simp; omega, Below.trans (by (repeat' (first | (with_reducible exact Below.refl _ _) | (with_reducible assumption) | (with_reducible refine below_ext _ ?_ ?_) | (with_reducible refine Below.alloc ?_ ?_ _) | (with_reducible refine Below.drew ?_) | (with_reducible refine below_drewN ?_ _) | (with_reducible refine le_drewN _ ?_) | (with_reducible refine Below.setCell ?_ ?_ _) | (with_reducible exact Nat.le_refl _) | (with_reducible refine le_ext _ ?_) | (with_reducible refine le_alloc _ ?_) | (with_reducible refine le_setCell _ _ ?_) | (with_reducible refine le_drew ?_) | omega | (simp; done) | (simp; omega)))) hb'⟩, by first | (simp [intOf]; done) | (simp [intOf]; omega)⟩
    · obtain rfl : k = 0 := by omega
      obtain rfl : z = -1 := by omega
      clear hz
      go_wp2
      go_ret
      exact ⟨_, rfl, by rw [show ps.reverse = L from by rw [hL.out]; rfl]; exact OWN0.out, ext_mk hbel⟩
theorem popTo_len (p : Pt) : ∀ st : List Pt, st ≠ [] → 1 ≤ (popTo p st).length
  | [], h => absurd rfl h
  | [a], _ => by simp [popTo]
  | a :: b :: r, _ => by
    rw [popTo]
    split
    · exact popTo_len p (b :: r) (by simp)
    · simp
theorem halfL_pos {s : List Pt} (h : s ≠ []) : 1 ≤ (halfL s).length := by
  unfold halfL
  rw [List.length_reverse]
  have e : s = s.dropLast ++ [s.getLast h] := (List.dropLast_concat_getLast h).symm
  rw [e, halfR_snoc]
  simp
theorem take_dropLast {l : List Pt} {m : Nat} (h : l.length = m + 1) : l.take m = l.dropLast := by
  rw [List.dropLast_eq_take, h]; rfl
theorem hullOf_more {l : List Pt} (h : ¬ (sortP l).length < 2) : (lowL l).dropLast ++ (upL l).dropLast = hullOf l := by
  unfold hullOf; rw [if_neg h]
theorem InB.sort {s : List Pt} (h : InB s) : InB (sortP s) := fun p hp => h p (sortP_mem.1 hp)
theorem InB.rev {s : List Pt} (h : InB s) : InB s.reverse := fun p hp => h p (List.mem_reverse.1 hp)
set_option maxHeartbeats 1000000 in
theorem shull_any (ps : List Pt) (A : Option Addr) (n c : Nat) (w : World) (hn : ps.length = n) (hm : n ≤ 1000) (hb : InB ps) (hs : PtsAt w w.heap.size A ps) :
    Calls Try.prog 71 #[.slice A n c] w fun e w' => ∃ v, e = .returned v ∧ OwnP w' w.heap.size v (hullOf ps) ∧ ∃ x, w' = ext w x := by
  have SL := hide (sortP_len ps)
  have HN := hide hn
  go_enter Try.func71, Try.ntmps71
  go_wp2_with fail
  refine (ssorted_any ps A n c _ hn hm hs).mono ?_
  rintro e w1 ⟨v1, rfl, hown1, x1, rfl⟩
  obtain ⟨A1, n1, c1, rfl⟩ := hown1.slice
  have hl1 := hown1.pts.1
  have P1 := hide hown1.pts.2.2.2
  have O1 := hide hown1
  have hs1 := ext_size w x1
  have hm1 : n1 ≤ 1000 := by have := SL.out; omega
  clear hown1
  have HL1 := hide hl1
  clear hn hs
  by_cases h3 : n1 < 3
  · have HT := hide (hullOf_two (l := ps) (by rw [HL1.out]; exact h3))
    clear hl1
    go_wp2
    go_ret
    exact ⟨_, rfl, by rw [← HT.out]; exact O1.out, (ext_mk (by (repeat' (first | (with_reducible exact Below.refl _ _) | (with_reducible assumption) | (with_reducible refine below_ext _ ?_ ?_) | (with_reducible refine Below.alloc ?_ ?_ _) | (with_reducible refine Below.drew ?_) | (with_reducible refine below_drewN ?_ _) | (with_reducible refine le_drewN _ ?_) | (with_reducible refine Below.setCell ?_ ?_ _) | (with_reducible exact Nat.le_refl _) | (with_reducible refine le_ext _ ?_) | (with_reducible refine le_alloc _ ?_) | (with_reducible refine le_setCell _ _ ?_) | (with_reducible refine le_drew ?_) | omega | (simp; done) | (simp; omega)))))⟩
  · have HT := hide (hullOf_more (l := ps) (by rw [HL1.out]; omega))
    have hne : sortP ps ≠ [] := fun h => by rw [h] at hl1; simp at hl1; omega
    have LP1 := hide (halfL_pos hne)
    have LP2 := hide (halfL_pos (s := (sortP ps).reverse) (by simpa using hne))
    clear hne hl1
    have hd : decide ((n1 : Int) < 3) = false := decide_eq_false (by omega)
    generalize hW1 : ext w x1 = w1 at *
    have HB1 := hide (show Below w.heap.size w w1 from by rw [← hW1]; exact ext_below _ _)
    clear hW1
    go_wp2_with fail
    refine (chain_any (sortP ps) A1 n1 c1 _ HL1.out hm1 hb.sort P1.out).mono ?_
    rintro e w2 ⟨v2, rfl, hown2, x2, rfl⟩
    obtain ⟨A2, n2, c2, rfl⟩ := hown2.slice
    generalize hW2 : ext w1 x2 = w2 at *
    have HB2 := hide (show Below w1.heap.size w1 w2 from by rw [← hW2]; exact ext_below _ _)
    clear hW2
    have hs2 := HB2.out.size
    have O2 := hide hown2
    have P1b := hide (P1.out.to HB2.out)
    clear hown2
    go_wp2_with fail
    refine (reversed_any (sortP ps) A1 n1 c1 _ HL1.out hm1 P1b.out).mono ?_
    rintro e w3 ⟨v3, rfl, hown3, x3, rfl⟩
    obtain ⟨A3, n3, c3, rfl⟩ := hown3.slice
    generalize hW3 : ext w2 x3 = w3 at *
    have HB3 := hide (show Below w2.heap.size w2 w3 from by rw [← hW3]; exact ext_below _ _)
    clear hW3
    have hs3 := HB3.out.size
    have hl3 := hown3.pts.1
    have P3 := hide hown3.pts.2.2.2
    rw [List.length_reverse, HL1.out] at hl3
    subst hl3
    clear hown3
    have HL3 : Hid ((sortP ps).reverse.length = n1) := hide (by rw [List.length_reverse, HL1.out])
    go_wp2_with fail
    refine (chain_any (sortP ps).reverse A3 n1 c3 _ HL3.out hm1 hb.sort.rev P3.out).mono ?_
    rintro e w4 ⟨v4, rfl, hown4, x4, rfl⟩
    obtain ⟨A4, n4, c4, rfl⟩ := hown4.slice
    generalize hW4 : ext w3 x4 = w4 at *
    have HB4 := hide (show Below w3.heap.size w3 w4 from by rw [← hW4]; exact ext_below _ _)
    clear hW4
    have hs4 := HB4.out.size
    have O2b := O2.out.below (w := w2) (HB3.out.trans (HB4.out.mono hs3))
    have l2 := O2b.pts.1
    have l4 := hown4.pts.1
    obtain ⟨m2, rfl⟩ : ∃ m, n2 = m + 1 := ⟨n2 - 1, by have := LP1.out; omega⟩
    obtain ⟨m4, rfl⟩ : ∃ m, n4 = m + 1 := ⟨n4 - 1, by have := LP2.out; omega⟩
    obtain ⟨g2, rfl, ga, gb, _, _⟩ := O2b.head (by omega)
    obtain ⟨g4, rfl, gc, gd, _, _⟩ := hown4.head (by omega)
    have c2a := O2b.pts.2.1
    have c2b := O2b.pts.2.2.1
    have c4a := hown4.pts.2.1
    have c4b := hown4.pts.2.2.1
    have T2 := O2b.take (k := m2) (by omega) (fun h => by cases h)
    have T4 := hown4.take (k := m4) (by omega) (fun h => by cases h)
    rw [take_dropLast l2] at T2
    rw [take_dropLast l4] at T4
    have T2H := hide (T2.below (W := w4.drew) (by (repeat' (first | (with_reducible exact Below.refl _ _) | (with_reducible assumption) | (with_reducible refine below_ext _ ?_ ?_) | (with_reducible refine Below.alloc ?_ ?_ _) | (with_reducible refine Below.drew ?_) | (with_reducible refine below_drewN ?_ _) | (with_reducible refine le_drewN _ ?_) | (with_reducible refine Below.setCell ?_ ?_ _) | (with_reducible exact Nat.le_refl _) | (with_reducible refine le_ext _ ?_) | (with_reducible refine le_alloc _ ?_) | (with_reducible refine le_setCell _ _ ?_) | (with_reducible refine le_drew ?_) | omega | (simp; done) | (simp; omega)))))
    have T4H := hide ((T4.below (W := w4.drew) (by (repeat' (first | (with_reducible exact Below.refl _ _) | (with_reducible assumption) | (with_reducible refine below_ext _ ?_ ?_) | (with_reducible refine Below.alloc ?_ ?_ _) | (with_reducible refine Below.drew ?_) | (with_reducible refine below_drewN ?_ _) | (with_reducible refine le_drewN _ ?_) | (with_reducible refine Below.setCell ?_ ?_ _) | (with_reducible exact Nat.le_refl _) | (with_reducible refine le_ext _ ?_) | (with_reducible refine le_alloc _ ?_) | (with_reducible refine le_setCell _ _ ?_) | (with_reducible refine le_drew ?_) | omega | (simp; done) | (simp; omega))))).pts.2.2.2)
    have LL : Hid ((halfL (sortP ps).reverse).dropLast.length = m4) := hide (by rw [List.length_dropLast, l4]; rfl)
    have LL2 : (halfL (sortP ps)).dropLast.length ≤ 2000000 := by have := halfL_len (sortP ps); have := HL1.out; rw [List.length_dropLast, l2]; omega
    have LL4 : m4 ≤ 2000000 := by have := halfL_len (sortP ps).reverse; have := HL3.out; omega
    have FF : Hid ((some (⟨g4, 0, none⟩ : Addr) = none → m4 = 0) ∧ ∀ b o s, some (⟨g4, 0, none⟩ : Addr) = some ⟨b, o, s⟩ → s = none) := ⟨(fun h => by cases h), (fun b o s h => by injection h with h; injection h with _ _ h; exact h.symm)⟩
    have SZ : w1.heap.size ≤ w4.drew.heap.size := by show _ ≤ w4.heap.size; omega
    unfold maxLen at c2b c4b
    clear T2 T4 hown4 O2b O2 l2 l4
    have e1 : IntKind.i64.wrap ((m2 : Int) + 1 - 1) = m2 := by rw [Int.add_sub_cancel]; exact IntWalk.i64_in _ (by omega)
    have e2 : IntKind.i64.wrap ((m4 : Int) + 1 - 1) = m4 := by rw [Int.add_sub_cancel]; exact IntWalk.i64_in _ (by omega)
    have e3 : IntKind.i64.wrap (m2 : Int) = m2 := IntWalk.i64_in _ (by omega)
    have e4 : IntKind.i64.wrap (m4 : Int) = m4 := IntWalk.i64_in _ (by omega)
    have q1 : (m2 : Int) ≤ (c2 : Int) := by omega
    have q2 : (m4 : Int) ≤ (c4 : Int) := by omega
    go_wp2_with fail
    go_region_held3 (fun W => True) (exact trivial) (first | (refine step_pts (by rfl) (.tmp 21) (.tmp 26) (by rfl) w1.heap.size (.slice (some ⟨g2, 0, none⟩) m2 c2) (halfL (sortP ps)).dropLast (by rfl) T2H.out (some ⟨g4, 0, none⟩) m4 c4 w4.heap.size (halfL (sortP ps).reverse).dropLast (by rfl) LL.out T4H.out FF.out LL2 LL4 SZ ?_; intro v7 w7 hown7 hb7 hat7 hgr7; obtain ⟨A7, n7, c7, rfl⟩ := hown7.slice; have O7 := hide hown7; have B7 := hide hb7; clear hown7 hat7 hgr7))
    go_wp2_with fail
    go_ret
    have HT2 := HT.out
    unfold lowL upL at HT2
    exact ⟨_, rfl, by rw [← HT2]; exact O7.out.base hs1, ext_mk ((((HB1.out.trans (HB2.out.mono hs1)).trans (HB3.out.mono (by omega))).trans (HB4.out.mono (by omega))).trans (Below.trans (by (repeat' (first | (with_reducible exact Below.refl _ _) | (with_reducible assumption) | (with_reducible refine below_ext _ ?_ ?_) | (with_reducible refine Below.alloc ?_ ?_ _) | (with_reducible refine Below.drew ?_) | (with_reducible refine below_drewN ?_ _) | (with_reducible refine le_drewN _ ?_) | (with_reducible refine Below.setCell ?_ ?_ _) | (with_reducible exact Nat.le_refl _) | (with_reducible refine le_ext _ ?_) | (with_reducible refine le_alloc _ ?_) | (with_reducible refine le_setCell _ _ ?_) | (with_reducible refine le_drew ?_) | omega | (simp; done) | (simp; omega)))) (B7.out.mono hs1)))⟩
end Go.Proofs.Ytelhidonhldjeaa
