
/- The reference's sweep. -/
import Derived.Test.YtcebmcbglhkkfaaSwpW
set_option linter.unusedVariables false
set_option linter.unusedSimpArgs false
namespace Go.Proofs.Ytcebmcbglhkkfaa
open Go.RowKit

set_option maxRecDepth 20000 in
set_option maxHeartbeats 4000000 in
theorem addRing_any (ps : List Pt) (R : List Nat) (N : Nat) (A5 : Option Addr) (n5 c5 sb so c9 : Nat) (w : World) (hR : R.length = n5) (h2 : 2 ≤ n5) (h40 : n5 ≤ 100) (hi : IntsAt w w.heap.size A5 (ri R)) (hsb : sb < w.heap.size) (hs : ∀ i, i < n5 → w.cell? ⟨sb, so + i, none⟩ = some (.bool (seenB ps R N i))) :
    Calls Try.prog 65 #[.slice A5 n5 c5, .slice (some ⟨sb, so, none⟩) n5 c9, .int .i64 (N : Int)] w fun e w' => ∃ v, e = .returned v ∧ Own w' w.heap.size v (ri (ringTo ps R N n5)) ∧ ∃ x, w' = ext w x := by
  have HLR := hide hR
  have HI := hide hi
  have HS := hide hs
  clear hR hi hs
  have n52 : 0 < n5 := by omega
  have E0 := hide (Own.empty w w.heap.size (Nat.le_refl _))
  go_enter Try.func65, Try.ntmps65
  go_wp2_with fail
  go_loopw [7, 9] (fun u7 u9 wr => ∃ x : Nat, x ≤ n5 ∧ u9 = .int .i64 x ∧ Own wr w.heap.size u7 (ri (ringTo ps R N x)) ∧ Below w.heap.size w wr) (fun _ u9 _ => n5 - (intOf u9).toNat)
  case atStart => exact ⟨0, Nat.zero_le _, rfl, E0.out, (by (repeat' (first | (with_reducible first | exact Below.refl _ _ | assumption | refine below_ext _ ?_ ?_ | refine Below.alloc ?_ ?_ _ | refine Below.drew ?_ | refine below_drewN ?_ _ | refine le_drewN _ ?_ | refine Below.setCell ?_ ?_ _ | exact Nat.le_refl _ | refine le_ext _ ?_ | refine le_alloc _ ?_ | refine le_setCell _ _ ?_ | refine le_drew ?_) | omega | (simp; done) | (simp; omega))))⟩
  case round =>
    obtain ⟨x, hx, rfl, hown, hbel⟩ := hrel
    obtain ⟨A13, n13, c13, rfl⟩ := own_slice hown
    have OWN := hide hown
    have hszc := hbel.size
    clear hown
    by_cases hlt6 : x < n5
    · obtain ⟨rb, ro, rfl, hrb, hrc⟩ := HI.out (by rw [ri_len, HLR.out]; omega)
      obtain ⟨y, hy⟩ : ∃ y, y = (x + n5 - 1) % n5 := ⟨_, rfl⟩
      have hyn : y < n5 := by rw [hy]; exact Nat.mod_lt _ n52
      have cx0 : w.cell? ⟨rb, ro + x, none⟩ = some (.int .i64 ((gn R x : Nat) : Int)) := by rw [← ri_gi (by rw [HLR.out]; omega)]; exact hrc x (by rw [ri_len, HLR.out]; omega)
      have cx := (hbel.cell (p := ⟨rb, ro + x, none⟩) hrb).trans cx0
      have sx := (hbel.cell (p := ⟨sb, so + x, none⟩) hsb).trans (HS.out x hlt6)
      have sy := (hbel.cell (p := ⟨sb, so + y, none⟩) hsb).trans (HS.out y hyn)
      have lrb : rb < wr.heap.size := by omega
      have lsb : sb < wr.heap.size := by omega
      have e3 : Int.tmod ((x : Int) + (n5 : Int) - 1) (n5 : Int) = (y : Int) := by
        rw [hy, show (x : Int) + (n5 : Int) - 1 = ((x + n5 - 1 : Nat) : Int) by omega]; exact (Int.ofNat_tmod (x + n5 - 1) n5).symm
      have BF : Hid (befB ps R N x = seenB ps R N y) := hide (by unfold befB; rw [HLR.out, hy])
      have RS1 := hide (ringTo_s ps R N x)
      have NL : (ri (ringTo ps R N x)).length ≤ 2000000 := by rw [ri_len]; have := ringTo_len ps R N x; omega
      have NL2 : (ri (ringTo ps R N x) ++ [((gn R x : Nat) : Int)]).length ≤ 2000000 := by rw [List.length_append, ri_len]; have := ringTo_len ps R N x; simp; omega
      have BK := hide (show blkN ps R N x = (if (!befB ps R N x || !seenB ps R N x) = true then [gn R x] else []) ++ (if (!befB ps R N x && seenB ps R N x) = true then [N] else []) from rfl)
      rw [BF.out] at BK
      have b6 : (x : Int) < (n5 : Int) := by omega
      have b7 : (y : Int) < (n5 : Int) := by omega
      have b8 : ((n5 : Int) == 0) = false := by rw [beq_eq_false_iff_ne]; omega
      clear hy cx0 hrc BF
      generalize seenB ps R N x = SX at *
      generalize seenB ps R N y = SY at *
      generalize gn R x = a at *
      cases SY <;> cases SX
      · have NR : Hid (ri (ringTo ps R N (x + 1)) = ri (ringTo ps R N x) ++ [(a : Int)]) := hide (by rw [RS1.out, BK.out, ri_app]; rfl)
        go_wp2_with (at_builtin; refine app_one rfl _ _ rfl w.heap.size (.slice A13 n13 c13) (ri (ringTo ps R N x)) rfl (own_below OWN.out (by (repeat' (first | (with_reducible first | exact Below.refl _ _ | assumption | refine below_ext _ ?_ ?_ | refine Below.alloc ?_ ?_ _ | refine Below.drew ?_ | refine below_drewN ?_ _ | refine le_drewN _ ?_ | refine Below.setCell ?_ ?_ _ | exact Nat.le_refl _ | refine le_ext _ ?_ | refine le_alloc _ ?_ | refine le_setCell _ _ ?_ | refine le_drew ?_) | omega | (simp; done) | (simp; omega))))) (a : Int) _ _ rfl (by simp [go_sem]) NL (by simp; omega) ?_; intro v' w14 hown' hb' hat hgr; have sx14 := ((hb'.cell (p := ⟨sb, so + x, none⟩) hsb).trans (((show Below w.heap.size wr _ from (by (repeat' (first | (with_reducible first | exact Below.refl _ _ | assumption | refine below_ext _ ?_ ?_ | refine Below.alloc ?_ ?_ _ | refine Below.drew ?_ | refine below_drewN ?_ _ | refine le_drewN _ ?_ | refine Below.setCell ?_ ?_ _ | exact Nat.le_refl _ | refine le_ext _ ?_ | refine le_alloc _ ?_ | refine le_setCell _ _ ?_ | refine le_drew ?_) | omega | (simp; done) | (simp; omega))))).cell (p := ⟨sb, so + x, none⟩) hsb).trans sx)); obtain ⟨A14, n14, c14, rfl⟩ := own_slice hown'; have O14 := hide hown'; have H14 := hide hb'; have z14 : w.heap.size ≤ w14.heap.size := Nat.le_trans (by simp; omega) hb'.size; clear hown' hat hgr hb')
        exact ⟨⟨x + 1, by omega, by go_num, by rw [NR.out]; exact O14.out, Below.trans (Below.trans hbel (by (repeat' (first | (with_reducible first | exact Below.refl _ _ | assumption | refine below_ext _ ?_ ?_ | refine Below.alloc ?_ ?_ _ | refine Below.drew ?_ | refine below_drewN ?_ _ | refine le_drewN _ ?_ | refine Below.setCell ?_ ?_ _ | exact Nat.le_refl _ | refine le_ext _ ?_ | refine le_alloc _ ?_ | refine le_setCell _ _ ?_ | refine le_drew ?_) | omega | (simp; done) | (simp; omega))))) H14.out⟩, by simp [intOf]; omega⟩
      · have NR : Hid (ri (ringTo ps R N (x + 1)) = (ri (ringTo ps R N x) ++ [(a : Int)]) ++ [(N : Int)]) := hide (by rw [RS1.out, BK.out, ri_app, List.append_assoc]; rfl)
        go_wp2_with (first | (at_builtin; refine app_one rfl _ _ rfl w.heap.size (.slice A13 n13 c13) (ri (ringTo ps R N x)) rfl (own_below OWN.out (by (repeat' (first | (with_reducible first | exact Below.refl _ _ | assumption | refine below_ext _ ?_ ?_ | refine Below.alloc ?_ ?_ _ | refine Below.drew ?_ | refine below_drewN ?_ _ | refine le_drewN _ ?_ | refine Below.setCell ?_ ?_ _ | exact Nat.le_refl _ | refine le_ext _ ?_ | refine le_alloc _ ?_ | refine le_setCell _ _ ?_ | refine le_drew ?_) | omega | (simp; done) | (simp; omega))))) (a : Int) _ _ rfl (by simp [go_sem]) NL (by simp; omega) ?_; intro v' w14 hown' hb' hat hgr; have sx14 := ((hb'.cell (p := ⟨sb, so + x, none⟩) hsb).trans (((show Below w.heap.size wr _ from (by (repeat' (first | (with_reducible first | exact Below.refl _ _ | assumption | refine below_ext _ ?_ ?_ | refine Below.alloc ?_ ?_ _ | refine Below.drew ?_ | refine below_drewN ?_ _ | refine le_drewN _ ?_ | refine Below.setCell ?_ ?_ _ | exact Nat.le_refl _ | refine le_ext _ ?_ | refine le_alloc _ ?_ | refine le_setCell _ _ ?_ | refine le_drew ?_) | omega | (simp; done) | (simp; omega))))).cell (p := ⟨sb, so + x, none⟩) hsb).trans sx)); obtain ⟨A14, n14, c14, rfl⟩ := own_slice hown'; have O14 := hide hown'; have H14 := hide hb'; have z14 : w.heap.size ≤ w14.heap.size := Nat.le_trans (by simp; omega) hb'.size; clear hown' hat hgr hb') | (at_builtin; refine app_one rfl _ _ rfl w.heap.size (.slice A14 n14 c14) (ri (ringTo ps R N x) ++ [(a : Int)]) rfl (own_below O14.out (by (repeat' (first | (with_reducible first | exact Below.refl _ _ | assumption | refine below_ext _ ?_ ?_ | refine Below.alloc ?_ ?_ _ | refine Below.drew ?_ | refine below_drewN ?_ _ | refine le_drewN _ ?_ | refine Below.setCell ?_ ?_ _ | exact Nat.le_refl _ | refine le_ext _ ?_ | refine le_alloc _ ?_ | refine le_setCell _ _ ?_ | refine le_drew ?_) | omega | (simp; done) | (simp; omega))))) (N : Int) _ _ rfl (by simp [go_sem]) NL2 (by simp; omega) ?_; intro v' w15 hown' hb' hat hgr; obtain ⟨A15, n15, c15, rfl⟩ := own_slice hown'; have O15 := hide hown'; have H15 := hide hb'; clear hown' hat hgr hb'))
        exact ⟨⟨x + 1, by omega, by go_num, by rw [NR.out]; exact O15.out, Below.trans (Below.trans (Below.trans (Below.trans hbel (by (repeat' (first | (with_reducible first | exact Below.refl _ _ | assumption | refine below_ext _ ?_ ?_ | refine Below.alloc ?_ ?_ _ | refine Below.drew ?_ | refine below_drewN ?_ _ | refine le_drewN _ ?_ | refine Below.setCell ?_ ?_ _ | exact Nat.le_refl _ | refine le_ext _ ?_ | refine le_alloc _ ?_ | refine le_setCell _ _ ?_ | refine le_drew ?_) | omega | (simp; done) | (simp; omega))))) H14.out) (by (repeat' (first | (with_reducible first | exact Below.refl _ _ | assumption | refine below_ext _ ?_ ?_ | refine Below.alloc ?_ ?_ _ | refine Below.drew ?_ | refine below_drewN ?_ _ | refine le_drewN _ ?_ | refine Below.setCell ?_ ?_ _ | exact Nat.le_refl _ | refine le_ext _ ?_ | refine le_alloc _ ?_ | refine le_setCell _ _ ?_ | refine le_drew ?_) | omega | (simp; done) | (simp; omega))))) H15.out⟩, by simp [intOf]; omega⟩
      · have NR : Hid (ri (ringTo ps R N (x + 1)) = ri (ringTo ps R N x) ++ [(a : Int)]) := hide (by rw [RS1.out, BK.out, ri_app]; rfl)
        go_wp2_with (at_builtin; refine app_one rfl _ _ rfl w.heap.size (.slice A13 n13 c13) (ri (ringTo ps R N x)) rfl (own_below OWN.out (by (repeat' (first | (with_reducible first | exact Below.refl _ _ | assumption | refine below_ext _ ?_ ?_ | refine Below.alloc ?_ ?_ _ | refine Below.drew ?_ | refine below_drewN ?_ _ | refine le_drewN _ ?_ | refine Below.setCell ?_ ?_ _ | exact Nat.le_refl _ | refine le_ext _ ?_ | refine le_alloc _ ?_ | refine le_setCell _ _ ?_ | refine le_drew ?_) | omega | (simp; done) | (simp; omega))))) (a : Int) _ _ rfl (by simp [go_sem]) NL (by simp; omega) ?_; intro v' w14 hown' hb' hat hgr; have sx14 := ((hb'.cell (p := ⟨sb, so + x, none⟩) hsb).trans (((show Below w.heap.size wr _ from (by (repeat' (first | (with_reducible first | exact Below.refl _ _ | assumption | refine below_ext _ ?_ ?_ | refine Below.alloc ?_ ?_ _ | refine Below.drew ?_ | refine below_drewN ?_ _ | refine le_drewN _ ?_ | refine Below.setCell ?_ ?_ _ | exact Nat.le_refl _ | refine le_ext _ ?_ | refine le_alloc _ ?_ | refine le_setCell _ _ ?_ | refine le_drew ?_) | omega | (simp; done) | (simp; omega))))).cell (p := ⟨sb, so + x, none⟩) hsb).trans sx)); obtain ⟨A14, n14, c14, rfl⟩ := own_slice hown'; have O14 := hide hown'; have H14 := hide hb'; have z14 : w.heap.size ≤ w14.heap.size := Nat.le_trans (by simp; omega) hb'.size; clear hown' hat hgr hb')
        exact ⟨⟨x + 1, by omega, by go_num, by rw [NR.out]; exact O14.out, Below.trans (Below.trans hbel (by (repeat' (first | (with_reducible first | exact Below.refl _ _ | assumption | refine below_ext _ ?_ ?_ | refine Below.alloc ?_ ?_ _ | refine Below.drew ?_ | refine below_drewN ?_ _ | refine le_drewN _ ?_ | refine Below.setCell ?_ ?_ _ | exact Nat.le_refl _ | refine le_ext _ ?_ | refine le_alloc _ ?_ | refine le_setCell _ _ ?_ | refine le_drew ?_) | omega | (simp; done) | (simp; omega))))) H14.out⟩, by simp [intOf]; omega⟩
      · have NR : Hid (ri (ringTo ps R N (x + 1)) = ri (ringTo ps R N x)) := hide (by rw [RS1.out, BK.out]; simp)
        go_wp2_with fail
        exact ⟨⟨x + 1, by omega, by go_num, by rw [NR.out]; exact OWN.out, hbel⟩, by simp [intOf]; omega⟩
    · obtain rfl : x = n5 := by omega
      go_wp2_with fail
      go_ret
      exact ⟨_, rfl, OWN.out, ext_mk hbel⟩
theorem boolElt : Elt 58 4 1 1 (.bool false) := ⟨Try.underlying58, by kernel_rfl, rfl, by decide⟩
def OwnB (w : World) (base : Nat) (v : Value) (bs : List Bool) : Prop := w.ownsRow base 4 1 v bs.length (bs.map Value.bool)
theorem OwnB.below {w W : World} {base : Nat} {v : Value} {bs : List Bool} (h : OwnB w base v bs) (hb : Below w.heap.size w W) : OwnB W base v bs := own_below h hb
theorem OwnB.empty (w : World) (base : Nat) (hb : base ≤ w.heap.size) : OwnB (w.alloc (.cells #[] 4)) base (.slice (some ⟨w.heap.size, 0, none⟩) 0 0) [] :=
  ⟨rfl, .inr ⟨w.heap.size, 0, #[], rfl, hb, heap_alloc_new w _, Nat.le_refl _, by simp [maxLen], rfl, rfl⟩⟩
theorem OwnB.slice {w : World} {base : Nat} {v : Value} {bs : List Bool} (h : OwnB w base v bs) : ∃ A n c, v = .slice A n c := by
  unfold OwnB at h
  rcases h.2 with ⟨hv, _⟩ | ⟨g, cap, cur, hv, _⟩
  · exact ⟨_, _, _, hv⟩
  · exact ⟨_, _, _, hv⟩
theorem OwnB.cells {w : World} {base : Nat} {A : Option Addr} {n c : Nat} {bs : List Bool} (h : OwnB w base (.slice A n c) bs) : bs.length = n ∧ (0 < n → ∃ b, A = some ⟨b, 0, none⟩ ∧ b < w.heap.size ∧ ∀ i, (hi : i < bs.length) → w.cell? ⟨b, 0 + i, none⟩ = some (.bool bs[i])) := by
  unfold OwnB at h
  rcases h.2 with ⟨hv, h0⟩ | ⟨g, cap, cur, hv, hg, hgg, hnc, hcm, hsz, htk⟩
  · injection hv with h1 h2 h3
    subst h1 h2 h3
    exact ⟨h0, fun hn => by omega⟩
  · injection hv with h1 h2 h3
    subst h1 h2 h3
    refine ⟨rfl, fun _ => ⟨g, rfl, (Array.getElem?_eq_some_iff.1 hgg).1, fun i hi => ?_⟩⟩
    have hv : (bs.map Value.bool)[i]? = some (.bool bs[i]) := by rw [List.getElem?_map, List.getElem?_eq_getElem hi]; rfl
    rw [← htk, List.getElem?_take, if_pos (by omega)] at hv
    simp [World.cell?, hgg, ← Array.getElem?_toList, hv]
theorem app_bool {ops : Array Oper} {rest : List Oper} {o : Oper} {a : Act} {Q : Exit → Act → World → Prop} {w : World} (hgd : o.guard = none) (s x : Operand)
    (ho : o.op = .call { callee := .builtin .append, args := #[s, x], argTypes := #[58, 58] })
    (base : Nat) (v : Value) (bs : List Bool) (hs : a.eval s = v) (hown : OwnB w base v bs) (y : Bool) (b c : Nat) (hx : a.eval x = .slice (some ⟨b, 0, none⟩) 1 c) (hc : w.cell? ⟨b, 0, none⟩ = some (.bool y))
    (hlen : bs.length ≤ 2000000) (hbase : base ≤ w.heap.size)
    (h : ∀ v' w', OwnB w' base v' (bs ++ [y]) → Below base w w' → (v'.ownBlock = v.ownBlock ∨ v'.ownBlock = some w.heap.size) → w.grownBy w' v.ownBlock → wpList Try.prog ops Q rest (a.put o.dst v') w') :
    wpList Try.prog ops Q (o :: rest) a w :=
  wpList_plain hgd fun K hK => app_wp boolElt s x ho base v bs.length _ hs hown (some ⟨b, 0, none⟩) 1 c [.bool y] hx rfl (fun _ => ⟨b, 0, rfl, fun j u hj => by
      cases j with
      | zero => simp at hj; subst hj; exact hc
      | succ j => simp at hj⟩) (fun h => by cases h) (fun _ _ _ e => by injection e with e; injection e with _ _ e; exact e.symm) (fun u hu => by simp at hu; subst hu; rfl) (by unfold maxLen; omega) (by omega) hbase fun v' w' h2 h3 h4 =>
    hK _ _ (h v' w' (by unfold OwnB; rw [List.length_append, List.map_append]; exact h2) ((Below.refl _ _).grown h3 hbase (fun k hk => (World.ownsRow.lt hown k hk).1)) h4 h3)
set_option maxRecDepth 100000 in
set_option maxHeartbeats 8000000 in
theorem sSweep_any (ps : List Pt) (A : Option Addr) (n c : Nat) (w : World) (hn : ps.length = n) (hcap : n ≤ c) (hcm : c ≤ 9223372036854775807) (hok : listOk ps = true) (hO : Ord ps) (q : Nat) (h2 : 2 ≤ q) (hq : q < n) (hl : Line ps q) (hx : trn (gp ps 0) (gp ps 1) (gp ps q) ≠ 0) (hs : PtsAt w w.heap.size A ps) :
    Calls Try.prog 30 #[.slice A n c] w fun e w' => ∃ v, e = .returned v ∧ OwnT w' w.heap.size v (sT (swS ps q (n - q)).2) ∧ ∃ x, w' = ext w x := by
  obtain ⟨hib, h20⟩ := listOk_InB hok
  have HN := hide hn
  obtain ⟨pb, po, rfl, hpb, hpc⟩ := hs (by omega)
  have HC := hide (fun (k : Nat) (hk : k ≤ n) (W : World) (hb : Below w.heap.size w W) => sCol_any (ps.take k) (some ⟨pb, po, none⟩) k c W (by rw [List.length_take]; omega) (by omega) (fun p hp => hib p (List.mem_of_mem_take hp)) ((hs.pre k).to hb))
  have LT := hide (fun (k : Nat) (hk : 2 ≤ k) (hkq : k ≤ q) => Line.take (ps := ps) hO hk (by omega) (fun d hd => hl d (by omega)))
  have CELL : Hid (∀ (W : World), Below w.heap.size w W → ∀ i, i < n → W.cell? ⟨pb, po + i * 2, none⟩ = some (.int .i64 (pX ps i)) ∧ W.cell? ⟨pb, po + i * 2 + 1, none⟩ = some (.int .i64 (pY ps i))) := hide (fun W hb i hi => ⟨(hb.cell (p := ⟨pb, po + i * 2, none⟩) hpb).trans (hpc i (by omega)).1, (hb.cell (p := ⟨pb, po + i * 2 + 1, none⟩) hpb).trans (hpc i (by omega)).2⟩)
  have BI : Hid (∀ i, i < n → (-100000 ≤ (pX ps i) ∧ (pX ps i) ≤ 100000) ∧ (-100000 ≤ (pY ps i) ∧ (pY ps i) ≤ 100000)) := hide (fun i hi => hib _ (gp_mem (by omega)))
  have TU : Hid (∀ i j k, i < n → j < n → k < n → ∀ W, Calls Try.prog 64 #[.agg #[.int .i64 (pX ps i), .int .i64 (pY ps i)], .agg #[.int .i64 (pX ps j), .int .i64 (pY ps j)], .agg #[.int .i64 (pX ps k), .int .i64 (pY ps k)]] W fun e w' => e = .returned (.int .i64 (trn (gp ps i) (gp ps j) (gp ps k))) ∧ ∃ x, w' = ext W x) := hide (fun i j k hi hj hk W => scross_any _ _ _ _ _ _ W (BI.out i hi).1 (BI.out i hi).2 (BI.out j hj).1 (BI.out j hj).2 (BI.out k hk).1 (BI.out k hk).2)
  have SB := hide (fun (f : Nat) (hf : q + f ≤ n) => sw_bd hl hO h2 hx f (by omega))
  have LQ := hide hl
  have HX := hide hx
  have HPB := hide hpb
  have n20 : n ≤ 20 := by omega
  have E0 := hide (OwnT.empty w w.heap.size (Nat.le_refl _))
  clear hib h20 hs hl hO hok hx hpc BI hn hpb
  go_enter Try.func30, Try.ntmps30
  go_wp2_with fail
  go_loopw [4] (fun u4 wr => ∃ m : Nat, 2 ≤ m ∧ m ≤ q ∧ u4 = .int .i64 m ∧ ∃ x, wr = ext (w.alloc (.cells #[] 37)) x) (fun u4 _ => q - (intOf u4).toNat)
  case atStart => exact ⟨2, Nat.le_refl _, h2, rfl, ext_same _⟩
  case round =>
    obtain ⟨m, hm2, hmq, rfl, x, rfl⟩ := hrel
    have BX : Below w.heap.size w (ext (w.alloc (.cells #[] 37)) x) := (by (repeat' (first | (with_reducible first | exact Below.refl _ _ | assumption | refine below_ext _ ?_ ?_ | refine Below.alloc ?_ ?_ _ | refine Below.drew ?_ | refine below_drewN ?_ _ | refine le_drewN _ ?_ | refine Below.setCell ?_ ?_ _ | exact Nat.le_refl _ | refine le_ext _ ?_ | refine le_alloc _ ?_ | refine le_setCell _ _ ?_ | refine le_drew ?_) | omega | (simp; done) | (simp; omega))))
    have CC := hide (HC.out (m + 1) (by omega) _ BX)
    have LL := LT.out m hm2 hmq
    have q1 : (m : Int) < (n : Int) := by omega
    have q2 : (m : Int) + 1 ≤ (c : Int) := by omega
    have q3 : ((m : Int) + 1).toNat = m + 1 := by omega
    have q4 : (0 : Int) ≤ (m : Int) + 1 := by omega
    have lb : pb < (ext (w.alloc (.cells #[] 37)) x).heap.size := by have := HPB.out; have := BX.size; omega
    by_cases hlt : m < q
    · have ez : decide (ColS (ps.take (m + 1))) = true := decide_eq_true (LL.2 (LQ.out m hlt))
      rw [ez] at CC
      clear ez LL
      go_wp2_with fail
      refine CC.out.mono ?_
      rintro e w' ⟨rfl, hw'⟩; have hzy3 := ext_sz hw'; obtain ⟨y3, rfl⟩ := hw'; (try simp at hzy3)
      go_wp2_with fail
      exact ⟨⟨m + 1, by omega, by omega, by go_num, (ext_mk (by (repeat' (first | (with_reducible first | exact Below.refl _ _ | assumption | refine below_ext _ ?_ ?_ | refine Below.alloc ?_ ?_ _ | refine Below.drew ?_ | refine below_drewN ?_ _ | refine le_drewN _ ?_ | refine Below.setCell ?_ ?_ _ | exact Nat.le_refl _ | refine le_ext _ ?_ | refine le_alloc _ ?_ | refine le_setCell _ _ ?_ | refine le_drew ?_) | omega | (simp; done) | (simp; omega)))))⟩, by simp [intOf]; omega⟩
    · obtain rfl : m = q := by omega
      have ez : decide (ColS (ps.take (m + 1))) = false := decide_eq_false (fun h => HX.out (LL.1 h))
      rw [ez] at CC
      clear ez LL
      have q5 : ((m : Int) == (n : Int)) = false := by rw [beq_eq_false_iff_ne]; omega
      go_wp2_with fail
      refine CC.out.mono ?_
      rintro e w' ⟨rfl, hw'⟩; have hzy3 := ext_sz hw'; obtain ⟨y3, rfl⟩ := hw'; (try simp at hzy3)
      obtain ⟨W1, hW1⟩ : ∃ W1, W1 = ext (ext (w.alloc (.cells #[] 37)) x) y3 := ⟨_, rfl⟩
      have B01 : Hid (Below (w.alloc (.cells #[] 37)).heap.size (w.alloc (.cells #[] 37)) W1) := hide (by rw [hW1]; exact (by (repeat' (first | (with_reducible first | exact Below.refl _ _ | assumption | refine below_ext _ ?_ ?_ | refine Below.alloc ?_ ?_ _ | refine Below.drew ?_ | refine below_drewN ?_ _ | refine le_drewN _ ?_ | refine Below.setCell ?_ ?_ _ | exact Nat.le_refl _ | refine le_ext _ ?_ | refine le_alloc _ ?_ | refine le_setCell _ _ ?_ | refine le_drew ?_) | omega | (simp; done) | (simp; omega)))))
      rw [← hW1]
      have BW1 : Hid (Below w.heap.size w W1) := hide (by rw [hW1]; exact (by (repeat' (first | (with_reducible first | exact Below.refl _ _ | assumption | refine below_ext _ ?_ ?_ | refine Below.alloc ?_ ?_ _ | refine Below.drew ?_ | refine below_drewN ?_ _ | refine le_drewN _ ?_ | refine Below.setCell ?_ ?_ _ | exact Nat.le_refl _ | refine le_ext _ ?_ | refine le_alloc _ ?_ | refine le_setCell _ _ ?_ | refine le_drew ?_) | omega | (simp; done) | (simp; omega)))))
      have z1 := B01.out.size
      simp at z1
      have E1 := hide (E0.out.below B01.out)
      clear hW1 BX lb q2 q3 q4 E0 B01 CC hmq hm2 hlt
      have z0 := BW1.out.size
      go_wp2_with fail
      go_loopw [5, 6] (fun u5 u6 wr => ∃ k : Nat, k ≤ m ∧ u6 = .int .i64 k ∧ Own wr W1.heap.size u5 (ri (List.range k)) ∧ Below W1.heap.size W1 wr) (fun _ u6 _ => m - (intOf u6).toNat)
      case atStart => exact ⟨0, Nat.zero_le _, rfl, Own.empty _ _ (Nat.le_refl _), (by (repeat' (first | (with_reducible first | exact Below.refl _ _ | assumption | refine below_ext _ ?_ ?_ | refine Below.alloc ?_ ?_ _ | refine Below.drew ?_ | refine below_drewN ?_ _ | refine le_drewN _ ?_ | refine Below.setCell ?_ ?_ _ | exact Nat.le_refl _ | refine le_ext _ ?_ | refine le_alloc _ ?_ | refine le_setCell _ _ ?_ | refine le_drew ?_) | omega | (simp; done) | (simp; omega))))⟩
      case round =>
        obtain ⟨k, hk, rfl, hown, hbel⟩ := hrel
        obtain ⟨A5, n5, c5, rfl⟩ := own_slice hown
        have OWN := hide hown
        have hsz := hbel.size
        clear hown
        by_cases hlt : k < m
        · have RR := hide (range_ri k)
          have NL : (ri (List.range k)).length ≤ 2000000 := by rw [ri_len, List.length_range]; omega
          go_wp2_with (at_builtin; refine app_one rfl _ _ rfl W1.heap.size (.slice A5 n5 c5) (ri (List.range k)) rfl (OWN.out.below (by (repeat' (first | (with_reducible first | exact Below.refl _ _ | assumption | refine below_ext _ ?_ ?_ | refine Below.alloc ?_ ?_ _ | refine Below.drew ?_ | refine below_drewN ?_ _ | refine le_drewN _ ?_ | refine Below.setCell ?_ ?_ _ | exact Nat.le_refl _ | refine le_ext _ ?_ | refine le_alloc _ ?_ | refine le_setCell _ _ ?_ | refine le_drew ?_) | omega | (simp; done) | (simp; omega))))) (k : Int) _ _ rfl (by simp [go_sem]) NL (by simp; omega) ?_; intro v' w' hown' hb' hat hgr; obtain ⟨A6, n6, c6, rfl⟩ := own_slice hown'; have O6 := hide hown'; have HB6 := hide hb'; clear hown' hat hgr hb')
          exact ⟨⟨k + 1, by omega, by go_num, by rw [RR.out]; exact O6.out, Below.trans (Below.trans hbel (by (repeat' (first | (with_reducible first | exact Below.refl _ _ | assumption | refine below_ext _ ?_ ?_ | refine Below.alloc ?_ ?_ _ | refine Below.drew ?_ | refine below_drewN ?_ _ | refine le_drewN _ ?_ | refine Below.setCell ?_ ?_ _ | exact Nat.le_refl _ | refine le_ext _ ?_ | refine le_alloc _ ?_ | refine le_setCell _ _ ?_ | refine le_drew ?_) | omega | (simp; done) | (simp; omega))))) HB6.out⟩, by simp [intOf]; omega⟩
        · have ek : k = m := by omega
          have OWN1 : Hid (Own wr W1.heap.size (.slice A5 n5 c5) (ri (flB m 0))) := hide (by rw [flB_0, ← ek]; exact OWN.out)
          clear OWN hk ek
          have q8 : (2 : Int) ≤ (m : Int) := by omega
          obtain ⟨W2, hW2⟩ : ∃ W2, W2 = wr := ⟨_, rfl⟩
          rw [← hW2] at OWN1 hbel hsz ⊢
          clear hW2
          have HB2 := hide hbel
          clear hbel
          go_wp2_with fail
          go_loopw [5, 7] (fun u5 u7 wr => ∃ j : Nat, j ≤ m - 2 ∧ u7 = .int .i64 ((m : Int) - 2 - (j : Int)) ∧ Own wr W1.heap.size u5 (ri (flB m j)) ∧ Below W1.heap.size W1 wr) (fun _ u7 _ => (intOf u7).toNat)
          case atStart => exact ⟨0, Nat.zero_le _, by simp, OWN1.out, HB2.out⟩
          case round =>
            obtain ⟨j, hj, rfl, hown, hbel⟩ := hrel
            obtain ⟨A6, n6, c6, rfl⟩ := own_slice hown
            have OWN := hide hown
            have hsz3 := hbel.size
            clear hown
            by_cases hlt3 : j < m - 2
            · have q9 : (0 : Int) < (m : Int) - 2 - (j : Int) := by omega
              have RR : Hid (ri (flB m (j + 1)) = ri (flB m j) ++ [(m : Int) - 2 - (j : Int)]) := hide (by rw [flB_s]; congr 2; omega)
              have NL : (ri (flB m j)).length ≤ 2000000 := by rw [ri_len]; unfold flB; simp; omega
              go_wp2_with (at_builtin; refine app_one rfl _ _ rfl W1.heap.size (.slice A6 n6 c6) (ri (flB m j)) rfl (OWN.out.below (by (repeat' (first | (with_reducible first | exact Below.refl _ _ | assumption | refine below_ext _ ?_ ?_ | refine Below.alloc ?_ ?_ _ | refine Below.drew ?_ | refine below_drewN ?_ _ | refine le_drewN _ ?_ | refine Below.setCell ?_ ?_ _ | exact Nat.le_refl _ | refine le_ext _ ?_ | refine le_alloc _ ?_ | refine le_setCell _ _ ?_ | refine le_drew ?_) | omega | (simp; done) | (simp; omega))))) ((m : Int) - 2 - (j : Int)) _ _ rfl (by simp [go_sem]) NL (by simp; omega) ?_; intro v' w' hown' hb' hat hgr; obtain ⟨A7, n7, c7, rfl⟩ := own_slice hown'; have O7 := hide hown'; have HB7 := hide hb'; clear hown' hat hgr hb')
              exact ⟨⟨j + 1, by omega, by congr 1; omega, by rw [RR.out]; exact O7.out, Below.trans (Below.trans hbel (by (repeat' (first | (with_reducible first | exact Below.refl _ _ | assumption | refine below_ext _ ?_ ?_ | refine Below.alloc ?_ ?_ _ | refine Below.drew ?_ | refine below_drewN ?_ _ | refine le_drewN _ ?_ | refine Below.setCell ?_ ?_ _ | exact Nat.le_refl _ | refine le_ext _ ?_ | refine le_alloc _ ?_ | refine le_setCell _ _ ?_ | refine le_drew ?_) | omega | (simp; done) | (simp; omega))))) HB7.out⟩, by simp [intOf]; omega⟩
            · have q9 : ¬ (0 : Int) < (m : Int) - 2 - (j : Int) := by omega
              have OWN2 : Hid (Own wr W1.heap.size (.slice A6 n6 c6) (ri (swS ps m 0).1)) := hide (by have ej : j = m - 2 := by omega
                                                                                                      have := OWN.out
                                                                                                      rw [ej, flB_end] at this
                                                                                                      exact this)
              obtain ⟨W3, hW3⟩ : ∃ W3, W3 = wr := ⟨_, rfl⟩
              rw [← hW3] at OWN2 hbel hsz3 ⊢
              clear hW3 OWN OWN1 HB2 hsz hlt
              have E3 := hide (E1.out.below hbel)
              have BW3 := hide (BW1.out.trans (hbel.mono BW1.out.size))
              have OW3 := hide (OWN2.out.base (show w.heap.size ≤ W1.heap.size by omega))
              clear E1 BW1 hbel OWN2
              go_wp2_with fail
              go_loopw [3, 4, 5] (fun u3 u4 u5 wr => ∃ f : Nat, m + f ≤ n ∧ u4 = .int .i64 ((m + f : Nat) : Int) ∧ OwnT wr w.heap.size u3 (sT (swS ps m f).2) ∧ Own wr w.heap.size u5 (ri (swS ps m f).1) ∧ Below w.heap.size w wr) (fun _ u4 _ _ => n - (intOf u4).toNat)
              case atStart => exact ⟨0, by omega, rfl, E3.out, OW3.out, BW3.out⟩
              case round =>
                obtain ⟨f, hf, rfl, hownT, hown, hbel⟩ := hrel
                obtain ⟨A3, n3, c3, rfl⟩ := hownT.slice
                obtain ⟨A5, n5, c5, rfl⟩ := own_slice hown
                by_cases hlt4 : m + f < n
                · obtain ⟨r2, r40, rlt, t40⟩ := SB.out f hf
                  have NX := hide (show (swS ps m (f + 1)).1 = ringTo ps (swS ps m f).1 (m + f) (swS ps m f).1.length ∧ (swS ps m (f + 1)).2 = (swS ps m f).2 ++ newTo ps (swS ps m f).1 (m + f) (swS ps m f).1.length from ⟨rfl, rfl⟩)
                  obtain ⟨N, hN⟩ : ∃ N, N = m + f := ⟨_, rfl⟩
                  rw [← hN] at NX rlt hlt4 r40 t40 ⊢
                  generalize (swS ps m f).1 = R at *
                  generalize (swS ps m f).2 = TS at *
                  obtain ⟨lR, q5c, q5m, _⟩ := hown.ints
                  rw [ri_len] at lR
                  obtain ⟨Wa, hWa⟩ : ∃ Wa, Wa = wr := ⟨_, rfl⟩
                  rw [← hWa] at hownT hown hbel ⊢
                  have HNN := hide hN
                  clear hWa hf hN
                  have RL := hide rlt
                  have HLR := hide lR
                  have n50 : n5 ≤ 40 := by omega
                  have n51 : 2 ≤ n5 := by omega
                  have n52 : 0 < n5 := by omega
                  rw [lR] at NX
                  have HT0 := hide (hownT.below (show Below Wa.heap.size Wa (Wa.alloc (.cells #[] 4)) from (by (repeat' (first | (with_reducible first | exact Below.refl _ _ | assumption | refine below_ext _ ?_ ?_ | refine Below.alloc ?_ ?_ _ | refine Below.drew ?_ | refine below_drewN ?_ _ | refine le_drewN _ ?_ | refine Below.setCell ?_ ?_ _ | exact Nat.le_refl _ | refine le_ext _ ?_ | refine le_alloc _ ?_ | refine le_setCell _ _ ?_ | refine le_drew ?_) | omega | (simp; done) | (simp; omega))))))
                  have HR0 := hide (own_below hown (show Below Wa.heap.size Wa (Wa.alloc (.cells #[] 4)) from (by (repeat' (first | (with_reducible first | exact Below.refl _ _ | assumption | refine below_ext _ ?_ ?_ | refine Below.alloc ?_ ?_ _ | refine Below.drew ?_ | refine below_drewN ?_ _ | refine le_drewN _ ?_ | refine Below.setCell ?_ ?_ _ | exact Nat.le_refl _ | refine le_ext _ ?_ | refine le_alloc _ ?_ | refine le_setCell _ _ ?_ | refine le_drew ?_) | omega | (simp; done) | (simp; omega))))))
                  have hza := hbel.size
                  have HS0 := hide (OwnB.empty Wa w.heap.size hza)
                  have HBa := hide (hbel.alloc hza (.cells #[] 4))
                  clear hownT hown rlt lR r2 r40 hbel E3 OW3 BW3
                  go_wp2_with fail
                  go_loopw [3, 8, 9] (fun u3 u8 u9 wr => ∃ i : Nat, i ≤ n5 ∧ u9 = .int .i64 i ∧ OwnT wr w.heap.size u3 (sT (TS ++ newTo ps R N i)) ∧ Own wr w.heap.size (.slice A5 n5 c5) (ri R) ∧ OwnB wr w.heap.size u8 ((List.range i).map (seenB ps R N)) ∧ Below w.heap.size w wr) (fun _ _ u9 _ => n5 - (intOf u9).toNat)
                  case atStart => exact ⟨0, Nat.zero_le _, rfl, by simpa [newTo] using HT0.out, HR0.out, HS0.out, HBa.out⟩
                  case round =>
                    obtain ⟨i, hi, rfl, hownT, hown, hS, hbel⟩ := hrel
                    obtain ⟨A8, n8, c8, rfl⟩ := hownT.slice
                    obtain ⟨A4, n4, c4, rfl⟩ := hS.slice
                    by_cases hlt5 : i < n5
                    · obtain ⟨rb, ro, rfl, hrb, hrc⟩ := hown.ints.2.2.2 (by rw [ri_len, HLR.out]; omega)
                      obtain ⟨j, hj⟩ : ∃ j, j = (i + 1) % n5 := ⟨_, rfl⟩
                      have hjn : j < n5 := by rw [hj]; exact Nat.mod_lt _ n52
                      have ci : wr.cell? ⟨rb, ro + i, none⟩ = some (.int .i64 ((gn R i : Nat) : Int)) := by rw [← ri_gi (by rw [HLR.out]; omega)]; exact hrc i (by rw [ri_len, HLR.out]; omega)
                      have cj : wr.cell? ⟨rb, ro + j, none⟩ = some (.int .i64 ((gn R j : Nat) : Int)) := by rw [← ri_gi (by rw [HLR.out]; omega)]; exact hrc j (by rw [ri_len, HLR.out]; omega)
                      have la : gn R i < N := by have := RL.out i; rwa [gm_lt (by rw [HLR.out]; omega)] at this
                      have lb : gn R j < N := by have := RL.out j; rwa [gm_lt (by rw [HLR.out]; omega)] at this
                      have e2 : Int.tmod ((i : Int) + 1) (n5 : Int) = (j : Int) := by rw [hj]; exact (Int.ofNat_tmod (i + 1) n5).symm
                      have NS := hide (newTo_s ps R N i)
                      have RB : Hid ((List.range (i + 1)).map (seenB ps R N) = (List.range i).map (seenB ps R N) ++ [seenB ps R N i]) := hide (by rw [List.range_succ, List.map_append]; rfl)
                      have SD : Hid (seenB ps R N i = decide (trn (gp ps (gn R i)) (gp ps (gn R j)) (gp ps N) < 0)) := hide (by unfold seenB aft; rw [HLR.out, hj])
                      have AF : Hid (aft R i = gn R j) := hide (by unfold aft; rw [HLR.out, hj])
                      have TT := hide (TU.out (gn R i) (gn R j) N (by omega) (by omega) hlt4)
                      obtain ⟨xa, ya⟩ := CELL.out wr hbel (gn R i) (by omega)
                      obtain ⟨xb, yb⟩ := CELL.out wr hbel (gn R j) (by omega)
                      obtain ⟨xn, yn⟩ := CELL.out wr hbel N hlt4
                      have NL : (sT (TS ++ newTo ps R N i)).length ≤ 2000000 := by rw [sT_len, List.length_append]; have := newTo_len ps R N i; omega
                      have NLB : ((List.range i).map (seenB ps R N)).length ≤ 2000000 := by rw [List.length_map, List.length_range]; omega
                      rw [AF.out] at NS
                      have HSH := hide hS
                      have HOT := hide hownT
                      have HOR := hide hown
                      have HBL := hide hbel
                      have LE := hide hbel.size
                      have b9 : pb < wr.heap.size := by have := HPB.out; have := hbel.size; omega
                      clear hownT hown hrc hbel AF hS
                      generalize gn R i = a at *
                      generalize gn R j = b at *
                      have b1 : (a : Int) < (n : Int) := by omega
                      have b2 : (b : Int) < (n : Int) := by omega
                      have b3 : (N : Int) < (n : Int) := by omega
                      have b4 : a < n := by omega
                      have b5 : b < n := by omega
                      have b6 : (i : Int) < (n5 : Int) := by omega
                      have b7 : (j : Int) < (n5 : Int) := by omega
                      have b8 : ((n5 : Int) == 0) = false := by rw [beq_eq_false_iff_ne]; omega
                      clear hj
                      by_cases hsn : trn (gp ps a) (gp ps b) (gp ps N) < 0
                      · have dN : decide (trn (gp ps a) (gp ps b) (gp ps N) < 0) = true := decide_eq_true hsn
                        rw [dN] at SD
                        clear hsn
                        generalize trn (gp ps a) (gp ps b) (gp ps N) = T0 at *
                        generalize pX ps a = XA at *
                        generalize pY ps a = YA at *
                        generalize pX ps b = XB at *
                        generalize pY ps b = YB at *
                        generalize pX ps N = XN at *
                        generalize pY ps N = YN at *
                        go_wp2_with fail
                        refine wp_region_ext (by kernel_rfl) (by kernel_rfl) ?_
                        repeat (go_big_quiet_step ((first | (go_at_call 64; exact Calls.in_ext (TT.out _)))))
                        refine wpQuiet_nil ?_
                        rintro _ hnq
                        have hzq := ext_sz hnq
                        obtain ⟨nq, rfl⟩ := hnq
                        (try simp at hzq)
                        obtain ⟨W7, hW7⟩ : ∃ W7, W7 = ext wr nq := ⟨_, rfl⟩
                        have B7 : Hid (Below wr.heap.size wr W7) := hide (by rw [hW7]; exact (by (repeat' (first | (with_reducible first | exact Below.refl _ _ | assumption | refine below_ext _ ?_ ?_ | refine Below.alloc ?_ ?_ _ | refine Below.drew ?_ | refine below_drewN ?_ _ | refine le_drewN _ ?_ | refine Below.setCell ?_ ?_ _ | exact Nat.le_refl _ | refine le_ext _ ?_ | refine le_alloc _ ?_ | refine le_setCell _ _ ?_ | refine le_drew ?_) | omega | (simp; done) | (simp; omega)))))
                        rw [← hW7]
                        clear hW7 hzq
                        have z7 := B7.out.size
                        have za := LE.out
                        have T7 := hide (HOT.out.below B7.out)
                        have O7 := hide (own_below HOR.out B7.out)
                        have S7 := hide (HSH.out.below B7.out)
                        rw [SD.out] at RB
                        have NX5 : Hid (sT (TS ++ newTo ps R N (i + 1)) = sT (TS ++ newTo ps R N i) ++ [⟨(b : Int), (a : Int), (N : Int)⟩]) := hide (by rw [NS.out, SD.out, if_pos rfl, ← List.append_assoc, sT_app (TS ++ newTo ps R N i)]; rfl)
                        go_wp2_with (first | (at_builtin; refine app_bool rfl _ _ rfl w.heap.size (.slice A4 n4 c4) ((List.range i).map (seenB ps R N)) rfl (OwnB.below S7.out (by (repeat' (first | (with_reducible first | exact Below.refl _ _ | assumption | refine below_ext _ ?_ ?_ | refine Below.alloc ?_ ?_ _ | refine Below.drew ?_ | refine below_drewN ?_ _ | refine le_drewN _ ?_ | refine Below.setCell ?_ ?_ _ | exact Nat.le_refl _ | refine le_ext _ ?_ | refine le_alloc _ ?_ | refine le_setCell _ _ ?_ | refine le_drew ?_) | omega | (simp; done) | (simp; omega))))) true _ _ rfl (by simp [go_sem]) NLB (by simp; omega) ?_; intro v' w8 hown' hb' hat hgr; obtain ⟨A10, n10, c10, rfl⟩ := hown'.slice; have S8 := hide hown'; have H8 := hide hb'; have z8 : w.heap.size ≤ w8.heap.size := Nat.le_trans (by simp; omega) hb'.size; have T8 := hide (World.ownsRow.kept (OwnT.below T7.out (show Below W7.heap.size W7 (W7.alloc (.cells #[.bool true] 4)) from (by (repeat' (first | (with_reducible first | exact Below.refl _ _ | assumption | refine below_ext _ ?_ ?_ | refine Below.alloc ?_ ?_ _ | refine Below.drew ?_ | refine below_drewN ?_ _ | refine le_drewN _ ?_ | refine Below.setCell ?_ ?_ _ | exact Nat.le_refl _ | refine le_ext _ ?_ | refine le_alloc _ ?_ | refine le_setCell _ _ ?_ | refine le_drew ?_) | omega | (simp; done) | (simp; omega)))))) hgr (own_apart (by decide) (OwnT.below T7.out (show Below W7.heap.size W7 (W7.alloc (.cells #[.bool true] 4)) from (by (repeat' (first | (with_reducible first | exact Below.refl _ _ | assumption | refine below_ext _ ?_ ?_ | refine Below.alloc ?_ ?_ _ | refine Below.drew ?_ | refine below_drewN ?_ _ | refine le_drewN _ ?_ | refine Below.setCell ?_ ?_ _ | exact Nat.le_refl _ | refine le_ext _ ?_ | refine le_alloc _ ?_ | refine le_setCell _ _ ?_ | refine le_drew ?_) | omega | (simp; done) | (simp; omega)))))) (OwnB.below S7.out (show Below W7.heap.size W7 (W7.alloc (.cells #[.bool true] 4)) from (by (repeat' (first | (with_reducible first | exact Below.refl _ _ | assumption | refine below_ext _ ?_ ?_ | refine Below.alloc ?_ ?_ _ | refine Below.drew ?_ | refine below_drewN ?_ _ | refine le_drewN _ ?_ | refine Below.setCell ?_ ?_ _ | exact Nat.le_refl _ | refine le_ext _ ?_ | refine le_alloc _ ?_ | refine le_setCell _ _ ?_ | refine le_drew ?_) | omega | (simp; done) | (simp; omega)))))))); have O8 := hide (World.ownsRow.kept (own_below O7.out (show Below W7.heap.size W7 (W7.alloc (.cells #[.bool true] 4)) from (by (repeat' (first | (with_reducible first | exact Below.refl _ _ | assumption | refine below_ext _ ?_ ?_ | refine Below.alloc ?_ ?_ _ | refine Below.drew ?_ | refine below_drewN ?_ _ | refine le_drewN _ ?_ | refine Below.setCell ?_ ?_ _ | exact Nat.le_refl _ | refine le_ext _ ?_ | refine le_alloc _ ?_ | refine le_setCell _ _ ?_ | refine le_drew ?_) | omega | (simp; done) | (simp; omega)))))) hgr (own_apart (by decide) (own_below O7.out (show Below W7.heap.size W7 (W7.alloc (.cells #[.bool true] 4)) from (by (repeat' (first | (with_reducible first | exact Below.refl _ _ | assumption | refine below_ext _ ?_ ?_ | refine Below.alloc ?_ ?_ _ | refine Below.drew ?_ | refine below_drewN ?_ _ | refine le_drewN _ ?_ | refine Below.setCell ?_ ?_ _ | exact Nat.le_refl _ | refine le_ext _ ?_ | refine le_alloc _ ?_ | refine le_setCell _ _ ?_ | refine le_drew ?_) | omega | (simp; done) | (simp; omega)))))) (OwnB.below S7.out (show Below W7.heap.size W7 (W7.alloc (.cells #[.bool true] 4)) from (by (repeat' (first | (with_reducible first | exact Below.refl _ _ | assumption | refine below_ext _ ?_ ?_ | refine Below.alloc ?_ ?_ _ | refine Below.drew ?_ | refine below_drewN ?_ _ | refine le_drewN _ ?_ | refine Below.setCell ?_ ?_ _ | exact Nat.le_refl _ | refine le_ext _ ?_ | refine le_alloc _ ?_ | refine le_setCell _ _ ?_ | refine le_drew ?_) | omega | (simp; done) | (simp; omega)))))))); clear hown' hat hgr hb') | (at_builtin; refine app_tri rfl _ _ rfl w.heap.size (.slice A8 n8 c8) (sT (TS ++ newTo ps R N i)) rfl (OwnT.below T8.out (by (repeat' (first | (with_reducible first | exact Below.refl _ _ | assumption | refine below_ext _ ?_ ?_ | refine Below.alloc ?_ ?_ _ | refine Below.drew ?_ | refine below_drewN ?_ _ | refine le_drewN _ ?_ | refine Below.setCell ?_ ?_ _ | exact Nat.le_refl _ | refine le_ext _ ?_ | refine le_alloc _ ?_ | refine le_setCell _ _ ?_ | refine le_drew ?_) | omega | (simp; done) | (simp; omega))))) (b : Int) (a : Int) (N : Int) _ _ rfl (by simp [go_sem]) (by simp [go_sem]) (by simp [go_sem]) NL (by simp; omega) ?_; intro v' w9 hown' hb' hat hgr; obtain ⟨A11, n11, c11, rfl⟩ := hown'.slice; have T9 := hide hown'; have H9 := hide hb'; have G9 := hide hgr; clear hown' hat hgr hb'))
                        have T8a := OwnT.below T8.out (show Below w8.heap.size w8 (w8.alloc (.cells #[.int .i64 (b : Int), .int .i64 (a : Int), .int .i64 (N : Int)] 37)) from (by (repeat' (first | (with_reducible first | exact Below.refl _ _ | assumption | refine below_ext _ ?_ ?_ | refine Below.alloc ?_ ?_ _ | refine Below.drew ?_ | refine below_drewN ?_ _ | refine le_drewN _ ?_ | refine Below.setCell ?_ ?_ _ | exact Nat.le_refl _ | refine le_ext _ ?_ | refine le_alloc _ ?_ | refine le_setCell _ _ ?_ | refine le_drew ?_) | omega | (simp; done) | (simp; omega)))))
                        have O8a := own_below O8.out (show Below w8.heap.size w8 (w8.alloc (.cells #[.int .i64 (b : Int), .int .i64 (a : Int), .int .i64 (N : Int)] 37)) from (by (repeat' (first | (with_reducible first | exact Below.refl _ _ | assumption | refine below_ext _ ?_ ?_ | refine Below.alloc ?_ ?_ _ | refine Below.drew ?_ | refine below_drewN ?_ _ | refine le_drewN _ ?_ | refine Below.setCell ?_ ?_ _ | exact Nat.le_refl _ | refine le_ext _ ?_ | refine le_alloc _ ?_ | refine le_setCell _ _ ?_ | refine le_drew ?_) | omega | (simp; done) | (simp; omega)))))
                        have S8a := OwnB.below S8.out (show Below w8.heap.size w8 (w8.alloc (.cells #[.int .i64 (b : Int), .int .i64 (a : Int), .int .i64 (N : Int)] 37)) from (by (repeat' (first | (with_reducible first | exact Below.refl _ _ | assumption | refine below_ext _ ?_ ?_ | refine Below.alloc ?_ ?_ _ | refine Below.drew ?_ | refine below_drewN ?_ _ | refine le_drewN _ ?_ | refine Below.setCell ?_ ?_ _ | exact Nat.le_refl _ | refine le_ext _ ?_ | refine le_alloc _ ?_ | refine le_setCell _ _ ?_ | refine le_drew ?_) | omega | (simp; done) | (simp; omega)))))
                        exact ⟨⟨i + 1, by omega, by go_num, by rw [NX5.out]; exact T9.out, World.ownsRow.kept O8a G9.out (own_apart (by decide) O8a T8a), by rw [RB.out]; exact World.ownsRow.kept S8a G9.out (own_apart (by decide) S8a T8a), (((HBL.out.trans (B7.out.mono LE.out)).trans (Below.trans (by (repeat' (first | (with_reducible first | exact Below.refl _ _ | assumption | refine below_ext _ ?_ ?_ | refine Below.alloc ?_ ?_ _ | refine Below.drew ?_ | refine below_drewN ?_ _ | refine le_drewN _ ?_ | refine Below.setCell ?_ ?_ _ | exact Nat.le_refl _ | refine le_ext _ ?_ | refine le_alloc _ ?_ | refine le_setCell _ _ ?_ | refine le_drew ?_) | omega | (simp; done) | (simp; omega)))) H8.out)).trans (Below.trans (by (repeat' (first | (with_reducible first | exact Below.refl _ _ | assumption | refine below_ext _ ?_ ?_ | refine Below.alloc ?_ ?_ _ | refine Below.drew ?_ | refine below_drewN ?_ _ | refine le_drewN _ ?_ | refine Below.setCell ?_ ?_ _ | exact Nat.le_refl _ | refine le_ext _ ?_ | refine le_alloc _ ?_ | refine le_setCell _ _ ?_ | refine le_drew ?_) | omega | (simp; done) | (simp; omega)))) H9.out))⟩, by simp [intOf]; omega⟩
                      · have dN : decide (trn (gp ps a) (gp ps b) (gp ps N) < 0) = false := decide_eq_false hsn
                        rw [dN] at SD
                        clear hsn
                        generalize trn (gp ps a) (gp ps b) (gp ps N) = T0 at *
                        generalize pX ps a = XA at *
                        generalize pY ps a = YA at *
                        generalize pX ps b = XB at *
                        generalize pY ps b = YB at *
                        generalize pX ps N = XN at *
                        generalize pY ps N = YN at *
                        go_wp2_with fail
                        refine wp_region_ext (by kernel_rfl) (by kernel_rfl) ?_
                        repeat (go_big_quiet_step ((first | (go_at_call 64; exact Calls.in_ext (TT.out _)))))
                        refine wpQuiet_nil ?_
                        rintro _ hnq
                        have hzq := ext_sz hnq
                        obtain ⟨nq, rfl⟩ := hnq
                        (try simp at hzq)
                        obtain ⟨W7, hW7⟩ : ∃ W7, W7 = ext wr nq := ⟨_, rfl⟩
                        have B7 : Hid (Below wr.heap.size wr W7) := hide (by rw [hW7]; exact (by (repeat' (first | (with_reducible first | exact Below.refl _ _ | assumption | refine below_ext _ ?_ ?_ | refine Below.alloc ?_ ?_ _ | refine Below.drew ?_ | refine below_drewN ?_ _ | refine le_drewN _ ?_ | refine Below.setCell ?_ ?_ _ | exact Nat.le_refl _ | refine le_ext _ ?_ | refine le_alloc _ ?_ | refine le_setCell _ _ ?_ | refine le_drew ?_) | omega | (simp; done) | (simp; omega)))))
                        rw [← hW7]
                        clear hW7 hzq
                        have z7 := B7.out.size
                        have za := LE.out
                        have T7 := hide (HOT.out.below B7.out)
                        have O7 := hide (own_below HOR.out B7.out)
                        have S7 := hide (HSH.out.below B7.out)
                        rw [SD.out] at RB
                        have NX5 : Hid (newTo ps R N (i + 1) = newTo ps R N i) := hide (by rw [NS.out, SD.out]; simp)
                        go_wp2_with (at_builtin; refine app_bool rfl _ _ rfl w.heap.size (.slice A4 n4 c4) ((List.range i).map (seenB ps R N)) rfl (OwnB.below S7.out (by (repeat' (first | (with_reducible first | exact Below.refl _ _ | assumption | refine below_ext _ ?_ ?_ | refine Below.alloc ?_ ?_ _ | refine Below.drew ?_ | refine below_drewN ?_ _ | refine le_drewN _ ?_ | refine Below.setCell ?_ ?_ _ | exact Nat.le_refl _ | refine le_ext _ ?_ | refine le_alloc _ ?_ | refine le_setCell _ _ ?_ | refine le_drew ?_) | omega | (simp; done) | (simp; omega))))) false _ _ rfl (by simp [go_sem]) NLB (by simp; omega) ?_; intro v' w8 hown' hb' hat hgr; obtain ⟨A10, n10, c10, rfl⟩ := hown'.slice; have S8 := hide hown'; have H8 := hide hb'; have z8 : w.heap.size ≤ w8.heap.size := Nat.le_trans (by simp; omega) hb'.size; have T8 := hide (World.ownsRow.kept (OwnT.below T7.out (show Below W7.heap.size W7 (W7.alloc (.cells #[.bool false] 4)) from (by (repeat' (first | (with_reducible first | exact Below.refl _ _ | assumption | refine below_ext _ ?_ ?_ | refine Below.alloc ?_ ?_ _ | refine Below.drew ?_ | refine below_drewN ?_ _ | refine le_drewN _ ?_ | refine Below.setCell ?_ ?_ _ | exact Nat.le_refl _ | refine le_ext _ ?_ | refine le_alloc _ ?_ | refine le_setCell _ _ ?_ | refine le_drew ?_) | omega | (simp; done) | (simp; omega)))))) hgr (own_apart (by decide) (OwnT.below T7.out (show Below W7.heap.size W7 (W7.alloc (.cells #[.bool false] 4)) from (by (repeat' (first | (with_reducible first | exact Below.refl _ _ | assumption | refine below_ext _ ?_ ?_ | refine Below.alloc ?_ ?_ _ | refine Below.drew ?_ | refine below_drewN ?_ _ | refine le_drewN _ ?_ | refine Below.setCell ?_ ?_ _ | exact Nat.le_refl _ | refine le_ext _ ?_ | refine le_alloc _ ?_ | refine le_setCell _ _ ?_ | refine le_drew ?_) | omega | (simp; done) | (simp; omega)))))) (OwnB.below S7.out (show Below W7.heap.size W7 (W7.alloc (.cells #[.bool false] 4)) from (by (repeat' (first | (with_reducible first | exact Below.refl _ _ | assumption | refine below_ext _ ?_ ?_ | refine Below.alloc ?_ ?_ _ | refine Below.drew ?_ | refine below_drewN ?_ _ | refine le_drewN _ ?_ | refine Below.setCell ?_ ?_ _ | exact Nat.le_refl _ | refine le_ext _ ?_ | refine le_alloc _ ?_ | refine le_setCell _ _ ?_ | refine le_drew ?_) | omega | (simp; done) | (simp; omega)))))))); have O8 := hide (World.ownsRow.kept (own_below O7.out (show Below W7.heap.size W7 (W7.alloc (.cells #[.bool false] 4)) from (by (repeat' (first | (with_reducible first | exact Below.refl _ _ | assumption | refine below_ext _ ?_ ?_ | refine Below.alloc ?_ ?_ _ | refine Below.drew ?_ | refine below_drewN ?_ _ | refine le_drewN _ ?_ | refine Below.setCell ?_ ?_ _ | exact Nat.le_refl _ | refine le_ext _ ?_ | refine le_alloc _ ?_ | refine le_setCell _ _ ?_ | refine le_drew ?_) | omega | (simp; done) | (simp; omega)))))) hgr (own_apart (by decide) (own_below O7.out (show Below W7.heap.size W7 (W7.alloc (.cells #[.bool false] 4)) from (by (repeat' (first | (with_reducible first | exact Below.refl _ _ | assumption | refine below_ext _ ?_ ?_ | refine Below.alloc ?_ ?_ _ | refine Below.drew ?_ | refine below_drewN ?_ _ | refine le_drewN _ ?_ | refine Below.setCell ?_ ?_ _ | exact Nat.le_refl _ | refine le_ext _ ?_ | refine le_alloc _ ?_ | refine le_setCell _ _ ?_ | refine le_drew ?_) | omega | (simp; done) | (simp; omega)))))) (OwnB.below S7.out (show Below W7.heap.size W7 (W7.alloc (.cells #[.bool false] 4)) from (by (repeat' (first | (with_reducible first | exact Below.refl _ _ | assumption | refine below_ext _ ?_ ?_ | refine Below.alloc ?_ ?_ _ | refine Below.drew ?_ | refine below_drewN ?_ _ | refine le_drewN _ ?_ | refine Below.setCell ?_ ?_ _ | exact Nat.le_refl _ | refine le_ext _ ?_ | refine le_alloc _ ?_ | refine le_setCell _ _ ?_ | refine le_drew ?_) | omega | (simp; done) | (simp; omega)))))))); clear hown' hat hgr hb')
                        exact ⟨⟨i + 1, by omega, by go_num, by rw [NX5.out]; exact T8.out, O8.out, by rw [RB.out]; exact S8.out, ((HBL.out.trans (B7.out.mono LE.out)).trans (Below.trans (by (repeat' (first | (with_reducible first | exact Below.refl _ _ | assumption | refine below_ext _ ?_ ?_ | refine Below.alloc ?_ ?_ _ | refine Below.drew ?_ | refine below_drewN ?_ _ | refine le_drewN _ ?_ | refine Below.setCell ?_ ?_ _ | exact Nat.le_refl _ | refine le_ext _ ?_ | refine le_alloc _ ?_ | refine le_setCell _ _ ?_ | refine le_drew ?_) | omega | (simp; done) | (simp; omega)))) H8.out))⟩, by simp [intOf]; omega⟩
                    · obtain rfl : i = n5 := by omega
                      obtain ⟨ln4, hc4⟩ := hS.cells
                      rw [List.length_map, List.length_range] at ln4
                      subst ln4
                      obtain ⟨sb, rfl, hsb, hcs⟩ := hc4 (by omega)
                      have HA := hide (addRing_any ps R N A5 i c5 sb 0 c4 wr HLR.out n51 (by omega) hown.ints.2.2.2 hsb (fun x hx => by
                        have := hcs x (by rw [List.length_map, List.length_range]; exact hx)
                        rw [List.getElem_map, List.getElem_range] at this
                        exact this))
                      have HOT := hide hownT
                      have HBL := hide hbel
                      have zc := hbel.size
                      clear hownT hown hS hbel hc4 hcs
                      go_wp2_with fail
                      refine HA.out.mono ?_
                      rintro e w9 ⟨v9, rfl, hown9, hx9⟩
                      obtain ⟨A9, n9, c9, rfl⟩ := own_slice hown9
                      have D9 := ext_bel hx9
                      have HT9 := hide (HOT.out.below D9)
                      have HB9 := hide (HBL.out.trans (D9.mono zc))
                      have HO9 := hide (hown9.base zc)
                      rw [← NX.out.2] at HT9
                      rw [← NX.out.1] at HO9
                      have eN := HNN.out
                      clear hown9 hx9
                      go_wp2_with fail
                      exact ⟨⟨f + 1, by omega, by congr 1 <;> omega, HT9.out, HO9.out, HB9.out⟩, by simp [intOf]; omega⟩
                · obtain rfl : f = n - m := by omega
                  have HT := hide hownT
                  have HBf := hide hbel
                  clear hownT hown hbel
                  go_wp2_with fail
                  go_ret
                  exact ⟨_, rfl, HT.out, ext_mk HBf.out⟩
end Go.Proofs.Ytcebmcbglhkkfaa
