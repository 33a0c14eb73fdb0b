
/- The program's edges of a polygon; the library's IndexFunc and ContainsFunc at segments. -/
import Derived.Test.YtnddfdhfefconaaGreatDoorApp
import Derived.Test.YtnddfdhfefconaaGreatDoorFunc
import Derived.BigRegion
import Derived.Outline
import Derived.Deep.RegionHeld3
set_option linter.unusedVariables false
set_option linter.unusedSimpArgs false
namespace Go.Proofs.YtnddfdhfefconaaGreatDoor
open Go.RowKit

/-! ### rows of segments -/
abbrev Sg := Pt × Pt
def gs (es : List Sg) (i : Nat) : Sg := es.getD i (default, default)
theorem gs_lt {es : List Sg} {i : Nat} (h : i < es.length) : gs es i = es[i] := by unfold gs; rw [List.getD_eq_getElem?_getD, List.getElem?_eq_getElem h]; rfl
/-- The slice at A reads as these segments, all of it below block B. -/
def SegsAt (w : World) (B : Nat) (A : Option Addr) (es : List Sg) : Prop :=
  0 < es.length → ∃ b o, A = some ⟨b, o, none⟩ ∧ b < B ∧ ∀ i, i < es.length → w.cell? ⟨b, o + i * 4, none⟩ = some (.int .i64 (gs es i).1.x) ∧ w.cell? ⟨b, o + i * 4 + 1, none⟩ = some (.int .i64 (gs es i).1.y) ∧ w.cell? ⟨b, o + i * 4 + 2, none⟩ = some (.int .i64 (gs es i).2.x) ∧ w.cell? ⟨b, o + i * 4 + 3, none⟩ = some (.int .i64 (gs es i).2.y)
theorem SegsAt.below {w w' : World} {B : Nat} {A : Option Addr} {es : List Sg} (h : SegsAt w B A es) (hb : Below B w w') : SegsAt w' B A es := fun hn => by
  obtain ⟨b, o, hA, hB, hc⟩ := h hn
  refine ⟨b, o, hA, hB, fun i hi => ?_⟩
  obtain ⟨c1, c2, c3, c4⟩ := hc i hi
  exact ⟨(hb.cell (p := ⟨b, o + i * 4, none⟩) hB).trans c1, (hb.cell (p := ⟨b, o + i * 4 + 1, none⟩) hB).trans c2, (hb.cell (p := ⟨b, o + i * 4 + 2, none⟩) hB).trans c3, (hb.cell (p := ⟨b, o + i * 4 + 3, none⟩) hB).trans c4⟩
theorem SegsAt.more {w : World} {B B' : Nat} {A : Option Addr} {es : List Sg} (h : SegsAt w B A es) (hB : B ≤ B') : SegsAt w B' A es := fun hn => by
  obtain ⟨b, o, hA, hb, hc⟩ := h hn
  exact ⟨b, o, hA, by omega, hc⟩
theorem SegsAt.to {w W : World} {A : Option Addr} {es : List Sg} (h : SegsAt w w.heap.size A es) (hb : Below w.heap.size w W) : SegsAt W W.heap.size A es := (h.below hb).more hb.size
def sgVals : List Sg → List Value
  | [] => []
  | s :: es => .int .i64 s.1.x :: .int .i64 s.1.y :: .int .i64 s.2.x :: .int .i64 s.2.y :: sgVals es
theorem sgVals_len : ∀ es : List Sg, (sgVals es).length = es.length * 4
  | [] => rfl
  | s :: es => by simp [sgVals, sgVals_len es]; omega
theorem sgVals_app : ∀ es fs : List Sg, sgVals (es ++ fs) = sgVals es ++ sgVals fs
  | [], _ => rfl
  | s :: es, fs => by simp [sgVals, sgVals_app es fs]
theorem sgVals_one : ∀ (es : List Sg), ∀ u ∈ sgVals es, u.oneCell' = true
  | [], u, h => by cases h
  | s :: es, u, h => by
    simp only [sgVals, List.mem_cons] at h
    rcases h with rfl | rfl | rfl | rfl | h
    · rfl
    · rfl
    · rfl
    · rfl
    · exact sgVals_one es u h
theorem sgVals_at : ∀ (es : List Sg) (i : Nat), i < es.length → (sgVals es)[i * 4]? = some (.int .i64 (gs es i).1.x) ∧ (sgVals es)[i * 4 + 1]? = some (.int .i64 (gs es i).1.y) ∧ (sgVals es)[i * 4 + 2]? = some (.int .i64 (gs es i).2.x) ∧ (sgVals es)[i * 4 + 3]? = some (.int .i64 (gs es i).2.y)
  | [], i, h => by simp at h
  | s :: es, 0, _ => ⟨rfl, rfl, rfl, rfl⟩
  | s :: es, i + 1, h => by
    have := sgVals_at es i (by simpa using h)
    rw [show (i + 1) * 4 = i * 4 + 1 + 1 + 1 + 1 from by omega]
    simpa [sgVals, gs] using this
/-- The slice v is a row of segments of the call's own, at block base or later. -/
def OwnG (w : World) (base : Nat) (v : Value) (es : List Sg) : Prop := w.ownsRow base 96 4 v es.length (sgVals es)
theorem sgElt : Elt 93 96 4 32 (.agg #[.int .i64 0, .int .i64 0, .int .i64 0, .int .i64 0]) := ⟨Tryz.underlying93, by kernel_rfl, rfl, by decide⟩
theorem OwnG.below {w W : World} {base : Nat} {v : Value} {es : List Sg} (h : OwnG w base v es) (hb : Below w.heap.size w W) : OwnG W base v es := own_below h hb
theorem OwnG.base {w : World} {base base' : Nat} {v : Value} {es : List Sg} (h : OwnG w base v es) (hb : base' ≤ base) : OwnG w base' v es := own_base h hb
theorem OwnG.lt {w : World} {base : Nat} {v : Value} {es : List Sg} (h : OwnG w base v es) : ∀ k, v.ownBlock = some k → base ≤ k := fun k hk => (World.ownsRow.lt h k hk).1
theorem OwnG.slice {w : World} {base : Nat} {v : Value} {es : List Sg} (h : OwnG w base v es) : ∃ A n c, v = .slice A n c := by
  unfold OwnG at h
  rcases h.2 with ⟨hv, _⟩ | ⟨g, cap, cur, hv, _⟩
  · exact ⟨_, _, _, hv⟩
  · exact ⟨_, _, _, hv⟩
theorem OwnG.segs {w : World} {base : Nat} {A : Option Addr} {n c : Nat} {es : List Sg} (h : OwnG w base (.slice A n c) es) : es.length = n ∧ n ≤ c ∧ c ≤ maxLen ∧ SegsAt w w.heap.size A es := by
  unfold OwnG at h
  rcases h.2 with ⟨hv, h0⟩ | ⟨g, cap, cur, hv, hg, hgg, hnc, hcm, hsz, htk⟩
  · injection hv with h1 h2 h3
    subst h1 h2 h3
    exact ⟨h0, Nat.le_refl _, by simp [maxLen], fun hn => by omega⟩
  · injection hv with h1 h2 h3
    subst h1 h2 h3
    have key : ∀ j u, (sgVals es)[j]? = some u → w.cell? ⟨g, 0 + j, none⟩ = some u := fun j u hu => by
      have hj : j < es.length * 4 := by rw [← sgVals_len]; exact (List.getElem?_eq_some_iff.1 hu).1
      rw [← htk, List.getElem?_take, if_pos hj] at hu
      simp [World.cell?, hgg, ← Array.getElem?_toList, hu]
    refine ⟨rfl, hnc, hcm, fun _ => ⟨g, 0, rfl, (Array.getElem?_eq_some_iff.1 hgg).1, fun i hi => ?_⟩⟩
    obtain ⟨k1, k2, k3, k4⟩ := sgVals_at es i hi
    exact ⟨key _ _ k1, by rw [Nat.add_assoc]; exact key _ _ k2, by rw [Nat.add_assoc]; exact key _ _ k3, by rw [Nat.add_assoc]; exact key _ _ k4⟩
/-- append(v, s), s stored in a block of its own, inside a region that draws its order. -/
theorem step_sg {ops : Array Oper} {o : Oper} {a : Act} {K : Act → World → Prop} {Q : Exit → Act → World → Prop} {E : Prop} {w : World} (hgd : o.guard = none) (s x : Operand)
    (ho : o.op = .call { callee := .builtin .append, args := #[s, x], argTypes := #[93, 93] })
    (base : Nat) (v : Value) (es : List Sg) (hs : a.eval s = v) (hown : OwnG w base v es) (p q r t : Int) (b c : Nat) (hx : a.eval x = .slice (some ⟨b, 0, none⟩) 1 c) (h0 : w.cell? ⟨b, 0, none⟩ = some (.int .i64 p)) (h1 : w.cell? ⟨b, 1, none⟩ = some (.int .i64 q)) (h2 : w.cell? ⟨b, 2, none⟩ = some (.int .i64 r)) (h3 : w.cell? ⟨b, 3, none⟩ = some (.int .i64 t))
    (hlen : es.length ≤ 2000000) (hbase : base ≤ w.heap.size)
    (h : ∀ v' w', OwnG w' base v' (es ++ [(⟨p, q⟩, ⟨r, t⟩)]) → Below base w w' → (v'.ownBlock = v.ownBlock ∨ v'.ownBlock = some w.heap.size) → w.grownBy w' v.ownBlock → K (a.put o.dst v') w') :
    if Region.wanted o (yielded ops a.tmps) = true then Oper.wp Tryz.prog o a w K Q else E := by
  have hw : Region.wanted o (yielded ops a.tmps) = true := by simp [Region.wanted, hgd]
  rw [if_pos hw]
  refine app_wp sgElt s x ho base v es.length _ hs hown (some ⟨b, 0, none⟩) 1 c (sgVals [(⟨p, q⟩, ⟨r, t⟩)]) hx rfl (fun _ => ⟨b, 0, rfl, fun j u hu => ?_⟩) (fun h => by cases h) (fun b o s h => by injection h with h; injection h with _ _ h3; exact h3.symm) (sgVals_one _) (by unfold maxLen; omega) (by omega) hbase fun v' w' g2 g3 g4 => ?_
  · match j with
    | 0 => simp [sgVals] at hu; subst hu; simpa using h0
    | 1 => simp [sgVals] at hu; subst hu; simpa using h1
    | 2 => simp [sgVals] at hu; subst hu; simpa using h2
    | 3 => simp [sgVals] at hu; subst hu; simpa using h3
    | j + 4 => simp [sgVals] at hu
  · exact h v' w' (by unfold OwnG; rw [List.length_append, sgVals_app]; exact g2) ((Below.refl _ _).grown g3 hbase hown.lt) g4 g3
/-! ### edges -/
def edgeAt (ps : List Pt) (i : Nat) : Sg := (gp ps i, gp ps ((i + 1) % ps.length))
def edgesTo (ps : List Pt) (k : Nat) : List Sg := (List.range k).map (edgeAt ps)
def edgesL (ps : List Pt) : List Sg := edgesTo ps ps.length
theorem edgesTo_len (ps : List Pt) (k : Nat) : (edgesTo ps k).length = k := by simp [edgesTo]
theorem edgesTo_succ (ps : List Pt) (k : Nat) : edgesTo ps (k + 1) = edgesTo ps k ++ [(⟨pX ps k, pY ps k⟩, ⟨pX ps ((k + 1) % ps.length), pY ps ((k + 1) % ps.length)⟩)] := by
  unfold edgesTo; rw [List.range_succ, List.map_append]; rfl
theorem edgesL_len (ps : List Pt) : (edgesL ps).length = ps.length := edgesTo_len _ _
theorem edgesL_at {ps : List Pt} {i : Nat} (h : i < ps.length) : gs (edgesL ps) i = edgeAt ps i := by
  rw [gs_lt (by rw [edgesL_len]; exact h)]; simp [edgesL, edgesTo]
set_option maxHeartbeats 1000000 in
theorem edges_any (ps : List Pt) (A : Option Addr) (n c : Nat) (w : World) (hn : ps.length = n) (hm : n ≤ 1000) (hs : PtsAt w w.heap.size A ps) :
    Calls Tryz.prog 74 #[.slice A n c] w fun e w' => ∃ v, e = .returned v ∧ OwnG w' w.heap.size v (edgesL ps) ∧ ∃ x, w' = ext w x := by
  have HN := hide hn
  clear hn
  obtain ⟨i0, hi, hz0, hz1, hz2⟩ := info_parts sgElt.inf
  have IP := hide (And.intro hi (And.intro hz0 (And.intro hz1 hz2)))
  clear hi hz0 hz1 hz2
  have mk1 : i0.bytes * n ≤ 281474976710656 := by rw [IP.out.2.2.2]; omega
  have mk2 : n ≤ maxLen := by unfold maxLen; omega
  go_enter Tryz.func74, Tryz.ntmps74
  go_wp2_with (refine wpList_make_own _ rfl (.const (.int .i64 0)) (.tmp 7) 93 rfl w.heap.size 96 i0 _ 4 sgElt.und IP.out.1 IP.out.2.1 IP.out.2.2.1 .i64 .i64 _ n rfl rfl rfl mk1 mk2 (Nat.le_refl _) ?_; intro w1 hown1 hgr1; have O1 := hide (show OwnG w1 w.heap.size _ [] from hown1); have B1 := hide ((Below.refl _ _).grown hgr1 (Nat.le_refl _) (fun k hk => by cases hk)); clear hown1 hgr1)
  go_loopw [3, 11] (fun u3 u11 wr => ∃ (k : Nat), k ≤ n ∧ u11 = .int .i64 k ∧ OwnG wr w.heap.size u3 (edgesTo ps k) ∧ Below w.heap.size w wr) (fun _ u11 _ => n - (intOf u11).toNat)
  case atStart => exact ⟨0, Nat.zero_le _, rfl, O1.out.below (by (repeat' (first | (with_reducible first | exact Below.refl _ _ | assumption | refine below_ext _ ?_ ?_ | refine Below.alloc ?_ ?_ _ | refine Below.drew ?_ | refine below_drewN ?_ _ | refine le_drewN _ ?_ | refine Below.setCell ?_ ?_ _ | exact Nat.le_refl _ | refine le_ext _ ?_ | refine le_alloc _ ?_ | refine le_setCell _ _ ?_ | refine le_drew ?_) | omega | (simp; done) | (simp; omega)))), Below.trans B1.out (by (repeat' (first | (with_reducible first | exact Below.refl _ _ | assumption | refine below_ext _ ?_ ?_ | refine Below.alloc ?_ ?_ _ | refine Below.drew ?_ | refine below_drewN ?_ _ | refine le_drewN _ ?_ | refine Below.setCell ?_ ?_ _ | exact Nat.le_refl _ | refine le_ext _ ?_ | refine le_alloc _ ?_ | refine le_setCell _ _ ?_ | refine le_drew ?_) | omega | (simp; done) | (simp; omega))))⟩
  case round =>
    obtain ⟨k, hk, rfl, hown, hbel⟩ := hrel
    obtain ⟨A0, n0, c0, rfl⟩ := hown.slice
    have hsz := hbel.size
    have OWN0 := hide hown
    clear hown
    by_cases hlt : k < n
    · obtain ⟨b1, o1, rfl, hbl1, hc1⟩ := hs (by rw [HN.out]; omega)
      have HJ := hide (rfl : (k + 1) % ps.length = (k + 1) % ps.length)
      rw [HN.out] at HJ
      have hjl : (k + 1) % n < n := Nat.mod_lt _ (by omega)
      obtain ⟨j, hj⟩ : ∃ j, j = (k + 1) % n := ⟨_, rfl⟩
      rw [← hj] at hjl
      have NX := hide (edgesTo_succ ps k)
      rw [HN.out, ← hj] at NX
      have e2 : Int.tmod ((k : Int) + 1) (n : Int) = (j : Int) := by rw [hj]; exact (Int.ofNat_tmod (k + 1) n).symm
      clear hj HJ
      obtain ⟨hx0, hy0⟩ := hc1 k (by rw [HN.out]; omega)
      obtain ⟨hx20, hy20⟩ := hc1 j (by rw [HN.out]; omega)
      have hx := (hbel.cell (p := ⟨b1, o1 + k * 2, none⟩) hbl1).trans hx0
      have hy := (hbel.cell (p := ⟨b1, o1 + k * 2 + 1, none⟩) hbl1).trans hy0
      have hx2 := (hbel.cell (p := ⟨b1, o1 + j * 2, none⟩) hbl1).trans hx20
      have hy2 := (hbel.cell (p := ⟨b1, o1 + j * 2 + 1, none⟩) hbl1).trans hy20
      clear hc1 hx0 hy0 hx20 hy20
      have e1 : IntKind.i64.wrap ((k : Int) + 1) = (k : Int) + 1 := IntWalk.i64_in _ (by omega)
      have e3 : IntKind.i64.wrap (j : Int) = (j : Int) := IntWalk.i64_in _ (by omega)
      have q1 : (0 : Int) ≤ (j : Int) := by omega
      have q2 : (j : Int) < (n : Int) := by omega
      have q3 : (0 : Int) ≤ (k : Int) := by omega
      have q4 : (k : Int) < (n : Int) := by omega
      have NL : (edgesTo ps k).length ≤ 2000000 := by rw [edgesTo_len]; omega
      have OD : Hid (∀ o p, OwnG (((wr.alloc o).alloc p).drew) w.heap.size (.slice A0 n0 c0) (edgesTo ps k)) := hide (fun o p => OWN0.out.below (by (repeat' (first | (with_reducible first | exact Below.refl _ _ | assumption | refine below_ext _ ?_ ?_ | refine Below.alloc ?_ ?_ _ | refine Below.drew ?_ | refine below_drewN ?_ _ | refine le_drewN _ ?_ | refine Below.setCell ?_ ?_ _ | exact Nat.le_refl _ | refine le_ext _ ?_ | refine le_alloc _ ?_ | refine le_setCell _ _ ?_ | refine le_drew ?_) | omega | (simp; done) | (simp; omega)))))
      have SZ : Hid (∀ (o p : Obj), w.heap.size ≤ (((wr.alloc o).alloc p).drew).heap.size) := hide (fun o p => by simp; omega)
      have NC : Hid (∀ (o p : Obj), (((wr.alloc o).alloc p).drew).heap[wr.heap.size + 1]? = some p) := hide (fun o p => by
        have h := heap_alloc_new (wr.alloc o) p
        rw [size_alloc] at h
        exact h)
      have OB : Hid (∀ j, (Value.slice A0 n0 c0).ownBlock = some j → w.heap.size ≤ j ∧ j < wr.heap.size) := hide (fun j hj => ⟨OWN0.out.lt j hj, (World.ownsRow.lt OWN0.out j hj).2⟩)
      have SC : Hid (∀ W : World, W.heap[b1]? = wr.heap[b1]? → W.heap[wr.heap.size]? = some (.cells #[.int .i64 (pX ps k), .int .i64 (pY ps k)] 41 (0, 0)) → W.cell? ⟨wr.heap.size, 0, none⟩ = some (.int .i64 (pX ps k)) ∧ W.cell? ⟨wr.heap.size, 1, none⟩ = some (.int .i64 (pY ps k)) ∧ W.cell? ⟨b1, o1 + j * 2, none⟩ = some (.int .i64 (pX ps j)) ∧ W.cell? ⟨b1, o1 + j * 2 + 1, none⟩ = some (.int .i64 (pY ps j))) := hide (fun W h1 h2 =>
        ⟨(heap_cell h2 0).trans rfl, (heap_cell h2 1).trans rfl, (World.cell?_of_block h1).trans hx2, (World.cell?_of_block h1).trans hy2⟩)
      have q5 : ¬ n = 0 := by omega
      have bl : b1 < wr.heap.size := by omega
      go_wp2_with fail
      go_region_held3 (fun W => W.cell? ⟨wr.heap.size, 0, none⟩ = some (.int .i64 (pX ps k)) ∧ W.cell? ⟨wr.heap.size, 1, none⟩ = some (.int .i64 (pY ps k)) ∧ W.cell? ⟨b1, o1 + j * 2, none⟩ = some (.int .i64 (pX ps j)) ∧ W.cell? ⟨b1, o1 + j * 2 + 1, none⟩ = some (.int .i64 (pY ps j))) (first | exact SC.out _ (Below.heap_alloc _ _ _ bl) (heap_alloc_new _ _) | exact SC.out _ ((Below.heap_alloc _ _ _ (lt_alloc _ (Nat.lt_succ_of_lt bl))).trans (Below.heap_alloc _ _ _ bl)) ((Below.heap_alloc _ _ _ (lt_alloc _ (Nat.lt_succ_self _))).trans (heap_alloc_new _ _)) | exact SC.out _ ((GR7.out.block _ (lt_alloc _ (Nat.lt_succ_of_lt (lt_alloc _ (Nat.lt_succ_of_lt bl)))) (fun e => by have := OB.out _ e.symm; omega)).trans ((Below.heap_alloc _ _ _ (lt_alloc _ (Nat.lt_succ_of_lt bl))).trans (Below.heap_alloc _ _ _ bl))) ((GR7.out.block _ (lt_alloc _ (Nat.lt_succ_of_lt (lt_alloc _ (Nat.lt_succ_self _)))) (fun e => by have := OB.out _ e.symm; omega)).trans ((Below.heap_alloc _ _ _ (lt_alloc _ (Nat.lt_succ_self _))).trans (heap_alloc_new _ _)))) (first | (refine step_sg (by rfl) (.tmp 16) (.tmp 27) (by rfl) w.heap.size (.slice A0 n0 c0) (edgesTo ps k) (by rfl) (OD.out _ _) (pX ps k) (pY ps k) (pX ps j) (pY ps j) (wr.heap.size + 1) 1 (by rfl) ((heap_cell (NC.out _ _) 0).trans rfl) ((heap_cell (NC.out _ _) 1).trans rfl) ((heap_cell (NC.out _ _) 2).trans rfl) ((heap_cell (NC.out _ _) 3).trans rfl) NL (SZ.out _ _) ?_; intro v7 w7 hown7 hb7 hat7 hgr7; obtain ⟨A7, n7, c7, rfl⟩ := hown7.slice; have O7 := hide hown7; have B7 := hide hb7; have GR7 := hide hgr7; clear hown7 hat7 hgr7 hb7))
      go_wp2_with fail
      exact ⟨⟨k + 1, by omega, by go_num, by rw [NX.out]; exact O7.out, Below.trans (Below.trans hbel (by (repeat' (first | (with_reducible first | exact Below.refl _ _ | assumption | refine below_ext _ ?_ ?_ | refine Below.alloc ?_ ?_ _ | refine Below.drew ?_ | refine below_drewN ?_ _ | refine le_drewN _ ?_ | refine Below.setCell ?_ ?_ _ | exact Nat.le_refl _ | refine le_ext _ ?_ | refine le_alloc _ ?_ | refine le_setCell _ _ ?_ | refine le_drew ?_) | omega | (simp; done) | (simp; omega))))) B7.out⟩, by simp [intOf]; omega⟩
    · have : k = n := by omega
      subst this
      go_wp2
      go_ret
      exact ⟨_, rfl, by rw [show edgesL ps = edgesTo ps k from by unfold edgesL; rw [HN.out]]; exact OWN0.out, ext_mk hbel⟩
end Go.Proofs.YtnddfdhfefconaaGreatDoor
