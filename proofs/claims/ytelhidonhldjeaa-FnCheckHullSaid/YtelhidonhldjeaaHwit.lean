
/- Rows of rows of ints that a call owns; HullWitness: the program's and the reference's; equal lists of rows. -/
import Derived.Test.YtelhidonhldjeaaWitn
import Derived.Test.YtelhidonhldjeaaSHull
import Derived.Test.YtelhidonhldjeaaHullI
import Derived.Test.YtelhidonhldjeaaHelp
set_option linter.unusedVariables false
set_option linter.unusedSimpArgs false
namespace Go.Proofs.Ytelhidonhldjeaa
open Go.RowKit

/-- Slice v is a row of values of the call's own, at block base or later. -/
def OwnV (w : World) (base : Nat) (v : Value) (vs : List Value) : Prop := w.ownsRow base 65 1 v vs.length vs
theorem OwnV.below {w W : World} {base : Nat} {v : Value} {vs : List Value} (h : OwnV w base v vs) (hb : Below w.heap.size w W) : OwnV W base v vs := own_below h hb
theorem OwnV.base {w : World} {base base' : Nat} {v : Value} {vs : List Value} (h : OwnV w base v vs) (hb : base' ≤ base) : OwnV w base' v vs := own_base h hb
theorem OwnV.lt {w : World} {base : Nat} {v : Value} {vs : List Value} (h : OwnV w base v vs) : ∀ k, v.ownBlock = some k → base ≤ k := fun k hk => (World.ownsRow.lt h k hk).1
theorem OwnV.snoc {w : World} {base : Nat} {v : Value} {vs : List Value} {x : Value} (h : w.ownsRow base 65 1 v (vs.length + 1) (vs ++ [x])) : OwnV w base v (vs ++ [x]) := by
  unfold OwnV; rw [List.length_append]; exact h
theorem OwnV.slice {w : World} {base : Nat} {v : Value} {vs : List Value} (h : OwnV w base v vs) : ∃ A n c, v = .slice A n c := by
  unfold OwnV at h
  rcases h.2 with ⟨hv, _⟩ | ⟨g, cap, cur, hv, _⟩
  · exact ⟨_, _, _, hv⟩
  · exact ⟨_, _, _, hv⟩
theorem OwnV.empty (w : World) (base c : Nat) (hb : base ≤ w.heap.size) (cur : Array Value) (hc : cur.size = c) (hm : c ≤ maxLen) : OwnV (w.alloc (.cells cur 65)) base (.slice (some ⟨w.heap.size, 0, none⟩) 0 c) [] :=
  ⟨rfl, .inr ⟨w.heap.size, c, cur, rfl, hb, heap_alloc_new w _, Nat.zero_le _, hm, by omega, by simp⟩⟩
theorem OwnV.nil (w : World) (base : Nat) : OwnV w base (.slice none 0 0) [] := World.ownsRow_nil w base _ 1
/-- What such a row is known for. -/
theorem OwnV.vals {w : World} {base : Nat} {A : Option Addr} {n c : Nat} {vs : List Value} (h : OwnV w base (.slice A n c) vs) : vs.length = n ∧ n ≤ c ∧ c ≤ maxLen ∧ (0 < vs.length → ∃ g, A = some ⟨g, 0, none⟩ ∧ g < w.heap.size ∧ base ≤ g ∧ ∀ i v, vs[i]? = some v → w.cell? ⟨g, i, none⟩ = some v) := by
  unfold OwnV at h
  rcases h.2 with ⟨hv, h0⟩ | ⟨g, cap, cur, hv, hg, hgg, hnc, hcm, hsz, htk⟩
  · injection hv with h1 h2 h3
    subst h1 h2 h3
    exact ⟨h0, Nat.le_refl _, by simp [maxLen], fun hn => by omega⟩
  · injection hv with h1 h2 h3
    subst h1 h2 h3
    refine ⟨rfl, hnc, hcm, fun _ => ⟨g, rfl, (Array.getElem?_eq_some_iff.1 hgg).1, hg, fun i v hv' => ?_⟩⟩
    have hi : i < vs.length := (List.getElem?_eq_some_iff.1 hv').1
    have : cur.toList[i]? = some v := by
      have h2 : (cur.toList.take (vs.length * 1))[i]? = some v := by rw [htk]; exact hv'
      rw [List.getElem?_take, if_pos (by omega)] at h2
      exact h2
    simp [World.cell?, hgg, ← Array.getElem?_toList, this]
theorem appInfoV : (Try.prog.info? 65).map (fun i => (i.zero, i.size, i.bytes)) = some (some (.slice none 0 0), 1, 24) := by kernel_rfl
/-- append(v, x), x a row stored in a block of its own. -/
theorem app_val {ops : Array Oper} {rest : List Oper} {o : Oper} {a : Act} {Q : Exit → Act → World → Prop} {w : World} (hgd : o.guard = none) (s x : Operand)
    (ho : o.op = .call { callee := .builtin .append, args := #[s, x], argTypes := #[41, 41] })
    (base : Nat) (v : Value) (vs : List Value) (hs : a.eval s = v) (hown : OwnV w base v vs) (A0 : Option Addr) (n0 c0 : Nat) (b c : Nat) (hx : a.eval x = .slice (some ⟨b, 0, none⟩) 1 c) (hc : w.cell? ⟨b, 0, none⟩ = some (.slice A0 n0 c0))
    (hlen : vs.length ≤ 2000000) (hbase : base ≤ w.heap.size)
    (h : ∀ v' w', OwnV w' base v' (vs ++ [.slice A0 n0 c0]) → Below base w w' → (v'.ownBlock = v.ownBlock ∨ v'.ownBlock = some w.heap.size) → w.grownBy w' v.ownBlock → wpList Try.prog ops Q rest (a.put o.dst v') w') :
    wpList Try.prog ops Q (o :: rest) a w := by
  obtain ⟨i0, hi, hz0, hz1, hz2⟩ := info_parts appInfoV
  refine wpList_append_own_at (P := Try.prog) (w := w) hgd s x _ ho base 65 i0 (.slice none 0 0) 1 24 Try.underlying41 hi hz0 hz1 hz2 rfl (by decide) v vs.length _ hs hown ⟨b, 0, none⟩ 1 c [.slice A0 n0 c0] hx rfl ?_ ?_ ?_ ?_ hbase ?_
  · intro j u hj
    cases j with
    | zero => simp at hj; subst hj; simpa [Addr.add] using hc
    | succ j => simp at hj
  · intro u hu; simp at hu; subst hu; rfl
  · unfold maxLen; omega
  · omega
  · intro v' w' h1 h2 _ h4
    exact h v' w' (OwnV.snoc h1) ((Below.refl _ _).grown h2 hbase hown.lt) h4 h2
def gz (zss : List (List Int)) (j : Nat) : List Int := zss.getD j []
/-- The values vs are rows of the ints zss, none of them in the block no. -/
structure VR (w : World) (no : Option Nat) (vs : List Value) (zss : List (List Int)) : Prop where
  len : vs.length = zss.length
  row : ∀ j, j < vs.length → ∃ A n c, vs[j]? = some (.slice A n c) ∧ (gz zss j).length = n ∧ n ≤ c ∧ IntsAt w w.heap.size A (gz zss j) ∧ ∀ g o s, A = some ⟨g, o, s⟩ → g < w.heap.size ∧ some g ≠ no
theorem VR.nil (w : World) (no : Option Nat) : VR w no [] [] := ⟨rfl, fun j hj => by simp at hj⟩
theorem VR.below {w W : World} {no : Option Nat} {vs : List Value} {zss : List (List Int)} (h : VR w no vs zss) (hb : Below w.heap.size w W) : VR W no vs zss := ⟨h.len, fun j hj => by
  obtain ⟨A, n, c, h1, h2, h3, h4, h5⟩ := h.row j hj
  exact ⟨A, n, c, h1, h2, h3, h4.to hb, fun g o s e => ⟨Nat.lt_of_lt_of_le (h5 g o s e).1 hb.size, (h5 g o s e).2⟩⟩⟩
theorem VR.grown {w W : World} {no no' : Option Nat} {vs : List Value} {zss : List (List Int)} (h : VR w no vs zss) (hg : w.grownBy W no) (hno : no' = no ∨ no' = some w.heap.size) : VR W no' vs zss := ⟨h.len, fun j hj => by
  obtain ⟨A, n, c, h1, h2, h3, h4, h5⟩ := h.row j hj
  refine ⟨A, n, c, h1, h2, h3, fun hz => ?_, fun g o s e => ⟨Nat.lt_of_lt_of_le (h5 g o s e).1 hg.size, ?_⟩⟩
  · obtain ⟨b, o, hA, hB, hc⟩ := h4 hz
    exact ⟨b, o, hA, Nat.lt_of_lt_of_le hB hg.size, fun i hi => (World.cell?_of_block (hg.block b hB (h5 b o none hA).2)).trans (hc i hi)⟩
  · rcases hno with e2 | e2
    · rw [e2]; exact (h5 g o s e).2
    · rw [e2]; intro e3
      injection e3 with e3
      have := (h5 g o s e).1
      omega⟩
theorem VR.snoc {w : World} {no : Option Nat} {vs : List Value} {zss : List (List Int)} {A : Option Addr} {n c : Nat} {zs : List Int} (h : VR w no vs zss) (hl : zs.length = n) (hc : n ≤ c) (hi : IntsAt w w.heap.size A zs) (hA : ∀ g o s, A = some ⟨g, o, s⟩ → g < w.heap.size ∧ some g ≠ no) : VR w no (vs ++ [.slice A n c]) (zss ++ [zs]) := by
  refine ⟨by simp [h.len], fun j hj => ?_⟩
  simp at hj
  by_cases e : j < vs.length
  · obtain ⟨A', n', c', h1, h2, h3, h4, h5⟩ := h.row j e
    have hg : gz (zss ++ [zs]) j = gz zss j := by
      unfold gz; rw [List.getD_eq_getElem?_getD, List.getD_eq_getElem?_getD, List.getElem?_append_left (by rw [← h.len]; exact e)]
    rw [hg]
    exact ⟨A', n', c', by rw [List.getElem?_append_left e]; exact h1, h2, h3, h4, h5⟩
  · have ej : j = vs.length := by omega
    have hg : gz (zss ++ [zs]) j = zs := by
      unfold gz; rw [List.getD_eq_getElem?_getD, ej, h.len, List.getElem?_append_right (Nat.le_refl _)]; simp
    rw [hg]
    exact ⟨A, n, c, by rw [ej, List.getElem?_append_right (Nat.le_refl _)]; simp, hl, hc, hi, hA⟩
theorem own_free {w : World} {base b0 : Nat} {A : Option Addr} {n c : Nat} {zs : List Int} {no : Option Nat} (h : Own w base (.slice A n c) zs) (hb : b0 ≤ base) (hno : ∀ k, no = some k → k < b0) : ∀ g o s, A = some ⟨g, o, s⟩ → g < w.heap.size ∧ some g ≠ no := fun g o s e => by
  subst e
  have := World.ownsRow.lt h g rfl
  refine ⟨this.2, fun e2 => ?_⟩
  have := hno g e2.symm
  omega
theorem gz_snoc {zss : List (List Int)} {zs : List Int} {j : Nat} : gz (zss ++ [zs]) j = if j < zss.length then gz zss j else if j = zss.length then zs else [] := by
  unfold gz
  rw [List.getD_eq_getElem?_getD, List.getD_eq_getElem?_getD]
  split
  · rename_i h; rw [List.getElem?_append_left h]
  · rename_i h
    rw [List.getElem?_append_right (by omega)]
    split
    · rename_i h2; rw [h2, Nat.sub_self]; rfl
    · rename_i h2; rw [List.getElem?_eq_none (by simp; omega)]; rfl
/-- The rows zss are the witnesses of the points ps. -/
def WtsL (hs ps : List Pt) (k : Nat) (zss : List (List Int)) : Prop := zss.length = k ∧ ∀ j, j < k → isWL hs (gp ps j) (gz zss j)
theorem WtsL.snoc {hs ps : List Pt} {k : Nat} {zss : List (List Int)} {zs : List Int} (h : WtsL hs ps k zss) (hw : isWL hs (gp ps k) zs) : WtsL hs ps (k + 1) (zss ++ [zs]) := by
  refine ⟨by rw [List.length_append, h.1]; rfl, fun j hj => ?_⟩
  rw [gz_snoc, h.1]
  by_cases e : j < k
  · rw [if_pos e]; exact h.2 j e
  · have : j = k := by omega
    subst this
    rw [if_neg (Nat.lt_irrefl _), if_pos rfl]; exact hw
theorem WtsL.only {hs ps : List Pt} {k : Nat} {zss yss : List (List Int)} (h : WtsL hs ps k zss) (h' : WtsL hs ps k yss) : zss = yss := by
  refine List.ext_getElem (by rw [h.1, h'.1]) fun j h1 h2 => ?_
  have e := isWL_only (h.2 j (by rw [← h.1]; exact h1)) (h'.2 j (by rw [← h.1]; exact h1))
  unfold gz at e
  rw [List.getD_eq_getElem?_getD, List.getD_eq_getElem?_getD, List.getElem?_eq_getElem h1, List.getElem?_eq_getElem h2] at e
  exact e
/-- A slice of rows. -/
def RowsAt (w : World) (A : Option Addr) (n : Nat) (zss : List (List Int)) : Prop := zss.length = n ∧ (0 < n → ∃ g o vs no, A = some ⟨g, o, none⟩ ∧ g < w.heap.size ∧ VR w no vs zss ∧ ∀ i v, vs[i]? = some v → w.cell? ⟨g, o + i, none⟩ = some v)
theorem RowsAt.below {w W : World} {A : Option Addr} {n : Nat} {zss : List (List Int)} (h : RowsAt w A n zss) (hb : Below w.heap.size w W) : RowsAt W A n zss := ⟨h.1, fun h0 => by
  obtain ⟨g, o, vs, no, hA, hg, hv, hc⟩ := h.2 h0
  exact ⟨g, o, vs, no, hA, Nat.lt_of_lt_of_le hg hb.size, hv.below hb, fun i v hi => (hb.cell (p := ⟨g, o + i, none⟩) hg).trans (hc i v hi)⟩⟩
theorem OwnV.rows {w : World} {base : Nat} {A : Option Addr} {n c : Nat} {vs : List Value} {zss : List (List Int)} {no : Option Nat} (h : OwnV w base (.slice A n c) vs) (hv : VR w no vs zss) : RowsAt w A n zss := by
  obtain ⟨h1, _, _, h4⟩ := h.vals
  refine ⟨by rw [← hv.len]; exact h1, fun h0 => ?_⟩
  obtain ⟨g, hA, hg, _, hc⟩ := h4 (by omega)
  exact ⟨g, 0, vs, no, hA, hg, hv, fun i v hi => by rw [Nat.zero_add]; exact hc i v hi⟩
/-- The row at place j of such a slice. -/
theorem RowsAt.row {w : World} {A : Option Addr} {n : Nat} {zss : List (List Int)} (h : RowsAt w A n zss) {j : Nat} (hj : j < n) : ∃ g o, A = some ⟨g, o, none⟩ ∧ g < w.heap.size ∧ ∃ A' n' c', w.cell? ⟨g, o + j, none⟩ = some (.slice A' n' c') ∧ (gz zss j).length = n' ∧ n' ≤ c' ∧ IntsAt w w.heap.size A' (gz zss j) := by
  obtain ⟨g, o, vs, no, hA, hg, hv, hc⟩ := h.2 (by omega)
  obtain ⟨A', n', c', h1, h2, h3, h4, _⟩ := hv.row j (by rw [hv.len, h.1]; exact hj)
  exact ⟨g, o, hA, hg, A', n', c', hc j _ h1, h2, h3, h4⟩
set_option maxRecDepth 20000 in
set_option maxHeartbeats 2000000 in
theorem iHwit_any (ps : List Pt) (A : Option Addr) (n c : Nat) (w : World) (hn : ps.length = n) (hm : n ≤ 2000000) (hA : Plain A n) (hs : PtsAt w w.heap.size A ps) :
    Calls Try.prog 30 #[.slice A n c] w fun e w' => ∃ A' n' c' zss, e = .returned (.slice A' n' c') ∧ RowsAt w' A' n' zss ∧ (if listOk ps then WtsL (hullOf ps) ps n zss else zss = []) ∧ ∃ x, w' = ext w x := by
  have HC := hide (listOk_any ps A n c w hn hm hs)
  by_cases h : listOk ps = true
  · obtain ⟨hib, hle⟩ := listOk_InB h
    have HU := hide (fun (W : World) (hb : Below w.heap.size w W) => hull_any ps A n c W hn (by omega) hib (hs.to hb) hA)
    have HB : Hid (∀ p ∈ hullOf ps, (-100000 ≤ p.x ∧ p.x ≤ 100000) ∧ -100000 ≤ p.y ∧ p.y ≤ 100000) := hide (fun p hp => hib p (hullOf_sub hp))
    have PB : Hid (∀ i, i < n → (-100000 ≤ (gp ps i).x ∧ (gp ps i).x ≤ 100000) ∧ -100000 ≤ (gp ps i).y ∧ (gp ps i).y ≤ 100000) := hide (fun i hi => hib _ (gp_mem (by omega)))
    have HL := hide (hullOf_len' ps)
    have k20 : n ≤ 1000 := by omega
    simp only [if_pos h]
    rw [h] at HC
    have HN := hide hn
    have HS := hide hs
    obtain ⟨i0, hi, hz0, hz1, hz2⟩ := info_parts appInfoV
    have IP := hide (And.intro hi (And.intro hz0 (And.intro hz1 hz2)))
    clear hi hz0 hz1 hz2
    have mk1 : i0.bytes * n ≤ 281474976710656 := by rw [IP.out.2.2.2]; omega
    have mk2 : n ≤ maxLen := by unfold maxLen; omega
    clear hn hs h hib hle hA
    go_enter Try.func30, Try.ntmps30
    go_wp2_with fail
    refine HC.out.mono ?_
    rintro e w' ⟨rfl, hw'⟩; have hzy1 := ext_sz hw'; obtain ⟨y1, rfl⟩ := hw'; (try simp at hzy1)
    go_wp2_with fail
    refine (HU.out _ (by (repeat' (first | (with_reducible exact Below.refl _ _) | (with_reducible assumption) | (with_reducible refine below_ext _ ?_ ?_) | (with_reducible refine Below.alloc ?_ ?_ _) | (with_reducible refine Below.drew ?_) | (with_reducible refine below_drewN ?_ _) | (with_reducible refine le_drewN _ ?_) | (with_reducible refine Below.setCell ?_ ?_ _) | (with_reducible exact Nat.le_refl _) | (with_reducible refine le_ext _ ?_) | (with_reducible refine le_alloc _ ?_) | (with_reducible refine le_setCell _ _ ?_) | (with_reducible refine le_drew ?_) | omega | (simp; done) | (simp; omega))))).mono ?_
    rintro e w2 ⟨A2, n2, c2, rfl, l2, q2, qc2, pr2, pl2, hx2⟩
    have B2 := ext_bel hx2
    have B1 := (show Below w.heap.size w (ext w y1) from (by (repeat' (first | (with_reducible exact Below.refl _ _) | (with_reducible assumption) | (with_reducible refine below_ext _ ?_ ?_) | (with_reducible refine Below.alloc ?_ ?_ _) | (with_reducible refine Below.drew ?_) | (with_reducible refine below_drewN ?_ _) | (with_reducible refine le_drewN _ ?_) | (with_reducible refine Below.setCell ?_ ?_ _) | (with_reducible exact Nat.le_refl _) | (with_reducible refine le_ext _ ?_) | (with_reducible refine le_alloc _ ?_) | (with_reducible refine le_setCell _ _ ?_) | (with_reducible refine le_drew ?_) | omega | (simp; done) | (simp; omega)))))
    have BW := hide (B1.trans (B2.mono B1.size))
    have PR := hide pr2.pts
    have L2 := hide l2
    have k2 : n2 ≤ 1000 := by have := HL.out; have := HN.out; omega
    clear pr2 hx2 B1 B2 l2
    go_wp2_with (refine wpList_make_own _ rfl (.const (.int .i64 0)) (.tmp 13) 41 rfl w2.heap.size 65 i0 _ 1 Try.underlying41 IP.out.1 IP.out.2.1 IP.out.2.2.1 .i64 .i64 _ n rfl rfl rfl mk1 mk2 (Nat.le_refl _) ?_; intro w4 hown4 hgr4; have O4 := hide (show OwnV w4 w2.heap.size _ [] from hown4); have B4 := hide ((Below.refl _ _).grown hgr4 (Nat.le_refl _) (fun k hk => by cases hk)); clear hown4 hgr4)
    go_loopw [4, 6, 17] (fun u4 _ u17 wr => ∃ (k : Nat) (vs : List Value) (zss : List (List Int)), k ≤ n ∧ u17 = .int .i64 k ∧ OwnV wr w2.heap.size u4 vs ∧ Hid (VR wr u4.ownBlock vs zss) ∧ Hid (WtsL (hullOf ps) ps k zss) ∧ Below w2.heap.size w2 wr) (fun _ _ u17 _ => n - (intOf u17).toNat)
    case atStart => exact ⟨0, [], [], Nat.zero_le _, rfl, O4.out.below (by (repeat' (first | (with_reducible exact Below.refl _ _) | (with_reducible assumption) | (with_reducible refine below_ext _ ?_ ?_) | (with_reducible refine Below.alloc ?_ ?_ _) | (with_reducible refine Below.drew ?_) | (with_reducible refine below_drewN ?_ _) | (with_reducible refine le_drewN _ ?_) | (with_reducible refine Below.setCell ?_ ?_ _) | (with_reducible exact Nat.le_refl _) | (with_reducible refine le_ext _ ?_) | (with_reducible refine le_alloc _ ?_) | (with_reducible refine le_setCell _ _ ?_) | (with_reducible refine le_drew ?_) | omega | (simp; done) | (simp; omega)))), hide (VR.nil _ _), hide ⟨rfl, fun j hj => by omega⟩, Below.trans B4.out (by (repeat' (first | (with_reducible exact Below.refl _ _) | (with_reducible assumption) | (with_reducible refine below_ext _ ?_ ?_) | (with_reducible refine Below.alloc ?_ ?_ _) | (with_reducible refine Below.drew ?_) | (with_reducible refine below_drewN ?_ _) | (with_reducible refine le_drewN _ ?_) | (with_reducible refine Below.setCell ?_ ?_ _) | (with_reducible exact Nat.le_refl _) | (with_reducible refine le_ext _ ?_) | (with_reducible refine le_alloc _ ?_) | (with_reducible refine le_setCell _ _ ?_) | (with_reducible refine le_drew ?_) | omega | (simp; done) | (simp; omega))))⟩
    case round =>
      obtain ⟨k, vs, zss, hk, rfl, hown, HV, HW, hbel⟩ := hrel
      obtain ⟨A0, n0, c0, rfl⟩ := hown.slice
      have hsz := hbel.size
      have lv := hown.vals.1
      have lz := HW.out.1
      have lvz := HV.out.len
      have OWN0 := hide hown
      have LT0 : Hid (∀ k, (Value.slice A0 n0 c0).ownBlock = some k → k < wr.heap.size) := hide (fun k hk => (World.ownsRow.lt hown k hk).2)
      clear hown
      by_cases hlt : k < n
      · obtain ⟨b, o, rfl, hbl, hc⟩ := HS.out (by rw [HN.out]; omega)
        obtain ⟨hx0, hy0⟩ := hc k (by rw [HN.out]; omega)
        obtain ⟨p1, p2⟩ := PB.out k hlt
        have bw := BW.out.trans (hbel.mono BW.out.size)
        have hx := (bw.cell (p := ⟨b, o + k * 2, none⟩) hbl).trans hx0
        have hy := (bw.cell (p := ⟨b, o + k * 2 + 1, none⟩) hbl).trans hy0
        change wr.cell? ⟨b, o + k * 2, none⟩ = some (.int .i64 (gp ps k).x) at hx
        change wr.cell? ⟨b, o + k * 2 + 1, none⟩ = some (.int .i64 (gp ps k).y) at hy
        have WT := hide (fun (W : World) (hb : Below w2.heap.size w2 W) => iwit_any (hullOf ps) (gp ps k).x (gp ps k).y A2 n2 c2 W L2.out k2 HB.out p1 p2 (PR.out.to hb))
        have SN := hide (fun (zs : List Int) (hw : isWL (hullOf ps) ⟨(gp ps k).x, (gp ps k).y⟩ zs) => HW.out.snoc (show isWL (hullOf ps) (gp ps k) zs from hw))
        have q1 : (0 : Int) ≤ (k : Int) := by omega
        have q2' : (k : Int) < (n : Int) := by omega
        have BWh := hide bw
        clear hc hx0 hy0 p1 p2 bw
        generalize (gp ps k).x = X at *
        generalize (gp ps k).y = Y at *
        go_wp2_with fail
        refine (WT.out _ (hbel.trans (by (repeat' (first | (with_reducible exact Below.refl _ _) | (with_reducible assumption) | (with_reducible refine below_ext _ ?_ ?_) | (with_reducible refine Below.alloc ?_ ?_ _) | (with_reducible refine Below.drew ?_) | (with_reducible refine below_drewN ?_ _) | (with_reducible refine le_drewN _ ?_) | (with_reducible refine Below.setCell ?_ ?_ _) | (with_reducible exact Nat.le_refl _) | (with_reducible refine le_ext _ ?_) | (with_reducible refine le_alloc _ ?_) | (with_reducible refine le_setCell _ _ ?_) | (with_reducible refine le_drew ?_) | omega | (simp; done) | (simp; omega)))))).mono ?_
        rintro e w5 ⟨v5, zs, rfl, hw5, own5, hx5⟩
        obtain ⟨A5, n5, c5, rfl⟩ := own_slice own5
        have I5 := hide own5.ints
        have E5 := ext_bel hx5
        have BR := hide (Below.trans (show Below wr.heap.size wr (wr.alloc (.cells #[.int .i64 X, .int .i64 Y] 39)) from (by (repeat' (first | (with_reducible exact Below.refl _ _) | (with_reducible assumption) | (with_reducible refine below_ext _ ?_ ?_) | (with_reducible refine Below.alloc ?_ ?_ _) | (with_reducible refine Below.drew ?_) | (with_reducible refine below_drewN ?_ _) | (with_reducible refine le_drewN _ ?_) | (with_reducible refine Below.setCell ?_ ?_ _) | (with_reducible exact Nat.le_refl _) | (with_reducible refine le_ext _ ?_) | (with_reducible refine le_alloc _ ?_) | (with_reducible refine le_setCell _ _ ?_) | (with_reducible refine le_drew ?_) | omega | (simp; done) | (simp; omega))))) (E5.mono (show wr.heap.size ≤ (wr.alloc (.cells #[.int .i64 X, .int .i64 Y] 39)).heap.size from (show Below wr.heap.size wr (wr.alloc (.cells #[.int .i64 X, .int .i64 Y] 39)) from (by (repeat' (first | (with_reducible exact Below.refl _ _) | (with_reducible assumption) | (with_reducible refine below_ext _ ?_ ?_) | (with_reducible refine Below.alloc ?_ ?_ _) | (with_reducible refine Below.drew ?_) | (with_reducible refine below_drewN ?_ _) | (with_reducible refine le_drewN _ ?_) | (with_reducible refine Below.setCell ?_ ?_ _) | (with_reducible exact Nat.le_refl _) | (with_reducible refine le_ext _ ?_) | (with_reducible refine le_alloc _ ?_) | (with_reducible refine le_setCell _ _ ?_) | (with_reducible refine le_drew ?_) | omega | (simp; done) | (simp; omega))))).size)))
        have NW := hide (SN.out zs hw5)
        have hs5 := BR.out.size
        have OW5 := hide (OWN0.out.below BR.out)
        have HV5 := hide ((HV.out.below BR.out).snoc I5.out.1 I5.out.2.1 I5.out.2.2.2 (own_free own5 (show wr.heap.size ≤ (wr.alloc (.cells #[.int .i64 X, .int .i64 Y] 39)).heap.size from (show Below wr.heap.size wr (wr.alloc (.cells #[.int .i64 X, .int .i64 Y] 39)) from (by (repeat' (first | (with_reducible exact Below.refl _ _) | (with_reducible assumption) | (with_reducible refine below_ext _ ?_ ?_) | (with_reducible refine Below.alloc ?_ ?_ _) | (with_reducible refine Below.drew ?_) | (with_reducible refine below_drewN ?_ _) | (with_reducible refine le_drewN _ ?_) | (with_reducible refine Below.setCell ?_ ?_ _) | (with_reducible exact Nat.le_refl _) | (with_reducible refine le_ext _ ?_) | (with_reducible refine le_alloc _ ?_) | (with_reducible refine le_setCell _ _ ?_) | (with_reducible refine le_drew ?_) | omega | (simp; done) | (simp; omega))))).size) LT0.out))
        have HV6 := hide (fun (o : Obj) => HV5.out.below (show Below w5.heap.size w5 (w5.alloc o) from (by (repeat' (first | (with_reducible exact Below.refl _ _) | (with_reducible assumption) | (with_reducible refine below_ext _ ?_ ?_) | (with_reducible refine Below.alloc ?_ ?_ _) | (with_reducible refine Below.drew ?_) | (with_reducible refine below_drewN ?_ _) | (with_reducible refine le_drewN _ ?_) | (with_reducible refine Below.setCell ?_ ?_ _) | (with_reducible exact Nat.le_refl _) | (with_reducible refine le_ext _ ?_) | (with_reducible refine le_alloc _ ?_) | (with_reducible refine le_setCell _ _ ?_) | (with_reducible refine le_drew ?_) | omega | (simp; done) | (simp; omega))))))
        have BA := hide (fun (o : Obj) => show Below w5.heap.size w5 (w5.alloc o) from (by (repeat' (first | (with_reducible exact Below.refl _ _) | (with_reducible assumption) | (with_reducible refine below_ext _ ?_ ?_) | (with_reducible refine Below.alloc ?_ ?_ _) | (with_reducible refine Below.drew ?_) | (with_reducible refine below_drewN ?_ _) | (with_reducible refine le_drewN _ ?_) | (with_reducible refine Below.setCell ?_ ?_ _) | (with_reducible exact Nat.le_refl _) | (with_reducible refine le_ext _ ?_) | (with_reducible refine le_alloc _ ?_) | (with_reducible refine le_setCell _ _ ?_) | (with_reducible refine le_drew ?_) | omega | (simp; done) | (simp; omega)))))
        clear own5 hx5 E5 hw5
        have hal : vs.length ≤ 2000000 := by omega
        go_wp2_with (at_builtin; refine app_val rfl _ _ rfl w2.heap.size (.slice A0 n0 c0) vs rfl (OW5.out.below (by (repeat' (first | (with_reducible exact Below.refl _ _) | (with_reducible assumption) | (with_reducible refine below_ext _ ?_ ?_) | (with_reducible refine Below.alloc ?_ ?_ _) | (with_reducible refine Below.drew ?_) | (with_reducible refine below_drewN ?_ _) | (with_reducible refine le_drewN _ ?_) | (with_reducible refine Below.setCell ?_ ?_ _) | (with_reducible exact Nat.le_refl _) | (with_reducible refine le_ext _ ?_) | (with_reducible refine le_alloc _ ?_) | (with_reducible refine le_setCell _ _ ?_) | (with_reducible refine le_drew ?_) | omega | (simp; done) | (simp; omega))))) A5 n5 c5 _ _ rfl (by simp [go_sem]) hal (by simp; omega) ?_; intro v' w' hown' hb' hat hgr; obtain ⟨A', n', c', rfl⟩ := hown'.slice; have OWN' := hide hown'; have HB' := hide hb'; have HV7 := hide ((HV6.out _).grown hgr hat); clear hown' hat hb' hgr)
        exact ⟨⟨k + 1, vs ++ [.slice A5 n5 c5], zss ++ [zs], by omega, by go_num, OWN'.out, HV7.out |> hide, NW, Below.trans (Below.trans hbel (BR.out.mono hsz)) (Below.trans ((BA.out _).mono (Nat.le_trans hsz hs5)) HB'.out)⟩, by simp [intOf]; omega⟩
      · have ek : k = n := by omega
        have HWn : Hid (WtsL (hullOf ps) ps n zss) := hide (by rw [← ek]; exact HW.out)
        have RW := hide (OWN0.out.rows HV.out)
        clear ek HW HV
        go_wp2_with fail
        go_ret
        exact ⟨_, _, _, zss, rfl, RW.out, HWn.out, ext_mk (BW.out.trans (hbel.mono BW.out.size))⟩
  · have h := eq_false_of_ne_true h
    rw [h] at HC
    simp only [if_neg (show ¬ listOk ps = true by rw [h]; decide)]
    clear hn hs h hA
    go_enter Try.func30, Try.ntmps30
    go_wp2_with fail
    refine HC.out.mono ?_
    rintro e w' ⟨rfl, hw'⟩; have hzy1 := ext_sz hw'; obtain ⟨y1, rfl⟩ := hw'; (try simp at hzy1)
    go_wp2_with fail
    go_ret
    exact ⟨none, 0, 0, [], rfl, ⟨rfl, fun h => by omega⟩, rfl, (ext_mk (by (repeat' (first | (with_reducible exact Below.refl _ _) | (with_reducible assumption) | (with_reducible refine below_ext _ ?_ ?_) | (with_reducible refine Below.alloc ?_ ?_ _) | (with_reducible refine Below.drew ?_) | (with_reducible refine below_drewN ?_ _) | (with_reducible refine le_drewN _ ?_) | (with_reducible refine Below.setCell ?_ ?_ _) | (with_reducible exact Nat.le_refl _) | (with_reducible refine le_ext _ ?_) | (with_reducible refine le_alloc _ ?_) | (with_reducible refine le_setCell _ _ ?_) | (with_reducible refine le_drew ?_) | omega | (simp; done) | (simp; omega)))))⟩
end Go.Proofs.Ytelhidonhldjeaa
