
/- DrawCheckHull: a list, points and rows beside a reader. -/
import Derived.Test.YtelhidonhldjeaaDrawK
import Derived.Test.YtelhidonhldjeaaAreaI
import Derived.Test.YtelhidonhldjeaaHwis
set_option linter.unusedVariables false
set_option linter.unusedSimpArgs false
namespace Go.Proofs.Ytelhidonhldjeaa
open Go.RowKit

set_option maxHeartbeats 1000000 in
theorem shullO_any (ps : List Pt) (A : Option Addr) (n c : Nat) (w : World) (hn : ps.length = n) (hm : n ≤ 2000000) (hs : PtsAt w w.heap.size A ps) :
    Calls Try.prog 81 #[.slice A n c] w fun e w' => ∃ v, e = .returned v ∧ OwnP w' w.heap.size v (hullL ps) ∧ ∃ x, w' = ext w x := by
  have HC := hide (validPoints_any ps A n c w hn hm hs)
  by_cases h : listOk ps = true
  · obtain ⟨hib, hle⟩ := listOk_InB h
    have HH := hide (fun (W : World) (hb : Below w.heap.size w W) => shull_any ps A n c W hn (by omega) hib (hs.to hb))
    have HE : Hid (hullL ps = hullOf ps) := hide (if_pos h)
    rw [h] at HC
    have HC2 := hide HC.out
    rw [HE.out]
    clear HC h hib hn hs
    go_enter Try.func81, Try.ntmps81
    go_wp2_with fail
    refine HC2.out.mono ?_
    rintro e w' ⟨rfl, hw'⟩; have hzy := ext_sz hw'; obtain ⟨y, rfl⟩ := hw'; (try simp at hzy)
    go_wp2_with fail
    refine (HH.out _ (by (repeat' (first | (with_reducible exact Below.refl _ _) | (with_reducible assumption) | (with_reducible refine below_ext _ ?_ ?_) | (with_reducible refine Below.alloc ?_ ?_ _) | (with_reducible refine Below.drew ?_) | (with_reducible refine below_drewN ?_ _) | (with_reducible refine le_drewN _ ?_) | (with_reducible refine Below.setCell ?_ ?_ _) | (with_reducible exact Nat.le_refl _) | (with_reducible refine le_ext _ ?_) | (with_reducible refine le_alloc _ ?_) | (with_reducible refine le_setCell _ _ ?_) | (with_reducible refine le_drew ?_) | omega | (simp; done) | (simp; omega))))).mono ?_
    rintro e w4 ⟨v4, rfl, own4, x4, rfl⟩
    have K := hide own4
    clear own4
    go_wp2
    go_ret
    exact ⟨_, rfl, K.out.base (by first | omega | (have := ext_size w y; omega)), (ext_mk (by (repeat' (first | (with_reducible exact Below.refl _ _) | (with_reducible assumption) | (with_reducible refine below_ext _ ?_ ?_) | (with_reducible refine Below.alloc ?_ ?_ _) | (with_reducible refine Below.drew ?_) | (with_reducible refine below_drewN ?_ _) | (with_reducible refine le_drewN _ ?_) | (with_reducible refine Below.setCell ?_ ?_ _) | (with_reducible exact Nat.le_refl _) | (with_reducible refine le_ext _ ?_) | (with_reducible refine le_alloc _ ?_) | (with_reducible refine le_setCell _ _ ?_) | (with_reducible refine le_drew ?_) | omega | (simp; done) | (simp; omega)))))⟩
  · have h := eq_false_of_ne_true h
    have HE : Hid (hullL ps = []) := hide (if_neg (by rw [h]; simp))
    rw [h] at HC
    have HC2 := hide HC.out
    rw [HE.out]
    clear HC h hn hs
    go_enter Try.func81, Try.ntmps81
    go_wp2_with fail
    refine HC2.out.mono ?_
    rintro e w' ⟨rfl, hw'⟩; have hzy := ext_sz hw'; obtain ⟨y, rfl⟩ := hw'; (try simp at hzy)
    go_wp2
    go_ret
    exact ⟨_, rfl, OwnP.nil _ _, (ext_mk (by (repeat' (first | (with_reducible exact Below.refl _ _) | (with_reducible assumption) | (with_reducible refine below_ext _ ?_ ?_) | (with_reducible refine Below.alloc ?_ ?_ _) | (with_reducible refine Below.drew ?_) | (with_reducible refine below_drewN ?_ _) | (with_reducible refine le_drewN _ ?_) | (with_reducible refine Below.setCell ?_ ?_ _) | (with_reducible exact Nat.le_refl _) | (with_reducible refine le_ext _ ?_) | (with_reducible refine le_alloc _ ?_) | (with_reducible refine le_setCell _ _ ?_) | (with_reducible refine le_drew ?_) | omega | (simp; done) | (simp; omega)))))⟩
theorem vElt : Elt 41 65 1 24 (.slice none 0 0) := ⟨Try.underlying41, by kernel_rfl, rfl, by decide⟩
/-- append(v, rows...). -/
theorem app_vals {ops : Array Oper} {rest : List Oper} {o : Oper} {a : Act} {Q : Exit → Act → World → Prop} {w : World} (hgd : o.guard = none) (s x : Operand)
    (ho : o.op = .call { callee := .builtin .append, args := #[s, x], argTypes := #[41, 41] })
    (base : Nat) (v : Value) (us : List Value) (hs : a.eval s = v) (hown : OwnV w base v us) (A : Option Addr) (m c : Nat) (vs : List Value) (hx : a.eval x = .slice A m c) (hm : vs.length = m) (hsrc : Src w A vs) (hA : A = none → m = 0) (hsp : ∀ b o s, A = some ⟨b, o, s⟩ → s = none) (h1 : ∀ u ∈ vs, u.oneCell' = true)
    (hlen : us.length ≤ 2000000) (hlen2 : m ≤ 2000000) (hbase : base ≤ w.heap.size)
    (h : ∀ v' w', OwnV w' base v' (us ++ vs) → Below base w w' → (v'.ownBlock = v.ownBlock ∨ v'.ownBlock = some w.heap.size) → w.grownBy w' v.ownBlock → wpList Try.prog ops Q rest (a.put o.dst v') w') :
    wpList Try.prog ops Q (o :: rest) a w := by
  refine wpList_plain hgd fun K hK => ?_
  refine app_wp vElt s x ho base v us.length _ hs hown A m c vs hx (by rw [hm, Nat.mul_one]) hsrc hA hsp h1 (by unfold maxLen; omega) (by omega) hbase fun v' w' h2 h3 h4 => hK _ _ ?_
  exact h v' w' (by unfold OwnV; rw [List.length_append, hm]; exact h2) ((Below.refl _ _).grown h3 hbase hown.lt) h4 h3
theorem VR.one {w : World} {no : Option Nat} {vs : List Value} {zss : List (List Int)} (h : VR w no vs zss) : ∀ u ∈ vs, u.oneCell' = true := fun u hu => by
  obtain ⟨i, hi, rfl⟩ := List.getElem_of_mem hu
  obtain ⟨A, n, c, h1, _⟩ := h.row i hi
  rw [List.getElem?_eq_getElem hi] at h1
  injection h1 with h1
  rw [h1]; rfl
theorem VR.own {w : World} {no no' : Option Nat} {lo : Nat} {vs : List Value} {zss : List (List Int)} (h : VR w no vs zss) (hl : LowV lo vs) (hno : ∀ k, no' = some k → k < lo) : VR w no' vs zss := ⟨h.len, fun j hj => by
  obtain ⟨A, n, c, h1, h2, h3, h4, h5⟩ := h.row j hj
  exact ⟨A, n, c, h1, h2, h3, h4, fun g o s e => ⟨(h5 g o s e).1, fun e2 => by
    have := hl j A n c h1 g o s e
    have := hno g e2.symm
    omega⟩⟩⟩
theorem VR.drew {w w' : World} {no : Option Nat} {lo B nb c g p p' : Nat} {A : Option Addr} {vs : List Value} {zss : List (List Int)} (h : VR w no vs zss) (hl : LowV lo vs) (hd : Drew w w' B A nb c g p p') (hg : g < lo) : VR w' no vs zss := ⟨h.len, fun j hj => by
  obtain ⟨A, n, c, h1, h2, h3, h4, h5⟩ := h.row j hj
  refine ⟨A, n, c, h1, h2, h3, fun hz => ?_, fun g' o s e => ⟨Nat.lt_of_lt_of_le (h5 g' o s e).1 hd.size, (h5 g' o s e).2⟩⟩
  obtain ⟨b, o, hA, hB, hc⟩ := h4 hz
  have hb := hl j A n c h1 b o none hA
  exact ⟨b, o, hA, Nat.lt_of_lt_of_le hB hd.size, fun i hi => (World.cell?_of_block (hd.block b hB (by omega))).trans (hc i hi)⟩⟩
theorem OwnV.drew {w w' : World} {base B nb c g p p' : Nat} {A : Option Addr} {v : Value} {vs : List Value} (h : OwnV w base v vs) (hd : Drew w w' B A nb c g p p') (hg : g < base) : OwnV w' base v vs :=
  own_block h fun k hk => hd.block k (World.ownsRow.lt h k hk).2 (by have := h.lt k hk; omega)
theorem gz_set {zss : List (List Int)} {zs : List Int} {i j : Nat} (hi : i < zss.length) : gz (zss.set i zs) j = if j = i then zs else gz zss j := by
  unfold gz
  rw [List.getD_eq_getElem?_getD, List.getD_eq_getElem?_getD]
  by_cases e : j = i
  · subst e; rw [if_pos rfl, List.getElem?_set_self hi]; rfl
  · rw [if_neg e, List.getElem?_set_ne (fun h => e h.symm)]
/-- A row of such a slice is written. -/
theorem OwnV.setRow {w : World} {base g n c : Nat} {vs : List Value} {zss : List (List Int)} (h : OwnV w base (.slice (some ⟨g, 0, none⟩) n c) vs) (hv : VR w (some g) vs zss) {j : Nat} (hj : j < n) {b m : Nat} {zs : List Int} (hl : zs.length = m) (hi : IntsAt w w.heap.size (some ⟨b, 0, none⟩) zs) (hlt : b < w.heap.size) (hb : b ≠ g) : RowsAt (w.setCell ⟨g, j, none⟩ (.slice (some ⟨b, 0, none⟩) m m)) (some ⟨g, 0, none⟩) n (zss.set j zs) := by
  have HI := hi
  obtain ⟨v1, v2, v3, v4⟩ := h.vals
  have lz : zss.length = n := by rw [← hv.len]; exact v1
  refine ⟨by rw [List.length_set]; exact lz, fun h0 => ?_⟩
  obtain ⟨g', hA, hg, hbase, hc⟩ := v4 (by omega)
  injection hA with hA; injection hA with hA; subst hA
  have far : ∀ {A : Option Addr} {ys : List Int}, IntsAt w w.heap.size A ys → (∀ g' o s, A = some ⟨g', o, s⟩ → g' ≠ g) → IntsAt (w.setCell ⟨g, j, none⟩ (.slice (some ⟨b, 0, none⟩) m m)) (w.setCell ⟨g, j, none⟩ (.slice (some ⟨b, 0, none⟩) m m)).heap.size A ys := fun {A ys} hy hne h0 => by
    obtain ⟨b', o, e, hB, hcc⟩ := hy h0
    exact ⟨b', o, e, by simpa using hB, fun i hi => (World.cell?_of_block (Below.heap_setCell w _ _ b' (hne b' o none e))).trans (hcc i hi)⟩
  refine ⟨g, 0, vs.set j (.slice (some ⟨b, 0, none⟩) m m), some g, rfl, by simpa using hg, ⟨by rw [List.length_set, List.length_set]; exact hv.len, fun i hi => ?_⟩, fun i v hi => ?_⟩
  · rw [List.length_set] at hi
    rw [gz_set (by omega)]
    by_cases e : i = j
    · subst e
      rw [if_pos rfl]
      exact ⟨_, _, _, List.getElem?_set_self hi, hl, Nat.le_refl _, far HI (fun g' o s e => by injection e with e; injection e with e; omega), fun g' o s e => by injection e with e; injection e with e; exact ⟨by simp; omega, fun e2 => by injection e2 with e2; omega⟩⟩
    · rw [if_neg e]
      obtain ⟨A, n', c', h1, h2, h3, h4, h5⟩ := hv.row i hi
      exact ⟨A, n', c', by rw [List.getElem?_set_ne (fun h => e h.symm)]; exact h1, h2, h3, far h4 (fun g' o s e e2 => (h5 g' o s e).2 (by rw [e2])), fun g' o s e => ⟨by simpa using (h5 g' o s e).1, (h5 g' o s e).2⟩⟩
  · rw [Nat.zero_add]
    unfold OwnV at h
    rcases h.2 with ⟨hv', _⟩ | ⟨g2, cap, cur, hv', hg2, hgg, hnc, hcm, hsz, htk⟩
    · cases hv'
    · injection hv' with e1 e2 e3
      injection e1 with e1; injection e1 with e1
      subst e1
      have hj2 : j < cur.size := by omega
      have hcell : (w.setCell ⟨g, j, none⟩ (.slice (some ⟨b, 0, none⟩) m m)).cell? ⟨g, i, none⟩ = if i = j then some (.slice (some ⟨b, 0, none⟩) m m) else w.cell? ⟨g, i, none⟩ := by
        have e2 : (w.setCell ⟨g, j, none⟩ (.slice (some ⟨b, 0, none⟩) m m)).heap[g]? = some (.cells (cur.setIfInBounds j (.slice (some ⟨b, 0, none⟩) m m)) 65) := by simp [World.setCell, Array.getElem?_modify, hgg]
        rw [heap_cell e2, heap_cell hgg]
        by_cases e : i = j
        · subst e; simp [hj2]
        · rw [Array.getElem?_setIfInBounds_ne (by omega), if_neg e]
      rw [hcell]
      by_cases e : i = j
      · subst e
        rw [if_pos rfl]
        rw [List.getElem?_set_self (by omega)] at hi
        exact hi
      · rw [if_neg e]
        rw [List.getElem?_set_ne (fun h => e h.symm)] at hi
        exact hc i v hi
theorem own_far {w W : World} {base : Nat} {e : TypeId} {size : Nat} {v : Value} {n : Nat} {xs : List Value} {row : Option Nat} (h : w.ownsRow base e size v n xs) (hg : w.grownBy W row) (hr : ∀ k, v.ownBlock = some k → some k ≠ row) : W.ownsRow base e size v n xs :=
  own_block h fun k hk => hg.block k (World.ownsRow.lt h k hk).2 (hr k hk)
theorem VR.far {w W : World} {no row : Option Nat} {lo : Nat} {vs : List Value} {zss : List (List Int)} (h : VR w no vs zss) (hl : LowV lo vs) (hg : w.grownBy W row) (hr : ∀ k, row = some k → k < lo) : VR W no vs zss := ⟨h.len, fun j hj => by
  obtain ⟨A, n, c, h1, h2, h3, h4, h5⟩ := h.row j hj
  refine ⟨A, n, c, h1, h2, h3, fun hz => ?_, fun g o s e => ⟨Nat.lt_of_lt_of_le (h5 g o s e).1 hg.size, (h5 g o s e).2⟩⟩
  obtain ⟨b, o, hA, hB, hc⟩ := h4 hz
  have hb := hl j A n c h1 b o none hA
  exact ⟨b, o, hA, Nat.lt_of_lt_of_le hB hg.size, fun i hi => (World.cell?_of_block (hg.block b hB (fun e => by have := hr b e.symm; omega))).trans (hc i hi)⟩⟩
/-- A row's cells can be written. -/
theorem OwnV.cells {w : World} {base g n c : Nat} {vs : List Value} (h : OwnV w base (.slice (some ⟨g, 0, none⟩) n c) vs) : base ≤ g ∧ g < w.heap.size ∧ (∀ j, w.frozen? ⟨g, j, none⟩ = false) ∧ ∀ j, j < n → ∃ u, w.cell? ⟨g, j, none⟩ = some u := by
  unfold OwnV at h
  rcases h.2 with ⟨hv', _⟩ | ⟨g2, cap, cur, hv', hg2, hgg, hnc, hcm, hsz, htk⟩
  · cases hv'
  · injection hv' with e1 e2 e3
    injection e1 with e1; injection e1 with e1
    subst e1
    exact ⟨hg2, heap_lt hgg, fun j => heap_frozen hgg j, fun j hj => ⟨cur[j]'(by omega), by rw [heap_cell hgg]; exact Array.getElem?_eq_getElem (by omega)⟩⟩
end Go.Proofs.Ytelhidonhldjeaa
