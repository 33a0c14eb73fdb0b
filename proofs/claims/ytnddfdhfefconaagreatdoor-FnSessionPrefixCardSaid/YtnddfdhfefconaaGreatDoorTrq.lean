
/- The spanning tree of the program: lengths, the comparison, the forest. -/
/- The spanning tree of the program: the forest. -/
/- The spanning tree of the program: sorting the pairs, the tree. -/
/- The spanning tree of the program, its length, its answer to 'tree'. -/
/- The length of a tree, of the program; its answer to 'tree'. -/
/- The answer to 'tree': the program; the reference. -/
import Derived.Test.YtnddfdhfefconaaGreatDoorKdK
import Derived.Test.YtnddfdhfefconaaGreatDoorStbK
import Derived.Test.YtnddfdhfefconaaGreatDoorKruM
set_option linter.unusedVariables false
set_option linter.unusedSimpArgs false
namespace Go.Proofs.YtnddfdhfefconaaGreatDoor
open Go.RowKit

/-- The Manhattan distance; the length of an edge. -/
def mhP (p q : Pt) : Int := absI (p.x - q.x) + absI (p.y - q.y)
def lenE (ps : List Pt) (e : Pt) : Int := mhP (gp ps e.x.toNat) (gp ps e.y.toNat)
theorem absI_bd {x M : Int} (h : -M ≤ x ∧ x ≤ M) : 0 ≤ absI x ∧ absI x ≤ M := by unfold absI; split <;> omega
theorem mhP_bd {p q : Pt} (hp : (-1000 ≤ p.x ∧ p.x ≤ 1000) ∧ -1000 ≤ p.y ∧ p.y ≤ 1000) (hq : (-1000 ≤ q.x ∧ q.x ≤ 1000) ∧ -1000 ≤ q.y ∧ q.y ≤ 1000) : 0 ≤ mhP p q ∧ mhP p q ≤ 4000 := by
  have h1 := absI_bd (x := p.x - q.x) (M := 2000) (by omega)
  have h2 := absI_bd (x := p.y - q.y) (M := 2000) (by omega)
  unfold mhP; omega
theorem lenE_pq (ps : List Pt) (i k : Nat) : lenE ps (pq i k) = absI (pX ps i - pX ps k) + absI (pY ps i - pY ps k) := rfl
theorem lenE_bd {ps : List Pt} (h : ∀ p ∈ ps, (-1000 ≤ p.x ∧ p.x ≤ 1000) ∧ -1000 ≤ p.y ∧ p.y ≤ 1000) {i k : Nat} (hi : i < ps.length) (hk : k < ps.length) : 0 ≤ lenE ps (pq i k) ∧ lenE ps (pq i k) ≤ 4000 := mhP_bd (h _ (gp_mem hi)) (h _ (gp_mem hk))
set_option maxHeartbeats 1000000 in
theorem ilen_any (a b c d : Int) (w : World) (ha : -100000 ≤ a ∧ a ≤ 100000) (hb : -100000 ≤ b ∧ b ≤ 100000) (hc : -100000 ≤ c ∧ c ≤ 100000) (hd : -100000 ≤ d ∧ d ≤ 100000) :
    Calls Tryz.prog 152 #[.agg #[.int .i64 a, .int .i64 b], .agg #[.int .i64 c, .int .i64 d]] w fun e w' => e = .returned (.int .i64 (absI (a - c) + absI (b - d))) ∧ ∃ x, w' = ext w x := by
  have h1 := absI_bd (x := a - c) (M := 200000) (by omega)
  have h2 := absI_bd (x := b - d) (M := 200000) (by omega)
  have AB := hide (fun (n : Int) (W : World) (hb : -1000000000000000 ≤ n ∧ n ≤ 1000000000000000) => (iabs_any n W hb).mono (fun e w' h => (show e = .returned (.int .i64 (absI n)) ∧ ∃ x, w' = ext W x from ⟨h.1, by rw [← h.2]; exact ext_same _⟩)))
  go_enter Tryz.func152, Tryz.ntmps152
  go_wp2_with fail
  refine wp_region_ext (by kernel_rfl) (by kernel_rfl) ?_
  repeat (go_big_quiet_step ((first | (go_at_call 136; exact Calls.in_ext (AB.out _ _ (by omega))))))
  refine wpQuiet_nil ?_
  rintro _ hnq
  have hzq := ext_sz hnq
  obtain ⟨nq, rfl⟩ := hnq
  (try simp at hzq)
  go_wp2_with fail
  go_ret
  exact ⟨rfl, (ext_mk (by (repeat' (first | (with_reducible first | exact Below.refl _ _ | assumption | refine below_ext _ ?_ ?_ | refine Below.alloc ?_ ?_ _ | refine Below.drew ?_ | refine below_drewN ?_ _ | refine le_drewN _ ?_ | refine Below.setCell ?_ ?_ _ | exact Nat.le_refl _ | refine le_ext _ ?_ | refine le_alloc _ ?_ | refine le_setCell _ _ ?_ | refine le_drew ?_) | omega | (simp; done) | (simp; omega)))))⟩
set_option maxHeartbeats 1000000 in
theorem slen_any (a b c d : Int) (w : World) (ha : -100000 ≤ a ∧ a ≤ 100000) (hb : -100000 ≤ b ∧ b ≤ 100000) (hc : -100000 ≤ c ∧ c ≤ 100000) (hd : -100000 ≤ d ∧ d ≤ 100000) :
    Calls Tryz.prog 115 #[.agg #[.int .i64 a, .int .i64 b], .agg #[.int .i64 c, .int .i64 d]] w fun e w' => e = .returned (.int .i64 (absI (a - c) + absI (b - d))) ∧ ∃ x, w' = ext w x := by
  have h1 := absI_bd (x := a - c) (M := 200000) (by omega)
  have h2 := absI_bd (x := b - d) (M := 200000) (by omega)
  have AB := hide (fun (n : Int) (W : World) (hb : -1000000000000000 ≤ n ∧ n ≤ 1000000000000000) => (sabs_any n W hb).mono (fun e w' h => (show e = .returned (.int .i64 (absI n)) ∧ ∃ x, w' = ext W x from ⟨h.1, by rw [← h.2]; exact ext_same _⟩)))
  go_enter Tryz.func115, Tryz.ntmps115
  go_wp2_with fail
  refine wp_region_ext (by kernel_rfl) (by kernel_rfl) ?_
  repeat (go_big_quiet_step ((first | (go_at_call 120; exact Calls.in_ext (AB.out _ _ (by omega))))))
  refine wpQuiet_nil ?_
  rintro _ hnq
  have hzq := ext_sz hnq
  obtain ⟨nq, rfl⟩ := hnq
  (try simp at hzq)
  go_wp2_with fail
  go_ret
  exact ⟨rfl, (ext_mk (by (repeat' (first | (with_reducible first | exact Below.refl _ _ | assumption | refine below_ext _ ?_ ?_ | refine Below.alloc ?_ ?_ _ | refine Below.drew ?_ | refine below_drewN ?_ _ | refine le_drewN _ ?_ | refine Below.setCell ?_ ?_ _ | exact Nat.le_refl _ | refine le_ext _ ?_ | refine le_alloc _ ?_ | refine le_setCell _ _ ?_ | refine le_drew ?_) | omega | (simp; done) | (simp; omega)))))⟩
/-- A pair of indices. -/
def VPr (n : Nat) (p : Pt) : Prop := ∃ i k : Nat, i < n ∧ k < n ∧ p = pq i k
set_option maxRecDepth 20000 in
set_option maxHeartbeats 2000000 in
theorem stc_any (ps : List Pt) (A : Option Addr) (n c lb base : Nat) (w0 : World) (hn : ps.length = n) (hp : ∀ p ∈ ps, (-1000 ≤ p.x ∧ p.x ≤ 1000) ∧ -1000 ≤ p.y ∧ p.y ≤ 1000) (hlb : lb < base) (hbase : base ≤ w0.heap.size) (hc : w0.cell? ⟨lb, 0, none⟩ = some (.slice A n c)) (hs : PtsAt w0 base A ps) :
    CmpB 155 #[.pointer (some ⟨lb, 0, none⟩)] (lenE ps) (VPr n) base w0 := by
  intro W p q hW hp1 hq1
  obtain ⟨i, k, hi, hk, e1⟩ := hp1
  obtain ⟨j, l, hj, hl, e2⟩ := hq1
  subst e1 e2
  have cl : W.cell? ⟨lb, 0, none⟩ = some (.slice A n c) := (hW.cell (p := ⟨lb, 0, none⟩) hlb).trans hc
  obtain ⟨b, o, rfl, hb, hcs⟩ := hs (by omega)
  have z := hW.size
  have lw : lb < W.heap.size := by omega
  have bw : b < W.heap.size := by omega
  have CS : ∀ i, i < n → W.cell? ⟨b, o + i * 2, none⟩ = some (.int .i64 (pX ps i)) ∧ W.cell? ⟨b, o + i * 2 + 1, none⟩ = some (.int .i64 (pY ps i)) := fun i hi => ⟨(hW.cell (p := ⟨b, o + i * 2, none⟩) hb).trans (hcs i (by omega)).1, (hW.cell (p := ⟨b, o + i * 2 + 1, none⟩) hb).trans (hcs i (by omega)).2⟩
  obtain ⟨x1, y1⟩ := CS i hi
  obtain ⟨x2, y2⟩ := CS k hk
  obtain ⟨x3, y3⟩ := CS j hj
  obtain ⟨x4, y4⟩ := CS l hl
  have bd : ∀ i, i < n → (-100000 ≤ (pX ps i) ∧ (pX ps i) ≤ 100000) ∧ -100000 ≤ (pY ps i) ∧ (pY ps i) ≤ 100000 := fun i hi => by
    have := hp _ (gp_mem (show i < ps.length by omega))
    unfold pX pY; omega
  have b1 := bd i hi
  have b2 := bd k hk
  have b3 := bd j hj
  have b4 := bd l hl
  obtain ⟨⟨b11, b12⟩, b13, b14⟩ := b1
  obtain ⟨⟨b21, b22⟩, b23, b24⟩ := b2
  obtain ⟨⟨b31, b32⟩, b33, b34⟩ := b3
  obtain ⟨⟨b41, b42⟩, b43, b44⟩ := b4
  have LE := hide (fun (a b c d : Int) W ha hb hc hd => ilen_any a b c d W ha hb hc hd)
  have RV : Hid (sgn (lenE ps (pq i k) - lenE ps (pq j l)) = sgn ((absI (pX ps i - pX ps k) + absI (pY ps i - pY ps k)) - (absI (pX ps j - pX ps l) + absI (pY ps j - pY ps l)))) := hide rfl
  rw [RV.out]
  show Calls Tryz.prog 155 #[.agg #[.int .i64 (i : Int), .int .i64 (k : Int)], .agg #[.int .i64 (j : Int), .int .i64 (l : Int)], .pointer (some ⟨lb, 0, none⟩)] W _
  clear RV
  have q1 : (i : Int) < (n : Int) := by omega
  have q2 : (k : Int) < (n : Int) := by omega
  have q3 : (j : Int) < (n : Int) := by omega
  have q4 : (l : Int) < (n : Int) := by omega
  have q5 : (0 : Int) ≤ (i : Int) := by omega
  have q6 : (0 : Int) ≤ (k : Int) := by omega
  have q7 : (0 : Int) ≤ (j : Int) := by omega
  have q8 : (0 : Int) ≤ (l : Int) := by omega
  clear CS hcs hs hc hn hp bd hW
  generalize pX ps i = X1 at *
  generalize pY ps i = Y1 at *
  generalize pX ps k = X2 at *
  generalize pY ps k = Y2 at *
  generalize pX ps j = X3 at *
  generalize pY ps j = Y3 at *
  generalize pX ps l = X4 at *
  generalize pY ps l = Y4 at *
  go_enter Tryz.func155, Tryz.ntmps155
  go_wp2_with fail
  refine wp_region_ext (by kernel_rfl) (by kernel_rfl) ?_
  repeat (go_big_quiet_step ((first | (go_at_call 152; exact Calls.in_ext (LE.out _ _ _ _ _ (by omega) (by omega) (by omega) (by omega))) | (go_at_call 148; exact Calls.in_ext ((Comparei_any _ _ _).mono (fun e w' h => ⟨h.1, by rw [← h.2]; exact ext_same _⟩))))))
  refine wpQuiet_nil ?_
  rintro _ hnq
  have hzq := ext_sz hnq
  obtain ⟨nq, rfl⟩ := hnq
  (try simp at hzq)
  go_wp2_with fail
  go_ret
  exact ⟨rfl, (ext_mk (by (repeat' (first | (with_reducible first | exact Below.refl _ _ | assumption | refine below_ext _ ?_ ?_ | refine Below.alloc ?_ ?_ _ | refine Below.drew ?_ | refine below_drewN ?_ _ | refine le_drewN _ ?_ | refine Below.setCell ?_ ?_ _ | exact Nat.le_refl _ | refine le_ext _ ?_ | refine le_alloc _ ?_ | refine le_setCell _ _ ?_ | refine le_drew ?_) | omega | (simp; done) | (simp; omega)))))⟩
end Go.Proofs.YtnddfdhfefconaaGreatDoor
namespace Go.Proofs.YtnddfdhfefconaaGreatDoor
open Go.RowKit

/-- A row of n numbers of the call's own that reads as f. -/
def FoR (w : World) (base g n c : Nat) (f : Nat → Nat) : Prop := ∃ zs : List Int, zs.length = n ∧ (∀ i, i < n → gi zs i = ((f i : Nat) : Int)) ∧ Own w base (.slice (some ⟨g, 0, none⟩) n c) zs
theorem FoR.below {w W : World} {base g n c : Nat} {f : Nat → Nat} (h : FoR w base g n c f) (hb : Below w.heap.size w W) : FoR W base g n c f := by
  obtain ⟨zs, h1, h2, h3⟩ := h
  exact ⟨zs, h1, h2, h3.below hb⟩
theorem FoR.block {w W : World} {base g n c : Nat} {f : Nat → Nat} (h : FoR w base g n c f) (hb : W.heap[g]? = w.heap[g]?) : FoR W base g n c f := by
  obtain ⟨zs, h1, h2, h3⟩ := h
  exact ⟨zs, h1, h2, own_block h3 (fun k hk => by rw [← Option.some.inj hk]; exact hb)⟩
theorem FoR.lt {w : World} {base g n c : Nat} {f : Nat → Nat} (h : FoR w base g n c f) : base ≤ g ∧ g < w.heap.size := by
  obtain ⟨zs, h1, h2, h3⟩ := h
  exact ⟨h3.lt _ rfl, h3.lt2 _ rfl⟩
theorem FoR.cell {w : World} {base g n c : Nat} {f : Nat → Nat} (h : FoR w base g n c f) {i : Nat} (hi : i < n) : w.cell? ⟨g, i, none⟩ = some (.int .i64 ((f i : Nat) : Int)) ∧ w.frozen? ⟨g, i, none⟩ = false := by
  obtain ⟨zs, h1, h2, h3⟩ := h
  obtain ⟨gb, hA, _, _, hf, hc⟩ := h3.head (by omega)
  injection hA with hA; injection hA with hA
  subst hA
  exact ⟨by rw [hc i hi, h2 i hi], hf i⟩
theorem FoR.set {w : World} {base g n c : Nat} {f : Nat → Nat} (h : FoR w base g n c f) {a : Nat} (ha : a < n) (b : Nat) : FoR (w.setCell ⟨g, a, none⟩ (.int .i64 ((b : Nat) : Int))) base g n c (fun i => if i = a then b else f i) := by
  obtain ⟨zs, h1, h2, h3⟩ := h
  refine ⟨zs.set a ((b : Nat) : Int), by rw [List.length_set, h1], fun i hi => ?_, h3.set ha _⟩
  show (zs.set a _).getD i 0 = (((if i = a then b else f i : Nat)) : Int)
  rw [List.getD_eq_getElem?_getD, List.getElem?_set]
  by_cases e : a = i
  · subst e
    rw [if_pos rfl, if_pos (by omega), if_pos rfl]; rfl
  · rw [if_neg e, if_neg (fun z => e z.symm), ← h2 i hi]
    unfold gi; rw [List.getD_eq_getElem?_getD]
theorem FoR.congr {w : World} {base g n c : Nat} {f f' : Nat → Nat} (h : FoR w base g n c f) (hf : ∀ i, i < n → f i = f' i) : FoR w base g n c f' := by
  obtain ⟨zs, h1, h2, h3⟩ := h
  exact ⟨zs, h1, fun i hi => by rw [h2 i hi, hf i hi], h3⟩
theorem grown_set {w w' : World} {g : Nat} (h : w.grownBy w' (some g)) (j : Nat) (v : Value) : w.grownBy (w'.setCell ⟨g, j, none⟩ v) (some g) :=
  ⟨h.os, h.tape, h.output, by simpa using h.size, fun k hk hne => (Below.heap_setCell w' _ _ k (fun e => hne (by rw [e]))).trans (h.block k hk hne)⟩
set_option maxHeartbeats 1000000 in
theorem root_any (f rt h : Nat → Nat) (g n c base i : Nat) (w : World) (hm : n ≤ 1000) (hi : i < n) (hF : Fst n f rt h) (hr : FoR w base g n c f) :
    Calls Tryz.prog 198 #[.slice (some ⟨g, 0, none⟩) n c, .int .i64 i] w fun e w' => e = .returned (.int .i64 ((rt i : Nat) : Int)) ∧ w = w' := by
  have CE := hide (fun j (hj : j < n) => (hr.cell hj).1)
  have HF := hide hF
  clear hr hF
  go_enter Tryz.func198, Tryz.ntmps198
  go_wp2_with fail
  go_loopw [1] (fun u1 wr => ∃ j : Nat, j < n ∧ u1 = .int .i64 j ∧ Hid (rt j = rt i) ∧ wr = w) (fun u1 _ => h (intOf u1).toNat)
  case atStart => exact ⟨i, hi, rfl, hide rfl, rfl⟩
  case round =>
    obtain ⟨j, hj, rfl, HR, rfl⟩ := hrel
    have cj := CE.out j hj
    have q1 : (0 : Int) ≤ (j : Int) := by omega
    have q2 : (j : Int) < (n : Int) := by omega
    have lj := HF.out.lt j hj
    have up := hide ((HF.out.up j hj).trans HR.out)
    have tp := hide (HF.out.top j hj)
    have go := hide (HF.out.go j hj)
    clear CE HF
    obtain ⟨k, hk⟩ : ∃ k, k = f j := ⟨_, rfl⟩
    rw [← hk] at cj lj up tp go
    clear hk
    by_cases e : k = j
    · subst e
      have ne : ((k : Int) != (k : Int)) = false := by simp
      have RV := hide (HR.out.symm.trans (tp.out rfl))
      clear up tp go HR
      go_wp2_with fail
      go_ret
      exact ⟨by rw [RV.out]; rfl, rfl⟩
    · have ne : ((k : Int) != (j : Int)) = true := by rw [bne_iff_ne]; omega
      have gg := go.out e
      clear tp go HR
      go_wp2_with fail
      exact ⟨⟨k, lj, rfl, up, trivial⟩, by simpa [intOf] using gg⟩
set_option maxRecDepth 20000 in
set_option maxHeartbeats 2000000 in
theorem fjoin_any (f rt h : Nat → Nat) (g n c base x y : Nat) (w : World) (hm : n ≤ 1000) (hx : x < n) (hy : y < n) (hF : Fst n f rt h) (hr : FoR w base g n c f) :
    Calls Tryz.prog 157 #[.slice (some ⟨g, 0, none⟩) n c, .agg #[.int .i64 (x : Int), .int .i64 (y : Int)]] w fun e w' => e = .returned (.bool (!decide (rt x = rt y))) ∧ FoR w' base g n c (fun i => if i = rt x then rt y else f i) ∧ w.grownBy w' (some g) := by
  have ha : rt x < n := hF.rep.lt x hx
  have hb : rt y < n := hF.rep.lt y hy
  have lg := hr.lt
  have RO := hide (fun (i : Nat) (W : World) (hi : i < n) (hW : Below w.heap.size w W) => (root_any f rt h g n c base i W hm hi hF (hr.below hW)).mono (fun e w' hh => (show e = .returned (.int .i64 ((rt i : Nat) : Int)) ∧ ∃ x, w' = ext W x from ⟨hh.1, by rw [← hh.2]; exact ext_same _⟩)))
  have HR := hide hr
  obtain ⟨ca, fa⟩ := hr.cell ha
  have q1 : (0 : Int) ≤ ((rt x : Nat) : Int) := by omega
  have q2 : ((rt x : Nat) : Int) < (n : Int) := by omega
  have lgw := lg.2
  have RV : Hid (∀ z : Bool, z = (((rt x : Nat) : Int) != ((rt y : Nat) : Int)) → z = !decide (rt x = rt y)) := hide (fun z hz => by
    rw [hz]
    by_cases e : rt x = rt y
    · rw [e]; simp
    · have : ((rt x : Nat) : Int) ≠ ((rt y : Nat) : Int) := by omega
      simp [e, this])
  clear hF hr
  go_enter Tryz.func157, Tryz.ntmps157
  go_wp2_with fail
  refine wp_region_ext (by kernel_rfl) (by kernel_rfl) ?_
  repeat (go_big_quiet_step ((first | (go_at_call 198; exact Calls.in_ext (RO.out _ _ (by assumption) (by (repeat' (first | (with_reducible first | exact Below.refl _ _ | assumption | refine below_ext _ ?_ ?_ | refine Below.alloc ?_ ?_ _ | refine Below.drew ?_ | refine below_drewN ?_ _ | refine le_drewN _ ?_ | refine Below.setCell ?_ ?_ _ | exact Nat.le_refl _ | refine le_ext _ ?_ | refine le_alloc _ ?_ | refine le_setCell _ _ ?_ | refine le_drew ?_) | omega | (simp; done) | (simp; omega)))))))))
  refine wpQuiet_nil ?_
  rintro _ hnq
  have hzq := ext_sz hnq
  obtain ⟨nq, rfl⟩ := hnq
  (try simp at hzq)
  have hb9 : Below w.heap.size w (ext (w.alloc (.cells #[.int .i64 (x : Int), .int .i64 (y : Int)] 120)) nq) := (by (repeat' (first | (with_reducible first | exact Below.refl _ _ | assumption | refine below_ext _ ?_ ?_ | refine Below.alloc ?_ ?_ _ | refine Below.drew ?_ | refine below_drewN ?_ _ | refine le_drewN _ ?_ | refine Below.setCell ?_ ?_ _ | exact Nat.le_refl _ | refine le_ext _ ?_ | refine le_alloc _ ?_ | refine le_setCell _ _ ?_ | refine le_drew ?_) | omega | (simp; done) | (simp; omega))))
  have H9 := hide (HR.out.below hb9)
  obtain ⟨c9, f9⟩ := H9.out.cell ha
  have G9 := hide (bel_grown hb9 (some g))
  generalize ext (w.alloc (.cells #[.int .i64 (x : Int), .int .i64 (y : Int)] 120)) nq = w9 at *
  clear ca fa RO HR
  go_wp2_with fail
  go_ret
  exact ⟨congrArg (fun z => Ending.returned (.bool z)) (RV.out _ rfl), H9.out.set ha _, grown_set G9.out _ _⟩
theorem frElt : Elt 148 3 1 8 (.int .i64 0) := ⟨Tryz.underlying148, by kernel_rfl, rfl, by decide⟩
/-- append(f, y). -/
theorem app_oneF {ops : Array Oper} {rest : List Oper} {o : Oper} {a : Act} {Q : Exit → Act → World → Prop} {w : World} (hgd : o.guard = none) (s x : Operand)
    (ho : o.op = .call { callee := .builtin .append, args := #[s, x], argTypes := #[148, 148] })
    (base : Nat) (v : Value) (zs : List Int) (hs : a.eval s = v) (hown : Own w base v zs) (y : Int) (b c : Nat) (hx : a.eval x = .slice (some ⟨b, 0, none⟩) 1 c) (hc : w.cell? ⟨b, 0, none⟩ = some (.int .i64 y))
    (hlen : zs.length ≤ 2000000) (hbase : base ≤ w.heap.size)
    (h : ∀ v' w', Own w' base v' (zs ++ [y]) → Below base w w' → (v'.ownBlock = v.ownBlock ∨ v'.ownBlock = some w.heap.size) → w.grownBy w' v.ownBlock → wpList Tryz.prog ops Q rest (a.put o.dst v') w') :
    wpList Tryz.prog ops Q (o :: rest) a w := by
  have hq : IntsAt w (b + 1) (some ⟨b, 0, none⟩) [y] := fun _ => ⟨b, 0, rfl, Nat.lt_succ_self _, fun i hi => by
    have : i = 0 := by simp at hi; omega
    subst this
    simpa [gi] using hc⟩
  refine wpList_plain hgd fun K hK => ?_
  refine app_wp frElt s x ho base v zs.length _ hs hown (some ⟨b, 0, none⟩) 1 c ([y].map (Value.int .i64)) hx rfl hq.src (fun h => by cases h) (fun b o s h => by injection h with h; injection h with _ _ h3; exact h3.symm) (ints_one _) (by unfold maxLen; omega) (by omega) hbase fun v' w' h2 h3 h4 => ?_
  exact hK _ _ (h v' w' (by unfold Own; rw [List.length_append, List.map_append]; exact h2) ((Below.refl _ _).grown h3 hbase hown.lt) h4 h3)
set_option maxHeartbeats 2000000 in
theorem forestOf_any (n : Nat) (w : World) (h3 : n ≤ 100) :
    Calls Tryz.prog 156 #[.int .i64 n] w fun e w' => ∃ v, e = .returned v ∧ Own w' w.heap.size v (zI (List.range n)) ∧ ∃ x, w' = ext w x := by
  have NXT := hide zI_rng
  obtain ⟨i0, hi0, hz0, hz1, hz2⟩ := info_parts frElt.inf
  have IP := hide (And.intro hi0 (And.intro hz0 (And.intro hz1 hz2)))
  clear hi0 hz0 hz1 hz2
  have mk1 : i0.bytes * n ≤ 281474976710656 := by rw [IP.out.2.2.2]; omega
  have mk2 : n ≤ maxLen := by unfold maxLen; omega
  go_enter Tryz.func156, Tryz.ntmps156
  go_wp2_with (refine wpList_make_own _ rfl (.const (.int .i64 0)) (.tmp 5) 148 rfl w.heap.size 3 i0 _ 1 frElt.und IP.out.1 IP.out.2.1 IP.out.2.2.1 .i64 .i64 _ n rfl rfl rfl mk1 mk2 (Nat.le_refl _) ?_; intro w1 hown1 hgr1; have O1 := hide (show Own w1 w.heap.size _ [] from hown1); have B1 := hide ((Below.refl _ _).grown hgr1 (Nat.le_refl _) (fun k hk => by cases hk)); clear hown1 hgr1)
  go_loopw [3, 8] (fun u3 u8 wr => ∃ (k : Nat), k ≤ n ∧ u8 = .int .i64 k ∧ Own wr w.heap.size u3 (zI (List.range k)) ∧ Below w.heap.size w wr) (fun _ u8 _ => n - (intOf u8).toNat)
  case atStart => exact ⟨0, Nat.zero_le _, rfl, O1.out.below (by (repeat' (first | (with_reducible first | exact Below.refl _ _ | assumption | refine below_ext _ ?_ ?_ | refine Below.alloc ?_ ?_ _ | refine Below.drew ?_ | refine below_drewN ?_ _ | refine le_drewN _ ?_ | refine Below.setCell ?_ ?_ _ | exact Nat.le_refl _ | refine le_ext _ ?_ | refine le_alloc _ ?_ | refine le_setCell _ _ ?_ | refine le_drew ?_) | omega | (simp; done) | (simp; omega)))), Below.trans B1.out (by (repeat' (first | (with_reducible first | exact Below.refl _ _ | assumption | refine below_ext _ ?_ ?_ | refine Below.alloc ?_ ?_ _ | refine Below.drew ?_ | refine below_drewN ?_ _ | refine le_drewN _ ?_ | refine Below.setCell ?_ ?_ _ | exact Nat.le_refl _ | refine le_ext _ ?_ | refine le_alloc _ ?_ | refine le_setCell _ _ ?_ | refine le_drew ?_) | omega | (simp; done) | (simp; omega))))⟩
  case round =>
    obtain ⟨k, hk, rfl, hown, hbel⟩ := hrel
    obtain ⟨A0, n0, c0, rfl⟩ := own_slice hown
    have hsz := hbel.size
    have OWN := hide hown
    clear hown O1 B1
    by_cases hlt : k < n
    · have NL : (zI (List.range k)).length ≤ 2000000 := by rw [zI_len, List.length_range]; omega
      have NX := hide (NXT.out k)
      clear NXT
      go_wp2_with (at_builtin; refine app_oneF rfl _ _ rfl w.heap.size (.slice A0 n0 c0) _ rfl (OWN.out.below (by (repeat' (first | (with_reducible first | exact Below.refl _ _ | assumption | refine below_ext _ ?_ ?_ | refine Below.alloc ?_ ?_ _ | refine Below.drew ?_ | refine below_drewN ?_ _ | refine le_drewN _ ?_ | refine Below.setCell ?_ ?_ _ | exact Nat.le_refl _ | refine le_ext _ ?_ | refine le_alloc _ ?_ | refine le_setCell _ _ ?_ | refine le_drew ?_) | omega | (simp; done) | (simp; omega))))) (k : Int) _ _ rfl (by simp [go_sem]) NL (by simp; omega) ?_; intro v7 w7 hown7 hb7 hat7 hgr7; obtain ⟨A7, n7, c7, rfl⟩ := own_slice hown7; have O7 := hide hown7; have B7 := hide hb7; clear hown7 hb7 hat7 hgr7)
      exact ⟨⟨k + 1, by omega, by go_num, by rw [NX.out]; exact O7.out, Below.trans (Below.trans hbel (by (repeat' (first | (with_reducible first | exact Below.refl _ _ | assumption | refine below_ext _ ?_ ?_ | refine Below.alloc ?_ ?_ _ | refine Below.drew ?_ | refine below_drewN ?_ _ | refine le_drewN _ ?_ | refine Below.setCell ?_ ?_ _ | exact Nat.le_refl _ | refine le_ext _ ?_ | refine le_alloc _ ?_ | refine le_setCell _ _ ?_ | refine le_drew ?_) | omega | (simp; done) | (simp; omega))))) B7.out⟩, by simp [intOf]; omega⟩
    · have ek : k = n := by omega
      have O2 : Hid (Own wr w.heap.size (.slice A0 n0 c0) (zI (List.range n))) := hide (by rw [← ek]; exact OWN.out)
      clear ek OWN NXT
      go_wp2_with fail
      go_ret
      exact ⟨_, rfl, O2.out, ext_mk hbel⟩
end Go.Proofs.YtnddfdhfefconaaGreatDoor
namespace Go.Proofs.YtnddfdhfefconaaGreatDoor
open Go.RowKit

/-! ### the pairs, sorted -/
theorem rowPr_asc (a b : Nat) : (rowPr a b).Pairwise ltP := by
  unfold rowPr
  rw [List.pairwise_map]
  refine List.pairwise_lt_range.imp ?_
  intro i k h
  exact .inr ⟨rfl, by simp only; omega⟩
theorem prsTo_asc (n : Nat) : ∀ a, (prsTo n a).Pairwise ltP
  | 0 => List.Pairwise.nil
  | a + 1 => by
    unfold prsTo
    rw [List.pairwise_append]
    refine ⟨prsTo_asc n a, rowPr_asc a n, fun p hp q hq => ?_⟩
    obtain ⟨i, k, h1, h2, h3, rfl⟩ := prsTo_mem.1 hp
    obtain ⟨j, h4, h5, rfl⟩ := rowPr_mem.1 hq
    exact .inl (by simp only; omega)
theorem prL_mem {n : Nat} {d : Pt} : d ∈ prL n ↔ ∃ i k : Nat, i < k ∧ k < n ∧ d = pq i k := by
  unfold prL
  rw [prsTo_mem]
  exact ⟨fun ⟨i, k, _, h2, h3, e⟩ => ⟨i, k, h2, h3, e⟩, fun ⟨i, k, h2, h3, e⟩ => ⟨i, k, by omega, h2, h3, e⟩⟩
theorem prL_asc (n : Nat) : Asc2 0 (prL n).length (gp (prL n)) := fun i j _ h1 h2 => by
  rw [gp_lt h2, gp_lt (by omega)]
  exact List.pairwise_iff_getElem.1 (prsTo_asc n n) i j (by unfold prL at h2; omega) h2 h1
theorem prsTo_cnt (n : Nat) : ∀ a, a ≤ n → (prsTo n a).length * 2 + a * (a + 1) = 2 * (a * n)
  | 0, _ => by simp [prsTo]
  | a + 1, h => by
    have ih := prsTo_cnt n a (by omega)
    unfold prsTo
    rw [List.length_append, rowPr_len]
    simp only [Nat.add_mul, Nat.mul_add, Nat.one_mul, Nat.mul_one] at ih ⊢
    omega
theorem prL_few (n : Nat) (h : n < 21) : (prL n).length ≤ 190 := by
  have h1 := prsTo_cnt n n (Nat.le_refl _)
  have h2 : n * n ≤ 20 * n := Nat.mul_le_mul_right n (by omega)
  unfold prL
  simp only [Nat.mul_add, Nat.mul_one] at h1
  omega
theorem prL_val {n : Nat} : AllV (VPr n) (prL n).length (gp (prL n)) := fun i hi => by
  obtain ⟨a, b, h1, h2, e⟩ := prL_mem.1 (gp_mem hi)
  exact ⟨a, b, by omega, h2, e⟩
theorem SrtL.nodup {K : Pt → Int} {n : Nat} {L : List Pt} (h : SrtL K n L) : L.Nodup := List.Pairwise.imp (S := (· ≠ ·)) (fun {a b} hab e => by subst e; exact ltS_as hab hab) h.srt
theorem SrtL.uniq {K : Pt → Int} {n : Nat} {L M : List Pt} (h : SrtL K n L) (g : SrtL K n M) : L = M :=
  List.Perm.eq_of_pairwise (le := ltS K) (fun a b _ _ h1 h2 => absurd h2 (ltS_as h1)) h.srt g.srt ((List.perm_ext_iff_of_nodup h.nodup g.nodup).2 fun p => (h.mem p).trans (g.mem p).symm)
theorem srtL_of {K : Pt → Int} {n : Nat} {L : List Pt} (hl : L.length = (prL n).length) (hm : Mv 0 (prL n).length (gp (prL n)) (gp L)) (hs : Srt K 0 (prL n).length (gp L)) : SrtL K n L := by
  refine ⟨List.pairwise_iff_getElem.2 fun i j hi hj hij => ?_, fun p => ?_⟩
  · have := hs i j (Nat.zero_le _) hij (by omega)
    rwa [gp_lt hi, gp_lt hj] at this
  · rw [← prL_mem]
    constructor
    · intro hp
      obtain ⟨i, hi, rfl⟩ := gp_of_mem hp
      obtain ⟨j, _, h2, e⟩ := hm.at (Nat.zero_le i) (by omega)
      rw [e]; exact gp_mem h2
    · intro hp
      obtain ⟨j, hj, rfl⟩ := gp_of_mem hp
      obtain ⟨i, _, h2, e⟩ := hm.from (Nat.zero_le j) hj
      rw [← e]; exact gp_mem (by omega)
instance (K : Pt → Int) (p q : Pt) : Decidable (ltS K p q) := by unfold ltS; infer_instance
theorem ltS_tri (K : Pt → Int) (p q : Pt) : ltS K p q ∨ p = q ∨ ltS K q p := by
  rcases ltP_tri p q with h | h | h
  · by_cases e : K p ≤ K q
    · exact .inl (ltS_of h e)
    · exact .inr (.inr (.inl (by omega)))
  · exact .inr (.inl h)
  · by_cases e : K q ≤ K p
    · exact .inr (.inr (ltS_of h e))
    · exact .inl (.inl (by omega))
/-- All pairs, the shortest first. -/
def srtE (ps : List Pt) : List Pt := (prL ps.length).mergeSort fun p q => !decide (ltS (lenE ps) q p)
theorem srtE_ok (ps : List Pt) : SrtL (lenE ps) ps.length (srtE ps) := by
  have hp := List.mergeSort_perm (prL ps.length) fun p q => !decide (ltS (lenE ps) q p)
  have hnd : (prL ps.length).Nodup := List.Pairwise.imp (S := (· ≠ ·)) (fun {a b} h e => by subst e; exact ltP_irr _ h) (prsTo_asc ps.length ps.length)
  have hs : (srtE ps).Pairwise fun p q => (!decide (ltS (lenE ps) q p)) = true := by
    apply List.pairwise_mergeSort
    · intro a b c h1 h2
      simp only [Bool.not_eq_true', decide_eq_false_iff_not] at *
      intro h3
      rcases ltS_tri (lenE ps) a b with h | h | h
      · exact h2 (ltS_tr h3 h)
      · rw [h] at h3; exact h2 h3
      · exact h1 h
    · intro a b
      simp only [Bool.or_eq_true, Bool.not_eq_true', decide_eq_false_iff_not]
      by_cases h : ltS (lenE ps) b a
      · exact .inr (ltS_as h)
      · exact .inl h
  refine ⟨?_, fun p => ?_⟩
  · have hn2 : (srtE ps).Nodup := (List.Perm.nodup_iff hp).2 hnd
    refine (hs.and hn2).imp ?_
    rintro a b ⟨h1, h2⟩
    simp only [Bool.not_eq_true', decide_eq_false_iff_not] at h1
    rcases ltS_tri (lenE ps) a b with h | h | h
    · exact h
    · exact absurd h h2
    · exact absurd h h1
  · exact hp.mem_iff.trans prL_mem
/-- The tree's edges; their lengths' sum. -/
def treL (ps : List Pt) : List Pt := krS id (srtE ps)
def totL (ps : List Pt) : List Pt → Int
  | [] => 0
  | e :: L => lenE ps e + totL ps L
theorem treL_few {ps : List Pt} (h : 0 < ps.length) : (treL ps).length + 1 ≤ ps.length := by
  have := krS_few h (srtE ps) id (Rep.id _) (srtE_ok ps).lt
  rwa [fix_id] at this
theorem treL_pr {ps : List Pt} {e : Pt} (h : e ∈ treL ps) : ∃ i k : Nat, i < k ∧ k < ps.length ∧ e = pq i k := ((srtE_ok ps).mem e).1 (krS_sub _ _ h)
/-! ### the program -/
set_option maxHeartbeats 1000000 in
theorem ins0_any (A : Option Addr) (c : Nat) (fv : Value) (w : World) :
    Calls Tryz.prog 234 #[.slice A 0 c, .int .i64 0, .int .i64 0, fv] w fun e w' => e = .returned (.tuple #[]) ∧ w = w' := by
  go_enter Tryz.func234, Tryz.ntmps234
  go_wp2_with fail
  go_loopw [8] (fun u8 wr => u8 = .int .i64 1 ∧ wr = w) (fun u8 _ => 0)
  case atStart => exact ⟨rfl, rfl⟩
  case round =>
    obtain ⟨rfl, rfl⟩ := hrel
    go_wp2_with fail
    go_end0
    exact ⟨rfl, rfl⟩
set_option maxHeartbeats 1000000 in
theorem stable0_any (A : Option Addr) (c : Nat) (fv : Value) (w : World) :
    Calls Tryz.prog 197 #[.slice A 0 c, .int .i64 0, fv] w fun e w' => e = .returned (.tuple #[]) ∧ w = w' := by
  have I0 := hide ins0_any
  go_enter Tryz.func197, Tryz.ntmps197
  go_wp2_with fail
  go_loopw [7, 8] (fun u7 u8 wr => u7 = .int .i64 0 ∧ u8 = .int .i64 20 ∧ wr = w) (fun _ _ _ => 0)
  case atStart => exact ⟨rfl, rfl, rfl⟩
  case round =>
    obtain ⟨rfl, rfl, rfl⟩ := hrel
    go_wp2_with fail
    refine (I0.out _ _ _ _).mono ?_
    rintro e w2 ⟨rfl, rfl⟩
    go_wp2_with fail
    go_loopw [6] (fun u6 wr2 => u6 = .int .i64 20 ∧ wr2 = wr) (fun u6 _ => 0)
    case atStart => exact ⟨rfl, rfl⟩
    case round =>
      obtain ⟨rfl, rfl⟩ := hrel
      go_wp2_with fail
      go_end0
      exact ⟨rfl, rfl⟩
set_option maxHeartbeats 1000000 in
theorem sort0_any (A : Option Addr) (c : Nat) (fv : Value) (w : World) :
    Calls Tryz.prog 154 #[.slice A 0 c, fv] w fun e w' => e = .returned (.tuple #[]) ∧ w = w' := by
  have S0 := hide stable0_any
  go_enter Tryz.func154, Tryz.ntmps154
  go_wp2_with fail
  refine (S0.out _ _ _ _).mono ?_
  rintro e w2 ⟨rfl, rfl⟩
  go_wp2_with fail
  go_end0
  exact ⟨rfl, rfl⟩
theorem sortP_any (g : Nat) (lb : Array Value) (ps : List Pt) (w0 : World) (A : Option Addr) (N c base n : Nat) (w : World) (hn : ps.length = n) (eg : ∀ args w, (callFunc g args).run Tryz.prog w = .ok (.enter g args) w) (hC : CmpB g lb (lenE ps) (VPr n) base w0) (hN : (prL n).length = N) (hn2 : n ≤ 20)
    (hown : OwnR w base (.slice A N c) (prL n)) (h0 : Below base w0 w) (hb : base ≤ w.heap.size) :
    Calls Tryz.prog 154 #[.slice A N c, .func (.func g) #[] lb] w fun e w' => e = .returned (.tuple #[]) ∧ OwnR w' base (.slice A N c) (srtE ps) ∧ Below base w w' := by
  subst hn
  by_cases h : N = 0
  · subst h
    refine (sort0_any A c _ w).mono ?_
    rintro e w' ⟨rfl, rfl⟩
    have e0 : prL ps.length = [] := List.eq_nil_of_length_eq_zero hN
    have e1 : srtE ps = [] := by unfold srtE; rw [e0]; simp
    rw [e0] at hown
    rw [e1]
    exact ⟨rfl, hown, Below.refl _ _⟩
  · obtain ⟨gb, hA, _⟩ := hown.head (by omega)
    subst hA
    subst hN
    refine (sortStable_any g lb (lenE ps) (VPr ps.length) w0 (prL ps.length) gb _ c base w eg hC rfl (prL_few _ (by omega)) prL_val (prL_asc _) hown h0 hb).mono ?_
    rintro e w' ⟨rfl, ds, h1, h2, h3, h4, h5⟩
    rw [(srtL_of h1 h2 h3).uniq (srtE_ok ps)] at h4
    exact ⟨rfl, h4, h5⟩
end Go.Proofs.YtnddfdhfefconaaGreatDoor
namespace Go.Proofs.YtnddfdhfefconaaGreatDoor
open Go.RowKit

theorem OwnR.keep {w W : World} {base : Nat} {v : Value} {ps : List Pt} (h : OwnR w base v ps) (hb : ∀ k, v.ownBlock = some k → W.heap[k]? = w.heap[k]?) : OwnR W base v ps := own_block h hb
theorem FoR.of_own {w : World} {base n : Nat} {v : Value} (h : Own w base v (zI (List.range n))) (h0 : 0 < n) : ∃ g c, v = .slice (some ⟨g, 0, none⟩) n c ∧ FoR w base g n c id := by
  obtain ⟨A, m, c, rfl⟩ := own_slice h
  have hl := h.ints.1
  rw [zI_len, List.length_range] at hl
  subst hl
  obtain ⟨gb, hA, _⟩ := h.head h0
  subst hA
  exact ⟨gb, c, rfl, _, by rw [zI_len, List.length_range], fun i hi => by rw [zI_at (by rw [List.length_range]; exact hi), List.getElem_range]; rfl, h⟩
set_option maxRecDepth 20000 in
set_option maxHeartbeats 8000000 in
theorem iSpan_any (ps : List Pt) (A : Option Addr) (n c : Nat) (w : World) (hn : ps.length = n) (h0 : 0 < n) (hok : listOk ps = true) (hs : PtsAt w w.heap.size A ps) :
    Calls Tryz.prog 102 #[.slice A n c] w fun e w' => ∃ A' m, e = .returned (.slice A' m m) ∧ (treL ps).length = m ∧ PtsAt w' w'.heap.size A' (treL ps) ∧ ∃ x, w' = ext w x := by
  obtain ⟨h1, h2⟩ := listOk_1 hok
  have h20 : n ≤ 20 := by omega
  have h3 : ∀ p ∈ ps, (-1000 ≤ p.x ∧ p.x ≤ 1000) ∧ -1000 ≤ p.y ∧ p.y ≤ 1000 := fun p hp => ok_bd (h2 p hp)
  have LO := hide (fun (W : World) (hb : Below w.heap.size w W) => listOk_any ps A n c W hn (by omega) (hs.to hb))
  rw [hok] at LO
  have PR := hide (fun (W : World) => pairs_any n W (by omega))
  have SP := hide (fun (lb N cp base : Nat) (Ap : Option Addr) (W : World) (hlb : lb < base) (hb : base ≤ W.heap.size) (hc : W.cell? ⟨lb, 0, none⟩ = some (.slice A n c)) (hp : PtsAt W base A ps) (hN : (prL n).length = N) (ho : OwnR W base (.slice Ap N cp) (prL n)) =>
    sortP_any 155 #[.pointer (some ⟨lb, 0, none⟩)] ps W Ap N cp base n W hn (enters _ Tryz.func155 (by kernel_rfl) rfl) (stc_any ps A n c lb base W hn h3 hlb hb hc hp) hN h20 ho (Below.refl _ _) hb)
  have FO := hide (fun (W : World) => forestOf_any n W (by omega))
  have LV := hide (fun e (he : e ∈ srtE ps) => ((srtE_ok ps).mem e).1 he)
  rw [hn] at LV
  have TR : Hid (treL ps = krS id (srtE ps)) := hide rfl
  have CL := hide clipR_any
  have HS := hide hs
  clear hn hok hs h1 h2 h3
  generalize srtE ps = L at *
  go_enter Tryz.func102, Tryz.ntmps102
  go_wp2_with fail
  refine (LO.out _ (by (repeat' (first | (with_reducible first | exact Below.refl _ _ | assumption | refine below_ext _ ?_ ?_ | refine Below.alloc ?_ ?_ _ | refine Below.drew ?_ | refine below_drewN ?_ _ | refine le_drewN _ ?_ | refine Below.setCell ?_ ?_ _ | exact Nat.le_refl _ | refine le_ext _ ?_ | refine le_alloc _ ?_ | refine le_setCell _ _ ?_ | refine le_drew ?_) | omega | (simp; done) | (simp; omega))))).mono ?_
  rintro e w1 ⟨rfl, hw1⟩
  have z1 : w.heap.size < w1.heap.size := by have := ext_sz hw1; simp at this; omega
  have B1 := hide ((show Below w.heap.size w (w.alloc (.cells #[.slice A n c] 23)) from (by (repeat' (first | (with_reducible first | exact Below.refl _ _ | assumption | refine below_ext _ ?_ ?_ | refine Below.alloc ?_ ?_ _ | refine Below.drew ?_ | refine below_drewN ?_ _ | refine le_drewN _ ?_ | refine Below.setCell ?_ ?_ _ | exact Nat.le_refl _ | refine le_ext _ ?_ | refine le_alloc _ ?_ | refine le_setCell _ _ ?_ | refine le_drew ?_) | omega | (simp; done) | (simp; omega))))).trans ((ext_bel hw1).mono (by simp)))
  have K1 := hide (((ext_bel hw1).block _ (by simp)).trans (heap_alloc_new w (.cells #[.slice A n c] 23)))
  have cl := heap_cell K1.out 0
  simp at cl
  clear hw1 LO
  go_wp2_with fail
  refine (PR.out _).mono ?_
  rintro e w2 ⟨v2, rfl, hown2, hx2⟩
  obtain ⟨Ap, N, cp, rfl⟩ := hown2.slice
  have hN := hown2.pts.1
  have N190 : N ≤ 190 := by rw [← hN]; exact prL_few n (by omega)
  have BX2 := hide (ext_bel hx2)
  have z2 := BX2.out.size
  have cl2 : w2.cell? ⟨w.heap.size, 0, none⟩ = some (.slice A n c) := (BX2.out.cell (p := ⟨w.heap.size, 0, none⟩) z1).trans cl
  have B2 := hide (B1.out.trans (BX2.out.mono (Nat.le_of_lt z1)))
  have SPk := hide (SP.out w.heap.size N cp w1.heap.size Ap w2 z1 z2 cl2 ((HS.out.below B2.out).more (Nat.le_of_lt z1)) hN hown2)
  clear hx2 hown2 PR SP cl HS
  go_wp2_with fail
  refine SPk.out.mono ?_
  rintro e w3 ⟨rfl, hown3, hb3⟩
  have OL3 := hide hown3
  have z3 := hb3.size
  have cl3 : w3.cell? ⟨w.heap.size, 0, none⟩ = some (.slice A n c) := (hb3.cell (p := ⟨w.heap.size, 0, none⟩) z1).trans cl2
  have B3 := hide (B2.out.trans (hb3.mono (Nat.le_of_lt z1)))
  have z23 : w2.heap.size ≤ w3.heap.size := hb3.size
  clear hown3 hb3 SPk cl2
  go_wp2_with fail
  refine (FO.out _).mono ?_
  rintro e w4 ⟨v4, rfl, hown4, hx4⟩
  obtain ⟨fb, cf, rfl, hfo⟩ := FoR.of_own hown4 h0
  have lfo := hfo.lt
  have FO4 := hide hfo
  have BX4 := hide (ext_bel hx4)
  have z4 := BX4.out.size
  have OL4 := hide (OL3.out.below BX4.out)
  have OLT := hide OL3.out.lt2
  have B4 := hide (B3.out.trans (BX4.out.mono (by omega)))
  have hNL := OL3.out.pts.1
  clear hx4 hown4 hfo FO OL3
  have BA : Below w4.heap.size w4 (w4.alloc (.cells #[] 120)) := (Below.refl _ _).alloc (Nat.le_refl _) _
  have cl5 : (w4.alloc (.cells #[] 120)).cell? ⟨w.heap.size, 0, none⟩ = some (.slice A n c) := (BA.cell (p := ⟨w.heap.size, 0, none⟩) (by show w.heap.size < w4.heap.size; omega)).trans ((BX4.out.cell (p := ⟨w.heap.size, 0, none⟩) (by show w.heap.size < w3.heap.size; omega)).trans cl3)
  have OE : Hid (OwnR (w4.alloc (.cells #[] 120)) w4.heap.size (.slice (some ⟨w4.heap.size, 0, none⟩) 0 0) (krS id (L.take 0))) := hide (by
    have := OwnR.empty w4 w4.heap.size 0 (Nat.le_refl _) #[] rfl (by simp [maxLen])
    exact this)
  have OL5 := hide (OL4.out.below BA)
  have FO5 := hide (FO4.out.below BA)
  have B5 : Hid (Below w.heap.size w (w4.alloc (.cells #[] 120))) := hide (B4.out.trans (BA.mono (by omega)))
  have F0 : Hid (∃ f h, Fst n f (krC id (L.take 0)) h ∧ FoR (w4.alloc (.cells #[] 120)) w3.heap.size fb n cf f) := hide ⟨id, fun _ => 0, Fst.id n, FO5.out⟩
  clear OL4 FO4 B4 BA cl3 cl5 FO5
  go_wp2_with fail
  go_loopw [5, 23] (fun u5 u23 wr => ∃ t : Nat, t ≤ N ∧ u23 = .int .i64 t ∧ Hid (OwnR wr w4.heap.size u5 (krS id (L.take t))) ∧ Hid (∃ f h, Fst n f (krC id (L.take t)) h ∧ FoR wr w3.heap.size fb n cf f) ∧ Hid (OwnR wr w1.heap.size (.slice Ap N cp) L) ∧ Hid (Below w.heap.size w wr) ∧ w4.heap.size ≤ wr.heap.size) (fun _ u23 _ => N - (intOf u23).toNat)
  case atStart => exact ⟨0, Nat.zero_le _, rfl, OE, F0, OL5, B5, by simp⟩
  case round =>
    obtain ⟨t, ht, rfl, HO, HF, HLr, HB, z5⟩ := hrel
    clear OE F0 OL5 B5
    obtain ⟨A0, m0, c0, rfl⟩ := HO.out.slice
    by_cases hlt : t < N
    · have ltL : t < L.length := by rw [hNL]; exact hlt
      obtain ⟨x, y, hxy, hyn, hp⟩ := LV.out L[t] (List.getElem_mem _)
      obtain ⟨gb, hAp, lgb, lgb2, hfr, hcs⟩ := HLr.out.head (by omega)
      subst hAp
      obtain ⟨cx, cy⟩ := hcs t hlt
      have ex : pX L t = (x : Int) := by unfold pX; rw [gp_lt ltL, hp]; rfl
      have ey : pY L t = (y : Int) := by unfold pY; rw [gp_lt ltL, hp]; rfl
      rw [ex] at cx
      rw [ey] at cy
      obtain ⟨f, h, hFst, hFo⟩ := HF.out
      have TK : Hid (L.take (t + 1) = L.take t ++ [pq x y]) := hide (by rw [List.take_succ_eq_append_getElem ltL, hp])
      have hbw : Below wr.heap.size wr (wr.alloc (.cells #[.int .i64 (x : Int), .int .i64 (y : Int)] 120)) := (Below.refl _ _).alloc (Nat.le_refl _) _
      have JN := hide (fjoin_any f (krC id (L.take t)) h fb n cf w3.heap.size x y (wr.alloc (.cells #[.int .i64 (x : Int), .int .i64 (y : Int)] 120)) (by omega) (by omega) hyn hFst (hFo.below hbw))
      obtain ⟨h', hF2⟩ := hFst.join (p := pq x y) (show ((x : Nat) : Int).toNat < n by omega) (show ((y : Nat) : Int).toNat < n by omega)
      have HF2 : Hid (Fst n (fun i => if i = krC id (L.take t) x then krC id (L.take t) y else f i) (krC id (L.take (t + 1))) h') := hide (by rw [TK.out, krC_snoc]; exact hF2)
      have KS : Hid (krS id (L.take (t + 1)) = krS id (L.take t) ++ (if krC id (L.take t) x = krC id (L.take t) y then [] else [pq x y])) := hide (by rw [TK.out, krS_snoc]; rfl)
      have CB := hide (heap_alloc_new wr (.cells #[.int .i64 (x : Int), .int .i64 (y : Int)] 120))
      have lfb : fb < w4.heap.size := lfo.2
      have gfb : gb < w3.heap.size := OLT.out gb rfl
      have q1 : (0 : Int) ≤ (t : Int) := by omega
      have q2 : (t : Int) < (N : Int) := by omega
      clear hcs hfr hFst hFo HF hF2 hp ex ey ltL LV TR
      go_wp2_with fail
      refine JN.out.mono ?_
      rintro e w6 ⟨rfl, hf6, hg6⟩
      have z6 := hg6.size
      simp at z6
      have F6 : Hid (∃ f h, Fst n f (krC id (L.take (t + 1))) h ∧ FoR w6 w3.heap.size fb n cf f) := hide ⟨_, h', HF2.out, hf6⟩
      have nf : ∀ k, k < (wr.alloc (.cells #[.int .i64 (x : Int), .int .i64 (y : Int)] 120)).heap.size → k ≠ fb → w6.heap[k]? = (wr.alloc (.cells #[.int .i64 (x : Int), .int .i64 (y : Int)] 120)).heap[k]? := fun k hk hne => hg6.block k hk (fun e => hne (Option.some.inj e))
      have CB6 : Hid (w6.heap[wr.heap.size]? = some (.cells #[.int .i64 (x : Int), .int .i64 (y : Int)] 120 (0, 0))) := hide ((nf _ (by simp) (by omega)).trans CB.out)
      have OL6 : Hid (OwnR w6 w1.heap.size (.slice (some ⟨gb, 0, none⟩) N cp) L) := hide ((HLr.out.below hbw).keep (fun k hk => by
        have e : gb = k := Option.some.inj hk
        subst e
        exact nf _ (by simp; omega) (by have := lfo.1; omega)))
      have OO6 : Hid (OwnR w6 w4.heap.size (.slice A0 m0 c0) (krS id (L.take t))) := hide ((HO.out.below hbw).keep (fun k hk => nf k (by have := HO.out.lt2 k hk; simp; omega) (by have := HO.out.lt k hk; omega)))
      have B6 : Hid (Below w.heap.size w w6) := hide (HB.out.trans ((hbw.mono HB.out.size).trans ⟨hg6.os, hg6.tape, hg6.output, hg6.size, fun k hk => nf k (by have := HB.out.size; simp; omega) (by have := lfo.1; omega)⟩))
      have z46 : w4.heap.size ≤ w6.heap.size := by omega
      have lz : (krS id (L.take t)).length ≤ 2000000 := by
        have := krS_len (L.take t) id
        rw [List.length_take] at this
        omega
      clear hf6 hg6 nf JN HF2 CB HLr HO HB hbw TK
      have cbx := heap_cell CB6.out 0
      have cby := heap_cell CB6.out 1
      simp at cbx cby
      have fbx := heap_frozen CB6.out 0
      by_cases hj : krC id (L.take t) x = krC id (L.take t) y
      · have dz : (!decide (krC id (L.take t) x = krC id (L.take t) y)) = false := by rw [decide_eq_true hj]; rfl
        have OX : Hid (OwnR w6 w4.heap.size (.slice A0 m0 c0) (krS id (L.take (t + 1)))) := hide (by rw [KS.out, if_pos hj, List.append_nil]; exact OO6.out)
        rw [dz]
        clear dz hj KS OO6
        go_wp2_with fail
        exact ⟨⟨t + 1, hlt, by go_num, OX, F6, OL6, B6, z46⟩, by simp [intOf]; omega⟩
      · have dz : (!decide (krC id (L.take t) x = krC id (L.take t) y)) = true := by rw [decide_eq_false hj]; rfl
        have KS2 : Hid (krS id (L.take (t + 1)) = krS id (L.take t) ++ [⟨(x : Int), (y : Int)⟩]) := hide (by rw [KS.out, if_neg hj]; rfl)
        rw [dz]
        clear dz hj KS
        go_wp2_with (at_builtin; refine app_pr rfl _ _ rfl w4.heap.size (.slice A0 m0 c0) (krS id (L.take t)) rfl (OO6.out.below (by (repeat' (first | (with_reducible first | exact Below.refl _ _ | assumption | refine below_ext _ ?_ ?_ | refine Below.alloc ?_ ?_ _ | refine Below.drew ?_ | refine below_drewN ?_ _ | refine le_drewN _ ?_ | refine Below.setCell ?_ ?_ _ | exact Nat.le_refl _ | refine le_ext _ ?_ | refine le_alloc _ ?_ | refine le_setCell _ _ ?_ | refine le_drew ?_) | omega | (simp; done) | (simp; omega))))) (x : Int) (y : Int) _ _ rfl (by simp [go_sem]) (by simp [go_sem]) lz (by simp; omega) ?_; intro v7 w7 hown7 hb7 hat7 hgr7; obtain ⟨A7, n7, c7, rfl⟩ := hown7.slice; have O7 := hide hown7; have B7 := hide hb7; clear hown7 hat7 hgr7 hb7)
        have BB := hide (Below.trans (show Below w4.heap.size w6 (w6.alloc (.cells #[.int .i64 (x : Int), .int .i64 (y : Int)] 120)) from (Below.refl _ _).alloc z46 _) B7.out)
        have z7 := BB.out.size
        have OX : Hid (OwnR w7 w4.heap.size (.slice A7 n7 c7) (krS id (L.take (t + 1)))) := hide (by rw [KS2.out]; exact O7.out)
        have FX : Hid (∃ f h, Fst n f (krC id (L.take (t + 1))) h ∧ FoR w7 w3.heap.size fb n cf f) := hide (by
          obtain ⟨f, h, g1, g2⟩ := F6.out
          exact ⟨f, h, g1, g2.block (BB.out.block _ lfb)⟩)
        have OLX : Hid (OwnR w7 w1.heap.size (.slice (some ⟨gb, 0, none⟩) N cp) L) := hide (OL6.out.keep (fun k hk => by
          have e : gb = k := Option.some.inj hk
          subst e
          exact BB.out.block _ (by omega)))
        have BX : Hid (Below w.heap.size w w7) := hide (B6.out.trans (BB.out.mono (by omega)))
        exact ⟨⟨t + 1, hlt, by go_num, OX, FX, OLX, BX, by omega⟩, by simp [intOf]; omega⟩
    · have et : L.take t = L := List.take_of_length_le (by omega)
      have OX : Hid (OwnR wr w4.heap.size (.slice A0 m0 c0) (treL ps)) := hide (by rw [TR.out, ← et]; rw [et]; have := HO.out; rw [et] at this; exact this)
      obtain ⟨lm, lc, mc, pp⟩ := OX.out.pts
      have fm := OX.out.form.1
      have PP := hide pp
      have LM := hide lm
      have CLk := hide (CL.out A0 m0 c0 wr lc (by unfold maxLen at mc; omega) fm)
      clear et HO HF HLr LV TR lm pp fm CL
      go_wp2_with fail
      refine CLk.out.mono ?_
      rintro e w6 ⟨rfl, rfl⟩
      go_wp2_with fail
      go_ret
      exact ⟨A0, m0, rfl, LM.out, PP.out, ext_mk HB.out⟩
end Go.Proofs.YtnddfdhfefconaaGreatDoor
namespace Go.Proofs.YtnddfdhfefconaaGreatDoor
open Go.RowKit

theorem totL_snoc (ps : List Pt) (e : Pt) : ∀ L, totL ps (L ++ [e]) = totL ps L + lenE ps e
  | [] => by simp [totL]
  | d :: L => by rw [List.cons_append, totL, totL_snoc ps e L, totL]; omega
theorem totL_bd {ps : List Pt} (h : ∀ p ∈ ps, (-1000 ≤ p.x ∧ p.x ≤ 1000) ∧ -1000 ≤ p.y ∧ p.y ≤ 1000) : ∀ {L : List Pt}, (∀ e ∈ L, VPr ps.length e) → 0 ≤ totL ps L ∧ totL ps L ≤ 4000 * (L.length : Int)
  | [], _ => by simp [totL]
  | e :: L, hv => by
    have ih := totL_bd h (L := L) (fun d hd => hv d (List.mem_cons_of_mem _ hd))
    obtain ⟨i, k, hi, hk, rfl⟩ := hv e List.mem_cons_self
    have := lenE_bd h hi hk
    rw [totL, List.length_cons]
    omega
set_option maxHeartbeats 400000 in
theorem ContainsFuncR_any (g : Nat) (lb : Array Value) (p : Nat → Bool) (ps : List Pt) (A : Option Addr) (n c : Nat) (w : World) (hn : ps.length = n) (hm : n ≤ 2000000) (eg : ∀ args w, (callFunc g args).run Tryz.prog w = .ok (.enter g args) w)
    (hs : PtsAt w w.heap.size A ps) (hg : ∀ (W : World) (i : Nat), Below w.heap.size w W → i < ps.length → Calls Tryz.prog g (#[.agg #[.int .i64 (pX ps i), .int .i64 (pY ps i)]] ++ lb) W fun e w' => e = .returned (.bool (p i)) ∧ ∃ m, w' = ext W m) :
    Calls Tryz.prog 195 #[.slice A n c, .func (.func g) #[] lb] w fun e w' => e = .returned (.bool ((List.range n).any p)) ∧ ∃ m, w' = ext w m := by
  have HI := hide (IndexFuncR_any g lb p ps A n c w hn hm eg hs hg)
  have HA := hide (firstIdx_any p n)
  clear hn hm eg hs hg
  go_enter Tryz.func195, Tryz.ntmps195
  go_wp2_with (go_at_call 233; refine HI.out.mono ?_; rintro e w' ⟨rfl, y, rfl⟩)
  go_ret
  exact ⟨ret_bool HA.out, (ext_mk (by (repeat' (first | (with_reducible first | exact Below.refl _ _ | assumption | refine below_ext _ ?_ ?_ | refine Below.alloc ?_ ?_ _ | refine Below.drew ?_ | refine below_drewN ?_ _ | refine le_drewN _ ?_ | refine Below.setCell ?_ ?_ _ | exact Nat.le_refl _ | refine le_ext _ ?_ | refine le_alloc _ ?_ | refine le_setCell _ _ ?_ | refine le_drew ?_) | omega | (simp; done) | (simp; omega)))))⟩
set_option maxHeartbeats 1000000 in
theorem edgesIn1_any (n c lb i k : Nat) (A : Option Addr) (w : World) (hi : i < n) (hk : k < n) (hm : n ≤ 1000) (hlb : lb < w.heap.size) (hc : w.cell? ⟨lb, 0, none⟩ = some (.slice A n c)) :
    Calls Tryz.prog 196 #[.agg #[.int .i64 (i : Int), .int .i64 (k : Int)], .pointer (some ⟨lb, 0, none⟩)] w fun e w' => e = .returned (.bool false) ∧ ∃ x, w' = ext w x := by
  have WI := hide (fun (z : Int) (W : World) (h0 : 0 ≤ z) (h1 : z < (n : Int)) => (show Calls Tryz.prog 73 #[.int .i64 z, .int .i64 0, .int .i64 ((n : Int) - 1)] W fun e w' => e = .returned (.bool true) ∧ w = w → e = .returned (.bool true) ∧ W = w' from (within_any z 0 ((n : Int) - 1) W).mono (fun e w' h _ => ⟨by rw [h.1]; congr 2; simp [inB]; omega, h.2⟩)))
  have WB := hide (fun (z : Int) (W : World) (h0 : 0 ≤ z) (h1 : z < (n : Int)) => (within_any z 0 ((n : Int) - 1) W).mono (fun e w' h => (show e = .returned (.bool true) ∧ W = w' from ⟨by rw [h.1]; congr 2; simp [inB]; omega, h.2⟩)))
  clear WI
  go_enter Tryz.func196, Tryz.ntmps196
  go_wp2_with (go_at_call 73; refine (WB.out _ _ (by omega) (by omega)).mono ?_; rintro e w' ⟨rfl, rfl⟩)
  go_ret
  exact ⟨rfl, (ext_mk (by (repeat' (first | (with_reducible first | exact Below.refl _ _ | assumption | refine below_ext _ ?_ ?_ | refine Below.alloc ?_ ?_ _ | refine Below.drew ?_ | refine below_drewN ?_ _ | refine le_drewN _ ?_ | refine Below.setCell ?_ ?_ _ | exact Nat.le_refl _ | refine le_ext _ ?_ | refine le_alloc _ ?_ | refine le_setCell _ _ ?_ | refine le_drew ?_) | omega | (simp; done) | (simp; omega)))))⟩
set_option maxHeartbeats 1000000 in
theorem edgesIn_any (ps es : List Pt) (A A2 : Option Addr) (n c M c2 : Nat) (w : World) (hn : ps.length = n) (hm : n ≤ 1000) (hok : listOk ps = true) (hM : es.length = M) (hM2 : M ≤ 1000) (hv : ∀ e ∈ es, VPr n e) (hs : PtsAt w w.heap.size A ps) (he : PtsAt w w.heap.size A2 es) :
    Calls Tryz.prog 151 #[.slice A n c, .slice A2 M c2] w fun e w' => e = .returned (.bool true) ∧ ∃ x, w' = ext w x := by
  have LO := hide (fun (W : World) (hb : Below w.heap.size w W) => listOk_any ps A n c W hn (by omega) (hs.to hb))
  rw [hok] at LO
  have CF := hide (fun (lb : Nat) (W : World) (hb : Below w.heap.size w W) (hlb : lb < W.heap.size) (hc : W.cell? ⟨lb, 0, none⟩ = some (.slice A n c)) =>
    (ContainsFuncR_any 196 #[.pointer (some ⟨lb, 0, none⟩)] (fun _ => false) es A2 M c2 W hM (by omega) (enters _ Tryz.func196 (by kernel_rfl) rfl) (he.to hb) (fun W2 i hW2 hi => by
      obtain ⟨a, b, ha, hb2, e⟩ := hv _ (gp_mem hi)
      have e1 : pX es i = (a : Int) := by unfold pX; rw [e]; rfl
      have e2 : pY es i = (b : Int) := by unfold pY; rw [e]; rfl
      rw [e1, e2]
      exact edgesIn1_any n c lb a b A W2 ha hb2 hm (Nat.lt_of_lt_of_le hlb hW2.size) ((hW2.cell (p := ⟨lb, 0, none⟩) hlb).trans hc))).mono (fun e w' h => (show e = .returned (.bool false) ∧ ∃ x, w' = ext W x from ⟨by rw [h.1]; simp, h.2⟩)))
  clear hn hok hM hv hs he
  go_enter Tryz.func151, Tryz.ntmps151
  go_wp2_with fail
  refine (LO.out _ (by (repeat' (first | (with_reducible first | exact Below.refl _ _ | assumption | refine below_ext _ ?_ ?_ | refine Below.alloc ?_ ?_ _ | refine Below.drew ?_ | refine below_drewN ?_ _ | refine le_drewN _ ?_ | refine Below.setCell ?_ ?_ _ | exact Nat.le_refl _ | refine le_ext _ ?_ | refine le_alloc _ ?_ | refine le_setCell _ _ ?_ | refine le_drew ?_) | omega | (simp; done) | (simp; omega))))).mono ?_
  rintro e w' ⟨rfl, hw'⟩; have hzy1 := ext_sz hw'; obtain ⟨y1, rfl⟩ := hw'; (try simp at hzy1)
  have hc1 : (ext (w.alloc (.cells #[.slice A n c] 23)) y1).cell? ⟨w.heap.size, 0, none⟩ = some (.slice A n c) := (box_ext w (.slice A n c) 23 y1).1
  have hl1 : w.heap.size < (ext (w.alloc (.cells #[.slice A n c] 23)) y1).heap.size := by omega
  have CFk := hide (CF.out w.heap.size _ (show Below w.heap.size w (ext (w.alloc (.cells #[.slice A n c] 23)) y1) from (by (repeat' (first | (with_reducible first | exact Below.refl _ _ | assumption | refine below_ext _ ?_ ?_ | refine Below.alloc ?_ ?_ _ | refine Below.drew ?_ | refine below_drewN ?_ _ | refine le_drewN _ ?_ | refine Below.setCell ?_ ?_ _ | exact Nat.le_refl _ | refine le_ext _ ?_ | refine le_alloc _ ?_ | refine le_setCell _ _ ?_ | refine le_drew ?_) | omega | (simp; done) | (simp; omega))))) hl1 hc1)
  clear CF LO
  go_wp2_with fail
  refine CFk.out.mono ?_
  rintro e w' ⟨rfl, hw'⟩; have hzy2 := ext_sz hw'; obtain ⟨y2, rfl⟩ := hw'; (try simp at hzy2)
  go_wp2_with fail
  go_ret
  exact ⟨rfl, (ext_mk (by (repeat' (first | (with_reducible first | exact Below.refl _ _ | assumption | refine below_ext _ ?_ ?_ | refine Below.alloc ?_ ?_ _ | refine Below.drew ?_ | refine below_drewN ?_ _ | refine le_drewN _ ?_ | refine Below.setCell ?_ ?_ _ | exact Nat.le_refl _ | refine le_ext _ ?_ | refine le_alloc _ ?_ | refine le_setCell _ _ ?_ | refine le_drew ?_) | omega | (simp; done) | (simp; omega)))))⟩
set_option maxRecDepth 20000 in
set_option maxHeartbeats 4000000 in
theorem iTot_any (ps es : List Pt) (A A2 : Option Addr) (n c M c2 : Nat) (w : World) (hn : ps.length = n) (hm : n ≤ 1000) (hok : listOk ps = true) (hM : es.length = M) (hM2 : M ≤ 20) (hv : ∀ e ∈ es, VPr n e) (hs : PtsAt w w.heap.size A ps) (he : PtsAt w w.heap.size A2 es) :
    Calls Tryz.prog 101 #[.slice A n c, .slice A2 M c2] w fun e w' => e = .returned (.int .i64 (totL ps es)) ∧ ∃ x, w' = ext w x := by
  obtain ⟨h1, h2⟩ := listOk_1 hok
  have h3 : ∀ p ∈ ps, (-1000 ≤ p.x ∧ p.x ≤ 1000) ∧ -1000 ≤ p.y ∧ p.y ≤ 1000 := fun p hp => ok_bd (h2 p hp)
  have EI := hide (edgesIn_any ps es A A2 n c M c2 w hn hm hok hM (by omega) hv hs he)
  have HS := hide hs
  have HE := hide he
  have HN := hide hn
  have HM := hide hM
  have HV := hide hv
  have BD := hide (fun i (hi : i < n) => (show (-100000 ≤ (pX ps i) ∧ (pX ps i) ≤ 100000) ∧ -100000 ≤ (pY ps i) ∧ (pY ps i) ≤ 100000 from by
    have := h3 _ (gp_mem (show i < ps.length by omega))
    unfold pX pY; omega))
  have TB := hide (fun (t : Nat) => totL_bd h3 (L := es.take t) (fun e he => by rw [hn]; exact hv e (List.mem_of_mem_take he)))
  have LB := hide (fun i k (hi : i < n) (hk : k < n) => lenE_bd h3 (i := i) (k := k) (by omega) (by omega))
  have LE := hide (fun (a b c d : Int) W ha hb hc hd => ilen_any a b c d W ha hb hc hd)
  clear hn hok hM hv hs he h1 h2 h3
  go_enter Tryz.func101, Tryz.ntmps101
  go_wp2_with fail
  refine EI.out.mono ?_
  rintro e w' ⟨rfl, hw'⟩; have hzy1 := ext_sz hw'; obtain ⟨y1, rfl⟩ := hw'; (try simp at hzy1)
  have hM20 : ¬ (20 : Int) < (M : Int) := by omega
  clear EI
  go_wp2_with fail
  go_loopw [5, 19] (fun u5 u19 wr => ∃ t : Nat, t ≤ M ∧ u19 = .int .i64 t ∧ u5 = .int .i64 (totL ps (es.take t)) ∧ ∃ x, wr = ext w x) (fun _ u19 _ => M - (intOf u19).toNat)
  case atStart => exact ⟨0, Nat.zero_le _, rfl, rfl, (ext_mk (by (repeat' (first | (with_reducible first | exact Below.refl _ _ | assumption | refine below_ext _ ?_ ?_ | refine Below.alloc ?_ ?_ _ | refine Below.drew ?_ | refine below_drewN ?_ _ | refine le_drewN _ ?_ | refine Below.setCell ?_ ?_ _ | exact Nat.le_refl _ | refine le_ext _ ?_ | refine le_alloc _ ?_ | refine le_setCell _ _ ?_ | refine le_drew ?_) | omega | (simp; done) | (simp; omega)))))⟩
  case round =>
    obtain ⟨t, ht, rfl, rfl, x, rfl⟩ := hrel
    have zx := ext_size w x
    by_cases hlt : t < M
    · obtain ⟨i, k, hi, hk, he⟩ := HV.out _ (gp_mem (show t < es.length by rw [HM.out]; exact hlt))
      obtain ⟨b1, o1, rfl, hb1, hc1⟩ := HE.out (by rw [HM.out]; omega)
      obtain ⟨cx, cy⟩ := hc1 t (by rw [HM.out]; omega)
      have e1 : pX es t = (i : Int) := by unfold pX; rw [he]; rfl
      have e2 : pY es t = (k : Int) := by unfold pY; rw [he]; rfl
      rw [e1] at cx
      rw [e2] at cy
      obtain ⟨b, o, rfl, hb, hcs⟩ := HS.out (by rw [HN.out]; omega)
      obtain ⟨ix, iy⟩ := hcs i (by rw [HN.out]; omega)
      obtain ⟨kx, ky⟩ := hcs k (by rw [HN.out]; omega)
      obtain ⟨⟨b11, b12⟩, b13, b14⟩ := BD.out i hi
      obtain ⟨⟨b21, b22⟩, b23, b24⟩ := BD.out k hk
      obtain ⟨tb1, tb2⟩ := TB.out t
      have tl : ((es.take t).length : Int) ≤ 20 := by rw [List.length_take, HM.out]; omega
      have lb := LB.out i k hi hk
      have NX : Hid (totL ps (es.take (t + 1)) = totL ps (es.take t) + (absI (pX ps i - pX ps k) + absI (pY ps i - pY ps k))) := hide (by
        have hl : t < es.length := by rw [HM.out]; exact hlt
        rw [List.take_succ_eq_append_getElem hl, totL_snoc, ← gp_lt hl, he, lenE_pq])
      rw [lenE_pq] at lb
      have q1 : (i : Int) < (n : Int) := by omega
      have q2 : (k : Int) < (n : Int) := by omega
      have q3 : (0 : Int) ≤ (i : Int) := by omega
      have q4 : (0 : Int) ≤ (k : Int) := by omega
      clear hcs hc1 he e1 e2 HV HE HS BD TB LB
      generalize totL ps (es.take t) = T at *
      generalize pX ps i = X1 at *
      generalize pY ps i = Y1 at *
      generalize pX ps k = X2 at *
      generalize pY ps k = Y2 at *
      go_wp2_with fail
      refine wp_region_ext (by kernel_rfl) (by kernel_rfl) ?_
      repeat (go_big_quiet_step ((first | (go_at_call 152; exact Calls.in_ext (LE.out _ _ _ _ _ (by omega) (by omega) (by omega) (by omega))))))
      refine wpQuiet_nil ?_
      rintro _ hnq
      have hzq := ext_sz hnq
      obtain ⟨nq, rfl⟩ := hnq
      (try simp at hzq)
      go_wp2_with fail
      exact ⟨⟨t + 1, hlt, by go_num, by rw [NX.out], (ext_mk (by (repeat' (first | (with_reducible first | exact Below.refl _ _ | assumption | refine below_ext _ ?_ ?_ | refine Below.alloc ?_ ?_ _ | refine Below.drew ?_ | refine below_drewN ?_ _ | refine le_drewN _ ?_ | refine Below.setCell ?_ ?_ _ | exact Nat.le_refl _ | refine le_ext _ ?_ | refine le_alloc _ ?_ | refine le_setCell _ _ ?_ | refine le_drew ?_) | omega | (simp; done) | (simp; omega)))))⟩, by simp [intOf]; omega⟩
    · have et : es.take t = es := List.take_of_length_le (by rw [HM.out]; omega)
      have ET : Hid (totL ps (es.take t) = totL ps es) := hide (by rw [et])
      clear et
      go_wp2_with fail
      go_ret
      exact ⟨by rw [← ET.out]; rfl, (ext_mk (by (repeat' (first | (with_reducible first | exact Below.refl _ _ | assumption | refine below_ext _ ?_ ?_ | refine Below.alloc ?_ ?_ _ | refine Below.drew ?_ | refine below_drewN ?_ _ | refine le_drewN _ ?_ | refine Below.setCell ?_ ?_ _ | exact Nat.le_refl _ | refine le_ext _ ?_ | refine le_alloc _ ?_ | refine le_setCell _ _ ?_ | refine le_drew ?_) | omega | (simp; done) | (simp; omega)))))⟩
end Go.Proofs.YtnddfdhfefconaaGreatDoor
namespace Go.Proofs.YtnddfdhfefconaaGreatDoor
open Go.RowKit

/-- The text of the tree. -/
def treT (ps : List Pt) : List UInt8 := Lib.itoa (totL ps (treL ps))
theorem treL_val {ps : List Pt} {n : Nat} (hn : ps.length = n) : ∀ e ∈ treL ps, VPr n e := fun e he => by
  obtain ⟨i, k, h1, h2, h3⟩ := treL_pr he
  exact ⟨i, k, by omega, by omega, h3⟩
theorem tre_bd {ps : List Pt} (h0 : ps ≠ []) (hok : listOk ps = true) : -400000000000 ≤ totL ps (treL ps) ∧ totL ps (treL ps) ≤ 400000000000 := by
  have hl : 0 < ps.length := List.length_pos_iff.2 h0
  obtain ⟨h1, h2⟩ := listOk_1 hok
  have := totL_bd (fun p hp => ok_bd (h2 p hp)) (treL_val (ps := ps) rfl)
  have := treL_few hl
  omega
theorem tre_len (ps : List Pt) (h0 : ps ≠ []) (hok : listOk ps = true) : (treT ps).length ≤ 100000 := by
  have := tre_bd h0 hok
  have := itoa_len (totL ps (treL ps)) ⟨by omega, by omega⟩
  unfold treT
  omega
set_option maxHeartbeats 1000000 in
theorem q8_any (ps : List Pt) (A : Option Addr) (n c : Nat) (w : World) (hn : ps.length = n) (h0 : ps ≠ []) (hok : listOk ps = true) (hs : PtsAt w w.heap.size A ps) (ht : Tab w) :
    Calls Tryz.prog 100 #[.slice A n c] w fun e w' => e = .returned (.string (bS (treT ps))) ∧ ∃ x, w' = ext w x := by
  have hl : 0 < n := by rw [← hn]; exact List.length_pos_iff.2 h0
  have h20 := (listOk_1 hok).1
  have HH := hide (fun (W : World) (hb : Below w.heap.size w W) => iSpan_any ps A n c W hn hl hok (hs.to hb))
  have few := treL_few (ps := ps) (by omega)
  have TL := hide (fun (A2 : Option Addr) (M c2 : Nat) (W : World) (hb : Below w.heap.size w W) (hM : (treL ps).length = M) (he : PtsAt W W.heap.size A2 (treL ps)) => iTot_any ps (treL ps) A A2 n c M c2 W hn (by omega) hok hM (by omega) (treL_val hn) (hs.to hb) he)
  have TO := hide (fun (A' : Option Addr) (W : World) (hb : Below w.heap.size w W) (h2 : IntsAt W W.heap.size A' [totL ps (treL ps)]) => told_any [totL ps (treL ps)] A' 1 1 W rfl (by omega) (big_one (tre_bd h0 hok)) h2 (ht.to hb))
  have ON := hide ints1
  rw [intsT_one] at TO
  unfold treT
  clear hn hok hs ht h0
  generalize totL ps (treL ps) = z at *
  go_enter Tryz.func100, Tryz.ntmps100
  go_wp2_with fail
  refine (HH.out _ (by (repeat' (first | (with_reducible first | exact Below.refl _ _ | assumption | refine below_ext _ ?_ ?_ | refine Below.alloc ?_ ?_ _ | refine Below.drew ?_ | refine below_drewN ?_ _ | refine le_drewN _ ?_ | refine Below.setCell ?_ ?_ _ | exact Nat.le_refl _ | refine le_ext _ ?_ | refine le_alloc _ ?_ | refine le_setCell _ _ ?_ | refine le_drew ?_) | omega | (simp; done) | (simp; omega))))).mono ?_
  rintro e w2 ⟨A2, m2, rfl, l2, i2, hx⟩
  have B2 := hide (ext_bel hx)
  have z2 := B2.out.size
  have TLk := hide (TL.out A2 m2 m2 w2 B2.out l2 i2)
  clear hx TL i2 l2 HH
  go_wp2_with fail
  refine TLk.out.mono ?_
  rintro e w' ⟨rfl, hw'⟩; have hzy1 := ext_sz hw'; obtain ⟨y1, rfl⟩ := hw'; (try simp at hzy1)
  have BB : Hid (Below w.heap.size w (ext w2 y1)) := hide (B2.out.trans ((ext_below w2 y1).mono z2))
  go_wp2_with fail
  refine (TO.out _ _ (BB.out.trans ((show Below (ext w2 y1).heap.size (ext w2 y1) ((ext w2 y1).alloc (.cells #[.int .i64 z] 3)) from (by (repeat' (first | (with_reducible first | exact Below.refl _ _ | assumption | refine below_ext _ ?_ ?_ | refine Below.alloc ?_ ?_ _ | refine Below.drew ?_ | refine below_drewN ?_ _ | refine le_drewN _ ?_ | refine Below.setCell ?_ ?_ _ | exact Nat.le_refl _ | refine le_ext _ ?_ | refine le_alloc _ ?_ | refine le_setCell _ _ ?_ | refine le_drew ?_) | omega | (simp; done) | (simp; omega))))).mono BB.out.size)) (ON.out _ _)).mono ?_
  rintro e w' ⟨rfl, hw'⟩; have hzy2 := ext_sz hw'; obtain ⟨y2, rfl⟩ := hw'; (try simp at hzy2)
  go_wp2_with fail
  go_ret
  exact ⟨rfl, ext_mk (B2.out.trans (Below.mono (show Below w2.heap.size w2 _ from (by (repeat' (first | (with_reducible first | exact Below.refl _ _ | assumption | refine below_ext _ ?_ ?_ | refine Below.alloc ?_ ?_ _ | refine Below.drew ?_ | refine below_drewN ?_ _ | refine le_drewN _ ?_ | refine Below.setCell ?_ ?_ _ | exact Nat.le_refl _ | refine le_ext _ ?_ | refine le_alloc _ ?_ | refine le_setCell _ _ ?_ | refine le_drew ?_) | omega | (simp; done) | (simp; omega))))) z2))⟩
end Go.Proofs.YtnddfdhfefconaaGreatDoor
