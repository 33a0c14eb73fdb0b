
/- CheckHull of the program, where all its conditions hold. -/
import Derived.Test.YtelhidonhldjeaaChkI
set_option linter.unusedVariables false
set_option linter.unusedSimpArgs false
namespace Go.Proofs.Ytelhidonhldjeaa
open Go.RowKit

/-- The row zs is a witness of q: three vertices in whose triangle it is. -/
def Wit3 (hs : List Pt) (q : Pt) (zs : List Int) : Prop := ∃ i k m : Nat, zs = [(i : Int), (k : Int), (m : Int)] ∧ i < hs.length ∧ k < hs.length ∧ m < hs.length ∧ tB hs q i k m = true
theorem wit3_within {hs : List Pt} {q : Pt} {zs : List Int} (h : Wit3 hs q zs) : (List.range 3).any (fun j => !inB (gi zs j) 0 ((hs.length : Int) - 1)) = false := by
  obtain ⟨i, k, m, rfl, h1, h2, h3, _⟩ := h
  rw [← Bool.not_eq_true, List.any_eq_true]
  rintro ⟨j, hj, hb⟩
  rw [List.mem_range] at hj
  rw [Bool.not_eq_true', inB_no] at hb
  match j, hj with
  | 0, _ => simp [gi] at hb; omega
  | 1, _ => simp [gi] at hb; omega
  | 2, _ => simp [gi] at hb; omega
theorem box2 (w : World) (u v : Value) (T S : TypeId) : ((w.alloc (.cells #[u] T)).alloc (.cells #[v] S)).cell? ⟨w.heap.size, 0, none⟩ = some u ∧ ((w.alloc (.cells #[u] T)).alloc (.cells #[v] S)).cell? ⟨w.heap.size + 1, 0, none⟩ = some v ∧ ((w.alloc (.cells #[u] T)).alloc (.cells #[v] S)).heap.size = w.heap.size + 2 ∧ Below w.heap.size w ((w.alloc (.cells #[u] T)).alloc (.cells #[v] S)) := by
  have h1 : (w.alloc (.cells #[u] T)).heap.size = w.heap.size + 1 := by simp
  refine ⟨?_, ?_, by simp, (by (repeat' (first | (with_reducible exact Below.refl _ _) | (with_reducible assumption) | (with_reducible refine below_ext _ ?_ ?_) | (with_reducible refine Below.alloc ?_ ?_ _) | (with_reducible refine Below.drew ?_) | (with_reducible refine below_drewN ?_ _) | (with_reducible refine le_drewN _ ?_) | (with_reducible refine Below.setCell ?_ ?_ _) | (with_reducible exact Nat.le_refl _) | (with_reducible refine le_ext _ ?_) | (with_reducible refine le_alloc _ ?_) | (with_reducible refine le_setCell _ _ ?_) | (with_reducible refine le_drew ?_) | omega | (simp; done) | (simp; omega))))⟩
  · have hb := Below.heap_alloc (w.alloc (.cells #[u] T)) (.cells #[v] S) w.heap.size (by rw [h1]; omega)
    exact (World.cell?_of_block (a := ⟨w.heap.size, 0, none⟩) hb).trans ((heap_cell (heap_alloc_new w (.cells #[u] T)) 0).trans rfl)
  · have := heap_cell (heap_alloc_new (w.alloc (.cells #[u] T)) (.cells #[v] S)) 0
    rw [h1] at this
    exact this.trans rfl
set_option maxRecDepth 20000 in
set_option maxHeartbeats 4000000 in
theorem iChk_any (ps hs : List Pt) (zss : List (List Int)) (A B Z : Option Addr) (n c m d r f : Nat) (w : World) (hn : ps.length = n) (hm : hs.length = m) (hA : Plain A n) (hB : Plain B m) (h1 : listOk ps = true) (h2 : listOk hs = true) (h0 : 0 < n) (h3 : shapedB hs = true) (h4 : ∀ q ∈ hs, q ∈ ps) (h5 : r = n)
    (sp : PtsAt w w.heap.size A ps) (sh : PtsAt w w.heap.size B hs) (sz : RowsAt w Z r zss) (hw : ∀ i, i < n → Wit3 hs (gp ps i) (gz zss i)) :
    Calls Try.prog 33 #[.slice A n c, .slice B m d, .slice Z r f] w fun e w' => e = .returned (.bool true) ∧ ∃ x, w' = ext w x := by
  obtain ⟨pb, pn⟩ := listOk_InB h1
  obtain ⟨qb, qn⟩ := listOk_InB h2
  have k1 : n ≤ 20 := by omega
  have k2 : m ≤ 20 := by omega
  have m0 : m ≠ 0 := by intro e; unfold shapedB at h3; rw [if_pos (hm.trans e)] at h3; cases h3
  have L1 := hide (fun (W : World) (hb : Below w.heap.size w W) => listOk_any ps A n c W hn (by omega) (sp.to hb))
  rw [h1] at L1
  have L2 := hide (fun (W : World) (hb : Below w.heap.size w W) => listOk_any hs B m d W hm (by omega) (sh.to hb))
  rw [h2] at L2
  have SH := hide (fun (W : World) (hb : Below w.heap.size w W) => shaped_any hs B m d W hm (by omega) hB (sh.to hb) h3)
  have CF : Hid (∀ (bx : Nat) (W : World), Below w.heap.size w W → W.cell? ⟨bx, 0, none⟩ = some (.slice A n c) → Calls Try.prog 74 #[.slice B m d, .func (.func 75) #[] #[.pointer (some ⟨bx, 0, none⟩)]] W fun e w' => e = .returned (.bool false) ∧ ∃ x, w' = ext W x) := hide (fun bx W hb hx => by
    have := ContainsFunc_any 75 #[.pointer (some ⟨bx, 0, none⟩)] (fun i => !decide ((⟨pX hs i, pY hs i⟩ : Pt) ∈ ps)) hs B m d W hm (by omega) (enters _ Try.func75 (by kernel_rfl) rfl) (sh.to hb) (fun W2 i hW2 hi => chk1_any ps (pX hs i) (pY hs i) A n c bx W2 hn (by omega) (sp.to (hb.trans (hW2.mono hb.size))) ((hW2.cell (p := ⟨bx, 0, none⟩) (World.block_lt_of_cell? W _ hx)).trans hx))
    refine this.mono (fun e w' hh => ⟨hh.1.trans ?_, hh.2⟩)
    congr 2
    rw [← Bool.not_eq_true, List.any_eq_true]
    rintro ⟨i, hi, hb2⟩
    rw [List.mem_range] at hi
    have hmem : (⟨pX hs i, pY hs i⟩ : Pt) ∈ ps := h4 _ (gp_mem (show i < hs.length by omega))
    rw [decide_eq_true hmem] at hb2
    cases hb2)
  have WI := hide (fun i hi => wit3_within (hw i hi))
  rw [hm] at WI
  have ROW := hide (fun (W : World) (hb : Below w.heap.size w W) (i : Nat) (hi : i < n) => (sz.below hb).row (j := i) (by omega))
  have WT := hide hw
  have HN := hide hn
  have HM := hide hm
  have SP := hide (fun (W : World) (hb : Below w.heap.size w W) => sp.to hb)
  have SQ := hide (fun (W : World) (hb : Below w.heap.size w W) => sh.to hb)
  have PB : Hid (∀ i, i < n → (-100000 ≤ (gp ps i).x ∧ (gp ps i).x ≤ 100000) ∧ -100000 ≤ (gp ps i).y ∧ (gp ps i).y ≤ 100000) := hide (fun i hi => pb _ (gp_mem (by omega)))
  have QB : Hid (∀ i, i < m → (-100000 ≤ (gp hs i).x ∧ (gp hs i).x ≤ 100000) ∧ -100000 ≤ (gp hs i).y ∧ (gp hs i).y ≤ 100000) := hide (fun i hi => qb _ (gp_mem (by omega)))
  have d0 : ((n : Int) == 0) = false := by rw [beq_eq_false_iff_ne]; omega
  have hrn := hide h5
  subst h5
  have d5 : ((r : Int) != (r : Int)) = false := by simp
  obtain ⟨X1, X2, X3, X4⟩ := box2 w (.slice A r c) (.slice B m d) 23 23
  obtain ⟨W0, hW0⟩ : ∃ W0, W0 = ((w.alloc (.cells #[.slice A r c] 23)).alloc (.cells #[.slice B m d] 23)) := ⟨_, rfl⟩
  rw [← hW0] at X1 X2 X3 X4
  have HW := hide hW0
  clear hn hm h1 h2 h3 h4 sp sh sz hw pb qb pn qn hW0 hrn hA hB
  go_enter Try.func33, Try.ntmps33
  go_wp2_with fail
  rw [← HW.out]
  clear HW
  have X5 : w.heap.size ≤ W0.heap.size := by omega
  have X6 : w.heap.size < W0.heap.size := by omega
  have X7 : w.heap.size + 1 < W0.heap.size := by omega
  refine (L1.out _ X4).mono ?_
  rintro e w' ⟨rfl, hw'⟩; have hzy1 := ext_sz hw'; obtain ⟨y1, rfl⟩ := hw'; (try simp at hzy1)
  go_wp2_with fail
  refine (L2.out _ (X4.trans (Below.mono (show Below W0.heap.size W0 _ from (by (repeat' (first | (with_reducible exact Below.refl _ _) | (with_reducible assumption) | (with_reducible refine below_ext _ ?_ ?_) | (with_reducible refine Below.alloc ?_ ?_ _) | (with_reducible refine Below.drew ?_) | (with_reducible refine below_drewN ?_ _) | (with_reducible refine le_drewN _ ?_) | (with_reducible refine Below.setCell ?_ ?_ _) | (with_reducible exact Nat.le_refl _) | (with_reducible refine le_ext _ ?_) | (with_reducible refine le_alloc _ ?_) | (with_reducible refine le_setCell _ _ ?_) | (with_reducible refine le_drew ?_) | omega | (simp; done) | (simp; omega))))) X5))).mono ?_
  rintro e w' ⟨rfl, hw'⟩; have hzy2 := ext_sz hw'; obtain ⟨y2, rfl⟩ := hw'; (try simp at hzy2)
  go_wp2_with fail
  refine (SH.out _ (X4.trans (Below.mono (show Below W0.heap.size W0 _ from (by (repeat' (first | (with_reducible exact Below.refl _ _) | (with_reducible assumption) | (with_reducible refine below_ext _ ?_ ?_) | (with_reducible refine Below.alloc ?_ ?_ _) | (with_reducible refine Below.drew ?_) | (with_reducible refine below_drewN ?_ _) | (with_reducible refine le_drewN _ ?_) | (with_reducible refine Below.setCell ?_ ?_ _) | (with_reducible exact Nat.le_refl _) | (with_reducible refine le_ext _ ?_) | (with_reducible refine le_alloc _ ?_) | (with_reducible refine le_setCell _ _ ?_) | (with_reducible refine le_drew ?_) | omega | (simp; done) | (simp; omega))))) X5))).mono ?_
  rintro e w' ⟨rfl, hw'⟩; have hzy3 := ext_sz hw'; obtain ⟨y3, rfl⟩ := hw'; (try simp at hzy3)
  go_wp2_with fail
  refine (CF.out _ _ (X4.trans (Below.mono (show Below W0.heap.size W0 (ext (ext (ext W0 y1) y2) y3) from (by (repeat' (first | (with_reducible exact Below.refl _ _) | (with_reducible assumption) | (with_reducible refine below_ext _ ?_ ?_) | (with_reducible refine Below.alloc ?_ ?_ _) | (with_reducible refine Below.drew ?_) | (with_reducible refine below_drewN ?_ _) | (with_reducible refine le_drewN _ ?_) | (with_reducible refine Below.setCell ?_ ?_ _) | (with_reducible exact Nat.le_refl _) | (with_reducible refine le_ext _ ?_) | (with_reducible refine le_alloc _ ?_) | (with_reducible refine le_setCell _ _ ?_) | (with_reducible refine le_drew ?_) | omega | (simp; done) | (simp; omega))))) X5)) (((show Below W0.heap.size W0 (ext (ext (ext W0 y1) y2) y3) from (by (repeat' (first | (with_reducible exact Below.refl _ _) | (with_reducible assumption) | (with_reducible refine below_ext _ ?_ ?_) | (with_reducible refine Below.alloc ?_ ?_ _) | (with_reducible refine Below.drew ?_) | (with_reducible refine below_drewN ?_ _) | (with_reducible refine le_drewN _ ?_) | (with_reducible refine Below.setCell ?_ ?_ _) | (with_reducible exact Nat.le_refl _) | (with_reducible refine le_ext _ ?_) | (with_reducible refine le_alloc _ ?_) | (with_reducible refine le_setCell _ _ ?_) | (with_reducible refine le_drew ?_) | omega | (simp; done) | (simp; omega))))).cell (p := ⟨w.heap.size, 0, none⟩) X6).trans X1)).mono ?_
  rintro e w' ⟨rfl, hw'⟩; have hzy4 := ext_sz hw'; obtain ⟨y4, rfl⟩ := hw'; (try simp at hzy4)
  have ST : Hid (∃ x, ext (ext (ext (ext W0 y1) y2) y3) y4 = ext W0 x) := hide (ext_mk (show Below W0.heap.size W0 (ext (ext (ext (ext W0 y1) y2) y3) y4) from (by (repeat' (first | (with_reducible exact Below.refl _ _) | (with_reducible assumption) | (with_reducible refine below_ext _ ?_ ?_) | (with_reducible refine Below.alloc ?_ ?_ _) | (with_reducible refine Below.drew ?_) | (with_reducible refine below_drewN ?_ _) | (with_reducible refine le_drewN _ ?_) | (with_reducible refine Below.setCell ?_ ?_ _) | (with_reducible exact Nat.le_refl _) | (with_reducible refine le_ext _ ?_) | (with_reducible refine le_alloc _ ?_) | (with_reducible refine le_setCell _ _ ?_) | (with_reducible refine le_drew ?_) | omega | (simp; done) | (simp; omega))))))
  clear L1 L2 SH CF hzy1 hzy2 hzy3 hzy4
  go_wp2_with fail
  go_loopw [7, 8, 39] (fun _ _ u39 wr => ∃ k : Nat, k ≤ r ∧ u39 = .int .i64 k ∧ ∃ x, wr = ext W0 x) (fun _ _ u39 _ => r - (intOf u39).toNat)
  case atStart => exact ⟨0, Nat.zero_le _, rfl, ST.out⟩
  case round =>
    obtain ⟨k, hk, rfl, x, rfl⟩ := hrel
    have hz := ext_size W0 x
    by_cases hlt : k < r
    · obtain ⟨g, o, rfl, hg, A1, n1, c1, hc1, l1, lq1, i1⟩ := ROW.out W0 X4 k hlt
      obtain ⟨i, j, e, hz3, hi, hj, he, ht⟩ := WT.out k hlt
      have WIk := hide (WI.out k hlt)
      rw [hz3] at l1 i1 WIk
      have E3 : Hid (n1 = 3) := hide l1.symm
      rw [HM.out] at hi hj he
      obtain ⟨g1, o1, rfl, hg1, hcz⟩ := i1 (by simp)
      have z0 := hcz 0 (by simp)
      have z1 := hcz 1 (by simp)
      have z2 := hcz 2 (by simp)
      have CJ := hide (fun (W : World) (hb : Below W0.heap.size W0 W) => ContainsFuncJ_any 78 #[.pointer (some ⟨w.heap.size + 1, 0, none⟩)] (fun t => !inB (gi [(i : Int), (j : Int), (e : Int)] t) 0 ((m : Int) - 1)) [(i : Int), (j : Int), (e : Int)] (some ⟨g1, o1, none⟩) n1 c1 W l1 (by rw [E3.out]; omega) (enters _ Try.func78 (by kernel_rfl) rfl) ((show IntsAt W0 W0.heap.size (some ⟨g1, o1, none⟩) [(i : Int), (j : Int), (e : Int)] from fun _ => ⟨g1, o1, rfl, hg1, hcz⟩).to hb) (fun W2 t hW2 ht2 => chk2_any _ B m d (w.heap.size + 1) W2 (by omega) (((hb.trans (hW2.mono hb.size)).cell (p := ⟨w.heap.size + 1, 0, none⟩) X7).trans X2)))
      have CJ2 : Hid (∀ W, Below W0.heap.size W0 W → Calls Try.prog 77 #[.slice (some ⟨g1, o1, none⟩) n1 c1, .func (.func 78) #[] #[.pointer (some ⟨w.heap.size + 1, 0, none⟩)]] W fun e w' => e = .returned (.bool false) ∧ ∃ x, w' = ext W x) := hide (fun W hb => (CJ.out W hb).mono (fun e w' hh => ⟨hh.1.trans (by rw [E3.out, WIk.out]), hh.2⟩))
      obtain ⟨b2, ob, hBe, hb2, hcb⟩ := SQ.out W0 X4 (by rw [HM.out]; omega)
      obtain ⟨u1, v1⟩ := hcb i (by rw [HM.out]; omega)
      obtain ⟨u2, v2⟩ := hcb j (by rw [HM.out]; omega)
      obtain ⟨u3, v3⟩ := hcb e (by rw [HM.out]; omega)
      obtain ⟨b3, oa, hAe, hb3, hca⟩ := SP.out W0 X4 (by rw [HN.out]; omega)
      obtain ⟨u4, v4⟩ := hca k (by rw [HN.out]; omega)
      have r1 := QB.out i hi
      have r2 := QB.out j hj
      have r3 := QB.out e he
      have r4 := PB.out k hlt
      have TI := hide (fun W => itri_any (gp hs i).x (gp hs i).y (gp hs j).x (gp hs j).y (gp hs e).x (gp hs e).y (gp ps k).x (gp ps k).y W r1.1 r1.2 r2.1 r2.2 r3.1 r3.2 r4.1 r4.2)
      have ht2 : triB ⟨(gp hs i).x, (gp hs i).y⟩ ⟨(gp hs j).x, (gp hs j).y⟩ ⟨(gp hs e).x, (gp hs e).y⟩ ⟨(gp ps k).x, (gp ps k).y⟩ = true := ht
      rw [ht2] at TI
      change W0.cell? ⟨b2, ob + i * 2, none⟩ = some (.int .i64 (gp hs i).x) at u1
      change W0.cell? ⟨b2, ob + i * 2 + 1, none⟩ = some (.int .i64 (gp hs i).y) at v1
      change W0.cell? ⟨b2, ob + j * 2, none⟩ = some (.int .i64 (gp hs j).x) at u2
      change W0.cell? ⟨b2, ob + j * 2 + 1, none⟩ = some (.int .i64 (gp hs j).y) at v2
      change W0.cell? ⟨b2, ob + e * 2, none⟩ = some (.int .i64 (gp hs e).x) at u3
      change W0.cell? ⟨b2, ob + e * 2 + 1, none⟩ = some (.int .i64 (gp hs e).y) at v3
      change W0.cell? ⟨b3, oa + k * 2, none⟩ = some (.int .i64 (gp ps k).x) at u4
      change W0.cell? ⟨b3, oa + k * 2 + 1, none⟩ = some (.int .i64 (gp ps k).y) at v4
      change W0.cell? ⟨g1, o1 + 0, none⟩ = some (.int .i64 (i : Int)) at z0
      change W0.cell? ⟨g1, o1 + 1, none⟩ = some (.int .i64 (j : Int)) at z1
      change W0.cell? ⟨g1, o1 + 2, none⟩ = some (.int .i64 (e : Int)) at z2
      rw [Nat.add_zero] at z0
      rw [hBe] at X2
      rw [hAe] at X1
      have dn : ((n1 : Int) != 3) = false := by rw [E3.out]; rfl
      have a0 : 0 < n1 := by rw [E3.out]; omega
      have a1 : 1 < n1 := by rw [E3.out]; omega
      have a2 : 2 < n1 := by rw [E3.out]; omega
      have a3 : (0 : Int) < (n1 : Int) := by omega
      have a4 : (1 : Int) < (n1 : Int) := by omega
      have a5 : (2 : Int) < (n1 : Int) := by omega
      have c1' : (0 : Int) ≤ (i : Int) := by omega
      have c2' : (i : Int) < (m : Int) := by omega
      have c3' : (0 : Int) ≤ (j : Int) := by omega
      have c4' : (j : Int) < (m : Int) := by omega
      have c5' : (0 : Int) ≤ (e : Int) := by omega
      have c6' : (e : Int) < (m : Int) := by omega
      have c7' : (0 : Int) ≤ (k : Int) := by omega
      have c8' : (k : Int) < (r : Int) := by omega
      clear hz3 l1 i1 CJ WIk hcz hcb hca r1 r2 r3 r4 ht ht2 ROW WT WI SP SQ QB PB HN HM ST d0 hBe hAe X3
      generalize (gp hs i).x = Q1 at *
      generalize (gp hs i).y = Q2 at *
      generalize (gp hs j).x = Q3 at *
      generalize (gp hs j).y = Q4 at *
      generalize (gp hs e).x = Q5 at *
      generalize (gp hs e).y = Q6 at *
      generalize (gp ps k).x = Q7 at *
      generalize (gp ps k).y = Q8 at *
      go_wp2_with fail
      refine (CJ2.out _ (by (repeat' (first | (with_reducible exact Below.refl _ _) | (with_reducible assumption) | (with_reducible refine below_ext _ ?_ ?_) | (with_reducible refine Below.alloc ?_ ?_ _) | (with_reducible refine Below.drew ?_) | (with_reducible refine below_drewN ?_ _) | (with_reducible refine le_drewN _ ?_) | (with_reducible refine Below.setCell ?_ ?_ _) | (with_reducible exact Nat.le_refl _) | (with_reducible refine le_ext _ ?_) | (with_reducible refine le_alloc _ ?_) | (with_reducible refine le_setCell _ _ ?_) | (with_reducible refine le_drew ?_) | omega | (simp; done) | (simp; omega))))).mono ?_
      rintro e w' ⟨rfl, hw'⟩; have hzy5 := ext_sz hw'; obtain ⟨y5, rfl⟩ := hw'; (try simp at hzy5)
      go_wp2_with fail
      refine wp_region_ext (by kernel_rfl) (by kernel_rfl) ?_
      repeat (go_big_quiet_step ((first | (go_at_call 80; exact Calls.in_ext (TI.out _)))))
      refine wpQuiet_nil ?_
      rintro _ hnq
      have hzq := ext_sz hnq
      obtain ⟨nq, rfl⟩ := hnq
      (try simp at hzq)
      go_wp2_with fail
      exact ⟨⟨k + 1, by omega, by go_num, (ext_mk (by (repeat' (first | (with_reducible exact Below.refl _ _) | (with_reducible assumption) | (with_reducible refine below_ext _ ?_ ?_) | (with_reducible refine Below.alloc ?_ ?_ _) | (with_reducible refine Below.drew ?_) | (with_reducible refine below_drewN ?_ _) | (with_reducible refine le_drewN _ ?_) | (with_reducible refine Below.setCell ?_ ?_ _) | (with_reducible exact Nat.le_refl _) | (with_reducible refine le_ext _ ?_) | (with_reducible refine le_alloc _ ?_) | (with_reducible refine le_setCell _ _ ?_) | (with_reducible refine le_drew ?_) | omega | (simp; done) | (simp; omega)))))⟩, by simp [intOf]; omega⟩
    · have ek : k = r := by omega
      clear ek
      go_wp2_with fail
      go_ret
      exact ⟨rfl, ext_mk (X4.trans (Below.mono (show Below W0.heap.size W0 _ from (by (repeat' (first | (with_reducible exact Below.refl _ _) | (with_reducible assumption) | (with_reducible refine below_ext _ ?_ ?_) | (with_reducible refine Below.alloc ?_ ?_ _) | (with_reducible refine Below.drew ?_) | (with_reducible refine below_drewN ?_ _) | (with_reducible refine le_drewN _ ?_) | (with_reducible refine Below.setCell ?_ ?_ _) | (with_reducible exact Nat.le_refl _) | (with_reducible refine le_ext _ ?_) | (with_reducible refine le_alloc _ ?_) | (with_reducible refine le_setCell _ _ ?_) | (with_reducible refine le_drew ?_) | omega | (simp; done) | (simp; omega))))) X5))⟩
end Go.Proofs.Ytelhidonhldjeaa
