
/- The reference's CheckHull. -/
import Derived.Test.YtelhidonhldjeaaChkT
set_option linter.unusedVariables false
set_option linter.unusedSimpArgs false
namespace Go.Proofs.Ytelhidonhldjeaa
open Go.RowKit

theorem chk_no {ps hs : List Pt} {zss : List (List Int)} (h : ¬ (listOk ps = true ∧ ps.length ≠ 0 ∧ listOk hs = true ∧ shapedB hs = true ∧ zss.length = ps.length ∧ (∀ q ∈ hs, q ∈ ps) ∧ ∀ i, i < ps.length → rowB hs (gp ps i) (gz zss i) = true)) : chkB ps hs zss = false := by
  rw [← Bool.not_eq_true, chk_iff]; exact h
theorem row3 {zs : List Int} (h : zs.length = 3) : ∃ a b c, zs = [a, b, c] := by
  match zs, h with
  | [a, b, c], _ => exact ⟨a, b, c, rfl⟩
theorem rowB_len {hs : List Pt} {q : Pt} {zs : List Int} (h : zs.length ≠ 3) : rowB hs q zs = false := by
  unfold rowB; rw [decide_eq_false h]; rfl
theorem rowB_abc (hs : List Pt) (q : Pt) (a b c : Int) : rowB hs q [a, b, c] = ((inB a 0 ((hs.length : Int) - 1) && inB b 0 ((hs.length : Int) - 1) && inB c 0 ((hs.length : Int) - 1)) && triB (gp hs a.toNat) (gp hs b.toNat) (gp hs c.toNat) q) := rfl
theorem inB_nat {a : Int} {m : Nat} (h : inB a 0 ((m : Int) - 1) = true) : ∃ i : Nat, a = i ∧ i < m := by
  obtain ⟨h1, h2⟩ := inB_iff.1 h
  obtain ⟨i, rfl⟩ := Int.eq_ofNat_of_zero_le h1
  exact ⟨i, rfl, by omega⟩
set_option maxRecDepth 20000 in
set_option maxHeartbeats 8000000 in
theorem sChk_any (ps hs : List Pt) (zss : List (List Int)) (A B Z : Option Addr) (n c m d r f : Nat) (w : World) (hn : ps.length = n) (hm : hs.length = m) (kn : n ≤ 1000) (km : m ≤ 1000) (kr : r ≤ 1000)
    (sp : PtsAt w w.heap.size A ps) (sh : PtsAt w w.heap.size B hs) (sz : RowsAt w Z r zss) :
    Calls Try.prog 36 #[.slice A n c, .slice B m d, .slice Z r f] w fun e w' => e = .returned (.bool (chkB ps hs zss)) ∧ ∃ x, w' = ext w x := by
  have L1 := hide (validPoints_any ps A n c w hn (by omega) sp)
  have L2 := hide (fun (W : World) (hb : Below w.heap.size w W) => validPoints_any hs B m d W hm (by omega) (sh.to hb))
  have lz := sz.1
  by_cases h1 : listOk ps = true
  case neg =>
    have h1 := eq_false_of_ne_true h1
    rw [h1] at L1
    have R := hide (chk_no (ps := ps) (hs := hs) (zss := zss) (fun hh => by rw [h1] at hh; cases hh.1))
    clear h1 L2 hn hm sp sh sz lz
    go_enter Try.func36, Try.ntmps36
    go_wp2_with fail
    refine L1.out.mono ?_
    rintro e w' ⟨rfl, hw'⟩; have hzy1 := ext_sz hw'; obtain ⟨y1, rfl⟩ := hw'; (try simp at hzy1)
    go_wp2_with fail
    go_ret
    exact ⟨ret_bool R.out.symm, (ext_mk (by (repeat' (first | (with_reducible exact Below.refl _ _) | (with_reducible assumption) | (with_reducible refine below_ext _ ?_ ?_) | (with_reducible refine Below.alloc ?_ ?_ _) | (with_reducible refine Below.drew ?_) | (with_reducible refine below_drewN ?_ _) | (with_reducible refine le_drewN _ ?_) | (with_reducible refine Below.setCell ?_ ?_ _) | (with_reducible exact Nat.le_refl _) | (with_reducible refine le_ext _ ?_) | (with_reducible refine le_alloc _ ?_) | (with_reducible refine le_setCell _ _ ?_) | (with_reducible refine le_drew ?_) | omega | (simp; done) | (simp; omega)))))⟩
  rw [h1] at L1
  by_cases h2 : listOk hs = true
  case neg =>
    have h2 := eq_false_of_ne_true h2
    rw [h2] at L2
    have R := hide (chk_no (ps := ps) (hs := hs) (zss := zss) (fun hh => by rw [h2] at hh; cases hh.2.2.1))
    clear h1 h2 hn hm sp sh sz lz
    go_enter Try.func36, Try.ntmps36
    go_wp2_with fail
    refine L1.out.mono ?_
    rintro e w' ⟨rfl, hw'⟩; have hzy1 := ext_sz hw'; obtain ⟨y1, rfl⟩ := hw'; (try simp at hzy1)
    go_wp2_with fail
    refine (L2.out _ (by (repeat' (first | (with_reducible exact Below.refl _ _) | (with_reducible assumption) | (with_reducible refine below_ext _ ?_ ?_) | (with_reducible refine Below.alloc ?_ ?_ _) | (with_reducible refine Below.drew ?_) | (with_reducible refine below_drewN ?_ _) | (with_reducible refine le_drewN _ ?_) | (with_reducible refine Below.setCell ?_ ?_ _) | (with_reducible exact Nat.le_refl _) | (with_reducible refine le_ext _ ?_) | (with_reducible refine le_alloc _ ?_) | (with_reducible refine le_setCell _ _ ?_) | (with_reducible refine le_drew ?_) | omega | (simp; done) | (simp; omega))))).mono ?_
    rintro e w' ⟨rfl, hw'⟩; have hzy2 := ext_sz hw'; obtain ⟨y2, rfl⟩ := hw'; (try simp at hzy2)
    go_wp2_with fail
    go_ret
    exact ⟨ret_bool R.out.symm, (ext_mk (by (repeat' (first | (with_reducible exact Below.refl _ _) | (with_reducible assumption) | (with_reducible refine below_ext _ ?_ ?_) | (with_reducible refine Below.alloc ?_ ?_ _) | (with_reducible refine Below.drew ?_) | (with_reducible refine below_drewN ?_ _) | (with_reducible refine le_drewN _ ?_) | (with_reducible refine Below.setCell ?_ ?_ _) | (with_reducible exact Nat.le_refl _) | (with_reducible refine le_ext _ ?_) | (with_reducible refine le_alloc _ ?_) | (with_reducible refine le_setCell _ _ ?_) | (with_reducible refine le_drew ?_) | omega | (simp; done) | (simp; omega)))))⟩
  rw [h2] at L2
  by_cases h0 : n = 0
  · have d0 : ((n : Int) == 0) = true := by rw [h0]; rfl
    have R := hide (chk_no (ps := ps) (hs := hs) (zss := zss) (fun hh => hh.2.1 (by rw [hn]; exact h0)))
    clear h1 h2 hn hm sp sh sz lz h0
    go_enter Try.func36, Try.ntmps36
    go_wp2_with fail
    refine L1.out.mono ?_
    rintro e w' ⟨rfl, hw'⟩; have hzy1 := ext_sz hw'; obtain ⟨y1, rfl⟩ := hw'; (try simp at hzy1)
    go_wp2_with fail
    refine (L2.out _ (by (repeat' (first | (with_reducible exact Below.refl _ _) | (with_reducible assumption) | (with_reducible refine below_ext _ ?_ ?_) | (with_reducible refine Below.alloc ?_ ?_ _) | (with_reducible refine Below.drew ?_) | (with_reducible refine below_drewN ?_ _) | (with_reducible refine le_drewN _ ?_) | (with_reducible refine Below.setCell ?_ ?_ _) | (with_reducible exact Nat.le_refl _) | (with_reducible refine le_ext _ ?_) | (with_reducible refine le_alloc _ ?_) | (with_reducible refine le_setCell _ _ ?_) | (with_reducible refine le_drew ?_) | omega | (simp; done) | (simp; omega))))).mono ?_
    rintro e w' ⟨rfl, hw'⟩; have hzy2 := ext_sz hw'; obtain ⟨y2, rfl⟩ := hw'; (try simp at hzy2)
    go_wp2_with fail
    go_ret
    exact ⟨ret_bool R.out.symm, (ext_mk (by (repeat' (first | (with_reducible exact Below.refl _ _) | (with_reducible assumption) | (with_reducible refine below_ext _ ?_ ?_) | (with_reducible refine Below.alloc ?_ ?_ _) | (with_reducible refine Below.drew ?_) | (with_reducible refine below_drewN ?_ _) | (with_reducible refine le_drewN _ ?_) | (with_reducible refine Below.setCell ?_ ?_ _) | (with_reducible exact Nat.le_refl _) | (with_reducible refine le_ext _ ?_) | (with_reducible refine le_alloc _ ?_) | (with_reducible refine le_setCell _ _ ?_) | (with_reducible refine le_drew ?_) | omega | (simp; done) | (simp; omega)))))⟩
  have d0 : ((n : Int) == 0) = false := by rw [beq_eq_false_iff_ne]; omega
  by_cases h5 : r = n
  case neg =>
    have d5 : ((r : Int) != (n : Int)) = true := by rw [bne_iff_ne]; omega
    have R := hide (chk_no (ps := ps) (hs := hs) (zss := zss) (fun hh => h5 (by have := hh.2.2.2.2.1; omega)))
    clear h1 h2 hn hm sp sh sz lz h0 h5
    go_enter Try.func36, Try.ntmps36
    go_wp2_with fail
    refine L1.out.mono ?_
    rintro e w' ⟨rfl, hw'⟩; have hzy1 := ext_sz hw'; obtain ⟨y1, rfl⟩ := hw'; (try simp at hzy1)
    go_wp2_with fail
    refine (L2.out _ (by (repeat' (first | (with_reducible exact Below.refl _ _) | (with_reducible assumption) | (with_reducible refine below_ext _ ?_ ?_) | (with_reducible refine Below.alloc ?_ ?_ _) | (with_reducible refine Below.drew ?_) | (with_reducible refine below_drewN ?_ _) | (with_reducible refine le_drewN _ ?_) | (with_reducible refine Below.setCell ?_ ?_ _) | (with_reducible exact Nat.le_refl _) | (with_reducible refine le_ext _ ?_) | (with_reducible refine le_alloc _ ?_) | (with_reducible refine le_setCell _ _ ?_) | (with_reducible refine le_drew ?_) | omega | (simp; done) | (simp; omega))))).mono ?_
    rintro e w' ⟨rfl, hw'⟩; have hzy2 := ext_sz hw'; obtain ⟨y2, rfl⟩ := hw'; (try simp at hzy2)
    go_wp2_with fail
    go_ret
    exact ⟨ret_bool R.out.symm, (ext_mk (by (repeat' (first | (with_reducible exact Below.refl _ _) | (with_reducible assumption) | (with_reducible refine below_ext _ ?_ ?_) | (with_reducible refine Below.alloc ?_ ?_ _) | (with_reducible refine Below.drew ?_) | (with_reducible refine below_drewN ?_ _) | (with_reducible refine le_drewN _ ?_) | (with_reducible refine Below.setCell ?_ ?_ _) | (with_reducible exact Nat.le_refl _) | (with_reducible refine le_ext _ ?_) | (with_reducible refine le_alloc _ ?_) | (with_reducible refine le_setCell _ _ ?_) | (with_reducible refine le_drew ?_) | omega | (simp; done) | (simp; omega)))))⟩
  subst h5
  have d5 : ((r : Int) != (r : Int)) = false := by simp
  obtain ⟨pb, pn⟩ := listOk_InB h1
  obtain ⟨qb, qn⟩ := listOk_InB h2
  have SH := hide (fun (W : World) (hb : Below w.heap.size w W) => scheck_any hs B m d W hm km qb (sh.to hb))
  rw [shape_eq h2] at SH
  by_cases h3 : shapedB hs = true
  case neg =>
    have h3 := eq_false_of_ne_true h3
    rw [h3] at SH
    have R := hide (chk_no (ps := ps) (hs := hs) (zss := zss) (fun hh => by rw [h3] at hh; cases hh.2.2.2.1))
    clear h1 h2 h3 hn hm sp sh sz lz h0 pb pn qb qn
    go_enter Try.func36, Try.ntmps36
    go_wp2_with fail
    refine L1.out.mono ?_
    rintro e w' ⟨rfl, hw'⟩; have hzy1 := ext_sz hw'; obtain ⟨y1, rfl⟩ := hw'; (try simp at hzy1)
    go_wp2_with fail
    refine (L2.out _ (by (repeat' (first | (with_reducible exact Below.refl _ _) | (with_reducible assumption) | (with_reducible refine below_ext _ ?_ ?_) | (with_reducible refine Below.alloc ?_ ?_ _) | (with_reducible refine Below.drew ?_) | (with_reducible refine below_drewN ?_ _) | (with_reducible refine le_drewN _ ?_) | (with_reducible refine Below.setCell ?_ ?_ _) | (with_reducible exact Nat.le_refl _) | (with_reducible refine le_ext _ ?_) | (with_reducible refine le_alloc _ ?_) | (with_reducible refine le_setCell _ _ ?_) | (with_reducible refine le_drew ?_) | omega | (simp; done) | (simp; omega))))).mono ?_
    rintro e w' ⟨rfl, hw'⟩; have hzy2 := ext_sz hw'; obtain ⟨y2, rfl⟩ := hw'; (try simp at hzy2)
    go_wp2_with fail
    refine (SH.out _ (by (repeat' (first | (with_reducible exact Below.refl _ _) | (with_reducible assumption) | (with_reducible refine below_ext _ ?_ ?_) | (with_reducible refine Below.alloc ?_ ?_ _) | (with_reducible refine Below.drew ?_) | (with_reducible refine below_drewN ?_ _) | (with_reducible refine le_drewN _ ?_) | (with_reducible refine Below.setCell ?_ ?_ _) | (with_reducible exact Nat.le_refl _) | (with_reducible refine le_ext _ ?_) | (with_reducible refine le_alloc _ ?_) | (with_reducible refine le_setCell _ _ ?_) | (with_reducible refine le_drew ?_) | omega | (simp; done) | (simp; omega))))).mono ?_
    rintro e w' ⟨rfl, hw'⟩; have hzy3 := ext_sz hw'; obtain ⟨y3, rfl⟩ := hw'; (try simp at hzy3)
    go_wp2_with fail
    go_ret
    exact ⟨ret_bool R.out.symm, (ext_mk (by (repeat' (first | (with_reducible exact Below.refl _ _) | (with_reducible assumption) | (with_reducible refine below_ext _ ?_ ?_) | (with_reducible refine Below.alloc ?_ ?_ _) | (with_reducible refine Below.drew ?_) | (with_reducible refine below_drewN ?_ _) | (with_reducible refine le_drewN _ ?_) | (with_reducible refine Below.setCell ?_ ?_ _) | (with_reducible exact Nat.le_refl _) | (with_reducible refine le_ext _ ?_) | (with_reducible refine le_alloc _ ?_) | (with_reducible refine le_setCell _ _ ?_) | (with_reducible refine le_drew ?_) | omega | (simp; done) | (simp; omega)))))⟩
  rw [h3] at SH
  have m0 : m ≠ 0 := by intro e; unfold shapedB at h3; rw [if_pos (hm.trans e)] at h3; cases h3
  have HAS := hide (fun (i : Nat) (W : World) (hb : Below w.heap.size w W) => shas_any ps (gp hs i).x (gp hs i).y A r c W hn (by omega) (sp.to hb))
  have NOI : Hid (∀ i, i < m → decide ((⟨(gp hs i).x, (gp hs i).y⟩ : Pt) ∈ ps) = false → chkB ps hs zss = false) := hide (fun i hi h => chk_no (fun hh => of_decide_eq_false h (hh.2.2.2.2.2.1 _ (gp_mem (show i < hs.length by omega)))))
  have NOR : Hid (∀ i, i < r → rowB hs (gp ps i) (gz zss i) = false → chkB ps hs zss = false) := hide (fun i hi h => chk_no (fun hh => by have := hh.2.2.2.2.2.2 i (by omega); rw [h] at this; cases this))
  have YES : Hid ((∀ i, i < m → decide ((⟨(gp hs i).x, (gp hs i).y⟩ : Pt) ∈ ps) = true) → (∀ i, i < r → rowB hs (gp ps i) (gz zss i) = true) → chkB ps hs zss = true) := hide (fun a b => chk_iff.2 ⟨h1, by omega, h2, h3, by omega, fun q hq => by
    obtain ⟨i, hi, e⟩ := gp_of_mem hq
    have := of_decide_eq_true (a i (by omega))
    rw [← e]; exact this, fun i hi => b i (by omega)⟩)
  have ROW := hide (fun (i : Nat) (hi : i < r) => sz.row (j := i) hi)
  have HN := hide hn
  have HM := hide hm
  have SP := hide sp
  have SQ := hide sh
  have PB : Hid (∀ i, i < r → (-100000 ≤ (gp ps i).x ∧ (gp ps i).x ≤ 100000) ∧ -100000 ≤ (gp ps i).y ∧ (gp ps i).y ≤ 100000) := hide (fun i hi => pb _ (gp_mem (by omega)))
  have QB : Hid (∀ i, i < m → (-100000 ≤ (gp hs i).x ∧ (gp hs i).x ≤ 100000) ∧ -100000 ≤ (gp hs i).y ∧ (gp hs i).y ≤ 100000) := hide (fun i hi => qb _ (gp_mem (by omega)))
  have IR := hide (fun (a : Int) (W : World) => (inRange_any a 0 ((m : Int) - 1) W).mono (fun e w' hh => (show e = .returned (.bool (inB a 0 ((m : Int) - 1))) ∧ ∃ x, w' = ext W x from ⟨hh.1, hh.2 ▸ ext_same _⟩)))
  have RB : Hid (∀ q a b e, rowB hs q [a, b, e] = ((inB a 0 ((m : Int) - 1) && inB b 0 ((m : Int) - 1) && inB e 0 ((m : Int) - 1)) && triB (gp hs a.toNat) (gp hs b.toNat) (gp hs e.toNat) q)) := hide (fun q a b e => by rw [← hm]; exact rowB_abc hs q a b e)
  have i1 : IntKind.i64.wrap ((m : Int) - 1) = (m : Int) - 1 := IntWalk.i64_in _ (by omega)
  have TRI := hide (fun (q a b e : Pt) (W : World) (hq : (-100000 ≤ q.x ∧ q.x ≤ 100000) ∧ -100000 ≤ q.y ∧ q.y ≤ 100000) (ha : (-100000 ≤ a.x ∧ a.x ≤ 100000) ∧ -100000 ≤ a.y ∧ a.y ≤ 100000) (hb : (-100000 ≤ b.x ∧ b.x ≤ 100000) ∧ -100000 ≤ b.y ∧ b.y ≤ 100000) (he : (-100000 ≤ e.x ∧ e.x ≤ 100000) ∧ -100000 ≤ e.y ∧ e.y ≤ 100000) => sinTri_any a.x a.y b.x b.y e.x e.y q.x q.y W ha.1 ha.2 hb.1 hb.2 he.1 he.2 hq.1 hq.2)
  clear h1 h2 h3 hn hm sp sh sz lz h0 pb pn qb qn
  go_enter Try.func36, Try.ntmps36
  go_wp2_with fail
  refine L1.out.mono ?_
  rintro e w' ⟨rfl, hw'⟩; have hzy1 := ext_sz hw'; obtain ⟨y1, rfl⟩ := hw'; (try simp at hzy1)
  go_wp2_with fail
  refine (L2.out _ (by (repeat' (first | (with_reducible exact Below.refl _ _) | (with_reducible assumption) | (with_reducible refine below_ext _ ?_ ?_) | (with_reducible refine Below.alloc ?_ ?_ _) | (with_reducible refine Below.drew ?_) | (with_reducible refine below_drewN ?_ _) | (with_reducible refine le_drewN _ ?_) | (with_reducible refine Below.setCell ?_ ?_ _) | (with_reducible exact Nat.le_refl _) | (with_reducible refine le_ext _ ?_) | (with_reducible refine le_alloc _ ?_) | (with_reducible refine le_setCell _ _ ?_) | (with_reducible refine le_drew ?_) | omega | (simp; done) | (simp; omega))))).mono ?_
  rintro e w' ⟨rfl, hw'⟩; have hzy2 := ext_sz hw'; obtain ⟨y2, rfl⟩ := hw'; (try simp at hzy2)
  go_wp2_with fail
  refine (SH.out _ (by (repeat' (first | (with_reducible exact Below.refl _ _) | (with_reducible assumption) | (with_reducible refine below_ext _ ?_ ?_) | (with_reducible refine Below.alloc ?_ ?_ _) | (with_reducible refine Below.drew ?_) | (with_reducible refine below_drewN ?_ _) | (with_reducible refine le_drewN _ ?_) | (with_reducible refine Below.setCell ?_ ?_ _) | (with_reducible exact Nat.le_refl _) | (with_reducible refine le_ext _ ?_) | (with_reducible refine le_alloc _ ?_) | (with_reducible refine le_setCell _ _ ?_) | (with_reducible refine le_drew ?_) | omega | (simp; done) | (simp; omega))))).mono ?_
  rintro e w' ⟨rfl, hw'⟩; have hzy3 := ext_sz hw'; obtain ⟨y3, rfl⟩ := hw'; (try simp at hzy3)
  have ST : Hid (∃ x, ext (ext (ext w y1) y2) y3 = ext w x) := hide (ext_mk (show Below w.heap.size w (ext (ext (ext w y1) y2) y3) from (by (repeat' (first | (with_reducible exact Below.refl _ _) | (with_reducible assumption) | (with_reducible refine below_ext _ ?_ ?_) | (with_reducible refine Below.alloc ?_ ?_ _) | (with_reducible refine Below.drew ?_) | (with_reducible refine below_drewN ?_ _) | (with_reducible refine le_drewN _ ?_) | (with_reducible refine Below.setCell ?_ ?_ _) | (with_reducible exact Nat.le_refl _) | (with_reducible refine le_ext _ ?_) | (with_reducible refine le_alloc _ ?_) | (with_reducible refine le_setCell _ _ ?_) | (with_reducible refine le_drew ?_) | omega | (simp; done) | (simp; omega))))))
  clear L1 L2 SH hzy1 hzy2 hzy3
  go_wp2_with fail
  go_loopw [7] (fun u7 wr => ∃ i : Nat, i ≤ m ∧ u7 = .int .i64 i ∧ Hid (∀ j, j < i → decide ((⟨(gp hs j).x, (gp hs j).y⟩ : Pt) ∈ ps) = true) ∧ ∃ x, wr = ext w x) (fun u7 _ => m - (intOf u7).toNat)
  case atStart => exact ⟨0, Nat.zero_le _, rfl, hide (fun j hj => by omega), ST.out⟩
  case round =>
    obtain ⟨i, hi, rfl, HF, x, rfl⟩ := hrel
    have hz := ext_size w x
    by_cases hlt : i < m
    · obtain ⟨b2, ob, rfl, hb2, hcb⟩ := SQ.out (by rw [HM.out]; omega)
      obtain ⟨u1, v1⟩ := hcb i (by rw [HM.out]; omega)
      have HA := hide (HAS.out i)
      have NOIi := hide (NOI.out i hlt)
      change w.cell? ⟨b2, ob + i * 2, none⟩ = some (.int .i64 (gp hs i).x) at u1
      change w.cell? ⟨b2, ob + i * 2 + 1, none⟩ = some (.int .i64 (gp hs i).y) at v1
      have q1 : (0 : Int) ≤ (i : Int) := by omega
      have q2 : (i : Int) < (m : Int) := by omega
      clear hcb
      by_cases hl : decide ((⟨(gp hs i).x, (gp hs i).y⟩ : Pt) ∈ ps) = true
      · have HL := hide hl
        rw [hl] at HA
        clear hl NOIi
        go_wp2_with fail
        refine (HA.out _ (by (repeat' (first | (with_reducible exact Below.refl _ _) | (with_reducible assumption) | (with_reducible refine below_ext _ ?_ ?_) | (with_reducible refine Below.alloc ?_ ?_ _) | (with_reducible refine Below.drew ?_) | (with_reducible refine below_drewN ?_ _) | (with_reducible refine le_drewN _ ?_) | (with_reducible refine Below.setCell ?_ ?_ _) | (with_reducible exact Nat.le_refl _) | (with_reducible refine le_ext _ ?_) | (with_reducible refine le_alloc _ ?_) | (with_reducible refine le_setCell _ _ ?_) | (with_reducible refine le_drew ?_) | omega | (simp; done) | (simp; omega))))).mono ?_
        rintro e w' ⟨rfl, hw'⟩; have hzy5 := ext_sz hw'; obtain ⟨y5, rfl⟩ := hw'; (try simp at hzy5)
        go_wp2_with fail
        exact ⟨⟨i + 1, by omega, by go_num, hide (fun j hj => by
          by_cases e : j = i
          · rw [e]; exact HL.out
          · exact HF.out j (by omega)), (ext_mk (by (repeat' (first | (with_reducible exact Below.refl _ _) | (with_reducible assumption) | (with_reducible refine below_ext _ ?_ ?_) | (with_reducible refine Below.alloc ?_ ?_ _) | (with_reducible refine Below.drew ?_) | (with_reducible refine below_drewN ?_ _) | (with_reducible refine le_drewN _ ?_) | (with_reducible refine Below.setCell ?_ ?_ _) | (with_reducible exact Nat.le_refl _) | (with_reducible refine le_ext _ ?_) | (with_reducible refine le_alloc _ ?_) | (with_reducible refine le_setCell _ _ ?_) | (with_reducible refine le_drew ?_) | omega | (simp; done) | (simp; omega)))))⟩, by simp [intOf]; omega⟩
      · have hl := eq_false_of_ne_true hl
        have R := hide (NOIi.out hl)
        rw [hl] at HA
        clear hl NOIi
        go_wp2_with fail
        refine (HA.out _ (by (repeat' (first | (with_reducible exact Below.refl _ _) | (with_reducible assumption) | (with_reducible refine below_ext _ ?_ ?_) | (with_reducible refine Below.alloc ?_ ?_ _) | (with_reducible refine Below.drew ?_) | (with_reducible refine below_drewN ?_ _) | (with_reducible refine le_drewN _ ?_) | (with_reducible refine Below.setCell ?_ ?_ _) | (with_reducible exact Nat.le_refl _) | (with_reducible refine le_ext _ ?_) | (with_reducible refine le_alloc _ ?_) | (with_reducible refine le_setCell _ _ ?_) | (with_reducible refine le_drew ?_) | omega | (simp; done) | (simp; omega))))).mono ?_
        rintro e w' ⟨rfl, hw'⟩; have hzy5 := ext_sz hw'; obtain ⟨y5, rfl⟩ := hw'; (try simp at hzy5)
        go_wp2_with fail
        go_ret
        exact ⟨ret_bool R.out.symm, (ext_mk (by (repeat' (first | (with_reducible exact Below.refl _ _) | (with_reducible assumption) | (with_reducible refine below_ext _ ?_ ?_) | (with_reducible refine Below.alloc ?_ ?_ _) | (with_reducible refine Below.drew ?_) | (with_reducible refine below_drewN ?_ _) | (with_reducible refine le_drewN _ ?_) | (with_reducible refine Below.setCell ?_ ?_ _) | (with_reducible exact Nat.le_refl _) | (with_reducible refine le_ext _ ?_) | (with_reducible refine le_alloc _ ?_) | (with_reducible refine le_setCell _ _ ?_) | (with_reducible refine le_drew ?_) | omega | (simp; done) | (simp; omega)))))⟩
    · have ei : i = m := by omega
      have YES2 := hide (YES.out (fun j hj => HF.out j (by omega)))
      clear ei HF YES NOI HAS
      go_wp2_with fail
      go_loopw [8, 9] (fun u8 _ wr => ∃ k : Nat, k ≤ r ∧ u8 = .int .i64 k ∧ Hid (∀ j, j < k → rowB hs (gp ps j) (gz zss j) = true) ∧ ∃ x, wr = ext w x) (fun u8 _ _ => r - (intOf u8).toNat)
      case atStart => exact ⟨0, Nat.zero_le _, rfl, hide (fun j hj => by omega), x, rfl⟩
      case round =>
        obtain ⟨k, hk, rfl, HR, x2, rfl⟩ := hrel
        have hz2 := ext_size w x2
        by_cases hlk : k < r
        · obtain ⟨g, o, rfl, hg, A1, n1, c1, hc1, l1, lq1, i1'⟩ := ROW.out k hlk
          have NORk := hide (NOR.out k hlk)
          have q1 : (0 : Int) ≤ (k : Int) := by omega
          have q2 : (k : Int) < (r : Int) := by omega
          by_cases e3 : n1 = 3
          case neg =>
            have R := hide (NORk.out (rowB_len (fun h => e3 (l1.symm.trans h))))
            have d3 : ((n1 : Int) != 3) = true := by rw [bne_iff_ne]; omega
            clear l1 i1' e3 NORk NOR YES2 ROW
            go_wp2_with fail
            refine wp_region_ext (by kernel_rfl) (by kernel_rfl) ?_
            repeat (go_big_quiet_step (fail))
            refine wpQuiet_nil ?_
            rintro _ hnq
            have hzq := ext_sz hnq
            obtain ⟨nq, rfl⟩ := hnq
            (try simp at hzq)
            go_wp2_with fail
            go_ret
            exact ⟨ret_bool R.out.symm, (ext_mk (by (repeat' (first | (with_reducible exact Below.refl _ _) | (with_reducible assumption) | (with_reducible refine below_ext _ ?_ ?_) | (with_reducible refine Below.alloc ?_ ?_ _) | (with_reducible refine Below.drew ?_) | (with_reducible refine below_drewN ?_ _) | (with_reducible refine le_drewN _ ?_) | (with_reducible refine Below.setCell ?_ ?_ _) | (with_reducible exact Nat.le_refl _) | (with_reducible refine le_ext _ ?_) | (with_reducible refine le_alloc _ ?_) | (with_reducible refine le_setCell _ _ ?_) | (with_reducible refine le_drew ?_) | omega | (simp; done) | (simp; omega)))))⟩
          obtain ⟨a, b, e, hz3⟩ := row3 (l1.trans e3)
          rw [hz3] at l1 i1'
          have d3 : ((n1 : Int) != 3) = false := by rw [e3]; rfl
          obtain ⟨g1, o1, rfl, hg1, hcz⟩ := i1' (by simp)
          have z0 := hcz 0 (by simp)
          have z1 := hcz 1 (by simp)
          have z2 := hcz 2 (by simp)
          change w.cell? ⟨g1, o1 + 0, none⟩ = some (.int .i64 a) at z0
          change w.cell? ⟨g1, o1 + 1, none⟩ = some (.int .i64 b) at z1
          change w.cell? ⟨g1, o1 + 2, none⟩ = some (.int .i64 e) at z2
          rw [Nat.add_zero] at z0
          have a0 : 0 < n1 := by omega
          have a1 : 1 < n1 := by omega
          have a2 : 2 < n1 := by omega
          have a3 : (0 : Int) < (n1 : Int) := by omega
          have a4 : (1 : Int) < (n1 : Int) := by omega
          have a5 : (2 : Int) < (n1 : Int) := by omega
          have RBk := hide (RB.out (gp ps k) a b e)
          rw [hz3] at NORk
          have ZE := hide hz3
          clear l1 i1' e3 hcz hz3
          by_cases ha : inB a 0 ((m : Int) - 1) = true
          case neg =>
            have ha := eq_false_of_ne_true ha
            have R := hide (NORk.out (by rw [RBk.out, ha]; rfl))
            clear NORk NOR YES2 ROW RBk RB ZE
            go_wp2_with fail
            refine wp_region_ext (by kernel_rfl) (by kernel_rfl) ?_
            repeat (go_big_quiet_step ((first | (go_at_call 86; exact Calls.in_ext (IR.out _ _)))))
            refine wpQuiet_nil ?_
            rintro _ hnq
            have hzq := ext_sz hnq
            obtain ⟨nq, rfl⟩ := hnq
            (try simp at hzq)
            go_wp2_with fail
            go_ret
            exact ⟨ret_bool R.out.symm, (ext_mk (by (repeat' (first | (with_reducible exact Below.refl _ _) | (with_reducible assumption) | (with_reducible refine below_ext _ ?_ ?_) | (with_reducible refine Below.alloc ?_ ?_ _) | (with_reducible refine Below.drew ?_) | (with_reducible refine below_drewN ?_ _) | (with_reducible refine le_drewN _ ?_) | (with_reducible refine Below.setCell ?_ ?_ _) | (with_reducible exact Nat.le_refl _) | (with_reducible refine le_ext _ ?_) | (with_reducible refine le_alloc _ ?_) | (with_reducible refine le_setCell _ _ ?_) | (with_reducible refine le_drew ?_) | omega | (simp; done) | (simp; omega)))))⟩
          by_cases hb : inB b 0 ((m : Int) - 1) = true
          case neg =>
            have hb := eq_false_of_ne_true hb
            have R := hide (NORk.out (by rw [RBk.out, ha, hb]; rfl))
            clear NORk NOR YES2 ROW RBk RB ZE
            go_wp2_with fail
            refine wp_region_ext (by kernel_rfl) (by kernel_rfl) ?_
            repeat (go_big_quiet_step ((first | (go_at_call 86; exact Calls.in_ext (IR.out _ _)))))
            refine wpQuiet_nil ?_
            rintro _ hnq
            have hzq := ext_sz hnq
            obtain ⟨nq, rfl⟩ := hnq
            (try simp at hzq)
            go_wp2_with fail
            go_ret
            exact ⟨ret_bool R.out.symm, (ext_mk (by (repeat' (first | (with_reducible exact Below.refl _ _) | (with_reducible assumption) | (with_reducible refine below_ext _ ?_ ?_) | (with_reducible refine Below.alloc ?_ ?_ _) | (with_reducible refine Below.drew ?_) | (with_reducible refine below_drewN ?_ _) | (with_reducible refine le_drewN _ ?_) | (with_reducible refine Below.setCell ?_ ?_ _) | (with_reducible exact Nat.le_refl _) | (with_reducible refine le_ext _ ?_) | (with_reducible refine le_alloc _ ?_) | (with_reducible refine le_setCell _ _ ?_) | (with_reducible refine le_drew ?_) | omega | (simp; done) | (simp; omega)))))⟩
          by_cases he : inB e 0 ((m : Int) - 1) = true
          case neg =>
            have he := eq_false_of_ne_true he
            have R := hide (NORk.out (by rw [RBk.out, ha, hb, he]; rfl))
            clear NORk NOR YES2 ROW RBk RB ZE
            go_wp2_with fail
            refine wp_region_ext (by kernel_rfl) (by kernel_rfl) ?_
            repeat (go_big_quiet_step ((first | (go_at_call 86; exact Calls.in_ext (IR.out _ _)))))
            refine wpQuiet_nil ?_
            rintro _ hnq
            have hzq := ext_sz hnq
            obtain ⟨nq, rfl⟩ := hnq
            (try simp at hzq)
            go_wp2_with fail
            go_ret
            exact ⟨ret_bool R.out.symm, (ext_mk (by (repeat' (first | (with_reducible exact Below.refl _ _) | (with_reducible assumption) | (with_reducible refine below_ext _ ?_ ?_) | (with_reducible refine Below.alloc ?_ ?_ _) | (with_reducible refine Below.drew ?_) | (with_reducible refine below_drewN ?_ _) | (with_reducible refine le_drewN _ ?_) | (with_reducible refine Below.setCell ?_ ?_ _) | (with_reducible exact Nat.le_refl _) | (with_reducible refine le_ext _ ?_) | (with_reducible refine le_alloc _ ?_) | (with_reducible refine le_setCell _ _ ?_) | (with_reducible refine le_drew ?_) | omega | (simp; done) | (simp; omega)))))⟩
          rw [ha, hb, he] at RBk
          obtain ⟨ia, rfl, la⟩ := inB_nat ha
          obtain ⟨ib, rfl, lb⟩ := inB_nat hb
          obtain ⟨ie, rfl, le⟩ := inB_nat he
          rw [Int.toNat_natCast, Int.toNat_natCast, Int.toNat_natCast] at RBk
          obtain ⟨b2, ob, rfl, hb2, hcb⟩ := SQ.out (by rw [HM.out]; omega)
          obtain ⟨u1, v1⟩ := hcb ia (by rw [HM.out]; omega)
          obtain ⟨u2, v2⟩ := hcb ib (by rw [HM.out]; omega)
          obtain ⟨u3, v3⟩ := hcb ie (by rw [HM.out]; omega)
          obtain ⟨b3, oa, rfl, hb3, hca⟩ := SP.out (by rw [HN.out]; omega)
          obtain ⟨u4, v4⟩ := hca k (by rw [HN.out]; omega)
          have TI := hide (fun W => TRI.out (gp ps k) (gp hs ia) (gp hs ib) (gp hs ie) W (PB.out k hlk) (QB.out ia la) (QB.out ib lb) (QB.out ie le))
          have TV : Hid (rowB hs (gp ps k) [(ia : Int), (ib : Int), (ie : Int)] = triB ⟨(gp hs ia).x, (gp hs ia).y⟩ ⟨(gp hs ib).x, (gp hs ib).y⟩ ⟨(gp hs ie).x, (gp hs ie).y⟩ ⟨(gp ps k).x, (gp ps k).y⟩) := hide RBk.out
          change w.cell? ⟨b2, ob + ia * 2, none⟩ = some (.int .i64 (gp hs ia).x) at u1
          change w.cell? ⟨b2, ob + ia * 2 + 1, none⟩ = some (.int .i64 (gp hs ia).y) at v1
          change w.cell? ⟨b2, ob + ib * 2, none⟩ = some (.int .i64 (gp hs ib).x) at u2
          change w.cell? ⟨b2, ob + ib * 2 + 1, none⟩ = some (.int .i64 (gp hs ib).y) at v2
          change w.cell? ⟨b2, ob + ie * 2, none⟩ = some (.int .i64 (gp hs ie).x) at u3
          change w.cell? ⟨b2, ob + ie * 2 + 1, none⟩ = some (.int .i64 (gp hs ie).y) at v3
          change w.cell? ⟨b3, oa + k * 2, none⟩ = some (.int .i64 (gp ps k).x) at u4
          change w.cell? ⟨b3, oa + k * 2 + 1, none⟩ = some (.int .i64 (gp ps k).y) at v4
          have c1' : (0 : Int) ≤ (ia : Int) := by omega
          have c2' : (ia : Int) < (m : Int) := by omega
          have c3' : (0 : Int) ≤ (ib : Int) := by omega
          have c4' : (ib : Int) < (m : Int) := by omega
          have c5' : (0 : Int) ≤ (ie : Int) := by omega
          have c6' : (ie : Int) < (m : Int) := by omega
          have HRk : Hid (rowB hs (gp ps k) [(ia : Int), (ib : Int), (ie : Int)] = true → ∀ j, j < k + 1 → rowB hs (gp ps j) (gz zss j) = true) := hide (fun h j hj => by
            by_cases ee : j = k
            · rw [ee, ZE.out]; exact h
            · exact HR.out j (by omega))
          clear hcb hca RBk RB ZE ROW PB QB TRI SP SQ HN HM HR
          generalize (gp hs ia).x = Q1 at *
          generalize (gp hs ia).y = Q2 at *
          generalize (gp hs ib).x = Q3 at *
          generalize (gp hs ib).y = Q4 at *
          generalize (gp hs ie).x = Q5 at *
          generalize (gp hs ie).y = Q6 at *
          generalize (gp ps k).x = Q7 at *
          generalize (gp ps k).y = Q8 at *
          by_cases ht : triB ⟨Q1, Q2⟩ ⟨Q3, Q4⟩ ⟨Q5, Q6⟩ ⟨Q7, Q8⟩ = true
          · have RT := hide (HRk.out (TV.out.trans ht))
            rw [ht] at TI
            clear ht TV HRk NORk NOR
            go_wp2_with fail
            refine wp_region_ext (by kernel_rfl) (by kernel_rfl) ?_
            repeat (go_big_quiet_step ((first | (go_at_call 86; exact Calls.in_ext (IR.out _ _)) | (go_at_call 87; exact Calls.in_ext (TI.out _)))))
            refine wpQuiet_nil ?_
            rintro _ hnq
            have hzq := ext_sz hnq
            obtain ⟨nq, rfl⟩ := hnq
            (try simp at hzq)
            go_wp2_with fail
            exact ⟨⟨k + 1, by omega, by go_num, RT, (ext_mk (by (repeat' (first | (with_reducible exact Below.refl _ _) | (with_reducible assumption) | (with_reducible refine below_ext _ ?_ ?_) | (with_reducible refine Below.alloc ?_ ?_ _) | (with_reducible refine Below.drew ?_) | (with_reducible refine below_drewN ?_ _) | (with_reducible refine le_drewN _ ?_) | (with_reducible refine Below.setCell ?_ ?_ _) | (with_reducible exact Nat.le_refl _) | (with_reducible refine le_ext _ ?_) | (with_reducible refine le_alloc _ ?_) | (with_reducible refine le_setCell _ _ ?_) | (with_reducible refine le_drew ?_) | omega | (simp; done) | (simp; omega)))))⟩, by simp [intOf]; omega⟩
          · have ht := eq_false_of_ne_true ht
            have R := hide (NORk.out (TV.out.trans ht))
            rw [ht] at TI
            clear ht TV HRk NORk NOR YES2
            go_wp2_with fail
            refine wp_region_ext (by kernel_rfl) (by kernel_rfl) ?_
            repeat (go_big_quiet_step ((first | (go_at_call 86; exact Calls.in_ext (IR.out _ _)) | (go_at_call 87; exact Calls.in_ext (TI.out _)))))
            refine wpQuiet_nil ?_
            rintro _ hnq
            have hzq := ext_sz hnq
            obtain ⟨nq, rfl⟩ := hnq
            (try simp at hzq)
            go_wp2_with fail
            go_ret
            exact ⟨ret_bool R.out.symm, (ext_mk (by (repeat' (first | (with_reducible exact Below.refl _ _) | (with_reducible assumption) | (with_reducible refine below_ext _ ?_ ?_) | (with_reducible refine Below.alloc ?_ ?_ _) | (with_reducible refine Below.drew ?_) | (with_reducible refine below_drewN ?_ _) | (with_reducible refine le_drewN _ ?_) | (with_reducible refine Below.setCell ?_ ?_ _) | (with_reducible exact Nat.le_refl _) | (with_reducible refine le_ext _ ?_) | (with_reducible refine le_alloc _ ?_) | (with_reducible refine le_setCell _ _ ?_) | (with_reducible refine le_drew ?_) | omega | (simp; done) | (simp; omega)))))⟩
        · have ek : k = r := by omega
          have R := hide (YES2.out (fun j hj => HR.out j (by omega)))
          clear ek
          go_wp2_with fail
          go_ret
          exact ⟨ret_bool R.out.symm, (ext_mk (by (repeat' (first | (with_reducible exact Below.refl _ _) | (with_reducible assumption) | (with_reducible refine below_ext _ ?_ ?_) | (with_reducible refine Below.alloc ?_ ?_ _) | (with_reducible refine Below.drew ?_) | (with_reducible refine below_drewN ?_ _) | (with_reducible refine le_drewN _ ?_) | (with_reducible refine Below.setCell ?_ ?_ _) | (with_reducible exact Nat.le_refl _) | (with_reducible refine le_ext _ ?_) | (with_reducible refine le_alloc _ ?_) | (with_reducible refine le_setCell _ _ ?_) | (with_reducible refine le_drew ?_) | omega | (simp; done) | (simp; omega)))))⟩
end Go.Proofs.Ytelhidonhldjeaa
