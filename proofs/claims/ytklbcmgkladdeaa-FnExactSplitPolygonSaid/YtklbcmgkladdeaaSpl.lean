
/- SplitPolygon: the parts of a polygon, plain; the program's and the reference's. -/
import Derived.Test.YtklbcmgkladdeaaDiagL
import Derived.Test.YtklbcmgkladdeaaCanM
import Derived.Test.YtklbcmgkladdeaaSorted
import Derived.Test.YtklbcmgkladdeaaDrawA
set_option linter.unusedVariables false
set_option linter.unusedSimpArgs false
namespace Go.Proofs.Ytklbcmgkladdeaa
open Go.RowKit

/-! ### the parts -/
def arcTo (ps : List Pt) (i j : Nat) : List Pt := (List.range j).map fun t => gp ps ((i + t) % ps.length)
theorem arcTo_arc (ps : List Pt) (i d : Nat) : arcTo ps i (d + 1) = arc ps i d := rfl
theorem arcTo_len (ps : List Pt) (i j : Nat) : (arcTo ps i j).length = j := by simp [arcTo]
theorem arcTo_succ (ps : List Pt) (i j : Nat) : arcTo ps i (j + 1) = arcTo ps i j ++ [⟨pX ps ((i + j) % ps.length), pY ps ((i + j) % ps.length)⟩] := by
  unfold arcTo; rw [List.range_succ, List.map_append]; rfl
def dstN (n i k : Nat) : Nat := (k + n - i) % n
theorem dst_if {n i k : Nat} (hi : i < n) (hk : k < n) : dstN n i k = if i ≤ k then k - i else k + n - i := by
  unfold dstN
  split
  · rw [show k + n - i = (k - i) + n by omega, Nat.add_mod_right, Nat.mod_eq_of_lt (by omega)]
  · exact Nat.mod_eq_of_lt (by omega)
theorem dst_lt {n i k : Nat} (hi : i < n) : dstN n i k < n := Nat.mod_lt _ (by omega)
theorem dst_at {n i k : Nat} (hi : i < n) (hk : k < n) : (i + dstN n i k) % n = k := by
  rw [dst_if hi hk]
  split
  · rw [show i + (k - i) = k by omega]; exact Nat.mod_eq_of_lt hk
  · rw [show i + (k + n - i) = k + n by omega, Nat.add_mod_right]; exact Nat.mod_eq_of_lt hk
theorem dst_end {n i k j : Nat} (hi : i < n) (hk : k < n) (hj : j ≤ dstN n i k) : (i + j) % n = k ↔ j = dstN n i k := by
  have hd := dst_lt (k := k) hi
  constructor
  · intro e
    exact am_inj hi (show j < n by omega) hd (e.trans (dst_at hi hk).symm)
  · rintro rfl; exact dst_at hi hk
def prtL (ps : List Pt) (b : Bool) (i k : Int) : List Pt := if b then arc ps i.toNat (dstN ps.length i.toNat k.toNat) else []
theorem prt_no (ps : List Pt) (i k : Int) : prtL ps false i k = [] := rfl
theorem prt_yes (ps : List Pt) (i k : Nat) : prtL ps true i k = arc ps i (dstN ps.length i k) := by unfold prtL; rw [if_pos rfl, Int.toNat_natCast, Int.toNat_natCast]
theorem prt_len (ps : List Pt) (b : Bool) (i k : Int) (h : b = true → simB ps = true) : (prtL ps b i k).length ≤ 1000 := by
  cases b
  · exact Nat.zero_le _
  · obtain ⟨_, h3, h20, _⟩ := simB_parts (h rfl)
    unfold prtL
    rw [if_pos rfl, arc_len]
    have : dstN ps.length i.toNat k.toNat < ps.length := Nat.mod_lt _ (by omega)
    omega
theorem dgB_sim {ps : List Pt} {i k : Int} (h : dgB ps i k = true) : simB ps = true ∧ ∃ a b : Nat, i = a ∧ k = b ∧ a < ps.length ∧ b < ps.length ∧ diagI ps a b = true := by
  have hv : verB ps i k = true := by
    rw [← Bool.not_eq_false]; intro hv; rw [dgB_1 hv] at h; cases h
  rw [dgB_2 hv] at h
  obtain ⟨hs, ⟨i0, i1⟩, k0, k1⟩ := verB_iff.1 hv
  obtain ⟨a, rfl⟩ := Int.eq_ofNat_of_zero_le i0
  obtain ⟨b, rfl⟩ := Int.eq_ofNat_of_zero_le k0
  rw [Int.toNat_natCast, Int.toNat_natCast] at h
  exact ⟨hs, a, b, rfl, rfl, by omega, by omega, h⟩
theorem split_law {ps : List Pt} {i k : Nat} (hs : simB ps = true) (hi : i < ps.length) (hk : k < ps.length) (hd : diagI ps i k = true) :
    simB (arc ps i (dstN ps.length i k)) = true ∧ simB (arc ps k (dstN ps.length k i)) = true ∧ areaL (arc ps i (dstN ps.length i k)) + areaL (arc ps k (dstN ps.length k i)) = areaL ps ∧ (arc ps i (dstN ps.length i k)).length + (arc ps k (dstN ps.length k i)).length = ps.length + 2 := by
  have S := sim_of hs
  have c := ((diagI_iff S hi hk).1 hd).1
  obtain ⟨d1, d2, s1⟩ := arc_sim S c (dst_lt hi) (dst_at hi hk)
  obtain ⟨d3, d4, s2⟩ := arc_sim S c.symm (dst_lt hk) (dst_at hk hi)
  have hl := simB_listOk hs
  have ok : ∀ j d, d < ps.length → listOk (arc ps j d) = true := fun j d hdl => by
    unfold listOk allOk at *
    simp only [Bool.and_eq_true, decide_eq_true_eq, List.all_eq_true] at *
    exact ⟨by rw [arc_len]; omega, fun q hq => hl.2 q (arc_mem (by omega) hq)⟩
  have e : dstN ps.length k i = ps.length - dstN ps.length i k := by
    have h1 := dst_if hi hk
    have h2 := dst_if hk hi
    have := c.ne
    split at h1 <;> split at h2 <;> omega
  refine ⟨sim_simB s1 (ok _ _ (dst_lt hi)), sim_simB s2 (ok _ _ (dst_lt hk)), ?_, ?_⟩
  · rw [e]
    exact (sgn_sum hi (Nat.le_of_lt (dst_lt hi)) (dst_at hi hk) hk).1.symm
  · rw [arc_len, arc_len]
    have h1 := dst_if hi hk
    have h2 := dst_if hk hi
    have := c.ne
    split at h1 <;> split at h2 <;> omega
/-! ### the walks -/
theorem OwnP.one (w : World) (base : Nat) (hb : base ≤ w.heap.size) (x y : Int) : OwnP (w.alloc (.cells #[.int .i64 x, .int .i64 y] 40)) base (.slice (some ⟨w.heap.size, 0, none⟩) 1 1) [⟨x, y⟩] :=
  ⟨rfl, .inr ⟨w.heap.size, 1, _, rfl, hb, heap_alloc_new w _, Nat.le_refl _, by simp [maxLen], rfl, rfl⟩⟩
set_option maxHeartbeats 2000000 in
theorem ichain_any (ps : List Pt) (i k : Nat) (A : Option Addr) (n c : Nat) (w : World) (hn : ps.length = n) (hm : n ≤ 1000) (hi : i < n) (hk : k < n) (hs : PtsAt w w.heap.size A ps) :
    Calls Try.prog 20 #[.slice A n c, .int .i64 i, .int .i64 k] w fun e w' => ∃ A' n' c', e = .returned (.slice A' n' c') ∧ (arc ps i (dstN n i k)).length = n' ∧ n' ≤ c' ∧ c' ≤ 9223372036854775807 ∧ PRow w' w.heap.size A' (arc ps i (dstN n i k)) ∧ Plain A' n' ∧ ∃ x, w' = ext w x := by
  obtain ⟨d, hd⟩ : ∃ d, d = dstN n i k := ⟨_, rfl⟩
  rw [← hd]
  have hdn : d < n := by rw [hd]; exact dst_lt hi
  have END := hide (fun j (hj : j ≤ d) => dst_end (n := n) (i := i) (k := k) (j := j) hi hk (by omega))
  rw [← hd] at END
  have NX := hide (arcTo_succ ps i)
  have AL := hide (arcTo_len ps i)
  rw [hn] at NX
  have HN := hide hn
  have KE : Hid ((i + d) % n = k) := hide (by rw [hd]; exact dst_at hi hk)
  have i0 : Hid ((i + 0) % n = i) := hide (by rw [Nat.add_zero]; exact Nat.mod_eq_of_lt hi)
  have STP : Hid (∀ j, ((i + j) % n + 1) % n = (i + (j + 1)) % n) := hide (fun j => am_succ n i j)
  obtain ⟨b, o, rfl, hbl, hcs⟩ := hs (by omega)
  have CP : Hid (∀ j, j < n → w.cell? ⟨b, o + j * 2, none⟩ = some (.int .i64 (pX ps j)) ∧ w.cell? ⟨b, o + j * 2 + 1, none⟩ = some (.int .i64 (pY ps j))) := hide (fun j hj => hcs j (by omega))
  have MLT : Hid (∀ j, (i + j) % n < n) := hide (fun j => Nat.mod_lt _ (by omega))
  clear hcs hn hd
  go_enter Try.func20, Try.ntmps20
  go_wp2
  go_loopw [1, 7] (fun u1 u7 wr => ∃ j : Nat, j ≤ d ∧ u1 = .int .i64 ((i + j) % n : Nat) ∧ OwnP wr w.heap.size u7 (arcTo ps i j) ∧ Below w.heap.size w wr) (fun u1 u7 wr => 0 + (match u7 with | .slice _ k _ => n - k | _ => 0))
  case atStart => exact ⟨0, Nat.zero_le _, by rw [i0.out], OwnP.empty w w.heap.size 0 (Nat.le_refl _) #[] rfl (by simp [maxLen]), (by (repeat' (first | (with_reducible exact Below.refl _ _) | (with_reducible assumption) | (with_reducible refine below_ext _ ?_ ?_) | (with_reducible refine Below.alloc ?_ ?_ _) | (with_reducible refine Below.drew ?_) | (with_reducible refine below_drewN ?_ _) | (with_reducible refine le_drewN _ ?_) | (with_reducible refine Below.setCell ?_ ?_ _) | (with_reducible exact Nat.le_refl _) | (with_reducible refine le_ext _ ?_) | (with_reducible refine le_alloc _ ?_) | (with_reducible refine le_setCell _ _ ?_) | (with_reducible refine le_drew ?_) | omega | (simp; done) | (simp; omega))))⟩
  case round =>
    obtain ⟨j, hj, rfl, hown, hbel⟩ := hrel
    obtain ⟨A0, n0, c0, rfl⟩ := hown.slice
    have hsz := hbel.size
    have hl0 := hown.pts.1
    have OWN0 := hide hown
    have NXj := hide (NX.out j)
    have STj := hide (STP.out j)
    have MLj := hide (MLT.out (j + 1))
    have ENj := hide (END.out j hj)
    have hal : (arcTo ps i j).length ≤ 2000000 := by rw [AL.out]; omega
    have hxl := MLT.out j
    obtain ⟨hx0, hy0⟩ := CP.out _ hxl
    have hx := (hbel.cell (p := ⟨b, o + (i + j) % n * 2, none⟩) hbl).trans hx0
    have hy := (hbel.cell (p := ⟨b, o + (i + j) % n * 2 + 1, none⟩) hbl).trans hy0
    rw [AL.out] at hl0
    clear hown hx0 hy0
    generalize (i + j) % n = m at *
    by_cases hjd : j < d
    · have hmk : ((m : Int) != (k : Int)) = true := by rw [bne_iff_ne]; intro e; have := ENj.out.1 (by omega); omega
      obtain ⟨m2, hm2⟩ : ∃ m2, m2 = (m + 1) % n := ⟨_, rfl⟩
      have e2 : Int.tmod ((m : Int) + 1) (n : Int) = (m2 : Int) := by rw [hm2]; exact (Int.ofNat_tmod (m + 1) n).symm
      have e3 : ((m : Int) + 1) % (n : Int) = (m2 : Int) := by rw [hm2]; exact (Int.natCast_emod (m + 1) n).symm
      have lm2 : m2 < n := by rw [hm2]; exact Nat.mod_lt _ (by omega)
      have w1 : IntKind.i64.wrap ((m : Int) + 1) = (m : Int) + 1 := IntWalk.i64_in _ (by omega)
      have w2 : IntKind.i64.wrap (m2 : Int) = (m2 : Int) := IntWalk.i64_in _ (by omega)
      have E2 : Hid (m2 = (i + (j + 1)) % n) := hide (by rw [hm2]; exact STj.out)
      have q1 : (0 : Int) ≤ (m : Int) := by omega
      have q2 : (m : Int) < (n : Int) := by omega
      have q5 : ¬ n = 0 := by omega
      clear hm2 STj ENj
      go_wp2_with (at_builtin; refine app_pt rfl _ _ rfl w.heap.size (.slice A0 n0 c0) (arcTo ps i j) rfl (OWN0.out.below (by (repeat' (first | (with_reducible exact Below.refl _ _) | (with_reducible assumption) | (with_reducible refine below_ext _ ?_ ?_) | (with_reducible refine Below.alloc ?_ ?_ _) | (with_reducible refine Below.drew ?_) | (with_reducible refine below_drewN ?_ _) | (with_reducible refine le_drewN _ ?_) | (with_reducible refine Below.setCell ?_ ?_ _) | (with_reducible exact Nat.le_refl _) | (with_reducible refine le_ext _ ?_) | (with_reducible refine le_alloc _ ?_) | (with_reducible refine le_setCell _ _ ?_) | (with_reducible refine le_drew ?_) | omega | (simp; done) | (simp; omega))))) (pX ps m) (pY ps m) _ _ rfl (by simp [go_sem]) (by simp [go_sem]) hal (by simp; omega) ?_; intro v' w' hown' hb' hat hgr; obtain ⟨A2, n2, c2, rfl⟩ := hown'.slice; have HO3 := hide hown'; have hl2 := hown'.pts.1; clear hown' hat hgr)
      rw [List.length_append, AL.out] at hl2
      exact ⟨⟨j + 1, by omega, by rw [← E2.out], by rw [NXj.out]; exact HO3.out, Below.trans (Below.trans hbel (by (repeat' (first | (with_reducible exact Below.refl _ _) | (with_reducible assumption) | (with_reducible refine below_ext _ ?_ ?_) | (with_reducible refine Below.alloc ?_ ?_ _) | (with_reducible refine Below.drew ?_) | (with_reducible refine below_drewN ?_ _) | (with_reducible refine le_drewN _ ?_) | (with_reducible refine Below.setCell ?_ ?_ _) | (with_reducible exact Nat.le_refl _) | (with_reducible refine le_ext _ ?_) | (with_reducible refine le_alloc _ ?_) | (with_reducible refine le_setCell _ _ ?_) | (with_reducible refine le_drew ?_) | omega | (simp; done) | (simp; omega))))) hb'⟩, by simp at hl2 ⊢; omega⟩
    · have ejd : j = d := by omega
      have emk : m = k := ENj.out.2 ejd
      have hmk : ((m : Int) != (k : Int)) = false := by rw [bne_eq_false_iff_eq]; omega
      have q1 : (0 : Int) ≤ (k : Int) := by omega
      have q2 : (k : Int) < (n : Int) := by omega
      have ARC : Hid (arcTo ps i j ++ [⟨pX ps m, pY ps m⟩] = arc ps i d) := hide (by rw [← NXj.out, ejd]; rfl)
      have hkx := hx
      have hky := hy
      rw [emk] at hkx hky
      have ARC2 : Hid (arcTo ps i j ++ [⟨pX ps k, pY ps k⟩] = arc ps i d) := hide (by rw [← emk]; exact ARC.out)
      clear ARC NXj STj ENj emk ejd hx hy
      go_wp2_with (at_builtin; refine app_pt rfl _ _ rfl w.heap.size (.slice A0 n0 c0) (arcTo ps i j) rfl (OWN0.out.below (by (repeat' (first | (with_reducible exact Below.refl _ _) | (with_reducible assumption) | (with_reducible refine below_ext _ ?_ ?_) | (with_reducible refine Below.alloc ?_ ?_ _) | (with_reducible refine Below.drew ?_) | (with_reducible refine below_drewN ?_ _) | (with_reducible refine le_drewN _ ?_) | (with_reducible refine Below.setCell ?_ ?_ _) | (with_reducible exact Nat.le_refl _) | (with_reducible refine le_ext _ ?_) | (with_reducible refine le_alloc _ ?_) | (with_reducible refine le_setCell _ _ ?_) | (with_reducible refine le_drew ?_) | omega | (simp; done) | (simp; omega))))) (pX ps k) (pY ps k) _ _ rfl (by simp [go_sem]) (by simp [go_sem]) hal (by simp; omega) ?_; intro v' w' hown' hb' hat hgr; obtain ⟨A2, n2, c2, rfl⟩ := hown'.slice; have HO3 := hide hown'; have HB := hide hb'; clear hown' hat hgr hb')
      have O3 : Hid (OwnP _ w.heap.size (.slice A2 n2 c2) (arc ps i d)) := hide (by rw [← ARC2.out]; exact HO3.out)
      have P3 := hide O3.out.prow
      have F3 := O3.out.form
      have hc31 := O3.out.pts.2.1
      have hc32 : c2 ≤ 9223372036854775807 := by have := O3.out.pts.2.2.1; unfold maxLen at this; exact this
      refine (clipP_any _ _ _ _ hc31 hc32 F3.1).mono ?_
      rintro e w' ⟨rfl, rfl⟩
      go_wp2_with fail
      go_ret
      exact ⟨_, _, _, rfl, P3.out.1, Nat.le_refl _, by omega, P3.out.2, F3.1, ext_mk (Below.trans (Below.trans hbel (by (repeat' (first | (with_reducible exact Below.refl _ _) | (with_reducible assumption) | (with_reducible refine below_ext _ ?_ ?_) | (with_reducible refine Below.alloc ?_ ?_ _) | (with_reducible refine Below.drew ?_) | (with_reducible refine below_drewN ?_ _) | (with_reducible refine le_drewN _ ?_) | (with_reducible refine Below.setCell ?_ ?_ _) | (with_reducible exact Nat.le_refl _) | (with_reducible refine le_ext _ ?_) | (with_reducible refine le_alloc _ ?_) | (with_reducible refine le_setCell _ _ ?_) | (with_reducible refine le_drew ?_) | omega | (simp; done) | (simp; omega))))) HB.out)⟩
set_option maxHeartbeats 2000000 in
theorem spart_any (ps : List Pt) (i k : Nat) (A : Option Addr) (n c : Nat) (w : World) (hn : ps.length = n) (hm : n ≤ 1000) (hi : i < n) (hk : k < n) (hs : PtsAt w w.heap.size A ps) :
    Calls Try.prog 17 #[.slice A n c, .int .i64 i, .int .i64 k] w fun e w' => ∃ v, e = .returned v ∧ OwnP w' w.heap.size v (arc ps i (dstN n i k)) ∧ ∃ x, w' = ext w x := by
  obtain ⟨d, hd⟩ : ∃ d, d = dstN n i k := ⟨_, rfl⟩
  rw [← hd]
  have hdn : d < n := by rw [hd]; exact dst_lt hi
  have END := hide (fun j (hj : j ≤ d) => dst_end (n := n) (i := i) (k := k) (j := j) hi hk (by omega))
  rw [← hd] at END
  have NX := hide (arcTo_succ ps i)
  have AL := hide (arcTo_len ps i)
  rw [hn] at NX
  have i0 : Hid ((i + 0) % n = i) := hide (by rw [Nat.add_zero]; exact Nat.mod_eq_of_lt hi)
  have T1 : Hid (arcTo ps i 1 = [⟨pX ps i, pY ps i⟩]) := hide (by rw [NX.out, i0.out]; rfl)
  have STP : Hid (∀ j, ((i + j) % n + 1) % n = (i + (j + 1)) % n) := hide (fun j => am_succ n i j)
  obtain ⟨b, o, rfl, hbl, hcs⟩ := hs (by omega)
  have CP : Hid (∀ j, j < n → w.cell? ⟨b, o + j * 2, none⟩ = some (.int .i64 (pX ps j)) ∧ w.cell? ⟨b, o + j * 2 + 1, none⟩ = some (.int .i64 (pY ps j))) := hide (fun j hj => hcs j (by omega))
  have MLT : Hid (∀ j, (i + j) % n < n) := hide (fun j => Nat.mod_lt _ (by omega))
  obtain ⟨hxi, hyi⟩ := CP.out i hi
  have q1 : (0 : Int) ≤ (i : Int) := by omega
  have q2 : (i : Int) < (n : Int) := by omega
  have O1 := hide (OwnP.one w w.heap.size (Nat.le_refl _) (pX ps i) (pY ps i))
  clear hcs hn hd
  go_enter Try.func17, Try.ntmps17
  go_wp2
  go_loopw [7, 8] (fun u7 u8 wr => ∃ j : Nat, j ≤ d ∧ u8 = .int .i64 ((i + j) % n : Nat) ∧ OwnP wr w.heap.size u7 (arcTo ps i (j + 1)) ∧ Below w.heap.size w wr) (fun u7 u8 wr => 0 + (match u7 with | .slice _ k _ => n - k | _ => 0))
  case atStart => exact ⟨0, Nat.zero_le _, by rw [i0.out], by rw [T1.out]; exact O1.out.below (by (repeat' (first | (with_reducible exact Below.refl _ _) | (with_reducible assumption) | (with_reducible refine below_ext _ ?_ ?_) | (with_reducible refine Below.alloc ?_ ?_ _) | (with_reducible refine Below.drew ?_) | (with_reducible refine below_drewN ?_ _) | (with_reducible refine le_drewN _ ?_) | (with_reducible refine Below.setCell ?_ ?_ _) | (with_reducible exact Nat.le_refl _) | (with_reducible refine le_ext _ ?_) | (with_reducible refine le_alloc _ ?_) | (with_reducible refine le_setCell _ _ ?_) | (with_reducible refine le_drew ?_) | omega | (simp; done) | (simp; omega)))), (by (repeat' (first | (with_reducible exact Below.refl _ _) | (with_reducible assumption) | (with_reducible refine below_ext _ ?_ ?_) | (with_reducible refine Below.alloc ?_ ?_ _) | (with_reducible refine Below.drew ?_) | (with_reducible refine below_drewN ?_ _) | (with_reducible refine le_drewN _ ?_) | (with_reducible refine Below.setCell ?_ ?_ _) | (with_reducible exact Nat.le_refl _) | (with_reducible refine le_ext _ ?_) | (with_reducible refine le_alloc _ ?_) | (with_reducible refine le_setCell _ _ ?_) | (with_reducible refine le_drew ?_) | omega | (simp; done) | (simp; omega))))⟩
  case round =>
    obtain ⟨j, hj, rfl, hown, hbel⟩ := hrel
    obtain ⟨A0, n0, c0, rfl⟩ := hown.slice
    have hsz := hbel.size
    have hl0 := hown.pts.1
    have OWN0 := hide hown
    have NXj := hide (NX.out (j + 1))
    have STj := hide (STP.out j)
    have ENj := hide (END.out j hj)
    have hal : (arcTo ps i (j + 1)).length ≤ 2000000 := by rw [AL.out]; omega
    have hxl := MLT.out j
    rw [AL.out] at hl0
    clear hown hxi hyi
    generalize (i + j) % n = m at *
    by_cases hjd : j < d
    · have hmk : ((m : Int) != (k : Int)) = true := by rw [bne_iff_ne]; intro e; have := ENj.out.1 (by omega); omega
      obtain ⟨m2, hm2⟩ : ∃ m2, m2 = (m + 1) % n := ⟨_, rfl⟩
      have e2 : Int.tmod ((m : Int) + 1) (n : Int) = (m2 : Int) := by rw [hm2]; exact (Int.ofNat_tmod (m + 1) n).symm
      have e3 : ((m : Int) + 1) % (n : Int) = (m2 : Int) := by rw [hm2]; exact (Int.natCast_emod (m + 1) n).symm
      have lm2 : m2 < n := by rw [hm2]; exact Nat.mod_lt _ (by omega)
      have w1 : IntKind.i64.wrap ((m : Int) + 1) = (m : Int) + 1 := IntWalk.i64_in _ (by omega)
      have w2 : IntKind.i64.wrap (m2 : Int) = (m2 : Int) := IntWalk.i64_in _ (by omega)
      have E2 : Hid ((i + (j + 1)) % n = m2) := hide (by rw [hm2]; exact STj.out.symm)
      obtain ⟨hx0, hy0⟩ := CP.out m2 lm2
      have hx := (hbel.cell (p := ⟨b, o + m2 * 2, none⟩) hbl).trans hx0
      have hy := (hbel.cell (p := ⟨b, o + m2 * 2 + 1, none⟩) hbl).trans hy0
      rw [E2.out] at NXj
      have q3 : (0 : Int) ≤ (m2 : Int) := by omega
      have q4 : (m2 : Int) < (n : Int) := by omega
      have q5 : ¬ n = 0 := by omega
      clear hm2 STj ENj hx0 hy0
      go_wp2_with (at_builtin; refine app_pt rfl _ _ rfl w.heap.size (.slice A0 n0 c0) (arcTo ps i (j + 1)) rfl (OWN0.out.below (by (repeat' (first | (with_reducible exact Below.refl _ _) | (with_reducible assumption) | (with_reducible refine below_ext _ ?_ ?_) | (with_reducible refine Below.alloc ?_ ?_ _) | (with_reducible refine Below.drew ?_) | (with_reducible refine below_drewN ?_ _) | (with_reducible refine le_drewN _ ?_) | (with_reducible refine Below.setCell ?_ ?_ _) | (with_reducible exact Nat.le_refl _) | (with_reducible refine le_ext _ ?_) | (with_reducible refine le_alloc _ ?_) | (with_reducible refine le_setCell _ _ ?_) | (with_reducible refine le_drew ?_) | omega | (simp; done) | (simp; omega))))) (pX ps m2) (pY ps m2) _ _ rfl (by simp [go_sem]) (by simp [go_sem]) hal (by simp; omega) ?_; intro v' w' hown' hb' hat hgr; obtain ⟨A2, n2, c2, rfl⟩ := hown'.slice; have HO3 := hide hown'; have hl2 := hown'.pts.1; clear hown' hat hgr)
      rw [List.length_append, AL.out] at hl2
      exact ⟨⟨j + 1, by omega, by rw [E2.out], by rw [NXj.out]; exact HO3.out, Below.trans (Below.trans hbel (by (repeat' (first | (with_reducible exact Below.refl _ _) | (with_reducible assumption) | (with_reducible refine below_ext _ ?_ ?_) | (with_reducible refine Below.alloc ?_ ?_ _) | (with_reducible refine Below.drew ?_) | (with_reducible refine below_drewN ?_ _) | (with_reducible refine le_drewN _ ?_) | (with_reducible refine Below.setCell ?_ ?_ _) | (with_reducible exact Nat.le_refl _) | (with_reducible refine le_ext _ ?_) | (with_reducible refine le_alloc _ ?_) | (with_reducible refine le_setCell _ _ ?_) | (with_reducible refine le_drew ?_) | omega | (simp; done) | (simp; omega))))) hb'⟩, by simp at hl2 ⊢; omega⟩
    · have ejd : j = d := by omega
      have emk : m = k := ENj.out.2 ejd
      have hmk : ((m : Int) != (k : Int)) = false := by rw [bne_eq_false_iff_eq]; omega
      have O3 : Hid (OwnP wr w.heap.size (.slice A0 n0 c0) (arc ps i d)) := hide (by rw [← arcTo_arc, ← ejd]; exact OWN0.out)
      clear NXj STj ENj emk ejd
      go_wp2
      go_ret
      exact ⟨_, rfl, O3.out, ext_mk hbel⟩
def ptrLt (A : Option Addr) (b : Nat) : Prop := ∀ g o s, A = some ⟨g, o, s⟩ → g < b
theorem PRow.lt {w : World} {base : Nat} {A : Option Addr} {ps : List Pt} (h : PRow w base A ps) (h0 : ps = [] → A = none) : ptrLt A w.heap.size := fun g o s e => by
  by_cases hl : 0 < ps.length
  · obtain ⟨g', m, f, hA, _, _, hr, _⟩ := h hl
    rw [hA] at e
    injection e with e
    injection e with e _ _
    rw [← e]; exact hr.lt
  · rw [h0 (List.eq_nil_of_length_eq_zero (by omega))] at e; cases e
set_option maxHeartbeats 1000000 in
theorem iSplit_any (ps : List Pt) (i k : Int) (A : Option Addr) (n c : Nat) (w : World) (hn : ps.length = n) (hm : n ≤ 2000000) (hA : Plain A n) (hs : PtsAt w w.heap.size A ps) :
    Calls Try.prog 8 #[.slice A n c, .int .i64 i, .int .i64 k] w fun e w' => ∃ A1 n1 c1 A2 n2 c2 b, e = .returned (.tuple #[.slice A1 n1 c1, .slice A2 n2 c2, .bool (dgB ps i k)]) ∧ (prtL ps (dgB ps i k) i k).length = n1 ∧ (prtL ps (dgB ps i k) k i).length = n2 ∧ PRow w' w.heap.size A1 (prtL ps (dgB ps i k) i k) ∧ PRow w' b A2 (prtL ps (dgB ps i k) k i) ∧ w.heap.size ≤ b ∧ b ≤ w'.heap.size ∧ ptrLt A1 b ∧ Plain A1 n1 ∧ Plain A2 n2 ∧ ∃ x, w' = ext w x := by
  have HC := hide (iIsDiag_any ps i k A n c w hn hm hA hs)
  by_cases hd : dgB ps i k = true
  · rw [hd] at HC
    obtain ⟨hok, a, b, rfl, rfl, ha, hb, _⟩ := dgB_sim hd
    obtain ⟨_, h3, h20, _⟩ := simB_parts hok
    have C1 := hide (fun (W : World) (hbl : Below w.heap.size w W) => ichain_any ps a b A n c W hn (by omega) (by omega) (by omega) (hs.to hbl))
    have C2 := hide (fun (W : World) (hbl : Below w.heap.size w W) => ichain_any ps b a A n c W hn (by omega) (by omega) (by omega) (hs.to hbl))
    rw [hd, prt_yes, prt_yes, hn]
    have L1 : Hid (arc ps a (dstN n a b) ≠ []) := hide (fun e => by have := arc_len ps a (dstN n a b); rw [e] at this; cases this)
    generalize arc ps a (dstN n a b) = R1 at *
    generalize arc ps b (dstN n b a) = R2 at *
    clear hn hs hok hd h3 h20 ha hb hA
    go_enter Try.func8, Try.ntmps8
    go_wp2_with fail
    refine HC.out.mono ?_
    rintro e w' ⟨rfl, hw'⟩; have hzy1 := ext_sz hw'; obtain ⟨y1, rfl⟩ := hw'; (try simp at hzy1)
    go_wp2_with fail
    refine (C1.out _ (by (repeat' (first | (with_reducible exact Below.refl _ _) | (with_reducible assumption) | (with_reducible refine below_ext _ ?_ ?_) | (with_reducible refine Below.alloc ?_ ?_ _) | (with_reducible refine Below.drew ?_) | (with_reducible refine below_drewN ?_ _) | (with_reducible refine le_drewN _ ?_) | (with_reducible refine Below.setCell ?_ ?_ _) | (with_reducible exact Nat.le_refl _) | (with_reducible refine le_ext _ ?_) | (with_reducible refine le_alloc _ ?_) | (with_reducible refine le_setCell _ _ ?_) | (with_reducible refine le_drew ?_) | omega | (simp; done) | (simp; omega))))).mono ?_
    rintro e w2 ⟨A1, n1, c1, rfl, l1, q1, qc1, pr1, pl1, hx1⟩
    have B2 := ext_bel hx1
    have PR1 := hide pr1
    have B0 := (show Below w.heap.size w (ext w y1) from (by (repeat' (first | (with_reducible exact Below.refl _ _) | (with_reducible assumption) | (with_reducible refine below_ext _ ?_ ?_) | (with_reducible refine Below.alloc ?_ ?_ _) | (with_reducible refine Below.drew ?_) | (with_reducible refine below_drewN ?_ _) | (with_reducible refine le_drewN _ ?_) | (with_reducible refine Below.setCell ?_ ?_ _) | (with_reducible exact Nat.le_refl _) | (with_reducible refine le_ext _ ?_) | (with_reducible refine le_alloc _ ?_) | (with_reducible refine le_setCell _ _ ?_) | (with_reducible refine le_drew ?_) | omega | (simp; done) | (simp; omega)))))
    have B02 := hide (B0.trans (B2.mono B0.size))
    have SZ1 := hide B0.size
    clear pr1 hx1 B2 B0
    go_wp2_with fail
    refine (C2.out _ B02.out).mono ?_
    rintro e w3 ⟨A2, n2, c2, rfl, l2, q2, qc2, pr2, pl2, hx2⟩
    have B3 := ext_bel hx2
    have SZ3 := hide B3.size
    have PR2 := hide pr2
    have PR1b := hide (PR1.out.below B3)
    have B03 := hide (B02.out.trans (B3.mono B02.out.size))
    have PT1 := hide (PR1.out.lt (fun e => absurd e L1.out))
    clear pr2 hx2 B3
    go_wp2_with fail
    ((try simp only [Exit.inBlock, Exit.then]); refine bodyPost_ret (by simp [results, Try.results8, go_sem, ↓IntWalk.iteOmega]; try rfl) rfl ?_)
    exact ⟨A1, n1, c1, A2, n2, c2, w2.heap.size, rfl, l1, l2, PR1b.out.more SZ1.out, PR2.out, B02.out.size, SZ3.out, PT1.out, pl1, pl2, ext_mk B03.out⟩
  · have hd := eq_false_of_ne_true hd
    rw [hd] at HC
    rw [hd, prt_no, prt_no]
    clear hn hs hd hA
    go_enter Try.func8, Try.ntmps8
    go_wp2_with fail
    refine HC.out.mono ?_
    rintro e w' ⟨rfl, hw'⟩; have hzy1 := ext_sz hw'; obtain ⟨y1, rfl⟩ := hw'; (try simp at hzy1)
    go_wp2_with fail
    ((try simp only [Exit.inBlock, Exit.then]); refine bodyPost_ret (by simp [results, Try.results8, go_sem, ↓IntWalk.iteOmega]; try rfl) rfl ?_)
    exact ⟨none, 0, 0, none, 0, 0, w.heap.size, rfl, rfl, rfl, PRow.nil _ _ _, PRow.nil _ _ _, Nat.le_refl _, ext_size w y1, (fun g o s e => by cases e), Plain.none rfl, Plain.none rfl, (ext_mk (by (repeat' (first | (with_reducible exact Below.refl _ _) | (with_reducible assumption) | (with_reducible refine below_ext _ ?_ ?_) | (with_reducible refine Below.alloc ?_ ?_ _) | (with_reducible refine Below.drew ?_) | (with_reducible refine below_drewN ?_ _) | (with_reducible refine le_drewN _ ?_) | (with_reducible refine Below.setCell ?_ ?_ _) | (with_reducible exact Nat.le_refl _) | (with_reducible refine le_ext _ ?_) | (with_reducible refine le_alloc _ ?_) | (with_reducible refine le_setCell _ _ ?_) | (with_reducible refine le_drew ?_) | omega | (simp; done) | (simp; omega)))))⟩
set_option maxHeartbeats 1000000 in
theorem sSplit_any (ps : List Pt) (i k : Int) (A : Option Addr) (n c : Nat) (w : World) (hn : ps.length = n) (hm : n ≤ 2000000) (hs : PtsAt w w.heap.size A ps) :
    Calls Try.prog 6 #[.slice A n c, .int .i64 i, .int .i64 k] w fun e w' => ∃ v1 v2, e = .returned (.tuple #[v1, v2, .bool (dgB ps i k)]) ∧ OwnP w' w.heap.size v1 (prtL ps (dgB ps i k) i k) ∧ OwnP w' w.heap.size v2 (prtL ps (dgB ps i k) k i) ∧ ∃ x, w' = ext w x := by
  have HC := hide (sIsDiag_any ps i k A n c w hn hm hs)
  by_cases hd : dgB ps i k = true
  · rw [hd] at HC
    obtain ⟨hok, a, b, rfl, rfl, ha, hb, _⟩ := dgB_sim hd
    obtain ⟨_, h3, h20, _⟩ := simB_parts hok
    have C1 := hide (fun (W : World) (hbl : Below w.heap.size w W) => spart_any ps a b A n c W hn (by omega) (by omega) (by omega) (hs.to hbl))
    have C2 := hide (fun (W : World) (hbl : Below w.heap.size w W) => spart_any ps b a A n c W hn (by omega) (by omega) (by omega) (hs.to hbl))
    rw [hd, prt_yes, prt_yes, hn]
    generalize arc ps a (dstN n a b) = R1 at *
    generalize arc ps b (dstN n b a) = R2 at *
    clear hn hs hok hd h3 h20 ha hb
    go_enter Try.func6, Try.ntmps6
    go_wp2_with fail
    refine HC.out.mono ?_
    rintro e w' ⟨rfl, hw'⟩; have hzy1 := ext_sz hw'; obtain ⟨y1, rfl⟩ := hw'; (try simp at hzy1)
    go_wp2_with fail
    refine (C1.out _ (by (repeat' (first | (with_reducible exact Below.refl _ _) | (with_reducible assumption) | (with_reducible refine below_ext _ ?_ ?_) | (with_reducible refine Below.alloc ?_ ?_ _) | (with_reducible refine Below.drew ?_) | (with_reducible refine below_drewN ?_ _) | (with_reducible refine le_drewN _ ?_) | (with_reducible refine Below.setCell ?_ ?_ _) | (with_reducible exact Nat.le_refl _) | (with_reducible refine le_ext _ ?_) | (with_reducible refine le_alloc _ ?_) | (with_reducible refine le_setCell _ _ ?_) | (with_reducible refine le_drew ?_) | omega | (simp; done) | (simp; omega))))).mono ?_
    rintro e w2 ⟨v1, rfl, o1, hx1⟩
    have B2 := ext_bel hx1
    have O1 := hide o1
    have B0 := (show Below w.heap.size w (ext w y1) from (by (repeat' (first | (with_reducible exact Below.refl _ _) | (with_reducible assumption) | (with_reducible refine below_ext _ ?_ ?_) | (with_reducible refine Below.alloc ?_ ?_ _) | (with_reducible refine Below.drew ?_) | (with_reducible refine below_drewN ?_ _) | (with_reducible refine le_drewN _ ?_) | (with_reducible refine Below.setCell ?_ ?_ _) | (with_reducible exact Nat.le_refl _) | (with_reducible refine le_ext _ ?_) | (with_reducible refine le_alloc _ ?_) | (with_reducible refine le_setCell _ _ ?_) | (with_reducible refine le_drew ?_) | omega | (simp; done) | (simp; omega)))))
    have B02 := hide (B0.trans (B2.mono B0.size))
    have SZ1 := hide B0.size
    clear o1 hx1 B2 B0
    go_wp2_with fail
    refine (C2.out _ B02.out).mono ?_
    rintro e w3 ⟨v2, rfl, o2, hx2⟩
    have B3 := ext_bel hx2
    have O2 := hide o2
    have O1b := hide (O1.out.below B3)
    have B03 := hide (B02.out.trans (B3.mono B02.out.size))
    clear o2 hx2 B3
    go_wp2_with fail
    ((try simp only [Exit.inBlock, Exit.then]); refine bodyPost_ret (by simp [results, Try.results6, go_sem, ↓IntWalk.iteOmega]; try rfl) rfl ?_)
    exact ⟨v1, v2, rfl, O1b.out.base SZ1.out, O2.out.base B02.out.size, ext_mk B03.out⟩
  · have hd := eq_false_of_ne_true hd
    rw [hd] at HC
    rw [hd, prt_no, prt_no]
    clear hn hs hd
    go_enter Try.func6, Try.ntmps6
    go_wp2_with fail
    refine HC.out.mono ?_
    rintro e w' ⟨rfl, hw'⟩; have hzy1 := ext_sz hw'; obtain ⟨y1, rfl⟩ := hw'; (try simp at hzy1)
    go_wp2_with fail
    ((try simp only [Exit.inBlock, Exit.then]); refine bodyPost_ret (by simp [results, Try.results6, go_sem, ↓IntWalk.iteOmega]; try rfl) rfl ?_)
    exact ⟨_, _, rfl, OwnP.nil _ _, OwnP.nil _ _, (ext_mk (by (repeat' (first | (with_reducible exact Below.refl _ _) | (with_reducible assumption) | (with_reducible refine below_ext _ ?_ ?_) | (with_reducible refine Below.alloc ?_ ?_ _) | (with_reducible refine Below.drew ?_) | (with_reducible refine below_drewN ?_ _) | (with_reducible refine le_drewN _ ?_) | (with_reducible refine Below.setCell ?_ ?_ _) | (with_reducible exact Nat.le_refl _) | (with_reducible refine le_ext _ ?_) | (with_reducible refine le_alloc _ ?_) | (with_reducible refine le_setCell _ _ ?_) | (with_reducible refine le_drew ?_) | omega | (simp; done) | (simp; omega)))))⟩
end Go.Proofs.Ytklbcmgkladdeaa
