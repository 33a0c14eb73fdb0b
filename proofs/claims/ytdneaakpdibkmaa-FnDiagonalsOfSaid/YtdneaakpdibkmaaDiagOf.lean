
/- DiagonalsOf: the program's and the reference's. -/
import Derived.Test.YtdneaakpdibkmaaConvD
import Derived.Test.YtdneaakpdibkmaaDiagI
import Derived.Test.YtdneaakpdibkmaaDiagS
import Derived.Test.YtdneaakpdibkmaaSimI
import Derived.Test.YtdneaakpdibkmaaSimS
import Derived.Test.YtdneaakpdibkmaaMarkR
set_option linter.unusedVariables false
set_option linter.unusedSimpArgs false
namespace Go.Proofs.Ytdneaakpdibkmaa
open Go.RowKit

theorem prL_len (n : Nat) : (prL n).length ≤ n * n := prsTo_len n n
theorem diagL_len (ps : List Pt) : (diagL ps).length ≤ 1000 := by
  unfold diagL
  by_cases h : simB ps = true
  · rw [if_pos h]
    obtain ⟨_, _, h20, _⟩ := simB_parts h
    have h1 := List.length_filter_le (fun d : Pt => diagI ps d.x.toNat d.y.toNat) (prL ps.length)
    have h2 := prL_len ps.length
    have h3 : ps.length * ps.length ≤ 20 * 20 := Nat.mul_le_mul h20 h20
    omega
  · rw [if_neg h]; exact Nat.zero_le _
theorem diagL_no {ps : List Pt} (h : simB ps = false) : diagL ps = [] := by unfold diagL; rw [h]; rfl
theorem diagL_yes {ps : List Pt} (h : simB ps = true) : diagL ps = (prL ps.length).filter (fun d => !!diagI ps d.x.toNat d.y.toNat) := by
  unfold diagL; rw [if_pos h]; simp only [Bool.not_not]
theorem prL_at {n t : Nat} (h : t < (prL n).length) : ∃ i k : Nat, i < k ∧ k < n ∧ pX (prL n) t = i ∧ pY (prL n) t = k ∧ gp (prL n) t = ⟨(i : Int), (k : Int)⟩ := by
  obtain ⟨i, k, h1, h2, h3, e⟩ := prsTo_mem.1 (show gp (prL n) t ∈ prsTo n n from gp_mem h)
  exact ⟨i, k, h2, h3, by unfold pX; rw [e], by unfold pY; rw [e], e⟩
theorem prL_pos {n : Nat} (h : 2 ≤ n) : 0 < (prL n).length := by
  have : (⟨((0 : Nat) : Int), ((1 : Nat) : Int)⟩ : Pt) ∈ prsTo n n := prsTo_mem.2 ⟨0, 1, by omega, by omega, by omega, rfl⟩
  exact List.length_pos_of_mem this
set_option maxHeartbeats 1000000 in
theorem diag1_any (ps : List Pt) (i k : Nat) (A : Option Addr) (n c bx : Nat) (w : World) (hn : ps.length = n) (hok : simB ps = true) (hi : i < n) (hk : k < n) (hs : PtsAt w w.heap.size A ps) (hx : w.cell? ⟨bx, 0, none⟩ = some (.slice A n c)) :
    Calls Try.prog 65 #[.agg #[.int .i64 i, .int .i64 k], .pointer (some ⟨bx, 0, none⟩)] w fun e w' => e = .returned (.bool (!diagI ps i k)) ∧ ∃ x, w' = ext w x := by
  have l1 : bx < w.heap.size := World.block_lt_of_cell? w _ hx
  have HD := hide (fun (W : World) (hb : Below w.heap.size w W) => diagonal_any ps i k A n c W hn hok hi hk (hs.to hb))
  clear hn hs hok
  go_enter Try.func65, Try.ntmps65
  go_wp2_with fail
  refine (HD.out _ (by (repeat' (first | (with_reducible exact Below.refl _ _) | (with_reducible assumption) | (with_reducible refine below_ext _ ?_ ?_) | (with_reducible refine Below.alloc ?_ ?_ _) | (with_reducible refine Below.drew ?_) | (with_reducible refine below_drewN ?_ _) | (with_reducible refine le_drewN _ ?_) | (with_reducible refine Below.setCell ?_ ?_ _) | (with_reducible exact Nat.le_refl _) | (with_reducible refine le_ext _ ?_) | (with_reducible refine le_alloc _ ?_) | (with_reducible refine le_setCell _ _ ?_) | (with_reducible refine le_drew ?_) | omega | (simp; done) | (simp; omega))))).mono ?_
  rintro e w' ⟨rfl, hw'⟩; have hzy2 := ext_sz hw'; obtain ⟨y2, rfl⟩ := hw'; (try simp at hzy2)
  go_wp2_with fail
  go_ret
  exact ⟨rfl, (ext_mk (by (repeat' (first | (with_reducible exact Below.refl _ _) | (with_reducible assumption) | (with_reducible refine below_ext _ ?_ ?_) | (with_reducible refine Below.alloc ?_ ?_ _) | (with_reducible refine Below.drew ?_) | (with_reducible refine below_drewN ?_ _) | (with_reducible refine le_drewN _ ?_) | (with_reducible refine Below.setCell ?_ ?_ _) | (with_reducible exact Nat.le_refl _) | (with_reducible refine le_ext _ ?_) | (with_reducible refine le_alloc _ ?_) | (with_reducible refine le_setCell _ _ ?_) | (with_reducible refine le_drew ?_) | omega | (simp; done) | (simp; omega)))))⟩
set_option maxHeartbeats 1000000 in
theorem iDiags_any' (ps : List Pt) (A : Option Addr) (n c : Nat) (w : World) (hn : ps.length = n) (hm : n ≤ 2000000) (hA : Plain A n) (hs : PtsAt w w.heap.size A ps) :
    Calls Try.prog 26 #[.slice A n c] w fun e w' => ∃ A' n' c', e = .returned (.slice A' n' c') ∧ (diagL ps).length = n' ∧ n' ≤ c' ∧ c' ≤ 9223372036854775807 ∧ RRow w' w.heap.size A' (diagL ps) ∧ Plain A' n' ∧ ∃ x, w' = ext w x := by
  have HC := hide (fun (W : World) (hb : Below w.heap.size w W) => simple_any ps A n c W hn hm hA (hs.to hb))
  by_cases hok : simB ps = true
  · rw [hok] at HC
    obtain ⟨_, h3, h20, _⟩ := simB_parts hok
    have k3 : 3 ≤ n := by omega
    have k20 : n ≤ 20 := by omega
    have k1000 : n ≤ 1000 := by omega
    have PN := hide (pairs_any n)
    have DY := hide (diagL_yes hok)
    have HD := hide (fun (i k : Nat) (bx : Nat) (W : World) (hb : Below w.heap.size w W) (hi : i < n) (hk : k < n) (hx : W.cell? ⟨bx, 0, none⟩ = some (.slice A n c)) => diag1_any ps i k A n c bx W hn hok hi hk (hs.to hb) hx)
    have AT := hide (fun t => prL_at (n := n) (t := t))
    have LP : 0 < (prL n).length := prL_pos (by omega)
    have LN : (prL n).length ≤ 400 := by
      have h1 := prL_len n
      have h2 : n * n ≤ 20 * 20 := Nat.mul_le_mul k20 k20
      omega
    rw [hn] at DY
    clear hn hs hok h3 h20 hm
    go_enter Try.func26, Try.ntmps26
    go_wp2_with fail
    refine (HC.out _ (by (repeat' (first | (with_reducible exact Below.refl _ _) | (with_reducible assumption) | (with_reducible refine below_ext _ ?_ ?_) | (with_reducible refine Below.alloc ?_ ?_ _) | (with_reducible refine Below.drew ?_) | (with_reducible refine below_drewN ?_ _) | (with_reducible refine le_drewN _ ?_) | (with_reducible refine Below.setCell ?_ ?_ _) | (with_reducible exact Nat.le_refl _) | (with_reducible refine le_ext _ ?_) | (with_reducible refine le_alloc _ ?_) | (with_reducible refine le_setCell _ _ ?_) | (with_reducible refine le_drew ?_) | omega | (simp; done) | (simp; omega))))).mono ?_
    rintro e w' ⟨rfl, hw'⟩; have hzy1 := ext_sz hw'; obtain ⟨y1, rfl⟩ := hw'; (try simp at hzy1)
    go_wp2_with fail
    refine (PN.out _ k1000).mono ?_
    rintro e w2 ⟨v, rfl, hown, hx2⟩
    obtain ⟨A2, n2, c2, rfl⟩ := hown.slice
    have l2 := hown.pts.1
    have B2 := ext_bel hx2
    have OWN := hide hown
    obtain ⟨CX, zx, BX⟩ := box_ext w (.slice A n c) 23 y1
    generalize ext (w.alloc (.cells #[.slice A n c] 23)) y1 = W1 at *
    have hz2 := B2.size
    clear hown hx2
    have CB : w2.cell? ⟨w.heap.size, 0, none⟩ = some (.slice A n c) := (B2.cell (p := ⟨w.heap.size, 0, none⟩) (show w.heap.size < _ from by omega)).trans CX
    have BW : Hid (Below w.heap.size w w2) := hide (BX.trans (B2.mono (by omega)))
    have DEL := hide (deleteR_any 65 #[.pointer (some ⟨w.heap.size, 0, none⟩)] (fun d => !diagI ps d.x.toNat d.y.toNat) (prL n) (w.heap.size + 1) A2 n2 c2 w2 l2 (by omega) (by omega) (by omega) (enters _ Try.func65 (by kernel_rfl) rfl) (OWN.out.base (by omega)) (fun W t hW ht => by
      obtain ⟨i, k, h1, h2, e1, e2, e3⟩ := AT.out t (by omega)
      rw [e1, e2, e3]
      exact HD.out i k w.heap.size W (BW.out.trans (hW.mono (by omega))) (by omega) h2 ((hW.cell (p := ⟨w.heap.size, 0, none⟩) (Nat.lt_succ_self _)).trans CB)))
    rw [← DY.out] at DEL
    clear HD AT DY PN HC OWN
    go_wp2_with fail
    refine DEL.out.mono ?_
    rintro e w3 ⟨v3, rfl, hown3, hb3⟩
    obtain ⟨A3, n3, c3, rfl⟩ := hown3.slice
    have P3 := hide hown3.rrow
    have F3 := hown3.form
    have hc3 := hown3.pts.2
    have hc31 := hc3.1
    have hc32 : c3 ≤ 9223372036854775807 := by have := hc3.2.1; unfold maxLen at this; exact this
    have HB : Hid (∃ x, w3 = ext w x) := hide (ext_mk (BW.out.trans (hb3.mono (by omega))))
    clear hown3 hc3 DEL
    go_wp2_with fail
    refine (clipR_any _ _ _ _ hc31 hc32 F3.1).mono ?_
    rintro e w' ⟨rfl, rfl⟩
    go_wp2_with fail
    go_ret
    exact ⟨_, _, _, rfl, P3.out.1, Nat.le_refl _, by omega, fun h0 => by
      obtain ⟨g, m, f, e1, e2, e3⟩ := P3.out.2 h0
      exact ⟨g, m, f, e1, by omega, e3⟩, F3.1, HB.out⟩
  · have hok := eq_false_of_ne_true hok
    rw [hok] at HC
    have DN := hide (diagL_no hok)
    clear hn hs hok
    go_enter Try.func26, Try.ntmps26
    go_wp2_with fail
    refine (HC.out _ (by (repeat' (first | (with_reducible exact Below.refl _ _) | (with_reducible assumption) | (with_reducible refine below_ext _ ?_ ?_) | (with_reducible refine Below.alloc ?_ ?_ _) | (with_reducible refine Below.drew ?_) | (with_reducible refine below_drewN ?_ _) | (with_reducible refine le_drewN _ ?_) | (with_reducible refine Below.setCell ?_ ?_ _) | (with_reducible exact Nat.le_refl _) | (with_reducible refine le_ext _ ?_) | (with_reducible refine le_alloc _ ?_) | (with_reducible refine le_setCell _ _ ?_) | (with_reducible refine le_drew ?_) | omega | (simp; done) | (simp; omega))))).mono ?_
    rintro e w' ⟨rfl, hw'⟩; have hzy1 := ext_sz hw'; obtain ⟨y1, rfl⟩ := hw'; (try simp at hzy1)
    go_wp2_with fail
    go_ret
    exact ⟨none, 0, 0, rfl, by rw [DN.out]; rfl, Nat.le_refl _, by omega, by rw [DN.out]; exact RRow.nil _ _ _, Plain.none rfl, (ext_mk (by (repeat' (first | (with_reducible exact Below.refl _ _) | (with_reducible assumption) | (with_reducible refine below_ext _ ?_ ?_) | (with_reducible refine Below.alloc ?_ ?_ _) | (with_reducible refine Below.drew ?_) | (with_reducible refine below_drewN ?_ _) | (with_reducible refine le_drewN _ ?_) | (with_reducible refine Below.setCell ?_ ?_ _) | (with_reducible exact Nat.le_refl _) | (with_reducible refine le_ext _ ?_) | (with_reducible refine le_alloc _ ?_) | (with_reducible refine le_setCell _ _ ?_) | (with_reducible refine le_drew ?_) | omega | (simp; done) | (simp; omega)))))⟩
theorem iDiags_any (ps : List Pt) (A : Option Addr) (n c : Nat) (w : World) (hn : ps.length = n) (hm : n ≤ 2000000) (hs : PtsAt w w.heap.size A ps) (hA : Plain A n := by exact Plain.some) :
    Calls Try.prog 26 #[.slice A n c] w fun e w' => ∃ A' n' c', e = .returned (.slice A' n' c') ∧ (diagL ps).length = n' ∧ n' ≤ c' ∧ c' ≤ 9223372036854775807 ∧ RRow w' w.heap.size A' (diagL ps) ∧ Plain A' n' ∧ ∃ x, w' = ext w x := iDiags_any' ps A n c w hn hm hA hs
/-! ### the reference's -/
set_option maxHeartbeats 1000000 in
theorem sDiags_any (ps : List Pt) (A : Option Addr) (n c : Nat) (w : World) (hn : ps.length = n) (hm : n ≤ 2000000) (hs : PtsAt w w.heap.size A ps) :
    Calls Try.prog 31 #[.slice A n c] w fun e w' => ∃ v, e = .returned v ∧ OwnR w' w.heap.size v (diagL ps) ∧ ∃ x, w' = ext w x := by
  have HC := hide (fun (W : World) (hb : Below w.heap.size w W) => isSimple_any ps A n c W hn hm (hs.to hb))
  by_cases hok : simB ps = true
  · rw [hok] at HC
    obtain ⟨_, h3, h20, _⟩ := simB_parts hok
    have k3 : 3 ≤ n := by omega
    have k20 : n ≤ 20 := by omega
    have S := sim_of hok
    have HD : Hid (∀ (i k : Nat) (W : World), Below w.heap.size w W → i < n → k < n → Calls Try.prog 70 #[.slice A n c, .int .i64 i, .int .i64 k] W fun e w' => e = .returned (.bool (diagI ps i k)) ∧ ∃ x, w' = ext W x) := hide (fun i k W hb hi hk => by
      rw [diag_eq S (by omega) (by omega)]
      exact sdiagonal_any ps i k A n c W hn hok hi hk (hs.to hb))
    have NX := hide (dTo_succ ps)
    have ALL := hide (dTo_all hok)
    have TL := hide (dTo_len ps)
    have RL := hide (dRow_len ps)
    have R0 := hide (dRow_nil ps)
    have RY := hide (fun a b => dRow_yes (ps := ps) (a := a) (b := b))
    have RN := hide (fun a b => dRow_no (ps := ps) (a := a) (b := b))
    have T0 : Hid (dTo ps 0 = []) := hide rfl
    rw [hn] at NX ALL TL
    clear hn hs hok h3 h20 hm S
    go_enter Try.func31, Try.ntmps31
    go_wp2_with fail
    refine (HC.out _ (by (repeat' (first | (with_reducible exact Below.refl _ _) | (with_reducible assumption) | (with_reducible refine below_ext _ ?_ ?_) | (with_reducible refine Below.alloc ?_ ?_ _) | (with_reducible refine Below.drew ?_) | (with_reducible refine below_drewN ?_ _) | (with_reducible refine le_drewN _ ?_) | (with_reducible refine Below.setCell ?_ ?_ _) | (with_reducible exact Nat.le_refl _) | (with_reducible refine le_ext _ ?_) | (with_reducible refine le_alloc _ ?_) | (with_reducible refine le_setCell _ _ ?_) | (with_reducible refine le_drew ?_) | omega | (simp; done) | (simp; omega))))).mono ?_
    rintro e w' ⟨rfl, hw'⟩; have hzy1 := ext_sz hw'; obtain ⟨y1, rfl⟩ := hw'; (try simp at hzy1)
    have O1 : Hid (OwnR (ext (w.alloc (.cells #[] 51)) y1) w.heap.size (.slice (some ⟨w.heap.size, 0, none⟩) 0 0) []) := hide ((OwnR.empty w w.heap.size 0 (Nat.le_refl _) #[] rfl (by simp [maxLen])).below (by (repeat' (first | (with_reducible exact Below.refl _ _) | (with_reducible assumption) | (with_reducible refine below_ext _ ?_ ?_) | (with_reducible refine Below.alloc ?_ ?_ _) | (with_reducible refine Below.drew ?_) | (with_reducible refine below_drewN ?_ _) | (with_reducible refine le_drewN _ ?_) | (with_reducible refine Below.setCell ?_ ?_ _) | (with_reducible exact Nat.le_refl _) | (with_reducible refine le_ext _ ?_) | (with_reducible refine le_alloc _ ?_) | (with_reducible refine le_setCell _ _ ?_) | (with_reducible refine le_drew ?_) | omega | (simp; done) | (simp; omega)))))
    go_wp2_with fail
    go_loopw [3, 4, 5] (fun u3 u4 _ wr => ∃ a : Nat, a ≤ n ∧ u4 = .int .i64 a ∧ OwnR wr w.heap.size u3 (dTo ps a) ∧ Below w.heap.size w wr) (fun _ u4 _ _ => n - (intOf u4).toNat)
    case atStart => exact ⟨0, Nat.zero_le _, rfl, by rw [T0.out]; exact O1.out, (by (repeat' (first | (with_reducible exact Below.refl _ _) | (with_reducible assumption) | (with_reducible refine below_ext _ ?_ ?_) | (with_reducible refine Below.alloc ?_ ?_ _) | (with_reducible refine Below.drew ?_) | (with_reducible refine below_drewN ?_ _) | (with_reducible refine le_drewN _ ?_) | (with_reducible refine Below.setCell ?_ ?_ _) | (with_reducible exact Nat.le_refl _) | (with_reducible refine le_ext _ ?_) | (with_reducible refine le_alloc _ ?_) | (with_reducible refine le_setCell _ _ ?_) | (with_reducible refine le_drew ?_) | omega | (simp; done) | (simp; omega))))⟩
    case round =>
      obtain ⟨a, ha, rfl, hown, hbel⟩ := hrel
      obtain ⟨Ak, nk, ck, rfl⟩ := hown.slice
      have hsz := hbel.size
      have OWN := hide hown
      clear hown
      obtain ⟨W0, hW0⟩ : ∃ W0, W0 = wr := ⟨_, rfl⟩
      subst hW0
      by_cases hlt : a < n
      · go_wp2_with fail
        go_loopw [3, 5] (fun u3 u5 wr => ∃ b : Nat, a + 1 ≤ b ∧ b ≤ n ∧ u5 = .int .i64 b ∧ OwnR wr w.heap.size u3 (dTo ps a ++ dRow ps a b) ∧ Below w.heap.size w wr) (fun _ u5 _ => n - (intOf u5).toNat)
        case atStart => exact ⟨a + 1, Nat.le_refl _, by omega, by go_num, by rw [R0.out, List.append_nil]; exact OWN.out, hbel⟩
        case round =>
          obtain ⟨b, hb1, hb2, rfl, hown, hbel2⟩ := hrel
          obtain ⟨Bk, mk, dk, rfl⟩ := hown.slice
          have hsz2 := hbel2.size
          have OWN2 := hide hown
          clear hown
          have hal : (dTo ps a ++ dRow ps a b).length ≤ 2000000 := by
            have h1 := TL.out a
            have h2 : a * n ≤ 20 * 20 := Nat.mul_le_mul (by omega) k20
            have h3 := RL.out a b
            rw [List.length_append]; omega
          by_cases hlt2 : b < n
          · have DB := hide (HD.out a b)
            by_cases hd : diagI ps a b = true
            · rw [hd] at DB
              have NXT := hide (RY.out a b hb1 hd)
              go_wp2_with fail
              refine (DB.out _ hbel2 hlt hlt2).mono ?_
              rintro e w' ⟨rfl, hw'⟩; have hzy2 := ext_sz hw'; obtain ⟨y2, rfl⟩ := hw'; (try simp at hzy2)
              go_wp2_with (at_builtin; refine app_pr rfl _ _ rfl w.heap.size (.slice Bk mk dk) (dTo ps a ++ dRow ps a b) rfl (OWN2.out.below (by (repeat' (first | (with_reducible exact Below.refl _ _) | (with_reducible assumption) | (with_reducible refine below_ext _ ?_ ?_) | (with_reducible refine Below.alloc ?_ ?_ _) | (with_reducible refine Below.drew ?_) | (with_reducible refine below_drewN ?_ _) | (with_reducible refine le_drewN _ ?_) | (with_reducible refine Below.setCell ?_ ?_ _) | (with_reducible exact Nat.le_refl _) | (with_reducible refine le_ext _ ?_) | (with_reducible refine le_alloc _ ?_) | (with_reducible refine le_setCell _ _ ?_) | (with_reducible refine le_drew ?_) | omega | (simp; done) | (simp; omega))))) (a : Int) (b : Int) _ _ rfl (by simp [go_sem]) (by simp [go_sem]) hal (by simp; omega) ?_; intro v' w' hown' hb' hat hgr; obtain ⟨A', n', c', rfl⟩ := hown'.slice; have OWN' := hide hown'; clear hown' hat hgr)
              exact ⟨⟨b + 1, by omega, by omega, by go_num, by rw [NXT.out, ← List.append_assoc]; exact OWN'.out, Below.trans (Below.trans hbel2 (by (repeat' (first | (with_reducible exact Below.refl _ _) | (with_reducible assumption) | (with_reducible refine below_ext _ ?_ ?_) | (with_reducible refine Below.alloc ?_ ?_ _) | (with_reducible refine Below.drew ?_) | (with_reducible refine below_drewN ?_ _) | (with_reducible refine le_drewN _ ?_) | (with_reducible refine Below.setCell ?_ ?_ _) | (with_reducible exact Nat.le_refl _) | (with_reducible refine le_ext _ ?_) | (with_reducible refine le_alloc _ ?_) | (with_reducible refine le_setCell _ _ ?_) | (with_reducible refine le_drew ?_) | omega | (simp; done) | (simp; omega))))) hb'⟩, by simp [intOf]; omega⟩
            · have hd := eq_false_of_ne_true hd
              rw [hd] at DB
              have NXT := hide (RN.out a b hb1 hd)
              go_wp2_with fail
              refine (DB.out _ hbel2 hlt hlt2).mono ?_
              rintro e w' ⟨rfl, hw'⟩; have hzy2 := ext_sz hw'; obtain ⟨y2, rfl⟩ := hw'; (try simp at hzy2)
              go_wp2_with fail
              exact ⟨⟨b + 1, by omega, by omega, by go_num, by rw [NXT.out]; exact OWN2.out.below (by (repeat' (first | (with_reducible exact Below.refl _ _) | (with_reducible assumption) | (with_reducible refine below_ext _ ?_ ?_) | (with_reducible refine Below.alloc ?_ ?_ _) | (with_reducible refine Below.drew ?_) | (with_reducible refine below_drewN ?_ _) | (with_reducible refine le_drewN _ ?_) | (with_reducible refine Below.setCell ?_ ?_ _) | (with_reducible exact Nat.le_refl _) | (with_reducible refine le_ext _ ?_) | (with_reducible refine le_alloc _ ?_) | (with_reducible refine le_setCell _ _ ?_) | (with_reducible refine le_drew ?_) | omega | (simp; done) | (simp; omega)))), hbel2.trans (by (repeat' (first | (with_reducible exact Below.refl _ _) | (with_reducible assumption) | (with_reducible refine below_ext _ ?_ ?_) | (with_reducible refine Below.alloc ?_ ?_ _) | (with_reducible refine Below.drew ?_) | (with_reducible refine below_drewN ?_ _) | (with_reducible refine le_drewN _ ?_) | (with_reducible refine Below.setCell ?_ ?_ _) | (with_reducible exact Nat.le_refl _) | (with_reducible refine le_ext _ ?_) | (with_reducible refine le_alloc _ ?_) | (with_reducible refine le_setCell _ _ ?_) | (with_reducible refine le_drew ?_) | omega | (simp; done) | (simp; omega))))⟩, by simp [intOf]; omega⟩
          · have eb : b = n := by omega
            subst eb
            go_wp2_with fail
            exact ⟨⟨a + 1, by omega, by go_num, by rw [NX.out]; exact OWN2.out, hbel2⟩, by simp [intOf]; omega⟩
      · have ea : a = n := by omega
        subst ea
        go_wp2
        go_ret
        exact ⟨_, rfl, by rw [← ALL.out]; exact OWN.out, ext_mk hbel⟩
  · have hok := eq_false_of_ne_true hok
    rw [hok] at HC
    have DN := hide (diagL_no hok)
    clear hn hs hok
    go_enter Try.func31, Try.ntmps31
    go_wp2_with fail
    refine (HC.out _ (by (repeat' (first | (with_reducible exact Below.refl _ _) | (with_reducible assumption) | (with_reducible refine below_ext _ ?_ ?_) | (with_reducible refine Below.alloc ?_ ?_ _) | (with_reducible refine Below.drew ?_) | (with_reducible refine below_drewN ?_ _) | (with_reducible refine le_drewN _ ?_) | (with_reducible refine Below.setCell ?_ ?_ _) | (with_reducible exact Nat.le_refl _) | (with_reducible refine le_ext _ ?_) | (with_reducible refine le_alloc _ ?_) | (with_reducible refine le_setCell _ _ ?_) | (with_reducible refine le_drew ?_) | omega | (simp; done) | (simp; omega))))).mono ?_
    rintro e w' ⟨rfl, hw'⟩; have hzy1 := ext_sz hw'; obtain ⟨y1, rfl⟩ := hw'; (try simp at hzy1)
    go_wp2_with fail
    go_ret
    exact ⟨_, rfl, by rw [DN.out]; exact OwnR.nil _ _, (ext_mk (by (repeat' (first | (with_reducible exact Below.refl _ _) | (with_reducible assumption) | (with_reducible refine below_ext _ ?_ ?_) | (with_reducible refine Below.alloc ?_ ?_ _) | (with_reducible refine Below.drew ?_) | (with_reducible refine below_drewN ?_ _) | (with_reducible refine le_drewN _ ?_) | (with_reducible refine Below.setCell ?_ ?_ _) | (with_reducible exact Nat.le_refl _) | (with_reducible refine le_ext _ ?_) | (with_reducible refine le_alloc _ ?_) | (with_reducible refine le_setCell _ _ ?_) | (with_reducible refine le_drew ?_) | omega | (simp; done) | (simp; omega)))))⟩
end Go.Proofs.Ytdneaakpdibkmaa
