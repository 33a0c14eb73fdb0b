
/- Colors of the program: impl.colors. -/
import Derived.Test.YtelhidonhldjeaaGreatColI
set_option linter.unusedVariables false
set_option linter.unusedSimpArgs false
namespace Go.Proofs.YtelhidonhldjeaaGreat
open Go.RowKit

set_option maxRecDepth 20000 in
set_option maxHeartbeats 2000000 in
theorem colors_any (ts : List TI) (Z : Option Addr) (m d n : Nat) (w : World) (ht : ts.length = m) (hm : m ≤ 2000000) (h0 : 0 < n) (hn2 : n ≤ 1000000) (hin : ∀ j, j < m → tIn n (gt ts j) = true) (hd : ∀ j, j < ts.length → (gt ts j).a ≠ (gt ts j).b ∧ (gt ts j).b ≠ (gt ts j).c ∧ (gt ts j).a ≠ (gt ts j).c) (hft : fitC (ts.map toN) (noCol n) = true) (hz : TrisAt w w.heap.size Z ts) :
    Calls Tryz.prog 47 #[.int .i64 n, .slice Z m d] w fun e w' => ∃ g, e = .returned (.slice (some ⟨g, 0, none⟩) n n) ∧ w.heap.size ≤ g ∧ ColAt w' g n (colL (ts.map toN) n) ∧ ∃ x, w' = ext w x := by
  have FR := hide (fun (cb bo bc bf : Nat) (W : World) (hb : Below w.heap.size w W) (hcb : w.heap.size + 2 ≤ cb) (n2 : bo ≠ cb) (n4 : bc ≠ cb) (n5 : bf ≠ cb) (hc : ColAt W cb n (noCol n)) g1 g2 g3 g4 g5 =>
    from_any ts Z m d n n n cb w.heap.size w.heap.size bo (w.heap.size + 1) bc bf ht hm (by omega) (Nat.le_refl _) hin hd (by omega) (by omega) n2 (by omega) n4 n5 n 0 (noCol n) W (by omega) (noCol_len n) (fun j _ hj => gi_noCol' hj) hft hb.size (hz.below hb) hc g1 g2 g3 g4 g5)
  have CL : Hid ((srch (ts.map toN) n 0 (noCol n)).getD (noCol n) = colL (ts.map toN) n) := hide rfl
  rw [CL.out] at FR
  have LL := hide (colL_len (ts.map toN) n)
  have RE := hide (fun (b c : Nat) (W : World) (hx : W.cell? ⟨b, 0, none⟩ = some (.int .i64 (-1))) => rep_any (-1) b c n W h0 (by omega) hx)
  have E2 : ∀ args w, (callFunc 80 args).run Tryz.prog w = .ok (.enter 80 args) w := enters _ Tryz.func80 (by kernel_rfl) rfl
  have ST : ∀ (W : World) (a : Addr) (f : Fn) (x y : Array Value) (md : Mode), (store a (.func f x y) md).run Tryz.prog W = stored Tryz.prog W a (.func f x y) md := fun W a f x y md => run_store Tryz.prog W a (.func f x y) md rfl
  have CP := hide (fun (g : Nat) (W : World) => clipN_any (some ⟨g, 0, none⟩) n n W (Nat.le_refl _) (by omega) (fun _ h => by cases h))
  clear hz hin ht CL hd hft
  generalize colL (ts.map toN) n = CO at *
  generalize (srch (ts.map toN) n 0 (noCol n)).isSome = bb at *
  go_enter Tryz.func47, Tryz.ntmps47
  go_wp2_with fail
  refine (RE.out _ _ _ (by simp [go_sem, ↓IntWalk.iteOmega])).mono ?_
  rintro e w2 ⟨g, rfl, hg, ca, hx2⟩
  have D2 := ext_bel hx2
  have hg : w.heap.size + 3 ≤ g := by simpa using hg
  have lg := ca.lt
  have CA := hide ca
  have B2 := hide ((show Below w.heap.size w _ from (by (repeat' (first | (with_reducible exact Below.refl _ _) | (with_reducible assumption) | (with_reducible refine below_ext _ ?_ ?_) | (with_reducible refine Below.alloc ?_ ?_ _) | (with_reducible refine Below.drew ?_) | (with_reducible refine below_drewN ?_ _) | (with_reducible refine le_drewN _ ?_) | (with_reducible refine Below.setCell ?_ ?_ _) | (with_reducible exact Nat.le_refl _) | (with_reducible refine le_ext _ ?_) | (with_reducible refine le_alloc _ ?_) | (with_reducible refine le_setCell _ _ ?_) | (with_reducible refine le_drew ?_) | omega | (simp; done) | (simp; omega))))).trans (D2.mono (show w.heap.size ≤ _ by simp; omega)))
  have g1 : w2.cell? ⟨w.heap.size, 0, none⟩ = some (.int .i64 n) := (D2.cell (p := ⟨w.heap.size, 0, none⟩) (by simp; omega)).trans (by simp [go_sem, ↓IntWalk.iteOmega])
  have g3 : w2.cell? ⟨w.heap.size + 1, 0, none⟩ = some (.slice Z m d) := (D2.cell (p := ⟨w.heap.size + 1, 0, none⟩) (by simp)).trans (by simp [go_sem, ↓IntWalk.iteOmega])
  clear ca hx2 D2
  have hs2 : w.heap.size + 1 < w2.heap.size := by omega
  go_wp2_with fail
  refine (FR.out g w2.heap.size (w2.heap.size + 1) (w2.heap.size + 1 + 1) _ (B2.out.trans (by (repeat' (first | (with_reducible exact Below.refl _ _) | (with_reducible assumption) | (with_reducible refine below_ext _ ?_ ?_) | (with_reducible refine Below.alloc ?_ ?_ _) | (with_reducible refine Below.drew ?_) | (with_reducible refine below_drewN ?_ _) | (with_reducible refine le_drewN _ ?_) | (with_reducible refine Below.setCell ?_ ?_ _) | (with_reducible exact Nat.le_refl _) | (with_reducible refine le_ext _ ?_) | (with_reducible refine le_alloc _ ?_) | (with_reducible refine le_setCell _ _ ?_) | (with_reducible refine le_drew ?_) | omega | (simp; done) | (simp; omega))))) (by omega) (by omega) (by omega) (by omega) (CA.out.bel (by (repeat' (first | (with_reducible exact Below.refl _ _) | (with_reducible assumption) | (with_reducible refine below_ext _ ?_ ?_) | (with_reducible refine Below.alloc ?_ ?_ _) | (with_reducible refine Below.drew ?_) | (with_reducible refine below_drewN ?_ _) | (with_reducible refine le_drewN _ ?_) | (with_reducible refine Below.setCell ?_ ?_ _) | (with_reducible exact Nat.le_refl _) | (with_reducible refine le_ext _ ?_) | (with_reducible refine le_alloc _ ?_) | (with_reducible refine le_setCell _ _ ?_) | (with_reducible refine le_drew ?_) | omega | (simp; done) | (simp; omega))))) (by simp [go_sem, ↓IntWalk.iteOmega, g1]) (by simp [go_sem, ↓IntWalk.iteOmega]) (by simp [go_sem, ↓IntWalk.iteOmega, g3]) (by simp [go_sem, ↓IntWalk.iteOmega]) (by simp [go_sem, ↓IntWalk.iteOmega])).mono ?_
  rintro e w3 ⟨rfl, ca3, F3⟩
  have cl3 := (F3.cell (b := w2.heap.size) (j := 0) (by simp; omega) (by omega)).trans (show _ = some (Value.slice (some ⟨g, 0, none⟩) n n) by simp [go_sem, ↓IntWalk.iteOmega])
  have CA3 := hide ca3
  have B3 := hide ((B2.out.trans (by (repeat' (first | (with_reducible exact Below.refl _ _) | (with_reducible assumption) | (with_reducible refine below_ext _ ?_ ?_) | (with_reducible refine Below.alloc ?_ ?_ _) | (with_reducible refine Below.drew ?_) | (with_reducible refine below_drewN ?_ _) | (with_reducible refine le_drewN _ ?_) | (with_reducible refine Below.setCell ?_ ?_ _) | (with_reducible exact Nat.le_refl _) | (with_reducible refine le_ext _ ?_) | (with_reducible refine le_alloc _ ?_) | (with_reducible refine le_setCell _ _ ?_) | (with_reducible refine le_drew ?_) | omega | (simp; done) | (simp; omega))))).trans (F3.below (B := w.heap.size) (by omega) (by simp; omega)))
  clear ca3 F3
  go_wp2_with fail
  refine (CP.out g w3).mono ?_
  rintro e w' ⟨rfl, hw⟩
  have hw := hw.symm
  subst hw
  go_wp2_with fail
  go_ret
  exact ⟨g, rfl, by omega, CA3.out, ext_mk B3.out⟩
end Go.Proofs.YtelhidonhldjeaaGreat
