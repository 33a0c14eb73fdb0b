
/- The reference's mutated texts. -/
import Derived.Test.YtlggmjofglmjcaaDoorDrwR
set_option linter.unusedVariables false
set_option linter.unusedSimpArgs false
namespace Go.Proofs.YtlggmjofglmjcaaDoor
open Go.RowKit

theorem RowAt.strs (w : World) (T : TypeId) (ss : List (List UInt8)) (cs : Array Value) (hcs : cs = (strVals ss).toArray) : RowAt (w.alloc (.cells cs T)) w.heap.size T ss.length (fun i => .string (bS (gstr ss i))) := by
  have hl : cs.size = ss.length := by rw [hcs]; simp [strVals]
  have := RowAt.new (f := fun i => .string (bS (gstr ss i))) w cs T (fun j hj => by
    rw [hl] at hj
    rw [hcs]
    simp [strVals, gstr_lt hj, hj])
  rw [hl] at this
  exact this
set_option maxHeartbeats 2000000 in
theorem of_any (ss : List (List UInt8)) (B nb c g p gz cz : Nat) (T : TypeId) (A : Option Addr) (w : World) (h1 : 1 ≤ ss.length) (h2 : ss.length ≤ 1000) (hp : p ≤ 1000000) (hnb : nb ≤ 2000) (hr : Rd w B A nb c g p)
    (hrow : RowAt w gz T ss.length (fun i => .string (bS (gstr ss i)))) (hne : gz ≠ g) :
    Calls Tryd.prog 73 #[.pointer (some ⟨g, 0, none⟩), .slice (some ⟨gz, 0, none⟩) ss.length cz] w fun e w' => ∃ y : List UInt8, e = .returned (.string (bS y)) ∧ y ∈ ss ∧ But w w' g ∧ Rd w' B A nb c g (p + 1) := by
  generalize hn : ss.length = n at *
  have HROW := hide hrow
  have HN := hide hn
  clear hrow hn
  go_enter Tryd.func73, Tryd.ntmps73
  go_wp2_with fail
  refine (pick_any n B nb c g p A _ h1 (by omega) hp hnb hr).mono ?_
  rintro e w' ⟨v, rfl, hv, hb, hr'⟩
  have HR := hide hr'
  have hc := (HROW.out.but hb hne).cell (j := v) (by omega)
  clear hr'
  go_wp2
  go_ret
  exact ⟨gstr ss v, rfl, gstr_mem (by rw [HN.out]; exact hv), hb, HR.out⟩
def mutA : List (List UInt8) := [[48], [49], [32], [45], [44], [47], [120], [57]]
def mutB : List (List UInt8) := [[48], [32], [47, 50], [44, 49, 32, 49], [120], [32, 49]]
theorem mutA_len {y : List UInt8} (h : y ∈ mutA) : y.length ≤ 4 := by
  simp only [mutA, List.mem_cons, List.not_mem_nil, or_false] at h
  rcases h with rfl | rfl | rfl | rfl | rfl | rfl | rfl | rfl <;> simp
theorem mutB_len {y : List UInt8} (h : y ∈ mutB) : y.length ≤ 4 := by
  simp only [mutB, List.mem_cons, List.not_mem_nil, or_false] at h
  rcases h with rfl | rfl | rfl | rfl | rfl | rfl <;> simp
set_option maxHeartbeats 4000000 in
theorem mutate_any (l : List UInt8) (B nb c g p : Nat) (A : Option Addr) (w : World) (hl : l.length ≤ 100000) (hp : p ≤ 900000) (hnb : nb ≤ 2000) (hr : Rd w B A nb c g p) :
    Calls Tryd.prog 51 #[.pointer (some ⟨g, 0, none⟩), .string (bS l)] w fun e w' => ∃ (y : List UInt8) (p' : Nat), e = .returned (.string (bS y)) ∧ y.length ≤ l.length + 5 ∧ p' ≤ p + 10 ∧ Drew w w' B A nb c g p p' := by
  have SZ := bS_size l
  have lg := hr.lt
  have hle := hr.le
  have k0 : IntKind.i64.wrap ((l.length : Int) + 1) = ((l.length + 1 : Nat) : Int) := IntWalk.i64_in _ (by omega)
  go_enter Tryd.func51, Tryd.ntmps51
  go_wp2_with fail
  refine (pick_any (l.length + 1) B nb c g p A _ (by omega) (by omega) (by omega) hnb hr).mono ?_
  rintro e w1 ⟨k, rfl, hk, hb1, hr1⟩
  have D1 := hide (Drew.of_but (p := p) hb1 hr1)
  clear hb1
  go_wp2_with fail
  refine (pick_any 5 B nb c g (p + 1) A _ (by omega) (by omega) (by omega) hnb hr1).mono ?_
  rintro e w2 ⟨v, rfl, hv, hb2, hr2⟩
  have D2 := hide (D1.out.trans (Drew.of_but (p := p + 1) hb2 hr2))
  have R2 := hide hr2
  have lg2 := hr2.lt
  clear hb2 hr1 hr2 D1
  have E1 := bS_ext l 0 k
  have L1 : ((l.drop 0).take (k - 0)).length ≤ l.length := by simp; omega
  by_cases h0 : v = 0
  · subst h0
    by_cases hkl : k < l.length
    · have E2 := bS_ext l (k + 1) l.length
      have L2 : ((l.drop (k + 1)).take (l.length - (k + 1))).length ≤ l.length := by rw [List.length_take, List.length_drop]; omega
      have OF := hide (fun (W : World) (hb : Below w2.heap.size w2 W) (hrow : RowAt W w2.heap.size 9 mutA.length (fun i => .string (bS (gstr mutA i)))) => of_any mutA B nb c g (p + 2) w2.heap.size 8 9 A W (by decide) (by decide) (by omega) hnb (R2.out.to hb) hrow (by omega))
      have L3 : ((l.drop 0).take (k - 0)).length + ((l.drop (k + 1)).take (l.length - (k + 1))).length ≤ l.length := by rw [List.length_take, List.length_take, List.length_drop, List.length_drop]; omega
      generalize (l.drop 0).take (k - 0) = la at *
      generalize (l.drop (k + 1)).take (l.length - (k + 1)) = lb at *
      have k1 : IntKind.i64.wrap ((k : Int) + 1) = ((k + 1 : Nat) : Int) := IntWalk.i64_in _ (by omega)
      have G1 : Hid (∀ y : List UInt8, y ∈ mutA → (bS la ++ bS y = bS (la ++ y)) ∧ (bS (la ++ y) ++ bS lb = bS (la ++ (y ++ lb))) ∧ (¬ 9223372036854775807 < (bS la).size + (bS y).size) ∧ (¬ 9223372036854775807 < (bS (la ++ y)).size + (bS lb).size) ∧ (la ++ (y ++ lb)).length ≤ l.length + 5) := hide (fun y hy => by
        have := mutA_len hy
        refine ⟨bS_app _ _, by rw [bS_app, List.append_assoc], ?_, ?_, ?_⟩
        · rw [bS_size, bS_size]; omega
        · rw [bS_size, bS_size, List.length_append]; omega
        · rw [List.length_append, List.length_append]; omega)
      have D2' := hide (fun (o : Obj) => D2.out.then ((Below.refl _ w2).alloc (Nat.le_refl _) o))
      go_wp2_with fail
      go_region_with (go_at_call 73; refine (OF.out _ (by (repeat' (first | (with_reducible first | exact Below.refl _ _ | assumption | refine below_ext _ ?_ ?_ | refine Below.alloc ?_ ?_ _ | refine Below.drew ?_ | refine below_drewN ?_ _ | refine le_drewN _ ?_ | refine Below.setCell ?_ ?_ _ | exact Nat.le_refl _ | refine le_ext _ ?_ | refine le_alloc _ ?_ | refine le_setCell _ _ ?_ | refine le_drew ?_) | omega | (simp; done) | (simp; omega)))) (RowAt.strs w2.drew 9 mutA _ rfl)).mono ?_; rintro e w3 ⟨y, rfl, hy, hb3, hr3⟩; obtain ⟨q1, q2, q3, q4, q5⟩ := G1.out y hy; have D3 := hide ((D2.out.then (show Below w2.heap.size w2 _ from (by (repeat' (first | (with_reducible first | exact Below.refl _ _ | assumption | refine below_ext _ ?_ ?_ | refine Below.alloc ?_ ?_ _ | refine Below.drew ?_ | refine below_drewN ?_ _ | refine le_drewN _ ?_ | refine Below.setCell ?_ ?_ _ | exact Nat.le_refl _ | refine le_ext _ ?_ | refine le_alloc _ ?_ | refine le_setCell _ _ ?_ | refine le_drew ?_) | omega | (simp; done) | (simp; omega)))))).trans (Drew.of_but (p := p + 2) hb3 hr3)); clear hb3 hr3 hy)
      all_goals
        clear OF G1
        go_wp2_with fail
        go_ret
        exact ⟨_, p + 3, rfl, q5, by omega, D3.out⟩
    · have hkl' : ¬ k < l.length := hkl
      go_wp2_with fail
      go_ret
      exact ⟨l, p + 2, rfl, by omega, by omega, D2.out⟩
  · have hd0 : ((v : Int) == 0) = false := by rw [beq_eq_false_iff_ne]; omega
    by_cases h1 : v = 1
    · subst h1
      generalize (l.drop 0).take (k - 0) = la at *
      go_wp2_with fail
      go_ret
      exact ⟨la, p + 2, rfl, by omega, by omega, D2.out⟩
    · have hd1 : ((v : Int) == 1) = false := by rw [beq_eq_false_iff_ne]; omega
      by_cases h2 : v = 2
      · subst h2
        have OF := hide (fun (W : World) (hb : Below w2.heap.size w2 W) (hrow : RowAt W w2.heap.size 9 mutB.length (fun i => .string (bS (gstr mutB i)))) => of_any mutB B nb c g (p + 2) w2.heap.size 6 9 A W (by decide) (by decide) (by omega) hnb (R2.out.to hb) hrow (by omega))
        have G1 : Hid (∀ y : List UInt8, y ∈ mutB → (bS l ++ bS y = bS (l ++ y)) ∧ (¬ 9223372036854775807 < (bS l).size + (bS y).size) ∧ (l ++ y).length ≤ l.length + 5) := hide (fun y hy => by
          have := mutB_len hy
          refine ⟨bS_app _ _, ?_, ?_⟩
          · rw [bS_size, bS_size]; omega
          · simp; omega)
        go_wp2_with fail
        refine (OF.out _ (by (repeat' (first | (with_reducible first | exact Below.refl _ _ | assumption | refine below_ext _ ?_ ?_ | refine Below.alloc ?_ ?_ _ | refine Below.drew ?_ | refine below_drewN ?_ _ | refine le_drewN _ ?_ | refine Below.setCell ?_ ?_ _ | exact Nat.le_refl _ | refine le_ext _ ?_ | refine le_alloc _ ?_ | refine le_setCell _ _ ?_ | refine le_drew ?_) | omega | (simp; done) | (simp; omega)))) (RowAt.strs w2 9 mutB _ rfl)).mono ?_
        rintro e w3 ⟨y, rfl, hy, hb3, hr3⟩
        obtain ⟨q1, q2, q3⟩ := G1.out y hy
        have D3 := hide ((D2.out.then (show Below w2.heap.size w2 _ from (by (repeat' (first | (with_reducible first | exact Below.refl _ _ | assumption | refine below_ext _ ?_ ?_ | refine Below.alloc ?_ ?_ _ | refine Below.drew ?_ | refine below_drewN ?_ _ | refine le_drewN _ ?_ | refine Below.setCell ?_ ?_ _ | exact Nat.le_refl _ | refine le_ext _ ?_ | refine le_alloc _ ?_ | refine le_setCell _ _ ?_ | refine le_drew ?_) | omega | (simp; done) | (simp; omega)))))).trans (Drew.of_but (p := p + 2) hb3 hr3))
        clear hb3 hr3 hy OF G1
        go_wp2_with fail
        go_ret
        exact ⟨_, p + 3, rfl, q3, by omega, D3.out⟩
      · have hd2 : ((v : Int) == 2) = false := by rw [beq_eq_false_iff_ne]; omega
        go_wp2_with fail
        go_ret
        exact ⟨l, p + 2, rfl, by omega, by omega, D2.out⟩
end Go.Proofs.YtlggmjofglmjcaaDoor
