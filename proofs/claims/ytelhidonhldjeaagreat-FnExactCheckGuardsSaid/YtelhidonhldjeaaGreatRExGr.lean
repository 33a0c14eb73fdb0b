
/- The program's CheckGuards is the reference's: laws.FnExactCheckGuards returns true. No condition. -/
import Derived.Test.YtelhidonhldjeaaGreatLExGr
import Derived.Test.YtelhidonhldjeaaGreatOpenT
set_option linter.unusedVariables false
set_option linter.unusedSimpArgs false
namespace Go.Proofs.YtelhidonhldjeaaGreat
open Go.ChangeShapes Go.WideShapes Go.ChangeAt Go.RowKit Go.Joins

set_option maxRecDepth 100000 in
theorem exactCheckGuards_holds_lifted (os : Os) (started : os.Started) (H : Type) (enc : TypeId × Value → H) :
    ReturnsInHanded {} Tryz.checked os 3 .any (Rows.fnExactCheckGuardsSpec.pre6 enc Tryz.prog Tryz.f3 Rows.fnExactCheckGuardsRow.domain false) (Rows.fnExactCheckGuardsSpec.post enc Tryz.prog Tryz.f3 false true false false) := by
  refine returnsInHanded_of_change (C := Tryz.checked) Tryz.own started (by kernel_rfl) Tryz.func3
    (ChangeSpec.witness6 (enc := enc) (C := Tryz.checked) false ⟨#[], #[.slice none 0 0, .slice none 0 0, .slice none 0 0], []⟩ 8 (by kernel_rfl) (by kernel_rfl) (by kernel_rfl) (by kernel_rfl)) ?_
  intro W base args ds gs before hval0 hW hcnd _
  have hval : ∀ (j : Nat) t v, Tryz.f3.params[j]? = some t → args[j]? = some v → Value.okWide Tryz.prog W .any base t v := hval0
  have hW' := hW
  obtain ⟨p, q, hA0, hV, rfl, hfz, hnd⟩ := hW
  have hA : DataW.TrodAll enc Tryz.prog W 0 (fun _ => true) true Tryz.f3.params.toList args.toList ds p := hA0
  rw [Tryz.params3] at hA hval
  obtain ⟨v0, v1, v2, d0, d1, d2, p0, p1, p2, rfl, rfl, rfl, h0, h1, h2⟩ := trodAll_three hA
  obtain ⟨rfl, rfl⟩ := trodVars_none hV
  obtain ⟨a0, len0, cap0, rfl⟩ := okWide_slice Tryz.underlying22 (hval 0 22 v0 rfl rfl)
  obtain ⟨fuel0, hf0⟩ := h0
  obtain ⟨A0, n0, c0, ps0, hcs0, hn0, hcap0, hmc0, hs0⟩ := open_pts Tryz.underlying22 Tryz.underlying57 rfl rfl Tryz.underlying3 (by kernel_rfl) (by kernel_rfl) hf0
  simp only [Value.cells, List.cons.injEq, and_true] at hcs0
  obtain ⟨a1, len1, cap1, rfl⟩ := okWide_slice Tryz.underlying23 (hval 1 23 v1 rfl rfl)
  obtain ⟨fuel1, hf1⟩ := h1
  obtain ⟨A1, n1, c1, ts1, hcs1, hn1, hcap1, hmc1, hs1⟩ := open_tris Tryz.underlying23 Tryz.underlying59 rfl rfl rfl Tryz.underlying3 (by kernel_rfl) (by kernel_rfl) hf1
  simp only [Value.cells, List.cons.injEq, and_true] at hcs1
  obtain ⟨a2, len2, cap2, rfl⟩ := okWide_slice Tryz.underlying24 (hval 2 24 v2 rfl rfl)
  obtain ⟨fuel2, hf2⟩ := h2
  obtain ⟨A2, n2, c2, zs2, hcs2, hn2, hcap2, hmc2, hs2⟩ := open_intsAt Tryz.underlying24 Tryz.underlying3 (by kernel_rfl) hf2
  simp only [Value.cells, List.cons.injEq, and_true] at hcs2
  rw [hcs0, hcs1, hcs2] at hW' ⊢
  refine (lawExGr ps0 ts1 zs2 A0 A1 A2 n0 c0 n1 c1 n2 c2 W hn0 hn1 hn2 (by unfold maxLen at hmc0; omega) (by unfold maxLen at hmc1; omega) (by unfold maxLen at hmc2; omega) hs0 hs1 hs2).mono fun e W' ⟨he, hb⟩ => ?_
  subst he
  exact ⟨_, rfl, law_post Tryz.laidOut hW' rfl (by kernel_rfl) (by kernel_rfl) Tryz.underlying4 rfl rfl rfl hb⟩

theorem exactCheckGuards_holds : Rows.FnExactCheckGuardsSaid :=
  OpenClaim.holds_of_wide 3 Tryz.f3 rfl rfl rfl rfl rfl rfl rfl ⟨rfl, rfl, rfl, rfl, rfl⟩ rfl rfl rfl rfl rfl (by kernel_rfl) Tryz.func3 (by kernel_rfl)
    (of_decide_eq_true (by kernel_rfl)) (by unfold Func.isWrapper; rw [if_neg (of_decide_eq_false (by kernel_rfl))]; exact ⟨rfl, rfl⟩)
    (fun os started H enc _ => exactCheckGuards_holds_lifted os started H enc)
end Go.Proofs.YtelhidonhldjeaaGreat
