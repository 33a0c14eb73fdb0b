
/- The program's ColorVertices is the reference's: laws.FnExactColorVertices returns true. No condition. -/
import Derived.Test.YtelhidonhldjeaaGreatLExCV
import Derived.Test.YtelhidonhldjeaaGreatOpenT
set_option linter.unusedVariables false
set_option linter.unusedSimpArgs false
namespace Go.Proofs.YtelhidonhldjeaaGreat
open Go.ChangeShapes Go.WideShapes Go.ChangeAt Go.RowKit Go.Joins

set_option maxRecDepth 100000 in
theorem exactColorVertices_holds_lifted (os : Os) (started : os.Started) (H : Type) (enc : TypeId × Value → H) :
    ReturnsInHanded {} Tryz.checked os 4 .any (Rows.fnExactColorVerticesSpec.pre6 enc Tryz.prog Tryz.f4 Rows.fnExactColorVerticesRow.domain false) (Rows.fnExactColorVerticesSpec.post enc Tryz.prog Tryz.f4 false true false false) := by
  refine returnsInHanded_of_change (C := Tryz.checked) Tryz.own started (by kernel_rfl) Tryz.func4
    (ChangeSpec.witness6 (enc := enc) (C := Tryz.checked) false ⟨#[], #[.slice none 0 0, .slice none 0 0], []⟩ 8 (by kernel_rfl) (by kernel_rfl) (by kernel_rfl) (by kernel_rfl)) ?_
  intro W base args ds gs before hval0 hW hcnd _
  have hval : ∀ (j : Nat) t v, Tryz.f4.params[j]? = some t → args[j]? = some v → Value.okWide Tryz.prog W .any base t v := hval0
  have hW' := hW
  obtain ⟨p, q, hA0, hV, rfl, hfz, hnd⟩ := hW
  have hA : DataW.TrodAll enc Tryz.prog W 0 (fun _ => true) true Tryz.f4.params.toList args.toList ds p := hA0
  rw [Tryz.params4] at hA hval
  obtain ⟨v0, v1, d0, d1, p0, p1, rfl, rfl, rfl, h0, h1⟩ := trodAll_two hA
  obtain ⟨rfl, rfl⟩ := trodVars_none hV
  obtain ⟨a0, len0, cap0, rfl⟩ := okWide_slice Tryz.underlying22 (hval 0 22 v0 rfl rfl)
  obtain ⟨fuel0, hf0⟩ := h0
  obtain ⟨A0, n0, c0, ps0, hcs0, hn0, hcap0, hmc0, hs0⟩ := open_pts Tryz.underlying22 Tryz.underlying57 rfl rfl Tryz.underlying3 (by kernel_rfl) (by kernel_rfl) hf0
  simp only [Value.cells, List.cons.injEq, and_true] at hcs0
  obtain ⟨a1, len1, cap1, rfl⟩ := okWide_slice Tryz.underlying23 (hval 1 23 v1 rfl rfl)
  obtain ⟨fuel1, hf1⟩ := h1
  obtain ⟨A1, n1, c1, ts1, hcs1, hn1, hcap1, hmc1, hs1⟩ := open_tris Tryz.underlying23 Tryz.underlying59 rfl rfl rfl Tryz.underlying3 (by kernel_rfl) (by kernel_rfl) hf1
  simp only [Value.cells, List.cons.injEq, and_true] at hcs1
  rw [hcs0, hcs1] at hW' ⊢
  refine (lawExCV ps0 ts1 A0 A1 n0 c0 n1 c1 W hn0 hn1 (by unfold maxLen at hmc0; omega) (by unfold maxLen at hmc1; omega) hs0 hs1).mono fun e W' ⟨he, hb⟩ => ?_
  subst he
  exact ⟨_, rfl, law_post Tryz.laidOut hW' rfl (by kernel_rfl) (by kernel_rfl) Tryz.underlying4 rfl rfl rfl hb⟩

theorem exactColorVertices_holds : Rows.FnExactColorVerticesSaid :=
  OpenClaim.holds_of_wide 4 Tryz.f4 rfl rfl rfl rfl rfl rfl rfl ⟨rfl, rfl, rfl, rfl, rfl⟩ rfl rfl rfl rfl rfl (by kernel_rfl) Tryz.func4 (by kernel_rfl)
    (of_decide_eq_true (by kernel_rfl)) (by unfold Func.isWrapper; rw [if_neg (of_decide_eq_false (by kernel_rfl))]; exact ⟨rfl, rfl⟩)
    (fun os started H enc _ => exactColorVertices_holds_lifted os started H enc)
end Go.Proofs.YtelhidonhldjeaaGreat
