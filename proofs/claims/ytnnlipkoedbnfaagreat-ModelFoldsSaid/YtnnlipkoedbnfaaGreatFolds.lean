/- ModelFolds holds: for every input the call returns true, and what came in reads as it did. No condition. -/
import Derived.Test.YtnnlipkoedbnfaaGreatHb
set_option linter.unusedVariables false
namespace Go.Proofs.YtnnlipkoedbnfaaGreat
open Go.ChangeShapes Go.WideShapes Go.ChangeAt Go.RowKit Go.Lf Go.Crn Go.Proofs.L
set_option maxRecDepth 100000 in
theorem folds_lifted (os : Os) (started : os.Started) (H : Type) (enc : TypeId × Value → H) :
    ReturnsInHanded {} Tryz.checked os 3 .any (Rows.modelFoldsSpec.pre6 enc Tryz.prog Tryz.f3 Rows.modelFoldsRow.domain false) (Rows.modelFoldsSpec.post enc Tryz.prog Tryz.f3 false true false false) := by
  refine returnsInHanded_of_change (C := Tryz.checked) own started (by kernel_rfl) Tryz.func3
    (ChangeSpec.witness6 (enc := enc) (C := Tryz.checked) false ⟨#[], #[.slice none 0 0, S_api_Event.enc exA, S_api_Event.enc exA], []⟩ 8 (by kernel_rfl) (by kernel_rfl) (by kernel_rfl) (by kernel_rfl)) ?_
  intro W base args ds gs before hval0 hW hcnd _
  have hval : ∀ (j : Nat) t v, Tryz.f3.params[j]? = some t → args[j]? = some v → Value.okWide Tryz.prog W .any base t v := hval0
  have hW' := hW
  obtain ⟨p, q, hA0, hV, rfl, hfz, hnd⟩ := hW
  have hA : DataW.TrodAll enc Tryz.prog W 0 (fun _ => true) true Tryz.f3.params.toList args.toList ds p := hA0
  rw [Tryz.params3] at hA hval
  obtain ⟨v0, v1, v2, d0, d1, d2, p0, p1, p2, rfl, rfl, rfl, h0, h1, h2⟩ := trodAll_three hA
  obtain ⟨rfl, rfl⟩ := trodVars_none hV
  obtain ⟨s0, rfl, r0⟩ := arg_sl Tryz.underlying22 rd22 (hval 0 22 v0 rfl rfl) h0
  obtain ⟨x1, rfl, r1⟩ := arg_st Tryz.underlying32 rd32 (hval 1 32 v1 rfl rfl) h1
  obtain ⟨x2, rfl, r2⟩ := arg_st Tryz.underlying32 rd32 (hval 2 32 v2 rfl rfl) h2
  obtain ⟨l, rl, okl⟩ := events_of r0
  obtain ⟨m1, e1, _⟩ := event_of r1
  obtain ⟨m2, e2, _⟩ := event_of r2
  exact close (crannoglaw22_ModelFolds.lift (modelFolds_ rl okl e1 e2 fun h' e => ⟨rfl, e⟩)) (by kernel_rfl) rfl hW' rfl (by kernel_rfl)
theorem folds_holds : Rows.ModelFoldsSaid :=
  OpenClaim.holds_of_wide 3 Tryz.f3 rfl rfl rfl rfl rfl rfl rfl ⟨rfl, rfl, rfl, rfl, rfl⟩ rfl rfl rfl rfl rfl (by kernel_rfl) Tryz.func3 (by kernel_rfl)
    (of_decide_eq_true (by kernel_rfl)) (by unfold Func.isWrapper; first | (rw [if_pos (by decide +kernel)]; kernel_rfl) | (rw [if_neg (by decide +kernel)]; exact ⟨rfl, rfl⟩))
    (fun os started H enc _ => folds_lifted os started H enc)
end Go.Proofs.YtnnlipkoedbnfaaGreat
