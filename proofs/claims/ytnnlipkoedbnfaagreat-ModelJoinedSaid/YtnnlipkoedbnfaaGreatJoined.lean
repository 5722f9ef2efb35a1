/- ModelJoined holds: for every input the call returns true, and what came in reads as it did. No condition. -/
import Derived.Test.YtnnlipkoedbnfaaGreatHb
set_option linter.unusedVariables false
namespace Go.Proofs.YtnnlipkoedbnfaaGreat
open Go.ChangeShapes Go.WideShapes Go.ChangeAt Go.RowKit Go.Lf Go.Crn Go.Proofs.L
set_option maxRecDepth 100000 in
theorem joined_lifted (os : Os) (started : os.Started) (H : Type) (enc : TypeId × Value → H) :
    ReturnsInHanded {} Tryz.checked os 4 .any (Rows.modelJoinedSpec.pre6 enc Tryz.prog Tryz.f4 Rows.modelJoinedRow.domain false) (Rows.modelJoinedSpec.post enc Tryz.prog Tryz.f4 false true false false) := by
  refine returnsInHanded_of_change (C := Tryz.checked) own started (by kernel_rfl) Tryz.func4
    (ChangeSpec.witness6 (enc := enc) (C := Tryz.checked) false ⟨#[], #[.slice none 0 0, .slice none 0 0], []⟩ 8 (by kernel_rfl) (by kernel_rfl) (by kernel_rfl) (by kernel_rfl)) ?_
  intro W base args ds gs before hval0 hW hcnd _
  have hval : ∀ (j : Nat) t v, Tryz.f4.params[j]? = some t → args[j]? = some v → Value.okWide Tryz.prog W .any base t v := hval0
  have hW' := hW
  obtain ⟨p, q, hA0, hV, rfl, hfz, hnd⟩ := hW
  have hA : DataW.TrodAll enc Tryz.prog W 0 (fun _ => true) true Tryz.f4.params.toList args.toList ds p := hA0
  rw [Tryz.params4] at hA hval
  obtain ⟨v0, v1, d0, d1, p0, p1, rfl, rfl, rfl, h0, h1⟩ := trodAll_two hA
  obtain ⟨rfl, rfl⟩ := trodVars_none hV
  obtain ⟨s0, rfl, r0⟩ := arg_sl Tryz.underlying22 rd22 (hval 0 22 v0 rfl rfl) h0
  obtain ⟨s1, rfl, r1⟩ := arg_sl Tryz.underlying22 rd22 (hval 1 22 v1 rfl rfl) h1
  obtain ⟨la, ra, oka⟩ := events_of r0
  obtain ⟨lb, rb, okb⟩ := events_of r1
  exact close (crannoglaw22_ModelJoined.lift (modelJoined_ ra rb oka okb fun h' e => ⟨rfl, e⟩)) (by kernel_rfl) rfl hW' rfl (by kernel_rfl)
theorem joined_holds : Rows.ModelJoinedSaid :=
  OpenClaim.holds_of_wide 4 Tryz.f4 rfl rfl rfl rfl rfl rfl rfl ⟨rfl, rfl, rfl, rfl, rfl⟩ rfl rfl rfl rfl rfl (by kernel_rfl) Tryz.func4 (by kernel_rfl)
    (of_decide_eq_true (by kernel_rfl)) (by unfold Func.isWrapper; first | (rw [if_pos (by decide +kernel)]; kernel_rfl) | (rw [if_neg (by decide +kernel)]; exact ⟨rfl, rfl⟩))
    (fun os started H enc _ => joined_lifted os started H enc)
end Go.Proofs.YtnnlipkoedbnfaaGreat
