/- ModelOrder holds: for every input the call returns true, and what came in reads as it did. No condition. -/
import Derived.Test.YtnnlipkoedbnfaaHb
set_option linter.unusedVariables false
namespace Go.Proofs.Ytnnlipkoedbnfaa
open Go.ChangeShapes Go.WideShapes Go.ChangeAt Go.RowKit Go.Lf Go.Crn Go.Proofs.L
set_option maxRecDepth 100000 in
theorem order_lifted (os : Os) (started : os.Started) (H : Type) (enc : TypeId × Value → H) :
    ReturnsInHanded {} Try.checked os 3 .any (Rows.modelOrderSpec.pre6 enc Try.prog Try.f3 Rows.modelOrderRow.domain false) (Rows.modelOrderSpec.post enc Try.prog Try.f3 false true false false) := by
  refine returnsInHanded_of_change (C := Try.checked) own started (by kernel_rfl) Try.func3
    (ChangeSpec.witness6 (enc := enc) (C := Try.checked) false ⟨#[], #[.slice none 0 0, .slice none 0 0], []⟩ 8 (by kernel_rfl) (by kernel_rfl) (by kernel_rfl) (by kernel_rfl)) ?_
  intro W base args ds gs before hval0 hW hcnd _
  have hval : ∀ (j : Nat) t v, Try.f3.params[j]? = some t → args[j]? = some v → Value.okWide Try.prog W .any base t v := hval0
  have hW' := hW
  obtain ⟨p, q, hA0, hV, rfl, hfz, hnd⟩ := hW
  have hA : DataW.TrodAll enc Try.prog W 0 (fun _ => true) true Try.f3.params.toList args.toList ds p := hA0
  rw [Try.params3] at hA hval
  obtain ⟨v0, v1, d0, d1, p0, p1, rfl, rfl, rfl, h0, h1⟩ := trodAll_two hA
  obtain ⟨rfl, rfl⟩ := trodVars_none hV
  obtain ⟨s0, rfl, r0⟩ := arg_sl Try.underlying22 rd22 (hval 0 22 v0 rfl rfl) h0
  obtain ⟨s1, rfl, r1⟩ := arg_sl Try.underlying23 rd23 (hval 1 23 v1 rfl rfl) h1
  obtain ⟨la, ra⟩ := events_of r0
  obtain ⟨_, _, lo, ro, _⟩ := r1
  exact close (crannoglaw22_ModelOrder.lift (modelOrder_ ra ro fun h' e => ⟨rfl, e⟩)) (by kernel_rfl) rfl hW' rfl (by kernel_rfl)
theorem order_holds : Rows.ModelOrderSaid :=
  OpenClaim.holds_of_wide 3 Try.f3 rfl rfl rfl rfl rfl rfl rfl ⟨rfl, rfl, rfl, rfl, rfl⟩ rfl rfl rfl rfl rfl (by kernel_rfl) Try.func3 (by kernel_rfl)
    (of_decide_eq_true (by kernel_rfl)) (by unfold Func.isWrapper; first | (rw [if_pos (by decide +kernel)]; kernel_rfl) | (rw [if_neg (by decide +kernel)]; exact ⟨rfl, rfl⟩))
    (fun os started H enc _ => order_lifted os started H enc)
end Go.Proofs.Ytnnlipkoedbnfaa
