/-
  The law FnExactKernReady holds for every input. Conditions: none.
-/
import Derived.Test.YtemoiphdjocaiaaGreatPvRow
set_option linter.all false
set_option linter.unusedSimpArgs false
set_option linter.unusedVariables false
namespace Go.Proofs.YtemoiphdjocaiaaGreat.fnExactKernReady
open Go.ChangeShapes Go.WideShapes Go.ChangeAt Go.RowKit Go.Pv
set_option linter.unusedVariables false
set_option maxRecDepth 100000
theorem lifted (os : Os) (started : os.Started) (H : Type) (enc : TypeId × Value → H) :
    ReturnsInHanded {} Tryz.checked os 3 .any (Rows.fnExactKernReadySpec.pre6 enc Tryz.prog Tryz.f3 Rows.fnExactKernReadyRow.domain false) (Rows.fnExactKernReadySpec.post enc Tryz.prog Tryz.f3 false true false false) := by
  refine returnsInHanded_of_change_sized (C := Tryz.checked) own started (by kernel_rfl) Tryz.func3
    (ChangeSpec.witness6 (enc := enc) (C := Tryz.checked) false ⟨#[], #[zeroK, .int .i64 0, .int .i64 0], []⟩ 8 (by kernel_rfl) (by kernel_rfl) (by kernel_rfl) (by kernel_rfl)) ?_
  intro W base args ds gs before hval hW _ hsz _
  refine contract H enc (Reach H) (reach_szd H) W base args ds gs before hval hW fun d hd => ?_
  refine each_w hsz 0 39 d rfl ?_
  rw [List.getElem?_append_left (List.getElem?_eq_some_iff.1 hd).1]; exact hd
theorem over : Rows.fnExactKernReadyRow.holds Tryz.pinned (OpenSpec.ofChange Rows.fnExactKernReadySpec) :=
  OpenClaim.holds_of_wide 3 Tryz.f3 rfl rfl rfl rfl rfl rfl rfl ⟨rfl, rfl, rfl, rfl, rfl⟩ rfl rfl rfl rfl rfl (by kernel_rfl) Tryz.func3 (by kernel_rfl)
    (of_decide_eq_true (by kernel_rfl)) (by unfold Func.isWrapper; first | (rw [if_pos (by decide +kernel)]; kernel_rfl) | (rw [if_neg (by decide +kernel)]; exact ⟨rfl, rfl⟩))
    (fun os started H enc _ => lifted os started H enc)
end Go.Proofs.YtemoiphdjocaiaaGreat.fnExactKernReady
namespace Go.Proofs.YtemoiphdjocaiaaGreat
/-- The row, whatever the input. -/
theorem fnExactKernReady_holds : Rows.FnExactKernReadySaid := fnExactKernReady.over
end Go.Proofs.YtemoiphdjocaiaaGreat
