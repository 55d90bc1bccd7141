/- Part 0 of the proof that what RiverSmall says holds. No condition. -/
import Derived.Test.YtkbbfeljlepgoaaGreatBs11
set_option linter.unusedVariables false
set_option linter.unusedSimpArgs false
open Go.Vm
namespace Go.Proofs.YtkbbfeljlepgoaaGreat
open Go.ChangeShapes Go.WideShapes Go.ChangeAt Go.RowKit

theorem open4p : OpenAll Tryz.prog Tryz.f4.params.toList (fun _ : Unit => []) := by
  rw [Tryz.params4]
  exact OpenAll.nil
set_option maxRecDepth 100000 in
theorem contract4 (H : Type) (enc : TypeId × Value → H) (W : World) (base : Nat) (args : Array Value) (ds gs : List (DataW H)) (before : List MemPlace)
    (hval : ∀ (j : Nat) t v, Tryz.f4.params[j]? = some t → args[j]? = some v → Value.okWide Tryz.prog W .any base t v)
    (hW : DataW.Whole enc Tryz.prog Tryz.f4.params.toList Rows.riverSmallSpec.vars false W args.toList ds gs before) :
    Calls Tryz.prog 4 args W fun e W' => ∃ v, e = .returned v ∧ Rows.riverSmallSpec.post enc Tryz.prog Tryz.f4 false true false false W args v W' := by
  refine contract_of_vc open4p (fun _ => vc_RiverSmall Hp.bare) laidOut ?_ (tb := 4) (by kernel_rfl) Tryz.underlying4 rfl ?_ hval hW
  · rw [Tryz.params4]
    intro t ht
    exact absurd ht (by simp)
  · intro H dd hl
    rw [Tryz.params4] at hl
    match dd, hl with
    | [], _ => rfl
set_option maxRecDepth 100000 in
theorem lifted4 (os : Os) (started : os.Started) (H : Type) (enc : TypeId × Value → H) :
    ReturnsInHanded {} Tryz.checked os 4 .any (Rows.riverSmallSpec.pre6 enc Tryz.prog Tryz.f4 Rows.riverSmallRow.domain false) (Rows.riverSmallSpec.post enc Tryz.prog Tryz.f4 false true false false) := by
  refine returnsInHanded_of_change (C := Tryz.checked) ownKn started (by kernel_rfl) Tryz.func4
    (ChangeSpec.witness6 (enc := enc) (C := Tryz.checked) false ⟨#[], #[], []⟩ 8 (by kernel_rfl) (by kernel_rfl) (by kernel_rfl) (by kernel_rfl)) ?_
  intro W base args ds gs before hval hW _ _
  exact contract4 H enc W base args ds gs before hval hW
theorem riverSmall_said : Rows.RiverSmallSaid :=
  OpenClaim.holds_of_wide 4 Tryz.f4 rfl rfl rfl rfl rfl rfl rfl ⟨rfl, rfl, rfl, rfl, rfl⟩ rfl rfl rfl rfl rfl (by kernel_rfl) Tryz.func4 (by kernel_rfl)
    (of_decide_eq_true (by kernel_rfl)) (by unfold Func.isWrapper; first | (rw [if_pos (by decide +kernel)]; kernel_rfl) | (rw [if_neg (by decide +kernel)]; exact ⟨rfl, rfl⟩))
    (fun os started H enc _ => lifted4 os started H enc)
end Go.Proofs.YtkbbfeljlepgoaaGreat

