/- RegionRoutesAsSpecified: for every two valid divisions with at most 60 splits and the same Dims, a vector, a metric and a key: Home, Route and Moves return what the specification returns. No condition: for every input. -/
import Derived.Test.YtdeleoaeegmhlaaGreatRows
import Derived.Test.YtdeleoaeegmhlaaGreatMEf
import Derived.WalkKit
import Derived.ProofKit
import Derived.OpenShut
namespace Go.Proofs.YtdeleoaeegmhlaaGreat.regionRoutesAsSpecified
open Go.ChangeShapes Go.WideShapes Go.ChangeAt Go.RowKit Go.AM
set_option linter.unusedVariables false

theorem own : ownKnob Tryz.prog.godebug = none := by kernel_rfl

set_option maxRecDepth 100000 in
theorem contract (H : Type) (enc : TypeId × Value → H) (W : World) (base : Nat) (args : Array Value) (ds gs : List (DataW H)) (before : List MemPlace)
    (hval : ∀ (j : Nat) t v, Tryz.f3.params[j]? = some t → args[j]? = some v → Value.okWide Tryz.prog W .any base t v)
    (hW : DataW.Whole enc Tryz.prog Tryz.f3.params.toList Rows.regionRoutesAsSpecifiedSpec.vars false W args.toList ds gs before) :
    Calls Tryz.prog 3 args W fun e W' => ∃ v, e = .returned v ∧ Rows.regionRoutesAsSpecifiedSpec.post enc Tryz.prog Tryz.f3 false true false false W args v W' :=
  law_contract (tys := [DV, DV, I, L, I]) (bt := 4) law_ok (by kernel_rfl) (by kernel_rfl) (by kernel_rfl) rfl (fun ds hl => by
    have hl : ds.length = 5 := hl
    match ds, hl with
    | [_, _, _, _, _], _ => rfl) rfl (by kernel_rfl) hval hW

set_option maxRecDepth 100000 in
theorem lifted (os : Os) (started : os.Started) (H : Type) (enc : TypeId × Value → H) :
    ReturnsInHanded {} Tryz.checked os 3 .any (Rows.regionRoutesAsSpecifiedSpec.pre6 enc Tryz.prog Tryz.f3 Rows.regionRoutesAsSpecifiedRow.domain false) (Rows.regionRoutesAsSpecifiedSpec.post enc Tryz.prog Tryz.f3 false true false false) := by
  refine returnsInHanded_of_change (C := Tryz.checked) own started (by kernel_rfl) Tryz.func3
    (ChangeSpec.witness6 (enc := enc) (C := Tryz.checked) false ⟨#[], #[.agg #[.int .i64 1, .int .i64 1, .int .i64 0, .int .i64 0, .slice none 0 0, .slice none 0 0], .agg #[.int .i64 1, .int .i64 1, .int .i64 0, .int .i64 0, .slice none 0 0, .slice none 0 0], .int .i64 1, .slice none 0 0, .int .i64 0], []⟩ 8 (by kernel_rfl) (by kernel_rfl) (by kernel_rfl) (by kernel_rfl)) ?_
  intro W base args ds gs before hval hW _ _
  exact contract H enc W base args ds gs before hval hW

theorem over : Rows.regionRoutesAsSpecifiedRow.holds Tryz.pinned (OpenSpec.ofChange Rows.regionRoutesAsSpecifiedSpec) :=
  OpenClaim.holds_of_wide 3 Tryz.f3 rfl rfl rfl rfl rfl rfl rfl ⟨rfl, rfl, rfl, rfl, rfl⟩ rfl rfl rfl rfl rfl (by kernel_rfl) Tryz.func3 (by kernel_rfl)
    (of_decide_eq_true (by kernel_rfl)) (by unfold Func.isWrapper; first | (rw [if_pos (by decide +kernel)]; kernel_rfl) | (rw [if_neg (by decide +kernel)]; exact ⟨rfl, rfl⟩))
    (fun os started H enc _ => lifted os started H enc)

/-- ████ THE STATEMENT ████ -/
theorem proved : Rows.RegionRoutesAsSpecifiedSaid :=
  over
#print axioms proved
end Go.Proofs.YtdeleoaeegmhlaaGreat.regionRoutesAsSpecified
