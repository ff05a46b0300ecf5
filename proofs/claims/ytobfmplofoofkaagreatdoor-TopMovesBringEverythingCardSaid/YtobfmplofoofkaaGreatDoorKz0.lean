/- TopMovesBringEverything (theorem T11), the tied card: where each move is done by an exchange, each office has all entries of its regions. No condition: for every input. -/
import Derived.Test.YtobfmplofoofkaaGreatDoorRows
import Derived.Test.YtobfmplofoofkaaGreatDoorCards
import Derived.Test.YtobfmplofoofkaaGreatDoorTie
import Derived.Test.YtobfmplofoofkaaGreatDoorKz12
import Derived.WalkKit
import Derived.ProofKit
import Derived.OpenShut
import Derived.LaidMore
import Derived.Stop.Joined
import Derived.SevenTiedAt
namespace Go.Proofs.YtobfmplofoofkaaGreatDoor.topMovesBringEverything
open Go.ChangeShapes Go.WideShapes Go.ChangeAt Go.RowKit Go.AM
set_option linter.unusedVariables false

theorem own : ownKnob Tryz.prog.godebug = none := by kernel_rfl

set_option maxRecDepth 100000 in
theorem contract (H : Type) (enc : TypeId × Value → H) (W : World) (base : Nat) (args : Array Value) (ds gs : List (DataW H)) (before : List MemPlace)
    (hval : ∀ (j : Nat) t v, Tryz.f3.params[j]? = some t → args[j]? = some v → Value.okWide Tryz.prog W .any base t v)
    (hW : DataW.Whole enc Tryz.prog Tryz.f3.params.toList Rows.topMovesBringEverythingSpec.vars false W args.toList ds gs before) (hL : laidMetH Tryz.prog DA W) :
    Calls Tryz.prog 3 args W fun e W' => ∃ v, e = .returned v ∧ Rows.topMovesBringEverythingSpec.post enc Tryz.prog Tryz.f3 false true false false W args v W' :=
  LJ (tys := [SC, .arr EN, .arr CH]) (bt := 4) qgE (by kernel_rfl) (by kernel_rfl) (by kernel_rfl) rfl (fun ds hl => by
    have hl : ds.length = 3 := hl
    match ds, hl with
    | [_, _, _], _ => rfl) rfl (by kernel_rfl) hval hW (qgF hL)

set_option maxRecDepth 100000 in
theorem lifted (os : Os) (started : os.Started) (H : Type) (enc : TypeId × Value → H) :
    ReturnsInHanded {} Tryz.checked os 3 .any (fun w args => (Rows.topMovesBringEverythingSpec.pre enc Tryz.prog Tryz.f3 [] false w args ∧ laidMetH Tryz.prog DA w) ∧ sizedMet enc Tryz.prog Tryz.f3 (OpenSpec.ofChange Rows.topMovesBringEverythingSpec) false w args)
      (Rows.topMovesBringEverythingSpec.post enc Tryz.prog Tryz.f3 false true false false) := by
  refine returnsInHanded_of_change_and (C := Tryz.checked) (X := fun w _ => laidMetH Tryz.prog DA w) (fun _ _ _ hh h => h.of_heap hh) own started (by kernel_rfl) Tryz.func3
    (ChangeSpec.witness_shaped (enc := enc) (C := Tryz.checked) (os := os) (X := fun w _ => laidMetH Tryz.prog DA w) false (World.doorLaid Tryz.prog 400 os) #[.agg #[.int .i64 0, .int .i64 0, .slice none 0 0], .slice none 0 0, .slice none 0 0] 8 rfl (World.shaped_of_RefB (by kernel_rfl) (by kernel_rfl)) (by kernel_rfl) (by kernel_rfl) (by kernel_rfl) (qdJ os _)) ?_
  intro W base args ds gs before hval hW _ _ hL _
  exact contract H enc W base args ds gs before hval hW hL

theorem over : Rows.TopMovesBringEverythingSaid :=
  OpenClaim.holds_of_wide 3 Tryz.f3 rfl rfl rfl rfl rfl rfl rfl ⟨rfl, rfl, rfl, rfl, rfl⟩ rfl rfl rfl rfl rfl (by kernel_rfl) Tryz.func3 (by kernel_rfl)
    (of_decide_eq_true (by kernel_rfl)) (by unfold Func.isWrapper; first | (rw [if_pos (by decide +kernel)]; kernel_rfl) | (rw [if_neg (by decide +kernel)]; exact ⟨rfl, rfl⟩))
    (fun os started H enc _ => lifted os started H enc)

theorem stand : (Tryz.f3.params.toList.all fun t => Tryz.prog.wantsStandIn t == false) = true := by kernel_rfl

/-- ████ THE STATEMENT ████ -/
theorem proved : Rows.TopMovesBringEverythingCardSaid :=
  Claim7.holds_tied_plain_at .later [] [.data, .data] true (Rows.topMovesBringEverythingCard.stood.harness) false
    over (fun _ h => by cases h) (by kernel_rfl) (fun _ h => by cases h) topMovesBringEverything_row_tie rfl ⟨rfl, rfl⟩ (by kernel_rfl) (by kernel_rfl)
    (fun f fn hf hfn => by
      obtain rfl : f = 3 := (Option.some.inj ((show Tryz.prog.funcNamed "antiquary/antiquarytop.TopMovesBringEverything" = some 3 by kernel_rfl).symm.trans hf)).symm
      obtain rfl : fn = Tryz.f3 := (Option.some.inj (Tryz.func3.symm.trans hfn)).symm
      refine ⟨by kernel_rfl, fun j t ht => ?_⟩
      have h := List.all_eq_true.1 stand t (by
        have := Array.mem_of_getElem? ht
        exact Array.mem_toList_iff.2 this)
      exact beq_iff_eq.1 h)
    (by kernel_rfl)
#print axioms proved
end Go.Proofs.YtobfmplofoofkaaGreatDoor.topMovesBringEverything
