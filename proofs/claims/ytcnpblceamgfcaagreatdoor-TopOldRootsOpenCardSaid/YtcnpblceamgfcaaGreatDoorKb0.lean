/- TopOldRootsOpen: the tied card: what lies in the vault stays there, or opens, or has died. No condition: for every input. -/
import Derived.Test.YtcnpblceamgfcaaGreatDoorRows
import Derived.Test.YtcnpblceamgfcaaGreatDoorCards
import Derived.Test.YtcnpblceamgfcaaGreatDoorTie
import Derived.Test.YtcnpblceamgfcaaGreatDoorKb12
import Derived.WalkKit
import Derived.ProofKit
import Derived.OpenShut
import Derived.LaidMore
import Derived.Stop.Joined
import Derived.SevenTiedAt
namespace Go.Proofs.YtcnpblceamgfcaaGreatDoor.topOldRootsOpen
open Go.ChangeShapes Go.WideShapes Go.ChangeAt Go.RowKit Go.AM
set_option linter.unusedVariables false

theorem own : ownKnob Tryz.prog.godebug = none := by kernel_rfl

set_option maxRecDepth 100000 in
theorem contract (H : Type) (enc : TypeId × Value → H) (W : World) (base : Nat) (args : Array Value) (ds gs : List (DataW H)) (before : List MemPlace)
    (hval : ∀ (j : Nat) t v, Tryz.f4.params[j]? = some t → args[j]? = some v → Value.okWide Tryz.prog W .any base t v)
    (hW : DataW.Whole enc Tryz.prog Tryz.f4.params.toList Rows.topOldRootsOpenSpec.vars false W args.toList ds gs before) (hL : laidMetH Tryz.prog laidC W) :
    Calls Tryz.prog 4 args W fun e W' => ∃ v, e = .returned v ∧ Rows.topOldRootsOpenSpec.post enc Tryz.prog Tryz.f4 false true false false W args v W' :=
  law_contract (tys := [SC, .arr EV, U8, U8]) (bt := 4) sat_law2 (by kernel_rfl) (by kernel_rfl) (by kernel_rfl) rfl (fun ds hl => by
    have hl : ds.length = 4 := hl
    match ds, hl with
    | [_, _, _, _], _ => rfl) rfl (by kernel_rfl) hval hW (gl_laid hL)

set_option maxRecDepth 100000 in
theorem lifted (os : Os) (started : os.Started) (H : Type) (enc : TypeId × Value → H) :
    ReturnsInHanded {} Tryz.checked os 4 .any (fun w args => (Rows.topOldRootsOpenSpec.pre enc Tryz.prog Tryz.f4 [] false w args ∧ laidMetH Tryz.prog laidC w) ∧ sizedMet enc Tryz.prog Tryz.f4 (OpenSpec.ofChange Rows.topOldRootsOpenSpec) false w args)
      (Rows.topOldRootsOpenSpec.post enc Tryz.prog Tryz.f4 false true false false) := by
  refine returnsInHanded_of_change_and (C := Tryz.checked) (X := fun w _ => laidMetH Tryz.prog laidC w) (fun _ _ _ hh h => h.of_heap hh) own started (by kernel_rfl) Tryz.func4
    (ChangeSpec.witness_shaped (enc := enc) (C := Tryz.checked) (os := os) (X := fun w _ => laidMetH Tryz.prog laidC w) false (World.doorLaid Tryz.prog 400 os) #[.agg #[.int .i64 0, .int .i64 0, .slice none 0 0], .slice none 0 0, .int .u8 0, .int .u8 0] 8 rfl (World.shaped_of_RefB (by kernel_rfl) (by kernel_rfl)) (by kernel_rfl) (by kernel_rfl) (by kernel_rfl) (door_met os _)) ?_
  intro W base args ds gs before hval hW _ _ hL _
  exact contract H enc W base args ds gs before hval hW hL

theorem over : Rows.TopOldRootsOpenSaid :=
  OpenClaim.holds_of_wide 4 Tryz.f4 rfl rfl rfl rfl rfl rfl rfl ⟨rfl, rfl, rfl, rfl, rfl⟩ rfl rfl rfl rfl rfl (by kernel_rfl) Tryz.func4 (by kernel_rfl)
    (of_decide_eq_true (by kernel_rfl)) (by unfold Func.isWrapper; first | (rw [if_pos (by decide +kernel)]; kernel_rfl) | (rw [if_neg (by decide +kernel)]; exact ⟨rfl, rfl⟩))
    (fun os started H enc _ => lifted os started H enc)

theorem stand : (Tryz.f4.params.toList.all fun t => Tryz.prog.wantsStandIn t == false) = true := by kernel_rfl

/-- ████ THE STATEMENT ████ -/
theorem proved : Rows.TopOldRootsOpenCardSaid :=
  Claim7.holds_tied_plain_at .later [] [.data] true (Rows.topOldRootsOpenCard.stood.harness) false
    over (fun _ h => by cases h) (by kernel_rfl) (fun _ h => by cases h) topOldRootsOpen_row_tie rfl ⟨rfl, rfl⟩ (by kernel_rfl) (by kernel_rfl)
    (fun f fn hf hfn => by
      obtain rfl : f = 4 := (Option.some.inj ((show Tryz.prog.funcNamed "antiquary/antiquarytop.TopOldRootsOpen" = some 4 by kernel_rfl).symm.trans hf)).symm
      obtain rfl : fn = Tryz.f4 := (Option.some.inj (Tryz.func4.symm.trans hfn)).symm
      refine ⟨by kernel_rfl, fun j t ht => ?_⟩
      have h := List.all_eq_true.1 stand t (by
        have := Array.mem_of_getElem? ht
        exact Array.mem_toList_iff.2 this)
      exact beq_iff_eq.1 h)
    (by kernel_rfl)
#print axioms proved
end Go.Proofs.YtcnpblceamgfcaaGreatDoor.topOldRootsOpen
