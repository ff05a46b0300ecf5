import Derived.Test.YtmimchmdikjilaaOf
namespace Go.Proofs.Ytmimchmdikjilaa
open Go.AM Go.PL
set_option linter.unusedVariables false
def tJ3 : List (FuncId × FSpec) := (10, sanPSp) :: tJ2
def loopsG (f : FuncId) (r : Nat) : List LA :=
  if Nat.beq f 4 then [.slot 8 I, .cell 0 0 HL, .cell 0 1 RLs] else
  if Nat.beq f 5 then (if Nat.beq r 4 then [.slot 23 I] else [.slot 44 I]) else
  if Nat.beq f 8 then [.slot 38 I] else
  []
def modeG (f : FuncId) (r : Nat) : Go.AM.Mode :=
  bif Nat.beq f 5 && Nat.beq r 9 then .all else
  bif Nat.beq f 8 && Nat.beq r 3 then .all else
  bif Nat.beq f 8 && Nat.beq r 10 then .split else
  bif Nat.beq f 3 && Nat.beq r 8 then .yes else
  bif Nat.beq f 6 && Nat.beq r 11 then .all else
  .split
def hintG (f : FuncId) : Hint := ⟨loopsG f, modeG f, fun _ => .split, fun _ => 0⟩
noncomputable def G1 : Ctx := mkctx bs tJ3 [] hintG
theorem satJ3 : AllSat bs.P tJ3 := ⟨sat_sanP, satJ2⟩
theorem ssG1 : SpecSound G1 := mkctx_sound satJ3 trivial
end Go.Proofs.Ytmimchmdikjilaa
