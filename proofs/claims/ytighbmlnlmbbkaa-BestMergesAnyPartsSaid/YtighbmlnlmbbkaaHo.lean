import Derived.Test.YtighbmlnlmbbkaaHn
namespace Go.Proofs.Ytighbmlnlmbbkaa
open Go.AM Go.PL
set_option linter.unusedVariables false
theorem sat_san : Sat bs.P 10 sanHSp := by
  refine sat_nf (C := HS) ssHS (fun _ => san_nf) fun _ _ _ => ?_
  have e : ofH [((5 : Int), (1 : Int), (9 : Int), ()), ((3 : Int), (1 : Int), (4 : Int), ()), ((7 : Int), (1 : Int), (9 : Int), ()), ((3 : Int), (1 : Int), (2 : Int), ())] (2 : Int) = [((3 : Int), (1 : Int), (2 : Int), ()), ((5 : Int), (1 : Int), (9 : Int), ())] := by kernel_rfl
  have e2 : (PL.encH [((1 : Int), (1 : Int), (1 : Int), ()), ((2 : Int), (1 : Int), (5 : Int), ())]).length = 7 := by kernel_rfl
  rw [e]
  unfold small2
  rw [e2]
  simp
def tHL : List (FuncId × FSpec) := (10, sanHSp) :: tHS
theorem satHL : AllSat bs.P tHL := ⟨sat_san, satHS⟩
def cell3 (k : Nat) : List LA := [.cell k 0 I, .cell k 1 I, .cell k 2 I]
def loopsL (f : FuncId) (r : Nat) : List LA :=
  if Nat.beq f 3 then [.slot 19 I] else
  if Nat.beq f 6 then (if Nat.beq r 8 then [.slot 39 I, .slot 6 I] else if Nat.beq r 11 then .slot 45 I :: .slot 6 I :: cell3 0 else if Nat.beq r 18 then [.slot 58 I] else if Nat.beq r 22 then .slot 64 I :: .slot 13 .bool :: cell3 0 else []) else
  []
def yesR (f : FuncId) : List Nat :=
  if Nat.beq f 3 then [13] else
  if Nat.beq f 4 then [3, 4] else
  if Nat.beq f 6 then [31] else
  if Nat.beq f 8 then [4] else
  if Nat.beq f 9 then [9] else
  []
def hintL (f : FuncId) : Hint := ⟨loopsL f, fun r => bif memN r (yesR f) then .yes else .split, fun _ => .split, fun _ => 0⟩
noncomputable def HL1 : Ctx := mkctx bs tHL [] hintL
theorem ssHL1 : SpecSound HL1 := mkctx_sound satHL trivial
end Go.Proofs.Ytighbmlnlmbbkaa
