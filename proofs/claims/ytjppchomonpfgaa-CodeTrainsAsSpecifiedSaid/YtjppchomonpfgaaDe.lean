import Derived.Test.YtjppchomonpfgaaDd
namespace Go.Proofs.Ytjppchomonpfgaa
open Go.AM Go.PL
set_option linter.unusedVariables false
def tE4 : List (FuncId × FSpec) := (12, chkSp) :: (13, chkSp) :: (18, encSp) :: (19, encSp) :: (15, decSp) :: (16, rDecSp) ::
  (26, tblSp) :: (22, tblSp) :: (27, sumSp) :: (28, sumSp) :: (23, bndSp) :: (24, rBndSp) ::
  (10, fewSp) :: (33, sameBkSp) :: (14, rightSp) :: (31, trainSp) :: (35, worstSp) :: (36, worstSp) :: tE2
theorem satE4 : AllSat bs.P tE4 := ⟨sat_chk, sat_rChk, sat_enc, sat_rEnc, sat_dec, sat_rDec, sat_tbl, sat_rTbl, sat_sum, sat_rSum, sat_bnd, sat_rBnd, sat_few, sat_sameBk, sat_right, sat_train, sat_worst, sat_rWorst,
  sat_res, sat_rRes, sat_clone.toData, sat_cut, sat_rCut, sat_end, sat_ofp, sat_near, sat_rows, satD0⟩
noncomputable def ES : Ctx := mkctx bs tE4 [] hintC
theorem ssES : SpecSound ES := mkctx_sound satE4 trivial
def sanSp : FSpec := ⟨[], [.bool], fun _ => True, fun _ => true⟩
theorem sanity_nf : fnwp ES 6 11 sanSp () = ((true = true ∧ (2 : Nat) ≤ (1000 : Nat)) ∧ true = true ∧ (keyP (50 : Int) ∧ keyP (3 : Int)) ∧ True ∧ True ∧ True ∧ true = true ∧ True ∧
  True ∧ true = true ∧ True ∧ sumP (2 : Int) (tableS ((3 : Int), [(0 : Int), (2 : Int)], [[[(0 : Int), (0 : Int)], [(3 : Int), (4 : Int)]], [[(5 : Int)], [(-5 : Int)]]], ()) (2 :
  Int) [(0 : Int), (0 : Int), (0 : Int)]) [(1 : Int), (1 : Int)] ∧ True ∧ true = true) := by kernel_rfl
def tE5 : List (FuncId × FSpec) := (11, sanSp) :: tE4
def yesR8 (f : FuncId) : List Nat :=
  if Nat.beq f 3 then [11] else
  if Nat.beq f 4 then [8] else
  if Nat.beq f 5 then [6] else
  if Nat.beq f 6 then [6, 7] else
  if Nat.beq f 7 then [5, 10] else
  []
def noC8 (f : FuncId) : List Nat := if Nat.beq f 7 then [55] else []
def hintE8 (f : FuncId) : Hint := ⟨fun _ => [], fun r => bif memN r (yesR8 f) then .yes else .split, fun t => bif memN t (noC8 f) then .no else .split, fun _ => 0⟩
noncomputable def EL : Ctx := mkctx bs tE5 [] hintE8
end Go.Proofs.Ytjppchomonpfgaa
