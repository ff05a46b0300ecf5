import Derived.Test.YtighbmlnlmbbkaaHm
namespace Go.Proofs.Ytighbmlnlmbbkaa
open Go.AM Go.PL
set_option linter.unusedVariables false
def hitSp : FSpec := ⟨[I, I], [HT], fun _ => True, fun x => ((x.1, (1 : Int), x.2, ()) : Hit)⟩
def sanHSp : FSpec := ⟨[], [.bool], fun _ => True, fun _ => true⟩
theorem hit_nf (a b : Int) : fnwp HE 4 35 hitSp (a, b) = ((a, (1 : Int), b, ()) = (a, (1 : Int), b, ())) := by kernel_rfl
theorem sat_hit : Sat bs.P 35 hitSp := sat_nf (C := HE) ssHE (fun x => hit_nf x.1 x.2) fun _ _ _ => rfl
def tHS : List (FuncId × FSpec) := (35, hitSp) :: (21, putHSp) :: (25, mergeHSp) :: (23, entersHSp) :: (27, worstHSp) :: (29, commonHSp) ::
  (33, encHSp) :: (31, decHSp) :: (15, allRightHSp) :: (19, ofHSp) :: (22, putHSp) ::
  (26, mergeHSp) :: (24, entersHSp) :: (28, worstHSp) :: (30, commonHSp) :: (34, encHSp) ::
  (32, rDecHSp) :: tHE
theorem satHS : AllSat bs.P tHS := ⟨sat_hit, sat_put, sat_merge, sat_enters, sat_worstH, sat_commonH, sat_encH, sat_decH, sat_rAll, sat_rOf, sat_rPut, sat_rMerge, sat_rEnters, sat_rWorstH, sat_rCommonH, sat_rEncH, sat_rDecH, satHE⟩
noncomputable def HS : Ctx := mkctx bs tHS [] hintC
theorem ssHS : SpecSound HS := mkctx_sound satHS trivial
theorem san_nf : fnwp HS 6 10 sanHSp () = (True ∧ True ∧ True ∧ True ∧ ((4 : Nat) ≤ (100000 : Nat) ∧ (0 : Int) ≤ (2 : Int)) ∧ True ∧ True ∧ True ∧ True ∧ ((2 : Nat) ≤ (900 : Nat) ∧
  (0 : Int) ≤ (2 : Int)) ∧ True ∧ True ∧ True ∧ ((1 : Int) ≤ (2 : Int) ∧ ∀ (h : Int × Int × Int × PUnit), h ∈ ofH [((5 : Int), (1 : Int), (9 : Int), ()), ((3 : Int), (1 : Int), (4
  : Int), ()), ((7 : Int), (1 : Int), (9 : Int), ()), ((3 : Int), (1 : Int), (2 : Int), ())] (2 : Int) → (0 : Int) ≤ h.snd.snd.fst) ∧ ((1 : Int) ≤ (3 : Int) ∧ ∀ (h : Int × Int ×
  Int × PUnit), h ∈ ofH [((5 : Int), (1 : Int), (9 : Int), ()), ((3 : Int), (1 : Int), (4 : Int), ()), ((7 : Int), (1 : Int), (9 : Int), ()), ((3 : Int), (1 : Int), (2 : Int), ())]
  (2 : Int) → (0 : Int) ≤ h.snd.snd.fst) ∧ True ∧ True ∧ True ∧ True ∧ ((4 : Nat) ≤ (1000 : Nat) ∧ (0 : Int) ≤ (3 : Int)) ∧ True ∧ True ∧ True ∧ True ∧ (2 : Nat) ≤ (1000 : Nat) ∧
  (2 : Nat) ≤ (1000 : Nat) ∧ small2 (PL.encH [((1 : Int), (1 : Int), (1 : Int), ()), ((2 : Int), (1 : Int), (5 : Int), ())]) ∧ True ∧ True ∧ True ∧ True ∧ ((2 : Nat) ≤ (900 : Nat)
  ∧ (0 : Int) ≤ (2 : Int)) ∧ True ∧ ((2 : Nat) ≤ (900 : Nat) ∧ (0 : Int) ≤ (2 : Int)) ∧ ((0 : Int) ≤ (0 : Int) ∧ (0 : Int) < (↑(2 : Nat) : Int)) ∧ ((0 : Int) ≤ (1 : Int) ∧ (1 :
  Int) < (↑(2 : Nat) : Int)) ∧ True ∧ true = true) := by kernel_rfl
end Go.Proofs.Ytighbmlnlmbbkaa
