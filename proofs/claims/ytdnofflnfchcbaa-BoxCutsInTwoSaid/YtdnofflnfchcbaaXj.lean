import Derived.Test.YtdnofflnfchcbaaXi
namespace Go.Proofs.Ytdnofflnfchcbaa
open Go.AM Go.PL
set_option linter.unusedVariables false
def tB4 : List (FuncId × FSpec) := (11, nearSp) :: (12, farSp) :: (13, apartSp) :: (16, rNearSp) :: (17, rFarSp) :: (18, rApartSp) ::
  (34, ofSp) :: (35, joinSp) :: (37, rJoinSp) :: (29, meetSp) :: (38, rMeetSp) :: (32, binsSp) :: (40, binsSp) ::
  (21, sameBSp) :: (9, fewSp) :: (14, cutSp) :: (19, rCutSp) :: (15, splitSp) :: (20, rSplitSp) :: tB3
theorem satB4 : AllSat bs.P tB4 := ⟨sat_near, sat_far, sat_apart, sat_rNear, sat_rFar, sat_rApart, sat_of, sat_join, sat_rJoin, sat_meet, sat_rMeet, sat_ins, sat_rIns, sat_sameB, sat_few, sat_cut, sat_rCut, sat_split, sat_rSplit,
  sat_alike, sat_rAlike, sat_has, sat_rHas, sat_ask, sat_rNearest, sat_rFarthest, sat_rOf, satG_cln.toData, sat_valid, sat_rValid, sat_zip, sat_isVec, sat_rVec, sat_isM, sat_least, sat_great, sat_wid, sat_nr, sat_fr, sat_idx, sat_max, sat_same6, sat_rKey, trivial⟩
noncomputable def BS : Ctx := mkctx bs tB4 [] hintC
theorem ssBS : SpecSound BS := mkctx_sound satB4 trivial
def sanSp : FSpec := ⟨[], [.bool], fun _ => True, fun _ => true⟩
def loopsL (f : FuncId) (r : Nat) : List LA :=
  if Nat.beq f 33 then [.slot 3 I] else
  if Nat.beq f 27 then [.gslot 5 3 I, .slot 6 I] else
  []
noncomputable def BL0 : Ctx := mkctx bs tB4 [] (hint0 loopsL)
theorem ssBL0 : SpecSound BL0 := mkctx_sound satB4 trivial
theorem sanity_nf : fnwp BS 6 10 sanSp () = (True ∧ True ∧ True ∧ True ∧ isI64 (1 : Int) ∧ True ∧ isI64 (1 : Int) ∧ True ∧ ((0 : Int) ≤ (0 : Int) ∧ (0 : Int) < (↑(6 : Nat) : Int))
  ∧ isI64 (3 : Int) ∧ ((0 : Int) ≤ (3 : Int) ∧ (3 : Int) < (↑(6 : Nat) : Int)) ∧ isI64 (1 : Int) ∧ isI64 (2 : Int) ∧ True ∧ isI64 (2 : Int) ∧ True ∧ ((0 : Int) ≤ (1 : Int) ∧ (1 :
  Int) < (↑(6 : Nat) : Int)) ∧ isI64 (4 : Int) ∧ ((0 : Int) ≤ (4 : Int) ∧ (4 : Int) < (↑(6 : Nat) : Int)) ∧ isI64 (2 : Int) ∧ isI64 (3 : Int) ∧ True ∧ isI64 (3 : Int) ∧ True ∧ ((0
  : Int) ≤ (2 : Int) ∧ (2 : Int) < (↑(6 : Nat) : Int)) ∧ isI64 (5 : Int) ∧ ((0 : Int) ≤ (5 : Int) ∧ (5 : Int) < (↑(6 : Nat) : Int)) ∧ isI64 (3 : Int) ∧ True ∧ True ∧ True ∧ True ∧
  True ∧ True ∧ true = true) := by kernel_rfl
theorem short_nf (l : List (List Int)) : fnwp BL0 6 33 shortSp l = (∃ (I : Int → Prop), ∃ (μ : Int → Nat), I (0 : Int) ∧ ∀ (x : Int), I x → (decide (x < (↑l.length : Int)) = true →
  ((0 : Int) ≤ x ∧ x < (↑l.length : Int)) ∧ (decide ((40 : Int) < (↑(l.getD x.toNat []).length : Int)) = true → false = shortB l) ∧ (decide ((40 : Int) < (↑(l.getD x.toNat
  []).length : Int)) = false → isI64 (x + (1 : Int)) ∧ I (x + (1 : Int)) ∧ μ (x + (1 : Int)) < μ x)) ∧ (decide (x < (↑l.length : Int)) = false → decide ((↑l.length : Int) ≤ (20 :
  Int)) = shortB l)) := by kernel_rfl
theorem inner_nf (b : Box) (p : List Int) : fnwp BL0 6 27 innerSp (b, p) = (∃ (I : List Int × Int → Prop), ∃ (μ : List Int × Int → Nat), I ([], (0 : Int)) ∧ ∀ (x : List Int × Int),
  I x → (decide (x.snd < (↑b.fst.length : Int)) = true → (decide (x.snd < (↑p.length : Int)) = true → ((0 : Int) ≤ x.snd ∧ x.snd < (↑p.length : Int)) ∧ ((0 : Int) ≤ x.snd ∧ x.snd <
  (↑b.fst.length : Int)) ∧ ((0 : Int) ≤ x.snd ∧ x.snd < (↑b.snd.fst.length : Int)) ∧ ((0 : Int) ≤ x.snd ∧ x.snd < (↑b.fst.length : Int)) ∧ isI64 (b.snd.fst.getD x.snd.toNat (0 :
  Int) - b.fst.getD x.snd.toNat (0 : Int)) ∧ isI64 (b.snd.fst.getD x.snd.toNat (0 : Int) - b.fst.getD x.snd.toNat (0 : Int) + (1 : Int)) ∧ b.snd.fst.getD x.snd.toNat (0 : Int) -
  b.fst.getD x.snd.toNat (0 : Int) + (1 : Int) ≠ (0 : Int) ∧ isI64 (b.fst.getD x.snd.toNat (0 : Int) + (IntKind.i64.wrap (p.getD x.snd.toNat (0 : Int))).tmod (b.snd.fst.getD
  x.snd.toNat (0 : Int) - b.fst.getD x.snd.toNat (0 : Int) + (1 : Int))) ∧ roomP BL0 (3 : Nat) (x.fst.length + [b.fst.getD x.snd.toNat (0 : Int) + (IntKind.i64.wrap (p.getD
  x.snd.toNat (0 : Int))).tmod (b.snd.fst.getD x.snd.toNat (0 : Int) - b.fst.getD x.snd.toNat (0 : Int) + (1 : Int))].length) ∧ isI64 (x.snd + (1 : Int)) ∧ I (x.fst ++ [b.fst.getD
  x.snd.toNat (0 : Int) + (IntKind.i64.wrap (p.getD x.snd.toNat (0 : Int))).tmod (b.snd.fst.getD x.snd.toNat (0 : Int) - b.fst.getD x.snd.toNat (0 : Int) + (1 : Int))], x.snd + (1
  : Int)) ∧ μ (x.fst ++ [b.fst.getD x.snd.toNat (0 : Int) + (IntKind.i64.wrap (p.getD x.snd.toNat (0 : Int))).tmod (b.snd.fst.getD x.snd.toNat (0 : Int) - b.fst.getD x.snd.toNat (0
  : Int) + (1 : Int))], x.snd + (1 : Int)) < μ x) ∧ (decide (x.snd < (↑p.length : Int)) = false → ((0 : Int) ≤ x.snd ∧ x.snd < (↑b.fst.length : Int)) ∧ ((0 : Int) ≤ x.snd ∧ x.snd <
  (↑b.snd.fst.length : Int)) ∧ ((0 : Int) ≤ x.snd ∧ x.snd < (↑b.fst.length : Int)) ∧ isI64 (b.snd.fst.getD x.snd.toNat (0 : Int) - b.fst.getD x.snd.toNat (0 : Int)) ∧ isI64
  (b.snd.fst.getD x.snd.toNat (0 : Int) - b.fst.getD x.snd.toNat (0 : Int) + (1 : Int)) ∧ b.snd.fst.getD x.snd.toNat (0 : Int) - b.fst.getD x.snd.toNat (0 : Int) + (1 : Int) ≠ (0 :
  Int) ∧ isI64 (b.fst.getD x.snd.toNat (0 : Int) + Int.tmod (0 : Int) (b.snd.fst.getD x.snd.toNat (0 : Int) - b.fst.getD x.snd.toNat (0 : Int) + (1 : Int))) ∧ roomP BL0 (3 : Nat)
  (x.fst.length + [b.fst.getD x.snd.toNat (0 : Int) + Int.tmod (0 : Int) (b.snd.fst.getD x.snd.toNat (0 : Int) - b.fst.getD x.snd.toNat (0 : Int) + (1 : Int))].length) ∧ isI64
  (x.snd + (1 : Int)) ∧ I (x.fst ++ [b.fst.getD x.snd.toNat (0 : Int) + Int.tmod (0 : Int) (b.snd.fst.getD x.snd.toNat (0 : Int) - b.fst.getD x.snd.toNat (0 : Int) + (1 : Int))],
  x.snd + (1 : Int)) ∧ μ (x.fst ++ [b.fst.getD x.snd.toNat (0 : Int) + Int.tmod (0 : Int) (b.snd.fst.getD x.snd.toNat (0 : Int) - b.fst.getD x.snd.toNat (0 : Int) + (1 : Int))],
  x.snd + (1 : Int)) < μ x)) ∧ (decide (x.snd < (↑b.fst.length : Int)) = false → x.fst = innerS b p)) := by kernel_rfl
end Go.Proofs.Ytdnofflnfchcbaa
