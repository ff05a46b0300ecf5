import Derived.Test.YtdhfjgooamoodaaGj
namespace Go.PL
open Go.AM
def somePl (l : List (List Int)) (places : List Int) (i : Nat) : Nat := if i < places.length then (places.getD i 0).toNat % l.length else 0
def someS (l : List (List Int)) (places : List Int) (n : Int) : List (List Int) := tabL n.toNat (fun i => l.getD (somePl l places i) [])
end Go.PL
namespace Go.Proofs.Ytdhfjgooamoodaa
open Go.AM Go.PL
set_option linter.unusedVariables false
def tG4 : List (FuncId × FSpec) := (18, rTableSp) :: (17, rCoverSp) :: (13, coverSp) :: (23, shellsSp) :: (28, inSp) :: (33, joinSp) ::
  (25, loSp) :: (26, hiSp) :: (36, rLoSp) :: (37, rHiSp) :: tG3
theorem satG4 : AllSat bs.P tG4 := ⟨sat_rTable, sat_rCover, sat_cover, sat_shells, sat_in, sat_join, sat_lo, sat_hi, sat_rLo, sat_rHi, satG3⟩
noncomputable def G4 : Ctx := mkctx bs tG4 [] hintG
theorem ssG4 : SpecSound G4 := mkctx_sound satG4 trivial
def someSp : FSpec := ⟨[LL, BY, I], [LL], fun x => 1 ≤ (x.1 : List (List Int)).length ∧ (x.2.2 : Int) ≤ 8, fun x => someS x.1 x.2.1 x.2.2⟩
def loopsP (f : FuncId) (r : Nat) : List LA :=
  if Nat.beq f 31 then [.gslot 7 LIt L, .slot 8 I] else
  if Nat.beq f 4 then (if Nat.beq r 13 then [.slot 18 I] else if Nat.beq r 19 then [.slot 20 I] else [.slot 21 .bool, .slot 22 .bool, .slot 23 I]) else
  if Nat.beq f 5 then (if Nat.beq r 9 then [.gslot 12 LIt L, .slot 13 I] else if Nat.beq r 18 then [.slot 16 I] else [.slot 17 I]) else
  []
theorem rShells_nf (m : Int) (p l : List (List Int)) : fnwp G4 6 34 rShellsSp (m, p, l) = (True ∧ ((!decide ((tableR m p l).snd = (0 : Int))) = true → ([], (tableR m p l).snd, ())
  = ((shellsR m p l).fst, (shellsR m p l).snd, ())) ∧ ((!decide ((tableR m p l).snd = (0 : Int))) = false → ∃ (I : List (Int × Int × PUnit) × Int × List (List Int) → Prop), ∃ (μ :
  List (Int × Int × PUnit) × Int × List (List Int) → Nat), I ([], (0 : Int), (tableR m p l).fst) ∧ ∀ (x : List (Int × Int × PUnit) × Int × List (List Int)), I x → (decide
  (x.snd.fst < (↑p.length : Int)) = true → ((0 : Int) ≤ (0 : Int) ∧ (0 : Int) < (↑x.snd.snd.length : Int)) ∧ ((0 : Int) ≤ x.snd.fst ∧ x.snd.fst < (↑(x.snd.snd.getD (0 : Nat)
  []).length : Int)) ∧ ((0 : Int) ≤ (0 : Int) ∧ (0 : Int) < (↑x.snd.snd.length : Int)) ∧ ((0 : Int) ≤ x.snd.fst ∧ x.snd.fst < (↑(x.snd.snd.getD (0 : Nat) []).length : Int)) ∧ ∃
  (I_1 : List (Int × Int × PUnit) × Int × List (List Int) × Int × Int → Prop), ∃ (μ_1 : List (Int × Int × PUnit) × Int × List (List Int) × Int × Int → Nat), I_1 (x.fst, (0 : Int),
  x.snd.snd, (x.snd.snd.getD (0 : Nat) []).getD x.snd.fst.toNat (0 : Int), (x.snd.snd.getD (0 : Nat) []).getD x.snd.fst.toNat (0 : Int)) ∧ ∀ (x_1 : List (Int × Int × PUnit) × Int ×
  List (List Int) × Int × Int), I_1 x_1 → (decide (x_1.snd.fst < (↑l.length : Int)) = true → ((0 : Int) ≤ x_1.snd.fst ∧ x_1.snd.fst < (↑x_1.snd.snd.fst.length : Int)) ∧ ((0 : Int)
  ≤ x.snd.fst ∧ x.snd.fst < (↑(x_1.snd.snd.fst.getD x_1.snd.fst.toNat []).length : Int)) ∧ ((0 : Int) ≤ x_1.snd.fst ∧ x_1.snd.fst < (↑x_1.snd.snd.fst.length : Int)) ∧ ((0 : Int) ≤
  x.snd.fst ∧ x.snd.fst < (↑(x_1.snd.snd.fst.getD x_1.snd.fst.toNat []).length : Int)) ∧ isI64 (x_1.snd.fst + (1 : Int)) ∧ I_1 (x_1.fst, x_1.snd.fst + (1 : Int), x_1.snd.snd.fst,
  min x_1.snd.snd.snd.fst ((x_1.snd.snd.fst.getD x_1.snd.fst.toNat []).getD x.snd.fst.toNat (0 : Int)), max x_1.snd.snd.snd.snd ((x_1.snd.snd.fst.getD x_1.snd.fst.toNat []).getD
  x.snd.fst.toNat (0 : Int))) ∧ μ_1 (x_1.fst, x_1.snd.fst + (1 : Int), x_1.snd.snd.fst, min x_1.snd.snd.snd.fst ((x_1.snd.snd.fst.getD x_1.snd.fst.toNat []).getD x.snd.fst.toNat (0
  : Int)), max x_1.snd.snd.snd.snd ((x_1.snd.snd.fst.getD x_1.snd.fst.toNat []).getD x.snd.fst.toNat (0 : Int))) < μ_1 x_1) ∧ (decide (x_1.snd.fst < (↑l.length : Int)) = false →
  roomP G4 (57 : Nat) (x_1.fst.length + [(x_1.snd.snd.snd.fst, x_1.snd.snd.snd.snd, ())].length) ∧ isI64 (x.snd.fst + (1 : Int)) ∧ I (x_1.fst ++ [(x_1.snd.snd.snd.fst,
  x_1.snd.snd.snd.snd, ())], x.snd.fst + (1 : Int), x_1.snd.snd.fst) ∧ μ (x_1.fst ++ [(x_1.snd.snd.snd.fst, x_1.snd.snd.snd.snd, ())], x.snd.fst + (1 : Int), x_1.snd.snd.fst) < μ
  x)) ∧ (decide (x.snd.fst < (↑p.length : Int)) = false → (x.fst, (0 : Int), ()) = ((shellsR m p l).fst, (shellsR m p l).snd, ())))) := by kernel_rfl
noncomputable def GO : Ctx := mkctx bs tG4 [] (hint0 loopsP)
theorem some_nf (l : List (List Int)) (c : List Int) (n : Int) : fnwp GO 6 31 someSp (l, c, n) = (∃ (I : List (List Int) × Int → Prop), ∃ (μ : List (List Int) × Int → Nat), I ([],
  (0 : Int)) ∧ ∀ (x : List (List Int) × Int), I x → (decide (x.snd < n) = true → (decide (x.snd < (↑c.length : Int)) = true → ((0 : Int) ≤ x.snd ∧ x.snd < (↑c.length : Int)) ∧
  (↑l.length : Int) ≠ (0 : Int) ∧ ((0 : Int) ≤ (IntKind.i64.wrap (c.getD x.snd.toNat (0 : Int))).tmod (↑l.length : Int) ∧ (IntKind.i64.wrap (c.getD x.snd.toNat (0 : Int))).tmod
  (↑l.length : Int) < (↑l.length : Int)) ∧ roomP GO (23 : Nat) (x.fst.length + [l.getD ((IntKind.i64.wrap (c.getD x.snd.toNat (0 : Int))).tmod (↑l.length : Int)).toNat []].length)
  ∧ isI64 (x.snd + (1 : Int)) ∧ I (x.fst ++ [l.getD ((IntKind.i64.wrap (c.getD x.snd.toNat (0 : Int))).tmod (↑l.length : Int)).toNat []], x.snd + (1 : Int)) ∧ μ (x.fst ++ [l.getD
  ((IntKind.i64.wrap (c.getD x.snd.toNat (0 : Int))).tmod (↑l.length : Int)).toNat []], x.snd + (1 : Int)) < μ x) ∧ (decide (x.snd < (↑c.length : Int)) = false → ((0 : Int) ≤ (0 :
  Int) ∧ (0 : Int) < (↑l.length : Int)) ∧ roomP GO (23 : Nat) (x.fst.length + [l.getD (0 : Nat) []].length) ∧ isI64 (x.snd + (1 : Int)) ∧ I (x.fst ++ [l.getD (0 : Nat) []], x.snd +
  (1 : Int)) ∧ μ (x.fst ++ [l.getD (0 : Nat) []], x.snd + (1 : Int)) < μ x)) ∧ (decide (x.snd < n) = false → x.fst = someS l c n)) := by kernel_rfl
def tG5 : List (FuncId × FSpec) := (34, rShellsSp) :: tG4
noncomputable def GS : Ctx := mkctx bs tG5 [] hintC
def sanSp : FSpec := ⟨[], [.bool], fun _ => True, fun _ => true⟩
theorem sanity_nf : fnwp GS 6 10 sanSp () = (True ∧ True ∧ True ∧ True ∧ True ∧ True ∧ True ∧ True ∧ True ∧ True ∧ True ∧ true = true) := by kernel_rfl
end Go.Proofs.Ytdhfjgooamoodaa
