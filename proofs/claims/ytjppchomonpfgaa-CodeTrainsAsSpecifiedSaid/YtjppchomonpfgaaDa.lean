import Derived.Test.YtjppchomonpfgaaCi
namespace Go.PL
open Go.AM
set_option linter.unusedVariables false

/-! ### Training, plain -/
def alikeL (l : List (List Int)) : Bool := decide (1 ≤ l.length) && upto l.length fun k => alikeB (l.getD 0 []) (l.getD k [])
def ptS (f t : Int) (v : List Int) : List Int := (v.drop f.toNat).take (t.toNat - f.toNat)
def farS (l : List (List Int)) (f t : Int) (ws : List (List Int)) (k : Nat) : Int := ws.foldl (fun s w => min s (keyS 2 w (ptS f t (l.getD k [])))) 134217729
def nextS (l : List (List Int)) (f t : Int) (ws : List (List Int)) : Nat := amax l.length (farS l f t ws)
def stepS (l : List (List Int)) (f t : Int) (ws : List (List Int)) : List (List Int) := if farS l f t ws (nextS l f t ws) = 0 then ws else ws ++ [ptS f t (l.getD (nextS l f t ws) [])]
def trainS (l : List (List Int)) (f t : Int) : Nat → List (List Int)
  | 0 => []
  | n + 1 => stepS l f t (trainS l f t n)
def trWords (l : List (List Int)) (cuts : List Int) (d words : Int) (k : Nat) : List (List Int) := trainS l (cuts.getD k 0) (endN cuts d k) words.toNat
def noBook : Book := (0, [], [], ())
def trainBk (l : List (List Int)) (cuts : List Int) (words : Int) : Book × Int :=
  if alikeL l = false ∨ words < 1 then (noBook, 1) else if 4096 < l.length ∨ 256 < words then (noBook, 2) else if cutB cuts (l.getD 0 []).length = false then (noBook, 80)
  else (((l.getD 0 []).length, cuts, tabL cuts.length (trWords l cuts (l.getD 0 []).length words), ()), 0)
end Go.PL
namespace Go.Proofs.Ytjppchomonpfgaa
open Go.AM Go.PL
set_option linter.unusedVariables false
def alkSp : FSpec := ⟨[LL], [.bool], fun _ => True, fun l => alikeL l⟩
def trnP (l : List (List Int)) (f t words : Int) : Prop := alikeL l = true ∧ l.length ≤ 4096 ∧ (0 ≤ f ∧ f < t ∧ t ≤ (l.getD 0 []).length) ∧ 1 ≤ words ∧ words ≤ 256
def trnSp : FSpec := ⟨[LL, PT, I], [LL], fun x => trnP x.1 x.2.1.2.1 x.2.1.2.2.1 x.2.2, fun x => trainS x.1 x.2.1.2.1 x.2.1.2.2.1 (x.2.2 : Int).toNat⟩
def trainSp : FSpec := ⟨[LL, L, I], [BK, I], fun _ => True, fun x => trainBk x.1 x.2.1 x.2.2⟩
def worstS (b : Book) (m : Int) (l : List (List Int)) : Int := foldJ 3 l.length fun k => residS b m (l.getD k [])
def worstSp : FSpec := ⟨[BK, I, LL], [I], fun x => ∀ k, k < (x.2.2 : List (List Int)).length → rightB x.1 x.2.1 ((x.2.2 : List (List Int)).getD k []) ((x.2.2 : List (List Int)).getD k []) = true, fun x => worstS x.1 x.2.1 x.2.2⟩
def loopsD (f : FuncId) (r : Nat) : List LA :=
  if Nat.beq f 61 then (if Nat.beq r 4 then [.slot 21 I, .gslot 8 3 I] else if Nat.beq r 8 then [.gslot 7 22 L, .gslot 8 3 I] else
    if Nat.beq r 11 then [.gslot 7 22 L, .gslot 8 3 I, .gslot 32 3 I, .slot 10 I, .slot 34 I] else [.gslot 7 22 L, .gslot 8 3 I, .slot 65 I]) else
  if Nat.beq f 63 then [.slot 9 I, .cell 8 0 I, .cell 8 1 L, .gcell 8 2 39 LL] else
  loopsC [] [] f r
def hintD8 (f : FuncId) : Hint := ⟨loopsD f, fun r => bif Nat.beq f 31 && Nat.beq r 10 then .all else .split, fun _ => .split, fun _ => 0⟩
def tE0 : List (FuncId × FSpec) := (60, cloneG.data) :: tD1
noncomputable def E0 : Ctx := mkctx bs tE0 [] hintD8
def tE1 : List (FuncId × FSpec) := (59, alkSp) :: (61, trnSp) :: tE0
noncomputable def E1 : Ctx := mkctx bs tE1 [] hintD8
def tE2 : List (FuncId × FSpec) := (20, resSp) :: (21, resSp) :: tE0
noncomputable def E2 : Ctx := mkctx bs tE2 [] hintD8
theorem alk_nf (l : List (List Int)) : fnwp E0 6 59 alkSp l = (∃ (I : Int → Prop), ∃ (μ : Int → Nat), I (0 : Int) ∧ ∀ (x : Int), I x → (decide (x < (↑l.length : Int)) = true → ((0
  : Int) ≤ x ∧ x < (↑l.length : Int)) ∧ ((0 : Int) ≤ (0 : Int) ∧ (0 : Int) < (↑l.length : Int)) ∧ True ∧ ((!alikeB (l.getD (0 : Nat) []) (l.getD x.toNat [])) = true → false =
  alikeL l) ∧ ((!alikeB (l.getD (0 : Nat) []) (l.getD x.toNat [])) = false → isI64 (x + (1 : Int)) ∧ I (x + (1 : Int)) ∧ μ (x + (1 : Int)) < μ x)) ∧ (decide (x < (↑l.length : Int))
  = false → decide ((0 : Int) < (↑l.length : Int)) = alikeL l)) := by kernel_rfl
theorem trn_nf (l : List (List Int)) (p : Int × Int × Int × Unit) (w : Int) : fnwp E0 6 61 trnSp (l, p, w) = (((0 : Int) ≤ (↑l.length : Int) ∧ (↑l.length : Int) ≤ (↑l.length : Int)
  ∧ roomP E0 (3 : Nat) (↑l.length : Int).toNat) ∧ ∃ (I : Int × List Int → Prop), ∃ (μ : Int × List Int → Nat), I ((0 : Int), List.replicate (↑l.length : Int).toNat (0 : Int)) ∧ ∀
  (x : Int × List Int), I x → (decide (x.fst < (↑(List.replicate (↑l.length : Int).toNat (0 : Int)).length : Int)) = true → ((0 : Int) ≤ x.fst ∧ x.fst < (↑x.snd.length : Int)) ∧
  isI64 (x.fst + (1 : Int)) ∧ I (x.fst + (1 : Int), x.snd.set x.fst.toNat (134217729 : Int)) ∧ μ (x.fst + (1 : Int), x.snd.set x.fst.toNat (134217729 : Int)) < μ x) ∧ (decide
  (x.fst < (↑(List.replicate (↑l.length : Int).toNat (0 : Int)).length : Int)) = false → ∃ (I : List (List Int) × List Int → Prop), ∃ (μ : List (List Int) × List Int → Nat), I ([],
  x.snd) ∧ ∀ (x : List (List Int) × List Int), I x → (decide ((↑x.fst.length : Int) < w) = true → ∃ (I_1 : List (List Int) × List Int × List Int × Int × Int → Prop), ∃ (μ_1 : List
  (List Int) × List Int × List Int × Int × Int → Nat), I_1 (x.fst, x.snd, x.snd, (0 : Int), (0 : Int)) ∧ ∀ (x_1 : List (List Int) × List Int × List Int × Int × Int), I_1 x_1 →
  (decide (x_1.snd.snd.snd.snd < (↑x.snd.length : Int)) = true → ((0 : Int) ≤ x_1.snd.snd.snd.snd ∧ x_1.snd.snd.snd.snd < (↑x_1.snd.snd.fst.length : Int)) ∧ ((0 : Int) ≤
  x_1.snd.snd.snd.fst ∧ x_1.snd.snd.snd.fst < (↑x_1.snd.snd.fst.length : Int)) ∧ (decide (x_1.snd.snd.fst.getD x_1.snd.snd.snd.fst.toNat (0 : Int) < x_1.snd.snd.fst.getD
  x_1.snd.snd.snd.snd.toNat (0 : Int)) = true → isI64 (x_1.snd.snd.snd.snd + (1 : Int)) ∧ I_1 (x_1.fst, x_1.snd.snd.fst, x_1.snd.snd.fst, x_1.snd.snd.snd.snd, x_1.snd.snd.snd.snd +
  (1 : Int)) ∧ μ_1 (x_1.fst, x_1.snd.snd.fst, x_1.snd.snd.fst, x_1.snd.snd.snd.snd, x_1.snd.snd.snd.snd + (1 : Int)) < μ_1 x_1) ∧ (decide (x_1.snd.snd.fst.getD
  x_1.snd.snd.snd.fst.toNat (0 : Int) < x_1.snd.snd.fst.getD x_1.snd.snd.snd.snd.toNat (0 : Int)) = false → isI64 (x_1.snd.snd.snd.snd + (1 : Int)) ∧ I_1 (x_1.fst, x_1.snd.snd.fst,
  x_1.snd.snd.fst, x_1.snd.snd.snd.fst, x_1.snd.snd.snd.snd + (1 : Int)) ∧ μ_1 (x_1.fst, x_1.snd.snd.fst, x_1.snd.snd.fst, x_1.snd.snd.snd.fst, x_1.snd.snd.snd.snd + (1 : Int)) <
  μ_1 x_1)) ∧ (decide (x_1.snd.snd.snd.snd < (↑x.snd.length : Int)) = false → ((0 : Int) ≤ x_1.snd.snd.snd.fst ∧ x_1.snd.snd.snd.fst < (↑x_1.snd.snd.fst.length : Int)) ∧ (decide
  (x_1.snd.snd.fst.getD x_1.snd.snd.snd.fst.toNat (0 : Int) = (0 : Int)) = true → x_1.fst = trainS l p.snd.fst p.snd.snd.fst w.toNat) ∧ (decide (x_1.snd.snd.fst.getD
  x_1.snd.snd.snd.fst.toNat (0 : Int) = (0 : Int)) = false → ((0 : Int) ≤ x_1.snd.snd.snd.fst ∧ x_1.snd.snd.snd.fst < (↑l.length : Int)) ∧ ((0 : Int) ≤ p.snd.fst ∧ p.snd.fst ≤
  p.snd.snd.fst ∧ p.snd.snd.fst ≤ (↑(l.getD x_1.snd.snd.snd.fst.toNat []).length : Int)) ∧ (List.take (p.snd.snd.fst.toNat - p.snd.fst.toNat) (List.drop p.snd.fst.toNat (l.getD
  x_1.snd.snd.snd.fst.toNat []))).length ≤ (1000000 : Nat) ∧ roomP E0 (22 : Nat) (x_1.fst.length + [List.take (p.snd.snd.fst.toNat - p.snd.fst.toNat) (List.drop p.snd.fst.toNat
  (l.getD x_1.snd.snd.snd.fst.toNat []))].length) ∧ ∃ (I_2 : List (List Int) × List Int × Int → Prop), ∃ (μ_2 : List (List Int) × List Int × Int → Nat), I_2 (x_1.fst ++ [List.take
  (p.snd.snd.fst.toNat - p.snd.fst.toNat) (List.drop p.snd.fst.toNat (l.getD x_1.snd.snd.snd.fst.toNat []))], x_1.snd.snd.fst, (0 : Int)) ∧ ∀ (x_2 : List (List Int) × List Int ×
  Int), I_2 x_2 → (decide (x_2.snd.snd < (↑l.length : Int)) = true → ((0 : Int) ≤ x_2.snd.snd ∧ x_2.snd.snd < (↑l.length : Int)) ∧ ((0 : Int) ≤ x_2.snd.snd ∧ x_2.snd.snd <
  (↑x_2.snd.fst.length : Int)) ∧ ((0 : Int) ≤ p.snd.fst ∧ p.snd.fst ≤ p.snd.snd.fst ∧ p.snd.snd.fst ≤ (↑(l.getD x_2.snd.snd.toNat []).length : Int)) ∧ ((1 : Int) ≤ (2 : Int) ∧ (2 :
  Int) ≤ (3 : Int) ∧ small (64 : Nat) (4000 : Int) (List.take (p.snd.snd.fst.toNat - p.snd.fst.toNat) (List.drop p.snd.fst.toNat (l.getD x_1.snd.snd.snd.fst.toNat []))) ∧ small (64
  : Nat) (4000 : Int) (List.take (p.snd.snd.fst.toNat - p.snd.fst.toNat) (List.drop p.snd.fst.toNat (l.getD x_2.snd.snd.toNat []))) ∧ (List.take (p.snd.snd.fst.toNat -
  p.snd.fst.toNat) (List.drop p.snd.fst.toNat (l.getD x_1.snd.snd.snd.fst.toNat []))).length = (List.take (p.snd.snd.fst.toNat - p.snd.fst.toNat) (List.drop p.snd.fst.toNat (l.getD
  x_2.snd.snd.toNat []))).length) ∧ ((0 : Int) ≤ x_2.snd.snd ∧ x_2.snd.snd < (↑x_2.snd.fst.length : Int)) ∧ isI64 (x_2.snd.snd + (1 : Int)) ∧ I_2 (x_2.fst, x_2.snd.fst.set
  x_2.snd.snd.toNat (min (x_2.snd.fst.getD x_2.snd.snd.toNat (0 : Int)) (keyS (2 : Int) (List.take (p.snd.snd.fst.toNat - p.snd.fst.toNat) (List.drop p.snd.fst.toNat (l.getD
  x_1.snd.snd.snd.fst.toNat []))) (List.take (p.snd.snd.fst.toNat - p.snd.fst.toNat) (List.drop p.snd.fst.toNat (l.getD x_2.snd.snd.toNat []))))), x_2.snd.snd + (1 : Int)) ∧ μ_2
  (x_2.fst, x_2.snd.fst.set x_2.snd.snd.toNat (min (x_2.snd.fst.getD x_2.snd.snd.toNat (0 : Int)) (keyS (2 : Int) (List.take (p.snd.snd.fst.toNat - p.snd.fst.toNat) (List.drop
  p.snd.fst.toNat (l.getD x_1.snd.snd.snd.fst.toNat []))) (List.take (p.snd.snd.fst.toNat - p.snd.fst.toNat) (List.drop p.snd.fst.toNat (l.getD x_2.snd.snd.toNat []))))),
  x_2.snd.snd + (1 : Int)) < μ_2 x_2) ∧ (decide (x_2.snd.snd < (↑l.length : Int)) = false → I (x_2.fst, x_2.snd.fst) ∧ μ (x_2.fst, x_2.snd.fst) < μ x)))) ∧ (decide ((↑x.fst.length
  : Int) < w) = false → x.fst = trainS l p.snd.fst p.snd.snd.fst w.toNat))) := by kernel_rfl
theorem worst_nf (b : Book) (m : Int) (l : List (List Int)) : fnwp E2 6 35 worstSp (b, m, l) = (∃ (I : Int × Int → Prop), ∃ (μ : Int × Int → Nat), I ((0 : Int), (0 : Int)) ∧ ∀ (x :
  Int × Int), I x → (decide (x.snd < (↑l.length : Int)) = true → ((0 : Int) ≤ x.snd ∧ x.snd < (↑l.length : Int)) ∧ rightB b m (l.getD x.snd.toNat []) (l.getD x.snd.toNat []) = true
  ∧ isI64 (x.snd + (1 : Int)) ∧ I (max x.fst (residS b m (l.getD x.snd.toNat [])), x.snd + (1 : Int)) ∧ μ (max x.fst (residS b m (l.getD x.snd.toNat [])), x.snd + (1 : Int)) < μ x)
  ∧ (decide (x.snd < (↑l.length : Int)) = false → x.fst = worstS b m l)) := by kernel_rfl
theorem rWorst_nf (b : Book) (m : Int) (l : List (List Int)) : fnwp E2 6 36 worstSp (b, m, l) = (∃ (I : Int × Int → Prop), ∃ (μ : Int × Int → Nat), I ((0 : Int), (0 : Int)) ∧ ∀ (x
  : Int × Int), I x → (decide (x.snd < (↑l.length : Int)) = true → ((0 : Int) ≤ x.snd ∧ x.snd < (↑l.length : Int)) ∧ rightB b m (l.getD x.snd.toNat []) (l.getD x.snd.toNat []) =
  true ∧ (decide (x.fst < residS b m (l.getD x.snd.toNat [])) = true → isI64 (x.snd + (1 : Int)) ∧ I (residS b m (l.getD x.snd.toNat []), x.snd + (1 : Int)) ∧ μ (residS b m (l.getD
  x.snd.toNat []), x.snd + (1 : Int)) < μ x) ∧ (decide (x.fst < residS b m (l.getD x.snd.toNat [])) = false → isI64 (x.snd + (1 : Int)) ∧ I (x.fst, x.snd + (1 : Int)) ∧ μ (x.fst,
  x.snd + (1 : Int)) < μ x)) ∧ (decide (x.snd < (↑l.length : Int)) = false → x.fst = worstS b m l)) := by kernel_rfl
theorem ssE0 : SpecSound E0 := mkctx_sound ⟨sat_clone.toData, sat_cut, sat_rCut, sat_end, sat_ofp, sat_near, sat_rows, satD0⟩ trivial
theorem ssE2 : SpecSound E2 := mkctx_sound ⟨sat_res, sat_rRes, sat_clone.toData, sat_cut, sat_rCut, sat_end, sat_ofp, sat_near, sat_rows, satD0⟩ trivial
end Go.Proofs.Ytjppchomonpfgaa
