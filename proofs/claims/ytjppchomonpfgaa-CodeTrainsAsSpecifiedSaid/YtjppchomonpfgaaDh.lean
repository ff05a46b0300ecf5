import Derived.Test.YtjppchomonpfgaaDa
namespace Go.Proofs.Ytjppchomonpfgaa
open Go.AM Go.PL
set_option linter.unusedVariables false
def lowF (ws : List (List Int)) (v : List Int) (a : Int) : Int := ws.foldl (fun s w => min s (keyS 2 w v)) a
def rLeastSp : FSpec := ⟨[LL, L], [I], fun x => ∀ i, i < (x.1 : List (List Int)).length → alikeB ((x.1 : List (List Int)).getD i []) x.2 = true, fun x => lowF x.1 x.2 268435456⟩
def rTrainSp : FSpec := ⟨[LL, L, I], [.pair BK (.pair I .unit)], fun _ => True, fun x => ((trainBk x.1 x.2.1 x.2.2).1, (trainBk x.1 x.2.1 x.2.2).2, ())⟩
/-- A codebook whose words are not looked at. -/
abbrev PB : Ty := .pair I (.pair L (.pair .any .unit))
def partP (c : List Int) (d k : Int) (v : List Int) : Prop := (0 ≤ k ∧ k < c.length ∧ k ≤ 1000) ∧ 0 ≤ c.getD k.toNat 0 ∧ c.getD k.toNat 0 ≤ endN c d k.toNat ∧ endN c d k.toNat ≤ v.length
def rPartSp : FSpec := ⟨[PB, I, L], [L], fun x => partP x.1.2.1 x.1.1 x.2.1 x.2.2, fun x => partS x.1.2.1 x.1.1 (x.2.1 : Int).toNat x.2.2⟩
def bLA : List LA := [.cell 9 0 I, .cell 9 1 L, .gcell 9 2 39 LL]
def loopsR8 (f : FuncId) (r : Nat) : List LA :=
  if Nat.beq f 32 then (if Nat.beq r 4 then [.slot 7 I] else if Nat.beq r 16 then .slot 11 I :: bLA else if Nat.beq r 19 then .gslot 12 22 L :: bLA else .gslot 12 22 L :: .slot 13 I :: .slot 14 I :: bLA) else
  loopsC [] [] f r
def hintR8 (f : FuncId) : Hint := ⟨loopsR8 f, fun r => bif Nat.beq f 32 && memN r [27] then .all else .split, fun _ => .split, fun r => bif Nat.beq f 32 then (bif Nat.beq r 19 then 1000 else bif Nat.beq r 15 then 501 else 0) else 0⟩
def tR0 : List (FuncId × FSpec) := (43, cutSp) :: (45, endSp) :: tD0
noncomputable def R0 : Ctx := mkctx bs tR0 [] hintR8
def tR1 : List (FuncId × FSpec) := (62, rLeastSp) :: (49, rPartSp) :: tR0
noncomputable def R1 : Ctx := mkctx bs tR1 [] hintR8
theorem ssR0 : SpecSound R0 := mkctx_sound ⟨sat_rCut, sat_end, satD0⟩ trivial
theorem rLeast_nf (ws : List (List Int)) (v : List Int) : fnwp R0 6 62 rLeastSp (ws, v) = (∃ (I : Int × Int → Prop), ∃ (μ : Int × Int → Nat), I ((268435456 : Int), (0 : Int)) ∧ ∀
  (x : Int × Int), I x → (decide (x.snd < (↑ws.length : Int)) = true → ((0 : Int) ≤ x.snd ∧ x.snd < (↑ws.length : Int)) ∧ ((1 : Int) ≤ (2 : Int) ∧ (2 : Int) ≤ (3 : Int) ∧ small (64
  : Nat) (4000 : Int) (ws.getD x.snd.toNat []) ∧ small (64 : Nat) (4000 : Int) v ∧ (ws.getD x.snd.toNat []).length = v.length) ∧ (decide (keyS (2 : Int) (ws.getD x.snd.toNat []) v
  < x.fst) = true → isI64 (x.snd + (1 : Int)) ∧ I (keyS (2 : Int) (ws.getD x.snd.toNat []) v, x.snd + (1 : Int)) ∧ μ (keyS (2 : Int) (ws.getD x.snd.toNat []) v, x.snd + (1 : Int))
  < μ x) ∧ (decide (keyS (2 : Int) (ws.getD x.snd.toNat []) v < x.fst) = false → isI64 (x.snd + (1 : Int)) ∧ I (x.fst, x.snd + (1 : Int)) ∧ μ (x.fst, x.snd + (1 : Int)) < μ x)) ∧
  (decide (x.snd < (↑ws.length : Int)) = false → x.fst = lowF ws v (268435456 : Int))) := by kernel_rfl
theorem rPart2_nf (b : Int × List Int × Unit × Unit) (k : Int) (v : List Int) : fnwp R0 6 49 rPartSp (b, k, v) = (((0 : Int) ≤ k ∧ k < (↑b.snd.fst.length : Int)) ∧ ((0 : Int) ≤ k ∧
  k ≤ (1000 : Int)) ∧ ((0 : Int) ≤ b.snd.fst.getD k.toNat (0 : Int) ∧ b.snd.fst.getD k.toNat (0 : Int) ≤ endN b.snd.fst b.fst k.toNat ∧ endN b.snd.fst b.fst k.toNat ≤ (↑v.length :
  Int)) ∧ List.take ((endN b.snd.fst b.fst k.toNat).toNat - (b.snd.fst.getD k.toNat (0 : Int)).toNat) (List.drop (b.snd.fst.getD k.toNat (0 : Int)).toNat v) = partS b.snd.fst b.fst
  k.toNat v) := by kernel_rfl
theorem rTrain_nf (l : List (List Int)) (c : List Int) (w : Int) : fnwp R1 7 32 rTrainSp (l, c, w) = ((decide ((↑l.length : Int) = (0 : Int)) = true → (((0 : Int), [], [], ()), (1
  : Int), ()) = ((trainBk l c w).fst, (trainBk l c w).snd, ())) ∧ (decide ((↑l.length : Int) = (0 : Int)) = false → (decide (w < (1 : Int)) = true → (((0 : Int), [], [], ()), (1 :
  Int), ()) = ((trainBk l c w).fst, (trainBk l c w).snd, ())) ∧ (decide (w < (1 : Int)) = false → ∃ (I : Int → Prop), ∃ (μ : Int → Nat), I (0 : Int) ∧ ∀ (x : Int), I x → (decide (x
  < (↑l.length : Int)) = true → ((0 : Int) ≤ (0 : Int) ∧ (0 : Int) < (↑l.length : Int)) ∧ ((0 : Int) ≤ x ∧ x < (↑l.length : Int)) ∧ True ∧ ((!alikeB (l.getD (0 : Nat) []) (l.getD
  x.toNat [])) = true → (((0 : Int), [], [], ()), (1 : Int), ()) = ((trainBk l c w).fst, (trainBk l c w).snd, ())) ∧ ((!alikeB (l.getD (0 : Nat) []) (l.getD x.toNat [])) = false →
  isI64 (x + (1 : Int)) ∧ I (x + (1 : Int)) ∧ μ (x + (1 : Int)) < μ x)) ∧ (decide (x < (↑l.length : Int)) = false → (decide ((4096 : Int) < (↑l.length : Int)) = true → (((0 : Int),
  [], [], ()), (2 : Int), ()) = ((trainBk l c w).fst, (trainBk l c w).snd, ())) ∧ (decide ((4096 : Int) < (↑l.length : Int)) = false → (decide ((256 : Int) < w) = true → (((0 :
  Int), [], [], ()), (2 : Int), ()) = ((trainBk l c w).fst, (trainBk l c w).snd, ())) ∧ (decide ((256 : Int) < w) = false → ((0 : Int) ≤ (0 : Int) ∧ (0 : Int) < (↑l.length : Int))
  ∧ True ∧ ((!cutB c (↑(l.getD (0 : Nat) []).length : Int)) = true → (((0 : Int), [], [], ()), (80 : Int), ()) = ((trainBk l c w).fst, (trainBk l c w).snd, ())) ∧ ((!cutB c
  (↑(l.getD (0 : Nat) []).length : Int)) = false → ((0 : Int) ≤ (0 : Int) ∧ (0 : Int) < (↑l.length : Int)) ∧ roomP R1 (3 : Nat) c.length ∧ ∃ (I : Int × Int × List Int × List (List
  (List Int)) → Prop), ∃ (μ : Int × Int × List Int × List (List (List Int)) → Nat), I ((0 : Int), (↑(l.getD (0 : Nat) []).length : Int), c, []) ∧ ∀ (x : Int × Int × List Int × List
  (List (List Int))), I x → (decide (x.fst < (↑c.length : Int)) = true → ((0 : Int) ≤ (0 : Int) ∧ (0 : Int) < (↑l.length : Int)) ∧ partP x.snd.snd.fst x.snd.fst x.fst (l.getD (0 :
  Nat) []) ∧ roomP R1 (3 : Nat) (partS x.snd.snd.fst x.snd.fst x.fst.toNat (l.getD (0 : Nat) [])).length ∧ (decide ((↑[partS x.snd.snd.fst x.snd.fst x.fst.toNat (l.getD (0 : Nat)
  [])].length : Int) < w) = true → ∃ (I_1 : List (List Int) × Int × Int × Int × List Int × List (List (List Int)) → Prop), ∃ (μ_1 : List (List Int) × Int × Int × Int × List Int ×
  List (List (List Int)) → Nat), I_1 ([partS x.snd.snd.fst x.snd.fst x.fst.toNat (l.getD (0 : Nat) [])], (0 : Int), (0 : Int), x.snd.fst, x.snd.snd.fst, x.snd.snd.snd) ∧ ∀ (x_1 :
  List (List Int) × Int × Int × Int × List Int × List (List (List Int))), I_1 x_1 → (decide (x_1.snd.snd.fst < (↑l.length : Int)) = true → ((0 : Int) ≤ x_1.snd.snd.fst ∧
  x_1.snd.snd.fst < (↑l.length : Int)) ∧ partP x_1.snd.snd.snd.snd.fst x_1.snd.snd.snd.fst x.fst (l.getD x_1.snd.snd.fst.toNat []) ∧ (∀ (i : Nat), i < [partS x.snd.snd.fst
  x.snd.fst x.fst.toNat (l.getD (0 : Nat) [])].length → alikeB ([partS x.snd.snd.fst x.snd.fst x.fst.toNat (l.getD (0 : Nat) [])].getD i []) (partS x_1.snd.snd.snd.snd.fst
  x_1.snd.snd.snd.fst x.fst.toNat (l.getD x_1.snd.snd.fst.toNat [])) = true) ∧ ((0 : Int) ≤ x_1.snd.fst ∧ x_1.snd.fst < (↑l.length : Int)) ∧ partP x_1.snd.snd.snd.snd.fst
  x_1.snd.snd.snd.fst x.fst (l.getD x_1.snd.fst.toNat []) ∧ (∀ (i : Nat), i < [partS x.snd.snd.fst x.snd.fst x.fst.toNat (l.getD (0 : Nat) [])].length → alikeB ([partS
  x.snd.snd.fst x.snd.fst x.fst.toNat (l.getD (0 : Nat) [])].getD i []) (partS x_1.snd.snd.snd.snd.fst x_1.snd.snd.snd.fst x.fst.toNat (l.getD x_1.snd.fst.toNat [])) = true) ∧
  (decide (lowF [partS x.snd.snd.fst x.snd.fst x.fst.toNat (l.getD (0 : Nat) [])] (partS x_1.snd.snd.snd.snd.fst x_1.snd.snd.snd.fst x.fst.toNat (l.getD x_1.snd.fst.toNat []))
  (268435456 : Int) < lowF [partS x.snd.snd.fst x.snd.fst x.fst.toNat (l.getD (0 : Nat) [])] (partS x_1.snd.snd.snd.snd.fst x_1.snd.snd.snd.fst x.fst.toNat (l.getD
  x_1.snd.snd.fst.toNat [])) (268435456 : Int)) = true → isI64 (x_1.snd.snd.fst + (1 : Int)) ∧ I_1 ([partS x.snd.snd.fst x.snd.fst x.fst.toNat (l.getD (0 : Nat) [])],
  x_1.snd.snd.fst, x_1.snd.snd.fst + (1 : Int), x_1.snd.snd.snd.fst, x_1.snd.snd.snd.snd.fst, x_1.snd.snd.snd.snd.snd) ∧ μ_1 ([partS x.snd.snd.fst x.snd.fst x.fst.toNat (l.getD (0
  : Nat) [])], x_1.snd.snd.fst, x_1.snd.snd.fst + (1 : Int), x_1.snd.snd.snd.fst, x_1.snd.snd.snd.snd.fst, x_1.snd.snd.snd.snd.snd) < μ_1 x_1) ∧ (decide (lowF [partS x.snd.snd.fst
  x.snd.fst x.fst.toNat (l.getD (0 : Nat) [])] (partS x_1.snd.snd.snd.snd.fst x_1.snd.snd.snd.fst x.fst.toNat (l.getD x_1.snd.fst.toNat [])) (268435456 : Int) < lowF [partS
  x.snd.snd.fst x.snd.fst x.fst.toNat (l.getD (0 : Nat) [])] (partS x_1.snd.snd.snd.snd.fst x_1.snd.snd.snd.fst x.fst.toNat (l.getD x_1.snd.snd.fst.toNat [])) (268435456 : Int)) =
  false → isI64 (x_1.snd.snd.fst + (1 : Int)) ∧ I_1 ([partS x.snd.snd.fst x.snd.fst x.fst.toNat (l.getD (0 : Nat) [])], x_1.snd.fst, x_1.snd.snd.fst + (1 : Int),
  x_1.snd.snd.snd.fst, x_1.snd.snd.snd.snd.fst, x_1.snd.snd.snd.snd.snd) ∧ μ_1 ([partS x.snd.snd.fst x.snd.fst x.fst.toNat (l.getD (0 : Nat) [])], x_1.snd.fst, x_1.snd.snd.fst + (1
  : Int), x_1.snd.snd.snd.fst, x_1.snd.snd.snd.snd.fst, x_1.snd.snd.snd.snd.snd) < μ_1 x_1)) ∧ (decide (x_1.snd.snd.fst < (↑l.length : Int)) = false → ((0 : Int) ≤ x_1.snd.fst ∧
  x_1.snd.fst < (↑l.length : Int)) ∧ partP x_1.snd.snd.snd.snd.fst x_1.snd.snd.snd.fst x.fst (l.getD x_1.snd.fst.toNat []) ∧ (∀ (i : Nat), i < [partS x.snd.snd.fst x.snd.fst
  x.fst.toNat (l.getD (0 : Nat) [])].length → alikeB ([partS x.snd.snd.fst x.snd.fst x.fst.toNat (l.getD (0 : Nat) [])].getD i []) (partS x_1.snd.snd.snd.snd.fst
  x_1.snd.snd.snd.fst x.fst.toNat (l.getD x_1.snd.fst.toNat [])) = true) ∧ (decide (lowF [partS x.snd.snd.fst x.snd.fst x.fst.toNat (l.getD (0 : Nat) [])] (partS
  x_1.snd.snd.snd.snd.fst x_1.snd.snd.snd.fst x.fst.toNat (l.getD x_1.snd.fst.toNat [])) (268435456 : Int) = (0 : Int)) = true → roomP R1 (39 : Nat) (x_1.snd.snd.snd.snd.snd.length
  + [[partS x.snd.snd.fst x.snd.fst x.fst.toNat (l.getD (0 : Nat) [])]].length) ∧ isI64 (x.fst + (1 : Int)) ∧ I (x.fst + (1 : Int), x_1.snd.snd.snd.fst, x_1.snd.snd.snd.snd.fst,
  x_1.snd.snd.snd.snd.snd ++ [[partS x.snd.snd.fst x.snd.fst x.fst.toNat (l.getD (0 : Nat) [])]]) ∧ μ (x.fst + (1 : Int), x_1.snd.snd.snd.fst, x_1.snd.snd.snd.snd.fst,
  x_1.snd.snd.snd.snd.snd ++ [[partS x.snd.snd.fst x.snd.fst x.fst.toNat (l.getD (0 : Nat) [])]]) < μ x) ∧ (decide (lowF [partS x.snd.snd.fst x.snd.fst x.fst.toNat (l.getD (0 :
  Nat) [])] (partS x_1.snd.snd.snd.snd.fst x_1.snd.snd.snd.fst x.fst.toNat (l.getD x_1.snd.fst.toNat [])) (268435456 : Int) = (0 : Int)) = false → ((0 : Int) ≤ x_1.snd.fst ∧
  x_1.snd.fst < (↑l.length : Int)) ∧ (partP x_1.snd.snd.snd.snd.fst x_1.snd.snd.snd.fst x.fst (l.getD x_1.snd.fst.toNat []) ∧ roomP R1 (3 : Nat) (partS x_1.snd.snd.snd.snd.fst
  x_1.snd.snd.snd.fst x.fst.toNat (l.getD x_1.snd.fst.toNat [])).length ∧ roomP R1 (22 : Nat) ([partS x.snd.snd.fst x.snd.fst x.fst.toNat (l.getD (0 : Nat) [])].length + [partS
  x_1.snd.snd.snd.snd.fst x_1.snd.snd.snd.fst x.fst.toNat (l.getD x_1.snd.fst.toNat [])].length) ∧ ∃ (I_2 : List (List Int) × Int × List Int × List (List (List Int)) → Prop), ∃
  (μ_2 : List (List Int) × Int × List Int × List (List (List Int)) → Nat), I_2 ([partS x.snd.snd.fst x.snd.fst x.fst.toNat (l.getD (0 : Nat) [])] ++ [partS x_1.snd.snd.snd.snd.fst
  x_1.snd.snd.snd.fst x.fst.toNat (l.getD x_1.snd.fst.toNat [])], x_1.snd.snd.snd.fst, x_1.snd.snd.snd.snd.fst, x_1.snd.snd.snd.snd.snd) ∧ ∀ (x_2 : List (List Int) × Int × List Int
  × List (List (List Int))), I_2 x_2 → (decide ((↑x_2.fst.length : Int) < w) = true → ∃ (I_3 : List (List Int) × Int × Int × Int × List Int × List (List (List Int)) → Prop), ∃ (μ_3
  : List (List Int) × Int × Int × Int × List Int × List (List (List Int)) → Nat), I_3 (x_2.fst, (0 : Int), (0 : Int), x_2.snd.fst, x_2.snd.snd.fst, x_2.snd.snd.snd) ∧ ∀ (x_3 : List
  (List Int) × Int × Int × Int × List Int × List (List (List Int))), I_3 x_3 → (decide (x_3.snd.snd.fst < (↑l.length : Int)) = true → ((0 : Int) ≤ x_3.snd.snd.fst ∧ x_3.snd.snd.fst
  < (↑l.length : Int)) ∧ partP x_3.snd.snd.snd.snd.fst x_3.snd.snd.snd.fst x.fst (l.getD x_3.snd.snd.fst.toNat []) ∧ (∀ (i : Nat), i < x_3.fst.length → alikeB (x_3.fst.getD i [])
  (partS x_3.snd.snd.snd.snd.fst x_3.snd.snd.snd.fst x.fst.toNat (l.getD x_3.snd.snd.fst.toNat [])) = true) ∧ ((0 : Int) ≤ x_3.snd.fst ∧ x_3.snd.fst < (↑l.length : Int)) ∧ partP
  x_3.snd.snd.snd.snd.fst x_3.snd.snd.snd.fst x.fst (l.getD x_3.snd.fst.toNat []) ∧ (∀ (i : Nat), i < x_3.fst.length → alikeB (x_3.fst.getD i []) (partS x_3.snd.snd.snd.snd.fst
  x_3.snd.snd.snd.fst x.fst.toNat (l.getD x_3.snd.fst.toNat [])) = true) ∧ (decide (lowF x_3.fst (partS x_3.snd.snd.snd.snd.fst x_3.snd.snd.snd.fst x.fst.toNat (l.getD
  x_3.snd.fst.toNat [])) (268435456 : Int) < lowF x_3.fst (partS x_3.snd.snd.snd.snd.fst x_3.snd.snd.snd.fst x.fst.toNat (l.getD x_3.snd.snd.fst.toNat [])) (268435456 : Int)) =
  true → isI64 (x_3.snd.snd.fst + (1 : Int)) ∧ I_3 (x_3.fst, x_3.snd.snd.fst, x_3.snd.snd.fst + (1 : Int), x_3.snd.snd.snd.fst, x_3.snd.snd.snd.snd.fst, x_3.snd.snd.snd.snd.snd) ∧
  μ_3 (x_3.fst, x_3.snd.snd.fst, x_3.snd.snd.fst + (1 : Int), x_3.snd.snd.snd.fst, x_3.snd.snd.snd.snd.fst, x_3.snd.snd.snd.snd.snd) < μ_3 x_3) ∧ (decide (lowF x_3.fst (partS
  x_3.snd.snd.snd.snd.fst x_3.snd.snd.snd.fst x.fst.toNat (l.getD x_3.snd.fst.toNat [])) (268435456 : Int) < lowF x_3.fst (partS x_3.snd.snd.snd.snd.fst x_3.snd.snd.snd.fst
  x.fst.toNat (l.getD x_3.snd.snd.fst.toNat [])) (268435456 : Int)) = false → isI64 (x_3.snd.snd.fst + (1 : Int)) ∧ I_3 (x_3.fst, x_3.snd.fst, x_3.snd.snd.fst + (1 : Int),
  x_3.snd.snd.snd.fst, x_3.snd.snd.snd.snd.fst, x_3.snd.snd.snd.snd.snd) ∧ μ_3 (x_3.fst, x_3.snd.fst, x_3.snd.snd.fst + (1 : Int), x_3.snd.snd.snd.fst, x_3.snd.snd.snd.snd.fst,
  x_3.snd.snd.snd.snd.snd) < μ_3 x_3)) ∧ (decide (x_3.snd.snd.fst < (↑l.length : Int)) = false → ((0 : Int) ≤ x_3.snd.fst ∧ x_3.snd.fst < (↑l.length : Int)) ∧ partP
  x_3.snd.snd.snd.snd.fst x_3.snd.snd.snd.fst x.fst (l.getD x_3.snd.fst.toNat []) ∧ (∀ (i : Nat), i < x_3.fst.length → alikeB (x_3.fst.getD i []) (partS x_3.snd.snd.snd.snd.fst
  x_3.snd.snd.snd.fst x.fst.toNat (l.getD x_3.snd.fst.toNat [])) = true) ∧ (decide (lowF x_3.fst (partS x_3.snd.snd.snd.snd.fst x_3.snd.snd.snd.fst x.fst.toNat (l.getD
  x_3.snd.fst.toNat [])) (268435456 : Int) = (0 : Int)) = true → roomP R1 (39 : Nat) (x_3.snd.snd.snd.snd.snd.length + [x_3.fst].length) ∧ isI64 (x.fst + (1 : Int)) ∧ I (x.fst + (1
  : Int), x_3.snd.snd.snd.fst, x_3.snd.snd.snd.snd.fst, x_3.snd.snd.snd.snd.snd ++ [x_3.fst]) ∧ μ (x.fst + (1 : Int), x_3.snd.snd.snd.fst, x_3.snd.snd.snd.snd.fst,
  x_3.snd.snd.snd.snd.snd ++ [x_3.fst]) < μ x) ∧ (decide (lowF x_3.fst (partS x_3.snd.snd.snd.snd.fst x_3.snd.snd.snd.fst x.fst.toNat (l.getD x_3.snd.fst.toNat [])) (268435456 :
  Int) = (0 : Int)) = false → ((0 : Int) ≤ x_3.snd.fst ∧ x_3.snd.fst < (↑l.length : Int)) ∧ (partP x_3.snd.snd.snd.snd.fst x_3.snd.snd.snd.fst x.fst (l.getD x_3.snd.fst.toNat []) ∧
  roomP R1 (3 : Nat) (partS x_3.snd.snd.snd.snd.fst x_3.snd.snd.snd.fst x.fst.toNat (l.getD x_3.snd.fst.toNat [])).length ∧ roomP R1 (22 : Nat) (x_3.fst.length + [partS
  x_3.snd.snd.snd.snd.fst x_3.snd.snd.snd.fst x.fst.toNat (l.getD x_3.snd.fst.toNat [])].length) ∧ I_2 (x_3.fst ++ [partS x_3.snd.snd.snd.snd.fst x_3.snd.snd.snd.fst x.fst.toNat
  (l.getD x_3.snd.fst.toNat [])], x_3.snd.snd.snd.fst, x_3.snd.snd.snd.snd.fst, x_3.snd.snd.snd.snd.snd) ∧ μ_2 (x_3.fst ++ [partS x_3.snd.snd.snd.snd.fst x_3.snd.snd.snd.fst
  x.fst.toNat (l.getD x_3.snd.fst.toNat [])], x_3.snd.snd.snd.fst, x_3.snd.snd.snd.snd.fst, x_3.snd.snd.snd.snd.snd) < μ_2 x_2) ∧ (partP x_3.snd.snd.snd.snd.fst x_3.snd.snd.snd.fst
  x.fst (l.getD x_3.snd.fst.toNat []) ∧ roomP R1 (3 : Nat) (partS x_3.snd.snd.snd.snd.fst x_3.snd.snd.snd.fst x.fst.toNat (l.getD x_3.snd.fst.toNat [])).length ∧ roomP R1 (22 :
  Nat) (x_3.fst.length + [partS x_3.snd.snd.snd.snd.fst x_3.snd.snd.snd.fst x.fst.toNat (l.getD x_3.snd.fst.toNat [])].length) ∧ I_2 (x_3.fst ++ [partS x_3.snd.snd.snd.snd.fst
  x_3.snd.snd.snd.fst x.fst.toNat (l.getD x_3.snd.fst.toNat [])], x_3.snd.snd.snd.fst, x_3.snd.snd.snd.snd.fst, x_3.snd.snd.snd.snd.snd) ∧ μ_2 (x_3.fst ++ [partS
  x_3.snd.snd.snd.snd.fst x_3.snd.snd.snd.fst x.fst.toNat (l.getD x_3.snd.fst.toNat [])], x_3.snd.snd.snd.fst, x_3.snd.snd.snd.snd.fst, x_3.snd.snd.snd.snd.snd) < μ_2 x_2) ∧ partP
  x_3.snd.snd.snd.snd.fst x_3.snd.snd.snd.fst x.fst (l.getD x_3.snd.fst.toNat []) ∧ roomP R1 (3 : Nat) (partS x_3.snd.snd.snd.snd.fst x_3.snd.snd.snd.fst x.fst.toNat (l.getD
  x_3.snd.fst.toNat [])).length ∧ roomP R1 (22 : Nat) (x_3.fst.length + [partS x_3.snd.snd.snd.snd.fst x_3.snd.snd.snd.fst x.fst.toNat (l.getD x_3.snd.fst.toNat [])].length) ∧ I_2
  (x_3.fst ++ [partS x_3.snd.snd.snd.snd.fst x_3.snd.snd.snd.fst x.fst.toNat (l.getD x_3.snd.fst.toNat [])], x_3.snd.snd.snd.fst, x_3.snd.snd.snd.snd.fst, x_3.snd.snd.snd.snd.snd)
  ∧ μ_2 (x_3.fst ++ [partS x_3.snd.snd.snd.snd.fst x_3.snd.snd.snd.fst x.fst.toNat (l.getD x_3.snd.fst.toNat [])], x_3.snd.snd.snd.fst, x_3.snd.snd.snd.snd.fst,
  x_3.snd.snd.snd.snd.snd) < μ_2 x_2))) ∧ (decide ((↑x_2.fst.length : Int) < w) = false → roomP R1 (39 : Nat) (x_2.snd.snd.snd.length + [x_2.fst].length) ∧ isI64 (x.fst + (1 :
  Int)) ∧ I (x.fst + (1 : Int), x_2.snd.fst, x_2.snd.snd.fst, x_2.snd.snd.snd ++ [x_2.fst]) ∧ μ (x.fst + (1 : Int), x_2.snd.fst, x_2.snd.snd.fst, x_2.snd.snd.snd ++ [x_2.fst]) < μ
  x)) ∧ (partP x_1.snd.snd.snd.snd.fst x_1.snd.snd.snd.fst x.fst (l.getD x_1.snd.fst.toNat []) ∧ roomP R1 (3 : Nat) (partS x_1.snd.snd.snd.snd.fst x_1.snd.snd.snd.fst x.fst.toNat
  (l.getD x_1.snd.fst.toNat [])).length ∧ roomP R1 (22 : Nat) ([partS x.snd.snd.fst x.snd.fst x.fst.toNat (l.getD (0 : Nat) [])].length + [partS x_1.snd.snd.snd.snd.fst
  x_1.snd.snd.snd.fst x.fst.toNat (l.getD x_1.snd.fst.toNat [])].length) ∧ ∃ (I_2 : List (List Int) × Int × List Int × List (List (List Int)) → Prop), ∃ (μ_2 : List (List Int) ×
  Int × List Int × List (List (List Int)) → Nat), I_2 ([partS x.snd.snd.fst x.snd.fst x.fst.toNat (l.getD (0 : Nat) [])] ++ [partS x_1.snd.snd.snd.snd.fst x_1.snd.snd.snd.fst
  x.fst.toNat (l.getD x_1.snd.fst.toNat [])], x_1.snd.snd.snd.fst, x_1.snd.snd.snd.snd.fst, x_1.snd.snd.snd.snd.snd) ∧ ∀ (x_2 : List (List Int) × Int × List Int × List (List (List
  Int))), I_2 x_2 → (decide ((↑x_2.fst.length : Int) < w) = true → ∃ (I_3 : List (List Int) × Int × Int × Int × List Int × List (List (List Int)) → Prop), ∃ (μ_3 : List (List Int)
  × Int × Int × Int × List Int × List (List (List Int)) → Nat), I_3 (x_2.fst, (0 : Int), (0 : Int), x_2.snd.fst, x_2.snd.snd.fst, x_2.snd.snd.snd) ∧ ∀ (x_3 : List (List Int) × Int
  × Int × Int × List Int × List (List (List Int))), I_3 x_3 → (decide (x_3.snd.snd.fst < (↑l.length : Int)) = true → ((0 : Int) ≤ x_3.snd.snd.fst ∧ x_3.snd.snd.fst < (↑l.length :
  Int)) ∧ partP x_3.snd.snd.snd.snd.fst x_3.snd.snd.snd.fst x.fst (l.getD x_3.snd.snd.fst.toNat []) ∧ (∀ (i : Nat), i < x_3.fst.length → alikeB (x_3.fst.getD i []) (partS
  x_3.snd.snd.snd.snd.fst x_3.snd.snd.snd.fst x.fst.toNat (l.getD x_3.snd.snd.fst.toNat [])) = true) ∧ ((0 : Int) ≤ x_3.snd.fst ∧ x_3.snd.fst < (↑l.length : Int)) ∧ partP
  x_3.snd.snd.snd.snd.fst x_3.snd.snd.snd.fst x.fst (l.getD x_3.snd.fst.toNat []) ∧ (∀ (i : Nat), i < x_3.fst.length → alikeB (x_3.fst.getD i []) (partS x_3.snd.snd.snd.snd.fst
  x_3.snd.snd.snd.fst x.fst.toNat (l.getD x_3.snd.fst.toNat [])) = true) ∧ (decide (lowF x_3.fst (partS x_3.snd.snd.snd.snd.fst x_3.snd.snd.snd.fst x.fst.toNat (l.getD
  x_3.snd.fst.toNat [])) (268435456 : Int) < lowF x_3.fst (partS x_3.snd.snd.snd.snd.fst x_3.snd.snd.snd.fst x.fst.toNat (l.getD x_3.snd.snd.fst.toNat [])) (268435456 : Int)) =
  true → isI64 (x_3.snd.snd.fst + (1 : Int)) ∧ I_3 (x_3.fst, x_3.snd.snd.fst, x_3.snd.snd.fst + (1 : Int), x_3.snd.snd.snd.fst, x_3.snd.snd.snd.snd.fst, x_3.snd.snd.snd.snd.snd) ∧
  μ_3 (x_3.fst, x_3.snd.snd.fst, x_3.snd.snd.fst + (1 : Int), x_3.snd.snd.snd.fst, x_3.snd.snd.snd.snd.fst, x_3.snd.snd.snd.snd.snd) < μ_3 x_3) ∧ (decide (lowF x_3.fst (partS
  x_3.snd.snd.snd.snd.fst x_3.snd.snd.snd.fst x.fst.toNat (l.getD x_3.snd.fst.toNat [])) (268435456 : Int) < lowF x_3.fst (partS x_3.snd.snd.snd.snd.fst x_3.snd.snd.snd.fst
  x.fst.toNat (l.getD x_3.snd.snd.fst.toNat [])) (268435456 : Int)) = false → isI64 (x_3.snd.snd.fst + (1 : Int)) ∧ I_3 (x_3.fst, x_3.snd.fst, x_3.snd.snd.fst + (1 : Int),
  x_3.snd.snd.snd.fst, x_3.snd.snd.snd.snd.fst, x_3.snd.snd.snd.snd.snd) ∧ μ_3 (x_3.fst, x_3.snd.fst, x_3.snd.snd.fst + (1 : Int), x_3.snd.snd.snd.fst, x_3.snd.snd.snd.snd.fst,
  x_3.snd.snd.snd.snd.snd) < μ_3 x_3)) ∧ (decide (x_3.snd.snd.fst < (↑l.length : Int)) = false → ((0 : Int) ≤ x_3.snd.fst ∧ x_3.snd.fst < (↑l.length : Int)) ∧ partP
  x_3.snd.snd.snd.snd.fst x_3.snd.snd.snd.fst x.fst (l.getD x_3.snd.fst.toNat []) ∧ (∀ (i : Nat), i < x_3.fst.length → alikeB (x_3.fst.getD i []) (partS x_3.snd.snd.snd.snd.fst
  x_3.snd.snd.snd.fst x.fst.toNat (l.getD x_3.snd.fst.toNat [])) = true) ∧ (decide (lowF x_3.fst (partS x_3.snd.snd.snd.snd.fst x_3.snd.snd.snd.fst x.fst.toNat (l.getD
  x_3.snd.fst.toNat [])) (268435456 : Int) = (0 : Int)) = true → roomP R1 (39 : Nat) (x_3.snd.snd.snd.snd.snd.length + [x_3.fst].length) ∧ isI64 (x.fst + (1 : Int)) ∧ I (x.fst + (1
  : Int), x_3.snd.snd.snd.fst, x_3.snd.snd.snd.snd.fst, x_3.snd.snd.snd.snd.snd ++ [x_3.fst]) ∧ μ (x.fst + (1 : Int), x_3.snd.snd.snd.fst, x_3.snd.snd.snd.snd.fst,
  x_3.snd.snd.snd.snd.snd ++ [x_3.fst]) < μ x) ∧ (decide (lowF x_3.fst (partS x_3.snd.snd.snd.snd.fst x_3.snd.snd.snd.fst x.fst.toNat (l.getD x_3.snd.fst.toNat [])) (268435456 :
  Int) = (0 : Int)) = false → ((0 : Int) ≤ x_3.snd.fst ∧ x_3.snd.fst < (↑l.length : Int)) ∧ (partP x_3.snd.snd.snd.snd.fst x_3.snd.snd.snd.fst x.fst (l.getD x_3.snd.fst.toNat []) ∧
  roomP R1 (3 : Nat) (partS x_3.snd.snd.snd.snd.fst x_3.snd.snd.snd.fst x.fst.toNat (l.getD x_3.snd.fst.toNat [])).length ∧ roomP R1 (22 : Nat) (x_3.fst.length + [partS
  x_3.snd.snd.snd.snd.fst x_3.snd.snd.snd.fst x.fst.toNat (l.getD x_3.snd.fst.toNat [])].length) ∧ I_2 (x_3.fst ++ [partS x_3.snd.snd.snd.snd.fst x_3.snd.snd.snd.fst x.fst.toNat
  (l.getD x_3.snd.fst.toNat [])], x_3.snd.snd.snd.fst, x_3.snd.snd.snd.snd.fst, x_3.snd.snd.snd.snd.snd) ∧ μ_2 (x_3.fst ++ [partS x_3.snd.snd.snd.snd.fst x_3.snd.snd.snd.fst
  x.fst.toNat (l.getD x_3.snd.fst.toNat [])], x_3.snd.snd.snd.fst, x_3.snd.snd.snd.snd.fst, x_3.snd.snd.snd.snd.snd) < μ_2 x_2) ∧ (partP x_3.snd.snd.snd.snd.fst x_3.snd.snd.snd.fst
  x.fst (l.getD x_3.snd.fst.toNat []) ∧ roomP R1 (3 : Nat) (partS x_3.snd.snd.snd.snd.fst x_3.snd.snd.snd.fst x.fst.toNat (l.getD x_3.snd.fst.toNat [])).length ∧ roomP R1 (22 :
  Nat) (x_3.fst.length + [partS x_3.snd.snd.snd.snd.fst x_3.snd.snd.snd.fst x.fst.toNat (l.getD x_3.snd.fst.toNat [])].length) ∧ I_2 (x_3.fst ++ [partS x_3.snd.snd.snd.snd.fst
  x_3.snd.snd.snd.fst x.fst.toNat (l.getD x_3.snd.fst.toNat [])], x_3.snd.snd.snd.fst, x_3.snd.snd.snd.snd.fst, x_3.snd.snd.snd.snd.snd) ∧ μ_2 (x_3.fst ++ [partS
  x_3.snd.snd.snd.snd.fst x_3.snd.snd.snd.fst x.fst.toNat (l.getD x_3.snd.fst.toNat [])], x_3.snd.snd.snd.fst, x_3.snd.snd.snd.snd.fst, x_3.snd.snd.snd.snd.snd) < μ_2 x_2) ∧ partP
  x_3.snd.snd.snd.snd.fst x_3.snd.snd.snd.fst x.fst (l.getD x_3.snd.fst.toNat []) ∧ roomP R1 (3 : Nat) (partS x_3.snd.snd.snd.snd.fst x_3.snd.snd.snd.fst x.fst.toNat (l.getD
  x_3.snd.fst.toNat [])).length ∧ roomP R1 (22 : Nat) (x_3.fst.length + [partS x_3.snd.snd.snd.snd.fst x_3.snd.snd.snd.fst x.fst.toNat (l.getD x_3.snd.fst.toNat [])].length) ∧ I_2
  (x_3.fst ++ [partS x_3.snd.snd.snd.snd.fst x_3.snd.snd.snd.fst x.fst.toNat (l.getD x_3.snd.fst.toNat [])], x_3.snd.snd.snd.fst, x_3.snd.snd.snd.snd.fst, x_3.snd.snd.snd.snd.snd)
  ∧ μ_2 (x_3.fst ++ [partS x_3.snd.snd.snd.snd.fst x_3.snd.snd.snd.fst x.fst.toNat (l.getD x_3.snd.fst.toNat [])], x_3.snd.snd.snd.fst, x_3.snd.snd.snd.snd.fst,
  x_3.snd.snd.snd.snd.snd) < μ_2 x_2))) ∧ (decide ((↑x_2.fst.length : Int) < w) = false → roomP R1 (39 : Nat) (x_2.snd.snd.snd.length + [x_2.fst].length) ∧ isI64 (x.fst + (1 :
  Int)) ∧ I (x.fst + (1 : Int), x_2.snd.fst, x_2.snd.snd.fst, x_2.snd.snd.snd ++ [x_2.fst]) ∧ μ (x.fst + (1 : Int), x_2.snd.fst, x_2.snd.snd.fst, x_2.snd.snd.snd ++ [x_2.fst]) < μ
  x)) ∧ partP x_1.snd.snd.snd.snd.fst x_1.snd.snd.snd.fst x.fst (l.getD x_1.snd.fst.toNat []) ∧ roomP R1 (3 : Nat) (partS x_1.snd.snd.snd.snd.fst x_1.snd.snd.snd.fst x.fst.toNat
  (l.getD x_1.snd.fst.toNat [])).length ∧ roomP R1 (22 : Nat) ([partS x.snd.snd.fst x.snd.fst x.fst.toNat (l.getD (0 : Nat) [])].length + [partS x_1.snd.snd.snd.snd.fst
  x_1.snd.snd.snd.fst x.fst.toNat (l.getD x_1.snd.fst.toNat [])].length) ∧ ∃ (I_2 : List (List Int) × Int × List Int × List (List (List Int)) → Prop), ∃ (μ_2 : List (List Int) ×
  Int × List Int × List (List (List Int)) → Nat), I_2 ([partS x.snd.snd.fst x.snd.fst x.fst.toNat (l.getD (0 : Nat) [])] ++ [partS x_1.snd.snd.snd.snd.fst x_1.snd.snd.snd.fst
  x.fst.toNat (l.getD x_1.snd.fst.toNat [])], x_1.snd.snd.snd.fst, x_1.snd.snd.snd.snd.fst, x_1.snd.snd.snd.snd.snd) ∧ ∀ (x_2 : List (List Int) × Int × List Int × List (List (List
  Int))), I_2 x_2 → (decide ((↑x_2.fst.length : Int) < w) = true → ∃ (I_3 : List (List Int) × Int × Int × Int × List Int × List (List (List Int)) → Prop), ∃ (μ_3 : List (List Int)
  × Int × Int × Int × List Int × List (List (List Int)) → Nat), I_3 (x_2.fst, (0 : Int), (0 : Int), x_2.snd.fst, x_2.snd.snd.fst, x_2.snd.snd.snd) ∧ ∀ (x_3 : List (List Int) × Int
  × Int × Int × List Int × List (List (List Int))), I_3 x_3 → (decide (x_3.snd.snd.fst < (↑l.length : Int)) = true → ((0 : Int) ≤ x_3.snd.snd.fst ∧ x_3.snd.snd.fst < (↑l.length :
  Int)) ∧ partP x_3.snd.snd.snd.snd.fst x_3.snd.snd.snd.fst x.fst (l.getD x_3.snd.snd.fst.toNat []) ∧ (∀ (i : Nat), i < x_3.fst.length → alikeB (x_3.fst.getD i []) (partS
  x_3.snd.snd.snd.snd.fst x_3.snd.snd.snd.fst x.fst.toNat (l.getD x_3.snd.snd.fst.toNat [])) = true) ∧ ((0 : Int) ≤ x_3.snd.fst ∧ x_3.snd.fst < (↑l.length : Int)) ∧ partP
  x_3.snd.snd.snd.snd.fst x_3.snd.snd.snd.fst x.fst (l.getD x_3.snd.fst.toNat []) ∧ (∀ (i : Nat), i < x_3.fst.length → alikeB (x_3.fst.getD i []) (partS x_3.snd.snd.snd.snd.fst
  x_3.snd.snd.snd.fst x.fst.toNat (l.getD x_3.snd.fst.toNat [])) = true) ∧ (decide (lowF x_3.fst (partS x_3.snd.snd.snd.snd.fst x_3.snd.snd.snd.fst x.fst.toNat (l.getD
  x_3.snd.fst.toNat [])) (268435456 : Int) < lowF x_3.fst (partS x_3.snd.snd.snd.snd.fst x_3.snd.snd.snd.fst x.fst.toNat (l.getD x_3.snd.snd.fst.toNat [])) (268435456 : Int)) =
  true → isI64 (x_3.snd.snd.fst + (1 : Int)) ∧ I_3 (x_3.fst, x_3.snd.snd.fst, x_3.snd.snd.fst + (1 : Int), x_3.snd.snd.snd.fst, x_3.snd.snd.snd.snd.fst, x_3.snd.snd.snd.snd.snd) ∧
  μ_3 (x_3.fst, x_3.snd.snd.fst, x_3.snd.snd.fst + (1 : Int), x_3.snd.snd.snd.fst, x_3.snd.snd.snd.snd.fst, x_3.snd.snd.snd.snd.snd) < μ_3 x_3) ∧ (decide (lowF x_3.fst (partS
  x_3.snd.snd.snd.snd.fst x_3.snd.snd.snd.fst x.fst.toNat (l.getD x_3.snd.fst.toNat [])) (268435456 : Int) < lowF x_3.fst (partS x_3.snd.snd.snd.snd.fst x_3.snd.snd.snd.fst
  x.fst.toNat (l.getD x_3.snd.snd.fst.toNat [])) (268435456 : Int)) = false → isI64 (x_3.snd.snd.fst + (1 : Int)) ∧ I_3 (x_3.fst, x_3.snd.fst, x_3.snd.snd.fst + (1 : Int),
  x_3.snd.snd.snd.fst, x_3.snd.snd.snd.snd.fst, x_3.snd.snd.snd.snd.snd) ∧ μ_3 (x_3.fst, x_3.snd.fst, x_3.snd.snd.fst + (1 : Int), x_3.snd.snd.snd.fst, x_3.snd.snd.snd.snd.fst,
  x_3.snd.snd.snd.snd.snd) < μ_3 x_3)) ∧ (decide (x_3.snd.snd.fst < (↑l.length : Int)) = false → ((0 : Int) ≤ x_3.snd.fst ∧ x_3.snd.fst < (↑l.length : Int)) ∧ partP
  x_3.snd.snd.snd.snd.fst x_3.snd.snd.snd.fst x.fst (l.getD x_3.snd.fst.toNat []) ∧ (∀ (i : Nat), i < x_3.fst.length → alikeB (x_3.fst.getD i []) (partS x_3.snd.snd.snd.snd.fst
  x_3.snd.snd.snd.fst x.fst.toNat (l.getD x_3.snd.fst.toNat [])) = true) ∧ (decide (lowF x_3.fst (partS x_3.snd.snd.snd.snd.fst x_3.snd.snd.snd.fst x.fst.toNat (l.getD
  x_3.snd.fst.toNat [])) (268435456 : Int) = (0 : Int)) = true → roomP R1 (39 : Nat) (x_3.snd.snd.snd.snd.snd.length + [x_3.fst].length) ∧ isI64 (x.fst + (1 : Int)) ∧ I (x.fst + (1
  : Int), x_3.snd.snd.snd.fst, x_3.snd.snd.snd.snd.fst, x_3.snd.snd.snd.snd.snd ++ [x_3.fst]) ∧ μ (x.fst + (1 : Int), x_3.snd.snd.snd.fst, x_3.snd.snd.snd.snd.fst,
  x_3.snd.snd.snd.snd.snd ++ [x_3.fst]) < μ x) ∧ (decide (lowF x_3.fst (partS x_3.snd.snd.snd.snd.fst x_3.snd.snd.snd.fst x.fst.toNat (l.getD x_3.snd.fst.toNat [])) (268435456 :
  Int) = (0 : Int)) = false → ((0 : Int) ≤ x_3.snd.fst ∧ x_3.snd.fst < (↑l.length : Int)) ∧ (partP x_3.snd.snd.snd.snd.fst x_3.snd.snd.snd.fst x.fst (l.getD x_3.snd.fst.toNat []) ∧
  roomP R1 (3 : Nat) (partS x_3.snd.snd.snd.snd.fst x_3.snd.snd.snd.fst x.fst.toNat (l.getD x_3.snd.fst.toNat [])).length ∧ roomP R1 (22 : Nat) (x_3.fst.length + [partS
  x_3.snd.snd.snd.snd.fst x_3.snd.snd.snd.fst x.fst.toNat (l.getD x_3.snd.fst.toNat [])].length) ∧ I_2 (x_3.fst ++ [partS x_3.snd.snd.snd.snd.fst x_3.snd.snd.snd.fst x.fst.toNat
  (l.getD x_3.snd.fst.toNat [])], x_3.snd.snd.snd.fst, x_3.snd.snd.snd.snd.fst, x_3.snd.snd.snd.snd.snd) ∧ μ_2 (x_3.fst ++ [partS x_3.snd.snd.snd.snd.fst x_3.snd.snd.snd.fst
  x.fst.toNat (l.getD x_3.snd.fst.toNat [])], x_3.snd.snd.snd.fst, x_3.snd.snd.snd.snd.fst, x_3.snd.snd.snd.snd.snd) < μ_2 x_2) ∧ (partP x_3.snd.snd.snd.snd.fst x_3.snd.snd.snd.fst
  x.fst (l.getD x_3.snd.fst.toNat []) ∧ roomP R1 (3 : Nat) (partS x_3.snd.snd.snd.snd.fst x_3.snd.snd.snd.fst x.fst.toNat (l.getD x_3.snd.fst.toNat [])).length ∧ roomP R1 (22 :
  Nat) (x_3.fst.length + [partS x_3.snd.snd.snd.snd.fst x_3.snd.snd.snd.fst x.fst.toNat (l.getD x_3.snd.fst.toNat [])].length) ∧ I_2 (x_3.fst ++ [partS x_3.snd.snd.snd.snd.fst
  x_3.snd.snd.snd.fst x.fst.toNat (l.getD x_3.snd.fst.toNat [])], x_3.snd.snd.snd.fst, x_3.snd.snd.snd.snd.fst, x_3.snd.snd.snd.snd.snd) ∧ μ_2 (x_3.fst ++ [partS
  x_3.snd.snd.snd.snd.fst x_3.snd.snd.snd.fst x.fst.toNat (l.getD x_3.snd.fst.toNat [])], x_3.snd.snd.snd.fst, x_3.snd.snd.snd.snd.fst, x_3.snd.snd.snd.snd.snd) < μ_2 x_2) ∧ partP
  x_3.snd.snd.snd.snd.fst x_3.snd.snd.snd.fst x.fst (l.getD x_3.snd.fst.toNat []) ∧ roomP R1 (3 : Nat) (partS x_3.snd.snd.snd.snd.fst x_3.snd.snd.snd.fst x.fst.toNat (l.getD
  x_3.snd.fst.toNat [])).length ∧ roomP R1 (22 : Nat) (x_3.fst.length + [partS x_3.snd.snd.snd.snd.fst x_3.snd.snd.snd.fst x.fst.toNat (l.getD x_3.snd.fst.toNat [])].length) ∧ I_2
  (x_3.fst ++ [partS x_3.snd.snd.snd.snd.fst x_3.snd.snd.snd.fst x.fst.toNat (l.getD x_3.snd.fst.toNat [])], x_3.snd.snd.snd.fst, x_3.snd.snd.snd.snd.fst, x_3.snd.snd.snd.snd.snd)
  ∧ μ_2 (x_3.fst ++ [partS x_3.snd.snd.snd.snd.fst x_3.snd.snd.snd.fst x.fst.toNat (l.getD x_3.snd.fst.toNat [])], x_3.snd.snd.snd.fst, x_3.snd.snd.snd.snd.fst,
  x_3.snd.snd.snd.snd.snd) < μ_2 x_2))) ∧ (decide ((↑x_2.fst.length : Int) < w) = false → roomP R1 (39 : Nat) (x_2.snd.snd.snd.length + [x_2.fst].length) ∧ isI64 (x.fst + (1 :
  Int)) ∧ I (x.fst + (1 : Int), x_2.snd.fst, x_2.snd.snd.fst, x_2.snd.snd.snd ++ [x_2.fst]) ∧ μ (x.fst + (1 : Int), x_2.snd.fst, x_2.snd.snd.fst, x_2.snd.snd.snd ++ [x_2.fst]) < μ
  x)))) ∧ (decide ((↑[partS x.snd.snd.fst x.snd.fst x.fst.toNat (l.getD (0 : Nat) [])].length : Int) < w) = false → roomP R1 (39 : Nat) (x.snd.snd.snd.length + [[partS
  x.snd.snd.fst x.snd.fst x.fst.toNat (l.getD (0 : Nat) [])]].length) ∧ isI64 (x.fst + (1 : Int)) ∧ I (x.fst + (1 : Int), x.snd.fst, x.snd.snd.fst, x.snd.snd.snd ++ [[partS
  x.snd.snd.fst x.snd.fst x.fst.toNat (l.getD (0 : Nat) [])]]) ∧ μ (x.fst + (1 : Int), x.snd.fst, x.snd.snd.fst, x.snd.snd.snd ++ [[partS x.snd.snd.fst x.snd.fst x.fst.toNat
  (l.getD (0 : Nat) [])]]) < μ x)) ∧ (decide (x.fst < (↑c.length : Int)) = false → ((x.snd.fst, x.snd.snd.fst, x.snd.snd.snd, ()), (0 : Int), ()) = ((trainBk l c w).fst, (trainBk l
  c w).snd, ()))))))))) := by kernel_rfl
end Go.Proofs.Ytjppchomonpfgaa
