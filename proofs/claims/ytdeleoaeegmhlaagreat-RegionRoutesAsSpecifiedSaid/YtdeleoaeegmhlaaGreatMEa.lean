import Derived.Test.YtdeleoaeegmhlaaGreatMRa
import Derived.Test.YtdeleoaeegmhlaaGreatMYs
namespace Go.PL
open Go.AM
set_option linter.unusedVariables false
/-! ### The specification's functions, plain -/
def sgnS (x y : Int) : Int := if x < y then -1 else if y < x then 1 else 0
def lexS : List Int → List Int → Int
  | [], [] => 0
  | [], _ :: _ => -1
  | _ :: _, [] => 1
  | x :: a, y :: b => if x < y then -1 else if y < x then 1 else lexS a b
def cmpS (a b : List Int) : Int := if a.length < b.length then -1 else if b.length < a.length then 1 else lexS a b
def areasL (n : Nat) (x : Sp) (b : Box) : List Ar := (regsN n x b).map areaOf
def areas1 (n : Nat) (x : Sp) (b : Box) : List Ar := areasL (n + 1) x b
def preR (n : Nat) (d : Dv) : Prop := preA n d ∧ validT n d.2.2.1 (wholeB d.1)
def preRM (n : Nat) (a b : Dv) : Prop := preM n a b ∧ preR n a ∧ preR n b
def kN (l : List Ar) (m : Int) (v : List Int) (i : Nat) : Int := (nearS m (l.getD i dAr).1 v).1
def smallK (l : List Ar) (m : Int) (v : List Int) : Prop := ∀ i : Nat, i < l.length → (nearS m (l.getD i dAr).1 v).2 = 0
end Go.PL
namespace Go.Proofs.YtdeleoaeegmhlaaGreat
open Go.AM Go.PL
set_option linter.unusedVariables false
def cmpSp : FSpec := ⟨[L, L], [I], fun _ => True, fun x => cmpS x.1 x.2⟩
def same4Sp : FSpec := ⟨[L, L], [.bool], fun _ => True, fun x => decide ((x.1 : List Int) = x.2)⟩
def areasG (n : Nat) : GSpec := ⟨[ST, BX], 55, AR, fun x => validT n x.1 x.2 ∧ evenB x.2 ∧ (regsN n x.1 x.2).length ≤ 1000, fun x => areasL n x.1 x.2⟩
def areas1G (n : Nat) : GSpec := ⟨[ST, BX], 55, AR, fun x => validT (n + 1) x.1 x.2 ∧ evenB x.2 ∧ (regsN (n + 1) x.1 x.2).length ≤ 1000, fun x => areas1 n x.1 x.2⟩
def rAreasSp (n : Nat) : FSpec := ⟨[DV], [.arr AR], fun d => preR n d, fun d => areasN n d⟩
def rHomeSp (n : Nat) : FSpec := ⟨[DV, L], [I], fun x => preR n x.1, fun x => homeN n x.1 x.2⟩
def rRouteSp (n : Nat) : FSpec := ⟨[DV, I, L, I], [L], fun x => preR n x.1 ∧ smallK (areasN n x.1) x.2.1 x.2.2.1, fun x => routeN n x.1 x.2.1 x.2.2.1 x.2.2.2⟩
def rHasSp : FSpec := ⟨[L, I], [.bool], fun _ => True, fun x => inL x.1 x.2⟩
def rMovesSp (n : Nat) : FSpec := ⟨[DV, DV], [.arr MV], fun x => preRM n x.1 x.2, fun x => movesN n x.1 x.2⟩
def sameMSp : FSpec := ⟨[.arr MV, .arr MV], [.bool], fun _ => True, fun x => decide ((x.1 : List Mv) = x.2)⟩
def loopsE (f : FuncId) (r : Nat) : List LA :=
  if Nat.beq f 29 then [.slot 5 I] else
  if Nat.beq f 41 then [.slot 5 I] else
  if Nat.beq f 10 then [.slot 6 I] else
  if Nat.beq f 14 then [.slot 5 I] else
  if Nat.beq f 13 then (if Nat.beq r 5 then [.gslot 10 3 I, .gslot 11 3 I, .slot 12 I] else [.gslot 10 3 I, .gslot 11 3 I, .slot 14 I]) else
  if Nat.beq f 16 then
    (if Nat.beq r 5 then [.gslot 5 52 MV, .slot 8 I] else
     if Nat.beq r 8 then [.gslot 5 52 MV, .slot 9 I] else
     [.gslot 5 52 MV, .cell 12 0 L, .cell 12 1 L, .cell 12 2 .bool, .slot 11 I]) else
  []
def hintE1 (f : FuncId) : Hint := ⟨loopsE f, fun r => .split, fun t => .split, fun r => 0⟩
def hintE2 (f : FuncId) : Hint := if Nat.beq f 999999996 then ⟨fun _ => [], fun _ => .split, fun _ => .split, fun _ => 1⟩ else hintE1 f
noncomputable def Q0 : Ctx := mkctx bs [] [] hintE1
noncomputable def QA (n : Nat) : Ctx := mkctx bs [(44, lowSp), (45, highSp)] [(55, areasG n)] hintE2
noncomputable def QB (n : Nat) : Ctx := mkctx bs [(55, (areasG n).data), (19, wholeSp), (29, cmpSp), (65, same6Sp), (37, sameBSp)] [] hintE1
noncomputable def QC (n : Nat) : Ctx := mkctx bs [(27, rAreasSp n), (28, bhasSp), (35, rNearSp), (40, rMeetSp), (41, rHasSp)] [] hintE1
noncomputable def QS : Ctx := mkctx bs [(36, same6Sp), (37, sameBSp)] [] hintE1
theorem rCmp_nf (a b : List Int) : fnwp Q0 6 29 cmpSp (a, b) = ((decide ((↑a.length : Int) < (↑b.length : Int)) = true → (-1 : Int) = cmpS a b) ∧ (decide ((↑a.length : Int) <
  (↑b.length : Int)) = false → (decide ((↑b.length : Int) < (↑a.length : Int)) = true → (1 : Int) = cmpS a b) ∧ (decide ((↑b.length : Int) < (↑a.length : Int)) = false → ∃ (I : Int
  → Prop), ∃ (μ : Int → Nat), I (0 : Int) ∧ ∀ (x : Int), I x → (decide (x < (↑a.length : Int)) = true → ((0 : Int) ≤ x ∧ x < (↑a.length : Int)) ∧ ((0 : Int) ≤ x ∧ x < (↑b.length :
  Int)) ∧ (decide (a.getD x.toNat (0 : Int) < b.getD x.toNat (0 : Int)) = true → (-1 : Int) = cmpS a b) ∧ (decide (a.getD x.toNat (0 : Int) < b.getD x.toNat (0 : Int)) = false →
  ((0 : Int) ≤ x ∧ x < (↑a.length : Int)) ∧ ((0 : Int) ≤ x ∧ x < (↑b.length : Int)) ∧ (decide (b.getD x.toNat (0 : Int) < a.getD x.toNat (0 : Int)) = true → (1 : Int) = cmpS a b) ∧
  (decide (b.getD x.toNat (0 : Int) < a.getD x.toNat (0 : Int)) = false → isI64 (x + (1 : Int)) ∧ I (x + (1 : Int)) ∧ μ (x + (1 : Int)) < μ x))) ∧ (decide (x < (↑a.length : Int)) =
  false → (0 : Int) = cmpS a b)))) := by kernel_rfl
theorem rMet_nf (m : Int) : fnwp Q0 6 7 isMSp m = ((decide ((1 : Int) ≤ m) = true → decide (m ≤ (3 : Int)) = isM m) ∧ (decide ((1 : Int) ≤ m) = false → false = isM m)) := by
  kernel_rfl
theorem rInL_nf (l : List Int) (n : Int) : fnwp Q0 6 41 rHasSp (l, n) = (∃ (I : Int → Prop), ∃ (μ : Int → Nat), I (0 : Int) ∧ ∀ (x : Int), I x → (decide (x < (↑l.length : Int)) =
  true → ((0 : Int) ≤ x ∧ x < (↑l.length : Int)) ∧ (decide (l.getD x.toNat (0 : Int) = n) = true → true = inL l n) ∧ (decide (l.getD x.toNat (0 : Int) = n) = false → isI64 (x + (1
  : Int)) ∧ I (x + (1 : Int)) ∧ μ (x + (1 : Int)) < μ x)) ∧ (decide (x < (↑l.length : Int)) = false → false = inL l n)) := by kernel_rfl
theorem rSam_nf (a b : List Int) : fnwp (QB 0) 6 11 same4Sp (a, b) = (True ∧ decide (cmpS a b = (0 : Int)) = decide (a = b)) := by kernel_rfl
theorem rSame43_nf (a b : List Int) : fnwp (QB 0) 6 36 same6Sp (a, b) = (True ∧ decide (a = b) = decide (a = b)) := by kernel_rfl
theorem rSameM_nf (a b : List Mv) : fnwp QS 6 14 sameMSp (a, b) = (((!decide ((↑a.length : Int) = (↑b.length : Int))) = true → false = decide (a = b)) ∧ ((!decide ((↑a.length :
  Int) = (↑b.length : Int))) = false → ∃ (I : Int → Prop), ∃ (μ : Int → Nat), I (0 : Int) ∧ ∀ (x : Int), I x → (decide (x < (↑a.length : Int)) = true → ((0 : Int) ≤ x ∧ x <
  (↑a.length : Int)) ∧ ((0 : Int) ≤ x ∧ x < (↑b.length : Int)) ∧ ((!decide ((a.getD x.toNat (([], [], ()), [], (0 : Int), ())).snd.snd.fst = (b.getD x.toNat (([], [], ()), [], (0 :
  Int), ())).snd.snd.fst)) = true → false = decide (a = b)) ∧ ((!decide ((a.getD x.toNat (([], [], ()), [], (0 : Int), ())).snd.snd.fst = (b.getD x.toNat (([], [], ()), [], (0 :
  Int), ())).snd.snd.fst)) = false → ((0 : Int) ≤ x ∧ x < (↑a.length : Int)) ∧ ((0 : Int) ≤ x ∧ x < (↑b.length : Int)) ∧ True ∧ ((!decide ((a.getD x.toNat (([], [], ()), [], (0 :
  Int), ())).snd.fst = (b.getD x.toNat (([], [], ()), [], (0 : Int), ())).snd.fst)) = true → false = decide (a = b)) ∧ ((!decide ((a.getD x.toNat (([], [], ()), [], (0 : Int),
  ())).snd.fst = (b.getD x.toNat (([], [], ()), [], (0 : Int), ())).snd.fst)) = false → ((0 : Int) ≤ x ∧ x < (↑a.length : Int)) ∧ ((0 : Int) ≤ x ∧ x < (↑b.length : Int)) ∧ True ∧
  ((!decide ((a.getD x.toNat (([], [], ()), [], (0 : Int), ())).fst = (b.getD x.toNat (([], [], ()), [], (0 : Int), ())).fst)) = true → false = decide (a = b)) ∧ ((!decide ((a.getD
  x.toNat (([], [], ()), [], (0 : Int), ())).fst = (b.getD x.toNat (([], [], ()), [], (0 : Int), ())).fst)) = false → isI64 (x + (1 : Int)) ∧ I (x + (1 : Int)) ∧ μ (x + (1 : Int))
  < μ x)))) ∧ (decide (x < (↑a.length : Int)) = false → true = decide (a = b)))) := by kernel_rfl
theorem rAreas1_nf (n : Nat) (x : Sp) (b : Box) : fnwpG (QA n) 6 55 (areas1G n) (x, b) = ((decide ((↑(Rose.subs x).length : Int) = (0 : Int)) = true → [((b.fst, b.snd.fst, ()),
  (Rose.val x).snd.fst, ())] = areas1 n x b) ∧ (decide ((↑(Rose.subs x).length : Int) = (0 : Int)) = false → ((0 : Int) ≤ (0 : Int) ∧ (0 : Int) < (↑(Rose.subs x).length : Int)) ∧
  (evenB b ∧ cutsB b (Rose.val x).fst.fst (Rose.val x).fst.snd.fst = true) ∧ (validT n ((Rose.subs x).getD (0 : Nat) (Rose.node (((0 : Int), (0 : Int), ()), [], ()) [])) (lowB b
  (Rose.val x).fst.fst (Rose.val x).fst.snd.fst) ∧ evenB (lowB b (Rose.val x).fst.fst (Rose.val x).fst.snd.fst) ∧ (regsN n ((Rose.subs x).getD (0 : Nat) (Rose.node (((0 : Int), (0
  : Int), ()), [], ()) [])) (lowB b (Rose.val x).fst.fst (Rose.val x).fst.snd.fst)).length ≤ (1000 : Nat)) ∧ ((0 : Int) ≤ (1 : Int) ∧ (1 : Int) < (↑(Rose.subs x).length : Int)) ∧
  (evenB b ∧ cutsB b (Rose.val x).fst.fst (Rose.val x).fst.snd.fst = true) ∧ (validT n ((Rose.subs x).getD (1 : Nat) (Rose.node (((0 : Int), (0 : Int), ()), [], ()) [])) (highB b
  (Rose.val x).fst.fst (Rose.val x).fst.snd.fst) ∧ evenB (highB b (Rose.val x).fst.fst (Rose.val x).fst.snd.fst) ∧ (regsN n ((Rose.subs x).getD (1 : Nat) (Rose.node (((0 : Int), (0
  : Int), ()), [], ()) [])) (highB b (Rose.val x).fst.fst (Rose.val x).fst.snd.fst)).length ≤ (1000 : Nat)) ∧ roomP (QA n) (55 : Nat) ((areasL n ((Rose.subs x).getD (0 : Nat)
  (Rose.node (((0 : Int), (0 : Int), ()), [], ()) [])) (lowB b (Rose.val x).fst.fst (Rose.val x).fst.snd.fst)).length + (areasL n ((Rose.subs x).getD (1 : Nat) (Rose.node (((0 :
  Int), (0 : Int), ()), [], ()) [])) (highB b (Rose.val x).fst.fst (Rose.val x).fst.snd.fst)).length) ∧ areasL n ((Rose.subs x).getD (0 : Nat) (Rose.node (((0 : Int), (0 : Int),
  ()), [], ()) [])) (lowB b (Rose.val x).fst.fst (Rose.val x).fst.snd.fst) ++ areasL n ((Rose.subs x).getD (1 : Nat) (Rose.node (((0 : Int), (0 : Int), ()), [], ()) [])) (highB b
  (Rose.val x).fst.fst (Rose.val x).fst.snd.fst) = areas1 n x b)) := by kernel_rfl
theorem rAreas_nf (n : Nat) (d : Dv) : fnwp (QB n) 6 27 (rAreasSp n) d = (((1 : Int) ≤ d.fst ∧ d.fst ≤ (1000 : Int)) ∧ (validT n d.snd.snd.fst (wholeB d.fst) ∧ evenB (wholeB d.fst)
  ∧ (regsN n d.snd.snd.fst (wholeB d.fst)).length ≤ (1000 : Nat)) ∧ areasL n d.snd.snd.fst (wholeB d.fst) = areasN n d) := by kernel_rfl
theorem rHome_nf (n : Nat) (d : Dv) (v : List Int) : fnwp (QC n) 6 10 (rHomeSp n) (d, v) = (preR n d ∧ ∃ (I : Int → Prop), ∃ (μ : Int → Nat), I (0 : Int) ∧ ∀ (x : Int), I x →
  (decide (x < (↑(areasN n d).length : Int)) = true → ((0 : Int) ≤ x ∧ x < (↑(areasN n d).length : Int)) ∧ True ∧ (bhas ((areasN n d).getD x.toNat (([], [], ()), [], ())).fst v =
  true → x = homeN n d v) ∧ (bhas ((areasN n d).getD x.toNat (([], [], ()), [], ())).fst v = false → isI64 (x + (1 : Int)) ∧ I (x + (1 : Int)) ∧ μ (x + (1 : Int)) < μ x)) ∧ (decide
  (x < (↑(areasN n d).length : Int)) = false → (-1 : Int) = homeN n d v)) := by kernel_rfl
theorem rRoute_nf (n : Nat) (d : Dv) (m : Int) (v : List Int) (w : Int) : fnwp (QC n) 6 13 (rRouteSp n) (d, m, v, w) = (preR n d ∧ ∃ (I : List Int × List Int × Int → Prop), ∃ (μ :
  List Int × List Int × Int → Nat), I ([], [], (0 : Int)) ∧ ∀ (x : List Int × List Int × Int), I x → (decide (x.snd.snd < (↑(areasN n d).length : Int)) = true → ((0 : Int) ≤
  x.snd.snd ∧ x.snd.snd < (↑(areasN n d).length : Int)) ∧ True ∧ (decide (w < (nearS m ((areasN n d).getD x.snd.snd.toNat (([], [], ()), [], ())).fst v).fst) = true → isI64
  (x.snd.snd + (1 : Int)) ∧ I (x.fst, x.snd.fst, x.snd.snd + (1 : Int)) ∧ μ (x.fst, x.snd.fst, x.snd.snd + (1 : Int)) < μ x) ∧ (decide (w < (nearS m ((areasN n d).getD
  x.snd.snd.toNat (([], [], ()), [], ())).fst v).fst) = false → roomP (QC n) (3 : Nat) (x.fst.length + [x.snd.snd].length) ∧ roomP (QC n) (3 : Nat) (x.snd.fst.length + [(nearS m
  ((areasN n d).getD x.snd.snd.toNat (([], [], ()), [], ())).fst v).fst].length) ∧ ∃ (I_1 : List Int × List Int × Int → Prop), ∃ (μ_1 : List Int × List Int × Int → Nat), I_1 (x.fst
  ++ [x.snd.snd], x.snd.fst ++ [(nearS m ((areasN n d).getD x.snd.snd.toNat (([], [], ()), [], ())).fst v).fst], (↑x.fst.length : Int)) ∧ ∀ (x_1 : List Int × List Int × Int), I_1
  x_1 → (decide ((0 : Int) < x_1.snd.snd) = true → isI64 (x_1.snd.snd - (1 : Int)) ∧ ((0 : Int) ≤ x_1.snd.snd - (1 : Int) ∧ x_1.snd.snd - (1 : Int) < (↑x_1.snd.fst.length : Int)) ∧
  (decide ((nearS m ((areasN n d).getD x.snd.snd.toNat (([], [], ()), [], ())).fst v).fst < x_1.snd.fst.getD (x_1.snd.snd - (1 : Int)).toNat (0 : Int)) = true → isI64 (x_1.snd.snd
  - (1 : Int)) ∧ ((0 : Int) ≤ x_1.snd.snd - (1 : Int) ∧ x_1.snd.snd - (1 : Int) < (↑x_1.fst.length : Int)) ∧ ((0 : Int) ≤ x_1.snd.snd ∧ x_1.snd.snd < (↑x_1.fst.length : Int)) ∧
  isI64 (x_1.snd.snd - (1 : Int)) ∧ ((0 : Int) ≤ x_1.snd.snd - (1 : Int) ∧ x_1.snd.snd - (1 : Int) < (↑x_1.snd.fst.length : Int)) ∧ ((0 : Int) ≤ x_1.snd.snd ∧ x_1.snd.snd <
  (↑x_1.snd.fst.length : Int)) ∧ isI64 (x_1.snd.snd - (1 : Int)) ∧ I_1 (x_1.fst.set x_1.snd.snd.toNat (x_1.fst.getD (x_1.snd.snd - (1 : Int)).toNat (0 : Int)), x_1.snd.fst.set
  x_1.snd.snd.toNat (x_1.snd.fst.getD (x_1.snd.snd - (1 : Int)).toNat (0 : Int)), x_1.snd.snd - (1 : Int)) ∧ μ_1 (x_1.fst.set x_1.snd.snd.toNat (x_1.fst.getD (x_1.snd.snd - (1 :
  Int)).toNat (0 : Int)), x_1.snd.fst.set x_1.snd.snd.toNat (x_1.snd.fst.getD (x_1.snd.snd - (1 : Int)).toNat (0 : Int)), x_1.snd.snd - (1 : Int)) < μ_1 x_1) ∧ (decide ((nearS m
  ((areasN n d).getD x.snd.snd.toNat (([], [], ()), [], ())).fst v).fst < x_1.snd.fst.getD (x_1.snd.snd - (1 : Int)).toNat (0 : Int)) = false → ((0 : Int) ≤ x_1.snd.snd ∧
  x_1.snd.snd < (↑x_1.fst.length : Int)) ∧ ((0 : Int) ≤ x_1.snd.snd ∧ x_1.snd.snd < (↑x_1.snd.fst.length : Int)) ∧ isI64 (x.snd.snd + (1 : Int)) ∧ I (x_1.fst.set x_1.snd.snd.toNat
  x.snd.snd, x_1.snd.fst.set x_1.snd.snd.toNat (nearS m ((areasN n d).getD x.snd.snd.toNat (([], [], ()), [], ())).fst v).fst, x.snd.snd + (1 : Int)) ∧ μ (x_1.fst.set
  x_1.snd.snd.toNat x.snd.snd, x_1.snd.fst.set x_1.snd.snd.toNat (nearS m ((areasN n d).getD x.snd.snd.toNat (([], [], ()), [], ())).fst v).fst, x.snd.snd + (1 : Int)) < μ x)) ∧
  (decide ((0 : Int) < x_1.snd.snd) = false → ((0 : Int) ≤ x_1.snd.snd ∧ x_1.snd.snd < (↑x_1.fst.length : Int)) ∧ ((0 : Int) ≤ x_1.snd.snd ∧ x_1.snd.snd < (↑x_1.snd.fst.length :
  Int)) ∧ isI64 (x.snd.snd + (1 : Int)) ∧ I (x_1.fst.set x_1.snd.snd.toNat x.snd.snd, x_1.snd.fst.set x_1.snd.snd.toNat (nearS m ((areasN n d).getD x.snd.snd.toNat (([], [], ()),
  [], ())).fst v).fst, x.snd.snd + (1 : Int)) ∧ μ (x_1.fst.set x_1.snd.snd.toNat x.snd.snd, x_1.snd.fst.set x_1.snd.snd.toNat (nearS m ((areasN n d).getD x.snd.snd.toNat (([], [],
  ()), [], ())).fst v).fst, x.snd.snd + (1 : Int)) < μ x))) ∧ (decide (x.snd.snd < (↑(areasN n d).length : Int)) = false → x.fst = routeN n d m v w)) := by kernel_rfl
theorem rMoves_nf (n : Nat) (a b : Dv) : fnwp (QC n) 6 16 (rMovesSp n) (a, b) = (preR n a ∧ preR n b ∧ ∃ (I : List ((List Int × List Int × PUnit) × List Int × Int × PUnit) × Int →
  Prop), ∃ (μ : List ((List Int × List Int × PUnit) × List Int × Int × PUnit) × Int → Nat), I ([], (0 : Int)) ∧ ∀ (x : List ((List Int × List Int × PUnit) × List Int × Int × PUnit)
  × Int), I x → (decide (x.snd < (↑(areasN n b).length : Int)) = true → ∃ (I_1 : List ((List Int × List Int × PUnit) × List Int × Int × PUnit) × Int → Prop), ∃ (μ_1 : List ((List
  Int × List Int × PUnit) × List Int × Int × PUnit) × Int → Nat), I_1 (x.fst, (0 : Int)) ∧ ∀ (x_1 : List ((List Int × List Int × PUnit) × List Int × Int × PUnit) × Int), I_1 x_1 →
  (decide (x_1.snd < (↑(areasN n a).length : Int)) = true → ((0 : Int) ≤ x.snd ∧ x.snd < (↑(areasN n b).length : Int)) ∧ ((0 : Int) ≤ x_1.snd ∧ x_1.snd < (↑(areasN n a).length :
  Int)) ∧ True ∧ ∃ (I : List ((List Int × List Int × PUnit) × List Int × Int × PUnit) × List Int × List Int × Bool × Int → Prop), ∃ (μ : List ((List Int × List Int × PUnit) × List
  Int × Int × PUnit) × List Int × List Int × Bool × Int → Nat), I (x_1.fst, (meetS ((areasN n b).getD x.snd.toNat (([], [], ()), [], ())).fst ((areasN n a).getD x_1.snd.toNat (([],
  [], ()), [], ())).fst).fst.fst, (meetS ((areasN n b).getD x.snd.toNat (([], [], ()), [], ())).fst ((areasN n a).getD x_1.snd.toNat (([], [], ()), [], ())).fst).fst.snd.fst,
  (meetS ((areasN n b).getD x.snd.toNat (([], [], ()), [], ())).fst ((areasN n a).getD x_1.snd.toNat (([], [], ()), [], ())).fst).snd.fst, (0 : Int)) ∧ ∀ (x_2 : List ((List Int ×
  List Int × PUnit) × List Int × Int × PUnit) × List Int × List Int × Bool × Int), I x_2 → ((0 : Int) ≤ x.snd ∧ x.snd < (↑(areasN n b).length : Int)) ∧ (decide (x_2.snd.snd.snd.snd
  < (↑((areasN n b).getD x.snd.toNat (([], [], ()), [], ())).snd.fst.length : Int)) = true → (x_2.snd.snd.snd.fst = true → ((0 : Int) ≤ x_1.snd ∧ x_1.snd < (↑(areasN n a).length :
  Int)) ∧ ((0 : Int) ≤ x.snd ∧ x.snd < (↑(areasN n b).length : Int)) ∧ ((0 : Int) ≤ x_2.snd.snd.snd.snd ∧ x_2.snd.snd.snd.snd < (↑((areasN n b).getD x.snd.toNat (([], [], ()), [],
  ())).snd.fst.length : Int)) ∧ True ∧ ((!inL ((areasN n a).getD x_1.snd.toNat (([], [], ()), [], ())).snd.fst (((areasN n b).getD x.snd.toNat (([], [], ()), [], ())).snd.fst.getD
  x_2.snd.snd.snd.snd.toNat (0 : Int))) = true → ((0 : Int) ≤ x_1.snd ∧ x_1.snd < (↑(areasN n a).length : Int)) ∧ ((0 : Int) ≤ x.snd ∧ x.snd < (↑(areasN n b).length : Int)) ∧ ((0 :
  Int) ≤ x_2.snd.snd.snd.snd ∧ x_2.snd.snd.snd.snd < (↑((areasN n b).getD x.snd.toNat (([], [], ()), [], ())).snd.fst.length : Int)) ∧ roomP (QC n) (52 : Nat) (x_2.fst.length +
  [((x_2.snd.fst, x_2.snd.snd.fst, ()), ((areasN n a).getD x_1.snd.toNat (([], [], ()), [], ())).snd.fst, ((areasN n b).getD x.snd.toNat (([], [], ()), [], ())).snd.fst.getD
  x_2.snd.snd.snd.snd.toNat (0 : Int), ())].length) ∧ isI64 (x_2.snd.snd.snd.snd + (1 : Int)) ∧ I (x_2.fst ++ [((x_2.snd.fst, x_2.snd.snd.fst, ()), ((areasN n a).getD x_1.snd.toNat
  (([], [], ()), [], ())).snd.fst, ((areasN n b).getD x.snd.toNat (([], [], ()), [], ())).snd.fst.getD x_2.snd.snd.snd.snd.toNat (0 : Int), ())], x_2.snd.fst, x_2.snd.snd.fst,
  x_2.snd.snd.snd.fst, x_2.snd.snd.snd.snd + (1 : Int)) ∧ μ (x_2.fst ++ [((x_2.snd.fst, x_2.snd.snd.fst, ()), ((areasN n a).getD x_1.snd.toNat (([], [], ()), [], ())).snd.fst,
  ((areasN n b).getD x.snd.toNat (([], [], ()), [], ())).snd.fst.getD x_2.snd.snd.snd.snd.toNat (0 : Int), ())], x_2.snd.fst, x_2.snd.snd.fst, x_2.snd.snd.snd.fst,
  x_2.snd.snd.snd.snd + (1 : Int)) < μ x_2) ∧ ((!inL ((areasN n a).getD x_1.snd.toNat (([], [], ()), [], ())).snd.fst (((areasN n b).getD x.snd.toNat (([], [], ()), [],
  ())).snd.fst.getD x_2.snd.snd.snd.snd.toNat (0 : Int))) = false → isI64 (x_2.snd.snd.snd.snd + (1 : Int)) ∧ I (x_2.fst, x_2.snd.fst, x_2.snd.snd.fst, x_2.snd.snd.snd.fst,
  x_2.snd.snd.snd.snd + (1 : Int)) ∧ μ (x_2.fst, x_2.snd.fst, x_2.snd.snd.fst, x_2.snd.snd.snd.fst, x_2.snd.snd.snd.snd + (1 : Int)) < μ x_2)) ∧ (x_2.snd.snd.snd.fst = false →
  isI64 (x_1.snd + (1 : Int)) ∧ I_1 (x_2.fst, x_1.snd + (1 : Int)) ∧ μ_1 (x_2.fst, x_1.snd + (1 : Int)) < μ_1 x_1)) ∧ (decide (x_2.snd.snd.snd.snd < (↑((areasN n b).getD
  x.snd.toNat (([], [], ()), [], ())).snd.fst.length : Int)) = false → isI64 (x_1.snd + (1 : Int)) ∧ I_1 (x_2.fst, x_1.snd + (1 : Int)) ∧ μ_1 (x_2.fst, x_1.snd + (1 : Int)) < μ_1
  x_1)) ∧ (decide (x_1.snd < (↑(areasN n a).length : Int)) = false → isI64 (x.snd + (1 : Int)) ∧ I (x_1.fst, x.snd + (1 : Int)) ∧ μ (x_1.fst, x.snd + (1 : Int)) < μ x)) ∧ (decide
  (x.snd < (↑(areasN n b).length : Int)) = false → x.fst = movesN n a b)) := by kernel_rfl
end Go.Proofs.YtdeleoaeegmhlaaGreat
