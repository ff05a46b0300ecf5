import Derived.Test.YtdeleoaeegmhlaaMYl
--@drop
namespace Go.PL
open Go.AM
set_option linter.unusedVariables false
abbrev Ar := Box × List Int × Unit
abbrev Mv := Box × List Int × Int × Unit
def homeL : List Ar → List Int → Int
  | [], _ => -1
  | a :: l, v => if bhas a.1 v then 0 else if homeL l v = -1 then -1 else homeL l v + 1
def inL (l : List Int) (n : Int) : Bool := decide (0 ≤ indexS n l)
def meets (x y : Ar) : Bool := (meetS x.1 y.1).2.1 && decide ((meetS x.1 y.1).2.2 = 0)
def moveF (x y : Ar) (n : Int) : List Mv := if inL y.2.1 n then [] else [((meetS x.1 y.1).1, y.2.1, n, ())]
def movesY (x y : Ar) : List Mv := if meets x y then x.2.1.flatMap (moveF x y) else []
def movesX (la : List Ar) (x : Ar) : List Mv := la.flatMap (movesY x)
def movesL (la lb : List Ar) : List Mv := lb.flatMap (movesX la)
def homeN (n : Nat) (d : Dv) (v : List Int) : Int := homeL (areasN n d) v
def movesN (n : Nat) (a b : Dv) : List Mv := movesL (areasN n a) (areasN n b)
def ownsL (l : List Ar) (v : List Int) (o : Int) : Bool := decide (0 ≤ homeL l v) && (decide (homeL l v < l.length) && inL (l.getD (homeL l v).toNat (noBox, [], ())).2.1 o)
def ownsN (n : Nat) (d : Dv) (v : List Int) (o : Int) : Bool := ownsL (areasN n d) v o
def preA (n : Nat) (d : Dv) : Prop := 1 ≤ d.1 ∧ d.1 ≤ 1000 ∧ deepN n d.2.2.1 ∧ okA n d
def preM (n : Nat) (a b : Dv) : Prop := preA n a ∧ preA n b ∧ (movesN n a b).length ≤ 1000000
end Go.PL
namespace Go.Proofs.Ytdeleoaeegmhlaa
open Go.AM Go.PL
set_option linter.unusedVariables false
def areasPSp (n : Nat) : FSpec := ⟨[DV], [.arr AR], fun d => preA n d, fun d => areasN n d⟩
def homeSp (n : Nat) : FSpec := ⟨[DV, L], [I], fun x => preA n x.1, fun x => homeN n x.1 x.2⟩
def ownsSp (n : Nat) : FSpec := ⟨[DV, L, I], [.bool], fun x => preA n x.1, fun x => ownsN n x.1 x.2.1 x.2.2⟩
def movesSp (n : Nat) : FSpec := ⟨[DV, DV], [.arr MV], fun x => preM n x.1 x.2, fun x => movesN n x.1 x.2⟩
def loopsM (f : FuncId) (r : Nat) : List LA :=
  if Nat.beq f 35 then [.slot 8 I] else
  if Nat.beq f 15 then [.slot 30 I] else
  if Nat.beq f 16 then
    (if Nat.beq r 3 then [.gslot 5 47 MV, .slot 18 I] else
     if Nat.beq r 6 then [.gslot 5 47 MV, .cell 1 0 L, .cell 1 1 L, .cell 1 2 L, .slot 25 I] else
     [.gslot 5 47 MV, .cell 1 0 L, .cell 1 1 L, .cell 1 2 L, .cell 2 0 L, .cell 2 1 L, .cell 2 2 L, .cell 3 0 L, .cell 3 1 L, .slot 47 I]) else
  []
def hintM (f : FuncId) : Hint := ⟨loopsM f, fun r => .split, fun t => .split, fun r => 0⟩
def tYm (n : Nat) : List (FuncId × FSpec) := [(11, areasPSp n), (12, bhasSp), (14, meetSp), (69, idxSp)]
noncomputable def YM (n : Nat) : Ctx := mkctx bs (tYm n) [] hintM
noncomputable def YM2 (n : Nat) : Ctx := mkctx bs ((13, homeSp n) :: tYm n) [] hintM
theorem home_nf (n : Nat) (d : Dv) (v : List Int) : fnwp (YM n) 6 13 (homeSp n) (d, v) = (preA n d ∧ ∃ (I : Int → Prop), ∃ (μ : Int → Nat), I (0 : Int) ∧ ∀ (x : Int), I x → (decide
  (x < (↑(areasN n d).length : Int)) = true → ((0 : Int) ≤ x ∧ x < (↑(areasN n d).length : Int)) ∧ True ∧ (bhas ((areasN n d).getD x.toNat (([], [], ()), [], ())).fst v = true → x
  = homeN n d v) ∧ (bhas ((areasN n d).getD x.toNat (([], [], ()), [], ())).fst v = false → isI64 (x + (1 : Int)) ∧ I (x + (1 : Int)) ∧ μ (x + (1 : Int)) < μ x)) ∧ (decide (x <
  (↑(areasN n d).length : Int)) = false → (-1 : Int) = homeN n d v)) := by kernel_rfl
theorem owns_nf (n : Nat) (d : Dv) (v : List Int) (o : Int) : fnwp (YM2 n) 6 15 (ownsSp n) (d, v, o) = (preA n d ∧ preA n d ∧ (decide (homeN n d v < (0 : Int)) = true → false =
  ownsN n d v o) ∧ (decide (homeN n d v < (0 : Int)) = false → (decide ((↑(areasN n d).length : Int) ≤ homeN n d v) = true → false = ownsN n d v o) ∧ (decide ((↑(areasN n d).length
  : Int) ≤ homeN n d v) = false → ((0 : Int) ≤ homeN n d v ∧ homeN n d v < (↑(areasN n d).length : Int)) ∧ ∃ (I : Int → Prop), ∃ (μ : Int → Nat), I (0 : Int) ∧ ∀ (x : Int), I x →
  (decide (x < (↑((areasN n d).getD (homeN n d v).toNat (([], [], ()), [], ())).snd.fst.length : Int)) = true → ((0 : Int) ≤ x ∧ x < (↑((areasN n d).getD (homeN n d v).toNat (([],
  [], ()), [], ())).snd.fst.length : Int)) ∧ (decide (((areasN n d).getD (homeN n d v).toNat (([], [], ()), [], ())).snd.fst.getD x.toNat (0 : Int) = o) = true → true = ownsN n d v
  o) ∧ (decide (((areasN n d).getD (homeN n d v).toNat (([], [], ()), [], ())).snd.fst.getD x.toNat (0 : Int) = o) = false → isI64 (x + (1 : Int)) ∧ I (x + (1 : Int)) ∧ μ (x + (1 :
  Int)) < μ x)) ∧ (decide (x < (↑((areasN n d).getD (homeN n d v).toNat (([], [], ()), [], ())).snd.fst.length : Int)) = false → false = ownsN n d v o)))) := by kernel_rfl
theorem moves_nf (n : Nat) (a b : Dv) : fnwp (YM n) 6 16 (movesSp n) (a, b) = (preA n b ∧ ∃ (I : List ((List Int × List Int × PUnit) × List Int × Int × PUnit) × Int → Prop), ∃ (μ :
  List ((List Int × List Int × PUnit) × List Int × Int × PUnit) × Int → Nat), I ([], (0 : Int)) ∧ ∀ (x : List ((List Int × List Int × PUnit) × List Int × Int × PUnit) × Int), I x →
  (decide (x.snd < (↑(areasN n b).length : Int)) = true → ((0 : Int) ≤ x.snd ∧ x.snd < (↑(areasN n b).length : Int)) ∧ preA n a ∧ ∃ (I_1 : List ((List Int × List Int × PUnit) ×
  List Int × Int × PUnit) × List Int × List Int × List Int × Int → Prop), ∃ (μ_1 : List ((List Int × List Int × PUnit) × List Int × Int × PUnit) × List Int × List Int × List Int ×
  Int → Nat), I_1 (x.fst, ((areasN n b).getD x.snd.toNat (([], [], ()), [], ())).fst.fst, ((areasN n b).getD x.snd.toNat (([], [], ()), [], ())).fst.snd.fst, ((areasN n b).getD
  x.snd.toNat (([], [], ()), [], ())).snd.fst, (0 : Int)) ∧ ∀ (x_1 : List ((List Int × List Int × PUnit) × List Int × Int × PUnit) × List Int × List Int × List Int × Int), I_1 x_1
  → (decide (x_1.snd.snd.snd.snd < (↑(areasN n a).length : Int)) = true → ((0 : Int) ≤ x_1.snd.snd.snd.snd ∧ x_1.snd.snd.snd.snd < (↑(areasN n a).length : Int)) ∧ True ∧ ((!(meetS
  (x_1.snd.fst, x_1.snd.snd.fst, ()) (((areasN n a).getD x_1.snd.snd.snd.snd.toNat (([], [], ()), [], ())).fst.fst, ((areasN n a).getD x_1.snd.snd.snd.snd.toNat (([], [], ()), [],
  ())).fst.snd.fst, ())).snd.fst) = true → isI64 (x_1.snd.snd.snd.snd + (1 : Int)) ∧ I_1 (x_1.fst, x_1.snd.fst, x_1.snd.snd.fst, x_1.snd.snd.snd.fst, x_1.snd.snd.snd.snd + (1 :
  Int)) ∧ μ_1 (x_1.fst, x_1.snd.fst, x_1.snd.snd.fst, x_1.snd.snd.snd.fst, x_1.snd.snd.snd.snd + (1 : Int)) < μ_1 x_1) ∧ ((!(meetS (x_1.snd.fst, x_1.snd.snd.fst, ()) (((areasN n
  a).getD x_1.snd.snd.snd.snd.toNat (([], [], ()), [], ())).fst.fst, ((areasN n a).getD x_1.snd.snd.snd.snd.toNat (([], [], ()), [], ())).fst.snd.fst, ())).snd.fst) = false →
  ((!decide ((meetS (x_1.snd.fst, x_1.snd.snd.fst, ()) (((areasN n a).getD x_1.snd.snd.snd.snd.toNat (([], [], ()), [], ())).fst.fst, ((areasN n a).getD x_1.snd.snd.snd.snd.toNat
  (([], [], ()), [], ())).fst.snd.fst, ())).snd.snd = (0 : Int))) = true → isI64 (x_1.snd.snd.snd.snd + (1 : Int)) ∧ I_1 (x_1.fst, x_1.snd.fst, x_1.snd.snd.fst,
  x_1.snd.snd.snd.fst, x_1.snd.snd.snd.snd + (1 : Int)) ∧ μ_1 (x_1.fst, x_1.snd.fst, x_1.snd.snd.fst, x_1.snd.snd.snd.fst, x_1.snd.snd.snd.snd + (1 : Int)) < μ_1 x_1) ∧ ((!decide
  ((meetS (x_1.snd.fst, x_1.snd.snd.fst, ()) (((areasN n a).getD x_1.snd.snd.snd.snd.toNat (([], [], ()), [], ())).fst.fst, ((areasN n a).getD x_1.snd.snd.snd.snd.toNat (([], [],
  ()), [], ())).fst.snd.fst, ())).snd.snd = (0 : Int))) = false → ∃ (I : List ((List Int × List Int × PUnit) × List Int × Int × PUnit) × List Int × List Int × List Int × List Int ×
  List Int × List Int × List Int × List Int × Int → Prop), ∃ (μ : List ((List Int × List Int × PUnit) × List Int × Int × PUnit) × List Int × List Int × List Int × List Int × List
  Int × List Int × List Int × List Int × Int → Nat), I (x_1.fst, x_1.snd.fst, x_1.snd.snd.fst, x_1.snd.snd.snd.fst, ((areasN n a).getD x_1.snd.snd.snd.snd.toNat (([], [], ()), [],
  ())).fst.fst, ((areasN n a).getD x_1.snd.snd.snd.snd.toNat (([], [], ()), [], ())).fst.snd.fst, ((areasN n a).getD x_1.snd.snd.snd.snd.toNat (([], [], ()), [], ())).snd.fst,
  (meetS (x_1.snd.fst, x_1.snd.snd.fst, ()) (((areasN n a).getD x_1.snd.snd.snd.snd.toNat (([], [], ()), [], ())).fst.fst, ((areasN n a).getD x_1.snd.snd.snd.snd.toNat (([], [],
  ()), [], ())).fst.snd.fst, ())).fst.fst, (meetS (x_1.snd.fst, x_1.snd.snd.fst, ()) (((areasN n a).getD x_1.snd.snd.snd.snd.toNat (([], [], ()), [], ())).fst.fst, ((areasN n
  a).getD x_1.snd.snd.snd.snd.toNat (([], [], ()), [], ())).fst.snd.fst, ())).fst.snd.fst, (0 : Int)) ∧ ∀ (x : List ((List Int × List Int × PUnit) × List Int × Int × PUnit) × List
  Int × List Int × List Int × List Int × List Int × List Int × List Int × List Int × Int), I x → (decide (x.snd.snd.snd.snd.snd.snd.snd.snd.snd < (↑x_1.snd.snd.snd.fst.length :
  Int)) = true → ((0 : Int) ≤ x.snd.snd.snd.snd.snd.snd.snd.snd.snd ∧ x.snd.snd.snd.snd.snd.snd.snd.snd.snd < (↑x_1.snd.snd.snd.fst.length : Int)) ∧ True ∧ ((!decide ((0 : Int) ≤
  indexS (x_1.snd.snd.snd.fst.getD x.snd.snd.snd.snd.snd.snd.snd.snd.snd.toNat (0 : Int)) x.snd.snd.snd.snd.snd.snd.fst)) = true → roomP (YM n) (47 : Nat) (x.fst.length +
  [((x.snd.snd.snd.snd.snd.snd.snd.fst, x.snd.snd.snd.snd.snd.snd.snd.snd.fst, ()), x.snd.snd.snd.snd.snd.snd.fst, x_1.snd.snd.snd.fst.getD
  x.snd.snd.snd.snd.snd.snd.snd.snd.snd.toNat (0 : Int), ())].length) ∧ isI64 (x.snd.snd.snd.snd.snd.snd.snd.snd.snd + (1 : Int)) ∧ I (x.fst ++
  [((x.snd.snd.snd.snd.snd.snd.snd.fst, x.snd.snd.snd.snd.snd.snd.snd.snd.fst, ()), x.snd.snd.snd.snd.snd.snd.fst, x_1.snd.snd.snd.fst.getD
  x.snd.snd.snd.snd.snd.snd.snd.snd.snd.toNat (0 : Int), ())], x.snd.fst, x.snd.snd.fst, x.snd.snd.snd.fst, x.snd.snd.snd.snd.fst, x.snd.snd.snd.snd.snd.fst,
  x.snd.snd.snd.snd.snd.snd.fst, x.snd.snd.snd.snd.snd.snd.snd.fst, x.snd.snd.snd.snd.snd.snd.snd.snd.fst, x.snd.snd.snd.snd.snd.snd.snd.snd.snd + (1 : Int)) ∧ μ (x.fst ++
  [((x.snd.snd.snd.snd.snd.snd.snd.fst, x.snd.snd.snd.snd.snd.snd.snd.snd.fst, ()), x.snd.snd.snd.snd.snd.snd.fst, x_1.snd.snd.snd.fst.getD
  x.snd.snd.snd.snd.snd.snd.snd.snd.snd.toNat (0 : Int), ())], x.snd.fst, x.snd.snd.fst, x.snd.snd.snd.fst, x.snd.snd.snd.snd.fst, x.snd.snd.snd.snd.snd.fst,
  x.snd.snd.snd.snd.snd.snd.fst, x.snd.snd.snd.snd.snd.snd.snd.fst, x.snd.snd.snd.snd.snd.snd.snd.snd.fst, x.snd.snd.snd.snd.snd.snd.snd.snd.snd + (1 : Int)) < μ x) ∧ ((!decide ((0
  : Int) ≤ indexS (x_1.snd.snd.snd.fst.getD x.snd.snd.snd.snd.snd.snd.snd.snd.snd.toNat (0 : Int)) x.snd.snd.snd.snd.snd.snd.fst)) = false → isI64
  (x.snd.snd.snd.snd.snd.snd.snd.snd.snd + (1 : Int)) ∧ I (x.fst, x.snd.fst, x.snd.snd.fst, x.snd.snd.snd.fst, x.snd.snd.snd.snd.fst, x.snd.snd.snd.snd.snd.fst,
  x.snd.snd.snd.snd.snd.snd.fst, x.snd.snd.snd.snd.snd.snd.snd.fst, x.snd.snd.snd.snd.snd.snd.snd.snd.fst, x.snd.snd.snd.snd.snd.snd.snd.snd.snd + (1 : Int)) ∧ μ (x.fst, x.snd.fst,
  x.snd.snd.fst, x.snd.snd.snd.fst, x.snd.snd.snd.snd.fst, x.snd.snd.snd.snd.snd.fst, x.snd.snd.snd.snd.snd.snd.fst, x.snd.snd.snd.snd.snd.snd.snd.fst,
  x.snd.snd.snd.snd.snd.snd.snd.snd.fst, x.snd.snd.snd.snd.snd.snd.snd.snd.snd + (1 : Int)) < μ x)) ∧ (decide (x.snd.snd.snd.snd.snd.snd.snd.snd.snd < (↑x_1.snd.snd.snd.fst.length
  : Int)) = false → isI64 (x_1.snd.snd.snd.snd + (1 : Int)) ∧ I_1 (x.fst, x.snd.fst, x.snd.snd.fst, x.snd.snd.snd.fst, x_1.snd.snd.snd.snd + (1 : Int)) ∧ μ_1 (x.fst, x.snd.fst,
  x.snd.snd.fst, x.snd.snd.snd.fst, x_1.snd.snd.snd.snd + (1 : Int)) < μ_1 x_1)))) ∧ (decide (x_1.snd.snd.snd.snd < (↑(areasN n a).length : Int)) = false → isI64 (x.snd + (1 :
  Int)) ∧ I (x_1.fst, x.snd + (1 : Int)) ∧ μ (x_1.fst, x.snd + (1 : Int)) < μ x)) ∧ (decide (x.snd < (↑(areasN n b).length : Int)) = false → x.fst = movesN n a b)) := by kernel_rfl
end Go.Proofs.Ytdeleoaeegmhlaa
