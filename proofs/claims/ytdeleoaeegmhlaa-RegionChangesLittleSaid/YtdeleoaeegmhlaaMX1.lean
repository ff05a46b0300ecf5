import Derived.Test.YtdeleoaeegmhlaaMUp
--@drop
namespace Go.PL
open Go.AM

/-! ### Boxes, plain: all by places -/
abbrev Box := List Int × List Int × Unit
def noBox : Box := ([], [], ())
def bstep (m s d : Int) : Int := if m = 1 then s + d else if m = 2 then s + d * d else max s d
def sumK (m : Int) (n : Nat) (f : Nat → Int) : Int := (List.range n).foldl (fun s i => bstep m s (f i)) 0
def at_ (v : List Int) (i : Nat) : Int := v.getD i 0
def isM (m : Int) : Bool := decide (1 ≤ m) && decide (m ≤ 3)
def bco (x : Int) : Bool := decide (-1000 ≤ x) && decide (x ≤ 1000)
def bvec (v : List Int) : Bool := upto v.length (fun i => bco (at_ v i)) && (decide (1 ≤ v.length) && decide (v.length ≤ 32))
def bval (b : Box) : Bool := bvec b.1 && (bvec b.2.1 && (decide (b.1.length = b.2.1.length) && upto b.1.length (fun i => decide (at_ b.1 i ≤ at_ b.2.1 i))))
def balike (a b : Box) : Bool := bval a && (bval b && decide (a.1.length = b.1.length))
def bhas (b : Box) (v : List Int) : Bool := bval b && (decide (v.length = b.1.length) && upto v.length (fun i => decide (at_ b.1 i ≤ at_ v i) && decide (at_ v i ≤ at_ b.2.1 i)))
def binside (a b : Box) : Bool := bval a && (bhas b a.1 && bhas b a.2.1)
def basked (m : Int) (b : Box) (v : List Int) : Bool := isM m && (bval b && (bvec v && decide (v.length = b.1.length)))
def nearF (b : Box) (v : List Int) (i : Nat) : Int := max 0 (max (at_ b.1 i - at_ v i) (at_ v i - at_ b.2.1 i))
def farF (b : Box) (v : List Int) (i : Nat) : Int := max (at_ b.2.1 i - at_ v i) (at_ v i - at_ b.1 i)
def apartF (a b : Box) (i : Nat) : Int := max 0 (max (at_ a.1 i - at_ b.2.1 i) (at_ b.1 i - at_ a.2.1 i))
def keyF (a b : List Int) (i : Nat) : Int := max (at_ a i - at_ b i) (at_ b i - at_ a i)
def nearS (m : Int) (b : Box) (v : List Int) : Int × Int := if basked m b v then (sumK m v.length (nearF b v), 0) else (0, 1)
def farS (m : Int) (b : Box) (v : List Int) : Int × Int := if basked m b v then (sumK m v.length (farF b v), 0) else (0, 1)
def apartS (m : Int) (a b : Box) : Int × Int := if isM m && balike a b then (sumK m a.1.length (apartF a b), 0) else (0, 1)
def nearestS (b : Box) (v : List Int) : List Int := tab v.length fun i => min (max (at_ v i) (at_ b.1 i)) (at_ b.2.1 i)
def farthestS (b : Box) (v : List Int) : List Int := tab v.length fun i => if at_ v i - at_ b.1 i < at_ b.2.1 i - at_ v i then at_ b.2.1 i else at_ b.1 i
def cutOk (b : Box) (axis at' : Int) : Bool := bval b && (decide (0 ≤ axis) && (decide (axis < b.1.length) && (decide (at_ b.1 axis.toNat ≤ at') && decide (at' < at_ b.2.1 axis.toNat))))
def cutS (b : Box) (axis at' : Int) : Box × Box × Int :=
  if cutOk b axis at' then ((b.1, b.2.1.set axis.toNat at', ()), (b.1.set axis.toNat (at' + 1), b.2.1, ()), 0) else (noBox, noBox, 1)
def widthF (b : Box) (i : Nat) : Int := at_ b.2.1 i - at_ b.1 i
def splitS (b : Box) : Int × Int × Int :=
  if bval b then (if widthF b (amax b.1.length (widthF b)) = 0 then (0, 0, 4) else (amax b.1.length (widthF b), at_ b.1 (amax b.1.length (widthF b)) + widthF b (amax b.1.length (widthF b)) / 2, 0)) else (0, 0, 1)
def row (l : List (List Int)) (i : Nat) : List Int := l.getD i []
def mnK (l : List (List Int)) (m k : Nat) : Int := (List.range m).foldl (fun s i => min s (at_ (row l i) k)) (at_ (row l 0) k)
def mxK (l : List (List Int)) (m k : Nat) : Int := (List.range m).foldl (fun s i => max s (at_ (row l i) k)) (at_ (row l 0) k)
def ofOk (l : List (List Int)) : Bool := decide (1 ≤ l.length) && upto l.length (fun i => bvec (row l i) && decide ((row l i).length = (row l 0).length))
def ofB (l : List (List Int)) (m : Nat) : Box := (tab (row l 0).length (mnK l m), tab (row l 0).length (mxK l m), ())
def ofS (l : List (List Int)) : Box × Int := if ofOk l then (ofB l l.length, 0) else (noBox, 1)
def joinB (a b : Box) : Box := (tab a.1.length fun i => min (at_ a.1 i) (at_ b.1 i), tab a.2.1.length fun i => max (at_ a.2.1 i) (at_ b.2.1 i), ())
def meetB (a b : Box) : Box := (tab a.1.length fun i => max (at_ a.1 i) (at_ b.1 i), tab a.2.1.length fun i => min (at_ a.2.1 i) (at_ b.2.1 i), ())
def joinS (a b : Box) : Box × Int := if balike a b then (joinB a b, 0) else (noBox, 1)
def meetS (a b : Box) : Box × Bool × Int := if balike a b then (if bval (meetB a b) then (meetB a b, true, 0) else (noBox, false, 0)) else (noBox, false, 1)
def innerS (b : Box) (p : List Int) : List Int := tab b.1.length fun k => at_ b.1 k + Int.tmod (if k < p.length then at_ p k else 0) (at_ b.2.1 k - at_ b.1 k + 1)
/-- The first place where a number stands. -/
def indexS (x : Int) : List Int → Int
  | [] => -1
  | y :: v => if x = y then 0 else if indexS x v = -1 then -1 else indexS x v + 1
def maxS (v : List Int) : Int := (List.range v.length).foldl (fun s i => max s (at_ v i)) (at_ v 0)
def fewB (b : Box) : Bool := decide (b.1.length ≤ 40) && decide (b.2.1.length ≤ 40)
def shortB (l : List (List Int)) : Bool := upto l.length (fun i => decide ((row l i).length ≤ 40)) && decide (l.length ≤ 20)
def sm (v : List Int) : Prop := v.length ≤ 64 ∧ ∀ i, -4000 ≤ at_ v i ∧ at_ v i ≤ 4000
end Go.PL
namespace Go.Proofs.Ytdeleoaeegmhlaa
open Go.AM Go.PL
set_option linter.unusedVariables false

abbrev U16 : Ty := .int .u16
abbrev NumT : Ty := .pair I (.pair I .unit)
abbrev HalvT : Ty := .pair BX (.pair BX (.pair I .unit))
abbrev MidT : Ty := .pair I (.pair I (.pair I .unit))
abbrev BoxdT : Ty := .pair BX (.pair .bool (.pair I .unit))
def howS (how : FuncId) (x y : Int) : Int := if how = 40 then min x y else if how = 39 then max x y else x - y
def zipS (a b : List Int) (how : FuncId) : List Int := tab a.length fun i => howS how (at_ a i) (at_ b i)

def bvecSp : FSpec := ⟨[L], [.bool], fun _ => True, fun v => bvec v⟩
def bvalSp : FSpec := ⟨[BX], [.bool], fun _ => True, fun b => bval b⟩
def alikSp : FSpec := ⟨[BX, BX], [.bool], fun _ => True, fun x => balike x.1 x.2⟩
def bhasSp : FSpec := ⟨[BX, L], [.bool], fun _ => True, fun x => bhas x.1 x.2⟩
def binsSp : FSpec := ⟨[BX, BX], [.bool], fun _ => True, fun x => binside x.1 x.2⟩
def isMSp : FSpec := ⟨[I], [.bool], fun _ => True, fun m => isM m⟩
def askSp : FSpec := ⟨[I, BX, L], [.bool], fun _ => True, fun x => basked x.1 x.2.1 x.2.2⟩
def minSp : FSpec := ⟨[I, I], [I], fun _ => True, fun x => min (x.1 : Int) x.2⟩
def maxSp : FSpec := ⟨[I, I], [I], fun _ => True, fun x => max (x.1 : Int) x.2⟩
def widSp : FSpec := ⟨[I, I], [I], fun x => isI64 ((x.1 : Int) - x.2), fun x => (x.1 : Int) - x.2⟩
def nrSp : FSpec := ⟨[I, I, I], [I], fun x => isI64 ((x.1 : Int) - x.2.2) ∧ isI64 ((x.2.2 : Int) - x.2.1), fun x => max 0 (max ((x.1 : Int) - x.2.2) ((x.2.2 : Int) - x.2.1))⟩
def frSp : FSpec := ⟨[I, I, I], [I], fun x => isI64 ((x.2.1 : Int) - x.2.2) ∧ isI64 ((x.2.2 : Int) - x.1), fun x => max ((x.2.1 : Int) - x.2.2) ((x.2.2 : Int) - x.1)⟩
def zipSp : FSpec := ⟨[L, L, .fnc], [L], fun x => sm x.1 ∧ sm x.2.1 ∧ (x.1 : List Int).length ≤ (x.2.1 : List Int).length ∧ (x.2.2 = 40 ∨ x.2.2 = 39),
  fun x => zipS x.1 x.2.1 x.2.2⟩
def clnG : GSpec := ⟨[L], 3, I, fun v => (v : List Int).length ≤ 1000000, fun v => v⟩
def idxSp : FSpec := ⟨[L, I], [I], fun _ => True, fun x => indexS x.2 x.1⟩
def mxSp : FSpec := ⟨[L], [I], fun v => 1 ≤ (v : List Int).length, fun v => maxS v⟩
def nearSp : FSpec := ⟨[I, BX, L], [I, I], fun _ => True, fun x => nearS x.1 x.2.1 x.2.2⟩
def farSp : FSpec := ⟨[I, BX, L], [I, I], fun _ => True, fun x => farS x.1 x.2.1 x.2.2⟩
def apartSp : FSpec := ⟨[I, BX, BX], [I, I], fun _ => True, fun x => apartS x.1 x.2.1 x.2.2⟩
def rNearSp : FSpec := ⟨[I, BX, L], [NumT], fun _ => True, fun x => ((nearS x.1 x.2.1 x.2.2).1, (nearS x.1 x.2.1 x.2.2).2, ())⟩
def rFarSp : FSpec := ⟨[I, BX, L], [NumT], fun _ => True, fun x => ((farS x.1 x.2.1 x.2.2).1, (farS x.1 x.2.1 x.2.2).2, ())⟩
def rApartSp : FSpec := ⟨[I, BX, BX], [NumT], fun _ => True, fun x => ((apartS x.1 x.2.1 x.2.2).1, (apartS x.1 x.2.1 x.2.2).2, ())⟩
def rKeySp : FSpec := ⟨[I, L, L], [I], fun x => isM x.1 = true ∧ sm x.2.1 ∧ sm x.2.2 ∧ (x.2.1 : List Int).length ≤ (x.2.2 : List Int).length, fun x => sumK x.1 (x.2.1 : List Int).length (keyF x.2.1 x.2.2)⟩
def rNearestSp : FSpec := ⟨[BX, L], [L], fun x => bval x.1 = true ∧ (x.2 : List Int).length = (x.1.1 : List Int).length, fun x => nearestS x.1 x.2⟩
def rFarthestSp : FSpec := ⟨[BX, L], [L], fun x => bval x.1 = true ∧ bvec x.2 = true ∧ (x.2 : List Int).length = (x.1.1 : List Int).length, fun x => farthestS x.1 x.2⟩
def cutSp : FSpec := ⟨[BX, I, I], [BX, BX, I], fun _ => True, fun x => cutS x.1 x.2.1 x.2.2⟩
def rCutSp : FSpec := ⟨[BX, I, I], [HalvT], fun _ => True, fun x => ((cutS x.1 x.2.1 x.2.2).1, (cutS x.1 x.2.1 x.2.2).2.1, (cutS x.1 x.2.1 x.2.2).2.2, ())⟩
def splitSp : FSpec := ⟨[BX], [I, I, I], fun _ => True, fun b => splitS b⟩
def rSplitSp : FSpec := ⟨[BX], [MidT], fun _ => True, fun b => ((splitS b).1, (splitS b).2.1, (splitS b).2.2, ())⟩
def ofSp : FSpec := ⟨[LL], [BX, I], fun l => True, fun l => ofS l⟩
def rOfSp : FSpec := ⟨[LL], [BoxdT], fun l => True, fun l => ((ofS l).1, ofOk l, (ofS l).2, ())⟩
def joinSp : FSpec := ⟨[BX, BX], [BX, I], fun _ => True, fun x => joinS x.1 x.2⟩
def rJoinSp : FSpec := ⟨[BX, BX], [BoxdT], fun _ => True, fun x => ((joinS x.1 x.2).1, balike x.1 x.2, (joinS x.1 x.2).2, ())⟩
def meetSp : FSpec := ⟨[BX, BX], [BX, .bool, I], fun _ => True, fun x => meetS x.1 x.2⟩
def rMeetSp : FSpec := ⟨[BX, BX], [BoxdT], fun _ => True, fun x => ((meetS x.1 x.2).1, (meetS x.1 x.2).2.1, (meetS x.1 x.2).2.2, ())⟩
def same6Sp : FSpec := ⟨[L, L], [.bool], fun _ => True, fun x => decide ((x.1 : List Int) = x.2)⟩
def sameBSp : FSpec := ⟨[BX, BX], [.bool], fun _ => True, fun x => decide ((x.1 : Box) = x.2)⟩
def fewSp : FSpec := ⟨[BX], [.bool], fun _ => True, fun b => fewB b⟩
def shortSp : FSpec := ⟨[LL], [.bool], fun _ => True, fun l => shortB l⟩
def innerSp : FSpec := ⟨[BX, .arr U16], [L], fun x => bval x.1 = true, fun x => innerS x.1 x.2⟩

def loopsB (f : FuncId) (r : Nat) : List LA :=
  if Nat.beq f 101 then [.slot 8 I] else
  if Nat.beq f 85 then [.slot 10 I] else
  if Nat.beq f 38 then [.gslot 7 3 I, .slot 11 I] else
  if Nat.beq f 12 then [.slot 20 I] else
  if Nat.beq f 88 then [.slot 9 I, .cell 1 0 I] else
  if Nat.beq f 69 then [.slot 8 I] else
  if Nat.beq f 46 then [.slot 5 I] else
  []
def hintB (f : FuncId) : Hint := ⟨loopsB f, fun r => .split, fun _ => .split, fun _ => 0⟩
def tB1 : List (FuncId × FSpec) := [(67, bvecSp), (40, minSp), (39, maxSp),
  (74, nrSp), (69, idxSp), (46, same6Sp)]
noncomputable def B0 : Ctx := mkctx bs [] [] hintB
noncomputable def B1 : Ctx := mkctx bs tB1 [] hintB
def tB2 : List (FuncId × FSpec) := (34, bvalSp) :: (38, zipSp) :: tB1
noncomputable def B2 : Ctx := mkctx bs tB2 [] hintB
noncomputable def B2G : Ctx := mkctx bs tB2 [(33, clnG)] hintB
def tB3 : List (FuncId × FSpec) := (37, alikSp) :: (12, bhasSp) :: (33, clnG.data) :: tB2
noncomputable def B3 : Ctx := mkctx bs tB3 [] hintB
end Go.Proofs.Ytdeleoaeegmhlaa
--@drop
namespace Go.Proofs.Ytdeleoaeegmhlaa
open Go.AM Go.PL
set_option linter.unusedVariables false
theorem isVec_nf (v : List Int) : fnwp B0 6 67 bvecSp v = ((decide ((1 : Int) ≤ (↑v.length : Int)) = true → (decide ((↑v.length : Int) ≤ (32 : Int)) = true → ∃ (I : Int → Prop), ∃
  (μ : Int → Nat), I (0 : Int) ∧ ∀ (x : Int), I x → (decide (x < (↑v.length : Int)) = true → ((0 : Int) ≤ x ∧ x < (↑v.length : Int)) ∧ (decide (v.getD x.toNat (0 : Int) < (-1000 :
  Int)) = true → (!decide ((0 : Int) ≤ x)) = bvec v) ∧ (decide (v.getD x.toNat (0 : Int) < (-1000 : Int)) = false → (decide ((1000 : Int) < v.getD x.toNat (0 : Int)) = true →
  (!decide ((0 : Int) ≤ x)) = bvec v) ∧ (decide ((1000 : Int) < v.getD x.toNat (0 : Int)) = false → isI64 (x + (1 : Int)) ∧ I (x + (1 : Int)) ∧ μ (x + (1 : Int)) < μ x))) ∧ (decide
  (x < (↑v.length : Int)) = false → true = bvec v)) ∧ (decide ((↑v.length : Int) ≤ (32 : Int)) = false → false = bvec v)) ∧ (decide ((1 : Int) ≤ (↑v.length : Int)) = false → false
  = bvec v)) := by kernel_rfl
theorem least_nf (x y : Int) : fnwp B0 6 40 minSp (x, y) = (min x y = min x y) := by kernel_rfl
theorem great_nf (x y : Int) : fnwp B0 6 39 maxSp (x, y) = (max x y = max x y) := by kernel_rfl
theorem nr_nf (x y z : Int) : fnwp B0 6 74 nrSp (x, y, z) = (isI64 (x - z) ∧ isI64 (z - y) ∧ max (max (0 : Int) (x - z)) (z - y) = max (0 : Int) (max (x - z) (z - y))) := by
  kernel_rfl
theorem idx_nf (v : List Int) (x : Int) : fnwp B0 6 69 idxSp (v, x) = (∃ (I : Int → Prop), ∃ (μ : Int → Nat), I (0 : Int) ∧ ∀ (x_1 : Int), I x_1 → (decide (x_1 < (↑v.length : Int))
  = true → ((0 : Int) ≤ x_1 ∧ x_1 < (↑v.length : Int)) ∧ (decide (x = v.getD x_1.toNat (0 : Int)) = true → x_1 = indexS x v) ∧ (decide (x = v.getD x_1.toNat (0 : Int)) = false →
  isI64 (x_1 + (1 : Int)) ∧ I (x_1 + (1 : Int)) ∧ μ (x_1 + (1 : Int)) < μ x_1)) ∧ (decide (x_1 < (↑v.length : Int)) = false → (-1 : Int) = indexS x v)) := by kernel_rfl
theorem same6_nf (a b : List Int) : fnwp B0 6 46 same6Sp (a, b) = (((!decide ((↑a.length : Int) = (↑b.length : Int))) = true → false = decide (a = b)) ∧ ((!decide ((↑a.length :
  Int) = (↑b.length : Int))) = false → ∃ (I : Int → Prop), ∃ (μ : Int → Nat), I (0 : Int) ∧ ∀ (x : Int), I x → (decide (x < (↑a.length : Int)) = true → ((0 : Int) ≤ x ∧ x <
  (↑a.length : Int)) ∧ ((0 : Int) ≤ x ∧ x < (↑b.length : Int)) ∧ ((!decide (a.getD x.toNat (0 : Int) = b.getD x.toNat (0 : Int))) = true → false = decide (a = b)) ∧ ((!decide
  (a.getD x.toNat (0 : Int) = b.getD x.toNat (0 : Int))) = false → isI64 (x + (1 : Int)) ∧ I (x + (1 : Int)) ∧ μ (x + (1 : Int)) < μ x)) ∧ (decide (x < (↑a.length : Int)) = false →
  true = decide (a = b)))) := by kernel_rfl
theorem cln_nf (v : List Int) : fnwpG B0 6 33 clnG v = (∀ (b : Bool), (b = true → v = []) → (b = true → [] = v) ∧ (b = false → roomP B0 (3 : Nat) v.length ∧ v = v)) := by
  kernel_rfl
theorem bvalid_nf (b : Box) : fnwp B1 6 34 bvalSp b = (True ∧ ((!bvec b.fst) = true → false = bval b) ∧ ((!bvec b.fst) = false → True ∧ ((!bvec b.snd.fst) = true → false = bval b)
  ∧ ((!bvec b.snd.fst) = false → ((!decide ((↑b.fst.length : Int) = (↑b.snd.fst.length : Int))) = true → false = bval b) ∧ ((!decide ((↑b.fst.length : Int) = (↑b.snd.fst.length :
  Int))) = false → ∃ (I : Int → Prop), ∃ (μ : Int → Nat), I (0 : Int) ∧ ∀ (x : Int), I x → (decide (x < min (↑b.fst.length : Int) (↑b.snd.fst.length : Int)) = true → ((0 : Int) ≤ x
  ∧ x < (↑b.fst.length : Int)) ∧ ((0 : Int) ≤ x ∧ x < (↑b.snd.fst.length : Int)) ∧ (decide (b.snd.fst.getD x.toNat (0 : Int) < b.fst.getD x.toNat (0 : Int)) = true → false = bval
  b) ∧ (decide (b.snd.fst.getD x.toNat (0 : Int) < b.fst.getD x.toNat (0 : Int)) = false → isI64 (x + (1 : Int)) ∧ I (x + (1 : Int)) ∧ μ (x + (1 : Int)) < μ x)) ∧ (decide (x < min
  (↑b.fst.length : Int) (↑b.snd.fst.length : Int)) = false → true = bval b))))) := by kernel_rfl
theorem zipL_nf (a b : List Int) : fnwp B1 6 38 zipSp (a, b, 40) = (∃ (I : List Int × Int → Prop), ∃ (μ : List Int × Int → Nat), I ([], (0 : Int)) ∧ ∀ (x : List Int × Int), I x →
  (decide (x.snd < (↑a.length : Int)) = true → ((0 : Int) ≤ x.snd ∧ x.snd < (↑a.length : Int)) ∧ ((0 : Int) ≤ x.snd ∧ x.snd < (↑b.length : Int)) ∧ True ∧ roomP B1 (3 : Nat)
  (x.fst.length + [min (a.getD x.snd.toNat (0 : Int)) (b.getD x.snd.toNat (0 : Int))].length) ∧ isI64 (x.snd + (1 : Int)) ∧ I (x.fst ++ [min (a.getD x.snd.toNat (0 : Int)) (b.getD
  x.snd.toNat (0 : Int))], x.snd + (1 : Int)) ∧ μ (x.fst ++ [min (a.getD x.snd.toNat (0 : Int)) (b.getD x.snd.toNat (0 : Int))], x.snd + (1 : Int)) < μ x) ∧ (decide (x.snd <
  (↑a.length : Int)) = false → x.fst = zipS a b (40 : Nat))) := by kernel_rfl
theorem zipG_nf (a b : List Int) : fnwp B1 6 38 zipSp (a, b, 39) = (∃ (I : List Int × Int → Prop), ∃ (μ : List Int × Int → Nat), I ([], (0 : Int)) ∧ ∀ (x : List Int × Int), I x →
  (decide (x.snd < (↑a.length : Int)) = true → ((0 : Int) ≤ x.snd ∧ x.snd < (↑a.length : Int)) ∧ ((0 : Int) ≤ x.snd ∧ x.snd < (↑b.length : Int)) ∧ True ∧ roomP B1 (3 : Nat)
  (x.fst.length + [max (a.getD x.snd.toNat (0 : Int)) (b.getD x.snd.toNat (0 : Int))].length) ∧ isI64 (x.snd + (1 : Int)) ∧ I (x.fst ++ [max (a.getD x.snd.toNat (0 : Int)) (b.getD
  x.snd.toNat (0 : Int))], x.snd + (1 : Int)) ∧ μ (x.fst ++ [max (a.getD x.snd.toNat (0 : Int)) (b.getD x.snd.toNat (0 : Int))], x.snd + (1 : Int)) < μ x) ∧ (decide (x.snd <
  (↑a.length : Int)) = false → x.fst = zipS a b (39 : Nat))) := by kernel_rfl
end Go.Proofs.Ytdeleoaeegmhlaa
