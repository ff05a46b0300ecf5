import Derived.Test.YtdnofflnfchcbaaBs
namespace Go.PL
open Go.AM

/-! ### Boxes, plain: all by places -/
abbrev Box := List Int × List Int × Unit
def noBox : Box := ([], [], ())
def upto (n : Nat) (p : Nat → Bool) : Bool := (List.range n).all p
def tab (n : Nat) (f : Nat → Int) : List Int := (List.range n).map f
def bstep (m s d : Int) : Int := if m = 1 then s + d else if m = 2 then s + d * d else max s d
def sumK (m : Int) (n : Nat) (f : Nat → Int) : Int := (List.range n).foldl (fun s i => bstep m s (f i)) 0
def at_ (v : List Int) (i : Nat) : Int := v.getD i 0
def isM (m : Int) : Bool := decide (1 ≤ m) && decide (m ≤ 3)
def bco (x : Int) : Bool := decide (-1000 ≤ x) && decide (x ≤ 1000)
def bvec (v : List Int) : Bool := upto v.length (fun i => bco (at_ v i)) && (decide (1 ≤ v.length) && decide (v.length ≤ 32))
def bval (b : Box) : Bool := bvec b.1 && (bvec b.2.1 && (decide (b.1.length = b.2.1.length) && upto b.1.length (fun i => decide (at_ b.1 i ≤ at_ b.2.1 i))))
def balike (a b : Box) : Bool := bval a && (bval b && decide (a.1.length = b.1.length))
def bhas (b : Box) (v : List Int) : Bool := bval b && (decide (v.length = b.1.length) && upto v.length (fun i => decide (at_ b.1 i ≤ at_ v i) && decide (at_ v i ≤ at_ b.2.1 i)))
def binside (a b : Box) : Bool := bval a && (bhas b a.1 && bhas b a.2.1)
def basked (m : Int) (b : Box) (v : List Int) : Bool := isM m && (bval b && (bvec v && decide (v.length = b.1.length)))
def nearF (b : Box) (v : List Int) (i : Nat) : Int := max 0 (max (at_ b.1 i - at_ v i) (at_ v i - at_ b.2.1 i))
def farF (b : Box) (v : List Int) (i : Nat) : Int := max (at_ b.2.1 i - at_ v i) (at_ v i - at_ b.1 i)
def apartF (a b : Box) (i : Nat) : Int := max 0 (max (at_ a.1 i - at_ b.2.1 i) (at_ b.1 i - at_ a.2.1 i))
def keyF (a b : List Int) (i : Nat) : Int := max (at_ a i - at_ b i) (at_ b i - at_ a i)
def nearS (m : Int) (b : Box) (v : List Int) : Int × Int := if basked m b v then (sumK m v.length (nearF b v), 0) else (0, 1)
def farS (m : Int) (b : Box) (v : List Int) : Int × Int := if basked m b v then (sumK m v.length (farF b v), 0) else (0, 1)
def apartS (m : Int) (a b : Box) : Int × Int := if isM m && balike a b then (sumK m a.1.length (apartF a b), 0) else (0, 1)
def nearestS (b : Box) (v : List Int) : List Int := tab v.length fun i => min (max (at_ v i) (at_ b.1 i)) (at_ b.2.1 i)
def farthestS (b : Box) (v : List Int) : List Int := tab v.length fun i => if at_ v i - at_ b.1 i < at_ b.2.1 i - at_ v i then at_ b.2.1 i else at_ b.1 i
def cutOk (b : Box) (axis at' : Int) : Bool := bval b && (decide (0 ≤ axis) && (decide (axis < b.1.length) && (decide (at_ b.1 axis.toNat ≤ at') && decide (at' < at_ b.2.1 axis.toNat))))
def cutS (b : Box) (axis at' : Int) : Box × Box × Int :=
  if cutOk b axis at' then ((b.1, b.2.1.set axis.toNat at', ()), (b.1.set axis.toNat (at' + 1), b.2.1, ()), 0) else (noBox, noBox, 1)
/-- The first place with the greatest number. -/
def amax (n : Nat) (w : Nat → Int) : Nat := (List.range n).foldl (fun k i => if w k < w i then i else k) 0
def widthF (b : Box) (i : Nat) : Int := at_ b.2.1 i - at_ b.1 i
def splitS (b : Box) : Int × Int × Int :=
  if bval b then (if widthF b (amax b.1.length (widthF b)) = 0 then (0, 0, 4) else (amax b.1.length (widthF b), at_ b.1 (amax b.1.length (widthF b)) + widthF b (amax b.1.length (widthF b)) / 2, 0)) else (0, 0, 1)
def row (l : List (List Int)) (i : Nat) : List Int := l.getD i []
def mnK (l : List (List Int)) (m k : Nat) : Int := (List.range m).foldl (fun s i => min s (at_ (row l i) k)) (at_ (row l 0) k)
def mxK (l : List (List Int)) (m k : Nat) : Int := (List.range m).foldl (fun s i => max s (at_ (row l i) k)) (at_ (row l 0) k)
def ofOk (l : List (List Int)) : Bool := decide (1 ≤ l.length) && upto l.length (fun i => bvec (row l i) && decide ((row l i).length = (row l 0).length))
def ofB (l : List (List Int)) (m : Nat) : Box := (tab (row l 0).length (mnK l m), tab (row l 0).length (mxK l m), ())
def ofS (l : List (List Int)) : Box × Int := if ofOk l then (ofB l l.length, 0) else (noBox, 1)
def joinB (a b : Box) : Box := (tab a.1.length fun i => min (at_ a.1 i) (at_ b.1 i), tab a.2.1.length fun i => max (at_ a.2.1 i) (at_ b.2.1 i), ())
def meetB (a b : Box) : Box := (tab a.1.length fun i => max (at_ a.1 i) (at_ b.1 i), tab a.2.1.length fun i => min (at_ a.2.1 i) (at_ b.2.1 i), ())
def joinS (a b : Box) : Box × Int := if balike a b then (joinB a b, 0) else (noBox, 1)
def meetS (a b : Box) : Box × Bool × Int := if balike a b then (if bval (meetB a b) then (meetB a b, true, 0) else (noBox, false, 0)) else (noBox, false, 1)
def innerS (b : Box) (p : List Int) : List Int := tab b.1.length fun k => at_ b.1 k + Int.tmod (if k < p.length then at_ p k else 0) (at_ b.2.1 k - at_ b.1 k + 1)
/-- The first place where a number stands. -/
def indexS (x : Int) : List Int → Int
  | [] => -1
  | y :: v => if x = y then 0 else if indexS x v = -1 then -1 else indexS x v + 1
def maxS (v : List Int) : Int := (List.range v.length).foldl (fun s i => max s (at_ v i)) (at_ v 0)
def fewB (b : Box) : Bool := decide (b.1.length ≤ 40) && decide (b.2.1.length ≤ 40)
def shortB (l : List (List Int)) : Bool := upto l.length (fun i => decide ((row l i).length ≤ 40)) && decide (l.length ≤ 20)
def sm (v : List Int) : Prop := v.length ≤ 64 ∧ ∀ i, -4000 ≤ at_ v i ∧ at_ v i ≤ 4000
end Go.PL
namespace Go.Proofs.Ytdnofflnfchcbaa
open Go.AM Go.PL
set_option linter.unusedVariables false

abbrev U16 : Ty := .int .u16
abbrev NumT : Ty := .pair I (.pair I .unit)
abbrev HalvT : Ty := .pair BX (.pair BX (.pair I .unit))
abbrev MidT : Ty := .pair I (.pair I (.pair I .unit))
abbrev BoxdT : Ty := .pair BX (.pair .bool (.pair I .unit))
def howS (how : FuncId) (x y : Int) : Int := if how = 58 then min x y else if how = 57 then max x y else x - y
def zipS (a b : List Int) (how : FuncId) : List Int := tab a.length fun i => howS how (at_ a i) (at_ b i)

def bvecSp : FSpec := ⟨[L], [.bool], fun _ => True, fun v => bvec v⟩
def bvalSp : FSpec := ⟨[BX], [.bool], fun _ => True, fun b => bval b⟩
def alikSp : FSpec := ⟨[BX, BX], [.bool], fun _ => True, fun x => balike x.1 x.2⟩
def bhasSp : FSpec := ⟨[BX, L], [.bool], fun _ => True, fun x => bhas x.1 x.2⟩
def binsSp : FSpec := ⟨[BX, BX], [.bool], fun _ => True, fun x => binside x.1 x.2⟩
def isMSp : FSpec := ⟨[I], [.bool], fun _ => True, fun m => isM m⟩
def askSp : FSpec := ⟨[I, BX, L], [.bool], fun _ => True, fun x => basked x.1 x.2.1 x.2.2⟩
def minSp : FSpec := ⟨[I, I], [I], fun _ => True, fun x => min (x.1 : Int) x.2⟩
def maxSp : FSpec := ⟨[I, I], [I], fun _ => True, fun x => max (x.1 : Int) x.2⟩
def widSp : FSpec := ⟨[I, I], [I], fun x => isI64 ((x.1 : Int) - x.2), fun x => (x.1 : Int) - x.2⟩
def nrSp : FSpec := ⟨[I, I, I], [I], fun x => isI64 ((x.1 : Int) - x.2.2) ∧ isI64 ((x.2.2 : Int) - x.2.1), fun x => max 0 (max ((x.1 : Int) - x.2.2) ((x.2.2 : Int) - x.2.1))⟩
def frSp : FSpec := ⟨[I, I, I], [I], fun x => isI64 ((x.2.1 : Int) - x.2.2) ∧ isI64 ((x.2.2 : Int) - x.1), fun x => max ((x.2.1 : Int) - x.2.2) ((x.2.2 : Int) - x.1)⟩
def zipSp : FSpec := ⟨[L, L, .fnc], [L], fun x => sm x.1 ∧ sm x.2.1 ∧ (x.1 : List Int).length ≤ (x.2.1 : List Int).length ∧ (x.2.2 = 58 ∨ x.2.2 = 57 ∨ x.2.2 = 49),
  fun x => zipS x.1 x.2.1 x.2.2⟩
def clnG : GSpec := ⟨[L], 3, I, fun v => (v : List Int).length ≤ 1000000, fun v => v⟩
def idxSp : FSpec := ⟨[L, I], [I], fun _ => True, fun x => indexS x.2 x.1⟩
def mxSp : FSpec := ⟨[L], [I], fun v => 1 ≤ (v : List Int).length, fun v => maxS v⟩
def nearSp : FSpec := ⟨[I, BX, L], [I, I], fun _ => True, fun x => nearS x.1 x.2.1 x.2.2⟩
def farSp : FSpec := ⟨[I, BX, L], [I, I], fun _ => True, fun x => farS x.1 x.2.1 x.2.2⟩
def apartSp : FSpec := ⟨[I, BX, BX], [I, I], fun _ => True, fun x => apartS x.1 x.2.1 x.2.2⟩
def rNearSp : FSpec := ⟨[I, BX, L], [NumT], fun _ => True, fun x => ((nearS x.1 x.2.1 x.2.2).1, (nearS x.1 x.2.1 x.2.2).2, ())⟩
def rFarSp : FSpec := ⟨[I, BX, L], [NumT], fun _ => True, fun x => ((farS x.1 x.2.1 x.2.2).1, (farS x.1 x.2.1 x.2.2).2, ())⟩
def rApartSp : FSpec := ⟨[I, BX, BX], [NumT], fun _ => True, fun x => ((apartS x.1 x.2.1 x.2.2).1, (apartS x.1 x.2.1 x.2.2).2, ())⟩
def rKeySp : FSpec := ⟨[I, L, L], [I], fun x => isM x.1 = true ∧ sm x.2.1 ∧ sm x.2.2 ∧ (x.2.1 : List Int).length ≤ (x.2.2 : List Int).length, fun x => sumK x.1 (x.2.1 : List Int).length (keyF x.2.1 x.2.2)⟩
def rNearestSp : FSpec := ⟨[BX, L], [L], fun x => bval x.1 = true ∧ (x.2 : List Int).length = (x.1.1 : List Int).length, fun x => nearestS x.1 x.2⟩
def rFarthestSp : FSpec := ⟨[BX, L], [L], fun x => bval x.1 = true ∧ bvec x.2 = true ∧ (x.2 : List Int).length = (x.1.1 : List Int).length, fun x => farthestS x.1 x.2⟩
def cutSp : FSpec := ⟨[BX, I, I], [BX, BX, I], fun _ => True, fun x => cutS x.1 x.2.1 x.2.2⟩
def rCutSp : FSpec := ⟨[BX, I, I], [HalvT], fun _ => True, fun x => ((cutS x.1 x.2.1 x.2.2).1, (cutS x.1 x.2.1 x.2.2).2.1, (cutS x.1 x.2.1 x.2.2).2.2, ())⟩
def splitSp : FSpec := ⟨[BX], [I, I, I], fun _ => True, fun b => splitS b⟩
def rSplitSp : FSpec := ⟨[BX], [MidT], fun _ => True, fun b => ((splitS b).1, (splitS b).2.1, (splitS b).2.2, ())⟩
def ofSp : FSpec := ⟨[LL], [BX, I], fun l => True, fun l => ofS l⟩
def rOfSp : FSpec := ⟨[LL], [BoxdT], fun l => True, fun l => ((ofS l).1, ofOk l, (ofS l).2, ())⟩
def joinSp : FSpec := ⟨[BX, BX], [BX, I], fun _ => True, fun x => joinS x.1 x.2⟩
def rJoinSp : FSpec := ⟨[BX, BX], [BoxdT], fun _ => True, fun x => ((joinS x.1 x.2).1, balike x.1 x.2, (joinS x.1 x.2).2, ())⟩
def meetSp : FSpec := ⟨[BX, BX], [BX, .bool, I], fun _ => True, fun x => meetS x.1 x.2⟩
def rMeetSp : FSpec := ⟨[BX, BX], [BoxdT], fun _ => True, fun x => ((meetS x.1 x.2).1, (meetS x.1 x.2).2.1, (meetS x.1 x.2).2.2, ())⟩
def same6Sp : FSpec := ⟨[L, L], [.bool], fun _ => True, fun x => decide ((x.1 : List Int) = x.2)⟩
def sameBSp : FSpec := ⟨[BX, BX], [.bool], fun _ => True, fun x => decide ((x.1 : Box) = x.2)⟩
def fewSp : FSpec := ⟨[BX], [.bool], fun _ => True, fun b => fewB b⟩
def shortSp : FSpec := ⟨[LL], [.bool], fun _ => True, fun l => shortB l⟩
def innerSp : FSpec := ⟨[BX, .arr U16], [L], fun x => bval x.1 = true, fun x => innerS x.1 x.2⟩

def loopsB (f : FuncId) (r : Nat) : List LA :=
  if Nat.beq f 69 then [.slot 8 I] else
  if Nat.beq f 68 then [.slot 8 I] else
  if Nat.beq f 67 then [.slot 10 I] else
  if Nat.beq f 48 then [.gslot 7 3 I, .slot 11 I] else
  if Nat.beq f 22 then [.slot 20 I] else
  if Nat.beq f 61 then [.slot 9 I, .cell 1 0 I] else
  if Nat.beq f 46 then [.slot 8 I, .cell 0 0 I] else
  if Nat.beq f 50 then [.slot 8 I] else
  if Nat.beq f 51 then [.slot 3 I, .slot 4 I] else
  if Nat.beq f 34 then [.slot 30 I, .cell 10 0 L, .cell 10 1 L] else
  if Nat.beq f 25 then [.slot 3 I] else
  if Nat.beq f 39 then [.slot 3 I] else
  if Nat.beq f 23 then [.slot 5 I] else
  if Nat.beq f 28 then [.slot 7 I, .slot 8 I] else
  if Nat.beq f 30 then [.gslot 5 3 I, .slot 6 I] else
  if Nat.beq f 31 then [.gslot 5 3 I, .slot 6 I] else
  if Nat.beq f 18 then [.gslot 7 3 I, .gslot 8 3 I, .slot 9 I] else
  if Nat.beq f 20 then (if Nat.beq r 6 then [.slot 4 I, .slot 5 I] else [.slot 6 I]) else
  if Nat.beq f 36 then (if Nat.beq r 2 then [.slot 3 I] else if Nat.beq r 10 then [.gcell 1 0 3 I, .gcell 1 1 3 I, .slot 5 I] else [.gcell 1 0 3 I, .gcell 1 1 3 I, .slot 6 I, .slot 7 I, .slot 8 I]) else
  if Nat.beq f 38 then [.gcell 1 0 3 I, .gcell 1 1 3 I, .slot 7 I] else
  if Nat.beq f 54 then [.slot 5 I] else
  []
def hintB (f : FuncId) : Hint := ⟨loopsB f, fun r => bif Nat.beq f 14 && Nat.beq r 6 then .all else .split, fun _ => .split, fun _ => 0⟩
def tB1 : List (FuncId × FSpec) := [(55, bvecSp), (25, bvecSp), (26, isMSp), (58, minSp), (57, maxSp),
  (49, widSp), (42, nrSp), (43, frSp), (50, idxSp), (51, mxSp), (54, same6Sp),
  (28, rKeySp)]
noncomputable def B0 : Ctx := mkctx bs [] [] hintB
noncomputable def B1 : Ctx := mkctx bs tB1 [] hintB
def tB2 : List (FuncId × FSpec) := (24, bvalSp) :: (39, bvalSp) :: (48, zipSp) :: tB1
noncomputable def B2 : Ctx := mkctx bs tB2 [] hintB
noncomputable def B2G : Ctx := mkctx bs tB2 [(47, clnG)] hintB
def tB3 : List (FuncId × FSpec) := (44, alikSp) :: (53, alikSp) :: (22, bhasSp) :: (23, bhasSp) :: (52, askSp) ::
  (30, rNearestSp) :: (31, rFarthestSp) :: (36, rOfSp) :: (47, clnG.data) :: tB2
noncomputable def B3 : Ctx := mkctx bs tB3 [] hintB
end Go.Proofs.Ytdnofflnfchcbaa
