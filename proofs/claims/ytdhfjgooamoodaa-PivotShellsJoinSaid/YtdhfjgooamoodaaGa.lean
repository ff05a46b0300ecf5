import Derived.Test.YtdhfjgooamoodaaTk
namespace Go.PL
open Go.AM
set_option linter.unusedVariables false

/-! ### Pivots, plain -/
abbrev Shell := Int × Int × Unit
/-- The first place with the least number. -/
def amin (n : Nat) (w : Nat → Int) : Nat := amax n (fun i => -(w i))
def foldN {α : Type} (n : Nat) (f : α → Nat → α) (a : α) : α := (List.range n).foldl f a
theorem foldN_zero {α : Type} (f : α → Nat → α) (a : α) : foldN 0 f a = a := rfl
theorem foldN_succ {α : Type} (n : Nat) (f : α → Nat → α) (a : α) : foldN (n + 1) f a = f (foldN n f a) n := by
  unfold foldN
  rw [List.range_succ, List.foldl_append]
  rfl
def minK (n : Nat) (w : Nat → Int) (a : Int) : Int := foldN n (fun s i => min s (w i)) a
def maxK (n : Nat) (w : Nat → Int) (a : Int) : Int := foldN n (fun s i => max s (w i)) a
def metB (m : Int) : Bool := decide (1 ≤ m) && decide (m ≤ 3)
def fitB (l : List (List Int)) : Bool := upto l.length (fun k => alikeB (l.getD 0 []) (l.getD k [])) && (decide (1 ≤ l.length) && decide (l.length ≤ 4096))
def pivB (m : Int) (p : List (List Int)) : Bool := metB m && (fitB p && decide (p.length ≤ 8))
def bothB (m : Int) (p l : List (List Int)) : Bool := pivB m p && (fitB l && alikeB (p.getD 0 []) (l.getD 0 []))
def keyAt (m : Int) (p : List (List Int)) (v : List Int) (i : Nat) : Int := keyS m (p.getD i []) v
def keysS (m : Int) (p : List (List Int)) (v : List Int) : List Int := tab p.length (keyAt m p v)
def nearI (m : Int) (p : List (List Int)) (v : List Int) : Nat := amin p.length (keyAt m p v)
def nearK (m : Int) (p : List (List Int)) (v : List Int) : Int := keyAt m p v (nearI m p v)
def nearestS (m : Int) (p : List (List Int)) (v : List Int) : Int × Int × Int := if pivB m p = true ∧ alikeB (p.getD 0 []) v = true then ((nearI m p v : Int), nearK m p v, 0) else (0, 0, 1)
def coverS (m : Int) (p l : List (List Int)) : Int := maxK l.length (fun i => nearK m p (l.getD i [])) 0
def coverR (m : Int) (p l : List (List Int)) : Int × Int := if bothB m p l = true then (coverS m p l, 0) else (0, 1)
def tableS (m : Int) (p l : List (List Int)) : List (List Int) := tabL l.length (fun i => keysS m p (l.getD i []))
def tableR (m : Int) (p l : List (List Int)) : List (List Int) × Int := if bothB m p l = true then (tableS m p l, 0) else ([], 1)
/-- The least key of a vector and those that are chosen. -/
def leastP (m : Int) (l : List (List Int)) (out : List Int) (k : Nat) : Int := out.foldl (fun s j => min s (keyS m (l.getD j.toNat []) (l.getD k []))) 134217728
def nextP (m : Int) (l : List (List Int)) (out : List Int) : Nat := amax l.length (leastP m l out)
def stepP (m : Int) (l : List (List Int)) (out : List Int) : List Int := if leastP m l out (nextP m l out) = 0 then out else out ++ [(nextP m l out : Int)]
def chooseP (m : Int) (l : List (List Int)) : Nat → List Int
  | 0 => [0]
  | n + 1 => stepP m l (chooseP m l n)
def chooseB (m : Int) (l : List (List Int)) (n : Int) : Bool := metB m && (fitB l && (decide (1 ≤ n) && decide (n ≤ 8)))
def chooseR (m : Int) (l : List (List Int)) (n : Int) : List Int × Int := if chooseB m l n = true then (chooseP m l (n.toNat - 1), 0) else ([], 1)
def shB (s : Shell) : Bool := decide (0 ≤ s.1) && (decide (s.1 ≤ s.2.1) && decide (s.2.1 ≤ 134217728))
def sh0 : Shell := (0, 0, ())
def validB (l : List Shell) : Bool := upto l.length (fun k => shB (l.getD k sh0)) && decide (l.length ≤ 8)
def withS (p : Shell) (x : Int) : Shell := (min p.1 x, max p.2.1 x, ())
def hasS (p : Shell) (x : Int) : Bool := decide (p.1 ≤ x) && decide (x ≤ p.2.1)
def shellS (m : Int) (p l : List (List Int)) (k : Nat) : Shell := (minK l.length (fun i => keyAt m p (l.getD i []) k) (keyAt m p (l.getD 0 []) k), maxK l.length (fun i => keyAt m p (l.getD i []) k) (keyAt m p (l.getD 0 []) k), ())
def shellsS (m : Int) (p l : List (List Int)) : List Shell := tabL p.length (shellS m p l)
def shellsR (m : Int) (p l : List (List Int)) : List Shell × Int := if bothB m p l = true then (shellsS m p l, 0) else ([], 1)
def joinSh (a b : List Shell) (k : Nat) : Shell := (min (a.getD k sh0).1 (b.getD k sh0).1, max (a.getD k sh0).2.1 (b.getD k sh0).2.1, ())
def joinS (a b : List Shell) : List Shell := tabL a.length (joinSh a b)
def joinB (a b : List Shell) : Bool := validB a && (validB b && decide (a.length = b.length))
def joinR (a b : List Shell) : List Shell × Int := if joinB a b = true then (joinS a b, 0) else ([], 1)
def inB (a : List Shell) (ks : List Int) : Bool := validB a && (decide (ks.length = a.length) && upto a.length (fun k => hasS (a.getD k sh0) (ks.getD k 0)))
def askB (m : Int) (a : List Shell) (ks : List Int) : Bool := metB m && (validB a && (decide (ks.length = a.length) && upto ks.length (fun k => decide (0 ≤ ks.getD k 0) && decide (ks.getD k 0 ≤ 134217728))))
def gapS (m : Int) (s : Shell) (x : Int) : Int := Go.Proofs.Ytdhfjgooamoodaa.lowS m x (max s.1 (min x s.2.1))
def reachS (m : Int) (s : Shell) (x : Int) : Int := Go.Proofs.Ytdhfjgooamoodaa.highS m x s.2.1
def loS (m : Int) (a : List Shell) (ks : List Int) : Int := maxK a.length (fun k => gapS m (a.getD k sh0) (ks.getD k 0)) 0
def hiS (m : Int) (a : List Shell) (ks : List Int) : Int := minK a.length (fun k => reachS m (a.getD k sh0) (ks.getD k 0)) 134217728
def loR (m : Int) (a : List Shell) (ks : List Int) : Int × Int := if askB m a ks = true then (loS m a ks, 0) else (0, 1)
def hiR (m : Int) (a : List Shell) (ks : List Int) : Int × Int := if askB m a ks = true then (hiS m a ks, 0) else (0, 1)
def few40 (l : List (List Int)) (most : Int) : Bool := decide ((l.length : Int) ≤ most) && upto l.length (fun k => decide ((l.getD k []).length ≤ 40))
def minL (l : List Int) : Int := minK l.length (fun i => l.getD i 0) (l.getD 0 0)
def maxL (l : List Int) : Int := maxK l.length (fun i => l.getD i 0) (l.getD 0 0)
/-- The first place where something holds; -1 if there is none. -/
def firstI (n : Nat) (p : Nat → Bool) : Int := foldN n (fun s i => if s < 0 ∧ p i = true then (i : Int) else s) (-1)
def idxS (l : List Int) (x : Int) : Int := firstI l.length (fun i => decide (l.getD i 0 = x))
end Go.PL
namespace Go.Proofs.Ytdhfjgooamoodaa
open Go.AM Go.PL
set_option linter.unusedVariables false
abbrev PlaceT : Ty := .pair I (.pair I (.pair I .unit))
abbrev NumsT : Ty := .pair L (.pair I .unit)
abbrev RowsT : Ty := .pair LL (.pair I .unit)
abbrev MadeT : Ty := .pair SL (.pair I .unit)
def fitSp : FSpec := ⟨[LL], [.bool], fun _ => True, fun l => fitB l⟩
def pivSp : FSpec := ⟨[I, LL], [.bool], fun _ => True, fun x => pivB x.1 x.2⟩
def bothSp : FSpec := ⟨[I, LL, LL], [.bool], fun _ => True, fun x => bothB x.1 x.2.1 x.2.2⟩
def minSp : FSpec := ⟨[L], [I], fun l => 1 ≤ (l : List Int).length, fun l => minL l⟩
def maxSp : FSpec := ⟨[L], [I], fun l => 1 ≤ (l : List Int).length, fun l => maxL l⟩
def idxSp : FSpec := ⟨[L, I], [I], fun _ => True, fun x => idxS x.1 x.2⟩
def mulSp : FSpec := ⟨[.int .u64, .int .u64], [.int .u64, .int .u64], fun x => (x.1 : Int) ≤ 1000000 ∧ (x.2 : Int) ≤ 1000000, fun x => ((0 : Int), (x.1 : Int) * x.2)⟩
def repG : GSpec := ⟨[L, I], 3, I, fun x => (x.1 : List Int).length = 1 ∧ 1 ≤ (x.2 : Int) ∧ (x.2 : Int) ≤ 1000000, fun x => List.replicate (x.2 : Int).toNat ((x.1 : List Int).getD 0 0)⟩
def keysSp : FSpec := ⟨[I, LL, L], [L], fun x => pivB x.1 x.2.1 = true ∧ alikeB ((x.2.1 : List (List Int)).getD 0 []) x.2.2 = true, fun x => keysS x.1 x.2.1 x.2.2⟩
def nearP3 (m : Int) (p : List (List Int)) (v : List Int) : Prop := metB m = true ∧ 1 ≤ p.length ∧ ∀ k, k < p.length → alikeB (p.getD k []) v = true
def near1Sp : FSpec := ⟨[I, LL, L], [PlaceT], fun x => nearP3 x.1 x.2.1 x.2.2, fun x => ((nearI x.1 x.2.1 x.2.2 : Int), nearK x.1 x.2.1 x.2.2, (0 : Int), ())⟩
def nearestSp : FSpec := ⟨[I, LL, L], [I, I, I], fun _ => True, fun x => nearestS x.1 x.2.1 x.2.2⟩
def rNearestSp : FSpec := ⟨[I, LL, L], [PlaceT], fun _ => True, fun x => ((nearestS x.1 x.2.1 x.2.2).1, (nearestS x.1 x.2.1 x.2.2).2.1, (nearestS x.1 x.2.1 x.2.2).2.2, ())⟩
def coverSp : FSpec := ⟨[I, LL, LL], [I, I], fun _ => True, fun x => coverR x.1 x.2.1 x.2.2⟩
def rCoverSp : FSpec := ⟨[I, LL, LL], [PlaceT], fun _ => True, fun x => ((0 : Int), (coverR x.1 x.2.1 x.2.2).1, (coverR x.1 x.2.1 x.2.2).2, ())⟩
def tableSp : FSpec := ⟨[I, LL, LL], [LL, I], fun _ => True, fun x => tableR x.1 x.2.1 x.2.2⟩
def rTableSp : FSpec := ⟨[I, LL, LL], [RowsT], fun _ => True, fun x => ((tableR x.1 x.2.1 x.2.2).1, (tableR x.1 x.2.1 x.2.2).2, ())⟩
def chooseSp : FSpec := ⟨[I, LL, I], [L, I], fun _ => True, fun x => chooseR x.1 x.2.1 x.2.2⟩
def rChooseSp : FSpec := ⟨[I, LL, I], [NumsT], fun _ => True, fun x => ((chooseR x.1 x.2.1 x.2.2).1, (chooseR x.1 x.2.1 x.2.2).2, ())⟩
def allShSp : FSpec := ⟨[], [SH], fun _ => True, fun _ => ((0 : Int), (134217728 : Int), ())⟩
def ofShSp : FSpec := ⟨[SH], [SH], fun _ => True, fun s => s⟩
def withSp : FSpec := ⟨[SH, I], [SH], fun _ => True, fun x => withS x.1 x.2⟩
def hasSp : FSpec := ⟨[SH, I], [.bool], fun _ => True, fun x => hasS x.1 x.2⟩
def validShSp : FSpec := ⟨[SL], [.bool], fun _ => True, fun l => validB l⟩
def shellsSp : FSpec := ⟨[I, LL, LL], [SL, I], fun _ => True, fun x => shellsR x.1 x.2.1 x.2.2⟩
def rShellsSp : FSpec := ⟨[I, LL, LL], [MadeT], fun _ => True, fun x => ((shellsR x.1 x.2.1 x.2.2).1, (shellsR x.1 x.2.1 x.2.2).2, ())⟩
def joinSp : FSpec := ⟨[SL, SL], [SL, I], fun _ => True, fun x => joinR x.1 x.2⟩
def rJoinSp : FSpec := ⟨[SL, SL], [MadeT], fun _ => True, fun x => ((joinR x.1 x.2).1, (joinR x.1 x.2).2, ())⟩
def inSp : FSpec := ⟨[SL, L], [.bool], fun _ => True, fun x => inB x.1 x.2⟩
def askSp : FSpec := ⟨[I, SL, L], [.bool], fun _ => True, fun x => askB x.1 x.2.1 x.2.2⟩
def loSp : FSpec := ⟨[I, SL, L], [I, I], fun _ => True, fun x => loR x.1 x.2.1 x.2.2⟩
def hiSp : FSpec := ⟨[I, SL, L], [I, I], fun _ => True, fun x => hiR x.1 x.2.1 x.2.2⟩
def rLoSp : FSpec := ⟨[I, SL, L], [PlaceT], fun _ => True, fun x => ((0 : Int), (loR x.1 x.2.1 x.2.2).1, (loR x.1 x.2.1 x.2.2).2, ())⟩
def rHiSp : FSpec := ⟨[I, SL, L], [PlaceT], fun _ => True, fun x => ((0 : Int), (hiR x.1 x.2.1 x.2.2).1, (hiR x.1 x.2.1 x.2.2).2, ())⟩
def sameLSp : FSpec := ⟨[L, L], [.bool], fun _ => True, fun x => decide ((x.1 : List Int) = x.2)⟩
def sameRSp : FSpec := ⟨[LL, LL], [.bool], fun _ => True, fun x => decide ((x.1 : List (List Int)) = x.2)⟩
def sameShSp : FSpec := ⟨[SL, SL], [.bool], fun _ => True, fun x => decide ((x.1 : List Shell) = x.2)⟩
def fewSp9 : FSpec := ⟨[LL, I], [.bool], fun _ => True, fun x => few40 x.1 x.2⟩
def gap2Sp : FSpec := ⟨[I, I, I, I], [I], fun x => keyP x.2.1 ∧ keyP x.2.2.1 ∧ keyP x.2.2.2 ∧ (x.2.1 : Int) ≤ x.2.2.1, fun x => lowS x.1 x.2.2.2 (max x.2.1 (min x.2.2.2 x.2.2.1))⟩
def reach2Sp : FSpec := ⟨[I, I, I, I], [I], fun x => keyP x.2.1 ∧ keyP x.2.2.1 ∧ keyP x.2.2.2 ∧ (x.2.1 : Int) ≤ x.2.2.1, fun x => highS x.1 x.2.2.2 x.2.2.1⟩

def SHt : TypeId := 57
def It : TypeId := 3
def LIt : TypeId := 23
def loopsG (f : FuncId) (r : Nat) : List LA :=
  if Nat.beq f 9 || Nat.beq f 19 || Nat.beq f 20 || Nat.beq f 38 || Nat.beq f 40 then [.slot 5 I] else
  if Nat.beq f 30 || Nat.beq f 39 then [.slot 3 I] else
  if Nat.beq f 68 then [.slot 7 I] else
  if Nat.beq f 48 || Nat.beq f 75 then [.slot 3 I, .slot 4 I] else
  if Nat.beq f 49 then [.slot 8 I] else
  if Nat.beq f 43 then [.gslot 7 It I, .slot 8 I] else
  if Nat.beq f 90 then [.slot 8 I] else
  if Nat.beq f 50 then [.slot 8 I, .cell 1 0 I, .cell 1 1 I, .cell 1 2 I] else
  if Nat.beq f 15 then (if Nat.beq r 5 then [.gslot 7 It I, .gslot 8 LIt L] else [.gslot 7 It I, .gslot 8 LIt L, .slot 9 I, .slot 10 I, .slot 11 I]) else
  if Nat.beq f 17 then [.slot 8 I, .slot 9 I] else
  if Nat.beq f 18 then [.gslot 8 LIt L, .slot 9 I] else
  if Nat.beq f 53 then [.gslot 7 It I, .slot 8 I] else
  if Nat.beq f 34 then (if Nat.beq r 6 then [.gslot 8 SHt SH, .slot 9 I, .cell 1 0 LL] else [.gslot 8 SHt SH, .slot 11 I, .cell 1 0 LL, .cell 18 0 I, .cell 18 1 I]) else
  if Nat.beq f 35 then [.gslot 5 SHt SH, .slot 6 I] else
  if Nat.beq f 36 || Nat.beq f 37 then [.slot 8 I, .slot 9 I] else
  if Nat.beq f 47 then [.gslot 7 It I, .slot 12 I] else
  if Nat.beq f 13 then [.slot 10 I, .slot 25 I] else
  if Nat.beq f 14 then [.gslot 8 LIt L, .slot 32 I] else
  if Nat.beq f 23 then (if Nat.beq r 6 then [.gslot 10 SHt SH, .slot 27 I] else [.gslot 10 SHt SH, .slot 45 I, .cell 14 0 I, .cell 14 1 I]) else
  if Nat.beq f 24 then [.slot 7 I] else
  if Nat.beq f 28 then [.slot 19 I] else
  if Nat.beq f 33 then [.gslot 6 SHt SH, .slot 27 I] else
  if Nat.beq f 58 then [.slot 12 I, .slot 33 I] else
  if Nat.beq f 45 then [.slot 11 I, .cell 1 0 I, .cell 1 1 LL, .gcell 1 2 It I, .keep 2 It I] else
  if Nat.beq f 11 then [.gslot 10 It I, .cell 1 0 I, .cell 1 1 LL, .gcell 1 2 It I] else
  []
def hintG (f : FuncId) : Hint := ⟨loopsG f, fun r => bif (Nat.beq f 43 && Nat.beq r 9) || (Nat.beq f 58 && Nat.beq r 9) then .all else .split, fun _ => .split,
  fun r => bif (Nat.beq f 15 && Nat.beq r 5) || (Nat.beq f 11 && Nat.beq r 7) then 1000 else 0⟩
def hintRp (f : FuncId) : Hint := if Nat.beq f 999999999 then ⟨fun _ => [], fun _ => .split, fun _ => .split, fun r => bif Nat.beq r 1 then 1 else 0⟩ else hintG f
def tG0 : List (FuncId × FSpec) := [(54, validSp), (27, keySp), (22, alikeSp), (76, keySp), (66, validSp),
  (52, alikeSp), (71, mValSp), (60, gapSp), (62, reachSp), (32, highSp), (88, lowSp), (89, highSp)]
theorem satG0 : AllSat bs.P tG0 := ⟨sat_valid, sat_key, sat_alike, sat_rKey, sat_rValid, sat_rAlike, sat_mVal, sat_gap, sat_reach, sat_high, sat_low2, sat_high2, trivial⟩
noncomputable def G0 : Ctx := mkctx bs tG0 [] hintG
theorem ssG0 : SpecSound G0 := mkctx_sound satG0 trivial
end Go.Proofs.Ytdhfjgooamoodaa
