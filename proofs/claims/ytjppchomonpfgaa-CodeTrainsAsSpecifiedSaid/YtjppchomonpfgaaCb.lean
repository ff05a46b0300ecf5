import Derived.Test.YtjppchomonpfgaaCa
namespace Go.Proofs.Ytjppchomonpfgaa
open Go.AM Go.PL
set_option linter.unusedVariables false
abbrev VecT : Ty := .pair L (.pair I .unit)
abbrev IntvT : Ty := .pair I (.pair I .unit)
def cutSp : FSpec := ⟨[L, I], [.bool], fun _ => True, fun x => cutB x.1 x.2⟩
def endSp : FSpec := ⟨[L, I, I], [I], fun x => 0 ≤ (x.2.2 : Int) ∧ (x.2.2 : Int) ≤ 1000, fun x => endN x.1 x.2.1 (x.2.2 : Int).toNat⟩
def partSp : FSpec := ⟨[BK, I, L], [L], fun x => 0 ≤ (x.2.1 : Int) ∧ (x.2.1 : Int) < (x.1.2.1 : List Int).length ∧ cutB x.1.2.1 x.1.1 = true ∧ ((x.2.2 : List Int).length : Int) = x.1.1, fun x => partS x.1.2.1 x.1.1 (x.2.1 : Int).toNat x.2.2⟩
def ofSp : FSpec := ⟨[PT, L], [L], fun x => 0 ≤ (x.1.2.1 : Int) ∧ (x.1.2.1 : Int) ≤ x.1.2.2.1 ∧ (x.1.2.2.1 : Int) ≤ (x.2 : List Int).length, fun x => ((x.2 : List Int).drop (x.1.2.1 : Int).toNat).take ((x.1.2.2.1 : Int).toNat - (x.1.2.1 : Int).toNat)⟩
def nearSp : FSpec := ⟨[I, LL, L], [I, I], fun x => (1 ≤ (x.1 : Int) ∧ (x.1 : Int) ≤ 3) ∧ (1 ≤ (x.2.1 : List (List Int)).length ∧ (x.2.1 : List (List Int)).length ≤ 1000) ∧ ∀ i, i < (x.2.1 : List (List Int)).length → alikeB ((x.2.1 : List (List Int)).getD i []) x.2.2 = true,
  fun x => ((bestS x.1 x.2.1 x.2.2 : Int), leastS x.1 x.2.1 x.2.2)⟩
def chkSp : FSpec := ⟨[BK], [I], fun _ => True, fun b => checkS b⟩
def encSp : FSpec := ⟨[BK, I, L], [L], fun x => rightB x.1 x.2.1 x.2.2 x.2.2 = true, fun x => encodeS x.1 x.2.1 x.2.2⟩
def decSp : FSpec := ⟨[BK, L], [L, I], fun x => bookB x.1 = true ∧ (x.2 : List Int).length ≤ 1000, fun x => decodeS x.1 x.2⟩
def rDecSp : FSpec := ⟨[BK, L], [VecT], fun x => bookB x.1 = true ∧ (x.2 : List Int).length ≤ 1000, fun x => ((decodeS x.1 x.2).1, (decodeS x.1 x.2).2, ())⟩
def resSp : FSpec := ⟨[BK, I, L], [I], fun x => rightB x.1 x.2.1 x.2.2 x.2.2 = true, fun x => residS x.1 x.2.1 x.2.2⟩
def tblSp : FSpec := ⟨[BK, I, L], [LL], fun x => rightB x.1 x.2.1 x.2.2 x.2.2 = true, fun x => tableS x.1 x.2.1 x.2.2⟩
def sumP (m : Int) (t : List (List Int)) (c : List Int) : Prop := (1 ≤ m ∧ m ≤ 3) ∧ c.length ≤ t.length ∧ c.length ≤ 64 ∧ ∀ k, k < c.length → (0 ≤ c.getD k 0 ∧ c.getD k 0 < (t.getD k []).length) ∧ 0 ≤ (t.getD k []).getD (c.getD k 0).toNat 0 ∧ (t.getD k []).getD (c.getD k 0).toNat 0 ≤ 134217728
def sumSp : FSpec := ⟨[I, LL, L], [I], fun x => sumP x.1 x.2.1 x.2.2, fun x => sumS x.1 x.2.1 x.2.2⟩
def bndSp : FSpec := ⟨[I, I, I], [I, I], fun x => keyP x.2.1 ∧ keyP x.2.2, fun x => (lowS x.1 x.2.1 x.2.2, highS x.1 x.2.1 x.2.2)⟩
def rBndSp : FSpec := ⟨[I, I, I], [IntvT], fun x => keyP x.2.1 ∧ keyP x.2.2, fun x => (lowS x.1 x.2.1 x.2.2, highS x.1 x.2.1 x.2.2, ())⟩
def rowsSp : FSpec := ⟨[LL, LL], [.bool], fun _ => True, fun x => decide ((x.1 : List (List Int)) = x.2)⟩
def sameBkSp : FSpec := ⟨[BK, BK], [.bool], fun _ => True, fun x => decide ((x.1 : Book) = x.2)⟩
def fewSp : FSpec := ⟨[BK], [.bool], fun _ => True, fun b => fewBk b⟩
def rightSp : FSpec := ⟨[BK, I, L, L], [.bool], fun _ => True, fun x => fewBk x.1 && rightB x.1 x.2.1 x.2.2.1 x.2.2.2⟩

def loopsC (ps qs : List LA) (f : FuncId) (r : Nat) : List LA :=
  if Nat.beq f 63 then .slot 9 I :: ps else
  if Nat.beq f 38 then [.slot 9 I] else
  if Nat.beq f 47 then [.slot 15 I, .slot 8 I, .slot 9 I] else
  if Nat.beq f 15 then [.gslot 6 3 I, .slot 17 I] else
  if Nat.beq f 16 then [.gslot 5 3 I, .slot 6 I] else
  if Nat.beq f 19 then (if Nat.beq r 3 then [.gslot 7 3 I, .slot 8 I] else [.gslot 7 3 I, .slot 9 I, .slot 10 I]) else
  if Nat.beq f 22 then (if Nat.beq r 3 then [.gslot 7 22 L, .slot 8 I] else [.gslot 7 22 L, .gslot 9 3 I, .slot 10 I]) else
  if Nat.beq f 26 then [.gslot 9 3 I, .slot 25 I, .gcell 0 0 22 L, .cell 2 0 I, .cell 2 1 I, .cell 2 2 I] else
  if Nat.beq f 27 then [.slot 8 I, .slot 16 I] else
  if Nat.beq f 28 then [.slot 7 I, .slot 8 I] else
  if Nat.beq f 35 then [.slot 7 I, .slot 12 I] else
  if Nat.beq f 36 then [.slot 7 I, .slot 8 I] else
  if Nat.beq f 43 then [.slot 5 I] else
  if Nat.beq f 59 then [.slot 7 I] else
  if Nat.beq f 25 || Nat.beq f 33 then [.slot 5 I] else
  if Nat.beq f 10 then (if Nat.beq r 4 then [.slot 3 I] else [.slot 4 I]) else
  if Nat.beq f 13 then (if Nat.beq r 5 then [.slot 4 I] else [.slot 5 I]) else
  if Nat.beq f 66 then .slot 8 I :: qs else
  if Nat.beq f 62 then [.slot 5 I, .slot 6 I] else
  []
def hintC8 (ps qs : List LA) (f : FuncId) : Hint := ⟨loopsC ps qs f, fun r => bif Nat.beq f 20 && Nat.beq r 1 then .all else .split, fun _ => .split, fun _ => 0⟩
def tD0 : List (FuncId × FSpec) := [(41, validSp), (55, keySp), (74, alikeSp), (29, keySp), (44, validSp),
  (58, alikeSp), (17, same4Sp), (34, metricSp), (51, lowSp), (52, highSp), (53, lowSp), (54, highSp)]
theorem satD0 : AllSat bs.P tD0 := ⟨sat_valid, sat_key, sat_alike, sat_rKey, sat_rValid, sat_rAlike, sat_rSame, sat_rMetric, sat_low, sat_high, sat_low2, sat_high2, trivial⟩
noncomputable def D0 (ps : List LA) : Ctx := mkctx bs tD0 [] (hintC8 ps [])
theorem ssD0 (ps : List LA) : SpecSound (D0 ps) := mkctx_sound satD0 trivial
def tD1 : List (FuncId × FSpec) := (38, cutSp) :: (43, cutSp) :: (45, endSp) :: (48, ofSp) :: (47, nearSp) :: (25, rowsSp) :: tD0
noncomputable def D1 (ps : List LA) : Ctx := mkctx bs tD1 [] (hintC8 ps [.cell 2 0 I, .cell 2 1 I, .cell 2 2 I])
def tD2 : List (FuncId × FSpec) := (49, partSp) :: tD1
noncomputable def D2 (ps : List LA) : Ctx := mkctx bs tD2 [] (hintC8 ps [])
def tD3 : List (FuncId × FSpec) := (19, encSp) :: (16, rDecSp) :: (13, chkSp) :: (10, fewSp) :: tD2
noncomputable def D3 (ps : List LA) : Ctx := mkctx bs tD3 [] (hintC8 ps [])
end Go.Proofs.Ytjppchomonpfgaa
