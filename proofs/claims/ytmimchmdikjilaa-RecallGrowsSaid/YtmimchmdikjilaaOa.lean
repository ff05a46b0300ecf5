import Derived.Test.YtmimchmdikjilaaHa
namespace Go.PL
open Go.AM
set_option linter.unusedVariables false
/-! ### Pieces, plain -/
abbrev Rst := Int × Int × Unit
abbrev Piece := List Hit × List Rst × Unit
def rest0 : Rst := (0, 0, ())
def cmpR (a b : Rst) : Int := if sgnS a.1 b.1 ≠ 0 then sgnS a.1 b.1 else sgnS a.2.1 b.2.1
def ltQ (a b : Rst) : Bool := decide (cmpR a b < 0)
def okR (x : Rst) : Bool := (decide (0 ≤ x.1) && decide (x.1 ≤ 134217728)) && (decide (1 ≤ x.2.1) && decide (x.2.1 ≤ 4096))
def okL (l : List Rst) : Bool := upto l.length fun i => okR (l.getD i rest0)
def sortedL (l : List Rst) : Bool := upto l.length fun i => decide (i = 0) || !ltQ (l.getD i rest0) (l.getD (i - 1) rest0)
def validP (p : Piece) (k : Int) : Bool := validH p.1 k && (decide ((p.2.1.length : Int) ≤ 65536) && (okL p.2.1 && sortedL p.2.1))
def underR (l : List Rst) (key : Int) : Int := ((l.filter fun x => decide (x.1 ≤ key)).map fun x => x.2.1).sum
def sureAt (p : Piece) (k : Int) (i : Nat) : Bool := decide ((i : Int) + 1 + underR p.2.1 (p.1.getD i hit0).2.2.1 ≤ k)
def sureN (p : Piece) (k : Int) (n : Nat) : Int := (((List.range n).filter fun i => sureAt p k i).length : Int)
def sureP (p : Piece) (k : Int) : Int := sureN p k p.1.length
def leastP (p : Piece) : Int := if p.2.1.length = 0 then 134217729 else (p.2.1.getD 0 rest0).1
def exactP (p : Piece) (k : Int) : Bool := if (p.1.length : Int) < k then decide (p.2.1.length = 0) else decide ((p.1.getD (p.1.length - 1) hit0).2.2.1 < leastP p)
def dropP (p : Piece) (n : Nat) : Piece := (p.1, p.2.1.drop n, ())
def needP (p : Piece) (k want : Int) : Int := (((List.range p.2.1.length).findIdx fun (n : Nat) => decide (want ≤ sureP (dropP p n) k) : Nat) : Int)
def putR : List Rst → Rst → List Rst
  | [], x => [x]
  | y :: l, x => if ltQ x y then x :: y :: l else y :: putR l x
def sortR (l : List Rst) : List Rst := l.foldl putR []
def fewP (p : Piece) : Bool := decide ((p.1.length : Int) ≤ 70) && decide ((p.2.1.length : Int) ≤ 60)
def sameP (a b : Piece) : Bool := decide (a = b)
def amongH (h : Hit) (l : List Hit) : Bool := decide (h ∈ l)
/-- Not too great for an int. -/
def smallL (l : List Rst) : Prop := l.length ≤ 1000 ∧ ∀ x ∈ l, 0 ≤ x.2.1 ∧ x.2.1 ≤ 4096
def smallP (p : Piece) : Prop := p.1.length ≤ 1000 ∧ smallL p.2.1
def boundsL (l : List Rst) : Prop := ∀ x ∈ l, 0 ≤ x.1 ∧ x.1 ≤ 134217728
def ascL (l : List Rst) : Prop := l.Pairwise (fun a b => ltQ b a = false)
/-- In order of keys and bounds. -/
def orderP (p : Piece) : Prop := p.1.Pairwise (fun a b => a.2.2.1 ≤ b.2.2.1) ∧ p.2.1.Pairwise (fun a b => a.1 ≤ b.1)
/-! what is filled in -/
def freeAt (hits : List Hit) (id : Int) : Int := id + (((List.range (hits.length + 1)).findIdx fun (n : Nat) => !hasH hits (id + (n : Int)) : Nat) : Int)
def keyF (keys : List Int) (n : Nat) (bound : Int) : Int := if keys.length = 0 then bound else min 134217728 (bound + keys.getD (n % keys.length) 0 % 20)
def fillOne (hits : List Hit) (keys : List Int) (x : Rst) (s : Int × List Hit) : Int × List Hit :=
  (freeAt hits s.1 + 1, s.2 ++ [(freeAt hits s.1, 1, keyF keys s.2.length x.1, ())])
def fillN (hits : List Hit) (keys : List Int) (x : Rst) : Nat → Int × List Hit → Int × List Hit
  | 0, s => s
  | n + 1, s => fillOne hits keys x (fillN hits keys x n s)
def fillL (hits : List Hit) (keys : List Int) (l : List Rst) (s : Int × List Hit) : Int × List Hit := l.foldl (fun s x => fillN hits keys x (min x.2.1 70).toNat s) s
def fillP (p : Piece) (id : Int) (keys : List Int) : List Hit := (fillL p.1 keys p.2.1 (id, [])).2
end Go.PL
namespace Go.Proofs.Ytmimchmdikjilaa
open Go.AM Go.PL
set_option linter.unusedVariables false
abbrev RTy : Ty := .pair I (.pair I .unit)
abbrev RLs : Ty := .arr (.pair I (.pair I .unit))
abbrev UL : Ty := .arr U16
def cmpRSp : FSpec := ⟨[RTy, RTy], [I], fun _ => True, fun x => cmpR x.1 x.2⟩
def beforeSp : FSpec := ⟨[RTy, RTy], [.bool], fun _ => True, fun x => ltQ x.1 x.2⟩
def badRSp : FSpec := ⟨[RTy], [.bool], fun _ => True, fun x => !okR x⟩
def validPSp : FSpec := ⟨[PC, I], [.bool], fun _ => True, fun x => validP x.1 x.2⟩
def underPSp : FSpec := ⟨[PC, I], [I], fun x => smallP x.1 ∧ orderP x.1, fun x => underR (x.1 : Piece).2.1 x.2⟩
def underRSp : FSpec := ⟨[RLs, I], [I], fun x => smallL x.1, fun x => underR x.1 x.2⟩
def surePSp : FSpec := ⟨[PC, I], [I], fun x => smallP x.1 ∧ orderP x.1, fun x => sureP x.1 x.2⟩
def leastPSp : FSpec := ⟨[PC], [I], fun _ => True, fun x => leastP x⟩
def exactPSp : FSpec := ⟨[PC, I], [.bool], fun x => 1 ≤ x.2, fun x => exactP x.1 x.2⟩
def needPSp : FSpec := ⟨[PC, I, I], [I], fun x => smallP x.1 ∧ orderP x.1, fun x => needP x.1 x.2.1 x.2.2⟩
def putRSp : FSpec := ⟨[RLs, RTy], [RLs], fun x => (x.1 : List Rst).length ≤ 100000, fun x => putR x.1 x.2⟩
def fewPSp : FSpec := ⟨[PC], [.bool], fun _ => True, fun x => fewP x⟩
def samePSp : FSpec := ⟨[PC, PC], [.bool], fun _ => True, fun x => sameP x.1 x.2⟩
def amongSp : FSpec := ⟨[HT, HL], [.bool], fun _ => True, fun x => amongH x.1 x.2⟩
def usedSp : FSpec := ⟨[HL, I], [.bool], fun _ => True, fun x => hasH x.1 x.2⟩
def fillSp : FSpec := ⟨[PC, I, UL], [HL], fun x => smallP x.1 ∧ (0 ≤ (x.2.1 : Int) ∧ (x.2.1 : Int) ≤ 1000000) ∧ boundsL (x.1 : Piece).2.1, fun x => fillP x.1 x.2.1 x.2.2⟩
def pieceSp : FSpec := ⟨[RLs], [PC], fun _ => True, fun l => ((([(1, 1, 3, ()), (2, 1, 5, ()), (3, 1, 9, ())] : List Hit), l, ()) : Piece)⟩
def loopsQ (f : FuncId) (r : Nat) : List LA :=
  if Nat.beq f 55 then [.slot 8 I] else
  if Nat.beq f 35 then [.slot 5 I] else
  if Nat.beq f 13 then [.slot 11 I, .slot 5 I] else
  if Nat.beq f 69 then (if Nat.beq r 2 then [.slot 13 I, .slot 4 I, .cell 0 0 I, .kmp 2 I] else if Nat.beq r 8 then [.slot 29 I, .cell 0 0 I, .kmp 2 I] else []) else
  if Nat.beq f 19 then [.slot 11 I] else
  if Nat.beq f 11 then [.slot 5 I] else
  if Nat.beq f 38 then [.slot 6 I, .slot 5 I] else
  if Nat.beq f 14 then [.slot 6 I, .slot 5 I] else
  if Nat.beq f 20 then [.slot 7 I] else
  if Nat.beq f 22 then [.slot 5 I] else
  if Nat.beq f 43 then [.slot 6 I, .gslot 5 44 RTy] else
  if Nat.beq f 46 then [.slot 9 I] else
  if Nat.beq f 24 then [.slot 9 I] else
  if Nat.beq f 26 then (if Nat.beq r 3 then [.slot 15 I, .slot 1 I, .gslot 7 37 HT] else if Nat.beq r 6 then [.slot 10 I, .slot 1 I, .gslot 7 37 HT, .cell 1 0 I, .cell 1 1 I] else if Nat.beq r 8 then [.slot 1 I, .gslot 7 37 HT, .cell 1 0 I, .cell 1 1 I] else []) else
  []
def hintQ (f : FuncId) : Hint := ⟨loopsQ f, fun _ => .split, fun t => bif Nat.beq f 56 && Nat.beq t 9 then .force else .split, fun r => bif Nat.beq f 56 && Nat.beq r 3 then 5 else 0⟩
noncomputable def Q0 : Ctx := mkctx bs tH0 [] hintQ
theorem cmpR_nf (a b : Rst) : fnwp Q0 6 36 cmpRSp (a, b) = (True ∧ True ∧ ((0 : Int) ≤ (0 : Int) ∧ (0 : Int) < (↑[sgnS a.fst b.fst, sgnS a.snd.fst b.snd.fst].length : Int)) ∧
  ((!decide ([sgnS a.fst b.fst, sgnS a.snd.fst b.snd.fst].getD (0 : Nat) (0 : Int) = (0 : Int))) = true → [sgnS a.fst b.fst, sgnS a.snd.fst b.snd.fst].getD (0 : Nat) (0 : Int) =
  cmpR a b) ∧ ((!decide ([sgnS a.fst b.fst, sgnS a.snd.fst b.snd.fst].getD (0 : Nat) (0 : Int) = (0 : Int))) = false → isI64 (1 : Int) ∧ ((0 : Int) ≤ (1 : Int) ∧ (1 : Int) <
  (↑[sgnS a.fst b.fst, sgnS a.snd.fst b.snd.fst].length : Int)) ∧ ((!decide ([sgnS a.fst b.fst, sgnS a.snd.fst b.snd.fst].getD (1 : Nat) (0 : Int) = (0 : Int))) = true → [sgnS
  a.fst b.fst, sgnS a.snd.fst b.snd.fst].getD (1 : Nat) (0 : Int) = cmpR a b) ∧ ((!decide ([sgnS a.fst b.fst, sgnS a.snd.fst b.snd.fst].getD (1 : Nat) (0 : Int) = (0 : Int))) =
  false → isI64 (2 : Int) ∧ (0 : Int) = cmpR a b))) := by kernel_rfl
theorem badR_nf (a : Rst) : fnwp Q0 6 32 badRSp a = ((decide (a.fst < (0 : Int)) = true → true = !okR a) ∧ (decide (a.fst < (0 : Int)) = false → (decide ((134217728 : Int) < a.fst)
  = true → true = !okR a) ∧ (decide ((134217728 : Int) < a.fst) = false → (decide (a.snd.fst < (1 : Int)) = true → true = !okR a) ∧ (decide (a.snd.fst < (1 : Int)) = false → decide
  ((4096 : Int) < a.snd.fst) = !okR a)))) := by kernel_rfl
theorem before_nf (a b : Rst) : fnwp Q0 6 31 beforeSp (a, b) = ((decide (a.fst < b.fst) = true → true = ltQ a b) ∧ (decide (a.fst < b.fst) = false → (decide (a.fst = b.fst) = true
  → decide (a.snd.fst < b.snd.fst) = ltQ a b) ∧ (decide (a.fst = b.fst) = false → false = ltQ a b))) := by kernel_rfl
theorem least_nf (p : Piece) : fnwp Q0 6 17 leastPSp p = ((decide ((↑p.snd.fst.length : Int) = (0 : Int)) = true → (134217729 : Int) = leastP p) ∧ (decide ((↑p.snd.fst.length :
  Int) = (0 : Int)) = false → ((0 : Int) ≤ (0 : Int) ∧ (0 : Int) < (↑p.snd.fst.length : Int)) ∧ (p.snd.fst.getD (0 : Nat) ((0 : Int), (0 : Int), ())).fst = leastP p)) := by
  kernel_rfl
theorem rLeast_nf (p : Piece) : fnwp Q0 6 18 leastPSp p = ((decide ((↑p.snd.fst.length : Int) = (0 : Int)) = true → (134217729 : Int) = leastP p) ∧ (decide ((↑p.snd.fst.length :
  Int) = (0 : Int)) = false → ((0 : Int) ≤ (0 : Int) ∧ (0 : Int) < (↑p.snd.fst.length : Int)) ∧ (p.snd.fst.getD (0 : Nat) ((0 : Int), (0 : Int), ())).fst = leastP p)) := by
  kernel_rfl
theorem few_nf (p : Piece) : fnwp Q0 6 9 fewPSp p = ((decide ((↑p.fst.length : Int) ≤ (70 : Int)) = true → decide ((↑p.snd.fst.length : Int) ≤ (60 : Int)) = fewP p) ∧ (decide
  ((↑p.fst.length : Int) ≤ (70 : Int)) = false → false = fewP p)) := by kernel_rfl
theorem piece_nf (l : List Rst) : fnwp Q0 6 29 pieceSp l = (([((1 : Int), (1 : Int), (3 : Int), ()), ((2 : Int), (1 : Int), (5 : Int), ()), ((3 : Int), (1 : Int), (9 : Int), ())],
  l, ()) = ([((1 : Int), (1 : Int), (3 : Int), ()), ((2 : Int), (1 : Int), (5 : Int), ()), ((3 : Int), (1 : Int), (9 : Int), ())], l, ())) := by kernel_rfl
theorem used_nf (l : List Hit) (id : Int) : fnwp Q0 6 46 usedSp (l, id) = (∃ (I : Int → Prop), ∃ (μ : Int → Nat), I (0 : Int) ∧ ∀ (x : Int), I x → (decide (x < (↑l.length : Int)) =
  true → ((0 : Int) ≤ x ∧ x < (↑l.length : Int)) ∧ (decide ((l.getD x.toNat ((0 : Int), (0 : Int), (0 : Int), ())).fst = id) = true → true = hasH l id) ∧ (decide ((l.getD x.toNat
  ((0 : Int), (0 : Int), (0 : Int), ())).fst = id) = false → isI64 (x + (1 : Int)) ∧ I (x + (1 : Int)) ∧ μ (x + (1 : Int)) < μ x)) ∧ (decide (x < (↑l.length : Int)) = false → false
  = hasH l id)) := by kernel_rfl
theorem among_nf (h : Hit) (l : List Hit) : fnwp Q0 6 24 amongSp (h, l) = (∃ (I : Int → Prop), ∃ (μ : Int → Nat), I (0 : Int) ∧ ∀ (x : Int), I x → (decide (x < (↑l.length : Int)) =
  true → ((0 : Int) ≤ x ∧ x < (↑l.length : Int)) ∧ ((decide ((l.getD x.toNat ((0 : Int), (0 : Int), (0 : Int), ())).fst = h.fst) && (decide ((l.getD x.toNat ((0 : Int), (0 : Int),
  (0 : Int), ())).snd.fst = h.snd.fst) && (decide ((l.getD x.toNat ((0 : Int), (0 : Int), (0 : Int), ())).snd.snd.fst = h.snd.snd.fst) && true))) = true → true = amongH h l) ∧
  ((decide ((l.getD x.toNat ((0 : Int), (0 : Int), (0 : Int), ())).fst = h.fst) && (decide ((l.getD x.toNat ((0 : Int), (0 : Int), (0 : Int), ())).snd.fst = h.snd.fst) && (decide
  ((l.getD x.toNat ((0 : Int), (0 : Int), (0 : Int), ())).snd.snd.fst = h.snd.snd.fst) && true))) = false → isI64 (x + (1 : Int)) ∧ I (x + (1 : Int)) ∧ μ (x + (1 : Int)) < μ x)) ∧
  (decide (x < (↑l.length : Int)) = false → false = amongH h l)) := by kernel_rfl
theorem rUnder_nf (l : List Rst) (key : Int) : fnwp Q0 6 38 underRSp (l, key) = (∃ (I : Int × Int → Prop), ∃ (μ : Int × Int → Nat), I ((0 : Int), (0 : Int)) ∧ ∀ (x : Int × Int), I
  x → (decide (x.fst < (↑l.length : Int)) = true → ((0 : Int) ≤ x.fst ∧ x.fst < (↑l.length : Int)) ∧ (decide ((l.getD x.fst.toNat ((0 : Int), (0 : Int), ())).fst ≤ key) = true →
  ((0 : Int) ≤ x.fst ∧ x.fst < (↑l.length : Int)) ∧ isI64 (x.snd + (l.getD x.fst.toNat ((0 : Int), (0 : Int), ())).snd.fst) ∧ isI64 (x.fst + (1 : Int)) ∧ I (x.fst + (1 : Int),
  x.snd + (l.getD x.fst.toNat ((0 : Int), (0 : Int), ())).snd.fst) ∧ μ (x.fst + (1 : Int), x.snd + (l.getD x.fst.toNat ((0 : Int), (0 : Int), ())).snd.fst) < μ x) ∧ (decide
  ((l.getD x.fst.toNat ((0 : Int), (0 : Int), ())).fst ≤ key) = false → isI64 (x.fst + (1 : Int)) ∧ I (x.fst + (1 : Int), x.snd) ∧ μ (x.fst + (1 : Int), x.snd) < μ x)) ∧ (decide
  (x.fst < (↑l.length : Int)) = false → x.snd = underR l key)) := by kernel_rfl
theorem under_nf (p : Piece) (key : Int) : fnwp Q0 8 37 underPSp (p, key) = (∃ (I : Int × Int × Int × List (Int × Int) → Prop), ∃ (μ : Int × Int × Int × List (Int × Int) → Nat), I
  ((0 : Int), (0 : Int), (0 : Int), []) ∧ ∀ (x : Int × Int × Int × List (Int × Int)), I x → (decide (x.fst < (↑p.snd.fst.length : Int)) = true → ((0 : Int) ≤ x.fst ∧ x.fst <
  (↑p.snd.fst.length : Int)) ∧ isI64 (x.snd.fst + (p.snd.fst.getD x.fst.toNat ((0 : Int), (0 : Int), ())).snd.fst) ∧ isI64 (x.fst + (1 : Int)) ∧ I (x.fst + (1 : Int), x.snd.fst +
  (p.snd.fst.getD x.fst.toNat ((0 : Int), (0 : Int), ())).snd.fst, x.snd.snd.fst, mput x.snd.snd.snd (p.snd.fst.getD x.fst.toNat ((0 : Int), (0 : Int), ())).fst (x.snd.fst +
  (p.snd.fst.getD x.fst.toNat ((0 : Int), (0 : Int), ())).snd.fst)) ∧ μ (x.fst + (1 : Int), x.snd.fst + (p.snd.fst.getD x.fst.toNat ((0 : Int), (0 : Int), ())).snd.fst,
  x.snd.snd.fst, mput x.snd.snd.snd (p.snd.fst.getD x.fst.toNat ((0 : Int), (0 : Int), ())).fst (x.snd.fst + (p.snd.fst.getD x.fst.toNat ((0 : Int), (0 : Int), ())).snd.fst)) < μ
  x) ∧ (decide (x.fst < (↑p.snd.fst.length : Int)) = false → ∃ (I : Int × Int × List (Int × Int) → Prop), ∃ (μ : Int × Int × List (Int × Int) → Nat), I ((0 : Int), x.snd.snd.fst,
  x.snd.snd.snd) ∧ ∀ (x : Int × Int × List (Int × Int)), I x → (decide (x.fst < (↑p.snd.fst.length : Int)) = true → ((0 : Int) ≤ x.fst ∧ x.fst < (↑p.snd.fst.length : Int)) ∧ isI64
  (x.fst + (1 : Int)) ∧ (decide (x.fst + (1 : Int) < (↑p.snd.fst.length : Int)) = true → isI64 (x.fst + (1 : Int)) ∧ ((0 : Int) ≤ x.fst + (1 : Int) ∧ x.fst + (1 : Int) <
  (↑p.snd.fst.length : Int)) ∧ (decide ((p.snd.fst.getD (x.fst + (1 : Int)).toNat ((0 : Int), (0 : Int), ())).fst = (p.snd.fst.getD x.fst.toNat ((0 : Int), (0 : Int), ())).fst) =
  true → isI64 (x.fst + (1 : Int)) ∧ I (x.fst + (1 : Int), x.snd.fst, x.snd.snd) ∧ μ (x.fst + (1 : Int), x.snd.fst, x.snd.snd) < μ x) ∧ (decide ((p.snd.fst.getD (x.fst + (1 :
  Int)).toNat ((0 : Int), (0 : Int), ())).fst = (p.snd.fst.getD x.fst.toNat ((0 : Int), (0 : Int), ())).fst) = false → (decide (key < (p.snd.fst.getD x.fst.toNat ((0 : Int), (0 :
  Int), ())).fst) = true → x.snd.fst = underR p.snd.fst key) ∧ (decide (key < (p.snd.fst.getD x.fst.toNat ((0 : Int), (0 : Int), ())).fst) = false → isI64 (x.fst + (1 : Int)) ∧ I
  (x.fst + (1 : Int), (mget x.snd.snd (p.snd.fst.getD x.fst.toNat ((0 : Int), (0 : Int), ())).fst).getD (0 : Int), x.snd.snd) ∧ μ (x.fst + (1 : Int), (mget x.snd.snd
  (p.snd.fst.getD x.fst.toNat ((0 : Int), (0 : Int), ())).fst).getD (0 : Int), x.snd.snd) < μ x))) ∧ (decide (x.fst + (1 : Int) < (↑p.snd.fst.length : Int)) = false → (decide (key
  < (p.snd.fst.getD x.fst.toNat ((0 : Int), (0 : Int), ())).fst) = true → x.snd.fst = underR p.snd.fst key) ∧ (decide (key < (p.snd.fst.getD x.fst.toNat ((0 : Int), (0 : Int),
  ())).fst) = false → isI64 (x.fst + (1 : Int)) ∧ I (x.fst + (1 : Int), (mget x.snd.snd (p.snd.fst.getD x.fst.toNat ((0 : Int), (0 : Int), ())).fst).getD (0 : Int), x.snd.snd) ∧ μ
  (x.fst + (1 : Int), (mget x.snd.snd (p.snd.fst.getD x.fst.toNat ((0 : Int), (0 : Int), ())).fst).getD (0 : Int), x.snd.snd) < μ x))) ∧ (decide (x.fst < (↑p.snd.fst.length : Int))
  = false → x.snd.fst = underR p.snd.fst key))) := by kernel_rfl
def tQ1 : List (FuncId × FSpec) := (36, cmpRSp) :: (32, badRSp) :: (31, beforeSp) :: (17, leastPSp) :: (18, leastPSp) ::
  (9, fewPSp) :: (29, pieceSp) :: (46, usedSp) :: (24, amongSp) :: (38, underRSp) :: (37, underPSp) ::
  (33, validHSp) :: (30, validHSp) :: (27, ⟨[HL, HL], [.bool], fun _ => True, fun x => decide ((x.1 : List Hit) = x.2)⟩) :: tH2
noncomputable def Q1 : Ctx := mkctx bs tQ1 [] hintQ
theorem validP_nf (p : Piece) (k : Int) : fnwp Q1 6 12 validPSp (p, k) = (True ∧ (validH p.fst k = true → (decide ((↑p.snd.fst.length : Int) ≤ (65536 : Int)) = true → ∃ (I : Int →
  Prop), ∃ (μ : Int → Nat), I (0 : Int) ∧ ∀ (x : Int), I x → (decide (x < (↑p.snd.fst.length : Int)) = true → ((0 : Int) ≤ x ∧ x < (↑p.snd.fst.length : Int)) ∧ True ∧ ((!okR
  (p.snd.fst.getD x.toNat ((0 : Int), (0 : Int), ()))) = true → ((!decide ((0 : Int) ≤ x)) = true → isI64 ((↑p.snd.fst.length : Int) - (1 : Int)) ∧ ∃ (I : Int → Prop), ∃ (μ : Int →
  Nat), I ((↑p.snd.fst.length : Int) - (1 : Int)) ∧ ∀ (x : Int), I x → (decide ((0 : Int) < x) = true → ((0 : Int) ≤ x ∧ x < (↑p.snd.fst.length : Int)) ∧ isI64 (x - (1 : Int)) ∧
  ((0 : Int) ≤ x - (1 : Int) ∧ x - (1 : Int) < (↑p.snd.fst.length : Int)) ∧ True ∧ (decide (cmpR (p.snd.fst.getD x.toNat ((0 : Int), (0 : Int), ())) (p.snd.fst.getD (x - (1 :
  Int)).toNat ((0 : Int), (0 : Int), ())) < (0 : Int)) = true → false = validP p k) ∧ (decide (cmpR (p.snd.fst.getD x.toNat ((0 : Int), (0 : Int), ())) (p.snd.fst.getD (x - (1 :
  Int)).toNat ((0 : Int), (0 : Int), ())) < (0 : Int)) = false → isI64 (x - (1 : Int)) ∧ I (x - (1 : Int)) ∧ μ (x - (1 : Int)) < μ x)) ∧ (decide ((0 : Int) < x) = false → true =
  validP p k)) ∧ ((!decide ((0 : Int) ≤ x)) = false → false = validP p k)) ∧ ((!okR (p.snd.fst.getD x.toNat ((0 : Int), (0 : Int), ()))) = false → isI64 (x + (1 : Int)) ∧ I (x + (1
  : Int)) ∧ μ (x + (1 : Int)) < μ x)) ∧ (decide (x < (↑p.snd.fst.length : Int)) = false → (true = true → isI64 ((↑p.snd.fst.length : Int) - (1 : Int)) ∧ ∃ (I : Int → Prop), ∃ (μ :
  Int → Nat), I ((↑p.snd.fst.length : Int) - (1 : Int)) ∧ ∀ (x : Int), I x → (decide ((0 : Int) < x) = true → ((0 : Int) ≤ x ∧ x < (↑p.snd.fst.length : Int)) ∧ isI64 (x - (1 :
  Int)) ∧ ((0 : Int) ≤ x - (1 : Int) ∧ x - (1 : Int) < (↑p.snd.fst.length : Int)) ∧ True ∧ (decide (cmpR (p.snd.fst.getD x.toNat ((0 : Int), (0 : Int), ())) (p.snd.fst.getD (x - (1
  : Int)).toNat ((0 : Int), (0 : Int), ())) < (0 : Int)) = true → false = validP p k) ∧ (decide (cmpR (p.snd.fst.getD x.toNat ((0 : Int), (0 : Int), ())) (p.snd.fst.getD (x - (1 :
  Int)).toNat ((0 : Int), (0 : Int), ())) < (0 : Int)) = false → isI64 (x - (1 : Int)) ∧ I (x - (1 : Int)) ∧ μ (x - (1 : Int)) < μ x)) ∧ (decide ((0 : Int) < x) = false → true =
  validP p k)) ∧ (true = false → false = validP p k))) ∧ (decide ((↑p.snd.fst.length : Int) ≤ (65536 : Int)) = false → false = validP p k)) ∧ (validH p.fst k = false → false =
  validP p k)) := by kernel_rfl
theorem rValidP_nf (p : Piece) (k : Int) : fnwp Q1 6 11 validPSp (p, k) = (True ∧ ((!validH p.fst k) = true → false = validP p k) ∧ ((!validH p.fst k) = false → (decide ((65536 :
  Int) < (↑p.snd.fst.length : Int)) = true → false = validP p k) ∧ (decide ((65536 : Int) < (↑p.snd.fst.length : Int)) = false → ∃ (I : Int → Prop), ∃ (μ : Int → Nat), I (0 : Int)
  ∧ ∀ (x : Int), I x → (decide (x < (↑p.snd.fst.length : Int)) = true → ((0 : Int) ≤ x ∧ x < (↑p.snd.fst.length : Int)) ∧ (decide ((p.snd.fst.getD x.toNat ((0 : Int), (0 : Int),
  ())).fst < (0 : Int)) = true → false = validP p k) ∧ (decide ((p.snd.fst.getD x.toNat ((0 : Int), (0 : Int), ())).fst < (0 : Int)) = false → (decide ((134217728 : Int) <
  (p.snd.fst.getD x.toNat ((0 : Int), (0 : Int), ())).fst) = true → false = validP p k) ∧ (decide ((134217728 : Int) < (p.snd.fst.getD x.toNat ((0 : Int), (0 : Int), ())).fst) =
  false → (decide ((p.snd.fst.getD x.toNat ((0 : Int), (0 : Int), ())).snd.fst < (1 : Int)) = true → false = validP p k) ∧ (decide ((p.snd.fst.getD x.toNat ((0 : Int), (0 : Int),
  ())).snd.fst < (1 : Int)) = false → (decide ((4096 : Int) < (p.snd.fst.getD x.toNat ((0 : Int), (0 : Int), ())).snd.fst) = true → false = validP p k) ∧ (decide ((4096 : Int) <
  (p.snd.fst.getD x.toNat ((0 : Int), (0 : Int), ())).snd.fst) = false → (decide ((0 : Int) < x) = true → isI64 (x - (1 : Int)) ∧ ((0 : Int) ≤ x - (1 : Int) ∧ x - (1 : Int) <
  (↑p.snd.fst.length : Int)) ∧ True ∧ (ltQ ((p.snd.fst.getD x.toNat ((0 : Int), (0 : Int), ())).fst, (p.snd.fst.getD x.toNat ((0 : Int), (0 : Int), ())).snd.fst, ())
  (p.snd.fst.getD (x - (1 : Int)).toNat ((0 : Int), (0 : Int), ())) = true → false = validP p k) ∧ (ltQ ((p.snd.fst.getD x.toNat ((0 : Int), (0 : Int), ())).fst, (p.snd.fst.getD
  x.toNat ((0 : Int), (0 : Int), ())).snd.fst, ()) (p.snd.fst.getD (x - (1 : Int)).toNat ((0 : Int), (0 : Int), ())) = false → isI64 (x + (1 : Int)) ∧ I (x + (1 : Int)) ∧ μ (x + (1
  : Int)) < μ x)) ∧ (decide ((0 : Int) < x) = false → isI64 (x + (1 : Int)) ∧ I (x + (1 : Int)) ∧ μ (x + (1 : Int)) < μ x)))))) ∧ (decide (x < (↑p.snd.fst.length : Int)) = false →
  true = validP p k)))) := by kernel_rfl
theorem sure_nf (p : Piece) (k : Int) : fnwp Q1 6 13 surePSp (p, k) = (∃ (I : Int × Int → Prop), ∃ (μ : Int × Int → Nat), I ((0 : Int), (0 : Int)) ∧ ∀ (x : Int × Int), I x →
  (decide (x.fst < (↑p.fst.length : Int)) = true → ((0 : Int) ≤ x.fst ∧ x.fst < (↑p.fst.length : Int)) ∧ isI64 (x.fst + (1 : Int)) ∧ (smallP p ∧ orderP p) ∧ isI64 (x.fst + (1 :
  Int) + underR p.snd.fst (p.fst.getD x.fst.toNat ((0 : Int), (0 : Int), (0 : Int), ())).snd.snd.fst) ∧ (decide (k < x.fst + (1 : Int) + underR p.snd.fst (p.fst.getD x.fst.toNat
  ((0 : Int), (0 : Int), (0 : Int), ())).snd.snd.fst) = true → x.snd = sureP p k) ∧ (decide (k < x.fst + (1 : Int) + underR p.snd.fst (p.fst.getD x.fst.toNat ((0 : Int), (0 : Int),
  (0 : Int), ())).snd.snd.fst) = false → isI64 (x.snd + (1 : Int)) ∧ isI64 (x.fst + (1 : Int)) ∧ I (x.fst + (1 : Int), x.snd + (1 : Int)) ∧ μ (x.fst + (1 : Int), x.snd + (1 : Int))
  < μ x)) ∧ (decide (x.fst < (↑p.fst.length : Int)) = false → x.snd = sureP p k)) := by kernel_rfl
theorem rSure_nf (p : Piece) (k : Int) : fnwp Q1 6 14 surePSp (p, k) = (∃ (I : Int × Int → Prop), ∃ (μ : Int × Int → Nat), I ((0 : Int), (0 : Int)) ∧ ∀ (x : Int × Int), I x →
  (decide (x.fst < (↑p.fst.length : Int)) = true → isI64 (x.fst + (1 : Int)) ∧ ((0 : Int) ≤ x.fst ∧ x.fst < (↑p.fst.length : Int)) ∧ smallL p.snd.fst ∧ isI64 (x.fst + (1 : Int) +
  underR p.snd.fst (p.fst.getD x.fst.toNat ((0 : Int), (0 : Int), (0 : Int), ())).snd.snd.fst) ∧ (decide (x.fst + (1 : Int) + underR p.snd.fst (p.fst.getD x.fst.toNat ((0 : Int),
  (0 : Int), (0 : Int), ())).snd.snd.fst ≤ k) = true → isI64 (x.snd + (1 : Int)) ∧ isI64 (x.fst + (1 : Int)) ∧ I (x.fst + (1 : Int), x.snd + (1 : Int)) ∧ μ (x.fst + (1 : Int),
  x.snd + (1 : Int)) < μ x) ∧ (decide (x.fst + (1 : Int) + underR p.snd.fst (p.fst.getD x.fst.toNat ((0 : Int), (0 : Int), (0 : Int), ())).snd.snd.fst ≤ k) = false → isI64 (x.fst +
  (1 : Int)) ∧ I (x.fst + (1 : Int), x.snd) ∧ μ (x.fst + (1 : Int), x.snd) < μ x)) ∧ (decide (x.fst < (↑p.fst.length : Int)) = false → x.snd = sureP p k)) := by kernel_rfl
theorem exact_nf (p : Piece) (k : Int) : fnwp Q1 6 15 exactPSp (p, k) = ((decide ((↑p.fst.length : Int) < k) = true → decide ((↑p.snd.fst.length : Int) = (0 : Int)) = exactP p k) ∧
  (decide ((↑p.fst.length : Int) < k) = false → True ∧ isI64 ((↑p.fst.length : Int) - (1 : Int)) ∧ ((0 : Int) ≤ (↑p.fst.length : Int) - (1 : Int) ∧ (↑p.fst.length : Int) - (1 :
  Int) < (↑p.fst.length : Int)) ∧ decide ((p.fst.getD ((↑p.fst.length : Int) - (1 : Int)).toNat ((0 : Int), (0 : Int), (0 : Int), ())).snd.snd.fst < leastP p) = exactP p k)) := by
  kernel_rfl
theorem rExact_nf (p : Piece) (k : Int) : fnwp Q1 6 16 exactPSp (p, k) = ((decide ((↑p.fst.length : Int) < k) = true → decide ((↑p.snd.fst.length : Int) = (0 : Int)) = exactP p k)
  ∧ (decide ((↑p.fst.length : Int) < k) = false → True ∧ isI64 ((↑p.fst.length : Int) - (1 : Int)) ∧ ((0 : Int) ≤ (↑p.fst.length : Int) - (1 : Int) ∧ (↑p.fst.length : Int) - (1 :
  Int) < (↑p.fst.length : Int)) ∧ decide ((p.fst.getD ((↑p.fst.length : Int) - (1 : Int)).toNat ((0 : Int), (0 : Int), (0 : Int), ())).snd.snd.fst < leastP p) = exactP p k)) := by
  kernel_rfl
theorem sameP_nf (a b : Piece) : fnwp Q1 6 22 samePSp (a, b) = (True ∧ ((!decide (a.fst = b.fst)) = true → false = sameP a b) ∧ ((!decide (a.fst = b.fst)) = false → ((!decide
  ((↑a.snd.fst.length : Int) = (↑b.snd.fst.length : Int))) = true → false = sameP a b) ∧ ((!decide ((↑a.snd.fst.length : Int) = (↑b.snd.fst.length : Int))) = false → ∃ (I : Int →
  Prop), ∃ (μ : Int → Nat), I (0 : Int) ∧ ∀ (x : Int), I x → (decide (x < (↑a.snd.fst.length : Int)) = true → ((0 : Int) ≤ x ∧ x < (↑a.snd.fst.length : Int)) ∧ ((0 : Int) ≤ x ∧ x <
  (↑b.snd.fst.length : Int)) ∧ ((!(decide ((a.snd.fst.getD x.toNat ((0 : Int), (0 : Int), ())).fst = (b.snd.fst.getD x.toNat ((0 : Int), (0 : Int), ())).fst) && (decide
  ((a.snd.fst.getD x.toNat ((0 : Int), (0 : Int), ())).snd.fst = (b.snd.fst.getD x.toNat ((0 : Int), (0 : Int), ())).snd.fst) && true))) = true → false = sameP a b) ∧ ((!(decide
  ((a.snd.fst.getD x.toNat ((0 : Int), (0 : Int), ())).fst = (b.snd.fst.getD x.toNat ((0 : Int), (0 : Int), ())).fst) && (decide ((a.snd.fst.getD x.toNat ((0 : Int), (0 : Int),
  ())).snd.fst = (b.snd.fst.getD x.toNat ((0 : Int), (0 : Int), ())).snd.fst) && true))) = false → isI64 (x + (1 : Int)) ∧ I (x + (1 : Int)) ∧ μ (x + (1 : Int)) < μ x)) ∧ (decide
  (x < (↑a.snd.fst.length : Int)) = false → true = sameP a b)))) := by kernel_rfl
theorem rPutR_nf (l : List Rst) (x : Rst) : fnwp Q1 6 43 putRSp (l, x) = (∃ (I : Int × List (Int × Int × PUnit) → Prop), ∃ (μ : Int × List (Int × Int × PUnit) → Nat), I ((0 : Int),
  []) ∧ ∀ (x_1 : Int × List (Int × Int × PUnit)), I x_1 → (decide (x_1.fst < (↑l.length : Int)) = true → ((0 : Int) ≤ x_1.fst ∧ x_1.fst < (↑l.length : Int)) ∧ True ∧ ((!ltQ x
  (l.getD x_1.fst.toNat ((0 : Int), (0 : Int), ()))) = true → ((0 : Int) ≤ x_1.fst ∧ x_1.fst < (↑l.length : Int)) ∧ roomP Q1 (44 : Nat) (x_1.snd.length + [l.getD x_1.fst.toNat ((0
  : Int), (0 : Int), ())].length) ∧ isI64 (x_1.fst + (1 : Int)) ∧ I (x_1.fst + (1 : Int), x_1.snd ++ [l.getD x_1.fst.toNat ((0 : Int), (0 : Int), ())]) ∧ μ (x_1.fst + (1 : Int),
  x_1.snd ++ [l.getD x_1.fst.toNat ((0 : Int), (0 : Int), ())]) < μ x_1) ∧ ((!ltQ x (l.getD x_1.fst.toNat ((0 : Int), (0 : Int), ()))) = false → roomP Q1 (44 : Nat) (x_1.snd.length
  + [x].length) ∧ ((0 : Int) ≤ x_1.fst ∧ x_1.fst ≤ (↑l.length : Int)) ∧ roomP Q1 (44 : Nat) ((x_1.snd ++ [x]).length + (List.take (l.length - x_1.fst.toNat) (List.drop
  x_1.fst.toNat l)).length) ∧ x_1.snd ++ [x] ++ List.take (l.length - x_1.fst.toNat) (List.drop x_1.fst.toNat l) = putR l x)) ∧ (decide (x_1.fst < (↑l.length : Int)) = false →
  roomP Q1 (44 : Nat) (x_1.snd.length + [x].length) ∧ ((0 : Int) ≤ x_1.fst ∧ x_1.fst ≤ (↑l.length : Int)) ∧ roomP Q1 (44 : Nat) ((x_1.snd ++ [x]).length + (List.take (l.length -
  x_1.fst.toNat) (List.drop x_1.fst.toNat l)).length) ∧ x_1.snd ++ [x] ++ List.take (l.length - x_1.fst.toNat) (List.drop x_1.fst.toNat l) = putR l x)) := by kernel_rfl
theorem fill_nf (p : Piece) (id : Int) (keys : List Int) : fnwp Q1 6 26 fillSp (p, id, keys) = (∃ (I : Int × Int × List (Int × Int × Int × PUnit) → Prop), ∃ (μ : Int × Int × List
  (Int × Int × Int × PUnit) → Nat), I ((0 : Int), id, []) ∧ ∀ (x : Int × Int × List (Int × Int × Int × PUnit)), I x → (decide (x.fst < (↑p.snd.fst.length : Int)) = true → ((0 :
  Int) ≤ x.fst ∧ x.fst < (↑p.snd.fst.length : Int)) ∧ ∃ (I_1 : Int × Int × List (Int × Int × Int × PUnit) × Int × Int → Prop), ∃ (μ_1 : Int × Int × List (Int × Int × Int × PUnit) ×
  Int × Int → Nat), I_1 ((0 : Int), x.snd.fst, x.snd.snd, (p.snd.fst.getD x.fst.toNat ((0 : Int), (0 : Int), ())).fst, (p.snd.fst.getD x.fst.toNat ((0 : Int), (0 : Int),
  ())).snd.fst) ∧ ∀ (x_1 : Int × Int × List (Int × Int × Int × PUnit) × Int × Int), I_1 x_1 → (decide (x_1.fst < x_1.snd.snd.snd.snd) = true → (decide (x_1.fst < (70 : Int)) = true
  → ∃ (I : Int × List (Int × Int × Int × PUnit) × Int × Int → Prop), ∃ (μ : Int × List (Int × Int × Int × PUnit) × Int × Int → Nat), I (x_1.snd.fst, x_1.snd.snd.fst,
  x_1.snd.snd.snd.fst, x_1.snd.snd.snd.snd) ∧ ∀ (x : Int × List (Int × Int × Int × PUnit) × Int × Int), I x → True ∧ (hasH p.fst x.fst = true → isI64 (x.fst + (1 : Int)) ∧ I (x.fst
  + (1 : Int), x.snd.fst, x.snd.snd.fst, x.snd.snd.snd) ∧ μ (x.fst + (1 : Int), x.snd.fst, x.snd.snd.fst, x.snd.snd.snd) < μ x) ∧ (hasH p.fst x.fst = false → (decide ((0 : Int) <
  (↑keys.length : Int)) = true → (↑keys.length : Int) ≠ (0 : Int) ∧ ((0 : Int) ≤ (↑x.snd.fst.length : Int).tmod (↑keys.length : Int) ∧ (↑x.snd.fst.length : Int).tmod (↑keys.length
  : Int) < (↑keys.length : Int)) ∧ (20 : Int) ≠ (0 : Int) ∧ isI64 (x.snd.snd.fst + (IntKind.i64.wrap (keys.getD ((↑x.snd.fst.length : Int).tmod (↑keys.length : Int)).toNat (0 :
  Int))).tmod (20 : Int)) ∧ roomP Q1 (37 : Nat) (x.snd.fst.length + [(x.fst, (1 : Int), min (134217728 : Int) (x.snd.snd.fst + (IntKind.i64.wrap (keys.getD ((↑x.snd.fst.length :
  Int).tmod (↑keys.length : Int)).toNat (0 : Int))).tmod (20 : Int)), ())].length) ∧ isI64 (x.fst + (1 : Int)) ∧ isI64 (x_1.fst + (1 : Int)) ∧ I_1 (x_1.fst + (1 : Int), x.fst + (1
  : Int), x.snd.fst ++ [(x.fst, (1 : Int), min (134217728 : Int) (x.snd.snd.fst + (IntKind.i64.wrap (keys.getD ((↑x.snd.fst.length : Int).tmod (↑keys.length : Int)).toNat (0 :
  Int))).tmod (20 : Int)), ())], x.snd.snd.fst, x.snd.snd.snd) ∧ μ_1 (x_1.fst + (1 : Int), x.fst + (1 : Int), x.snd.fst ++ [(x.fst, (1 : Int), min (134217728 : Int) (x.snd.snd.fst
  + (IntKind.i64.wrap (keys.getD ((↑x.snd.fst.length : Int).tmod (↑keys.length : Int)).toNat (0 : Int))).tmod (20 : Int)), ())], x.snd.snd.fst, x.snd.snd.snd) < μ_1 x_1) ∧ (decide
  ((0 : Int) < (↑keys.length : Int)) = false → roomP Q1 (37 : Nat) (x.snd.fst.length + [(x.fst, (1 : Int), x.snd.snd.fst, ())].length) ∧ isI64 (x.fst + (1 : Int)) ∧ isI64 (x_1.fst
  + (1 : Int)) ∧ I_1 (x_1.fst + (1 : Int), x.fst + (1 : Int), x.snd.fst ++ [(x.fst, (1 : Int), x.snd.snd.fst, ())], x.snd.snd.fst, x.snd.snd.snd) ∧ μ_1 (x_1.fst + (1 : Int), x.fst
  + (1 : Int), x.snd.fst ++ [(x.fst, (1 : Int), x.snd.snd.fst, ())], x.snd.snd.fst, x.snd.snd.snd) < μ_1 x_1))) ∧ (decide (x_1.fst < (70 : Int)) = false → isI64 (x.fst + (1 : Int))
  ∧ I (x.fst + (1 : Int), x_1.snd.fst, x_1.snd.snd.fst) ∧ μ (x.fst + (1 : Int), x_1.snd.fst, x_1.snd.snd.fst) < μ x)) ∧ (decide (x_1.fst < x_1.snd.snd.snd.snd) = false → isI64
  (x.fst + (1 : Int)) ∧ I (x.fst + (1 : Int), x_1.snd.fst, x_1.snd.snd.fst) ∧ μ (x.fst + (1 : Int), x_1.snd.fst, x_1.snd.snd.fst) < μ x)) ∧ (decide (x.fst < (↑p.snd.fst.length :
  Int)) = false → x.snd.snd = fillP p id keys)) := by kernel_rfl
def tQ2 : List (FuncId × FSpec) := (13, surePSp) :: (14, surePSp) :: tQ1
noncomputable def Q2 : Ctx := mkctx bs tQ2 [] hintQ
theorem need_nf (p : Piece) (k want : Int) : fnwp Q2 6 19 needPSp (p, k, want) = (∃ (I : Int → Prop), ∃ (μ : Int → Nat), I (0 : Int) ∧ ∀ (x : Int), I x → (decide (x <
  (↑p.snd.fst.length : Int)) = true → ((0 : Int) ≤ x ∧ x ≤ (↑p.snd.fst.length : Int)) ∧ (smallP (p.fst, List.take (p.snd.fst.length - x.toNat) (List.drop x.toNat p.snd.fst), ()) ∧
  orderP (p.fst, List.take (p.snd.fst.length - x.toNat) (List.drop x.toNat p.snd.fst), ())) ∧ (decide (want ≤ sureP (p.fst, List.take (p.snd.fst.length - x.toNat) (List.drop
  x.toNat p.snd.fst), ()) k) = true → x = needP p k want) ∧ (decide (want ≤ sureP (p.fst, List.take (p.snd.fst.length - x.toNat) (List.drop x.toNat p.snd.fst), ()) k) = false →
  isI64 (x + (1 : Int)) ∧ I (x + (1 : Int)) ∧ μ (x + (1 : Int)) < μ x)) ∧ (decide (x < (↑p.snd.fst.length : Int)) = false → (↑p.snd.fst.length : Int) = needP p k want)) := by
  kernel_rfl
theorem rNeed_nf (p : Piece) (k want : Int) : fnwp Q2 6 20 needPSp (p, k, want) = (∃ (I : Int → Prop), ∃ (μ : Int → Nat), I (0 : Int) ∧ ∀ (x : Int), I x → (decide (x <
  (↑p.snd.fst.length : Int)) = true → ((0 : Int) ≤ x ∧ x ≤ (↑p.snd.fst.length : Int)) ∧ (smallP (p.fst, List.take (p.snd.fst.length - x.toNat) (List.drop x.toNat p.snd.fst), ()) ∧
  orderP (p.fst, List.take (p.snd.fst.length - x.toNat) (List.drop x.toNat p.snd.fst), ())) ∧ (decide (want ≤ sureP (p.fst, List.take (p.snd.fst.length - x.toNat) (List.drop
  x.toNat p.snd.fst), ()) k) = true → x = needP p k want) ∧ (decide (want ≤ sureP (p.fst, List.take (p.snd.fst.length - x.toNat) (List.drop x.toNat p.snd.fst), ()) k) = false →
  isI64 (x + (1 : Int)) ∧ I (x + (1 : Int)) ∧ μ (x + (1 : Int)) < μ x)) ∧ (decide (x < (↑p.snd.fst.length : Int)) = false → (↑p.snd.fst.length : Int) = needP p k want)) := by
  kernel_rfl
end Go.Proofs.Ytmimchmdikjilaa
