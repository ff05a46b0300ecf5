import Derived.Test.YtdeleoaeegmhlaaMXi
namespace Go.PL
open Go.AM
set_option linter.unusedVariables false

/-! ### Divisions, plain -/
abbrev Sp := Rose ((Int × Int × Unit) × (List Int × Unit))
def axisOf (x : Sp) : Int := x.val.1.1
def atOf (x : Sp) : Int := x.val.1.2.1
def offs (x : Sp) : List Int := x.val.2.1
def subOf (x : Sp) (i : Nat) : Sp := x.subs.getD i (.node ((0, 0, ()), ([], ())) [])
def goodS (l : List Int) : Bool := upto l.length (fun i => decide (0 ≤ at_ l i) && (decide (at_ l i < 32) && (decide (i = 0) || decide (at_ l (i - 1) < at_ l i)))) && (decide (1 ≤ l.length) && decide (l.length ≤ 4))
def wholeB (d : Int) : Box := (List.replicate d.toNat (-1000), List.replicate d.toNat 1000, ())
def cutsB (b : Box) (x a : Int) : Bool := decide (0 ≤ x) && (decide (x < b.1.length) && (decide (at_ b.1 x.toNat < a) && decide (a ≤ at_ b.2.1 x.toNat)))
def lowB (b : Box) (x a : Int) : Box := (b.1, b.2.1.set x.toNat (a - 1), ())
def highB (b : Box) (x a : Int) : Box := (b.1.set x.toNat a, b.2.1, ())
def evenB (b : Box) : Prop := b.1.length = b.2.1.length ∧ b.1.length ≤ 1000
def leafOk (x : Sp) : Bool := decide (x.subs.length = 0) && (decide (axisOf x = 0) && (decide (atOf x = 0) && goodS (offs x)))
def forkOk (x : Sp) (b : Box) : Bool := decide (x.subs.length = 2) && (decide ((offs x).length = 0) && cutsB b (axisOf x) (atOf x))
/-- What an iterator over regions yields. -/
def regsN : Nat → Sp → Box → List (Box × Sp)
  | 0, _, _ => []
  | n + 1, x, b => if leafOk x then [(b, x)] else if forkOk x b then regsN n (subOf x 0) (lowB b (axisOf x) (atOf x)) ++ regsN n (subOf x 1) (highB b (axisOf x) (atOf x)) else [(noBox, x)]
def regs1 (n : Nat) (x : Sp) (b : Box) : List (Box × Sp) := regsN (n + 1) x b
/-- Not deeper than so. -/
def deepN : Nat → Sp → Prop
  | 0, _ => False
  | n + 1, x => ∀ y ∈ x.subs, deepN n y
end Go.PL
namespace Go.Proofs.Ytdeleoaeegmhlaa
open Go.AM Go.PL
set_option linter.unusedVariables false
def goodSp : FSpec := ⟨[L], [.bool], fun _ => True, fun l => goodS l⟩
def wholeSp : FSpec := ⟨[I], [BX], fun d => 1 ≤ (d : Int) ∧ (d : Int) ≤ 1000, fun d => wholeB d⟩
def cutsSp : FSpec := ⟨[BX, I, I], [.bool], fun x => evenB x.1, fun x => cutsB x.1 x.2.1 x.2.2⟩
def halvesSp : FSpec := ⟨[BX, I, I], [BX, BX], fun x => evenB x.1 ∧ cutsB x.1 x.2.1 x.2.2 = true, fun x => (lowB x.1 x.2.1 x.2.2, highB x.1 x.2.1 x.2.2)⟩
def lowSp : FSpec := ⟨[BX, I, I], [BX], fun x => evenB x.1 ∧ cutsB x.1 x.2.1 x.2.2 = true, fun x => lowB x.1 x.2.1 x.2.2⟩
def highSp : FSpec := ⟨[BX, I, I], [BX], fun x => evenB x.1 ∧ cutsB x.1 x.2.1 x.2.2 = true, fun x => highB x.1 x.2.1 x.2.2⟩
def repG : GSpec := ⟨[L, I], 3, I, fun x => (x.1 : List Int).length = 1 ∧ 1 ≤ (x.2 : Int) ∧ (x.2 : Int) ≤ 1000000, fun x => List.replicate (x.2 : Int).toNat ((x.1 : List Int).getD 0 0)⟩
def mulSp : FSpec := ⟨[.int .u64, .int .u64], [.int .u64, .int .u64], fun x => 0 ≤ (x.1 : Int) ∧ (x.1 : Int) ≤ 1000000 ∧ 0 ≤ (x.2 : Int) ∧ (x.2 : Int) ≤ 1000000, fun x => ((0 : Int), (x.1 : Int) * x.2)⟩
def regI (n : Nat) : ISpec := ⟨[ST, BX], [BX, ST], fun x => deepN n x.1 ∧ evenB x.2, fun x => regsN n x.1 x.2⟩

def regI1 (n : Nat) : ISpec := ⟨[ST, BX], [BX, ST], fun x => deepN (n + 1) x.1 ∧ evenB x.2, fun x => regs1 n x.1 x.2⟩
/-- The same, where there is no part, and where there are some. -/
def regIA (n : Nat) : ISpec := ⟨[ST, BX], [BX, ST], fun x => (deepN (n + 1) x.1 ∧ evenB x.2) ∧ (x.1 : Sp).subs.length = 0, fun x => regs1 n x.1 x.2⟩
def regIB (n : Nat) : ISpec := ⟨[ST, BX], [BX, ST], fun x => (deepN (n + 1) x.1 ∧ evenB x.2) ∧ (x.1 : Sp).subs.length ≠ 0, fun x => regs1 n x.1 x.2⟩

def loopsR (f : FuncId) (r : Nat) : List LA :=
  if Nat.beq f 43 then [.slot 15 I] else
  if Nat.beq f 59 then [.slot 3 I] else
  if Nat.beq f 28 then [.gcell 1 0 3 I, .gcell 1 1 3 I, .slot 4 I] else
  if Nat.beq f 66 then [.gslot 7 3 I, .slot 8 I] else
  []
def hintR (f : FuncId) : Hint := ⟨loopsR f, fun r => bif (Nat.beq f 66 && Nat.beq r 9) || (Nat.beq f 65 && Nat.beq r 3) || (Nat.beq f 64 && Nat.beq r 5) then .all else .split, fun t => bif Nat.beq f 64 && Nat.beq t 24 then .force else .split, fun r => bif Nat.beq f 65 && Nat.beq r 3 then 500 else bif Nat.beq f 64 && Nat.beq r 3 then 3 else 0⟩
/-- .. for the iterator over regions: a leaf, or not valid; a fork, or not valid. -/
def hintRA (f : FuncId) : Hint := ⟨fun _ => [], fun _ => .split, fun t => bif Nat.beq f 64 && Nat.beq t 67 then .yes else .split, fun _ => 0⟩
def hintRB (f : FuncId) : Hint := ⟨fun _ => [], fun r => bif Nat.beq f 64 then (bif Nat.beq r 10 then .no else bif Nat.beq r 5 then .all else .split) else .split, fun t => bif Nat.beq f 64 then (bif Nat.beq t 24 then .force else bif Nat.beq t 43 then .no else .split) else .split, fun r => bif Nat.beq f 64 && Nat.beq r 3 then 3 else 0⟩
def hintRp (f : FuncId) : Hint := if Nat.beq f 999999999 then ⟨fun _ => [], fun _ => .split, fun _ => .split, fun r => bif Nat.beq r 1 then 1 else 0⟩ else hintR f
def tY1 : List (FuncId × FSpec) := [(43, goodSp), (42, cutsSp), (65, halvesSp), (32, wholeSp), (33, clnG.data)]
noncomputable def Y0 : Ctx := mkctx bs [] [] hintR
noncomputable def YRp : Ctx := mkctx bs [(82, mulSp)] [] hintRp
noncomputable def Y0C : Ctx := mkctx bs [(33, clnG.data)] [] hintR
noncomputable def Y0G : Ctx := mkctx bs [] [(33, clnG)] hintR
end Go.Proofs.Ytdeleoaeegmhlaa
