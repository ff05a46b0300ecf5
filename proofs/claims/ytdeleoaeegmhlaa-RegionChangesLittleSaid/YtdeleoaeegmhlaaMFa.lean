import Derived.Test.YtdeleoaeegmhlaaMYo0
import Derived.Test.YtdeleoaeegmhlaaMRa
import Derived.Test.YtdeleoaeegmhlaaMYs
--@abbr ((Rose.subs x).getD (0 : Nat) (Rose.node (((0 : Int), (0 : Int), ()), [], ()) [])) => (gS x 0)
--@abbr ((Rose.subs x).getD (1 : Nat) (Rose.node (((0 : Int), (0 : Int), ()), [], ()) [])) => (gS x 1)
--@abbr ((Rose.subs x).getD (2 : Nat) (Rose.node (((0 : Int), (0 : Int), ()), [], ()) [])) => (gS x 2)
--@abbr Rose.node (((gS x 0).val.fst.fst, (gS x 0).val.fst.snd.fst, ()), (gS x 0).val.snd.fst, ()) (gS x 0).subs => nS (gS x 0)
--@abbr Rose.node (((gS x 1).val.fst.fst, (gS x 1).val.fst.snd.fst, ()), (gS x 1).val.snd.fst, ()) (gS x 1).subs => nS (gS x 1)
--@abbr Rose.node (((gS x 2).val.fst.fst, (gS x 2).val.fst.snd.fst, ()), (gS x 2).val.snd.fst, ()) (gS x 2).subs => nS (gS x 2)
namespace Go.PL
open Go.AM
set_option linter.unusedVariables false
/-! ### Changes of a division, plain -/
abbrev gS (x : Sp) (k : Nat) : Sp := (Rose.subs x).getD k (Rose.node (((0 : Int), (0 : Int), ()), [], ()) [])
abbrev nS (y : Sp) : Sp := Rose.node ((y.val.fst.fst, y.val.fst.snd.fst, ()), y.val.snd.fst, ()) y.subs
def leavesN : Nat → Sp → Int
  | 0, _ => 0
  | n + 1, x => if x.subs.length = 0 then 1 else leavesN n (subOf x 0) + leavesN n (subOf x 1)
def leaves1 (n : Nat) (x : Sp) : Int := leavesN (n + 1) x
/-- Each part has no parts, or two. -/
def binT : Nat → Sp → Prop
  | 0, _ => False
  | n + 1, x => x.subs.length = 0 ∨ (x.subs.length = 2 ∧ binT n (subOf x 0) ∧ binT n (subOf x 1))
def cutL (a t : Int) (o : List Int) (x : Sp) : Sp := .node ((a, t, ()), ([], ())) [x, leafS o]
/-- A region is cut: the one at a place, counted from c on. -/
def cutT : Nat → Int → Int → Int → List Int → Sp → Int → Sp
  | 0, _, _, _, _, x, _ => x
  | n + 1, p, a, t, o, x, c => if x.subs.length = 0 then (if c = p then cutL a t o x else x) else
      .node x.val [cutT n p a t o (subOf x 0) c, cutT n p a t o (subOf x 1) (c + leavesN n (subOf x 0))]
def cutT1 (n : Nat) (p a t : Int) (o : List Int) (x : Sp) (c : Int) : Sp := cutT (n + 1) p a t o x c
def twin (p : Int) (x : Sp) (c : Int) : Bool := decide (c = p) && (decide (x.subs.length ≠ 0) && (decide ((subOf x 0).subs.length = 0) && decide ((subOf x 1).subs.length = 0)))
/-- Two regions are joined: that at a place, and the next one. -/
def joinT : Nat → Int → Sp → Int → Sp
  | 0, _, x, _ => x
  | n + 1, p, x, c => if twin p x c then subOf x 0 else if x.subs.length = 0 then x else
      .node x.val [joinT n p (subOf x 0) c, joinT n p (subOf x 1) (c + leavesN n (subOf x 0))]
def joinT1 (n : Nat) (p : Int) (x : Sp) (c : Int) : Sp := joinT (n + 1) p x c
def foundT : Nat → Int → Sp → Int → Bool
  | 0, _, _, _ => false
  | n + 1, p, x, c => if twin p x c then true else if x.subs.length = 0 then false else
      foundT n p (subOf x 0) c || foundT n p (subOf x 1) (c + leavesN n (subOf x 0))
def foundT1 (n : Nat) (p : Int) (x : Sp) (c : Int) : Bool := foundT (n + 1) p x c
def preW (n : Nat) (x : Sp) (c : Int) : Prop := binT n x ∧ 0 ≤ c ∧ c + leavesN n x ≤ 1000000
def preW1 (n : Nat) (x : Sp) (c : Int) : Prop := preW (n + 1) x c
def preC (n : Nat) (o : List Int) (x : Sp) (c : Int) : Prop := preW n x c ∧ o.length ≤ 1000000
def cutRes (n : Nat) (d : Dv) (p a t : Int) (o : List Int) : Dv × Int :=
  if p < 0 ∨ ((areasN n d).length : Int) ≤ p then (d, 5) else if cutsB ((areasN n d).getD p.toNat dAr).1 a t = false ∨ goodS o = false then (d, 1) else if 64 ≤ (areasN n d).length then (d, 2) else
  if (1073741824 : Int) ≤ d.2.1 then (d, 2) else ((d.1, d.2.1 + 1, cutT n p a t o d.2.2.1 0, ()), 0)
end Go.PL
namespace Go.Proofs.Ytdeleoaeegmhlaa
open Go.AM Go.PL
set_option linter.unusedVariables false
noncomputable def bsF : Base := ⟨Try.prog, tyB, fun t => Nat.beq t 3 || bs.ro t⟩
def blkC (p a t : Int) (o : List Int) (c : Int) : List Blk :=
  [.gone, .cells [.fn 45 [.rp I a, .rp I t, .rp L o]], .gone, .cells [.fn 70 [.rp I p, .own 1 0]], .gone, .cells [.d I c], .cells [.fn 71 [.own 5 0, .own 3 0, .own 6 0]]]
def cutH (n : Nat) (p a t : Int) (o : List Int) : HSpec := ⟨[ST], [ST], [.cell 5 0 I], [.own 5 0, .own 3 0, .own 6 0], fun c => blkC p a t o c, fun x c => preC n o x c, fun x c => cutT n p a t o x c, fun x c => (fun e : Int => e + leavesN n x) c⟩
def cut1H (n : Nat) (p a t : Int) (o : List Int) : HSpec := ⟨[ST], [ST], [.cell 5 0 I], [.own 5 0, .own 3 0, .own 6 0], fun c => blkC p a t o c, fun x c => preC (n + 1) o x c, fun x c => cutT1 n p a t o x c, fun x c => (fun e : Int => e + leaves1 n x) c⟩
def allF (f : FuncId) (r : Nat) : Bool :=
  (Nat.beq f 49 && Nat.beq r 6) || (Nat.beq f 71 && Nat.beq r 15) || (Nat.beq f 17 && Nat.beq r 4) || (Nat.beq f 20 && Nat.beq r 1)
def unrF (f : FuncId) (r : Nat) : Nat := bif (Nat.beq f 71 && Nat.beq r 13) || (Nat.beq f 86 && Nat.beq r 4) then 3 else 0
def hintFC (f : FuncId) : Hint := if Nat.beq f 999999997 then ⟨fun _ => [], fun _ => .split, fun _ => .split, fun _ => 1⟩ else
  ⟨fun _ => [], fun r => bif allF f r then .all else .split, fun t => bif Nat.beq f 86 && Nat.beq t 9 then .yes else .split, unrF f⟩
def hintF (f : FuncId) : Hint := ⟨fun _ => [], fun r => bif allF f r then .all else .split, fun _ => .split, unrF f⟩
noncomputable def FC (n : Nat) (p a t : Int) (o : List Int) : Ctx := mkctxH bsF [(33, clnG.data)] [] [] [(71, cutH n p a t o)] hintFC
def cutFSp (n : Nat) : FSpec := ⟨[DV, I, I, I, L], [DV, I], fun x => GoodN n x.1, fun x => cutRes n x.1 x.2.1 x.2.2.1 x.2.2.2.1 x.2.2.2.2⟩
noncomputable def FCc (n : Nat) (p a t : Int) (o : List Int) : Ctx := mkctxH bsF [(11, areasPSp n), (42, cutsSp), (43, goodSp), (33, clnG.data)] [] [] [(71, cutH n p a t o)] hintF
theorem cutW_nf (n : Nat) (p a t : Int) (o : List Int) (x : Sp) (c : Int) : fnwpH (FC n p a t o) 8 71 (cut1H n p a t o) x c = ((decide ((0 : Int) < (↑(Rose.subs x).length : Int)) =
  true → (decide ((↑(Rose.subs x).length : Int) = (0 : Int)) = true → isI64 (c + (1 : Int)) ∧ Rose.node (((Rose.val x).fst.fst, (Rose.val x).fst.snd.fst, ()), (Rose.val x).snd.fst,
  ()) (Rose.subs x) = cutT1 n p a t o x c ∧ (True ∧ ((a = a ∧ t = t ∧ o = o ∧ True) ∧ True) ∧ True ∧ ((p = p ∧ True ∧ True) ∧ True) ∧ True ∧ (c + (1 : Int) = c + leaves1 n x ∧
  True) ∧ ((True ∧ True ∧ True ∧ True) ∧ True) ∧ True) ∧ True) ∧ (decide ((↑(Rose.subs x).length : Int) = (0 : Int)) = false → (decide ((0 : Int) < (↑(Rose.subs x).length : Int)) =
  true → ((0 : Int) ≤ (0 : Int) ∧ (0 : Int) < (↑(Rose.subs x).length : Int)) ∧ (True ∧ True ∧ True ∧ True) ∧ (True ∧ ((a = a ∧ t = t ∧ o = o ∧ True) ∧ True) ∧ True ∧ ((p = p ∧ True
  ∧ True) ∧ True) ∧ True ∧ (c = c ∧ True) ∧ ((True ∧ True ∧ True ∧ True) ∧ True) ∧ True) ∧ preC n o (nS (gS x 0)) c ∧ roomP (FC n p a t o) (25 : Nat) [cutT n p a t o (nS (gS x 0))
  c].length ∧ isI64 (1 : Int) ∧ (decide ((1 : Int) < (↑(Rose.subs x).length : Int)) = true → ((0 : Int) ≤ (1 : Int) ∧ (1 : Int) < (↑(Rose.subs x).length : Int)) ∧ (True ∧ True ∧
  True ∧ True) ∧ (True ∧ ((a = a ∧ t = t ∧ o = o ∧ True) ∧ True) ∧ True ∧ ((p = p ∧ True ∧ True) ∧ True) ∧ True ∧ (c + leavesN n (nS (gS x 0)) = c + leavesN n (nS (gS x 0)) ∧ True)
  ∧ ((True ∧ True ∧ True ∧ True) ∧ True) ∧ True) ∧ preC n o (nS (gS x 1)) (c + leavesN n (nS (gS x 0))) ∧ roomP (FC n p a t o) (25 : Nat) ([cutT n p a t o (nS (gS x 0)) c].length +
  [cutT n p a t o (nS (gS x 1)) (c + leavesN n (nS (gS x 0)))].length) ∧ isI64 (2 : Int) ∧ (decide ((2 : Int) < (↑(Rose.subs x).length : Int)) = true → ((0 : Int) ≤ (2 : Int) ∧ (2
  : Int) < (↑(Rose.subs x).length : Int)) ∧ (True ∧ True ∧ True ∧ True) ∧ (True ∧ ((a = a ∧ t = t ∧ o = o ∧ True) ∧ True) ∧ True ∧ ((p = p ∧ True ∧ True) ∧ True) ∧ True ∧ (c +
  leavesN n (nS (gS x 0)) + leavesN n (nS (gS x 1)) = c + leavesN n (nS (gS x 0)) + leavesN n (nS (gS x 1)) ∧ True) ∧ ((True ∧ True ∧ True ∧ True) ∧ True) ∧ True) ∧ preC n o (nS
  (gS x 2)) (c + leavesN n (nS (gS x 0)) + leavesN n (nS (gS x 1))) ∧ roomP (FC n p a t o) (25 : Nat) (([cutT n p a t o (nS (gS x 0)) c] ++ [cutT n p a t o (nS (gS x 1)) (c +
  leavesN n (nS (gS x 0)))]).length + [cutT n p a t o (nS (gS x 2)) (c + leavesN n (nS (gS x 0)) + leavesN n (nS (gS x 1)))].length) ∧ isI64 (3 : Int) ∧ False) ∧ (decide ((2 : Int)
  < (↑(Rose.subs x).length : Int)) = false → Rose.node (((Rose.val x).fst.fst, (Rose.val x).fst.snd.fst, ()), (Rose.val x).snd.fst, ()) ([cutT n p a t o (nS (gS x 0)) c] ++ [cutT n
  p a t o (nS (gS x 1)) (c + leavesN n (nS (gS x 0)))]) = cutT1 n p a t o x c ∧ (True ∧ ((a = a ∧ t = t ∧ o = o ∧ True) ∧ True) ∧ True ∧ ((p = p ∧ True ∧ True) ∧ True) ∧ True ∧ (c
  + leavesN n (nS (gS x 0)) + leavesN n (nS (gS x 1)) = c + leaves1 n x ∧ True) ∧ ((True ∧ True ∧ True ∧ True) ∧ True) ∧ True) ∧ True)) ∧ (decide ((1 : Int) < (↑(Rose.subs
  x).length : Int)) = false → Rose.node (((Rose.val x).fst.fst, (Rose.val x).fst.snd.fst, ()), (Rose.val x).snd.fst, ()) [cutT n p a t o (nS (gS x 0)) c] = cutT1 n p a t o x c ∧
  (True ∧ ((a = a ∧ t = t ∧ o = o ∧ True) ∧ True) ∧ True ∧ ((p = p ∧ True ∧ True) ∧ True) ∧ True ∧ (c + leavesN n (nS (gS x 0)) = c + leaves1 n x ∧ True) ∧ ((True ∧ True ∧ True ∧
  True) ∧ True) ∧ True) ∧ True)) ∧ (decide ((0 : Int) < (↑(Rose.subs x).length : Int)) = false → Rose.node (((Rose.val x).fst.fst, (Rose.val x).fst.snd.fst, ()), (Rose.val
  x).snd.fst, ()) [] = cutT1 n p a t o x c ∧ (True ∧ ((a = a ∧ t = t ∧ o = o ∧ True) ∧ True) ∧ True ∧ ((p = p ∧ True ∧ True) ∧ True) ∧ True ∧ (c = c + leaves1 n x ∧ True) ∧ ((True
  ∧ True ∧ True ∧ True) ∧ True) ∧ True) ∧ True))) ∧ (decide ((0 : Int) < (↑(Rose.subs x).length : Int)) = false → ((!decide (c = p)) = true → (decide ((↑(Rose.subs x).length : Int)
  = (0 : Int)) = true → isI64 (c + (1 : Int)) ∧ Rose.node (((Rose.val x).fst.fst, (Rose.val x).fst.snd.fst, ()), (Rose.val x).snd.fst, ()) (Rose.subs x) = cutT1 n p a t o x c ∧
  (True ∧ ((a = a ∧ t = t ∧ o = o ∧ True) ∧ True) ∧ True ∧ ((p = p ∧ True ∧ True) ∧ True) ∧ True ∧ (c + (1 : Int) = c + leaves1 n x ∧ True) ∧ ((True ∧ True ∧ True ∧ True) ∧ True) ∧
  True) ∧ True) ∧ (decide ((↑(Rose.subs x).length : Int) = (0 : Int)) = false → (decide ((0 : Int) < (↑(Rose.subs x).length : Int)) = true → ((0 : Int) ≤ (0 : Int) ∧ (0 : Int) <
  (↑(Rose.subs x).length : Int)) ∧ (True ∧ True ∧ True ∧ True) ∧ (True ∧ ((a = a ∧ t = t ∧ o = o ∧ True) ∧ True) ∧ True ∧ ((p = p ∧ True ∧ True) ∧ True) ∧ True ∧ (c = c ∧ True) ∧
  ((True ∧ True ∧ True ∧ True) ∧ True) ∧ True) ∧ preC n o (nS (gS x 0)) c ∧ roomP (FC n p a t o) (25 : Nat) [cutT n p a t o (nS (gS x 0)) c].length ∧ isI64 (1 : Int) ∧ (decide ((1
  : Int) < (↑(Rose.subs x).length : Int)) = true → ((0 : Int) ≤ (1 : Int) ∧ (1 : Int) < (↑(Rose.subs x).length : Int)) ∧ (True ∧ True ∧ True ∧ True) ∧ (True ∧ ((a = a ∧ t = t ∧ o =
  o ∧ True) ∧ True) ∧ True ∧ ((p = p ∧ True ∧ True) ∧ True) ∧ True ∧ (c + leavesN n (nS (gS x 0)) = c + leavesN n (nS (gS x 0)) ∧ True) ∧ ((True ∧ True ∧ True ∧ True) ∧ True) ∧
  True) ∧ preC n o (nS (gS x 1)) (c + leavesN n (nS (gS x 0))) ∧ roomP (FC n p a t o) (25 : Nat) ([cutT n p a t o (nS (gS x 0)) c].length + [cutT n p a t o (nS (gS x 1)) (c +
  leavesN n (nS (gS x 0)))].length) ∧ isI64 (2 : Int) ∧ (decide ((2 : Int) < (↑(Rose.subs x).length : Int)) = true → ((0 : Int) ≤ (2 : Int) ∧ (2 : Int) < (↑(Rose.subs x).length :
  Int)) ∧ (True ∧ True ∧ True ∧ True) ∧ (True ∧ ((a = a ∧ t = t ∧ o = o ∧ True) ∧ True) ∧ True ∧ ((p = p ∧ True ∧ True) ∧ True) ∧ True ∧ (c + leavesN n (nS (gS x 0)) + leavesN n
  (nS (gS x 1)) = c + leavesN n (nS (gS x 0)) + leavesN n (nS (gS x 1)) ∧ True) ∧ ((True ∧ True ∧ True ∧ True) ∧ True) ∧ True) ∧ preC n o (nS (gS x 2)) (c + leavesN n (nS (gS x 0))
  + leavesN n (nS (gS x 1))) ∧ roomP (FC n p a t o) (25 : Nat) (([cutT n p a t o (nS (gS x 0)) c] ++ [cutT n p a t o (nS (gS x 1)) (c + leavesN n (nS (gS x 0)))]).length + [cutT n
  p a t o (nS (gS x 2)) (c + leavesN n (nS (gS x 0)) + leavesN n (nS (gS x 1)))].length) ∧ isI64 (3 : Int) ∧ False) ∧ (decide ((2 : Int) < (↑(Rose.subs x).length : Int)) = false →
  Rose.node (((Rose.val x).fst.fst, (Rose.val x).fst.snd.fst, ()), (Rose.val x).snd.fst, ()) ([cutT n p a t o (nS (gS x 0)) c] ++ [cutT n p a t o (nS (gS x 1)) (c + leavesN n (nS
  (gS x 0)))]) = cutT1 n p a t o x c ∧ (True ∧ ((a = a ∧ t = t ∧ o = o ∧ True) ∧ True) ∧ True ∧ ((p = p ∧ True ∧ True) ∧ True) ∧ True ∧ (c + leavesN n (nS (gS x 0)) + leavesN n (nS
  (gS x 1)) = c + leaves1 n x ∧ True) ∧ ((True ∧ True ∧ True ∧ True) ∧ True) ∧ True) ∧ True)) ∧ (decide ((1 : Int) < (↑(Rose.subs x).length : Int)) = false → Rose.node (((Rose.val
  x).fst.fst, (Rose.val x).fst.snd.fst, ()), (Rose.val x).snd.fst, ()) [cutT n p a t o (nS (gS x 0)) c] = cutT1 n p a t o x c ∧ (True ∧ ((a = a ∧ t = t ∧ o = o ∧ True) ∧ True) ∧
  True ∧ ((p = p ∧ True ∧ True) ∧ True) ∧ True ∧ (c + leavesN n (nS (gS x 0)) = c + leaves1 n x ∧ True) ∧ ((True ∧ True ∧ True ∧ True) ∧ True) ∧ True) ∧ True)) ∧ (decide ((0 : Int)
  < (↑(Rose.subs x).length : Int)) = false → Rose.node (((Rose.val x).fst.fst, (Rose.val x).fst.snd.fst, ()), (Rose.val x).snd.fst, ()) [] = cutT1 n p a t o x c ∧ (True ∧ ((a = a ∧
  t = t ∧ o = o ∧ True) ∧ True) ∧ True ∧ ((p = p ∧ True ∧ True) ∧ True) ∧ True ∧ (c = c + leaves1 n x ∧ True) ∧ ((True ∧ True ∧ True ∧ True) ∧ True) ∧ True) ∧ True))) ∧ ((!decide
  (c = p)) = false → o.length ≤ (1000000 : Nat) ∧ decide ((↑(Rose.subs x).length : Int) = (0 : Int)) = true ∧ isI64 (c + (1 : Int)) ∧ Rose.node ((a, t, ()), [], ()) [x, Rose.node
  (((0 : Int), (0 : Int), ()), o, ()) []] = cutT1 n p a t o x c ∧ (True ∧ ((a = a ∧ t = t ∧ o = o ∧ True) ∧ True) ∧ True ∧ ((p = p ∧ True ∧ True) ∧ True) ∧ True ∧ (c + (1 : Int) =
  c + leaves1 n x ∧ True) ∧ ((True ∧ True ∧ True ∧ True) ∧ True) ∧ True) ∧ True))) := by kernel_rfl
theorem cut_nf (n : Nat) (d : Dv) (p a t : Int) (o : List Int) : fnwp (FCc n p a t o) 8 17 (cutFSp n) (d, p, a, t, o) = (preA n d ∧ (decide (p < (0 : Int)) = true → ((d.fst,
  d.snd.fst, Rose.node ((d.snd.snd.fst.val.fst.fst, d.snd.snd.fst.val.fst.snd.fst, ()), d.snd.snd.fst.val.snd.fst, ()) d.snd.snd.fst.subs, ()), (5 : Int)) = cutRes n d p a t o) ∧
  (decide (p < (0 : Int)) = false → (decide ((↑(areasN n d).length : Int) ≤ p) = true → ((d.fst, d.snd.fst, Rose.node ((d.snd.snd.fst.val.fst.fst, d.snd.snd.fst.val.fst.snd.fst,
  ()), d.snd.snd.fst.val.snd.fst, ()) d.snd.snd.fst.subs, ()), (5 : Int)) = cutRes n d p a t o) ∧ (decide ((↑(areasN n d).length : Int) ≤ p) = false → ((0 : Int) ≤ p ∧ p <
  (↑(areasN n d).length : Int)) ∧ evenB ((areasN n d).getD p.toNat (([], [], ()), [], ())).fst ∧ ((!cutsB ((areasN n d).getD p.toNat (([], [], ()), [], ())).fst a t) = true →
  ((d.fst, d.snd.fst, Rose.node ((d.snd.snd.fst.val.fst.fst, d.snd.snd.fst.val.fst.snd.fst, ()), d.snd.snd.fst.val.snd.fst, ()) d.snd.snd.fst.subs, ()), (1 : Int)) = cutRes n d p a
  t o) ∧ ((!cutsB ((areasN n d).getD p.toNat (([], [], ()), [], ())).fst a t) = false → True ∧ ((!goodS o) = true → ((d.fst, d.snd.fst, Rose.node ((d.snd.snd.fst.val.fst.fst,
  d.snd.snd.fst.val.fst.snd.fst, ()), d.snd.snd.fst.val.snd.fst, ()) d.snd.snd.fst.subs, ()), (1 : Int)) = cutRes n d p a t o) ∧ ((!goodS o) = false → (decide ((64 : Int) ≤
  (↑(areasN n d).length : Int)) = true → ((d.fst, d.snd.fst, Rose.node ((d.snd.snd.fst.val.fst.fst, d.snd.snd.fst.val.fst.snd.fst, ()), d.snd.snd.fst.val.snd.fst, ())
  d.snd.snd.fst.subs, ()), (2 : Int)) = cutRes n d p a t o) ∧ (decide ((64 : Int) ≤ (↑(areasN n d).length : Int)) = false → (decide ((1073741824 : Int) ≤ d.snd.fst) = true →
  ((d.fst, d.snd.fst, Rose.node ((d.snd.snd.fst.val.fst.fst, d.snd.snd.fst.val.fst.snd.fst, ()), d.snd.snd.fst.val.snd.fst, ()) d.snd.snd.fst.subs, ()), (2 : Int)) = cutRes n d p a
  t o) ∧ (decide ((1073741824 : Int) ≤ d.snd.fst) = false → isI64 (d.snd.fst + (1 : Int)) ∧ (True ∧ True ∧ True ∧ True) ∧ (True ∧ ((a = a ∧ t = t ∧ o = o ∧ True) ∧ True) ∧ True ∧
  ((p = p ∧ True ∧ True) ∧ True) ∧ True ∧ ((0 : Int) = (0 : Int) ∧ True) ∧ ((True ∧ True ∧ True ∧ True) ∧ True) ∧ True) ∧ preC n o d.snd.snd.fst (0 : Int) ∧ ((d.fst, d.snd.fst + (1
  : Int), Rose.node (((Rose.val (cutT n p a t o d.snd.snd.fst (0 : Int))).fst.fst, (Rose.val (cutT n p a t o d.snd.snd.fst (0 : Int))).fst.snd.fst, ()), (Rose.val (cutT n p a t o
  d.snd.snd.fst (0 : Int))).snd.fst, ()) (Rose.subs (cutT n p a t o d.snd.snd.fst (0 : Int))), ()), (0 : Int)) = cutRes n d p a t o))))))) := by kernel_rfl
end Go.Proofs.Ytdeleoaeegmhlaa
