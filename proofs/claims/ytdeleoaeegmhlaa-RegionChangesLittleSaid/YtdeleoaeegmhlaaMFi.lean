import Derived.Test.YtdeleoaeegmhlaaMFf
import Derived.Test.YtdeleoaeegmhlaaMYp
namespace Go.PL
open Go.AM
set_option linter.unusedVariables false
def sgnS (x y : Int) : Int := if x < y then -1 else if y < x then 1 else 0
def lexS : List Int → List Int → Int
  | [], [] => 0
  | [], _ :: _ => -1
  | _ :: _, [] => 1
  | x :: a, y :: b => if x < y then -1 else if y < x then 1 else lexS a b
def cmpS (a b : List Int) : Int := if a.length < b.length then -1 else if b.length < a.length then 1 else lexS a b
end Go.PL
namespace Go.Proofs.Ytdeleoaeegmhlaa
open Go.AM Go.PL
set_option linter.unusedVariables false
def cmpSp : FSpec := ⟨[L, L], [I], fun _ => True, fun x => cmpS x.1 x.2⟩
def same4Sp : FSpec := ⟨[L, L], [.bool], fun _ => True, fun x => decide ((x.1 : List Int) = x.2)⟩
def hintFi (f : FuncId) : Hint := ⟨fun _ => bif Nat.beq f 47 then [.slot 5 I] else [], fun r => bif Nat.beq f 5 && (Nat.beq r 8 || Nat.beq r 11 || Nat.beq r 18) then .yes else .split, fun t => bif Nat.beq f 5 && Nat.beq t 95 then .no else .split, fun _ => 0⟩
noncomputable def FQ0 : Ctx := mkctx bs [] [] hintFi
noncomputable def FQ1 : Ctx := mkctx bs [(47, cmpSp), (46, same6Sp)] [] hintFi
def tFi : List (FuncId × FSpec) := [(7, rfewSp 60), (8, rvalidSp 60), (9, bvecSp), (10, sanSp),
  (17, cutFSp 60), (13, homeSp 61), (11, areasPSp 61), (20, joinFSp 61), (18, sameBSp), (19, same4Sp), (21, sameTSp 61)]
noncomputable def FL : Ctx := mkctx bs tFi [] hintFi
theorem rCmp_nf (a b : List Int) : fnwp FQ0 6 47 cmpSp (a, b) = ((decide ((↑a.length : Int) < (↑b.length : Int)) = true → (-1 : Int) = cmpS a b) ∧ (decide ((↑a.length : Int) <
  (↑b.length : Int)) = false → (decide ((↑b.length : Int) < (↑a.length : Int)) = true → (1 : Int) = cmpS a b) ∧ (decide ((↑b.length : Int) < (↑a.length : Int)) = false → ∃ (I : Int
  → Prop), ∃ (μ : Int → Nat), I (0 : Int) ∧ ∀ (x : Int), I x → (decide (x < (↑a.length : Int)) = true → ((0 : Int) ≤ x ∧ x < (↑a.length : Int)) ∧ ((0 : Int) ≤ x ∧ x < (↑b.length :
  Int)) ∧ (decide (a.getD x.toNat (0 : Int) < b.getD x.toNat (0 : Int)) = true → (-1 : Int) = cmpS a b) ∧ (decide (a.getD x.toNat (0 : Int) < b.getD x.toNat (0 : Int)) = false →
  ((0 : Int) ≤ x ∧ x < (↑a.length : Int)) ∧ ((0 : Int) ≤ x ∧ x < (↑b.length : Int)) ∧ (decide (b.getD x.toNat (0 : Int) < a.getD x.toNat (0 : Int)) = true → (1 : Int) = cmpS a b) ∧
  (decide (b.getD x.toNat (0 : Int) < a.getD x.toNat (0 : Int)) = false → isI64 (x + (1 : Int)) ∧ I (x + (1 : Int)) ∧ μ (x + (1 : Int)) < μ x))) ∧ (decide (x < (↑a.length : Int)) =
  false → (0 : Int) = cmpS a b)))) := by kernel_rfl
theorem rSam_nf (a b : List Int) : fnwp FQ1 6 19 same4Sp (a, b) = (True ∧ decide (cmpS a b = (0 : Int)) = decide (a = b)) := by kernel_rfl
theorem rSame43_nf (a b : List Int) : fnwp FQ1 6 51 same6Sp (a, b) = (True ∧ decide (a = b) = decide (a = b)) := by kernel_rfl
theorem law_nf (d : Dv) (p a t : Int) (o v : List Int) : fnwp FL 6 5 (lawSp [DV, I, I, I, L, L]) (d, p, a, t, o, v) = ((60 : Nat) = (60 : Nat) ∧ ((!fewD (60 : Nat) d) = true → True
  ∧ true = true) ∧ ((!fewD (60 : Nat) d) = false → deepN (60 : Nat) d.snd.snd.fst ∧ ((!validD (60 : Nat) d) = true → True ∧ true = true) ∧ ((!validD (60 : Nat) d) = false → (decide
  ((40 : Int) < (↑o.length : Int)) = true → True ∧ true = true) ∧ (decide ((40 : Int) < (↑o.length : Int)) = false → ((!decide ((↑v.length : Int) = d.fst)) = true → True ∧ true =
  true) ∧ ((!decide ((↑v.length : Int) = d.fst)) = false → True ∧ ((!bvec v) = true → True ∧ true = true) ∧ ((!bvec v) = false → GoodN (60 : Nat) d ∧ ((!decide ((cutRes (60 : Nat)
  d p a t o).snd = (0 : Int))) = true → True ∧ true = true) ∧ ((!decide ((cutRes (60 : Nat) d p a t o).snd = (0 : Int))) = false → preA (61 : Nat) d ∧ preA (61 : Nat) ((cutRes (60
  : Nat) d p a t o).fst.fst, (cutRes (60 : Nat) d p a t o).fst.snd.fst, Rose.node (((cutRes (60 : Nat) d p a t o).fst.snd.snd.fst.val.fst.fst, (cutRes (60 : Nat) d p a t
  o).fst.snd.snd.fst.val.fst.snd.fst, ()), (cutRes (60 : Nat) d p a t o).fst.snd.snd.fst.val.snd.fst, ()) (cutRes (60 : Nat) d p a t o).fst.snd.snd.fst.subs, ()) ∧ preA (61 : Nat)
  d ∧ preA (61 : Nat) ((cutRes (60 : Nat) d p a t o).fst.fst, (cutRes (60 : Nat) d p a t o).fst.snd.fst, Rose.node (((cutRes (60 : Nat) d p a t o).fst.snd.snd.fst.val.fst.fst,
  (cutRes (60 : Nat) d p a t o).fst.snd.snd.fst.val.fst.snd.fst, ()), (cutRes (60 : Nat) d p a t o).fst.snd.snd.fst.val.snd.fst, ()) (cutRes (60 : Nat) d p a t
  o).fst.snd.snd.fst.subs, ()) ∧ decide (homeN (61 : Nat) d v < (0 : Int)) = false ∧ decide (homeN (61 : Nat) ((cutRes (60 : Nat) d p a t o).fst.fst, (cutRes (60 : Nat) d p a t
  o).fst.snd.fst, Rose.node (((cutRes (60 : Nat) d p a t o).fst.snd.snd.fst.val.fst.fst, (cutRes (60 : Nat) d p a t o).fst.snd.snd.fst.val.fst.snd.fst, ()), (cutRes (60 : Nat) d p
  a t o).fst.snd.snd.fst.val.snd.fst, ()) (cutRes (60 : Nat) d p a t o).fst.snd.snd.fst.subs, ()) v < (0 : Int)) = false ∧ decide ((↑(areasN (61 : Nat) d).length : Int) ≤ homeN (61
  : Nat) d v) = false ∧ decide ((↑(areasN (61 : Nat) ((cutRes (60 : Nat) d p a t o).fst.fst, (cutRes (60 : Nat) d p a t o).fst.snd.fst, Rose.node (((cutRes (60 : Nat) d p a t
  o).fst.snd.snd.fst.val.fst.fst, (cutRes (60 : Nat) d p a t o).fst.snd.snd.fst.val.fst.snd.fst, ()), (cutRes (60 : Nat) d p a t o).fst.snd.snd.fst.val.snd.fst, ()) (cutRes (60 :
  Nat) d p a t o).fst.snd.snd.fst.subs, ())).length : Int) ≤ homeN (61 : Nat) ((cutRes (60 : Nat) d p a t o).fst.fst, (cutRes (60 : Nat) d p a t o).fst.snd.fst, Rose.node (((cutRes
  (60 : Nat) d p a t o).fst.snd.snd.fst.val.fst.fst, (cutRes (60 : Nat) d p a t o).fst.snd.snd.fst.val.fst.snd.fst, ()), (cutRes (60 : Nat) d p a t o).fst.snd.snd.fst.val.snd.fst,
  ()) (cutRes (60 : Nat) d p a t o).fst.snd.snd.fst.subs, ()) v) = false ∧ isI64 ((↑(areasN (61 : Nat) d).length : Int) + (1 : Int)) ∧ (!decide ((↑(areasN (61 : Nat) ((cutRes (60 :
  Nat) d p a t o).fst.fst, (cutRes (60 : Nat) d p a t o).fst.snd.fst, Rose.node (((cutRes (60 : Nat) d p a t o).fst.snd.snd.fst.val.fst.fst, (cutRes (60 : Nat) d p a t
  o).fst.snd.snd.fst.val.fst.snd.fst, ()), (cutRes (60 : Nat) d p a t o).fst.snd.snd.fst.val.snd.fst, ()) (cutRes (60 : Nat) d p a t o).fst.snd.snd.fst.subs, ())).length : Int) =
  (↑(areasN (61 : Nat) d).length : Int) + (1 : Int))) = false ∧ ((!decide (homeN (61 : Nat) d v = p)) = true → True ∧ true = true ∧ ((0 : Int) ≤ homeN (61 : Nat) d v ∧ homeN (61 :
  Nat) d v < (↑(areasN (61 : Nat) d).length : Int)) ∧ ((0 : Int) ≤ homeN (61 : Nat) ((cutRes (60 : Nat) d p a t o).fst.fst, (cutRes (60 : Nat) d p a t o).fst.snd.fst, Rose.node
  (((cutRes (60 : Nat) d p a t o).fst.snd.snd.fst.val.fst.fst, (cutRes (60 : Nat) d p a t o).fst.snd.snd.fst.val.fst.snd.fst, ()), (cutRes (60 : Nat) d p a t
  o).fst.snd.snd.fst.val.snd.fst, ()) (cutRes (60 : Nat) d p a t o).fst.snd.snd.fst.subs, ()) v ∧ homeN (61 : Nat) ((cutRes (60 : Nat) d p a t o).fst.fst, (cutRes (60 : Nat) d p a
  t o).fst.snd.fst, Rose.node (((cutRes (60 : Nat) d p a t o).fst.snd.snd.fst.val.fst.fst, (cutRes (60 : Nat) d p a t o).fst.snd.snd.fst.val.fst.snd.fst, ()), (cutRes (60 : Nat) d
  p a t o).fst.snd.snd.fst.val.snd.fst, ()) (cutRes (60 : Nat) d p a t o).fst.snd.snd.fst.subs, ()) v < (↑(areasN (61 : Nat) ((cutRes (60 : Nat) d p a t o).fst.fst, (cutRes (60 :
  Nat) d p a t o).fst.snd.fst, Rose.node (((cutRes (60 : Nat) d p a t o).fst.snd.snd.fst.val.fst.fst, (cutRes (60 : Nat) d p a t o).fst.snd.snd.fst.val.fst.snd.fst, ()), (cutRes
  (60 : Nat) d p a t o).fst.snd.snd.fst.val.snd.fst, ()) (cutRes (60 : Nat) d p a t o).fst.snd.snd.fst.subs, ())).length : Int)) ∧ True ∧ decide (((areasN (61 : Nat) d).getD (homeN
  (61 : Nat) d v).toNat (([], [], ()), [], ())).fst = ((areasN (61 : Nat) ((cutRes (60 : Nat) d p a t o).fst.fst, (cutRes (60 : Nat) d p a t o).fst.snd.fst, Rose.node (((cutRes (60
  : Nat) d p a t o).fst.snd.snd.fst.val.fst.fst, (cutRes (60 : Nat) d p a t o).fst.snd.snd.fst.val.fst.snd.fst, ()), (cutRes (60 : Nat) d p a t o).fst.snd.snd.fst.val.snd.fst, ())
  (cutRes (60 : Nat) d p a t o).fst.snd.snd.fst.subs, ())).getD (homeN (61 : Nat) ((cutRes (60 : Nat) d p a t o).fst.fst, (cutRes (60 : Nat) d p a t o).fst.snd.fst, Rose.node
  (((cutRes (60 : Nat) d p a t o).fst.snd.snd.fst.val.fst.fst, (cutRes (60 : Nat) d p a t o).fst.snd.snd.fst.val.fst.snd.fst, ()), (cutRes (60 : Nat) d p a t
  o).fst.snd.snd.fst.val.snd.fst, ()) (cutRes (60 : Nat) d p a t o).fst.snd.snd.fst.subs, ()) v).toNat (([], [], ()), [], ())).fst) = true ∧ ((0 : Int) ≤ homeN (61 : Nat) d v ∧
  homeN (61 : Nat) d v < (↑(areasN (61 : Nat) d).length : Int)) ∧ ((0 : Int) ≤ homeN (61 : Nat) ((cutRes (60 : Nat) d p a t o).fst.fst, (cutRes (60 : Nat) d p a t o).fst.snd.fst,
  Rose.node (((cutRes (60 : Nat) d p a t o).fst.snd.snd.fst.val.fst.fst, (cutRes (60 : Nat) d p a t o).fst.snd.snd.fst.val.fst.snd.fst, ()), (cutRes (60 : Nat) d p a t
  o).fst.snd.snd.fst.val.snd.fst, ()) (cutRes (60 : Nat) d p a t o).fst.snd.snd.fst.subs, ()) v ∧ homeN (61 : Nat) ((cutRes (60 : Nat) d p a t o).fst.fst, (cutRes (60 : Nat) d p a
  t o).fst.snd.fst, Rose.node (((cutRes (60 : Nat) d p a t o).fst.snd.snd.fst.val.fst.fst, (cutRes (60 : Nat) d p a t o).fst.snd.snd.fst.val.fst.snd.fst, ()), (cutRes (60 : Nat) d
  p a t o).fst.snd.snd.fst.val.snd.fst, ()) (cutRes (60 : Nat) d p a t o).fst.snd.snd.fst.subs, ()) v < (↑(areasN (61 : Nat) ((cutRes (60 : Nat) d p a t o).fst.fst, (cutRes (60 :
  Nat) d p a t o).fst.snd.fst, Rose.node (((cutRes (60 : Nat) d p a t o).fst.snd.snd.fst.val.fst.fst, (cutRes (60 : Nat) d p a t o).fst.snd.snd.fst.val.fst.snd.fst, ()), (cutRes
  (60 : Nat) d p a t o).fst.snd.snd.fst.val.snd.fst, ()) (cutRes (60 : Nat) d p a t o).fst.snd.snd.fst.subs, ())).length : Int)) ∧ True ∧ decide (((areasN (61 : Nat) d).getD (homeN
  (61 : Nat) d v).toNat (([], [], ()), [], ())).snd.fst = ((areasN (61 : Nat) ((cutRes (60 : Nat) d p a t o).fst.fst, (cutRes (60 : Nat) d p a t o).fst.snd.fst, Rose.node (((cutRes
  (60 : Nat) d p a t o).fst.snd.snd.fst.val.fst.fst, (cutRes (60 : Nat) d p a t o).fst.snd.snd.fst.val.fst.snd.fst, ()), (cutRes (60 : Nat) d p a t o).fst.snd.snd.fst.val.snd.fst,
  ()) (cutRes (60 : Nat) d p a t o).fst.snd.snd.fst.subs, ())).getD (homeN (61 : Nat) ((cutRes (60 : Nat) d p a t o).fst.fst, (cutRes (60 : Nat) d p a t o).fst.snd.fst, Rose.node
  (((cutRes (60 : Nat) d p a t o).fst.snd.snd.fst.val.fst.fst, (cutRes (60 : Nat) d p a t o).fst.snd.snd.fst.val.fst.snd.fst, ()), (cutRes (60 : Nat) d p a t
  o).fst.snd.snd.fst.val.snd.fst, ()) (cutRes (60 : Nat) d p a t o).fst.snd.snd.fst.subs, ()) v).toNat (([], [], ()), [], ())).snd.fst) = true) ∧ ((!decide (homeN (61 : Nat) d v =
  p)) = false → ((0 : Int) ≤ a ∧ a < (↑v.length : Int)) ∧ (decide (t ≤ v.getD a.toNat (0 : Int)) = true → (GoodN (61 : Nat) ((cutRes (60 : Nat) d p a t o).fst.fst, (cutRes (60 :
  Nat) d p a t o).fst.snd.fst, Rose.node (((cutRes (60 : Nat) d p a t o).fst.snd.snd.fst.val.fst.fst, (cutRes (60 : Nat) d p a t o).fst.snd.snd.fst.val.fst.snd.fst, ()), (cutRes
  (60 : Nat) d p a t o).fst.snd.snd.fst.val.snd.fst, ()) (cutRes (60 : Nat) d p a t o).fst.snd.snd.fst.subs, ()) ∧ p ≤ (1000000 : Int)) ∧ (decide ((cutRes (60 : Nat) d p a t
  o).fst.snd.fst < (1073741824 : Int)) = true → ((!decide ((joinRes (61 : Nat) ((cutRes (60 : Nat) d p a t o).fst.fst, (cutRes (60 : Nat) d p a t o).fst.snd.fst, Rose.node
  (((cutRes (60 : Nat) d p a t o).fst.snd.snd.fst.val.fst.fst, (cutRes (60 : Nat) d p a t o).fst.snd.snd.fst.val.fst.snd.fst, ()), (cutRes (60 : Nat) d p a t
  o).fst.snd.snd.fst.val.snd.fst, ()) (cutRes (60 : Nat) d p a t o).fst.snd.snd.fst.subs, ()) p).snd = (0 : Int))) = true → false = true) ∧ ((!decide ((joinRes (61 : Nat) ((cutRes
  (60 : Nat) d p a t o).fst.fst, (cutRes (60 : Nat) d p a t o).fst.snd.fst, Rose.node (((cutRes (60 : Nat) d p a t o).fst.snd.snd.fst.val.fst.fst, (cutRes (60 : Nat) d p a t
  o).fst.snd.snd.fst.val.fst.snd.fst, ()), (cutRes (60 : Nat) d p a t o).fst.snd.snd.fst.val.snd.fst, ()) (cutRes (60 : Nat) d p a t o).fst.snd.snd.fst.subs, ()) p).snd = (0 :
  Int))) = false → sameP (61 : Nat) (Rose.node (((joinRes (61 : Nat) ((cutRes (60 : Nat) d p a t o).fst.fst, (cutRes (60 : Nat) d p a t o).fst.snd.fst, Rose.node (((cutRes (60 :
  Nat) d p a t o).fst.snd.snd.fst.val.fst.fst, (cutRes (60 : Nat) d p a t o).fst.snd.snd.fst.val.fst.snd.fst, ()), (cutRes (60 : Nat) d p a t o).fst.snd.snd.fst.val.snd.fst, ())
  (cutRes (60 : Nat) d p a t o).fst.snd.snd.fst.subs, ()) p).fst.snd.snd.fst.val.fst.fst, (joinRes (61 : Nat) ((cutRes (60 : Nat) d p a t o).fst.fst, (cutRes (60 : Nat) d p a t
  o).fst.snd.fst, Rose.node (((cutRes (60 : Nat) d p a t o).fst.snd.snd.fst.val.fst.fst, (cutRes (60 : Nat) d p a t o).fst.snd.snd.fst.val.fst.snd.fst, ()), (cutRes (60 : Nat) d p
  a t o).fst.snd.snd.fst.val.snd.fst, ()) (cutRes (60 : Nat) d p a t o).fst.snd.snd.fst.subs, ()) p).fst.snd.snd.fst.val.fst.snd.fst, ()), (joinRes (61 : Nat) ((cutRes (60 : Nat) d
  p a t o).fst.fst, (cutRes (60 : Nat) d p a t o).fst.snd.fst, Rose.node (((cutRes (60 : Nat) d p a t o).fst.snd.snd.fst.val.fst.fst, (cutRes (60 : Nat) d p a t
  o).fst.snd.snd.fst.val.fst.snd.fst, ()), (cutRes (60 : Nat) d p a t o).fst.snd.snd.fst.val.snd.fst, ()) (cutRes (60 : Nat) d p a t o).fst.snd.snd.fst.subs, ())
  p).fst.snd.snd.fst.val.snd.fst, ()) (joinRes (61 : Nat) ((cutRes (60 : Nat) d p a t o).fst.fst, (cutRes (60 : Nat) d p a t o).fst.snd.fst, Rose.node (((cutRes (60 : Nat) d p a t
  o).fst.snd.snd.fst.val.fst.fst, (cutRes (60 : Nat) d p a t o).fst.snd.snd.fst.val.fst.snd.fst, ()), (cutRes (60 : Nat) d p a t o).fst.snd.snd.fst.val.snd.fst, ()) (cutRes (60 :
  Nat) d p a t o).fst.snd.snd.fst.subs, ()) p).fst.snd.snd.fst.subs) d.snd.snd.fst ∧ ((!true) = true → false = true) ∧ ((!true) = false → True ∧ true = true ∧ isI64 (p + (1 : Int))
  ∧ decide (homeN (61 : Nat) ((cutRes (60 : Nat) d p a t o).fst.fst, (cutRes (60 : Nat) d p a t o).fst.snd.fst, Rose.node (((cutRes (60 : Nat) d p a t
  o).fst.snd.snd.fst.val.fst.fst, (cutRes (60 : Nat) d p a t o).fst.snd.snd.fst.val.fst.snd.fst, ()), (cutRes (60 : Nat) d p a t o).fst.snd.snd.fst.val.snd.fst, ()) (cutRes (60 :
  Nat) d p a t o).fst.snd.snd.fst.subs, ()) v = p + (1 : Int)) = true ∧ isI64 (d.snd.fst + (1 : Int)) ∧ decide ((cutRes (60 : Nat) d p a t o).fst.snd.fst = d.snd.fst + (1 : Int)) =
  true))) ∧ (decide ((cutRes (60 : Nat) d p a t o).fst.snd.fst < (1073741824 : Int)) = false → True ∧ true = true ∧ isI64 (p + (1 : Int)) ∧ decide (homeN (61 : Nat) ((cutRes (60 :
  Nat) d p a t o).fst.fst, (cutRes (60 : Nat) d p a t o).fst.snd.fst, Rose.node (((cutRes (60 : Nat) d p a t o).fst.snd.snd.fst.val.fst.fst, (cutRes (60 : Nat) d p a t
  o).fst.snd.snd.fst.val.fst.snd.fst, ()), (cutRes (60 : Nat) d p a t o).fst.snd.snd.fst.val.snd.fst, ()) (cutRes (60 : Nat) d p a t o).fst.snd.snd.fst.subs, ()) v = p + (1 : Int))
  = true ∧ isI64 (d.snd.fst + (1 : Int)) ∧ decide ((cutRes (60 : Nat) d p a t o).fst.snd.fst = d.snd.fst + (1 : Int)) = true)) ∧ (decide (t ≤ v.getD a.toNat (0 : Int)) = false →
  (GoodN (61 : Nat) ((cutRes (60 : Nat) d p a t o).fst.fst, (cutRes (60 : Nat) d p a t o).fst.snd.fst, Rose.node (((cutRes (60 : Nat) d p a t o).fst.snd.snd.fst.val.fst.fst,
  (cutRes (60 : Nat) d p a t o).fst.snd.snd.fst.val.fst.snd.fst, ()), (cutRes (60 : Nat) d p a t o).fst.snd.snd.fst.val.snd.fst, ()) (cutRes (60 : Nat) d p a t
  o).fst.snd.snd.fst.subs, ()) ∧ p ≤ (1000000 : Int)) ∧ (decide ((cutRes (60 : Nat) d p a t o).fst.snd.fst < (1073741824 : Int)) = true → ((!decide ((joinRes (61 : Nat) ((cutRes
  (60 : Nat) d p a t o).fst.fst, (cutRes (60 : Nat) d p a t o).fst.snd.fst, Rose.node (((cutRes (60 : Nat) d p a t o).fst.snd.snd.fst.val.fst.fst, (cutRes (60 : Nat) d p a t
  o).fst.snd.snd.fst.val.fst.snd.fst, ()), (cutRes (60 : Nat) d p a t o).fst.snd.snd.fst.val.snd.fst, ()) (cutRes (60 : Nat) d p a t o).fst.snd.snd.fst.subs, ()) p).snd = (0 :
  Int))) = true → false = true) ∧ ((!decide ((joinRes (61 : Nat) ((cutRes (60 : Nat) d p a t o).fst.fst, (cutRes (60 : Nat) d p a t o).fst.snd.fst, Rose.node (((cutRes (60 : Nat) d
  p a t o).fst.snd.snd.fst.val.fst.fst, (cutRes (60 : Nat) d p a t o).fst.snd.snd.fst.val.fst.snd.fst, ()), (cutRes (60 : Nat) d p a t o).fst.snd.snd.fst.val.snd.fst, ()) (cutRes
  (60 : Nat) d p a t o).fst.snd.snd.fst.subs, ()) p).snd = (0 : Int))) = false → sameP (61 : Nat) (Rose.node (((joinRes (61 : Nat) ((cutRes (60 : Nat) d p a t o).fst.fst, (cutRes
  (60 : Nat) d p a t o).fst.snd.fst, Rose.node (((cutRes (60 : Nat) d p a t o).fst.snd.snd.fst.val.fst.fst, (cutRes (60 : Nat) d p a t o).fst.snd.snd.fst.val.fst.snd.fst, ()),
  (cutRes (60 : Nat) d p a t o).fst.snd.snd.fst.val.snd.fst, ()) (cutRes (60 : Nat) d p a t o).fst.snd.snd.fst.subs, ()) p).fst.snd.snd.fst.val.fst.fst, (joinRes (61 : Nat)
  ((cutRes (60 : Nat) d p a t o).fst.fst, (cutRes (60 : Nat) d p a t o).fst.snd.fst, Rose.node (((cutRes (60 : Nat) d p a t o).fst.snd.snd.fst.val.fst.fst, (cutRes (60 : Nat) d p a
  t o).fst.snd.snd.fst.val.fst.snd.fst, ()), (cutRes (60 : Nat) d p a t o).fst.snd.snd.fst.val.snd.fst, ()) (cutRes (60 : Nat) d p a t o).fst.snd.snd.fst.subs, ())
  p).fst.snd.snd.fst.val.fst.snd.fst, ()), (joinRes (61 : Nat) ((cutRes (60 : Nat) d p a t o).fst.fst, (cutRes (60 : Nat) d p a t o).fst.snd.fst, Rose.node (((cutRes (60 : Nat) d p
  a t o).fst.snd.snd.fst.val.fst.fst, (cutRes (60 : Nat) d p a t o).fst.snd.snd.fst.val.fst.snd.fst, ()), (cutRes (60 : Nat) d p a t o).fst.snd.snd.fst.val.snd.fst, ()) (cutRes (60
  : Nat) d p a t o).fst.snd.snd.fst.subs, ()) p).fst.snd.snd.fst.val.snd.fst, ()) (joinRes (61 : Nat) ((cutRes (60 : Nat) d p a t o).fst.fst, (cutRes (60 : Nat) d p a t
  o).fst.snd.fst, Rose.node (((cutRes (60 : Nat) d p a t o).fst.snd.snd.fst.val.fst.fst, (cutRes (60 : Nat) d p a t o).fst.snd.snd.fst.val.fst.snd.fst, ()), (cutRes (60 : Nat) d p
  a t o).fst.snd.snd.fst.val.snd.fst, ()) (cutRes (60 : Nat) d p a t o).fst.snd.snd.fst.subs, ()) p).fst.snd.snd.fst.subs) d.snd.snd.fst ∧ ((!true) = true → false = true) ∧
  ((!true) = false → True ∧ true = true ∧ isI64 (p + (0 : Int)) ∧ decide (homeN (61 : Nat) ((cutRes (60 : Nat) d p a t o).fst.fst, (cutRes (60 : Nat) d p a t o).fst.snd.fst,
  Rose.node (((cutRes (60 : Nat) d p a t o).fst.snd.snd.fst.val.fst.fst, (cutRes (60 : Nat) d p a t o).fst.snd.snd.fst.val.fst.snd.fst, ()), (cutRes (60 : Nat) d p a t
  o).fst.snd.snd.fst.val.snd.fst, ()) (cutRes (60 : Nat) d p a t o).fst.snd.snd.fst.subs, ()) v = p + (0 : Int)) = true ∧ isI64 (d.snd.fst + (1 : Int)) ∧ decide ((cutRes (60 : Nat)
  d p a t o).fst.snd.fst = d.snd.fst + (1 : Int)) = true))) ∧ (decide ((cutRes (60 : Nat) d p a t o).fst.snd.fst < (1073741824 : Int)) = false → True ∧ true = true ∧ isI64 (p + (0
  : Int)) ∧ decide (homeN (61 : Nat) ((cutRes (60 : Nat) d p a t o).fst.fst, (cutRes (60 : Nat) d p a t o).fst.snd.fst, Rose.node (((cutRes (60 : Nat) d p a t
  o).fst.snd.snd.fst.val.fst.fst, (cutRes (60 : Nat) d p a t o).fst.snd.snd.fst.val.fst.snd.fst, ()), (cutRes (60 : Nat) d p a t o).fst.snd.snd.fst.val.snd.fst, ()) (cutRes (60 :
  Nat) d p a t o).fst.snd.snd.fst.subs, ()) v = p + (0 : Int)) = true ∧ isI64 (d.snd.fst + (1 : Int)) ∧ decide ((cutRes (60 : Nat) d p a t o).fst.snd.fst = d.snd.fst + (1 : Int)) =
  true)))))))))) := by kernel_rfl
end Go.Proofs.Ytdeleoaeegmhlaa
