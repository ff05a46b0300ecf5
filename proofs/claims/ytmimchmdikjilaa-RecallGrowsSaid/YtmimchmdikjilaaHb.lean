import Derived.Test.YtmimchmdikjilaaSn
namespace Go.PL
open Go.AM
set_option linter.unusedVariables false
/-! ### The least hits, plain -/
/-- The place of the least of the first n hits whose ID is not in a list; -1 if there is none. -/
def placeN (l out : List Hit) (n : Nat) : Int := (List.range n).foldl (fun b i => if hasH out (l.getD i hit0).1 = false ∧ (b < 0 ∨ ltH (l.getD i hit0) (l.getD b.toNat hit0) = true) then (i : Int) else b) (-1)
def placeH (l out : List Hit) : Int := placeN l out l.length
def ofG (l : List Hit) : Nat → List Hit → List Hit
  | 0, out => out
  | n + 1, out => if placeH l out < 0 then out else ofG l n (out ++ [l.getD (placeH l out).toNat hit0])
def ofH (l : List Hit) (k : Int) : List Hit := ofG l k.toNat []
end Go.PL
namespace Go.Proofs.Ytmimchmdikjilaa
open Go.AM Go.PL
set_option linter.unusedVariables false
def ofHSp : FSpec := ⟨[HL, I], [HL], fun x => x.1.length ≤ 100000 ∧ 0 ≤ x.2, fun x => ofH x.1 x.2⟩
def loopsO (f : FuncId) (r : Nat) : List LA :=
  if Nat.beq f 44 then (if Nat.beq r 3 then [.slot 18 I, .kmp 2 HT] else if Nat.beq r 11 then [.gslot 12 37 HT, .kit 4 HT] else []) else
  loopsH f r
def hintO (f : FuncId) : Hint := ⟨loopsO f, fun r => bif Nat.beq f 44 && Nat.beq r 7 then .all else .split, fun _ => .split, fun _ => 0⟩
noncomputable def HO : Ctx := mkctxS bs tH1 [] [(64, sortHSp)] [] hintO
theorem of_nf (l : List Hit) (k : Int) : fnwp HO 8 25 ofHSp (l, k) = (∃ (I : Int × List (Int × Int × Int × Int × PUnit) → Prop), ∃ (μ : Int × List (Int × Int × Int × Int × PUnit) →
  Nat), I ((0 : Int), []) ∧ ∀ (x : Int × List (Int × Int × Int × Int × PUnit)), I x → (decide (x.fst < (↑l.length : Int)) = true → ((0 : Int) ≤ x.fst ∧ x.fst < (↑l.length : Int)) ∧
  True ∧ ((!(mget x.snd (l.getD x.fst.toNat ((0 : Int), (0 : Int), (0 : Int), ())).fst).isSome) = true → (((True ∧ isI64 (x.fst + (1 : Int)) ∧ I (x.fst + (1 : Int), mput x.snd
  (l.getD x.fst.toNat ((0 : Int), (0 : Int), (0 : Int), ())).fst ((l.getD x.fst.toNat ((0 : Int), (0 : Int), (0 : Int), ())).fst, (l.getD x.fst.toNat ((0 : Int), (0 : Int), (0 :
  Int), ())).snd.fst, (l.getD x.fst.toNat ((0 : Int), (0 : Int), (0 : Int), ())).snd.snd.fst, ())) ∧ μ (x.fst + (1 : Int), mput x.snd (l.getD x.fst.toNat ((0 : Int), (0 : Int), (0
  : Int), ())).fst ((l.getD x.fst.toNat ((0 : Int), (0 : Int), (0 : Int), ())).fst, (l.getD x.fst.toNat ((0 : Int), (0 : Int), (0 : Int), ())).snd.fst, (l.getD x.fst.toNat ((0 :
  Int), (0 : Int), (0 : Int), ())).snd.snd.fst, ())) < μ x) ∧ True ∧ isI64 (x.fst + (1 : Int)) ∧ I (x.fst + (1 : Int), mput x.snd (l.getD x.fst.toNat ((0 : Int), (0 : Int), (0 :
  Int), ())).fst ((l.getD x.fst.toNat ((0 : Int), (0 : Int), (0 : Int), ())).fst, (l.getD x.fst.toNat ((0 : Int), (0 : Int), (0 : Int), ())).snd.fst, (l.getD x.fst.toNat ((0 :
  Int), (0 : Int), (0 : Int), ())).snd.snd.fst, ())) ∧ μ (x.fst + (1 : Int), mput x.snd (l.getD x.fst.toNat ((0 : Int), (0 : Int), (0 : Int), ())).fst ((l.getD x.fst.toNat ((0 :
  Int), (0 : Int), (0 : Int), ())).fst, (l.getD x.fst.toNat ((0 : Int), (0 : Int), (0 : Int), ())).snd.fst, (l.getD x.fst.toNat ((0 : Int), (0 : Int), (0 : Int), ())).snd.snd.fst,
  ())) < μ x) ∧ True ∧ isI64 (x.fst + (1 : Int)) ∧ I (x.fst + (1 : Int), mput x.snd (l.getD x.fst.toNat ((0 : Int), (0 : Int), (0 : Int), ())).fst ((l.getD x.fst.toNat ((0 : Int),
  (0 : Int), (0 : Int), ())).fst, (l.getD x.fst.toNat ((0 : Int), (0 : Int), (0 : Int), ())).snd.fst, (l.getD x.fst.toNat ((0 : Int), (0 : Int), (0 : Int), ())).snd.snd.fst, ())) ∧
  μ (x.fst + (1 : Int), mput x.snd (l.getD x.fst.toNat ((0 : Int), (0 : Int), (0 : Int), ())).fst ((l.getD x.fst.toNat ((0 : Int), (0 : Int), (0 : Int), ())).fst, (l.getD
  x.fst.toNat ((0 : Int), (0 : Int), (0 : Int), ())).snd.fst, (l.getD x.fst.toNat ((0 : Int), (0 : Int), (0 : Int), ())).snd.snd.fst, ())) < μ x) ∧ (((True ∧ isI64 (x.fst + (1 :
  Int)) ∧ I (x.fst + (1 : Int), mput x.snd (l.getD x.fst.toNat ((0 : Int), (0 : Int), (0 : Int), ())).fst ((l.getD x.fst.toNat ((0 : Int), (0 : Int), (0 : Int), ())).fst, (l.getD
  x.fst.toNat ((0 : Int), (0 : Int), (0 : Int), ())).snd.fst, (l.getD x.fst.toNat ((0 : Int), (0 : Int), (0 : Int), ())).snd.snd.fst, ())) ∧ μ (x.fst + (1 : Int), mput x.snd
  (l.getD x.fst.toNat ((0 : Int), (0 : Int), (0 : Int), ())).fst ((l.getD x.fst.toNat ((0 : Int), (0 : Int), (0 : Int), ())).fst, (l.getD x.fst.toNat ((0 : Int), (0 : Int), (0 :
  Int), ())).snd.fst, (l.getD x.fst.toNat ((0 : Int), (0 : Int), (0 : Int), ())).snd.snd.fst, ())) < μ x) ∧ True ∧ isI64 (x.fst + (1 : Int)) ∧ I (x.fst + (1 : Int), mput x.snd
  (l.getD x.fst.toNat ((0 : Int), (0 : Int), (0 : Int), ())).fst ((l.getD x.fst.toNat ((0 : Int), (0 : Int), (0 : Int), ())).fst, (l.getD x.fst.toNat ((0 : Int), (0 : Int), (0 :
  Int), ())).snd.fst, (l.getD x.fst.toNat ((0 : Int), (0 : Int), (0 : Int), ())).snd.snd.fst, ())) ∧ μ (x.fst + (1 : Int), mput x.snd (l.getD x.fst.toNat ((0 : Int), (0 : Int), (0
  : Int), ())).fst ((l.getD x.fst.toNat ((0 : Int), (0 : Int), (0 : Int), ())).fst, (l.getD x.fst.toNat ((0 : Int), (0 : Int), (0 : Int), ())).snd.fst, (l.getD x.fst.toNat ((0 :
  Int), (0 : Int), (0 : Int), ())).snd.snd.fst, ())) < μ x) ∧ True ∧ isI64 (x.fst + (1 : Int)) ∧ I (x.fst + (1 : Int), mput x.snd (l.getD x.fst.toNat ((0 : Int), (0 : Int), (0 :
  Int), ())).fst ((l.getD x.fst.toNat ((0 : Int), (0 : Int), (0 : Int), ())).fst, (l.getD x.fst.toNat ((0 : Int), (0 : Int), (0 : Int), ())).snd.fst, (l.getD x.fst.toNat ((0 :
  Int), (0 : Int), (0 : Int), ())).snd.snd.fst, ())) ∧ μ (x.fst + (1 : Int), mput x.snd (l.getD x.fst.toNat ((0 : Int), (0 : Int), (0 : Int), ())).fst ((l.getD x.fst.toNat ((0 :
  Int), (0 : Int), (0 : Int), ())).fst, (l.getD x.fst.toNat ((0 : Int), (0 : Int), (0 : Int), ())).snd.fst, (l.getD x.fst.toNat ((0 : Int), (0 : Int), (0 : Int), ())).snd.snd.fst,
  ())) < μ x) ∧ (True ∧ isI64 (x.fst + (1 : Int)) ∧ I (x.fst + (1 : Int), mput x.snd (l.getD x.fst.toNat ((0 : Int), (0 : Int), (0 : Int), ())).fst ((l.getD x.fst.toNat ((0 : Int),
  (0 : Int), (0 : Int), ())).fst, (l.getD x.fst.toNat ((0 : Int), (0 : Int), (0 : Int), ())).snd.fst, (l.getD x.fst.toNat ((0 : Int), (0 : Int), (0 : Int), ())).snd.snd.fst, ())) ∧
  μ (x.fst + (1 : Int), mput x.snd (l.getD x.fst.toNat ((0 : Int), (0 : Int), (0 : Int), ())).fst ((l.getD x.fst.toNat ((0 : Int), (0 : Int), (0 : Int), ())).fst, (l.getD
  x.fst.toNat ((0 : Int), (0 : Int), (0 : Int), ())).snd.fst, (l.getD x.fst.toNat ((0 : Int), (0 : Int), (0 : Int), ())).snd.snd.fst, ())) < μ x) ∧ True ∧ isI64 (x.fst + (1 : Int))
  ∧ I (x.fst + (1 : Int), mput x.snd (l.getD x.fst.toNat ((0 : Int), (0 : Int), (0 : Int), ())).fst ((l.getD x.fst.toNat ((0 : Int), (0 : Int), (0 : Int), ())).fst, (l.getD
  x.fst.toNat ((0 : Int), (0 : Int), (0 : Int), ())).snd.fst, (l.getD x.fst.toNat ((0 : Int), (0 : Int), (0 : Int), ())).snd.snd.fst, ())) ∧ μ (x.fst + (1 : Int), mput x.snd
  (l.getD x.fst.toNat ((0 : Int), (0 : Int), (0 : Int), ())).fst ((l.getD x.fst.toNat ((0 : Int), (0 : Int), (0 : Int), ())).fst, (l.getD x.fst.toNat ((0 : Int), (0 : Int), (0 :
  Int), ())).snd.fst, (l.getD x.fst.toNat ((0 : Int), (0 : Int), (0 : Int), ())).snd.snd.fst, ())) < μ x) ∧ ((!(mget x.snd (l.getD x.fst.toNat ((0 : Int), (0 : Int), (0 : Int),
  ())).fst).isSome) = false → True ∧ (decide (cmpH ((l.getD x.fst.toNat ((0 : Int), (0 : Int), (0 : Int), ())).fst, (l.getD x.fst.toNat ((0 : Int), (0 : Int), (0 : Int),
  ())).snd.fst, (l.getD x.fst.toNat ((0 : Int), (0 : Int), (0 : Int), ())).snd.snd.fst, ()) (((mget x.snd (l.getD x.fst.toNat ((0 : Int), (0 : Int), (0 : Int), ())).fst).getD ((0 :
  Int), (0 : Int), (0 : Int), ())).fst, ((mget x.snd (l.getD x.fst.toNat ((0 : Int), (0 : Int), (0 : Int), ())).fst).getD ((0 : Int), (0 : Int), (0 : Int), ())).snd.fst, ((mget
  x.snd (l.getD x.fst.toNat ((0 : Int), (0 : Int), (0 : Int), ())).fst).getD ((0 : Int), (0 : Int), (0 : Int), ())).snd.snd.fst, ()) < (0 : Int)) = true → (((True ∧ isI64 (x.fst +
  (1 : Int)) ∧ I (x.fst + (1 : Int), mput x.snd (l.getD x.fst.toNat ((0 : Int), (0 : Int), (0 : Int), ())).fst ((l.getD x.fst.toNat ((0 : Int), (0 : Int), (0 : Int), ())).fst,
  (l.getD x.fst.toNat ((0 : Int), (0 : Int), (0 : Int), ())).snd.fst, (l.getD x.fst.toNat ((0 : Int), (0 : Int), (0 : Int), ())).snd.snd.fst, ())) ∧ μ (x.fst + (1 : Int), mput
  x.snd (l.getD x.fst.toNat ((0 : Int), (0 : Int), (0 : Int), ())).fst ((l.getD x.fst.toNat ((0 : Int), (0 : Int), (0 : Int), ())).fst, (l.getD x.fst.toNat ((0 : Int), (0 : Int),
  (0 : Int), ())).snd.fst, (l.getD x.fst.toNat ((0 : Int), (0 : Int), (0 : Int), ())).snd.snd.fst, ())) < μ x) ∧ True ∧ isI64 (x.fst + (1 : Int)) ∧ I (x.fst + (1 : Int), mput x.snd
  (l.getD x.fst.toNat ((0 : Int), (0 : Int), (0 : Int), ())).fst ((l.getD x.fst.toNat ((0 : Int), (0 : Int), (0 : Int), ())).fst, (l.getD x.fst.toNat ((0 : Int), (0 : Int), (0 :
  Int), ())).snd.fst, (l.getD x.fst.toNat ((0 : Int), (0 : Int), (0 : Int), ())).snd.snd.fst, ())) ∧ μ (x.fst + (1 : Int), mput x.snd (l.getD x.fst.toNat ((0 : Int), (0 : Int), (0
  : Int), ())).fst ((l.getD x.fst.toNat ((0 : Int), (0 : Int), (0 : Int), ())).fst, (l.getD x.fst.toNat ((0 : Int), (0 : Int), (0 : Int), ())).snd.fst, (l.getD x.fst.toNat ((0 :
  Int), (0 : Int), (0 : Int), ())).snd.snd.fst, ())) < μ x) ∧ True ∧ isI64 (x.fst + (1 : Int)) ∧ I (x.fst + (1 : Int), mput x.snd (l.getD x.fst.toNat ((0 : Int), (0 : Int), (0 :
  Int), ())).fst ((l.getD x.fst.toNat ((0 : Int), (0 : Int), (0 : Int), ())).fst, (l.getD x.fst.toNat ((0 : Int), (0 : Int), (0 : Int), ())).snd.fst, (l.getD x.fst.toNat ((0 :
  Int), (0 : Int), (0 : Int), ())).snd.snd.fst, ())) ∧ μ (x.fst + (1 : Int), mput x.snd (l.getD x.fst.toNat ((0 : Int), (0 : Int), (0 : Int), ())).fst ((l.getD x.fst.toNat ((0 :
  Int), (0 : Int), (0 : Int), ())).fst, (l.getD x.fst.toNat ((0 : Int), (0 : Int), (0 : Int), ())).snd.fst, (l.getD x.fst.toNat ((0 : Int), (0 : Int), (0 : Int), ())).snd.snd.fst,
  ())) < μ x) ∧ (((True ∧ isI64 (x.fst + (1 : Int)) ∧ I (x.fst + (1 : Int), mput x.snd (l.getD x.fst.toNat ((0 : Int), (0 : Int), (0 : Int), ())).fst ((l.getD x.fst.toNat ((0 :
  Int), (0 : Int), (0 : Int), ())).fst, (l.getD x.fst.toNat ((0 : Int), (0 : Int), (0 : Int), ())).snd.fst, (l.getD x.fst.toNat ((0 : Int), (0 : Int), (0 : Int), ())).snd.snd.fst,
  ())) ∧ μ (x.fst + (1 : Int), mput x.snd (l.getD x.fst.toNat ((0 : Int), (0 : Int), (0 : Int), ())).fst ((l.getD x.fst.toNat ((0 : Int), (0 : Int), (0 : Int), ())).fst, (l.getD
  x.fst.toNat ((0 : Int), (0 : Int), (0 : Int), ())).snd.fst, (l.getD x.fst.toNat ((0 : Int), (0 : Int), (0 : Int), ())).snd.snd.fst, ())) < μ x) ∧ True ∧ isI64 (x.fst + (1 : Int))
  ∧ I (x.fst + (1 : Int), mput x.snd (l.getD x.fst.toNat ((0 : Int), (0 : Int), (0 : Int), ())).fst ((l.getD x.fst.toNat ((0 : Int), (0 : Int), (0 : Int), ())).fst, (l.getD
  x.fst.toNat ((0 : Int), (0 : Int), (0 : Int), ())).snd.fst, (l.getD x.fst.toNat ((0 : Int), (0 : Int), (0 : Int), ())).snd.snd.fst, ())) ∧ μ (x.fst + (1 : Int), mput x.snd
  (l.getD x.fst.toNat ((0 : Int), (0 : Int), (0 : Int), ())).fst ((l.getD x.fst.toNat ((0 : Int), (0 : Int), (0 : Int), ())).fst, (l.getD x.fst.toNat ((0 : Int), (0 : Int), (0 :
  Int), ())).snd.fst, (l.getD x.fst.toNat ((0 : Int), (0 : Int), (0 : Int), ())).snd.snd.fst, ())) < μ x) ∧ True ∧ isI64 (x.fst + (1 : Int)) ∧ I (x.fst + (1 : Int), mput x.snd
  (l.getD x.fst.toNat ((0 : Int), (0 : Int), (0 : Int), ())).fst ((l.getD x.fst.toNat ((0 : Int), (0 : Int), (0 : Int), ())).fst, (l.getD x.fst.toNat ((0 : Int), (0 : Int), (0 :
  Int), ())).snd.fst, (l.getD x.fst.toNat ((0 : Int), (0 : Int), (0 : Int), ())).snd.snd.fst, ())) ∧ μ (x.fst + (1 : Int), mput x.snd (l.getD x.fst.toNat ((0 : Int), (0 : Int), (0
  : Int), ())).fst ((l.getD x.fst.toNat ((0 : Int), (0 : Int), (0 : Int), ())).fst, (l.getD x.fst.toNat ((0 : Int), (0 : Int), (0 : Int), ())).snd.fst, (l.getD x.fst.toNat ((0 :
  Int), (0 : Int), (0 : Int), ())).snd.snd.fst, ())) < μ x) ∧ (True ∧ isI64 (x.fst + (1 : Int)) ∧ I (x.fst + (1 : Int), mput x.snd (l.getD x.fst.toNat ((0 : Int), (0 : Int), (0 :
  Int), ())).fst ((l.getD x.fst.toNat ((0 : Int), (0 : Int), (0 : Int), ())).fst, (l.getD x.fst.toNat ((0 : Int), (0 : Int), (0 : Int), ())).snd.fst, (l.getD x.fst.toNat ((0 :
  Int), (0 : Int), (0 : Int), ())).snd.snd.fst, ())) ∧ μ (x.fst + (1 : Int), mput x.snd (l.getD x.fst.toNat ((0 : Int), (0 : Int), (0 : Int), ())).fst ((l.getD x.fst.toNat ((0 :
  Int), (0 : Int), (0 : Int), ())).fst, (l.getD x.fst.toNat ((0 : Int), (0 : Int), (0 : Int), ())).snd.fst, (l.getD x.fst.toNat ((0 : Int), (0 : Int), (0 : Int), ())).snd.snd.fst,
  ())) < μ x) ∧ True ∧ isI64 (x.fst + (1 : Int)) ∧ I (x.fst + (1 : Int), mput x.snd (l.getD x.fst.toNat ((0 : Int), (0 : Int), (0 : Int), ())).fst ((l.getD x.fst.toNat ((0 : Int),
  (0 : Int), (0 : Int), ())).fst, (l.getD x.fst.toNat ((0 : Int), (0 : Int), (0 : Int), ())).snd.fst, (l.getD x.fst.toNat ((0 : Int), (0 : Int), (0 : Int), ())).snd.snd.fst, ())) ∧
  μ (x.fst + (1 : Int), mput x.snd (l.getD x.fst.toNat ((0 : Int), (0 : Int), (0 : Int), ())).fst ((l.getD x.fst.toNat ((0 : Int), (0 : Int), (0 : Int), ())).fst, (l.getD
  x.fst.toNat ((0 : Int), (0 : Int), (0 : Int), ())).snd.fst, (l.getD x.fst.toNat ((0 : Int), (0 : Int), (0 : Int), ())).snd.snd.fst, ())) < μ x) ∧ (decide (cmpH ((l.getD
  x.fst.toNat ((0 : Int), (0 : Int), (0 : Int), ())).fst, (l.getD x.fst.toNat ((0 : Int), (0 : Int), (0 : Int), ())).snd.fst, (l.getD x.fst.toNat ((0 : Int), (0 : Int), (0 : Int),
  ())).snd.snd.fst, ()) (((mget x.snd (l.getD x.fst.toNat ((0 : Int), (0 : Int), (0 : Int), ())).fst).getD ((0 : Int), (0 : Int), (0 : Int), ())).fst, ((mget x.snd (l.getD
  x.fst.toNat ((0 : Int), (0 : Int), (0 : Int), ())).fst).getD ((0 : Int), (0 : Int), (0 : Int), ())).snd.fst, ((mget x.snd (l.getD x.fst.toNat ((0 : Int), (0 : Int), (0 : Int),
  ())).fst).getD ((0 : Int), (0 : Int), (0 : Int), ())).snd.snd.fst, ()) < (0 : Int)) = false → isI64 (x.fst + (1 : Int)) ∧ I (x.fst + (1 : Int), x.snd) ∧ μ (x.fst + (1 : Int),
  x.snd) < μ x))) ∧ (decide (x.fst < (↑l.length : Int)) = false → (↑x.snd.length : Int) ≤ (9223372036854775807 : Int) ∧ ((0 : Int) ≤ (0 : Int) ∧ (0 : Int) ≤ (↑x.snd.length : Int) ∧
  roomP HO (37 : Nat) (↑x.snd.length : Int).toNat) ∧ ∃ (I : List (Int × Int × Int × PUnit) × List (Int × Int × Int × Int × PUnit) → Prop), ∃ (μ : List (Int × Int × Int × PUnit) ×
  List (Int × Int × Int × Int × PUnit) → Nat), I (List.replicate (0 : Nat) ((0 : Int), (0 : Int), (0 : Int), ()), x.snd) ∧ ∀ (x : List (Int × Int × Int × PUnit) × List (Int × Int ×
  Int × Int × PUnit)), I x → (x.snd = [] → (↑x.fst.length : Int) ≤ (4611686018427387903 : Int) ∧ ((0 : Int) ≤ (0 : Int) ∧ (0 : Int) ≤ min k (↑(sortH x.fst).length : Int) ∧ min k
  (↑(sortH x.fst).length : Int) ≤ (↑(sortH x.fst).length : Int)) ∧ List.take ((min k (↑(sortH x.fst).length : Int)).toNat - (0 : Nat)) (List.drop (0 : Nat) (sortH x.fst)) = ofH l
  k) ∧ ∀ (i : Nat), i < x.snd.length → roomP HO (37 : Nat) (x.fst.length + [((x.snd.getD i ((0 : Int), (0 : Int), (0 : Int), (0 : Int), ())).snd.fst, (x.snd.getD i ((0 : Int), (0 :
  Int), (0 : Int), (0 : Int), ())).snd.snd.fst, (x.snd.getD i ((0 : Int), (0 : Int), (0 : Int), (0 : Int), ())).snd.snd.snd.fst, ())].length) ∧ I (x.fst ++ [((x.snd.getD i ((0 :
  Int), (0 : Int), (0 : Int), (0 : Int), ())).snd.fst, (x.snd.getD i ((0 : Int), (0 : Int), (0 : Int), (0 : Int), ())).snd.snd.fst, (x.snd.getD i ((0 : Int), (0 : Int), (0 : Int),
  (0 : Int), ())).snd.snd.snd.fst, ())], x.snd.eraseIdx i) ∧ μ (x.fst ++ [((x.snd.getD i ((0 : Int), (0 : Int), (0 : Int), (0 : Int), ())).snd.fst, (x.snd.getD i ((0 : Int), (0 :
  Int), (0 : Int), (0 : Int), ())).snd.snd.fst, (x.snd.getD i ((0 : Int), (0 : Int), (0 : Int), (0 : Int), ())).snd.snd.snd.fst, ())], x.snd.eraseIdx i) < μ x)) := by kernel_rfl
end Go.Proofs.Ytmimchmdikjilaa
