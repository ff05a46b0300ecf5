import Derived.Test.YtmimchmdikjilaaHg
--@drop
namespace Go.PL
open Go.AM
set_option linter.unusedVariables false
def sameH (a b : List Hit) : Bool := decide (a = b)
def worstH (l : List Hit) (k : Int) : Int := if (l.length : Int) < k then 134217728 else (l.getD (l.length - 1) hit0).2.2.1 - 1
def commonH (a b : List Hit) : Int := ((a.filter fun x => hasH b x.1).length : Int)
end Go.PL
namespace Go.Proofs.Ytmimchmdikjilaa
open Go.AM Go.PL
set_option linter.unusedVariables false
def concatG : GSpec := ⟨[.arr HL], 37, HT, fun ll => (ll : List (List Hit)).length ≤ 1000 ∧ (ll : List (List Hit)).flatten.length ≤ 1000, fun ll => (ll : List (List Hit)).flatten⟩
def mergeHSp : FSpec := ⟨[HL, HL, I], [HL], fun x => x.1.length + x.2.1.length ≤ 1000 ∧ 0 ≤ x.2.2, fun x => ofH (x.1 ++ x.2.1) x.2.2⟩
def putHSp : FSpec := ⟨[HL, I, HT], [HL], fun x => x.1.length ≤ 900 ∧ 0 ≤ x.2.1, fun x => ofH (x.1 ++ [x.2.2]) x.2.1⟩
def sameHSp : FSpec := ⟨[HL, HL], [.bool], fun _ => True, fun x => sameH x.1 x.2⟩
def entersHSp : FSpec := ⟨[HL, I, HT], [.bool], fun x => x.1.length ≤ 900 ∧ 0 ≤ x.2.1, fun x => !sameH x.1 (ofH (x.1 ++ [x.2.2]) x.2.1)⟩
def worstHSp : FSpec := ⟨[HL, I], [I], fun x => 1 ≤ x.2 ∧ ∀ h ∈ x.1, 0 ≤ (h : Hit).2.2.1, fun x => worstH x.1 x.2⟩
def commonHSp : FSpec := ⟨[HL, HL], [I], fun x => x.1.length ≤ 1000, fun x => commonH x.1 x.2⟩
def loopsP (f : FuncId) (r : Nat) : List LA :=
  if Nat.beq f 62 then (if Nat.beq r 3 then [.slot 11 I, .slot 3 I] else if Nat.beq r 11 then [.slot 27 I, .gslot 6 37 HT] else []) else
  if Nat.beq f 28 then [.slot 10 I, .slot 5 I] else
  if Nat.beq f 67 then [.slot 8 I, .cell 0 0 I, .cell 0 1 I, .cell 0 2 I] else
  []
def hintP (f : FuncId) : Hint := ⟨loopsP f, fun _ => .split, fun _ => .split, fun _ => 0⟩
noncomputable def HP0 : Ctx := mkctxS bs tH2 [] [] [(80, growHSp)] hintP
def tH3 : List (FuncId × FSpec) := (25, ofHSp) :: (33, validHSp) :: tH2
noncomputable def HP1 : Ctx := mkctx bs tH3 [(62, concatG)] hintP
theorem concat_nf (ll : List (List Hit)) : fnwpG HP0 6 62 concatG ll = (∃ (I : Int × Int → Prop), ∃ (μ : Int × Int → Nat), I ((0 : Int), (0 : Int)) ∧ ∀ (x : Int × Int), I x →
  (decide (x.fst < (↑ll.length : Int)) = true → ((0 : Int) ≤ x.fst ∧ x.fst < (↑ll.length : Int)) ∧ isI64 (x.snd + (↑(ll.getD x.fst.toNat []).length : Int)) ∧ (decide (x.snd +
  (↑(ll.getD x.fst.toNat []).length : Int) < (0 : Int)) = true → False) ∧ (decide (x.snd + (↑(ll.getD x.fst.toNat []).length : Int) < (0 : Int)) = false → isI64 (x.fst + (1 : Int))
  ∧ I (x.fst + (1 : Int), x.snd + (↑(ll.getD x.fst.toNat []).length : Int)) ∧ μ (x.fst + (1 : Int), x.snd + (↑(ll.getD x.fst.toNat []).length : Int)) < μ x)) ∧ (decide (x.fst <
  (↑ll.length : Int)) = false → ((0 : Int) ≤ x.snd ∧ x.snd ≤ (1000000 : Int)) ∧ ∃ (I : Int × List (Int × Int × Int × PUnit) → Prop), ∃ (μ : Int × List (Int × Int × Int × PUnit) →
  Nat), I ((0 : Int), []) ∧ ∀ (x : Int × List (Int × Int × Int × PUnit)), I x → (decide (x.fst < (↑ll.length : Int)) = true → ((0 : Int) ≤ x.fst ∧ x.fst < (↑ll.length : Int)) ∧
  roomP HP0 (37 : Nat) (x.snd.length + (ll.getD x.fst.toNat []).length) ∧ isI64 (x.fst + (1 : Int)) ∧ I (x.fst + (1 : Int), x.snd ++ ll.getD x.fst.toNat []) ∧ μ (x.fst + (1 : Int),
  x.snd ++ ll.getD x.fst.toNat []) < μ x) ∧ (decide (x.fst < (↑ll.length : Int)) = false → x.snd = ll.flatten))) := by kernel_rfl
theorem common_nf (a b : List Hit) : fnwp HP0 6 28 commonHSp (a, b) = (∃ (I : Int × Int → Prop), ∃ (μ : Int × Int → Nat), I ((0 : Int), (0 : Int)) ∧ ∀ (x : Int × Int), I x →
  (decide (x.fst < (↑a.length : Int)) = true → ((0 : Int) ≤ x.fst ∧ x.fst < (↑a.length : Int)) ∧ ∃ (I_1 : Int × Int × Int × Int → Prop), ∃ (μ_1 : Int × Int × Int × Int → Nat), I_1
  ((0 : Int), (a.getD x.fst.toNat ((0 : Int), (0 : Int), (0 : Int), ())).fst, (a.getD x.fst.toNat ((0 : Int), (0 : Int), (0 : Int), ())).snd.fst, (a.getD x.fst.toNat ((0 : Int), (0
  : Int), (0 : Int), ())).snd.snd.fst) ∧ ∀ (x_1 : Int × Int × Int × Int), I_1 x_1 → (decide (x_1.fst < (↑b.length : Int)) = true → ((0 : Int) ≤ x_1.fst ∧ x_1.fst < (↑b.length :
  Int)) ∧ (decide (x_1.snd.fst = (b.getD x_1.fst.toNat ((0 : Int), (0 : Int), (0 : Int), ())).fst) = true → (decide ((0 : Int) ≤ x_1.fst) = true → isI64 (x.snd + (1 : Int)) ∧ isI64
  (x.fst + (1 : Int)) ∧ I (x.fst + (1 : Int), x.snd + (1 : Int)) ∧ μ (x.fst + (1 : Int), x.snd + (1 : Int)) < μ x) ∧ (decide ((0 : Int) ≤ x_1.fst) = false → isI64 (x.fst + (1 :
  Int)) ∧ I (x.fst + (1 : Int), x.snd) ∧ μ (x.fst + (1 : Int), x.snd) < μ x)) ∧ (decide (x_1.snd.fst = (b.getD x_1.fst.toNat ((0 : Int), (0 : Int), (0 : Int), ())).fst) = false →
  isI64 (x_1.fst + (1 : Int)) ∧ I_1 (x_1.fst + (1 : Int), x_1.snd.fst, x_1.snd.snd.fst, x_1.snd.snd.snd) ∧ μ_1 (x_1.fst + (1 : Int), x_1.snd.fst, x_1.snd.snd.fst, x_1.snd.snd.snd)
  < μ_1 x_1)) ∧ (decide (x_1.fst < (↑b.length : Int)) = false → (false = true → isI64 (x.snd + (1 : Int)) ∧ isI64 (x.fst + (1 : Int)) ∧ I (x.fst + (1 : Int), x.snd + (1 : Int)) ∧ μ
  (x.fst + (1 : Int), x.snd + (1 : Int)) < μ x) ∧ (false = false → isI64 (x.fst + (1 : Int)) ∧ I (x.fst + (1 : Int), x.snd) ∧ μ (x.fst + (1 : Int), x.snd) < μ x))) ∧ (decide (x.fst
  < (↑a.length : Int)) = false → x.snd = commonH a b)) := by kernel_rfl
theorem merge_nf (a b : List Hit) (k : Int) : fnwp HP1 6 41 mergeHSp (a, b, k) = (([a, b].length ≤ (1000 : Nat) ∧ [a, b].flatten.length ≤ (1000 : Nat)) ∧ ([a, b].flatten.length ≤
  (100000 : Nat) ∧ (0 : Int) ≤ k) ∧ ofH [a, b].flatten k = ofH (a ++ b) k) := by kernel_rfl
end Go.Proofs.Ytmimchmdikjilaa
