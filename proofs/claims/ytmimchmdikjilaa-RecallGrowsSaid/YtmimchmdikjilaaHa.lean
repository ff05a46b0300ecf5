import Derived.Test.YtmimchmdikjilaaUp
import Derived.Test.YtmimchmdikjilaaTa
namespace Go.PL
open Go.AM
set_option linter.unusedVariables false
/-! ### Hits, plain -/
abbrev Hit := Int × Int × Int × Unit
def cmpH (a b : Hit) : Int := if sgnS a.2.2.1 b.2.2.1 ≠ 0 then sgnS a.2.2.1 b.2.2.1 else if sgnS a.1 b.1 ≠ 0 then sgnS a.1 b.1 else sgnS a.2.1 b.2.1
def ltH (a b : Hit) : Bool := decide (cmpH a b < 0)
def rightH (h : Hit) : Bool := (decide (1 ≤ h.1) && decide (h.1 ≤ 1073741824)) && ((decide (1 ≤ h.2.1) && decide (h.2.1 ≤ 1073741824)) && (decide (0 ≤ h.2.2.1) && decide (h.2.2.1 ≤ 134217728)))
def hit0 : Hit := (0, 0, 0, ())
def hasH (l : List Hit) (id : Int) : Bool := !(upto l.length fun i => !decide ((l.getD i hit0).1 = id))
def validH (l : List Hit) (k : Int) : Bool := (decide (1 ≤ k) && (decide (k ≤ 64) && decide ((l.length : Int) ≤ k))) && upto l.length fun i => rightH (l.getD i hit0) && ((decide (i = 0) || ltH (l.getD (i - 1) hit0) (l.getD i hit0)) && !hasH (l.take i) (l.getD i hit0).1)
end Go.PL
namespace Go.Proofs.Ytmimchmdikjilaa
open Go.AM Go.PL
set_option linter.unusedVariables false
abbrev HT : Ty := PT
abbrev HL : Ty := .arr PT
def rightHSp : FSpec := ⟨[HT], [.bool], fun _ => True, fun h => rightH h⟩
def idHSp : FSpec := ⟨[HT], [I], fun _ => True, fun h => (h : Hit).1⟩
def cmpHSp : FSpec := ⟨[HT, HT], [I], fun _ => True, fun x => cmpH x.1 x.2⟩
def lessHSp : FSpec := ⟨[HT, HT], [.bool], fun _ => True, fun x => ltH x.1 x.2⟩
def validHSp : FSpec := ⟨[HL, I], [.bool], fun _ => True, fun x => validH x.1 x.2⟩
def loopsH (f : FuncId) (r : Nat) : List LA :=
  if Nat.beq f 33 then [.slot 23 I, .kmp 0 .bool] else
  []
def hintH (f : FuncId) : Hint := ⟨loopsH f, fun r => bif Nat.beq f 54 && Nat.beq r 1 then .all else .split, fun t => bif Nat.beq f 56 && Nat.beq t 9 then .force else .split, fun r => bif Nat.beq f 56 && Nat.beq r 3 then 5 else 0⟩
def tH0 : List (FuncId × FSpec) := [(57, cmp1Sp)]
noncomputable def H0 : Ctx := mkctx bs tH0 [] hintH
def tH1 : List (FuncId × FSpec) := (65, cmpHSp) :: (66, idHSp) :: tH0
noncomputable def H1 : Ctx := mkctx bs tH1 [] hintH
def tH2 : List (FuncId × FSpec) := (53, rightHSp) :: (54, lessHSp) :: tH1
noncomputable def H2 : Ctx := mkctx bs tH2 [] hintH
theorem cmpH_nf (a b : Hit) : fnwp H0 6 65 cmpHSp (a, b) = (True ∧ True ∧ True ∧ ((0 : Int) ≤ (0 : Int) ∧ (0 : Int) < (↑[sgnS a.snd.snd.fst b.snd.snd.fst, sgnS a.fst b.fst, sgnS
  a.snd.fst b.snd.fst].length : Int)) ∧ ((!decide ([sgnS a.snd.snd.fst b.snd.snd.fst, sgnS a.fst b.fst, sgnS a.snd.fst b.snd.fst].getD (0 : Nat) (0 : Int) = (0 : Int))) = true →
  [sgnS a.snd.snd.fst b.snd.snd.fst, sgnS a.fst b.fst, sgnS a.snd.fst b.snd.fst].getD (0 : Nat) (0 : Int) = cmpH a b) ∧ ((!decide ([sgnS a.snd.snd.fst b.snd.snd.fst, sgnS a.fst
  b.fst, sgnS a.snd.fst b.snd.fst].getD (0 : Nat) (0 : Int) = (0 : Int))) = false → isI64 (1 : Int) ∧ ((0 : Int) ≤ (1 : Int) ∧ (1 : Int) < (↑[sgnS a.snd.snd.fst b.snd.snd.fst, sgnS
  a.fst b.fst, sgnS a.snd.fst b.snd.fst].length : Int)) ∧ ((!decide ([sgnS a.snd.snd.fst b.snd.snd.fst, sgnS a.fst b.fst, sgnS a.snd.fst b.snd.fst].getD (1 : Nat) (0 : Int) = (0 :
  Int))) = true → [sgnS a.snd.snd.fst b.snd.snd.fst, sgnS a.fst b.fst, sgnS a.snd.fst b.snd.fst].getD (1 : Nat) (0 : Int) = cmpH a b) ∧ ((!decide ([sgnS a.snd.snd.fst
  b.snd.snd.fst, sgnS a.fst b.fst, sgnS a.snd.fst b.snd.fst].getD (1 : Nat) (0 : Int) = (0 : Int))) = false → isI64 (2 : Int) ∧ ((0 : Int) ≤ (2 : Int) ∧ (2 : Int) < (↑[sgnS
  a.snd.snd.fst b.snd.snd.fst, sgnS a.fst b.fst, sgnS a.snd.fst b.snd.fst].length : Int)) ∧ ((!decide ([sgnS a.snd.snd.fst b.snd.snd.fst, sgnS a.fst b.fst, sgnS a.snd.fst
  b.snd.fst].getD (2 : Nat) (0 : Int) = (0 : Int))) = true → [sgnS a.snd.snd.fst b.snd.snd.fst, sgnS a.fst b.fst, sgnS a.snd.fst b.snd.fst].getD (2 : Nat) (0 : Int) = cmpH a b) ∧
  ((!decide ([sgnS a.snd.snd.fst b.snd.snd.fst, sgnS a.fst b.fst, sgnS a.snd.fst b.snd.fst].getD (2 : Nat) (0 : Int) = (0 : Int))) = false → isI64 (3 : Int) ∧ (0 : Int) = cmpH a
  b)))) := by kernel_rfl
theorem idH_nf (a : Hit) : fnwp H0 6 66 idHSp a = (a.fst = a.fst) := by kernel_rfl
theorem rightH_nf (a : Hit) : fnwp H0 6 53 rightHSp a = ((decide ((1 : Int) ≤ a.fst) = true → (decide (a.fst ≤ (1073741824 : Int)) = true → (decide ((1 : Int) ≤ a.snd.fst) = true →
  (decide (a.snd.fst ≤ (1073741824 : Int)) = true → (decide ((0 : Int) ≤ a.snd.snd.fst) = true → decide (a.snd.snd.fst ≤ (134217728 : Int)) = rightH a) ∧ (decide ((0 : Int) ≤
  a.snd.snd.fst) = false → false = rightH a)) ∧ (decide (a.snd.fst ≤ (1073741824 : Int)) = false → false = rightH a)) ∧ (decide ((1 : Int) ≤ a.snd.fst) = false → false = rightH a))
  ∧ (decide (a.fst ≤ (1073741824 : Int)) = false → false = rightH a)) ∧ (decide ((1 : Int) ≤ a.fst) = false → false = rightH a)) := by kernel_rfl
theorem lessH_nf (a b : Hit) : fnwp H1 6 54 lessHSp (a, b) = (True ∧ decide (cmpH a b < (0 : Int)) = ltH a b) := by kernel_rfl
theorem validH_nf (l : List Hit) (k : Int) : fnwp H2 6 33 validHSp (l, k) = ((decide (k < (1 : Int)) = true → false = validH l k) ∧ (decide (k < (1 : Int)) = false → (decide ((64 :
  Int) < k) = true → false = validH l k) ∧ (decide ((64 : Int) < k) = false → (decide (k < (↑l.length : Int)) = true → false = validH l k) ∧ (decide (k < (↑l.length : Int)) = false
  → ∃ (I : Int × List (Int × Bool) → Prop), ∃ (μ : Int × List (Int × Bool) → Nat), I ((0 : Int), []) ∧ ∀ (x : Int × List (Int × Bool)), I x → (decide (x.fst < (↑l.length : Int)) =
  true → ((0 : Int) ≤ x.fst ∧ x.fst < (↑l.length : Int)) ∧ True ∧ ((!rightH ((l.getD x.fst.toNat ((0 : Int), (0 : Int), (0 : Int), ())).fst, (l.getD x.fst.toNat ((0 : Int), (0 :
  Int), (0 : Int), ())).snd.fst, (l.getD x.fst.toNat ((0 : Int), (0 : Int), (0 : Int), ())).snd.snd.fst, ())) = true → false = validH l k) ∧ ((!rightH ((l.getD x.fst.toNat ((0 :
  Int), (0 : Int), (0 : Int), ())).fst, (l.getD x.fst.toNat ((0 : Int), (0 : Int), (0 : Int), ())).snd.fst, (l.getD x.fst.toNat ((0 : Int), (0 : Int), (0 : Int), ())).snd.snd.fst,
  ())) = false → (decide ((0 : Int) < x.fst) = true → isI64 (x.fst - (1 : Int)) ∧ ((0 : Int) ≤ x.fst - (1 : Int) ∧ x.fst - (1 : Int) < (↑l.length : Int)) ∧ True ∧ ((!ltH (l.getD
  (x.fst - (1 : Int)).toNat ((0 : Int), (0 : Int), (0 : Int), ())) ((l.getD x.fst.toNat ((0 : Int), (0 : Int), (0 : Int), ())).fst, (l.getD x.fst.toNat ((0 : Int), (0 : Int), (0 :
  Int), ())).snd.fst, (l.getD x.fst.toNat ((0 : Int), (0 : Int), (0 : Int), ())).snd.snd.fst, ())) = true → false = validH l k) ∧ ((!ltH (l.getD (x.fst - (1 : Int)).toNat ((0 :
  Int), (0 : Int), (0 : Int), ())) ((l.getD x.fst.toNat ((0 : Int), (0 : Int), (0 : Int), ())).fst, (l.getD x.fst.toNat ((0 : Int), (0 : Int), (0 : Int), ())).snd.fst, (l.getD
  x.fst.toNat ((0 : Int), (0 : Int), (0 : Int), ())).snd.snd.fst, ())) = false → ((mget x.snd (l.getD x.fst.toNat ((0 : Int), (0 : Int), (0 : Int), ())).fst).getD false = true →
  false = validH l k) ∧ ((mget x.snd (l.getD x.fst.toNat ((0 : Int), (0 : Int), (0 : Int), ())).fst).getD false = false → isI64 (x.fst + (1 : Int)) ∧ I (x.fst + (1 : Int), mput
  x.snd (l.getD x.fst.toNat ((0 : Int), (0 : Int), (0 : Int), ())).fst true) ∧ μ (x.fst + (1 : Int), mput x.snd (l.getD x.fst.toNat ((0 : Int), (0 : Int), (0 : Int), ())).fst true)
  < μ x))) ∧ (decide ((0 : Int) < x.fst) = false → ((mget x.snd (l.getD x.fst.toNat ((0 : Int), (0 : Int), (0 : Int), ())).fst).getD false = true → false = validH l k) ∧ ((mget
  x.snd (l.getD x.fst.toNat ((0 : Int), (0 : Int), (0 : Int), ())).fst).getD false = false → isI64 (x.fst + (1 : Int)) ∧ I (x.fst + (1 : Int), mput x.snd (l.getD x.fst.toNat ((0 :
  Int), (0 : Int), (0 : Int), ())).fst true) ∧ μ (x.fst + (1 : Int), mput x.snd (l.getD x.fst.toNat ((0 : Int), (0 : Int), (0 : Int), ())).fst true) < μ x)))) ∧ (decide (x.fst <
  (↑l.length : Int)) = false → true = validH l k))))) := by kernel_rfl
end Go.Proofs.Ytmimchmdikjilaa
