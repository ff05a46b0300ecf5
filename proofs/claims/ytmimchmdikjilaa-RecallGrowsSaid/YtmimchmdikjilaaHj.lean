import Derived.Test.YtmimchmdikjilaaHi
--@drop
namespace Go.PL
open Go.AM
set_option linter.unusedVariables false
def allRightH (l : List Hit) : Bool := upto l.length fun i => rightH (l.getD i hit0)
def kH (k : Int) : Bool := decide (1 ≤ k) && decide (k ≤ 64)
end Go.PL
namespace Go.Proofs.Ytmimchmdikjilaa
open Go.AM Go.PL
set_option linter.unusedVariables false
def allRightHSp : FSpec := ⟨[HL], [.bool], fun _ => True, fun l => allRightH l⟩
def kHSp : FSpec := ⟨[I], [.bool], fun _ => True, fun k => kH k⟩
def hasHSp : FSpec := ⟨[HL, I], [.bool], fun _ => True, fun x => hasH x.1 x.2⟩
def placeHSp : FSpec := ⟨[HL, HL], [I], fun _ => True, fun x => placeH x.1 x.2⟩
def loopsR (f : FuncId) (r : Nat) : List LA :=
  if Nat.beq f 30 then [.slot 5 I] else
  if Nat.beq f 27 then [.slot 5 I] else
  if Nat.beq f 52 then [.slot 5 I] else
  if Nat.beq f 81 then [.slot 6 I, .slot 5 I] else
  if Nat.beq f 63 then [.gslot 5 37 HT] else
  []
def isPutR (f : FuncId) : Bool :=
  false
def hintR (f : FuncId) : Hint := ⟨loopsR f, fun r => bif isPutR f && Nat.beq r 1 then .all else .split, fun _ => .split, fun _ => 0⟩
def tHR0 : List (FuncId × FSpec) := (50, rightHSp) :: (51, lessHSp) :: (52, hasHSp) :: (49, kHSp) :: tH3
noncomputable def R00 : Ctx := mkctx bs tH3 [] hintR
noncomputable def R0 : Ctx := mkctx bs tHR0 [] hintR
theorem rRight_nf (a : Hit) : fnwp R00 6 50 rightHSp a = ((decide ((1 : Int) ≤ a.fst) = true → (decide (a.fst ≤ (1073741824 : Int)) = true → (decide ((1 : Int) ≤ a.snd.fst) = true
  → (decide (a.snd.fst ≤ (1073741824 : Int)) = true → (decide ((0 : Int) ≤ a.snd.snd.fst) = true → decide (a.snd.snd.fst ≤ (134217728 : Int)) = rightH a) ∧ (decide ((0 : Int) ≤
  a.snd.snd.fst) = false → false = rightH a)) ∧ (decide (a.snd.fst ≤ (1073741824 : Int)) = false → false = rightH a)) ∧ (decide ((1 : Int) ≤ a.snd.fst) = false → false = rightH a))
  ∧ (decide (a.fst ≤ (1073741824 : Int)) = false → false = rightH a)) ∧ (decide ((1 : Int) ≤ a.fst) = false → false = rightH a)) := by kernel_rfl
theorem rLess_nf (a b : Hit) : fnwp R00 6 51 lessHSp (a, b) = (((!decide (a.snd.snd.fst = b.snd.snd.fst)) = true → decide (a.snd.snd.fst < b.snd.snd.fst) = ltH a b) ∧ ((!decide
  (a.snd.snd.fst = b.snd.snd.fst)) = false → ((!decide (a.fst = b.fst)) = true → decide (a.fst < b.fst) = ltH a b) ∧ ((!decide (a.fst = b.fst)) = false → decide (a.snd.fst <
  b.snd.fst) = ltH a b))) := by kernel_rfl
theorem rHas_nf (l : List Hit) (id : Int) : fnwp R00 6 52 hasHSp (l, id) = (∃ (I : Int → Prop), ∃ (μ : Int → Nat), I (0 : Int) ∧ ∀ (x : Int), I x → (decide (x < (↑l.length : Int))
  = true → ((0 : Int) ≤ x ∧ x < (↑l.length : Int)) ∧ (decide ((l.getD x.toNat ((0 : Int), (0 : Int), (0 : Int), ())).fst = id) = true → true = hasH l id) ∧ (decide ((l.getD x.toNat
  ((0 : Int), (0 : Int), (0 : Int), ())).fst = id) = false → isI64 (x + (1 : Int)) ∧ I (x + (1 : Int)) ∧ μ (x + (1 : Int)) < μ x)) ∧ (decide (x < (↑l.length : Int)) = false → false
  = hasH l id)) := by kernel_rfl
theorem rK_nf (k : Int) : fnwp R00 6 49 kHSp k = ((decide ((1 : Int) ≤ k) = true → decide (k ≤ (64 : Int)) = kH k) ∧ (decide ((1 : Int) ≤ k) = false → false = kH k)) := by
  kernel_rfl
theorem rSame_nf (a b : List Hit) : fnwp R0 6 27 sameHSp (a, b) = (((!decide ((↑a.length : Int) = (↑b.length : Int))) = true → false = sameH a b) ∧ ((!decide ((↑a.length : Int) =
  (↑b.length : Int))) = false → ∃ (I : Int → Prop), ∃ (μ : Int → Nat), I (0 : Int) ∧ ∀ (x : Int), I x → (decide (x < (↑a.length : Int)) = true → ((0 : Int) ≤ x ∧ x < (↑a.length :
  Int)) ∧ ((0 : Int) ≤ x ∧ x < (↑b.length : Int)) ∧ ((!(decide ((a.getD x.toNat ((0 : Int), (0 : Int), (0 : Int), ())).fst = (b.getD x.toNat ((0 : Int), (0 : Int), (0 : Int),
  ())).fst) && (decide ((a.getD x.toNat ((0 : Int), (0 : Int), (0 : Int), ())).snd.fst = (b.getD x.toNat ((0 : Int), (0 : Int), (0 : Int), ())).snd.fst) && (decide ((a.getD x.toNat
  ((0 : Int), (0 : Int), (0 : Int), ())).snd.snd.fst = (b.getD x.toNat ((0 : Int), (0 : Int), (0 : Int), ())).snd.snd.fst) && true)))) = true → false = sameH a b) ∧ ((!(decide
  ((a.getD x.toNat ((0 : Int), (0 : Int), (0 : Int), ())).fst = (b.getD x.toNat ((0 : Int), (0 : Int), (0 : Int), ())).fst) && (decide ((a.getD x.toNat ((0 : Int), (0 : Int), (0 :
  Int), ())).snd.fst = (b.getD x.toNat ((0 : Int), (0 : Int), (0 : Int), ())).snd.fst) && (decide ((a.getD x.toNat ((0 : Int), (0 : Int), (0 : Int), ())).snd.snd.fst = (b.getD
  x.toNat ((0 : Int), (0 : Int), (0 : Int), ())).snd.snd.fst) && true)))) = false → isI64 (x + (1 : Int)) ∧ I (x + (1 : Int)) ∧ μ (x + (1 : Int)) < μ x)) ∧ (decide (x < (↑a.length
  : Int)) = false → true = sameH a b))) := by kernel_rfl
theorem rValid_nf (l : List Hit) (k : Int) : fnwp R0 6 30 validHSp (l, k) = (True ∧ ((!kH k) = true → false = validH l k) ∧ ((!kH k) = false → (decide (k < (↑l.length : Int)) =
  true → false = validH l k) ∧ (decide (k < (↑l.length : Int)) = false → ∃ (I : Int → Prop), ∃ (μ : Int → Nat), I (0 : Int) ∧ ∀ (x : Int), I x → (decide (x < (↑l.length : Int)) =
  true → ((0 : Int) ≤ x ∧ x < (↑l.length : Int)) ∧ True ∧ ((!rightH (l.getD x.toNat ((0 : Int), (0 : Int), (0 : Int), ()))) = true → false = validH l k) ∧ ((!rightH (l.getD x.toNat
  ((0 : Int), (0 : Int), (0 : Int), ()))) = false → (decide ((0 : Int) < x) = true → isI64 (x - (1 : Int)) ∧ ((0 : Int) ≤ x - (1 : Int) ∧ x - (1 : Int) < (↑l.length : Int)) ∧ ((0 :
  Int) ≤ x ∧ x < (↑l.length : Int)) ∧ True ∧ ((!ltH (l.getD (x - (1 : Int)).toNat ((0 : Int), (0 : Int), (0 : Int), ())) (l.getD x.toNat ((0 : Int), (0 : Int), (0 : Int), ()))) =
  true → false = validH l k) ∧ ((!ltH (l.getD (x - (1 : Int)).toNat ((0 : Int), (0 : Int), (0 : Int), ())) (l.getD x.toNat ((0 : Int), (0 : Int), (0 : Int), ()))) = false → ((0 :
  Int) ≤ (0 : Int) ∧ (0 : Int) ≤ x ∧ x ≤ (↑l.length : Int)) ∧ ((0 : Int) ≤ x ∧ x < (↑l.length : Int)) ∧ True ∧ (hasH (List.take (x.toNat - (0 : Nat)) (List.drop (0 : Nat) l))
  (l.getD x.toNat ((0 : Int), (0 : Int), (0 : Int), ())).fst = true → false = validH l k) ∧ (hasH (List.take (x.toNat - (0 : Nat)) (List.drop (0 : Nat) l)) (l.getD x.toNat ((0 :
  Int), (0 : Int), (0 : Int), ())).fst = false → isI64 (x + (1 : Int)) ∧ I (x + (1 : Int)) ∧ μ (x + (1 : Int)) < μ x))) ∧ (decide ((0 : Int) < x) = false → ((0 : Int) ≤ (0 : Int) ∧
  (0 : Int) ≤ x ∧ x ≤ (↑l.length : Int)) ∧ ((0 : Int) ≤ x ∧ x < (↑l.length : Int)) ∧ True ∧ (hasH (List.take (x.toNat - (0 : Nat)) (List.drop (0 : Nat) l)) (l.getD x.toNat ((0 :
  Int), (0 : Int), (0 : Int), ())).fst = true → false = validH l k) ∧ (hasH (List.take (x.toNat - (0 : Nat)) (List.drop (0 : Nat) l)) (l.getD x.toNat ((0 : Int), (0 : Int), (0 :
  Int), ())).fst = false → isI64 (x + (1 : Int)) ∧ I (x + (1 : Int)) ∧ μ (x + (1 : Int)) < μ x)))) ∧ (decide (x < (↑l.length : Int)) = false → true = validH l k)))) := by
  kernel_rfl
theorem rPlace_nf (l out : List Hit) : fnwp R0 6 81 placeHSp (l, out) = (∃ (I : Int × Int → Prop), ∃ (μ : Int × Int → Nat), I ((0 : Int), (-1 : Int)) ∧ ∀ (x : Int × Int), I x →
  (decide (x.fst < (↑l.length : Int)) = true → ((0 : Int) ≤ x.fst ∧ x.fst < (↑l.length : Int)) ∧ True ∧ ((!hasH out (l.getD x.fst.toNat ((0 : Int), (0 : Int), (0 : Int), ())).fst)
  = true → (decide (x.snd < (0 : Int)) = true → isI64 (x.fst + (1 : Int)) ∧ I (x.fst + (1 : Int), x.fst) ∧ μ (x.fst + (1 : Int), x.fst) < μ x) ∧ (decide (x.snd < (0 : Int)) = false
  → ((0 : Int) ≤ x.fst ∧ x.fst < (↑l.length : Int)) ∧ ((0 : Int) ≤ x.snd ∧ x.snd < (↑l.length : Int)) ∧ True ∧ (ltH (l.getD x.fst.toNat ((0 : Int), (0 : Int), (0 : Int), ()))
  (l.getD x.snd.toNat ((0 : Int), (0 : Int), (0 : Int), ())) = true → isI64 (x.fst + (1 : Int)) ∧ I (x.fst + (1 : Int), x.fst) ∧ μ (x.fst + (1 : Int), x.fst) < μ x) ∧ (ltH (l.getD
  x.fst.toNat ((0 : Int), (0 : Int), (0 : Int), ())) (l.getD x.snd.toNat ((0 : Int), (0 : Int), (0 : Int), ())) = false → isI64 (x.fst + (1 : Int)) ∧ I (x.fst + (1 : Int), x.snd) ∧
  μ (x.fst + (1 : Int), x.snd) < μ x))) ∧ ((!hasH out (l.getD x.fst.toNat ((0 : Int), (0 : Int), (0 : Int), ())).fst) = false → isI64 (x.fst + (1 : Int)) ∧ I (x.fst + (1 : Int),
  x.snd) ∧ μ (x.fst + (1 : Int), x.snd) < μ x)) ∧ (decide (x.fst < (↑l.length : Int)) = false → x.snd = placeH l out)) := by kernel_rfl
def tHR1 : List (FuncId × FSpec) := (81, placeHSp) :: (27, sameHSp) :: tHR0
noncomputable def R1 : Ctx := mkctx bs tHR1 [] hintR
theorem rOf_nf (l : List Hit) (k : Int) : fnwp R1 6 63 ofHSp (l, k) = (∃ (I : List (Int × Int × Int × PUnit) → Prop), ∃ (μ : List (Int × Int × Int × PUnit) → Nat), I [] ∧ ∀ (x :
  List (Int × Int × Int × PUnit)), I x → (decide ((↑x.length : Int) < k) = true → True ∧ (decide (placeH l x < (0 : Int)) = true → x = ofH l k) ∧ (decide (placeH l x < (0 : Int)) =
  false → ((0 : Int) ≤ placeH l x ∧ placeH l x < (↑l.length : Int)) ∧ roomP R1 (37 : Nat) (x.length + [l.getD (placeH l x).toNat ((0 : Int), (0 : Int), (0 : Int), ())].length) ∧ I
  (x ++ [l.getD (placeH l x).toNat ((0 : Int), (0 : Int), (0 : Int), ())]) ∧ μ (x ++ [l.getD (placeH l x).toNat ((0 : Int), (0 : Int), (0 : Int), ())]) < μ x)) ∧ (decide
  ((↑x.length : Int) < k) = false → x = ofH l k)) := by kernel_rfl
noncomputable def R2 : Ctx := mkctx bs ((63, ofHSp) :: tHR1) [] hintR
theorem rMerge_nf (a b : List Hit) (k : Int) : fnwp R2 6 42 mergeHSp (a, b, k) = (roomP R2 (37 : Nat) a.length ∧ roomP R2 (37 : Nat) (a.length + b.length) ∧ ((a ++ b).length ≤
  (100000 : Nat) ∧ (0 : Int) ≤ k) ∧ ofH (a ++ b) k = ofH (a ++ b) k) := by kernel_rfl
end Go.Proofs.Ytmimchmdikjilaa
