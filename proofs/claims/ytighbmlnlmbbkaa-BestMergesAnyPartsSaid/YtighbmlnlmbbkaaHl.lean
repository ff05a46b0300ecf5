import Derived.Test.YtighbmlnlmbbkaaHk
import Derived.Test.YtighbmlnlmbbkaaWj
namespace Go.PL
open Go.AM
set_option linter.unusedVariables false
def numsH (l : List Hit) : List Int := l.flatMap fun h => [h.1, h.2.1, h.2.2.1]
def hitsOf : List Int → List Hit
  | a :: b :: c :: r => (a, b, c, ()) :: hitsOf r
  | _ => []
def encH (l : List Hit) : List Int := encList encI (numsH l)
def decHN (n : List Int) (used e : Int) (b : List Int) (k : Int) : List Hit × Int :=
  if e ≠ 0 then ([], e) else if used ≠ (b.length : Int) then ([], 11) else if n.length % 3 ≠ 0 then ([], 3) else if validH (hitsOf n) k = true then (hitsOf n, 0) else ([], 3)
def rdOf (x : List Hit × Int) : List Hit × Int × Unit := (x.1, x.2, ())
def decH (b : List Int) (k : Int) : List Hit × Int := decHN ((decList 1 decI b).triple []).1 ((decList 1 decI b).triple []).2.1 ((decList 1 decI b).triple []).2.2 b k
end Go.PL
namespace Go.Proofs.Ytighbmlnlmbbkaa
open Go.AM Go.PL
set_option linter.unusedVariables false
abbrev RH : Ty := .pair HL (.pair I .unit)
def encHSp : FSpec := ⟨[HL], [BY], fun l => (l : List Hit).length ≤ 1000, fun l => PL.encH l⟩
def decHSp : FSpec := ⟨[BY, I], [HL, I], fun x => small2 (x.1 : List Int), fun x => decH x.1 x.2⟩
def rDecHSp : FSpec := ⟨[BY, I], [RH], fun x => small2 (x.1 : List Int), fun x => (rdOf (decH x.1 x.2) : List Hit × Int × Unit)⟩
def loopsE (f : FuncId) (r : Nat) : List LA :=
  if Nat.beq f 33 then [.slot 8 I, .gslot 3 3 I] else
  if Nat.beq f 34 then [.slot 4 I, .gslot 3 3 I] else
  if Nat.beq f 59 then [.slot 4 I, .gcell 0 0 27 HT] else
  if Nat.beq f 32 then [.slot 9 I, .gslot 8 27 HT] else
  []
def hintE (f : FuncId) : Hint := ⟨loopsE f, fun r => bif Nat.beq f 31 && Nat.beq r 11 then .all else bif Nat.beq f 32 && Nat.beq r 10 then .all else bif Nat.beq f 34 && Nat.beq r 5 then .all else .split, fun _ => .split, fun r => bif Nat.beq f 32 && Nat.beq r 13 then 500 else 0⟩
def tHE : List (FuncId × FSpec) := (12, validHSp) :: (48, intsSp) :: (49, intsSp) :: (45, getIntsSp) :: (47, getIntsSp) :: tHR1
noncomputable def HE : Ctx := mkctx bs tHE [] hintE
theorem enc_nf (l : List Hit) : fnwp HE 6 33 encHSp l = (∃ (I : Int × List Int → Prop), ∃ (μ : Int × List Int → Nat), I ((0 : Int), []) ∧ ∀ (x : Int × List Int), I x → (decide
  (x.fst < (↑l.length : Int)) = true → ((0 : Int) ≤ x.fst ∧ x.fst < (↑l.length : Int)) ∧ roomP HE (3 : Nat) (x.snd.length + [(l.getD x.fst.toNat ((0 : Int), (0 : Int), (0 : Int),
  ())).fst, (l.getD x.fst.toNat ((0 : Int), (0 : Int), (0 : Int), ())).snd.fst, (l.getD x.fst.toNat ((0 : Int), (0 : Int), (0 : Int), ())).snd.snd.fst].length) ∧ isI64 (x.fst + (1
  : Int)) ∧ I (x.fst + (1 : Int), x.snd ++ [(l.getD x.fst.toNat ((0 : Int), (0 : Int), (0 : Int), ())).fst, (l.getD x.fst.toNat ((0 : Int), (0 : Int), (0 : Int), ())).snd.fst,
  (l.getD x.fst.toNat ((0 : Int), (0 : Int), (0 : Int), ())).snd.snd.fst]) ∧ μ (x.fst + (1 : Int), x.snd ++ [(l.getD x.fst.toNat ((0 : Int), (0 : Int), (0 : Int), ())).fst, (l.getD
  x.fst.toNat ((0 : Int), (0 : Int), (0 : Int), ())).snd.fst, (l.getD x.fst.toNat ((0 : Int), (0 : Int), (0 : Int), ())).snd.snd.fst]) < μ x) ∧ (decide (x.fst < (↑l.length : Int))
  = false → small2 x.snd ∧ encList PL.encI x.snd = PL.encH l)) := by kernel_rfl
theorem rEnc_nf (l : List Hit) : fnwp HE 6 34 encHSp l = (∃ (I : Int × List Int → Prop), ∃ (μ : Int × List Int → Nat), I ((0 : Int), []) ∧ ∀ (x : Int × List Int), I x → (decide
  (x.fst < (↑l.length : Int)) = true → ((0 : Int) ≤ x.fst ∧ x.fst < (↑l.length : Int)) ∧ ((0 : Int) ≤ x.fst ∧ x.fst < (↑l.length : Int)) ∧ ((0 : Int) ≤ x.fst ∧ x.fst < (↑l.length :
  Int)) ∧ roomP HE (3 : Nat) (x.snd.length + [(l.getD x.fst.toNat ((0 : Int), (0 : Int), (0 : Int), ())).fst, (l.getD x.fst.toNat ((0 : Int), (0 : Int), (0 : Int), ())).snd.fst,
  (l.getD x.fst.toNat ((0 : Int), (0 : Int), (0 : Int), ())).snd.snd.fst].length) ∧ isI64 (x.fst + (1 : Int)) ∧ I (x.fst + (1 : Int), x.snd ++ [(l.getD x.fst.toNat ((0 : Int), (0 :
  Int), (0 : Int), ())).fst, (l.getD x.fst.toNat ((0 : Int), (0 : Int), (0 : Int), ())).snd.fst, (l.getD x.fst.toNat ((0 : Int), (0 : Int), (0 : Int), ())).snd.snd.fst]) ∧ μ (x.fst
  + (1 : Int), x.snd ++ [(l.getD x.fst.toNat ((0 : Int), (0 : Int), (0 : Int), ())).fst, (l.getD x.fst.toNat ((0 : Int), (0 : Int), (0 : Int), ())).snd.fst, (l.getD x.fst.toNat ((0
  : Int), (0 : Int), (0 : Int), ())).snd.snd.fst]) < μ x) ∧ (decide (x.fst < (↑l.length : Int)) = false → small2 x.snd ∧ encList PL.encI x.snd = PL.encH l)) := by kernel_rfl
theorem dec_nf (b : List Int) (k : Int) : fnwp HE 8 31 decHSp (b, k) = (small2 b ∧ ((!decide (((decList (1 : Int) decI b).triple []).snd.snd = (0 : Int))) = true → ([], ((decList
  (1 : Int) decI b).triple []).snd.snd) = decH b k) ∧ ((!decide (((decList (1 : Int) decI b).triple []).snd.snd = (0 : Int))) = false → ((!decide (((decList (1 : Int) decI
  b).triple []).snd.fst = (↑b.length : Int))) = true → ([], (11 : Int)) = decH b k) ∧ ((!decide (((decList (1 : Int) decI b).triple []).snd.fst = (↑b.length : Int))) = false → (3 :
  Int) ≠ (0 : Int) ∧ ((!decide ((↑((decList (1 : Int) decI b).triple []).fst.length : Int).tmod (3 : Int) = (0 : Int))) = true → ([], (3 : Int)) = decH b k) ∧ ((!decide
  ((↑((decList (1 : Int) decI b).triple []).fst.length : Int).tmod (3 : Int) = (0 : Int))) = false → (false = true → False) ∧ (false = false → ∃ (I : Int × List (Int × Int × Int ×
  PUnit) → Prop), ∃ (μ : Int × List (Int × Int × Int × PUnit) → Nat), I ((0 : Int), []) ∧ ∀ (x : Int × List (Int × Int × Int × PUnit)), I x → (decide (x.fst < (↑((decList (1 : Int)
  decI b).triple []).fst.length : Int)) = true → ((0 : Int) ≤ x.fst ∧ x.fst ≤ (↑((decList (1 : Int) decI b).triple []).fst.length : Int)) ∧ isI64 (x.fst + min (3 : Int)
  (↑(List.take (((decList (1 : Int) decI b).triple []).fst.length - x.fst.toNat) (List.drop x.fst.toNat ((decList (1 : Int) decI b).triple []).fst)).length : Int)) ∧ isI64 (x.fst +
  min (3 : Int) (↑(List.take (((decList (1 : Int) decI b).triple []).fst.length - x.fst.toNat) (List.drop x.fst.toNat ((decList (1 : Int) decI b).triple []).fst)).length : Int)) ∧
  ((0 : Int) ≤ x.fst ∧ x.fst ≤ x.fst + min (3 : Int) (↑(List.take (((decList (1 : Int) decI b).triple []).fst.length - x.fst.toNat) (List.drop x.fst.toNat ((decList (1 : Int) decI
  b).triple []).fst)).length : Int) ∧ x.fst + min (3 : Int) (↑(List.take (((decList (1 : Int) decI b).triple []).fst.length - x.fst.toNat) (List.drop x.fst.toNat ((decList (1 :
  Int) decI b).triple []).fst)).length : Int) ≤ (↑((decList (1 : Int) decI b).triple []).fst.length : Int) ∧ x.fst + min (3 : Int) (↑(List.take (((decList (1 : Int) decI b).triple
  []).fst.length - x.fst.toNat) (List.drop x.fst.toNat ((decList (1 : Int) decI b).triple []).fst)).length : Int) = x.fst + min (3 : Int) (↑(List.take (((decList (1 : Int) decI
  b).triple []).fst.length - x.fst.toNat) (List.drop x.fst.toNat ((decList (1 : Int) decI b).triple []).fst)).length : Int)) ∧ ((0 : Int) ≤ (0 : Int) ∧ (0 : Int) < (↑(List.take
  ((x.fst + min (3 : Int) (↑(List.take (((decList (1 : Int) decI b).triple []).fst.length - x.fst.toNat) (List.drop x.fst.toNat ((decList (1 : Int) decI b).triple []).fst)).length
  : Int)).toNat - x.fst.toNat) (List.drop x.fst.toNat ((decList (1 : Int) decI b).triple []).fst)).length : Int)) ∧ ((0 : Int) ≤ (1 : Int) ∧ (1 : Int) < (↑(List.take ((x.fst + min
  (3 : Int) (↑(List.take (((decList (1 : Int) decI b).triple []).fst.length - x.fst.toNat) (List.drop x.fst.toNat ((decList (1 : Int) decI b).triple []).fst)).length : Int)).toNat
  - x.fst.toNat) (List.drop x.fst.toNat ((decList (1 : Int) decI b).triple []).fst)).length : Int)) ∧ ((0 : Int) ≤ (2 : Int) ∧ (2 : Int) < (↑(List.take ((x.fst + min (3 : Int)
  (↑(List.take (((decList (1 : Int) decI b).triple []).fst.length - x.fst.toNat) (List.drop x.fst.toNat ((decList (1 : Int) decI b).triple []).fst)).length : Int)).toNat -
  x.fst.toNat) (List.drop x.fst.toNat ((decList (1 : Int) decI b).triple []).fst)).length : Int)) ∧ (roomP HE (27 : Nat) (x.snd.length + [((List.take ((x.fst + min (3 : Int)
  (↑(List.take (((decList (1 : Int) decI b).triple []).fst.length - x.fst.toNat) (List.drop x.fst.toNat ((decList (1 : Int) decI b).triple []).fst)).length : Int)).toNat -
  x.fst.toNat) (List.drop x.fst.toNat ((decList (1 : Int) decI b).triple []).fst)).getD (0 : Nat) (0 : Int), (List.take ((x.fst + min (3 : Int) (↑(List.take (((decList (1 : Int)
  decI b).triple []).fst.length - x.fst.toNat) (List.drop x.fst.toNat ((decList (1 : Int) decI b).triple []).fst)).length : Int)).toNat - x.fst.toNat) (List.drop x.fst.toNat
  ((decList (1 : Int) decI b).triple []).fst)).getD (1 : Nat) (0 : Int), (List.take ((x.fst + min (3 : Int) (↑(List.take (((decList (1 : Int) decI b).triple []).fst.length -
  x.fst.toNat) (List.drop x.fst.toNat ((decList (1 : Int) decI b).triple []).fst)).length : Int)).toNat - x.fst.toNat) (List.drop x.fst.toNat ((decList (1 : Int) decI b).triple
  []).fst)).getD (2 : Nat) (0 : Int), ())].length) ∧ isI64 (x.fst + (3 : Int)) ∧ I (x.fst + (3 : Int), x.snd ++ [((List.take ((x.fst + min (3 : Int) (↑(List.take (((decList (1 :
  Int) decI b).triple []).fst.length - x.fst.toNat) (List.drop x.fst.toNat ((decList (1 : Int) decI b).triple []).fst)).length : Int)).toNat - x.fst.toNat) (List.drop x.fst.toNat
  ((decList (1 : Int) decI b).triple []).fst)).getD (0 : Nat) (0 : Int), (List.take ((x.fst + min (3 : Int) (↑(List.take (((decList (1 : Int) decI b).triple []).fst.length -
  x.fst.toNat) (List.drop x.fst.toNat ((decList (1 : Int) decI b).triple []).fst)).length : Int)).toNat - x.fst.toNat) (List.drop x.fst.toNat ((decList (1 : Int) decI b).triple
  []).fst)).getD (1 : Nat) (0 : Int), (List.take ((x.fst + min (3 : Int) (↑(List.take (((decList (1 : Int) decI b).triple []).fst.length - x.fst.toNat) (List.drop x.fst.toNat
  ((decList (1 : Int) decI b).triple []).fst)).length : Int)).toNat - x.fst.toNat) (List.drop x.fst.toNat ((decList (1 : Int) decI b).triple []).fst)).getD (2 : Nat) (0 : Int),
  ())]) ∧ μ (x.fst + (3 : Int), x.snd ++ [((List.take ((x.fst + min (3 : Int) (↑(List.take (((decList (1 : Int) decI b).triple []).fst.length - x.fst.toNat) (List.drop x.fst.toNat
  ((decList (1 : Int) decI b).triple []).fst)).length : Int)).toNat - x.fst.toNat) (List.drop x.fst.toNat ((decList (1 : Int) decI b).triple []).fst)).getD (0 : Nat) (0 : Int),
  (List.take ((x.fst + min (3 : Int) (↑(List.take (((decList (1 : Int) decI b).triple []).fst.length - x.fst.toNat) (List.drop x.fst.toNat ((decList (1 : Int) decI b).triple
  []).fst)).length : Int)).toNat - x.fst.toNat) (List.drop x.fst.toNat ((decList (1 : Int) decI b).triple []).fst)).getD (1 : Nat) (0 : Int), (List.take ((x.fst + min (3 : Int)
  (↑(List.take (((decList (1 : Int) decI b).triple []).fst.length - x.fst.toNat) (List.drop x.fst.toNat ((decList (1 : Int) decI b).triple []).fst)).length : Int)).toNat -
  x.fst.toNat) (List.drop x.fst.toNat ((decList (1 : Int) decI b).triple []).fst)).getD (2 : Nat) (0 : Int), ())]) < μ x) ∧ (roomP HE (27 : Nat) (x.snd.length + [((List.take
  ((x.fst + min (3 : Int) (↑(List.take (((decList (1 : Int) decI b).triple []).fst.length - x.fst.toNat) (List.drop x.fst.toNat ((decList (1 : Int) decI b).triple []).fst)).length
  : Int)).toNat - x.fst.toNat) (List.drop x.fst.toNat ((decList (1 : Int) decI b).triple []).fst)).getD (0 : Nat) (0 : Int), (List.take ((x.fst + min (3 : Int) (↑(List.take
  (((decList (1 : Int) decI b).triple []).fst.length - x.fst.toNat) (List.drop x.fst.toNat ((decList (1 : Int) decI b).triple []).fst)).length : Int)).toNat - x.fst.toNat)
  (List.drop x.fst.toNat ((decList (1 : Int) decI b).triple []).fst)).getD (1 : Nat) (0 : Int), (List.take ((x.fst + min (3 : Int) (↑(List.take (((decList (1 : Int) decI b).triple
  []).fst.length - x.fst.toNat) (List.drop x.fst.toNat ((decList (1 : Int) decI b).triple []).fst)).length : Int)).toNat - x.fst.toNat) (List.drop x.fst.toNat ((decList (1 : Int)
  decI b).triple []).fst)).getD (2 : Nat) (0 : Int), ())].length) ∧ isI64 (x.fst + (3 : Int)) ∧ I (x.fst + (3 : Int), x.snd ++ [((List.take ((x.fst + min (3 : Int) (↑(List.take
  (((decList (1 : Int) decI b).triple []).fst.length - x.fst.toNat) (List.drop x.fst.toNat ((decList (1 : Int) decI b).triple []).fst)).length : Int)).toNat - x.fst.toNat)
  (List.drop x.fst.toNat ((decList (1 : Int) decI b).triple []).fst)).getD (0 : Nat) (0 : Int), (List.take ((x.fst + min (3 : Int) (↑(List.take (((decList (1 : Int) decI b).triple
  []).fst.length - x.fst.toNat) (List.drop x.fst.toNat ((decList (1 : Int) decI b).triple []).fst)).length : Int)).toNat - x.fst.toNat) (List.drop x.fst.toNat ((decList (1 : Int)
  decI b).triple []).fst)).getD (1 : Nat) (0 : Int), (List.take ((x.fst + min (3 : Int) (↑(List.take (((decList (1 : Int) decI b).triple []).fst.length - x.fst.toNat) (List.drop
  x.fst.toNat ((decList (1 : Int) decI b).triple []).fst)).length : Int)).toNat - x.fst.toNat) (List.drop x.fst.toNat ((decList (1 : Int) decI b).triple []).fst)).getD (2 : Nat) (0
  : Int), ())]) ∧ μ (x.fst + (3 : Int), x.snd ++ [((List.take ((x.fst + min (3 : Int) (↑(List.take (((decList (1 : Int) decI b).triple []).fst.length - x.fst.toNat) (List.drop
  x.fst.toNat ((decList (1 : Int) decI b).triple []).fst)).length : Int)).toNat - x.fst.toNat) (List.drop x.fst.toNat ((decList (1 : Int) decI b).triple []).fst)).getD (0 : Nat) (0
  : Int), (List.take ((x.fst + min (3 : Int) (↑(List.take (((decList (1 : Int) decI b).triple []).fst.length - x.fst.toNat) (List.drop x.fst.toNat ((decList (1 : Int) decI
  b).triple []).fst)).length : Int)).toNat - x.fst.toNat) (List.drop x.fst.toNat ((decList (1 : Int) decI b).triple []).fst)).getD (1 : Nat) (0 : Int), (List.take ((x.fst + min (3
  : Int) (↑(List.take (((decList (1 : Int) decI b).triple []).fst.length - x.fst.toNat) (List.drop x.fst.toNat ((decList (1 : Int) decI b).triple []).fst)).length : Int)).toNat -
  x.fst.toNat) (List.drop x.fst.toNat ((decList (1 : Int) decI b).triple []).fst)).getD (2 : Nat) (0 : Int), ())]) < μ x) ∧ roomP HE (27 : Nat) (x.snd.length + [((List.take ((x.fst
  + min (3 : Int) (↑(List.take (((decList (1 : Int) decI b).triple []).fst.length - x.fst.toNat) (List.drop x.fst.toNat ((decList (1 : Int) decI b).triple []).fst)).length :
  Int)).toNat - x.fst.toNat) (List.drop x.fst.toNat ((decList (1 : Int) decI b).triple []).fst)).getD (0 : Nat) (0 : Int), (List.take ((x.fst + min (3 : Int) (↑(List.take
  (((decList (1 : Int) decI b).triple []).fst.length - x.fst.toNat) (List.drop x.fst.toNat ((decList (1 : Int) decI b).triple []).fst)).length : Int)).toNat - x.fst.toNat)
  (List.drop x.fst.toNat ((decList (1 : Int) decI b).triple []).fst)).getD (1 : Nat) (0 : Int), (List.take ((x.fst + min (3 : Int) (↑(List.take (((decList (1 : Int) decI b).triple
  []).fst.length - x.fst.toNat) (List.drop x.fst.toNat ((decList (1 : Int) decI b).triple []).fst)).length : Int)).toNat - x.fst.toNat) (List.drop x.fst.toNat ((decList (1 : Int)
  decI b).triple []).fst)).getD (2 : Nat) (0 : Int), ())].length) ∧ isI64 (x.fst + (3 : Int)) ∧ I (x.fst + (3 : Int), x.snd ++ [((List.take ((x.fst + min (3 : Int) (↑(List.take
  (((decList (1 : Int) decI b).triple []).fst.length - x.fst.toNat) (List.drop x.fst.toNat ((decList (1 : Int) decI b).triple []).fst)).length : Int)).toNat - x.fst.toNat)
  (List.drop x.fst.toNat ((decList (1 : Int) decI b).triple []).fst)).getD (0 : Nat) (0 : Int), (List.take ((x.fst + min (3 : Int) (↑(List.take (((decList (1 : Int) decI b).triple
  []).fst.length - x.fst.toNat) (List.drop x.fst.toNat ((decList (1 : Int) decI b).triple []).fst)).length : Int)).toNat - x.fst.toNat) (List.drop x.fst.toNat ((decList (1 : Int)
  decI b).triple []).fst)).getD (1 : Nat) (0 : Int), (List.take ((x.fst + min (3 : Int) (↑(List.take (((decList (1 : Int) decI b).triple []).fst.length - x.fst.toNat) (List.drop
  x.fst.toNat ((decList (1 : Int) decI b).triple []).fst)).length : Int)).toNat - x.fst.toNat) (List.drop x.fst.toNat ((decList (1 : Int) decI b).triple []).fst)).getD (2 : Nat) (0
  : Int), ())]) ∧ μ (x.fst + (3 : Int), x.snd ++ [((List.take ((x.fst + min (3 : Int) (↑(List.take (((decList (1 : Int) decI b).triple []).fst.length - x.fst.toNat) (List.drop
  x.fst.toNat ((decList (1 : Int) decI b).triple []).fst)).length : Int)).toNat - x.fst.toNat) (List.drop x.fst.toNat ((decList (1 : Int) decI b).triple []).fst)).getD (0 : Nat) (0
  : Int), (List.take ((x.fst + min (3 : Int) (↑(List.take (((decList (1 : Int) decI b).triple []).fst.length - x.fst.toNat) (List.drop x.fst.toNat ((decList (1 : Int) decI
  b).triple []).fst)).length : Int)).toNat - x.fst.toNat) (List.drop x.fst.toNat ((decList (1 : Int) decI b).triple []).fst)).getD (1 : Nat) (0 : Int), (List.take ((x.fst + min (3
  : Int) (↑(List.take (((decList (1 : Int) decI b).triple []).fst.length - x.fst.toNat) (List.drop x.fst.toNat ((decList (1 : Int) decI b).triple []).fst)).length : Int)).toNat -
  x.fst.toNat) (List.drop x.fst.toNat ((decList (1 : Int) decI b).triple []).fst)).getD (2 : Nat) (0 : Int), ())]) < μ x) ∧ (decide (x.fst < (↑((decList (1 : Int) decI b).triple
  []).fst.length : Int)) = false → True ∧ ((!validH x.snd k) = true → ([], (3 : Int)) = decH b k) ∧ ((!validH x.snd k) = false → (x.snd, (0 : Int)) = decH b k))))))) := by
  kernel_rfl
theorem rDec_nf (b : List Int) (k : Int) : fnwp HE 6 32 rDecHSp (b, k) = (small2 b ∧ ((!decide (((decList (1 : Int) decI b).triple []).snd.snd = (0 : Int))) = true → ([], ((decList
  (1 : Int) decI b).triple []).snd.snd, ()) = rdOf (decH b k)) ∧ ((!decide (((decList (1 : Int) decI b).triple []).snd.snd = (0 : Int))) = false → ((!decide (((decList (1 : Int)
  decI b).triple []).snd.fst = (↑b.length : Int))) = true → ([], (11 : Int), ()) = rdOf (decH b k)) ∧ ((!decide (((decList (1 : Int) decI b).triple []).snd.fst = (↑b.length :
  Int))) = false → ∃ (I : Int × List (Int × Int × Int × PUnit) → Prop), ∃ (μ : Int × List (Int × Int × Int × PUnit) → Nat), I ((0 : Int), []) ∧ ∀ (x : Int × List (Int × Int × Int ×
  PUnit)), I x → isI64 (x.fst + (2 : Int)) ∧ (decide (x.fst + (2 : Int) < (↑((decList (1 : Int) decI b).triple []).fst.length : Int)) = true → ((0 : Int) ≤ x.fst ∧ x.fst <
  (↑((decList (1 : Int) decI b).triple []).fst.length : Int)) ∧ (isI64 (x.fst + (1 : Int)) ∧ ((0 : Int) ≤ x.fst + (1 : Int) ∧ x.fst + (1 : Int) < (↑((decList (1 : Int) decI
  b).triple []).fst.length : Int)) ∧ isI64 (x.fst + (2 : Int)) ∧ ((0 : Int) ≤ x.fst + (2 : Int) ∧ x.fst + (2 : Int) < (↑((decList (1 : Int) decI b).triple []).fst.length : Int)) ∧
  roomP HE (27 : Nat) (x.snd.length + [(((decList (1 : Int) decI b).triple []).fst.getD x.fst.toNat (0 : Int), ((decList (1 : Int) decI b).triple []).fst.getD (x.fst + (1 :
  Int)).toNat (0 : Int), ((decList (1 : Int) decI b).triple []).fst.getD (x.fst + (2 : Int)).toNat (0 : Int), ())].length) ∧ isI64 (x.fst + (3 : Int)) ∧ I (x.fst + (3 : Int), x.snd
  ++ [(((decList (1 : Int) decI b).triple []).fst.getD x.fst.toNat (0 : Int), ((decList (1 : Int) decI b).triple []).fst.getD (x.fst + (1 : Int)).toNat (0 : Int), ((decList (1 :
  Int) decI b).triple []).fst.getD (x.fst + (2 : Int)).toNat (0 : Int), ())]) ∧ μ (x.fst + (3 : Int), x.snd ++ [(((decList (1 : Int) decI b).triple []).fst.getD x.fst.toNat (0 :
  Int), ((decList (1 : Int) decI b).triple []).fst.getD (x.fst + (1 : Int)).toNat (0 : Int), ((decList (1 : Int) decI b).triple []).fst.getD (x.fst + (2 : Int)).toNat (0 : Int),
  ())]) < μ x) ∧ isI64 (x.fst + (2 : Int)) ∧ ((0 : Int) ≤ x.fst + (2 : Int) ∧ x.fst + (2 : Int) < (↑((decList (1 : Int) decI b).triple []).fst.length : Int)) ∧ isI64 (x.fst + (1 :
  Int)) ∧ ((0 : Int) ≤ x.fst + (1 : Int) ∧ x.fst + (1 : Int) < (↑((decList (1 : Int) decI b).triple []).fst.length : Int)) ∧ roomP HE (27 : Nat) (x.snd.length + [(((decList (1 :
  Int) decI b).triple []).fst.getD x.fst.toNat (0 : Int), ((decList (1 : Int) decI b).triple []).fst.getD (x.fst + (1 : Int)).toNat (0 : Int), ((decList (1 : Int) decI b).triple
  []).fst.getD (x.fst + (2 : Int)).toNat (0 : Int), ())].length) ∧ isI64 (x.fst + (3 : Int)) ∧ I (x.fst + (3 : Int), x.snd ++ [(((decList (1 : Int) decI b).triple []).fst.getD
  x.fst.toNat (0 : Int), ((decList (1 : Int) decI b).triple []).fst.getD (x.fst + (1 : Int)).toNat (0 : Int), ((decList (1 : Int) decI b).triple []).fst.getD (x.fst + (2 :
  Int)).toNat (0 : Int), ())]) ∧ μ (x.fst + (3 : Int), x.snd ++ [(((decList (1 : Int) decI b).triple []).fst.getD x.fst.toNat (0 : Int), ((decList (1 : Int) decI b).triple
  []).fst.getD (x.fst + (1 : Int)).toNat (0 : Int), ((decList (1 : Int) decI b).triple []).fst.getD (x.fst + (2 : Int)).toNat (0 : Int), ())]) < μ x) ∧ (decide (x.fst + (2 : Int) <
  (↑((decList (1 : Int) decI b).triple []).fst.length : Int)) = false → (3 : Int) ≠ (0 : Int) ∧ ((!decide ((↑((decList (1 : Int) decI b).triple []).fst.length : Int).tmod (3 : Int)
  = (0 : Int))) = true → ([], (3 : Int), ()) = rdOf (decH b k)) ∧ ((!decide ((↑((decList (1 : Int) decI b).triple []).fst.length : Int).tmod (3 : Int) = (0 : Int))) = false → True
  ∧ ((!validH x.snd k) = true → ([], (3 : Int), ()) = rdOf (decH b k)) ∧ ((!validH x.snd k) = false → (x.snd, (0 : Int), ()) = rdOf (decH b k))))))) := by kernel_rfl
end Go.Proofs.Ytighbmlnlmbbkaa
