import Derived.Test.YtpnfcgkocfjeiaaVe
namespace Go.Proofs.Ytpnfcgkocfjeiaa
open Go.AM Go.PL
set_option linter.unusedVariables false
def hintM5 (f : FuncId) : Hint := ⟨loopsL f, fun _ => .split, fun _ => .split, fun r => bif Nat.beq f 7 && Nat.beq r 5 then 500 else 0⟩
noncomputable def VM : Ctx := mkctx bs ((11, sanitySp) :: tblV) [] hintM5
theorem law5_nf (l : List (List Int)) (n : Int) : fnwp VM 5 7 (lawSp [LL, .int .u8]) (l, n) = (True ∧ ((!allB l (20 : Int)) = true → True ∧ true = true) ∧ ((!allB l (20 : Int)) =
  false → rows l ∧ (↑l.length : Int) ≠ (0 : Int) ∧ ((0 : Int) ≤ (IntKind.i64.wrap n).tmod (↑l.length : Int) ∧ (IntKind.i64.wrap n).tmod (↑l.length : Int) ≤ (↑l.length : Int)) ∧
  roomP VM (22 : Nat) (List.take (l.length - ((IntKind.i64.wrap n).tmod (↑l.length : Int)).toNat) (List.drop ((IntKind.i64.wrap n).tmod (↑l.length : Int)).toNat l)).length ∧ ((0 :
  Int) ≤ (0 : Int) ∧ (0 : Int) ≤ (IntKind.i64.wrap n).tmod (↑l.length : Int) ∧ (IntKind.i64.wrap n).tmod (↑l.length : Int) ≤ (↑l.length : Int)) ∧ roomP VM (22 : Nat) ((List.take
  (l.length - ((IntKind.i64.wrap n).tmod (↑l.length : Int)).toNat) (List.drop ((IntKind.i64.wrap n).tmod (↑l.length : Int)).toNat l)).length + (List.take (((IntKind.i64.wrap
  n).tmod (↑l.length : Int)).toNat - (0 : Nat)) (List.drop (0 : Nat) l)).length) ∧ ((0 : Int) ≤ (0 : Int) ∧ (0 : Int) < (↑l.length : Int)) ∧ True ∧ ((!alikeB (meanS l) (l.getD (0 :
  Nat) [])) = true → false = true) ∧ ((!alikeB (meanS l) (l.getD (0 : Nat) [])) = false → rows (List.take (l.length - ((IntKind.i64.wrap n).tmod (↑l.length : Int)).toNat)
  (List.drop ((IntKind.i64.wrap n).tmod (↑l.length : Int)).toNat l) ++ List.take (((IntKind.i64.wrap n).tmod (↑l.length : Int)).toNat - (0 : Nat)) (List.drop (0 : Nat) l)) ∧ True ∧
  ((!decide (meanS l = meanS (List.take (l.length - ((IntKind.i64.wrap n).tmod (↑l.length : Int)).toNat) (List.drop ((IntKind.i64.wrap n).tmod (↑l.length : Int)).toNat l) ++
  List.take (((IntKind.i64.wrap n).tmod (↑l.length : Int)).toNat - (0 : Nat)) (List.drop (0 : Nat) l)))) = true → false = true) ∧ ((!decide (meanS l = meanS (List.take (l.length -
  ((IntKind.i64.wrap n).tmod (↑l.length : Int)).toNat) (List.drop ((IntKind.i64.wrap n).tmod (↑l.length : Int)).toNat l) ++ List.take (((IntKind.i64.wrap n).tmod (↑l.length :
  Int)).toNat - (0 : Nat)) (List.drop (0 : Nat) l)))) = false → ((0 : Int) ≤ (IntKind.i64.wrap n).tmod (↑l.length : Int) ∧ (IntKind.i64.wrap n).tmod (↑l.length : Int) < (↑l.length
  : Int)) ∧ ((0 : Int) ≤ (IntKind.i64.wrap n).tmod (↑l.length : Int) ∧ (IntKind.i64.wrap n).tmod (↑l.length : Int) < (↑l.length : Int)) ∧ ((0 : Int) ≤ (IntKind.i64.wrap n).tmod
  (↑l.length : Int) ∧ (IntKind.i64.wrap n).tmod (↑l.length : Int) < (↑l.length : Int)) ∧ rows [l.getD ((IntKind.i64.wrap n).tmod (↑l.length : Int)).toNat [], l.getD
  ((IntKind.i64.wrap n).tmod (↑l.length : Int)).toNat [], l.getD ((IntKind.i64.wrap n).tmod (↑l.length : Int)).toNat []] ∧ ((0 : Int) ≤ (IntKind.i64.wrap n).tmod (↑l.length : Int)
  ∧ (IntKind.i64.wrap n).tmod (↑l.length : Int) < (↑l.length : Int)) ∧ True ∧ ((!decide (meanS [l.getD ((IntKind.i64.wrap n).tmod (↑l.length : Int)).toNat [], l.getD
  ((IntKind.i64.wrap n).tmod (↑l.length : Int)).toNat [], l.getD ((IntKind.i64.wrap n).tmod (↑l.length : Int)).toNat []] = l.getD ((IntKind.i64.wrap n).tmod (↑l.length :
  Int)).toNat [])) = true → false = true) ∧ ((!decide (meanS [l.getD ((IntKind.i64.wrap n).tmod (↑l.length : Int)).toNat [], l.getD ((IntKind.i64.wrap n).tmod (↑l.length :
  Int)).toNat [], l.getD ((IntKind.i64.wrap n).tmod (↑l.length : Int)).toNat []] = l.getD ((IntKind.i64.wrap n).tmod (↑l.length : Int)).toNat [])) = false → ∃ (I : Int → Prop), ∃
  (μ : Int → Nat), I (0 : Int) ∧ ∀ (x : Int), I x → (decide (x < (↑(meanS l).length : Int)) = true → ((0 : Int) ≤ (0 : Int) ∧ (0 : Int) < (↑l.length : Int)) ∧ ((0 : Int) ≤ x ∧ x <
  (↑(l.getD (0 : Nat) []).length : Int)) ∧ ((0 : Int) ≤ (0 : Int) ∧ (0 : Int) < (↑l.length : Int)) ∧ ((0 : Int) ≤ x ∧ x < (↑(l.getD (0 : Nat) []).length : Int)) ∧ ∃ (I_1 : Int ×
  Int × Int → Prop), ∃ (μ_1 : Int × Int × Int → Nat), I_1 ((l.getD (0 : Nat) []).getD x.toNat (0 : Int), (l.getD (0 : Nat) []).getD x.toNat (0 : Int), (0 : Int)) ∧ ∀ (x_1 : Int ×
  Int × Int), I_1 x_1 → (decide (x_1.snd.snd < (↑l.length : Int)) = true → ((0 : Int) ≤ x_1.snd.snd ∧ x_1.snd.snd < (↑l.length : Int)) ∧ ((0 : Int) ≤ x ∧ x < (↑(l.getD
  x_1.snd.snd.toNat []).length : Int)) ∧ ((0 : Int) ≤ x ∧ x < (↑(l.getD x_1.snd.snd.toNat []).length : Int)) ∧ isI64 (x_1.snd.snd + (1 : Int)) ∧ I_1 (min x_1.fst ((l.getD
  x_1.snd.snd.toNat []).getD x.toNat (0 : Int)), max x_1.snd.fst ((l.getD x_1.snd.snd.toNat []).getD x.toNat (0 : Int)), x_1.snd.snd + (1 : Int)) ∧ μ_1 (min x_1.fst ((l.getD
  x_1.snd.snd.toNat []).getD x.toNat (0 : Int)), max x_1.snd.fst ((l.getD x_1.snd.snd.toNat []).getD x.toNat (0 : Int)), x_1.snd.snd + (1 : Int)) < μ_1 x_1) ∧ (decide (x_1.snd.snd
  < (↑l.length : Int)) = false → ((0 : Int) ≤ x ∧ x < (↑(meanS l).length : Int)) ∧ (decide ((meanS l).getD x.toNat (0 : Int) < x_1.fst) = true → false = true) ∧ (decide ((meanS
  l).getD x.toNat (0 : Int) < x_1.fst) = false → ((0 : Int) ≤ x ∧ x < (↑(meanS l).length : Int)) ∧ (decide (x_1.snd.fst < (meanS l).getD x.toNat (0 : Int)) = true → false = true) ∧
  (decide (x_1.snd.fst < (meanS l).getD x.toNat (0 : Int)) = false → isI64 (x + (1 : Int)) ∧ I (x + (1 : Int)) ∧ μ (x + (1 : Int)) < μ x)))) ∧ (decide (x < (↑(meanS l).length :
  Int)) = false → True ∧ true = true)))))) := by kernel_rfl
end Go.Proofs.Ytpnfcgkocfjeiaa
