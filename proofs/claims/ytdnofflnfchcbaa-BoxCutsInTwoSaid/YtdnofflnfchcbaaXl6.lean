import Derived.Test.YtdnofflnfchcbaaXk
namespace Go.Proofs.Ytdnofflnfchcbaa
open Go.AM Go.PL
set_option linter.unusedVariables false
theorem law6_nf (m : Int) (b : Box) (v : List Int) (x y : Int) (p : List Int) : fnwp BLW 6 6 (lawSp [I, BX, L, U8, I, PK]) (m, b, v, x, y, p) = (True ∧ ((!fewB b) = true → True ∧
  true = true) ∧ ((!fewB b) = false → True ∧ ((!bval b) = true → True ∧ true = true) ∧ ((!bval b) = false → True ∧ ((!bvec v) = true → True ∧ true = true) ∧ ((!bvec v) = false →
  ((!decide ((↑v.length : Int) = (↑b.fst.length : Int))) = true → True ∧ true = true) ∧ ((!decide ((↑v.length : Int) = (↑b.fst.length : Int))) = false → True ∧ ((!isM m) = true →
  True ∧ true = true) ∧ ((!isM m) = false → True ∧ (decide ((splitS b).snd.snd = (0 : Int)) = true → True ∧ (!decide ((cutS b (splitS b).fst (splitS b).snd.fst).snd.snd = (0 :
  Int))) = false ∧ ((0 : Int) ≤ (splitS b).fst ∧ (splitS b).fst < (↑(cutS b (splitS b).fst (splitS b).snd.fst).fst.snd.fst.length : Int)) ∧ ((0 : Int) ≤ (splitS b).fst ∧ (splitS
  b).fst < (↑(cutS b (splitS b).fst (splitS b).snd.fst).fst.fst.length : Int)) ∧ isI64 ((cutS b (splitS b).fst (splitS b).snd.fst).fst.snd.fst.getD (splitS b).fst.toNat (0 : Int) -
  (cutS b (splitS b).fst (splitS b).snd.fst).fst.fst.getD (splitS b).fst.toNat (0 : Int)) ∧ ((0 : Int) ≤ (splitS b).fst ∧ (splitS b).fst < (↑(cutS b (splitS b).fst (splitS
  b).snd.fst).snd.fst.snd.fst.length : Int)) ∧ ((0 : Int) ≤ (splitS b).fst ∧ (splitS b).fst < (↑(cutS b (splitS b).fst (splitS b).snd.fst).snd.fst.fst.length : Int)) ∧ isI64 ((cutS
  b (splitS b).fst (splitS b).snd.fst).snd.fst.snd.fst.getD (splitS b).fst.toNat (0 : Int) - (cutS b (splitS b).fst (splitS b).snd.fst).snd.fst.fst.getD (splitS b).fst.toNat (0 :
  Int)) ∧ decide ((cutS b (splitS b).fst (splitS b).snd.fst).fst.snd.fst.getD (splitS b).fst.toNat (0 : Int) - (cutS b (splitS b).fst (splitS b).snd.fst).fst.fst.getD (splitS
  b).fst.toNat (0 : Int) < (cutS b (splitS b).fst (splitS b).snd.fst).snd.fst.snd.fst.getD (splitS b).fst.toNat (0 : Int) - (cutS b (splitS b).fst (splitS
  b).snd.fst).snd.fst.fst.getD (splitS b).fst.toNat (0 : Int)) = false ∧ ((0 : Int) ≤ (splitS b).fst ∧ (splitS b).fst < (↑(cutS b (splitS b).fst (splitS
  b).snd.fst).fst.snd.fst.length : Int)) ∧ ((0 : Int) ≤ (splitS b).fst ∧ (splitS b).fst < (↑(cutS b (splitS b).fst (splitS b).snd.fst).fst.fst.length : Int)) ∧ isI64 ((cutS b
  (splitS b).fst (splitS b).snd.fst).fst.snd.fst.getD (splitS b).fst.toNat (0 : Int) - (cutS b (splitS b).fst (splitS b).snd.fst).fst.fst.getD (splitS b).fst.toNat (0 : Int)) ∧ ((0
  : Int) ≤ (splitS b).fst ∧ (splitS b).fst < (↑(cutS b (splitS b).fst (splitS b).snd.fst).snd.fst.snd.fst.length : Int)) ∧ ((0 : Int) ≤ (splitS b).fst ∧ (splitS b).fst < (↑(cutS b
  (splitS b).fst (splitS b).snd.fst).snd.fst.fst.length : Int)) ∧ isI64 ((cutS b (splitS b).fst (splitS b).snd.fst).snd.fst.snd.fst.getD (splitS b).fst.toNat (0 : Int) - (cutS b
  (splitS b).fst (splitS b).snd.fst).snd.fst.fst.getD (splitS b).fst.toNat (0 : Int)) ∧ isI64 ((cutS b (splitS b).fst (splitS b).snd.fst).snd.fst.snd.fst.getD (splitS b).fst.toNat
  (0 : Int) - (cutS b (splitS b).fst (splitS b).snd.fst).snd.fst.fst.getD (splitS b).fst.toNat (0 : Int) + (1 : Int)) ∧ decide ((cutS b (splitS b).fst (splitS
  b).snd.fst).snd.fst.snd.fst.getD (splitS b).fst.toNat (0 : Int) - (cutS b (splitS b).fst (splitS b).snd.fst).snd.fst.fst.getD (splitS b).fst.toNat (0 : Int) + (1 : Int) < (cutS b
  (splitS b).fst (splitS b).snd.fst).fst.snd.fst.getD (splitS b).fst.toNat (0 : Int) - (cutS b (splitS b).fst (splitS b).snd.fst).fst.fst.getD (splitS b).fst.toNat (0 : Int)) =
  false ∧ (↑v.length : Int) ≠ (0 : Int) ∧ True ∧ ((!decide ((cutS b ((IntKind.i64.wrap x).tmod (↑v.length : Int)) y).snd.snd = (0 : Int))) = true → True ∧ true = true) ∧ ((!decide
  ((cutS b ((IntKind.i64.wrap x).tmod (↑v.length : Int)) y).snd.snd = (0 : Int))) = false → bval b = true ∧ True ∧ True ∧ (bhas ((cutS b ((IntKind.i64.wrap x).tmod (↑v.length :
  Int)) y).fst.fst, (cutS b ((IntKind.i64.wrap x).tmod (↑v.length : Int)) y).fst.snd.fst, ()) (innerS b p) == bhas ((cutS b ((IntKind.i64.wrap x).tmod (↑v.length : Int))
  y).snd.fst.fst, (cutS b ((IntKind.i64.wrap x).tmod (↑v.length : Int)) y).snd.fst.snd.fst, ()) (innerS b p)) = false ∧ True ∧ (!binside ((cutS b ((IntKind.i64.wrap x).tmod
  (↑v.length : Int)) y).fst.fst, (cutS b ((IntKind.i64.wrap x).tmod (↑v.length : Int)) y).fst.snd.fst, ()) b) = false ∧ True ∧ (!binside ((cutS b ((IntKind.i64.wrap x).tmod
  (↑v.length : Int)) y).snd.fst.fst, (cutS b ((IntKind.i64.wrap x).tmod (↑v.length : Int)) y).snd.fst.snd.fst, ()) b) = false ∧ True ∧ True ∧ True ∧ True ∧ True ∧ True ∧ decide
  ((nearS m b v).snd = (0 : Int)) = true ∧ decide ((nearS m ((cutS b ((IntKind.i64.wrap x).tmod (↑v.length : Int)) y).fst.fst, (cutS b ((IntKind.i64.wrap x).tmod (↑v.length : Int))
  y).fst.snd.fst, ()) v).snd = (0 : Int)) = true ∧ decide ((nearS m ((cutS b ((IntKind.i64.wrap x).tmod (↑v.length : Int)) y).snd.fst.fst, (cutS b ((IntKind.i64.wrap x).tmod
  (↑v.length : Int)) y).snd.fst.snd.fst, ()) v).snd = (0 : Int)) = true ∧ decide ((farS m b v).snd = (0 : Int)) = true ∧ decide ((farS m ((cutS b ((IntKind.i64.wrap x).tmod
  (↑v.length : Int)) y).fst.fst, (cutS b ((IntKind.i64.wrap x).tmod (↑v.length : Int)) y).fst.snd.fst, ()) v).snd = (0 : Int)) = true ∧ True ∧ true = true ∧ decide ((farS m ((cutS
  b ((IntKind.i64.wrap x).tmod (↑v.length : Int)) y).snd.fst.fst, (cutS b ((IntKind.i64.wrap x).tmod (↑v.length : Int)) y).snd.fst.snd.fst, ()) v).snd = (0 : Int)) = true ∧ decide
  ((nearS m b v).fst = min (nearS m ((cutS b ((IntKind.i64.wrap x).tmod (↑v.length : Int)) y).fst.fst, (cutS b ((IntKind.i64.wrap x).tmod (↑v.length : Int)) y).fst.snd.fst, ())
  v).fst (nearS m ((cutS b ((IntKind.i64.wrap x).tmod (↑v.length : Int)) y).snd.fst.fst, (cutS b ((IntKind.i64.wrap x).tmod (↑v.length : Int)) y).snd.fst.snd.fst, ()) v).fst) =
  true ∧ decide ((farS m b v).fst = max (farS m ((cutS b ((IntKind.i64.wrap x).tmod (↑v.length : Int)) y).fst.fst, (cutS b ((IntKind.i64.wrap x).tmod (↑v.length : Int))
  y).fst.snd.fst, ()) v).fst (farS m ((cutS b ((IntKind.i64.wrap x).tmod (↑v.length : Int)) y).snd.fst.fst, (cutS b ((IntKind.i64.wrap x).tmod (↑v.length : Int))
  y).snd.fst.snd.fst, ()) v).fst) = true)) ∧ (decide ((splitS b).snd.snd = (0 : Int)) = false → (↑v.length : Int) ≠ (0 : Int) ∧ True ∧ ((!decide ((cutS b ((IntKind.i64.wrap x).tmod
  (↑v.length : Int)) y).snd.snd = (0 : Int))) = true → True ∧ true = true) ∧ ((!decide ((cutS b ((IntKind.i64.wrap x).tmod (↑v.length : Int)) y).snd.snd = (0 : Int))) = false →
  bval b = true ∧ True ∧ True ∧ (bhas ((cutS b ((IntKind.i64.wrap x).tmod (↑v.length : Int)) y).fst.fst, (cutS b ((IntKind.i64.wrap x).tmod (↑v.length : Int)) y).fst.snd.fst, ())
  (innerS b p) == bhas ((cutS b ((IntKind.i64.wrap x).tmod (↑v.length : Int)) y).snd.fst.fst, (cutS b ((IntKind.i64.wrap x).tmod (↑v.length : Int)) y).snd.fst.snd.fst, ()) (innerS
  b p)) = false ∧ True ∧ (!binside ((cutS b ((IntKind.i64.wrap x).tmod (↑v.length : Int)) y).fst.fst, (cutS b ((IntKind.i64.wrap x).tmod (↑v.length : Int)) y).fst.snd.fst, ()) b) =
  false ∧ True ∧ (!binside ((cutS b ((IntKind.i64.wrap x).tmod (↑v.length : Int)) y).snd.fst.fst, (cutS b ((IntKind.i64.wrap x).tmod (↑v.length : Int)) y).snd.fst.snd.fst, ()) b) =
  false ∧ True ∧ True ∧ True ∧ True ∧ True ∧ True ∧ decide ((nearS m b v).snd = (0 : Int)) = true ∧ decide ((nearS m ((cutS b ((IntKind.i64.wrap x).tmod (↑v.length : Int))
  y).fst.fst, (cutS b ((IntKind.i64.wrap x).tmod (↑v.length : Int)) y).fst.snd.fst, ()) v).snd = (0 : Int)) = true ∧ decide ((nearS m ((cutS b ((IntKind.i64.wrap x).tmod (↑v.length
  : Int)) y).snd.fst.fst, (cutS b ((IntKind.i64.wrap x).tmod (↑v.length : Int)) y).snd.fst.snd.fst, ()) v).snd = (0 : Int)) = true ∧ decide ((farS m b v).snd = (0 : Int)) = true ∧
  decide ((farS m ((cutS b ((IntKind.i64.wrap x).tmod (↑v.length : Int)) y).fst.fst, (cutS b ((IntKind.i64.wrap x).tmod (↑v.length : Int)) y).fst.snd.fst, ()) v).snd = (0 : Int)) =
  true ∧ True ∧ true = true ∧ decide ((farS m ((cutS b ((IntKind.i64.wrap x).tmod (↑v.length : Int)) y).snd.fst.fst, (cutS b ((IntKind.i64.wrap x).tmod (↑v.length : Int))
  y).snd.fst.snd.fst, ()) v).snd = (0 : Int)) = true ∧ decide ((nearS m b v).fst = min (nearS m ((cutS b ((IntKind.i64.wrap x).tmod (↑v.length : Int)) y).fst.fst, (cutS b
  ((IntKind.i64.wrap x).tmod (↑v.length : Int)) y).fst.snd.fst, ()) v).fst (nearS m ((cutS b ((IntKind.i64.wrap x).tmod (↑v.length : Int)) y).snd.fst.fst, (cutS b
  ((IntKind.i64.wrap x).tmod (↑v.length : Int)) y).snd.fst.snd.fst, ()) v).fst) = true ∧ decide ((farS m b v).fst = max (farS m ((cutS b ((IntKind.i64.wrap x).tmod (↑v.length :
  Int)) y).fst.fst, (cutS b ((IntKind.i64.wrap x).tmod (↑v.length : Int)) y).fst.snd.fst, ()) v).fst (farS m ((cutS b ((IntKind.i64.wrap x).tmod (↑v.length : Int)) y).snd.fst.fst,
  (cutS b ((IntKind.i64.wrap x).tmod (↑v.length : Int)) y).snd.fst.snd.fst, ()) v).fst) = true)))))))) := by kernel_rfl
end Go.Proofs.Ytdnofflnfchcbaa
