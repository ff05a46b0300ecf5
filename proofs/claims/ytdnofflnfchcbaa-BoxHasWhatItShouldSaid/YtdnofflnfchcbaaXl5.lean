import Derived.Test.YtdnofflnfchcbaaXk
namespace Go.Proofs.Ytdnofflnfchcbaa
open Go.AM Go.PL
set_option linter.unusedVariables false
theorem law5_nf (l : List (List Int)) (a b : Box) (p : List Int) : fnwp BLW 6 8 (lawSp [LL, BX, BX, PK]) (l, a, b, p) = (True ∧ ((!shortB l) = true → True ∧ true = true) ∧
  ((!shortB l) = false → True ∧ ((!fewB a) = true → True ∧ true = true) ∧ ((!fewB a) = false → True ∧ ((!fewB b) = true → True ∧ true = true) ∧ ((!fewB b) = false → True ∧ (decide
  ((ofS l).snd = (0 : Int)) = true → ∃ (I : Int × List Int × List Int → Prop), ∃ (μ : Int × List Int × List Int → Nat), I ((0 : Int), (ofS l).fst.fst, (ofS l).fst.snd.fst) ∧ ∀ (x :
  Int × List Int × List Int), I x → (decide (x.fst < (↑l.length : Int)) = true → ((0 : Int) ≤ x.fst ∧ x.fst < (↑l.length : Int)) ∧ True ∧ ((!bhas (x.snd.fst, x.snd.snd, ()) (l.getD
  x.fst.toNat [])) = true → false = true) ∧ ((!bhas (x.snd.fst, x.snd.snd, ()) (l.getD x.fst.toNat [])) = false → isI64 (x.fst + (1 : Int)) ∧ I (x.fst + (1 : Int), x.snd.fst,
  x.snd.snd) ∧ μ (x.fst + (1 : Int), x.snd.fst, x.snd.snd) < μ x)) ∧ (decide (x.fst < (↑l.length : Int)) = false → ∃ (I : Int × List Int × List Int → Prop), ∃ (μ : Int × List Int ×
  List Int → Nat), I ((0 : Int), x.snd.fst, x.snd.snd) ∧ ∀ (x : Int × List Int × List Int), I x → (decide (x.fst < (↑x.snd.fst.length : Int)) = true → ∃ (I_1 : Int × Bool × Bool ×
  List Int × List Int → Prop), ∃ (μ_1 : Int × Bool × Bool × List Int × List Int → Nat), I_1 ((0 : Int), false, false, x.snd.fst, x.snd.snd) ∧ ∀ (x_1 : Int × Bool × Bool × List Int
  × List Int), I_1 x_1 → (decide (x_1.fst < (↑l.length : Int)) = true → (x_1.snd.fst = true → (x_1.snd.snd.fst = true → isI64 (x_1.fst + (1 : Int)) ∧ I_1 (x_1.fst + (1 : Int),
  true, true, x_1.snd.snd.snd.fst, x_1.snd.snd.snd.snd) ∧ μ_1 (x_1.fst + (1 : Int), true, true, x_1.snd.snd.snd.fst, x_1.snd.snd.snd.snd) < μ_1 x_1) ∧ (x_1.snd.snd.fst = false →
  ((0 : Int) ≤ x_1.fst ∧ x_1.fst < (↑l.length : Int)) ∧ ((0 : Int) ≤ x.fst ∧ x.fst < (↑(l.getD x_1.fst.toNat []).length : Int)) ∧ ((0 : Int) ≤ x.fst ∧ x.fst <
  (↑x_1.snd.snd.snd.snd.length : Int)) ∧ isI64 (x_1.fst + (1 : Int)) ∧ I_1 (x_1.fst + (1 : Int), true, decide ((l.getD x_1.fst.toNat []).getD x.fst.toNat (0 : Int) =
  x_1.snd.snd.snd.snd.getD x.fst.toNat (0 : Int)), x_1.snd.snd.snd.fst, x_1.snd.snd.snd.snd) ∧ μ_1 (x_1.fst + (1 : Int), true, decide ((l.getD x_1.fst.toNat []).getD x.fst.toNat (0
  : Int) = x_1.snd.snd.snd.snd.getD x.fst.toNat (0 : Int)), x_1.snd.snd.snd.fst, x_1.snd.snd.snd.snd) < μ_1 x_1)) ∧ (x_1.snd.fst = false → ((0 : Int) ≤ x_1.fst ∧ x_1.fst <
  (↑l.length : Int)) ∧ ((0 : Int) ≤ x.fst ∧ x.fst < (↑(l.getD x_1.fst.toNat []).length : Int)) ∧ ((0 : Int) ≤ x.fst ∧ x.fst < (↑x_1.snd.snd.snd.fst.length : Int)) ∧
  (x_1.snd.snd.fst = true → isI64 (x_1.fst + (1 : Int)) ∧ I_1 (x_1.fst + (1 : Int), decide ((l.getD x_1.fst.toNat []).getD x.fst.toNat (0 : Int) = x_1.snd.snd.snd.fst.getD
  x.fst.toNat (0 : Int)), true, x_1.snd.snd.snd.fst, x_1.snd.snd.snd.snd) ∧ μ_1 (x_1.fst + (1 : Int), decide ((l.getD x_1.fst.toNat []).getD x.fst.toNat (0 : Int) =
  x_1.snd.snd.snd.fst.getD x.fst.toNat (0 : Int)), true, x_1.snd.snd.snd.fst, x_1.snd.snd.snd.snd) < μ_1 x_1) ∧ (x_1.snd.snd.fst = false → ((0 : Int) ≤ x_1.fst ∧ x_1.fst <
  (↑l.length : Int)) ∧ ((0 : Int) ≤ x.fst ∧ x.fst < (↑(l.getD x_1.fst.toNat []).length : Int)) ∧ ((0 : Int) ≤ x.fst ∧ x.fst < (↑x_1.snd.snd.snd.snd.length : Int)) ∧ isI64 (x_1.fst
  + (1 : Int)) ∧ I_1 (x_1.fst + (1 : Int), decide ((l.getD x_1.fst.toNat []).getD x.fst.toNat (0 : Int) = x_1.snd.snd.snd.fst.getD x.fst.toNat (0 : Int)), decide ((l.getD
  x_1.fst.toNat []).getD x.fst.toNat (0 : Int) = x_1.snd.snd.snd.snd.getD x.fst.toNat (0 : Int)), x_1.snd.snd.snd.fst, x_1.snd.snd.snd.snd) ∧ μ_1 (x_1.fst + (1 : Int), decide
  ((l.getD x_1.fst.toNat []).getD x.fst.toNat (0 : Int) = x_1.snd.snd.snd.fst.getD x.fst.toNat (0 : Int)), decide ((l.getD x_1.fst.toNat []).getD x.fst.toNat (0 : Int) =
  x_1.snd.snd.snd.snd.getD x.fst.toNat (0 : Int)), x_1.snd.snd.snd.fst, x_1.snd.snd.snd.snd) < μ_1 x_1))) ∧ (decide (x_1.fst < (↑l.length : Int)) = false → ((!x_1.snd.fst) = true →
  false = true) ∧ ((!x_1.snd.fst) = false → ((!x_1.snd.snd.fst) = true → false = true) ∧ ((!x_1.snd.snd.fst) = false → isI64 (x.fst + (1 : Int)) ∧ I (x.fst + (1 : Int),
  x_1.snd.snd.snd.fst, x_1.snd.snd.snd.snd) ∧ μ (x.fst + (1 : Int), x_1.snd.snd.snd.fst, x_1.snd.snd.snd.snd) < μ x)))) ∧ (decide (x.fst < (↑x.snd.fst.length : Int)) = false → True
  ∧ ((!bval a) = true → True ∧ true = true) ∧ ((!bval a) = false → True ∧ ((!bval b) = true → True ∧ true = true) ∧ ((!bval b) = false → ((!decide ((↑a.fst.length : Int) =
  (↑b.fst.length : Int))) = true → True ∧ true = true) ∧ ((!decide ((↑a.fst.length : Int) = (↑b.fst.length : Int))) = false → True ∧ True ∧ True ∧ True ∧ (!decide ((joinS a b).snd
  = (0 : Int))) = false ∧ (!decide ((joinS b a).snd = (0 : Int))) = false ∧ (!decide ((meetS a b).snd.snd = (0 : Int))) = false ∧ (!decide ((meetS b a).snd.snd = (0 : Int))) =
  false ∧ True ∧ (!decide (((joinS a b).fst.fst, (joinS a b).fst.snd.fst, ()) = ((joinS b a).fst.fst, (joinS b a).fst.snd.fst, ()))) = false ∧ True ∧ (!decide (((meetS a
  b).fst.fst, (meetS a b).fst.snd.fst, ()) = ((meetS b a).fst.fst, (meetS b a).fst.snd.fst, ()))) = false ∧ ((meetS a b).snd.fst != (meetS b a).snd.fst) = false ∧ bval a = true ∧
  True ∧ ((meetS a b).snd.fst = true → True ∧ ((bhas b (innerS a p) != bhas ((meetS a b).fst.fst, (meetS a b).fst.snd.fst, ()) (innerS a p)) = true → false = true) ∧ ((bhas b
  (innerS a p) != bhas ((meetS a b).fst.fst, (meetS a b).fst.snd.fst, ()) (innerS a p)) = false → True ∧ ((!bhas ((joinS a b).fst.fst, (joinS a b).fst.snd.fst, ()) (innerS a p)) =
  true → false = true) ∧ ((!bhas ((joinS a b).fst.fst, (joinS a b).fst.snd.fst, ()) (innerS a p)) = false → ((meetS a b).snd.fst = true → True ∧ (binside ((meetS a b).fst.fst,
  (meetS a b).fst.snd.fst, ()) a = true → True ∧ ((!binside ((meetS a b).fst.fst, (meetS a b).fst.snd.fst, ()) b) = true → false = true) ∧ ((!binside ((meetS a b).fst.fst, (meetS a
  b).fst.snd.fst, ()) b) = false → True ∧ true = true ∧ True ∧ binside a ((joinS a b).fst.fst, (joinS a b).fst.snd.fst, ()) = true ∧ True ∧ binside b ((joinS a b).fst.fst, (joinS a
  b).fst.snd.fst, ()) = true)) ∧ (binside ((meetS a b).fst.fst, (meetS a b).fst.snd.fst, ()) a = false → false = true)) ∧ ((meetS a b).snd.fst = false → True ∧ true = true ∧ True ∧
  binside a ((joinS a b).fst.fst, (joinS a b).fst.snd.fst, ()) = true ∧ True ∧ binside b ((joinS a b).fst.fst, (joinS a b).fst.snd.fst, ()) = true)))) ∧ ((meetS a b).snd.fst =
  false → ((bhas b (innerS a p) != false) = true → false = true) ∧ ((bhas b (innerS a p) != false) = false → True ∧ ((!bhas ((joinS a b).fst.fst, (joinS a b).fst.snd.fst, ())
  (innerS a p)) = true → false = true) ∧ ((!bhas ((joinS a b).fst.fst, (joinS a b).fst.snd.fst, ()) (innerS a p)) = false → ((meetS a b).snd.fst = true → True ∧ (binside ((meetS a
  b).fst.fst, (meetS a b).fst.snd.fst, ()) a = true → True ∧ ((!binside ((meetS a b).fst.fst, (meetS a b).fst.snd.fst, ()) b) = true → false = true) ∧ ((!binside ((meetS a
  b).fst.fst, (meetS a b).fst.snd.fst, ()) b) = false → True ∧ true = true ∧ True ∧ binside a ((joinS a b).fst.fst, (joinS a b).fst.snd.fst, ()) = true ∧ True ∧ binside b ((joinS a
  b).fst.fst, (joinS a b).fst.snd.fst, ()) = true)) ∧ (binside ((meetS a b).fst.fst, (meetS a b).fst.snd.fst, ()) a = false → false = true)) ∧ ((meetS a b).snd.fst = false → True ∧
  true = true ∧ True ∧ binside a ((joinS a b).fst.fst, (joinS a b).fst.snd.fst, ()) = true ∧ True ∧ binside b ((joinS a b).fst.fst, (joinS a b).fst.snd.fst, ()) = true)))))))))) ∧
  (decide ((ofS l).snd = (0 : Int)) = false → True ∧ ((!bval a) = true → True ∧ true = true) ∧ ((!bval a) = false → True ∧ ((!bval b) = true → True ∧ true = true) ∧ ((!bval b) =
  false → ((!decide ((↑a.fst.length : Int) = (↑b.fst.length : Int))) = true → True ∧ true = true) ∧ ((!decide ((↑a.fst.length : Int) = (↑b.fst.length : Int))) = false → True ∧ True
  ∧ True ∧ True ∧ (!decide ((joinS a b).snd = (0 : Int))) = false ∧ (!decide ((joinS b a).snd = (0 : Int))) = false ∧ (!decide ((meetS a b).snd.snd = (0 : Int))) = false ∧ (!decide
  ((meetS b a).snd.snd = (0 : Int))) = false ∧ True ∧ (!decide (((joinS a b).fst.fst, (joinS a b).fst.snd.fst, ()) = ((joinS b a).fst.fst, (joinS b a).fst.snd.fst, ()))) = false ∧
  True ∧ (!decide (((meetS a b).fst.fst, (meetS a b).fst.snd.fst, ()) = ((meetS b a).fst.fst, (meetS b a).fst.snd.fst, ()))) = false ∧ ((meetS a b).snd.fst != (meetS b a).snd.fst)
  = false ∧ bval a = true ∧ True ∧ ((meetS a b).snd.fst = true → True ∧ ((bhas b (innerS a p) != bhas ((meetS a b).fst.fst, (meetS a b).fst.snd.fst, ()) (innerS a p)) = true →
  false = true) ∧ ((bhas b (innerS a p) != bhas ((meetS a b).fst.fst, (meetS a b).fst.snd.fst, ()) (innerS a p)) = false → True ∧ ((!bhas ((joinS a b).fst.fst, (joinS a
  b).fst.snd.fst, ()) (innerS a p)) = true → false = true) ∧ ((!bhas ((joinS a b).fst.fst, (joinS a b).fst.snd.fst, ()) (innerS a p)) = false → ((meetS a b).snd.fst = true → True ∧
  (binside ((meetS a b).fst.fst, (meetS a b).fst.snd.fst, ()) a = true → True ∧ ((!binside ((meetS a b).fst.fst, (meetS a b).fst.snd.fst, ()) b) = true → false = true) ∧ ((!binside
  ((meetS a b).fst.fst, (meetS a b).fst.snd.fst, ()) b) = false → True ∧ true = true ∧ True ∧ binside a ((joinS a b).fst.fst, (joinS a b).fst.snd.fst, ()) = true ∧ True ∧ binside b
  ((joinS a b).fst.fst, (joinS a b).fst.snd.fst, ()) = true)) ∧ (binside ((meetS a b).fst.fst, (meetS a b).fst.snd.fst, ()) a = false → false = true)) ∧ ((meetS a b).snd.fst =
  false → True ∧ true = true ∧ True ∧ binside a ((joinS a b).fst.fst, (joinS a b).fst.snd.fst, ()) = true ∧ True ∧ binside b ((joinS a b).fst.fst, (joinS a b).fst.snd.fst, ()) =
  true)))) ∧ ((meetS a b).snd.fst = false → ((bhas b (innerS a p) != false) = true → false = true) ∧ ((bhas b (innerS a p) != false) = false → True ∧ ((!bhas ((joinS a b).fst.fst,
  (joinS a b).fst.snd.fst, ()) (innerS a p)) = true → false = true) ∧ ((!bhas ((joinS a b).fst.fst, (joinS a b).fst.snd.fst, ()) (innerS a p)) = false → ((meetS a b).snd.fst = true
  → True ∧ (binside ((meetS a b).fst.fst, (meetS a b).fst.snd.fst, ()) a = true → True ∧ ((!binside ((meetS a b).fst.fst, (meetS a b).fst.snd.fst, ()) b) = true → false = true) ∧
  ((!binside ((meetS a b).fst.fst, (meetS a b).fst.snd.fst, ()) b) = false → True ∧ true = true ∧ True ∧ binside a ((joinS a b).fst.fst, (joinS a b).fst.snd.fst, ()) = true ∧ True
  ∧ binside b ((joinS a b).fst.fst, (joinS a b).fst.snd.fst, ()) = true)) ∧ (binside ((meetS a b).fst.fst, (meetS a b).fst.snd.fst, ()) a = false → false = true)) ∧ ((meetS a
  b).snd.fst = false → True ∧ true = true ∧ True ∧ binside a ((joinS a b).fst.fst, (joinS a b).fst.snd.fst, ()) = true ∧ True ∧ binside b ((joinS a b).fst.fst, (joinS a
  b).fst.snd.fst, ()) = true)))))))))))) := by kernel_rfl
end Go.Proofs.Ytdnofflnfchcbaa
