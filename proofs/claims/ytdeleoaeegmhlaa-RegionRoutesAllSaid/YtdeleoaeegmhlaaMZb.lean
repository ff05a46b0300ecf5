import Derived.Test.YtdeleoaeegmhlaaMZa
import Derived.Test.YtdeleoaeegmhlaaMRb
import Derived.Test.YtdeleoaeegmhlaaMYq
namespace Go.Proofs.Ytdeleoaeegmhlaa
open Go.AM Go.PL
set_option linter.unusedVariables false
def hintZ (f : FuncId) : Hint := ⟨fun r => bif Nat.beq f 6 then (bif Nat.beq r 5 then [.slot 12 .bool, .slot 59 I] else [.slot 76 I]) else [], fun r => bif Nat.beq f 6 && Nat.beq r 17 then .yes else .split, fun _ => .split, fun _ => 0⟩
def tZb (n : Nat) : List (FuncId × FSpec) := [(7, rfewSp 60), (8, rvalidSp n), (22, alikeSp), (23, metricSp), (10, sanSp),
  (24, routeSp n), (13, homeSp n), (25, keySp)]
noncomputable def YZ (n : Nat) : Ctx := mkctx bs (tZb n) [] hintZ
theorem routesAll_nf (n : Nat) (d : Dv) (m : Int) (v w : List Int) (q : Int) : fnwp (YZ n) 6 6 (lawSp [DV, I, L, L, I]) (d, m, v, w, q) = ((60 : Nat) = (60 : Nat) ∧ ((!fewD (60 :
  Nat) d) = true → True ∧ true = true) ∧ ((!fewD (60 : Nat) d) = false → deepN n d.snd.snd.fst ∧ ((!validD n d) = true → True ∧ true = true) ∧ ((!validD n d) = false → ((!decide
  ((↑v.length : Int) = d.fst)) = true → True ∧ true = true) ∧ ((!decide ((↑v.length : Int) = d.fst)) = false → True ∧ ((!alikeB v w) = true → True ∧ true = true) ∧ ((!alikeB v w) =
  false → True ∧ ((!(decide ((1 : Int) ≤ m) && decide (m ≤ (3 : Int)))) = true → True ∧ true = true) ∧ ((!(decide ((1 : Int) ≤ m) && decide (m ≤ (3 : Int)))) = false → (decide (q <
  (0 : Int)) = true → True ∧ true = true) ∧ (decide (q < (0 : Int)) = false → (decide ((134217728 : Int) < q) = true → True ∧ true = true) ∧ (decide ((134217728 : Int) < q) = false
  → preA n d ∧ ∃ (I : Bool × Int → Prop), ∃ (μ : Bool × Int → Nat), I (false, (0 : Int)) ∧ ∀ (x : Bool × Int), I x → (decide (x.snd < (↑(routeN n d m v q).length : Int)) = true →
  ((0 : Int) ≤ x.snd ∧ x.snd < (↑(routeN n d m v q).length : Int)) ∧ (x.fst = true → ((0 : Int) ≤ (0 : Int) ∧ (0 : Int) ≤ x.snd ∧ x.snd ≤ (↑(routeN n d m v q).length : Int)) ∧ ∃
  (I_1 : Int → Prop), ∃ (μ_1 : Int → Nat), I_1 (0 : Int) ∧ ∀ (x_1 : Int), I_1 x_1 → (decide (x_1 < (↑(List.take (x.snd.toNat - (0 : Nat)) (List.drop (0 : Nat) (routeN n d m v
  q))).length : Int)) = true → ((0 : Int) ≤ x_1 ∧ x_1 < (↑(List.take (x.snd.toNat - (0 : Nat)) (List.drop (0 : Nat) (routeN n d m v q))).length : Int)) ∧ (decide ((List.take
  (x.snd.toNat - (0 : Nat)) (List.drop (0 : Nat) (routeN n d m v q))).getD x_1.toNat (0 : Int) = (routeN n d m v q).getD x.snd.toNat (0 : Int)) = true → false = true) ∧ (decide
  ((List.take (x.snd.toNat - (0 : Nat)) (List.drop (0 : Nat) (routeN n d m v q))).getD x_1.toNat (0 : Int) = (routeN n d m v q).getD x.snd.toNat (0 : Int)) = false → isI64 (x_1 +
  (1 : Int)) ∧ I_1 (x_1 + (1 : Int)) ∧ μ_1 (x_1 + (1 : Int)) < μ_1 x_1)) ∧ (decide (x_1 < (↑(List.take (x.snd.toNat - (0 : Nat)) (List.drop (0 : Nat) (routeN n d m v q))).length :
  Int)) = false → isI64 (x.snd + (1 : Int)) ∧ I (true, x.snd + (1 : Int)) ∧ μ (true, x.snd + (1 : Int)) < μ x)) ∧ (x.fst = false → preA n d ∧ ((0 : Int) ≤ (0 : Int) ∧ (0 : Int) ≤
  x.snd ∧ x.snd ≤ (↑(routeN n d m v q).length : Int)) ∧ ∃ (I_1 : Int → Prop), ∃ (μ_1 : Int → Nat), I_1 (0 : Int) ∧ ∀ (x_1 : Int), I_1 x_1 → (decide (x_1 < (↑(List.take (x.snd.toNat
  - (0 : Nat)) (List.drop (0 : Nat) (routeN n d m v q))).length : Int)) = true → ((0 : Int) ≤ x_1 ∧ x_1 < (↑(List.take (x.snd.toNat - (0 : Nat)) (List.drop (0 : Nat) (routeN n d m
  v q))).length : Int)) ∧ (decide ((List.take (x.snd.toNat - (0 : Nat)) (List.drop (0 : Nat) (routeN n d m v q))).getD x_1.toNat (0 : Int) = (routeN n d m v q).getD x.snd.toNat (0
  : Int)) = true → false = true) ∧ (decide ((List.take (x.snd.toNat - (0 : Nat)) (List.drop (0 : Nat) (routeN n d m v q))).getD x_1.toNat (0 : Int) = (routeN n d m v q).getD
  x.snd.toNat (0 : Int)) = false → isI64 (x_1 + (1 : Int)) ∧ I_1 (x_1 + (1 : Int)) ∧ μ_1 (x_1 + (1 : Int)) < μ_1 x_1)) ∧ (decide (x_1 < (↑(List.take (x.snd.toNat - (0 : Nat))
  (List.drop (0 : Nat) (routeN n d m v q))).length : Int)) = false → isI64 (x.snd + (1 : Int)) ∧ I (decide ((routeN n d m v q).getD x.snd.toNat (0 : Int) = homeN n d w), x.snd + (1
  : Int)) ∧ μ (decide ((routeN n d m v q).getD x.snd.toNat (0 : Int) = homeN n d w), x.snd + (1 : Int)) < μ x))) ∧ (decide (x.snd < (↑(routeN n d m v q).length : Int)) = false →
  ((1 : Int) ≤ m ∧ m ≤ (3 : Int) ∧ small (64 : Nat) (4000 : Int) v ∧ small (64 : Nat) (4000 : Int) w ∧ v.length = w.length) ∧ (decide (keyS m v w ≤ q) = true → ((!x.fst) = true →
  false = true) ∧ ((!x.fst) = false → True ∧ true = true ∧ decide ((0 : Int) < (↑(routeN n d m v q).length : Int)) = true ∧ ((0 : Int) ≤ (0 : Int) ∧ (0 : Int) < (↑(routeN n d m v
  q).length : Int)) ∧ preA n d ∧ decide ((routeN n d m v q).getD (0 : Nat) (0 : Int) = homeN n d v) = true)) ∧ (decide (keyS m v w ≤ q) = false → True ∧ true = true ∧ decide ((0 :
  Int) < (↑(routeN n d m v q).length : Int)) = true ∧ ((0 : Int) ≤ (0 : Int) ∧ (0 : Int) < (↑(routeN n d m v q).length : Int)) ∧ preA n d ∧ decide ((routeN n d m v q).getD (0 :
  Nat) (0 : Int) = homeN n d v) = true)))))))))) := by kernel_rfl
end Go.Proofs.Ytdeleoaeegmhlaa
