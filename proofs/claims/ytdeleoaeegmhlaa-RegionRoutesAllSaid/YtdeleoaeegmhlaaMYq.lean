import Derived.Test.YtdeleoaeegmhlaaMYp
namespace Go.Proofs.Ytdeleoaeegmhlaa
open Go.AM Go.PL
set_option linter.unusedVariables false
def sanSp : FSpec := ⟨[], [.bool], fun _ => True, fun _ => true⟩
def loopsL (f : FuncId) (r : Nat) : List LA :=
  if Nat.beq f 3 then (if Nat.beq r 5 then [.slot 6 I, .slot 39 I] else [.cell 0 0 L, .cell 0 1 L, .cell 0 2 L, .slot 59 I]) else
  if Nat.beq f 4 then [.slot 11 I, .slot 65 I] else
  []
def hintL (f : FuncId) : Hint := ⟨loopsL f, fun r => bif Nat.beq f 4 && Nat.beq r 16 then .yes else .split, fun _ => .split, fun _ => 0⟩
def tYq (n : Nat) : List (FuncId × FSpec) := [(7, rfewSp 60), (8, rvalidSp n), (9, bvecSp), (10, sanSp),
  (11, areasPSp n), (13, homeSp n), (12, bhasSp), (14, meetSp), (15, ownsSp n), (16, movesSp n)]
noncomputable def YL (n : Nat) : Ctx := mkctx bs (tYq n) [] hintL
theorem covers_nf (n : Nat) (d : Dv) (v : List Int) : fnwp (YL n) 6 3 (lawSp [DV, L]) (d, v) = ((60 : Nat) = (60 : Nat) ∧ ((!fewD (60 : Nat) d) = true → True ∧ true = true) ∧
  ((!fewD (60 : Nat) d) = false → deepN n d.snd.snd.fst ∧ ((!validD n d) = true → True ∧ true = true) ∧ ((!validD n d) = false → ((!decide ((↑v.length : Int) = d.fst)) = true →
  True ∧ true = true) ∧ ((!decide ((↑v.length : Int) = d.fst)) = false → True ∧ ((!bvec v) = true → True ∧ true = true) ∧ ((!bvec v) = false → preA n d ∧ ∃ (I : Int × Int → Prop),
  ∃ (μ : Int × Int → Nat), I ((0 : Int), (0 : Int)) ∧ ∀ (x : Int × Int), I x → (decide (x.snd < (↑(areasN n d).length : Int)) = true → ((0 : Int) ≤ x.snd ∧ x.snd < (↑(areasN n
  d).length : Int)) ∧ True ∧ (bhas (((areasN n d).getD x.snd.toNat (([], [], ()), [], ())).fst.fst, ((areasN n d).getD x.snd.toNat (([], [], ()), [], ())).fst.snd.fst, ()) v = true
  → isI64 (x.fst + (1 : Int)) ∧ preA n d ∧ ((!decide (homeN n d v = x.snd)) = true → false = true) ∧ ((!decide (homeN n d v = x.snd)) = false → ((0 : Int) ≤ (0 : Int) ∧ (0 : Int) ≤
  x.snd ∧ x.snd ≤ (↑(areasN n d).length : Int)) ∧ ∃ (I_1 : List Int × List Int × List Int × Int → Prop), ∃ (μ_1 : List Int × List Int × List Int × Int → Nat), I_1 (((areasN n
  d).getD x.snd.toNat (([], [], ()), [], ())).fst.fst, ((areasN n d).getD x.snd.toNat (([], [], ()), [], ())).fst.snd.fst, ((areasN n d).getD x.snd.toNat (([], [], ()), [],
  ())).snd.fst, (0 : Int)) ∧ ∀ (x_1 : List Int × List Int × List Int × Int), I_1 x_1 → (decide (x_1.snd.snd.snd < (↑(List.take (x.snd.toNat - (0 : Nat)) (List.drop (0 : Nat)
  (areasN n d))).length : Int)) = true → ((0 : Int) ≤ x_1.snd.snd.snd ∧ x_1.snd.snd.snd < (↑(List.take (x.snd.toNat - (0 : Nat)) (List.drop (0 : Nat) (areasN n d))).length : Int))
  ∧ True ∧ ((meetS (x_1.fst, x_1.snd.fst, ()) (((List.take (x.snd.toNat - (0 : Nat)) (List.drop (0 : Nat) (areasN n d))).getD x_1.snd.snd.snd.toNat (([], [], ()), [], ())).fst.fst,
  ((List.take (x.snd.toNat - (0 : Nat)) (List.drop (0 : Nat) (areasN n d))).getD x_1.snd.snd.snd.toNat (([], [], ()), [], ())).fst.snd.fst, ())).snd.fst = true → false = true) ∧
  ((meetS (x_1.fst, x_1.snd.fst, ()) (((List.take (x.snd.toNat - (0 : Nat)) (List.drop (0 : Nat) (areasN n d))).getD x_1.snd.snd.snd.toNat (([], [], ()), [], ())).fst.fst,
  ((List.take (x.snd.toNat - (0 : Nat)) (List.drop (0 : Nat) (areasN n d))).getD x_1.snd.snd.snd.toNat (([], [], ()), [], ())).fst.snd.fst, ())).snd.fst = false → ((!decide ((meetS
  (x_1.fst, x_1.snd.fst, ()) (((List.take (x.snd.toNat - (0 : Nat)) (List.drop (0 : Nat) (areasN n d))).getD x_1.snd.snd.snd.toNat (([], [], ()), [], ())).fst.fst, ((List.take
  (x.snd.toNat - (0 : Nat)) (List.drop (0 : Nat) (areasN n d))).getD x_1.snd.snd.snd.toNat (([], [], ()), [], ())).fst.snd.fst, ())).snd.snd = (0 : Int))) = true → false = true) ∧
  ((!decide ((meetS (x_1.fst, x_1.snd.fst, ()) (((List.take (x.snd.toNat - (0 : Nat)) (List.drop (0 : Nat) (areasN n d))).getD x_1.snd.snd.snd.toNat (([], [], ()), [],
  ())).fst.fst, ((List.take (x.snd.toNat - (0 : Nat)) (List.drop (0 : Nat) (areasN n d))).getD x_1.snd.snd.snd.toNat (([], [], ()), [], ())).fst.snd.fst, ())).snd.snd = (0 : Int)))
  = false → isI64 (x_1.snd.snd.snd + (1 : Int)) ∧ I_1 (x_1.fst, x_1.snd.fst, x_1.snd.snd.fst, x_1.snd.snd.snd + (1 : Int)) ∧ μ_1 (x_1.fst, x_1.snd.fst, x_1.snd.snd.fst,
  x_1.snd.snd.snd + (1 : Int)) < μ_1 x_1))) ∧ (decide (x_1.snd.snd.snd < (↑(List.take (x.snd.toNat - (0 : Nat)) (List.drop (0 : Nat) (areasN n d))).length : Int)) = false → isI64
  (x.snd + (1 : Int)) ∧ I (x.fst + (1 : Int), x.snd + (1 : Int)) ∧ μ (x.fst + (1 : Int), x.snd + (1 : Int)) < μ x))) ∧ (bhas (((areasN n d).getD x.snd.toNat (([], [], ()), [],
  ())).fst.fst, ((areasN n d).getD x.snd.toNat (([], [], ()), [], ())).fst.snd.fst, ()) v = false → ((0 : Int) ≤ (0 : Int) ∧ (0 : Int) ≤ x.snd ∧ x.snd ≤ (↑(areasN n d).length :
  Int)) ∧ ∃ (I_1 : List Int × List Int × List Int × Int → Prop), ∃ (μ_1 : List Int × List Int × List Int × Int → Nat), I_1 (((areasN n d).getD x.snd.toNat (([], [], ()), [],
  ())).fst.fst, ((areasN n d).getD x.snd.toNat (([], [], ()), [], ())).fst.snd.fst, ((areasN n d).getD x.snd.toNat (([], [], ()), [], ())).snd.fst, (0 : Int)) ∧ ∀ (x_1 : List Int ×
  List Int × List Int × Int), I_1 x_1 → (decide (x_1.snd.snd.snd < (↑(List.take (x.snd.toNat - (0 : Nat)) (List.drop (0 : Nat) (areasN n d))).length : Int)) = true → ((0 : Int) ≤
  x_1.snd.snd.snd ∧ x_1.snd.snd.snd < (↑(List.take (x.snd.toNat - (0 : Nat)) (List.drop (0 : Nat) (areasN n d))).length : Int)) ∧ True ∧ ((meetS (x_1.fst, x_1.snd.fst, ())
  (((List.take (x.snd.toNat - (0 : Nat)) (List.drop (0 : Nat) (areasN n d))).getD x_1.snd.snd.snd.toNat (([], [], ()), [], ())).fst.fst, ((List.take (x.snd.toNat - (0 : Nat))
  (List.drop (0 : Nat) (areasN n d))).getD x_1.snd.snd.snd.toNat (([], [], ()), [], ())).fst.snd.fst, ())).snd.fst = true → false = true) ∧ ((meetS (x_1.fst, x_1.snd.fst, ())
  (((List.take (x.snd.toNat - (0 : Nat)) (List.drop (0 : Nat) (areasN n d))).getD x_1.snd.snd.snd.toNat (([], [], ()), [], ())).fst.fst, ((List.take (x.snd.toNat - (0 : Nat))
  (List.drop (0 : Nat) (areasN n d))).getD x_1.snd.snd.snd.toNat (([], [], ()), [], ())).fst.snd.fst, ())).snd.fst = false → ((!decide ((meetS (x_1.fst, x_1.snd.fst, ())
  (((List.take (x.snd.toNat - (0 : Nat)) (List.drop (0 : Nat) (areasN n d))).getD x_1.snd.snd.snd.toNat (([], [], ()), [], ())).fst.fst, ((List.take (x.snd.toNat - (0 : Nat))
  (List.drop (0 : Nat) (areasN n d))).getD x_1.snd.snd.snd.toNat (([], [], ()), [], ())).fst.snd.fst, ())).snd.snd = (0 : Int))) = true → false = true) ∧ ((!decide ((meetS
  (x_1.fst, x_1.snd.fst, ()) (((List.take (x.snd.toNat - (0 : Nat)) (List.drop (0 : Nat) (areasN n d))).getD x_1.snd.snd.snd.toNat (([], [], ()), [], ())).fst.fst, ((List.take
  (x.snd.toNat - (0 : Nat)) (List.drop (0 : Nat) (areasN n d))).getD x_1.snd.snd.snd.toNat (([], [], ()), [], ())).fst.snd.fst, ())).snd.snd = (0 : Int))) = false → isI64
  (x_1.snd.snd.snd + (1 : Int)) ∧ I_1 (x_1.fst, x_1.snd.fst, x_1.snd.snd.fst, x_1.snd.snd.snd + (1 : Int)) ∧ μ_1 (x_1.fst, x_1.snd.fst, x_1.snd.snd.fst, x_1.snd.snd.snd + (1 :
  Int)) < μ_1 x_1))) ∧ (decide (x_1.snd.snd.snd < (↑(List.take (x.snd.toNat - (0 : Nat)) (List.drop (0 : Nat) (areasN n d))).length : Int)) = false → isI64 (x.snd + (1 : Int)) ∧ I
  (x.fst, x.snd + (1 : Int)) ∧ μ (x.fst, x.snd + (1 : Int)) < μ x))) ∧ (decide (x.snd < (↑(areasN n d).length : Int)) = false → True ∧ (true = true → decide (x.fst = (1 : Int)) =
  true) ∧ (true = false → false = true))))))) := by kernel_rfl
theorem movesAll_nf (n : Nat) (a b : Dv) (v : List Int) (o : Int) : fnwp (YL n) 6 4 (lawSp [DV, DV, L, I]) (a, b, v, o) = ((60 : Nat) = (60 : Nat) ∧ ((!fewD (60 : Nat) a) = true →
  True ∧ true = true) ∧ ((!fewD (60 : Nat) a) = false → (60 : Nat) = (60 : Nat) ∧ ((!fewD (60 : Nat) b) = true → True ∧ true = true) ∧ ((!fewD (60 : Nat) b) = false → deepN n
  a.snd.snd.fst ∧ ((!validD n a) = true → True ∧ true = true) ∧ ((!validD n a) = false → deepN n b.snd.snd.fst ∧ ((!validD n b) = true → True ∧ true = true) ∧ ((!validD n b) =
  false → ((!decide (a.fst = b.fst)) = true → True ∧ true = true) ∧ ((!decide (a.fst = b.fst)) = false → ((!decide ((↑v.length : Int) = a.fst)) = true → True ∧ true = true) ∧
  ((!decide ((↑v.length : Int) = a.fst)) = false → True ∧ ((!bvec v) = true → True ∧ true = true) ∧ ((!bvec v) = false → preA n a ∧ preA n b ∧ preM n a b ∧ ∃ (I : Int × Int →
  Prop), ∃ (μ : Int × Int → Nat), I ((0 : Int), (0 : Int)) ∧ ∀ (x : Int × Int), I x → (decide (x.snd < (↑(movesN n a b).length : Int)) = true → ((0 : Int) ≤ x.snd ∧ x.snd <
  (↑(movesN n a b).length : Int)) ∧ (decide (((movesN n a b).getD x.snd.toNat (([], [], ()), [], (0 : Int), ())).snd.snd.fst = o) = true → True ∧ (bhas (((movesN n a b).getD
  x.snd.toNat (([], [], ()), [], (0 : Int), ())).fst.fst, ((movesN n a b).getD x.snd.toNat (([], [], ()), [], (0 : Int), ())).fst.snd.fst, ()) v = true → isI64 (x.fst + (1 : Int))
  ∧ (decide ((↑((movesN n a b).getD x.snd.toNat (([], [], ()), [], (0 : Int), ())).snd.fst.length : Int) = (0 : Int)) = true → false = true) ∧ (decide ((↑((movesN n a b).getD
  x.snd.toNat (([], [], ()), [], (0 : Int), ())).snd.fst.length : Int) = (0 : Int)) = false → ((0 : Int) ≤ (0 : Int) ∧ (0 : Int) < (↑((movesN n a b).getD x.snd.toNat (([], [], ()),
  [], (0 : Int), ())).snd.fst.length : Int)) ∧ preA n a ∧ ((!ownsN n a v (((movesN n a b).getD x.snd.toNat (([], [], ()), [], (0 : Int), ())).snd.fst.getD (0 : Nat) (0 : Int))) =
  true → false = true) ∧ ((!ownsN n a v (((movesN n a b).getD x.snd.toNat (([], [], ()), [], (0 : Int), ())).snd.fst.getD (0 : Nat) (0 : Int))) = false → isI64 (x.snd + (1 : Int))
  ∧ I (x.fst + (1 : Int), x.snd + (1 : Int)) ∧ μ (x.fst + (1 : Int), x.snd + (1 : Int)) < μ x))) ∧ (bhas (((movesN n a b).getD x.snd.toNat (([], [], ()), [], (0 : Int),
  ())).fst.fst, ((movesN n a b).getD x.snd.toNat (([], [], ()), [], (0 : Int), ())).fst.snd.fst, ()) v = false → isI64 (x.snd + (1 : Int)) ∧ I (x.fst, x.snd + (1 : Int)) ∧ μ
  (x.fst, x.snd + (1 : Int)) < μ x)) ∧ (decide (((movesN n a b).getD x.snd.toNat (([], [], ()), [], (0 : Int), ())).snd.snd.fst = o) = false → isI64 (x.snd + (1 : Int)) ∧ I (x.fst,
  x.snd + (1 : Int)) ∧ μ (x.fst, x.snd + (1 : Int)) < μ x)) ∧ (decide (x.snd < (↑(movesN n a b).length : Int)) = false → (ownsN n b v o = true → ((!ownsN n a v o) = true → True ∧
  true = true ∧ decide (x.fst = (1 : Int)) = true ∧ preM n a a ∧ decide ((↑(movesN n a a).length : Int) = (0 : Int)) = true) ∧ ((!ownsN n a v o) = false → True ∧ true = true ∧
  decide (x.fst = (0 : Int)) = true ∧ preM n a a ∧ decide ((↑(movesN n a a).length : Int) = (0 : Int)) = true)) ∧ (ownsN n b v o = false → True ∧ true = true ∧ decide (x.fst = (0 :
  Int)) = true ∧ preM n a a ∧ decide ((↑(movesN n a a).length : Int) = (0 : Int)) = true)))))))))) := by kernel_rfl
end Go.Proofs.Ytdeleoaeegmhlaa
