import Derived.Test.YtdeleoaeegmhlaaMRa
namespace Go.Proofs.Ytdeleoaeegmhlaa
open Go.AM Go.PL
set_option linter.unusedVariables false
def sortKSp : MSpec := ⟨3, 54, fun mm xs => sortK mm xs⟩
def routeSp (n : Nat) : FSpec := ⟨[DV, I, L, I], [L], fun x => preA n x.1, fun x => routeN n x.1 x.2.1 x.2.2.1 x.2.2.2⟩
def hintRt (f : FuncId) : Hint := ⟨fun _ => bif Nat.beq f 24 then [.gslot 9 3 I, .slot 19 I, .kmp 0 I] else [], fun r => bif Nat.beq f 24 && Nat.beq r 8 then .all else .split, fun _ => .split, fun _ => 0⟩
noncomputable def YRt (n : Nat) : Ctx := mkctxM bs [(11, areasPSp n), (52, nearSp)] [] [(53, sortKSp)] hintRt
theorem route_nf (n : Nat) (d : Dv) (m : Int) (v : List Int) (w : Int) : fnwp (YRt n) 6 24 (routeSp n) (d, m, v, w) = (preA n d ∧ ∃ (I : List Int × Int × List (Int × Int) → Prop),
  ∃ (μ : List Int × Int × List (Int × Int) → Nat), I ([], (0 : Int), []) ∧ ∀ (x : List Int × Int × List (Int × Int)), I x → (decide (x.snd.fst < (↑(areasN n d).length : Int)) =
  true → ((0 : Int) ≤ x.snd.fst ∧ x.snd.fst < (↑(areasN n d).length : Int)) ∧ True ∧ (decide ((nearS m (((areasN n d).getD x.snd.fst.toNat (([], [], ()), [], ())).fst.fst, ((areasN
  n d).getD x.snd.fst.toNat (([], [], ()), [], ())).fst.snd.fst, ()) v).snd = (0 : Int)) = true → (decide ((nearS m (((areasN n d).getD x.snd.fst.toNat (([], [], ()), [],
  ())).fst.fst, ((areasN n d).getD x.snd.fst.toNat (([], [], ()), [], ())).fst.snd.fst, ()) v).fst ≤ w) = true → (roomP (YRt n) (3 : Nat) (x.fst.length + [x.snd.fst].length) ∧
  isI64 (x.snd.fst + (1 : Int)) ∧ I (x.fst ++ [x.snd.fst], x.snd.fst + (1 : Int), mput x.snd.snd x.snd.fst (nearS m (((areasN n d).getD x.snd.fst.toNat (([], [], ()), [],
  ())).fst.fst, ((areasN n d).getD x.snd.fst.toNat (([], [], ()), [], ())).fst.snd.fst, ()) v).fst) ∧ μ (x.fst ++ [x.snd.fst], x.snd.fst + (1 : Int), mput x.snd.snd x.snd.fst
  (nearS m (((areasN n d).getD x.snd.fst.toNat (([], [], ()), [], ())).fst.fst, ((areasN n d).getD x.snd.fst.toNat (([], [], ()), [], ())).fst.snd.fst, ()) v).fst) < μ x) ∧ (roomP
  (YRt n) (3 : Nat) (x.fst.length + [x.snd.fst].length) ∧ isI64 (x.snd.fst + (1 : Int)) ∧ I (x.fst ++ [x.snd.fst], x.snd.fst + (1 : Int), mput x.snd.snd x.snd.fst (nearS m
  (((areasN n d).getD x.snd.fst.toNat (([], [], ()), [], ())).fst.fst, ((areasN n d).getD x.snd.fst.toNat (([], [], ()), [], ())).fst.snd.fst, ()) v).fst) ∧ μ (x.fst ++
  [x.snd.fst], x.snd.fst + (1 : Int), mput x.snd.snd x.snd.fst (nearS m (((areasN n d).getD x.snd.fst.toNat (([], [], ()), [], ())).fst.fst, ((areasN n d).getD x.snd.fst.toNat
  (([], [], ()), [], ())).fst.snd.fst, ()) v).fst) < μ x) ∧ roomP (YRt n) (3 : Nat) (x.fst.length + [x.snd.fst].length) ∧ isI64 (x.snd.fst + (1 : Int)) ∧ I (x.fst ++ [x.snd.fst],
  x.snd.fst + (1 : Int), mput x.snd.snd x.snd.fst (nearS m (((areasN n d).getD x.snd.fst.toNat (([], [], ()), [], ())).fst.fst, ((areasN n d).getD x.snd.fst.toNat (([], [], ()),
  [], ())).fst.snd.fst, ()) v).fst) ∧ μ (x.fst ++ [x.snd.fst], x.snd.fst + (1 : Int), mput x.snd.snd x.snd.fst (nearS m (((areasN n d).getD x.snd.fst.toNat (([], [], ()), [],
  ())).fst.fst, ((areasN n d).getD x.snd.fst.toNat (([], [], ()), [], ())).fst.snd.fst, ()) v).fst) < μ x) ∧ (decide ((nearS m (((areasN n d).getD x.snd.fst.toNat (([], [], ()),
  [], ())).fst.fst, ((areasN n d).getD x.snd.fst.toNat (([], [], ()), [], ())).fst.snd.fst, ()) v).fst ≤ w) = false → isI64 (x.snd.fst + (1 : Int)) ∧ I (x.fst, x.snd.fst + (1 :
  Int), x.snd.snd) ∧ μ (x.fst, x.snd.fst + (1 : Int), x.snd.snd) < μ x)) ∧ (decide ((nearS m (((areasN n d).getD x.snd.fst.toNat (([], [], ()), [], ())).fst.fst, ((areasN n d).getD
  x.snd.fst.toNat (([], [], ()), [], ())).fst.snd.fst, ()) v).snd = (0 : Int)) = false → isI64 (x.snd.fst + (1 : Int)) ∧ I (x.fst, x.snd.fst + (1 : Int), x.snd.snd) ∧ μ (x.fst,
  x.snd.fst + (1 : Int), x.snd.snd) < μ x)) ∧ (decide (x.snd.fst < (↑(areasN n d).length : Int)) = false → (↑x.fst.length : Int) ≤ (4611686018427387903 : Int) ∧ sortK x.snd.snd
  x.fst = routeN n d m v w)) := by kernel_rfl
end Go.Proofs.Ytdeleoaeegmhlaa
