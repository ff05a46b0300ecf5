import Derived.Test.YtdeleoaeegmhlaaMYc
namespace Go.Proofs.Ytdeleoaeegmhlaa
open Go.AM Go.PL
set_option linter.unusedVariables false
noncomputable def Y1 : Ctx := mkctx bs [(43, goodSp)] [(66, repG)] hintR
noncomputable def YA : Ctx := mkctx bs tY1 [] hintRA
theorem whole_nf (d : Int) : fnwp Y1 6 32 wholeSp d = (([(-1000 : Int)].length = (1 : Nat) ∧ (1 : Int) ≤ d ∧ d ≤ (1000000 : Int)) ∧ ([(1000 : Int)].length = (1 : Nat) ∧ (1 : Int) ≤
  d ∧ d ≤ (1000000 : Int)) ∧ (List.replicate d.toNat ([(-1000 : Int)].getD (0 : Nat) (0 : Int)), List.replicate d.toNat ([(1000 : Int)].getD (0 : Nat) (0 : Int)), ()) = wholeB d)
  := by kernel_rfl
theorem rWhole_nf (d : Int) : fnwp Y1 6 28 wholeSp d = (∃ (I : List Int × List Int × Int → Prop), ∃ (μ : List Int × List Int × Int → Nat), I ([], [], (0 : Int)) ∧ ∀ (x : List Int ×
  List Int × Int), I x → (decide (x.snd.snd < d) = true → roomP Y1 (3 : Nat) (x.fst.length + (1 : Nat)) ∧ roomP Y1 (3 : Nat) (x.snd.fst.length + (1 : Nat)) ∧ isI64 (x.snd.snd + (1
  : Int)) ∧ I (x.fst ++ [(-1000 : Int)], x.snd.fst ++ [(1000 : Int)], x.snd.snd + (1 : Int)) ∧ μ (x.fst ++ [(-1000 : Int)], x.snd.fst ++ [(1000 : Int)], x.snd.snd + (1 : Int)) < μ
  x) ∧ (decide (x.snd.snd < d) = false → (x.fst, x.snd.fst, ()) = wholeB d)) := by kernel_rfl
theorem regA_nf (n : Nat) (x : Sp) (b : Box) : fnwpI YA 6 64 (regIA n) (x, b) = (∀ (Y : Proto (regIA n).ys) (own : Nat → Prop), Y.2 = regs1 n x b → (decide ((↑(Rose.subs x).length
  : Int) = (0 : Int)) = true → (decide ((Rose.val x).fst.fst = (0 : Int)) = true → (decide ((Rose.val x).fst.snd.fst = (0 : Int)) = true → True ∧ (goodS (Rose.val x).snd.fst = true
  → (∃ (rest : List ((List Int × List Int × PUnit) × Rose ((I.pair (I.pair Ty.unit)).den × (L.pair Ty.unit).den))), Y.2 = [] ++ (b, x) :: rest) ∧ ∀ (own : Nat → Prop), ((∃ (own' :
  Nat → Prop), Blk.log [BX, ST] Y own ([] ++ [(b, x)]) = Blk.log [BX, ST] Y own' (regs1 n x b)) ∨ ∃ (own' : Nat → Prop), Blk.log [BX, ST] Y own ([] ++ [(b, x)]) = Blk.lof [BX, ST]
  Y own') ∧ ((∃ (own' : Nat → Prop), Blk.lof [BX, ST] Y own = Blk.log [BX, ST] Y own' (regs1 n x b)) ∨ ∃ (own' : Nat → Prop), Blk.lof [BX, ST] Y own = Blk.lof [BX, ST] Y own')) ∧
  (goodS (Rose.val x).snd.fst = false → ((!decide ((↑(Rose.subs x).length : Int) = (2 : Int))) = true → (∃ (rest : List ((List Int × List Int × PUnit) × Rose ((I.pair (I.pair
  Ty.unit)).den × (L.pair Ty.unit).den))), Y.2 = [] ++ (([], [], ()), x) :: rest) ∧ ∀ (own : Nat → Prop), ((∃ (own' : Nat → Prop), Blk.log [BX, ST] Y own ([] ++ [(([], [], ()),
  x)]) = Blk.log [BX, ST] Y own' (regs1 n x b)) ∨ ∃ (own' : Nat → Prop), Blk.log [BX, ST] Y own ([] ++ [(([], [], ()), x)]) = Blk.lof [BX, ST] Y own') ∧ ((∃ (own' : Nat → Prop),
  Blk.lof [BX, ST] Y own = Blk.log [BX, ST] Y own' (regs1 n x b)) ∨ ∃ (own' : Nat → Prop), Blk.lof [BX, ST] Y own = Blk.lof [BX, ST] Y own')) ∧ ((!decide ((↑(Rose.subs x).length :
  Int) = (2 : Int))) = false → (decide ((0 : Int) < (↑(Rose.val x).snd.fst.length : Int)) = true → (∃ (rest : List ((List Int × List Int × PUnit) × Rose ((I.pair (I.pair
  Ty.unit)).den × (L.pair Ty.unit).den))), Y.2 = [] ++ (([], [], ()), x) :: rest) ∧ ∀ (own : Nat → Prop), ((∃ (own' : Nat → Prop), Blk.log [BX, ST] Y own ([] ++ [(([], [], ()),
  x)]) = Blk.log [BX, ST] Y own' (regs1 n x b)) ∨ ∃ (own' : Nat → Prop), Blk.log [BX, ST] Y own ([] ++ [(([], [], ()), x)]) = Blk.lof [BX, ST] Y own') ∧ ((∃ (own' : Nat → Prop),
  Blk.lof [BX, ST] Y own = Blk.log [BX, ST] Y own' (regs1 n x b)) ∨ ∃ (own' : Nat → Prop), Blk.lof [BX, ST] Y own = Blk.lof [BX, ST] Y own')) ∧ (decide ((0 : Int) < (↑(Rose.val
  x).snd.fst.length : Int)) = false → evenB b ∧ (!cutsB b (Rose.val x).fst.fst (Rose.val x).fst.snd.fst) = true ∧ (∃ (rest : List ((List Int × List Int × PUnit) × Rose ((I.pair
  (I.pair Ty.unit)).den × (L.pair Ty.unit).den))), Y.2 = [] ++ (([], [], ()), x) :: rest) ∧ ∀ (own : Nat → Prop), ((∃ (own' : Nat → Prop), Blk.log [BX, ST] Y own ([] ++ [(([], [],
  ()), x)]) = Blk.log [BX, ST] Y own' (regs1 n x b)) ∨ ∃ (own' : Nat → Prop), Blk.log [BX, ST] Y own ([] ++ [(([], [], ()), x)]) = Blk.lof [BX, ST] Y own') ∧ ((∃ (own' : Nat →
  Prop), Blk.lof [BX, ST] Y own = Blk.log [BX, ST] Y own' (regs1 n x b)) ∨ ∃ (own' : Nat → Prop), Blk.lof [BX, ST] Y own = Blk.lof [BX, ST] Y own'))))) ∧ (decide ((Rose.val
  x).fst.snd.fst = (0 : Int)) = false → ((!decide ((↑(Rose.subs x).length : Int) = (2 : Int))) = true → (∃ (rest : List ((List Int × List Int × PUnit) × Rose ((I.pair (I.pair
  Ty.unit)).den × (L.pair Ty.unit).den))), Y.2 = [] ++ (([], [], ()), x) :: rest) ∧ ∀ (own : Nat → Prop), ((∃ (own' : Nat → Prop), Blk.log [BX, ST] Y own ([] ++ [(([], [], ()),
  x)]) = Blk.log [BX, ST] Y own' (regs1 n x b)) ∨ ∃ (own' : Nat → Prop), Blk.log [BX, ST] Y own ([] ++ [(([], [], ()), x)]) = Blk.lof [BX, ST] Y own') ∧ ((∃ (own' : Nat → Prop),
  Blk.lof [BX, ST] Y own = Blk.log [BX, ST] Y own' (regs1 n x b)) ∨ ∃ (own' : Nat → Prop), Blk.lof [BX, ST] Y own = Blk.lof [BX, ST] Y own')) ∧ ((!decide ((↑(Rose.subs x).length :
  Int) = (2 : Int))) = false → (decide ((0 : Int) < (↑(Rose.val x).snd.fst.length : Int)) = true → (∃ (rest : List ((List Int × List Int × PUnit) × Rose ((I.pair (I.pair
  Ty.unit)).den × (L.pair Ty.unit).den))), Y.2 = [] ++ (([], [], ()), x) :: rest) ∧ ∀ (own : Nat → Prop), ((∃ (own' : Nat → Prop), Blk.log [BX, ST] Y own ([] ++ [(([], [], ()),
  x)]) = Blk.log [BX, ST] Y own' (regs1 n x b)) ∨ ∃ (own' : Nat → Prop), Blk.log [BX, ST] Y own ([] ++ [(([], [], ()), x)]) = Blk.lof [BX, ST] Y own') ∧ ((∃ (own' : Nat → Prop),
  Blk.lof [BX, ST] Y own = Blk.log [BX, ST] Y own' (regs1 n x b)) ∨ ∃ (own' : Nat → Prop), Blk.lof [BX, ST] Y own = Blk.lof [BX, ST] Y own')) ∧ (decide ((0 : Int) < (↑(Rose.val
  x).snd.fst.length : Int)) = false → evenB b ∧ (!cutsB b (Rose.val x).fst.fst (Rose.val x).fst.snd.fst) = true ∧ (∃ (rest : List ((List Int × List Int × PUnit) × Rose ((I.pair
  (I.pair Ty.unit)).den × (L.pair Ty.unit).den))), Y.2 = [] ++ (([], [], ()), x) :: rest) ∧ ∀ (own : Nat → Prop), ((∃ (own' : Nat → Prop), Blk.log [BX, ST] Y own ([] ++ [(([], [],
  ()), x)]) = Blk.log [BX, ST] Y own' (regs1 n x b)) ∨ ∃ (own' : Nat → Prop), Blk.log [BX, ST] Y own ([] ++ [(([], [], ()), x)]) = Blk.lof [BX, ST] Y own') ∧ ((∃ (own' : Nat →
  Prop), Blk.lof [BX, ST] Y own = Blk.log [BX, ST] Y own' (regs1 n x b)) ∨ ∃ (own' : Nat → Prop), Blk.lof [BX, ST] Y own = Blk.lof [BX, ST] Y own'))))) ∧ (decide ((Rose.val
  x).fst.fst = (0 : Int)) = false → ((!decide ((↑(Rose.subs x).length : Int) = (2 : Int))) = true → (∃ (rest : List ((List Int × List Int × PUnit) × Rose ((I.pair (I.pair
  Ty.unit)).den × (L.pair Ty.unit).den))), Y.2 = [] ++ (([], [], ()), x) :: rest) ∧ ∀ (own : Nat → Prop), ((∃ (own' : Nat → Prop), Blk.log [BX, ST] Y own ([] ++ [(([], [], ()),
  x)]) = Blk.log [BX, ST] Y own' (regs1 n x b)) ∨ ∃ (own' : Nat → Prop), Blk.log [BX, ST] Y own ([] ++ [(([], [], ()), x)]) = Blk.lof [BX, ST] Y own') ∧ ((∃ (own' : Nat → Prop),
  Blk.lof [BX, ST] Y own = Blk.log [BX, ST] Y own' (regs1 n x b)) ∨ ∃ (own' : Nat → Prop), Blk.lof [BX, ST] Y own = Blk.lof [BX, ST] Y own')) ∧ ((!decide ((↑(Rose.subs x).length :
  Int) = (2 : Int))) = false → (decide ((0 : Int) < (↑(Rose.val x).snd.fst.length : Int)) = true → (∃ (rest : List ((List Int × List Int × PUnit) × Rose ((I.pair (I.pair
  Ty.unit)).den × (L.pair Ty.unit).den))), Y.2 = [] ++ (([], [], ()), x) :: rest) ∧ ∀ (own : Nat → Prop), ((∃ (own' : Nat → Prop), Blk.log [BX, ST] Y own ([] ++ [(([], [], ()),
  x)]) = Blk.log [BX, ST] Y own' (regs1 n x b)) ∨ ∃ (own' : Nat → Prop), Blk.log [BX, ST] Y own ([] ++ [(([], [], ()), x)]) = Blk.lof [BX, ST] Y own') ∧ ((∃ (own' : Nat → Prop),
  Blk.lof [BX, ST] Y own = Blk.log [BX, ST] Y own' (regs1 n x b)) ∨ ∃ (own' : Nat → Prop), Blk.lof [BX, ST] Y own = Blk.lof [BX, ST] Y own')) ∧ (decide ((0 : Int) < (↑(Rose.val
  x).snd.fst.length : Int)) = false → evenB b ∧ (!cutsB b (Rose.val x).fst.fst (Rose.val x).fst.snd.fst) = true ∧ (∃ (rest : List ((List Int × List Int × PUnit) × Rose ((I.pair
  (I.pair Ty.unit)).den × (L.pair Ty.unit).den))), Y.2 = [] ++ (([], [], ()), x) :: rest) ∧ ∀ (own : Nat → Prop), ((∃ (own' : Nat → Prop), Blk.log [BX, ST] Y own ([] ++ [(([], [],
  ()), x)]) = Blk.log [BX, ST] Y own' (regs1 n x b)) ∨ ∃ (own' : Nat → Prop), Blk.log [BX, ST] Y own ([] ++ [(([], [], ()), x)]) = Blk.lof [BX, ST] Y own') ∧ ((∃ (own' : Nat →
  Prop), Blk.lof [BX, ST] Y own = Blk.log [BX, ST] Y own' (regs1 n x b)) ∨ ∃ (own' : Nat → Prop), Blk.lof [BX, ST] Y own = Blk.lof [BX, ST] Y own'))))) ∧ (decide ((↑(Rose.subs
  x).length : Int) = (0 : Int)) = false → ((!decide ((↑(Rose.subs x).length : Int) = (2 : Int))) = true → (∃ (rest : List ((List Int × List Int × PUnit) × Rose ((I.pair (I.pair
  Ty.unit)).den × (L.pair Ty.unit).den))), Y.2 = [] ++ (([], [], ()), x) :: rest) ∧ ∀ (own : Nat → Prop), ((∃ (own' : Nat → Prop), Blk.log [BX, ST] Y own ([] ++ [(([], [], ()),
  x)]) = Blk.log [BX, ST] Y own' (regs1 n x b)) ∨ ∃ (own' : Nat → Prop), Blk.log [BX, ST] Y own ([] ++ [(([], [], ()), x)]) = Blk.lof [BX, ST] Y own') ∧ ((∃ (own' : Nat → Prop),
  Blk.lof [BX, ST] Y own = Blk.log [BX, ST] Y own' (regs1 n x b)) ∨ ∃ (own' : Nat → Prop), Blk.lof [BX, ST] Y own = Blk.lof [BX, ST] Y own')) ∧ ((!decide ((↑(Rose.subs x).length :
  Int) = (2 : Int))) = false → (decide ((0 : Int) < (↑(Rose.val x).snd.fst.length : Int)) = true → (∃ (rest : List ((List Int × List Int × PUnit) × Rose ((I.pair (I.pair
  Ty.unit)).den × (L.pair Ty.unit).den))), Y.2 = [] ++ (([], [], ()), x) :: rest) ∧ ∀ (own : Nat → Prop), ((∃ (own' : Nat → Prop), Blk.log [BX, ST] Y own ([] ++ [(([], [], ()),
  x)]) = Blk.log [BX, ST] Y own' (regs1 n x b)) ∨ ∃ (own' : Nat → Prop), Blk.log [BX, ST] Y own ([] ++ [(([], [], ()), x)]) = Blk.lof [BX, ST] Y own') ∧ ((∃ (own' : Nat → Prop),
  Blk.lof [BX, ST] Y own = Blk.log [BX, ST] Y own' (regs1 n x b)) ∨ ∃ (own' : Nat → Prop), Blk.lof [BX, ST] Y own = Blk.lof [BX, ST] Y own')) ∧ (decide ((0 : Int) < (↑(Rose.val
  x).snd.fst.length : Int)) = false → evenB b ∧ (!cutsB b (Rose.val x).fst.fst (Rose.val x).fst.snd.fst) = true ∧ (∃ (rest : List ((List Int × List Int × PUnit) × Rose ((I.pair
  (I.pair Ty.unit)).den × (L.pair Ty.unit).den))), Y.2 = [] ++ (([], [], ()), x) :: rest) ∧ ∀ (own : Nat → Prop), ((∃ (own' : Nat → Prop), Blk.log [BX, ST] Y own ([] ++ [(([], [],
  ()), x)]) = Blk.log [BX, ST] Y own' (regs1 n x b)) ∨ ∃ (own' : Nat → Prop), Blk.log [BX, ST] Y own ([] ++ [(([], [], ()), x)]) = Blk.lof [BX, ST] Y own') ∧ ((∃ (own' : Nat →
  Prop), Blk.lof [BX, ST] Y own = Blk.log [BX, ST] Y own' (regs1 n x b)) ∨ ∃ (own' : Nat → Prop), Blk.lof [BX, ST] Y own = Blk.lof [BX, ST] Y own'))))) := by kernel_rfl
end Go.Proofs.Ytdeleoaeegmhlaa
