import Derived.Test.YtjppchomonpfgaaDk
import Derived.Test.YtjppchomonpfgaaDm
namespace Go.Proofs.Ytjppchomonpfgaa
open Go.AM Go.PL
set_option linter.unusedVariables false
def tE7 : List (FuncId × FSpec) := (32, rTrainSp) :: tE6
def hintL3 (f : FuncId) : Hint := ⟨fun _ => [], fun r => bif memN r [10] then .yes else .split, fun _ => .split, fun _ => 0⟩
noncomputable def EL3 : Ctx := mkctx bs tE7 [] hintL3
theorem law3_nf (l : List (List Int)) (c : List Int) (w m : Int) : fnwp EL3 6 8 (lawSp [LL, L, I, I]) (l, c, w, m) = (True ∧ ((!allB l (40 : Int)) = true → True ∧ true = true) ∧
  ((!allB l (40 : Int)) = false → (decide ((9 : Int) < (↑c.length : Int)) = true → True ∧ true = true) ∧ (decide ((9 : Int) < (↑c.length : Int)) = false → True ∧ True ∧ ((!decide
  ((trainBk l c w).snd = (trainBk l c w).snd)) = true → false = true) ∧ ((!decide ((trainBk l c w).snd = (trainBk l c w).snd)) = false → True ∧ ((!decide (((trainBk l c w).fst.fst,
  (trainBk l c w).fst.snd.fst, (trainBk l c w).fst.snd.snd.fst, ()) = ((trainBk l c w).fst.fst, (trainBk l c w).fst.snd.fst, (trainBk l c w).fst.snd.snd.fst, ()))) = true → false =
  true) ∧ ((!decide (((trainBk l c w).fst.fst, (trainBk l c w).fst.snd.fst, (trainBk l c w).fst.snd.snd.fst, ()) = ((trainBk l c w).fst.fst, (trainBk l c w).fst.snd.fst, (trainBk l
  c w).fst.snd.snd.fst, ()))) = false → ((!decide ((trainBk l c w).snd = (0 : Int))) = true → True ∧ true = true) ∧ ((!decide ((trainBk l c w).snd = (0 : Int))) = false → True ∧
  ((!(decide ((1 : Int) ≤ m) && decide (m ≤ (3 : Int)))) = true → True ∧ true = true) ∧ ((!(decide ((1 : Int) ≤ m) && decide (m ≤ (3 : Int)))) = false → True ∧ true = true ∧ True ∧
  decide (checkS ((trainBk l c w).fst.fst, (trainBk l c w).fst.snd.fst, (trainBk l c w).fst.snd.snd.fst, ()) = (0 : Int)) = true ∧ (∀ (k : Nat), k < l.length → rightB ((trainBk l c
  w).fst.fst, (trainBk l c w).fst.snd.fst, (trainBk l c w).fst.snd.snd.fst, ()) m (l.getD k []) (l.getD k []) = true) ∧ (∀ (k : Nat), k < l.length → rightB ((trainBk l c
  w).fst.fst, (trainBk l c w).fst.snd.fst, (trainBk l c w).fst.snd.snd.fst, ()) m (l.getD k []) (l.getD k []) = true) ∧ decide (worstS ((trainBk l c w).fst.fst, (trainBk l c
  w).fst.snd.fst, (trainBk l c w).fst.snd.snd.fst, ()) m l = worstS ((trainBk l c w).fst.fst, (trainBk l c w).fst.snd.fst, (trainBk l c w).fst.snd.snd.fst, ()) m l) = true)))))))
  := by kernel_rfl
theorem satE7 : AllSat bs.P tE7 := ⟨sat_rTrain, satE6⟩
theorem ssEL3 : SpecSound EL3 := mkctx_sound satE7 trivial
theorem sat_law3 : Sat Try.prog 8 (lawSp [LL, L, I, I]) := by
  refine sat_nf (C := EL3) ssEL3 (fun x => law3_nf x.1 x.2.1 x.2.2.1 x.2.2.2) fun (⟨l, c, w, m⟩ : List (List Int) × List Int × Int × Int) hk _ => ?_
  dsimp only
  have r : ∀ {p : Prop} [Decidable p] {q : Prop}, p → (!decide p) = true → q := fun h c => absurd h (ndt c)
  refine ⟨trivial, fun _ => ⟨trivial, rfl⟩, fun _ => ⟨fun _ => ⟨trivial, rfl⟩, fun _ => ⟨trivial, trivial, r rfl, fun _ => ⟨trivial, r rfl, fun _ => ⟨fun _ => ⟨trivial, rfl⟩, fun h => ⟨trivial, fun _ => ⟨trivial, rfl⟩, fun hm => ?_⟩⟩⟩⟩⟩⟩
  have h := ndf h
  have hm : 1 ≤ m ∧ m ≤ 3 := by simpa using nf hm
  have hb := train_book h
  have hr := fun (k : Nat) (hk : k < l.length) => train_right h hm hk
  refine ⟨trivial, rfl, trivial, decide_eq_true ?_, hr, hr, decide_eq_true rfl⟩
  unfold checkS
  rw [if_pos hb]
end Go.Proofs.Ytjppchomonpfgaa
