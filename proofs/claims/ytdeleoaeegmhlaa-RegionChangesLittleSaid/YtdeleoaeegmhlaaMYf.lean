import Derived.Test.YtdeleoaeegmhlaaMYe
import Derived.Test.YtdeleoaeegmhlaaMYd2
namespace Go.PL
open Go.AM
set_option linter.unusedVariables false
theorem leafOk_iff {x : Sp} : leafOk x = true ↔ x.subs.length = 0 ∧ axisOf x = 0 ∧ atOf x = 0 ∧ goodS (offs x) = true := by
  unfold leafOk
  simp only [Bool.and_eq_true, decide_eq_true_eq]
theorem forkOk_iff {x : Sp} {b : Box} : forkOk x b = true ↔ x.subs.length = 2 ∧ (offs x).length = 0 ∧ cutsB b (axisOf x) (atOf x) = true := by
  unfold forkOk
  simp only [Bool.and_eq_true, decide_eq_true_eq]
theorem regs1_leaf {n : Nat} {x : Sp} {b : Box} (h : leafOk x = true) : regs1 n x b = [(b, x)] := by
  show (if leafOk x then _ else _) = _
  rw [if_pos h]
theorem regs1_bad {n : Nat} {x : Sp} {b : Box} (h : ¬ leafOk x = true) (h' : ¬ forkOk x b = true) : regs1 n x b = [(noBox, x)] := by
  show (if leafOk x then _ else if forkOk x b then _ else _) = _
  rw [if_neg h, if_neg h']
theorem told {ys : List Ty} {Y : Proto ys} {l : List (tyOf ys).den} {e : (tyOf ys).den} (hY : Y.2 = l) (h : l = [e]) : (∃ rest, Y.2 = [] ++ e :: rest) ∧ ∀ own : Nat → Prop, ((∃ own' : Nat → Prop, Blk.log ys Y own ([] ++ [e]) = Blk.log ys Y own' l) ∨ ∃ own' : Nat → Prop, Blk.log ys Y own ([] ++ [e]) = Blk.lof ys Y own') ∧
    ((∃ own' : Nat → Prop, Blk.lof ys Y own = Blk.log ys Y own' l) ∨ ∃ own' : Nat → Prop, Blk.lof ys Y own = Blk.lof ys Y own') :=
  ⟨⟨[], by rw [hY, h]; rfl⟩, fun own => ⟨.inl ⟨own, by rw [h]; rfl⟩, .inr ⟨own, rfl⟩⟩⟩
end Go.PL
namespace Go.Proofs.Ytdeleoaeegmhlaa
open Go.AM Go.PL
set_option linter.unusedVariables false
attribute [local irreducible] fnwp fnwpG fnwpI
theorem satY1 : AllSat bs.P tY1 := ⟨sat_good, sat_cuts, sat_halves, sat_whole, satG_cln.toData, trivial⟩
theorem ssYA : SpecSound YA := mkctx_sound satY1 trivial
theorem sat_regA (n : Nat) : SatI Try.prog 64 (regIA n) := by
  refine fnwpI_sat (C := YA) ssYA 6 _ _ fun (x' : Sp × Box) hk hp => ?_
  obtain ⟨x, b⟩ := x'
  obtain ⟨⟨hd, he⟩, h0⟩ : (deepN (n + 1) x ∧ evenB b) ∧ x.subs.length = 0 := hp
  rw [regA_nf]
  intro Y own hY
  have hf : ¬ forkOk x b = true := fun h => by have := (forkOk_iff.1 h).1; omega
  have bad := fun (h : ¬ leafOk x = true) => told hY (regs1_bad h hf)
  refine ⟨fun c0 => ⟨fun c1 => ⟨fun c2 => ⟨trivial, fun c3 => told hY (regs1_leaf (leafOk_iff.2 ⟨h0, dt c1, dt c2, c3⟩)), fun c3 => ?_⟩, fun c2 => ?_⟩, fun c1 => ?_⟩, fun c0 => absurd h0 (by have := df c0; omega)⟩
  · have hb := bad fun h => by have := (leafOk_iff.1 h).2.2.2; unfold offs at this; rw [c3] at this; cases this
    exact ⟨fun _ => hb, fun c => absurd h0 (by have := ndf c; omega)⟩
  · have hb := bad fun h => df c2 (leafOk_iff.1 h).2.2.1
    exact ⟨fun _ => hb, fun c => absurd h0 (by have := ndf c; omega)⟩
  · have hb := bad fun h => df c1 (leafOk_iff.1 h).2.1
    exact ⟨fun _ => hb, fun c => absurd h0 (by have := ndf c; omega)⟩
end Go.Proofs.Ytdeleoaeegmhlaa
