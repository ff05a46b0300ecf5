import Derived.Test.YtdeleoaeegmhlaaGreatMEd
import Derived.Test.YtdeleoaeegmhlaaGreatMEe
import Derived.Test.YtdeleoaeegmhlaaGreatMRc
import Derived.Test.YtdeleoaeegmhlaaGreatMYw
namespace Go.Proofs.YtdeleoaeegmhlaaGreat
open Go.AM Go.PL
set_option linter.unusedVariables false
attribute [local irreducible] fnwp fnwpG fnwpI
theorem smallK_of {d : Dv} (g : PL.Good d) {m : Int} {v : List Int} (hm : isM m = true) (hv : bvec v = true) (hl : (v.length : Int) = d.1) : smallK (areasN 60 d) m v := fun i hi => by
  have hs := (g.sub hi).1
  have hw : (wholeB d.1).1.length = d.1.toNat := List.length_replicate
  have hb : basked m ((areasN 60 d).getD i dAr).1 v = true := basked_iff.2 ⟨hm, hs.1, hv, by have := hs.2.1; omega⟩
  unfold nearS
  rw [if_pos hb]
theorem law_ok : Sat Tryz.prog 3 (lawSp [DV, DV, I, L, I]) := by
  have hc : SpecSound (QL 60) := mkctx_sound ⟨sat_rfew, sat_rvalid 60, sat_val4, sat_rMet, sat_sanity, sat_home 60, sat_rHome 60, sat_route 60, sat_rRoute 60, sat_moves 60, sat_rMoves 60, sat_rSam, sat_sameM, trivial⟩ trivial
  refine sat_nf (C := QL 60) hc (fun x => law_nf 60 x.1 x.2.1 x.2.2.1 x.2.2.2.1 x.2.2.2.2) fun (x : Dv × Dv × Int × List Int × Int) hk hp => ?_
  obtain ⟨a, b, m, v, w⟩ := x
  dsimp only
  have deep : ∀ {d : Dv}, (!fewD 60 d) = false → deepN 60 d.2.2.1 := fun h => parts_deep 60 _ _ (of_decide_eq_true (nf h))
  refine ⟨rfl, fun _ => ⟨trivial, rfl⟩, fun c1 => ⟨rfl, fun _ => ⟨trivial, rfl⟩, fun c2 => ⟨deep c1, fun _ => ⟨trivial, rfl⟩, fun c3 => ⟨deep c2, fun _ => ⟨trivial, rfl⟩, fun c4 => ⟨fun _ => ⟨trivial, rfl⟩, fun c5 => ⟨fun _ => ⟨trivial, rfl⟩, fun c6 => ⟨trivial, fun _ => ⟨trivial, rfl⟩, fun c7 => ⟨trivial, fun _ => ⟨trivial, rfl⟩, fun c8 => ⟨fun _ => ⟨trivial, rfl⟩, fun c9 => ⟨fun _ => ⟨trivial, rfl⟩, fun c10 => ?_⟩⟩⟩⟩⟩⟩⟩⟩⟩⟩
  have ga := good_of (nf c1) (nf c3)
  have gb := good_of (nf c2) (nf c4)
  have hl := ndf c6
  have ra : preR 60 a := ⟨ga.pre, ga.val⟩
  have rb : preR 60 b := ⟨gb.pre, gb.val⟩
  have hm := ga.preM gb
  exact ⟨trivial, rfl, ga.pre, ra, decide_eq_true rfl, ga.pre, ⟨ra, smallK_of ga (nf c8) (nf c7) hl⟩, trivial, decide_eq_true rfl, hm, ⟨hm, ra, rb⟩, trivial, decide_eq_true rfl⟩
end Go.Proofs.YtdeleoaeegmhlaaGreat
