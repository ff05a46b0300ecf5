import Derived.Test.YtmimchmdikjilaaOi
namespace Go.Proofs.Ytmimchmdikjilaa
open Go.AM Go.PL
set_option linter.unusedVariables false
theorem need_spec (p : Piece) (k want : Int) : 0 ≤ needP p k want ∧ needP p k want ≤ p.2.1.length ∧ (needP p k want < p.2.1.length → want ≤ sureP (dropP p (needP p k want).toNat) k) ∧ (needP p k want ≠ 0 → sureP (dropP p (needP p k want - 1).toNat) k < want) := by
  unfold needP
  have h1 := fidx_le p.2.1.length (fun n : Nat => decide (want ≤ sureP (dropP p n) k))
  generalize hF : (List.range p.2.1.length).findIdx (fun n : Nat => decide (want ≤ sureP (dropP p n) k)) = F at *
  refine ⟨by omega, by omega, fun h => ?_, fun h => ?_⟩
  · have := fidx_is (n := p.2.1.length) (p := fun n : Nat => decide (want ≤ sureP (dropP p n) k)) (by rw [hF]; omega)
    rw [hF] at this
    exact dt this
  · have := fidx_no (n := p.2.1.length) (p := fun n : Nat => decide (want ≤ sureP (dropP p n) k)) (i := F - 1) (by rw [hF]; omega)
    have := df this
    rw [show ((F : Int) - 1).toNat = F - 1 by omega]
    omega
theorem l5_nf (p : Piece) (k want : Int) : fnwp G1 6 7 (lawSp [PC, I, I]) (p, k, want) = (True ∧ ((!fewP p) = true → True ∧ true = true) ∧ ((!fewP p) = false → True ∧ ((!validP p
  k) = true → True ∧ true = true) ∧ ((!validP p k) = false → (smallP p ∧ orderP p) ∧ (decide (needP p k want < (0 : Int)) = true → false = true) ∧ (decide (needP p k want < (0 :
  Int)) = false → (decide ((↑p.snd.fst.length : Int) < needP p k want) = true → false = true) ∧ (decide ((↑p.snd.fst.length : Int) < needP p k want) = false → ((0 : Int) ≤ needP p
  k want ∧ needP p k want ≤ (↑p.snd.fst.length : Int)) ∧ (smallP (p.fst, List.take (p.snd.fst.length - (needP p k want).toNat) (List.drop (needP p k want).toNat p.snd.fst), ()) ∧
  orderP (p.fst, List.take (p.snd.fst.length - (needP p k want).toNat) (List.drop (needP p k want).toNat p.snd.fst), ())) ∧ ((!decide (want ≤ sureP (p.fst, List.take
  (p.snd.fst.length - (needP p k want).toNat) (List.drop (needP p k want).toNat p.snd.fst), ()) k)) = true → (decide (needP p k want < (↑p.snd.fst.length : Int)) = true → false =
  true) ∧ (decide (needP p k want < (↑p.snd.fst.length : Int)) = false → True ∧ (true = true → (decide (needP p k want = (0 : Int)) = true → true = true) ∧ (decide (needP p k want
  = (0 : Int)) = false → isI64 (needP p k want - (1 : Int)) ∧ ((0 : Int) ≤ needP p k want - (1 : Int) ∧ needP p k want - (1 : Int) ≤ (↑p.snd.fst.length : Int)) ∧ (smallP (p.fst,
  List.take (p.snd.fst.length - (needP p k want - (1 : Int)).toNat) (List.drop (needP p k want - (1 : Int)).toNat p.snd.fst), ()) ∧ orderP (p.fst, List.take (p.snd.fst.length -
  (needP p k want - (1 : Int)).toNat) (List.drop (needP p k want - (1 : Int)).toNat p.snd.fst), ())) ∧ decide (sureP (p.fst, List.take (p.snd.fst.length - (needP p k want - (1 :
  Int)).toNat) (List.drop (needP p k want - (1 : Int)).toNat p.snd.fst), ()) k < want) = true)) ∧ (true = false → false = true))) ∧ ((!decide (want ≤ sureP (p.fst, List.take
  (p.snd.fst.length - (needP p k want).toNat) (List.drop (needP p k want).toNat p.snd.fst), ()) k)) = false → True ∧ (true = true → (decide (needP p k want = (0 : Int)) = true →
  true = true) ∧ (decide (needP p k want = (0 : Int)) = false → isI64 (needP p k want - (1 : Int)) ∧ ((0 : Int) ≤ needP p k want - (1 : Int) ∧ needP p k want - (1 : Int) ≤
  (↑p.snd.fst.length : Int)) ∧ (smallP (p.fst, List.take (p.snd.fst.length - (needP p k want - (1 : Int)).toNat) (List.drop (needP p k want - (1 : Int)).toNat p.snd.fst), ()) ∧
  orderP (p.fst, List.take (p.snd.fst.length - (needP p k want - (1 : Int)).toNat) (List.drop (needP p k want - (1 : Int)).toNat p.snd.fst), ())) ∧ decide (sureP (p.fst, List.take
  (p.snd.fst.length - (needP p k want - (1 : Int)).toNat) (List.drop (needP p k want - (1 : Int)).toNat p.snd.fst), ()) k < want) = true)) ∧ (true = false → false = true))))))) :=
  by kernel_rfl
theorem sat_L5 : Sat bs.P 7 (lawSp [PC, I, I]) := by
  refine sat_nf (C := G1) ssG1 (fun x => l5_nf x.1 x.2.1 x.2.2) fun (⟨p, k, want⟩ : Piece × Int × Int) hk _ => ?_
  try dsimp only
  simp only [dropE]
  refine ⟨trivial, fun _ => ⟨trivial, trivial⟩, fun hf => ⟨trivial, fun _ => ⟨trivial, trivial⟩, fun hv => ?_⟩⟩
  have hV := vp_of (nf hv)
  have hF := few_of (nf hf)
  have hs := hV.small (by omega)
  have ho := hV.order
  obtain ⟨h1, h2, h3, h4⟩ := need_spec p k want
  have hsd := fun n => smallP_drop hs n
  have hod := fun n => orderP_drop ho n
  simp only [dropP] at hsd hod h3 h4
  generalize needP p k want = n at *
  have h5 : n ≠ 0 → isI64 (n - 1) ∧ (0 ≤ n - 1 ∧ n - 1 ≤ p.2.1.length) := fun h => ⟨i64s (by omega) (by omega), by omega, by omega⟩
  refine ⟨⟨hs, ho⟩, fun h => absurd (dt h) (by omega), fun _ => ⟨fun h => absurd (dt h) (by omega), fun _ => ⟨⟨h1, h2⟩, ⟨hsd _, hod _⟩, fun ha => ⟨fun hb => absurd (h3 (dt hb)) (ndt ha), fun hb => ?_⟩, fun ha => ?_⟩⟩⟩
  all_goals
    refine ⟨trivial, fun _ => ⟨fun _ => trivial, fun hn => ?_⟩, fun h => (by cases h)⟩
    have hn := df hn
    exact ⟨(h5 hn).1, (h5 hn).2, ⟨hsd _, hod _⟩, decide_eq_true (h4 hn)⟩
end Go.Proofs.Ytmimchmdikjilaa
