import Derived.Test.YtdeleoaeegmhlaaMYo
import Derived.Test.YtdeleoaeegmhlaaMYp
namespace Go.PL
open Go.AM
set_option linter.unusedVariables false
def okVB (n : Nat) (d : Dv) : Bool := decide (1 ≤ d.1) && (decide (d.1 ≤ 32) && (decide (1 ≤ d.2.1) && (decide (d.2.1 ≤ 1073741824) && (deepB n d.2.2.1 && (decide ((regsN n d.2.2.1 (wholeB d.1)).length ≤ 64) && (regsN n d.2.2.1 (wholeB d.1)).all fun p => decide (p.1.1.length ≠ 0))))))
theorem okVB_ok {n : Nat} {d : Dv} (h : okVB n d = true) : okV n d := by
  unfold okVB at h
  simp only [Bool.and_eq_true, decide_eq_true_eq, List.all_eq_true] at h
  exact ⟨h.1, h.2.1, h.2.2.1, h.2.2.2.1, deepB_ok h.2.2.2.2.1, h.2.2.2.2.2.1, h.2.2.2.2.2.2⟩
theorem okV_c : okV 10 cDv := okVB_ok (by kernel_rfl)
end Go.PL
namespace Go.Proofs.Ytdeleoaeegmhlaa
open Go.AM Go.PL
set_option linter.unusedVariables false
attribute [local irreducible] fnwp fnwpG fnwpI
theorem sat_vvalid (n : Nat) : Sat Try.prog 30 (validVSp n) := by
  refine sat_nf (C := YV n) (mkctxI_sound satY1 trivial ⟨sat_reg n, trivial⟩) (fun d => valid_nf n d) fun (d : Dv) hk hp => ?_
  obtain ⟨h1, h2, h3, h4, hd, hn, ho⟩ : okV n d := hp
  refine ⟨fun c => absurd (dt c) (by omega), fun _ => ⟨fun c => absurd (dt c) (by omega), fun _ => ⟨fun c => absurd (dt c) (by omega), fun _ => ⟨fun c => absurd (dt c) (by omega), fun _ => ⟨⟨h1, by omega⟩, ⟨hd, even_whole (by omega)⟩,
    fun xs _ v => v = xs.length, rfl, fun xs y rest e own z v hv => ?_, fun own z v hv => ?_⟩⟩⟩⟩⟩
  · have hl : xs.length + 1 ≤ 64 := by
      rw [e, List.length_append, List.length_cons] at hn
      omega
    have hy : y.1.1.length ≠ 0 := ho y (by rw [e]; simp)
    refine ⟨i64s (by omega) (by omega), fun c => absurd (dt c) (by omega), fun _ => ⟨fun c => absurd (dt c) (by omega), fun _ => ?_⟩⟩
    have hv : v = xs.length := hv
    show v + 1 = ((xs ++ [y]).length : Int)
    rw [hv, List.length_append]
    rfl
  · exact decide_eq_true (by omega)
theorem bytesS : bs.P.bytesOf 25 = 64 := by kernel_rfl
theorem roomS {n : Nat} (h : n ≤ 1000000) : roomP YS 25 n := by
  have hb : YS.P.bytesOf 25 = 64 := bytesS
  unfold roomP
  rw [hb]
  omega
theorem ssYS : SpecSound YS := mkctx_sound ⟨sat_good, sat_cuts, satG_cln.toData, sat_areasP 10, trivial⟩ trivial
theorem i64c {n : Int} (h : decide (-9223372036854775808 ≤ n ∧ n ≤ 9223372036854775807) = true) : isI64 n := i64_iff.2 (of_decide_eq_true h)
attribute [local irreducible] roomP isI64 preA evenB
theorem even_c {b : Box} (h : (decide (b.1.length = b.2.1.length) && decide (b.1.length ≤ 1000)) = true) : evenB b := by
  simp only [Bool.and_eq_true, decide_eq_true_eq] at h
  unfold evenB
  exact h
theorem sat_newC : Sat Try.prog 63 newCSp := fnwp_sat ssYS 38 _ _ fun x _ hp => by
  have hp : x = (2, [1]) := hp
  subst hp
  refine (new_nf 0).mpr ?_
  repeat' first | exact i64c rfl | exact roomS (by decide) | (exact pre_a) | exact rfl | (exact even_c (by kernel_rfl)) | apply And.intro
  all_goals first | trivial | decide
theorem sat_cutC : Sat Try.prog 17 cutCSp := fnwp_sat ssYS 38 _ _ fun x _ hp => by
  rcases hp with hp | hp <;> subst hp
  · refine (cut1_nf 0).mpr ?_
    repeat' first | exact i64c rfl | exact roomS (by decide) | (exact pre_a) | (exact pre_b) | exact rfl | (exact even_c (by kernel_rfl)) | apply And.intro
    all_goals first | trivial | decide
  · refine (cut2_nf 0).mpr ?_
    repeat' first | exact i64c rfl | exact roomS (by decide) | (exact pre_a) | (exact pre_b) | exact rfl | (exact even_c (by kernel_rfl)) | apply And.intro
    all_goals first | trivial | decide
theorem sat_joinC : Sat Try.prog 20 joinCSp := fnwp_sat ssYS 38 _ _ fun x _ hp => by
  rcases hp with hp | hp <;> subst hp
  · refine (join1_nf 0).mpr ?_
    repeat' first | exact i64c rfl | exact roomS (by decide) | (exact pre_c) | exact rfl | (exact even_c (by kernel_rfl)) | apply And.intro
    all_goals first | trivial | decide
  · refine (join2_nf 0).mpr ?_
    repeat' first | exact i64c rfl | exact roomS (by decide) | (exact pre_c) | exact rfl | (exact even_c (by kernel_rfl)) | apply And.intro
    all_goals first | trivial | decide
end Go.Proofs.Ytdeleoaeegmhlaa
