import Derived.Test.YtdeleoaeegmhlaaMZb
import Derived.Test.YtdeleoaeegmhlaaMRc
import Derived.Test.YtdeleoaeegmhlaaMYt
namespace Go.Proofs.Ytdeleoaeegmhlaa
open Go.AM Go.PL
set_option linter.unusedVariables false
attribute [local irreducible] fnwp fnwpG fnwpI
theorem vecOk_eq (v : List Int) : vecOk v = bvec v := by
  apply bool_is
  rw [bvec_iff]
  unfold vecOk vecB coordOk
  simp only [Bool.and_eq_true, List.all_eq_true, decide_eq_true_eq]
  constructor
  · rintro ⟨h1, h2, h3⟩
    exact ⟨fun i hi => h1 _ (Go.PL.getD_mem v 0 hi), h2, h3⟩
  · rintro ⟨h1, h2, h3⟩
    refine ⟨fun x hx => ?_, h2, h3⟩
    obtain ⟨i, hi, e⟩ := mem_getD 0 hx
    rw [← e]
    exact h1 i hi
theorem small_vec {v : List Int} (h : bvec v = true) : small 64 4000 v := by
  obtain ⟨h1, h2, h3⟩ := bvec_iff.1 h
  refine ⟨by omega, fun x hx => ?_⟩
  obtain ⟨i, hi, e⟩ := mem_getD 0 hx
  have := h1 i hi
  omega
theorem routesAll_ok (hs : Sat Try.prog 10 sanSp) : Sat Try.prog 6 (lawSp [DV, I, L, L, I]) := by
  have ss : SpecSound (YZ 60) := mkctx_sound ⟨sat_rfew, sat_rvalid 60, sat_rAlike, sat_rMetric, hs, sat_route 60, sat_home 60, sat_key, trivial⟩ trivial
  refine sat_nf (C := YZ 60) ss (fun x => routesAll_nf 60 x.1 x.2.1 x.2.2.1 x.2.2.2.1 x.2.2.2.2) fun (x : Dv × Int × List Int × List Int × Int) hk hp => ?_
  obtain ⟨d, m, v, w, q⟩ := x
  dsimp only
  refine ⟨rfl, fun _ => ⟨trivial, rfl⟩, fun c1 => ⟨deep_few c1, fun _ => ⟨trivial, rfl⟩, fun c2 => ⟨fun _ => ⟨trivial, rfl⟩, fun c3 => ⟨trivial, fun _ => ⟨trivial, rfl⟩, fun c4 => ⟨trivial, fun _ => ⟨trivial, rfl⟩, fun c5 => ⟨fun _ => ⟨trivial, rfl⟩, fun c6 => ⟨fun _ => ⟨trivial, rfl⟩, fun c7 => ?_⟩⟩⟩⟩⟩⟩⟩
  have g := good_of (nf c1) (nf c2)
  have hl := ndf c3
  have ha : alikeB v w = true := nf c4
  unfold alikeB at ha
  simp only [Bool.and_eq_true, decide_eq_true_eq, vecOk_eq] at ha
  obtain ⟨hv, hw, hlw⟩ := ha
  have hm : isM m = true := by have := nf c5; exact this
  have hm' := isM_iff.1 hm
  obtain ⟨r1, ⟨t, r2⟩, r3⟩ := g.route hm hv hl (by have := df c6; omega : 0 ≤ q)
  have hin := r3 w hw hlw.symm
  obtain ⟨k0, k1, _⟩ := g.home hv hl
  have lf := g.few
  rw [← areas_len] at lf
  have hlen : (routeN 60 d m v q).length ≤ 64 := by
    have h1 := (sortK_perm (rRun (areasN 60 d) m v q (areasN 60 d).length).2 (rRun (areasN 60 d) m v q (areasN 60 d).length).1).length_eq
    have h2 := rRun_len (areasN 60 d) m v q (areasN 60 d).length
    have h3 : (routeN 60 d m v q).length = (rRun (areasN 60 d) m v q (areasN 60 d).length).1.length := h1
    omega
  have hpos : 0 < (routeN 60 d m v q).length := by rw [r2]; simp
  have hfirst : (routeN 60 d m v q).getD 0 0 = homeN 60 d v := by rw [r2]; rfl
  have inner : ∀ (b : Bool) (i : Int), 0 ≤ i → i < (routeN 60 d m v q).length → ∀ Pn : Prop, Pn → ((0 : Int) ≤ 0 ∧ 0 ≤ i ∧ i ≤ ((routeN 60 d m v q).length : Int)) ∧ ∃ (I_1 : Int → Prop), ∃ (μ_1 : Int → Nat), I_1 0 ∧ ∀ x : Int, I_1 x →
      (decide (x < (((routeN 60 d m v q).drop 0).take (i.toNat - 0)).length) = true → (0 ≤ x ∧ x < (((routeN 60 d m v q).drop 0).take (i.toNat - 0)).length) ∧
        (decide ((((routeN 60 d m v q).drop 0).take (i.toNat - 0)).getD x.toNat 0 = (routeN 60 d m v q).getD i.toNat 0) = true → false = true) ∧
        (decide ((((routeN 60 d m v q).drop 0).take (i.toNat - 0)).getD x.toNat 0 = (routeN 60 d m v q).getD i.toNat 0) = false → isI64 (x + 1) ∧ I_1 (x + 1) ∧ μ_1 (x + 1) < μ_1 x)) ∧
      (decide (x < (((routeN 60 d m v q).drop 0).take (i.toNat - 0)).length) = false → Pn) := by
    intro b i i0 i1 Pn hP
    have el : ((((routeN 60 d m v q).drop 0).take (i.toNat - 0)).length : Int) = i := by
      rw [List.drop_zero, Nat.sub_zero, List.length_take]; omega
    refine ⟨⟨by omega, i0, by omega⟩, fun x => 0 ≤ x, fun x => (i - x).toNat, by omega, fun x hx => ⟨fun c => ⟨⟨hx, dt c⟩, fun h => ?_, fun h => ⟨i64s (by have := dt c; omega) (by have := dt c; omega), by omega, by have := dt c; dsimp only; omega⟩⟩, fun _ => hP⟩⟩
    have c := dt c
    rw [el] at c
    have h := dt h
    exfalso
    rw [List.drop_zero, Nat.sub_zero, List.getD_eq_getElem?_getD, List.getElem?_take, if_pos (by omega), ← List.getD_eq_getElem?_getD] at h
    have hx' : x.toNat < (routeN 60 d m v q).length := by omega
    have hi' : i.toNat < (routeN 60 d m v q).length := by omega
    rw [List.getD_eq_getElem?_getD, List.getElem?_eq_getElem hx', List.getD_eq_getElem?_getD, List.getElem?_eq_getElem hi'] at h
    have := (List.pairwise_iff_getElem.1 r1) x.toNat i.toNat hx' hi' (by omega)
    exact this h
  refine ⟨g.pre, fun s => 0 ≤ s.2 ∧ s.2 ≤ (routeN 60 d m v q).length ∧ (s.1 = true ↔ homeN 60 d w ∈ (routeN 60 d m v q).take s.2.toNat), fun s => (((routeN 60 d m v q).length : Int) - s.2).toNat, ⟨by dsimp only; omega, by dsimp only; omega, by simp⟩, fun s hI => ?_⟩
  obtain ⟨b, i⟩ := s
  obtain ⟨h0, h1, h2⟩ := hI
  dsimp only at h0 h1 h2 ⊢
  refine ⟨fun c => ?_, fun c => ?_⟩
  · have c := dt c
    have ts := take_step (routeN 60 d m v q) 0 h0 c
    refine ⟨⟨h0, c⟩, fun hb => ?_, fun hb => ⟨g.pre, ?_⟩⟩
    · exact inner true i h0 c _ ⟨i64s (by omega) (by omega), ⟨by omega, by omega, ⟨fun _ => by rw [ts]; exact List.mem_append_left _ (h2.1 hb), fun _ => rfl⟩⟩, by omega⟩
    · refine inner b i h0 c _ ⟨i64s (by omega) (by omega), ⟨by omega, by omega, ?_⟩, by omega⟩
      rw [ts, List.mem_append, List.mem_singleton, decide_eq_true_eq]
      constructor
      · intro h; exact .inr h.symm
      · rintro (h | h)
        · rw [h2.2 h] at hb; cases hb
        · exact h.symm
  · have c := df c
    have hi : i.toNat = (routeN 60 d m v q).length := by omega
    rw [hi, List.take_length] at h2
    have hk' : keyS m v w ≤ q → b = true := fun h => h2.2 (hin h)
    have fin : True ∧ true = true ∧ decide ((0 : Int) < ((routeN 60 d m v q).length : Int)) = true ∧ ((0 : Int) ≤ 0 ∧ (0 : Int) < ((routeN 60 d m v q).length : Int)) ∧ preA 60 d ∧ decide ((routeN 60 d m v q).getD 0 0 = homeN 60 d v) = true :=
      ⟨trivial, rfl, decide_eq_true (by omega), ⟨by omega, by omega⟩, g.pre, decide_eq_true hfirst⟩
    refine ⟨⟨hm'.1, hm'.2, small_vec hv, small_vec hw, hlw⟩, fun h => ⟨fun h' => ?_, fun _ => fin⟩, fun _ => fin⟩
    rw [hk' (dt h)] at h'
    cases h'
end Go.Proofs.Ytdeleoaeegmhlaa
