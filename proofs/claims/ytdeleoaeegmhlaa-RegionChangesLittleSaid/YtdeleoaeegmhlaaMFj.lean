import Derived.Test.YtdeleoaeegmhlaaMFh
import Derived.Test.YtdeleoaeegmhlaaMYw
namespace Go.PL
open Go.AM
set_option linter.unusedVariables false
theorem ins_at {α : Type} (l : List α) (y z dd : α) {i : Nat} (hi : i < l.length) :
    (∀ j, j < i → (l.take i ++ [y, z] ++ l.drop (i + 1)).getD j dd = l.getD j dd) ∧ (l.take i ++ [y, z] ++ l.drop (i + 1)).getD i dd = y ∧ (l.take i ++ [y, z] ++ l.drop (i + 1)).getD (i + 1) dd = z ∧
    (∀ j, i < j → (l.take i ++ [y, z] ++ l.drop (i + 1)).getD (j + 1) dd = l.getD j dd) ∧ (l.take i ++ [y, z] ++ l.drop (i + 1)).length = l.length + 1 := by
  have ht : (l.take i).length = i := by rw [List.length_take]; omega
  refine ⟨fun j hj => ?_, ?_, ?_, fun j hj => ?_, ?_⟩
  · rw [List.append_assoc, List.getD_eq_getElem?_getD, List.getElem?_append_left (by omega), List.getElem?_take, if_pos hj, ← List.getD_eq_getElem?_getD]
  · rw [List.append_assoc, List.getD_eq_getElem?_getD, List.getElem?_append_right (by omega), ht, Nat.sub_self]
    rfl
  · rw [List.append_assoc, List.getD_eq_getElem?_getD, List.getElem?_append_right (by omega), ht, Nat.add_sub_cancel_left]
    rfl
  · rw [List.getD_eq_getElem?_getD, List.getElem?_append_right (by rw [List.length_append, ht, List.length_cons, List.length_cons, List.length_nil]; omega), List.length_append, ht, List.length_cons, List.length_cons, List.length_nil, List.getElem?_drop, List.getD_eq_getElem?_getD]
    congr 2
    omega
  · rw [List.length_append, List.length_append, ht, List.length_drop]
    simp only [List.length_cons, List.length_nil]
    omega
def cutD (d : Dv) (p a t : Int) (o : List Int) : Dv := (d.1, d.2.1 + 1, cutT 60 p a t o d.2.2.1 0, ())
theorem good_61 {d : Dv} (g : Good d) : GoodN 61 d ∧ areasN 61 d = areasN 60 d := by
  have e : regsN 61 d.2.2.1 (wholeB d.1) = regsN 60 d.2.2.1 (wholeB d.1) := regsN_deep g.deep (by omega)
  exact ⟨⟨g.d1, g.d2, deep_le g.deep (by omega), validT_le g.val (by omega), by rw [e]; exact g.few⟩, by unfold areasN; rw [e]⟩
/-- A cut that is accepted. -/
structure Cutted (d : Dv) (p a t : Int) (o : List Int) : Prop where
  good : GoodN 61 (cutD d p a t o)
  areas : areasN 61 (cutD d p a t o) = (areasN 60 d).take p.toNat ++ [(lowB ((areasN 60 d).getD p.toNat dAr).1 a t, ((areasN 60 d).getD p.toNat dAr).2.1, ()), (highB ((areasN 60 d).getD p.toNat dAr).1 a t, o, ())] ++ (areasN 60 d).drop (p.toNat + 1)
  back : joinT 61 p (cutT 60 p a t o d.2.2.1 0) 0 = d.2.2.1 ∧ foundT 61 p (cutT 60 p a t o d.2.2.1 0) 0 = true
theorem cutted {d : Dv} {p a t : Int} {o : List Int} (g : Good d) (h0 : 0 ≤ p) (h1 : p < (areasN 60 d).length) (hc : cutsB ((areasN 60 d).getD p.toNat dAr).1 a t = true) (ho : goodS o = true) (hl : (areasN 60 d).length < 64) : Cutted d p a t o := by
  have al := areas_len 60 d
  have ll := leavesN_len g.val
  obtain ⟨q, hq, e, gq⟩ := areas_at (n := 60) (d := d) (i := p.toNat) (by omega)
  have eq : (regsN 60 d.2.2.1 (wholeB d.1)).getD p.toNat dRg = q := by
    rw [List.getD_eq_getElem?_getD, gq]; rfl
  have hc' : cutsB ((regsN 60 d.2.2.1 (wholeB d.1)).getD (p - 0).toNat dRg).1 a t = true := by
    rw [Int.sub_zero, eq]
    rw [e] at hc
    exact hc
  obtain ⟨v, r⟩ := (regs_cut (p := p) (a := a) (t := t) (o := o) (c := 0) g.val ho).2 ⟨h0, by rw [ll]; omega⟩ hc'
  rw [Int.sub_zero] at r
  have ea : areasN 61 (cutD d p a t o) = (areasN 60 d).take p.toNat ++ [(lowB ((areasN 60 d).getD p.toNat dAr).1 a t, ((areasN 60 d).getD p.toNat dAr).2.1, ()), (highB ((areasN 60 d).getD p.toNat dAr).1 a t, o, ())] ++ (areasN 60 d).drop (p.toNat + 1) := by
    have : areasN 61 (cutD d p a t o) = (regsN 61 (cutT 60 p a t o d.2.2.1 0) (wholeB d.1)).map areaOf := rfl
    rw [this, r]
    unfold insR
    rw [eq, e]
    unfold areasN
    rw [List.map_append, List.map_append, List.map_take, List.map_drop]
    rfl
  have jc := join_cut (p := p) (a := a) (t := t) (o := o) (c := 0) (binT_of g.val) h0 (by rw [ll]; omega)
  refine ⟨⟨g.d1, g.d2, valid_deep v, v, ?_⟩, ea, jc.1, jc.2.1⟩
  have hn := (ins_at (areasN 60 d) (lowB ((areasN 60 d).getD p.toNat dAr).1 a t, ((areasN 60 d).getD p.toNat dAr).2.1, ()) (highB ((areasN 60 d).getD p.toNat dAr).1 a t, o, ()) dAr (i := p.toNat) (by omega)).2.2.2.2
  rw [← ea, areas_len] at hn
  have : (regsN 61 (cutD d p a t o).2.2.1 (wholeB (cutD d p a t o).1)).length = (areasN 60 d).length + 1 := hn
  omega
end Go.PL
namespace Go.Proofs.Ytdeleoaeegmhlaa
open Go.AM Go.PL
set_option linter.unusedVariables false
attribute [local irreducible] fnwp fnwpG fnwpI fnwpH
theorem cutRes_ok {d : Dv} {p a t : Int} {o : List Int} (h : (cutRes 60 d p a t o).2 = 0) :
    0 ≤ p ∧ p < (areasN 60 d).length ∧ cutsB ((areasN 60 d).getD p.toNat dAr).1 a t = true ∧ goodS o = true ∧ (areasN 60 d).length < 64 ∧ d.2.1 < 1073741824 ∧ cutRes 60 d p a t o = (cutD d p a t o, 0) := by
  unfold cutRes at h ⊢
  split at h
  · cases h
  · rename_i h1
    rw [if_neg h1]
    split at h
    · cases h
    · rename_i h2
      rw [if_neg h2]
      split at h
      · cases h
      · rename_i h3
        rw [if_neg h3]
        split at h
        · cases h
        · rename_i h4
          rw [if_neg h4]
          refine ⟨by omega, by omega, ?_, ?_, by omega, by omega, rfl⟩
          · cases hc : cutsB ((areasN 60 d).getD p.toNat dAr).1 a t
            · exact absurd (.inl hc) h2
            · rfl
          · cases hc : goodS o
            · exact absurd (.inr hc) h2
            · rfl
theorem satFi : AllSat bs.P tFi := ⟨sat_rfew, sat_rvalid 60, sat_val4, sat_sanity, sat_cutF 60, sat_home 61, sat_areasP 61, sat_joinF 61, sat_sameB, sat_rSam, sat_sameT 61, trivial⟩
theorem law_ok : Sat Try.prog 5 (lawSp [DV, I, I, I, L, L]) := by
  refine sat_nf (C := FL) (mkctx_sound satFi trivial) (fun x => law_nf x.1 x.2.1 x.2.2.1 x.2.2.2.1 x.2.2.2.2.1 x.2.2.2.2.2) fun (x : Dv × Int × Int × Int × List Int × List Int) hk hp => ?_
  obtain ⟨d, p, a, t, o, v⟩ := x
  dsimp only
  have deep : ∀ {d : Dv}, (!fewD 60 d) = false → deepN 60 d.2.2.1 := fun h => parts_deep 60 _ _ (of_decide_eq_true (nf h))
  simp only [eta]
  refine ⟨trivial, fun _ => ⟨trivial, trivial⟩, fun c1 => ⟨deep c1, fun _ => ⟨trivial, trivial⟩, fun c2 => ⟨fun _ => ⟨trivial, trivial⟩, fun c3 => ⟨fun _ => ⟨trivial, trivial⟩, fun c4 => ⟨trivial, fun _ => ⟨trivial, trivial⟩, fun c5 => ⟨good_of (nf c1) (nf c2), fun _ => ⟨trivial, trivial⟩, fun c6 => ?_⟩⟩⟩⟩⟩⟩
  have g := good_of (nf c1) (nf c2)
  have hl := ndf c4
  have hv := nf c5
  obtain ⟨p0, p1, pc, po, pn, pv, pe⟩ := cutRes_ok (ndf c6)
  obtain ⟨v1, v2⟩ : (-9223372036854775808 : Int) ≤ d.2.1 ∧ d.2.1 ≤ 9223372036854775807 := hk.1.2.1
  have K := cutted g p0 p1 pc po pn
  obtain ⟨g1, ea⟩ := good_61 g
  have ecd : (((cutRes 60 d p a t o).1.1, (cutRes 60 d p a t o).1.2.1, (cutRes 60 d p a t o).1.2.2.1, ()) : Dv) = cutD d p a t o := by rw [pe]
  rw [ecd, pe, ea]
  have h1 := g1.home hv hl
  have h2 := K.good.home hv hl
  rw [ea] at h1
  obtain ⟨k0, k1, k2⟩ := h1
  obtain ⟨m0, m1, m2⟩ := h2
  have ins := ins_at (areasN 60 d) (lowB ((areasN 60 d).getD p.toNat dAr).1 a t, ((areasN 60 d).getD p.toNat dAr).2.1, ()) (highB ((areasN 60 d).getD p.toNat dAr).1 a t, o, ()) dAr (i := p.toNat) (by omega)
  rw [← K.areas] at ins
  obtain ⟨i1, i2, i3, i4, i5⟩ := ins
  have only := fun (j : Nat) (hj : j < (areasN 61 (cutD d p a t o)).length) (hb : bhas ((areasN 61 (cutD d p a t o)).getD j dAr).1 v = true) => K.good.only (i := (homeN 61 (cutD d p a t o) v).toNat) (j := j) (by omega) hj m2 hb
  have hbi := (g.sub (i := p.toNat) (by omega)).1.1
  have hci := cutsB_iff.1 pc
  have ha : ((0 : Int) ≤ a ∧ a < (v.length : Int)) := by
    have := (g.sub (i := p.toNat) (by omega)).1.2.1
    have hw : (wholeB d.1).1.length = d.1.toNat := List.length_replicate
    omega
  have hd : (areasN 61 d).getD (homeN 61 d v).toNat dAr = (areasN 60 d).getD (homeN 61 d v).toNat dAr := by rw [ea]
  have iv : isI64 (d.2.1 + 1) := by unfold isI64; omega
  refine ⟨g1.pre, K.good.pre, g1.pre, K.good.pre, decide_eq_false (by omega), decide_eq_false (by omega), decide_eq_false (by omega), decide_eq_false (by omega), i64s (by omega) (by omega), ?_, fun c7 => ?_, fun c7 => ?_⟩
  · rw [decide_eq_true (by omega)]; rfl
  · have c7 := ndt c7
    have key : (areasN 60 d).getD (homeN 61 d v).toNat dAr = (areasN 61 (cutD d p a t o)).getD (homeN 61 (cutD d p a t o) v).toNat dAr := by
      rcases Int.lt_or_gt_of_ne c7 with hlt | hgt
      · have e := i1 (homeN 61 d v).toNat (by omega)
        have := only (homeN 61 d v).toNat (by omega) (by rw [e]; exact k2)
        rw [this, e]
      · have e := i4 (homeN 61 d v).toNat (by omega)
        have := only ((homeN 61 d v).toNat + 1) (by omega) (by rw [e]; exact k2)
        rw [this, e]
    exact ⟨trivial, trivial, ⟨k0, k1⟩, ⟨m0, m1⟩, trivial, decide_eq_true (congrArg Prod.fst key), ⟨k0, k1⟩, ⟨m0, m1⟩, trivial, decide_eq_true (congrArg (fun x => x.2.1) key)⟩
  · have c7 := ndf c7
    rw [c7] at k2
    have hn1 : ¬ (p < 0 ∨ ((areasN 61 (cutD d p a t o)).length : Int) ≤ p + 1) := by omega
    have fin : ∀ (s : Int), homeN 61 (cutD d p a t o) v = p + s → 0 ≤ s → s ≤ 1 → (GoodN 61 (cutD d p a t o) ∧ p ≤ 1000000) ∧ (decide ((cutD d p a t o).2.1 < 1073741824) = true →
        ((!decide ((joinRes 61 (cutD d p a t o) p).2 = 0)) = true → false = true) ∧ ((!decide ((joinRes 61 (cutD d p a t o) p).2 = 0)) = false → sameP 61 (joinRes 61 (cutD d p a t o) p).1.2.2.1 d.2.2.1 ∧ ((!true) = true → false = true) ∧
          ((!true) = false → True ∧ True ∧ isI64 (p + s) ∧ decide (homeN 61 (cutD d p a t o) v = p + s) = true ∧ isI64 (d.2.1 + 1) ∧ decide ((cutD d p a t o).2.1 = d.2.1 + 1) = true))) ∧
        (decide ((cutD d p a t o).2.1 < 1073741824) = false → True ∧ True ∧ isI64 (p + s) ∧ decide (homeN 61 (cutD d p a t o) v = p + s) = true ∧ isI64 (d.2.1 + 1) ∧ decide ((cutD d p a t o).2.1 = d.2.1 + 1) = true) := fun s hs s0 s1 => by
      have last : True ∧ True ∧ isI64 (p + s) ∧ decide (homeN 61 (cutD d p a t o) v = p + s) = true ∧ isI64 (d.2.1 + 1) ∧ decide ((cutD d p a t o).2.1 = d.2.1 + 1) = true :=
        ⟨trivial, trivial, i64s (by omega) (by omega), decide_eq_true hs, iv, decide_eq_true rfl⟩
      refine ⟨⟨K.good, by omega⟩, fun cv => ?_, fun _ => last⟩
      have hr : joinRes 61 (cutD d p a t o) p = (((cutD d p a t o).1, (cutD d p a t o).2.1 + 1, d.2.2.1, ()), 0) := by
        unfold joinRes
        have e1 : foundT 61 p (cutD d p a t o).2.2.1 0 = true := K.back.2
        have e2 : joinT 61 p (cutD d p a t o).2.2.1 0 = d.2.2.1 := K.back.1
        rw [if_neg hn1, e1, if_neg (by simp), if_neg (by have := dt cv; omega), e2]
      rw [hr]
      exact ⟨fun h => absurd rfl (ndt h), fun _ => ⟨⟨rfl, g1.deep⟩, fun h => (by cases h), fun _ => last⟩⟩
    refine ⟨ha, fun c8 => fin 1 ?_ (by omega) (by omega), fun c8 => fin 0 ?_ (by omega) (by omega)⟩
    · have := only (p.toNat + 1) (by omega) (by rw [i3]; exact (bhas_high hbi pc).2 ⟨k2, dt c8⟩)
      omega
    · have := only p.toNat (by omega) (by rw [i2]; exact (bhas_low hbi pc).2 ⟨k2, by have := df c8; omega⟩)
      omega
end Go.Proofs.Ytdeleoaeegmhlaa
