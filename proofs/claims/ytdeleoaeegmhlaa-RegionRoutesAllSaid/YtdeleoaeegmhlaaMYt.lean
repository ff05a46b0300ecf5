import Derived.Test.YtdeleoaeegmhlaaMYs
namespace Go.Proofs.Ytdeleoaeegmhlaa
open Go.AM Go.PL
set_option linter.unusedVariables false
attribute [local irreducible] fnwp fnwpG fnwpI
theorem deep_few {d : Dv} (h : (!fewD 60 d) = false) : deepN 60 d.2.2.1 := parts_deep 60 _ _ (of_decide_eq_true (nf h))
theorem satYq (hs : Sat Try.prog 10 sanSp) : AllSat bs.P (tYq 60) := ⟨sat_rfew, sat_rvalid 60, sat_val4, hs, sat_areasP 60, sat_home 60, sat_has, sat_meet, sat_owns 60, sat_moves 60, trivial⟩
theorem covers_ok (hs : Sat Try.prog 10 sanSp) : Sat Try.prog 3 (lawSp [DV, L]) := by
  refine sat_nf (C := YL 60) (mkctx_sound (satYq hs) trivial) (fun x => covers_nf 60 x.1 x.2) fun (x : Dv × List Int) hk hp => ?_
  obtain ⟨d, v⟩ := x
  dsimp only
  refine ⟨rfl, fun _ => ⟨trivial, rfl⟩, fun c1 => ⟨deep_few c1, fun _ => ⟨trivial, rfl⟩, fun c2 => ⟨fun _ => ⟨trivial, rfl⟩, fun c3 => ⟨trivial, fun _ => ⟨trivial, rfl⟩, fun c4 => ?_⟩⟩⟩⟩
  have g := good_of (nf c1) (nf c2)
  have hl := ndf c3
  have hv := nf c4
  obtain ⟨k0, k1, k2⟩ := g.home hv hl
  have lf := g.few
  rw [← areas_len] at lf
  refine ⟨g.pre, fun s => 0 ≤ s.2 ∧ s.2 ≤ (areasN 60 d).length ∧ s.1 = if homeN 60 d v < s.2 then 1 else 0, fun s => (((areasN 60 d).length : Int) - s.2).toNat, ⟨by omega, by dsimp only; omega, by rw [if_neg (by dsimp only; omega)]⟩, fun s hI => ?_⟩
  obtain ⟨n, i⟩ := s
  obtain ⟨h0, h1, h2⟩ := hI
  dsimp only at h0 h1 h2 ⊢
  refine ⟨fun c => ⟨⟨h0, dt c⟩, trivial, fun hb => ?_, fun hb => ?_⟩, fun c => ⟨trivial, fun _ => ?_, fun h => (by cases h)⟩⟩
  · have c := dt c
    have e : homeN 60 d v = i := by have := (g.home_iff hv hl (i := i.toNat) (by omega)).1 hb; omega
    refine ⟨i64s (by omega) (by omega), g.pre, fun h => absurd e (ndt h), fun _ => ⟨⟨by omega, h0, h1⟩, ?_⟩⟩
    refine ⟨fun t => t.1 = ((areasN 60 d).getD i.toNat dAr).1.1 ∧ t.2.1 = ((areasN 60 d).getD i.toNat dAr).1.2.1 ∧ 0 ≤ t.2.2.2, fun t => (i - t.2.2.2).toNat, ⟨rfl, rfl, by dsimp only; omega⟩, fun t ht => ?_⟩
    obtain ⟨lo, hi, os, j⟩ := t
    obtain ⟨e1, e2, j0⟩ := ht
    dsimp only at e1 e2 j0 ⊢
    subst e1 e2
    have el : ((List.take (i.toNat - 0) (List.drop 0 (areasN 60 d))).length : Int) = i := by
      rw [List.drop_zero, Nat.sub_zero, List.length_take]; omega
    rw [el]
    refine ⟨fun q => ?_, fun q => ⟨i64s (by omega) (by omega), ⟨by omega, by omega, by rw [if_pos (by omega)]; rw [if_neg (by omega)] at h2; omega⟩, by omega⟩⟩
    have q := dt q
    have eg : (List.take (i.toNat - 0) (List.drop 0 (areasN 60 d))).getD j.toNat (([], [], ()), [], ()) = (areasN 60 d).getD j.toNat dAr := by
      rw [List.drop_zero, Nat.sub_zero, List.getD_eq_getElem?_getD, List.getElem?_take, if_pos (by omega), ← List.getD_eq_getElem?_getD]
    rw [eg]
    have em := meetS_none (g.alike (i := i.toNat) (j := j.toNat) (by omega) (by omega)) (g.apart' (i := i.toNat) (j := j.toNat) (by omega) (by omega) (by omega))
    have em : meetS (((areasN 60 d).getD i.toNat dAr).1.1, ((areasN 60 d).getD i.toNat dAr).1.2.1, ()) (((areasN 60 d).getD j.toNat dAr).1.1, ((areasN 60 d).getD j.toNat dAr).1.2.1, ()) = (([], [], ()), false, 0) := em.symm
    rw [em]
    exact ⟨⟨j0, q⟩, trivial, fun h => (by cases h), fun _ => ⟨fun h => (by cases h), fun _ => ⟨i64s (by omega) (by omega), ⟨rfl, rfl, by omega⟩, by omega⟩⟩⟩
  · have c := dt c
    have e : homeN 60 d v ≠ i := fun e => by
      have := (g.home_iff hv hl (i := i.toNat) (by omega)).2 (by omega)
      have hb : bhas ((areasN 60 d).getD i.toNat dAr).1 v = false := hb
      rw [hb] at this
      cases this
    refine ⟨⟨by omega, h0, h1⟩, ?_⟩
    refine ⟨fun t => t.1 = ((areasN 60 d).getD i.toNat dAr).1.1 ∧ t.2.1 = ((areasN 60 d).getD i.toNat dAr).1.2.1 ∧ 0 ≤ t.2.2.2, fun t => (i - t.2.2.2).toNat, ⟨rfl, rfl, by dsimp only; omega⟩, fun t ht => ?_⟩
    obtain ⟨lo, hi, os, j⟩ := t
    obtain ⟨e1, e2, j0⟩ := ht
    dsimp only at e1 e2 j0 ⊢
    subst e1 e2
    have el : ((List.take (i.toNat - 0) (List.drop 0 (areasN 60 d))).length : Int) = i := by
      rw [List.drop_zero, Nat.sub_zero, List.length_take]; omega
    rw [el]
    refine ⟨fun q => ?_, fun q => ⟨i64s (by omega) (by omega), ⟨by omega, by omega, ?_⟩, by omega⟩⟩
    · have q := dt q
      have eg : (List.take (i.toNat - 0) (List.drop 0 (areasN 60 d))).getD j.toNat (([], [], ()), [], ()) = (areasN 60 d).getD j.toNat dAr := by
        rw [List.drop_zero, Nat.sub_zero, List.getD_eq_getElem?_getD, List.getElem?_take, if_pos (by omega), ← List.getD_eq_getElem?_getD]
      rw [eg]
      have em := meetS_none (g.alike (i := i.toNat) (j := j.toNat) (by omega) (by omega)) (g.apart' (i := i.toNat) (j := j.toNat) (by omega) (by omega) (by omega))
      have em : meetS (((areasN 60 d).getD i.toNat dAr).1.1, ((areasN 60 d).getD i.toNat dAr).1.2.1, ()) (((areasN 60 d).getD j.toNat dAr).1.1, ((areasN 60 d).getD j.toNat dAr).1.2.1, ()) = (([], [], ()), false, 0) := em.symm
      rw [em]
      exact ⟨⟨j0, q⟩, trivial, fun h => (by cases h), fun _ => ⟨fun h => (by cases h), fun _ => ⟨i64s (by omega) (by omega), ⟨rfl, rfl, by omega⟩, by omega⟩⟩⟩
    · rw [h2]
      by_cases hc : homeN 60 d v < i
      · rw [if_pos hc, if_pos (by omega)]
      · rw [if_neg hc, if_neg (by omega)]
  · have c := df c
    rw [h2, if_pos (by omega)]
    rfl
theorem filt_step {α : Type} (l : List α) (d : α) (p : α → Bool) {i : Int} (h0 : 0 ≤ i) (h1 : i < l.length) : ((l.take (i + 1).toNat).filter p).length = ((l.take i.toNat).filter p).length + (if p (l.getD i.toNat d) = true then 1 else 0) := by
  rw [take_step l d h0 h1, List.filter_append, List.length_append]
  cases h : p (l.getD i.toNat d)
  · rw [List.filter_cons_of_neg (by rw [h]; simp)]; rfl
  · rw [List.filter_cons_of_pos h]; rfl
theorem owns_home {d : Dv} (g : PL.Good d) {v : List Int} (hv : bvec v = true) (hl : (v.length : Int) = d.1) (o : Int) : ownsN 60 d v o = inL ((areasN 60 d).getD (homeN 60 d v).toNat dAr).2.1 o :=
  bool_is (ownsL_of (g.home hv hl).1)
theorem movesAll_ok (hs : Sat Try.prog 10 sanSp) : Sat Try.prog 4 (lawSp [DV, DV, L, I]) := by
  refine sat_nf (C := YL 60) (mkctx_sound (satYq hs) trivial) (fun x => movesAll_nf 60 x.1 x.2.1 x.2.2.1 x.2.2.2) fun (x : Dv × Dv × List Int × Int) hk hp => ?_
  obtain ⟨a, b, v, o⟩ := x
  dsimp only
  refine ⟨rfl, fun _ => ⟨trivial, rfl⟩, fun c1 => ⟨rfl, fun _ => ⟨trivial, rfl⟩, fun c2 => ⟨deep_few c1, fun _ => ⟨trivial, rfl⟩, fun c3 => ⟨deep_few c2, fun _ => ⟨trivial, rfl⟩, fun c4 => ⟨fun _ => ⟨trivial, rfl⟩, fun c5 => ⟨fun _ => ⟨trivial, rfl⟩, fun c6 => ⟨trivial, fun _ => ⟨trivial, rfl⟩, fun c7 => ?_⟩⟩⟩⟩⟩⟩⟩
  have ga := good_of (nf c1) (nf c3)
  have gb := good_of (nf c2) (nf c4)
  have hd := ndf c5
  have hl := ndf c6
  have hv := nf c7
  have hm := ga.preM gb
  have hself := ga.moves_self
  have hto := ga.moves_to gb hd hv hl o
  have oa := owns_home ga hv hl o
  have ob := owns_home gb hv (by omega) o
  obtain ⟨k0, k1, k2⟩ := ga.home hv hl
  have gy := (ga.sub (i := (homeN 60 a v).toNat) (by omega)).2
  have gl : 1 ≤ ((areasN 60 a).getD (homeN 60 a v).toNat dAr).2.1.length := (goodS_iff.1 gy).2.1
  have own0 := owns_home ga hv hl (((areasN 60 a).getD (homeN 60 a v).toNat dAr).2.1.getD 0 0)
  rw [inL_iff.2 ⟨0, by omega, rfl⟩] at own0
  have from_ : ∀ i : Int, 0 ≤ i → i < (movesN 60 a b).length → toO o v ((movesN 60 a b).getD i.toNat (([], [], ()), [], 0, ())) = true → ((movesN 60 a b).getD i.toNat (([], [], ()), [], 0, ())).2.1 = ((areasN 60 a).getD (homeN 60 a v).toNat dAr).2.1 := by
    intro i i0 i1 ht
    have hmem : (movesN 60 a b).getD i.toNat (([], [], ()), [], 0, ()) ∈ (movesN 60 a b).filter (toO o v) := List.mem_filter.2 ⟨getD_mem _ _ (by omega), ht⟩
    rw [hto] at hmem
    split at hmem
    · rw [List.mem_singleton] at hmem
      rw [hmem]
    · simp at hmem
  have hn : (((movesN 60 a b).filter (toO o v)).length : Int) = if ownsN 60 b v o = true ∧ ownsN 60 a v o = false then 1 else 0 := by
    rw [hto, oa, ob]
    split <;> rfl
  clear hto
  have hml := hm.2.2
  have last : preM 60 a a ∧ decide (((movesN 60 a a).length : Int) = 0) = true := ⟨ga.preM ga, by rw [hself]; rfl⟩
  refine ⟨ga.pre, gb.pre, hm, fun s => 0 ≤ s.2 ∧ s.2 ≤ (movesN 60 a b).length ∧ s.1 = (((movesN 60 a b).take s.2.toNat).filter (toO o v)).length, fun s => (((movesN 60 a b).length : Int) - s.2).toNat, ⟨by omega, by dsimp only; omega, rfl⟩, fun s hI => ?_⟩
  obtain ⟨n, i⟩ := s
  obtain ⟨h0, h1, h2⟩ := hI
  dsimp only at h0 h1 h2 ⊢
  refine ⟨fun c => ?_, fun c => ?_⟩
  · have c := dt c
    have fs := filt_step (movesN 60 a b) (([], [], ()), [], 0, ()) (toO o v) h0 c
    have hf := from_ i h0 c
    have hle : (((movesN 60 a b).take i.toNat).filter (toO o v)).length ≤ 1000000 := by
      have := List.length_filter_le (toO o v) ((movesN 60 a b).take i.toNat)
      rw [List.length_take] at this
      omega
    revert fs hf
    generalize (movesN 60 a b).getD i.toNat (([], [], ()), [], 0, ()) = m
    intro fs hf
    have no : toO o v m = false → isI64 (i + 1) ∧ (0 ≤ i + 1 ∧ i + 1 ≤ (movesN 60 a b).length ∧ n = (((movesN 60 a b).take (i + 1).toNat).filter (toO o v)).length) ∧ (((movesN 60 a b).length : Int) - (i + 1)).toNat < (((movesN 60 a b).length : Int) - i).toNat := fun ht => by
      rw [ht] at fs
      exact ⟨i64s (by omega) (by omega), ⟨by omega, by omega, by rw [fs]; simpa using h2⟩, by omega⟩
    refine ⟨⟨h0, c⟩, fun g1 => ⟨trivial, fun g2 => ?_, fun g2 => no ?_⟩, fun g1 => no ?_⟩
    · have g2 : bhas m.1 v = true := g2
      have ht : toO o v m = true := by unfold toO; rw [g1, g2]; rfl
      have hf := hf ht
      rw [ht] at fs
      rw [hf]
      refine ⟨i64s (by omega) (by omega), fun g3 => absurd (dt g3) (by omega), fun g3 => ⟨⟨by omega, by omega⟩, ga.pre, fun g4 => ?_, fun g4 => ⟨i64s (by omega) (by omega), ⟨by omega, by omega, ?_⟩, by omega⟩⟩⟩
      · rw [own0] at g4; cases g4
      · rw [fs, if_pos rfl]
        push_cast
        omega
    · have g2 : bhas m.1 v = false := g2
      unfold toO; rw [g2, Bool.and_false]
    · unfold toO; rw [g1, Bool.false_and]
  · have c := df c
    have hi : i.toNat = (movesN 60 a b).length := by omega
    rw [hi, List.take_length, hn] at h2
    refine ⟨fun q => ⟨fun q1 => ⟨trivial, rfl, ?_, last⟩, fun q1 => ⟨trivial, rfl, ?_, last⟩⟩, fun q => ⟨trivial, rfl, ?_, last⟩⟩
    · rw [h2, if_pos ⟨q, nt q1⟩]; rfl
    · rw [h2, if_neg fun h => by rw [nf q1] at h; cases h.2]; rfl
    · rw [h2, if_neg fun h => by rw [q] at h; cases h.1]; rfl
end Go.Proofs.Ytdeleoaeegmhlaa
