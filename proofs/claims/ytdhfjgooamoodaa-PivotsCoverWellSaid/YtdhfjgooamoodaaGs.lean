import Derived.Test.YtdhfjgooamoodaaGr
import Derived.Test.YtdhfjgooamoodaaGl3
namespace Go.Proofs.Ytdhfjgooamoodaa
open Go.AM Go.PL
set_option linter.unusedVariables false
theorem ssGL3 : SpecSound GL3 := mkctx_sound satG6 trivial
theorem pick_at {l : List (List Int)} {out : List Int} {i : Nat} (hi : i < out.length) : (out.map fun j => l.getD j.toNat []).getD i [] = l.getD (out.getD i 0).toNat [] := by
  rw [List.getD_eq_getElem?_getD, List.getElem?_map, List.getElem?_eq_getElem hi, List.getD_eq_getElem?_getD (l := out), List.getElem?_eq_getElem hi]
  rfl
theorem some_at {l : List (List Int)} (l1 : 1 ≤ l.length) {c : List Int} {n : Int} {k : Nat} (hk : k < (someS l c n).length) : ∃ j, j < l.length ∧ (someS l c n).getD k [] = l.getD j [] := by
  have e : (someS l c n).length = n.toNat := tabL_length _ _
  refine ⟨somePl l c k, ?_, tabL_getD _ [] (by omega)⟩
  unfold somePl
  split
  · exact Nat.mod_lt _ (by omega)
  · omega
/-- What follows the check of the cover. -/
theorem well_tail {m n : Int} {l P : List (List Int)} {c : List Int} {out : List Int} {cov : Int} (hm : metB m = true) (hf : fitB l = true) (hn : 1 ≤ n ∧ n ≤ 8) (eP : P = out.map fun j => l.getD j.toNat []) (ho : ∀ j ∈ out, 0 ≤ j ∧ j < l.length) (hlen : out.length ≤ 8)
    (hpair : ∀ a b, a < b → b < out.length → cov ≤ keyS m (l.getD (out.getD a 0).toNat []) (l.getD (out.getD b 0).toNat []) ∧ 0 < keyS m (l.getD (out.getD a 0).toNat []) (l.getD (out.getD b 0).toNat [])) (hcov : cov ≤ highS m (coverS m (someS l c n) l) (coverS m (someS l c n) l)) :
    ∃ (I : Int → Prop), ∃ (μ : Int → Nat), I (0 : Int) ∧ ∀ (x_1 : Int), I x_1 → (decide (x_1 < (↑P.length : Int)) = true → ∃ (I_1 : Int → Prop), ∃ (μ_1 : Int → Nat), I_1 (0 : Int) ∧ ∀ (x_2 : Int), I_1 x_2 → (decide (x_2 < x_1) = true → ((0 : Int) ≤ x_1 ∧ x_1 <
  (↑P.length : Int)) ∧ ((0 : Int) ≤ x_2 ∧ x_2 < (↑P.length : Int)) ∧ ((1 : Int) ≤ m ∧ m ≤ (3 : Int) ∧ small (64 : Nat) (4000 : Int) (P.getD x_1.toNat []) ∧ small (64 :
  Nat) (4000 : Int) (P.getD x_2.toNat []) ∧ (P.getD x_1.toNat []).length = (P.getD x_2.toNat []).length) ∧ (decide (keyS m (P.getD x_1.toNat []) (P.getD
  x_2.toNat []) = (0 : Int)) = true → false = true) ∧ (decide (keyS m (P.getD x_1.toNat []) (P.getD x_2.toNat []) = (0 : Int)) = false → (decide (keyS m (P.getD
  x_1.toNat []) (P.getD x_2.toNat []) < cov) = true → false = true) ∧ (decide (keyS m (P.getD x_1.toNat []) (P.getD x_2.toNat []) < cov) = false → isI64 (x_2 + (1 : Int)) ∧ I_1 (x_2 + (1 : Int)) ∧ μ_1 (x_2 + (1 : Int)) < μ_1 x_2))) ∧ (decide (x_2 < x_1) = false → isI64 (x_1 + (1 : Int)) ∧ I (x_1 + (1 :
  Int)) ∧ μ (x_1 + (1 : Int)) < μ x_1)) ∧ (decide (x_1 < (↑P.length : Int)) = false → ((1 : Nat) ≤ l.length ∧ n ≤ (8 : Int)) ∧
  True ∧ True ∧ (true = true → (decide ((coverR m (someS l c n) l).snd = (0 : Int)) = true → (keyP (coverR m (someS l c n) l).fst ∧ keyP (coverR m (someS l c n) l).fst) ∧ decide (cov ≤ highS m
  (coverR m (someS l c n) l).fst (coverR m (someS l c n) l).fst) = true) ∧ (decide
  ((coverR m (someS l c n) l).snd = (0 : Int)) = false → false = true)) ∧ (true = false → false = true)) := by
  subst eP
  obtain ⟨l1, l2⟩ := fit_len hf
  obtain ⟨m1, m2⟩ := metB_iff.1 hm
  rw [List.length_map]
  have hO : bothB m (someS l c n) l = true := by
    have e : (someS l c n).length = n.toNat := tabL_length _ _
    exact picked_piv hm hf (by omega) (by omega) fun k hk => some_at l1 hk
  obtain ⟨o1, o2, o3⟩ := cover_key hO
  have ko : keyP (coverS m (someS l c n) l) := Go.PL.keyP_iff.2 ⟨o1, o2⟩
  rw [cover_good hO]
  refine ⟨fun x => 0 ≤ x ∧ x ≤ out.length, fun x => ((out.length : Int) - x).toNat, ⟨by omega, by omega⟩, fun x ⟨x0, x1⟩ => ⟨fun g => ?_, fun g => ⟨⟨l1, hn.2⟩, trivial, trivial, fun _ => ⟨fun _ => ⟨⟨ko, ko⟩, decide_eq_true hcov⟩, rff⟩, fun h => (by cases h)⟩⟩⟩
  have g := dt g
  refine ⟨fun y => 0 ≤ y ∧ y ≤ x, fun y => (x - y).toNat, ⟨by omega, by omega⟩, fun y ⟨y0, y1⟩ => ⟨fun h => ?_, fun h => ⟨i64s (by omega) (by omega), ⟨by omega, by omega⟩, by dsimp only; omega⟩⟩⟩
  have h := dt h
  have hp := hpair y.toNat x.toNat (by omega) (by omega)
  have a1 := ho _ (getD_mem out 0 (show x.toNat < out.length by omega))
  have a2 := ho _ (getD_mem out 0 (show y.toNat < out.length by omega))
  rw [pick_at (by omega), pick_at (by omega), keyS_comm m (l.getD (out.getD x.toNat 0).toNat [])]
  exact ⟨⟨x0, g⟩, ⟨y0, by omega⟩, ⟨m1, m2, alike_sm (fit_alike hf (by omega) (by omega)) (by omega)⟩, fun h => absurd (dt h) (by omega), fun _ => ⟨fun h => absurd (dt h) (by omega), fun _ => ⟨i64s (by omega) (by omega), ⟨by omega, by omega⟩, by dsimp only; omega⟩⟩⟩
theorem sat_law3 : Sat Try.prog 5 (lawSp [I, LL, U8, BY]) := by
  refine sat_nf (C := GL3) ssGL3 (fun x => law3_nf x.1 x.2.1 x.2.2.1 x.2.2.2) fun (⟨m, l, w, c⟩ : Int × List (List Int) × Int × List Int) hk _ => ?_
  have hw : (0 : Int) ≤ w ∧ w ≤ 255 := hk.2.2.1
  dsimp only
  refine ⟨trivial, fun _ => ⟨trivial, rfl⟩, fun hf4 => ⟨trivial, fun _ => ⟨trivial, rfl⟩, fun hm => ⟨trivial, fun _ => ⟨trivial, rfl⟩, fun hf => ?_⟩⟩⟩
  have hm : metB m = true := nf hm
  have hf := nf hf
  have hf4 := (few40_iff.1 (nf hf4)).1
  obtain ⟨l1, l2⟩ := fit_len hf
  have ew : IntKind.i64.wrap w = w := i64_wrap (by omega) (by omega)
  have em : w.tmod 8 = w % 8 := Int.tmod_eq_emod_of_nonneg hw.1
  rw [ew, em]
  have hn : 1 ≤ 1 + w % 8 ∧ 1 + w % 8 ≤ 8 := by omega
  generalize 1 + w % 8 = n at hn ⊢
  have hB := chooseB_iff.2 ⟨hm, hf, hn.1, hn.2⟩
  have ek : ((n.toNat - 1 : Nat) : Int) + 1 = n := by omega
  have k8 : n.toNat - 1 + 1 ≤ 8 := by omega
  generalize n.toNat - 1 = k at ek k8
  rw [choose_end hB ek]
  dsimp only
  obtain ⟨c1, c2⟩ := choose_in (m := m) l1 k
  have clen := choose_len m l k
  have chd := choose_head (m := m) l1 k
  have hP : bothB m ((chooseP m l k).map fun j => l.getD j.toNat []) l = true := picked_piv hm hf (by simpa using c2) (by rw [List.length_map]; omega) fun i hi => by
    rw [List.length_map] at hi
    have := c1 _ (getD_mem _ 0 hi)
    exact ⟨((chooseP m l k).getD i 0).toNat, by omega, pick_at hi⟩
  have eC := cover_is (m := m) hf c2 c1
  have hsh := choose_short (m := m) (l := l) k
  have hpairs := choose_pairs (m := m) hf k
  have hO : (someS l c n).length = k + 1 := by
    have e : (someS l c n).length = n.toNat := tabL_length _ _
    omega
  have hOB : bothB m (someS l c n) l = true := picked_piv hm hf (by omega) (by omega) fun i hi => some_at l1 hi
  have hwell := cover_well (m := m) hm hf (k := k) (by omega) hO hOB
  rw [← eC] at hsh hwell
  have hpairs' : ∀ a b, a < b → b < (chooseP m l k).length → coverS m ((chooseP m l k).map fun j => l.getD j.toNat []) l ≤ keyS m (l.getD ((chooseP m l k).getD a 0).toNat []) (l.getD ((chooseP m l k).getD b 0).toNat []) ∧ 0 < keyS m (l.getD ((chooseP m l k).getD a 0).toNat []) (l.getD ((chooseP m l k).getD b 0).toNat []) := fun a b h1 h2 => by
    rw [eC]
    exact hpairs a b h1 h2
  generalize hout : chooseP m l k = out at *
  refine ⟨by decide, i64s (by omega) (by omega), trivial, yes0 rfl, fun _ => ⟨fun h => absurd (dt h) (by omega), fun _ => ⟨fun h => absurd (dt h) (by omega), fun _ => ⟨⟨by omega, by omega⟩, yes0 chd, fun _ => ?_⟩⟩⟩⟩
  refine ⟨fun x => 0 ≤ x.2 ∧ x.2 ≤ out.length ∧ x.1 = (out.take x.2.toNat).map fun j => l.getD j.toNat [], fun x => ((out.length : Int) - x.2).toNat, ⟨by simp, by simp, rfl⟩, fun ⟨ps, i⟩ ⟨i0, i1, i2⟩ => ⟨fun g => ?_, fun g => ?_⟩⟩
  · dsimp only at i0 i1 i2 g ⊢
    have g := dt g
    have ha := c1 _ (getD_mem out 0 (show i.toNat < out.length by omega))
    refine ⟨⟨i0, g⟩, fun h => absurd (dt h) (by omega), fun _ => ⟨⟨i0, g⟩, fun h => absurd (dt h) (by omega), fun _ => ⟨⟨i0, g⟩, ⟨ha.1, ha.2⟩, room24 bytesL24 (by rw [i2, List.length_map, List.length_take, List.length_singleton]; omega), i64s (by omega) (by omega), ⟨by omega, by omega, ?_⟩, by omega⟩⟩⟩
    rw [take_step out 0 i0 g, List.map_append, i2]
    rfl
  · dsimp only at i0 i1 i2 g ⊢
    rw [end_toNat i1 (df g), List.take_length] at i2
    have tail := well_tail (P := ps) (c := c) hm hf hn i2 c1 (by omega) hpairs' hwell
    rw [← i2] at hsh hP tail
    rw [cover_good hP]
    exact ⟨trivial, yes0 rfl, fun _ => ⟨fun h => ⟨yes0 (hsh (by have := dt h; omega)), fun _ => tail⟩, fun _ => tail⟩⟩
end Go.Proofs.Ytdhfjgooamoodaa
