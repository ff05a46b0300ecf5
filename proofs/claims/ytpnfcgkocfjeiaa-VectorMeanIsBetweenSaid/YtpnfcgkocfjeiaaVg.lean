import Derived.Test.YtpnfcgkocfjeiaaVf
namespace Go.Proofs.Ytpnfcgkocfjeiaa
open Go.AM Go.PL
set_option linter.unusedVariables false

theorem sm_of {k : Nat} {c : Int} {v : List Int} (h : (Nat.ble v.length k && v.all fun x => decide (-c ≤ x) && decide (x ≤ c)) = true) : small k c v := by
  simp only [Bool.and_eq_true, Nat.ble_eq, List.all_eq_true, decide_eq_true_eq] at h
  exact h
theorem rows_of {l : List (List Int)} (h : (Nat.ble 1 l.length && Nat.ble l.length 100 && Nat.ble (l.getD 0 []).length 64 && l.all fun v => Nat.beq v.length (l.getD 0 []).length && v.all fun x => decide (-4000 ≤ x) && decide (x ≤ 4000)) = true) : rows l := by
  simp only [Bool.and_eq_true, Nat.ble_eq, List.all_eq_true, decide_eq_true_eq, Nat.beq_eq] at h
  exact ⟨h.1.1.1, h.1.1.2, h.1.2, h.2⟩
theorem s2_of {α : Type} {l : List α} (h : Nat.ble l.length 100000 = true) : small2 l := Nat.le_of_ble_eq_true h
theorem sat_sanity : Sat Try.prog 11 sanitySp := by
  refine sat_nf (C := VS) ssVS (fun _ => sanity_nf) fun _ _ _ => ?_
  have a : small 64 4000 [1, -2, 3] := sm_of rfl
  have b : small 64 4000 [4, 2, 3] := sm_of rfl
  exact ⟨⟨a, b, rfl⟩, trivial, ⟨sm_of rfl, sm_of rfl, rfl⟩, ⟨by omega, by omega, a, b, rfl⟩, ⟨by omega, by omega, a, b, rfl⟩, ⟨by omega, by omega, a, b, rfl⟩, rows_of rfl, trivial, rows_of rfl, trivial, trivial, trivial,
    s2_of rfl, s2_of rfl, s2_of rfl, s2_of rfl, trivial, trivial, trivial, trivial, rfl⟩
theorem ssVL : SpecSound VL := mkctx_sound ⟨sat_sanity, satV⟩ trivial
theorem no {p : Prop} {x : Bool} (h : x = true) (h' : x = false) : p := by rw [h] at h'; cases h'
theorem metric_iff {m : Int} : (!(decide ((1 : Int) ≤ m) && decide (m ≤ (3 : Int)))) = false ↔ 1 ≤ m ∧ m ≤ 3 := by simp
theorem alike_small {a b : List Int} (h : alikeB a b = true) {c : Int} (hc : 1000 ≤ c) : small 64 c a ∧ small 64 c b ∧ a.length = b.length := by
  obtain ⟨h1, h2, h3⟩ := alike_iff.1 h
  exact ⟨vec_small h1 (by omega) hc, vec_small h2 (by omega) hc, h3⟩
theorem allB_rows {l : List (List Int)} {n : Int} (hn : n ≤ 100) (h : allB l n = true) : rows l := by
  unfold allB at h
  simp only [Bool.and_eq_true, List.all_eq_true, decide_eq_true_eq] at h
  obtain ⟨h1, h2, h3⟩ := h
  have h0 := h1 _ (Go.PL.getD_mem l [] (i := 0) (by omega))
  obtain ⟨g1, g2, g3⟩ := vecB_iff.1 (alike_iff.1 h0).1
  refine ⟨by omega, by omega, by omega, fun v hv => ?_⟩
  obtain ⟨k1, k2, k3⟩ := alike_iff.1 (h1 v hv)
  obtain ⟨q1, q2, q3⟩ := vecB_iff.1 k2
  exact ⟨k3.symm, fun x hx => ⟨by have := (q1 x hx).1; omega, by have := (q1 x hx).2; omega⟩⟩
theorem sat_law1 : Sat Try.prog 3 (lawSp [I, L, L]) := by
  refine sat_nf (C := VL) ssVL (fun x => law1_nf x.1 x.2.1 x.2.2) fun (⟨m, a, b⟩ : Int × List Int × List Int) hk _ => ?_
  dsimp only
  refine ⟨fun _ => ⟨trivial, rfl⟩, fun _ => ⟨fun _ => ⟨trivial, rfl⟩, fun _ => ⟨trivial, trivial, fun h => by simp at h, fun _ => ⟨trivial, trivial, fun h => by simp at h, fun _ => ⟨trivial, trivial, fun h => by simp at h,
    fun _ => ⟨trivial, fun _ => ⟨trivial, rfl⟩, fun ha => ⟨trivial, fun _ => ⟨trivial, rfl⟩, fun hm => ?_⟩⟩⟩⟩⟩⟩⟩
  have ha : alikeB a b = true := by simpa using ha
  obtain ⟨h1, h2⟩ := metric_iff.1 hm
  have s1 := alike_small ha (c := 4000) (by omega)
  have s2 := alike_small ha (c := 8000) (by omega)
  exact ⟨trivial, fun _ => ⟨s1, s1, trivial, fun _ => ⟨s2, s2, fun _ => ⟨⟨h1, h2, s1⟩, ⟨h1, h2, s1⟩, decide_eq_true rfl⟩, no (decide_eq_true rfl)⟩, no (decide_eq_true rfl)⟩, fun h => by cases h⟩
theorem law2_tail {l : List (List Int)} : True ∧ ((!allB l (20 : Int)) = true → True ∧ true = true) ∧ ((!allB l (20 : Int)) = false → True ∧ (true = true → rows l ∧ rows l ∧ True ∧ decide (meanS l = meanS l) = true) ∧ (true = false → false = true)) :=
  ⟨trivial, fun _ => ⟨trivial, rfl⟩, fun h => ⟨trivial, fun _ => by
    have h : allB l 20 = true := by simpa using h
    have hr := allB_rows (by omega) h
    exact ⟨hr, hr, trivial, decide_eq_true rfl⟩, fun h => by cases h⟩⟩
theorem sat_law2 : Sat Try.prog 4 (lawSp [I, L, LL]) := by
  refine sat_nf (C := VL) ssVL (fun x => law2_nf x.1 x.2.1 x.2.2) fun (⟨m, v, l⟩ : Int × List Int × List (List Int)) hk _ => ?_
  dsimp only
  refine ⟨trivial, fun hd => ⟨trivial, fun hm => ?_, fun _ => law2_tail⟩, fun _ => law2_tail⟩
  have hs : small 64 8000 v := vec_small hd (by omega) (by omega)
  simp only [Bool.and_eq_true, decide_eq_true_eq] at hm
  exact ⟨⟨hm.1, hm.2, hs⟩, ⟨hm.1, hm.2, hs⟩, fun h => by simp at h, fun _ => ⟨⟨hs, hs, rfl⟩, ⟨hs, hs, rfl⟩, fun h => by simp at h, fun _ => law2_tail⟩⟩
theorem key4 {m : Int} {a b : List Int} (h : alikeB a b = true) : 0 ≤ keyS m a b ∧ keyS m a b ≤ 128000000 := key_bound m h
theorem alike_trans {a b c : List Int} (h : alikeB a b = true) (h' : alikeB b c = true) : alikeB a c = true := by
  obtain ⟨h1, h2, h3⟩ := alike_iff.1 h
  obtain ⟨g1, g2, g3⟩ := alike_iff.1 h'
  exact alike_iff.2 ⟨h1, g2, by omega⟩
theorem alike_symm {a b : List Int} (h : alikeB a b = true) : alikeB b a = true := by
  obtain ⟨h1, h2, h3⟩ := alike_iff.1 h
  exact alike_iff.2 ⟨h2, h1, h3.symm⟩
theorem sat_law3 : Sat Try.prog 5 (lawSp [I, L, L, L]) := by
  refine sat_nf (C := VL) ssVL (fun x => law3_nf x.1 x.2.1 x.2.2.1 x.2.2.2) fun (⟨m, a, b, c⟩ : Int × List Int × List Int × List Int) hk _ => ?_
  dsimp only
  refine ⟨trivial, fun _ => ⟨trivial, rfl⟩, fun hab => ⟨trivial, fun _ => ⟨trivial, rfl⟩, fun hbc => ⟨trivial, fun _ => ⟨trivial, rfl⟩, fun hm => ?_⟩⟩⟩
  have hab : alikeB a b = true := by simpa using hab
  have hbc : alikeB b c = true := by simpa using hbc
  have hac := alike_trans hab hbc
  obtain ⟨m1, m2⟩ := metric_iff.1 hm
  have kac := key4 (m := m) hac
  have kab := key4 (m := m) hab
  have kbc := key4 (m := m) hbc
  have lab := (alike_iff.1 hab).2.2
  have lbc := (alike_iff.1 hbc).2.2
  have hz : decide (keyS m a c = 0) = decide (cmpS a c = 0) := by
    rw [decide_eq_decide, key_zero (lab.trans lbc)]
    exact cmpS_eq0.symm
  have over : -300000000 ≤ keyS m a c - keyS m a b - keyS m b c ∧ keyS m a c - keyS m a b - keyS m b c ≤ 300000000 := by omega
  have i1 : isI64 ((keyS m a c - keyS m a b - keyS m b c) * (keyS m a c - keyS m a b - keyS m b c)) := by
    have := sq_size over
    exact isI64_small (by omega) (by omega)
  have i2 : isI64 (4 * keyS m a b * keyS m b c) := by
    have := mul_size (c := 1000000000) (x := 4 * keyS m a b) (y := keyS m b c) (by omega) (by omega)
    exact isI64_small (by omega) (by omega)
  refine ⟨⟨m1, m2, alike_small hac (by omega)⟩, ⟨m1, m2, alike_small hab (by omega)⟩, ⟨m1, m2, alike_small hbc (by omega)⟩, ⟨m1, m2, alike_small (alike_symm hac) (by omega)⟩, fun h => absurd (keyS_comm m a c) (nd_t h), fun _ =>
    ⟨trivial, fun h => by rw [hz] at h; simp at h, fun _ => ⟨fun h => absurd (of_decide_eq_true h) (by omega), fun _ => ⟨fun h => absurd (of_decide_eq_true h) (by omega), fun _ =>
      ⟨isI64_small (by omega) (by omega), isI64_small (by omega) (by omega), fun h2 => ?_, fun h2 => ?_⟩⟩⟩⟩⟩
  · have h2 := of_decide_eq_true h2
    subst h2
    exact ⟨trivial, fun _ => ⟨fun _ => rfl, fun _ => ⟨i1, isI64_small (by omega) (by omega), i2, decide_eq_true (key_tri2 lab lbc)⟩⟩, fun h => by cases h⟩
  · have h2 := of_decide_eq_false h2
    exact ⟨trivial, fun _ => decide_eq_true (by have := key_tri h2 lab lbc; omega), fun h => by cases h⟩
theorem sat_law4 : Sat Try.prog 6 (lawSp [L, L]) := by
  refine sat_nf (C := VL) ssVL (fun x => law4_nf x.1 x.2) fun (⟨a, b⟩ : List Int × List Int) hk _ => ?_
  dsimp only
  refine ⟨trivial, fun _ => ⟨trivial, rfl⟩, fun hab => ?_⟩
  have hab : alikeB a b = true := by simpa using hab
  have s1 := alike_small hab (c := 4000) (by omega)
  have s2 := alike_small hab (c := 8000) (by omega)
  have sv := sub_ok s1
  have hl := s1.2.2
  have hvl := subS_length hl
  have ha := (vecB_iff.1 (alike_iff.1 hab).1)
  have hb := (vecB_iff.1 (alike_iff.1 hab).2.1)
  have e1 : ∀ v, normS 1 v = n1 v := fun v => by rw [normS_eq]; rfl
  have e2 : ∀ v, normS 2 v = n2 v := fun v => by rw [normS_eq]; rfl
  have e3 : ∀ v, normS 3 v = n3 v := fun v => by rw [normS_eq]; rfl
  have ek : keyS 2 a b = n2 (subS a b) := e2 _
  have hs := n2_sub a b hl
  obtain ⟨g1, g2, g3, g4, g5⟩ := n_agree (subS a b)
  have g6 := n1_sq (subS a b)
  rw [hvl] at g2 g6
  have bv := n_bound (c := 2000) (by omega) (subS a b) (subS_small (c := 1000) (d := 1000) ha.1 hb.1)
  have ba := n_bound (c := 1000) (by omega) a ha.1
  have bb := n_bound (c := 1000) (by omega) b hb.1
  rw [hvl] at bv
  have p1 := n1_nonneg (subS a b)
  have p2 := n2_nonneg (subS a b)
  have p3 := n3_nonneg (subS a b)
  have pa := n2_nonneg a
  have pb := n2_nonneg b
  have la : (a.length : Int) ≤ 32 := by omega
  have lb : (b.length : Int) ≤ 32 := by omega
  obtain ⟨b1, b2, b3⟩ := bv
  have q1 : n1 (subS a b) ≤ 64000 := by omega
  have q2 : n2 (subS a b) ≤ 128000000 := by omega
  have qa : n2 a ≤ 32000000 := by omega
  have qb : n2 b ≤ 32000000 := by omega
  simp only [e1, e2, e3, ek]
  have i1 : isI64 ((a.length : Int) * n3 (subS a b)) := by
    have := mul_size (c := 100000) (x := (a.length : Int)) (y := n3 (subS a b)) (by omega) (by omega)
    exact isI64_small (by omega) (by omega)
  have i2 : isI64 (n3 (subS a b) * n3 (subS a b)) := by
    have := mul_size (c := 100000) (x := n3 (subS a b)) (y := n3 (subS a b)) (by omega) (by omega)
    exact isI64_small (by omega) (by omega)
  have i3 : isI64 (n3 (subS a b) * n1 (subS a b)) := by
    have := mul_size (c := 100000) (x := n3 (subS a b)) (y := n1 (subS a b)) (by omega) (by omega)
    exact isI64_small (by omega) (by omega)
  have i4 : isI64 (n1 (subS a b) * n1 (subS a b)) := by
    have := mul_size (c := 100000) (x := n1 (subS a b)) (y := n1 (subS a b)) (by omega) (by omega)
    exact isI64_small (by omega) (by omega)
  have i5 : isI64 ((a.length : Int) * n2 (subS a b)) := by
    have := mul_size (c := 200000000) (x := (a.length : Int)) (y := n2 (subS a b)) (by omega) (by omega)
    exact isI64_small (by omega) (by omega)
  refine ⟨s1, ⟨by omega, by omega, sv⟩, ⟨by omega, by omega, sv⟩, ⟨by omega, by omega, sv⟩, ⟨by omega, by omega, s1⟩, ⟨by omega, by omega, s2.1⟩, ⟨by omega, by omega, s2.2.1⟩, isI64_small (by omega) (by omega), s2,
    isI64_small (by omega) (by omega), isI64_small (by omega) (by omega), fun _ => ⟨i1, fun _ => ⟨i2, fun _ => ⟨i3, fun _ => ⟨i4, i5, trivial, fun _ => ⟨fun _ => ⟨fun _ => ⟨⟨sv, sv, trivial⟩, fun _ => decide_eq_true (by rw [hvl]),
      fun h => absurd g5 (of_decide_eq_false h)⟩, fun h => absurd g6 (of_decide_eq_false h)⟩, fun h => absurd hs (of_decide_eq_false h)⟩, fun h => by cases h⟩, fun h => absurd g4 (of_decide_eq_false h)⟩,
      fun h => absurd g3 (of_decide_eq_false h)⟩, fun h => absurd g2 (of_decide_eq_false h)⟩, fun h => absurd g1 (of_decide_eq_false h)⟩
theorem sat_law6 : Sat Try.prog 8 (lawSp [L, BY]) := by
  refine sat_nf (C := VL) ssVL (fun x => law6_nf x.1 x.2) fun (⟨v, b⟩ : List Int × List Int) hk _ => ?_
  dsimp only
  refine ⟨fun _ => ⟨trivial, rfl⟩, fun hv => ⟨fun _ => ⟨trivial, rfl⟩, fun hb => ?_⟩⟩
  have hv := of_decide_eq_false hv
  have hb := of_decide_eq_false hb
  have s1 : small2 b := by unfold small2; omega
  have s2 : small2 v := by unfold small2; omega
  exact ⟨s1, s1, trivial, fun _ => ⟨s2, s2, fun _ => ⟨trivial, fun _ => decide_eq_true rfl, no (decide_eq_true rfl)⟩, no (decide_eq_true rfl)⟩, fun h => by cases h⟩
theorem sat_law8 : Sat Try.prog 10 (lawSp [L, L, L]) := by
  refine sat_nf (C := VL) ssVL (fun x => law8_nf x.1 x.2.1 x.2.2) fun (⟨a, b, c⟩ : List Int × List Int × List Int) hk _ => ?_
  dsimp only
  refine ⟨fun _ => ⟨trivial, rfl⟩, fun ha => ⟨fun _ => ⟨trivial, rfl⟩, fun hb => ⟨fun _ => ⟨trivial, rfl⟩, fun hc => ?_⟩⟩⟩
  have ha := of_decide_eq_false ha
  refine ⟨trivial, trivial, trivial, fun x => 0 ≤ x.2 ∧ x.2 ≤ a.length ∧ (x.1 = true → a.length = b.length) ∧ (a = b ↔ x.1 = true ∧ a.drop x.2.toNat = b.drop x.2.toNat), fun x => ((a.length : Int) - x.2).toNat,
    ⟨by simp, by simp, fun h => by have h : decide ((a.length : Int) = (b.length : Int)) = true := h; have := of_decide_eq_true h; omega, ?_⟩, fun x ⟨h0, h1, h2, h3⟩ => ⟨fun hc => ?_, fun hc => ?_⟩⟩
  · simp only [Int.toNat_zero, List.drop_zero, decide_eq_true_eq]
    exact ⟨fun h => ⟨by rw [h], h⟩, fun h => h.2⟩
  · have hc := of_decide_eq_true hc
    refine ⟨fun hx => ⟨⟨h0, hc⟩, ⟨h0, by have := h2 hx; omega⟩, isI64_small (by omega) (by omega), ⟨by dsimp only; omega, by dsimp only; omega, fun _ => h2 hx, ?_⟩, by dsimp only; omega⟩,
      fun hx => ⟨isI64_small (by omega) (by omega), ⟨by dsimp only; omega, by dsimp only; omega, fun h => (by cases h), ?_⟩, by dsimp only; omega⟩⟩
    · have hl := h2 hx
      rw [drop_step a 0 h0 hc, drop_step b 0 h0 (by omega), List.cons.injEq] at h3
      dsimp only
      rw [h3, hx, decide_eq_true_eq]
      simp
    · rw [h3, hx]
      simp
  · have hc := of_decide_eq_false hc
    rw [drop_end a hc] at h3
    have he : a = b ↔ x.1 = true := by
      rw [h3]
      refine ⟨fun h => h.1, fun h => ⟨h, ?_⟩⟩
      rw [drop_end b (by have := h2 h; omega)]
    have r1 := cmpS_range a b
    have r2 := cmpS_range b a
    have t := cmpS_turn a b
    refine ⟨trivial, fun _ => ⟨fun _ => ⟨fun _ => ⟨trivial, isI64_small (by omega) (by omega), fun _ => ⟨fun _ => ⟨fun _ => rfl, fun h1 => ⟨fun _ => rfl, fun h2 => decide_eq_true (cmpS_trans a b c (by have := of_decide_eq_false h1; omega) (by have := of_decide_eq_false h2; omega))⟩⟩, fun h => ?_⟩,
      fun h => absurd (show cmpS a b = 0 - cmpS b a by omega) (of_decide_eq_false h)⟩, fun h => absurd r1.2 (of_decide_eq_false h)⟩, fun h => absurd r1.1 (of_decide_eq_false h)⟩, fun h => by cases h⟩
    have e : decide (cmpS a b = 0) = x.1 := by
      rw [Bool.eq_iff_iff, decide_eq_true_eq, cmpS_eq0]; exact he
    rw [e] at h
    simp at h
end Go.Proofs.Ytpnfcgkocfjeiaa
