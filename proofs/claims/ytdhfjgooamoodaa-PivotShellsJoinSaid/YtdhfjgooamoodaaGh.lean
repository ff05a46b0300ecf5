import Derived.Test.YtdhfjgooamoodaaGg
namespace Go.PL
open Go.AM
set_option linter.unusedVariables false
theorem nearest_bad {m : Int} {p : List (List Int)} {v : List Int} (h : pivB m p = true → alikeB (p.getD 0 []) v = true → False) : nearestS m p v = (0, 0, 1) := if_neg fun e => h e.1 e.2
theorem nearest_good {m : Int} {p : List (List Int)} {v : List Int} (h : pivB m p = true) (h' : alikeB (p.getD 0 []) v = true) : nearestS m p v = ((nearI m p v : Int), nearK m p v, 0) := if_pos ⟨h, h'⟩
theorem table_bad {m : Int} {p l : List (List Int)} (h : bothB m p l = true → False) : tableR m p l = ([], 1) := if_neg h
theorem table_good {m : Int} {p l : List (List Int)} (h : bothB m p l = true) : tableR m p l = (tableS m p l, 0) := if_pos h
end Go.PL
namespace Go.Proofs.Ytdhfjgooamoodaa
open Go.AM Go.PL
set_option linter.unusedVariables false
theorem both_alike {m : Int} {p l : List (List Int)} (h : bothB m p l = true) {k : Nat} (hk : k < l.length) : alikeB (p.getD 0 []) (l.getD k []) = true :=
  alike_trans (bothB_iff.1 h).2.2 ((fitB_iff.1 (bothB_iff.1 h).2.1).2 k hk)
theorem piv_len {m : Int} {p : List (List Int)} (h : pivB m p = true) : 1 ≤ p.length ∧ p.length ≤ 8 := ⟨(fit_len (pivB_iff.1 h).2.1).1, (pivB_iff.1 h).2.2⟩
theorem sat_rChoose : Sat Try.prog 15 rChooseSp := by
  refine sat_nf (C := G1) ssG1 (fun x => rChoose_nf x.1 x.2.1 x.2.2) fun (⟨m, l, n⟩ : Int × List (List Int) × Int) hk _ => ?_
  dsimp only
  have em : (decide ((1 : Int) ≤ m) && decide (m ≤ (3 : Int))) = metB m := rfl
  rw [em]
  have bad : (chooseB m l n = true → False) → (([], (1 : Int), ()) : List Int × Int × Unit) = ((chooseR m l n).1, (chooseR m l n).2, ()) := fun h => by rw [choose_bad h]
  refine ⟨trivial, fun h => bad fun e => (by rw [(chooseB_iff.1 e).1] at h; cases h), fun hm => ⟨trivial, fun h => bad fun e => (by rw [(chooseB_iff.1 e).2.1] at h; cases h), fun hf =>
    ⟨fun h => bad fun e => (by have := dt h; have := (chooseB_iff.1 e).2.2; omega), fun h1 => ⟨fun h => bad fun e => (by have := dt h; have := (chooseB_iff.1 e).2.2; omega), fun h8 => ?_⟩⟩⟩⟩
  have hm := nf hm
  have hf := nf hf
  have h1 := df h1
  have h8 := df h8
  obtain ⟨l1, l2⟩ := fit_len hf
  have hB := chooseB_iff.2 ⟨hm, hf, (show 1 ≤ n by omega), (show n ≤ 8 by omega)⟩
  have fin : ∀ {k : Nat} {out : List Int}, out = chooseP m l k → (k : Int) + 1 = n → (out, (0 : Int), ()) = ((chooseR m l n).1, (chooseR m l n).2, ()) := fun e hk => by rw [choose_end hB hk, e]
  have brk : ∀ {k : Nat} {out : List Int}, out = chooseP m l k → (k : Int) + 1 ≤ n → leastP m l out (nextP m l out) = 0 → (out, (0 : Int), ()) = ((chooseR m l n).1, (chooseR m l n).2, ()) := fun e hk hz => by
    rw [e] at hz
    rw [choose_brk hB hk hz, e]
  have hnx : ∀ out, nextP m l out < l.length := fun out => (amax_spec _ _ l1).1
  have e0 : ([l.getD 0 []] : List (List Int)) = ([0] : List Int).map fun j => l.getD j.toNat [] := rfl
  have o0 : ∀ j ∈ ([0] : List Int), 0 ≤ j ∧ j < (l.length : Int) := fun j hj => by simp only [List.mem_singleton] at hj; omega
  refine ⟨⟨by omega, by omega⟩, fun c => ?_, fun c => fin (k := 0) rfl (by have := df c; omega)⟩
  have c := dt c
  rw [e0]
  refine ⟨fun x => 0 ≤ x.2.2.2.2 ∧ x.2.2.2.2 ≤ l.length ∧ farI (leastP m l [0]) x.2.2.2.2.toNat x.2.2.1 x.2.2.2.1, fun x => ((l.length : Int) - x.2.2.2.2).toNat, ⟨by simp, by simp, farI_zero _⟩, fun ⟨o, ch, b, f, i⟩ ⟨i0, i1, hF⟩ => ⟨fun g => ?_, fun g => ?_⟩⟩
  · dsimp only at i0 i1 hF g ⊢
    have g := dt g
    have hi : i.toNat < l.length := by omega
    have hn := near_least (m := m) hf (out := [0]) (by simp) o0 hi
    have hl := (leastP_nonneg (m := m) hf o0 hi).1
    rw [hn]
    refine ⟨⟨i0, g⟩, chosen_near hm hf (by simp) o0 hi, fun c => ⟨i64s (by omega) (by omega), ⟨by omega, by omega, ?_⟩, by omega⟩, fun c => ⟨i64s (by omega) (by omega), ⟨by omega, by omega, ?_⟩, by omega⟩⟩
    · rw [succ_toNat i0]
      have := farI_up hF (dt c)
      rwa [show ((i.toNat : Nat) : Int) = i by omega] at this
    · rw [succ_toNat i0]
      exact farI_stay hF hl (df c)
  dsimp only at i0 i1 hF g ⊢
  rw [end_toNat i1 (df g)] at hF
  obtain ⟨rfl, rfl⟩ := farI_end hF l1
  have hN := hnx [0]
  refine ⟨fun z => brk (k := 0) rfl (by omega) (dt z), fun z => ⟨room8 bytesI8 (by simp), ⟨by omega, by show ((nextP m l [0] : Nat) : Int) < _; omega⟩, room24 bytesL24 (by simp), ?_⟩⟩
  have z := df z
  refine ⟨fun x => ∃ k, x.1 = chooseP m l k ∧ x.1.length = k + 1 ∧ (k : Int) + 1 ≤ n ∧ x.2 = x.1.map fun j => l.getD j.toNat [], fun x => (n - (x.1.length : Int)).toNat, ⟨1, (choose_go (n := 0) z).symm, rfl, by omega, rfl⟩, fun ⟨out, ch⟩ ⟨k, h2, h3, h4, h5⟩ => ?_⟩
  dsimp only at h2 h3 h4 h5 ⊢
  have oi : ∀ j ∈ out, 0 ≤ j ∧ j < (l.length : Int) := by rw [h2]; exact (choose_in (m := m) l1 k).1
  refine ⟨fun c => ?_, fun c => fin h2 (by have := df c; omega)⟩
  have c := dt c
  refine ⟨fun x => out = x.1 ∧ ch = x.2.1 ∧ 0 ≤ x.2.2.2.2 ∧ x.2.2.2.2 ≤ l.length ∧ farI (leastP m l out) x.2.2.2.2.toNat x.2.2.1 x.2.2.2.1, fun x => ((l.length : Int) - x.2.2.2.2).toNat, ⟨rfl, rfl, by simp, by simp, farI_zero _⟩, fun ⟨o, ch', b, f, i⟩ ⟨q1, q2, i0, i1, hF⟩ => ?_⟩
  dsimp only at q1 q2 i0 i1 hF ⊢
  subst q1 q2 h5
  refine ⟨fun g => ?_, fun g => ?_⟩
  · have g := dt g
    have hi : i.toNat < l.length := by omega
    have hn := near_least (m := m) hf (out := out) (by omega) oi hi
    have hl := (leastP_nonneg (m := m) hf oi hi).1
    rw [hn]
    refine ⟨⟨i0, g⟩, chosen_near hm hf (by omega) oi hi, fun c => ⟨i64s (by omega) (by omega), ⟨rfl, rfl, by omega, by omega, ?_⟩, by omega⟩, fun c => ⟨i64s (by omega) (by omega), ⟨rfl, rfl, by omega, by omega, ?_⟩, by omega⟩⟩
    · rw [succ_toNat i0]
      have := farI_up hF (dt c)
      rwa [show ((i.toNat : Nat) : Int) = i by omega] at this
    · rw [succ_toNat i0]
      exact farI_stay hF hl (df c)
  rw [end_toNat i1 (df g)] at hF
  obtain ⟨rfl, rfl⟩ := farI_end hF l1
  have hN := hnx out
  refine ⟨fun z => brk h2 h4 (dt z), fun z => ⟨room8 bytesI8 (by rw [List.length_singleton]; omega), ⟨by omega, by show ((nextP m l out : Nat) : Int) < _; omega⟩, room24 bytesL24 (by rw [List.length_map, List.length_singleton]; omega), ⟨k + 1, ?_, ?_, by omega, ?_⟩, ?_⟩⟩
  · rw [choose_go (by rw [← h2]; exact df z), ← h2]
    rfl
  · rw [List.length_append, h3]
    rfl
  · rw [List.map_append]
    rfl
  · rw [List.length_append, List.length_singleton]
    omega
theorem sat_nearest : Sat Try.prog 12 nearestSp := by
  refine sat_nf (C := G2) ssG2 (fun x => nearest_nf x.1 x.2.1 x.2.2) fun (⟨m, p, v⟩ : Int × List (List Int) × List Int) hk _ => ?_
  dsimp only
  refine ⟨trivial, fun h => (nearest_bad fun e _ => by rw [e] at h; cases h).symm, fun hp => ?_⟩
  have hp := nf hp
  obtain ⟨p1, p2⟩ := piv_len hp
  refine ⟨⟨by omega, by omega⟩, trivial, fun h => (nearest_bad fun _ e => by rw [e] at h; cases h).symm, fun ha => ?_⟩
  have ha := nf ha
  rw [nearest_good hp ha]
  have e1 := minL_tab p1 (keyAt m p v)
  have e2 := idx_min p1 (keyAt m p v)
  refine ⟨⟨hp, ha⟩, by unfold keysS; rw [tab_length]; exact p1, trivial, ?_⟩
  unfold keysS
  rw [e1, e2]
  rfl
theorem sat_rNearest : Sat Try.prog 16 rNearestSp := by
  refine sat_nf (C := G2) ssG2 (fun x => rNearest_nf x.1 x.2.1 x.2.2) fun (⟨m, p, v⟩ : Int × List (List Int) × List Int) hk _ => ?_
  dsimp only
  refine ⟨trivial, fun h => (by rw [nearest_bad fun e _ => by rw [e] at h; cases h]), fun hp => ?_⟩
  have hp := nf hp
  obtain ⟨p1, p2⟩ := piv_len hp
  refine ⟨⟨by omega, by omega⟩, trivial, fun h => (by rw [nearest_bad fun _ e => by rw [e] at h; cases h]), fun ha => ?_⟩
  have ha := nf ha
  rw [nearest_good hp ha]
  exact ⟨⟨(pivB_iff.1 hp).1, p1, fun k hk => piv_alike hp ha hk⟩, rfl⟩
theorem sat_both : Sat Try.prog 21 bothSp := by
  refine sat_nf (C := G2) ssG2 (fun x => both_nf x.1 x.2.1 x.2.2) fun (⟨m, p, l⟩ : Int × List (List Int) × List (List Int)) hk _ => ?_
  dsimp only
  refine ⟨trivial, fun hp => ⟨trivial, fun hf => ?_, fun hf => is_no fun e => (by rw [(bothB_iff.1 e).2.1] at hf; cases hf)⟩, fun hp => is_no fun e => by rw [(bothB_iff.1 e).1] at hp; cases hp⟩
  obtain ⟨p1, p2⟩ := piv_len hp
  obtain ⟨l1, l2⟩ := fit_len hf
  refine ⟨⟨by omega, by omega⟩, ⟨by omega, by omega⟩, dec_is ⟨fun e => bothB_iff.2 ⟨hp, hf, alike_iff.2 ⟨fit_vec (pivB_iff.1 hp).2.1 (by omega), fit_vec hf (by omega), by omega⟩⟩, fun e => ?_⟩⟩
  have := (alike_iff.1 (bothB_iff.1 e).2.2).2.2
  omega
theorem sat_table : Sat Try.prog 14 tableSp := by
  refine sat_nf (C := G2) ssG2 (fun x => table_nf x.1 x.2.1 x.2.2) fun (⟨m, p, l⟩ : Int × List (List Int) × List (List Int)) hk _ => ?_
  dsimp only
  refine ⟨trivial, fun h => (table_bad fun e => by rw [(bothB_iff.1 e).1] at h; cases h).symm, fun hp => ⟨trivial, fun h => (table_bad fun e => by rw [(bothB_iff.1 e).2.1] at h; cases h).symm, fun hf => ?_⟩⟩
  have hp := nf hp
  have hf := nf hf
  obtain ⟨p1, p2⟩ := piv_len hp
  obtain ⟨l1, l2⟩ := fit_len hf
  refine ⟨⟨by omega, by omega⟩, ⟨by omega, by omega⟩, trivial, fun h => (table_bad fun e => by rw [(bothB_iff.1 e).2.2] at h; cases h).symm, fun ha => ?_⟩
  have hB := bothB_iff.2 ⟨hp, hf, nf ha⟩
  rw [table_good hB]
  refine ⟨fun x => 0 ≤ x.2 ∧ x.2 ≤ l.length ∧ x.1 = tabL x.2.toNat (fun i => keysS m p (l.getD i [])), fun x => ((l.length : Int) - x.2).toNat, ⟨by simp, by simp, rfl⟩, fun ⟨o, i⟩ ⟨i0, i1, i2⟩ => ⟨fun g => ?_, fun g => ?_⟩⟩
  · dsimp only at i0 i1 i2 g ⊢
    have g := dt g
    refine ⟨⟨i0, g⟩, ⟨hp, both_alike hB (by omega)⟩, room24 bytesL24 (by rw [i2, tabL_length, List.length_singleton]; omega), i64s (by omega) (by omega), ⟨by omega, by omega, ?_⟩, by omega⟩
    rw [succ_toNat i0, tabL_succ, i2]
  · dsimp only at i0 i1 i2 g ⊢
    rw [i2, end_toNat i1 (df g)]
    rfl
theorem sat_validSh : Sat Try.prog 24 validShSp := by
  refine sat_nf (C := G2) ssG2 validSh_nf fun (l : List Shell) hk _ => ?_
  have hl : l.length ≤ 9223372036854775807 := hk.1
  refine ⟨fun x => 0 ≤ x ∧ x ≤ l.length ∧ ∀ k : Nat, (k : Int) < x → shB (l.getD k sh0) = true, fun x => ((l.length : Int) - x).toNat, ⟨by omega, by omega, fun j hj => by omega⟩, fun x ⟨h0, h1, h2⟩ => ⟨fun g => ?_, fun g => ?_⟩⟩
  · have g := dt g
    have no : (shB (l.getD x.toNat sh0) = true → False) → false = validB l := fun hn => is_no fun h => hn ((validB_iff.1 h).2 x.toNat (by omega))
    have e0 : (((0 : Int), (0 : Int), ()) : Shell) = sh0 := rfl
    have eh : ∀ y : Int, hasS ((0 : Int), (134217728 : Int), ()) y = true ↔ 0 ≤ y ∧ y ≤ 134217728 := fun y => by unfold hasS; simp
    rw [e0]
    refine ⟨⟨h0, g⟩, fun a => no fun h => ?_, fun a => ⟨trivial, trivial, fun b => no fun h => ?_, fun b => ⟨trivial, trivial, fun c => no fun h => ?_, fun c => ⟨i64_lt h0 g hl, ⟨by omega, by omega, upd_all h0 h2 (shB_iff.2 ?_)⟩, by dsimp only; omega⟩⟩⟩⟩
    · have := shB_iff.1 h
      have a := dt a
      omega
    · have := shB_iff.1 h
      rw [(eh _).2 ⟨by omega, by omega⟩] at b
      cases b
    · have := shB_iff.1 h
      rw [(eh _).2 ⟨by omega, by omega⟩] at c
      cases c
    · have a := df a
      have b := (eh _).1 (nf b)
      have c := (eh _).1 (nf c)
      omega
  · have g := df g
    exact dec_is ⟨fun h => validB_iff.2 ⟨by omega, fun k hk => h2 k (by omega)⟩, fun h => by have := (validB_iff.1 h).1; omega⟩
end Go.Proofs.Ytdhfjgooamoodaa
