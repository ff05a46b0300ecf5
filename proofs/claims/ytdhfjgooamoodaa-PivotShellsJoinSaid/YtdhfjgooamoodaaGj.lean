import Derived.Test.YtdhfjgooamoodaaGi
namespace Go.Proofs.Ytdhfjgooamoodaa
open Go.AM Go.PL
set_option linter.unusedVariables false
theorem yes0 {p : Prop} [Decidable p] (h : p) {q : Prop} (c : (!decide p) = true) : q := absurd h (ndt c)
theorem no0 {p : Prop} [Decidable p] (h : ¬ p) {q : Prop} (c : (!decide p) = false) : q := absurd (ndf c) h
theorem cover_bad {m : Int} {p l : List (List Int)} (h : bothB m p l = true → False) : coverR m p l = (0, 1) := if_neg h
theorem cover_good {m : Int} {p l : List (List Int)} (h : bothB m p l = true) : coverR m p l = (coverS m p l, 0) := if_pos h
theorem shells_bad {m : Int} {p l : List (List Int)} (h : bothB m p l = true → False) : shellsR m p l = ([], 1) := if_neg h
theorem shells_good {m : Int} {p l : List (List Int)} (h : bothB m p l = true) : shellsR m p l = (shellsS m p l, 0) := if_pos h
theorem both_len {m : Int} {p l : List (List Int)} (h : bothB m p l = true) : 1 ≤ p.length ∧ p.length ≤ 8 ∧ 1 ≤ l.length ∧ l.length ≤ 4096 := by
  obtain ⟨h1, h2, h3⟩ := bothB_iff.1 h
  have := piv_len h1
  have := fit_len h2
  omega
theorem tableS_len (m : Int) (p l : List (List Int)) : (tableS m p l).length = l.length := tabL_length _ _
theorem tableS_row {m : Int} {p l : List (List Int)} {k : Nat} (hk : k < l.length) : (tableS m p l).getD k [] = keysS m p (l.getD k []) := tabL_getD _ [] hk
theorem keysS_len (m : Int) (p : List (List Int)) (v : List Int) : (keysS m p v).length = p.length := tab_length _ _
theorem keysS_at {m : Int} {p : List (List Int)} {v : List Int} {k : Nat} (hk : k < p.length) : (keysS m p v).getD k 0 = keyAt m p v k := tab_getD _ hk
theorem keysS_min {m : Int} {p : List (List Int)} {v : List Int} (h : 1 ≤ p.length) : minL (keysS m p v) = nearK m p v := minL_tab h _
theorem valid_key {a : List Shell} (h : validB a = true) {k : Nat} (hk : k < a.length) : keyP (a.getD k sh0).1 ∧ keyP (a.getD k sh0).2.1 ∧ (a.getD k sh0).1 ≤ (a.getD k sh0).2.1 := by
  have := shB_iff.1 ((validB_iff.1 h).2 k hk)
  exact ⟨Go.PL.keyP_iff.2 ⟨by omega, by omega⟩, Go.PL.keyP_iff.2 ⟨by omega, by omega⟩, by omega⟩
theorem lo_bad {m : Int} {a : List Shell} {ks : List Int} (h : askB m a ks = true → False) : loR m a ks = (0, 1) := if_neg h
theorem lo_good {m : Int} {a : List Shell} {ks : List Int} (h : askB m a ks = true) : loR m a ks = (loS m a ks, 0) := if_pos h
theorem hi_bad {m : Int} {a : List Shell} {ks : List Int} (h : askB m a ks = true → False) : hiR m a ks = (0, 1) := if_neg h
theorem hi_good {m : Int} {a : List Shell} {ks : List Int} (h : askB m a ks = true) : hiR m a ks = (hiS m a ks, 0) := if_pos h
theorem all_has {y : Int} : hasS ((0 : Int), (134217728 : Int), ()) y = true ↔ 0 ≤ y ∧ y ≤ 134217728 := by unfold hasS; simp
theorem sat_rTable : Sat Try.prog 18 rTableSp := by
  refine sat_nf (C := G3) ssG3 (fun x => rTable_nf x.1 x.2.1 x.2.2) fun (⟨m, p, l⟩ : Int × List (List Int) × List (List Int)) hk _ => ?_
  dsimp only
  refine ⟨trivial, fun h => (by rw [table_bad fun e => (by rw [e] at h; cases h)]), fun h => ?_⟩
  have hB := nf h
  obtain ⟨p1, p2, l1, l2⟩ := both_len hB
  rw [table_good hB]
  refine ⟨fun x => 0 ≤ x.2 ∧ x.2 ≤ l.length ∧ x.1 = tabL x.2.toNat (fun i => keysS m p (l.getD i [])), fun x => ((l.length : Int) - x.2).toNat, ⟨by simp, by simp, rfl⟩, fun ⟨o, i⟩ ⟨i0, i1, i2⟩ => ⟨fun g => ?_, fun g => ?_⟩⟩
  · dsimp only at i0 i1 i2 g ⊢
    have g := dt g
    refine ⟨⟨i0, g⟩, ⟨(bothB_iff.1 hB).1, both_alike hB (by omega)⟩, room24 bytesL24 (by rw [i2, tabL_length, List.length_singleton]; omega), i64s (by omega) (by omega), ⟨by omega, by omega, ?_⟩, by omega⟩
    rw [succ_toNat i0, tabL_succ, i2]
  · dsimp only at i0 i1 i2 g ⊢
    rw [i2, end_toNat i1 (df g)]
    rfl
theorem sat_rCover : Sat Try.prog 17 rCoverSp := by
  refine sat_nf (C := G3) ssG3 (fun x => rCover_nf x.1 x.2.1 x.2.2) fun (⟨m, p, l⟩ : Int × List (List Int) × List (List Int)) hk _ => ?_
  dsimp only
  refine ⟨trivial, fun h => (by rw [cover_bad fun e => (by rw [e] at h; cases h)]), fun h => ?_⟩
  have hB := nf h
  obtain ⟨p1, p2, l1, l2⟩ := both_len hB
  rw [cover_good hB]
  refine ⟨fun x => 0 ≤ x.2 ∧ x.2 ≤ l.length ∧ x.1 = maxK x.2.toNat (fun i => nearK m p (l.getD i [])) 0, fun x => ((l.length : Int) - x.2).toNat, ⟨by simp, by simp, rfl⟩, fun ⟨o, i⟩ ⟨i0, i1, i2⟩ => ⟨fun g => ?_, fun g => ?_⟩⟩
  · dsimp only at i0 i1 i2 g ⊢
    have g := dt g
    refine ⟨⟨i0, g⟩, ⟨(pivB_iff.1 (bothB_iff.1 hB).1).1, p1, fun k hk => piv_alike (bothB_iff.1 hB).1 (both_alike hB (by omega)) hk⟩, i64s (by omega) (by omega), ⟨by omega, by omega, ?_⟩, by omega⟩
    rw [succ_toNat i0, maxK_succ, i2]
  · dsimp only at i0 i1 i2 g ⊢
    rw [i2, end_toNat i1 (df g)]
    rfl
theorem sat_cover : Sat Try.prog 13 coverSp := by
  refine sat_nf (C := G3) ssG3 (fun x => cover_nf x.1 x.2.1 x.2.2) fun (⟨m, p, l⟩ : Int × List (List Int) × List (List Int)) hk _ => ?_
  dsimp only
  by_cases hB : bothB m p l = true
  · obtain ⟨p1, p2, l1, l2⟩ := both_len hB
    rw [cover_good hB, table_good hB]
    dsimp only
    rw [tableS_len]
    refine ⟨trivial, yes0 rfl, fun _ => ⟨fun x => 0 ≤ x.2 ∧ x.2 ≤ l.length ∧ x.1 = maxK x.2.toNat (fun i => nearK m p (l.getD i [])) 0, fun x => ((l.length : Int) - x.2).toNat, ⟨by simp, by simp, rfl⟩, fun ⟨o, i⟩ ⟨i0, i1, i2⟩ => ⟨fun g => ?_, fun g => ?_⟩⟩⟩
    · dsimp only at i0 i1 i2 g ⊢
      have g := dt g
      rw [tableS_row (by omega), keysS_len, keysS_min p1]
      refine ⟨⟨i0, g⟩, p1, i64s (by omega) (by omega), ⟨by omega, by omega, ?_⟩, by omega⟩
      rw [succ_toNat i0, maxK_succ, i2]
    · dsimp only at i0 i1 i2 g ⊢
      rw [i2, end_toNat i1 (df g)]
      rfl
  · rw [cover_bad hB, table_bad hB]
    exact ⟨trivial, fun _ => rfl, no0 (by decide)⟩
theorem sat_shells : Sat Try.prog 23 shellsSp := by
  refine sat_nf (C := G3) ssG3 (fun x => shells_nf x.1 x.2.1 x.2.2) fun (⟨m, p, l⟩ : Int × List (List Int) × List (List Int)) hk _ => ?_
  dsimp only
  by_cases hB : bothB m p l = true
  · obtain ⟨p1, p2, l1, l2⟩ := both_len hB
    rw [shells_good hB, table_good hB]
    dsimp only
    rw [tableS_len, tableS_row (by omega), keysS_len]
    refine ⟨trivial, yes0 rfl, fun _ => ⟨fun x => 0 ≤ x.2 ∧ x.2 ≤ p.length ∧ x.1 = tabL x.2.toNat (shellS m p l), fun x => ((p.length : Int) - x.2).toNat, ⟨by simp, by simp, rfl⟩, fun ⟨o, k⟩ ⟨k0, k1, k2⟩ => ⟨fun g => ?_, fun g => ?_⟩⟩⟩
    · dsimp only at k0 k1 k2 g ⊢
      have g := dt g
      rw [keysS_at (show k.toNat < p.length by omega)]
      refine ⟨⟨by omega, by omega⟩, ⟨k0, g⟩, ⟨by omega, by omega⟩, ⟨k0, g⟩, fun x => o = x.1 ∧ 0 ≤ x.2.1 ∧ x.2.1 ≤ l.length ∧ x.2.2.1 = minK x.2.1.toNat (fun i => keyAt m p (l.getD i []) k.toNat) (keyAt m p (l.getD 0 []) k.toNat) ∧
        x.2.2.2 = maxK x.2.1.toNat (fun i => keyAt m p (l.getD i []) k.toNat) (keyAt m p (l.getD 0 []) k.toNat), fun x => ((l.length : Int) - x.2.1).toNat, ⟨rfl, by simp, by simp, rfl, rfl⟩, fun ⟨o', i, lo, hi⟩ ⟨e, i0, i1, i2, i3⟩ => ?_⟩
      dsimp only at e i0 i1 i2 i3 ⊢
      subst e
      refine ⟨fun h => ?_, fun h => ?_⟩
      · have h := dt h
        rw [tableS_row (by omega), keysS_len, keysS_at (show k.toNat < p.length by omega)]
        refine ⟨⟨i0, h⟩, ⟨k0, g⟩, trivial, i64s (by omega) (by omega), ⟨rfl, by omega, by omega, ?_, ?_⟩, by omega⟩
        · rw [succ_toNat i0, minK_succ, ← i2]
          rfl
        · rw [succ_toNat i0, maxK_succ, ← i3]
          rfl
      · have e := end_toNat i1 (df h)
        rw [e] at i2 i3
        refine ⟨room16 bytesS16 (by rw [k2, tabL_length, List.length_singleton]; omega), i64s (by omega) (by omega), ⟨by omega, by omega, ?_⟩, by omega⟩
        rw [succ_toNat k0, tabL_succ, k2, i2, i3]
        rfl
    · dsimp only at k0 k1 k2 g ⊢
      rw [k2, end_toNat k1 (df g)]
      rfl
  · rw [shells_bad hB, table_bad hB]
    exact ⟨trivial, fun _ => rfl, no0 (by decide)⟩
theorem sat_in : Sat Try.prog 28 inSp := by
  refine sat_nf (C := G3) ssG3 (fun x => in_nf x.1 x.2) fun (⟨a, ks⟩ : List Shell × List Int) hk _ => ?_
  dsimp only
  refine ⟨trivial, fun h => is_no fun e => ?_, fun hv => ⟨fun h => is_no fun e => ndt h (by rw [(inB_iff.1 e).2.1]), fun hn => ?_⟩⟩
  · have := (inB_iff.1 e).1
    rw [nt h] at this
    cases this
  have hn := ndf hn
  have h8 := (validB_iff.1 (nf hv)).1
  have e0 : (((0 : Int), (0 : Int), ()) : Shell) = sh0 := rfl
  rw [e0]
  have eh : ∀ (s : Shell) (y : Int), hasS (s.1, s.2.1, ()) y = true ↔ s.1 ≤ y ∧ y ≤ s.2.1 := fun s y => by unfold hasS; simp
  refine ⟨fun x => 0 ≤ x ∧ x ≤ a.length ∧ ∀ k : Nat, (k : Int) < x → (a.getD k sh0).1 ≤ ks.getD k 0 ∧ ks.getD k 0 ≤ (a.getD k sh0).2.1, fun x => ((a.length : Int) - x).toNat, ⟨by omega, by omega, fun j hj => by omega⟩, fun x ⟨h0, h1, h2⟩ => ⟨fun g => ?_, fun g => ?_⟩⟩
  · have g := dt g
    refine ⟨⟨h0, g⟩, trivial, ⟨h0, by omega⟩, trivial, fun c => is_no fun h => ?_, fun c => ⟨i64s (by omega) (by omega), ⟨by omega, by omega, upd_all h0 h2 ((eh _ _).1 (nf c))⟩, by dsimp only; omega⟩⟩
    rw [(eh _ _).2 ((inB_iff.1 h).2.2 x.toNat (by omega))] at c
    cases c
  · have g := df g
    exact (inB_iff.2 ⟨nf hv, by omega, fun k hk => h2 k (by omega)⟩).symm
theorem sat_join : Sat Try.prog 33 joinSp := by
  refine sat_nf (C := G3) ssG3 (fun x => join_nf x.1 x.2) fun (⟨a, b⟩ : List Shell × List Shell) hk _ => ?_
  dsimp only
  refine ⟨trivial, fun h => ?_, fun ha => ⟨trivial, fun h => ?_, fun hb => ⟨fun h => ?_, fun hn => ?_⟩⟩⟩
  · rw [join_bad fun e => by rw [(joinB_iff.1 e).1] at h; cases h]
  · rw [join_bad fun e => by rw [(joinB_iff.1 e).2.1] at h; cases h]
  · rw [join_bad fun e => ndt h (by rw [(joinB_iff.1 e).2.2])]
  have ha := nf ha
  have hb := nf hb
  have hn := ndf hn
  have h8 := (validB_iff.1 ha).1
  have e0 : (((0 : Int), (0 : Int), ()) : Shell) = sh0 := rfl
  rw [join_good (joinB_iff.2 ⟨ha, hb, by omega⟩), e0]
  refine ⟨fun x => 0 ≤ x.2 ∧ x.2 ≤ a.length ∧ x.1 = tabL x.2.toNat (joinSh a b), fun x => ((a.length : Int) - x.2).toNat, ⟨by simp, by simp, rfl⟩, fun ⟨o, i⟩ ⟨i0, i1, i2⟩ => ⟨fun g => ?_, fun g => ?_⟩⟩
  · dsimp only at i0 i1 i2 g ⊢
    have g := dt g
    have hbk := valid_key hb (k := i.toNat) (by omega)
    have es : ((withS (withS ((a.getD i.toNat sh0).1, (a.getD i.toNat sh0).2.1, ()) (b.getD i.toNat sh0).1) (b.getD i.toNat sh0).2.1).1, (withS (withS ((a.getD i.toNat sh0).1, (a.getD i.toNat sh0).2.1, ()) (b.getD i.toNat sh0).1) (b.getD i.toNat sh0).2.1).2.1, ()) = joinSh a b i.toNat :=
      sh_eq (by unfold withS joinSh; dsimp only; omega) (by unfold withS joinSh; dsimp only; omega)
    rw [es]
    refine ⟨⟨i0, g⟩, trivial, ⟨i0, by omega⟩, trivial, ⟨i0, by omega⟩, trivial, room16 bytesS16 (by rw [i2, tabL_length, List.length_singleton]; omega), i64s (by omega) (by omega), ⟨by omega, by omega, ?_⟩, by omega⟩
    rw [succ_toNat i0, tabL_succ, i2]
  · dsimp only at i0 i1 i2 g ⊢
    rw [i2, end_toNat i1 (df g)]
    rfl
theorem sat_lo : Sat Try.prog 25 loSp := by
  refine sat_nf (C := G3) ssG3 (fun x => lo_nf x.1 x.2.1 x.2.2) fun (⟨m, a, ks⟩ : Int × List Shell × List Int) hk _ => ?_
  dsimp only
  rw [met_val]
  refine ⟨trivial, fun h => (lo_bad fun e => by rw [(askB_iff.1 e).1] at h; cases h).symm, fun hm => ⟨trivial, fun h => (lo_bad fun e => by rw [(askB_iff.1 e).2.1] at h; cases h).symm, fun hv => ⟨fun h => (lo_bad fun e => by have := (askB_iff.1 e).2.2.1; have := ndt h; omega).symm, fun hn => ?_⟩⟩⟩
  have hm := nf hm
  have hv := nf hv
  have hn := ndf hn
  have h8 := (validB_iff.1 hv).1
  have e0 : (((0 : Int), (0 : Int), ()) : Shell) = sh0 := rfl
  rw [e0]
  refine ⟨fun x => 0 ≤ x.2 ∧ x.2 ≤ a.length ∧ x.1 = maxK x.2.toNat (fun k => gapS m (a.getD k sh0) (ks.getD k 0)) 0 ∧ ∀ k : Nat, (k : Int) < x.2 → 0 ≤ ks.getD k 0 ∧ ks.getD k 0 ≤ 134217728, fun x => ((a.length : Int) - x.2).toNat, ⟨by simp, by simp, rfl, fun j hj => by dsimp only at hj; omega⟩, fun ⟨o, i⟩ ⟨i0, i1, i2, i3⟩ => ⟨fun g => ?_, fun g => ?_⟩⟩
  · dsimp only at i0 i1 i2 i3 g ⊢
    have g := dt g
    refine ⟨⟨i0, g⟩, trivial, ⟨i0, by omega⟩, trivial, fun h => (lo_bad fun e => ?_).symm, fun h => ?_⟩
    · rw [all_has.2 ((askB_iff.1 e).2.2.2 i.toNat (by omega))] at h
      cases h
    have h := all_has.1 (nf h)
    have hv := valid_key hv (k := i.toNat) (by omega)
    refine ⟨⟨i0, by omega⟩, ⟨hv.1, hv.2.1, Go.PL.keyP_iff.2 h⟩, i64s (by omega) (by omega), ⟨by omega, by omega, ?_, upd_all i0 i3 h⟩, by omega⟩
    rw [succ_toNat i0, maxK_succ, i2]
    rfl
  · dsimp only at i0 i1 i2 i3 g ⊢
    have g := df g
    rw [lo_good (askB_iff.2 ⟨hm, hv, by omega, fun k hk => i3 k (by omega)⟩), i2, end_toNat i1 g]
    rfl
theorem sat_hi : Sat Try.prog 26 hiSp := by
  refine sat_nf (C := G3) ssG3 (fun x => hi_nf x.1 x.2.1 x.2.2) fun (⟨m, a, ks⟩ : Int × List Shell × List Int) hk _ => ?_
  dsimp only
  rw [met_val]
  refine ⟨trivial, fun h => (hi_bad fun e => by rw [(askB_iff.1 e).1] at h; cases h).symm, fun hm => ⟨trivial, fun h => (hi_bad fun e => by rw [(askB_iff.1 e).2.1] at h; cases h).symm, fun hv => ⟨fun h => (hi_bad fun e => by have := (askB_iff.1 e).2.2.1; have := ndt h; omega).symm, fun hn => ?_⟩⟩⟩
  have hm := nf hm
  have hv := nf hv
  have hn := ndf hn
  have h8 := (validB_iff.1 hv).1
  have e0 : (((0 : Int), (0 : Int), ()) : Shell) = sh0 := rfl
  rw [e0]
  refine ⟨fun x => 0 ≤ x.2 ∧ x.2 ≤ a.length ∧ x.1 = minK x.2.toNat (fun k => reachS m (a.getD k sh0) (ks.getD k 0)) 134217728 ∧ ∀ k : Nat, (k : Int) < x.2 → 0 ≤ ks.getD k 0 ∧ ks.getD k 0 ≤ 134217728, fun x => ((a.length : Int) - x.2).toNat, ⟨by simp, by simp, rfl, fun j hj => by dsimp only at hj; omega⟩, fun ⟨o, i⟩ ⟨i0, i1, i2, i3⟩ => ⟨fun g => ?_, fun g => ?_⟩⟩
  · dsimp only at i0 i1 i2 i3 g ⊢
    have g := dt g
    refine ⟨⟨i0, g⟩, trivial, ⟨i0, by omega⟩, trivial, fun h => (hi_bad fun e => ?_).symm, fun h => ?_⟩
    · rw [all_has.2 ((askB_iff.1 e).2.2.2 i.toNat (by omega))] at h
      cases h
    have h := all_has.1 (nf h)
    have hv := valid_key hv (k := i.toNat) (by omega)
    refine ⟨⟨i0, by omega⟩, ⟨hv.1, hv.2.1, Go.PL.keyP_iff.2 h⟩, i64s (by omega) (by omega), ⟨by omega, by omega, ?_, upd_all i0 i3 h⟩, by omega⟩
    rw [succ_toNat i0, minK_succ, i2]
    rfl
  · dsimp only at i0 i1 i2 i3 g ⊢
    have g := df g
    rw [hi_good (askB_iff.2 ⟨hm, hv, by omega, fun k hk => i3 k (by omega)⟩), i2, end_toNat i1 g]
    rfl
theorem sat_rLo : Sat Try.prog 36 rLoSp := by
  refine sat_nf (C := G3) ssG3 (fun x => rLo_nf x.1 x.2.1 x.2.2) fun (⟨m, a, ks⟩ : Int × List Shell × List Int) hk _ => ?_
  dsimp only
  refine ⟨trivial, fun h => (by rw [lo_bad fun e => (by rw [e] at h; cases h)]), fun h => ?_⟩
  have hA := nf h
  obtain ⟨hm, hv, hn, hk⟩ := askB_iff.1 hA
  have h8 := (validB_iff.1 hv).1
  have e0 : (((0 : Int), (0 : Int), ()) : Shell) = sh0 := rfl
  rw [e0, lo_good hA]
  refine ⟨fun x => 0 ≤ x.2 ∧ x.2 ≤ a.length ∧ x.1 = maxK x.2.toNat (fun k => gapS m (a.getD k sh0) (ks.getD k 0)) 0, fun x => ((a.length : Int) - x.2).toNat, ⟨by simp, by simp, rfl⟩, fun ⟨o, i⟩ ⟨i0, i1, i2⟩ => ⟨fun g => ?_, fun g => ?_⟩⟩
  · dsimp only at i0 i1 i2 g ⊢
    have g := dt g
    have hv := valid_key hv (k := i.toNat) (by omega)
    refine ⟨⟨i0, g⟩, ⟨i0, g⟩, ⟨i0, by omega⟩, ⟨hv.1, hv.2.1, Go.PL.keyP_iff.2 (hk i.toNat (by omega)), hv.2.2⟩, i64s (by omega) (by omega), ⟨by omega, by omega, ?_⟩, by omega⟩
    rw [succ_toNat i0, maxK_succ, i2]
    rfl
  · dsimp only at i0 i1 i2 g ⊢
    rw [i2, end_toNat i1 (df g)]
    rfl
theorem sat_rHi : Sat Try.prog 37 rHiSp := by
  refine sat_nf (C := G3) ssG3 (fun x => rHi_nf x.1 x.2.1 x.2.2) fun (⟨m, a, ks⟩ : Int × List Shell × List Int) hk _ => ?_
  dsimp only
  refine ⟨trivial, fun h => (by rw [hi_bad fun e => (by rw [e] at h; cases h)]), fun h => ?_⟩
  have hA := nf h
  obtain ⟨hm, hv, hn, hk⟩ := askB_iff.1 hA
  have h8 := (validB_iff.1 hv).1
  have e0 : (((0 : Int), (0 : Int), ()) : Shell) = sh0 := rfl
  rw [e0, hi_good hA]
  refine ⟨fun x => 0 ≤ x.2 ∧ x.2 ≤ a.length ∧ x.1 = minK x.2.toNat (fun k => reachS m (a.getD k sh0) (ks.getD k 0)) 134217728, fun x => ((a.length : Int) - x.2).toNat, ⟨by simp, by simp, rfl⟩, fun ⟨o, i⟩ ⟨i0, i1, i2⟩ => ⟨fun g => ?_, fun g => ?_⟩⟩
  · dsimp only at i0 i1 i2 g ⊢
    have g := dt g
    have hv := valid_key hv (k := i.toNat) (by omega)
    refine ⟨⟨i0, g⟩, ⟨i0, g⟩, ⟨i0, by omega⟩, ⟨hv.1, hv.2.1, Go.PL.keyP_iff.2 (hk i.toNat (by omega)), hv.2.2⟩, i64s (by omega) (by omega), ⟨by omega, by omega, ?_⟩, by omega⟩
    rw [succ_toNat i0, minK_succ, i2]
    rfl
  · dsimp only at i0 i1 i2 g ⊢
    rw [i2, end_toNat i1 (df g)]
    rfl
end Go.Proofs.Ytdhfjgooamoodaa
