import Derived.Test.YtighbmlnlmbbkaaHr
namespace Go.Proofs.Ytighbmlnlmbbkaa
open Go.AM Go.PL
set_option linter.unusedVariables false
theorem has_one (h : Hit) (id : Int) : hasH [h] id = true ↔ h.1 = id := by
  rw [hasH_iff]
  simp
theorem key_le {a b : Hit} (h : ltH a b = true) : a.2.2.1 ≤ b.2.2.1 := by
  have := (ltH_eq a b).1 h
  omega
theorem last_max {l : List Hit} (hs : l.Pairwise (fun a b => ltH a b = true)) {t : Hit} (ht : t ∈ l) : t.2.2.1 ≤ (l.getD (l.length - 1) hit0).2.2.1 := by
  obtain ⟨i, hi, rfl⟩ := List.getElem_of_mem ht
  rw [getE l (show l.length - 1 < l.length by omega)]
  by_cases e : i = l.length - 1
  · subst e; exact Int.le_refl _
  · exact key_le (List.pairwise_iff_getElem.1 hs i (l.length - 1) hi (by omega) (by omega))
theorem worst_full {l : List Hit} {k : Int} (h : (l.length : Int) = k) : worstH l k = (l.getD (l.length - 1) hit0).2.2.1 - 1 := by
  unfold worstH
  rw [if_neg (by omega)]
theorem worst_part {l : List Hit} {k : Int} (h : (l.length : Int) < k) : worstH l k = 134217728 := by
  unfold worstH
  rw [if_pos h]
section
variable {l : List Hit} {k : Int} {h : Hit} {T : List Hit}
theorem put_same (hV : IsV l k) (hno : ∀ x ∈ l, x.1 ≠ h.1) (hT : IsOf (l ++ [h]) k.toNat T) (hn : h ∉ T) : T = l := by
  have h1 : IsOf l k.toNat T := by
    refine ⟨hT.sorted, fun t ht => ⟨?_, fun x hx => (hT.rep t ht).2 x (List.mem_append_left _ hx)⟩, hT.len, fun x hx => hT.all x (List.mem_append_left _ hx)⟩
    rcases List.mem_append.1 (hT.rep t ht).1 with h1 | h1
    · exact h1
    · have h1 : t = h := by simpa using h1
      rw [h1] at ht
      exact absurd ht hn
  exact h1.unique (hV.isOf fun x => Iff.rfl)
theorem put_new (hno : ∀ x ∈ l, x.1 ≠ h.1) (hn : h ∈ T) : T ≠ l := fun e => by
  rw [e] at hn
  exact hno h hn rfl
theorem put_in (hV : IsV l k) (hno : ∀ x ∈ l, x.1 ≠ h.1) (hT : IsOf (l ++ [h]) k.toNat T) (hw : h.2.2.1 ≤ worstH l k) : T ≠ l := fun e => by
  have k1 := hV.k1
  rcases hT.all h (by simp) with ⟨t, h1, h2⟩ | ⟨h1, h2⟩
  · rw [e] at h1
    exact hno t h1 h2
  · rw [e] at h1 h2
    rw [worst_full (by omega)] at hw
    have := key_le (h2 _ (PL.getD_mem l hit0 (show l.length - 1 < l.length by omega)))
    omega
theorem put_out (hV : IsV l k) (hno : ∀ x ∈ l, x.1 ≠ h.1) (hT : IsOf (l ++ [h]) k.toNat T) (hl : (l.length : Int) = k) (hw : (l.getD (l.length - 1) hit0).2.2.1 < h.2.2.1) : T = l := by
  refine hT.unique ⟨hV.sorted, fun t ht => ⟨List.mem_append_left _ ht, fun x hx e => ?_⟩, by omega, fun x hx => ?_⟩
  · rcases List.mem_append.1 hx with h1 | h1
    · rw [hV.one h1 ht e]; exact ltIrr t
    · have h1 : x = h := by simpa using h1
      rw [h1] at e
      exact absurd e.symm (hno t ht)
  · rcases List.mem_append.1 hx with h1 | h1
    · exact .inl ⟨x, h1, rfl⟩
    · have h1 : x = h := by simpa using h1
      refine .inr ⟨by omega, fun t ht => ?_⟩
      have := last_max hV.sorted ht
      rw [h1, ltH_eq]
      exact .inl (by omega)
theorem put_common (hV : IsV l k) (hno : ∀ x ∈ l, x.1 ≠ h.1) (hT : IsOf (l ++ [h]) k.toNat T) : (commonH T [h] = 1 ↔ h ∈ T) := by
  unfold commonH
  constructor
  · intro h1
    cases hf : T.filter (fun x => hasH [h] x.1) with
    | nil => rw [hf] at h1; simp at h1
    | cons x r =>
      have hx : x ∈ T.filter (fun x => hasH [h] x.1) := by rw [hf]; simp
      obtain ⟨h2, h3⟩ := List.mem_filter.1 hx
      have h3 := (has_one h x.1).1 h3
      rcases List.mem_append.1 (hT.rep x h2).1 with h4 | h4
      · exact absurd h3.symm (hno x h4)
      · have h4 : x = h := by simpa using h4
        rwa [h4] at h2
  · intro h1
    have hm : h ∈ T.filter (fun x => hasH [h] x.1) := List.mem_filter.2 ⟨h1, (has_one h h.1).2 rfl⟩
    have h2 := List.length_pos_of_mem hm
    have h3 := nodup_len (T := T.filter (fun x => hasH [h] x.1)) (U := [h]) ((sorted_nodup hT.sorted).sublist List.filter_sublist) fun x hx => by
      obtain ⟨h4, h5⟩ := List.mem_filter.1 hx
      have := hT.one h4 h1 ((has_one h x.1).1 h5).symm
      simp [this]
    simp only [List.length_cons, List.length_nil] at h3
    omega
theorem put_worst (hV : IsV l k) (hr : rightH h = true) (hno : ∀ x ∈ l, x.1 ≠ h.1) (hT : IsOf (l ++ [h]) k.toNat T) : worstH T k ≤ worstH l k := by
  have k1 := hV.k1
  have k2 := hV.k2
  have hl := hV.len
  have vT : IsV T k := hT.valid k1 k2 fun x hx => by
    rcases List.mem_append.1 hx with h1 | h1
    · exact hV.right x h1
    · have h1 : x = h := by simpa using h1
      rw [h1]; exact hr
  have hlT := vT.len
  by_cases hf : (l.length : Int) = k
  · have hTk : (T.length : Int) = k := by
      by_cases hx : (T.length : Int) = k
      · exact hx
      · exfalso
        have hall : ∀ id ∈ (l ++ [h]).map Prod.fst, id ∈ T.map Prod.fst := fun id hid => by
          obtain ⟨x, hx1, rfl⟩ := List.mem_map.1 hid
          rcases hT.all x hx1 with ⟨t, h1, h2⟩ | ⟨h1, _⟩
          · exact List.mem_map.2 ⟨t, h1, h2⟩
          · omega
        have hnd : ((l ++ [h]).map Prod.fst).Nodup := by
          rw [List.map_append, List.nodup_append]
          refine ⟨hV.ids, by simp, fun a ha b hb e => ?_⟩
          have hb : b = h.1 := by simpa using hb
          obtain ⟨t, ht, rfl⟩ := List.mem_map.1 ha
          exact hno t ht (e.trans hb)
        have := nodup_len hnd hall
        simp only [List.length_map, List.length_append, List.length_cons, List.length_nil] at this
        omega
    rw [worst_full hf, worst_full hTk]
    by_cases hc : (T.getD (T.length - 1) hit0).2.2.1 ≤ (l.getD (l.length - 1) hit0).2.2.1
    · omega
    · exfalso
      have hlast := PL.getD_mem T hit0 (show T.length - 1 < T.length by omega)
      rcases List.mem_append.1 (hT.rep _ hlast).1 with h1 | h1
      · exact hc (last_max hV.sorted h1)
      · have h1 : T.getD (T.length - 1) hit0 = h := by simpa using h1
        have := put_out hV hno hT hf (by rw [← h1]; omega)
        rw [this] at hlast
        rw [← this] at hc
        exact hc (Int.le_refl _)
  · rw [worst_part (l := l) (by omega)]
    by_cases hx : (T.length : Int) < k
    · rw [worst_part hx]; omega
    · rw [worst_full (by omega)]
      have := (vT.key _ (PL.getD_mem T hit0 (show T.length - 1 < T.length by omega))).2
      omega
end
theorem l5_nf (l : List Hit) (k : Int) (h : Hit) : fnwp HL1 6 7 (lawSp [HL, I, HT]) (l, k, h) = (True ∧ ((!validH l k) = true → True ∧ true = true) ∧ ((!validH l k) = false → True
  ∧ ((!rightH h) = true → True ∧ true = true) ∧ ((!rightH h) = false → l.length ≤ (1000 : Nat) ∧ (decide ((0 : Int) < commonH l [h]) = true → True ∧ true = true) ∧ (decide ((0 :
  Int) < commonH l [h]) = false → (l.length ≤ (900 : Nat) ∧ (0 : Int) ≤ k) ∧ ((1 : Int) ≤ k ∧ ∀ (h : Int × Int × Int × PUnit), h ∈ l → (0 : Int) ≤ h.snd.snd.fst) ∧ (decide
  (h.snd.snd.fst ≤ worstH l k) = true → ((!!sameH l (ofH (l ++ [h]) k)) = true → false = true) ∧ ((!!sameH l (ofH (l ++ [h]) k)) = false → (decide ((↑l.length : Int) = k) = true →
  isI64 (worstH l k + (2 : Int)) ∧ (decide (worstH l k + (2 : Int) ≤ h.snd.snd.fst) = true → ((!sameH l (ofH (l ++ [h]) k)) = true → false = true) ∧ ((!sameH l (ofH (l ++ [h]) k))
  = false → (l.length ≤ (900 : Nat) ∧ (0 : Int) ≤ k) ∧ True ∧ (true = true → (ofH (l ++ [h]) k).length ≤ (1000 : Nat) ∧ ((decide (commonH (ofH (l ++ [h]) k) [h] = (1 : Int)) ==
  !sameH l (ofH (l ++ [h]) k)) = true → ((!sameH l (ofH (l ++ [h]) k)) = true → ((1 : Int) ≤ k ∧ ∀ (h_1 : Int × Int × Int × PUnit), h_1 ∈ ofH (l ++ [h]) k → (0 : Int) ≤
  h_1.snd.snd.fst) ∧ decide (worstH (ofH (l ++ [h]) k) k ≤ worstH l k) = true) ∧ ((!sameH l (ofH (l ++ [h]) k)) = false → True ∧ (sameH (ofH (l ++ [h]) k) l = true → ((1 : Int) ≤ k
  ∧ ∀ (h_1 : Int × Int × Int × PUnit), h_1 ∈ ofH (l ++ [h]) k → (0 : Int) ≤ h_1.snd.snd.fst) ∧ decide (worstH (ofH (l ++ [h]) k) k ≤ worstH l k) = true) ∧ (sameH (ofH (l ++ [h]) k)
  l = false → false = true))) ∧ ((decide (commonH (ofH (l ++ [h]) k) [h] = (1 : Int)) == !sameH l (ofH (l ++ [h]) k)) = false → false = true)) ∧ (true = false → false = true))) ∧
  (decide (worstH l k + (2 : Int) ≤ h.snd.snd.fst) = false → (l.length ≤ (900 : Nat) ∧ (0 : Int) ≤ k) ∧ True ∧ (true = true → (ofH (l ++ [h]) k).length ≤ (1000 : Nat) ∧ ((decide
  (commonH (ofH (l ++ [h]) k) [h] = (1 : Int)) == !sameH l (ofH (l ++ [h]) k)) = true → ((!sameH l (ofH (l ++ [h]) k)) = true → ((1 : Int) ≤ k ∧ ∀ (h_1 : Int × Int × Int × PUnit),
  h_1 ∈ ofH (l ++ [h]) k → (0 : Int) ≤ h_1.snd.snd.fst) ∧ decide (worstH (ofH (l ++ [h]) k) k ≤ worstH l k) = true) ∧ ((!sameH l (ofH (l ++ [h]) k)) = false → True ∧ (sameH (ofH (l
  ++ [h]) k) l = true → ((1 : Int) ≤ k ∧ ∀ (h_1 : Int × Int × Int × PUnit), h_1 ∈ ofH (l ++ [h]) k → (0 : Int) ≤ h_1.snd.snd.fst) ∧ decide (worstH (ofH (l ++ [h]) k) k ≤ worstH l
  k) = true) ∧ (sameH (ofH (l ++ [h]) k) l = false → false = true))) ∧ ((decide (commonH (ofH (l ++ [h]) k) [h] = (1 : Int)) == !sameH l (ofH (l ++ [h]) k)) = false → false =
  true)) ∧ (true = false → false = true))) ∧ (decide ((↑l.length : Int) = k) = false → (l.length ≤ (900 : Nat) ∧ (0 : Int) ≤ k) ∧ True ∧ (true = true → (ofH (l ++ [h]) k).length ≤
  (1000 : Nat) ∧ ((decide (commonH (ofH (l ++ [h]) k) [h] = (1 : Int)) == !sameH l (ofH (l ++ [h]) k)) = true → ((!sameH l (ofH (l ++ [h]) k)) = true → ((1 : Int) ≤ k ∧ ∀ (h_1 :
  Int × Int × Int × PUnit), h_1 ∈ ofH (l ++ [h]) k → (0 : Int) ≤ h_1.snd.snd.fst) ∧ decide (worstH (ofH (l ++ [h]) k) k ≤ worstH l k) = true) ∧ ((!sameH l (ofH (l ++ [h]) k)) =
  false → True ∧ (sameH (ofH (l ++ [h]) k) l = true → ((1 : Int) ≤ k ∧ ∀ (h_1 : Int × Int × Int × PUnit), h_1 ∈ ofH (l ++ [h]) k → (0 : Int) ≤ h_1.snd.snd.fst) ∧ decide (worstH
  (ofH (l ++ [h]) k) k ≤ worstH l k) = true) ∧ (sameH (ofH (l ++ [h]) k) l = false → false = true))) ∧ ((decide (commonH (ofH (l ++ [h]) k) [h] = (1 : Int)) == !sameH l (ofH (l ++
  [h]) k)) = false → false = true)) ∧ (true = false → false = true)))) ∧ (decide (h.snd.snd.fst ≤ worstH l k) = false → (decide ((↑l.length : Int) = k) = true → isI64 (worstH l k +
  (2 : Int)) ∧ (decide (worstH l k + (2 : Int) ≤ h.snd.snd.fst) = true → ((!sameH l (ofH (l ++ [h]) k)) = true → false = true) ∧ ((!sameH l (ofH (l ++ [h]) k)) = false → (l.length
  ≤ (900 : Nat) ∧ (0 : Int) ≤ k) ∧ True ∧ (true = true → (ofH (l ++ [h]) k).length ≤ (1000 : Nat) ∧ ((decide (commonH (ofH (l ++ [h]) k) [h] = (1 : Int)) == !sameH l (ofH (l ++
  [h]) k)) = true → ((!sameH l (ofH (l ++ [h]) k)) = true → ((1 : Int) ≤ k ∧ ∀ (h_1 : Int × Int × Int × PUnit), h_1 ∈ ofH (l ++ [h]) k → (0 : Int) ≤ h_1.snd.snd.fst) ∧ decide
  (worstH (ofH (l ++ [h]) k) k ≤ worstH l k) = true) ∧ ((!sameH l (ofH (l ++ [h]) k)) = false → True ∧ (sameH (ofH (l ++ [h]) k) l = true → ((1 : Int) ≤ k ∧ ∀ (h_1 : Int × Int ×
  Int × PUnit), h_1 ∈ ofH (l ++ [h]) k → (0 : Int) ≤ h_1.snd.snd.fst) ∧ decide (worstH (ofH (l ++ [h]) k) k ≤ worstH l k) = true) ∧ (sameH (ofH (l ++ [h]) k) l = false → false =
  true))) ∧ ((decide (commonH (ofH (l ++ [h]) k) [h] = (1 : Int)) == !sameH l (ofH (l ++ [h]) k)) = false → false = true)) ∧ (true = false → false = true))) ∧ (decide (worstH l k +
  (2 : Int) ≤ h.snd.snd.fst) = false → (l.length ≤ (900 : Nat) ∧ (0 : Int) ≤ k) ∧ True ∧ (true = true → (ofH (l ++ [h]) k).length ≤ (1000 : Nat) ∧ ((decide (commonH (ofH (l ++ [h])
  k) [h] = (1 : Int)) == !sameH l (ofH (l ++ [h]) k)) = true → ((!sameH l (ofH (l ++ [h]) k)) = true → ((1 : Int) ≤ k ∧ ∀ (h_1 : Int × Int × Int × PUnit), h_1 ∈ ofH (l ++ [h]) k →
  (0 : Int) ≤ h_1.snd.snd.fst) ∧ decide (worstH (ofH (l ++ [h]) k) k ≤ worstH l k) = true) ∧ ((!sameH l (ofH (l ++ [h]) k)) = false → True ∧ (sameH (ofH (l ++ [h]) k) l = true →
  ((1 : Int) ≤ k ∧ ∀ (h_1 : Int × Int × Int × PUnit), h_1 ∈ ofH (l ++ [h]) k → (0 : Int) ≤ h_1.snd.snd.fst) ∧ decide (worstH (ofH (l ++ [h]) k) k ≤ worstH l k) = true) ∧ (sameH
  (ofH (l ++ [h]) k) l = false → false = true))) ∧ ((decide (commonH (ofH (l ++ [h]) k) [h] = (1 : Int)) == !sameH l (ofH (l ++ [h]) k)) = false → false = true)) ∧ (true = false →
  false = true))) ∧ (decide ((↑l.length : Int) = k) = false → (l.length ≤ (900 : Nat) ∧ (0 : Int) ≤ k) ∧ True ∧ (true = true → (ofH (l ++ [h]) k).length ≤ (1000 : Nat) ∧ ((decide
  (commonH (ofH (l ++ [h]) k) [h] = (1 : Int)) == !sameH l (ofH (l ++ [h]) k)) = true → ((!sameH l (ofH (l ++ [h]) k)) = true → ((1 : Int) ≤ k ∧ ∀ (h_1 : Int × Int × Int × PUnit),
  h_1 ∈ ofH (l ++ [h]) k → (0 : Int) ≤ h_1.snd.snd.fst) ∧ decide (worstH (ofH (l ++ [h]) k) k ≤ worstH l k) = true) ∧ ((!sameH l (ofH (l ++ [h]) k)) = false → True ∧ (sameH (ofH (l
  ++ [h]) k) l = true → ((1 : Int) ≤ k ∧ ∀ (h_1 : Int × Int × Int × PUnit), h_1 ∈ ofH (l ++ [h]) k → (0 : Int) ≤ h_1.snd.snd.fst) ∧ decide (worstH (ofH (l ++ [h]) k) k ≤ worstH l
  k) = true) ∧ (sameH (ofH (l ++ [h]) k) l = false → false = true))) ∧ ((decide (commonH (ofH (l ++ [h]) k) [h] = (1 : Int)) == !sameH l (ofH (l ++ [h]) k)) = false → false =
  true)) ∧ (true = false → false = true))))))) := by kernel_rfl
theorem sat_L5 : Sat bs.P 7 (lawSp [HL, I, HT]) := by
  refine sat_nf (C := HL1) ssHL1 (fun x => l5_nf x.1 x.2.1 x.2.2) fun (⟨l, k, h⟩ : List Hit × Int × Hit) hk _ => ?_
  try dsimp only
  refine ⟨trivial, fun _ => ⟨trivial, by trivial⟩, fun hl => ⟨trivial, fun _ => ⟨trivial, by trivial⟩, fun hh => ?_⟩⟩
  have hV := isV_of (nf hl)
  have hr := nf hh
  have k1 := hV.k1; have k2 := hV.k2; have hlen := hV.len
  refine ⟨by omega, fun _ => ⟨trivial, by trivial⟩, fun hc => ?_⟩
  have hc := df hc
  have hno : ∀ x ∈ l, x.1 ≠ h.1 := fun x hx e => by
    have hm : x ∈ l.filter (fun x => hasH [h] x.1) := List.mem_filter.2 ⟨hx, (has_one h x.1).2 e.symm⟩
    have := List.length_pos_of_mem hm
    unfold commonH at hc
    omega
  have hT := isOf_ofH (l ++ [h]) k
  have hin := put_in hV hno hT
  have hout := put_out hV hno hT
  have hcom := put_common hV hno hT
  have hwor := put_worst hV hr hno hT
  have hlT := isOf_len hT
  have hsame := put_same hV hno hT
  have hnew := put_new (T := ofH (l ++ [h]) k) hno
  have hkT : ∀ x ∈ ofH (l ++ [h]) k, 0 ≤ (x : Hit).2.2.1 := fun x hx => by
    rcases List.mem_append.1 (hT.rep x hx).1 with h1 | h1
    · exact (hV.key x h1).1
    · have h1 : x = h := by simpa using h1
      rw [h1]
      unfold rightH at hr
      simp only [Bool.and_eq_true, decide_eq_true_eq] at hr
      exact hr.2.2.1
  generalize ofH (l ++ [h]) k = T at *
  rw [List.length_append] at hlT
  simp only [List.length_cons, List.length_nil] at hlT
  have a1 : l.length ≤ 900 ∧ 0 ≤ k := by omega
  have a2 : 1 ≤ k ∧ ∀ x : Int × Int × Int × PUnit, x ∈ l → 0 ≤ x.2.2.1 := ⟨k1, fun x hx => (hV.key x hx).1⟩
  have a3 : 1 ≤ k ∧ ∀ x : Int × Int × Int × PUnit, x ∈ T → 0 ≤ x.2.2.1 := ⟨k1, hkT⟩
  have a4 : T.length ≤ 1000 := by omega
  have a5 : decide (worstH T k ≤ worstH l k) = true := decide_eq_true hwor
  have hw64 : isI64 (worstH l k + 2) := by
    unfold worstH
    split
    · exact i64s (by omega) (by omega)
    · have := hV.key _ (PL.getD_mem l hit0 (show l.length - 1 < l.length by omega))
      exact i64s (by omega) (by omega)
  by_cases hm : h ∈ T
  · have n1 : sameH l T = false := decide_eq_false fun e => hnew hm e.symm
    have n2 : decide (commonH T [h] = 1) = true := decide_eq_true (hcom.2 hm)
    have n3 : ¬ ((l.length : Int) = k ∧ worstH l k + 2 ≤ h.2.2.1) := fun ⟨e1, e2⟩ => hnew hm (hout e1 (by rw [worst_full e1] at e2; omega))
    refine ⟨a1, a2, fun _ => ⟨fun e => (by rw [n1] at e; cases e), fun _ => ?_⟩, fun _ => ?_⟩
    all_goals
      refine ⟨fun e1 => ⟨hw64, fun e2 => absurd ⟨dt e1, dt e2⟩ n3, fun _ => ?_⟩, fun _ => ?_⟩
      all_goals
        simp only [n1, n2, a1, a3, a4, a5, true_and, Bool.not_false]
        (simp; try exact fun a a1 a2 b hx => hkT (a, a1, a2, b) hx)
  · have e := hsame hm
    have n1 : sameH l T = true := same_of e.symm
    have n1' : sameH T l = true := same_of e
    have n2 : decide (commonH T [h] = 1) = false := decide_eq_false fun e' => hm (hcom.1 e')
    refine ⟨a1, a2, fun e1 => absurd e (hin (dt e1)), fun _ => ⟨fun _ => ⟨hw64, fun _ => ⟨fun e1 => (by rw [n1] at e1; cases e1), fun _ => ?_⟩, fun _ => ?_⟩, fun _ => ?_⟩⟩
    all_goals
      simp only [n1, n1', n2, a1, a3, a4, a5, true_and, Bool.not_true]
      (simp; try exact fun a a1 a2 b hx => hkT (a, a1, a2, b) hx)
end Go.Proofs.Ytighbmlnlmbbkaa
