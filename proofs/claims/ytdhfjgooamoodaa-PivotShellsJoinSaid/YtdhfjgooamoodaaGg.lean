import Derived.Test.YtdhfjgooamoodaaGf
namespace Go.PL
open Go.AM
set_option linter.unusedVariables false
theorem setD (s : List Int) (i k : Nat) (v : Int) : (s.set i v).getD k 0 = if i = k ∧ i < s.length then v else s.getD k 0 := by
  rw [List.getD_eq_getElem?_getD, List.getD_eq_getElem?_getD, List.getElem?_set]
  by_cases h : i = k
  · subst h
    by_cases h' : i < s.length
    · simp [h']
    · simp [h']
  · simp [h]
def takeI (n : Nat) (a b : Nat → Int) (i : Int) (s : List Int) : Prop := 0 ≤ i ∧ i ≤ n ∧ s.length = n ∧ ∀ k, k < n → s.getD k 0 = if (k : Int) < i then b k else a k
theorem takeI_zero {n : Nat} {a b : Nat → Int} {s : List Int} (h : s = tab n a) : takeI n a b 0 s := by
  subst h
  refine ⟨Int.le_refl _, by omega, tab_length _ _, fun k hk => ?_⟩
  rw [if_neg (by omega), tab_getD a hk]
theorem takeI_up {n : Nat} {a b : Nat → Int} {i x : Int} {s : List Int} (h : takeI n a b i s) (hi : i < n) (hx : b i.toNat = min (a i.toNat) x) : takeI n a b (i + 1) (s.set i.toNat (min (s.getD i.toNat 0) x)) := by
  obtain ⟨h0, h1, h2, h3⟩ := h
  refine ⟨by omega, by omega, by rw [List.length_set, h2], fun k hk => ?_⟩
  rw [setD]
  by_cases e : i.toNat = k
  · subst e
    rw [if_pos ⟨rfl, by omega⟩, if_pos (by omega), h3 _ hk, if_neg (by omega), hx]
  · rw [if_neg (fun c => e c.1), h3 _ hk]
    by_cases c : (k : Int) < i
    · rw [if_pos c, if_pos (by omega)]
    · rw [if_neg c, if_neg (by omega)]
theorem takeI_end {n : Nat} {a b : Nat → Int} {i : Int} {s : List Int} (h : takeI n a b i s) (hi : ¬ i < n) : s = tab n b := by
  obtain ⟨h0, h1, h2, h3⟩ := h
  refine list_ext (by rw [h2, tab_length]) fun k hk => ?_
  rw [h3 k (by omega), if_pos (by omega), tab_getD b (by omega)]
theorem maxK_spec (w : Nat → Int) (a : Int) : ∀ n, a ≤ maxK n w a ∧ (∀ i, i < n → w i ≤ maxK n w a) ∧ (maxK n w a = a ∨ ∃ i, i < n ∧ maxK n w a = w i)
  | 0 => ⟨Int.le_refl _, fun i hi => by omega, .inl rfl⟩
  | n + 1 => by
    obtain ⟨h1, h2, h3⟩ := maxK_spec w a n
    rw [maxK_succ]
    refine ⟨by omega, fun i hi => ?_, ?_⟩
    · by_cases h : i < n
      · have := h2 i h; omega
      · have e : i = n := by omega
        subst e; omega
    · by_cases h : maxK n w a ≤ w n
      · exact .inr ⟨n, by omega, by omega⟩
      · rcases h3 with h3 | ⟨i, hi, h3⟩
        · exact .inl (by omega)
        · exact .inr ⟨i, by omega, by omega⟩
theorem minK_spec (w : Nat → Int) (a : Int) : ∀ n, minK n w a ≤ a ∧ (∀ i, i < n → minK n w a ≤ w i) ∧ (minK n w a = a ∨ ∃ i, i < n ∧ minK n w a = w i)
  | 0 => ⟨Int.le_refl _, fun i hi => by omega, .inl rfl⟩
  | n + 1 => by
    obtain ⟨h1, h2, h3⟩ := minK_spec w a n
    rw [minK_succ]
    refine ⟨by omega, fun i hi => ?_, ?_⟩
    · by_cases h : i < n
      · have := h2 i h; omega
      · have e : i = n := by omega
        subst e; omega
    · by_cases h : w n ≤ minK n w a
      · exact .inr ⟨n, by omega, by omega⟩
      · rcases h3 with h3 | ⟨i, hi, h3⟩
        · exact .inl (by omega)
        · exact .inr ⟨i, by omega, by omega⟩
theorem maxL_tab {n : Nat} (hn : 1 ≤ n) (w : Nat → Int) : maxL (tab n w) = w (amax n w) := by
  unfold maxL
  rw [tab_length, tab_getD w (by omega)]
  obtain ⟨h1, h2, h3⟩ := maxK_spec (fun i => (tab n w).getD i 0) (w 0) n
  obtain ⟨a1, a2, a3⟩ := amax_spec w n hn
  have e := h2 _ a1
  rw [tab_getD w a1] at e
  rcases h3 with h3 | ⟨i, hi, h3⟩
  · have := a2 0 (by omega)
    omega
  · rw [tab_getD w hi] at h3
    have := a2 i hi
    omega
theorem minL_tab {n : Nat} (hn : 1 ≤ n) (w : Nat → Int) : minL (tab n w) = w (amin n w) := by
  unfold minL
  rw [tab_length, tab_getD w (by omega)]
  obtain ⟨h1, h2, h3⟩ := minK_spec (fun i => (tab n w).getD i 0) (w 0) n
  obtain ⟨a1, a2, a3⟩ := amin_spec w n hn
  have e := h2 _ a1
  rw [tab_getD w a1] at e
  rcases h3 with h3 | ⟨i, hi, h3⟩
  · have := a2 0 (by omega)
    omega
  · rw [tab_getD w hi] at h3
    have := a2 i hi
    omega
theorem idx_at {n k : Nat} {w : Nat → Int} (hk : k < n) (hb : ∀ j, j < k → w j ≠ w k) : idxS (tab n w) (w k) = k := by
  unfold idxS
  rw [tab_length]
  refine firstI_is hk (decide_eq_true (tab_getD w hk)) fun j hj => decide_eq_false ?_
  rw [tab_getD w (by omega)]
  exact hb j hj
theorem idx_max {n : Nat} (hn : 1 ≤ n) (w : Nat → Int) : idxS (tab n w) (w (amax n w)) = amax n w := by
  obtain ⟨a1, a2, a3⟩ := amax_spec w n hn
  exact idx_at a1 fun j hj => by have := a3 j hj; omega
theorem idx_min {n : Nat} (hn : 1 ≤ n) (w : Nat → Int) : idxS (tab n w) (w (amin n w)) = amin n w := by
  obtain ⟨a1, a2, a3⟩ := amin_spec w n hn
  exact idx_at a1 fun j hj => by have := a3 j hj; omega
theorem replicate_tab {n : Nat} {v : Int} : List.replicate n v = tab n (fun _ => v) :=
  (replicate_ext (tab_length n _) fun i hi => by rw [tab_getD _ hi]).symm
def farI (w : Nat → Int) (i : Nat) (b f : Int) : Prop := b = (amax i w : Int) ∧ ((i = 0 ∧ f = 0) ∨ (1 ≤ i ∧ f = w (amax i w)))
theorem farI_zero (w : Nat → Int) : farI w 0 0 0 := ⟨rfl, .inl ⟨rfl, rfl⟩⟩
theorem farI_up {w : Nat → Int} {i : Nat} {b f : Int} (h : farI w i b f) (c : f < w i) : farI w (i + 1) i (w i) := by
  obtain ⟨h1, h2⟩ := h
  rcases h2 with ⟨rfl, h2⟩ | ⟨h2, h3⟩
  · have e : amax 1 w = 0 := by rw [amax_succ]; split <;> rfl
    exact ⟨by rw [e], .inr ⟨by omega, by rw [e]⟩⟩
  · have e : amax (i + 1) w = i := by rw [amax_succ, if_pos (by omega)]
    exact ⟨by rw [e], .inr ⟨by omega, by rw [e]⟩⟩
theorem farI_stay {w : Nat → Int} {i : Nat} {b f : Int} (h : farI w i b f) (h0 : 0 ≤ w i) (c : ¬ f < w i) : farI w (i + 1) b f := by
  obtain ⟨h1, h2⟩ := h
  rcases h2 with ⟨rfl, h2⟩ | ⟨h2, h3⟩
  · have e : amax 1 w = 0 := by rw [amax_succ]; split <;> rfl
    have e0 : amax 0 w = 0 := rfl
    rw [e0] at h1
    exact ⟨by rw [e]; exact h1, .inr ⟨by omega, by rw [e]; omega⟩⟩
  · have e : amax (i + 1) w = amax i w := by rw [amax_succ, if_neg (by omega)]
    exact ⟨by rw [e]; exact h1, .inr ⟨by omega, by rw [e]; exact h3⟩⟩
theorem farI_end {w : Nat → Int} {n : Nat} {b f : Int} (h : farI w n b f) (hn : 1 ≤ n) : b = (amax n w : Int) ∧ f = w (amax n w) := by
  obtain ⟨h1, h2⟩ := h
  rcases h2 with ⟨h2, _⟩ | ⟨_, h3⟩
  · omega
  · exact ⟨h1, h3⟩
theorem chooseB_iff {m : Int} {l : List (List Int)} {n : Int} : chooseB m l n = true ↔ metB m = true ∧ fitB l = true ∧ 1 ≤ n ∧ n ≤ 8 := by
  unfold chooseB
  simp only [Bool.and_eq_true, decide_eq_true_eq]
theorem choose_bad {m : Int} {l : List (List Int)} {n : Int} (h : chooseB m l n = true → False) : chooseR m l n = ([], 1) := if_neg h
theorem choose_end {m : Int} {l : List (List Int)} {n : Int} (h : chooseB m l n = true) {k : Nat} (hk : (k : Int) + 1 = n) : chooseR m l n = (chooseP m l k, 0) := by
  unfold chooseR
  rw [if_pos h, show n.toNat - 1 = k by omega]
theorem choose_brk {m : Int} {l : List (List Int)} {n : Int} (h : chooseB m l n = true) {k : Nat} (hk : (k : Int) + 1 ≤ n) (hz : leastP m l (chooseP m l k) (nextP m l (chooseP m l k)) = 0) : chooseR m l n = (chooseP m l k, 0) := by
  unfold chooseR
  rw [if_pos h, show n.toNat - 1 = k + (n.toNat - 1 - k) by omega, choose_stop hz]
theorem fit_len {l : List (List Int)} (h : fitB l = true) : 1 ≤ l.length ∧ l.length ≤ 4096 := (fitB_iff.1 h).1
theorem fit_vec {l : List (List Int)} (h : fitB l = true) {k : Nat} (hk : k < l.length) : vecOk (l.getD k []) = true := (alike_iff.1 ((fitB_iff.1 h).2 k hk)).2.1
theorem fit_alike {l : List (List Int)} (h : fitB l = true) {a b : Nat} (ha : a < l.length) (hb : b < l.length) : alikeB (l.getD a []) (l.getD b []) = true :=
  alike_trans (alike_symm ((fitB_iff.1 h).2 a ha)) ((fitB_iff.1 h).2 b hb)
theorem chosen_near {m : Int} {l : List (List Int)} (hm : metB m = true) (hf : fitB l = true) {out : List Int} (h1 : 1 ≤ out.length) (ho : ∀ j ∈ out, 0 ≤ j ∧ j < l.length) {k : Nat} (hk : k < l.length) : Go.Proofs.Ytdhfjgooamoodaa.nearP3 m (out.map fun j => l.getD j.toNat []) (l.getD k []) := by
  refine ⟨hm, by simpa using h1, fun i hi => ?_⟩
  rw [List.length_map] at hi
  have hj := ho _ (getD_mem out 0 hi)
  have e : (out.map fun j => l.getD j.toNat []).getD i [] = l.getD (out.getD i 0).toNat [] := by
    rw [List.getD_eq_getElem?_getD, List.getElem?_map, List.getElem?_eq_getElem hi, List.getD_eq_getElem?_getD (l := out), List.getElem?_eq_getElem hi]
    rfl
  rw [e]
  exact fit_alike hf (by omega) hk
end Go.PL
namespace Go.Proofs.Ytdhfjgooamoodaa
open Go.AM Go.PL
set_option linter.unusedVariables false
theorem sat_choose : Sat Try.prog 11 chooseSp := by
  refine sat_nf (C := G2) ssG2 (fun x => choose_nf x.1 x.2.1 x.2.2) fun (⟨m, l, n⟩ : Int × List (List Int) × Int) hk _ => ?_
  dsimp only
  rw [met_val]
  refine ⟨trivial, fun h => (choose_bad fun e => by rw [(chooseB_iff.1 e).1] at h; cases h).symm, fun hm => ⟨trivial, fun h => (choose_bad fun e => by rw [(chooseB_iff.1 e).2.1] at h; cases h).symm, fun hf =>
    ⟨fun h => (choose_bad fun e => by have := dt h; have := (chooseB_iff.1 e).2.2; omega).symm, fun h1 => ⟨fun h => (choose_bad fun e => by have := dt h; have := (chooseB_iff.1 e).2.2; omega).symm, fun h8 => ?_⟩⟩⟩⟩
  have hm := nf hm
  have hf := nf hf
  have h1 := df h1
  have h8 := df h8
  obtain ⟨l1, l2⟩ := fit_len hf
  obtain ⟨m1, m2⟩ := metB_iff.1 hm
  have hB := chooseB_iff.2 ⟨hm, hf, (show 1 ≤ n by omega), (show n ≤ 8 by omega)⟩
  have pre : ∀ a b, a < l.length → b < l.length → 1 ≤ m ∧ m ≤ 3 ∧ small 64 4000 (l.getD a []) ∧ small 64 4000 (l.getD b []) ∧ (l.getD a []).length = (l.getD b []).length := fun a b ha hb => ⟨m1, m2, alike_sm (fit_alike hf ha hb) (by omega)⟩
  have hnx : ∀ out, nextP m l out < l.length := fun out => (amax_spec _ _ l1).1
  refine ⟨⟨rfl, by omega, by omega⟩, fun x => m = x.2.1 ∧ l = x.2.2.1 ∧ takeI l.length (fun _ => 134217728) (leastP m l [0]) x.1 x.2.2.2, fun x => ((l.length : Int) - x.1).toNat, ⟨rfl, rfl, takeI_zero replicate_tab⟩, fun ⟨i, m', l', s⟩ ⟨e1, e2, hT⟩ => ?_⟩
  dsimp only at e1 e2 hT ⊢
  subst e1 e2
  refine ⟨fun g => ?_, fun g => ?_⟩
  · have g := dt g
    obtain ⟨t1, t2, t3, t4⟩ := hT
    exact ⟨⟨t1, g⟩, ⟨t1, by omega⟩, ⟨by omega, by omega⟩, pre 0 i.toNat (by omega) (by omega), ⟨t1, by omega⟩, i64s (by omega) (by omega), ⟨rfl, rfl, takeI_up ⟨t1, t2, t3, t4⟩ g rfl⟩, by omega⟩
  have e := takeI_end hT (df g)
  subst e
  have e1 := maxL_tab l1 (leastP m l [0])
  have e2 := idx_max l1 (leastP m l [0])
  rw [e1, e2]
  refine ⟨fun c => ⟨by rw [tab_length]; omega, trivial, fun z => (choose_brk hB (k := 0) (by have := dt c; omega) (dt z)).symm, fun z => ?_⟩, fun c => (choose_end hB (k := 0) (by have := df c; omega)).symm⟩
  have c := dt c
  have z := df z
  have hN := hnx [0]
  refine ⟨fun x => m = x.2.1 ∧ l = x.2.2.1 ∧ takeI l.length (leastP m l [0]) (leastP m l ([0] ++ [(nextP m l [0] : Int)])) x.1 x.2.2.2, fun x => ((l.length : Int) - x.1).toNat, ⟨rfl, rfl, takeI_zero rfl⟩, fun ⟨i, m', l', s⟩ ⟨e1, e2, hT⟩ => ?_⟩
  dsimp only at e1 e2 hT ⊢
  subst e1 e2
  refine ⟨fun g => ?_, fun g => ?_⟩
  · have g := dt g
    obtain ⟨t1, t2, t3, t4⟩ := hT
    exact ⟨⟨t1, g⟩, ⟨t1, by omega⟩, ⟨by omega, by show ((nextP m l [0] : Nat) : Int) < _; omega⟩, pre (nextP m l [0]) i.toNat hN (by omega), ⟨t1, by omega⟩, i64s (by omega) (by omega), ⟨rfl, rfl, takeI_up ⟨t1, t2, t3, t4⟩ g (leastP_app m l [0] _ _)⟩, by omega⟩
  have e := takeI_end hT (df g)
  subst e
  refine ⟨room8 bytesI8 (by simp), fun x => m = x.2.1 ∧ l = x.2.2.1 ∧ ∃ k, x.1 = chooseP m l k ∧ x.1.length = k + 1 ∧ (k : Int) + 1 ≤ n ∧ x.2.2.2 = tab l.length (leastP m l x.1), fun x => (n - (x.1.length : Int)).toNat,
    ⟨rfl, rfl, 1, (choose_go (n := 0) z).symm, rfl, by omega, rfl⟩, fun ⟨out, m', l', s⟩ ⟨e1, e2, k, h2, h3, h4, h5⟩ => ?_⟩
  dsimp only at e1 e2 h2 h3 h4 h5 ⊢
  subst e1 e2 h5
  have e1 := maxL_tab l1 (leastP m l out)
  have e2 := idx_max l1 (leastP m l out)
  rw [e1, e2]
  refine ⟨fun c => ⟨by rw [tab_length]; omega, trivial, fun z => ?_, fun z => ?_⟩, fun c => ?_⟩
  · rw [choose_brk hB h4 (by rw [← h2]; exact dt z), h2]
  · have c := dt c
    have z := df z
    have hN := hnx out
    refine ⟨fun x => m = x.2.1 ∧ l = x.2.2.1 ∧ out = x.2.2.2.2 ∧ takeI l.length (leastP m l out) (leastP m l (out ++ [(nextP m l out : Int)])) x.1 x.2.2.2.1, fun x => ((l.length : Int) - x.1).toNat, ⟨rfl, rfl, rfl, takeI_zero rfl⟩, fun ⟨i, m', l', s, o⟩ ⟨e1, e2, e3, hT⟩ => ?_⟩
    dsimp only at e1 e2 e3 hT ⊢
    subst e1 e2 e3
    refine ⟨fun g => ?_, fun g => ?_⟩
    · have g := dt g
      obtain ⟨t1, t2, t3, t4⟩ := hT
      exact ⟨⟨t1, g⟩, ⟨t1, by omega⟩, ⟨by omega, by show ((nextP m l out : Nat) : Int) < _; omega⟩, pre (nextP m l out) i.toNat hN (by omega), ⟨t1, by omega⟩, i64s (by omega) (by omega), ⟨rfl, rfl, rfl, takeI_up ⟨t1, t2, t3, t4⟩ g (leastP_app m l out _ _)⟩, by omega⟩
    have e := takeI_end hT (df g)
    subst e
    refine ⟨room8 bytesI8 (by rw [List.length_singleton]; omega), ⟨rfl, rfl, k + 1, ?_, ?_, by omega, rfl⟩, ?_⟩
    · rw [choose_go (by rw [← h2]; exact z), ← h2]
      rfl
    · rw [List.length_append, h3]
      rfl
    · rw [List.length_append, List.length_singleton]
      omega
  · rw [choose_end hB (k := k) (by have := df c; omega), h2]
end Go.Proofs.Ytdhfjgooamoodaa
