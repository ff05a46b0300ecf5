import Derived.Test.YtdhfjgooamoodaaGq
namespace Go.Proofs.Ytdhfjgooamoodaa
open Go.AM Go.PL
set_option linter.unusedVariables false
theorem pigeon : ∀ (n : Nat) (f : Nat → Nat), (∀ i, i ≤ n → f i < n) → ∃ a b, a < b ∧ b ≤ n ∧ f a = f b
  | 0, f, h => by have := h 0 (by omega); omega
  | n + 1, f, h => by
    by_cases hx : ∃ i, i ≤ n ∧ f i = f (n + 1)
    · obtain ⟨i, hi, he⟩ := hx
      exact ⟨i, n + 1, by omega, by omega, he⟩
    · have hne : ∀ i, i ≤ n → f i ≠ f (n + 1) := fun i hi he => hx ⟨i, hi, he⟩
      have hl := h (n + 1) (by omega)
      obtain ⟨a, b, h1, h2, h3⟩ := pigeon n (fun i => if f i < f (n + 1) then f i else f i - 1) fun i hi => by
        have a1 := hne i hi
        have a2 := h i (by omega)
        split <;> omega
      have a1 := hne a (by omega)
      have a2 := hne b (by omega)
      refine ⟨a, b, h1, by omega, ?_⟩
      split at h3 <;> split at h3 <;> omega
theorem choose_len (m : Int) (l : List (List Int)) : ∀ k, (chooseP m l k).length ≤ k + 1
  | 0 => Nat.le_refl _
  | k + 1 => by
    have ih := choose_len m l k
    show (stepP m l (chooseP m l k)).length ≤ _
    unfold stepP
    split
    · omega
    · rw [List.length_append, List.length_singleton]; omega
theorem app_lt {a : List Int} {x : Int} {i : Nat} (h : i < a.length) : (a ++ [x]).getD i 0 = a.getD i 0 := by
  rw [List.getD_eq_getElem?_getD, List.getElem?_append_left h, ← List.getD_eq_getElem?_getD]
theorem app_eq {a : List Int} {x : Int} : (a ++ [x]).getD a.length 0 = x := by
  rw [List.getD_eq_getElem?_getD, List.getElem?_append_right (by omega), Nat.sub_self]
  rfl
theorem choose_head {m : Int} {l : List (List Int)} (hl : 1 ≤ l.length) : ∀ k, (chooseP m l k).getD 0 0 = 0
  | 0 => rfl
  | k + 1 => by
    have ih := choose_head (m := m) hl k
    have h1 := (choose_in (m := m) hl k).2
    show (stepP m l (chooseP m l k)).getD 0 0 = 0
    unfold stepP
    split
    · exact ih
    · rw [app_lt (by omega)]; exact ih
theorem choose_short {m : Int} {l : List (List Int)} : ∀ k, (chooseP m l k).length < k + 1 → leastP m l (chooseP m l k) (nextP m l (chooseP m l k)) = 0
  | 0, h => by have : (chooseP m l 0).length = 1 := rfl; omega
  | k + 1, h => by
    by_cases hz : leastP m l (chooseP m l k) (nextP m l (chooseP m l k)) = 0
    · rw [choose_stop hz 1]; exact hz
    · rw [choose_go hz, List.length_append, List.length_singleton] at h
      exact absurd (choose_short k (by omega)) hz
theorem least_le {m : Int} {l : List (List Int)} {out : List Int} {k : Nat} (hk : k < l.length) : leastP m l out k ≤ leastP m l out (nextP m l out) := (amax_spec (leastP m l out) l.length (by omega)).2.1 k hk
theorem least_key {m : Int} {l : List (List Int)} {out : List Int} {k : Nat} {j : Int} (hj : j ∈ out) : leastP m l out k ≤ keyS m (l.getD j.toNat []) (l.getD k []) := by
  rw [leastP_eq]
  exact (lowP_le _ _).2 _ (List.mem_map.2 ⟨j, hj, rfl⟩)
theorem choose_pairs {m : Int} {l : List (List Int)} (hf : fitB l = true) : ∀ k a b, a < b → b < (chooseP m l k).length →
    leastP m l (chooseP m l k) (nextP m l (chooseP m l k)) ≤ keyS m (l.getD ((chooseP m l k).getD a 0).toNat []) (l.getD ((chooseP m l k).getD b 0).toNat []) ∧ 0 < keyS m (l.getD ((chooseP m l k).getD a 0).toNat []) (l.getD ((chooseP m l k).getD b 0).toNat [])
  | 0, a, b, h1, h2 => by have : (chooseP m l 0).length = 1 := rfl; omega
  | k + 1, a, b, h1, h2 => by
    have l1 := (fit_len hf).1
    obtain ⟨c1, c2⟩ := choose_in (m := m) l1 k
    by_cases hz : leastP m l (chooseP m l k) (nextP m l (chooseP m l k)) = 0
    · rw [choose_stop hz 1] at h2 ⊢
      exact choose_pairs hf k a b h1 h2
    · rw [choose_go hz] at h2 ⊢
      rw [List.length_append, List.length_singleton] at h2
      have hN : ∀ out, nextP m l out < l.length := fun out => (amax_spec _ _ l1).1
      have hp := (leastP_nonneg (m := m) hf c1 (hN (chooseP m l k))).1
      have hm : leastP m l (chooseP m l k ++ [(nextP m l (chooseP m l k) : Int)]) (nextP m l (chooseP m l k ++ [(nextP m l (chooseP m l k) : Int)])) ≤ leastP m l (chooseP m l k) (nextP m l (chooseP m l k)) := by
        rw [leastP_app]
        have := least_le (m := m) (l := l) (out := chooseP m l k) (hN (chooseP m l k ++ [(nextP m l (chooseP m l k) : Int)]))
        omega
      rcases Nat.lt_or_ge b (chooseP m l k).length with h | h
      · rw [app_lt (show a < _ by omega), app_lt h]
        have ih := choose_pairs hf k a b h1 h
        omega
      · have e : b = (chooseP m l k).length := by omega
        subst e
        rw [app_lt h1, app_eq]
        have hk := least_key (m := m) (l := l) (out := chooseP m l k) (k := nextP m l (chooseP m l k)) (getD_mem (chooseP m l k) 0 h1)
        have e2 : (((nextP m l (chooseP m l k) : Nat) : Int)).toNat = nextP m l (chooseP m l k) := by omega
        rw [e2]
        omega
theorem cover_is {m : Int} {l : List (List Int)} (hf : fitB l = true) {out : List Int} (h1 : 1 ≤ out.length) (ho : ∀ j ∈ out, 0 ≤ j ∧ j < l.length) : coverS m (out.map fun j => l.getD j.toNat []) l = leastP m l out (nextP m l out) := by
  have l1 := (fit_len hf).1
  have hN : nextP m l out < l.length := (amax_spec _ _ l1).1
  unfold coverS
  obtain ⟨a1, a2, a3⟩ := maxK_spec (fun i => nearK m (out.map fun j => l.getD j.toNat []) (l.getD i [])) 0 l.length
  have e1 := a2 _ hN
  rw [near_least hf h1 ho hN] at e1
  have e2 := (leastP_nonneg (m := m) hf ho hN).1
  rcases a3 with h | ⟨i, hi, h⟩
  · omega
  · rw [near_least hf h1 ho hi] at h
    have := least_le (m := m) (l := l) (out := out) hi
    omega
theorem picked_piv {m : Int} {l : List (List Int)} (hm : metB m = true) (hf : fitB l = true) {ps : List (List Int)} (h1 : 1 ≤ ps.length) (h8 : ps.length ≤ 8) (ho : ∀ k, k < ps.length → ∃ j, j < l.length ∧ ps.getD k [] = l.getD j []) : bothB m ps l = true := by
  have l1 := (fit_len hf).1
  obtain ⟨j0, hj0, e0⟩ := ho 0 (by omega)
  refine bothB_iff.2 ⟨pivB_iff.2 ⟨hm, fitB_iff.2 ⟨⟨h1, by omega⟩, fun k hk => ?_⟩, h8⟩, hf, by rw [e0]; exact fit_alike hf hj0 (by omega)⟩
  obtain ⟨j, hj, e⟩ := ho k hk
  rw [e0, e]
  exact fit_alike hf hj0 hj
theorem cover_key {m : Int} {p l : List (List Int)} (hB : bothB m p l = true) : 0 ≤ coverS m p l ∧ coverS m p l ≤ 134217728 ∧ ∀ i, i < l.length → nearK m p (l.getD i []) ≤ coverS m p l := by
  obtain ⟨p1, p2, l1, l2⟩ := both_len hB
  unfold coverS
  obtain ⟨a1, a2, a3⟩ := maxK_spec (fun i => nearK m p (l.getD i [])) 0 l.length
  refine ⟨a1, ?_, a2⟩
  rcases a3 with h | ⟨i, hi, h⟩
  · rw [h]; decide
  · rw [h]
    have hn := (amin_spec (keyAt m p (l.getD i [])) p.length p1).1
    exact (key_le (m := m) (piv_alike (bothB_iff.1 hB).1 (both_alike hB hi) hn)).2
/-- Farthest first is at most twice as far as the best. -/
theorem cover_well {m : Int} {l : List (List Int)} (hm : metB m = true) (hf : fitB l = true) {k : Nat} (hk : k + 1 ≤ 8) {os : List (List Int)} (hn : os.length = k + 1) (hO : bothB m os l = true) :
    leastP m l (chooseP m l k) (nextP m l (chooseP m l k)) ≤ highS m (coverS m os l) (coverS m os l) := by
  have l1 := (fit_len hf).1
  obtain ⟨c1, c2⟩ := choose_in (m := m) l1 k
  obtain ⟨o1, o2, o3⟩ := cover_key hO
  have ko : keyP (coverS m os l) := Go.PL.keyP_iff.2 ⟨o1, o2⟩
  have hb := low_bounds (m := m) ko ko
  by_cases hz : leastP m l (chooseP m l k) (nextP m l (chooseP m l k)) = 0
  · omega
  have hlen : (chooseP m l k).length = k + 1 := by
    have h1 := choose_len m l k
    by_cases h2 : (chooseP m l k).length < k + 1
    · exact absurd (choose_short k h2) hz
    · omega
  have hN : nextP m l (chooseP m l k) < l.length := (amax_spec _ _ l1).1
  have hgo := choose_go hz
  have hin := (choose_in (m := m) l1 (k + 1)).1
  have hl2 : (chooseP m l (k + 1)).length = k + 2 := by rw [hgo, List.length_append, List.length_singleton, hlen]
  have hat : ∀ i, i ≤ k + 1 → ((chooseP m l (k + 1)).getD i 0).toNat < l.length := fun i hi => by
    have := hin _ (getD_mem (chooseP m l (k + 1)) 0 (show i < _ by omega))
    omega
  obtain ⟨a, b, hab, hbn, he⟩ := pigeon (k + 1) (fun i => nearI m os (l.getD ((chooseP m l (k + 1)).getD i 0).toNat [])) fun i hi => by
    have := (amin_spec (keyAt m os (l.getD ((chooseP m l (k + 1)).getD i 0).toNat [])) os.length (by omega)).1
    show nearI m os _ < k + 1
    unfold nearI
    omega
  have hA := hat a (by omega)
  have hB := hat b (by omega)
  have key : leastP m l (chooseP m l k) (nextP m l (chooseP m l k)) ≤ keyS m (l.getD ((chooseP m l (k + 1)).getD a 0).toNat []) (l.getD ((chooseP m l (k + 1)).getD b 0).toNat []) := by
    rcases Nat.lt_or_ge b (chooseP m l k).length with h | h
    · have := (choose_pairs (m := m) hf k a b hab h).1
      rw [hgo, app_lt (show a < _ by omega), app_lt h]
      exact this
    · have e : b = (chooseP m l k).length := by omega
      rw [e, hgo, app_lt (show a < _ by omega), app_eq]
      have hk := least_key (m := m) (l := l) (out := chooseP m l k) (k := nextP m l (chooseP m l k)) (getD_mem (chooseP m l k) 0 (show a < _ by omega))
      have e2 : (((nextP m l (chooseP m l k) : Nat) : Int)).toNat = nextP m l (chooseP m l k) := by omega
      rw [e2]
      exact hk
  generalize (chooseP m l (k + 1)).getD a 0 = x at *
  generalize (chooseP m l (k + 1)).getD b 0 = y at *
  have na := o3 x.toNat hA
  have nb := o3 y.toNat hB
  have hj := (amin_spec (keyAt m os (l.getD x.toNat [])) os.length (by omega)).1
  have hj : nearI m os (l.getD x.toNat []) < os.length := hj
  unfold nearK at na nb
  rw [← he] at nb
  unfold keyAt at na nb
  have g1 := piv_alike (bothB_iff.1 hO).1 (both_alike hO hA) hj
  have g2 := piv_alike (bothB_iff.1 hO).1 (both_alike hO hB) hj
  have t := (key_tri1 (m := m) (alike_symm g1) g2).2
  rw [keyS_comm m (l.getD x.toNat []) (os.getD (nearI m os (l.getD x.toNat [])) [])] at t
  have hh := high_mono2 (m := m) (key_keyP (m := m) g1) ko (key_keyP (m := m) g2) ko na nb
  omega
end Go.Proofs.Ytdhfjgooamoodaa
