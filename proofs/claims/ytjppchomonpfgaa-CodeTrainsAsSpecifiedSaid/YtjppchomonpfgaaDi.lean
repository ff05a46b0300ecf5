import Derived.Test.YtjppchomonpfgaaDf
namespace Go.PL
open Go.AM
set_option linter.unusedVariables false

/-! ### What training makes -/
theorem trainBk_ok {l : List (List Int)} {c : List Int} {w : Int} (h : (trainBk l c w).2 = 0) : (alikeL l = true ∧ l.length ≤ 4096) ∧ (1 ≤ w ∧ w ≤ 256) ∧ cutB c (l.getD 0 []).length = true ∧ (trainBk l c w).1 = (((l.getD 0 []).length : Int), c, tabL c.length (trWords l c (l.getD 0 []).length w), ()) := by
  unfold trainBk at h ⊢
  by_cases h1 : alikeL l = false ∨ w < 1
  · rw [if_pos h1] at h; exact absurd h (by simp)
  · rw [if_neg h1] at h ⊢
    by_cases h2 : 4096 < l.length ∨ 256 < w
    · rw [if_pos h2] at h; exact absurd h (by simp)
    · rw [if_neg h2] at h ⊢
      by_cases h3 : cutB c (l.getD 0 []).length = false
      · rw [if_pos h3] at h; exact absurd h (by simp)
      · rw [if_neg h3] at h ⊢
        exact ⟨⟨by simpa using fun e => h1 (.inl e), by omega⟩, ⟨by omega, by omega⟩, by simpa using h3, rfl⟩
theorem nextS_lt {l : List (List Int)} (hl : 1 ≤ l.length) (f t : Int) (ws : List (List Int)) : nextS l f t ws < l.length := (amax_spec _ _ hl).1
theorem train_words {l : List (List Int)} (hl : 1 ≤ l.length) (f t : Int) : ∀ n, ∀ w, w ∈ trainS l f t n → ∃ j, j < l.length ∧ w = ptS f t (l.getD j [])
  | 0, w, h => by cases h
  | n + 1, w, h => by
    have h : w ∈ stepS l f t (trainS l f t n) := h
    unfold stepS at h
    split at h
    · exact train_words hl f t n w h
    · rcases List.mem_append.1 h with h | h
      · exact train_words hl f t n w h
      · exact ⟨_, nextS_lt hl f t _, by simpa using h⟩
theorem train_len (l : List (List Int)) (f t : Int) : ∀ n, (trainS l f t n).length ≤ n
  | 0 => Nat.le_refl _
  | n + 1 => by
    have ih := train_len l f t n
    show (stepS l f t (trainS l f t n)).length ≤ n + 1
    unfold stepS
    split
    · omega
    · rw [List.length_append, List.length_singleton]; omega
theorem train_prefix1 (l : List (List Int)) (f t : Int) (n : Nat) : ∃ r, trainS l f t (n + 1) = trainS l f t n ++ r := by
  show ∃ r, stepS l f t (trainS l f t n) = _
  unfold stepS
  split
  · exact ⟨[], by simp⟩
  · exact ⟨_, rfl⟩
theorem train_prefix (l : List (List Int)) (f t : Int) (n : Nat) : ∀ k, ∃ r, trainS l f t (n + k) = trainS l f t n ++ r
  | 0 => ⟨[], by simp⟩
  | k + 1 => by
    obtain ⟨r, hr⟩ := train_prefix l f t n k
    obtain ⟨s, hs⟩ := train_prefix1 l f t (n + k)
    exact ⟨r ++ s, by rw [← Nat.add_assoc, hs, hr, List.append_assoc]⟩
theorem far_init (l : List (List Int)) (f t : Int) : nextS l f t [] = 0 := by
  have : ∀ n, amax n (farS l f t []) = 0 := by
    intro n
    induction n with
    | zero => rfl
    | succ n ih => rw [amax_succ, ih, if_neg (by rw [far_nil, far_nil]; omega)]
  exact this _
theorem train_one (l : List (List Int)) (f t : Int) : trainS l f t 1 = [ptS f t (l.getD 0 [])] := by
  have := train_go (l := l) (f := f) (t := t) (n := 0) (by show ¬ farS l f t [] _ = 0; rw [far_nil]; decide)
  rw [this]
  show [] ++ [ptS f t (l.getD (nextS l f t []) [])] = _
  rw [far_init]
  rfl
theorem train_pos (l : List (List Int)) (f t : Int) {n : Nat} (hn : 1 ≤ n) : 1 ≤ (trainS l f t n).length := by
  obtain ⟨r, hr⟩ := train_prefix l f t 1 (n - 1)
  rw [show 1 + (n - 1) = n by omega, train_one] at hr
  rw [hr]
  simp
/-- The book that training makes is right. -/
theorem train_book {l : List (List Int)} {c : List Int} {w : Int} (h : (trainBk l c w).2 = 0) : bookB (trainBk l c w).1 = true := by
  obtain ⟨⟨ha, hl⟩, ⟨w1, w2⟩, hc, e⟩ := trainBk_ok h
  obtain ⟨hl1, hal⟩ := alikeL_iff.1 ha
  rw [e]
  refine bookB_iff.2 ⟨hc, tabL_length _ _, fun k hk => ?_⟩
  have hk : k < c.length := hk
  dsimp only
  rw [tabL_getD _ _ hk]
  have e1 := end_gt hc hk
  have e2 := cut_mono hc k hk
  have ht := train_len l (c.getD k 0) (endN c (l.getD 0 []).length k) w.toNat
  have hp := train_pos l (c.getD k 0) (endN c (l.getD 0 []).length k) (n := w.toNat) (by omega)
  refine wordsB_iff.2 ⟨⟨hp, by unfold trWords; omega⟩, fun i hi => ?_⟩
  obtain ⟨j, hj, ew⟩ := train_words hl1 (c.getD k 0) (endN c (l.getD 0 []).length k) w.toNat _ (Go.PL.getD_mem _ [] hi)
  obtain ⟨x1, x2, x3⟩ := alike_iff.1 (hal j hj)
  have ew : (trWords l c (l.getD 0 []).length w k).getD i [] = ptS (c.getD k 0) (endN c (l.getD 0 []).length k) (l.getD j []) := ew
  rw [ew]
  exact wordB_iff.2 ⟨pt_vec e2.1 e1.1 (by omega) x2, pt_len e2.1 e1.1 (by omega)⟩
theorem train_right {l : List (List Int)} {c : List Int} {w : Int} (h : (trainBk l c w).2 = 0) {m : Int} (hm : 1 ≤ m ∧ m ≤ 3) {k : Nat} (hk : k < l.length) : rightB (trainBk l c w).1 m (l.getD k []) (l.getD k []) = true := by
  obtain ⟨⟨ha, hl⟩, ⟨w1, w2⟩, hc, e⟩ := trainBk_ok h
  obtain ⟨x1, x2, x3⟩ := alike_iff.1 ((alikeL_iff.1 ha).2 k hk)
  have hd : ((l.getD k []).length : Int) = (trainBk l c w).1.1 := by rw [e]; dsimp only; omega
  exact rightB_iff.2 ⟨train_book h, hm, x2, x2, hd, hd⟩

/-! ### Everything is covered in the end -/
def zc (p : Nat → Bool) : Nat → Nat
  | 0 => 0
  | n + 1 => zc p n + (if p n then 1 else 0)
theorem zc_le (p : Nat → Bool) : ∀ n, zc p n ≤ n
  | 0 => Nat.le_refl _
  | n + 1 => by have := zc_le p n; unfold zc; split <;> omega
theorem zc_full {p : Nat → Bool} : ∀ {n}, n ≤ zc p n → ∀ k, k < n → p k = true
  | 0, _, k, hk => by omega
  | n + 1, h, k, hk => by
    have h1 := zc_le p n
    unfold zc at h
    split at h
    · rename_i hp
      by_cases e : k = n
      · rw [e]; exact hp
      · exact zc_full (n := n) (by omega) k (by omega)
    · omega
theorem zc_mono {p q : Nat → Bool} : ∀ {n}, (∀ k, k < n → p k = true → q k = true) → zc p n ≤ zc q n
  | 0, _ => Nat.le_refl _
  | n + 1, h => by
    have ih := zc_mono (n := n) fun k hk => h k (by omega)
    have hn := h n (by omega)
    unfold zc
    cases e : p n
    · rw [if_neg (by simp)]; omega
    · rw [if_pos rfl, if_pos (hn e)]; omega
theorem zc_lt {p q : Nat → Bool} : ∀ {n}, (∀ k, k < n → p k = true → q k = true) → ∀ j, j < n → p j = false → q j = true → zc p n < zc q n
  | 0, _, j, hj, _, _ => by omega
  | n + 1, h, j, hj, hp, hq => by
    by_cases e : j = n
    · subst e
      have ih := zc_mono (n := j) fun k hk => h k (by omega)
      unfold zc
      rw [if_neg (by simp [hp]), if_pos hq]
      omega
    · have ih := zc_lt (n := n) (fun k hk => h k (by omega)) j (by omega) hp hq
      have hn := h n (by omega)
      unfold zc
      cases e' : p n
      · rw [if_neg (by simp)]; omega
      · rw [if_pos rfl, if_pos (hn e')]; omega
theorem far_nonneg (l : List (List Int)) (f t : Int) (k : Nat) : ∀ ws, 0 ≤ farS l f t ws k := by
  intro ws
  have : ∀ (ws : List (List Int)) (a : Int), 0 ≤ a → 0 ≤ ws.foldl (fun s w => min s (keyS 2 w (ptS f t (l.getD k [])))) a := by
    intro ws
    induction ws with
    | nil => intro a h; exact h
    | cons w ws ih => intro a h; exact ih _ (by have := keyS_nonneg 2 w (ptS f t (l.getD k [])); dsimp only; omega)
  exact this ws _ (by decide)
theorem cover_count {l : List (List Int)} (hl : 1 ≤ l.length) (f t : Int) : ∀ n, farS l f t (trainS l f t n) (nextS l f t (trainS l f t n)) = 0 ∨ n ≤ zc (fun k => decide (farS l f t (trainS l f t n) k = 0)) l.length
  | 0 => .inr (Nat.zero_le _)
  | n + 1 => by
    by_cases hz : farS l f t (trainS l f t n) (nextS l f t (trainS l f t n)) = 0
    · have e := train_stop hz 1
      rw [e]
      exact .inl hz
    · right
      rcases cover_count hl f t n with h | h
      · exact absurd h hz
      · have e := train_go hz
        have ha : ∀ k, farS l f t (trainS l f t (n + 1)) k = min (farS l f t (trainS l f t n) k) (keyS 2 (ptS f t (l.getD (nextS l f t (trainS l f t n)) [])) (ptS f t (l.getD k []))) := fun k => by rw [e, far_app]
        have := zc_lt (p := fun k => decide (farS l f t (trainS l f t n) k = 0)) (q := fun k => decide (farS l f t (trainS l f t (n + 1)) k = 0)) (n := l.length) (fun k hk h => by
            have h := of_decide_eq_true h
            have h2 := keyS_nonneg 2 (ptS f t (l.getD (nextS l f t (trainS l f t n)) [])) (ptS f t (l.getD k []))
            refine decide_eq_true ?_
            rw [ha, h]
            omega) _ (nextS_lt hl f t _) (decide_eq_false hz) (by
            have h2 := far_nonneg l f t (nextS l f t (trainS l f t n)) (trainS l f t n)
            refine decide_eq_true ?_
            rw [ha, (key_zero rfl).2 rfl]
            omega)
        omega
theorem cover_all {l : List (List Int)} (hl : 1 ≤ l.length) (f t : Int) {n : Nat} (hn : l.length ≤ n) {k : Nat} (hk : k < l.length) : farS l f t (trainS l f t n) k = 0 := by
  rcases cover_count hl f t n with h | h
  · have h1 := (amax_spec (farS l f t (trainS l f t n)) l.length hl).2.1 k hk
    have h2 := far_nonneg l f t k (trainS l f t n)
    have h1 : farS l f t (trainS l f t n) k ≤ farS l f t (trainS l f t n) (nextS l f t (trainS l f t n)) := h1
    omega
  · exact of_decide_eq_true (zc_full (p := fun k => decide (farS l f t (trainS l f t n) k = 0)) (n := l.length) (by omega) k hk)
theorem far_word {l : List (List Int)} {f t : Int} {k : Nat} : ∀ {ws : List (List Int)} {a : Int}, a ≠ 0 → ws.foldl (fun s w => min s (keyS 2 w (ptS f t (l.getD k [])))) a = 0 → ∃ w, w ∈ ws ∧ keyS 2 w (ptS f t (l.getD k [])) = 0
  | [], a, ha, h => absurd h ha
  | w :: ws, a, ha, h => by
    by_cases e : keyS 2 w (ptS f t (l.getD k [])) = 0
    · exact ⟨w, List.mem_cons_self .., e⟩
    · have h : ws.foldl (fun s w => min s (keyS 2 w (ptS f t (l.getD k [])))) (min a (keyS 2 w (ptS f t (l.getD k [])))) = 0 := h
      obtain ⟨w', h1, h2⟩ := far_word (ws := ws) (by omega) h
      exact ⟨w', List.mem_cons_of_mem _ h1, h2⟩
end Go.PL
namespace Go.Proofs.Ytjppchomonpfgaa
open Go.AM Go.PL
set_option linter.unusedVariables false
theorem least_append {m : Int} {A r : List (List Int)} {v : List Int} (h : 1 ≤ A.length) : leastS m (A ++ r) v ≤ leastS m A v := by
  obtain ⟨h1, h2, h3⟩ := bestS_spec (m := m) (ws := A) (v := v) h
  have := (bestS_spec (m := m) (ws := A ++ r) (v := v) (by rw [List.length_append]; omega)).2.1 (bestS m A v) (by rw [List.length_append]; omega)
  rw [List.getD_eq_getElem?_getD, List.getElem?_append_left h1, ← List.getD_eq_getElem?_getD] at this
  exact this
theorem train_resid_le {l : List (List Int)} {c : List Int} {w w' : Int} (h : (trainBk l c w).2 = 0) (h' : (trainBk l c w').2 = 0) (hw : w ≤ w') (m : Int) (v : List Int) : residS (trainBk l c w').1 m v ≤ residS (trainBk l c w).1 m v := by
  obtain ⟨⟨ha, hl⟩, ⟨w1, w2⟩, hc, e⟩ := trainBk_ok h
  obtain ⟨_, _, _, e'⟩ := trainBk_ok h'
  rw [e, e']
  unfold residS
  dsimp only
  refine foldJ_mono fun k hk => ?_
  rw [tabL_getD _ _ hk, tabL_getD _ _ hk]
  unfold trWords
  obtain ⟨r, hr⟩ := train_prefix l (c.getD k 0) (endN c (l.getD 0 []).length k) w.toNat (w'.toNat - w.toNat)
  rw [show w.toNat + (w'.toNat - w.toNat) = w'.toNat by omega] at hr
  rw [hr]
  exact least_append (train_pos _ _ _ (by omega))
theorem worst_le {l : List (List Int)} {c : List Int} {w w' : Int} (h : (trainBk l c w).2 = 0) (h' : (trainBk l c w').2 = 0) (hw : w ≤ w') (m : Int) : worstS (trainBk l c w').1 m l ≤ worstS (trainBk l c w).1 m l :=
  foldJ_mono fun k _ => train_resid_le h h' hw m _
theorem worst_zero {l : List (List Int)} {c : List Int} {w : Int} (h : (trainBk l c w).2 = 0) (hw : (l.length : Int) ≤ w) (m : Int) : worstS (trainBk l c w).1 m l = 0 := by
  obtain ⟨⟨ha, hl⟩, ⟨w1, w2⟩, hc, e⟩ := trainBk_ok h
  obtain ⟨hl1, hal⟩ := alikeL_iff.1 ha
  refine foldJ_zero fun i hi => ?_
  rw [e]
  unfold residS
  dsimp only
  refine foldJ_zero fun k hk => ?_
  rw [tabL_getD _ _ hk]
  unfold trWords
  have e1 := end_gt hc hk
  have e2 := cut_mono hc k hk
  have hz := cover_all hl1 (c.getD k 0) (endN c (l.getD 0 []).length k) (n := w.toNat) (by omega) hi
  obtain ⟨x, x1, x2⟩ := far_word (by decide) hz
  obtain ⟨j, hj, ew⟩ := train_words hl1 _ _ _ _ x1
  have hp := pt_alike ha e2.1 e1.1 e1.2 hj hi
  rw [← ew] at hp
  have hx := (key_zero (alike_iff.1 hp).2.2).1 x2
  obtain ⟨q, q1, q2⟩ := List.getElem_of_mem x1
  have hb := (bestS_spec (m := m) (ws := trainS l (c.getD k 0) (endN c (l.getD 0 []).length k) w.toNat) (v := partS c (l.getD 0 []).length k (l.getD i [])) (train_pos _ _ _ (by omega))).2.1 q q1
  have hg : (trainS l (c.getD k 0) (endN c (l.getD 0 []).length k) w.toNat).getD q [] = ptS (c.getD k 0) (endN c (l.getD 0 []).length k) (l.getD i []) := by
    rw [List.getD_eq_getElem?_getD, List.getElem?_eq_getElem q1, ← hx, ← q2]
    rfl
  rw [hg] at hb
  have hk0 : keyS m (ptS (c.getD k 0) (endN c (l.getD 0 []).length k) (l.getD i [])) (partS c (l.getD 0 []).length k (l.getD i [])) = 0 := (key_zero rfl).2 rfl
  rw [hk0] at hb
  have hn : 0 ≤ leastS m (trainS l (c.getD k 0) (endN c (l.getD 0 []).length k) w.toNat) (partS c (l.getD 0 []).length k (l.getD i [])) := keyS_nonneg _ _ _
  omega
theorem train_err {l : List (List Int)} {c : List Int} {w w' : Int} (h : 1 ≤ w ∧ w ≤ 256) (h' : 1 ≤ w' ∧ w' ≤ 256) : (trainBk l c w).2 = (trainBk l c w').2 := by
  have a : ∀ w : Int, 1 ≤ w ∧ w ≤ 256 → (trainBk l c w).2 = if alikeL l = false then 1 else if 4096 < l.length then 2 else if cutB c (l.getD 0 []).length = false then 80 else 0 := fun w h => by
    unfold trainBk
    have e1 : (alikeL l = false ∨ w < 1) ↔ alikeL l = false := ⟨fun x => x.elim id (fun y => absurd h.1 (by omega)), .inl⟩
    have e2 : (4096 < l.length ∨ 256 < w) ↔ 4096 < l.length := ⟨fun x => x.elim id (fun y => absurd h.2 (by omega)), .inl⟩
    simp only [e1, e2]
    repeat' split
    all_goals rfl
  rw [a w h, a w' h']
end Go.Proofs.Ytjppchomonpfgaa
