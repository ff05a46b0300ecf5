import Derived.Test.YtdhfjgooamoodaaGn
namespace Go.Proofs.Ytdhfjgooamoodaa
open Go.AM Go.PL
set_option linter.unusedVariables false
theorem rf {α : Type} [DecidableEq α] (x : α) : decide (x = x) = true := decide_eq_true rfl
theorem rff {α : Type} [DecidableEq α] {x : α} {q : Prop} (h : decide (x = x) = false) : q := absurd rfl (df h)
theorem sat_law1 : Sat Try.prog 3 (lawSp [I, LL, LL, L, I]) := by
  refine sat_nf (C := GL) ssGL (fun x => law1_nf x.1 x.2.1 x.2.2.1 x.2.2.2.1 x.2.2.2.2) fun (⟨m, p, l, v, w⟩ : Int × List (List Int) × List (List Int) × List Int × Int) hk _ => ?_
  dsimp only
  refine ⟨trivial, fun _ => ⟨trivial, rfl⟩, fun _ => ⟨trivial, fun _ => ⟨trivial, rfl⟩, fun _ => ⟨fun _ => ⟨trivial, rfl⟩, fun _ => ⟨trivial, trivial, trivial, trivial, trivial, trivial, trivial, trivial, trivial, fun _ => ⟨trivial,
    fun _ => ⟨fun _ => ⟨fun _ => ⟨fun _ => ⟨fun _ => ⟨fun _ => ⟨fun _ => ⟨trivial, fun _ => rf _, rff⟩, rff⟩, rff⟩, rff⟩, rff⟩, rff⟩, rff⟩, rff⟩, fun h => (by cases h)⟩⟩⟩⟩
theorem fit_app {l : List (List Int)} {v : List Int} (h : fitB l = true) (ha : alikeB (l.getD 0 []) v = true) (hl : l.length ≤ 30) : fitB (l ++ [v]) = true := by
  obtain ⟨⟨l1, l2⟩, h2⟩ := fitB_iff.1 h
  have e0 : (l ++ [v]).getD 0 [] = l.getD 0 [] := by rw [List.getD_eq_getElem?_getD, List.getElem?_append_left (by omega), ← List.getD_eq_getElem?_getD]
  refine fitB_iff.2 ⟨⟨by simp, by rw [List.length_append, List.length_singleton]; omega⟩, fun k hk => ?_⟩
  rw [List.length_append, List.length_singleton] at hk
  rw [e0]
  rcases Nat.lt_or_ge k l.length with h | h
  · rw [List.getD_eq_getElem?_getD (i := k), List.getElem?_append_left h, ← List.getD_eq_getElem?_getD]
    exact h2 k h
  · have e : k = l.length := by omega
    subst e
    rw [List.getD_eq_getElem?_getD (i := l.length), List.getElem?_append_right (by omega), Nat.sub_self]
    exact ha
theorem app_at {l : List (List Int)} {v : List Int} {k : Nat} (h : k < l.length) : (l ++ [v]).getD k [] = l.getD k [] := by
  rw [List.getD_eq_getElem?_getD, List.getElem?_append_left h, ← List.getD_eq_getElem?_getD]
theorem app_last {l : List (List Int)} {v : List Int} : (l ++ [v]).getD l.length [] = v := by
  rw [List.getD_eq_getElem?_getD, List.getElem?_append_right (by omega), Nat.sub_self]
  rfl
theorem shell_at {m : Int} {p l : List (List Int)} {k : Nat} (hk : k < p.length) : (shellsS m p l).getD k sh0 = shellS m p l k := tabL_getD _ sh0 hk
theorem shell_in {m : Int} {p l : List (List Int)} (k : Nat) {i : Nat} (hi : i < l.length) : (shellS m p l k).1 ≤ keyAt m p (l.getD i []) k ∧ keyAt m p (l.getD i []) k ≤ (shellS m p l k).2.1 :=
  ⟨(minK_spec (fun i => keyAt m p (l.getD i []) k) _ l.length).2.1 i hi, (maxK_spec (fun i => keyAt m p (l.getD i []) k) _ l.length).2.1 i hi⟩
theorem shell_ends {m : Int} {p l : List (List Int)} (k : Nat) (h1 : 1 ≤ l.length) : (∃ i, i < l.length ∧ keyAt m p (l.getD i []) k = (shellS m p l k).1) ∧ ∃ i, i < l.length ∧ keyAt m p (l.getD i []) k = (shellS m p l k).2.1 := by
  constructor
  · rcases (minK_spec (fun i => keyAt m p (l.getD i []) k) (keyAt m p (l.getD 0 []) k) l.length).2.2 with h | ⟨i, hi, h⟩
    · exact ⟨0, by omega, h.symm⟩
    · exact ⟨i, hi, h.symm⟩
  · rcases (maxK_spec (fun i => keyAt m p (l.getD i []) k) (keyAt m p (l.getD 0 []) k) l.length).2.2 with h | ⟨i, hi, h⟩
    · exact ⟨0, by omega, h.symm⟩
    · exact ⟨i, hi, h.symm⟩
theorem shell_ok {m : Int} {p l : List (List Int)} (hB : bothB m p l = true) {k : Nat} (hk : k < p.length) : 0 ≤ (shellS m p l k).1 ∧ (shellS m p l k).1 ≤ (shellS m p l k).2.1 ∧ (shellS m p l k).2.1 ≤ 134217728 := by
  obtain ⟨p1, p2, l1, l2⟩ := both_len hB
  obtain ⟨⟨i, hi, ei⟩, j, hj, ej⟩ := shell_ends (m := m) (p := p) (l := l) k l1
  have h0 := shell_in (m := m) (p := p) (l := l) k hi
  have a1 := key_le (m := m) (piv_alike (bothB_iff.1 hB).1 (both_alike hB hi) hk)
  have a2 := key_le (m := m) (piv_alike (bothB_iff.1 hB).1 (both_alike hB hj) hk)
  unfold keyAt at ei ej h0
  omega
theorem shells_valid {m : Int} {p l : List (List Int)} (hB : bothB m p l = true) : validB (shellsS m p l) = true := by
  obtain ⟨p1, p2, l1, l2⟩ := both_len hB
  have e : (shellsS m p l).length = p.length := tabL_length _ _
  refine validB_iff.2 ⟨by rw [e]; exact p2, fun k hk => ?_⟩
  rw [e] at hk
  rw [shell_at hk]
  exact shB_iff.2 (shell_ok hB hk)
theorem keys_asked {m : Int} {p l : List (List Int)} {v : List Int} (hB : bothB m p l = true) (ha : alikeB (p.getD 0 []) v = true) : askB m (shellsS m p l) (keysS m p v) = true := by
  have e : (shellsS m p l).length = p.length := tabL_length _ _
  refine askB_iff.2 ⟨(pivB_iff.1 (bothB_iff.1 hB).1).1, shells_valid hB, by rw [keysS_len, e], fun k hk => ?_⟩
  rw [keysS_len] at hk
  rw [keysS_at hk]
  exact key_le (piv_alike (bothB_iff.1 hB).1 ha hk)
theorem lo_key {m : Int} {p l : List (List Int)} {v : List Int} (hB : bothB m p l = true) (ha : alikeB (p.getD 0 []) v = true) {i : Nat} (hi : i < l.length) : loS m (shellsS m p l) (keysS m p v) ≤ keyS m v (l.getD i []) ∧ keyS m v (l.getD i []) ≤ hiS m (shellsS m p l) (keysS m p v) := by
  have e : (shellsS m p l).length = p.length := tabL_length _ _
  have hp := (bothB_iff.1 hB).1
  have hal := both_alike hB hi
  have hvl := alike_trans (alike_symm ha) hal
  have hb := key_le (m := m) hvl
  have at_ : ∀ k, k < p.length → gapS m ((shellsS m p l).getD k sh0) ((keysS m p v).getD k 0) ≤ keyS m v (l.getD i []) ∧ keyS m v (l.getD i []) ≤ reachS m ((shellsS m p l).getD k sh0) ((keysS m p v).getD k 0) := fun k hk => by
    rw [shell_at hk, keysS_at hk]
    have h1 := piv_alike hp ha hk
    have h2 := piv_alike hp hal hk
    have t := key_tri1 (m := m) (alike_symm h1) h2
    rw [keyS_comm m v (p.getD k [])] at t
    have s := shell_in (m := m) (p := p) (l := l) k hi
    have ok := shell_ok hB hk
    have k1 := key_keyP (m := m) h1
    have k2 := key_keyP (m := m) h2
    have g1 := gap_le (m := m) k1 (Go.PL.keyP_iff.2 ⟨ok.1, by omega⟩) (Go.PL.keyP_iff.2 ⟨by omega, ok.2.2⟩) k2 s.1 s.2
    have g2 := high_mono (m := m) k1 k2 (Go.PL.keyP_iff.2 ⟨by omega, ok.2.2⟩) s.2
    unfold gapS reachS
    unfold keyAt at g1 g2 ⊢
    omega
  constructor
  · unfold loS
    rcases (maxK_spec (fun k => gapS m ((shellsS m p l).getD k sh0) ((keysS m p v).getD k 0)) 0 (shellsS m p l).length).2.2 with h | ⟨k, hk, h⟩
    · rw [h]; exact hb.1
    · rw [h]; exact (at_ k (by omega)).1
  · unfold hiS
    rcases (minK_spec (fun k => reachS m ((shellsS m p l).getD k sh0) ((keysS m p v).getD k 0)) 134217728 (shellsS m p l).length).2.2 with h | ⟨k, hk, h⟩
    · rw [h]; exact hb.2
    · rw [h]; exact (at_ k (by omega)).2
theorem keys_in {m : Int} {p l : List (List Int)} (hB : bothB m p l = true) {i : Nat} (hi : i < l.length) : inB (shellsS m p l) (keysS m p (l.getD i [])) = true := by
  have e : (shellsS m p l).length = p.length := tabL_length _ _
  refine inB_iff.2 ⟨shells_valid hB, by rw [keysS_len, e], fun k hk => ?_⟩
  rw [e] at hk
  rw [shell_at hk, keysS_at hk]
  exact shell_in k hi
end Go.Proofs.Ytdhfjgooamoodaa
