import Derived.Test.YtdeleoaeegmhlaaGreatMEa
namespace Go.PL
open Go.AM
set_option linter.unusedVariables false
theorem lexS_eq0 : ∀ {a b : List Int}, lexS a b = 0 ↔ a = b
  | [], [] => by simp [lexS]
  | [], _ :: _ => by simp [lexS]
  | _ :: _, [] => by simp [lexS]
  | x :: a, y :: b => by
    have ih := lexS_eq0 (a := a) (b := b)
    unfold lexS
    rw [List.cons.injEq]
    split
    · constructor
      · intro h; omega
      · rintro ⟨h, _⟩; omega
    · split
      · constructor
        · intro h; omega
        · rintro ⟨h, _⟩; omega
      · rw [ih]
        constructor
        · intro h; exact ⟨by omega, h⟩
        · exact fun h => h.2
theorem cmpS_eq0 {a b : List Int} : cmpS a b = 0 ↔ a = b := by
  unfold cmpS
  split
  · constructor
    · intro h; omega
    · intro h; subst h; omega
  · split
    · constructor
      · intro h; omega
      · intro h; subst h; omega
    · exact lexS_eq0
theorem validT_cases {n : Nat} {x : Sp} {b : Box} (h : validT (n + 1) x b) : (x.subs.length = 0 ∧ areas1 n x b = [(b, offs x, ())]) ∨
    (x.subs.length = 2 ∧ cutsB b (axisOf x) (atOf x) = true ∧ validT n (subOf x 0) (lowB b (axisOf x) (atOf x)) ∧ validT n (subOf x 1) (highB b (axisOf x) (atOf x)) ∧
      areas1 n x b = areasL n (subOf x 0) (lowB b (axisOf x) (atOf x)) ++ areasL n (subOf x 1) (highB b (axisOf x) (atOf x)) ∧
      (regsN (n + 1) x b).length = (regsN n (subOf x 0) (lowB b (axisOf x) (atOf x))).length + (regsN n (subOf x 1) (highB b (axisOf x) (atOf x))).length) := by
  rcases h with h | ⟨h1, h2, h3, h4⟩
  · refine .inl ⟨(leaf_iff.1 h).1, ?_⟩
    unfold areas1 areasL
    rw [regsN_leaf h]
    rfl
  · obtain ⟨f1, f2, f3⟩ := fork_iff.1 h2
    refine .inr ⟨f1, f3, h3, h4, ?_, ?_⟩
    · unfold areas1 areasL
      rw [regsN_fork h1 h2, List.map_append]
    · rw [regsN_fork h1 h2, List.length_append]
theorem insert_step {α : Type} (o : List α) (g : α) (d : α) {a : Nat} (h1 : 0 < a) (h2 : a ≤ o.length) : (o.take a ++ g :: o.drop a).set a ((o.take a ++ g :: o.drop a).getD (a - 1) d) = o.take (a - 1) ++ o.getD (a - 1) d :: o.drop (a - 1) ∧ (o.take a ++ g :: o.drop a).getD (a - 1) d = o.getD (a - 1) d := by
  have hl : (o.take a).length = a := by rw [List.length_take]; omega
  have e1 : (o.take a ++ g :: o.drop a).getD (a - 1) d = o.getD (a - 1) d := by
    rw [List.getD_eq_getElem?_getD, List.getElem?_append_left (by omega), List.getElem?_take, if_pos (by omega), ← List.getD_eq_getElem?_getD]
  refine ⟨?_, e1⟩
  rw [e1, List.set_append_right _ _ (by omega), hl, Nat.sub_self, List.set_cons_zero]
  have e2 : o.drop (a - 1) = o.getD (a - 1) d :: o.drop a := by
    rw [List.drop_eq_getElem_cons (show a - 1 < o.length by omega), show a - 1 + 1 = a by omega, List.getD_eq_getElem?_getD, List.getElem?_eq_getElem (show a - 1 < o.length by omega)]
    rfl
  have e3 : o.take a = o.take (a - 1) ++ [o.getD (a - 1) d] := by
    have : a = (a - 1) + 1 := by omega
    rw [this, List.take_add_one, Nat.add_sub_cancel, List.getD_eq_getElem?_getD, List.getElem?_eq_getElem (show a - 1 < o.length by omega)]
    rfl
  rw [e2, e3, List.append_assoc]
  rfl
theorem insert_end {α : Type} (o : List α) (g x : α) {a : Nat} (h2 : a ≤ o.length) : (o.take a ++ g :: o.drop a).set a x = o.take a ++ x :: o.drop a := by
  have hl : (o.take a).length = a := by rw [List.length_take]; omega
  rw [List.set_append_right _ _ (by omega), hl, Nat.sub_self, List.set_cons_zero]
theorem insert_len {α : Type} (o : List α) (g : α) {a : Nat} (h2 : a ≤ o.length) : (o.take a ++ g :: o.drop a).length = o.length + 1 := by
  rw [List.length_append, List.length_cons, List.length_take, List.length_drop]; omega
theorem insert_first {α : Type} (o : List α) (g : α) : o ++ [g] = o.take o.length ++ g :: o.drop o.length := by
  rw [List.take_length, List.drop_length]
/-! ### Insertion by key -/
def kOf (l : List Ar) (m : Int) (v : List Int) (i : Int) : Int := (nearS m (l.getD i.toNat dAr).1 v).1
def leN (l : List Ar) (m : Int) (v : List Int) (i k : Int) : Prop := kOf l m v i < kOf l m v k ∨ (kOf l m v i = kOf l m v k ∧ i ≤ k)
/-- What the specification has sorted after n regions. -/
structure Sorted (l : List Ar) (m : Int) (v : List Int) (w : Int) (n : Nat) (o ks : List Int) : Prop where
  keys : ks = o.map (kOf l m v)
  perm : o.Perm (rRun l m v w n).1
  sorted : o.Pairwise (leN l m v)
theorem Sorted.zero (l : List Ar) (m : Int) (v : List Int) (w : Int) : Sorted l m v w 0 [] [] := ⟨rfl, List.Perm.refl _, List.Pairwise.nil⟩
theorem Sorted.lt {l : List Ar} {m : Int} {v : List Int} {w : Int} {n : Nat} {o ks : List Int} (h : Sorted l m v w n o ks) : ∀ i ∈ o, 0 ≤ i ∧ i < n := fun i hi => by
  have := ((rRun_spec l m v w n).1 i).1 (h.perm.mem_iff.1 hi)
  exact ⟨this.1, this.2.1⟩
theorem rRun_no {l : List Ar} {m : Int} {v : List Int} {w : Int} {n : Nat} (h : w < (nearS m (l.getD n dAr).1 v).1) : rRun l m v w (n + 1) = rRun l m v w n := by
  have e : rRun l m v w (n + 1) = rStep m v w (rRun l m v w n) n (l.getD n dAr) := rfl
  rw [e]
  unfold rStep
  rw [if_neg]
  simp only [Bool.and_eq_true, decide_eq_true_eq]
  omega
theorem rRun_yes {l : List Ar} {m : Int} {v : List Int} {w : Int} {n : Nat} (h0 : (nearS m (l.getD n dAr).1 v).2 = 0) (h : ¬ w < (nearS m (l.getD n dAr).1 v).1) : (rRun l m v w (n + 1)).1 = (rRun l m v w n).1 ++ [(n : Int)] := by
  have e : rRun l m v w (n + 1) = rStep m v w (rRun l m v w n) n (l.getD n dAr) := rfl
  rw [e]
  unfold rStep
  rw [if_pos]
  simp only [Bool.and_eq_true, decide_eq_true_eq]
  omega
theorem Sorted.no {l : List Ar} {m : Int} {v : List Int} {w : Int} {n : Nat} {o ks : List Int} (h : Sorted l m v w n o ks) (hw : w < (nearS m (l.getD n dAr).1 v).1) : Sorted l m v w (n + 1) o ks :=
  ⟨h.keys, by rw [rRun_no hw]; exact h.perm, h.sorted⟩
theorem Sorted.ins {l : List Ar} {m : Int} {v : List Int} {w : Int} {n : Nat} {o ks : List Int} (h : Sorted l m v w n o ks) (h0 : (nearS m (l.getD n dAr).1 v).2 = 0) (hw : ¬ w < (nearS m (l.getD n dAr).1 v).1) {a : Nat} (ha : a ≤ o.length)
    (hlo : a = 0 ∨ ¬ kOf l m v n < ks.getD (a - 1) 0) (hhi : ∀ j, a ≤ j → j < o.length → kOf l m v n < ks.getD j 0) : Sorted l m v w (n + 1) (o.take a ++ (n : Int) :: o.drop a) (ks.take a ++ kOf l m v n :: ks.drop a) := by
  have ek : ∀ j, j < o.length → ks.getD j 0 = kOf l m v (o.getD j 0) := fun j hj => by
    rw [h.keys, List.getD_eq_getElem?_getD, List.getElem?_map, List.getD_eq_getElem?_getD, List.getElem?_eq_getElem hj]
    rfl
  have so := h.sorted
  rw [← List.take_append_drop a o, List.pairwise_append] at so
  obtain ⟨s1, s2, s3⟩ := so
  refine ⟨?_, ?_, ?_⟩
  · rw [h.keys, List.map_append, List.map_cons, List.map_take, List.map_drop]
  · rw [rRun_yes h0 hw]
    refine List.perm_middle.trans ?_
    rw [List.take_append_drop]
    exact (h.perm.cons _).trans (List.perm_append_comm (l₁ := [(n : Int)]))
  · refine List.pairwise_append.2 ⟨s1, List.pairwise_cons.2 ⟨fun y hy => ?_, s2⟩, fun x hx y hy => ?_⟩
    · obtain ⟨j, hj, e⟩ := List.getElem_of_mem hy
      rw [List.length_drop] at hj
      rw [List.getElem_drop] at e
      have := hhi (a + j) (by omega) (by omega)
      rw [ek _ (by omega), List.getD_eq_getElem?_getD, List.getElem?_eq_getElem (show a + j < o.length by omega)] at this
      have this : kOf l m v n < kOf l m v o[a + j] := this
      rw [e] at this
      exact .inl this
    · rcases List.mem_cons.1 hy with e | hy
      · subst e
        rcases hlo with e0 | hlo
        · subst e0; simp at hx
        · have hx2 : x ∈ o := List.mem_of_mem_take hx
          have hlt := (h.lt x hx2).2
          obtain ⟨j, hj, e⟩ := List.getElem_of_mem hx
          rw [List.length_take] at hj
          rw [List.getElem_take] at e
          have hle : kOf l m v x ≤ kOf l m v (o.getD (a - 1) 0) := by
            have hp := List.pairwise_iff_getElem.1 h.sorted
            rcases Nat.lt_or_ge j (a - 1) with hj' | hj'
            · have := hp j (a - 1) (by omega) (by omega) hj'
              rw [e] at this
              rw [List.getD_eq_getElem?_getD, List.getElem?_eq_getElem (show a - 1 < o.length by omega)]
              rcases this with h' | h'
              · exact Int.le_of_lt h'
              · exact Int.le_of_eq h'.1
            · have : j = a - 1 := by omega
              subst this
              rw [List.getD_eq_getElem?_getD, List.getElem?_eq_getElem (show a - 1 < o.length by omega)]
              show _ ≤ kOf l m v o[a - 1]
              rw [e]
              exact Int.le_refl _
          rw [ek _ (by omega)] at hlo
          unfold leN
          omega
      · exact s3 x hx y hy
theorem Sorted.route {l : List Ar} {m : Int} {v : List Int} {w : Int} {o ks : List Int} (h : Sorted l m v w l.length o ks) : o = routeL l m v w := by
  obtain ⟨r1, r2, r3⟩ := rRun_spec l m v w l.length
  unfold routeL
  refine sorted_uniq (rRun l m v w l.length).2 (h.perm.trans (sortK_perm _ _).symm) ?_ (sortK_sorted _ _)
  refine h.sorted.imp_of_mem fun {a b} ha hb hab => ?_
  rw [leK_iff, r3 a (h.perm.mem_iff.1 ha), r3 b (h.perm.mem_iff.1 hb)]
  exact hab
end Go.PL
