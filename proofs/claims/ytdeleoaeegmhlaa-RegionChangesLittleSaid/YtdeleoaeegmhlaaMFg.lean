import Derived.Test.YtdeleoaeegmhlaaMFc
namespace Go.PL
open Go.AM
set_option linter.unusedVariables false
/-! ### A cut, and back: plain -/
abbrev Rg := Box × Sp
abbrev dRg : Rg := (noBox, .node ((0, 0, ()), ([], ())) [])
def insR (a t : Int) (o : List Int) (l : List Rg) (i : Nat) : List Rg := l.take i ++ [(lowB (l.getD i dRg).1 a t, (l.getD i dRg).2), (highB (l.getD i dRg).1 a t, leafS o)] ++ l.drop (i + 1)
theorem insR_left {a t : Int} {o : List Int} {l k : List Rg} {i : Nat} (h : i < l.length) : insR a t o (l ++ k) i = insR a t o l i ++ k := by
  unfold insR
  have e : (l ++ k).getD i dRg = l.getD i dRg := by
    rw [List.getD_eq_getElem?_getD, List.getElem?_append_left h, ← List.getD_eq_getElem?_getD]
  rw [e, List.take_append_of_le_length (by omega), List.drop_append_of_le_length (by omega)]
  simp only [List.append_assoc]
theorem insR_right {a t : Int} {o : List Int} {l k : List Rg} {i : Nat} (h : l.length ≤ i) : insR a t o (l ++ k) i = l ++ insR a t o k (i - l.length) := by
  unfold insR
  have e : (l ++ k).getD i dRg = k.getD (i - l.length) dRg := by
    rw [List.getD_eq_getElem?_getD, List.getElem?_append_right h, ← List.getD_eq_getElem?_getD]
  have e1 : List.drop (i + 1) (l ++ k) = List.drop (i - l.length + 1) k := by
    rw [List.drop_append]
    rw [List.drop_eq_nil_of_le (by omega), List.nil_append]
    congr 1
    omega
  rw [e, e1, List.take_append, List.take_of_length_le (by omega)]
  simp only [List.append_assoc]
theorem leafS_ok {o : List Int} (h : goodS o = true) : leafOk (leafS o) = true := leaf_iff.2 ⟨rfl, rfl, rfl, h⟩
theorem cutT_succ_leaf {n : Nat} {p a t : Int} {o : List Int} {x : Sp} {c : Int} (h : x.subs.length = 0) : cutT (n + 1) p a t o x c = if c = p then cutL a t o x else x := cutT1_leaf h
theorem cutT_succ_fork {n : Nat} {p a t : Int} {o : List Int} {x : Sp} {c : Int} (h : x.subs.length = 2) : cutT (n + 1) p a t o x c = .node x.val [cutT n p a t o (subOf x 0) c, cutT n p a t o (subOf x 1) (c + leavesN n (subOf x 0))] := cutT1_fork h
theorem leavesN_leaf {n : Nat} {x : Sp} (h : x.subs.length = 0) : leavesN (n + 1) x = 1 := leaves1_leaf h
theorem leavesN_fork {n : Nat} {x : Sp} (h : x.subs.length = 2) : leavesN (n + 1) x = leavesN n (subOf x 0) + leavesN n (subOf x 1) := leaves1_fork h
theorem node_leaf {v : (Int × Int × Unit) × (List Int × Unit)} {A B : Sp} : leafOk (.node v [A, B]) = false := eq_no fun h => by
  have := (leaf_iff.1 h).1
  simp [Rose.subs] at this
theorem regs_cut : ∀ {n : Nat} {x : Sp} {b : Box} {p a t : Int} {o : List Int} {c : Int}, validT n x b → goodS o = true →
    (¬ (c ≤ p ∧ p < c + leavesN n x) → cutT n p a t o x c = x) ∧
    (c ≤ p ∧ p < c + leavesN n x → cutsB ((regsN n x b).getD (p - c).toNat dRg).1 a t = true →
      validT (n + 1) (cutT n p a t o x c) b ∧ regsN (n + 1) (cutT n p a t o x c) b = insR a t o (regsN n x b) (p - c).toNat)
  | 0, x, b, p, a, t, o, c, h, _ => h.elim
  | n + 1, x, b, p, a, t, o, c, .inl h, ho => by
    have hl := (leaf_iff.1 h).1
    rw [cutT_succ_leaf hl, leavesN_leaf hl, regsN_leaf h]
    refine ⟨fun hp => by rw [if_neg (by omega)], fun hp hc => ?_⟩
    have e : (p - c).toNat = 0 := by omega
    rw [e] at hc ⊢
    have hc : cutsB b a t = true := hc
    rw [if_pos (by omega)]
    have f1 : leafOk (cutL a t o x) = false := node_leaf
    have f2 : forkOk (cutL a t o x) b = true := fork_iff.2 ⟨rfl, rfl, hc⟩
    refine ⟨.inr ⟨f1, f2, .inl h, .inl (leafS_ok ho)⟩, ?_⟩
    rw [regsN_fork f1 f2]
    have e0 : subOf (cutL a t o x) 0 = x := rfl
    have e1 : subOf (cutL a t o x) 1 = leafS o := rfl
    rw [e0, e1, regsN_leaf h, regsN_leaf (leafS_ok ho)]
    rfl
  | n + 1, x, b, p, a, t, o, c, .inr ⟨h1, h2, h3, h4⟩, ho => by
    have hl := (fork_iff.1 h2).1
    have l0 := leavesN_len h3
    have l1 := leavesN_len h4
    have p0 := leavesN_pos (binT_of h3)
    have p1 := leavesN_pos (binT_of h4)
    rw [cutT_succ_fork hl, leavesN_fork hl, regsN_fork h1 h2]
    obtain ⟨a1, a2⟩ := regs_cut (p := p) (a := a) (t := t) (o := o) (c := c) h3 ho
    obtain ⟨b1, b2⟩ := regs_cut (p := p) (a := a) (t := t) (o := o) (c := c + leavesN n (subOf x 0)) h4 ho
    obtain ⟨A, hA⟩ : ∃ A, A = cutT n p a t o (subOf x 0) c := ⟨_, rfl⟩
    obtain ⟨B, hB⟩ : ∃ B, B = cutT n p a t o (subOf x 1) (c + leavesN n (subOf x 0)) := ⟨_, rfl⟩
    rw [← hA] at a1 a2
    rw [← hB] at b1 b2
    rw [← hA, ← hB]
    have hx : (Rose.node x.val [subOf x 0, subOf x 1] : Sp) = x := by
      cases x with
      | node v l =>
        match l, hl with
        | [y, z], _ => rfl
    have f1 : leafOk (.node x.val [A, B]) = false := node_leaf
    have f2 : forkOk (.node x.val [A, B]) b = true := fork_iff.2 ⟨rfl, (fork_iff.1 h2).2.1, (fork_iff.1 h2).2.2⟩
    have e0 : subOf (.node x.val [A, B]) 0 = A := rfl
    have e1 : subOf (.node x.val [A, B]) 1 = B := rfl
    have e2 : axisOf (.node x.val [A, B]) = axisOf x := rfl
    have e3 : atOf (.node x.val [A, B]) = atOf x := rfl
    refine ⟨fun hp => ?_, fun hp hc => ?_⟩
    · rw [a1 (by omega), b1 (by omega)]
      exact hx
    · have hval : validT (n + 1) A (lowB b (axisOf x) (atOf x)) → validT (n + 1) B (highB b (axisOf x) (atOf x)) → validT (n + 1 + 1) (.node x.val [A, B]) b := fun v0 v1 => .inr ⟨f1, f2, by rw [e0, e2, e3]; exact v0, by rw [e1, e2, e3]; exact v1⟩
      rw [regsN_fork f1 f2, e0, e1, e2, e3]
      by_cases hq : p < c + leavesN n (subOf x 0)
      · have e : (regsN n (subOf x 0) (lowB b (axisOf x) (atOf x)) ++ regsN n (subOf x 1) (highB b (axisOf x) (atOf x))).getD (p - c).toNat dRg = (regsN n (subOf x 0) (lowB b (axisOf x) (atOf x))).getD (p - c).toNat dRg := by
          rw [List.getD_eq_getElem?_getD, List.getElem?_append_left (by omega), ← List.getD_eq_getElem?_getD]
        rw [e] at hc
        obtain ⟨v0, r0⟩ := a2 (by omega) hc
        have hb1 := b1 (by omega)
        rw [hb1] at hval ⊢
        refine ⟨hval v0 (validT_le h4 (by omega)), ?_⟩
        rw [r0, insR_left (by omega), regsN_deep (deep_of h4) (by omega)]
      · have e : (regsN n (subOf x 0) (lowB b (axisOf x) (atOf x)) ++ regsN n (subOf x 1) (highB b (axisOf x) (atOf x))).getD (p - c).toNat dRg = (regsN n (subOf x 1) (highB b (axisOf x) (atOf x))).getD (p - (c + leavesN n (subOf x 0))).toNat dRg := by
          rw [List.getD_eq_getElem?_getD, List.getElem?_append_right (by omega), ← List.getD_eq_getElem?_getD]
          congr 1
          omega
        rw [e] at hc
        obtain ⟨v1, r1⟩ := b2 (by omega) hc
        have ha1 := a1 (by omega)
        rw [ha1] at hval ⊢
        refine ⟨hval (validT_le h3 (by omega)) v1, ?_⟩
        rw [r1, insR_right (by omega), regsN_deep (deep_of h3) (by omega)]
        congr 2
        omega
where
  deep_of : ∀ {n : Nat} {x : Sp} {b : Box}, validT n x b → deepN n x
    | 0, x, b, h => h.elim
    | n + 1, x, b, .inl h => fun y hy => by
      have := (leaf_iff.1 h).1
      rw [List.length_eq_zero_iff] at this
      rw [this] at hy
      cases hy
    | n + 1, x, b, .inr ⟨h1, h2, h3, h4⟩ => fun y hy => by
      have hl := (fork_iff.1 h2).1
      cases x with
      | node v l =>
        match l, hl with
        | [s, r], _ =>
          have hy : y ∈ [s, r] := hy
          simp only [List.mem_cons, List.not_mem_nil, or_false] at hy
          rcases hy with rfl | rfl
          · exact deep_of h3
          · exact deep_of h4
theorem valid_deep {n : Nat} {x : Sp} {b : Box} (h : validT n x b) : deepN n x := regs_cut.deep_of h
theorem leavesN_le : ∀ {n m : Nat} {x : Sp}, binT n x → n ≤ m → leavesN m x = leavesN n x
  | 0, m, x, h, _ => h.elim
  | n + 1, 0, x, h, hm => by omega
  | n + 1, m + 1, x, .inl h, hm => by rw [leavesN_leaf h, leavesN_leaf h]
  | n + 1, m + 1, x, .inr ⟨h, h0, h1⟩, hm => by rw [leavesN_fork h, leavesN_fork h, leavesN_le h0 (by omega), leavesN_le h1 (by omega)]
theorem twin_no {p : Int} {x : Sp} {c : Int} (h : c ≠ p) : twin p x c = false := by
  unfold twin
  rw [decide_eq_false h]
  rfl
theorem joinT_leaf {n : Nat} {p : Int} {x : Sp} {c : Int} (h : x.subs.length = 0) : joinT (n + 1) p x c = x ∧ foundT (n + 1) p x c = false := by
  have ht : twin p x c = false := eq_no fun ht => by
    unfold twin at ht
    simp only [Bool.and_eq_true, decide_eq_true_eq] at ht
    exact ht.2.1 h
  constructor
  · show (if twin p x c then _ else if _ then _ else _) = _
    rw [ht, if_pos h]; rfl
  · show (if twin p x c then _ else if _ then _ else _) = _
    rw [ht, if_pos h]; rfl
theorem joinT_fork {n : Nat} {p : Int} {x : Sp} {c : Int} (h : x.subs.length = 2) (ht : twin p x c = false) :
    joinT (n + 1) p x c = .node x.val [joinT n p (subOf x 0) c, joinT n p (subOf x 1) (c + leavesN n (subOf x 0))] ∧ foundT (n + 1) p x c = (foundT n p (subOf x 0) c || foundT n p (subOf x 1) (c + leavesN n (subOf x 0))) := by
  constructor
  · show (if twin p x c then _ else if _ then _ else _) = _
    rw [ht, if_neg (show ¬ x.subs.length = 0 by omega)]; rfl
  · show (if twin p x c then _ else if _ then _ else _) = _
    rw [ht, if_neg (show ¬ x.subs.length = 0 by omega)]; rfl
theorem node_two {x : Sp} (hl : x.subs.length = 2) : (Rose.node x.val [subOf x 0, subOf x 1] : Sp) = x := by
  cases x with
  | node v l =>
    match l, hl with
    | [y, z], _ => rfl
theorem join_out : ∀ {n : Nat} {p : Int} {x : Sp} {c : Int}, binT n x → ¬ (c ≤ p ∧ p < c + leavesN n x) → joinT n p x c = x ∧ foundT n p x c = false
  | 0, p, x, c, h, _ => h.elim
  | n + 1, p, x, c, .inl h, hp => joinT_leaf h
  | n + 1, p, x, c, .inr ⟨h, h0, h1⟩, hp => by
    rw [leavesN_fork h] at hp
    have p0 := leavesN_pos h0
    have p1 := leavesN_pos h1
    obtain ⟨e1, e2⟩ := joinT_fork (n := n) h (twin_no (p := p) (x := x) (c := c) (by omega))
    obtain ⟨a1, a2⟩ := join_out (p := p) (c := c) h0 (by omega)
    obtain ⟨b1, b2⟩ := join_out (p := p) (c := c + leavesN n (subOf x 0)) h1 (by omega)
    rw [e1, e2, a1, a2, b1, b2]
    exact ⟨node_two h, rfl⟩
theorem cut_out : ∀ {n : Nat} {x : Sp} {p a t : Int} {o : List Int} {c : Int}, binT n x → ¬ (c ≤ p ∧ p < c + leavesN n x) → cutT n p a t o x c = x
  | 0, x, p, a, t, o, c, h, _ => h.elim
  | n + 1, x, p, a, t, o, c, .inl h, hp => by
    rw [leavesN_leaf h] at hp
    rw [cutT_succ_leaf h, if_neg (by omega)]
  | n + 1, x, p, a, t, o, c, .inr ⟨h, h0, h1⟩, hp => by
    rw [leavesN_fork h] at hp
    have p0 := leavesN_pos h0
    have p1 := leavesN_pos h1
    rw [cutT_succ_fork h, cut_out h0 (by omega), cut_out h1 (by omega)]
    exact node_two h
theorem binT_le : ∀ {n m : Nat} {x : Sp}, binT n x → n ≤ m → binT m x
  | 0, m, x, h, _ => h.elim
  | n + 1, 0, x, h, hm => by omega
  | n + 1, m + 1, x, .inl h, hm => .inl h
  | n + 1, m + 1, x, .inr ⟨h, h0, h1⟩, hm => .inr ⟨h, binT_le h0 (by omega), binT_le h1 (by omega)⟩
/-- Joining what was cut gives the whole again. -/
theorem join_cut : ∀ {n : Nat} {x : Sp} {p a t : Int} {o : List Int} {c : Int}, binT n x → c ≤ p → p < c + leavesN n x →
    joinT (n + 1) p (cutT n p a t o x c) c = x ∧ foundT (n + 1) p (cutT n p a t o x c) c = true ∧ (cutT n p a t o x c).subs.length = 2 ∧ leavesN (n + 1) (cutT n p a t o x c) = leavesN n x + 1 ∧ binT (n + 1) (cutT n p a t o x c)
  | 0, x, p, a, t, o, c, h, _, _ => h.elim
  | n + 1, x, p, a, t, o, c, .inl h, hc, hp => by
    rw [leavesN_leaf h] at hp ⊢
    rw [cutT_succ_leaf h, if_pos (by omega)]
    have ht : twin p (cutL a t o x) c = true := by
      unfold twin
      have e0 : subOf (cutL a t o x) 0 = x := rfl
      have e1 : subOf (cutL a t o x) 1 = leafS o := rfl
      rw [e0, e1]
      simp only [Bool.and_eq_true, decide_eq_true_eq]
      exact ⟨by omega, by simp [cutL, Rose.subs], h, rfl⟩
    refine ⟨?_, ?_, rfl, ?_, .inr ⟨rfl, .inl h, .inl rfl⟩⟩
    · show (if twin p (cutL a t o x) c then _ else _) = _
      rw [if_pos ht]; rfl
    · show (if twin p (cutL a t o x) c then _ else _) = _
      rw [if_pos ht]
    · rw [leavesN_fork rfl]
      have e0 : subOf (cutL a t o x) 0 = x := rfl
      have e1 : subOf (cutL a t o x) 1 = leafS o := rfl
      rw [e0, e1, leavesN_leaf h, leavesN_leaf rfl]
  | n + 1, x, p, a, t, o, c, .inr ⟨h, h0, h1⟩, hc, hp => by
    rw [leavesN_fork h] at hp ⊢
    rw [cutT_succ_fork h]
    have p0 := leavesN_pos h0
    have p1 := leavesN_pos h1
    have A := join_cut (p := p) (a := a) (t := t) (o := o) (c := c) h0
    have B := join_cut (p := p) (a := a) (t := t) (o := o) (c := c + leavesN n (subOf x 0)) h1
    have A' := cut_out (p := p) (a := a) (t := t) (o := o) (c := c) h0
    have B' := cut_out (p := p) (a := a) (t := t) (o := o) (c := c + leavesN n (subOf x 0)) h1
    generalize cutT n p a t o (subOf x 0) c = y at *
    generalize cutT n p a t o (subOf x 1) (c + leavesN n (subOf x 0)) = z at *
    have e0 : subOf (.node x.val [y, z]) 0 = y := rfl
    have e1 : subOf (.node x.val [y, z]) 1 = z := rfl
    have l2 : (Rose.node x.val [y, z] : Sp).subs.length = 2 := rfl
    by_cases hq : p < c + leavesN n (subOf x 0)
    · obtain ⟨a1, a2, a3, a4, a5⟩ := A hc hq
      have hz := B' (by omega)
      have ht : twin p (.node x.val [y, z]) c = false := eq_no fun ht => by
        unfold twin at ht
        rw [e0] at ht
        simp only [Bool.and_eq_true, decide_eq_true_eq] at ht
        have := ht.2.2.1
        omega
      obtain ⟨j1, j2⟩ := joinT_fork (n := n + 1) l2 ht
      rw [e0, e1, a4] at j1 j2
      rw [a1] at j1
      rw [a2] at j2
      have b5 : binT (n + 1) z := by rw [hz]; exact binT_le h1 (by omega)
      have hlz : leavesN (n + 1) z = leavesN n (subOf x 1) := by rw [hz]; exact leavesN_le h1 (by omega)
      obtain ⟨k1, k2⟩ := join_out (n := n + 1) (p := p) (x := z) (c := c + (leavesN n (subOf x 0) + 1)) b5 (by omega)
      rw [k1] at j1
      refine ⟨?_, by rw [j2]; rfl, l2, ?_, .inr ⟨l2, by rw [e0]; exact a5, by rw [e1]; exact b5⟩⟩
      · rw [j1, hz]; exact node_two h
      · rw [leavesN_fork l2, e0, e1, a4, hlz]; omega
    · obtain ⟨b1, b2, b3, b4, b5⟩ := B (by omega) (by omega)
      have hy := A' (by omega)
      have ht : twin p (.node x.val [y, z]) c = false := twin_no (by omega)
      obtain ⟨j1, j2⟩ := joinT_fork (n := n + 1) l2 ht
      have a5 : binT (n + 1) y := by rw [hy]; exact binT_le h0 (by omega)
      have hly : leavesN (n + 1) y = leavesN n (subOf x 0) := by rw [hy]; exact leavesN_le h0 (by omega)
      rw [e0, e1, hly] at j1 j2
      rw [b1] at j1
      rw [b2] at j2
      obtain ⟨k1, k2⟩ := join_out (n := n + 1) (p := p) (x := y) (c := c) a5 (by omega)
      rw [k1] at j1
      refine ⟨?_, by rw [j2, Bool.or_true], l2, ?_, .inr ⟨l2, by rw [e0]; exact a5, by rw [e1]; exact b5⟩⟩
      · rw [j1, hy]; exact node_two h
      · rw [leavesN_fork l2, e0, e1, b4, hly]; omega
end Go.PL
