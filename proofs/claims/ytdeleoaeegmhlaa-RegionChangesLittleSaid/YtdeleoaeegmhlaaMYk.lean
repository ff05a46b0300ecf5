import Derived.Test.YtdeleoaeegmhlaaMYi
namespace Go.PL
open Go.AM
set_option linter.unusedVariables false
/-! ### Divisions: plain facts -/
/-- A valid division of a box. -/
def validT : Nat → Sp → Box → Prop
  | 0, _, _ => False
  | n + 1, x, b => leafOk x = true ∨ (leafOk x = false ∧ forkOk x b = true ∧ validT n (subOf x 0) (lowB b (axisOf x) (atOf x)) ∧ validT n (subOf x 1) (highB b (axisOf x) (atOf x)))
theorem leaf_iff {x : Sp} : leafOk x = true ↔ x.subs.length = 0 ∧ axisOf x = 0 ∧ atOf x = 0 ∧ goodS (offs x) = true := by
  unfold leafOk; simp only [Bool.and_eq_true, decide_eq_true_eq]
theorem fork_iff {x : Sp} {b : Box} : forkOk x b = true ↔ x.subs.length = 2 ∧ (offs x).length = 0 ∧ cutsB b (axisOf x) (atOf x) = true := by
  unfold forkOk; simp only [Bool.and_eq_true, decide_eq_true_eq]
theorem regsN_leaf {n : Nat} {x : Sp} {b : Box} (h : leafOk x = true) : regsN (n + 1) x b = [(b, x)] := by
  show (if leafOk x then _ else if forkOk x b then _ else _) = _
  rw [if_pos h]
theorem regsN_fork {n : Nat} {x : Sp} {b : Box} (h : leafOk x = false) (h' : forkOk x b = true) : regsN (n + 1) x b = regsN n (subOf x 0) (lowB b (axisOf x) (atOf x)) ++ regsN n (subOf x 1) (highB b (axisOf x) (atOf x)) := by
  show (if leafOk x then _ else if forkOk x b then _ else _) = _
  rw [if_neg (by simp [h]), if_pos h']
theorem leafC_le {x : Sp} {most : Int} (h0 : x.subs.length = 0) (h : leafC x most ≤ most) : leafOk x = true ∧ leafC x most = 1 := by
  unfold leafC at h ⊢
  split at h
  · rename_i hc
    rw [if_pos hc]
    simp only [Bool.and_eq_true, decide_eq_true_eq] at hc
    exact ⟨leaf_iff.2 ⟨h0, hc.1, hc.2.1, hc.2.2⟩, rfl⟩
  · omega
theorem count_ok : ∀ (n : Nat) (x : Sp) (b : Box) (most : Int), countN n x b most ≤ most → validT n x b ∧ countN n x b most = (regsN n x b).length
  | 0, x, b, most, h => by simp only [countN] at h; omega
  | n + 1, x, b, most, h => by
    simp only [countN] at h ⊢
    split at h
    · omega
    · rename_i hm
      rw [if_neg hm]
      split at h
      · rename_i h0
        rw [if_pos h0]
        obtain ⟨h1, h2⟩ := leafC_le h0 h
        rw [regsN_leaf h1, h2]
        exact ⟨.inl h1, rfl⟩
      · rename_i h0
        rw [if_neg h0]
        have hl : leafOk x = false := eq_no fun hl => h0 (leaf_iff.1 hl).1
        split at h
        · rename_i hf
          rw [if_pos hf]
          split at h
          · omega
          · rename_i hc
            rw [if_neg hc]
            obtain ⟨v0, l0⟩ := count_ok n (subOf x 0) (lowB b (axisOf x) (atOf x)) (most - 1) (by omega)
            obtain ⟨v1, l1⟩ := count_ok n (subOf x 1) (highB b (axisOf x) (atOf x)) (most - countN n (subOf x 0) (lowB b (axisOf x) (atOf x)) (most - 1)) (by omega)
            rw [regsN_fork hl hf, List.length_append]
            exact ⟨.inr ⟨hl, hf, v0, v1⟩, by omega⟩
        · omega
theorem count_pos : ∀ (n : Nat) (x : Sp) (b : Box) (most : Int), 0 ≤ most → 1 ≤ countN n x b most
  | 0, x, b, most, h => by simp only [countN]; omega
  | n + 1, x, b, most, h => by
    simp only [countN]
    split
    · omega
    · split
      · unfold leafC; split <;> omega
      · split
        · split
          · omega
          · have h0 := count_pos n (subOf x 0) (lowB b (axisOf x) (atOf x)) (most - 1) (by omega)
            have h1 := count_pos n (subOf x 1) (highB b (axisOf x) (atOf x)) (most - countN n (subOf x 0) (lowB b (axisOf x) (atOf x)) (most - 1)) (by omega)
            omega
        · omega
theorem count_le : ∀ (n : Nat) (x : Sp) (b : Box) (most : Int), 0 ≤ most → countN n x b most ≤ most + 1
  | 0, x, b, most, h => by simp only [countN]; omega
  | n + 1, x, b, most, h => by
    simp only [countN]
    split
    · omega
    · split
      · unfold leafC; split <;> omega
      · split
        · split
          · omega
          · have h1 := count_le n (subOf x 1) (highB b (axisOf x) (atOf x)) (most - countN n (subOf x 0) (lowB b (axisOf x) (atOf x)) (most - 1)) (by omega)
            omega
        · omega
/-! More fuel changes nothing. -/
theorem deep_le : ∀ {n : Nat} {x : Sp} {m : Nat}, deepN n x → n ≤ m → deepN m x
  | 0, x, m, h, _ => h.elim
  | n + 1, x, 0, h, hm => by omega
  | n + 1, x, m + 1, h, hm => fun y hy => deep_le (h y hy) (by omega)
theorem subOf_mem {x : Sp} {i : Nat} (h : i < x.subs.length) : subOf x i ∈ x.subs := by
  unfold subOf
  rw [List.getD_eq_getElem?_getD, List.getElem?_eq_getElem h]
  exact List.getElem_mem h
theorem regsN_deep : ∀ {n : Nat} {x : Sp} {b : Box} {m : Nat}, deepN n x → n ≤ m → regsN m x b = regsN n x b
  | 0, x, b, m, h, _ => h.elim
  | n + 1, x, b, 0, h, hm => by omega
  | n + 1, x, b, m + 1, h, hm => by
    cases hl : leafOk x
    · cases hf : forkOk x b
      · show (if leafOk x then _ else if forkOk x b then _ else _) = (if leafOk x then _ else if forkOk x b then _ else _)
        rw [hl, hf]
        rfl
      · have h2 := (fork_iff.1 hf).1
        rw [regsN_fork hl hf, regsN_fork hl hf, regsN_deep (x := subOf x 0) (n := n) (h _ (subOf_mem (by omega))) (by omega), regsN_deep (x := subOf x 1) (n := n) (h _ (subOf_mem (by omega))) (by omega)]
    · rw [regsN_leaf hl, regsN_leaf hl]
theorem validT_le : ∀ {n : Nat} {x : Sp} {b : Box} {m : Nat}, validT n x b → n ≤ m → validT m x b
  | 0, x, b, m, h, _ => h.elim
  | n + 1, x, b, 0, h, hm => by omega
  | n + 1, x, b, m + 1, h, hm => by
    rcases h with h | ⟨h1, h2, h3, h4⟩
    · exact .inl h
    · exact .inr ⟨h1, h2, validT_le h3 (by omega), validT_le h4 (by omega)⟩
/-- Not more than most: not deep. -/
theorem partsL_ge (f : Sp → Int → Int) (most : Int) (hf : ∀ y m, 0 ≤ m → 1 ≤ f y m) : ∀ (l : List Sp) (n : Int), n ≤ partsL f most l n
  | [], n => Int.le_refl _
  | y :: l, n => by
    simp only [partsL]
    split
    · have := hf y (most - n) (by omega)
      have := partsL_ge f most hf l (n + f y (most - n))
      omega
    · omega
theorem partsN_pos : ∀ (k : Nat) (x : Sp) (m : Int), 0 ≤ m → 1 ≤ partsN k x m
  | 0, x, m, h => by simp only [partsN]; omega
  | k + 1, x, m, h => by
    simp only [partsN]
    have := partsL_ge (partsN k) m (fun y m h => partsN_pos k y m h) x.subs (1 + (offs x).length / 50)
    omega
theorem partsL_deep (f : Sp → Int → Int) (most : Int) (P : Sp → Prop) (hf : ∀ y m, 0 ≤ m → 1 ≤ f y m) (hP : ∀ y m, f y m ≤ m → P y) : ∀ (l : List Sp) (n : Int), partsL f most l n ≤ most → ∀ y ∈ l, P y
  | [], n, h, y, hy => by cases hy
  | z :: l, n, h, y, hy => by
    have hle := partsL_ge f most hf (z :: l) n
    simp only [partsL] at h
    rw [if_pos (by omega)] at h
    have := partsL_ge f most hf l (n + f z (most - n))
    rcases List.mem_cons.1 hy with rfl | hy
    · exact hP y (most - n) (by omega)
    · exact partsL_deep f most P hf hP l _ h y hy
theorem parts_deep : ∀ (k : Nat) (x : Sp) (m : Int), partsN k x m ≤ m → deepN k x
  | 0, x, m, h => by simp only [partsN] at h; omega
  | k + 1, x, m, h => by
    simp only [partsN] at h
    exact partsL_deep (partsN k) m (deepN k) (fun y m h => partsN_pos k y m h) (fun y m h => parts_deep k y m h) _ _ h
/-! ### Where a vector is -/
/-- A box within another one. -/
def subB (c b : Box) : Prop := bval c = true ∧ c.1.length = b.1.length ∧ ∀ i, i < c.1.length → b.1.getD i 0 ≤ c.1.getD i 0 ∧ c.2.1.getD i 0 ≤ b.2.1.getD i 0
theorem subB_refl {b : Box} (h : bval b = true) : subB b b := ⟨h, rfl, fun i hi => ⟨Int.le_refl _, Int.le_refl _⟩⟩
theorem subB_trans {a b c : Box} (h : subB a b) (h' : subB b c) : subB a c := ⟨h.1, h.2.1.trans h'.2.1, fun i hi => by
  have h1 := h.2.2 i hi
  have h2 := h'.2.2 i (by have := h.2.1; omega)
  omega⟩
theorem getD_set {l : List Int} {i j : Nat} {v : Int} (h : i < l.length) : (l.set i v).getD j 0 = if j = i then v else l.getD j 0 := by
  rw [List.getD_eq_getElem?_getD, List.getElem?_set]
  by_cases hj : i = j
  · subst hj; simp [h]
  · rw [if_neg hj, if_neg (fun e => hj e.symm), ← List.getD_eq_getElem?_getD]
theorem low_sub {b : Box} {x a : Int} (h : bval b = true) (hc : cutsB b x a = true) : subB (lowB b x a) b := by
  obtain ⟨h0, h1, h2, h3⟩ := cutsB_iff.1 hc
  obtain ⟨v1, v2, v3, v4⟩ := bval_iff.1 h
  unfold at_ at h2 h3
  have hx : x.toNat < b.2.1.length := by omega
  have e : ∀ i, (lowB b x a).2.1.getD i 0 = if i = x.toNat then a - 1 else b.2.1.getD i 0 := fun i => getD_set hx
  have el : (lowB b x a).2.1.length = b.2.1.length := List.length_set ..
  have b1 := bvec_at v1 x.toNat
  have b2 := bvec_at v2 x.toNat
  refine ⟨bval_iff.2 ⟨v1, bvec_iff.2 ⟨fun i hi => ?_, ?_⟩, ?_, fun i hi => ?_⟩, rfl, fun i hi => ⟨Int.le_refl _, ?_⟩⟩
  · rw [e]; split
    · omega
    · exact bvec_at v2 i
  · have := bvec_len v2; omega
  · rw [el]; exact v3
  · rw [e]; split
    · rename_i hi'; subst hi'; show b.1.getD _ 0 ≤ _; omega
    · exact v4 i hi
  · rw [e]; split
    · rename_i hi'; subst hi'; omega
    · exact Int.le_refl _
theorem high_sub {b : Box} {x a : Int} (h : bval b = true) (hc : cutsB b x a = true) : subB (highB b x a) b := by
  obtain ⟨h0, h1, h2, h3⟩ := cutsB_iff.1 hc
  obtain ⟨v1, v2, v3, v4⟩ := bval_iff.1 h
  unfold at_ at h2 h3
  have hx : x.toNat < b.1.length := by omega
  have e : ∀ i, (highB b x a).1.getD i 0 = if i = x.toNat then a else b.1.getD i 0 := fun i => getD_set hx
  have el : (highB b x a).1.length = b.1.length := List.length_set ..
  have b1 := bvec_at v1 x.toNat
  have b2 := bvec_at v2 x.toNat
  refine ⟨bval_iff.2 ⟨bvec_iff.2 ⟨fun i hi => ?_, ?_⟩, v2, ?_, fun i hi => ?_⟩, el, fun i hi => ⟨?_, Int.le_refl _⟩⟩
  · rw [e]; split
    · omega
    · exact bvec_at v1 i
  · have := bvec_len v1; omega
  · rw [el]; exact v3
  · rw [e]; split
    · rename_i hi'; subst hi'; show _ ≤ b.2.1.getD _ 0; omega
    · exact v4 i (by rw [el] at hi; exact hi)
  · rw [e]; split
    · rename_i hi'; subst hi'; omega
    · exact Int.le_refl _
theorem bhas_low {b : Box} {x a : Int} {v : List Int} (h : bval b = true) (hc : cutsB b x a = true) : bhas (lowB b x a) v = true ↔ bhas b v = true ∧ v.getD x.toNat 0 < a := by
  obtain ⟨h0, h1, h2, h3⟩ := cutsB_iff.1 hc
  unfold at_ at h2 h3
  have hs := low_sub h hc
  have hx : x.toNat < b.2.1.length := by have := (bval_len h).2.2; omega
  have e : ∀ i, (lowB b x a).2.1.getD i 0 = if i = x.toNat then a - 1 else b.2.1.getD i 0 := fun i => getD_set hx
  have e1 : (lowB b x a).1 = b.1 := rfl
  rw [bhas_iff, bhas_iff, e1]
  refine ⟨fun ⟨_, k1, k2⟩ => ⟨⟨h, k1, fun i hi => ?_⟩, ?_⟩, fun ⟨⟨_, k1, k2⟩, k3⟩ => ⟨hs.1, k1, fun i hi => ?_⟩⟩
  · have := k2 i hi
    rw [e] at this
    split at this
    · rename_i hi'; subst hi'; omega
    · exact this
  · have := k2 x.toNat (by omega)
    rw [e, if_pos rfl] at this
    omega
  · have := k2 i hi
    rw [e]
    split
    · rename_i hi'; subst hi'; omega
    · exact this
theorem bhas_high {b : Box} {x a : Int} {v : List Int} (h : bval b = true) (hc : cutsB b x a = true) : bhas (highB b x a) v = true ↔ bhas b v = true ∧ a ≤ v.getD x.toNat 0 := by
  obtain ⟨h0, h1, h2, h3⟩ := cutsB_iff.1 hc
  unfold at_ at h2 h3
  have hs := high_sub h hc
  have hx : x.toNat < b.1.length := by omega
  have e : ∀ i, (highB b x a).1.getD i 0 = if i = x.toNat then a else b.1.getD i 0 := fun i => getD_set hx
  have e1 : (highB b x a).1.length = b.1.length := List.length_set ..
  have e2 : (highB b x a).2.1 = b.2.1 := rfl
  rw [bhas_iff, bhas_iff, e1, e2]
  refine ⟨fun ⟨_, k1, k2⟩ => ⟨⟨h, k1, fun i hi => ?_⟩, ?_⟩, fun ⟨⟨_, k1, k2⟩, k3⟩ => ⟨hs.1, k1, fun i hi => ?_⟩⟩
  · have := k2 i hi
    rw [e] at this
    split at this
    · rename_i hi'; subst hi'; omega
    · exact this
  · have := k2 x.toNat (by omega)
    rw [e, if_pos rfl] at this
    omega
  · have := k2 i hi
    rw [e]
    split
    · rename_i hi'; subst hi'; omega
    · exact this
/-- All regions lie in the box, and are right. -/
theorem regs_sub : ∀ {n : Nat} {x : Sp} {b : Box}, bval b = true → validT n x b → ∀ p ∈ regsN n x b, subB p.1 b ∧ leafOk p.2 = true
  | 0, x, b, hb, h, p, hp => h.elim
  | n + 1, x, b, hb, .inl h, p, hp => by
    rw [regsN_leaf h, List.mem_singleton] at hp
    subst hp
    exact ⟨subB_refl hb, h⟩
  | n + 1, x, b, hb, .inr ⟨h1, h2, h3, h4⟩, p, hp => by
    have hc := (fork_iff.1 h2).2.2
    rw [regsN_fork h1 h2, List.mem_append] at hp
    rcases hp with hp | hp
    · obtain ⟨k1, k2⟩ := regs_sub (low_sub hb hc).1 h3 p hp
      exact ⟨subB_trans k1 (low_sub hb hc), k2⟩
    · obtain ⟨k1, k2⟩ := regs_sub (high_sub hb hc).1 h4 p hp
      exact ⟨subB_trans k1 (high_sub hb hc), k2⟩
/-- A vector of the box is in one region. -/
theorem regs_one : ∀ {n : Nat} {x : Sp} {b : Box}, bval b = true → validT n x b → ∀ v, ((regsN n x b).filter fun p => bhas p.1 v).length = if bhas b v then 1 else 0
  | 0, x, b, hb, h, v => h.elim
  | n + 1, x, b, hb, .inl h, v => by
    rw [regsN_leaf h]
    cases hv : bhas b v <;> simp [hv]
  | n + 1, x, b, hb, .inr ⟨h1, h2, h3, h4⟩, v => by
    have hc := (fork_iff.1 h2).2.2
    rw [regsN_fork h1 h2, List.filter_append, List.length_append, regs_one (low_sub hb hc).1 h3 v, regs_one (high_sub hb hc).1 h4 v]
    have l := bhas_low (v := v) hb hc
    have g := bhas_high (v := v) hb hc
    cases hv : bhas b v
    · have e1 : bhas (lowB b (axisOf x) (atOf x)) v = false := eq_no fun h => by have := (l.1 h).1; simp [hv] at this
      have e2 : bhas (highB b (axisOf x) (atOf x)) v = false := eq_no fun h => by have := (g.1 h).1; simp [hv] at this
      rw [e1, e2]
      rfl
    · by_cases k : v.getD (axisOf x).toNat 0 < atOf x
      · have e2 : bhas (highB b (axisOf x) (atOf x)) v = false := eq_no fun h => by have := (g.1 h).2; omega
        rw [l.2 ⟨hv, k⟩, e2]; rfl
      · have e1 : bhas (lowB b (axisOf x) (atOf x)) v = false := eq_no fun h => by have := (l.1 h).2; omega
        rw [g.2 ⟨hv, by omega⟩, e1]; rfl
theorem balike_sub {a b c : Box} (h : subB a c) (h' : subB b c) : balike a b = true := balike_iff.2 ⟨h.1, h'.1, by have := h.2.1; have := h'.2.1; omega⟩
/-- No two regions meet. -/
theorem regs_apart : ∀ {n : Nat} {x : Sp} {b : Box}, bval b = true → validT n x b → (regsN n x b).Pairwise fun p q => bval (meetB p.1 q.1) = false
  | 0, x, b, hb, h => h.elim
  | n + 1, x, b, hb, .inl h => by
    rw [regsN_leaf h]
    exact List.pairwise_singleton _ _
  | n + 1, x, b, hb, .inr ⟨h1, h2, h3, h4⟩ => by
    have hc := (fork_iff.1 h2).2.2
    have sl := low_sub hb hc
    have sg := high_sub hb hc
    rw [regsN_fork h1 h2, List.pairwise_append]
    refine ⟨regs_apart sl.1 h3, regs_apart sg.1 h4, fun p hp q hq => eq_no fun hm => ?_⟩
    have kp := (regs_sub sl.1 h3 p hp).1
    have kq := (regs_sub sg.1 h4 q hq).1
    have hx := cutsB_iff.1 hc
    have ll : (lowB b (axisOf x) (atOf x)).1.length = b.1.length := rfl
    have lg : (highB b (axisOf x) (atOf x)).1.length = b.1.length := List.length_set ..
    have hl : b.2.1.length = b.1.length := (bval_len hb).2.2
    have ha : balike p.1 q.1 = true := balike_iff.2 ⟨kp.1, kq.1, by have := kp.2.1; have := kq.2.1; omega⟩
    have := (meetB_val ha).1 hm (axisOf x).toNat (by have := kp.2.1; omega)
    have a1 := (kp.2.2 (axisOf x).toNat (by have := kp.2.1; omega)).2
    have a2 := (kq.2.2 (axisOf x).toNat (by have := kq.2.1; omega)).1
    have e1 : (lowB b (axisOf x) (atOf x)).2.1.getD (axisOf x).toNat 0 = atOf x - 1 := (getD_set (by omega)).trans (if_pos rfl)
    have e2 : (highB b (axisOf x) (atOf x)).1.getD (axisOf x).toNat 0 = atOf x := (getD_set (by omega)).trans (if_pos rfl)
    omega
end Go.PL
