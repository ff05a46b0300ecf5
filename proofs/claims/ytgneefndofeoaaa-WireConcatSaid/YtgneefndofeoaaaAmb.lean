import Derived.Test.YtgneefndofeoaaaAm
namespace Go.AM
set_option linter.unusedVariables false
open Go.RowKit

/-! ### Reading -/
def PLe (Ψ Ψ' : Pr) : Prop := ∀ a v, Ψ a = some v → Ψ' a = some v
theorem PLe.refl (Ψ : Pr) : PLe Ψ Ψ := fun _ _ h => h
theorem PLe.trans {Ψ Ψ' Ψ'' : Pr} (h : PLe Ψ Ψ') (h' : PLe Ψ' Ψ'') : PLe Ψ Ψ'' := fun a v hv => h' a v (h a v hv)

theorem rdL_mono {α : Type} {R R' : α → List Value → Prop} (h : ∀ x vs, R x vs → R' x vs) : ∀ (xs : List α) (vs : List Value), rdL R xs vs → rdL R' xs vs
  | [], _, hv => hv
  | _ :: xs, _, ⟨c, vs', e, hc, hr⟩ => ⟨c, vs', e, h _ _ hc, rdL_mono h xs vs' hr⟩

theorem rowAt_mono {Ψ Ψ' : Pr} (h : PLe Ψ Ψ') {a : Option Addr} {vs : List Value} : rowAt Ψ a vs → rowAt Ψ' a vs
  | ⟨g, off, e, hc⟩ => ⟨g, off, e, fun j u hj => h _ _ (hc j u hj)⟩

theorem reads_mono {Ψ Ψ' : Pr} (h : PLe Ψ Ψ') : ∀ (t : Ty) (x : t.den) (cs : List Value), reads Ψ t x cs → reads Ψ' t x cs
  | .int _, _, _, hr => hr
  | .bool, _, _, hr => hr
  | .str, _, _, hr => hr
  | .unit, _, _, hr => hr
  | .arr e, _, _, ⟨a, cap, e1, h1, h2, h3⟩ => ⟨a, cap, e1, h1, h2, h3.imp id fun ⟨cells, hd, hrow⟩ => ⟨cells, rdL_mono (reads_mono h e) _ _ hd, rowAt_mono h hrow⟩⟩
  | .vec _ e, _, _, ⟨h1, h2⟩ => ⟨h1, rdL_mono (reads_mono h e) _ _ h2⟩
  | .pair a b, _, _, ⟨u, v, e, h1, h2⟩ => ⟨u, v, e, reads_mono h a _ _ h1, reads_mono h b _ _ h2⟩

theorem rdL_flat {α : Type} {R R' : α → List Value → Prop} (h : ∀ x vs, R x vs → R' x vs) (xs : List α) (vs : List Value) : rdL R xs vs → rdL R' xs vs := rdL_mono h xs vs

theorem reads_flat {Ψ Ψ' : Pr} : ∀ (t : Ty) (x : t.den) (cs : List Value), t.flat = true → reads Ψ t x cs → reads Ψ' t x cs
  | .int _, _, _, _, hr => hr
  | .bool, _, _, _, hr => hr
  | .str, _, _, _, hr => hr
  | .unit, _, _, _, hr => hr
  | .arr e, _, _, hf, _ => by simp [Ty.flat] at hf
  | .vec _ e, _, _, hf, ⟨h1, h2⟩ => ⟨h1, rdL_mono (fun x vs => reads_flat e x vs (by simpa [Ty.flat] using hf)) _ _ h2⟩
  | .pair a b, _, _, hf, ⟨u, v, e, h1, h2⟩ => by
    simp only [Ty.flat, Bool.and_eq_true] at hf
    exact ⟨u, v, e, reads_flat a _ _ hf.1 h1, reads_flat b _ _ hf.2 h2⟩

theorem rdL_len {α : Type} {R : α → List Value → Prop} {n : Nat} (h : ∀ x vs, R x vs → vs.length = n) : ∀ (xs : List α) (vs : List Value), rdL R xs vs → vs.length = xs.length * n
  | [], _, hv => by simp [rdL] at hv; simp [hv]
  | _ :: xs, _, ⟨c, vs', e, hc, hr⟩ => by
    rw [e, List.length_append, h _ _ hc, rdL_len h xs vs' hr, List.length_cons, Nat.succ_mul, Nat.add_comm]

theorem reads_len {Ψ : Pr} : ∀ (t : Ty) (x : t.den) (cs : List Value), reads Ψ t x cs → cs.length = t.cells
  | .int _, _, _, hr => by simp [reads] at hr; simp [hr.1, Ty.cells]
  | .bool, _, _, hr => by simp [reads] at hr; simp [hr, Ty.cells]
  | .str, _, _, hr => by simp [reads] at hr; simp [hr.1, Ty.cells]
  | .unit, _, _, hr => by simp [reads] at hr; simp [hr, Ty.cells]
  | .arr e, _, _, ⟨a, cap, e1, _⟩ => by simp [e1, Ty.cells]
  | .vec n e, _, _, ⟨h1, h2⟩ => by rw [rdL_len (reads_len e) _ _ h2, h1, Ty.cells]
  | .pair a b, _, _, ⟨u, v, e, h1, h2⟩ => by rw [e, List.length_append, reads_len a _ _ h1, reads_len b _ _ h2, Ty.cells]

theorem rdL_one {α : Type} {R : α → List Value → Prop} (h : ∀ x vs, R x vs → ∀ u ∈ vs, u.oneCell' = true) : ∀ (xs : List α) (vs : List Value), rdL R xs vs → ∀ u ∈ vs, u.oneCell' = true
  | [], _, hv => by simp [rdL] at hv; simp [hv]
  | _ :: xs, _, ⟨c, vs', e, hc, hr⟩ => by
    subst e
    intro u hu
    rcases List.mem_append.1 hu with hu | hu
    · exact h _ _ hc u hu
    · exact rdL_one h xs vs' hr u hu

theorem reads_one {Ψ : Pr} : ∀ (t : Ty) (x : t.den) (cs : List Value), reads Ψ t x cs → ∀ u ∈ cs, u.oneCell' = true
  | .int _, _, _, hr => by simp [reads] at hr; simp [hr.1, Value.oneCell']
  | .bool, _, _, hr => by simp [reads] at hr; simp [hr, Value.oneCell']
  | .str, _, _, hr => by simp [reads] at hr; simp [hr.1, Value.oneCell']
  | .unit, _, _, hr => by simp [reads] at hr; simp [hr]
  | .arr e, _, _, ⟨a, cap, e1, _⟩ => by simp [e1, Value.oneCell']
  | .vec n e, _, _, ⟨h1, h2⟩ => rdL_one (reads_one e) _ _ h2
  | .pair a b, _, _, ⟨u, v, e, h1, h2⟩ => by
    subst e
    intro w hw
    rcases List.mem_append.1 hw with hw | hw
    · exact reads_one a _ _ h1 w hw
    · exact reads_one b _ _ h2 w hw

/-- One element of a row. -/
theorem rdL_get {α : Type} {R : α → List Value → Prop} {n : Nat} (h : ∀ x vs, R x vs → vs.length = n) : ∀ (xs : List α) (vs : List Value), rdL R xs vs →
    ∀ (i : Nat) (x : α), xs[i]? = some x → ∃ c, R x c ∧ ∀ j u, c[j]? = some u → vs[i * n + j]? = some u
  | [], _, _, i, x, hx => by simp at hx
  | y :: xs, _, ⟨c, vs', e, hc, hr⟩, 0, x, hx => by
    simp at hx
    subst hx
    subst e
    exact ⟨c, hc, fun j u hj => by
      have hlt : j < c.length := by
        rcases Nat.lt_or_ge j c.length with h' | h'
        · exact h'
        · rw [List.getElem?_eq_none h'] at hj; cases hj
      simp [List.getElem?_append_left hlt, hj]⟩
  | y :: xs, _, ⟨c, vs', e, hc, hr⟩, i + 1, x, hx => by
    obtain ⟨d, hd, hget⟩ := rdL_get h xs vs' hr i x (by simpa using hx)
    subst e
    refine ⟨d, hd, fun j u hj => ?_⟩
    have hl := h _ _ hc
    rw [List.getElem?_append_right (by rw [hl, Nat.succ_mul]; omega)]
    rw [← hget j u hj]
    congr 1
    rw [hl, Nat.succ_mul]
    omega

theorem drop_len_add {α : Type} (c vs : List α) (m : Nat) : (c ++ vs).drop (c.length + m) = vs.drop m := by
  rw [← List.drop_drop]; simp
theorem take_len_add {α : Type} (c vs : List α) (m : Nat) : (c ++ vs).take (c.length + m) = c ++ vs.take m := by
  simp [List.take_append, List.take_of_length_le]

theorem rdL_append {α : Type} {R : α → List Value → Prop} : ∀ (xs ys : List α) (us vs : List Value), rdL R xs us → rdL R ys vs → rdL R (xs ++ ys) (us ++ vs)
  | [], _, _, _, hu, hv => by simp only [rdL] at hu; subst hu; simpa using hv
  | _ :: xs, ys, _, vs, ⟨c, us', e, hc, hr⟩, hv => ⟨c, us' ++ vs, by rw [e, List.append_assoc], hc, rdL_append xs ys us' vs hr hv⟩

/-- One element of a row is another one. -/
theorem rdL_set {α : Type} {R : α → List Value → Prop} {n : Nat} (h : ∀ x vs, R x vs → vs.length = n) (y : α) (d : List Value) (hd : R y d) : ∀ (xs : List α) (vs : List Value), rdL R xs vs →
    ∀ (i : Nat), i < xs.length → rdL R (xs.set i y) (vs.take (i * n) ++ d ++ vs.drop (i * n + n))
  | [], _, _, i, hi => by simp at hi
  | x :: xs, _, ⟨c, vs', e, hc, hr⟩, 0, _ => by
    subst e
    have hl := h _ _ hc
    refine ⟨d, vs', ?_, hd, hr⟩
    simp [← hl]
  | x :: xs, _, ⟨c, vs', e, hc, hr⟩, i + 1, hi => by
    subst e
    have hl := h _ _ hc
    refine ⟨c, vs'.take (i * n) ++ d ++ vs'.drop (i * n + n), ?_, hc, rdL_set h y d hd xs vs' hr i (by simpa using hi)⟩
    have e1 : (i + 1) * n = c.length + i * n := by rw [hl, Nat.succ_mul, Nat.add_comm]
    rw [e1, take_len_add, Nat.add_assoc, drop_len_add]
    simp [List.append_assoc]

theorem rdL_replicate {α : Type} {R : α → List Value → Prop} (x : α) (c : List Value) (hc : R x c) : ∀ n, rdL R (List.replicate n x) ((List.replicate n c).flatten)
  | 0 => by simp [rdL]
  | n + 1 => ⟨c, (List.replicate n c).flatten, by simp [List.replicate_succ], hc, rdL_replicate x c hc n⟩

theorem rdL_drop {α : Type} {R : α → List Value → Prop} {n : Nat} (h : ∀ x vs, R x vs → vs.length = n) : ∀ (xs : List α) (vs : List Value) (i : Nat), rdL R xs vs → rdL R (xs.drop i) (vs.drop (i * n))
  | xs, vs, 0, hr => by simpa using hr
  | [], vs, i + 1, hr => by simp only [rdL] at hr; subst hr; simp [rdL]
  | x :: xs, _, i + 1, ⟨c, vs', e, hc, hr⟩ => by
    subst e
    have hl := h _ _ hc
    have e1 : (i + 1) * n = c.length + i * n := by rw [hl, Nat.succ_mul, Nat.add_comm]
    rw [e1, drop_len_add]
    simpa using rdL_drop h xs vs' i hr

theorem rdL_take {α : Type} {R : α → List Value → Prop} {n : Nat} (h : ∀ x vs, R x vs → vs.length = n) : ∀ (xs : List α) (vs : List Value) (i : Nat), rdL R xs vs → rdL R (xs.take i) (vs.take (i * n))
  | xs, vs, 0, _ => by simp [rdL]
  | [], vs, i + 1, hr => by simp only [rdL] at hr; subst hr; simp [rdL]
  | x :: xs, _, i + 1, ⟨c, vs', e, hc, hr⟩ => by
    subst e
    have hl := h _ _ hc
    have e1 : (i + 1) * n = c.length + i * n := by rw [hl, Nat.succ_mul, Nat.add_comm]
    rw [e1, take_len_add]
    exact ⟨c, vs'.take (i * n), rfl, hc, rdL_take h xs vs' i hr⟩

/-! ### The relation of values -/
mutual
theorem RelV_mono {Ψ Ψ' : Pr} {β β' : List Value} (h : PLe Ψ Ψ') (hb : ∀ (k : Nat) (v : Value), β[k]? = some v → β'[k]? = some v) : ∀ (av : AV) (v : Value), RelV Ψ β av v → RelV Ψ' β' av v
  | .junk, _, _ => trivial
  | .und, _, hr => hr
  | .tt, _, hr => hr
  | .ff, _, hr => hr
  | .d t x, _, ⟨cs, hc, e⟩ => ⟨cs, reads_mono h t x cs hc, e⟩
  | .fs e xs, _, ⟨a, ea, cs, hc, e'⟩ => ⟨a, ea, cs, reads_mono h (.arr e) xs cs hc, e'⟩
  | .nils, _, hr => hr
  | .agg cs, _, ⟨vs, e, hl, h1⟩ => ⟨vs, e, RelL_mono h hb cs vs hl, h1⟩
  | .tup cs, _, ⟨vs, e, hl⟩ => ⟨vs, e, RelL_mono h hb cs vs hl⟩
  | .fn _ cs, _, ⟨vs, e, hl⟩ => ⟨vs, e, RelL_mono h hb cs vs hl⟩
  | .nilf, _, hr => hr
  | .nilp, _, hr => hr
  | .own _ _, _, ⟨g, hg, e⟩ => ⟨g, hb _ _ hg, e⟩
  | .sl _, _, hr => hb _ _ hr
  | .slp _ _ _, _, ⟨g, n, c, hg, r⟩ => ⟨g, n, c, hb _ _ hg, r⟩
  | .rp t x, _, ⟨g, off, cs, e, hc, hp⟩ => ⟨g, off, cs, e, reads_mono h t x cs hc, fun j u hj => h _ _ (hp j u hj)⟩
theorem RelL_mono {Ψ Ψ' : Pr} {β β' : List Value} (h : PLe Ψ Ψ') (hb : ∀ (k : Nat) (v : Value), β[k]? = some v → β'[k]? = some v) : ∀ (cs : List AV) (vs : List Value), RelL Ψ β cs vs → RelL Ψ' β' cs vs
  | [], _, hr => hr
  | c :: cs, _, ⟨v, vs', e, hv, hl⟩ => ⟨v, vs', e, RelV_mono h hb c v hv, RelL_mono h hb cs vs' hl⟩
end

mutual
/-- An own slice's name is replaced. -/
theorem sub_rel {Ψ Ψ' : Pr} {β β' : List Value} (k : Nat) (r : AV) (h : PLe Ψ Ψ') (hr : ∀ v : Value, β[k]? = some v → RelV Ψ' β' r v) (hb : ∀ (j : Nat) (v : Value), j ≠ k → β[j]? = some v → β'[j]? = some v)
    (hp : ∀ g : Nat, β[k]? = some (.pointer (some ⟨g, 0, none⟩)) → β'[k]? = some (.pointer (some ⟨g, 0, none⟩))) :
    ∀ (av : AV) (v : Value), RelV Ψ β av v → RelV Ψ' β' (sub k r av) v
  | .junk, _, _ => trivial
  | .und, _, hv => hv
  | .tt, _, hv => hv
  | .ff, _, hv => hv
  | .d t x, _, ⟨cs, hc, e⟩ => ⟨cs, reads_mono h t x cs hc, e⟩
  | .fs e xs, _, ⟨a, ea, cs, hc, e'⟩ => ⟨a, ea, cs, reads_mono h (.arr e) xs cs hc, e'⟩
  | .nils, _, hv => hv
  | .agg cs, _, ⟨vs, e, hl, h1⟩ => ⟨vs, e, subL_rel k r h hr hb hp cs vs hl, h1⟩
  | .tup cs, _, ⟨vs, e, hl⟩ => ⟨vs, e, subL_rel k r h hr hb hp cs vs hl⟩
  | .fn _ cs, _, ⟨vs, e, hl⟩ => ⟨vs, e, subL_rel k r h hr hb hp cs vs hl⟩
  | .nilf, _, hv => hv
  | .nilp, _, hv => hv
  | .own j _, _, ⟨g, hg, e⟩ => ⟨g, (by
      by_cases hj : j = k
      · subst hj; exact hp g hg
      · exact hb j _ hj hg), e⟩
  | .sl j, v, hv => by
    simp only [sub]
    by_cases hj : j = k
    · subst hj; simp only [Nat.beq_refl, if_true]; exact hr v hv
    · rw [if_neg (by simpa [Nat.beq_eq] using hj)]; exact hb j v hj hv
  | .slp j sz i, v, ⟨g, n, c, hg, rest⟩ => by
    simp only [sub]
    by_cases hj : j = k
    · subst hj; simp only [Nat.beq_refl, if_true]; trivial
    · rw [if_neg (by simpa [Nat.beq_eq] using hj)]; exact ⟨g, n, c, hb j _ hj hg, rest⟩
  | .rp t x, _, ⟨g, off, cs, e, hc, hq⟩ => ⟨g, off, cs, e, reads_mono h t x cs hc, fun j u hj => h _ _ (hq j u hj)⟩
theorem subL_rel {Ψ Ψ' : Pr} {β β' : List Value} (k : Nat) (r : AV) (h : PLe Ψ Ψ') (hr : ∀ v : Value, β[k]? = some v → RelV Ψ' β' r v) (hb : ∀ (j : Nat) (v : Value), j ≠ k → β[j]? = some v → β'[j]? = some v)
    (hp : ∀ g : Nat, β[k]? = some (.pointer (some ⟨g, 0, none⟩)) → β'[k]? = some (.pointer (some ⟨g, 0, none⟩))) :
    ∀ (cs : List AV) (vs : List Value), RelL Ψ β cs vs → RelL Ψ' β' (subL k r cs) vs
  | [], _, hl => hl
  | c :: cs, _, ⟨v, vs', e, hv, hl⟩ => ⟨v, vs', e, sub_rel k r h hr hb hp c v hv, subL_rel k r h hr hb hp cs vs' hl⟩
end

theorem RelL_len {Ψ : Pr} {β : List Value} : ∀ (cs : List AV) (vs : List Value), RelL Ψ β cs vs → vs.length = cs.length
  | [], _, hr => by simp only [RelL] at hr; simp [hr]
  | _ :: cs, _, ⟨v, vs', e, _, hl⟩ => by simp [e, RelL_len cs vs' hl]

theorem RelL_get {Ψ : Pr} {β : List Value} : ∀ (cs : List AV) (vs : List Value), RelL Ψ β cs vs → ∀ i, RelV Ψ β (fget cs i) (vs.getD i undef)
  | [], _, _, _ => trivial
  | c :: cs, _, ⟨v, vs', e, hv, _⟩, 0 => by subst e; simpa [fget] using hv
  | c :: cs, _, ⟨v, vs', e, _, hl⟩, i + 1 => by subst e; simpa [fget] using RelL_get cs vs' hl i

theorem RelL_get? {Ψ : Pr} {β : List Value} (cs : List AV) (vs : List Value) (h : RelL Ψ β cs vs) (i : Nat) (hi : i < cs.length) : ∃ v, vs[i]? = some v ∧ RelV Ψ β (fget cs i) v := by
  have hl := RelL_len cs vs h
  refine ⟨vs[i], List.getElem?_eq_getElem (by omega), ?_⟩
  have := RelL_get cs vs h i
  rwa [List.getD_eq_getElem?_getD, List.getElem?_eq_getElem (by omega), Option.getD_some] at this

theorem RelL_set {Ψ : Pr} {β : List Value} {av : AV} {u : Value} (hu : RelV Ψ β av u) : ∀ (cs : List AV) (vs : List Value) (i : Nat), RelL Ψ β cs vs → RelL Ψ β (fset cs i av) (vs.set i u)
  | [], _, _, hl => by simp only [RelL] at hl; subst hl; simp [fset, RelL]
  | _ :: cs, _, 0, ⟨v, vs', e, _, hl⟩ => by subst e; exact ⟨u, vs', by simp, hu, hl⟩
  | _ :: cs, _, i + 1, ⟨v, vs', e, hv, hl⟩ => by subst e; exact ⟨v, vs'.set i u, by simp, hv, RelL_set hu cs vs' i hl⟩

theorem RelL_append {Ψ : Pr} {β : List Value} : ∀ (cs ds : List AV) (vs us : List Value), RelL Ψ β cs vs → RelL Ψ β ds us → RelL Ψ β (cs ++ ds) (vs ++ us)
  | [], _, _, _, h, h' => by simp only [RelL] at h; subst h; simpa using h'
  | _ :: cs, ds, _, us, ⟨v, vs', e, hv, hl⟩, h' => ⟨v, vs' ++ us, by simp [e], hv, RelL_append cs ds vs' us hl h'⟩

theorem takeN_eq (n : Nat) (l : List AV) : takeN n l = l.take n := by
  induction n generalizing l with
  | zero => simp [takeN]
  | succ n ih => cases l <;> simp [takeN, ih]
theorem dropN_eq (n : Nat) (l : List AV) : dropN n l = l.drop n := by
  induction n generalizing l with
  | zero => simp [dropN]
  | succ n ih => cases l <;> simp [dropN, ih]
theorem listLen_eq (l : List AV) : listLen l = l.length := by induction l <;> simp [listLen, *]
theorem hlen_eq (l : List Blk) : hlen l = l.length := by induction l <;> simp [hlen, *]

theorem RelL_take {Ψ : Pr} {β : List Value} : ∀ (n : Nat) (cs : List AV) (vs : List Value), RelL Ψ β cs vs → RelL Ψ β (cs.take n) (vs.take n)
  | 0, _, _, _ => by simp [RelL]
  | n + 1, [], _, h => by simp only [RelL] at h; subst h; simp [RelL]
  | n + 1, _ :: cs, _, ⟨v, vs', e, hv, hl⟩ => by subst e; exact ⟨v, vs'.take n, by simp, hv, RelL_take n cs vs' hl⟩
theorem RelL_drop {Ψ : Pr} {β : List Value} : ∀ (n : Nat) (cs : List AV) (vs : List Value), RelL Ψ β cs vs → RelL Ψ β (cs.drop n) (vs.drop n)
  | 0, _, _, h => by simpa using h
  | n + 1, [], _, h => by simp only [RelL] at h; subst h; simp [RelL]
  | n + 1, _ :: cs, _, ⟨v, vs', e, hv, hl⟩ => by subst e; simpa using RelL_drop n cs vs' hl

theorem hget_some {h : List Blk} {k : Nat} {b : Blk} (e : hget h k = b) (hb : b ≠ .gone) : h[k]? = some b := by
  induction h generalizing k with
  | nil => simp [hget] at e; exact absurd e.symm hb
  | cons a l ih => cases k with
    | zero => simp [hget] at e; simp [e]
    | succ k => simp [hget] at e; simpa using ih e

theorem hset_eq (h : List Blk) (k : Nat) (b : Blk) : hset h k b = h.set k b := by
  induction h generalizing k with
  | nil => simp [hset]
  | cons a l ih => cases k <;> simp [hset, ih]

theorem fset_eq (h : List AV) (k : Nat) (b : AV) : fset h k b = h.set k b := by
  induction h generalizing k with
  | nil => simp [fset]
  | cons a l ih => cases k <;> simp [fset, ih]

/-! ### The world grows -/
/-- Blocks are laid and promises are made of what is new. -/
structure Step (Ψ : Pr) (w : World) (Ψ' : Pr) (w' : World) : Prop where
  below : Below w.heap.size w w'
  le : PLe Ψ Ψ'
  new : ∀ a v, Ψ' a = some v → Ψ a = some v ∨ (w.heap.size ≤ a.block ∧ a.spot = none ∧ w'.cell? a = some v)

theorem Step.refl (Ψ : Pr) (w : World) : Step Ψ w Ψ w := ⟨Below.refl _ _, PLe.refl _, fun _ _ h => .inl h⟩

theorem heap_lt {w : World} {g : Nat} {o : Obj} (h : w.heap[g]? = some o) : g < w.heap.size := by
  rcases Nat.lt_or_ge g w.heap.size with h' | h'
  · exact h'
  · rw [Array.getElem?_eq_none h'] at h; cases h

theorem BlkR_step {B : Nat} {Ψ Ψ' : Pr} {β : List Value} {w w' : World} (hs : Step Ψ w Ψ' w') {k : Nat} {b : Blk} (h : BlkR B Ψ β w k b) : BlkR B Ψ' β w' k b := by
  cases b with
  | gone => trivial
  | cells cs =>
    obtain ⟨g, c, e, h1, h2, h3, h4, h5⟩ := h
    exact ⟨g, c, e, h1, (hs.below.block g (heap_lt h2)).trans h2, h3, RelL_mono hs.le (fun _ _ h => h) _ _ h4, h5⟩
  | grow tid e xs =>
    refine h.imp id ?_
    rintro ⟨g, cap, cur, h1, h2, h3, h4, h5, h6, h7, h8⟩
    exact ⟨g, cap, cur, h1, h2, h3, (hs.below.block g (heap_lt h4)).trans h4, h5, h6, h7, rdL_mono (reads_mono hs.le e) _ _ h8⟩
  | kmap es =>
    obtain ⟨g, ms, cl, h1, h2, h3, h4⟩ := h
    exact ⟨g, ms, cl, h1, (hs.below.block g (heap_lt h2)).trans h2, h3, h4⟩

theorem claims_lt {B : Nat} {Ψ : Pr} {β : List Value} {w : World} {k g : Nat} {b : Blk} (h : BlkR B Ψ β w k b) (hc : claims β k g b) : B ≤ g ∧ g < w.heap.size := by
  cases b with
  | gone => exact hc.elim
  | cells cs =>
    obtain ⟨g', c, e, h1, h2, h3, _⟩ := h
    simp only [claims] at hc
    rw [h1] at hc
    simp at hc
    subst hc
    exact ⟨h3, heap_lt h2⟩
  | grow tid e xs =>
    obtain ⟨n, cap', hz, hc⟩ := hc
    rcases h with ⟨ad, h1, _⟩ | ⟨g', cap, cur, h1, h2, h3, h4, _⟩
    · rw [h1] at hc
      simp at hc
      exact absurd hc.2.2.symm hz
    · rw [h1] at hc
      simp at hc
      obtain ⟨rfl, _, _⟩ := hc
      exact ⟨h3, heap_lt h4⟩
  | kmap es =>
    obtain ⟨g', ms, cl, h1, h2, h3, _⟩ := h
    simp only [claims] at hc
    rw [h1] at hc
    simp at hc
    subst hc
    exact ⟨h3, heap_lt h2⟩

theorem InvH.step {B : Nat} {w0 : World} {Ψ Ψ' : Pr} {β : List Value} {h : List Blk} {w w' : World} (hi : InvH B w0 Ψ β h w) (hs : Step Ψ w Ψ' w') : InvH B w0 Ψ' β h w' where
  low := hi.low.trans (hs.below.mono hi.size)
  size := Nat.le_trans hi.size hs.below.size
  prom := fun a v hv => by
    rcases hs.new a v hv with h' | ⟨_, h1, h2⟩
    · obtain ⟨h1, h2⟩ := hi.prom a v h'
      exact ⟨h1, (hs.below.cell (World.block_lt_of_cell? w a h2)).trans h2⟩
    · exact ⟨h1, h2⟩
  len := hi.len
  one := hi.one
  blk := fun k b hb => BlkR_step hs (hi.blk k b hb)
  free := fun k b g hb hc a ha => by
    cases hp : Ψ' a with
    | none => rfl
    | some v =>
      rcases hs.new a v hp with h' | ⟨h1, _⟩
      · rw [hi.free k b g hb hc a ha] at h'; cases h'
      · have := (claims_lt (hi.blk k b hb) hc).2
        omega
  sep := hi.sep

theorem RelF_mono {Ψ Ψ' : Pr} {β β' : List Value} (h : PLe Ψ Ψ') (hb : ∀ (k : Nat) (v : Value), β[k]? = some v → β'[k]? = some v) : ∀ (fs : List (List AV)) (as : List Act), RelF Ψ β fs as → RelF Ψ' β' fs as
  | [], _, hr => hr
  | _ :: fs, _, ⟨a, as', e, ⟨h1, h2⟩, hr⟩ => ⟨a, as', e, ⟨h1, RelL_mono h hb _ _ h2⟩, RelF_mono h hb fs as' hr⟩

theorem Inv.step {B : Nat} {w0 : World} {Ψ Ψ' : Pr} {β : List Value} {s : St} {acts : List Act} {w w' : World} (hi : Inv B w0 Ψ β s acts w) (hs : Step Ψ w Ψ' w') : Inv B w0 Ψ' β s acts w' :=
  ⟨hi.hp.step hs, RelF_mono hs.le (fun _ _ h => h) _ _ hi.fr⟩

end Go.AM
