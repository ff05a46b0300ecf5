import Derived.Test.YtgneefndofeoaaaAmm
namespace Go.AM
set_option linter.unusedVariables false
open Go.RowKit

variable {B : Nat} {w0 : World} {C : Ctx} {Ψ Ψ0 : Pr} {β : List Value} {h : List Blk} {w w' : World} {fr : List AV} {a a0 : Act} {As : List Act} {W : List Nat}

/-! ### Loops -/
theorem wp_loop_ghost {P : Program} {τ : Type} {c : Code} {Q : Exit → Act → World → Prop} (H : τ → Act → World → Prop) (μ : τ → Nat) (x0 : τ) (h0 : H x0 a w)
    (round : ∀ x a w, H x a w → c.wp P (Exit.then (fun a' w' => ∃ x', H x' a' w' ∧ μ x' < μ x) Q) a w) : (Code.loop c).wp P Q a w := by
  intro b k cs
  have key : ∀ n x a w, μ x = n → H x a w →
      ∃ e a' w', Q e a' w' ∧ Arrives P (lone (b.at a (.code c :: .inLoop c :: k)) cs w) b k cs e a' w' := by
    intro n
    induction n using Nat.strongRecOn with
    | _ n ih =>
      intro x a w hn hI
      obtain ⟨e, a₁, w₁, hq, harr⟩ := round x a w hI b (.inLoop c :: k) cs
      cases e with
      | normal =>
        obtain ⟨x', hI₁, hlt⟩ := hq
        obtain ⟨e₂, a₂, w₂, hq₂, harr₂⟩ := ih (μ x') (hn ▸ hlt) x' a₁ w₁ rfl hI₁
        exact ⟨e₂, a₂, w₂, hq₂, .of_steps (Steps.trans harr (.one step_inLoop)) harr₂⟩
      | exit id => exact ⟨_, a₁, w₁, hq, .pass (x := .inLoop c) rfl (fun _ _ => .inl (by simp)) harr⟩
      | goto l => exact ⟨_, a₁, w₁, hq, .pass (x := .inLoop c) rfl (fun _ _ => .inl (by simp)) harr⟩
      | ret => exact ⟨_, a₁, w₁, hq, .pass (x := .inLoop c) rfl (fun _ _ => .inl (by simp)) harr⟩
      | panic ch => exact ⟨_, a₁, w₁, hq, .pass (x := .inLoop c) rfl (fun _ _ => .inl (by simp)) harr⟩
      | outgrown => exact ⟨_, a₁, w₁, hq, .pass (x := .inLoop c) rfl (fun _ _ => .inl (by simp)) harr⟩
  obtain ⟨e, a', w', hq, harr⟩ := key _ x0 a w rfl h0
  exact ⟨e, a', w', hq, .of_steps (.one step_loop) harr⟩

/-- A slot with a nil slice becomes one with an own slice. -/
theorem prepLA_sound {s : St} (la : LA) (hi : InvH B w0 Ψ β s.heap w) (hf : RelF Ψ β (s.top :: s.below) (a :: As)) :
    ∃ β', InvH B w0 Ψ β' (prepLA s la).heap w ∧ RelF Ψ β' ((prepLA s la).top :: (prepLA s la).below) (a :: As) := by
  unfold prepLA
  split
  · rename_i i tid e
    split
    · rename_i hn
      have hv : a.tmps[i]? = some (.slice none 0 0) := by
        have h1 := RelL_get _ _ (frame_of hf).2 i
        rw [hn, getD_eq] at h1
        have h2 : (a.tmps[i]?).getD undef = .slice none 0 0 := h1
        cases hx : a.tmps[i]? with
        | none => rw [hx] at h2; simp [undef] at h2
        | some x => rw [hx] at h2; simp at h2; rw [h2]
      have hk : (β ++ [Value.slice none 0 0])[s.heap.length]? = some (.slice none 0 0) := by rw [← hi.len]; simp
      refine ⟨β ++ [.slice none 0 0], hi.push (Below.refl _ _) rfl (.inl ⟨none, hk, rfl⟩) (fun g hc => ?_), ?_⟩
      · obtain ⟨n, cap, hz, hc⟩ := hc
        rw [hk] at hc
        simp at hc
      · have hf' := RelF_mono (PLe.refl _) (snoc_mono (.slice none 0 0)) _ _ hf
        have := put_some_rel (s := s) (t := i) (av := .sl (hlen s.heap)) hf' hv (by rw [hlen_eq]; exact hk)
        exact this
    · exact ⟨β, hi, hf⟩
  · exact ⟨β, hi, hf⟩

theorem prepLAs_sound : ∀ (as : List LA) {s : St} {β : List Value}, InvH B w0 Ψ β s.heap w → RelF Ψ β (s.top :: s.below) (a :: As) →
    ∃ β', InvH B w0 Ψ β' (prepLAs s as).heap w ∧ RelF Ψ β' ((prepLAs s as).top :: (prepLAs s as).below) (a :: As)
  | [], _, β, hi, hf => ⟨β, hi, hf⟩
  | la :: as, s, β, hi, hf => by
    obtain ⟨β', h1, h2⟩ := prepLA_sound la hi hf
    exact prepLAs_sound as h1 h2

/-- The heap may be known less well. -/
theorem InvH.weaken {β' : List Value} {h' : List Blk} (hi : InvH B w0 Ψ β h w) (hl : β'.length = h'.length) (hb : ∀ (k : Nat) (v : Value), β'[k]? = some v → β[k]? = some v)
    (hw : ∀ k b, h'[k]? = some b → BlkR B Ψ β' w k b ∧ ∀ g, claims β' k g b → ∃ b'', h[k]? = some b'' ∧ claims β k g b'') : InvH B w0 Ψ β' h' w where
  low := hi.low
  size := hi.size
  prom := hi.prom
  len := hl
  one := fun k u hk => hi.one k u (hb k u hk)
  blk := fun k b hk => (hw k b hk).1
  free := fun k b g hk hc ad had => by
    obtain ⟨b'', h1, h2⟩ := (hw k b hk).2 g hc
    exact hi.free k b'' g h1 h2 ad had
  sep := fun i j bi bj g hij hbi hbj hci hcj => by
    obtain ⟨bi', h1, h2⟩ := (hw i bi hbi).2 g hci
    obtain ⟨bj', h3, h4⟩ := (hw j bj hbj).2 g hcj
    exact hi.sep i j bi' bj' g hij h1 h3 h2 h4

mutual
theorem still_rel {Ψ' : Pr} {β1 β' : List Value} (hle : PLe Ψ Ψ') (hb : ∀ (k : Nat) (v u : Value), β[k]? = some u → β1[k]? = some v → β'[k]? = some v) : ∀ (t s : AV) (v : Value), RelV Ψ β t v → RelV Ψ' β1 s v → still t s = true → RelV Ψ' β' t v
  | .junk, _, _, _, _, _ => trivial
  | .und, _, _, h, _, _ => h
  | .tt, _, _, h, _, _ => h
  | .ff, _, _, h, _, _ => h
  | .d t x, _, _, ⟨cs, hc, e⟩, _, _ => ⟨cs, reads_mono hle t x cs hc, e⟩
  | .fs e xs, _, _, ⟨ad, ea, cs, hc, e'⟩, _, _ => ⟨ad, ea, cs, reads_mono hle (.arr e) xs cs hc, e'⟩
  | .nils, _, _, h, _, _ => h
  | .nilf, _, _, h, _, _ => h
  | .nilp, _, _, h, _, _ => h
  | .rp t x, _, _, ⟨g, off, cs, e, hc, hp⟩, _, _ => ⟨g, off, cs, e, reads_mono hle t x cs hc, fun j u hj => hle _ _ (hp j u hj)⟩
  | .slp _ _ _, _, _, _, _, hs => by simp [still] at hs
  | .own k o, s, v, ⟨g, hg, e⟩, hr, hs => by
    unfold still at hs
    split at hs
    · rename_i k' o'
      simp only [Bool.and_eq_true, Nat.beq_eq] at hs
      obtain ⟨rfl, rfl⟩ := hs
      obtain ⟨g', hg', e'⟩ := hr
      exact ⟨g', hb k _ _ hg hg', e'⟩
    · cases hs
  | .sl k, s, v, h, hr, hs => by
    unfold still at hs
    split at hs
    · rename_i k'
      simp only [Nat.beq_eq] at hs
      subst hs
      exact hb k _ _ h hr
    · cases hs
  | .agg cs, s, v, ⟨vs, e, hl, h1⟩, hr, hs => by
    unfold still at hs
    split at hs
    · rename_i cs'
      obtain ⟨vs', e', hl', _⟩ := hr
      rw [e] at e'
      simp at e'
      subst e'
      exact ⟨vs, e, stillL_rel hle hb cs cs' vs hl hl' hs, h1⟩
    · cases hs
  | .tup cs, s, v, ⟨vs, e, hl⟩, hr, hs => by
    unfold still at hs
    split at hs
    · rename_i cs'
      obtain ⟨vs', e', hl'⟩ := hr
      rw [e] at e'
      simp at e'
      subst e'
      exact ⟨vs, e, stillL_rel hle hb cs cs' vs hl hl' hs⟩
    · cases hs
  | .fn f cs, s, v, ⟨vs, e, hl⟩, hr, hs => by
    unfold still at hs
    split at hs
    · rename_i f' cs'
      obtain ⟨vs', e', hl'⟩ := hr
      rw [e] at e'
      simp at e'
      obtain ⟨_, e'⟩ := e'
      subst e'
      exact ⟨vs, e, stillL_rel hle hb cs cs' vs hl hl' hs⟩
    · cases hs
theorem stillL_rel {Ψ' : Pr} {β1 β' : List Value} (hle : PLe Ψ Ψ') (hb : ∀ (k : Nat) (v u : Value), β[k]? = some u → β1[k]? = some v → β'[k]? = some v) : ∀ (ts ss : List AV) (vs : List Value), RelL Ψ β ts vs → RelL Ψ' β1 ss vs → stillL ts ss = true → RelL Ψ' β' ts vs
  | [], _, _, h, _, _ => h
  | t :: ts, ss, _, ⟨v, vs', e, hv, hl⟩, hr, hs => by
    unfold stillL at hs
    split at hs
    · rename_i s ss'
      simp only [Bool.and_eq_true] at hs
      obtain ⟨v', vs'', e', hv', hl'⟩ := hr
      rw [e] at e'
      simp at e'
      obtain ⟨rfl, rfl⟩ := e'
      exact ⟨v, vs', e, still_rel hle hb t s v hv hv' hs.1, stillL_rel hle hb ts ss' vs' hl hl' hs.2⟩
    · cases hs
end

theorem noSlp_rel {ks : List Nat} {av : AV} {v : Value} (h : RelV Ψ β av v) : RelV Ψ β (noSlp ks av) v := by
  unfold noSlp
  split
  · trivial
  · split
    · trivial
    · exact h
  · exact h

theorem noSlps_rel {ks : List Nat} : ∀ {l : List AV} {vs : List Value}, RelL Ψ β l vs → RelL Ψ β (noSlps ks l) vs
  | [], _, h => h
  | _ :: _, _, ⟨v, vs', e, hv, hl⟩ => ⟨v, vs', e, noSlp_rel hv, noSlps_rel hl⟩

theorem noSlpF_rel {ks : List Nat} : ∀ {fs : List (List AV)} {as : List Act}, RelF Ψ β fs as → RelF Ψ β (noSlpF ks fs) as
  | [], _, h => h
  | _ :: _, _, ⟨a, as', e, ⟨h1, h2⟩, h3⟩ => ⟨a, as', e, ⟨h1, noSlps_rel h2⟩, noSlpF_rel h3⟩

theorem stillF_rel {Ψ' : Pr} {β1 β' : List Value} (hle : PLe Ψ Ψ') (hb : ∀ (k : Nat) (v u : Value), β[k]? = some u → β1[k]? = some v → β'[k]? = some v) : ∀ (ts ss : List (List AV)) (as : List Act), RelF Ψ β ts as → RelF Ψ' β1 ss as → stillF ts ss = true → RelF Ψ' β' ts as
  | [], _, _, h, _, _ => h
  | t :: ts, ss, _, ⟨a, as', e, ⟨h1, h2⟩, hl⟩, hr, hs => by
    unfold stillF at hs
    split at hs
    · rename_i s ss'
      simp only [Bool.and_eq_true] at hs
      obtain ⟨a', as'', e', ⟨h1', h2'⟩, hl'⟩ := hr
      rw [e] at e'
      simp at e'
      obtain ⟨rfl, rfl⟩ := e'
      exact ⟨a, as', e, ⟨h1, stillL_rel hle hb t s _ h2 h2' hs.1⟩, stillF_rel hle hb ts ss' as' hl hl' hs.2⟩
    · cases hs

/-- The frame at the loop's head, but for what varies. -/
theorem stillT_rel {Ψ' : Pr} {β1 β' : List Value} {ks ws : List Nat} (hle : PLe Ψ Ψ') (hb : ∀ (k : Nat) (v u : Value), β[k]? = some u → β1[k]? = some v → β'[k]? = some v) :
    ∀ (ts ss : List AV) (i : Nat) (vs vs1 : List Value), RelL Ψ β (forget ks ws i ts) vs → RelL Ψ' β1 ss vs1 → vs.length = vs1.length → (∀ j, j < vs.length → i + j ∉ ws → vs[j]? = vs1[j]?) → stillT ws i (forget ks ws i ts) ss = true → RelL Ψ' β' (forget ks ws i ts) vs1
  | [], _, _, _, vs1, h, _, hlen, _, _ => by
    simp only [forget, RelL] at h
    subst h
    have : vs1 = [] := List.eq_nil_of_length_eq_zero (by simpa using hlen.symm)
    subst this
    rfl
  | t :: ts, ss, i, _, vs1, ⟨v, vs', e, hv, hl⟩, hr, hlen, hsame, hs => by
    subst e
    unfold forget stillT at hs
    split at hs
    · rename_i s ss'
      simp only [Bool.and_eq_true, Bool.or_eq_true] at hs
      obtain ⟨v1, vs1', e1, hv1, hl1⟩ := hr
      subst e1
      simp only [List.length_cons, Nat.add_right_cancel_iff] at hlen
      refine ⟨v1, vs1', rfl, ?_, stillT_rel hle hb ts ss' (i + 1) vs' vs1' hl hl1 hlen (fun j hj hn => ?_) hs.2⟩
      · by_cases hm : memN i ws = true
        · rw [if_pos hm]; trivial
        · rw [if_neg hm] at hs hv ⊢
          have hvv : v = v1 := by
            have := hsame 0 (by simp) (by
              intro hmem
              exact hm (memN_iff.2 (by simpa using hmem)))
            simpa using this
          subst hvv
          exact still_rel hle hb _ s v hv hv1 (hs.1.resolve_left hm)
      · have := hsame (j + 1) (by simpa using hj) (by rw [show i + (j + 1) = i + 1 + j by omega]; exact hn)
        simpa using this
    · cases hs

theorem forget_rel {ks ws : List Nat} : ∀ {ts : List AV} {i : Nat} {vs : List Value}, RelL Ψ β ts vs → RelL Ψ β (forget ks ws i ts) vs
  | [], _, _, h => h
  | t :: ts, i, _, ⟨v, vs', e, hv, hl⟩ => ⟨v, vs', e, (by
    by_cases hm : memN i ws = true
    · rw [if_pos hm]; trivial
    · rw [if_neg hm]; exact noSlp_rel hv), forget_rel hl⟩

theorem junks_rel : ∀ {cs : List AV} {vs : List Value}, vs.length = cs.length → RelL Ψ β (junks cs) vs
  | [], [], _ => rfl
  | [], _ :: _, h => by simp at h
  | _ :: _, [], h => by simp at h
  | _ :: cs, v :: vs, h => ⟨v, vs, rfl, trivial, junks_rel (by simpa using h)⟩

theorem stillB_spec {s0 s : St} : ∀ {as : List LA}, stillB s0 s as = true → ∀ k ∈ laBlocks as, ∃ x y, hget s0.heap k = .cells x ∧ hget s.heap k = .cells y ∧ x.length = y.length
  | [], _, k, hk => by simp [laBlocks] at hk
  | .slot _ _ :: as, h, k, hk => stillB_spec (as := as) h k hk
  | .gslot _ _ _ :: as, h, k, hk => stillB_spec (as := as) h k hk
  | .cell j _ _ :: as, h, k, hk => by
    unfold stillB at h
    simp only [Bool.and_eq_true] at h
    simp only [laBlocks, List.mem_cons] at hk
    rcases hk with rfl | hk
    · have h1 := h.1
      split at h1
      · rename_i x y hx hy
        simp only [Nat.beq_eq, listLen_eq] at h1
        exact ⟨x, y, hx, hy, h1⟩
      · cases h1
    · exact stillB_spec h.2 k hk

theorem havocH_get {ks : List Nat} : ∀ {h : List Blk} {i k : Nat} {b : Blk}, (havocH ks i h)[k]? = some b → b = .gone ∨ ∃ cs, h[k]? = some (.cells cs) ∧ b = .cells (junks cs) ∧ i + k ∈ ks
  | [], _, _, _, hb => by simp [havocH] at hb
  | b0 :: h, i, 0, b, hb => by
    cases b0 with
    | cells cs =>
      simp only [havocH, List.getElem?_cons_zero, Option.some.injEq] at hb
      split at hb
      · rename_i hm
        exact .inr ⟨cs, rfl, hb.symm, by simpa using memN_iff.1 hm⟩
      · exact .inl hb.symm
    | gone => simp only [havocH, List.getElem?_cons_zero, Option.some.injEq] at hb; exact .inl hb.symm
    | grow _ _ _ => simp only [havocH, List.getElem?_cons_zero, Option.some.injEq] at hb; exact .inl hb.symm
    | kmap _ => simp only [havocH, List.getElem?_cons_zero, Option.some.injEq] at hb; exact .inl hb.symm
  | b0 :: h, i, k + 1, b, hb => by
    have : (havocH ks i (b0 :: h))[k + 1]? = (havocH ks (i + 1) h)[k]? := by cases b0 <;> simp [havocH]
    rw [this] at hb
    rcases havocH_get hb with h1 | ⟨cs, h1, h2, h3⟩
    · exact .inl h1
    · exact .inr ⟨cs, by simpa using h1, h2, by rwa [show i + (k + 1) = i + 1 + k by omega]⟩

theorem havocH_len {ks : List Nat} : ∀ {h : List Blk} {i : Nat}, (havocH ks i h).length = h.length
  | [], _ => rfl
  | b0 :: h, i => by cases b0 <;> simp [havocH, havocH_len (h := h)]

/-- A state that says no more than what is known. -/
structure Good (B : Nat) (Ψ : Pr) (β β' : List Value) (s σ : St) (n : Nat) (a : Act) (As : List Act) (w : World) : Prop where
  len : σ.heap.length = n
  fr : RelF Ψ β' (σ.top :: σ.below) (a :: As)
  blk : ∀ k b, σ.heap[k]? = some b → BlkR B Ψ β' w k b ∧ ∀ g, claims β' k g b → ∃ b'', s.heap[k]? = some b'' ∧ claims β k g b''

theorem take_get {l : List Value} {n k : Nat} (h : k < n) : (l.take n)[k]? = l[k]? := by rw [List.getElem?_take, if_pos h]

theorem Good.setBlk {s σ : St} {n k : Nat} {b b0 : Blk} {β' : List Value} (hg : Good B Ψ β β' s σ n a As w) (_hk : σ.heap[k]? = some b0) (hb : BlkR B Ψ β' w k b) (hc : ∀ g, claims β' k g b → ∃ b'', s.heap[k]? = some b'' ∧ claims β k g b'') :
    Good B Ψ β β' s { σ with heap := σ.heap.set k b } n a As w where
  len := by simpa using hg.len
  fr := hg.fr
  blk := fun j b1 hj => by
    by_cases hjk : j = k
    · subst hjk
      simp only at hj
      rw [List.getElem?_set_self (hget_lt _hk)] at hj
      simp at hj
      subst hj
      exact ⟨hb, hc⟩
    · simp only at hj
      rw [List.getElem?_set_ne (Ne.symm hjk)] at hj
      exact hg.blk j b1 hj

theorem Good.setTop {s σ : St} {n i : Nat} {av : AV} {β' : List Value} {v : Value} (hg : Good B Ψ β β' s σ n a As w) (ht : a.tmps[i]? = some v) (hv : RelV Ψ β' av v) : Good B Ψ β β' s { σ with top := fset σ.top i av } n a As w where
  len := hg.len
  fr := put_some_rel (s := σ) hg.fr ht hv
  blk := hg.blk

theorem Good.setTop' {s σ : St} {n i : Nat} {av : AV} {β' : List Value} (hg : Good B Ψ β β' s σ n a As w) (hv : ∀ v, a.tmps[i]? = some v → RelV Ψ β' av v) : Good B Ψ β β' s { σ with top := fset σ.top i av } n a As w := by
  cases hx : a.tmps[i]? with
  | some v => exact hg.setTop hx (hv v hx)
  | none =>
    have : fset σ.top i av = σ.top := by
      rw [fset_eq]
      apply List.set_eq_of_length_le
      have := RelL_len _ _ (frame_of hg.fr).2
      have h2 : a.tmps.size ≤ i := by simpa using hx
      rw [Array.length_toList] at this
      omega
    rw [this]
    exact hg

def LaOk (s0 s : St) (n : Nat) : LA → Prop
  | .gslot i tid e => ∃ j, laSl s0 (.gslot i tid e) = some j ∧ laSl s (.gslot i tid e) = some j ∧ j < n
  | _ => True

/-- One row of the annotation is filled in. -/
theorem setLA_good {s s0 σ : St} {n : Nat} (la : LA) {x : la.ty.den} (hi : InvH B w0 Ψ β s.heap w) (hf : RelF Ψ β (s.top :: s.below) (a :: As)) (hn : n ≤ s.heap.length) (hx : getLA s la = some x)
    (hA : LaOk s0 s n la) (hg : Good B Ψ β (β.take n) s σ n a As w) : Good B Ψ β (β.take n) s (setLA s0 σ la x) n a As w := by
  cases la with
  | slot i t =>
    have hx : (if noRefs [fget s.top i] = true then asD s.heap t (fget s.top i) else none) = some (x : t.den) := hx
    split at hx
    · rename_i hnr
      have hrefs : refs (fget s.top i) = [] := by
        have := noRefs_eq hnr
        simpa [refsA] using this
      refine hg.setTop' fun v hv => ?_
      have h1 := RelL_get _ _ (frame_of hf).2 i
      rw [getD_eq, hv] at h1
      exact asD_rv (PLe.refl _) hx h1 (by rw [hrefs]; exact Reading.nil)
    · cases hx
  | cell k off t =>
    simp only [setLA]
    split
    · rename_i cs hcs
      have hx : (match hget s.heap k with | .cells cs => if !t.isAgg && noRefs [fget cs off] && Nat.ble (off + 1) (listLen cs) then asD1 s.heap t (fget cs off) else none | _ => none) = some (x : t.den) := hx
      split at hx
      · rename_i cs1 hcs1
        have hx : (if (!t.isAgg && noRefs [fget cs1 off] && Nat.ble (off + 1) (listLen cs1)) = true then asD1 s.heap t (fget cs1 off) else none) = some (x : t.den) := hx
        split at hx
        · rename_i hc
          simp only [Bool.and_eq_true, Bool.not_eq_true', Nat.ble_eq, listLen_eq] at hc
          obtain ⟨⟨hag, hnr⟩, hle⟩ := hc
          have hσk := hget_some hcs (by simp)
          obtain ⟨hB, hC⟩ := hg.blk k _ hσk
          obtain ⟨g, c, e, h1, h2, h3, h4, h5⟩ := hB
          have hkn : k < n := by rw [← hg.len]; exact hget_lt hσk
          rw [take_get hkn] at h1
          obtain ⟨g1, c1, e1, h1', h2', h3', h4', h5'⟩ := hi.blk k _ (hget_some hcs1 (by simp))
          rw [h1] at h1'
          simp at h1'
          subst h1'
          rw [h2] at h2'
          simp at h2'
          obtain ⟨rfl, rfl⟩ := h2'
          obtain ⟨u, hu, hrel⟩ := RelL_get? _ _ h4' off (by omega)
          have hrefs : refs1 (fget cs1 off) = [] := by
            have := noRefs_eq hnr
            simp only [refsA, List.append_nil] at this
            cases hfx : fget cs1 off <;> simp_all [refs, refs1]
          have hrv := asD1_rv (PLe.refl Ψ) hx hrel (by rw [hrefs]; exact Reading.nil)
          rw [hset_eq]
          refine hg.setBlk hσk ⟨g, c, e, by rw [take_get hkn]; exact h1, h2, h3, ?_, h5⟩ (fun g' hc' => hC g' hc')
          have := RelL_set (β := β.take n) (u := u) (av := .d t x) hrv cs c.toList off h4
          have hcu : c.toList.set off u = c.toList := put_some_rel.List.set_getElem?_self' hu
          rwa [hcu] at this
        · cases hx
      · cases hx
    · exact hg
  | gslot i tid e =>
    obtain ⟨j, hj0, hj, hjn⟩ := hA
    simp only [setLA]
    rw [hj0]
    simp only
    simp only [laSl] at hj
    simp only [getLA] at hx
    split at hj
    · rename_i k hk
      simp at hj
      subst hj
      simp only [hk] at hx
      have hx : (match hget s.heap k with | .grow tid' e' xs => if Nat.beq tid tid' then cast? (.arr e') (.arr e) xs else none | _ => none) = some (x : List e.den) := hx
      split at hx
      · rename_i tid' e' xs hgr
        have hx : (if Nat.beq tid tid' = true then cast? (.arr e') (.arr e) xs else none) = some (x : (Ty.arr e).den) := hx
        by_cases htid : Nat.beq tid tid' = true
        · have htid' : tid = tid' := by simpa [Nat.beq_eq] using htid
          subst htid'
          have hx : cast? (.arr e') (.arr e) xs = some x := (if_pos htid).symm.trans hx
          obtain ⟨he, rfl⟩ := cast?_spec hx
          simp only [Ty.arr.injEq] at he
          subst he
          have hsk := hget_some hgr (by simp)
          have hB := hi.blk k _ hsk
          have hσk : ∃ b0, σ.heap[k]? = some b0 := ⟨σ.heap[k]'(by rw [hg.len]; exact hjn), List.getElem?_eq_getElem _⟩
          obtain ⟨b0, hσk⟩ := hσk
          have g1 := hg.setTop' (i := i) (av := .sl k) (fun v hv => by
            have h1 := RelL_get _ _ (frame_of hf).2 i
            rw [getD_eq, hv, hk] at h1
            show (β.take n)[k]? = some v
            rw [take_get hjn]
            exact h1)
          have g2 := g1.setBlk (b := .grow tid e' xs) hσk (by
            rcases hB with ⟨ad, h1, h2⟩ | ⟨g, cap, cur, h1, r⟩
            · exact .inl ⟨ad, by rw [take_get hjn]; exact h1, h2⟩
            · exact .inr ⟨g, cap, cur, by rw [take_get hjn]; exact h1, r⟩) (fun g hc => ⟨_, hsk, by
              obtain ⟨m, cap, h1, h2⟩ := hc
              rw [take_get hjn] at h2
              exact ⟨m, cap, h1, h2⟩⟩)
          rw [hset_eq]
          exact g2
        · have hx : none = some x := (if_neg htid).symm.trans hx
          cases hx
      · cases hx
    · cases hj

theorem setLAs_good {s s0 : St} {n : Nat} (hi : InvH B w0 Ψ β s.heap w) (hf : RelF Ψ β (s.top :: s.below) (a :: As)) (hn : n ≤ s.heap.length) : ∀ (as : List LA) {σ : St} {x : dens (laTys as)}, getLAs s as = some x →
    (∀ la ∈ as, LaOk s0 s n la) → Good B Ψ β (β.take n) s σ n a As w → Good B Ψ β (β.take n) s (setLAs s0 σ as x) n a As w
  | [], σ, x, _, _, hg => hg
  | [la], σ, x, hx, hA, hg => setLA_good la hi hf hn hx (hA la (by simp)) hg
  | la :: lb :: as, σ, x, hx, hA, hg => by
    unfold getLAs at hx
    split at hx
    · rename_i y hy
      split at hx
      · rename_i z hz
        have hx : (y, z) = x := Option.some.inj hx
        subst hx
        exact setLAs_good hi hf hn (lb :: as) hz (fun la' h' => hA la' (by simp at h' ⊢; exact .inr h')) (setLA_good la hi hf hn hy (hA la (by simp)) hg)
      · cases hx
    · cases hx

end Go.AM
