import Derived.Test.YtmimchmdikjilaaAmm
namespace Go.AM
set_option linter.unusedVariables false
open Go.RowKit

variable {B : Nat} {w0 : World} {C : Ctx} {Ψ Ψ0 : Pr} {β : List Value} {h : List Blk} {w w' : World} {fr : List AV} {a a0 : Act} {As : List Act} {W : List Nat}

/-! ### Loops -/
/-- From a loop's body on, it arrives. -/
def LoopAt (F : Fence) (n : Nat) (P : Program) (c : Code) (Q : Exit → Act → World → Prop) (a : Act) (w : World) : Prop :=
  ∀ (b : Frame) (k : List Item) (cs : List Frame), b.roundOf = F.round → F.fn b.fn → F.room (cs.length + 1 + n) →
    ∃ e a' w', Q e a' w' ∧ ArrivesIn (Machine.fenced P F) P (lone (b.atR a (.code c :: .inLoop c :: k)) cs w) b k cs e a' w'

theorem LoopAt.wpIn {F : Fence} {n : Nat} {P : Program} {c : Code} {Q : Exit → Act → World → Prop} (h : LoopAt F n P c Q a w) : (Code.loop c).wpIn F n P Q a w := by
  intro b k cs hro hb hr
  obtain ⟨e, a', w', hq, harr⟩ := h b k cs hro hb hr
  exact ⟨e, a', w', hq, .of_steps (.one (fenced_calm hb hr rfl) stepR_loop) harr⟩

/-- The first round apart. -/
theorem LoopAt.peel {F : Fence} {n : Nat} {P : Program} {c : Code} {Q : Exit → Act → World → Prop} (h : c.wpIn F n P (Exit.then (LoopAt F n P c Q) Q) a w) : LoopAt F n P c Q a w := by
  intro b k cs hro hb hr
  obtain ⟨e, a₁, w₁, hq, harr⟩ := h b (.inLoop c :: k) cs hro hb hr
  cases e with
  | normal =>
    obtain ⟨e₂, a₂, w₂, hq₂, harr₂⟩ := hq b k cs hro hb hr
    exact ⟨e₂, a₂, w₂, hq₂, .of_steps (StepsIn.trans harr (.one (fenced_calm hb hr rfl) stepR_inLoop)) harr₂⟩
  | exit id => exact ⟨_, a₁, w₁, hq, .pass (x := .inLoop c) rfl (fun _ _ => .inl (by simp)) harr⟩
  | goto l => exact ⟨_, a₁, w₁, hq, .pass (x := .inLoop c) rfl (fun _ _ => .inl (by simp)) harr⟩
  | ret => exact ⟨_, a₁, w₁, hq, .pass (x := .inLoop c) rfl (fun _ _ => .inl (by simp)) harr⟩
  | panic ch => exact ⟨_, a₁, w₁, hq, .pass (x := .inLoop c) rfl (fun _ _ => .inl (by simp)) harr⟩
  | outgrown => exact ⟨_, a₁, w₁, hq, .pass (x := .inLoop c) rfl (fun _ _ => .inl (by simp)) harr⟩

theorem loopAt_ghost {F : Fence} {n : Nat} {P : Program} {τ : Type} {c : Code} {Q : Exit → Act → World → Prop} (H : τ → Act → World → Prop) (μ : τ → Nat) (x0 : τ) (h0 : H x0 a w)
    (round : ∀ x a w, H x a w → c.wpIn F n P (Exit.then (fun a' w' => ∃ x', H x' a' w' ∧ μ x' < μ x) Q) a w) : LoopAt F n P c Q a w := by
  intro b k cs hro hb hr
  have key : ∀ j x a w, μ x = j → H x a w →
      ∃ e a' w', Q e a' w' ∧ ArrivesIn (Machine.fenced P F) P (lone (b.atR a (.code c :: .inLoop c :: k)) cs w) b k cs e a' w' := by
    intro j
    induction j using Nat.strongRecOn with
    | _ j ih =>
      intro x a w hn hI
      obtain ⟨e, a₁, w₁, hq, harr⟩ := round x a w hI b (.inLoop c :: k) cs hro hb hr
      cases e with
      | normal =>
        obtain ⟨x', hI₁, hlt⟩ := hq
        obtain ⟨e₂, a₂, w₂, hq₂, harr₂⟩ := ih (μ x') (hn ▸ hlt) x' a₁ w₁ rfl hI₁
        exact ⟨e₂, a₂, w₂, hq₂, .of_steps (StepsIn.trans harr (.one (fenced_calm hb hr rfl) stepR_inLoop)) harr₂⟩
      | exit id => exact ⟨_, a₁, w₁, hq, .pass (x := .inLoop c) rfl (fun _ _ => .inl (by simp)) harr⟩
      | goto l => exact ⟨_, a₁, w₁, hq, .pass (x := .inLoop c) rfl (fun _ _ => .inl (by simp)) harr⟩
      | ret => exact ⟨_, a₁, w₁, hq, .pass (x := .inLoop c) rfl (fun _ _ => .inl (by simp)) harr⟩
      | panic ch => exact ⟨_, a₁, w₁, hq, .pass (x := .inLoop c) rfl (fun _ _ => .inl (by simp)) harr⟩
      | outgrown => exact ⟨_, a₁, w₁, hq, .pass (x := .inLoop c) rfl (fun _ _ => .inl (by simp)) harr⟩
  exact key _ x0 a w rfl h0

theorem wpIn_loop_ghost {F : Fence} {n : Nat} {P : Program} {τ : Type} {c : Code} {Q : Exit → Act → World → Prop} (H : τ → Act → World → Prop) (μ : τ → Nat) (x0 : τ) (h0 : H x0 a w)
    (round : ∀ x a w, H x a w → c.wpIn F n P (Exit.then (fun a' w' => ∃ x', H x' a' w' ∧ μ x' < μ x) Q) a w) : (Code.loop c).wpIn F n P Q a w := (loopAt_ghost H μ x0 h0 round).wpIn

/-- A slot with a nil slice becomes one with an own slice. -/
theorem prepLA_sound {s : St} (la : LA) (hi : InvH C.P B w0 Ψ β s.heap w) (hf : RelF Ψ β (s.top :: s.below) (a :: As)) :
    ∃ β', InvH C.P B w0 Ψ β' (prepLA s la).heap w ∧ RelF Ψ β' ((prepLA s la).top :: (prepLA s la).below) (a :: As) := by
  unfold prepLA
  split
  · rename_i i tid e
    split
    · rename_i hn
      have hv : a.tmps[i]? = some (.slice none 0 0) := by
        have h1 := RelL_get _ _ (frame_of hf).2 i
        rw [hn, getD_eq] at h1
        have h2 : (a.tmps[i]?).getD undef = .slice none 0 0 := h1
        cases hx : a.tmps[i]? with
        | none => rw [hx] at h2; simp [undef] at h2
        | some x => rw [hx] at h2; simp at h2; rw [h2]
      have hk : (β ++ [Value.slice none 0 0])[s.heap.length]? = some (.slice none 0 0) := by rw [← hi.len]; simp
      refine ⟨β ++ [.slice none 0 0], hi.push (Below.refl _ _) rfl (.inl ⟨none, hk, rfl⟩) (fun g hc => ?_), ?_⟩
      · obtain ⟨n, cap, hz, hc⟩ := hc
        rw [hk] at hc
        simp at hc
      · have hf' := RelF_mono (PLe.refl _) (snoc_mono (.slice none 0 0)) _ _ hf
        have := put_some_rel (s := s) (t := i) (av := .sl (hlen s.heap)) hf' hv (by rw [hlen_eq]; exact ⟨hk, by simp [hole]⟩)
        exact this
    · exact ⟨β, hi, hf⟩
  · rename_i k off tid e
    split
    · rename_i cs hcs
      split
      · rename_i hn
        have hk := hget_some hcs (by simp)
        obtain ⟨g, c, e', h1, h2, h3, h4, h5⟩ := hi.blk k _ hk
        have hoff : off < cs.length := by
          rcases Nat.lt_or_ge off cs.length with h' | h'
          · exact h'
          · rw [fget_out h'] at hn; cases hn
        obtain ⟨u, hu, hrel⟩ := RelL_get? _ _ h4 off hoff
        rw [hn] at hrel
        have hrel : u = .slice none 0 0 := hrel
        subst hrel
        have hkn : (β ++ [Value.slice none 0 0])[s.heap.length]? = some (.slice none 0 0) := by rw [← hi.len]; simp
        have hi1 : InvH C.P B w0 Ψ (β ++ [.slice none 0 0]) (s.heap ++ [.grow tid e []]) w := hi.push (Below.refl _ _) rfl (.inl ⟨none, hkn, rfl⟩) (fun g hc => by
          obtain ⟨n, cap, hz, hc⟩ := hc
          rw [hkn] at hc
          simp at hc)
        have hlt := hget_lt hk
        have hk1 : (s.heap ++ [Blk.grow tid e []])[k]? = some (.cells cs) := by rw [List.getElem?_append_left hlt]; exact hk
        have hβ1 : (β ++ [Value.slice none 0 0])[k]? = some (.pointer (some ⟨g, 0, none⟩)) := snoc_mono _ _ _ h1
        refine ⟨β ++ [.slice none 0 0], ?_, RelF_mono (PLe.refl _) (snoc_mono _) _ _ hf⟩
        show InvH C.P B w0 Ψ _ (hset (s.heap ++ [Blk.grow tid e []]) k (.cells (fset cs off (.sl (hlen s.heap))))) w
        rw [hset_eq]
        refine hi1.rewriteG (g := g) hk1 rfl hβ1 (World.grownBy.refl w (some g)) (fun _ hc => hc) ⟨g, c, e', hβ1, h2, h3, ?_, h5⟩
        have := RelL_set (Ψ := Ψ) (β := β ++ [Value.slice none 0 0]) (u := .slice none 0 0) (av := .sl (hlen s.heap)) (by rw [hlen_eq]; exact ⟨hkn, by simp [hole]⟩) cs c.toList off (RelL_mono (PLe.refl _) (snoc_mono _) _ _ h4)
        have hcu : c.toList.set off (.slice none 0 0) = c.toList := put_some_rel.List.set_getElem?_self' hu
        rwa [hcu] at this
      · exact ⟨β, hi, hf⟩
    · exact ⟨β, hi, hf⟩
  · exact ⟨β, hi, hf⟩

theorem prepLAs_sound : ∀ (as : List LA) {s : St} {β : List Value}, InvH C.P B w0 Ψ β s.heap w → RelF Ψ β (s.top :: s.below) (a :: As) →
    ∃ β', InvH C.P B w0 Ψ β' (prepLAs s as).heap w ∧ RelF Ψ β' ((prepLAs s as).top :: (prepLAs s as).below) (a :: As)
  | [], _, β, hi, hf => ⟨β, hi, hf⟩
  | la :: as, s, β, hi, hf => by
    obtain ⟨β', h1, h2⟩ := prepLA_sound la hi hf
    exact prepLAs_sound as h1 h2

mutual
theorem still_rel {Ψ' : Pr} {β1 β' : List Value} (hle : PLe Ψ Ψ') (hb : ∀ (k : Nat) (v u : Value), β[k]? = some u → β1[k]? = some v → β'[k]? = some v) : ∀ (t s : AV) (v : Value), RelV Ψ β t v → RelV Ψ' β1 s v → still t s = true → RelV Ψ' β' t v
  | .junk, _, _, _, _, _ => trivial
  | .und, _, _, h, _, _ => h
  | .tt, _, _, h, _, _ => h
  | .ff, _, _, h, _, _ => h
  | .d t x, _, _, ⟨cs, hc, e⟩, _, _ => ⟨cs, reads_mono hle t x cs hc, e⟩
  | .fs e xs, _, _, ⟨ad, ea, cs, hc, e'⟩, _, _ => ⟨ad, ea, cs, reads_mono hle (.arr e) xs cs hc, e'⟩
  | .nils, _, _, h, _, _ => h
  | .nilf, _, _, h, _, _ => h
  | .nilp, _, _, h, _, _ => h
  | .rp t x, _, _, ⟨g, off, cs, e, hc, hp⟩, _, _ => ⟨g, off, cs, e, reads_mono hle t x cs hc, fun j u hj => hle _ _ (hp j u hj)⟩
  | .slp _ _ _, _, _, _, _, hs => by simp [still] at hs
  | .own k o, s, v, ⟨g, hg, e⟩, hr, hs => by
    unfold still at hs
    split at hs
    · rename_i k' o'
      simp only [Bool.and_eq_true, Nat.beq_eq] at hs
      obtain ⟨rfl, rfl⟩ := hs
      obtain ⟨g', hg', e'⟩ := hr
      exact ⟨g', hb k _ _ hg hg', e'⟩
    · cases hs
  | .sl k, s, v, h, hr, hs => by
    unfold still at hs
    split at hs
    · rename_i k'
      simp only [Nat.beq_eq] at hs
      subst hs
      exact ⟨hb k _ _ h.1 hr.1, hr.2⟩
    · cases hs
  | .yld k, s, v, ⟨l, h, e⟩, hr, hs => by
    unfold still at hs
    split at hs
    · rename_i k'
      simp only [Nat.beq_eq] at hs
      subst hs
      obtain ⟨l', h', e'⟩ := hr
      exact ⟨l', hb k _ _ h h', e'⟩
    · cases hs
  | .agg cs, s, v, ⟨vs, e, hl, h1⟩, hr, hs => by
    unfold still at hs
    split at hs
    · rename_i cs'
      obtain ⟨vs', e', hl', _⟩ := hr
      rw [e] at e'
      simp at e'
      subst e'
      exact ⟨vs, e, stillL_rel hle hb cs cs' vs hl hl' hs, h1⟩
    · cases hs
  | .tup cs, s, v, ⟨vs, e, hl⟩, hr, hs => by
    unfold still at hs
    split at hs
    · rename_i cs'
      obtain ⟨vs', e', hl'⟩ := hr
      rw [e] at e'
      simp at e'
      subst e'
      exact ⟨vs, e, stillL_rel hle hb cs cs' vs hl hl' hs⟩
    · cases hs
  | .fn f cs, s, v, ⟨vs, e, hl⟩, hr, hs => by
    unfold still at hs
    split at hs
    · rename_i f' cs'
      obtain ⟨vs', e', hl'⟩ := hr
      rw [e] at e'
      simp at e'
      obtain ⟨_, e'⟩ := e'
      subst e'
      exact ⟨vs, e, stillL_rel hle hb cs cs' vs hl hl' hs⟩
    · cases hs
  | .bnd f cs, s, v, ⟨vs, e, hl⟩, hr, hs => by
    unfold still at hs
    split at hs
    · rename_i f' cs'
      obtain ⟨vs', e', hl'⟩ := hr
      rw [e] at e'
      simp at e'
      obtain ⟨_, e'⟩ := e'
      subst e'
      exact ⟨vs, e, stillL_rel hle hb cs cs' vs hl hl' hs⟩
    · cases hs
  | .sv _ _ _ _, _, _, _, _, hs => by simp [still] at hs
theorem stillL_rel {Ψ' : Pr} {β1 β' : List Value} (hle : PLe Ψ Ψ') (hb : ∀ (k : Nat) (v u : Value), β[k]? = some u → β1[k]? = some v → β'[k]? = some v) : ∀ (ts ss : List AV) (vs : List Value), RelL Ψ β ts vs → RelL Ψ' β1 ss vs → stillL ts ss = true → RelL Ψ' β' ts vs
  | [], _, _, h, _, _ => h
  | t :: ts, ss, _, ⟨v, vs', e, hv, hl⟩, hr, hs => by
    unfold stillL at hs
    split at hs
    · rename_i s ss'
      simp only [Bool.and_eq_true] at hs
      obtain ⟨v', vs'', e', hv', hl'⟩ := hr
      rw [e] at e'
      simp at e'
      obtain ⟨rfl, rfl⟩ := e'
      exact ⟨v, vs', e, still_rel hle hb t s v hv hv' hs.1, stillL_rel hle hb ts ss' vs' hl hl' hs.2⟩
    · cases hs
end

theorem noSlp_rel {ks : List Nat} {av : AV} {v : Value} (h : RelV Ψ β av v) : RelV Ψ β (noSlp ks av) v := by
  unfold noSlp
  split
  · trivial
  · trivial
  · split
    · trivial
    · exact h
  · exact h

theorem noSlps_rel {ks : List Nat} : ∀ {l : List AV} {vs : List Value}, RelL Ψ β l vs → RelL Ψ β (noSlps ks l) vs
  | [], _, h => h
  | _ :: _, _, ⟨v, vs', e, hv, hl⟩ => ⟨v, vs', e, noSlp_rel hv, noSlps_rel hl⟩

theorem noSlpF_rel {ks : List Nat} : ∀ {fs : List (List AV)} {as : List Act}, RelF Ψ β fs as → RelF Ψ β (noSlpF ks fs) as
  | [], _, h => h
  | _ :: _, _, ⟨a, as', e, ⟨h1, h2⟩, h3⟩ => ⟨a, as', e, ⟨h1, noSlps_rel h2⟩, noSlpF_rel h3⟩

theorem stillF_rel {Ψ' : Pr} {β1 β' : List Value} (hle : PLe Ψ Ψ') (hb : ∀ (k : Nat) (v u : Value), β[k]? = some u → β1[k]? = some v → β'[k]? = some v) : ∀ (ts ss : List (List AV)) (as : List Act), RelF Ψ β ts as → RelF Ψ' β1 ss as → stillF ts ss = true → RelF Ψ' β' ts as
  | [], _, _, h, _, _ => h
  | t :: ts, ss, _, ⟨a, as', e, ⟨h1, h2⟩, hl⟩, hr, hs => by
    unfold stillF at hs
    split at hs
    · rename_i s ss'
      simp only [Bool.and_eq_true] at hs
      obtain ⟨a', as'', e', ⟨h1', h2'⟩, hl'⟩ := hr
      rw [e] at e'
      simp at e'
      obtain ⟨rfl, rfl⟩ := e'
      exact ⟨a, as', e, ⟨h1', stillL_rel hle hb t s _ h2 h2' hs.1⟩, stillF_rel hle hb ts ss' as' hl hl' hs.2⟩
    · cases hs

/-- The frame at the loop's head, but for what varies. -/
theorem stillT_rel {Ψ' : Pr} {β1 β' : List Value} {ks ws : List Nat} (hle : PLe Ψ Ψ') (hb : ∀ (k : Nat) (v u : Value), β[k]? = some u → β1[k]? = some v → β'[k]? = some v) :
    ∀ (ts ss : List AV) (i : Nat) (vs vs1 : List Value), RelL Ψ β (forget ks ws i ts) vs → RelL Ψ' β1 ss vs1 → vs.length = vs1.length → (∀ j, j < vs.length → i + j ∉ ws → vs[j]? = vs1[j]?) → stillT ws i (forget ks ws i ts) ss = true → RelL Ψ' β' (forget ks ws i ts) vs1
  | [], _, _, _, vs1, h, _, hlen, _, _ => by
    simp only [forget, RelL] at h
    subst h
    have : vs1 = [] := List.eq_nil_of_length_eq_zero (by simpa using hlen.symm)
    subst this
    rfl
  | t :: ts, ss, i, _, vs1, ⟨v, vs', e, hv, hl⟩, hr, hlen, hsame, hs => by
    subst e
    unfold forget stillT at hs
    split at hs
    · rename_i s ss'
      simp only [Bool.and_eq_true, Bool.or_eq_true] at hs
      obtain ⟨v1, vs1', e1, hv1, hl1⟩ := hr
      subst e1
      simp only [List.length_cons, Nat.add_right_cancel_iff] at hlen
      refine ⟨v1, vs1', rfl, ?_, stillT_rel hle hb ts ss' (i + 1) vs' vs1' hl hl1 hlen (fun j hj hn => ?_) hs.2⟩
      · by_cases hm : memN i ws = true
        · rw [if_pos hm]; trivial
        · rw [if_neg hm] at hs hv ⊢
          have hvv : v = v1 := by
            have := hsame 0 (by simp) (by
              intro hmem
              exact hm (memN_iff.2 (by simpa using hmem)))
            simpa using this
          subst hvv
          exact still_rel hle hb _ s v hv hv1 (hs.1.resolve_left hm)
      · have := hsame (j + 1) (by simpa using hj) (by rw [show i + (j + 1) = i + 1 + j by omega]; exact hn)
        simpa using this
    · cases hs

theorem forget_rel {ks ws : List Nat} : ∀ {ts : List AV} {i : Nat} {vs : List Value}, RelL Ψ β ts vs → RelL Ψ β (forget ks ws i ts) vs
  | [], _, _, h => h
  | t :: ts, i, _, ⟨v, vs', e, hv, hl⟩ => ⟨v, vs', e, (by
    by_cases hm : memN i ws = true
    · rw [if_pos hm]; trivial
    · rw [if_neg hm]; exact noSlp_rel hv), forget_rel hl⟩

mutual
theorem keepC_rel {Ψ : Pr} {β : List Value} {ks : List Nat} : ∀ (av : AV) (v : Value), RelV Ψ β av v → RelV Ψ β (keepC ks av) v
  | .own _ _, _, h => h
  | .sl k, v, h => by
    unfold keepC
    split
    · trivial
    · exact h
  | .fn f cs, v, ⟨vs, e, hl⟩ => ⟨vs, e, keepCs_rel cs vs hl⟩
  | .bnd f cs, v, ⟨vs, e, hl⟩ => ⟨vs, e, keepCs_rel cs vs hl⟩
  | .sv _ _ _ _, _, _ => trivial
  | .yld _, _, h => h
  | .nils, _, h => h
  | .nilf, _, h => h
  | .nilp, _, h => h
  | .junk, _, _ => trivial
  | .und, _, _ => trivial
  | .tt, _, _ => trivial
  | .ff, _, _ => trivial
  | .d _ _, _, _ => trivial
  | .fs _ _, _, _ => trivial
  | .agg _, _, _ => trivial
  | .tup _, _, _ => trivial
  | .slp _ _ _, _, _ => trivial
  | .rp _ _, _, _ => trivial
theorem keepCs_rel {Ψ : Pr} {β : List Value} {ks : List Nat} : ∀ (l : List AV) (vs : List Value), RelL Ψ β l vs → RelL Ψ β (keepCs ks l) vs
  | [], _, h => h
  | c :: cs, _, ⟨v, vs', e, hv, hl⟩ => ⟨v, vs', e, keepC_rel c v hv, keepCs_rel cs vs' hl⟩
end

mutual
/-- What was kept of a variable's content is so still. -/
theorem sameC_rel {Ψ : Pr} {β : List Value} {Ψ' : Pr} {β1 β' : List Value} (hb : ∀ (k : Nat) (v u : Value), β[k]? = some u → β1[k]? = some v → β'[k]? = some v) : ∀ (t s : AV) (u v : Value), RelV Ψ β t u → RelV Ψ' β1 s v → sameC t s = true → RelV Ψ' β' t v
  | .own _ _, s, u, v, ht, hr, hs => by
    unfold sameC at hs
    split at hs
    · simp only [Bool.and_eq_true, Nat.beq_eq] at hs
      obtain ⟨rfl, rfl⟩ := hs
      obtain ⟨g, hg, _⟩ := ht
      obtain ⟨g', hg', e'⟩ := hr
      exact ⟨g', hb _ _ _ hg hg', e'⟩
    · cases hs
  | .sl _, s, u, v, ht, hr, hs => by
    unfold sameC at hs
    split at hs
    · simp only [Nat.beq_eq] at hs
      subst hs
      exact ⟨hb _ _ _ ht.1 hr.1, hr.2⟩
    · cases hs
  | .fn f cs, s, u, v, ⟨us, _, hl⟩, hr, hs => by
    unfold sameC at hs
    split at hs
    · simp only [Bool.and_eq_true, Nat.beq_eq] at hs
      obtain ⟨rfl, hs⟩ := hs
      obtain ⟨vs, e', hl'⟩ := hr
      exact ⟨vs, e', sameCs_rel hb cs _ us vs hl hl' hs⟩
    · cases hs
  | .bnd f cs, s, u, v, ⟨us, _, hl⟩, hr, hs => by
    unfold sameC at hs
    split at hs
    · simp only [Bool.and_eq_true, Nat.beq_eq] at hs
      obtain ⟨rfl, hs⟩ := hs
      obtain ⟨vs, e', hl'⟩ := hr
      exact ⟨vs, e', sameCs_rel hb cs _ us vs hl hl' hs⟩
    · cases hs
  | .sv _ _ _ _, _, _, _, _, _, hs => by simp [sameC] at hs
  | .yld _, s, u, v, ht, hr, hs => by
    unfold sameC at hs
    split at hs
    · simp only [Nat.beq_eq] at hs
      subst hs
      obtain ⟨l, h, _⟩ := ht
      obtain ⟨l', h', e'⟩ := hr
      exact ⟨l', hb _ _ _ h h', e'⟩
    · cases hs
  | .nils, s, u, v, ht, hr, hs => by
    unfold sameC at hs
    split at hs
    · exact hr
    · cases hs
  | .nilf, s, u, v, ht, hr, hs => by
    unfold sameC at hs
    split at hs
    · exact hr
    · cases hs
  | .nilp, s, u, v, ht, hr, hs => by
    unfold sameC at hs
    split at hs
    · exact hr
    · cases hs
  | .junk, _, _, _, _, _, _ => trivial
  | .und, _, _, _, _, _, hs => by simp [sameC] at hs
  | .tt, _, _, _, _, _, hs => by simp [sameC] at hs
  | .ff, _, _, _, _, _, hs => by simp [sameC] at hs
  | .d _ _, _, _, _, _, _, hs => by simp [sameC] at hs
  | .fs _ _, _, _, _, _, _, hs => by simp [sameC] at hs
  | .agg _, _, _, _, _, _, hs => by simp [sameC] at hs
  | .tup _, _, _, _, _, _, hs => by simp [sameC] at hs
  | .slp _ _ _, _, _, _, _, _, hs => by simp [sameC] at hs
  | .rp _ _, _, _, _, _, _, hs => by simp [sameC] at hs
theorem sameCs_rel {Ψ : Pr} {β : List Value} {Ψ' : Pr} {β1 β' : List Value} (hb : ∀ (k : Nat) (v u : Value), β[k]? = some u → β1[k]? = some v → β'[k]? = some v) : ∀ (ts ss : List AV) (us vs : List Value), RelL Ψ β ts us → RelL Ψ' β1 ss vs → sameCs ts ss = true → RelL Ψ' β' ts vs
  | [], ss, _, _, _, hr, hs => by
    unfold sameCs at hs
    split at hs
    · exact hr
    · cases hs
  | t :: ts, ss, us0, vs0, ⟨u, us, _, hu, hus⟩, hr, hs => by
    unfold sameCs at hs
    split at hs
    · simp only [Bool.and_eq_true] at hs
      obtain ⟨v, vs, e, hv, hvs⟩ := hr
      exact ⟨v, vs, e, sameC_rel hb t _ u v hu hv hs.1, sameCs_rel hb ts _ us vs hus hvs hs.2⟩
    · cases hs
end

theorem kmBeq_eq : ∀ {l m : List (Int × FuncId)}, kmBeq l m = true → l = m
  | [], [], _ => rfl
  | (n, f) :: l, (m, g) :: k, h => by
    simp only [kmBeq, Bool.and_eq_true, decide_eq_true_eq, Nat.beq_eq] at h
    obtain ⟨⟨rfl, rfl⟩, h⟩ := h
    rw [kmBeq_eq h]
  | [], _ :: _, h => by simp [kmBeq] at h
  | _ :: _, [], h => by simp [kmBeq] at h

theorem natsBeq_eq : ∀ {l m : List Nat}, natsBeq l m = true → l = m
  | [], [], _ => rfl
  | n :: l, m :: k, h => by
    simp only [natsBeq, Bool.and_eq_true, Nat.beq_eq] at h
    obtain ⟨rfl, h⟩ := h
    rw [natsBeq_eq h]
  | [], _ :: _, h => by simp [natsBeq] at h
  | _ :: _, [], h => by simp [natsBeq] at h

theorem phBeq_eq {p q : Ph} (h : phBeq p q = true) : p = q := by
  unfold phBeq at h
  split at h
  · rfl
  · rfl
  · rename_i e e'
    unfold exBeq at h
    split at h
    · rfl
    · simp only [Nat.beq_eq] at h; subst h; rfl
    · rfl
    · cases h
  · rfl
  · cases h

theorem yldIn_get {k : Nat} : ∀ {l : List AV}, yldIn k l = true → ∃ i : Nat, l[i]? = some (.yld k)
  | [], h => by simp [yldIn] at h
  | x :: l, h => by
    unfold yldIn at h
    split at h
    · rename_i e; cases e
    · rename_i j l' e
      simp only [List.cons.injEq] at e
      obtain ⟨rfl, rfl⟩ := e
      simp only [Bool.or_eq_true, Nat.beq_eq] at h
      rcases h with rfl | h
      · exact ⟨0, rfl⟩
      · obtain ⟨i, hi⟩ := yldIn_get h
        exact ⟨i + 1, by simpa using hi⟩
    · rename_i e
      simp only [List.cons.injEq] at e
      obtain ⟨rfl, rfl⟩ := e
      obtain ⟨i, hi⟩ := yldIn_get h
      exact ⟨i + 1, by simpa using hi⟩

theorem fget_some : ∀ {l : List AV} {i : Nat} {v : AV}, l[i]? = some v → fget l i = v
  | [], _, _, h => by simp at h
  | x :: l, 0, v, h => by simpa [fget] using h
  | x :: l, i + 1, v, h => by simpa [fget] using fget_some (l := l) (i := i) (by simpa using h)

theorem RelL_yld {k i : Nat} {l : List AV} {vs : List Value} (h : RelL Ψ β l vs) (hi : l[i]? = some (.yld k)) : ∃ n, β[k]? = some (yldV n) ∧ vs[i]? = some (yldV n) := by
  have hlt : i < l.length := by
    rcases Nat.lt_or_ge i l.length with h' | h'
    · exact h'
    · rw [List.getElem?_eq_none h'] at hi; cases hi
  obtain ⟨u, hu, hr⟩ := RelL_get? _ _ h i hlt
  have : fget l i = .yld k := fget_some hi
  rw [this] at hr
  obtain ⟨n, h1, rfl⟩ := hr
  exact ⟨n, h1, hu⟩

/-- The loop that a frame names is the same one. -/
theorem yldF_same {Ψ' : Pr} {β' : List Value} {k : Nat} : ∀ {fs : List (List AV)} {as : List Act}, yldInF k fs = true → RelF Ψ β fs as → RelF Ψ' β' fs as → ∃ n, β[k]? = some (yldV n) ∧ β'[k]? = some (yldV n)
  | [], _, h, _, _ => by simp [yldInF] at h
  | f :: fs, _, h, ⟨a, as, e, ⟨_, hl⟩, hr⟩, ⟨a', as', e', ⟨_, hl'⟩, hr'⟩ => by
    rw [e] at e'
    simp only [List.cons.injEq] at e'
    obtain ⟨rfl, rfl⟩ := e'
    simp only [yldInF, Bool.or_eq_true] at h
    rcases h with h | h
    · obtain ⟨i, hi⟩ := yldIn_get h
      obtain ⟨n, h1, h2⟩ := RelL_yld hl hi
      obtain ⟨n', h1', h2'⟩ := RelL_yld hl' hi
      rw [h2] at h2'
      simp only [Option.some.injEq] at h2'
      exact ⟨n, h1, by rw [h1', ← h2']⟩
    · exact yldF_same h hr hr'

theorem forget_yld {ks ws : List Nat} {k : Nat} : ∀ {l : List AV} {i j : Nat}, (forget ks ws i l)[j]? = some (.yld k) → i + j ∉ ws
  | [], _, _, h => by simp [forget] at h
  | v :: vs, i, 0, h => by
    simp only [forget, List.getElem?_cons_zero, Option.some.injEq] at h
    intro hm
    rw [if_pos (memN_iff.2 (by simpa using hm))] at h
    cases h
  | v :: vs, i, j + 1, h => by
    simp only [forget, List.getElem?_cons_succ] at h
    have := forget_yld h
    rwa [show i + (j + 1) = i + 1 + j by omega]

/-- .. with the frame on top, of which some slots vary. -/
theorem yldT_same {Ψ' : Pr} {β' : List Value} {k : Nat} {ks ws : List Nat} {top : List AV} {fs : List (List AV)} {ah : Act} (h : yldInF k (forget ks ws 0 top :: fs) = true) (hh : RelF Ψ β (forget ks ws 0 top :: fs) (ah :: As)) (hn : RelF Ψ' β' (forget ks ws 0 top :: fs) (a :: As))
    (hs : ∀ t, t ∉ ws → a.tmps[t]? = ah.tmps[t]?) : ∃ n, β[k]? = some (yldV n) ∧ β'[k]? = some (yldV n) := by
  obtain ⟨a1, as1, e1, ⟨_, hl⟩, hr⟩ := hh
  obtain ⟨a2, as2, e2, ⟨_, hl'⟩, hr'⟩ := hn
  simp only [List.cons.injEq] at e1 e2
  obtain ⟨rfl, rfl⟩ := e1
  obtain ⟨rfl, rfl⟩ := e2
  simp only [yldInF, Bool.or_eq_true] at h
  rcases h with h | h
  · obtain ⟨i, hi⟩ := yldIn_get h
    obtain ⟨n, h1, h2⟩ := RelL_yld hl hi
    obtain ⟨n', h1', h2'⟩ := RelL_yld hl' hi
    have hw := hs i (by have := forget_yld hi; simpa using this)
    simp only [Array.getElem?_toList] at h2 h2'
    rw [hw, h2] at h2'
    simp only [Option.some.injEq] at h2'
    exact ⟨n, h1, by rw [h1', ← h2']⟩
  · exact yldF_same h hr hr'

theorem havocH_len {ks : List Nat} {fs : List (List AV)} : ∀ {h : List Blk} {i : Nat}, (havocH ks fs i h).length = h.length
  | [], _ => rfl
  | b0 :: h, i => by cases b0 <;> simp [havocH, havocH_len (h := h)]

/-- What is left of one block. -/
def havB (ks : List Nat) (fs : List (List AV)) (i : Nat) : Blk → Blk
  | .cells cs => .cells (keepCs ks cs)
  | .kmap es => .kmap es
  | .loop f p ph ts => if yldInF i fs then .loop f p ph (noSlps ks ts) else .gone
  | _ => .gone

theorem havocH_get {ks : List Nat} {fs : List (List AV)} : ∀ {h : List Blk} {i k : Nat} {b : Blk}, (havocH ks fs i h)[k]? = some b → ∃ b0, h[k]? = some b0 ∧ b = havB ks fs (i + k) b0
  | [], _, _, _, hb => by simp [havocH] at hb
  | b0 :: h, i, 0, b, hb => by
    refine ⟨b0, rfl, ?_⟩
    cases b0 <;> simpa [havocH, havB] using hb.symm
  | b0 :: h, i, k + 1, b, hb => by
    have : (havocH ks fs i (b0 :: h))[k + 1]? = (havocH ks fs (i + 1) h)[k]? := by cases b0 <;> simp [havocH]
    rw [this] at hb
    obtain ⟨b1, h1, h2⟩ := havocH_get hb
    exact ⟨b1, by simpa using h1, by rwa [show i + (k + 1) = i + 1 + k by omega]⟩

theorem havB_rel {P : Program} {ks : List Nat} {fs : List (List AV)} {i k : Nat} {b : Blk} (h : BlkR P B Ψ β w k b) : BlkR P B Ψ β w k (havB ks fs i b) := by
  cases b with
  | gone => trivial
  | cells cs =>
    obtain ⟨g, c, e, h1, h2, h3, h4, h5⟩ := h
    exact ⟨g, c, e, h1, h2, h3, keepCs_rel _ _ h4, h5⟩
  | grow _ _ _ => trivial
  | kmap es => exact h
  | dmap _ _ => trivial
  | diter _ _ _ => trivial
  | loop f p ph ts =>
    unfold havB
    simp only
    split
    · obtain ⟨l, r, h1, h2, h3, h4, h5, h6⟩ := h
      exact ⟨l, r, h1, h2, h3, h4, noSlps_rel h5, h6⟩
    · trivial

theorem sameBs_get : ∀ {h h' : List Blk} {k : Nat} {b : Blk}, sameBs h h' = true → h[k]? = some b → ∃ c, h'[k]? = some c ∧ sameB b c = true
  | [], _, _, _, _, hb => by simp at hb
  | _ :: _, [], _, _, h, _ => by simp [sameBs] at h
  | b0 :: h, c0 :: h', 0, b, hs, hb => by
    simp only [sameBs, Bool.and_eq_true] at hs
    simp only [List.getElem?_cons_zero, Option.some.injEq] at hb
    subst hb
    exact ⟨c0, rfl, hs.1⟩
  | b0 :: h, c0 :: h', k + 1, b, hs, hb => by
    simp only [sameBs, Bool.and_eq_true] at hs
    obtain ⟨c, h1, h2⟩ := sameBs_get hs.2 (by simpa using hb)
    exact ⟨c, by simpa using h1, h2⟩

theorem sameBs_len : ∀ {h h' : List Blk}, sameBs h h' = true → h.length ≤ h'.length
  | [], _, _ => Nat.zero_le _
  | _ :: _, [], h => by simp [sameBs] at h
  | b0 :: h, c0 :: h', hs => by
    simp only [sameBs, Bool.and_eq_true] at hs
    have := sameBs_len hs.2
    simp
    omega

/-- A block that is what the head said of it. -/
theorem sameB_rel {P : Program} {Ψ' : Pr} {β1 β' : List Value} {wh : World} {k : Nat} {b c : Blk} (hle : PLe Ψ Ψ') (hb : ∀ (k : Nat) (v u : Value), β[k]? = some u → β1[k]? = some v → β'[k]? = some v) (hl : ∀ (j : Nat) (v : Value), β'[j]? = some v → β1[j]? = some v)
    (hy : ∀ f p ph ts, b = .loop f p ph ts → ∃ n, β[k]? = some (yldV n) ∧ β'[k]? = some (yldV n)) (h0 : BlkR P B Ψ β wh k b) (h1 : BlkR P B Ψ' β1 w k c) (hs : sameB b c = true) :
    BlkR P B Ψ' β' w k b ∧ ∀ g, claims β' k g b → claims β1 k g c := by
  cases b with
  | gone => exact ⟨trivial, fun g hc => hc.elim⟩
  | cells cs =>
    cases c with
    | cells ds =>
      obtain ⟨g, c, e, a1, a2, a3, a4, a5⟩ := h0
      obtain ⟨g', c', e', b1, b2, b3, b4, b5⟩ := h1
      exact ⟨⟨g', c', e', hb k _ _ a1 b1, b2, b3, sameCs_rel hb cs ds _ _ a4 b4 hs, b5⟩, fun g hc => hl _ _ hc⟩
    | _ => simp [sameB] at hs
  | grow _ _ _ => simp [sameB] at hs
  | dmap _ _ => simp [sameB] at hs
  | diter _ _ _ => simp [sameB] at hs
  | kmap es =>
    cases c with
    | kmap fs =>
      have he := kmBeq_eq hs
      subst he
      obtain ⟨g, ms, cl, a1, a2, a3, a4⟩ := h0
      obtain ⟨g', ms', cl', b1, b2, b3, b4⟩ := h1
      exact ⟨⟨g', ms', cl', hb k _ _ a1 b1, b2, b3, b4⟩, fun g hc => hl _ _ hc⟩
    | _ => simp [sameB] at hs
  | loop f p ph ts =>
    cases c with
    | loop f' p' ph' ts' =>
      simp only [sameB, Bool.and_eq_true, Nat.beq_eq, listLen_eq] at hs
      obtain ⟨⟨⟨⟨rfl, hp⟩, hph⟩, hst⟩, hlen⟩ := hs
      have hp := natsBeq_eq hp
      subst hp
      have hph := phBeq_eq hph
      subst hph
      obtain ⟨n, y1, y2⟩ := hy f p ph ts rfl
      obtain ⟨l, r, a1, a2, a3, a4, a5, a6, a7, a8⟩ := h0
      obtain ⟨l', r', b1, b2, b3, b4, b5, b6, b7, b8⟩ := h1
      have e1 : l = n := by rw [a1] at y1; simpa [yldV] using y1
      have e2 : l' = n := by rw [hl _ _ y2] at b1; simpa [yldV] using b1.symm
      subst e1
      subst e2
      have hts : r.tmps = r'.tmps := by
        have s1 := RelL_len _ _ a5
        have s2 := RelL_len _ _ b5
        simp only [Array.length_toList] at s1 s2
        apply Array.ext
        · omega
        · intro i h1 h2
          have e3 := hle _ _ (a7 i _ (Array.getElem?_eq_getElem h1))
          have e4 := b7 i _ (Array.getElem?_eq_getElem h2)
          rw [e3] at e4
          simpa using e4
      rw [hts] at a5
      exact ⟨⟨l', r', y2, b2, b3, b4, stillL_rel hle hb ts ts' _ a5 b5 hst, b6, b7, b8⟩, fun g hc => hl _ _ hc⟩
    | _ => simp [sameB] at hs

/-- A state that says no more than what is known. -/
structure Good (C : Ctx) (B : Nat) (Ψ : Pr) (β β' : List Value) (s σ : St) (n : Nat) (a : Act) (As : List Act) (w : World) : Prop where
  len : σ.heap.length = n
  fr : RelF Ψ β' (σ.top :: σ.below) (a :: As)
  blk : ∀ k b, σ.heap[k]? = some b → BlkR C.P B Ψ β' w k b ∧ ∀ g, claims β' k g b → ∃ b'', s.heap[k]? = some b'' ∧ claims β k g b''

theorem take_get {l : List Value} {n k : Nat} (h : k < n) : (l.take n)[k]? = l[k]? := by rw [List.getElem?_take, if_pos h]

theorem Good.setBlk {s σ : St} {n k : Nat} {b b0 : Blk} {β' : List Value} (hg : Good C B Ψ β β' s σ n a As w) (_hk : σ.heap[k]? = some b0) (hb : BlkR C.P B Ψ β' w k b) (hc : ∀ g, claims β' k g b → ∃ b'', s.heap[k]? = some b'' ∧ claims β k g b'') :
    Good C B Ψ β β' s { σ with heap := σ.heap.set k b } n a As w where
  len := by simpa using hg.len
  fr := hg.fr
  blk := fun j b1 hj => by
    by_cases hjk : j = k
    · subst hjk
      simp only at hj
      rw [List.getElem?_set_self (hget_lt _hk)] at hj
      simp at hj
      subst hj
      exact ⟨hb, hc⟩
    · simp only at hj
      rw [List.getElem?_set_ne (Ne.symm hjk)] at hj
      exact hg.blk j b1 hj

theorem Good.setTop {s σ : St} {n i : Nat} {av : AV} {β' : List Value} {v : Value} (hg : Good C B Ψ β β' s σ n a As w) (ht : a.tmps[i]? = some v) (hv : RelV Ψ β' av v) : Good C B Ψ β β' s { σ with top := fset σ.top i av } n a As w where
  len := hg.len
  fr := put_some_rel (s := σ) hg.fr ht hv
  blk := hg.blk

theorem Good.setTop' {s σ : St} {n i : Nat} {av : AV} {β' : List Value} (hg : Good C B Ψ β β' s σ n a As w) (hv : ∀ v, a.tmps[i]? = some v → RelV Ψ β' av v) : Good C B Ψ β β' s { σ with top := fset σ.top i av } n a As w := by
  cases hx : a.tmps[i]? with
  | some v => exact hg.setTop hx (hv v hx)
  | none =>
    have : fset σ.top i av = σ.top := by
      rw [fset_eq]
      apply List.set_eq_of_length_le
      have := RelL_len _ _ (frame_of hg.fr).2
      have h2 : a.tmps.size ≤ i := by simpa using hx
      rw [Array.length_toList] at this
      omega
    rw [this]
    exact hg

def LaOk (s0 s : St) (n : Nat) : LA → Prop
  | .gslot i tid e => laSl s0 (.gslot i tid e) = none ∨ ∃ j, laSl s0 (.gslot i tid e) = some j ∧ laSl s (.gslot i tid e) = some j ∧ j < n
  | .gcell k off tid e => laSl s0 (.gcell k off tid e) = none ∨ ∃ j, laSl s0 (.gcell k off tid e) = some j ∧ laSl s (.gcell k off tid e) = some j ∧ j < n
  | _ => True

/-- One row of the annotation is filled in. -/
theorem setLA_good {s s0 σ : St} {n : Nat} (la : LA) {x : la.ty.den} (hi : InvH C.P B w0 Ψ β s.heap w) (hf : RelF Ψ β (s.top :: s.below) (a :: As)) (hn : n ≤ s.heap.length) (hx : getLA s la = some x)
    (hA : LaOk s0 s n la) (hg : Good C B Ψ β (β.take n) s σ n a As w) : Good C B Ψ β (β.take n) s (setLA s0 σ la x) n a As w := by
  cases la with
  | slot i t =>
    have hx : (if noRefs [fget s.top i] = true then asD s.heap t (fget s.top i) else none) = some (x : t.den) := hx
    split at hx
    · rename_i hnr
      have hrefs : refs (fget s.top i) = [] := by
        have := noRefs_eq hnr
        simpa [refsA] using this
      refine hg.setTop' fun v hv => ?_
      have h1 := RelL_get _ _ (frame_of hf).2 i
      rw [getD_eq, hv] at h1
      exact asD_rv (PLe.refl _) hx h1 (by rw [hrefs]; exact Reading.nil)
    · cases hx
  | cell k off t =>
    simp only [setLA]
    split
    · rename_i cs hcs
      have hx : (match hget s.heap k with | .cells cs => if !t.isAgg && noRefs [fget cs off] && Nat.ble (off + 1) (listLen cs) then asD1 s.heap t (fget cs off) else none | _ => none) = some (x : t.den) := hx
      split at hx
      · rename_i cs1 hcs1
        have hx : (if (!t.isAgg && noRefs [fget cs1 off] && Nat.ble (off + 1) (listLen cs1)) = true then asD1 s.heap t (fget cs1 off) else none) = some (x : t.den) := hx
        split at hx
        · rename_i hc
          simp only [Bool.and_eq_true, Bool.not_eq_true', Nat.ble_eq, listLen_eq] at hc
          obtain ⟨⟨hag, hnr⟩, hle⟩ := hc
          have hσk := hget_some hcs (by simp)
          obtain ⟨hB, hC⟩ := hg.blk k _ hσk
          obtain ⟨g, c, e, h1, h2, h3, h4, h5⟩ := hB
          have hkn : k < n := by rw [← hg.len]; exact hget_lt hσk
          rw [take_get hkn] at h1
          obtain ⟨g1, c1, e1, h1', h2', h3', h4', h5'⟩ := hi.blk k _ (hget_some hcs1 (by simp))
          rw [h1] at h1'
          simp at h1'
          subst h1'
          rw [h2] at h2'
          simp at h2'
          obtain ⟨rfl, rfl⟩ := h2'
          obtain ⟨u, hu, hrel⟩ := RelL_get? _ _ h4' off (by omega)
          have hrefs : refs1 (fget cs1 off) = [] := by
            have := noRefs_eq hnr
            simp only [refsA, List.append_nil] at this
            cases hfx : fget cs1 off <;> simp_all [refs, refs1]
          have hrv := asD1_rv (PLe.refl Ψ) hx hrel (by rw [hrefs]; exact Reading.nil)
          rw [hset_eq]
          refine hg.setBlk hσk ⟨g, c, e, by rw [take_get hkn]; exact h1, h2, h3, ?_, h5⟩ (fun g' hc' => hC g' hc')
          have := RelL_set (β := β.take n) (u := u) (av := .d t x) hrv cs c.toList off h4
          have hcu : c.toList.set off u = c.toList := put_some_rel.List.set_getElem?_self' hu
          rwa [hcu] at this
        · cases hx
      · cases hx
    · exact hg
  | gslot i tid e =>
    rcases hA with hA | hA
    · simp only [setLA]
      rw [hA]
      exact hg
    obtain ⟨j, hj0, hj, hjn⟩ := hA
    simp only [setLA]
    rw [hj0]
    simp only
    simp only [laSl] at hj
    simp only [getLA] at hx
    split at hj
    · rename_i k hk
      simp at hj
      subst hj
      simp only [hk] at hx
      have hx : (match hget s.heap k with | .grow tid' e' xs => if Nat.beq tid tid' then cast? (.arr e') (.arr e) xs else none | _ => none) = some (x : List e.den) := hx
      split at hx
      · rename_i tid' e' xs hgr
        have hx : (if Nat.beq tid tid' = true then cast? (.arr e') (.arr e) xs else none) = some (x : (Ty.arr e).den) := hx
        by_cases htid : Nat.beq tid tid' = true
        · have htid' : tid = tid' := by simpa [Nat.beq_eq] using htid
          subst htid'
          have hx : cast? (.arr e') (.arr e) xs = some x := (if_pos htid).symm.trans hx
          obtain ⟨he, rfl⟩ := cast?_spec hx
          simp only [Ty.arr.injEq] at he
          subst he
          have hsk := hget_some hgr (by simp)
          have hB := hi.blk k _ hsk
          have hσk : ∃ b0, σ.heap[k]? = some b0 := ⟨σ.heap[k]'(by rw [hg.len]; exact hjn), List.getElem?_eq_getElem _⟩
          obtain ⟨b0, hσk⟩ := hσk
          have g1 := hg.setTop' (i := i) (av := .sl k) (fun v hv => by
            have h1 := RelL_get _ _ (frame_of hf).2 i
            rw [getD_eq, hv, hk] at h1
            refine ⟨?_, h1.2⟩
            rw [take_get hjn]
            exact h1.1)
          have g2 := g1.setBlk (b := .grow tid e' xs) hσk (by
            rcases hB with ⟨ad, h1, h2⟩ | ⟨g, cap, cur, h1, r⟩
            · exact .inl ⟨ad, by rw [take_get hjn]; exact h1, h2⟩
            · exact .inr ⟨g, cap, cur, by rw [take_get hjn]; exact h1, r⟩) (fun g hc => ⟨_, hsk, by
              obtain ⟨m, cap, h1, h2⟩ := hc
              rw [take_get hjn] at h2
              exact ⟨m, cap, h1, h2⟩⟩)
          rw [hset_eq]
          exact g2
        · have hx : none = some x := (if_neg htid).symm.trans hx
          cases hx
      · cases hx
    · cases hj
  | gcell k off tid e =>
    rcases hA with hA | hA
    · simp only [setLA]
      rw [hA]
      exact hg
    obtain ⟨j, hj0, hj, hjn⟩ := hA
    simp only [setLA]
    rw [hj0]
    simp only
    simp only [laSl] at hj
    simp only [getLA] at hx
    split at hj
    · rename_i cs1 hcs1
      split at hj
      · rename_i j' hjc
        simp at hj
        subst hj
        have hx : (match hget s.heap k with | .cells cs => (match fget cs off with | .sl j => (match hget s.heap j with | .grow tid' e' xs => if Nat.beq tid tid' then cast? (.arr e') (.arr e) xs else none | _ => none) | _ => none) | _ => none) = some (x : List e.den) := hx
        simp only [hcs1, hjc] at hx
        split at hx
        · rename_i tid' e' xs hgr
          have hx : (if Nat.beq tid tid' = true then cast? (.arr e') (.arr e) xs else none) = some (x : (Ty.arr e).den) := hx
          by_cases htid : Nat.beq tid tid' = true
          · have htid' : tid = tid' := by simpa [Nat.beq_eq] using htid
            subst htid'
            have hx : cast? (.arr e') (.arr e) xs = some x := (if_pos htid).symm.trans hx
            obtain ⟨he, rfl⟩ := cast?_spec hx
            simp only [Ty.arr.injEq] at he
            subst he
            split
            · rename_i cs hcs
              have hσk := hget_some hcs (by simp)
              obtain ⟨hB, hC⟩ := hg.blk k _ hσk
              obtain ⟨g, c, e1, h1, h2, h3, h4, h5⟩ := hB
              have hkn : k < n := by rw [← hg.len]; exact hget_lt hσk
              rw [take_get hkn] at h1
              obtain ⟨g1, c1, e1', h1', h2', h3', h4', h5'⟩ := hi.blk k _ (hget_some hcs1 (by simp))
              rw [h1] at h1'
              simp at h1'
              subst h1'
              rw [h2] at h2'
              simp at h2'
              obtain ⟨rfl, rfl⟩ := h2'
              have hoff : off < cs1.length := by
                rcases Nat.lt_or_ge off cs1.length with h' | h'
                · exact h'
                · rw [fget_out h'] at hjc; cases hjc
              obtain ⟨u, hu, hrel⟩ := RelL_get? _ _ h4' off hoff
              rw [hjc] at hrel
              have hrel' : RelV Ψ (β.take n) (.sl j') u := ⟨by rw [take_get hjn]; exact hrel.1, hrel.2⟩
              have g1 := hg.setBlk (b := .cells (fset cs off (.sl j'))) hσk ⟨g, c, e1, by rw [take_get hkn]; exact h1, h2, h3, (by
                have := RelL_set (Ψ := Ψ) (β := β.take n) (u := u) (av := .sl j') hrel' cs c.toList off h4
                have hcu : c.toList.set off u = c.toList := put_some_rel.List.set_getElem?_self' hu
                rwa [hcu] at this), h5⟩ (fun g' hc' => hC g' hc')
              have hsk := hget_some hgr (by simp)
              have hB := hi.blk j' _ hsk
              have hσj : ∃ b0, (σ.heap.set k (.cells (fset cs off (.sl j'))))[j']? = some b0 := ⟨(σ.heap.set k (.cells (fset cs off (.sl j'))))[j']'(by rw [List.length_set, hg.len]; exact hjn), List.getElem?_eq_getElem _⟩
              obtain ⟨b0, hσj⟩ := hσj
              have g2 := g1.setBlk (b := .grow tid e' xs) hσj (by
                rcases hB with ⟨ad, h1, h2⟩ | ⟨g, cap, cur, h1, r⟩
                · exact .inl ⟨ad, by rw [take_get hjn]; exact h1, h2⟩
                · exact .inr ⟨g, cap, cur, by rw [take_get hjn]; exact h1, r⟩) (fun g hc => ⟨_, hsk, by
                  obtain ⟨m, cap, h1, h2⟩ := hc
                  rw [take_get hjn] at h2
                  exact ⟨m, cap, h1, h2⟩⟩)
              rw [hset_eq, hset_eq]
              exact g2
            · exact hg
          · have hx : none = some x := (if_neg htid).symm.trans hx
            cases hx
        · cases hx
      · cases hj
    · cases hj
  | keep k tid e =>
    simp only [getLA] at hx
    have hx : (match hget s.heap k with | .grow tid' e' xs => if Nat.beq tid tid' then cast? (.arr e') (.arr e) xs else none | _ => none) = some (x : List e.den) := hx
    split at hx
    · rename_i tid' e' xs hgr
      have hx : (if Nat.beq tid tid' = true then cast? (.arr e') (.arr e) xs else none) = some (x : (Ty.arr e).den) := hx
      by_cases htid : Nat.beq tid tid' = true
      · have htid' : tid = tid' := by simpa [Nat.beq_eq] using htid
        subst htid'
        have hx : cast? (.arr e') (.arr e) xs = some x := (if_pos htid).symm.trans hx
        obtain ⟨he, rfl⟩ := cast?_spec hx
        simp only [Ty.arr.injEq] at he
        subst he
        have hsk := hget_some hgr (by simp)
        have hB := hi.blk k _ hsk
        rcases Nat.lt_or_ge k n with hkn | hkn
        · have hσk : ∃ b0, σ.heap[k]? = some b0 := ⟨σ.heap[k]'(by rw [hg.len]; exact hkn), List.getElem?_eq_getElem _⟩
          obtain ⟨b0, hσk⟩ := hσk
          have g2 := hg.setBlk (b := .grow tid e' xs) hσk (by
            rcases hB with ⟨ad, h1, h2⟩ | ⟨g, cap, cur, h1, r⟩
            · exact .inl ⟨ad, by rw [take_get hkn]; exact h1, h2⟩
            · exact .inr ⟨g, cap, cur, by rw [take_get hkn]; exact h1, r⟩) (fun g hc => ⟨_, hsk, by
              obtain ⟨m, cap, h1, h2⟩ := hc
              rw [take_get hkn] at h2
              exact ⟨m, cap, h1, h2⟩⟩)
          simp only [setLA]
          rw [hset_eq]
          exact g2
        · have hno : hset σ.heap k (.grow tid e' xs) = σ.heap := by
            rw [hset_eq]
            exact List.set_eq_of_length_le (by rw [hg.len]; exact hkn)
          have : setLA s0 σ (.keep k tid e') xs = σ := by
            show ({ σ with heap := hset σ.heap k (.grow tid e' xs) } : St) = σ
            rw [hno]
          have hres : Good C B Ψ β (β.take n) s (setLA s0 σ (.keep k tid e') xs) n a As w := by rw [this]; exact hg
          exact hres
      · have hx : none = some x := (if_neg htid).symm.trans hx
        cases hx
    · cases hx
  | kmp k e =>
    simp only [getLA] at hx
    have hx : (match hget s.heap k with | .dmap e' xs => cast? (.arr (.pair (.int .i64) e')) (.arr (.pair (.int .i64) e)) xs | _ => none) = some (x : List (Int × e.den)) := hx
    cases hgr : hget s.heap k with
    | dmap e0 xs =>
      rw [hgr] at hx
      have hx : cast? (.arr (.pair (.int .i64) e0)) (.arr (.pair (.int .i64) e)) xs = some (x : (Ty.arr (.pair (.int .i64) e)).den) := hx
      obtain ⟨he, rfl⟩ := cast?_spec hx
      simp only [Ty.arr.injEq, Ty.pair.injEq, true_and] at he
      subst he
      have hsk := hget_some hgr (by simp)
      have hB := hi.blk k _ hsk
      rcases Nat.lt_or_ge k n with hkn | hkn
      · have hσk : ∃ b0, σ.heap[k]? = some b0 := ⟨σ.heap[k]'(by rw [hg.len]; exact hkn), List.getElem?_eq_getElem _⟩
        obtain ⟨b0, hσk⟩ := hσk
        have g2 := hg.setBlk (b := Blk.dmap e0 xs) hσk (by
          obtain ⟨g, ms, cl, h1, r⟩ := hB
          exact ⟨g, ms, cl, by rw [take_get hkn]; exact h1, r⟩) (fun g hc => ⟨_, hsk, by
            simp only [claims] at hc ⊢
            rw [take_get hkn] at hc
            exact hc⟩)
        simp only [setLA]
        rw [hset_eq]
        exact g2
      · have hno : hset σ.heap k (Blk.dmap e0 xs) = σ.heap := by
          rw [hset_eq]
          exact List.set_eq_of_length_le (by rw [hg.len]; exact hkn)
        have : setLA s0 σ (.kmp k e0) xs = σ := by
          show ({ σ with heap := hset σ.heap k (Blk.dmap e0 xs) } : St) = σ
          rw [hno]
        have hres : Good C B Ψ β (β.take n) s (setLA s0 σ (.kmp k e0) xs) n a As w := by rw [this]; exact hg
        exact hres
    | _ => rw [hgr] at hx; cases hx
  | kit k e =>
    simp only [getLA] at hx
    have hx : (match hget s.heap k with | .diter e' _ xs => cast? (.arr (.pair (.int .i64) e')) (.arr (.pair (.int .i64) e)) xs | _ => none) = some (x : List (Int × e.den)) := hx
    cases hgr : hget s.heap k with
    | diter e0 last xs =>
      rw [hgr] at hx
      have hx : cast? (.arr (.pair (.int .i64) e0)) (.arr (.pair (.int .i64) e)) xs = some (x : (Ty.arr (.pair (.int .i64) e)).den) := hx
      obtain ⟨he, rfl⟩ := cast?_spec hx
      simp only [Ty.arr.injEq, Ty.pair.injEq, true_and] at he
      subst he
      have hsk := hget_some hgr (by simp)
      have hB := hi.blk k _ hsk
      rcases Nat.lt_or_ge k n with hkn | hkn
      · have hσk : ∃ b0, σ.heap[k]? = some b0 := ⟨σ.heap[k]'(by rw [hg.len]; exact hkn), List.getElem?_eq_getElem _⟩
        obtain ⟨b0, hσk⟩ := hσk
        have g2 := hg.setBlk (b := Blk.diter e0 [] xs) hσk (by
          obtain ⟨g, gm, ms, cl, seen, h1, h2, h3, h4, h5, h6, h7, _⟩ := hB
          exact ⟨g, gm, ms, cl, seen, by rw [take_get hkn]; exact h1, h2, h3, h4, h5, h6, h7, .inl rfl⟩) (fun g hc => ⟨_, hsk, by
            simp only [claims] at hc ⊢
            rw [take_get hkn] at hc
            exact hc⟩)
        simp only [setLA]
        rw [hset_eq]
        exact g2
      · have hno : hset σ.heap k (Blk.diter e0 [] xs) = σ.heap := by
          rw [hset_eq]
          exact List.set_eq_of_length_le (by rw [hg.len]; exact hkn)
        have : setLA s0 σ (.kit k e0) xs = σ := by
          show ({ σ with heap := hset σ.heap k (Blk.diter e0 [] xs) } : St) = σ
          rw [hno]
        have hres : Good C B Ψ β (β.take n) s (setLA s0 σ (.kit k e0) xs) n a As w := by rw [this]; exact hg
        exact hres
    | _ => rw [hgr] at hx; cases hx

theorem setLAs_good {s s0 : St} {n : Nat} (hi : InvH C.P B w0 Ψ β s.heap w) (hf : RelF Ψ β (s.top :: s.below) (a :: As)) (hn : n ≤ s.heap.length) : ∀ (as : List LA) {σ : St} {x : dens (laTys as)}, getLAs s as = some x →
    (∀ la ∈ as, LaOk s0 s n la) → Good C B Ψ β (β.take n) s σ n a As w → Good C B Ψ β (β.take n) s (setLAs s0 σ as x) n a As w
  | [], σ, x, _, _, hg => hg
  | [la], σ, x, hx, hA, hg => setLA_good la hi hf hn hx (hA la (by simp)) hg
  | la :: lb :: as, σ, x, hx, hA, hg => by
    unfold getLAs at hx
    split at hx
    · rename_i y hy
      split at hx
      · rename_i z hz
        have hx : (y, z) = x := Option.some.inj hx
        subst hx
        exact setLAs_good hi hf hn (lb :: as) hz (fun la' h' => hA la' (by simp at h' ⊢; exact .inr h')) (setLA_good la hi hf hn hy (hA la (by simp)) hg)
      · cases hx
    · cases hx

end Go.AM
