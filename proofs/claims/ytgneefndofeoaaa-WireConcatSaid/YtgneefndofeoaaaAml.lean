import Derived.Test.YtgneefndofeoaaaAmk
namespace Go.AM
set_option linter.unusedVariables false
open Go.RowKit

variable {B : Nat} {w0 : World} {C : Ctx} {Ψ Ψ0 : Pr} {β : List Value} {h : List Blk} {w w' : World} {fr : List AV} {a a0 : Act} {As : List Act} {W : List Nat}

/-! ### Calls by contract -/
def SpecSound (C : Ctx) : Prop := (∀ g sp, C.spec g = some sp → Sat C.P g sp) ∧ ∀ g sp, C.fresh g = some sp → SatG C.P g sp

theorem asDs_rel {Ψ' : Pr} (hle : PLe Ψ Ψ') : ∀ {ts : List Ty} {avs : List AV} {vs : List Value} {x : dens ts}, asDs h ts avs = some x → RelL Ψ β avs vs → Reading Ψ' β h (refsA avs) → RelL Ψ' [] (outs ts x) vs
  | [], [], vs, x, _, hr, _ => hr
  | [], _ :: _, vs, x, hd, _, _ => by simp [asDs] at hd
  | [t], [], vs, x, hd, _, _ => by simp [asDs] at hd
  | [t], [av], vs, x, hd, ⟨v, vs', e, hv, hl⟩, hk => by
    simp only [RelL] at hl
    subst hl e
    exact ⟨v, [], rfl, asD_rv hle hd hv (hk.sub fun k hm => by simp [refsA, hm]), rfl⟩
  | [t], _ :: _ :: _, vs, x, hd, _, _ => by simp [asDs] at hd
  | t :: u :: ts, [], vs, x, hd, _, _ => by simp [asDs] at hd
  | t :: u :: ts, av :: avs, vs, x, hd, ⟨v, vs', e, hv, hl⟩, hk => by
    unfold asDs at hd
    split at hd
    · rename_i y hy
      split at hd
      · rename_i z hz
        simp at hd
        subst hd
        exact ⟨v, vs', e, asD_rv hle hy hv (hk.sub fun k hm => by simp [refsA, hm]), asDs_rel hle hz hl (hk.sub fun k hm => by simp [refsA]; exact .inr hm)⟩
      · cases hd
    · cases hd

/-- All of the world, as promises for the time of a call. -/
def allOf (w : World) : Pr := fun ad => if ad.spot = none then w.cell? ad else none

theorem allOf_spec (w : World) : ∀ ad v, allOf w ad = some v → ad.spot = none ∧ w.cell? ad = some v := by
  intro ad v hv
  unfold allOf at hv
  split at hv
  · rename_i hs; exact ⟨hs, hv⟩
  · cases hv

theorem le_allOf (hi : InvH B w0 Ψ β h w) : PLe Ψ (allOf w) := by
  intro ad v hv
  obtain ⟨h1, h2⟩ := hi.prom ad v hv
  unfold allOf
  rw [if_pos h1]
  exact h2

theorem RelV_flat {Ψ1 Ψ2 : Pr} {β1 β2 : List Value} {t : Ty} {x : t.den} {v : Value} (hf : t.flat = true) : RelV Ψ1 β1 (.d t x) v → RelV Ψ2 β2 (.d t x) v
  | ⟨cs, hc, e⟩ => ⟨cs, reads_flat t x cs hf hc, e⟩

theorem outs_flat {Ψ1 Ψ2 : Pr} {β1 β2 : List Value} : ∀ {ts : List Ty} {x : dens ts} {vs : List Value}, flats ts = true → RelL Ψ1 β1 (outs ts x) vs → RelL Ψ2 β2 (outs ts x) vs
  | [], _, _, _, hr => hr
  | [t], x, _, hf, ⟨v, vs', e, hv, hl⟩ => ⟨v, vs', e, RelV_flat (by simpa [flats] using hf) hv, hl⟩
  | t :: u :: ts, x, _, hf, ⟨v, vs', e, hv, hl⟩ => by
    have hf1 : t.flat = true := by unfold flats at hf; simp only [Bool.and_eq_true] at hf; exact hf.1
    have hf2 : flats (u :: ts) = true := by
      rw [flats] at hf
      simp only [Bool.and_eq_true] at hf
      exact hf.2
    exact ⟨v, vs', e, RelV_flat hf1 hv, outs_flat hf2 hl⟩

theorem outV_flat {Ψ1 Ψ2 : Pr} {β1 β2 : List Value} {ts : List Ty} {x : dens ts} {v : Value} (hf : flats ts = true) (hr : RelV Ψ1 β1 (outV ts x) v) : RelV Ψ2 β2 (outV ts x) v := by
  match ts, x, hf, hr with
  | [], _, _, hr => exact hr
  | [t], x, hf, hr => exact RelV_flat (by simpa [flats] using hf) hr
  | t :: u :: ts, x, hf, hr =>
    have e : outV (t :: u :: ts) x = .tup (outs (t :: u :: ts) x) := by
      match ts with
      | [] => rfl
      | _ :: _ => rfl
    rw [e] at hr ⊢
    obtain ⟨vs, e', hl⟩ := hr
    exact ⟨vs, e', outs_flat hf hl⟩

theorem contract_call {sp : FSpec} {g : FuncId} {avs : List AV} {vs : List Value} {x : dens sp.ps} (hS : Sat C.P g sp) (hi : InvH B w0 Ψ β h w) (hr : RelL Ψ β avs vs) (hd : asDs h sp.ps avs = some x) (hpre : sp.pre x)
    (hc : flats sp.rs = true ∨ refsA avs = []) : Calls C.P g vs.toArray w fun e w' => ∃ v Ψ', e = .returned v ∧ Step Ψ w Ψ' w' ∧ RelV Ψ' β (outV sp.rs (sp.post x)) v := by
  rcases hc with hc | hc
  · have hrel := asDs_rel (le_allOf hi) hd hr (fun k _ tid e xs hg u hu => grow_reading hi (le_allOf hi) hg (fun g n cap _ _ i v hv => by unfold allOf; rw [if_pos rfl]; exact hv) hu)
    refine (hS (allOf w) w x vs (allOf_spec w) hrel hpre).mono ?_
    rintro e w' ⟨v, Ψ', rfl, hb, _, _, hv⟩
    exact ⟨v, Ψ, rfl, ⟨hb, PLe.refl _, fun _ _ h => .inl h⟩, outV_flat hc hv⟩
  · have hrel := asDs_rel (PLe.refl Ψ) hd hr (by rw [hc]; exact Reading.nil)
    refine (hS Ψ w x vs hi.prom hrel hpre).mono ?_
    rintro e w' ⟨v, Ψ', rfl, hb, hle, hnew, hv⟩
    exact ⟨v, Ψ', rfl, ⟨hb, hle, hnew⟩, RelV_mono (PLe.refl _) (fun k v h => by simp at h) _ _ hv⟩

/-- An operation of a drawing region's head. -/
theorem yld_wp (hsp : SpecSound C) {o : Oper} {mid : List AV} {av : AV} (hy : Yld C h o mid av) (hi : InvH B w0 Ψ β h w) (hev : ∀ x ∈ o.op.operands, RelV Ψ β (ev mid x) (a.eval x)) {Q : Exit → Act → World → Prop} :
    o.wp C.P a w (fun a' w' => ∃ v Ψ', a' = a.put o.dst v ∧ Step Ψ w Ψ' w' ∧ RelV Ψ' β av v) Q := by
  unfold Oper.wp
  rcases hy with ⟨f, args, ats, g, sp, x, ho, hef, hs, hc, hg, hd, hpre, rfl⟩ | ⟨hn, r, hr, hp, rfl⟩
  · have hfv := hev f (by simp [ho, Op.operands, Call.operands])
    rw [hef] at hfv
    obtain ⟨vs, hfv, hl⟩ := hfv
    simp only [RelL] at hl
    subst hl
    rw [op_enter ho hfv hg]
    have hargs := evs_rel (Ψ := Ψ) (β := β) (fr := mid) (a := a) args.toList fun x hx => hev x (by simp [ho, Op.operands, Call.operands]; exact .inr (by simpa using hx))
    rw [List.append_nil]
    refine (contract_call (hsp.1 g sp hs) hi hargs hd hpre (hc.imp id noRefs_eq)).mono ?_
    rintro e w' ⟨v, Ψ', rfl, hst, hv⟩
    exact ⟨v, Ψ', rfl, hst, hv⟩
  · obtain ⟨_, _, v, Ψ', w', hrun, hst, hv⟩ := neutral_sound hi hev hn hr hp
    rw [hrun]
    exact ⟨v, Ψ', rfl, hst, hv⟩

end Go.AM
