import Derived.Test.YtgneefndofeoaaaAmj
namespace Go.AM
set_option linter.unusedVariables false
open Go.RowKit

variable {B : Nat} {w0 : World} {C : Ctx} {Ψ Ψ0 : Pr} {β : List Value} {h : List Blk} {w w' : World} {fr : List AV} {a a0 : Act} {As : List Act} {W : List Nat}

/-! ### Regions that draw their order -/
def putL (top : List AV) (d : Option Tmp) (v : AV) : List AV :=
  match d with
  | some t => fset top t v
  | none => top

/-- How an operation's guard stands, and what is learnt of the slot that it looks at. -/
def Guarded (all : Array Oper) (o : Oper) (top top1 : List AV) (b : Bool) : Prop :=
  match o.guard with
  | none => top1 = top ∧ b = true
  | some (j, want) => ∃ t, guardTmp all j = some t ∧
      ((fget top t = .tt ∧ top1 = top ∧ b = (true == want)) ∨ (fget top t = .ff ∧ top1 = top ∧ b = (false == want)) ∨ (fget top t = .und ∧ top1 = top ∧ b = false) ∨
        (fget top t = .d .bool true ∧ top1 = fset top t .tt ∧ b = (true == want)) ∨ (fget top t = .d .bool false ∧ top1 = fset top t .ff ∧ b = (false == want)))

/-- What an operation of the head yields. -/
def Yld (C : Ctx) (h : List Blk) (o : Oper) (top : List AV) (av : AV) : Prop :=
  (∃ f args ats g sp x, o.op = .call { callee := .value f, args, argTypes := ats } ∧ ev top f = .fn g [] ∧ C.spec g = some sp ∧ (flats sp.rs = true ∨ noRefs (evs top args.toList) = true) ∧ enterOk C g = true ∧
    asDs h sp.ps (evs top args.toList) = some x ∧ sp.pre x ∧ av = outV sp.rs (sp.post x)) ∨
  (neutral o.op = true ∧ ∃ r, aop C top h o.op = some r ∧ (∀ p, r.need = some p → p) ∧ av = r.v)

theorem nstep_yld {o : Oper} {s : St} {k : St → Prop} (hk : nstep C o s k) : ∃ av, Yld C s.heap o s.top av ∧ k (s.put o.dst av) := by
  unfold nstep at hk
  split at hk
  · rename_i f args ats ho
    split at hk
    · rename_i g hev
      split at hk
      · rename_i sp hsp
        split at hk
        · rename_i hc
          simp only [Bool.and_eq_true, Bool.or_eq_true] at hc
          split at hk
          · rename_i x hx
            exact ⟨_, .inl ⟨f, args, ats, g, sp, x, ho, hev, hsp, hc.1, hc.2, hx, hk.1, rfl⟩, hk.2⟩
          · exact hk.elim
        · exact hk.elim
      · exact hk.elim
    · exact hk.elim
  · split at hk
    · rename_i hn
      split at hk
      · rename_i r hr
        obtain ⟨hp, hk'⟩ := needs_elim hk
        exact ⟨_, .inr ⟨hn, r, hr, hp, rfl⟩, hk'⟩
      · exact hk.elim
    · exact hk.elim

structure Trace (C : Ctx) (all : Array Oper) (h : List Blk) (ops : List Oper) (top : List AV) (tops mids : Nat → List AV) (vals : Nat → AV) (wnt : Nat → Bool) : Prop where
  zero : tops 0 = top
  step : ∀ i o, ops[i]? = some o → Guarded all o (tops i) (mids i) (wnt i) ∧ tops (i + 1) = putL (mids i) o.dst (vals i) ∧ (wnt i = true → Yld C h o (mids i) (vals i)) ∧ (wnt i = false → vals i = .und)

theorem Trace.cons {all : Array Oper} {o : Oper} {ops : List Oper} {top mid : List AV} {v : AV} {b : Bool} {tops mids : Nat → List AV} {vals : Nat → AV} {wnt : Nat → Bool}
    (hg : Guarded all o top mid b) (hy : b = true → Yld C h o mid v) (hn : b = false → v = .und) (ht : Trace C all h ops (putL mid o.dst v) tops mids vals wnt) :
    Trace C all h (o :: ops) top (fun i => match i with | 0 => top | i + 1 => tops i) (fun i => match i with | 0 => mid | i + 1 => mids i) (fun i => match i with | 0 => v | i + 1 => vals i) (fun i => match i with | 0 => b | i + 1 => wnt i) where
  zero := rfl
  step := fun i o' ho => by
    cases i with
    | zero =>
      simp at ho
      subst ho
      exact ⟨hg, ht.zero, hy, hn⟩
    | succ i => exact ht.step i o' (by simpa using ho)

theorem put_top (s : St) (d : Option Tmp) (v : AV) : s.put d v = { s with top := putL s.top d v } := by cases d <;> rfl

theorem dops_trace {m : Mode} (all : Array Oper) {k : St → Prop} : ∀ (ops : List Oper) (s : St), dops C m all ops s k →
    ∃ tops mids vals wnt, Trace C all s.heap ops s.top tops mids vals wnt ∧ k { s with top := tops ops.length }
  | [], s, hk => ⟨fun _ => s.top, fun _ => s.top, fun _ => .und, fun _ => true, ⟨rfl, fun i o ho => by simp at ho⟩, hk⟩
  | o :: ops, s, hk => by
    have go : ∀ (s1 : St) (v : AV) (b : Bool), Guarded all o s.top s1.top b → s1.heap = s.heap → s1.below = s.below → (b = true → Yld C s.heap o s1.top v) → (b = false → v = .und) → dops C m all ops (s1.put o.dst v) k →
        ∃ tops mids vals wnt, Trace C all s.heap (o :: ops) s.top tops mids vals wnt ∧ k { s with top := tops (o :: ops).length } := by
      intro s1 v b hg hh hb hy hn hd
      rw [put_top] at hd
      obtain ⟨tops, mids, vals, wnt, ht, hk'⟩ := dops_trace all ops _ hd
      simp only [hh, hb] at ht hk'
      exact ⟨_, _, _, _, ht.cons hg hy hn, hk'⟩
    have yes : ∀ (s1 : St), Guarded all o s.top s1.top true → s1.heap = s.heap → s1.below = s.below → nstep C o s1 (fun s' => dops C m all ops s' k) →
        ∃ tops mids vals wnt, Trace C all s.heap (o :: ops) s.top tops mids vals wnt ∧ k { s with top := tops (o :: ops).length } := by
      intro s1 hg hh hb hst
      obtain ⟨av, hy, hd⟩ := nstep_yld hst
      exact go s1 av true hg hh hb (fun _ => by rw [← hh]; exact hy) (fun e => by cases e) hd
    have no : ∀ (s1 : St), Guarded all o s.top s1.top false → s1.heap = s.heap → s1.below = s.below → dops C m all ops (s1.put o.dst .und) k →
        ∃ tops mids vals wnt, Trace C all s.heap (o :: ops) s.top tops mids vals wnt ∧ k { s with top := tops (o :: ops).length } :=
      fun s1 hg hh hb hd => go s1 .und false hg hh hb (fun e => by cases e) (fun _ => rfl) hd
    unfold dops at hk
    split at hk
    · rename_i hgd
      exact yes s (by simp [Guarded, hgd]) rfl rfl hk
    · rename_i j want hgd
      split at hk
      · exact hk.elim
      · rename_i t hgt
        split at hk
        · rename_i htt
          split at hk
          · exact yes s (by simp [Guarded, hgd, hgt, htt]) rfl rfl hk
          · exact no s (by simp [Guarded, hgd, hgt, htt]) rfl rfl hk
        · rename_i htt
          split at hk
          · exact yes s (by simp [Guarded, hgd, hgt, htt]) rfl rfl hk
          · exact no s (by simp [Guarded, hgd, hgt, htt]) rfl rfl hk
        · rename_i htt
          exact no s (by simp [Guarded, hgd, hgt, htt]) rfl rfl hk
        · rename_i b htt
          split at hk
          · cases b with
            | true => exact yes (s.put (some t) .tt) (by simp [Guarded, hgd, hgt, htt, St.put]) rfl rfl ((splitB_sound hk).1 rfl)
            | false => exact no (s.put (some t) .ff) (by simp [Guarded, hgd, hgt, htt, St.put]) rfl rfl ((splitB_sound hk).2 rfl)
          · cases b with
            | true => exact no (s.put (some t) .tt) (by simp [Guarded, hgd, hgt, htt, St.put]) rfl rfl ((splitB_sound hk).1 rfl)
            | false => exact yes (s.put (some t) .ff) (by simp [Guarded, hgd, hgt, htt, St.put]) rfl rfl ((splitB_sound hk).2 rfl)
        · exact hk.elim

/-! the slots, whatever has been carried out -/
def baseL (ops : List Oper) (top : List AV) (vals : Nat → AV) (L : Nat → Bool) (t : Nat) : AV :=
  match (List.range ops.length).find? (fun i => L i && ((ops[i]?).bind (·.dst) == some t)) with
  | some i => vals i
  | none => fget top t

def Imp (b av : AV) : Prop := ∀ Ψ β v, RelV Ψ β b v → RelV Ψ β av v
theorem Imp.refl (b : AV) : Imp b b := fun _ _ _ h => h
theorem Imp.trans {a b c : AV} (h : Imp a b) (h' : Imp b c) : Imp a c := fun Ψ β v hv => h' Ψ β v (h Ψ β v hv)

theorem fget_fset {l : List AV} {i j : Nat} {v : AV} : fget (fset l i v) j = if i = j ∧ i < l.length then v else fget l j := by
  induction l generalizing i j with
  | nil => simp [fset]
  | cons x l ih => cases i <;> cases j <;> simp [fset, fget, ih]

theorem fset_length (l : List AV) (i : Nat) (v : AV) : (fset l i v).length = l.length := by rw [fset_eq]; simp

/-- No two operations write one slot. -/
def Distinct (ops : List Oper) : Prop :=
  ∀ (i j : Nat) (oi oj : Oper) (t : Tmp), ops[i]? = some oi → ops[j]? = some oj → oi.dst = some t → oj.dst = some t → i = j

theorem baseL_at {ops : List Oper} {top : List AV} {vals : Nat → AV} {L : Nat → Bool} {t i : Nat} {o : Oper} (hd : Distinct ops) (hi : ops[i]? = some o) (ht : o.dst = some t) (hL : L i = true) : baseL ops top vals L t = vals i := by
  unfold baseL
  cases hf : (List.range ops.length).find? (fun i => L i && ((ops[i]?).bind (·.dst) == some t)) with
  | none =>
    rw [List.find?_eq_none] at hf
    have hlt : i < ops.length := by
      rcases Nat.lt_or_ge i ops.length with h' | h'
      · exact h'
      · rw [List.getElem?_eq_none h'] at hi; cases hi
    have := hf i (List.mem_range.2 hlt)
    simp [hL, hi, ht] at this
  | some j =>
    have h1 := List.find?_some hf
    simp only [Bool.and_eq_true, beq_iff_eq] at h1
    obtain ⟨_, h2⟩ := h1
    cases hj : ops[j]? with
    | none => rw [hj] at h2; simp at h2
    | some oj =>
      rw [hj] at h2
      simp at h2
      rw [hd i j o oj t hi hj ht h2]

theorem baseL_none {ops : List Oper} {top : List AV} {vals : Nat → AV} {L : Nat → Bool} {t : Nat} (hn : ∀ (i : Nat) (o : Oper), ops[i]? = some o → o.dst = some t → L i = false) : baseL ops top vals L t = fget top t := by
  unfold baseL
  cases hf : (List.range ops.length).find? (fun i => L i && ((ops[i]?).bind (·.dst) == some t)) with
  | none => rfl
  | some j =>
    have h1 := List.find?_some hf
    simp only [Bool.and_eq_true, beq_iff_eq] at h1
    obtain ⟨h0, h2⟩ := h1
    cases hj : ops[j]? with
    | none => rw [hj] at h2; simp at h2
    | some oj =>
      rw [hj] at h2
      simp at h2
      rw [hn j oj hj h2] at h0
      cases h0

theorem guarded_imp {all : Array Oper} {o : Oper} {top top1 : List AV} {b : Bool} (hg : Guarded all o top top1 b) : top1.length = top.length ∧ ∀ t, Imp (fget top t) (fget top1 t) := by
  unfold Guarded at hg
  split at hg
  · obtain ⟨rfl, _⟩ := hg
    exact ⟨rfl, fun t => Imp.refl _⟩
  · obtain ⟨t, _, h⟩ := hg
    rcases h with ⟨_, rfl, _⟩ | ⟨_, rfl, _⟩ | ⟨_, rfl, _⟩ | ⟨h1, rfl, _⟩ | ⟨h1, rfl, _⟩
    · exact ⟨rfl, fun t => Imp.refl _⟩
    · exact ⟨rfl, fun t => Imp.refl _⟩
    · exact ⟨rfl, fun t => Imp.refl _⟩
    · refine ⟨fset_length _ _ _, fun t' => ?_⟩
      rw [fget_fset]
      split
      · rename_i hc
        obtain ⟨rfl, _⟩ := hc
        rw [h1]
        exact fun Ψ β v hv => rv_bool.1 hv
      · exact Imp.refl _
    · refine ⟨fset_length _ _ _, fun t' => ?_⟩
      rw [fget_fset]
      split
      · rename_i hc
        obtain ⟨rfl, _⟩ := hc
        rw [h1]
        exact fun Ψ β v hv => rv_bool.1 hv
      · exact Imp.refl _

/-- What the lexical walk knows of the slots follows from what the operations before have left. -/
theorem Trace.chain {all : Array Oper} {ops : List Oper} {top : List AV} {tops mids : Nat → List AV} {vals : Nat → AV} {wnt : Nat → Bool} (ht : Trace C all h ops top tops mids vals wnt) (hd : Distinct ops) :
    ∀ i, i ≤ ops.length → (tops i).length = top.length ∧ ∀ t, t < top.length → Imp (baseL ops top vals (fun j => decide (j < i)) t) (fget (tops i) t)
  | 0, _ => by
    rw [ht.zero]
    refine ⟨rfl, fun t _ => ?_⟩
    rw [baseL_none (fun i o _ _ => by simp)]
    exact Imp.refl _
  | i + 1, hi => by
    obtain ⟨hl, hc⟩ := ht.chain hd i (by omega)
    have ho : ops[i]? = some ops[i] := List.getElem?_eq_getElem (by omega)
    obtain ⟨hg, he, _, _⟩ := ht.step i _ ho
    obtain ⟨hgl, hgi⟩ := guarded_imp hg
    have same : ∀ t, ops[i].dst ≠ some t → baseL ops top vals (fun j => decide (j < i + 1)) t = baseL ops top vals (fun j => decide (j < i)) t := by
      intro t hne
      by_cases hex : ∃ j oj, ops[j]? = some oj ∧ oj.dst = some t ∧ j < i
      · obtain ⟨j, oj, h1, h2, h3⟩ := hex
        rw [baseL_at hd h1 h2 (by simp; omega), baseL_at hd h1 h2 (by simp; omega)]
      · rw [baseL_none (fun j oj h1 h2 => ?_), baseL_none (fun j oj h1 h2 => ?_)]
        · simp only [decide_eq_false_iff_not]
          exact fun h3 => hex ⟨j, oj, h1, h2, h3⟩
        · simp only [decide_eq_false_iff_not]
          intro h3
          have : j ≠ i := by
            rintro rfl
            rw [h1] at ho
            simp at ho
            rw [← ho] at hne
            exact hne h2
          exact hex ⟨j, oj, h1, h2, by omega⟩
    rw [he]
    cases hdst : ops[i].dst with
    | none =>
      refine ⟨by simp only [putL]; omega, fun t ht' => ?_⟩
      rw [same t (by rw [hdst]; simp)]
      exact (hc t ht').trans (hgi t)
    | some d =>
      refine ⟨by simp only [putL]; rw [fset_length]; omega, fun t ht' => ?_⟩
      simp only [putL]
      rw [fget_fset]
      by_cases htd : d = t
      · subst htd
        rw [if_pos ⟨rfl, by omega⟩, baseL_at hd ho hdst (by simp)]
        exact Imp.refl _
      · rw [if_neg (fun hh => htd hh.1), same t (by rw [hdst]; simpa using htd)]
        exact (hc t ht').trans (hgi t)

end Go.AM
