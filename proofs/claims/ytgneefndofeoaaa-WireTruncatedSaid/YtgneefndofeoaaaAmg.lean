import Derived.Test.YtgneefndofeoaaaAmf
namespace Go.AM
set_option linter.unusedVariables false
open Go.RowKit

variable {B : Nat} {w0 : World} {C : Ctx} {Ψ : Pr} {β : List Value} {h : List Blk} {w : World} {fr : List AV} {a : Act}

/-- What is shown of an operation as a whole. -/
def NOp (C : Ctx) (Ψ : Pr) (β : List Value) (w : World) (s : Sem Next) (av : AV) : Prop :=
  ∃ v Ψ' w', s.run C.P w = .ok (.value v) w' ∧ Step Ψ w Ψ' w' ∧ RelV Ψ' β av v

theorem NOk.op {s : Sem Value} {av : AV} (hk : NOk C Ψ β w s av) : NOp C Ψ β w (do pure (.value (← s))) av := by
  obtain ⟨v, Ψ', w', h1, h2, h3⟩ := hk
  exact ⟨v, Ψ', w', by simp [h1], h2, h3⟩

theorem pick_ok {av bv cv : AV} {u v c : Value} {r : Out} (hc : RelV Ψ β cv c) (hx : RelV Ψ β av u) (hy : RelV Ψ β bv v) (hr : apick h cv av bv = some r) :
    r.heap = h ∧ r.kill = none ∧ NOp C Ψ β w (do pure (.value (if ← asBool c then u else v))) r.v := by
  unfold apick at hr
  split at hr
  · have := ok0_inv hr; subst this
    have : c = .bool true := hc
    subst this
    exact ⟨rfl, rfl, u, Ψ, w, by simp [asBool], Step.refl _ _, hx⟩
  · have := ok0_inv hr; subst this
    have : c = .bool false := hc
    subst this
    exact ⟨rfl, rfl, v, Ψ, w, by simp [asBool], Step.refl _ _, hy⟩
  · rename_i x
    rw [rv_bool.1 hc]
    split at hr
    · rename_i y z hy' hz'
      have e1 := RelV_bool hx hy'; have e2 := RelV_bool hy hz'
      subst e1 e2
      have := ok0_inv hr; subst this
      refine ⟨rfl, rfl, .bool (bif x then y else z), Ψ, w, ?_, Step.refl _ _, boolAV_rel _⟩
      cases x <;> simp [asBool]
    · cases hr
  · cases hr

theorem nil_ok {av : AV} {v : Value} {r : Out} (hx : RelV Ψ β av v) (hr : anil h av = some r) : r.heap = h ∧ r.kill = none ∧ r.need = none ∧ RelV Ψ β r.v v ∧ ∃ ad, v = .pointer (some ad) := by
  unfold anil at hr
  split at hr
  · have := ok0_inv hr; subst this
    have hx' := hx
    obtain ⟨g, _, rfl⟩ := hx'
    exact ⟨rfl, rfl, rfl, hx, _, rfl⟩
  · have := ok0_inv hr; subst this
    have hx' := hx
    obtain ⟨g, off, cs, rfl, _⟩ := hx'
    exact ⟨rfl, rfl, rfl, hx, _, rfl⟩
  · have := ok0_inv hr; subst this
    have hx' := hx
    obtain ⟨g, n, c, _, _, _, rfl⟩ := hx'
    exact ⟨rfl, rfl, rfl, hx, _, rfl⟩
  · cases hr

theorem map_list {α β : Type} (f : α → β) (xs : Array α) : xs.map f = (xs.toList.map f).toArray := by
  apply Array.ext'; simp

theorem builtin_len_ok {ts : Array TypeId} {ty : TypeId} {args : Array Operand} {r : Out} (hi : InvH B w0 Ψ β h w) (hev : ∀ x ∈ args.toList, RelV Ψ β (ev fr x) (a.eval x))
    (hr : abuiltin C h .len ts.toList (evs fr args.toList) = some r) (_hp : ∀ p, r.need = some p → p) : r.heap = h ∧ r.kill = none ∧ NOk C Ψ β w (Builtin.len_ ts ty (args.map a.eval)) r.v := by
  have hrel := evs_rel (Ψ := Ψ) (β := β) args.toList hev
  rw [map_list]
  generalize evs fr args.toList = l at *
  generalize args.toList.map a.eval = vs at *
  unfold abuiltin at hr
  split at hr <;> first | (rename_i hb; cases hb; done) | skip
  · rename_i x hb
    obtain ⟨v, vs', rfl, hv, hl⟩ := hrel
    simp only [RelL] at hl
    subst hl
    split at hr
    · rename_i t ht
      have hts : ts = #[t] := by rw [← Array.toArray_toList (xs := ts), ht]
      subst hts
      exact len_ok hi hv hr
    · cases hr
  · cases hr

theorem builtin_min_ok {ts : Array TypeId} {ty : TypeId} {args : Array Operand} {r : Out} (hev : ∀ x ∈ args.toList, RelV Ψ β (ev fr x) (a.eval x))
    (hr : abuiltin C h .min ts.toList (evs fr args.toList) = some r) (_hp : ∀ p, r.need = some p → p) : r.heap = h ∧ r.kill = none ∧ NOk C Ψ β w (Builtin.min_ ts ty (args.map a.eval)) r.v := by
  have hrel := evs_rel (Ψ := Ψ) (β := β) args.toList hev
  rw [map_list]
  generalize evs fr args.toList = l at *
  generalize args.toList.map a.eval = vs at *
  unfold abuiltin at hr
  split at hr <;> first | (rename_i hb; cases hb; done) | skip
  · rename_i n l' hb
    obtain ⟨v, vs', rfl, hv, hl⟩ := hrel
    obtain ⟨rfl, hn⟩ := rv_int.1 hv
    split at hr
    · rename_i m hm
      have := ok0_inv hr; subst this
      obtain ⟨h1, h2⟩ := foldMin_ok (C := C) (w := w) _ _ _ _ hm hl hn
      exact ⟨rfl, rfl, NOk.of_run (by simpa [Builtin.min_] using h1) (rv_int.2 ⟨rfl, h2⟩)⟩
    · cases hr
  · cases hr

theorem builtin_max_ok {ts : Array TypeId} {ty : TypeId} {args : Array Operand} {r : Out} (hev : ∀ x ∈ args.toList, RelV Ψ β (ev fr x) (a.eval x))
    (hr : abuiltin C h .max ts.toList (evs fr args.toList) = some r) (_hp : ∀ p, r.need = some p → p) : r.heap = h ∧ r.kill = none ∧ NOk C Ψ β w (Builtin.max_ ts ty (args.map a.eval)) r.v := by
  have hrel := evs_rel (Ψ := Ψ) (β := β) args.toList hev
  rw [map_list]
  generalize evs fr args.toList = l at *
  generalize args.toList.map a.eval = vs at *
  unfold abuiltin at hr
  split at hr <;> first | (rename_i hb; cases hb; done) | skip
  · rename_i n l' hb
    obtain ⟨v, vs', rfl, hv, hl⟩ := hrel
    obtain ⟨rfl, hn⟩ := rv_int.1 hv
    split at hr
    · rename_i m hm
      have := ok0_inv hr; subst this
      obtain ⟨h1, h2⟩ := foldMax_ok (C := C) (w := w) _ _ _ _ hm hl hn
      exact ⟨rfl, rfl, NOk.of_run (by simpa [Builtin.max_] using h1) (rv_int.2 ⟨rfl, h2⟩)⟩
    · cases hr
  · cases hr

theorem neutral_sound {o : Oper} {r : Out} (hi : InvH B w0 Ψ β h w) (hev : ∀ x ∈ o.op.operands, RelV Ψ β (ev fr x) (a.eval x)) (hn : neutral o.op = true)
    (hr : aop C fr h o.op = some r) (hp : ∀ p, r.need = some p → p) : r.heap = h ∧ r.kill = none ∧ NOp C Ψ β w (execOp a.eval o) r.v := by
  obtain ⟨dst, op, ty, pos, after, guard⟩ := o
  simp only at hev hn hr
  cases op <;> simp only [neutral, Bool.false_eq_true] at hn
  case move x =>
    have := ok0_inv hr; subst this
    exact ⟨rfl, rfl, _, Ψ, w, rfl, Step.refl _ _, hev x (by simp [Op.operands])⟩
  case assign x =>
    have := ok0_inv hr; subst this
    exact ⟨rfl, rfl, _, Ψ, w, rfl, Step.refl _ _, hev x (by simp [Op.operands])⟩
  case pick c x y =>
    exact pick_ok (hev c (by simp [Op.operands])) (hev x (by simp [Op.operands])) (hev y (by simp [Op.operands])) hr
  case build t parts =>
    obtain ⟨h1, h2, _, h3⟩ := build_ok (C := C) (w := w) hi.one (fun p hp => hev p.2 (by simp only [Op.operands, List.mem_toArray]; exact List.mem_map_of_mem hp)) hr
    exact ⟨h1, h2, h3.op⟩
  case buildSlice t len parts =>
    obtain ⟨h1, h2, _, h3⟩ := buildSlice_ok (C := C) hi (fun p hp => hev p.2 (by simp only [Op.operands, List.mem_toArray]; exact List.mem_map_of_mem hp)) hr
    exact ⟨h1, h2, h3.op⟩
  case load t x =>
    obtain ⟨h1, h2, _, h3⟩ := load_ok hi (hev x (by simp [Op.operands])) hr
    exact ⟨h1, h2, h3.op⟩
  case nilCheck x =>
    obtain ⟨h1, h2, _, h3, ad, h4⟩ := nil_ok (hev x (by simp [Op.operands])) hr
    refine ⟨h1, h2, a.eval x, Ψ, w, ?_, Step.refl _ _, h3⟩
    simp [execOp, h4]
  case binOp op xt x y yt =>
    simp only [aop] at hr
    split at hr
    · rename_i r' hb
      simp at hr
      subst hr
      obtain ⟨h1, h2, _, h3⟩ := binAgg_ok (C := C) (w := w) (hev x (by simp [Op.operands])) (hev y (by simp [Op.operands])) hb
      exact ⟨h1, h2, h3.op⟩
    obtain ⟨h1, h2, h3⟩ := binop_ok (C := C) (w := w) (x := x) (y := y) (hev x (by simp [Op.operands])) (hev y (by simp [Op.operands])) hr hp
    exact ⟨h1, h2, h3.op⟩
  case unOp op xt x =>
    obtain ⟨h1, h2, h3⟩ := unop_ok (C := C) (w := w) (hev x (by simp [Op.operands])) hr hp
    exact ⟨h1, h2, h3.op⟩
  case convert src dst x =>
    obtain ⟨h1, h2, _, h3⟩ := convert_ok hi (hev x (by simp [Op.operands])) hr
    exact ⟨h1, h2, h3.op⟩
  case makeFunc f first caps =>
    cases f <;> simp only [aop, reduceCtorEq] at hr
    split at hr
    · rename_i f' hf
      have hf' : first = #[] := Array.eq_empty_of_size_eq_zero (by simpa [Nat.beq_eq] using hf)
      subst hf'
      have := ok0_inv hr; subst this
      refine ⟨rfl, rfl, .func (.func f') #[] (caps.map a.eval), Ψ, w, by simp [execOp, Instr.makeFunc], Step.refl _ _, caps.toList.map a.eval, by rw [map_list], ?_⟩
      exact evs_rel _ fun x hx => hev x (by simp [Op.operands]; simpa using hx)
    · cases hr
  case sliceToArrayPointer t x =>
    obtain ⟨h1, h2, h3⟩ := arrayAt_ok (w := w) (hev x (by simp [Op.operands])) hr hp
    exact ⟨h1, h2, h3.op⟩
  case slice t x lo hi' mx =>
    obtain ⟨h1, h2, h3⟩ := slice_ok (w := w) (hev x (by simp [Op.operands])) (RelO_of lo fun y hy => hev y (by simp only [Op.operands, Array.mem_append]; exact .inl (.inl (.inr hy))))
      (RelO_of hi' fun y hy => hev y (by simp only [Op.operands, Array.mem_append]; exact .inl (.inr hy))) (RelO_of mx fun y hy => hev y (by simp only [Op.operands, Array.mem_append]; exact .inr hy)) hr hp
    exact ⟨h1, h2, h3.op⟩
  case fieldAddr t x f =>
    obtain ⟨h1, h2, _, h3⟩ := fieldAddr_ok (C := C) (w := w) (hev x (by simp [Op.operands])) hr
    exact ⟨h1, h2, h3.op⟩
  case field t x f =>
    obtain ⟨h1, h2, _, h3⟩ := field_ok (C := C) (w := w) (hev x (by simp [Op.operands])) hr
    exact ⟨h1, h2, h3.op⟩
  case indexAddr t x ix =>
    obtain ⟨h1, h2, h3⟩ := indexAddr_ok hi (hev x (by simp [Op.operands])) (hev ix (by simp [Op.operands])) hr hp
    exact ⟨h1, h2, h3.op⟩
  case index t x ix =>
    obtain ⟨h1, h2, h3⟩ := index_ok (C := C) (w := w) (hev x (by simp [Op.operands])) (hev ix (by simp [Op.operands])) hr hp
    exact ⟨h1, h2, h3.op⟩
  case extract x i =>
    obtain ⟨h1, h2, _, h3⟩ := extract_ok (C := C) (w := w) (hev x (by simp [Op.operands])) hr
    exact ⟨h1, h2, h3.op⟩
  case call c =>
    obtain ⟨callee, args, ats⟩ := c
    have hargs : ∀ x ∈ args.toList, RelV Ψ β (ev fr x) (a.eval x) := fun x hx => hev x (by simp only [Op.operands, Call.operands, Array.mem_append]; exact .inr (by simpa using hx))
    cases callee with
    | value f => simp at hn
    | invoke r m => simp at hn
    | builtin b =>
    cases b <;> first | (simp at hn; done) | skip
    case len =>
      obtain ⟨h1, h2, h3⟩ := builtin_len_ok (ty := ty) hi hargs hr hp
      refine ⟨h1, h2, ?_⟩
      obtain ⟨v, Ψ', w', e1, e2, e3⟩ := h3
      exact ⟨v, Ψ', w', by simp [execOp, resolve, invoke, builtin, e1], e2, e3⟩
    case max =>
      obtain ⟨h1, h2, h3⟩ := builtin_max_ok (w := w) (ty := ty) hargs hr hp
      refine ⟨h1, h2, ?_⟩
      obtain ⟨v, Ψ', w', e1, e2, e3⟩ := h3
      exact ⟨v, Ψ', w', by simp [execOp, resolve, invoke, builtin, e1], e2, e3⟩
    case min =>
      obtain ⟨h1, h2, h3⟩ := builtin_min_ok (w := w) (ty := ty) hargs hr hp
      refine ⟨h1, h2, ?_⟩
      obtain ⟨v, Ψ', w', e1, e2, e3⟩ := h3
      exact ⟨v, Ψ', w', by simp [execOp, resolve, invoke, builtin, e1], e2, e3⟩

end Go.AM
