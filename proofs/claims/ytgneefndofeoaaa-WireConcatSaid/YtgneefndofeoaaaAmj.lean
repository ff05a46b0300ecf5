import Derived.Test.YtgneefndofeoaaaAmi
import Derived.Laws.Cover3
namespace Go.AM
set_option linter.unusedVariables false
open Go.RowKit Go.MapKept

variable {B : Nat} {w0 : World} {C : Ctx} {Ψ Ψ0 : Pr} {β : List Value} {h : List Blk} {w w' : World} {fr : List AV} {a a0 : Act} {As : List Act} {W : List Nat}

/-! ### Lists of operations -/
/-- The slots outside of W are what they were. -/
def Same (W : List Nat) (a0 a : Act) : Prop := a.tmps.size = a0.tmps.size ∧ ∀ i, i ∉ W → a.tmps[i]? = a0.tmps[i]?

theorem Same.refl (W : List Nat) (a : Act) : Same W a a := ⟨rfl, fun _ _ => rfl⟩
theorem Same.trans {a b c : Act} (h : Same W a b) (h' : Same W b c) : Same W a c := ⟨h'.1.trans h.1, fun i hi => (h'.2 i hi).trans (h.2 i hi)⟩
theorem Same.put {d : Option Tmp} {v : Value} (hs : Same W a0 a) (hd : ∀ t, d = some t → t ∈ W) : Same W a0 (a.put d v) := by
  cases d with
  | none => exact hs
  | some t =>
    refine ⟨by simpa [Act.put] using hs.1, fun i hi => ?_⟩
    have : t ≠ i := fun e => hi (e ▸ hd t rfl)
    simp only [Act.put]
    rw [Array.getElem?_setIfInBounds_ne this]
    exact hs.2 i hi

/-- What stands behind a piece of code: the abstract state fits, and of it k holds. -/
def PostC (B : Nat) (w0 : World) (Ψ0 : Pr) (As : List Act) (W : List Nat) (a0 : Act) (k : St → Prop) (a : Act) (w : World) : Prop :=
  ∃ Ψ β s, Ext B Ψ0 Ψ ∧ InvH B w0 Ψ β s.heap w ∧ RelF Ψ β (s.top :: s.below) (a :: As) ∧ Same W a0 a ∧ k s

def CallSound (C : Ctx) (call : CallT) : Prop :=
  ∀ (f : FuncId) (avs : List AV) (s : St) (k : AV → St → Prop), call f avs s k → enterOk C f = true → ∀ (B : Nat) (w0 : World) (Ψ : Pr) (β : List Value) (As : List Act) (vs : List Value) (w : World),
    InvH B w0 Ψ β s.heap w → RelF Ψ β (s.top :: s.below) As → RelL Ψ β avs vs →
    Calls C.P f vs.toArray w fun e w' => ∃ v Ψ' β' av s', e = .returned v ∧ Ext B Ψ Ψ' ∧ InvH B w0 Ψ' β' s'.heap w' ∧ RelF Ψ' β' (s'.top :: s'.below) As ∧ RelV Ψ' β' av v ∧ k av s'

theorem RelF_put {Ψ' : Pr} {β' : List Value} {s : St} {d : Option Tmp} {av : AV} {v : Value} (hf : RelF Ψ' β' (s.top :: s.below) (a :: As)) (hv : RelV Ψ' β' av v) :
    RelF Ψ' β' ((s.put d av).top :: (s.put d av).below) (a.put d v :: As) := by
  obtain ⟨a1, as', e, ⟨h1, h2⟩, h3⟩ := hf
  simp only [List.cons.injEq] at e
  obtain ⟨rfl, rfl⟩ := e
  cases d with
  | none => exact ⟨_, _, rfl, ⟨h1, h2⟩, h3⟩
  | some t =>
    refine ⟨_, _, rfl, ⟨h1, ?_⟩, h3⟩
    simp only [St.put, Act.put]
    have := RelL_set hv _ _ t h2
    simpa using this

theorem put_heap (s : St) (d : Option Tmp) (av : AV) : (s.put d av).heap = s.heap := by cases d <;> rfl

theorem frame_of {s : St} (hf : RelF Ψ β (s.top :: s.below) (a :: As)) : RelFr Ψ β s.top a := by
  obtain ⟨a1, as', e, h1, h3⟩ := hf
  simp only [List.cons.injEq] at e
  obtain ⟨rfl, rfl⟩ := e
  exact h1

theorem enterOk_run {g : FuncId} (hg : enterOk C g = true) (args : Array Value) (w : World) : (callFunc g args).run C.P w = .ok (.enter g args) w := by
  unfold enterOk at hg
  split at hg
  · rename_i fn hfn
    simp only [Bool.and_eq_true, Bool.not_eq_true', beq_eq_false_iff_ne] at hg
    obtain ⟨h1, h2⟩ := hg
    simp [callFunc, hfn, h2]
    intro hn
    rw [hn] at h1
    simp at h1
  · cases hg

theorem op_enter {o : Oper} {f : Operand} {args : Array Operand} {ats : Array TypeId} {g : FuncId} {vs : List Value} (ho : o.op = .call { callee := .value f, args, argTypes := ats }) (hf : a.eval f = .func (.func g) #[] vs.toArray) (hg : enterOk C g = true) :
    (execOp a.eval o).run C.P w = .ok (.enter g (args.toList.map a.eval ++ vs).toArray) w := by
  have e : (args.toList.map a.eval ++ vs).toArray = #[] ++ args.map a.eval ++ vs.toArray := by
    apply Array.ext'
    simp
  have := enterOk_run hg (args.map a.eval ++ vs.toArray) w
  simp only [execOp, ho, resolve, hf, Deferred.ofValue]
  rw [e]
  simpa [invoke] using this

theorem needs_elim {p : Option Prop} {q : Prop} (h : needs p q) : (∀ p', p = some p' → p') ∧ q := by
  cases p with
  | none => exact ⟨fun _ e => by simp at e, h⟩
  | some p => exact ⟨fun p' e => Option.some.inj e ▸ h.1, h.2⟩

theorem run_nilCmp {xt e : TypeId} (hu : C.P.underlying xt = some (.slice e)) (x y : Operand) (ad : Option Addr) (l c : Nat) :
    (do eqGuard .eql xt x y (.slice ad l c) (.slice none 0 0); binOp .eql xt (.slice ad l c) (.slice none 0 0) : Sem Value).run C.P w = .ok (.bool ad.isNone) w ∧
    (do eqGuard .neq xt x y (.slice ad l c) (.slice none 0 0); binOp .neq xt (.slice ad l c) (.slice none 0 0) : Sem Value).run C.P w = .ok (.bool (!ad.isNone)) w := by
  constructor <;> simp [eqGuard, binOp, run_equal_slice_nil w xt e ad l c hu]

theorem nilCmp_sound {o : Oper} {s : St} {k : St → Prop} (hk : anilCmp C o s k) (hE : Ext B Ψ0 Ψ) (hi : InvH B w0 Ψ β s.heap w) (hf : RelF Ψ β (s.top :: s.below) (a :: As))
    (hS : Same W a0 a) (hW : ∀ t, o.dst = some t → t ∈ W) : ∃ v, (execOp a.eval o).run C.P w = .ok (.value v) w ∧ PostC B w0 Ψ0 As W a0 k (a.put o.dst v) w := by
  have hfr := frame_of hf
  obtain ⟨dst, op, ty, pos, after, guard⟩ := o
  unfold anilCmp at hk
  simp only at hk hW
  split at hk
  · rename_i op xt x y yt
    split at hk
    · rename_i tid he hy
      have hyv : a.eval y = .slice none 0 0 := by
        have := ev_rel hfr y
        rw [hy] at this
        exact this
      split at hk
      · rename_i e xs hl
        obtain ⟨ad, cap, hxv, _, _, h3⟩ := asList_rel hi (ev_rel hfr x) hl
        obtain ⟨r1, r2⟩ := run_nilCmp (C := C) (w := w) (underlying_slice he) x y ad xs.length cap
        have hnil : ad.isNone = true → xs = [] := by
          intro h
          rcases h3 with h3 | ⟨_, g, off, _, rfl, _⟩
          · exact h3
          · cases h
        split at hk
        · refine ⟨.bool ad.isNone, ?_, Ψ, β, _, hE, by rw [put_heap]; exact hi, RelF_put hf (rv_bool.2 rfl), hS.put hW, hk ad.isNone hnil⟩
          simp only [execOp, hxv, hyv]
          rw [then_value r1]
        · refine ⟨.bool (!ad.isNone), ?_, Ψ, β, _, hE, by rw [put_heap]; exact hi, RelF_put hf (rv_bool.2 rfl), hS.put hW, hk ad.isNone hnil⟩
          simp only [execOp, hxv, hyv]
          rw [then_value r2]
        · exact hk.elim
      · exact hk.elim
    · exact hk.elim
  · exact hk.elim

theorem lookup_sound {o : Oper} {s : St} {k : St → Prop} (hk : alookup C o s k) (hE : Ext B Ψ0 Ψ) (hi : InvH B w0 Ψ β s.heap w) (hf : RelF Ψ β (s.top :: s.below) (a :: As))
    (hS : Same W a0 a) (hW : ∀ t, o.dst = some t → t ∈ W) : ∃ v, (execOp a.eval o).run C.P w = .ok (.value v) w ∧ PostC B w0 Ψ0 As W a0 k (a.put o.dst v) w := by
  have hfr := frame_of hf
  obtain ⟨dst, op, ty, pos, after, guard⟩ := o
  unfold alookup at hk
  simp only at hk hW
  split at hk
  · rename_i t m i
    split at hk
    · exact hk.elim
    · rename_i et him
      split at hk
      · rename_i j x hj hx
        split at hk
        · rename_i es z hg hz
          obtain ⟨kt, hu, hku⟩ := intMap_spec him
          have hm := ev_rel hfr m
          rw [hj] at hm
          have hix := ev_rel hfr i
          rw [hx] at hix
          obtain ⟨g, ms, cl, hmv, hβ, hh, hB, hes⟩ := kmap_at hi hg hm
          obtain ⟨hiv, _⟩ := rv_int.1 hix
          obtain ⟨r, hfind, _, hfk⟩ := findNow_k x es ms.toList 0 hes
          obtain ⟨ti, zv, hti, htz, rfl⟩ := zero_spec hz
          have hr := hfk _ _ hk
          cases r with
          | none =>
            refine ⟨zv, ?_, Ψ, β, _, hE, by rw [put_heap]; exact hi, RelF_put hf (ofV_rel zv), hS.put hW, hr⟩
            simp [execOp, Instr.lookup, hmv, hiv, run_underlying hu, MapKept.run_getObj_map hh, run_checkKey hku (k := .int .i64 x) rfl, run_findKey hku hfind, zeroValue, typeInfo, hti, htz, Result.andThen]
          | some p =>
            obtain ⟨i0, v⟩ := p
            obtain ⟨f, rfl, hkf⟩ := hr
            refine ⟨fnV f, ?_, Ψ, β, _, hE, by rw [put_heap]; exact hi, RelF_put (av := .fn f []) hf ⟨[], rfl, rfl⟩, hS.put hW, hkf⟩
            simp [execOp, Instr.lookup, hmv, hiv, run_underlying hu, MapKept.run_getObj_map hh, run_checkKey hku (k := .int .i64 x) rfl, run_findKey hku hfind, Result.andThen]
        · exact hk.elim
      · exact hk.elim
  · exact hk.elim

theorem astep_sound {call : CallT} (hc : CallSound C call) {o : Oper} {s : St} {k : St → Prop} (hk : astep C call o s k) (hE : Ext B Ψ0 Ψ) (hi : InvH B w0 Ψ β s.heap w) (hf : RelF Ψ β (s.top :: s.below) (a :: As))
    (hS : Same W a0 a) (hW : ∀ t, o.dst = some t → t ∈ W) {Q : Exit → Act → World → Prop} : o.wp C.P a w (PostC B w0 Ψ0 As W a0 k) Q := by
  have hfr := frame_of hf
  unfold Oper.wp
  unfold astep at hk
  split at hk
  · rename_i f args ats ho
    have hef := ev_rel hfr f
    split at hk
    · rename_i g cap hev
      split at hk
      · rename_i hg
        rw [hev] at hef
        obtain ⟨vs, hfv, hcap⟩ := hef
        rw [op_enter ho hfv hg]
        have hargs := evs_rel (Ψ := Ψ) (β := β) (fr := s.top) (a := a) args.toList fun x _ => ev_rel hfr x
        refine (hc g _ s _ hk hg B w0 Ψ β (a :: As) _ w hi hf (RelL_append _ _ _ _ hargs hcap)).mono ?_
        rintro e w' ⟨v, Ψ', β', av, s', rfl, hE', hi', hf', hv, hk'⟩
        exact ⟨Ψ', β', s'.put o.dst av, hE.trans hE', by rw [put_heap]; exact hi', RelF_put hf' hv, hS.put hW, hk'⟩
      · exact hk.elim
    · exact hk.elim
  · split at hk
    · rename_i r hr
      obtain ⟨hp, hk'⟩ := needs_elim hk
      obtain ⟨n, v, Ψ', β', w', hrun, hn, hE', hi', hf', hv⟩ := op_sound hi hf (fun x _ => ev_rel hfr x) hr hp
      rw [hrun]
      have hpost : PostC B w0 Ψ0 As W a0 k (a.put o.dst v) w' := by
        refine ⟨Ψ', β', (s.apply r).put o.dst r.v, hE.trans hE', ?_, RelF_put ?_ hv, hS.put hW, hk'⟩
        · rw [put_heap]
          unfold St.apply
          cases hkl : r.kill with
          | none => rw [hkl] at hi'; exact hi'
          | some j => rw [hkl] at hi'; exact hi'
        · unfold St.apply
          cases hkl : r.kill with
          | none => rw [hkl] at hf'; exact hf'
          | some j => rw [hkl] at hf'; exact hf'
      rcases hn with rfl | ⟨rfl, rfl⟩
      · exact hpost
      · exact hpost
    · unfold aext at hk
      split at hk
      · obtain ⟨v, hrun, hpost⟩ := lookup_sound hk hE hi hf hS hW
        rw [hrun]
        exact hpost
      · rename_i t x lo hi' mx hop
        unfold afreeze at hk
        rw [hop] at hk
        simp only at hk
        split at hk
        · rename_i j hj
          split at hk
          · rename_i r hr
            obtain ⟨hp, hk'⟩ := needs_elim hk
            obtain ⟨Ψ1, hE1, hi1, hf1, _, _⟩ := freeze_sound hi hf j
            obtain ⟨n, v, Ψ', β', w', hrun, hn, hE', hi', hf', hv⟩ := op_sound hi1 hf1 (fun x _ => ev_rel (frame_of hf1) x) (by rw [hop]; exact hr) hp
            rw [hrun]
            have hpost : PostC B w0 Ψ0 As W a0 k (a.put o.dst v) w' := by
              refine ⟨Ψ', β', ((s.freeze j).apply r).put o.dst r.v, (hE.trans hE1).trans hE', ?_, RelF_put ?_ hv, hS.put hW, hk'⟩
              · rw [put_heap]
                unfold St.apply
                cases hkl : r.kill with
                | none => rw [hkl] at hi'; exact hi'
                | some j => rw [hkl] at hi'; exact hi'
              · unfold St.apply
                cases hkl : r.kill with
                | none => rw [hkl] at hf'; exact hf'
                | some j => rw [hkl] at hf'; exact hf'
            rcases hn with rfl | ⟨rfl, rfl⟩
            · exact hpost
            · exact hpost
          · exact hk.elim
        · exact hk.elim
      · obtain ⟨v, hrun, hpost⟩ := nilCmp_sound hk hE hi hf hS hW
        rw [hrun]
        exact hpost

theorem yielded_of {all : Array Oper} {j : Nat} {t : Tmp} (hg : guardTmp all j = some t) (tmps : Array Value) : yielded all tmps j = (match tmps[t]? with | some (.bool b) => some b | _ => none) := by
  unfold guardTmp at hg
  split at hg
  · rename_i o ho
    simp [yielded, ho, hg]
    cases tmps[t]? with
    | none => rfl
    | some x => cases x <;> rfl
  · cases hg

theorem getD_eq {t : Tmp} (tmps : Array Value) : tmps.toList.getD t undef = (tmps[t]?).getD undef := by
  simp [List.getD_eq_getElem?_getD]

/-- What a slot says of the guard that looks at it. -/
theorem guard_bool {s : St} {t : Tmp} {b : Bool} (hfr : RelFr Ψ β s.top a) (hr : ∀ v, RelV Ψ β (fget s.top t) v → v = .bool b) : a.tmps[t]? = some (.bool b) := by
  have h1 := hr _ (RelL_get _ _ hfr.2 t)
  rw [getD_eq] at h1
  cases hx : a.tmps[t]? with
  | none => rw [hx] at h1; simp [undef] at h1
  | some x => rw [hx] at h1; simp at h1; rw [h1]

theorem put_some_rel {s : St} {t : Tmp} {av : AV} {v : Value} (hf : RelF Ψ β (s.top :: s.below) (a :: As)) (ht : a.tmps[t]? = some v) (hv : RelV Ψ β av v) :
    RelF Ψ β ((s.put (some t) av).top :: (s.put (some t) av).below) (a :: As) := by
  have := RelF_put (d := some t) hf hv
  have e : a.put (some t) v = a := by
    simp only [Act.put]
    cases a with
    | mk tmps defers =>
      simp only [Act.mk.injEq, and_true]
      apply Array.ext'
      simp only [Array.toList_setIfInBounds]
      apply List.set_getElem?_self' 
      simpa using ht
  rwa [e] at this
where
  List.set_getElem?_self' {l : List Value} {i : Nat} {v : Value} (h : l[i]? = some v) : l.set i v = l := by
    apply List.ext_getElem?
    intro j
    by_cases hj : i = j
    · subst hj
      have hlt : i < l.length := by
        rcases Nat.lt_or_ge i l.length with h' | h'
        · exact h'
        · rw [List.getElem?_eq_none h'] at h; cases h
      rw [List.getElem?_set_self hlt, h]
    · rw [List.getElem?_set_ne hj]

theorem aops_sound {call : CallT} (hc : CallSound C call) {m : Mode} (all : Array Oper) {Q : Exit → Act → World → Prop} : ∀ (rest : List Oper) {s : St} {k : St → Prop} {Ψ : Pr} {β : List Value} {a : Act} {w : World}, aops C call m all rest s k →
    Ext B Ψ0 Ψ → InvH B w0 Ψ β s.heap w → RelF Ψ β (s.top :: s.below) (a :: As) → Same W a0 a → (∀ o ∈ rest, ∀ t, o.dst = some t → t ∈ W) → (∀ a w, PostC B w0 Ψ0 As W a0 k a w → Q .normal a w) → wpList C.P all Q rest a w
  | [], s, k, Ψ, β, a, w, hk, hE, hi, hf, hS, hW, hQ => hQ a w ⟨Ψ, β, s, hE, hi, hf, hS, hk⟩
  | o :: rest, s, k, Ψ, β, a, w, hk, hE, hi, hf, hS, hW, hQ => by
    have hWo := hW o (by simp)
    have hWr : ∀ o ∈ rest, ∀ t, o.dst = some t → t ∈ W := fun o' ho' => hW o' (by simp [ho'])
    have hfr := frame_of hf
    -- it runs
    have run : ∀ {s' : St}, astep C call o s' (fun s'' => aops C call m all rest s'' k) → s'.heap = s.heap → RelF Ψ β (s'.top :: s'.below) (a :: As) → o.wp C.P a w (wpList C.P all Q rest) Q := by
      intro s' hst hh hf'
      have hw := astep_sound (Ψ0 := Ψ0) (W := W) (a0 := a0) hc hst hE (by rw [hh]; exact hi) hf' hS hWo (Q := Q)
      refine Oper.wp_mono (fun a' w' hp => ?_) hw
      obtain ⟨Ψ', β', s'', hE', hi', hf'', hS', hk'⟩ := hp
      exact aops_sound hc all rest hk' hE' hi' hf'' hS' hWr hQ
    -- it is passed over
    have skip : ∀ {s' : St}, aops C call m all rest (s'.put o.dst .und) k → s'.heap = s.heap → RelF Ψ β (s'.top :: s'.below) (a :: As) → wpList C.P all Q rest (a.put o.dst undef) w := by
      intro s' hst hh hf'
      exact aops_sound hc all rest hst hE (by rw [put_heap, hh]; exact hi) (RelF_put hf' rfl) (hS.put hWo) hWr hQ
    unfold aops at hk
    unfold wpList
    split at hk
    · rename_i hgd
      rw [if_pos (by simp [Region.wanted, hgd])]
      exact .inl (run hk rfl hf)
    · rename_i j want hgd
      split at hk
      · exact hk.elim
      · rename_i t hgt
        have hwant : ∀ b : Bool, a.tmps[t]? = some (.bool b) → Region.wanted o (yielded all a.tmps) = (b == want) := by
          intro b hb
          simp [Region.wanted, hgd, yielded_of hgt, hb]
        split at hk
        · rename_i htt
          have hb := guard_bool (t := t) (b := true) hfr (by rw [htt]; exact fun _ h => h)
          split at hk
          · rw [if_pos (by rw [hwant _ hb]; rfl)]; exact .inl (run hk rfl hf)
          · rw [if_neg (by rw [hwant _ hb]; simp)]; exact skip hk rfl hf
        · rename_i hff
          have hb := guard_bool (t := t) (b := false) hfr (by rw [hff]; exact fun _ h => h)
          split at hk
          · rw [if_pos (by rw [hwant _ hb]; rfl)]; exact .inl (run hk rfl hf)
          · rw [if_neg (by rw [hwant _ hb]; simp)]; exact skip hk rfl hf
        · rename_i hu
          have hnw : Region.wanted o (yielded all a.tmps) = false := by
            have h1 := RelL_get _ _ hfr.2 t
            rw [hu] at h1
            have h2 : (a.tmps[t]?).getD undef = undef := by rw [← getD_eq]; exact h1
            simp only [Region.wanted, hgd, yielded_of hgt]
            cases hx : a.tmps[t]? with
            | none => simp
            | some x => rw [hx] at h2; simp at h2; subst h2; simp [undef]
          rw [if_neg (by rw [hnw]; simp)]
          exact skip hk rfl hf
        · rename_i b hbv
          have hb := guard_bool (t := t) (b := b) hfr (by rw [hbv]; exact fun _ h => rv_bool.1 h)
          split at hk
          · cases b with
            | true =>
              rw [if_pos (by rw [hwant _ hb]; rfl)]
              exact .inl (run ((splitB_sound hk).1 rfl) rfl (put_some_rel hf hb rfl))
            | false =>
              rw [if_neg (by rw [hwant _ hb]; simp)]
              exact skip ((splitB_sound hk).2 rfl) rfl (put_some_rel hf hb rfl)
          · cases b with
            | true =>
              rw [if_neg (by rw [hwant _ hb]; simp)]
              exact skip ((splitB_sound hk).1 rfl) rfl (put_some_rel hf hb rfl)
            | false =>
              rw [if_pos (by rw [hwant _ hb]; rfl)]
              exact .inl (run ((splitB_sound hk).2 rfl) rfl (put_some_rel hf hb rfl))
        · exact hk.elim

end Go.AM
