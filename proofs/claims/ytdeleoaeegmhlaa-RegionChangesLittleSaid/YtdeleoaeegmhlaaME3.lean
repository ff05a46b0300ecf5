import Derived.Test.YtdeleoaeegmhlaaME2
import Derived.Maps.RangeRun
import Derived.Laws.Cover3
import Derived.RangeFuncRecord
import Derived.RangeFuncCalls
import Derived.TacticsIn
import Derived.OrdersIn
namespace Go.AM
set_option linter.unusedVariables false
open Go.RowKit Go.MapKept

variable {B : Nat → Prop} {w0 : World} {C : Ctx} {Ψ Ψ0 : Pr} {β : List Value} {h : List Blk} {w w' : World} {fr : List AV} {a a0 : Act} {As : List Act} {W : List Nat}

/-! ### Lists of operations -/
/-- The slots outside of W are what they were; marks may have come, of blocks of which nothing was promised. -/
def Same (Ψ0 : Pr) (W : List Nat) (a0 a : Act) : Prop :=
  (a.tmps.size = a0.tmps.size ∧ ∀ i, i ∉ W → a.tmps[i]? = a0.tmps[i]?) ∧ ∃ ds : List Nat, a.defers = ds.map mkD ++ a0.defers ∧ ∀ D ∈ ds, Ψ0 (dAddr D) = none

theorem Same.refl (Ψ0 : Pr) (W : List Nat) (a : Act) : Same Ψ0 W a a := ⟨⟨rfl, fun _ _ => rfl⟩, [], rfl, by simp⟩
theorem Same.trans {a b c : Act} {Ψ1 : Pr} (hle : PLe Ψ0 Ψ1) (h : Same Ψ0 W a b) (h' : Same Ψ1 W b c) : Same Ψ0 W a c := by
  obtain ⟨⟨h1, h2⟩, ds, h3, h4⟩ := h
  obtain ⟨⟨g1, g2⟩, es, g3, g4⟩ := h'
  refine ⟨⟨g1.trans h1, fun i hi => (g2 i hi).trans (h2 i hi)⟩, es ++ ds, by rw [g3, h3]; simp, fun D hD => ?_⟩
  rcases List.mem_append.1 hD with hD | hD
  · cases hp : Ψ0 (dAddr D) with
    | none => rfl
    | some v => have := hle _ _ hp; rw [g4 D hD] at this; cases this
  · exact h4 D hD
theorem Same.put {d : Option Tmp} {v : Value} (hs : Same Ψ0 W a0 a) (hd : ∀ t, d = some t → t ∈ W) : Same Ψ0 W a0 (a.put d v) := by
  cases d with
  | none => exact hs
  | some t =>
    obtain ⟨⟨h1, h2⟩, h3⟩ := hs
    refine ⟨⟨by simpa [Act.put] using h1, fun i hi => ?_⟩, h3⟩
    have : t ≠ i := fun e => hi (e ▸ hd t rfl)
    simp only [Act.put]
    rw [Array.getElem?_setIfInBounds_ne this]
    exact h2 i hi

/-- Nothing is fenced in; perhaps in a round. -/
def Fw (ro : Option Nat) : Fence := { Fence.wide with round := ro }
theorem callsIn_w {P : Program} {f : FuncId} {args : Array Value} {R : Ending → World → Prop} (ro : Option Nat) (n : Nat) (h : Calls P f args w R) : CallsIn (Fw ro) n P f args w R := by
  cases ro with
  | none => exact callsIn_wide.2 h
  | some l => exact CallsIn.inRound l (callsIn_wide.2 h)

/-- What stands behind a piece of code: the abstract state fits, and of it k holds. -/
def PostC (C : Ctx) (B : Nat → Prop) (w0 : World) (Ψ0 : Pr) (As : List Act) (W : List Nat) (a0 : Act) (k : St → Prop) (a : Act) (w : World) : Prop :=
  ∃ Ψ β s, Ext B Ψ0 Ψ ∧ InvH C.P B w0 Ψ β s.heap w ∧ RelF Ψ β (s.top :: s.below) (a :: As) ∧ Same Ψ0 W a0 a ∧ k s

def CallSound (C : Ctx) (call : CallT) : Prop :=
  (∀ (j : Nat) (avs : List AV) (s : St) (k : AV → St → Prop), call (.yld j) avs s k → ∀ (B : Nat → Prop) (w0 : World) (Ψ : Pr) (β : List Value) (As : List Act) (vs : List Value) (w : World),
    InvH C.P B w0 Ψ β s.heap w → RelF Ψ β (s.top :: s.below) As → RelL Ψ β avs vs →
    ∃ l r, β[j]? = some (yldV l) ∧ w.heap[l]? = some (.loop r) ∧ vs.length = r.params.size ∧
      RoundIn Fence.wide 0 C.P l r.fn ((r.params.zip vs.toArray).foldl (fun tmps (t, a) => tmps.setIfInBounds t a) r.tmps) r.assign r.body w
        fun e w' => ∃ v Ψ' β' av s', e = .returned v ∧ Ext B Ψ Ψ' ∧ InvH C.P B w0 Ψ' β' s'.heap w' ∧ RelF Ψ' β' (s'.top :: s'.below) As ∧ RelV Ψ' β' av v ∧ k av s') ∧
  ∀ (f : FuncId) (avs : List AV) (s : St) (k : AV → St → Prop), call (.fn f) avs s k → enterOk C f = true → ∀ (B : Nat → Prop) (w0 : World) (Ψ : Pr) (β : List Value) (As : List Act) (vs : List Value) (w : World),
    InvH C.P B w0 Ψ β s.heap w → RelF Ψ β (s.top :: s.below) As → RelL Ψ β avs vs →
    Calls C.P f vs.toArray w fun e w' => ∃ v Ψ' β' av s', e = .returned v ∧ Ext B Ψ Ψ' ∧ InvH C.P B w0 Ψ' β' s'.heap w' ∧ RelF Ψ' β' (s'.top :: s'.below) As ∧ RelV Ψ' β' av v ∧ k av s'

theorem RelF_put {Ψ' : Pr} {β' : List Value} {s : St} {d : Option Tmp} {av : AV} {v : Value} (hf : RelF Ψ' β' (s.top :: s.below) (a :: As)) (hv : RelV Ψ' β' av v) :
    RelF Ψ' β' ((s.put d av).top :: (s.put d av).below) (a.put d v :: As) := by
  obtain ⟨a1, as', e, ⟨h1, h2⟩, h3⟩ := hf
  simp only [List.cons.injEq] at e
  obtain ⟨rfl, rfl⟩ := e
  cases d with
  | none => exact ⟨_, _, rfl, ⟨h1, h2⟩, h3⟩
  | some t =>
    refine ⟨_, _, rfl, ⟨h1, ?_⟩, h3⟩
    simp only [St.put, Act.put]
    have := RelL_set hv _ _ t h2
    simpa using this

theorem put_heap (s : St) (d : Option Tmp) (av : AV) : (s.put d av).heap = s.heap := by cases d <;> rfl

theorem frame_of {s : St} (hf : RelF Ψ β (s.top :: s.below) (a :: As)) : RelFr Ψ β s.top a := by
  obtain ⟨a1, as', e, h1, h3⟩ := hf
  simp only [List.cons.injEq] at e
  obtain ⟨rfl, rfl⟩ := e
  exact h1

theorem enterOk_run {g : FuncId} (hg : enterOk C g = true) (args : Array Value) (w : World) : (callFunc g args).run C.P w = .ok (.enter g args) w := by
  unfold enterOk at hg
  split at hg
  · rename_i fn hfn
    simp only [Bool.and_eq_true, Bool.not_eq_true', beq_eq_false_iff_ne] at hg
    obtain ⟨h1, h2⟩ := hg
    simp [callFunc, hfn, h2]
    intro hn
    rw [hn] at h1
    simp at h1
  · cases hg

theorem op_enter {o : Oper} {f : Operand} {args : Array Operand} {ats : Array TypeId} {g : FuncId} {vs : List Value} (ho : o.op = .call { callee := .value f, args, argTypes := ats }) (hf : a.eval f = .func (.func g) #[] vs.toArray) (hg : enterOk C g = true) :
    (execOp a.eval o).run C.P w = .ok (.enter g (args.toList.map a.eval ++ vs).toArray) w := by
  have e : (args.toList.map a.eval ++ vs).toArray = #[] ++ args.map a.eval ++ vs.toArray := by
    apply Array.ext'
    simp
  have := enterOk_run hg (args.map a.eval ++ vs.toArray) w
  simp only [execOp, ho, resolve, hf, Deferred.ofValue]
  rw [e]
  simpa [invoke] using this

theorem op_enterB {o : Oper} {f : Operand} {args : Array Operand} {ats : Array TypeId} {g : FuncId} {vs : List Value} (ho : o.op = .call { callee := .value f, args, argTypes := ats }) (hf : a.eval f = .func (.func g) vs.toArray #[]) (hg : enterOk C g = true) :
    (execOp a.eval o).run C.P w = .ok (.enter g (vs ++ args.toList.map a.eval).toArray) w := by
  have e : (vs ++ args.toList.map a.eval).toArray = vs.toArray ++ args.map a.eval ++ #[] := by
    apply Array.ext'
    simp
  have := enterOk_run hg (vs.toArray ++ args.map a.eval) w
  simp only [execOp, ho, resolve, hf, Deferred.ofValue]
  rw [e]
  simpa [invoke] using this

theorem op_yield {o : Oper} {f : Operand} {args : Array Operand} {ats : Array TypeId} {l : Nat} {r : Loop} (ho : o.op = .call { callee := .value f, args, argTypes := ats }) (hf : a.eval f = yldV l)
    (hh : w.heap[l]? = some (.loop r)) (hn : (args.toList.map a.eval).length = r.params.size) :
    (execOp a.eval o).run C.P w = .ok (.round l r.fn ((r.params.zip (args.toList.map a.eval).toArray).foldl (fun tmps (t, a) => tmps.setIfInBounds t a) r.tmps) r.assign r.body) w := by
  have e : (args.toList.map a.eval).toArray = #[] ++ args.map a.eval ++ #[] := by
    apply Array.ext'
    simp
  have hs : (#[] ++ args.map a.eval ++ #[]).size = r.params.size := by simpa using hn
  rw [e]
  simp only [execOp, ho, resolve, hf, Deferred.ofValue, yldV]
  have := run_yield (P := C.P) hh hs
  simpa [invoke] using this

theorem needs_elim {p : Option Prop} {q : Prop} (h : needs p q) : (∀ p', p = some p' → p') ∧ q := by
  cases p with
  | none => exact ⟨fun _ e => by simp at e, h⟩
  | some p => exact ⟨fun p' e => Option.some.inj e ▸ h.1, h.2⟩

theorem run_nilCmp {xt e : TypeId} (hu : C.P.underlying xt = some (.slice e)) (x y : Operand) (ad : Option Addr) (l c : Nat) :
    (do eqGuard .eql xt x y (.slice ad l c) (.slice none 0 0); binOp .eql xt (.slice ad l c) (.slice none 0 0) : Sem Value).run C.P w = .ok (.bool ad.isNone) w ∧
    (do eqGuard .neq xt x y (.slice ad l c) (.slice none 0 0); binOp .neq xt (.slice ad l c) (.slice none 0 0) : Sem Value).run C.P w = .ok (.bool (!ad.isNone)) w := by
  constructor <;> simp [eqGuard, binOp, run_equal_slice_nil w xt e ad l c hu]

theorem nilCmp_sound {o : Oper} {s : St} {k : St → Prop} (hk : anilCmp C o s k) (hE : Ext B Ψ0 Ψ) (hi : InvH C.P B w0 Ψ β s.heap w) (hf : RelF Ψ β (s.top :: s.below) (a :: As))
    (hS : Same Ψ0 W a0 a) (hW : ∀ t, o.dst = some t → t ∈ W) : ∃ v, (execOp a.eval o).run C.P w = .ok (.value v) w ∧ PostC C B w0 Ψ0 As W a0 k (a.put o.dst v) w := by
  have hfr := frame_of hf
  obtain ⟨dst, op, ty, pos, after, guard⟩ := o
  unfold anilCmp at hk
  simp only at hk hW
  split at hk
  · rename_i op xt x y yt
    split at hk
    · rename_i tid he hy
      have hyv : a.eval y = .slice none 0 0 := by
        have := ev_rel hfr y
        rw [hy] at this
        exact this
      split at hk
      · rename_i e xs hl
        obtain ⟨ad, cap, hxv, _, _, h3⟩ := asList_rel hi (ev_rel hfr x) hl
        obtain ⟨r1, r2⟩ := run_nilCmp (C := C) (w := w) (underlying_slice he) x y ad xs.length cap
        have hnil : ad.isNone = true → xs = [] := by
          intro h
          rcases h3 with h3 | ⟨_, g, off, _, rfl, _⟩
          · exact h3
          · cases h
        split at hk
        · refine ⟨.bool ad.isNone, ?_, Ψ, β, _, hE, by rw [put_heap]; exact hi, RelF_put hf (rv_bool.2 rfl), hS.put hW, hk ad.isNone hnil⟩
          simp only [execOp, hxv, hyv]
          rw [then_value r1]
        · refine ⟨.bool (!ad.isNone), ?_, Ψ, β, _, hE, by rw [put_heap]; exact hi, RelF_put hf (rv_bool.2 rfl), hS.put hW, hk ad.isNone hnil⟩
          simp only [execOp, hxv, hyv]
          rw [then_value r2]
        · exact hk.elim
      · exact hk.elim
    · exact hk.elim
  · exact hk.elim

theorem lookup_sound {o : Oper} {s : St} {k : St → Prop} (hk : alookup C o s k) (hE : Ext B Ψ0 Ψ) (hi : InvH C.P B w0 Ψ β s.heap w) (hf : RelF Ψ β (s.top :: s.below) (a :: As))
    (hS : Same Ψ0 W a0 a) (hW : ∀ t, o.dst = some t → t ∈ W) : ∃ v, (execOp a.eval o).run C.P w = .ok (.value v) w ∧ PostC C B w0 Ψ0 As W a0 k (a.put o.dst v) w := by
  have hfr := frame_of hf
  obtain ⟨dst, op, ty, pos, after, guard⟩ := o
  unfold alookup at hk
  simp only at hk hW
  split at hk
  · rename_i t m i
    split at hk
    · exact hk.elim
    · rename_i et him
      split at hk
      · rename_i j x hj hx
        split at hk
        · rename_i es z hg hz
          obtain ⟨kt, hu, hku⟩ := intMap_spec him
          have hm := ev_rel hfr m
          rw [hj] at hm
          have hix := ev_rel hfr i
          rw [hx] at hix
          obtain ⟨g, ms, cl, hmv, hβ, hh, hB, hes⟩ := kmap_at hi hg hm
          obtain ⟨hiv, _⟩ := rv_int.1 hix
          obtain ⟨r, hfind, _, hfk⟩ := findNow_k x es ms.toList 0 hes
          obtain ⟨ti, zv, hti, htz, rfl⟩ := zero_spec hz
          have hr := hfk _ _ hk
          cases r with
          | none =>
            refine ⟨zv, ?_, Ψ, β, _, hE, by rw [put_heap]; exact hi, RelF_put hf (ofV_rel zv), hS.put hW, hr⟩
            simp [execOp, Instr.lookup, hmv, hiv, run_underlying hu, MapKept.run_getObj_map hh, run_checkKey hku (k := .int .i64 x) rfl, run_findKey hku hfind, zeroValue, typeInfo, hti, htz, Result.andThen]
          | some p =>
            obtain ⟨i0, v⟩ := p
            obtain ⟨f, rfl, hkf⟩ := hr
            refine ⟨fnV f, ?_, Ψ, β, _, hE, by rw [put_heap]; exact hi, RelF_put (av := .fn f []) hf ⟨[], rfl, rfl⟩, hS.put hW, hkf⟩
            simp [execOp, Instr.lookup, hmv, hiv, run_underlying hu, MapKept.run_getObj_map hh, run_checkKey hku (k := .int .i64 x) rfl, run_findKey hku hfind, Result.andThen]
        · exact hk.elim
      · exact hk.elim
  · exact hk.elim

/-! ### Ranges over maps -/
theorem encE_inj {x y : MapEntry} (h : encE x = encE y) : x = y := by
  obtain ⟨k, v, b⟩ := x
  obtain ⟨k', v', b'⟩ := y
  simp only [encE, Value.agg.injEq, Array.mk.injEq, List.cons.injEq, Value.int.injEq, and_true, true_and] at h
  obtain ⟨rfl, rfl, hb⟩ := h
  have : b = b' := by omega
  rw [this]
theorem encM_inj {ms ms' : Array MapEntry} {cl cl' : Nat} (h : encM ms cl = encM ms' cl') : ms = ms' ∧ cl = cl' := by
  simp only [encM, Value.tuple.injEq, Array.mk.injEq, List.cons.injEq, Value.agg.injEq, Value.int.injEq, and_true, true_and] at h
  obtain ⟨h1, h2⟩ := h
  refine ⟨?_, by omega⟩
  have h3 := congrArg Array.toList h1
  rw [Array.toList_map, Array.toList_map] at h3
  exact Array.toList_inj.1 ((List.map_inj_right fun x y => encE_inj).1 h3)
theorem mapR_len {e : Ty} : ∀ {m : List (Int × e.den)} {l : List MapEntry}, mapR Ψ e m l → m.length = l.length
  | [], l, h => by
    have h : l = [] := h
    subst h
    rfl
  | _ :: _, _, ⟨_, l', rfl, _, _, _, h⟩ => by simp [mapR_len h]
theorem mapR_get {e : Ty} : ∀ {m : List (Int × e.den)} {l : List MapEntry} {i : Nat} {x : MapEntry}, mapR Ψ e m l → l[i]? = some x →
    i < m.length ∧ x.key = .int .i64 (m.getD i (0, dflt e)).1 ∧ IntKind.i64.has (m.getD i (0, dflt e)).1 ∧ rv Ψ e (m.getD i (0, dflt e)).2 x.val ∧ mapR Ψ e (m.eraseIdx i) (l.eraseIdx i)
  | [], l, i, x, h, hx => by
    have h : l = [] := h
    subst h
    simp at hx
  | p :: m, _, 0, x, ⟨u, l, rfl, h1, h2, h3, h4⟩, hx => by
    simp only [List.getElem?_cons_zero, Option.some.injEq] at hx
    subst hx
    exact ⟨by simp, h1, h2, h3, h4⟩
  | p :: m, _, i + 1, x, ⟨u, l, rfl, h1, h2, h3, h4⟩, hx => by
    obtain ⟨g1, g2, g3, g4, g5⟩ := mapR_get h4 (by simpa using hx)
    exact ⟨by simpa using g1, by simpa using g2, by simpa using g3, by simpa using g4, u, _, rfl, h1, h2, h3, g5⟩
theorem erase_born : ∀ {l : List MapEntry} {i : Nat} {x : MapEntry}, (l.map (·.born)).Nodup → l[i]? = some x → l.filter (fun e => !(e.born == x.born)) = l.eraseIdx i
  | [], _, _, _, hx => by simp at hx
  | a :: l, 0, x, hn, hx => by
    simp only [List.getElem?_cons_zero, Option.some.injEq] at hx
    subst hx
    simp only [List.map_cons, List.nodup_cons] at hn
    rw [List.filter_cons_of_neg (by simp), List.eraseIdx_cons_zero]
    refine List.filter_eq_self.2 fun y hy => ?_
    have : y.born ≠ a.born := fun e => hn.1 (by rw [← e]; exact List.mem_map.2 ⟨y, hy, rfl⟩)
    simpa using this
  | a :: l, i + 1, x, hn, hx => by
    simp only [List.map_cons, List.nodup_cons] at hn
    have hx : l[i]? = some x := by simpa using hx
    have hm : x ∈ l := List.mem_of_getElem? hx
    have : a.born ≠ x.born := fun e => hn.1 (by rw [e]; exact List.mem_map.2 ⟨x, hm, rfl⟩)
    rw [List.filter_cons_of_pos (by simpa using this), List.eraseIdx_cons_succ, erase_born hn.2 hx]
theorem left_push {es : List MapEntry} {seen : Array Nat} {i : Nat} {x : MapEntry} (hn : (es.map (·.born)).Nodup) (hx : (leftL es seen)[i]? = some x) : leftL es (seen.push x.born) = (leftL es seen).eraseIdx i := by
  have h1 : ((leftL es seen).map (·.born)).Nodup := (List.Sublist.map _ List.filter_sublist).nodup hn
  rw [← erase_born h1 hx]
  unfold leftL
  rw [List.filter_filter]
  refine List.filter_congr fun y _ => ?_
  rw [Bool.eq_iff_iff]
  simp only [Bool.not_eq_true', Bool.and_eq_true, ← Bool.not_eq_true, Array.contains_iff_mem, Array.mem_push, beq_iff_eq, not_or]
  exact ⟨fun h => ⟨h.2, h.1⟩, fun h => ⟨h.2, h.1⟩⟩
theorem left_array (es : Array MapEntry) (seen : Array Nat) : (leftOf es seen).toList = leftL es.toList seen := by
  unfold leftOf leftL
  rw [Array.toList_filter]

theorem BlkR_more {P : Program} {Ψ' : Pr} (hle : PLe Ψ Ψ') {k : Nat} {b : Blk} (h : BlkR P B Ψ β w k b) : BlkR P B Ψ' β w k b := by
  cases b with
  | gone => trivial
  | log ys Y own xs => exact BlkR_log h (fun _ h => h) hle.m (Nat.le_refl _) fun _ _ => rfl
  | lof ys Y own => exact BlkR_lof h (fun _ h => h) hle.m (Nat.le_refl _) fun _ _ => rfl
  | cells cs =>
    obtain ⟨g, c, e, h1, h2, h3, h4, h5⟩ := h
    exact ⟨g, c, e, h1, h2, h3, RelL_mono hle (fun _ _ h => h) _ _ h4, h5⟩
  | grow tid e xs =>
    refine h.imp id ?_
    rintro ⟨g, cap, cur, h1, h2, h3, h4, h5, h6, h7, h8⟩
    exact ⟨g, cap, cur, h1, h2, h3, h4, h5, h6, h7, rdL_mono (reads_mono hle e) _ _ h8⟩
  | kmap es => exact h
  | dmap e m =>
    obtain ⟨g, ms, cl, h1, h2, h3, h4, h5⟩ := h
    exact ⟨g, ms, cl, h1, h2, h3, mapR_mono hle h4, h5⟩
  | diter e last left =>
    obtain ⟨g, gm, ms, cl, seen, h1, h2, h3, h4, h5, h6⟩ := h
    exact ⟨g, gm, ms, cl, seen, h1, h2, h3, hle _ _ h4, mapR_mono hle h5, h6.1, h6.2.1, h6.2.2.imp id fun ⟨p, x, s', a1, a2, a3, a4, a5, a6⟩ => ⟨p, x, s', a1, a2, a3, a4, a5, rv_le hle a6⟩⟩
  | loop f p ph ts =>
    obtain ⟨l, r, h1, h2, h3, h4, h5, h6, h7, h8⟩ := h
    exact ⟨l, r, h1, h2, h3, h4, RelL_mono hle (fun _ _ h => h) _ _ h5, hle _ _ h6, fun i v hv => hle _ _ (h7 i v hv), h8⟩

/-- A map is promised from now on. -/
def giveM (Ψ : Pr) (gm : Nat) (v : Value) : Pr := fun ad => if ad = mAddr gm then some v else Ψ ad

theorem InvH.giveMap {j gm cl : Nat} {ms : Array MapEntry} {e : Ty} {m : List (Int × e.den)} (hi : InvH C.P B w0 Ψ β h w) (hj : h[j]? = some (.dmap e m)) (hβ : β[j]? = some (.map (some gm))) (hm : w.heap[gm]? = some (.map ms cl)) (hB : ¬ B gm) :
    PLe Ψ (giveM Ψ gm (encM ms cl)) ∧ InvH C.P B w0 (giveM Ψ gm (encM ms cl)) β (h.set j .gone) w := by
  have hno : Ψ (mAddr gm) = none := hi.free j _ gm hj hβ (mAddr gm) rfl (.inr (.inl rfl))
  have hle : PLe Ψ (giveM Ψ gm (encM ms cl)) := fun ad v hv => by
    unfold giveM
    split
    · rename_i e'; rw [e', hno] at hv; cases hv
    · exact hv
  have at_ : ∀ {k : Nat} {b : Blk}, (h.set j .gone)[k]? = some b → (b = .gone) ∨ (k ≠ j ∧ h[k]? = some b) := fun {k b} hk => by
    by_cases hkj : k = j
    · subst hkj
      rw [List.getElem?_set_self (hget_lt hj)] at hk
      simp at hk
      exact .inl hk.symm
    · rw [List.getElem?_set_ne (Ne.symm hkj)] at hk
      exact .inr ⟨hkj, hk⟩
  refine ⟨hle, hi.low, hi.size, fun ad v hv => ?_, fun ad v hv hs => ?_, by simp [hi.len], hi.one, fun k b hk => ?_, fun k b g hk hc ad had hsp => ?_, fun i k bi bk g hik hbi hbk hci hck => ?_⟩
  · unfold giveM at hv
    split at hv
    · rename_i e'
      simp only [Option.some.injEq] at hv
      subst e' hv
      exact ⟨ms, cl, hm, rfl⟩
    · exact hi.prom ad v hv
  · unfold giveM at hv
    split at hv
    · rename_i e'; subst e'; exact hB
    · exact hi.own ad v hv hs
  · rcases at_ hk with rfl | ⟨_, h1⟩
    · trivial
    · exact BlkR_more hle (hi.blk k b h1)
  · rcases at_ hk with rfl | ⟨hkj, h1⟩
    · exact hc.elim
    · unfold giveM
      split
      · rename_i e'
        subst e'
        have hg : gm = g := had
        subst hg
        exact (hi.sep k j _ _ gm hkj h1 hj hc hβ).elim
      · exact hi.free k b g h1 hc ad had hsp
  · rcases at_ hbi with rfl | ⟨_, h1⟩
    · exact hci.elim
    · rcases at_ hbk with rfl | ⟨_, h2⟩
      · exact hck.elim
      · exact hi.sep i k bi bk g hik h1 h2 hci hck

theorem diter_at {j : Nat} {e : Ty} {last left : List (Int × e.den)} {v : Value} (hi : InvH C.P B w0 Ψ β h w) (hg : hget h j = .diter e last left) (hv : RelV Ψ β (.own j 0) v) :
    ∃ g gm ms cl seen, v = .pointer (some ⟨g, 0, none⟩) ∧ β[j]? = some (.pointer (some ⟨g, 0, none⟩)) ∧ w.heap[g]? = some (.mapIter (some gm) cl seen cl) ∧ ¬ B g ∧ Ψ (mAddr gm) = some (encM ms cl) ∧ w.heap[gm]? = some (.map ms cl) ∧ mapR Ψ e left (leftL ms.toList seen) ∧
      (ms.toList.map (·.born)).Nodup ∧ (∀ x ∈ ms.toList, x.born < cl) ∧ (last = [] ∨ ∃ (p : Int × e.den) (x : MapEntry) (seen' : Array Nat), last = [p] ∧ seen = seen'.push x.born ∧ x ∈ ms.toList ∧ x.key = .int .i64 p.1 ∧ IntKind.i64.has p.1 ∧ rv Ψ e p.2 x.val) := by
  obtain ⟨g, gm, ms, cl, seen, h1, h2, h3, h4, h5⟩ := hi.blk j _ (hget_some hg (by simp))
  obtain ⟨g', hv1, hv2⟩ := hv
  rw [h1] at hv1
  simp only [Option.some.injEq, Value.pointer.injEq, Addr.mk.injEq, and_true] at hv1
  subst hv1
  obtain ⟨ms', cl', hm1, hm2⟩ := hi.prom _ _ h4
  obtain ⟨rfl, rfl⟩ := encM_inj hm2
  exact ⟨g, gm, ms, cl, seen, hv2, h1, h2, h3, h4, hm1, h5⟩

theorem arange_sound {o : Oper} {s : St} {k : St → Prop} (hk : arange C o s k) (hE : Ext B Ψ0 Ψ) (hi : InvH C.P B w0 Ψ β s.heap w) (hf : RelF Ψ β (s.top :: s.below) (a :: As))
    (hS : Same Ψ0 W a0 a) (hW : ∀ t, o.dst = some t → t ∈ W) : ∃ v w', (execOp a.eval o).run C.P w = .ok (.value v) w' ∧ PostC C B w0 Ψ0 As W a0 k (a.put o.dst v) w' := by
  have hfr := frame_of hf
  obtain ⟨dst, op, ty, pos, after, guard⟩ := o
  unfold arange at hk
  simp only at hk hW
  split at hk
  · rename_i t m
    split at hk
    · rename_i et j him hmj
      split at hk
      · rename_i e mm hg
        have hm := ev_rel hfr m
        rw [hmj] at hm
        obtain ⟨kt, hu, hku⟩ := intMap_spec him
        obtain ⟨gm, ms, cl, hmv, hβ, hh, hB, hmr, hnd, hbn, hbc⟩ := dmap_at hi hg hm
        obtain ⟨hle, hi1⟩ := hi.giveMap (hget_some hg (by simp)) hβ hh hB
        have hE1 : Ext B Ψ (giveM Ψ gm (encM ms cl)) := ⟨hle, fun ad v hv => by
          unfold giveM at hv
          split at hv
          · rename_i e'; subst e'; exact .inr hB
          · exact .inl hv⟩
        have hn : (β ++ [Value.pointer (some ⟨w.heap.size, 0, none⟩)])[(s.heap.set j .gone).length]? = some (.pointer (some ⟨w.heap.size, 0, none⟩)) := by rw [List.length_set, ← hi.len]; simp
        have hi2 := hi1.push (w' := w.alloc (.mapIter (some gm) cl #[] cl)) (b := Blk.diter e [] mm) (u := .pointer (some ⟨w.heap.size, 0, none⟩)) ((Below.refl _ _).alloc (Nat.le_refl _) _) rfl
          ⟨w.heap.size, gm, ms, cl, #[], hn, heap_alloc_new w _, out_new hi.size, by unfold giveM; rw [if_pos rfl], by
            have e0 : leftL ms.toList #[] = ms.toList := List.filter_eq_self.2 fun x _ => by simp
            rw [e0]
            exact mapR_mono hle hmr, hbn, hbc, .inl rfl⟩ (fun g hc => by
            simp only [claims] at hc
            rw [hn] at hc
            simp at hc
            omega)
        refine ⟨.pointer (some ⟨w.heap.size, 0, none⟩), w.alloc (.mapIter (some gm) cl #[] cl), ?_, giveM Ψ gm (encM ms cl), β ++ [.pointer (some ⟨w.heap.size, 0, none⟩)], ({ s with heap := hset s.heap j .gone ++ [Blk.diter e [] mm] } : St).put dst (.own (hlen s.heap) 0), hE.trans hE1, ?_, RelF_put (RelF_mono hle (snoc_mono _) _ _ hf) (av := .own (hlen s.heap) 0) ?_, hS.put hW, hk⟩
        · simp only [execOp, hmv]
          rw [then_value (run_range_map w t kt et gm ms cl hu hh)]
        · rw [put_heap]
          simp only [hset_eq]
          exact hi2
        · refine ⟨w.heap.size, ?_, rfl⟩
          rw [hlen_eq, ← hi.len]
          simp
      · exact hk.elim
    · exact hk.elim
  · rename_i it
    split at hk
    · rename_i j hit
      split at hk
      · rename_i e last left hg
        have hm := ev_rel hfr it
        rw [hit] at hm
        obtain ⟨g, gm, ms, cl, seen, hv, hβ, hh, hB, hpr, hhm, hmr, hbn, hbc, _⟩ := diter_at hi hg hm
        have hlt := heap_lt hh
        rcases run_next_at (P := C.P) w ty g gm cl cl seen ms cl hh hhm hbc (Nat.le_refl _) with ⟨h0, hrun⟩ | ⟨x, hx, w1, hw1, hrun⟩
        · refine ⟨.tuple #[.bool false], w, ?_, Ψ, β, _, hE, by rw [put_heap]; exact hi, RelF_put (av := .tup [.ff]) hf ⟨[.bool false], rfl, .bool false, [], rfl, rfl, rfl⟩, hS.put hW, hk.1 ?_⟩
          · simp only [execOp, hv]
            rw [then_value hrun]
          · have h1 : (leftL ms.toList seen).length = 0 := by rw [← left_array]; simpa using h0
            have := mapR_len hmr
            exact List.length_eq_zero_iff.1 (by omega)
        · rw [left_array] at hx
          obtain ⟨i, hil, hix⟩ := List.getElem_of_mem hx
          have hix : (leftL ms.toList seen)[i]? = some x := by rw [List.getElem?_eq_getElem hil, hix]
          obtain ⟨g1, g2, g3, g4, g5⟩ := mapR_get hmr hix
          have hw1h : w1.heap = w.heap := by rcases hw1 with rfl | rfl <;> rfl
          have hsetb : (ChangeMaps.setBlock w1 g (.mapIter (some gm) cl (seen.push x.born) cl)).heap[g]? = some (.mapIter (some gm) cl (seen.push x.born) cl) := by
            show (w1.heap.setIfInBounds g _)[g]? = _
            rw [hw1h, Array.getElem?_setIfInBounds_self_of_lt hlt]
          have hoth : ∀ i, i ≠ g → (ChangeMaps.setBlock w1 g (.mapIter (some gm) cl (seen.push x.born) cl)).heap[i]? = w.heap[i]? := fun i hne => by
            show (w1.heap.setIfInBounds g _)[i]? = _
            rw [hw1h, Array.getElem?_setIfInBounds_ne (Ne.symm hne)]
          have hxm : x ∈ ms.toList := (List.mem_filter.1 hx).1
          have hi1 := hi.rewriteG (w' := ChangeMaps.setBlock w1 g (.mapIter (some gm) cl (seen.push x.born) cl)) (b' := Blk.diter e [left.getD i (0, dflt e)] (left.eraseIdx i)) (hget_some hg (by simp)) rfl (g := g) hβ
            ⟨by rcases hw1 with rfl | rfl <;> rfl, by rcases hw1 with rfl | rfl <;> rfl, by rcases hw1 with rfl | rfl <;> rfl, by
              show _ ≤ (w1.heap.setIfInBounds g _).size
              rw [Array.size_setIfInBounds, hw1h]
              exact Nat.le_refl _, fun i _ hne => hoth i fun e => hne (by rw [e])⟩ (fun g' h' => h')
            ⟨g, gm, ms, cl, seen.push x.born, hβ, hsetb, hB, hpr, by rw [left_push hbn hix]; exact g5, hbn, hbc, .inr ⟨_, x, seen, rfl, rfl, hxm, g2, g3, g4⟩⟩
          refine ⟨.tuple #[.bool true, x.key, x.val], ChangeMaps.setBlock w1 g (.mapIter (some gm) cl (seen.push x.born) cl), ?_, Ψ, β, ({ s with heap := hset s.heap j (Blk.diter e [left.getD i (0, dflt e)] (left.eraseIdx i)) } : St).put dst (.tup [.tt, .d (.int .i64) (left.getD i (0, dflt e)).1, .d e (left.getD i (0, dflt e)).2]), hE, ?_, RelF_put (av := .tup [.tt, .d (.int .i64) (left.getD i (0, dflt e)).1, .d e (left.getD i (0, dflt e)).2]) hf ?_, hS.put hW, hk.2 i g1⟩
          · simp only [execOp, hv]
            rw [then_value hrun]
          · rw [put_heap]
            simp only [hset_eq]
            exact hi1
          · exact ⟨[.bool true, x.key, x.val], rfl, .bool true, _, rfl, rfl, x.key, _, rfl, by rw [g2]; exact rv_int.2 ⟨rfl, g3⟩, x.val, _, rfl, g4, rfl⟩
      · exact hk.elim
    · exact hk.elim
  · rename_i it
    split at hk
    · rename_i j hit
      split at hk
      · rename_i e p left hg
        have hm := ev_rel hfr it
        rw [hit] at hm
        obtain ⟨g, gm, ms, cl, seen, hv, hβ, hh, hB, hpr, hhm, hmr, hbn, hbc, hla⟩ := diter_at hi hg hm
        rcases hla with hla | ⟨p', x, seen', hla, rfl, hxm, g2, g3, g4⟩
        · cases hla
        · simp only [List.cons.injEq, and_true] at hla
          subst hla
          refine ⟨.tuple #[x.key, x.val], w, ?_, Ψ, β, _, hE, by rw [put_heap]; exact hi, RelF_put (av := .tup [.d (.int .i64) p.1, .d e p.2]) hf ⟨[x.key, x.val], rfl, x.key, _, rfl, by rw [g2]; exact rv_int.2 ⟨rfl, g3⟩, x.val, _, rfl, g4, rfl⟩, hS.put hW, hk⟩
          simp only [execOp, hv]
          rw [then_value (run_entry_at w g gm cl seen' ms cl x hh hhm hxm hbn)]
      · exact hk.elim
    · exact hk.elim
  · exact hk.elim

theorem astep_sound {call : CallT} (hc : CallSound C call) {o : Oper} {s : St} {k : St → Prop} (hk : astep C call o s k) (hE : Ext B Ψ0 Ψ) (hi : InvH C.P B w0 Ψ β s.heap w) (hf : RelF Ψ β (s.top :: s.below) (a :: As))
    (hS : Same Ψ0 W a0 a) (hW : ∀ t, o.dst = some t → t ∈ W) {ro : Option Nat} {Q : Exit → Act → World → Prop} : o.wpIn (Fw ro) 0 C.P a w (PostC C B w0 Ψ0 As W a0 k) Q := by
  have hfr := frame_of hf
  have hnd : ∀ c, o.op ≠ .defer c := fun c hc => by
    unfold astep at hk
    rw [hc] at hk
    simp [aop, aext, anilCmp, isFrz, isLit, hc] at hk
  refine ⟨fun _ _ => trivial, ?_⟩
  rw [Oper.semAt_eq _ _ _ hnd]
  unfold astep at hk
  split at hk
  · unfold alit at hk
    split at hk
    · rename_i t len parts ho
      split at hk
      · rename_i r tid hr he
        obtain ⟨e, xs, us, tid', rfl, he', hrun, h2, hxl, hus, hle⟩ := buildSlice_run (C := C) (a := a) (fr := s.top) hi (fun p _ => ev_rel hfr p.2) hr
        have e1 : tid' = tid := by rw [he'] at he; exact Option.some.inj he
        subst e1
        simp only at hk
        split at hk
        · rename_i hl
          have hl : 1 ≤ len := Nat.le_of_ble_eq_true hl
          have hrun' : (execOp a.eval o).run C.P w = .ok (.value (.slice (some ⟨w.heap.size, 0, none⟩) len len)) (w.alloc (.cells us.toArray tid')) := by
            rw [execOp, ho]
            simp [hrun]
          rw [hrun']
          have hn : (β ++ [Value.slice (some ⟨w.heap.size, 0, none⟩) len len])[s.heap.length]? = some (.slice (some ⟨w.heap.size, 0, none⟩) len len) := by
            rw [← hi.len]; simp
          have hcl : ∀ g, claims (β ++ [Value.slice (some ⟨w.heap.size, 0, none⟩) len len]) s.heap.length g (.grow tid' e xs) → w.heap.size ≤ g := by
            rintro g ⟨n, cap, _, hc⟩
            rw [hn] at hc
            simp at hc
            omega
          have hblk : BlkR C.P B Ψ (β ++ [Value.slice (some ⟨w.heap.size, 0, none⟩) len len]) (w.alloc (.cells us.toArray tid')) s.heap.length (.grow tid' e xs) := by
            refine .inr ⟨w.heap.size, len, us.toArray, by rw [hn, hxl], by omega, out_new hi.size, heap_alloc_new w _, by omega, hle, by simp [hus], ?_⟩
            rw [hxl, List.toList_toArray, List.take_of_length_le (by omega)]
            exact h2
          have hi' := hi.push ((Below.refl _ _).alloc (Nat.le_refl _) _) rfl hblk hcl
          refine ⟨Ψ, β ++ [Value.slice (some ⟨w.heap.size, 0, none⟩) len len], { s with heap := s.heap ++ [Blk.grow tid' e xs] }.put o.dst (.sl (hlen s.heap)), hE, ?_, RelF_put (s := { s with heap := s.heap ++ [Blk.grow tid' e xs] }) (RelF_mono (PLe.refl _) (snoc_mono _) _ _ hf) ?_, hS.put hW, hk⟩
          · rw [put_heap]; exact hi'
          · refine ⟨?_, by simp [hole]⟩
            rw [hlen_eq]; exact hn
        · exact hk.elim
      · exact hk.elim
    · exact hk.elim
  split at hk
  · rename_i f args ats ho
    have hef := ev_rel hfr f
    split at hk
    · rename_i g cap hev
      split at hk
      · rename_i hg
        rw [hev] at hef
        obtain ⟨vs, hfv, hcap⟩ := hef
        rw [op_enter ho hfv hg]
        have hargs := evs_rel (Ψ := Ψ) (β := β) (fr := s.top) (a := a) args.toList fun x _ => ev_rel hfr x
        refine ⟨fun h => (by cases ro <;> cases h), (callsIn_w ro _ (hc.2 g _ s _ hk hg B w0 Ψ β (a :: As) _ w hi hf (RelL_append _ _ _ _ hargs hcap))).mono ?_⟩
        rintro e w' ⟨v, Ψ', β', av, s', rfl, hE', hi', hf', hv, hk'⟩
        exact ⟨Ψ', β', s'.put o.dst av, hE.trans hE', by rw [put_heap]; exact hi', RelF_put hf' hv, hS.put hW, hk'⟩
      · exact hk.elim
    · rename_i j hev
      have hargs := evs_rel (Ψ := Ψ) (β := β) (fr := s.top) (a := a) args.toList fun x _ => ev_rel hfr x
      obtain ⟨l, r, hβ, hh, hlen, hround⟩ := hc.1 j _ s _ hk B w0 Ψ β (a :: As) _ w hi hf hargs
      rw [hev] at hef
      obtain ⟨l', hβ', hfv⟩ := hef
      rw [hβ] at hβ'
      simp only [yldV, Option.some.injEq, Value.func.injEq, Fn.yield.injEq, and_true] at hβ'
      subst hβ'
      rw [op_yield ho hfv hh hlen]
      refine ⟨fun h => (by cases ro <;> cases h), RoundIn.mono (F := Fw ro) (n := 0) (by cases ro <;> exact hround) ?_⟩
      rintro e w' ⟨v, Ψ', β', av, s', rfl, hE', hi', hf', hv, hk'⟩
      exact ⟨Ψ', β', s'.put o.dst av, hE.trans hE', by rw [put_heap]; exact hi', RelF_put hf' hv, hS.put hW, hk'⟩
    · rename_i g first hev
      split at hk
      · rename_i hg
        rw [hev] at hef
        obtain ⟨vs, hfv, hcap⟩ := hef
        rw [op_enterB ho hfv hg]
        have hargs := evs_rel (Ψ := Ψ) (β := β) (fr := s.top) (a := a) args.toList fun x _ => ev_rel hfr x
        refine ⟨fun h => (by cases ro <;> cases h), (callsIn_w ro _ (hc.2 g _ s _ hk hg B w0 Ψ β (a :: As) _ w hi hf (RelL_append _ _ _ _ hcap hargs))).mono ?_⟩
        rintro e w' ⟨v, Ψ', β', av, s', rfl, hE', hi', hf', hv, hk'⟩
        exact ⟨Ψ', β', s'.put o.dst av, hE.trans hE', by rw [put_heap]; exact hi', RelF_put hf' hv, hS.put hW, hk'⟩
      · exact hk.elim
    · exact hk.elim
  · split at hk
    · rename_i r hr
      obtain ⟨hp, hk'⟩ := needs_elim hk
      obtain ⟨n, v, Ψ', β', w', hrun, hn, hE', hi', hf', hv⟩ := op_sound hi hf (fun x _ => ev_rel hfr x) hr hp
      rw [hrun]
      have hpost : PostC C B w0 Ψ0 As W a0 k (a.put o.dst v) w' := by
        refine ⟨Ψ', β', (s.apply r).put o.dst r.v, hE.trans hE', ?_, RelF_put ?_ hv, hS.put hW, hk'⟩
        · rw [put_heap]
          unfold St.apply
          cases hkl : r.kill with
          | none => rw [hkl] at hi'; exact hi'
          | some j => rw [hkl] at hi'; exact hi'
        · unfold St.apply
          cases hkl : r.kill with
          | none => rw [hkl] at hf'; exact hf'
          | some j => rw [hkl] at hf'; exact hf'
      rcases hn with rfl | ⟨rfl, rfl⟩
      · exact hpost
      · exact hpost
    · unfold aext at hk
      split at hk
      · unfold afreeze at hk
        split at hk
        · rename_i j hj
          split at hk
          · rename_i r hr
            obtain ⟨hp, hk'⟩ := needs_elim hk
            obtain ⟨Ψ1, hE1, hi1, hf1, _, _⟩ := freeze_sound hi hf j
            obtain ⟨n, v, Ψ', β', w', hrun, hn, hE', hi', hf', hv⟩ := op_sound hi1 hf1 (fun x _ => ev_rel (frame_of hf1) x) hr hp
            rw [hrun]
            have hpost : PostC C B w0 Ψ0 As W a0 k (a.put o.dst v) w' := by
              refine ⟨Ψ', β', ((s.freeze j).apply r).put o.dst r.v, (hE.trans hE1).trans hE', ?_, RelF_put ?_ hv, hS.put hW, hk'⟩
              · rw [put_heap]
                unfold St.apply
                cases hkl : r.kill with
                | none => rw [hkl] at hi'; exact hi'
                | some j => rw [hkl] at hi'; exact hi'
              · unfold St.apply
                cases hkl : r.kill with
                | none => rw [hkl] at hf'; exact hf'
                | some j => rw [hkl] at hf'; exact hf'
            rcases hn with rfl | ⟨rfl, rfl⟩
            · exact hpost
            · exact hpost
          · exact hk.elim
        · exact hk.elim
      · split at hk
        · obtain ⟨v, hrun, hpost⟩ := lookup_sound hk hE hi hf hS hW
          rw [hrun]
          exact hpost
        · obtain ⟨v, w', hrun, hpost⟩ := arange_sound hk hE hi hf hS hW
          rw [hrun]
          exact hpost
        · obtain ⟨v, w', hrun, hpost⟩ := arange_sound hk hE hi hf hS hW
          rw [hrun]
          exact hpost
        · obtain ⟨v, w', hrun, hpost⟩ := arange_sound hk hE hi hf hS hW
          rw [hrun]
          exact hpost
        · obtain ⟨v, hrun, hpost⟩ := nilCmp_sound hk hE hi hf hS hW
          rw [hrun]
          exact hpost

theorem freezeAll_sound : ∀ (ks : List Nat) {s : St} {Ψ : Pr}, InvH C.P B w0 Ψ β s.heap w → RelF Ψ β (s.top :: s.below) As →
    ∃ Ψ', Ext B Ψ Ψ' ∧ InvH C.P B w0 Ψ' β (s.freezeAll ks).heap w ∧ RelF Ψ' β ((s.freezeAll ks).top :: (s.freezeAll ks).below) As ∧ Reading Ψ' β s.heap ks
  | [], s, Ψ, hi, hf => ⟨Ψ, Ext.refl _ _, hi, hf, Reading.nil⟩
  | k :: ks, s, Ψ, hi, hf => by
    obtain ⟨Ψ1, hE1, hi1, hf1, hr1, hkeep⟩ := freeze_sound hi hf k
    obtain ⟨Ψ2, hE2, hi2, hf2, hr2⟩ := freezeAll_sound ks hi1 hf1
    refine ⟨Ψ2, hE1.trans hE2, hi2, hf2, fun j hj tid e xs hg u hu => ?_⟩
    by_cases hjk : j = k
    · exact rv_mono hE2.1 (hr1 j (by simp [hjk]) tid e xs hg u hu)
    · rcases List.mem_cons.1 hj with h | h
      · exact absurd h hjk
      · exact hr2 j h tid e xs (hkeep j tid e xs hjk hg) u hu

/-! ### Calls -/
theorem yielded_of {all : Array Oper} {j : Nat} {t : Tmp} (hg : guardTmp all j = some t) (tmps : Array Value) : yielded all tmps j = (match tmps[t]? with | some (.bool b) => some b | _ => none) := by
  unfold guardTmp at hg
  split at hg
  · rename_i o ho
    simp [yielded, ho, hg]
    cases tmps[t]? with
    | none => rfl
    | some x => cases x <;> rfl
  · cases hg

theorem getD_eq {t : Tmp} (tmps : Array Value) : tmps.toList.getD t undef = (tmps[t]?).getD undef := by
  simp [List.getD_eq_getElem?_getD]

/-- What a slot says of the guard that looks at it. -/
theorem guard_bool {s : St} {t : Tmp} {b : Bool} (hfr : RelFr Ψ β s.top a) (hr : ∀ v, RelV Ψ β (fget s.top t) v → v = .bool b) : a.tmps[t]? = some (.bool b) := by
  have h1 := hr _ (RelL_get _ _ hfr.2 t)
  rw [getD_eq] at h1
  cases hx : a.tmps[t]? with
  | none => rw [hx] at h1; simp [undef] at h1
  | some x => rw [hx] at h1; simp at h1; rw [h1]

theorem put_some_rel {s : St} {t : Tmp} {av : AV} {v : Value} (hf : RelF Ψ β (s.top :: s.below) (a :: As)) (ht : a.tmps[t]? = some v) (hv : RelV Ψ β av v) :
    RelF Ψ β ((s.put (some t) av).top :: (s.put (some t) av).below) (a :: As) := by
  have := RelF_put (d := some t) hf hv
  have e : a.put (some t) v = a := by
    simp only [Act.put]
    cases a with
    | mk tmps defers =>
      simp only [Act.mk.injEq, and_true]
      apply Array.ext'
      simp only [Array.toList_setIfInBounds]
      apply List.set_getElem?_self' 
      simpa using ht
  rwa [e] at this
where
  List.set_getElem?_self' {l : List Value} {i : Nat} {v : Value} (h : l[i]? = some v) : l.set i v = l := by
    apply List.ext_getElem?
    intro j
    by_cases hj : i = j
    · subst hj
      have hlt : i < l.length := by
        rcases Nat.lt_or_ge i l.length with h' | h'
        · exact h'
        · rw [List.getElem?_eq_none h'] at h; cases h
      rw [List.getElem?_set_self hlt, h]
    · rw [List.getElem?_set_ne hj]

theorem aops_sound {call : CallT} (hc : CallSound C call) {m : Mode} {ro : Option Nat} (all : Array Oper) {Q : Exit → Act → World → Prop} : ∀ (rest : List Oper) {s : St} {k : St → Prop} {Ψ : Pr} {β : List Value} {a : Act} {w : World}, aops C call m all rest s k →
    Ext B Ψ0 Ψ → InvH C.P B w0 Ψ β s.heap w → RelF Ψ β (s.top :: s.below) (a :: As) → Same Ψ0 W a0 a → (∀ o ∈ rest, ∀ t, o.dst = some t → t ∈ W) → (∀ a w, PostC C B w0 Ψ0 As W a0 k a w → Q .normal a w) → wpListIn (Fw ro) 0 C.P all Q rest a w
  | [], s, k, Ψ, β, a, w, hk, hE, hi, hf, hS, hW, hQ => hQ a w ⟨Ψ, β, s, hE, hi, hf, hS, hk⟩
  | o :: rest, s, k, Ψ, β, a, w, hk, hE, hi, hf, hS, hW, hQ => by
    have hWo := hW o (by simp)
    have hWr : ∀ o ∈ rest, ∀ t, o.dst = some t → t ∈ W := fun o' ho' => hW o' (by simp [ho'])
    have hfr := frame_of hf
    -- it runs
    have run : ∀ {s' : St}, astep C call o s' (fun s'' => aops C call m all rest s'' k) → s'.heap = s.heap → RelF Ψ β (s'.top :: s'.below) (a :: As) → o.wpIn (Fw ro) 0 C.P a w (wpListIn (Fw ro) 0 C.P all Q rest) Q := by
      intro s' hst hh hf'
      have hw := astep_sound (Ψ0 := Ψ0) (W := W) (a0 := a0) hc hst hE (by rw [hh]; exact hi) hf' hS hWo (ro := ro) (Q := Q)
      refine Oper.wpIn_mono (fun a' w' hp => ?_) hw
      obtain ⟨Ψ', β', s'', hE', hi', hf'', hS', hk'⟩ := hp
      exact aops_sound hc all rest hk' hE' hi' hf'' hS' hWr hQ
    -- it is passed over
    have skip : ∀ {s' : St}, aops C call m all rest (s'.put o.dst .und) k → s'.heap = s.heap → RelF Ψ β (s'.top :: s'.below) (a :: As) → (∀ f, o.about C.P w a.eval = some f → (Fw ro).fn f) ∧ wpListIn (Fw ro) 0 C.P all Q rest (a.put o.dst undef) w := by
      intro s' hst hh hf'
      exact ⟨fun _ _ => trivial, aops_sound hc all rest hst hE (by rw [put_heap, hh]; exact hi) (RelF_put hf' rfl) (hS.put hWo) hWr hQ⟩
    unfold aops at hk
    unfold wpListIn
    split at hk
    · rename_i hgd
      rw [if_pos (by simp [Region.wanted, hgd])]
      exact run hk rfl hf
    · rename_i j want hgd
      split at hk
      · exact hk.elim
      · rename_i t hgt
        have hwant : ∀ b : Bool, a.tmps[t]? = some (.bool b) → Region.wanted o (yielded all a.tmps) = (b == want) := by
          intro b hb
          simp [Region.wanted, hgd, yielded_of hgt, hb]
        split at hk
        · rename_i htt
          have hb := guard_bool (t := t) (b := true) hfr (by rw [htt]; exact fun _ h => h)
          split at hk
          · rw [if_pos (by rw [hwant _ hb]; rfl)]; exact run hk rfl hf
          · rw [if_neg (by rw [hwant _ hb]; simp)]; exact skip hk rfl hf
        · rename_i hff
          have hb := guard_bool (t := t) (b := false) hfr (by rw [hff]; exact fun _ h => h)
          split at hk
          · rw [if_pos (by rw [hwant _ hb]; rfl)]; exact run hk rfl hf
          · rw [if_neg (by rw [hwant _ hb]; simp)]; exact skip hk rfl hf
        · rename_i hu
          have hnw : Region.wanted o (yielded all a.tmps) = false := by
            have h1 := RelL_get _ _ hfr.2 t
            rw [hu] at h1
            have h2 : (a.tmps[t]?).getD undef = undef := by rw [← getD_eq]; exact h1
            simp only [Region.wanted, hgd, yielded_of hgt]
            cases hx : a.tmps[t]? with
            | none => simp
            | some x => rw [hx] at h2; simp at h2; subst h2; simp [undef]
          rw [if_neg (by rw [hnw]; simp)]
          exact skip hk rfl hf
        · rename_i b hbv
          have hb := guard_bool (t := t) (b := b) hfr (by rw [hbv]; exact fun _ h => rv_bool.1 h)
          split at hk
          · cases b with
            | true =>
              rw [if_pos (by rw [hwant _ hb]; rfl)]
              exact run ((splitB_sound hk).1 rfl) rfl (put_some_rel hf hb rfl)
            | false =>
              rw [if_neg (by rw [hwant _ hb]; simp)]
              exact skip ((splitB_sound hk).2 rfl) rfl (put_some_rel hf hb rfl)
          · cases b with
            | true =>
              rw [if_neg (by rw [hwant _ hb]; simp)]
              exact skip ((splitB_sound hk).1 rfl) rfl (put_some_rel hf hb rfl)
            | false =>
              rw [if_pos (by rw [hwant _ hb]; rfl)]
              exact run ((splitB_sound hk).2 rfl) rfl (put_some_rel hf hb rfl)
        · exact hk.elim

end Go.AM
namespace Go.AM
set_option linter.unusedVariables false
open Go.RowKit

variable {B : Nat → Prop} {w0 : World} {C : Ctx} {Ψ Ψ0 : Pr} {β : List Value} {h : List Blk} {w w' : World} {fr : List AV} {a a0 : Act} {As : List Act} {W : List Nat}

/-! ### Regions that draw their order -/
def putL (top : List AV) (d : Option Tmp) (v : AV) : List AV :=
  match d with
  | some t => fset top t v
  | none => top

/-- How an operation's guard stands, and what is learnt of the slot that it looks at. -/
def Guarded (all : Array Oper) (o : Oper) (top top1 : List AV) (b : Bool) : Prop :=
  match o.guard with
  | none => top1 = top ∧ b = true
  | some (j, want) => ∃ t, guardTmp all j = some t ∧
      ((fget top t = .tt ∧ top1 = top ∧ b = (true == want)) ∨ (fget top t = .ff ∧ top1 = top ∧ b = (false == want)) ∨ (fget top t = .und ∧ top1 = top ∧ b = false) ∨
        (fget top t = .d .bool true ∧ top1 = fset top t .tt ∧ b = (true == want)) ∨ (fget top t = .d .bool false ∧ top1 = fset top t .ff ∧ b = (false == want)))

/-- What an operation of the head yields. -/
def Yld (C : Ctx) (h : List Blk) (o : Oper) (top : List AV) (av : AV) : Prop :=
  (∃ f args ats g sp x, o.op = .call { callee := .value f, args, argTypes := ats } ∧ ev top f = .fn g [] ∧ C.spec g = some sp ∧ (flats sp.rs = true ∨ noRefs (maskAs sp.ps (evs top args.toList)) = true) ∧ enterOk C g = true ∧
    asDs h sp.ps (maskAs sp.ps (evs top args.toList)) = some x ∧ sp.pre x ∧ av = outV sp.rs (sp.post x)) ∨
  (neutral o.op = true ∧ ∃ r, aop C top h o.op = some r ∧ (∀ p, r.need = some p → p) ∧ av = r.v)

theorem nstep_yld {o : Oper} {s : St} {k : St → Prop} (hk : nstep C o s k) : ∃ av, Yld C s.heap o s.top av ∧ k (s.put o.dst av) := by
  unfold nstep at hk
  split at hk
  · rename_i f args ats ho
    split at hk
    · rename_i g hev
      split at hk
      · rename_i sp hsp
        split at hk
        · rename_i hc
          simp only [Bool.and_eq_true, Bool.or_eq_true] at hc
          split at hk
          · rename_i x hx
            exact ⟨_, .inl ⟨f, args, ats, g, sp, x, ho, hev, hsp, hc.1, hc.2, hx, hk.1, rfl⟩, hk.2⟩
          · exact hk.elim
        · exact hk.elim
      · exact hk.elim
    · exact hk.elim
  · split at hk
    · rename_i hn
      split at hk
      · rename_i r hr
        obtain ⟨hp, hk'⟩ := needs_elim hk
        exact ⟨_, .inr ⟨hn, r, hr, hp, rfl⟩, hk'⟩
      · exact hk.elim
    · exact hk.elim

/-- What a call of the head hands back as a slice of its own. -/
def YldG (C : Ctx) (h : List Blk) (o : Oper) (top : List AV) (b : Blk) : Prop :=
  ∃ f args ats g gs x, o.op = .call { callee := .value f, args, argTypes := ats } ∧ ev top f = .fn g [] ∧ C.fresh g = some gs ∧ noRefs (evs top args.toList) = true ∧ enterOk C g = true ∧
    asDs h gs.ps (evs top args.toList) = some x ∧ gs.pre x ∧ b = .grow gs.tid gs.e (gs.post x)
/-- A variable that the head lays. -/
def YldA (C : Ctx) (o : Oper) (b : Blk) : Prop := ∃ cs, acell C o = some cs ∧ b = .cells cs

/-- A slice that an append of the head lays. -/
def YldP (C : Ctx) (h : List Blk) (o : Oper) (top : List AV) (b : Blk) : Prop :=
  ∃ (args : Array Operand) (ats : Array TypeId) (e : Ty) (y : AV) (t tx tid : TypeId) (sz : Nat) (z : AV) (ys : List e.den), o.op = .call { callee := .builtin .append, args, argTypes := ats } ∧ evs top args.toList = [.fs e [], y] ∧ ats.toList = [t, tx] ∧ C.tailFirst = false ∧
    elemOf C t = some tid ∧ C.size tid = some sz ∧ C.zero tid = some z ∧ asTail C h e tx y = some ys ∧ e.cells = sz ∧ zeroOk e z = true ∧ roomP C tid ys.length ∧ b = .grow tid e ys

/-- What has been laid, place by place. -/
def effs (n : Nat) (effi : Nat → Blk) : List Blk := (List.range n).map effi
theorem effs_succ (n : Nat) (e : Blk) (effi : Nat → Blk) : effs (n + 1) (fun i => match i with | 0 => e | i + 1 => effi i) = e :: effs n effi := by
  unfold effs
  rw [List.range_succ_eq_map]
  simp
/-- What has been written in the end. -/
def rws (n : Nat) (rwi : Nat → Option (Nat × Blk)) (rw0 : List (Nat × Blk)) : List (Nat × Blk) := rw0 ++ (List.range n).filterMap rwi
theorem rws_succ (n : Nat) (r : Option (Nat × Blk)) (rwi : Nat → Option (Nat × Blk)) (rw0 : List (Nat × Blk)) : rws (n + 1) (fun i => match i with | 0 => r | i + 1 => rwi i) rw0 = rws n rwi (upd rw0 r) := by
  unfold rws
  rw [List.range_succ_eq_map, List.filterMap_cons, List.filterMap_map]
  cases r with
  | none => rfl
  | some p => simp only [upd, List.append_assoc, List.singleton_append]; rfl

/-- What an operation of the head yields, and lays at its place, and writes. -/
def YldE (C : Ctx) (H : HW) (i : Nat) (ex : List Blk) (rw0 : List (Nat × Blk)) (o : Oper) (top : List AV) (av : AV) (b : Blk) (rw : Option (Nat × Blk)) : Prop :=
  (isSt H.st i = true ∧ av = .und ∧ b = .gone ∧ o.dst = none ∧ ∃ r, rw = some r ∧ notKey r.1 rw0 = true ∧ scall C (hlen H.h0) ex o { top := top, below := [], heap := H.heap i } = some r) ∨
  (isSt H.st i = false ∧ rw = none ∧ ((Yld C (H.heap i) o top av ∧ b = .gone) ∨ (YldG C (H.heap i) o top b ∧ av = .sl (hlen H.h0 + i)) ∨ (YldA C o b ∧ av = .own (hlen H.h0 + i) 0) ∨ (YldP C (H.heap i) o top b ∧ av = .sl (hlen H.h0 + i))))

theorem dstep_yld {H : HW} {i : Nat} {ex : List Blk} {rw0 : List (Nat × Blk)} {o : Oper} {s : St} {k : Blk → Option (Nat × Blk) → St → Prop} (hk : dstep C (hlen H.h0) ex rw0 (isSt H.st i) o (hlen H.h0 + i) { s with heap := H.heap i } k) :
    ∃ av b r, YldE C H i ex rw0 o s.top av b r ∧ k b r (({ s with heap := H.heap i } : St).put o.dst av) := by
  unfold dstep at hk
  split at hk
  · rename_i hS
    split at hk
    · rename_i r hr
      have hdst : o.dst = none := by
        unfold scall at hr
        split at hr
        · assumption
        · cases hr
      split at hk
      · rename_i hnk
        refine ⟨.und, .gone, some r, .inl ⟨hS, rfl, rfl, hdst, r, rfl, hnk, hr⟩, ?_⟩
        rw [hdst]
        exact hk
      · exact hk.elim
    · exact hk.elim
  · rename_i hS
    have hS : isSt H.st i = false := by simpa using hS
    split at hk
    · rename_i g gs args hg
      split at hk
      · rename_i hc
        simp only [Bool.and_eq_true] at hc
        obtain ⟨h1, h2⟩ := hc
        split at hk
        · rename_i x hx
          unfold gcall at hg
          split at hg
          · rename_i f args' ats ho
            split at hg
            · rename_i g' hev
              split at hg
              · cases hg
              · split at hg
                · rename_i gs' hgs
                  simp only [Option.some.injEq, Prod.mk.injEq] at hg
                  obtain ⟨rfl, rfl, rfl⟩ := hg
                  exact ⟨_, _, none, .inr ⟨hS, rfl, .inr (.inl ⟨⟨f, args', ats, g', gs', x, ho, hev, hgs, h1, h2, hx, hk.1, rfl⟩, rfl⟩)⟩, hk.2⟩
                · cases hg
            · cases hg
          · cases hg
        · exact hk.elim
      · exact hk.elim
    · split at hk
      · rename_i cs hcs
        exact ⟨_, _, none, .inr ⟨hS, rfl, .inr (.inr (.inl ⟨⟨cs, hcs, rfl⟩, rfl⟩))⟩, hk⟩
      · split at hk
        · rename_i p b hp
          unfold pcall at hp
          split at hp
          · rename_i args ats ho
            split at hp
            · rename_i e y t tx hev hats
              split at hp
              · rename_i tid htf hel
                split at hp
                · rename_i sz z ys h1 h2 h3
                  split at hp
                  · rename_i hc
                    simp only [Bool.and_eq_true, Nat.beq_eq] at hc
                    simp only [Option.some.injEq, Prod.mk.injEq] at hp
                    obtain ⟨rfl, rfl⟩ := hp
                    exact ⟨_, _, none, .inr ⟨hS, rfl, .inr (.inr (.inr ⟨⟨args, ats, e, y, t, tx, tid, sz, z, ys, ho, hev, hats, htf, hel, h1, h2, h3, hc.1, hc.2, hk.1, rfl⟩, rfl⟩))⟩, hk.2⟩
                  · cases hp
                · cases hp
              · cases hp
            · cases hp
          · cases hp
        · obtain ⟨av, h1, h2⟩ := nstep_yld hk
          exact ⟨av, _, none, .inr ⟨hS, rfl, .inl ⟨h1, rfl⟩⟩, h2⟩

structure Trace (C : Ctx) (H : HW) (ex0 : List Blk) (rw0 : List (Nat × Blk)) (ops : List Oper) (i0 : Nat) (top : List AV) (tops mids : Nat → List AV) (vals : Nat → AV) (wnt : Nat → Bool) (effi : Nat → Blk) (rwi : Nat → Option (Nat × Blk)) : Prop where
  zero : tops 0 = top
  step : ∀ i o, ops[i]? = some o → Guarded H.all o (tops i) (mids i) (wnt i) ∧ tops (i + 1) = putL (mids i) o.dst (vals i) ∧
    (wnt i = true → YldE C H (i0 + i) (ex0 ++ effs i effi) (rws i rwi rw0) o (mids i) (vals i) (effi i) (rwi i)) ∧ (wnt i = false → vals i = .und ∧ effi i = .gone ∧ rwi i = none)

theorem Trace.cons {H : HW} {ex0 : List Blk} {rw0 : List (Nat × Blk)} {o : Oper} {ops : List Oper} {i0 : Nat} {top mid : List AV} {v : AV} {b : Bool} {e : Blk} {r : Option (Nat × Blk)} {tops mids : Nat → List AV} {vals : Nat → AV} {wnt : Nat → Bool} {effi : Nat → Blk} {rwi : Nat → Option (Nat × Blk)}
    (hg : Guarded H.all o top mid b) (hy : b = true → YldE C H i0 ex0 rw0 o mid v e r) (hn : b = false → v = .und ∧ e = .gone ∧ r = none) (ht : Trace C H (ex0 ++ [e]) (upd rw0 r) ops (i0 + 1) (putL mid o.dst v) tops mids vals wnt effi rwi) :
    Trace C H ex0 rw0 (o :: ops) i0 top (fun i => match i with | 0 => top | i + 1 => tops i) (fun i => match i with | 0 => mid | i + 1 => mids i) (fun i => match i with | 0 => v | i + 1 => vals i) (fun i => match i with | 0 => b | i + 1 => wnt i) (fun i => match i with | 0 => e | i + 1 => effi i)
      (fun i => match i with | 0 => r | i + 1 => rwi i) where
  zero := rfl
  step := fun i o' ho => by
    cases i with
    | zero =>
      simp at ho
      subst ho
      exact ⟨hg, ht.zero, (by simpa [effs, rws] using hy), hn⟩
    | succ i =>
      have := ht.step i o' (by simpa using ho)
      rw [effs_succ, rws_succ, show i0 + (i + 1) = i0 + 1 + i by omega, show ex0 ++ e :: effs i effi = (ex0 ++ [e]) ++ effs i effi by simp]
      exact this

theorem put_top (s : St) (d : Option Tmp) (v : AV) : s.put d v = { s with top := putL s.top d v } := by cases d <;> rfl

theorem dops_trace {m : Mode} (H : HW) {k : St → Prop} : ∀ (ops : List Oper) (i0 : Nat) (ex : List Blk) (rw0 : List (Nat × Blk)) (s : St), dops C m H ops i0 ex rw0 s k →
    ∃ tops mids vals wnt effi rwi, Trace C H ex rw0 ops i0 s.top tops mids vals wnt effi rwi ∧ k { s with top := tops ops.length, heap := wr (H.h0 ++ (ex ++ effs ops.length effi)) (rws ops.length rwi rw0) }
  | [], i0, ex, rw0, s, hk => ⟨fun _ => s.top, fun _ => s.top, fun _ => .und, fun _ => true, fun _ => .gone, fun _ => none, ⟨rfl, fun i o ho => by simp at ho⟩, (by have hk : k { s with heap := wr (H.h0 ++ ex) rw0 } := hk; simpa [effs, rws] using hk)⟩
  | o :: ops, i0, ex, rw0, s, hk => by
    have go : ∀ (s1 : St) (v : AV) (e : Blk) (r : Option (Nat × Blk)) (b : Bool), Guarded H.all o s.top s1.top b → s1.below = s.below → (b = true → YldE C H i0 ex rw0 o s1.top v e r) → (b = false → v = .und ∧ e = .gone ∧ r = none) → dops C m H ops (i0 + 1) (ex ++ [e]) (upd rw0 r) (s1.put o.dst v) k →
        ∃ tops mids vals wnt effi rwi, Trace C H ex rw0 (o :: ops) i0 s.top tops mids vals wnt effi rwi ∧ k { s with top := tops (o :: ops).length, heap := wr (H.h0 ++ (ex ++ effs (o :: ops).length effi)) (rws (o :: ops).length rwi rw0) } := by
      intro s1 v e r b hg hb hy hn hdo
      rw [put_top] at hdo
      obtain ⟨tops, mids, vals, wnt, effi, rwi, ht, hk'⟩ := dops_trace H ops _ _ _ _ hdo
      simp only [hb] at ht hk'
      refine ⟨_, _, _, _, _, _, ht.cons (e := e) (r := r) hg hy hn, ?_⟩
      rw [List.length_cons, effs_succ, rws_succ]
      rw [List.append_assoc, List.singleton_append] at hk'
      exact hk'
    have yes : ∀ (s1 : St), Guarded H.all o s.top s1.top true → s1.below = s.below → dstep C (hlen H.h0) ex rw0 (isSt H.st i0) o (hlen H.h0 + i0) { s1 with heap := H.heap i0 } (fun b r s' => dops C m H ops (i0 + 1) (ex ++ [b]) (upd rw0 r) s' k) →
        ∃ tops mids vals wnt effi rwi, Trace C H ex rw0 (o :: ops) i0 s.top tops mids vals wnt effi rwi ∧ k { s with top := tops (o :: ops).length, heap := wr (H.h0 ++ (ex ++ effs (o :: ops).length effi)) (rws (o :: ops).length rwi rw0) } := by
      intro s1 hg hb hst
      obtain ⟨av, e, r, hy, hdo⟩ := dstep_yld hst
      exact go { s1 with heap := H.heap i0 } av e r true hg hb (fun _ => hy) (fun e => by cases e) hdo
    have no : ∀ (s1 : St), Guarded H.all o s.top s1.top false → s1.below = s.below → dops C m H ops (i0 + 1) (ex ++ [.gone]) rw0 (s1.put o.dst .und) k →
        ∃ tops mids vals wnt effi rwi, Trace C H ex rw0 (o :: ops) i0 s.top tops mids vals wnt effi rwi ∧ k { s with top := tops (o :: ops).length, heap := wr (H.h0 ++ (ex ++ effs (o :: ops).length effi)) (rws (o :: ops).length rwi rw0) } :=
      fun s1 hg hb hdo => go s1 .und .gone none false hg hb (fun e => by cases e) (fun _ => ⟨rfl, rfl, rfl⟩) hdo
    unfold dops at hk
    split at hk
    · rename_i hgd
      exact yes s (by simp [Guarded, hgd]) rfl hk
    · rename_i g want hgd
      split at hk
      · exact hk.elim
      · rename_i t hgt
        split at hk
        · rename_i htt
          split at hk
          · exact yes s (by simp [Guarded, hgd, hgt, htt]) rfl hk
          · exact no s (by simp [Guarded, hgd, hgt, htt]) rfl hk
        · rename_i htt
          split at hk
          · exact yes s (by simp [Guarded, hgd, hgt, htt]) rfl hk
          · exact no s (by simp [Guarded, hgd, hgt, htt]) rfl hk
        · rename_i htt
          exact no s (by simp [Guarded, hgd, hgt, htt]) rfl hk
        · rename_i b htt
          split at hk
          · cases b with
            | true => exact yes (s.put (some t) .tt) (by simp [Guarded, hgd, hgt, htt, St.put]) rfl ((splitB_sound hk).1 rfl)
            | false => exact no (s.put (some t) .ff) (by simp [Guarded, hgd, hgt, htt, St.put]) rfl ((splitB_sound hk).2 rfl)
          · cases b with
            | true => exact no (s.put (some t) .tt) (by simp [Guarded, hgd, hgt, htt, St.put]) rfl ((splitB_sound hk).1 rfl)
            | false => exact yes (s.put (some t) .ff) (by simp [Guarded, hgd, hgt, htt, St.put]) rfl ((splitB_sound hk).2 rfl)
        · exact hk.elim

/-! the slots, whatever has been carried out -/
def baseL (ops : List Oper) (top : List AV) (vals : Nat → AV) (L : Nat → Bool) (t : Nat) : AV :=
  match (List.range ops.length).find? (fun i => L i && ((ops[i]?).bind (·.dst) == some t)) with
  | some i => vals i
  | none => fget top t

def Imp (b av : AV) : Prop := ∀ Ψ β v, RelV Ψ β b v → RelV Ψ β av v
theorem Imp.refl (b : AV) : Imp b b := fun _ _ _ h => h
theorem Imp.trans {a b c : AV} (h : Imp a b) (h' : Imp b c) : Imp a c := fun Ψ β v hv => h' Ψ β v (h Ψ β v hv)

theorem fget_fset {l : List AV} {i j : Nat} {v : AV} : fget (fset l i v) j = if i = j ∧ i < l.length then v else fget l j := by
  induction l generalizing i j with
  | nil => simp [fset]
  | cons x l ih => cases i <;> cases j <;> simp [fset, fget, ih]

theorem fset_length (l : List AV) (i : Nat) (v : AV) : (fset l i v).length = l.length := by rw [fset_eq]; simp

/-- No two operations write one slot. -/
def Distinct (ops : List Oper) : Prop :=
  ∀ (i j : Nat) (oi oj : Oper) (t : Tmp), ops[i]? = some oi → ops[j]? = some oj → oi.dst = some t → oj.dst = some t → i = j

theorem baseL_at {ops : List Oper} {top : List AV} {vals : Nat → AV} {L : Nat → Bool} {t i : Nat} {o : Oper} (hd : Distinct ops) (hi : ops[i]? = some o) (ht : o.dst = some t) (hL : L i = true) : baseL ops top vals L t = vals i := by
  unfold baseL
  cases hf : (List.range ops.length).find? (fun i => L i && ((ops[i]?).bind (·.dst) == some t)) with
  | none =>
    rw [List.find?_eq_none] at hf
    have hlt : i < ops.length := by
      rcases Nat.lt_or_ge i ops.length with h' | h'
      · exact h'
      · rw [List.getElem?_eq_none h'] at hi; cases hi
    have := hf i (List.mem_range.2 hlt)
    simp [hL, hi, ht] at this
  | some j =>
    have h1 := List.find?_some hf
    simp only [Bool.and_eq_true, beq_iff_eq] at h1
    obtain ⟨_, h2⟩ := h1
    cases hj : ops[j]? with
    | none => rw [hj] at h2; simp at h2
    | some oj =>
      rw [hj] at h2
      simp at h2
      rw [hd i j o oj t hi hj ht h2]

theorem baseL_none {ops : List Oper} {top : List AV} {vals : Nat → AV} {L : Nat → Bool} {t : Nat} (hn : ∀ (i : Nat) (o : Oper), ops[i]? = some o → o.dst = some t → L i = false) : baseL ops top vals L t = fget top t := by
  unfold baseL
  cases hf : (List.range ops.length).find? (fun i => L i && ((ops[i]?).bind (·.dst) == some t)) with
  | none => rfl
  | some j =>
    have h1 := List.find?_some hf
    simp only [Bool.and_eq_true, beq_iff_eq] at h1
    obtain ⟨h0, h2⟩ := h1
    cases hj : ops[j]? with
    | none => rw [hj] at h2; simp at h2
    | some oj =>
      rw [hj] at h2
      simp at h2
      rw [hn j oj hj h2] at h0
      cases h0

theorem guarded_imp {all : Array Oper} {o : Oper} {top top1 : List AV} {b : Bool} (hg : Guarded all o top top1 b) : top1.length = top.length ∧ ∀ t, Imp (fget top t) (fget top1 t) := by
  unfold Guarded at hg
  split at hg
  · obtain ⟨rfl, _⟩ := hg
    exact ⟨rfl, fun t => Imp.refl _⟩
  · obtain ⟨t, _, h⟩ := hg
    rcases h with ⟨_, rfl, _⟩ | ⟨_, rfl, _⟩ | ⟨_, rfl, _⟩ | ⟨h1, rfl, _⟩ | ⟨h1, rfl, _⟩
    · exact ⟨rfl, fun t => Imp.refl _⟩
    · exact ⟨rfl, fun t => Imp.refl _⟩
    · exact ⟨rfl, fun t => Imp.refl _⟩
    · refine ⟨fset_length _ _ _, fun t' => ?_⟩
      rw [fget_fset]
      split
      · rename_i hc
        obtain ⟨rfl, _⟩ := hc
        rw [h1]
        exact fun Ψ β v hv => rv_bool.1 hv
      · exact Imp.refl _
    · refine ⟨fset_length _ _ _, fun t' => ?_⟩
      rw [fget_fset]
      split
      · rename_i hc
        obtain ⟨rfl, _⟩ := hc
        rw [h1]
        exact fun Ψ β v hv => rv_bool.1 hv
      · exact Imp.refl _

/-- What the lexical walk knows of the slots follows from what the operations before have left. -/
theorem Trace.chain {H : HW} {ex0 : List Blk} {rw0 : List (Nat × Blk)} {ops : List Oper} {top : List AV} {tops mids : Nat → List AV} {vals : Nat → AV} {wnt : Nat → Bool} {i0 : Nat} {effi : Nat → Blk} {rwi : Nat → Option (Nat × Blk)} (ht : Trace C H ex0 rw0 ops i0 top tops mids vals wnt effi rwi) (hd : Distinct ops) :
    ∀ i, i ≤ ops.length → (tops i).length = top.length ∧ ∀ t, t < top.length → Imp (baseL ops top vals (fun j => decide (j < i)) t) (fget (tops i) t)
  | 0, _ => by
    rw [ht.zero]
    refine ⟨rfl, fun t _ => ?_⟩
    rw [baseL_none (fun i o _ _ => by simp)]
    exact Imp.refl _
  | i + 1, hi => by
    obtain ⟨hl, hc⟩ := ht.chain hd i (by omega)
    have ho : ops[i]? = some ops[i] := List.getElem?_eq_getElem (by omega)
    obtain ⟨hg, he, _, _⟩ := ht.step i _ ho
    obtain ⟨hgl, hgi⟩ := guarded_imp hg
    have same : ∀ t, ops[i].dst ≠ some t → baseL ops top vals (fun j => decide (j < i + 1)) t = baseL ops top vals (fun j => decide (j < i)) t := by
      intro t hne
      by_cases hex : ∃ j oj, ops[j]? = some oj ∧ oj.dst = some t ∧ j < i
      · obtain ⟨j, oj, h1, h2, h3⟩ := hex
        rw [baseL_at hd h1 h2 (by simp; omega), baseL_at hd h1 h2 (by simp; omega)]
      · rw [baseL_none (fun j oj h1 h2 => ?_), baseL_none (fun j oj h1 h2 => ?_)]
        · simp only [decide_eq_false_iff_not]
          exact fun h3 => hex ⟨j, oj, h1, h2, h3⟩
        · simp only [decide_eq_false_iff_not]
          intro h3
          have : j ≠ i := by
            rintro rfl
            rw [h1] at ho
            simp at ho
            rw [← ho] at hne
            exact hne h2
          exact hex ⟨j, oj, h1, h2, by omega⟩
    rw [he]
    cases hdst : ops[i].dst with
    | none =>
      refine ⟨by simp only [putL]; omega, fun t ht' => ?_⟩
      rw [same t (by rw [hdst]; simp)]
      exact (hc t ht').trans (hgi t)
    | some d =>
      refine ⟨by simp only [putL]; rw [fset_length]; omega, fun t ht' => ?_⟩
      simp only [putL]
      rw [fget_fset]
      by_cases htd : d = t
      · subst htd
        rw [if_pos ⟨rfl, by omega⟩, baseL_at hd ho hdst (by simp)]
        exact Imp.refl _
      · rw [if_neg (fun hh => htd hh.1), same t (by rw [hdst]; simpa using htd)]
        exact (hc t ht').trans (hgi t)

end Go.AM
namespace Go.AM
set_option linter.unusedVariables false
open Go.RowKit

variable {B : Nat → Prop} {w0 : World} {C : Ctx} {Ψ Ψ0 : Pr} {β : List Value} {h : List Blk} {w w' : World} {fr : List AV} {a a0 : Act} {As : List Act} {W : List Nat}

/-! ### Calls by contract -/
def SpecSound (C : Ctx) : Prop := (∀ g sp, C.spec g = some sp → Sat C.P g sp) ∧ (∀ g sp, C.fresh g = some sp → SatG C.P g sp) ∧ (∀ g sp, C.sorts g = some sp → SatS C.P g sp) ∧ (∀ g sp, C.nilG g = some sp → SatN C.P g sp) ∧ (∀ g sp, C.iters g = some sp → SatI C.P g sp) ∧ (∀ g sp, C.sortsM g = some sp → SatM C.P g sp) ∧ ∀ g sp, C.procs g = some sp → SatH C.P g sp

theorem asDs_rel {Ψ' : Pr} (hle : PLe Ψ Ψ') : ∀ {ts : List Ty} {avs : List AV} {vs : List Value} {x : dens ts}, asDs h ts avs = some x → RelL Ψ β avs vs → Reading Ψ' β h (refsA avs) → RelL Ψ' [] (outs ts x) vs
  | [], [], vs, x, _, hr, _ => hr
  | [], _ :: _, vs, x, hd, _, _ => by simp [asDs] at hd
  | [t], [], vs, x, hd, _, _ => by simp [asDs] at hd
  | [t], [av], vs, x, hd, ⟨v, vs', e, hv, hl⟩, hk => by
    simp only [RelL] at hl
    subst hl e
    exact ⟨v, [], rfl, asD_rv hle hd hv (hk.sub fun k hm => by simp [refsA, hm]), rfl⟩
  | [t], _ :: _ :: _, vs, x, hd, _, _ => by simp [asDs] at hd
  | t :: u :: ts, [], vs, x, hd, _, _ => by simp [asDs] at hd
  | t :: u :: ts, av :: avs, vs, x, hd, ⟨v, vs', e, hv, hl⟩, hk => by
    unfold asDs at hd
    split at hd
    · rename_i y hy
      split at hd
      · rename_i z hz
        simp at hd
        subst hd
        exact ⟨v, vs', e, asD_rv hle hy hv (hk.sub fun k hm => by simp [refsA, hm]), asDs_rel hle hz hl (hk.sub fun k hm => by simp [refsA]; exact .inr hm)⟩
      · cases hd
    · cases hd

/-- All of the world, as promises for the time of a call. -/
def allOf (w : World) : Pr := fun ad => if ad.spot = none then w.cell? ad else none

theorem allOf_spec (w : World) : ∀ ad v, allOf w ad = some v → ad.spot = none ∧ w.cell? ad = some v := by
  intro ad v hv
  unfold allOf at hv
  split at hv
  · rename_i hs; exact ⟨hs, hv⟩
  · cases hv

/-- The promises of rows alone. -/
def plain (Ψ : Pr) : Pr := fun ad => if ad.spot = none then Ψ ad else none
theorem plain_spec {Ψ : Pr} {ad : Addr} {v : Value} : plain Ψ ad = some v ↔ ad.spot = none ∧ Ψ ad = some v := by
  unfold plain
  split
  · rename_i h; simp [h]
  · rename_i h; simp [h]
theorem plain_le (Ψ : Pr) : PLe (plain Ψ) Ψ := fun ad v h => (plain_spec.1 h).2
theorem rowAt_plain {ad : Option Addr} {vs : List Value} : rowAt Ψ ad vs → rowAt (plain Ψ) ad vs
  | ⟨g, off, e, hc⟩ => ⟨g, off, e, fun j u hj => plain_spec.2 ⟨rfl, hc j u hj⟩⟩
theorem reads_plain : ∀ (t : Ty) (x : t.den) (cs : List Value), reads Ψ t x cs → reads (plain Ψ) t x cs
  | .int _, _, _, hr => hr
  | .bool, _, _, hr => hr
  | .fnc, _, _, hr => hr
  | .any, _, _, hr => hr
  | .str, _, _, hr => hr
  | .unit, _, _, hr => hr
  | .arr e, _, _, ⟨a, cap, e1, h1, h2, h3⟩ => ⟨a, cap, e1, h1, h2, h3.imp id fun ⟨cells, hd, hrow⟩ => ⟨cells, rdL_mono (reads_plain e) _ _ hd, rowAt_plain hrow⟩⟩
  | .vec _ e, _, _, ⟨h1, h2⟩ => ⟨h1, rdL_mono (reads_plain e) _ _ h2⟩
  | .pair a b, _, _, ⟨u, v, e, h1, h2⟩ => ⟨u, v, e, reads_plain a _ _ h1, reads_plain b _ _ h2⟩
  | .rose a b, r, vs, hr => rdR_mono (fun _ _ => rowAt_plain) (reads_plain a) (reads_plain b) r vs hr
theorem RelV_plain {t : Ty} {x : t.den} {v : Value} : RelV Ψ β (.d t x) v → RelV (plain Ψ) β (.d t x) v
  | ⟨cs, hc, e⟩ => ⟨cs, reads_plain t x cs hc, e⟩
theorem outs_plain : ∀ {ts : List Ty} {x : dens ts} {vs : List Value}, RelL Ψ β (outs ts x) vs → RelL (plain Ψ) β (outs ts x) vs
  | [], _, _, hr => hr
  | [t], x, _, ⟨v, vs', e, hv, hl⟩ => ⟨v, vs', e, RelV_plain hv, hl⟩
  | t :: u :: ts, x, _, ⟨v, vs', e, hv, hl⟩ => ⟨v, vs', e, RelV_plain hv, outs_plain hl⟩
theorem outV_plain {ts : List Ty} {x : dens ts} {v : Value} (hr : RelV Ψ β (outV ts x) v) : RelV (plain Ψ) β (outV ts x) v := by
  match ts, x, hr with
  | [], _, hr => exact hr
  | [t], x, hr => exact RelV_plain hr
  | t :: u :: ts, x, hr =>
    have e : outV (t :: u :: ts) x = .tup (outs (t :: u :: ts) x) := by
      match ts with
      | [] => rfl
      | _ :: _ => rfl
    rw [e] at hr ⊢
    obtain ⟨vs, e', hl⟩ := hr
    exact ⟨vs, e', outs_plain hl⟩
/-- The rows' promises of the one, the others of the other one. -/
def joinP (Ψ Ψ' : Pr) : Pr := fun ad => if ad.spot = none then Ψ' ad else Ψ ad
theorem plain_joinP (Ψ Ψ' : Pr) : PLe (plain Ψ') (joinP Ψ Ψ') := fun ad v h => by
  obtain ⟨h1, h2⟩ := plain_spec.1 h
  unfold joinP
  rw [if_pos h1]
  exact h2
theorem joinP_step {Ψ' : Pr} (hb : Below w.heap.size w w') (hle : ∀ a u, plain Ψ a = some u → Ψ' a = some u)
    (hnew : ∀ a u, Ψ' a = some u → plain Ψ a = some u ∨ (w.heap.size ≤ a.block ∧ a.spot = none ∧ w'.cell? a = some u)) : Step Ψ w (joinP Ψ Ψ') w' := by
  refine ⟨hb, fun ad v hv => ?_, fun ad v hv => ?_⟩
  · unfold joinP
    split
    · rename_i hs; exact hle _ _ (plain_spec.2 ⟨hs, hv⟩)
    · exact hv
  · unfold joinP at hv
    split at hv
    · exact (hnew ad v hv).imp (fun h => (plain_spec.1 h).2) id
    · exact .inl hv
theorem plain_prom (hi : InvH C.P B w0 Ψ β h w) : ∀ ad v, plain Ψ ad = some v → ad.spot = none ∧ w.cell? ad = some v := fun ad v hv => by
  obtain ⟨h1, h2⟩ := plain_spec.1 hv
  exact ⟨h1, Pm_plain h1 (hi.prom ad v h2)⟩

theorem le_allOf (hi : InvH C.P B w0 Ψ β h w) : PLe (plain Ψ) (allOf w) := by
  intro ad v hv
  obtain ⟨h1, h2⟩ := plain_prom hi ad v hv
  unfold allOf
  rw [if_pos h1]
  exact h2

theorem RelV_flat {Ψ1 Ψ2 : Pr} {β1 β2 : List Value} {t : Ty} {x : t.den} {v : Value} (hf : t.flat = true) : RelV Ψ1 β1 (.d t x) v → RelV Ψ2 β2 (.d t x) v
  | ⟨cs, hc, e⟩ => ⟨cs, reads_flat t x cs hf hc, e⟩

theorem outs_flat {Ψ1 Ψ2 : Pr} {β1 β2 : List Value} : ∀ {ts : List Ty} {x : dens ts} {vs : List Value}, flats ts = true → RelL Ψ1 β1 (outs ts x) vs → RelL Ψ2 β2 (outs ts x) vs
  | [], _, _, _, hr => hr
  | [t], x, _, hf, ⟨v, vs', e, hv, hl⟩ => ⟨v, vs', e, RelV_flat (by simpa [flats] using hf) hv, hl⟩
  | t :: u :: ts, x, _, hf, ⟨v, vs', e, hv, hl⟩ => by
    have hf1 : t.flat = true := by unfold flats at hf; simp only [Bool.and_eq_true] at hf; exact hf.1
    have hf2 : flats (u :: ts) = true := by
      rw [flats] at hf
      simp only [Bool.and_eq_true] at hf
      exact hf.2
    exact ⟨v, vs', e, RelV_flat hf1 hv, outs_flat hf2 hl⟩

theorem outV_flat {Ψ1 Ψ2 : Pr} {β1 β2 : List Value} {ts : List Ty} {x : dens ts} {v : Value} (hf : flats ts = true) (hr : RelV Ψ1 β1 (outV ts x) v) : RelV Ψ2 β2 (outV ts x) v := by
  match ts, x, hf, hr with
  | [], _, _, hr => exact hr
  | [t], x, hf, hr => exact RelV_flat (by simpa [flats] using hf) hr
  | t :: u :: ts, x, hf, hr =>
    have e : outV (t :: u :: ts) x = .tup (outs (t :: u :: ts) x) := by
      match ts with
      | [] => rfl
      | _ :: _ => rfl
    rw [e] at hr ⊢
    obtain ⟨vs, e', hl⟩ := hr
    exact ⟨vs, e', outs_flat hf hl⟩

theorem maskC_rel : ∀ (t : Ty) (cs : List AV) (vs : List Value), RelL Ψ β cs vs → (∀ u ∈ vs, u.oneCell' = true) → RelL Ψ β (maskC t cs) vs
  | .pair a b, cs, vs, hr, h1 => by
    unfold maskC
    rw [takeN_eq, dropN_eq]
    have := RelL_append _ _ _ _ (maskC_rel a _ _ (RelL_take a.cells cs vs hr) fun u hu => h1 u (List.mem_of_mem_take hu)) (maskC_rel b _ _ (RelL_drop a.cells cs vs hr) fun u hu => h1 u (List.mem_of_mem_drop hu))
    rwa [List.take_append_drop] at this
  | .any, [], _, hr, _ => hr
  | .any, _ :: _, _, ⟨v, vs', e, _, hl⟩, h1 => ⟨v, vs', e, ⟨[v], ⟨v, rfl, h1 v (by rw [e]; exact List.mem_cons_self ..)⟩, rfl⟩, hl⟩
  | .int _, _, _, hr, _ => hr
  | .bool, _, _, hr, _ => hr
  | .str, _, _, hr, _ => hr
  | .arr _, _, _, hr, _ => hr
  | .vec _ _, _, _, hr, _ => hr
  | .unit, _, _, hr, _ => hr
  | .fnc, _, _, hr, _ => hr
  | .rose _ _, _, _, hr, _ => hr
theorem maskD_rel (t : Ty) {av : AV} {v : Value} (hr : RelV Ψ β av v) : RelV Ψ β (maskD t av) v := by
  unfold maskD
  split
  · rename_i cs
    cases anyIn t with
    | true =>
      obtain ⟨vs, e, hl, h1⟩ := hr
      exact ⟨vs, e, maskC_rel t cs vs hl h1, h1⟩
    | false => exact hr
  · exact hr
theorem maskAs_rel : ∀ (ts : List Ty) {avs : List AV} {vs : List Value}, RelL Ψ β avs vs → RelL Ψ β (maskAs ts avs) vs
  | [], [], _, hr => hr
  | [], _ :: _, _, hr => hr
  | _ :: _, [], _, hr => hr
  | t :: ts, _ :: _, _, ⟨v, vs', e, hv, hl⟩ => ⟨v, vs', e, maskD_rel t hv, maskAs_rel ts hl⟩

theorem contract_call {sp : FSpec} {g : FuncId} {avs : List AV} {vs : List Value} {x : dens sp.ps} (hS : Sat C.P g sp) (hi : InvH C.P B w0 Ψ β h w) (hr : RelL Ψ β avs vs) (hd : asDs h sp.ps avs = some x) (hpre : sp.pre x)
    (hc : flats sp.rs = true ∨ refsA avs = []) : Calls C.P g vs.toArray w fun e w' => ∃ v Ψ', e = .returned v ∧ Step Ψ w Ψ' w' ∧ RelV Ψ' β (outV sp.rs (sp.post x)) v := by
  rcases hc with hc | hc
  · have hjoin : PLe Ψ (joinP Ψ (allOf w)) := fun ad v hv => by
      unfold joinP
      split
      · rename_i hs; exact le_allOf hi _ _ (plain_spec.2 ⟨hs, hv⟩)
      · exact hv
    have hrel := asDs_rel hjoin hd hr (fun k _ tid e xs hg u hu => grow_reading hi hjoin hg (fun g n cap _ _ i v hv => by unfold joinP; rw [if_pos rfl]; unfold allOf; rw [if_pos rfl]; exact hv) hu)
    have hrel' : RelL (allOf w) [] (outs sp.ps x) vs := by
      have h1 := outs_plain hrel
      refine RelL_mono (fun ad v hv => ?_) (fun _ _ h => h) _ _ h1
      obtain ⟨g1, g2⟩ := plain_spec.1 hv
      unfold joinP at g2
      rw [if_pos g1] at g2
      exact g2
    refine (hS (allOf w) w x vs (allOf_spec w) hrel' hpre).mono ?_
    rintro e w' ⟨v, Ψ', rfl, hb, _, _, hv⟩
    exact ⟨v, Ψ, rfl, ⟨hb, PLe.refl _, fun _ _ h => .inl h⟩, outV_flat hc hv⟩
  · have hrel := asDs_rel (PLe.refl Ψ) hd hr (by rw [hc]; exact Reading.nil)
    refine (hS (plain Ψ) w x vs (plain_prom hi) (outs_plain hrel) hpre).mono ?_
    rintro e w' ⟨v, Ψ', rfl, hb, hle, hnew, hv⟩
    exact ⟨v, joinP Ψ Ψ', rfl, joinP_step hb hle hnew, RelV_mono (plain_joinP Ψ Ψ') (fun k v h => by simp at h) _ _ (outV_plain hv)⟩

theorem rdL_of_plain {Ψ' : Pr} (hp : PLe (plain Ψ) Ψ') {e : Ty} {xs : List e.den} {cs : List Value} (hr : rdL (reads Ψ e) xs cs) : rdL (reads Ψ' e) xs cs :=
  rdL_mono (fun x cs h => reads_mono hp e x cs (reads_plain e x cs h)) _ _ hr

theorem rv_of_plain {Ψ' : Pr} (hp : PLe (plain Ψ) Ψ') {t : Ty} {x : t.den} {v : Value} : rv Ψ t x v → rv Ψ' t x v
  | ⟨cs, hc, e⟩ => ⟨cs, reads_mono hp t x cs (reads_plain t x cs hc), e⟩
theorem mapR_of_plain {Ψ' : Pr} (hp : PLe (plain Ψ) Ψ') {e : Ty} : ∀ {m : List (Int × e.den)} {es : List MapEntry}, mapR Ψ e m es → mapR Ψ' e m es
  | [], _, hr => hr
  | _ :: _, _, ⟨x, es', h1, h2, h3, h4, h5⟩ => ⟨x, es', h1, h2, h3, rv_of_plain hp h4, mapR_of_plain hp h5⟩

/-- A call of a function that hands back a slice of its own. -/
theorem fresh_raw {g : GSpec} {f : FuncId} {x : dens g.ps} {vs px : List Value} (hS : SatGp C.P f px g) (hi1 : InvH C.P B w0 Ψ β h w) (hrel : RelL Ψ [] (outs g.ps x) vs) (hpre : g.pre x) :
    Calls C.P f (px ++ vs).toArray w fun e w' => ∃ v Ψ', e = .returned v ∧ Step Ψ w Ψ' w' ∧ v.oneCell' = true ∧ BlkR C.P (fun k => k < w.heap.size) Ψ' [v] w' 0 (.grow g.tid g.e (g.post x)) ∧
      ∀ gg, claims [v] 0 gg (.grow g.tid g.e (g.post x)) → ∀ a, a.block = gg → pl a → Ψ' a = none := by
  refine (hS (plain Ψ) w x vs (plain_prom hi1) (outs_plain hrel) hpre).mono ?_
  rintro e w' ⟨v, Ψp, rfl, hb, hle, hnew, hone, hblk, hfree⟩
  refine ⟨v, joinP Ψ Ψp, rfl, joinP_step hb hle hnew, hone, ?_, fun gg hc a ha hs => ?_⟩
  · refine hblk.imp id ?_
    rintro ⟨gg, cap, cur, h1, h2, h3, h4, h5, h6, h7, h8⟩
    exact ⟨gg, cap, cur, h1, h2, h3, h4, h5, h6, h7, rdL_of_plain (plain_joinP Ψ Ψp) h8⟩
  · unfold joinP
    by_cases hs' : a.spot = none
    · rw [if_pos hs']
      exact hfree gg hc a ha
    · rw [if_neg hs']
      cases hp : Ψ a with
      | none => rfl
      | some u =>
        have h1 := Pm_lt (hi1.prom a u hp)
        have h2 := (claims_lt hblk hc).1
        omega

/-- A block under another number. -/
theorem grow_at {P : Program} {Ψ' : Pr} {β' : List Value} {k : Nat} {B' : Nat → Prop} {v : Value} {tid : TypeId} {e : Ty} {xs : List e.den} (hget : β'[k]? = some v) (hB : ∀ k, B k → B' k) (hblk : BlkR P B' Ψ' [v] w' 0 (.grow tid e xs)) : BlkR P B Ψ' β' w' k (.grow tid e xs) := by
  refine hblk.imp (fun ⟨ad, h1, h2⟩ => ⟨ad, ?_, h2⟩) (fun ⟨gg, cap, cur, h1, h2, h3, h4⟩ => ⟨gg, cap, cur, ?_, h2, fun hb => h3 (hB _ hb), h4⟩)
  · simp at h1; rw [hget, h1]
  · simp at h1; rw [hget, h1]
theorem claims_at {β' : List Value} {k gg : Nat} {v : Value} {tid : TypeId} {e : Ty} {xs : List e.den} (hget : β'[k]? = some v) (hc : claims β' k gg (.grow tid e xs)) : claims [v] 0 gg (.grow tid e xs) := by
  obtain ⟨n, cap, hz, hc⟩ := hc
  rw [hget] at hc
  exact ⟨n, cap, hz, by simpa using hc⟩

theorem fresh_core {g : GSpec} {f : FuncId} {x : dens g.ps} {vs px : List Value} (hS : SatGp C.P f px g) (hi1 : InvH C.P B w0 Ψ β h w) (hrel : RelL Ψ [] (outs g.ps x) vs) (hpre : g.pre x) :
    Calls C.P f (px ++ vs).toArray w fun e w' => ∃ v Ψ', e = .returned v ∧ Step Ψ w Ψ' w' ∧ v ≠ hole ∧ InvH C.P B w0 Ψ' (β ++ [v]) (h ++ [.grow g.tid g.e (g.post x)]) w' := by
  refine (fresh_raw hS hi1 hrel hpre).mono ?_
  rintro e w' ⟨v, Ψ', rfl, hst, hone, hblk, hfree⟩
  have hi2 := hi1.step hst
  have hB := hi1.size
  have hget : (β ++ [v])[h.length]? = some v := by rw [← hi2.len]; simp
  have hblk' : BlkR C.P B Ψ' (β ++ [v]) w' h.length (.grow g.tid g.e (g.post x)) := grow_at hget hB hblk
  have hcl0 : ∀ {gg : Nat}, claims (β ++ [v]) h.length gg (.grow g.tid g.e (g.post x)) → claims [v] 0 gg (.grow g.tid g.e (g.post x)) := fun hc => claims_at hget hc
  have hclg : ∀ {gg : Nat}, claims [v] 0 gg (.grow g.tid g.e (g.post x)) → w.heap.size ≤ gg := fun hc => Nat.le_of_not_lt (claims_lt hblk hc).1
  have hlt : ∀ {j : Nat} {b : Blk}, h[j]? = some b → j < β.length := fun {j b} hj => by
    rw [hi2.len]
    rcases Nat.lt_or_ge j h.length with h' | h'
    · exact h'
    · rw [List.getElem?_eq_none h'] at hj; cases hj
  have hold : ∀ {j gg : Nat} {b : Blk}, h[j]? = some b → claims (β ++ [v]) j gg b → gg < w.heap.size := fun hj hc => (claims_lt (hi1.blk _ _ hj) (claims_snoc (hlt hj) hc)).2
  refine ⟨v, Ψ', rfl, hst, grow_not_hole hblk rfl, ?_⟩
  refine ⟨hi2.low, hi2.size, hi2.prom, hi2.own, by simp [hi2.len], fun j u hj => ?_, fun j b hj => ?_, fun j b gg hj hc a ha hs => ?_, fun i j bi bj gg hij hbi hbj hci hcj => ?_⟩
  · rcases getElem?_snoc hj with h | ⟨_, rfl⟩
    · exact hi2.one j u h
    · exact hone
  · rcases getElem?_snoc hj with h | ⟨rfl, rfl⟩
    · exact BlkR_snoc v (hi2.blk j b h)
    · exact hblk'
  · rcases getElem?_snoc hj with h | ⟨rfl, rfl⟩
    · exact hi2.free j b gg h (claims_snoc (hlt h) hc) a ha hs
    · exact hfree gg (hcl0 hc) a ha hs
  · rcases getElem?_snoc hbi with h1 | ⟨rfl, rfl⟩
    · rcases getElem?_snoc hbj with h2 | ⟨rfl, rfl⟩
      · exact hi2.sep i j bi bj gg hij h1 h2 (claims_snoc (hlt h1) hci) (claims_snoc (hlt h2) hcj)
      · have := hold h1 hci
        have := hclg (hcl0 hcj)
        omega
    · rcases getElem?_snoc hbj with h2 | ⟨rfl, rfl⟩
      · have := hold h2 hcj
        have := hclg (hcl0 hci)
        omega
      · exact absurd rfl hij

/-! ### A place is filled -/
theorem set_at {k j : Nat} {u v : Value} (hj : (β.set k u)[j]? = some v) : (j = k ∧ v = u) ∨ (j ≠ k ∧ β[j]? = some v) := by
  by_cases hjk : j = k
  · subst hjk
    have hlt : j < β.length := by
      rcases Nat.lt_or_ge j β.length with h' | h'
      · exact h'
      · rw [List.getElem?_eq_none (by simpa using h')] at hj; cases hj
    rw [List.getElem?_set_self hlt] at hj
    simp at hj
    exact .inl ⟨rfl, hj.symm⟩
  · rw [List.getElem?_set_ne (Ne.symm hjk)] at hj
    exact .inr ⟨hjk, hj⟩

theorem hole_keep {k j : Nat} {u v : Value} (hk : β[k]? = some hole) (hv : v ≠ hole) (hj : β[j]? = some v) : (β.set k u)[j]? = some v := by
  have hjk : j ≠ k := by
    rintro rfl
    rw [hk] at hj
    simp at hj
    exact hv hj.symm
  rw [List.getElem?_set_ne (Ne.symm hjk)]
  exact hj

mutual
theorem RelV_fill {Ψ Ψ' : Pr} {β : List Value} {k : Nat} {u : Value} (h : PLe Ψ Ψ') (hk : β[k]? = some hole) : ∀ (av : AV) (v : Value), RelV Ψ β av v → RelV Ψ' (β.set k u) av v
  | .junk, _, _ => trivial
  | .und, _, hr => hr
  | .tt, _, hr => hr
  | .ff, _, hr => hr
  | .d t x, _, ⟨cs, hc, e⟩ => ⟨cs, reads_mono h t x cs hc, e⟩
  | .fs e xs, _, ⟨a, ea, cs, hc, e'⟩ => ⟨a, ea, cs, reads_mono h (.arr e) xs cs hc, e'⟩
  | .nils, _, hr => hr
  | .agg cs, _, ⟨vs, e, hl, h1⟩ => ⟨vs, e, RelL_fill h hk cs vs hl, h1⟩
  | .tup cs, _, ⟨vs, e, hl⟩ => ⟨vs, e, RelL_fill h hk cs vs hl⟩
  | .fn _ cs, _, ⟨vs, e, hl⟩ => ⟨vs, e, RelL_fill h hk cs vs hl⟩
  | .bnd _ cs, _, ⟨vs, e, hl⟩ => ⟨vs, e, RelL_fill h hk cs vs hl⟩
  | .sv _ _ _ _, _, ⟨g, n, c, hg, r⟩ => ⟨g, n, c, hole_keep hk (by simp [hole]) hg, r⟩
  | .nilf, _, hr => hr
  | .nilp, _, hr => hr
  | .own _ _, _, ⟨g, hg, e⟩ => ⟨g, hole_keep hk (by simp [hole]) hg, e⟩
  | .sl _, _, ⟨hr, hn⟩ => ⟨hole_keep hk hn hr, hn⟩
  | .slp _ _ _, _, ⟨g, n, c, hg, r⟩ => ⟨g, n, c, hole_keep hk (by simp [hole]) hg, r⟩
  | .rp t x, _, ⟨g, off, cs, e, hc, hp⟩ => ⟨g, off, cs, e, reads_mono h t x cs hc, fun j u hj => h _ _ (hp j u hj)⟩
  | .yld _, _, ⟨l, hg, e⟩ => ⟨l, hole_keep hk (by simp [hole, yldV]) hg, e⟩
theorem RelL_fill {Ψ Ψ' : Pr} {β : List Value} {k : Nat} {u : Value} (h : PLe Ψ Ψ') (hk : β[k]? = some hole) : ∀ (cs : List AV) (vs : List Value), RelL Ψ β cs vs → RelL Ψ' (β.set k u) cs vs
  | [], _, hr => hr
  | c :: cs, _, ⟨v, vs', e, hv, hl⟩ => ⟨v, vs', e, RelV_fill h hk c v hv, RelL_fill h hk cs vs' hl⟩
end

theorem RelF_fill {Ψ' : Pr} {k : Nat} {u : Value} (h : PLe Ψ Ψ') (hk : β[k]? = some hole) : ∀ (fs : List (List AV)) (as : List Act), RelF Ψ β fs as → RelF Ψ' (β.set k u) fs as
  | [], _, hr => hr
  | f :: fs, _, ⟨a, as', e, ⟨h1, h2⟩, h3⟩ => ⟨a, as', e, ⟨Dok_mono h h1, RelL_fill h hk _ _ h2⟩, RelF_fill h hk fs as' h3⟩

theorem BlkR_fill {P : Program} {k j : Nat} {u : Value} {b : Blk} (hk : β[k]? = some hole) (hb : BlkR P B Ψ β w j b) : BlkR P B Ψ (β.set k u) w j b := by
  cases b with
  | gone => trivial
  | log ys Y own xs => exact BlkR_log hb (fun _ h => by have := hb.1; rw [this] at h; cases h; exact hole_keep hk (by simp [hole, yldV]) this) (PLe.refl _).m (Nat.le_refl _) fun _ _ => rfl
  | lof ys Y own => exact BlkR_lof hb (fun _ h => by have := hb.1; rw [this] at h; cases h; exact hole_keep hk (by simp [hole, yldV]) this) (PLe.refl _).m (Nat.le_refl _) fun _ _ => rfl
  | cells cs =>
    obtain ⟨g, c, e, h1, h2, h3, h4, h5⟩ := hb
    exact ⟨g, c, e, hole_keep hk (by simp [hole]) h1, h2, h3, RelL_fill (PLe.refl _) hk _ _ h4, h5⟩
  | grow tid e xs =>
    rcases hb with ⟨ad, h1, h2⟩ | ⟨g, cap, cur, h1, r⟩
    · exact .inl ⟨ad, hole_keep hk (by simp [hole]) h1, h2⟩
    · exact .inr ⟨g, cap, cur, hole_keep hk (by simp [hole]) h1, r⟩
  | kmap es =>
    obtain ⟨g, ms, cl, h1, r⟩ := hb
    exact ⟨g, ms, cl, hole_keep hk (by simp [hole]) h1, r⟩
  | dmap e m =>
    obtain ⟨g, ms, cl, h1, r⟩ := hb
    exact ⟨g, ms, cl, hole_keep hk (by simp [hole]) h1, r⟩
  | diter e last left =>
    obtain ⟨g, gm, ms, cl, seen, h1, r⟩ := hb
    exact ⟨g, gm, ms, cl, seen, hole_keep hk (by simp [hole]) h1, r⟩
  | loop f p ph ts =>
    obtain ⟨l, r, h1, h2, h3, h4, h5, h6⟩ := hb
    exact ⟨l, r, hole_keep hk (by simp [hole, yldV]) h1, h2, h3, h4, RelL_fill (PLe.refl _) hk _ _ h5, h6⟩

theorem claims_fill {k j g : Nat} {u : Value} {b : Blk} (hjk : j ≠ k) (hc : claims (β.set k u) j g b) : claims β j g b := by
  have e : (β.set k u)[j]? = β[j]? := List.getElem?_set_ne (Ne.symm hjk)
  cases b with
  | gone => exact hc
  | log ys Y own xs => exact hc
  | lof ys Y own => exact hc
  | cells cs => simp only [claims] at *; rwa [e] at hc
  | grow tid e' xs => obtain ⟨n, cap, h1, h2⟩ := hc; rw [e] at h2; exact ⟨n, cap, h1, h2⟩
  | kmap es => simp only [claims] at *; rwa [e] at hc
  | dmap e' m => simp only [claims] at *; rwa [e] at hc
  | diter e' last left => simp only [claims] at *; rwa [e] at hc
  | loop f p ph ts => simp only [claims] at *; rwa [e] at hc

/-- A place that was kept is filled. -/
theorem InvH.fill {Ψ' : Pr} {k : Nat} {u : Value} {b : Blk} (hi : InvH C.P B w0 Ψ β h w) (hst : Step Ψ w Ψ' w') (hk : h[k]? = some .gone) (hβ : β[k]? = some hole) (hone : u.oneCell' = true) (hnew : BlkR C.P B Ψ' (β.set k u) w' k b)
    (hge : ∀ g, claims (β.set k u) k g b → w.heap.size ≤ g) (hfree : ∀ g, claims (β.set k u) k g b → ∀ a, a.block = g → pl a → Ψ' a = none) : InvH C.P B w0 Ψ' (β.set k u) (h.set k b) w' := by
  have hi2 := hi.step hst
  have hkl : k < h.length := by
    rcases Nat.lt_or_ge k h.length with h' | h'
    · exact h'
    · rw [List.getElem?_eq_none h'] at hk; cases hk
  have at_ : ∀ {j : Nat} {b1 : Blk}, (h.set k b)[j]? = some b1 → (j = k ∧ b1 = b) ∨ (j ≠ k ∧ h[j]? = some b1) := by
    intro j b1 hj
    by_cases hjk : j = k
    · subst hjk
      rw [List.getElem?_set_self hkl] at hj
      simp at hj
      exact .inl ⟨rfl, hj.symm⟩
    · rw [List.getElem?_set_ne (Ne.symm hjk)] at hj
      exact .inr ⟨hjk, hj⟩
  have old : ∀ {j g : Nat} {b1 : Blk}, h[j]? = some b1 → claims β j g b1 → g < w.heap.size := fun hj hc => (claims_lt (hi.blk _ _ hj) hc).2
  refine ⟨hi2.low, hi2.size, hi2.prom, hi2.own, by simp [hi2.len], fun j v hj => ?_, fun j b1 hj => ?_, fun j b1 g hj hc a ha hs => ?_, fun i j bi bj g hij hbi hbj hci hcj => ?_⟩
  · rcases set_at hj with ⟨_, rfl⟩ | ⟨_, h1⟩
    · exact hone
    · exact hi2.one j v h1
  · rcases at_ hj with ⟨rfl, rfl⟩ | ⟨_, h1⟩
    · exact hnew
    · exact BlkR_fill hβ (hi2.blk j b1 h1)
  · rcases at_ hj with ⟨rfl, rfl⟩ | ⟨hjk, h1⟩
    · exact hfree g hc a ha hs
    · exact hi2.free j b1 g h1 (claims_fill hjk hc) a ha hs
  · rcases at_ hbi with ⟨rfl, rfl⟩ | ⟨hik, h1⟩ <;> rcases at_ hbj with ⟨rfl, rfl⟩ | ⟨hjk, h2⟩
    · exact hij rfl
    · have := hge g hci
      have := old h2 (claims_fill hjk hcj)
      omega
    · have := hge g hcj
      have := old h1 (claims_fill hik hci)
      omega
    · exact hi2.sep i j bi bj g hij h1 h2 (claims_fill hik hci) (claims_fill hjk hcj)

/-- What is laid, before it has a place. -/
def NewB (C : Ctx) (B : Nat → Prop) (Ψ : Pr) (w w' : World) (j : Nat) (v : Value) (b : Blk) (av : AV) : Prop :=
  v.oneCell' = true ∧ ∀ β' : List Value, β'[j]? = some v → BlkR C.P B Ψ β' w' j b ∧ (∀ g, claims β' j g b → w.heap.size ≤ g) ∧ (∀ g, claims β' j g b → ∀ a, a.block = g → pl a → Ψ a = none) ∧ RelV Ψ β' av v

theorem yldG_wp (hsp : SpecSound C) {o : Oper} {mid : List AV} {b : Blk} {j : Nat} (hy : YldG C h o mid b) (hi : InvH C.P B w0 Ψ β h w) (hev : ∀ x ∈ o.op.operands, RelV Ψ β (ev mid x) (a.eval x)) {ro : Option Nat} {Q : Exit → Act → World → Prop} :
    o.wpIn (Fw ro) 0 C.P a w (fun a' w' => ∃ v Ψ', a' = a.put o.dst v ∧ Step Ψ w Ψ' w' ∧ NewB C B Ψ' w w' j v b (.sl j)) Q := by
  obtain ⟨f, args, ats, g, gs, x, ho, hef, hs, hnr, hg, hd', hpre, rfl⟩ := hy
  have hnd : ∀ c, o.op ≠ .defer c := fun c hc => by rw [ho] at hc; cases hc
  refine ⟨fun _ _ => trivial, ?_⟩
  rw [Oper.semAt_eq _ _ _ hnd]
  have hfv := hev f (by simp [ho, Op.operands, Call.operands])
  rw [hef] at hfv
  obtain ⟨vs, hfv, hl⟩ := hfv
  simp only [RelL] at hl
  subst hl
  rw [op_enter ho hfv hg]
  have hargs := evs_rel (Ψ := Ψ) (β := β) (fr := mid) (a := a) args.toList fun x hx => hev x (by simp [ho, Op.operands, Call.operands]; exact .inr (by simpa using hx))
  rw [List.append_nil]
  have hrel := asDs_rel (PLe.refl Ψ) hd' hargs (by rw [noRefs_eq hnr]; exact Reading.nil)
  refine ⟨fun h => (by cases ro <;> cases h), (callsIn_w ro _ (fresh_raw (px := []) (hsp.2.1 g gs hs) hi hrel hpre)).mono ?_⟩
  rintro e w' ⟨v, Ψ', rfl, hst, hone, hblk, hfree⟩
  exact ⟨v, Ψ', rfl, hst, hone, fun β' hget => ⟨grow_at hget hi.size hblk, fun g hc => Nat.le_of_not_lt (claims_lt hblk (claims_at hget hc)).1, fun g hc => hfree g (claims_at hget hc), hget, grow_not_hole hblk rfl⟩⟩

theorem yldA_wp {o : Oper} {b : Blk} {j : Nat} (hy : YldA C o b) (hi : InvH C.P B w0 Ψ β h w) {ro : Option Nat} {Q : Exit → Act → World → Prop} :
    o.wpIn (Fw ro) 0 C.P a w (fun a' w' => ∃ v Ψ', a' = a.put o.dst v ∧ Step Ψ w Ψ' w' ∧ NewB C B Ψ' w w' j v b (.own j 0)) Q := by
  obtain ⟨cs, hcs, rfl⟩ := hy
  obtain ⟨dst, op, ty, pos, after, guard⟩ := o
  unfold acell at hcs
  split at hcs
  · rename_i t ho
    simp only at ho
    subst ho
    split at hcs
    · rename_i z hz
      obtain ⟨i, v, hii, hiz, rfl⟩ := zero_spec hz
      obtain ⟨hl, h1⟩ := cellsOf'_rel (Ψ := Ψ) (β := []) (fun k u hk => by simp at hk) hcs (ofV_rel v)
      have hnd : ∀ c, (Op.alloc t) ≠ .defer c := fun c hc => by cases hc
      refine ⟨fun _ _ => trivial, ?_⟩
      rw [Oper.semAt_eq _ _ _ hnd]
      have hrun : (execOp a.eval { dst := dst, op := .alloc t, type := ty, pos := pos, after := after, guard := guard }).run C.P w = .ok (.value (.pointer (some ⟨w.heap.size, 0, none⟩))) (w.alloc (.cells v.cells t)) := by
        simp [execOp, Instr.alloc, zeroValue, typeInfo, hii, hiz, newVar, newRow]
      rw [hrun]
      refine ⟨_, Ψ, rfl, ⟨(Below.refl _ w).alloc (Nat.le_refl _) _, PLe.refl _, fun _ _ h => .inl h⟩, rfl, fun β' hget => ⟨⟨w.heap.size, v.cells, t, hget, heap_alloc_new w _, out_new hi.size, RelL_mono (PLe.refl _) (fun k v h => by simp at h) _ _ hl, h1⟩, fun g hc => ?_, fun g hc ad had hs => ?_, w.heap.size, hget, rfl⟩⟩
      · simp only [claims] at hc
        rw [hget] at hc
        simp at hc
        omega
      · simp only [claims] at hc
        rw [hget] at hc
        simp at hc
        cases hp : Ψ ad with
        | none => rfl
        | some u =>
          have := Pm_lt (hi.prom ad u hp)
          omega
    · cases hcs
  · cases hcs

theorem yldP_wp {o : Oper} {mid : List AV} {b : Blk} {j : Nat} (hy : YldP C h o mid b) (hi : InvH C.P B w0 Ψ β h w) (hev : ∀ x ∈ o.op.operands, RelV Ψ β (ev mid x) (a.eval x)) {ro : Option Nat} {Q : Exit → Act → World → Prop} :
    o.wpIn (Fw ro) 0 C.P a w (fun a' w' => ∃ v Ψ', a' = a.put o.dst v ∧ Step Ψ w Ψ' w' ∧ NewB C B Ψ' w w' j v b (.sl j)) Q := by
  obtain ⟨args, ats, e, y, t, tx, tid, sz, z, ys, ho, hargs, hats, htf, hel, hsz, hz, hys, hcell, hzo, hroom, rfl⟩ := hy
  obtain ⟨dst, op, ty, pos, after, guard⟩ := o
  simp only at ho hev
  subst ho
  have hnd : ∀ c, (Op.call { callee := .builtin .append, args, argTypes := ats }) ≠ .defer c := fun c hc => by cases hc
  refine ⟨fun _ _ => trivial, ?_⟩
  rw [Oper.semAt_eq _ _ _ hnd]
  have hrel := evs_rel (Ψ := Ψ) (β := β) (fr := mid) (a := a) args.toList (fun x hx => hev x (by simp only [Op.operands, Call.operands, Array.mem_append]; exact .inr (by simpa using hx)))
  rw [hargs] at hrel
  obtain ⟨u, vs', hvs, hu, hl⟩ := hrel
  obtain ⟨v, vs'', rfl, hv, hl⟩ := hl
  simp only [RelL] at hl
  subst hl
  obtain ⟨ad, rfl, hrv⟩ := hu
  obtain ⟨i, zv, hT⟩ := appT hel hsz hz hcell hzo
  obtain ⟨news, hs, hd⟩ := tail_src hi hv hys
  obtain ⟨u', w', hrun, hb, hone, hblk, hcl⟩ := append_empty (ty := ty) hT ad hs hd hi.size hroom
  have hats' : ats = #[t, tx] := by rw [← Array.toArray_toList (xs := ats), hats]
  subst hats'
  have hmap : args.map a.eval = #[.slice ad 0 0, v] := by
    rw [← Array.toArray_toList (xs := args.map a.eval), Array.toList_map, hvs]
    rfl
  have hrun' : (execOp a.eval { dst := dst, op := .call { callee := .builtin .append, args, argTypes := #[t, tx] }, type := ty, pos := pos, after := after, guard := guard }).run C.P w = .ok (.value u') w' := by
    have h0 : (do pure (Next.value (← Builtin.append_ #[t, tx] ty #[.slice ad 0 0, v])) : Sem Next).run C.P w = .ok (.value u') w' := by simp [hrun]
    rw [← h0]
    simp [execOp, resolve, invoke, builtin, hmap]
  rw [hrun']
  refine ⟨u', Ψ, rfl, ⟨hb, PLe.refl _, fun _ _ h => .inl h⟩, hone, fun β' hget => ⟨hblk β' j hget, fun g hc => hcl β' j g hget hc, fun g hc ad' had hs' => ?_, hget, ?_⟩⟩
  · cases hp : Ψ ad' with
    | none => rfl
    | some x =>
      have h1 := Pm_lt (hi.prom ad' x hp)
      have h2 := hcl β' j g hget hc
      omega
  · exact grow_not_hole (hblk β' j hget) hget

/-- An operation of a drawing region's head. -/
theorem yld_wp (hsp : SpecSound C) {o : Oper} {mid : List AV} {av : AV} (hy : Yld C h o mid av) (hi : InvH C.P B w0 Ψ β h w) (hev : ∀ x ∈ o.op.operands, RelV Ψ β (ev mid x) (a.eval x)) {ro : Option Nat} {Q : Exit → Act → World → Prop} :
    o.wpIn (Fw ro) 0 C.P a w (fun a' w' => ∃ v Ψ', a' = a.put o.dst v ∧ Step Ψ w Ψ' w' ∧ RelV Ψ' β av v) Q := by
  have hnd : ∀ c, o.op ≠ .defer c := fun c hc => by
    rcases hy with ⟨f, args, ats, g, sp, x, ho, _⟩ | ⟨hn, _⟩
    · rw [ho] at hc; cases hc
    · rw [hc] at hn; simp [neutral] at hn
  refine ⟨fun _ _ => trivial, ?_⟩
  rw [Oper.semAt_eq _ _ _ hnd]
  rcases hy with ⟨f, args, ats, g, sp, x, ho, hef, hs, hc, hg, hd, hpre, rfl⟩ | ⟨hn, r, hr, hp, rfl⟩
  · have hfv := hev f (by simp [ho, Op.operands, Call.operands])
    rw [hef] at hfv
    obtain ⟨vs, hfv, hl⟩ := hfv
    simp only [RelL] at hl
    subst hl
    rw [op_enter ho hfv hg]
    have hargs := evs_rel (Ψ := Ψ) (β := β) (fr := mid) (a := a) args.toList fun x hx => hev x (by simp [ho, Op.operands, Call.operands]; exact .inr (by simpa using hx))
    rw [List.append_nil]
    refine ⟨fun h => (by cases ro <;> cases h), (callsIn_w ro _ (contract_call (hsp.1 g sp hs) hi (maskAs_rel sp.ps hargs) hd hpre (hc.imp id noRefs_eq))).mono ?_⟩
    rintro e w' ⟨v, Ψ', rfl, hst, hv⟩
    exact ⟨v, Ψ', rfl, hst, hv⟩
  · obtain ⟨_, _, v, Ψ', w', hrun, hst, hv⟩ := neutral_sound hi hev hn hr hp
    rw [hrun]
    exact ⟨v, Ψ', rfl, hst, hv⟩

end Go.AM
namespace Go.AM
set_option linter.unusedVariables false
open Go.RowKit

variable {B : Nat → Prop} {w0 : World} {C : Ctx} {Ψ Ψ0 : Pr} {β : List Value} {h : List Blk} {w w' : World} {fr : List AV} {a a0 : Act} {As : List Act} {W : List Nat}

theorem getD_both {listed : Array Bool} {i : Nat} (h : listed.getD i true = false) : listed.getD i false = false := by
  rw [Array.getD_eq_getD_getElem?] at *
  cases hx : listed[i]? with
  | none => rw [hx] at h; simp at h
  | some b => rw [hx] at h; simpa using h

theorem getD_in {listed : Array Bool} {i : Nat} (hi : i < listed.size) (h : listed.getD i false = false) : listed.getD i true = false := by
  rw [Array.getD_eq_getD_getElem?] at *
  rw [Array.getElem?_eq_getElem hi] at *
  simpa using h

theorem memN'_iff {t : Nat} : ∀ {l : List Nat}, memN' t l = true ↔ t ∈ l
  | [] => by simp [memN']
  | u :: l => by simp [memN', memN'_iff (l := l), Nat.beq_eq]

theorem memN_iff {t : Nat} : ∀ {l : List Nat}, memN t l = true ↔ t ∈ l
  | [] => by simp [memN]
  | u :: l => by simp [memN, memN_iff (l := l), Nat.beq_eq]

/-- An operation's edge, as a fact. -/
theorem hasEdge_spec {o : Oper} {j : Nat} (he : hasEdge o j = true) : ∃ e ∈ o.after, Region.binds .any e = true ∧ e.on = j := by
  unfold hasEdge at he
  rw [Array.any_eq_true'] at he
  obtain ⟨e, hm, hc⟩ := he
  simp only [Bool.and_eq_true, Nat.beq_eq] at hc
  exact ⟨e, hm, hc⟩

theorem backEdges_spec {i : Nat} {o : Oper} (hb : backEdges i o = true) : ∀ e ∈ o.after, Region.binds .any e = true → e.on < i := by
  intro e hm hbd
  unfold backEdges at hb
  rw [Array.all_eq_true'] at hb
  have := hb e hm
  simp only [hbd, Bool.not_true, Bool.false_or, Nat.blt_eq] at this
  exact this

theorem memS_iff {t : Nat} : ∀ {l : List Nat}, memS t l = true ↔ t ∈ l
  | [] => by simp [memS]
  | u :: l => by simp [memS, memS_iff (l := l), Nat.beq_eq]

theorem edgesOf_spec {o : Oper} {j : Nat} (h : j ∈ edgesOf o) : ∃ e ∈ o.after, Region.binds .any e = true ∧ e.on = j := by
  simp only [edgesOf, List.mem_map, List.mem_filter] at h
  obtain ⟨e, ⟨h1, h2⟩, h3⟩ := h
  exact ⟨e, by simpa using h1, h2, h3⟩

/-- What is listed has what it waits for listed. -/
def EdgeClosed (all : Array Oper) (listed : Array Bool) : Prop :=
  ∀ i o, all[i]? = some o → listed.getD i false = true → ∀ e ∈ o.after, Region.binds .any e = true → listed.getD e.on false = true

theorem sweep_listed {all : Array Oper} {listed : Array Bool} (hc : EdgeClosed all listed) : ∀ (k : Nat) (S : List Nat), (∀ j ∈ S, listed.getD j false = true) → ∀ j ∈ sweep all k S, listed.getD j false = true
  | 0, S, hS => hS
  | k + 1, S, hS => by
    unfold sweep
    split
    · rename_i hk
      split
      · rename_i o ho
        refine sweep_listed hc k _ (fun j hj => ?_)
        rcases List.mem_append.1 hj with h | h
        · obtain ⟨e, he, hb, rfl⟩ := edgesOf_spec h
          exact hc k o ho (hS k (memS_iff.1 hk)) e he hb
        · exact hS j h
      · exact sweep_listed hc k S hS
    · exact sweep_listed hc k S hS

theorem allIn_spec {S : List Nat} : ∀ {i : Nat}, allIn S i = true → ∀ j, j < i → j ∈ S
  | 0, _, j, hj => by omega
  | i + 1, hd, j, hj => by
    simp only [allIn, Bool.and_eq_true] at hd
    rcases Nat.lt_or_ge j i with h | h
    · exact allIn_spec hd.2 j h
    · have : j = i := by omega
      subst this
      exact memS_iff.1 hd.1

/-- Whoever waits for all finds all listed when it is ready. -/
theorem depAll_spec {all : Array Oper} {listed : Array Bool} {o : Oper} {i : Nat} (hc : EdgeClosed all listed) (hd : depAll all o i = true) (hr : ∀ e ∈ o.after, Region.binds .any e = true → listed.getD e.on false = true) :
    ∀ j, j < i → listed.getD j false = true := fun j hj =>
  sweep_listed hc i _ (fun k hk => let ⟨e, he, hb, hk⟩ := edgesOf_spec hk; hk ▸ hr e he hb) j (allIn_spec hd j hj)

theorem EdgeClosed.set {all : Array Oper} {listed : Array Bool} {i : Nat} {o : Oper} (hc : EdgeClosed all listed) (ho : all[i]? = some o) (hr : ∀ e ∈ o.after, Region.binds .any e = true → listed.getD e.on false = true) :
    EdgeClosed all (listed.setIfInBounds i true) := by
  have up : ∀ j, listed.getD j false = true → (listed.setIfInBounds i true).getD j false = true := by
    intro j hj
    rw [Array.getD_eq_getD_getElem?] at hj ⊢
    by_cases hji : j = i
    · subst hji
      have hlt : j < listed.size := by
        rcases Nat.lt_or_ge j listed.size with h | h
        · exact h
        · rw [Array.getElem?_eq_none h] at hj; simp at hj
      rw [Array.getElem?_setIfInBounds_self_of_lt hlt]
      rfl
    · rw [Array.getElem?_setIfInBounds_ne (Ne.symm hji)]
      exact hj
  intro j oj hoj hl e he hb
  apply up
  by_cases hji : j = i
  · subst hji
    rw [ho] at hoj
    simp at hoj
    subst hoj
    exact hr e he hb
  · refine hc j oj hoj ?_ e he hb
    rw [Array.getD_eq_getD_getElem?, Array.getElem?_setIfInBounds_ne (Ne.symm hji)] at hl
    rw [Array.getD_eq_getD_getElem?]
    exact hl

theorem tailOk_spec {all : Array Oper} : ∀ {l : List Oper} {i0 : Nat}, tailOk all i0 l = true → ∀ j o, l[j]? = some o → depAll all o (i0 + j) = true ∧ backEdges (i0 + j) o = true
  | [], _, _, j, o, hj => by simp at hj
  | o' :: l, i0, ht, 0, o, hj => by
    simp at hj
    subst hj
    simp only [tailOk, Bool.and_eq_true] at ht
    exact ht.1
  | o' :: l, i0, ht, j + 1, o, hj => by
    simp only [tailOk, Bool.and_eq_true] at ht
    have := tailOk_spec ht.2 j o (by simpa using hj)
    rwa [show i0 + 1 + j = i0 + (j + 1) by omega] at this

theorem ready_iff {ops : Array Oper} {listed : Array Bool} {i : Nat} : i ∈ Region.ready .any ops listed ↔ listed.getD i true = false ∧ ∃ o, ops[i]? = some o ∧ ∀ e ∈ o.after, Region.binds .any e = true → listed.getD e.on false = true := mem_ready

theorem wpOp_at {ops : Array Oper} {i : Nat} {o : Oper} {K : Act → World → Prop} {Q : Exit → Act → World → Prop} (ho : ops[i]? = some o)
    {ro : Option Nat} (h : if Region.wanted o (yielded ops a.tmps) then o.wpIn (Fw ro) 0 C.P a w K Q else K (a.put o.dst undef) w) : wpOpIn (Fw ro) 0 C.P ops Q i K a w := by
  unfold wpOpIn
  simp only [ho]
  split
  · rename_i hw; rw [if_pos hw] at h; exact h
  · rename_i hw; rw [if_neg hw] at h; exact ⟨fun _ _ => trivial, h⟩

theorem list_at {ops : Array Oper} {i : Nat} : ops.toList[i]? = ops[i]? := by simp

/-- The tail, one operation at a time. -/
theorem seq_any {ro : Option Nat} (ops : Array Oper) (Q : Exit → Act → World → Prop) : ∀ (rest : List Oper) (i0 fuel : Nat) (listed : Array Bool) (a : Act) (w : World), rest = ops.toList.drop i0 → i0 ≤ ops.size → tailOk ops i0 rest = true → listed.size = ops.size → EdgeClosed ops listed →
    (∀ j, j < ops.size → listed.getD j false = decide (j < i0)) → rest.length ≤ fuel → wpListIn (Fw ro) 0 C.P ops Q rest a w → wpAnyIn (Fw ro) 0 C.P .any ops Q fuel listed a w
  | [], i0, fuel, listed, a, w, hrest, hi0, _, hsz, _, hl, _, hw => by
    have hsize : ops.size ≤ i0 := by
      have := congrArg List.length hrest
      simp at this
      omega
    have hnone : Region.ready .any ops listed = [] := by
      cases hr : Region.ready .any ops listed with
      | nil => rfl
      | cons i l =>
        obtain ⟨h1, o, h2, _⟩ := ready_iff.1 (show i ∈ Region.ready .any ops listed by rw [hr]; simp)
        have hlt : i < ops.size := by
          rcases Nat.lt_or_ge i ops.size with h' | h'
          · exact h'
          · rw [Array.getElem?_eq_none h'] at h2; cases h2
        have h3 := hl i hlt
        rw [getD_both h1] at h3
        simp at h3
        omega
    cases fuel with
    | zero => exact ⟨hnone, hw⟩
    | succ n => exact ⟨fun _ => hw, fun i hi => by rw [hnone] at hi; cases hi⟩
  | o :: rest, i0, 0, listed, a, w, _, _, _, _, _, _, hf, _ => by simp at hf
  | o :: rest, i0, fuel + 1, listed, a, w, hrest, hi0, ht, hsz, hcl, hl, hf, hw => by
    have hlt : i0 < ops.size := by
      have := congrArg List.length hrest
      simp at this
      omega
    have ho : ops[i0]? = some o := by
      have : (ops.toList.drop i0)[0]? = some o := by rw [← hrest]; rfl
      rw [List.getElem?_drop] at this
      simpa using this
    have hrest' : rest = ops.toList.drop (i0 + 1) := by
      have := congrArg List.tail hrest
      simpa [List.tail_drop] using this
    have hready : i0 ∈ Region.ready .any ops listed := by
      rw [ready_iff]
      refine ⟨getD_in (by omega) (by rw [hl i0 hlt]; simp), o, ho, fun e he hb => ?_⟩
      have h1 := backEdges_spec (tailOk_spec ht 0 o rfl).2 e he hb
      rw [hl e.on (by omega)]
      simp only [decide_eq_true_eq]
      omega
    refine ⟨fun hr => (by rw [hr] at hready; cases hready), fun i hi => ?_⟩
    obtain ⟨h1, oi, h2, h3⟩ := ready_iff.1 hi
    have hilt : i < ops.size := by
      rcases Nat.lt_or_ge i ops.size with h' | h'
      · exact h'
      · rw [Array.getElem?_eq_none h'] at h2; cases h2
    have hge : i0 ≤ i := by
      have := hl i hilt
      rw [getD_both h1] at this
      simp at this
      exact this
    have hii : i = i0 := by
      rcases Nat.lt_or_ge i0 i with hgt | hle
      · exfalso
        have hoi : (o :: rest)[i - i0]? = some oi := by
          rw [hrest, List.getElem?_drop, show i0 + (i - i0) = i by omega]
          simpa using h2
        have hd := (tailOk_spec ht _ _ hoi).1
        rw [show i0 + (i - i0) = i by omega] at hd
        have := depAll_spec hcl hd h3 i0 hgt
        rw [hl i0 hlt] at this
        simp at this
      · omega
    subst hii
    rw [ho] at h2
    simp at h2
    subst h2
    have K : ∀ a' w', wpListIn (Fw ro) 0 C.P ops Q rest a' w' → wpAnyIn (Fw ro) 0 C.P .any ops Q fuel (listed.setIfInBounds i true) a' w' := fun a' w' hw' =>
      seq_any ops Q rest (i + 1) fuel _ a' w' hrest' (by omega) (by simp only [tailOk, Bool.and_eq_true] at ht; exact ht.2) (by simpa using hsz) (hcl.set ho h3) (fun j hj => by
        by_cases hji : j = i
        · subst hji
          rw [Array.getD_eq_getD_getElem?, Array.getElem?_setIfInBounds_self_of_lt (by omega)]
          simp
        · rw [Array.getD_eq_getD_getElem?, Array.getElem?_setIfInBounds_ne (Ne.symm hji), ← Array.getD_eq_getD_getElem?, hl j hj]
          simp only [decide_eq_decide]
          omega) (by simpa using hf) hw'
    refine wpOp_at ho ?_
    unfold wpListIn at hw
    split
    · rename_i hwant
      rw [if_pos hwant] at hw
      exact Oper.wpIn_mono K hw
    · rename_i hwant
      rw [if_neg hwant] at hw
      exact K _ _ hw.2

def unl (l : List Bool) : Nat := l.countP (!·)

theorem unl_set : ∀ {l : List Bool} {i : Nat}, l[i]? = some false → unl (l.set i true) + 1 = unl l
  | [], i, h => by simp at h
  | b :: l, 0, h => by
    simp at h
    subst h
    simp [unl]
  | b :: l, i + 1, h => by
    have := unl_set (l := l) (i := i) (by simpa using h)
    simp only [unl, List.set_cons_succ, List.countP_cons] at *
    omega

theorem unl_false : ∀ {l : List Bool} {m : Nat}, m ≤ l.length → (∀ j, m ≤ j → j < l.length → l[j]? = some false) → l.length - m ≤ unl l
  | [], m, _, _ => by simp
  | b :: l, 0, _, h => by
    have h0 := h 0 (Nat.le_refl _) (by simp)
    simp at h0
    subst h0
    have := unl_false (l := l) (m := 0) (by omega) (fun j _ hj => by simpa using h (j + 1) (by omega) (by simpa using hj))
    simp only [unl, List.countP_cons, List.length_cons] at *
    simp
    omega
  | b :: l, m + 1, hm, h => by
    have := unl_false (l := l) (m := m) (by simpa using hm) (fun j hj hjl => by simpa using h (j + 1) (by omega) (by simpa using hjl))
    simp only [unl, List.countP_cons, List.length_cons] at *
    omega

/-- What the head's check says. -/
structure Head (all : Array Oper) (head : List Oper) : Prop where
  self : ∀ (i : Nat) (o : Oper), head[i]? = some o → ∀ t, o.dst = some t → t ∉ looks all o
  back : ∀ (i : Nat) (o : Oper), head[i]? = some o → ∀ e ∈ o.after, Region.binds .any e = true → e.on < i
  pair : ∀ (i j : Nat) (oi oj : Oper), head[i]? = some oi → head[j]? = some oj → i ≠ j → ∀ t, oj.dst = some t → oi.dst ≠ some t ∧ (t ∈ looks all oi → (j < i ∧ hasEdge oi j = true) ∨ (i < j ∧ hasEdge oj i = true))

theorem head_spec {all : Array Oper} {head : List Oper} (hk : headOk all head.zipIdx = true) : Head all head := by
  unfold headOk at hk
  rw [List.all_eq_true] at hk
  have at_ : ∀ {i : Nat} {o : Oper}, head[i]? = some o → (o, i) ∈ head.zipIdx := fun h => by
    rw [List.mem_zipIdx_iff_getElem?]; exact h
  refine ⟨fun i o hi t ht hm => ?_, fun i o hi => ?_, fun i j oi oj hi hj hij t ht => ?_⟩
  · have := hk _ (at_ hi)
    simp only [Bool.and_eq_true] at this
    have h1 := this.1.1
    unfold selfOk at h1
    rw [ht] at h1
    simp only [Bool.not_eq_true'] at h1
    rw [memN'_iff.2 hm] at h1
    cases h1
  · have := hk _ (at_ hi)
    simp only [Bool.and_eq_true] at this
    exact backEdges_spec this.1.2
  · have := hk _ (at_ hi)
    simp only [Bool.and_eq_true, List.all_eq_true] at this
    have h1 := this.2 _ (at_ hj)
    unfold pairOk at h1
    rw [ht] at h1
    simp only [Bool.or_eq_true, Nat.beq_eq, Bool.and_eq_true, Bool.not_eq_true', beq_eq_false_iff_ne] at h1
    rcases h1 with h1 | ⟨h1, h2⟩
    · exact absurd h1 hij
    · refine ⟨h1, fun hm => ?_⟩
      rcases h2 with (h2 | h2) | h2
      · rw [memN'_iff.2 hm] at h2; cases h2
      · exact .inl (by simpa [Nat.blt_eq] using h2)
      · exact .inr (by simpa [Nat.blt_eq] using h2)

theorem Head.distinct {all : Array Oper} {head : List Oper} (hh : Head all head) : Distinct head := fun i j oi oj t hi hj hti htj => by
  rcases Nat.decEq i j with h | h
  · exact absurd hti (hh.pair i j oi oj hi hj h t htj).1
  · exact h

theorem take_at {all : Array Oper} {m i : Nat} {o : Oper} (h : (all.toList.take m)[i]? = some o) : i < m ∧ all[i]? = some o := by
  rw [List.getElem?_take] at h
  split at h
  · rename_i hlt; exact ⟨hlt, by simpa using h⟩
  · cases h

theorem at_take {all : Array Oper} {m i : Nat} {o : Oper} (hm : i < m) (h : all[i]? = some o) : (all.toList.take m)[i]? = some o := by
  rw [List.getElem?_take, if_pos hm]
  simpa using h

/-- The heap may be known less well. -/
theorem InvH.weaken {β' : List Value} {h' : List Blk} (hi : InvH C.P B w0 Ψ β h w) (hl : β'.length = h'.length) (hb : ∀ (k : Nat) (v : Value), β'[k]? = some v → β[k]? = some v)
    (hw : ∀ k b, h'[k]? = some b → BlkR C.P B Ψ β' w k b ∧ ∀ g, claims β' k g b → ∃ b'', h[k]? = some b'' ∧ claims β k g b'') : InvH C.P B w0 Ψ β' h' w where
  low := hi.low
  size := hi.size
  prom := hi.prom
  own := hi.own
  len := hl
  one := fun k u hk => hi.one k u (hb k u hk)
  blk := fun k b hk => (hw k b hk).1
  free := fun k b g hk hc ad had hsp => by
    obtain ⟨b'', h1, h2⟩ := (hw k b hk).2 g hc
    exact hi.free k b'' g h1 h2 ad had hsp
  sep := fun i j bi bj g hij hbi hbj hci hcj => by
    obtain ⟨bi', h1, h2⟩ := (hw i bi hbi).2 g hci
    obtain ⟨bj', h3, h4⟩ := (hw j bj hbj).2 g hcj
    exact hi.sep i j bi' bj' g hij h1 h3 h2 h4

/-- What has been laid so far. -/
def ExOk (m : Nat) (effi : Nat → Blk) (listed : Array Bool) (us : List Value) (exl : List Blk) : Prop :=
  us.length = m ∧ exl.length = m ∧ ∀ i, i < m → exl[i]? = some (if listed.getD i false then effi i else .gone) ∧ (listed.getD i false = false → us[i]? = some hole)

/-- What has been written so far. -/
def rwNow (n : Nat) (rwi : Nat → Option (Nat × Blk)) (listed : Array Bool) : List (Nat × Blk) := (List.range n).filterMap fun i => if listed.getD i false then rwi i else none

/-- The state in the middle of the head. -/
def JInv (B : Nat → Prop) (w0 : World) (Ψ0 : Pr) (β : List Value) (H : HW) (below : List (List AV)) (As : List Act) (W : List Nat) (a0 : Act) (head : List Oper) (top : List AV) (vals : Nat → AV) (effi : Nat → Blk) (rwi : Nat → Option (Nat × Blk)) (listed : Array Bool) (a : Act) (w : World) : Prop :=
  ∃ Ψ us exl, Ext B Ψ0 Ψ ∧ InvH C.P B w0 Ψ (β ++ us) (wr (H.h0 ++ exl) (rwNow head.length rwi listed)) w ∧ ExOk head.length effi listed us exl ∧ RelF Ψ (β ++ us) below As ∧ Dok Ψ a ∧ a.tmps.size = top.length ∧
    (∀ t, t < top.length → RelV Ψ (β ++ us) (baseL head top vals (fun i => listed.getD i false) t) (a.tmps.toList.getD t undef)) ∧ Same Ψ0 W a0 a

theorem wr_len : ∀ (h : List Blk) (rw : List (Nat × Blk)), (wr h rw).length = h.length
  | h, [] => rfl
  | h, (k, b) :: l => by
    show (wr (hset h k b) l).length = _
    rw [wr_len, hset_eq, List.length_set]
theorem wr_get : ∀ {h : List Blk} {rw : List (Nat × Blk)} {k : Nat}, (∀ p ∈ rw, p.1 ≠ k) → (wr h rw)[k]? = h[k]?
  | h, [], k, _ => rfl
  | h, (j, b) :: l, k, hk => by
    show (wr (hset h j b) l)[k]? = _
    rw [wr_get fun p hp => hk p (List.mem_cons_of_mem _ hp), hset_eq, List.getElem?_set_ne (hk (j, b) (by simp))]
theorem wr_set : ∀ {h : List Blk} {rw : List (Nat × Blk)} {k : Nat} {b : Blk}, (∀ p ∈ rw, p.1 ≠ k) → wr (h.set k b) rw = (wr h rw).set k b
  | h, [], k, b, _ => rfl
  | h, (j, c) :: l, k, b, hk => by
    show wr (hset (h.set k b) j c) l = (wr (hset h j c) l).set k b
    rw [hset_eq, hset_eq, List.set_comm _ _ (hk (j, c) (by simp)).symm, wr_set fun p hp => hk p (List.mem_cons_of_mem _ hp)]
theorem wr_append : ∀ (h : List Blk) (a b : List (Nat × Blk)), wr h (a ++ b) = wr (wr h a) b
  | h, [], b => rfl
  | h, (j, c) :: l, b => wr_append (hset h j c) l b
theorem wr_mid {h : List Blk} {A B : List (Nat × Blk)} {k : Nat} {b : Blk} (hk : ∀ p ∈ A ++ B, p.1 ≠ k) : wr h (A ++ (k, b) :: B) = hset (wr h (A ++ B)) k b := by
  rw [wr_append, wr_append]
  show wr (hset (wr h A) k b) B = _
  rw [hset_eq, hset_eq, wr_set fun p hp => hk p (List.mem_append_right _ hp)]
theorem wr_at : ∀ {h : List Blk} {rw : List (Nat × Blk)} {k : Nat} {b : Blk}, (k, b) ∈ rw → rw.Pairwise (fun p q => p.1 ≠ q.1) → k < h.length → (wr h rw)[k]? = some b
  | h, [], k, b, hm, _, _ => by simp at hm
  | h, (j, c) :: l, k, b, hm, hd, hk => by
    have hd' := List.pairwise_cons.1 hd
    show (wr (hset h j c) l)[k]? = some b
    rcases List.mem_cons.1 hm with e | hm
    · simp only [Prod.mk.injEq] at e
      obtain ⟨rfl, rfl⟩ := e
      rw [wr_get fun p hp => (hd'.1 p hp).symm, hset_eq, List.getElem?_set_self hk]
    · exact wr_at hm hd'.2 (by rw [hset_eq, List.length_set]; exact hk)
theorem notKey_iff {k : Nat} : ∀ {l : List (Nat × Blk)}, notKey k l = true → ∀ p ∈ l, p.1 ≠ k
  | [], _, p, hp => by simp at hp
  | (j, b) :: l, h, p, hp => by
    simp only [notKey, Bool.and_eq_true, Bool.not_eq_true'] at h
    rcases List.mem_cons.1 hp with rfl | hp
    · intro e
      rw [show Nat.beq j k = true from by rw [show j = k from e]; simp] at h
      cases h.1
    · exact notKey_iff h.2 p hp
theorem fm_congr {f g : Nat → Option (Nat × Blk)} : ∀ {l : List Nat}, (∀ x ∈ l, f x = g x) → l.filterMap f = l.filterMap g
  | [], _ => rfl
  | x :: l, h => by
    rw [List.filterMap_cons, List.filterMap_cons, h x (by simp), fm_congr fun y hy => h y (List.mem_cons_of_mem x hy)]
theorem rw_mem {n : Nat} {rwi : Nat → Option (Nat × Blk)} {listed : Array Bool} {p : Nat × Blk} (h : p ∈ rwNow n rwi listed) : ∃ j, j < n ∧ listed.getD j false = true ∧ rwi j = some p := by
  unfold rwNow at h
  obtain ⟨j, hj, he⟩ := List.mem_filterMap.1 h
  split at he
  · rename_i hl
    exact ⟨j, List.mem_range.1 hj, hl, he⟩
  · cases he
theorem rw_ins {L L' : Nat → Bool} {rwi : Nat → Option (Nat × Blk)} {i : Nat} {p : Nat × Blk} (hr : rwi i = some p) (hi0 : L i = false) (hi1 : L' i = true) (hL : ∀ j, j ≠ i → L' j = L j) :
    ∀ (l : List Nat), l.Nodup → i ∈ l → ∃ A B, l.filterMap (fun j => if L j then rwi j else none) = A ++ B ∧ l.filterMap (fun j => if L' j then rwi j else none) = A ++ p :: B ∧ ∀ q ∈ A ++ B, ∃ j, j ∈ l ∧ j ≠ i ∧ rwi j = some q
  | [], _, h => by simp at h
  | x :: l, hn, h => by
    have hn' := List.nodup_cons.1 hn
    have tail : ∀ (M : List Nat), i ∉ M → M.filterMap (fun j => if L' j then rwi j else none) = M.filterMap (fun j => if L j then rwi j else none) := by
      intro M hM
      apply fm_congr
      intro j hj
      rw [hL j (fun e => hM (e ▸ hj))]
    have mem : ∀ (M : List Nat), i ∉ M → ∀ q ∈ M.filterMap (fun j => if L j then rwi j else none), ∃ j, j ∈ M ∧ j ≠ i ∧ rwi j = some q := by
      intro M hM q hq
      obtain ⟨j, hj, he⟩ := List.mem_filterMap.1 hq
      split at he
      · exact ⟨j, hj, fun e => hM (e ▸ hj), he⟩
      · cases he
    by_cases hx : x = i
    · subst hx
      refine ⟨[], l.filterMap (fun j => if L j then rwi j else none), ?_, ?_, fun q hq => ?_⟩
      · rw [List.filterMap_cons, hi0]; rfl
      · rw [List.filterMap_cons, hi1]
        simp only [if_true, hr]
        rw [tail l hn'.1]
        rfl
      · obtain ⟨j, hj, h1, h2⟩ := mem l hn'.1 q hq
        exact ⟨j, List.mem_cons_of_mem _ hj, h1, h2⟩
    · have hil : i ∈ l := by
        rcases List.mem_cons.1 h with e | h
        · exact absurd e.symm hx
        · exact h
      obtain ⟨A, B, e1, e2, e3⟩ := rw_ins hr hi0 hi1 hL l hn'.2 hil
      refine ⟨(if L x then rwi x else none).toList ++ A, B, ?_, ?_, fun q hq => ?_⟩
      · rw [List.filterMap_cons, e1]
        cases (if L x then rwi x else none) <;> rfl
      · rw [List.filterMap_cons, e2, hL x hx]
        cases (if L x then rwi x else none) <;> rfl
      · rw [List.append_assoc] at hq
        rcases List.mem_append.1 hq with hq | hq
        · refine ⟨x, by simp, hx, ?_⟩
          split at hq
          · simpa using hq
          · simp at hq
        · obtain ⟨j, hj, h1, h2⟩ := e3 q hq
          exact ⟨j, List.mem_cons_of_mem _ hj, h1, h2⟩

theorem maskG_get : ∀ {h : List Blk} {i : Nat} {b : Blk}, (maskG h)[i]? = some b → ∃ b0, h[i]? = some b0 ∧ b = maskB b0
  | [], _, _, h => by simp [maskG] at h
  | b0 :: h, 0, b, hb => ⟨b0, rfl, by simpa [maskG] using hb.symm⟩
  | b0 :: h, i + 1, b, hb => by
    obtain ⟨b1, h1, h2⟩ := maskG_get (h := h) (i := i) (by simpa [maskG] using hb)
    exact ⟨b1, by simpa using h1, h2⟩
theorem maskG_len : ∀ h : List Blk, (maskG h).length = h.length
  | [] => rfl
  | _ :: h => by simp [maskG, maskG_len h]

theorem set_same {α : Type} : ∀ {l : List α} {i : Nat} {x : α}, l[i]? = some x → l.set i x = l
  | [], _, _, h => by simp at h
  | _ :: l, 0, _, h => by simp at h; subst h; rfl
  | _ :: l, i + 1, _, h => by rw [List.set_cons_succ, set_same (l := l) (by simpa using h)]

theorem gones_len : ∀ l : List Oper, (gones l).length = l.length
  | [] => rfl
  | _ :: l => by simp [gones, gones_len l]
theorem gones_get : ∀ {l : List Oper} {i : Nat}, i < l.length → (gones l)[i]? = some .gone
  | [], _, h => by simp at h
  | _ :: l, 0, _ => rfl
  | _ :: l, i + 1, h => by simpa [gones] using gones_get (l := l) (i := i) (by simpa using h)
theorem gones_all : ∀ {l : List Oper} {i : Nat} {b : Blk}, (gones l)[i]? = some b → b = .gone
  | [], _, _, h => by simp [gones] at h
  | _ :: l, 0, _, h => by simpa [gones] using h.symm
  | _ :: l, i + 1, _, h => gones_all (l := l) (i := i) (by simpa [gones] using h)

theorem app_mono (us : List Value) : ∀ (k : Nat) (v : Value), β[k]? = some v → (β ++ us)[k]? = some v := fun k v hk => by
  have hlt : k < β.length := by
    rcases Nat.lt_or_ge k β.length with h' | h'
    · exact h'
    · rw [List.getElem?_eq_none h'] at hk; cases hk
  rw [List.getElem?_append_left hlt]
  exact hk

theorem getD_put {a : Act} {d t : Nat} {v : Value} : (a.put (some d) v).tmps.toList.getD t undef = if d = t ∧ t < a.tmps.size then v else a.tmps.toList.getD t undef := by
  simp only [Act.put, Array.toList_setIfInBounds, List.getD_eq_getElem?_getD]
  by_cases h : d = t
  · subst h
    by_cases hlt : d < a.tmps.size
    · rw [List.getElem?_set_self (by simpa using hlt), if_pos ⟨rfl, hlt⟩]; rfl
    · rw [if_neg (fun hh => hlt hh.2), List.getElem?_eq_none (by simpa using hlt), List.getElem?_eq_none (by simpa using hlt)]
  · rw [List.getElem?_set_ne h, if_neg (fun hh => h hh.1)]

theorem set_getD {listed : Array Bool} {i j : Nat} (hi : i < listed.size) : (listed.setIfInBounds i true).getD j false = if i = j then true else listed.getD j false := by
  by_cases h : i = j
  · subst h
    rw [if_pos rfl, Array.getD_eq_getD_getElem?, Array.getElem?_setIfInBounds_self_of_lt hi]; rfl
  · rw [if_neg h, Array.getD_eq_getD_getElem?, Array.getElem?_setIfInBounds_ne h, ← Array.getD_eq_getD_getElem?]

/-- What a store of the head does. -/
theorem scall_spec {n k : Nat} {ex : List Blk} {o : Oper} {top : List AV} {h : List Blk} {b' : Blk} (hs : scall C n ex o { top := top, below := [], heap := h } = some (k, b')) :
    (∃ t a x sz i u y tid e xs, o.op = .store t a x ∧ o.dst = none ∧ ev top a = .slp k sz i ∧ ev top x = .d u y ∧ k < n ∧ hget h k = .grow tid e xs ∧
      ∀ h2, hget h2 k = .grow tid e xs → ∃ r2, astore C h2 t (.slp k sz i) (.d u y) = some r2 ∧ r2.heap = hset h2 k b') ∨
    (∃ t a x off cs ds, o.op = .store t a x ∧ o.dst = none ∧ ev top a = .own k off ∧ n ≤ k ∧ hget ex (k - n) = .cells cs ∧ b' = .cells ds ∧
      ∀ h2, hget h2 k = .cells cs → ∃ r2, astore C h2 t (.own k off) (ev top x) = some r2 ∧ r2.heap = hset h2 k b') := by
  unfold scall at hs
  split at hs
  · rename_i t a x ho hdst
    split at hs
    · rename_i k' sz i hea
      split at hs
      · rename_i u y hex
        split at hs
        · rename_i hk
          split at hs
          · rename_i r hr
            simp only [Option.some.injEq, Prod.mk.injEq] at hs
            obtain ⟨rfl, rfl⟩ := hs
            have hr0 := hr
            unfold astore at hr
            simp only at hr
            split at hr
            · rename_i tid e xs hg
              refine .inl ⟨t, a, x, sz, i, u, y, tid, e, xs, ho, hdst, hea, hex, (by have := Nat.le_of_ble_eq_true hk; omega), hg, fun h2 hg2 => ?_⟩
              have hgl : k' < h.length := hget_lt (hget_some hg (by simp))
              split at hr
              · rename_i y' n' hy' hn'
                split at hr
                · rename_i hc
                  simp only [Option.some.injEq] at hr
                  subst hr
                  have hy2 : asD h2 e (.d u y) = some y' := hy'
                  refine ⟨⟨none, .und, hset h2 k' (.grow tid e (xs.set i.toNat y')), none⟩, ?_, ?_⟩
                  · unfold astore
                    simp only [hg2, hy2, hn', hc, if_true]
                  · show hset h2 k' _ = hset h2 k' (hget (hset h k' (.grow tid e (xs.set i.toNat y'))) k')
                    congr 1
                    rw [hset_eq]
                    exact (hget_of' (by rw [List.getElem?_set_self hgl])).symm
                · cases hr
              · cases hr
            · cases hr
          · cases hs
        · cases hs
      · cases hs
    · rename_i k' off hea
      split at hs
      · rename_i hk
        split at hs
        · rename_i cs hg
          split at hs
          · rename_i l sz hl hsz
            split at hs
            · rename_i hc
              simp only [Option.some.injEq, Prod.mk.injEq] at hs
              obtain ⟨rfl, rfl⟩ := hs
              refine .inr ⟨t, a, x, off, cs, _, ho, hdst, hea, Nat.le_of_ble_eq_true hk, hg, rfl, fun h2 hg2 => ⟨⟨none, .und, hset h2 k' (.cells (setCells cs off l)), none⟩, ?_, rfl⟩⟩
              unfold astore
              simp only at hl
              simp only [hg2, hl, hsz, hc, if_true]
            · cases hs
          · cases hs
        · cases hs
      · cases hs
    · cases hs
  · cases hs
where
  hget_of' : ∀ {h : List Blk} {j : Nat} {b : Blk}, h[j]? = some b → hget h j = b
    | [], _, _, hb => by simp at hb
    | b0 :: h, 0, _, hb => by simpa [hget] using hb
    | b0 :: h, j + 1, _, hb => by simpa [hget] using hget_of' (h := h) (j := j) (by simpa using hb)

/-- What an operation of the head may look at. -/
theorem base_inv {H : HW} {head : List Oper} (hU : H.hU = H.h0 ++ gones head) (hM : H.hM = maskG H.h0 ++ gones head) {rw : List (Nat × Blk)} {us : List Value} {exl : List Blk} (hl : exl.length = head.length)
    (hi : InvH C.P B w0 Ψ (β ++ us) (wr (H.h0 ++ exl) rw) w) (i : Nat) (hb : before H.all H.st i = true → rw = []) (hrw : ∀ k b, (k, b) ∈ rw → (∃ tid e xs, H.h0[k]? = some (.grow tid e xs)) ∨ (H.h0.length ≤ k ∧ ∃ cs, b = .cells cs)) : InvH C.P B w0 Ψ (β ++ us) (H.heap i) w := by
  have hlen := hi.len
  rw [wr_len, List.length_append (as := H.h0), hl] at hlen
  refine hi.weaken ?_ (fun _ _ h => h) (fun k b hk => ?_)
  · rw [hlen]
    unfold HW.heap
    split
    · rw [hU, List.length_append, gones_len]
    · rw [hM, List.length_append, gones_len, maskG_len]
  · unfold HW.heap at hk
    have triv : b = .gone → BlkR C.P B Ψ (β ++ us) w k b ∧ ∀ g, claims (β ++ us) k g b → ∃ b'', (wr (H.h0 ++ exl) rw)[k]? = some b'' ∧ claims (β ++ us) k g b'' := by
      rintro rfl
      exact ⟨trivial, fun g hc => hc.elim⟩
    have same : (wr (H.h0 ++ exl) rw)[k]? = some b → BlkR C.P B Ψ (β ++ us) w k b ∧ ∀ g, claims (β ++ us) k g b → ∃ b'', (wr (H.h0 ++ exl) rw)[k]? = some b'' ∧ claims (β ++ us) k g b'' :=
      fun he => ⟨hi.blk k b he, fun g hc => ⟨b, he, hc⟩⟩
    split at hk
    · rename_i hbf
      have hrn := hb hbf
      subst hrn
      rw [hU] at hk
      rcases Nat.lt_or_ge k H.h0.length with h' | h'
      · rw [List.getElem?_append_left h'] at hk
        exact same (by show (H.h0 ++ exl)[k]? = _; rw [List.getElem?_append_left h']; exact hk)
      · rw [List.getElem?_append_right h'] at hk
        exact triv (gones_all hk)
    · rw [hM] at hk
      rcases Nat.lt_or_ge k H.h0.length with h' | h'
      · rw [List.getElem?_append_left (by rw [maskG_len]; exact h')] at hk
        obtain ⟨b0, h0, rfl⟩ := maskG_get hk
        by_cases hgr : ∃ tid e xs, b0 = .grow tid e xs
        · obtain ⟨tid, e, xs, rfl⟩ := hgr
          exact triv rfl
        · have hmb : maskB b0 = b0 := by
            cases b0 with
            | grow tid e xs => exact absurd ⟨tid, e, xs, rfl⟩ hgr
            | _ => rfl
          rw [hmb] at same ⊢
          apply same
          rw [wr_get, List.getElem?_append_left h']
          · exact h0
          · rintro ⟨k', b'⟩ hr
            rcases hrw k' b' hr with ⟨tid, e, xs, hk'⟩ | ⟨hk', _⟩
            · rintro rfl
              rw [h0] at hk'
              simp only [Option.some.injEq] at hk'
              exact hgr ⟨tid, e, xs, hk'⟩
            · show k' ≠ k
              omega
      · rw [List.getElem?_append_right (by rw [maskG_len]; exact h')] at hk
        exact triv (gones_all hk)

/-- An operation's slot holds its value. -/
theorem JInv.put {H : HW} {rwi : Nat → Option (Nat × Blk)} {below : List (List AV)} {head : List Oper} {top : List AV} {vals : Nat → AV} {effi : Nat → Blk} {listed : Array Bool} {i : Nat} {o : Oper} {v : Value} {Ψ' : Pr} {us : List Value} {exl : List Blk} (hd : Distinct head) (hi : head[i]? = some o) (hil : i < listed.size)
    (hE : Ext B Ψ0 Ψ') (hH2 : InvH C.P B w0 Ψ' (β ++ us) (wr (H.h0 ++ exl) (rwNow head.length rwi (listed.setIfInBounds i true))) w) (hx : ExOk head.length effi (listed.setIfInBounds i true) us exl) (hF : RelF Ψ' (β ++ us) below As) (hdf : Dok Ψ' a) (hsz : a.tmps.size = top.length)
    (hb : ∀ t, t < top.length → RelV Ψ' (β ++ us) (baseL head top vals (fun i => listed.getD i false) t) (a.tmps.toList.getD t undef))
    (hS : Same Ψ0 W a0 a) (hW : ∀ t, o.dst = some t → t ∈ W) (hv : RelV Ψ' (β ++ us) (vals i) v) :
    JInv (C := C) B w0 Ψ0 β H below As W a0 head top vals effi rwi (listed.setIfInBounds i true) (a.put o.dst v) w := by
  have same : ∀ t, o.dst ≠ some t → baseL head top vals (fun j => (listed.setIfInBounds i true).getD j false) t = baseL head top vals (fun j => listed.getD j false) t := by
    intro t hne
    by_cases hex : ∃ (j : Nat) (oj : Oper), head[j]? = some oj ∧ oj.dst = some t ∧ listed.getD j false = true
    · obtain ⟨j, oj, h1, h2, h3⟩ := hex
      rw [baseL_at hd h1 h2 (by rw [set_getD hil]; split <;> first | rfl | exact h3), baseL_at hd h1 h2 h3]
    · rw [baseL_none (fun j oj h1 h2 => ?_), baseL_none (fun j oj h1 h2 => ?_)]
      · cases hx : listed.getD j false with
        | false => rfl
        | true => exact absurd ⟨j, oj, h1, h2, hx⟩ hex
      · rw [set_getD hil]
        split
        · rename_i hij
          subst hij
          rw [hi] at h1
          simp at h1
          subst h1
          exact absurd h2 hne
        · cases hx : listed.getD j false with
          | false => rfl
          | true => exact absurd ⟨j, oj, h1, h2, hx⟩ hex
  refine ⟨Ψ', us, exl, hE, hH2, hx, hF, ?_, ?_, fun t ht => ?_, hS.put hW⟩
  · cases o.dst <;> exact hdf
  · cases o.dst with
    | none => exact hsz
    | some d => simpa [Act.put] using hsz
  · cases hdst : o.dst with
    | none =>
      rw [same t (by rw [hdst]; simp)]
      exact hb t ht
    | some d =>
      rw [getD_put]
      by_cases htd : d = t
      · subst htd
        rw [if_pos ⟨rfl, by omega⟩, baseL_at hd hi hdst (by rw [set_getD hil, if_pos rfl])]
        exact hv
      · rw [if_neg (fun hh => htd hh.1), same t (by rw [hdst]; simpa using htd)]
        exact hb t ht

theorem JInv.mono {Ψ Ψ' : Pr} {head : List Oper} {top : List AV} {vals : Nat → AV} {listed : Array Bool} (hle : PLe Ψ Ψ')
    (hb : ∀ t, t < top.length → RelV Ψ β (baseL head top vals (fun i => listed.getD i false) t) (a.tmps.toList.getD t undef)) :
    ∀ t, t < top.length → RelV Ψ' β (baseL head top vals (fun i => listed.getD i false) t) (a.tmps.toList.getD t undef) :=
  fun t ht => RelV_mono hle (fun _ _ h => h) _ _ (hb t ht)

theorem ExOk.set {m i : Nat} {effi : Nat → Blk} {listed : Array Bool} {us : List Value} {exl : List Blk} (hil : i < listed.size) (hul : listed.getD i false = false) (him : i < m) (hx : ExOk m effi listed us exl) (he : effi i = .gone) : ExOk m effi (listed.setIfInBounds i true) us exl := by
  obtain ⟨h1, h2, h3⟩ := hx
  refine ⟨h1, h2, fun j hj => ?_⟩
  obtain ⟨h4, h5⟩ := h3 j hj
  rw [set_getD hil]
  by_cases hij : i = j
  · subst hij
    rw [if_pos rfl]
    rw [hul] at h4
    refine ⟨by rw [if_pos rfl, he]; simpa using h4, fun e => by cases e⟩
  · rw [if_neg hij]
    exact ⟨h4, h5⟩

theorem ExOk.fill {m i : Nat} {effi : Nat → Blk} {listed : Array Bool} {us : List Value} {exl : List Blk} (hil : i < listed.size) (him : i < m) (hx : ExOk m effi listed us exl) (v : Value) : ExOk m effi (listed.setIfInBounds i true) (us.set i v) (exl.set i (effi i)) := by
  obtain ⟨h1, h2, h3⟩ := hx
  refine ⟨by simpa using h1, by simpa using h2, fun j hj => ?_⟩
  obtain ⟨h4, h5⟩ := h3 j hj
  rw [set_getD hil]
  by_cases hij : i = j
  · subst hij
    rw [if_pos rfl]
    exact ⟨by rw [List.getElem?_set_self (by omega)]; simp, fun e => by cases e⟩
  · rw [if_neg hij, List.getElem?_set_ne hij, List.getElem?_set_ne hij]
    exact ⟨h4, h5⟩

theorem RelL_of {Ψ : Pr} {β : List Value} : ∀ (top : List AV) (vs : List Value), vs.length = top.length → (∀ t, t < top.length → RelV Ψ β (fget top t) (vs.getD t undef)) → RelL Ψ β top vs
  | [], [], _, _ => rfl
  | [], _ :: _, h, _ => by simp at h
  | _ :: _, [], h, _ => by simp at h
  | c :: top, v :: vs, h, hr => ⟨v, vs, rfl, by simpa [fget] using hr 0 (by simp), RelL_of top vs (by simpa using h) fun t ht => by simpa [fget] using hr (t + 1) (by simpa using ht)⟩

theorem find_congr {α : Type} {p q : α → Bool} : ∀ {l : List α}, (∀ x ∈ l, p x = q x) → l.find? p = l.find? q
  | [], _ => rfl
  | x :: l, h => by
    have ih := find_congr (l := l) fun y hy => h y (List.mem_cons_of_mem x hy)
    simp only [List.find?_cons, h x (by simp), ih]

theorem fget_out : ∀ {l : List AV} {t : Nat}, l.length ≤ t → fget l t = .junk
  | [], _, _ => rfl
  | _ :: l, 0, h => by simp at h
  | _ :: l, t + 1, h => fget_out (l := l) (by simpa using h)

theorem storesOf_spec : ∀ {l : List Oper} {i0 s : Nat} {o : Oper}, (s, o) ∈ storesOf l i0 → i0 ≤ s ∧ l[s - i0]? = some o
  | [], _, _, _, h => by simp [storesOf] at h
  | o' :: l, i0, s, o, h => by
    have step : (s, o) ∈ storesOf l (i0 + 1) → i0 ≤ s ∧ (o' :: l)[s - i0]? = some o := by
      intro h
      obtain ⟨h1, h2⟩ := storesOf_spec h
      refine ⟨by omega, ?_⟩
      rw [show s - i0 = (s - (i0 + 1)) + 1 by omega]
      simpa using h2
    unfold storesOf at h
    split at h
    · rcases List.mem_cons.1 h with h | h
      · simp only [Prod.mk.injEq] at h
        obtain ⟨rfl, rfl⟩ := h
        exact ⟨Nat.le_refl _, by simp⟩
      · exact step h
    · exact step h
theorem isSt_spec : ∀ {st : List (Nat × Oper)} {i : Nat}, isSt st i = true → ∃ o, (i, o) ∈ st
  | [], _, h => by simp [isSt] at h
  | (s, o) :: l, i, h => by
    simp only [isSt, Bool.or_eq_true, Nat.beq_eq] at h
    rcases h with rfl | h
    · exact ⟨o, by simp⟩
    · obtain ⟨o', ho⟩ := isSt_spec h
      exact ⟨o', List.mem_cons_of_mem _ ho⟩
theorem before_spec {all : Array Oper} : ∀ {st : List (Nat × Oper)} {i : Nat}, before all st i = true → ∀ s o, (s, o) ∈ st → i = s ∨ i ∈ sweep all s (edgesOf o)
  | [], _, _, s, o, h => by simp at h
  | (s', o') :: l, i, h, s, o, hm => by
    simp only [before, Bool.and_eq_true, Bool.or_eq_true, Nat.beq_eq] at h
    rcases List.mem_cons.1 hm with e | hm
    · simp only [Prod.mk.injEq] at e
      obtain ⟨rfl, rfl⟩ := e
      exact h.1.imp id memS_iff.1
    · exact before_spec h.2 s o hm

theorem rwNow_set {n : Nat} {rwi : Nat → Option (Nat × Blk)} {listed : Array Bool} {i : Nat} (hil : i < listed.size) (hn : rwi i = none) : rwNow n rwi (listed.setIfInBounds i true) = rwNow n rwi listed := by
  unfold rwNow
  apply fm_congr
  intro j _
  rw [set_getD hil]
  by_cases hij : i = j
  · subst hij
    rw [if_pos rfl, hn]
    simp
  · rw [if_neg hij]

/-- The head in whatever order, then the tail. -/
theorem head_any {ro : Option Nat} (hsp : SpecSound C) {all : Array Oper} {m : Nat} {below : List (List AV)} {top : List AV} {tops mids : Nat → List AV} {vals : Nat → AV} {wnt : Nat → Bool} {effi : Nat → Blk} {H : HW} {rwi : Nat → Option (Nat × Blk)} {Q : Exit → Act → World → Prop} (hm : m ≤ all.size)
    (hh : Head all (all.toList.take m)) (hH : H = HW.mk' all h (all.toList.take m)) (hβl : β.length = h.length) (ht : Trace C H [] [] (all.toList.take m) 0 top tops mids vals wnt effi rwi) (htail : tailOk all m (all.toList.drop m) = true) (hW : ∀ o ∈ all.toList, ∀ t, o.dst = some t → t ∈ W)
    (hfin : ∀ Ψ us a w, Ext B Ψ0 Ψ → InvH C.P B w0 Ψ (β ++ us) (wr (h ++ effs m effi) (rws m rwi [])) w → RelF Ψ (β ++ us) (tops m :: below) (a :: As) → Same Ψ0 W a0 a → wpListIn (Fw ro) 0 C.P all Q (all.toList.drop m) a w) :
    ∀ (fuel : Nat) (listed : Array Bool) (a : Act) (w : World), listed.size = all.size → (∀ i, m ≤ i → i < all.size → listed.getD i false = false) → EdgeClosed all listed → unl listed.toList ≤ fuel →
      JInv (C := C) B w0 Ψ0 β H below As W a0 (all.toList.take m) top vals effi rwi listed a w → wpAnyIn (Fw ro) 0 C.P .any all Q fuel listed a w := by
  have hd := hh.distinct
  have hml : (all.toList.take m).length = m := by simp; omega
  have hall' : H.all = all := by rw [hH]; rfl
  have hh0 : H.h0 = h := by rw [hH]; rfl
  have hst : H.st = storesOf (all.toList.take m) 0 := by rw [hH]; rfl
  have hU : H.hU = H.h0 ++ gones (all.toList.take m) := by rw [hH]; rfl
  have hM : H.hM = maskG H.h0 ++ gones (all.toList.take m) := by rw [hH]; rfl
  have hsr : ∀ s q, s < m → rwi s = some q → ∃ o, (all.toList.take m)[s]? = some o ∧ isSt H.st s = true ∧ notKey q.1 (rws s rwi []) = true ∧ scall C (hlen H.h0) (effs s effi) o { top := mids s, below := [], heap := H.heap s } = some q := by
    intro s q hs hr
    have ho : (all.toList.take m)[s]? = some ((all.toList.take m)[s]'(by rw [hml]; exact hs)) := List.getElem?_eq_getElem _
    obtain ⟨_, _, hy, hn⟩ := ht.step s _ ho
    cases hw : wnt s with
    | false => rw [(hn hw).2.2] at hr; cases hr
    | true =>
      rcases hy hw with ⟨h1, _, _, _, r, hr', hnk, hsc⟩ | ⟨_, hr', _⟩
      · rw [hr] at hr'
        simp only [Option.some.injEq] at hr'
        subst hr'
        rw [Nat.zero_add] at h1 hsc
        rw [List.nil_append] at hsc
        exact ⟨_, ho, h1, hnk, hsc⟩
      · rw [hr] at hr'; cases hr'
  have hgr0 : ∀ (i k : Nat) tid e xs, (H.heap i)[k]? = some (.grow tid e xs) → k < H.h0.length → before H.all H.st i = true ∧ H.h0[k]? = some (.grow tid e xs) := by
    intro i k tid e xs hk hlt
    unfold HW.heap at hk
    split at hk
    · rename_i hb
      rw [hU, List.getElem?_append_left hlt] at hk
      exact ⟨hb, hk⟩
    · rw [hM, List.getElem?_append_left (by rw [maskG_len]; exact hlt)] at hk
      obtain ⟨b0, _, hb0⟩ := maskG_get hk
      cases b0 <;> simp [maskB] at hb0
  have hkind : ∀ s k b, s < m → rwi s = some (k, b) → (∃ tid e xs, H.h0[k]? = some (.grow tid e xs)) ∨ (H.h0.length ≤ k ∧ ∃ cs, b = .cells cs) := by
    intro s k b hs hr
    obtain ⟨o, _, _, _, hsc⟩ := hsr s _ hs hr
    rcases scall_spec hsc with ⟨t, a, x, sz, i, u, y, tid, e, xs, _, _, _, _, hk, hg, _⟩ | ⟨_, _, _, _, _, ds, _, _, _, hk, _, hb, _⟩
    · exact .inl ⟨tid, e, xs, (hgr0 s k tid e xs (hget_some hg (by simp)) (by rw [← hlen_eq]; exact hk)).2⟩
    · exact .inr ⟨by rw [← hlen_eq]; exact hk, ds, hb⟩
  have hrw : ∀ listed k b, (k, b) ∈ rwNow (all.toList.take m).length rwi listed → (∃ tid e xs, H.h0[k]? = some (.grow tid e xs)) ∨ (H.h0.length ≤ k ∧ ∃ cs, b = .cells cs) := by
    intro listed k b hr
    obtain ⟨s, hs, _, he⟩ := rw_mem hr
    rw [hml] at hs
    exact hkind s k b hs he
  have hdk : ∀ i j q q', i < m → j < m → i ≠ j → rwi i = some q → rwi j = some q' → q.1 ≠ q'.1 := by
    have lt : ∀ i j q q', i < j → j < m → rwi i = some q → rwi j = some q' → q.1 ≠ q'.1 := by
      intro i j q q' hij hj hq hq'
      obtain ⟨_, _, _, hnk, _⟩ := hsr j q' hj hq'
      refine notKey_iff hnk q ?_
      unfold rws
      rw [List.nil_append, List.mem_filterMap]
      exact ⟨i, List.mem_range.2 hij, hq⟩
    intro i j q q' hi hj hij hq hq'
    rcases Nat.lt_or_ge i j with h' | h'
    · exact lt i j q q' h' hj hq hq'
    · exact (lt j i q' q (by omega) hi hq' hq).symm
  have hpw : ∀ listed, (rwNow (all.toList.take m).length rwi listed).Pairwise (fun p q => p.1 ≠ q.1) := by
    intro listed
    unfold rwNow
    rw [hml, List.pairwise_filterMap]
    refine (List.pairwise_lt_range (n := m)).imp_of_mem fun ha hb hlt q hq q' hq' => ?_
    split at hq
    · split at hq'
      · exact hdk _ _ q q' (List.mem_range.1 ha) (List.mem_range.1 hb) (by omega) hq hq'
      · cases hq'
    · cases hq
  have hbf0 : ∀ (listed : Array Bool) (i : Nat), EdgeClosed all listed → listed.getD i false = false → before H.all H.st i = true → rwNow (all.toList.take m).length rwi listed = [] := by
    intro listed i hcd hul hbf
    rw [List.eq_nil_iff_forall_not_mem]
    intro q hq
    obtain ⟨s, hs, hls, he⟩ := rw_mem hq
    rw [hml] at hs
    obtain ⟨_, _, hsi, _, _⟩ := hsr s q hs he
    obtain ⟨o', hm'⟩ := isSt_spec hsi
    have hso := hm'
    rw [hst] at hso
    obtain ⟨_, hso⟩ := storesOf_spec hso
    obtain ⟨_, hso⟩ := take_at (show (all.toList.take m)[s]? = some o' by simpa using hso)
    rw [hall'] at hbf
    rcases before_spec hbf s o' hm' with rfl | hsw
    · rw [hul] at hls; cases hls
    · have := sweep_listed hcd s _ (fun j hj => by
        obtain ⟨e, he, hbd, rfl⟩ := edgesOf_spec hj
        exact hcd s o' hso hls e he hbd) i hsw
      rw [hul] at this
      cases this
  intro fuel
  induction fuel with
  | zero =>
    intro listed a w hsz htl hcd hu hJ
    -- all are listed: there is no tail
    have hall : ∀ i, i < m → listed.getD i false = true := by
      intro i hi
      cases hx : listed.getD i false with
      | true => rfl
      | false =>
        exfalso
        have : listed.toList[i]? = some false := by
          rw [Array.getD_eq_getD_getElem?, Array.getElem?_eq_getElem (by omega)] at hx
          simp at hx
          rw [List.getElem?_eq_getElem (by simp; omega)]
          simp [hx]
        have := unl_set this
        omega
    exact headDone hm hml hd hH hβl ht htail hfin 0 listed a w hsz htl hcd hu hall hJ
  | succ fuel ih =>
    intro listed a w hsz htl hcd hu hJ
    by_cases hall : ∀ i, i < m → listed.getD i false = true
    · exact headDone hm hml hd hH hβl ht htail hfin (fuel + 1) listed a w hsz htl hcd hu hall hJ
    · -- the first one that is not
      have hex : ∃ i, i < m ∧ listed.getD i false = false ∧ ∀ j, j < i → listed.getD j false = true := by
        have hne : ∃ i, i < m ∧ listed.getD i false = false := by
          apply Classical.byContradiction
          intro hn
          apply hall
          intro i hi
          cases hx : listed.getD i false with
          | true => rfl
          | false => exact absurd ⟨i, hi, hx⟩ hn
        obtain ⟨i, hi⟩ := hne
        induction i using Nat.strongRecOn with
        | _ i ih' =>
          by_cases hall' : ∀ j, j < i → listed.getD j false = true
          · exact ⟨i, hi.1, hi.2, hall'⟩
          · have : ∃ j, j < i ∧ listed.getD j false = false := by
              apply Classical.byContradiction
              intro hn
              apply hall'
              intro j hj
              cases hx : listed.getD j false with
              | true => rfl
              | false => exact absurd ⟨j, hj, hx⟩ hn
            obtain ⟨j, hj, hx⟩ := this
            exact ih' j hj ⟨by omega, hx⟩
      refine ⟨fun hr => ?_, fun i hi => ?_⟩
      · exfalso
        obtain ⟨i, hi, hx, hbef⟩ := hex
        have ho : all[i]? = some all[i] := Array.getElem?_eq_getElem (by omega)
        have : i ∈ Region.ready .any all listed := by
          rw [ready_iff]
          exact ⟨getD_in (by omega) hx, _, ho, fun e he hb => hbef _ (hh.back i _ (at_take hi ho) e he hb)⟩
        rw [hr] at this
        cases this
      · obtain ⟨h1, o, h2, h3⟩ := ready_iff.1 hi
        have hilt : i < all.size := by
          rcases Nat.lt_or_ge i all.size with h' | h'
          · exact h'
          · rw [Array.getElem?_eq_none h'] at h2; cases h2
        have him : i < m := by
          rcases Nat.lt_or_ge i m with h' | h'
          · exact h'
          · exfalso
            apply hall
            intro j hj
            have hoi : (all.toList.drop m)[i - m]? = some o := by
              rw [List.getElem?_drop, show m + (i - m) = i by omega]
              simpa using h2
            have hdep := (tailOk_spec htail _ _ hoi).1
            rw [show m + (i - m) = i by omega] at hdep
            exact depAll_spec hcd hdep h3 j (by omega)
        have hoh := at_take him h2
        obtain ⟨hg, he, hy, hn⟩ := ht.step i o hoh
        obtain ⟨hcl, hci⟩ := ht.chain hd i (by omega)
        obtain ⟨hgl, hgi⟩ := guarded_imp hg
        obtain ⟨Ψ, us, exl, hE, hH2, hx, hF, hdf, hasz, hb, hS⟩ := hJ
        -- what it looks at is as the lexical walk has it
        have look : ∀ t, t ∈ looks all o → RelV Ψ (β ++ us) (fget (tops i) t) (a.tmps.toList.getD t undef) := by
          intro t htl
          by_cases htr : t < top.length
          · have h4 : baseL (all.toList.take m) top vals (fun j => decide (j < i)) t = baseL (all.toList.take m) top vals (fun j => listed.getD j false) t := by
              by_cases hex : ∃ (j : Nat) (oj : Oper), (all.toList.take m)[j]? = some oj ∧ oj.dst = some t
              · obtain ⟨j, oj, hj1, hj2⟩ := hex
                have hji : i ≠ j := by
                  rintro rfl
                  rw [hoh] at hj1
                  simp at hj1
                  subst hj1
                  exact hh.self _ _ hoh t hj2 htl
                rcases (hh.pair i j o oj hoh hj1 hji t hj2).2 htl with ⟨hlt, hedge⟩ | ⟨hlt, hedge⟩
                · obtain ⟨e, he', hb', hon⟩ := hasEdge_spec hedge
                  have := h3 e he' hb'
                  rw [hon] at this
                  rw [baseL_at hd hj1 hj2 (by simpa using hlt), baseL_at hd hj1 hj2 this]
                · have hjl : listed.getD j false = false := by
                    cases hx' : listed.getD j false with
                    | false => rfl
                    | true =>
                      obtain ⟨e, he', hb', hon⟩ := hasEdge_spec hedge
                      have := hcd j oj (take_at hj1).2 hx' e he' hb'
                      rw [hon, getD_both h1] at this
                      cases this
                  rw [baseL_none (fun j' oj' hj1' hj2' => ?_), baseL_none (fun j' oj' hj1' hj2' => ?_)]
                  · have := hd j' j oj' oj t hj1' hj1 hj2' hj2
                    rw [this]; exact hjl
                  · have := hd j' j oj' oj t hj1' hj1 hj2' hj2
                    rw [this]; simpa using Nat.le_of_lt hlt
              · rw [baseL_none (fun j oj hj1 hj2 => absurd ⟨j, oj, hj1, hj2⟩ hex), baseL_none (fun j oj hj1 hj2 => absurd ⟨j, oj, hj1, hj2⟩ hex)]
            have h5 := hb t htr
            rw [← h4] at h5
            exact hci t htr _ _ _ h5
          · have : fget (tops i) t = .junk := by
              exact fget_out (by omega)
            rw [this]
            trivial
        have hil : i < listed.size := by omega
        have hnext : ∀ a' w', JInv (C := C) B w0 Ψ0 β H below As W a0 (all.toList.take m) top vals effi rwi (listed.setIfInBounds i true) a' w' → wpAnyIn (Fw ro) 0 C.P .any all Q fuel (listed.setIfInBounds i true) a' w' := fun a' w' hJ' =>
          ih _ a' w' (by simpa using hsz) (fun j hj hjs => by rw [set_getD hil, if_neg (by omega)]; exact htl j hj hjs) (hcd.set h2 h3) (by
            have hx := getD_both h1
            have : listed.toList[i]? = some false := by
              rw [Array.getD_eq_getD_getElem?, Array.getElem?_eq_getElem hil] at hx
              simp at hx
              rw [List.getElem?_eq_getElem (by simpa using hil)]
              simp [hx]
            have := unl_set this
            rw [Array.toList_setIfInBounds]
            omega) hJ'
        have hWo : ∀ t, o.dst = some t → t ∈ W := hW o (by
          have := List.mem_of_getElem? (l := all.toList) (i := i) (by simpa using h2)
          exact this)
        refine wpOp_at h2 ?_
        have hwanted : Region.wanted o (yielded all a.tmps) = wnt i := by
          rw [hall'] at hg
          unfold Guarded at hg
          unfold Region.wanted
          split at hg
          · rename_i hgd
            rw [hgd, hg.2]
          · rename_i j want hgd
            obtain ⟨t, hgt, hcase⟩ := hg
            have hl := look t (by simp [looks, hgd, hgt])
            rw [hgd]
            simp only [yielded_of hgt]
            have cell : ∀ b : Bool, a.tmps.toList.getD t undef = .bool b → a.tmps[t]? = some (.bool b) := by
              intro b hb
              rw [getD_eq] at hb
              cases hx : a.tmps[t]? with
              | none => rw [hx] at hb; simp [undef] at hb
              | some x => rw [hx] at hb; simp at hb; rw [hb]
            rcases hcase with ⟨hf, _, hb⟩ | ⟨hf, _, hb⟩ | ⟨hf, _, hb⟩ | ⟨hf, _, hb⟩ | ⟨hf, _, hb⟩ <;> rw [hf] at hl <;> rw [hb]
            · rw [cell true hl]; cases want <;> rfl
            · rw [cell false hl]; cases want <;> rfl
            · rw [getD_eq] at hl
              have hl' : (a.tmps[t]?).getD undef = undef := hl
              cases hx : a.tmps[t]? with
              | none => simp
              | some x => rw [hx] at hl'; simp at hl'; subst hl'; simp [undef]
            · rw [cell true (rv_bool.1 hl)]; cases want <;> rfl
            · rw [cell false (rv_bool.1 hl)]; cases want <;> rfl
        rw [hwanted]
        split
        · rename_i hw1
          have hev : ∀ x ∈ o.op.operands, RelV Ψ (β ++ us) (ev (mids i) x) (a.eval x) := by
            intro x hx
            cases x with
            | tmp t =>
              have hlt : t ∈ looks all o := by
                simp only [looks, List.mem_append, List.mem_filterMap]
                exact .inl ⟨.tmp t, by simpa using hx, rfl⟩
              have := hgi t _ _ _ (look t hlt)
              simpa [ev, Act.eval, Array.getD_eq_getD_getElem?, List.getD_eq_getElem?_getD] using this
            | const v => exact ofV_rel v
            | global g => trivial
            | func f => exact ⟨[], rfl, rfl⟩
          have hul := getD_both h1
          have him' : i < (all.toList.take m).length := by rw [hml]; exact him
          have hBi : InvH C.P B w0 Ψ (β ++ us) (H.heap i) w := base_inv hU hM hx.2.1 hH2 i (fun hbf => hbf0 listed i hcd hul hbf) (hrw listed)
          have hev' := hev
          have filled : rwi i = none → ∀ (v : Value) (Ψ' : Pr) (w' : World), Step Ψ w Ψ' w' → NewB C B Ψ' w w' (hlen H.h0 + i) v (effi i) (vals i) → JInv (C := C) B w0 Ψ0 β H below As W a0 (all.toList.take m) top vals effi rwi (listed.setIfInBounds i true) (a.put o.dst v) w' := by
            intro hni v Ψ' w' hst' ⟨hone, hnew⟩
            have hxi := hx
            obtain ⟨x1, x2, x3⟩ := hx
            obtain ⟨x4, x5⟩ := x3 i him'
            rw [hul] at x4
            have x4 : exl[i]? = some .gone := by simpa using x4
            have hk : hlen H.h0 + i = β.length + i := by rw [hlen_eq, hβl, hh0]
            have hβk : (β ++ us)[hlen H.h0 + i]? = some hole := by
              rw [hk, List.getElem?_append_right (by omega), Nat.add_sub_cancel_left]
              exact x5 hul
            have hne : ∀ q ∈ rwNow (all.toList.take m).length rwi listed, q.1 ≠ hlen H.h0 + i := by
              rintro ⟨k, b⟩ hr rfl
              rcases hrw listed _ _ hr with ⟨tid, e, xs, hg⟩ | ⟨_, cs, rfl⟩
              · rw [hlen_eq, List.getElem?_eq_none (by omega)] at hg
                cases hg
              · have hlt : hlen H.h0 + i < (H.h0 ++ exl).length := by rw [hlen_eq, List.length_append]; omega
                have hb := hH2.blk (hlen H.h0 + i) (.cells cs) (wr_at hr (hpw listed) hlt)
                obtain ⟨g, c, e, h1, _⟩ := hb
                rw [hβk] at h1
                simp [hole] at h1
            have hhk : (wr (H.h0 ++ exl) (rwNow (all.toList.take m).length rwi listed))[hlen H.h0 + i]? = some .gone := by
              rw [wr_get hne, hlen_eq, List.getElem?_append_right (by omega), Nat.add_sub_cancel_left]
              exact x4
            have e1 : (β ++ us).set (hlen H.h0 + i) v = β ++ us.set i v := by
              rw [hk, List.set_append_right _ _ (by omega), Nat.add_sub_cancel_left]
            have e2 : (wr (H.h0 ++ exl) (rwNow (all.toList.take m).length rwi listed)).set (hlen H.h0 + i) (effi i) = wr (H.h0 ++ exl.set i (effi i)) (rwNow (all.toList.take m).length rwi listed) := by
              rw [← wr_set hne, hlen_eq, List.set_append_right _ _ (by omega), Nat.add_sub_cancel_left]
            have hget : ((β ++ us).set (hlen H.h0 + i) v)[hlen H.h0 + i]? = some v := by
              rw [List.getElem?_set_self]
              rcases Nat.lt_or_ge (hlen H.h0 + i) (β ++ us).length with h' | h'
              · exact h'
              · rw [List.getElem?_eq_none h'] at hβk; cases hβk
            obtain ⟨n1, n2, n3, n4⟩ := hnew _ hget
            have f2 := hH2.fill hst' hhk hβk hone n1 n2 n3
            have f3 := RelF_fill (u := v) hst'.le hβk _ _ hF
            rw [e1] at f2 f3 n4
            rw [e2] at f2
            refine JInv.put hd hoh hil (hE.trans (hst'.ext hH2.size)) (by rw [rwNow_set hil hni]; exact f2) (hxi.fill hil him' v) f3 (Dok_mono hst'.le hdf) hasz (fun t ht => ?_) hS hWo n4
            have := RelV_fill (u := v) hst'.le hβk _ _ (hb t ht)
            rwa [e1] at this
          have hy1 := hy hw1
          rw [Nat.zero_add] at hy1
          rcases hy1 with ⟨hsi, hvi, hei, hdn, r, hri, hnk, hsc⟩ | ⟨hni, hri, hy⟩
          · obtain ⟨k, b'⟩ := r
            obtain ⟨A, Bq, r1, r2', r3⟩ := rw_ins (L := fun j => listed.getD j false) (L' := fun j => (listed.setIfInBounds i true).getD j false) hri hul (by rw [set_getD hil, if_pos rfl]) (fun j hj => by rw [set_getD hil, if_neg (Ne.symm hj)])
              (List.range (all.toList.take m).length) List.nodup_range (List.mem_range.2 (by rw [hml]; exact him))
            have r1 : rwNow (all.toList.take m).length rwi listed = A ++ Bq := r1
            have r2' : rwNow (all.toList.take m).length rwi (listed.setIfInBounds i true) = A ++ (k, b') :: Bq := r2'
            have hkeys : ∀ q ∈ A ++ Bq, q.1 ≠ k := fun q hq => by
              obtain ⟨j, hj, hne, he⟩ := r3 q hq
              rw [List.mem_range, hml] at hj
              exact hdk j i q (k, b') hj him hne he hri
            have hst3 : ∃ t av xv avv xvv r2, o.op = .store t av xv ∧ RelV Ψ (β ++ us) avv (a.eval av) ∧ RelV Ψ (β ++ us) xvv (a.eval xv) ∧ astore C (wr (H.h0 ++ exl) (rwNow (all.toList.take m).length rwi listed)) t avv xvv = some r2 ∧ r2.heap = hset (wr (H.h0 ++ exl) (rwNow (all.toList.take m).length rwi listed)) k b' := by
              rcases scall_spec hsc with ⟨t, av, xv, sz, ix, u, y, tid, e, xs, hop, _, hea, hex, hk, hg, hst2⟩ | ⟨t, av, xv, off, cs, ds, hop, _, hea, hk, hg, _, hst2⟩
              · have hkl : k < H.h0.length := by rw [← hlen_eq]; exact hk
                obtain ⟨hbf, hgk⟩ := hgr0 i k tid e xs (hget_some hg (by simp)) hkl
                obtain ⟨r2, hr2, hr2h⟩ := hst2 (wr (H.h0 ++ exl) (rwNow (all.toList.take m).length rwi listed)) (scall_spec.hget_of' (by rw [hbf0 listed i hcd hul hbf]; show (H.h0 ++ exl)[k]? = _; rw [List.getElem?_append_left hkl]; exact hgk))
                exact ⟨t, av, xv, _, _, r2, hop, by rw [← hea]; exact hev av (by rw [hop]; simp [Op.operands]), by rw [← hex]; exact hev xv (by rw [hop]; simp [Op.operands]), hr2, hr2h⟩
              · have ha : RelV Ψ (β ++ us) (.own k off) (a.eval av) := by rw [← hea]; exact hev av (by rw [hop]; simp [Op.operands])
                have hgk := hget_some hg (by simp)
                rw [List.nil_append] at hgk
                have hji : k - hlen H.h0 < i := by
                  rcases Nat.lt_or_ge (k - hlen H.h0) i with h' | h'
                  · exact h'
                  · rw [List.getElem?_eq_none (by simp [effs]; exact h')] at hgk; cases hgk
                have hgj : effi (k - hlen H.h0) = .cells cs := by
                  simp only [effs, List.getElem?_map, List.getElem?_range hji, Option.map_some, Option.some.injEq] at hgk
                  exact hgk
                obtain ⟨x1, x2, x3⟩ := hx
                rw [hml] at x1 x2 x3
                obtain ⟨x4, x5⟩ := x3 (k - hlen H.h0) (by omega)
                have hkb : k = β.length + (k - hlen H.h0) := by rw [hβl, ← hh0, ← hlen_eq]; omega
                have hlj : listed.getD (k - hlen H.h0) false = true := by
                  cases hl : listed.getD (k - hlen H.h0) false with
                  | true => rfl
                  | false =>
                    exfalso
                    obtain ⟨g, h1, _⟩ := ha
                    rw [hkb, List.getElem?_append_right (by omega), Nat.add_sub_cancel_left, x5 hl] at h1
                    simp [hole] at h1
                rw [hlj] at x4
                have hgk2 : (wr (H.h0 ++ exl) (rwNow (all.toList.take m).length rwi listed))[k]? = some (.cells cs) := by
                  rw [r1, wr_get hkeys, List.getElem?_append_right (by rw [← hlen_eq]; exact hk), ← hlen_eq, x4, if_pos rfl, hgj]
                obtain ⟨r2, hr2, hr2h⟩ := hst2 _ (scall_spec.hget_of' hgk2)
                exact ⟨t, av, xv, _, _, r2, hop, ha, hev xv (by rw [hop]; simp [Op.operands]), hr2, hr2h⟩
            obtain ⟨t, av, xv, avv, xvv, r2, hop, ha, hxv, hr2, hr2h⟩ := hst3
            obtain ⟨w', hrun, _, _, hi'⟩ := store_same hH2 ha hxv hr2
            have hnd : ∀ c, o.op ≠ .defer c := fun c hc => by rw [hop] at hc; cases hc
            refine ⟨fun _ _ => trivial, ?_⟩
            rw [Oper.semAt_eq _ _ _ hnd]
            have hrun' : (execOp a.eval o).run C.P w = .ok .skip w' := by
              obtain ⟨dst, op, ty, pos, after, guard⟩ := o
              simp only at hop
              subst hop
              simp [execOp, hrun]
            rw [hrun']
            refine hnext _ _ (JInv.put hd hoh hil hE (by
              rw [r2', wr_mid hkeys, ← r1, ← hr2h]
              exact hi') (hx.set hil hul him' hei) hF hdf hasz hb hS hWo (by rw [hvi]; rfl))
          · rcases hy with ⟨hy, hei⟩ | ⟨hy, hvi⟩ | ⟨hy, hvi⟩ | ⟨hy, hvi⟩
            · refine Oper.wpIn_mono (fun a' w' hp => ?_) (yld_wp hsp hy hBi hev)
              obtain ⟨v, Ψ', rfl, hst', hv⟩ := hp
              exact hnext _ _ (JInv.put hd hoh hil (hE.trans (hst'.ext hH2.size)) (by rw [rwNow_set hil hri]; exact hH2.step hst') (hx.set hil hul him' hei) (RelF_mono hst'.le (fun _ _ h => h) _ _ hF) (Dok_mono hst'.le hdf) hasz (JInv.mono hst'.le hb) hS hWo hv)
            · refine Oper.wpIn_mono (fun a' w' hp => ?_) (yldG_wp (j := hlen H.h0 + i) hsp hy hBi hev)
              obtain ⟨v, Ψ', rfl, hst', hn⟩ := hp
              exact hnext _ _ (filled hri v Ψ' w' hst' (by rw [hvi]; exact hn))
            · refine Oper.wpIn_mono (fun a' w' hp => ?_) (yldA_wp (j := hlen H.h0 + i) hy hBi)
              obtain ⟨v, Ψ', rfl, hst', hn⟩ := hp
              exact hnext _ _ (filled hri v Ψ' w' hst' (by rw [hvi]; exact hn))
            · refine Oper.wpIn_mono (fun a' w' hp => ?_) (yldP_wp (j := hlen H.h0 + i) hy hBi hev)
              obtain ⟨v, Ψ', rfl, hst', hn⟩ := hp
              exact hnext _ _ (filled hri v Ψ' w' hst' (by rw [hvi]; exact hn))
        · rename_i hw1
          obtain ⟨hvi, hei, hri⟩ := hn (by simpa using hw1)
          exact hnext _ _ (JInv.put hd hoh hil hE (by rw [rwNow_set hil hri]; exact hH2) (hx.set hil (getD_both h1) (by rw [hml]; exact him) hei) hF hdf hasz hb hS hWo (by rw [hvi]; rfl))
where
  headDone {ro : Option Nat} {all : Array Oper} {m : Nat} {below : List (List AV)} {top : List AV} {tops mids : Nat → List AV} {vals : Nat → AV} {wnt : Nat → Bool} {effi : Nat → Blk} {H : HW} {rwi : Nat → Option (Nat × Blk)} {Q : Exit → Act → World → Prop} (hm : m ≤ all.size) (hml : (all.toList.take m).length = m) (hd : Distinct (all.toList.take m))
      (hH : H = HW.mk' all h (all.toList.take m)) (hβl : β.length = h.length) (ht : Trace C H [] [] (all.toList.take m) 0 top tops mids vals wnt effi rwi) (htail : tailOk all m (all.toList.drop m) = true)
      (hfin : ∀ Ψ us a w, Ext B Ψ0 Ψ → InvH C.P B w0 Ψ (β ++ us) (wr (h ++ effs m effi) (rws m rwi [])) w → RelF Ψ (β ++ us) (tops m :: below) (a :: As) → Same Ψ0 W a0 a → wpListIn (Fw ro) 0 C.P all Q (all.toList.drop m) a w)
      (fuel : Nat) (listed : Array Bool) (a : Act) (w : World) (hsz : listed.size = all.size) (htl : ∀ i, m ≤ i → i < all.size → listed.getD i false = false) (hcd : EdgeClosed all listed) (hu : unl listed.toList ≤ fuel) (hall : ∀ i, i < m → listed.getD i false = true)
      (hJ : JInv (C := C) B w0 Ψ0 β H below As W a0 (all.toList.take m) top vals effi rwi listed a w) : wpAnyIn (Fw ro) 0 C.P .any all Q fuel listed a w := by
    obtain ⟨Ψ, us, exl, hE, hH2, hx, hF, hdf, hasz, hb, hS⟩ := hJ
    have hexl : exl = effs m effi := by
      obtain ⟨x1, x2, x3⟩ := hx
      rw [hml] at x2 x3
      apply List.ext_getElem?
      intro i
      rcases Nat.lt_or_ge i m with h' | h'
      · have x4 := (x3 i h').1
        rw [hall i h'] at x4
        rw [x4]
        simp [effs, h']
      · rw [List.getElem?_eq_none (by omega), List.getElem?_eq_none (by simp [effs]; omega)]
    subst hexl
    have hh0 : H.h0 = h := by rw [hH]; rfl
    have hrws : rws m rwi [] = rwNow (all.toList.take m).length rwi listed := by
      unfold rws rwNow
      rw [hml, List.nil_append]
      apply fm_congr
      intro j hj
      rw [hall j (List.mem_range.1 hj), if_pos rfl]
    rw [hh0, ← hrws] at hH2
    obtain ⟨hcl, hci⟩ := ht.chain hd m (by omega)
    have hbase : ∀ t, baseL (all.toList.take m) top vals (fun j => decide (j < m)) t = baseL (all.toList.take m) top vals (fun j => listed.getD j false) t := by
      intro t
      unfold baseL
      rw [find_congr (q := fun i => listed.getD i false && ((all.toList.take m)[i]?.bind (·.dst) == some t)) (fun j hj => ?_)]
      have : j < m := by rw [List.mem_range, hml] at hj; exact hj
      simp [this, hall j this]
    refine seq_any all Q _ m fuel listed a w rfl hm htail hsz hcd (fun j hj => ?_) ?_ (hfin Ψ us a w hE hH2 ⟨a, As, rfl, ⟨hdf, RelL_of _ _ (by simp; omega) (fun t ht' => ?_)⟩, hF⟩ hS)
    · rcases Nat.lt_or_ge j m with h' | h'
      · rw [hall j h']; simpa using h'
      · rw [htl j h' hj]; simp; omega
    · have := unl_false (l := listed.toList) (m := m) (by simp; omega) (fun j hj hjl => by
        have hx := htl j hj (by simp at hjl; omega)
        rw [Array.getD_eq_getD_getElem?, Array.getElem?_eq_getElem (by simpa using hjl)] at hx
        simp at hx
        rw [List.getElem?_eq_getElem hjl]
        simp [hx])
      simp only [List.length_drop, Array.length_toList] at *
      omega
    · have := hb t (by omega)
      rw [← hbase t] at this
      exact hci t (by omega) _ _ _ this

/-- Places are kept for what is to come. -/
theorem InvH.places (hi : InvH C.P B w0 Ψ β h w) (n : Nat) (gs : List Blk) (hl : n = gs.length) (hg : ∀ b ∈ gs, b = .gone) : InvH C.P B w0 Ψ (β ++ List.replicate n hole) (h ++ gs) w := by
  have at_ : ∀ {j : Nat} {b : Blk}, (h ++ gs)[j]? = some b → h[j]? = some b ∨ b = .gone := by
    intro j b hj
    rcases Nat.lt_or_ge j h.length with h' | h'
    · rw [List.getElem?_append_left h'] at hj; exact .inl hj
    · rw [List.getElem?_append_right h'] at hj; exact .inr (hg b (List.mem_of_getElem? hj))
  have cl : ∀ {j g : Nat} {b : Blk}, h[j]? = some b → claims (β ++ List.replicate n hole) j g b → claims β j g b := by
    intro j g b hj hc
    have e : (β ++ List.replicate n hole)[j]? = β[j]? := List.getElem?_append_left (by
      rw [hi.len]
      rcases Nat.lt_or_ge j h.length with h' | h'
      · exact h'
      · rw [List.getElem?_eq_none h'] at hj; cases hj)
    cases b with
    | gone => exact hc
    | log ys Y own xs => exact hc
    | lof ys Y own => exact hc
    | cells cs => simp only [claims] at *; rwa [e] at hc
    | grow tid e' xs => obtain ⟨m, cap, h1, h2⟩ := hc; rw [e] at h2; exact ⟨m, cap, h1, h2⟩
    | kmap es => simp only [claims] at *; rwa [e] at hc
    | dmap e' m => simp only [claims] at *; rwa [e] at hc
    | diter e' last left => simp only [claims] at *; rwa [e] at hc
    | loop f p ph ts => simp only [claims] at *; rwa [e] at hc
  refine ⟨hi.low, hi.size, hi.prom, hi.own, by simp [hi.len, hl], fun j u hj => ?_, fun j b hj => ?_, fun j b g hj hc a ha hs => ?_, fun i j bi bj g hij hbi hbj hci hcj => ?_⟩
  · rcases Nat.lt_or_ge j β.length with h' | h'
    · rw [List.getElem?_append_left h'] at hj; exact hi.one j u hj
    · rw [List.getElem?_append_right h', List.getElem?_replicate] at hj
      split at hj
      · simp at hj; subst hj; rfl
      · cases hj
  · rcases at_ hj with h1 | rfl
    · have hb := hi.blk j b h1
      cases b with
      | gone => trivial
      | log ys Y own xs => exact BlkR_log hb (fun _ h => app_mono _ _ _ h) (PLe.refl _).m (Nat.le_refl _) fun _ _ => rfl
      | lof ys Y own => exact BlkR_lof hb (fun _ h => app_mono _ _ _ h) (PLe.refl _).m (Nat.le_refl _) fun _ _ => rfl
      | cells cs =>
        obtain ⟨g, c, e, h1, h2, h3, h4, h5⟩ := hb
        exact ⟨g, c, e, app_mono _ _ _ h1, h2, h3, RelL_mono (PLe.refl _) (app_mono _) _ _ h4, h5⟩
      | grow tid e xs =>
        rcases hb with ⟨ad, h1, h2⟩ | ⟨g, cap, cur, h1, r⟩
        · exact .inl ⟨ad, app_mono _ _ _ h1, h2⟩
        · exact .inr ⟨g, cap, cur, app_mono _ _ _ h1, r⟩
      | kmap es =>
        obtain ⟨g, ms, cl, h1, r⟩ := hb
        exact ⟨g, ms, cl, app_mono _ _ _ h1, r⟩
      | dmap e m =>
        obtain ⟨g, ms, cl, h1, r⟩ := hb
        exact ⟨g, ms, cl, app_mono _ _ _ h1, r⟩
      | diter e last left =>
        obtain ⟨g, gm, ms, cl, seen, h1, r⟩ := hb
        exact ⟨g, gm, ms, cl, seen, app_mono _ _ _ h1, r⟩
      | loop f p ph ts =>
        obtain ⟨l, r, h1, h2, h3, h4, h5, h6⟩ := hb
        exact ⟨l, r, app_mono _ _ _ h1, h2, h3, h4, RelL_mono (PLe.refl _) (app_mono _) _ _ h5, h6⟩
    · trivial
  · rcases at_ hj with h1 | rfl
    · exact hi.free j b g h1 (cl h1 hc) a ha hs
    · exact hc.elim
  · rcases at_ hbi with h1 | rfl
    · rcases at_ hbj with h2 | rfl
      · exact hi.sep i j bi bj g hij h1 h2 (cl h1 hci) (cl h2 hcj)
      · exact hcj.elim
    · exact hci.elim

theorem tailLen_le (all : Array Oper) : ∀ (i : Nat) (l : List Oper), tailLen all i l ≤ l.length
  | _, [] => Nat.le_refl _
  | i, o :: l => by
    unfold tailLen
    split
    · have := tailLen_le all (i - 1) l
      simp
      omega
    · simp

theorem none_listed {n : Nat} (i : Nat) : (Array.replicate n false).getD i false = false := by
  simp [Array.getD_eq_getD_getElem?, Array.getElem?_replicate]; split <;> rfl

theorem readyL_mem {all : Array Oper} {L : List Nat} {i : Nat} : ∀ {n : Nat}, i ∈ readyL all L n ↔ i < n ∧ ∃ o, all[i]? = some o ∧ memS i L = false ∧ (edgesOf o).all (fun j => memS j L) = true
  | 0 => by simp [readyL]
  | n + 1 => by
    unfold readyL
    have ih := readyL_mem (all := all) (L := L) (i := i) (n := n)
    split
    · rename_i o ho
      split
      · rename_i hc
        simp only [Bool.and_eq_true, Bool.not_eq_true'] at hc
        rw [List.mem_append, ih, List.mem_singleton]
        constructor
        · rintro (⟨h1, h2⟩ | rfl)
          · exact ⟨by omega, h2⟩
          · exact ⟨by omega, o, ho, hc.1, hc.2⟩
        · rintro ⟨h1, o', ho', h2⟩
          by_cases hin : i = n
          · exact .inr hin
          · exact .inl ⟨by omega, o', ho', h2⟩
      · rename_i hc
        rw [ih]
        constructor
        · rintro ⟨h1, h2⟩; exact ⟨by omega, h2⟩
        · rintro ⟨h1, o', ho', h2, h3⟩
          by_cases hin : i = n
          · subst hin
            rw [ho] at ho'
            simp only [Option.some.injEq] at ho'
            subst ho'
            exact absurd (by rw [h2, h3]; rfl) hc
          · exact ⟨by omega, o', ho', h2, h3⟩
    · rename_i ho
      rw [ih]
      constructor
      · rintro ⟨h1, h2⟩; exact ⟨by omega, h2⟩
      · rintro ⟨h1, o', ho', h2⟩
        by_cases hin : i = n
        · subst hin; rw [ho] at ho'; cases ho'
        · exact ⟨by omega, o', ho', h2⟩

theorem aeach_mem {p : Nat → Prop} : ∀ {l : List Nat}, aeach p l → ∀ i ∈ l, p i
  | [], _, i, hi => by simp at hi
  | [j], h, i, hi => by simp at hi; subst hi; exact h
  | j :: j' :: l, h, i, hi => by
    rcases List.mem_cons.1 hi with rfl | hi
    · exact h.1
    · exact aeach_mem h.2 i hi

theorem isNilL_iff : ∀ {l : List Nat}, isNilL l = true ↔ l = []
  | [] => by simp [isNilL]
  | _ :: _ => by simp [isNilL]

theorem wpIn_monoQ {F : Fence} {n : Nat} {P : Program} {o : Oper} {K : Act → World → Prop} {Q Q' : Exit → Act → World → Prop} (h : ∀ e a w, e ≠ .normal → Q e a w → Q' e a w) (hh : o.wpIn F n P a w K Q) : o.wpIn F n P a w K Q' := by
  unfold Oper.wpIn at *
  refine ⟨hh.1, ?_⟩
  have hh := hh.2
  generalize (o.semAt F.round a.eval).run P w = r at *
  have out : LetsOut Q → LetsOut Q' := fun ⟨a, w, hq⟩ => ⟨a, w, h _ _ _ (by simp) hq⟩
  cases r with
  | ok x w' =>
    cases x <;> simp only [Oper.uponIn] at hh ⊢ <;>
      first
        | exact hh
        | exact ⟨hh.1, CallsIn.mono hh.2 (fun e w'' he => by cases e <;> first | exact he | exact h _ _ _ (by simp) he | exact out he)⟩
        | exact ⟨hh.1, RoundIn.mono hh.2 (fun e w'' he => by cases e <;> first | exact he | exact h _ _ _ (by simp) he | exact out he)⟩
  | halt x w' => cases x <;> simp only [Oper.uponIn] at hh ⊢ <;> first | exact hh | exact h _ _ _ (by simp) hh

theorem tkOf_spec {all : Array Oper} {L : List Nat} : ∀ {l : List Nat} {i : Nat}, tkOf fr all L l = some i → i ∈ l ∧ freeL fr all L i = true
  | [], _, h => by simp [tkOf] at h
  | j :: l, i, h => by
    unfold tkOf at h
    split at h
    · rename_i hf
      simp only [Option.some.injEq] at h
      subst h
      exact ⟨by simp, hf⟩
    · obtain ⟨h1, h2⟩ := tkOf_spec h
      exact ⟨List.mem_cons_of_mem _ h1, h2⟩

theorem freeL_spec {all : Array Oper} {L : List Nat} {listed : Array Bool} {i : Nat} {o : Oper} (hl : ∀ i, listed.getD i false = memS i L) (hs : listed.size = all.size) (ho : all[i]? = some o) (h : freeL fr all L i = true) :
    isTk fr o.op = true ∧ o.guard = none ∧ Region.free .any all listed i = true := by
  unfold freeL at h
  rw [ho] at h
  simp only [Bool.and_eq_true, List.all_eq_true, List.mem_range] at h
  obtain ⟨⟨h1, h2⟩, h3⟩ := h
  refine ⟨h1, by simpa using h2, ?_⟩
  unfold Region.free
  rw [ho]
  simp only [List.all_eq_true, List.mem_range]
  intro j hj
  have h4 := h3 j hj
  have e : listed.getD j true = memS j L := by
    rw [← hl, Array.getD_eq_getD_getElem?, Array.getD_eq_getD_getElem?, Array.getElem?_eq_getElem (by omega)]
    rfl
  rw [e]
  exact h4

/-- What is promised holds. -/
def Keeps (Ψ : Pr) (w : World) : Prop := ∀ ad v, Ψ ad = some v → Pm w ad v

/-- What a pure operation yields depends on its operands alone, in every world that keeps R. -/
def Pure1 (P : Program) (R : World → Prop) (o : Oper) (v : Value) (a : Act) : Prop := ∀ a' : Act, (∀ x ∈ o.op.operands, a'.eval x = a.eval x) → ∀ w, R w → (execOp a'.eval o).run P w = .ok (.value v) w

theorem run_val {P : Program} {s : Sem Value} {v : Value} {w : World} (hr : s.run P w = .ok v w) : (do pure (Next.value (← s)) : Sem Next).run P w = .ok (.value v) w := by
  rw [Sem.run_bind, hr]
  rfl
theorem arith_pure {k : IntKind} {n : Int} {r : Out} (hr : arith h k n = some r) (hp : ∀ p, r.need = some p → p) : RelV Ψ β r.v (.int k (k.wrap n)) := (arith_inv (Ψ := Ψ) (β := β) hr hp).2.2

/-- Two integers: what comes of them, in whatever world. -/
theorem ibin_pure {op : BinOp} {xt : TypeId} {k k' : IntKind} {m n : Int} {r : Out} (hm : k.has m) (hn : k'.has n)
    (hr : ibin h op k k' m n = some r) (hp : ∀ p, r.need = some p → p) : ∃ v, (∀ w, (binOp op xt (.int k m) (.int k' n)).run C.P w = .ok v w) ∧ RelV Ψ β r.v v := by
  unfold ibin at hr
  split at hr
  · split at hr
    · have := okP_inv hr; subst this
      obtain ⟨h0, h1, h2⟩ := hp _ rfl
      refine ⟨.int .i64 (m * 2 ^ n.toNat), fun w => ?_, rv_int.2 ⟨rfl, has_i64.2 h2⟩⟩
      rw [binOp_shl, shl_ok _ _ _ _ h0 (by simp [IntKind.bits]; omega), wrap_i64 h2]
    · have := okP_inv hr; subst this
      obtain ⟨h0, h1⟩ := hp _ rfl
      refine ⟨.int k (k.wrap (m * 2 ^ n.toNat)), fun w => ?_, rv_int.2 ⟨rfl, has_wrap _ _⟩⟩
      rw [binOp_shl, shl_ok _ _ _ _ h0 h1]
  · have := okP_inv hr; subst this
    obtain ⟨h0, h1⟩ := hp _ rfl
    refine ⟨.int k (m / 2 ^ n.toNat), fun w => ?_, rv_int.2 ⟨rfl, has_div hm _⟩⟩
    rw [binOp_shr, shr_ok _ _ _ _ h0 h1]
  · split at hr
    · rename_i hk
      subst hk
      have hboo : ∀ b : Bool, ok0 h (boolAV b) = some r → (∀ w, (binOp op xt (.int k m) (.int k n)).run C.P w = .ok (.bool b) w) →
          ∃ v, (∀ w, (binOp op xt (.int k m) (.int k n)).run C.P w = .ok v w) ∧ RelV Ψ β r.v v := by
        intro b e hb
        have := ok0_inv e; subst this
        exact ⟨_, hb, boolAV_rel b⟩
      split at hr
      · exact ⟨_, fun w => by rw [binOp_add]; rfl, arith_pure hr hp⟩
      · exact ⟨_, fun w => by rw [binOp_sub]; rfl, arith_pure hr hp⟩
      · exact ⟨_, fun w => by rw [binOp_mul]; rfl, arith_pure hr hp⟩
      · split at hr
        · have := okP_inv hr; subst this
          obtain ⟨h0, h1⟩ := hp _ rfl
          refine ⟨.int .i64 (m.tdiv n), fun w => ?_, rv_int.2 ⟨rfl, has_i64.2 h1⟩⟩
          rw [binOp_quo]; simp [Op.intDiv, h0, wrap_i64 h1]
        · have := okP_inv hr; subst this
          have h0 := hp _ rfl
          refine ⟨.int k (k.wrap (m.tdiv n)), fun w => ?_, rv_int.2 ⟨rfl, has_wrap _ _⟩⟩
          rw [binOp_quo]; simp [Op.intDiv, h0]
      · have := okP_inv hr; subst this
        have h0 := hp _ rfl
        refine ⟨.int k (m.tmod n), fun w => ?_, rv_int.2 ⟨rfl, has_tmod hm hn⟩⟩
        rw [binOp_rem]; simp [Op.intDiv, h0]
      · have := ok0_inv hr; subst this
        exact ⟨_, fun w => by rw [binOp_and]; exact bits_ok _ _ _ _ (.inl rfl), rv_int.2 ⟨rfl, has_wrap _ _⟩⟩
      · have := ok0_inv hr; subst this
        exact ⟨_, fun w => by rw [binOp_or]; exact bits_ok _ _ _ _ (.inr (.inl rfl)), rv_int.2 ⟨rfl, has_wrap _ _⟩⟩
      · have := ok0_inv hr; subst this
        exact ⟨_, fun w => by rw [binOp_xor]; exact bits_ok _ _ _ _ (.inr (.inr (.inl rfl))), rv_int.2 ⟨rfl, has_wrap _ _⟩⟩
      · have := ok0_inv hr; subst this
        exact ⟨_, fun w => by rw [binOp_andNot]; exact bits_ok _ _ _ _ (.inr (.inr (.inr rfl))), rv_int.2 ⟨rfl, has_wrap _ _⟩⟩
      · exact hboo _ hr (fun w => by rw [binOp_eql]; rfl)
      · exact hboo _ hr (fun w => by rw [binOp_neq]; rfl)
      · exact hboo _ hr (fun w => by rw [binOp_lss]; rfl)
      · exact hboo _ hr (fun w => by rw [binOp_leq]; rfl)
      · exact hboo _ hr (fun w => by rw [binOp_gtr]; rfl)
      · exact hboo _ hr (fun w => by rw [binOp_geq]; rfl)
      · cases hr
    · cases hr

/-- A part of data: what comes of it, in whatever world. -/
theorem slice_pure {t : TypeId} {e0 : Ty} {xs0 : List e0.den} {v : Value} {lo hi mx : Option AV} {l h' m : Option Value} {r : Out} (hx : RelV Ψ β (.d (.arr e0) xs0) v) (hl : RelO Ψ β lo l) (hh : RelO Ψ β hi h') (hm : RelO Ψ β mx m)
    (hr : aslice C h t (.d (.arr e0) xs0) lo hi mx = some r) (hp : ∀ p, r.need = some p → p) : ∃ u, (∀ w, (Instr.sliceAt t v l h' m).run C.P w = .ok u w) ∧ RelV Ψ β r.v u := by
  have hr : aslice0 C h t (.d (.arr e0) xs0) lo hi mx = some r := hr
  generalize hX : AV.d (.arr e0) xs0 = X at hr hx
  unfold aslice0 at hr
  split at hr
  · cases hr
  · rename_i x y z he
    split at hr
    · cases hX
    · cases hX
    · rename_i tid hu hnsl
      split at hr
      · rename_i e xs sz hl' hsz
        split at hr
        · rename_i hc
          have hc' : sz = e.cells := by simpa [Nat.beq_eq] using hc
          have hrv := asList_rv hx hl' (by intro k e; subst e; cases hX)
          have hat : ∀ v' w, (Instr.sliceAt t v' l h' m).run C.P w = (Instr.slice t v' l h' m).run C.P w := by
            intro v' w; simp [Instr.sliceAt, run_underlying hu]
          split at hr
          · have := okP_inv hr; subst this
            obtain ⟨h0, h1⟩ := hp _ rfl
            obtain ⟨ad, cap, rfl, hlc, hcm, hout⟩ := drop_take_rv hrv hc' (l := x.toNat) (n := xs.length) (by omega) (Nat.le_refl _)
            refine ⟨_, fun w => ?_, hout cap hlc (Nat.le_refl _)⟩
            obtain ⟨hb, _⟩ := sliceBounds_ok (C := C) (w := w) (isSlice := true) (len := xs.length) (cap := cap) hl hh hm he h0 (by simpa using h1) (by simp) (by simp) hlc
            simp only [Option.map_none, Option.getD_none] at hb
            rw [hat]
            simp [Instr.slice, run_underlying hu, hb, run_sizeOf hsz]
          · rename_i n
            have := okP_inv hr; subst this
            obtain ⟨h0, h1, h2⟩ := hp _ rfl
            have hn0 : 0 ≤ n := Int.le_trans h0 h1
            obtain ⟨ad, cap, rfl, hlc, hcm, hout⟩ := drop_take_rv hrv hc' (l := x.toNat) (n := n.toNat) (by omega) (by omega)
            refine ⟨_, fun w => ?_, hout cap (by omega) (Nat.le_refl _)⟩
            obtain ⟨hb, _⟩ := sliceBounds_ok (C := C) (w := w) (isSlice := true) (len := xs.length) (cap := cap) hl hh hm he h0 (by simpa using h1) (by simp; omega) (by simp) hlc
            simp only [Option.map_none, Option.getD_none, Option.map_some, Option.getD_some] at hb
            rw [hat]
            simp [Instr.slice, run_underlying hu, hb, run_sizeOf hsz]
          · rename_i n m'
            have := okP_inv hr; subst this
            obtain ⟨h0, h1, h2, h3⟩ := hp _ rfl
            subst h3
            have hn0 : 0 ≤ m' := Int.le_trans h0 h1
            obtain ⟨ad, cap, rfl, hlc, hcm, hout⟩ := drop_take_rv hrv hc' (l := x.toNat) (n := m'.toNat) (by omega) (by omega)
            have hlen : ((xs.drop x.toNat).take (m'.toNat - x.toNat)).length = m'.toNat - x.toNat := by simp; omega
            refine ⟨_, fun w => ?_, ⟨_, by rw [hlen], hout m'.toNat (Nat.le_refl _) (by omega)⟩⟩
            obtain ⟨hb, _⟩ := sliceBounds_ok (C := C) (w := w) (isSlice := true) (len := xs.length) (cap := cap) hl hh hm he h0 (by simpa using h1) (by simp) (by simp; omega) hlc
            simp only [Option.map_some, Option.getD_some] at hb
            rw [hat]
            simp [Instr.slice, run_underlying hu, hb, run_sizeOf hsz]
          · cases hr
        · cases hr
      · cases hr
    · cases hr

theorem tk_yields {o : Oper} {r : Out} (htk : isTk fr o.op = true) (hev : ∀ x ∈ o.op.operands, RelV Ψ β (ev fr x) (a.eval x)) (hr : aop C fr h o.op = some r) (hp : ∀ p, r.need = some p → p) :
    ∃ v, Pure1 C.P (Keeps Ψ) o v a ∧ RelV Ψ β r.v v := by
  obtain ⟨dst, op, ty, pos, after, guard⟩ := o
  simp only at htk hev hr
  cases op with
  | move x =>
    have := ok0_inv hr; subst this
    exact ⟨a.eval x, fun a' he w _ => by simp [execOp, he x (by simp [Op.operands])], hev x (by simp [Op.operands])⟩
  | assign x =>
    have := ok0_inv hr; subst this
    exact ⟨a.eval x, fun a' he w _ => by simp [execOp, he x (by simp [Op.operands])], hev x (by simp [Op.operands])⟩
  | fieldAddr t x f =>
    obtain ⟨v, h1, h2⟩ := fieldAddr_pure (hev x (by simp [Op.operands])) hr
    exact ⟨v, fun a' he w _ => by simp [execOp, he x (by simp [Op.operands]), h1 w], h2⟩
  | load t x =>
    have hx := hev x (by simp [Op.operands])
    have hr : aload C h t (ev fr x) = some r := hr
    unfold isTk at htk
    simp only at htk
    split at htk
    · rename_i u y hu
      rw [hu] at hr hx
      unfold aload at hr
      simp only at hr
      split at hr
      · rename_i ag n hlay
        split at hr
        · rename_i hc
          simp only [Bool.and_eq_true, Nat.beq_eq, beq_iff_eq] at hc
          obtain ⟨hn, hag⟩ := hc
          have := ok0_inv hr; subst this
          obtain ⟨g, off, us, hv, hus, hpr⟩ := hx
          refine ⟨_, fun a' he w hR => ?_, valOf_rv hus hag (fun hf => by rw [reads_len u _ _ hus]; have := (lay_spec hlay).2.2 hf; omega)⟩
          have hrun := run_loadVar_cells (w := w) (us := us) (g := g) (off := off) hlay (by rw [reads_len u _ _ hus]; omega) (fun j u' hj => hR _ _ (hpr j u' hj))
          simp [execOp, he x (by simp [Op.operands]), hv, run_loadAt, hrun]
        · cases hr
      · cases hr
    · cases htk
  | indexAddr t x ix =>
    have hx := hev x (by simp [Op.operands])
    have hu := hev ix (by simp [Op.operands])
    have hr : aindexAddr C h t (ev fr x) (ev fr ix) = some r := hr
    have hns : ∀ k, ev fr x ≠ .sl k := fun k e => by unfold isTk at htk; simp [e] at htk
    have hnr : ∀ u y, ev fr x ≠ .rp u y := fun u y e => by unfold isTk at htk; simp [e] at htk
    have hno : ∀ k o, ev fr x ≠ .own k o := fun k o e => by unfold isTk at htk; simp [e] at htk
    generalize hX : ev fr x = X at *
    generalize hV : a.eval x = V at *
    generalize hY : ev fr ix = Y at *
    generalize hU : a.eval ix = U at *
    unfold aindexAddr at hr
    split at hr
    · rename_i tid kd i0 he
      obtain ⟨i, rfl⟩ : ∃ i : Int, i = i0 := ⟨i0, rfl⟩
      obtain ⟨rfl, hik⟩ := rv_int.1 hu
      split at hr
      · rename_i sz hs
        split at hr
        · rename_i k
          exact absurd rfl (hns k)
        · split at hr
          · rename_i e xs hl
            split at hr
            · rename_i hc
              have hsz : e.cells = sz := by simpa [Nat.beq_eq] using hc
              have := okP_inv hr; subst this
              obtain ⟨h0, h1⟩ : (0 : Int) ≤ i ∧ i < (xs.length : Int) := hp _ rfl
              obtain ⟨ad, cap, rfl, _, _, h3⟩ := rv_arr.1 (asList_rv hx hl (fun k e => hns k e))
              have hlt : i.toNat < xs.length := by omega
              rcases h3 with rfl | ⟨cells, hd, g, off, rfl, hc'⟩
              · simp at hlt
              · obtain ⟨us, hus, hget⟩ := rdL_get (reads_len e) _ _ hd i.toNat xs[i.toNat] (List.getElem?_eq_getElem hlt)
                have hD : xs.getD i.toNat (dflt e) = xs[i.toNat] := by simp [List.getD_eq_getElem?_getD, List.getElem?_eq_getElem hlt]
                refine ⟨.pointer (some ⟨g, off + i.toNat * sz, none⟩), fun a' he' w _ => ?_, ⟨g, off + i.toNat * sz, us, rfl, by rw [hD]; exact hus, fun j u hj => ?_⟩⟩
                · have e1 := he' x (by simp [Op.operands])
                  have e2 := he' ix (by simp [Op.operands])
                  rw [hV] at e1
                  rw [hU] at e2
                  have hrun := run_indexAt (w := w) he hs h0 h1 (cap := cap) (k := kd) (ad := ⟨g, off, none⟩)
                  rw [Addr.add_lit] at hrun
                  simp [execOp, e1, e2, hrun]
                · have := hc' _ _ (hget j u hj)
                  rw [← hsz]
                  rwa [← Nat.add_assoc] at this
            · cases hr
          · cases hr
      · cases hr
    · exfalso
      unfold aindexArr at hr
      split at hr
      · split at hr
        · split at hr
          · exact hno _ _ rfl
          · exact hnr _ _ rfl
          · cases hr
        · cases hr
      · cases hr
    · cases hr
  | binOp bop xt x y yt =>
    have hx := hev x (by simp [Op.operands])
    have hy := hev y (by simp [Op.operands])
    simp only [isTk] at htk
    simp only [aop] at hr
    split at htk
    · rename_i k m k' n hX hY
      rw [hX] at hr hx
      rw [hY] at hr hy
      have hno : abinAgg C h bop xt (.d (.int k) m) (.d (.int k') n) = none := by
        unfold abinAgg
        split
        · rename_i ty hty
          split
          · rename_i hc
            simp only [Bool.and_eq_true] at hc
            have hag := hc.1.1.1.1.1
            split
            · rename_i a' b' ha' hb'
              exfalso
              have hn : ∀ ty : Ty, ty.isAgg = true → Ty.int k ≠ ty := fun ty h1 h2 => by subst h2; cases h1
              have : asD h ty (.d (.int k) m) = none := by
                show cast? (.int k) ty m = none
                unfold cast?
                split
                · rename_i h1 _
                  exact absurd h1 (hn ty hag)
                · rfl
              rw [this] at ha'
              cases ha'
            · rfl
          · rfl
        · rfl
      rw [hno] at hr
      have hr : ibin h bop k k' m n = some r := hr
      obtain ⟨hx1, hm⟩ := rv_int.1 hx
      obtain ⟨hy1, hn⟩ := rv_int.1 hy
      obtain ⟨v, h1, h2⟩ := ibin_pure (C := C) (Ψ := Ψ) (β := β) (xt := xt) hm hn hr hp
      refine ⟨v, fun a' he w _ => ?_, h2⟩
      have e1 := he x (by simp [Op.operands])
      have e2 := he y (by simp [Op.operands])
      rw [hx1] at e1
      rw [hy1] at e2
      have hrun : ∀ s : Sem Value, ((pure () : Sem Unit) >>= fun _ => s) = s := fun _ => rfl
      have h3 : (do eqGuard bop xt x y (.int k m) (.int k' n); Go.binOp bop xt (.int k m) (.int k' n)).run C.P w = .ok v w := by
        rw [eqGuard_at_int, hrun]
        exact h1 w
      simp only [execOp, e1, e2]
      exact run_val h3
    · cases htk
  | slice t x lo hi' mx =>
    have hx := hev x (by simp [Op.operands])
    simp only [isTk] at htk
    have hr : aslice C h t (ev fr x) (optEv fr lo) (optEv fr hi') (optEv fr mx) = some r := hr
    split at htk
    · rename_i e0 xs0 hX
      rw [hX] at hr hx
      obtain ⟨u, h1, h2⟩ := slice_pure hx (RelO_of lo fun y hy => hev y (by simp only [Op.operands, Array.mem_append]; exact .inl (.inl (.inr hy))))
        (RelO_of hi' fun y hy => hev y (by simp only [Op.operands, Array.mem_append]; exact .inl (.inr hy))) (RelO_of mx fun y hy => hev y (by simp only [Op.operands, Array.mem_append]; exact .inr hy)) hr hp
      refine ⟨u, fun a' he w _ => ?_, h2⟩
      have opt : ∀ o : Option Operand, (∀ y ∈ o.toArray, a'.eval y = a.eval y) → o.map a'.eval = o.map a.eval := fun o ho => by
        cases o with
        | none => rfl
        | some y => simp [ho y (by simp)]
      have e1 := he x (by simp [Op.operands])
      have e2 := opt lo fun y hy => he y (by simp only [Op.operands, Array.mem_append]; exact .inl (.inl (.inr hy)))
      have e3 := opt hi' fun y hy => he y (by simp only [Op.operands, Array.mem_append]; exact .inl (.inr hy))
      have e4 := opt mx fun y hy => he y (by simp only [Op.operands, Array.mem_append]; exact .inr hy)
      simp only [execOp, e1, e2, e3, e4]
      exact run_val (h1 w)
    · cases htk
  | _ => cases htk

/-- Another operation does not mind whether the pure one has been done. -/
theorem other_op {ro : Option Nat} {P : Program} {all : Array Oper} {oi oj : Oper} {v : Value} {j : Nat} {K : Act → World → Prop} {Q : Exit → Act → World → Prop} (hP : ∀ c a w, ¬ Q (.panic c) a w) (hap : oi.apart all oj = true)
    (hj : all[j]? = some oj) (hnd : ∀ c, oj.op ≠ .defer c) (hns : ∀ cs b, oj.op ≠ .select cs b) (hh : wpOpIn (Fw ro) 0 P all Q j K (a.put oi.dst v) w) :
    wpOpIn (Fw ro) 0 P all Q j (fun a' w' => (∀ x ∈ oi.op.operands, a'.eval x = a.eval x) ∧ K (a'.put oi.dst v) w') a w := by
  obtain ⟨h1, h2, h3⟩ := Oper.apart_spec hap
  have keep : ∀ u, ∀ x ∈ oi.op.operands, (a.put oj.dst u).eval x = a.eval x := fun u x hx => by
    refine Act.eval_put fun d hd hxd => h3 d hd ?_
    subst hxd
    exact List.mem_append_left _ (List.mem_filterMap.2 ⟨.tmp d, by simpa using hx, rfl⟩)
  have both : ∀ u w', K ((a.put oi.dst v).put oj.dst u) w' → (∀ x ∈ oi.op.operands, (a.put oj.dst u).eval x = a.eval x) ∧ K ((a.put oj.dst u).put oi.dst v) w' := fun u w' hk =>
    ⟨keep u, by rw [← Act.put_comm a v u h2]; exact hk⟩
  have hwd := wanted_put oj a oi.dst v h1
  unfold wpOpIn at hh ⊢
  rw [hj] at hh ⊢
  simp only at hh ⊢
  rw [hwd] at hh
  by_cases hw : Region.wanted oj (yielded all a.tmps) = true
  · rw [if_pos hw] at hh ⊢
    refine ⟨fun _ _ => trivial, ?_⟩
    have hh := hh.2
    rw [Oper.semAt_eq _ _ _ hnd] at hh ⊢
    rw [execOp_put oj hns a oi.dst v h1] at hh
    generalize (execOp a.eval oj).run P w = res at hh ⊢
    rcases res with ⟨nx, w'⟩ | ⟨st, w'⟩
    · cases nx <;> simp only [Oper.uponIn] at hh ⊢
      case value u => exact both u w' hh
      case skip => exact both undef w' hh
      case defer d =>
        refine ⟨fun x hx => by rw [show (({ a with defers := d :: a.defers } : Act).put oj.dst undef).eval x = (a.put oj.dst undef).eval x by cases oj.dst <;> cases x <;> rfl]; exact keep undef x hx, ?_⟩
        rw [← Act.put_comm _ v undef h2, ← Act.put_defers]
        exact hh
      case enter f args =>
        exact ⟨hh.1, CallsIn.mono hh.2 fun e w'' he => by
          cases e with
          | returned u => exact both u w'' he
          | panicked c => exact (hP _ _ _ he).elim
          | outgrown => exact he⟩
      case row r args => exact ⟨hh.1, RowsIn.mono hh.2 fun u w'' he => both u w'' he⟩
      case round l f tmps assign body =>
        exact ⟨hh.1, RoundIn.mono hh.2 fun e w'' he => by
          cases e with
          | returned u => exact both u w'' he
          | panicked c => exact (hP _ _ _ he).elim
          | outgrown => exact he⟩
    · cases st <;> simp only [Oper.uponIn] at hh ⊢
      case panic u => exact (hP _ _ _ hh).elim
  · rw [if_neg hw] at hh ⊢
    exact ⟨fun _ _ => trivial, both undef w hh.2⟩

/-- All orders, and R holds before each operation. -/
def wpAnyR (ro : Option Nat) (P : Program) (all : Array Oper) (Q : Exit → Act → World → Prop) (R : World → Prop) : Nat → Array Bool → Act → World → Prop
  | 0, listed, a, w => R w ∧ Region.ready .any all listed = [] ∧ Q .normal a w
  | fuel + 1, listed, a, w => R w ∧ (Region.ready .any all listed = [] → Q .normal a w) ∧
    ∀ i ∈ Region.ready .any all listed, wpOpIn (Fw ro) 0 P all Q i (wpAnyR ro P all Q R fuel (listed.setIfInBounds i true)) a w

theorem wpAnyR.mono {ro : Option Nat} {P : Program} {all : Array Oper} {Q : Exit → Act → World → Prop} {R R' : World → Prop} (h : ∀ w, R w → R' w) : ∀ (fuel : Nat) (listed : Array Bool) (a : Act) (w : World), wpAnyR ro P all Q R fuel listed a w → wpAnyR ro P all Q R' fuel listed a w
  | 0, _, _, _, hk => ⟨h _ hk.1, hk.2⟩
  | fuel + 1, _, _, _, hk => ⟨h _ hk.1, hk.2.1, fun i hi => wpOpIn_mono (fun a w => wpAnyR.mono h fuel _ a w) (hk.2.2 i hi)⟩

theorem wpAnyR.any {ro : Option Nat} {P : Program} {all : Array Oper} {Q : Exit → Act → World → Prop} {R : World → Prop} : ∀ (fuel : Nat) (listed : Array Bool) (a : Act) (w : World), wpAnyR ro P all Q R fuel listed a w → wpAnyIn (Fw ro) 0 P .any all Q fuel listed a w
  | 0, _, _, _, hk => hk.2
  | fuel + 1, _, _, _, hk => ⟨hk.2.1, fun i hi => wpOpIn_mono (fun a w => wpAnyR.any fuel _ a w) (hk.2.2 i hi)⟩

/-- A pure operation is taken first. -/
theorem take_first {ro : Option Nat} {P : Program} {all : Array Oper} {i : Nat} {oi : Oper} {v : Value} {R : World → Prop} {Q : Exit → Act → World → Prop} (hP : ∀ c a w, ¬ Q (.panic c) a w) (hi : all[i]? = some oi) (hg : oi.guard = none)
    (hndi : ∀ c, oi.op ≠ .defer c) (hnd : ∀ (j : Nat) (o : Oper) (c : Call), all[j]? = some o → o.op ≠ .defer c) (hns : ∀ (j : Nat) (o : Oper) cs b, all[j]? = some o → o.op ≠ .select cs b) :
    ∀ (fuel : Nat) (listed : Array Bool) (a : Act) (w : World),
      (∀ j oj, all[j]? = some oj → j ≠ i → listed.getD j true = false → (∀ e ∈ oj.after, Region.binds .any e = true → e.on ≠ i) → oi.apart all oj = true) → i ∈ Region.ready .any all listed → Pure1 P R oi v a →
      wpAnyR ro P all Q R fuel (listed.setIfInBounds i true) (a.put oi.dst v) w → wpAnyR ro P all Q R (fuel + 1) listed a w := by
  have own : ∀ (K : Act → World → Prop) (a : Act) (w : World), Pure1 P R oi v a → R w → K (a.put oi.dst v) w → wpOpIn (Fw ro) 0 P all Q i K a w := by
    intro K a w hp hR hk
    unfold wpOpIn
    rw [hi]
    simp only
    rw [if_pos (by simp [Region.wanted, hg])]
    refine ⟨fun _ _ => trivial, ?_⟩
    rw [Oper.semAt_eq _ _ _ hndi, hp a (fun _ _ => rfl) w hR]
    exact hk
  intro fuel
  induction fuel with
  | zero =>
    intro listed a w _ hr hp hk
    refine ⟨hk.1, fun he => (by rw [he] at hr; cases hr), fun j hj => ?_⟩
    by_cases hji : j = i
    · subst hji; exact own _ a w hp hk.1 hk
    · have := ready_mono hj hji
      rw [hk.2.1] at this
      cases this
  | succ fuel ih =>
    intro listed a w hfree hr hp hk
    refine ⟨hk.1, fun he => (by rw [he] at hr; cases hr), fun j hj => ?_⟩
    by_cases hji : j = i
    · subst hji; exact own _ a w hp hk.1 hk
    · obtain ⟨hun, oj, hoj, hall⟩ := ready_iff.1 hj
      have hni : ∀ e ∈ oj.after, Region.binds .any e = true → e.on ≠ i := fun e he hb heq => by
        have h1 := hall e he hb
        rw [heq, getD_both (ready_iff.1 hr).1] at h1
        cases h1
      have h2 := other_op hP (hfree j oj hoj hji hun hni) hoj (fun c => hnd j oj c hoj) (fun cs b => hns j oj cs b hoj) (hk.2.2 j (ready_mono hj hji))
      refine wpOpIn_mono (fun a' w' h3 => ih (listed.setIfInBounds j true) a' w' (fun k ok hk' hki hunk hno => hfree k ok hk' hki ?_ hno) (ready_mono hr (Ne.symm hji)) (fun a'' he w'' hR => hp a'' (fun x hx => by rw [he x hx, h3.1 x hx]) w'' hR) ?_) h2
      · by_cases hjk : j = k
        · subst hjk; exact hun
        · rw [Array.getD_eq_getD_getElem?, Array.getElem?_setIfInBounds_ne hjk, ← Array.getD_eq_getD_getElem?] at hunk
          exact hunk
      · rw [Array.setIfInBounds_comm _ _ hji]
        exact h3.2

def Still (P : Program) {α : Type} (s : Sem α) : Prop := ∀ w v w', s.run P w = .ok v w' → w' = w
theorem Still.pure {P : Program} {α : Type} (a : α) : Still P (pure a : Sem α) := fun w v w' h => by
  simp only [Sem.run_pure] at h
  cases h
  rfl
theorem Still.bind {P : Program} {α β : Type} {s : Sem α} {f : α → Sem β} (h : Still P s) (h' : ∀ a, Still P (f a)) : Still P (s >>= f) := fun w v w' hr => by
  rw [Sem.run_bind] at hr
  cases hs : s.run P w with
  | ok a w1 =>
    rw [hs] at hr
    have := h _ _ _ hs
    subst this
    exact h' a _ _ _ hr
  | halt _ _ => rw [hs] at hr; cases hr
theorem Still.load1 {P : Program} (a : Addr) : Still P (Go.load a) := fun w v w' h => by
  unfold Go.load at h
  simp only [Sem.run] at h
  repeat' split at h
  all_goals first | (cases h; rfl) | (cases h)
theorem Still.program {P : Program} : Still P Go.program := fun w v w' h => by
  unfold Go.program at h
  simp only [Sem.run] at h
  cases h; rfl
theorem Still.halt {P : Program} {α : Type} (x) : Still P (Sem.halt x : Sem α) := fun w v w' h => by
  simp only [Sem.run] at h
  cases h
theorem Still.loadCells {P : Program} (a : Addr) : ∀ (n i : Nat) (acc : Array Value), Still P (loadCellsFrom a i n acc)
  | 0, i, acc => Still.pure _
  | n + 1, i, acc => Still.bind (Still.load1 _) fun v => Still.loadCells a n (i + 1) _
theorem Still.typeInfo {P : Program} (t : TypeId) : Still P (typeInfo t) := Still.bind Still.program fun p => by
  split
  · exact Still.pure _
  · exact Still.halt _
theorem Still.underlying {P : Program} (t : TypeId) : Still P (underlying t) := Still.bind Still.program fun p => by
  split
  · exact Still.pure _
  · exact Still.halt _
theorem Still.loadVar {P : Program} (t : TypeId) (a : Addr) : Still P (loadVar t a) := by
  unfold Go.loadVar
  refine Still.bind (Still.bind (Still.underlying t) fun d => ?_) fun b => ?_
  · split <;> exact Still.pure _
  · split
    · exact Still.bind (Still.bind (Still.typeInfo t) fun i => Still.pure _) fun n => Still.bind (Still.loadCells a _ _ _) fun v => Still.pure _
    · exact Still.load1 _
theorem Still.loadAt {P : Program} (t : TypeId) (v : Value) : Still P (Instr.loadAt t v) := by
  unfold Instr.loadAt
  refine Still.bind ?_ fun ad => Still.loadVar t ad
  unfold Instr.sureAddr
  split
  · exact Still.pure _
  · exact Still.halt _

theorem Still.execLoad {P : Program} {o : Oper} {ρ : Operand → Value} (h : isLoad o.op = true) {w w' : World} {nx : Next} (hr : (execOp ρ o).run P w = .ok nx w') : w' = w ∧ ∃ u, nx = .value u := by
  unfold isLoad at h
  split at h
  · rename_i t x hop
    simp only [execOp, hop] at hr
    rw [Sem.run_bind] at hr
    cases hs : (Instr.loadAt t (ρ x)).run P w with
    | ok u w1 =>
      rw [hs] at hr
      have := Still.loadAt t (ρ x) _ _ _ hs
      subst this
      have hr : (Result.ok (Next.value u) w1 : Result Next) = .ok nx w' := hr
      cases hr
      exact ⟨rfl, u, rfl⟩
    | halt _ _ => rw [hs] at hr; cases hr
  · cases h
theorem quiet_op {ro : Option Nat} {P : Program} {all : Array Oper} {oj : Oper} {j : Nat} {K : Act → World → Prop} {Q : Exit → Act → World → Prop} (hP : ∀ c a w, ¬ Q (.panic c) a w)
    (hj : all[j]? = some oj) (hl : isLoad oj.op = true) (hh : wpOpIn (Fw ro) 0 P all Q j K a w) : wpOpIn (Fw ro) 0 P all Q j (fun a' w' => w' = w ∧ K a' w') a w := by
  have hnd : ∀ c, oj.op ≠ .defer c := fun c e => by rw [e] at hl; cases hl
  unfold wpOpIn at hh ⊢
  rw [hj] at hh ⊢
  simp only at hh ⊢
  split
  · rename_i hw
    rw [if_pos hw] at hh
    refine ⟨fun _ _ => trivial, ?_⟩
    have hh := hh.2
    rw [Oper.semAt_eq _ _ _ hnd] at hh ⊢
    cases hr : (execOp a.eval oj).run P w with
    | ok nx w' =>
      rw [hr] at hh
      obtain ⟨e, u, rfl⟩ := Still.execLoad hl hr
      exact ⟨e, hh⟩
    | halt st w' =>
      rw [hr] at hh
      cases st <;> simp only [Oper.uponIn] at hh ⊢
      case panic u => exact (hP _ _ _ hh).elim
  · rename_i hw
    rw [if_neg hw] at hh
    exact ⟨fun _ _ => trivial, trivial, hh.2⟩
theorem freeLdD_spec {all : Array Oper} {L D : List Nat} {i : Nat} {oi : Oper} (h : freeLdD all L D i oi = true) :
    (∀ d ∈ D, memS d L = false ∧ (d = i ∨ hasDep all D d = true)) ∧ ∀ j oj, all[j]? = some oj → j ≠ i → memS j L = false → memS j D = false → isLoad oj.op = true ∧ oi.apart all oj = true := by
  unfold freeLdD at h
  simp only [Bool.and_eq_true, List.all_eq_true, List.mem_range] at h
  obtain ⟨h1, h2⟩ := h
  refine ⟨fun d hd => ?_, fun j oj hj hji hL hD => ?_⟩
  · have := h1 d hd
    simp only [Bool.or_eq_true, beq_iff_eq, Bool.not_eq_true'] at this
    exact this
  · have hlt : j < all.size := by
      rcases Nat.lt_or_ge j all.size with h' | h'
      · exact h'
      · rw [Array.getElem?_eq_none h'] at hj; cases hj
    have := h2 j hlt
    rw [hj] at this
    simp only [hL, hD, Bool.or_false, Bool.or_eq_true, beq_iff_eq, Bool.and_eq_true] at this
    rcases this with h | h
    · exact absurd h hji
    · exact h
/-- A load of an own cell is taken first. -/
theorem ld_first {ro : Option Nat} {P : Program} {all : Array Oper} {i : Nat} {oi : Oper} {v : Value} {R : World → Prop} {Q : Exit → Act → World → Prop} (hP : ∀ c a w, ¬ Q (.panic c) a w) (hi : all[i]? = some oi) (hg : oi.guard = none)
    (hndi : ∀ c, oi.op ≠ .defer c) (hnd : ∀ (j : Nat) (o : Oper) (c : Call), all[j]? = some o → o.op ≠ .defer c) (hns : ∀ (j : Nat) (o : Oper) cs b, all[j]? = some o → o.op ≠ .select cs b) {D : List Nat} (hD : ∀ d ∈ D, d = i ∨ hasDep all D d = true) {w : World} :
    ∀ (fuel : Nat) (listed : Array Bool) (a : Act), (∀ d ∈ D, listed.getD d false = false) →
      (∀ j oj, all[j]? = some oj → j ≠ i → listed.getD j true = false → memS j D = false → isLoad oj.op = true ∧ oi.apart all oj = true) → i ∈ Region.ready .any all listed →
      (∀ a' : Act, (∀ x ∈ oi.op.operands, a'.eval x = a.eval x) → (execOp a'.eval oi).run P w = .ok (.value v) w) →
      wpAnyR ro P all Q R fuel (listed.setIfInBounds i true) (a.put oi.dst v) w → wpAnyR ro P all Q R (fuel + 1) listed a w := by
  have own : ∀ (K : Act → World → Prop) (a : Act), (execOp a.eval oi).run P w = .ok (.value v) w → K (a.put oi.dst v) w → wpOpIn (Fw ro) 0 P all Q i K a w := by
    intro K a hp hk
    unfold wpOpIn
    rw [hi]
    simp only
    rw [if_pos (by simp [Region.wanted, hg])]
    refine ⟨fun _ _ => trivial, ?_⟩
    rw [Oper.semAt_eq _ _ _ hndi, hp]
    exact hk
  intro fuel
  induction fuel with
  | zero =>
    intro listed a _ _ hr hp hk
    refine ⟨hk.1, fun he => (by rw [he] at hr; cases hr), fun j hj => ?_⟩
    by_cases hji : j = i
    · subst hji; exact own _ a (hp a fun _ _ => rfl) hk
    · have := ready_mono hj hji
      rw [hk.2.1] at this
      cases this
  | succ fuel ih =>
    intro listed a hdl hfree hr hp hk
    refine ⟨hk.1, fun he => (by rw [he] at hr; cases hr), fun j hj => ?_⟩
    by_cases hji : j = i
    · subst hji; exact own _ a (hp a fun _ _ => rfl) hk
    · obtain ⟨hun, oj, hoj, hall⟩ := ready_iff.1 hj
      have hjD : memS j D = false := by
        cases hm : memS j D with
        | false => rfl
        | true =>
          exfalso
          rcases hD j (memS_iff.1 hm) with h | h
          · exact hji h
          · unfold hasDep at h
            rw [hoj] at h
            simp only [Array.any_eq_true', Bool.and_eq_true] at h
            obtain ⟨e, he, hb, hd⟩ := h
            have h1 := hall e he hb
            rw [hdl e.on (memS_iff.1 hd)] at h1
            cases h1
      obtain ⟨hq, hap⟩ := hfree j oj hoj hji hun hjD
      have h2 := quiet_op hP hoj hq (other_op hP hap hoj (fun c => hnd j oj c hoj) (fun cs b => hns j oj cs b hoj) (hk.2.2 j (ready_mono hj hji)))
      refine wpOpIn_mono (fun a' w' h3 => ?_) h2
      obtain ⟨rfl, h3⟩ := h3
      refine ih (listed.setIfInBounds j true) a' (fun d hd => ?_) (fun k ok hk' hki hunk hno => hfree k ok hk' hki ?_ hno) (ready_mono hr (Ne.symm hji)) (fun a'' he => hp a'' (fun x hx => by rw [he x hx, h3.1 x hx])) ?_
      · have hne : j ≠ d := fun e => by subst e; rw [memS_iff.2 hd] at hjD; cases hjD
        rw [Array.getD_eq_getD_getElem?, Array.getElem?_setIfInBounds_ne hne, ← Array.getD_eq_getD_getElem?]
        exact hdl d hd
      · by_cases hjk : j = k
        · subst hjk; exact hun
        · rw [Array.getD_eq_getD_getElem?, Array.getElem?_setIfInBounds_ne hjk, ← Array.getD_eq_getD_getElem?] at hunk
          exact hunk
      · rw [Array.setIfInBounds_comm _ _ hji]
        exact h3.2
theorem ldOf_spec {fr : List AV} {all : Array Oper} {L R : List Nat} : ∀ l, ldOf fr all L R l = R ∨ ∃ i ∈ l, ldOf fr all L R l = [i] ∧ freeLd fr all L i = true
  | [] => .inl rfl
  | i :: l => by
    unfold ldOf
    cases h : freeLd fr all L i
    · rcases ldOf_spec (fr := fr) (all := all) (L := L) (R := R) l with h' | ⟨j, hj, h'⟩
      · exact .inl h'
      · exact .inr ⟨j, List.mem_cons_of_mem _ hj, h'⟩
    · exact .inr ⟨i, List.mem_cons_self, rfl, h⟩

/-- .. and the other way round. -/
theorem rev_op {ro : Option Nat} {P : Program} {all : Array Oper} {oi oj : Oper} {v : Value} {j : Nat} {K : Act → World → Prop} {Q : Exit → Act → World → Prop} (hP : ∀ c a w, ¬ Q (.panic c) a w) (hap : oi.apart all oj = true)
    (hj : all[j]? = some oj) (hnd : ∀ c, oj.op ≠ .defer c) (hns : ∀ cs b, oj.op ≠ .select cs b) (hh : wpOpIn (Fw ro) 0 P all Q j (fun a' w' => K (a'.put oi.dst v) w') a w) :
    wpOpIn (Fw ro) 0 P all Q j K (a.put oi.dst v) w := by
  obtain ⟨h1, h2, h3⟩ := Oper.apart_spec hap
  have both : ∀ u w', K ((a.put oj.dst u).put oi.dst v) w' → K ((a.put oi.dst v).put oj.dst u) w' := fun u w' hk => by rw [Act.put_comm a v u h2]; exact hk
  have hwd := wanted_put oj a oi.dst v h1
  unfold wpOpIn at hh ⊢
  rw [hj] at hh ⊢
  simp only at hh ⊢
  rw [hwd]
  by_cases hw : Region.wanted oj (yielded all a.tmps) = true
  · rw [if_pos hw] at hh ⊢
    refine ⟨fun _ _ => trivial, ?_⟩
    have hh := hh.2
    rw [Oper.semAt_eq _ _ _ hnd] at hh ⊢
    rw [execOp_put oj hns a oi.dst v h1]
    generalize (execOp a.eval oj).run P w = res at hh ⊢
    rcases res with ⟨nx, w'⟩ | ⟨st, w'⟩
    · cases nx <;> simp only [Oper.uponIn] at hh ⊢
      case value u => exact both u w' hh
      case skip => exact both undef w' hh
      case defer d =>
        rw [← Act.put_comm _ v undef h2, ← Act.put_defers] at hh
        exact hh
      case enter f args =>
        exact ⟨hh.1, CallsIn.mono hh.2 fun e w'' he => by
          cases e with
          | returned u => exact both u w'' he
          | panicked c => exact (hP _ _ _ he).elim
          | outgrown => exact he⟩
      case row r args => exact ⟨hh.1, RowsIn.mono hh.2 fun u w'' he => both u w'' he⟩
      case round l f tmps assign body =>
        exact ⟨hh.1, RoundIn.mono hh.2 fun e w'' he => by
          cases e with
          | returned u => exact both u w'' he
          | panicked c => exact (hP _ _ _ he).elim
          | outgrown => exact he⟩
    · cases st <;> simp only [Oper.uponIn] at hh ⊢
      case panic u => exact (hP _ _ _ hh).elim
  · rw [if_neg hw] at hh ⊢
    exact ⟨fun _ _ => trivial, both undef w hh.2⟩
/-- A load and another operation. -/
theorem dia_first {ro : Option Nat} {P : Program} {all : Array Oper} {i f : Nat} {oi o : Oper} {v0 : Value} {R : World → Prop} {Q : Exit → Act → World → Prop} (hP : ∀ c a w, ¬ Q (.panic c) a w) (hi : all[i]? = some oi) (hfo : all[f]? = some o) (hg : oi.guard = none)
    (hlo : isLoad oi.op = true) (hnd : ∀ (j : Nat) (o : Oper) (c : Call), all[j]? = some o → o.op ≠ .defer c) (hns : ∀ (j : Nat) (o : Oper) cs b, all[j]? = some o → o.op ≠ .select cs b) (hap : oi.apart all o = true) (hif : i ≠ f)
    {listed : Array Bool} {n : Nat} (hri : i ∈ Region.ready .any all listed) (hrf : f ∈ Region.ready .any all listed) (hall : ∀ k ∈ Region.ready .any all listed, k = i ∨ k = f) (hafter : ∀ k ∈ Region.ready .any all (listed.setIfInBounds i true), k = f)
    (hload : (execOp a.eval oi).run P w = .ok (.value v0) w) (hR : R w)
    (h : wpOpIn (Fw ro) 0 P all Q f (fun a1 w1 => wpAnyR ro P all Q R (n + 1) (listed.setIfInBounds f true) a1 w1 ∧ ∀ v1 w2, (execOp a1.eval oi).run P w1 = .ok (.value v1) w2 → v1 = v0) a w) : wpAnyR ro P all Q R (n + 2) listed a w := by
  refine ⟨hR, fun he => (by rw [he] at hri; cases hri), fun k hk => ?_⟩
  rcases hall k hk with e | e
  · subst e
    unfold wpOpIn
    rw [hi]
    simp only
    rw [if_pos (by simp [Region.wanted, hg])]
    refine ⟨fun _ _ => trivial, ?_⟩
    rw [Oper.semAt_eq _ _ _ (fun c => hnd _ _ c hi), hload]
    show wpAnyR ro P all Q R (n + 1) (listed.setIfInBounds k true) (a.put oi.dst v0) w
    have hf' := ready_mono hrf (Ne.symm hif)
    refine ⟨hR, fun he => (by rw [he] at hf'; cases hf'), fun q hq => ?_⟩
    have hqf := hafter q hq
    subst hqf
    refine rev_op hP hap hfo (fun c => hnd _ _ c hfo) (fun cs b => hns _ _ cs b hfo) (wpOpIn_mono (fun a1 w1 hh => ?_) h)
    obtain ⟨hA, hv⟩ := hh
    have hc := hA.2.2 k (ready_mono hri hif)
    unfold wpOpIn at hc
    rw [hi] at hc
    simp only at hc
    rw [if_pos (by simp [Region.wanted, hg])] at hc
    have hc2 := hc.2
    clear hc
    rw [Oper.semAt_eq _ _ _ (fun c => hnd _ _ c hi)] at hc2
    cases hr : (execOp a1.eval oi).run P w1 with
    | ok nx w' =>
      rw [hr] at hc2
      obtain ⟨e, u, rfl⟩ := Still.execLoad hlo hr
      subst e
      have := hv _ _ hr
      subst this
      rw [Array.setIfInBounds_comm _ _ hif]
      exact hc2
    | halt st w' =>
      rw [hr] at hc2
      exfalso
      cases st <;> simp only [Oper.uponIn] at hc2
      case panic u => exact (hP _ _ _ hc2).elim
  · subst e
    exact wpOpIn_mono (fun a1 w1 hh => hh.1) h
theorem slotS_spec {j : Nat} {fr fr1 : List AV} {d : Option Tmp} : ∀ n, slotS j fr fr1 d n = true → ∃ q, d ≠ some q ∧ fget fr q = .sl j ∧ fget fr1 q = .sl j
  | 0, h => by cases h
  | q + 1, h => by
    simp only [slotS, Bool.or_eq_true, Bool.and_eq_true] at h
    rcases h with ⟨⟨h1, h2⟩, h3⟩ | h
    · have hs : ∀ x : AV, isSl j x = true → x = .sl j := fun x hx => by
        unfold isSl at hx
        split at hx
        · rw [Nat.eq_of_beq_eq_true hx]
        · cases hx
      refine ⟨q, fun e => ?_, hs _ h2, hs _ h3⟩
      subst e
      simp [notDst] at h1
    · exact slotS_spec q h
theorem sameAV_val {fr fr1 : List AV} {d : Option Tmp} {x y : AV} {a1 : Act} {Ψ1 Ψ2 Ψ3 : Pr} {β1 : List Value} {v0 v1 : Value} (h : sameAV fr fr1 d x y = true) (hf : RelFr Ψ β fr a) (hf1 : RelFr Ψ1 β1 fr1 a1) (hs : ∀ q, d ≠ some q → a1.tmps[q]? = a.tmps[q]?)
    (h0 : RelV Ψ2 β x v0) (h1 : RelV Ψ3 β1 y v1) : v1 = v0 := by
  unfold sameAV at h
  split at h
  · have e0 : v0 = .slice none 0 0 := h0
    have e1 : v1 = .slice none 0 0 := h1
    rw [e0, e1]
  · rename_i j k
    simp only [Bool.and_eq_true, Nat.beq_eq] at h
    obtain ⟨rfl, h⟩ := h
    obtain ⟨q, hq, g0, g1⟩ := slotS_spec _ h
    have r0 := ev_rel hf (.tmp q)
    have r1 := ev_rel hf1 (.tmp q)
    have r0 : RelV Ψ β (fget fr q) (a.eval (.tmp q)) := r0
    have r1 : RelV Ψ1 β1 (fget fr1 q) (a1.eval (.tmp q)) := r1
    rw [g0] at r0
    rw [g1] at r1
    have ee : a1.eval (.tmp q) = a.eval (.tmp q) := by
      have := hs q hq
      simp only [Act.eval, Array.getD_eq_getD_getElem?, this]
    have e1 : β1[j]? = some (a1.eval (.tmp q)) := r1.1
    have e0 : β[j]? = some (a.eval (.tmp q)) := r0.1
    have f0 : β[j]? = some v0 := h0.1
    have f1 : β1[j]? = some v1 := h1.1
    rw [e0] at f0
    rw [e1, ee] at f1
    simp only [Option.some.injEq] at f0 f1
    rw [← f0, ← f1]
  · cases h
theorem diaOf_spec {L : List Nat} {all : Array Oper} {s : St} {n : Nat} {R : List Nat} {i f : Nat} (h : diaOf C all L s n R = some (i, f)) : (R = [i, f] ∨ R = [f, i]) ∧ diaOk C all L s i f = true ∧ ∃ m, n = m + 1 := by
  unfold diaOf at h
  split at h
  · split at h
    · cases h
    · split at h
      · cases h
      · split at h
        · rename_i hd
          simp only [Option.some.injEq, Prod.mk.injEq] at h
          obtain ⟨rfl, rfl⟩ := h
          exact ⟨.inl rfl, hd, _, rfl⟩
        · split at h
          · rename_i hd
            simp only [Option.some.injEq, Prod.mk.injEq] at h
            obtain ⟨rfl, rfl⟩ := h
            exact ⟨.inr rfl, hd, _, rfl⟩
          · cases h
  · cases h
theorem diaOk_spec {L : List Nat} {all : Array Oper} {s : St} {i f : Nat} (h : diaOk C all L s i f = true) : ∃ oi o, all[i]? = some oi ∧ all[f]? = some o ∧ isLoad oi.op = true ∧ oi.guard = none ∧ (∃ t x r, oi.op = .load t x ∧ aload C s.heap t (ev s.top x) = some r) ∧ oi.apart all o = true ∧ i ≠ f ∧ readyL all (i :: L) all.size = [f] := by
  unfold diaOk at h
  split at h
  · rename_i oi o hi hf
    simp only [Bool.and_eq_true, Option.isNone_iff_eq_none] at h
    obtain ⟨⟨⟨⟨⟨h1, h2⟩, h3⟩, h4⟩, h5⟩, h6⟩ := h
    have hn : i ≠ f := fun e => by subst e; simp at h5
    refine ⟨oi, o, hi, hf, ?_, h2, ?_, h4, hn, ?_⟩
    · unfold isLd at h1
      split at h1
      · rename_i t x hop; rw [hop]; rfl
      · cases h1
    · unfold loadAV at h3
      split at h3
      · rename_i t x hop
        split at h3
        · rename_i r hr
          exact ⟨t, x, r, hop, hr⟩
        · cases h3
      · cases h3
    · split at h6
      · rename_i g hg
        rw [hg, Nat.eq_of_beq_eq_true h6]
      · cases h6
  · cases h

theorem wpAnyIn_monoQ {F : Fence} {n : Nat} {P : Program} {md : Region.Mode} {ops : Array Oper} {Q Q' : Exit → Act → World → Prop} (hq : ∀ e a w, Q e a w → Q' e a w) :
    ∀ (fuel : Nat) (listed : Array Bool) (a : Act) (w : World), wpAnyIn F n P md ops Q fuel listed a w → wpAnyIn F n P md ops Q' fuel listed a w := by
  intro fuel
  induction fuel with
  | zero => intro listed a w h; exact ⟨h.1, hq _ _ _ h.2⟩
  | succ fuel ih =>
    intro listed a w h
    refine ⟨fun hr => hq _ _ _ (h.1 hr), fun i hi => ?_⟩
    have h2 := wpOpIn_mono (fun a w => ih (listed.setIfInBounds i true) a w) (h.2 i hi)
    unfold wpOpIn at h2 ⊢
    split
    · rename_i hn; rw [hn] at h2; exact h2
    · rename_i o ho
      rw [ho] at h2
      simp only at h2
      split
      · rename_i hw
        rw [if_pos hw] at h2
        exact wpIn_monoQ (fun e a w _ => hq e a w) h2
      · rename_i hw
        rw [if_neg hw] at h2
        exact h2

/-- All orders, one by one. -/
theorem aall_sound {call : CallT} (hc : CallSound C call) {ro : Option Nat} {all : Array Oper} {Q : Exit → Act → World → Prop} {k : St → Prop} (hW : ∀ o ∈ all.toList, ∀ t, o.dst = some t → t ∈ W) (hQ : ∀ a w, PostC C B w0 Ψ0 As W a0 k a w → Q .normal a w) (hns : Region.noSelect all = true) (hnd : noDefer all = true) (hP : ∀ c a w, ¬ Q (.panic c) a w) :
    ∀ (n : Nat) {L : List Nat} {listed : Array Bool} {s : St} {Ψ : Pr} {β : List Value} {a : Act} {w : World}, (∀ i, listed.getD i false = memS i L) → listed.size = all.size → aall C call all n L s k →
    Ext B Ψ0 Ψ → InvH C.P B w0 Ψ β s.heap w → RelF Ψ β (s.top :: s.below) (a :: As) → Same Ψ0 W a0 a → ∀ R : World → Prop, (∀ Ψ' β' h' w', Ext B Ψ Ψ' → InvH C.P B w0 Ψ' β' h' w' → R w') → wpAnyR ro C.P all Q R n listed a w := by
  have fwd : ∀ {L : List Nat} {listed : Array Bool}, (∀ i, listed.getD i false = memS i L) → listed.size = all.size → ∀ i, i ∈ Region.ready .any all listed ↔ i ∈ readyL all L all.size := by
    intro L listed hl hs i
    rw [ready_iff, readyL_mem]
    constructor
    · rintro ⟨h1, o, ho, h2⟩
      have hlt : i < all.size := by
        rcases Nat.lt_or_ge i all.size with h' | h'
        · exact h'
        · rw [Array.getElem?_eq_none h'] at ho; cases ho
      refine ⟨hlt, o, ho, by rw [← hl]; exact getD_both h1, ?_⟩
      rw [List.all_eq_true]
      intro j hj
      obtain ⟨e, he, hb, rfl⟩ := edgesOf_spec hj
      rw [← hl]
      exact h2 e he hb
    · rintro ⟨hlt, o, ho, h1, h2⟩
      refine ⟨getD_in (by omega) (by rw [hl]; exact h1), o, ho, fun e he hb => ?_⟩
      rw [List.all_eq_true] at h2
      rw [hl]
      refine h2 e.on ?_
      simp only [edgesOf, List.mem_map, List.mem_filter]
      exact ⟨e, ⟨by simpa using he, hb⟩, rfl⟩
  have empty : ∀ {L : List Nat} {listed : Array Bool}, (∀ i, listed.getD i false = memS i L) → listed.size = all.size → readyL all L all.size = [] → Region.ready .any all listed = [] := by
    intro L listed hl hs h
    cases hr : Region.ready .any all listed with
    | nil => rfl
    | cons i l =>
      have := (fwd hl hs i).1 (by rw [hr]; simp)
      rw [h] at this
      cases this
  intro n
  induction n with
  | zero =>
    intro L listed s Ψ β a w hl hs hk hE hi hf hS R hR
    unfold aall at hk
    split at hk
    · rename_i hn
      exact ⟨hR _ _ _ _ (Ext.refl B Ψ) hi, empty hl hs (isNilL_iff.1 hn), hQ a w ⟨Ψ, β, s, hE, hi, hf, hS, hk⟩⟩
    · exact hk.elim
  | succ n ih =>
    intro L listed s Ψ β a w hl hs hk hE hi hf hS R hR
    unfold aall at hk
    split at hk
    · rename_i hn
      have he := empty hl hs (isNilL_iff.1 hn)
      exact ⟨hR _ _ _ _ (Ext.refl B Ψ) hi, fun _ => hQ a w ⟨Ψ, β, s, hE, hi, hf, hS, hk⟩, fun i hi => by rw [he] at hi; cases hi⟩
    · rename_i hn
      refine ⟨hR _ _ _ _ (Ext.refl B Ψ) hi, fun hr => ?_, fun i hir => ?_⟩
      · exfalso
        apply hn
        rw [isNilL_iff]
        cases hrl : readyL all L all.size with
        | nil => rfl
        | cons i l =>
          have := (fwd hl hs i).2 (by rw [hrl]; simp)
          rw [hr] at this
          cases this
      · have him := (fwd hl hs i).1 hir
        have hset : ∀ i, i < all.size → (∀ j, (listed.setIfInBounds i true).getD j false = memS j (i :: L)) := fun i hi j => by
          rw [set_getD (by omega)]
          simp only [memS]
          by_cases hij : i = j
          · subst hij; simp
          · rw [if_neg hij, hl, show Nat.beq j i = false from by
              cases hb : Nat.beq j i with
              | false => rfl
              | true => exact absurd (Nat.eq_of_beq_eq_true hb).symm hij]
            rfl
        split at hk
        · rename_i i' htk
          obtain ⟨hmem, hfr⟩ := tkOf_spec htk
          obtain ⟨hlt', o', ho', hun', hed'⟩ := readyL_mem.1 hmem
          unfold oneAt at hk
          rw [ho'] at hk
          simp only at hk
          split at hk
          · rename_i r hr
            obtain ⟨h1, h2, h3⟩ := freeL_spec hl hs ho' hfr
            have hkn := needs_elim hk
            obtain ⟨v, hy, hv⟩ := tk_yields (a := a) h1 (fun x _ => ev_rel (frame_of hf) x) hr hkn.1
            have hnd' : ∀ (j : Nat) (o : Oper) (c : Call), all[j]? = some o → o.op ≠ .defer c := fun j o c hj e => by
              have := Array.all_eq_true_iff_forall_mem.1 hnd o (Array.mem_of_getElem? hj)
              simp [e] at this
            have hrest := ih (hset i' hlt') (by simpa using hs) hkn.2 hE (by rw [put_heap]; exact hi) (RelF_put hf hv) (hS.put (hW o' (List.mem_of_getElem? (l := all.toList) (i := i') (by simpa using ho')))) (fun w => R w ∧ Keeps Ψ w) (fun Ψ' β' h' w' he hi' => ⟨hR _ _ _ _ he hi', fun ad u hu => hi'.prom ad u (he.1 ad u hu)⟩)
            have := take_first (ro := ro) (P := C.P) hP ho' h2 (fun c => hnd' i' o' c ho') hnd' (Region.noSelect_spec hns) n listed a w (Region.free_spec ho' h3) ((fwd hl hs i').2 hmem) (fun a' he w hw => hy a' he w hw.2) hrest
            exact (wpAnyR.mono (fun w hw => hw.1) _ _ _ _ this).2.2 i hir
          · exact hk.elim
        split at hk
        · rename_i i' f' hdia
          obtain ⟨hrl, hok, m, rfl⟩ := diaOf_spec hdia
          obtain ⟨oi, o, hoi, hof, hlo, hgn, ⟨t, x, r0, hop, hr0⟩, hap, hne, haft⟩ := diaOk_spec hok
          have hnd' : ∀ (j : Nat) (o : Oper) (c : Call), all[j]? = some o → o.op ≠ .defer c := fun j o c hj e => by
            have := Array.all_eq_true_iff_forall_mem.1 hnd o (Array.mem_of_getElem? hj)
            simp [e] at this
          have mi : i' ∈ readyL all L all.size := by rcases hrl with h | h <;> rw [h] <;> simp
          have mf : f' ∈ readyL all L all.size := by rcases hrl with h | h <;> rw [h] <;> simp
          have hi1 := (readyL_mem.1 mi).1
          have hf1 := (readyL_mem.1 mf).1
          unfold oneAt at hk
          rw [hoi, hof] at hk
          simp only at hk
          obtain ⟨_, _, _, v0, Ψ0', w0', hrun, _, hv0⟩ := load_ok hi (ev_rel (frame_of hf) x) hr0
          have hw0 := Still.loadAt t _ _ _ _ hrun
          subst hw0
          have hload : (execOp a.eval oi).run C.P w0' = .ok (.value v0) w0' := by
            simp only [execOp, hop]
            exact run_val hrun
          have hom : o ∈ all.toList := List.mem_of_getElem? (l := all.toList) (i := f') (by simpa using hof)
          have hw := aops_sound (B := B) (w0 := w0) (Ψ0 := Ψ) (As := As) (W := o.dst.toList) (a0 := a) (ro := ro) hc all [o] (Q := fun e a' w' => match e with
            | .normal => wpAnyR ro C.P all Q R (m + 1) (listed.setIfInBounds f' true) a' w' ∧ ∀ v1 w2, (execOp a'.eval oi).run C.P w' = .ok (.value v1) w2 → v1 = v0
            | _ => False) hk (Ext.refl B Ψ) hi hf (Same.refl Ψ _ a) (fun o' ho' t ht => by simp at ho'; subst ho'; simp [ht]) (fun a' w' hp => by
              obtain ⟨Ψ', β', s', hE', hi', hf', hS', hk'⟩ := hp
              have hld0 : loadAV C s.top s.heap oi.op = some r0.v := by unfold loadAV; rw [hop]; simp only [hr0]
              rw [hld0] at hk'
              cases hld1 : loadAV C s'.top s'.heap oi.op with
              | none => rw [hld1] at hk'; exact hk'.elim
              | some y =>
                rw [hld1] at hk'
                have hk' : if sameAV s.top s'.top o.dst r0.v y = true then aall C call all (m + 1) (f' :: L) s' k else False := hk'
                by_cases hsm : sameAV s.top s'.top o.dst r0.v y = true
                · rw [if_pos hsm] at hk'
                  refine ⟨ih (hset f' hf1) (by simpa using hs) hk' (hE.trans hE') hi' hf' (hS.trans hE.1 ⟨⟨hS'.1.1, fun i hni => hS'.1.2 i fun hm => hni (hW o hom i (by simpa using hm))⟩, hS'.2⟩) R (fun Ψ2 β2 h2 w2 he hi2 => hR _ _ _ _ (hE'.trans he) hi2), fun v1 w2 hr1 => ?_⟩
                  unfold loadAV at hld1
                  rw [hop] at hld1
                  simp only at hld1
                  split at hld1
                  · rename_i r1 hr1'
                    simp only [Option.some.injEq] at hld1
                    subst hld1
                    obtain ⟨_, _, _, v1', Ψ1', w1', hrun1, _, hv1⟩ := load_ok hi' (ev_rel (frame_of hf') x) hr1'
                    have hw1 := Still.loadAt t _ _ _ _ hrun1
                    subst hw1
                    have hx1 : (execOp a'.eval oi).run C.P w1' = .ok (.value v1') w1' := by
                      simp only [execOp, hop]
                      exact run_val hrun1
                    rw [hx1] at hr1
                    have e1 : v1' = v1 := by cases hr1; rfl
                    subst e1
                    exact sameAV_val hsm (frame_of hf) (frame_of hf') (fun q hq => hS'.1.2 q fun hm => hq (by simpa using hm)) hv0 hv1
                  · cases hld1
                · rw [if_neg hsm] at hk'
                  exact hk'.elim)
          have hop' : wpOpIn (Fw ro) 0 C.P all Q f' (fun a1 w1 => wpAnyR ro C.P all Q R (m + 1) (listed.setIfInBounds f' true) a1 w1 ∧ ∀ v1 w2, (execOp a1.eval oi).run C.P w1 = .ok (.value v1) w2 → v1 = v0) a w0' := by
            refine wpOp_at hof ?_
            unfold wpListIn at hw
            split
            · rename_i hwant
              rw [if_pos hwant] at hw
              exact wpIn_monoQ (fun e a w hne h => by cases e <;> first | exact absurd rfl hne | exact h.elim) hw
            · rename_i hwant
              rw [if_neg hwant] at hw
              exact hw.2
          exact (dia_first hP hoi hof hgn hlo hnd' (Region.noSelect_spec hns) hap hne ((fwd hl hs i').2 mi) ((fwd hl hs f').2 mf) (fun k hk => by
            have := (fwd hl hs k).1 hk
            rcases hrl with h | h <;> rw [h] at this <;> simp at this <;> omega) (fun k hk => by
            have := (fwd (hset i' hi1) (by simpa using hs) k).1 hk
            rw [haft] at this
            simpa using this) hload (hR _ _ _ _ (Ext.refl B Ψ) hi) hop').2.2 i hir
        · have core : ∀ i, i ∈ readyL all L all.size → i ∈ ldOf s.top all L (readyL all L all.size) (readyL all L all.size) → wpOpIn (Fw ro) 0 C.P all Q i (wpAnyR ro C.P all Q R n (listed.setIfInBounds i true)) a w := by
            intro i him hild
            obtain ⟨hlt, o, ho, _, _⟩ := readyL_mem.1 him
            have hone := aeach_mem hk i hild
            unfold oneAt at hone
            rw [ho] at hone
            simp only at hone
            have hom : o ∈ all.toList := List.mem_of_getElem? (l := all.toList) (i := i) (by simpa using ho)
            have hw := aops_sound (B := B) (w0 := w0) (Ψ0 := Ψ) (As := As) (W := W) (a0 := a) (ro := ro) hc all [o] (Q := fun e a' w' => match e with
              | .normal => wpAnyR ro C.P all Q R n (listed.setIfInBounds i true) a' w'
              | _ => False) hone (Ext.refl B Ψ) hi hf (Same.refl Ψ W a) (fun o' ho' => by simp at ho'; subst ho'; exact hW _ hom) (fun a' w' hp => by
                obtain ⟨Ψ', β', s', hE', hi', hf', hS', hk'⟩ := hp
                exact ih (hset i hlt) (by simpa using hs) hk' (hE.trans hE') hi' hf' (hS.trans hE.1 hS') R (fun Ψ2 β2 h2 w2 he hi2 => hR _ _ _ _ (hE'.trans he) hi2))
            refine wpOp_at ho ?_
            unfold wpListIn at hw
            split
            · rename_i hwant
              rw [if_pos hwant] at hw
              exact wpIn_monoQ (fun e a w hne h => by cases e <;> first | exact absurd rfl hne | exact h.elim) hw
            · rename_i hwant
              rw [if_neg hwant] at hw
              exact hw.2
          rcases ldOf_spec (fr := s.top) (all := all) (L := L) (R := readyL all L all.size) (readyL all L all.size) with he | ⟨i', hmem, he, hfr⟩
          · exact core i him (by rw [he]; exact him)
          · obtain ⟨hlt', o', ho', hun', hed'⟩ := readyL_mem.1 hmem
            have hc' := core i' hmem (by rw [he]; exact List.mem_singleton.2 rfl)
            unfold freeLd at hfr
            rw [ho'] at hfr
            simp only [Bool.and_eq_true, Option.isNone_iff_eq_none] at hfr
            obtain ⟨⟨hld, hg⟩, hfd⟩ := hfr
            obtain ⟨d1, d2⟩ := freeLdD_spec hfd
            have hnd' : ∀ (j : Nat) (o : Oper) (c : Call), all[j]? = some o → o.op ≠ .defer c := fun j o c hj e => by
              have := Array.all_eq_true_iff_forall_mem.1 hnd o (Array.mem_of_getElem? hj)
              simp [e] at this
            have hisl : isLoad o'.op = true := by
              unfold isLd at hld
              split at hld
              · rename_i t x hop; rw [hop]; rfl
              · cases hld
            unfold wpOpIn at hc'
            rw [ho'] at hc'
            simp only at hc'
            rw [if_pos (by simp [Region.wanted, hg])] at hc'
            have hc2 := hc'.2
            rw [Oper.semAt_eq _ _ _ (fun c => hnd' i' o' c ho')] at hc2
            clear hc'
            cases hr : (execOp a.eval o').run C.P w with
            | ok nx w' =>
              rw [hr] at hc2
              obtain ⟨e, u, rfl⟩ := Still.execLoad hisl hr
              subst e
              have hrest : wpAnyR ro C.P all Q R n (listed.setIfInBounds i' true) (a.put o'.dst u) w' := hc2
              have hrun : ∀ a' : Act, (∀ x ∈ o'.op.operands, a'.eval x = a.eval x) → (execOp a'.eval o').run C.P w' = .ok (.value u) w' := fun a' hx => by
                rw [← hr]
                unfold isLoad at hisl
                split at hisl
                · rename_i t x hop
                  have := hx x (by rw [hop]; simp [Op.operands])
                  simp only [execOp, hop, this]
                · cases hisl
              have hpend : ∀ j, listed.getD j true = false → memS j L = false := fun j hj => by rw [← hl]; exact getD_both hj
              exact (ld_first hP ho' hg (fun c => hnd' i' o' c ho') hnd' (Region.noSelect_spec hns) (D := descs all L all.size [i']) (fun d hd => (d1 d hd).2) n listed a (fun d hd => by rw [hl]; exact (d1 d hd).1)
                (fun j oj hj hji hun hjD => d2 j oj hj hji (hpend j hun) hjD) ((fwd hl hs i').2 hmem) hrun hrest).2.2 i hir
            | halt st w' =>
              rw [hr] at hc2
              exfalso
              cases st <;> simp only [Oper.uponIn] at hc2
              case panic u => exact (hP _ _ _ hc2).elim

/-- **A region that draws its order.** -/
theorem adraw_sound (hsp : SpecSound C) {call : CallT} (hc : CallSound C call) {all : Array Oper} {id : Nat} {s : St} {k : St → Prop} {md : Mode} (hk : adraw C call md all s k) (hE : Ext B Ψ0 Ψ) (hi : InvH C.P B w0 Ψ β s.heap w) (hf : RelF Ψ β (s.top :: s.below) (a :: As))
    (hS : Same Ψ0 W a0 a) (hW : ∀ o ∈ all.toList, ∀ t, o.dst = some t → t ∈ W) {Q : Exit → Act → World → Prop} {ro : Option Nat} (hQ : ∀ a w, PostC C B w0 Ψ0 As W a0 k a w → Q .normal a w) : (Code.region id all true).wpIn (Fw ro) 0 C.P Q a w := by
  unfold adraw at hk
  split at hk
  · split at hk
    · rename_i hmix
      simp only [Bool.and_eq_true] at hmix
      refine wpIn_region_any hmix.1 ?_
      have hwd : { w with drawn := w.drawn + 1 } = w.drew := rfl
      rw [hwd]
      have hH : InvH C.P B w0 Ψ β s.heap w.drew := hi.step ⟨(Below.refl _ w).drew, PLe.refl _, fun _ _ h => .inl h⟩
      refine wpAnyIn_monoQ (Q := fun e a w => match e with | .normal => Q .normal a w | _ => False) (fun e a w h => by cases e <;> first | exact h | exact h.elim) _ _ _ _ ?_
      exact (aall_sound (Q := fun e a w => match e with | .normal => Q .normal a w | _ => False) hc hW (fun a w hp => hQ a w hp) hmix.2.1 hmix.2.2 (fun _ _ _ h => h) all.size (fun i => none_listed i) (by simp) hk hE hH hf hS (fun _ => True) (fun _ _ _ _ _ _ => trivial)).any
    · exact hk.elim
  split at hk
  · rename_i hok
    simp only [Bool.and_eq_true] at hok
    obtain ⟨hok, hmix⟩ := hok
    unfold drawOk at hok
    simp only [Bool.and_eq_true] at hok
    obtain ⟨hhead, htail⟩ := hok
    obtain ⟨tops, mids, vals, wnt, effi, rwi, ht, hk'⟩ := dops_trace _ _ _ _ _ _ hk
    have hm : headLen all ≤ all.size := by unfold headLen; omega
    have hml : (all.toList.take (headLen all)).length = headLen all := by simp; omega
    rw [hml] at hk'
    simp only [List.nil_append] at hk' ht
    refine wpIn_region_any hmix ?_
    have hwd : { w with drawn := w.drawn + 1 } = w.drew := rfl
    rw [hwd]
    obtain ⟨a1, as', e, ⟨hdf, hrel⟩, hF⟩ := hf
    simp only [List.cons.injEq] at e
    obtain ⟨rfl, rfl⟩ := e
    have hH : InvH C.P B w0 Ψ β s.heap w.drew := hi.step ⟨(Below.refl _ w).drew, PLe.refl _, fun _ _ h => .inl h⟩
    refine head_any (B := B) (w0 := w0) (h := s.heap) (Ψ0 := Ψ0) (β := β) (As := As) (W := W) (a0 := a0) (below := s.below) hsp hm (head_spec hhead) rfl hi.len ht htail hW ?_ all.size _ a w.drew (by simp) (fun i _ _ => none_listed i) (fun i o _ hl => by rw [none_listed i] at hl; cases hl) ?_ ?_
    · intro Ψ1 us a' w' hE' hH' hF' hS'
      exact aops_sound hc all _ hk' hE' hH' hF' hS' (fun o ho => hW o (List.mem_of_mem_drop ho)) hQ
    · unfold unl
      have := List.countP_le_length (p := (! ·)) (l := (Array.replicate all.size false).toList)
      simpa using this
    · have hg : InvH C.P B w0 Ψ (β ++ List.replicate (all.toList.take (headLen all)).length hole) (s.heap ++ gones (all.toList.take (headLen all))) w.drew := hH.places _ _ (by simp [gones_len]) (fun b hb => by
        obtain ⟨i, hi⟩ := List.getElem?_of_mem hb
        exact gones_all hi)
      have hrn : rwNow (all.toList.take (headLen all)).length rwi (Array.replicate all.size false) = [] := by
        rw [List.eq_nil_iff_forall_not_mem]
        intro q hq
        obtain ⟨j, _, hl, _⟩ := rw_mem hq
        rw [none_listed] at hl
        cases hl
      refine ⟨Ψ, List.replicate (all.toList.take (headLen all)).length hole, gones (all.toList.take (headLen all)), hE, (by rw [hrn]; exact hg), ⟨by simp, gones_len _, fun i him => ⟨?_, fun _ => ?_⟩⟩, RelF_mono (PLe.refl _) (app_mono _) _ _ hF, hdf, by simpa using RelL_len _ _ hrel, fun t ht' => ?_, hS⟩
      · rw [none_listed i]
        exact gones_get him
      · rw [List.getElem?_replicate, if_pos him]
      rw [baseL_none (fun i o _ _ => by simp [Array.getD_eq_getD_getElem?, Array.getElem?_replicate]; split <;> rfl)]
      exact RelV_mono (PLe.refl _) (app_mono _) _ _ (RelL_get _ _ hrel t)
  · exact hk.elim

end Go.AM
