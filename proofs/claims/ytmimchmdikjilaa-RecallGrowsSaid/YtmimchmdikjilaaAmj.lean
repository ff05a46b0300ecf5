import Derived.Test.YtmimchmdikjilaaAmi
import Derived.Maps.RangeRun
import Derived.Laws.Cover3
import Derived.RangeFuncRecord
import Derived.RangeFuncCalls
import Derived.TacticsIn
import Derived.OrdersIn
namespace Go.AM
set_option linter.unusedVariables false
open Go.RowKit Go.MapKept

variable {B : Nat} {w0 : World} {C : Ctx} {Ψ Ψ0 : Pr} {β : List Value} {h : List Blk} {w w' : World} {fr : List AV} {a a0 : Act} {As : List Act} {W : List Nat}

/-! ### Lists of operations -/
/-- The slots outside of W are what they were; marks may have come, of blocks of which nothing was promised. -/
def Same (Ψ0 : Pr) (W : List Nat) (a0 a : Act) : Prop :=
  (a.tmps.size = a0.tmps.size ∧ ∀ i, i ∉ W → a.tmps[i]? = a0.tmps[i]?) ∧ ∃ ds : List Nat, a.defers = ds.map mkD ++ a0.defers ∧ ∀ D ∈ ds, Ψ0 (dAddr D) = none

theorem Same.refl (Ψ0 : Pr) (W : List Nat) (a : Act) : Same Ψ0 W a a := ⟨⟨rfl, fun _ _ => rfl⟩, [], rfl, by simp⟩
theorem Same.trans {a b c : Act} {Ψ1 : Pr} (hle : PLe Ψ0 Ψ1) (h : Same Ψ0 W a b) (h' : Same Ψ1 W b c) : Same Ψ0 W a c := by
  obtain ⟨⟨h1, h2⟩, ds, h3, h4⟩ := h
  obtain ⟨⟨g1, g2⟩, es, g3, g4⟩ := h'
  refine ⟨⟨g1.trans h1, fun i hi => (g2 i hi).trans (h2 i hi)⟩, es ++ ds, by rw [g3, h3]; simp, fun D hD => ?_⟩
  rcases List.mem_append.1 hD with hD | hD
  · cases hp : Ψ0 (dAddr D) with
    | none => rfl
    | some v => have := hle _ _ hp; rw [g4 D hD] at this; cases this
  · exact h4 D hD
theorem Same.put {d : Option Tmp} {v : Value} (hs : Same Ψ0 W a0 a) (hd : ∀ t, d = some t → t ∈ W) : Same Ψ0 W a0 (a.put d v) := by
  cases d with
  | none => exact hs
  | some t =>
    obtain ⟨⟨h1, h2⟩, h3⟩ := hs
    refine ⟨⟨by simpa [Act.put] using h1, fun i hi => ?_⟩, h3⟩
    have : t ≠ i := fun e => hi (e ▸ hd t rfl)
    simp only [Act.put]
    rw [Array.getElem?_setIfInBounds_ne this]
    exact h2 i hi

/-- Nothing is fenced in; perhaps in a round. -/
def Fw (ro : Option Nat) : Fence := { Fence.wide with round := ro }
theorem callsIn_w {P : Program} {f : FuncId} {args : Array Value} {R : Ending → World → Prop} (ro : Option Nat) (n : Nat) (h : Calls P f args w R) : CallsIn (Fw ro) n P f args w R := by
  cases ro with
  | none => exact callsIn_wide.2 h
  | some l => exact CallsIn.inRound l (callsIn_wide.2 h)

/-- What stands behind a piece of code: the abstract state fits, and of it k holds. -/
def PostC (C : Ctx) (B : Nat) (w0 : World) (Ψ0 : Pr) (As : List Act) (W : List Nat) (a0 : Act) (k : St → Prop) (a : Act) (w : World) : Prop :=
  ∃ Ψ β s, Ext B Ψ0 Ψ ∧ InvH C.P B w0 Ψ β s.heap w ∧ RelF Ψ β (s.top :: s.below) (a :: As) ∧ Same Ψ0 W a0 a ∧ k s

def CallSound (C : Ctx) (call : CallT) : Prop :=
  (∀ (j : Nat) (avs : List AV) (s : St) (k : AV → St → Prop), call (.yld j) avs s k → ∀ (B : Nat) (w0 : World) (Ψ : Pr) (β : List Value) (As : List Act) (vs : List Value) (w : World),
    InvH C.P B w0 Ψ β s.heap w → RelF Ψ β (s.top :: s.below) As → RelL Ψ β avs vs →
    ∃ l r, β[j]? = some (yldV l) ∧ w.heap[l]? = some (.loop r) ∧ vs.length = r.params.size ∧
      RoundIn Fence.wide 0 C.P l r.fn ((r.params.zip vs.toArray).foldl (fun tmps (t, a) => tmps.setIfInBounds t a) r.tmps) r.assign r.body w
        fun e w' => ∃ v Ψ' β' av s', e = .returned v ∧ Ext B Ψ Ψ' ∧ InvH C.P B w0 Ψ' β' s'.heap w' ∧ RelF Ψ' β' (s'.top :: s'.below) As ∧ RelV Ψ' β' av v ∧ k av s') ∧
  ∀ (f : FuncId) (avs : List AV) (s : St) (k : AV → St → Prop), call (.fn f) avs s k → enterOk C f = true → ∀ (B : Nat) (w0 : World) (Ψ : Pr) (β : List Value) (As : List Act) (vs : List Value) (w : World),
    InvH C.P B w0 Ψ β s.heap w → RelF Ψ β (s.top :: s.below) As → RelL Ψ β avs vs →
    Calls C.P f vs.toArray w fun e w' => ∃ v Ψ' β' av s', e = .returned v ∧ Ext B Ψ Ψ' ∧ InvH C.P B w0 Ψ' β' s'.heap w' ∧ RelF Ψ' β' (s'.top :: s'.below) As ∧ RelV Ψ' β' av v ∧ k av s'

theorem RelF_put {Ψ' : Pr} {β' : List Value} {s : St} {d : Option Tmp} {av : AV} {v : Value} (hf : RelF Ψ' β' (s.top :: s.below) (a :: As)) (hv : RelV Ψ' β' av v) :
    RelF Ψ' β' ((s.put d av).top :: (s.put d av).below) (a.put d v :: As) := by
  obtain ⟨a1, as', e, ⟨h1, h2⟩, h3⟩ := hf
  simp only [List.cons.injEq] at e
  obtain ⟨rfl, rfl⟩ := e
  cases d with
  | none => exact ⟨_, _, rfl, ⟨h1, h2⟩, h3⟩
  | some t =>
    refine ⟨_, _, rfl, ⟨h1, ?_⟩, h3⟩
    simp only [St.put, Act.put]
    have := RelL_set hv _ _ t h2
    simpa using this

theorem put_heap (s : St) (d : Option Tmp) (av : AV) : (s.put d av).heap = s.heap := by cases d <;> rfl

theorem frame_of {s : St} (hf : RelF Ψ β (s.top :: s.below) (a :: As)) : RelFr Ψ β s.top a := by
  obtain ⟨a1, as', e, h1, h3⟩ := hf
  simp only [List.cons.injEq] at e
  obtain ⟨rfl, rfl⟩ := e
  exact h1

theorem enterOk_run {g : FuncId} (hg : enterOk C g = true) (args : Array Value) (w : World) : (callFunc g args).run C.P w = .ok (.enter g args) w := by
  unfold enterOk at hg
  split at hg
  · rename_i fn hfn
    simp only [Bool.and_eq_true, Bool.not_eq_true', beq_eq_false_iff_ne] at hg
    obtain ⟨h1, h2⟩ := hg
    simp [callFunc, hfn, h2]
    intro hn
    rw [hn] at h1
    simp at h1
  · cases hg

theorem op_enter {o : Oper} {f : Operand} {args : Array Operand} {ats : Array TypeId} {g : FuncId} {vs : List Value} (ho : o.op = .call { callee := .value f, args, argTypes := ats }) (hf : a.eval f = .func (.func g) #[] vs.toArray) (hg : enterOk C g = true) :
    (execOp a.eval o).run C.P w = .ok (.enter g (args.toList.map a.eval ++ vs).toArray) w := by
  have e : (args.toList.map a.eval ++ vs).toArray = #[] ++ args.map a.eval ++ vs.toArray := by
    apply Array.ext'
    simp
  have := enterOk_run hg (args.map a.eval ++ vs.toArray) w
  simp only [execOp, ho, resolve, hf, Deferred.ofValue]
  rw [e]
  simpa [invoke] using this

theorem op_enterB {o : Oper} {f : Operand} {args : Array Operand} {ats : Array TypeId} {g : FuncId} {vs : List Value} (ho : o.op = .call { callee := .value f, args, argTypes := ats }) (hf : a.eval f = .func (.func g) vs.toArray #[]) (hg : enterOk C g = true) :
    (execOp a.eval o).run C.P w = .ok (.enter g (vs ++ args.toList.map a.eval).toArray) w := by
  have e : (vs ++ args.toList.map a.eval).toArray = vs.toArray ++ args.map a.eval ++ #[] := by
    apply Array.ext'
    simp
  have := enterOk_run hg (vs.toArray ++ args.map a.eval) w
  simp only [execOp, ho, resolve, hf, Deferred.ofValue]
  rw [e]
  simpa [invoke] using this

theorem op_yield {o : Oper} {f : Operand} {args : Array Operand} {ats : Array TypeId} {l : Nat} {r : Loop} (ho : o.op = .call { callee := .value f, args, argTypes := ats }) (hf : a.eval f = yldV l)
    (hh : w.heap[l]? = some (.loop r)) (hn : (args.toList.map a.eval).length = r.params.size) :
    (execOp a.eval o).run C.P w = .ok (.round l r.fn ((r.params.zip (args.toList.map a.eval).toArray).foldl (fun tmps (t, a) => tmps.setIfInBounds t a) r.tmps) r.assign r.body) w := by
  have e : (args.toList.map a.eval).toArray = #[] ++ args.map a.eval ++ #[] := by
    apply Array.ext'
    simp
  have hs : (#[] ++ args.map a.eval ++ #[]).size = r.params.size := by simpa using hn
  rw [e]
  simp only [execOp, ho, resolve, hf, Deferred.ofValue, yldV]
  have := run_yield (P := C.P) hh hs
  simpa [invoke] using this

theorem needs_elim {p : Option Prop} {q : Prop} (h : needs p q) : (∀ p', p = some p' → p') ∧ q := by
  cases p with
  | none => exact ⟨fun _ e => by simp at e, h⟩
  | some p => exact ⟨fun p' e => Option.some.inj e ▸ h.1, h.2⟩

theorem run_nilCmp {xt e : TypeId} (hu : C.P.underlying xt = some (.slice e)) (x y : Operand) (ad : Option Addr) (l c : Nat) :
    (do eqGuard .eql xt x y (.slice ad l c) (.slice none 0 0); binOp .eql xt (.slice ad l c) (.slice none 0 0) : Sem Value).run C.P w = .ok (.bool ad.isNone) w ∧
    (do eqGuard .neq xt x y (.slice ad l c) (.slice none 0 0); binOp .neq xt (.slice ad l c) (.slice none 0 0) : Sem Value).run C.P w = .ok (.bool (!ad.isNone)) w := by
  constructor <;> simp [eqGuard, binOp, run_equal_slice_nil w xt e ad l c hu]

theorem nilCmp_sound {o : Oper} {s : St} {k : St → Prop} (hk : anilCmp C o s k) (hE : Ext B Ψ0 Ψ) (hi : InvH C.P B w0 Ψ β s.heap w) (hf : RelF Ψ β (s.top :: s.below) (a :: As))
    (hS : Same Ψ0 W a0 a) (hW : ∀ t, o.dst = some t → t ∈ W) : ∃ v, (execOp a.eval o).run C.P w = .ok (.value v) w ∧ PostC C B w0 Ψ0 As W a0 k (a.put o.dst v) w := by
  have hfr := frame_of hf
  obtain ⟨dst, op, ty, pos, after, guard⟩ := o
  unfold anilCmp at hk
  simp only at hk hW
  split at hk
  · rename_i op xt x y yt
    split at hk
    · rename_i tid he hy
      have hyv : a.eval y = .slice none 0 0 := by
        have := ev_rel hfr y
        rw [hy] at this
        exact this
      split at hk
      · rename_i e xs hl
        obtain ⟨ad, cap, hxv, _, _, h3⟩ := asList_rel hi (ev_rel hfr x) hl
        obtain ⟨r1, r2⟩ := run_nilCmp (C := C) (w := w) (underlying_slice he) x y ad xs.length cap
        have hnil : ad.isNone = true → xs = [] := by
          intro h
          rcases h3 with h3 | ⟨_, g, off, _, rfl, _⟩
          · exact h3
          · cases h
        split at hk
        · refine ⟨.bool ad.isNone, ?_, Ψ, β, _, hE, by rw [put_heap]; exact hi, RelF_put hf (rv_bool.2 rfl), hS.put hW, hk ad.isNone hnil⟩
          simp only [execOp, hxv, hyv]
          rw [then_value r1]
        · refine ⟨.bool (!ad.isNone), ?_, Ψ, β, _, hE, by rw [put_heap]; exact hi, RelF_put hf (rv_bool.2 rfl), hS.put hW, hk ad.isNone hnil⟩
          simp only [execOp, hxv, hyv]
          rw [then_value r2]
        · exact hk.elim
      · exact hk.elim
    · exact hk.elim
  · exact hk.elim

theorem lookup_sound {o : Oper} {s : St} {k : St → Prop} (hk : alookup C o s k) (hE : Ext B Ψ0 Ψ) (hi : InvH C.P B w0 Ψ β s.heap w) (hf : RelF Ψ β (s.top :: s.below) (a :: As))
    (hS : Same Ψ0 W a0 a) (hW : ∀ t, o.dst = some t → t ∈ W) : ∃ v, (execOp a.eval o).run C.P w = .ok (.value v) w ∧ PostC C B w0 Ψ0 As W a0 k (a.put o.dst v) w := by
  have hfr := frame_of hf
  obtain ⟨dst, op, ty, pos, after, guard⟩ := o
  unfold alookup at hk
  simp only at hk hW
  split at hk
  · rename_i t m i
    split at hk
    · exact hk.elim
    · rename_i et him
      split at hk
      · rename_i j x hj hx
        split at hk
        · rename_i es z hg hz
          obtain ⟨kt, hu, hku⟩ := intMap_spec him
          have hm := ev_rel hfr m
          rw [hj] at hm
          have hix := ev_rel hfr i
          rw [hx] at hix
          obtain ⟨g, ms, cl, hmv, hβ, hh, hB, hes⟩ := kmap_at hi hg hm
          obtain ⟨hiv, _⟩ := rv_int.1 hix
          obtain ⟨r, hfind, _, hfk⟩ := findNow_k x es ms.toList 0 hes
          obtain ⟨ti, zv, hti, htz, rfl⟩ := zero_spec hz
          have hr := hfk _ _ hk
          cases r with
          | none =>
            refine ⟨zv, ?_, Ψ, β, _, hE, by rw [put_heap]; exact hi, RelF_put hf (ofV_rel zv), hS.put hW, hr⟩
            simp [execOp, Instr.lookup, hmv, hiv, run_underlying hu, MapKept.run_getObj_map hh, run_checkKey hku (k := .int .i64 x) rfl, run_findKey hku hfind, zeroValue, typeInfo, hti, htz, Result.andThen]
          | some p =>
            obtain ⟨i0, v⟩ := p
            obtain ⟨f, rfl, hkf⟩ := hr
            refine ⟨fnV f, ?_, Ψ, β, _, hE, by rw [put_heap]; exact hi, RelF_put (av := .fn f []) hf ⟨[], rfl, rfl⟩, hS.put hW, hkf⟩
            simp [execOp, Instr.lookup, hmv, hiv, run_underlying hu, MapKept.run_getObj_map hh, run_checkKey hku (k := .int .i64 x) rfl, run_findKey hku hfind, Result.andThen]
        · exact hk.elim
      · exact hk.elim
  · exact hk.elim

/-! ### Ranges over maps -/
theorem encE_inj {x y : MapEntry} (h : encE x = encE y) : x = y := by
  obtain ⟨k, v, b⟩ := x
  obtain ⟨k', v', b'⟩ := y
  simp only [encE, Value.agg.injEq, Array.mk.injEq, List.cons.injEq, Value.int.injEq, and_true, true_and] at h
  obtain ⟨rfl, rfl, hb⟩ := h
  have : b = b' := by omega
  rw [this]
theorem encM_inj {ms ms' : Array MapEntry} {cl cl' : Nat} (h : encM ms cl = encM ms' cl') : ms = ms' ∧ cl = cl' := by
  simp only [encM, Value.tuple.injEq, Array.mk.injEq, List.cons.injEq, Value.agg.injEq, Value.int.injEq, and_true, true_and] at h
  obtain ⟨h1, h2⟩ := h
  refine ⟨?_, by omega⟩
  have h3 := congrArg Array.toList h1
  rw [Array.toList_map, Array.toList_map] at h3
  exact Array.toList_inj.1 ((List.map_inj_right fun x y => encE_inj).1 h3)
theorem mapR_len {e : Ty} : ∀ {m : List (Int × e.den)} {l : List MapEntry}, mapR Ψ e m l → m.length = l.length
  | [], l, h => by
    have h : l = [] := h
    subst h
    rfl
  | _ :: _, _, ⟨_, l', rfl, _, _, _, h⟩ => by simp [mapR_len h]
theorem mapR_get {e : Ty} : ∀ {m : List (Int × e.den)} {l : List MapEntry} {i : Nat} {x : MapEntry}, mapR Ψ e m l → l[i]? = some x →
    i < m.length ∧ x.key = .int .i64 (m.getD i (0, dflt e)).1 ∧ IntKind.i64.has (m.getD i (0, dflt e)).1 ∧ rv Ψ e (m.getD i (0, dflt e)).2 x.val ∧ mapR Ψ e (m.eraseIdx i) (l.eraseIdx i)
  | [], l, i, x, h, hx => by
    have h : l = [] := h
    subst h
    simp at hx
  | p :: m, _, 0, x, ⟨u, l, rfl, h1, h2, h3, h4⟩, hx => by
    simp only [List.getElem?_cons_zero, Option.some.injEq] at hx
    subst hx
    exact ⟨by simp, h1, h2, h3, h4⟩
  | p :: m, _, i + 1, x, ⟨u, l, rfl, h1, h2, h3, h4⟩, hx => by
    obtain ⟨g1, g2, g3, g4, g5⟩ := mapR_get h4 (by simpa using hx)
    exact ⟨by simpa using g1, by simpa using g2, by simpa using g3, by simpa using g4, u, _, rfl, h1, h2, h3, g5⟩
theorem erase_born : ∀ {l : List MapEntry} {i : Nat} {x : MapEntry}, (l.map (·.born)).Nodup → l[i]? = some x → l.filter (fun e => !(e.born == x.born)) = l.eraseIdx i
  | [], _, _, _, hx => by simp at hx
  | a :: l, 0, x, hn, hx => by
    simp only [List.getElem?_cons_zero, Option.some.injEq] at hx
    subst hx
    simp only [List.map_cons, List.nodup_cons] at hn
    rw [List.filter_cons_of_neg (by simp), List.eraseIdx_cons_zero]
    refine List.filter_eq_self.2 fun y hy => ?_
    have : y.born ≠ a.born := fun e => hn.1 (by rw [← e]; exact List.mem_map.2 ⟨y, hy, rfl⟩)
    simpa using this
  | a :: l, i + 1, x, hn, hx => by
    simp only [List.map_cons, List.nodup_cons] at hn
    have hx : l[i]? = some x := by simpa using hx
    have hm : x ∈ l := List.mem_of_getElem? hx
    have : a.born ≠ x.born := fun e => hn.1 (by rw [e]; exact List.mem_map.2 ⟨x, hm, rfl⟩)
    rw [List.filter_cons_of_pos (by simpa using this), List.eraseIdx_cons_succ, erase_born hn.2 hx]
theorem left_push {es : List MapEntry} {seen : Array Nat} {i : Nat} {x : MapEntry} (hn : (es.map (·.born)).Nodup) (hx : (leftL es seen)[i]? = some x) : leftL es (seen.push x.born) = (leftL es seen).eraseIdx i := by
  have h1 : ((leftL es seen).map (·.born)).Nodup := (List.Sublist.map _ List.filter_sublist).nodup hn
  rw [← erase_born h1 hx]
  unfold leftL
  rw [List.filter_filter]
  refine List.filter_congr fun y _ => ?_
  rw [Bool.eq_iff_iff]
  simp only [Bool.not_eq_true', Bool.and_eq_true, ← Bool.not_eq_true, Array.contains_iff_mem, Array.mem_push, beq_iff_eq, not_or]
  exact ⟨fun h => ⟨h.2, h.1⟩, fun h => ⟨h.2, h.1⟩⟩
theorem left_array (es : Array MapEntry) (seen : Array Nat) : (leftOf es seen).toList = leftL es.toList seen := by
  unfold leftOf leftL
  rw [Array.toList_filter]

theorem BlkR_more {P : Program} {Ψ' : Pr} (hle : PLe Ψ Ψ') {k : Nat} {b : Blk} (h : BlkR P B Ψ β w k b) : BlkR P B Ψ' β w k b := by
  cases b with
  | gone => trivial
  | cells cs =>
    obtain ⟨g, c, e, h1, h2, h3, h4, h5⟩ := h
    exact ⟨g, c, e, h1, h2, h3, RelL_mono hle (fun _ _ h => h) _ _ h4, h5⟩
  | grow tid e xs =>
    refine h.imp id ?_
    rintro ⟨g, cap, cur, h1, h2, h3, h4, h5, h6, h7, h8⟩
    exact ⟨g, cap, cur, h1, h2, h3, h4, h5, h6, h7, rdL_mono (reads_mono hle e) _ _ h8⟩
  | kmap es => exact h
  | dmap e m =>
    obtain ⟨g, ms, cl, h1, h2, h3, h4, h5⟩ := h
    exact ⟨g, ms, cl, h1, h2, h3, mapR_mono hle h4, h5⟩
  | diter e last left =>
    obtain ⟨g, gm, ms, cl, seen, h1, h2, h3, h4, h5, h6⟩ := h
    exact ⟨g, gm, ms, cl, seen, h1, h2, h3, hle _ _ h4, mapR_mono hle h5, h6.1, h6.2.1, h6.2.2.imp id fun ⟨p, x, s', a1, a2, a3, a4, a5, a6⟩ => ⟨p, x, s', a1, a2, a3, a4, a5, rv_le hle a6⟩⟩
  | loop f p ph ts =>
    obtain ⟨l, r, h1, h2, h3, h4, h5, h6, h7, h8⟩ := h
    exact ⟨l, r, h1, h2, h3, h4, RelL_mono hle (fun _ _ h => h) _ _ h5, hle _ _ h6, fun i v hv => hle _ _ (h7 i v hv), h8⟩

/-- A map is promised from now on. -/
def giveM (Ψ : Pr) (gm : Nat) (v : Value) : Pr := fun ad => if ad = mAddr gm then some v else Ψ ad

theorem InvH.giveMap {j gm cl : Nat} {ms : Array MapEntry} {e : Ty} {m : List (Int × e.den)} (hi : InvH C.P B w0 Ψ β h w) (hj : h[j]? = some (.dmap e m)) (hβ : β[j]? = some (.map (some gm))) (hm : w.heap[gm]? = some (.map ms cl)) (hB : B ≤ gm) :
    PLe Ψ (giveM Ψ gm (encM ms cl)) ∧ InvH C.P B w0 (giveM Ψ gm (encM ms cl)) β (h.set j .gone) w := by
  have hno : Ψ (mAddr gm) = none := hi.free j _ gm hj hβ (mAddr gm) rfl (.inr rfl)
  have hle : PLe Ψ (giveM Ψ gm (encM ms cl)) := fun ad v hv => by
    unfold giveM
    split
    · rename_i e'; rw [e', hno] at hv; cases hv
    · exact hv
  have at_ : ∀ {k : Nat} {b : Blk}, (h.set j .gone)[k]? = some b → (b = .gone) ∨ (k ≠ j ∧ h[k]? = some b) := fun {k b} hk => by
    by_cases hkj : k = j
    · subst hkj
      rw [List.getElem?_set_self (hget_lt hj)] at hk
      simp at hk
      exact .inl hk.symm
    · rw [List.getElem?_set_ne (Ne.symm hkj)] at hk
      exact .inr ⟨hkj, hk⟩
  refine ⟨hle, hi.low, hi.size, fun ad v hv => ?_, fun ad v hv hs => ?_, by simp [hi.len], hi.one, fun k b hk => ?_, fun k b g hk hc ad had hsp => ?_, fun i k bi bk g hik hbi hbk hci hck => ?_⟩
  · unfold giveM at hv
    split at hv
    · rename_i e'
      simp only [Option.some.injEq] at hv
      subst e' hv
      exact ⟨ms, cl, hm, rfl⟩
    · exact hi.prom ad v hv
  · unfold giveM at hv
    split at hv
    · rename_i e'; subst e'; exact hB
    · exact hi.own ad v hv hs
  · rcases at_ hk with rfl | ⟨_, h1⟩
    · trivial
    · exact BlkR_more hle (hi.blk k b h1)
  · rcases at_ hk with rfl | ⟨hkj, h1⟩
    · exact hc.elim
    · unfold giveM
      split
      · rename_i e'
        subst e'
        have hg : gm = g := had
        subst hg
        exact (hi.sep k j _ _ gm hkj h1 hj hc hβ).elim
      · exact hi.free k b g h1 hc ad had hsp
  · rcases at_ hbi with rfl | ⟨_, h1⟩
    · exact hci.elim
    · rcases at_ hbk with rfl | ⟨_, h2⟩
      · exact hck.elim
      · exact hi.sep i k bi bk g hik h1 h2 hci hck

theorem diter_at {j : Nat} {e : Ty} {last left : List (Int × e.den)} {v : Value} (hi : InvH C.P B w0 Ψ β h w) (hg : hget h j = .diter e last left) (hv : RelV Ψ β (.own j 0) v) :
    ∃ g gm ms cl seen, v = .pointer (some ⟨g, 0, none⟩) ∧ β[j]? = some (.pointer (some ⟨g, 0, none⟩)) ∧ w.heap[g]? = some (.mapIter (some gm) cl seen cl) ∧ B ≤ g ∧ Ψ (mAddr gm) = some (encM ms cl) ∧ w.heap[gm]? = some (.map ms cl) ∧ mapR Ψ e left (leftL ms.toList seen) ∧
      (ms.toList.map (·.born)).Nodup ∧ (∀ x ∈ ms.toList, x.born < cl) ∧ (last = [] ∨ ∃ (p : Int × e.den) (x : MapEntry) (seen' : Array Nat), last = [p] ∧ seen = seen'.push x.born ∧ x ∈ ms.toList ∧ x.key = .int .i64 p.1 ∧ IntKind.i64.has p.1 ∧ rv Ψ e p.2 x.val) := by
  obtain ⟨g, gm, ms, cl, seen, h1, h2, h3, h4, h5⟩ := hi.blk j _ (hget_some hg (by simp))
  obtain ⟨g', hv1, hv2⟩ := hv
  rw [h1] at hv1
  simp only [Option.some.injEq, Value.pointer.injEq, Addr.mk.injEq, and_true] at hv1
  subst hv1
  obtain ⟨ms', cl', hm1, hm2⟩ := hi.prom _ _ h4
  obtain ⟨rfl, rfl⟩ := encM_inj hm2
  exact ⟨g, gm, ms, cl, seen, hv2, h1, h2, h3, h4, hm1, h5⟩

theorem arange_sound {o : Oper} {s : St} {k : St → Prop} (hk : arange C o s k) (hE : Ext B Ψ0 Ψ) (hi : InvH C.P B w0 Ψ β s.heap w) (hf : RelF Ψ β (s.top :: s.below) (a :: As))
    (hS : Same Ψ0 W a0 a) (hW : ∀ t, o.dst = some t → t ∈ W) : ∃ v w', (execOp a.eval o).run C.P w = .ok (.value v) w' ∧ PostC C B w0 Ψ0 As W a0 k (a.put o.dst v) w' := by
  have hfr := frame_of hf
  obtain ⟨dst, op, ty, pos, after, guard⟩ := o
  unfold arange at hk
  simp only at hk hW
  split at hk
  · rename_i t m
    split at hk
    · rename_i et j him hmj
      split at hk
      · rename_i e mm hg
        have hm := ev_rel hfr m
        rw [hmj] at hm
        obtain ⟨kt, hu, hku⟩ := intMap_spec him
        obtain ⟨gm, ms, cl, hmv, hβ, hh, hB, hmr, hnd, hbn, hbc⟩ := dmap_at hi hg hm
        obtain ⟨hle, hi1⟩ := hi.giveMap (hget_some hg (by simp)) hβ hh hB
        have hE1 : Ext B Ψ (giveM Ψ gm (encM ms cl)) := ⟨hle, fun ad v hv => by
          unfold giveM at hv
          split at hv
          · rename_i e'; subst e'; exact .inr hB
          · exact .inl hv⟩
        have hn : (β ++ [Value.pointer (some ⟨w.heap.size, 0, none⟩)])[(s.heap.set j .gone).length]? = some (.pointer (some ⟨w.heap.size, 0, none⟩)) := by rw [List.length_set, ← hi.len]; simp
        have hi2 := hi1.push (w' := w.alloc (.mapIter (some gm) cl #[] cl)) (b := Blk.diter e [] mm) (u := .pointer (some ⟨w.heap.size, 0, none⟩)) ((Below.refl _ _).alloc (Nat.le_refl _) _) rfl
          ⟨w.heap.size, gm, ms, cl, #[], hn, heap_alloc_new w _, hi.size, by unfold giveM; rw [if_pos rfl], by
            have e0 : leftL ms.toList #[] = ms.toList := List.filter_eq_self.2 fun x _ => by simp
            rw [e0]
            exact mapR_mono hle hmr, hbn, hbc, .inl rfl⟩ (fun g hc => by
            simp only [claims] at hc
            rw [hn] at hc
            simp at hc
            omega)
        refine ⟨.pointer (some ⟨w.heap.size, 0, none⟩), w.alloc (.mapIter (some gm) cl #[] cl), ?_, giveM Ψ gm (encM ms cl), β ++ [.pointer (some ⟨w.heap.size, 0, none⟩)], ({ s with heap := hset s.heap j .gone ++ [Blk.diter e [] mm] } : St).put dst (.own (hlen s.heap) 0), hE.trans hE1, ?_, RelF_put (RelF_mono hle (snoc_mono _) _ _ hf) (av := .own (hlen s.heap) 0) ?_, hS.put hW, hk⟩
        · simp only [execOp, hmv]
          rw [then_value (run_range_map w t kt et gm ms cl hu hh)]
        · rw [put_heap]
          simp only [hset_eq]
          exact hi2
        · refine ⟨w.heap.size, ?_, rfl⟩
          rw [hlen_eq, ← hi.len]
          simp
      · exact hk.elim
    · exact hk.elim
  · rename_i it
    split at hk
    · rename_i j hit
      split at hk
      · rename_i e last left hg
        have hm := ev_rel hfr it
        rw [hit] at hm
        obtain ⟨g, gm, ms, cl, seen, hv, hβ, hh, hB, hpr, hhm, hmr, hbn, hbc, _⟩ := diter_at hi hg hm
        have hlt := heap_lt hh
        rcases run_next_at (P := C.P) w ty g gm cl cl seen ms cl hh hhm hbc (Nat.le_refl _) with ⟨h0, hrun⟩ | ⟨x, hx, w1, hw1, hrun⟩
        · refine ⟨.tuple #[.bool false], w, ?_, Ψ, β, _, hE, by rw [put_heap]; exact hi, RelF_put (av := .tup [.ff]) hf ⟨[.bool false], rfl, .bool false, [], rfl, rfl, rfl⟩, hS.put hW, hk.1 ?_⟩
          · simp only [execOp, hv]
            rw [then_value hrun]
          · have h1 : (leftL ms.toList seen).length = 0 := by rw [← left_array]; simpa using h0
            have := mapR_len hmr
            exact List.length_eq_zero_iff.1 (by omega)
        · rw [left_array] at hx
          obtain ⟨i, hil, hix⟩ := List.getElem_of_mem hx
          have hix : (leftL ms.toList seen)[i]? = some x := by rw [List.getElem?_eq_getElem hil, hix]
          obtain ⟨g1, g2, g3, g4, g5⟩ := mapR_get hmr hix
          have hw1h : w1.heap = w.heap := by rcases hw1 with rfl | rfl <;> rfl
          have hsetb : (ChangeMaps.setBlock w1 g (.mapIter (some gm) cl (seen.push x.born) cl)).heap[g]? = some (.mapIter (some gm) cl (seen.push x.born) cl) := by
            show (w1.heap.setIfInBounds g _)[g]? = _
            rw [hw1h, Array.getElem?_setIfInBounds_self_of_lt hlt]
          have hoth : ∀ i, i ≠ g → (ChangeMaps.setBlock w1 g (.mapIter (some gm) cl (seen.push x.born) cl)).heap[i]? = w.heap[i]? := fun i hne => by
            show (w1.heap.setIfInBounds g _)[i]? = _
            rw [hw1h, Array.getElem?_setIfInBounds_ne (Ne.symm hne)]
          have hxm : x ∈ ms.toList := (List.mem_filter.1 hx).1
          have hi1 := hi.rewriteG (w' := ChangeMaps.setBlock w1 g (.mapIter (some gm) cl (seen.push x.born) cl)) (b' := Blk.diter e [left.getD i (0, dflt e)] (left.eraseIdx i)) (hget_some hg (by simp)) rfl (g := g) hβ
            ⟨by rcases hw1 with rfl | rfl <;> rfl, by rcases hw1 with rfl | rfl <;> rfl, by rcases hw1 with rfl | rfl <;> rfl, by
              show _ ≤ (w1.heap.setIfInBounds g _).size
              rw [Array.size_setIfInBounds, hw1h]
              exact Nat.le_refl _, fun i _ hne => hoth i fun e => hne (by rw [e])⟩ (fun g' h' => h')
            ⟨g, gm, ms, cl, seen.push x.born, hβ, hsetb, hB, hpr, by rw [left_push hbn hix]; exact g5, hbn, hbc, .inr ⟨_, x, seen, rfl, rfl, hxm, g2, g3, g4⟩⟩
          refine ⟨.tuple #[.bool true, x.key, x.val], ChangeMaps.setBlock w1 g (.mapIter (some gm) cl (seen.push x.born) cl), ?_, Ψ, β, ({ s with heap := hset s.heap j (Blk.diter e [left.getD i (0, dflt e)] (left.eraseIdx i)) } : St).put dst (.tup [.tt, .d (.int .i64) (left.getD i (0, dflt e)).1, .d e (left.getD i (0, dflt e)).2]), hE, ?_, RelF_put (av := .tup [.tt, .d (.int .i64) (left.getD i (0, dflt e)).1, .d e (left.getD i (0, dflt e)).2]) hf ?_, hS.put hW, hk.2 i g1⟩
          · simp only [execOp, hv]
            rw [then_value hrun]
          · rw [put_heap]
            simp only [hset_eq]
            exact hi1
          · exact ⟨[.bool true, x.key, x.val], rfl, .bool true, _, rfl, rfl, x.key, _, rfl, by rw [g2]; exact rv_int.2 ⟨rfl, g3⟩, x.val, _, rfl, g4, rfl⟩
      · exact hk.elim
    · exact hk.elim
  · rename_i it
    split at hk
    · rename_i j hit
      split at hk
      · rename_i e p left hg
        have hm := ev_rel hfr it
        rw [hit] at hm
        obtain ⟨g, gm, ms, cl, seen, hv, hβ, hh, hB, hpr, hhm, hmr, hbn, hbc, hla⟩ := diter_at hi hg hm
        rcases hla with hla | ⟨p', x, seen', hla, rfl, hxm, g2, g3, g4⟩
        · cases hla
        · simp only [List.cons.injEq, and_true] at hla
          subst hla
          refine ⟨.tuple #[x.key, x.val], w, ?_, Ψ, β, _, hE, by rw [put_heap]; exact hi, RelF_put (av := .tup [.d (.int .i64) p.1, .d e p.2]) hf ⟨[x.key, x.val], rfl, x.key, _, rfl, by rw [g2]; exact rv_int.2 ⟨rfl, g3⟩, x.val, _, rfl, g4, rfl⟩, hS.put hW, hk⟩
          simp only [execOp, hv]
          rw [then_value (run_entry_at w g gm cl seen' ms cl x hh hhm hxm hbn)]
      · exact hk.elim
    · exact hk.elim
  · exact hk.elim

theorem astep_sound {call : CallT} (hc : CallSound C call) {o : Oper} {s : St} {k : St → Prop} (hk : astep C call o s k) (hE : Ext B Ψ0 Ψ) (hi : InvH C.P B w0 Ψ β s.heap w) (hf : RelF Ψ β (s.top :: s.below) (a :: As))
    (hS : Same Ψ0 W a0 a) (hW : ∀ t, o.dst = some t → t ∈ W) {ro : Option Nat} {Q : Exit → Act → World → Prop} : o.wpIn (Fw ro) 0 C.P a w (PostC C B w0 Ψ0 As W a0 k) Q := by
  have hfr := frame_of hf
  have hnd : ∀ c, o.op ≠ .defer c := fun c hc => by
    unfold astep at hk
    rw [hc] at hk
    simp [aop, aext, anilCmp, isFrz, hc] at hk
  refine ⟨fun _ _ => trivial, ?_⟩
  rw [Oper.semAt_eq _ _ _ hnd]
  unfold astep at hk
  split at hk
  · rename_i f args ats ho
    have hef := ev_rel hfr f
    split at hk
    · rename_i g cap hev
      split at hk
      · rename_i hg
        rw [hev] at hef
        obtain ⟨vs, hfv, hcap⟩ := hef
        rw [op_enter ho hfv hg]
        have hargs := evs_rel (Ψ := Ψ) (β := β) (fr := s.top) (a := a) args.toList fun x _ => ev_rel hfr x
        refine ⟨fun h => (by cases ro <;> cases h), (callsIn_w ro _ (hc.2 g _ s _ hk hg B w0 Ψ β (a :: As) _ w hi hf (RelL_append _ _ _ _ hargs hcap))).mono ?_⟩
        rintro e w' ⟨v, Ψ', β', av, s', rfl, hE', hi', hf', hv, hk'⟩
        exact ⟨Ψ', β', s'.put o.dst av, hE.trans hE', by rw [put_heap]; exact hi', RelF_put hf' hv, hS.put hW, hk'⟩
      · exact hk.elim
    · rename_i j hev
      have hargs := evs_rel (Ψ := Ψ) (β := β) (fr := s.top) (a := a) args.toList fun x _ => ev_rel hfr x
      obtain ⟨l, r, hβ, hh, hlen, hround⟩ := hc.1 j _ s _ hk B w0 Ψ β (a :: As) _ w hi hf hargs
      rw [hev] at hef
      obtain ⟨l', hβ', hfv⟩ := hef
      rw [hβ] at hβ'
      simp only [yldV, Option.some.injEq, Value.func.injEq, Fn.yield.injEq, and_true] at hβ'
      subst hβ'
      rw [op_yield ho hfv hh hlen]
      refine ⟨fun h => (by cases ro <;> cases h), RoundIn.mono (F := Fw ro) (n := 0) (by cases ro <;> exact hround) ?_⟩
      rintro e w' ⟨v, Ψ', β', av, s', rfl, hE', hi', hf', hv, hk'⟩
      exact ⟨Ψ', β', s'.put o.dst av, hE.trans hE', by rw [put_heap]; exact hi', RelF_put hf' hv, hS.put hW, hk'⟩
    · rename_i g first hev
      split at hk
      · rename_i hg
        rw [hev] at hef
        obtain ⟨vs, hfv, hcap⟩ := hef
        rw [op_enterB ho hfv hg]
        have hargs := evs_rel (Ψ := Ψ) (β := β) (fr := s.top) (a := a) args.toList fun x _ => ev_rel hfr x
        refine ⟨fun h => (by cases ro <;> cases h), (callsIn_w ro _ (hc.2 g _ s _ hk hg B w0 Ψ β (a :: As) _ w hi hf (RelL_append _ _ _ _ hcap hargs))).mono ?_⟩
        rintro e w' ⟨v, Ψ', β', av, s', rfl, hE', hi', hf', hv, hk'⟩
        exact ⟨Ψ', β', s'.put o.dst av, hE.trans hE', by rw [put_heap]; exact hi', RelF_put hf' hv, hS.put hW, hk'⟩
      · exact hk.elim
    · exact hk.elim
  · split at hk
    · rename_i r hr
      obtain ⟨hp, hk'⟩ := needs_elim hk
      obtain ⟨n, v, Ψ', β', w', hrun, hn, hE', hi', hf', hv⟩ := op_sound hi hf (fun x _ => ev_rel hfr x) hr hp
      rw [hrun]
      have hpost : PostC C B w0 Ψ0 As W a0 k (a.put o.dst v) w' := by
        refine ⟨Ψ', β', (s.apply r).put o.dst r.v, hE.trans hE', ?_, RelF_put ?_ hv, hS.put hW, hk'⟩
        · rw [put_heap]
          unfold St.apply
          cases hkl : r.kill with
          | none => rw [hkl] at hi'; exact hi'
          | some j => rw [hkl] at hi'; exact hi'
        · unfold St.apply
          cases hkl : r.kill with
          | none => rw [hkl] at hf'; exact hf'
          | some j => rw [hkl] at hf'; exact hf'
      rcases hn with rfl | ⟨rfl, rfl⟩
      · exact hpost
      · exact hpost
    · unfold aext at hk
      split at hk
      · unfold afreeze at hk
        split at hk
        · rename_i j hj
          split at hk
          · rename_i r hr
            obtain ⟨hp, hk'⟩ := needs_elim hk
            obtain ⟨Ψ1, hE1, hi1, hf1, _, _⟩ := freeze_sound hi hf j
            obtain ⟨n, v, Ψ', β', w', hrun, hn, hE', hi', hf', hv⟩ := op_sound hi1 hf1 (fun x _ => ev_rel (frame_of hf1) x) hr hp
            rw [hrun]
            have hpost : PostC C B w0 Ψ0 As W a0 k (a.put o.dst v) w' := by
              refine ⟨Ψ', β', ((s.freeze j).apply r).put o.dst r.v, (hE.trans hE1).trans hE', ?_, RelF_put ?_ hv, hS.put hW, hk'⟩
              · rw [put_heap]
                unfold St.apply
                cases hkl : r.kill with
                | none => rw [hkl] at hi'; exact hi'
                | some j => rw [hkl] at hi'; exact hi'
              · unfold St.apply
                cases hkl : r.kill with
                | none => rw [hkl] at hf'; exact hf'
                | some j => rw [hkl] at hf'; exact hf'
            rcases hn with rfl | ⟨rfl, rfl⟩
            · exact hpost
            · exact hpost
          · exact hk.elim
        · exact hk.elim
      · split at hk
        · obtain ⟨v, hrun, hpost⟩ := lookup_sound hk hE hi hf hS hW
          rw [hrun]
          exact hpost
        · obtain ⟨v, w', hrun, hpost⟩ := arange_sound hk hE hi hf hS hW
          rw [hrun]
          exact hpost
        · obtain ⟨v, w', hrun, hpost⟩ := arange_sound hk hE hi hf hS hW
          rw [hrun]
          exact hpost
        · obtain ⟨v, w', hrun, hpost⟩ := arange_sound hk hE hi hf hS hW
          rw [hrun]
          exact hpost
        · obtain ⟨v, hrun, hpost⟩ := nilCmp_sound hk hE hi hf hS hW
          rw [hrun]
          exact hpost

theorem freezeAll_sound : ∀ (ks : List Nat) {s : St} {Ψ : Pr}, InvH C.P B w0 Ψ β s.heap w → RelF Ψ β (s.top :: s.below) As →
    ∃ Ψ', Ext B Ψ Ψ' ∧ InvH C.P B w0 Ψ' β (s.freezeAll ks).heap w ∧ RelF Ψ' β ((s.freezeAll ks).top :: (s.freezeAll ks).below) As ∧ Reading Ψ' β s.heap ks
  | [], s, Ψ, hi, hf => ⟨Ψ, Ext.refl _ _, hi, hf, Reading.nil⟩
  | k :: ks, s, Ψ, hi, hf => by
    obtain ⟨Ψ1, hE1, hi1, hf1, hr1, hkeep⟩ := freeze_sound hi hf k
    obtain ⟨Ψ2, hE2, hi2, hf2, hr2⟩ := freezeAll_sound ks hi1 hf1
    refine ⟨Ψ2, hE1.trans hE2, hi2, hf2, fun j hj tid e xs hg u hu => ?_⟩
    by_cases hjk : j = k
    · exact rv_mono hE2.1 (hr1 j (by simp [hjk]) tid e xs hg u hu)
    · rcases List.mem_cons.1 hj with h | h
      · exact absurd h hjk
      · exact hr2 j h tid e xs (hkeep j tid e xs hjk hg) u hu

/-! ### Calls -/
theorem yielded_of {all : Array Oper} {j : Nat} {t : Tmp} (hg : guardTmp all j = some t) (tmps : Array Value) : yielded all tmps j = (match tmps[t]? with | some (.bool b) => some b | _ => none) := by
  unfold guardTmp at hg
  split at hg
  · rename_i o ho
    simp [yielded, ho, hg]
    cases tmps[t]? with
    | none => rfl
    | some x => cases x <;> rfl
  · cases hg

theorem getD_eq {t : Tmp} (tmps : Array Value) : tmps.toList.getD t undef = (tmps[t]?).getD undef := by
  simp [List.getD_eq_getElem?_getD]

/-- What a slot says of the guard that looks at it. -/
theorem guard_bool {s : St} {t : Tmp} {b : Bool} (hfr : RelFr Ψ β s.top a) (hr : ∀ v, RelV Ψ β (fget s.top t) v → v = .bool b) : a.tmps[t]? = some (.bool b) := by
  have h1 := hr _ (RelL_get _ _ hfr.2 t)
  rw [getD_eq] at h1
  cases hx : a.tmps[t]? with
  | none => rw [hx] at h1; simp [undef] at h1
  | some x => rw [hx] at h1; simp at h1; rw [h1]

theorem put_some_rel {s : St} {t : Tmp} {av : AV} {v : Value} (hf : RelF Ψ β (s.top :: s.below) (a :: As)) (ht : a.tmps[t]? = some v) (hv : RelV Ψ β av v) :
    RelF Ψ β ((s.put (some t) av).top :: (s.put (some t) av).below) (a :: As) := by
  have := RelF_put (d := some t) hf hv
  have e : a.put (some t) v = a := by
    simp only [Act.put]
    cases a with
    | mk tmps defers =>
      simp only [Act.mk.injEq, and_true]
      apply Array.ext'
      simp only [Array.toList_setIfInBounds]
      apply List.set_getElem?_self' 
      simpa using ht
  rwa [e] at this
where
  List.set_getElem?_self' {l : List Value} {i : Nat} {v : Value} (h : l[i]? = some v) : l.set i v = l := by
    apply List.ext_getElem?
    intro j
    by_cases hj : i = j
    · subst hj
      have hlt : i < l.length := by
        rcases Nat.lt_or_ge i l.length with h' | h'
        · exact h'
        · rw [List.getElem?_eq_none h'] at h; cases h
      rw [List.getElem?_set_self hlt, h]
    · rw [List.getElem?_set_ne hj]

theorem aops_sound {call : CallT} (hc : CallSound C call) {m : Mode} {ro : Option Nat} (all : Array Oper) {Q : Exit → Act → World → Prop} : ∀ (rest : List Oper) {s : St} {k : St → Prop} {Ψ : Pr} {β : List Value} {a : Act} {w : World}, aops C call m all rest s k →
    Ext B Ψ0 Ψ → InvH C.P B w0 Ψ β s.heap w → RelF Ψ β (s.top :: s.below) (a :: As) → Same Ψ0 W a0 a → (∀ o ∈ rest, ∀ t, o.dst = some t → t ∈ W) → (∀ a w, PostC C B w0 Ψ0 As W a0 k a w → Q .normal a w) → wpListIn (Fw ro) 0 C.P all Q rest a w
  | [], s, k, Ψ, β, a, w, hk, hE, hi, hf, hS, hW, hQ => hQ a w ⟨Ψ, β, s, hE, hi, hf, hS, hk⟩
  | o :: rest, s, k, Ψ, β, a, w, hk, hE, hi, hf, hS, hW, hQ => by
    have hWo := hW o (by simp)
    have hWr : ∀ o ∈ rest, ∀ t, o.dst = some t → t ∈ W := fun o' ho' => hW o' (by simp [ho'])
    have hfr := frame_of hf
    -- it runs
    have run : ∀ {s' : St}, astep C call o s' (fun s'' => aops C call m all rest s'' k) → s'.heap = s.heap → RelF Ψ β (s'.top :: s'.below) (a :: As) → o.wpIn (Fw ro) 0 C.P a w (wpListIn (Fw ro) 0 C.P all Q rest) Q := by
      intro s' hst hh hf'
      have hw := astep_sound (Ψ0 := Ψ0) (W := W) (a0 := a0) hc hst hE (by rw [hh]; exact hi) hf' hS hWo (ro := ro) (Q := Q)
      refine Oper.wpIn_mono (fun a' w' hp => ?_) hw
      obtain ⟨Ψ', β', s'', hE', hi', hf'', hS', hk'⟩ := hp
      exact aops_sound hc all rest hk' hE' hi' hf'' hS' hWr hQ
    -- it is passed over
    have skip : ∀ {s' : St}, aops C call m all rest (s'.put o.dst .und) k → s'.heap = s.heap → RelF Ψ β (s'.top :: s'.below) (a :: As) → (∀ f, o.about C.P w a.eval = some f → (Fw ro).fn f) ∧ wpListIn (Fw ro) 0 C.P all Q rest (a.put o.dst undef) w := by
      intro s' hst hh hf'
      exact ⟨fun _ _ => trivial, aops_sound hc all rest hst hE (by rw [put_heap, hh]; exact hi) (RelF_put hf' rfl) (hS.put hWo) hWr hQ⟩
    unfold aops at hk
    unfold wpListIn
    split at hk
    · rename_i hgd
      rw [if_pos (by simp [Region.wanted, hgd])]
      exact run hk rfl hf
    · rename_i j want hgd
      split at hk
      · exact hk.elim
      · rename_i t hgt
        have hwant : ∀ b : Bool, a.tmps[t]? = some (.bool b) → Region.wanted o (yielded all a.tmps) = (b == want) := by
          intro b hb
          simp [Region.wanted, hgd, yielded_of hgt, hb]
        split at hk
        · rename_i htt
          have hb := guard_bool (t := t) (b := true) hfr (by rw [htt]; exact fun _ h => h)
          split at hk
          · rw [if_pos (by rw [hwant _ hb]; rfl)]; exact run hk rfl hf
          · rw [if_neg (by rw [hwant _ hb]; simp)]; exact skip hk rfl hf
        · rename_i hff
          have hb := guard_bool (t := t) (b := false) hfr (by rw [hff]; exact fun _ h => h)
          split at hk
          · rw [if_pos (by rw [hwant _ hb]; rfl)]; exact run hk rfl hf
          · rw [if_neg (by rw [hwant _ hb]; simp)]; exact skip hk rfl hf
        · rename_i hu
          have hnw : Region.wanted o (yielded all a.tmps) = false := by
            have h1 := RelL_get _ _ hfr.2 t
            rw [hu] at h1
            have h2 : (a.tmps[t]?).getD undef = undef := by rw [← getD_eq]; exact h1
            simp only [Region.wanted, hgd, yielded_of hgt]
            cases hx : a.tmps[t]? with
            | none => simp
            | some x => rw [hx] at h2; simp at h2; subst h2; simp [undef]
          rw [if_neg (by rw [hnw]; simp)]
          exact skip hk rfl hf
        · rename_i b hbv
          have hb := guard_bool (t := t) (b := b) hfr (by rw [hbv]; exact fun _ h => rv_bool.1 h)
          split at hk
          · cases b with
            | true =>
              rw [if_pos (by rw [hwant _ hb]; rfl)]
              exact run ((splitB_sound hk).1 rfl) rfl (put_some_rel hf hb rfl)
            | false =>
              rw [if_neg (by rw [hwant _ hb]; simp)]
              exact skip ((splitB_sound hk).2 rfl) rfl (put_some_rel hf hb rfl)
          · cases b with
            | true =>
              rw [if_neg (by rw [hwant _ hb]; simp)]
              exact skip ((splitB_sound hk).1 rfl) rfl (put_some_rel hf hb rfl)
            | false =>
              rw [if_pos (by rw [hwant _ hb]; rfl)]
              exact run ((splitB_sound hk).2 rfl) rfl (put_some_rel hf hb rfl)
        · exact hk.elim

end Go.AM
