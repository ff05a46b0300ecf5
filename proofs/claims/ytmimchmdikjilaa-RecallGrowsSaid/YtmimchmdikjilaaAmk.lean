import Derived.Test.YtmimchmdikjilaaAmj
namespace Go.AM
set_option linter.unusedVariables false
open Go.RowKit

variable {B : Nat} {w0 : World} {C : Ctx} {Ψ Ψ0 : Pr} {β : List Value} {h : List Blk} {w w' : World} {fr : List AV} {a a0 : Act} {As : List Act} {W : List Nat}

/-! ### Regions that draw their order -/
def putL (top : List AV) (d : Option Tmp) (v : AV) : List AV :=
  match d with
  | some t => fset top t v
  | none => top

/-- How an operation's guard stands, and what is learnt of the slot that it looks at. -/
def Guarded (all : Array Oper) (o : Oper) (top top1 : List AV) (b : Bool) : Prop :=
  match o.guard with
  | none => top1 = top ∧ b = true
  | some (j, want) => ∃ t, guardTmp all j = some t ∧
      ((fget top t = .tt ∧ top1 = top ∧ b = (true == want)) ∨ (fget top t = .ff ∧ top1 = top ∧ b = (false == want)) ∨ (fget top t = .und ∧ top1 = top ∧ b = false) ∨
        (fget top t = .d .bool true ∧ top1 = fset top t .tt ∧ b = (true == want)) ∨ (fget top t = .d .bool false ∧ top1 = fset top t .ff ∧ b = (false == want)))

/-- What an operation of the head yields. -/
def Yld (C : Ctx) (h : List Blk) (o : Oper) (top : List AV) (av : AV) : Prop :=
  (∃ f args ats g sp x, o.op = .call { callee := .value f, args, argTypes := ats } ∧ ev top f = .fn g [] ∧ C.spec g = some sp ∧ (flats sp.rs = true ∨ noRefs (maskAs sp.ps (evs top args.toList)) = true) ∧ enterOk C g = true ∧
    asDs h sp.ps (maskAs sp.ps (evs top args.toList)) = some x ∧ sp.pre x ∧ av = outV sp.rs (sp.post x)) ∨
  (neutral o.op = true ∧ ∃ r, aop C top h o.op = some r ∧ (∀ p, r.need = some p → p) ∧ av = r.v)

theorem nstep_yld {o : Oper} {s : St} {k : St → Prop} (hk : nstep C o s k) : ∃ av, Yld C s.heap o s.top av ∧ k (s.put o.dst av) := by
  unfold nstep at hk
  split at hk
  · rename_i f args ats ho
    split at hk
    · rename_i g hev
      split at hk
      · rename_i sp hsp
        split at hk
        · rename_i hc
          simp only [Bool.and_eq_true, Bool.or_eq_true] at hc
          split at hk
          · rename_i x hx
            exact ⟨_, .inl ⟨f, args, ats, g, sp, x, ho, hev, hsp, hc.1, hc.2, hx, hk.1, rfl⟩, hk.2⟩
          · exact hk.elim
        · exact hk.elim
      · exact hk.elim
    · exact hk.elim
  · split at hk
    · rename_i hn
      split at hk
      · rename_i r hr
        obtain ⟨hp, hk'⟩ := needs_elim hk
        exact ⟨_, .inr ⟨hn, r, hr, hp, rfl⟩, hk'⟩
      · exact hk.elim
    · exact hk.elim

/-- What a call of the head hands back as a slice of its own. -/
def YldG (C : Ctx) (h : List Blk) (o : Oper) (top : List AV) (b : Blk) : Prop :=
  ∃ f args ats g gs x, o.op = .call { callee := .value f, args, argTypes := ats } ∧ ev top f = .fn g [] ∧ C.fresh g = some gs ∧ noRefs (evs top args.toList) = true ∧ enterOk C g = true ∧
    asDs h gs.ps (evs top args.toList) = some x ∧ gs.pre x ∧ b = .grow gs.tid gs.e (gs.post x)
/-- A variable that the head lays. -/
def YldA (C : Ctx) (o : Oper) (b : Blk) : Prop := ∃ cs, acell C o = some cs ∧ b = .cells cs

/-- A slice that an append of the head lays. -/
def YldP (C : Ctx) (h : List Blk) (o : Oper) (top : List AV) (b : Blk) : Prop :=
  ∃ (args : Array Operand) (ats : Array TypeId) (e : Ty) (y : AV) (t tx tid : TypeId) (sz : Nat) (z : AV) (ys : List e.den), o.op = .call { callee := .builtin .append, args, argTypes := ats } ∧ evs top args.toList = [.fs e [], y] ∧ ats.toList = [t, tx] ∧ C.tailFirst = false ∧
    elemOf C t = some tid ∧ C.size tid = some sz ∧ C.zero tid = some z ∧ asTail C h e tx y = some ys ∧ e.cells = sz ∧ zeroOk e z = true ∧ roomP C tid ys.length ∧ b = .grow tid e ys

/-- What has been laid, place by place. -/
def effs (n : Nat) (effi : Nat → Blk) : List Blk := (List.range n).map effi
theorem effs_succ (n : Nat) (e : Blk) (effi : Nat → Blk) : effs (n + 1) (fun i => match i with | 0 => e | i + 1 => effi i) = e :: effs n effi := by
  unfold effs
  rw [List.range_succ_eq_map]
  simp
/-- What has been written in the end. -/
def rws (n : Nat) (rwi : Nat → Option (Nat × Blk)) (rw0 : List (Nat × Blk)) : List (Nat × Blk) := rw0 ++ (List.range n).filterMap rwi
theorem rws_succ (n : Nat) (r : Option (Nat × Blk)) (rwi : Nat → Option (Nat × Blk)) (rw0 : List (Nat × Blk)) : rws (n + 1) (fun i => match i with | 0 => r | i + 1 => rwi i) rw0 = rws n rwi (upd rw0 r) := by
  unfold rws
  rw [List.range_succ_eq_map, List.filterMap_cons, List.filterMap_map]
  cases r with
  | none => rfl
  | some p => simp only [upd, List.append_assoc, List.singleton_append]; rfl

/-- What an operation of the head yields, and lays at its place, and writes. -/
def YldE (C : Ctx) (H : HW) (i : Nat) (ex : List Blk) (rw0 : List (Nat × Blk)) (o : Oper) (top : List AV) (av : AV) (b : Blk) (rw : Option (Nat × Blk)) : Prop :=
  (isSt H.st i = true ∧ av = .und ∧ b = .gone ∧ o.dst = none ∧ ∃ r, rw = some r ∧ notKey r.1 rw0 = true ∧ scall C (hlen H.h0) ex o { top := top, below := [], heap := H.heap i } = some r) ∨
  (isSt H.st i = false ∧ rw = none ∧ ((Yld C (H.heap i) o top av ∧ b = .gone) ∨ (YldG C (H.heap i) o top b ∧ av = .sl (hlen H.h0 + i)) ∨ (YldA C o b ∧ av = .own (hlen H.h0 + i) 0) ∨ (YldP C (H.heap i) o top b ∧ av = .sl (hlen H.h0 + i))))

theorem dstep_yld {H : HW} {i : Nat} {ex : List Blk} {rw0 : List (Nat × Blk)} {o : Oper} {s : St} {k : Blk → Option (Nat × Blk) → St → Prop} (hk : dstep C (hlen H.h0) ex rw0 (isSt H.st i) o (hlen H.h0 + i) { s with heap := H.heap i } k) :
    ∃ av b r, YldE C H i ex rw0 o s.top av b r ∧ k b r (({ s with heap := H.heap i } : St).put o.dst av) := by
  unfold dstep at hk
  split at hk
  · rename_i hS
    split at hk
    · rename_i r hr
      have hdst : o.dst = none := by
        unfold scall at hr
        split at hr
        · assumption
        · cases hr
      split at hk
      · rename_i hnk
        refine ⟨.und, .gone, some r, .inl ⟨hS, rfl, rfl, hdst, r, rfl, hnk, hr⟩, ?_⟩
        rw [hdst]
        exact hk
      · exact hk.elim
    · exact hk.elim
  · rename_i hS
    have hS : isSt H.st i = false := by simpa using hS
    split at hk
    · rename_i g gs args hg
      split at hk
      · rename_i hc
        simp only [Bool.and_eq_true] at hc
        obtain ⟨h1, h2⟩ := hc
        split at hk
        · rename_i x hx
          unfold gcall at hg
          split at hg
          · rename_i f args' ats ho
            split at hg
            · rename_i g' hev
              split at hg
              · cases hg
              · split at hg
                · rename_i gs' hgs
                  simp only [Option.some.injEq, Prod.mk.injEq] at hg
                  obtain ⟨rfl, rfl, rfl⟩ := hg
                  exact ⟨_, _, none, .inr ⟨hS, rfl, .inr (.inl ⟨⟨f, args', ats, g', gs', x, ho, hev, hgs, h1, h2, hx, hk.1, rfl⟩, rfl⟩)⟩, hk.2⟩
                · cases hg
            · cases hg
          · cases hg
        · exact hk.elim
      · exact hk.elim
    · split at hk
      · rename_i cs hcs
        exact ⟨_, _, none, .inr ⟨hS, rfl, .inr (.inr (.inl ⟨⟨cs, hcs, rfl⟩, rfl⟩))⟩, hk⟩
      · split at hk
        · rename_i p b hp
          unfold pcall at hp
          split at hp
          · rename_i args ats ho
            split at hp
            · rename_i e y t tx hev hats
              split at hp
              · rename_i tid htf hel
                split at hp
                · rename_i sz z ys h1 h2 h3
                  split at hp
                  · rename_i hc
                    simp only [Bool.and_eq_true, Nat.beq_eq] at hc
                    simp only [Option.some.injEq, Prod.mk.injEq] at hp
                    obtain ⟨rfl, rfl⟩ := hp
                    exact ⟨_, _, none, .inr ⟨hS, rfl, .inr (.inr (.inr ⟨⟨args, ats, e, y, t, tx, tid, sz, z, ys, ho, hev, hats, htf, hel, h1, h2, h3, hc.1, hc.2, hk.1, rfl⟩, rfl⟩))⟩, hk.2⟩
                  · cases hp
                · cases hp
              · cases hp
            · cases hp
          · cases hp
        · obtain ⟨av, h1, h2⟩ := nstep_yld hk
          exact ⟨av, _, none, .inr ⟨hS, rfl, .inl ⟨h1, rfl⟩⟩, h2⟩

structure Trace (C : Ctx) (H : HW) (ex0 : List Blk) (rw0 : List (Nat × Blk)) (ops : List Oper) (i0 : Nat) (top : List AV) (tops mids : Nat → List AV) (vals : Nat → AV) (wnt : Nat → Bool) (effi : Nat → Blk) (rwi : Nat → Option (Nat × Blk)) : Prop where
  zero : tops 0 = top
  step : ∀ i o, ops[i]? = some o → Guarded H.all o (tops i) (mids i) (wnt i) ∧ tops (i + 1) = putL (mids i) o.dst (vals i) ∧
    (wnt i = true → YldE C H (i0 + i) (ex0 ++ effs i effi) (rws i rwi rw0) o (mids i) (vals i) (effi i) (rwi i)) ∧ (wnt i = false → vals i = .und ∧ effi i = .gone ∧ rwi i = none)

theorem Trace.cons {H : HW} {ex0 : List Blk} {rw0 : List (Nat × Blk)} {o : Oper} {ops : List Oper} {i0 : Nat} {top mid : List AV} {v : AV} {b : Bool} {e : Blk} {r : Option (Nat × Blk)} {tops mids : Nat → List AV} {vals : Nat → AV} {wnt : Nat → Bool} {effi : Nat → Blk} {rwi : Nat → Option (Nat × Blk)}
    (hg : Guarded H.all o top mid b) (hy : b = true → YldE C H i0 ex0 rw0 o mid v e r) (hn : b = false → v = .und ∧ e = .gone ∧ r = none) (ht : Trace C H (ex0 ++ [e]) (upd rw0 r) ops (i0 + 1) (putL mid o.dst v) tops mids vals wnt effi rwi) :
    Trace C H ex0 rw0 (o :: ops) i0 top (fun i => match i with | 0 => top | i + 1 => tops i) (fun i => match i with | 0 => mid | i + 1 => mids i) (fun i => match i with | 0 => v | i + 1 => vals i) (fun i => match i with | 0 => b | i + 1 => wnt i) (fun i => match i with | 0 => e | i + 1 => effi i)
      (fun i => match i with | 0 => r | i + 1 => rwi i) where
  zero := rfl
  step := fun i o' ho => by
    cases i with
    | zero =>
      simp at ho
      subst ho
      exact ⟨hg, ht.zero, (by simpa [effs, rws] using hy), hn⟩
    | succ i =>
      have := ht.step i o' (by simpa using ho)
      rw [effs_succ, rws_succ, show i0 + (i + 1) = i0 + 1 + i by omega, show ex0 ++ e :: effs i effi = (ex0 ++ [e]) ++ effs i effi by simp]
      exact this

theorem put_top (s : St) (d : Option Tmp) (v : AV) : s.put d v = { s with top := putL s.top d v } := by cases d <;> rfl

theorem dops_trace {m : Mode} (H : HW) {k : St → Prop} : ∀ (ops : List Oper) (i0 : Nat) (ex : List Blk) (rw0 : List (Nat × Blk)) (s : St), dops C m H ops i0 ex rw0 s k →
    ∃ tops mids vals wnt effi rwi, Trace C H ex rw0 ops i0 s.top tops mids vals wnt effi rwi ∧ k { s with top := tops ops.length, heap := wr (H.h0 ++ (ex ++ effs ops.length effi)) (rws ops.length rwi rw0) }
  | [], i0, ex, rw0, s, hk => ⟨fun _ => s.top, fun _ => s.top, fun _ => .und, fun _ => true, fun _ => .gone, fun _ => none, ⟨rfl, fun i o ho => by simp at ho⟩, (by have hk : k { s with heap := wr (H.h0 ++ ex) rw0 } := hk; simpa [effs, rws] using hk)⟩
  | o :: ops, i0, ex, rw0, s, hk => by
    have go : ∀ (s1 : St) (v : AV) (e : Blk) (r : Option (Nat × Blk)) (b : Bool), Guarded H.all o s.top s1.top b → s1.below = s.below → (b = true → YldE C H i0 ex rw0 o s1.top v e r) → (b = false → v = .und ∧ e = .gone ∧ r = none) → dops C m H ops (i0 + 1) (ex ++ [e]) (upd rw0 r) (s1.put o.dst v) k →
        ∃ tops mids vals wnt effi rwi, Trace C H ex rw0 (o :: ops) i0 s.top tops mids vals wnt effi rwi ∧ k { s with top := tops (o :: ops).length, heap := wr (H.h0 ++ (ex ++ effs (o :: ops).length effi)) (rws (o :: ops).length rwi rw0) } := by
      intro s1 v e r b hg hb hy hn hdo
      rw [put_top] at hdo
      obtain ⟨tops, mids, vals, wnt, effi, rwi, ht, hk'⟩ := dops_trace H ops _ _ _ _ hdo
      simp only [hb] at ht hk'
      refine ⟨_, _, _, _, _, _, ht.cons (e := e) (r := r) hg hy hn, ?_⟩
      rw [List.length_cons, effs_succ, rws_succ]
      rw [List.append_assoc, List.singleton_append] at hk'
      exact hk'
    have yes : ∀ (s1 : St), Guarded H.all o s.top s1.top true → s1.below = s.below → dstep C (hlen H.h0) ex rw0 (isSt H.st i0) o (hlen H.h0 + i0) { s1 with heap := H.heap i0 } (fun b r s' => dops C m H ops (i0 + 1) (ex ++ [b]) (upd rw0 r) s' k) →
        ∃ tops mids vals wnt effi rwi, Trace C H ex rw0 (o :: ops) i0 s.top tops mids vals wnt effi rwi ∧ k { s with top := tops (o :: ops).length, heap := wr (H.h0 ++ (ex ++ effs (o :: ops).length effi)) (rws (o :: ops).length rwi rw0) } := by
      intro s1 hg hb hst
      obtain ⟨av, e, r, hy, hdo⟩ := dstep_yld hst
      exact go { s1 with heap := H.heap i0 } av e r true hg hb (fun _ => hy) (fun e => by cases e) hdo
    have no : ∀ (s1 : St), Guarded H.all o s.top s1.top false → s1.below = s.below → dops C m H ops (i0 + 1) (ex ++ [.gone]) rw0 (s1.put o.dst .und) k →
        ∃ tops mids vals wnt effi rwi, Trace C H ex rw0 (o :: ops) i0 s.top tops mids vals wnt effi rwi ∧ k { s with top := tops (o :: ops).length, heap := wr (H.h0 ++ (ex ++ effs (o :: ops).length effi)) (rws (o :: ops).length rwi rw0) } :=
      fun s1 hg hb hdo => go s1 .und .gone none false hg hb (fun e => by cases e) (fun _ => ⟨rfl, rfl, rfl⟩) hdo
    unfold dops at hk
    split at hk
    · rename_i hgd
      exact yes s (by simp [Guarded, hgd]) rfl hk
    · rename_i g want hgd
      split at hk
      · exact hk.elim
      · rename_i t hgt
        split at hk
        · rename_i htt
          split at hk
          · exact yes s (by simp [Guarded, hgd, hgt, htt]) rfl hk
          · exact no s (by simp [Guarded, hgd, hgt, htt]) rfl hk
        · rename_i htt
          split at hk
          · exact yes s (by simp [Guarded, hgd, hgt, htt]) rfl hk
          · exact no s (by simp [Guarded, hgd, hgt, htt]) rfl hk
        · rename_i htt
          exact no s (by simp [Guarded, hgd, hgt, htt]) rfl hk
        · rename_i b htt
          split at hk
          · cases b with
            | true => exact yes (s.put (some t) .tt) (by simp [Guarded, hgd, hgt, htt, St.put]) rfl ((splitB_sound hk).1 rfl)
            | false => exact no (s.put (some t) .ff) (by simp [Guarded, hgd, hgt, htt, St.put]) rfl ((splitB_sound hk).2 rfl)
          · cases b with
            | true => exact no (s.put (some t) .tt) (by simp [Guarded, hgd, hgt, htt, St.put]) rfl ((splitB_sound hk).1 rfl)
            | false => exact yes (s.put (some t) .ff) (by simp [Guarded, hgd, hgt, htt, St.put]) rfl ((splitB_sound hk).2 rfl)
        · exact hk.elim

/-! the slots, whatever has been carried out -/
def baseL (ops : List Oper) (top : List AV) (vals : Nat → AV) (L : Nat → Bool) (t : Nat) : AV :=
  match (List.range ops.length).find? (fun i => L i && ((ops[i]?).bind (·.dst) == some t)) with
  | some i => vals i
  | none => fget top t

def Imp (b av : AV) : Prop := ∀ Ψ β v, RelV Ψ β b v → RelV Ψ β av v
theorem Imp.refl (b : AV) : Imp b b := fun _ _ _ h => h
theorem Imp.trans {a b c : AV} (h : Imp a b) (h' : Imp b c) : Imp a c := fun Ψ β v hv => h' Ψ β v (h Ψ β v hv)

theorem fget_fset {l : List AV} {i j : Nat} {v : AV} : fget (fset l i v) j = if i = j ∧ i < l.length then v else fget l j := by
  induction l generalizing i j with
  | nil => simp [fset]
  | cons x l ih => cases i <;> cases j <;> simp [fset, fget, ih]

theorem fset_length (l : List AV) (i : Nat) (v : AV) : (fset l i v).length = l.length := by rw [fset_eq]; simp

/-- No two operations write one slot. -/
def Distinct (ops : List Oper) : Prop :=
  ∀ (i j : Nat) (oi oj : Oper) (t : Tmp), ops[i]? = some oi → ops[j]? = some oj → oi.dst = some t → oj.dst = some t → i = j

theorem baseL_at {ops : List Oper} {top : List AV} {vals : Nat → AV} {L : Nat → Bool} {t i : Nat} {o : Oper} (hd : Distinct ops) (hi : ops[i]? = some o) (ht : o.dst = some t) (hL : L i = true) : baseL ops top vals L t = vals i := by
  unfold baseL
  cases hf : (List.range ops.length).find? (fun i => L i && ((ops[i]?).bind (·.dst) == some t)) with
  | none =>
    rw [List.find?_eq_none] at hf
    have hlt : i < ops.length := by
      rcases Nat.lt_or_ge i ops.length with h' | h'
      · exact h'
      · rw [List.getElem?_eq_none h'] at hi; cases hi
    have := hf i (List.mem_range.2 hlt)
    simp [hL, hi, ht] at this
  | some j =>
    have h1 := List.find?_some hf
    simp only [Bool.and_eq_true, beq_iff_eq] at h1
    obtain ⟨_, h2⟩ := h1
    cases hj : ops[j]? with
    | none => rw [hj] at h2; simp at h2
    | some oj =>
      rw [hj] at h2
      simp at h2
      rw [hd i j o oj t hi hj ht h2]

theorem baseL_none {ops : List Oper} {top : List AV} {vals : Nat → AV} {L : Nat → Bool} {t : Nat} (hn : ∀ (i : Nat) (o : Oper), ops[i]? = some o → o.dst = some t → L i = false) : baseL ops top vals L t = fget top t := by
  unfold baseL
  cases hf : (List.range ops.length).find? (fun i => L i && ((ops[i]?).bind (·.dst) == some t)) with
  | none => rfl
  | some j =>
    have h1 := List.find?_some hf
    simp only [Bool.and_eq_true, beq_iff_eq] at h1
    obtain ⟨h0, h2⟩ := h1
    cases hj : ops[j]? with
    | none => rw [hj] at h2; simp at h2
    | some oj =>
      rw [hj] at h2
      simp at h2
      rw [hn j oj hj h2] at h0
      cases h0

theorem guarded_imp {all : Array Oper} {o : Oper} {top top1 : List AV} {b : Bool} (hg : Guarded all o top top1 b) : top1.length = top.length ∧ ∀ t, Imp (fget top t) (fget top1 t) := by
  unfold Guarded at hg
  split at hg
  · obtain ⟨rfl, _⟩ := hg
    exact ⟨rfl, fun t => Imp.refl _⟩
  · obtain ⟨t, _, h⟩ := hg
    rcases h with ⟨_, rfl, _⟩ | ⟨_, rfl, _⟩ | ⟨_, rfl, _⟩ | ⟨h1, rfl, _⟩ | ⟨h1, rfl, _⟩
    · exact ⟨rfl, fun t => Imp.refl _⟩
    · exact ⟨rfl, fun t => Imp.refl _⟩
    · exact ⟨rfl, fun t => Imp.refl _⟩
    · refine ⟨fset_length _ _ _, fun t' => ?_⟩
      rw [fget_fset]
      split
      · rename_i hc
        obtain ⟨rfl, _⟩ := hc
        rw [h1]
        exact fun Ψ β v hv => rv_bool.1 hv
      · exact Imp.refl _
    · refine ⟨fset_length _ _ _, fun t' => ?_⟩
      rw [fget_fset]
      split
      · rename_i hc
        obtain ⟨rfl, _⟩ := hc
        rw [h1]
        exact fun Ψ β v hv => rv_bool.1 hv
      · exact Imp.refl _

/-- What the lexical walk knows of the slots follows from what the operations before have left. -/
theorem Trace.chain {H : HW} {ex0 : List Blk} {rw0 : List (Nat × Blk)} {ops : List Oper} {top : List AV} {tops mids : Nat → List AV} {vals : Nat → AV} {wnt : Nat → Bool} {i0 : Nat} {effi : Nat → Blk} {rwi : Nat → Option (Nat × Blk)} (ht : Trace C H ex0 rw0 ops i0 top tops mids vals wnt effi rwi) (hd : Distinct ops) :
    ∀ i, i ≤ ops.length → (tops i).length = top.length ∧ ∀ t, t < top.length → Imp (baseL ops top vals (fun j => decide (j < i)) t) (fget (tops i) t)
  | 0, _ => by
    rw [ht.zero]
    refine ⟨rfl, fun t _ => ?_⟩
    rw [baseL_none (fun i o _ _ => by simp)]
    exact Imp.refl _
  | i + 1, hi => by
    obtain ⟨hl, hc⟩ := ht.chain hd i (by omega)
    have ho : ops[i]? = some ops[i] := List.getElem?_eq_getElem (by omega)
    obtain ⟨hg, he, _, _⟩ := ht.step i _ ho
    obtain ⟨hgl, hgi⟩ := guarded_imp hg
    have same : ∀ t, ops[i].dst ≠ some t → baseL ops top vals (fun j => decide (j < i + 1)) t = baseL ops top vals (fun j => decide (j < i)) t := by
      intro t hne
      by_cases hex : ∃ j oj, ops[j]? = some oj ∧ oj.dst = some t ∧ j < i
      · obtain ⟨j, oj, h1, h2, h3⟩ := hex
        rw [baseL_at hd h1 h2 (by simp; omega), baseL_at hd h1 h2 (by simp; omega)]
      · rw [baseL_none (fun j oj h1 h2 => ?_), baseL_none (fun j oj h1 h2 => ?_)]
        · simp only [decide_eq_false_iff_not]
          exact fun h3 => hex ⟨j, oj, h1, h2, h3⟩
        · simp only [decide_eq_false_iff_not]
          intro h3
          have : j ≠ i := by
            rintro rfl
            rw [h1] at ho
            simp at ho
            rw [← ho] at hne
            exact hne h2
          exact hex ⟨j, oj, h1, h2, by omega⟩
    rw [he]
    cases hdst : ops[i].dst with
    | none =>
      refine ⟨by simp only [putL]; omega, fun t ht' => ?_⟩
      rw [same t (by rw [hdst]; simp)]
      exact (hc t ht').trans (hgi t)
    | some d =>
      refine ⟨by simp only [putL]; rw [fset_length]; omega, fun t ht' => ?_⟩
      simp only [putL]
      rw [fget_fset]
      by_cases htd : d = t
      · subst htd
        rw [if_pos ⟨rfl, by omega⟩, baseL_at hd ho hdst (by simp)]
        exact Imp.refl _
      · rw [if_neg (fun hh => htd hh.1), same t (by rw [hdst]; simpa using htd)]
        exact (hc t ht').trans (hgi t)

end Go.AM
