import Derived.Test.YtmimchmdikjilaaAmr
namespace Go.AM
set_option linter.unusedVariables false
open Go.RowKit

variable {B : Nat} {w0 : World} {C : Ctx} {Ψ Ψ0 : Pr} {β : List Value} {h : List Blk} {w w' : World} {fr : List AV} {a a0 : Act} {As : List Act} {W : List Nat}

/-- What holds at the head of a loop, whatever varies. -/
structure HeadR (C : Ctx) (B : Nat) (s0 : St) (ws : List Nat) (as : List LA) (Ψ : Pr) (β : List Value) (a : Act) (As : List Act) : Prop where
  len : β.length = s0.heap.length
  fr : RelF Ψ β (forget (laKs s0 as) ws 0 s0.top :: noSlpF (laKs s0 as) s0.below) (a :: As)
  blk : ∃ wh, ∀ k b, (head0 s0 ws as).heap[k]? = some b → BlkR C.P B Ψ β wh k b

theorem stillA_spec {s0 s : St} (hsl : ∀ i j, fget s0.top i = .sl j → j < s0.heap.length) (hsc : ∀ k cs i j, hget s0.heap k = .cells cs → fget cs i = .sl j → j < s0.heap.length) : ∀ {as : List LA}, stillA s0 s as = true → ∀ la ∈ as, LaOk s0 s s0.heap.length la
  | [], _, la, hm => by simp at hm
  | la0 :: as, h, la, hm => by
    unfold stillA at h
    simp only [Bool.and_eq_true] at h
    rcases List.mem_cons.1 hm with rfl | hm
    · have h1 := h.1
      cases la with
      | slot _ _ => trivial
      | cell _ _ _ => trivial
      | keep _ _ _ => trivial
      | kmp _ _ => trivial
      | kit _ _ => trivial
      | gslot i tid e =>
        simp only at h1
        split at h1
        · rename_i j k hj hk
          simp only [Nat.beq_eq] at h1
          subst h1
          refine .inr ⟨j, hj, hk, ?_⟩
          simp only [laSl] at hj
          split at hj
          · rename_i k' hk'
            simp at hj
            subst hj
            exact hsl i _ hk'
          · cases hj
        · rename_i hj; exact .inl hj
        · cases h1
      | gcell k off tid e =>
        simp only at h1
        split at h1
        · rename_i j k2 hj hk
          simp only [Nat.beq_eq] at h1
          subst h1
          refine .inr ⟨j, hj, hk, ?_⟩
          simp only [laSl] at hj
          split at hj
          · rename_i cs hcs
            split at hj
            · rename_i k' hk'
              simp at hj
              subst hj
              exact hsc k cs off _ hcs hk'
            · cases hj
          · cases hj
        · rename_i hj; exact .inl hj
        · cases h1
    · exact stillA_spec hsl hsc h.2 la hm

theorem RelF_cons {f : List AV} {fs : List (List AV)} (h1 : RelFr Ψ β f a) (h2 : RelF Ψ β fs As) : RelF Ψ β (f :: fs) (a :: As) := ⟨a, As, rfl, h1, h2⟩

theorem below_of {fs : List (List AV)} (hf : RelF Ψ β (fr :: fs) (a :: As)) : RelF Ψ β fs As := by
  obtain ⟨a1, as', e, h1, h3⟩ := hf
  simp only [List.cons.injEq] at e
  obtain ⟨rfl, rfl⟩ := e
  exact h3

theorem havB_loop {ks : List Nat} {fs : List (List AV)} {i : Nat} {b0 : Blk} {f : FuncId} {p : List Nat} {ph : Ph} {ts : List AV} (h : havB ks fs i b0 = .loop f p ph ts) : yldInF i fs = true := by
  cases b0 with
  | loop f' p' ph' ts' =>
    unfold havB at h
    simp only at h
    split at h
    · assumption
    · cases h
  | _ => simp [havB] at h

theorem fits_sound {s0 s : St} {ws : List Nat} {as : List LA} {Ψh : Pr} {βh : List Value} {ah : Act} {x : dens (laTys as)} (hh : HeadR C B s0 ws as Ψh βh ah As) (hsl : ∀ i j, fget s0.top i = .sl j → j < s0.heap.length) (hsc : ∀ k cs i j, hget s0.heap k = .cells cs → fget cs i = .sl j → j < s0.heap.length) (hle : PLe Ψh Ψ)
    (hi : InvH C.P B w0 Ψ β s.heap w) (hf : RelF Ψ β (s.top :: s.below) (a :: As)) (hS : a.tmps.size = ah.tmps.size ∧ ∀ i, i ∉ ws → a.tmps[i]? = ah.tmps[i]?) (hfit : fits as ws s0 s = true) (hx : getLAs s as = some x) :
    ∃ β', InvH C.P B w0 Ψ β' (tmpl s0 ws as x).heap w ∧ RelF Ψ β' ((tmpl s0 ws as x).top :: (tmpl s0 ws as x).below) (a :: As) ∧ HeadR C B s0 ws as Ψ β' a As := by
  unfold fits at hfit
  simp only [Bool.and_eq_true] at hfit
  obtain ⟨⟨⟨hT, hF⟩, hA⟩, hB⟩ := hfit
  have hlen0 : (head0 s0 ws as).heap.length = s0.heap.length := havocH_len
  have hn : s0.heap.length ≤ s.heap.length := by rw [← hlen0]; exact sameBs_len hB
  have hn' : s0.heap.length ≤ β.length := by rw [hi.len]; exact hn
  have hbb : ∀ (k : Nat) (v u : Value), βh[k]? = some u → β[k]? = some v → (β.take s0.heap.length)[k]? = some v := by
    intro k v u hu hv
    have hk : k < s0.heap.length := by
      rw [← hh.len]
      rcases Nat.lt_or_ge k βh.length with h' | h'
      · exact h'
      · rw [List.getElem?_eq_none h'] at hu; cases hu
    rw [take_get hk]
    exact hv
  have htk : ∀ (j : Nat) (v : Value), (β.take s0.heap.length)[j]? = some v → β[j]? = some v := by
    intro k v hk
    rw [List.getElem?_take] at hk
    split at hk
    · exact hk
    · cases hk
  have hfr1 := frame_of (s := { top := forget (laKs s0 as) ws 0 s0.top, below := noSlpF (laKs s0 as) s0.below, heap := [] }) hh.fr
  have hfr2 := frame_of hf
  have hF2 : RelF Ψ (β.take s0.heap.length) (forget (laKs s0 as) ws 0 s0.top :: noSlpF (laKs s0 as) s0.below) (a :: As) := by
    refine RelF_cons ⟨hfr2.1, ?_⟩ (stillF_rel hle hbb _ _ _ (below_of hh.fr) (below_of hf) hF)
    refine stillT_rel (Ψ := Ψh) (β := βh) hle hbb s0.top s.top 0 _ _ hfr1.2 hfr2.2 (by simpa using hS.1.symm) (fun j hj hm => ?_) hT
    have := hS.2 j (by simpa using hm)
    simpa using this.symm
  have hG : Good C B Ψ β (β.take s0.heap.length) s (head0 s0 ws as) s0.heap.length a As w := by
    refine ⟨hlen0, hF2, fun k b hb => ?_⟩
    obtain ⟨wh, hwh⟩ := hh.blk
    obtain ⟨c, hc, hsame⟩ := sameBs_get hB hb
    have hy : ∀ f p ph ts, b = .loop f p ph ts → ∃ n, βh[k]? = some (yldV n) ∧ (β.take s0.heap.length)[k]? = some (yldV n) := by
      intro f p ph ts e
      obtain ⟨b0, h1, h2⟩ := havocH_get (ks := laKs s0 as) hb
      rw [Nat.zero_add] at h2
      rw [h2] at e
      exact yldT_same (havB_loop e) hh.fr hF2 (fun t ht => hS.2 t ht)
    obtain ⟨g1, g2⟩ := sameB_rel hle hbb htk hy (hwh k b hb) (hi.blk k c hc) hsame
    exact ⟨g1, fun g hcl => ⟨c, hc, g2 g hcl⟩⟩
  have hG2 := setLAs_good hi hf hn as hx (stillA_spec hsl hsc hA) hG
  refine ⟨β.take s0.heap.length, ?_, hG2.fr, ⟨by simp; omega, hF2, w, fun k b hb => (hG.blk k b hb).1⟩⟩
  refine hi.weaken ?_ htk ?_
  · have := hG2.len
    unfold tmpl
    rw [this]
    simp
    omega
  · exact hG2.blk

/-- What stands behind a code, for each way out. -/
def QOf (C : Ctx) (B : Nat) (w0 : World) (Ψ0 : Pr) (As : List Act) (W : List Nat) (a0 : Act) (k : Ex → St → Prop) : Exit → Act → World → Prop
  | .normal, a, w => PostC C B w0 Ψ0 As W a0 (k .normal) a w
  | .exit i, a, w => PostC C B w0 Ψ0 As W a0 (k (.exit i)) a w
  | .ret, a, w => PostC C B w0 Ψ0 As W a0 (k .ret) a w
  | _, _, _ => False

theorem dstsOps_mem : ∀ {l : List Oper} {o : Oper} {t : Tmp}, o ∈ l → o.dst = some t → t ∈ dstsOps l
  | [], _, _, h, _ => by simp at h
  | o' :: l, o, t, h, ht => by
    unfold dstsOps
    rcases List.mem_cons.1 h with rfl | h
    · rw [ht]; simp
    · have := dstsOps_mem h ht
      split
      · exact List.mem_cons_of_mem _ this
      · exact this

theorem Same.mono {ws : List Nat} (h : Same Ψ0 ws a0 a) (hw : ∀ t ∈ ws, t ∈ W) : Same Ψ0 W a0 a := ⟨⟨h.1.1, fun i hi => h.1.2 i fun hm => hi (hw i hm)⟩, h.2⟩

theorem eval_tmp {t : Tmp} {b : Bool} (h : a.eval (.tmp t) = .bool b) : a.tmps[t]? = some (.bool b) := by
  have h : a.tmps.getD t undef = .bool b := h
  rw [Array.getD_eq_getD_getElem?] at h
  cases hx : a.tmps[t]? with
  | none => rw [hx] at h; simp [undef] at h
  | some x => rw [hx] at h; simp at h; rw [h]

theorem setTmp_rel {s : St} {c : Operand} {b : Bool} (hf : RelF Ψ β (s.top :: s.below) (a :: As)) (hc : a.eval c = .bool b) {av : AV} (hv : RelV Ψ β av (.bool b)) :
    RelF Ψ β ((setTmp c av s).top :: (setTmp c av s).below) (a :: As) ∧ (setTmp c av s).heap = s.heap := by
  cases c with
  | tmp t => exact ⟨put_some_rel hf (eval_tmp hc) hv, rfl⟩
  | const v => exact ⟨hf, rfl⟩
  | global g => exact ⟨hf, rfl⟩
  | func f => exact ⟨hf, rfl⟩

def exitOf : Ex → Exit
  | .normal => .normal
  | .exit i => .exit i
  | .ret => .ret
theorem exCode_wp {F : Fence} {n : Nat} {P : Program} {Q : Exit → Act → World → Prop} {e : Ex} {c : Code} (hc : exCode e = some c) (hk : Q (exitOf e) a w) : c.wpIn F n P Q a w := by
  cases e with
  | normal => cases hc
  | exit i => simp only [exCode, Option.some.injEq] at hc; subst hc; exact wpIn_exit hk
  | ret => simp only [exCode, Option.some.injEq] at hc; subst hc; exact wpIn_ret hk

theorem QOf_ex {e : Ex} {k : Ex → St → Prop} (h : PostC C B w0 Ψ0 As W a0 (k e) a w) : QOf C B w0 Ψ0 As W a0 k (exitOf e) a w := by
  cases e <;> exact h

/-- Behind a range over a function. -/
theorem range_end {ro : Option Nat} {l : Nat} {k : Ex → St → Prop} {s' : St} {Ψ' : Pr} {β' : List Value} {w3 : World} {j : Nat} {v : Value}
    (hk : match named j s' with
      | none => False
      | some s1 => match hget s1.heap j with
        | .loop _ _ .ready _ => k .normal { s1 with heap := setPh s1.heap j .exhausted }
        | .loop _ _ (.done e) _ => k e { s1 with heap := setPh s1.heap j .exhausted }
        | _ => False)
    (hE : Ext B Ψ0 Ψ') (hi : InvH C.P B w0 Ψ' β' s'.heap w3) (hf : RelF Ψ' β' (s'.top :: s'.below) (nameAct l :: a :: As)) (hS : Same Ψ0 W a0 a) :
    rangePost (Fw ro) 0 C.P l (QOf C B w0 Ψ0 As W a0 k) a (.returned v) w3 := by
  split at hk
  · exact hk.elim
  · rename_i s1 hn
    obtain ⟨hβ, hheap, hf1⟩ := named_sound hn hf rfl
    rw [← hheap] at hi
    split at hk
    · rename_i f p ts hg
      have hkk := hget_some hg (by simp)
      obtain ⟨l1, r, g1, g2, g3, g4, g5, g6⟩ := hi.blk _ _ hkk
      rw [hβ] at g1
      simp only [yldV, Option.some.injEq, Value.func.injEq, Fn.yield.injEq, and_true] at g1
      subst g1
      have hi2 := hi.setPh (ph' := .exhausted) (r' := { r with state := .exhausted }) hkk hβ g2 rfl rfl rfl rfl rfl
      refine ⟨r.pending, _, run_endLoop g2 (by rw [g4.1]; simp), ?_⟩
      rw [g4.2]
      exact ⟨Ψ', β', { s1 with heap := setPh s1.heap j .exhausted }, hE, (by rw [← g4.2]; exact hi2), hf1, hS, hk⟩
    · rename_i f p e ts hg
      have hkk := hget_some hg (by simp)
      obtain ⟨l1, r, g1, g2, g3, g4, g5, g6⟩ := hi.blk _ _ hkk
      rw [hβ] at g1
      simp only [yldV, Option.some.injEq, Value.func.injEq, Fn.yield.injEq, and_true] at g1
      subst g1
      have hi2 := hi.setPh (ph' := .exhausted) (r' := { r with state := .exhausted }) hkk hβ g2 rfl rfl rfl rfl rfl
      have hpost : PostC C B w0 Ψ0 As W a0 (k e) a (w3.putObj l (.loop { r with state := .exhausted })) := ⟨Ψ', β', { s1 with heap := setPh s1.heap j .exhausted }, hE, hi2, hf1, hS, hk⟩
      refine ⟨r.pending, _, run_endLoop g2 (by rw [g4.1]; simp), ?_⟩
      generalize w3.putObj l (.loop { r with state := .exhausted }) = w4 at hpost ⊢
      rw [g4.2]
      cases hc : exCode e with
      | none =>
        have he : e = .normal := by cases e <;> simp [exCode] at hc ⊢
        subst he
        exact hpost
      | some c => exact exCode_wp hc (QOf_ex hpost)
    · exact hk.elim

theorem run_enterLoop_inner {P : Program} {l : Nat} {r : Loop} (h : w.heap[l]? = some (.loop r)) (fn : FuncId) (tmps : Array Value) (ps : Array Tmp) (assign body : Code) :
    (Instr.enterLoop fn tmps ps assign body (some l)).run P w = .ok (w.heap.size, []) (w.alloc (.loop { state := .ready, pending := none, fn, tmps, params := ps, assign, body, defers := r.defers })) := by
  unfold Instr.enterLoop
  simp only [Sem.run_bind, run_getLoop h, run_newObj_alloc, Result.andThen, Sem.run_pure]

theorem run_rangeCall {g : Operand} {l : Nat} {f : FuncId} {vs : List Value} (hf : a.eval g = .func (.func f) #[] vs.toArray) (hg : enterOk C f = true) :
    ∃ d : Deferred, (resolve a.eval (rangeCall g l) 0).run C.P w = .ok d w ∧ (invoke d.target d.args).run C.P w = .ok (.enter f (yldV l :: vs).toArray) w := by
  refine ⟨{ target := .fn (.func f) vs.toArray, args := #[] ++ #[yldV l] }, ?_, ?_⟩
  · simp only [resolve, hf, Deferred.ofValue]
    simp [Act.eval, yldV]
  · have := enterOk_run hg ((yldV l :: vs).toArray) w
    have e : #[] ++ #[yldV l] ++ vs.toArray = (yldV l :: vs).toArray := by
      apply Array.ext'
      simp
    simp only [invoke]
    rw [e]
    exact this

theorem ahead_sound (fid : FuncId) (id : Nat) {s : St} (hi : InvH C.P B w0 Ψ β s.heap w) (hf : RelF Ψ β (s.top :: s.below) As) :
    ∃ Ψ', Ext B Ψ Ψ' ∧ InvH C.P B w0 Ψ' β (C.ahead fid id s).heap w ∧ RelF Ψ' β ((C.ahead fid id s).top :: (C.ahead fid id s).below) As := by
  unfold Ctx.ahead
  cases Nat.beq ((C.hint fid).unr id) 500 with
  | true =>
    obtain ⟨Ψ', h1, h2, h3, _⟩ := freezeAll_sound (refsA s.top) hi hf
    exact ⟨Ψ', h1, h2, h3⟩
  | false =>
    cases Nat.beq ((C.hint fid).unr id) 501 with
    | true =>
      obtain ⟨Ψ', h1, h2, h3, _⟩ := freezeAll_sound (refsH s.heap) hi hf
      exact ⟨Ψ', h1, h2, h3⟩
    | false => exact ⟨Ψ, Ext.refl _ _, hi, hf⟩

theorem fset_self : ∀ (fr : List AV) (i : Nat), fset fr i (fget fr i) = fr
  | [], i => by cases i <;> rfl
  | a :: fr, 0 => rfl
  | a :: fr, i + 1 => by
    show a :: fset fr i (fget fr i) = a :: fr
    rw [fset_self fr i]
theorem forkN_sound {x : Int} {i : Nat} {s : St} {k : St → Prop} (hx : fget s.top i = .d (.int .i64) x) (h0 : 0 ≤ x) : ∀ n : Nat, x < n → forkN x i s k n → k s
  | 0, h, _ => by omega
  | n + 1, h, hk => by
    by_cases e : x = n
    · have h1 := hk.1 e
      rw [← e, ← hx, fset_self] at h1
      exact h1
    · exact forkN_sound hx h0 n (by omega) hk.2
theorem forkW_sound {m i : Nat} {s : St} {k : St → Prop} (hk : forkW m i s k) : k s := by
  unfold forkW at hk
  split at hk
  · rename_i x hx
    exact forkN_sound hx hk.1.1 m hk.1.2 hk.2
  · exact hk.elim
theorem fork_sound {f : FuncId} {id : Nat} {s : St} {k : St → Prop} (hk : C.fork f id s k) : k s := by
  unfold Ctx.fork at hk
  split at hk
  · exact forkW_sound hk
  · exact hk

theorem awp_sound (hsp : SpecSound C) {call : CallT} (hc : CallSound C call) (fid : FuncId) {ro : Option Nat} : ∀ (c : Code) {p : List Nat} {k : Ex → St → Prop} {s : St} {Ψ0 Ψ : Pr} {β : List Value} {a0 a : Act} {w : World} {W : List Nat}, codeAt C.P fid p = some c → awp C call fid p c k s → (∀ l, ro = some l → Ψ0 (lAddr l) = some undef) →
    Ext B Ψ0 Ψ → InvH C.P B w0 Ψ β s.heap w → RelF Ψ β (s.top :: s.below) (a :: As) → Same Ψ0 W a0 a → (∀ t ∈ dsts c, t ∈ W) → c.wpIn (Fw ro) 0 C.P (QOf C B w0 Ψ0 As W a0 k) a w
  | .skip, p, k, s, Ψ0, Ψ, β, a0, a, w, W, hp, hk, hro, hE, hi, hf, hS, hW => wpIn_skip ⟨Ψ, β, s, hE, hi, hf, hS, by simpa [awp] using hk⟩
  | .label _, p, k, s, Ψ0, Ψ, β, a0, a, w, W, hp, hk, hro, hE, hi, hf, hS, hW => wpIn_label ⟨Ψ, β, s, hE, hi, hf, hS, by simpa [awp] using hk⟩
  | .exit id, p, k, s, Ψ0, Ψ, β, a0, a, w, W, hp, hk, hro, hE, hi, hf, hS, hW => wpIn_exit ⟨Ψ, β, s, hE, hi, hf, hS, by simpa [awp] using hk⟩
  | .ret, p, k, s, Ψ0, Ψ, β, a0, a, w, W, hp, hk, hro, hE, hi, hf, hS, hW => wpIn_ret ⟨Ψ, β, s, hE, hi, hf, hS, by simpa [awp] using hk⟩
  | .region id ops draw, p, k, s, Ψ0, Ψ, β, a0, a, w, W, hp, hk, hro, hE, hi, hf, hS, hW => by
    have hWo : ∀ o ∈ ops.toList, ∀ t, o.dst = some t → t ∈ W := fun o ho t ht => hW t (dstsOps_mem ho ht)
    cases draw with
    | true =>
      simp only [awp] at hk
      have hk := fork_sound hk
      simp only [if_true] at hk
      obtain ⟨Ψ1, hE1, hi1, hf1⟩ := ahead_sound fid id hi hf
      exact adraw_sound hsp hc hk (hE.trans hE1) hi1 hf1 hS hWo fun _ _ hp => hp
    | false =>
      simp only [awp] at hk
      have hk := fork_sound hk
      simp only [Bool.false_eq_true, if_false] at hk
      obtain ⟨Ψ1, hE1, hi1, hf1⟩ := ahead_sound fid id hi hf
      exact wpIn_region_list (aops_sound hc ops ops.toList hk (hE.trans hE1) hi1 hf1 hS hWo fun _ _ hp => hp)
  | .seq x y, p, k, s, Ψ0, Ψ, β, a0, a, w, W, hp, hk, hro, hE, hi, hf, hS, hW => by
    simp only [awp] at hk
    refine wpIn_seq (wpIn_mono (awp_sound hsp hc fid x (by simp [codeAt, hp, childOf]) hk hro hE hi hf hS fun t ht => hW t (by simp [dsts, ht])) ?_)
    intro e a' w' hq
    cases e with
    | normal =>
      obtain ⟨Ψ', β', s', hE', hi', hf', hS', hk'⟩ := hq
      exact awp_sound hsp hc fid y (by simp [codeAt, hp, childOf]) hk' hro hE' hi' hf' hS' fun t ht => hW t (by simp [dsts, ht])
    | exit _ => exact hq
    | ret => exact hq
    | goto _ => exact hq
    | panic _ => exact hq
    | outgrown => exact hq
  | .cond c x y, p, k, s, Ψ0, Ψ, β, a0, a, w, W, hp, hk, hro, hE, hi, hf, hS, hW => by
    have hx := fun {s'} hk (hf' : RelF Ψ β (s'.top :: s'.below) (a :: As)) (hh : s'.heap = s.heap) => awp_sound hsp hc fid (ro := ro) x (p := 0 :: p) (k := k) (s := s') (by simp [codeAt, hp, childOf]) hk hro hE (hh ▸ hi) hf' hS fun t ht => hW t (by simp [dsts, ht])
    have hy := fun {s'} hk (hf' : RelF Ψ β (s'.top :: s'.below) (a :: As)) (hh : s'.heap = s.heap) => awp_sound hsp hc fid (ro := ro) y (p := 1 :: p) (k := k) (s := s') (by simp [codeAt, hp, childOf]) hk hro hE (hh ▸ hi) hf' hS fun t ht => hW t (by simp [dsts, ht])
    have hev := ev_rel (frame_of hf) c
    simp only [awp] at hk
    split at hk
    · rename_i he
      rw [he] at hev
      exact wpIn_cond_true hev (hx hk hf rfl)
    · rename_i he
      rw [he] at hev
      exact wpIn_cond_false hev (hy hk hf rfl)
    · rename_i b he
      rw [he] at hev
      have hev : a.eval c = .bool b := by
        obtain ⟨cs, h1, h2⟩ := hev
        simp only [reads] at h1
        subst h1
        simp [Ty.isAgg] at h2
        exact h2.symm
      cases b with
      | true =>
        obtain ⟨h1, h2⟩ := setTmp_rel hf hev (av := .tt) rfl
        exact wpIn_cond_true hev (hx ((splitB_sound hk).1 rfl) h1 h2)
      | false =>
        obtain ⟨h1, h2⟩ := setTmp_rel hf hev (av := .ff) rfl
        exact wpIn_cond_false hev (hy ((splitB_sound hk).2 rfl) h1 h2)
    · exact hk.elim
  | .block id c, p, k, s, Ψ0, Ψ, β, a0, a, w, W, hp, hk, hro, hE, hi, hf, hS, hW => by
    simp only [awp] at hk
    refine wpIn_block (wpIn_mono (awp_sound hsp hc fid c (by simp [codeAt, hp, childOf]) hk hro hE hi hf hS fun t ht => hW t (by simpa [dsts] using ht)) ?_)
    intro e a' w' hq
    cases e with
    | exit i =>
      obtain ⟨Ψ', β', s', hE', hi', hf', hS', hk'⟩ := hq
      simp only at hk'
      simp only [Exit.inBlock]
      split at hk'
      · rename_i hid
        rw [if_pos (by simpa [Nat.beq_eq] using hid)]
        exact ⟨Ψ', β', s', hE', hi', hf', hS', hk'⟩
      · rename_i hid
        rw [if_neg (by simpa [Nat.beq_eq] using hid)]
        exact ⟨Ψ', β', s', hE', hi', hf', hS', hk'⟩
    | normal => exact hq
    | ret => exact hq
    | goto _ => exact hq
    | panic _ => exact hq
    | outgrown => exact hq
  | .scope c, p, k, s, Ψ0, Ψ, β, a0, a, w, W, hp, hk, hro, hE, hi, hf, hS, hW => by
    simp only [awp] at hk
    refine wpIn_scope_straight (wpIn_mono (awp_sound hsp hc fid c (by simp [codeAt, hp, childOf]) hk hro hE hi hf hS fun t ht => hW t (by simpa [dsts] using ht)) ?_)
    intro e a' w' hq
    cases e <;> exact hq
  | .rangeFunc g ps as bd, p, k, s, Ψ0, Ψ, β, a0, a, w, W, hp, hk, hro, hE, hi, hf, hS, hW => by
    have hev := ev_rel (frame_of hf) g
    simp only [awp] at hk
    split at hk
    · rename_i fh cap he
      rw [he] at hev
      obtain ⟨vs, hfv, hcap⟩ := hev
      split at hk
      · rename_i hok
        refine wpIn_rangeFunc fun fn _ => ?_
        have hDok := (frame_of hf).1
        cases ro with
        | none =>
          obtain ⟨hE1, hD1, hi1⟩ := enter_mark hi
          have hlen1 : (w.alloc (.deferred (some []))).heap.size = w.heap.size + 1 := by simp
          obtain ⟨hE2, hL2, hi2⟩ := enter_loop (r := { state := .ready, pending := none, fn, tmps := a.tmps, params := ps, assign := as, body := bd, defers := w.heap.size }) hi1 (RelL_mono hE1.1 (fun _ _ h => h) _ _ (frame_of hf).2) ⟨rfl, rfl⟩ hp
          obtain ⟨d, hd1, hd2⟩ := run_rangeCall (w := (w.alloc (.deferred (some []))).alloc (.loop { state := .ready, pending := none, fn, tmps := a.tmps, params := ps, assign := as, body := bd, defers := w.heap.size })) (l := w.heap.size + 1) hfv hok
          rw [hlen1] at hE2 hL2 hi2
          refine ⟨w.heap.size + 1, [mkD w.heap.size], _, d, _, fh, _, _, run_enterLoop_outer fn a.tmps ps as bd, hd1, fun _ _ => trivial, hd2, fun h => (by cases h), ?_⟩
          have hE3 := hE1.trans hE2
          have hβj : (β ++ [yldV (w.heap.size + 1)])[hlen s.heap]? = some (yldV (w.heap.size + 1)) := by rw [hlen_eq, ← hi.len]; simp
          have hmark : Dok (loopPr (markPr Ψ w.heap.size) (w.heap.size + 1) a.tmps) { a with defers := [mkD w.heap.size] ++ a.defers } := by
            obtain ⟨ds, e, hn, hds⟩ := hDok
            refine ⟨w.heap.size :: ds, by simp [e], List.nodup_cons.2 ⟨fun hm => ?_, hn⟩, fun D hD => ?_⟩
            · have := prom_lt hi (hds _ hm)
              simp [dAddr] at this
            · rcases List.mem_cons.1 hD with rfl | hD
              · exact hE2.1 _ _ hD1
              · exact hE3.1 _ _ (hds D hD)
          have hS' : Same Ψ0 W a0 { a with defers := [mkD w.heap.size] ++ a.defers } := by
            obtain ⟨h1, ds, e, hds⟩ := hS
            refine ⟨h1, w.heap.size :: ds, by simp [e], fun D hD => ?_⟩
            rcases List.mem_cons.1 hD with rfl | hD
            · cases hx : Ψ0 (dAddr w.heap.size) with
              | none => rfl
              | some v =>
                have := prom_lt hi (hE.1 _ _ hx)
                simp [dAddr] at this
            · exact hds D hD
          refine callsIn_w none _ ((hc.2 fh _ _ _ hk hok B w0 _ _ (nameAct (w.heap.size + 1) :: { a with defers := [mkD w.heap.size] ++ a.defers } :: As) _ _ hi2 ?_ ⟨_, _, rfl, ⟨_, hβj, rfl⟩, RelL_mono hE3.1 (snoc_mono _) _ _ hcap⟩).mono ?_)
          · refine RelF_cons (nameFr hβj) (RelF_cons ⟨hmark, RelL_mono hE3.1 (snoc_mono _) _ _ (frame_of hf).2⟩ (RelF_mono hE3.1 (snoc_mono _) _ _ (below_of hf)))
          · rintro e w3 ⟨v, Ψ', β', av, s', rfl, hE', hi', hf', hv, hk'⟩
            exact range_end hk' ((hE.trans hE3).trans hE') hi' hf' hS'
        | some l0 =>
          have hpl := hi.prom _ _ (hE.1 _ _ (hro l0 rfl))
          obtain ⟨r0, hr0⟩ : ∃ r, w.heap[l0]? = some (.loop r) := hpl
          obtain ⟨hE2, hL2, hi2⟩ := enter_loop (r := { state := .ready, pending := none, fn, tmps := a.tmps, params := ps, assign := as, body := bd, defers := r0.defers }) hi (frame_of hf).2 ⟨rfl, rfl⟩ hp
          obtain ⟨d, hd1, hd2⟩ := run_rangeCall (w := w.alloc (.loop { state := .ready, pending := none, fn, tmps := a.tmps, params := ps, assign := as, body := bd, defers := r0.defers })) (l := w.heap.size) hfv hok
          refine ⟨w.heap.size, [], _, d, _, fh, _, _, run_enterLoop_inner hr0 fn a.tmps ps as bd, hd1, fun _ _ => trivial, hd2, fun h => (by cases h), ?_⟩
          have hβj : (β ++ [yldV w.heap.size])[hlen s.heap]? = some (yldV w.heap.size) := by rw [hlen_eq, ← hi.len]; simp
          refine callsIn_w (some l0) _ ((hc.2 fh _ _ _ hk hok B w0 _ _ (nameAct w.heap.size :: a :: As) _ _ hi2 ?_ ⟨_, _, rfl, ⟨_, hβj, rfl⟩, RelL_mono hE2.1 (snoc_mono _) _ _ hcap⟩).mono ?_)
          · refine RelF_cons (nameFr hβj) (RelF_cons ⟨Dok_mono hE2.1 hDok, RelL_mono hE2.1 (snoc_mono _) _ _ (frame_of hf).2⟩ (RelF_mono hE2.1 (snoc_mono _) _ _ (below_of hf)))
          · rintro e w3 ⟨v, Ψ', β', av, s', rfl, hE', hi', hf', hv, hk'⟩
            exact range_end (a := a) hk' ((hE.trans hE2).trans hE') hi' hf' hS
      · exact hk.elim
    · exact hk.elim
  | .loop body, p, k, s, Ψ0, Ψ, β, a0, a, w, W, hp, hk, hro, hE, hi, hf, hS, hW => by
    simp only [awp] at hk
    split at hk
    · rename_i r hr
      have tail : ∀ (as : List LA) {s : St} {Ψ : Pr} {β : List Value} {a : Act} {w : World}, aloop as (dsts body) (awp C call fid (0 :: p) body) k s → Ext B Ψ0 Ψ → InvH C.P B w0 Ψ β s.heap w → RelF Ψ β (s.top :: s.below) (a :: As) → Same Ψ0 W a0 a →
          LoopAt (Fw ro) 0 C.P body (QOf C B w0 Ψ0 As W a0 k) a w := by
        intro as s Ψ β a w hk hE hi hf hS
        unfold aloop at hk
        split at hk
        · exact hk.elim
        · rename_i x0 hx0
          split at hk
          · rename_i hfit
            obtain ⟨I, μ, hI0, hround⟩ := hk
            obtain ⟨β1, hi1, hf1⟩ := prepLAs_sound as hi hf
            generalize hs0 : prepLAs s as = s0 at *
            have hsl : ∀ i j, fget s0.top i = .sl j → j < s0.heap.length := by
              intro i j hij
              have h1 := RelL_get _ _ (frame_of hf1).2 i
              rw [hij] at h1
              rw [← hi1.len]
              rcases Nat.lt_or_ge j β1.length with h' | h'
              · exact h'
              · have h1 : β1[j]? = _ := h1.1
                rw [List.getElem?_eq_none h'] at h1; cases h1
            have hsc : ∀ k cs i j, hget s0.heap k = .cells cs → fget cs i = .sl j → j < s0.heap.length := by
              intro k cs i j hk hij
              obtain ⟨g, c, e, _, _, _, h4, _⟩ := hi1.blk k _ (hget_some hk (by simp))
              have h1 := RelL_get _ _ h4 i
              rw [hij] at h1
              rw [← hi1.len]
              rcases Nat.lt_or_ge j β1.length with h' | h'
              · exact h'
              · have h1 : β1[j]? = _ := h1.1
                rw [List.getElem?_eq_none h'] at h1; cases h1
            have hh0 : HeadR C B s0 (dsts body) as Ψ β1 a As := ⟨hi1.len, RelF_cons ⟨(frame_of hf1).1, forget_rel (frame_of hf1).2⟩ (noSlpF_rel (below_of hf1)), w, fun k b hb => by
              obtain ⟨b0, h1, h2⟩ := havocH_get hb
              rw [h2]
              exact havB_rel (hi1.blk k b0 h1)⟩
            obtain ⟨β2, hi2, hf2, hh2⟩ := fits_sound hh0 hsl hsc (PLe.refl _) hi1 hf1 ⟨rfl, fun _ _ => rfl⟩ hfit hx0
            refine loopAt_ghost (τ := dens (laTys as)) (fun x a w => I x ∧ ∃ Ψ β, Ext B Ψ0 Ψ ∧ InvH C.P B w0 Ψ β (tmpl s0 (dsts body) as x).heap w ∧ RelF Ψ β ((tmpl s0 (dsts body) as x).top :: (tmpl s0 (dsts body) as x).below) (a :: As) ∧ HeadR C B s0 (dsts body) as Ψ β a As ∧ Same Ψ0 W a0 a) μ x0
              ⟨hI0, Ψ, β2, hE, hi2, hf2, hh2, hS⟩ ?_
            rintro x ah wh ⟨hI, Ψh, βh, hEh, hih, hfh, hhh, hSh⟩
            refine wpIn_mono (awp_sound hsp hc fid body (by simp [codeAt, hp, childOf]) (hround x hI) (fun l hl => hEh.1 _ _ (hro l hl)) (Ext.refl B Ψh) hih hfh (Same.refl Ψh (dsts body) ah) fun t ht => ht) ?_
            have hWb : ∀ t ∈ dsts body, t ∈ W := fun t ht => hW t (by simpa [dsts] using ht)
            intro e a' w' hq
            cases e with
            | normal =>
              obtain ⟨Ψ', β', s', hE', hi', hf', hS', hk'⟩ := hq
              simp only at hk'
              split at hk'
              · rename_i x' hx'
                split at hk'
                · rename_i hfit'
                  obtain ⟨hI', hμ⟩ := hk'
                  obtain ⟨β3, hi3, hf3, hh3⟩ := fits_sound hhh hsl hsc hE'.1 hi' hf' hS'.1 hfit' hx'
                  exact ⟨x', ⟨hI', Ψ', β3, hEh.trans hE', hi3, hf3, hh3, hSh.trans hEh.1 (hS'.mono hWb)⟩, hμ⟩
                · exact hk'.elim
              · exact hk'.elim
            | exit _ =>
              obtain ⟨Ψ', β', s', hE', hi', hf', hS', hk'⟩ := hq
              exact ⟨Ψ', β', s', hEh.trans hE', hi', hf', hSh.trans hEh.1 (hS'.mono hWb), hk'⟩
            | ret =>
              obtain ⟨Ψ', β', s', hE', hi', hf', hS', hk'⟩ := hq
              exact ⟨Ψ', β', s', hEh.trans hE', hi', hf', hSh.trans hEh.1 (hS'.mono hWb), hk'⟩
            | goto _ => exact hq
            | panic _ => exact hq
            | outgrown => exact hq
          · exact hk.elim
      split at hk
      · obtain ⟨as, hk⟩ := pruneK_spec hk
        exact (tail as hk hE hi hf hS).wpIn
      · rename_i n
        split at hk
        · refine LoopAt.wpIn (LoopAt.peel (wpIn_mono (awp_sound hsp hc fid body (by simp [codeAt, hp, childOf]) hk hro hE hi hf hS fun t ht => hW t (by simpa [dsts] using ht)) ?_))
          intro e a' w' hq
          cases e with
          | normal =>
            obtain ⟨Ψ', β', s', hE', hi', hf', hS', hk'⟩ := hq
            obtain ⟨as, hk'⟩ := pruneK_spec hk'
            exact tail as hk' hE' hi' hf' hS'
          | exit _ => exact hq
          | ret => exact hq
          | goto _ => exact hq
          | panic _ => exact hq
          | outgrown => exact hq
        refine wpIn_loop_ghost (τ := Nat) (fun n a w => ∃ Ψ β s, Ext B Ψ0 Ψ ∧ InvH C.P B w0 Ψ β s.heap w ∧ RelF Ψ β (s.top :: s.below) (a :: As) ∧ Same Ψ0 W a0 a ∧ aunroll (awp C call fid (0 :: p) body) k n s) id _ ⟨Ψ, β, s, hE, hi, hf, hS, hk⟩ ?_
        rintro n ah wh ⟨Ψh, βh, sh, hEh, hih, hfh, hSh, hkh⟩
        cases n with
        | zero => exact hkh.elim
        | succ n =>
          refine wpIn_mono (awp_sound hsp hc fid body (by simp [codeAt, hp, childOf]) hkh hro hEh hih hfh hSh fun t ht => hW t (by simpa [dsts] using ht)) ?_
          intro e a' w' hq
          cases e with
          | normal =>
            obtain ⟨Ψ', β', s', hE', hi', hf', hS', hk'⟩ := hq
            exact ⟨n, ⟨Ψ', β', s', hE', hi', hf', hS', hk'⟩, Nat.lt_succ_self n⟩
          | exit _ => exact hq
          | ret => exact hq
          | goto _ => exact hq
          | panic _ => exact hq
          | outgrown => exact hq
    · exact hk.elim
  | .goto _, p, k, s, Ψ0, Ψ, β, a0, a, w, W, hp, hk, hro, hE, hi, hf, hS, hW => by simp [awp] at hk

end Go.AM
