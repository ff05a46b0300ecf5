import Derived.Test.YtmimchmdikjilaaAmn
namespace Go.AM
set_option linter.unusedVariables false
open Go.RowKit

variable {B : Nat} {w0 : World} {C : Ctx} {Ψ Ψ0 : Pr} {β : List Value} {h : List Blk} {w w' : World} {fr : List AV} {a a0 : Act} {As : List Act} {W : List Nat}

/-! ### Ranges over functions: the record -/
theorem BlkR_le {P : Program} {Ψ' : Pr} (hb : Below w.heap.size w w') (hle : PLe Ψ Ψ') {k : Nat} {b : Blk} (h : BlkR P B Ψ β w k b) : BlkR P B Ψ' β w' k b := by
  cases b with
  | gone => trivial
  | cells cs =>
    obtain ⟨g, c, e, h1, h2, h3, h4, h5⟩ := h
    exact ⟨g, c, e, h1, (hb.block g (heap_lt h2)).trans h2, h3, RelL_mono hle (fun _ _ h => h) _ _ h4, h5⟩
  | grow tid e xs =>
    refine h.imp id ?_
    rintro ⟨g, cap, cur, h1, h2, h3, h4, h5, h6, h7, h8⟩
    exact ⟨g, cap, cur, h1, h2, h3, (hb.block g (heap_lt h4)).trans h4, h5, h6, h7, rdL_mono (reads_mono hle e) _ _ h8⟩
  | kmap es =>
    obtain ⟨g, ms, cl, h1, h2, h3, h4⟩ := h
    exact ⟨g, ms, cl, h1, (hb.block g (heap_lt h2)).trans h2, h3, h4⟩
  | dmap e m =>
    obtain ⟨g, ms, cl, h1, h2, h3, h4, h5⟩ := h
    exact ⟨g, ms, cl, h1, (hb.block g (heap_lt h2)).trans h2, h3, mapR_mono hle h4, h5⟩
  | diter e last left =>
    obtain ⟨g, gm, ms, cl, seen, h1, h2, h3, h4, h5, h6⟩ := h
    exact ⟨g, gm, ms, cl, seen, h1, (hb.block g (heap_lt h2)).trans h2, h3, hle _ _ h4, mapR_mono hle h5, h6.1, h6.2.1, h6.2.2.imp id fun ⟨p, x, s', a1, a2, a3, a4, a5, a6⟩ => ⟨p, x, s', a1, a2, a3, a4, a5, rv_le hle a6⟩⟩
  | loop f p ph ts =>
    obtain ⟨l, r, h1, h2, h3, h4, h5, h6, h7, h8⟩ := h
    exact ⟨l, r, h1, (hb.block l (heap_lt h2)).trans h2, h3, h4, RelL_mono hle (fun _ _ h => h) _ _ h5, hle _ _ h6, fun i v hv => hle _ _ (h7 i v hv), h8⟩

/-- Promises of whatever kind, of what is new. -/
theorem InvH.stepP {Ψ' : Pr} (hi : InvH C.P B w0 Ψ β h w) (hb : Below w.heap.size w w') (hle : PLe Ψ Ψ') (hnew : ∀ a v, Ψ' a = some v → Ψ a = some v ∨ (w.heap.size ≤ a.block ∧ Pm w' a v)) : InvH C.P B w0 Ψ' β h w' where
  low := hi.low.trans (hb.mono hi.size)
  size := Nat.le_trans hi.size hb.size
  prom := fun a v hv => by
    rcases hnew a v hv with h' | ⟨_, h1⟩
    · have h1 := hi.prom a v h'
      exact Pm_of_block (hb.block a.block (Pm_lt h1)) h1
    · exact h1
  own := fun a v hv hsp => by
    rcases hnew a v hv with h' | ⟨h1, h2⟩
    · exact hi.own a v h' hsp
    · exact Nat.le_trans hi.size h1
  len := hi.len
  one := hi.one
  blk := fun k b hk => BlkR_le hb hle (hi.blk k b hk)
  free := fun k b g hk hc a ha hsp => by
    cases hp : Ψ' a with
    | none => rfl
    | some v =>
      rcases hnew a v hp with h' | ⟨h1, _⟩
      · rw [hi.free k b g hk hc a ha hsp] at h'; cases h'
      · have := (claims_lt (hi.blk k b hk) hc).2
        omega
  sep := hi.sep

theorem InvH.pushG {b : Blk} {u : Value} (hi : InvH C.P B w0 Ψ β h w) (hone : u.oneCell' = true) (hnew : BlkR C.P B Ψ (β ++ [u]) w h.length b)
    (hfree : ∀ g, claims (β ++ [u]) h.length g b → ∀ a, a.block = g → pl a → Ψ a = none) (hsep : ∀ g, claims (β ++ [u]) h.length g b → ∀ j bj, h[j]? = some bj → claims β j g bj → False) :
    InvH C.P B w0 Ψ (β ++ [u]) (h ++ [b]) w := by
  have lt : ∀ {k : Nat} {b : Blk}, h[k]? = some b → k < β.length := fun {k b} hk => by rw [hi.len]; exact hget_lt hk
  refine ⟨hi.low, hi.size, hi.prom, hi.own, by simp [hi.len], ?_, ?_, ?_, ?_⟩
  · intro k v hk
    rcases getElem?_snoc hk with h1 | ⟨_, rfl⟩
    · exact hi.one k v h1
    · exact hone
  · intro k b' hk
    rcases getElem?_snoc hk with h1 | ⟨rfl, rfl⟩
    · exact BlkR_snoc u (hi.blk k b' h1)
    · exact hnew
  · intro k b' g hk hc ad had hsp
    rcases getElem?_snoc hk with h1 | ⟨rfl, rfl⟩
    · exact hi.free k b' g h1 (claims_snoc (lt h1) hc) ad had hsp
    · exact hfree g hc ad had hsp
  · intro j k bj bk g hjk hj hk hcj hck
    rcases getElem?_snoc hj with h1 | ⟨e1, rfl⟩ <;> rcases getElem?_snoc hk with h2 | ⟨e2, rfl⟩
    · exact hi.sep j k bj bk g hjk h1 h2 (claims_snoc (lt h1) hcj) (claims_snoc (lt h2) hck)
    · subst e2
      exact hsep g hck j bj h1 (claims_snoc (lt h1) hcj)
    · subst e1
      exact hsep g hcj k bk h2 (claims_snoc (lt h2) hck)
    · omega

def loopPr (Ψ : Pr) (l : Nat) (tmps : Array Value) : Pr := fun a => if a.block = l then (if a = lAddr l then some undef else if a.spot = some 2 then tmps[a.off]? else none) else Ψ a
def markPr (Ψ : Pr) (D : Nat) : Pr := fun a => if a = dAddr D then some undef else Ψ a

theorem prom_lt (hi : InvH C.P B w0 Ψ β h w) {a : Addr} {v : Value} (hv : Ψ a = some v) : a.block < w.heap.size := Pm_lt (hi.prom a v hv)

theorem heap_alloc_self (w : World) (o : Obj) : (w.alloc o).heap[w.heap.size]? = some o := World.alloc_heap_new w o

theorem enter_mark (hi : InvH C.P B w0 Ψ β h w) : Ext B Ψ (markPr Ψ w.heap.size) ∧ markPr Ψ w.heap.size (dAddr w.heap.size) = some undef ∧ InvH C.P B w0 (markPr Ψ w.heap.size) β h (w.alloc (.deferred (some []))) := by
  have hle : PLe Ψ (markPr Ψ w.heap.size) := fun ad v hv => by
    unfold markPr
    rw [if_neg]
    · exact hv
    · rintro rfl
      have := prom_lt hi hv
      simp [dAddr] at this
  refine ⟨⟨hle, fun ad v hv => ?_⟩, by simp [markPr], hi.stepP ((Below.refl _ w).alloc (Nat.le_refl _) _) hle fun ad v hv => ?_⟩
  · unfold markPr at hv
    split at hv
    · rename_i e; subst e; exact .inr hi.size
    · exact .inl hv
  · unfold markPr at hv
    split at hv
    · rename_i e
      subst e
      exact .inr ⟨Nat.le_refl _, rfl, heap_alloc_self w _⟩
    · exact .inl hv

theorem enter_loop {f : FuncId} {p : List Nat} {ts : List AV} {r : Loop} {g : Operand} (hi : InvH C.P B w0 Ψ β h w) (hl : RelL Ψ β ts r.tmps.toList) (hph : r.state = .ready ∧ r.pending = none) (hcode : codeAt C.P f p = some (.rangeFunc g r.params r.assign r.body)) :
    Ext B Ψ (loopPr Ψ w.heap.size r.tmps) ∧ loopPr Ψ w.heap.size r.tmps (lAddr w.heap.size) = some undef ∧
      InvH C.P B w0 (loopPr Ψ w.heap.size r.tmps) (β ++ [yldV w.heap.size]) (h ++ [.loop f p .ready ts]) (w.alloc (.loop r)) := by
  have hle : PLe Ψ (loopPr Ψ w.heap.size r.tmps) := fun ad v hv => by
    unfold loopPr
    rw [if_neg]
    · exact hv
    · intro e
      have := prom_lt hi hv
      omega
  have hla : loopPr Ψ w.heap.size r.tmps (lAddr w.heap.size) = some undef := by simp [loopPr, lAddr]
  have hi1 : InvH C.P B w0 (loopPr Ψ w.heap.size r.tmps) β h (w.alloc (.loop r)) := hi.stepP ((Below.refl _ w).alloc (Nat.le_refl _) _) hle fun ad v hv => by
    unfold loopPr at hv
    split at hv
    · rename_i e
      refine .inr ⟨by omega, ?_⟩
      have hh : (w.alloc (.loop r)).heap[ad.block]? = some (.loop r) := by rw [e]; exact heap_alloc_self w _
      split at hv
      · rename_i e2
        subst e2
        exact ⟨r, hh⟩
      · split at hv
        · rename_i e2
          unfold Pm
          rw [e2]
          exact ⟨r, hh, hv⟩
        · cases hv
    · exact .inl hv
  refine ⟨⟨hle, fun ad v hv => ?_⟩, hla, ?_⟩
  · unfold loopPr at hv
    split at hv
    · rename_i e; exact .inr (by rw [e]; exact hi.size)
    · exact .inl hv
  have hn : (β ++ [yldV w.heap.size])[h.length]? = some (yldV w.heap.size) := by rw [← hi.len]; simp
  refine hi1.pushG rfl ⟨w.heap.size, r, hn, heap_alloc_self w _, hi.size, hph, RelL_mono hle (snoc_mono _) _ _ hl, hla, fun i v hv => ?_, g, hcode⟩ (fun g' hc ad had hsp => ?_) (fun g' hc j bj hj hcj => ?_)
  · have : tAddr w.heap.size i ≠ lAddr w.heap.size := by simp [tAddr, lAddr]
    simp [loopPr, this]
    simp [tAddr]
    exact hv
  · simp only [claims] at hc
    rw [hn] at hc
    simp only [yldV, Option.some.injEq, Value.func.injEq, Fn.yield.injEq, and_true] at hc
    subst hc
    unfold loopPr
    rw [if_pos had, if_neg, if_neg]
    · rcases hsp with hsp | hsp <;> rw [hsp] <;> simp
    · rintro rfl; rcases hsp with hsp | hsp <;> simp [lAddr] at hsp
  · simp only [claims] at hc
    rw [hn] at hc
    simp only [yldV, Option.some.injEq, Value.func.injEq, Fn.yield.injEq, and_true] at hc
    subst hc
    have := (claims_lt (hi.blk j bj hj) hcj).2
    omega

theorem hget_of : ∀ {h : List Blk} {j : Nat} {b : Blk}, h[j]? = some b → hget h j = b
  | [], _, _, hb => by simp at hb
  | b0 :: h, 0, _, hb => by simpa [hget] using hb
  | b0 :: h, j + 1, _, hb => by simpa [hget] using hget_of (h := h) (j := j) (by simpa using hb)

/-- The record's phase turns. -/
theorem InvH.setPh {k l : Nat} {f : FuncId} {p : List Nat} {ph ph' : Ph} {ts : List AV} {r r' : Loop} (hi : InvH C.P B w0 Ψ β h w) (hk : h[k]? = some (.loop f p ph ts)) (hβ : β[k]? = some (yldV l)) (hh : w.heap[l]? = some (.loop r))
    (h1 : r'.tmps = r.tmps) (h2 : r'.params = r.params) (h3 : r'.assign = r.assign) (h4 : r'.body = r.body) (hph : phOk ph' r') : InvH C.P B w0 Ψ β (setPh h k ph') (w.putObj l (.loop r')) := by
  have e : Go.AM.setPh h k ph' = h.set k (.loop f p ph' ts) := by
    unfold Go.AM.setPh
    rw [hget_of hk]
    exact hset_eq _ _ _
  rw [e]
  have hlt := heap_lt hh
  refine hi.rewriteL (g := l) hk hβ ⟨rfl, rfl, rfl, by simp, fun i _ hne => World.putObj_heap_other (fun e => hne (by rw [e]))⟩ (fun ad v hv hb => ?_) (fun _ hc => hc) ?_
  · have hp := hi.prom ad v hv
    have hn : ad.spot ≠ none := fun hs => by rw [hi.free k _ l hk hβ ad hb (.inl hs)] at hv; cases hv
    have hnew : (w.putObj l (.loop r')).heap[ad.block]? = some (.loop r') := by rw [hb]; exact World.putObj_heap_same hlt
    have hold : w.heap[ad.block]? = some (.loop r) := by rw [hb]; exact hh
    unfold Pm at hp ⊢
    split
    · rename_i h0; exact absurd h0 hn
    · rename_i h0; rw [h0] at hp; simp only at hp; rw [hold] at hp; cases hp.2
    · exact ⟨r', hnew⟩
    · rename_i h0
      rw [h0] at hp
      obtain ⟨r1, g1, g2⟩ := hp
      rw [hold] at g1
      simp only [Option.some.injEq, Obj.loop.injEq] at g1
      subst g1
      exact ⟨r', hnew, by rw [h1]; exact g2⟩
    · rename_i h0; rw [h0] at hp; obtain ⟨ms, cl, g1, _⟩ := hp; rw [hold] at g1; cases g1
    · rename_i q1 q2 q3 q4 q5
      rcases hsx : ad.spot with _ | n
      · exact hn hsx
      · rw [hsx] at hp
        match n, hp, hsx with
        | 0, _, hsx => exact q2 hsx
        | 1, _, hsx => exact q3 hsx
        | 2, _, hsx => exact q4 hsx
        | 3, _, hsx => exact q5 hsx
        | n + 4, hp, _ => exact hp
  · obtain ⟨l1, r1, g1, g2, g3, g4, g5, g6, g7, g8⟩ := hi.blk k _ hk
    rw [hβ] at g1
    simp only [yldV, Option.some.injEq, Value.func.injEq, Fn.yield.injEq, and_true] at g1
    subst g1
    rw [hh] at g2
    simp only [Option.some.injEq, Obj.loop.injEq] at g2
    subst g2
    exact ⟨l, r', hβ, World.putObj_heap_same hlt, g3, hph, by rw [h1]; exact g5, g6, fun i v hv => g7 i v (by rw [← h1]; exact hv), by rw [h2, h3, h4]; exact g8⟩

/-- The frame that names a loop is taken off. -/
theorem named_sound {j l : Nat} {s s1 : St} {x : Act} {As : List Act} (hn : named j s = some s1) (hf : RelF Ψ β (s.top :: s.below) (x :: As)) (hx : x.tmps = #[yldV l]) : β[j]? = some (yldV l) ∧ s1.heap = s.heap ∧ RelF Ψ β (s1.top :: s1.below) As := by
  unfold named at hn
  split at hn
  · rename_i i hi
    split at hn
    · rename_i hij
      simp only [Nat.beq_eq] at hij
      subst hij
      unfold popped at hn
      split at hn
      · rename_i f fs hb
        simp only [Option.some.injEq] at hn
        subst hn
        obtain ⟨a1, as', e, ⟨_, hl⟩, h3⟩ := hf
        simp only [List.cons.injEq] at e
        obtain ⟨rfl, rfl⟩ := e
        rw [hi, hx] at hl
        obtain ⟨v, vs, e, ⟨l', hv, rfl⟩, _⟩ := hl
        simp only [List.cons.injEq] at e
        obtain ⟨e, _⟩ := e
        simp only [yldV, Value.func.injEq, Fn.yield.injEq, and_true] at e
        subst e
        rw [hb] at h3
        exact ⟨hv, rfl, h3⟩
      · cases hn
    · cases hn
  · cases hn

theorem namedB_sound {j l : Nat} {s : St} {x y : Act} {As : List Act} (hn : namedB j s = true) (hf : RelF Ψ β (s.top :: s.below) (y :: x :: As)) (hx : x.tmps = #[yldV l]) : β[j]? = some (yldV l) := by
  unfold namedB at hn
  split at hn
  · rename_i i fs hb
    simp only [Nat.beq_eq] at hn
    subst hn
    rw [hb] at hf
    obtain ⟨a1, as', e, _, a2, as'', e2, ⟨_, hl⟩, _⟩ := hf
    simp only [List.cons.injEq] at e
    obtain ⟨rfl, rfl⟩ := e
    simp only [List.cons.injEq] at e2
    obtain ⟨rfl, rfl⟩ := e2
    rw [hx] at hl
    obtain ⟨v, vs, e, ⟨l', hv, rfl⟩, _⟩ := hl
    simp only [List.cons.injEq] at e
    obtain ⟨e, _⟩ := e
    simp only [yldV, Value.func.injEq, Fn.yield.injEq, and_true] at e
    subst e
    exact hv
  · cases hn

theorem popped_sound {s s1 : St} {x : Act} {As : List Act} (hn : popped s = some s1) (hf : RelF Ψ β (s.top :: s.below) (x :: As)) : s1.heap = s.heap ∧ RelF Ψ β (s1.top :: s1.below) As := by
  unfold popped at hn
  split at hn
  · rename_i f fs hb
    simp only [Option.some.injEq] at hn
    subst hn
    obtain ⟨a1, as', e, _, h3⟩ := hf
    simp only [List.cons.injEq] at e
    obtain ⟨rfl, rfl⟩ := e
    rw [hb] at h3
    exact ⟨rfl, h3⟩
  · cases hn

/-- The act of the frame that names a loop. -/
def nameAct (l : Nat) : Act := { tmps := #[yldV l], defers := [] }
theorem nameFr {j l : Nat} (hβ : β[j]? = some (yldV l)) : RelFr Ψ β [.yld j] (nameAct l) := ⟨⟨[], rfl, List.nodup_nil, by simp⟩, _, [], rfl, ⟨l, hβ, rfl⟩, rfl⟩

/-! ### A scope -/
theorem stepR_scope {P : Program} {b : Frame} {k : List Item} {cs : List Frame} {c : Code} : step P (lone (b.atR a (.code (.scope c) :: k)) cs w) = .next (lone (b.atR a (.code c :: .inScope c :: k)) cs w) :=
  step_lone_go (by simp [stepG, stepG.exec, Frame.atR])
theorem stepR_inScope {P : Program} {b : Frame} {k : List Item} {cs : List Frame} {c : Code} : step P (lone (b.atR a (.inScope c :: k)) cs w) = .next (lone (b.atR a k) cs w) :=
  step_lone_go (by simp [stepG, stepG.exec, Frame.atR])

theorem wpIn_scope_straight {F : Fence} {n : Nat} {P : Program} {Q : Exit → Act → World → Prop} {c : Code} (h : c.wpIn F n P (Exit.noGoto Q) a w) : (Code.scope c).wpIn F n P Q a w := by
  intro b k cs hro hb hr
  have h0 : (lone (b.atR a (.code (.scope c) :: k)) cs w).fenced P F := fenced_calm hb hr rfl
  obtain ⟨e, a₁, w₁, hq, harr⟩ := h b (.inScope c :: k) cs hro hb hr
  cases e with
  | normal => exact ⟨.normal, a₁, w₁, hq, .head h0 stepR_scope (StepsIn.trans harr (.one (fenced_calm hb hr rfl) stepR_inScope))⟩
  | exit id =>
    have hx : exitTo id (.inScope c :: k) = exitTo id k := by simp [exitTo]
    exact ⟨.exit id, a₁, w₁, hq, fun k' hk => .head h0 stepR_scope (harr.1 k' (by rw [hx]; exact hk)),
      fun hr' hk => let ⟨k₁, h1, h2⟩ := harr.2 hr' (by rw [hx]; exact hk); ⟨k₁, h1, .head h0 stepR_scope h2⟩⟩
  | goto l => exact hq.elim
  | ret => exact ⟨_, a₁, w₁, hq, .of_steps (.one h0 stepR_scope) harr⟩
  | panic ch => exact ⟨_, a₁, w₁, hq, .of_steps (.one h0 stepR_scope) harr⟩
  | outgrown => exact ⟨_, a₁, w₁, hq, .of_steps (.one h0 stepR_scope) harr⟩

end Go.AM
