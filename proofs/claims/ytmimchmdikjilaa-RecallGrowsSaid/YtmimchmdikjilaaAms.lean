import Derived.Test.YtmimchmdikjilaaAmo
namespace Go.AM
set_option linter.unusedVariables false
open Go.RowKit

variable {B : Nat} {w0 : World} {C : Ctx} {Ψ Ψ0 : Pr} {β : List Value} {h : List Blk} {w w' : World} {fr : List AV} {a a0 : Act} {As : List Act} {W : List Nat}

/-! ### The marks are taken off -/
mutual
theorem RelV_pl {Ψ : Pr} {β : List Value} : ∀ (av : AV) (v : Value), RelV Ψ β av v → RelV (plain Ψ) β av v
  | .junk, _, _ => trivial
  | .und, _, hr => hr
  | .tt, _, hr => hr
  | .ff, _, hr => hr
  | .d t x, _, ⟨cs, hc, e⟩ => ⟨cs, reads_plain t x cs hc, e⟩
  | .fs e xs, _, ⟨a, ea, cs, hc, e'⟩ => ⟨a, ea, cs, reads_plain (.arr e) xs cs hc, e'⟩
  | .nils, _, hr => hr
  | .agg cs, _, ⟨vs, e, hl, h1⟩ => ⟨vs, e, RelL_pl cs vs hl, h1⟩
  | .tup cs, _, ⟨vs, e, hl⟩ => ⟨vs, e, RelL_pl cs vs hl⟩
  | .fn _ cs, _, ⟨vs, e, hl⟩ => ⟨vs, e, RelL_pl cs vs hl⟩
  | .bnd _ cs, _, ⟨vs, e, hl⟩ => ⟨vs, e, RelL_pl cs vs hl⟩
  | .sv _ _ _ _, _, hr => hr
  | .nilf, _, hr => hr
  | .nilp, _, hr => hr
  | .own _ _, _, hr => hr
  | .sl _, _, hr => hr
  | .slp _ _ _, _, hr => hr
  | .rp t x, _, ⟨g, off, cs, e, hc, hp⟩ => ⟨g, off, cs, e, reads_plain t x cs hc, fun j u hj => plain_spec.2 ⟨rfl, hp j u hj⟩⟩
  | .yld _, _, hr => hr
theorem RelL_pl {Ψ : Pr} {β : List Value} : ∀ (cs : List AV) (vs : List Value), RelL Ψ β cs vs → RelL (plain Ψ) β cs vs
  | [], _, hr => hr
  | c :: cs, _, ⟨v, vs', e, hv, hl⟩ => ⟨v, vs', e, RelV_pl c v hv, RelL_pl cs vs' hl⟩
end

theorem RelL_of_plain {Ψ' : Pr} (hp : PLe (plain Ψ) Ψ') {cs : List AV} {vs : List Value} (hr : RelL Ψ β cs vs) : RelL Ψ' β cs vs := RelL_mono hp (fun _ _ h => h) _ _ (RelL_pl _ _ hr)
/-- The frames' marks stand as they stood. -/
theorem RelF_keep {Ψ1 Ψ' : Pr} {β0 β1 : List Value} (hle : PLe Ψ Ψ') (hp : PLe (plain Ψ1) Ψ') : ∀ {fs fs1 : List (List AV)} {as : List Act}, RelF Ψ β0 fs as → RelF Ψ1 β1 fs1 as → RelF Ψ' β1 fs1 as
  | [], [], _, h, h1 => h1
  | [], _ :: _, _, h, ⟨a, as', e, _⟩ => by
    have h : _ = [] := h
    rw [h] at e
    cases e
  | _ :: _, [], _, ⟨a, as', e, _⟩, h1 => by
    have h1 : _ = [] := h1
    rw [h1] at e
    cases e
  | f :: fs, f1 :: fs1, _, ⟨a, as', e, ⟨hd, _⟩, h3⟩, ⟨a1, as1, e1, ⟨_, hl⟩, h4⟩ => by
    rw [e] at e1
    simp only [List.cons.injEq] at e1
    obtain ⟨rfl, rfl⟩ := e1
    exact ⟨a, as', e, ⟨Dok_mono hle hd, RelL_of_plain hp hl⟩, RelF_keep hle hp h3 h4⟩

def takeAll (w : World) : List Nat → World
  | [] => w
  | D :: ds => takeAll (w.putObj D (.deferred none)) ds

theorem takeAll_spec : ∀ (ds : List Nat) (w : World), (takeAll w ds).os = w.os ∧ (takeAll w ds).tape = w.tape ∧ (takeAll w ds).output = w.output ∧ (takeAll w ds).heap.size = w.heap.size ∧ ∀ k, k ∉ ds → (takeAll w ds).heap[k]? = w.heap[k]?
  | [], w => ⟨rfl, rfl, rfl, rfl, fun _ _ => rfl⟩
  | D :: ds, w => by
    obtain ⟨h1, h2, h3, h4, h5⟩ := takeAll_spec ds (w.putObj D (.deferred none))
    refine ⟨h1, h2, h3, by rw [takeAll, h4]; simp, fun k hk => ?_⟩
    simp only [List.mem_cons, not_or] at hk
    rw [takeAll, h5 k hk.2, World.putObj_heap_other hk.1]

theorem leaves_marks {P : Program} {fn : Func} {tmps : Array Value} {R : Ending → World → Prop} : ∀ (ds : List Nat) {w : World}, (∀ D ∈ ds, w.heap[D]? = some (.deferred (some []))) → ds.Nodup →
    LeavesIn Fence.wide 0 P fn tmps R [] .returning (takeAll w ds) → LeavesInM Fence.wide 0 P fn tmps R (ds.map mkD) .returning w
  | [], w, _, _, hL => hL
  | D :: ds, w, hd, hn, hL => by
    obtain ⟨hD, hn⟩ := List.nodup_cons.1 hn
    refine ⟨by simp, .inl ⟨D, _, rfl, run_takeDeferred (hd D (by simp)), leaves_marks ds (fun D' hm => ?_) hn hL⟩⟩
    have hne : D' ≠ D := fun e => hD (by rw [← e]; exact hm)
    rw [World.putObj_heap_other hne]
    exact hd D' (by simp [hm])

/-- The promises without those of marks. -/
def unPr (Ψ : Pr) (ds : List Nat) : Pr := fun a => if a.spot = some 0 ∧ a.block ∈ ds then none else Ψ a

theorem unPr_le (Ψ : Pr) (ds : List Nat) {a : Addr} {v : Value} (h : unPr Ψ ds a = some v) : Ψ a = some v := by
  unfold unPr at h
  split at h
  · cases h
  · exact h

theorem cell?_deferred {a : Addr} {v : Value} {o : Option (List Deferred)} (h : w.heap[a.block]? = some (.deferred o)) (hc : w.cell? a = some v) : False := by
  unfold World.cell? at hc
  rw [h] at hc
  cases hc

theorem unmark {s : St} {x : Act} {ds : List Nat} {Ψ1 : Pr} {β0 : List Value} {fs0 : List (List AV)} (h0 : ∀ a v, Ψ a = some v → a.spot = some 0 → a.off = 0) (hi : InvH C.P B w0 Ψ1 β s.heap w) (hf : RelF Ψ1 β (s.top :: s.below) (x :: As)) (hf0 : RelF Ψ β0 fs0 As) (hE : Ext B Ψ Ψ1)
    (hd : x.defers = ds.map mkD) (hnew : ∀ D ∈ ds, Ψ (dAddr D) = none) :
    ∃ w2 Ψ2, (∀ fn tmps R, LeavesIn Fence.wide 0 C.P fn tmps R [] .returning w2 → LeavesInM Fence.wide 0 C.P fn tmps R x.defers .returning w) ∧ Ext B Ψ Ψ2 ∧ InvH C.P B w0 Ψ2 β s.heap w2 ∧ RelL Ψ2 β s.top x.tmps.toList ∧ RelF Ψ2 β s.below As := by
  obtain ⟨ds', hd', hnd, hprom⟩ := (frame_of hf).1
  have hds : ds = ds' := by
    rw [hd] at hd'
    exact (List.map_inj_right fun D D' e => by simpa [mkD] using e).1 hd'
  subst hds
  have hheap : ∀ D ∈ ds, w.heap[D]? = some (.deferred (some [])) := fun D hD => (hi.prom _ _ (hprom D hD)).2
  obtain ⟨s1, s2, s3, s4, s5⟩ := takeAll_spec ds w
  have hB : ∀ D ∈ ds, B ≤ D := fun D hD => hi.own _ _ (hprom D hD) (by simp [dAddr])
  have hpl : PLe (plain Ψ1) (unPr Ψ1 ds) := fun ad v hv => by
    obtain ⟨h1, h2⟩ := plain_spec.1 hv
    unfold unPr
    rw [if_neg (by rw [h1]; simp)]
    exact h2
  have hle : PLe Ψ (unPr Ψ1 ds) := fun ad v hv => by
    unfold unPr
    rw [if_neg]
    · exact hE.1 _ _ hv
    · rintro ⟨e1, e2⟩
      have e3 := h0 ad v hv e1
      have : ad = dAddr ad.block := by
        obtain ⟨b, o, sp⟩ := ad
        simp only at e1 e3
        subst e1
        subst e3
        rfl
      rw [this, hnew _ e2] at hv
      cases hv
  have hobj : ∀ {k : Nat} {b : Blk} {g : Nat}, s.heap[k]? = some b → claims β k g b → g ∉ ds := fun {k b g} hk hc hm => by
    have h1 := hheap g hm
    rcases claims_obj (hi.blk k b hk) hc with ⟨c, e, s, h2⟩ | ⟨ms, cl, h2⟩ | ⟨m, s, seen, c, h2⟩ | ⟨f, p, ph, ts, rfl⟩
    · rw [h1] at h2; cases h2
    · rw [h1] at h2; cases h2
    · rw [h1] at h2; cases h2
    · obtain ⟨l, r, g1, g2, _⟩ := hi.blk k _ hk
      have hc : β[k]? = some (yldV g) := hc
      rw [hc] at g1
      simp only [yldV, Option.some.injEq, Value.func.injEq, Fn.yield.injEq, and_true] at g1
      subst g1
      rw [h1] at g2
      cases g2
  refine ⟨takeAll w ds, unPr Ψ1 ds, fun fn tmps R hL => by rw [hd]; exact leaves_marks ds hheap hnd hL, ⟨hle, fun ad v hv => hE.2 ad v (unPr_le _ _ hv)⟩, ⟨?_, ?_, ?_, ?_, hi.len, hi.one, ?_, ?_, hi.sep⟩, RelL_of_plain hpl (frame_of hf).2, RelF_keep hle hpl hf0 (below_of hf)⟩
  · exact hi.low.trans ⟨s1, s2, s3, Nat.le_of_eq s4.symm, fun k hk => s5 k fun hm => by have := hB k hm; omega⟩
  · rw [s4]; exact hi.size
  · intro ad v hv
    have h1 := hi.prom _ _ (unPr_le _ _ hv)
    have hnm : ad.block ∉ ds := fun hm => by
      have h2 := hheap _ hm
      by_cases hs : ad.spot = none
      · exact cell?_deferred h2 (Pm_plain hs h1)
      · unfold unPr at hv
        split at hv
        · cases hv
        · rename_i hns
          unfold Pm at h1
          split at h1
          · rename_i e; exact hs e
          · rename_i e; exact hns ⟨e, hm⟩
          · obtain ⟨r, hr⟩ := h1; rw [h2] at hr; cases hr
          · obtain ⟨r, hr, _⟩ := h1; rw [h2] at hr; cases hr
          · obtain ⟨ms, cl, hr, _⟩ := h1; rw [h2] at hr; cases hr
          · exact h1
    exact Pm_of_block (s5 _ hnm) h1
  · exact fun ad v hv hs => hi.own ad v (unPr_le _ _ hv) hs
  · intro k b hk
    have hb := hi.blk k b hk
    cases b with
    | gone => trivial
    | cells cs =>
      obtain ⟨g, c, e, h1, h2, h3, h4, h5⟩ := hb
      exact ⟨g, c, e, h1, (s5 g (hobj hk h1)).trans h2, h3, RelL_of_plain hpl h4, h5⟩
    | grow tid e xs =>
      refine hb.imp id ?_
      rintro ⟨g, cap, cur, h1, h2, h3, h4, h5, h6, h7, h8⟩
      exact ⟨g, cap, cur, h1, h2, h3, (s5 g (hobj hk ⟨_, _, h2, h1⟩)).trans h4, h5, h6, h7, rdL_of_plain hpl h8⟩
    | kmap es =>
      obtain ⟨g, ms, cl, h1, h2, h3, h4⟩ := hb
      exact ⟨g, ms, cl, h1, (s5 g (hobj hk h1)).trans h2, h3, h4⟩
    | dmap e m =>
      obtain ⟨g, ms, cl, h1, h2, h3, h4, h5⟩ := hb
      exact ⟨g, ms, cl, h1, (s5 g (hobj hk h1)).trans h2, h3, mapR_of_plain hpl h4, h5⟩
    | diter e last left =>
      obtain ⟨g, gm, ms, cl, seen, h1, h2, h3, h4, h5, h6⟩ := hb
      refine ⟨g, gm, ms, cl, seen, h1, (s5 g (hobj hk h1)).trans h2, h3, ?_, mapR_of_plain hpl h5, h6.1, h6.2.1, h6.2.2.imp id fun ⟨p, x, s', a1, a2, a3, a4, a5, a6⟩ => ⟨p, x, s', a1, a2, a3, a4, a5, rv_of_plain hpl a6⟩⟩
      unfold unPr
      rw [if_neg (fun e => by have := e.1; simp [mAddr] at this)]
      exact h4
    | loop f p ph ts =>
      obtain ⟨l, r, h1, h2, h3, h4, h5, h6, h7, h8⟩ := hb
      have hn : ∀ ad v, ad.spot ≠ some 0 → Ψ1 ad = some v → unPr Ψ1 ds ad = some v := fun ad v hs hv => by
        unfold unPr
        rw [if_neg (fun e => hs e.1)]
        exact hv
      exact ⟨l, r, h1, (s5 l (hobj hk h1)).trans h2, h3, h4, RelL_of_plain hpl h5, hn _ _ (by simp [lAddr]) h6, fun i v hv => hn _ _ (by simp [tAddr]) (h7 i v hv), h8⟩
  · intro k b g hk hc ad had hsp
    cases hp : unPr Ψ1 ds ad with
    | none => rfl
    | some v => have := unPr_le _ _ hp; rw [hi.free k b g hk hc ad had hsp] at this; cases this

/-! ### One round -/
theorem setPs_rel : ∀ {ps : List Nat} {ts avs : List AV} {tmps : Array Value} {vs : List Value}, RelL Ψ β ts tmps.toList → RelL Ψ β avs vs → ps.length = vs.length →
    RelL Ψ β (setPs ts ps avs) ((ps.zip vs).foldl (fun tmps (p : Nat × Value) => tmps.setIfInBounds p.1 p.2) tmps).toList
  | [], ts, avs, tmps, vs, ht, _, _ => by simpa [setPs] using ht
  | p :: ps, ts, [], tmps, vs, ht, hv, hl => by
    simp only [RelL] at hv
    subst hv
    simp at hl
  | p :: ps, ts, av :: avs, tmps, _, ht, ⟨v, vs', e, hv, hvs⟩, hl => by
    subst e
    simp only [setPs, List.zip_cons_cons, List.foldl_cons]
    refine setPs_rel ?_ hvs (by simpa using hl)
    have := RelL_set hv _ _ p ht
    simpa using this

theorem round_end {e : Ex} {l j : Nat} {k : AV → St → Prop} {s2 : St} {x : Act} {Ψ2 : Pr} {β2 : List Value}
    (hk : match popped s2 with
      | none => False
      | some s3 => match named j s3 with
        | none => False
        | some s4 => match hget s4.heap j with
          | .loop _ _ .busy _ => match e with
            | .normal => k .tt { s4 with heap := setPh s4.heap j .ready }
            | e => k .ff { s4 with heap := setPh s4.heap j (.done e) }
          | _ => False)
    (hE : Ext B Ψ Ψ2) (hi : InvH C.P B w0 Ψ2 β2 s2.heap w) (hf : RelF Ψ2 β2 (s2.top :: s2.below) (x :: nameAct l :: As)) :
    ∃ v w', (Instr.endRound l (exCode e)).run C.P w = .ok v w' ∧ ∃ v' Ψ' β' av s', Ending.returned v = .returned v' ∧ Ext B Ψ Ψ' ∧ InvH C.P B w0 Ψ' β' s'.heap w' ∧ RelF Ψ' β' (s'.top :: s'.below) As ∧ RelV Ψ' β' av v' ∧ k av s' := by
  split at hk
  · exact hk.elim
  · rename_i s3 hpop
    obtain ⟨hh3, hf3⟩ := popped_sound hpop hf
    split at hk
    · exact hk.elim
    · rename_i s4 hn
      obtain ⟨hβ, hh4, hf4⟩ := named_sound hn hf3 rfl
      rw [← hh3, ← hh4] at hi
      split at hk
      · rename_i f p ts hg
        have hkk := hget_some hg (by simp)
        obtain ⟨l1, r, g1, g2, g3, g4, g5, g6⟩ := hi.blk _ _ hkk
        rw [hβ] at g1
        simp only [yldV, Option.some.injEq, Value.func.injEq, Fn.yield.injEq, and_true] at g1
        subst g1
        refine ⟨_, _, run_endRound (exCode e) g2, ?_⟩
        cases e with
        | normal => exact ⟨_, Ψ2, β2, .tt, { s4 with heap := setPh s4.heap j .ready }, rfl, hE, hi.setPh hkk hβ g2 rfl rfl rfl rfl ⟨rfl, rfl⟩, hf4, rfl, hk⟩
        | exit i => exact ⟨_, Ψ2, β2, .ff, { s4 with heap := setPh s4.heap j (.done (.exit i)) }, rfl, hE, hi.setPh hkk hβ g2 rfl rfl rfl rfl ⟨rfl, rfl⟩, hf4, rfl, hk⟩
        | ret => exact ⟨_, Ψ2, β2, .ff, { s4 with heap := setPh s4.heap j (.done .ret) }, rfl, hE, hi.setPh hkk hβ g2 rfl rfl rfl rfl ⟨rfl, rfl⟩, hf4, rfl, hk⟩
      · exact hk.elim

theorem listLen'_eq : ∀ l : List Nat, around.listLen' l = l.length
  | [] => rfl
  | _ :: l => by simp [around.listLen', listLen'_eq l]

theorem around_sound (hsp : SpecSound C) {call : CallT} (hc : CallSound C call) {j : Nat} {avs : List AV} {vs : List Value} {s : St} {k : AV → St → Prop} (hk : around C call j avs s k) (hi : InvH C.P B w0 Ψ β s.heap w) (hf : RelF Ψ β (s.top :: s.below) As) (hr : RelL Ψ β avs vs) :
    ∃ l r, β[j]? = some (yldV l) ∧ w.heap[l]? = some (.loop r) ∧ vs.length = r.params.size ∧
      RoundIn Fence.wide 0 C.P l r.fn ((r.params.zip vs.toArray).foldl (fun tmps (t, a) => tmps.setIfInBounds t a) r.tmps) r.assign r.body w
        fun e w' => ∃ v Ψ' β' av s', e = .returned v ∧ Ext B Ψ Ψ' ∧ InvH C.P B w0 Ψ' β' s'.heap w' ∧ RelF Ψ' β' (s'.top :: s'.below) As ∧ RelV Ψ' β' av v ∧ k av s' := by
  unfold around at hk
  split at hk
  · rename_i f p ts hg
    have hkk := hget_some hg (by simp)
    obtain ⟨l, r, g1, g2, g3, g4, g5, g6, g7, g, g8⟩ := hi.blk _ _ hkk
    split at hk
    · rename_i g' ps as bd hcode
      rw [g8] at hcode
      simp only [Option.some.injEq, Code.rangeFunc.injEq] at hcode
      obtain ⟨rfl, rfl, rfl, rfl⟩ := hcode
      split at hk
      · rename_i hlen
        simp only [Nat.beq_eq, listLen_eq, listLen'_eq] at hlen
        have hvl : vs.length = r.params.size := by rw [RelL_len _ _ hr, hlen]; simp
        refine ⟨l, r, g1, g2, hvl, roundIn_of_wpIn trivial ?_⟩
        have hzip : ((r.params.zip vs.toArray).foldl (fun tmps (t, a) => tmps.setIfInBounds t a) r.tmps) = (r.params.toList.zip vs).foldl (fun tmps (p : Nat × Value) => tmps.setIfInBounds p.1 p.2) r.tmps := by
          rw [← Array.foldl_toList, Array.toList_zip]
        rw [hzip]
        have hfr : RelF Ψ β (setPs ts r.params.toList avs :: [.yld j] :: s.top :: s.below) ({ tmps := (r.params.toList.zip vs).foldl (fun tmps (p : Nat × Value) => tmps.setIfInBounds p.1 p.2) r.tmps, defers := [] } :: nameAct l :: As) :=
          RelF_cons ⟨⟨[], rfl, List.nodup_nil, by simp⟩, setPs_rel g5 hr (by simpa using hvl.symm)⟩ (RelF_cons (nameFr g1) hf)
        refine wpIn_mono (awp_sound (ro := some l) (Ψ0 := Ψ) (W := dsts r.assign) hsp hc f r.assign (p := 0 :: p) (by simp [codeAt, g8, childOf]) hk (fun l' hl => by cases hl; exact g6) (Ext.refl B Ψ) hi hfr (Same.refl _ _ _) fun _ h => h) ?_
        intro e a1 w1 hq
        cases e with
        | normal =>
          obtain ⟨Ψ1, β1, s1, hE1, hi1, hf1, hS1, hk1⟩ := hq
          simp only at hk1
          split at hk1
          · rename_i hnb
            have hβ1 := namedB_sound hnb hf1 rfl
            split at hk1
            · rename_i f' p' ts' hg1
              have hkk1 := hget_some hg1 (by simp)
              obtain ⟨l1, r1, b1, b2, b3, b4, b5⟩ := hi1.blk _ _ hkk1
              rw [hβ1] at b1
              simp only [yldV, Option.some.injEq, Value.func.injEq, Fn.yield.injEq, and_true] at b1
              subst b1
              refine ⟨_, run_beginRound b2 b4.1, ?_⟩
              have hi2 := hi1.setPh (ph' := .busy) (r' := { r1 with state := .busy }) hkk1 hβ1 b2 rfl rfl rfl rfl rfl
              refine wpIn_mono (awp_sound (ro := some l) (Ψ0 := Ψ1) (W := dsts r.body) (a0 := a1) hsp hc f r.body (p := 1 :: p) (s := { s1 with heap := setPh s1.heap j .busy }) (by simp [codeAt, g8, childOf]) hk1 (fun l' hl => by cases hl; exact hE1.1 _ _ g6) (Ext.refl B Ψ1) hi2 hf1 (Same.refl _ _ _) fun _ h => h) ?_
              intro e a2 w2 hq2
              cases e with
              | normal =>
                obtain ⟨Ψ2, β2, s2, hE2, hi3, hf2, _, hk2⟩ := hq2
                exact round_end (e := .normal) hk2 (hE1.trans hE2) hi3 hf2
              | exit i =>
                obtain ⟨Ψ2, β2, s2, hE2, hi3, hf2, _, hk2⟩ := hq2
                exact round_end (e := .exit i) hk2 (hE1.trans hE2) hi3 hf2
              | ret =>
                obtain ⟨Ψ2, β2, s2, hE2, hi3, hf2, _, hk2⟩ := hq2
                exact round_end (e := .ret) hk2 (hE1.trans hE2) hi3 hf2
              | goto _ => exact hq2.elim
              | panic _ => exact hq2.elim
              | outgrown => exact hq2.elim
            · exact hk1.elim
          · exact hk1.elim
        | exit _ => obtain ⟨_, _, _, _, _, _, _, hk'⟩ := hq; exact hk'
        | ret => obtain ⟨_, _, _, _, _, _, _, hk'⟩ := hq; exact hk'
        | goto _ => exact hq
        | panic _ => exact hq
        | outgrown => exact hq
      · exact hk.elim
    · exact hk.elim
  · exact hk.elim

end Go.AM
