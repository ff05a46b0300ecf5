import Derived.Test.YtmimchmdikjilaaAms
namespace Go.AM
set_option linter.unusedVariables false
open Go.RowKit

variable {B : Nat} {w0 : World} {C : Ctx} {Ψ Ψ0 : Pr} {β : List Value} {h : List Blk} {w w' : World} {fr : List AV} {a a0 : Act} {As : List Act} {W : List Nat}

theorem contract_sound {sp : FSpec} {f : FuncId} {avs : List AV} {vs : List Value} {s : St} {k : AV → St → Prop} (hS : Sat C.P f sp) (hk : contract sp avs s k) (hi : InvH C.P B w0 Ψ β s.heap w) (hf : RelF Ψ β (s.top :: s.below) As) (hr : RelL Ψ β avs vs) :
    Calls C.P f vs.toArray w fun e w' => ∃ v Ψ' β' av s', e = .returned v ∧ Ext B Ψ Ψ' ∧ InvH C.P B w0 Ψ' β' s'.heap w' ∧ RelF Ψ' β' (s'.top :: s'.below) As ∧ RelV Ψ' β' av v ∧ k av s' := by
  unfold contract at hk
  split at hk
  · exact hk.elim
  · rename_i x hd
    obtain ⟨hpre, hk⟩ := hk
    split at hk
    · rename_i hfl
      refine (contract_call hS hi hr hd hpre (.inl hfl)).mono ?_
      rintro e w' ⟨v, Ψ', rfl, hst, hv⟩
      exact ⟨v, Ψ', β, _, s, rfl, hst.ext hi.size, hi.step hst, RelF_mono hst.le (fun _ _ h => h) _ _ hf, hv, hk⟩
    · obtain ⟨Ψ1, hE1, hi1, hf1, hr1⟩ := freezeAll_sound (refsA avs) hi hf
      have hrel := asDs_rel hE1.1 hd hr hr1
      refine (hS (plain Ψ1) w x vs (plain_prom hi1) (outs_plain hrel) hpre).mono ?_
      rintro e w' ⟨v, Ψ', rfl, hb, hle, hnew, hv⟩
      have hst : Step Ψ1 w (joinP Ψ1 Ψ') w' := joinP_step hb hle hnew
      exact ⟨v, _, β, _, _, rfl, hE1.trans (hst.ext hi.size), hi1.step hst, RelF_mono hst.le (fun _ _ h => h) _ _ hf1, RelV_mono (plain_joinP Ψ1 Ψ') (fun k v h => by simp at h) _ _ (outV_plain hv), hk⟩

theorem contractG_sound {g : GSpec} {f : FuncId} {avs : List AV} {vs px : List Value} {s : St} {k : AV → St → Prop} (hS : SatGp C.P f px g) (hk : contractG g avs s k) (hi : InvH C.P B w0 Ψ β s.heap w) (hf : RelF Ψ β (s.top :: s.below) As) (hr : RelL Ψ β avs vs) :
    Calls C.P f (px ++ vs).toArray w fun e w' => ∃ v Ψ' β' av s', e = .returned v ∧ Ext B Ψ Ψ' ∧ InvH C.P B w0 Ψ' β' s'.heap w' ∧ RelF Ψ' β' (s'.top :: s'.below) As ∧ RelV Ψ' β' av v ∧ k av s' := by
  unfold contractG at hk
  split at hk
  · exact hk.elim
  · rename_i x hd
    obtain ⟨hpre, hk⟩ := hk
    obtain ⟨Ψ1, hE1, hi1, hf1, hr1⟩ := freezeAll_sound (refsA avs) hi hf
    have hrel := asDs_rel hE1.1 hd hr hr1
    refine (fresh_core hS hi1 hrel hpre).mono ?_
    rintro e w' ⟨v, Ψ', rfl, hst, hnh, hi2⟩
    exact ⟨v, Ψ', β ++ [v], .sl (hlen (s.freezeAll (refsA avs)).heap), { s.freezeAll (refsA avs) with heap := (s.freezeAll (refsA avs)).heap ++ [.grow g.tid g.e (g.post x)] }, rfl, hE1.trans (hst.ext hi1.size), hi2, RelF_mono hst.le (snoc_mono v) _ _ hf1, by
      refine ⟨?_, hnh⟩
      rw [hlen_eq, ← hi1.len]
      simp, hk⟩

theorem growAt1 {tid : TypeId} {e : Ty} {xs : List e.den} {j : Nat} {v : Value} (hβ : β[j]? = some v) (hb : BlkR C.P B Ψ β w j (.grow tid e xs)) : BlkR C.P B Ψ [v] w 0 (.grow tid e xs) := by
  unfold BlkR at *
  rw [hβ] at hb
  exact hb
theorem grow_back {tid : TypeId} {e : Ty} {xs : List e.den} {j : Nat} {v : Value} (hβ : β[j]? = some v) (hb : BlkR C.P B Ψ [v] w 0 (.grow tid e xs)) : BlkR C.P B Ψ β w j (.grow tid e xs) := by
  unfold BlkR at *
  rw [hβ]
  exact hb
theorem asort_sound {g : SSpec} {f : FuncId} {avs : List AV} {vs : List Value} {s : St} {k : AV → St → Prop} (hS : SatS C.P f g) (hk : asort g avs s k) (hi : InvH C.P B w0 Ψ β s.heap w) (hf : RelF Ψ β (s.top :: s.below) As) (hr : RelL Ψ β avs vs) :
    Calls C.P f vs.toArray w fun e w' => ∃ v Ψ' β' av s', e = .returned v ∧ Ext B Ψ Ψ' ∧ InvH C.P B w0 Ψ' β' s'.heap w' ∧ RelF Ψ' β' (s'.top :: s'.below) As ∧ RelV Ψ' β' av v ∧ k av s' := by
  unfold asort at hk
  split at hk
  · rename_i j c
    obtain ⟨v1, vs1, rfl, hv1, v2, vs2, rfl, hv2, hv3⟩ := hr
    simp only [RelL] at hv3
    subst hv3
    split at hk
    · rename_i hc
      have hc := Nat.eq_of_beq_eq_true hc
      subst hc
      have hv2 : v2 = fnV g.cmp := by
        obtain ⟨us, h1, h2⟩ := hv2
        simp only [RelL] at h2
        subst h2
        exact h1
      subst hv2
      split at hk
      · rename_i tid e xs hg
        split at hk
        · rename_i ht
          have ht := Nat.eq_of_beq_eq_true ht
          subst ht
          split at hk
          · rename_i ys hy
            obtain ⟨he, hy⟩ := cast?_spec hy
            have he' : e = g.e := by injection he
            subst he'
            have hy : ys = xs := hy
            subst hy
            obtain ⟨hlen, hk⟩ := hk
            have hget := hget_some hg (by simp)
            have hb := hi.blk j _ hget
            have hβ : β[j]? = some v1 := hv1.1
            have hb1 : BlkR C.P B Ψ [v1] w 0 (.grow g.tid g.e ys) := growAt1 hβ hb
            refine (hS B Ψ w ys v1 hb1 hlen).mono ?_
            rintro e w' ⟨rfl, hw⟩
            refine ⟨_, Ψ, β, .tup [], { s with heap := hset s.heap j (.grow g.tid g.e (g.f ys)) }, rfl, Ext.refl _ _, ?_, hf, (show RelV Ψ β (.tup []) (.tuple #[]) from ⟨[], rfl, rfl⟩), hk⟩
            show InvH C.P B w0 Ψ β (hset s.heap j (.grow g.tid g.e (g.f ys))) w'
            rw [hset_eq]
            rcases hw with ⟨rfl, hfx⟩ | ⟨gb, hc1, hgb, hb2⟩
            · rw [hfx, set_same hget]
              exact hi
            · have hcl : claims β j gb (.grow g.tid g.e ys) := by
                obtain ⟨n, cap, h1, h2⟩ := hc1
                exact ⟨n, cap, h1, hβ.trans h2⟩
              exact hi.rewriteG hget rfl hcl hgb (fun g' h' => h') (grow_back hβ hb2)
          · exact hk.elim
        · exact hk.elim
      · exact hk.elim
    · exact hk.elim
  · exact hk.elim

theorem pads_rel : ∀ {avs : List AV} {vs : List Value} {n : Nat}, RelL Ψ β avs vs → avs.length ≤ n → RelL Ψ β (pads avs n) (vs ++ List.replicate (n - vs.length) undef)
  | [], vs, n, hr, _ => by
    simp only [RelL] at hr
    subst hr
    simp only [pads, List.nil_append, List.length_nil, Nat.sub_zero]
    induction n with
    | zero => rfl
    | succ n ih => rw [List.replicate_succ, List.replicate_succ]; exact ⟨_, _, rfl, rfl, ih (by simp)⟩
  | av :: avs, vs, n, ⟨v, vs', e, hv, hl⟩, hn => by
    subst e
    have hn : avs.length + 1 ≤ n := by simpa using hn
    refine ⟨v, vs' ++ List.replicate (n - 1 - vs'.length) undef, ?_, hv, pads_rel hl (by omega)⟩
    simp only [List.cons_append, List.length_cons]
    rw [show n - (vs'.length + 1) = n - 1 - vs'.length by omega]

def res1 (tmps : Array Value) : ResultVar → Sem Value
  | .tmp t => pure (tmps.getD t undef)
  | .cell a t => do loadVar t (← asAddr (tmps.getD a undef))

theorem resV_sound {s : St} (hi : InvH C.P B w0 Ψ β s.heap w) (hfr : RelL Ψ β s.top a.tmps.toList) : ∀ {rs : List ResultVar} {avs : List AV}, resV C s rs = some avs → ∃ vs, (rs.mapM (res1 a.tmps)).run C.P w = .ok vs w ∧ RelL Ψ β avs vs
  | [], avs, hr => by
    simp [resV] at hr
    subst hr
    exact ⟨[], by simp, rfl⟩
  | .tmp t :: rs, avs, hr => by
    unfold resV at hr
    split at hr
    · rename_i l hl
      simp at hr
      subst hr
      obtain ⟨vs, h1, h2⟩ := resV_sound hi hfr hl
      have h3 := RelL_get _ _ hfr t
      rw [getD_eq, ← Array.getD_eq_getD_getElem?] at h3
      exact ⟨_ :: vs, by simp [List.mapM_cons, res1, h1], _, _, rfl, h3, h2⟩
    · cases hr
  | .cell t ty :: rs, avs, hr => by
    unfold resV at hr
    split at hr
    · rename_i k off hown
      split at hr
      · rename_i cs hg
        split at hr
        · rename_i v l hlo hl
          simp at hr
          subst hr
          obtain ⟨vs, h1, h2⟩ := resV_sound hi hfr hl
          have h3 := RelL_get _ _ hfr t
          rw [getD_eq, ← Array.getD_eq_getD_getElem?, hown] at h3
          obtain ⟨g, c, e, hβ, hptr, hh, hB, hrel, hone⟩ := own_blk hi hg h3
          obtain ⟨ag, n, hlay, hle, hrv⟩ := loadOwn_ok hlo hrel hone
          have hrun : (loadVar ty ⟨g, off, none⟩).run C.P w = .ok _ w := run_loadVar_cells hlay (us := (c.toList.drop off).take n) (by simp; simp at hle; omega) (fun j u hj => by
            rw [cell_of_heap hh]
            have := sub_of_drop_take hj
            simpa using this)
          exact ⟨_ :: vs, by simp [List.mapM_cons, res1, h1, hptr, hrun, asAddr], _, _, rfl, hrv, h2⟩
        · cases hr
      · cases hr
    · cases hr

theorem results_eq (fn : Func) (tmps : Array Value) (vs : List Value) (hr : (fn.results.toList.mapM (res1 tmps)).run C.P w = .ok vs w) :
    (results fn tmps).run C.P w = .ok (if hh : vs.length = 1 then vs[0] else .tuple vs.toArray) w := by
  have e : results fn tmps = (do let vs ← fn.results.mapM (res1 tmps); pure (if h : vs.size = 1 then vs[0] else .tuple vs)) := rfl
  rw [e, Array.mapM_eq_mapM_toList]
  simp [hr]

theorem tup1_rel {avs : List AV} {vs : List Value} (hr : RelL Ψ β avs vs) : RelV Ψ β (tup1 avs) (if hh : vs.length = 1 then vs[0] else .tuple vs.toArray) := by
  match avs, hr with
  | [], hr =>
    simp only [RelL] at hr
    subst hr
    exact ⟨[], rfl, rfl⟩
  | [av], ⟨v, vs', e, hv, hl⟩ =>
    simp only [RelL] at hl
    subst hl e
    exact hv
  | av :: av' :: avs, hr =>
    have hlen := RelL_len _ _ hr
    rw [dif_neg (by simp at hlen; omega)]
    exact ⟨vs, rfl, hr⟩

theorem inlined_sound (hsp : SpecSound C) {call : CallT} (hc : CallSound C call) {f : FuncId} {fn : Func} (hfn : C.P.funcs[f]? = some fn) {avs : List AV} {vs : List Value} {s : St} {k : AV → St → Prop} (hk : inlined C call f fn avs s k) (hi : InvH C.P B w0 Ψ β s.heap w) (hf : RelF Ψ β (s.top :: s.below) As) (hr : RelL Ψ β avs vs) :
    Calls C.P f vs.toArray w fun e w' => ∃ v Ψ' β' av s', e = .returned v ∧ Ext B Ψ Ψ' ∧ InvH C.P B w0 Ψ' β' s'.heap w' ∧ RelF Ψ' β' (s'.top :: s'.below) As ∧ RelV Ψ' β' av v ∧ k av s' := by
  unfold inlined at hk
  split at hk
  · exact hk.elim
  · rename_i code hbody
    split at hk
    · rename_i hle
      simp only [Nat.ble_eq, listLen_eq] at hle
      refine callsIn_wide.1 (callsIn_of_wp_marks (F := Fence.wide) (n := 0) hfn hbody trivial ?_)
      refine wpIn_mono (awp_sound (ro := none) (Ψ0 := Ψ) (W := dsts code) (As := As) (β := β) (Ψ := Ψ) hsp hc f code (p := []) (by simp [codeAt, hfn, hbody]) hk (fun l hl => by cases hl) (Ext.refl B Ψ) hi ?_ (Same.refl _ _ _) fun _ h => h) ?_
      · refine RelF_cons ⟨⟨[], rfl, List.nodup_nil, by simp⟩, ?_⟩ hf
        have := pads_rel hr hle
        simpa using this
      · have done : ∀ (a' : Act) (w' : World), PostC C B w0 Ψ As (dsts code) { tmps := vs.toArray ++ Array.replicate (fn.ntmps - vs.toArray.size) undef, defers := [] } (fun s' => match resV C s' fn.results.toList with
              | none => False
              | some vs => match popped s' with
                | none => False
                | some s'' => k (tup1 vs) s'') a' w' → LeavesInM Fence.wide 0 C.P fn a'.tmps (fun e w' => ∃ v Ψ' β' av s', e = .returned v ∧ Ext B Ψ Ψ' ∧ InvH C.P B w0 Ψ' β' s'.heap w' ∧ RelF Ψ' β' (s'.top :: s'.below) As ∧ RelV Ψ' β' av v ∧ k av s') a'.defers .returning w' := by
          rintro a' w' ⟨Ψ', β', s', hE', hi', hf', hS', hk'⟩
          split at hk'
          · exact hk'.elim
          · rename_i rvs hrv
            split at hk'
            · exact hk'.elim
            · rename_i s'' hpop
              obtain ⟨_, ds, hd, hnew⟩ := hS'
              obtain ⟨w2, Ψ2, hL, hE2, hi2, hl2, hf2⟩ := unmark (ds := ds) (fun ad v hv hs => by
                have := hi.prom ad v hv
                unfold Pm at this
                rw [hs] at this
                exact this.1) hi' hf' hf hE' (by simpa using hd) hnew
              refine hL _ _ _ ?_
              obtain ⟨us, hus, hrel⟩ := resV_sound hi2 hl2 hrv
              refine ⟨_, results_eq fn a'.tmps us hus, _, Ψ2, β', _, s'', rfl, hE2, ?_, ?_, tup1_rel hrel, hk'⟩
              · unfold popped at hpop
                split at hpop
                · simp at hpop; subst hpop; exact hi2
                · cases hpop
              · unfold popped at hpop
                split at hpop
                · rename_i f1 fs1 hb1
                  simp at hpop
                  subst hpop
                  rw [hb1] at hf2
                  exact hf2
                · cases hpop
        intro e a' w' hq
        cases e with
        | normal => exact done a' w' hq
        | ret => exact done a' w' hq
        | exit _ => obtain ⟨_, _, _, _, _, _, _, hk'⟩ := hq; exact hk'
        | goto _ => exact hq
        | panic _ => exact hq.elim
        | outgrown => exact hq.elim
    · exact hk.elim

theorem acall_sound (hsp : SpecSound C) : ∀ n, CallSound C (acall C n)
  | 0 => ⟨fun j avs s k hk => hk.elim, fun f avs s k hk => hk.elim⟩
  | n + 1 => by
    refine ⟨fun j avs s k hk B w0 Ψ β As vs w hi hf hr => around_sound hsp (acall_sound hsp n) hk hi hf hr, ?_⟩
    intro f avs s k hk _ B w0 Ψ β As vs w hi hf hr
    unfold acall at hk
    split at hk
    · rename_i g hs
      exact contractG_sound (px := []) (hsp.2.1 f g hs) hk hi hf hr
    · split at hk
      · rename_i sp hs
        exact contract_sound (hsp.1 f sp hs) hk hi hf (maskAs_rel sp.ps hr)
      · split at hk
        · rename_i g hs
          exact asort_sound (hsp.2.2.1 f g hs) hk hi hf hr
        · split at hk
          · rename_i g hs
            split at hk
            · rename_i rest
              obtain ⟨v1, vs1, rfl, hv1, hr1⟩ := hr
              have hv1 : v1 = .slice none 0 0 := hv1
              subst hv1
              exact contractG_sound (px := [.slice none 0 0]) (hsp.2.2.2 f g hs) hk hi hf hr1
            · exact hk.elim
          · split at hk
            · exact hk.elim
            · rename_i fn hfn
              exact inlined_sound hsp (acall_sound hsp n) hfn hk hi hf hr

/-- What is known of data of a type. -/
def okd : (t : Ty) → t.den → Prop
  | .int k, n => k.has n
  | .bool, _ => True
  | .fnc, _ => True
  | .any, _ => True
  | .str, l => (∀ c ∈ l, 0 ≤ c ∧ c ≤ 255) ∧ l.length ≤ maxLen
  | .arr e, xs => xs.length ≤ maxLen ∧ ∀ x ∈ xs, okd e x
  | .vec n e, xs => xs.length = n ∧ ∀ x ∈ xs, okd e x
  | .unit, _ => True
  | .pair a b, x => okd a x.1 ∧ okd b x.2

def okds : (ts : List Ty) → dens ts → Prop
  | [], _ => True
  | [t], x => okd t x
  | t :: u :: ts, x => okd t x.1 ∧ okds (u :: ts) x.2

theorem rdL_okd {α : Type} {R : α → List Value → Prop} {p : α → Prop} (h : ∀ x vs, R x vs → p x) : ∀ (xs : List α) (vs : List Value), rdL R xs vs → ∀ x ∈ xs, p x
  | [], _, _, _, hx => by simp at hx
  | y :: ys, _, ⟨c, vs', _, h1, h2⟩, x, hx => by
    rcases List.mem_cons.1 hx with rfl | hx
    · exact h _ _ h1
    · exact rdL_okd h ys vs' h2 x hx

theorem reads_okd : ∀ (t : Ty) (x : t.den) (cs : List Value), reads Ψ t x cs → okd t x
  | .int k, n, cs, h => h.2
  | .bool, _, _, _ => trivial
  | .fnc, _, _, _ => trivial
  | .any, _, _, _ => trivial
  | .str, l, cs, h => ⟨h.2.1, h.2.2⟩
  | .arr e, xs, cs, ⟨ad, cap, _, h1, h2, h3⟩ => ⟨Nat.le_trans h1 h2, by
    rcases h3 with rfl | ⟨cells, h4, _⟩
    · intro x hx; cases hx
    · exact rdL_okd (reads_okd e) xs cells h4⟩
  | .vec n e, xs, cs, h => ⟨h.1, rdL_okd (reads_okd e) xs cs h.2⟩
  | .unit, _, _, _ => trivial
  | .pair a b, x, cs, ⟨u, v, _, h1, h2⟩ => ⟨reads_okd a x.1 u h1, reads_okd b x.2 v h2⟩

theorem rel_okds : ∀ {ts : List Ty} {x : dens ts} {vs : List Value}, RelL Ψ β (outs ts x) vs → okds ts x
  | [], _, _, _ => trivial
  | [t], x, _, ⟨_, _, _, ⟨cs, hc, _⟩, _⟩ => reads_okd t x cs hc
  | t :: _ :: _, x, _, ⟨_, _, _, ⟨cs, hc, _⟩, hl⟩ => ⟨reads_okd t x.1 cs hc, rel_okds hl⟩

theorem normF_rel : ∀ (av : AV) (v : Value), RelV Ψ β av v → RelV Ψ β (normF av) v := by
  intro av v h
  unfold normF
  split
  · split
    · obtain ⟨cs, h1, h2⟩ := h
      simp only [reads] at h1
      subst h1
      simp [Ty.isAgg] at h2
      exact ⟨[], h2.symm, rfl⟩
    · exact h
  · exact h
theorem normFs_rel : ∀ {l : List AV} {vs : List Value}, RelL Ψ β l vs → RelL Ψ β (normFs l) vs
  | [], _, h => h
  | _ :: _, _, ⟨v, vs', e, hv, hl⟩ => ⟨v, vs', e, normF_rel _ _ hv, normFs_rel hl⟩

theorem fnwp_sat (hsp : SpecSound C) (n : Nat) (f : FuncId) (sp : FSpec) (hall : ∀ x, okds sp.ps x → sp.pre x → fnwp C n f sp x) : Sat C.P f sp := by
  intro Ψ w x args hprom hrel hpre
  have hk := hall x (rel_okds hrel) hpre
  unfold fnwp at hk
  split at hk
  · exact hk.elim
  · rename_i fn hfn
    have hi : InvH C.P w.heap.size w Ψ [] (St.heap { top := [], below := [], heap := [] }) w := ⟨Below.refl _ _, Nat.le_refl _, fun a v hv => Pm_mk (hprom a v hv).1 (hprom a v hv).2, fun a v hv hs => absurd (hprom a v hv).1 hs, rfl, fun k u hu => by simp at hu, fun k b hb => by simp at hb, fun k b g hb => by simp at hb, fun i j bi bj g _ hb => by simp at hb⟩
    have hf : RelF Ψ [] (St.top { top := [], below := [], heap := [] } :: St.below { top := [], below := [], heap := [] }) [{ tmps := #[], defers := [] }] := ⟨_, _, rfl, ⟨⟨[], rfl, List.nodup_nil, by simp⟩, rfl⟩, rfl⟩
    refine (inlined_sound hsp (acall_sound hsp n) hfn hk hi hf (normFs_rel hrel)).mono ?_
    rintro e w' ⟨v, Ψ1, β1, av, s1, rfl, hE1, hi1, hf1, hv, hy⟩
    split at hy
    · rename_i y hd
      subst hy
      have key : ∀ (avs : List AV) (vs : List Value), asDs s1.heap sp.rs avs = some (sp.post x) → RelL Ψ1 β1 avs vs → ∃ Ψ', Ext w.heap.size Ψ1 Ψ' ∧ (∀ ad u, Ψ' ad = some u → Pm w' ad u) ∧ RelL Ψ' [] (outs sp.rs (sp.post x)) vs := by
        intro avs vs hd hr
        obtain ⟨Ψ', hE', hi', _, hr'⟩ := freezeAll_sound (refsA avs) hi1 hf1
        exact ⟨Ψ', hE', hi'.prom, asDs_rel hE'.1 hd hr hr'⟩
      have fin : ∀ (Ψ' : Pr), Ext w.heap.size Ψ1 Ψ' → (∀ ad u, Ψ' ad = some u → Pm w' ad u) → RelV Ψ' [] (outV sp.rs (sp.post x)) v →
          ∃ v' Ψ', Ending.returned v = .returned v' ∧ Below w.heap.size w w' ∧ (∀ a u, Ψ a = some u → Ψ' a = some u) ∧ (∀ a u, Ψ' a = some u → Ψ a = some u ∨ (w.heap.size ≤ a.block ∧ a.spot = none ∧ w'.cell? a = some u)) ∧ RelV Ψ' [] (outV sp.rs (sp.post x)) v' := by
        intro Ψ' hE' hp' hv'
        have hE := hE1.trans hE'
        exact ⟨v, plain Ψ', rfl, hi1.low, fun ad u hu => plain_spec.2 ⟨(hprom ad u hu).1, hE.1 ad u hu⟩, fun ad u hu => by
          obtain ⟨g1, g2⟩ := plain_spec.1 hu
          exact (hE.2 ad u g2).imp id fun h => ⟨h, g1, Pm_plain g1 (hp' ad u g2)⟩, outV_plain hv'⟩
      revert hd key fin
      generalize sp.post x = y
      generalize sp.rs = rs at y
      intro hd key fin
      match rs, y, hd, key, fin with
      | [], y, hd, key, fin =>
        replace hd : (match (generalizing := false) av with | .tup [] => asDs s1.heap [] [] | _ => none) = some y := hd
        split at hd
        · obtain ⟨us, rfl, hl⟩ := hv
          simp only [RelL] at hl
          subst hl
          exact fin _ (Ext.refl _ _) hi1.prom ⟨[], rfl, rfl⟩
        · cases hd
      | [t], y, hd, key, fin =>
        obtain ⟨Ψ', hE', hp', hl⟩ := key _ _ hd ⟨v, [], rfl, hv, rfl⟩
        obtain ⟨v', vs', e, hv', hl'⟩ := hl
        simp only [List.cons.injEq] at e
        obtain ⟨rfl, rfl⟩ := e
        exact fin _ hE' hp' hv'
      | t :: u :: ts, y, hd, key, fin =>
        replace hd : (match (generalizing := false) av with | .tup vs => asDs s1.heap (t :: u :: ts) vs | _ => none) = some y := hd
        split at hd
        · obtain ⟨us, rfl, hl⟩ := hv
          obtain ⟨Ψ', hE', hp', hl'⟩ := key _ _ hd hl
          refine fin _ hE' hp' ?_
          have e : outV (t :: u :: ts) y = .tup (outs (t :: u :: ts) y) := by
            match ts with
            | [] => rfl
            | _ :: _ => rfl
          rw [e]
          exact ⟨us, rfl, hl'⟩
        · cases hd
    · exact hy.elim

/-- By a normal form that was reckoned. -/
theorem sat_nf (hsp : SpecSound C) {n : Nat} {f : FuncId} {sp : FSpec} {Q : dens sp.ps → Prop} (hQ : ∀ x, fnwp C n f sp x = Q x) (h : ∀ x, okds sp.ps x → sp.pre x → Q x) : Sat C.P f sp :=
  fnwp_sat hsp n f sp fun x a b => (hQ x).mpr (h x a b)

/-- .. of a function that hands back a slice of its own. -/
theorem fnwpG_sat (hsp : SpecSound C) (n : Nat) (f : FuncId) (sp : GSpec) (hall : ∀ x, okds sp.ps x → sp.pre x → fnwpG C n f sp x) : SatG C.P f sp := by
  intro Ψ w x args hprom hrel hpre
  show Calls C.P f args.toArray w _
  have hk := hall x (rel_okds hrel) hpre
  unfold fnwpG at hk
  split at hk
  · exact hk.elim
  · rename_i fn hfn
    have hi : InvH C.P w.heap.size w Ψ [] (St.heap { top := [], below := [], heap := [] }) w := ⟨Below.refl _ _, Nat.le_refl _, fun a v hv => Pm_mk (hprom a v hv).1 (hprom a v hv).2, fun a v hv hs => absurd (hprom a v hv).1 hs, rfl, fun k u hu => by simp at hu, fun k b hb => by simp at hb, fun k b g hb => by simp at hb, fun i j bi bj g _ hb => by simp at hb⟩
    have hf : RelF Ψ [] (St.top { top := [], below := [], heap := [] } :: St.below { top := [], below := [], heap := [] }) [{ tmps := #[], defers := [] }] := ⟨_, _, rfl, ⟨⟨[], rfl, List.nodup_nil, by simp⟩, rfl⟩, rfl⟩
    refine (inlined_sound hsp (acall_sound hsp n) hfn hk hi hf (normFs_rel hrel)).mono ?_
    rintro e w' ⟨v, Ψ1, β1, av, s1, rfl, hE1, hi1, hf1, hv, hy⟩
    have fin : v.oneCell' = true → BlkR C.P w.heap.size Ψ1 [v] w' 0 (.grow sp.tid sp.e (sp.post x)) → (∀ g, claims [v] 0 g (.grow sp.tid sp.e (sp.post x)) → ∀ a, a.block = g → a.spot = none → Ψ1 a = none) →
        ∃ v' Ψ', Ending.returned v = .returned v' ∧ Below w.heap.size w w' ∧ (∀ a u, Ψ a = some u → Ψ' a = some u) ∧ (∀ a u, Ψ' a = some u → Ψ a = some u ∨ (w.heap.size ≤ a.block ∧ a.spot = none ∧ w'.cell? a = some u)) ∧ v'.oneCell' = true ∧
          BlkR C.P w.heap.size Ψ' [v'] w' 0 (.grow sp.tid sp.e (sp.post x)) ∧ ∀ g, claims [v'] 0 g (.grow sp.tid sp.e (sp.post x)) → ∀ a, a.block = g → Ψ' a = none :=
      fun h1 h2 h3 => ⟨v, plain Ψ1, rfl, hi1.low, fun ad u hu => plain_spec.2 ⟨(hprom ad u hu).1, hE1.1 ad u hu⟩, fun ad u hu => by
        obtain ⟨g1, g2⟩ := plain_spec.1 hu
        exact (hE1.2 ad u g2).imp id fun h => ⟨h, g1, Pm_plain g1 (hi1.prom ad u g2)⟩, h1, by
        refine h2.imp id ?_
        rintro ⟨gg, cap, cur, h1, h2, h3, h4, h5, h6, h7, h8⟩
        exact ⟨gg, cap, cur, h1, h2, h3, h4, h5, h6, h7, rdL_of_plain (PLe.refl _) h8⟩, fun g hc a ha => by
        unfold plain
        split
        · rename_i hs; exact h3 g hc a ha hs
        · rfl⟩
    split at hy
    · rename_i k
      split at hy
      · rename_i tid e xs hg
        split at hy
        · rename_i ht
          split at hy
          · rename_i ys hc
            obtain ⟨he, rfl⟩ := cast?_spec hc
            have ht := Nat.eq_of_beq_eq_true ht
            simp only [Ty.arr.injEq] at he
            subst he
            subst ht
            have hv : β1[k]? = some v := hv.1
            have hkk := hget_some hg (by simp)
            have e0 : ([v] : List Value)[0]? = some v := rfl
            have hy' : xs = sp.post x := hy
            rw [← hy'] at fin ⊢
            have hb1 : BlkR C.P w.heap.size Ψ1 [v] w' 0 (.grow sp.tid sp.e xs) := by
              rcases hi1.blk k _ hkk with ⟨ad, h1, h2⟩ | ⟨g, cap, cur, h1, h2⟩
              · exact .inl ⟨ad, by rw [e0, ← hv, h1], h2⟩
              · exact .inr ⟨g, cap, cur, by rw [e0, ← hv, h1], h2⟩
            refine fin (hi1.one k v hv) hb1 (fun g hcl ad had hs => hi1.free k _ g hkk ?_ ad had (.inl hs))
            obtain ⟨n, cap, hz, hcl⟩ := hcl
            exact ⟨n, cap, hz, by rw [hv, ← e0, hcl]⟩
          · exact hy.elim
        · exact hy.elim
      · exact hy.elim
    · have hv : v = .slice none 0 0 := hv
      subst hv
      rw [← hy]
      rw [← hy] at fin
      refine fin rfl (.inl ⟨none, rfl, rfl⟩) (fun g hc => ?_)
      obtain ⟨n, cap, hz, hc⟩ := hc
      simp at hc
    · exact hy.elim

/-- A slice of its own is data, too. -/
theorem SatG.toDataC {f : FuncId} {sp : GSpec} (hS : SatG C.P f sp) : Sat C.P f sp.data := by
  intro Ψ w x args hprom hrel hpre
  refine (hS Ψ w x args hprom hrel hpre).mono ?_
  rintro e w' ⟨v, Ψ1, rfl, hb, hle, hnew, hone, hblk, hfree⟩
  have hi : InvH C.P w.heap.size w Ψ1 [v] [.grow sp.tid sp.e (sp.post x)] w' := by
    refine ⟨hb, hb.size, fun ad u hu => ?_, fun ad u hu hs => ?_, rfl, fun k u hu => ?_, fun k b hk => ?_, fun k b g hk hc a ha _ => ?_, fun i j bi bj g hij hbi hbj => ?_⟩
    · rcases hnew ad u hu with h | h
      · obtain ⟨h1, h2⟩ := hprom ad u h
        refine Pm_mk h1 ?_
        rw [hb.cell (p := ad) ?_]
        · exact h2
        · unfold World.cell? at h2
          split at h2
          · rename_i hh; exact heap_lt hh
          · cases h2
      · exact Pm_mk h.2.1 h.2.2
    · rcases hnew ad u hu with h | h
      · exact absurd (hprom ad u h).1 hs
      · exact absurd h.2.1 hs
    · cases k with
      | zero => simp at hu; subst hu; exact hone
      | succ k => simp at hu
    · cases k with
      | zero => simp at hk; subst hk; exact hblk
      | succ k => simp at hk
    · cases k with
      | zero => simp at hk; subst hk; exact hfree g hc a ha
      | succ k => simp at hk
    · cases i with
      | zero => cases j with
        | zero => exact absurd rfl hij
        | succ j => simp at hbj
      | succ i => simp at hbi
  have hf : RelF Ψ1 [v] (St.top { top := [.sl 0], below := [], heap := [.grow sp.tid sp.e (sp.post x)] } :: St.below { top := [.sl 0], below := [], heap := [.grow sp.tid sp.e (sp.post x)] }) [{ tmps := #[v], defers := [] }] :=
    ⟨_, _, rfl, ⟨⟨[], rfl, List.nodup_nil, by simp⟩, v, [], rfl, ⟨rfl, grow_not_hole hblk rfl⟩, rfl⟩, rfl⟩
  obtain ⟨Ψ2, hE, hi2, hf2, _⟩ := freeze_sound hi hf 0
  obtain ⟨a, as', e, ⟨_, hl⟩, _⟩ := hf2
  simp only [List.cons.injEq] at e
  obtain ⟨rfl, _⟩ := e
  obtain ⟨u, us, e, hu, _⟩ := hl
  simp only [List.cons.injEq] at e
  obtain ⟨rfl, _⟩ := e
  refine ⟨v, plain Ψ2, rfl, hb, fun a u h => plain_spec.2 ⟨(hprom a u h).1, hE.1 a u (hle a u h)⟩, fun a u h => ?_, RelV_plain hu⟩
  obtain ⟨g1, g2⟩ := plain_spec.1 h
  rcases hE.2 a u g2 with h' | h'
  · exact hnew a u h'
  · exact .inr ⟨h', g1, Pm_plain g1 (hi2.prom a u g2)⟩
theorem SatG.toData {P : Program} {f : FuncId} {sp : GSpec} (hS : SatG P f sp) : Sat P f sp.data :=
  SatG.toDataC (C := { P := P, spec := fun _ => none, hint := fun _ => { las := fun _ => [], mode := fun _ => .split, cmode := fun _ => .split, unr := fun _ => 0 }, ty := fun _ => none, fresh := fun _ => none, ro := fun _ => false }) hS

end Go.AM
