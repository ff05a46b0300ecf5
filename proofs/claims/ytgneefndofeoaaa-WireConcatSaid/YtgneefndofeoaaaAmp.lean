import Derived.Test.YtgneefndofeoaaaAmo
namespace Go.AM
set_option linter.unusedVariables false
open Go.RowKit

variable {B : Nat} {w0 : World} {C : Ctx} {Ψ Ψ0 : Pr} {β : List Value} {h : List Blk} {w w' : World} {fr : List AV} {a a0 : Act} {As : List Act} {W : List Nat}

theorem freezeAll_sound : ∀ (ks : List Nat) {s : St} {Ψ : Pr}, InvH B w0 Ψ β s.heap w → RelF Ψ β (s.top :: s.below) As →
    ∃ Ψ', Ext B Ψ Ψ' ∧ InvH B w0 Ψ' β (s.freezeAll ks).heap w ∧ RelF Ψ' β ((s.freezeAll ks).top :: (s.freezeAll ks).below) As ∧ Reading Ψ' β s.heap ks
  | [], s, Ψ, hi, hf => ⟨Ψ, Ext.refl _ _, hi, hf, Reading.nil⟩
  | k :: ks, s, Ψ, hi, hf => by
    obtain ⟨Ψ1, hE1, hi1, hf1, hr1, hkeep⟩ := freeze_sound hi hf k
    obtain ⟨Ψ2, hE2, hi2, hf2, hr2⟩ := freezeAll_sound ks hi1 hf1
    refine ⟨Ψ2, hE1.trans hE2, hi2, hf2, fun j hj tid e xs hg u hu => ?_⟩
    by_cases hjk : j = k
    · exact rv_mono hE2.1 (hr1 j (by simp [hjk]) tid e xs hg u hu)
    · rcases List.mem_cons.1 hj with h | h
      · exact absurd h hjk
      · exact hr2 j h tid e xs (hkeep j tid e xs hjk hg) u hu

/-! ### Calls -/
theorem contract_sound {sp : FSpec} {f : FuncId} {avs : List AV} {vs : List Value} {s : St} {k : AV → St → Prop} (hS : Sat C.P f sp) (hk : contract sp avs s k) (hi : InvH B w0 Ψ β s.heap w) (hf : RelF Ψ β (s.top :: s.below) As) (hr : RelL Ψ β avs vs) :
    Calls C.P f vs.toArray w fun e w' => ∃ v Ψ' β' av s', e = .returned v ∧ Ext B Ψ Ψ' ∧ InvH B w0 Ψ' β' s'.heap w' ∧ RelF Ψ' β' (s'.top :: s'.below) As ∧ RelV Ψ' β' av v ∧ k av s' := by
  unfold contract at hk
  split at hk
  · exact hk.elim
  · rename_i x hd
    obtain ⟨hpre, hk⟩ := hk
    split at hk
    · rename_i hfl
      refine (contract_call hS hi hr hd hpre (.inl hfl)).mono ?_
      rintro e w' ⟨v, Ψ', rfl, hst, hv⟩
      exact ⟨v, Ψ', β, _, s, rfl, hst.ext hi.size, hi.step hst, RelF_mono hst.le (fun _ _ h => h) _ _ hf, hv, hk⟩
    · obtain ⟨Ψ1, hE1, hi1, hf1, hr1⟩ := freezeAll_sound (refsA avs) hi hf
      have hrel := asDs_rel hE1.1 hd hr hr1
      refine (hS Ψ1 w x vs hi1.prom hrel hpre).mono ?_
      rintro e w' ⟨v, Ψ', rfl, hb, hle, hnew, hv⟩
      have hst : Step Ψ1 w Ψ' w' := ⟨hb, hle, hnew⟩
      exact ⟨v, Ψ', β, _, _, rfl, hE1.trans (hst.ext hi.size), hi1.step hst, RelF_mono hst.le (fun _ _ h => h) _ _ hf1, RelV_mono (PLe.refl _) (fun k v h => by simp at h) _ _ hv, hk⟩

theorem contractG_sound {g : GSpec} {f : FuncId} {avs : List AV} {vs : List Value} {s : St} {k : AV → St → Prop} (hS : SatG C.P f g) (hk : contractG g avs s k) (hi : InvH B w0 Ψ β s.heap w) (hf : RelF Ψ β (s.top :: s.below) As) (hr : RelL Ψ β avs vs) :
    Calls C.P f vs.toArray w fun e w' => ∃ v Ψ' β' av s', e = .returned v ∧ Ext B Ψ Ψ' ∧ InvH B w0 Ψ' β' s'.heap w' ∧ RelF Ψ' β' (s'.top :: s'.below) As ∧ RelV Ψ' β' av v ∧ k av s' := by
  unfold contractG at hk
  split at hk
  · exact hk.elim
  · rename_i x hd
    obtain ⟨hpre, hk⟩ := hk
    obtain ⟨Ψ1, hE1, hi1, hf1, hr1⟩ := freezeAll_sound (refsA avs) hi hf
    have hrel := asDs_rel hE1.1 hd hr hr1
    refine (hS Ψ1 w x vs hi1.prom hrel hpre).mono ?_
    rintro e w' ⟨v, Ψ', rfl, hb, hle, hnew, hone, hblk, hfree⟩
    have hst : Step Ψ1 w Ψ' w' := ⟨hb, hle, hnew⟩
    have hi2 := hi1.step hst
    have hB := hi1.size
    generalize hs' : s.freezeAll (refsA avs) = s1 at *
    have hblk' : BlkR B Ψ' (β ++ [v]) w' s1.heap.length (.grow g.tid g.e (g.post x)) := by
      have hget : (β ++ [v])[s1.heap.length]? = some v := by rw [← hi2.len]; simp
      refine hblk.imp (fun ⟨ad, h1, h2⟩ => ⟨ad, ?_, h2⟩) (fun ⟨gg, cap, cur, h1, h2, h3, h4⟩ => ⟨gg, cap, cur, ?_, h2, Nat.le_trans hB h3, h4⟩)
      · simp at h1; rw [hget, h1]
      · simp at h1; rw [hget, h1]
    have hcl0 : ∀ {gg : Nat}, claims (β ++ [v]) s1.heap.length gg (.grow g.tid g.e (g.post x)) → claims [v] 0 gg (.grow g.tid g.e (g.post x)) := by
      intro gg hc
      have hget : (β ++ [v])[s1.heap.length]? = some v := by rw [← hi2.len]; simp
      obtain ⟨n, cap, hz, hc⟩ := hc
      rw [hget] at hc
      exact ⟨n, cap, hz, by simpa using hc⟩
    have hclg : ∀ {gg : Nat}, claims [v] 0 gg (.grow g.tid g.e (g.post x)) → w.heap.size ≤ gg := fun hc => (claims_lt hblk hc).1
    have hlt : ∀ {j : Nat} {b : Blk}, s1.heap[j]? = some b → j < β.length := fun {j b} hj => by
      rw [hi2.len]
      rcases Nat.lt_or_ge j s1.heap.length with h' | h'
      · exact h'
      · rw [List.getElem?_eq_none h'] at hj; cases hj
    have hold : ∀ {j gg : Nat} {b : Blk}, s1.heap[j]? = some b → claims (β ++ [v]) j gg b → gg < w.heap.size := fun hj hc => (claims_lt (hi1.blk _ _ hj) (claims_snoc (hlt hj) hc)).2
    refine ⟨v, Ψ', β ++ [v], .sl (hlen s1.heap), { s1 with heap := s1.heap ++ [.grow g.tid g.e (g.post x)] }, rfl, hE1.trans (hst.ext hi1.size), ?_, RelF_mono hst.le (snoc_mono v) _ _ hf1, ?_, hk⟩
    · refine ⟨hi2.low, hi2.size, hi2.prom, by simp [hi2.len], fun j u hj => ?_, fun j b hj => ?_, fun j b gg hj hc a ha => ?_, fun i j bi bj gg hij hbi hbj hci hcj => ?_⟩
      · rcases getElem?_snoc hj with h | ⟨_, rfl⟩
        · exact hi2.one j u h
        · exact hone
      · rcases getElem?_snoc hj with h | ⟨rfl, rfl⟩
        · exact BlkR_snoc v (hi2.blk j b h)
        · exact hblk'
      · rcases getElem?_snoc hj with h | ⟨rfl, rfl⟩
        · exact hi2.free j b gg h (claims_snoc (hlt h) hc) a ha
        · exact hfree gg (hcl0 hc) a ha
      · rcases getElem?_snoc hbi with h1 | ⟨rfl, rfl⟩
        · rcases getElem?_snoc hbj with h2 | ⟨rfl, rfl⟩
          · exact hi2.sep i j bi bj gg hij h1 h2 (claims_snoc (hlt h1) hci) (claims_snoc (hlt h2) hcj)
          · have := hold h1 hci
            have := hclg (hcl0 hcj)
            omega
        · rcases getElem?_snoc hbj with h2 | ⟨rfl, rfl⟩
          · have := hold h2 hcj
            have := hclg (hcl0 hci)
            omega
          · exact absurd rfl hij
    · show (β ++ [v])[hlen s1.heap]? = some v
      rw [hlen_eq, ← hi2.len]
      simp

theorem pads_rel : ∀ {avs : List AV} {vs : List Value} {n : Nat}, RelL Ψ β avs vs → avs.length ≤ n → RelL Ψ β (pads avs n) (vs ++ List.replicate (n - vs.length) undef)
  | [], vs, n, hr, _ => by
    simp only [RelL] at hr
    subst hr
    simp only [pads, List.nil_append, List.length_nil, Nat.sub_zero]
    induction n with
    | zero => rfl
    | succ n ih => rw [List.replicate_succ, List.replicate_succ]; exact ⟨_, _, rfl, rfl, ih (by simp)⟩
  | av :: avs, vs, n, ⟨v, vs', e, hv, hl⟩, hn => by
    subst e
    have hn : avs.length + 1 ≤ n := by simpa using hn
    refine ⟨v, vs' ++ List.replicate (n - 1 - vs'.length) undef, ?_, hv, pads_rel hl (by omega)⟩
    simp only [List.cons_append, List.length_cons]
    rw [show n - (vs'.length + 1) = n - 1 - vs'.length by omega]

def res1 (tmps : Array Value) : ResultVar → Sem Value
  | .tmp t => pure (tmps.getD t undef)
  | .cell a t => do loadVar t (← asAddr (tmps.getD a undef))

theorem resV_sound {s : St} (hi : InvH B w0 Ψ β s.heap w) (hfr : RelFr Ψ β s.top a) : ∀ {rs : List ResultVar} {avs : List AV}, resV C s rs = some avs → ∃ vs, (rs.mapM (res1 a.tmps)).run C.P w = .ok vs w ∧ RelL Ψ β avs vs
  | [], avs, hr => by
    simp [resV] at hr
    subst hr
    exact ⟨[], by simp, rfl⟩
  | .tmp t :: rs, avs, hr => by
    unfold resV at hr
    split at hr
    · rename_i l hl
      simp at hr
      subst hr
      obtain ⟨vs, h1, h2⟩ := resV_sound hi hfr hl
      have h3 := RelL_get _ _ hfr.2 t
      rw [getD_eq, ← Array.getD_eq_getD_getElem?] at h3
      exact ⟨_ :: vs, by simp [List.mapM_cons, res1, h1], _, _, rfl, h3, h2⟩
    · cases hr
  | .cell t ty :: rs, avs, hr => by
    unfold resV at hr
    split at hr
    · rename_i k off hown
      split at hr
      · rename_i cs hg
        split at hr
        · rename_i v l hlo hl
          simp at hr
          subst hr
          obtain ⟨vs, h1, h2⟩ := resV_sound hi hfr hl
          have h3 := RelL_get _ _ hfr.2 t
          rw [getD_eq, ← Array.getD_eq_getD_getElem?, hown] at h3
          obtain ⟨g, c, e, hβ, hptr, hh, hB, hrel, hone⟩ := own_blk hi hg h3
          obtain ⟨ag, n, hlay, hle, hrv⟩ := loadOwn_ok hlo hrel hone
          have hrun : (loadVar ty ⟨g, off, none⟩).run C.P w = .ok _ w := run_loadVar_cells hlay (us := (c.toList.drop off).take n) (by simp; simp at hle; omega) (fun j u hj => by
            rw [cell_of_heap hh]
            have := sub_of_drop_take hj
            simpa using this)
          exact ⟨_ :: vs, by simp [List.mapM_cons, res1, h1, hptr, hrun, asAddr], _, _, rfl, hrv, h2⟩
        · cases hr
      · cases hr
    · cases hr

theorem results_eq (fn : Func) (tmps : Array Value) (vs : List Value) (hr : (fn.results.toList.mapM (res1 tmps)).run C.P w = .ok vs w) :
    (results fn tmps).run C.P w = .ok (if hh : vs.length = 1 then vs[0] else .tuple vs.toArray) w := by
  have e : results fn tmps = (do let vs ← fn.results.mapM (res1 tmps); pure (if h : vs.size = 1 then vs[0] else .tuple vs)) := rfl
  rw [e, Array.mapM_eq_mapM_toList]
  simp [hr]

theorem tup1_rel {avs : List AV} {vs : List Value} (hr : RelL Ψ β avs vs) : RelV Ψ β (tup1 avs) (if hh : vs.length = 1 then vs[0] else .tuple vs.toArray) := by
  match avs, hr with
  | [], hr =>
    simp only [RelL] at hr
    subst hr
    exact ⟨[], rfl, rfl⟩
  | [av], ⟨v, vs', e, hv, hl⟩ =>
    simp only [RelL] at hl
    subst hl e
    exact hv
  | av :: av' :: avs, hr =>
    have hlen := RelL_len _ _ hr
    rw [dif_neg (by simp at hlen; omega)]
    exact ⟨vs, rfl, hr⟩

theorem inlined_sound (hsp : SpecSound C) {call : CallT} (hc : CallSound C call) {f : FuncId} {fn : Func} (hfn : C.P.funcs[f]? = some fn) {avs : List AV} {vs : List Value} {s : St} {k : AV → St → Prop} (hk : inlined C call f fn avs s k) (hi : InvH B w0 Ψ β s.heap w) (hf : RelF Ψ β (s.top :: s.below) As) (hr : RelL Ψ β avs vs) :
    Calls C.P f vs.toArray w fun e w' => ∃ v Ψ' β' av s', e = .returned v ∧ Ext B Ψ Ψ' ∧ InvH B w0 Ψ' β' s'.heap w' ∧ RelF Ψ' β' (s'.top :: s'.below) As ∧ RelV Ψ' β' av v ∧ k av s' := by
  unfold inlined at hk
  split at hk
  · exact hk.elim
  · rename_i code hbody
    split at hk
    · rename_i hle
      simp only [Nat.ble_eq, listLen_eq] at hle
      refine calls_of_wp hfn hbody ?_
      refine Code.wp_mono ?_ (awp_sound (Ψ0 := Ψ) (W := dsts code) (As := As) (β := β) (Ψ := Ψ) hsp hc (C.hint f) code hk (Ext.refl B Ψ) hi ?_ (Same.refl _ _) fun _ h => h)
      · have done : ∀ (a' : Act) (w' : World), PostC B w0 Ψ As (dsts code) { tmps := vs.toArray ++ Array.replicate (fn.ntmps - vs.toArray.size) undef, defers := [] } (fun s' => match resV C s' fn.results.toList with
              | none => False
              | some vs => match popped s' with
                | none => False
                | some s'' => k (tup1 vs) s'') a' w' → a'.defers = [] ∧ ∃ v, (results fn a'.tmps).run C.P w' = .ok v w' ∧ ∃ v' Ψ' β' av s', Ending.returned v = .returned v' ∧ Ext B Ψ Ψ' ∧ InvH B w0 Ψ' β' s'.heap w' ∧ RelF Ψ' β' (s'.top :: s'.below) As ∧ RelV Ψ' β' av v' ∧ k av s' := by
          rintro a' w' ⟨Ψ', β', s', hE', hi', hf', _, hk'⟩
          split at hk'
          · exact hk'.elim
          · rename_i rvs hrv
            split at hk'
            · exact hk'.elim
            · rename_i s'' hpop
              have hfr := frame_of hf'
              obtain ⟨us, hus, hrel⟩ := resV_sound hi' hfr hrv
              refine ⟨hfr.1, _, results_eq fn a'.tmps us hus, _, Ψ', β', _, s'', rfl, hE', ?_, ?_, tup1_rel hrel, hk'⟩
              · unfold popped at hpop
                split at hpop
                · simp at hpop; subst hpop; exact hi'
                · cases hpop
              · unfold popped at hpop
                split at hpop
                · rename_i f1 fs1 hb1
                  simp at hpop
                  subst hpop
                  have := below_of hf'
                  rw [hb1] at this
                  exact this
                · cases hpop
        intro e a' w' hq
        cases e with
        | normal => exact done a' w' hq
        | ret => exact done a' w' hq
        | exit _ => obtain ⟨_, _, _, _, _, _, _, hk'⟩ := hq; exact hk'
        | goto _ => exact hq
        | panic _ => exact hq.elim
        | outgrown => exact hq.elim
      · refine RelF_cons ⟨rfl, ?_⟩ hf
        have := pads_rel hr hle
        simpa using this
    · exact hk.elim

theorem acall_sound (hsp : SpecSound C) : ∀ n, CallSound C (acall C n)
  | 0 => fun f avs s k hk => hk.elim
  | n + 1 => by
    intro f avs s k hk _ B w0 Ψ β As vs w hi hf hr
    unfold acall at hk
    split at hk
    · rename_i g hs
      exact contractG_sound (hsp.2 f g hs) hk hi hf hr
    · split at hk
      · rename_i sp hs
        exact contract_sound (hsp.1 f sp hs) hk hi hf hr
      · split at hk
        · exact hk.elim
        · rename_i fn hfn
          exact inlined_sound hsp (acall_sound hsp n) hfn hk hi hf hr

/-- What is known of data of a type. -/
def okd : (t : Ty) → t.den → Prop
  | .int k, n => k.has n
  | .bool, _ => True
  | .str, l => (∀ c ∈ l, 0 ≤ c ∧ c ≤ 255) ∧ l.length ≤ maxLen
  | .arr e, xs => xs.length ≤ maxLen ∧ ∀ x ∈ xs, okd e x
  | .vec n e, xs => xs.length = n ∧ ∀ x ∈ xs, okd e x
  | .unit, _ => True
  | .pair a b, x => okd a x.1 ∧ okd b x.2

def okds : (ts : List Ty) → dens ts → Prop
  | [], _ => True
  | [t], x => okd t x
  | t :: u :: ts, x => okd t x.1 ∧ okds (u :: ts) x.2

theorem rdL_okd {α : Type} {R : α → List Value → Prop} {p : α → Prop} (h : ∀ x vs, R x vs → p x) : ∀ (xs : List α) (vs : List Value), rdL R xs vs → ∀ x ∈ xs, p x
  | [], _, _, _, hx => by simp at hx
  | y :: ys, _, ⟨c, vs', _, h1, h2⟩, x, hx => by
    rcases List.mem_cons.1 hx with rfl | hx
    · exact h _ _ h1
    · exact rdL_okd h ys vs' h2 x hx

theorem reads_okd : ∀ (t : Ty) (x : t.den) (cs : List Value), reads Ψ t x cs → okd t x
  | .int k, n, cs, h => h.2
  | .bool, _, _, _ => trivial
  | .str, l, cs, h => ⟨h.2.1, h.2.2⟩
  | .arr e, xs, cs, ⟨ad, cap, _, h1, h2, h3⟩ => ⟨Nat.le_trans h1 h2, by
    rcases h3 with rfl | ⟨cells, h4, _⟩
    · intro x hx; cases hx
    · exact rdL_okd (reads_okd e) xs cells h4⟩
  | .vec n e, xs, cs, h => ⟨h.1, rdL_okd (reads_okd e) xs cs h.2⟩
  | .unit, _, _, _ => trivial
  | .pair a b, x, cs, ⟨u, v, _, h1, h2⟩ => ⟨reads_okd a x.1 u h1, reads_okd b x.2 v h2⟩

theorem rel_okds : ∀ {ts : List Ty} {x : dens ts} {vs : List Value}, RelL Ψ β (outs ts x) vs → okds ts x
  | [], _, _, _ => trivial
  | [t], x, _, ⟨_, _, _, ⟨cs, hc, _⟩, _⟩ => reads_okd t x cs hc
  | t :: _ :: _, x, _, ⟨_, _, _, ⟨cs, hc, _⟩, hl⟩ => ⟨reads_okd t x.1 cs hc, rel_okds hl⟩

theorem fnwp_sat (hsp : SpecSound C) (n : Nat) (f : FuncId) (sp : FSpec) (hall : ∀ x, okds sp.ps x → sp.pre x → fnwp C n f sp x) : Sat C.P f sp := by
  intro Ψ w x args hprom hrel hpre
  have hk := hall x (rel_okds hrel) hpre
  unfold fnwp at hk
  split at hk
  · exact hk.elim
  · rename_i fn hfn
    have hi : InvH w.heap.size w Ψ [] (St.heap { top := [], below := [], heap := [] }) w := ⟨Below.refl _ _, Nat.le_refl _, hprom, rfl, fun k u hu => by simp at hu, fun k b hb => by simp at hb, fun k b g hb => by simp at hb, fun i j bi bj g _ hb => by simp at hb⟩
    have hf : RelF Ψ [] (St.top { top := [], below := [], heap := [] } :: St.below { top := [], below := [], heap := [] }) [{ tmps := #[], defers := [] }] := ⟨_, _, rfl, ⟨rfl, rfl⟩, rfl⟩
    refine (inlined_sound hsp (acall_sound hsp n) hfn hk hi hf hrel).mono ?_
    rintro e w' ⟨v, Ψ1, β1, av, s1, rfl, hE1, hi1, hf1, hv, hy⟩
    split at hy
    · rename_i y hd
      subst hy
      have key : ∀ (avs : List AV) (vs : List Value), asDs s1.heap sp.rs avs = some (sp.post x) → RelL Ψ1 β1 avs vs → ∃ Ψ', Ext w.heap.size Ψ1 Ψ' ∧ (∀ ad u, Ψ' ad = some u → ad.spot = none ∧ w'.cell? ad = some u) ∧ RelL Ψ' [] (outs sp.rs (sp.post x)) vs := by
        intro avs vs hd hr
        obtain ⟨Ψ', hE', hi', _, hr'⟩ := freezeAll_sound (refsA avs) hi1 hf1
        exact ⟨Ψ', hE', hi'.prom, asDs_rel hE'.1 hd hr hr'⟩
      have fin : ∀ (Ψ' : Pr), Ext w.heap.size Ψ1 Ψ' → (∀ ad u, Ψ' ad = some u → ad.spot = none ∧ w'.cell? ad = some u) → RelV Ψ' [] (outV sp.rs (sp.post x)) v →
          ∃ v' Ψ', Ending.returned v = .returned v' ∧ Below w.heap.size w w' ∧ (∀ a u, Ψ a = some u → Ψ' a = some u) ∧ (∀ a u, Ψ' a = some u → Ψ a = some u ∨ (w.heap.size ≤ a.block ∧ a.spot = none ∧ w'.cell? a = some u)) ∧ RelV Ψ' [] (outV sp.rs (sp.post x)) v' := by
        intro Ψ' hE' hp' hv'
        have hE := hE1.trans hE'
        exact ⟨v, Ψ', rfl, hi1.low, hE.1, fun ad u hu => (hE.2 ad u hu).imp id fun h => ⟨h, hp' ad u hu⟩, hv'⟩
      revert hd key fin
      generalize sp.post x = y
      generalize sp.rs = rs at y
      intro hd key fin
      match rs, y, hd, key, fin with
      | [], y, hd, key, fin =>
        replace hd : (match (generalizing := false) av with | .tup [] => asDs s1.heap [] [] | _ => none) = some y := hd
        split at hd
        · obtain ⟨us, rfl, hl⟩ := hv
          simp only [RelL] at hl
          subst hl
          exact fin _ (Ext.refl _ _) hi1.prom ⟨[], rfl, rfl⟩
        · cases hd
      | [t], y, hd, key, fin =>
        obtain ⟨Ψ', hE', hp', hl⟩ := key _ _ hd ⟨v, [], rfl, hv, rfl⟩
        obtain ⟨v', vs', e, hv', hl'⟩ := hl
        simp only [List.cons.injEq] at e
        obtain ⟨rfl, rfl⟩ := e
        exact fin _ hE' hp' hv'
      | t :: u :: ts, y, hd, key, fin =>
        replace hd : (match (generalizing := false) av with | .tup vs => asDs s1.heap (t :: u :: ts) vs | _ => none) = some y := hd
        split at hd
        · obtain ⟨us, rfl, hl⟩ := hv
          obtain ⟨Ψ', hE', hp', hl'⟩ := key _ _ hd hl
          refine fin _ hE' hp' ?_
          have e : outV (t :: u :: ts) y = .tup (outs (t :: u :: ts) y) := by
            match ts with
            | [] => rfl
            | _ :: _ => rfl
          rw [e]
          exact ⟨us, rfl, hl'⟩
        · cases hd
    · exact hy.elim

/-- By a normal form that was reckoned. -/
theorem sat_nf (hsp : SpecSound C) {n : Nat} {f : FuncId} {sp : FSpec} {Q : dens sp.ps → Prop} (hQ : ∀ x, fnwp C n f sp x = Q x) (h : ∀ x, okds sp.ps x → sp.pre x → Q x) : Sat C.P f sp :=
  fnwp_sat hsp n f sp fun x a b => (hQ x).mpr (h x a b)

/-- .. of a function that hands back a slice of its own. -/
theorem fnwpG_sat (hsp : SpecSound C) (n : Nat) (f : FuncId) (sp : GSpec) (hall : ∀ x, okds sp.ps x → sp.pre x → fnwpG C n f sp x) : SatG C.P f sp := by
  intro Ψ w x args hprom hrel hpre
  have hk := hall x (rel_okds hrel) hpre
  unfold fnwpG at hk
  split at hk
  · exact hk.elim
  · rename_i fn hfn
    have hi : InvH w.heap.size w Ψ [] (St.heap { top := [], below := [], heap := [] }) w := ⟨Below.refl _ _, Nat.le_refl _, hprom, rfl, fun k u hu => by simp at hu, fun k b hb => by simp at hb, fun k b g hb => by simp at hb, fun i j bi bj g _ hb => by simp at hb⟩
    have hf : RelF Ψ [] (St.top { top := [], below := [], heap := [] } :: St.below { top := [], below := [], heap := [] }) [{ tmps := #[], defers := [] }] := ⟨_, _, rfl, ⟨rfl, rfl⟩, rfl⟩
    refine (inlined_sound hsp (acall_sound hsp n) hfn hk hi hf hrel).mono ?_
    rintro e w' ⟨v, Ψ1, β1, av, s1, rfl, hE1, hi1, hf1, hv, hy⟩
    have fin : v.oneCell' = true → BlkR w.heap.size Ψ1 [v] w' 0 (.grow sp.tid sp.e (sp.post x)) → (∀ g, claims [v] 0 g (.grow sp.tid sp.e (sp.post x)) → ∀ a, a.block = g → Ψ1 a = none) →
        ∃ v' Ψ', Ending.returned v = .returned v' ∧ Below w.heap.size w w' ∧ (∀ a u, Ψ a = some u → Ψ' a = some u) ∧ (∀ a u, Ψ' a = some u → Ψ a = some u ∨ (w.heap.size ≤ a.block ∧ a.spot = none ∧ w'.cell? a = some u)) ∧ v'.oneCell' = true ∧
          BlkR w.heap.size Ψ' [v'] w' 0 (.grow sp.tid sp.e (sp.post x)) ∧ ∀ g, claims [v'] 0 g (.grow sp.tid sp.e (sp.post x)) → ∀ a, a.block = g → Ψ' a = none :=
      fun h1 h2 h3 => ⟨v, Ψ1, rfl, hi1.low, hE1.1, fun ad u hu => (hE1.2 ad u hu).imp id fun h => ⟨h, hi1.prom ad u hu⟩, h1, h2, h3⟩
    split at hy
    · rename_i k
      split at hy
      · rename_i tid e xs hg
        split at hy
        · rename_i ht
          split at hy
          · rename_i ys hc
            obtain ⟨he, rfl⟩ := cast?_spec hc
            have ht := Nat.eq_of_beq_eq_true ht
            simp only [Ty.arr.injEq] at he
            subst he
            subst ht
            have hv : β1[k]? = some v := hv
            have hkk := hget_some hg (by simp)
            have e0 : ([v] : List Value)[0]? = some v := rfl
            have hy' : xs = sp.post x := hy
            rw [← hy'] at fin ⊢
            have hb1 : BlkR w.heap.size Ψ1 [v] w' 0 (.grow sp.tid sp.e xs) := by
              rcases hi1.blk k _ hkk with ⟨ad, h1, h2⟩ | ⟨g, cap, cur, h1, h2⟩
              · exact .inl ⟨ad, by rw [e0, ← hv, h1], h2⟩
              · exact .inr ⟨g, cap, cur, by rw [e0, ← hv, h1], h2⟩
            refine fin (hi1.one k v hv) hb1 (fun g hcl => hi1.free k _ g hkk ?_)
            obtain ⟨n, cap, hz, hcl⟩ := hcl
            exact ⟨n, cap, hz, by rw [hv, ← e0, hcl]⟩
          · exact hy.elim
        · exact hy.elim
      · exact hy.elim
    · have hv : v = .slice none 0 0 := hv
      subst hv
      rw [← hy]
      rw [← hy] at fin
      refine fin rfl (.inl ⟨none, rfl, rfl⟩) (fun g hc => ?_)
      obtain ⟨n, cap, hz, hc⟩ := hc
      simp at hc
    · exact hy.elim

/-- A slice of its own is data, too. -/
theorem SatG.toData {P : Program} {f : FuncId} {sp : GSpec} (hS : SatG P f sp) : Sat P f sp.data := by
  intro Ψ w x args hprom hrel hpre
  refine (hS Ψ w x args hprom hrel hpre).mono ?_
  rintro e w' ⟨v, Ψ1, rfl, hb, hle, hnew, hone, hblk, hfree⟩
  have hi : InvH w.heap.size w Ψ1 [v] [.grow sp.tid sp.e (sp.post x)] w' := by
    refine ⟨hb, hb.size, fun ad u hu => ?_, rfl, fun k u hu => ?_, fun k b hk => ?_, fun k b g hk hc => ?_, fun i j bi bj g hij hbi hbj => ?_⟩
    · rcases hnew ad u hu with h | h
      · obtain ⟨h1, h2⟩ := hprom ad u h
        refine ⟨h1, ?_⟩
        rw [hb.cell (p := ad) ?_]
        · exact h2
        · unfold World.cell? at h2
          split at h2
          · rename_i hh; exact heap_lt hh
          · cases h2
      · exact h.2
    · cases k with
      | zero => simp at hu; subst hu; exact hone
      | succ k => simp at hu
    · cases k with
      | zero => simp at hk; subst hk; exact hblk
      | succ k => simp at hk
    · cases k with
      | zero => simp at hk; subst hk; exact hfree g hc
      | succ k => simp at hk
    · cases i with
      | zero => cases j with
        | zero => exact absurd rfl hij
        | succ j => simp at hbj
      | succ i => simp at hbi
  have hf : RelF Ψ1 [v] (St.top { top := [.sl 0], below := [], heap := [.grow sp.tid sp.e (sp.post x)] } :: St.below { top := [.sl 0], below := [], heap := [.grow sp.tid sp.e (sp.post x)] }) [{ tmps := #[v], defers := [] }] :=
    ⟨_, _, rfl, ⟨rfl, v, [], rfl, rfl, rfl⟩, rfl⟩
  obtain ⟨Ψ2, hE, hi2, hf2, _⟩ := freeze_sound hi hf 0
  obtain ⟨a, as', e, ⟨_, hl⟩, _⟩ := hf2
  simp only [List.cons.injEq] at e
  obtain ⟨rfl, _⟩ := e
  obtain ⟨u, us, e, hu, _⟩ := hl
  simp only [List.cons.injEq] at e
  obtain ⟨rfl, _⟩ := e
  refine ⟨v, Ψ2, rfl, hb, fun a u h => hE.1 a u (hle a u h), fun a u h => ?_, hu⟩
  rcases hE.2 a u h with h' | h'
  · exact hnew a u h'
  · exact .inr ⟨h', hi2.prom a u h⟩

end Go.AM
