import Derived.Test.YtcnpblceamgfcaaGreatDoorKc7
set_option linter.unusedSimpArgs false
set_option linter.unusedVariables false
namespace Go.AM
open Go.RowKit
variable {B:Nat → Prop} {w0:World} {C:Ctx} {Ψ Ψ0:Pr} {β:List Value} {h:List Blk} {w w':World} {fr:List AV} {a a0:Act} {As:List Act} {W:List Nat}
theorem contract_sound {sp:FSpec} {f:FuncId} {avs:List AV} {vs:List Value} {s:St} {k:AV → St → Prop} (hS:Sat C.P f sp) (hk:contract sp avs s k) (hi:InvH C.P B w0 Ψ β s.heap w) (hf:RelF Ψ β (s.top :: s.below) As) (hr:RelL Ψ β avs vs) :
 Calls C.P f vs.toArray w fun e w'=>∃ v Ψ' β' av s',e = .returned v ∧ Ext B Ψ Ψ' ∧ InvH C.P B w0 Ψ' β' s'.heap w' ∧ RelF Ψ' β' (s'.top :: s'.below) As ∧ RelV Ψ' β' av v ∧ k av s':=by
 unfold contract at hk
 split at hk
 ·exact hk.elim
 ·rename_i x hd
  obtain ⟨hpre,hk⟩:=hk
  split at hk
  ·rename_i hfl
   refine (contract_call hS hi hr hd hpre (.inl hfl)).mono ?_
   rintro e w' ⟨v,Ψ',rfl,hst,hv⟩
   exact ⟨v,Ψ',β,_,s,rfl,hst.ext hi.size,hi.step hst,jQt hst.le (fun _ _ h=>h) _ _ hf,hv,hk⟩
  ·rename_i hfl
   simp only [Bool.not_eq_true] at hfl
   rw [hfl,cond_false] at hd
   obtain ⟨Ψ1,hE1,hi1,hf1,hr1⟩:=jXp (refsA avs) hi hf
   have hrel:=jJ8 hE1.1 hd hr hr1
   refine (hS (plain Ψ1) w x vs (plain_prom hi1) hi1.glob.plain (jVq hrel) hpre).mono ?_
   rintro e w' ⟨v,Ψ',rfl,hb,hle,hnew,hv⟩
   have hst:Step Ψ1 w (joinP Ψ1 Ψ') w':=joinP_step hb hle hnew
   exact ⟨v,_,β,_,_,rfl,hE1.trans (hst.ext hi.size),hi1.step hst,jQt hst.le (fun _ _ h=>h) _ _ hf1,jJe (plain_joinP Ψ1 Ψ') (fun k v h=>by simp at h) _ _ (outV_plain hv),hk⟩
theorem contractG_sound {g:GSpec} {f:FuncId} {avs:List AV} {vs px:List Value} {s:St} {k:AV → St → Prop} (hS:SatGp C.P f px g) (hk:contractG g avs s k) (hi:InvH C.P B w0 Ψ β s.heap w) (hf:RelF Ψ β (s.top :: s.below) As) (hr:RelL Ψ β avs vs) :
 Calls C.P f (px ++ vs).toArray w fun e w'=>∃ v Ψ' β' av s',e = .returned v ∧ Ext B Ψ Ψ' ∧ InvH C.P B w0 Ψ' β' s'.heap w' ∧ RelF Ψ' β' (s'.top :: s'.below) As ∧ RelV Ψ' β' av v ∧ k av s':=by
 unfold contractG at hk
 split at hk
 ·exact hk.elim
 ·rename_i x hd
  obtain ⟨hpre,hk⟩:=hk
  obtain ⟨Ψ1,hE1,hi1,hf1,hr1⟩:=jXp (refsA avs) hi hf
  have hrel:=jJ8 hE1.1 hd hr hr1
  refine (fresh_core hS hi1 hrel hpre).mono ?_
  rintro e w' ⟨v,Ψ',rfl,hst,hnh,hi2⟩
  exact ⟨v,Ψ',β ++ [v],.sl (hlen (s.freezeAll (refsA avs)).heap),{ s.freezeAll (refsA avs) with heap:=(s.freezeAll (refsA avs)).heap ++ [.grow g.tid g.e (g.post x)] },rfl,hE1.trans (hst.ext hi1.size),hi2,jQt hst.le (jQj v) _ _ hf1,by
   refine ⟨?_,hnh⟩
   rw [jXb,← hi1.len]
   simp,hk⟩
theorem growAt1 {tid:TypeId} {e:Ty} {xs:List e.den} {j:Nat} {v:Value} (hβ:β[j]? = some v) (hb:BlkR C.P B Ψ β w j (.grow tid e xs)):BlkR C.P B Ψ [v] w 0 (.grow tid e xs):=by
 unfold BlkR at *
 rw [hβ] at hb
 exact hb
theorem grow_back {tid:TypeId} {e:Ty} {xs:List e.den} {j:Nat} {v:Value} (hβ:β[j]? = some v) (hb:BlkR C.P B Ψ [v] w 0 (.grow tid e xs)):BlkR C.P B Ψ β w j (.grow tid e xs):=by
 unfold BlkR at *
 rw [hβ]
 exact hb
theorem asort_sound {g:SSpec} {f:FuncId} {avs:List AV} {vs:List Value} {s:St} {k:AV → St → Prop} (hS:SatS C.P f g) (hk:asort g avs s k) (hi:InvH C.P B w0 Ψ β s.heap w) (hf:RelF Ψ β (s.top :: s.below) As) (hr:RelL Ψ β avs vs) :
 Calls C.P f vs.toArray w fun e w'=>∃ v Ψ' β' av s',e = .returned v ∧ Ext B Ψ Ψ' ∧ InvH C.P B w0 Ψ' β' s'.heap w' ∧ RelF Ψ' β' (s'.top :: s'.below) As ∧ RelV Ψ' β' av v ∧ k av s':=by
 unfold asort at hk
 split at hk
 ·rename_i j c
  obtain ⟨v1,vs1,rfl,hv1,v2,vs2,rfl,hv2,hv3⟩:=hr
  simp only [RelL] at hv3
  subst hv3
  split at hk
  ·rename_i hc
   have hc:=Nat.eq_of_beq_eq_true hc
   subst hc
   have hv2:v2 = fnV g.cmp:=by
    obtain ⟨us,h1,h2⟩:=hv2
    simp only [RelL] at h2
    subst h2
    exact h1
   subst hv2
   split at hk
   ·rename_i tid e xs hg
    split at hk
    ·rename_i ht
     have ht:=Nat.eq_of_beq_eq_true ht
     subst ht
     split at hk
     ·rename_i ys hy
      obtain ⟨he,hy⟩:=cast?_spec hy
      have he':e = g.e:=by injection he
      subst he'
      have hy:ys = xs:=hy
      subst hy
      obtain ⟨hlen,hk⟩:=hk
      have hget:=jQf hg (by simp)
      have hb:=hi.blk j _ hget
      have hβ:β[j]? = some v1:=hv1.1
      have hb1:BlkR C.P B Ψ [v1] w 0 (.grow g.tid g.e ys):=growAt1 hβ hb
      refine (hS B Ψ w ys v1 hb1 hlen).mono ?_
      rintro e w' ⟨rfl,hw⟩
      refine ⟨_,Ψ,β,.tup [],{ s with heap:=hset s.heap j (.grow g.tid g.e (g.f ys)) },rfl,Ext.refl _ _,?_,hf,(show RelV Ψ β (.tup []) (.tuple #[]) from ⟨[],rfl,rfl⟩),hk⟩
      show InvH C.P B w0 Ψ β (hset s.heap j (.grow g.tid g.e (g.f ys))) w'
      rw [jQr]
      rcases hw with ⟨rfl,hfx⟩ | ⟨gb,hc1,hgb,hb2⟩
      ·rw [hfx,set_same hget]
       exact hi
      ·have hcl:jQc β j gb (.grow g.tid g.e ys):=by
        obtain ⟨n,cap,h1,h2⟩:=hc1
        exact ⟨n,cap,h1,hβ.trans h2⟩
       exact hi.rewriteG hget rfl hcl hgb (fun g' h'=>h') (grow_back hβ hb2)
     ·exact hk.elim
    ·exact hk.elim
   ·exact hk.elim
  ·exact hk.elim
 ·exact hk.elim
theorem pads_rel:∀ {avs:List AV} {vs:List Value} {n:Nat},RelL Ψ β avs vs → avs.length ≤ n → RelL Ψ β (pads avs n) (vs ++ List.replicate (n - vs.length) undef)
 | [],vs,n,hr,_=>by
  simp only [RelL] at hr
  subst hr
  simp only [pads,List.nil_append,List.length_nil,Nat.sub_zero]
  induction n with
  | zero=>rfl
  | succ n ih=>rw [List.replicate_succ,List.replicate_succ]; exact ⟨_,_,rfl,rfl,ih (by simp)⟩
 | av :: avs,vs,n,⟨v,vs',e,hv,hl⟩,hn=>by
  subst e
  have hn:avs.length + 1 ≤ n:=by simpa using hn
  refine ⟨v,vs' ++ List.replicate (n - 1 - vs'.length) undef,?_,hv,pads_rel hl (by omega)⟩
  simp only [List.cons_append,List.length_cons]
  rw [show n - (vs'.length + 1) = n - 1 - vs'.length by omega]
def res1 (tmps:Array Value):ResultVar → Sem Value
 | .tmp t=>pure (tmps.getD t undef)
 | .cell a t=>do loadVar t (← asAddr (tmps.getD a undef))
theorem resV_sound {s:St} (hi:InvH C.P B w0 Ψ β s.heap w) (hfr:RelL Ψ β s.top a.tmps.toList):∀ {rs:List ResultVar} {avs:List AV},resV C s rs = some avs → ∃ vs,(rs.mapM (res1 a.tmps)).run C.P w = .ok vs w ∧ RelL Ψ β avs vs
 | [],avs,hr=>by
  simp [resV] at hr
  subst hr
  exact ⟨[],by simp,rfl⟩
 | .tmp t :: rs,avs,hr=>by
  unfold resV at hr
  split at hr
  ·rename_i l hl
   simp at hr
   subst hr
   obtain ⟨vs,h1,h2⟩:=resV_sound hi hfr hl
   have h3:=jXj _ _ hfr t
   rw [jYt,← Array.getD_eq_getD_getElem?] at h3
   exact ⟨_ :: vs,by simp [List.mapM_cons,res1,h1],_,_,rfl,h3,h2⟩
  ·cases hr
 | .cell t ty :: rs,avs,hr=>by
  unfold resV at hr
  split at hr
  ·rename_i k off hown
   split at hr
   ·rename_i cs hg
    split at hr
    ·rename_i v l hlo hl
     simp at hr
     subst hr
     obtain ⟨vs,h1,h2⟩:=resV_sound hi hfr hl
     have h3:=jXj _ _ hfr t
     rw [jYt,← Array.getD_eq_getD_getElem?,hown] at h3
     obtain ⟨g,c,e,hβ,hptr,hh,hB,hrel,hone⟩:=own_blk hi hg h3
     obtain ⟨ag,n,hlay,hle,hrv⟩:=loadOwn_ok hlo hrel hone
     have hrun:(loadVar ty ⟨g,off,none⟩).run C.P w = .ok _ w:=jQ0 hlay (us:=(c.toList.drop off).take n) (by simp; simp at hle; omega) (fun j u hj=>by
      rw [jXr hh]
      have:=jQx hj
      simpa using this)
     exact ⟨_ :: vs,by simp [List.mapM_cons,res1,h1,hptr,hrun,asAddr],_,_,rfl,hrv,h2⟩
    ·cases hr
   ·rename_i u x hg
    split at hr
    ·rename_i ag n hlay
     split at hr
     ·rename_i v l hsub hl
      simp at hr
      subst hr
      obtain ⟨vs,h1,h2⟩:=resV_sound hi hfr hl
      have h3:=jXj _ _ hfr t
      rw [jYt,← Array.getD_eq_getD_getElem?,hown] at h3
      obtain ⟨g,c,e,hβ,hptr,hh,hB,hrd⟩:=dat_blk hi hg h3
      obtain ⟨t',x',rfl,k1,k2,k3,k4⟩:=subX_rv hsub hrd
      have hrun:(loadVar ty ⟨g,off,none⟩).run C.P w = .ok _ w:=jQ0 hlay (us:=(c.toList.drop off).take n) (by simp; simp at k3; omega) (fun j u hj=>by
       rw [jXr hh]
       have:=jQx hj
       simpa using this)
      exact ⟨_ :: vs,by simp [List.mapM_cons,res1,h1,hptr,hrun,asAddr],_,_,rfl,jKo k4 k1.symm (fun hf=>by have:=(jXn hlay).2.2 hf; rw [jQb t' _ _ k4]; omega),h2⟩
     ·cases hr
    ·cases hr
   ·cases hr
  ·cases hr
theorem results_eq (fn:Func) (tmps:Array Value) (vs:List Value) (hr:(fn.results.toList.mapM (res1 tmps)).run C.P w = .ok vs w) :
 (results fn tmps).run C.P w = .ok (if hh:vs.length = 1 then vs[0] else .tuple vs.toArray) w:=by
 have e:results fn tmps = (do let vs ← fn.results.mapM (res1 tmps); pure (if h:vs.size = 1 then vs[0] else .tuple vs)):=rfl
 rw [e,Array.mapM_eq_mapM_toList]
 simp [hr]
theorem tup1_rel {avs:List AV} {vs:List Value} (hr:RelL Ψ β avs vs):RelV Ψ β (tup1 avs) (if hh:vs.length = 1 then vs[0] else .tuple vs.toArray):=by
 match avs,hr with
 | [],hr =>
  simp only [RelL] at hr
  subst hr
  exact ⟨[],rfl,rfl⟩
 | [av],⟨v,vs',e,hv,hl⟩ =>
  simp only [RelL] at hl
  subst hl e
  exact hv
 | av :: av' :: avs,hr =>
  have hlen:=jX0 _ _ hr
  rw [dif_neg (by simp at hlen; omega)]
  exact ⟨vs,rfl,hr⟩
def ResC (C:Ctx) (B:Nat → Prop) (w0:World) (Ψ:Pr) (As:List Act) (k:AV → St → Prop) (e:Ending) (w':World):Prop :=
 ∃ v Ψ' β' av s',e = .returned v ∧ Ext B Ψ Ψ' ∧ InvH C.P B w0 Ψ' β' s'.heap w' ∧ RelF Ψ' β' (s'.top :: s'.below) As ∧ RelV Ψ' β' av v ∧ k av s'
theorem fin_sound {fn:Func} {k:AV → St → Prop} {s':St} {Ψ2:Pr} {β':List Value} {tmps:Array Value} (hk:fin C fn k s') (hE2:Ext B Ψ Ψ2) (hi2:InvH C.P B w0 Ψ2 β' s'.heap w) (hl2:RelL Ψ2 β' s'.top tmps.toList) (hf2:RelF Ψ2 β' s'.below As) :
 LeavesIn Fence.wide 0 C.P fn tmps (ResC C B w0 Ψ As k) [] .returning w:=by
 unfold fin at hk
 split at hk
 ·exact hk.elim
 ·rename_i rvs hrv
  split at hk
  ·exact hk.elim
  ·rename_i s'' hpop
   obtain ⟨us,hus,hrel⟩:=resV_sound (a:={ tmps:=tmps,defers:=[] }) hi2 hl2 hrv
   refine ⟨_,results_eq fn tmps us hus,_,Ψ2,β',_,s'',rfl,hE2,?_,?_,tup1_rel hrel,hk⟩
   ·unfold popped at hpop
    split at hpop
    ·simp at hpop; subst hpop; exact hi2
    ·cases hpop
   ·unfold popped at hpop
    split at hpop
    ·rename_i f1 fs1 hb1
     simp at hpop
     subst hpop
     rw [hb1] at hf2
     exact hf2
    ·cases hpop
theorem prom_mark (hi:InvH C.P B w0 Ψ β h w) (ad:Addr) (v:Value) (hv:Ψ ad = some v) (hs:ad.spot = some 0):ad.off = 0:=by
 have:=hi.prom ad v hv
 unfold Pm at this
 rw [hs] at this
 exact this.1
theorem enter_rel {avs:List AV} {vs:List Value} {fn:Func} {s:St} (hf:RelF Ψ β (s.top :: s.below) As) (hr:RelL Ψ β avs vs) (hle:avs.length ≤ fn.ntmps) :
 RelF Ψ β (pads avs fn.ntmps :: s.top :: s.below) ({ tmps:=vs.toArray ++ Array.replicate (fn.ntmps - vs.toArray.size) undef,defers:=[] } :: As):=by
 refine jZ3 ⟨⟨[],[],rfl,by simp,List.nodup_nil,by simp⟩,?_⟩ hf
 have:=pads_rel hr hle
 simpa using this
theorem inlined0_sound (hsp:jQa C) {call:CallT} (hc:jZe C call) {f:FuncId} {fn:Func} (hfn:C.P.funcs[f]? = some fn) {code:Code} (hbody:fn.body = some code) {avs:List AV} {vs:List Value} {s:St} {k:AV → St → Prop} (hk:inlined0 C call f fn code avs s k) (hi:InvH C.P B w0 Ψ β s.heap w) (hf:RelF Ψ β (s.top :: s.below) As) (hr:RelL Ψ β avs vs) :
 Calls C.P f vs.toArray w (ResC C B w0 Ψ As k):=by
 unfold inlined0 at hk
 split at hk
 ·rename_i hle
  simp only [Nat.ble_eq,jXg] at hle
  refine callsIn_wide.1 (callsIn_of_wp_marks (F:=Fence.wide) (n:=0) hfn hbody trivial ?_)
  refine wpIn_mono (jX6 (ro:=none) (Ψ0:=Ψ) (W:=dsts code) (As:=As) (β:=β) (Ψ:=Ψ) hsp hc f code (p:=[]) (by simp [jZ1,hfn,hbody]) hk (fun l hl=>by cases hl) (Ext.refl B Ψ) hi (enter_rel hf hr hle) (Same.refl _ _ _) fun _ h=>h) ?_
  have done:∀ (a':Act) (w':World),PostC C B w0 Ψ As (dsts code) { tmps:=vs.toArray ++ Array.replicate (fn.ntmps - vs.toArray.size) undef,defers:=[] } (fin C fn k) a' w' → LeavesInM Fence.wide 0 C.P fn a'.tmps (ResC C B w0 Ψ As k) a'.defers .returning w':=by
   rintro a' w' ⟨Ψ',β',s',hE',hi',hf',hS',hk'⟩
   obtain ⟨_,ds,hd,_,hnew⟩:=hS'
   obtain ⟨w2,Ψ2,hL,hE2,hi2,hl2,hf2⟩:=unmark (ds:=ds) (prom_mark hi) hi' hf' hf hE' (by simpa using hd) hnew
   exact hL _ _ _ (fin_sound hk' hE2 hi2 hl2 hf2)
  intro e a' w' hq
  cases e with
  | normal=>exact done a' w' hq
  | ret=>exact done a' w' hq
  | exit _=>obtain ⟨_,_,_,_,_,_,_,hk'⟩:=hq; exact hk'
  | goto _=>exact hq
  | panic _=>exact hq.elim
  | outgrown=>exact hq.elim
 ·exact hk.elim
theorem noMk_nil {code:Code} (h:noMk (dsts code) = true) {a0:Act} (hS:Same Ψ0 (dsts code) a0 a):a.defers = a0.defers:=by
 obtain ⟨_,ds,hd,hm,_⟩:=hS
 have:ds = []:=by
  refine Classical.byContradiction fun hne=>?_
  have hm:=hm hne
  unfold noMk at h
  rw [memN'_iff.2 hm] at h
  cases h
 subst this
 simpa using hd
theorem dcall_sound (hsp:jQa C) {call:CallT} (hc:jZe C call) {g:FuncId} {avs:List AV} {vs:List Value} {s:St} {k:St → Prop} {u:FrameMode} (hk:dcall C call g avs s k) (hi:InvH C.P B w0 Ψ β s.heap w) (hf:RelF Ψ β (s.top :: s.below) As) (hr:RelL Ψ β avs vs) :
 CallsDIn Fence.wide 0 C.P g vs.toArray u w fun e u' w'=>u' = u ∧ ResC C B w0 Ψ As (fun _ s'=>k s') e w':=by
 unfold dcall at hk
 split at hk
 ·exact hk.elim
 ·rename_i fn hfn
  split at hk
  ·exact hk.elim
  ·rename_i code hbody
   split at hk
   ·rename_i hno
    unfold inlined0 at hk
    split at hk
    ·rename_i hle
     simp only [Nat.ble_eq,jXg] at hle
     refine callsDIn_of_wp hfn hbody trivial ?_
     refine wpIn_mono (jX6 (ro:=none) (Ψ0:=Ψ) (W:=dsts code) (As:=As) (β:=β) (Ψ:=Ψ) hsp hc g code (p:=[]) (by simp [jZ1,hfn,hbody]) hk (fun l hl=>by cases hl) (Ext.refl B Ψ) hi (enter_rel hf hr hle) (Same.refl _ _ _) fun _ h=>h) ?_
     have done:∀ (a':Act) (w':World),PostC C B w0 Ψ As (dsts code) { tmps:=vs.toArray ++ Array.replicate (fn.ntmps - vs.toArray.size) undef,defers:=[] } (fin C fn fun _ s'=>k s') a' w' → a'.defers = [] ∧ ∃ v,(results fn a'.tmps).run C.P w' = .ok v w' ∧ ResC C B w0 Ψ As (fun _ s'=>k s') (.returned v) w':=by
      rintro a' w' ⟨Ψ',β',s',hE',hi',hf',hS',hk'⟩
      exact ⟨noMk_nil hno hS',fin_sound hk' hE' hi' (jQo hf').2 (jJ7 hf')⟩
     intro e a' w' hq
     cases e with
     | normal=>exact done a' w' hq
     | ret=>exact done a' w' hq
     | exit _=>obtain ⟨_,_,_,_,_,_,_,hk'⟩:=hq; exact hk'
     | goto _=>exact hq
     | panic _=>exact hq.elim
     | outgrown=>exact hq.elim
    ·exact hk.elim
   ·exact hk.elim
theorem defLast_eq:∀ {l:List Oper} {p:List Oper} {d:Operand × List Operand},defLast l = some (p,d) → ∃ o,l = p ++ [o] ∧ defOp o = some d
 | [],_,_,h=>by simp [defLast] at h
 | o :: l,p,d,h=>by
  unfold defLast at h
  split at h
  ·split at h
   ·rename_i d' hd
    simp only [Option.some.injEq,Prod.mk.injEq] at h
    obtain ⟨rfl,rfl⟩:=h
    exact ⟨o,rfl,hd⟩
   ·cases h
  ·split at h
   ·rename_i p' d' hl
    simp only [Option.some.injEq,Prod.mk.injEq] at h
    obtain ⟨rfl,rfl⟩:=h
    obtain ⟨o',e,ho⟩:=defLast_eq hl
    exact ⟨o',by rw [e]; rfl,ho⟩
   ·cases h
theorem defReg_eq {x:Code} {id:Nat} {ops:Array Oper} {pre:List Oper} {fo:Operand} {as:List Operand} (h:defReg x = some (id,ops,pre,fo,as)):x = .region id ops false ∧ ∃ o,ops.toList = pre ++ [o] ∧ defOp o = some (fo,as):=by
 unfold defReg at h
 split at h
 ·rename_i id' ops' draw
  cases draw
  ·simp only [cond_false] at h
   split at h
   ·rename_i p d hl
    simp only [Option.some.injEq,Prod.mk.injEq] at h
    obtain ⟨rfl,rfl,rfl,rfl⟩:=h
    exact ⟨rfl,defLast_eq hl⟩
   ·cases h
  ·cases h
 ·cases h
def PostD (C:Ctx) (B:Nat → Prop) (w0:World) (Ψ0:Pr) (As:List Act) (k:Option (FuncId × List Operand) → St → Prop) (a:Act) (w:World):Prop :=
 ∃ Ψ β s,Ext B Ψ0 Ψ ∧ InvH C.P B w0 Ψ β s.heap w ∧ RelF Ψ β (s.top :: s.below) (a :: As) ∧
  ((a.defers = [] ∧ k none s) ∨ ∃ g as,a.defers = [{ target:=.fn (.func g) #[],args:=(as.map a.eval).toArray }] ∧ jJf C g = true ∧ k (some (g,as)) s)
theorem keptAs_eq {W:List Nat} {a b:Act} (hS:∀ i,i ∉ W → b.tmps[i]? = a.tmps[i]?):∀ {l:List Operand},keptAs W l = true → l.map b.eval = l.map a.eval
 | [],_=>rfl
 | x :: l,h=>by
  simp only [keptAs,Bool.and_eq_true] at h
  obtain ⟨h1,h2⟩:=h
  rw [List.map_cons,List.map_cons,keptAs_eq hS h2]
  cases x with
  | tmp t =>
   simp only [Bool.not_eq_true'] at h1
   have hn:t ∉ W:=fun hm=>by rw [memN'_iff.2 hm] at h1; cases h1
   have:=hS t hn
   simp only [Act.eval]
   congr 1
   simp [this]
  | _=>cases h1
theorem op_defer {o:Oper} {fo:Operand} {as:List Operand} {g:FuncId} (ho:defOp o = some (fo,as)) (hfo:a.eval fo = .func (.func g) #[] #[]) :
 o.guard = none ∧ o.dst = none ∧ (execOp a.eval o).run C.P w = .ok (.defer { target:=.fn (.func g) #[],args:=(as.map a.eval).toArray }) w:=by
 unfold defOp at ho
 split at ho
 ·rename_i c hg hd hop
  split at ho
  ·rename_i f hcal
   simp only [Option.some.injEq,Prod.mk.injEq] at ho
   obtain ⟨rfl,rfl⟩:=ho
   refine ⟨hg,hd,?_⟩
   have e:(c.args.toList.map a.eval).toArray = #[] ++ c.args.map a.eval ++ #[]:=by
    apply Array.ext'
    simp
   rw [e]
   simp [execOp,hop,resolve,hcal,hfo,Deferred.ofValue]
  ·cases ho
 ·cases ho
theorem awpD_sound (hsp:jQa C) {call:CallT} (hc:jZe C call) (fid:FuncId):∀ (c:Code) {p:List Nat} {k:Option (FuncId × List Operand) → St → Prop} {s:St} {Ψ0 Ψ:Pr} {β:List Value} {a:Act} {w:World},jZ1 C.P fid p = some c → awpD C call fid p c k s → noMk (dsts c) = true →
 Ext B Ψ0 Ψ → InvH C.P B w0 Ψ β s.heap w → RelF Ψ β (s.top :: s.below) (a :: As) → a.defers = [] → c.wpIn (Fw none) 0 C.P (fun e a' w'=>match e with | .normal=>PostD C B w0 Ψ0 As k a' w' | .ret=>PostD C B w0 Ψ0 As k a' w' | _=>False) a w:=by
 intro c
 induction c with
 | seq x y _ ihy =>
  intro p k s Ψ0 Ψ β a w hp hk hno hE hi hf hd
  have hnx:noMk (dsts x) = true ∧ noMk (dsts y) = true:=by
   unfold noMk at hno ⊢
   simp only [Bool.not_eq_true',← Bool.not_eq_true,memN'_iff,dsts,List.mem_append,not_or] at hno ⊢
   exact hno
  unfold awpD at hk
  split at hk
  ·rename_i id ops pre fo as hreg
   obtain ⟨rfl,o,hops,ho⟩:=defReg_eq hreg
   split at hk
   ·rename_i hkeep
    refine wpIn_seq (wpIn_region_list ?_)
    rw [hops]
    refine aops_tail (ro:=none) (W:=dsts (.region id ops false)) (As:=As) (Ψ0:=Ψ0) (a0:=a) hc ops [o] pre hk hE hi hf (Same.refl _ _ _) (fun o' ho' t ht=>?_) ?_
    ·simp only [dsts]
     rw [hops]
     exact dstsOps_mem (by simp [ho']) ht
    ·rintro a1 w1 ⟨Ψ1,β1,s1,hE1,hi1,hf1,hS1,hk1⟩
     have hd1:a1.defers = []:=(noMk_nil hnx.1 hS1).trans hd
     split at hk1
     ·rename_i g hev
      split at hk1
      ·rename_i hok
       have hef:=jZp (jQo hf1) fo
       rw [hev] at hef
       obtain ⟨vs,hfv,hcap⟩:=hef
       have hcap:vs = []:=hcap
       subst hcap
       obtain ⟨hg,hdst,hrun⟩:=op_defer (C:=C) (w:=w1) ho hfv
       unfold wpListIn
       rw [if_pos (by simp [Region.wanted,hg])]
       refine ⟨fun _ _=>trivial,?_⟩
       rw [show o.semAt (Fw none).round a1.eval = execOp a1.eval o from Oper.semAt_none _ _,hrun,Oper.uponIn_defer,hdst]
       show wpListIn _ _ _ _ _ [] _ _
       refine wpListIn_nil ?_
       have hf2:RelF Ψ1 β1 (s1.top :: s1.below) (({ a1 with defers:={ target:=.fn (.func g) #[],args:=(as.map a1.eval).toArray } :: a1.defers }:Act).put none undef :: As):=by
        refine jZ3 ⟨⟨[],[{ target:=.fn (.func g) #[],args:=(as.map a1.eval).toArray }],by simp [Act.put,hd1],fun d hd' D e=>?_,List.nodup_nil,by simp⟩,(jQo hf1).2⟩ (jJ7 hf1)
        simp only [List.mem_singleton] at hd'
        subst hd'
        simp [mkD] at e
       refine wpIn_mono (jX6 (ro:=none) (Ψ0:=Ψ0) (W:=dsts y) (As:=As) hsp hc fid y (p:=1 :: p) (by simp [jZ1,hp,jJg]) hk1 (fun l hl=>by cases hl) hE1 hi1 hf2 (Same.refl _ _ _) fun _ h=>h) ?_
       have done:∀ (a':Act) (w':World),PostC C B w0 Ψ0 As (dsts y) (({ a1 with defers:={ target:=.fn (.func g) #[],args:=(as.map a1.eval).toArray } :: a1.defers }:Act).put none undef) (k (some (g,as))) a' w' → PostD C B w0 Ψ0 As k a' w':=by
        rintro a' w' ⟨Ψ',β',s',hE',hi',hf',hS',hk'⟩
        refine ⟨Ψ',β',s',hE',hi',hf',.inr ⟨g,as,?_,hok,hk'⟩⟩
        rw [noMk_nil hnx.2 hS',keptAs_eq hS'.1.2 hkeep]
        simp only [Act.put,hd1]
        rfl
       intro e a' w' hq
       cases e with
       | normal=>exact done a' w' hq
       | ret=>exact done a' w' hq
       | exit _=>obtain ⟨_,_,_,_,_,_,_,hk'⟩:=hq; exact hk'
       | goto _=>exact hq
       | panic _=>exact hq.elim
       | outgrown=>exact hq.elim
      ·exact hk1.elim
     ·exact hk1.elim
   ·exact hk.elim
  ·refine wpIn_seq (wpIn_mono (jX6 (ro:=none) (Ψ0:=Ψ0) (W:=dsts x) (As:=As) hsp hc fid x (p:=0 :: p) (by simp [jZ1,hp,jJg]) hk (fun l hl=>by cases hl) hE hi hf (Same.refl _ _ _) fun _ h=>h) ?_)
   intro e a' w' hq
   cases e with
   | normal =>
    obtain ⟨Ψ',β',s',hE',hi',hf',hS',hk'⟩:=hq
    exact ihy (by simp [jZ1,hp,jJg]) hk' hnx.2 hE' hi' hf' ((noMk_nil hnx.1 hS').trans hd)
   | ret =>
    obtain ⟨Ψ',β',s',hE',hi',hf',hS',hk'⟩:=hq
    exact ⟨Ψ',β',s',hE',hi',hf',.inl ⟨(noMk_nil hnx.1 hS').trans hd,hk'⟩⟩
   | exit _=>obtain ⟨_,_,_,_,_,_,_,hk'⟩:=hq; exact hk'
   | goto _=>exact hq
   | panic _=>exact hq.elim
   | outgrown=>exact hq.elim
 | _=>intro p k s Ψ0 Ψ β a w hp hk; exact hk.elim
theorem inlinedD_sound (hsp:jQa C) {call:CallT} (hc:jZe C call) {f:FuncId} {fn:Func} (hfn:C.P.funcs[f]? = some fn) {code:Code} (hbody:fn.body = some code) {avs:List AV} {vs:List Value} {s:St} {k:AV → St → Prop} (hk:inlinedD C call f fn code avs s k) (hi:InvH C.P B w0 Ψ β s.heap w) (hf:RelF Ψ β (s.top :: s.below) As) (hr:RelL Ψ β avs vs) :
 Calls C.P f vs.toArray w (ResC C B w0 Ψ As k):=by
 unfold inlinedD at hk
 split at hk
 ·rename_i hle
  simp only [Bool.and_eq_true,Nat.ble_eq,jXg] at hle
  obtain ⟨hle,hno⟩:=hle
  refine callsIn_wide.1 (callsIn_of_wp_marks (F:=Fence.wide) (n:=0) hfn hbody trivial ?_)
  refine wpIn_mono (awpD_sound (Ψ0:=Ψ) (As:=As) hsp hc f code (p:=[]) (by simp [jZ1,hfn,hbody]) hk hno (Ext.refl B Ψ) hi (enter_rel hf hr hle) rfl) ?_
  have done:∀ (a':Act) (w':World),PostD C B w0 Ψ As (fun d s'=>match d with
   | none=>fin C fn k s'
   | some (g,as)=>dcall C call g (evs s'.top as) s' (fin C fn k)) a' w' → LeavesInM Fence.wide 0 C.P fn a'.tmps (ResC C B w0 Ψ As k) a'.defers .returning w':=by
   rintro a' w' ⟨Ψ',β',s',hE',hi',hf',hk'⟩
   rcases hk' with ⟨hd,hk'⟩ | ⟨g,as,hd,hok,hk'⟩
   ·rw [hd]
    exact fin_sound hk' hE' hi' (jQo hf').2 (jJ7 hf')
   ·rw [hd]
    have hargs:=jZ7 (Ψ:=Ψ') (β:=β') (fr:=s'.top) (a:=a') as fun x _=>jZp (jQo hf') x
    have hf2:RelF Ψ' β' (s'.top :: s'.below) ({ a' with defers:=[] } :: As):=jZ3 ⟨⟨[],[],rfl,by simp,List.nodup_nil,by simp⟩,(jQo hf').2⟩ (jJ7 hf')
    have hcall:=dcall_sound (u:=.returning) hsp hc hk' hi' hf2 hargs
    refine ⟨by simp,.inr ⟨fun h=>(by cases h),.func g,#[],g,(as.map a'.eval).toArray,rfl,?_,fun _ _=>trivial,hcall.mono ?_⟩⟩
    ·have:=kQ5 hok (as.map a'.eval).toArray w'
     simpa [invoke] using this
    ·rintro e u' w2 ⟨rfl,v,Ψ2,β2,av,s2,rfl,hE2,hi2,hf2',hv,hk2⟩
     exact fin_sound hk2 (hE'.trans hE2) hi2 (jQo hf2').2 (jJ7 hf2')
  intro e a' w' hq
  cases e with
  | normal=>exact done a' w' hq
  | ret=>exact done a' w' hq
  | exit _=>exact hq.elim
  | goto _=>exact hq.elim
  | panic _=>exact hq.elim
  | outgrown=>exact hq.elim
 ·exact hk.elim
theorem jJz (hsp:jQa C) {call:CallT} (hc:jZe C call) {f:FuncId} {fn:Func} (hfn:C.P.funcs[f]? = some fn) {avs:List AV} {vs:List Value} {s:St} {k:AV → St → Prop} (hk:inlined C call f fn avs s k) (hi:InvH C.P B w0 Ψ β s.heap w) (hf:RelF Ψ β (s.top :: s.below) As) (hr:RelL Ψ β avs vs) :
 Calls C.P f vs.toArray w fun e w'=>∃ v Ψ' β' av s',e = .returned v ∧ Ext B Ψ Ψ' ∧ InvH C.P B w0 Ψ' β' s'.heap w' ∧ RelF Ψ' β' (s'.top :: s'.below) As ∧ RelV Ψ' β' av v ∧ k av s':=by
 unfold inlined at hk
 split at hk
 ·exact hk.elim
 ·rename_i code hbody
  split at hk
  ·exact inlinedD_sound hsp hc hfn hbody hk hi hf hr
  ·exact inlined0_sound hsp hc hfn hbody hk hi hf hr
theorem jKn (hsp:jQa C):∀ n,jZe C (acall C n)
 | 0=>⟨fun j avs s k hk=>hk.elim,fun f avs s k hk=>hk.elim⟩
 | n + 1=>by
  refine ⟨fun j avs s k hk B w0 Ψ β As vs w hi hf hr=>?_,?_⟩
  ·unfold acall at hk
   split at hk
   ·exact hk.elim
   ·exact around_sound hsp (jKn hsp n) hk hi hf hr
  intro f avs s k hk _ B w0 Ψ β As vs w hi hf hr
  unfold acall at hk
  split at hk
  ·rename_i isp hs
   exact hk.elim
  ·split at hk
   ·rename_i g hs
    exact contractG_sound (px:=[]) (hsp.2.1 f g hs) hk hi hf hr
   ·split at hk
    ·rename_i sp hs
     exact contract_sound (hsp.1 f sp hs) hk hi hf (maskAs_rel sp.ps hr)
    ·split at hk
     ·rename_i g hs
      exact asort_sound (hsp.2.2.1 f g hs) hk hi hf hr
     ·split at hk
      ·rename_i g hs
       exact hk.elim
      split at hk
      ·rename_i g hs
       split at hk
       ·rename_i rest
        obtain ⟨v1,vs1,rfl,hv1,hr1⟩:=hr
        have hv1:v1 = .slice none 0 0:=hv1
        subst hv1
        exact contractG_sound (px:=[.slice none 0 0]) (hsp.2.2.2.1 f g hs) hk hi hf hr1
       ·exact hk.elim
      ·split at hk
       ·rename_i hs' hs
        exact aproc_sound (hsp.2.2.2.2.2.2.1 f hs' hs) hk hi hf hr
       split at hk
       ·rename_i g hs
        exact amut_sound (hsp.2.2.2.2.2.2.2 f g hs) hk hi hf hr
       split at hk
       ·exact hk.elim
       ·rename_i fn hfn
        exact jJz hsp (jKn hsp n) hfn hk hi hf hr
def okd:(t:Ty) → t.den → Prop
 | .int k,n=>k.has n
 | .bool,_=>True
 | .fnc,_=>True
 | .any,_=>True
 | .str,l=>(∀ c ∈ l,0 ≤ c ∧ c ≤ 255) ∧ l.length ≤ maxLen
 | .arr e,xs=>xs.length ≤ maxLen ∧ ∀ x ∈ xs,okd e x
 | .vec n e,xs=>xs.length = n ∧ ∀ x ∈ xs,okd e x
 | .unit,_=>True
 | .pair a b,x=>okd a x.1 ∧ okd b x.2
 | .rose a b,x=>Rose.all (fun y n=>okd a (Prod.fst y) ∧ okd b (Prod.snd y) ∧ n ≤ maxLen) x
def okds:(ts:List Ty) → dens ts → Prop
 | [],_=>True
 | [t],x=>okd t x
 | t :: u :: ts,x=>okd t x.1 ∧ okds (u :: ts) x.2
theorem rdL_okd {α:Type} {R:α → List Value → Prop} {p:α → Prop} (h:∀ x vs,R x vs → p x):∀ (xs:List α) (vs:List Value),rdL R xs vs → ∀ x ∈ xs,p x
 | [],_,_,_,hx=>by simp at hx
 | y :: ys,_,⟨c,vs',_,h1,h2⟩,x,hx=>by
  rcases List.mem_cons.1 hx with rfl | hx
  ·exact h _ _ h1
  ·exact rdL_okd h ys vs' h2 x hx
theorem rdL_okd' {α:Type} {R:α → List Value → Prop} {p:α → Prop}:∀ (xs:List α) (vs:List Value),(∀ x ∈ xs,∀ vs,R x vs → p x) → rdL R xs vs → ∀ x ∈ xs,p x
 | [],_,_,_,_,hx=>by simp at hx
 | y :: ys,_,h,⟨c,vs',_,h1,h2⟩,x,hx=>by
  rcases List.mem_cons.1 hx with rfl | hx
  ·exact h _ (by simp) _ h1
  ·exact rdL_okd' ys vs' (fun z hz=>h z (by simp [hz])) h2 x hx
theorem rdR_okd {α β:Type} {Ra:α → List Value → Prop} {Rb:β → List Value → Prop} {pa:α → Prop} {pb:β → Prop} (ha:∀ x vs,Ra x vs → pa x) (hb:∀ x vs,Rb x vs → pb x) :
 ∀ (r:Rose (α × β)) (vs:List Value),rdR Ψ Ra Rb r vs → Rose.all (fun y n=>pa y.1 ∧ pb y.2 ∧ n ≤ maxLen) r :=
 Rose.ind fun x l ih vs hr=>by
  obtain ⟨u,s,w,_,h2,h3,a',cap,_,h5,h6,h7⟩:=(rdR_iff _ vs).1 hr
  simp only [Rose.val,Rose.subs] at h2 h3 h5 h7
  refine ⟨⟨ha _ _ h2,hb _ _ h3,Nat.le_trans h5 h6⟩,(Rose.alls_iff l).2 ?_⟩
  rcases h7 with h7 | ⟨cells,h7,_⟩
  ·rw [h7]; simp
  ·exact rdL_okd' l cells ih h7
theorem jJu:∀ (t:Ty) (x:t.den) (cs:List Value),reads Ψ t x cs → okd t x
 | .int k,n,cs,h=>h.2
 | .bool,_,_,_=>trivial
 | .fnc,_,_,_=>trivial
 | .any,_,_,_=>trivial
 | .str,l,cs,h=>⟨h.2.1,h.2.2⟩
 | .arr e,xs,cs,⟨ad,cap,_,h1,h2,h3⟩=>⟨Nat.le_trans h1 h2,by
  rcases h3 with rfl | ⟨cells,h4,_⟩
  ·intro x hx; cases hx
  ·exact rdL_okd (jJu e) xs cells h4⟩
 | .vec n e,xs,cs,h=>⟨h.1,rdL_okd (jJu e) xs cs h.2⟩
 | .unit,_,_,_=>trivial
 | .pair a b,x,cs,⟨u,v,_,h1,h2⟩=>⟨jJu a x.1 u h1,jJu b x.2 v h2⟩
 | .rose a b,x,cs,h=>rdR_okd (jJu a) (jJu b) x cs h
theorem rel_okds:∀ {ts:List Ty} {x:dens ts} {vs:List Value},RelL Ψ β (outs ts x) vs → okds ts x
 | [],_,_,_=>trivial
 | [t],x,_,⟨_,_,_,⟨cs,hc,_⟩,_⟩=>jJu t x cs hc
 | t :: _ :: _,x,_,⟨_,_,_,⟨cs,hc,_⟩,hl⟩=>⟨jJu t x.1 cs hc,rel_okds hl⟩
theorem normF_rel:∀ (av:AV) (v:Value),RelV Ψ β av v → RelV Ψ β (normF av) v:=by
 intro av v h
 unfold normF
 split
 ·split
  ·obtain ⟨cs,h1,h2⟩:=h
   simp only [reads] at h1
   subst h1
   simp [Ty.isAgg] at h2
   exact ⟨[],h2.symm,rfl⟩
  ·exact h
 ·exact h
theorem jY1:∀ {l:List AV} {vs:List Value},RelL Ψ β l vs → RelL Ψ β (normFs l) vs
 | [],_,h=>h
 | _ :: _,_,⟨v,vs',e,hv,hl⟩=>⟨v,vs',e,normF_rel _ _ hv,jY1 hl⟩
def Sat1 (P:Program) (f:FuncId) (sp:FSpec) (x:dens sp.ps):Prop :=
 ∀ (Ψ:Pr) (w:World) (args:List Value),(∀ a v,Ψ a = some v → a.spot = none ∧ w.cell? a = some v) → Gl P Ψ →
  RelL Ψ [] (outs sp.ps x) args →
  Calls P f args.toArray w fun e w'=>∃ v Ψ',e = .returned v ∧ Below w.heap.size w w' ∧ (∀ a u,Ψ a = some u → Ψ' a = some u) ∧
   (∀ a u,Ψ' a = some u → Ψ a = some u ∨ (w.heap.size ≤ a.block ∧ a.spot = none ∧ w'.cell? a = some u)) ∧ RelV Ψ' [] (outV sp.rs (sp.post x)) v
theorem fnwp_at (hsp:jQa C) (n:Nat) (f:FuncId) (sp:FSpec) (x:dens sp.ps) (hk:fnwp C n f sp x):Sat1 C.P f sp x:=by
 intro Ψ w args hprom hgl hrel
 unfold fnwp at hk
 split at hk
 ·exact hk.elim
 ·rename_i fn hfn
  have hi:InvH C.P (fun k=>k < w.heap.size) w Ψ [] (St.heap { top:=[],below:=[],heap:=[] }) w:=⟨BelowS.refl _ _,fun _ h=>h,fun a v hv=>Pm_mk (hprom a v hv).1 (hprom a v hv).2,fun a v hv hs=>absurd (hs.symm.trans (hprom a v hv).1) (by simp),rfl,fun k u hu=>by simp at hu,fun k b hb=>by simp at hb,fun k b g hb=>by simp at hb,fun i j bi bj g _ hb=>by simp at hb,hgl⟩
  have hf:RelF Ψ [] (St.top { top:=[],below:=[],heap:=[] } :: St.below { top:=[],below:=[],heap:=[] }) [{ tmps:=#[],defers:=[] }]:=⟨_,_,rfl,⟨⟨[],[],rfl,by simp,List.nodup_nil,by simp⟩,rfl⟩,rfl⟩
  refine (jJz hsp (jKn hsp n) hfn hk hi hf (jY1 hrel)).mono ?_
  rintro e w' ⟨v,Ψ1,β1,av,s1,rfl,hE1,hi1,hf1,hv,hy⟩
  split at hy
  ·rename_i y hd
   subst hy
   have key:∀ (avs:List AV) (vs:List Value),asDs s1.heap sp.rs avs = some (sp.post x) → RelL Ψ1 β1 avs vs → ∃ Ψ',Ext (fun k=>k < w.heap.size) Ψ1 Ψ' ∧ (∀ ad u,Ψ' ad = some u → Pm w' ad u) ∧ RelL Ψ' [] (outs sp.rs (sp.post x)) vs:=by
    intro avs vs hd hr
    obtain ⟨Ψ',hE',hi',_,hr'⟩:=jXp (refsA avs) hi1 hf1
    exact ⟨Ψ',hE',hi'.prom,jJ8 hE'.1 hd hr hr'⟩
   have fin:∀ (Ψ':Pr),Ext (fun k=>k < w.heap.size) Ψ1 Ψ' → (∀ ad u,Ψ' ad = some u → Pm w' ad u) → RelV Ψ' [] (outV sp.rs (sp.post x)) v →
    ∃ v' Ψ',Ending.returned v = .returned v' ∧ Below w.heap.size w w' ∧ (∀ a u,Ψ a = some u → Ψ' a = some u) ∧ (∀ a u,Ψ' a = some u → Ψ a = some u ∨ (w.heap.size ≤ a.block ∧ a.spot = none ∧ w'.cell? a = some u)) ∧ RelV Ψ' [] (outV sp.rs (sp.post x)) v':=by
    intro Ψ' hE' hp' hv'
    have hE:=hE1.trans hE'
    exact ⟨v,plain Ψ',rfl,hi1.low.of,fun ad u hu=>jQ8.2 ⟨(hprom ad u hu).1,hE.1 ad u hu⟩,fun ad u hu=>by
     obtain ⟨g1,g2⟩:=jQ8.1 hu
     exact (hE.2 ad u g2).imp id fun h=>⟨Nat.le_of_not_lt h,g1,kXb g1 (hp' ad u g2)⟩,outV_plain hv'⟩
   revert hd key fin
   generalize sp.post x = y
   generalize sp.rs = rs at y
   intro hd key fin
   match rs,y,hd,key,fin with
   | [],y,hd,key,fin =>
    replace hd:(match (generalizing:=false) av with | .tup []=>asDs s1.heap [] [] | _=>none) = some y:=hd
    split at hd
    ·obtain ⟨us,rfl,hl⟩:=hv
     simp only [RelL] at hl
     subst hl
     exact fin _ (Ext.refl _ _) hi1.prom ⟨[],rfl,rfl⟩
    ·cases hd
   | [t],y,hd,key,fin =>
    obtain ⟨Ψ',hE',hp',hl⟩:=key _ _ hd ⟨v,[],rfl,hv,rfl⟩
    obtain ⟨v',vs',e,hv',hl'⟩:=hl
    simp only [List.cons.injEq] at e
    obtain ⟨rfl,rfl⟩:=e
    exact fin _ hE' hp' hv'
   | t :: u :: ts,y,hd,key,fin =>
    replace hd:(match (generalizing:=false) av with | .tup vs=>asDs s1.heap (t :: u :: ts) vs | _=>none) = some y:=hd
    split at hd
    ·obtain ⟨us,rfl,hl⟩:=hv
     obtain ⟨Ψ',hE',hp',hl'⟩:=key _ _ hd hl
     refine fin _ hE' hp' ?_
     have e:outV (t :: u :: ts) y = .tup (outs (t :: u :: ts) y):=by
      match ts with
      | []=>rfl
      | _ :: _=>rfl
     rw [e]
     exact ⟨us,rfl,hl'⟩
    ·cases hd
  ·exact hy.elim
theorem jQe (hsp:jQa C) (n:Nat) (f:FuncId) (sp:FSpec) (hall:∀ x,okds sp.ps x → sp.pre x → fnwp C n f sp x):Sat C.P f sp :=
 fun Ψ w x args hprom hgl hrel hpre=>fnwp_at hsp n f sp x (hall x (rel_okds hrel) hpre) Ψ w args hprom hgl hrel
theorem sat_each {P:Program} {f:FuncId} {sp:FSpec} {m:Nat} (h:∀ x,okds sp.ps x → sp.pre x → ∃ C:Ctx,C.P = P ∧ jQa C ∧ fnwp C m f sp x):Sat P f sp:=by
 intro Ψ w x args hprom hgl hrel hpre
 obtain ⟨C,hP,hs,hw⟩:=h x (rel_okds hrel) hpre
 have:=fnwp_at hs m f sp x hw Ψ w args hprom (by rw [hP]; exact hgl) hrel
 rw [hP] at this
 exact this
theorem jJ2 (hsp:jQa C) (n:Nat) (f:FuncId) (sp:GSpec) (hall:∀ x,okds sp.ps x → sp.pre x → fnwpG C n f sp x):SatG C.P f sp:=by
 intro Ψ w x args hprom hgl hrel hpre
 show Calls C.P f args.toArray w _
 have hk:=hall x (rel_okds hrel) hpre
 unfold fnwpG at hk
 split at hk
 ·exact hk.elim
 ·rename_i fn hfn
  have hi:InvH C.P (fun k=>k < w.heap.size) w Ψ [] (St.heap { top:=[],below:=[],heap:=[] }) w:=⟨BelowS.refl _ _,fun _ h=>h,fun a v hv=>Pm_mk (hprom a v hv).1 (hprom a v hv).2,fun a v hv hs=>absurd (hs.symm.trans (hprom a v hv).1) (by simp),rfl,fun k u hu=>by simp at hu,fun k b hb=>by simp at hb,fun k b g hb=>by simp at hb,fun i j bi bj g _ hb=>by simp at hb,hgl⟩
  have hf:RelF Ψ [] (St.top { top:=[],below:=[],heap:=[] } :: St.below { top:=[],below:=[],heap:=[] }) [{ tmps:=#[],defers:=[] }]:=⟨_,_,rfl,⟨⟨[],[],rfl,by simp,List.nodup_nil,by simp⟩,rfl⟩,rfl⟩
  refine (jJz hsp (jKn hsp n) hfn hk hi hf (jY1 hrel)).mono ?_
  rintro e w' ⟨v,Ψ1,β1,av,s1,rfl,hE1,hi1,hf1,hv,hy⟩
  have fin:v.oneCell' = true → BlkR C.P (fun k=>k < w.heap.size) Ψ1 [v] w' 0 (.grow sp.tid sp.e (sp.post x)) → (∀ g,jQc [v] 0 g (.grow sp.tid sp.e (sp.post x)) → ∀ a,a.block = g → a.spot = none → Ψ1 a = none) →
   ∃ v' Ψ',Ending.returned v = .returned v' ∧ Below w.heap.size w w' ∧ (∀ a u,Ψ a = some u → Ψ' a = some u) ∧ (∀ a u,Ψ' a = some u → Ψ a = some u ∨ (w.heap.size ≤ a.block ∧ a.spot = none ∧ w'.cell? a = some u)) ∧ v'.oneCell' = true ∧
    BlkR C.P (fun k=>k < w.heap.size) Ψ' [v'] w' 0 (.grow sp.tid sp.e (sp.post x)) ∧ ∀ g,jQc [v'] 0 g (.grow sp.tid sp.e (sp.post x)) → ∀ a,a.block = g → Ψ' a = none :=
   fun h1 h2 h3=>⟨v,plain Ψ1,rfl,hi1.low.of,fun ad u hu=>jQ8.2 ⟨(hprom ad u hu).1,hE1.1 ad u hu⟩,fun ad u hu=>by
    obtain ⟨g1,g2⟩:=jQ8.1 hu
    exact (hE1.2 ad u g2).imp id fun h=>⟨Nat.le_of_not_lt h,g1,kXb g1 (hi1.prom ad u g2)⟩,h1,by
    refine h2.imp id ?_
    rintro ⟨gg,cap,cur,h1,h2,h3,h4,h5,h6,h7,h8⟩
    exact ⟨gg,cap,cur,h1,h2,h3,h4,h5,h6,h7,jYi (PLe.refl _) h8⟩,fun g hc a ha=>by
    unfold plain
    split
    ·rename_i hs; exact h3 g hc a ha hs
    ·rfl⟩
  split at hy
  ·rename_i k
   split at hy
   ·rename_i tid e xs hg
    split at hy
    ·rename_i ht
     split at hy
     ·rename_i ys hc
      obtain ⟨he,rfl⟩:=cast?_spec hc
      have ht:=Nat.eq_of_beq_eq_true ht
      simp only [Ty.arr.injEq] at he
      subst he
      subst ht
      have hv:β1[k]? = some v:=hv.1
      have hkk:=jQf hg (by simp)
      have e0:([v]:List Value)[0]? = some v:=rfl
      have hy':xs = sp.post x:=hy
      rw [← hy'] at fin ⊢
      have hb1:BlkR C.P (fun k=>k < w.heap.size) Ψ1 [v] w' 0 (.grow sp.tid sp.e xs):=by
       rcases hi1.blk k _ hkk with ⟨ad,h1,h2⟩ | ⟨g,cap,cur,h1,h2⟩
       ·exact .inl ⟨ad,by rw [e0,← hv,h1],h2⟩
       ·exact .inr ⟨g,cap,cur,by rw [e0,← hv,h1],h2⟩
      refine fin (hi1.one k v hv) hb1 (fun g hcl ad had hs=>hi1.free k _ g hkk ?_ ad had (.inl hs))
      obtain ⟨n,cap,hz,hcl⟩:=hcl
      exact ⟨n,cap,hz,by rw [hv,← e0,hcl]⟩
     ·exact hy.elim
    ·exact hy.elim
   ·exact hy.elim
  ·have hv:v = .slice none 0 0:=hv
   subst hv
   rw [← hy]
   rw [← hy] at fin
   refine fin rfl (.inl ⟨none,rfl,rfl⟩) (fun g hc=>?_)
   obtain ⟨n,cap,hz,hc⟩:=hc
   simp at hc
  ·exact hy.elim
theorem pins_at:∀ {n:Nat} {t:List Blk} {L:List AV} {vs:List Value},sameCs (pinsOf n t) L = true → RelL Ψ β L vs → ∀ (j:Nat) (cs:List AV),t[j]? = some (Blk.cells cs) → ∃ g,β[n + j]? = some (.pointer (some ⟨g,0,none⟩)) ∧ vs[j]? = some (.pointer (some ⟨g,0,none⟩))
 | n,[],_,_,_,_,j,cs,hj=>by simp at hj
 | n,b :: t,L,vs,hs,hr,j,cs,hj=>by
  cases L with
  | nil=>cases hs
  | cons c L =>
   simp only [pinsOf,sameCs,Bool.and_eq_true] at hs
   obtain ⟨v,vs',rfl,hv,hl⟩:=hr
   cases j with
   | zero =>
    simp at hj
    subst hj
    have h1:=hs.1
    simp only [sameC] at h1
    split at h1
    ·rename_i k' o'
     simp only [Bool.and_eq_true,Nat.beq_eq] at h1
     obtain ⟨e1,e2⟩:=h1
     subst e1 e2
     obtain ⟨g,h2,h3⟩:=hv
     exact ⟨g,h2,by rw [h3]; rfl⟩
    ·cases h1
   | succ j =>
    obtain ⟨g,h2,h3⟩:=pins_at (n:=n + 1) hs.2 hl j cs (by simpa using hj)
    exact ⟨g,by rw [← h2]; congr 1; omega,by simpa using h3⟩
theorem pins_rel {P:Program}:∀ (t:List Blk) (n:Nat),(∀ k b,t[k]? = some b → BlkR P B Ψ β w (n + k) b) → RelL Ψ β (pinsOf n t) ((List.range' n t.length).map fun k=>β.getD k undef)
 | [],n,_=>rfl
 | b :: t,n,hb=>by
  refine ⟨β.getD n undef,(List.range' (n + 1) t.length).map fun k=>β.getD k undef,by simp [List.range'_succ],?_,pins_rel (P:=P) t (n + 1) fun k b' hk=>?_⟩
  ·have h0:=hb 0 b rfl
   cases b <;> first | trivial | skip
   obtain ⟨g,c,e,h1,_⟩:=h0
   refine ⟨g,h1,?_⟩
   rw [List.getD_eq_getElem?_getD]
   have h1:β[n]? = _:=h1
   rw [h1]
   rfl
  ·have:=hb (k + 1) b' (by simpa using hk)
   rw [show n + 1 + k = n + (k + 1) by omega]
   exact this
theorem resOf_rel {Ψ':Pr} (hle:PLe Ψ Ψ') {rs:List Ty} {av:AV} {v:Value} {y:dens rs} (hd:resOf rs h av = some y) (hv:RelV Ψ β av v) (hrd:Reading Ψ' β h (jKy rs av)):RelV Ψ' [] (outV rs y) v:=by
 match rs,y,hd,hrd with
 | [],y,hd,hrd =>
  replace hd:(match (generalizing:=false) av with | .tup []=>asDs h [] [] | _=>none) = some y:=hd
  split at hd
  ·obtain ⟨us,rfl,hl⟩:=hv
   simp only [RelL] at hl
   subst hl
   exact ⟨[],rfl,rfl⟩
  ·cases hd
 | [t],y,hd,hrd =>
  obtain ⟨v',vs',e,hv',hl'⟩:=jJ8 (vs:=[v]) hle hd ⟨v,[],rfl,hv,rfl⟩ hrd
  simp only [List.cons.injEq] at e
  obtain ⟨rfl,rfl⟩:=e
  exact hv'
 | t :: u :: ts,y,hd,hrd =>
  replace hd:(match (generalizing:=false) av with | .tup vs=>asDs h (t :: u :: ts) vs | _=>none) = some y:=hd
  split at hd
  ·obtain ⟨us,rfl,hl⟩:=hv
   have hl':=jJ8 hle hd hl hrd
   have e:outV (t :: u :: ts) y = .tup (outs (t :: u :: ts) y):=by
    match ts with
    | []=>rfl
    | _ :: _=>rfl
   rw [e]
   exact ⟨us,rfl,hl'⟩
  ·cases hd
theorem fnwpH_sat (hsp:jQa C) (n:Nat) (f:FuncId) (sp:HSpec) (hall:∀ x y,okds sp.ps x → sp.pre x y → fnwpH C n f sp x y):SatH C.P f sp:=by
 intro B w0 Ψ β w x y args caps hsh hi hargs hcaps hpre
 have hk:=hall x y (rel_okds hargs) hpre
 unfold fnwpH at hk
 split at hk
 ·exact hk.elim
 ·rename_i fn hfn
  rw [if_pos hsh] at hk
  unfold shOk at hsh
  simp only [Bool.and_eq_true] at hsh
  obtain ⟨⟨ho1,ho2⟩,ho3,ho4⟩:=hsh
  obtain ⟨t,ht⟩:∃ t,t = sp.h y:=⟨_,rfl⟩
  obtain ⟨t',ht'⟩:∃ t',t' = sp.h (sp.aft x y):=⟨_,rfl⟩
  rw [← ht] at ho1 ho2 ho4 hi hk
  rw [← ht'] at ho3 ho4 hk
  obtain ⟨hl2,hsame⟩:=sameSh_at ho4
  have hp0:RelL Ψ β (pinsOf 0 t) ((List.range' 0 t.length).map fun k=>β.getD k undef):=pins_rel (P:=C.P) t 0 fun k b hk=>by rw [Nat.zero_add]; exact hi.blk k b hk
  have hf:RelF Ψ β (St.top { top:=pinsOf 0 t,below:=[],heap:=t } :: St.below { top:=pinsOf 0 t,below:=[],heap:=t }) [{ tmps:=((List.range' 0 t.length).map fun k=>β.getD k undef).toArray,defers:=[] }]:=⟨_,_,rfl,⟨⟨[],[],rfl,by simp,List.nodup_nil,by simp⟩,hp0⟩,rfl⟩
  refine (jJz (s:={ top:=pinsOf 0 t,below:=[],heap:=t }) hsp (jKn hsp n) hfn hk hi hf (jZb _ _ _ _ (jQp (PLe.refl _) (fun k v h=>by simp at h) _ _ (jY1 hargs)) hcaps)).mono ?_
  rintro e w' ⟨v,Ψ1,β1,av,s1,rfl,hE1,hi1,hf1,hv,hy⟩
  split at hy
  ·rename_i r hr
   obtain ⟨hpost,himp,hpin⟩:=hy
   obtain ⟨Ψ2,hE2,hi2,hf2,hrd⟩:=jXp (jKy sp.rs av) hi1 hf1
   subst hpost
   have hpin:sameCs (pinsOf 0 t) (s1.freezeAll (jKy sp.rs av)).top = true:=by
    split at hpin
    ·assumption
    ·exact hpin.elim
   obtain ⟨hlen,hat⟩:=impH_at himp
   have pin:∀ (k:Nat) (cs:List AV),t[k]? = some (Blk.cells cs) → ∃ g,β1[k]? = some (.pointer (some ⟨g,0,none⟩)) ∧ β[k]? = some (.pointer (some ⟨g,0,none⟩)):=fun k cs hk=>by
    obtain ⟨g,h1,h2⟩:=pins_at hpin (jQo hf2).2 k cs hk
    rw [Nat.zero_add] at h1
    refine ⟨g,h1,?_⟩
    have hlt:k < β.length:=by rw [hi.len]; exact jZy hk
    simp only [List.getElem?_map,List.getElem?_range' (show k < t.length from jZy hk)] at h2
    simp only [Option.map_some,Nat.zero_add,Nat.one_mul,Option.some.injEq] at h2
    rw [List.getD_eq_getElem?_getD,List.getElem?_eq_getElem hlt] at h2
    rw [List.getElem?_eq_getElem hlt]
    exact congrArg some h2
   have old:∀ {k:Nat} {cs:List AV},t'[k]? = some (.cells cs) → ∃ ds:List AV,t[k]? = some (Blk.cells ds):=fun {k cs} hk=>by
    have hlt:k < t.length:=by rw [hl2]; exact jZy hk
    obtain ⟨ds,hds⟩:=cells_of (by rw [hsame k t[k] _ (List.getElem?_eq_getElem hlt) hk]; rfl:jYs t[k] = true)
    exact ⟨ds,by rw [List.getElem?_eq_getElem hlt,hds]⟩
   have pin':∀ (k:Nat) (cs:List AV),t'[k]? = some (Blk.cells cs) → β1[k]? = β[k]?:=fun k cs hk=>by
    obtain ⟨ds,h1⟩:=old hk
    obtain ⟨g,h2,h3⟩:=pin k ds h1
    rw [h2,h3]
   have hb:∀ (k:Nat) (cs:List AV) (u:Value),t'[k]? = some (Blk.cells cs) → β1[k]? = some u → β[k]? = some u:=fun k cs u hk hu=>by rw [← pin' k cs hk]; exact hu
   refine ⟨v,Ψ2,rfl,hE1.trans hE2,?_,resOf_rel hE2.1 hr hv hrd⟩
   rw [← ht']
   refine ⟨hi2.low,hi2.size,hi2.prom,hi2.own,by rw [hi.len,hl2],hi.one,?_,?_,?_,hi2.glob⟩
   ·intro k b hkb
    rcases okH_at ho3 k b hkb with rfl | ⟨ds,rfl,hok⟩
    ·trivial
    ·obtain ⟨cs,h1,h2⟩:=hat k ds hkb
     obtain ⟨g,c,e,b1,b2,b3,b4,b5⟩:=hi2.blk k _ h1
     exact ⟨g,c,e,hb k ds _ hkb b1,b2,b3,jYj hb ds hok (impL_rel h2 b4),b5⟩
   ·intro k b g hkb hcl
    rcases okH_at ho3 k b hkb with rfl | ⟨ds,rfl,hok⟩
    ·exact hcl.elim
    ·obtain ⟨cs,h1,h2⟩:=hat k ds hkb
     exact hi2.free k _ g h1 (show jQc β1 k g (.cells cs) by show β1[k]? = _; rw [pin' k ds hkb]; exact hcl)
   ·intro i j bi bj g hij hbi hbj hci hcj
    rcases okH_at ho3 i bi hbi with rfl | ⟨di,rfl,_⟩
    ·exact hci.elim
    ·rcases okH_at ho3 j bj hbj with rfl | ⟨dj,rfl,_⟩
     ·exact hcj.elim
     ·obtain ⟨ci,h1,_⟩:=hat i di hbi
      obtain ⟨cj,h2,_⟩:=hat j dj hbj
      exact hi2.sep i j _ _ g hij h1 h2 (show jQc β1 i g (.cells ci) by show β1[i]? = _; rw [pin' i di hbi]; exact hci) (show jQc β1 j g (.cells cj) by show β1[j]? = _; rw [pin' j dj hbj]; exact hcj)
  ·exact hy.elim
theorem SatG.toDataC {f:FuncId} {sp:GSpec} (hS:SatG C.P f sp):Sat C.P f sp.data:=by
 intro Ψ w x args hprom hgl hrel hpre
 refine (hS Ψ w x args hprom hgl hrel hpre).mono ?_
 rintro e w' ⟨v,Ψ1,rfl,hb,hle,hnew,hone,hblk,hfree⟩
 have hi:InvH C.P (fun k=>k < w.heap.size) w Ψ1 [v] [.grow sp.tid sp.e (sp.post x)] w':=by
  refine ⟨below_S hb fun _ h=>h,fun _ h=>Nat.lt_of_lt_of_le h hb.size,fun ad u hu=>?_,fun ad u hu hs=>?_,rfl,fun k u hu=>?_,fun k b hk=>?_,fun k b g hk hc a ha _=>?_,fun i j bi bj g hij hbi hbj=>?_,hgl.le hle⟩
  ·rcases hnew ad u hu with h | h
   ·obtain ⟨h1,h2⟩:=hprom ad u h
    refine Pm_mk h1 ?_
    rw [hb.cell (p:=ad) ?_]
    ·exact h2
    ·unfold World.cell? at h2
     split at h2
     ·rename_i hh; exact jQn hh
     ·cases h2
   ·exact Pm_mk h.2.1 h.2.2
  ·rcases hnew ad u hu with h | h
   ·exact absurd (hs.symm.trans (hprom ad u h).1) (by simp)
   ·exact absurd (hs.symm.trans h.2.1) (by simp)
  ·cases k with
   | zero=>simp at hu; subst hu; exact hone
   | succ k=>simp at hu
  ·cases k with
   | zero=>simp at hk; subst hk; exact hblk
   | succ k=>simp at hk
  ·cases k with
   | zero=>simp at hk; subst hk; exact hfree g hc a ha
   | succ k=>simp at hk
  ·cases i with
   | zero=>cases j with
    | zero=>exact absurd rfl hij
    | succ j=>simp at hbj
   | succ i=>simp at hbi
 have hf:RelF Ψ1 [v] (St.top { top:=[.sl 0],below:=[],heap:=[.grow sp.tid sp.e (sp.post x)] } :: St.below { top:=[.sl 0],below:=[],heap:=[.grow sp.tid sp.e (sp.post x)] }) [{ tmps:=#[v],defers:=[] }] :=
  ⟨_,_,rfl,⟨⟨[],[],rfl,by simp,List.nodup_nil,by simp⟩,v,[],rfl,⟨rfl,jJ0 hblk rfl⟩,rfl⟩,rfl⟩
 obtain ⟨Ψ2,hE,hi2,hf2,_⟩:=freeze_sound hi hf 0
 obtain ⟨a,as',e,⟨_,hl⟩,_⟩:=hf2
 simp only [List.cons.injEq] at e
 obtain ⟨rfl,_⟩:=e
 obtain ⟨u,us,e,hu,_⟩:=hl
 simp only [List.cons.injEq] at e
 obtain ⟨rfl,_⟩:=e
 refine ⟨v,plain Ψ2,rfl,hb,fun a u h=>jQ8.2 ⟨(hprom a u h).1,hE.1 a u (hle a u h)⟩,fun a u h=>?_,RelV_plain hu⟩
 obtain ⟨g1,g2⟩:=jQ8.1 h
 rcases hE.2 a u g2 with h' | h'
 ·exact hnew a u h'
 ·exact .inr ⟨Nat.le_of_not_lt h',g1,kXb g1 (hi2.prom a u g2)⟩
theorem SatG.toData {P:Program} {f:FuncId} {sp:GSpec} (hS:SatG P f sp):Sat P f sp.data :=
 SatG.toDataC (C:={ P:=P,spec:=fun _=>none,hint:=fun _=>{ las:=fun _=>[],mode:=fun _=>.split,cmode:=fun _=>.split,unr:=fun _=>0 },ty:=fun _=>none,fresh:=fun _=>none,ro:=fun _=>false }) hS
theorem jY6 (hsp:jQa C) (n:Nat) (f:FuncId) (sp:OSpec) (hall:∀ x xs,okds sp.ps x → okd (.arr sp.e) xs → sp.pre x xs → fnwpO C n f sp x xs):SatO C.P f sp:=by
 intro B w0 Ψ v w x xs args hi hargs hpre
 have hb0:=hi.blk 0 _ rfl
 have hxs:okd (.arr sp.e) xs:=by
  rcases hb0 with ⟨ad,_,rfl⟩ | ⟨g,cap,cur,_,_,_,_,hle,hmax,_,hrd⟩
  ·exact ⟨Nat.zero_le _,fun x hx=>by cases hx⟩
  ·exact ⟨Nat.le_trans hle hmax,rdL_okd (jJu sp.e) xs _ hrd⟩
 have hk:=hall x xs (rel_okds hargs) hxs hpre
 unfold fnwpO at hk
 split at hk
 ·exact hk.elim
 ·rename_i fn hfn
  have hvn:v ≠ hole:=by
   rcases hb0 with ⟨ad,h1,_⟩ | ⟨g,cap,cur,h1,_⟩
   ·have h1:v = .slice ad 0 0:=by simpa using h1
    rw [h1]; simp [hole]
   ·have h1:v = .slice (some ⟨g,0,none⟩) xs.length cap:=by simpa using h1
    rw [h1]; simp [hole]
  have hv0:RelV Ψ [v] (.sl 0) v:=⟨rfl,hvn⟩
  have hf:RelF Ψ [v] (St.top { top:=[.sl 0],below:=[],heap:=[.grow sp.tid sp.e xs] } :: St.below { top:=[.sl 0],below:=[],heap:=[.grow sp.tid sp.e xs] }) [{ tmps:=#[v],defers:=[] }]:=⟨_,_,rfl,⟨⟨[],[],rfl,by simp,List.nodup_nil,by simp⟩,v,[],rfl,hv0,rfl⟩,rfl⟩
  refine (jJz (s:={ top:=[.sl 0],below:=[],heap:=[.grow sp.tid sp.e xs] }) (vs:=v :: args) hsp (jKn hsp n) hfn hk hi hf ⟨v,args,rfl,hv0,jQp (PLe.refl _) (fun k v h=>by simp at h) _ _ (jY1 hargs)⟩).mono ?_
  rintro e w' ⟨u,Ψ1,β1,av,s1,rfl,hE1,hi1,hf1,hv,hy⟩
  split at hy
  ·rename_i r hr
   obtain ⟨hpost,hy⟩:=hy
   obtain ⟨Ψ2,hE2,hi2,hf2,hrd⟩:=jXp (jKy sp.rs av) hi1 hf1
   subst hpost
   split at hy
   ·rename_i htop
    split at hy
    ·rename_i tid e ys hg
     split at hy
     ·rename_i ht
      have ht:=Nat.eq_of_beq_eq_true ht
      subst ht
      split at hy
      ·rename_i zs hc
       obtain ⟨he,rfl⟩:=cast?_spec hc
       simp only [Ty.arr.injEq] at he
       subst he
       have hy:ys = sp.aft x xs:=hy
       subst hy
       have hkk:=jQf hg (by simp)
       have hfr:=(jQo hf2).2
       rw [htop] at hfr
       obtain ⟨v',vs',e0,hv',_⟩:=hfr
       have e0:v' = v:=by
        have:([v]:List Value) = v' :: vs':=e0
        simp only [List.cons.injEq] at this
        exact this.1.symm
       subst e0
       have hβ:β1[0]? = some v':=hv'.1
       refine ⟨u,Ψ2,rfl,hE1.trans hE2,?_,resOf_rel hE2.1 hr hv hrd⟩
       refine ⟨hi2.low,hi2.size,hi2.prom,hi2.own,rfl,?_,?_,?_,?_,hi2.glob⟩
       ·intro k u hu
        cases k with
        | zero=>simp at hu; subst hu; exact hi2.one 0 _ hβ
        | succ k=>simp at hu
       ·intro k b hkb
        cases k with
        | zero=>simp at hkb; subst hkb; exact growAt1 hβ (hi2.blk 0 _ hkk)
        | succ k=>simp at hkb
       ·intro k b g hkb hcl ad ha hs
        cases k with
        | zero =>
         simp at hkb
         subst hkb
         refine hi2.free 0 _ g hkk ?_ ad ha hs
         obtain ⟨n,cap,h1,h2⟩:=hcl
         exact ⟨n,cap,h1,hβ.trans h2⟩
        | succ k=>simp at hkb
       ·intro i j bi bj g hij hbi hbj
        cases i with
        | zero=>cases j with
         | zero=>exact absurd rfl hij
         | succ j=>simp at hbj
        | succ i=>simp at hbi
      ·exact hy.elim
     ·exact hy.elim
    ·exact hy.elim
   ·exact hy.elim
  ·exact hy.elim
end Go.AM
