import Derived.Test.YtbjjaaimhleedaaGreatDoorKt7
set_option linter.unusedSimpArgs false
set_option linter.unusedVariables false
namespace Go.AM
open Go.RowKit
variable {B:Nat → Prop} {w0:World} {C:Ctx} {Ψ Ψ0:Pr} {β:List Value} {h:List Blk} {w w':World} {fr:List AV} {a a0:Act} {As:List Act} {W:List Nat}
theorem contract_sound {sp:FSpec} {f:FuncId} {avs:List AV} {vs:List Value} {s:St} {k:AV → St → Prop} (hS:Sat C.P f sp) (hk:contract sp avs s k) (hi:InvH C.P B w0 Ψ β s.heap w) (hf:RelF Ψ β (s.top :: s.below) As) (hr:RelL Ψ β avs vs) :
 Calls C.P f vs.toArray w fun e w'=>∃ v Ψ' β' av s',e = .returned v ∧ Ext B Ψ Ψ' ∧ InvH C.P B w0 Ψ' β' s'.heap w' ∧ RelF Ψ' β' (s'.top :: s'.below) As ∧ RelV Ψ' β' av v ∧ k av s':=by
 unfold contract at hk
 split at hk
 ·exact hk.elim
 ·rename_i x hd
  obtain ⟨hpre,hk⟩:=hk
  split at hk
  ·rename_i hfl
   refine (contract_call hS hi hr hd hpre (.inl hfl)).mono ?_
   rintro e w' ⟨v,Ψ',rfl,hst,hv⟩
   exact ⟨v,Ψ',β,_,s,rfl,hst.ext hi.size,hi.step hst,jQq hst.le (fun _ _ h=>h) _ _ hf,hv,hk⟩
  ·rename_i hfl
   simp only [Bool.not_eq_true] at hfl
   rw [hfl,cond_false] at hd
   obtain ⟨Ψ1,hE1,hi1,hf1,hr1⟩:=jXd (refsA avs) hi hf
   have hrel:=jJk hE1.1 hd hr hr1
   refine (hS (plain Ψ1) w x vs (jKq hi1) hi1.glob.plain (jJe hrel) hpre).mono ?_
   rintro e w' ⟨v,Ψ',rfl,hb,hle,hnew,hv⟩
   have hst:Step Ψ1 w (joinP Ψ1 Ψ') w':=joinP_step hb hle hnew
   exact ⟨v,_,β,_,_,rfl,hE1.trans (hst.ext hi.size),hi1.step hst,jQq hst.le (fun _ _ h=>h) _ _ hf1,jZm (jK6 Ψ1 Ψ') (fun k v h=>by simp at h) _ _ (jKr hv),hk⟩
theorem contractG_sound {g:GSpec} {f:FuncId} {avs:List AV} {vs px:List Value} {s:St} {k:AV → St → Prop} (hS:SatGp C.P f px g) (hk:contractG g avs s k) (hi:InvH C.P B w0 Ψ β s.heap w) (hf:RelF Ψ β (s.top :: s.below) As) (hr:RelL Ψ β avs vs) :
 Calls C.P f (px ++ vs).toArray w fun e w'=>∃ v Ψ' β' av s',e = .returned v ∧ Ext B Ψ Ψ' ∧ InvH C.P B w0 Ψ' β' s'.heap w' ∧ RelF Ψ' β' (s'.top :: s'.below) As ∧ RelV Ψ' β' av v ∧ k av s':=by
 unfold contractG at hk
 split at hk
 ·exact hk.elim
 ·rename_i x hd
  obtain ⟨hpre,hk⟩:=hk
  obtain ⟨Ψ1,hE1,hi1,hf1,hr1⟩:=jXd (refsA avs) hi hf
  have hrel:=jJk hE1.1 hd hr hr1
  refine (fresh_core hS hi1 hrel hpre).mono ?_
  rintro e w' ⟨v,Ψ',rfl,hst,hnh,hi2⟩
  exact ⟨v,Ψ',β ++ [v],.sl (hlen (s.freezeAll (refsA avs)).heap),{ s.freezeAll (refsA avs) with heap:=(s.freezeAll (refsA avs)).heap ++ [.grow g.tid g.e (g.post x)] },rfl,hE1.trans (hst.ext hi1.size),hi2,jQq hst.le (jQh v) _ _ hf1,by
   refine ⟨?_,hnh⟩
   rw [jQ1,← hi1.len]
   simp,hk⟩
theorem growAt1 {tid:TypeId} {e:Ty} {xs:List e.den} {j:Nat} {v:Value} (hβ:β[j]? = some v) (hb:BlkR C.P B Ψ β w j (.grow tid e xs)):BlkR C.P B Ψ [v] w 0 (.grow tid e xs):=by
 unfold BlkR at *
 rw [hβ] at hb
 exact hb
theorem grow_back {tid:TypeId} {e:Ty} {xs:List e.den} {j:Nat} {v:Value} (hβ:β[j]? = some v) (hb:BlkR C.P B Ψ [v] w 0 (.grow tid e xs)):BlkR C.P B Ψ β w j (.grow tid e xs):=by
 unfold BlkR at *
 rw [hβ]
 exact hb
theorem asort_sound {g:SSpec} {f:FuncId} {avs:List AV} {vs:List Value} {s:St} {k:AV → St → Prop} (hS:SatS C.P f g) (hk:asort g avs s k) (hi:InvH C.P B w0 Ψ β s.heap w) (hf:RelF Ψ β (s.top :: s.below) As) (hr:RelL Ψ β avs vs) :
 Calls C.P f vs.toArray w fun e w'=>∃ v Ψ' β' av s',e = .returned v ∧ Ext B Ψ Ψ' ∧ InvH C.P B w0 Ψ' β' s'.heap w' ∧ RelF Ψ' β' (s'.top :: s'.below) As ∧ RelV Ψ' β' av v ∧ k av s':=by
 unfold asort at hk
 split at hk
 ·rename_i j c
  obtain ⟨v1,vs1,rfl,hv1,v2,vs2,rfl,hv2,hv3⟩:=hr
  simp only [RelL] at hv3
  subst hv3
  split at hk
  ·rename_i hc
   have hc:=Nat.eq_of_beq_eq_true hc
   subst hc
   have hv2:v2 = fnV g.cmp:=by
    obtain ⟨us,h1,h2⟩:=hv2
    simp only [RelL] at h2
    subst h2
    exact h1
   subst hv2
   split at hk
   ·rename_i tid e xs hg
    split at hk
    ·rename_i ht
     have ht:=Nat.eq_of_beq_eq_true ht
     subst ht
     split at hk
     ·rename_i ys hy
      obtain ⟨he,hy⟩:=cast?_spec hy
      have he':e = g.e:=by injection he
      subst he'
      have hy:ys = xs:=hy
      subst hy
      obtain ⟨hlen,hk⟩:=hk
      have hget:=jQc hg (by simp)
      have hb:=hi.blk j _ hget
      have hβ:β[j]? = some v1:=hv1.1
      have hb1:BlkR C.P B Ψ [v1] w 0 (.grow g.tid g.e ys):=growAt1 hβ hb
      refine (hS B Ψ w ys v1 hb1 hlen).mono ?_
      rintro e w' ⟨rfl,hw⟩
      refine ⟨_,Ψ,β,.tup [],{ s with heap:=hset s.heap j (.grow g.tid g.e (g.f ys)) },rfl,Ext.refl _ _,?_,hf,(show RelV Ψ β (.tup []) (.tuple #[]) from ⟨[],rfl,rfl⟩),hk⟩
      show InvH C.P B w0 Ψ β (hset s.heap j (.grow g.tid g.e (g.f ys))) w'
      rw [jQp]
      rcases hw with ⟨rfl,hfx⟩ | ⟨gb,hc1,hgb,hb2⟩
      ·rw [hfx,set_same hget]
       exact hi
      ·have hcl:jQb β j gb (.grow g.tid g.e ys):=by
        obtain ⟨n,cap,h1,h2⟩:=hc1
        exact ⟨n,cap,h1,hβ.trans h2⟩
       exact hi.rewriteG hget rfl hcl hgb (fun g' h'=>h') (grow_back hβ hb2)
     ·exact hk.elim
    ·exact hk.elim
   ·exact hk.elim
  ·exact hk.elim
 ·exact hk.elim
theorem pads_rel:∀ {avs:List AV} {vs:List Value} {n:Nat},RelL Ψ β avs vs → avs.length ≤ n → RelL Ψ β (pads avs n) (vs ++ List.replicate (n - vs.length) undef)
 | [],vs,n,hr,_=>by
  simp only [RelL] at hr
  subst hr
  simp only [pads,List.nil_append,List.length_nil,Nat.sub_zero]
  induction n with
  | zero=>rfl
  | succ n ih=>rw [List.replicate_succ,List.replicate_succ]; exact ⟨_,_,rfl,rfl,ih (by simp)⟩
 | av :: avs,vs,n,⟨v,vs',e,hv,hl⟩,hn=>by
  subst e
  have hn:avs.length + 1 ≤ n:=by simpa using hn
  refine ⟨v,vs' ++ List.replicate (n - 1 - vs'.length) undef,?_,hv,pads_rel hl (by omega)⟩
  simp only [List.cons_append,List.length_cons]
  rw [show n - (vs'.length + 1) = n - 1 - vs'.length by omega]
def res1 (tmps:Array Value):ResultVar → Sem Value
 | .tmp t=>pure (tmps.getD t undef)
 | .cell a t=>do loadVar t (← asAddr (tmps.getD a undef))
theorem resV_sound {s:St} (hi:InvH C.P B w0 Ψ β s.heap w) (hfr:RelL Ψ β s.top a.tmps.toList):∀ {rs:List ResultVar} {avs:List AV},resV C s rs = some avs → ∃ vs,(rs.mapM (res1 a.tmps)).run C.P w = .ok vs w ∧ RelL Ψ β avs vs
 | [],avs,hr=>by
  simp [resV] at hr
  subst hr
  exact ⟨[],by simp,rfl⟩
 | .tmp t :: rs,avs,hr=>by
  unfold resV at hr
  split at hr
  ·rename_i l hl
   simp at hr
   subst hr
   obtain ⟨vs,h1,h2⟩:=resV_sound hi hfr hl
   have h3:=jQ7 _ _ hfr t
   rw [jKm,← Array.getD_eq_getD_getElem?] at h3
   exact ⟨_ :: vs,by simp [List.mapM_cons,res1,h1],_,_,rfl,h3,h2⟩
  ·cases hr
 | .cell t ty :: rs,avs,hr=>by
  unfold resV at hr
  split at hr
  ·rename_i k off hown
   split at hr
   ·rename_i cs hg
    split at hr
    ·rename_i v l hlo hl
     simp at hr
     subst hr
     obtain ⟨vs,h1,h2⟩:=resV_sound hi hfr hl
     have h3:=jQ7 _ _ hfr t
     rw [jKm,← Array.getD_eq_getD_getElem?,hown] at h3
     obtain ⟨g,c,e,hβ,hptr,hh,hB,hrel,hone⟩:=own_blk hi hg h3
     obtain ⟨ag,n,hlay,hle,hrv⟩:=loadOwn_ok hlo hrel hone
     have hrun:(loadVar ty ⟨g,off,none⟩).run C.P w = .ok _ w:=jQt hlay (us:=(c.toList.drop off).take n) (by simp; simp at hle; omega) (fun j u hj=>by
      rw [jXe hh]
      have:=jQs hj
      simpa using this)
     exact ⟨_ :: vs,by simp [List.mapM_cons,res1,h1,hptr,hrun,asAddr],_,_,rfl,hrv,h2⟩
    ·cases hr
   ·rename_i u x hg
    split at hr
    ·rename_i ag n hlay
     split at hr
     ·rename_i v l hsub hl
      simp at hr
      subst hr
      obtain ⟨vs,h1,h2⟩:=resV_sound hi hfr hl
      have h3:=jQ7 _ _ hfr t
      rw [jKm,← Array.getD_eq_getD_getElem?,hown] at h3
      obtain ⟨g,c,e,hβ,hptr,hh,hB,hrd⟩:=dat_blk hi hg h3
      obtain ⟨t',x',rfl,k1,k2,k3,k4⟩:=subX_rv hsub hrd
      have hrun:(loadVar ty ⟨g,off,none⟩).run C.P w = .ok _ w:=jQt hlay (us:=(c.toList.drop off).take n) (by simp; simp at k3; omega) (fun j u hj=>by
       rw [jXe hh]
       have:=jQs hj
       simpa using this)
      exact ⟨_ :: vs,by simp [List.mapM_cons,res1,h1,hptr,hrun,asAddr],_,_,rfl,jJh k4 k1.symm (fun hf=>by have:=(jXc hlay).2.2 hf; rw [jQa t' _ _ k4]; omega),h2⟩
     ·cases hr
    ·cases hr
   ·cases hr
  ·cases hr
theorem results_eq (fn:Func) (tmps:Array Value) (vs:List Value) (hr:(fn.results.toList.mapM (res1 tmps)).run C.P w = .ok vs w) :
 (results fn tmps).run C.P w = .ok (if hh:vs.length = 1 then vs[0] else .tuple vs.toArray) w:=by
 have e:results fn tmps = (do let vs ← fn.results.mapM (res1 tmps); pure (if h:vs.size = 1 then vs[0] else .tuple vs)):=rfl
 rw [e,Array.mapM_eq_mapM_toList]
 simp [hr]
theorem tup1_rel {avs:List AV} {vs:List Value} (hr:RelL Ψ β avs vs):RelV Ψ β (tup1 avs) (if hh:vs.length = 1 then vs[0] else .tuple vs.toArray):=by
 match avs,hr with
 | [],hr =>
  simp only [RelL] at hr
  subst hr
  exact ⟨[],rfl,rfl⟩
 | [av],⟨v,vs',e,hv,hl⟩ =>
  simp only [RelL] at hl
  subst hl e
  exact hv
 | av :: av' :: avs,hr =>
  have hlen:=jXl _ _ hr
  rw [dif_neg (by simp at hlen; omega)]
  exact ⟨vs,rfl,hr⟩
abbrev ResC (C:Ctx) (B:Nat → Prop) (w0:World) (Ψ:Pr) (As:List Act) (k:AV → St → Prop) (e:Ending) (w':World):Prop:=CallR C B w0 Ψ As k e w'
theorem fin_sound {fn:Func} {k:AV → St → Prop} {s':St} {Ψ2:Pr} {β':List Value} {tmps:Array Value} (hk:fin C fn k s') (hE2:Ext B Ψ Ψ2) (hi2:InvH C.P B w0 Ψ2 β' s'.heap w) (hl2:RelL Ψ2 β' s'.top tmps.toList) (hf2:RelF Ψ2 β' s'.below As) :
 LeavesIn Fence.wide 0 C.P fn tmps (ResC C B w0 Ψ As k) [] .returning w:=by
 unfold fin at hk
 split at hk
 ·exact hk.elim
 ·rename_i rvs hrv
  split at hk
  ·exact hk.elim
  ·rename_i s'' hpop
   obtain ⟨us,hus,hrel⟩:=resV_sound (a:={ tmps:=tmps,defers:=[] }) hi2 hl2 hrv
   refine ⟨_,results_eq fn tmps us hus,.inl ⟨_,Ψ2,β',_,s'',rfl,hE2,?_,?_,tup1_rel hrel,hk⟩⟩
   ·unfold popped at hpop
    split at hpop
    ·simp at hpop; subst hpop; exact hi2
    ·cases hpop
   ·unfold popped at hpop
    split at hpop
    ·rename_i f1 fs1 hb1
     simp at hpop
     subst hpop
     rw [hb1] at hf2
     exact hf2
    ·cases hpop
theorem prom_mark (hi:InvH C.P B w0 Ψ β h w) (ad:Addr) (v:Value) (hv:Ψ ad = some v) (hs:ad.spot = some 0):ad.off = 0:=by
 have:=hi.prom ad v hv
 unfold Pm at this
 rw [hs] at this
 exact this.1
theorem enter_rel {avs:List AV} {vs:List Value} {fn:Func} {s:St} (hf:RelF Ψ β (s.top :: s.below) As) (hr:RelL Ψ β avs vs) (hle:avs.length ≤ fn.ntmps) :
 RelF Ψ β (pads avs fn.ntmps :: s.top :: s.below) ({ tmps:=vs.toArray ++ Array.replicate (fn.ntmps - vs.toArray.size) undef,defers:=[] } :: As):=by
 refine jZd ⟨⟨[],[],rfl,by simp,List.nodup_nil,by simp⟩,?_⟩ hf
 have:=pads_rel hr hle
 simpa using this
theorem inlined0_sound (hsp:jQe C) {call:CallT} (hc:jXu C call) {f:FuncId} {fn:Func} (hfn:C.P.funcs[f]? = some fn) {code:Code} (hbody:fn.body = some code) {avs:List AV} {vs:List Value} {s:St} {k:AV → St → Prop} (hk:inlined0 C call f fn code avs s k) (hi:InvH C.P B w0 Ψ β s.heap w) (hf:RelF Ψ β (s.top :: s.below) As) (hr:RelL Ψ β avs vs) :
 Calls C.P f vs.toArray w (ResC C B w0 Ψ As k):=by
 unfold inlined0 at hk
 split at hk
 ·rename_i hle
  simp only [Bool.and_eq_true,Nat.ble_eq,jQ5] at hle
  obtain ⟨hle,hnp⟩:=hle
  refine callsIn_wide.1 (callsIn_of_wp_marks (F:=Fence.wide) (n:=0) hfn hbody trivial ?_)
  refine wpIn_mono (jXq (ro:=none) (Ψ0:=Ψ) (W:=dsts code) (As:=As) (β:=β) (Ψ:=Ψ) hsp hc f code (p:=[]) (by simp [jZb,hfn,hbody]) hk (fun l hl=>by cases hl) (Ext.refl B Ψ) hi (enter_rel hf hr hle) (Same.refl _ _ _) fun _ h=>h) ?_
  have done:∀ (a':Act) (w':World),PostC C B w0 Ψ As (dsts code) { tmps:=vs.toArray ++ Array.replicate (fn.ntmps - vs.toArray.size) undef,defers:=[] } (fin C fn k) a' w' → LeavesInM Fence.wide 0 C.P fn a'.tmps (ResC C B w0 Ψ As k) a'.defers .returning w':=by
   rintro a' w' ⟨Ψ',β',s',hE',hi',hf',hS',hk'⟩
   obtain ⟨_,ds,hd,_,hnew⟩:=hS'
   obtain ⟨w2,Ψ2,hL,hE2,hi2,hl2,hf2⟩:=unmark (ds:=ds) (prom_mark hi) hi' hf' hf hE' (by simpa using hd) hnew
   exact hL _ _ _ (fin_sound hk' hE2 hi2 hl2 hf2)
  intro e a' w' hq
  cases e with
  | normal=>exact done a' w' hq
  | ret=>exact done a' w' hq
  | exit _=>obtain ⟨_,_,_,_,_,_,_,hk'⟩:=hq; exact hk'
  | goto _=>exact hq
  | panic ch =>
   obtain ⟨hp,ds,hd,hm⟩:=hq
   cases hn:C.noPan with
   | true=>exact (hp.no hn).elim
   | false =>
    rw [hn,Bool.false_or] at hnp
    have hds:ds = []:=Classical.byContradiction fun hne=>by
     have hm:=hm hne
     unfold noMk at hnp
     rw [memN'_iff.2 hm] at hnp
     cases hnp
    subst hds
    have hd:a'.defers = []:=by simpa using hd
    show LeavesInM _ _ _ _ _ _ a'.defers _ _
    rw [hd]
    exact .inr ⟨ch,rfl,hp⟩
  | outgrown=>exact hq.elim
 ·exact hk.elim
theorem noMk_nil {code:Code} (h:noMk (dsts code) = true) {a0:Act} (hS:Same Ψ0 (dsts code) a0 a):a.defers = a0.defers:=by
 obtain ⟨_,ds,hd,hm,_⟩:=hS
 have:ds = []:=by
  refine Classical.byContradiction fun hne=>?_
  have hm:=hm hne
  unfold noMk at h
  rw [memN'_iff.2 hm] at h
  cases h
 subst this
 simpa using hd
theorem dcall_sound (hsp:jQe C) {call:CallT} (hc:jXu C call) {g:FuncId} {avs:List AV} {vs:List Value} {s:St} {k:St → Prop} {u:FrameMode} (hk:dcall C call g avs s k) (hi:InvH C.P B w0 Ψ β s.heap w) (hf:RelF Ψ β (s.top :: s.below) As) (hr:RelL Ψ β avs vs) :
 CallsDIn Fence.wide 0 C.P g vs.toArray u w fun e u' w'=>u' = u ∧ ResC C B w0 Ψ As (fun _ s'=>k s') e w':=by
 unfold dcall at hk
 split at hk
 ·exact hk.elim
 ·rename_i fn hfn
  split at hk
  ·exact hk.elim
  ·rename_i code hbody
   split at hk
   ·rename_i hno
    simp only [Bool.and_eq_true] at hno
    obtain ⟨hno,hnp⟩:=hno
    unfold inlined0 at hk
    split at hk
    ·rename_i hle
     simp only [Bool.and_eq_true,Nat.ble_eq,jQ5] at hle
     obtain ⟨hle,_⟩:=hle
     refine callsDIn_of_wp hfn hbody trivial ?_
     refine wpIn_mono (jXq (ro:=none) (Ψ0:=Ψ) (W:=dsts code) (As:=As) (β:=β) (Ψ:=Ψ) hsp hc g code (p:=[]) (by simp [jZb,hfn,hbody]) hk (fun l hl=>by cases hl) (Ext.refl B Ψ) hi (enter_rel hf hr hle) (Same.refl _ _ _) fun _ h=>h) ?_
     have done:∀ (a':Act) (w':World),PostC C B w0 Ψ As (dsts code) { tmps:=vs.toArray ++ Array.replicate (fn.ntmps - vs.toArray.size) undef,defers:=[] } (fin C fn fun _ s'=>k s') a' w' → a'.defers = [] ∧ ∃ v,(results fn a'.tmps).run C.P w' = .ok v w' ∧ ResC C B w0 Ψ As (fun _ s'=>k s') (.returned v) w':=by
      rintro a' w' ⟨Ψ',β',s',hE',hi',hf',hS',hk'⟩
      exact ⟨noMk_nil hno hS',fin_sound hk' hE' hi' (jQk hf').2 (jZo hf')⟩
     intro e a' w' hq
     cases e with
     | normal=>exact done a' w' hq
     | ret=>exact done a' w' hq
     | exit _=>obtain ⟨_,_,_,_,_,_,_,hk'⟩:=hq; exact hk'
     | goto _=>exact hq
     | panic _=>exact (hq.1.no hnp).elim
     | outgrown=>exact hq.elim
    ·exact hk.elim
   ·exact hk.elim
theorem defLast_eq:∀ {l:List Oper} {p:List Oper} {d:Operand × List Operand},defLast l = some (p,d) → ∃ o,l = p ++ [o] ∧ defOp o = some d
 | [],_,_,h=>by simp [defLast] at h
 | o :: l,p,d,h=>by
  unfold defLast at h
  split at h
  ·split at h
   ·rename_i d' hd
    simp only [Option.some.injEq,Prod.mk.injEq] at h
    obtain ⟨rfl,rfl⟩:=h
    exact ⟨o,rfl,hd⟩
   ·cases h
  ·split at h
   ·rename_i p' d' hl
    simp only [Option.some.injEq,Prod.mk.injEq] at h
    obtain ⟨rfl,rfl⟩:=h
    obtain ⟨o',e,ho⟩:=defLast_eq hl
    exact ⟨o',by rw [e]; rfl,ho⟩
   ·cases h
theorem defReg_eq {x:Code} {id:Nat} {ops:Array Oper} {pre:List Oper} {fo:Operand} {as:List Operand} (h:defReg x = some (id,ops,pre,fo,as)):x = .region id ops false ∧ ∃ o,ops.toList = pre ++ [o] ∧ defOp o = some (fo,as):=by
 unfold defReg at h
 split at h
 ·rename_i id' ops' draw
  cases draw
  ·simp only [cond_false] at h
   split at h
   ·rename_i p d hl
    simp only [Option.some.injEq,Prod.mk.injEq] at h
    obtain ⟨rfl,rfl,rfl,rfl⟩:=h
    exact ⟨rfl,defLast_eq hl⟩
   ·cases h
  ·cases h
 ·cases h
def PostD (C:Ctx) (B:Nat → Prop) (w0:World) (Ψ0:Pr) (As:List Act) (k:Option (FuncId × List Operand) → St → Prop) (a:Act) (w:World):Prop :=
 ∃ Ψ β s,Ext B Ψ0 Ψ ∧ InvH C.P B w0 Ψ β s.heap w ∧ RelF Ψ β (s.top :: s.below) (a :: As) ∧
  ((a.defers = [] ∧ k none s) ∨ (∃ g cp args,a.defers = [{ target:=.fn (.func g) cp,args:=args }] ∧ jZh C g = true ∧ C.quiet g = true ∧ k none s) ∨ ∃ g as,a.defers = [{ target:=.fn (.func g) #[],args:=(as.map a.eval).toArray }] ∧ jZh C g = true ∧ k (some (g,as)) s)
theorem keptAs_eq {W:List Nat} {a b:Act} (hS:∀ i,i ∉ W → b.tmps[i]? = a.tmps[i]?):∀ {l:List Operand},keptAs W l = true → l.map b.eval = l.map a.eval
 | [],_=>rfl
 | x :: l,h=>by
  simp only [keptAs,Bool.and_eq_true] at h
  obtain ⟨h1,h2⟩:=h
  rw [List.map_cons,List.map_cons,keptAs_eq hS h2]
  cases x with
  | tmp t =>
   simp only [Bool.not_eq_true'] at h1
   have hn:t ∉ W:=fun hm=>by rw [memN'_iff.2 hm] at h1; cases h1
   have:=hS t hn
   simp only [Act.eval]
   congr 1
   simp [this]
  | _=>cases h1
theorem op_defer {o:Oper} {fo:Operand} {as:List Operand} {g:FuncId} {cp:List Value} (ho:defOp o = some (fo,as)) (hfo:a.eval fo = .func (.func g) #[] cp.toArray) :
 o.guard = none ∧ o.dst = none ∧ (execOp a.eval o).run C.P w = .ok (.defer { target:=.fn (.func g) cp.toArray,args:=(as.map a.eval).toArray }) w:=by
 unfold defOp at ho
 split at ho
 ·rename_i c hg hd hop
  split at ho
  ·rename_i f hcal
   simp only [Option.some.injEq,Prod.mk.injEq] at ho
   obtain ⟨rfl,rfl⟩:=ho
   refine ⟨hg,hd,?_⟩
   have e:(c.args.toList.map a.eval).toArray = #[] ++ c.args.map a.eval:=by
    apply Array.ext'
    simp
   rw [e]
   simp [execOp,hop,resolve,hcal,hfo,Deferred.ofValue]
  ·cases ho
 ·cases ho
theorem awpD_sound (hsp:jQe C) {call:CallT} (hc:jXu C call) (fid:FuncId):∀ (c:Code) {p:List Nat} {k:Option (FuncId × List Operand) → St → Prop} {s:St} {Ψ0 Ψ:Pr} {β:List Value} {a:Act} {w:World},jZb C.P fid p = some c → awpD C call fid p c k s → noMk (dsts c) = true → C.noPan = true →
 Ext B Ψ0 Ψ → InvH C.P B w0 Ψ β s.heap w → RelF Ψ β (s.top :: s.below) (a :: As) → a.defers = [] → c.wpIn (Fw none) 0 C.P (fun e a' w'=>match e with | .normal=>PostD C B w0 Ψ0 As k a' w' | .ret=>PostD C B w0 Ψ0 As k a' w' | _=>False) a w:=by
 intro c
 induction c with
 | seq x y _ ihy =>
  intro p k s Ψ0 Ψ β a w hp hk hno hnp hE hi hf hd
  have hnx:noMk (dsts x) = true ∧ noMk (dsts y) = true:=by
   unfold noMk at hno ⊢
   simp only [Bool.not_eq_true',← Bool.not_eq_true,memN'_iff,dsts,List.mem_append,not_or] at hno ⊢
   exact hno
  unfold awpD at hk
  split at hk
  ·rename_i id ops pre fo as hreg
   obtain ⟨rfl,o,hops,ho⟩:=defReg_eq hreg
   split at hk
   ·rename_i hkeep
    refine wpIn_seq (wpIn_region_list ?_)
    rw [hops]
    refine aops_tail (ro:=none) (W:=dsts (.region id ops false)) (As:=As) (Ψ0:=Ψ0) (a0:=a) hc ops [o] pre hk hE hi hf (Same.refl _ _ _) (fun o' ho' t ht=>?_) ?_ fun _ _ _ hp _=>(hp.no hnp).elim
    ·simp only [dsts]
     rw [hops]
     exact dstsOps_mem (by simp [ho']) ht
    ·rintro a1 w1 ⟨Ψ1,β1,s1,hE1,hi1,hf1,hS1,hk1⟩
     have hd1:a1.defers = []:=(noMk_nil hnx.1 hS1).trans hd
     split at hk1
     ·rename_i g cap hev
      split at hk1
      ·rename_i hok
       have hef:=jXs (jQk hf1) fo
       rw [hev] at hef
       obtain ⟨vs,hfv,hcap⟩:=hef
       obtain ⟨hg,hdst,hrun⟩:=op_defer (C:=C) (w:=w1) ho hfv
       unfold wpListIn
       rw [if_pos (by simp [Region.wanted,hg])]
       refine ⟨fun _ _=>trivial,?_⟩
       rw [show o.semAt (Fw none).round a1.eval = execOp a1.eval o from Oper.semAt_none _ _,hrun,Oper.uponIn_defer,hdst]
       show wpListIn _ _ _ _ _ [] _ _
       refine wpListIn_nil ?_
       have hf2:RelF Ψ1 β1 (s1.top :: s1.below) (({ a1 with defers:={ target:=.fn (.func g) vs.toArray,args:=(as.map a1.eval).toArray } :: a1.defers }:Act).put none undef :: As):=by
        refine jZd ⟨⟨[],[{ target:=.fn (.func g) vs.toArray,args:=(as.map a1.eval).toArray }],by simp [Act.put,hd1],fun d hd' D e=>?_,List.nodup_nil,by simp⟩,(jQk hf1).2⟩ (jZo hf1)
        simp only [List.mem_singleton] at hd'
        subst hd'
        simp [mkD] at e
       have go:∀ (k2:St → Prop),(∀ (a':Act) (w':World),PostC C B w0 Ψ0 As (dsts y) (({ a1 with defers:={ target:=.fn (.func g) vs.toArray,args:=(as.map a1.eval).toArray } :: a1.defers }:Act).put none undef) k2 a' w' → PostD C B w0 Ψ0 As k a' w') → awp C call fid (1 :: p) y (fun e s2=>match e with | .exit _=>False | _=>k2 s2) s1 →
        y.wpIn (Fw none) 0 C.P (fun e a' w'=>match e with | .normal=>PostD C B w0 Ψ0 As k a' w' | .ret=>PostD C B w0 Ψ0 As k a' w' | _=>False) (({ a1 with defers:={ target:=.fn (.func g) vs.toArray,args:=(as.map a1.eval).toArray } :: a1.defers }:Act).put none undef) w1:=by
        intro k2 done hk2
        refine wpIn_mono (jXq (ro:=none) (Ψ0:=Ψ0) (W:=dsts y) (As:=As) hsp hc fid y (p:=1 :: p) (by simp [jZb,hp,jZq]) hk2 (fun l hl=>by cases hl) hE1 hi1 hf2 (Same.refl _ _ _) fun _ h=>h) ?_
        intro e a' w' hq
        cases e with
        | normal=>exact done a' w' hq
        | ret=>exact done a' w' hq
        | exit _=>obtain ⟨_,_,_,_,_,_,_,hk'⟩:=hq; exact hk'
        | goto _=>exact hq
        | panic _=>exact (hq.1.no hnp).elim
        | outgrown=>exact hq.elim
       split at hk1
       ·rename_i hqt
        refine go (k none) ?_ hk1
        rintro a' w' ⟨Ψ',β',s',hE',hi',hf',hS',hk'⟩
        refine ⟨Ψ',β',s',hE',hi',hf',.inr (.inl ⟨g,vs.toArray,(as.map a1.eval).toArray,?_,hok,hqt,hk'⟩)⟩
        rw [noMk_nil hnx.2 hS']
        simp only [Act.put,hd1]
       ·split at hk1
        ·have hcap:vs = []:=hcap
         subst hcap
         refine go (k (some (g,as))) ?_ hk1
         rintro a' w' ⟨Ψ',β',s',hE',hi',hf',hS',hk'⟩
         refine ⟨Ψ',β',s',hE',hi',hf',.inr (.inr ⟨g,as,?_,hok,hk'⟩)⟩
         rw [noMk_nil hnx.2 hS',keptAs_eq hS'.1.2 hkeep]
         simp only [Act.put,hd1]
         rfl
        ·exact hk1.elim
      ·exact hk1.elim
     ·exact hk1.elim
   ·exact hk.elim
  ·refine wpIn_seq (wpIn_mono (jXq (ro:=none) (Ψ0:=Ψ0) (W:=dsts x) (As:=As) hsp hc fid x (p:=0 :: p) (by simp [jZb,hp,jZq]) hk (fun l hl=>by cases hl) hE hi hf (Same.refl _ _ _) fun _ h=>h) ?_)
   intro e a' w' hq
   cases e with
   | normal =>
    obtain ⟨Ψ',β',s',hE',hi',hf',hS',hk'⟩:=hq
    exact ihy (by simp [jZb,hp,jZq]) hk' hnx.2 hnp hE' hi' hf' ((noMk_nil hnx.1 hS').trans hd)
   | ret =>
    obtain ⟨Ψ',β',s',hE',hi',hf',hS',hk'⟩:=hq
    exact ⟨Ψ',β',s',hE',hi',hf',.inl ⟨(noMk_nil hnx.1 hS').trans hd,hk'⟩⟩
   | exit _=>obtain ⟨_,_,_,_,_,_,_,hk'⟩:=hq; exact hk'
   | goto _=>exact hq
   | panic _=>exact (hq.1.no hnp).elim
   | outgrown=>exact hq.elim
 | _=>intro p k s Ψ0 Ψ β a w hp hk; exact hk.elim
theorem inlinedD_sound (hsp:jQe C) {call:CallT} (hc:jXu C call) {f:FuncId} {fn:Func} (hfn:C.P.funcs[f]? = some fn) {code:Code} (hbody:fn.body = some code) {avs:List AV} {vs:List Value} {s:St} {k:AV → St → Prop} (hk:inlinedD C call f fn code avs s k) (hi:InvH C.P B w0 Ψ β s.heap w) (hf:RelF Ψ β (s.top :: s.below) As) (hr:RelL Ψ β avs vs) :
 Calls C.P f vs.toArray w (ResC C B w0 Ψ As k):=by
 unfold inlinedD at hk
 split at hk
 ·rename_i hle
  simp only [Bool.and_eq_true,Nat.ble_eq,jQ5] at hle
  obtain ⟨hle,hno,hnp⟩:=hle
  refine callsIn_wide.1 (callsIn_of_wp_marks (F:=Fence.wide) (n:=0) hfn hbody trivial ?_)
  refine wpIn_mono (awpD_sound (Ψ0:=Ψ) (As:=As) hsp hc f code (p:=[]) (by simp [jZb,hfn,hbody]) hk hno hnp (Ext.refl B Ψ) hi (enter_rel hf hr hle) rfl) ?_
  have done:∀ (a':Act) (w':World),PostD C B w0 Ψ As (fun d s'=>match d with
   | none=>fin C fn k s'
   | some (g,as)=>dcall C call g (evs s'.top as) s' (fin C fn k)) a' w' → LeavesInM Fence.wide 0 C.P fn a'.tmps (ResC C B w0 Ψ As k) a'.defers .returning w':=by
   rintro a' w' ⟨Ψ',β',s',hE',hi',hf',hk'⟩
   rcases hk' with ⟨hd,hk'⟩ | ⟨g,cp,args,hd,hok,hqt,hk'⟩ | ⟨g,as,hd,hok,hk'⟩
   ·rw [hd]
    exact fin_sound hk' hE' hi' (jQk hf').2 (jZo hf')
   ·rw [hd]
    refine ⟨by simp,.inr ⟨fun h=>(by cases h),.func g,cp,g,args ++ cp,rfl,?_,fun _ _=>trivial,(hsp.2.2.2.2.2.2.2.2.2 g hqt (args ++ cp) w').mono ?_⟩⟩
    ·have:=jJ8 hok (args ++ cp) w'
     simpa [invoke] using this
    ·rintro e u' w2 ⟨rfl,rfl,v,rfl⟩
     exact fin_sound hk' hE' hi' (jQk hf').2 (jZo hf')
   ·rw [hd]
    have hargs:=jZg (Ψ:=Ψ') (β:=β') (fr:=s'.top) (a:=a') as fun x _=>jXs (jQk hf') x
    have hf2:RelF Ψ' β' (s'.top :: s'.below) ({ a' with defers:=[] } :: As):=jZd ⟨⟨[],[],rfl,by simp,List.nodup_nil,by simp⟩,(jQk hf').2⟩ (jZo hf')
    have hcall:=dcall_sound (u:=.returning) hsp hc hk' hi' hf2 hargs
    refine ⟨by simp,.inr ⟨fun h=>(by cases h),.func g,#[],g,(as.map a'.eval).toArray,rfl,?_,fun _ _=>trivial,hcall.mono ?_⟩⟩
    ·have:=jJ8 hok (as.map a'.eval).toArray w'
     simpa [invoke] using this
    ·rintro e u' w2 ⟨rfl,⟨v,Ψ2,β2,av,s2,rfl,hE2,hi2,hf2',hv,hk2⟩ | ⟨_,_,hp⟩⟩
     ·exact fin_sound hk2 (hE'.trans hE2) hi2 (jQk hf2').2 (jZo hf2')
     ·exact (hp.no hnp).elim
  intro e a' w' hq
  cases e with
  | normal=>exact done a' w' hq
  | ret=>exact done a' w' hq
  | exit _=>exact hq.elim
  | goto _=>exact hq.elim
  | panic _=>exact hq.elim
  | outgrown=>exact hq.elim
 ·exact hk.elim
theorem jK7 (hsp:jQe C) {call:CallT} (hc:jXu C call) {f:FuncId} {fn:Func} (hfn:C.P.funcs[f]? = some fn) {avs:List AV} {vs:List Value} {s:St} {k:AV → St → Prop} (hk:inlined C call f fn avs s k) (hi:InvH C.P B w0 Ψ β s.heap w) (hf:RelF Ψ β (s.top :: s.below) As) (hr:RelL Ψ β avs vs) :
 Calls C.P f vs.toArray w (CallR C B w0 Ψ As k):=by
 unfold inlined at hk
 split at hk
 ·exact hk.elim
 ·rename_i code hbody
  split at hk
  ·exact inlinedD_sound hsp hc hfn hbody hk hi hf hr
  ·exact inlined0_sound hsp hc hfn hbody hk hi hf hr
theorem inlined_ret (hnp:C.noPan = true) (hsp:jQe C) {call:CallT} (hc:jXu C call) {f:FuncId} {fn:Func} (hfn:C.P.funcs[f]? = some fn) {avs:List AV} {vs:List Value} {s:St} {k:AV → St → Prop} (hk:inlined C call f fn avs s k) (hi:InvH C.P B w0 Ψ β s.heap w) (hf:RelF Ψ β (s.top :: s.below) As) (hr:RelL Ψ β avs vs) :
 Calls C.P f vs.toArray w fun e w'=>∃ v Ψ' β' av s',e = .returned v ∧ Ext B Ψ Ψ' ∧ InvH C.P B w0 Ψ' β' s'.heap w' ∧ RelF Ψ' β' (s'.top :: s'.below) As ∧ RelV Ψ' β' av v ∧ k av s' :=
 (jK7 hsp hc hfn hk hi hf hr).mono fun _ _ h=>h.elim id fun ⟨_,_,hp⟩=>(hp.no hnp).elim
theorem acontractP_sound {g:PSpec} {f:FuncId} {avs:List AV} {vs:List Value} {s:St} {k:AV → St → Prop} (hS:SatP C.P C.panT f g) (hk:acontractP C g avs s k) (hi:InvH C.P B w0 Ψ β s.heap w) (hf:RelF Ψ β (s.top :: s.below) As) (hr:RelL Ψ β avs vs) :
 Calls C.P f vs.toArray w (CallR C B w0 Ψ As k):=by
 unfold acontractP at hk
 split at hk
 ·exact hk.elim
 ·rename_i x hd
  split at hk
  ·rename_i hno
   obtain ⟨hpre,hk⟩:=hk
   obtain ⟨hk1,hk2⟩:(∀ y,g.post x = .inl y → k (outV g.rs y) s) ∧ ∀ b,g.post x = .inr b → C.panOk b:=by
    split at hk
    ·rename_i q hq
     have he:=hS.1 q hq x
     refine ⟨fun y hy=>(by rw [he] at hy; cases hy),fun b hb=>?_⟩
     rw [he] at hb
     cases hb
     exact hk
    ·exact hk
   have hrel:=jJk (PLe.refl Ψ) hd hr (by rw [noRefs'_eq hno]; exact fun j hj=>by cases hj)
   refine (hS.2 (plain Ψ) w x vs (jKq hi) hi.glob.plain (jJe hrel) hpre).mono ?_
   rintro e w' ⟨Ψ',hb,hle,hnew,hres⟩
   have hst:Step Ψ w (joinP Ψ Ψ') w':=joinP_step hb hle hnew
   rcases hres with ⟨v,y,rfl,hy,hv⟩ | ⟨b,hy,rfl⟩
   ·exact .inl ⟨v,_,β,_,s,rfl,hst.ext hi.size,hi.step hst,jQq hst.le (fun _ _ h=>h) _ _ hf,jZm (jK6 Ψ Ψ') (fun k v h=>by simp at h) _ _ (jKr hv),hk1 y hy⟩
   ·exact .inr ⟨_,rfl,b,rfl,hk2 b hy,_,hst.ext hi.size,(hi.step hst).bare⟩
  ·exact hk.elim
theorem jVa (hsp:jQe C):∀ n,jXu C (acall C n)
 | 0=>⟨fun j avs s k hk=>hk.elim,fun f avs s k hk=>hk.elim⟩
 | n + 1=>by
  refine ⟨fun j avs s k hk B w0 Ψ β As vs w hi hf hr=>?_,?_⟩
  ·unfold acall at hk
   split at hk
   ·exact hk.elim
   ·exact around_sound hsp (jVa hsp n) hk hi hf hr
  intro f avs s k hk _ B w0 Ψ β As vs w hi hf hr
  unfold acall at hk
  split at hk
  ·rename_i isp hs
   exact hk.elim
  ·split at hk
   ·rename_i g hs
    exact (contractG_sound (px:=[]) (hsp.2.1 f g hs) hk hi hf hr).mono fun _ _ h=>.inl h
   ·split at hk
    ·rename_i sp hs
     exact (contract_sound (hsp.1 f sp hs) hk hi hf (maskAs_rel sp.ps hr)).mono fun _ _ h=>.inl h
    ·split at hk
     ·rename_i g hs
      exact (asort_sound (hsp.2.2.1 f g hs) hk hi hf hr).mono fun _ _ h=>.inl h
     ·split at hk
      ·rename_i g hs
       exact hk.elim
      split at hk
      ·rename_i g hs
       split at hk
       ·rename_i rest
        obtain ⟨v1,vs1,rfl,hv1,hr1⟩:=hr
        have hv1:v1 = .slice none 0 0:=hv1
        subst hv1
        exact (contractG_sound (px:=[.slice none 0 0]) (hsp.2.2.2.1 f g hs) hk hi hf hr1).mono fun _ _ h=>.inl h
       ·exact hk.elim
      ·split at hk
       ·rename_i hs' hs
        exact hk.elim
       split at hk
       ·rename_i g hs
        exact (amut_sound (hsp.2.2.2.2.2.2.2.1 f g hs) hk hi hf hr).mono fun _ _ h=>.inl h
       split at hk
       ·rename_i g hs
        exact acontractP_sound (hsp.2.2.2.2.2.2.2.2.1 f g hs) hk hi hf hr
       split at hk
       ·exact hk.elim
       ·rename_i fn hfn
        exact jK7 hsp (jVa hsp n) hfn hk hi hf hr
def okd:(t:Ty) → t.den → Prop
 | .int k,n=>k.has n
 | .bool,_=>True
 | .fnc,_=>True
 | .any,_=>True
 | .str,l=>(∀ c ∈ l,0 ≤ c ∧ c ≤ 255) ∧ l.length ≤ maxLen
 | .arr e,xs=>xs.length ≤ maxLen ∧ ∀ x ∈ xs,okd e x
 | .vec n e,xs=>xs.length = n ∧ ∀ x ∈ xs,okd e x
 | .unit,_=>True
 | .pair a b,x=>okd a x.1 ∧ okd b x.2
 | .rose a b,x=>Rose.all (fun y n=>okd a (Prod.fst y) ∧ okd b (Prod.snd y) ∧ n ≤ maxLen) x
def okds:(ts:List Ty) → dens ts → Prop
 | [],_=>True
 | [t],x=>okd t x
 | t :: u :: ts,x=>okd t x.1 ∧ okds (u :: ts) x.2
theorem rdL_okd {α:Type} {R:α → List Value → Prop} {p:α → Prop} (h:∀ x vs,R x vs → p x):∀ (xs:List α) (vs:List Value),rdL R xs vs → ∀ x ∈ xs,p x
 | [],_,_,_,hx=>by simp at hx
 | y :: ys,_,⟨c,vs',_,h1,h2⟩,x,hx=>by
  rcases List.mem_cons.1 hx with rfl | hx
  ·exact h _ _ h1
  ·exact rdL_okd h ys vs' h2 x hx
theorem rdL_okd' {α:Type} {R:α → List Value → Prop} {p:α → Prop}:∀ (xs:List α) (vs:List Value),(∀ x ∈ xs,∀ vs,R x vs → p x) → rdL R xs vs → ∀ x ∈ xs,p x
 | [],_,_,_,_,hx=>by simp at hx
 | y :: ys,_,h,⟨c,vs',_,h1,h2⟩,x,hx=>by
  rcases List.mem_cons.1 hx with rfl | hx
  ·exact h _ (by simp) _ h1
  ·exact rdL_okd' ys vs' (fun z hz=>h z (by simp [hz])) h2 x hx
theorem rdR_okd {α β:Type} {Ra:α → List Value → Prop} {Rb:β → List Value → Prop} {pa:α → Prop} {pb:β → Prop} (ha:∀ x vs,Ra x vs → pa x) (hb:∀ x vs,Rb x vs → pb x) :
 ∀ (r:Rose (α × β)) (vs:List Value),rdR Ψ Ra Rb r vs → Rose.all (fun y n=>pa y.1 ∧ pb y.2 ∧ n ≤ maxLen) r :=
 Rose.ind fun x l ih vs hr=>by
  obtain ⟨u,s,w,_,h2,h3,a',cap,_,h5,h6,h7⟩:=(rdR_iff _ vs).1 hr
  simp only [Rose.val,Rose.subs] at h2 h3 h5 h7
  refine ⟨⟨ha _ _ h2,hb _ _ h3,Nat.le_trans h5 h6⟩,(Rose.alls_iff l).2 ?_⟩
  rcases h7 with h7 | ⟨cells,h7,_⟩
  ·rw [h7]; simp
  ·exact rdL_okd' l cells ih h7
theorem jJo:∀ (t:Ty) (x:t.den) (cs:List Value),reads Ψ t x cs → okd t x
 | .int k,n,cs,h=>h.2
 | .bool,_,_,_=>trivial
 | .fnc,_,_,_=>trivial
 | .any,_,_,_=>trivial
 | .str,l,cs,h=>⟨h.2.1,h.2.2⟩
 | .arr e,xs,cs,⟨ad,cap,_,h1,h2,h3⟩=>⟨Nat.le_trans h1 h2,by
  rcases h3 with rfl | ⟨cells,h4,_⟩
  ·intro x hx; cases hx
  ·exact rdL_okd (jJo e) xs cells h4⟩
 | .vec n e,xs,cs,h=>⟨h.1,rdL_okd (jJo e) xs cs h.2⟩
 | .unit,_,_,_=>trivial
 | .pair a b,x,cs,⟨u,v,_,h1,h2⟩=>⟨jJo a x.1 u h1,jJo b x.2 v h2⟩
 | .rose a b,x,cs,h=>rdR_okd (jJo a) (jJo b) x cs h
theorem rel_okds:∀ {ts:List Ty} {x:dens ts} {vs:List Value},RelL Ψ β (outs ts x) vs → okds ts x
 | [],_,_,_=>trivial
 | [t],x,_,⟨_,_,_,⟨cs,hc,_⟩,_⟩=>jJo t x cs hc
 | t :: _ :: _,x,_,⟨_,_,_,⟨cs,hc,_⟩,hl⟩=>⟨jJo t x.1 cs hc,rel_okds hl⟩
theorem normF_rel:∀ (av:AV) (v:Value),RelV Ψ β av v → RelV Ψ β (normF av) v:=by
 intro av v h
 unfold normF
 split
 ·split
  ·obtain ⟨cs,h1,h2⟩:=h
   simp only [reads] at h1
   subst h1
   simp [Ty.isAgg] at h2
   exact ⟨[],h2.symm,rfl⟩
  ·exact h
 ·exact h
theorem normFs_rel:∀ {l:List AV} {vs:List Value},RelL Ψ β l vs → RelL Ψ β (normFs l) vs
 | [],_,h=>h
 | _ :: _,_,⟨v,vs',e,hv,hl⟩=>⟨v,vs',e,normF_rel _ _ hv,normFs_rel hl⟩
def Sat1 (P:Program) (f:FuncId) (sp:FSpec) (x:dens sp.ps):Prop :=
 ∀ (Ψ:Pr) (w:World) (args:List Value),(∀ a v,Ψ a = some v → a.spot = none ∧ w.cell? a = some v) → Gl P Ψ →
  RelL Ψ [] (outs sp.ps x) args →
  Calls P f args.toArray w fun e w'=>∃ v Ψ',e = .returned v ∧ Below w.heap.size w w' ∧ (∀ a u,Ψ a = some u → Ψ' a = some u) ∧
   (∀ a u,Ψ' a = some u → Ψ a = some u ∨ (w.heap.size ≤ a.block ∧ a.spot = none ∧ w'.cell? a = some u)) ∧ RelV Ψ' [] (outV sp.rs (sp.post x)) v
theorem fnwp_at (hsp:jQe C) (n:Nat) (f:FuncId) (sp:FSpec) (x:dens sp.ps) (hk:fnwp C n f sp x):Sat1 C.P f sp x:=by
 intro Ψ w args hprom hgl hrel
 unfold fnwp at hk
 split at hk
 ·exact hk.elim
 rename_i hnp
 split at hk
 ·exact hk.elim
 ·rename_i fn hfn
  have hi:InvH C.P (fun k=>k < w.heap.size) w Ψ [] (St.heap { top:=[],below:=[],heap:=[] }) w:=⟨BelowS.refl _ _,fun _ h=>h,fun a v hv=>Pm_mk (hprom a v hv).1 (hprom a v hv).2,fun a v hv hs=>absurd (hs.symm.trans (hprom a v hv).1) (by simp),rfl,fun k u hu=>by simp at hu,fun k b hb=>by simp at hb,fun k b g hb=>by simp at hb,fun i j bi bj g _ hb=>by simp at hb,hgl⟩
  have hf:RelF Ψ [] (St.top { top:=[],below:=[],heap:=[] } :: St.below { top:=[],below:=[],heap:=[] }) [{ tmps:=#[],defers:=[] }]:=⟨_,_,rfl,⟨⟨[],[],rfl,by simp,List.nodup_nil,by simp⟩,rfl⟩,rfl⟩
  refine (inlined_ret hnp hsp (jVa hsp n) hfn hk hi hf (normFs_rel hrel)).mono ?_
  rintro e w' ⟨v,Ψ1,β1,av,s1,rfl,hE1,hi1,hf1,hv,hy⟩
  split at hy
  ·rename_i y hd
   subst hy
   have key:∀ (avs:List AV) (vs:List Value),asDs s1.heap sp.rs avs = some (sp.post x) → RelL Ψ1 β1 avs vs → ∃ Ψ',Ext (fun k=>k < w.heap.size) Ψ1 Ψ' ∧ (∀ ad u,Ψ' ad = some u → Pm w' ad u) ∧ RelL Ψ' [] (outs sp.rs (sp.post x)) vs:=by
    intro avs vs hd hr
    obtain ⟨Ψ',hE',hi',_,hr'⟩:=jXd (refsA avs) hi1 hf1
    exact ⟨Ψ',hE',hi'.prom,jJk hE'.1 hd hr hr'⟩
   have fin:∀ (Ψ':Pr),Ext (fun k=>k < w.heap.size) Ψ1 Ψ' → (∀ ad u,Ψ' ad = some u → Pm w' ad u) → RelV Ψ' [] (outV sp.rs (sp.post x)) v →
    ∃ v' Ψ',Ending.returned v = .returned v' ∧ Below w.heap.size w w' ∧ (∀ a u,Ψ a = some u → Ψ' a = some u) ∧ (∀ a u,Ψ' a = some u → Ψ a = some u ∨ (w.heap.size ≤ a.block ∧ a.spot = none ∧ w'.cell? a = some u)) ∧ RelV Ψ' [] (outV sp.rs (sp.post x)) v':=by
    intro Ψ' hE' hp' hv'
    have hE:=hE1.trans hE'
    exact ⟨v,plain Ψ',rfl,hi1.low.of,fun ad u hu=>jQ4.2 ⟨(hprom ad u hu).1,hE.1 ad u hu⟩,fun ad u hu=>by
     obtain ⟨g1,g2⟩:=jQ4.1 hu
     exact (hE.2 ad u g2).imp id fun h=>⟨Nat.le_of_not_lt h,g1,Pm_plain g1 (hp' ad u g2)⟩,jKr hv'⟩
   revert hd key fin
   generalize sp.post x = y
   generalize sp.rs = rs at y
   intro hd key fin
   match rs,y,hd,key,fin with
   | [],y,hd,key,fin =>
    replace hd:(match (generalizing:=false) av with | .tup []=>asDs s1.heap [] [] | _=>none) = some y:=hd
    split at hd
    ·obtain ⟨us,rfl,hl⟩:=hv
     simp only [RelL] at hl
     subst hl
     exact fin _ (Ext.refl _ _) hi1.prom ⟨[],rfl,rfl⟩
    ·cases hd
   | [t],y,hd,key,fin =>
    obtain ⟨Ψ',hE',hp',hl⟩:=key _ _ hd ⟨v,[],rfl,hv,rfl⟩
    obtain ⟨v',vs',e,hv',hl'⟩:=hl
    simp only [List.cons.injEq] at e
    obtain ⟨rfl,rfl⟩:=e
    exact fin _ hE' hp' hv'
   | t :: u :: ts,y,hd,key,fin =>
    replace hd:(match (generalizing:=false) av with | .tup vs=>asDs s1.heap (t :: u :: ts) vs | _=>none) = some y:=hd
    split at hd
    ·obtain ⟨us,rfl,hl⟩:=hv
     obtain ⟨Ψ',hE',hp',hl'⟩:=key _ _ hd hl
     refine fin _ hE' hp' ?_
     have e:outV (t :: u :: ts) y = .tup (outs (t :: u :: ts) y):=by
      match ts with
      | []=>rfl
      | _ :: _=>rfl
     rw [e]
     exact ⟨us,rfl,hl'⟩
    ·cases hd
  ·exact hy.elim
theorem jQn (hsp:jQe C) (n:Nat) (f:FuncId) (sp:FSpec) (hall:∀ x,okds sp.ps x → sp.pre x → fnwp C n f sp x):Sat C.P f sp :=
 fun Ψ w x args hprom hgl hrel hpre=>fnwp_at hsp n f sp x (hall x (rel_okds hrel) hpre) Ψ w args hprom hgl hrel
theorem resP_rel {av:AV} {v:Value} {s1:St} {As1:List Act} (hi1:InvH C.P B w0 Ψ β s1.heap w) (hf1:RelF Ψ β (s1.top :: s1.below) As1):∀ (rs:List Ty) (y:dens rs),resOf rs s1.heap av = some y → RelV Ψ β av v →
 ∃ Ψ',Ext B Ψ Ψ' ∧ (∀ ad u,Ψ' ad = some u → Pm w ad u) ∧ RelV Ψ' [] (outV rs y) v:=by
 intro rs y hd hv
 have key:∀ (avs:List AV) (vs:List Value) (rs:List Ty) (y:dens rs),asDs s1.heap rs avs = some y → RelL Ψ β avs vs → ∃ Ψ',Ext B Ψ Ψ' ∧ (∀ ad u,Ψ' ad = some u → Pm w ad u) ∧ RelL Ψ' [] (outs rs y) vs:=by
  intro avs vs rs y hd hr
  obtain ⟨Ψ',hE',hi',_,hr'⟩:=jXd (refsA avs) hi1 hf1
  exact ⟨Ψ',hE',hi'.prom,jJk hE'.1 hd hr hr'⟩
 match rs,y,hd with
 | [],y,hd =>
  replace hd:(match (generalizing:=false) av with | .tup []=>asDs s1.heap [] [] | _=>none) = some y:=hd
  split at hd
  ·obtain ⟨us,rfl,hl⟩:=hv
   simp only [RelL] at hl
   subst hl
   exact ⟨Ψ,Ext.refl _ _,hi1.prom,[],rfl,rfl⟩
  ·cases hd
 | [t],y,hd =>
  replace hd:asDs s1.heap [t] [av] = some y:=hd
  obtain ⟨Ψ',hE',hp',hl⟩:=key _ _ _ _ hd ⟨v,[],rfl,hv,rfl⟩
  obtain ⟨v',vs',e,hv',hl'⟩:=hl
  simp only [List.cons.injEq] at e
  obtain ⟨rfl,rfl⟩:=e
  exact ⟨Ψ',hE',hp',hv'⟩
 | t :: u :: ts,y,hd =>
  replace hd:(match (generalizing:=false) av with | .tup vs=>asDs s1.heap (t :: u :: ts) vs | _=>none) = some y:=hd
  split at hd
  ·obtain ⟨us,rfl,hl⟩:=hv
   obtain ⟨Ψ',hE',hp',hl'⟩:=key _ _ _ _ hd hl
   refine ⟨Ψ',hE',hp',?_⟩
   have e:outV (t :: u :: ts) y = .tup (outs (t :: u :: ts) y):=by
    match ts with
    | []=>rfl
    | _ :: _=>rfl
   rw [e]
   exact ⟨us,rfl,hl'⟩
  ·cases hd
theorem satP_each {P:Program} {pT:TypeId} {f:FuncId} {sp:PSpec} {m:Nat} (h:∀ x,okds sp.ps x → sp.pre x → ∃ C:Ctx,C.P = P ∧ C.panT = pT ∧ jQe C ∧ (∀ b,C.panOk b → sp.post x = .inr b) ∧ fnwpP C m f sp x) (h0:sp.fails = none:=by rfl):SatP P pT f sp:=by
 refine ⟨fun g hg=>(by rw [h0] at hg; cases hg),?_⟩
 intro Ψ w x args hprom hgl hrel hpre
 obtain ⟨C,rfl,rfl,hsp,hpan,hk⟩:=h x (rel_okds hrel) hpre
 unfold fnwpP at hk
 split at hk
 ·exact hk.elim
 ·rename_i fn hfn
  have hi:InvH C.P (fun k=>k < w.heap.size) w Ψ [] (St.heap { top:=[],below:=[],heap:=[] }) w:=⟨BelowS.refl _ _,fun _ h=>h,fun a v hv=>Pm_mk (hprom a v hv).1 (hprom a v hv).2,fun a v hv hs=>absurd (hs.symm.trans (hprom a v hv).1) (by simp),rfl,fun k u hu=>by simp at hu,fun k b hb=>by simp at hb,fun k b g hb=>by simp at hb,fun i j bi bj g _ hb=>by simp at hb,hgl⟩
  have hf:RelF Ψ [] (St.top { top:=[],below:=[],heap:=[] } :: St.below { top:=[],below:=[],heap:=[] }) [{ tmps:=#[],defers:=[] }]:=⟨_,_,rfl,⟨⟨[],[],rfl,by simp,List.nodup_nil,by simp⟩,rfl⟩,rfl⟩
  have out:∀ {Ψ1:Pr} {w':World} {e:Ending},Ext (fun k=>k < w.heap.size) Ψ Ψ1 → BelowS (fun k=>k < w.heap.size) w w' → (∀ ad u,Ψ1 ad = some u → Pm w' ad u) → ((∃ v y,e = .returned v ∧ sp.post x = .inl y ∧ RelV (plain Ψ1) [] (outV sp.rs y) v) ∨ ∃ b,sp.post x = .inr b ∧ e = .panicked (panE C.panT b)) →
   ∃ Ψ',Below w.heap.size w w' ∧ (∀ a u,Ψ a = some u → Ψ' a = some u) ∧ (∀ a u,Ψ' a = some u → Ψ a = some u ∨ (w.heap.size ≤ a.block ∧ a.spot = none ∧ w'.cell? a = some u)) ∧ ((∃ v y,e = .returned v ∧ sp.post x = .inl y ∧ RelV Ψ' [] (outV sp.rs y) v) ∨ ∃ b,sp.post x = .inr b ∧ e = .panicked (panE C.panT b)) :=
   fun {Ψ1 w' e} hE hlow hp hres=>⟨plain Ψ1,hlow.of,fun ad u hu=>jQ4.2 ⟨(hprom ad u hu).1,hE.1 ad u hu⟩,fun ad u hu=>by
    obtain ⟨g1,g2⟩:=jQ4.1 hu
    exact (hE.2 ad u g2).imp id fun h=>⟨Nat.le_of_not_lt h,g1,Pm_plain g1 (hp ad u g2)⟩,hres⟩
  refine (jK7 hsp (jVa hsp m) hfn hk hi hf (normFs_rel hrel)).mono ?_
  rintro e w' (⟨v,Ψ1,β1,av,s1,rfl,hE1,hi1,hf1,hv,hy⟩ | ⟨ch,rfl,b,rfl,ho,Ψ1,hE1,hi1⟩)
  ·split at hy
   ·rename_i y hd
    obtain ⟨Ψ2,hE2,hp2,hv2⟩:=resP_rel hi1 hf1 sp.rs y hd hv
    exact out (hE1.trans hE2) hi1.low hp2 (.inl ⟨v,y,rfl,hy,jKr hv2⟩)
   ·exact hy.elim
  ·exact out hE1 hi1.low hi1.prom (.inr ⟨b,hpan b ho,rfl⟩)
end Go.AM
