import Derived.Test.YtobfmplofoofkaaGreatDoorKz6
set_option linter.unusedSimpArgs false
set_option linter.unusedVariables false
namespace Go.AM
open Go.RowKit
variable {B:Nat->Prop} {w0:World} {C:Ctx} {Ψ bL:Pr} {β:List Value} {h:List aB} {w w':World} {fr:List AV} {a a0:Act} {As:List Act} {W:List Nat}
theorem Gc{sp:aJ}{f:FuncId}{dN:List AV}{vs:List Value}{s:St}{k:AV->St->Prop}(hS:Sat C.P f sp)(hk:contract sp dN s k)(hi:aD C.P B w0 Ψ β s.heap w)(hf:aQ Ψ β (s.top::s.below) As)(hr:aL Ψ β dN vs):
 Calls C.P f vs.toArray w fun e w'=>∃v ax β' av s',e= .returned v/\Ext B Ψ ax/\aD C.P B w0 ax β' s'.heap w'/\aQ ax β' (s'.top::s'.below) As/\aE ax β' av v/\k av s':=by
 unfold contract at hk;split at hk
 ·exact hk.elim
 ·rename_i x hd;obtain⟨hpre,hk⟩:=hk;split at hk
  ·rename_i hfl;refine (w6 hS hi hr hd hpre (.inl hfl)).mono ?_
   rintro e w' ⟨v,ax,rfl,hst,hv⟩
   exact⟨v,ax,β,_,s,rfl,hst.ext hi.size,hi.step hst,bF hst.le (fun _ _ h=>h) _ _ hf,hv,hk⟩
  ·rename_i hfl;simp only[Bool.not_eq_true]at hfl;rw[hfl,cond_false]at hd;obtain⟨fE,wF,hi1,o8,TU⟩:=dG (cS dN) hi hf;have bu:=gE wF.1 hd hr TU;refine (hS (plain fE) w x vs (sB hi1) hi1.gQ.plain (mo bu) hpre).mono ?_
   rintro e w' ⟨v,ax,rfl,hb,hle,hnew,hv⟩
   have hst:Step fE w (o9 fE ax) w':=xV hb hle hnew;exact⟨v,_,β,_,_,rfl,wF.trans (hst.ext hi.size),hi1.step hst,bF hst.le (fun _ _ h=>h) _ _ o8,jk (uH fE ax) (fun k v h=>by simp at h) _ _ (xU hv),hk⟩
theorem tK{g:cL}{f:FuncId}{dN:List AV}{vs px:List Value}{s:St}{k:AV->St->Prop}(hS:Nw C.P f px g)(hk:vA g dN s k)(hi:aD C.P B w0 Ψ β s.heap w)(hf:aQ Ψ β (s.top::s.below) As)(hr:aL Ψ β dN vs):
 Calls C.P f (px++vs).toArray w fun e w'=>∃v ax β' av s',e= .returned v/\Ext B Ψ ax/\aD C.P B w0 ax β' s'.heap w'/\aQ ax β' (s'.top::s'.below) As/\aE ax β' av v/\k av s':=by
 unfold vA at hk;split at hk
 ·exact hk.elim
 ·rename_i x hd;obtain⟨hpre,hk⟩:=hk;obtain⟨fE,wF,hi1,o8,TU⟩:=dG (cS dN) hi hf;have bu:=gE wF.1 hd hr TU;refine (QX hS hi1 bu hpre).mono ?_
  rintro e w' ⟨v,ax,rfl,hst,hnh,hi2⟩
  exact⟨v,ax,β++[v],.sl (hlen (s.c8 (cS dN)).heap),{s.c8 (cS dN) with heap:=(s.c8 (cS dN)).heap++[.grow g.tid g.e (g.post x)]},rfl,wF.trans (hst.ext hi1.size),hi2,bF hst.le (aS v) _ _ o8,by
   refine⟨?_,hnh⟩
   rw[cF,<-hi1.len];simp,hk⟩
theorem OE:∀{dN:List AV} {vs:List Value} {n:Nat},aL Ψ β dN vs->dN.length<=n->aL Ψ β (ZA dN n) (vs++List.replicate (n-vs.length) undef)
 |[],vs,n,hr,_=>by
  simp only[aL]at hr;subst hr;simp only[ZA,WaY,WaB,Nat.sub_zero];induction n with
  |zero=>rfl
  |succ n ih=>rw[Wb8,Wb8];exact⟨_,_,rfl,rfl,ih (by simp)⟩
 |av::dN,vs,n,⟨v,vs',e,hv,hl⟩,hn=>by
  subst e;have hn:dN.length+1<=n:=by simpa using hn
  refine⟨v,vs'++List.replicate (n-1-vs'.length) undef,?_,hv,OE hl (by omega)⟩
  simp only[WaP,Wae];rw[show n-(vs'.length+1)=n-1-vs'.length by omega]
def Wa(tmps:Array Value):ResultVar->Sem Value
 | .tmp t=>pure (tmps.getD t undef)
 | .cell a t=>do loadVar t (<-asAddr (tmps.getD a undef))
theorem sP{s:St}(hi:aD C.P B w0 Ψ β s.heap w)(hfr:aL Ψ β s.top a.tmps.toList):∀{rs:List ResultVar} {dN:List AV},Nt C s rs=some dN->∃vs,(rs.mapM (Wa a.tmps)).run C.P w= .ok vs w/\aL Ψ β dN vs
 |[],dN,hr=>by
  simp[Nt]at hr
  subst hr;exact⟨[],by simp,rfl⟩
 | .tmp t::rs,dN,hr=>by
  unfold Nt at hr;split at hr
  ·rename_i l hl;simp at hr
   subst hr;obtain⟨vs,h1,h2⟩:=sP hi hfr hl;have h3:=c9 _ _ hfr t;rw[getD_eq,<-Wah]at h3;exact⟨_::vs,by simp[Wcc,Wa,h1],_,_,rfl,h3,h2⟩
  ·cases hr
 | .cell t ty::rs,dN,hr=>by
  unfold Nt at hr;split at hr
  ·rename_i k off hown;split at hr
   ·rename_i cs hg;split at hr
    ·rename_i v l hlo hl;simp at hr
     subst hr;obtain⟨vs,h1,h2⟩:=sP hi hfr hl;have h3:=c9 _ _ hfr t;rw[getD_eq,<-Wah,hown]at h3;obtain⟨g,c,e,bV,NW,hh,hB,bu,hone⟩:=KZ hi hg h3;obtain⟨ag,n,cU,hle,vD⟩:=xG hlo bu hone;have hrun:(loadVar ty ⟨g,off,none⟩).run C.P w= .ok _ w:=bN cU (us:=(c.toList.drop off).take n) (by simp;simp at hle;omega) (fun j u hj=>by
      rw[bp hh];have:=bM hj
      simpa using this)
     exact⟨_::vs,by simp[Wcc,Wa,h1,NW,hrun,asAddr],_,_,rfl,vD,h2⟩
    ·cases hr
   ·rename_i u x hg;split at hr
    ·rename_i ag n cU;split at hr
     ·rename_i v l hsub hl;simp at hr
      subst hr;obtain⟨vs,h1,h2⟩:=sP hi hfr hl;have h3:=c9 _ _ hfr t;rw[getD_eq,<-Wah,hown]at h3;obtain⟨g,c,e,bV,NW,hh,hB,hrd⟩:=vE hi hg h3;obtain⟨t',x',rfl,k1,k2,k3,k4⟩:=zC hsub hrd;have hrun:(loadVar ty ⟨g,off,none⟩).run C.P w= .ok _ w:=bN cU (us:=(c.toList.drop off).take n) (by simp;simp at k3;omega) (fun j u hj=>by
       rw[bp hh];have:=bM hj
       simpa using this)
      exact⟨_::vs,by simp[Wcc,Wa,h1,NW,hrun,asAddr],_,_,rfl,jb k4 k1.symm (fun hf=>by have:=(cQ cU).2.2 hf;rw[aj t' _ _ k4];omega),h2⟩
     ·cases hr
    ·cases hr
   ·cases hr
  ·cases hr
theorem Ru(fn:Func)(tmps:Array Value)(vs:List Value)(hr:(fn.results.toList.mapM (Wa tmps)).run C.P w= .ok vs w):
 (results fn tmps).run C.P w= .ok (if hh:vs.length=1 then vs[0] else .tuple vs.toArray) w:=by
 have e:results fn tmps=(do let vs<-fn.results.mapM (Wa tmps);pure (if h:vs.size=1 then vs[0] else .tuple vs)):=rfl
 rw[e,Array.mapM_eq_mapM_toList];simp[hr]
theorem qaW{dN:List AV}{vs:List Value}(hr:aL Ψ β dN vs):aE Ψ β (qlo dN) (if hh:vs.length=1 then vs[0] else .tuple vs.toArray):=by
 match dN,hr with
 |[],hr=>
  simp only[aL]at hr;subst hr;exact⟨[],rfl,rfl⟩
 |[av],⟨v,vs',e,hv,hl⟩=>
  simp only[aL]at hl;subst hl e;exact hv
 |av::av'::dN,hr=>
  have hlen:=dr _ _ hr;rw[dif_neg (by simp at hlen;omega)]
  exact⟨vs,rfl,hr⟩
abbrev qi7(C:Ctx)(B:Nat->Prop)(w0:World)(Ψ:Pr)(As:List Act)(k:AV->St->Prop)(e:Ending)(w':World):Prop:=TT C B w0 Ψ As k e w'
theorem Wb{fn:Func}{k:AV->St->Prop}{s':St}{mZ:Pr}{β':List Value}{tmps:Array Value}(hk:fin C fn k s')(DD:Ext B Ψ mZ)(hi2:aD C.P B w0 mZ β' s'.heap w)(YO:aL mZ β' s'.top tmps.toList)(H6:aQ mZ β' s'.below As):
 LeavesIn Fence.wide 0 C.P fn tmps (qi7 C B w0 Ψ As k) [] .returning w:=by
 unfold fin at hk;split at hk
 ·exact hk.elim
 ·rename_i rvs vD;split at hk
  ·exact hk.elim
  ·rename_i s'' DM;obtain⟨us,kN,bu⟩:=sP (a:={tmps:=tmps,defers:=[]}) hi2 YO vD;refine⟨_,Ru fn tmps us kN,.inl ⟨_,mZ,β',_,s'',rfl,DD,?_,?_,qaW bu,hk⟩⟩
   ·unfold r7 at DM;split at DM
    ·simp at DM;subst DM;exact hi2
    ·cases DM
   ·unfold r7 at DM;split at DM
    ·rename_i f1 fs1 hb1;simp at DM
     subst DM;rw[hb1]at H6;exact H6
    ·cases DM
theorem Wc(hi:aD C.P B w0 Ψ β h w)(ad:Addr)(v:Value)(hv:Ψ ad=some v)(hs:ad.spot=some 0):ad.off=0:=by
 have:=hi.prom ad v hv
 unfold Pm at this;rw[hs]at this;exact this.1
theorem Wd{dN:List AV}{vs:List Value}{fn:Func}{s:St}(hf:aQ Ψ β (s.top::s.below) As)(hr:aL Ψ β dN vs)(hle:dN.length<=fn.ntmps):
 aQ Ψ β (ZA dN fn.ntmps::s.top::s.below) ({tmps:=vs.toArray++Array.replicate (fn.ntmps-vs.toArray.size) undef,defers:=[]} ::As):=by
 refine gF ⟨⟨[],[],rfl,by simp,Wby,by simp⟩,?_⟩ hf
 have:=OE hr hle
 simpa using this
theorem Gd(hsp:au C){call:gk}(hc:fc C call){f:FuncId}{fn:Func}(hfn:C.P.funcs[f]?=some fn){code:Code}(hbody:fn.body=some code){dN:List AV}{vs:List Value}{s:St}{k:AV->St->Prop}(hk:EZ C call f fn code dN s k)(hi:aD C.P B w0 Ψ β s.heap w)(hf:aQ Ψ β (s.top::s.below) As)(hr:aL Ψ β dN vs):
 Calls C.P f vs.toArray w (qi7 C B w0 Ψ As k):=by
 unfold EZ at hk;split at hk
 ·rename_i hle;simp only[Wac,WaK,dw]at hle;obtain⟨hle,hnp⟩:=hle;refine callsIn_wide.1 (callsIn_of_wp_marks (F:=Fence.wide) (n:=0) hfn hbody trivial ?_)
  refine wpIn_mono (fK (ro:=none) (bL:=Ψ) (W:=kr code) (As:=As) (β:=β) (Ψ:=Ψ) hsp hc f code (p:=[]) (by simp[iZ,hfn,hbody]) hk (fun l hl=>by cases hl) (Ext.refl B Ψ) hi (Wd hf hr hle) (fI.refl _ _ _) fun _ h=>h) ?_
  have done:∀(a':Act) (w':World),jc C B w0 Ψ As (kr code) {tmps:=vs.toArray++Array.replicate (fn.ntmps-vs.toArray.size) undef,defers:=[]} (fin C fn k) a' w'->LeavesInM Fence.wide 0 C.P fn a'.tmps (qi7 C B w0 Ψ As k) a'.defers .returning w':=by
   rintro a' w' ⟨ax,β',s',jF,hi',hf',rP,hk'⟩
   obtain⟨_,ds,hd,_,hnew⟩:=rP;obtain⟨w2,mZ,hL,DD,hi2,YO,H6⟩:=qi0 (ds:=ds) (Wc hi) hi' hf' hf jF (by simpa using hd) hnew
   exact hL _ _ _ (Wb hk' DD hi2 YO H6)
  intro e a' w' hq;cases e with
  |normal=>exact done a' w' hq
  |ret=>exact done a' w' hq
  |exit _=>obtain⟨_,_,_,_,_,_,_,hk'⟩:=hq;exact hk'
  |goto _=>exact hq
  |panic ch=>
   obtain⟨hp,ds,hd,hm⟩:=hq;cases hn:C.oN with
   |true=>exact (hp.no hn).elim
   |false=>
    rw[hn,WbO]at hnp;have hds:ds=[]:=Wcn fun hne=>by
     have hm:=hm hne;unfold qlp at hnp;rw[vI.2 hm]at hnp;cases hnp
    subst hds;have hd:a'.defers=[]:=by simpa using hd
    show LeavesInM _ _ _ _ _ _ a'.defers _ _
    rw[hd];exact .inr ⟨ch,rfl,hp⟩
  |outgrown=>exact hq.elim
 ·exact hk.elim
theorem qM(hsp:au C){call:gk}(hc:fc C call){f:FuncId}{fn:Func}(hfn:C.P.funcs[f]?=some fn){dN:List AV}{vs:List Value}{s:St}{k:AV->St->Prop}(hk:nX C call f fn dN s k)(hi:aD C.P B w0 Ψ β s.heap w)(hf:aQ Ψ β (s.top::s.below) As)(hr:aL Ψ β dN vs):
 Calls C.P f vs.toArray w (TT C B w0 Ψ As k):=by
 unfold nX at hk;split at hk
 ·exact hk.elim
 ·rename_i code hbody;split at hk
  ·exact hk.elim
  ·exact Gd hsp hc hfn hbody hk hi hf hr
theorem qs(hnp:C.oN=true)(hsp:au C){call:gk}(hc:fc C call){f:FuncId}{fn:Func}(hfn:C.P.funcs[f]?=some fn){dN:List AV}{vs:List Value}{s:St}{k:AV->St->Prop}(hk:nX C call f fn dN s k)(hi:aD C.P B w0 Ψ β s.heap w)(hf:aQ Ψ β (s.top::s.below) As)(hr:aL Ψ β dN vs):
 Calls C.P f vs.toArray w fun e w'=>∃v ax β' av s',e= .returned v/\Ext B Ψ ax/\aD C.P B w0 ax β' s'.heap w'/\aQ ax β' (s'.top::s'.below) As/\aE ax β' av v/\k av s':=
 (qM hsp hc hfn hk hi hf hr).mono fun _ _ h=>h.elim id fun ⟨_,_,hp⟩=>(hp.no hnp).elim
theorem We{t u:Ty}{ts:List Ty}{av:AV}{us:List AV}(h:Nv (t::u::ts) av=some us):av= .lW us:=by
 cases av with
 |lW cs=>simp only[Nv,Option.some.injEq]at h;rw[h]
 |_=>simp[Nv]at h
theorem OF(hsp:au C){call:gk}(hc:fc C call){f:FuncId}{fn:Func}(hfn:C.P.funcs[f]?=some fn){rs:List Ty}{A8:List LA}{dN:List AV}{vs:List Value}{s:St}{k:AV->St->Prop}(hk:ZI C call f fn rs A8 dN s k)(hi:aD C.P B w0 Ψ β s.heap w)(hf:aQ Ψ β (s.top::s.below) As)(hr:aL Ψ β dN vs):
 Calls C.P f vs.toArray w (TT C B w0 Ψ As k):=by
 unfold ZI at hk;obtain⟨as,hk⟩:=br hk;split at hk
 ·obtain⟨I,YQ,hk2⟩:=hk;have hf0:=hf;obtain⟨a,As',rfl,ha,hb⟩:=hf0;have DK:∀i j,bX s.top i= .sl j->j<s.heap.length:=by
   intro i j hij;have h1:=c9 _ _ ha.2 i;rw[hij]at h1;rw[<-hi.len];rcases Wak j β.length with h'|h'
   ·exact h'
   ·have h1:β[j]?=_:=h1.1;rw[Wai h']at h1;cases h1
  have hsc:∀k cs i j,aH s.heap k= .cells cs->bX cs i= .sl j->j<s.heap.length:=by
   intro k cs i j hk hij;obtain⟨g,c,e,_,_,_,h4,_⟩:=hi.blk k _ (aC hk (by simp))
   have h1:=c9 _ _ h4 i;rw[hij]at h1;rw[<-hi.len];rcases Wak j β.length with h'|h'
   ·exact h'
   ·have h1:β[j]?=_:=h1.1;rw[Wai h']at h1;cases h1
  have hh0:pn C B s [] as Ψ β a As':=⟨hi.len,gF ⟨ha.1,sJ ha.2⟩ (sI hb),w,fun k b hb=>by
   obtain⟨b0,h1,h2⟩:=pg hb;rw[h2];exact FZ (hi.blk k b0 h1)⟩
  refine (qM hsp hc hfn YQ hi hf hr).mono ?_
  rintro e w' (⟨v,ax,β',av,s',rfl,jF,hi',hf',hv,hk'⟩|hp)
  ·left
   split at hk'
   ·exact hk'.elim
   rename_i us kN;split at hk'
   ·rename_i hno;split at hk'
    ·exact hk'.elim
    rename_i r hr';split at hk'
    ·exact hk'.elim
    rename_i x' hx';split at hk'
    ·rename_i hfit;obtain⟨hP,hI⟩:=(mq _ _).1 hk';obtain⟨β3,YR,hf3,_⟩:=x8 hh0 DK hsc jF.1 hi' hf' ⟨rfl,fun _ _=>rfl⟩ hfit hP hx'
     refine⟨v,ax,β3,nV rs r,_,rfl,jF,YR,hf3,?_,hk2 r x' hI⟩
     have up:∀{cs:List AV} {zs:List Value},aL ax [] cs zs->aL ax β3 cs zs:=fun h=>aX (bW.refl _) (fun k v h=>by simp at h) _ _ h
     match rs,r,kN,hr' with
     |[t],r,kN,hr'=>
      simp only[Nv,Option.some.injEq]at kN;subst kN;have ho:=gE (vs:=[v]) (bW.refl ax) hr' ⟨v,[],rfl,hv,rfl⟩ (by rw[o6 hno];exact fun j hj=>by cases hj)
      obtain⟨v1,_,e1,h1,_⟩:=up ho;simp only[List.cons.injEq]at e1;obtain⟨rfl,_⟩:=e1;exact h1
     |t::u::ts,r,kN,hr'=>
      have kN:=We kN;subst kN;obtain⟨zs,rfl,hzs⟩:=hv;have ho:=up (gE (bW.refl ax) hr' hzs (by rw[o6 hno];exact fun j hj=>by cases hj))
      have e:nV (t::u::ts) r= .lW (outs (t::u::ts) r):=by
       cases ts<;>rfl
      rw[e];exact⟨zs,rfl,ho⟩
    ·exact hk'.elim
   ·exact hk'.elim
  ·exact .inr hp
 ·exact hk.elim
theorem gR(hsp:au C):∀n,fc C (uq C n)
 |0=>⟨fun j dN s k hk=>hk.elim,fun f dN s k hk=>hk.elim⟩
 |n+1=>by
  refine⟨fun j dN s k hk B w0 Ψ β As vs w hi hf hr=>?_,?_⟩
  ·unfold uq at hk;split at hk
   ·rename_i hj;exact Rn hj hk hi hf hr
   ·exact Lr hsp (gR hsp n) hk hi hf hr
  intro f dN s k hk _ B w0 Ψ β As vs w hi hf hr;unfold uq at hk;split at hk
  ·rename_i l5 hs;exact (Lv (gR hsp n) (hsp.2.2.2.2.1 f l5 hs) hk hi hf hr).mono fun _ _ h=>.inl h
  ·split at hk
   ·rename_i g hs;exact (tK (px:=[]) (hsp.2.1 f g hs) hk hi hf hr).mono fun _ _ h=>.inl h
   ·split at hk
    ·rename_i sp hs;exact (Gc (hsp.1 f sp hs) hk hi hf (xW sp.ps hr)).mono fun _ _ h=>.inl h
    ·split at hk
     ·rename_i g hs;exact hk.elim
     ·split at hk
      ·rename_i g hs;exact hk.elim
      split at hk
      ·rename_i g hs;split at hk
       ·rename_i rest;obtain⟨v1,vs1,rfl,Vo,TU⟩:=hr;have Vo:v1= .slice none 0 0:=Vo;subst Vo;exact (tK (px:=[.slice none 0 0]) (hsp.2.2.2.1 f g hs) hk hi hf TU).mono fun _ _ h=>.inl h
       ·exact hk.elim
      ·split at hk
       ·rename_i hs' hs;exact (OD (hsp.2.2.2.2.2.2.1 f hs' hs) hk hi hf hr).mono fun _ _ h=>.inl h
       split at hk
       ·rename_i g hs;exact hk.elim
       split at hk
       ·rename_i g hs;exact hk.elim
       split at hk
       ·rename_i g hs;exact (Rt (hsp.2.2.2.2.2.2.2.2.2.2 f g hs) hk hi hf hr).mono fun _ _ h=>.inl h
       split at hk
       ·exact hk.elim
       ·rename_i fn hfn;split at hk
        ·exact qM hsp (gR hsp n) hfn hk hi hf hr
        ·exact OF hsp (gR hsp n) hfn hk hi hf hr
def Ub:(t:Ty)->t.den->Prop
 | .int k,n=>k.has n
 | .bool,_=>True
 | .qi,_=>True
 | .any,_=>True
 | .str,l=>(∀c∈l,0<=c/\c<=255)/\l.length<=maxLen
 | .arr e,xs=>xs.length<=maxLen/\∀x∈xs,Ub e x
 | .vec n e,xs=>xs.length=n/\∀x∈xs,Ub e x
 | .unit,_=>True
 | .pair a b,x=>Ub a x.1/\Ub b x.2
 | .dR a b,x=>Rose.all (fun y n=>Ub a (Prod.fst y)/\Ub b (Prod.snd y)/\n<=maxLen) x
def Lx:(ts:List Ty)->dens ts->Prop
 |[],_=>True
 |[t],x=>Ub t x
 |t::u::ts,x=>Ub t x.1/\Lx (u::ts) x.2
theorem Ly{α:Type}{R:α->List Value->Prop}{p:α->Prop}(h:∀x vs,R x vs->p x):∀(xs:List α) (vs:List Value),gu R xs vs->∀x∈xs,p x
 |[],_,_,_,hx=>by simp at hx
 |y::ys,_,⟨c,vs',_,h1,h2⟩,x,hx=>by
  rcases List.mem_cons.1 hx with rfl|hx
  ·exact h _ _ h1
  ·exact Ly h ys vs' h2 x hx
theorem OG{α:Type}{R:α->List Value->Prop}{p:α->Prop}:∀(xs:List α) (vs:List Value),(∀x∈xs,∀vs,R x vs->p x)->gu R xs vs->∀x∈xs,p x
 |[],_,_,_,_,hx=>by simp at hx
 |y::ys,_,h,⟨c,vs',_,h1,h2⟩,x,hx=>by
  rcases List.mem_cons.1 hx with rfl|hx
  ·exact h _ (by simp) _ h1
  ·exact OG ys vs' (fun z hz=>h z (by simp[hz])) h2 x hx
theorem qe0{α β:Type}{Ra:α->List Value->Prop}{Rb:β->List Value->Prop}{pa:α->Prop}{pb:β->Prop}(ha:∀x vs,Ra x vs->pa x)(hb:∀x vs,Rb x vs->pb x):
 ∀(r:Rose (α×β)) (vs:List Value),rdR Ψ Ra Rb r vs->Rose.all (fun y n=>pa y.1/\pb y.2/\n<=maxLen) r:=
 Rose.ind fun x l ih vs hr=>by
  obtain⟨u,s,w,_,h2,h3,a',cap,_,h5,h6,h7⟩:=(r8 _ vs).1 hr;simp only[Rose.val,Rose.aN]at h2 h3 h5 h7;refine⟨⟨ha _ _ h2,hb _ _ h3,Wbj h5 h6⟩,(Rose.Nh l).2 ?_⟩
  rcases h7 with h7|⟨cells,h7,_⟩
  ·rw[h7];simp
  ·exact OG l cells ih h7
theorem iO:∀(t:Ty) (x:t.den) (cs:List Value),reads Ψ t x cs->Ub t x
 | .int k,n,cs,h=>h.2
 | .bool,_,_,_=>trivial
 | .qi,_,_,_=>trivial
 | .any,_,_,_=>trivial
 | .str,l,cs,h=>⟨h.2.1,h.2.2⟩
 | .arr e,xs,cs,⟨ad,cap,_,h1,h2,h3⟩=>⟨Wbj h1 h2,by
  rcases h3 with rfl|⟨cells,h4,_⟩
  ·intro x hx;cases hx
  ·exact Ly (iO e) xs cells h4⟩
 | .vec n e,xs,cs,h=>⟨h.1,Ly (iO e) xs cs h.2⟩
 | .unit,_,_,_=>trivial
 | .pair a b,x,cs,⟨u,v,_,h1,h2⟩=>⟨iO a x.1 u h1,iO b x.2 v h2⟩
 | .dR a b,x,cs,h=>qe0 (iO a) (iO b) x cs h
theorem uP:∀{ts:List Ty} {x:dens ts} {vs:List Value},aL Ψ β (outs ts x) vs->Lx ts x
 |[],_,_,_=>trivial
 |[t],x,_,⟨_,_,_,⟨cs,hc,_⟩,_⟩=>iO t x cs hc
 |t::_::_,x,_,⟨_,_,_,⟨cs,hc,_⟩,hl⟩=>⟨iO t x.1 cs hc,uP hl⟩
theorem Wf:∀(av:AV) (v:Value),aE Ψ β av v->aE Ψ β (ZJ av) v:=by
 intro av v h;unfold ZJ;split
 ·split
  ·obtain⟨cs,h1,h2⟩:=h;simp only[reads]at h1;subst h1;simp[Ty.isAgg]at h2
   exact⟨[],h2.symm,rfl⟩
  ·exact h
 ·exact h
theorem sQ:∀{l:List AV} {vs:List Value},aL Ψ β l vs->aL Ψ β (E1 l) vs
 |[],_,h=>h
 |_::_,_,⟨v,vs',e,hv,hl⟩=>⟨v,vs',e,Wf _ _ hv,sQ hl⟩
def qpY(P:Program)(f:FuncId)(sp:aJ)(x:dens sp.ps):Prop:=
 ∀(Ψ:Pr) (w:World) (args:List Value),(∀a v,Ψ a=some v->a.spot=none/\w.cell? a=some v)->Gl P Ψ->
  aL Ψ [] (outs sp.ps x) args->
  Calls P f args.toArray w fun e w'=>∃v ax,e= .returned v/\Below w.heap.size w w'/\(∀a u,Ψ a=some u->ax a=some u)/\
   (∀a u,ax a=some u->Ψ a=some u\/(w.heap.size<=a.block/\a.spot=none/\w'.cell? a=some u))/\aE ax [] (nV sp.rs (sp.post x)) v
theorem Uc(hsp:au C)(n:Nat)(f:FuncId)(sp:aJ)(x:dens sp.ps)(hk:aW C n f sp x):qpY C.P f sp x:=by
 intro Ψ w args dO xK bu;unfold aW at hk;split at hk
 ·exact hk.elim
 rename_i hnp;split at hk
 ·exact hk.elim
 ·rename_i fn hfn;have hi:aD C.P (fun k=>k<w.heap.size) w Ψ [] (St.heap {top:=[],below:=[],heap:=[]}) w:=⟨dJ.refl _ _,fun _ h=>h,fun a v hv=>E5 (dO a v hv).1 (dO a v hv).2,fun a v hv hs=>absurd (hs.symm.trans (dO a v hv).1) (by simp),rfl,fun k u hu=>by simp at hu,fun k b hb=>by simp at hb,fun k b g hb=>by simp at hb,fun i j bi bj g _ hb=>by simp at hb,xK⟩
  have hf:aQ Ψ [] (St.top {top:=[],below:=[],heap:=[]} ::St.below {top:=[],below:=[],heap:=[]}) [{tmps:=#[],defers:=[]}]:=⟨_,_,rfl,⟨⟨[],[],rfl,by simp,Wby,by simp⟩,rfl⟩,rfl⟩
  refine (qs hnp hsp (gR hsp n) hfn hk hi hf (sQ bu)).mono ?_
  rintro e w' ⟨v,fE,jJ,av,s1,rfl,wF,hi1,o8,hv,hy⟩
  split at hy
  ·rename_i y hd;subst hy;have key:∀(dN:List AV) (vs:List Value),lJ s1.heap sp.rs dN=some (sp.post x)->aL fE jJ dN vs->∃ax,Ext (fun k=>k<w.heap.size) fE ax/\(∀ad u,ax ad=some u->Pm w' ad u)/\aL ax [] (outs sp.rs (sp.post x)) vs:=by
    intro dN vs hd hr;obtain⟨ax,jF,hi',_,hr'⟩:=dG (cS dN) hi1 o8;exact⟨ax,jF,hi'.prom,gE jF.1 hd hr hr'⟩
   have fin:∀(ax:Pr),Ext (fun k=>k<w.heap.size) fE ax->(∀ad u,ax ad=some u->Pm w' ad u)->aE ax [] (nV sp.rs (sp.post x)) v->
    ∃v' ax,Ending.returned v= .returned v'/\Below w.heap.size w w'/\(∀a u,Ψ a=some u->ax a=some u)/\(∀a u,ax a=some u->Ψ a=some u\/(w.heap.size<=a.block/\a.spot=none/\w'.cell? a=some u))/\aE ax [] (nV sp.rs (sp.post x)) v':=by
    intro ax jF hp' AS;have hE:=wF.trans jF;exact⟨v,plain ax,rfl,hi1.low.of,fun ad u hu=>bY.2 ⟨(dO ad u hu).1,hE.1 ad u hu⟩,fun ad u hu=>by
     obtain⟨g1,g2⟩:=bY.1 hu;exact (hE.2 ad u g2).imp id fun h=>⟨Wch h,g1,mS g1 (hp' ad u g2)⟩,xU AS⟩
   revert hd key fin
   generalize sp.post x=y
   generalize sp.rs=rs at y
   intro hd key fin;match rs,y,hd,key,fin with
   |[],y,hd,key,fin=>
    replace hd:(match (generalizing:=false) av with| .lW []=>lJ s1.heap [] []|_=>none)=some y:=hd
    split at hd
    ·obtain⟨us,rfl,hl⟩:=hv;simp only[aL]at hl;subst hl;exact fin _ (Ext.refl _ _) hi1.prom ⟨[],rfl,rfl⟩
    ·cases hd
   |[t],y,hd,key,fin=>
    obtain⟨ax,jF,hp',hl⟩:=key _ _ hd ⟨v,[],rfl,hv,rfl⟩;obtain⟨v',vs',e,AS,hl'⟩:=hl;simp only[List.cons.injEq]at e;obtain⟨rfl,rfl⟩:=e;exact fin _ jF hp' AS
   |t::u::ts,y,hd,key,fin=>
    replace hd:(match (generalizing:=false) av with| .lW vs=>lJ s1.heap (t::u::ts) vs|_=>none)=some y:=hd
    split at hd
    ·obtain⟨us,rfl,hl⟩:=hv;obtain⟨ax,jF,hp',hl'⟩:=key _ _ hd hl;refine fin _ jF hp' ?_
     have e:nV (t::u::ts) y= .lW (outs (t::u::ts) y):=by
      match ts with
      |[]=>rfl
      |_::_=>rfl
     rw[e];exact⟨us,rfl,hl'⟩
    ·cases hd
  ·exact hy.elim
theorem bx(hsp:au C)(n:Nat)(f:FuncId)(sp:aJ)(hall:∀x,Lx sp.ps x->sp.pre x->aW C n f sp x):Sat C.P f sp:=
 fun Ψ w x args dO xK bu hpre=>Uc hsp n f sp x (hall x (uP bu) hpre) Ψ w args dO xK bu
theorem OH{P:Program}{f:FuncId}{sp:aJ}{m:Nat}(h:∀x,Lx sp.ps x->sp.pre x->∃C:Ctx,C.P=P/\au C/\aW C m f sp x):Sat P f sp:=by
 intro Ψ w x args dO xK bu hpre;obtain⟨C,hP,hs,hw⟩:=h x (uP bu) hpre;have:=Uc hs m f sp x hw Ψ w args dO (by rw[hP];exact xK) bu
 rw[hP]at this;exact this
theorem bq(hsp:au C){n:Nat}{f:FuncId}{sp:aJ}{Q:dens sp.ps->Prop}(hQ:∀x,aW C n f sp x=Q x)(h:∀x,Lx sp.ps x->sp.pre x->Q x):Sat C.P f sp:=
 bx hsp n f sp fun x a b=>(hQ x).mpr (h x a b)
theorem gH(hsp:au C)(n:Nat)(f:FuncId)(sp:cL)(hall:∀x,Lx sp.ps x->sp.pre x->cz C n f sp x):qY C.P f sp:=by
 intro Ψ w x args dO xK bu hpre;show Calls C.P f args.toArray w _
 have hk:=hall x (uP bu) hpre;unfold cz at hk;split at hk
 ·exact hk.elim
 rename_i hnp;split at hk
 ·exact hk.elim
 ·rename_i fn hfn;have hi:aD C.P (fun k=>k<w.heap.size) w Ψ [] (St.heap {top:=[],below:=[],heap:=[]}) w:=⟨dJ.refl _ _,fun _ h=>h,fun a v hv=>E5 (dO a v hv).1 (dO a v hv).2,fun a v hv hs=>absurd (hs.symm.trans (dO a v hv).1) (by simp),rfl,fun k u hu=>by simp at hu,fun k b hb=>by simp at hb,fun k b g hb=>by simp at hb,fun i j bi bj g _ hb=>by simp at hb,xK⟩
  have hf:aQ Ψ [] (St.top {top:=[],below:=[],heap:=[]} ::St.below {top:=[],below:=[],heap:=[]}) [{tmps:=#[],defers:=[]}]:=⟨_,_,rfl,⟨⟨[],[],rfl,by simp,Wby,by simp⟩,rfl⟩,rfl⟩
  refine (qs hnp hsp (gR hsp n) hfn hk hi hf (sQ bu)).mono ?_
  rintro e w' ⟨v,fE,jJ,av,s1,rfl,wF,hi1,o8,hv,hy⟩
  have fin:v.oneCell'=true->cn C.P (fun k=>k<w.heap.size) fE [v] w' 0 (.grow sp.tid sp.e (sp.post x))->(∀g,af [v] 0 g (.grow sp.tid sp.e (sp.post x))->∀a,a.block=g->a.spot=none->fE a=none)->
   ∃v' ax,Ending.returned v= .returned v'/\Below w.heap.size w w'/\(∀a u,Ψ a=some u->ax a=some u)/\(∀a u,ax a=some u->Ψ a=some u\/(w.heap.size<=a.block/\a.spot=none/\w'.cell? a=some u))/\v'.oneCell'=true/\
    cn C.P (fun k=>k<w.heap.size) ax [v'] w' 0 (.grow sp.tid sp.e (sp.post x))/\∀g,af [v'] 0 g (.grow sp.tid sp.e (sp.post x))->∀a,a.block=g->ax a=none:=
   fun h1 h2 h3=>⟨v,plain fE,rfl,hi1.low.of,fun ad u hu=>bY.2 ⟨(dO ad u hu).1,wF.1 ad u hu⟩,fun ad u hu=>by
    obtain⟨g1,g2⟩:=bY.1 hu;exact (wF.2 ad u g2).imp id fun h=>⟨Wch h,g1,mS g1 (hi1.prom ad u g2)⟩,h1,by
    refine h2.imp id ?_
    rintro⟨gg,cap,cur,h1,h2,h3,h4,h5,h6,h7,h8⟩
    exact⟨gg,cap,cur,h1,h2,h3,h4,h5,h6,h7,jq (bW.refl _) h8⟩,fun g hc a ha=>by
    unfold plain;split
    ·rename_i hs;exact h3 g hc a ha hs
    ·rfl⟩
  split at hy
  ·rename_i k;split at hy
   ·rename_i tid e xs hg;split at hy
    ·rename_i ht;split at hy
     ·rename_i ys hc;obtain⟨he,rfl⟩:=bz hc;have ht:=Wam ht;simp only[Ty.arr.injEq]at he;subst he;subst ht;have hv:jJ[k]?=some v:=hv.1;have hkk:=aC hg (by simp)
      have e0:([v]:List Value)[0]?=some v:=rfl;have hy':xs=sp.post x:=hy;rw[<-hy']at fin ⊢;have hb1:cn C.P (fun k=>k<w.heap.size) fE [v] w' 0 (.grow sp.tid sp.e xs):=by
       rcases hi1.blk k _ hkk with ⟨ad,h1,h2⟩|⟨g,cap,cur,h1,h2⟩
       ·exact .inl ⟨ad,by rw[e0,<-hv,h1],h2⟩
       ·exact .inr ⟨g,cap,cur,by rw[e0,<-hv,h1],h2⟩
      refine fin (hi1.one k v hv) hb1 (fun g hcl ad had hs=>hi1.free k _ g hkk ?_ ad had (.inl hs))
      obtain⟨n,cap,hz,hcl⟩:=hcl;exact⟨n,cap,hz,by rw[hv,<-e0,hcl]⟩
     ·exact hy.elim
    ·exact hy.elim
   ·exact hy.elim
  ·have hv:v= .slice none 0 0:=hv;subst hv;rw[<-hy];rw[<-hy]at fin;refine fin rfl (.inl ⟨none,rfl,rfl⟩) (fun g hc=>?_)
   obtain⟨n,cap,hz,hc⟩:=hc;simp at hc
  ·exact hy.elim
theorem OI:∀{ts:List Ty} {x:dens ts} {vs:List Value},aL Ψ β (rps ts x) vs->Lx ts x
 |[],_,_,_=>trivial
 |[t],x,_,⟨_,_,_,⟨_,_,cs,_,hc,_⟩,_⟩=>iO t x cs hc
 |t::_::_,x,_,⟨_,_,_,⟨_,_,cs,_,hc,_⟩,hl⟩=>⟨iO t x.1 cs hc,OI hl⟩
theorem vR(hsp:au C)(n:Nat)(f:FuncId)(l5:jC)(hall:∀x,Lx l5.ps x->l5.pre x->mQ C n f l5 x):E2 C.P f l5:=by
 intro B w0 Y x own Ψ w vs hpre hit hst hstep hR hG bu;have hk:=hall x (OI bu) hpre;unfold mQ at hk;split at hk
 ·exact hk.elim
 rename_i hnp;split at hk
 ·exact hk.elim
 ·rename_i fn hfn;have hk:=hk Y own hit;have hi:aD C.P B w0 Ψ [cm Y.l] (St.heap {top:=[],below:=[],heap:=[.log l5.ys Y own []]}) w:=by
   refine⟨hG.low,hG.size,hG.prom,hG.marks,rfl,fun k u hu=>?_,fun k b hb=>?_,fun k b g hb hc a ha hp=>?_,fun i j bi bj g hij yV xM=>?_,hG.gQ⟩
   ·cases k with
    |zero=>simp at hu;subst hu;rfl
    |succ k=>simp at hu
   ·cases k with
    |zero=>simp at hb;subst hb;exact⟨rfl,hR,hG.mine,hst,hstep⟩
    |succ k=>simp at hb
   ·cases k with
    |zero=>simp at hb;subst hb;exact hG.free a (by rw[ha];exact hc) hp
    |succ k=>simp at hb
   ·cases i with
    |zero=>cases j with
     |zero=>exact absurd rfl hij
     |succ j=>simp at xM
    |succ i=>simp at yV
  have hf:aQ Ψ [cm Y.l] (St.top {top:=[],below:=[],heap:=[.log l5.ys Y own []]} ::St.below {top:=[],below:=[],heap:=[.log l5.ys Y own []]}) [{tmps:=#[],defers:=[]}]:=⟨_,_,rfl,⟨⟨[],[],rfl,by simp,Wby,by simp⟩,rfl⟩,rfl⟩
  refine (qs hnp hsp (gR hsp n) hfn hk hi hf ⟨_,_,rfl,⟨Y.l,rfl,rfl⟩,aX (bW.refl _) (fun k v h=>by simp at h) _ _ bu⟩).mono ?_
  rintro e w' ⟨v,fE,jJ,av,s1,rfl,wF,hi1,o8,hv,hy⟩
  split at hy
  ·obtain⟨us,rfl,hl⟩:=hv;simp only[aL]at hl;subst hl;rcases hy with ⟨bT,hy⟩|⟨bT,hy⟩
   ·have hkk:=aC hy (by simp)
    obtain⟨b1,b2,b3,b4⟩:=hi1.blk _ _ hkk;exact⟨bT,fE,rfl,wF,⟨hi1.low,hi1.size,hi1.prom,hi1.own,b3,fun ad ha hp=>hi1.free _ _ _ hkk ha ad rfl hp,hi1.gQ⟩,.inl b2⟩
   ·have hkk:=aC hy (by simp)
    obtain⟨b1,b2,b3,b4⟩:=hi1.blk _ _ hkk;exact⟨bT,fE,rfl,wF,⟨hi1.low,hi1.size,hi1.prom,hi1.own,b3,fun ad ha hp=>hi1.free _ _ _ hkk ha ad rfl hp,hi1.gQ⟩,.inr b2⟩
  ·exact hy.elim
theorem Ud:∀{n:Nat} {t:List aB} {L:List AV} {vs:List Value},oQ (oT n t) L=true->aL Ψ β L vs->∀(j:Nat) (cs:List AV),t[j]?=some (aB.cells cs)->∃g,β[n+j]?=some (.pointer (some ⟨g,0,none⟩))/\vs[j]?=some (.pointer (some ⟨g,0,none⟩))
 |n,[],_,_,_,_,j,cs,hj=>by simp at hj
 |n,b::t,L,vs,hs,hr,j,cs,hj=>by
  cases L with
  |nil=>cases hs
  |cons c L=>
   simp only[oT,oQ,Wac]at hs;obtain⟨v,vs',rfl,hv,hl⟩:=hr;cases j with
   |zero=>
    simp at hj
    subst hj;have h1:=hs.1;simp only[gC]at h1;split at h1
    ·rename_i k' o';simp only[Wac,Wag]at h1;obtain⟨e1,e2⟩:=h1;subst e1 e2;obtain⟨g,h2,h3⟩:=hv;exact⟨g,h2,by rw[h3];rfl⟩
    ·cases h1
   |succ j=>
    obtain⟨g,h2,h3⟩:=Ud (n:=n+1) hs.2 hl j cs (by simpa using hj)
    exact⟨g,by rw[<-h2];congr 1;omega,by simpa using h3⟩
theorem OJ{P:Program}:∀(t:List aB) (n:Nat),(∀k b,t[k]?=some b->cn P B Ψ β w (n+k) b)->aL Ψ β (oT n t) ((List.range' n t.length).map fun k=>β.getD k undef)
 |[],n,_=>rfl
 |b::t,n,hb=>by
  refine⟨β.getD n undef,(List.range' (n+1) t.length).map fun k=>β.getD k undef,by simp[List.range'_succ],?_,OJ (P:=P) t (n+1) fun k b' hk=>?_⟩
  ·have h0:=hb 0 b rfl;cases b<;>first|trivial|skip
   obtain⟨g,c,e,h1,_⟩:=h0;refine⟨g,h1,?_⟩
   rw[Wab];have h1:β[n]?=_:=h1;rw[h1];rfl
  ·have:=hb (k+1) b' (by simpa using hk)
   rw[show n+1+k=n+(k+1) by omega]
   exact this
theorem Wg{ax:Pr}(hle:bW Ψ ax){rs:List Ty}{av:AV}{v:Value}{y:dens rs}(hd:qgX rs h av=some y)(hv:aE Ψ β av v)(hrd:cc ax β h (qW rs av)):aE ax [] (nV rs y) v:=by
 match rs,y,hd,hrd with
 |[],y,hd,hrd=>
  replace hd:(match (generalizing:=false) av with| .lW []=>lJ h [] []|_=>none)=some y:=hd
  split at hd
  ·obtain⟨us,rfl,hl⟩:=hv;simp only[aL]at hl;subst hl;exact⟨[],rfl,rfl⟩
  ·cases hd
 |[t],y,hd,hrd=>
  obtain⟨v',vs',e,AS,hl'⟩:=gE (vs:=[v]) hle hd ⟨v,[],rfl,hv,rfl⟩ hrd;simp only[List.cons.injEq]at e;obtain⟨rfl,rfl⟩:=e;exact AS
 |t::u::ts,y,hd,hrd=>
  replace hd:(match (generalizing:=false) av with| .lW vs=>lJ h (t::u::ts) vs|_=>none)=some y:=hd
  split at hd
  ·obtain⟨us,rfl,hl⟩:=hv;have hl':=gE hle hd hl hrd;have e:nV (t::u::ts) y= .lW (outs (t::u::ts) y):=by
    match ts with
    |[]=>rfl
    |_::_=>rfl
   rw[e];exact⟨us,rfl,hl'⟩
  ·cases hd
theorem BF(hsp:au C)(n:Nat)(f:FuncId)(sp:kZ)(hall:∀x y,Lx sp.ps x->sp.pre x y->wR C n f sp x y):E3 C.P f sp:=by
 intro B w0 Ψ β w x y args caps hsh hi hargs qaV hpre;have hk:=hall x y (uP hargs) hpre;unfold wR at hk;split at hk
 ·exact hk.elim
 rename_i hnp;split at hk
 ·exact hk.elim
 ·rename_i fn hfn;rw[if_pos hsh]at hk;unfold ZG at hsh;simp only[Wac]at hsh;obtain⟨⟨ho1,ho2⟩,ho3,ho4⟩:=hsh;obtain⟨t,ht⟩:∃t,t=sp.h y:=⟨_,rfl⟩
  obtain⟨t',ht'⟩:∃t',t'=sp.h (sp.aft x y):=⟨_,rfl⟩
  rw[<-ht]at ho1 ho2 ho4 hi hk;rw[<-ht']at ho3 ho4 hk;obtain⟨YO,hsame⟩:=BE ho4;have hp0:aL Ψ β (oT 0 t) ((List.range' 0 t.length).map fun k=>β.getD k undef):=OJ (P:=C.P) t 0 fun k b hk=>by rw[WaO];exact hi.blk k b hk
  have hf:aQ Ψ β (St.top {top:=oT 0 t,below:=[],heap:=t} ::St.below {top:=oT 0 t,below:=[],heap:=t}) [{tmps:=((List.range' 0 t.length).map fun k=>β.getD k undef).toArray,defers:=[]}]:=⟨_,_,rfl,⟨⟨[],[],rfl,by simp,Wby,by simp⟩,hp0⟩,rfl⟩
  refine (qs hnp (s:={top:=oT 0 t,below:=[],heap:=t}) hsp (gR hsp n) hfn hk hi hf (eZ _ _ _ _ (aX (bW.refl _) (fun k v h=>by simp at h) _ _ (sQ hargs)) qaV)).mono ?_
  rintro e w' ⟨v,fE,jJ,av,s1,rfl,wF,hi1,o8,hv,hy⟩
  split at hy
  ·rename_i r hr;obtain⟨hpost,himp,qe1⟩:=hy;obtain⟨mZ,DD,hi2,H6,hrd⟩:=dG (qW sp.rs av) hi1 o8;subst hpost;have qe1:oQ (oT 0 t) (s1.c8 (qW sp.rs av)).top=true:=by
    split at qe1
    ·assumption
    ·exact qe1.elim
   obtain⟨hlen,yU⟩:=Lw himp;have pin:∀(k:Nat) (cs:List AV),t[k]?=some (aB.cells cs)->∃g,jJ[k]?=some (.pointer (some ⟨g,0,none⟩))/\β[k]?=some (.pointer (some ⟨g,0,none⟩)):=fun k cs hk=>by
    obtain⟨g,h1,h2⟩:=Ud qe1 (bf H6).2 k cs hk;rw[WaO]at h1;refine⟨g,h1,?_⟩
    have hlt:k<β.length:=by rw[hi.len];exact eW hk
    simp only[Wba,List.getElem?_range' (show k<t.length from eW hk)]at h2
    simp only[Wbk,WaO,Nat.one_mul,Option.some.injEq]at h2;rw[Wab,Waa hlt]at h2;rw[Waa hlt];exact congrArg some h2
   have old:∀{k:Nat} {cs:List AV},t'[k]?=some (.cells cs)->∃ds:List AV,t[k]?=some (aB.cells ds):=fun {k cs} hk=>by
    have hlt:k<t.length:=by rw[YO];exact eW hk
    obtain⟨ds,hds⟩:=Gb (by rw[hsame k t[k] _ (Waa hlt) hk];rfl:isCells t[k]=true)
    exact⟨ds,by rw[Waa hlt,hds]⟩
   have qe2:∀(k:Nat) (cs:List AV),t'[k]?=some (aB.cells cs)->jJ[k]?=β[k]?:=fun k cs hk=>by
    obtain⟨ds,h1⟩:=old hk;obtain⟨g,h2,h3⟩:=pin k ds h1;rw[h2,h3]
   have hb:∀(k:Nat) (cs:List AV) (u:Value),t'[k]?=some (aB.cells cs)->jJ[k]?=some u->β[k]?=some u:=fun k cs u hk hu=>by rw[<-qe2 k cs hk];exact hu
   refine⟨v,mZ,rfl,wF.trans DD,?_,Wg DD.1 hr hv hrd⟩
   rw[<-ht'];refine⟨hi2.low,hi2.size,hi2.prom,hi2.own,by rw[hi.len,YO],hi.one,?_,?_,?_,hi2.gQ⟩
   ·intro k b Il;rcases sO ho3 k b Il with rfl|⟨ds,rfl,hok⟩
    ·trivial
    ·obtain⟨cs,h1,h2⟩:=yU k ds Il;obtain⟨g,c,e,b1,b2,b3,b4,b5⟩:=hi2.blk k _ h1;exact⟨g,c,e,hb k ds _ Il b1,b2,b3,m7 hb ds hok (Ga h2 b4),b5⟩
   ·intro k b g Il hcl;rcases sO ho3 k b Il with rfl|⟨ds,rfl,hok⟩
    ·exact hcl.elim
    ·obtain⟨cs,h1,h2⟩:=yU k ds Il;exact hi2.free k _ g h1 (show af jJ k g (.cells cs) by show jJ[k]?=_;rw[qe2 k ds Il];exact hcl)
   ·intro i j bi bj g hij yV xM rO n6;rcases sO ho3 i bi yV with rfl|⟨di,rfl,_⟩
    ·exact rO.elim
    ·rcases sO ho3 j bj xM with rfl|⟨dj,rfl,_⟩
     ·exact n6.elim
     ·obtain⟨ci,h1,_⟩:=yU i di yV;obtain⟨cj,h2,_⟩:=yU j dj xM;exact hi2.sep i j _ _ g hij h1 h2 (show af jJ i g (.cells ci) by show jJ[i]?=_;rw[qe2 i di yV];exact rO) (show af jJ j g (.cells cj) by show jJ[j]?=_;rw[qe2 j dj xM];exact n6)
  ·exact hy.elim
theorem qY.qe3{f:FuncId}{sp:cL}(hS:qY C.P f sp):Sat C.P f sp.data:=by
 intro Ψ w x args dO xK bu hpre;refine (hS Ψ w x args dO xK bu hpre).mono ?_
 rintro e w' ⟨v,fE,rfl,hb,hle,hnew,hone,eV,hfree⟩
 have hi:aD C.P (fun k=>k<w.heap.size) w fE [v] [.grow sp.tid sp.e (sp.post x)] w':=by
  refine⟨D3 hb fun _ h=>h,fun _ h=>Wa6 h hb.size,fun ad u hu=>?_,fun ad u hu hs=>?_,rfl,fun k u hu=>?_,fun k b hk=>?_,fun k b g hk hc a ha _=>?_,fun i j bi bj g hij yV xM=>?_,xK.le hle⟩
  ·rcases hnew ad u hu with h|h
   ·obtain⟨h1,h2⟩:=dO ad u h;refine E5 h1 ?_
    rw[hb.cell (p:=ad) ?_]
    ·exact h2
    ·unfold World.cell? at h2;split at h2
     ·rename_i hh;exact aY hh
     ·cases h2
   ·exact E5 h.2.1 h.2.2
  ·rcases hnew ad u hu with h|h
   ·exact absurd (hs.symm.trans (dO ad u h).1) (by simp)
   ·exact absurd (hs.symm.trans h.2.1) (by simp)
  ·cases k with
   |zero=>simp at hu;subst hu;exact hone
   |succ k=>simp at hu
  ·cases k with
   |zero=>simp at hk;subst hk;exact eV
   |succ k=>simp at hk
  ·cases k with
   |zero=>simp at hk;subst hk;exact hfree g hc a ha
   |succ k=>simp at hk
  ·cases i with
   |zero=>cases j with
    |zero=>exact absurd rfl hij
    |succ j=>simp at xM
   |succ i=>simp at yV
 have hf:aQ fE [v] (St.top {top:=[.sl 0],below:=[],heap:=[.grow sp.tid sp.e (sp.post x)]} ::St.below {top:=[.sl 0],below:=[],heap:=[.grow sp.tid sp.e (sp.post x)]}) [{tmps:=#[v],defers:=[]}]:=
  ⟨_,_,rfl,⟨⟨[],[],rfl,by simp,Wby,by simp⟩,v,[],rfl,⟨rfl,iN eV rfl⟩,rfl⟩,rfl⟩
 obtain⟨mZ,hE,hi2,H6,_⟩:=sx hi hf 0;obtain⟨a,as',e,⟨_,hl⟩,_⟩:=H6;simp only[List.cons.injEq]at e;obtain⟨rfl,_⟩:=e;obtain⟨u,us,e,hu,_⟩:=hl;simp only[List.cons.injEq]at e;obtain⟨rfl,_⟩:=e;refine⟨v,plain mZ,rfl,hb,fun a u h=>bY.2 ⟨(dO a u h).1,hE.1 a u (hle a u h)⟩,fun a u h=>?_,sA hu⟩
 obtain⟨g1,g2⟩:=bY.1 h;rcases hE.2 a u g2 with h'|h'
 ·exact hnew a u h'
 ·exact .inr ⟨Wch h',g1,mS g1 (hi2.prom a u g2)⟩
theorem qY.jd{P:Program}{f:FuncId}{sp:cL}(hS:qY P f sp):Sat P f sp.data:=
 qY.qe3 (C:={P:=P,spec:=fun _=>none,hint:=fun _=>{A8:=fun _=>[],mode:=fun _=>.split,qgK:=fun _=>.split,CB:=fun _=>0},ty:=fun _=>none,fresh:=fun _=>none,ro:=fun _=>false}) hS
end Go.AM
