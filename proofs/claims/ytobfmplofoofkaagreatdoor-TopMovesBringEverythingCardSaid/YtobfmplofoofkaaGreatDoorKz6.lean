import Derived.Test.YtobfmplofoofkaaGreatDoorKz5
set_option linter.unusedSimpArgs false
set_option linter.unusedVariables false
namespace Go.AM
open Go.RowKit
variable {B:Nat->Prop} {w0:World} {C:Ctx} {Ψ bL:Pr} {β:List Value} {h:List aB} {w w':World} {fr:List AV} {a a0:Act} {As:List Act} {W:List Nat}
def sH(F:Fence)(n:Nat)(P:Program)(c:Code)(Q:Exit->Act->World->Prop)(a:Act)(w:World):Prop:=
 ∀(b:Frame) (k:List Item) (cs:List Frame),b.roundOf=F.round->F.fn b.fn->F.room (cs.length+1+n)->
  ∃e a' w',Q e a' w'/\ArrivesIn (Machine.fenced P F) P (lone (b.atR a (.code c:: .inLoop c::k)) cs w) b k cs e a' w'
theorem sH.wpIn{F:Fence}{n:Nat}{P:Program}{c:Code}{Q:Exit->Act->World->Prop}(h:sH F n P c Q a w):(Code.loop c).wpIn F n P Q a w:=by
 intro b k cs hro hb hr;obtain⟨e,a',w',hq,mU⟩:=h b k cs hro hb hr;exact⟨e,a',w',hq,.of_steps (.one (fenced_calm hb hr rfl) stepR_loop) mU⟩
theorem sH.Y4{F:Fence}{n:Nat}{P:Program}{c:Code}{Q:Exit->Act->World->Prop}(h:c.wpIn F n P (Exit.then (sH F n P c Q) Q) a w):sH F n P c Q a w:=by
 intro b k cs hro hb hr;obtain⟨e,a₁,w₁,hq,mU⟩:=h b (.inLoop c::k) cs hro hb hr;cases e with
 |normal=>
  obtain⟨e₂,a₂,w₂,qaG,Ll⟩:=hq b k cs hro hb hr;exact⟨e₂,a₂,w₂,qaG,.of_steps (StepsIn.trans mU (.one (fenced_calm hb hr rfl) stepR_inLoop)) Ll⟩
 |exit id=>exact⟨_,a₁,w₁,hq,.pass (x:=.inLoop c) rfl (fun _ _=>.inl (by simp)) mU⟩
 |goto l=>exact⟨_,a₁,w₁,hq,.pass (x:=.inLoop c) rfl (fun _ _=>.inl (by simp)) mU⟩
 |ret=>exact⟨_,a₁,w₁,hq,.pass (x:=.inLoop c) rfl (fun _ _=>.inl (by simp)) mU⟩
 |panic ch=>exact⟨_,a₁,w₁,hq,.pass (x:=.inLoop c) rfl (fun _ _=>.inl (by simp)) mU⟩
 |outgrown=>exact⟨_,a₁,w₁,hq,.pass (x:=.inLoop c) rfl (fun _ _=>.inl (by simp)) mU⟩
theorem zM{F:Fence}{n:Nat}{P:Program}{τ:Type}{c:Code}{Q:Exit->Act->World->Prop}(H:τ->Act->World->Prop)(μ:τ->Nat)(x0:τ)(h0:H x0 a w)
 (round:∀x a w,H x a w->c.wpIn F n P (Exit.then (fun a' w'=>∃x',H x' a' w'/\μ x'<μ x) Q) a w):sH F n P c Q a w:=by
 intro b k cs hro hb hr;have key:∀j x a w,μ x=j->H x a w->
  ∃e a' w',Q e a' w'/\ArrivesIn (Machine.fenced P F) P (lone (b.atR a (.code c:: .inLoop c::k)) cs w) b k cs e a' w':=by
  intro j;induction j using Nat.strongRecOn with
  |_ j ih=>
   intro x a w hn hI;obtain⟨e,a₁,w₁,hq,mU⟩:=round x a w hI b (.inLoop c::k) cs hro hb hr;cases e with
   |normal=>
    obtain⟨x',qmq,hlt⟩:=hq;obtain⟨e₂,a₂,w₂,qaG,Ll⟩:=ih (μ x') (hn▸hlt) x' a₁ w₁ rfl qmq
    exact⟨e₂,a₂,w₂,qaG,.of_steps (StepsIn.trans mU (.one (fenced_calm hb hr rfl) stepR_inLoop)) Ll⟩
   |exit id=>exact⟨_,a₁,w₁,hq,.pass (x:=.inLoop c) rfl (fun _ _=>.inl (by simp)) mU⟩
   |goto l=>exact⟨_,a₁,w₁,hq,.pass (x:=.inLoop c) rfl (fun _ _=>.inl (by simp)) mU⟩
   |ret=>exact⟨_,a₁,w₁,hq,.pass (x:=.inLoop c) rfl (fun _ _=>.inl (by simp)) mU⟩
   |panic ch=>exact⟨_,a₁,w₁,hq,.pass (x:=.inLoop c) rfl (fun _ _=>.inl (by simp)) mU⟩
   |outgrown=>exact⟨_,a₁,w₁,hq,.pass (x:=.inLoop c) rfl (fun _ _=>.inl (by simp)) mU⟩
 exact key _ x0 a w rfl h0
theorem DJ{F:Fence}{n:Nat}{P:Program}{τ:Type}{c:Code}{Q:Exit->Act->World->Prop}(H:τ->Act->World->Prop)(μ:τ->Nat)(x0:τ)(h0:H x0 a w)
 (round:∀x a w,H x a w->c.wpIn F n P (Exit.then (fun a' w'=>∃x',H x' a' w'/\μ x'<μ x) Q) a w):(Code.loop c).wpIn F n P Q a w:=(zM H μ x0 h0 round).wpIn
theorem Lm{s:St}(la:LA)(hi:aD C.P B w0 Ψ β s.heap w)(hf:aQ Ψ β (s.top::s.below) (a::As)):
 ∃β',aD C.P B w0 Ψ β' (EW s la).heap w/\aQ Ψ β' ((EW s la).top::(EW s la).below) (a::As):=by
 unfold EW;split
 ·rename_i i tid e;split
  ·rename_i hn;have hv:a.tmps[i]?=some (.slice none 0 0):=by
    have h1:=c9 _ _ (bf hf).2 i;rw[hn,getD_eq]at h1;have h2:(a.tmps[i]?).getD undef= .slice none 0 0:=h1;cases hx:a.tmps[i]? with
    |none=>rw[hx]at h2;simp[undef]at h2
    |some x=>rw[hx]at h2;simp at h2;rw[h2]
   have hk:(β++[Value.slice none 0 0])[s.heap.length]?=some (.slice none 0 0):=by rw[<-hi.len];simp
   refine⟨β++[.slice none 0 0],hi.push (Below.refl _ _) rfl (.inl ⟨none,hk,rfl⟩) (fun g hc=>?_),?_⟩
   ·obtain⟨n,cap,hz,hc⟩:=hc;rw[hk]at hc;simp at hc
   ·have hf':=bF (bW.refl _) (aS (.slice none 0 0)) _ _ hf;have:=dy (s:=s) (t:=i) (av:=.sl (hlen s.heap)) hf' hv (by rw[cF];exact⟨hk,by simp[hole]⟩)
    exact this
  ·exact⟨β,hi,hf⟩
 ·rename_i k off tid e;split
  ·rename_i cs hcs;split
   ·rename_i hn;have hk:=aC hcs (by simp)
    obtain⟨g,c,e',h1,h2,h3,h4,h5⟩:=hi.blk k _ hk;have hoff:off<cs.length:=by
     rcases Wak off cs.length with h'|h'
     ·exact h'
     ·rw[uL h']at hn;cases hn
    obtain⟨u,hu,bu⟩:=l6 _ _ h4 off hoff;rw[hn]at bu;have bu:u= .slice none 0 0:=bu;subst bu;have hkn:(β++[Value.slice none 0 0])[s.heap.length]?=some (.slice none 0 0):=by rw[<-hi.len];simp
    have hi1:aD C.P B w0 Ψ (β++[.slice none 0 0]) (s.heap++[.grow tid e []]) w:=hi.push (Below.refl _ _) rfl (.inl ⟨none,hkn,rfl⟩) (fun g hc=>by
     obtain⟨n,cap,hz,hc⟩:=hc;rw[hkn]at hc;simp at hc)
    have hlt:=eW hk;have YQ:(s.heap++[aB.grow tid e []])[k]?=some (.cells cs):=by rw[Wao hlt];exact hk
    have qaH:(β++[Value.slice none 0 0])[k]?=some (.pointer (some ⟨g,0,none⟩)):=aS _ _ _ h1;refine⟨β++[.slice none 0 0],?_,bF (bW.refl _) (aS _) _ _ hf⟩
    show aD C.P B w0 Ψ _ (bw (s.heap++[aB.grow tid e []]) k (.cells (eN cs off (.sl (hlen s.heap))))) w
    rw[aZ];refine hi1.mY (g:=g) YQ rfl qaH (World.grownBy.refl w (some g)) (fun _ hc=>hc) ⟨g,c,e',qaH,h2,h3,?_,h5⟩
    have:=oU (Ψ:=Ψ) (β:=β++[Value.slice none 0 0]) (u:=.slice none 0 0) (av:=.sl (hlen s.heap)) (by rw[cF];exact⟨hkn,by simp[hole]⟩) cs c.toList off (aX (bW.refl _) (aS _) _ _ h4)
    have hcu:c.toList.set off (.slice none 0 0)=c.toList:=dy.List.fm hu;rwa [hcu]at this
   ·exact⟨β,hi,hf⟩
  ·exact⟨β,hi,hf⟩
 ·rename_i k off e;split
  ·rename_i cs hcs;split
   ·rename_i hn;have hk:=aC hcs (by simp)
    obtain⟨g,c,e',h1,h2,h3,h4,h5⟩:=hi.blk k _ hk;have hoff:off<cs.length:=by
     rcases Wak off cs.length with h'|h'
     ·exact h'
     ·rw[uL h']at hn;cases hn
    obtain⟨u,hu,bu⟩:=l6 _ _ h4 off hoff;rw[hn]at bu;have bu:u= .slice none 0 0:=bu;subst bu;refine⟨β,?_,hf⟩
    show aD C.P B w0 Ψ β (bw s.heap k (.cells (eN cs off (.d (.arr e) [])))) w
    rw[aZ];refine hi.mY (g:=g) hk rfl h1 (World.grownBy.refl w (some g)) (fun _ hc=>hc) ⟨g,c,e',h1,h2,h3,?_,h5⟩
    have:=oU (Ψ:=Ψ) (β:=β) (u:=.slice none 0 0) (av:=.d (.arr e) []) (nu.2 ⟨none,0,rfl,Wan _,Wbz _,.inl rfl⟩) cs c.toList off h4
    have hcu:c.toList.set off (.slice none 0 0)=c.toList:=dy.List.fm hu;rwa [hcu]at this
   ·exact⟨β,hi,hf⟩
  ·exact⟨β,hi,hf⟩
 ·exact⟨β,hi,hf⟩
theorem qL:∀(as:List LA) {s:St} {β:List Value},aD C.P B w0 Ψ β s.heap w->aQ Ψ β (s.top::s.below) (a::As)->
 ∃β',aD C.P B w0 Ψ β' (cM s as).heap w/\aQ Ψ β' ((cM s as).top::(cM s as).below) (a::As)
 |[],_,β,hi,hf=>⟨β,hi,hf⟩
 |la::as,s,β,hi,hf=>by
  obtain⟨β',h1,h2⟩:=Lm la hi hf;exact qL as h1 h2
mutual
theorem Jo{ax:Pr}{jJ β':List Value}(hle:bW Ψ ax)(hb:∀(k:Nat) (v u:Value),β[k]?=some u->jJ[k]?=some v->β'[k]?=some v):∀(t s:AV) (v:Value),aE Ψ β t v->aE ax jJ s v->still t s=true->aE ax β' t v
 | .bJ,_,_,_,_,_=>trivial
 | .lO,_,_,h,_,_=>h
 | .tt,_,_,h,_,_=>h
 | .ff,_,_,h,_,_=>h
 | .d t x,_,_,⟨cs,hc,e⟩,_,_=>⟨cs,aR hle t x cs hc,e⟩
 | .fs e xs,_,_,⟨ad,ea,cs,hc,e'⟩,_,_=>⟨ad,ea,cs,aR hle (.arr e) xs cs hc,e'⟩
 | .iX,_,_,h,_,_=>h
 | .nk,_,_,h,_,_=>h
 | .nq,_,_,h,_,_=>h
 | .rp t x,_,_,⟨g,off,cs,e,hc,hp⟩,_,_=>⟨g,off,cs,e,aR hle t x cs hc,fun j u hj=>hle _ _ (hp j u hj)⟩
 | .tX _ _ _,_,_,_,_,hs=>by simp[still]at hs
 | .own k o,s,v,⟨g,hg,e⟩,hr,hs=>by
  unfold still at hs;split at hs
  ·rename_i k' o';simp only[Wac,Wag]at hs;obtain⟨rfl,rfl⟩:=hs;obtain⟨g',hg',e'⟩:=hr;exact⟨g',hb k _ _ hg hg',e'⟩
  ·cases hs
 | .sl k,s,v,h,hr,hs=>by
  unfold still at hs;split at hs
  ·rename_i k';simp only[Wag]at hs;subst hs;exact⟨hb k _ _ h.1 hr.1,hr.2⟩
  ·cases hs
 | .qd k,s,v,⟨l,h,e⟩,hr,hs=>by
  unfold still at hs;split at hs
  ·rename_i k';simp only[Wag]at hs;subst hs;obtain⟨l',h',e'⟩:=hr;exact⟨l',hb k _ _ h h',e'⟩
  ·cases hs
 | .agg cs,s,v,⟨vs,e,hl,h1⟩,hr,hs=>by
  unfold still at hs;split at hs
  ·rename_i cs';obtain⟨vs',e',hl',_⟩:=hr;rw[e]at e';simp at e'
   subst e';exact⟨vs,e,kz hle hb cs cs' vs hl hl' hs,h1⟩
  ·cases hs
 | .lW cs,s,v,⟨vs,e,hl⟩,hr,hs=>by
  unfold still at hs;split at hs
  ·rename_i cs';obtain⟨vs',e',hl'⟩:=hr;rw[e]at e';simp at e'
   subst e';exact⟨vs,e,kz hle hb cs cs' vs hl hl' hs⟩
  ·cases hs
 | .fn f cs,s,v,⟨vs,e,hl⟩,hr,hs=>by
  unfold still at hs;split at hs
  ·rename_i f' cs';obtain⟨vs',e',hl'⟩:=hr;rw[e]at e';simp at e'
   obtain⟨_,e'⟩:=e';subst e';exact⟨vs,e,kz hle hb cs cs' vs hl hl' hs⟩
  ·cases hs
 | .xw f cs,s,v,⟨vs,e,hl⟩,hr,hs=>by
  unfold still at hs;split at hs
  ·rename_i f' cs';obtain⟨vs',e',hl'⟩:=hr;rw[e]at e';simp at e'
   obtain⟨_,e'⟩:=e';subst e';exact⟨vs,e,kz hle hb cs cs' vs hl hl' hs⟩
  ·cases hs
 | .sv _ _ _ _,_,_,_,_,hs=>by simp[still]at hs
 | .Ko _,_,_,h,_,_=>h
 | .DS _ _ _ _,_,_,_,_,hs=>by simp[still]at hs
 | .yX _ _ _ _ _,_,_,_,_,hs=>by simp[still]at hs
 | .lI _ _ _ _,_,_,_,_,hs=>by simp[still]at hs
 | .DT _ _,_,_,_,_,hs=>by simp[still]at hs
 | .oM _,_,_,h,_,_=>h
theorem kz{ax:Pr}{jJ β':List Value}(hle:bW Ψ ax)(hb:∀(k:Nat) (v u:Value),β[k]?=some u->jJ[k]?=some v->β'[k]?=some v):∀(ts ss:List AV) (vs:List Value),aL Ψ β ts vs->aL ax jJ ss vs->rZ ts ss=true->aL ax β' ts vs
 |[],_,_,h,_,_=>h
 |t::ts,ss,_,⟨v,vs',e,hv,hl⟩,hr,hs=>by
  unfold rZ at hs;split at hs
  ·rename_i s ss';simp only[Wac]at hs;obtain⟨v',qin,e',AS,hl'⟩:=hr;rw[e]at e';simp at e'
   obtain⟨rfl,rfl⟩:=e';exact⟨v,vs',e,Jo hle hb t s v hv AS hs.1,kz hle hb ts ss' vs' hl hl' hs.2⟩
  ·cases hs
end
theorem Jp{ks:List Nat}{av:AV}{v:Value}(h:aE Ψ β av v):aE Ψ β (TE ks av) v:=by
 unfold TE;split
 ·trivial
 ·trivial
 ·trivial
 ·trivial
 ·trivial
 ·trivial
 ·split
  ·trivial
  ·exact h
 ·exact h
theorem x6{ks:List Nat}:∀{l:List AV} {vs:List Value},aL Ψ β l vs->aL Ψ β (EX ks l) vs
 |[],_,h=>h
 |_::_,_,⟨v,vs',e,hv,hl⟩=>⟨v,vs',e,Jp hv,x6 hl⟩
theorem sI{ks:List Nat}:∀{fs:List (List AV)} {as:List Act},aQ Ψ β fs as->aQ Ψ β (ug ks fs) as
 |[],_,h=>h
 |_::_,_,⟨a,as',e,⟨h1,h2⟩,h3⟩=>⟨a,as',e,⟨h1,x6 h2⟩,sI h3⟩
theorem FT{ax:Pr}{jJ β':List Value}(hle:bW Ψ ax)(hb:∀(k:Nat) (v u:Value),β[k]?=some u->jJ[k]?=some v->β'[k]?=some v):∀(ts ss:List (List AV)) (as:List Act),aQ Ψ β ts as->aQ ax jJ ss as->KO ts ss=true->aQ ax β' ts as
 |[],_,_,h,_,_=>h
 |t::ts,ss,_,⟨a,as',e,⟨h1,h2⟩,hl⟩,hr,hs=>by
  unfold KO at hs;split at hs
  ·rename_i s ss';simp only[Wac]at hs;obtain⟨a',qpD,e',⟨xJ,yW⟩,hl'⟩:=hr;rw[e]at e';simp at e'
   obtain⟨rfl,rfl⟩:=e';exact⟨a,as',e,⟨xJ,kz hle hb t s _ h2 yW hs.1⟩,FT hle hb ts ss' as' hl hl' hs.2⟩
  ·cases hs
theorem FU{ax:Pr}{jJ β':List Value}{ks ws:List Nat}(hle:bW Ψ ax)(hb:∀(k:Nat) (v u:Value),β[k]?=some u->jJ[k]?=some v->β'[k]?=some v):
 ∀(ts ss:List AV) (i:Nat) (vs vs1:List Value),aL Ψ β (forget ks ws i ts) vs->aL ax jJ ss vs1->vs.length=vs1.length->(∀j,j<vs.length->i+j∉ws->vs[j]?=vs1[j]?)->KN ws i (forget ks ws i ts) ss=true->aL ax β' (forget ks ws i ts) vs1
 |[],_,_,_,vs1,h,_,hlen,_,_=>by
  simp only[forget,aL]at h;subst h;have:vs1=[]:=WaT (by simpa using hlen.symm)
  subst this;rfl
 |t::ts,ss,i,_,vs1,⟨v,vs',e,hv,hl⟩,hr,hlen,hsame,hs=>by
  subst e;unfold forget KN at hs;split at hs
  ·rename_i s ss';simp only[Wac,WaL]at hs;obtain⟨v1,qmr,e1,Vo,HX⟩:=hr;subst e1;simp only[Wae,Nat.add_right_cancel_iff]at hlen;refine⟨v1,qmr,rfl,?_,FU hle hb ts ss' (i+1) vs' qmr hl HX hlen (fun j hj hn=>?_) hs.2⟩
   ·by_cases hm:H8 i ws=true
    ·rw[if_pos hm];trivial
    ·rw[if_neg hm]at hs hv ⊢;have hvv:v=v1:=by
      have:=hsame 0 (by simp) (by
       intro hmem;exact hm (FF.2 (by simpa using hmem)))
      simpa using this
     subst hvv;exact Jo hle hb _ s v hv Vo (hs.1.resolve_left hm)
   ·have:=hsame (j+1) (by simpa using hj) (by rw[show i+(j+1)=i+1+j by omega];exact hn)
    simpa using this
  ·cases hs
theorem sJ{ks ws:List Nat}:∀{ts:List AV} {i:Nat} {vs:List Value},aL Ψ β ts vs->aL Ψ β (forget ks ws i ts) vs
 |[],_,_,h=>h
 |t::ts,i,_,⟨v,vs',e,hv,hl⟩=>⟨v,vs',e,(by
  by_cases hm:H8 i ws=true
  ·rw[if_pos hm];trivial
  ·rw[if_neg hm];exact Jp hv),sJ hl⟩
mutual
theorem V0{Ψ:Pr}{β:List Value}{ks:List Nat}:∀(av:AV) (v:Value),aE Ψ β av v->aE Ψ β (zj ks av) v
 | .own _ _,_,h=>h
 | .sl k,v,h=>by
  unfold zj;split
  ·trivial
  ·exact h
 | .fn f cs,v,⟨vs,e,hl⟩=>⟨vs,e,sK cs vs hl⟩
 | .xw f cs,v,⟨vs,e,hl⟩=>⟨vs,e,sK cs vs hl⟩
 | .sv _ _ _ _,_,_=>trivial
 | .Ko _,_,_=>trivial
 | .DS _ _ _ _,_,_=>trivial
 | .yX _ _ _ _ _,_,_=>trivial
 | .lI _ _ _ _,_,_=>trivial
 | .DT _ _,_,_=>trivial
 | .oM _,_,_=>trivial
 | .qd _,_,h=>h
 | .iX,_,h=>h
 | .nk,_,h=>h
 | .nq,_,h=>h
 | .bJ,_,_=>trivial
 | .lO,_,_=>trivial
 | .tt,_,_=>trivial
 | .ff,_,_=>trivial
 | .d _ _,_,_=>trivial
 | .fs _ _,_,_=>trivial
 | .agg _,_,_=>trivial
 | .lW _,_,_=>trivial
 | .tX _ _ _,_,_=>trivial
 | .rp _ _,v,h=>by
  unfold zj;split
  ·exact h
  ·trivial
theorem sK{Ψ:Pr}{β:List Value}{ks:List Nat}:∀(l:List AV) (vs:List Value),aL Ψ β l vs->aL Ψ β (uj ks l) vs
 |[],_,h=>h
 |c::cs,_,⟨v,vs',e,hv,hl⟩=>⟨v,vs',e,V0 c v hv,sK cs vs' hl⟩
end
mutual
theorem ju:∀(t s:AV) {q:Prop},tE t s q↔tE t s True/\q
 | .rp t x,s,q=>by
  unfold tE;split
  ·split
   ·exact⟨fun h=>⟨⟨h.1,trivial⟩,h.2⟩,fun h=>⟨h.1.1,h.2⟩⟩
   ·exact⟨fun h=>h.elim,fun h=>h.1.elim⟩
  ·exact⟨fun h=>h.elim,fun h=>h.1.elim⟩
 | .fn _ cs,s,q=>by
  unfold tE;split
  ·exact kC cs _
  ·exact⟨fun h=>⟨trivial,h⟩,fun h=>h.2⟩
 | .xw _ cs,s,q=>by
  unfold tE;split
  ·exact kC cs _
  ·exact⟨fun h=>⟨trivial,h⟩,fun h=>h.2⟩
 | .own _ _,_,_| .sl _,_,_| .sv _ _ _ _,_,_| .Ko _,_,_| .DS _ _ _ _,_,_| .yX _ _ _ _ _,_,_| .lI _ _ _ _,_,_| .DT _ _,_,_| .oM _,_,_| .qd _,_,_| .iX,_,_| .nk,_,_| .nq,_,_| .bJ,_,_| .lO,_,_
 | .tt,_,_| .ff,_,_| .d _ _,_,_| .fs _ _,_,_| .agg _,_,_| .lW _,_,_| .tX _ _ _,_,_=>⟨fun h=>⟨trivial,h⟩,fun h=>h.2⟩
theorem kC:∀(ts ss:List AV) {q:Prop},qH ts ss q↔qH ts ss True/\q
 |[],_,q=>⟨fun h=>⟨trivial,h⟩,fun h=>h.2⟩
 |c::cs,ss,q=>by
  unfold qH;split
  ·rename_i d ds;exact⟨fun h=>⟨(ju c d).2 ⟨((ju c d).1 h).1,((kC cs ds).1 ((ju c d).1 h).2).1⟩,((kC cs ds).1 ((ju c d).1 h).2).2⟩,
    fun h=>(ju c d).2 ⟨((ju c d).1 h.1).1,(kC cs ds).2 ⟨((ju c d).1 h.1).2,h.2⟩⟩⟩
  ·exact⟨fun h=>⟨trivial,h⟩,fun h=>h.2⟩
end
theorem ir(b c:aB){q:Prop}:EY b c q↔EY b c True/\q:=by
 cases b with
 |cells cs=>
  cases c with
  |cells ds=>exact kC cs ds
  |_=>exact⟨fun h=>⟨trivial,h⟩,fun h=>h.2⟩
 |_=>exact⟨fun h=>⟨trivial,h⟩,fun h=>h.2⟩
theorem mq:∀(h h':List aB) {q:Prop},lY h h' q↔lY h h' True/\q
 |[],_,q=>⟨fun h=>⟨trivial,h⟩,fun h=>h.2⟩
 |b::h,l,q=>by
  unfold lY;split
  ·rename_i c h';exact⟨fun k=>⟨(ir b c).2 ⟨((ir b c).1 k).1,((mq h h').1 ((ir b c).1 k).2).1⟩,((mq h h').1 ((ir b c).1 k).2).2⟩,
    fun k=>(ir b c).2 ⟨((ir b c).1 k.1).1,(mq h h').2 ⟨((ir b c).1 k.1).2,k.2⟩⟩⟩
  ·exact⟨fun h=>⟨trivial,h⟩,fun h=>h.2⟩
theorem FV:∀{h h':List aB} {k:Nat} {b c:aB},lY h h' True->h[k]?=some b->h'[k]?=some c->EY b c True
 |[],_,_,_,_,_,hb,_=>by simp at hb
 |_::_,[],_,_,_,_,_,hc=>by simp at hc
 |b0::h,c0::h',0,b,c,hs,hb,hc=>by
  simp only[Wbh,Option.some.injEq]at hb hc;subst hb hc;exact ((ir b0 c0).1 hs).1
 |b0::h,c0::h',k+1,b,c,hs,hb,hc=>FV ((ir b0 c0).1 hs).2 (by simpa using hb) (by simpa using hc)
theorem Rj:∀(t:Ty) (x:t.den),∃z,bR t t x=some z:=by
 intro t x;unfold bR;generalize decEq t t=d
 cases d with
 |isTrue h=>exact⟨_,rfl⟩
 |isFalse h=>exact absurd rfl h
mutual
theorem Rk{ks:List Nat}:∀(v:AV),tE (zj ks v) v True
 | .rp t x=>by
  unfold zj;split
  case isFalse=>trivial
  unfold tE;simp only
  obtain⟨z,hz⟩:=Rj t x;rw[hz];obtain⟨e,ez⟩:=bz hz;exact⟨ez,trivial⟩
 | .fn f cs=>by
  unfold zj tE;exact qp cs
 | .xw f cs=>by
  unfold zj tE;exact qp cs
 | .sl k=>by
  unfold zj;split<;>trivial
 | .own _ _| .sv _ _ _ _| .Ko _| .DS _ _ _ _| .yX _ _ _ _ _| .lI _ _ _ _| .DT _ _| .oM _| .qd _| .iX| .nk| .nq| .bJ| .lO
 | .tt| .ff| .d _ _| .fs _ _| .agg _| .lW _| .tX _ _ _=>trivial
theorem qp{ks:List Nat}:∀(l:List AV),qH (uj ks l) l True
 |[]=>trivial
 |v::l=>by
  unfold uj qH;exact (ju _ _).2 ⟨Rk v,qp l⟩
end
theorem uN{ks:List Nat}{fs:List (List AV)}:∀{i:Nat} (h:List aB),lY (jI ks fs i h) h True
 |_,[]=>trivial
 |i,b::h=>by
  have ih:=uN (ks:=ks) (fs:=fs) (i:=i+1) h;cases b with
  |cells cs=>exact (kC _ _).2 ⟨qp cs,ih⟩
  |loop f p ph ts=>
   unfold jI;split<;>exact ih
  |fH es=>
   unfold jI;split<;>exact ih
  |_=>exact ih
mutual
theorem V1{Ψ:Pr}{β:List Value}{ax:Pr}{jJ β':List Value}(hb:∀(k:Nat) (v u:Value),β[k]?=some u->jJ[k]?=some v->β'[k]?=some v):∀(t s:AV) (u v:Value),aE Ψ β t u->aE ax jJ s v->gC t s=true->tE t s True->aE ax β' t v
 | .own _ _,s,u,v,ht,hr,hs,_=>by
  unfold gC at hs;split at hs
  ·simp only[Wac,Wag]at hs;obtain⟨rfl,rfl⟩:=hs;obtain⟨g,hg,_⟩:=ht;obtain⟨g',hg',e'⟩:=hr;exact⟨g',hb _ _ _ hg hg',e'⟩
  ·cases hs
 | .sl _,s,u,v,ht,hr,hs,_=>by
  unfold gC at hs;split at hs
  ·simp only[Wag]at hs;subst hs;exact⟨hb _ _ _ ht.1 hr.1,hr.2⟩
  ·cases hs
 | .fn f cs,s,u,v,⟨us,_,hl⟩,hr,hs,hp=>by
  unfold gC at hs;split at hs
  ·simp only[Wac,Wag]at hs;obtain⟨rfl,hs⟩:=hs;obtain⟨vs,e',hl'⟩:=hr;exact⟨vs,e',sL hb cs _ us vs hl hl' hs hp⟩
  ·cases hs
 | .xw f cs,s,u,v,⟨us,_,hl⟩,hr,hs,hp=>by
  unfold gC at hs;split at hs
  ·simp only[Wac,Wag]at hs;obtain⟨rfl,hs⟩:=hs;obtain⟨vs,e',hl'⟩:=hr;exact⟨vs,e',sL hb cs _ us vs hl hl' hs hp⟩
  ·cases hs
 | .sv _ _ _ _,_,_,_,_,_,hs,_=>by simp[gC]at hs
 | .Ko _,_,_,_,_,_,hs,_=>by simp[gC]at hs
 | .DS _ _ _ _,_,_,_,_,_,hs,_=>by simp[gC]at hs
 | .yX _ _ _ _ _,_,_,_,_,_,hs,_=>by simp[gC]at hs
 | .lI _ _ _ _,_,_,_,_,_,hs,_=>by simp[gC]at hs
 | .DT _ _,_,_,_,_,_,hs,_=>by simp[gC]at hs
 | .oM _,_,_,_,_,_,hs,_=>by simp[gC]at hs
 | .qd _,s,u,v,ht,hr,hs,_=>by
  unfold gC at hs;split at hs
  ·simp only[Wag]at hs;subst hs;obtain⟨l,h,_⟩:=ht;obtain⟨l',h',e'⟩:=hr;exact⟨l',hb _ _ _ h h',e'⟩
  ·cases hs
 | .iX,s,u,v,ht,hr,hs,_=>by
  unfold gC at hs;split at hs
  ·exact hr
  ·cases hs
 | .nk,s,u,v,ht,hr,hs,_=>by
  unfold gC at hs;split at hs
  ·exact hr
  ·cases hs
 | .nq,s,u,v,ht,hr,hs,_=>by
  unfold gC at hs;split at hs
  ·exact hr
  ·cases hs
 | .bJ,_,_,_,_,_,_,_=>trivial
 | .lO,_,_,_,_,_,hs,_=>by simp[gC]at hs
 | .tt,_,_,_,_,_,hs,_=>by simp[gC]at hs
 | .ff,_,_,_,_,_,hs,_=>by simp[gC]at hs
 | .d _ _,_,_,_,_,_,hs,_=>by simp[gC]at hs
 | .fs _ _,_,_,_,_,_,hs,_=>by simp[gC]at hs
 | .agg _,_,_,_,_,_,hs,_=>by simp[gC]at hs
 | .lW _,_,_,_,_,_,hs,_=>by simp[gC]at hs
 | .tX _ _ _,_,_,_,_,_,hs,_=>by simp[gC]at hs
 | .rp t x,s,u,v,ht,hr,hs,hp=>by
  unfold gC at hs;split at hs
  ·unfold tE at hp;simp only at hp
   split at hp
   ·rename_i hc;obtain⟨e,ez⟩:=bz hc;subst e;rw[hp.1]at ez;rw[<-show _=x from ez]
    exact hr
   ·exact hp.elim
  ·cases hs
theorem sL{Ψ:Pr}{β:List Value}{ax:Pr}{jJ β':List Value}(hb:∀(k:Nat) (v u:Value),β[k]?=some u->jJ[k]?=some v->β'[k]?=some v):∀(ts ss:List AV) (us vs:List Value),aL Ψ β ts us->aL ax jJ ss vs->oQ ts ss=true->qH ts ss True->aL ax β' ts vs
 |[],ss,_,_,_,hr,hs,_=>by
  unfold oQ at hs;split at hs
  ·exact hr
  ·cases hs
 |t::ts,ss,us0,vs0,⟨u,us,_,hu,kN⟩,hr,hs,hp=>by
  unfold oQ at hs;split at hs
  ·simp only[Wac]at hs;obtain⟨v,vs,e,hv,hvs⟩:=hr;have hp:=(ju t _).1 hp;exact⟨v,vs,e,V1 hb t _ u v hu hv hs.1 hp.1,sL hb ts _ us vs kN hvs hs.2 hp.2⟩
  ·cases hs
end
theorem qeS{a b:KK}(h:qd8 a b=true):a=b:=by
 cases a<;>cases b<;>simp only[qd8,decide_eq_true_eq]at h
 ·rw[h]
 ·cases h
 ·cases h
 ·rw[h]
theorem qaI{a b:AV}(h:TF a b=true):a=b:=by
 unfold TF at h;split at h
 ·rw[Wam h]
 ·cases h
theorem Ou:∀{l m:List (KK×AV)},zk l m=true->l=m
 |[],[],_=>rfl
 |(n,f)::l,(m,g)::k,h=>by
  simp only[zk,Wac]at h;rw[qeS h.1.1,qaI h.1.2,Ou h.2]
 |[],_::_,h=>by simp[zk]at h
 |_::_,[],h=>by simp[zk]at h
theorem CS:∀{l m:List (KK×AV)},zk l m=true->∀{Ψ ax:Pr} {β β':List Value} {us:List Value},aL Ψ β (l.map Prod.snd) us->aL ax β' (l.map Prod.snd) us
 |[],_,_,_,_,_,_,us,hr=>hr
 |(n,f)::l,[],h,_,_,_,_,_,_=>by simp[zk]at h
 |(n,f)::l,(m,g)::k,h,_,_,_,_,us,hr=>by
  simp only[zk,Wac]at h;obtain⟨u,us,rfl,h1,h2⟩:=hr;refine⟨u,us,rfl,?_,CS h.2 h2⟩
  have hf:=h.1.2;unfold TF at hf;split at hf
  ·exact h1
  ·cases hf
theorem FW:∀{l m:List Nat},vz l m=true->l=m
 |[],[],_=>rfl
 |n::l,m::k,h=>by
  simp only[vz,Wac,Wag]at h;obtain⟨rfl,h⟩:=h;rw[FW h]
 |[],_::_,h=>by simp[vz]at h
 |_::_,[],h=>by simp[vz]at h
theorem qaJ{p q:Ph}(h:Zv p q=true):p=q:=by
 unfold Zv at h;split at h
 ·rfl
 ·rfl
 ·rename_i e e';unfold qgW at h;split at h
  ·rfl
  ·simp only[Wag]at h;subst h;rfl
  ·rfl
  ·cases h
 ·rfl
 ·cases h
theorem vO{k:Nat}:∀{l:List AV},IQ k l=true->∃i:Nat,l[i]?=some (.qd k)
 |[],h=>by simp[IQ]at h
 |x::l,h=>by
  unfold IQ at h;split at h
  ·rename_i e;cases e
  ·rename_i j l' e;simp only[List.cons.injEq]at e;obtain⟨rfl,rfl⟩:=e;simp only[WaL,Wag]at h;rcases h with rfl|h
   ·exact⟨0,rfl⟩
   ·obtain⟨i,hi⟩:=vO h;exact⟨i+1,by simpa using hi⟩
  ·rename_i e;simp only[List.cons.injEq]at e;obtain⟨rfl,rfl⟩:=e;obtain⟨i,hi⟩:=vO h;exact⟨i+1,by simpa using hi⟩
theorem Jq:∀{l:List AV} {i:Nat} {v:AV},l[i]?=some v->bX l i=v
 |[],_,_,h=>by simp at h
 |x::l,0,v,h=>by simpa [bX]using h
 |x::l,i+1,v,h=>by simpa [bX]using Jq (l:=l) (i:=i) (by simpa using h)
theorem zN{k i:Nat}{l:List AV}{vs:List Value}(h:aL Ψ β l vs)(hi:l[i]?=some (.qd k)):∃n,β[k]?=some (cm n)/\vs[i]?=some (cm n):=by
 have hlt:i<l.length:=by
  rcases Wak i l.length with h'|h'
  ·exact h'
  ·rw[Wai h']at hi;cases hi
 obtain⟨u,hu,hr⟩:=l6 _ _ h i hlt;have:bX l i= .qd k:=Jq hi
 rw[this]at hr;obtain⟨n,h1,rfl⟩:=hr;exact⟨n,h1,hu⟩
theorem Jr{ax:Pr}{β':List Value}{k:Nat}:∀{fs:List (List AV)} {as:List Act},rY k fs=true->aQ Ψ β fs as->aQ ax β' fs as->∃n,β[k]?=some (cm n)/\β'[k]?=some (cm n)
 |[],_,h,_,_=>by simp[rY]at h
 |f::fs,_,h,⟨a,as,e,⟨_,hl⟩,hr⟩,⟨a',as',e',⟨_,hl'⟩,hr'⟩=>by
  rw[e]at e';simp only[List.cons.injEq]at e';obtain⟨rfl,rfl⟩:=e';simp only[rY,WaL]at h;rcases h with h|h
  ·obtain⟨i,hi⟩:=vO h;obtain⟨n,h1,h2⟩:=zN hl hi;obtain⟨n',xJ,yW⟩:=zN hl' hi;rw[h2]at yW;simp only[Option.some.injEq]at yW;exact⟨n,h1,by rw[xJ,<-yW]⟩
  ·exact Jr h hr hr'
theorem FX{ks ws:List Nat}{k:Nat}:∀{l:List AV} {i j:Nat},(forget ks ws i l)[j]?=some (.qd k)->i+j∉ws
 |[],_,_,h=>by simp[forget]at h
 |v::vs,i,0,h=>by
  simp only[forget,Wbh,Option.some.injEq]at h;intro hm;rw[if_pos (FF.2 (by simpa using hm))]at h
  cases h
 |v::vs,i,j+1,h=>by
  simp only[forget,WcA]at h;have:=FX h
  rwa [show i+(j+1)=i+1+j by omega]
theorem V3{ax:Pr}{β':List Value}{k:Nat}{ks ws:List Nat}{top:List AV}{fs:List (List AV)}{ah:Act}(h:rY k (forget ks ws 0 top::fs)=true)(hh:aQ Ψ β (forget ks ws 0 top::fs) (ah::As))(hn:aQ ax β' (forget ks ws 0 top::fs) (a::As))
 (hs:∀t,t∉ws->a.tmps[t]?=ah.tmps[t]?):∃n,β[k]?=some (cm n)/\β'[k]?=some (cm n):=by
 obtain⟨a1,as1,e1,⟨_,hl⟩,hr⟩:=hh;obtain⟨a2,as2,e2,⟨_,hl'⟩,hr'⟩:=hn;simp only[List.cons.injEq]at e1 e2;obtain⟨rfl,rfl⟩:=e1;obtain⟨rfl,rfl⟩:=e2;simp only[rY,WaL]at h;rcases h with h|h
 ·obtain⟨i,hi⟩:=vO h;obtain⟨n,h1,h2⟩:=zN hl hi;obtain⟨n',xJ,yW⟩:=zN hl' hi;have hw:=hs i (by have:=FX hi;simpa using this)
  simp only[Wcd]at h2 yW;rw[hw,h2]at yW;simp only[Option.some.injEq]at yW;exact⟨n,h1,by rw[xJ,<-yW]⟩
 ·exact Jr h hr hr'
theorem FY{ks:List Nat}{fs:List (List AV)}:∀{h:List aB} {i:Nat},(jI ks fs i h).length=h.length
 |[],_=>rfl
 |b0::h,i=>by cases b0<;>simp[jI,FY (h:=h)]
def Ln(ks:List Nat)(fs:List (List AV))(i:Nat):aB->aB
 | .cells cs=>.cells (uj ks cs)
 | .fH es=>if Qx es then .fH es else .gone
 | .loop f p ph ts=>if rY i fs then .loop f p ph (EX ks ts) else .gone
 |_=>.gone
theorem pg{ks:List Nat}{fs:List (List AV)}:∀{h:List aB} {i k:Nat} {b:aB},(jI ks fs i h)[k]?=some b->∃b0,h[k]?=some b0/\b=Ln ks fs (i+k) b0
 |[],_,_,_,hb=>by simp[jI]at hb
 |b0::h,i,0,b,hb=>by
  refine⟨b0,rfl,?_⟩
  cases b0<;>simpa [jI,Ln]using hb.symm
 |b0::h,i,k+1,b,hb=>by
  have:(jI ks fs i (b0::h))[k+1]?=(jI ks fs (i+1) h)[k]?:=by cases b0<;>simp[jI]
  rw[this]at hb;obtain⟨b1,h1,h2⟩:=pg hb;exact⟨b1,by simpa using h1,by rwa [show i+(k+1)=i+1+k by omega]⟩
theorem FZ{P:Program}{ks:List Nat}{fs:List (List AV)}{i k:Nat}{b:aB}(h:cn P B Ψ β w k b):cn P B Ψ β w k (Ln ks fs i b):=by
 cases b with
 |gone=>trivial
 |cells cs=>
  obtain⟨g,c,e,h1,h2,h3,h4,h5⟩:=h;exact⟨g,c,e,h1,h2,h3,sK _ _ h4,h5⟩
 |log _ _ _ _=>trivial
 |kV _ _ _=>trivial
 |grow _ _ _=>trivial
 |fH es=>
  unfold Ln;simp only
  split
  ·exact h
  ·trivial
 |dmap _ _=>trivial
 |eo _ _ _=>trivial
 |dat _ _=>trivial
 |eu _ _=>trivial
 |xb _=>trivial
 |loop f p ph ts=>
  unfold Ln;simp only
  split
  ·obtain⟨l,r,h1,h2,h3,h4,h5,h6⟩:=h;exact⟨l,r,h1,h2,h3,h4,x6 h5,h6⟩
  ·trivial
theorem F0:∀{h h':List aB} {k:Nat} {b:aB},r6 h h'=true->h[k]?=some b->∃c,h'[k]?=some c/\oS b c=true
 |[],_,_,_,_,hb=>by simp at hb
 |_::_,[],_,_,h,_=>by simp[r6]at h
 |b0::h,c0::h',0,b,hs,hb=>by
  simp only[r6,Wac]at hs;simp only[Wbh,Option.some.injEq]at hb;subst hb;exact⟨c0,rfl,hs.1⟩
 |b0::h,c0::h',k+1,b,hs,hb=>by
  simp only[r6,Wac]at hs;obtain⟨c,h1,h2⟩:=F0 hs.2 (by simpa using hb)
  exact⟨c,by simpa using h1,h2⟩
theorem F1:∀{h h':List aB},r6 h h'=true->h.length<=h'.length
 |[],_,_=>Wbz _
 |_::_,[],h=>by simp[r6]at h
 |b0::h,c0::h',hs=>by
  simp only[r6,Wac]at hs;have:=F1 hs.2
  simp
  omega
theorem V4{P:Program}{ax:Pr}{jJ β':List Value}{wh:World}{k:Nat}{b c:aB}(hle:bW Ψ ax)(hb:∀(k:Nat) (v u:Value),β[k]?=some u->jJ[k]?=some v->β'[k]?=some v)(hl:∀(j:Nat) (v:Value),β'[j]?=some v->jJ[j]?=some v)
 (hy:∀f p ph ts,b= .loop f p ph ts->∃n,β[k]?=some (cm n)/\β'[k]?=some (cm n)) {Bh:Nat->Prop} (h0:cn P Bh Ψ β wh k b) (h1:cn P B ax jJ w k c) (hs:oS b c=true) (hsp:EY b c True):
 cn P B ax β' w k b/\∀g,af β' k g b->af jJ k g c:=by
 cases b with
 |gone=>exact⟨trivial,fun g hc=>hc.elim⟩
 |cells cs=>
  cases c with
  |cells ds=>
   obtain⟨g,c,e,a1,a2,a3,a4,a5⟩:=h0;obtain⟨g',c',e',b1,b2,b3,b4,b5⟩:=h1;exact⟨⟨g',c',e',hb k _ _ a1 b1,b2,b3,sL hb cs ds _ _ a4 b4 hs hsp,b5⟩,fun g hc=>hl _ _ hc⟩
  |_=>simp[oS]at hs
 |log _ _ _ _=>simp[oS]at hs
 |kV _ _ _=>simp[oS]at hs
 |grow _ _ _=>simp[oS]at hs
 |dmap _ _=>simp[oS]at hs
 |eo _ _ _=>simp[oS]at hs
 |dat _ _=>simp[oS]at hs
 |eu _ _=>simp[oS]at hs
 |xb _=>simp[oS]at hs
 |fH es=>
  cases c with
  |fH fs=>
   have hs:=hs;have he:=Ou hs;subst he;obtain⟨g,ms,cl,a1,a2,a3,a4⟩:=h0;obtain⟨g',ms',YL,b1,b2,b3,b4⟩:=h1;exact⟨⟨g',ms',YL,hb k _ _ a1 b1,b2,b3,b4.1,CS hs b4.2.1,b4.2.2⟩,fun g hc=>hl _ _ hc⟩
  |_=>simp[oS]at hs
 |loop f p ph ts=>
  cases c with
  |loop f' p' Zw ts'=>
   simp only[oS,Wac,Wag,dw]at hs;obtain⟨⟨⟨⟨rfl,hp⟩,hph⟩,hst⟩,hlen⟩:=hs;have hp:=FW hp;subst hp;have hph:=qaJ hph;subst hph;obtain⟨n,y1,y2⟩:=hy f p ph ts rfl;obtain⟨l,r,a1,a2,a3,a4,a5,a6,a7,a8⟩:=h0;obtain⟨l',r',b1,b2,b3,b4,b5,b6,b7,b8⟩:=h1;have e1:l=n:=by rw[a1]at y1;simpa [cm]using y1
   have e2:l'=n:=by rw[hl _ _ y2]at b1;simpa [cm]using b1.symm
   subst e1;subst e2;have hts:r.tmps=r'.tmps:=by
    have s1:=dr _ _ a5;have s2:=dr _ _ b5;simp only[Array.length_toList]at s1 s2;apply Array.ext
    ·omega
    ·intro i h1 h2;have e3:=hle _ _ (a7 i _ (Wa1 h1));have e4:=b7 i _ (Wa1 h2);rw[e3]at e4;simpa using e4
   rw[hts]at a5;exact⟨⟨l',r',y2,b2,b3,b4,kz hle hb ts ts' _ a5 b5 hst,b6,b7,b8⟩,fun g hc=>hl _ _ hc⟩
  |_=>simp[oS]at hs
structure Good (C:Ctx) (B:Nat->Prop) (Ψ:Pr) (β β':List Value) (s σ:St) (n:Nat) (a:Act) (As:List Act) (w:World):Prop where
 len:σ.heap.length=n
 fr:aQ Ψ β' (σ.top::σ.below) (a::As)
 blk:∀k b,σ.heap[k]?=some b->cn C.P B Ψ β' w k b/\∀g,af β' k g b->∃b'',s.heap[k]?=some b''/\af β k g b''
theorem bE{l:List Value}{n k:Nat}(h:k<n):(l.take n)[k]?=l[k]?:=by rw[Was,if_pos h]
theorem Good.nw{s σ:St}{n k:Nat}{b b0:aB}{β':List Value}(hg:Good C B Ψ β β' s σ n a As w)(_hk:σ.heap[k]?=some b0)(hb:cn C.P B Ψ β' w k b)(hc:∀g,af β' k g b->∃b'',s.heap[k]?=some b''/\af β k g b''):
 Good C B Ψ β β' s {σ with heap:=σ.heap.set k b} n a As w where
 len:=by simpa using hg.len
 fr:=hg.fr
 blk:=fun j b1 hj=>by
  by_cases cY:j=k
  ·subst cY;simp only at hj
   rw[WaC (eW _hk)]at hj;simp at hj
   subst hj;exact⟨hb,hc⟩
  ·simp only at hj
   rw[War (Wa0 cY)]at hj;exact hg.blk j b1 hj
theorem Good.qiW{s σ:St}{n i:Nat}{av:AV}{β':List Value}{v:Value}(hg:Good C B Ψ β β' s σ n a As w)(ht:a.tmps[i]?=some v)(hv:aE Ψ β' av v):Good C B Ψ β β' s {σ with top:=eN σ.top i av} n a As w where
 len:=hg.len
 fr:=dy (s:=σ) hg.fr ht hv
 blk:=hg.blk
theorem Good.Lo{s σ:St}{n i:Nat}{av:AV}{β':List Value}(hg:Good C B Ψ β β' s σ n a As w)(hv:∀v,a.tmps[i]?=some v->aE Ψ β' av v):Good C B Ψ β β' s {σ with top:=eN σ.top i av} n a As w:=by
 cases hx:a.tmps[i]? with
 |some v=>exact hg.qiW hx (hv v hx)
 |none=>
  have:eN σ.top i av=σ.top:=by
   rw[D4];apply Wbr
   have:=dr _ _ (bf hg.fr).2
   have h2:a.tmps.size<=i:=by simpa using hx
   rw[Array.length_toList]at this;omega
  rw[this];exact hg
def qiX(s0 s:St)(n:Nat):LA->Prop
 | .dF i tid e=>qI s0 (.dF i tid e)=none\/∃j,qI s0 (.dF i tid e)=some j/\qI s (.dF i tid e)=some j/\j<n
 | .nN i tid e=>qI s0 (.nN i tid e)=none\/∃j,qI s0 (.nN i tid e)=some j/\qI s (.nN i tid e)=some j/\j<n
 | .kY k off tid e=>qI s0 (.kY k off tid e)=none\/∃j,qI s0 (.kY k off tid e)=some j/\qI s (.kY k off tid e)=some j/\j<n
 |_=>True
theorem F2{s s0 σ:St}{n:Nat}(la:LA){x:la.ty.den}(hi:aD C.P B w0 Ψ β s.heap w)(hf:aQ Ψ β (s.top::s.below) (a::As))(hn:n<=s.heap.length)(hx:tD s la=some x)
 (hA:qiX s0 s n la) (hg:Good C B Ψ β (β.take n) s σ n a As w):Good C B Ψ β (β.take n) s (gp s0 σ la x) n a As w:=by
 cases la with
 |slot i t=>
  have hx:(if gB [bX s.top i]=true then AZ s.heap t (bX s.top i) else none)=some (x:t.den):=hx
  split at hx
  ·rename_i tW;have hrefs:refs (bX s.top i)=[]:=by
    have:=gD tW
    simpa [cS]using this
   refine hg.Lo fun v hv=>?_
   have h1:=c9 _ _ (bf hf).2 i;rw[getD_eq,hv]at h1;exact ku (bW.refl _) hx h1 (by rw[hrefs];exact cc.nil)
  ·cases hx
 |cell k off t=>
  simp only[gp];split
  ·rename_i cs hcs;have hx:(match aH s.heap k with| .cells cs=>if !t.isAgg&&gB [bX cs off]&&Nat.ble (off+1) (dg cs) then Kp s.heap t (bX cs off) else none|_=>none)=some (x:t.den):=hx
   split at hx
   ·rename_i cs1 qeT;have hx:(if (!t.isAgg&&gB [bX cs1 off]&&Nat.ble (off+1) (dg cs1))=true then Kp s.heap t (bX cs1 off) else none)=some (x:t.den):=hx
    split at hx
    ·rename_i hc;simp only[Wac,WaU,WaK,dw]at hc;obtain⟨⟨hag,tW⟩,hle⟩:=hc;have iu:=aC hcs (by simp)
     obtain⟨hB,hC⟩:=hg.blk k _ iu;obtain⟨g,c,e,h1,h2,h3,h4,h5⟩:=hB;have hkn:k<n:=by rw[<-hg.len];exact eW iu
     rw[bE hkn]at h1;obtain⟨g1,c1,e1,xJ,yW,h3',h4',h5'⟩:=hi.blk k _ (aC qeT (by simp))
     rw[h1]at xJ;simp at xJ
     subst xJ;rw[h2]at yW;simp at yW
     obtain⟨rfl,rfl⟩:=yW;obtain⟨u,hu,bu⟩:=l6 _ _ h4' off (by omega)
     have hrefs:EJ (bX cs1 off)=[]:=by
      have:=gD tW
      simp only[cS,WaA]at this;cases hfx:bX cs1 off<;>simp_all[refs,EJ]
     have vD:=zB (bW.refl Ψ) hx bu (by rw[hrefs];exact cc.nil)
     rw[aZ];refine hg.nw iu ⟨g,c,e,by rw[bE hkn];exact h1,h2,h3,?_,h5⟩ (fun g' tG=>hC g' tG)
     have:=oU (β:=β.take n) (u:=u) (av:=.d t x) vD cs c.toList off h4
     have hcu:c.toList.set off u=c.toList:=dy.List.fm hu;rwa [hcu]at this
    ·cases hx
   ·cases hx
  ·exact hg
 |dF i tid e=>
  rcases hA with hA|hA
  ·simp only[gp];rw[hA];exact hg
  obtain⟨j,hj0,hj,hjn⟩:=hA;simp only[gp];rw[hj0];simp only
  simp only[qI]at hj;simp only[tD]at hx;split at hj
  ·rename_i k hk;simp at hj
   subst hj;simp only[hk]at hx;have hx:(match aH s.heap k with| .grow tid' e' xs=>if Nat.beq tid tid' then bR (.arr e') (.arr e) xs else none|_=>none)=some (x:List e.den):=hx
   split at hx
   ·rename_i tid' e' xs zL;have hx:(if Nat.beq tid tid'=true then bR (.arr e') (.arr e) xs else none)=some (x:(Ty.arr e).den):=hx
    by_cases x7:Nat.beq tid tid'=true
    ·have F3:tid=tid':=by simpa [Wag]using x7
     subst F3;have hx:bR (.arr e') (.arr e) xs=some x:=(if_pos x7).symm.trans hx;obtain⟨he,rfl⟩:=bz hx;simp only[Ty.arr.injEq]at he;subst he;have CT:=aC zL (by simp)
     have hB:=hi.blk k _ CT;have iu:∃b0,σ.heap[k]?=some b0:=⟨σ.heap[k]'(by rw[hg.len];exact hjn),Waa _⟩
     obtain⟨b0,iu⟩:=iu;have g1:=hg.Lo (i:=i) (av:=.sl k) (fun v hv=>by
      have h1:=c9 _ _ (bf hf).2 i;rw[getD_eq,hv,hk]at h1;refine⟨?_,h1.2⟩
      rw[bE hjn];exact h1.1)
     have g2:=g1.nw (b:=.grow tid e' xs) iu (by
      rcases hB with ⟨ad,h1,h2⟩|⟨g,cap,cur,h1,r⟩
      ·exact .inl ⟨ad,by rw[bE hjn];exact h1,h2⟩
      ·exact .inr ⟨g,cap,cur,by rw[bE hjn];exact h1,r⟩) (fun g hc=>⟨_,CT,by
       obtain⟨m,cap,h1,h2⟩:=hc;rw[bE hjn]at h2;exact⟨m,cap,h1,h2⟩⟩)
     rw[aZ];exact g2
    ·have hx:none=some x:=(if_neg x7).symm.trans hx;cases hx
   ·cases hx
  ·cases hj
 |nN i tid e=>
  rcases hA with hA|hA
  ·simp only[gp];rw[hA];exact hg
  obtain⟨j,hj0,hj,hjn⟩:=hA;simp only[gp];rw[hj0];simp only
  simp only[qI]at hj;simp only[tD]at hx;split at hj
  ·rename_i k hk;simp at hj
   subst hj;simp only[hk]at hx;have hx:(match aH s.heap k with| .xb (.xx tid' e' xs)=>if Nat.beq tid tid' then bR (.arr e') (.arr e) xs else none|_=>none)=some (x:List e.den):=hx
   split at hx
   ·rename_i tid' e' xs zL;have hx:(if Nat.beq tid tid'=true then bR (.arr e') (.arr e) xs else none)=some (x:(Ty.arr e).den):=hx
    by_cases x7:Nat.beq tid tid'=true
    ·have F3:tid=tid':=by simpa [Wag]using x7
     subst F3;have hx:bR (.arr e') (.arr e) xs=some x:=(if_pos x7).symm.trans hx;obtain⟨he,rfl⟩:=bz hx;simp only[Ty.arr.injEq]at he;subst he;have CT:=aC zL (by simp)
     have hB:=hi.blk k _ CT;have iu:∃b0,σ.heap[k]?=some b0:=⟨σ.heap[k]'(by rw[hg.len];exact hjn),Waa _⟩
     obtain⟨b0,iu⟩:=iu;have g1:=hg.Lo (i:=i) (av:=.sl k) (fun v hv=>by
      have h1:=c9 _ _ (bf hf).2 i;rw[getD_eq,hv,hk]at h1;refine⟨?_,h1.2⟩
      rw[bE hjn];exact h1.1)
     have g2:=g1.nw (b:=.xb (.xx tid e' xs)) iu (by
      obtain⟨v,h1,r⟩:=hB;exact⟨v,by rw[bE hjn];exact h1,r⟩) (fun g hc=>⟨_,CT,by
       obtain⟨v,h1,h2⟩:=hc;rw[bE hjn]at h1;exact⟨v,h1,h2⟩⟩)
     rw[aZ];exact g2
    ·have hx:none=some x:=(if_neg x7).symm.trans hx;cases hx
   ·cases hx
  ·cases hj
 |kY k off tid e=>
  rcases hA with hA|hA
  ·simp only[gp];rw[hA];exact hg
  obtain⟨j,hj0,hj,hjn⟩:=hA;simp only[gp];rw[hj0];simp only
  simp only[qI]at hj;simp only[tD]at hx;split at hj
  ·rename_i cs1 qeT;split at hj
   ·rename_i j' hjc;simp at hj
    subst hj;have hx:(match aH s.heap k with| .cells cs=>(match bX cs off with| .sl j=>(match aH s.heap j with| .grow tid' e' xs=>if Nat.beq tid tid' then bR (.arr e') (.arr e) xs else none|_=>none)|_=>none)|_=>none)=some (x:List e.den):=hx
    simp only[qeT,hjc]at hx;split at hx
    ·rename_i tid' e' xs zL;have hx:(if Nat.beq tid tid'=true then bR (.arr e') (.arr e) xs else none)=some (x:(Ty.arr e).den):=hx
     by_cases x7:Nat.beq tid tid'=true
     ·have F3:tid=tid':=by simpa [Wag]using x7
      subst F3;have hx:bR (.arr e') (.arr e) xs=some x:=(if_pos x7).symm.trans hx;obtain⟨he,rfl⟩:=bz hx;simp only[Ty.arr.injEq]at he;subst he;split
      ·rename_i cs hcs;have iu:=aC hcs (by simp)
       obtain⟨hB,hC⟩:=hg.blk k _ iu;obtain⟨g,c,e1,h1,h2,h3,h4,h5⟩:=hB;have hkn:k<n:=by rw[<-hg.len];exact eW iu
       rw[bE hkn]at h1;obtain⟨g1,c1,e1',xJ,yW,h3',h4',h5'⟩:=hi.blk k _ (aC qeT (by simp))
       rw[h1]at xJ;simp at xJ
       subst xJ;rw[h2]at yW;simp at yW
       obtain⟨rfl,rfl⟩:=yW;have hoff:off<cs1.length:=by
        rcases Wak off cs1.length with h'|h'
        ·exact h'
        ·rw[uL h']at hjc;cases hjc
       obtain⟨u,hu,bu⟩:=l6 _ _ h4' off hoff;rw[hjc]at bu;have qaj:aE Ψ (β.take n) (.sl j') u:=⟨by rw[bE hjn];exact bu.1,bu.2⟩
       have g1:=hg.nw (b:=.cells (eN cs off (.sl j'))) iu ⟨g,c,e1,by rw[bE hkn];exact h1,h2,h3,(by
        have:=oU (Ψ:=Ψ) (β:=β.take n) (u:=u) (av:=.sl j') qaj cs c.toList off h4
        have hcu:c.toList.set off u=c.toList:=dy.List.fm hu;rwa [hcu]at this),h5⟩ (fun g' tG=>hC g' tG)
       have CT:=aC zL (by simp)
       have hB:=hi.blk j' _ CT;have qiY:∃b0,(σ.heap.set k (.cells (eN cs off (.sl j'))))[j']?=some b0:=⟨(σ.heap.set k (.cells (eN cs off (.sl j'))))[j']'(by rw[WaX,hg.len];exact hjn),Waa _⟩
       obtain⟨b0,qiY⟩:=qiY;have g2:=g1.nw (b:=.grow tid e' xs) qiY (by
        rcases hB with ⟨ad,h1,h2⟩|⟨g,cap,cur,h1,r⟩
        ·exact .inl ⟨ad,by rw[bE hjn];exact h1,h2⟩
        ·exact .inr ⟨g,cap,cur,by rw[bE hjn];exact h1,r⟩) (fun g hc=>⟨_,CT,by
         obtain⟨m,cap,h1,h2⟩:=hc;rw[bE hjn]at h2;exact⟨m,cap,h1,h2⟩⟩)
       rw[aZ,aZ];exact g2
      ·exact hg
     ·have hx:none=some x:=(if_neg x7).symm.trans hx;cases hx
    ·cases hx
   ·cases hj
  ·cases hj
 |keep k tid e=>
  simp only[tD]at hx;have hx:(match aH s.heap k with| .grow tid' e' xs=>if Nat.beq tid tid' then bR (.arr e') (.arr e) xs else none|_=>none)=some (x:List e.den):=hx
  split at hx
  ·rename_i tid' e' xs zL;have hx:(if Nat.beq tid tid'=true then bR (.arr e') (.arr e) xs else none)=some (x:(Ty.arr e).den):=hx
   by_cases x7:Nat.beq tid tid'=true
   ·have F3:tid=tid':=by simpa [Wag]using x7
    subst F3;have hx:bR (.arr e') (.arr e) xs=some x:=(if_pos x7).symm.trans hx;obtain⟨he,rfl⟩:=bz hx;simp only[Ty.arr.injEq]at he;subst he;have CT:=aC zL (by simp)
    have hB:=hi.blk k _ CT;rcases Wak k n with hkn|hkn
    ·have iu:∃b0,σ.heap[k]?=some b0:=⟨σ.heap[k]'(by rw[hg.len];exact hkn),Waa _⟩
     obtain⟨b0,iu⟩:=iu;have g2:=hg.nw (b:=.grow tid e' xs) iu (by
      rcases hB with ⟨ad,h1,h2⟩|⟨g,cap,cur,h1,r⟩
      ·exact .inl ⟨ad,by rw[bE hkn];exact h1,h2⟩
      ·exact .inr ⟨g,cap,cur,by rw[bE hkn];exact h1,r⟩) (fun g hc=>⟨_,CT,by
       obtain⟨m,cap,h1,h2⟩:=hc;rw[bE hkn]at h2;exact⟨m,cap,h1,h2⟩⟩)
     simp only[gp];rw[aZ];exact g2
    ·have hno:bw σ.heap k (.grow tid e' xs)=σ.heap:=by
      rw[aZ];exact Wbr (by rw[hg.len];exact hkn)
     have:gp s0 σ (.keep k tid e') xs=σ:=by
      show ({σ with heap:=bw σ.heap k (.grow tid e' xs)}:St)=σ
      rw[hno]
     have hres:Good C B Ψ β (β.take n) s (gp s0 σ (.keep k tid e') xs) n a As w:=by rw[this];exact hg
     exact hres
   ·have hx:none=some x:=(if_neg x7).symm.trans hx;cases hx
  ·cases hx
 |kmp k e=>
  simp only[tD]at hx;have hx:(match aH s.heap k with| .dmap e' xs=>bR (.arr (.pair (.int .i64) e')) (.arr (.pair (.int .i64) e)) xs|_=>none)=some (x:List (Int×e.den)):=hx
  cases zL:aH s.heap k with
  |dmap e0 xs=>
   rw[zL]at hx;have hx:bR (.arr (.pair (.int .i64) e0)) (.arr (.pair (.int .i64) e)) xs=some (x:(Ty.arr (.pair (.int .i64) e)).den):=hx;obtain⟨he,rfl⟩:=bz hx;simp only[Ty.arr.injEq,Ty.pair.injEq,true_and]at he;subst he;have CT:=aC zL (by simp)
   have hB:=hi.blk k _ CT;rcases Wak k n with hkn|hkn
   ·have iu:∃b0,σ.heap[k]?=some b0:=⟨σ.heap[k]'(by rw[hg.len];exact hkn),Waa _⟩
    obtain⟨b0,iu⟩:=iu;have g2:=hg.nw (b:=aB.dmap e0 xs) iu (by
     obtain⟨g,ms,cl,h1,r⟩:=hB;exact⟨g,ms,cl,by rw[bE hkn];exact h1,r⟩) (fun g hc=>⟨_,CT,by
      simp only[af]at hc ⊢;rw[bE hkn]at hc;exact hc⟩)
    simp only[gp];rw[aZ];exact g2
   ·have hno:bw σ.heap k (aB.dmap e0 xs)=σ.heap:=by
     rw[aZ];exact Wbr (by rw[hg.len];exact hkn)
    have:gp s0 σ (.kmp k e0) xs=σ:=by
     show ({σ with heap:=bw σ.heap k (aB.dmap e0 xs)}:St)=σ
     rw[hno]
    have hres:Good C B Ψ β (β.take n) s (gp s0 σ (.kmp k e0) xs) n a As w:=by rw[this];exact hg
    exact hres
  |_=>rw[zL]at hx;cases hx
 |kit k e=>
  simp only[tD]at hx;have hx:(match aH s.heap k with| .eo e' _ xs=>bR (.arr (.pair (.int .i64) e')) (.arr (.pair (.int .i64) e)) xs|_=>none)=some (x:List (Int×e.den)):=hx
  cases zL:aH s.heap k with
  |eo e0 last xs=>
   rw[zL]at hx;have hx:bR (.arr (.pair (.int .i64) e0)) (.arr (.pair (.int .i64) e)) xs=some (x:(Ty.arr (.pair (.int .i64) e)).den):=hx;obtain⟨he,rfl⟩:=bz hx;simp only[Ty.arr.injEq,Ty.pair.injEq,true_and]at he;subst he;have CT:=aC zL (by simp)
   have hB:=hi.blk k _ CT;rcases Wak k n with hkn|hkn
   ·have iu:∃b0,σ.heap[k]?=some b0:=⟨σ.heap[k]'(by rw[hg.len];exact hkn),Waa _⟩
    obtain⟨b0,iu⟩:=iu;have g2:=hg.nw (b:=aB.eo e0 [] xs) iu (by
     obtain⟨g,gm,ms,cl,seen,h1,h2,h3,h4,h5,h6,h7,_⟩:=hB;exact⟨g,gm,ms,cl,seen,by rw[bE hkn];exact h1,h2,h3,h4,h5,h6,h7,.inl rfl⟩) (fun g hc=>⟨_,CT,by
      simp only[af]at hc ⊢;rw[bE hkn]at hc;exact hc⟩)
    simp only[gp];rw[aZ];exact g2
   ·have hno:bw σ.heap k (aB.eo e0 [] xs)=σ.heap:=by
     rw[aZ];exact Wbr (by rw[hg.len];exact hkn)
    have:gp s0 σ (.kit k e0) xs=σ:=by
     show ({σ with heap:=bw σ.heap k (aB.eo e0 [] xs)}:St)=σ
     rw[hno]
    have hres:Good C B Ψ β (β.take n) s (gp s0 σ (.kit k e0) xs) n a As w:=by rw[this];exact hg
    exact hres
  |_=>rw[zL]at hx;cases hx
 |aT k t=>
  simp only[tD]at hx;have hx:(match aH s.heap k with| .dat u y=>bR u t y|_=>none)=some (x:t.den):=hx
  cases zL:aH s.heap k with
  |dat u y=>
   rw[zL]at hx;have hx:bR u t y=some (x:t.den):=hx;obtain⟨he,rfl⟩:=bz hx;subst he;have CT:=aC zL (by simp)
   have hB:=hi.blk k _ CT;rcases Wak k n with hkn|hkn
   ·have iu:∃b0,σ.heap[k]?=some b0:=⟨σ.heap[k]'(by rw[hg.len];exact hkn),Waa _⟩
    obtain⟨b0,iu⟩:=iu;have g2:=hg.nw (b:=aB.dat u y) iu (by
     obtain⟨g,c,e,h1,r⟩:=hB;exact⟨g,c,e,by rw[bE hkn];exact h1,r⟩) (fun g hc=>⟨_,CT,by
      simp only[af]at hc ⊢;rw[bE hkn]at hc;exact hc⟩)
    simp only[gp];rw[aZ];exact g2
   ·have hno:bw σ.heap k (aB.dat u y)=σ.heap:=by
     rw[aZ];exact Wbr (by rw[hg.len];exact hkn)
    have:gp s0 σ (.aT k u) y=σ:=by
     show ({σ with heap:=bw σ.heap k (aB.dat u y)}:St)=σ
     rw[hno]
    have hres:Good C B Ψ β (β.take n) s (gp s0 σ (.aT k u) y) n a As w:=by rw[this];exact hg
    exact hres
  |_=>rw[zL]at hx;cases hx
 |H7 k=>
  simp only[tD]at hx;have hx:(match aH s.heap k with| .eu m rest=>some (m,rest)|_=>none)=some (x:Int×List Int):=hx
  cases zL:aH s.heap k with
  |eu m rest=>
   rw[zL]at hx;have hx:(m,rest)=x:=Option.some.inj hx;subst hx;have CT:=aC zL (by simp)
   have hB:=hi.blk k _ CT;rcases Wak k n with hkn|hkn
   ·have iu:∃b0,σ.heap[k]?=some b0:=⟨σ.heap[k]'(by rw[hg.len];exact hkn),Waa _⟩
    obtain⟨b0,iu⟩:=iu;have g2:=hg.nw (b:=aB.eu m rest) iu (by
     obtain⟨g,c,e,h1,r⟩:=hB;exact⟨g,c,e,by rw[bE hkn];exact h1,r⟩) (fun g hc=>⟨_,CT,by
      simp only[af]at hc ⊢;rw[bE hkn]at hc;exact hc⟩)
    simp only[gp];rw[aZ];exact g2
   ·have hno:bw σ.heap k (aB.eu m rest)=σ.heap:=by
     rw[aZ];exact Wbr (by rw[hg.len];exact hkn)
    have:gp s0 σ (.H7 k) (m,rest)=σ:=by
     show ({σ with heap:=bw σ.heap k (aB.eu m rest)}:St)=σ
     rw[hno]
    have hres:Good C B Ψ β (β.take n) s (gp s0 σ (.H7 k) (m,rest)) n a As w:=by rw[this];exact hg
    exact hres
  |_=>rw[zL]at hx;cases hx
 |IB k=>
  simp only[tD]at hx;have hx:(match aH s.heap k with| .xb (.jP m)=>some m|_=>none)=some (x:List (Int×Int×List (List Int))):=hx
  split at hx
  ·rename_i m zL;have hx:m=x:=Option.some.inj hx;subst hx;have CT:=aC zL (by simp)
   have hB:=hi.blk k _ CT;rcases Wak k n with hkn|hkn
   ·have iu:∃b0,σ.heap[k]?=some b0:=⟨σ.heap[k]'(by rw[hg.len];exact hkn),Waa _⟩
    obtain⟨b0,iu⟩:=iu;have g2:=hg.nw (b:=aB.xb (.jP m)) iu (by
     obtain⟨v,h1,r⟩:=hB;exact⟨v,by rw[bE hkn];exact h1,r⟩) (fun g hc=>⟨_,CT,by
      obtain⟨v,h1,h2⟩:=hc;rw[bE hkn]at h1;exact⟨v,h1,h2⟩⟩)
    simp only[gp];rw[aZ];exact g2
   ·have hno:bw σ.heap k (aB.xb (.jP m))=σ.heap:=by
     rw[aZ];exact Wbr (by rw[hg.len];exact hkn)
    have:gp s0 σ (.IB k) m=σ:=by
     show ({σ with heap:=bw σ.heap k (aB.xb (.jP m))}:St)=σ
     rw[hno]
    have hres:Good C B Ψ β (β.take n) s (gp s0 σ (.IB k) m) n a As w:=by rw[this];exact hg
    exact hres
  ·cases hx
theorem CU{s s0:St}{n:Nat}(hi:aD C.P B w0 Ψ β s.heap w)(hf:aQ Ψ β (s.top::s.below) (a::As))(hn:n<=s.heap.length):∀(as:List LA) {σ:St} {x:dens (jD as)},lf s as=some x->
 (∀la∈as,qiX s0 s n la)->Good C B Ψ β (β.take n) s σ n a As w->Good C B Ψ β (β.take n) s (Qy s0 σ as x) n a As w
 |[],σ,x,_,_,hg=>hg
 |[la],σ,x,hx,hA,hg=>F2 la hi hf hn hx (hA la (by simp)) hg
 |la::lb::as,σ,x,hx,hA,hg=>by
  unfold lf at hx;split at hx
  ·rename_i y hy;split at hx
   ·rename_i z hz;have hx:(y,z)=x:=Option.some.inj hx;subst hx;exact CU hi hf hn (lb::as) hz (fun la' h'=>hA la' (by simp at h' ⊢;exact .inr h')) (F2 la hi hf hn hy (hA la (by simp)) hg)
   ·cases hx
  ·cases hx
end Go.AM
namespace Go.AM
open Go.RowKit
variable {B:Nat->Prop} {w0:World} {C:Ctx} {Ψ bL:Pr} {β:List Value} {h:List aB} {w w':World} {fr:List AV} {a a0:Act} {As:List Act} {W:List Nat}
theorem qeU{P:Program}{ax:Pr}(hb:Below w.heap.size w w')(hle:bW Ψ ax){k:Nat}{b:aB}(h:cn P B Ψ β w k b):cn P B ax β w' k b:=by
 cases b with
 |gone=>trivial
 |log ys Y own xs=>exact jQ h (fun _ h=>h) hle.m hb.size fun g ho=>hb.block g (h.2.2.1 g ho).2
 |kV ys Y own=>exact jR h (fun _ h=>h) hle.m hb.size fun g ho=>hb.block g (h.2.2.1 g ho).2
 |cells cs=>
  obtain⟨g,c,e,h1,h2,h3,h4,h5⟩:=h;exact⟨g,c,e,h1,(hb.block g (aY h2)).trans h2,h3,aX hle (fun _ _ h=>h) _ _ h4,h5⟩
 |grow tid e xs=>
  refine h.imp id ?_
  rintro⟨g,cap,cur,h1,h2,h3,h4,h5,h6,h7,h8⟩
  exact⟨g,cap,cur,h1,h2,h3,(hb.block g (aY h4)).trans h4,h5,h6,h7,eS (aR hle e) _ _ h8⟩
 |fH es=>
  obtain⟨g,ms,cl,h1,h2,h3,h4,h5,h6⟩:=h;exact⟨g,ms,cl,h1,(hb.block g (aY h2)).trans h2,h3,h4,aX hle (fun _ _ h=>h) _ _ h5,h6⟩
 |dmap e m=>
  obtain⟨g,ms,cl,h1,h2,h3,h4,h5⟩:=h;exact⟨g,ms,cl,h1,(hb.block g (aY h2)).trans h2,h3,jl hle h4,h5⟩
 |eo e last left=>
  obtain⟨g,gm,ms,cl,seen,h1,h2,h3,h4,h5,h6⟩:=h;exact⟨g,gm,ms,cl,seen,h1,(hb.block g (aY h2)).trans h2,h3,hle _ _ h4,jl hle h5,h6.1,h6.2.1,h6.2.2.imp id fun ⟨p,x,s',a1,a2,a3,a4,a5,a6⟩=>⟨p,x,s',a1,a2,a3,a4,a5,Nz hle a6⟩⟩
 |loop f p ph ts=>
  obtain⟨l,r,h1,h2,h3,h4,h5,h6,h7,h8⟩:=h;exact⟨l,r,h1,(hb.block l (aY h2)).trans h2,h3,h4,aX hle (fun _ _ h=>h) _ _ h5,hle _ _ h6,fun i v hv=>hle _ _ (h7 i v hv),h8⟩
 |dat t x=>
  obtain⟨g,c,e,h1,h2,h3,h4⟩:=h;exact⟨g,c,e,h1,(hb.block g (aY h2)).trans h2,h3,aR hle t x _ h4⟩
 |eu n rest=>
  obtain⟨g,s,pos,h1,h2,h3⟩:=h;exact⟨g,s,pos,h1,(hb.block g (aY h2)).trans h2,h3⟩
 |xb x=>
  obtain⟨v,h1,h2,h3⟩:=h;exact⟨v,h1,TL hle (D7 (fun g hg=>hb.block g (h3 g hg).2) h2),fun g hg=>⟨(h3 g hg).1,Wa6 (h3 g hg).2 hb.size⟩⟩
theorem aD.qhh{ax:Pr}(hi:aD C.P B w0 Ψ β h w)(hb:Below w.heap.size w w')(hle:bW Ψ ax)(hnew:∀a v,ax a=some v->Ψ a=some v\/(w.heap.size<=a.block/\Pm w' a v)):aD C.P B w0 ax β h w' where
 low:=hi.low.trans (D3 hb hi.size)
 size:=fun k hk=>Wa6 (hi.size k hk) hb.size
 prom:=fun a v hv=>by
  rcases hnew a v hv with h'|⟨_,h1⟩
  ·have h1:=hi.prom a v h';exact mR (hb.block a.block (qm h1)) h1
  ·exact h1
 own:=fun a v hv hsp=>by
  rcases hnew a v hv with h'|⟨h1,h2⟩
  ·exact hi.own a v h' hsp
  ·exact QD hi.size h1
 len:=hi.len
 one:=hi.one
 blk:=fun k b hk=>qeU hb hle (hi.blk k b hk)
 free:=fun k b g hk hc a ha hsp=>by
  cases hp:ax a with
  |none=>rfl
  |some v=>
   rcases hnew a v hp with h'|⟨h1,_⟩
   ·rw[hi.free k b g hk hc a ha hsp]at h';cases h'
   ·have:=(ct (hi.blk k b hk) hc).2
    omega
 sep:=hi.sep
 gQ:=hi.gQ.le hle
theorem aD.qms{b:aB}{u:Value}(hi:aD C.P B w0 Ψ β h w)(hone:u.oneCell'=true)(hnew:cn C.P B Ψ (β++[u]) w h.length b)
 (hfree:∀g,af (β++[u]) h.length g b->∀a,a.block=g->pl a->Ψ a=none) (hsep:∀g,af (β++[u]) h.length g b->∀j bj,h[j]?=some bj->af β j g bj->False):
 aD C.P B w0 Ψ (β++[u]) (h++[b]) w:=by
 have lt:∀{k:Nat} {b:aB},h[k]?=some b->k<β.length:=fun {k b} hk=>by rw[hi.len];exact eW hk
 refine⟨hi.low,hi.size,hi.prom,hi.own,by simp[hi.len],?_,?_,?_,?_,hi.gQ⟩
 ·intro k v hk;rcases bg hk with h1|⟨_,rfl⟩
  ·exact hi.one k v h1
  ·exact hone
 ·intro k b' hk;rcases bg hk with h1|⟨rfl,rfl⟩
  ·exact vF u (hi.blk k b' h1)
  ·exact hnew
 ·intro k b' g hk hc ad had hsp;rcases bg hk with h1|⟨rfl,rfl⟩
  ·exact hi.free k b' g h1 (bO (lt h1) hc) ad had hsp
  ·exact hfree g hc ad had hsp
 ·intro j k bj bk g cY hj hk n6 hck;rcases bg hj with h1|⟨e1,rfl⟩<;>rcases bg hk with h2|⟨e2,rfl⟩
  ·exact hi.sep j k bj bk g cY h1 h2 (bO (lt h1) n6) (bO (lt h2) hck)
  ·subst e2;exact hsep g hck j bj h1 (bO (lt h1) n6)
  ·subst e1;exact hsep g n6 k bk h2 (bO (lt h2) hck)
  ·omega
def mu(Ψ:Pr)(l:Nat)(tmps:Array Value):Pr:=fun a=>if a.block=l then (if a=ur l then some undef else if a.spot=some 2 then tmps[a.off]? else none) else Ψ a
def sM(Ψ:Pr)(D:Nat):Pr:=fun a=>if a=qX D then some undef else Ψ a
theorem zO(hi:aD C.P B w0 Ψ β h w){a:Addr}{v:Value}(hv:Ψ a=some v):a.block<w.heap.size:=qm (hi.prom a v hv)
theorem nA(w:World)(o:Obj):(w.alloc o).heap[w.heap.size]?=some o:=World.alloc_heap_new w o
theorem Rl(hi:aD C.P B w0 Ψ β h w):Ext B Ψ (sM Ψ w.heap.size)/\sM Ψ w.heap.size (qX w.heap.size)=some undef/\aD C.P B w0 (sM Ψ w.heap.size) β h (w.alloc (.deferred (some []))):=by
 have hle:bW Ψ (sM Ψ w.heap.size):=fun ad v hv=>by
  unfold sM;rw[if_neg]
  ·exact hv
  ·rintro rfl
   have:=zO hi hv
   simp[qX]at this
 refine⟨⟨hle,fun ad v hv=>?_⟩,by simp[sM],hi.qhh ((Below.refl _ w).alloc (Wan _) _) hle fun ad v hv=>?_⟩
 ·unfold sM at hv;split at hv
  ·rename_i e;subst e;exact .inr (gW hi.size)
  ·exact .inl hv
 ·unfold sM at hv;split at hv
  ·rename_i e;subst e;exact .inr ⟨Wan _,rfl,nA w _⟩
  ·exact .inl hv
theorem F4{f:FuncId}{p:List Nat}{ts:List AV}{r:Loop}{g:Operand}(hi:aD C.P B w0 Ψ β h w)(hl:aL Ψ β ts r.tmps.toList)(hph:r.state= .ready/\r.pending=none)(Ov:iZ C.P f p=some (.rangeFunc g r.params r.assign r.body)):
 Ext B Ψ (mu Ψ w.heap.size r.tmps)/\mu Ψ w.heap.size r.tmps (ur w.heap.size)=some undef/\
  aD C.P B w0 (mu Ψ w.heap.size r.tmps) (β++[cm w.heap.size]) (h++[.loop f p .ready ts]) (w.alloc (.loop r)):=by
 have hle:bW Ψ (mu Ψ w.heap.size r.tmps):=fun ad v hv=>by
  unfold mu;rw[if_neg]
  ·exact hv
  ·intro e;have:=zO hi hv
   omega
 have hla:mu Ψ w.heap.size r.tmps (ur w.heap.size)=some undef:=by simp[mu,ur]
 have hi1:aD C.P B w0 (mu Ψ w.heap.size r.tmps) β h (w.alloc (.loop r)):=hi.qhh ((Below.refl _ w).alloc (Wan _) _) hle fun ad v hv=>by
  unfold mu at hv;split at hv
  ·rename_i e;refine .inr ⟨by omega,?_⟩
   have hh:(w.alloc (.loop r)).heap[ad.block]?=some (.loop r):=by rw[e];exact nA w _
   split at hv
   ·rename_i e2;subst e2;exact⟨r,hh⟩
   ·split at hv
    ·rename_i e2;unfold Pm;rw[e2];exact⟨r,hh,hv⟩
    ·cases hv
  ·exact .inl hv
 refine⟨⟨hle,fun ad v hv=>?_⟩,hla,?_⟩
 ·unfold mu at hv;split at hv
  ·rename_i e;exact .inr (by rw[e];exact gW hi.size)
  ·exact .inl hv
 have hn:(β++[cm w.heap.size])[h.length]?=some (cm w.heap.size):=by rw[<-hi.len];simp
 refine hi1.qms rfl ⟨w.heap.size,r,hn,nA w _,gW hi.size,hph,aX hle (aS _) _ _ hl,hla,fun i v hv=>?_,g,Ov⟩ (fun g' hc ad had hsp=>?_) (fun g' hc j bj hj n6=>?_)
 ·have:IU w.heap.size i≠ur w.heap.size:=by simp[IU,ur]
  simp[mu,this]
  simp[IU]
  exact hv
 ·simp only[af]at hc;rw[hn]at hc;simp only[cm,Option.some.injEq,Value.func.injEq,Fn.yield.injEq,and_true]at hc;subst hc;unfold mu;rw[if_pos had,if_neg,if_neg]
  ·rcases hsp with hsp|hsp|hsp<;>rw[hsp]<;>simp
  ·rintro rfl;rcases hsp with hsp|hsp|hsp<;>simp[ur]at hsp
 ·simp only[af]at hc;rw[hn]at hc;simp only[cm,Option.some.injEq,Value.func.injEq,Fn.yield.injEq,and_true]at hc;subst hc;have:=(ct (hi.blk j bj hj) n6).2
  omega
theorem zH:∀{h:List aB} {j:Nat} {b:aB},h[j]?=some b->aH h j=b
 |[],_,_,hb=>by simp at hb
 |b0::h,0,_,hb=>by simpa [aH]using hb
 |b0::h,j+1,_,hb=>by simpa [aH]using zH (h:=h) (j:=j) (by simpa using hb)
theorem aD.iI{k l:Nat}{f:FuncId}{p:List Nat}{ph Zw:Ph}{ts:List AV}{r r':Loop}(hi:aD C.P B w0 Ψ β h w)(hk:h[k]?=some (.loop f p ph ts))(bV:β[k]?=some (cm l))(hh:w.heap[l]?=some (.loop r))
 (h1:r'.tmps=r.tmps) (h2:r'.params=r.params) (h3:r'.assign=r.assign) (h4:r'.body=r.body) (hph:qlt Zw r'):aD C.P B w0 Ψ β (iI h k Zw) (w.putObj l (.loop r')):=by
 have e:Go.AM.iI h k Zw=h.set k (.loop f p Zw ts):=by
  unfold Go.AM.iI;rw[zH hk];exact aZ _ _ _
 rw[e];have hlt:=aY hh;refine hi.NR (g:=l) hk bV ⟨rfl,rfl,rfl,by simp,fun i _ hne=>World.putObj_heap_other (fun e=>hne (by rw[e]))⟩ (fun ad v hv hb=>?_) (fun _ hc=>hc) ?_
 ·have hp:=hi.prom ad v hv;have hn:ad.spot≠none:=fun hs=>by rw[hi.free k _ l hk bV ad hb (.inl hs)]at hv;cases hv
  have hnew:(w.putObj l (.loop r')).heap[ad.block]?=some (.loop r'):=by rw[hb];exact World.putObj_heap_same hlt
  have hold:w.heap[ad.block]?=some (.loop r):=by rw[hb];exact hh
  unfold Pm at hp ⊢;split
  ·rename_i h0;exact absurd h0 hn
  ·rename_i h0;rw[h0]at hp;simp only at hp;rw[hold]at hp;cases hp.2
  ·exact⟨r',hnew⟩
  ·rename_i h0;rw[h0]at hp;obtain⟨r1,g1,g2⟩:=hp;rw[hold]at g1;simp only[Option.some.injEq,Obj.loop.injEq]at g1;subst g1;exact⟨r',hnew,by rw[h1];exact g2⟩
  ·rename_i h0;rw[h0]at hp;obtain⟨ms,cl,g1,_⟩:=hp;rw[hold]at g1;cases g1
  ·rename_i q1 q2 q3 q4 q5;rcases hsx:ad.spot with _|n
   ·exact hn hsx
   ·rw[hsx]at hp;match n,hp,hsx with
    |0,_,hsx=>exact q2 hsx
    |1,_,hsx=>exact q3 hsx
    |2,_,hsx=>exact q4 hsx
    |3,_,hsx=>exact q5 hsx
    |n+4,hp,_=>exact hp
 ·obtain⟨l1,r1,g1,g2,g3,g4,g5,g6,g7,g8⟩:=hi.blk k _ hk;rw[bV]at g1;simp only[cm,Option.some.injEq,Value.func.injEq,Fn.yield.injEq,and_true]at g1;subst g1;rw[hh]at g2;simp only[Option.some.injEq,Obj.loop.injEq]at g2;subst g2;exact⟨l,r',bV,World.putObj_heap_same hlt,g3,hph,by rw[h1];exact g5,g6,fun i v hv=>g7 i v (by rw[<-h1];exact hv),by rw[h2,h3,h4];exact g8⟩
theorem CV{j l:Nat}{s s1:St}{x:Act}{As:List Act}(hn:named j s=some s1)(hf:aQ Ψ β (s.top::s.below) (x::As))(hx:x.tmps= #[cm l]):β[j]?=some (cm l)/\s1.heap=s.heap/\aQ Ψ β (s1.top::s1.below) As:=by
 unfold named at hn;split at hn
 ·rename_i i hi;split at hn
  ·rename_i hij;simp only[Wag]at hij;subst hij;unfold r7 at hn;split at hn
   ·rename_i f fs hb;simp only[Option.some.injEq]at hn;subst hn;obtain⟨a1,as',e,⟨_,hl⟩,h3⟩:=hf;simp only[List.cons.injEq]at e;obtain⟨rfl,rfl⟩:=e;rw[hi,hx]at hl;obtain⟨v,vs,e,⟨l',hv,rfl⟩,_⟩:=hl;simp only[List.cons.injEq]at e;obtain⟨e,_⟩:=e;simp only[cm,Value.func.injEq,Fn.yield.injEq,and_true]at e;subst e;rw[hb]at h3;exact⟨hv,rfl,h3⟩
   ·cases hn
  ·cases hn
 ·cases hn
theorem Lp{j l:Nat}{s:St}{x y:Act}{As:List Act}(hn:Qz j s=true)(hf:aQ Ψ β (s.top::s.below) (y::x::As))(hx:x.tmps= #[cm l]):β[j]?=some (cm l):=by
 unfold Qz at hn;split at hn
 ·rename_i i fs hb;simp only[Wag]at hn;subst hn;rw[hb]at hf;obtain⟨a1,as',e,_,a2,qpD,e2,⟨_,hl⟩,_⟩:=hf;simp only[List.cons.injEq]at e;obtain⟨rfl,rfl⟩:=e;simp only[List.cons.injEq]at e2;obtain⟨rfl,rfl⟩:=e2;rw[hx]at hl;obtain⟨v,vs,e,⟨l',hv,rfl⟩,_⟩:=hl;simp only[List.cons.injEq]at e;obtain⟨e,_⟩:=e;simp only[cm,Value.func.injEq,Fn.yield.injEq,and_true]at e;subst e;exact hv
 ·cases hn
theorem Lq{s s1:St}{x:Act}{As:List Act}(hn:r7 s=some s1)(hf:aQ Ψ β (s.top::s.below) (x::As)):s1.heap=s.heap/\aQ Ψ β (s1.top::s1.below) As:=by
 unfold r7 at hn;split at hn
 ·rename_i f fs hb;simp only[Option.some.injEq]at hn;subst hn;obtain⟨a1,as',e,_,h3⟩:=hf;simp only[List.cons.injEq]at e;obtain⟨rfl,rfl⟩:=e;rw[hb]at h3;exact⟨rfl,h3⟩
 ·cases hn
def vP(l:Nat):Act:={tmps:=#[cm l],defers:=[]}
theorem Rm{j l:Nat}(bV:β[j]?=some (cm l)):wS Ψ β [.qd j] (vP l):=⟨⟨[],[],rfl,by simp,Wby,by simp⟩,_,[],rfl,⟨l,bV,rfl⟩,rfl⟩
theorem kP{P:Program}{b:Frame}{k:List Item}{cs:List Frame}{c:Code}:step P (lone (b.atR a (.code (.scope c)::k)) cs w)= .next (lone (b.atR a (.code c:: .inScope c::k)) cs w):=
 step_lone_go (by simp[stepG,stepG.exec,Frame.atR])
theorem Io{P:Program}{b:Frame}{k:List Item}{cs:List Frame}{c:Code}:step P (lone (b.atR a (.inScope c::k)) cs w)= .next (lone (b.atR a k) cs w):=
 step_lone_go (by simp[stepG,stepG.exec,Frame.atR])
theorem wI{F:Fence}{n:Nat}{P:Program}{Q:Exit->Act->World->Prop}{c:Code}(h:c.wpIn F n P (Exit.noGoto Q) a w):(Code.scope c).wpIn F n P Q a w:=by
 intro b k cs hro hb hr;have h0:(lone (b.atR a (.code (.scope c)::k)) cs w).fenced P F:=fenced_calm hb hr rfl;obtain⟨e,a₁,w₁,hq,mU⟩:=h b (.inScope c::k) cs hro hb hr;cases e with
 |normal=>exact⟨.normal,a₁,w₁,hq,.head h0 kP (StepsIn.trans mU (.one (fenced_calm hb hr rfl) Io))⟩
 |exit id=>
  have hx:exitTo id (.inScope c::k)=exitTo id k:=by simp[exitTo]
  exact⟨.exit id,a₁,w₁,hq,fun k' hk=>.head h0 kP (mU.1 k' (by rw[hx];exact hk)),
   fun hr' hk=>let ⟨k₁,h1,h2⟩:=mU.2 hr' (by rw[hx];exact hk);⟨k₁,h1,.head h0 kP h2⟩⟩
 |goto l=>exact hq.elim
 |ret=>exact⟨_,a₁,w₁,hq,.of_steps (.one h0 kP) mU⟩
 |panic ch=>exact⟨_,a₁,w₁,hq,.of_steps (.one h0 kP) mU⟩
 |outgrown=>exact⟨_,a₁,w₁,hq,.of_steps (.one h0 kP) mU⟩
end Go.AM
namespace Go.AM
open Go.RowKit
variable {B:Nat->Prop} {w0:World} {C:Ctx} {Ψ bL:Pr} {β:List Value} {h:List aB} {w w':World} {fr:List AV} {a a0:Act} {As:List Act} {W:List Nat}
structure pn (C:Ctx) (B:Nat->Prop) (s0:St) (ws:List Nat) (as:List LA) (Ψ:Pr) (β:List Value) (a:Act) (As:List Act):Prop where
 len:β.length=s0.heap.length
 fr:aQ Ψ β (forget (wE s0 as) ws 0 s0.top::ug (wE s0 as) s0.below) (a::As)
 blk:∃wh,∀k b,(tF s0 ws as).heap[k]?=some b->cn C.P B Ψ β wh k b
theorem CW{s0 s:St}(DK:∀i j,bX s0.top i= .sl j->j<s0.heap.length)(hsc:∀k cs i j,aH s0.heap k= .cells cs->bX cs i= .sl j->j<s0.heap.length):∀{as:List LA},KP s0 s as=true->∀la∈as,qiX s0 s s0.heap.length la
 |[],_,la,hm=>by simp at hm
 |la0::as,h,la,hm=>by
  unfold KP at h;simp only[Wac]at h;rcases List.mem_cons.1 hm with rfl|hm
  ·have h1:=h.1;cases la with
   |slot _ _=>trivial
   |cell _ _ _=>trivial
   |keep _ _ _=>trivial
   |kmp _ _=>trivial
   |kit _ _=>trivial
   |aT _ _=>trivial
   |H7 _=>trivial
   |IB _=>trivial
   |dF i tid e=>
    simp only at h1
    split at h1
    ·rename_i j k hj hk;simp only[Wag]at h1;subst h1;refine .inr ⟨j,hj,hk,?_⟩
     simp only[qI]at hj;split at hj
     ·rename_i k' hk';simp at hj
      subst hj;exact DK i _ hk'
     ·cases hj
    ·rename_i hj;exact .inl hj
    ·cases h1
   |nN i tid e=>
    simp only at h1
    split at h1
    ·rename_i j k hj hk;simp only[Wag]at h1;subst h1;refine .inr ⟨j,hj,hk,?_⟩
     simp only[qI]at hj;split at hj
     ·rename_i k' hk';simp at hj
      subst hj;exact DK i _ hk'
     ·cases hj
    ·rename_i hj;exact .inl hj
    ·cases h1
   |kY k off tid e=>
    simp only at h1
    split at h1
    ·rename_i j k2 hj hk;simp only[Wag]at h1;subst h1;refine .inr ⟨j,hj,hk,?_⟩
     simp only[qI]at hj;split at hj
     ·rename_i cs hcs;split at hj
      ·rename_i k' hk';simp at hj
       subst hj;exact hsc k cs off _ hcs hk'
      ·cases hj
     ·cases hj
    ·rename_i hj;exact .inl hj
    ·cases h1
  ·exact CW DK hsc h.2 la hm
theorem gF{f:List AV}{fs:List (List AV)}(h1:wS Ψ β f a)(h2:aQ Ψ β fs As):aQ Ψ β (f::fs) (a::As):=⟨a,As,rfl,h1,h2⟩
theorem pq{fs:List (List AV)}(hf:aQ Ψ β (fr::fs) (a::As)):aQ Ψ β fs As:=by
 obtain⟨a1,as',e,h1,h3⟩:=hf;simp only[List.cons.injEq]at e;obtain⟨rfl,rfl⟩:=e;exact h3
theorem V5{ks:List Nat}{fs:List (List AV)}{i:Nat}{b0:aB}{f:FuncId}{p:List Nat}{ph:Ph}{ts:List AV}(h:Ln ks fs i b0= .loop f p ph ts):rY i fs=true:=by
 cases b0 with
 |loop f' p' Zw ts'=>
  unfold Ln at h;simp only at h
  split at h
  ·assumption
  ·cases h
 |fH es=>
  unfold Ln at h;simp only at h
  split at h<;>cases h
 |_=>simp[Ln]at h
theorem Js{s0 s:St}{ws:List Nat}{as:List LA}{V6:Pr}{βh:List Value}{ah:Act}{x:dens (jD as)}{Bh:Nat->Prop}(hh:pn C Bh s0 ws as V6 βh ah As)(DK:∀i j,bX s0.top i= .sl j->j<s0.heap.length)(hsc:∀k cs i j,aH s0.heap k= .cells cs->bX cs i= .sl j->j<s0.heap.length)(hle:bW V6 Ψ)
 (hi:aD C.P B w0 Ψ β s.heap w) (hf:aQ Ψ β (s.top::s.below) (a::As)) (hS:a.tmps.size=ah.tmps.size/\∀i,i∉ws->a.tmps[i]?=ah.tmps[i]?) (hfit:fits as ws s0 s=true) (hP:lY (tF s0 ws as).heap s.heap True) (hx:lf s as=some x):
 s0.heap.length<=β.length/\Good C B Ψ β (β.take s0.heap.length) s (oR s0 ws as x) s0.heap.length a As w/\pn C B s0 ws as Ψ (β.take s0.heap.length) a As:=by
 unfold fits at hfit;simp only[Wac]at hfit;obtain⟨⟨⟨hT,hF⟩,hA⟩,hB⟩:=hfit;have qhi:(tF s0 ws as).heap.length=s0.heap.length:=FY;have hn:s0.heap.length<=s.heap.length:=by rw[<-qhi];exact F1 hB
 have hn':s0.heap.length<=β.length:=by rw[hi.len];exact hn
 have hbb:∀(k:Nat) (v u:Value),βh[k]?=some u->β[k]?=some v->(β.take s0.heap.length)[k]?=some v:=by
  intro k v u hu hv;have hk:k<s0.heap.length:=by
   rw[<-hh.len];rcases Wak k βh.length with h'|h'
   ·exact h'
   ·rw[Wai h']at hu;cases hu
  rw[bE hk];exact hv
 have qJ:∀(j:Nat) (v:Value),(β.take s0.heap.length)[j]?=some v->β[j]?=some v:=by
  intro k v hk;rw[Was]at hk;split at hk
  ·exact hk
  ·cases hk
 have qiu:=bf (s:={top:=forget (wE s0 as) ws 0 s0.top,below:=ug (wE s0 as) s0.below,heap:=[]}) hh.fr;have qmt:=bf hf;have hF2:aQ Ψ (β.take s0.heap.length) (forget (wE s0 as) ws 0 s0.top::ug (wE s0 as) s0.below) (a::As):=by
  refine gF ⟨qmt.1,?_⟩ (FT hle hbb _ _ _ (pq hh.fr) (pq hf) hF)
  refine FU (Ψ:=V6) (β:=βh) hle hbb s0.top s.top 0 _ _ qiu.2 qmt.2 (by simpa using hS.1.symm) (fun j hj hm=>?_) hT
  have:=hS.2 j (by simpa using hm)
  simpa using this.symm
 have hG:Good C B Ψ β (β.take s0.heap.length) s (tF s0 ws as) s0.heap.length a As w:=by
  refine⟨qhi,hF2,fun k b hb=>?_⟩
  obtain⟨wh,hwh⟩:=hh.blk;obtain⟨c,hc,hsame⟩:=F0 hB hb;have hy:∀f p ph ts,b= .loop f p ph ts->∃n,βh[k]?=some (cm n)/\(β.take s0.heap.length)[k]?=some (cm n):=by
   intro f p ph ts e;obtain⟨b0,h1,h2⟩:=pg (ks:=wE s0 as) hb;rw[WaO]at h2;rw[h2]at e;exact V3 (V5 e) hh.fr hF2 (fun t ht=>hS.2 t ht)
  obtain⟨g1,g2⟩:=V4 hle hbb qJ hy (hwh k b hb) (hi.blk k c hc) hsame (FV hP hb hc);exact⟨g1,fun g hcl=>⟨c,hc,g2 g hcl⟩⟩
 have Ef:=CU hi hf hn as hx (CW DK hsc hA) hG;exact⟨hn',Ef,⟨by simp;omega,hF2,w,fun k b hb=>(hG.blk k b hb).1⟩⟩
theorem lA{n k:Nat}{v:Value}(hk:(β.take n)[k]?=some v):β[k]?=some v:=by
 rw[Was]at hk;split at hk
 ·exact hk
 ·cases hk
theorem x8{s0 s:St}{ws:List Nat}{as:List LA}{V6:Pr}{βh:List Value}{ah:Act}{x:dens (jD as)}{Bh:Nat->Prop}(hh:pn C Bh s0 ws as V6 βh ah As)(DK:∀i j,bX s0.top i= .sl j->j<s0.heap.length)(hsc:∀k cs i j,aH s0.heap k= .cells cs->bX cs i= .sl j->j<s0.heap.length)(hle:bW V6 Ψ)
 (hi:aD C.P B w0 Ψ β s.heap w) (hf:aQ Ψ β (s.top::s.below) (a::As)) (hS:a.tmps.size=ah.tmps.size/\∀i,i∉ws->a.tmps[i]?=ah.tmps[i]?) (hfit:fits as ws s0 s=true) (hP:lY (tF s0 ws as).heap s.heap True) (hx:lf s as=some x):
 ∃β',aD C.P B w0 Ψ β' (oR s0 ws as x).heap w/\aQ Ψ β' ((oR s0 ws as x).top::(oR s0 ws as x).below) (a::As)/\pn C B s0 ws as Ψ β' a As:=by
 obtain⟨hn',Ef,hH⟩:=Js hh DK hsc hle hi hf hS hfit hP hx;refine⟨β.take s0.heap.length,?_,Ef.fr,hH⟩
 refine hi.weaken ?_ (fun j v=>lA) ?_
 ·rw[Ef.len];simp
  omega
 ·exact Ef.blk
def QOf(C:Ctx)(B:Nat->Prop)(w0:World)(bL:Pr)(As:List Act)(W:List Nat)(a0:Act)(k:Ex->St->Prop):Exit->Act->World->Prop
 | .normal,a,w=>jc C B w0 bL As W a0 (k .normal) a w
 | .exit i,a,w=>jc C B w0 bL As W a0 (k (.exit i)) a w
 | .ret,a,w=>jc C B w0 bL As W a0 (k .ret) a w
 | .panic ch,a,w=>uB C B w0 bL ch w/\qK W a0 a
 |_,_,_=>False
theorem CX:∀{l:List Oper} {o:Oper} {t:Tmp},o∈l->o.dst=some t->t∈zi l
 |[],_,_,h,_=>by simp at h
 |o'::l,o,t,h,ht=>by
  unfold zi;rcases List.mem_cons.1 h with rfl|h
  ·rw[ht];simp
  ·have:=CX h ht
   split
   ·exact Wal _ this
   ·exact this
theorem qaM{t:Tmp}{b:Bool}(h:a.eval (.tmp t)= .bool b):a.tmps[t]?=some (.bool b):=by
 have h:a.tmps.getD t undef= .bool b:=h;rw[Wah]at h;cases hx:a.tmps[t]? with
 |none=>rw[hx]at h;simp[undef]at h
 |some x=>rw[hx]at h;simp at h;rw[h]
theorem F5{s:St}{c:Operand}{b:Bool}(hf:aQ Ψ β (s.top::s.below) (a::As))(hc:a.eval c= .bool b){av:AV}(hv:aE Ψ β av (.bool b)):
 aQ Ψ β ((EV c av s).top::(EV c av s).below) (a::As)/\(EV c av s).heap=s.heap:=by
 cases c with
 |tmp t=>exact⟨dy hf (qaM hc) hv,rfl⟩
 |const v=>exact⟨hf,rfl⟩
 |global g=>exact⟨hf,rfl⟩
 |func f=>exact⟨hf,rfl⟩
def qaN:Ex->Exit
 | .normal=>.normal
 | .exit i=>.exit i
 | .ret=>.ret
theorem V7{F:Fence}{n:Nat}{P:Program}{Q:Exit->Act->World->Prop}{e:Ex}{c:Code}(hc:uu e=some c)(hk:Q (qaN e) a w):c.wpIn F n P Q a w:=by
 cases e with
 |normal=>cases hc
 |exit i=>simp only[uu,Option.some.injEq]at hc;subst hc;exact wpIn_exit hk
 |ret=>simp only[uu,Option.some.injEq]at hc;subst hc;exact wpIn_ret hk
theorem qiZ{e:Ex}{k:Ex->St->Prop}(h:jc C B w0 bL As W a0 (k e) a w):QOf C B w0 bL As W a0 k (qaN e) a w:=by
 cases e<;>exact h
theorem Jt{ro:Option Nat}{l:Nat}{k:Ex->St->Prop}{s':St}{ax:Pr}{β':List Value}{w3:World}{j:Nat}{v:Value}
 (hk:match named j s' with
   |none=>False
   |some s1=>match aH s1.heap j with
    | .loop _ _ .ready _=>k .normal {s1 with heap:=iI s1.heap j .exhausted}
    | .loop _ _ (.done e) _=>k e {s1 with heap:=iI s1.heap j .exhausted}
    |_=>False)
 (hE:Ext B bL ax) (hi:aD C.P B w0 ax β' s'.heap w3) (hf:aQ ax β' (s'.top::s'.below) (vP l::a::As)) (hS:fI bL W a0 a):
 rangePost (Fw ro) 0 C.P l (QOf C B w0 bL As W a0 k) a (.returned v) w3:=by
 split at hk
 ·exact hk.elim
 ·rename_i s1 hn;obtain⟨bV,T9,o8⟩:=CV hn hf rfl;rw[<-T9]at hi;split at hk
  ·rename_i f p ts hg;have hkk:=aC hg (by simp)
   obtain⟨l1,r,g1,g2,g3,g4,g5,g6⟩:=hi.blk _ _ hkk;rw[bV]at g1;simp only[cm,Option.some.injEq,Value.func.injEq,Fn.yield.injEq,and_true]at g1;subst g1;have hi2:=hi.iI (Zw:=.exhausted) (r':={r with state:=.exhausted}) hkk bV g2 rfl rfl rfl rfl rfl;refine⟨r.pending,_,run_endLoop g2 (by rw[g4.1];simp),?_⟩
   rw[g4.2];exact⟨ax,β',{s1 with heap:=iI s1.heap j .exhausted},hE,(by rw[<-g4.2];exact hi2),o8,hS,hk⟩
  ·rename_i f p e ts hg;have hkk:=aC hg (by simp)
   obtain⟨l1,r,g1,g2,g3,g4,g5,g6⟩:=hi.blk _ _ hkk;rw[bV]at g1;simp only[cm,Option.some.injEq,Value.func.injEq,Fn.yield.injEq,and_true]at g1;subst g1;have hi2:=hi.iI (Zw:=.exhausted) (r':={r with state:=.exhausted}) hkk bV g2 rfl rfl rfl rfl rfl;have hpost:jc C B w0 bL As W a0 (k e) a (w3.putObj l (.loop {r with state:=.exhausted})):=⟨ax,β',{s1 with heap:=iI s1.heap j .exhausted},hE,hi2,o8,hS,hk⟩;refine⟨r.pending,_,run_endLoop g2 (by rw[g4.1];simp),?_⟩
   generalize w3.putObj l (.loop {r with state:=.exhausted})=w4 at hpost ⊢
   rw[g4.2];cases hc:uu e with
   |none=>
    have he:e= .normal:=by cases e<;>simp[uu]at hc ⊢
    subst he;exact hpost
   |some c=>exact V7 hc (qiZ hpost)
  ·exact hk.elim
theorem wJ{P:Program}{l:Nat}{r:Loop}(h:w.heap[l]?=some (.loop r))(fn:FuncId)(tmps:Array Value)(ps:Array Tmp)(assign body:Code):
 (Instr.enterLoop fn tmps ps assign body (some l)).run P w= .ok (w.heap.size,[]) (w.alloc (.loop {state:=.ready,pending:=none,fn,tmps,params:=ps,assign,body,defers:=r.defers})):=by
 unfold Instr.enterLoop;simp only[Sem.run_bind,run_getLoop h,run_newObj_alloc,Result.andThen,Sem.run_pure]
theorem w9{g:Operand}{l:Nat}{f:FuncId}{vs:List Value}(hf:a.eval g= .func (.func f) #[] vs.toArray)(hg:jh C f=true):
 ∃d:Deferred,(resolve a.eval (rangeCall g l) 0).run C.P w= .ok d w/\(invoke d.target d.args).run C.P w= .ok (.enter f (cm l::vs).toArray) w:=by
 refine⟨{target:=.fn (.func f) vs.toArray,args:=#[]++ #[cm l]},?_,?_⟩
 ·simp only[resolve,hf,Deferred.ofValue];simp[Act.eval,cm]
 ·have:=uC hg ((cm l::vs).toArray) w
  have e:#[]++ #[cm l]++vs.toArray=(cm l::vs).toArray:=by
   apply Wb4
   simp
  simp only[invoke];rw[e];exact this
theorem CY(fid:FuncId)(id:Nat){s:St}(hi:aD C.P B w0 Ψ β s.heap w)(hf:aQ Ψ β (s.top::s.below) As):
 ∃ax,Ext B Ψ ax/\aD C.P B w0 ax β (C.ahead fid id s).heap w/\aQ ax β ((C.ahead fid id s).top::(C.ahead fid id s).below) As:=by
 unfold Ctx.ahead;cases Nat.beq ((C.hint fid).CB id) 500 with
 |true=>
  obtain⟨ax,h1,h2,h3,_⟩:=dG (cS s.top) hi hf;exact⟨ax,h1,h2,h3⟩
 |false=>
  cases Nat.beq ((C.hint fid).CB id) 501 with
  |true=>
   obtain⟨ax,h1,h2,h3,_⟩:=dG (TH s.heap) hi hf;exact⟨ax,h1,h2,h3⟩
  |false=>exact⟨Ψ,Ext.refl _ _,hi,hf⟩
theorem Ju:∀(fr:List AV) (i:Nat),eN fr i (bX fr i)=fr
 |[],i=>by cases i<;>rfl
 |a::fr,0=>rfl
 |a::fr,i+1=>by
  show a::eN fr i (bX fr i)=a::fr
  rw[Ju fr i]
theorem CZ{x:Int}{i:Nat}{s:St}{k:St->Prop}(hx:bX s.top i= .d (.int .i64) x)(h0:0<=x):∀n:Nat,x<n->Zx x i s k n->k s
 |0,h,_=>by omega
 |n+1,h,hk=>by
  by_cases e:x=n
  ·have h1:=hk.1 e;rw[<-e,<-hx,Ju]at h1;exact h1
  ·exact CZ hx h0 n (by omega) hk.2
theorem Ow{m i:Nat}{s:St}{k:St->Prop}(hk:Zy m i s k):k s:=by
 unfold Zy at hk;split at hk
 ·rename_i x hx;exact CZ hx hk.1.1 m hk.1.2 hk.2
 ·exact hk.elim
theorem Jv:∀(h:List aB) (i:Nat),bw h i (aH h i)=h
 |[],i=>by cases i<;>rfl
 |a::h,0=>rfl
 |a::h,i+1=>by
  show a::bw h i (aH h i)=a::h
  rw[Jv h i]
theorem zP{t:Ty}{y:Int}{z:t.den}{b:Nat}{s:St}{k:St->Prop}(hx:aH s.heap b= .dat (.pair (.int .i64) t) (y,z))(h0:0<=y):∀n:Nat,y<(n:Int)->QA t (y,z) b s k n->k s
 |0,h,_=>by omega
 |n+1,h,hk=>by
  by_cases e:y=(n:Int)
  ·have h1:k {s with heap:=bw s.heap b (.dat (.pair (.int .i64) t) ((n:Int),z))}:=hk.1 e;rw[<-e,<-hx,Jv]at h1;exact h1
  ·exact zP hx h0 n (by omega) hk.2
theorem Ox{m b:Nat}{s:St}{k:St->Prop}(hk:Zz m b s k):k s:=by
 unfold Zz at hk;split at hk
 ·rename_i t x hx;obtain⟨y,z⟩:=x;exact zP hx hk.1.1 m hk.1.2 hk.2
 ·exact hk.elim
theorem F6{f:FuncId}{id:Nat}{s:St}{k:St->Prop}(hk:C.fork f id s k):k s:=by
 unfold Ctx.fork at hk;split at hk
 ·exact Ox hk
 split at hk
 ·exact Ow hk
 ·exact hk
theorem fK(hsp:au C){call:gk}(hc:fc C call)(fid:FuncId){ro:Option Nat}:∀(c:Code) {p:List Nat} {k:Ex->St->Prop} {s:St} {bL Ψ:Pr} {β:List Value} {a0 a:Act} {w:World} {W:List Nat},iZ C.P fid p=some c->xF C call fid p c k s->(∀l,ro=some l->bL (ur l)=some undef)->
 Ext B bL Ψ->aD C.P B w0 Ψ β s.heap w->aQ Ψ β (s.top::s.below) (a::As)->fI bL W a0 a->(∀t∈kr c,t∈W)->c.wpIn (Fw ro) 0 C.P (QOf C B w0 bL As W a0 k) a w
 | .skip,p,k,s,bL,Ψ,β,a0,a,w,W,hp,hk,hro,hE,hi,hf,hS,hW=>wpIn_skip ⟨Ψ,β,s,hE,hi,hf,hS,by simpa [xF]using hk⟩
 | .label _,p,k,s,bL,Ψ,β,a0,a,w,W,hp,hk,hro,hE,hi,hf,hS,hW=>wpIn_label ⟨Ψ,β,s,hE,hi,hf,hS,by simpa [xF]using hk⟩
 | .exit id,p,k,s,bL,Ψ,β,a0,a,w,W,hp,hk,hro,hE,hi,hf,hS,hW=>wpIn_exit ⟨Ψ,β,s,hE,hi,hf,hS,by simpa [xF]using hk⟩
 | .ret,p,k,s,bL,Ψ,β,a0,a,w,W,hp,hk,hro,hE,hi,hf,hS,hW=>wpIn_ret ⟨Ψ,β,s,hE,hi,hf,hS,by simpa [xF]using hk⟩
 | .region id ops draw,p,k,s,bL,Ψ,β,a0,a,w,W,hp,hk,hro,hE,hi,hf,hS,hW=>by
  have hWo:∀o∈ops.toList,∀t,o.dst=some t->t∈W:=fun o ho t ht=>hW t (CX ho ht)
  cases draw with
  |true=>
   simp only[xF]at hk;have hk:=F6 hk;rw[IP]at hk;simp only[if_true]at hk;obtain⟨fE,wF,hi1,o8⟩:=CY fid id hi hf;exact Ot hsp hc hk (hE.trans wF) hi1 o8 hS hWo (fun _ _ hp=>hp) fun _ _ _ hp hd=>⟨hp,hd⟩
  |false=>
   simp only[xF]at hk;have hk:=F6 hk;rw[IP]at hk;simp only[WaG,if_false]at hk;obtain⟨fE,wF,hi1,o8⟩:=CY fid id hi hf;exact wpIn_region_list (mg hc ops ops.toList hk (hE.trans wF) hi1 o8 hS hWo (fun _ _ hp=>hp) fun _ _ _ hp hd=>⟨hp,hd⟩)
 | .seq x y,p,k,s,bL,Ψ,β,a0,a,w,W,hp,hk,hro,hE,hi,hf,hS,hW=>by
  simp only[xF]at hk;refine wpIn_seq (wpIn_mono (fK hsp hc fid x (by simp[iZ,hp,j8]) hk hro hE hi hf hS fun t ht=>hW t (by simp[kr,ht])) ?_)
  intro e a' w' hq;cases e with
  |normal=>
   obtain⟨ax,β',s',jF,hi',hf',rP,hk'⟩:=hq;exact fK hsp hc fid y (by simp[iZ,hp,j8]) hk' hro jF hi' hf' rP fun t ht=>hW t (by simp[kr,ht])
  |exit _=>exact hq
  |ret=>exact hq
  |goto _=>exact hq
  |panic _=>exact hq
  |outgrown=>exact hq
 | .cond c x y,p,k,s,bL,Ψ,β,a0,a,w,W,hp,hk,hro,hE,hi,hf,hS,hW=>by
  have hx:=fun {s'} hk (hf':aQ Ψ β (s'.top::s'.below) (a::As)) (hh:s'.heap=s.heap)=>fK hsp hc fid (ro:=ro) x (p:=0::p) (k:=k) (s:=s') (by simp[iZ,hp,j8]) hk hro hE (hh▸hi) hf' hS fun t ht=>hW t (by simp[kr,ht])
  have hy:=fun {s'} hk (hf':aQ Ψ β (s'.top::s'.below) (a::As)) (hh:s'.heap=s.heap)=>fK hsp hc fid (ro:=ro) y (p:=1::p) (k:=k) (s:=s') (by simp[iZ,hp,j8]) hk hro hE (hh▸hi) hf' hS fun t ht=>hW t (by simp[kr,ht])
  have cI:=bU (bf hf) c;simp only[xF]at hk;split at hk
  ·rename_i he;rw[he]at cI;exact wpIn_cond_true cI (hx hk hf rfl)
  ·rename_i he;rw[he]at cI;exact wpIn_cond_false cI (hy hk hf rfl)
  ·rename_i b he;rw[he]at cI;have cI:a.eval c= .bool b:=by
    obtain⟨cs,h1,h2⟩:=cI;simp only[reads]at h1;subst h1;simp[Ty.isAgg]at h2
    exact h2.symm
   cases b with
   |true=>
    obtain⟨h1,h2⟩:=F5 hf cI (av:=.tt) rfl;exact wpIn_cond_true cI (hx ((eC hk).1 rfl) h1 h2)
   |false=>
    obtain⟨h1,h2⟩:=F5 hf cI (av:=.ff) rfl;exact wpIn_cond_false cI (hy ((eC hk).2 rfl) h1 h2)
  ·exact hk.elim
 | .block id c,p,k,s,bL,Ψ,β,a0,a,w,W,hp,hk,hro,hE,hi,hf,hS,hW=>by
  simp only[xF]at hk;refine wpIn_block (wpIn_mono (fK hsp hc fid c (by simp[iZ,hp,j8]) hk hro hE hi hf hS fun t ht=>hW t (by simpa [kr]using ht)) ?_)
  intro e a' w' hq;cases e with
  |exit i=>
   obtain⟨ax,β',s',jF,hi',hf',rP,hk'⟩:=hq;simp only at hk'
   simp only[Exit.inBlock];split at hk'
   ·rename_i hid;rw[if_pos (by simpa [Wag]using hid)]
    exact⟨ax,β',s',jF,hi',hf',rP,hk'⟩
   ·rename_i hid;rw[if_neg (by simpa [Wag]using hid)]
    exact⟨ax,β',s',jF,hi',hf',rP,hk'⟩
  |normal=>exact hq
  |ret=>exact hq
  |goto _=>exact hq
  |panic _=>exact hq
  |outgrown=>exact hq
 | .scope c,p,k,s,bL,Ψ,β,a0,a,w,W,hp,hk,hro,hE,hi,hf,hS,hW=>by
  simp only[xF]at hk;refine wI (wpIn_mono (fK hsp hc fid c (by simp[iZ,hp,j8]) hk hro hE hi hf hS fun t ht=>hW t (by simpa [kr]using ht)) ?_)
  intro e a' w' hq;cases e<;>exact hq
 | .rangeFunc g ps as bd,p,k,s,bL,Ψ,β,a0,a,w,W,hp,hk,hro,hE,hi,hf,hS,hW=>by
  have cI:=bU (bf hf) g;simp only[xF]at hk;split at hk
  ·rename_i fh cap he;rw[he]at cI;obtain⟨vs,Nd,hcap⟩:=cI;split at hk
   ·rename_i hok;simp only[Wac]at hok;obtain⟨hok,hnp⟩:=hok;refine wpIn_rangeFunc fun fn _=>?_
    have qmu:=(bf hf).1;cases ro with
    |none=>
     obtain⟨wF,hD1,hi1⟩:=Rl hi;have qmv:(w.alloc (.deferred (some []))).heap.size=w.heap.size+1:=by simp
     obtain⟨DD,hL2,hi2⟩:=F4 (r:={state:=.ready,pending:=none,fn,tmps:=a.tmps,params:=ps,assign:=as,body:=bd,defers:=w.heap.size}) hi1 (aX wF.1 (fun _ _ h=>h) _ _ (bf hf).2) ⟨rfl,rfl⟩ hp
     obtain⟨d,pz,hd2⟩:=w9 (w:=(w.alloc (.deferred (some []))).alloc (.loop {state:=.ready,pending:=none,fn,tmps:=a.tmps,params:=ps,assign:=as,body:=bd,defers:=w.heap.size})) (l:=w.heap.size+1) Nd hok;rw[qmv]at DD hL2 hi2;refine⟨w.heap.size+1,[YJ w.heap.size],_,d,_,fh,_,_,run_enterLoop_outer fn a.tmps ps as bd,pz,fun _ _=>trivial,hd2,fun h=>(by cases h),?_⟩
     have hE3:=wF.trans DD;have qaO:(β++[cm (w.heap.size+1)])[hlen s.heap]?=some (cm (w.heap.size+1)):=by rw[cF,<-hi.len];simp
     have qmx:YK (mu (sM Ψ w.heap.size) (w.heap.size+1) a.tmps) {a with defers:=[YJ w.heap.size]++a.defers}:=by
      obtain⟨ds,r,e,hr,hn,hds⟩:=qmu;refine⟨w.heap.size::ds,r,by simp[e],hr,List.nodup_cons.2 ⟨fun hm=>?_,hn⟩,fun D hD=>?_⟩
      ·have:=zO hi (hds _ hm)
       simp[qX]at this
      ·rcases List.mem_cons.1 hD with rfl|hD
       ·exact DD.1 _ _ hD1
       ·exact hE3.1 _ _ (hds D hD)
     have rP:fI bL W a0 {a with defers:=[YJ w.heap.size]++a.defers}:=by
      obtain⟨h1,ds,e,_,hds⟩:=hS;refine⟨h1,w.heap.size::ds,by simp[e],fun _=>hW mkW (by simp[kr]),fun D hD=>?_⟩
      rcases List.mem_cons.1 hD with rfl|hD
      ·cases hx:bL (qX w.heap.size) with
       |none=>rfl
       |some v=>
        have:=zO hi (hE.1 _ _ hx)
        simp[qX]at this
      ·exact hds D hD
     refine oA none _ ((hc.2 fh _ _ _ hk hok B w0 _ _ (vP (w.heap.size+1):: {a with defers:=[YJ w.heap.size]++a.defers} ::As) _ _ hi2 ?_ ⟨_,_,rfl,⟨_,qaO,rfl⟩,aX hE3.1 (aS _) _ _ hcap⟩).mono ?_)
     ·refine gF (Rm qaO) (gF ⟨qmx,aX hE3.1 (aS _) _ _ (bf hf).2⟩ (bF hE3.1 (aS _) _ _ (pq hf)))
     ·rintro e w3 (⟨v,ax,β',av,s',rfl,jF,hi',hf',hv,hk'⟩|⟨_,_,hp⟩)
      ·exact Jt hk' ((hE.trans hE3).trans jF) hi' hf' rP
      ·exact (hp.no hnp).elim
    |some l0=>
     have uw:=hi.prom _ _ (hE.1 _ _ (hro l0 rfl));obtain⟨r0,Ee⟩:∃r,w.heap[l0]?=some (.loop r):=uw
     obtain⟨DD,hL2,hi2⟩:=F4 (r:={state:=.ready,pending:=none,fn,tmps:=a.tmps,params:=ps,assign:=as,body:=bd,defers:=r0.defers}) hi (bf hf).2 ⟨rfl,rfl⟩ hp;obtain⟨d,pz,hd2⟩:=w9 (w:=w.alloc (.loop {state:=.ready,pending:=none,fn,tmps:=a.tmps,params:=ps,assign:=as,body:=bd,defers:=r0.defers})) (l:=w.heap.size) Nd hok;refine⟨w.heap.size,[],_,d,_,fh,_,_,wJ Ee fn a.tmps ps as bd,pz,fun _ _=>trivial,hd2,fun h=>(by cases h),?_⟩
     have qaO:(β++[cm w.heap.size])[hlen s.heap]?=some (cm w.heap.size):=by rw[cF,<-hi.len];simp
     refine oA (some l0) _ ((hc.2 fh _ _ _ hk hok B w0 _ _ (vP w.heap.size::a::As) _ _ hi2 ?_ ⟨_,_,rfl,⟨_,qaO,rfl⟩,aX DD.1 (aS _) _ _ hcap⟩).mono ?_)
     ·refine gF (Rm qaO) (gF ⟨oW DD.1 qmu,aX DD.1 (aS _) _ _ (bf hf).2⟩ (bF DD.1 (aS _) _ _ (pq hf)))
     ·rintro e w3 (⟨v,ax,β',av,s',rfl,jF,hi',hf',hv,hk'⟩|⟨_,_,hp⟩)
      ·exact Jt (a:=a) hk' ((hE.trans DD).trans jF) hi' hf' hS
      ·exact (hp.no hnp).elim
   ·exact hk.elim
  ·exact hk.elim
 | .loop body,p,k,s,bL,Ψ,β,a0,a,w,W,hp,hk,hro,hE,hi,hf,hS,hW=>by
  simp only[xF]at hk;split at hk
  ·rename_i r hr;have tail:∀(as:List LA) {s:St} {Ψ:Pr} {β:List Value} {a:Act} {w:World},TG as (kr body) (xF C call fid (0::p) body) k s->Ext B bL Ψ->aD C.P B w0 Ψ β s.heap w->aQ Ψ β (s.top::s.below) (a::As)->fI bL W a0 a->
    sH (Fw ro) 0 C.P body (QOf C B w0 bL As W a0 k) a w:=by
    intro as s Ψ β a w hk hE hi hf hS;unfold TG at hk;split at hk
    ·exact hk.elim
    ·rename_i x0 hx0;split at hk
     ·rename_i hfit;obtain⟨I,μ,hI0,FB⟩:=hk;obtain⟨jJ,hi1,o8⟩:=qL as hi hf;generalize hs0:cM s as=s0 at*
      have DK:∀i j,bX s0.top i= .sl j->j<s0.heap.length:=by
       intro i j hij;have h1:=c9 _ _ (bf o8).2 i;rw[hij]at h1;rw[<-hi1.len];rcases Wak j jJ.length with h'|h'
       ·exact h'
       ·have h1:jJ[j]?=_:=h1.1;rw[Wai h']at h1;cases h1
      have hsc:∀k cs i j,aH s0.heap k= .cells cs->bX cs i= .sl j->j<s0.heap.length:=by
       intro k cs i j hk hij;obtain⟨g,c,e,_,_,_,h4,_⟩:=hi1.blk k _ (aC hk (by simp))
       have h1:=c9 _ _ h4 i;rw[hij]at h1;rw[<-hi1.len];rcases Wak j jJ.length with h'|h'
       ·exact h'
       ·have h1:jJ[j]?=_:=h1.1;rw[Wai h']at h1;cases h1
      have hh0:pn C B s0 (kr body) as Ψ jJ a As:=⟨hi1.len,gF ⟨(bf o8).1,sJ (bf o8).2⟩ (sI (pq o8)),w,fun k b hb=>by
       obtain⟨b0,h1,h2⟩:=pg hb;rw[h2];exact FZ (hi1.blk k b0 h1)⟩
      obtain⟨K9,hi2,H6,hh2⟩:=x8 hh0 DK hsc (bW.refl _) hi1 o8 ⟨rfl,fun _ _=>rfl⟩ hfit (uN _) hx0
      refine zM (τ:=dens (jD as)) (fun x a w=>I x/\∃Ψ β,Ext B bL Ψ/\aD C.P B w0 Ψ β (oR s0 (kr body) as x).heap w/\aQ Ψ β ((oR s0 (kr body) as x).top::(oR s0 (kr body) as x).below) (a::As)/\pn C B s0 (kr body) as Ψ β a As/\fI bL W a0 a) μ x0
       ⟨hI0,Ψ,K9,hE,hi2,H6,hh2,hS⟩ ?_
      rintro x ah wh ⟨hI,V6,βh,hEh,hih,hfh,hhh,hSh⟩
      refine wpIn_mono (fK hsp hc fid body (by simp[iZ,hp,j8]) (FB x hI) (fun l hl=>hEh.1 _ _ (hro l hl)) (Ext.refl B V6) hih hfh (fI.refl V6 (kr body) ah) fun t ht=>ht) ?_
      have hWb:∀t∈kr body,t∈W:=fun t ht=>hW t (by simpa [kr]using ht)
      intro e a' w' hq;cases e with
      |normal=>
       obtain⟨ax,β',s',jF,hi',hf',rP,hk'⟩:=hq;simp only at hk'
       split at hk'
       ·rename_i x' hx';split at hk'
        ·rename_i qaP;obtain⟨hP',hI',hμ⟩:=(mq _ _).1 hk';obtain⟨β3,YR,hf3,hh3⟩:=x8 hhh DK hsc jF.1 hi' hf' rP.1 qaP hP' hx';exact⟨x',⟨hI',ax,β3,hEh.trans jF,YR,hf3,hh3,hSh.trans hEh.1 (rP.mono hWb)⟩,hμ⟩
        ·exact hk'.elim
       ·exact hk'.elim
      |exit _=>
       obtain⟨ax,β',s',jF,hi',hf',rP,hk'⟩:=hq;exact⟨ax,β',s',hEh.trans jF,hi',hf',hSh.trans hEh.1 (rP.mono hWb),hk'⟩
      |ret=>
       obtain⟨ax,β',s',jF,hi',hf',rP,hk'⟩:=hq;exact⟨ax,β',s',hEh.trans jF,hi',hf',hSh.trans hEh.1 (rP.mono hWb),hk'⟩
      |goto _=>exact hq
      |panic _=>exact⟨hq.1.anti hEh,qK.trans hSh hq.2 hWb⟩
      |outgrown=>exact hq
     ·exact hk.elim
   split at hk
   ·obtain⟨as,hk⟩:=br hk;exact (tail as hk hE hi hf hS).wpIn
   ·rename_i n;split at hk
    ·refine sH.wpIn (sH.Y4 (wpIn_mono (fK hsp hc fid body (by simp[iZ,hp,j8]) hk hro hE hi hf hS fun t ht=>hW t (by simpa [kr]using ht)) ?_))
     intro e a' w' hq;cases e with
     |normal=>
      obtain⟨ax,β',s',jF,hi',hf',rP,hk'⟩:=hq;obtain⟨as,hk'⟩:=br hk';exact tail as hk' jF hi' hf' rP
     |exit _=>exact hq
     |ret=>exact hq
     |goto _=>exact hq
     |panic _=>exact hq
     |outgrown=>exact hq
    refine DJ (τ:=Nat) (fun n a w=>∃Ψ β s,Ext B bL Ψ/\aD C.P B w0 Ψ β s.heap w/\aQ Ψ β (s.top::s.below) (a::As)/\fI bL W a0 a/\KQ (xF C call fid (0::p) body) k n s) id _ ⟨Ψ,β,s,hE,hi,hf,hS,hk⟩ ?_
    rintro n ah wh ⟨V6,βh,sh,hEh,hih,hfh,hSh,hkh⟩
    cases n with
    |zero=>exact hkh.elim
    |succ n=>
     refine wpIn_mono (fK hsp hc fid body (by simp[iZ,hp,j8]) hkh hro hEh hih hfh hSh fun t ht=>hW t (by simpa [kr]using ht)) ?_
     intro e a' w' hq;cases e with
     |normal=>
      obtain⟨ax,β',s',jF,hi',hf',rP,hk'⟩:=hq;exact⟨n,⟨ax,β',s',jF,hi',hf',rP,hk'⟩,Nat.lt_succ_self n⟩
     |exit _=>exact hq
     |ret=>exact hq
     |goto _=>exact hq
     |panic _=>exact hq
     |outgrown=>exact hq
  ·exact hk.elim
 | .goto _,p,k,s,bL,Ψ,β,a0,a,w,W,hp,hk,hro,hE,hi,hf,hS,hW=>by simp[xF]at hk
end Go.AM
namespace Go.AM
open Go.RowKit
variable {B:Nat->Prop} {w0:World} {C:Ctx} {Ψ bL:Pr} {β:List Value} {h:List aB} {w w':World} {fr:List AV} {a a0:Act} {As:List Act} {W:List Nat}
mutual
theorem qeV{Ψ:Pr}{β:List Value}:∀(av:AV) (v:Value),aE Ψ β av v->aE (plain Ψ) β av v
 | .bJ,_,_=>trivial
 | .lO,_,hr=>hr
 | .tt,_,hr=>hr
 | .ff,_,hr=>hr
 | .d t x,_,⟨cs,hc,e⟩=>⟨cs,cT t x cs hc,e⟩
 | .fs e xs,_,⟨a,ea,cs,hc,e'⟩=>⟨a,ea,cs,cT (.arr e) xs cs hc,e'⟩
 | .iX,_,hr=>hr
 | .agg cs,_,⟨vs,e,hl,h1⟩=>⟨vs,e,vQ cs vs hl,h1⟩
 | .lW cs,_,⟨vs,e,hl⟩=>⟨vs,e,vQ cs vs hl⟩
 | .fn _ cs,_,⟨vs,e,hl⟩=>⟨vs,e,vQ cs vs hl⟩
 | .xw _ cs,_,⟨vs,e,hl⟩=>⟨vs,e,vQ cs vs hl⟩
 | .sv _ _ _ _,_,hr=>hr
 | .nk,_,hr=>hr
 | .nq,_,hr=>hr
 | .own _ _,_,hr=>hr
 | .sl _,_,hr=>hr
 | .tX _ _ _,_,hr=>hr
 | .rp t x,_,⟨g,off,cs,e,hc,hp⟩=>⟨g,off,cs,e,cT t x cs hc,fun j u hj=>bY.2 ⟨rfl,hp j u hj⟩⟩
 | .qd _,_,hr=>hr
 | .Ko _,_,hr=>hr
 | .DS _ _ _ _,_,hr=>hr
 | .yX _ _ _ _ _,_,hr=>hr
 | .lI _ _ _ _,_,hr=>hr
 | .DT _ _,_,hr=>hr
 | .oM _,_,hr=>hr
theorem vQ{Ψ:Pr}{β:List Value}:∀(cs:List AV) (vs:List Value),aL Ψ β cs vs->aL (plain Ψ) β cs vs
 |[],_,hr=>hr
 |c::cs,_,⟨v,vs',e,hv,hl⟩=>⟨v,vs',e,qeV c v hv,vQ cs vs' hl⟩
end
theorem cW{ax:Pr}(hp:bW (plain Ψ) ax){cs:List AV}{vs:List Value}(hr:aL Ψ β cs vs):aL ax β cs vs:=aX hp (fun _ _ h=>h) _ _ (vQ _ _ hr)
theorem Jw{fE ax:Pr}{β0 jJ:List Value}(hle:bW Ψ ax)(hp:bW (plain fE) ax):∀{fs fs1:List (List AV)} {as:List Act},aQ Ψ β0 fs as->aQ fE jJ fs1 as->aQ ax jJ fs1 as
 |[],[],_,h,h1=>h1
 |[],_::_,_,h,⟨a,as',e,_⟩=>by
  have h:_=[]:=h;rw[h]at e;cases e
 |_::_,[],_,⟨a,as',e,_⟩,h1=>by
  have h1:_=[]:=h1;rw[h1]at e;cases e
 |f::fs,f1::fs1,_,⟨a,as',e,⟨hd,_⟩,h3⟩,⟨a1,as1,e1,⟨_,hl⟩,h4⟩=>by
  rw[e]at e1;simp only[List.cons.injEq]at e1;obtain⟨rfl,rfl⟩:=e1;exact⟨a,as',e,⟨oW hle hd,cW hp hl⟩,Jw hle hp h3 h4⟩
def mK(w:World):List Nat->World
 |[]=>w
 |D::ds=>mK (w.putObj D (.deferred none)) ds
theorem zQ:∀(ds:List Nat) (w:World),(mK w ds).os=w.os/\(mK w ds).tape=w.tape/\(mK w ds).output=w.output/\(mK w ds).heap.size=w.heap.size/\∀k,k∉ds->(mK w ds).heap[k]?=w.heap[k]?
 |[],w=>⟨rfl,rfl,rfl,rfl,fun _ _=>rfl⟩
 |D::ds,w=>by
  obtain⟨h1,h2,h3,h4,h5⟩:=zQ ds (w.putObj D (.deferred none));refine⟨h1,h2,h3,by rw[mK,h4];simp,fun k hk=>?_⟩
  simp only[Wbi,not_or]at hk;rw[mK,h5 k hk.2,World.putObj_heap_other hk.1]
theorem zR{P:Program}{fn:Func}{tmps:Array Value}{R:Ending->World->Prop}:∀(ds:List Nat) {w:World},(∀D∈ds,w.heap[D]?=some (.deferred (some [])))->ds.Nodup->
 LeavesIn Fence.wide 0 P fn tmps R [] .returning (mK w ds)->LeavesInM Fence.wide 0 P fn tmps R (ds.map YJ) .returning w
 |[],w,_,_,hL=>hL
 |D::ds,w,hd,hn,hL=>by
  obtain⟨hD,hn⟩:=List.nodup_cons.1 hn;refine⟨by simp,.inl ⟨D,_,rfl,run_takeDeferred (hd D (by simp)),zR ds (fun D' hm=>?_) hn hL⟩⟩
  have hne:D'≠D:=fun e=>hD (by rw[<-e];exact hm)
  rw[World.putObj_heap_other hne];exact hd D' (by simp[hm])
def zS(Ψ:Pr)(ds:List Nat):Pr:=fun a=>if a.spot=some 0/\a.block∈ds then none else Ψ a
theorem Eg(Ψ:Pr)(ds:List Nat){a:Addr}{v:Value}(h:zS Ψ ds a=some v):Ψ a=some v:=by
 unfold zS at h;split at h
 ·cases h
 ·exact h
theorem uO{a:Addr}{v:Value}{o:Option (List Deferred)}(h:w.heap[a.block]?=some (.deferred o))(hc:w.cell? a=some v):False:=by
 unfold World.cell? at hc;rw[h]at hc;cases hc
theorem qi0{s:St}{x:Act}{ds:List Nat}{fE:Pr}{β0:List Value}{fs0:List (List AV)}(h0:∀a v,Ψ a=some v->a.spot=some 0->a.off=0)(hi:aD C.P B w0 fE β s.heap w)(hf:aQ fE β (s.top::s.below) (x::As))(hf0:aQ Ψ β0 fs0 As)(hE:Ext B Ψ fE)
 (hd:x.defers=ds.map YJ) (hnew:∀D∈ds,Ψ (qX D)=none):
 ∃w2 mZ,(∀fn tmps R,LeavesIn Fence.wide 0 C.P fn tmps R [] .returning w2->LeavesInM Fence.wide 0 C.P fn tmps R x.defers .returning w)/\Ext B Ψ mZ/\aD C.P B w0 mZ β s.heap w2/\aL mZ β s.top x.tmps.toList/\aQ mZ β s.below As:=by
 obtain⟨ds',r',hd',hr',o7,dO⟩:=(bf hf).1;have hds:ds=ds':=by
  have Ee:r'=[]:=by
   cases r' with
   |nil=>rfl
   |cons d l=>
    have hm:d∈ds.map YJ:=by rw[<-hd,hd'];simp
    obtain⟨D,_,e⟩:=List.mem_map.1 hm;exact absurd e.symm (hr' d (by simp) D)
  rw[hd,Ee,WaA]at hd';exact (List.map_inj_right fun D D' e=>by simpa [YJ]using e).1 hd'
 subst hds;have T9:∀D∈ds,w.heap[D]?=some (.deferred (some [])):=fun D hD=>(hi.prom _ _ (dO D hD)).2
 obtain⟨s1,s2,s3,s4,s5⟩:=zQ ds w;have hB:∀D∈ds,¬B D:=fun D hD=>hi.own _ _ (dO D hD) (by simp[qX])
 have uw:bW (plain fE) (zS fE ds):=fun ad v hv=>by
  obtain⟨h1,h2⟩:=bY.1 hv;unfold zS;rw[if_neg (by rw[h1];simp)]
  exact h2
 have qi1:TK fE (zS fE ds):=fun ad v hs hv=>by
  unfold zS;rw[if_neg (fun e=>hs e.1)]
  exact hv
 have hle:bW Ψ (zS fE ds):=fun ad v hv=>by
  unfold zS;rw[if_neg]
  ·exact hE.1 _ _ hv
  ·rintro⟨e1,e2⟩
   have e3:=h0 ad v hv e1;have:ad=qX ad.block:=by
    obtain⟨b,o,sp⟩:=ad;simp only at e1 e3
    subst e1;subst e3;rfl
   rw[this,hnew _ e2]at hv;cases hv
 have F7:∀{k:Nat} {b:aB} {g:Nat},s.heap[k]?=some b->af β k g b->g∉ds:=fun {k b g} hk hc hm=>by
  have h1:=dO g hm;rw[hi.free k b g hk hc (qX g) rfl (.inr (.inr rfl))]at h1;cases h1
 refine⟨mK w ds,zS fE ds,fun fn tmps R hL=>by rw[hd];exact zR ds T9 o7 hL,⟨hle,fun ad v hv=>hE.2 ad v (Eg _ _ hv)⟩,⟨?_,?_,?_,?_,hi.len,hi.one,?_,?_,hi.sep,hi.gQ.mono qi1⟩,cW uw (bf hf).2,Jw hle uw hf0 (pq hf)⟩
 ·exact hi.low.trans ⟨s1,s2,s3,Nat.le_of_eq s4.symm,fun k hk=>s5 k fun hm=>hB k hm hk⟩
 ·rw[s4];exact hi.size
 ·intro ad v hv;have h1:=hi.prom _ _ (Eg _ _ hv);have hnm:ad.block∉ds:=fun hm=>by
   have h2:=T9 _ hm;by_cases hs:ad.spot=none
   ·exact uO h2 (mS hs h1)
   ·unfold zS at hv;split at hv
    ·cases hv
    ·rename_i HY;unfold Pm at h1;split at h1
     ·rename_i e;exact hs e
     ·rename_i e;exact HY ⟨e,hm⟩
     ·obtain⟨r,hr⟩:=h1;rw[h2]at hr;cases hr
     ·obtain⟨r,hr,_⟩:=h1;rw[h2]at hr;cases hr
     ·obtain⟨ms,cl,hr,_⟩:=h1;rw[h2]at hr;cases hr
     ·exact h1
  exact mR (s5 _ hnm) h1
 ·exact fun ad v hv hs=>hi.own ad v (Eg _ _ hv) hs
 ·intro k b hk;have hb:=hi.blk k b hk;cases b with
  |gone=>trivial
  |log ys Y own xs=>exact jQ hb (fun _ h=>h) qi1 (Nat.le_of_eq s4.symm) fun g ho=>s5 g (F7 hk ho)
  |kV ys Y own=>exact jR hb (fun _ h=>h) qi1 (Nat.le_of_eq s4.symm) fun g ho=>s5 g (F7 hk ho)
  |cells cs=>
   obtain⟨g,c,e,h1,h2,h3,h4,h5⟩:=hb;exact⟨g,c,e,h1,(s5 g (F7 hk h1)).trans h2,h3,cW uw h4,h5⟩
  |grow tid e xs=>
   refine hb.imp id ?_
   rintro⟨g,cap,cur,h1,h2,h3,h4,h5,h6,h7,h8⟩
   exact⟨g,cap,cur,h1,h2,h3,(s5 g (F7 hk ⟨_,_,h2,h1⟩)).trans h4,h5,h6,h7,jq uw h8⟩
  |fH es=>
   obtain⟨g,ms,cl,h1,h2,h3,h4,h5,h6⟩:=hb;exact⟨g,ms,cl,h1,(s5 g (F7 hk h1)).trans h2,h3,h4,cW uw h5,h6⟩
  |dmap e m=>
   obtain⟨g,ms,cl,h1,h2,h3,h4,h5⟩:=hb;exact⟨g,ms,cl,h1,(s5 g (F7 hk h1)).trans h2,h3,jU uw h4,h5⟩
  |dat t x=>
   obtain⟨g,c,e,h1,h2,h3,h4⟩:=hb;exact⟨g,c,e,h1,(s5 g (F7 hk h1)).trans h2,h3,aR uw t x _ (cT t x _ h4)⟩
  |eu n rest=>
   obtain⟨g,s,pos,h1,h2,h3⟩:=hb;exact⟨g,s,pos,h1,(s5 g (F7 hk h1)).trans h2,h3⟩
  |xb x=>
   obtain⟨v,h1,h2,h3⟩:=hb;exact⟨v,h1,D6 (fun e _ _ h=>jq uw h) (fun g hg=>s5 g (F7 hk ⟨v,h1,hg⟩)) h2,fun g hg=>⟨(h3 g hg).1,Wa6 (h3 g hg).2 (Nat.le_of_eq s4.symm)⟩⟩
  |eo e last left=>
   obtain⟨g,gm,ms,cl,seen,h1,h2,h3,h4,h5,h6⟩:=hb;refine⟨g,gm,ms,cl,seen,h1,(s5 g (F7 hk h1)).trans h2,h3,?_,jU uw h5,h6.1,h6.2.1,h6.2.2.imp id fun ⟨p,x,s',a1,a2,a3,a4,a5,a6⟩=>⟨p,x,s',a1,a2,a3,a4,a5,uI uw a6⟩⟩
   unfold zS;rw[if_neg (fun e=>by have:=e.1;simp[ZL]at this)]
   exact h4
  |loop f p ph ts=>
   obtain⟨l,r,h1,h2,h3,h4,h5,h6,h7,h8⟩:=hb;have hn:∀ad v,ad.spot≠some 0->fE ad=some v->zS fE ds ad=some v:=fun ad v hs hv=>by
    unfold zS;rw[if_neg (fun e=>hs e.1)]
    exact hv
   exact⟨l,r,h1,(s5 l (F7 hk h1)).trans h2,h3,h4,cW uw h5,hn _ _ (by simp[ur]) h6,fun i v hv=>hn _ _ (by simp[IU]) (h7 i v hv),h8⟩
 ·intro k b g hk hc ad had hsp;cases hp:zS fE ds ad with
  |none=>rfl
  |some v=>have:=Eg _ _ hp;rw[hi.free k b g hk hc ad had hsp]at this;cases this
theorem Jx:∀{ps:List Nat} {ts dN:List AV} {tmps:Array Value} {vs:List Value},aL Ψ β ts tmps.toList->aL Ψ β dN vs->ps.length=vs.length->
 aL Ψ β (IS ts ps dN) ((ps.zip vs).foldl (fun tmps (p:Nat×Value)=>tmps.setIfInBounds p.1 p.2) tmps).toList
 |[],ts,dN,tmps,vs,ht,_,_=>by simpa [IS]using ht
 |p::ps,ts,[],tmps,vs,ht,hv,hl=>by
  simp only[aL]at hv;subst hv;simp at hl
 |p::ps,ts,av::dN,tmps,_,ht,⟨v,vs',e,hv,hvs⟩,hl=>by
  subst e;simp only[IS,List.zip_cons_cons,WcL];refine Jx ?_ hvs (by simpa using hl)
  have:=oU hv _ _ p ht
  simpa using this
theorem BD{e:Ex}{l j:Nat}{k:AV->St->Prop}{s2:St}{x:Act}{mZ:Pr}{K9:List Value}
 (hk:match r7 s2 with
   |none=>False
   |some s3=>match named j s3 with
    |none=>False
    |some s4=>match aH s4.heap j with
     | .loop _ _ .busy _=>match e with
      | .normal=>k .tt {s4 with heap:=iI s4.heap j .ready}
      |e=>k .ff {s4 with heap:=iI s4.heap j (.done e)}
     |_=>False)
 (hE:Ext B Ψ mZ) (hi:aD C.P B w0 mZ K9 s2.heap w) (hf:aQ mZ K9 (s2.top::s2.below) (x::vP l::As)):
 ∃v w',(Instr.endRound l (uu e)).run C.P w= .ok v w'/\∃v' ax β' av s',Ending.returned v= .returned v'/\Ext B Ψ ax/\aD C.P B w0 ax β' s'.heap w'/\aQ ax β' (s'.top::s'.below) As/\aE ax β' av v'/\k av s':=by
 split at hk
 ·exact hk.elim
 ·rename_i s3 DM;obtain⟨hh3,hf3⟩:=Lq DM hf;split at hk
  ·exact hk.elim
  ·rename_i s4 hn;obtain⟨bV,hh4,hf4⟩:=CV hn hf3 rfl;rw[<-hh3,<-hh4]at hi;split at hk
   ·rename_i f p ts hg;have hkk:=aC hg (by simp)
    obtain⟨l1,r,g1,g2,g3,g4,g5,g6⟩:=hi.blk _ _ hkk;rw[bV]at g1;simp only[cm,Option.some.injEq,Value.func.injEq,Fn.yield.injEq,and_true]at g1;subst g1;refine⟨_,_,run_endRound (uu e) g2,?_⟩
    cases e with
    |normal=>exact⟨_,mZ,K9,.tt,{s4 with heap:=iI s4.heap j .ready},rfl,hE,hi.iI hkk bV g2 rfl rfl rfl rfl ⟨rfl,rfl⟩,hf4,rfl,hk⟩
    |exit i=>exact⟨_,mZ,K9,.ff,{s4 with heap:=iI s4.heap j (.done (.exit i))},rfl,hE,hi.iI hkk bV g2 rfl rfl rfl rfl ⟨rfl,rfl⟩,hf4,rfl,hk⟩
    |ret=>exact⟨_,mZ,K9,.ff,{s4 with heap:=iI s4.heap j (.done .ret)},rfl,hE,hi.iI hkk bV g2 rfl rfl rfl rfl ⟨rfl,rfl⟩,hf4,rfl,hk⟩
   ·exact hk.elim
theorem C0:∀l:List Nat,around.zl l=l.length
 |[]=>rfl
 |_::l=>by simp[around.zl,C0 l]
theorem Lr(hsp:au C){call:gk}(hc:fc C call){j:Nat}{dN:List AV}{vs:List Value}{s:St}{k:AV->St->Prop}(hk:around C call j dN s k)(hi:aD C.P B w0 Ψ β s.heap w)(hf:aQ Ψ β (s.top::s.below) As)(hr:aL Ψ β dN vs):
 ∃l r,β[j]?=some (cm l)/\w.heap[l]?=some (.loop r)/\vs.length=r.params.size/\
  RoundIn Fence.wide 0 C.P l r.fn ((r.params.zip vs.toArray).foldl (fun tmps (t,a)=>tmps.setIfInBounds t a) r.tmps) r.assign r.body w
   fun e w'=>∃v ax β' av s',e= .returned v/\Ext B Ψ ax/\aD C.P B w0 ax β' s'.heap w'/\aQ ax β' (s'.top::s'.below) As/\aE ax β' av v/\k av s':=by
 unfold around at hk;split at hk
 case isFalse=>exact hk.elim
 rename_i hnp;split at hk
 ·rename_i f p ts hg;have hkk:=aC hg (by simp)
  obtain⟨l,r,g1,g2,g3,g4,g5,g6,g7,g,g8⟩:=hi.blk _ _ hkk;split at hk
  ·rename_i g' ps as bd Ov;rw[g8]at Ov;simp only[Option.some.injEq,Code.rangeFunc.injEq]at Ov;obtain⟨rfl,rfl,rfl,rfl⟩:=Ov;split at hk
   ·rename_i hlen;simp only[Wag,dw,C0]at hlen;have hvl:vs.length=r.params.size:=by rw[dr _ _ hr,hlen];simp
    refine⟨l,r,g1,g2,hvl,roundIn_of_wpIn trivial ?_⟩
    have qpO:((r.params.zip vs.toArray).foldl (fun tmps (t,a)=>tmps.setIfInBounds t a) r.tmps)=(r.params.toList.zip vs).foldl (fun tmps (p:Nat×Value)=>tmps.setIfInBounds p.1 p.2) r.tmps:=by
     rw[<-Array.foldl_toList,Array.toList_zip]
    rw[qpO];have hfr:aQ Ψ β (IS ts r.params.toList dN::[.qd j]::s.top::s.below) ({tmps:=(r.params.toList.zip vs).foldl (fun tmps (p:Nat×Value)=>tmps.setIfInBounds p.1 p.2) r.tmps,defers:=[]} ::vP l::As):=
     gF ⟨⟨[],[],rfl,by simp,Wby,by simp⟩,Jx g5 hr (by simpa using hvl.symm)⟩ (gF (Rm g1) hf)
    refine wpIn_mono (fK (ro:=some l) (bL:=Ψ) (W:=kr r.assign) hsp hc f r.assign (p:=0::p) (by simp[iZ,g8,j8]) hk (fun l' hl=>by cases hl;exact g6) (Ext.refl B Ψ) hi hfr (fI.refl _ _ _) fun _ h=>h) ?_
    intro e a1 w1 hq;cases e with
    |normal=>
     obtain⟨fE,jJ,s1,wF,hi1,o8,hS1,YQ⟩:=hq;simp only at YQ
     split at YQ
     ·rename_i hnb;have qaH:=Lp hnb o8 rfl;split at YQ
      ·rename_i f' p' ts' hg1;have qmA:=aC hg1 (by simp)
       obtain⟨l1,r1,b1,b2,b3,b4,b5⟩:=hi1.blk _ _ qmA;rw[qaH]at b1;simp only[cm,Option.some.injEq,Value.func.injEq,Fn.yield.injEq,and_true]at b1;subst b1;refine⟨_,run_beginRound b2 b4.1,?_⟩
       have hi2:=hi1.iI (Zw:=.busy) (r':={r1 with state:=.busy}) qmA qaH b2 rfl rfl rfl rfl rfl;refine wpIn_mono (fK (ro:=some l) (bL:=fE) (W:=kr r.body) (a0:=a1) hsp hc f r.body (p:=1::p) (s:={s1 with heap:=iI s1.heap j .busy}) (by simp[iZ,g8,j8]) YQ (fun l' hl=>by cases hl;exact wF.1 _ _ g6) (Ext.refl B fE) hi2 o8 (fI.refl _ _ _) fun _ h=>h) ?_
       intro e a2 w2 hq2;cases e with
       |normal=>
        obtain⟨mZ,K9,s2,DD,YR,H6,_,hk2⟩:=hq2;exact BD (e:=.normal) hk2 (wF.trans DD) YR H6
       |exit i=>
        obtain⟨mZ,K9,s2,DD,YR,H6,_,hk2⟩:=hq2;exact BD (e:=.exit i) hk2 (wF.trans DD) YR H6
       |ret=>
        obtain⟨mZ,K9,s2,DD,YR,H6,_,hk2⟩:=hq2;exact BD (e:=.ret) hk2 (wF.trans DD) YR H6
       |goto _=>exact hq2.elim
       |panic _=>exact (hq2.1.no hnp).elim
       |outgrown=>exact hq2.elim
      ·exact YQ.elim
     ·exact YQ.elim
    |exit _=>obtain⟨_,_,_,_,_,_,_,hk'⟩:=hq;exact hk'
    |ret=>obtain⟨_,_,_,_,_,_,_,hk'⟩:=hq;exact hk'
    |goto _=>exact hq
    |panic _=>exact (hq.1.no hnp).elim
    |outgrown=>exact hq
   ·exact hk.elim
  ·exact hk.elim
 ·exact hk.elim
end Go.AM
namespace Go.AM
open Go.RowKit
variable {B:Nat->Prop} {w0:World} {C:Ctx} {Ψ bL:Pr} {β:List Value} {h:List aB} {w w':World} {fr:List AV} {a a0:Act} {As:List Act} {W:List Nat}
theorem TK.plain{Ψ ax:Pr}(h:TK Ψ ax):bW (plain Ψ) ax:=fun a v hv=>by
 obtain⟨h1,h2⟩:=bY.1 hv;exact h a v (by rw[h1];simp) h2
theorem Ls{g:Nat}(h:g<w.heap.size)(e:w'.heap[g]?=w.heap[g]?):g<w'.heap.size:=by
 rcases Wak g w'.heap.size with h'|h'
 ·exact h'
 ·rw[WaW h',Wa1 h]at e;cases e
theorem oD{P:Program}{B':Nat->Prop}{ax:Pr}{k:Nat}{b:aB}(hl:TK Ψ ax)(hc:∀g,af β k g b->w'.heap[g]?=w.heap[g]? /\¬B' g)(hb:cn P B Ψ β w k b):cn P B' ax β w' k b:=by
 have uw:=hl.plain;cases b with
 |gone=>trivial
 |log ys Y own xs=>exact⟨hb.1,hb.2.2.2.1.1 _ _ _ _ _ _ hb.2.1 hl (fun g hg=>(hc g hg).1),fun g hg=>⟨(hc g hg).2,Ls (hb.2.2.1 g hg).2 (hc g hg).1⟩,hb.2.2.2⟩
 |kV ys Y own=>exact⟨hb.1,hb.2.2.2.2 _ _ _ _ _ hb.2.1 hl (fun g hg=>(hc g hg).1),fun g hg=>⟨(hc g hg).2,Ls (hb.2.2.1 g hg).2 (hc g hg).1⟩,hb.2.2.2⟩
 |cells cs=>
  obtain⟨g,c,e,h1,h2,h3,h4,h5⟩:=hb;exact⟨g,c,e,h1,(hc g h1).1.trans h2,(hc g h1).2,cW uw h4,h5⟩
 |grow tid e xs=>
  refine hb.imp id ?_
  rintro⟨g,cap,cur,h1,h2,h3,h4,h5,h6,h7,h8⟩
  have hg:=hc g ⟨_,_,h2,h1⟩;exact⟨g,cap,cur,h1,h2,hg.2,hg.1.trans h4,h5,h6,h7,jq uw h8⟩
 |fH es=>
  obtain⟨g,ms,cl,h1,h2,h3,h4,h5,h6⟩:=hb;exact⟨g,ms,cl,h1,(hc g h1).1.trans h2,(hc g h1).2,h4,cW uw h5,h6⟩
 |dmap e m=>
  obtain⟨g,ms,cl,h1,h2,h3,h4,h5⟩:=hb;exact⟨g,ms,cl,h1,(hc g h1).1.trans h2,(hc g h1).2,jU uw h4,h5⟩
 |eo e last left=>
  obtain⟨g,gm,ms,cl,seen,h1,h2,h3,h4,h5,h6⟩:=hb;exact⟨g,gm,ms,cl,seen,h1,(hc g h1).1.trans h2,(hc g h1).2,hl _ _ (by simp[ZL]) h4,jU uw h5,h6.1,h6.2.1,h6.2.2.imp id fun ⟨p,x,s',a1,a2,a3,a4,a5,a6⟩=>⟨p,x,s',a1,a2,a3,a4,a5,uI uw a6⟩⟩
 |loop f p ph ts=>
  obtain⟨l,r,h1,h2,h3,h4,h5,h6,h7,h8⟩:=hb;exact⟨l,r,h1,(hc l h1).1.trans h2,(hc l h1).2,h4,cW uw h5,hl _ _ (by simp[ur]) h6,fun i v hv=>hl _ _ (by simp[IU]) (h7 i v hv),h8⟩
 |dat t x=>
  obtain⟨g,c,e,h1,h2,h3,h4⟩:=hb;exact⟨g,c,e,h1,(hc g h1).1.trans h2,(hc g h1).2,aR uw t x _ (cT t x _ h4)⟩
 |eu n rest=>
  obtain⟨g,s,pos,h1,h2,h3,h4⟩:=hb;exact⟨g,s,pos,h1,(hc g h1).1.trans h2,(hc g h1).2,h4⟩
 |xb x=>
  obtain⟨v,h1,h2,h3⟩:=hb;exact⟨v,h1,D6 (fun e _ _ h=>jq uw h) (fun g hg=>(hc g ⟨v,h1,hg⟩).1) h2,fun g hg=>⟨(hc g ⟨v,h1,hg⟩).2,Ls (h3 g hg).2 (hc g ⟨v,h1,hg⟩).1⟩⟩
theorem Rn{ys:List Ty}{Y:fM ys}{own:Nat->Prop}{xs:List (tY ys).den}{j:Nat}{dN:List AV}{vs:List Value}{s:St}{k:AV->St->Prop}(hj:aH s.heap j= .log ys Y own xs)(hk:qhZ j ys Y xs dN s k)
 (hi:aD C.P B w0 Ψ β s.heap w) (hf:aQ Ψ β (s.top::s.below) As) (hr:aL Ψ β dN vs):
 ∃l r,β[j]?=some (cm l)/\w.heap[l]?=some (.loop r)/\vs.length=r.params.size/\
  RoundIn Fence.wide 0 C.P l r.fn ((r.params.zip vs.toArray).foldl (fun tmps (t,a)=>tmps.setIfInBounds t a) r.tmps) r.assign r.body w
   fun e w'=>∃v ax β' av s',e= .returned v/\Ext B Ψ ax/\aD C.P B w0 ax β' s'.heap w'/\aQ ax β' (s'.top::s'.below) As/\aE ax β' av v/\k av s':=by
 have hkk:=aC hj (by simp)
 obtain⟨b1,b2,b3,b4,b5⟩:=hi.blk _ _ hkk;unfold qhZ at hk;split at hk
 ·exact hk.elim
 ·rename_i y hd;split at hk
  ·rename_i tW;obtain⟨⟨rest,hit⟩,hk⟩:=hk;have qpP:cS dN=[]:=gD tW;have bu:aL Ψ [] (outs ys y) vs:=gE (bW.refl _) hd hr (by rw[qpP];exact cc.nil)
   have hG:QF C.P (fun g=>B g\/∃k b,k≠j/\s.heap[k]?=some b/\af β k g b) w own Ψ w:=by
    refine⟨dJ.refl _ _,?_,hi.prom,?_,?_,?_,hi.gQ⟩
    ·rintro g (hg|⟨k,b,hne,hb,hc⟩)
     ·exact hi.size g hg
     ·exact (ct (hi.blk k b hb) hc).2
    ·rintro ad v hv hs (hg|⟨k,b,hne,hb,hc⟩)
     ·exact hi.own ad v hv hs hg
     ·rw[hi.free k b _ hb hc ad rfl (.inr (.inr hs))]at hv;cases hv
    ·rintro g hg
     refine⟨?_,(b3 g hg).2⟩
     rintro (hg'|⟨k,b,hne,hb,hc⟩)
     ·exact (b3 g hg).1 hg'
     ·exact hi.sep k j b _ g hne hb hkk hc hg
    ·exact fun ad ha hp=>hi.free j _ _ hkk ha ad rfl hp
   obtain⟨r,h1,h2,h3⟩:=b5 xs (tZ ys y) rest hit _ w own Ψ w vs b2 hG (by rw[Iz];exact bu)
   refine⟨Y.l,r,b1,h1,h2,RoundIn.mono h3 ?_⟩
   rintro e w' ⟨v,bT,ax,rfl,hE,Lt,hor⟩
   have jF:Ext B Ψ ax:=⟨hE.1,fun ad v hv=>(hE.2 ad v hv).imp id fun h hb=>h (.inl hb)⟩
   have new:∀b:aB,cn C.P B ax β w' j b->(∀g,af β j g b->bT g)->aD C.P B w0 ax β (bw s.heap j b) w':=by
    intro b hbR hcl;rw[aZ];have hlt:=eW hkk;have at_:∀{i:Nat} {b1:aB},(s.heap.set j b)[i]?=some b1->(i=j/\b1=b)\/(i≠j/\s.heap[i]?=some b1):=by
     intro i b1 hi1;by_cases hij:i=j
     ·subst hij;rw[WaC hlt]at hi1;simp at hi1
      exact .inl ⟨rfl,hi1.symm⟩
     ·rw[War (Wa0 hij)]at hi1;exact .inr ⟨hij,hi1⟩
    refine⟨hi.low.trans ⟨Lt.low.os,Lt.low.tape,Lt.low.output,Lt.low.size,fun k hk=>Lt.low.block k (.inl hk)⟩,fun k hk=>Lt.size k (.inl hk),Lt.prom,fun ad v hv hs hb=>Lt.marks ad v hv hs (.inl hb),by simp[hi.len],hi.one,?_,?_,?_,Lt.gQ⟩
    ·intro i b1 hi1;rcases at_ hi1 with ⟨rfl,rfl⟩|⟨hne,hi2⟩
     ·exact hbR
     ·exact oD (bW.m hE.1) (fun g hc=>⟨Lt.low.block g (.inr ⟨i,b1,hne,hi2,hc⟩),(ct (hi.blk i b1 hi2) hc).1⟩) (hi.blk i b1 hi2)
    ·intro i b1 g hi1 hc ad had hsp;rcases at_ hi1 with ⟨rfl,rfl⟩|⟨hne,hi2⟩
     ·exact Lt.free ad (by rw[had];exact hcl g hc) hsp
     ·cases hp:ax ad with
      |none=>rfl
      |some v=>
       exfalso
       rcases hE.2 ad v hp with h'|h'
       ·rw[hi.free i b1 g hi2 hc ad had hsp]at h';cases h'
       ·exact h' (.inr ⟨i,b1,hne,hi2,by rw[had];exact hc⟩)
    ·intro i i' bi bj g hne yV xM rO n6;rcases at_ yV with ⟨rfl,rfl⟩|⟨h1,h2⟩<;>rcases at_ xM with ⟨h3,h4⟩|⟨h3,h4⟩
     ·exact hne h3.symm
     ·exact (Lt.mine g (hcl g rO)).1 (.inr ⟨i',bj,h3,h4,n6⟩)
     ·subst h3 h4;exact (Lt.mine g (hcl g n6)).1 (.inr ⟨i,bi,h1,h2,rO⟩)
     ·exact hi.sep i i' bi bj g hne h2 h4 rO n6
   have hm:QE B bT w':=fun g hg=>⟨fun hb=>(Lt.mine g hg).1 (.inl hb),(Lt.mine g hg).2⟩
   have hf':aQ ax β (s.top::s.below) As:=bF hE.1 (fun _ _ h=>h) _ _ hf
   rcases hor with ⟨rfl,hR⟩|⟨rfl,hR⟩
   ·exact⟨_,ax,β,.tt,{s with heap:=bw s.heap j (.log ys Y bT (xs++[tZ ys y]))},rfl,jF,new (.log ys Y bT (xs++[tZ ys y])) ⟨b1,hR,hm,b4,b5⟩ (fun g hg=>hg),hf',rfl,(hk bT).1⟩
   ·exact⟨_,ax,β,.ff,{s with heap:=bw s.heap j (.kV ys Y bT)},rfl,jF,new (.kV ys Y bT) ⟨b1,hR,hm,b4⟩ (fun g hg=>hg),hf',rfl,(hk bT).2⟩
  ·exact hk.elim
def zT(bL Ψ:Pr):Pr:=fun a=>match (if a.spot=some 0 then bL a else none) with|some v=>some v|none=>Ψ a
def cut(bL Ψ:Pr):Pr:=fun a=>match (if a.spot=some 0 then bL a else none) with|some _=>none|none=>Ψ a
def MS(bL:Pr)(g:Nat):Prop:=∃a v,a.spot=some 0/\a.block=g/\bL a=some v
theorem qq{fE:Pr}(hm:∀a v,a.spot=some 0->bL a=some v->fE a=some v):zT bL (cut bL fE)=fE:=by
 funext ad
 unfold zT cut;by_cases hs:ad.spot=some 0
 ·rw[if_pos hs];cases h0:bL ad with
  |none=>rfl
  |some v=>exact (hm ad v hs h0).symm
 ·rw[if_neg hs]
theorem F8{fE:Pr}{ad:Addr}{v:Value}(h:cut bL fE ad=some v):fE ad=some v:=by
 unfold cut at h;split at h
 ·cases h
 ·exact h
theorem Lu{fE:Pr}{ad:Addr}{v:Value}(h:fE ad=some v)(hn:∀u,ad.spot=some 0->bL ad≠some u):cut bL fE ad=some v:=by
 unfold cut;split
 ·rename_i u hu;split at hu
  ·rename_i hs;exact absurd hu (hn u hs)
  ·cases hu
 ·exact h
theorem Oy{fE:Pr}{ad:Addr}{v:Value}(hs:ad.spot=some 0)(h:bL ad=some v):cut bL fE ad=none:=by
 unfold cut;rw[if_pos hs,h]
theorem F9{ad:Addr}{v:Value}(hs:ad.spot=some 0)(h:bL ad=some v):zT bL Ψ ad=some v:=by
 unfold zT;rw[if_pos hs,h]
theorem rA{ad:Addr}{v:Value}(h:zT bL Ψ ad=some v):(ad.spot=some 0/\bL ad=some v)\/Ψ ad=some v:=by
 unfold zT at h;split at h
 ·rename_i u hu;split at hu
  ·rename_i hs;exact .inl ⟨hs,by rw[hu];exact h⟩
  ·cases hu
 ·exact .inr h
theorem Ua{ax:Pr}(h:TK Ψ ax):TK (zT bL Ψ) (zT bL ax):=fun ad v hs hv=>by
 unfold zT at*;rw[if_neg hs]at*
 exact h ad v hs hv
structure C4 (P:Program) (bL:Pr) (own:Nat->Prop) (Ψ:Pr) (β:List Value) (h:List aB) (w:World):Prop where
 len:β.length=h.length
 one:∀(k:Nat) (u:Value),β[k]?=some u->u.oneCell'=true
 blk:∀k b,h[k]?=some b->cn P (fun _=>False) Ψ β w k b
 sub:∀k b g,h[k]?=some b->af β k g b->own g/\¬MS bL g
 sep:∀j k bj bk g,j≠k->h[j]?=some bj->h[k]?=some bk->af β j g bj->af β k g bk->False
 mks:∀a v,a.spot=some 0->bL a=some v->own a.block/\a.off=0/\w.heap[a.block]?=some (.deferred (some []))
def qaQ(β:List Value)(h:List aB)(bL:Pr)(g:Nat):Prop:=(∃k b,h[k]?=some b/\af β k g b)\/MS bL g
theorem Addr.eq3{x y:Addr}(h1:x.block=y.block)(h2:x.off=y.off)(h3:x.spot=y.spot):x=y:=by
 cases x;cases y;simp_all
theorem aD.toR{fE:Pr}(hi:aD C.P B w0 fE β h w)(hm:∀a v,a.spot=some 0->bL a=some v->fE a=some v):C4 C.P bL (qaQ β h bL) fE β h w/\QF C.P B w0 (qaQ β h bL) (cut bL fE) w:=by
 have hmk:∀a v,a.spot=some 0->bL a=some v->a.off=0/\w.heap[a.block]?=some (.deferred (some [])):=fun ad v hs h0=>by
  have:=hi.prom ad v (hm ad v hs h0)
  unfold Pm at this;rw[hs]at this;exact this
 refine⟨⟨hi.len,hi.one,fun k b hk=>oD (bW.refl _).m (fun g _=>⟨rfl,id⟩) (hi.blk k b hk),fun k b g hk hc=>⟨.inl ⟨k,b,hk,hc⟩,?_⟩,hi.sep,fun ad v hs h0=>⟨.inr ⟨ad,v,hs,rfl,h0⟩,hmk ad v hs h0⟩⟩,hi.low,hi.size,fun ad v hv=>hi.prom ad v (F8 hv),fun ad v hv hs=>hi.own ad v (F8 hv) hs,?_,?_,hi.gQ.mono fun ad v hs hv=>Lu hv fun u h=>absurd h hs⟩
 ·rintro⟨ad,v,hs,rfl,h0⟩
  have h1:=hm ad v hs h0;rw[hi.free k b _ hk hc ad rfl (.inr (.inr hs))]at h1;cases h1
 ·rintro g (⟨k,b,hk,hc⟩|⟨ad,v,hs,rfl,h0⟩)
  ·exact ct (hi.blk k b hk) hc
  ·exact⟨hi.own ad v (hm ad v hs h0) hs,zO hi (hm ad v hs h0)⟩
 ·intro ad ho hp;cases hx:cut bL fE ad with
  |none=>rfl
  |some u=>
   exfalso
   have h1:=F8 hx;rcases ho with ⟨k,b,hk,hc⟩|⟨ad',v,hs,hb,h0⟩
   ·rw[hi.free k b _ hk hc ad rfl hp]at h1;cases h1
   ·obtain⟨e1,e2⟩:=hmk ad' v hs h0;rw[hb]at e2;have h2:=hi.prom ad u h1;rcases hp with hp|hp|hp
    ·exact uO e2 (mS hp h2)
    ·unfold Pm at h2;rw[hp]at h2;obtain⟨ms,cl,h3,_⟩:=h2;rw[e2]at h3;cases h3
    ·unfold Pm at h2;rw[hp]at h2;have:ad=ad':=Addr.eq3 hb.symm (by rw[h2.1,e1]) (by rw[hp,hs])
     subst this;rw[Oy hs h0]at hx;cases hx
theorem C4.inv{own:Nat->Prop}(hR:C4 C.P bL own (zT bL Ψ) β h w)(hG:QF C.P B w0 own Ψ w):aD C.P B w0 (zT bL Ψ) β h w where
 low:=hG.low
 size:=hG.size
 prom:=fun ad v hv=>by
  rcases rA hv with ⟨hs,h0⟩|h'
  ·obtain⟨_,e1,e2⟩:=hR.mks ad v hs h0;unfold Pm;rw[hs];exact⟨e1,e2⟩
  ·exact hG.prom ad v h'
 own:=fun ad v hv hs=>by
  rcases rA hv with ⟨_,h0⟩|h'
  ·exact (hG.mine _ (hR.mks ad v hs h0).1).1
  ·exact hG.marks ad v h' hs
 len:=hR.len
 one:=hR.one
 blk:=fun k b hk=>oD (bW.refl _).m (fun g hc=>⟨rfl,(hG.mine g (hR.sub k b g hk hc).1).1⟩) (hR.blk k b hk)
 free:=fun k b g hk hc ad had hp=>by
  cases hx:zT bL Ψ ad with
  |none=>rfl
  |some v=>
   exfalso
   rcases rA hx with ⟨hs,h0⟩|h'
   ·exact (hR.sub k b g hk hc).2 ⟨ad,v,hs,had,h0⟩
   ·rw[hG.free ad (by rw[had];exact (hR.sub k b g hk hc).1) hp]at h';cases h'
 sep:=hR.sep
 gQ:=hG.gQ.mono fun ad v hs hv=>by
  unfold zT;rw[if_neg hs];exact hv
theorem C4.keep{own:Nat->Prop}{ax:Pr}(hR:C4 C.P bL own (zT bL Ψ) β h w)(hl:TK Ψ ax)(hs:∀g,own g->w'.heap[g]?=w.heap[g]?):C4 C.P bL own (zT bL ax) β h w' where
 len:=hR.len
 one:=hR.one
 blk:=fun k b hk=>oD (Ua hl) (fun g hc=>⟨hs g (hR.sub k b g hk hc).1,id⟩) (hR.blk k b hk)
 sub:=hR.sub
 sep:=hR.sep
 mks:=fun ad v h1 h0=>⟨(hR.mks ad v h1 h0).1,(hR.mks ad v h1 h0).2.1,by rw[hs _ (hR.mks ad v h1 h0).1];exact (hR.mks ad v h1 h0).2.2⟩
theorem zU:∀{fs:List (List AV)} {as:List Act},aQ Ψ β fs as->∀a∈as,YK Ψ a
 |[],_,h,a,ha=>by simp only[aQ]at h;subst h;cases ha
 |_::_,_,⟨a1,as',e,⟨h1,_⟩,h3⟩,a,ha=>by
  subst e;rcases List.mem_cons.1 ha with rfl|ha
  ·exact h1
  ·exact zU h3 a ha
theorem sN{ax:Pr}(hp:bW (plain Ψ) ax):∀{fs:List (List AV)} {as:List Act},aQ Ψ β fs as->(∀a∈as,YK ax a)->aQ ax β fs as
 |[],_,h,_=>h
 |_::_,_,⟨a1,as',e,⟨h1,h2⟩,h3⟩,hd=>by
  subst e;exact⟨a1,as',rfl,⟨hd _ (by simp),cW hp h2⟩,sN hp h3 fun a ha=>hd a (by simp[ha])⟩
theorem qeW(h:YK bL a):YK (zT bL Ψ) a:=by
 obtain⟨ds,r,e,hr,hn,hd⟩:=h;exact⟨ds,r,e,hr,hn,fun D hD=>F9 rfl (hd D hD)⟩
theorem Jy{s0 s:St}{ws:List Nat}{as:List LA}{V6:Pr}{βh:List Value}{ah:Act}{x:dens (jD as)}{Bh:Nat->Prop}(hh:pn C Bh s0 ws as V6 βh ah As)(DK:∀i j,bX s0.top i= .sl j->j<s0.heap.length)(hsc:∀k cs i j,aH s0.heap k= .cells cs->bX cs i= .sl j->j<s0.heap.length)(hle:bW V6 Ψ)
 (hi:aD C.P B w0 Ψ β s.heap w) (hf:aQ Ψ β (s.top::s.below) (a::As)) (hS:a.tmps.size=ah.tmps.size/\∀i,i∉ws->a.tmps[i]?=ah.tmps[i]?) (hfit:fits as ws s0 s=true) (hP:lY (tF s0 ws as).heap s.heap True) (hx:lf s as=some x)
 {b0:aB} (hb0:aH s0.heap 0=b0) {p:ZC b0->Prop} (hp:Nu b0 (aH s.heap 0) p):
 ∃β' own z,p z/\aD C.P B w0 Ψ β' (uk b0 own z (oR s0 ws as x)).heap w/\aQ Ψ β' ((uk b0 own z (oR s0 ws as x)).top::(uk b0 own z (oR s0 ws as x)).below) (a::As)/\pn C B s0 ws as Ψ β' a As:=by
 obtain⟨hn',Ef,hH⟩:=Js hh DK hsc hle hi hf hS hfit hP hx;have gG:aD C.P B w0 Ψ (β.take s0.heap.length) (oR s0 ws as x).heap w:=hi.weaken (by rw[Ef.len];simp;omega) (fun j v=>lA) Ef.blk
 cases b0 with
 |log ys Y qtm Ih=>
  obtain⟨own,z,hb,hpz⟩:=hp;have h0:=aC hb (by simp)
  have hlt:0<s0.heap.length:=eW (aC hb0 (by simp))
  have qpR:(β.take s0.heap.length)[0]?=β[0]?:=bE hlt;obtain⟨b1,b2,b3,b4⟩:=hi.blk _ _ h0;obtain⟨bt,hbt⟩:∃bt,(oR s0 ws as x).heap[0]?=some bt:=⟨_,Waa (by rw[Ef.len];exact hlt)⟩
  have hG3:=Ef.nw (b:=.log ys Y own z) hbt ⟨by rw[qpR];exact b1,b2,b3,b4⟩ fun g hg=>⟨_,h0,hg⟩
  refine⟨β.take s0.heap.length,own,z,hpz,?_,hG3.fr,hH⟩
  show aD C.P B w0 Ψ _ (bw (oR s0 ws as x).heap 0 (.log ys Y own z)) w
  rw[aZ];exact hi.weaken (by rw[hG3.len];simp;omega) (fun j v=>lA) hG3.blk
 |gone=>exact⟨_,fun _=>False,(),hp,gG,Ef.fr,hH⟩
 |kV _ _ _=>exact⟨_,fun _=>False,(),hp,gG,Ef.fr,hH⟩
 |cells _=>exact⟨_,fun _=>False,(),hp,gG,Ef.fr,hH⟩
 |grow _ _ _=>exact⟨_,fun _=>False,(),hp,gG,Ef.fr,hH⟩
 |fH _=>exact⟨_,fun _=>False,(),hp,gG,Ef.fr,hH⟩
 |dmap _ _=>exact⟨_,fun _=>False,(),hp,gG,Ef.fr,hH⟩
 |eo _ _ _=>exact⟨_,fun _=>False,(),hp,gG,Ef.fr,hH⟩
 |loop _ _ _ _=>exact⟨_,fun _=>False,(),hp,gG,Ef.fr,hH⟩
 |dat _ _=>exact⟨_,fun _=>False,(),hp,gG,Ef.fr,hH⟩
 |eu _ _=>exact⟨_,fun _=>False,(),hp,gG,Ef.fr,hH⟩
 |xb _=>exact⟨_,fun _=>False,(),hp,gG,Ef.fr,hH⟩
end Go.AM
namespace Go.AM
open Go.RowKit
variable {B:Nat->Prop} {w0:World} {C:Ctx} {Ψ bL:Pr} {β:List Value} {h:List aB} {w w':World} {fr:List AV} {a a0:Act} {As:List Act} {W:List Nat}
theorem Ro{ad:Addr}{v:Value}(h:Ψ ad=some v)(hn:∀u,ad.spot=some 0->bL ad≠some u):zT bL Ψ ad=some v:=by
 unfold zT;split
 ·rename_i u hu;split at hu
  ·rename_i hs;exact absurd hu (hn u hs)
  ·cases hu
 ·exact h
theorem V8:bW (plain Ψ) (zT bL Ψ):=fun ad v hv=>by
 obtain⟨h1,h2⟩:=bY.1 hv;exact Ro h2 fun u hs=>by rw[h1]at hs;cases hs
theorem V9{fE:Pr}:bW (plain fE) (cut bL fE):=fun ad v hv=>by
 obtain⟨h1,h2⟩:=bY.1 hv;exact Lu h2 fun u hs=>by rw[h1]at hs;cases hs
theorem Oz{t:Ty}{av:AV}{v:Value}{x:t.den}(hx:qd7 t av=some x)(hr:aE Ψ β av v):aE Ψ [] (.rp t x) v:=by
 unfold qd7 at hx;split at hx
 ·rename_i u y;obtain⟨e,hy⟩:=bz hx;subst e;have hy:x=y:=hy;subst hy;exact hr
 ·cases hx
theorem Jz:∀{ts:List Ty} {dN:List AV} {vs:List Value} {x:dens ts},CA ts dN=some x->aL Ψ β dN vs->aL Ψ [] (rps ts x) vs
 |[],[],vs,x,_,hr=>hr
 |[],_::_,vs,x,hd,_=>by simp[CA]at hd
 |[t],[],vs,x,hd,_=>by simp[CA]at hd
 |[t],[av],vs,x,hd,⟨v,vs',e,hv,hl⟩=>⟨v,vs',e,Oz hd hv,hl⟩
 |[t],_::_::_,vs,x,hd,_=>by simp[CA]at hd
 |t::u::ts,[],vs,x,hd,_=>by simp[CA]at hd
 |t::u::ts,av::dN,vs,x,hd,⟨v,vs',e,hv,hl⟩=>by
  simp only[CA]at hd;split at hd
  ·cases hd
  ·rename_i y hy;split at hd
   ·cases hd
   ·rename_i z hz;simp only[Option.some.injEq]at hd;subst hd;exact⟨v,vs',e,Oz hy hv,Jz hz hl⟩
theorem Rp{j l:Nat}{s:St}(hn:uo j s=true)(hf:aQ Ψ β (s.top::s.below) (a::As))(bV:β[j]?=some (cm l)):a.tmps.toList=[cm l]:=by
 unfold uo at hn;split at hn
 ·rename_i i hi;simp only[Wag]at hn;subst hn;obtain⟨a1,as',e,⟨_,hl⟩,h3⟩:=hf;simp only[List.cons.injEq]at e;obtain⟨rfl,rfl⟩:=e;rw[hi]at hl;obtain⟨v,vs,e,⟨l',hv,rfl⟩,hn⟩:=hl;simp only[aL]at hn;subst hn;rw[bV]at hv;simp only[cm,Option.some.injEq,Value.func.injEq,Fn.yield.injEq,and_true]at hv;subst hv;exact e
 ·cases hn
theorem Rq{j l:Nat}{s0:St}{as:List LA}{Bh:Nat->Prop}(hn:uo j s0=true)(hH:pn C Bh s0 [] as Ψ β a As)(ha:a.tmps.toList=[cm l]):β[j]?=some (cm l):=by
 unfold uo at hn;split at hn
 ·rename_i i hi;simp only[Wag]at hn;subst hn;obtain⟨a1,as',e,⟨_,hl⟩,h3⟩:=hH.fr;simp only[List.cons.injEq]at e;obtain⟨rfl,rfl⟩:=e;rw[hi,ha]at hl;obtain⟨v,vs,e,hv,_⟩:=hl;simp only[List.cons.injEq]at e;obtain⟨rfl,_⟩:=e;have hv:aE Ψ β (.qd i) (cm l):=hv;obtain⟨l',h1,h2⟩:=hv;rw[h2];exact h1
 ·cases hn
theorem pn.keep{s0:St}{as:List LA}{ws:List Nat}{ax:Pr}{Bh B':Nat->Prop}(hH:pn C Bh s0 ws as Ψ β a As)(hl:TK Ψ ax)(hd:∀x∈a::As,YK ax x):pn C (fun _=>False) s0 ws as ax β a As:=
 ⟨hH.len,sN hl.plain hH.fr hd,let ⟨wh,hb⟩:=hH.blk;⟨wh,fun k b hk=>oD hl (fun g _=>⟨rfl,id⟩) (hb k b hk)⟩⟩
theorem Lv{call:gk}(hc:fc C call){f:FuncId}{l5:jC}(hS:E2 C.P f l5){dN:List AV}{vs:List Value}{s:St}{k:AV->St->Prop}(hk:QC C call f l5 dN s k)(hi:aD C.P B w0 Ψ β s.heap w)(hf:aQ Ψ β (s.top::s.below) As)(hr:aL Ψ β dN vs):
 Calls C.P f vs.toArray w fun e w'=>∃v ax β' av s',e= .returned v/\Ext B Ψ ax/\aD C.P B w0 ax β' s'.heap w'/\aQ ax β' (s'.top::s'.below) As/\aE ax β' av v/\k av s':=by
 unfold QC at hk;split at hk
 ·rename_i j cap;obtain⟨v,vs',rfl,⟨l,bV,rfl⟩,hcap⟩:=hr;split at hk
  ·exact hk.elim
  ·rename_i x hx;obtain⟨hpre,hk⟩:=hk;obtain⟨A8,hk⟩:=br hk;rw[ZE]at hk;unfold QB at hk;split at hk
   ·exact hk.elim
   ·rename_i x0 hx0;split at hk
    ·rename_i hfit;simp only[Wac]at hfit;obtain⟨⟨hn1,hn2⟩,hfit⟩:=hfit;obtain⟨I,hI0,FB,hend⟩:=hk;obtain⟨a,As',e,hfr⟩:∃a As',As=a::As'/\True:=by
      obtain⟨a1,as',e,_⟩:=hf;exact⟨a1,as',e,trivial⟩
     subst e;have hact:=Rp hn1 hf bV;obtain⟨jJ,hi1,o8⟩:=qL A8 hi hf;generalize hs0:cM s A8=s0 at*
     have DK:∀i j,bX s0.top i= .sl j->j<s0.heap.length:=by
      intro i j hij;have h1:=c9 _ _ (bf o8).2 i;rw[hij]at h1;rw[<-hi1.len];rcases Wak j jJ.length with h'|h'
      ·exact h'
      ·have h1:jJ[j]?=_:=h1.1;rw[Wai h']at h1;cases h1
     have hsc:∀k cs i j,aH s0.heap k= .cells cs->bX cs i= .sl j->j<s0.heap.length:=by
      intro k cs i j hk hij;obtain⟨g,c,e,_,_,_,h4,_⟩:=hi1.blk k _ (aC hk (by simp))
      have h1:=c9 _ _ h4 i;rw[hij]at h1;rw[<-hi1.len];rcases Wak j jJ.length with h'|h'
      ·exact h'
      ·have h1:jJ[j]?=_:=h1.1;rw[Wai h']at h1;cases h1
     have hh0:pn C B s0 [] A8 Ψ jJ a As':=⟨hi1.len,gF ⟨(bf o8).1,sJ (bf o8).2⟩ (sI (pq o8)),w,fun k b hb=>by
      obtain⟨b0,h1,h2⟩:=pg hb;rw[h2];exact FZ (hi1.blk k b0 h1)⟩
     obtain⟨K9,OA,z2,hI2,hi2,H6,hh2⟩:=Jy hh0 DK hsc (bW.refl _) hi1 o8 ⟨rfl,fun _ _=>rfl⟩ hfit (uN _) hx0 rfl hI0
     have qi2:∀{ax:Pr},∀y∈a::As',YK (zT Ψ ax) y:=fun y hy=>qeW (zU hf y hy)
     obtain⟨Y,hY⟩:∃Y:fM l5.ys,Y=⟨l,l5.items x,
      fun xs own ax w'=>∃β' ow z v,I xs z v/\C4 C.P Ψ own (zT Ψ ax) β' (uk (aH s0.heap 0) ow z (oR s0 [] A8 v)).heap w'/\
       aQ (zT Ψ ax) β' ((uk (aH s0.heap 0) ow z (oR s0 [] A8 v)).top::(uk (aH s0.heap 0) ow z (oR s0 [] A8 v)).below) (a::As')/\pn C (fun _=>False) s0 [] A8 (zT Ψ ax) β' a As',
      fun own ax w'=>∃β' s',C4 C.P Ψ own (zT Ψ ax) β' s'.heap w'/\aQ (zT Ψ ax) β' (s'.top::s'.below) (a::As')/\k (.lW []) s'⟩:=⟨_,rfl⟩
     have qeX:Y.KS:=by
      subst hY;refine⟨?_,?_⟩
      ·rintro xs own fE mZ w1 w2 ⟨β',ow,z,v,hI,hR,hF,hH⟩ hl hs
       exact⟨β',ow,z,v,hI,hR.keep hl hs,sN (Ua hl).plain hF qi2,hH.keep (B':=B) (Ua hl) qi2⟩
      ·rintro own fE mZ w1 w2 ⟨β',s',hR,hF,hk'⟩ hl hs
       exact⟨β',s',hR.keep hl hs,sN (Ua hl).plain hF qi2,hk'⟩
     have hstep:Y.Step C.P:=by
      subst hY;rintro xs y rest hit B' w0' own fE w1 vs1 ⟨β',ow,z,v,hI,hR,hF,hH⟩ hG bu
      have hi':=hR.inv hG;have hno:∀ad v u,fE ad=some v->ad.spot=some 0->Ψ ad≠some u:=fun ad v u hv hs h0=>by
       rw[hG.free ad (hR.mks ad u hs h0).1 (.inr (.inr hs))]at hv;cases hv
      obtain⟨l',r,e1,e2,e3,e4⟩:=hc.1 j _ _ _ (FB xs y rest hit ow z v hI) B' w0' (zT Ψ fE) β' (a::As') vs1 w1 hi' hF
       (aX (bW.refl _) (fun k v h=>by simp at h) _ _ (cW V8 bu))
      rw[Rq hn2 hH hact]at e1;simp only[cm,Option.some.injEq,Value.func.injEq,Fn.yield.injEq,and_true]at e1;subst e1;refine⟨r,e2,e3,RoundIn.mono e4 ?_⟩
      rintro e w' ⟨v1,mZ,β3,av,s',rfl,hE,YR,hF3,hv,hk3⟩
      have hm:∀a v,a.spot=some 0->Ψ a=some v->mZ a=some v:=fun ad v hs h0=>hE.1 _ _ (F9 hs h0)
      have Rr:Ext B' fE (cut Ψ mZ):=⟨fun ad v hv=>Lu (hE.1 _ _ (Ro hv fun u hs=>hno ad v u hv hs)) fun u hs=>hno ad v u hv hs,fun ad v hv=>by
       rcases hE.2 ad v (F8 hv) with h'|h'
       ·rcases rA h' with ⟨hs,h0⟩|h'
        ·rw[Oy hs h0]at hv;cases hv
        ·exact .inl h'
       ·exact .inr h'⟩
      split at hk3
      ·have hv:v1= .bool true:=hv;split at hk3
       ·rename_i v' AS;split at hk3
        ·rename_i qaP;obtain⟨hP3,hk3⟩:=(mq _ _).1 hk3;obtain⟨β4,ow',z',hI',hi4,hf4,hh4⟩:=Jy hH DK hsc hE.1 YR hF3 ⟨rfl,fun _ _=>rfl⟩ qaP hP3 AS rfl hk3
         obtain⟨hR',Lt⟩:=hi4.toR hm;refine⟨v1,_,cut Ψ mZ,rfl,Rr,Lt,.inl ⟨hv,β4,ow',z',v',hI',?_,?_,?_⟩⟩
         ·rw[qq hm];exact hR'
         ·rw[qq hm];exact hf4
         ·rw[qq hm];exact hh4.keep (B':=B) (bW.refl _).m (zU hF3)
        ·exact hk3.elim
       ·exact hk3.elim
      ·have hv:v1= .bool false:=hv;obtain⟨hR',Lt⟩:=YR.toR hm;refine⟨v1,_,cut Ψ mZ,rfl,Rr,Lt,.inr ⟨hv,β3,s',?_,?_,hk3⟩⟩
       ·rw[qq hm];exact hR'
       ·rw[qq hm];exact hF3
      ·exact hk3.elim
     have hm0:∀a v,a.spot=some 0->Ψ a=some v->Ψ a=some v:=fun _ _ _ h=>h
     obtain⟨hR0,hG0⟩:=hi2.toR hm0;have hYl:Y.l=l:=by rw[hY]
     have hYi:Y.items=l5.items x:=by rw[hY]
     have qpV:Y.R [] (qaQ K9 (uk (aH s0.heap 0) OA z2 (oR s0 [] A8 x0)).heap Ψ) (cut Ψ Ψ) w:=by
      rw[hY];refine⟨K9,OA,z2,x0,hI2,?_,?_,?_⟩
      ·rw[qq hm0];exact hR0
      ·rw[qq hm0];exact H6
      ·rw[qq hm0];exact hh2.keep (B':=B) (bW.refl _).m (zU hf)
     have hcl:=hS B w0 Y x _ _ w vs' hpre hYi qeX hstep qpV hG0 (cW V9 (Jz hx hcap));rw[hYl]at hcl;refine hcl.mono ?_
     rintro e w' ⟨bT,ax,rfl,hE,hG,hor⟩
     have Rr:Ext B Ψ (zT Ψ ax):=⟨fun ad v hv=>by
      by_cases hs:ad.spot=some 0
      ·exact F9 hs hv
      ·exact Ro (hE.1 _ _ (Lu hv fun u h=>absurd h hs)) fun u h=>absurd h hs,fun ad v hv=>by
      rcases rA hv with ⟨_,h0⟩|h'
      ·exact .inl h0
      ·exact (hE.2 ad v h').imp F8 id⟩
     rw[hY]at hor;rcases hor with ⟨β',ow,z,v,hI,hR,hF,hH⟩|⟨β',s',hR,hF,hk'⟩
     ·exact⟨_,zT Ψ ax,β',.lW [],_,rfl,Rr,hR.inv hG,hF,⟨[],rfl,rfl⟩,hend ow z v hI⟩
     ·exact⟨_,zT Ψ ax,β',.lW [],s',rfl,Rr,hR.inv hG,hF,⟨[],rfl,rfl⟩,hk'⟩
    ·exact hk.elim
 ·exact hk.elim
end Go.AM
namespace Go.AM
open Go.RowKit
variable {B:Nat->Prop} {w0:World} {C:Ctx} {Ψ bL:Pr} {β:List Value} {h:List aB} {w w':World} {fr:List AV} {a a0:Act} {As:List Act} {W:List Nat}
theorem cast_eq{t u:Ty}{x:t.den}{y:u.den}(h:match bR t u x with|some z=>z=y|none=>False):AV.d t x=AV.d u y/\AV.rp t x=AV.rp u y:=by
 split at h
 ·rename_i z hz;obtain⟨e,he⟩:=bz hz;subst e;have he:z=x:=he;subst he;subst h;exact⟨rfl,rfl⟩
 ·exact h.elim
mutual
theorem Rs:∀{a b:AV},eqV a b->a=b
 | .bJ,b,h=>by cases b<;>first|rfl|exact h.elim
 | .tt,b,h=>by cases b<;>first|rfl|exact h.elim
 | .ff,b,h=>by cases b<;>first|rfl|exact h.elim
 | .iX,b,h=>by cases b<;>first|rfl|exact h.elim
 | .nk,b,h=>by cases b<;>first|rfl|exact h.elim
 | .nq,b,h=>by cases b<;>first|rfl|exact h.elim
 | .d t x,b,h=>by
  cases b<;>first|exact h.elim|skip
  exact (cast_eq h).1
 | .rp t x,b,h=>by
  cases b<;>first|exact h.elim|skip
  exact (cast_eq h).2
 | .own k o,b,h=>by
  cases b<;>first|exact h.elim|skip
  rename_i k' o';simp only[eqV]at h;split at h
  ·rename_i e;simp only[Wac,Wag]at e;rw[e.1,e.2]
  ·exact h.elim
 | .fn f cs,b,h=>by
  cases b<;>first|exact h.elim|skip
  rename_i g ds;simp only[eqV]at h;split at h
  ·rename_i e;rw[Wam e,Eh h]
  ·exact h.elim
 | .xw f cs,b,h=>by
  cases b<;>first|exact h.elim|skip
  rename_i g ds;simp only[eqV]at h;split at h
  ·rename_i e;rw[Wam e,Eh h]
  ·exact h.elim
 | .lO,b,h=>h.elim
 | .fs _ _,b,h=>h.elim
 | .agg _,b,h=>h.elim
 | .lW _,b,h=>h.elim
 | .sl _,b,h=>h.elim
 | .tX _ _ _,b,h=>h.elim
 | .qd _,b,h=>h.elim
 | .sv _ _ _ _,b,h=>h.elim
 | .Ko _,b,h=>h.elim
 | .oM _,b,h=>h.elim
 | .DS _ _ _ _,b,h=>h.elim
 | .yX _ _ _ _ _,b,h=>h.elim
 | .lI _ _ _ _,b,h=>h.elim
 | .DT _ _,b,h=>h.elim
theorem Eh:∀{a b:List AV},ZF a b->a=b
 |[],b,h=>by cases b<;>first|rfl|exact h.elim
 |c::cs,b,h=>by
  cases b<;>first|exact h.elim|skip
  rw[Rs h.1,Eh h.2]
end
theorem qaS{t:Ty}{x:t.den}{b:Bool}{v:Value}(h:match bR .bool t b with|some z=>z=x|none=>False)(hv:v= .bool b):aE Ψ β (.d t x) v:=by
 split at h
 ·rename_i z hz;obtain⟨e,he⟩:=bz hz;subst e;have he:z=b:=he;subst he;subst h;subst hv;exact⟨[.bool z],rfl,by simp[Ty.isAgg]⟩
 ·exact h.elim
theorem qaT{a b:AV}{v:Value}(h:qh1 a b)(hr:aE Ψ β a v):aE Ψ β b v:=by
 unfold qh1 at h;split at h
 ·trivial
 ·split at h
  ·exact qaS h hr
  ·exact qaS h hr
  ·rw[<-(cast_eq h).1];obtain⟨_,_,hr⟩:=hr;exact hr
  ·rw[<-Rs h];exact hr
 ·rw[<-Rs h];exact hr
theorem Ga:∀{a b:List AV} {vs:List Value},qed a b->aL Ψ β a vs->aL Ψ β b vs
 |[],b,vs,h,hr=>by cases b<;>first|exact hr|exact h.elim
 |c::cs,b,vs,h,hr=>by
  cases b<;>first|exact h.elim|skip
  obtain⟨v,vs',e,h1,h2⟩:=hr;exact⟨v,vs',e,qaT h.1 h1,Ga h.2 h2⟩
theorem Lw:∀{h t:List aB},qee h t->t.length<=h.length/\∀(k:Nat) (ds:List AV),t[k]?=some (aB.cells ds)->∃cs:List AV,h[k]?=some (aB.cells cs)/\qed cs ds
 |h,[],_=>⟨by simp,fun k ds hk=>by simp at hk⟩
 |[],_::_,hh=>hh.elim
 |b::h,t::ts,hh=>by
  obtain⟨h1,h2⟩:=hh;obtain⟨l1,l2⟩:=Lw h2;refine⟨by simp;omega,fun k ds hk=>?_⟩
  cases k with
  |zero=>
   simp at hk
   subst hk;simp only at h1
   split at h1
   ·exact⟨_,rfl,h1⟩
   ·exact h1.elim
  |succ k=>
   simp at hk
   obtain⟨cs,h3,h4⟩:=l2 k ds hk;exact⟨cs,by simpa using h3,h4⟩
theorem OB{t:List aB}{k:Nat}(h:isCells (aH t k)=true):∃cs:List AV,t[k]?=some (aB.cells cs):=by
 cases hg:aH t k<;>rw[hg]at h<;>first|(cases h;done)|skip
 exact⟨_,aC hg (by simp)⟩
mutual
theorem qeY{t:List aB}{β':List Value}(hb:∀(k:Nat) (cs:List AV) (u:Value),t[k]?=some (aB.cells cs)->β[k]?=some u->β'[k]?=some u):∀(av:AV) {v:Value},YI t av=true->aE Ψ β av v->aE Ψ β' av v
 | .own k o,v,h,hr=>by
  obtain⟨g,h1,h2⟩:=hr;obtain⟨cs,hc⟩:=OB h;exact⟨g,hb k cs _ hc h1,h2⟩
 | .agg cs,v,h,⟨vs,h1,h2,h3⟩=>⟨vs,h1,m7 hb cs h h2,h3⟩
 | .lW cs,v,h,⟨vs,h1,h2⟩=>⟨vs,h1,m7 hb cs h h2⟩
 | .fn f cs,v,h,⟨vs,h1,h2⟩=>⟨vs,h1,m7 hb cs h h2⟩
 | .xw f cs,v,h,⟨vs,h1,h2⟩=>⟨vs,h1,m7 hb cs h h2⟩
 | .bJ,_,_,hr| .lO,_,_,hr| .tt,_,_,hr| .ff,_,_,hr| .d _ _,_,_,hr| .fs _ _,_,_,hr| .iX,_,_,hr| .nk,_,_,hr| .nq,_,_,hr| .rp _ _,_,_,hr=>hr
 | .sl _,_,h,_| .tX _ _ _,_,h,_| .sv _ _ _ _,_,h,_| .qd _,_,h,_| .DS _ _ _ _,_,h,_| .yX _ _ _ _ _,_,h,_| .lI _ _ _ _,_,h,_| .DT _ _,_,h,_=>by cases h
 | .Ko _,_,_,hr=>hr
 | .oM _,_,_,hr=>hr
theorem m7{t:List aB}{β':List Value}(hb:∀(k:Nat) (cs:List AV) (u:Value),t[k]?=some (aB.cells cs)->β[k]?=some u->β'[k]?=some u):∀(l:List AV) {vs:List Value},H9 t l=true->aL Ψ β l vs->aL Ψ β' l vs
 |[],_,_,hr=>hr
 |c::cs,vs,h,⟨v,vs',e,h1,h2⟩=>by
  simp only[H9,Wac]at h;exact⟨v,vs',e,qeY hb c h.1 h1,m7 hb cs h.2 h2⟩
end
theorem sO{t:List aB}:∀{bs:List aB},okH t bs=true->∀(k:Nat) b,bs[k]?=some b->b= .gone\/∃cs:List AV,b= .cells cs/\H9 t cs=true
 |[],_,k,b,hk=>by simp at hk
 |x::bs,h,k,b,hk=>by
  simp only[okH,Wac]at h;cases k with
  |zero=>
   simp at hk
   subst hk;cases x<;>first|exact .inl rfl|exact .inr ⟨_,rfl,h.1⟩|(cases h.1;done)
  |succ k=>exact sO h.2 k b (by simpa using hk)
theorem BE:∀{t u:List aB},KR t u=true->t.length=u.length/\∀(k:Nat) b c,t[k]?=some b->u[k]?=some c->isCells b=isCells c
 |[],u,h=>by
  cases u with
  |nil=>exact⟨rfl,fun k b c hk=>by simp at hk⟩
  |cons=>cases h
 |b::t,u,h=>by
  cases u with
  |nil=>cases h
  |cons c u=>
   simp only[KR,Wac,beq_iff_eq]at h;obtain⟨l1,l2⟩:=BE h.2;refine⟨by simp[l1],fun k b' c' hk hk'=>?_⟩
   cases k with
   |zero=>simp at hk hk';subst hk hk';exact h.1
   |succ k=>exact l2 k b' c' (by simpa using hk) (by simpa using hk')
theorem Ei:∀{h t:List aB} (k:Nat) (b:aB),(E0 h t)[k]?=some b->(∃cs:List AV,t[k]?=some (aB.cells cs)/\b= .cells cs/\k<h.length)\/(h[k]?=some b/\∀cs:List AV,t[k]? ≠some (aB.cells cs))
 |[],t,k,b,hk=>by simp[E0]at hk
 |x::h,[],k,b,hk=>.inr ⟨by simpa [E0]using hk,by simp⟩
 |x::h,y::t,k,b,hk=>by
  cases k with
  |zero=>
   simp only[E0,Wbh,Option.some.injEq]at hk;cases y<;>simp only at hk<;>subst hk<;>first|exact .inl ⟨_,rfl,rfl,by simp⟩|exact .inr ⟨rfl,by simp⟩
  |succ k=>
   simp only[E0,WcA]at hk;rcases Ei k b hk with ⟨cs,h1,h2,h3⟩|⟨h1,h2⟩
   ·exact .inl ⟨cs,by simpa using h1,h2,by simp;omega⟩
   ·exact .inr ⟨by simpa using h1,by simpa using h2⟩
theorem OC:∀{h t:List aB},(E0 h t).length=h.length
 |[],t=>rfl
 |x::h,[]=>rfl
 |x::h,y::t=>by simp[E0,OC (h:=h) (t:=t)]
theorem Gb{b:aB}(h:isCells b=true):∃cs:List AV,b= .cells cs:=by
 cases b<;>first|exact⟨_,rfl⟩|cases h
theorem OD{hsp:kZ}{f:FuncId}{dN:List AV}{vs:List Value}{s:St}{k:AV->St->Prop}(hS:E3 C.P f hsp)(hk:ZH hsp dN s k)(hi:aD C.P B w0 Ψ β s.heap w)(hf:aQ Ψ β (s.top::s.below) As)(hr:aL Ψ β dN vs):
 Calls C.P f vs.toArray w fun e w'=>∃v ax β' av s',e= .returned v/\Ext B Ψ ax/\aD C.P B w0 ax β' s'.heap w'/\aQ ax β' (s'.top::s'.below) As/\aE ax β' av v/\k av s':=by
 unfold ZH at hk;split at hk
 ·rename_i x y hx hy;split at hk
  ·rename_i hc;simp only[Wac]at hc;obtain⟨hn,hsh⟩:=hc;obtain⟨hcap,himp,hpre,hk⟩:=hk;have qi3:=hsh;unfold ZG at qi3;simp only[Wac]at qi3;obtain⟨⟨ho1,ho2⟩,ho3,ho4⟩:=qi3;obtain⟨hlen,yU⟩:=Lw himp;have tW:cS (takeN (zm hsp.ps) dN)=[]:=gD hn;rw[oV]at hx tW;rw[qZ]at hcap;have hcap:=Eh hcap;have hrt:=l7 (zm hsp.ps) _ _ hr;have hrd:=l8 (zm hsp.ps) _ _ hr;rw[hcap]at hrd;have hargs:aL Ψ [] (outs hsp.ps x) (vs.take (zm hsp.ps)):=gE (bW.refl _) hx hrt (by rw[tW];exact cc.nil)
   obtain⟨t,ht⟩:∃t,t=hsp.h y:=⟨_,rfl⟩
   obtain⟨t',ht'⟩:∃t',t'=hsp.h (hsp.aft x y):=⟨_,rfl⟩
   rw[<-ht]at ho1 ho2 ho4 hlen yU;rw[<-ht']at ho3 ho4;obtain⟨YO,hsame⟩:=BE ho4;have hm:t.length<=s.heap.length:=hlen;have qaU:∀(k:Nat) (cs:List AV) (u:Value),t[k]?=some (aB.cells cs)->β[k]?=some u->(β.take t.length)[k]?=some u:=fun k cs u hk hu=>by
    have:k<t.length:=eW hk
    rw[bE this];exact hu
   obtain⟨B',T0⟩:∃B':Nat->Prop,B'=fun g=>B g\/∃k b,s.heap[k]?=some b/\af β k g b/\∀cs:List AV,t[k]? ≠some (aB.cells cs):=⟨_,rfl⟩
   have hB1:∀g,B g->B' g:=fun g hg=>by rw[T0];exact .inl hg
   have hi1:aD C.P B' w Ψ (β.take t.length) t w:=by
    refine⟨dJ.refl _ _,?_,hi.prom,?_,by rw[Waf,hi.len];omega,fun k u hu=>hi.one k u (lA hu),?_,?_,?_,hi.gQ⟩
    ·intro g hg;rw[T0]at hg;rcases hg with hg|⟨k,b,h1,h2,_⟩
     ·exact hi.size g hg
     ·exact (ct (hi.blk k b h1) h2).2
    ·intro ad v hv hs hg;rw[T0]at hg;rcases hg with hg|⟨k,b,h1,h2,_⟩
     ·exact hi.own ad v hv hs hg
     ·rw[hi.free k b _ h1 h2 ad rfl (.inr (.inr hs))]at hv;cases hv
    ·intro k b Il;rcases sO ho1 k b Il with rfl|⟨ds,rfl,hok⟩
     ·trivial
     ·obtain⟨cs,h1,h2⟩:=yU k ds Il;obtain⟨g,c,e,b1,b2,b3,b4,b5⟩:=hi.blk k _ h1;refine⟨g,c,e,qaU k ds _ Il b1,b2,?_,m7 qaU ds hok (Ga h2 b4),b5⟩
      rw[T0];rintro (hg|⟨j,b,j1,j2,j3⟩)
      ·exact b3 hg
      ·by_cases cY:j=k
       ·subst cY;exact j3 _ Il
       ·exact hi.sep j k b _ g cY j1 h1 j2 b1
    ·intro k b g Il hcl;rcases sO ho1 k b Il with rfl|⟨ds,rfl,hok⟩
     ·exact hcl.elim
     ·obtain⟨cs,h1,h2⟩:=yU k ds Il;exact hi.free k _ g h1 (show af β k g (.cells cs) from lA hcl)
    ·intro i j bi bj g hij yV xM rO n6;rcases sO ho1 i bi yV with rfl|⟨di,rfl,_⟩
     ·exact rO.elim
     ·rcases sO ho1 j bj xM with rfl|⟨dj,rfl,_⟩
      ·exact n6.elim
      ·obtain⟨ci,h1,_⟩:=yU i di yV;obtain⟨cj,h2,_⟩:=yU j dj xM;exact hi.sep i j _ _ g hij h1 h2 (show af β i g (.cells ci) from lA rO) (show af β j g (.cells cj) from lA n6)
   have qaV:aL Ψ (β.take t.length) hsp.cap (vs.drop (zm hsp.ps)):=m7 qaU _ ho2 hrd;have qhk:=hS B' w Ψ (β.take t.length) w x y _ _ hsh (by rw[<-ht];exact hi1) hargs qaV hpre
   rw[Wax,<-ht']at qhk;refine qhk.mono ?_
   rintro e w' ⟨v,ax,rfl,hE,hi2,hv⟩
   have Rr:Ext B Ψ ax:=⟨hE.1,fun ad u hu=>(hE.2 ad u hu).imp id fun h hb=>h (hB1 _ hb)⟩
   refine⟨v,ax,β,_,{s with heap:=E0 s.heap t'},rfl,Rr,?_,bF hE.1 (fun _ _ h=>h) _ _ hf,jk (bW.refl _) (fun k v h=>by simp at h) _ _ hv,by rw[ht'];exact hk⟩
   have old:∀{k:Nat} {cs:List AV},t'[k]?=some (.cells cs)->∃(ds cs':List AV),t[k]?=some (aB.cells ds)/\s.heap[k]?=some (aB.cells cs'):=fun {k cs} hk=>by
    have hlt:k<t.length:=by rw[YO];exact eW hk
    obtain⟨ds,hds⟩:=Gb (by rw[hsame k t[k] _ (Waa hlt) hk];rfl:isCells t[k]=true)
    have h1:t[k]?=some (.cells ds):=by rw[Waa hlt,hds]
    obtain⟨cs',h2,_⟩:=yU k ds h1;exact⟨ds,cs',h1,h2⟩
   have new:∀{k:Nat} {cs:List AV},t[k]?=some (.cells cs)->∃ds:List AV,t'[k]?=some (aB.cells ds):=fun {k cs} hk=>by
    have hlt:k<t'.length:=by rw[<-YO];exact eW hk
    obtain⟨ds,hds⟩:=Gb (by rw[<-hsame k _ t'[k] hk (Waa hlt)];rfl:isCells t'[k]=true)
    exact⟨ds,by rw[Waa hlt,hds]⟩
   have back:∀{k:Nat} {b:aB} {g:Nat},(E0 s.heap t')[k]?=some b->af β k g b->∃b',s.heap[k]?=some b'/\af β k g b':=fun {k b g} hk hc=>by
    rcases Ei k b hk with ⟨cs,h1,rfl,_⟩|⟨h1,_⟩
    ·obtain⟨ds,cs',_,h3⟩:=old h1;exact⟨_,h3,hc⟩
    ·exact⟨b,h1,hc⟩
   refine⟨hi.low.trans ⟨hi2.low.os,hi2.low.tape,hi2.low.output,hi2.low.size,fun g hg=>hi2.low.block g (hB1 g hg)⟩,fun g hg=>hi2.size g (hB1 g hg),hi2.prom,fun ad u hu hs hb=>hi2.own ad u hu hs (hB1 _ hb),by rw[hi.len];exact (OC).symm,hi.one,?_,?_,?_,hi2.gQ⟩
   ·intro k b Il;rcases Ei k b Il with ⟨cs,h1,rfl,_⟩|⟨h1,h2⟩
    ·obtain⟨g,c,e,b1,b2,b3,b4,b5⟩:=hi2.blk k _ h1;exact⟨g,c,e,lA b1,b2,fun hb=>b3 (hB1 g hb),aX (bW.refl _) (fun j u=>lA) _ _ b4,b5⟩
    ·have hb:=hi.blk k b h1;have hno:∀cs:List AV,t[k]? ≠some (aB.cells cs):=fun cs hc=>by obtain⟨ds,hd⟩:=new hc;exact h2 ds hd
     exact oD (bW.m hE.1) (fun g hc=>⟨hi2.low.block g (by rw[T0];exact .inr ⟨k,b,h1,hc,hno⟩),(ct hb hc).1⟩) hb
   ·intro k b g Il hcl ad had hsp;rcases Ei k b Il with ⟨cs,h1,rfl,_⟩|⟨h1,h2⟩
    ·have qpW:af (β.take t.length) k g (.cells cs):=by
      have hlt:k<t.length:=by rw[YO];exact eW h1
      show (β.take t.length)[k]?=_
      rw[bE hlt];exact hcl
     exact hi2.free k _ g h1 qpW ad had hsp
    ·cases hp:ax ad with
     |none=>rfl
     |some u=>
      exfalso
      have hno:∀cs:List AV,t[k]? ≠some (aB.cells cs):=fun cs hc=>by obtain⟨ds,hd⟩:=new hc;exact h2 ds hd
      rcases hE.2 ad u hp with h'|h'
      ·rw[hi.free k b g h1 hcl ad had hsp]at h';cases h'
      ·exact h' (by rw[T0,had];exact .inr ⟨k,b,h1,hcl,hno⟩)
   ·intro i j bi bj g hij yV xM rO n6;obtain⟨bi',h1,h2⟩:=back yV rO;obtain⟨bj',h3,h4⟩:=back xM n6;exact hi.sep i j _ _ g hij h1 h3 h2 h4
  ·exact hk.elim
 ·exact hk.elim
theorem qhl{P:Program}{tid:TypeId}{e:Ty}{xs:List e.den}{j:Nat}{v:Value}(bV:β[j]?=some v)(hb:cn P B Ψ β w j (.grow tid e xs)):cn P B Ψ [v] w 0 (.grow tid e xs):=by
 unfold cn at*;rw[bV]at hb;exact hb
theorem Rt{g:ua}{f:FuncId}{dN:List AV}{vs:List Value}{s:St}{k:AV->St->Prop}(hS:ZM C.P f g)(hk:qh2 g dN s k)(hi:aD C.P B w0 Ψ β s.heap w)(hf:aQ Ψ β (s.top::s.below) As)(hr:aL Ψ β dN vs):
 Calls C.P f vs.toArray w fun e w'=>∃v ax β' av s',e= .returned v/\Ext B Ψ ax/\aD C.P B w0 ax β' s'.heap w'/\aQ ax β' (s'.top::s'.below) As/\aE ax β' av v/\k av s':=by
 unfold qh2 at hk;split at hk
 ·rename_i j a1 j2;obtain⟨v1,_,rfl,Vo,va,_,rfl,hva,v2,_,rfl,hv2,hnil⟩:=hr;simp only[aL]at hnil;subst hnil;split at hk
  ·rename_i tid e xs qef e2 ys x hg hg2 hx;split at hk
   ·rename_i hc;simp only[Wac,Wag,WaU,<-Bool.not_eq_true]at hc;obtain⟨⟨⟨rfl,rfl⟩,hn⟩,hjj⟩:=hc;split at hk
    ·rename_i zs us Fh Qg;obtain⟨he,rfl⟩:=bz Fh;simp only[Ty.arr.injEq]at he;subst he;obtain⟨he,rfl⟩:=bz Qg;simp only[Ty.arr.injEq]at he;subst he;obtain⟨hpre,hk⟩:=hk;have aH:=aC hg (by simp)
     have qhm:=aC hg2 (by simp)
     have bV:β[j]?=some v1:=Vo.1;have qmC:β[j2]?=some v2:=hv2.1;have hne:j≠j2:=fun e=>hjj e
     have tW:refs a1=[]:=by
      have:=o6 hn
      simpa [cS]using this
     have vD:rv Ψ g.p x va:=ku (bW.refl _) hx hva (by rw[tW];exact cc.nil)
     have clf:∀{jj q:Nat} {v:Value} {zs:List g.e.den},β[jj]?=some v->af [v] 0 q (.grow g.tid g.e zs)->af β jj q (.grow g.tid g.e zs):=fun hb hc=>by
      obtain⟨n,cap,h1,h2⟩:=hc;exact⟨n,cap,h1,hb.trans h2⟩
     have hjl:j<β.length:=by
      rcases Wak j β.length with h'|h'
      ·exact h'
      ·rw[Wai h']at bV;cases bV
     refine (hS B Ψ w v1 va v2 x _ _ hi.size (qhl bV (hi.blk j _ aH)) (qhl qmC (hi.blk j2 _ qhm)) (fun q h1 h2=>hi.sep j j2 _ _ q hne aH qhm (clf bV h1) (clf qmC h2)) vD hpre).mono ?_
     rintro e' w' ⟨u,row,rfl,xN,hrow,hone,eV,hcl⟩
     have hn':(β.set j u)[j]?=some u:=WaC hjl;refine⟨u,Ψ,β.set j u,.sl j,_,rfl,Ext.refl _ _,?_,?_,⟨hn',iN (eV _ _ hn') hn'⟩,hk⟩
     ·show aD C.P B w0 Ψ _ (kg j .bJ (bw s.heap j _)) w'
      rw[aZ];exact hi.Z3 aH xN (fun q e=>clf bV (hrow q e)) hone (eV _ _ hn') (fun q hc=>hcl _ _ q hn' hc)
     ·exact uA j .bJ (bW.refl _) (fun _ _=>trivial) (fun i v cY hv=>cB cY hv) (fun g hp=>absurd hp (su (hi.blk j _ aH))) (fun l hy=>absurd hy (sw (hi.blk j _ aH))) _ _ hf
    ·exact hk.elim
   ·exact hk.elim
  ·exact hk.elim
 ·exact hk.elim
end Go.AM
