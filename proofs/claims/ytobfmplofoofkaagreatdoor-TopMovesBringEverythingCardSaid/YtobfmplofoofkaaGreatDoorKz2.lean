import Derived.Test.YtobfmplofoofkaaGreatDoorKz1
set_option linter.unusedSimpArgs false
set_option linter.unusedVariables false
namespace Go.AM
open Go.RowKit
variable {C:Ctx}
def bW(Ψ ax:Pr):Prop:=∀a v,Ψ a=some v->ax a=some v
theorem bW.refl(Ψ:Pr):bW Ψ Ψ:=fun _ _ h=>h
theorem eS{α:Type}{R R':α->List Value->Prop}(h:∀x vs,R x vs->R' x vs):∀(xs:List α) (vs:List Value),gu R xs vs->gu R' xs vs
 |[],_,hv=>hv
 |_::xs,_,⟨c,vs',e,hc,hr⟩=>⟨c,vs',e,h _ _ hc,eS h xs vs' hr⟩
theorem E4{Ψ ax:Pr}(h:bW Ψ ax){a:Option Addr}{vs:List Value}:rowAt Ψ a vs->rowAt ax a vs
 |⟨g,off,e,hc⟩=>⟨g,off,e,fun j u hj=>h _ _ (hc j u hj)⟩
theorem IV{α:Type}{R R':α->List Value->Prop}:∀(xs:List α) (vs:List Value),(∀x∈xs,∀vs,R x vs->R' x vs)->gu R xs vs->gu R' xs vs
 |[],_,_,hv=>hv
 |x::xs,_,h,⟨c,vs',e,hc,hr⟩=>⟨c,vs',e,h x (by simp) _ hc,IV xs vs' (fun y hy=>h y (by simp[hy])) hr⟩
theorem Nx{Ψ:Pr}{α β:Type}{Ra:α->List Value->Prop}{Rb:β->List Value->Prop}:∀(ys:List (Rose (α×β))) (vs:List Value),ZK Ψ Ra Rb ys vs↔gu (rdR Ψ Ra Rb) ys vs
 |[],vs=>by simp[ZK,gu]
 |y::ys,vs=>by simp only[ZK,gu,Nx ys]
theorem r8{Ψ:Pr}{α β:Type}{Ra:α->List Value->Prop}{Rb:β->List Value->Prop}(r:Rose (α×β))(vs:List Value):
 rdR Ψ Ra Rb r vs↔∃u s w,vs=u++s::w/\Ra r.val.1 u/\Rb r.val.2 w/\∃a cap,s= .slice a r.aN.length cap/\r.aN.length<=cap/\cap<=maxLen/\(r.aN=[]\/∃cells,gu (rdR Ψ Ra Rb) r.aN cells/\rowAt Ψ a cells):=by
 cases r with
 |node x ys=>simp only[rdR,Rose.val,Rose.aN,Nx]
theorem r9{Ψ:Pr}{a b:Ty}(r:Rose (a.den×b.den))(vs:List Value):
 reads Ψ (.dR a b) r vs↔∃u s w,vs=u++s::w/\reads Ψ a r.val.1 u/\reads Ψ b r.val.2 w/\reads Ψ (.arr (.dR a b)) r.aN [s]:=by
 constructor
 ·intro h;obtain⟨u,s,w,h1,h2,h3,a',cap,h4,h5,h6,h7⟩:=(r8 r vs).1 h;exact⟨u,s,w,h1,h2,h3,a',cap,by rw[h4],h5,h6,h7⟩
 ·rintro⟨u,s,w,h1,h2,h3,a',cap,h4,h5,h6,h7⟩
  exact (r8 r vs).2 ⟨u,s,w,h1,h2,h3,a',cap,by simpa using h4,h5,h6,h7⟩
theorem Ny{Ψ ax:Pr}(h:∀a vs,rowAt Ψ a vs->rowAt ax a vs){α β:Type}{Ra Ra':α->List Value->Prop}{Rb Rb':β->List Value->Prop}(ha:∀x vs,Ra x vs->Ra' x vs)(hb:∀x vs,Rb x vs->Rb' x vs):
 ∀(r:Rose (α×β)) (vs:List Value),rdR Ψ Ra Rb r vs->rdR ax Ra' Rb' r vs:=
 Rose.ind fun x l ih vs hr=>by
  obtain⟨u,s,w,h1,h2,h3,a',cap,h4,h5,h6,h7⟩:=(r8 _ vs).1 hr;exact (r8 _ vs).2 ⟨u,s,w,h1,ha _ _ h2,hb _ _ h3,a',cap,h4,h5,h6,h7.imp id fun ⟨cells,hd,hrow⟩=>⟨cells,IV _ _ ih hd,h _ _ hrow⟩⟩
theorem aR{Ψ ax:Pr}(h:bW Ψ ax):∀(t:Ty) (x:t.den) (cs:List Value),reads Ψ t x cs->reads ax t x cs
 | .int _,_,_,hr=>hr
 | .bool,_,_,hr=>hr
 | .qi,_,_,hr=>hr
 | .any,_,_,hr=>hr
 | .str,_,_,hr=>hr
 | .unit,_,_,hr=>hr
 | .arr e,_,_,⟨a,cap,e1,h1,h2,h3⟩=>⟨a,cap,e1,h1,h2,h3.imp id fun ⟨cells,hd,hrow⟩=>⟨cells,eS (aR h e) _ _ hd,E4 h hrow⟩⟩
 | .vec _ e,_,_,⟨h1,h2⟩=>⟨h1,eS (aR h e) _ _ h2⟩
 | .pair a b,_,_,⟨u,v,e,h1,h2⟩=>⟨u,v,e,aR h a _ _ h1,aR h b _ _ h2⟩
 | .dR a b,r,vs,hr=>Ny (fun _ _=>E4 h) (aR h a) (aR h b) r vs hr
theorem sg{Ψ ax:Pr}:∀(t:Ty) (x:t.den) (cs:List Value),t.flat=true->reads Ψ t x cs->reads ax t x cs
 | .int _,_,_,_,hr=>hr
 | .bool,_,_,_,hr=>hr
 | .qi,_,_,_,hr=>hr
 | .any,_,_,_,hr=>hr
 | .str,_,_,_,hr=>hr
 | .unit,_,_,_,hr=>hr
 | .arr e,_,_,hf,_=>by simp[Ty.flat]at hf
 | .vec _ e,_,_,hf,⟨h1,h2⟩=>⟨h1,eS (fun x vs=>sg e x vs (by simpa [Ty.flat]using hf)) _ _ h2⟩
 | .pair a b,_,_,hf,⟨u,v,e,h1,h2⟩=>by
  simp only[Ty.flat,Wac]at hf;exact⟨u,v,e,sg a _ _ hf.1 h1,sg b _ _ hf.2 h2⟩
 | .dR _ _,_,_,hf,_=>by simp[Ty.flat]at hf
theorem gx{α:Type}{R:α->List Value->Prop}{n:Nat}(h:∀x vs,R x vs->vs.length=n):∀(xs:List α) (vs:List Value),gu R xs vs->vs.length=xs.length*n
 |[],_,hv=>by simp[gu]at hv;simp[hv]
 |_::xs,_,⟨c,vs',e,hc,hr⟩=>by
  rw[e,Wad,h _ _ hc,gx h xs vs' hr,Wae,WbA,Nat.add_comm]
theorem aj{Ψ:Pr}:∀(t:Ty) (x:t.den) (cs:List Value),reads Ψ t x cs->cs.length=t.cells
 | .int _,_,_,hr=>by simp[reads]at hr;simp[hr.1,Ty.cells]
 | .bool,_,_,hr=>by simp[reads]at hr;simp[hr,Ty.cells]
 | .qi,_,_,hr=>by simp[reads]at hr;simp[hr,Ty.cells]
 | .any,_,_,⟨_,hr,_⟩=>by simp[hr,Ty.cells]
 | .str,_,_,hr=>by simp[reads]at hr;simp[hr.1,Ty.cells]
 | .unit,_,_,hr=>by simp[reads]at hr;simp[hr,Ty.cells]
 | .arr e,_,_,⟨a,cap,e1,_⟩=>by simp[e1,Ty.cells]
 | .vec n e,_,_,⟨h1,h2⟩=>by rw[gx (aj e) _ _ h2,h1,Ty.cells]
 | .pair a b,_,_,⟨u,v,e,h1,h2⟩=>by rw[e,Wad,aj a _ _ h1,aj b _ _ h2,Ty.cells]
 | .dR a b,r,vs,hr=>by
  obtain⟨u,s,w,e,h1,h2,_⟩:=(r8 r vs).1 hr;rw[e,Wad,Wae,aj a _ _ h1,aj b _ _ h2,Ty.cells];omega
theorem ql{α:Type}{R:α->List Value->Prop}(h:∀x vs,R x vs->∀u∈vs,u.oneCell'=true):∀(xs:List α) (vs:List Value),gu R xs vs->∀u∈vs,u.oneCell'=true
 |[],_,hv=>by simp[gu]at hv;simp[hv]
 |_::xs,_,⟨c,vs',e,hc,hr⟩=>by
  subst e;intro u hu;rcases List.mem_append.1 hu with hu|hu
  ·exact h _ _ hc u hu
  ·exact ql h xs vs' hr u hu
theorem cN{Ψ:Pr}:∀(t:Ty) (x:t.den) (cs:List Value),reads Ψ t x cs->∀u∈cs,u.oneCell'=true
 | .int _,_,_,hr=>by simp[reads]at hr;simp[hr.1,Value.oneCell']
 | .bool,_,_,hr=>by simp[reads]at hr;simp[hr,Value.oneCell']
 | .qi,_,_,hr=>by simp[reads]at hr;simp[hr,Value.oneCell']
 | .any,_,_,⟨_,hr,h1⟩=>by simp[hr,h1]
 | .str,_,_,hr=>by simp[reads]at hr;simp[hr.1,Value.oneCell']
 | .unit,_,_,hr=>by simp[reads]at hr;simp[hr]
 | .arr e,_,_,⟨a,cap,e1,_⟩=>by simp[e1,Value.oneCell']
 | .vec n e,_,_,⟨h1,h2⟩=>ql (cN e) _ _ h2
 | .pair a b,_,_,⟨u,v,e,h1,h2⟩=>by
  subst e;intro w hw;rcases List.mem_append.1 hw with hw|hw
  ·exact cN a _ _ h1 w hw
  ·exact cN b _ _ h2 w hw
 | .dR a b,r,vs,hr=>by
  obtain⟨u,s,w,e,h1,h2,a',cap,h3,_⟩:=(r8 r vs).1 hr;subst e;intro x hx;rcases List.mem_append.1 hx with hx|hx
  ·exact cN a _ _ h1 x hx
  ·rcases List.mem_cons.1 hx with hx|hx
   ·rw[hx,h3];rfl
   ·exact cN b _ _ h2 x hx
theorem nY{α:Type}{R:α->List Value->Prop}{n:Nat}(h:∀x vs,R x vs->vs.length=n):∀(xs:List α) (vs:List Value),gu R xs vs->
 ∀(i:Nat) (x:α),xs[i]?=some x->∃c,R x c/\∀j u,c[j]?=some u->vs[i*n+j]?=some u
 |[],_,_,i,x,hx=>by simp at hx
 |y::xs,_,⟨c,vs',e,hc,hr⟩,0,x,hx=>by
  simp at hx
  subst hx;subst e;exact⟨c,hc,fun j u hj=>by
   have hlt:j<c.length:=by
    rcases Wak j c.length with h'|h'
    ·exact h'
    ·rw[Wai h']at hj;cases hj
   simp[Wao hlt,hj]⟩
 |y::xs,_,⟨c,vs',e,hc,hr⟩,i+1,x,hx=>by
  obtain⟨d,hd,aH⟩:=nY h xs vs' hr i x (by simpa using hx)
  subst e;refine⟨d,hd,fun j u hj=>?_⟩
  have hl:=h _ _ hc;rw[WaH (by rw[hl,WbA];omega)]
  rw[<-aH j u hj];congr 1
  rw[hl,WbA];omega
theorem eD{α:Type}(c vs:List α)(m:Nat):(c++vs).drop (c.length+m)=vs.drop m:=by
 rw[<-List.drop_drop];simp
theorem fO{α:Type}(c vs:List α)(m:Nat):(c++vs).take (c.length+m)=c++vs.take m:=by
 simp[Wce,Wap]
theorem eO{α:Type}{R:α->List Value->Prop}:∀(xs ys:List α) (us vs:List Value),gu R xs us->gu R ys vs->gu R (xs++ys) (us++vs)
 |[],_,_,_,hu,hv=>by simp only[gu]at hu;subst hu;simpa using hv
 |_::xs,ys,_,vs,⟨c,us',e,hc,hr⟩,hv=>⟨c,us'++vs,by rw[e,Waj],hc,eO xs ys us' vs hr hv⟩
theorem zo{α:Type}{R:α->List Value->Prop}{n:Nat}(h:∀x vs,R x vs->vs.length=n)(y:α)(d:List Value)(hd:R y d):∀(xs:List α) (vs:List Value),gu R xs vs->
 ∀(i:Nat),i<xs.length->gu R (xs.set i y) (vs.take (i*n)++d++vs.drop (i*n+n))
 |[],_,_,i,hi=>by simp at hi
 |x::xs,_,⟨c,vs',e,hc,hr⟩,0,_=>by
  subst e;have hl:=h _ _ hc;refine⟨d,vs',?_,hd,hr⟩
  simp[<-hl]
 |x::xs,_,⟨c,vs',e,hc,hr⟩,i+1,hi=>by
  subst e;have hl:=h _ _ hc;refine⟨c,vs'.take (i*n)++d++vs'.drop (i*n+n),?_,hc,zo h y d hd xs vs' hr i (by simpa using hi)⟩
  have e1:(i+1)*n=c.length+i*n:=by rw[hl,WbA,Nat.add_comm]
  rw[e1,fO,Wa2,eD];simp[Waj]
theorem wT{α:Type}{R:α->List Value->Prop}(x:α)(c:List Value)(hc:R x c):∀n,gu R (List.replicate n x) ((List.replicate n c).flatten)
 |0=>by simp[gu]
 |n+1=>⟨c,(List.replicate n c).flatten,by simp[Wb8],hc,wT x c hc n⟩
theorem iJ{α:Type}{R:α->List Value->Prop}{n:Nat}(h:∀x vs,R x vs->vs.length=n):∀(xs:List α) (vs:List Value) (i:Nat),gu R xs vs->gu R (xs.drop i) (vs.drop (i*n))
 |xs,vs,0,hr=>by simpa using hr
 |[],vs,i+1,hr=>by simp only[gu]at hr;subst hr;simp[gu]
 |x::xs,_,i+1,⟨c,vs',e,hc,hr⟩=>by
  subst e;have hl:=h _ _ hc;have e1:(i+1)*n=c.length+i*n:=by rw[hl,WbA,Nat.add_comm]
  rw[e1,eD];simpa using iJ h xs vs' i hr
theorem ja{α:Type}{R:α->List Value->Prop}{n:Nat}(h:∀x vs,R x vs->vs.length=n):∀(xs:List α) (vs:List Value) (i:Nat),gu R xs vs->gu R (xs.take i) (vs.take (i*n))
 |xs,vs,0,_=>by simp[gu]
 |[],vs,i+1,hr=>by simp only[gu]at hr;subst hr;simp[gu]
 |x::xs,_,i+1,⟨c,vs',e,hc,hr⟩=>by
  subst e;have hl:=h _ _ hc;have e1:(i+1)*n=c.length+i*n:=by rw[hl,WbA,Nat.add_comm]
  rw[e1,fO];exact⟨c,vs'.take (i*n),rfl,hc,ja h xs vs' i hr⟩
mutual
theorem jk{Ψ ax:Pr}{β β':List Value}(h:bW Ψ ax)(hb:∀(k:Nat) (v:Value),β[k]?=some v->β'[k]?=some v):∀(av:AV) (v:Value),aE Ψ β av v->aE ax β' av v
 | .bJ,_,_=>trivial
 | .lO,_,hr=>hr
 | .tt,_,hr=>hr
 | .ff,_,hr=>hr
 | .d t x,_,⟨cs,hc,e⟩=>⟨cs,aR h t x cs hc,e⟩
 | .fs e xs,_,⟨a,ea,cs,hc,e'⟩=>⟨a,ea,cs,aR h (.arr e) xs cs hc,e'⟩
 | .iX,_,hr=>hr
 | .agg cs,_,⟨vs,e,hl,h1⟩=>⟨vs,e,aX h hb cs vs hl,h1⟩
 | .lW cs,_,⟨vs,e,hl⟩=>⟨vs,e,aX h hb cs vs hl⟩
 | .fn _ cs,_,⟨vs,e,hl⟩=>⟨vs,e,aX h hb cs vs hl⟩
 | .xw _ cs,_,⟨vs,e,hl⟩=>⟨vs,e,aX h hb cs vs hl⟩
 | .sv _ _ _ _,_,⟨g,n,c,hg,r⟩=>⟨g,n,c,hb _ _ hg,r⟩
 | .nk,_,hr=>hr
 | .nq,_,hr=>hr
 | .own _ _,_,⟨g,hg,e⟩=>⟨g,hb _ _ hg,e⟩
 | .sl _,_,hr=>⟨hb _ _ hr.1,hr.2⟩
 | .tX _ _ _,_,⟨g,o,n,c,hg,r⟩=>⟨g,o,n,c,hb _ _ hg,r⟩
 | .rp t x,_,⟨g,off,cs,e,hc,hp⟩=>⟨g,off,cs,e,aR h t x cs hc,fun j u hj=>h _ _ (hp j u hj)⟩
 | .qd _,_,⟨l,hg,e⟩=>⟨l,hb _ _ hg,e⟩
 | .Ko _,_,hr=>hr
 | .DS _ _ _ _,_,⟨g,hg,r⟩=>⟨g,hb _ _ hg,r⟩
 | .yX _ _ _ _ _,_,⟨g,hg,r⟩=>⟨g,hb _ _ hg,r⟩
 | .lI _ _ _ _,_,⟨g,o,n,c,hg,r⟩=>⟨g,o,n,c,hb _ _ hg,r⟩
 | .DT _ _,_,⟨g,hg,r⟩=>⟨g,hb _ _ hg,r⟩
 | .oM _,_,hr=>hr
theorem aX{Ψ ax:Pr}{β β':List Value}(h:bW Ψ ax)(hb:∀(k:Nat) (v:Value),β[k]?=some v->β'[k]?=some v):∀(cs:List AV) (vs:List Value),aL Ψ β cs vs->aL ax β' cs vs
 |[],_,hr=>hr
 |c::cs,_,⟨v,vs',e,hv,hl⟩=>⟨v,vs',e,jk h hb c v hv,aX h hb cs vs' hl⟩
end
mutual
theorem qeh{Ψ ax:Pr}{β β':List Value}(k:Nat)(r:AV)(h:bW Ψ ax)(hr:∀v:Value,β[k]?=some v->aE ax β' r v)(hb:∀(j:Nat) (v:Value),j≠k->β[j]?=some v->β'[j]?=some v)
 (hp:∀g:Nat,β[k]?=some (.pointer (some ⟨g,0,none⟩))->β'[k]?=some (.pointer (some ⟨g,0,none⟩))) (hy:∀l:Nat,β[k]?=some (cm l)->β'[k]?=some (cm l)):
 ∀(av:AV) (v:Value),aE Ψ β av v->aE ax β' (sub k r av) v
 | .bJ,_,_=>trivial
 | .lO,_,hv=>hv
 | .tt,_,hv=>hv
 | .ff,_,hv=>hv
 | .d t x,_,⟨cs,hc,e⟩=>⟨cs,aR h t x cs hc,e⟩
 | .fs e xs,_,⟨a,ea,cs,hc,e'⟩=>⟨a,ea,cs,aR h (.arr e) xs cs hc,e'⟩
 | .iX,_,hv=>hv
 | .agg cs,_,⟨vs,e,hl,h1⟩=>⟨vs,e,iK k r h hr hb hp hy cs vs hl,h1⟩
 | .lW cs,_,⟨vs,e,hl⟩=>⟨vs,e,iK k r h hr hb hp hy cs vs hl⟩
 | .fn _ cs,_,⟨vs,e,hl⟩=>⟨vs,e,iK k r h hr hb hp hy cs vs hl⟩
 | .xw _ cs,_,⟨vs,e,hl⟩=>⟨vs,e,iK k r h hr hb hp hy cs vs hl⟩
 | .sv j sz a b,v,⟨g,n,c,hg,rest⟩=>by
  simp only[sub];by_cases hj:j=k
  ·subst hj;simp only[Nat.beq_refl,if_true];trivial
  ·rw[if_neg (by simpa [Wag]using hj)];exact⟨g,n,c,hb j _ hj hg,rest⟩
 | .nk,_,hv=>hv
 | .nq,_,hv=>hv
 | .own j _,_,⟨g,hg,e⟩=>⟨g,(by
  by_cases hj:j=k
  ·subst hj;exact hp g hg
  ·exact hb j _ hj hg),e⟩
 | .sl j,v,hv=>by
  simp only[sub];by_cases hj:j=k
  ·subst hj;simp only[Nat.beq_refl,if_true];exact hr v hv.1
  ·rw[if_neg (by simpa [Wag]using hj)];exact⟨hb j v hj hv.1,hv.2⟩
 | .tX j sz i,v,⟨g,o,n,c,hg,rest⟩=>by
  simp only[sub];by_cases hj:j=k
  ·subst hj;simp only[Nat.beq_refl,if_true];trivial
  ·rw[if_neg (by simpa [Wag]using hj)];exact⟨g,o,n,c,hb j _ hj hg,rest⟩
 | .rp t x,_,⟨g,off,cs,e,hc,hq⟩=>⟨g,off,cs,e,aR h t x cs hc,fun j u hj=>h _ _ (hq j u hj)⟩
 | .qd j,_,⟨l,hg,e⟩=>⟨l,(by
  by_cases hj:j=k
  ·subst hj;exact hy l hg
  ·exact hb j _ hj hg),e⟩
 | .Ko _,_,hv=>hv
 | .DS j _ _ _,_,⟨g,hg,e⟩=>⟨g,(by
  by_cases hj:j=k
  ·subst hj;exact hp g hg
  ·exact hb j _ hj hg),e⟩
 | .yX j _ _ _ _,_,⟨g,hg,e⟩=>⟨g,(by
  by_cases hj:j=k
  ·subst hj;exact hp g hg
  ·exact hb j _ hj hg),e⟩
 | .lI j sz i off,v,⟨g,o,n,c,hg,rest⟩=>by
  simp only[sub];by_cases hj:j=k
  ·subst hj;simp only[Nat.beq_refl,if_true];trivial
  ·rw[if_neg (by simpa [Wag]using hj)];exact⟨g,o,n,c,hb j _ hj hg,rest⟩
 | .DT j _,_,⟨g,hg,e⟩=>⟨g,(by
  by_cases hj:j=k
  ·subst hj;exact hp g hg
  ·exact hb j _ hj hg),e⟩
 | .oM _,_,hv=>hv
theorem iK{Ψ ax:Pr}{β β':List Value}(k:Nat)(r:AV)(h:bW Ψ ax)(hr:∀v:Value,β[k]?=some v->aE ax β' r v)(hb:∀(j:Nat) (v:Value),j≠k->β[j]?=some v->β'[j]?=some v)
 (hp:∀g:Nat,β[k]?=some (.pointer (some ⟨g,0,none⟩))->β'[k]?=some (.pointer (some ⟨g,0,none⟩))) (hy:∀l:Nat,β[k]?=some (cm l)->β'[k]?=some (cm l)):
 ∀(cs:List AV) (vs:List Value),aL Ψ β cs vs->aL ax β' (qS k r cs) vs
 |[],_,hl=>hl
 |c::cs,_,⟨v,vs',e,hv,hl⟩=>⟨v,vs',e,qeh k r h hr hb hp hy c v hv,iK k r h hr hb hp hy cs vs' hl⟩
end
theorem dr{Ψ:Pr}{β:List Value}:∀(cs:List AV) (vs:List Value),aL Ψ β cs vs->vs.length=cs.length
 |[],_,hr=>by simp only[aL]at hr;simp[hr]
 |_::cs,_,⟨v,vs',e,_,hl⟩=>by simp[e,dr cs vs' hl]
theorem c9{Ψ:Pr}{β:List Value}:∀(cs:List AV) (vs:List Value),aL Ψ β cs vs->∀i,aE Ψ β (bX cs i) (vs.getD i undef)
 |[],_,_,_=>trivial
 |c::cs,_,⟨v,vs',e,hv,_⟩,0=>by subst e;simpa [bX]using hv
 |c::cs,_,⟨v,vs',e,_,hl⟩,i+1=>by subst e;simpa [bX]using c9 cs vs' hl i
theorem l6{Ψ:Pr}{β:List Value}(cs:List AV)(vs:List Value)(h:aL Ψ β cs vs)(i:Nat)(hi:i<cs.length):∃v,vs[i]?=some v/\aE Ψ β (bX cs i) v:=by
 have hl:=dr cs vs h;refine⟨vs[i],Waa (by omega),?_⟩
 have:=c9 cs vs h i
 rwa [Wab,Waa (by omega),Wa3]at this
theorem oU{Ψ:Pr}{β:List Value}{av:AV}{u:Value}(hu:aE Ψ β av u):∀(cs:List AV) (vs:List Value) (i:Nat),aL Ψ β cs vs->aL Ψ β (eN cs i av) (vs.set i u)
 |[],_,_,hl=>by simp only[aL]at hl;subst hl;simp[eN,aL]
 |_::cs,_,0,⟨v,vs',e,_,hl⟩=>by subst e;exact⟨u,vs',by simp,hu,hl⟩
 |_::cs,_,i+1,⟨v,vs',e,hv,hl⟩=>by subst e;exact⟨v,vs'.set i u,by simp,hv,oU hu cs vs' i hl⟩
theorem eZ{Ψ:Pr}{β:List Value}:∀(cs ds:List AV) (vs us:List Value),aL Ψ β cs vs->aL Ψ β ds us->aL Ψ β (cs++ds) (vs++us)
 |[],_,_,_,h,h'=>by simp only[aL]at h;subst h;simpa using h'
 |_::cs,ds,_,us,⟨v,vs',e,hv,hl⟩,h'=>⟨v,vs'++us,by simp[e],hv,eZ cs ds vs' us hl h'⟩
theorem oV(n:Nat)(l:List AV):takeN n l=l.take n:=by
 induction n generalizing l with
 |zero=>simp[takeN]
 |succ n ih=>cases l<;>simp[takeN,ih]
theorem qZ(n:Nat)(l:List AV):yZ n l=l.drop n:=by
 induction n generalizing l with
 |zero=>simp[yZ]
 |succ n ih=>cases l<;>simp[yZ,ih]
theorem dw(l:List AV):dg l=l.length:=by induction l<;>simp[dg, *]
theorem cF(l:List aB):hlen l=l.length:=by induction l<;>simp[hlen, *]
theorem l7{Ψ:Pr}{β:List Value}:∀(n:Nat) (cs:List AV) (vs:List Value),aL Ψ β cs vs->aL Ψ β (cs.take n) (vs.take n)
 |0,_,_,_=>by simp[aL]
 |n+1,[],_,h=>by simp only[aL]at h;subst h;simp[aL]
 |n+1,_::cs,_,⟨v,vs',e,hv,hl⟩=>by subst e;exact⟨v,vs'.take n,by simp,hv,l7 n cs vs' hl⟩
theorem l8{Ψ:Pr}{β:List Value}:∀(n:Nat) (cs:List AV) (vs:List Value),aL Ψ β cs vs->aL Ψ β (cs.drop n) (vs.drop n)
 |0,_,_,h=>by simpa using h
 |n+1,[],_,h=>by simp only[aL]at h;subst h;simp[aL]
 |n+1,_::cs,_,⟨v,vs',e,hv,hl⟩=>by subst e;simpa using l8 n cs vs' hl
theorem aC{h:List aB}{k:Nat}{b:aB}(e:aH h k=b)(hb:b≠ .gone):h[k]?=some b:=by
 induction h generalizing k with
 |nil=>simp[aH]at e;exact absurd e.symm hb
 |cons a l ih=>cases k with
  |zero=>simp[aH]at e;simp[e]
  |succ k=>simp[aH]at e;simpa using ih e
theorem aZ(h:List aB)(k:Nat)(b:aB):bw h k b=h.set k b:=by
 induction h generalizing k with
 |nil=>simp[bw]
 |cons a l ih=>cases k<;>simp[bw,ih]
theorem D4(h:List AV)(k:Nat)(b:AV):eN h k b=h.set k b:=by
 induction h generalizing k with
 |nil=>simp[eN]
 |cons a l ih=>cases k<;>simp[eN,ih]
theorem mR{w w':World}{a:Addr}{v:Value}(h:w'.heap[a.block]?=w.heap[a.block]?)(hp:Pm w a v):Pm w' a v:=by
 unfold Pm at*;rw[h,World.cell?_of_block h]
 exact hp
theorem qm{w:World}{a:Addr}{v:Value}(hp:Pm w a v):a.block<w.heap.size:=by
 have lt:∀{o:Obj},w.heap[a.block]?=some o->a.block<w.heap.size:=fun h=>by
  rcases Wak a.block w.heap.size with h'|h'
  ·exact h'
  ·rw[WaW h']at h;cases h
 unfold Pm at hp;split at hp
 ·exact World.block_lt_of_cell? w a hp
 ·exact lt hp.2
 ·obtain⟨r,hr⟩:=hp;exact lt hr
 ·obtain⟨r,hr,_⟩:=hp;exact lt hr
 ·obtain⟨ms,cl,hr,_⟩:=hp;exact lt hr
 ·exact hp.elim
theorem mS{w:World}{a:Addr}{v:Value}(hs:a.spot=none)(hp:Pm w a v):w.cell? a=some v:=by
 unfold Pm at hp;rw[hs]at hp;exact hp
theorem E5{w:World}{a:Addr}{v:Value}(hs:a.spot=none)(hp:w.cell? a=some v):Pm w a v:=by
 unfold Pm;rw[hs];exact hp
theorem qei{w:World}{a:Addr}{v:Value}(hs:¬pl a)(hp:Pm w a v):∃r,w.heap[a.block]?=some (.loop r):=by
 unfold Pm at hp;split at hp
 ·rename_i h;exact absurd (.inl h) hs
 ·rename_i h;exact absurd (.inr (.inr h)) hs
 ·exact hp
 ·obtain⟨r,hr,_⟩:=hp;exact⟨r,hr⟩
 ·rename_i h;exact absurd (.inr (.inl h)) hs
 ·exact hp.elim
theorem Nz{Ψ ax:Pr}(h:bW Ψ ax){t:Ty}{x:t.den}{v:Value}:rv Ψ t x v->rv ax t x v
 |⟨cs,hc,e⟩=>⟨cs,aR h t x cs hc,e⟩
theorem jl{Ψ ax:Pr}(h:bW Ψ ax){e:Ty}:∀{m:List (Int×e.den)} {es:List MapEntry},zn Ψ e m es->zn ax e m es
 |[],_,hr=>hr
 |_::_,_,⟨x,es',h1,h2,h3,h4,h5⟩=>⟨x,es',h1,h2,h3,Nz h h4,jl h h5⟩
structure Step (Ψ:Pr) (w:World) (ax:Pr) (w':World):Prop where
 below:Below w.heap.size w w'
 le:bW Ψ ax
 new:∀a v,ax a=some v->Ψ a=some v\/(w.heap.size<=a.block/\a.spot=none/\w'.cell? a=some v)
theorem Step.refl(Ψ:Pr)(w:World):Step Ψ w Ψ w:=⟨Below.refl _ _,bW.refl _,fun _ _ h=>.inl h⟩
theorem aY{w:World}{g:Nat}{o:Obj}(h:w.heap[g]?=some o):g<w.heap.size:=by
 rcases Wak g w.heap.size with h'|h'
 ·exact h'
 ·rw[WaW h']at h;cases h
theorem bW.m{Ψ ax:Pr}(h:bW Ψ ax):TK Ψ ax:=fun a v _ hv=>h a v hv
theorem QE.keep{B own:Nat->Prop}{w w':World}(h:QE B own w)(hz:w.heap.size<=w'.heap.size):QE B own w':=
 fun g hg=>⟨(h g hg).1,Wa6 (h g hg).2 hz⟩
theorem jQ{P:Program}{B:Nat->Prop}{Ψ ax:Pr}{β β':List Value}{w w':World}{k k':Nat}{ys:List Ty}{Y:fM ys}{own:Nat->Prop}{xs:List (tY ys).den}(h:cn P B Ψ β w k (.log ys Y own xs))(he:∀u,β[k]?=some u->β'[k']?=some u)(hl:TK Ψ ax)(hz:w.heap.size<=w'.heap.size)(hb:∀g,own g->w'.heap[g]?=w.heap[g]?):cn P B ax β' w' k' (.log ys Y own xs):=
 ⟨he _ h.1,h.2.2.2.1.1 _ _ _ _ _ _ h.2.1 hl hb,h.2.2.1.keep hz,h.2.2.2.1,h.2.2.2.2⟩
theorem jR{P:Program}{B:Nat->Prop}{Ψ ax:Pr}{β β':List Value}{w w':World}{k k':Nat}{ys:List Ty}{Y:fM ys}{own:Nat->Prop}(h:cn P B Ψ β w k (.kV ys Y own))(he:∀u,β[k]?=some u->β'[k']?=some u)(hl:TK Ψ ax)(hz:w.heap.size<=w'.heap.size)(hb:∀g,own g->w'.heap[g]?=w.heap[g]?):cn P B ax β' w' k' (.kV ys Y own):=
 ⟨he _ h.1,h.2.2.2.2 _ _ _ _ _ h.2.1 hl hb,h.2.2.1.keep hz,h.2.2.2⟩
theorem Gl.mono{P:Program}{Ψ ax:Pr}(h:Gl P Ψ)(hl:TK Ψ ax):Gl P ax:=⟨fun g hg j n hn=>hl _ _ (by simp) (h.1 g hg j n hn),fun g hg j n hn=>hl _ _ (by simp) (h.2 g hg j n hn)⟩
theorem Gl.le{P:Program}{Ψ ax:Pr}(h:Gl P Ψ)(hl:bW Ψ ax):Gl P ax:=⟨fun g hg j n hn=>hl _ _ (h.1 g hg j n hn),fun g hg j n hn=>hl _ _ (h.2 g hg j n hn)⟩
theorem ZN{k:Nat}{r v:AV}(h:Zc v=true):sub k r v=v:=by
 cases v<;>first|rfl|simp[Zc]at h
theorem IW{k:Nat}{r:AV}:∀{l:List AV},No l=true->qS k r l=l
 |[],_=>rfl
 |v::l,h=>by
  simp only[No,Wac]at h;simp only[qS,ZN h.1,IW h.2]
theorem qej{k:Nat}{r v:AV}(h:okE v=true):sub k r v=v:=by
 cases v<;>first
  |rfl
  |(simp only[okE]at h;simp only[sub,IW h])
  |simp[okE,Zc]at h
theorem E6(k:Nat)(r:AV):∀{es:List (KK×AV)},(∀p∈es,okE p.2=true)->qS k r (es.map Prod.snd)=es.map Prod.snd
 |[],_=>rfl
 |p::es,h=>by
  simp only[Wat,qS,qej (h p (Waq ..)),E6 k r fun q hq=>h q (Wal _ hq)]
theorem D5{w:World}:∀{m:List (Int×Int×List (List Int))} {es:List MapEntry},Vh w m es->∀p∈m,0<=p.2.1/\∃ms cl,w.heap[p.2.1.toNat]?=some (.map ms cl)/\txR p.2.2 ms.toList
 |[],_,_,p,hp=>by cases hp
 |q::m,es,⟨x,es',_,_,h0,_,h1,h2⟩,p,hp=>by
  rcases List.mem_cons.1 hp with e|e
  ·rw[e];exact⟨h0,h1⟩
  ·exact D5 h2 p e
theorem zq{w w':World}:∀{m:List (Int×Int×List (List Int))} {es:List MapEntry},Vh w m es->(∀p∈m,0<=p.2.1->w'.heap[p.2.1.toNat]?=w.heap[p.2.1.toNat]?)->Vh w' m es
 |[],_,h,_=>h
 |q::m,es,⟨x,es',e,h1,h2,h3,⟨ms,cl,h4,h5⟩,h6⟩,hw=>⟨x,es',e,h1,h2,h3,⟨ms,cl,(hw q Waq h2).trans h4,h5⟩,zq h6 fun p hp=>hw p (Wal _ hp)⟩
theorem D6{Ψ ax:Pr}{w w':World}{v:Value}{x:XB}(hr:∀(e:Ty) (xs:List e.den) (vs:List Value),gu (reads Ψ e) xs vs->gu (reads ax e) xs vs)(hw:∀g,gV v g x->w'.heap[g]?=w.heap[g]?)(h:XR Ψ w v x):XR ax w' v x:=by
 cases x with
 |xx tid e xs=>
  obtain⟨g,o,cap,cur,h1,h2,h3,h4,h5,h6⟩:=h;exact⟨g,o,cap,cur,h1,(hw g ⟨o,_,_,h1⟩).trans h2,h3,h4,h5,hr _ _ _ h6⟩
 |jP m=>
  obtain⟨g,ms,cl,h1,h2,h3,h4⟩:=h;exact⟨g,ms,cl,h1,(hw g (.inl h1)).trans h2,zq h3 fun p hp h0=>hw _ (.inr ⟨p,hp,by omega⟩),h4⟩
theorem TL{Ψ ax:Pr}{w:World}{v:Value}{x:XB}(hl:bW Ψ ax)(h:XR Ψ w v x):XR ax w v x:=D6 (fun e _ _ h=>eS (aR hl e) _ _ h) (fun _ _=>rfl) h
theorem D7{Ψ:Pr}{w w':World}{v:Value}{x:XB}(hw:∀g,gV v g x->w'.heap[g]?=w.heap[g]?)(h:XR Ψ w v x):XR Ψ w' v x:=D6 (fun _ _ _ h=>h) hw h
theorem qh4{Ψ:Pr}{w:World}{v:Value}{x:XB}{g:Nat}(h:XR Ψ w v x)(hc:gV v g x):(∃c e s,w.heap[g]?=some (.cells c e s))\/∃ms cl,w.heap[g]?=some (.map ms cl):=by
 cases x with
 |xx tid e xs=>
  obtain⟨g',o,cap,cur,h1,h2,_⟩:=h;obtain⟨o',n',c',h3⟩:=hc;rw[h1]at h3;simp only[Value.slice.injEq,Option.some.injEq,Addr.mk.injEq]at h3;obtain⟨⟨rfl,_,_⟩,_⟩:=h3;exact .inl ⟨_,_,_,h2⟩
 |jP m=>
  obtain⟨g',ms,cl,h1,h2,h3,_⟩:=h;rcases hc with hc|⟨p,hp,e⟩
  ·rw[h1]at hc;simp only[Value.map.injEq,Option.some.injEq]at hc;subst hc;exact .inr ⟨_,_,h2⟩
  ·obtain⟨_,ms',YL,h4,_⟩:=D5 h3 p hp;have e':p.2.1.toNat=g:=by omega
   rw[e']at h4;exact .inr ⟨_,_,h4⟩
theorem ZO{Ψ:Pr}{w:World}{v:Value}{x:XB}(h:XR Ψ w v x):v≠hole/\(∀a,v≠ .pointer a)/\∀l,v≠cm l:=by
 cases x with
 |xx tid e xs=>
  obtain⟨g',o,cap,cur,rfl,_⟩:=h;exact⟨by simp[hole],fun a=>by simp,fun l=>by simp[cm]⟩
 |jP m=>
  obtain⟨g',ms,cl,rfl,_⟩:=h;exact⟨by simp[hole],fun a=>by simp,fun l=>by simp[cm]⟩
theorem Vj{B:Nat->Prop}{Ψ ax:Pr}{β:List Value}{w w':World}(hs:Step Ψ w ax w'){k:Nat}{b:aB}(h:cn C.P B Ψ β w k b):cn C.P B ax β w' k b:=by
 cases b with
 |gone=>trivial
 |log ys Y own xs=>exact jQ h (fun _ h=>h) hs.le.m hs.below.size fun g hg=>hs.below.block g (h.2.2.1 g hg).2
 |kV ys Y own=>exact jR h (fun _ h=>h) hs.le.m hs.below.size fun g hg=>hs.below.block g (h.2.2.1 g hg).2
 |cells cs=>
  obtain⟨g,c,e,h1,h2,h3,h4,h5⟩:=h;exact⟨g,c,e,h1,(hs.below.block g (aY h2)).trans h2,h3,aX hs.le (fun _ _ h=>h) _ _ h4,h5⟩
 |grow tid e xs=>
  refine h.imp id ?_
  rintro⟨g,cap,cur,h1,h2,h3,h4,h5,h6,h7,h8⟩
  exact⟨g,cap,cur,h1,h2,h3,(hs.below.block g (aY h4)).trans h4,h5,h6,h7,eS (aR hs.le e) _ _ h8⟩
 |fH es=>
  obtain⟨g,ms,cl,h1,h2,h3,h4,h5,h6⟩:=h;exact⟨g,ms,cl,h1,(hs.below.block g (aY h2)).trans h2,h3,h4,aX hs.le (fun _ _ h=>h) _ _ h5,h6⟩
 |dmap e m=>
  obtain⟨g,ms,cl,h1,h2,h3,h4,h5⟩:=h;exact⟨g,ms,cl,h1,(hs.below.block g (aY h2)).trans h2,h3,jl hs.le h4,h5⟩
 |eo e last left=>
  obtain⟨g,gm,ms,cl,seen,h1,h2,h3,h4,h5,h6⟩:=h;exact⟨g,gm,ms,cl,seen,h1,(hs.below.block g (aY h2)).trans h2,h3,hs.le _ _ h4,jl hs.le h5,h6.1,h6.2.1,h6.2.2.imp id fun ⟨p,x,s',a1,a2,a3,a4,a5,a6⟩=>⟨p,x,s',a1,a2,a3,a4,a5,Nz hs.le a6⟩⟩
 |loop f p ph ts=>
  obtain⟨l,r,h1,h2,h3,h4,h5,h6,h7,h8⟩:=h;exact⟨l,r,h1,(hs.below.block l (aY h2)).trans h2,h3,h4,aX hs.le (fun _ _ h=>h) _ _ h5,hs.le _ _ h6,fun i v hv=>hs.le _ _ (h7 i v hv),h8⟩
 |dat t x=>
  obtain⟨g,c,e,h1,h2,h3,h4⟩:=h;exact⟨g,c,e,h1,(hs.below.block g (aY h2)).trans h2,h3,aR hs.le t x _ h4⟩
 |eu n rest=>
  obtain⟨g,s,pos,h1,h2,h3⟩:=h;exact⟨g,s,pos,h1,(hs.below.block g (aY h2)).trans h2,h3⟩
 |xb x=>
  obtain⟨v,h1,h2,h3⟩:=h;exact⟨v,h1,TL hs.le (D7 (fun g hg=>hs.below.block g (h3 g hg).2) h2),fun g hg=>⟨(h3 g hg).1,Wa6 (h3 g hg).2 hs.below.size⟩⟩
theorem ct{B:Nat->Prop}{Ψ:Pr}{β:List Value}{w:World}{k g:Nat}{b:aB}(h:cn C.P B Ψ β w k b)(hc:af β k g b):¬B g/\g<w.heap.size:=by
 cases b with
 |gone=>exact hc.elim
 |log ys Y own xs=>exact h.2.2.1 g hc
 |kV ys Y own=>exact h.2.2.1 g hc
 |cells cs=>
  obtain⟨g',c,e,h1,h2,h3,_⟩:=h;simp only[af]at hc;rw[h1]at hc;simp at hc
  subst hc;exact⟨h3,aY h2⟩
 |grow tid e xs=>
  obtain⟨n,cap',hz,hc⟩:=hc;rcases h with ⟨ad,h1,_⟩|⟨g',cap,cur,h1,h2,h3,h4,_⟩
  ·rw[h1]at hc;simp at hc
   exact absurd hc.2.2.symm hz
  ·rw[h1]at hc;simp at hc
   obtain⟨rfl,_,_⟩:=hc;exact⟨h3,aY h4⟩
 |fH es=>
  obtain⟨g',ms,cl,h1,h2,h3,_⟩:=h;simp only[af]at hc;rw[h1]at hc;simp at hc
  subst hc;exact⟨h3,aY h2⟩
 |dmap e m=>
  obtain⟨g',ms,cl,h1,h2,h3,_⟩:=h;simp only[af]at hc;rw[h1]at hc;simp at hc
  subst hc;exact⟨h3,aY h2⟩
 |eo e last left=>
  obtain⟨g',gm,ms,cl,seen,h1,h2,h3,_⟩:=h;simp only[af]at hc;rw[h1]at hc;simp at hc
  subst hc;exact⟨h3,aY h2⟩
 |loop f p ph ts=>
  obtain⟨l,r,h1,h2,h3,_⟩:=h;simp only[af,cm]at hc h1;rw[h1]at hc;simp at hc
  subst hc;exact⟨h3,aY h2⟩
 |dat t x=>
  obtain⟨g',c,e,h1,h2,h3,_⟩:=h;simp only[af]at hc;rw[h1]at hc;simp at hc
  subst hc;exact⟨h3,aY h2⟩
 |eu n rest=>
  obtain⟨g',s,pos,h1,h2,h3,_⟩:=h;simp only[af]at hc;rw[h1]at hc;simp at hc
  subst hc;exact⟨h3,aY h2⟩
 |xb x=>
  obtain⟨v,h1,h2,h3⟩:=h;obtain⟨u,h4,h5⟩:=hc;rw[h1]at h4;cases h4;exact h3 g h5
theorem iN{P:Program}{B:Nat->Prop}{Ψ:Pr}{β:List Value}{w:World}{k:Nat}{tid:TypeId}{e:Ty}{xs:List e.den}{u:Value}(h:cn P B Ψ β w k (.grow tid e xs))(hu:β[k]?=some u):u≠hole:=by
 intro e0;subst e0;rcases h with ⟨ad,h1,_⟩|⟨g,cap,cur,h1,_⟩
 ·rw[hu]at h1;simp[hole]at h1
 ·rw[hu]at h1;simp[hole]at h1
def aB.Bd:aB->Bool
 | .loop _ _ _ _=>true
 | .log _ _ _ _=>true
 | .kV _ _ _=>true
 |_=>false
theorem QG{B:Nat->Prop}{Ψ:Pr}{β:List Value}{w:World}{k g:Nat}{b:aB}(h:cn C.P B Ψ β w k b)(hc:af β k g b):
 (∃c e s,w.heap[g]?=some (.cells c e s))\/(∃ms cl,w.heap[g]?=some (.map ms cl))\/((∃m s seen c,w.heap[g]?=some (.mapIter m s seen c))\/∃s pos,w.heap[g]?=some (.stringIter s pos))\/b.Bd=true:=by
 cases b with
 |gone=>exact hc.elim
 |log ys Y own xs=>exact .inr (.inr (.inr rfl))
 |kV ys Y own=>exact .inr (.inr (.inr rfl))
 |cells cs=>
  obtain⟨g',c,e,h1,h2,h3,_⟩:=h;simp only[af]at hc;rw[h1]at hc;simp at hc
  subst hc;exact .inl ⟨_,_,_,h2⟩
 |grow tid e xs=>
  obtain⟨n,cap',hz,hc⟩:=hc;rcases h with ⟨ad,h1,_⟩|⟨g',cap,cur,h1,h2,h3,h4,_⟩
  ·rw[h1]at hc;simp at hc
   exact absurd hc.2.2.symm hz
  ·rw[h1]at hc;simp at hc
   obtain⟨rfl,_,_⟩:=hc;exact .inl ⟨_,_,_,h4⟩
 |fH es=>
  obtain⟨g',ms,cl,h1,h2,h3,_⟩:=h;simp only[af]at hc;rw[h1]at hc;simp at hc
  subst hc;exact .inr (.inl ⟨_,_,h2⟩)
 |dmap e m=>
  obtain⟨g',ms,cl,h1,h2,h3,_⟩:=h;simp only[af]at hc;rw[h1]at hc;simp at hc
  subst hc;exact .inr (.inl ⟨_,_,h2⟩)
 |eo e last left=>
  obtain⟨g',gm,ms,cl,seen,h1,h2,h3,_⟩:=h;simp only[af]at hc;rw[h1]at hc;simp at hc
  subst hc;exact .inr (.inr (.inl (.inl ⟨_,_,_,_,h2⟩)))
 |loop f p ph ts=>exact .inr (.inr (.inr rfl))
 |dat t x=>
  obtain⟨g',c,e,h1,h2,h3,_⟩:=h;simp only[af]at hc;rw[h1]at hc;simp at hc
  subst hc;exact .inl ⟨_,_,_,h2⟩
 |eu n rest=>
  obtain⟨g',s,pos,h1,h2,h3,_⟩:=h;simp only[af]at hc;rw[h1]at hc;simp at hc
  subst hc;exact .inr (.inr (.inl (.inr ⟨_,_,h2⟩)))
 |xb x=>
  obtain⟨v,h1,h2,h3⟩:=h;obtain⟨u,h4,h5⟩:=hc;rw[h1]at h4;cases h4;exact (qh4 h2 h5).imp id .inl
theorem aD.free'{B:Nat->Prop}{w0:World}{Ψ:Pr}{β:List Value}{h:List aB}{w:World}(hi:aD C.P B w0 Ψ β h w){k g:Nat}{b:aB}(hk:h[k]?=some b)(hc:af β k g b)(hn:b.Bd=false)(a:Addr)(ha:a.block=g):Ψ a=none:=by
 cases hp:Ψ a with
 |none=>rfl
 |some v=>
  exfalso
  by_cases hs:pl a
  ·rw[hi.free k b g hk hc a ha hs]at hp;cases hp
  ·have h1:=qei hs (hi.prom a v hp);rw[ha]at h1;rcases QG (hi.blk k b hk) hc with ⟨c,e,s,h2⟩|⟨ms,cl,h2⟩|(⟨m,s,seen,c,h2⟩|⟨s,pos,h2⟩)|hl
   ·obtain⟨r,h1⟩:=h1;rw[h2]at h1;cases h1
   ·obtain⟨r,h1⟩:=h1;rw[h2]at h1;cases h1
   ·obtain⟨r,h1⟩:=h1;rw[h2]at h1;cases h1
   ·obtain⟨r,h1⟩:=h1;rw[h2]at h1;cases h1
   ·rw[hl]at hn;cases hn
theorem aD.step{B:Nat->Prop}{w0:World}{Ψ ax:Pr}{β:List Value}{h:List aB}{w w':World}(hi:aD C.P B w0 Ψ β h w)(hs:Step Ψ w ax w'):aD C.P B w0 ax β h w' where
 low:=hi.low.trans (D3 hs.below hi.size)
 size:=fun k hk=>Wa6 (hi.size k hk) hs.below.size
 prom:=fun a v hv=>by
  rcases hs.new a v hv with h'|⟨_,h1,h2⟩
  ·have h1:=hi.prom a v h';exact mR (hs.below.block a.block (qm h1)) h1
  ·exact E5 h1 h2
 own:=fun a v hv hsp=>by
  rcases hs.new a v hv with h'|⟨_,h1,h2⟩
  ·exact hi.own a v h' hsp
  ·rw[h1]at hsp;cases hsp
 len:=hi.len
 one:=hi.one
 blk:=fun k b hb=>Vj hs (hi.blk k b hb)
 free:=fun k b g hb hc a ha hsp=>by
  cases hp:ax a with
  |none=>rfl
  |some v=>
   rcases hs.new a v hp with h'|⟨h1,_⟩
   ·rw[hi.free k b g hb hc a ha hsp]at h';cases h'
   ·have:=(ct (hi.blk k b hb) hc).2
    omega
 sep:=hi.sep
 gQ:=hi.gQ.le hs.le
theorem oW{Ψ ax:Pr}(h:bW Ψ ax){a:Act}:YK Ψ a->YK ax a
 |⟨ds,r,e,hr,hn,hd⟩=>⟨ds,r,e,hr,hn,fun D hD=>h _ _ (hd D hD)⟩
theorem bF{Ψ ax:Pr}{β β':List Value}(h:bW Ψ ax)(hb:∀(k:Nat) (v:Value),β[k]?=some v->β'[k]?=some v):∀(fs:List (List AV)) (as:List Act),aQ Ψ β fs as->aQ ax β' fs as
 |[],_,hr=>hr
 |_::fs,_,⟨a,as',e,⟨h1,h2⟩,hr⟩=>⟨a,as',e,⟨oW h h1,aX h hb _ _ h2⟩,bF h hb fs as' hr⟩
end Go.AM
namespace Go.AM
open Go.RowKit
variable {B:Nat->Prop} {w0:World} {C:Ctx} {Ψ:Pr} {β:List Value} {h:List aB} {w:World} {fr:List AV} {a:Act}
theorem aU{k:IntKind}{n:Int}{v:Value}:aE Ψ β (.d (.int k) n) v↔v= .int k n/\k.has n:=by
 constructor
 ·rintro⟨cs,⟨h1,h2⟩,e⟩
  subst h1;simp[Ty.isAgg]at e
  exact⟨e.symm,h2⟩
 ·rintro⟨rfl,h2⟩
  exact⟨_,⟨rfl,h2⟩,rfl⟩
theorem fP{b:Bool}{v:Value}:aE Ψ β (.d .bool b) v↔v= .bool b:=by
 constructor
 ·rintro⟨cs,h1,e⟩
  simp only[reads]at h1;subst h1;simp[Ty.isAgg]at e
  exact e.symm
 ·rintro rfl
  exact⟨_,rfl,rfl⟩
theorem gX{l:List Int}{v:Value}:aE Ψ β (.d .str l) v↔v= .string (strOf l)/\(∀c∈l,0<=c/\c<=255)/\l.length<=maxLen:=by
 constructor
 ·rintro⟨cs,⟨h1,h2⟩,e⟩
  subst h1;simp[Ty.isAgg]at e
  exact⟨e.symm,h2⟩
 ·rintro⟨rfl,h2⟩
  exact⟨_,⟨rfl,h2⟩,rfl⟩
theorem nu{e:Ty}{xs:List e.den}{v:Value}:aE Ψ β (.d (.arr e) xs) v↔∃ad cap,v= .slice ad xs.length cap/\xs.length<=cap/\cap<=maxLen/\(xs=[]\/∃cells,gu (reads Ψ e) xs cells/\rowAt Ψ ad cells):=by
 constructor
 ·rintro⟨cs,⟨ad,cap,h1,h2⟩,e⟩
  subst h1;simp[Ty.isAgg]at e
  exact⟨ad,cap,e.symm,h2⟩
 ·rintro⟨ad,cap,rfl,h2⟩
  exact⟨_,⟨ad,cap,rfl,h2⟩,rfl⟩
theorem oy{av:AV}{v:Value}{b:Bool}(hr:aE Ψ β av v)(hb:asB av=some b):v= .bool b:=by
 unfold asB at hb;split at hb<;>simp at hb
 ·subst hb;exact hr
 ·subst hb;exact hr
 ·subst hb;exact fP.1 hr
theorem dx(b:Bool):aE Ψ β (fY b) (.bool b):=fP.2 rfl
theorem Ia(s:ByteArray):strOf (bytesOf s)=s:=by
 unfold strOf bytesOf;have:((s.data.toList.map fun b=>(b.toNat:Int)).map fun n=>UInt8.ofNat n.toNat)=s.data.toList:=by
  rw[WbR];conv=>rhs;rw[<-List.map_id s.data.toList]
  apply WbJ
  intro b _;simp
 rw[this]
theorem QH(s:ByteArray):∀c∈bytesOf s,0<=c/\c<=255:=by
 intro c hc;obtain⟨b,_,rfl⟩:=List.mem_map.1 hc;have:=b.toNat_lt
 omega
theorem NA(s:ByteArray):(bytesOf s).length=s.size:=by
 simp[bytesOf]
theorem NB(v:Value):aE Ψ β (qd6 v) v:=by
 unfold qd6;split
 ·rfl
 ·rfl
 ·split
  ·rename_i hk;exact aU.2 ⟨rfl,by simpa [YX,IntKind.has]using hk⟩
  ·trivial
 ·split
  ·rename_i hs;exact gX.2 ⟨by rw[Ia],QH _,by rw[NA];exact hs⟩
  ·trivial
 ·rfl
 ·rfl
 ·rfl
 ·trivial
theorem NC:∀vs:List Value,aL Ψ β (qhM vs) vs
 |[]=>rfl
 |v::vs=>⟨v,vs,rfl,NB v,NC vs⟩
theorem iU(v:Value):aE Ψ β (ofV v) v:=by
 unfold ofV;split
 ·split
  ·rename_i cs hc;exact⟨cs.toList,by simp,NC _,fun u hu=>List.all_eq_true.1 hc u hu⟩
  ·trivial
 ·exact NB v
theorem bU(hf:wS Ψ β fr a)(x:Operand):aE Ψ β (ev fr x) (a.eval x):=by
 cases x with
 |tmp t=>
  have:=c9 _ _ hf.2 t
  simpa [ev,Act.eval,Wah,Wab]using this
 |const v=>exact iU v
 |global g=>rfl
 |func f=>exact⟨[],rfl,rfl⟩
def dP(C:Ctx)(Ψ:Pr)(β:List Value)(w:World)(s:Sem Value)(av:AV):Prop:=
 ∃v ax w',s.run C.P w= .ok v w'/\Step Ψ w ax w'/\aE ax β av v
theorem dP.aO{s:Sem Value}{av:AV}{v:Value}(hr:s.run C.P w= .ok v w)(hv:aE Ψ β av v):dP C Ψ β w s av:=
 ⟨v,Ψ,w,hr,Step.refl _ _,hv⟩
theorem eG(k:IntKind)(n:Int):k.has (k.wrap n):=by
 unfold IntKind.has;cases k<;>simp[IntKind.wrap,IntKind.min,IntKind.max,IntKind.bits,IntKind.signed]<;>omega
theorem wrap_i64{n:Int}(h:aa n):IntKind.i64.wrap n=n:=by
 unfold aa at h;simp[IntKind.wrap,IntKind.bits,IntKind.signed]
 omega
theorem mJ{n:Int}:IntKind.i64.has n↔aa n:=by
 unfold IntKind.has aa;simp[IntKind.min,IntKind.max,IntKind.bits,IntKind.signed]
theorem E7{k:IntKind}{n:Int}(h:k.has n):k.wrap n=n:=by
 unfold IntKind.has at h;cases k<;>simp[IntKind.wrap,IntKind.min,IntKind.max,IntKind.bits,IntKind.signed]at* <;>omega
theorem aI{h:List aB}{v:AV}{r:Out}(e:iH h v=some r):r=⟨none,v,h,none⟩:=by simpa [iH]using e.symm
theorem bG{h:List aB}{p:Prop}{v:AV}{r:Out}(e:AP h p v=some r):r=⟨some p,v,h,none⟩:=by simpa [AP]using e.symm
theorem q8{wr:Bool}{k:IntKind}{n:Int}{r:Out}(e:arith wr h k n=some r)(hp:∀p,r.need=some p->p):
 r.heap=h/\r.kill=none/\aE Ψ β r.v (.int k (k.wrap n)):=by
 unfold arith at e;split at e
 ·cases wr with
  |true=>
   have:=aI e;subst this
   exact⟨rfl,rfl,aU.2 ⟨rfl,eG _ _⟩⟩
  |false=>
  have:=bG e;subst this
  have hn:aa n:=hp _ rfl;exact⟨rfl,rfl,aU.2 ⟨by rw[wrap_i64 hn],mJ.2 hn⟩⟩
 ·have:=aI e;subst this
  exact⟨rfl,rfl,aU.2 ⟨rfl,eG _ _⟩⟩
theorem zu(l:List Int):(strOf l).data.toList=l.map fun n=>UInt8.ofNat n.toNat:=by simp[strOf]
theorem Be{l m:List Int}(hl:∀c∈l,0<=c/\c<=255)(hm:∀c∈m,0<=c/\c<=255)(e:strOf l=strOf m):l=m:=by
 have h1:=congrArg (fun s=>bytesOf s) e
 have key:∀l:List Int,(∀c∈l,0<=c/\c<=255)->bytesOf (strOf l)=l:=by
  intro l hl;unfold bytesOf;rw[zu,WbR];conv=>rhs;rw[<-List.map_id l]
  apply WbJ
  intro c hc;have:=hl c hc
  simp
  omega
 simp only[key l hl,key m hm]at h1;exact h1
theorem dU(l:List Int):(strOf l).size=l.length:=by
 show (strOf l).data.size=_
 simp[strOf]
theorem KT(k yk:IntKind)(x y:Int)(h0:0<=y)(h1:y<=k.bits):(Op.shift .shl k x yk y).run C.P w= .ok (.int k (k.wrap (x*2 ^ y.toNat))) w:=by
 rw[shift_shl k yk x y h0 h1];rfl
theorem ZP(k yk:IntKind)(x y:Int)(h0:0<=y)(h1:y<=k.bits):(Op.shift .shr k x yk y).run C.P w= .ok (.int k (x / 2 ^ y.toNat)) w:=by
 rw[shift_shr k yk x y h0 h1];rfl
theorem TM{k:IntKind}{x:Int}(h:k.has x)(n:Nat):k.has (x / 2 ^ n):=by
 have hpos:(0:Int)<2 ^ n:=Int.pow_pos (by decide)
 unfold IntKind.has at*;have hmin:k.min<=0:=by cases k<;>simp[IntKind.min,IntKind.bits,IntKind.signed]
 have qoG:0<=k.max:=by cases k<;>simp[IntKind.max,IntKind.bits,IntKind.signed]
 constructor
 ·rcases Wa4 x 0 with hx|hx
  ·have:x<=x / 2 ^ n:=by
    have h1:x*2 ^ n<=x:=by
     have:x*2 ^ n<=x*1:=Int.mul_le_mul_of_nonpos_left (by omega) (by omega)
     omega
    exact (Int.le_ediv_iff_mul_le hpos).2 h1
   omega
  ·have:=Int.ediv_nonneg hx (Int.le_of_lt hpos);omega
 ·rcases Wa4 x 0 with hx|hx
  ·have:=Int.ediv_neg_of_neg_of_pos hx hpos;omega
  ·have:=Int.ediv_le_self (2 ^ n) hx;omega
theorem zw{x y:Int}(h:0<=x):x % y<=x:=by
 obtain⟨n,rfl⟩:=Wa8 h;rcases Int.natAbs_eq y with hy|hy
 ·rw[hy,<-Int.natCast_emod];have:=Nat.mod_le n y.natAbs
  omega
 ·rw[hy,Int.emod_neg,<-Int.natCast_emod];have:=Nat.mod_le n y.natAbs
  omega
theorem ND{k:IntKind}{x y:Int}(hx:k.has x)(_hy:k.has y):k.has (x.tmod y):=by
 unfold IntKind.has at*;have hmin:k.min<=0:=by cases k<;>simp[IntKind.min,IntKind.bits,IntKind.signed]
 have qoG:0<=k.max:=by cases k<;>simp[IntKind.max,IntKind.bits,IntKind.signed]
 rcases Wa4 x 0 with h|h
 ·have e:x.tmod y= -((-x).tmod y):=by rw[Int.neg_tmod];omega
  have h1:0<=(-x).tmod y:=Int.tmod_nonneg _ (by omega)
  have h2:(-x).tmod y<= -x:=by rw[WaI (by omega)];exact zw (by omega)
  omega
 ·have h1:0<=x.tmod y:=Int.tmod_nonneg _ h;have h2:x.tmod y<=x:=by rw[WaI h];exact zw h
  omega
theorem nZ(op:BinOp)(k:IntKind)(x y:Int)(ho:op= .and\/op= .or\/op= .xor\/op= .andNot):(Op.intBits op k x y).run C.P w= .ok (.int k (aK op k x y)) w:=by
 rcases ho with rfl|rfl|rfl|rfl<;>rfl
theorem qek{wr:Bool}{op:BinOp}{xt:TypeId}{k k':IntKind}{m n:Int}{r:Out}(hm:k.has m)(hn:k'.has n)
 (hr:Vd wr h op k k' m n=some r) (hp:∀p,r.need=some p->p):
 r.heap=h/\r.kill=none/\dP C Ψ β w (binOp op xt (.int k m) (.int k' n)) r.v:=by
 unfold Vd at hr;split at hr
 ·
  split at hr
  ·have:=bG hr;subst this
   obtain⟨h0,h1,h2⟩:=hp _ rfl;refine⟨rfl,rfl,dP.aO (v:=.int .i64 (m*2 ^ n.toNat)) ?_ (aU.2 ⟨rfl,mJ.2 h2⟩)⟩
   rw[binOp_shl,KT _ _ _ _ h0 (by simp[IntKind.bits];omega),wrap_i64 h2]
  ·have:=bG hr;subst this
   obtain⟨h0,h1⟩:=hp _ rfl;refine⟨rfl,rfl,dP.aO (v:=.int k (k.wrap (m*2 ^ n.toNat))) ?_ (aU.2 ⟨rfl,eG _ _⟩)⟩
   rw[binOp_shl,KT _ _ _ _ h0 h1]
 ·
  have:=bG hr;subst this
  obtain⟨h0,h1⟩:=hp _ rfl;refine⟨rfl,rfl,dP.aO (v:=.int k (m / 2 ^ n.toNat)) ?_ (aU.2 ⟨rfl,TM hm _⟩)⟩
  rw[binOp_shr,ZP _ _ _ _ h0 h1]
 ·split at hr
  ·rename_i hk;subst hk;have Bf:∀b:Bool,iH h (fY b)=some r->(binOp op xt (.int k m) (.int k n)).run C.P w= .ok (.bool b) w->
    r.heap=h/\r.kill=none/\dP C Ψ β w (binOp op xt (.int k m) (.int k n)) r.v:=by
    intro b e hb;have:=aI e;subst this
    exact⟨rfl,rfl,dP.aO hb (dx b)⟩
   split at hr
   ·obtain⟨h1,h2,h3⟩:=q8 (Ψ:=Ψ) (β:=β) hr hp;exact⟨h1,h2,dP.aO (by rw[binOp_add];rfl) h3⟩
   ·obtain⟨h1,h2,h3⟩:=q8 (Ψ:=Ψ) (β:=β) hr hp;exact⟨h1,h2,dP.aO (by rw[binOp_sub];rfl) h3⟩
   ·obtain⟨h1,h2,h3⟩:=q8 (Ψ:=Ψ) (β:=β) hr hp;exact⟨h1,h2,dP.aO (by rw[binOp_mul];rfl) h3⟩
   ·
    split at hr
    ·have:=bG hr;subst this
     obtain⟨h0,h1⟩:=hp _ rfl;refine⟨rfl,rfl,dP.aO (v:=.int .i64 (m.tdiv n)) ?_ (aU.2 ⟨rfl,mJ.2 h1⟩)⟩
     rw[binOp_quo];simp[Op.intDiv,h0,wrap_i64 h1]
    ·have:=bG hr;subst this
     have h0:=hp _ rfl;refine⟨rfl,rfl,dP.aO (v:=.int k (k.wrap (m.tdiv n))) ?_ (aU.2 ⟨rfl,eG _ _⟩)⟩
     rw[binOp_quo];simp[Op.intDiv,h0]
   ·have:=bG hr;subst this
    have h0:=hp _ rfl;refine⟨rfl,rfl,dP.aO (v:=.int k (m.tmod n)) ?_ (aU.2 ⟨rfl,ND hm hn⟩)⟩
    rw[binOp_rem];simp[Op.intDiv,h0]
   ·have:=aI hr;subst this
    exact⟨rfl,rfl,dP.aO (by rw[binOp_and];exact nZ _ _ _ _ (.inl rfl)) (aU.2 ⟨rfl,eG _ _⟩)⟩
   ·have:=aI hr;subst this
    exact⟨rfl,rfl,dP.aO (by rw[binOp_or];exact nZ _ _ _ _ (.inr (.inl rfl))) (aU.2 ⟨rfl,eG _ _⟩)⟩
   ·have:=aI hr;subst this
    exact⟨rfl,rfl,dP.aO (by rw[binOp_xor];exact nZ _ _ _ _ (.inr (.inr (.inl rfl)))) (aU.2 ⟨rfl,eG _ _⟩)⟩
   ·have:=aI hr;subst this
    exact⟨rfl,rfl,dP.aO (by rw[binOp_andNot];exact nZ _ _ _ _ (.inr (.inr (.inr rfl)))) (aU.2 ⟨rfl,eG _ _⟩)⟩
   ·exact Bf _ hr (by rw[binOp_eql];rfl)
   ·exact Bf _ hr (by rw[binOp_neq];rfl)
   ·exact Bf _ hr (by rw[binOp_lss];rfl)
   ·exact Bf _ hr (by rw[binOp_leq];rfl)
   ·exact Bf _ hr (by rw[binOp_gtr];rfl)
   ·exact Bf _ hr (by rw[binOp_geq];rfl)
   ·cases hr
  ·cases hr
theorem KU{xt:TypeId}(hu:C.P.underlying xt=some .bool)(b c:Bool)(d:Nat):(Op.equalIn (d+1) xt (.bool b) (.bool c)).run C.P w= .ok (b==c) w:=by
 simp[Op.equalIn,run_underlying hu]
theorem E8{xt:TypeId}(hb:Kq C xt=true)(b c:Bool):(Op.equal xt (.bool b) (.bool c)).run C.P w= .ok (b==c) w:=by
 unfold Kq at hb;split at hb
 ·rename_i hu;exact KU hu b c 9999
 ·cases hb
theorem QI{xt:TypeId}{p q r:_}(hu:C.P.underlying xt=some (.func p q r))(f:_)(us vs:Array Value)(d:Nat):(Op.equalIn (d+1) xt (.func f us vs) .nilFunc).run C.P w= .ok false w:=by
 simp[Op.equalIn,run_underlying hu]
theorem NF{xt:TypeId}{p q r:_}(hu:C.P.underlying xt=some (.func p q r))(d:Nat):(Op.equalIn (d+1) xt .nilFunc .nilFunc).run C.P w= .ok true w:=by
 simp[Op.equalIn,run_underlying hu]
theorem NG{xt e:TypeId}(hu:C.P.underlying xt=some (.pointer e))(a:Addr)(d:Nat):(Op.equalIn (d+1) xt (.pointer (some a)) (.pointer none)).run C.P w= .ok false w:=by
 simp[Op.equalIn,run_underlying hu]
theorem KV{xt e:TypeId}(hu:C.P.underlying xt=some (.pointer e))(d:Nat):(Op.equalIn (d+1) xt (.pointer none) (.pointer none)).run C.P w= .ok true w:=by
 simp[Op.equalIn,run_underlying hu]
theorem wU:∀{l m:List Int},(∀c∈l,0<=c/\c<=255)->(∀c∈m,0<=c/\c<=255)->Op.bytesLess (l.map fun n=>UInt8.ofNat n.toNat) (m.map fun n=>UInt8.ofNat n.toNat)=strLt l m
 |[],[],_,_=>rfl
 |_::_,[],_,_=>rfl
 |[],_::_,_,_=>rfl
 |a::l,b::m,hl,hm=>by
  simp only[Wat,Op.bytesLess,strLt];have ha:=hl a (Waq ..);have hb:=hm b (Waq ..);rw[wU (fun c hc=>hl c (Wal _ hc)) (fun c hc=>hm c (Wal _ hc))]
  have e1:(UInt8.ofNat a.toNat<UInt8.ofNat b.toNat)↔a<b:=by
   rw[UInt8.lt_iff_toNat_lt,WbZ,WbZ];omega
  have e2:(UInt8.ofNat a.toNat=UInt8.ofNat b.toNat)↔a=b:=by
   rw[<-UInt8.toNat_inj,WbZ,WbZ];omega
  have e3:(UInt8.ofNat a.toNat==UInt8.ofNat b.toNat)=decide (a=b):=by
   rw[Bool.eq_iff_iff];simp only[beq_iff_eq,decide_eq_true_eq];exact e2
  rw[e3,decide_eq_decide.2 e1]
theorem zx{l m:List Int}(hl:∀c∈l,0<=c/\c<=255)(hm:∀c∈m,0<=c/\c<=255):Op.bytesLess (strOf l).toList (strOf m).toList=strLt l m:=by
 have e1:(strOf l).toList=(strOf l).data.toList:=ByteArray.toList_eq _;have e2:(strOf m).toList=(strOf m).data.toList:=ByteArray.toList_eq _;rw[e1,e2];simpa [strOf]using wU hl hm
theorem KW(l m:List Int):strOf (l++m)=strOf l++strOf m:=by
 apply ByteArray.ext
 rw[ByteArray.data_append];simp[strOf]
theorem D8{op:BinOp}{xt:TypeId}{x y:Operand}{u v:Value}{b:Bool}{r:Out}(hr:Ve h op b=some r)(hg:eqGuard op xt x y u v=pure ())(NH:binOp .eql xt u v=do pure (.bool (<-Op.equal xt u v)))(hs2:binOp .neq xt u v=do pure (.bool (!(<-Op.equal xt u v))))
 (he:(Op.equal xt u v).run C.P w= .ok b w):r.heap=h/\r.kill=none/\dP C Ψ β w (do eqGuard op xt x y u v;binOp op xt u v) r.v:=by
 have hrun:∀s:Sem Value,((pure ():Sem Unit)>>=fun _=>s)=s:=fun _=>rfl
 rw[hg,hrun];unfold Ve at hr;split at hr
 ·have:=aI hr;subst this
  refine⟨rfl,rfl,dP.aO (v:=.bool b) ?_ (by cases b<;>rfl)⟩
  rw[NH];simp[he]
 ·have:=aI hr;subst this
  refine⟨rfl,rfl,dP.aO (v:=.bool (!b)) ?_ (by cases b<;>rfl)⟩
  rw[hs2];simp[he]
 ·cases hr
theorem ZQ{op:BinOp}{xt:TypeId}{x y:Operand}{av bv:AV}{u v:Value}{r:Out}(hx:aE Ψ β av u)(hy:aE Ψ β bv v)
 (hr:qhO C h op xt av bv=some r) (hp:∀p,r.need=some p->p):
 r.heap=h/\r.kill=none/\dP C Ψ β w (do eqGuard op xt x y u v;binOp op xt u v) r.v:=by
 have hrun:∀s:Sem Value,((pure ():Sem Unit)>>=fun _=>s)=s:=fun _=>rfl
 unfold qhO at hr;split at hr
 ·
  rename_i k m k' n;obtain⟨rfl,hm⟩:=aU.1 hx;obtain⟨rfl,hn⟩:=aU.1 hy;rw[eqGuard_at_int,hrun];exact qek hm hn hr hp
 ·
  rename_i l m;obtain⟨rfl,hl,hl'⟩:=gX.1 hx;obtain⟨rfl,hm,hm'⟩:=gX.1 hy;rw[eqGuard_at_string,hrun];have heq:((strOf l).toList==(strOf m).toList)=decide (l=m):=by
   rw[Bool.eq_iff_iff];simp only[beq_iff_eq,decide_eq_true_eq];constructor
   ·intro e;refine Be hl hm ?_
    have e1:(strOf l).toList=(strOf l).data.toList:=ByteArray.toList_eq _;have e2:(strOf m).toList=(strOf m).data.toList:=ByteArray.toList_eq _;rw[e1,e2]at e;exact ByteArray.ext (Wb4 e)
   ·rintro rfl;rfl
  split at hr
  ·have:=aI hr;subst this
   refine⟨rfl,rfl,dP.aO (v:=.bool (decide (l=m))) ?_ (dx _)⟩
   show (Op.stringOp .eql _ _).run C.P w=_
   simp[Op.stringOp,heq]
  ·have:=aI hr;subst this
   refine⟨rfl,rfl,dP.aO (v:=.bool (!decide (l=m))) ?_ (dx _)⟩
   show (Op.stringOp .neq _ _).run C.P w=_
   simp[Op.stringOp,heq]
  ·have:=aI hr;subst this
   refine⟨rfl,rfl,dP.aO (v:=.bool (strLt l m)) ?_ (dx _)⟩
   show (Op.stringOp .lss _ _).run C.P w=_
   simp[Op.stringOp,zx hl hm]
  ·have:=aI hr;subst this
   refine⟨rfl,rfl,dP.aO (v:=.bool (!(strLt l m||decide (l=m)))) ?_ (dx _)⟩
   show (Op.stringOp .gtr _ _).run C.P w=_
   simp[Op.stringOp,zx hl hm,heq]
  ·have:=aI hr;subst this
   refine⟨rfl,rfl,dP.aO (v:=.bool (strLt l m||decide (l=m))) ?_ (dx _)⟩
   show (Op.stringOp .leq _ _).run C.P w=_
   simp[Op.stringOp,zx hl hm,heq]
  ·have:=aI hr;subst this
   refine⟨rfl,rfl,dP.aO (v:=.bool (!strLt l m)) ?_ (dx _)⟩
   show (Op.stringOp .geq _ _).run C.P w=_
   simp[Op.stringOp,zx hl hm]
  ·have:=bG hr;subst this
   have hq:l.length+m.length<=9223372036854775807:=hp _ rfl;refine⟨rfl,rfl,dP.aO (v:=.string (strOf (l++m))) ?_ (gX.2 ⟨rfl,fun c hc=>(List.mem_append.1 hc).elim (hl c) (hm c),by rw[Wad];exact hq⟩)⟩
   show (Op.stringOp .add _ _).run C.P w=_
   have e:¬(((strOf l).size+(strOf m).size:Nat):Int)>IntKind.i64.max:=by
    rw[dU,dU];simp only[IntKind.max,IntKind.bits,IntKind.signed];omega
   simp only[Op.stringOp,e,if_false,KW];rfl
  ·cases hr
 ·split at hr
  ·rename_i ht;obtain⟨us,rfl,_⟩:=hx;have hv:v= .nilFunc:=hy;subst hv;refine D8 hr (by cases op<;>rfl) rfl rfl ?_
   unfold DU at ht;split at ht
   ·rename_i hu;exact QI hu _ _ _ 9999
   ·cases ht
  ·cases hr
 ·split at hr
  ·rename_i ht;have hu':u= .nilFunc:=hx;have hv:v= .nilFunc:=hy;subst hu' hv;refine D8 hr (by cases op<;>rfl) rfl rfl ?_
   unfold DU at ht;split at ht
   ·rename_i hu;exact NF hu 9999
   ·cases ht
  ·cases hr
 ·split at hr
  ·rename_i ht;obtain⟨g,_,rfl⟩:=hx;have hv:v= .pointer none:=hy;subst hv;refine D8 hr (by cases op<;>rfl) rfl rfl ?_
   unfold Kr at ht;split at ht
   ·rename_i hu;exact NG hu _ 9999
   ·cases ht
  ·cases hr
 ·split at hr
  ·rename_i ht;have hu':u= .pointer none:=hx;have hv:v= .pointer none:=hy;subst hu' hv;refine D8 hr (by cases op<;>rfl) rfl rfl ?_
   unfold Kr at ht;split at ht
   ·rename_i hu;exact KV hu 9999
   ·cases ht
  ·cases hr
 ·split at hr
  ·rename_i hbt;split at hr
   ·rename_i b c hb hc;have e1:=oy hx hb;have e2:=oy hy hc
    subst e1 e2;rw[eqGuard_at_bool,hrun];have:=aI hr;subst this
    refine⟨rfl,rfl,dP.aO (v:=.bool (b==c)) ?_ (dx _)⟩
    simp[binOp,E8 hbt]
   ·rename_i b c hb hc;have e1:=oy hx hb;have e2:=oy hy hc
    subst e1 e2;rw[eqGuard_at_bool,hrun];have:=aI hr;subst this
    refine⟨rfl,rfl,dP.aO (v:=.bool (b !=c)) ?_ (dx _)⟩
    simp[binOp,E8 hbt,bne]
   ·cases hr
  ·cases hr
theorem qem{op:UnOp}{av:AV}{u:Value}{r:Out}(hx:aE Ψ β av u)(hr:aun h op av=some r)(hp:∀p,r.need=some p->p):
 r.heap=h/\r.kill=none/\dP C Ψ β w (Op.unary op u) r.v:=by
 unfold aun at hr;split at hr
 ·have:=aI hr;subst this
  have:u= .bool true:=hx
  subst this;exact⟨rfl,rfl,dP.aO (v:=.bool false) rfl rfl⟩
 ·have:=aI hr;subst this
  have:u= .bool false:=hx
  subst this;exact⟨rfl,rfl,dP.aO (v:=.bool true) rfl rfl⟩
 ·have:=aI hr;subst this
  rw[fP.1 hx];exact⟨rfl,rfl,dP.aO rfl (dx _)⟩
 ·obtain⟨rfl,hm⟩:=aU.1 hx;obtain⟨h1,h2,h3⟩:=q8 (Ψ:=Ψ) (β:=β) hr hp;exact⟨h1,h2,dP.aO rfl h3⟩
 ·rename_i k n;obtain⟨rfl,hm⟩:=aU.1 hx;have:=aI hr;subst this
  exact⟨rfl,rfl,dP.aO (nZ _ _ _ _ (.inr (.inr (.inl rfl)))) (aU.2 ⟨rfl,eG _ _⟩)⟩
 ·cases hr
theorem oX{av:AV}{v:Value}{e:Ty}{xs:List e.den}(hi:aD C.P B w0 Ψ β h w)(hr:aE Ψ β av v)(hl:iR h av=some ⟨e,xs⟩):
 ∃ad cap,v= .slice ad xs.length cap/\xs.length<=cap/\cap<=maxLen/\(xs=[]\/∃cells g off,gu (reads Ψ e) xs cells/\ad=some ⟨g,off,none⟩/\∀j u,cells[j]?=some u->w.cell? ⟨g,off+j,none⟩=some u):=by
 have key:∀{e:Ty} {xs:List e.den} {v:Value},rv Ψ (.arr e) xs v->∃ad cap,v= .slice ad xs.length cap/\xs.length<=cap/\cap<=maxLen/\(xs=[]\/∃cells g off,gu (reads Ψ e) xs cells/\ad=some ⟨g,off,none⟩/\∀j u,cells[j]?=some u->w.cell? ⟨g,off+j,none⟩=some u):=by
  intro e xs v hv;obtain⟨ad,cap,e1,h1,h2,h3⟩:=nu (β:=β).1 hv;refine⟨ad,cap,e1,h1,h2,h3.imp id ?_⟩
  rintro⟨cells,hd,g,off,e2,hc⟩
  exact⟨cells,g,off,hd,e2,fun j u hj=>hi.prom _ _ (hc j u hj)⟩
 unfold iR at hl;split at hl
 ·simp at hl
  obtain⟨rfl,hl⟩:=hl;simp at hl
  subst hl;exact key hr
 ·simp at hl
  obtain⟨rfl,hl⟩:=hl;simp at hl
  subst hl;exact key hr.choose_spec.2
 ·rename_i k;split at hl
  ·rename_i tid e' xs' hg;simp at hl
   obtain⟨rfl,hl⟩:=hl;simp at hl
   subst hl;have h4:β[k]?=some v:=hr.1;rcases hi.blk k _ (aC hg (by simp)) with ⟨ad,h1,rfl⟩|⟨g,cap,cur,h1,_,hB,hh,hn,hcap,hsz,hd⟩
   ·rw[h1]at h4;simp at h4
    subst h4;exact⟨ad,0,rfl,Wan _,by simp[maxLen],.inl rfl⟩
   ·rw[h1]at h4;simp at h4
    subst h4;refine⟨_,cap,rfl,hn,hcap,.inr ⟨_,g,0,hd,rfl,fun j u hj=>?_⟩⟩
    have hcell:w.cell? ⟨g,0+j,none⟩=cur[0+j]?:=by simp[World.cell?,hh]
    rw[hcell,WaO];rw[Was]at hj;split at hj
    ·simpa using hj
    ·cases hj
  ·cases hl
 ·cases hl
theorem cO{t tid:TypeId}(he:elemOf C t=some tid):C.P.underlying t=some (.slice tid):=by
 unfold elemOf at he;split at he
 ·rename_i hu;simp at he;subst he;exact hu
 ·cases he
theorem vB{n:Nat}(hn:n<=maxLen):IntKind.i64.has (n:Int):=by
 rw[mJ];unfold aa;simp[maxLen]at hn
 omega
theorem IX{e:Ty}:∀{m:List (Int×e.den)} {l:List MapEntry},zn Ψ e m l->m.length=l.length
 |[],l,h=>by
  have h:l=[]:=h;subst h;rfl
 |p::m,l,⟨x,es',h1,_,_,_,h5⟩=>by subst h1;simp[IX h5]
theorem qh6{av:AV}{v:Value}{r:Out}{t ty:TypeId}(hi:aD C.P B w0 Ψ β h w)(hx:aE Ψ β av v)(hr:qhP C h t av=some r)(hp:∀p,r.need=some p->p):
 r.heap=h/\r.kill=none/\dP C Ψ β w (Builtin.len_ #[t] ty #[v]) r.v:=by
 unfold qhP at hr;split at hr
 ·rename_i l hu;obtain⟨rfl,hl,hl'⟩:=gX.1 hx;have:=aI hr;subst this
  refine⟨rfl,rfl,dP.aO (v:=.int .i64 l.length) ?_ (aU.2 ⟨rfl,vB hl'⟩)⟩
  simp[Builtin.len_,run_underlying hu,goInt,dU]
 ·rename_i hu;have:v= .slice none 0 0:=hx
  subst this;have:=aI hr;subst this
  refine⟨rfl,rfl,dP.aO (v:=.int .i64 0) ?_ (aU.2 ⟨rfl,vB (n:=0) (by simp[maxLen])⟩)⟩
  simp[Builtin.len_,run_underlying hu,goInt]
 ·rename_i e k n hu;obtain⟨g,_,hn,rfl⟩:=hx;have:=aI hr;subst this
  refine⟨rfl,rfl,dP.aO (v:=.int .i64 n) ?_ (aU.2 ⟨rfl,vB (n:=n) (by simp[maxLen];omega)⟩)⟩
  simp[Builtin.len_,run_underlying hu,goInt]
 ·rename_i e k off n lo hi' hu;obtain⟨g,_,h1,h2,h3,h4,rfl⟩:=hx;have:=aI hr;subst this
  have e1:hi'-lo=((hi'.toNat-lo.toNat:Nat):Int):=by omega
  refine⟨rfl,rfl,dP.aO (v:=.int .i64 ((hi'.toNat-lo.toNat:Nat):Int)) ?_ (aU.2 ⟨by rw[e1],by rw[e1];exact vB (by omega)⟩)⟩
  simp[Builtin.len_,run_underlying hu,goInt]
 ·rename_i e hu _ _ _;split at hr
  ·rename_i e' xs hl;obtain⟨ad,cap,rfl,h1,h2,_⟩:=oX hi hx hl;have:=aI hr;subst this
   refine⟨rfl,rfl,dP.aO (v:=.int .i64 xs.length) ?_ (aU.2 ⟨rfl,vB (by omega)⟩)⟩
   simp[Builtin.len_,run_underlying hu,goInt]
  ·cases hr
 ·rename_i kt et j hu;split at hr
  ·rename_i e m hg;simp at hr
   subst hr;obtain⟨g,ms,cl,bV,hh,_,hm,_⟩:=hi.blk j _ (aC hg (by simp))
   have hv:v= .map (some g):=by
    have h1:β[j]?=some v:=hx.1;rw[bV]at h1;simpa using h1.symm
   subst hv;have hlen:m.length=ms.size:=by rw[IX hm,Array.length_toList]
   have hb:(m.length:Int)<=9223372036854775807:=hp _ rfl;have qoI:IntKind.i64.has (m.length:Int):=by
    have h1:IntKind.i64.min= -9223372036854775808:=by decide
    have h2:IntKind.i64.max=9223372036854775807:=by decide
    unfold IntKind.has;omega
   refine⟨rfl,rfl,dP.aO (v:=.int .i64 m.length) ?_ (aU.2 ⟨rfl,qoI⟩)⟩
   simp[Builtin.len_,run_underlying hu,goInt,MapKept.run_getObj_map hh,Result.andThen,hlen]
  ·cases hr
 ·cases hr
end Go.AM
namespace Go.AM
open Go.RowKit
variable {B:Nat->Prop} {w0:World} {C:Ctx} {Ψ:Pr} {β:List Value} {h:List aB} {w:World} {fr:List AV} {a:Act}
theorem KX{kd:IntKind}{c:AV}{l:List AV}{n m:Int}(hf:rR kd (c::l) n=some m):∃k:Int,c= .d (.int kd) k/\rR kd l (min n k)=some m:=by
 unfold rR at hf;split at hf
 ·rename_i he;cases he
 ·rename_i he;simp only[List.cons.injEq]at he;obtain⟨rfl,rfl⟩:=he;split at hf
  ·rename_i hk;subst hk;exact⟨_,rfl,hf⟩
  ·cases hf
 ·cases hf
theorem E9{kd:IntKind}:∀(l:List AV) (n m:Int) (vs:List Value),rR kd l n=some m->aL Ψ β l vs->kd.has n->
 (vs.foldlM Builtin.min2 (.int kd n)).run C.P w= .ok (.int kd m) w/\kd.has m
 |[],n,m,vs,hf,hl,hn=>by
  simp only[rR,Option.some.injEq]at hf;simp only[aL]at hl;subst hf hl;exact⟨rfl,hn⟩
 |c::l,n,m,vs,hf,⟨v,vs',e,hv,hl⟩,hn=>by
  obtain⟨k,rfl,hf'⟩:=KX hf;obtain⟨rfl,hk⟩:=aU.1 hv;subst e;have hm:kd.has (min n k):=by unfold IntKind.has at*;omega
  obtain⟨h1,h2⟩:=E9 l _ m vs' hf' hl hm;refine⟨?_,h2⟩
  have e1:Builtin.min2 (.int kd n) (.int kd k)=pure (.int kd (min n k)):=by
   simp only[Builtin.min2];congr 2
   split<;>omega
  rw[List.foldlM_cons,e1];exact h1
theorem KY{kd:IntKind}{c:AV}{l:List AV}{n m:Int}(hf:rS kd (c::l) n=some m):∃k:Int,c= .d (.int kd) k/\rS kd l (max n k)=some m:=by
 unfold rS at hf;split at hf
 ·rename_i he;cases he
 ·rename_i he;simp only[List.cons.injEq]at he;obtain⟨rfl,rfl⟩:=he;split at hf
  ·rename_i hk;subst hk;exact⟨_,rfl,hf⟩
  ·cases hf
 ·cases hf
theorem Fa{kd:IntKind}:∀(l:List AV) (n m:Int) (vs:List Value),rS kd l n=some m->aL Ψ β l vs->kd.has n->
 (vs.foldlM Builtin.max2 (.int kd n)).run C.P w= .ok (.int kd m) w/\kd.has m
 |[],n,m,vs,hf,hl,hn=>by
  simp only[rS,Option.some.injEq]at hf;simp only[aL]at hl;subst hf hl;exact⟨rfl,hn⟩
 |c::l,n,m,vs,hf,⟨v,vs',e,hv,hl⟩,hn=>by
  obtain⟨k,rfl,hf'⟩:=KY hf;obtain⟨rfl,hk⟩:=aU.1 hv;subst e;have hm:kd.has (max n k):=by unfold IntKind.has at*;omega
  obtain⟨h1,h2⟩:=Fa l _ m vs' hf' hl hm;refine⟨?_,h2⟩
  have e1:Builtin.max2 (.int kd n) (.int kd k)=pure (.int kd (max n k)):=by
   simp only[Builtin.max2];congr 2
   split<;>omega
  rw[List.foldlM_cons,e1];exact h1
theorem eE{k:IntKind}{i:Int}{y:Nat}{code:BoundsCode}(h0:0<=i)(h1:i<=y):
 (Instr.sliceBound (.int k i) y code).run C.P w= .ok i.toNat w:=by
 simp[Instr.sliceBound,asIntOf,h0,h1]
def jS(Ψ:Pr)(β:List Value):Option AV->Option Value->Prop
 |none,v=>v=none
 |some av,v=>∃u,v=some u/\aE Ψ β av u
theorem jS.int{Ψ:Pr}{β:List Value}{k:IntKind}{n:Int}{v:Option Value}(hr:jS Ψ β (some (.d (.int k) n)) v):v=some (.int k n):=by
 obtain⟨u,rfl,hu⟩:=hr;rw[(aU.1 hu).1]
theorem cK{isSlice:Bool}{len cap:Nat}{lo hi mx:Option AV}{l h' m:Option Value}(hl:jS Ψ β lo l)(hh:jS Ψ β hi h')(hm:jS Ψ β mx m)
 {x:Int} {y z:Option Int} (he:rT lo hi mx=some (x,y,z)) (hx:0<=x) (hxy:x<=y.getD len) (hyz:∀n,y=some n->n<=z.getD cap) (hz:∀n,z=some n->n<=cap) (qsr:len<=cap):
 (Instr.sliceBounds isSlice len cap l h' m).run C.P w= .ok (x.toNat,(y.map Int.toNat).getD len,(z.map Int.toNat).getD cap) w/\(z.isSome->y.isSome):=by
 unfold rT at he;split at he<;>simp only[Option.some.injEq,Prod.mk.injEq,reduceCtorEq]at he
 ·obtain⟨rfl,rfl,rfl⟩:=he;simp only[jS]at hl hh hm;subst hl hh hm;simp[Instr.sliceBounds]
 ·obtain⟨rfl,rfl,rfl⟩:=he;simp only[jS]at hh hm;subst hh hm;rw[hl.int];simp only[Wbn]at hxy;simp[Instr.sliceBounds,eE hx hxy]
 ·obtain⟨rfl,rfl,rfl⟩:=he;simp only[jS]at hl hm;subst hl hm;rw[hh.int];simp only[Wa3]at hxy;have:=hyz _ rfl
  simp only[Wbn]at this;simp[Instr.sliceBounds,eE hxy this]
 ·obtain⟨rfl,rfl,rfl⟩:=he;simp only[jS]at hm;subst hm;rw[hh.int,hl.int];simp only[Wa3]at hxy;have h1:=hyz _ rfl;simp only[Wbn]at h1;rename_i k n k' n';have hn':0<=n':=WbL hx hxy;have h2:n<=((n'.toNat:Nat):Int):=by rw[WbU hn'];exact hxy
  simp[Instr.sliceBounds,eE hn' h1,eE hx h2]
 ·obtain⟨rfl,rfl,rfl⟩:=he;simp only[jS]at hl;subst hl;rw[hh.int,hm.int];simp only[Wa3]at hxy;have h1:=hyz _ rfl;have h3:=hz _ rfl;simp only[Wa3]at h1;rename_i k n k' n';have h0:0<=n':=WbL hxy h1;have h2:n<=((n'.toNat:Nat):Int):=by rw[WbU h0];exact h1
  simp[Instr.sliceBounds,eE h0 h3,eE hxy h2]
 ·obtain⟨rfl,rfl,rfl⟩:=he;rw[hh.int,hm.int,hl.int];simp only[Wa3]at hxy;have h1:=hyz _ rfl;have h3:=hz _ rfl;simp only[Wa3]at h1;rename_i k n k' n' k'' n'';have h00:0<=n':=WbL hx hxy;have h0:0<=n'':=WbL h00 h1;have h2:n'<=((n''.toNat:Nat):Int):=by rw[WbU h0];exact h1
  have h4:n<=((n'.toNat:Nat):Int):=by rw[WbU h00];exact hxy
  simp[Instr.sliceBounds,eE h0 h3,eE h00 h2,eE hx h4]
theorem bM{l:List Value}{i n j:Nat}{u:Value}(hj:((l.drop i).take n)[j]?=some u):l[i+j]?=some u:=by
 rw[Was]at hj;split at hj
 ·rwa [WaZ]at hj
 ·cases hj
theorem ZR{e:Ty}{xs:List e.den}{cells:List Value}{g off sz:Nat}(hd:gu (reads Ψ e) xs cells)(hc:∀j u,cells[j]?=some u->Ψ ⟨g,off+j,none⟩=some u)(hsz:sz=e.cells)(i n:Nat):
 (xs.drop i).take n=[]\/∃cells',gu (reads Ψ e) ((xs.drop i).take n) cells'/\rowAt Ψ (some ((⟨g,off,none⟩:Addr).add (i*sz))) cells':=by
 subst hsz;refine .inr ⟨(cells.drop (i*e.cells)).take (n*e.cells),ja (aj e) _ _ n (iJ (aj e) _ _ i hd),g,off+i*e.cells,?_,?_⟩
 ·rw[Addr.add_lit]
 ·intro j u hj;have:=hc _ _ (bM hj)
  rwa [<-Wa2]at this
theorem jm{e:Ty}{xs:List e.den}{v:Value}(hx:aE Ψ β (.d (.arr e) xs) v){sz:Nat}(hsz:sz=e.cells){l n:Nat}(hln:l<=n)(hn:n<=xs.length):
 ∃ad cap,v= .slice ad xs.length cap/\xs.length<=cap/\cap<=maxLen/\(∀m,n<=m->m<=cap->aE Ψ β (.d (.arr e) ((xs.drop l).take (n-l))) (.slice (if m=l then ad else ad.map (·.add (l*sz))) (n-l) (m-l))):=by
 obtain⟨ad,cap,e1,h1,h2,h3⟩:=nu.1 hx;refine⟨ad,cap,e1,h1,h2,fun m hnm hmc=>?_⟩
 have hlen:((xs.drop l).take (n-l)).length=n-l:=by simp;omega
 rw[nu];refine⟨_,_,by rw[hlen],by rw[hlen];omega,by omega,?_⟩
 by_cases hml:m=l
 ·left
  have:n-l=0:=by omega
  rw[this];rfl
 ·rw[if_neg hml];rcases h3 with rfl|⟨cells,hd,g,off,rfl,hc⟩
  ·left;simp
  ·exact ZR hd hc hsz l (n-l)
theorem vC{fr:List AV}{a:Act}(o:Option Operand)(cI:∀x∈o.toArray,aE Ψ β (ev fr x) (a.eval x)):jS Ψ β (EM fr o) (o.map a.eval):=by
 cases o with
 |none=>rfl
 |some x=>exact⟨_,rfl,cI x (by simp)⟩
theorem wV{l:List Int}(i n:Nat):(strOf l).extract i n=strOf ((l.drop i).take (n-i)):=by
 apply ByteArray.ext
 apply Wb4
 simp[strOf,ByteArray.data_extract,List.map_drop,List.map_take]
theorem NI{l:List Int}(hx:(∀c∈l,0<=c/\c<=255)/\l.length<=maxLen)(i n:Nat):aE Ψ β (.d .str ((l.drop i).take n)) (.string (strOf ((l.drop i).take n))):=by
 refine gX.2 ⟨rfl,fun c hc=>hx.1 c (Wbd (Wa5 hc)),?_⟩
 have:=hx.2
 rw[Waf,List.length_drop];omega
theorem q9{av:AV}{v:Value}{e:Ty}{xs:List e.den}(hr:aE Ψ β av v)(hl:iR h av=some ⟨e,xs⟩)(hn:∀k,av≠ .sl k):aE Ψ β (.d (.arr e) xs) v:=by
 unfold iR at hl;split at hl
 ·simp at hl
  obtain⟨rfl,hl⟩:=hl;simp at hl
  subst hl;exact hr
 ·simp at hl
  obtain⟨rfl,hl⟩:=hl;simp at hl
  subst hl;exact hr.choose_spec.2
 ·exact absurd rfl (hn _)
 ·cases hl
theorem zy{t:TypeId}{n:Nat}(hs:C.size t=some n):∃i,C.P.info? t=some i/\i.size=n:=by
 unfold Ctx.size at hs;split at hs
 ·rename_i i hi;exact⟨i,hi,by simpa using hs⟩
 ·cases hs
theorem run_sizeOf{t:TypeId}{n:Nat}(hs:C.size t=some n)(w:World):(sizeOf t).run C.P w= .ok n w:=by
 obtain⟨i,hi,rfl⟩:=zy hs;simp[sizeOf,typeInfo,hi]
theorem lg{t e:TypeId}{n:Nat}(h:arrayOf C t=some (n,e)):C.P.underlying t=some (.array n e):=by
 unfold arrayOf at h;split at h
 ·rename_i n' e' hu;simp at h
  obtain⟨rfl,rfl⟩:=h;exact hu
 ·cases h
theorem NJ{t:TypeId}{av:AV}{v:Value}{lo hi mx:Option AV}{l h' m:Option Value}{r:Out}(hx:aE Ψ β av v)(hl:jS Ψ β lo l)(hh:jS Ψ β hi h')(hm:jS Ψ β mx m)
 (hr:A9 C h t av lo hi mx=some r):r.heap=h/\r.kill=none/\dP C Ψ β w (Instr.sliceAt t v l h' m) r.v:=by
 unfold A9 at hr;split at hr
 ·rename_i n et ha;simp only[jS]at hl hh hm;subst hl hh hm;split at hr
  ·rename_i sz k e xs hs;split at hr
   ·rename_i hc;simp only[Wac,Wag,WaK]at hc;obtain⟨⟨hsz,rfl⟩,hn⟩:=hc;have:=aI hr;subst this
    obtain⟨g,off,cs,rfl,⟨hlen,hd⟩,hp⟩:=hx;refine⟨rfl,rfl,dP.aO (v:=.slice (some ⟨g,off,none⟩) k k) ?_ ⟨_,by rw[hlen],⟨_,⟨some ⟨g,off,none⟩,k,by rw[hlen],by omega,by simp[maxLen];omega,.inr ⟨cs,hd,g,off,rfl,hp⟩⟩,rfl⟩⟩⟩
    simp[Instr.sliceAt,run_underlying (lg ha),Instr.sureAddr,Instr.sliceBounds,run_sizeOf hs]
    try (intro _;simp[Addr.add])
   ·cases hr
  ·cases hr
 ·cases hr
theorem IY{t:TypeId}{av:AV}{v:Value}{lo hi mx:Option AV}{l h' m:Option Value}{r:Out}(hx:aE Ψ β av v)(hl:jS Ψ β lo l)(hh:jS Ψ β hi h')(hm:jS Ψ β mx m)
 (hr:vq C h t av lo hi mx=some r) (hp:∀p,r.need=some p->p):
 r.heap=h/\r.kill=none/\dP C Ψ β w (Instr.sliceAt t v l h' m) r.v:=by
 unfold vq at hr;split at hr
 ·cases hr
 ·rename_i x y z he;split at hr
  ·
   rename_i s hu;obtain⟨rfl,NH,hs2⟩:=gX.1 hx;have yU:∀w,(Instr.sliceAt t (.string (strOf s)) l h' m).run C.P w=(Instr.slice t (.string (strOf s)) l h' m).run C.P w:=by
    intro w;simp[Instr.sliceAt,run_underlying hu]
   split at hr
   ·have:=bG hr;subst this
    obtain⟨h0,h1⟩:=hp _ rfl;have hmn:m=none:=by
     unfold rT at he;split at he<;>simp_all[jS]
    subst hmn;obtain⟨hb,_⟩:=cK (C:=C) (w:=w) (isSlice:=false) (len:=(strOf s).size) (cap:=(strOf s).size) hl hh hm he h0 (by simp[dU];exact h1) (by simp) (by simp) (Wan _)
    refine⟨rfl,rfl,dP.aO (v:=.string (strOf (s.drop x.toNat))) ?_ ?_⟩
    ·rw[yU];simp only[WbG,Wbn,dU]at hb;simp[Instr.slice,run_underlying hu,dU,hb,wV,<-List.length_drop,WbP]
    ·have:=NI (Ψ:=Ψ) (β:=β) ⟨NH,hs2⟩ x.toNat s.length
     rwa [Wap (by simp)]at this
   ·rename_i n;have:=bG hr;subst this
    obtain⟨h0,h1,h2⟩:=hp _ rfl;have hmn:m=none:=by
     unfold rT at he;split at he<;>simp_all[jS]
    subst hmn;obtain⟨hb,_⟩:=cK (C:=C) (w:=w) (isSlice:=false) (len:=(strOf s).size) (cap:=(strOf s).size) hl hh hm he h0 (by simpa using h1) (by simp[dU];exact h2) (by simp) (Wan _)
    refine⟨rfl,rfl,dP.aO (v:=.string (strOf ((s.drop x.toNat).take (n.toNat-x.toNat)))) ?_ (NI ⟨NH,hs2⟩ _ _)⟩
    rw[yU];simp only[WbG,Wbn,Wbk,Wa3,dU]at hb;simp[Instr.slice,run_underlying hu,dU,hb,wV]
   ·cases hr
  ·cases hr
  ·
   rename_i tid hu Vk;split at hr
   ·rename_i e xs sz hl' hsz;split at hr
    ·rename_i hc;have tG:sz=e.cells:=by simpa [Wag]using hc
     have vD:=q9 hx hl' (by intro k e;subst e;simp at Vk)
     have yU:∀v' w,(Instr.sliceAt t v' l h' m).run C.P w=(Instr.slice t v' l h' m).run C.P w:=by
      intro v' w;simp[Instr.sliceAt,run_underlying hu]
     split at hr
     ·have:=bG hr;subst this
      obtain⟨h0,h1⟩:=hp _ rfl;obtain⟨ad,cap,rfl,hlc,zA,hout⟩:=jm vD tG (l:=x.toNat) (n:=xs.length) (by omega) (Wan _)
      obtain⟨hb,_⟩:=cK (C:=C) (w:=w) (isSlice:=true) (len:=xs.length) (cap:=cap) hl hh hm he h0 (by simpa using h1) (by simp) (by simp) hlc
      simp only[WbG,Wbn]at hb;refine⟨rfl,rfl,dP.aO (v:=_) ?_ (hout cap hlc (Wan _))⟩
      rw[yU];simp[Instr.slice,run_underlying hu,hb,run_sizeOf hsz]
     ·rename_i n;have:=bG hr;subst this
      obtain⟨h0,h1,h2⟩:=hp _ rfl;have hn0:0<=n:=WbL h0 h1;obtain⟨ad,cap,rfl,hlc,zA,hout⟩:=jm vD tG (l:=x.toNat) (n:=n.toNat) (by omega) (by omega)
      obtain⟨hb,_⟩:=cK (C:=C) (w:=w) (isSlice:=true) (len:=xs.length) (cap:=cap) hl hh hm he h0 (by simpa using h1) (by simp;omega) (by simp) hlc
      simp only[WbG,Wbn,Wbk,Wa3]at hb;refine⟨rfl,rfl,dP.aO (v:=_) ?_ (hout cap (by omega) (Wan _))⟩
      rw[yU];simp[Instr.slice,run_underlying hu,hb,run_sizeOf hsz]
     ·rename_i n m';have:=bG hr;subst this
      obtain⟨h0,h1,h2,h3⟩:=hp _ rfl;subst h3;have hn0:0<=m':=WbL h0 h1;obtain⟨ad,cap,rfl,hlc,zA,hout⟩:=jm vD tG (l:=x.toNat) (n:=m'.toNat) (by omega) (by omega)
      obtain⟨hb,_⟩:=cK (C:=C) (w:=w) (isSlice:=true) (len:=xs.length) (cap:=cap) hl hh hm he h0 (by simpa using h1) (by simp) (by simp;omega) hlc
      simp only[Wbk,Wa3]at hb;have hlen:((xs.drop x.toNat).take (m'.toNat-x.toNat)).length=m'.toNat-x.toNat:=by simp;omega
      refine⟨rfl,rfl,dP.aO (v:=_) ?_ ⟨_,by rw[hlen],hout m'.toNat (Wan _) (by omega)⟩⟩
      rw[yU];simp[Instr.slice,run_underlying hu,hb,run_sizeOf hsz]
     ·cases hr
    ·cases hr
   ·cases hr
  ·cases hr
theorem Vl{t:TypeId}{k:Nat}{v:Value}{lo hi mx:Option AV}{l h' m:Option Value}{r:Out}(hI:aD C.P B w0 Ψ β h w)(hx:aE Ψ β (.sl k) v)(hl:jS Ψ β lo l)(hh:jS Ψ β hi h')(hm:jS Ψ β mx m)
 (hr:Kt C h t k lo hi mx=some r) (hp:∀p,r.need=some p->p):
 r.heap=h/\r.kill=none/\dP C Ψ β w (Instr.sliceAt t v l h' m) r.v:=by
 unfold Kt at hr;split at hr
 ·rename_i x y he;split at hr
  ·rename_i tid tid' e xs hu hg;split at hr
   ·rename_i sz hsz;split at hr
    ·have:=bG hr;subst this
     obtain⟨h0,h1,h2,h3⟩:=hp _ rfl;rcases hI.blk k _ (aC hg (by simp)) with ⟨ad,_,hxs⟩|⟨g,cap,cur,bV,hz,hB,hcell,hlc,zA,hcs,hd⟩
     ·subst hxs;simp at h3
      omega
     ·have hv:=hx.1;rw[bV]at hv;simp only[Option.some.injEq]at hv;subst hv;obtain⟨hb,_⟩:=cK (C:=C) (w:=w) (isSlice:=true) (len:=xs.length) (cap:=cap) hl hh hm he h0 (by cases y<;>simpa [nO]using h1) (by
       intro n hn;subst hn;simp[nO]at h2;simp;omega) (by simp) hlc
      simp only[WbG,Wbn]at hb;have yU:∀v' w,(Instr.sliceAt t v' l h' m).run C.P w=(Instr.slice t v' l h' m).run C.P w:=by
       intro v' w;simp[Instr.sliceAt,run_underlying hu]
      have hend:(y.map Int.toNat).getD xs.length=(nO xs.length y).toNat:=by cases y<;>simp[nO]
      rw[hend]at hb;refine⟨rfl,rfl,dP.aO (v:=.slice (some ⟨g,x.toNat*sz,none⟩) ((nO xs.length y).toNat-x.toNat) (cap-x.toNat)) ?_ ⟨g,xs.length,cap,bV,h0,h1,h2,rfl⟩⟩
      rw[yU];have hne:¬cap=x.toNat:=by omega
      simp[Instr.slice,run_underlying hu,hb,run_sizeOf hsz,hne,Addr.add_lit]
    ·cases hr
   ·cases hr
  ·cases hr
 ·cases hr
theorem Vm{t:TypeId}{k off:Nat}{v:Value}{lo hi mx:Option AV}{l h' m:Option Value}{r:Out}(hx:aE Ψ β (.own k off) v)(hl:jS Ψ β lo l)(hh:jS Ψ β hi h')(hm:jS Ψ β mx m)
 (hr:Ku C h t k off lo hi mx=some r) (hp:∀p,r.need=some p->p):
 r.heap=h/\r.kill=none/\dP C Ψ β w (Instr.sliceAt t v l h' m) r.v:=by
 unfold Ku at hr;split at hr
 ·rename_i n et x y ha he;split at hr
  ·rename_i sz hsz;split at hr
   ·rename_i hc;simp only[Wac,Wag,WaK]at hc;obtain⟨⟨_,rfl⟩,hn⟩:=hc;have:=bG hr;subst this
    obtain⟨h0,h1,h2,h3⟩:=hp _ rfl;obtain⟨g,bV,rfl⟩:=hx;obtain⟨hb,_⟩:=cK (C:=C) (w:=w) (isSlice:=false) (len:=n) (cap:=n) hl hh hm he h0 (by cases y<;>simpa [nO]using h1) (by
     intro n' hn';subst hn';simp[nO]at h2;simp;omega) (by simp) (Wan _)
    simp only[WbG,Wbn]at hb;have hend:(y.map Int.toNat).getD n=(nO n y).toNat:=by cases y<;>simp[nO]
    rw[hend]at hb;have hne:¬n=x.toNat:=by omega
    refine⟨rfl,rfl,dP.aO (v:=.slice (some ⟨g,off+x.toNat,none⟩) ((nO n y).toNat-x.toNat) (n-x.toNat)) ?_ ⟨g,bV,h0,h1,h2,by simp[maxLen];omega,rfl⟩⟩
    simp[Instr.sliceAt,run_underlying (lg ha),Instr.sureAddr,hb,run_sizeOf hsz,hne,Addr.add]
   ·cases hr
  ·cases hr
 ·cases hr
theorem ZS{t:TypeId}{av:AV}{v:Value}{lo hi mx:Option AV}{l h' m:Option Value}{r:Out}(hI:aD C.P B w0 Ψ β h w)(hx:aE Ψ β av v)(hl:jS Ψ β lo l)(hh:jS Ψ β hi h')(hm:jS Ψ β mx m)
 (hr:EL C h t av lo hi mx=some r) (hp:∀p,r.need=some p->p):
 r.heap=h/\r.kill=none/\dP C Ψ β w (Instr.sliceAt t v l h' m) r.v:=by
 unfold EL at hr;split at hr
 ·exact Vm hx hl hh hm hr hp
 ·exact NJ hx hl hh hm hr
 ·rename_i k;cases hv:C.views with
  |true=>rw[hv]at hr;exact Vl hI hx hl hh hm hr hp
  |false=>rw[hv]at hr;exact IY hx hl hh hm hr hp
 ·exact IY hx hl hh hm hr hp
end Go.AM
namespace Go.AM
open Go.RowKit
variable {B:Nat->Prop} {w0:World} {C:Ctx} {Ψ:Pr} {β:List Value} {h:List aB} {w:World} {fr:List AV} {a:Act}
theorem cQ{t:TypeId}{ag:Bool}{n:Nat}(hl:C.lay t=some (ag,n)):C.size t=some n/\(∀w,(isAgg t).run C.P w= .ok ag w)/\(ag=false->n=1):=by
 unfold Ctx.lay at hl;split at hl
 ·cases hl
 ·rename_i i hi;have hs:C.size t=some i.size:=by simp[Ctx.size,hi]
  split at hl
  ·rename_i hu;simp at hl
   obtain⟨rfl,rfl⟩:=hl;exact⟨hs,fun w=>by simp[isAgg,run_underlying hu],by simp⟩
  ·rename_i hu;simp at hl
   obtain⟨rfl,rfl⟩:=hl;exact⟨hs,fun w=>by simp[isAgg,run_underlying hu],by simp⟩
  ·rename_i d h1 h2 hu;split at hl
   ·rename_i hsz;simp at hl
    obtain⟨rfl,rfl⟩:=hl;have n5:i.size=1:=by simpa [Wag]using hsz
    refine⟨by rw[hs,n5],fun w=>?_,fun _=>rfl⟩
    cases d<;>simp[isAgg,run_underlying hu]<;>first|exact absurd rfl (h1 _)|exact absurd rfl (h2 _ _)
   ·cases hl
  ·cases hl
def valOf(ag:Bool)(us:List Value):Value:=if ag then .agg us.toArray else us.getD 0 undef
theorem bN{t:TypeId}{ag:Bool}{n g off:Nat}{us:List Value}(hl:C.lay t=some (ag,n))(hn:us.length=n)
 (hc:∀j u,us[j]?=some u->w.cell? ⟨g,off+j,none⟩=some u):(loadVar t ⟨g,off,none⟩).run C.P w= .ok (valOf ag us) w:=by
 obtain⟨hs,ha,h1⟩:=cQ hl;cases ag with
 |true=>
  have hlc:(loadCells ⟨g,off,none⟩ n).run C.P w= .ok us.toArray w:=by
   rw[<-hn];exact run_loadCells_list w _ us (fun j u hj=>by rw[Addr.add_lit];exact hc j u hj)
  simp[loadVar,ha,run_sizeOf hs,hlc,valOf]
 |false=>
  have:=h1 rfl
  subst this;match us,hn with
  |[u],_=>
   have h0:=hc 0 u rfl;simp[loadVar,ha,valOf]
   rw[Wbu]at h0;simp[h0]
theorem gY{t:TypeId}{ad:Addr}:(Instr.loadAt t (.pointer (some ad))).run C.P w=(loadVar t ad).run C.P w:=by
 simp[Instr.loadAt,Instr.sureAddr]
theorem xG{t:TypeId}{cs:List AV}{off:Nat}{av:AV}{vs:List Value}(hl:zf C t cs off=some av)(hr:aL Ψ β cs vs)(h1:∀u∈vs,u.oneCell'=true):
 ∃ag n,C.lay t=some (ag,n)/\off+n<=vs.length/\aE Ψ β av (valOf ag ((vs.drop off).take n)):=by
 unfold zf at hl;split at hl
 ·rename_i sz cU;split at hl
  ·rename_i hle;simp at hl
   subst hl;have hle':off+sz<=vs.length:=by rw[dr _ _ hr,<-dw];simpa [WaK]using hle
   refine⟨true,sz,cU,hle',⟨(vs.drop off).take sz,rfl,?_,fun u hu=>h1 u (Wbd (Wa5 hu))⟩⟩
   rw[oV,qZ];exact l7 _ _ _ (l8 _ _ _ hr)
  ·cases hl
 ·rename_i sz cU;split at hl
  ·rename_i hle;simp at hl
   subst hl;have:=(cQ cU).2.2 rfl
   subst this;have hle':off+1<=vs.length:=by rw[dr _ _ hr,<-dw];simpa [WaK]using hle
   refine⟨false,1,cU,hle',?_⟩
   have:=c9 _ _ hr off
   have e:valOf false ((vs.drop off).take 1)=vs.getD off undef:=by
    simp[valOf,Wab,WaZ]
   rw[e];exact this
  ·cases hl
 ·cases hl
theorem jb{t:Ty}{x:t.den}{us:List Value}(hr:reads Ψ t x us){ag:Bool}(ha:ag=t.isAgg)(h1:ag=false->us.length=1):aE Ψ β (.d t x) (valOf ag us):=by
 refine⟨us,hr,?_⟩
 subst ha;cases hb:t.isAgg with
 |true=>simp[valOf]
 |false=>
  have:=h1 hb
  match us,this with
  |[u],_=>simp[valOf]
theorem KZ{k:Nat}{cs:List AV}(hi:aD C.P B w0 Ψ β h w)(hg:aH h k= .cells cs){off:Nat}{v:Value}(hv:aE Ψ β (.own k off) v):
 ∃g c e,β[k]?=some (.pointer (some ⟨g,0,none⟩))/\v= .pointer (some ⟨g,off,none⟩)/\w.heap[g]?=some (.cells c e (0,0))/\¬B g/\aL Ψ β cs c.toList/\(∀u∈c.toList,u.oneCell'=true):=by
 obtain⟨g,bV,rfl⟩:=hv;obtain⟨g',c,e,h1,h2,h3,h4,h5⟩:=hi.blk k _ (aC hg (by simp))
 rw[bV]at h1;simp at h1
 subst h1;exact⟨g,c,e,bV,rfl,h2,h3,h4,h5⟩
theorem bp{g:Nat}{c:Array Value}{e:TypeId}{fz:Nat×Nat}(hh:w.heap[g]?=some (.cells c e fz))(i:Nat):w.cell? ⟨g,i,none⟩=c[i]?:=by
 simp[World.cell?,hh]
theorem Bg{k sz:Nat}{i:Int}{tid:TypeId}{e:Ty}{xs:List e.den}{v:Value}(hi:aD C.P B w0 Ψ β h w)(hg:aH h k= .grow tid e xs)(hv:aE Ψ β (.tX k sz i) v)(hsz:sz=e.cells):
 ∃g c cur,β[k]?=some (.slice (some ⟨g,0,none⟩) xs.length c)/\v= .pointer (some ⟨g,i.toNat*sz,none⟩)/\0<=i/\i.toNat<xs.length/\w.heap[g]?=some (.cells cur tid (0,0))/\
  xs.length<=c/\c<=maxLen/\c≠0/\¬B g/\cur.size=c*e.cells/\gu (reads Ψ e) xs (cur.toList.take (xs.length*e.cells)):=by
 subst hsz;obtain⟨g,o,n,c,bV,h0,h1,rfl⟩:=hv;rcases hi.blk k _ (aC hg (by simp)) with ⟨ad,oY,_⟩|⟨g',cap,cur,oY,hz,hB,hh,hn,zA,hcs,hd⟩
 ·rw[bV]at oY;simp at oY
  omega
 ·rw[bV]at oY;simp at oY
  obtain⟨⟨rfl,rfl⟩,rfl,rfl⟩:=oY;exact⟨g,c,cur,bV,by rw[WaO],h0,by omega,hh,hn,zA,hz,hB,hcs,hd⟩
theorem bz{t u:Ty}{x:t.den}{y:u.den}(hc:bR t u x=some y):∃e:t=u,y=e▸x:=by
 unfold bR at hc;split at hc
 ·rename_i e _;exact⟨e,by simpa using hc.symm⟩
 ·cases hc
def cc(ax:Pr)(β:List Value)(h:List aB)(ks:List Nat):Prop:=
 ∀k∈ks,∀(tid:TypeId) (e:Ty) (xs:List e.den),aH h k= .grow tid e xs->∀u:Value,β[k]?=some u->rv ax (.arr e) xs u
theorem K0{Ψ ax:Pr}(hle:bW Ψ ax){t:Ty}{x:t.den}{v:Value}:rv Ψ t x v->rv ax t x v
 |⟨cs,hc,e⟩=>⟨cs,aR hle t x cs hc,e⟩
theorem zB{ax:Pr}(hle:bW Ψ ax){t:Ty}{x:t.den}{av:AV}{v:Value}(hd:Kp h t av=some x)(hr:aE Ψ β av v)(hk:cc ax β h (EJ av)):rv ax t x v:=by
 unfold Kp at hd;split at hd
 ·obtain⟨rfl,rfl⟩:=bz hd;exact K0 hle hr
 ·split at hd
  ·simp at hd;subst hd
   have:v= .bool true:=hr
   subst this;exact⟨_,rfl,rfl⟩
  ·cases hd
 ·split at hd
  ·simp at hd;subst hd
   have:v= .bool false:=hr
   subst this;exact⟨_,rfl,rfl⟩
  ·cases hd
 ·obtain⟨rfl,rfl⟩:=bz hd;exact K0 hle hr.choose_spec.2
 ·split at hd
  ·simp at hd;subst hd
   have:v= .slice none 0 0:=hr
   subst this;exact⟨_,⟨none,0,rfl,Wan _,by simp[maxLen],.inl rfl⟩,rfl⟩
  ·cases hd
 ·rename_i k;split at hd
  ·rename_i tid e xs hg;obtain⟨rfl,rfl⟩:=bz hd;exact hk k (by simp[EJ]) _ _ _ hg v hr.1
  ·cases hd
 ·split at hd
  ·simp at hd;subst hd
   obtain⟨vs,rfl,hl⟩:=hr;simp only[aL]at hl;subst hl;exact⟨_,rfl,rfl⟩
  ·cases hd
 ·cases hd
theorem cc.sub{ax:Pr}{ks ls:List Nat}(hk:cc ax β h ls)(hs:∀k∈ks,k∈ls):cc ax β h ks:=fun k hm=>hk k (hs k hm)
theorem QJ{ax:Pr}{t:Ty}{x:t.den}{v:Value}(hr:rv ax t x v)(h1:v.oneCell'=true):reads ax t x [v]:=by
 obtain⟨cs,hc,e⟩:=hr;cases ht:t.isAgg with
 |true=>rw[ht]at e;simp at e;subst e;simp[Value.oneCell']at h1
 |false=>rw[ht]at e;simp at e;subst e;exact hc
theorem ZT(l:List AV):Tn l=l.length:=by induction l<;>simp[Tn, *]
theorem gZ{e:Ty}(hs:e.small=true):e.cells=1/\e.isAgg=false:=by
 unfold Ty.small at hs;simpa [Wag]using hs
theorem NK{ax:Pr}(hle:bW Ψ ax){e:Ty}:∀{xs:List e.den} {cs:List AV} {vs:List Value},Nj h e cs=some xs->aL Ψ β cs vs->(∀u∈vs,u.oneCell'=true)->cc ax β h (kX cs)->xs.length=cs.length/\gu (reads ax e) xs vs
 |xs,[],vs,hd,hr,_,_=>by
  simp only[Nj,Option.some.injEq]at hd;subst hd;simp only[aL]at hr;subst hr;exact⟨rfl,rfl⟩
 |xs,c::cs,vs,hd,hr,h1,hk=>by
  unfold Nj at hd;split at hd
  ·rename_i y hy;split at hd
   ·rename_i ys hys;simp at hd
    subst hd;obtain⟨v,vs',rfl,hv,hl⟩:=hr;obtain⟨h2,h3⟩:=NK hle hys hl (fun u hu=>h1 u (by simp[hu])) (hk.sub fun k hm=>by simp[kX];exact .inr hm)
    exact⟨by simp[h2],[v],vs',rfl,QJ (zB hle hy hv (hk.sub fun k hm=>by simp[kX,hm])) (h1 v (by simp)),h3⟩
   ·cases hd
  ·cases hd
theorem oZ{ax:Pr}(hle:bW Ψ ax):∀{t:Ty} {x:t.den} {cs:List AV} {vs:List Value},gw h t cs=some x->aL Ψ β cs vs->(∀u∈vs,u.oneCell'=true)->cc ax β h (kX cs)->reads ax t x vs
 | .pair ta tb,x,cs,vs,hd,hr,h1,hk=>by
  unfold gw at hd;split at hd
  ·rename_i y hy;split at hd
   ·rename_i z hz;simp at hd
    subst hd;refine⟨vs.take ta.cells,vs.drop ta.cells,(Wax _ _).symm,?_,?_⟩
    ·refine oZ hle hy (by rw[oV];exact l7 _ _ _ hr) (fun u hu=>h1 u (Wa5 hu)) (hk.sub fun k hm=>?_)
     rw[oV]at hm;exact xH _ _ _ hm
    ·refine oZ hle hz (by rw[qZ];exact l8 _ _ _ hr) (fun u hu=>h1 u (Wbd hu)) (hk.sub fun k hm=>?_)
     rw[qZ]at hm;exact xI _ _ _ hm
   ·cases hd
  ·cases hd
 | .dR ta tb,x,cs,vs,hd,hr,h1,hk=>by
  unfold gw at hd;split at hd
  ·rename_i y hy;split at hd
   ·rename_i c rest hc;split at hd
    ·rename_i ys hys;split at hd
     ·rename_i z hz;simp only[Option.some.injEq]at hd;subst hd;have qgY:=l8 ta.cells cs vs hr;rw[qZ]at hc;rw[hc]at qgY;obtain⟨v,vs',e,hv,hl⟩:=qgY;have hin:∀k,k∈kX (c::rest)->k∈kX cs:=fun k hm=>xI ta.cells cs k (by rw[hc];exact hm)
      have hmem:∀u,u∈v::vs'->u∈vs:=fun u hu=>Wbd (by rw[e];exact hu)
      refine (r9 _ _).2 ⟨vs.take ta.cells,v,vs',by rw[<-e,Wax],?_,?_,?_⟩
      ·refine oZ hle hy (by rw[oV];exact l7 _ _ _ hr) (fun u hu=>h1 u (Wa5 hu)) (hk.sub fun k hm=>?_)
       rw[oV]at hm;exact xH _ _ _ hm
      ·exact oZ hle hz hl (fun u hu=>h1 u (hmem u (Wal _ hu))) (hk.sub fun k hm=>hin k (by simp[kX,hm]))
      ·exact QJ (zB hle hys hv (hk.sub fun k hm=>hin k (by simp[kX,hm]))) (h1 v (hmem v Waq))
     ·cases hd
    ·cases hd
   ·cases hd
  ·cases hd
 | .unit,x,cs,vs,hd,hr,h1,hk=>by
  unfold gw at hd;split at hd
  ·simp only[aL]at hr;subst hr;rfl
  ·cases hd
 | .vec n e,x,cs,vs,hd,hr,h1,hk=>by
  unfold gw at hd;split at hd
  ·rename_i hc;simp only[Wac,Wag,ZT]at hc;obtain⟨h2,h3⟩:=NK hle hd hr h1 hk;exact⟨by rw[h2];exact hc.2,h3⟩
  ·cases hd
 | .int k,x,cs,vs,hd,hr,h1,hk=>one hle (by unfold gw at hd;exact hd) hr h1 hk
 | .bool,x,cs,vs,hd,hr,h1,hk=>one hle (by unfold gw at hd;exact hd) hr h1 hk
 | .qi,x,cs,vs,hd,hr,h1,hk=>one hle (by unfold gw at hd;exact hd) hr h1 hk
 | .any,x,cs,vs,hd,hr,h1,hk=>one hle (by unfold gw at hd;exact hd) hr h1 hk
 | .str,x,cs,vs,hd,hr,h1,hk=>one hle (by unfold gw at hd;exact hd) hr h1 hk
 | .arr e,x,cs,vs,hd,hr,h1,hk=>one hle (by unfold gw at hd;exact hd) hr h1 hk
where
 one {ax:Pr} (hle:bW Ψ ax) {t:Ty} {x:t.den} {cs:List AV} {vs:List Value} (hd:single h t cs=some x) (hr:aL Ψ β cs vs) (h1:∀u∈vs,u.oneCell'=true) (hk:cc ax β h (kX cs)):reads ax t x vs:=by
  unfold single at hd;split at hd
  ·obtain⟨v,vs',e,hv,hl⟩:=hr;simp only[aL]at hl;subst hl e;exact QJ (zB hle hd hv (hk.sub fun k hm=>by simp[kX,hm])) (h1 _ (by simp))
  ·cases hd
 xH:∀(n:Nat) (cs:List AV) (k:Nat),k∈kX (cs.take n)->k∈kX cs
  |0,_,_,hm=>by simp[kX]at hm
  |n+1,[],_,hm=>by simpa using hm
  |n+1,c::cs,k,hm=>by
   simp only[List.take_succ_cons,kX,WbH]at hm ⊢;exact hm.imp id (xH n cs k)
 xI:∀(n:Nat) (cs:List AV) (k:Nat),k∈kX (cs.drop n)->k∈kX cs
  |0,_,_,hm=>by simpa using hm
  |n+1,[],_,hm=>by simpa using hm
  |n+1,c::cs,k,hm=>by
   simp only[WcQ]at hm;simp only[kX,WbH];exact .inr (xI n cs k hm)
theorem ku{ax:Pr}(hle:bW Ψ ax){t:Ty}{x:t.den}{av:AV}{v:Value}(hd:AZ h t av=some x)(hr:aE Ψ β av v)(hk:cc ax β h (refs av)):rv ax t x v:=by
 unfold AZ at hd;split at hd
 ·rename_i cs;split at hd
  ·rename_i ha;obtain⟨vs,rfl,hl,h1⟩:=hr;exact⟨vs,oZ hle hd hl h1 hk,by rw[ha];rfl⟩
  ·cases hd
 ·rename_i hn;exact zB hle hd hr (by
   have:refs av=EJ av:=by cases av<;>first|rfl|exact absurd rfl (hn _)
   rwa [this]at hk)
theorem cc.nil{ax:Pr}:cc ax β h []:=fun _ hm=>by cases hm
theorem si{t:TypeId}{f:Nat}{fd:Field}(hf:DX C t f=some fd):∃fs,C.P.underlying t=some (.struct fs)/\fs[f]?=some fd:=by
 unfold DX at hf;split at hf
 ·rename_i fs hu;exact⟨fs,hu,hf⟩
 ·cases hf
theorem jn:∀{t:Ty} {x:t.den} {off sz:Nat} {ag:Bool} {av:AV} {cs:List Value},Nl t x off sz ag=some av->reads Ψ t x cs->
 ∃t' x',av= .d t' x'/\t'.isAgg=ag/\t'.cells=sz/\off+sz<=cs.length/\reads Ψ t' x' ((cs.drop off).take sz)
 | .pair a b,x,off,sz,ag,av,cs,hs,hr=>by
  obtain⟨u,v,rfl,hu,hv⟩:=hr;have lu:=aj a _ _ hu;have lv:=aj b _ _ hv;unfold Nl at hs;split at hs
  ·rename_i hc;simp only[Wac,Wag]at hc;obtain⟨⟨rfl,h2⟩,rfl⟩:=hc;simp at hs
   subst hs;refine⟨_,_,rfl,rfl,by simp[Ty.cells,h2],by simp;omega,?_⟩
   rw[Wbe,Wap (by simp;omega)]
   exact⟨u,v,rfl,hu,hv⟩
  ·split at hs
   ·rename_i hc;simp only[WaK]at hc;obtain⟨t',x',e,h1,h2,h3,h4⟩:=jn hs hu;refine⟨t',x',e,h1,h2,by simp;omega,?_⟩
    rw[WaV (by omega),WaR (by simp;omega)]
    exact h4
   ·split at hs
    ·rename_i hc;simp only[WaK]at hc;obtain⟨t',x',e,h1,h2,h3,h4⟩:=jn hs hv;refine⟨t',x',e,h1,h2,by simp;omega,?_⟩
     have:off=u.length+(off-a.cells):=by omega
     rw[this,eD];exact h4
    ·cases hs
 | .dR a b,x,off,sz,ag,av,cs,hs,hr=>by
  obtain⟨u,s,v,rfl,hu,hv,hy⟩:=(r9 x cs).1 hr;have lu:=aj a _ _ hu;have lv:=aj b _ _ hv;unfold Nl at hs;split at hs
  ·rename_i hc;simp only[Wac,Wag]at hc;obtain⟨⟨rfl,h2⟩,rfl⟩:=hc;simp at hs
   subst hs;refine⟨_,_,rfl,rfl,by simp[Ty.cells,h2],by simp;omega,?_⟩
   rw[Wbe,Wap (by simp;omega)]
   exact hr
  ·split at hs
   ·rename_i hc;simp only[WaK]at hc;obtain⟨t',x',e,h1,h2,h3,h4⟩:=jn hs hu;refine⟨t',x',e,h1,h2,by simp;omega,?_⟩
    rw[WaV (by omega),WaR (by simp;omega)]
    exact h4
   ·split at hs
    ·rename_i hc;simp only[Wac,Wag,WaU]at hc;obtain⟨⟨rfl,rfl⟩,rfl⟩:=hc;simp at hs
     subst hs;refine⟨_,_,rfl,rfl,rfl,by simp;omega,?_⟩
     rw[<-lu,WcT];exact hy
    ·split at hs
     ·rename_i hc;simp only[WaK]at hc;obtain⟨t',x',e,h1,h2,h3,h4⟩:=jn hs hv;refine⟨t',x',e,h1,h2,by simp;omega,?_⟩
      have:off=u.length+((off-(a.cells+1))+1):=by omega
      rw[this,eD,WcQ];exact h4
     ·cases hs
 | .int k,x,off,sz,ag,av,cs,hs,hr=>jn.leaf hs hr
 | .bool,x,off,sz,ag,av,cs,hs,hr=>jn.leaf hs hr
 | .qi,x,off,sz,ag,av,cs,hs,hr=>jn.leaf hs hr
 | .any,x,off,sz,ag,av,cs,hs,hr=>jn.leaf hs hr
 | .str,x,off,sz,ag,av,cs,hs,hr=>jn.leaf hs hr
 | .arr _,x,off,sz,ag,av,cs,hs,hr=>jn.leaf hs hr
 | .vec _ _,x,off,sz,ag,av,cs,hs,hr=>jn.leaf hs hr
 | .unit,x,off,sz,ag,av,cs,hs,hr=>jn.leaf hs hr
where
 leaf {t:Ty} {x:t.den} {off sz:Nat} {ag:Bool} {av:AV} {cs:List Value} (hs:(if Nat.beq off 0&&Nat.beq t.cells sz&&(t.isAgg==ag) then some (AV.d t x) else none)=some av) (hr:reads Ψ t x cs):
  ∃t' x',av= .d t' x'/\t'.isAgg=ag/\t'.cells=sz/\off+sz<=cs.length/\reads Ψ t' x' ((cs.drop off).take sz):=by
  have lc:=aj t _ _ hr;split at hs
  ·rename_i hc;simp only[Wac,Wag,beq_iff_eq]at hc;obtain⟨⟨rfl,h2⟩,h3⟩:=hc;simp at hs
   subst hs;refine⟨t,x,rfl,h3,h2,by omega,?_⟩
   rw[Wbe,Wap (by omega)]
   exact hr
  ·cases hs
theorem qen(off:Nat){t:Ty}{x:t.den}{cs:List Value}(hr:reads Ψ t x cs):∃t' x',Y4 off (.d t x)= .d t' x'/\t'.isAgg=t.isAgg/\t'.cells=t.cells/\reads Ψ t' x' cs:=by
 unfold Y4;split
 ·rename_i a y heq;simp only[AV.d.injEq]at heq;obtain⟨rfl,heq⟩:=heq;cases heq;cases hc:(Nat.ble 1 off&&a.isAgg)
  ·exact⟨_,_,rfl,rfl,rfl,hr⟩
  ·simp only[Wac]at hc;obtain⟨u,v,rfl,hu,hv⟩:=hr;have hv:v=[]:=hv;subst hv;refine⟨a,_,rfl,hc.2,by simp[Ty.cells],?_⟩
   rw[WaA];exact hu
 ·exact⟨_,_,rfl,rfl,rfl,hr⟩
theorem jo{t:Ty}{x:t.den}{off sz:Nat}{ag:Bool}{av:AV}{cs:List Value}(hs:Ql t x off sz ag=some av)(hr:reads Ψ t x cs):
 ∃t' x',av= .d t' x'/\t'.isAgg=ag/\t'.cells=sz/\off+sz<=cs.length/\reads Ψ t' x' ((cs.drop off).take sz):=by
 unfold Ql at hs;split at hs
 ·rename_i v hv;obtain⟨t',x',rfl,h1,h2,h3,h4⟩:=jn hv hr;obtain⟨t2,x2,e,k1,k2,k4⟩:=qen off h4;simp only[Option.some.injEq]at hs;rw[e]at hs;exact⟨t2,x2,hs.symm,k1.trans h1,k2.trans h2,h3,k4⟩
 ·cases hs
theorem Fb{t:TypeId}{ag:Bool}{n off:Nat}{vs:List Value}(hl:C.lay t=some (ag,n))(hle:off+n<=vs.length):
 (part t vs.toArray off).run C.P w= .ok (valOf ag ((vs.drop off).take n)) w:=by
 obtain⟨hs,ha,h1⟩:=cQ hl;cases ag with
 |true=>
  simp[part,ha,run_sizeOf hs,valOf]
 |false=>
  have:=h1 rfl
  subst this;have hlt:off<vs.length:=by omega
  simp[part,ha,valOf,Waa hlt,Wab,WaZ]
theorem ZU{t:TypeId}{f:Nat}{av:AV}{v:Value}{r:Out}(hx:aE Ψ β av v)(hr:Qq C h t av f=some r):
 r.heap=h/\r.kill=none/\r.need=none/\dP C Ψ β w (Instr.field t v f) r.v:=by
 unfold Qq at hr;split at hr
 ·rename_i fd hfd;obtain⟨fs,hu,sj⟩:=si hfd;split at hr
  ·rename_i ag sz cU;split at hr
   ·rename_i cs;split at hr
    ·rename_i v' hl;have:=aI hr;subst this
     obtain⟨vs,rfl,bu,h1⟩:=hx;obtain⟨ag',n,qlw,hle,vD⟩:=xG hl bu h1;refine⟨rfl,rfl,rfl,dP.aO ?_ vD⟩
     have hp:=Fb (w:=w) qlw hle;simp[Instr.field,run_underlying hu,sj,asAgg,hp]
    ·cases hr
   ·rename_i u y;split at hr
    ·rename_i hag;split at hr
     ·rename_i v' hsub;have:=aI hr;subst this
      obtain⟨cs,hcs,e⟩:=hx;rw[hag]at e;simp at e
      subst e;obtain⟨t',x',rfl,h1,h2,h3,h4⟩:=jo hsub hcs;refine⟨rfl,rfl,rfl,dP.aO ?_ (jb h4 h1.symm (fun hf=>?_))⟩
      ·have hp:=Fb (w:=w) cU h3;simp[Instr.field,run_underlying hu,sj,asAgg,hp]
      ·have:=(cQ cU).2.2 hf
       rw[aj t' _ _ h4];omega
     ·cases hr
    ·cases hr
   ·cases hr
  ·cases hr
 ·cases hr
theorem K1{t:TypeId}{f:Nat}{av:AV}{v:Value}{r:Out}(hx:aE Ψ β av v)(hr:oO C h t av f=some r):
 r.heap=h/\r.kill=none/\r.need=none/\dP C Ψ β w (Instr.fieldAt t v f) r.v:=by
 unfold oO at hr;split at hr
 ·rename_i fd hfd;obtain⟨fs,hu,sj⟩:=si hfd;split at hr
  ·rename_i ag sz cU;split at hr
   ·rename_i k off;split at hr
    ·rename_i hsz;have hs:=run_sizeOf (cQ cU).1;have n5:sz≠0:=by simp only[WaK]at hsz;omega
     have:=aI hr;subst this
     obtain⟨g,bV,rfl⟩:=hx;refine⟨rfl,rfl,rfl,dP.aO (v:=.pointer (some ⟨g,off+fd.offset,none⟩)) ?_ ⟨g,bV,rfl⟩⟩
     simp[Instr.fieldAt,run_underlying hu,sj,Instr.sureAddr,fieldPlace,Addr.add_lit,hs,n5]
    ·cases hr
   ·rename_i k z i;split at hr
    ·rename_i hc;simp only[Wac,WaK]at hc;have hs:=run_sizeOf (w:=w) (cQ cU).1;have n5:sz≠0:=by omega
     have:=aI hr;subst this
     obtain⟨g,o,n,c,bV,h0,h1,rfl⟩:=hx;refine⟨rfl,rfl,rfl,dP.aO (v:=.pointer (some ⟨g,o+i.toNat*z+fd.offset,none⟩)) ?_ ⟨g,o,n,c,bV,h0,h1,by omega,rfl⟩⟩
     simp[Instr.fieldAt,run_underlying hu,sj,Instr.sureAddr,fieldPlace,Addr.add_lit,hs,n5]
    ·cases hr
   ·rename_i k z i off;split at hr
    ·rename_i hc;simp only[Wac,WaK]at hc;have hs:=run_sizeOf (w:=w) (cQ cU).1;have n5:sz≠0:=by omega
     have:=aI hr;subst this
     obtain⟨g,o,n,c,bV,h0,h1,h2,rfl⟩:=hx;refine⟨rfl,rfl,rfl,dP.aO (v:=.pointer (some ⟨g,o+i.toNat*z+(off+fd.offset),none⟩)) ?_ ⟨g,o,n,c,bV,h0,h1,by omega,rfl⟩⟩
     simp[Instr.fieldAt,run_underlying hu,sj,Instr.sureAddr,fieldPlace,Addr.add_lit,hs,n5,Wa2]
    ·cases hr
   ·rename_i u y;split at hr
    ·rename_i hsz;have hs:=run_sizeOf (cQ cU).1;have n5:sz≠0:=by simp only[WaK]at hsz;omega
     split at hr
     ·rename_i u' y' hsub;have:=aI hr;subst this
      obtain⟨g,off,cs,rfl,hcs,hp⟩:=hx;obtain⟨t',x',e,h1,h2,h3,h4⟩:=jo hsub hcs;simp only[AV.d.injEq]at e;obtain⟨rfl,e⟩:=e;cases e;refine⟨rfl,rfl,rfl,dP.aO (v:=.pointer (some ⟨g,off+fd.offset,none⟩)) ?_ ⟨g,off+fd.offset,_,rfl,h4,fun j u hj=>?_⟩⟩
      ·simp[Instr.fieldAt,run_underlying hu,sj,Instr.sureAddr,fieldPlace,Addr.add_lit,hs,n5]
      ·have:=hp _ _ (bM hj)
       rwa [<-Wa2]at this
     ·cases hr
    ·cases hr
   ·cases hr
  ·cases hr
 ·cases hr
theorem Fc{t:TypeId}{f:Nat}{av:AV}{v:Value}{r:Out}(hx:aE Ψ β av v)(hr:oO C h t av f=some r):
 ∃v',(∀w,(Instr.fieldAt t v f).run C.P w= .ok v' w)/\aE Ψ β r.v v':=by
 unfold oO at hr;split at hr
 ·rename_i fd hfd;obtain⟨fs,hu,sj⟩:=si hfd;split at hr
  ·rename_i ag sz cU;split at hr
   ·rename_i k off;split at hr
    ·rename_i hsz;have n5:sz≠0:=by simp only[WaK]at hsz;omega
     have:=aI hr;subst this
     obtain⟨g,bV,rfl⟩:=hx;refine⟨.pointer (some ⟨g,off+fd.offset,none⟩),fun w=>?_,⟨g,bV,rfl⟩⟩
     have hs:=run_sizeOf (w:=w) (cQ cU).1;simp[Instr.fieldAt,run_underlying hu,sj,Instr.sureAddr,fieldPlace,Addr.add_lit,hs,n5]
    ·cases hr
   ·rename_i k z i;split at hr
    ·rename_i hc;simp only[Wac,WaK]at hc;have n5:sz≠0:=by omega
     have:=aI hr;subst this
     obtain⟨g,o,n,c,bV,h0,h1,rfl⟩:=hx;refine⟨.pointer (some ⟨g,o+i.toNat*z+fd.offset,none⟩),fun w=>?_,⟨g,o,n,c,bV,h0,h1,by omega,rfl⟩⟩
     have hs:=run_sizeOf (w:=w) (cQ cU).1;simp[Instr.fieldAt,run_underlying hu,sj,Instr.sureAddr,fieldPlace,Addr.add_lit,hs,n5]
    ·cases hr
   ·rename_i k z i off;split at hr
    ·rename_i hc;simp only[Wac,WaK]at hc;have n5:sz≠0:=by omega
     have:=aI hr;subst this
     obtain⟨g,o,n,c,bV,h0,h1,h2,rfl⟩:=hx;refine⟨.pointer (some ⟨g,o+i.toNat*z+(off+fd.offset),none⟩),fun w=>?_,⟨g,o,n,c,bV,h0,h1,by omega,rfl⟩⟩
     have hs:=run_sizeOf (w:=w) (cQ cU).1;simp[Instr.fieldAt,run_underlying hu,sj,Instr.sureAddr,fieldPlace,Addr.add_lit,hs,n5,Wa2]
    ·cases hr
   ·rename_i u y;split at hr
    ·rename_i hsz;have n5:sz≠0:=by simp only[WaK]at hsz;omega
     split at hr
     ·rename_i u' y' hsub;have:=aI hr;subst this
      obtain⟨g,off,cs,rfl,hcs,hp⟩:=hx;obtain⟨t',x',e,h1,h2,h3,h4⟩:=jo hsub hcs;simp only[AV.d.injEq]at e;obtain⟨rfl,e⟩:=e;cases e;refine⟨.pointer (some ⟨g,off+fd.offset,none⟩),fun w=>?_,⟨g,off+fd.offset,_,rfl,h4,fun j u hj=>?_⟩⟩
      ·have hs:=run_sizeOf (w:=w) (cQ cU).1;simp[Instr.fieldAt,run_underlying hu,sj,Instr.sureAddr,fieldPlace,Addr.add_lit,hs,n5]
      ·have:=hp _ _ (bM hj)
       rwa [<-Wa2]at this
     ·cases hr
    ·cases hr
   ·cases hr
  ·cases hr
 ·cases hr
theorem zC:∀{t:Ty} {x:t.den} {off sz:Nat} {ag:Bool} {av:AV} {cs:List Value},Nn t x off sz ag=some av->reads Ψ t x cs->
 ∃t' x',av= .d t' x'/\t'.isAgg=ag/\t'.cells=sz/\off+sz<=cs.length/\reads Ψ t' x' ((cs.drop off).take sz)
 | .pair a b,x,off,sz,ag,av,cs,hs,hr=>by
  unfold Nn at hs;split at hs
  ·rename_i v hv;simp only[Option.some.injEq]at hs;subst hs;exact jo hv hr
  ·obtain⟨u,v,rfl,hu,hv⟩:=hr;have lu:=aj a _ _ hu;have lv:=aj b _ _ hv;split at hs
   ·rename_i hc;simp only[WaK]at hc;obtain⟨t',x',e,h1,h2,h3,h4⟩:=zC hs hu;refine⟨t',x',e,h1,h2,by simp;omega,?_⟩
    rw[WaV (by omega),WaR (by simp;omega)]
    exact h4
   ·split at hs
    ·rename_i hc;simp only[WaK]at hc;obtain⟨t',x',e,h1,h2,h3,h4⟩:=zC hs hv;refine⟨t',x',e,h1,h2,by simp;omega,?_⟩
     have:off=u.length+(off-a.cells):=by omega
     rw[this,eD];exact h4
    ·cases hs
 | .vec n e,x,off,sz,ag,av,cs,hs,hr=>by
  unfold Nn at hs;split at hs
  ·rename_i v hv;simp only[Option.some.injEq]at hs;subst hs;exact jo hv hr
  ·split at hs
   ·rename_i hc;simp only[Wac,WaK]at hc;obtain⟨Fe,hle⟩:=hc;obtain⟨HV,he2⟩:=gZ Fe;obtain⟨hl,hd⟩:=hr;have lc:=gx (aj e) _ _ hd;rw[HV,WaS]at lc;have hd':=ja (aj e) _ _ sz (iJ (aj e) _ _ off hd);rw[HV,WaS,WaS]at hd';cases ag with
    |true=>
     simp only[cond_true,Option.some.injEq]at hs;subst hs;refine⟨_,_,rfl,rfl,by simp[Ty.cells,HV],by omega,⟨?_,hd'⟩⟩
     simp;omega
    |false=>
     simp only[cond_false]at hs;cases hb:Nat.beq sz 1 with
     |false=>rw[hb]at hs;cases hs
     |true=>
      rw[hb]at hs;simp only[cond_true,Option.some.injEq]at hs;subst hs;have hsz:sz=1:=by simpa [Wag]using hb
      subst hsz;have hlt:off<List.length (α:=e.den) x:=by rw[hl];omega
      obtain⟨us,kN,aH⟩:=nY (aj e) _ _ hd off _ (Waa hlt);have AQ:us.length=1:=by rw[aj e _ _ kN,HV]
      refine⟨e,_,rfl,he2,HV,by omega,?_⟩
      rw[Wab,Waa hlt,Wa3];match us,AQ with
      |[u],_=>
       have h0:=aH 0 u rfl;rw[HV,WaS,Wbu]at h0;have:(cs.drop off).take 1=[u]:=by
        rw[List.take_one];simp[List.head?_drop,h0]
       rw[this];exact kN
   ·cases hs
 | .dR _ _,x,off,sz,ag,av,cs,hs,hr=>jo hs hr
 | .int k,x,off,sz,ag,av,cs,hs,hr=>jo hs hr
 | .bool,x,off,sz,ag,av,cs,hs,hr=>jo hs hr
 | .qi,x,off,sz,ag,av,cs,hs,hr=>jo hs hr
 | .any,x,off,sz,ag,av,cs,hs,hr=>jo hs hr
 | .str,x,off,sz,ag,av,cs,hs,hr=>jo hs hr
 | .arr _,x,off,sz,ag,av,cs,hs,hr=>jo hs hr
 | .unit,x,off,sz,ag,av,cs,hs,hr=>jo hs hr
theorem o3:∀{t:Ty} {x:t.den} {off n:Nat} {e:Ty} {xs:List e.den} {cs:List Value},za t x off n=some ⟨e,xs⟩->reads Ψ t x cs->
 e.small=true/\xs.length=n/\off+n<=cs.length/\gu (reads Ψ e) xs ((cs.drop off).take n)
 | .pair a b,x,off,n,e,xs,cs,hs,hr=>by
  obtain⟨u,v,rfl,hu,hv⟩:=hr;have lu:=aj a _ _ hu;have lv:=aj b _ _ hv;unfold za at hs;split at hs
  ·rename_i hc;simp only[WaK]at hc;obtain⟨h1,h2,h3,h4⟩:=o3 hs hu;refine⟨h1,h2,by simp;omega,?_⟩
   rw[WaV (by omega),WaR (by simp;omega)]
   exact h4
  ·split at hs
   ·rename_i hc;simp only[WaK]at hc;obtain⟨h1,h2,h3,h4⟩:=o3 hs hv;refine⟨h1,h2,by simp;omega,?_⟩
    have:off=u.length+(off-a.cells):=by omega
    rw[this,eD];exact h4
   ·cases hs
 | .vec m e',x,off,n,e,xs,cs,hs,hr=>by
  unfold za at hs;split at hs
  ·rename_i hc;simp only[Wac,Wag]at hc;obtain⟨⟨rfl,rfl⟩,Fe⟩:=hc;simp only[Option.some.injEq,Sigma.mk.injEq]at hs;obtain⟨rfl,hs⟩:=hs;cases hs;obtain⟨hl,hd⟩:=hr;have lc:=gx (aj e') _ _ hd;rw[(gZ Fe).1,WaS,hl]at lc;refine⟨Fe,hl,by omega,?_⟩
   rw[Wbe,Wap (by omega)]
   exact hd
  ·cases hs
 | .dR _ _,x,off,sz,ag,av,cs,hs,hr=>by cases hs
 | .int k,x,off,sz,ag,av,cs,hs,hr=>by cases hs
 | .bool,x,off,sz,ag,av,cs,hs,hr=>by cases hs
 | .qi,x,off,sz,ag,av,cs,hs,hr=>by cases hs
 | .any,x,off,sz,ag,av,cs,hs,hr=>by cases hs
 | .str,x,off,sz,ag,av,cs,hs,hr=>by cases hs
 | .arr _,x,off,sz,ag,av,cs,hs,hr=>by cases hs
 | .unit,x,off,sz,ag,av,cs,hs,hr=>by cases hs
theorem IZ{k:IntKind}:∀{l:List Int},(∀c∈l,k.has c)->gu (reads Ψ (.int k)) l (l.map (Value.int k))
 |[],_=>rfl
 |c::l,h=>⟨[.int k c],l.map (Value.int k),rfl,⟨rfl,h c (Waq ..)⟩,IZ fun d hd=>h d (Wal _ hd)⟩
theorem Vn:∀c∈gA,IntKind.u32.has c:=by
 have h:(gA.all fun c=>decide (0<=c/\c<=4294967295))=true:=by decide+kernel
 intro c hc;have:=List.all_eq_true.1 h c hc
 have:=of_decide_eq_true this
 unfold IntKind.has;simp[IntKind.min,IntKind.max,IntKind.bits,IntKind.signed]
 omega
theorem vE{k:Nat}{t:Ty}{x:t.den}(hi:aD C.P B w0 Ψ β h w)(hg:aH h k= .dat t x){off:Nat}{v:Value}(hv:aE Ψ β (.own k off) v):
 ∃g c e,β[k]?=some (.pointer (some ⟨g,0,none⟩))/\v= .pointer (some ⟨g,off,none⟩)/\w.heap[g]?=some (.cells c e (0,0))/\¬B g/\reads Ψ t x c.toList:=by
 obtain⟨g,bV,rfl⟩:=hv;obtain⟨g',c,e,h1,h2,h3,h4⟩:=hi.blk k _ (aC hg (by simp))
 rw[bV]at h1;simp at h1
 subst h1;exact⟨g,c,e,bV,rfl,h2,h3,h4⟩
theorem TN{k off n:Nat}{i:Int}{t:Ty}{x:t.den}(hi:aD C.P B w0 Ψ β h w)(hg:aH h k= .dat t x){v:Value}(hv:aE Ψ β (.DS k off n i) v):
 ∃g c e,0<=i/\i<(n:Int)/\v= .pointer (some ⟨g,off+i.toNat,none⟩)/\w.heap[g]?=some (.cells c e (0,0))/\¬B g/\reads Ψ t x c.toList:=by
 obtain⟨g,bV,h0,h1,rfl⟩:=hv;obtain⟨g',c,e,xJ,h2,h3,h4⟩:=hi.blk k _ (aC hg (by simp))
 rw[bV]at xJ;simp at xJ
 subst xJ;exact⟨g,c,e,h0,h1,rfl,h2,h3,h4⟩
theorem Ff{k sz:Nat}{i:Int}{off:Nat}{tid:TypeId}{e:Ty}{xs:List e.den}{v:Value}(hi:aD C.P B w0 Ψ β h w)(hg:aH h k= .grow tid e xs)(hv:aE Ψ β (.lI k sz i off) v)(hsz:sz=e.cells):
 ∃g c cur,β[k]?=some (.slice (some ⟨g,0,none⟩) xs.length c)/\v= .pointer (some ⟨g,i.toNat*sz+off,none⟩)/\0<=i/\i.toNat<xs.length/\w.heap[g]?=some (.cells cur tid (0,0))/\
  xs.length<=c/\c<=maxLen/\c≠0/\¬B g/\cur.size=c*e.cells/\gu (reads Ψ e) xs (cur.toList.take (xs.length*e.cells)):=by
 obtain⟨g,o,n,c,bV,h0,h1,_,rfl⟩:=hv;obtain⟨g',c',cur,k1,k2,k3,k4,k5⟩:=Bg (v:=.pointer (some ⟨g,o+i.toNat*sz,none⟩)) hi hg ⟨g,o,n,c,bV,h0,h1,rfl⟩ hsz;have k1':=k1;rw[bV]at k1';simp at k1'
 obtain⟨⟨rfl,rfl⟩,_,rfl⟩:=k1';exact⟨g,c,cur,k1,by rw[WaO],k3,k4,k5⟩
theorem D9{t:TypeId}{av:AV}{v:Value}{r:Out}(hi:aD C.P B w0 Ψ β h w)(hx:aE Ψ β av v)(hr:CC C h t av=some r):
 r.heap=h/\r.kill=none/\r.need=none/\dP C Ψ β w (Instr.loadAt t v) r.v:=by
 unfold CC at hr;split at hr
 ·
  rename_i k off;split at hr
  ·rename_i cs hg;split at hr
   ·rename_i av' hl;have:=aI hr;subst this
    obtain⟨g,c,e,bV,rfl,hh,hB,bu,h1⟩:=KZ hi hg hx;obtain⟨ag,n,cU,hle,vD⟩:=xG hl bu h1;refine⟨rfl,rfl,rfl,dP.aO ?_ vD⟩
    rw[gY];refine bN cU (by simp;simp at hle;omega) (fun j u hj=>?_)
    rw[bp hh];have:=bM hj
    simpa using this
   ·cases hr
  ·
   rename_i u x hg;split at hr
   ·rename_i ag n cU;split at hr
    ·rename_i v' hsub;have:=aI hr;subst this
     obtain⟨g,c,e,bV,rfl,hh,hB,hrd⟩:=vE hi hg hx;obtain⟨t',x',rfl,h1,h2,h3,h4⟩:=zC hsub hrd;refine⟨rfl,rfl,rfl,dP.aO ?_ (jb h4 h1.symm (fun hf=>?_))⟩
     ·rw[gY];refine bN cU (by simp;simp at h3;omega) (fun j u hj=>?_)
      rw[bp hh];have:=bM hj
      simpa using this
     ·have:=(cQ cU).2.2 hf
      rw[aj t' _ _ h4];omega
    ·cases hr
   ·cases hr
  ·cases hr
 ·
  rename_i k off m i;split at hr
  ·rename_i u x sz hg cU;split at hr
   ·rename_i e xs hv;have:=aI hr;subst this
    obtain⟨g,c,e',h0,h1,rfl,hh,hB,hrd⟩:=TN hi hg hx;obtain⟨Fe,hlen,hle,hd⟩:=o3 hv hrd;obtain⟨HV,he2⟩:=gZ Fe;have hlt:i.toNat<xs.length:=by omega
    obtain⟨us,kN,aH⟩:=nY (aj e) _ _ hd i.toNat xs[i.toNat] (Waa hlt);have hD:xs.getD i.toNat (dflt e)=xs[i.toNat]:=by simp[Wab,Waa hlt]
    have AQ:us.length=1:=by rw[aj e _ _ kN,HV]
    have NH:=(cQ cU).2.2 rfl;refine⟨rfl,rfl,rfl,dP.aO ?_ (by rw[hD];exact jb kN he2.symm (fun _=>AQ))⟩
    rw[gY];refine bN cU (by omega) (fun j u hj=>?_)
    rw[bp hh];have:=aH j u hj
    rw[HV,WaS]at this;have:=bM this
    rw[<-Wa2]at this;simpa using this
   ·cases hr
  ·cases hr
 ·
  rename_i g;split at hr
  ·rename_i n cU;split at hr
   ·rename_i hc;simp only[Wac,Wag]at hc;obtain⟨rfl,hg⟩:=hc;have:=aI hr;subst this
    have hv:v= .pointer (some ⟨g,0,none⟩):=hx;subst hv;refine⟨rfl,rfl,rfl,dP.aO ?_ (jb (us:=gA.map (Value.int .u32)) (show reads Ψ (.vec 64 (.int .u32)) gA _ from⟨by decide,IZ Vn⟩) rfl (fun hf=>by cases hf))⟩
    rw[gY];refine bN cU (by decide) (fun j u hj=>?_)
    rw[Wba]at hj;cases hn:gA[j]? with
    |none=>rw[hn]at hj;cases hj
    |some n=>
     rw[hn]at hj;simp only[Wbk,Option.some.injEq]at hj;subst hj;have:=mS (a:=⟨g,j,none⟩) rfl (hi.prom _ _ (hi.gQ.1 g hg j n hn))
     rwa [WaO]
   ·cases hr
  ·cases hr
 ·
  rename_i k sz i off;split at hr
  ·rename_i tid e xs hg;split at hr
   ·rename_i ag n cU;split at hr
    ·rename_i hc;simp only[Wag]at hc;split at hr
     ·rename_i v' hsub;have:=aI hr;subst this
      obtain⟨g,c,cur,bV,rfl,h0,hlt,hh,_,_,_,_,_,hd⟩:=Ff hi hg hx hc;obtain⟨us,kN,aH⟩:=nY (aj e) _ _ hd i.toNat xs[i.toNat] (Waa hlt);have hD:xs.getD i.toNat (dflt e)=xs[i.toNat]:=by simp[Wab,Waa hlt]
      rw[hD]at hsub;obtain⟨t',x',rfl,h1,h2,h3,h4⟩:=zC hsub kN;refine⟨rfl,rfl,rfl,dP.aO ?_ (jb h4 h1.symm (fun hf=>?_))⟩
      ·rw[gY];refine bN cU (by simp;omega) (fun j u hj=>?_)
       rw[bp hh];have:=aH _ u (bM hj)
       rw[Was]at this;split at this
       ·rw[hc,Wa2];simpa using this
       ·cases this
      ·have:=(cQ cU).2.2 hf
       rw[aj t' _ _ h4];omega
     ·cases hr
    ·cases hr
   ·cases hr
  ·cases hr
 ·
  rename_i k sz i;split at hr
  ·rename_i tid e xs hg;split at hr
   ·rename_i ag n cU;split at hr
    ·rename_i hc;simp only[Wac,Wag,beq_iff_eq]at hc;obtain⟨⟨hn,hsz⟩,hag⟩:=hc;have:=aI hr;subst this
     obtain⟨g,c,cur,bV,rfl,h0,hlt,hh,_,_,_,_,_,hd⟩:=Bg hi hg hx (by omega)
     obtain⟨us,kN,aH⟩:=nY (aj e) _ _ hd i.toNat xs[i.toNat] (Waa hlt);have hD:xs.getD i.toNat (dflt e)=xs[i.toNat]:=by simp[Wab,Waa hlt]
     refine⟨rfl,rfl,rfl,dP.aO ?_ (by rw[hD];exact jb kN hag (fun hf=>by rw[aj e _ _ kN];have:=(cQ cU).2.2 hf;omega))⟩
     rw[gY];refine bN cU (by rw[aj e _ _ kN];omega) (fun j u hj=>?_)
     rw[bp hh];have:=aH j u hj
     rw[Was]at this;split at this
     ·rw[show i.toNat*sz=i.toNat*e.cells by rw[<-hsz,hn]]
      simpa using this
     ·cases this
    ·cases hr
   ·cases hr
  ·cases hr
 ·
  rename_i u x;split at hr
  ·rename_i ag n cU;split at hr
   ·rename_i hc;simp only[Wac,Wag,beq_iff_eq]at hc;obtain⟨hn,hag⟩:=hc;have:=aI hr;subst this
    obtain⟨g,off,us,rfl,kN,hp⟩:=hx;refine⟨rfl,rfl,rfl,dP.aO ?_ (jb kN hag (fun hf=>by rw[aj u _ _ kN];have:=(cQ cU).2.2 hf;omega))⟩
    rw[gY];exact bN cU (by rw[aj u _ _ kN];omega) (fun j u' hj=>hi.prom _ _ (hp j u' hj))
   ·cases hr
  ·cases hr
 ·cases hr
def jE:(t:Ty)->t.den->List Lit
 | .int k,x=>[.int k x]
 | .bool,x=>[.bool x]
 | .str,x=>[.string (strOf x).data.toList]
 | .vec _ (.int k),x=>List.map (fun n:Int=>Lit.int k n) x
 | .pair a b,x=>jE a x.1++jE b x.2
 |_,_=>[]
theorem I0{k:IntKind}:∀(l:List Int) (cs:List Value),gu (reads Ψ (.int k)) l cs->cs=l.map (Value.int k)/\∀c∈l,k.has c
 |[],cs,h=>by simp only[gu]at h;subst h;simp
 |x::l,cs,⟨c,vs',e,⟨hc,hk⟩,hl⟩=>by
  obtain⟨h1,h2⟩:=I0 l vs' hl;subst e hc h1;refine⟨rfl,fun c hm=>?_⟩
  rcases List.mem_cons.1 hm with rfl|hm
  ·exact hk
  ·exact h2 c hm
theorem qh7{k:IntKind}{n:Int}(h:k.has n):(Lit.int k n).wf=true:=by
 unfold IntKind.has at h;simpa [Lit.wf]using h
theorem zD{α β':Type}{f:α->Option β'}{g:α->β'}:∀(l:List α),(∀x∈l,f x=some (g x))->l.mapM f=some (l.map g)
 |[],_=>rfl
 |x::l,h=>by
  rw[Wcc,h x (by simp),zD l (fun y hy=>h y (by simp[hy]))]
  rfl
mutual
theorem o5{P:Program}:∀(ty:Ty) {D:Nat} {t:TypeId} {x:ty.den} {cs:List Value},e9 ty=true->qD P ty t=true->P.keyTypeAt D t=true->reads Ψ ty x cs->P.keyLits D t cs=some (jE ty x)
 |ty,0,t,x,cs,_,_,hk,_=>by simp[Program.keyTypeAt]at hk
 | .int k,D+1,t,x,cs,_,ht,hk,hr=>by
  unfold qD at ht;split at ht
  ·rename_i k' hu;have:k'=k:=by simpa using ht
   subst this;obtain⟨rfl,hh⟩:=hr;simp[Program.keyLits,hu,qh7 hh,jE]
  ·cases ht
 | .bool,D+1,t,x,cs,_,ht,hk,hr=>by
  unfold qD at ht;split at ht
  ·rename_i hu;simp only[reads]at hr;subst hr;simp[Program.keyLits,hu,jE]
  ·cases ht
 | .str,D+1,t,x,cs,_,ht,hk,hr=>by
  unfold qD at ht;split at ht
  ·rename_i hu;obtain⟨rfl,_,hl⟩:=hr;simp[Program.keyLits,hu,jE,dU,hl]
  ·cases ht
 | .arr e,D+1,t,x,cs,he,ht,hk,hr=>by simp[e9]at he
 | .unit,D+1,t,x,cs,he,ht,hk,hr=>by simp[qD]at ht
 | .qi,D+1,t,x,cs,he,ht,hk,hr=>by simp[qD]at ht
 | .dR _ _,D+1,t,x,cs,he,ht,hk,hr=>by simp[e9]at he
 | .any,D+1,t,x,cs,he,ht,hk,hr=>by simp[qD]at ht
 | .vec n e,D+1,t,x,cs,he,ht,hk,hr=>by
  cases e with
  |qi=>simp[e9]at he
  |dR _ _=>simp[e9]at he
  |any=>simp[e9]at he
  |int k=>
   unfold qD at ht;split at ht
   ·rename_i m et hu;simp only[Wac]at ht;obtain⟨⟨⟨hm,hc⟩,hs⟩,hoe⟩:=ht;have hm:=Wam hm;have hc:=Wam hc;have hs:=Wam hs;subst hm;obtain⟨hlen,hd⟩:=hr;obtain⟨rfl,hh⟩:=I0 (Ψ:=Ψ) x cs hd;simp only[Ty.cells]at hc hs;have hke:P.keyTypeAt D et=true:=by simpa [Program.keyTypeAt,hu]using hk
    have hl:(List.map (Value.int k) x).length=P.cellsOf t:=by rw[Wav,hs,WaS];exact hlen
    have hone:∀i∈List.range m,P.keyLits D et (((List.map (Value.int k) x).drop (i*P.cellsOf et)).take (P.cellsOf et))=some [.int k (List.getD x i 0)]:=by
     intro i hi;have hi:i<List.length x:=by rw[hlen];simpa using hi
     have h2:=o5 (.int k) (D:=D) (t:=et) (x:=(List.getD x i 0:Int)) (cs:=[.int k (List.getD x i 0)]) (by rfl) hoe hke ⟨rfl,by
      have:=hh x[i] (WaJ hi)
      simpa [Wab,Waa hi]using this⟩
     rw[hc,WaS];have e1:((List.map (Value.int k) x).drop i).take 1=[.int k (List.getD x i 0)]:=by
      rw[Wa9 (by simpa using hi)]
      simp[Wab,Waa hi]
     rw[e1];exact h2
    simp only[Program.keyLits,hu,if_pos hl,zD _ hone,Wbk,jE];congr 1
    rw[<-hlen];clear hone hl hd hh hlen hke hs hc hoe hu hk he
    have key:∀(l:List Int),((List.range l.length).map fun i=>[Lit.int k (l.getD i 0)]).flatten=l.map fun n=>Lit.int k n:=by
     intro l;induction l with
     |nil=>rfl
     |cons a l ih=>
      rw[Wae,WcG];simp only[Wat,WbR,WcC,Wb2,WbV,List.getD_cons_zero];rw[<-ih];rfl
    exact key x
   ·cases ht
  |bool=>simp[e9]at he
  |str=>simp[e9]at he
  |arr _=>simp[e9]at he
  |vec _ _=>simp[e9]at he
  |unit=>simp[e9]at he
  |pair _ _=>simp[e9]at he
 | .pair a b,D+1,t,x,cs,he,ht,hk,hr=>by
  unfold qD at ht;split at ht
  ·rename_i fs hu;split at ht
   ·rename_i f fs' sj;simp only[Wac]at ht;obtain⟨⟨⟨⟨hs,ho⟩,hc⟩,ha⟩,hb⟩:=ht;have hs:=Wam hs;have ho:=Wam ho;have hc:=Wam hc;simp only[e9,Wac]at he;have hl:=aj (.pair a b) _ _ hr;simp only[Program.keyTypeAt,hu,Wac,Array.all_eq_true']at hk;have hkf:∀f∈fs.toList,f.name≠ "_" /\P.keyTypeAt D f.type=true:=fun f hf=>by
     have:=hk.1.1 f (by simpa using hf)
     simpa using this
    obtain⟨u,v,rfl,hu1,Vo⟩:=hr;have AQ:=aj a _ _ hu1;have h1:=o5 a (D:=D) he.1 ha (hkf f (by rw[sj];simp)).2 hu1
    obtain⟨ls,h2,h3⟩:=zE (P:=P) b (D:=D) (fs:=fs') (off:=a.cells) (cs:=u++v) he.2 hb (fun g hg=>(hkf g (by rw[sj];simp[hg])).2) (x:=x.2) (by rw[<-AQ];simpa using Vo)
    have hall:fs.all (fun f=>f.name != "_")=true:=by
     rw[Array.all_eq_true'];intro f hf;simpa using (hkf f (by simpa using hf)).1
    simp only[Program.keyLits,hu];rw[if_pos ⟨by rw[hl,hs];rfl,hall⟩,sj,Wcc,ho,hc,Wbe,<-AQ,Wb5,h1,h2]
    simp[h3,jE]
   ·cases ht
  ·cases ht
theorem zE{P:Program}:∀(ty:Ty) {D:Nat} {fs:List Field} {off:Nat} {cs:List Value} {x:ty.den},e9 ty=true->okF P ty fs off=true->(∀f∈fs,P.keyTypeAt D f.type=true)->reads Ψ ty x (cs.drop off)->
 ∃ls,fs.mapM (fun f=>P.keyLits D f.type ((cs.drop f.offset).take (P.cellsOf f.type)))=some ls/\ls.flatten=jE ty x
 | .pair a b,D,fs,off,cs,x,he,ho,hk,hr=>by
  cases fs with
  |nil=>simp[okF]at ho
  |cons f fs=>
   simp only[okF,Wac]at ho;obtain⟨⟨⟨hf,hc⟩,ha⟩,hb⟩:=ho;have hf:=Wam hf;have hc:=Wam hc;simp only[e9,Wac]at he;obtain⟨u,v,hcs,hu1,Vo⟩:=hr;have AQ:=aj a _ _ hu1;have h1:=o5 a (D:=D) he.1 ha (hk f (by simp)) hu1
   have AS:cs.drop (off+a.cells)=v:=by rw[<-List.drop_drop,hcs,<-AQ,WcT]
   obtain⟨ls,h2,h3⟩:=zE (P:=P) b (D:=D) (fs:=fs) (off:=off+a.cells) (cs:=cs) he.2 hb (fun g hg=>hk g (by simp[hg])) (x:=x.2) (by rw[AS];exact Vo)
   refine⟨jE a x.1::ls,?_,by simp[h3,jE]⟩
   rw[Wcc,hf,hc,hcs,<-AQ,Wb5,h1,h2];rfl
 | .unit,D,fs,off,cs,x,he,ho,hk,hr=>by
  cases fs with
  |nil=>exact⟨[],rfl,rfl⟩
  |cons f fs=>simp[okF]at ho
 | .int _,_,_,_,_,_,_,ho,_,_=>by simp[okF]at ho
 | .bool,_,_,_,_,_,_,ho,_,_=>by simp[okF]at ho
 | .qi,_,_,_,_,_,_,ho,_,_=>by simp[okF]at ho
 | .dR _ _,_,_,_,_,_,_,ho,_,_=>by simp[okF]at ho
 | .any,_,_,_,_,_,_,ho,_,_=>by simp[okF]at ho
 | .str,_,_,_,_,_,_,ho,_,_=>by simp[okF]at ho
 | .arr _,_,_,_,_,_,_,ho,_,_=>by simp[okF]at ho
 | .vec _ _,_,_,_,_,_,_,ho,_,_=>by simp[okF]at ho
end
theorem Bi:∀(ty:Ty) (x y:ty.den) (cs ds:List Value),e9 ty=true->reads Ψ ty x cs->reads Ψ ty y ds->(jE ty x).length=(jE ty y).length
 | .int _,_,_,_,_,_,_,_=>rfl
 | .bool,_,_,_,_,_,_,_=>rfl
 | .str,_,_,_,_,_,_,_=>rfl
 | .unit,_,_,_,_,_,_,_=>rfl
 | .arr _,_,_,_,_,he,_,_=>by simp[e9]at he
 | .qi,_,_,_,_,he,_,_=>by simp[e9]at he
 | .dR _ _,_,_,_,_,he,_,_=>by simp[e9]at he
 | .any,_,_,_,_,he,_,_=>by simp[e9]at he
 | .vec n e,x,y,cs,ds,he,hx,hy=>by
  cases e with
  |qi=>simp[e9]at he
  |dR _ _=>simp[e9]at he
  |any=>simp[e9]at he
  |int k=>
   show (List.map _ x).length=(List.map _ y).length
   rw[Wav,Wav,hx.1,hy.1]
  |bool=>simp[e9]at he
  |str=>simp[e9]at he
  |arr _=>simp[e9]at he
  |vec _ _=>simp[e9]at he
  |unit=>simp[e9]at he
  |pair _ _=>simp[e9]at he
 | .pair a b,x,y,_,_,he,⟨_,_,_,h1,h2⟩,⟨_,_,_,h3,h4⟩=>by
  simp only[e9,Wac]at he;simp only[jE,Wad];rw[Bi a _ _ _ _ he.1 h1 h3,Bi b _ _ _ _ he.2 h2 h4]
theorem Bj:∀(ty:Ty) (x y:ty.den) (cs ds:List Value),e9 ty=true->reads Ψ ty x cs->reads Ψ ty y ds->(jE ty x=jE ty y↔Qk ty x y=true)
 | .int k,x,y,_,_,_,_,_=>by simp[jE,Qk]
 | .bool,x,y,_,_,_,_,_=>by simp[jE,Qk]
 | .str,x,y,_,_,_,hx,hy=>by
  simp only[jE,Qk,decide_eq_true_eq];constructor
  ·intro h;simp only[List.cons.injEq,Lit.string.injEq,and_true]at h;refine Be hx.2.1 hy.2.1 ?_
   have:(strOf x).data=(strOf y).data:=Array.toList_inj.1 h
   cases hs:strOf x
   cases ht:strOf y
   rw[hs,ht]at this;simp only at this
   rw[this]
  ·intro h;rw[h]
 | .unit,x,y,_,_,_,_,_=>by simp[jE,Qk]
 | .arr _,_,_,_,_,he,_,_=>by simp[e9]at he
 | .qi,_,_,_,_,he,_,_=>by simp[e9]at he
 | .dR _ _,_,_,_,_,he,_,_=>by simp[e9]at he
 | .any,_,_,_,_,he,_,_=>by simp[e9]at he
 | .vec n e,x,y,cs,ds,he,hx,hy=>by
  cases e with
  |qi=>simp[e9]at he
  |dR _ _=>simp[e9]at he
  |any=>simp[e9]at he
  |int k=>
   simp only[jE,Qk,decide_eq_true_eq];constructor
   ·intro h;have hinj:Function.Injective (fun n:Int=>Lit.int k n):=fun a b hab=>by simpa using hab
    exact (List.map_inj_right (fun a b hab=>hinj hab)).1 h
   ·intro h;rw[h]
  |bool=>simp[e9]at he
  |str=>simp[e9]at he
  |arr _=>simp[e9]at he
  |vec _ _=>simp[e9]at he
  |unit=>simp[e9]at he
  |pair _ _=>simp[e9]at he
 | .pair a b,x,y,_,_,he,⟨_,_,_,h1,h2⟩,⟨_,_,_,h3,h4⟩=>by
  simp only[e9,Wac]at he;simp only[jE,Qk,Wac];rw[<-Bj a _ _ _ _ he.1 h1 h3,<-Bj b _ _ _ _ he.2 h2 h4];constructor
  ·intro h;exact List.append_inj h (Bi a _ _ _ _ he.1 h1 h3)
  ·rintro⟨e1,e2⟩
   rw[e1,e2]
theorem Fg{P:Program}{ty:Ty}{t:TypeId}{x:ty.den}{v:Value}(ha:ty.isAgg=true)(ht:qD P ty t=true)(hr:rv Ψ ty x v):∃cs,v= .agg cs.toArray/\reads Ψ ty x cs/\v.formed P t=true:=by
 obtain⟨cs,hc,hv⟩:=hr;rw[ha]at hv;simp only[if_true]at hv;have hl:=aj ty _ _ hc;refine⟨cs,hv,hc,?_⟩
 subst hv;cases ty with
 |vec n e=>
  unfold qD at ht;split at ht
  ·rename_i m et hu;simp only[Wac]at ht;have hs:=Wam ht.1.2;simp[Value.formed,hu,hl,hs,Ty.cells]
  ·cases ht
 |pair a b=>
  unfold qD at ht;split at ht
  ·rename_i fs hu;split at ht
   ·simp only[Wac]at ht;have hs:=Wam ht.1.1.1.1;simp[Value.formed,hu,hl,hs,Ty.cells]
   ·cases ht
  ·cases ht
 |dR a b=>
  unfold qD at ht;split at ht
  ·rename_i fs hu;simp only[Wac]at ht;have hs:=Wam ht.1;simp[Value.formed,hu,hl,hs,Ty.cells]
  ·cases ht
 |unit=>simp[qD]at ht
 |qi=>simp[Ty.isAgg]at ha
 |any=>simp[Ty.isAgg]at ha
 |int _=>simp[Ty.isAgg]at ha
 |bool=>simp[Ty.isAgg]at ha
 |str=>simp[Ty.isAgg]at ha
 |arr _=>simp[Ty.isAgg]at ha
theorem Vp{op:BinOp}{xt:TypeId}{x y:Operand}{av bv:AV}{u v:Value}{r:Out}(hx:aE Ψ β av u)(hy:aE Ψ β bv v)(hr:zc C h op xt av bv=some r):
 r.heap=h/\r.kill=none/\r.need=none/\dP C Ψ β w (do eqGuard op xt x y u v;binOp op xt u v) r.v:=by
 unfold zc at hr;split at hr
 ·rename_i ty hty;split at hr
  ·rename_i hc;simp only[Wac]at hc;obtain⟨⟨⟨⟨⟨qep,heq⟩,hok⟩,hkt⟩,hgd⟩,tW⟩:=hc;have hgd:C.P.eqGuardType C.P.depth xt=false:=by simpa using hgd
   have hrefs:cS [av,bv]=[]:=by
    unfold mH at tW;split at tW
    ·assumption
    ·cases tW
   simp only[cS,List.append_eq_nil_iff]at hrefs;split at hr
   ·rename_i a b hda hdb;have ra:rv Ψ ty a u:=ku (bW.refl _) hda hx (by rw[hrefs.1];exact cc.nil)
    have rb:rv Ψ ty b v:=ku (bW.refl _) hdb hy (by rw[hrefs.2.1];exact cc.nil)
    obtain⟨cs,rfl,hcs,hfa⟩:=Fg qep hok ra;obtain⟨ds,rfl,hds,hfb⟩:=Fg qep hok rb;have ka:=o5 (P:=C.P) ty (D:=100) heq hok hkt hcs;have kb:=o5 (P:=C.P) ty (D:=100) heq hok hkt hds;obtain⟨q,hq,hiff⟩:=run_equalIn_deep (P:=C.P) 9900 100 xt hkt w 100 100 _ _ _ _ hfa hfb (by simpa [Value.cells]using ka) (by simpa [Value.cells]using kb)
    have hqe:q=Qk ty a b:=by
     rw[Bj ty a b cs ds heq hcs hds]at hiff;cases q<;>cases hqq:Qk ty a b<;>simp_all
    subst hqe;split at hr
    ·have:=aI hr;subst this
     exact⟨rfl,rfl,rfl,dP.aO (v:=.bool (Qk ty a b)) (by simp only[Sem.run_bind,run_eqGuard_agg (P:=C.P) w _ xt x y cs.toArray ds.toArray hgd,Result.andThen_ok];rw[run_eql_struct,hq];rfl) (dx _)⟩
    ·have:=aI hr;subst this
     exact⟨rfl,rfl,rfl,dP.aO (v:=.bool (!Qk ty a b)) (by simp only[Sem.run_bind,run_eqGuard_agg (P:=C.P) w _ xt x y cs.toArray ds.toArray hgd,Result.andThen_ok];rw[run_neq_struct,hq];rfl) (dx _)⟩
    ·cases hr
   ·cases hr
  ·cases hr
 ·cases hr
end Go.AM
