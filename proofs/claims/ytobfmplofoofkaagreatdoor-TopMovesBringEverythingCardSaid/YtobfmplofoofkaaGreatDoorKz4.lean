import Derived.Test.YtobfmplofoofkaaGreatDoorKz3
import Derived.Maps.RangeRun
import Derived.Laws.Cover3
import Derived.RangeFuncRecord
import Derived.RangeFuncCalls
import Derived.TacticsIn
import Derived.OrdersIn
set_option linter.unusedSimpArgs false
set_option linter.unusedVariables false
namespace Go.AM
open Go.RowKit Go.MapKept
variable {B:Nat->Prop} {w0:World} {C:Ctx} {Ψ bL:Pr} {β:List Value} {h:List aB} {w w':World} {fr:List AV} {a a0:Act} {As:List Act} {W:List Nat}
def fI(bL:Pr)(W:List Nat)(a0 a:Act):Prop:=
 (a.tmps.size=a0.tmps.size/\∀i,i∉W->a.tmps[i]?=a0.tmps[i]?)/\∃ds:List Nat,a.defers=ds.map YJ++a0.defers/\(ds≠[]->mkW∈W)/\∀D∈ds,bL (qX D)=none
theorem fI.refl(bL:Pr)(W:List Nat)(a:Act):fI bL W a a:=⟨⟨rfl,fun _ _=>rfl⟩,[],rfl,fun h=>absurd rfl h,by simp⟩
theorem fI.trans{a b c:Act}{fE:Pr}(hle:bW bL fE)(h:fI bL W a b)(h':fI fE W b c):fI bL W a c:=by
 obtain⟨⟨h1,h2⟩,ds,h3,hm,h4⟩:=h;obtain⟨⟨g1,g2⟩,es,g3,gm,g4⟩:=h';refine⟨⟨g1.trans h1,fun i hi=>(g2 i hi).trans (h2 i hi)⟩,es++ds,by rw[g3,h3];simp,fun h=>?_,fun D hD=>?_⟩
 ·cases es with
  |nil=>exact hm h
  |cons x l=>exact gm (by simp)
 rcases List.mem_append.1 hD with hD|hD
 ·cases hp:bL (qX D) with
  |none=>rfl
  |some v=>have:=hle _ _ hp;rw[g4 D hD]at this;cases this
 ·exact h4 D hD
theorem fI.put{d:Option Tmp}{v:Value}(hs:fI bL W a0 a)(hd:∀t,d=some t->t∈W):fI bL W a0 (a.put d v):=by
 cases d with
 |none=>exact hs
 |some t=>
  obtain⟨⟨h1,h2⟩,h3⟩:=hs;refine⟨⟨by simpa [Act.put]using h1,fun i hi=>?_⟩,h3⟩
  have:t≠i:=fun e=>hi (e▸hd t rfl)
  simp only[Act.put];rw[WaN this];exact h2 i hi
theorem fI.mono{ws:List Nat}(h:fI bL ws a0 a)(hw:∀t∈ws,t∈W):fI bL W a0 a:=by
 obtain⟨⟨h1,h2⟩,ds,h3,h4,h5⟩:=h;exact⟨⟨h1,fun i hi=>h2 i fun hm=>hi (hw i hm)⟩,ds,h3,fun hd=>hw _ (h4 hd),h5⟩
def Fw(ro:Option Nat):Fence:={Fence.wide with round:=ro}
theorem oA{P:Program}{f:FuncId}{args:Array Value}{R:Ending->World->Prop}(ro:Option Nat)(n:Nat)(h:Calls P f args w R):CallsIn (Fw ro) n P f args w R:=by
 cases ro with
 |none=>exact callsIn_wide.2 h
 |some l=>exact CallsIn.inRound l (callsIn_wide.2 h)
def jc(C:Ctx)(B:Nat->Prop)(w0:World)(bL:Pr)(As:List Act)(W:List Nat)(a0:Act)(k:St->Prop)(a:Act)(w:World):Prop:=
 ∃Ψ β s,Ext B bL Ψ/\aD C.P B w0 Ψ β s.heap w/\aQ Ψ β (s.top::s.below) (a::As)/\fI bL W a0 a/\k s
def qK(W:List Nat)(a0 a:Act):Prop:=∃ds:List Nat,a.defers=ds.map YJ++a0.defers/\(ds≠[]->mkW∈W)
theorem fI.defs(h:fI bL W a0 a):qK W a0 a:=by
 obtain⟨_,ds,h1,h2,_⟩:=h;exact⟨ds,h1,h2⟩
theorem qK.trans{ws:List Nat}{b:Act}(h:fI bL W a0 a)(h':qK ws a b)(hw:∀t∈ws,t∈W):qK W a0 b:=by
 obtain⟨_,ds,h1,h2,_⟩:=h;obtain⟨es,h3,h4⟩:=h';refine⟨es++ds,by rw[h3,h1];simp,fun h=>?_⟩
 cases es with
 |nil=>exact h2 h
 |cons x l=>exact hw _ (h4 (by simp))
theorem qK.put{d:Option Tmp}{v:Value}:qK W a0 (a.put d v)↔qK W a0 a:=by
 cases d<;>exact Iff.rfl
def uB(C:Ctx)(B:Nat->Prop)(w0:World)(bL:Pr)(ch:List PanicEntry)(w:World):Prop:=
 ∃b,ch=qlv C.qlg b/\C.Y2 b/\∃Ψ,Ext B bL Ψ/\aD C.P B w0 Ψ [] [] w
def TT(C:Ctx)(B:Nat->Prop)(w0:World)(Ψ:Pr)(As:List Act)(k:AV->St->Prop)(e:Ending)(w':World):Prop:=
 (∃v ax β' av s',e= .returned v/\Ext B Ψ ax/\aD C.P B w0 ax β' s'.heap w'/\aQ ax β' (s'.top::s'.below) As/\aE ax β' av v/\k av s')\/∃ch,e= .panicked ch/\uB C B w0 Ψ ch w'
theorem uB.anti{fE:Pr}{ch:List PanicEntry}(hE:Ext B bL fE)(h:uB C B w0 fE ch w):uB C B w0 bL ch w:=by
 obtain⟨b,e,ho,mZ,h1,h2⟩:=h;exact⟨b,e,ho,mZ,hE.trans h1,h2⟩
theorem aD.loose{B F:Nat->Prop}{w1:World}(xR:∀g,B g->F g)(sy:dJ B w0 w1)(hi:aD C.P F w1 Ψ β h w):aD C.P B w0 Ψ [] [] w where
 low:=sy.trans ⟨hi.low.os,hi.low.tape,hi.low.output,hi.low.size,fun g hg=>hi.low.block g (xR g hg)⟩
 size:=fun g hg=>hi.size g (xR g hg)
 prom:=hi.prom
 own:=fun a v hv hs hb=>hi.own a v hv hs (xR _ hb)
 len:=rfl
 one:=fun k u hk=>by simp at hk
 blk:=fun k b hk=>by simp at hk
 free:=fun k b g hk=>by simp at hk
 sep:=fun i j bi bj g _ hk=>by simp at hk
 gQ:=hi.gQ
theorem uB.Fz{B F:Nat->Prop}{w1:World}{ch:List PanicEntry}(hE:Ext B bL Ψ)(xR:∀g,B g->F g)(sy:dJ B w0 w1)(qlO:∀{ax:Pr},Ext F Ψ ax->Ext B Ψ ax)(h:uB C F w1 Ψ ch w):uB C B w0 bL ch w:=by
 obtain⟨b,e,ho,mZ,h1,h2⟩:=h;exact⟨b,e,ho,mZ,hE.trans (qlO h1),h2.loose xR sy⟩
theorem qac{b:Int×Int}(h:C.oN=true)(hp:C.Y2 b):False:=by
 unfold Ctx.Y2 at hp;rw[h]at hp;exact hp
theorem uB.no{ch:List PanicEntry}(h:C.oN=true)(hp:uB C B w0 Ψ ch w):False:=by
 obtain⟨b,_,ho,_⟩:=hp;exact qac h ho
def fc(C:Ctx)(call:gk):Prop:=
 (∀(j:Nat) (dN:List AV) (s:St) (k:AV->St->Prop),call (.qd j) dN s k->∀(B:Nat->Prop) (w0:World) (Ψ:Pr) (β:List Value) (As:List Act) (vs:List Value) (w:World),
   aD C.P B w0 Ψ β s.heap w->aQ Ψ β (s.top::s.below) As->aL Ψ β dN vs->
   ∃l r,β[j]?=some (cm l)/\w.heap[l]?=some (.loop r)/\vs.length=r.params.size/\
    RoundIn Fence.wide 0 C.P l r.fn ((r.params.zip vs.toArray).foldl (fun tmps (t,a)=>tmps.setIfInBounds t a) r.tmps) r.assign r.body w
     fun e w'=>∃v ax β' av s',e= .returned v/\Ext B Ψ ax/\aD C.P B w0 ax β' s'.heap w'/\aQ ax β' (s'.top::s'.below) As/\aE ax β' av v/\k av s')/\
 ∀(f:FuncId) (dN:List AV) (s:St) (k:AV->St->Prop),call (.fn f) dN s k->jh C f=true->∀(B:Nat->Prop) (w0:World) (Ψ:Pr) (β:List Value) (As:List Act) (vs:List Value) (w:World),
  aD C.P B w0 Ψ β s.heap w->aQ Ψ β (s.top::s.below) As->aL Ψ β dN vs->
  Calls C.P f vs.toArray w (TT C B w0 Ψ As k)
theorem cq{ax:Pr}{β':List Value}{s:St}{d:Option Tmp}{av:AV}{v:Value}(hf:aQ ax β' (s.top::s.below) (a::As))(hv:aE ax β' av v):
 aQ ax β' ((s.put d av).top::(s.put d av).below) (a.put d v::As):=by
 obtain⟨a1,as',e,⟨h1,h2⟩,h3⟩:=hf;simp only[List.cons.injEq]at e;obtain⟨rfl,rfl⟩:=e;cases d with
 |none=>exact⟨_,_,rfl,⟨h1,h2⟩,h3⟩
 |some t=>
  refine⟨_,_,rfl,⟨h1,?_⟩,h3⟩
  simp only[St.put,Act.put];have:=oU hv _ _ t h2
  simpa using this
theorem cu(s:St)(d:Option Tmp)(av:AV):(s.put d av).heap=s.heap:=by cases d<;>rfl
theorem bf{s:St}(hf:aQ Ψ β (s.top::s.below) (a::As)):wS Ψ β s.top a:=by
 obtain⟨a1,as',e,h1,h3⟩:=hf;simp only[List.cons.injEq]at e;obtain⟨rfl,rfl⟩:=e;exact h1
theorem uC{g:FuncId}(hg:jh C g=true)(args:Array Value)(w:World):(callFunc g args).run C.P w= .ok (.enter g args) w:=by
 unfold jh at hg;split at hg
 ·rename_i fn hfn;simp only[Wac,WaU,beq_eq_false_iff_ne]at hg;obtain⟨h1,h2⟩:=hg;simp[callFunc,hfn,h2]
  intro hn;rw[hn]at h1;simp at h1
 ·cases hg
theorem FA{o:Oper}{f:Operand}{args:Array Operand}{ats:Array TypeId}{g:FuncId}{vs:List Value}(ho:o.op= .call {callee:=.value f,args,argTypes:=ats})(hf:a.eval f= .func (.func g) #[] vs.toArray)(hg:jh C g=true):
 (execOp a.eval o).run C.P w= .ok (.enter g (args.toList.map a.eval++vs).toArray) w:=by
 have e:(args.toList.map a.eval++vs).toArray= #[]++args.map a.eval++vs.toArray:=by
  apply Wb4
  simp
 have:=uC hg (args.map a.eval++vs.toArray) w
 simp only[execOp,ho,resolve,hf,Deferred.ofValue];rw[e];simpa [invoke]using this
theorem VB{o:Oper}{f:Operand}{args:Array Operand}{ats:Array TypeId}{g:FuncId}{vs:List Value}(ho:o.op= .call {callee:=.value f,args,argTypes:=ats})(hf:a.eval f= .func (.func g) vs.toArray #[])(hg:jh C g=true):
 (execOp a.eval o).run C.P w= .ok (.enter g (vs++args.toList.map a.eval).toArray) w:=by
 have e:(vs++args.toList.map a.eval).toArray=vs.toArray++args.map a.eval++ #[]:=by
  apply Wb4
  simp
 have:=uC hg (vs.toArray++args.map a.eval) w
 simp only[execOp,ho,resolve,hf,Deferred.ofValue];rw[e];simpa [invoke]using this
theorem qad{o:Oper}{f:Operand}{args:Array Operand}{ats:Array TypeId}{l:Nat}{r:Loop}(ho:o.op= .call {callee:=.value f,args,argTypes:=ats})(hf:a.eval f=cm l)
 (hh:w.heap[l]?=some (.loop r)) (hn:(args.toList.map a.eval).length=r.params.size):
 (execOp a.eval o).run C.P w= .ok (.round l r.fn ((r.params.zip (args.toList.map a.eval).toArray).foldl (fun tmps (t,a)=>tmps.setIfInBounds t a) r.tmps) r.assign r.body) w:=by
 have e:(args.toList.map a.eval).toArray= #[]++args.map a.eval++ #[]:=by
  apply Wb4
  simp
 have hs:(#[]++args.map a.eval++ #[]).size=r.params.size:=by simpa using hn
 rw[e];simp only[execOp,ho,resolve,hf,Deferred.ofValue,cm];have:=run_yield (P:=C.P) hh hs
 simpa [invoke]using this
theorem me{p:Option Prop}{q:Prop}(h:IF p q):(∀p',p=some p'->p')/\q:=by
 cases p with
 |none=>exact⟨fun _ e=>by simp at e,h⟩
 |some p=>exact⟨fun p' e=>Option.some.inj e▸h.1,h.2⟩
theorem QS{xt e:TypeId}(hu:C.P.underlying xt=some (.slice e))(x y:Operand)(ad:Option Addr)(l c:Nat):
 (do eqGuard .eql xt x y (.slice ad l c) (.slice none 0 0);binOp .eql xt (.slice ad l c) (.slice none 0 0):Sem Value).run C.P w= .ok (.bool ad.isNone) w/\
 (do eqGuard .neq xt x y (.slice ad l c) (.slice none 0 0);binOp .neq xt (.slice ad l c) (.slice none 0 0):Sem Value).run C.P w= .ok (.bool (!ad.isNone)) w:=by
 constructor<;>simp[eqGuard,binOp,run_equal_slice_nil w xt e ad l c hu]
theorem K7{o:Oper}{s:St}{k:St->Prop}(hk:DZ C o s k)(hE:Ext B bL Ψ)(hi:aD C.P B w0 Ψ β s.heap w)(hf:aQ Ψ β (s.top::s.below) (a::As))
 (hS:fI bL W a0 a) (hW:∀t,o.dst=some t->t∈W):∃v,(execOp a.eval o).run C.P w= .ok (.value v) w/\jc C B w0 bL As W a0 k (a.put o.dst v) w:=by
 have hfr:=bf hf;obtain⟨dst,op,ty,pos,after,guard⟩:=o;unfold DZ at hk;simp only at hk hW
 split at hk
 ·rename_i op xt x y yt;split at hk
  ·rename_i tid he hy;have hyv:a.eval y= .slice none 0 0:=by
    have:=bU hfr y
    rw[hy]at this;exact this
   split at hk
   ·rename_i e xs hl;obtain⟨ad,cap,hxv,_,_,h3⟩:=oX hi (bU hfr x) hl;obtain⟨r1,r2⟩:=QS (C:=C) (w:=w) (cO he) x y ad xs.length cap;have hnil:ad.isNone=true->xs=[]:=by
     intro h;rcases h3 with h3|⟨_,g,off,_,rfl,_⟩
     ·exact h3
     ·cases h
    split at hk
    ·refine⟨.bool ad.isNone,?_,Ψ,β,_,hE,by rw[cu];exact hi,cq hf (fP.2 rfl),hS.put hW,hk ad.isNone hnil⟩
     simp only[execOp,hxv,hyv];rw[dX r1]
    ·refine⟨.bool (!ad.isNone),?_,Ψ,β,_,hE,by rw[cu];exact hi,cq hf (fP.2 rfl),hS.put hW,hk ad.isNone hnil⟩
     simp only[execOp,hxv,hyv];rw[dX r2]
    ·exact hk.elim
   ·exact hk.elim
  ·exact hk.elim
 ·exact hk.elim
theorem K8{o:Oper}{s:St}{k:St->Prop}(hk:Kz C o s k)(hE:Ext B bL Ψ)(hi:aD C.P B w0 Ψ β s.heap w)(hf:aQ Ψ β (s.top::s.below) (a::As))
 (hS:fI bL W a0 a) (hW:∀t,o.dst=some t->t∈W):∃v,(execOp a.eval o).run C.P w= .ok (.value v) w/\jc C B w0 bL As W a0 k (a.put o.dst v) w:=by
 have hfr:=bf hf;obtain⟨dst,op,ty,pos,after,guard⟩:=o;unfold Kz at hk;simp only at hk hW
 split at hk
 ·rename_i t m i ok;split at hk
  ·exact hk.elim
  ·rename_i b et Eb;split at hk
   ·rename_i j x z hj hx hz;split at hk
    ·rename_i es hg;obtain⟨kt,hu,tI⟩:=kO Eb;have hm:=bU hfr m;rw[hj]at hm;obtain⟨g,ms,cl,Ec,bV,hh,hB,hes,hrs,hok⟩:=K6 hi hg hm;obtain⟨hiv,hxo,hxt⟩:=I6 hx (bU hfr i);rw[<-hxt]at tI;obtain⟨r,hfind,hr⟩:=(Bm hxo es ms.toList 0 hes hrs hok).2 _ _ _ hk;obtain⟨ti,zv,hti,YN,rfl⟩:=fJ hz;have hck:∀e n,(Instr.checkKey e (n+1) kt x.v).run C.P w= .ok () w:=fun e n=>run_checkKey tI (k:=x.v) (by cases x<;>exact (by first|rfl|trivial)) e n
     have fin:∀(vv:Value) (v:AV) (is:Bool),aE Ψ β v vv->k (s.put dst (Ze ok v is))->(execOp a.eval {dst:=dst,op:=.lookup t m i ok,type:=ty,pos:=pos,after:=after,guard:=guard}).run C.P w= .ok (.value (if ok then .tuple #[vv,.bool is] else vv)) w->
      ∃v,(execOp a.eval {dst:=dst,op:=.lookup t m i ok,type:=ty,pos:=pos,after:=after,guard:=guard}).run C.P w= .ok (.value v) w/\jc C B w0 bL As W a0 k (a.put dst v) w:=fun vv v is hv hk hrun=>by
      refine⟨_,hrun,Ψ,β,_,hE,by rw[cu];exact hi,cq (av:=Ze ok v is) hf ?_,hS.put hW,hk⟩
      cases ok with
      |false=>exact hv
      |true=>exact⟨[vv,.bool is],rfl,vv,_,rfl,hv,.bool is,[],rfl,by cases is<;>rfl,rfl⟩
     cases r with
     |none=>
      refine fin zv _ false (iU zv) hr ?_
      cases ok<;>simp[execOp,Instr.lookup,Ec,hiv,run_underlying hu,MapKept.run_getObj_map hh,hck,run_findKey tI hfind,zeroValue,typeInfo,hti,YN,Result.andThen]
     |some p=>
      obtain⟨i0,v⟩:=p;obtain⟨av,hav,hkf⟩:=hr;refine fin v av true hav hkf ?_
      cases ok<;>simp[execOp,Instr.lookup,Ec,hiv,run_underlying hu,MapKept.run_getObj_map hh,hck,run_findKey tI hfind,Result.andThen]
    ·exact hk.elim
   ·exact hk.elim
 ·exact hk.elim
theorem VC{P:Program}{ax:Pr}(hle:bW Ψ ax){k:Nat}{b:aB}(h:cn P B Ψ β w k b):cn P B ax β w k b:=by
 cases b with
 |gone=>trivial
 |log ys Y own xs=>exact jQ h (fun _ h=>h) hle.m (Wan _) fun _ _=>rfl
 |kV ys Y own=>exact jR h (fun _ h=>h) hle.m (Wan _) fun _ _=>rfl
 |cells cs=>
  obtain⟨g,c,e,h1,h2,h3,h4,h5⟩:=h;exact⟨g,c,e,h1,h2,h3,aX hle (fun _ _ h=>h) _ _ h4,h5⟩
 |grow tid e xs=>
  refine h.imp id ?_
  rintro⟨g,cap,cur,h1,h2,h3,h4,h5,h6,h7,h8⟩
  exact⟨g,cap,cur,h1,h2,h3,h4,h5,h6,h7,eS (aR hle e) _ _ h8⟩
 |fH es=>
  obtain⟨g,ms,cl,h1,h2,h3,h4,h5,h6⟩:=h;exact⟨g,ms,cl,h1,h2,h3,h4,aX hle (fun _ _ h=>h) _ _ h5,h6⟩
 |dmap e m=>
  obtain⟨g,ms,cl,h1,h2,h3,h4,h5⟩:=h;exact⟨g,ms,cl,h1,h2,h3,jl hle h4,h5⟩
 |eo e last left=>
  obtain⟨g,gm,ms,cl,seen,h1,h2,h3,h4,h5,h6⟩:=h;exact⟨g,gm,ms,cl,seen,h1,h2,h3,hle _ _ h4,jl hle h5,h6.1,h6.2.1,h6.2.2.imp id fun ⟨p,x,s',a1,a2,a3,a4,a5,a6⟩=>⟨p,x,s',a1,a2,a3,a4,a5,Nz hle a6⟩⟩
 |loop f p ph ts=>
  obtain⟨l,r,h1,h2,h3,h4,h5,h6,h7,h8⟩:=h;exact⟨l,r,h1,h2,h3,h4,aX hle (fun _ _ h=>h) _ _ h5,hle _ _ h6,fun i v hv=>hle _ _ (h7 i v hv),h8⟩
 |dat t x=>
  obtain⟨g,c,e,h1,h2,h3,h4⟩:=h;exact⟨g,c,e,h1,h2,h3,aR hle t x _ h4⟩
 |eu n rest=>exact h
 |xb x=>
  obtain⟨v,h1,h2,h3⟩:=h;exact⟨v,h1,TL hle h2,h3⟩
theorem dG:∀(ks:List Nat) {s:St} {Ψ:Pr},aD C.P B w0 Ψ β s.heap w->aQ Ψ β (s.top::s.below) As->
 ∃ax,Ext B Ψ ax/\aD C.P B w0 ax β (s.c8 ks).heap w/\aQ ax β ((s.c8 ks).top::(s.c8 ks).below) As/\cc ax β s.heap ks
 |[],s,Ψ,hi,hf=>⟨Ψ,Ext.refl _ _,hi,hf,cc.nil⟩
 |k::ks,s,Ψ,hi,hf=>by
  obtain⟨fE,wF,hi1,o8,TU,hkeep⟩:=sx hi hf k;obtain⟨mZ,DD,hi2,H6,hr2⟩:=dG ks hi1 o8;refine⟨mZ,wF.trans DD,hi2,H6,fun j hj tid e xs hg u hu=>?_⟩
  by_cases cY:j=k
  ·exact K0 DD.1 (TU j (by simp[cY]) tid e xs hg u hu)
  ·rcases List.mem_cons.1 hj with h|h
   ·exact absurd h cY
   ·exact hr2 j h tid e xs (hkeep j tid e xs cY hg) u hu
theorem Bo{j:Nat}{tid:TypeId}{e:Ty}{xs:List e.den}{v:Value}(hi:aD C.P B w0 Ψ β h w)(hg:aH h j= .xb (.xx tid e xs))(hv:β[j]?=some v):
 ∃g o cap cur,v= .slice (some ⟨g,o,none⟩) xs.length cap/\w.heap[g]?=some (.cells cur tid (0,0))/\xs.length<=cap/\cap<=maxLen/\o+cap*e.cells<=cur.size/\gu (reads Ψ e) xs ((cur.toList.drop o).take (xs.length*e.cells))/\¬B g/\g<w.heap.size:=by
 obtain⟨u,h1,h2,h3⟩:=hi.blk j _ (aC hg (by simp))
 rw[hv]at h1;cases h1;obtain⟨g,o,cap,cur,rfl,h4,h5,h6,h7,h8⟩:=h2;exact⟨g,o,cap,cur,rfl,h4,h5,h6,h7,h8,(h3 g ⟨_,_,_,rfl⟩).1,(h3 g ⟨_,_,_,rfl⟩).2⟩
theorem oB{g o n cap g':Nat}{tid:TypeId}{e:Ty}{xs:List e.den}(h:gV (.slice (some ⟨g,o,none⟩) n cap) g' (.xx tid e xs)):g'=g:=by
 obtain⟨o',n',c',h⟩:=h;simp only[Value.slice.injEq,Option.some.injEq,Addr.mk.injEq]at h;exact h.1.1.symm
theorem TV{s:St}{j:Nat}{tid:TypeId}{e:Ty}{xs ys:List e.den}{u u0:Value}{g:Nat}(hi:aD C.P B w0 Ψ β s.heap w)(hf:aQ Ψ β (s.top::s.below) (a::As))(hj:aH s.heap j= .xb (.xx tid e xs))(hu0:β[j]?=some u0)
 (hg0:gV u0 g (.xx tid e xs)) (hg:w.grownBy w' (some g)) (hone:u.oneCell'=true) (hx:XR Ψ w' u (.xx tid e ys)) (hB:∀g',gV u g' (.xx tid e ys)->(g'=g\/w.heap.size<=g')/\g'<w'.heap.size):
 aD C.P B w0 Ψ (β.set j u) (II s j (.xb (.xx tid e ys))).heap w'/\aQ Ψ (β.set j u) ((II s j (.xb (.xx tid e ys))).top::(II s j (.xb (.xx tid e ys))).below) (a::As)/\aE Ψ (β.set j u) (.sl j) u:=by
 have hk:=aC hj (by simp)
 obtain⟨v,h1,h2,h3⟩:=hi.blk j _ hk;rw[hu0]at h1;cases h1;have hjl:j<β.length:=by
  rcases Wak j β.length with h'|h'
  ·exact h'
  ·rw[Wai h']at hu0;cases hu0
 have hn:(β.set j u)[j]?=some u:=WaC hjl;have hne:=ZO h2;have hnp:∀g,β[j]? ≠some (.pointer (some ⟨g,0,none⟩)):=fun g e=>by rw[hu0]at e;exact hne.2.1 _ (Option.some.inj e)
 have hny:∀l,β[j]? ≠some (cm l):=fun l e=>by rw[hu0]at e;exact hne.2.2 _ (Option.some.inj e)
 refine⟨?_,?_,hn,(ZO hx).1⟩
 ·show aD C.P B w0 Ψ _ (kg j .bJ (bw s.heap j _)) w'
  rw[aZ];refine hi.qg0 hk rfl hnp hny rfl hg (fun g' e=>by cases e;exact⟨_,hu0,hg0⟩) hone ⟨u,hn,hx,fun g' hc=>?_⟩ (fun g' hc=>?_)
  ·refine⟨?_,(hB g' hc).2⟩
   rcases (hB g' hc).1 with e|e
   ·rw[e];exact (h3 g hg0).1
   ·exact QD hi.size e
  ·obtain⟨v',h4,h5⟩:=hc;rw[hn]at h4;cases h4;exact (hB g' h5).1.imp (fun e=>by rw[e]) id
 ·exact uA j .bJ (bW.refl _) (fun _ _=>trivial) (fun i v cY hv=>cB cY hv) (fun g hp=>absurd hp (hnp g)) (fun l hy=>absurd hy (hny l)) _ _ hf
theorem NZ{t tx ty tid:TypeId}{e:Ty}{i:TypeInfo}{z:Value}(hT:Vw C t tid e i z){g o cap:Nat}{cur:Array Value}{xs:List e.den}(hh:w.heap[g]?=some (.cells cur tid (0,0)))
 (hn:xs.length<=cap) (zA:cap<=maxLen) (hcs:o+cap*e.cells<=cur.size) (Vx:gu (reads Ψ e) xs ((cur.toList.drop o).take (xs.length*e.cells))) {x:Value} {ys:List e.den} {news:List Value} (hs:Src C.P e.cells tx x ys.length news w)
 (hd:gu (reads Ψ e) ys news) (hroom:aM C tid (xs.length+ys.length)):
 ∃u w',(Builtin.append_ #[t,tx] ty #[.slice (some ⟨g,o,none⟩) xs.length cap,x]).run C.P w= .ok u w'/\w.grownBy w' (some g)/\u.oneCell'=true/\XR Ψ w' u (.xx tid e (xs++ys))/\
  ∀g',gV u g' (.xx tid e (xs++ys))->(g'=g\/w.heap.size<=g')/\g'<w'.heap.size:=by
 have TQ:((cur.toList.drop o).take (xs.length*e.cells)).length=xs.length*e.cells:=gx (aj e) _ _ Vx;have xK:=aY hh;by_cases hr:xs.length+ys.length<=cap
 ·have hm:(xs.length+ys.length)*e.cells<=cap*e.cells:=WaD _ hr;have hfit:o+xs.length*e.cells+news.length<=cur.size:=by
   rw[hs.newsLen];rw[Nat.add_mul]at hm;omega
  have hst:=run_storeCells_at C.P g (o+xs.length*e.cells) tid news 0 cur w hh (by simp only[Wbu];omega) hs.one
  simp only[Wbu]at hst;have hcells:=hs.cells;refine⟨.slice (some ⟨g,o,none⟩) (xs.length+ys.length) cap,w.setRow g (cur.toList.take (o+xs.length*e.cells)++news++cur.toList.drop (o+xs.length*e.cells+news.length)).toArray,?_,
   ⟨rfl,rfl,rfl,by simp,fun k _ hk=>setRow_other w g k _ (fun e=>hk (by simp[e]))⟩,rfl,?_,fun g' hc=>⟨.inl (oB hc),?_⟩⟩
  ·rw[<-hT.hs]at hst hcells;rw[<-hT.hs];rcases hs.kind with ⟨e',hk⟩|hk<;>simp[Builtin.append_,run_underlying hT.ht,run_underlying hk,sizeOf,typeInfo,hT.hi,hs.len,hr,hcells,Addr.add_lit,hst]
  ·refine⟨g,o,cap,_,by simp,setRow_heap w g cur _ tid _ hh,by simpa using hr,zA,?_,?_⟩
   ·simp only[Wbp,Wad,Waf,List.length_drop,Array.length_toList];omega
   ·have e1:cur.toList.take (o+xs.length*e.cells)=cur.toList.take o++(cur.toList.drop o).take (xs.length*e.cells):=List.take_add;have hto:(cur.toList.take o).length=o:=by rw[Waf,Array.length_toList];omega
    rw[e1];generalize (cur.toList.drop o).take (xs.length*e.cells)=Q at TQ Vx
    generalize cur.toList.drop (o+xs.length*e.cells+news.length)=R
    simp only[Wad,Waj];rw[WcN hto];have e2:(xs.length+ys.length)*e.cells=(Q++news).length:=by rw[Wad,TQ,hs.newsLen,Nat.add_mul]
    rw[<-Waj,e2,Wb5];exact eO _ _ _ _ Vx hd
  ·rw[oB hc];simpa using xK
 ·have hold:(Builtin.firstCells e.cells xs.length (.slice (some ⟨g,o,none⟩) xs.length cap)).run C.P w.drew= .ok ((cur.toList.drop o).take (xs.length*e.cells)).toArray w.drew:=by
   refine run_firstCells_some (P:=C.P) w.drew e.cells xs.length ⟨g,o,none⟩ xs.length cap _ TQ (fun j v hj=>?_)
   rw[Addr.add_lit,World.cell?_drew,bp hh]
   rw[Was]at hj;split at hj
   ·rw[WaZ]at hj;simpa using hj
   ·cases hj
  obtain⟨hrun,hge,hle,hsz,qJ⟩:=sr (ty:=ty) hT (some ⟨g,o,none⟩) xs.length cap _ TQ hold hs (by omega) hroom
  refine⟨_,_,hrun,⟨rfl,rfl,rfl,by simp,fun k hk _=>Below.heap_alloc w.drew _ k hk⟩,rfl,?_,fun g' hc=>?_⟩
  ·refine⟨w.heap.size,0,_,_,by rw[Wad],heap_alloc_new w.drew _,by rw[Wad];exact hge,hle,by rw[hsz];omega,?_⟩
   rw[Wbe,Wad,qJ];exact eO _ _ _ _ Vx hd
  ·rw[oB hc];exact⟨.inr (Wan _),(Array.getElem?_eq_some_iff.1 (heap_alloc_new w.drew _)).1⟩
theorem N0{e:Ty}{ys:List e.den}{tx:TypeId}{y:AV}{v:Value}(hi:aD C.P B w0 Ψ β h w)(hy:aE Ψ β y v)(ht:KB C h e tx y=some ys):
 ∃news,Src C.P e.cells tx v ys.length news w/\gu (reads Ψ e) ys news:=by
 unfold KB at ht;split at ht
 ·rename_i j;split at ht
  ·rename_i tid e' xs hg;split at ht
   ·rename_i t' hu;obtain⟨he,rfl⟩:=bz ht;simp only[Ty.arr.injEq]at he;subst he;obtain⟨g,o,cap,cur,rfl,h1,h2,h3,h4,h5,_⟩:=Bo hi hg hy.1;have TQ:((cur.toList.drop o).take (xs.length*e'.cells)).length=xs.length*e'.cells:=gx (aj e') _ _ h5;refine⟨(cur.toList.drop o).take (xs.length*e'.cells),?_,h5⟩
    refine Src.ofSlice w hu ⟨g,o,none⟩ xs.length cap _ TQ ?_ ?_
    all_goals first
     |(intro k u hk
       rw[Was]at hk;split at hk
       ·rw[WaZ]at hk;rw[Addr.add_lit,bp h1];simpa using hk
       ·cases hk)
     |skip
    exact ql (cN e') _ _ h5
   ·cases ht
  ·cases ht
 ·exact ux hi hy ht
theorem QT{o:Oper}{s:St}{k:St->Prop}(hk:qhT C o s k)(hE:Ext B bL Ψ)(hi:aD C.P B w0 Ψ β s.heap w)(hf:aQ Ψ β (s.top::s.below) (a::As))
 (hS:fI bL W a0 a) (hW:∀t,o.dst=some t->t∈W):∃v w',(execOp a.eval o).run C.P w= .ok (.value v) w'/\jc C B w0 bL As W a0 k (a.put o.dst v) w':=by
 have hfr:=bf hf;obtain⟨dst,op,ty,pos,after,guard⟩:=o;unfold qhT at hk;simp only at hk hW
 split at hk
 ·rename_i args ats;split at hk
  ·rename_i x t hx ht;split at hk
   ·rename_i j e0 hj hu;split at hk
    ·rename_i tid e xs hg;have hm:=bU hfr x;rw[hj]at hm;obtain⟨g,q,cap,cur,hv,h1,h2,h3,h4,h5,h6,h7⟩:=Bo hi hg hm.1;have hargs:args= #[x]:=by rw[<-Wbl (xs:=args),hx]
     have Fy:ats= #[t]:=by rw[<-Wbl (xs:=ats),ht]
     subst hargs Fy;refine⟨.int .i64 xs.length,w,?_,Ψ,β,_,hE,by rw[cu];exact hi,cq hf (aU.2 ⟨rfl,vB (by omega)⟩),hS.put hW,hk⟩
     simp[execOp,resolve,invoke,builtin,Builtin.len_,run_underlying hu,goInt,hv]
    ·exact hk.elim
   ·exact hk.elim
  ·exact hk.elim
 ·rename_i args ats;split at hk
  ·rename_i x y t tx hx ht;split at hk
   ·rename_i j tid hj he;split at hk
    ·rename_i tid' e xs sz z hg hsz hz;split at hk
     ·rename_i ys hys;split at hk
      ·rename_i hc;simp only[Wac,Wag]at hc;obtain⟨⟨rfl,Fh⟩,Qg⟩:=hc;obtain⟨hroom,hk⟩:=hk;have hm:=bU hfr x;rw[hj]at hm;obtain⟨g,q,cap,cur,hv,h1,h2,h3,h4,h5,h6,h7⟩:=Bo hi hg hm.1;obtain⟨i,zv,hT⟩:=Vy he hsz hz Fh Qg;obtain⟨news,hs,hd⟩:=N0 hi (bU hfr y) hys;obtain⟨u,w',hrun,xN,hone,hXR,hcl⟩:=NZ (ty:=ty) hT h1 h2 h3 h4 h5 hs hd hroom;have hargs:args= #[x,y]:=by rw[<-Wbl (xs:=args),hx]
       have Fy:ats= #[t,tx]:=by rw[<-Wbl (xs:=ats),ht]
       subst hargs Fy;obtain⟨k1,k2,k3⟩:=TV hi hf hg (hm.1) (by rw[hv];exact⟨_,_,_,rfl⟩) xN hone hXR hcl
       refine⟨u,w',?_,Ψ,β.set j u,_,hE,by rw[cu];exact k1,cq k2 k3,hS.put hW,hk⟩
       simp[execOp,resolve,invoke,builtin,hv,hrun]
      ·exact hk.elim
     ·exact hk.elim
    ·exact hk.elim
   ·exact hk.elim
  ·exact hk.elim
 ·rename_i t x lo;split at hk
  ·rename_i j l tid hj hl he;split at hk
   ·rename_i tid' e xs sz hg hsz;split at hk
    ·rename_i hc;simp only[Wac,Wag]at hc;obtain⟨rfl,Fh⟩:=hc;obtain⟨⟨h01,h02⟩,hk⟩:=hk;have hm:=bU hfr x;rw[hj]at hm;have hlo:=bU hfr lo;rw[hl]at hlo;obtain⟨hlv,_⟩:=aU.1 hlo;obtain⟨g,q,cap,cur,hv,h1,h2,h3,h4,h5,h6,h7⟩:=Bo hi hg hm.1;have hu:=cO he;obtain⟨n,rfl⟩:∃n:Nat,l=(n:Int):=⟨Int.toNat l,(WbU h01).symm⟩
     simp only[Waw]at hk;have h02:(n:Int)<=(xs.length:Int):=h02;have hnl:n<=xs.length:=by omega
     have hb:(Instr.sliceBounds true xs.length cap (some (.int .i64 (n:Int))) none none).run C.P w= .ok (n,xs.length,cap) w:=by
      obtain⟨hb,_⟩:=cK (C:=C) (w:=w) (isSlice:=true) (len:=xs.length) (cap:=cap) (Ψ:=Ψ) (β:=β) (lo:=some (.d (.int .i64) (n:Int))) (hi:=none) (mx:=none) (l:=some (.int .i64 (n:Int))) (h':=none) (m:=none) (⟨_,rfl,by rw[<-hlv];exact hlo⟩) rfl rfl rfl h01 (by simpa using h02) (by simp) (by simp) h2
      simpa using hb
     have hrun:(execOp a.eval {dst:=dst,op:=.slice t x (some lo) none none,type:=ty,pos:=pos,after:=after,guard:=guard}).run C.P w=
      .ok (.value (.slice (some ⟨g,(if cap=n then q else q+n*sz),none⟩) (xs.length-n) (cap-n))) w:=by
      simp only[execOp];rw[dX (v:=.slice (some ⟨g,(if cap=n then q else q+n*sz),none⟩) (xs.length-n) (cap-n)) (w':=w)]
      simp only[hv,hlv,Wbk,WbG];by_cases hcn:cap=n
      ·subst hcn;simp[Instr.sliceAt,run_underlying hu,Instr.slice,hb,run_sizeOf hsz]
      ·simp[Instr.sliceAt,run_underlying hu,Instr.slice,hb,run_sizeOf hsz,hcn,Addr.add_lit]
     have hXR:XR Ψ w (.slice (some ⟨g,(if cap=n then q else q+n*sz),none⟩) (xs.length-n) (cap-n)) (.xx tid e (xs.drop n)):=by
      refine⟨g,_,cap-n,cur,by rw[List.length_drop],h1,by rw[List.length_drop];omega,by omega,?_,?_⟩
      ·split
       ·rename_i hcn;rw[hcn,Nat.sub_self,Nat.zero_mul];have:cap*e.cells=n*e.cells:=by rw[hcn]
        omega
       ·have:n*e.cells+(cap-n)*e.cells=cap*e.cells:=by rw[<-Nat.add_mul];congr 1;omega
        rw[<-Fh];omega
      ·split
       ·rename_i hcn;have hx0:xs.drop n=[]:=WbY (by omega)
        rw[hx0];simp[gu]
       ·have:=iJ (aj e) _ _ n h5
        rw[<-Fh,<-List.drop_drop,List.length_drop];have e1:((cur.toList.drop q).take (xs.length*e.cells)).drop (n*e.cells)=((cur.toList.drop q).drop (n*e.cells)).take ((xs.length-n)*e.cells):=by
         rw[Wcz,<-Nat.sub_mul]
        rw[e1]at this;exact this
     obtain⟨k1,k2,k3⟩:=TV hi hf hg (hm.1) (by rw[hv];exact⟨_,_,_,rfl⟩) (World.grownBy.refl w (some g)) rfl hXR (fun g' hc=>by rw[oB hc];exact⟨.inl rfl,h7⟩)
     exact⟨_,w,hrun,Ψ,β.set j _,_,hE,by rw[cu];exact k1,cq k2 k3,hS.put hW,hk⟩
    ·exact hk.elim
   ·exact hk.elim
  ·exact hk.elim
 ·rename_i t x ix;split at hk
  ·rename_i j kd i tid hj hix he;split at hk
   ·rename_i tid' e xs sz hg hsz;split at hk
    ·rename_i hc;have Fh:e.cells=sz:=by simpa [Wag]using hc
     obtain⟨⟨h01,h02⟩,hk⟩:=hk;have hm:=bU hfr x;rw[hj]at hm;have hi2:=bU hfr ix;rw[hix]at hi2;obtain⟨hiv,_⟩:=aU.1 hi2;obtain⟨g,q,cap,cur,hv,h1,h2,h3,h4,h5,h6,h7⟩:=Bo hi hg hm.1;refine⟨.pointer (some ⟨g,q+i.toNat*sz,none⟩),w,?_,Ψ,β,_,hE,by rw[cu];exact hi,cq hf (av:=.tX j sz i) ⟨g,q,xs.length,cap,by rw[<-hv];exact hm.1,h01,h02,rfl⟩,hS.put hW,hk⟩
     simp only[execOp,hv,hiv];rw[dX (v:=.pointer (some ⟨g,q+i.toNat*sz,none⟩)) (w':=w)];rw[mT he hsz h01 h02,Addr.add_lit]
    ·exact hk.elim
   ·exact hk.elim
  ·exact hk.elim
 ·rename_i t ad;split at hk
  ·rename_i j sz i hj;split at hk
   ·rename_i tid e xs ag n hg cU;split at hk
    ·rename_i hc;simp only[Wac,Wag,beq_iff_eq]at hc;obtain⟨⟨hn,hsz⟩,hag⟩:=hc;have hm:=bU hfr ad;rw[hj]at hm;obtain⟨g',o',n',c',bV,h01,h02,hav⟩:=hm;obtain⟨g,q,cap,cur,hv,h1,h2,h3,h4,h5,h6,h7⟩:=Bo hi hg bV;simp only[Value.slice.injEq,Option.some.injEq,Addr.mk.injEq,and_true]at hv;obtain⟨⟨rfl,rfl⟩,rfl,rfl⟩:=hv;have hlt:i.toNat<xs.length:=by omega
     obtain⟨us,kN,aH⟩:=nY (aj e) _ _ h5 i.toNat xs[i.toNat] (Waa hlt);have hD:xs.getD i.toNat (dflt e)=xs[i.toNat]:=by simp[Wab,Waa hlt]
     have vD:=jb (β:=β) kN hag (fun hf=>by rw[aj e _ _ kN];have:=(cQ cU).2.2 hf;omega)
     refine⟨_,w,?_,Ψ,β,_,hE,by rw[cu];exact hi,cq hf (av:=.d e (xs.getD i.toNat (dflt e))) (by rw[hD];exact vD),hS.put hW,hk⟩
     simp only[execOp,hav];rw[dX];rw[gY];refine bN cU (by rw[aj e _ _ kN];omega) (fun p u hp=>?_)
     rw[bp h1];have:=aH p u hp
     rw[Was]at this;split at this
     ·rw[WaZ]at this;rw[<-hsz,hn,Wa2];simpa using this
     ·cases this
    ·exact hk.elim
   ·exact hk.elim
  ·exact hk.elim
 ·exact hk.elim
theorem Bp(x:Int):∀(m:List (Int×Int×List (List Int))) (l:List MapEntry) (i:Nat),Vh w m l->
 (eY m x= -1/\Instr.findNow (.int .i64) (.int .i64 x) l i=some none)\/(0<=eY m x/\(∃p∈m,p.2.1=eY m x)/\∃j,Instr.findNow (.int .i64) (.int .i64 x) l i=some (some (j,.map (some (eY m x).toNat))))
 |[],l,i,h=>.inl ⟨rfl,by
    have h:l=[]:=h;subst h;rfl⟩
 |p::m,_,i,⟨u,l,rfl,hk,h0,hv,_,hl⟩=>by
  by_cases hx:p.1=x
  ·have e:eY (p::m) x=p.2.1:=by simp[eY,hx]
   rw[e];exact .inr ⟨h0,⟨p,Waq,rfl⟩,i,by simp[Instr.findNow,Instr.sameNow,hk,hx,hv]⟩
  ·have hb:(x==p.1)=false:=by simpa using fun h=>hx h.symm
   have e:eY (p::m) x=eY m x:=by simp[eY,hx]
   rw[e];rcases Bp x m l (i+1) hl with ⟨h1,h2⟩|⟨h1,⟨q,hq,h2⟩,j,h3⟩
   ·exact .inl ⟨h1,by simp only[Instr.findNow,hk,Instr.sameNow,if_true,hb];exact h2⟩
   ·exact .inr ⟨h1,⟨q,Wal _ hq,h2⟩,j,by simp only[Instr.findNow,hk,Instr.sameNow,if_true,hb];exact h3⟩
theorem Br{x:List Int}(hx:∀c∈x,0<=c/\c<=255):∀(ts:List (List Int)) (l:List MapEntry) (i:Nat),txR ts l->
 (x∉ts/\Instr.findNow .string (.string (strOf x)) l i=some none)\/(x∈ts/\∃(j:Nat) (u:MapEntry),Instr.findNow .string (.string (strOf x)) l i=some (some (i+j,.bool true))/\l[j]?=some u/\u.key= .string (strOf x)/\u.val= .bool true)
 |[],l,i,h=>.inl ⟨Wbg,by
    have h:l=[]:=h;subst h;rfl⟩
 |t::ts,_,i,⟨u,l,rfl,hk,ht,hv,hl⟩=>by
  have hs:=QN hx ht;by_cases e:x=t
  ·subst e;refine .inr ⟨Waq,0,u,?_,rfl,hk,hv⟩
   rw[decide_eq_true rfl]at hs;simp only[Instr.findNow,hk,hs];simp[hv]
  ·rw[decide_eq_false e]at hs;have hstep:Instr.findNow .string (.string (strOf x)) (u::l) i=Instr.findNow .string (.string (strOf x)) l (i+1):=by
    simp only[Instr.findNow,hk,hs]
   rcases Br hx ts l (i+1) hl with ⟨h1,h2⟩|⟨h1,j,u',h2,h3,h4,h5⟩
   ·exact .inl ⟨fun h=>(List.mem_cons.1 h).elim e h1,hstep.trans h2⟩
   ·exact .inr ⟨Wal _ h1,j+1,u',by rw[hstep,h2,show i+1+j=i+(j+1) by omega],by simpa using h3,h4,h5⟩
theorem N1{x:List Int}{u:MapEntry}(hk:u.key= .string (strOf x))(hx:∀c∈x,0<=c/\c<=255)(hv:u.val= .bool true):∀{ts:List (List Int)} {l:List MapEntry},txR ts l->txR (ts++[x]) (l++[u])
 |[],l,h=>by
  have h:l=[]:=h;subst h;exact⟨u,[],rfl,hk,hx,hv,rfl⟩
 |_::_,_,⟨u',l',rfl,h1,h2,h3,h4⟩=>⟨u',l'++[u],rfl,h1,h2,h3,N1 hk hx hv h4⟩
theorem TW:∀{ts:List (List Int)} {l:List MapEntry} {j:Nat} {u u':MapEntry},txR ts l->l[j]?=some u->u'.key=u.key->u'.val= .bool true->txR ts (l.set j u')
 |[],l,j,u,u',h,hj,_,_=>by
  have h:l=[]:=h;subst h;simp at hj
 |_::_,_,0,u,u',⟨x,l',rfl,h1,h2,h3,h4⟩,hj,hk,hv=>by
  simp only[Wbh,Option.some.injEq]at hj;subst hj;exact⟨u',l',rfl,by rw[hk,h1],h2,hv,h4⟩
 |_::_,_,j+1,u,u',⟨x,l',rfl,h1,h2,h3,h4⟩,hj,hk,hv=>⟨x,l'.set j u',rfl,h1,h2,h3,TW h4 (by simpa using hj) hk hv⟩
theorem uD{g:Int}{t:List Int}(hg:g<0):∀{m:List (Int×Int×List (List Int))} {l:List MapEntry},Vh w m l->kj m g t=false
 |[],_,_=>rfl
 |p::m,_,⟨u,l,rfl,hk,h0,hv,_,hl⟩=>by
  unfold kj;rw[if_neg (by omega)]
  exact uD hg hl
theorem N2{t:List Int}:∀{m:List (Int×Int×List (List Int))} {p:Int×Int×List (List Int)},(m.map fun p=>p.2.1).Nodup->p∈m->kj m p.2.1 t=decide (t∈p.2.2)
 |q::m,p,hn,hp=>by
  simp only[Wat,Wb9]at hn;unfold kj;rcases List.mem_cons.1 hp with e|e
  ·rw[e,if_pos rfl]
  ·rw[if_neg (fun e'=>hn.1 (by rw[e'];exact List.mem_map.2 ⟨p,e,rfl⟩))]
   exact N2 hn.2 e
theorem vH{g:Int}{t:List Int}:∀(m:List (Int×Int×List (List Int))),(ko m g t).map (fun p=>p.2.1)=m.map fun p=>p.2.1
 |[]=>rfl
 |p::m=>by
  unfold ko;split
  ·rfl
  ·simp only[Wat,vH m]
theorem TX{g:Nat}{x:List Int}{ms':Array MapEntry}{YL:Nat}(hg:w'.heap[g]?=some (.map ms' YL))(qip:∀k,k≠g->w'.heap[k]?=w.heap[k]?):
 ∀{m:List (Int×Int×List (List Int))} {l:List MapEntry},Vh w m l->(m.map fun p=>p.2.1).Nodup->(∀p∈m,p.2.1=(g:Int)->txR (KA p.2.2 x) ms'.toList)->Vh w' (ko m (g:Int) x) l
 |[],_,h,_,_=>h
 |p::m,_,⟨u,l,e,hk,h0,hv,⟨ms,cl,h4,h5⟩,hl⟩,hn,hp=>by
  simp only[Wat,Wb9]at hn;unfold ko;split
  ·rename_i hpg;refine⟨u,l,e,hk,h0,hv,⟨ms',YL,?_,hp p Waq hpg⟩,zq hl fun q hq h0q=>qip _ fun e'=>hn.1 ?_⟩
   ·show w'.heap[p.2.1.toNat]?=_
    rw[show p.2.1.toNat=g by omega];exact hg
   ·exact List.mem_map.2 ⟨q,hq,by show q.2.1=p.2.1;omega⟩
  ·rename_i hpg;exact⟨u,l,e,hk,h0,hv,⟨ms,cl,(qip _ (by omega)).trans h4,h5⟩,TX hg qip hl hn.2 fun q hq=>hp q (Wal _ hq)⟩
theorem N3{u:MapEntry}{n g:Int}{ms:Array MapEntry}{cl:Nat}(hk:u.key= .int .i64 n)(h0:0<=g)(hv:u.val= .map (some g.toNat))(hh:w.heap[g.toNat]?=some (.map ms cl))(ht:ms.toList=[]):
 ∀{m:List (Int×Int×List (List Int))} {l:List MapEntry},Vh w m l->Vh w (m++[(n,g,[])]) (l++[u])
 |[],l,h=>by
  have h:l=[]:=h;subst h;exact⟨u,[],rfl,hk,h0,hv,⟨ms,cl,hh,ht⟩,rfl⟩
 |_::_,_,⟨u',l',rfl,h1,h2,h3,h4,h5⟩=>⟨u',l'++[u],rfl,h1,h2,h3,h4,N3 hk h0 hv hh ht h5⟩
theorem Bs:∀(h:List aB) (i:Nat) {j:Nat} {m:List (Int×Int×List (List Int))},Qs h i=some (j,m)->∃k,j=i+k/\h[k]?=some (.xb (.jP m))
 |[],_,_,_,e=>by simp[Qs]at e
 |b::h,i,j,m,e=>by
  unfold Qs at e;split at e
  ·cases e
  ·rename_i b' l hl;simp only[List.cons.injEq]at hl;obtain⟨rfl,rfl⟩:=hl;simp only[Option.some.injEq,Prod.mk.injEq]at e;obtain⟨rfl,rfl⟩:=e;exact⟨0,rfl,rfl⟩
  ·rename_i b' l _ hl;simp only[List.cons.injEq]at hl;obtain⟨rfl,rfl⟩:=hl;obtain⟨k,h1,h2⟩:=Bs _ _ e;exact⟨k+1,by omega,h2⟩
theorem TY{j:Nat}{mm:List (Int×Int×List (List Int))}(hi:aD C.P B w0 Ψ β h w)(hj:h[j]?=some (.xb (.jP mm))):
 ∃g ms cl,β[j]?=some (.map (some g))/\w.heap[g]?=some (.map ms cl)/\Vh w mm ms.toList/\(∀p∈mm,p.2.1≠(g:Int))/\(mm.map fun p=>p.2.1).Nodup/\∀q,gV (.map (some g)) q (.jP mm)->¬B q/\q<w.heap.size:=by
 obtain⟨v,h1,⟨g,ms,cl,rfl,h2,h3,h4,h5⟩,h6⟩:=hi.blk j _ hj;exact⟨g,ms,cl,h1,h2,h3,h4,h5,h6⟩
theorem aD.qiq{j j' g:Nat}{b b' bi:aB}(hi:aD C.P B w0 Ψ β h w)(hj:h[j]?=some b)(hj':h[j']?=some bi)(hne:j≠j')(hnl:b.Bd=false)(hc:af β j g b)(xN:w.grownBy w' (some g))
 (hcl:∀q,af β j q b'->af β j q b\/af β j' q bi) (hnew:cn C.P B Ψ β w' j b'):aD C.P B w0 Ψ β ((h.set j b').set j' .gone) w':=by
 have hi1:=hi.mY (w':=w') (b':=.gone) hj hnl hc xN (fun g' tG=>tG.elim) trivial
 have hlj:=eW hj;have qo4:=eW hj';have at_:∀{i:Nat} {x:aB},((h.set j b').set j' .gone)[i]?=some x->x= .gone\/(i=j/\x=b')\/(i≠j/\i≠j'/\h[i]?=some x):=by
  intro i x hx;by_cases e:i=j'
  ·subst e;rw[WaC (by rw[WaX];exact qo4)]at hx
   exact .inl (Option.some.inj hx).symm
  ·rw[War (Wa0 e)]at hx;by_cases e2:i=j
   ·subst e2;rw[WaC hlj]at hx;exact .inr (.inl ⟨rfl,(Option.some.inj hx).symm⟩)
   ·rw[War (Wa0 e2)]at hx;exact .inr (.inr ⟨e2,e,hx⟩)
 have old:∀{q:Nat},af β j q b'->∀i x,i≠j->i≠j'->h[i]?=some x->af β i q x->False:=fun hq i x e1 e2 hx hcx=>by
  rcases hcl _ hq with h1|h1
  ·exact hi.sep i j x b _ e1 hx hj hcx h1
  ·exact hi.sep i j' x bi _ e2 hx hj' hcx h1
 refine⟨hi1.low,hi1.size,hi1.prom,hi1.own,by simp[hi.len],hi1.one,fun i x hx=>?_,fun i x q hx hcx ad had hsp=>?_,fun i k x y q hik hx hy hcx hcy=>?_,hi1.gQ⟩
 ·rcases at_ hx with rfl|⟨rfl,rfl⟩|⟨e1,e2,h1⟩
  ·trivial
  ·exact hnew
  ·exact hi1.blk i x (by rw[War (Wa0 e1)];exact h1)
 ·rcases at_ hx with rfl|⟨rfl,rfl⟩|⟨e1,e2,h1⟩
  ·exact hcx.elim
  ·rcases hcl q hcx with h1|h1
   ·exact hi.free _ b q hj h1 ad had hsp
   ·exact hi.free _ bi q hj' h1 ad had hsp
  ·exact hi.free i x q h1 hcx ad had hsp
 ·rcases at_ hx with rfl|⟨rfl,rfl⟩|⟨e1,e2,h1⟩
  ·exact hcx.elim
  ·rcases at_ hy with rfl|⟨rfl,rfl⟩|⟨e3,e4,h2⟩
   ·exact hcy.elim
   ·exact hik rfl
   ·exact old hcx k y e3 e4 h2 hcy
  ·rcases at_ hy with rfl|⟨rfl,rfl⟩|⟨e3,e4,h2⟩
   ·exact hcy.elim
   ·exact old hcy i x e1 e2 h1 hcx
   ·exact hi.sep i k x y q hik h1 h2 hcx hcy
theorem QU{g:Int}{v:Value}(h:aE Ψ β (.oM g) v):(g<0/\v= .map none)\/(0<=g/\v= .map (some g.toNat)):=by
 have h:v=if g<0 then .map none else .map (some g.toNat):=h
 split at h
 ·exact .inl ⟨by assumption,h⟩
 ·exact .inr ⟨by omega,h⟩
theorem N4{o:Oper}{s:St}{k:St->Prop}(hk:Zf C o s k)(hE:Ext B bL Ψ)(hi:aD C.P B w0 Ψ β s.heap w)(hf:aQ Ψ β (s.top::s.below) (a::As))
 (hS:fI bL W a0 a) (hW:∀t,o.dst=some t->t∈W):∃n v w',(execOp a.eval o).run C.P w= .ok n w'/\(n= .value v\/(n= .skip/\v=undef))/\jc C B w0 bL As W a0 k (a.put o.dst v) w':=by
 have hfr:=bf hf;obtain⟨dst,op,ty,pos,after,guard⟩:=o;unfold Zf at hk;simp only at hk hW
 split at hk
 ·rename_i t m i;split at hk
  ·rename_i j et n hm hkm hix;split at hk
   ·rename_i mm ti hg hti;split at hk
    ·rename_i YN;obtain⟨kt,hu,tI⟩:=kO hkm;have hm':=bU hfr m;rw[hm]at hm';have hi':=bU hfr i;rw[hix]at hi';obtain⟨hiv,_⟩:=aU.1 hi';obtain⟨g,ms,cl,bV,hh,hnm,hne,o7,hcl⟩:=TY hi (aC hg (by simp))
     have Ec:a.eval m= .map (some g):=by have:=hm'.1;rw[bV]at this;exact (Option.some.inj this).symm
     have fin:∀vv:Value,aE Ψ β (.oM (eY mm n)) vv->(execOp a.eval {dst:=dst,op:=.lookup t m i false,type:=ty,pos:=pos,after:=after,guard:=guard}).run C.P w= .ok (.value vv) w->
      ∃n' v w',(execOp a.eval {dst:=dst,op:=.lookup t m i false,type:=ty,pos:=pos,after:=after,guard:=guard}).run C.P w= .ok n' w'/\(n'= .value v\/(n'= .skip/\v=undef))/\jc C B w0 bL As W a0 k (a.put dst v) w':=fun vv hv hrun=>
      ⟨_,vv,w,hrun,.inl rfl,Ψ,β,_,hE,by rw[cu];exact hi,cq hf hv,hS.put hW,hk⟩
     rcases Bp n mm ms.toList 0 hnm with ⟨h1,h2⟩|⟨h1,_,p,h2⟩
     ·refine fin (.map none) (by show _=_;rw[h1];rfl) ?_
      simp[execOp,Instr.lookup,Ec,hiv,run_underlying hu,MapKept.run_getObj_map hh,run_checkKey tI (k:=.int .i64 n) rfl,run_findKey tI h2,zeroValue,typeInfo,hti,YN,Result.andThen]
     ·refine fin (.map (some (eY mm n).toNat)) (by show _=_;rw[if_neg (by omega)]) ?_
      simp[execOp,Instr.lookup,Ec,hiv,run_underlying hu,MapKept.run_getObj_map hh,run_checkKey tI (k:=.int .i64 n) rfl,run_findKey tI h2,Result.andThen]
    ·exact hk.elim
   ·exact hk.elim
  ·rename_i g et x hm hkm hix;split at hk
   ·rename_i jj mm ti hg hti;split at hk
    ·rename_i YN;obtain⟨hor,hk⟩:=hk;obtain⟨kt,hu,tI⟩:=kO hkm;have hm':=bU hfr m;rw[hm]at hm';have hi':=bU hfr i;rw[hix]at hi';obtain⟨hiv,hxb,_⟩:=gX.1 hi';obtain⟨q,hq,hgq⟩:=Bs _ _ hg;rw[WaO]at hq;subst hq;obtain⟨g0,ms,cl,bV,hh,hnm,hne,o7,hcl⟩:=TY hi hgq;have fin:∀b:Bool,kj mm g x=b->(execOp a.eval {dst:=dst,op:=.lookup t m i false,type:=ty,pos:=pos,after:=after,guard:=guard}).run C.P w= .ok (.value (.bool b)) w->
      ∃n' v w',(execOp a.eval {dst:=dst,op:=.lookup t m i false,type:=ty,pos:=pos,after:=after,guard:=guard}).run C.P w= .ok n' w'/\(n'= .value v\/(n'= .skip/\v=undef))/\jc C B w0 bL As W a0 k (a.put dst v) w':=fun b hb hrun=>
      ⟨_,.bool b,w,hrun,.inl rfl,Ψ,β,_,hE,by rw[cu];exact hi,cq hf (av:=.d .bool (kj mm g x)) (fP.2 (by rw[hb])),hS.put hW,hk⟩
     rcases QU hm' with ⟨h0,Ec⟩|⟨h0,Ec⟩
     ·refine fin false (uD h0 hnm) ?_
      have hf0:Instr.findNow .string (.string (strOf x)) ([]:List MapEntry) 0=some none:=rfl;simp[execOp,Instr.lookup,Ec,hiv,run_underlying hu,run_checkKey tI (k:=.string (strOf x)) trivial,run_findKey tI hf0,zeroValue,typeInfo,hti,YN,Result.andThen]
     ·rcases hor with hor|⟨p,hp,hpg⟩
      ·omega
      ·obtain⟨_,ms',YL,TZ,htx⟩:=D5 hnm p hp;rw[hpg]at TZ;have hb:kj mm g x=decide (x∈p.2.2):=by rw[<-hpg];exact N2 o7 hp
       rcases Br hxb p.2.2 ms'.toList 0 htx with ⟨h1,h2⟩|⟨h1,jx,u,h2,_⟩
       ·refine fin false (by rw[hb,decide_eq_false h1]) ?_
        simp[execOp,Instr.lookup,Ec,hiv,run_underlying hu,MapKept.run_getObj_map TZ,run_checkKey tI (k:=.string (strOf x)) trivial,run_findKey tI h2,zeroValue,typeInfo,hti,YN,Result.andThen]
       ·refine fin true (by rw[hb,decide_eq_true h1]) ?_
        simp[execOp,Instr.lookup,Ec,hiv,run_underlying hu,MapKept.run_getObj_map TZ,run_checkKey tI (k:=.string (strOf x)) trivial,run_findKey tI h2,Result.andThen]
    ·exact hk.elim
   ·exact hk.elim
  ·exact hk.elim
 ·rename_i t m i v;split at hk
  ·rename_i j et n hm hkm hix;split at hk
   ·rename_i mm j' hg hv;split at hk
    ·rename_i hg';obtain⟨hab,hk⟩:=hk;obtain⟨kt,hu,tI⟩:=kO hkm;have hm':=bU hfr m;rw[hm]at hm';have hi':=bU hfr i;rw[hix]at hi';have AS:=bU hfr v;rw[hv]at AS;obtain⟨hiv,_⟩:=aU.1 hi';have hjs:=aC hg (by simp)
     have qah:=aC hg' (by simp)
     obtain⟨g,ms,cl,bV,hh,hnm,hne,o7,hcl⟩:=TY hi hjs;have Ec:a.eval m= .map (some g):=by have:=hm'.1;rw[bV]at this;exact (Option.some.inj this).symm
     obtain⟨g',ms',YL,hvv,oY,TZ,T0,hes,_,_⟩:=K6 hi hg' AS;have qo5:ms'.toList=[]:=by simpa using hes
     have qit:af β j' g' (.fH []):=oY;have hjj:j≠j':=fun e=>by
      subst e;rw[hjs]at qah;cases qah
     have hgg:g≠g':=fun e=>hi.sep j j' _ _ g hjj hjs qah ⟨_,bV,.inl rfl⟩ (by rw[e];exact qit)
     have hfresh:∀p∈mm,p.2.1≠(g':Int):=fun p hp e=>hi.sep j j' _ _ g' hjj hjs qah ⟨_,bV,.inr ⟨p,hp,e⟩⟩ qit
     have hk':=hk (g':Int) (by omega) hfresh
     rcases Bp n mm ms.toList 0 hnm with ⟨h1,h2⟩|⟨h1,_,p,h2⟩
     ·let w1:World:={w with heap:=w.heap.setIfInBounds g (.map (ms.push {key:=.int .i64 n,val:=.map (some g'),born:=cl}) (cl+1))}
      have hst:=MapKept.heap_set (o':=.map (ms.push {key:=.int .i64 n,val:=.map (some g'),born:=cl}) (cl+1)) hh;have hsz:w1.heap.size=w.heap.size:=by simp[w1]
      have qo6:Vh w1 mm ms.toList:=zq hnm fun p hp h0=>hst.2 _ fun e=>hne p hp (by omega)
      have hx:XR Ψ w1 (.map (some g)) (.jP (mm++[(n,(g':Int),[])])):=by
       refine⟨g,_,_,rfl,hst.1,?_,?_,?_⟩
       ·rw[Wb3];exact N3 (ms:=ms') (cl:=YL) rfl (by omega) (by simp) (by
         show w1.heap[(g':Int).toNat]?=_
         rw[Waw,hst.2 _ (Wa0 hgg)];exact TZ) qo5 qo6
       ·intro p hp;rcases List.mem_append.1 hp with hp|hp
        ·exact hne p hp
        ·rw[List.mem_singleton.1 hp];show (g':Int)≠(g:Int)
         omega
       ·rw[WaQ,List.nodup_append];refine⟨o7,by simp,fun x hx y hy=>?_⟩
        obtain⟨p,hp,rfl⟩:=List.mem_map.1 hx;simp only[Wat,WbN,Wbs]at hy;rw[hy];exact hfresh p hp
      have qai:∀q,gV (.map (some g)) q (.jP (mm++[(n,(g':Int),[])]))->gV (.map (some g)) q (.jP mm)\/q=g':=by
       rintro q (hq|⟨p,hp,hq⟩)
       ·exact .inl (.inl hq)
       ·rcases List.mem_append.1 hp with hp|hp
        ·exact .inl (.inr ⟨p,hp,hq⟩)
        ·rw[List.mem_singleton.1 hp]at hq;exact .inr (by simp only at hq;omega)
      refine⟨.skip,undef,w1,?_,.inr ⟨rfl,rfl⟩,Ψ,β,_,hE,?_,cq (s:={s with heap:=bw (bw s.heap j (.xb (.jP (mm++[(n,(g':Int),[])])))) j' .gone}) hf (av:=.lO) rfl,hS.put hW,hk'⟩
      ·simp only[execOp];exact oz (by simp[w1,Ec,hiv,hvv,Instr.mapUpdate,run_underlying hu,MapKept.run_getObj_map hh,run_checkKey tI (k:=.int .i64 n) rfl,run_findKey tI h2,MapKept.run_setObj_map _ hh,Result.andThen])
      ·rw[cu];show aD C.P B w0 Ψ β (bw (bw s.heap j _) j' .gone) w1
       rw[aZ,aZ];refine hi.qiq (g:=g) hjs qah hjj rfl ⟨_,bV,.inl rfl⟩ ⟨rfl,rfl,rfl,by simp[w1],fun q _ hq=>hst.2 q fun e=>hq (by rw[e])⟩ (fun q hq=>?_) ⟨_,bV,hx,fun q hq=>?_⟩
       ·obtain⟨v1,e1,e2⟩:=hq;rw[bV]at e1;cases e1;rcases qai q e2 with e3|e3
        ·exact .inl ⟨_,bV,e3⟩
        ·rw[e3];exact .inr qit
       ·rw[hsz];rcases qai q hq with e3|e3
        ·exact hcl q e3
        ·rw[e3];exact⟨T0,aY TZ⟩
     ·omega
    ·exact hk.elim
   ·exact hk.elim
  ·rename_i g et x hm hkm hix;have core:∀(jj:Nat) (mm:List (Int×Int×List (List Int))),Qs s.heap 0=some (jj,mm)->a.eval v= .bool true->(∃p∈mm,p.2.1=g)->k ({s with heap:=bw s.heap jj (.xb (.jP (ko mm g x)))}.put dst .lO)->
    ∃n v',∃w',(execOp a.eval {dst:=dst,op:=.mapUpdate t m i v,type:=ty,pos:=pos,after:=after,guard:=guard}).run C.P w= .ok n w'/\(n= .value v'\/(n= .skip/\v'=undef))/\jc C B w0 bL As W a0 k (a.put dst v') w':=by
    intro jj mm hg hvv ⟨p,hp,hpg⟩ hk;obtain⟨kt,hu,tI⟩:=kO hkm;have hm':=bU hfr m;rw[hm]at hm';have hi':=bU hfr i;rw[hix]at hi';obtain⟨hiv,hxb,_⟩:=gX.1 hi';obtain⟨q,hq,hgq⟩:=Bs _ _ hg;rw[WaO]at hq;subst hq;obtain⟨g0,ms,cl,bV,hh,hnm,hne,o7,hcl⟩:=TY hi hgq;obtain⟨h0,ms',YL,TZ,htx⟩:=D5 hnm p hp;rw[hpg]at TZ h0;obtain⟨gn,rfl⟩:∃gn:Nat,g=(gn:Int):=⟨g.toNat,by omega⟩
    rw[Waw]at TZ;have Ec:a.eval m= .map (some gn):=by
     rcases QU hm' with ⟨e,_⟩|⟨_,e⟩
     ·omega
     ·rw[e,Waw]
    have hg0:gn≠g0:=fun e=>hne p hp (by rw[hpg,e])
    have fin:∀(ms2:Array MapEntry) (cl2:Nat),txR (KA p.2.2 x) ms2.toList->(Instr.mapUpdate t (.map (some gn)) (.string (strOf x)) (.bool true)).run C.P w= .ok () {w with heap:=w.heap.setIfInBounds gn (.map ms2 cl2)}->
     ∃n v',∃w',(execOp a.eval {dst:=dst,op:=.mapUpdate t m i v,type:=ty,pos:=pos,after:=after,guard:=guard}).run C.P w= .ok n w'/\(n= .value v'\/(n= .skip/\v'=undef))/\jc C B w0 bL As W a0 k (a.put dst v') w':=by
     intro ms2 cl2 qo7 hrun;have hst:=MapKept.heap_set (o':=.map ms2 cl2) TZ;have qo8:=TX (w':={w with heap:=w.heap.setIfInBounds gn (.map ms2 cl2)}) (x:=x) hst.1 (fun q hq=>hst.2 q hq) hnm o7 fun p' hp' e=>by
      have e':p'=p:=by
       have:∀{m:List (Int×Int×List (List Int))},(m.map fun p=>p.2.1).Nodup->p∈m->p'∈m->p'=p:=by
        intro m hn h1 h2;induction m with
        |nil=>cases h1
        |cons z m ih=>
         simp only[Wat,Wb9]at hn;rcases List.mem_cons.1 h1 with e1|e1<;>rcases List.mem_cons.1 h2 with e2|e2
         ·rw[e1,e2]
         ·exact absurd (List.mem_map.2 ⟨p',e2,by rw[e,<-hpg,e1]⟩) hn.1
         ·exact absurd (List.mem_map.2 ⟨p,e1,by rw[hpg,<-e,e2]⟩) hn.1
         ·exact ih hn.2 e1 e2
       exact this o7 hp hp'
      rw[e'];exact qo7
     have qlV:∀q,gV (.map (some g0)) q (.jP (ko mm (gn:Int) x))->gV (.map (some g0)) q (.jP mm):=by
      rintro q (hq|⟨p',hp',hq⟩)
      ·exact .inl hq
      ·have:p'.2.1∈(ko mm (gn:Int) x).map fun p=>p.2.1:=List.mem_map.2 ⟨p',hp',rfl⟩
       rw[vH]at this;obtain⟨p2,h1,h2⟩:=List.mem_map.1 this;exact .inr ⟨p2,h1,by rw[h2];exact hq⟩
     refine⟨.skip,undef,{w with heap:=w.heap.setIfInBounds gn (.map ms2 cl2)},?_,.inr ⟨rfl,rfl⟩,Ψ,β,_,hE,?_,cq (s:={s with heap:=bw s.heap jj (.xb (.jP (ko mm (gn:Int) x)))}) hf (av:=.lO) rfl,hS.put hW,hk⟩
     ·simp only[execOp,Ec,hiv,hvv];exact oz hrun
     ·rw[cu];show aD C.P B w0 Ψ β (bw s.heap jj _) _
      rw[aZ];refine hi.mY (g:=gn) hgq rfl ⟨_,bV,.inr ⟨p,hp,hpg⟩⟩ ⟨rfl,rfl,rfl,by simp,fun q _ hq=>hst.2 q fun e=>hq (by rw[e])⟩ (fun q hq=>?_) ⟨_,bV,⟨g0,ms,cl,rfl,(hst.2 _ (Wa0 hg0)).trans hh,qo8,?_,by rw[vH];exact o7⟩,fun q hq=>?_⟩
      ·obtain⟨v1,e1,e2⟩:=hq;rw[bV]at e1;cases e1;exact⟨_,bV,qlV q e2⟩
      ·intro p' hp' e;have:p'.2.1∈(ko mm (gn:Int) x).map fun p=>p.2.1:=List.mem_map.2 ⟨p',hp',rfl⟩
       rw[vH]at this;obtain⟨p2,h1,h2⟩:=List.mem_map.1 this;exact hne p2 h1 (by rw[h2];exact e)
      ·have:=hcl q (qlV q hq)
       exact⟨this.1,by simpa using this.2⟩
    rcases Br hxb p.2.2 ms'.toList 0 htx with ⟨h1,h2⟩|⟨h1,jx,u,h2,h3,h4,h5⟩
    ·refine fin (ms'.push {key:=.string (strOf x),val:=.bool true,born:=YL}) (YL+1) ?_ ?_
     ·unfold KA;rw[if_neg h1,Wb3];exact N1 rfl hxb rfl htx
     ·simp[Instr.mapUpdate,run_underlying hu,MapKept.run_getObj_map TZ,run_checkKey tI (k:=.string (strOf x)) trivial,run_findKey tI h2,MapKept.run_setObj_map _ TZ,Result.andThen]
    ·rw[WaO]at h2;have hmj:ms'[jx]?=some u:=by simpa using h3
     refine fin (ms'.modify jx (fun e'=>{e' with key:=.string (strOf x),val:=.bool true})) YL ?_ ?_
     ·unfold KA;rw[if_pos h1,Array.toList_modify,xP _ _ _ _ h3];exact TW htx h3 h4.symm rfl
     ·have hbb:(strOf x==strOf x)=true:=(MapKept.bytes_beq _ _).2 rfl;simp[Instr.mapUpdate,run_underlying hu,MapKept.run_getObj_map TZ,run_checkKey tI (k:=.string (strOf x)) trivial,run_findKey tI h2,MapKept.run_setObj_map _ TZ,Result.andThen,hmj,h4,Instr.keyThatStays,Instr.sameBits,hbb]
   split at hk
   ·rename_i jj mm hg hv;have AS:=bU hfr v;rw[hv]at AS;exact core jj mm hg AS hk.1 hk.2
   ·rename_i jj mm b hg hv;have AS:=bU hfr v;rw[hv]at AS;obtain⟨hb,h1,h2⟩:=hk;subst hb;exact core jj mm hg (fP.1 AS) h1 h2
   ·exact hk.elim
  ·exact hk.elim
 ·rename_i op xt x y yt;split at hk
  ·rename_i g kt et hx hu;have hx':=bU hfr x;rw[hx]at hx';have cI:∀v:Value,a.eval (.const v)=v:=fun v=>rfl
   have run:∀(b:Bool),(a.eval x= .map none/\b=true\/∃q,a.eval x= .map (some q)/\b=false)->
    (do eqGuard .eql xt x (.const (.map none)) (a.eval x) (.map none);binOp .eql xt (a.eval x) (.map none):Sem Value).run C.P w= .ok (.bool b) w/\
    (do eqGuard .neq xt x (.const (.map none)) (a.eval x) (.map none);binOp .neq xt (a.eval x) (.map none):Sem Value).run C.P w= .ok (.bool (!b)) w:=by
    rintro b (⟨e,rfl⟩|⟨q,e,rfl⟩)<;>rw[e]<;>constructor<;>simp[eqGuard,binOp,run_equal_map_nil w xt _ _ _ hu]
   have hb:a.eval x= .map none/\decide (g<0)=true\/∃q,a.eval x= .map (some q)/\decide (g<0)=false:=by
    rcases QU hx' with ⟨e,h1⟩|⟨e,h1⟩
    ·exact .inl ⟨h1,decide_eq_true e⟩
    ·exact .inr ⟨_,h1,decide_eq_false (by omega)⟩
   obtain⟨r1,r2⟩:=run _ hb;split at hk
   ·refine⟨_,.bool (decide (g<0)),w,?_,.inl rfl,Ψ,β,_,hE,by rw[cu];exact hi,cq hf (av:=.d .bool (decide (g<0))) (fP.2 rfl),hS.put hW,hk⟩
    simp only[execOp,cI];rw[dX r1]
   ·refine⟨_,.bool (!decide (g<0)),w,?_,.inl rfl,Ψ,β,_,hE,by rw[cu];exact hi,cq hf (av:=.d .bool (!decide (g<0))) (fP.2 rfl),hS.put hW,hk⟩
    simp only[execOp,cI];rw[dX r2]
   ·exact hk.elim
  ·exact hk.elim
 ·exact hk.elim
theorem N5{call:gk}(hc:fc C call){o:Oper}{s:St}{k:St->Prop}(hk:zg C call o s k)(hE:Ext B bL Ψ)(hi:aD C.P B w0 Ψ β s.heap w)(hf:aQ Ψ β (s.top::s.below) (a::As))
 (hS:fI bL W a0 a) (hW:∀t,o.dst=some t->t∈W) {ro:Option Nat} {Q:Exit->Act->World->Prop} (Ij:∀ch a w,uB C B w0 bL ch w->qK W a0 a->Q (.panic ch) a w):o.wpIn (Fw ro) 0 C.P a w (jc C B w0 bL As W a0 k) Q:=by
 have hfr:=bf hf;have o7:∀c,o.op≠ .defer c:=fun c hc=>by
  unfold zg at hk;rw[hc]at hk;simp[DC,qhU,DZ,qgQ,isLit,KC,qlj,qlk,hc]at hk
 refine⟨fun _ _=>trivial,?_⟩
 rw[Oper.semAt_eq _ _ _ o7];unfold zg at hk;split at hk
 ·unfold qgR at hk;split at hk
  ·rename_i t len parts ho;split at hk
   ·rename_i r hr;obtain⟨cs,us,tid,rfl,hrun,bu,h1,hle⟩:=ZX (C:=C) (a:=a) (fr:=s.top) (w:=w) (fun p _=>bU hfr p.2) hr
    have nP:(execOp a.eval o).run C.P w= .ok (.value (.slice (some ⟨w.heap.size,0,none⟩) len len)) (w.alloc (.cells us.toArray tid)):=by
     rw[execOp,ho];simp[hrun]
    rw[nP];have hi':=vG hi tid (c:=us.toArray) (cs:=cs) (by simpa using bu) (by simpa using h1)
    refine⟨Ψ,β++[.pointer (some ⟨w.heap.size,0,none⟩)],{s with heap:=s.heap++[aB.cells cs]}.put o.dst (.DT (hlen s.heap) len),hE,?_,cq (s:={s with heap:=s.heap++[aB.cells cs]}) (bF (bW.refl _) (aS _) _ _ hf) ?_,hS.put hW,hk⟩
    ·rw[cu];exact hi'
    ·refine⟨w.heap.size,?_,hle,rfl⟩
     rw[cF,<-hi.len];simp
   ·exact hk.elim
  ·exact hk.elim
 split at hk
 ·unfold qll at hk;split at hk
  ·rename_i t len parts ho;obtain⟨fE,wF,hi1,o8,_⟩:=dG (cS (tw s.top (seconds parts.toList))) hi hf;replace hi1:aD C.P B w0 fE β (nW s parts).heap w:=hi1
   replace o8:aQ fE β ((nW s parts).top::(nW s parts).below) (a::As):=o8
   replace hE:=hE.trans wF
   have qiu:=bf o8;split at hk
   ·rename_i r tid hr he;obtain⟨e,xs,us,tid',rfl,he',hrun,h2,Ic,kN,hle⟩:=lq (C:=C) (a:=a) (fr:=(nW s parts).top) hi1 (fun p _=>bU qiu p.2) hr
    have e1:tid'=tid:=by rw[he']at he;exact Option.some.inj he
    subst e1;simp only at hk
    split at hk
    ·rename_i hl;have hl:1<=len:=Wb0 hl;have nP:(execOp a.eval o).run C.P w= .ok (.value (.slice (some ⟨w.heap.size,0,none⟩) len len)) (w.alloc (.cells us.toArray tid')):=by
      rw[execOp,ho];simp[hrun]
     rw[nP];have hn:(β++[Value.slice (some ⟨w.heap.size,0,none⟩) len len])[(nW s parts).heap.length]?=some (.slice (some ⟨w.heap.size,0,none⟩) len len):=by
      rw[<-hi1.len];simp
     have hcl:∀g,af (β++[Value.slice (some ⟨w.heap.size,0,none⟩) len len]) (nW s parts).heap.length g (.grow tid' e xs)->w.heap.size<=g:=by
      rintro g ⟨n,cap,_,hc⟩
      rw[hn]at hc;simp at hc
      omega
     have eV:cn C.P B fE (β++[Value.slice (some ⟨w.heap.size,0,none⟩) len len]) (w.alloc (.cells us.toArray tid')) (nW s parts).heap.length (.grow tid' e xs):=by
      refine .inr ⟨w.heap.size,len,us.toArray,by rw[hn,Ic],by omega,gW hi1.size,heap_alloc_new w _,by omega,hle,by simp[kN],?_⟩
      rw[Ic,Wcj,Wap (by omega)]
      exact h2
     have done:∀b:aB,aD C.P B w0 fE (β++[Value.slice (some ⟨w.heap.size,0,none⟩) len len]) ((nW s parts).heap++[b]) (w.alloc (.cells us.toArray tid'))->k ({nW s parts with heap:=(nW s parts).heap++[b]}.put o.dst (.sl (hlen (nW s parts).heap)))->
      jc C B w0 bL As W a0 k (a.put o.dst (.slice (some ⟨w.heap.size,0,none⟩) len len)) (w.alloc (.cells us.toArray tid')):=fun b hi' hk=>by
      refine⟨fE,β++[Value.slice (some ⟨w.heap.size,0,none⟩) len len],{nW s parts with heap:=(nW s parts).heap++[b]}.put o.dst (.sl (hlen (nW s parts).heap)),hE,?_,cq (s:={nW s parts with heap:=(nW s parts).heap++[b]}) (bF (bW.refl _) (aS _) _ _ o8) ?_,hS.put hW,hk⟩
      ·rw[cu];exact hi'
      ·refine⟨?_,by simp[hole]⟩
       rw[cF];exact hn
     cases hql:C.Zg t with
     |false=>
      rw[hql]at hk;exact done _ (hi1.push ((Below.refl _ _).alloc (Wan _) _) rfl eV hcl) hk
     |true=>
      rw[hql]at hk;refine done _ (hi1.push (b:=aB.xb (.xx tid' e xs)) ((Below.refl _ _).alloc (Wan _) _) rfl ⟨_,hn,⟨w.heap.size,0,len,us.toArray,by rw[Ic],heap_alloc_new w _,by omega,hle,by simp[kN],?_⟩,fun g hg=>?_⟩ (fun g hc=>?_)) hk
      ·rw[Ic,Wcj,Wbe,Wap (by omega)]
       exact h2
      ·rw[oB hg];exact⟨gW hi1.size,(Array.getElem?_eq_some_iff.1 (heap_alloc_new w _)).1⟩
      ·obtain⟨v,e1,e2⟩:=hc;rw[hn]at e1;cases e1;rw[oB e2];exact Wan _
    ·exact hk.elim
   ·exact hk.elim
  ·exact hk.elim
 split at hk
 ·rename_i f args ats ho;have hef:=bU hfr f;split at hk
  ·rename_i g cap cI;split at hk
   ·rename_i hg;rw[cI]at hef;obtain⟨vs,Nd,hcap⟩:=hef;rw[FA ho Nd hg];have hargs:=ia (Ψ:=Ψ) (β:=β) (fr:=s.top) (a:=a) args.toList fun x _=>bU hfr x
    refine⟨fun h=>(by cases ro<;>cases h),(oA ro _ (hc.2 g _ s _ hk hg B w0 Ψ β (a::As) _ w hi hf (eZ _ _ _ _ hargs hcap))).mono ?_⟩
    rintro e w' (⟨v,ax,β',av,s',rfl,jF,hi',hf',hv,hk'⟩|⟨ch,rfl,hp⟩)
    ·exact⟨ax,β',s'.put o.dst av,hE.trans jF,by rw[cu];exact hi',cq hf' hv,hS.put hW,hk'⟩
    ·exact Ij ch a w' (hp.anti hE) hS.defs
   ·exact hk.elim
  ·rename_i j cI;have hargs:=ia (Ψ:=Ψ) (β:=β) (fr:=s.top) (a:=a) args.toList fun x _=>bU hfr x
   obtain⟨l,r,bV,hh,hlen,FB⟩:=hc.1 j _ s _ hk B w0 Ψ β (a::As) _ w hi hf hargs;rw[cI]at hef;obtain⟨l',oY,Nd⟩:=hef;rw[bV]at oY;simp only[cm,Option.some.injEq,Value.func.injEq,Fn.yield.injEq,and_true]at oY;subst oY;rw[qad ho Nd hh hlen];refine⟨fun h=>(by cases ro<;>cases h),RoundIn.mono (F:=Fw ro) (n:=0) (by cases ro<;>exact FB) ?_⟩
   rintro e w' ⟨v,ax,β',av,s',rfl,jF,hi',hf',hv,hk'⟩
   exact⟨ax,β',s'.put o.dst av,hE.trans jF,by rw[cu];exact hi',cq hf' hv,hS.put hW,hk'⟩
  ·rename_i g first cI;split at hk
   ·rename_i hg;rw[cI]at hef;obtain⟨vs,Nd,hcap⟩:=hef;rw[VB ho Nd hg];have hargs:=ia (Ψ:=Ψ) (β:=β) (fr:=s.top) (a:=a) args.toList fun x _=>bU hfr x
    refine⟨fun h=>(by cases ro<;>cases h),(oA ro _ (hc.2 g _ s _ hk hg B w0 Ψ β (a::As) _ w hi hf (eZ _ _ _ _ hcap hargs))).mono ?_⟩
    rintro e w' (⟨v,ax,β',av,s',rfl,jF,hi',hf',hv,hk'⟩|⟨ch,rfl,hp⟩)
    ·exact⟨ax,β',s'.put o.dst av,hE.trans jF,by rw[cu];exact hi',cq hf' hv,hS.put hW,hk'⟩
    ·exact Ij ch a w' (hp.anti hE) hS.defs
   ·exact hk.elim
  ·exact hk.elim
 ·split at hk
  ·rename_i r hr;obtain⟨hp,hk'⟩:=me hk;obtain⟨n,v,ax,β',w',hrun,hn,jF,hi',hf',hv⟩:=NY hi hf (fun x _=>bU hfr x) hr hp
   rw[hrun];have hpost:jc C B w0 bL As W a0 k (a.put o.dst v) w':=by
    refine⟨ax,β',(s.apply r).put o.dst r.v,hE.trans jF,?_,cq ?_ hv,hS.put hW,hk'⟩
    ·rw[cu];unfold St.apply;cases Ig:r.kill with
     |none=>rw[Ig]at hi';exact hi'
     |some j=>rw[Ig]at hi';exact hi'
    ·unfold St.apply;cases Ig:r.kill with
     |none=>rw[Ig]at hf';exact hf'
     |some j=>rw[Ig]at hf';exact hf'
   rcases hn with rfl|⟨rfl,rfl⟩
   ·exact hpost
   ·exact hpost
  ·unfold qhU at hk;split at hk
   ·obtain⟨v,w',hrun,hpost⟩:=QT hk hE hi hf hS hW;rw[hrun];exact hpost
   split at hk
   ·obtain⟨n,v,w',hrun,hn,hpost⟩:=N4 hk hE hi hf hS hW;rw[hrun];rcases hn with rfl|⟨rfl,rfl⟩
    ·exact hpost
    ·exact hpost
   split at hk
   ·unfold Tr at hk;split at hk
    ·rename_i j hj;split at hk
     ·rename_i r hr;obtain⟨hp,hk'⟩:=me hk;obtain⟨fE,wF,hi1,o8,_,_⟩:=sx hi hf j;obtain⟨n,v,ax,β',w',hrun,hn,jF,hi',hf',hv⟩:=NY hi1 o8 (fun x _=>bU (bf o8) x) hr hp
      rw[hrun];have hpost:jc C B w0 bL As W a0 k (a.put o.dst v) w':=by
       refine⟨ax,β',((s.freeze j).apply r).put o.dst r.v,(hE.trans wF).trans jF,?_,cq ?_ hv,hS.put hW,hk'⟩
       ·rw[cu];unfold St.apply;cases Ig:r.kill with
        |none=>rw[Ig]at hi';exact hi'
        |some j=>rw[Ig]at hi';exact hi'
       ·unfold St.apply;cases Ig:r.kill with
        |none=>rw[Ig]at hf';exact hf'
        |some j=>rw[Ig]at hf';exact hf'
      rcases hn with rfl|⟨rfl,rfl⟩
      ·exact hpost
      ·exact hpost
     ·exact hk.elim
    ·exact hk.elim
   ·split at hk
    ·obtain⟨v,hrun,hpost⟩:=K8 hk hE hi hf hS hW;rw[hrun];exact hpost
    ·exact hk.elim
    ·exact hk.elim
    ·exact hk.elim
    ·obtain⟨v,hrun,hpost⟩:=K7 hk hE hi hf hS hW;rw[hrun];exact hpost
theorem xS{all:Array Oper}{j:Nat}{t:Tmp}(hg:qU all j=some t)(tmps:Array Value):yielded all tmps j=(match tmps[t]? with|some (.bool b)=>some b|_=>none):=by
 unfold qU at hg;split at hg
 ·rename_i o ho;simp[yielded,ho,hg]
  cases tmps[t]? with
  |none=>rfl
  |some x=>cases x<;>rfl
 ·cases hg
theorem getD_eq{t:Tmp}(tmps:Array Value):tmps.toList.getD t undef=(tmps[t]?).getD undef:=by
 simp[Wab]
theorem xT{s:St}{t:Tmp}{b:Bool}(hfr:wS Ψ β s.top a)(hr:∀v,aE Ψ β (bX s.top t) v->v= .bool b):a.tmps[t]?=some (.bool b):=by
 have h1:=hr _ (c9 _ _ hfr.2 t);rw[getD_eq]at h1;cases hx:a.tmps[t]? with
 |none=>rw[hx]at h1;simp[undef]at h1
 |some x=>rw[hx]at h1;simp at h1;rw[h1]
theorem dy{s:St}{t:Tmp}{av:AV}{v:Value}(hf:aQ Ψ β (s.top::s.below) (a::As))(ht:a.tmps[t]?=some v)(hv:aE Ψ β av v):
 aQ Ψ β ((s.put (some t) av).top::(s.put (some t) av).below) (a::As):=by
 have:=cq (d:=some t) hf hv
 have e:a.put (some t) v=a:=by
  simp only[Act.put];cases a with
  |mk tmps defers=>
   simp only[Act.mk.injEq,and_true];apply Wb4
   simp only[Wb1];apply List.fm
   simpa using ht
 rwa [e]at this
where
 List.fm {l:List Value} {i:Nat} {v:Value} (h:l[i]?=some v):l.set i v=l:=by
  apply WbF
  intro j;by_cases hj:i=j
  ·subst hj;have hlt:i<l.length:=by
    rcases Wak i l.length with h'|h'
    ·exact h'
    ·rw[Wai h']at h;cases h
   rw[WaC hlt,h]
  ·rw[War hj]
theorem Bt{call:gk}(hc:fc C call){m:Mode}{ro:Option Nat}(all:Array Oper){Q:Exit->Act->World->Prop}(tl:List Oper):∀(rest:List Oper) {s:St} {k:St->Prop} {Ψ:Pr} {β:List Value} {a:Act} {w:World},qF C call m all rest s k->
 Ext B bL Ψ->aD C.P B w0 Ψ β s.heap w->aQ Ψ β (s.top::s.below) (a::As)->fI bL W a0 a->(∀o∈rest,∀t,o.dst=some t->t∈W)->(∀a w,jc C B w0 bL As W a0 k a w->wpListIn (Fw ro) 0 C.P all Q tl a w)->(∀ch a w,uB C B w0 bL ch w->qK W a0 a->Q (.panic ch) a w)->wpListIn (Fw ro) 0 C.P all Q (rest++tl) a w
 |[],s,k,Ψ,β,a,w,hk,hE,hi,hf,hS,hW,hQ,Ij=>hQ a w ⟨Ψ,β,s,hE,hi,hf,hS,hk⟩
 |o::rest,s,k,Ψ,β,a,w,hk,hE,hi,hf,hS,hW,hQ,Ij=>by
  have hWo:=hW o (by simp)
  have hWr:∀o∈rest,∀t,o.dst=some t->t∈W:=fun o' ho'=>hW o' (by simp[ho'])
  have hfr:=bf hf;have run:∀{s':St},zg C call o s' (fun s''=>qF C call m all rest s'' k)->s'.heap=s.heap->aQ Ψ β (s'.top::s'.below) (a::As)->o.wpIn (Fw ro) 0 C.P a w (wpListIn (Fw ro) 0 C.P all Q (rest++tl)) Q:=by
   intro s' hst hh hf';have hw:=N5 (bL:=bL) (W:=W) (a0:=a0) hc hst hE (by rw[hh];exact hi) hf' hS hWo (ro:=ro) (Q:=Q) Ij
   refine Oper.wpIn_mono (fun a' w' hp=>?_) hw
   obtain⟨ax,β',s'',jF,hi',qo9,rP,hk'⟩:=hp;exact Bt hc all tl rest hk' jF hi' qo9 rP hWr hQ Ij
  have skip:∀{s':St},qF C call m all rest (s'.put o.dst .lO) k->s'.heap=s.heap->aQ Ψ β (s'.top::s'.below) (a::As)->(∀f,o.about C.P w a.eval=some f->(Fw ro).fn f)/\wpListIn (Fw ro) 0 C.P all Q (rest++tl) (a.put o.dst undef) w:=by
   intro s' hst hh hf';exact⟨fun _ _=>trivial,Bt hc all tl rest hst hE (by rw[cu,hh];exact hi) (cq hf' rfl) (hS.put hWo) hWr hQ Ij⟩
  unfold qF at hk;rw[WaP];unfold wpListIn;split at hk
  ·rename_i hgd;rw[if_pos (by simp[Region.wanted,hgd])]
   exact run hk rfl hf
  ·rename_i j want hgd;split at hk
   ·exact hk.elim
   ·rename_i t hgt;have e8:∀b:Bool,a.tmps[t]?=some (.bool b)->Region.wanted o (yielded all a.tmps)=(b==want):=by
     intro b hb;simp[Region.wanted,hgd,xS hgt,hb]
    split at hk
    ·rename_i QV;have hb:=xT (t:=t) (b:=true) hfr (by rw[QV];exact fun _ h=>h)
     split at hk
     ·rw[if_pos (by rw[e8 _ hb];rfl)];exact run hk rfl hf
     ·rw[if_neg (by rw[e8 _ hb];simp)];exact skip hk rfl hf
    ·rename_i hff;have hb:=xT (t:=t) (b:=false) hfr (by rw[hff];exact fun _ h=>h)
     split at hk
     ·rw[if_pos (by rw[e8 _ hb];rfl)];exact run hk rfl hf
     ·rw[if_neg (by rw[e8 _ hb];simp)];exact skip hk rfl hf
    ·rename_i hu;have T1:Region.wanted o (yielded all a.tmps)=false:=by
      have h1:=c9 _ _ hfr.2 t;rw[hu]at h1;have h2:(a.tmps[t]?).getD undef=undef:=by rw[<-getD_eq];exact h1
      simp only[Region.wanted,hgd,xS hgt];cases hx:a.tmps[t]? with
      |none=>simp
      |some x=>rw[hx]at h2;simp at h2;subst h2;simp[undef]
     rw[if_neg (by rw[T1];simp)]
     exact skip hk rfl hf
    ·rename_i b hbv;have hb:=xT (t:=t) (b:=b) hfr (by rw[hbv];exact fun _ h=>fP.1 h)
     split at hk
     ·cases b with
      |true=>
       rw[if_pos (by rw[e8 _ hb];rfl)]
       exact run ((eC hk).1 rfl) rfl (dy hf hb rfl)
      |false=>
       rw[if_neg (by rw[e8 _ hb];simp)]
       exact skip ((eC hk).2 rfl) rfl (dy hf hb rfl)
     ·cases b with
      |true=>
       rw[if_neg (by rw[e8 _ hb];simp)]
       exact skip ((eC hk).1 rfl) rfl (dy hf hb rfl)
      |false=>
       rw[if_pos (by rw[e8 _ hb];rfl)]
       exact run ((eC hk).2 rfl) rfl (dy hf hb rfl)
    ·exact hk.elim
theorem mg{call:gk}(hc:fc C call){m:Mode}{ro:Option Nat}(all:Array Oper){Q:Exit->Act->World->Prop}(rest:List Oper){s:St}{k:St->Prop}{Ψ:Pr}{β:List Value}{a:Act}{w:World}(hk:qF C call m all rest s k)
 (hE:Ext B bL Ψ) (hi:aD C.P B w0 Ψ β s.heap w) (hf:aQ Ψ β (s.top::s.below) (a::As)) (hS:fI bL W a0 a) (hW:∀o∈rest,∀t,o.dst=some t->t∈W) (hQ:∀a w,jc C B w0 bL As W a0 k a w->Q .normal a w) (Ij:∀ch a w,uB C B w0 bL ch w->qK W a0 a->Q (.panic ch) a w):wpListIn (Fw ro) 0 C.P all Q rest a w:=by
 have h:=Bt (ro:=ro) (Q:=Q) hc all [] rest hk hE hi hf hS hW (fun a w hp=>hQ a w hp) Ij
 rwa [WaA]at h
end Go.AM
namespace Go.AM
open Go.RowKit
variable {B:Nat->Prop} {w0:World} {C:Ctx} {Ψ bL:Pr} {β:List Value} {h:List aB} {w w':World} {fr:List AV} {a a0:Act} {As:List Act} {W:List Nat}
def VD(top:List AV)(d:Option Tmp)(v:AV):List AV:=
 match d with
 |some t=>eN top t v
 |none=>top
def fF(all:Array Oper)(o:Oper)(top Ik:List AV)(b:Bool):Prop:=
 match o.guard with
 |none=>Ik=top/\b=true
 |some (j,want)=>∃t,qU all j=some t/\
  ((bX top t= .tt/\Ik=top/\b=(true==want))\/(bX top t= .ff/\Ik=top/\b=(false==want))\/(bX top t= .lO/\Ik=top/\b=false)\/
    (bX top t= .d .bool true/\Ik=eN top t .tt/\b=(true==want))\/(bX top t= .d .bool false/\Ik=eN top t .ff/\b=(false==want)))
def Yld(C:Ctx)(h:List aB)(o:Oper)(top:List AV)(av:AV):Prop:=
 (∃f args ats g sp x,o.op= .call {callee:=.value f,args,argTypes:=ats}/\ev top f= .fn g []/\C.spec g=some sp/\(mN sp.rs=true\/gB (rQ sp.ps (tw top args.toList))=true)/\jh C g=true/\
   lJ h sp.ps (bif mN sp.rs then A7 h (rQ sp.ps (tw top args.toList)) else rQ sp.ps (tw top args.toList))=some x/\sp.pre x/\av=nV sp.rs (sp.post x))\/
 (neutral o.op=true/\∃r,DC C top h o.op=some r/\(∀p,r.need=some p->p)/\av=r.v)
theorem VE{o:Oper}{s:St}{k:St->Prop}(hk:Zh C o s k):∃av,Yld C s.heap o s.top av/\k (s.put o.dst av):=by
 unfold Zh at hk;split at hk
 ·rename_i f args ats ho;split at hk
  ·rename_i g cI;split at hk
   ·rename_i sp hsp;split at hk
    ·rename_i hc;simp only[Wac,WaL]at hc;split at hk
     ·rename_i x hx;exact⟨_,.inl ⟨f,args,ats,g,sp,x,ho,cI,hsp,hc.1,hc.2,hx,hk.1,rfl⟩,hk.2⟩
     ·exact hk.elim
    ·exact hk.elim
   ·exact hk.elim
  ·exact hk.elim
 ·split at hk
  ·rename_i hn;split at hk
   ·rename_i r hr;obtain⟨hp,hk'⟩:=me hk;exact⟨_,.inr ⟨hn,r,hr,hp,rfl⟩,hk'⟩
   ·exact hk.elim
  ·exact hk.elim
def qlW(C:Ctx)(h:List aB)(o:Oper)(top:List AV)(b:aB):Prop:=
 ∃f args ats g gs x,o.op= .call {callee:=.value f,args,argTypes:=ats}/\ev top f= .fn g []/\C.fresh g=some gs/\gB (tw top args.toList)=true/\jh C g=true/\
  lJ h gs.ps (tw top args.toList)=some x/\gs.pre x/\b= .grow gs.tid gs.e (gs.post x)
def qlX(C:Ctx)(o:Oper)(b:aB):Prop:=Tt C o=some b
def qlY(C:Ctx)(h:List aB)(o:Oper)(top:List AV)(b:aB):Prop:=
 ∃(args:Array Operand) (ats:Array TypeId) (e:Ty) (y:AV) (t tx tid:TypeId) (sz:Nat) (z:AV) (ys:List e.den),o.op= .call {callee:=.builtin .append,args,argTypes:=ats}/\tw top args.toList=[.fs e [],y]/\ats.toList=[t,tx]/\C.vp=false/\
  elemOf C t=some tid/\C.size tid=some sz/\C.zero tid=some z/\uc C h e tx y=some ys/\e.cells=sz/\qE e z=true/\aM C tid ys.length/\b= .grow tid e ys
def rq(n:Nat)(dh:Nat->aB):List aB:=(List.range n).map dh
theorem I9(n:Nat)(e:aB)(dh:Nat->aB):rq (n+1) (fun i=>match i with|0=>e|i+1=>dh i)=e::rq n dh:=by
 unfold rq;rw[WcG];simp
def rws(n:Nat)(fW:Nat->Option (Nat×aB))(uE:List (Nat×aB)):List (Nat×aB):=uE++(List.range n).filterMap fW
theorem N6(n:Nat)(r:Option (Nat×aB))(fW:Nat->Option (Nat×aB))(uE:List (Nat×aB)):rws (n+1) (fun i=>match i with|0=>r|i+1=>fW i) uE=rws n fW (upd uE r):=by
 unfold rws;rw[WcG,WbK,List.filterMap_map];cases r with
 |none=>rfl
 |some p=>simp only[upd,Waj,WcJ];rfl
def qeD(C:Ctx)(H:HW)(i:Nat)(ex:List aB)(uE:List (Nat×aB))(o:Oper)(top:List AV)(av:AV)(b:aB)(rw:Option (Nat×aB)):Prop:=
 (xB H.st i=true/\av= .lO/\b= .gone/\o.dst=none/\∃r,rw=some r/\notKey r.1 uE=true/\IJ C (hlen H.h0) ex o {top:=top,below:=[],heap:=H.heap i}=some r)\/
 (xB H.st i=false/\rw=none/\((Yld C (H.heap i) o top av/\b= .gone)\/(qlW C (H.heap i) o top b/\av= .sl (hlen H.h0+i))\/(qlX C o b/\av= .own (hlen H.h0+i) 0)\/(qlY C (H.heap i) o top b/\av= .sl (hlen H.h0+i))))
theorem VF{H:HW}{i:Nat}{ex:List aB}{uE:List (Nat×aB)}{o:Oper}{s:St}{k:aB->Option (Nat×aB)->St->Prop}(hk:CE C (hlen H.h0) ex uE (xB H.st i) o (hlen H.h0+i) {s with heap:=H.heap i} k):
 ∃av b r,qeD C H i ex uE o s.top av b r/\k b r (({s with heap:=H.heap i}:St).put o.dst av):=by
 unfold CE at hk;split at hk
 ·rename_i hS;split at hk
  ·rename_i r hr;have fk:o.dst=none:=by
    unfold IJ at hr;split at hr
    ·assumption
    ·cases hr
   split at hk
   ·rename_i hnk;refine⟨.lO,.gone,some r,.inl ⟨hS,rfl,rfl,fk,r,rfl,hnk,hr⟩,?_⟩
    rw[fk];exact hk
   ·exact hk.elim
  ·exact hk.elim
 ·rename_i hS;have hS:xB H.st i=false:=by simpa using hS
  split at hk
  ·rename_i g gs args hg;split at hk
   ·rename_i hc;simp only[Wac]at hc;obtain⟨h1,h2⟩:=hc;split at hk
    ·rename_i x hx;unfold qgS at hg;split at hg
     ·rename_i f args' ats ho;split at hg
      ·rename_i g' cI;split at hg
       ·cases hg
       ·split at hg
        ·rename_i gs' hgs;simp only[Option.some.injEq,Prod.mk.injEq]at hg;obtain⟨rfl,rfl,rfl⟩:=hg;exact⟨_,_,none,.inr ⟨hS,rfl,.inr (.inl ⟨⟨f,args',ats,g',gs',x,ho,cI,hgs,h1,h2,hx,hk.1,rfl⟩,rfl⟩)⟩,hk.2⟩
        ·cases hg
      ·cases hg
     ·cases hg
    ·exact hk.elim
   ·exact hk.elim
  ·split at hk
   ·rename_i cs hcs;exact⟨_,_,none,.inr ⟨hS,rfl,.inr (.inr (.inl ⟨hcs,rfl⟩))⟩,hk⟩
   ·split at hk
    ·rename_i p b hp;unfold qgT at hp;split at hp
     ·rename_i args ats ho;split at hp
      ·rename_i e y t tx cI Fy;split at hp
       ·rename_i tid htf hel;split at hp
        ·rename_i sz z ys h1 h2 h3;split at hp
         ·rename_i hc;simp only[Wac,Wag]at hc;simp only[Option.some.injEq,Prod.mk.injEq]at hp;obtain⟨rfl,rfl⟩:=hp;exact⟨_,_,none,.inr ⟨hS,rfl,.inr (.inr (.inr ⟨⟨args,ats,e,y,t,tx,tid,sz,z,ys,ho,cI,Fy,htf,hel,h1,h2,h3,hc.1,hc.2,hk.1,rfl⟩,rfl⟩))⟩,hk.2⟩
         ·cases hp
        ·cases hp
       ·cases hp
      ·cases hp
     ·cases hp
    ·obtain⟨av,h1,h2⟩:=VE hk;exact⟨av,_,none,.inr ⟨hS,rfl,.inl ⟨h1,rfl⟩⟩,h2⟩
structure Trace (C:Ctx) (H:HW) (ex0:List aB) (uE:List (Nat×aB)) (ops:List Oper) (i0:Nat) (top:List AV) (jT n7:Nat->List AV) (vals:Nat->AV) (Ed:Nat->Bool) (dh:Nat->aB) (fW:Nat->Option (Nat×aB)):Prop where
 zero:jT 0=top
 step:∀i o,ops[i]?=some o->fF H.all o (jT i) (n7 i) (Ed i)/\jT (i+1)=VD (n7 i) o.dst (vals i)/\
  (Ed i=true->qeD C H (i0+i) (ex0++rq i dh) (rws i fW uE) o (n7 i) (vals i) (dh i) (fW i))/\(Ed i=false->vals i= .lO/\dh i= .gone/\fW i=none)
theorem Trace.cons{H:HW}{ex0:List aB}{uE:List (Nat×aB)}{o:Oper}{ops:List Oper}{i0:Nat}{top mid:List AV}{v:AV}{b:Bool}{e:aB}{r:Option (Nat×aB)}{jT n7:Nat->List AV}{vals:Nat->AV}{Ed:Nat->Bool}{dh:Nat->aB}{fW:Nat->Option (Nat×aB)}
 (hg:fF H.all o top mid b) (hy:b=true->qeD C H i0 ex0 uE o mid v e r) (hn:b=false->v= .lO/\e= .gone/\r=none) (ht:Trace C H (ex0++[e]) (upd uE r) ops (i0+1) (VD mid o.dst v) jT n7 vals Ed dh fW):
 Trace C H ex0 uE (o::ops) i0 top (fun i=>match i with|0=>top|i+1=>jT i) (fun i=>match i with|0=>mid|i+1=>n7 i) (fun i=>match i with|0=>v|i+1=>vals i) (fun i=>match i with|0=>b|i+1=>Ed i) (fun i=>match i with|0=>e|i+1=>dh i)
  (fun i=>match i with|0=>r|i+1=>fW i) where
 zero:=rfl
 step:=fun i o' ho=>by
  cases i with
  |zero=>
   simp at ho
   subst ho;exact⟨hg,ht.zero,(by simpa [rq,rws]using hy),hn⟩
  |succ i=>
   have:=ht.step i o' (by simpa using ho)
   rw[I9,N6,show i0+(i+1)=i0+1+i by omega,show ex0++e::rq i dh=(ex0++[e])++rq i dh by simp]
   exact this
theorem qeF(s:St)(d:Option Tmp)(v:AV):s.put d v={s with top:=VD s.top d v}:=by cases d<;>rfl
theorem FD{m:Mode}(H:HW){k:St->Prop}:∀(ops:List Oper) (i0:Nat) (ex:List aB) (uE:List (Nat×aB)) (s:St),wD C m H ops i0 ex uE s k->
 ∃jT n7 vals Ed dh fW,Trace C H ex uE ops i0 s.top jT n7 vals Ed dh fW/\k {s with top:=jT ops.length,heap:=wr (H.h0++(ex++rq ops.length dh)) (rws ops.length fW uE)}
 |[],i0,ex,uE,s,hk=>⟨fun _=>s.top,fun _=>s.top,fun _=>.lO,fun _=>true,fun _=>.gone,fun _=>none,⟨rfl,fun i o ho=>by simp at ho⟩,(by have hk:k {s with heap:=wr (H.h0++ex) uE}:=hk;simpa [rq,rws]using hk)⟩
 |o::ops,i0,ex,uE,s,hk=>by
  have go:∀(s1:St) (v:AV) (e:aB) (r:Option (Nat×aB)) (b:Bool),fF H.all o s.top s1.top b->s1.below=s.below->(b=true->qeD C H i0 ex uE o s1.top v e r)->(b=false->v= .lO/\e= .gone/\r=none)->wD C m H ops (i0+1) (ex++[e]) (upd uE r) (s1.put o.dst v) k->
   ∃jT n7 vals Ed dh fW,Trace C H ex uE (o::ops) i0 s.top jT n7 vals Ed dh fW/\k {s with top:=jT (o::ops).length,heap:=wr (H.h0++(ex++rq (o::ops).length dh)) (rws (o::ops).length fW uE)}:=by
   intro s1 v e r b hg hb hy hn hdo;rw[qeF]at hdo;obtain⟨jT,n7,vals,Ed,dh,fW,ht,hk'⟩:=FD H ops _ _ _ _ hdo;simp only[hb]at ht hk';refine⟨_,_,_,_,_,_,ht.cons (e:=e) (r:=r) hg hy hn,?_⟩
   rw[Wae,I9,N6];rw[Waj,WcJ]at hk';exact hk'
  have yes:∀(s1:St),fF H.all o s.top s1.top true->s1.below=s.below->CE C (hlen H.h0) ex uE (xB H.st i0) o (hlen H.h0+i0) {s1 with heap:=H.heap i0} (fun b r s'=>wD C m H ops (i0+1) (ex++[b]) (upd uE r) s' k)->
   ∃jT n7 vals Ed dh fW,Trace C H ex uE (o::ops) i0 s.top jT n7 vals Ed dh fW/\k {s with top:=jT (o::ops).length,heap:=wr (H.h0++(ex++rq (o::ops).length dh)) (rws (o::ops).length fW uE)}:=by
   intro s1 hg hb hst;obtain⟨av,e,r,hy,hdo⟩:=VF hst;exact go {s1 with heap:=H.heap i0} av e r true hg hb (fun _=>hy) (fun e=>by cases e) hdo
  have no:∀(s1:St),fF H.all o s.top s1.top false->s1.below=s.below->wD C m H ops (i0+1) (ex++[.gone]) uE (s1.put o.dst .lO) k->
   ∃jT n7 vals Ed dh fW,Trace C H ex uE (o::ops) i0 s.top jT n7 vals Ed dh fW/\k {s with top:=jT (o::ops).length,heap:=wr (H.h0++(ex++rq (o::ops).length dh)) (rws (o::ops).length fW uE)} :=
   fun s1 hg hb hdo=>go s1 .lO .gone none false hg hb (fun e=>by cases e) (fun _=>⟨rfl,rfl,rfl⟩) hdo
  unfold wD at hk;split at hk
  ·rename_i hgd;exact yes s (by simp[fF,hgd]) rfl hk
  ·rename_i g want hgd;split at hk
   ·exact hk.elim
   ·rename_i t hgt;split at hk
    ·rename_i QV;split at hk
     ·exact yes s (by simp[fF,hgd,hgt,QV]) rfl hk
     ·exact no s (by simp[fF,hgd,hgt,QV]) rfl hk
    ·rename_i QV;split at hk
     ·exact yes s (by simp[fF,hgd,hgt,QV]) rfl hk
     ·exact no s (by simp[fF,hgd,hgt,QV]) rfl hk
    ·rename_i QV;exact no s (by simp[fF,hgd,hgt,QV]) rfl hk
    ·rename_i b QV;split at hk
     ·cases b with
      |true=>exact yes (s.put (some t) .tt) (by simp[fF,hgd,hgt,QV,St.put]) rfl ((eC hk).1 rfl)
      |false=>exact no (s.put (some t) .ff) (by simp[fF,hgd,hgt,QV,St.put]) rfl ((eC hk).2 rfl)
     ·cases b with
      |true=>exact no (s.put (some t) .tt) (by simp[fF,hgd,hgt,QV,St.put]) rfl ((eC hk).1 rfl)
      |false=>exact yes (s.put (some t) .ff) (by simp[fF,hgd,hgt,QV,St.put]) rfl ((eC hk).2 rfl)
    ·exact hk.elim
def lQ(ops:List Oper)(top:List AV)(vals:Nat->AV)(L:Nat->Bool)(t:Nat):AV:=
 match (List.range ops.length).find? (fun i=>L i&&((ops[i]?).bind (·.dst)==some t)) with
 |some i=>vals i
 |none=>bX top t
def Qh(b av:AV):Prop:=∀Ψ β v,aE Ψ β b v->aE Ψ β av v
theorem Qh.refl(b:AV):Qh b b:=fun _ _ _ h=>h
theorem Qh.trans{a b c:AV}(h:Qh a b)(h':Qh b c):Qh a c:=fun Ψ β v hv=>h' Ψ β v (h Ψ β v hv)
theorem Bu{l:List AV}{i j:Nat}{v:AV}:bX (eN l i v) j=if i=j/\i<l.length then v else bX l j:=by
 induction l generalizing i j with
 |nil=>simp[eN]
 |cons x l ih=>cases i<;>cases j<;>simp[eN,bX,ih]
theorem uF(l:List AV)(i:Nat)(v:AV):(eN l i v).length=l.length:=by rw[D4];simp
def uG(ops:List Oper):Prop:=
 ∀(i j:Nat) (oi oj:Oper) (t:Tmp),ops[i]?=some oi->ops[j]?=some oj->oi.dst=some t->oj.dst=some t->i=j
theorem m4{ops:List Oper}{top:List AV}{vals:Nat->AV}{L:Nat->Bool}{t i:Nat}{o:Oper}(hd:uG ops)(hi:ops[i]?=some o)(ht:o.dst=some t)(hL:L i=true):lQ ops top vals L t=vals i:=by
 unfold lQ;cases hf:(List.range ops.length).find? (fun i=>L i&&((ops[i]?).bind (·.dst)==some t)) with
 |none=>
  rw[List.find?_eq_none]at hf
  have hlt:i<ops.length:=by
   rcases Wak i ops.length with h'|h'
   ·exact h'
   ·rw[Wai h']at hi;cases hi
  have:=hf i (List.mem_range.2 hlt)
  simp[hL,hi,ht]at this
 |some j=>
  have h1:=WcO hf;simp only[Wac,beq_iff_eq]at h1;obtain⟨_,h2⟩:=h1;cases hj:ops[j]? with
  |none=>rw[hj]at h2;simp at h2
  |some oj=>
   rw[hj]at h2;simp at h2
   rw[hd i j o oj t hi hj ht h2]
theorem fZ{ops:List Oper}{top:List AV}{vals:Nat->AV}{L:Nat->Bool}{t:Nat}(hn:∀(i:Nat) (o:Oper),ops[i]?=some o->o.dst=some t->L i=false):lQ ops top vals L t=bX top t:=by
 unfold lQ;cases hf:(List.range ops.length).find? (fun i=>L i&&((ops[i]?).bind (·.dst)==some t)) with
 |none=>rfl
 |some j=>
  have h1:=WcO hf;simp only[Wac,beq_iff_eq]at h1;obtain⟨h0,h2⟩:=h1;cases hj:ops[j]? with
  |none=>rw[hj]at h2;simp at h2
  |some oj=>
   rw[hj]at h2;simp at h2
   rw[hn j oj hj h2]at h0;cases h0
theorem CJ{all:Array Oper}{o:Oper}{top Ik:List AV}{b:Bool}(hg:fF all o top Ik b):Ik.length=top.length/\∀t,Qh (bX top t) (bX Ik t):=by
 unfold fF at hg;split at hg
 ·obtain⟨rfl,_⟩:=hg;exact⟨rfl,fun t=>Qh.refl _⟩
 ·obtain⟨t,_,h⟩:=hg;rcases h with ⟨_,rfl,_⟩|⟨_,rfl,_⟩|⟨_,rfl,_⟩|⟨h1,rfl,_⟩|⟨h1,rfl,_⟩
  ·exact⟨rfl,fun t=>Qh.refl _⟩
  ·exact⟨rfl,fun t=>Qh.refl _⟩
  ·exact⟨rfl,fun t=>Qh.refl _⟩
  ·refine⟨uF _ _ _,fun t'=>?_⟩
   rw[Bu];split
   ·rename_i hc;obtain⟨rfl,_⟩:=hc;rw[h1];exact fun Ψ β v hv=>fP.1 hv
   ·exact Qh.refl _
  ·refine⟨uF _ _ _,fun t'=>?_⟩
   rw[Bu];split
   ·rename_i hc;obtain⟨rfl,_⟩:=hc;rw[h1];exact fun Ψ β v hv=>fP.1 hv
   ·exact Qh.refl _
theorem Trace.chain{H:HW}{ex0:List aB}{uE:List (Nat×aB)}{ops:List Oper}{top:List AV}{jT n7:Nat->List AV}{vals:Nat->AV}{Ed:Nat->Bool}{i0:Nat}{dh:Nat->aB}{fW:Nat->Option (Nat×aB)}(ht:Trace C H ex0 uE ops i0 top jT n7 vals Ed dh fW)(hd:uG ops):
 ∀i,i<=ops.length->(jT i).length=top.length/\∀t,t<top.length->Qh (lQ ops top vals (fun j=>decide (j<i)) t) (bX (jT i) t)
 |0,_=>by
  rw[ht.zero];refine⟨rfl,fun t _=>?_⟩
  rw[fZ (fun i o _ _=>by simp)]
  exact Qh.refl _
 |i+1,hi=>by
  obtain⟨hl,hc⟩:=ht.chain hd i (by omega)
  have ho:ops[i]?=some ops[i]:=Waa (by omega)
  obtain⟨hg,he,_,_⟩:=ht.step i _ ho;obtain⟨xK,hgi⟩:=CJ hg;have same:∀t,ops[i].dst≠some t->lQ ops top vals (fun j=>decide (j<i+1)) t=lQ ops top vals (fun j=>decide (j<i)) t:=by
   intro t hne;by_cases hex:∃j oj,ops[j]?=some oj/\oj.dst=some t/\j<i
   ·obtain⟨j,oj,h1,h2,h3⟩:=hex;rw[m4 hd h1 h2 (by simp;omega),m4 hd h1 h2 (by simp;omega)]
   ·rw[fZ (fun j oj h1 h2=>?_),fZ (fun j oj h1 h2=>?_)]
    ·simp only[decide_eq_false_iff_not];exact fun h3=>hex ⟨j,oj,h1,h2,h3⟩
    ·simp only[decide_eq_false_iff_not];intro h3;have:j≠i:=by
      rintro rfl
      rw[h1]at ho;simp at ho
      rw[<-ho]at hne;exact hne h2
     exact hex ⟨j,oj,h1,h2,by omega⟩
  rw[he];cases fk:ops[i].dst with
  |none=>
   refine⟨by simp only[VD];omega,fun t ht'=>?_⟩
   rw[same t (by rw[fk];simp)]
   exact (hc t ht').trans (hgi t)
  |some d=>
   refine⟨by simp only[VD];rw[uF];omega,fun t ht'=>?_⟩
   simp only[VD];rw[Bu];by_cases htd:d=t
   ·subst htd;rw[if_pos ⟨rfl,by omega⟩,m4 hd ho fk (by simp)]
    exact Qh.refl _
   ·rw[if_neg (fun hh=>htd hh.1),same t (by rw[fk];simpa using htd)]
    exact (hc t ht').trans (hgi t)
end Go.AM
namespace Go.AM
open Go.RowKit
variable {B:Nat->Prop} {w0:World} {C:Ctx} {Ψ bL:Pr} {β:List Value} {h:List aB} {w w':World} {fr:List AV} {a a0:Act} {As:List Act} {W:List Nat}
def au(C:Ctx):Prop:=(∀g sp,C.spec g=some sp->Sat C.P g sp)/\(∀g sp,C.fresh g=some sp->qY C.P g sp)/\(∀g sp,C.qgL g=some sp->qh3 C.P g sp)/\(∀g sp,C.qle g=some sp->Vi C.P g sp)/\(∀g sp,C.Tp g=some sp->E2 C.P g sp)/\(∀g sp,C.YZ g=some sp->qoB C.P g sp)/\(∀g sp,C.procs g=some sp->E3 C.P g sp)/\(∀g sp,C.muts g=some sp->qoF C.P g sp)/\(∀g sp,C.qlf g=some sp->qoD C.P C.qlg g sp)/\(∀g,C.quiet g=true->qoE C.P g)/\∀g sp,C.qhN g=some sp->ZM C.P g sp
theorem gE{ax:Pr}(hle:bW Ψ ax):∀{ts:List Ty} {dN:List AV} {vs:List Value} {x:dens ts},lJ h ts dN=some x->aL Ψ β dN vs->cc ax β h (cS dN)->aL ax [] (outs ts x) vs
 |[],[],vs,x,_,hr,_=>hr
 |[],_::_,vs,x,hd,_,_=>by simp[lJ]at hd
 |[t],[],vs,x,hd,_,_=>by simp[lJ]at hd
 |[t],[av],vs,x,hd,⟨v,vs',e,hv,hl⟩,hk=>by
  simp only[aL]at hl;subst hl e;exact⟨v,[],rfl,ku hle hd hv (hk.sub fun k hm=>by simp[cS,hm]),rfl⟩
 |[t],_::_::_,vs,x,hd,_,_=>by simp[lJ]at hd
 |t::u::ts,[],vs,x,hd,_,_=>by simp[lJ]at hd
 |t::u::ts,av::dN,vs,x,hd,⟨v,vs',e,hv,hl⟩,hk=>by
  unfold lJ at hd;split at hd
  ·rename_i y hy;split at hd
   ·rename_i z hz;simp at hd
    subst hd;exact⟨v,vs',e,ku hle hy hv (hk.sub fun k hm=>by simp[cS,hm]),gE hle hz hl (hk.sub fun k hm=>by simp[cS];exact .inr hm)⟩
   ·cases hd
  ·cases hd
def w5(w:World):Pr:=fun ad=>if ad.spot=none then w.cell? ad else none
theorem QW(w:World):∀ad v,w5 w ad=some v->ad.spot=none/\w.cell? ad=some v:=by
 intro ad v hv;unfold w5 at hv;split at hv
 ·rename_i hs;exact⟨hs,hv⟩
 ·cases hv
def plain(Ψ:Pr):Pr:=fun ad=>if ad.spot=none then Ψ ad else none
theorem bY{Ψ:Pr}{ad:Addr}{v:Value}:plain Ψ ad=some v↔ad.spot=none/\Ψ ad=some v:=by
 unfold plain;split
 ·rename_i h;simp[h]
 ·rename_i h;simp[h]
theorem Gl.plain{P:Program}{Ψ:Pr}(h:Gl P Ψ):Gl P (plain Ψ):=⟨fun g hg j n hn=>bY.2 ⟨rfl,h.1 g hg j n hn⟩,fun g hg j n hn=>bY.2 ⟨rfl,h.2 g hg j n hn⟩⟩
theorem CK{ad:Option Addr}{vs:List Value}:rowAt Ψ ad vs->rowAt (plain Ψ) ad vs
 |⟨g,off,e,hc⟩=>⟨g,off,e,fun j u hj=>bY.2 ⟨rfl,hc j u hj⟩⟩
theorem cT:∀(t:Ty) (x:t.den) (cs:List Value),reads Ψ t x cs->reads (plain Ψ) t x cs
 | .int _,_,_,hr=>hr
 | .bool,_,_,hr=>hr
 | .qi,_,_,hr=>hr
 | .any,_,_,hr=>hr
 | .str,_,_,hr=>hr
 | .unit,_,_,hr=>hr
 | .arr e,_,_,⟨a,cap,e1,h1,h2,h3⟩=>⟨a,cap,e1,h1,h2,h3.imp id fun ⟨cells,hd,hrow⟩=>⟨cells,eS (cT e) _ _ hd,CK hrow⟩⟩
 | .vec _ e,_,_,⟨h1,h2⟩=>⟨h1,eS (cT e) _ _ h2⟩
 | .pair a b,_,_,⟨u,v,e,h1,h2⟩=>⟨u,v,e,cT a _ _ h1,cT b _ _ h2⟩
 | .dR a b,r,vs,hr=>Ny (fun _ _=>CK) (cT a) (cT b) r vs hr
theorem sA{t:Ty}{x:t.den}{v:Value}:aE Ψ β (.d t x) v->aE (plain Ψ) β (.d t x) v
 |⟨cs,hc,e⟩=>⟨cs,cT t x cs hc,e⟩
theorem mo:∀{ts:List Ty} {x:dens ts} {vs:List Value},aL Ψ β (outs ts x) vs->aL (plain Ψ) β (outs ts x) vs
 |[],_,_,hr=>hr
 |[t],x,_,⟨v,vs',e,hv,hl⟩=>⟨v,vs',e,sA hv,hl⟩
 |t::u::ts,x,_,⟨v,vs',e,hv,hl⟩=>⟨v,vs',e,sA hv,mo hl⟩
theorem xU{ts:List Ty}{x:dens ts}{v:Value}(hr:aE Ψ β (nV ts x) v):aE (plain Ψ) β (nV ts x) v:=by
 match ts,x,hr with
 |[],_,hr=>exact hr
 |[t],x,hr=>exact sA hr
 |t::u::ts,x,hr=>
  have e:nV (t::u::ts) x= .lW (outs (t::u::ts) x):=by
   match ts with
   |[]=>rfl
   |_::_=>rfl
  rw[e]at hr ⊢;obtain⟨vs,e',hl⟩:=hr;exact⟨vs,e',mo hl⟩
def o9(Ψ ax:Pr):Pr:=fun ad=>if ad.spot=none then ax ad else Ψ ad
theorem uH(Ψ ax:Pr):bW (plain ax) (o9 Ψ ax):=fun ad v h=>by
 obtain⟨h1,h2⟩:=bY.1 h;unfold o9;rw[if_pos h1];exact h2
theorem xV{ax:Pr}(hb:Below w.heap.size w w')(hle:∀a u,plain Ψ a=some u->ax a=some u)
 (hnew:∀a u,ax a=some u->plain Ψ a=some u\/(w.heap.size<=a.block/\a.spot=none/\w'.cell? a=some u)):Step Ψ w (o9 Ψ ax) w':=by
 refine⟨hb,fun ad v hv=>?_,fun ad v hv=>?_⟩
 ·unfold o9;split
  ·rename_i hs;exact hle _ _ (bY.2 ⟨hs,hv⟩)
  ·exact hv
 ·unfold o9 at hv;split at hv
  ·exact (hnew ad v hv).imp (fun h=>(bY.1 h).2) id
  ·exact .inl hv
theorem sB(hi:aD C.P B w0 Ψ β h w):∀ad v,plain Ψ ad=some v->ad.spot=none/\w.cell? ad=some v:=fun ad v hv=>by
 obtain⟨h1,h2⟩:=bY.1 hv;exact⟨h1,mS h1 (hi.prom ad v h2)⟩
theorem N7(hi:aD C.P B w0 Ψ β h w):bW (plain Ψ) (w5 w):=by
 intro ad v hv;obtain⟨h1,h2⟩:=sB hi ad v hv;unfold w5;rw[if_pos h1];exact h2
theorem Bv{fE mZ:Pr}{jJ K9:List Value}{t:Ty}{x:t.den}{v:Value}(hf:t.flat=true):aE fE jJ (.d t x) v->aE mZ K9 (.d t x) v
 |⟨cs,hc,e⟩=>⟨cs,sg t x cs hf hc,e⟩
theorem Ja{fE mZ:Pr}{jJ K9:List Value}:∀{ts:List Ty} {x:dens ts} {vs:List Value},mN ts=true->aL fE jJ (outs ts x) vs->aL mZ K9 (outs ts x) vs
 |[],_,_,_,hr=>hr
 |[t],x,_,hf,⟨v,vs',e,hv,hl⟩=>⟨v,vs',e,Bv (by simpa [mN]using hf) hv,hl⟩
 |t::u::ts,x,_,hf,⟨v,vs',e,hv,hl⟩=>by
  have o8:t.flat=true:=by unfold mN at hf;simp only[Wac]at hf;exact hf.1
  have H6:mN (u::ts)=true:=by
   rw[mN]at hf;simp only[Wac]at hf;exact hf.2
  exact⟨v,vs',e,Bv o8 hv,Ja H6 hl⟩
theorem VG{fE mZ:Pr}{jJ K9:List Value}{ts:List Ty}{x:dens ts}{v:Value}(hf:mN ts=true)(hr:aE fE jJ (nV ts x) v):aE mZ K9 (nV ts x) v:=by
 match ts,x,hf,hr with
 |[],_,_,hr=>exact hr
 |[t],x,hf,hr=>exact Bv (by simpa [mN]using hf) hr
 |t::u::ts,x,hf,hr=>
  have e:nV (t::u::ts) x= .lW (outs (t::u::ts) x):=by
   match ts with
   |[]=>rfl
   |_::_=>rfl
  rw[e]at hr ⊢;obtain⟨vs,e',hl⟩:=hr;exact⟨vs,e',Ja hf hl⟩
theorem Bw:∀(t:Ty) (cs:List AV) (vs:List Value),aL Ψ β cs vs->(∀u∈vs,u.oneCell'=true)->aL Ψ β (Nk t cs) vs
 | .pair a b,cs,vs,hr,h1=>by
  unfold Nk;rw[oV,qZ];have:=eZ _ _ _ _ (Bw a _ _ (l7 a.cells cs vs hr) fun u hu=>h1 u (Wa5 hu)) (Bw b _ _ (l8 a.cells cs vs hr) fun u hu=>h1 u (Wbd hu))
  rwa [Wax]at this
 | .any,[],_,hr,_=>hr
 | .any,_::_,_,⟨v,vs',e,_,hl⟩,h1=>⟨v,vs',e,⟨[v],⟨v,rfl,h1 v (by rw[e];exact Waq ..)⟩,rfl⟩,hl⟩
 | .int _,_,_,hr,_=>hr
 | .bool,_,_,hr,_=>hr
 | .str,_,_,hr,_=>hr
 | .arr _,_,_,hr,_=>hr
 | .vec _ _,_,_,hr,_=>hr
 | .unit,_,_,hr,_=>hr
 | .qi,_,_,hr,_=>hr
 | .dR _ _,_,_,hr,_=>hr
theorem VH(t:Ty){av:AV}{v:Value}(hr:aE Ψ β av v):aE Ψ β (YY t av) v:=by
 unfold YY;split
 ·rename_i cs;cases To t with
  |true=>
   obtain⟨vs,e,hl,h1⟩:=hr;exact⟨vs,e,Bw t cs vs hl h1,h1⟩
  |false=>exact hr
 ·exact hr
theorem xW:∀(ts:List Ty) {dN:List AV} {vs:List Value},aL Ψ β dN vs->aL Ψ β (rQ ts dN) vs
 |[],[],_,hr=>hr
 |[],_::_,_,hr=>hr
 |_::_,[],_,hr=>hr
 |t::ts,_::_,_,⟨v,vs',e,hv,hl⟩=>⟨v,vs',e,VH t hv,xW ts hl⟩
theorem VI{ax:Pr}(hi:aD C.P B w0 Ψ β h w)(hle:bW Ψ ax)(hall:∀ad u,ad.spot=none->w.cell? ad=some u->ax ad=some u):∀{av:AV} {v:Value},aE Ψ β av v->aE ax β (IA h av) v:=by
 intro av v hr;unfold IA;split
 ·rename_i k off n lo hi';split
  ·rename_i u x hg;split
   ·rename_i e xs hv;obtain⟨g,bV,h0,h1,h2,h3,rfl⟩:=hr;obtain⟨g',c,e',oY,rfl',hh,hB,hrd⟩:=vE (off:=0) (v:=.pointer (some ⟨g,0,none⟩)) hi hg ⟨g,bV,rfl⟩;have hgg:g'=g:=by simpa using rfl'.symm
    subst hgg;obtain⟨Fe,hlen,hle',hd⟩:=o3 hv hrd;have HV:=(gZ Fe).1;have k1:=ja (aj e) _ _ (hi'.toNat-lo.toNat) (iJ (aj e) _ _ lo.toNat hd);rw[HV,WaS,WaS]at k1;have hl:((xs.drop lo.toNat).take (hi'.toNat-lo.toNat)).length=hi'.toNat-lo.toNat:=by simp;omega
    refine nu (β:=β).2 ⟨some ⟨g',off+lo.toNat,none⟩,n-lo.toNat,by rw[hl],by rw[hl];omega,by omega,.inr ⟨_,eS (aR hle e) _ _ k1,g',off+lo.toNat,rfl,fun j u hj=>hall _ _ rfl ?_⟩⟩
    rw[bp hh];have h5:=bM hj;rw[Was]at h5;split at h5
    ·rw[WaZ,Wcd]at h5;rw[Wa2];exact h5
    ·cases h5
   ·exact jk hle (fun _ _ h=>h) _ _ hr
  ·exact jk hle (fun _ _ h=>h) _ _ hr
 ·exact jk hle (fun _ _ h=>h) _ _ hr
theorem FE{ax:Pr}(hi:aD C.P B w0 Ψ β h w)(hle:bW Ψ ax)(hall:∀ad u,ad.spot=none->w.cell? ad=some u->ax ad=some u):∀{dN:List AV} {vs:List Value},aL Ψ β dN vs->aL ax β (A7 h dN) vs
 |[],_,hr=>hr
 |_::_,_,⟨v,vs',e,hv,hl⟩=>⟨v,vs',e,VI hi hle hall hv,FE hi hle hall hl⟩
theorem w6{sp:aJ}{g:FuncId}{dN:List AV}{vs:List Value}{x:dens sp.ps}(hS:Sat C.P g sp)(hi:aD C.P B w0 Ψ β h w)(hr:aL Ψ β dN vs)(hd:lJ h sp.ps (bif mN sp.rs then A7 h dN else dN)=some x)(hpre:sp.pre x)
 (hc:mN sp.rs=true\/cS dN=[]):Calls C.P g vs.toArray w fun e w'=>∃v ax,e= .returned v/\Step Ψ w ax w'/\aE ax β (nV sp.rs (sp.post x)) v:=by
 by_cases hfl:mN sp.rs=true
 ·have hc:=hfl;rw[hc,cond_true]at hd;have qg3:bW Ψ (o9 Ψ (w5 w)):=fun ad v hv=>by
   unfold o9;split
   ·rename_i hs;exact N7 hi _ _ (bY.2 ⟨hs,hv⟩)
   ·exact hv
  have hall:∀ad u,ad.spot=none->w.cell? ad=some u->o9 Ψ (w5 w) ad=some u:=fun ad u hs hu=>by
   unfold o9 w5;rw[if_pos hs,if_pos hs];exact hu
  have bu:=gE (bW.refl _) hd (FE hi qg3 hall hr) (fun k _ tid e xs hg u hu=>zG hi qg3 hg (fun g n cap _ _ i v hv=>by unfold o9;rw[if_pos rfl];unfold w5;rw[if_pos rfl];exact hv) hu)
  have qaj:aL (w5 w) [] (outs sp.ps x) vs:=by
   have h1:=mo bu;refine aX (fun ad v hv=>?_) (fun _ _ h=>h) _ _ h1
   obtain⟨g1,g2⟩:=bY.1 hv;unfold o9 at g2;rw[if_pos g1]at g2;exact g2
  refine (hS (w5 w) w x vs (QW w) (hi.gQ.plain.le (N7 hi)) qaj hpre).mono ?_
  rintro e w' ⟨v,ax,rfl,hb,_,_,hv⟩
  exact⟨v,Ψ,rfl,⟨hb,bW.refl _,fun _ _ h=>.inl h⟩,VG hc hv⟩
 ·have hc:cS dN=[]:=hc.resolve_left hfl;simp only[Bool.not_eq_true]at hfl;rw[hfl,cond_false]at hd;have bu:=gE (bW.refl Ψ) hd hr (by rw[hc];exact cc.nil)
  refine (hS (plain Ψ) w x vs (sB hi) hi.gQ.plain (mo bu) hpre).mono ?_
  rintro e w' ⟨v,ax,rfl,hb,hle,hnew,hv⟩
  exact⟨v,o9 Ψ ax,rfl,xV hb hle hnew,jk (uH Ψ ax) (fun k v h=>by simp at h) _ _ (xU hv)⟩
theorem jq{ax:Pr}(hp:bW (plain Ψ) ax){e:Ty}{xs:List e.den}{cs:List Value}(hr:gu (reads Ψ e) xs cs):gu (reads ax e) xs cs:=
 eS (fun x cs h=>aR hp e x cs (cT e x cs h)) _ _ hr
theorem uI{ax:Pr}(hp:bW (plain Ψ) ax){t:Ty}{x:t.den}{v:Value}:rv Ψ t x v->rv ax t x v
 |⟨cs,hc,e⟩=>⟨cs,aR hp t x cs (cT t x cs hc),e⟩
theorem jU{ax:Pr}(hp:bW (plain Ψ) ax){e:Ty}:∀{m:List (Int×e.den)} {es:List MapEntry},zn Ψ e m es->zn ax e m es
 |[],_,hr=>hr
 |_::_,_,⟨x,es',h1,h2,h3,h4,h5⟩=>⟨x,es',h1,h2,h3,uI hp h4,jU hp h5⟩
theorem Jb{g:cL}{f:FuncId}{x:dens g.ps}{vs px:List Value}(hS:Nw C.P f px g)(hi1:aD C.P B w0 Ψ β h w)(bu:aL Ψ [] (outs g.ps x) vs)(hpre:g.pre x):
 Calls C.P f (px++vs).toArray w fun e w'=>∃v ax,e= .returned v/\Step Ψ w ax w'/\v.oneCell'=true/\cn C.P (fun k=>k<w.heap.size) ax [v] w' 0 (.grow g.tid g.e (g.post x))/\
  ∀gg,af [v] 0 gg (.grow g.tid g.e (g.post x))->∀a,a.block=gg->pl a->ax a=none:=by
 refine (hS (plain Ψ) w x vs (sB hi1) hi1.gQ.plain (mo bu) hpre).mono ?_
 rintro e w' ⟨v,Ψp,rfl,hb,hle,hnew,hone,eV,hfree⟩
 refine⟨v,o9 Ψ Ψp,rfl,xV hb hle hnew,hone,?_,fun gg hc a ha hs=>?_⟩
 ·refine eV.imp id ?_
  rintro⟨gg,cap,cur,h1,h2,h3,h4,h5,h6,h7,h8⟩
  exact⟨gg,cap,cur,h1,h2,h3,h4,h5,h6,h7,jq (uH Ψ Ψp) h8⟩
 ·unfold o9;by_cases hs':a.spot=none
  ·rw[if_pos hs'];exact hfree gg hc a ha
  ·rw[if_neg hs'];cases hp:Ψ a with
   |none=>rfl
   |some u=>
    have h1:=qm (hi1.prom a u hp);have h2:=(ct eV hc).1;omega
theorem T2{P:Program}{ax:Pr}{β':List Value}{k:Nat}{B':Nat->Prop}{v:Value}{tid:TypeId}{e:Ty}{xs:List e.den}(aH:β'[k]?=some v)(hB:∀k,B k->B' k)(eV:cn P B' ax [v] w' 0 (.grow tid e xs)):cn P B ax β' w' k (.grow tid e xs):=by
 refine eV.imp (fun ⟨ad,h1,h2⟩=>⟨ad,?_,h2⟩) (fun ⟨gg,cap,cur,h1,h2,h3,h4⟩=>⟨gg,cap,cur,?_,h2,fun hb=>h3 (hB _ hb),h4⟩)
 ·simp at h1;rw[aH,h1]
 ·simp at h1;rw[aH,h1]
theorem Bx{β':List Value}{k gg:Nat}{v:Value}{tid:TypeId}{e:Ty}{xs:List e.den}(aH:β'[k]?=some v)(hc:af β' k gg (.grow tid e xs)):af [v] 0 gg (.grow tid e xs):=by
 obtain⟨n,cap,hz,hc⟩:=hc;rw[aH]at hc;exact⟨n,cap,hz,by simpa using hc⟩
theorem QX{g:cL}{f:FuncId}{x:dens g.ps}{vs px:List Value}(hS:Nw C.P f px g)(hi1:aD C.P B w0 Ψ β h w)(bu:aL Ψ [] (outs g.ps x) vs)(hpre:g.pre x):
 Calls C.P f (px++vs).toArray w fun e w'=>∃v ax,e= .returned v/\Step Ψ w ax w'/\v≠hole/\aD C.P B w0 ax (β++[v]) (h++[.grow g.tid g.e (g.post x)]) w':=by
 refine (Jb hS hi1 bu hpre).mono ?_
 rintro e w' ⟨v,ax,rfl,hst,hone,eV,hfree⟩
 have hi2:=hi1.step hst;have hB:=hi1.size;have aH:(β++[v])[h.length]?=some v:=by rw[<-hi2.len];simp
 have qlZ:cn C.P B ax (β++[v]) w' h.length (.grow g.tid g.e (g.post x)):=T2 aH hB eV;have qiw:∀{gg:Nat},af (β++[v]) h.length gg (.grow g.tid g.e (g.post x))->af [v] 0 gg (.grow g.tid g.e (g.post x)):=fun hc=>Bx aH hc
 have ql0:∀{gg:Nat},af [v] 0 gg (.grow g.tid g.e (g.post x))->w.heap.size<=gg:=fun hc=>Wch (ct eV hc).1
 have hlt:∀{j:Nat} {b:aB},h[j]?=some b->j<β.length:=fun {j b} hj=>by
  rw[hi2.len];rcases Wak j h.length with h'|h'
  ·exact h'
  ·rw[Wai h']at hj;cases hj
 have hold:∀{j gg:Nat} {b:aB},h[j]?=some b->af (β++[v]) j gg b->gg<w.heap.size:=fun hj hc=>(ct (hi1.blk _ _ hj) (bO (hlt hj) hc)).2
 refine⟨v,ax,rfl,hst,iN eV rfl,?_⟩
 refine⟨hi2.low,hi2.size,hi2.prom,hi2.own,by simp[hi2.len],fun j u hj=>?_,fun j b hj=>?_,fun j b gg hj hc a ha hs=>?_,fun i j bi bj gg hij yV xM rO n6=>?_,hi2.gQ⟩
 ·rcases bg hj with h|⟨_,rfl⟩
  ·exact hi2.one j u h
  ·exact hone
 ·rcases bg hj with h|⟨rfl,rfl⟩
  ·exact vF v (hi2.blk j b h)
  ·exact qlZ
 ·rcases bg hj with h|⟨rfl,rfl⟩
  ·exact hi2.free j b gg h (bO (hlt h) hc) a ha hs
  ·exact hfree gg (qiw hc) a ha hs
 ·rcases bg yV with h1|⟨rfl,rfl⟩
  ·rcases bg xM with h2|⟨rfl,rfl⟩
   ·exact hi2.sep i j bi bj gg hij h1 h2 (bO (hlt h1) rO) (bO (hlt h2) n6)
   ·have:=hold h1 rO
    have:=ql0 (qiw n6)
    omega
  ·rcases bg xM with h2|⟨rfl,rfl⟩
   ·have:=hold h2 n6
    have:=ql0 (qiw rO)
    omega
   ·exact absurd rfl hij
theorem qix{k j:Nat}{u v:Value}(hj:(β.set k u)[j]?=some v):(j=k/\v=u)\/(j≠k/\β[j]?=some v):=by
 by_cases cY:j=k
 ·subst cY;have hlt:j<β.length:=by
   rcases Wak j β.length with h'|h'
   ·exact h'
   ·rw[Wai (by simpa using h')]at hj;cases hj
  rw[WaC hlt]at hj;simp at hj
  exact .inl ⟨rfl,hj.symm⟩
 ·rw[War (Wa0 cY)]at hj;exact .inr ⟨cY,hj⟩
theorem cx{k j:Nat}{u v:Value}(hk:β[k]?=some hole)(hv:v≠hole)(hj:β[j]?=some v):(β.set k u)[j]?=some v:=by
 have cY:j≠k:=by
  rintro rfl
  rw[hk]at hj;simp at hj
  exact hv hj.symm
 rw[War (Wa0 cY)];exact hj
mutual
theorem Jc{Ψ ax:Pr}{β:List Value}{k:Nat}{u:Value}(h:bW Ψ ax)(hk:β[k]?=some hole):∀(av:AV) (v:Value),aE Ψ β av v->aE ax (β.set k u) av v
 | .bJ,_,_=>trivial
 | .lO,_,hr=>hr
 | .tt,_,hr=>hr
 | .ff,_,hr=>hr
 | .d t x,_,⟨cs,hc,e⟩=>⟨cs,aR h t x cs hc,e⟩
 | .fs e xs,_,⟨a,ea,cs,hc,e'⟩=>⟨a,ea,cs,aR h (.arr e) xs cs hc,e'⟩
 | .iX,_,hr=>hr
 | .agg cs,_,⟨vs,e,hl,h1⟩=>⟨vs,e,jr h hk cs vs hl,h1⟩
 | .lW cs,_,⟨vs,e,hl⟩=>⟨vs,e,jr h hk cs vs hl⟩
 | .fn _ cs,_,⟨vs,e,hl⟩=>⟨vs,e,jr h hk cs vs hl⟩
 | .xw _ cs,_,⟨vs,e,hl⟩=>⟨vs,e,jr h hk cs vs hl⟩
 | .sv _ _ _ _,_,⟨g,n,c,hg,r⟩=>⟨g,n,c,cx hk (by simp[hole]) hg,r⟩
 | .nk,_,hr=>hr
 | .nq,_,hr=>hr
 | .own _ _,_,⟨g,hg,e⟩=>⟨g,cx hk (by simp[hole]) hg,e⟩
 | .sl _,_,⟨hr,hn⟩=>⟨cx hk hn hr,hn⟩
 | .tX _ _ _,_,⟨g,o,n,c,hg,r⟩=>⟨g,o,n,c,cx hk (by simp[hole]) hg,r⟩
 | .rp t x,_,⟨g,off,cs,e,hc,hp⟩=>⟨g,off,cs,e,aR h t x cs hc,fun j u hj=>h _ _ (hp j u hj)⟩
 | .qd _,_,⟨l,hg,e⟩=>⟨l,cx hk (by simp[hole,cm]) hg,e⟩
 | .Ko _,_,hr=>hr
 | .DS _ _ _ _,_,⟨g,hg,r⟩=>⟨g,cx hk (by simp[hole]) hg,r⟩
 | .yX _ _ _ _ _,_,⟨g,hg,r⟩=>⟨g,cx hk (by simp[hole]) hg,r⟩
 | .lI _ _ _ _,_,⟨g,o,n,c,hg,r⟩=>⟨g,o,n,c,cx hk (by simp[hole]) hg,r⟩
 | .DT _ _,_,⟨g,hg,r⟩=>⟨g,cx hk (by simp[hole]) hg,r⟩
 | .oM _,_,hr=>hr
theorem jr{Ψ ax:Pr}{β:List Value}{k:Nat}{u:Value}(h:bW Ψ ax)(hk:β[k]?=some hole):∀(cs:List AV) (vs:List Value),aL Ψ β cs vs->aL ax (β.set k u) cs vs
 |[],_,hr=>hr
 |c::cs,_,⟨v,vs',e,hv,hl⟩=>⟨v,vs',e,Jc h hk c v hv,jr h hk cs vs' hl⟩
end
theorem Jd{ax:Pr}{k:Nat}{u:Value}(h:bW Ψ ax)(hk:β[k]?=some hole):∀(fs:List (List AV)) (as:List Act),aQ Ψ β fs as->aQ ax (β.set k u) fs as
 |[],_,hr=>hr
 |f::fs,_,⟨a,as',e,⟨h1,h2⟩,h3⟩=>⟨a,as',e,⟨oW h h1,jr h hk _ _ h2⟩,Jd h hk fs as' h3⟩
theorem VJ{P:Program}{k j:Nat}{u:Value}{b:aB}(hk:β[k]?=some hole)(hb:cn P B Ψ β w j b):cn P B Ψ (β.set k u) w j b:=by
 cases b with
 |gone=>trivial
 |log ys Y own xs=>exact jQ hb (fun _ h=>by have:=hb.1;rw[this]at h;cases h;exact cx hk (by simp[hole,cm]) this) (bW.refl _).m (Wan _) fun _ _=>rfl
 |kV ys Y own=>exact jR hb (fun _ h=>by have:=hb.1;rw[this]at h;cases h;exact cx hk (by simp[hole,cm]) this) (bW.refl _).m (Wan _) fun _ _=>rfl
 |cells cs=>
  obtain⟨g,c,e,h1,h2,h3,h4,h5⟩:=hb;exact⟨g,c,e,cx hk (by simp[hole]) h1,h2,h3,jr (bW.refl _) hk _ _ h4,h5⟩
 |grow tid e xs=>
  rcases hb with ⟨ad,h1,h2⟩|⟨g,cap,cur,h1,r⟩
  ·exact .inl ⟨ad,cx hk (by simp[hole]) h1,h2⟩
  ·exact .inr ⟨g,cap,cur,cx hk (by simp[hole]) h1,r⟩
 |fH es=>
  obtain⟨g,ms,cl,h1,h2,h3,h4,h5,h6⟩:=hb;exact⟨g,ms,cl,cx hk (by simp[hole]) h1,h2,h3,h4,jr (bW.refl _) hk _ _ h5,h6⟩
 |dmap e m=>
  obtain⟨g,ms,cl,h1,r⟩:=hb;exact⟨g,ms,cl,cx hk (by simp[hole]) h1,r⟩
 |eo e last left=>
  obtain⟨g,gm,ms,cl,seen,h1,r⟩:=hb;exact⟨g,gm,ms,cl,seen,cx hk (by simp[hole]) h1,r⟩
 |loop f p ph ts=>
  obtain⟨l,r,h1,h2,h3,h4,h5,h6⟩:=hb;exact⟨l,r,cx hk (by simp[hole,cm]) h1,h2,h3,h4,jr (bW.refl _) hk _ _ h5,h6⟩
 |dat t x=>
  obtain⟨g,c,e,h1,r⟩:=hb;exact⟨g,c,e,cx hk (by simp[hole]) h1,r⟩
 |eu n rest=>
  obtain⟨g,s,pos,h1,r⟩:=hb;exact⟨g,s,pos,cx hk (by simp[hole]) h1,r⟩
 |xb x=>
  obtain⟨v,h1,h2,h3⟩:=hb;exact⟨v,cx hk (ZO h2).1 h1,h2,h3⟩
theorem m5{k j g:Nat}{u:Value}{b:aB}(cY:j≠k)(hc:af (β.set k u) j g b):af β j g b:=by
 have e:(β.set k u)[j]?=β[j]?:=War (Wa0 cY);cases b with
 |gone=>exact hc
 |log ys Y own xs=>exact hc
 |kV ys Y own=>exact hc
 |cells cs=>simp only[af]at*;rwa [e]at hc
 |grow tid e' xs=>obtain⟨n,cap,h1,h2⟩:=hc;rw[e]at h2;exact⟨n,cap,h1,h2⟩
 |fH es=>simp only[af]at*;rwa [e]at hc
 |dmap e' m=>simp only[af]at*;rwa [e]at hc
 |eo e' last left=>simp only[af]at*;rwa [e]at hc
 |loop f p ph ts=>simp only[af]at*;rwa [e]at hc
 |dat t x=>simp only[af]at*;rwa [e]at hc
 |eu n rest=>simp only[af]at*;rwa [e]at hc
 |xb x=>obtain⟨v,h1,h2⟩:=hc;rw[e]at h1;exact⟨v,h1,h2⟩
theorem aD.fill{ax:Pr}{k:Nat}{u:Value}{b:aB}(hi:aD C.P B w0 Ψ β h w)(hst:Step Ψ w ax w')(hk:h[k]?=some .gone)(bV:β[k]?=some hole)(hone:u.oneCell'=true)(hnew:cn C.P B ax (β.set k u) w' k b)
 (hge:∀g,af (β.set k u) k g b->w.heap.size<=g) (hfree:∀g,af (β.set k u) k g b->∀a,a.block=g->pl a->ax a=none):aD C.P B w0 ax (β.set k u) (h.set k b) w':=by
 have hi2:=hi.step hst;have Ig:k<h.length:=by
  rcases Wak k h.length with h'|h'
  ·exact h'
  ·rw[Wai h']at hk;cases hk
 have at_:∀{j:Nat} {b1:aB},(h.set k b)[j]?=some b1->(j=k/\b1=b)\/(j≠k/\h[j]?=some b1):=by
  intro j b1 hj;by_cases cY:j=k
  ·subst cY;rw[WaC Ig]at hj;simp at hj
   exact .inl ⟨rfl,hj.symm⟩
  ·rw[War (Wa0 cY)]at hj;exact .inr ⟨cY,hj⟩
 have old:∀{j g:Nat} {b1:aB},h[j]?=some b1->af β j g b1->g<w.heap.size:=fun hj hc=>(ct (hi.blk _ _ hj) hc).2
 refine⟨hi2.low,hi2.size,hi2.prom,hi2.own,by simp[hi2.len],fun j v hj=>?_,fun j b1 hj=>?_,fun j b1 g hj hc a ha hs=>?_,fun i j bi bj g hij yV xM rO n6=>?_,hi2.gQ⟩
 ·rcases qix hj with ⟨_,rfl⟩|⟨_,h1⟩
  ·exact hone
  ·exact hi2.one j v h1
 ·rcases at_ hj with ⟨rfl,rfl⟩|⟨_,h1⟩
  ·exact hnew
  ·exact VJ bV (hi2.blk j b1 h1)
 ·rcases at_ hj with ⟨rfl,rfl⟩|⟨cY,h1⟩
  ·exact hfree g hc a ha hs
  ·exact hi2.free j b1 g h1 (m5 cY hc) a ha hs
 ·rcases at_ yV with ⟨rfl,rfl⟩|⟨hik,h1⟩<;>rcases at_ xM with ⟨rfl,rfl⟩|⟨cY,h2⟩
  ·exact hij rfl
  ·have:=hge g rO
   have:=old h2 (m5 cY n6)
   omega
  ·have:=hge g n6
   have:=old h1 (m5 hik rO)
   omega
  ·exact hi2.sep i j bi bj g hij h1 h2 (m5 hik rO) (m5 cY n6)
def qak(C:Ctx)(B:Nat->Prop)(Ψ:Pr)(w w':World)(j:Nat)(v:Value)(b:aB)(av:AV):Prop:=
 v.oneCell'=true/\∀β':List Value,β'[j]?=some v->cn C.P B Ψ β' w' j b/\(∀g,af β' j g b->w.heap.size<=g)/\(∀g,af β' j g b->∀a,a.block=g->pl a->Ψ a=none)/\aE Ψ β' av v
theorem qeG(hsp:au C){o:Oper}{mid:List AV}{b:aB}{j:Nat}(hy:qlW C h o mid b)(hi:aD C.P B w0 Ψ β h w)(cI:∀x∈o.op.operands,aE Ψ β (ev mid x) (a.eval x)){ro:Option Nat}{Q:Exit->Act->World->Prop} :
 o.wpIn (Fw ro) 0 C.P a w (fun a' w'=>∃v ax,a'=a.put o.dst v/\Step Ψ w ax w'/\qak C B ax w w' j v b (.sl j)) Q:=by
 obtain⟨f,args,ats,g,gs,x,ho,hef,hs,tW,hg,hd',hpre,rfl⟩:=hy;have o7:∀c,o.op≠ .defer c:=fun c hc=>by rw[ho]at hc;cases hc
 refine⟨fun _ _=>trivial,?_⟩
 rw[Oper.semAt_eq _ _ _ o7];have Nd:=cI f (by simp[ho,Op.operands,Call.operands])
 rw[hef]at Nd;obtain⟨vs,Nd,hl⟩:=Nd;simp only[aL]at hl;subst hl;rw[FA ho Nd hg];have hargs:=ia (Ψ:=Ψ) (β:=β) (fr:=mid) (a:=a) args.toList fun x hx=>cI x (by simp[ho,Op.operands,Call.operands];exact .inr (by simpa using hx))
 rw[WaA];have bu:=gE (bW.refl Ψ) hd' hargs (by rw[gD tW];exact cc.nil)
 refine⟨fun h=>(by cases ro<;>cases h),(oA ro _ (Jb (px:=[]) (hsp.2.1 g gs hs) hi bu hpre)).mono ?_⟩
 rintro e w' ⟨v,ax,rfl,hst,hone,eV,hfree⟩
 exact⟨v,ax,rfl,hst,hone,fun β' aH=>⟨T2 aH hi.size eV,fun g hc=>Wch (ct eV (Bx aH hc)).1,fun g hc=>hfree g (Bx aH hc),aH,iN eV rfl⟩⟩
theorem qeH{o:Oper}{b:aB}{j:Nat}(hy:qlX C o b)(hi:aD C.P B w0 Ψ β h w){ro:Option Nat}{Q:Exit->Act->World->Prop} :
 o.wpIn (Fw ro) 0 C.P a w (fun a' w'=>∃v ax,a'=a.put o.dst v/\Step Ψ w ax w'/\qak C B ax w w' j v b (.own j 0)) Q:=by
 have hcs:Tt C o=some b:=hy;obtain⟨dst,op,ty,pos,after,guard⟩:=o;unfold Tt at hcs;split at hcs
 ·rename_i t ho;simp only at ho
  subst ho;split at hcs
  ·rename_i z hz;obtain⟨i,v,Vv,Ib,rfl⟩:=fJ hz;have o7:∀c,(Op.alloc t)≠ .defer c:=fun c hc=>by cases hc
   refine⟨fun _ _=>trivial,?_⟩
   rw[Oper.semAt_eq _ _ _ o7];have hrun:(execOp a.eval {dst:=dst,op:=.alloc t,type:=ty,pos:=pos,after:=after,guard:=guard}).run C.P w= .ok (.value (.pointer (some ⟨w.heap.size,0,none⟩))) (w.alloc (.cells v.cells t)):=by
    simp[execOp,Instr.alloc,zeroValue,typeInfo,Vv,Ib,newVar,newRow]
   rw[hrun];have fin:∀b':aB,(∀β':List Value,β'[j]?=some (.pointer (some ⟨w.heap.size,0,none⟩))->cn C.P B Ψ β' (w.alloc (.cells v.cells t)) j b')->(∀β' g,af β' j g b'->β'[j]?=some (.pointer (some ⟨g,0,none⟩)))->
    ∃u ax,a.put dst (.pointer (some ⟨w.heap.size,0,none⟩))=a.put dst u/\Step Ψ w ax (w.alloc (.cells v.cells t))/\qak C B ax w (w.alloc (.cells v.cells t)) j u b' (.own j 0):=by
    intro b' hb' hcl;refine⟨_,Ψ,rfl,⟨(Below.refl _ w).alloc (Wan _) _,bW.refl _,fun _ _ h=>.inl h⟩,rfl,fun β' aH=>⟨hb' β' aH,fun g hc=>?_,fun g hc ad had hs=>?_,w.heap.size,aH,rfl⟩⟩
    ·have hc:=hcl _ _ hc;rw[aH]at hc;simp at hc
     omega
    ·have hc:=hcl _ _ hc;rw[aH]at hc;simp at hc
     cases hp:Ψ ad with
     |none=>rfl
     |some u=>
      have:=qm (hi.prom ad u hp)
      omega
   cases had:C.zb t with
   |true=>
    rw[had,cond_true]at hcs;split at hcs
    ·rename_i u sz hu hsz;split at hcs
     ·rename_i hc;simp only[Wac]at hc;split at hcs
      ·rename_i x hx;simp only[Option.some.injEq]at hcs;subst hcs;have hrefs:refs (ofV v)=[]:=by
        have:=o6 hc.2
        simpa [cS]using this
       have hrd:=rj (ku (β:=β) (bW.refl Ψ) hx (iU v) (by rw[hrefs];exact cc.nil))
       exact fin _ (fun β' aH=>⟨w.heap.size,v.cells,t,aH,heap_alloc_new w _,gW hi.size,hrd⟩) (fun _ _ hc=>hc)
      ·cases hcs
     ·cases hcs
    ·cases hcs
   |false=>
    rw[had,cond_false]at hcs;split at hcs
    ·rename_i cs hc;simp only[Option.some.injEq]at hcs;subst hcs;obtain⟨hl,h1⟩:=hO (Ψ:=Ψ) (β:=[]) (fun k u hk=>by simp at hk) hc (iU v)
     exact fin _ (fun β' aH=>⟨w.heap.size,v.cells,t,aH,heap_alloc_new w _,gW hi.size,aX (bW.refl _) (fun k v h=>by simp at h) _ _ hl,h1⟩) (fun _ _ hc=>hc)
    ·cases hcs
  ·cases hcs
 ·cases hcs
theorem qeI{o:Oper}{mid:List AV}{b:aB}{j:Nat}(hy:qlY C h o mid b)(hi:aD C.P B w0 Ψ β h w)(cI:∀x∈o.op.operands,aE Ψ β (ev mid x) (a.eval x)){ro:Option Nat}{Q:Exit->Act->World->Prop} :
 o.wpIn (Fw ro) 0 C.P a w (fun a' w'=>∃v ax,a'=a.put o.dst v/\Step Ψ w ax w'/\qak C B ax w w' j v b (.sl j)) Q:=by
 obtain⟨args,ats,e,y,t,tx,tid,sz,z,ys,ho,hargs,Fy,htf,hel,hsz,hz,hys,hcell,hzo,hroom,rfl⟩:=hy;obtain⟨dst,op,ty,pos,after,guard⟩:=o;simp only at ho cI
 subst ho;have o7:∀c,(Op.call {callee:=.builtin .append,args,argTypes:=ats})≠ .defer c:=fun c hc=>by cases hc
 refine⟨fun _ _=>trivial,?_⟩
 rw[Oper.semAt_eq _ _ _ o7];have bu:=ia (Ψ:=Ψ) (β:=β) (fr:=mid) (a:=a) args.toList (fun x hx=>cI x (by simp only[Op.operands,Call.operands,Wbf];exact .inr (by simpa using hx)))
 rw[hargs]at bu;obtain⟨u,vs',hvs,hu,hl⟩:=bu;obtain⟨v,qin,rfl,hv,hl⟩:=hl;simp only[aL]at hl;subst hl;obtain⟨ad,rfl,vD⟩:=hu;obtain⟨i,zv,hT⟩:=Vy hel hsz hz hcell hzo;obtain⟨news,hs,hd⟩:=ux hi hv hys;obtain⟨u',w',hrun,hb,hone,eV,hcl⟩:=append_empty (ty:=ty) hT ad hs hd hi.size hroom;have ql1:ats= #[t,tx]:=by rw[<-Wbl (xs:=ats),Fy]
 subst ql1;have hmap:args.map a.eval= #[.slice ad 0 0,v]:=by
  rw[<-Wbl (xs:=args.map a.eval),Array.toList_map,hvs];rfl
 have nP:(execOp a.eval {dst:=dst,op:=.call {callee:=.builtin .append,args,argTypes:=#[t,tx]},type:=ty,pos:=pos,after:=after,guard:=guard}).run C.P w= .ok (.value u') w':=by
  have h0:(do pure (Next.value (<-Builtin.append_ #[t,tx] ty #[.slice ad 0 0,v])):Sem Next).run C.P w= .ok (.value u') w':=by simp[hrun]
  rw[<-h0];simp[execOp,resolve,invoke,builtin,hmap]
 rw[nP];refine⟨u',Ψ,rfl,⟨hb,bW.refl _,fun _ _ h=>.inl h⟩,hone,fun β' aH=>⟨eV β' j aH,fun g hc=>hcl β' j g aH hc,fun g hc ad' had hs'=>?_,aH,?_⟩⟩
 ·cases hp:Ψ ad' with
  |none=>rfl
  |some x=>
   have h1:=qm (hi.prom ad' x hp);have h2:=hcl β' j g aH hc;omega
 ·exact iN (eV β' j aH) aH
theorem qiy(hsp:au C){o:Oper}{mid:List AV}{av:AV}(hy:Yld C h o mid av)(hi:aD C.P B w0 Ψ β h w)(cI:∀x∈o.op.operands,aE Ψ β (ev mid x) (a.eval x)){ro:Option Nat}{Q:Exit->Act->World->Prop} :
 o.wpIn (Fw ro) 0 C.P a w (fun a' w'=>∃v ax,a'=a.put o.dst v/\Step Ψ w ax w'/\aE ax β av v) Q:=by
 have o7:∀c,o.op≠ .defer c:=fun c hc=>by
  rcases hy with ⟨f,args,ats,g,sp,x,ho,_⟩|⟨hn,_⟩
  ·rw[ho]at hc;cases hc
  ·rw[hc]at hn;simp[neutral]at hn
 refine⟨fun _ _=>trivial,?_⟩
 rw[Oper.semAt_eq _ _ _ o7];rcases hy with ⟨f,args,ats,g,sp,x,ho,hef,hs,hc,hg,hd,hpre,rfl⟩|⟨hn,r,hr,hp,rfl⟩
 ·have Nd:=cI f (by simp[ho,Op.operands,Call.operands])
  rw[hef]at Nd;obtain⟨vs,Nd,hl⟩:=Nd;simp only[aL]at hl;subst hl;rw[FA ho Nd hg];have hargs:=ia (Ψ:=Ψ) (β:=β) (fr:=mid) (a:=a) args.toList fun x hx=>cI x (by simp[ho,Op.operands,Call.operands];exact .inr (by simpa using hx))
  rw[WaA];refine⟨fun h=>(by cases ro<;>cases h),(oA ro _ (w6 (hsp.1 g sp hs) hi (xW sp.ps hargs) hd hpre (hc.imp id gD))).mono ?_⟩
  rintro e w' ⟨v,ax,rfl,hst,hv⟩
  exact⟨v,ax,rfl,hst,hv⟩
 ·obtain⟨_,_,v,ax,w',hrun,hst,hv⟩:=wZ hi cI hn hr hp;rw[hrun];exact⟨v,ax,rfl,hst,hv⟩
end Go.AM
