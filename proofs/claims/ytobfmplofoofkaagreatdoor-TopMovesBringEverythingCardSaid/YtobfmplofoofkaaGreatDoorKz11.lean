import Derived.Test.YtobfmplofoofkaaGreatDoorKz8
import Derived.Test.YtobfmplofoofkaaGreatDoorKz10
import Derived.Test.YtobfmplofoofkaaGreatDoorKz9
import Derived.Test.YtobfmplofoofkaaGreatDoorKz3
import Derived.Test.YtobfmplofoofkaaGreatDoorProg
import Derived.Tactics
import Derived.Tactics2
import Derived.WalkKit
import Derived.WalkSpells
import Derived.StillTactics
import Derived.Laws.Pointers
import Derived.Laws.Externs
import Derived.LoopN
import Derived.Handy
import Derived.Lib.Walk
import Derived.Shelf.Spec.SlicesInsertGrow
import Derived.Sort.Grow
import Derived.KernelRfl
set_option linter.unusedSimpArgs false
set_option linter.unusedVariables false
namespace Go.PL
open Go.AM
abbrev Nm:=List (Int×Int×List (List Int))
def DR(m:Nm):Prop:=∀p∈m,0<=p.2.1
def Ng(m:Nm)(n:Int)(t:List Int):Bool:=kj m (eY m n) t
def AW(m m':Nm):Prop:=∀n t,Ng m n t=true->Ng m' n t=true
theorem AW.refl(m:Nm):AW m m:=fun _ _ h=>h
theorem AW.trans{a b c:Nm}(h:AW a b)(h':AW b c):AW a c:=fun n t k=>h' n t (h n t k)
theorem nM:∀{m:Nm} {n:Int},0<=eY m n->∃p∈m,p.2.1=eY m n
 |[],n,h=>absurd h (by simp[eY])
 |p::m,n,h=>by
  unfold eY at h ⊢;split
  ·exact⟨p,Waq,rfl⟩
  ·rename_i hp;rw[if_neg hp]at h;obtain⟨q,h1,h2⟩:=nM h;exact⟨q,Wal _ h1,h2⟩
theorem uD:∀{m:Nm} {g:Int} {t:List Int},DR m->g<0->kj m g t=false
 |[],_,_,_,_=>rfl
 |p::m,g,t,hk,h=>by
  have:=hk p Waq
  unfold kj;rw[if_neg (by omega)]
  exact uD (fun q hq=>hk q (Wal _ hq)) h
theorem MP:∀{m:Nm} {n n' g:Int},DR m->eY (m++[(n,g,[])]) n'=if eY m n'<0 then (if n=n' then g else-1) else eY m n'
 |[],n,n',g,_=>by
  show (if n=n' then g else-1)=_
  rw[if_pos (show eY [] n'<0 by simp[eY])]
 |p::m,n,n',g,hk=>by
  have hp:=hk p Waq;have ih:=MP (n:=n) (n':=n') (g:=g) fun q hq=>hk q (Wal _ hq)
  show (if p.1=n' then p.2.1 else eY (m++[(n,g,[])]) n')=_
  by_cases h:p.1=n'
  ·have e:eY (p::m) n'=p.2.1:=by unfold eY;rw[if_pos h]
   rw[e,if_pos h,if_neg (by omega)]
  ·have e:eY (p::m) n'=eY m n':=by
    conv=>lhs;unfold eY
    rw[if_neg h]
   rw[e,if_neg h,ih]
theorem PY:∀{m:Nm} {n g g':Int} {t:List Int},kj (m++[(n,g,[])]) g' t=kj m g' t
 |[],n,g,g',t=>by
  show (if g=g' then decide (t∈([]:List (List Int))) else false)=false
  split<;>simp
 |p::m,n,g,g',t=>by
  show (if p.2.1=g' then _ else kj (m++[(n,g,[])]) g' t)=_
  rw[PY];rfl
theorem MQ:∀{m:Nm} {g n:Int} {t:List Int},eY (ko m g t) n=eY m n
 |[],_,_,_=>rfl
 |p::m,g,n,t=>by
  have ih:=MQ (m:=m) (g:=g) (n:=n) (t:=t);unfold ko;split
  ·rfl
  ·show (if p.1=n then p.2.1 else eY (ko m g t) n)=_
   rw[ih];rfl
theorem PZ{l:List (List Int)}{t x:List Int}:x∈KA l t↔x∈l\/x=t:=by
 unfold KA;split
 ·rename_i h;exact⟨.inl,fun k=>k.elim id fun e=>by rw[e];exact h⟩
 ·rw[WbH,Wbs]
theorem P1:∀{m:Nm} {g g':Int} {t x:List Int},kj m g' x=true->kj (ko m g t) g' x=true
 |[],_,_,_,_,h=>by cases h
 |p::m,g,g',t,x,h=>by
  unfold kj at h;unfold ko;split
  ·show (if p.2.1=g' then decide (x∈KA p.2.2 t) else kj m g' x)=true
   split
   ·rename_i hp;rw[if_pos hp]at h;exact decide_eq_true (PZ.2 (.inl (of_decide_eq_true h)))
   ·rename_i hp;rw[if_neg hp]at h;exact h
  ·show (if p.2.1=g' then decide (x∈p.2.2) else kj (ko m g t) g' x)=true
   split
   ·rename_i hp;rw[if_pos hp]at h;exact h
   ·rename_i hp;rw[if_neg hp]at h;exact P1 h
theorem U1:∀{m:Nm} {g:Int} {t:List Int},(∃p∈m,p.2.1=g)->kj (ko m g t) g t=true
 |[],_,_,h=>by obtain⟨p,hp,_⟩:=h;cases hp
 |p::m,g,t,h=>by
  unfold ko;split
  ·rename_i hp;show (if p.2.1=g then decide (t∈KA p.2.2 t) else kj m g t)=true
   rw[if_pos hp];exact decide_eq_true (PZ.2 (.inr rfl))
  ·rename_i hp;show (if p.2.1=g then decide (t∈p.2.2) else kj (ko m g t) g t)=true
   rw[if_neg hp];refine U1 ?_
   obtain⟨q,hq,e⟩:=h;rcases List.mem_cons.1 hq with h|h
   ·rw[h]at e;exact absurd e hp
   ·exact⟨q,h,e⟩
theorem MR{m:Nm}(h:DR m)(g:Int)(t:List Int):DR (ko m g t):=by
 induction m with
 |nil=>exact h
 |cons p m ih=>
  have h1:=h p Waq;have h2:=ih fun q hq=>h q (Wal _ hq)
  unfold ko;split
  ·intro q hq;rcases List.mem_cons.1 hq with e|e
   ·rw[e];exact h1
   ·exact h q (Wal _ e)
  ·intro q hq;rcases List.mem_cons.1 hq with e|e
   ·rw[e];exact h1
   ·exact h2 q e
theorem HE{m:Nm}(h:DR m){n g:Int}(hg:0<=g):DR (m++[(n,g,[])]):=fun p hp=>by
 rcases List.mem_append.1 hp with hp|hp
 ·exact h p hp
 ·rw[List.mem_singleton.1 hp];exact hg
theorem tj{m:Nm}(h:DR m){n g:Int}:AW m (m++[(n,g,[])]):=fun n' t k=>by
 unfold Ng at k ⊢;rw[MP h,PY];by_cases hn:eY m n'<0
 ·rw[uD h hn]at k;cases k
 ·rw[if_neg hn];exact k
theorem HF{m:Nm}(h:DR m){n g:Int}(hn:eY m n<0):eY (m++[(n,g,[])]) n=g:=by rw[MP h,if_pos hn,if_pos rfl]
theorem MT{m:Nm}(g:Int)(t:List Int):AW m (ko m g t):=fun n x k=>by
 unfold Ng at k ⊢;rw[MQ];exact P1 k
theorem qcS{m:Nm}{n:Int}(h:0<=eY m n)(t:List Int):Ng (ko m (eY m n) t) n t=true:=by
 unfold Ng;rw[MQ];exact U1 (nM h)
structure ni (nm:List Int->List Int) (i:Nat) (s:List It):Prop where
 ok:oh nm s
 len:s.length<=i
 txt:∀it∈s,it.2.1.length<=20000
theorem ni.nil{nm:List Int->List Int}:ni nm 0 []:=⟨⟨List.Pairwise.nil,fun it h=>by cases h⟩,Wan _,fun it h=>by cases h⟩
theorem ni.le{nm:List Int->List Int}{i j:Nat}{s:List It}(h:ni nm i s)(hij:i<=j):ni nm j s:=⟨h.ok,Wbj h.len hij,h.txt⟩
theorem qcT{nm:List Int->List Int}{s:List It}{t:List Int}{x:It}(h:x∈s):x∈(jL nm s t).1:=by
 unfold jL;split
 ·exact h
 ·split
  ·exact h
  ·split
   ·exact h
   ·exact OT h
theorem ni.add{nm:List Int->List Int}{i:Nat}{s:List It}(h:ni nm i s){t:List Int}(ht:t.length<=20000)(hn:aV (nm t)):ni nm (i+1) (jL nm s t).1:=by
 unfold jL;split
 ·exact h.le (Nat.le_succ _)
 ·split
  ·exact h.le (Nat.le_succ _)
  ·rename_i hno;split
   ·exact h.le (Nat.le_succ _)
   ·refine⟨⟨uS h.ok.1 (by simpa using hno),fun it hi=>?_⟩,by rw[qa5];exact Nat.succ_le_succ h.len,fun it hi=>?_⟩
    ·rcases (jY h.ok.1).1 hi with e|e
     ·rw[e];exact⟨hn,rfl,by show t.length<=_;omega⟩
     ·exact h.ok.2 it e
    ·rcases (jY h.ok.1).1 hi with e|e
     ·rw[e];exact ht
     ·exact h.txt it e
def qkl(nm:List Int->List Int)(s:List It)(t:List Int):Prop:=(nm t,t,())∈s
theorem qgh{nm:List Int->List Int}{s:List It}{t:List Int}(h1:cJ s (nm t)=true)(h2:(cD s (nm t)).getD []=t):qkl nm s t:=by
 unfold cD at h2;cases e:s.find? (fun it=>decide (it.1=nm t)) with
 |none=>
  rw[List.find?_eq_none]at e
  obtain⟨it,hi,hx⟩:=je.1 h1;exact absurd (decide_eq_true hx) (e it hi)
 |some it=>
  rw[e]at h2;have hm:=Wcp e;have hd:=WcO e;have hx:it.1=nm t:=by simpa using hd
  obtain⟨a,b,u⟩:=it;have hx:a=nm t:=hx;have h2:b=t:=h2;subst h2;subst hx;exact hm
theorem qkm(t:Int)(l:List (List Int)):aV (iq t l):=by
 refine⟨s7 t l,fun c hc=>?_⟩
 unfold iq Is at hc;obtain⟨i,_,rfl⟩:=List.mem_map.1 (Wa5 hc);unfold RM sR IntKind.wrap;simp[IntKind.bits,IntKind.signed]
 omega
theorem MU(t:List Int):aV (eK t):=qkm _ _
theorem HG{T:List It}(hT:TOk T):∀(f:Nat) {a b:List It} {q:List (Int×Pc)},PW T a->PW T b->(∀w∈q,HB T w.2)->PW T (nQ Hx eK f a b q).1.1/\PW T (nQ Hx eK f a b q).1.2
 |0,a,b,[],ha,hb,_=>⟨ha,hb⟩
 |_+1,a,b,[],ha,hb,_=>⟨ha,hb⟩
 |0,a,b,w::q,ha,hb,_=>⟨ha,hb⟩
 |f+1,a,b,w::q,ha,hb,hq=>by
  have hw:=hq w Waq;have Oc:∀v∈q,HB T v.2:=fun v hv=>hq v (Wal _ hv)
  unfold nQ;split
  ·obtain⟨h1,h2,_⟩:=wo hT ha hw;split
   ·exact⟨ha,hb⟩
   ·refine HG hT f h1 hb fun v hv=>?_
    rcases List.mem_append.1 hv with hv|hv
    ·exact Oc v hv
    ·obtain⟨m,hm,rfl⟩:=List.mem_map.1 hv;exact h2 m hm
  ·obtain⟨h1,h2,_⟩:=wo hT hb hw;split
   ·exact⟨ha,hb⟩
   ·refine HG hT f ha h1 fun v hv=>?_
    rcases List.mem_append.1 hv with hv|hv
    ·exact Oc v hv
    ·obtain⟨m,hm,rfl⟩:=List.mem_map.1 hv;exact h2 m hm
theorem P2{a b:List It}(h:lE a b):PW (a++b) (kR Hx eK a b).1.1/\PW (a++b) (kR Hx eK a b).1.2:=by
 have hs:=MI.start h;refine HG (qhA h) 5001 hs.JG hs.Nf fun w hw=>?_
 rw[List.mem_singleton.1 hw];exact HC (by show jW.length=16;decide)
def SX:It:=(eK [120],[120],())
theorem qqr:oh eK [SX]:=⟨WbE _ _,fun it hi=>by
 rw[List.mem_singleton.1 hi];exact⟨MU _,Eq.refl (eK [120]),Nat.succ_le_of_lt (by decide)⟩⟩
theorem qhB:lE [SX] []:=⟨qqr,⟨List.Pairwise.nil,fun it hi=>by cases hi⟩,by decide,by decide,fun it hi=>by
 rw[List.mem_singleton.1 hi];show 1<=20000
 omega⟩
theorem qnt:decide (Hx [eK [120]]=Hx [])=false:=by kernel_rfl
theorem qkn:jM Hx [SX] []:=fun it hi _ n hn=>by
 rw[List.mem_singleton.1 hi];have hu:under (nB SX.1 n) SX.1=true:=(gJ _ _).2 (by show cG SX.1 (n:Int).toNat=cG SX.1 n;rw[Waw])
 have e1:ai [SX] (nB SX.1 n)=[SX]:=by
  unfold ai;rw[WbC (by exact hu)]
  rfl
 have e2:ai [] (nB SX.1 n)=[]:=rfl;rw[e1,e2];exact of_decide_eq_false qnt
theorem qcU{c:List It}{x:It}(hl:c.length<=1)(h:x∈c):c=[x]:=by
 cases c with
 |nil=>cases h
 |cons y c=>
  have hc:c=[]:=WaT (by rw[Wae]at hl;omega)
  subst hc;rw[List.mem_singleton.1 h]
theorem qcV{x:It}(h:lE [x] [])(hc:jM Hx [x] []):kR Hx eK [x] []=(([x],[x]),true):=by
 obtain⟨c,e⟩:=Gn (H:=Hx) (nm:=eK) h.1 h.2.1 h.2.2.1 h.2.2.2.1 hc (fun it hi=>by cases hi) (fun i _ j hj=>by cases hj)
 have h1:=(P2 h).1;have h2:∀y,y∈[x]->y∈(kR Hx eK [x] []).1.1:=(sV (H:=Hx) (nm:=eK) 5001 [x] [] [(1,aP Hx [x] root)]).1;have h2:=h2 x (List.mem_singleton.2 rfl);rw[e]at h1 h2;have h1:PW ([x]++[]) c:=h1;rw[e,qcU h1.len h2]
theorem qko:kR Hx eK [SX] []=(([SX],[SX]),true):=qcV qhB qkn
theorem qcW(nm:List Int->List Int)(t:List Int)(ht:t.length<=1048576):jL nm [] t=([(nm t,t,())],0):=by
 have h2:¬cJ [] (nm t)=true:=by simp[cJ,aA]
 have h3:¬65536<=([]:List It).length:=by simp
 unfold jL;rw[if_neg (by omega),if_neg h2,if_neg h3]
 rfl
theorem qnu:jL eK [] [120]=([SX],0):=qcW eK [120] (by simp)
end Go.PL
namespace Go.Proofs.YtobfmplofoofkaaGreatDoor
open Go.AM Go.PL
attribute [local irreducible] aW cz
theorem U2:Tryz.prog.bytesOf 9=16:=by kernel_rfl
theorem XM:Sat bs.P 125 Md:=bq Co (fun x=>qb3 x.1.1 x.2) fun (x:Sk×Px) hk hp=>by
 obtain⟨⟨s,⟨⟩⟩,p⟩:=x;obtain⟨⟨hs,hl,ht⟩,hr⟩:eA s/\bQ p=true:=hp
 have hok:=J8 hk.1;dsimp only;have hu:(ai s p).length<=900:=Wbj (WaF _ _) hl;have hn:(aA (ai s p)).length=(ai s p).length:=Wav _;have h16:∀d∈aA (ai s p),d.length=16:=fun d hd=>by
  obtain⟨it,h1,rfl⟩:=List.mem_map.1 hd;exact (hok it (List.mem_filter.1 h1).1).1
 simp only[mB];refine⟨⟨⟨hs,hl,ht⟩,hr⟩,fun x=>0<=x.1/\x.1<=(ai s p).length/\x.2.1=(aA (ai s p)).take x.1.toNat,fun x=>((ai s p).length-x.1).toNat,⟨Waz _,by omega,rfl⟩,?_⟩
 rintro⟨i,l,dd⟩ ⟨i0,i1,i2⟩
 dsimp only at i0 i1 i2 ⊢;subst i2;refine⟨fun h=>?_,fun h=>?_⟩
 ·have h:=dt h;have e1:(i+1).toNat=i.toNat+1:=by omega
  have hlen:((aA (ai s p)).getD i.toNat (List.replicate 16 0)).length=16:=by
   rw[Wab,Waa (by omega)]
   exact h16 _ (WaJ _)
  have e2:List.take 16 ((aA (ai s p)).getD i.toNat (List.replicate 16 0))=(aA (ai s p)).getD i.toNat (List.replicate 16 0):=Wap (by omega)
  rw[Wbe,e2,oJ _ _ (by omega)]
  exact⟨⟨i0,h⟩,⟨by decide,by decide,by decide,by decide⟩,Dc 16 U2 (by omega) (by simp only[Waf,Wae,WaB];omega),bP (by omega) (by omega),⟨by omega,by omega,by rw[e1]⟩,by omega⟩
 ·have h:=df h;have e:(aA (ai s p)).take i.toNat=aA (ai s p):=Wap (by omega)
  rw[e,hn];refine⟨⟨by omega,fun d hd=>by rw[h16 d hd];omega⟩,rfl⟩
theorem XN:au JD2:=az ⟨XM,trivial⟩ trivial
theorem J9:Sat bs.P 98 Et:=bq XN (fun x=>qb4 x.1.1 x.2) fun (x:Sk×Px) hk hp=>by
 delta fQ eL ln y0 y1 ya BJ zW kD BK BL y2 y3 y4 y5 y6 y7 y8 y9 z0 z1
 obtain⟨⟨s,⟨⟩⟩,p⟩:=x;dsimp only;rw[nG (l:=p.1) hk.2.1.1,nG (l:=Hx (aA (ai s p))) (s7 _ _)];exact⟨hp,rfl⟩
theorem XO:au JD3:=az ⟨J9,trivial⟩ trivial
theorem pG:bQ root=true:=by decide
theorem XP:Sat bs.P 49 Me:=bq XO (fun x=>qb5 x.1) fun (x:Sk) hk hp=>⟨⟨hp,pG⟩,rfl⟩
end Go.Proofs.YtobfmplofoofkaaGreatDoor
namespace Go.PL
open Go.AM
theorem qcX:∀c∈List.range 256,∀r∈List.range 8,mb (c:Int) r=(c:Int)->IntKind.u8.wrap ((c:Int)+128 / (2:Int) ^ r)=(c:Int)+128 / 2 ^ r:=by decide+kernel
theorem qcY:∀c∈List.range 256,∀r∈List.range 8,decide (aK BinOp.and IntKind.u8 ((c:Int) / (2:Int) ^ (7-r)) 1=1)=qa1 (c:Int) r:=by decide+kernel
theorem tq{d:List Int}(hd:aV d){n:Nat}(hn:n<=128):gI (cG d n,(n:Int),()):=
 ⟨by show (0:Int)<=(n:Int);omega,by show (n:Int)<=128;omega,dZ d n,by show cG (cG d n) (n:Int).toNat=cG d n;rw[Waw,sS hd,Nat.min_self]⟩
theorem Ka{d x:List Int}(hd:aV d)(hx:aV x):∀n:Nat,n<=128->((∀k,k<n->og d k=og x k)↔cG d n=cG x n)
 |0,_=>⟨fun _=>by rw[pF hd,pF hx],fun _ k hk=>absurd hk (by omega)⟩
 |n+1,hn=>by
  have ih:=Ka hd hx n (by omega)
  constructor
  ·intro h;have e:=ih.1 fun k hk=>h k (by omega)
   rw[kE hd (by omega),kE hx (by omega),e,h n (by omega)]
  ·intro h;have e:cG d n=cG x n:=by
    have:=congrArg (fun l=>cG l n) h
    simp only[sS hd,sS hx]at this;rw[show min (n+1) n=n by omega]at this
    exact this
   intro k hk;rcases Wak k n with hlt|hge
   ·exact ih.2 e k hlt
   ·have:k=n:=by omega
    subst this;rw[kE hd (by omega),kE hx (by omega),<-e]at h
    exact JE (tq hd (by omega)) (by show ((k:Nat):Int)<128;omega) h
theorem SY{p:Px}(hp:aV p.1)(hr:bQ p=true){x:List Int}(hx:aV x):under p x=true↔∀k,k<p.2.1.toNat->og p.1 k=og x k:=by
 obtain⟨⟨h0,h1⟩,h2⟩:=fC.1 hr;rw[Ka hp hx _ (by omega),gJ,h2]
 exact⟨Eq.symm,Eq.symm⟩
theorem qcZ{x:List Int}(hx:aV x){n:Nat}(hn:n<128):half (nB x n) (og x n)=nB x (n+1):=by
 have e:=kE hx hn;unfold nB half;rw[e];rfl
theorem XQ{x:List Int}(hx:aV x){n:Nat}(hn:n<=128):bQ (nB x n)=true:=fC.2 ⟨⟨(tq hx hn).1,(tq hx hn).2.1⟩,(tq hx hn).2.2.2⟩
theorem qc0{x:List Int}(hx:aV x):nB x 0=root:=by
 unfold nB;rw[pF hx];rfl
def gN(s:List It)(x:List Int):Int:=match s.findIdx? (fun it=>decide (it.1=x)) with|some i=>(i:Int)|none=>-1
theorem P3{s:List It}{x:List Int}{z:It}{i:Nat}(hi:i<s.length)(h:(s.getD i z).1=x)(hn:∀k,k<i->(s.getD k z).1≠x):gN s x=(i:Int):=by
 have e:s.findIdx? (fun it=>decide (it.1=x))=some i:=by
  rw[List.findIdx?_eq_some_iff_getElem]
  refine⟨hi,?_,fun j hj=>?_⟩
  ·rw[Wab,Waa hi]at h;exact decide_eq_true h
  ·have:=hn j hj
   rw[Wab,Waa (by omega)]at this
   simpa using this
 unfold gN;rw[e]
theorem P4{s:List It}{x:List Int}(hn:∀it∈s,it.1≠x):gN s x= -1:=by
 have e:s.findIdx? (fun it=>decide (it.1=x))=none:=by
  rw[List.findIdx?_eq_none_iff]
  intro it hit;exact decide_eq_false (hn it hit)
 unfold gN;rw[e]
theorem P5(s:List It)(x:List Int)(z:It):(gN s x= -1/\cD s x=none)\/(0<=gN s x/\gN s x<s.length/\cD s x=some (s.getD (gN s x).toNat z).2.1):=by
 cases e:s.findIdx? (fun it=>decide (it.1=x)) with
 |none=>
  rw[List.findIdx?_eq_none_iff]at e
  have hn:∀it∈s,it.1≠x:=fun it hit=>of_decide_eq_false (e it hit)
  exact .inl ⟨P4 hn,m8.2 (Gi.2 hn)⟩
 |some i=>
  have e':=e;rw[List.findIdx?_eq_some_iff_getElem]at e'
  obtain⟨hi,h1,h2⟩:=e';have hp:gN s x=(i:Int):=by unfold gN;rw[e]
  refine .inr ⟨by omega,by omega,?_⟩
  have hf:s.find? (fun it=>decide (it.1=x))=some s[i]:=by
   rw[List.find?_eq_some_iff_getElem]
   exact⟨h1,i,hi,rfl,fun j hj=>by simpa using h2 j hj⟩
  unfold cD;rw[hf,hp,Waw,Wab,Waa hi];rfl
theorem Kb(op:BinOp)(k:IntKind)(a b:Int)(h:op= .and\/op= .or\/op= .xor):aK op k a b=aK op k b a:=by
 rcases h with rfl|rfl|rfl
 ·show k.wrap _=k.wrap _
  rw[BitVec.and_comm]
 ·show k.wrap _=k.wrap _
  rw[BitVec.or_comm]
 ·show k.wrap _=k.wrap _
  rw[BitVec.xor_comm]
def qh(b:List Int):List Int:=b++OZ b.length
def AD(s m:List Int):Nat->List Int
 |0=>s
 |k+1=>comp (AD s m k) ((m.drop (64*k)).take 64)
def wN(b:List Int):List Int:=(List.range 32).map (RM (AD jN.1 (qh b) ((qh b).length / 64)))
def p6(tag:Int)(parts:List (List Int)):List Int:=IntKind.u8.wrap tag::parts.flatMap bS
theorem XS(s m:List Int):AD s m 0=s:=rfl
theorem rK(s m:List Int)(k:Nat):AD s m (k+1)=comp (AD s m k) ((m.drop (64*k)).take 64):=rfl
theorem HH(s m x:List Int):∀k,64*k<=m.length->AD s (m++x) k=AD s m k
 |0,_=>rfl
 |k+1,h=>by
  rw[rK,rK,HH s m x k (by omega),WaV (by omega),WaR (by rw[List.length_drop];omega)]
structure rL (s:Sm) (M:List Int):Prop where
 ok:JJ s
 n:s.2.2.1=M.length
 st:s.1=AD jN.1 M (M.length / 64)
 bl:s.2.1.take (M.length % 64)=M.drop (64*(M.length / 64))
theorem rL.begin:rL jN []:=⟨Gu,rfl,rfl,rfl⟩
theorem rL.BP{s:Sm}{M l:List Int}(h:rL s M)(hl:l≠[])(hb:M.length+l.length<1000000000):rL (BP s l) (M++l.take (kM s l)):=by
 obtain⟨a1,a2,a3⟩:=Up h.ok;have hn:=h.n;have yU:Uo s=M.length % 64:=by rw[hn]at a3;omega
 have k1:kM s l<=l.length:=WbX _ _;have k2:kM s l<=64-Uo s:=WcM _ _;have hk:=LQ h.ok hl;have hbl:=h.ok.1;have hlen:(M++l.take (kM s l)).length=M.length+kM s l:=by rw[Wad,Waf];omega
 have en:(Go.PL.BP s l).2.2.1=M.length+kM s l:=by
  show IntKind.u64.wrap (s.2.2.1+IntKind.u64.wrap (kM s l:Int))=_
  rw[hn];unfold IntKind.wrap;simp[IntKind.bits,IntKind.signed]
  omega
 have e0:(Go.PL.BP s l).1=if IntKind.i64.wrap (s.2.2.1.tmod 64)+(kM s l:Int)=64 then comp s.1 (((LO s l).drop 0).take 64) else s.1:=rfl
 have e2:(Go.PL.BP s l).2.1=LO s l:=rfl;have eb:LO s l=M.drop (64*(M.length / 64))++l.take (kM s l)++s.2.1.drop (Uo s+kM s l):=by
  unfold LO;rw[yU,h.bl]
 have dl:(M.drop (64*(M.length / 64))).length=M.length % 64:=by rw[List.length_drop];omega
 have tl:(l.take (kM s l)).length=kM s l:=by rw[Waf];omega
 refine⟨Ek h.ok l,by rw[en,hlen];omega,?_,?_⟩
 ·rw[hlen,e0];by_cases hf:Uo s+kM s l=64
  ·rw[if_pos (by rw[a1,<-a3];omega)]
   have eq:(M.length+kM s l) / 64=M.length / 64+1:=by omega
   rw[eq,rK,HH _ _ _ _ (by omega),<-h.st,Wbe,eb]
   have ed:s.2.1.drop (Uo s+kM s l)=[]:=WbY (by omega)
   rw[ed,WaA,WaV (by omega)]
  ·rw[if_neg (by rw[a1,<-a3];omega)]
   have eq:(M.length+kM s l) / 64=M.length / 64:=by omega
   rw[eq,HH _ _ _ _ (by omega),h.st]
 ·rw[hlen,e2,eb];by_cases hf:Uo s+kM s l=64
  ·have eq:(M.length+kM s l) / 64=M.length / 64+1:=by omega
   have e0:(M.length+kM s l) % 64=0:=by omega
   rw[e0,eq,Wcy,WbY (by rw[hlen];omega)]
  ·have eq:(M.length+kM s l) / 64=M.length / 64:=by omega
   have e0:(M.length+kM s l) % 64=M.length % 64+kM s l:=by omega
   rw[eq,e0,WaV (by omega),WaR (by rw[Wad,dl,tl];exact Wan _),Wap (by rw[Wad,dl,tl];exact Wan _)]
theorem rL.tT:∀(f:Nat) {s:Sm} {M l:List Int},rL s M->l.length<=f->M.length+l.length<1000000000->rL (Go.PL.tT f s l) (M++l)
 |0,s,M,l,h,hf,hb=>by
  have:l=[]:=WaT (by omega)
  subst this;rw[WaA];exact h
 |f+1,s,M,l,h,hf,hb=>by
  by_cases hl:l=[]
  ·subst hl;rw[WaA,OW];exact h
  ·have hk:=LQ h.ok hl;have k1:kM s l<=l.length:=WbX _ _;have e:M++l=(M++l.take (kM s l))++l.drop (kM s l):=by rw[Waj,Wax]
   rw[BQ f s hl,e];refine rL.tT f (h.BP hl hb) (by rw[List.length_drop];omega) ?_
   rw[Wad,Waf,List.length_drop];omega
theorem rL.add{s:Sm}{M l:List Int}(h:rL s M)(hb:M.length+l.length<1000000000):rL (om s l) (M++l):=rL.tT _ h (Wan _) hb
theorem HI(n:Int):(OZ n).length=9+gK n:=by
 unfold OZ;simp only[Wad,Wae,Wa7,Wav,List.length_range];omega
theorem rL.sum{s:Sm}{M:List Int}(h:rL s M)(hb:M.length<900000000):Is s=wN M:=by
 unfold Is wN;have hz:gK (M.length:Int)<64:=by unfold gK;omega
 have h2:=h.add (l:=OZ M.length) (by rw[HI];omega)
 rw[h.n,h2.st];rfl
theorem rL.fold:∀(l:List (List Int)) {s:Sm} {M:List Int},rL s M->(∀p∈l,p.length<=100000)->M.length+100010*l.length<900000000->rL (l.foldl (fun s p=>om s (bS p)) s) (M++l.flatMap bS)
 |[],s,M,h,_,_=>by rw[List.flatMap_nil,WaA];exact h
 |p::l,s,M,h,hp,hb=>by
  have e:=oo (hp p Waq);rw[Wae]at hb;rw[WbS,<-Waj,WcL];exact rL.fold l (h.add (by omega)) (fun q hq=>hp q (Wal _ hq)) (by rw[Wad];omega)
theorem Cp{tag:Int}{l:List (List Int)}(h1:l.length<=1000)(h2:∀p∈l,p.length<=100000):(p6 tag l).length<=100010001:=by
 have:=uX (one:=bS) (k:=100010) l fun p hp=>oo (h2 p hp)
 unfold p6;rw[Wae];omega
theorem XT{tag:Int}{l:List (List Int)}(h1:l.length<=1000)(h2:∀p∈l,p.length<=100000):iq tag l=(wN (p6 tag l)).take 16:=by
 have r0:=rL.begin.add (l:=[IntKind.u8.wrap tag]) (by show 0+1<_;omega)
 have r1:=r0.fold l h2 (by show 1+_<_;omega)
 have hl:=Cp (tag:=tag) h1 h2;unfold iq;rw[r1.sum (by show (p6 tag l).length<_;omega)]
 rfl
theorem AE{z c:Int}(hz:0<=z)(hz2:z<16777216)(hc:0<=c)(Qg:c<=255):yf (kW (z*256)) (kW c)=z*256+c:=by
 obtain⟨n,rfl⟩:=Wa8 hz;obtain⟨m,rfl⟩:=Wa8 hc;have w1:kW ((n:Int)*256)=((n*256:Nat):Int):=by unfold kW IntKind.wrap;simp[IntKind.bits,IntKind.signed];omega
 have w2:kW (m:Int)=((m:Nat):Int):=by unfold kW IntKind.wrap;simp[IntKind.bits,IntKind.signed];omega
 rw[w1,w2];unfold yf;show IntKind.u32.wrap ((BitVec.ofInt 32 ((n*256:Nat):Int)|||BitVec.ofInt 32 ((m:Nat):Int)).toNat:Int)=_
 have e:(BitVec.ofInt 32 ((n*256:Nat):Int)|||BitVec.ofInt 32 ((m:Nat):Int)).toNat=n*256+m:=by
  rw[BitVec.toNat_or];simp only[BitVec.ofInt_natCast,BitVec.toNat_ofNat];rw[Wcf (by omega),Wcf (by omega)]
  have h:=Nat.shiftLeft_add_eq_or_of_lt (i:=8) (b:=m) (by omega) n
  rw[Nat.shiftLeft_eq]at h;exact h.symm
 rw[e];unfold IntKind.wrap;simp[IntKind.bits,IntKind.signed]
 omega
end Go.PL
namespace Go.Proofs.YtobfmplofoofkaaGreatDoor
open Go.AM Go.PL
def EG:aJ:=⟨[U32,I],[U32],fun x=>1<=(x.2:Int)/\(x.2:Int)<=31,fun x=>lK x.1 (x.2:Int).toNat⟩
def XU(b:List Int):Prop:=b.length<=200000000
def qgi:cL:=⟨[BY],5,U8,fun b=>XU b,fun b=>qh b⟩
def wq:aJ:=⟨[BY],[Wi],fun b=>(b:List Int).length=64,fun b=>sched b 64⟩
def Cq:aJ:=⟨[BY],[Wj],fun b=>XU b,fun b=>wN b⟩
def AF:aJ:=⟨[BY],[DG],fun b=>XU b,fun b=>(wN b).take 16⟩
def MW:cL:=⟨[I,SS],5,U8,fun x=>sY x.2,fun x=>p6 x.1 x.2⟩
def MX:aJ:=⟨[I,SS],[DG],fun x=>sY x.2,fun x=>iq x.1 x.2⟩
def U3(f:FuncId)(r:Nat):List LA:=
 if Nat.beq f 156 then bif Nat.beq r 3 then [.slot 4 I,.aT 0 Wi,.aT 1 Wi] else [.slot 5 I,.aT 0 Wi,.aT 1 Wi] else
 if Nat.beq f 155 then bif Nat.beq r 3 then [.dF 3 5 U8] else [.slot 5 I,.dF 3 5 U8] else
 if Nat.beq f 136 then [.slot 6 I,.dF 5 5 U8] else
 if Nat.beq f 135 then [.slot 5 I,.aT 0 DG,.aT 1 Wj,.aT 2 DG] else
 if Nat.beq f 149 then
  bif Nat.beq r 4 then [.slot 5 I,.aT 0 Wj,.aT 1 W8] else bif Nat.beq r 9 then [.slot 8 I,.aT 0 Wj,.aT 1 W8,.aT 2 Wi,.aT 3 W8] else
  bif Nat.beq r 15 then [.slot 11 I,.aT 0 Wj,.aT 1 W8,.aT 3 W8] else [.slot 13 I,.aT 0 Wj,.aT 1 W8,.aT 2 Wj] else
 []
def qc1(f:FuncId)(r:Nat):AM.Mode:=
 bif (Nat.beq f 156&&(Nat.beq r 5||Nat.beq r 11))||(Nat.beq f 149&&Nat.beq r 17) then .all else .split
def qc2(f:FuncId):Hint:=if Nat.beq f 999999995 then⟨fun _=>[],fun _=>.split,fun _=>.split,RH⟩ else if Nat.beq f 999999996 then⟨fun _=>[],fun _=>.split,fun _=>.split,fun t=>1⟩ else⟨U3 f,qc1 f,fun _=>.split,fun _=>0⟩
def SZ(f:FuncId):Hint:=if Nat.beq f 999999995 then⟨fun _=>[],fun _=>.split,fun _=>.split,RH⟩ else⟨U3 f,qc1 f,fun _=>.split,fun _=>0⟩
noncomputable def NB0:Ctx:=bA bs [(157,EG),(150,nD.data)] [] qc2
noncomputable def NB1:Ctx:=bA bs [(157,EG),(156,wq),(155,qgi.data)] [] SZ
noncomputable def NB2:Ctx:=bA bs [(149,Cq),(135,AF),(136,MW.data)] [] SZ
theorem qkp(b:List Int):cz NB0 6 155 qgi b=(aM NB0 y5 b.length/\aM NB0 y5 (b.length+y1)/\LP (b++[(128:Int)]) fun I μ x=>j9≠z0/\SP (!decide ((ln x).tmod j9
 =Uf)) (aM NB0 y5 (x.length+y1)/\NX I μ x (x++[z0])) (LP (z0,x) fun I μ x=>SD (x.1<z8) (aa (z8*x.1)/\aa (Uf-z8*x.1)/\(z0<=Uf-z8*x.1/\Uf-z8*x.1<=
 j9)/\aM NB0 y5 (x.2.length+[IntKind.u8.wrap (IntKind.u64.wrap (z8*IntKind.u64.wrap (ln b)) / z2 ^ (Uf-z8*x.1).toNat)].length)/\aa (x.1+z1)/\NX I μ x (x.1+z1,x.2++
 [IntKind.u8.wrap (IntKind.u64.wrap (z8*IntKind.u64.wrap (ln b)) / z2 ^ (Uf-z8*x.1).toNat)])) (x.2=qh b))):=by kernel_rfl
theorem qc3(tag:Int)(l:List (List Int)):cz NB0 6 136 MW (tag,l)=(LP (z0,[IntKind.u8.wrap tag]) fun I μ x=>SD (x.1<(ln l)) ((IR x.1 l)/\(l.getD x.1.toNat
 eI).length<=(100000:Nat)/\aM NB0 y5 (x.2.length+(bS (l.getD x.1.toNat eI)).length)/\aa (x.1+z1)/\NX I μ x (x.1+z1,x.2++bS (l.getD x.1.toNat eI))) (x.2=
 p6 tag l)):=by kernel_rfl
abbrev Cr(x:Int×List Int×List Int):=(x.1+z1,x.2.1,x.2.2.set x.1.toNat (IntKind.u32.wrap (IntKind.u32.wrap (IntKind.u32.wrap (x.2.2.getD (x.1-uR).toNat z0+aK
 BinOp.xor IntKind.u32 (aK BinOp.xor IntKind.u32 (lK (x.2.2.getD (x.1-JC).toNat z0) (Int.toNat z7)) (lK (x.2.2.getD (x.1-JC).toNat z0) (Int.toNat z18))) (x.2.2.getD (x.1-
 JC).toNat z0 / z2 ^ y3))+x.2.2.getD (x.1-z7).toNat z0)+aK BinOp.xor IntKind.u32 (aK BinOp.xor IntKind.u32 (lK (x.2.2.getD (x.1-z2).toNat z0) (Int.toNat z17)) (lK
 (x.2.2.getD (x.1-z2).toNat z0) (Int.toNat z19))) (x.2.2.getD (x.1-z2).toNat z0 / z2 ^ ya))))
theorem S0(b:List Int):aW NB0 6 156 wq b=(LP (z0,have y:=have y:=have y:=have y:=[z0,z0,z0,z0];z0::z0::z0::z0::y;have y:=z0::z0::z0::z0
 ::y;z0::z0::z0::z0::y;have y:=have y:=z0::z0::z0::z0::y;z0::z0::z0::z0::y;have y:=z0::z0::z0::z0::y;z0::z0::z0::z0::y;have y:=have y
 :=have y:=z0::z0::z0::z0::y;z0::z0::z0::z0::y;have y:=z0::z0::z0::z0::y;z0::z0::z0::z0::y;have y:=have y:=z0::z0::z0::z0::y;z0::z0::
 z0::z0::y;have y:=z0::z0::z0::z0::y;z0::z0::z0::z0::y,have y:=have y:=have y:=have y:=[z0,z0,z0,z0];z0::z0::z0::z0::y;have y:=z0::z0::z0
 ::z0::y;z0::z0::z0::z0::y;have y:=have y:=z0::z0::z0::z0::y;z0::z0::z0::z0::y;have y:=z0::z0::z0::z0::y;z0::z0::z0::z0::y;have y:=
 have y:=have y:=z0::z0::z0::z0::y;z0::z0::z0::z0::y;have y:=z0::z0::z0::z0::y;z0::z0::z0::z0::y;have y:=have y:=z0::z0::z0::z0::y;z0
 ::z0::z0::z0::y;have y:=z0::z0::z0::z0::y;z0::z0::z0::z0::y) fun I μ x=>SD (x.1<uR) (aa (z4*x.1)/\(IR (z4*x.1) b)/\(z0<=z24/\z24<=nj)/\aa
 (z4*x.1)/\aa (z4*x.1+z1)/\(IR (z4*x.1+z1) b)/\(z0<=uR/\uR<=nj)/\aa (z4*x.1)/\aa (z4*x.1+z2)/\(IR (z4*x.1+z2) b)/\(z0<=z8/\z8<=nj)/\aa (z4*
 x.1)/\aa (z4*x.1+z3)/\(IR (z4*x.1+z3) b)/\(z0<=x.1/\x.1<j9)/\aa (x.1+z1)/\NX I μ x (x.1+z1,x.2.1,x.2.2.set x.1.toNat (aK BinOp.or IntKind.u32 (aK
 BinOp.or IntKind.u32 (aK BinOp.or IntKind.u32 (IntKind.u32.wrap (IntKind.u32.wrap (b.getD (z4*x.1).toNat z0)*(16777216:Int))) (IntKind.u32.wrap (IntKind.u32.wrap (b.getD (z4*x.1
 +z1).toNat z0)*(65536:Int)))) (IntKind.u32.wrap (IntKind.u32.wrap (b.getD (z4*x.1+z2).toNat z0)*(256:Int)))) (IntKind.u32.wrap (b.getD (z4*x.1+z3).toNat z0))))) (LP (uR,
 x.2) fun I μ x=>SD (x.1<j9) (aa (x.1-JC)/\(z0<=x.1-JC/\x.1-JC<j9)/\(z1<=z7/\z7<=YS)/\aa (x.1-JC)/\(z0<=x.1-JC/\x.1-JC<j9)/\(z1<=z18/\z18<=
 YS)/\aa (x.1-JC)/\(z0<=x.1-JC/\x.1-JC<j9)/\(z0<=z3/\z3<=nj)/\aa (x.1-z2)/\(z0<=x.1-z2/\x.1-z2<j9)/\(z1<=z17/\z17<=YS)/\aa (x.1-z2)/\(z0
 <=x.1-z2/\x.1-z2<j9)/\(z1<=z19/\z19<=YS)/\aa (x.1-z2)/\(z0<=x.1-z2/\x.1-z2<j9)/\(z0<=z10/\z10<=nj)/\aa (x.1-uR)/\(z0<=x.1-uR/\x.1-uR<j9)
 /\aa (x.1-z7)/\(z0<=x.1-z7/\x.1-z7<j9)/\((z0<=x.1/\x.1<j9)/\aa (x.1+z1)/\NX I μ x (Cr x))/\(z0<=x.1/\x.1<j9)/\aa (x.1+z1)/\NX I μ x
 (Cr x)) (x.2.2=sched b y64))):=by kernel_rfl
abbrev HJ:Type:=Int×List Int×List Int×List Int×List Int
abbrev HK:Type:=Int×List Int×List Int×List Int
abbrev S4(x_1:HJ):=IntKind.u32.wrap (IntKind.u32.wrap (IntKind.u32.wrap (x_1.2.2.2.2.getD y7 z0+aK BinOp.xor IntKind.u32 (aK BinOp.xor IntKind.u32 (lK
 (x_1.2.2.2.2.getD y4 z0) (Int.toNat z6)) (lK (x_1.2.2.2.2.getD y4 z0) (Int.toNat z11))) (lK (x_1.2.2.2.2.getD y4 z0) (Int.toNat z25)))+aK BinOp.xor IntKind.u32 (aK BinOp.and
 IntKind.u32 (x_1.2.2.2.2.getD y4 z0) (x_1.2.2.2.2.getD y5 z0)) (aK BinOp.and IntKind.u32 (aK BinOp.xor IntKind.u32 (x_1.2.2.2.2.getD y4 z0) (4294967295:Int)) (x_1.2.2.2.2.getD y6
 z0)))+gA.getD x_1.1.toNat z0)+x_1.2.2.2.1.getD x_1.1.toNat z0
abbrev S5(x_2:HK):=(x_2.1+z1,x_2.2.1,x_2.2.2.1.set x_2.1.toNat (IntKind.u32.wrap (x_2.2.2.1.getD x_2.1.toNat z0+x_2.2.2.2.getD x_2.1.toNat z0)),x_2.2.2.2)
theorem qgk(b:List Int):aW NB1 6 149 Cq b=(XU b/\LP (z0,[z0,z0,z0,z0,z0,z0,z0,z0,z0,z0,z0,z0,z0,z0,z0,z0,z0,z0,z0,z0,z0,z0,z0,z0,z0,z0,z0,z0,
 z0,z0,z0,z0],[(1779033703:Int),(3144134277:Int),(1013904242:Int),(2773480762:Int),(1359893119:Int),(2600822924:Int),(528734635:Int),(1541459225:Int)]) fun I μ x
 =>SD (x.1<(ln (qh b))) (aa (x.1+j9)/\(z0<=x.1/\x.1<=x.1+j9/\x.1+j9<=(ln (qh b)))/\(List.take ((x.1+j9).toNat-x.1.toNat) (List.drop x.1.toNat (qh b))).length
 =y64/\LP (z0,x.2.1,x.2.2,sched (List.take ((x.1+j9).toNat-x.1.toNat) (List.drop x.1.toNat (qh b))) y64,x.2.2) fun wK iS x_1=>SD (x_1.1<j9) ((z0<=z7/\z7<z8)/\(z0<=
 z4/\z4<z8)/\(z1<=z6/\z6<=YS)/\(z0<=z4/\z4<z8)/\(z1<=z11/\z11<=YS)/\(z0<=z4/\z4<z8)/\(z1<=z25/\z25<=YS)/\(z0<=z4/\z4<z8)/\(z0<=z5/\z5<z8)/\(z0<=z4/\
 z4<z8)/\(z0<=z6/\z6<z8)/\(z0<=x_1.1/\x_1.1<j9)/\(z0<=x_1.1/\x_1.1<j9)/\(z0<=z0/\z0<z8)/\(z1<=z2/\z2<=YS)/\(z0<=z0/\z0<z8)/\(z1<=z13/\z13<=YS)/\(z0<=
 z0/\z0<z8)/\(z1<=z22/\z22<=YS)/\(z0<=z0/\z0<z8)/\(z0<=z1/\z1<z8)/\(z0<=z0/\z0<z8)/\(z0<=z2/\z2<z8)/\(z0<=z1/\z1<z8)/\(z0<=z2/\z2<z8)/\(z0<=z0/\z0<
 z8)/\(z0<=z1/\z1<z8)/\(z0<=z2/\z2<z8)/\(z0<=z3/\z3<z8)/\(z0<=z4/\z4<z8)/\(z0<=z5/\z5<z8)/\(z0<=z6/\z6<z8)/\aa (x_1.1+z1)/\NX wK iS x_1 (x_1.1+z1,
 x_1.2.1,x_1.2.2.1,x_1.2.2.2.1,[IntKind.u32.wrap (IntKind.u32.wrap (S4 x_1)+IntKind.u32.wrap (aK BinOp.xor IntKind.u32 (aK BinOp.xor IntKind.u32 (lK (x_1.2.2.2.2.getD y0
 z0) (Int.toNat z2)) (lK (x_1.2.2.2.2.getD y0 z0) (Int.toNat z13))) (lK (x_1.2.2.2.2.getD y0 z0) (Int.toNat z22))+aK BinOp.xor IntKind.u32 (aK BinOp.xor IntKind.u32 (aK
 BinOp.and IntKind.u32 (x_1.2.2.2.2.getD y0 z0) (x_1.2.2.2.2.getD y1 z0)) (aK BinOp.and IntKind.u32 (x_1.2.2.2.2.getD y0 z0) (x_1.2.2.2.2.getD y2 z0))) (aK BinOp.and IntKind.u32
 (x_1.2.2.2.2.getD y1 z0) (x_1.2.2.2.2.getD y2 z0)))),x_1.2.2.2.2.getD y0 z0,x_1.2.2.2.2.getD y1 z0,x_1.2.2.2.2.getD y2 z0,IntKind.u32.wrap (x_1.2.2.2.2.getD y3 z0+IntKind.u32.wrap
 (S4 x_1)),x_1.2.2.2.2.getD y4 z0,x_1.2.2.2.2.getD y5 z0,x_1.2.2.2.2.getD y6 z0])) (LP (z0,x_1.2.1,x_1.2.2.1,x_1.2.2.2.2) fun I_2 qnv x_2=>SD (x_2.1<z8) ((z0<=x_2.1/\x_2.1<
 z8)/\(z0<=x_2.1/\x_2.1<z8)/\((z0<=x_2.1/\x_2.1<z8)/\aa (x_2.1+z1)/\NX I_2 qnv x_2 (S5 x_2))/\(z0<=x_2.1/\x_2.1<z8)/\aa (x_2.1+z1)/\NX I_2 qnv x_2 (S5
 x_2)) (aa (x.1+j9)/\NX I μ x (x.1+j9,x_2.2.1,x_2.2.2.1)))) (LP (z0,x.2.1,x.2.2,[z0,z0,z0,z0,z0,z0,z0,z0,z0,z0,z0,z0,z0,z0,z0,z0,z0,z0,z0,z0,z0,z0,z0,
 z0,z0,z0,z0,z0,z0,z0,z0,z0]) fun I μ x=>SD (x.1<nj) ((z4≠z0/\aa (x.1.tdiv z4))/\(z0<=x.1.tdiv z4/\x.1.tdiv z4<z8)/\z4≠z0/\aa (z8*x.1.tmod z4)/\aa (z24-
 z8*x.1.tmod z4)/\(z0<=z24-z8*x.1.tmod z4/\z24-z8*x.1.tmod z4<=nj)/\(z0<=x.1/\x.1<nj)/\aa (x.1+z1)/\NX I μ x (x.1+z1,x.2.1,x.2.2.1,x.2.2.2.set x.1.toNat
 (IntKind.u8.wrap (x.2.2.1.getD (x.1.tdiv z4).toNat z0 / z2 ^ (z24-z8*x.1.tmod z4).toNat)))) (x.2.2.2=wN b))):=by kernel_rfl
theorem qgl(tag:Int)(l:List (List Int)):aW NB2 6 106 MX (tag,l)=(sY l/\XU (p6 tag l)/\List.take (16:Nat) (wN (p6 tag l))=iq tag l):=
 by kernel_rfl
end Go.Proofs.YtobfmplofoofkaaGreatDoor
namespace Go.PL
open Go.AM
theorem vl{x:Int}(h0:0<=x)(h1:x<4294967296):kW x=x:=by unfold kW IntKind.wrap;simp[IntKind.bits,IntKind.signed];omega
theorem qc5{n m P i:Nat}(hP:2 ^ i=P)(hm:m<P)(h:n*P+m<4294967296):yf ((n*P:Nat):Int) ((m:Nat):Int)=((n*P+m:Nat):Int):=by
 have e:(BitVec.ofInt 32 ((n*P:Nat):Int)|||BitVec.ofInt 32 ((m:Nat):Int)).toNat=n*P+m:=by
  rw[BitVec.toNat_or];simp only[BitVec.ofInt_natCast,BitVec.toNat_ofNat];rw[Wcf (by omega),Wcf (by omega)]
  have h:=Nat.shiftLeft_add_eq_or_of_lt (i:=i) (b:=m) (by rw[hP];exact hm) n
  rw[Nat.shiftLeft_eq,hP]at h;exact h.symm
 show IntKind.u32.wrap ((BitVec.ofInt 32 ((n*P:Nat):Int)|||BitVec.ofInt 32 ((m:Nat):Int)).toNat:Int)=_
 rw[e];exact vl (x:=((n*P+m:Nat):Int)) (by omega) (by omega)
theorem Cs{A n m P i:Nat}(hP:2 ^ i=P)(hA:A=n*P)(hm:m<P)(h:A+m<4294967296):yf (A:Int) (m:Int)=((A+m:Nat):Int):=by
 subst hA;exact qc5 hP hm h
theorem p24:(2:Nat) ^ 24=16777216:=by kernel_rfl
theorem p16:(2:Nat) ^ 16=65536:=by kernel_rfl
theorem p8:(2:Nat) ^ 8=256:=by kernel_rfl
theorem qkq{a b c d:Int}(ha:0<=a/\a<=255)(hb:0<=b/\b<=255)(hc:0<=c/\c<=255)(hd:0<=d/\d<=255):
 yf (yf (yf (kW (kW a*16777216)) (kW (kW b*65536))) (kW (kW c*256))) (kW d)=rC [a,b,c,d]:=by
 obtain⟨a,rfl⟩:=Wa8 ha.1;obtain⟨b,rfl⟩:=Wa8 hb.1;obtain⟨c,rfl⟩:=Wa8 hc.1;obtain⟨d,rfl⟩:=Wa8 hd.1;have e1:rC [(a:Int),b,c,d]=yf (kW (yf (kW (yf (kW (yf (kW (0*256)) (kW a)*256)) (kW b)*256)) (kW c)*256)) (kW d):=rfl;have i1:=AE (z:=0) (c:=(a:Int)) (by omega) (by omega) (by omega) (by omega)
 have i2:=AE (z:=0*256+(a:Int)) (c:=(b:Int)) (by omega) (by omega) (by omega) (by omega)
 have i3:=AE (z:=(0*256+(a:Int))*256+b) (c:=(c:Int)) (by omega) (by omega) (by omega) (by omega)
 have i4:=AE (z:=((0*256+(a:Int))*256+b)*256+c) (c:=(d:Int)) (by omega) (by omega) (by omega) (by omega)
 rw[e1,i1,i2,i3,i4];obtain⟨A,hA⟩:∃A:Nat,A=a*16777216:=⟨_,rfl⟩
 obtain⟨B,hB⟩:∃B:Nat,B=b*65536:=⟨_,rfl⟩
 obtain⟨C,hC⟩:∃C:Nat,C=c*256:=⟨_,rfl⟩
 have qa:(a:Int)*16777216=(A:Int):=by omega
 have qb:(b:Int)*65536=(B:Int):=by omega
 have qc:(c:Int)*256=(C:Int):=by omega
 rw[vl (x:=(a:Int)) (by omega) (by omega),vl (x:=(b:Int)) (by omega) (by omega),vl (x:=(c:Int)) (by omega) (by omega),vl (x:=(d:Int)) (by omega) (by omega),qa,qb,qc,
  vl (x:=(A:Int)) (by omega) (by omega),vl (x:=(B:Int)) (by omega) (by omega),vl (x:=(C:Int)) (by omega) (by omega)]
 have r1:=Cs (A:=A) (m:=B) p24 hA (by omega) (by omega)
 have r2:=Cs (A:=A+B) (m:=C) (n:=a*256+b) p16 (by omega) (by omega) (by omega)
 have r3:=Cs (A:=A+B+C) (m:=d) (n:=a*65536+b*256+c) p8 (by omega) (by omega) (by omega)
 rw[r1,r2,r3];omega
theorem qgm(b:List Int):sched b 0=List.replicate 64 0:=rfl
theorem U4(b:List Int)(t:Nat):sched b (t+1)=(sched b t).set t (if t<16 then rC ((b.drop (4*t)).take 4) else qbh (sched b t) t):=rfl
theorem four{l:List Int}(h:l.length=4):∃a b c d,l=[a,b,c,d]:=by
 match l,h with
 |[a,b,c,d],_=>exact⟨a,b,c,d,rfl⟩
theorem eight{l:List Int}(h:l.length=8):∃a b c d e f g k,l=[a,b,c,d,e,f,g,k]:=by
 match l,h with
 |[a,b,c,d,e,f,g,k],_=>exact⟨a,b,c,d,e,f,g,k,rfl⟩
theorem HL{s w:List Int}(hs:s.length=8):∀t,(rounds s w t).1.length=4/\(rounds s w t).2.length=4
 |0=>by
  rw[qt];simp only[Waf,List.length_drop,hs];omega
 |t+1=>by rw[rounds_succ];exact⟨rfl,rfl⟩
def S6(s v:List Int):Nat->List Int
 |0=>s
 |n+1=>(S6 s v n).set n (kW ((S6 s v n).getD n 0+v.getD n 0))
theorem XV(s v:List Int)(n:Nat):S6 s v (n+1)=(S6 s v n).set n (kW ((S6 s v n).getD n 0+v.getD n 0)):=rfl
theorem XW{s v e:List Int}(hs:s.length=8)(hv:v.length=4)(he:e.length=4):S6 s (v++e) 8=sW s v e 4:=by
 obtain⟨a,b,c,d,p,q,r,t,rfl⟩:=eight hs;obtain⟨v0,v1,v2,v3,rfl⟩:=four hv;obtain⟨e0,e1,e2,e3,rfl⟩:=four he;rfl
theorem P6(s v e:List Int):∀n,(sW s v e n).length=s.length
 |0=>rfl
 |n+1=>by rw[JI,WaX,WaX,P6 s v e n]
theorem qc6(s b:List Int):(comp s b).length=s.length:=P6 _ _ _ _
theorem P7(s m:List Int):∀k,(AD s m k).length=s.length
 |0=>rfl
 |k+1=>by rw[rK,qc6,P7 s m k]
theorem qc7(b:List Int):(qh b).length % 64=0:=by
 have hz:(gK (b.length:Int):Int)=(55-(b.length:Int)) % 64:=by unfold gK;omega
 unfold qh;rw[Wad,HI];omega
theorem qkr{s w:List Int}(hs:s.length=8)(t:Nat):∃a b c d e f g h,(rounds s w t).1++(rounds s w t).2=[a,b,c,d,e,f,g,h]/\
 (rounds s w (t+1)).1++(rounds s w (t+1)).2=
   [kW (kW (kW (kW (kW (h+BO e 6 11 25)+lU (tM e f) (tM (lU e 4294967295) g))+gA.getD t 0)+w.getD t 0)+kW (BO a 2 13 22+lU (lU (tM a b) (tM a c)) (tM b c))),a,b,c,
    kW (d+kW (kW (kW (kW (h+BO e 6 11 25)+lU (tM e f) (tM (lU e 4294967295) g))+gA.getD t 0)+w.getD t 0)),e,f,g]:=by
 obtain⟨h1,h2⟩:=HL (w:=w) hs t;obtain⟨a,b,c,d,e1⟩:=four h1;obtain⟨e,f,g,h,e2⟩:=four h2;refine⟨a,b,c,d,e,f,g,h,by rw[e1,e2];rfl,?_⟩
 have hx:lU e 4294967295=lU 4294967295 e:=Kb .xor .u32 _ _ (.inr (.inr rfl));rw[rounds_succ,e1,e2,hx];rfl
end Go.PL
namespace Go.Proofs.YtobfmplofoofkaaGreatDoor
open Go.AM Go.PL
attribute [local irreducible] aW cz sched rounds sW comp om tT AD
noncomputable def NBr:Ctx:=bA bs [] [] qc2
theorem qc8(x n:Int):aW NBr 6 157 EG (x,n)=(((0:Int)<=n/\n<=(32:Int))/\aa ((32:Int)-n)/\((0:Int)<=(32:Int)-n/\(32:Int)-n<=(32:
 Int))/\aK BinOp.or IntKind.u32 (x / (2:Int) ^ n.toNat) (IntKind.u32.wrap (x*(2:Int) ^ ((32:Int)-n).toNat))=lK x n.toNat):=by kernel_rfl
theorem XX:au NBr:=az trivial trivial
theorem Kc:Sat bs.P 157 EG:=bq XX (fun x=>qc8 x.1 x.2) fun (x:Int×Int) hk hp=>by
 obtain⟨x,n⟩:=x;obtain⟨h0,h1⟩:1<=n/\n<=31:=hp
 refine⟨⟨by omega,by omega⟩,bP (by omega) (by omega),⟨by omega,by omega⟩,?_⟩
 have e:((32:Int)-n).toNat=32-n.toNat:=by omega
 dsimp only;rw[e,Kb _ _ _ _ (.inr (.inl rfl))];rfl
theorem Ct:au NB0:=az ⟨Kc,yg.jd,trivial⟩ trivial
theorem HM{C:Ctx}{n:Nat}(hb:C.P.bytesOf 5=1)(h:n<=1000000000):aM C 5 n:=by
 unfold aM;rw[hb];omega
theorem Cu:Tryz.prog.bytesOf 5=1:=by kernel_rfl
theorem qnw{n:Int}(h0:0<=n)(h1:n<1000000000):IntKind.u64.wrap n=n:=by unfold IntKind.wrap;simp[IntKind.bits,IntKind.signed];omega
theorem qgn:qY bs.P 155 qgi:=gH Ct 6 _ qgi fun (b:List Int) hok hp=>by
 have hp:b.length<=200000000:=hp;rw[qkp];delta LP NX SD SP ln y1 y5 z0 z1 z2 Uf j9 z8;dsimp only
 have hz:gK (b.length:Int)<64/\(gK (b.length:Int):Int)=(55-(b.length:Int)) % 64:=by unfold gK;omega
 refine⟨HM Cu (by omega),HM Cu (by omega),fun x=>∃t,t<=gK (b.length:Int)/\x=b++128::List.replicate t 0,fun x=>b.length+100-x.length,⟨0,by omega,rfl⟩,?_⟩
 rintro x ⟨t,ht,rfl⟩
 have hl:(b++128::List.replicate t (0:Int)).length=b.length+t+1:=by simp only[Wad,Wae,Wa7];omega
 rw[hl];have et:(((b.length+t+1:Nat):Int)).tmod 64=((b.length+t+1:Nat):Int) % 64:=WaI (by omega)
 rw[et];refine⟨by decide,fun h=>?_,fun h=>?_⟩
 ·have h:¬((b.length+t+1:Nat):Int) % 64=56:=by simpa using h
  refine⟨HM Cu (by omega),⟨t+1,by omega,?_⟩,?_⟩
  ·rw[Waj,WaP,<-List.replicate_succ']
  ·simp only[Wad,Wae,Wa7,WaB];omega
 ·have h:((b.length+t+1:Nat):Int) % 64=56:=by simpa using h
  have YN:t=gK (b.length:Int):=by omega
  subst YN;rw[qnw (n:=(b.length:Int)) (by omega) (by omega)]
  refine⟨fun x=>∃i:Nat,i<=8/\x.1=(i:Int)/\x.2=b++((128::List.replicate (gK (b.length:Int)) 0)++(List.range i).map (qjq (IntKind.u64.wrap (8*(b.length:Int))))),fun x=>(8-x.1).toNat,⟨0,by omega,rfl,by simp⟩,?_⟩
  rintro⟨j,pad⟩ ⟨i,hi,hj,O1⟩
  simp only at hj O1 ⊢
  subst hj O1;refine⟨fun h=>?_,fun h=>?_⟩
  ·have h:(i:Int)<8:=of_decide_eq_true h;have e1:((56:Int)-8*(i:Int)).toNat=56-8*i:=by omega
   rw[e1];refine⟨bP (by omega) (by omega),bP (by omega) (by omega),⟨by omega,by omega⟩,HM Cu (by simp;omega),bP (by omega) (by omega),⟨i+1,by omega,by omega,?_⟩,by omega⟩
   rw[yj];simp only[Waj];rfl
  ·have h:¬(i:Int)<8:=of_decide_eq_false h;have WH:i=8:=by omega
   subst WH;rfl
theorem XY:qY bs.P 136 MW:=gH Ct 6 _ MW fun (x:Int×List (List Int)) hok hp=>by
 obtain⟨tag,l⟩:=x;obtain⟨Vu,Qi⟩:l.length<=1000/\∀p∈l,p.length<=100000:=hp
 rw[qc3];delta IR LP NX SD eI ln y5 z0 z1;dsimp only
 refine⟨fun x=>∃i:Nat,i<=l.length/\x.1=(i:Int)/\x.2=p6 tag (l.take i),fun x=>(l.length-x.1).toNat,⟨0,by omega,rfl,rfl⟩,?_⟩
 rintro⟨j,o⟩ ⟨i,hi,hj,ho⟩
 simp only at hj ho ⊢
 subst hj ho;simp only[Waw];refine⟨fun h=>?_,fun h=>?_⟩
 ·have h:(i:Int)<l.length:=of_decide_eq_true h;have hm:l.getD i []∈l:=by
   rw[Wab,Waa (by omega)]
   exact WaJ _
  have hl:=Qi _ hm;have hle:=oo hl;have hin:=Cp (tag:=tag) (l:=l.take i) (by rw[Waf];omega) fun p hp=>Qi p (Wa5 hp)
  refine⟨⟨by omega,by omega⟩,hl,HM Cu (by omega),bP (by omega) (by omega),⟨i+1,by omega,by omega,?_⟩,by omega⟩
  have e:l.take (i+1)=l.take i++[l.getD i []]:=by
   rw[Wbc,Wab,Waa (by omega)]
   rfl
  unfold p6;rw[e,Wcl,WaP,WbS,List.flatMap_nil,WaA]
 ·have h:¬(i:Int)<l.length:=of_decide_eq_false h;have WH:i=l.length:=by omega
  subst WH;rw[WbP]
theorem P8:Sat bs.P 156 wq:=bx Ct 6 _ wq fun (b:List Int) hok hp=>by
 have hp:b.length=64:=hp;have hby:∀c∈b,(0:Int)<=c/\c<=255:=fun c hc=>by
  have h:(0:Int)<=c/\c<=255:=hok.2 c hc;exact h
 have hbd:∀k,(0:Int)<=b.getD k 0/\b.getD k 0<=255:=fun k=>by
  rw[Wab];cases e:b[k]? with
  |none=>exact⟨by simp,by simp⟩
  |some c=>exact hby c (WaE e)
 rw[S0];delta Cr IR LP NX SD ya y3 y64 z0 z1 z10 JC uR z17 z18 z19 z2 z24 z3 YS nj z4 j9 z7 z8;dsimp only
 refine⟨fun v=>∃t:Nat,t<=16/\v.1=(t:Int)/\v.2.2=sched b t,fun v=>(16-v.1).toNat,⟨0,by omega,rfl,by rw[qgm];rfl⟩,?_⟩
 rintro⟨i,z,w⟩ ⟨t,ht,hi,hw⟩
 simp only at hi hw ⊢
 subst hi hw;refine⟨fun h=>?_,fun h=>?_⟩
 ·have h:(t:Int)<16:=of_decide_eq_true h;have e0:((4:Int)*(t:Int)).toNat=4*t:=by omega
  have e1:((4:Int)*(t:Int)+1).toNat=4*t+1:=by omega
  have e2:((4:Int)*(t:Int)+2).toNat=4*t+2:=by omega
  have e3:((4:Int)*(t:Int)+3).toNat=4*t+3:=by omega
  simp only[e0,e1,e2,e3,Waw];repeat' apply And.intro
  all_goals first|omega|exact bP (by omega) (by omega)|skip
  refine⟨t+1,by omega,by omega,?_⟩
  have hs:sched b (t+1)=(sched b t).set t (rC ((b.drop (4*t)).take 4)):=by
   rw[U4,if_pos (by omega)]
  have h4:(b.drop (4*t)).take 4=[b.getD (4*t) 0,b.getD (4*t+1) 0,b.getD (4*t+2) 0,b.getD (4*t+3) 0]:=by
   apply WbF
   intro k;rw[Was];by_cases hk:k<4
   ·rw[if_pos hk,WaZ,Waa (by omega)]
    have:k=0\/k=1\/k=2\/k=3:=by omega
    rcases this with rfl|rfl|rfl|rfl<;>simp[Wab,Waa (show 4*t+3<b.length by omega),Waa (show 4*t+2<b.length by omega),Waa (show 4*t+1<b.length by omega),Waa (show 4*t<b.length by omega)]
   ·rw[if_neg hk];symm
    rw[Wai];simp
    omega
  rw[hs,h4,<-qkq (hbd _) (hbd _) (hbd _) (hbd _)];rfl
 ·have h:¬(t:Int)<16:=of_decide_eq_false h;have:t=16:=by omega
  subst this;refine⟨fun v=>∃t:Nat,16<=t/\t<=64/\v.1=(t:Int)/\v.2.2=sched b t,fun v=>(64-v.1).toNat,⟨16,by omega,by omega,rfl,rfl⟩,?_⟩
  rintro⟨i,z,w⟩ ⟨t,ht0,ht,hi,hw⟩
  simp only at hi hw ⊢
  subst hi hw;refine⟨fun h=>?_,fun h=>?_⟩
  ·have h:(t:Int)<64:=of_decide_eq_true h;have e1:((t:Int)-16).toNat=t-16:=by omega
   have e2:((t:Int)-15).toNat=t-15:=by omega
   have e3:((t:Int)-7).toNat=t-7:=by omega
   have e4:((t:Int)-2).toNat=t-2:=by omega
   simp only[e1,e2,e3,e4,Waw];have hs:sched b (t+1)=(sched b t).set t (qbh (sched b t) t):=by
    rw[U4,if_neg (by omega)]
   repeat' apply And.intro
   all_goals first|omega|exact bP (by omega) (by omega)|skip
   all_goals
    refine⟨t+1,by omega,by omega,by omega,?_⟩
    rw[hs];rfl
  ·have h:¬(t:Int)<64:=of_decide_eq_false h;have:t=64:=by omega
   subst this;rfl
theorem XZ:au NB1:=az ⟨Kc,P8,qgn.jd,trivial⟩ trivial
theorem P9:Sat bs.P 149 Cq:=bx XZ 6 _ Cq fun (b:List Int) hok hp=>by
 have uw:b.length<=200000000:=hp;have hm:=qc7 b;have hz:gK (b.length:Int)<64:=by unfold gK;omega
 have hml:(qh b).length<=200001000:=by unfold qh;rw[Wad,HI];omega
 have h8:∀k,(AD jN.1 (qh b) k).length=8:=fun k=>P7 _ _ k
 rw[qgk];delta HJ HK S4 S5 LP NX SD ln y0 y1 y2 y3 y4 y5 y6 y64 y7 z0 z1 z11 z13 z2 z22 z24 z25 z3 YS nj z4 z5 z6 j9 z7 z8;dsimp only
 refine⟨hp,fun x=>∃q:Nat,64*q<=(qh b).length/\x.1=((64*q:Nat):Int)/\x.2.2=AD jN.1 (qh b) q,fun x=>((qh b).length-x.1).toNat,⟨0,by omega,rfl,by rw[XS];rfl⟩,?_⟩
 rintro⟨at0,z,S⟩ ⟨q,hq,ha,hS⟩
 simp only at ha hS ⊢
 subst ha hS;refine⟨fun h=>?_,fun h=>?_⟩
 ·have h:((64*q:Nat):Int)<(qh b).length:=of_decide_eq_true h;have e1:(((64*q:Nat):Int)+64).toNat-((64*q:Nat):Int).toNat=64:=by omega
  rw[e1,Waw];obtain⟨blk,eV⟩:∃blk,blk=List.take 64 (List.drop (64*q) (qh b)):=⟨_,rfl⟩
  obtain⟨S,hS⟩:∃S,S=AD jN.1 (qh b) q:=⟨_,rfl⟩
  obtain⟨W,hW⟩:∃W,W=sched blk 64:=⟨_,rfl⟩
  rw[<-eV,<-hS,<-hW];have hbl:blk.length=64:=by rw[eV,Waf,List.length_drop];omega
  have hS8:S.length=8:=by rw[hS];exact h8 q
  refine⟨bP (by omega) (by omega),⟨by omega,by omega,by omega⟩,hbl,fun y=>∃t:Nat,t<=64/\y.1=(t:Int)/\y.2.2.1=S/\y.2.2.2.1=W/\y.2.2.2.2=(rounds S W t).1++(rounds S W t).2,fun y=>(64-y.1).toNat,⟨0,by omega,rfl,rfl,rfl,?_⟩,?_⟩
  ·rw[Go.PL.qt,Wbe];show S=S.take 4++(S.drop 4).take 4
   rw[Wap (l:=S.drop 4) (by rw[List.length_drop];omega),Wax]
  rintro⟨i,z1,S1,W1,V⟩ ⟨t,ht,hi,h1,h2,h3⟩
  simp only at hi h1 h2 h3 ⊢
  subst hi h1 h2 h3;refine⟨fun hc=>?_,fun hc=>?_⟩
  ·have hc:(t:Int)<64:=of_decide_eq_true hc;obtain⟨a,b',c,d,e,f,g,k,r1,r2⟩:=qkr (w:=W1) hS8 t;rw[r1,Waw];repeat' apply And.intro
   all_goals first|omega|exact bP (by omega) (by omega)|skip
   refine⟨t+1,by omega,by omega,rfl,rfl,?_⟩
   rw[r2];rfl
  ·have hc:¬(t:Int)<64:=of_decide_eq_false hc;have:t=64:=by omega
   subst this;obtain⟨l1,l2⟩:=HL (w:=W1) hS8 64;refine⟨fun y=>∃n:Nat,n<=8/\y.1=(n:Int)/\y.2.2.1=S6 S1 ((rounds S1 W1 64).1++(rounds S1 W1 64).2) n/\y.2.2.2=(rounds S1 W1 64).1++(rounds S1 W1 64).2,fun y=>(8-y.1).toNat,⟨0,by omega,rfl,rfl,rfl⟩,?_⟩
   rintro⟨i,z2,S2,V2⟩ ⟨n,hn,hi,h2,h3⟩
   simp only at hi h2 h3 ⊢
   subst hi h2 h3;rw[Waw];refine⟨fun hd=>?_,fun hd=>?_⟩
   ·have hd:(n:Int)<8:=of_decide_eq_true hd;repeat' apply And.intro
    all_goals first|omega|exact bP (by omega) (by omega)|skip
    all_goals
     refine⟨n+1,by omega,by omega,?_,rfl⟩
     rw[XV];rfl
   ·have hd:¬(n:Int)<8:=of_decide_eq_false hd;have:n=8:=by omega
    subst this;refine⟨bP (by omega) (by omega),⟨q+1,by omega,by omega,?_⟩,by omega⟩
    rw[XW hS8 l1 l2,rK,<-eV,<-hS,Un,<-hW]
 ·have h:¬((64*q:Nat):Int)<(qh b).length:=of_decide_eq_false h;have eq:q=(qh b).length / 64:=by omega
  obtain⟨S,hS⟩:∃S,S=AD jN.1 (qh b) q:=⟨_,rfl⟩
  rw[<-hS];refine⟨fun x=>∃i:Nat,i<=32/\x.1=(i:Int)/\x.2.2.1=S/\x.2.2.2=(List.range i).map (RM S)++List.replicate (32-i) 0,fun x=>(32-x.1).toNat,⟨0,by omega,rfl,rfl,rfl⟩,?_⟩
  rintro⟨j,z2,S2,out⟩ ⟨i,hi,hj,hs,hout⟩
  simp only at hj hs hout ⊢
  subst hj hs hout;have e2:((i:Int)).tdiv 4=((i / 4:Nat):Int):=by
   rw[Wbw (by omega)]
   omega
  have e3:((i:Int)).tmod 4=((i % 4:Nat):Int):=by
   rw[WaI (by omega)]
   omega
  have e4:((24:Int)-8*((i % 4:Nat):Int)).toNat=24-8*(i % 4):=by omega
  simp only[e2,e3,e4,Waw];refine⟨fun h=>?_,fun h=>?_⟩
  ·have h:(i:Int)<32:=of_decide_eq_true h;refine⟨⟨by decide,bP (by omega) (by omega)⟩,⟨by omega,by omega⟩,by decide,bP (by omega) (by omega),bP (by omega) (by omega),⟨by omega,by omega⟩,⟨by omega,by omega⟩,bP (by omega) (by omega),⟨i+1,by omega,by omega,by first|trivial|rfl,?_⟩,by omega⟩
   exact BS (RM S2) 0 32 i (by omega)
  ·have h:¬(i:Int)<32:=of_decide_eq_false h;have WH:i=32:=by omega
   subst WH;unfold wN;rw[<-eq,<-hS];simp
theorem qnx:jK bs.P [(149,Cq)]:=⟨P9,trivial⟩
noncomputable def NBs:Ctx:=bA bs [(149,Cq)] [] SZ
theorem X1:au NBs:=az qnx trivial
theorem X2(b:List Int):aW NBs 6 135 AF b=(XU b/\LP (z0,[z0,z0,z0,z0,z0,z0,z0,z0,z0,z0,z0,z0,z0,z0,z0,z0],wN b,[z0,z0,z0,z0,z0,z0,z0,z0,
 z0,z0,z0,z0,z0,z0,z0,z0]) fun I μ x=>SD (x.1<uR) ((z0<=x.1/\x.1<nj)/\(z0<=x.1/\x.1<uR)/\aa (x.1+z1)/\NX I μ x (x.1+z1,x.2.1,x.2.2.1,x.2.2.2.set x.1.toNat
 (x.2.2.1.getD x.1.toNat z0))) (x.2.2.2=List.take qg (wN b))):=by kernel_rfl
theorem S7:Sat bs.P 135 AF:=bx X1 6 _ AF fun (b:List Int) hok hp=>by
 rw[X2];delta LP NX SD qg z0 z1 uR nj;dsimp only
 have hl:(wN b).length=32:=by unfold wN;simp
 refine⟨hp,fun x=>∃i:Nat,i<=16/\x.1=(i:Int)/\x.2.2.1=wN b/\x.2.2.2=(List.range i).map (fun k=>(wN b).getD k 0)++List.replicate (16-i) 0,fun x=>(16-x.1).toNat,⟨0,by omega,rfl,rfl,rfl⟩,?_⟩
 rintro⟨j,z,H,out⟩ ⟨i,hi,hj,hs,hout⟩
 simp only at hj hs hout ⊢
 subst hj hs hout;rw[Waw];refine⟨fun h=>?_,fun h=>?_⟩
 ·have h:(i:Int)<16:=of_decide_eq_true h;refine⟨⟨by omega,by omega⟩,⟨by omega,by omega⟩,bP (by omega) (by omega),⟨i+1,by omega,by omega,by first|trivial|rfl,?_⟩,by omega⟩
  exact BS (fun k=>(wN b).getD k 0) 0 16 i (by omega)
 ·have h:¬(i:Int)<16:=of_decide_eq_false h;have WH:i=16:=by omega
  subst WH;rw[Nat.sub_self,List.replicate_zero,WaA];apply WbF
  intro k;rw[Wba,Was];by_cases hk:k<16
  ·rw[Wck hk,if_pos hk,Waa (by omega)]
   simp[Wab,Waa (show k<(wN b).length by omega)]
  ·rw[Wai (by simp;omega),if_neg hk]
   rfl
theorem X3:au NB2:=az ⟨P9,S7,XY.jd,trivial⟩ trivial
theorem Qa:Sat bs.P 106 MX:=bq X3 (fun x=>qgl x.1 x.2) fun (x:Int×List (List Int)) hok hp=>by
 obtain⟨h1,h2⟩:x.2.length<=1000/\∀p∈x.2,p.length<=100000:=hp
 refine⟨⟨h1,h2⟩,?_,(XT h1 h2).symm⟩
 have:=Cp (tag:=x.1) h1 h2
 show (p6 x.1 x.2).length<=200000000
 omega
end Go.Proofs.YtobfmplofoofkaaGreatDoor
namespace Go.PL
end Go.PL
namespace Go.Proofs.YtobfmplofoofkaaGreatDoor
open Go.AM Go.PL
def MY:aJ:=⟨[SK,SK],[.bool],fun _=>True,fun x=>decide ((x.1:Sk).1=(x.2:Sk).1)⟩
def HN:aJ:=⟨[SK,DG],[I],fun _=>True,fun x=>gN (x.1:Sk).1 x.2⟩
def HO:aJ:=⟨[DG,I],[.bool],fun x=>0<=(x.2:Int)/\(x.2:Int)<128,fun x=>og x.1 (x.2:Int).toNat⟩
def MZ:aJ:=⟨[PX,.bool],[PX],fun x=>bQ x.1=true/\(x.1:Px).2.1<128,fun x=>half x.1 x.2⟩
def HP:aJ:=⟨[PX,DG],[.bool],fun x=>bQ x.1=true,fun x=>under x.1 x.2⟩
def S8(s:List It)(p:Px):Prop:=s.length<=900/\bQ p=true
def AG:aJ:=⟨[SK,PX],[DL],fun x=>S8 (x.1:Sk).1 x.2,fun x=>aA (ai (x.1:Sk).1 x.2)⟩
def AH:aJ:=⟨[DG],[.str],fun _=>True,fun d=>(d:List Int)⟩
def S9:aJ:=⟨[SK,PX],[PC],fun x=>S8 (x.1:Sk).1 x.2,fun x=>aP Hx (x.1:Sk).1 x.2⟩
def AI(a b:List It):Prop:=a.length<=900/\b.length<=900
def M0:aJ:=⟨[SK,SK],[.bool],fun x=>AI (x.1:Sk).1 (x.2:Sk).1,fun x=>nR Hx (x.1:Sk).1 (x.2:Sk).1⟩
def U5(f:FuncId)(r:Nat):List LA:=
 if Nat.beq f 17 then [.slot 5 I] else
 if Nat.beq f 51 then [.slot 5 I] else
 if Nat.beq f 134 then [.slot 5 I] else
 if Nat.beq f 104 then [.slot 6 I,.dF 5 70 DG] else
 if Nat.beq f 105 then [.slot 4 I,.dF 3 5 U8] else
 if Nat.beq f 52 then [.slot 7 I,.dF 6 9 .str,.aT 0 PC] else
 if Nat.beq f 18 then (bif Nat.beq r 10 then [.slot 8 I,.aT 0 PX,.aT 1 PX,.aT 2 PX,.aT 3 PX,.aT 4 PX,.aT 5 PX,.aT 6 PX,.aT 7 PX,.aT 8 PX,.aT 9 PX,.aT 10 PX,.aT 11 PX,.aT 12 PX,.aT 13 PX,.aT 14 PX,.aT 15 PX,.aT 16 PX,.aT 17 PX,.aT 18 PX,.aT 19 PX,.aT 20 PX,.aT 21 PX,.aT 22 PX,.aT 23 PX,.aT 24 PX,.aT 25 PX,.aT 26 PX,.aT 27 PX,.aT 28 PX,.aT 29 PX,.aT 30 PX,.aT 31 PX,.aT 32 PX,.aT 33 PX,.aT 34 PX,.aT 35 PX,.aT 36 PX,.aT 37 PX,.aT 38 PX,.aT 39 PX,.aT 40 PX,.aT 41 PX,.aT 42 PX,.aT 43 PX,.aT 44 PX,.aT 45 PX,.aT 46 PX,.aT 47 PX,.aT 48 PX,.aT 49 PX,.aT 50 PX,.aT 51 PX,.aT 52 PX,.aT 53 PX,.aT 54 PX,.aT 55 PX,.aT 56 PX,.aT 57 PX,.aT 58 PX,.aT 59 PX] else [.slot 5 I]) else
 []
def Ta(f:FuncId):Hint:=if Nat.beq f 999999995 then⟨fun _=>[],fun _=>.split,fun _=>.split,fun _=>0⟩ else⟨U5 f,fun _=>.split,fun _=>.split,fun _=>0⟩
def qny(t:TypeId):Nat:=bif Nat.beq t 70||(Nat.beq t 113||Nat.beq t 116) then 2 else 0
def Tb(f:FuncId):Hint:=if Nat.beq f 999999995 then⟨fun _=>[],fun _=>.split,fun _=>.split,qny⟩ else⟨U5 f,fun r=>bif (Nat.beq f 53&&Nat.beq r 3)||(Nat.beq f 18&&Nat.beq r 15) then .all else .split,fun _=>.split,fun _=>0⟩
noncomputable def KA0:Ctx:=bA bs [(54,HO),(134,HP)] [] Ta
theorem X5(s:List It)(p:Px):aW KA0 6 104 AG ((s,()),p)=(LP (z0,eL) fun I μ x=>SD (x.1<(ln s)) ((IR x.1 s)/\bQ p=true/\SP (under p (s.getD x.1.toNat
 (List.replicate qg z0,eI,())).1) ((IR x.1 s)/\aM KA0 (70:Nat) (x.2.length+[(s.getD x.1.toNat (List.replicate qg z0,eI,())).1].length)/\aa (x.1+z1)/\NX I μ x (x.1+z1,
 x.2++[(s.getD x.1.toNat (List.replicate qg z0,eI,())).1])) (aa (x.1+z1)/\NX I μ x (x.1+z1,x.2))) (x.2=aA (ai s p))):=by kernel_rfl
noncomputable def KP0:Ctx:=bA bs [(54,HO),(53,MZ),(104,AG),(105,AH),(106,MX),(52,S9),(51,HN)] [] Tb
abbrev Qb:Type:=Int×List Int×Int×Unit
abbrev Qc:Type:=Int×List Int×Int×Unit->Prop
abbrev Qd:Type:=Int×List Int×Int×Unit->Nat
abbrev qy(a:List It)(x:Int):=a.getD x.toNat (List.replicate qg z0,eI,())
abbrev M1(b a:List It)(x:Int)(I:Int->Prop)(μ:Int->Nat):=SD (z0<=gN b (qy a x).1) (aa (x+z1)/\NX I μ x (x+z1)) (LP (z0,[z0,z0,z0,z0,z0,z0,z0,z0,
 z0,z0,z0,z0,z0,z0,z0,z0],z0,()) fun wK iS x_1=>SD (x_1.1<=(128:Int)) (S8 a x_1.2/\S8 b x_1.2/\SD ((aP Hx a x_1.2).2.2.1=(aP Hx b x_1.2).2.2.1) (true=nR Hx
 a b) (SD (x_1.1<(128:Int)) ((IR x a)/\((z0<=x_1.1/\x_1.1<(128:Int))/\(bQ x_1.2=true/\x_1.2.2.1<(128:Int))/\aa (x_1.1+z1)/\NX wK iS x_1 (x_1.1+z1,half
 x_1.2 (og (qy a x).1 x_1.1.toNat)))/\(z0<=x_1.1/\x_1.1<(128:Int))/\(bQ x_1.2=true/\x_1.2.2.1<(128:Int))/\aa (x_1.1+z1)/\NX wK iS x_1 (x_1.1+z1,half
 x_1.2 (og (qy a x).1 x_1.1.toNat))) (aa (x_1.1+z1)/\NX wK iS x_1 (x_1.1+z1,x_1.2)))) (aa (x+z1)/\NX I μ x (x+z1)))
theorem qc9(a b:List It):aW KP0 6 18 M0 ((a,()),(b,()))=(LP z0 fun I μ x=>SD (x<(ln a)) ((IR x a)/\True/\SD (z0<=gN b (qy a x).1) ((IR (gN b
 (qy a x).1) b)/\(IR x a)/\SP (!decide ((b.getD (gN b (qy a x).1).toNat (List.replicate qg z0,eI,())).2.1=(qy a x).2.1)) (true=nR Hx a b) (M1 b a x I μ))
 (M1 b a x I μ)) (false=nR Hx a b)):=by kernel_rfl
end Go.Proofs.YtobfmplofoofkaaGreatDoor
namespace Go.PL
open Go.AM
theorem qnz{x y:It}(h1:x.1=y.1)(h2:x.2.1=y.2.1):x=y:=by
 obtain⟨a,b,u⟩:=x;obtain⟨c,d,v⟩:=y;simp only at h1 h2
 rw[h1,h2]
theorem Cv{α:Type}{l:List α}{k:Nat}(h:k<l.length)(d:α):l.getD k d∈l:=by
 rw[Wab,Waa h];exact WaJ h
theorem Cw{s:List It}{p:Px}{i:Nat}(h:i<s.length)(z:It):aA (ai (s.take (i+1)) p)=aA (ai (s.take i) p)++if under p (s.getD i z).1=true then [(s.getD i z).1] else []:=by
 have e:s.take (i+1)=s.take i++[s.getD i z]:=by
  rw[Wbc,Wab,Waa h];rfl
 unfold ai;rw[e,List.filter_append,aA,WaQ];congr 1
 cases hu:under p (s.getD i z).1 with
 |true=>rw[WbC (by simpa using hu),if_pos rfl];rfl
 |false=>rw[WbD (by simpa using hu)];rfl
end Go.PL
namespace Go.Proofs.YtobfmplofoofkaaGreatDoor
open Go.AM Go.PL
attribute [local irreducible] aW cz
theorem M3{s:List It}(h:Ub IL s):∀it∈s,aV it.1:=fun it hi=>gL (h.2 it hi).1
noncomputable def KAs:Ctx:=bA bs [] [] Ta
abbrev vm:=(List.replicate qg z0,eI,())
theorem X6(a b:List It):aW KAs 6 17 MY ((a,()),(b,()))=(SP (!decide ((ln a)=(ln b))) (false=decide (a=b)) (LP z0 fun I μ x=>SD (x<(ln a)) ((IR x a)/\(IR x
 b)/\SP (!(decide ((a.getD x.toNat vm).1=(b.getD x.toNat vm).1)&&(decide ((a.getD x.toNat vm).2.1=(b.getD x.toNat vm).2.1)&&true))) (false=decide (a=b))
 (aa (x+z1)/\NX I μ x (x+z1))) (true=decide (a=b)))):=by kernel_rfl
theorem Tc(a:List It)(x:List Int):aW KAs 6 51 HN ((a,()),x)=(∃(I:Int->Prop),∃(μ:Int->Nat),I (0:Int)/\∀(x_1:Int),I x_1->(decide (x_1<
 (↑a.length:Int))=true->((0:Int)<=x_1/\x_1<(↑a.length:Int))/\(decide ((a.getD x_1.toNat (List.replicate (16:Nat) (0:Int),[],())).fst=x)=true->x_1=gN
 a x)/\(decide ((a.getD x_1.toNat (List.replicate (16:Nat) (0:Int),[],())).fst=x)=false->aa (x_1+(1:Int))/\I (x_1+(1:Int))/\μ (x_1+(1:Int))<μ x_1))
 /\(decide (x_1<(↑a.length:Int))=false->(-1:Int)=gN a x)):=by kernel_rfl
theorem qda(d:List Int)(k:Int):aW KAs 6 54 HO (d,k)=(((8:Int)≠(0:Int)/\aa (k.tdiv (8:Int)))/\((0:Int)<=k.tdiv (8:Int)/\k.tdiv (8:Int)<
 (16:Int))/\(8:Int)≠(0:Int)/\aa ((7:Int)-k.tmod (8:Int))/\((0:Int)<=(7:Int)-k.tmod (8:Int)/\(7:Int)-k.tmod (8:Int)<=(8:Int))/\decide
 (aK BinOp.and IntKind.u8 (d.getD (k.tdiv (8:Int)).toNat (0:Int) / (2:Int) ^ ((7:Int)-k.tmod (8:Int)).toNat) (1:Int)=(1:Int))=og d k.toNat):=by
 kernel_rfl
theorem Td(d:List Int):aW KAs 6 105 AH d=(∃(I:Int×List Int->Prop),∃(μ:Int×List Int->Nat),I ((0:Int),[])/\∀(x:Int×List Int),I x->
 (decide (x.fst<(16:Int))=true->((0:Int)<=x.fst/\x.fst<(16:Int))/\aM KAs (5:Nat) (x.snd.length+[d.getD x.fst.toNat (0:Int)].length)/\aa (x.fst+(1:
 Int))/\I (x.fst+(1:Int),x.snd++[d.getD x.fst.toNat (0:Int)])/\μ (x.fst+(1:Int),x.snd++[d.getD x.fst.toNat (0:Int)])<μ x)/\(decide (x.fst<(16:Int))=
 false->x.snd=d)):=by kernel_rfl
theorem wu:au KAs:=az trivial trivial
theorem X7:Sat bs.P 17 MY:=bq wu (fun x=>X6 x.1.1 x.2.1) fun (x:Sk×Sk) hk hp=>by
 delta vm IR LP NX SD SP eI ln qg z0 z1;dsimp only
 obtain⟨⟨a,⟨⟩⟩,⟨b,⟨⟩⟩⟩:=x;have hla:a.length<=9223372036854775807:=hk.1.1.1;dsimp only;refine⟨fun h=>?_,fun h=>?_⟩
 ·have h:=nt h;symm
  rw[decide_eq_false_iff_not];intro e;rw[e]at h;simp at h
 ·have h:a.length=b.length:=by
   have:=nf h
   have h2:(a.length:Int)=b.length:=by simpa using this
   omega
  refine⟨Uu a b,fun x=>(a.length-x).toNat,⟨Waz _,by omega,Iff.rfl⟩,fun i hI=>⟨fun hc=>?_,fun hc=>?_⟩⟩
  ·have hc:=dt hc;have h0:=hI.1;refine⟨⟨h0,hc⟩,⟨h0,by omega⟩,fun hn=>?_,fun hn=>?_⟩
   ·symm
    rw[decide_eq_false_iff_not];refine qbt (i:=i) (List.replicate (16:Nat) (0:Int),[],()) fun e=>?_
    rw[e]at hn;simp at hn
   ·refine⟨iC h0 hc hla,RL h (List.replicate (16:Nat) (0:Int),[],()) hI hc ?_,by dsimp only;omega⟩
    simp only[Bool.and_true,Bool.not_eq_false',Wac,decide_eq_true_eq]at hn;exact qnz hn.1 hn.2
  ·symm
   exact decide_eq_true (Wz h hI (df hc))
theorem Te:Sat bs.P 51 HN:=bq wu (fun x=>Tc x.1.1 x.2) fun (x:Sk×List Int) hk hp=>by
 obtain⟨⟨s,⟨⟩⟩,n⟩:=x;have hla:s.length<=9223372036854775807:=hk.1.1.1;dsimp only;obtain⟨z,hz⟩:∃z:It,z=(List.replicate (16:Nat) (0:Int),[],()):=⟨_,rfl⟩
 rw[<-hz];refine⟨fun x=>0<=x/\x<=s.length/\∀k:Nat,(k:Int)<x->(s.getD k z).1≠n,fun x=>(s.length-x).toNat,⟨Waz _,by omega,fun k hk=>absurd hk (by omega)⟩,?_⟩
 rintro x ⟨x0,x1,x2⟩
 refine⟨fun h=>?_,fun h=>?_⟩
 ·have h:=dt h;refine⟨⟨x0,h⟩,fun he=>?_,fun he=>?_⟩
  ·have:=P3 (s:=s) (x:=n) (z:=z) (i:=x.toNat) (by omega) (of_decide_eq_true he) fun k hk=>x2 k (by omega)
   rw[this];omega
  ·refine⟨iC x0 h hla,⟨by omega,by omega,fun k hk=>?_⟩,by dsimp only;omega⟩
   rcases Wa4 (k:Int) x with hlt|hge
   ·exact x2 k hlt
   ·have:k=x.toNat:=by omega
    subst this;exact of_decide_eq_false he
 ·have h:=df h;symm
  refine P4 fun it hi e=>?_
  obtain⟨k,hk,rfl⟩:=WaM hi;have:=x2 k (by omega)
  rw[Wab,Waa hk]at this;exact this e
theorem HQ:Sat bs.P 54 HO:=bq wu (fun x=>qda x.1 x.2) fun (x:List Int×Int) hk hp=>by
 obtain⟨d,k⟩:=x;obtain⟨k0,k1⟩:0<=k/\k<128:=hp
 have hd:aV d:=gL hk.1;have e1:k.tdiv 8=k / 8:=Wbw k0;have e2:k.tmod 8=k % 8:=WaI k0;dsimp only;rw[e1,e2];refine⟨⟨by decide,bP (by omega) (by omega)⟩,⟨by omega,by omega⟩,by decide,bP (by omega) (by omega),⟨by omega,by omega⟩,?_⟩
 have f1:(k / 8).toNat=k.toNat / 8:=by omega
 have f2:((7:Int)-k % 8).toNat=7-k.toNat % 8:=by omega
 rw[f1,f2];obtain⟨c,hc,ec⟩:=jX (iw hd (k.toNat / 8));unfold og;rw[ec];exact qcY c hc _ (List.mem_range.2 (Wcg _ (by decide)))
theorem Dq{C:Ctx}{t:TypeId}{n:Nat}(b:Nat)(hb:C.P.bytesOf t=b)(h1:b<=100)(h:n<=1000000):aM C t n:=by
 unfold aM;rw[hb];have:n*b<=1000000*100:=Wcx h h1
 omega
theorem Dr:Sat bs.P 105 AH:=bq wu Td fun (d:List Int) hk hp=>by
 have hd:d.length=16:=hk.1;refine⟨fun x=>0<=x.1/\x.1<=16/\x.2=d.take x.1.toNat,fun x=>(16-x.1).toNat,⟨Waz _,by omega,rfl⟩,?_⟩
 rintro⟨i,l⟩ ⟨i0,i1,i2⟩
 dsimp only at i0 i1 i2 ⊢;subst i2;refine⟨fun h=>?_,fun h=>?_⟩
 ·have h:=dt h;have e1:(i+1).toNat=i.toNat+1:=by omega
  rw[oJ _ _ (by omega)]
  exact⟨⟨i0,h⟩,Dq 1 Cu (by omega) (by simp only[Waf,Wae,WaB];omega),bP (by omega) (by omega),⟨by omega,by omega,by rw[e1]⟩,by omega⟩
 ·have h:=df h;exact Wap (by omega)
noncomputable def KBs:Ctx:=bA bs [(54,HO)] [] Ta
theorem Tf(p:Px)(x:List Int):aW KBs 6 134 HP (p,x)=(∃(I:Int->Prop),∃(μ:Int->Nat),I (0:Int)/\∀(x_1:Int),I x_1->(decide (x_1<p.snd.fst)
 =true->((0:Int)<=x_1/\x_1<(128:Int))/\((0:Int)<=x_1/\x_1<(128:Int))/\((og p.fst x_1.toNat !=og x x_1.toNat)=true->false=under p x)/\((og p.fst
 x_1.toNat !=og x x_1.toNat)=false->aa (x_1+(1:Int))/\I (x_1+(1:Int))/\μ (x_1+(1:Int))<μ x_1))/\(decide (x_1<p.snd.fst)=false->true=under p x)):=
 by kernel_rfl
theorem X8:au KBs:=az ⟨HQ,trivial⟩ trivial
theorem Tg:Sat bs.P 134 HP:=bq X8 (fun x=>Tf x.1 x.2) fun (x:Px×List Int) hk hp=>by
 obtain⟨p,d⟩:=x;have hr:bQ p=true:=hp;have VY:aV p.1:=gL hk.1.1;have hd:aV d:=gL hk.2;have hb:=(fC.1 hr).1;have hu:=SY VY hr hd;dsimp only;refine⟨fun x=>0<=x/\x<=p.2.1/\∀k:Nat,(k:Int)<x->og p.1 k=og d k,fun x=>(p.2.1-x).toNat,⟨Waz _,hb.1,fun k hk=>absurd hk (by omega)⟩,?_⟩
 rintro x ⟨x0,x1,x2⟩
 refine⟨fun h=>?_,fun h=>?_⟩
 ·have h:=dt h;refine⟨⟨x0,by omega⟩,⟨x0,by omega⟩,fun hn=>?_,fun hn=>?_⟩
  ·symm
   cases e:under p d with
   |false=>rfl
   |true=>
    have:=hu.1 e x.toNat (by omega)
    rw[this]at hn;simp at hn
  ·refine⟨bP (by omega) (by omega),⟨by omega,by omega,fun k hk=>?_⟩,by dsimp only;omega⟩
   rcases Wa4 (k:Int) x with hlt|hge
   ·exact x2 k hlt
   ·have:k=x.toNat:=by omega
    subst this;simpa using hn
 ·have h:=df h;symm
  exact hu.2 fun k hk=>x2 k (by omega)
theorem X9:au KA0:=az ⟨HQ,Tg,trivial⟩ trivial
theorem HR:Sat bs.P 104 AG:=bq X9 (fun x=>X5 x.1.1 x.2) fun (x:Sk×Px) hk hp=>by
 delta IR LP NX SD SP eI eL ln qg z0 z1;dsimp only
 obtain⟨⟨s,⟨⟩⟩,p⟩:=x;obtain⟨hl,hr⟩:s.length<=900/\bQ p=true:=hp
 dsimp only;obtain⟨z,hz⟩:∃z:It,z=(List.replicate (16:Nat) (0:Int),[],()):=⟨_,rfl⟩
 rw[<-hz];refine⟨fun x=>0<=x.1/\x.1<=s.length/\x.2=aA (ai (s.take x.1.toNat) p),fun x=>(s.length-x.1).toNat,⟨Waz _,by omega,rfl⟩,?_⟩
 rintro⟨i,l⟩ ⟨i0,i1,i2⟩
 dsimp only at i0 i1 i2 ⊢;subst i2;refine⟨fun h=>?_,fun h=>?_⟩
 ·have h:=dt h;have e1:(i+1).toNat=i.toNat+1:=by omega
  have hs:=Cw (s:=s) (p:=p) (i:=i.toNat) (by omega) z
  have hll:(aA (ai (s.take i.toNat) p)).length<=900:=by
   unfold aA ai;rw[Wav];have:=WaF (fun it:It=>under p it.1) (s.take i.toNat)
   rw[Waf]at this;omega
  refine⟨⟨i0,h⟩,hr,fun hu=>?_,fun hu=>?_⟩
  ·rw[if_pos hu]at hs;rw[<-hs];exact⟨⟨i0,h⟩,Dq 16 MO (by omega) (by simp only[Wae,WaB];omega),bP (by omega) (by omega),⟨by omega,by omega,by rw[e1]⟩,by omega⟩
  ·rw[if_neg (by rw[hu];simp),WaA]at hs
   rw[<-hs];exact⟨bP (by omega) (by omega),⟨by omega,by omega,by rw[e1]⟩,by omega⟩
 ·have h:=df h;rw[Wap (by omega)]
end Go.Proofs.YtobfmplofoofkaaGreatDoor
namespace Go.Proofs.YtobfmplofoofkaaGreatDoor
open Go.AM Go.PL
attribute [local irreducible] aW cz
theorem U6:Tryz.prog.bytesOf 119=104:=by kernel_rfl
theorem qdb{C:Ctx}{t:TypeId}{n:Nat}(b:Nat)(hb:C.P.bytesOf t=b)(h1:b<=1000)(h:n<=1000000):aM C t n:=by
 unfold aM;rw[hb];have:n*b<=1000000*1000:=Wcx h h1
 omega
theorem Ke(hH:Sat bs.P 50 Mj):Sat bs.P 16 Eu:=by
 have hS:au MA0:=az ⟨hH,XP,trivial⟩ trivial;refine bq hS (fun x=>qb6 x.1.1 x.2.1) fun (x:Sk×Sk) hk hp=>?_;delta kT ng Pg Pj Ev eX bH bI Mk Ml IR LP NX SD SP eI eL ln y0 y1 ya BJ zW kD BK BL qg y2 y3 y4 y5 y6 y7 y8 y9 z0 z1 z2;dsimp only
 obtain⟨⟨a,⟨⟩⟩,⟨b,⟨⟩⟩⟩:=x;have hp:lE a b:=hp;have hT:=qhA hp;have hst:=MI.start hp;dsimp only;generalize kR Hx eK a b=R at hst ⊢
 refine⟨hst.JG.size hT,fun x=>∃f:Nat,x.1=5001-(f:Int)/\f<=5001/\MI (a++b) R f x.2.1 x.2.2.1 x.2.2.2,fun x=>(5001-x.1).toNat,⟨5001,rfl,Wan _,?_⟩,?_⟩
 ·dsimp only;rw[SW (m:=aP Hx a root) (by show jW.length=16;decide) (s7 _ _)]
  exact hst
 rintro⟨n,q,a',b'⟩ ⟨f,hn,hf,hI⟩
 dsimp only at hn hf hI ⊢;subst hn;refine⟨fun hc=>?_,fun hc=>?_⟩
 ·have hc:=dt hc;obtain⟨w,q',rfl⟩:∃w q',q=w::q':=by
   cases q with
   |nil=>simp at hc
   |cons w q'=>exact⟨w,q',rfl⟩
  have hd:∀z,(w::q').getD 0 z=w:=fun z=>rfl
  have pz:(w::q').drop 1=q':=rfl;simp only[hd,pz,Wae];refine⟨fun h5=>?_,fun h5=>?_⟩
  ·have h5:=dt h5;have:f=0:=by omega
   subst this;rw[<-hI.eq];rfl
  ·have h5:=df h5;obtain⟨f,rfl⟩:∃f',f=f'+1:=⟨f-1,by omega⟩
   have hw:=hI.okq w Waq;refine⟨⟨by omega,by omega⟩,⟨by omega,by omega⟩,⟨by omega,by omega⟩,fun h1=>?_,fun h0=>?_,trivial⟩
   ·obtain⟨k1,k2⟩:=MI.one hT hI h1;rw[h1]at k2;refine⟨⟨by decide,by decide⟩,⟨hI.Nf.size hT,by have:=hw.2.nl;omega,hw.2.tl⟩,fun he=>?_,fun he=>?_⟩
    ·have he:¬(cg Hx eK b' w.2.1).2.2=0:=by
      have:=nt he
      have:¬(bB b' w.2.1).2.2=0:=by simpa using this
      exact this
     rw[k1 he];rfl
    ·have he:(cg Hx eK b' w.2.1).2.2=0:=by
      have:=nf he
      have:(bB b' w.2.1).2.2=0:=by simpa using this
      exact this
     have hN:=k2 he;obtain⟨-,g2,g3⟩:=wo hT hI.Nf hw.2;obtain⟨out,hout⟩:∃out,out=(cg Hx eK b' w.2.1).2.1:=⟨_,rfl⟩
     rw[<-hout]at hN g2 g3;simp only[bB,<-hout];refine⟨⟨by decide,by decide⟩,fun y=>0<=y.1/\y.1<=out.length/\y.2.1=q'++(out.take y.1.toNat).map (fun m=>((1:Int)-1,m,()))/\y.2.2.1=a'/\y.2.2.2.1=(cg Hx eK b' w.2.1).1/\y.2.2.2.2.1=1,fun y=>(out.length-y.1).toNat,
      ⟨Waz _,by dsimp only;omega,by simp,rfl,rfl,rfl⟩,?_⟩
     rintro⟨j,Q,A,Bb,W⟩ ⟨j0,j1,hQ,hA,hB,hW⟩
     dsimp only at j0 j1 hQ hA hB hW ⊢;refine⟨fun hj=>?_,fun hj=>?_⟩
     ·have hj:=dt hj;obtain⟨M,hM⟩:∃M,M=out.getD j.toNat ((0:Int),(List.replicate (16:Nat) (0:Int),(0:Int),()),List.replicate (16:Nat) (0:Int),(0:Int),[],[],()):=⟨_,rfl⟩
      have hMo:HB (a++b) M:=g2 M (by rw[hM];exact Cv (by omega) _)
      rw[<-hM,SW hMo.p16 hMo.s16,hW];have e1:(j+1).toNat=j.toNat+1:=by omega
      have e2:Q++[((1:Int)-1,M,())]=q'++(out.take (j+1).toNat).map (fun m=>((1:Int)-1,m,())):=by
       rw[hQ,e1,<-oJ out j.toNat (by omega) ((0:Int),(List.replicate (16:Nat) (0:Int),(0:Int),()),List.replicate (16:Nat) (0:Int),(0:Int),[],[],()),<-hM,WaQ,<-Waj]
       rfl
      have hQl:Q.length<=400000:=by
       rw[hQ,Wad,Wav,Waf];have:=hI.len
       rw[Wae]at this;omega
      refine⟨⟨j0,hj⟩,bP (by omega) (by omega),qdb 104 U6 (by omega) (by simp only[WaB];omega),bP (by omega) (by omega),⟨by omega,by omega,e2,hA,hB,rfl⟩,by omega⟩
     ·have hj:=df hj;rw[Wap (by omega)]at hQ
      rw[hQ,hA,hB];exact⟨bP (by omega) (by omega),⟨f,by omega,by omega,hN⟩,by omega⟩
   ·obtain⟨k1,k2⟩:=MI.zero hT hI h0;rw[h0]at k2;refine⟨⟨by decide,by decide⟩,⟨hI.JG.size hT,by have:=hw.2.nl;omega,hw.2.tl⟩,fun he=>?_,fun he=>?_⟩
    ·have he:¬(cg Hx eK a' w.2.1).2.2=0:=by
      have:=nt he
      have:¬(bB a' w.2.1).2.2=0:=by simpa using this
      exact this
     rw[k1 he];rfl
    ·have he:(cg Hx eK a' w.2.1).2.2=0:=by
      have:=nf he
      have:(bB a' w.2.1).2.2=0:=by simpa using this
      exact this
     have hN:=k2 he;obtain⟨-,g2,g3⟩:=wo hT hI.JG hw.2;obtain⟨out,hout⟩:∃out,out=(cg Hx eK a' w.2.1).2.1:=⟨_,rfl⟩
     rw[<-hout]at hN g2 g3;simp only[bB,<-hout];refine⟨⟨by decide,by decide⟩,fun y=>0<=y.1/\y.1<=out.length/\y.2.1=q'++(out.take y.1.toNat).map (fun m=>((1:Int)-0,m,()))/\y.2.2.1=(cg Hx eK a' w.2.1).1/\y.2.2.2.1=b'/\y.2.2.2.2.1=0,fun y=>(out.length-y.1).toNat,
      ⟨Waz _,by dsimp only;omega,by simp,rfl,rfl,rfl⟩,?_⟩
     rintro⟨j,Q,A,Bb,W⟩ ⟨j0,j1,hQ,hA,hB,hW⟩
     dsimp only at j0 j1 hQ hA hB hW ⊢;refine⟨fun hj=>?_,fun hj=>?_⟩
     ·have hj:=dt hj;obtain⟨M,hM⟩:∃M,M=out.getD j.toNat ((0:Int),(List.replicate (16:Nat) (0:Int),(0:Int),()),List.replicate (16:Nat) (0:Int),(0:Int),[],[],()):=⟨_,rfl⟩
      have hMo:HB (a++b) M:=g2 M (by rw[hM];exact Cv (by omega) _)
      rw[<-hM,SW hMo.p16 hMo.s16,hW];have e1:(j+1).toNat=j.toNat+1:=by omega
      have e2:Q++[((1:Int)-0,M,())]=q'++(out.take (j+1).toNat).map (fun m=>((1:Int)-0,m,())):=by
       rw[hQ,e1,<-oJ out j.toNat (by omega) ((0:Int),(List.replicate (16:Nat) (0:Int),(0:Int),()),List.replicate (16:Nat) (0:Int),(0:Int),[],[],()),<-hM,WaQ,<-Waj]
       rfl
      have hQl:Q.length<=400000:=by
       rw[hQ,Wad,Wav,Waf];have:=hI.len
       rw[Wae]at this;omega
      refine⟨⟨j0,hj⟩,bP (by omega) (by omega),qdb 104 U6 (by omega) (by simp only[WaB];omega),bP (by omega) (by omega),⟨by omega,by omega,e2,hA,hB,rfl⟩,by omega⟩
     ·have hj:=df hj;rw[Wap (by omega)]at hQ
      rw[hQ,hA,hB];exact⟨bP (by omega) (by omega),⟨f,by omega,by omega,hN⟩,by omega⟩
 ·have hc:=df hc;obtain rfl:q=[]:=WaT (by omega)
  rw[<-hI.eq];cases f<;>rfl
end Go.Proofs.YtobfmplofoofkaaGreatDoor
namespace Go.AM
open Go.RowKit Go.Proofs Go.Lib
theorem KYtobfmplofoofkaaGreatDoor.EH(w:World)(ty:TypeId)(g off dn dc:Nat)(src:Addr)(sn sc:Nat)(vs:List Value)(cur:Array Value)(tid:TypeId)(hh:w.heap[g]?=some (.cells cur tid (0,0)))
 (hn:vs.length=Nat.min sn dn*17) (hs:∀j v,vs[j]?=some v->w.cell? (src.add j)=some v) (hf:off+vs.length<=cur.size) (h1:∀v∈vs,v.oneCell'=true):
 (Builtin.copy_ #[58,58] ty #[.slice (some ⟨g,off,none⟩) dn dc,.slice (some src) sn sc]).run Tryz.prog w=
   .ok (goInt (Nat.min sn dn)) (w.setRow g (cur.toList.take off++vs++cur.toList.drop (off+vs.length)).toArray):=by
 have hz:(Tryz.prog.info? 72).map (·.size)=some 17:=by kernel_rfl
 obtain⟨i,hi,hsz⟩:=Option.map_eq_some_iff.1 hz;have hu:Tryz.prog.underlying 58=some (.slice 72):=by kernel_rfl
 have hold:=run_firstCells_some (P:=Tryz.prog) w 17 (Nat.min sn dn) src sn sc vs hn hs;have hst:=run_storeCells_at Tryz.prog g off tid vs 0 cur w hh (by simpa using hf) h1
 simp only[Wbu]at hst;have hl:(Builtin.lenOf (.slice (some src) sn sc)).run Tryz.prog w= .ok sn w:=rfl;simp[Builtin.copy_,run_underlying hu,sizeOf,typeInfo,hi,hsz,hold,hst,hl,Result.andThen]
def KYtobfmplofoofkaaGreatDoor.x1(cur:Array Value)(i n m:Nat):Array Value:=(cur.toList.take ((i+m)*17)++(cur.toList.drop (i*17)).take ((n-i)*17)++cur.toList.drop ((i+m)*17+(n-i)*17)).toArray
def KYtobfmplofoofkaaGreatDoor.x2(cur de:Array Value)(i m:Nat):Array Value:=(cur.toList.take (i*17)++de.toList.take (m*17)++cur.toList.drop (i*17+m*17)).toArray
set_option maxHeartbeats 4000000 in
set_option maxRecDepth 100000 in
theorem KYtobfmplofoofkaaGreatDoor.qdc(w:World)(b n c i vb m vc:Nat)(cur de:Array Value)(hi:i<n)(hm:0<m)(hroom:n+m<=c)(hc63:c<=9223372036854775807)(hvb:vb≠b)(Ec:m<=vc)
 (hb:w.heap[b]?=some (.cells cur 72 (0,0))) (hv:w.heap[vb]?=some (.cells de 72 (0,0))) (YT:cur.size=c*17) (hvs:de.size=vc*17)
 (h1:∀u∈(cur.toList.drop (i*17)).take ((n-i)*17),u.oneCell'=true) (h1v:∀u∈de.toList.take (m*17),u.oneCell'=true):
 Calls Tryz.prog 63 #[.slice (some ⟨b,0,none⟩) n c,.int .i64 i,.slice (some ⟨vb,0,none⟩) m vc] w fun e w'=>
  e= .returned (.slice (some ⟨b,0,none⟩) (n+m) c)/\w'=(w.drew.setRow b (KYtobfmplofoofkaaGreatDoor.x1 cur i n m)).setRow b (KYtobfmplofoofkaaGreatDoor.x2 (KYtobfmplofoofkaaGreatDoor.x1 cur i n m) de i m):=by
 have hu:Tryz.prog.underlying 58=some (.slice 72):=by kernel_rfl
 have hz:∀w,(Go.sizeOf 72).run Tryz.prog w= .ok 17 w:=fun w=>by
  have h0:(Tryz.prog.info? 72).map (·.size)=some 17:=by kernel_rfl
  obtain⟨i0,h2,h3⟩:=Option.map_eq_some_iff.1 h0;simp[Go.sizeOf,typeInfo,h2,h3]
 have hz1:¬((m:Int)=0):=by omega
 have hz2:¬((i:Int)=(n:Int)):=by omega
 have hov:∀lb cb,(callFunc 113 #[.slice (some ⟨vb,0,none⟩) m vc,.slice (some ⟨b,(i+m)*17,none⟩) lb cb]).run Tryz.prog w= .ok (.value (.bool false)) w:=fun lb cb=>by
  rw[run_callFunc_extern Tryz.func113 (by kernel_rfl) (by kernel_rfl) (by kernel_rfl) (e:=Extern.SlicesOverlaps.overlaps #[58,58] #[4]) (by kernel_rfl),
   Lib.run_overlaps_apart w 58 4 72 hu 17 hz ⟨vb,0,none⟩ ⟨b,(i+m)*17,none⟩ m vc lb cb hvb 72 72 de.size cur.size (by simp[World.shape?,hv]) (by simp[World.shape?,hb]) (by omega) (by simp[World.frozen?,hv]) (by simp[World.frozen?,hv])]
  rfl
 have mixed:Tryz.prog.follows .mixedOrders=true:=by kernel_rfl
 have hw1:IntKind.i64.wrap ((i:Int)+(m:Int))=(i:Int)+(m:Int):=by rw[IntKind.wrap_i64];omega
 have hw2:IntKind.i64.wrap ((n:Int)+(m:Int))=(n:Int)+(m:Int):=by rw[IntKind.wrap_i64];omega
 have hb1:(0:Int)<=(i:Int)+(m:Int):=by omega
 have hin:i<=n:=by omega
 have htn:((i:Int)+(m:Int)).toNat=i+m:=by omega
 have qt7:((n:Int)+(m:Int)).toNat=n+m:=by omega
 have hb2:¬(c=i+m):=by omega
 have hb3:(i:Int)<=(n:Int)+(m:Int):=by omega
 have hb4:¬(c=i):=by omega
 have hb5:¬((c:Int)<(n:Int)+(m:Int)):=by omega
 go_enter Tryz.func63,Tryz.ntmps63
 have HX:((cur.toList.drop (i*17)).take ((n-i)*17)).length=(n-i)*17:=by
  rw[Waf,List.length_drop,Array.length_toList];have:(n-i)*17+i*17=n*17:=by rw[<-Nat.add_mul];congr 1;omega
  have:n*17<=c*17:=WaD _ (by omega)
  omega
 have hfit:(i+m)*17+(n-i)*17<=cur.size:=by
  rw[YT,<-Nat.add_mul];exact WaD _ (by omega)
 have qqu:∀ty dc sc,(Builtin.copy_ #[58,58] ty #[.slice (some ⟨b,(i+m)*17,none⟩) (n+m-(i+m)) dc,.slice (some ⟨b,i*17,none⟩) (n+m-i) sc]).run Tryz.prog w.drew= .ok (goInt ((n-i:Nat):Int)) (w.drew.setRow b (KYtobfmplofoofkaaGreatDoor.x1 cur i n m)):=fun ty dc sc=>by
  have hmin:Nat.min (n+m-i) (n+m-(i+m))=n-i:=by simp only[Nat.min_def];split<;>omega
  have:=KYtobfmplofoofkaaGreatDoor.EH w.drew ty b ((i+m)*17) (n+m-(i+m)) dc ⟨b,i*17,none⟩ (n+m-i) sc ((cur.toList.drop (i*17)).take ((n-i)*17)) cur 72 hb (by rw[HX,hmin]) (fun j v hj=>by
   rw[Addr.add_lit,World.cell?_drew,bp hb]
   rw[Was]at hj;split at hj
   ·rw[WaZ]at hj;simpa using hj
   ·cases hj) (by rw[HX];exact hfit) h1
  rw[hmin,HX]at this;exact this
 have qia:(KYtobfmplofoofkaaGreatDoor.x1 cur i n m).size=cur.size:=by
  unfold KYtobfmplofoofkaaGreatDoor.x1;simp only[Wbp,Wad,HX,Waf,List.length_drop,Array.length_toList];omega
 have hvl:(de.toList.take (m*17)).length=m*17:=by
  rw[Waf,Array.length_toList,hvs];have:=WaD 17 Ec
  omega
 have qqv:∀(W:World),W.heap[b]?=some (.cells (KYtobfmplofoofkaaGreatDoor.x1 cur i n m) 72 (0,0))->W.heap[vb]?=some (.cells de 72 (0,0))->∀ty dc,(Builtin.copy_ #[58,58] ty #[.slice (some ⟨b,i*17,none⟩) (n+m-i) dc,.slice (some ⟨vb,0,none⟩) m vc]).run Tryz.prog W= .ok (goInt m) (W.setRow b (KYtobfmplofoofkaaGreatDoor.x2 (KYtobfmplofoofkaaGreatDoor.x1 cur i n m) de i m)):=fun W hWb hWv ty dc=>by
  have hmin:Nat.min m (n+m-i)=m:=by simp only[Nat.min_def];split<;>omega
  have:=KYtobfmplofoofkaaGreatDoor.EH W ty b (i*17) (n+m-i) dc ⟨vb,0,none⟩ m vc (de.toList.take (m*17)) (KYtobfmplofoofkaaGreatDoor.x1 cur i n m) 72 hWb (by rw[hvl,hmin]) (fun j v hj=>by
   rw[Addr.add_lit,bp hWv];rw[Was]at hj;split at hj
   ·simpa using hj
   ·cases hj) (by rw[hvl,qia];omega) h1v
  rw[hmin,hvl]at this;exact this
 have hW1:∀W:World,W.heap=(w.drew.setRow b (KYtobfmplofoofkaaGreatDoor.x1 cur i n m)).heap->W.heap[b]?=some (.cells (KYtobfmplofoofkaaGreatDoor.x1 cur i n m) 72 (0,0))/\W.heap[vb]?=some (.cells de 72 (0,0)):=fun W hW=>by
  rw[hW];exact⟨setRow_heap w.drew b cur _ 72 _ hb,by rw[setRow_other w.drew b vb _ hvb];exact hv⟩
 go_wp2_with (simp only[hov])
 go_region_law_o (refine step_copy_runI rfl _ _ 58 58 rfl _ _ (by simp[Act.eval,Act.put]) (by simp[Act.eval,Act.put]) (qqu _ _ _) ?_)
 go_wp2_with (at_builtin;refine wpList_copy_runI _ rfl _ _ 58 58 rfl _ _ rfl rfl (qqv _ (hW1 _ rfl).1 (hW1 _ rfl).2 _ _) ?_)
 go_ret
 exact⟨rfl,rfl⟩
open Go.RowKit Go.Proofs Go.Lib
set_option maxHeartbeats 4000000 in
set_option maxRecDepth 100000 in
theorem KYtobfmplofoofkaaGreatDoor.qdd(w w1:World)(ad:Option Addr)(n c vb m vc:Nat)(u:Value)(hm:0<m)(hnc:n<=c)(hnil:ad=none->c=0)
 (hrun:∀ty,(Builtin.append_ #[58,58] ty #[.slice ad n c,.slice (some ⟨vb,0,none⟩) m vc]).run Tryz.prog w= .ok u w1):
 Calls Tryz.prog 63 #[.slice ad n c,.int .i64 n,.slice (some ⟨vb,0,none⟩) m vc] w fun e w'=>e= .returned u/\w'=w1:=by
 have hz1:¬((m:Int)=0):=by omega
 have mixed:Tryz.prog.follows .mixedOrders=true:=by kernel_rfl
 cases ad with
 |none=>
  have h0:=hnil rfl;subst h0;obtain rfl:n=0:=by omega
  go_enter Tryz.func63,Tryz.ntmps63
  go_wp2_with (at_builtin;refine Lib.wpList_append_run _ rfl _ _ _ _ rfl _ _ rfl rfl _ _ (hrun _) ?_)
  go_ret
  exact⟨rfl,rfl⟩
 |some a=>
  obtain⟨ab,ao,asp⟩:=a;go_enter Tryz.func63,Tryz.ntmps63
  go_wp2_with (at_builtin;refine Lib.wpList_append_run _ rfl _ _ _ _ rfl _ _ rfl rfl _ _ (hrun _) ?_)
  all_goals (go_ret;exact⟨rfl,rfl⟩)
def KYtobfmplofoofkaaGreatDoor.row(cur:Array Value)(z:Value)(i n m G:Nat):Array Value:=(cur.toList.take (i*17)).toArray++Builtin.zeroCells z.cells (n+m-i)++Builtin.zeroCells z.cells (G-(n+m))
def KYtobfmplofoofkaaGreatDoor.x3(R cur:Array Value)(i n m:Nat):Array Value:=(R.toList.take ((i+m)*17)++(cur.toList.drop (i*17)).take ((n-i)*17)++R.toList.drop ((i+m)*17+(n-i)*17)).toArray
set_option maxHeartbeats 4000000 in
set_option maxRecDepth 100000 in
theorem KYtobfmplofoofkaaGreatDoor.qgo(w:World)(b n c i vb m vc:Nat)(cur de:Array Value)(i0:TypeInfo)(z:Value)(hi0:Tryz.prog.info? 72=some i0)(hz0:i0.zero=some z)(hzs:i0.size=17)(hzb:i0.bytes=32)(hzc:z.cells.size=17)
 (hi:i<n) (hm:0<m) (hnc:n<=c) (hroom:c<n+m) (hbig:(n+m)*32<=140737488355328) (Ec:m<=vc)
 (hb:w.heap[b]?=some (.cells cur 72 (0,0))) (hv:w.heap[vb]?=some (.cells de 72 (0,0))) (YT:cur.size=c*17) (hvs:de.size=vc*17)
 (h1:∀u∈(cur.toList.drop (i*17)).take ((n-i)*17),u.oneCell'=true) (h1v:∀u∈de.toList.take (m*17),u.oneCell'=true) (G:Nat) (hG:G=grownCap w (n+m) c 72):
 Calls Tryz.prog 63 #[.slice (some ⟨b,0,none⟩) n c,.int .i64 i,.slice (some ⟨vb,0,none⟩) m vc] w fun e w'=>
  e= .returned (.slice (some ⟨w.heap.size,0,none⟩) (n+m) G)/\
  w'=(((w.alloc (.cells (KYtobfmplofoofkaaGreatDoor.row cur z i n m G) 72)).drew.setRow w.heap.size (KYtobfmplofoofkaaGreatDoor.x2 (KYtobfmplofoofkaaGreatDoor.row cur z i n m G) de i m)).drew).setRow w.heap.size (KYtobfmplofoofkaaGreatDoor.x3 (KYtobfmplofoofkaaGreatDoor.x2 (KYtobfmplofoofkaaGreatDoor.row cur z i n m G) de i m) cur i n m):=by
 have hu:Tryz.prog.underlying 58=some (.slice 72):=by kernel_rfl
 have hui:Tryz.prog.underlying 3=some (.int .i64):=by kernel_rfl
 have mixed:Tryz.prog.follows .mixedOrders=true:=by kernel_rfl
 have qua:Tryz.prog.follows .appendOfMake=true:=by kernel_rfl
 have hz1:¬((m:Int)=0):=by omega
 have hz2:¬((i:Int)=(n:Int)):=by omega
 have hz3:(c:Int)<(n:Int)+(m:Int):=by omega
 have hbw:b<w.heap.size:=aY hb;have hvw:vb<w.heap.size:=aY hv;have hkk:(n:Int)+(m:Int)-(i:Int)=((n+m-i:Nat):Int):=by omega
 have hik:i+(n+m-i)=n+m:=by omega
 have hw2:IntKind.i64.wrap ((n:Int)+(m:Int))=(n:Int)+(m:Int):=by rw[IntKind.wrap_i64];omega
 have hw3:IntKind.i64.wrap ((n:Int)+(m:Int)-(i:Int))=(n:Int)+(m:Int)-(i:Int):=by rw[IntKind.wrap_i64];omega
 have hic:i*17<=c*17:=WaD _ (by omega)
 have qr2:n*17<=c*17:=WaD _ hnc;have hto:(cur.toList.take (i*17)).length=i*17:=by rw[Waf,Array.length_toList,YT];omega
 have hold:(Builtin.firstCells i0.size i (.slice (some ⟨b,0,none⟩) i c)).run Tryz.prog w.drew= .ok (cur.toList.take (i*17)).toArray w.drew:=by
  rw[hzs];exact run_firstCells_some w.drew 17 i ⟨b,0,none⟩ i c (cur.toList.take (i*17)) hto (fun j v hj=>by
   rw[Addr.add_lit,World.cell?_drew,bp hb]
   rw[Was]at hj;split at hj
   ·simpa using hj
   ·cases hj)
 have hGn:n+m<=G:=by rw[hG];exact grownCap_ge w _ _ _
 have hG63:G<=9223372036854775807:=by
  have:=grownCap_le_maxLen w (n+m) c 72 (by unfold maxLen;omega)
  rw[<-hG]at this;unfold maxLen at this;omega
 have hrz:∀ty,(Builtin.append_ #[58,3] ty #[.slice (some ⟨b,0,none⟩) i c,.int .i64 ((n:Int)+(m:Int)-(i:Int))]).run Tryz.prog w=
  .ok (.slice (some ⟨w.heap.size,0,none⟩) (n+m) G) (w.drew.alloc (.cells (KYtobfmplofoofkaaGreatDoor.row cur z i n m G) 72)):=fun ty=>by
  have h:=Lib.run_append_grow_zeros w 58 3 ty 72 i0 z .i64 .i64 hu hui hi0 hz0 (some ⟨b,0,none⟩) i c (cur.toList.take (i*17)) hold (n+m-i) (by omega) (by omega) (by omega) (by omega) (by rw[hzb];omega) (by rw[hzb,hik];exact growslice_fits hroom hbig)
  rw[hik,<-hG]at h;rw[hkk];exact h
 obtain⟨R,hR⟩:∃R,R=KYtobfmplofoofkaaGreatDoor.row cur z i n m G:=⟨_,rfl⟩
 rw[<-hR]at hrz ⊢;have hRs:R.size=G*17:=by
  rw[hR];unfold KYtobfmplofoofkaaGreatDoor.row;simp only[Wcb,Wbp,size_zeroCells,hzc,hto];rw[<-Nat.add_mul,<-Nat.add_mul];congr 1
  omega
 have HX:((cur.toList.drop (i*17)).take ((n-i)*17)).length=(n-i)*17:=by
  rw[Waf,List.length_drop,Array.length_toList];have:(n-i)*17+i*17=n*17:=by rw[<-Nat.add_mul];congr 1;omega
  omega
 have hvl:(de.toList.take (m*17)).length=m*17:=by
  rw[Waf,Array.length_toList,hvs];have:=WaD 17 Ec
  omega
 have qnC:i*17+m*17<=R.size:=by
  rw[hRs,<-Nat.add_mul];exact WaD _ (by omega)
 have qnD:(i+m)*17+(n-i)*17<=R.size:=by
  rw[hRs,<-Nat.add_mul];exact WaD _ (by omega)
 have qqx:∀(W:World),W.heap[w.heap.size]?=some (.cells R 72 (0,0))->W.heap[vb]?=some (.cells de 72 (0,0))->∀ty dc,(Builtin.copy_ #[58,58] ty #[.slice (some ⟨w.heap.size,i*17,none⟩) (n+m-i) dc,.slice (some ⟨vb,0,none⟩) m vc]).run Tryz.prog W= .ok (goInt m) (W.setRow w.heap.size (KYtobfmplofoofkaaGreatDoor.x2 R de i m)):=fun W hWb hWv ty dc=>by
  have hmin:Nat.min m (n+m-i)=m:=by simp only[Nat.min_def];split<;>omega
  have:=KYtobfmplofoofkaaGreatDoor.EH W ty w.heap.size (i*17) (n+m-i) dc ⟨vb,0,none⟩ m vc (de.toList.take (m*17)) R 72 hWb (by rw[hvl,hmin]) (fun j v hj=>by
   rw[Addr.add_lit,bp hWv];rw[Was]at hj;split at hj
   ·simpa using hj
   ·cases hj) (by rw[hvl];exact qnC) h1v
  rw[hmin,hvl]at this;exact this
 have qqy:(KYtobfmplofoofkaaGreatDoor.x2 R de i m).size=R.size:=by
  unfold KYtobfmplofoofkaaGreatDoor.x2;simp only[Wbp,Wad,hvl,Waf,List.length_drop,Array.length_toList];omega
 have qqz:∀(W:World),W.heap[w.heap.size]?=some (.cells (KYtobfmplofoofkaaGreatDoor.x2 R de i m) 72 (0,0))->W.heap[b]?=some (.cells cur 72 (0,0))->∀ty dc sc,(Builtin.copy_ #[58,58] ty #[.slice (some ⟨w.heap.size,(i+m)*17,none⟩) (n+m-(i+m)) dc,.slice (some ⟨b,i*17,none⟩) (n-i) sc]).run Tryz.prog W= .ok (goInt ((n-i:Nat):Int)) (W.setRow w.heap.size (KYtobfmplofoofkaaGreatDoor.x3 (KYtobfmplofoofkaaGreatDoor.x2 R de i m) cur i n m)):=fun W hWb hWv ty dc sc=>by
  have hmin:Nat.min (n-i) (n+m-(i+m))=n-i:=by simp only[Nat.min_def];split<;>omega
  have:=KYtobfmplofoofkaaGreatDoor.EH W ty w.heap.size ((i+m)*17) (n+m-(i+m)) dc ⟨b,i*17,none⟩ (n-i) sc ((cur.toList.drop (i*17)).take ((n-i)*17)) (KYtobfmplofoofkaaGreatDoor.x2 R de i m) 72 hWb (by rw[HX,hmin]) (fun j v hj=>by
   rw[Addr.add_lit,bp hWv];rw[Was]at hj;split at hj
   ·rw[WaZ]at hj;simpa using hj
   ·cases hj) (by rw[HX,qqy];exact qnD) h1
  rw[hmin,HX]at this;exact this
 have hWA:∀W:World,W.heap=(w.drew.alloc (.cells R 72)).heap->W.heap[w.heap.size]?=some (.cells R 72 (0,0))/\W.heap[vb]?=some (.cells de 72 (0,0))/\W.heap[b]?=some (.cells cur 72 (0,0)):=fun W hW=>by
  rw[hW];exact⟨heap_alloc_new w.drew _,(Below.heap_alloc w.drew _ vb hvw).trans hv,(Below.heap_alloc w.drew _ b hbw).trans hb⟩
 have hWB:∀W:World,W.heap=((w.drew.alloc (.cells R 72)).setRow w.heap.size (KYtobfmplofoofkaaGreatDoor.x2 R de i m)).heap->W.heap[w.heap.size]?=some (.cells (KYtobfmplofoofkaaGreatDoor.x2 R de i m) 72 (0,0))/\W.heap[b]?=some (.cells cur 72 (0,0)):=fun W hW=>by
  rw[hW];exact⟨setRow_heap _ w.heap.size R _ 72 _ (hWA _ rfl).1,by rw[setRow_other _ w.heap.size b _ (by omega)];exact (hWA _ rfl).2.2⟩
 have hGi:¬(G=i):=by omega
 have quc:¬(G=i+m):=by omega
 have rO:¬(c=i):=by omega
 have hw1:IntKind.i64.wrap ((i:Int)+(m:Int))=(i:Int)+(m:Int):=by rw[IntKind.wrap_i64];omega
 have hb1:(0:Int)<=(i:Int)+(m:Int):=by omega
 have hin:i<=n:=by omega
 have htn:((i:Int)+(m:Int)).toNat=i+m:=by omega
 have hb3:(i:Int)<=(n:Int):=by omega
 have hA:=qqx (w.alloc (.cells R 72)).drew (hWA _ rfl).1 (hWA _ rfl).2.1;have hB:=qqz ((w.alloc (.cells R 72)).drew.setRow w.heap.size (KYtobfmplofoofkaaGreatDoor.x2 R de i m)).drew (hWB _ rfl).1 (hWB _ rfl).2;clear hkk hik hold hR hG hRs
 go_enter Tryz.func63,Tryz.ntmps63
 go_wp2_with (first
  |(at_builtin;refine Lib.wpList_append_run _ rfl _ _ _ _ rfl _ _ rfl rfl _ _ (hrz _) ?_)
  |(at_builtin;refine wpList_copy_runI _ rfl _ _ 58 58 rfl _ _ rfl rfl (hA _ _) ?_))
 go_region_law_o (refine step_copy_runI rfl _ _ 58 58 rfl (.slice (some ⟨w.heap.size,(i+m)*17,none⟩) (n+m-(i+m)) (G-(i+m))) (.slice (some ⟨b,i*17,none⟩) (n-i) (c-i)) (by simp[Act.eval,Act.put]) (by simp[Act.eval,Act.put]) (hB 3 (G-(i+m)) (c-i)) ?_)
 go_wp2
 go_ret
 exact⟨rfl,rfl⟩
end Go.AM
namespace Go.Proofs.YtobfmplofoofkaaGreatDoor
open Go.RowKit Go.AM Go.PL Go.Proofs Go.Lib
theorem Kf{α:Type}{a b:List α}{n k:Nat}(h:a.length=n):(a++b).take (n+k)=a++b.take k:=by
 subst h;rw[Wce,Wap (by omega),WbB]
theorem qqA(cur de:Array Value){i n m c:Nat}(hi:i<=n)(hroom:n+m<=c)(YT:cur.size=c*17)(hvs:m*17<=de.size):
 (KYtobfmplofoofkaaGreatDoor.x2 (KYtobfmplofoofkaaGreatDoor.x1 cur i n m) de i m).size=cur.size/\(KYtobfmplofoofkaaGreatDoor.x2 (KYtobfmplofoofkaaGreatDoor.x1 cur i n m) de i m).toList.take ((n+m)*17)=cur.toList.take (i*17)++de.toList.take (m*17)++(cur.toList.drop (i*17)).take ((n-i)*17):=by
 have Fh:(i+m)*17+(n-i)*17<=c*17:=by rw[<-Nat.add_mul];exact WaD _ (by omega)
 have e1:(i+m)*17=i*17+m*17:=Nat.add_mul _ _ _;have e2:(n+m)*17=(i*17+m*17)+(n-i)*17:=by rw[<-Nat.add_mul,<-Nat.add_mul];congr 1;omega
 obtain⟨P,hP⟩:∃P,P=cur.toList.take (i*17):=⟨_,rfl⟩
 obtain⟨D,hD⟩:∃D,D=(cur.toList.drop (i*17)).take ((n-i)*17):=⟨_,rfl⟩
 obtain⟨N,hN⟩:∃N,N=de.toList.take (m*17):=⟨_,rfl⟩
 have lP:P.length=i*17:=by rw[hP,Waf,Array.length_toList];omega
 have lD:D.length=(n-i)*17:=by rw[hD,Waf,List.length_drop,Array.length_toList];omega
 have lN:N.length=m*17:=by rw[hN,Waf,Array.length_toList];omega
 obtain⟨M,hM⟩:∃M,M=(cur.toList.drop (i*17)).take (m*17):=⟨_,rfl⟩
 have lM:M.length=m*17:=by rw[hM,Waf,List.length_drop,Array.length_toList];omega
 have hPM:cur.toList.take ((i+m)*17)=P++M:=by rw[e1,List.take_add,hP,hM]
 obtain⟨R,hR⟩:∃R,R=cur.toList.drop ((i+m)*17+(n-i)*17):=⟨_,rfl⟩
 have lR:R.length=cur.size-((i+m)*17+(n-i)*17):=by rw[hR,List.length_drop,Array.length_toList]
 have h1:(KYtobfmplofoofkaaGreatDoor.x1 cur i n m).toList=P++(M++(D++R)):=by
  show cur.toList.take ((i+m)*17)++(cur.toList.drop (i*17)).take ((n-i)*17)++cur.toList.drop ((i+m)*17+(n-i)*17)=_
  rw[hPM,<-hD,<-hR,Waj,Waj]
 have h2:(KYtobfmplofoofkaaGreatDoor.x2 (KYtobfmplofoofkaaGreatDoor.x1 cur i n m) de i m).toList=P++(N++(D++R)):=by
  show (KYtobfmplofoofkaaGreatDoor.x1 cur i n m).toList.take (i*17)++de.toList.take (m*17)++(KYtobfmplofoofkaaGreatDoor.x1 cur i n m).toList.drop (i*17+m*17)=_
  rw[h1,Wcq lP,<-List.drop_drop,WcN lP,WcN lM,<-hN,Waj]
 constructor
 ·rw[<-Array.length_toList,h2];simp only[Wad,lP,lN,lD,lR];omega
 ·rw[h2,e2,<-Waj,Wa2,<-Wa2,Kf (by rw[Wad,lP,lN]),Wcq lD,<-hP,<-hN,<-hD]
theorem qqB(cur de:Array Value)(z:Value){i n m c G:Nat}(hz:z.cells.size=17)(hi:i<=n)(hnc:n<=c)(hG:n+m<=G)(YT:cur.size=c*17)(hvs:m*17<=de.size):
 (KYtobfmplofoofkaaGreatDoor.x3 (KYtobfmplofoofkaaGreatDoor.x2 (KYtobfmplofoofkaaGreatDoor.row cur z i n m G) de i m) cur i n m).size=G*17/\
   (KYtobfmplofoofkaaGreatDoor.x3 (KYtobfmplofoofkaaGreatDoor.x2 (KYtobfmplofoofkaaGreatDoor.row cur z i n m G) de i m) cur i n m).toList.take ((n+m)*17)=cur.toList.take (i*17)++de.toList.take (m*17)++(cur.toList.drop (i*17)).take ((n-i)*17):=by
 have hic:i*17+(n-i)*17<=c*17:=by rw[<-Nat.add_mul];exact WaD _ (by omega)
 have hGG:i*17+m*17+(n-i)*17<=G*17:=by rw[<-Nat.add_mul,<-Nat.add_mul];exact WaD _ (by omega)
 have e1:(i+m)*17=i*17+m*17:=Nat.add_mul _ _ _;have e2:(n+m)*17=(i*17+m*17)+(n-i)*17:=by rw[<-Nat.add_mul,<-Nat.add_mul];congr 1;omega
 obtain⟨P,hP⟩:∃P,P=cur.toList.take (i*17):=⟨_,rfl⟩
 obtain⟨D,hD⟩:∃D,D=(cur.toList.drop (i*17)).take ((n-i)*17):=⟨_,rfl⟩
 obtain⟨N,hN⟩:∃N,N=de.toList.take (m*17):=⟨_,rfl⟩
 have lP:P.length=i*17:=by rw[hP,Waf,Array.length_toList];omega
 have lD:D.length=(n-i)*17:=by rw[hD,Waf,List.length_drop,Array.length_toList];omega
 have lN:N.length=m*17:=by rw[hN,Waf,Array.length_toList];omega
 obtain⟨Z,hZ⟩:∃Z,(KYtobfmplofoofkaaGreatDoor.row cur z i n m G).toList=P++Z:=⟨(Builtin.zeroCells z.cells (n+m-i)).toList++(Builtin.zeroCells z.cells (G-(n+m))).toList,by
  unfold KYtobfmplofoofkaaGreatDoor.row;simp only[Array.toList_append,Waj];rw[<-hP]⟩
 have lZ:Z.length=G*17-i*17:=by
  have h:(KYtobfmplofoofkaaGreatDoor.row cur z i n m G).size=G*17:=by
   unfold KYtobfmplofoofkaaGreatDoor.row;simp only[Wcb,Wbp,size_zeroCells,hz];rw[<-hP,lP,<-Nat.add_mul,<-Nat.add_mul];congr 1
   omega
  rw[<-Array.length_toList,hZ,Wad,lP]at h;omega
 have h2:(KYtobfmplofoofkaaGreatDoor.x2 (KYtobfmplofoofkaaGreatDoor.row cur z i n m G) de i m).toList=P++(N++Z.drop (m*17)):=by
  show (KYtobfmplofoofkaaGreatDoor.row cur z i n m G).toList.take (i*17)++de.toList.take (m*17)++(KYtobfmplofoofkaaGreatDoor.row cur z i n m G).toList.drop (i*17+m*17)=_
  rw[hZ,Wcq lP,<-List.drop_drop,WcN lP,<-hN,Waj]
 have h3:(KYtobfmplofoofkaaGreatDoor.x3 (KYtobfmplofoofkaaGreatDoor.x2 (KYtobfmplofoofkaaGreatDoor.row cur z i n m G) de i m) cur i n m).toList=(P++N)++(D++(P++(N++Z.drop (m*17))).drop ((i+m)*17+(n-i)*17)):=by
  show (KYtobfmplofoofkaaGreatDoor.x2 (KYtobfmplofoofkaaGreatDoor.row cur z i n m G) de i m).toList.take ((i+m)*17)++(cur.toList.drop (i*17)).take ((n-i)*17)++(KYtobfmplofoofkaaGreatDoor.x2 (KYtobfmplofoofkaaGreatDoor.row cur z i n m G) de i m).toList.drop ((i+m)*17+(n-i)*17)=_
  rw[h2,<-hD,e1,<-Waj P,Wcq (by rw[Wad,lP,lN]),Waj]
 constructor
 ·rw[<-Array.length_toList,h3];simp only[Wad,lP,lN,lD,List.length_drop,lZ];omega
 ·rw[h3,e2,Kf (by rw[Wad,lP,lN]),Wcq lD,<-hP,<-hN,<-hD]
def Cx(k:Int)(xs ys:List (List Int×List Int×Unit)):Prop:=0<=k/\k<=xs.length/\1<=ys.length/\ys.length<=1000/\xs.length<=1000000
def qhC:ua:=⟨I,72,IT,fun k xs ys=>Cx k xs ys,fun k xs ys=>xs.take (k:Int).toNat++ys++xs.drop (k:Int).toNat⟩
noncomputable def CI:Ctx:=bA bs [] [] qmH
theorem qqC:∃i z,Vw CI 58 72 IT i z/\i.bytes=32:=by
 have h0:((CI.P.info? 72).bind fun i=>i.zero.map fun z=>(i.size,z.cells.size,i.bytes))=some (17,17,32):=by kernel_rfl
 obtain⟨i,h1,h2⟩:=Option.bind_eq_some_iff.1 h0;obtain⟨z,h3,h4⟩:=Option.map_eq_some_iff.1 h2;simp only[Prod.mk.injEq]at h4;exact⟨i,z,⟨by kernel_rfl,h1,h3,h4.1,h4.2.1⟩,h4.2.2⟩
theorem qgp:CI.P.bytesOf 72=32:=by kernel_rfl
theorem qde(B:Nat->Prop)(Ψ:Pr)(w:World)(v v2:Value)(i:Nat)(xs ys:List (Ty.den IT))(hB:∀k,B k->k<w.heap.size)(hb1:cn bs.P B Ψ [v] w 0 (.grow 72 IT xs))(hb2:cn bs.P B Ψ [v2] w 0 (.grow 72 IT ys))
 (hsep:∀q,af [v] 0 q (.grow 72 IT xs)->af [v2] 0 q (.grow 72 IT ys)->False) (h1:i<=xs.length) (h2:1<=ys.length) (h3:ys.length<=1000) (h4:xs.length<=1000000):
 Calls bs.P 63 #[v,.int .i64 (i:Int),v2] w fun e w'=>∃u row,e= .returned u/\w.grownBy w' row/\(∀q,row=some q->af [v] 0 q (.grow 72 IT xs))/\u.oneCell'=true/\
  (∀(β':List Value) (k:Nat),β'[k]?=some u->cn bs.P B Ψ β' w' k (.grow 72 IT (xs.take i++ys++xs.drop i)))/\∀(β':List Value) (k q:Nat),β'[k]?=some u->af β' k q (.grow 72 IT (xs.take i++ys++xs.drop i))->row=some q\/w.heap.size<=q:=by
 obtain⟨ti,z,hT,qqD⟩:=qqC;rcases hb2 with ⟨ad,_,hys⟩|⟨vb,vc,de,hv2,hvz,hvB,hvh,hvl,hvm,hvs,hvd⟩
 ·rw[hys]at h2;simp at h2
 have qqF:v2= .slice (some ⟨vb,0,none⟩) ys.length vc:=by simpa using hv2
 subst qqF;have hroom:aM CI 72 (xs.length+ys.length):=by
  unfold aM;rw[qgp];constructor<;>omega
 have Ya:Ty.cells IT=17:=rfl;have qnF:ys.length*17<=de.size:=by rw[hvs,Ya];exact WaD _ hvl
 have hsrc:Src CI.P (Ty.cells IT) 58 (.slice (some ⟨vb,0,none⟩) ys.length vc) ys.length (de.toList.take (ys.length*17)) w:=by
  refine Src.ofSlice w hT.ht ⟨vb,0,none⟩ ys.length vc _ (by rw[Waf,Ya];have quf:de.toList.length=de.size:=Array.length_toList;omega) (fun j u hj=>?_) (ql (cN IT) _ _ hvd)
  rw[Addr.add_lit,bp hvh];rw[Was]at hj;split at hj
  ·simpa using hj
  ·cases hj
 have qqG:∀k:Nat,k=xs.length->xs.take k++ys++xs.drop k=xs++ys:=fun k e=>by rw[e,WbP,List.drop_length,WaA]
 rcases hb1 with ⟨ad,hv,hxs⟩|⟨g,cap,cur,hv,hz,hgB,hh,hl,zA,hcs,hd⟩
 ·have AS:v= .slice ad 0 0:=by simpa using hv
  subst AS;have hi0:i=0:=by rw[hxs]at h1;simpa using h1
  obtain⟨u,w',hrun,qdf,hone,eV,hcl⟩:=append_empty (ty:=0) hT ad hsrc hvd hB (by rw[hxs]at hroom;simpa using hroom)
  have nP:∀ty,(Builtin.append_ #[58,58] ty #[.slice ad 0 0,.slice (some ⟨vb,0,none⟩) ys.length vc]).run Tryz.prog w= .ok u w':=fun ty=>hrun
  subst hi0;refine (KYtobfmplofoofkaaGreatDoor.qdd w w' ad 0 0 vb ys.length vc u (by omega) (Wan _) (fun _=>rfl) nP).mono ?_
  rintro e w2 ⟨rfl,rfl⟩
  have hpost:xs.take 0++ys++xs.drop 0=ys:=by
   rw[hxs];simp
  refine⟨u,none,rfl,⟨qdf.os,qdf.tape,qdf.output,qdf.size,fun k hk _=>qdf.block k hk⟩,(by simp),hone,fun β' k hk=>?_,fun β' k q hk hc=>.inr ?_⟩
  ·rw[hpost];exact eV β' k hk
  ·rw[hpost]at hc;exact hcl β' k q hk hc
 ·have AS:v= .slice (some ⟨g,0,none⟩) xs.length cap:=by simpa using hv
  subst AS;have YT:cur.size=cap*17:=by rw[hcs,Ya]
  have hgv:vb≠g:=fun e=>hsep g ⟨_,cap,hz,hv⟩ ⟨_,vc,hvz,by rw[<-e];exact hv2⟩
  by_cases hik:i=xs.length
  ·obtain⟨u,w',hrun,xN,hone,eV,hcl⟩:=Fq (ty:=0) hT hz hgB hh hl zA hcs hd hsrc hvd hB hroom;have nP:∀ty,(Builtin.append_ #[58,58] ty #[.slice (some ⟨g,0,none⟩) xs.length cap,.slice (some ⟨vb,0,none⟩) ys.length vc]).run Tryz.prog w= .ok u w':=fun ty=>hrun
   subst hik;refine (KYtobfmplofoofkaaGreatDoor.qdd w w' _ xs.length cap vb ys.length vc u (by omega) hl (fun e=>by cases e) nP).mono ?_
   rintro e w2 ⟨rfl,rfl⟩
   have hpost:xs.take xs.length++ys++xs.drop xs.length=xs++ys:=qqG _ rfl;refine⟨u,some g,rfl,xN,fun q e=>by cases e;exact⟨_,_,hz,hv⟩,hone,fun β' k hk=>?_,fun β' k q hk hc=>?_⟩
   ·rw[hpost];exact eV β' k hk
   ·rw[hpost]at hc;exact (hcl β' k q hk hc).imp (fun e=>by rw[e]) id
  ·have wG:i<xs.length:=by omega
   have quh:xs.length*17<=cur.size:=by rw[YT];exact WaD _ hl
   have hdD:gu (reads Ψ IT) (xs.drop i) ((cur.toList.drop (i*17)).take ((xs.length-i)*17)):=by
    have:=iJ (aj IT) _ _ i hd
    rw[Ya,Wcz]at this;rw[Nat.sub_mul];exact this
   have hdT:gu (reads Ψ IT) (xs.take i) (cur.toList.take (i*17)):=by
    have:=ja (aj IT) _ _ i hd
    rw[Ya,Wb6,show min (i*17) (xs.length*17)=i*17 by have:=WaD 17 h1;omega]at this
    exact this
   have hlen:(xs.take i++ys++xs.drop i).length=xs.length+ys.length:=by simp only[Wad,Waf,List.length_drop];omega
   have hdN:gu (reads Ψ IT) ys (de.toList.take (ys.length*17)):=hvd;have qhD:=ql (cN IT) _ _ hdD;have qhE:=ql (cN IT) _ _ hdN;have hall:gu (reads Ψ IT) (xs.take i++ys++xs.drop i) (cur.toList.take (i*17)++de.toList.take (ys.length*17)++(cur.toList.drop (i*17)).take ((xs.length-i)*17)):=
    eO _ _ _ _ (eO _ _ _ _ hdT hdN) hdD
   have qnG:de.size=vc*17:=by rw[hvs,Ya]
   have qqH:cap<=9223372036854775807:=by unfold maxLen at zA;omega
   by_cases Th:xs.length+ys.length<=cap
   ·refine (KYtobfmplofoofkaaGreatDoor.qdc w g xs.length cap i vb ys.length vc cur de wG (by omega) Th qqH hgv hvl hh hvh YT qnG qhD qhE).mono ?_
    rintro e w2 ⟨rfl,rfl⟩
    obtain⟨s1,s2⟩:=qqA cur de (i:=i) (n:=xs.length) (m:=ys.length) (c:=cap) h1 Th YT qnF;have hw1:(w.drew.setRow g (KYtobfmplofoofkaaGreatDoor.x1 cur i xs.length ys.length)).heap[g]?=some (.cells (KYtobfmplofoofkaaGreatDoor.x1 cur i xs.length ys.length) 72 (0,0)):=setRow_heap w.drew g cur _ 72 _ hh;refine⟨.slice (some ⟨g,0,none⟩) (xs.length+ys.length) cap,some g,rfl,⟨rfl,rfl,rfl,by simp,fun k hk hkg=>?_⟩,fun q e=>by cases e;exact⟨_,_,hz,hv⟩,rfl,fun β' k hk=>?_,fun β' k q hk hc=>.inl ?_⟩
    ·have hne:k≠g:=fun e=>hkg (by rw[e])
     rw[setRow_other _ g k _ hne,setRow_other _ g k _ hne];rfl
    ·refine .inr ⟨g,cap,_,by rw[hk,hlen],hz,hgB,setRow_heap _ g _ _ 72 _ hw1,by rw[hlen];exact Th,zA,by rw[s1,YT,Ya],?_⟩
     rw[hlen,Ya,s2];exact hall
    ·obtain⟨n',cap',Fk,hc⟩:=hc;rw[hk]at hc;simp only[Option.some.injEq,Value.slice.injEq,Addr.mk.injEq]at hc;rw[hc.1.1]
   ·have hbig:(xs.length+ys.length)*32<=140737488355328:=by omega
    obtain⟨G,hG⟩:∃G,G=grownCap w (xs.length+ys.length) cap 72:=⟨_,rfl⟩
    refine (KYtobfmplofoofkaaGreatDoor.qgo w g xs.length cap i vb ys.length vc cur de ti z hT.hi hT.hz (by rw[hT.hs,Ya]) qqD (by rw[hT.hc,Ya]) wG (by omega) hl (by omega) hbig hvl hh hvh YT qnG qhD qhE G hG).mono ?_
    rintro e w2 ⟨rfl,rfl⟩
    have hGn:xs.length+ys.length<=G:=by rw[hG];exact grownCap_ge w _ _ _
    have hGm:G<=maxLen:=by rw[hG];exact grownCap_le_maxLen w _ _ _ (by unfold maxLen;omega)
    obtain⟨s1,s2⟩:=qqB cur de z (i:=i) (n:=xs.length) (m:=ys.length) (c:=cap) (G:=G) (by rw[hT.hc,Ya]) h1 hl hGn YT qnF
    have hwa:(w.alloc (.cells (KYtobfmplofoofkaaGreatDoor.row cur z i xs.length ys.length G) 72)).drew.heap[w.heap.size]?=some (.cells (KYtobfmplofoofkaaGreatDoor.row cur z i xs.length ys.length G) 72 (0,0)):=heap_alloc_new w _;have hwb:=setRow_heap (w.alloc (.cells (KYtobfmplofoofkaaGreatDoor.row cur z i xs.length ys.length G) 72)).drew w.heap.size _ (KYtobfmplofoofkaaGreatDoor.x2 (KYtobfmplofoofkaaGreatDoor.row cur z i xs.length ys.length G) de i ys.length) 72 _ hwa;refine⟨.slice (some ⟨w.heap.size,0,none⟩) (xs.length+ys.length) G,none,rfl,⟨rfl,rfl,rfl,by simp,fun k hk _=>?_⟩,fun q e=>(by cases e),rfl,fun β' k hk=>?_,fun β' k q hk hc=>.inr ?_⟩
    ·have hne:k≠w.heap.size:=by omega
     rw[setRow_other _ w.heap.size k _ hne];show ((w.alloc _).drew.setRow w.heap.size _).heap[k]?=_
     rw[setRow_other _ w.heap.size k _ hne];exact Below.heap_alloc w _ k hk
    ·refine .inr ⟨w.heap.size,G,_,by rw[hk,hlen],by omega,gW hB,setRow_heap _ w.heap.size _ _ 72 _ hwb,by rw[hlen];exact hGn,hGm,by rw[s1,Ya],?_⟩
     rw[hlen,Ya,s2];exact hall
    ·obtain⟨n',cap',Fk,hc⟩:=hc;rw[hk]at hc;simp only[Option.some.injEq,Value.slice.injEq,Addr.mk.injEq]at hc;rw[hc.1.1];exact Wan _
theorem qdg:ZM bs.P 63 qhC:=by
 intro B Ψ w v va v2 (x:Int) xs ys hB hb1 hb2 hsep hx hpre;obtain⟨h0,h1,h2,h3,h4⟩:Cx x xs ys:=hpre
 obtain⟨rfl,_⟩:=(aU (β:=[])).1 hx;obtain⟨i,rfl⟩:=Wa8 h0;have h1:(i:Int)<=((xs.length:Nat):Int):=h1;exact qde B Ψ w v v2 i xs ys hB hb1 hb2 hsep (by omega) h2 h3 h4
end Go.Proofs.YtobfmplofoofkaaGreatDoor
namespace Go.Proofs.YtobfmplofoofkaaGreatDoor
open Go.AM Go.PL
def U7(f:FuncId)(r:Nat):List LA:=
 if Nat.beq f 101 then bif Nat.beq r 3 then [.slot 16 I,.dF 4 70 DG,.cell 0 0 IL,.cell 1 0 IL,.kY 1 1 116 PC,.cell 1 2 I] else [.slot 52 I,.cell 0 0 IL,.cell 1 0 IL,.kY 1 1 116 PC,.cell 1 2 I] else
 if Nat.beq f 102 then [.slot 11 I,.cell 0 0 IL,.cell 1 0 IL,.kY 1 1 116 PC,.cell 1 2 I] else
 []
def qhF(t:TypeId):Nat:=bif Nat.beq t 70||(Nat.beq t 72||(Nat.beq t 113||Nat.beq t 116)) then 2 else 0
def qks(f:FuncId):Hint:=if Nat.beq f 999999995 then⟨fun _=>[],fun _=>.split,fun _=>.split,qhF⟩ else if Nat.beq f 999999996 then⟨fun _=>[],fun _=>.split,fun _=>.split,fun _=>1⟩ else if Nat.beq f 999999997 then⟨fun _=>[],fun _=>.split,fun _=>.split,fun _=>1⟩ else
 ⟨U7 f,fun r=>.all,fun _=>.split,fun _=>0⟩
noncomputable def JA0:Ctx:=qaY bs [(62,v5),(48,Er)] [(64,Ai)] [(63,qhC)] qks
abbrev M4(t:List Int):=([(iq qf [t]).getD y0 z0,(iq qf [t]).getD y1 z0,(iq qf [t]).getD y2 z0,(iq qf [t]).getD y3 z0,(iq qf [t]).getD y4 z0,(iq qf [t]).getD y5 z0,
 (iq qf [t]).getD y6 z0,(iq qf [t]).getD y7 z0,(iq qf [t]).getD y8 z0,(iq qf [t]).getD y9 z0,(iq qf [t]).getD ya z0,(iq qf [t]).getD BJ z0,(iq qf [t]).getD zW z0,(iq
 qf [t]).getD kD z0,(iq qf [t]).getD BK z0,(iq qf [t]).getD BL z0],t,())
abbrev Ti(s:List It)(t:List Int):=((List.take (↑(cA s (iq qf [t])):Int).toNat s++[(M4 t)]++List.drop (↑(cA s (iq qf [t])):Int).toNat s,()),z0)
abbrev Cy(s:List It)(t:List Int):=(((jL eK s t).1,()),(jL eK s t).2)
abbrev M5(s:List It)(t:List Int):=s.length<=(1000000:Nat)/\Cx (↑(cA s (iq qf [t])):Int) s [(M4 t)]/\(Ti s t)=(Cy s t)
theorem qgq(s:List It)(t:List Int):aW JA0 6 24 GO ((s,()),t)=(SD ((1048576:Int)<(ln t)) (((s,()),z1)=(Cy s t)) (t.length<=(100000:Nat)/\eA s/\SP
 (cJ s (iq qf [t])) (((s,()),z6)=(Cy s t)) (SD ((65536:Int)<=(ln s)) (((s,()),z2)=(Cy s t)) ((M5 s t)/\(M5 s t)/\(M5 s t)/\s.length<=(1000000:Nat)/\
 Cx (↑(cA s (iq qf [t])):Int) s [(M4 t)]/\(Ti s t)=(Cy s t))))):=by kernel_rfl
def tJf:List (FuncId×aJ):=[(99,GK),(98,Et),(130,GM),(131,B6),(62,v5),(132,GL),
 (47,Al),(24,GO),(133,Pb)]
def qkt(f:FuncId)(r:Nat):AM.Mode:=
 bif (Nat.beq f 50&&Nat.beq r 6)||((Nat.beq f 100&&(Nat.beq r 1||(Nat.beq r 3||Nat.beq r 6)))||
  ((Nat.beq f 101&&(Nat.beq r 5||Nat.beq r 11))||((Nat.beq f 102&&Nat.beq r 4)||(Nat.beq f 103&&Nat.beq r 1)))) then .all else .split
def qdh(y:AM.Mode)(f:FuncId):Hint:=if Nat.beq f 999999995 then⟨fun _=>[],fun _=>.split,fun _=>.split,qhF⟩ else if Nat.beq f 999999997 then⟨fun _=>[],fun _=>.split,fun _=>.split,fun t=>bif Nat.beq t 1 then 1 else 0⟩ else
 ⟨U7 f,qkt f,fun t=>bif Nat.beq f 50&&Nat.beq t 12 then y else .split,fun _=>0⟩
abbrev Rc:=Px×List Int×Int×List (List Int)×List Int×Unit
def U9:aJ:=⟨[SK,PC],[SK,.arr PC,I],fun x=>bh x.2≠0,fun x=>bB (x.1:Sk).1 x.2⟩
def qz(k:Int):aJ:=⟨[SK,PC],[SK,.arr PC,I],fun x=>(eA (x.1:Sk).1/\Am x.2)/\bh x.2=0/\(x.2:Pc).1=k,fun x=>bB (x.1:Sk).1 x.2⟩
noncomputable def JFy:Ctx:=bA bs tJf [] (qdh .yes)
noncomputable def Qe:Ctx:=bA bs tJf [] (qdh .no)
theorem qdi(s:List It)(m:Pc):aW JFy 8 50 U9 ((s,()),m)=(True/\(!decide (bh m=(0:Int)))=true/\((s,()),[],bh m)=bB s m):=by
 kernel_rfl
abbrev Ds:List Pc:=[]
abbrev wz(s:List It)(r:Rc):=(((jL eK s r.2.2.2.2.1).1,()),Ds,(jL eK s r.2.2.2.2.1).2)
theorem qdj(s:List It)(r:Rc):aW Qe 8 50 (qz 4) ((s,()),(4,r))=(True/\(!decide (bh (z4,r)=z0))=false/\(eA s/\r.2.2.2.2.1.length<=(20000:Nat))/\
 ((wz s r)=bB s (z4,r)/\(wz s r)=bB s (z4,r))/\((wz s r)=bB s (z4,r)/\(wz s r)=bB s (z4,r))/\(wz s r)=bB s (z4,r)):=by kernel_rfl
theorem qdk(s:List It)(r:Rc):aW Qe 8 50 (qz 3) ((s,()),(3,r))=(True/\(!decide (bh ((3:Int),r)=(0:Int)))=false/\∃(I:Int×List (List Int
 ×List Int×Unit)×List (List Int×List Int×Unit)×List (Int×(List Int×Int×Unit)×List Int×Int×List (List Int)×List Int×Unit)×Int->Prop),∃(μ:Int×
 List (List Int×List Int×Unit)×List (List Int×List Int×Unit)×List (Int×(List Int×Int×Unit)×List Int×Int×List (List Int)×List Int×Unit)×Int->Nat),I
 ((0:Int),[],s,[],(0:Int))/\∀(x:Int×List (List Int×List Int×Unit)×List (List Int×List Int×Unit)×List (Int×(List Int×Int×Unit)×List Int×Int×
 List (List Int)×List Int×Unit)×Int),I x->(decide (x.fst<(↑r.snd.snd.snd.fst.length:Int))=true->((0:Int)<=x.fst/\x.fst<(↑r.snd.snd.snd.fst.length:Int))/\
 eA x.snd.snd.fst/\(cJ x.snd.snd.fst (r.snd.snd.snd.fst.getD x.fst.toNat (List.replicate (16:Nat) (0:Int)))=true->aM Qe (116:Nat) (x.snd.snd.snd.fst.length+
 [((4:Int),([(0:Int),(0:Int),(0:Int),(0:Int),(0:Int),(0:Int),(0:Int),(0:Int),(0:Int),(0:Int),(0:Int),(0:Int),(0:Int),(0:Int),(0:
 Int),(0:Int)],(0:Int),()),[(0:Int),(0:Int),(0:Int),(0:Int),(0:Int),(0:Int),(0:Int),(0:Int),(0:Int),(0:Int),(0:Int),(0:Int),(0:Int),
 (0:Int),(0:Int),(0:Int)],(0:Int),([]:List (List Int)),(cD x.snd.snd.fst (r.snd.snd.snd.fst.getD x.fst.toNat (List.replicate (16:Nat) (0:Int)))).getD [],
 ())].length)/\aa (x.fst+(1:Int))/\I (x.fst+(1:Int),x.snd.fst,x.snd.snd.fst,x.snd.snd.snd.fst++[((4:Int),([(0:Int),(0:Int),(0:Int),(0:Int),(0:
 Int),(0:Int),(0:Int),(0:Int),(0:Int),(0:Int),(0:Int),(0:Int),(0:Int),(0:Int),(0:Int),(0:Int)],(0:Int),()),[(0:Int),(0:Int),(0:Int),
 (0:Int),(0:Int),(0:Int),(0:Int),(0:Int),(0:Int),(0:Int),(0:Int),(0:Int),(0:Int),(0:Int),(0:Int),(0:Int)],(0:Int),([]:List (List Int)),
 (cD x.snd.snd.fst (r.snd.snd.snd.fst.getD x.fst.toNat (List.replicate (16:Nat) (0:Int)))).getD [],())],x.snd.snd.snd.snd)/\μ (x.fst+(1:Int),x.snd.fst,
 x.snd.snd.fst,x.snd.snd.snd.fst++[((4:Int),([(0:Int),(0:Int),(0:Int),(0:Int),(0:Int),(0:Int),(0:Int),(0:Int),(0:Int),(0:Int),(0:Int),(0:
 Int),(0:Int),(0:Int),(0:Int),(0:Int)],(0:Int),()),[(0:Int),(0:Int),(0:Int),(0:Int),(0:Int),(0:Int),(0:Int),(0:Int),(0:Int),(0:Int),
 (0:Int),(0:Int),(0:Int),(0:Int),(0:Int),(0:Int)],(0:Int),([]:List (List Int)),(cD x.snd.snd.fst (r.snd.snd.snd.fst.getD x.fst.toNat (List.replicate
 (16:Nat) (0:Int)))).getD [],())],x.snd.snd.snd.snd)<μ x)/\(cJ x.snd.snd.fst (r.snd.snd.snd.fst.getD x.fst.toNat (List.replicate (16:Nat) (0:Int)))=false->aa
 (x.fst+(1:Int))/\I (x.fst+(1:Int),x.snd.fst,x.snd.snd.fst,x.snd.snd.snd.fst,x.snd.snd.snd.snd)/\μ (x.fst+(1:Int),x.snd.fst,x.snd.snd.fst,x.snd.snd.snd.fst,
 x.snd.snd.snd.snd)<μ x))/\(decide (x.fst<(↑r.snd.snd.snd.fst.length:Int))=false->(((x.snd.snd.fst,()),x.snd.snd.snd.fst,x.snd.snd.snd.snd)=bB s ((3:Int),r)/\
 ((x.snd.snd.fst,()),x.snd.snd.snd.fst,x.snd.snd.snd.snd)=bB s ((3:Int),r))/\(((x.snd.snd.fst,()),x.snd.snd.snd.fst,x.snd.snd.snd.snd)=bB s ((3:Int),r)/\
 ((x.snd.snd.fst,()),x.snd.snd.snd.fst,x.snd.snd.snd.snd)=bB s ((3:Int),r))/\((x.snd.snd.fst,()),x.snd.snd.snd.fst,x.snd.snd.snd.snd)=bB s ((3:Int),r))):=
 by kernel_rfl
abbrev kU:List Pc:=[]
abbrev tr(r:Rc)(s:List It):=(z2,([r.1.1.getD y0 z0,r.1.1.getD y1 z0,r.1.1.getD y2 z0,r.1.1.getD y3 z0,r.1.1.getD y4 z0,r.1.1.getD y5 z0,r.1.1.getD y6 z0,r.1.1.getD y7
 z0,r.1.1.getD y8 z0,r.1.1.getD y9 z0,r.1.1.getD ya z0,r.1.1.getD BJ z0,r.1.1.getD zW z0,r.1.1.getD kD z0,r.1.1.getD BK z0,r.1.1.getD BL z0],r.1.2.1,()),[z0,z0,z0,z0,z0,
 z0,z0,z0,z0,z0,z0,z0,z0,z0,z0,z0],z0,aA (ai s r.1),bytesOf {data:=#[]},())
abbrev wA(s:List It)(r:Rc):=((s,()),[aP Hx s (half r.1 false),aP Hx s (half r.1 true)],z0)
abbrev tu(s:List It)(r:Rc):=(wA s r)=bB s (z1,r)/\(wA s r)=bB s (z1,r)
abbrev EI(s:List It)(r:Rc):=j5 s (half r.1 false)/\j5 s (half r.1 true)/\aM Qe (116:Nat) [aP Hx s (half r.1 false),aP Hx s (half r.1 true)].length/\
 (tu s r)/\(tu s r)/\(wA s r)=bB s (z1,r)
abbrev M6(s:List It)(r:Rc):=SD ((aP Hx s r.1).2.2.2.1<=z8) (j5 s r.1/\aM Qe (116:Nat) [(tr r s)].length/\(((s,()),[(tr r s)],z0)=bB s (z1,r)/\
 ((s,()),[(tr r s)],z0)=bB s (z1,r))/\(((s,()),[(tr r s)],z0)=bB s (z1,r)/\((s,()),[(tr r s)],z0)=bB s (z1,r))/\((s,()),[(tr r s)],z0)=
 bB s (z1,r)) (SD (r.2.2.1<=z8) (aM Qe (116:Nat) [aP Hx s r.1].length/\(((s,()),[aP Hx s r.1],z0)=bB s (z1,r)/\((s,()),[aP Hx s r.1],z0)=bB s (z1,r))
 /\(((s,()),[aP Hx s r.1],z0)=bB s (z1,r)/\((s,()),[aP Hx s r.1],z0)=bB s (z1,r))/\((s,()),[aP Hx s r.1],z0)=bB s (z1,r)) ((bQ r.1=true/\r.1.2.1
 <(128:Int))/\(EI s r)/\((EI s r)/\j5 s (half r.1 false)/\j5 s (half r.1 true)/\aM Qe (116:Nat) [aP Hx s (half r.1 false),aP Hx s (half r.1 true)].length
 /\(tu s r)/\(tu s r)/\(wA s r)=bB s (z1,r))/\(EI s r)/\j5 s (half r.1 false)/\j5 s (half r.1 true)/\aM Qe (116:Nat) [aP Hx s (half r.1 false),
 aP Hx s (half r.1 true)].length/\(tu s r)/\(tu s r)/\(wA s r)=bB s (z1,r)))
theorem qdl(s:List It)(r:Rc):aW Qe 8 50 (qz 1) ((s,()),(1,r))=(True/\(!decide (bh (z1,r)=z0))=false/\j5 s r.1/\SD ((aP Hx s r.1).2.2.1=r.2.1)
 (SD ((aP Hx s r.1).2.2.2.1=r.2.2.1) ((((s,()),kU,z0)=bB s (z1,r)/\((s,()),kU,z0)=bB s (z1,r))/\(((s,()),kU,z0)=bB s (z1,r)/\
 ((s,()),kU,z0)=bB s (z1,r))/\((s,()),kU,z0)=bB s (z1,r)) (M6 s r)) (M6 s r)):=by kernel_rfl
abbrev qA:Type:=Int×List (List Int)×List (List Int×List Int×Unit)×List (List Int×List Int×Unit)×List (Int×(List Int×Int×Unit)×List Int×Int×List (List
 Int)×List Int×Unit)×Int
abbrev qB:Type:=Int×List (List Int×List Int×Unit)×List (List Int×List Int×Unit)×List (Int×(List Int×Int×Unit)×List Int×Int×List (List Int)×List Int×
 Unit)×Int
abbrev Dt:Type:=Int×List (List Int×List Int×Unit)×List (List Int×List Int×Unit)×List (Int×(List Int×Int×Unit)×List Int×Int×List (List Int)×List Int×
 Unit)×Int->Prop
abbrev Du:Type:=Int×List (List Int×List Int×Unit)×List (List Int×List Int×Unit)×List (Int×(List Int×Int×Unit)×List Int×Int×List (List Int)×List Int×
 Unit)×Int->Nat
abbrev Dw:List (List Int×List Int×Unit):=[]
abbrev Dx:List (Int×(List Int×Int×Unit)×List Int×Int×List (List Int)×List Int×Unit):=[]
abbrev M7:=([z0,z0,z0,z0,z0,z0,z0,z0,z0,z0,z0,z0,z0,z0,z0,z0],z0,())
abbrev M8(x:qA)(r:Rc)(x_1:qB):=(z4,M7,[z0,z0,z0,z0,z0,z0,z0,z0,z0,z0,z0,z0,z0,z0,z0,z0],z0,eL,((ai x.2.2.2.1 r.1).getD
 x_1.1.toNat (List.replicate qg z0,eI,())).2.1,())
abbrev M9(x_1:qB)(x:qA)(r:Rc)(I:Dt)(μ:Du):=(IR x_1.1 (ai x.2.2.2.1 r.1))/\((112:Nat)=(112:Nat)/\UF r.2.2.2.1)/\SP
 (!decide (((ai x.2.2.2.1 r.1).getD x_1.1.toNat (List.replicate qg z0,eI,())).1∈r.2.2.2.1)) (aM Qe (116:Nat) (x_1.2.2.2.1.length+[(M8 x r x_1)].length)/\aa (x_1.1+
 z1)/\NX I μ x_1 (x_1.1+z1,x_1.2.1,x_1.2.2.1,x_1.2.2.2.1++[(M8 x r x_1)],x_1.2.2.2.2)) (aa (x_1.1+z1)/\NX I μ x_1 (x_1.1+z1,x_1.2))
abbrev AJ(x_1:qB)(s:List It)(r:Rc):=((x_1.2.2.1,()),x_1.2.2.2)=bB s (z2,r)/\((x_1.2.2.1,()),x_1.2.2.2)=bB s (z2,r)
abbrev Na(x:qA):=(z3,M7,[z0,z0,z0,z0,z0,z0,z0,z0,z0,z0,z0,z0,z0,z0,z0,z0],z0,x.2.1,bytesOf {data:=#[]},())
theorem qdm(s:List It)(r:Rc):aW Qe 8 50 (qz 2) ((s,()),(2,r))=(True/\(!decide (bh (z2,r)=z0))=false/\LP (z0,eL,Dw,s,Dx,z0) fun I μ
 x=>SD (x.1<(ln r.2.2.2.1)) ((IR x.1 r.2.2.2.1)/\eA x.2.2.2.1/\SP (!cJ x.2.2.2.1 (r.2.2.2.1.getD x.1.toNat (List.replicate qg z0))) (aM Qe (70:Nat) (x.2.1.length+
 [r.2.2.2.1.getD x.1.toNat (List.replicate qg z0)].length)/\aa (x.1+z1)/\NX I μ x (x.1+z1,x.2.1++[r.2.2.2.1.getD x.1.toNat (List.replicate qg z0)],x.2.2)) (aa (x.1+z1)/\
 NX I μ x (x.1+z1,x.2))) (SD (z0<(ln x.2.1)) (aM Qe (116:Nat) (x.2.2.2.2.1.length+[(Na x)].length)/\j5 x.2.2.2.1 r.1/\LP (z0,x.2.2.1,x.2.2.2.1,x.2.2.2.2.1++
 [(Na x)],x.2.2.2.2.2) fun I μ x_1=>SD (x_1.1<(ln (ai x.2.2.2.1 r.1))) (M9 x_1 x r I μ) ((AJ x_1 s r)/\(AJ x_1 s r)/\((x_1.2.2.1,()),x_1.2.2.2)=bB s
 (z2,r))) (j5 x.2.2.2.1 r.1/\LP (z0,x.2.2) fun I μ x_1=>SD (x_1.1<(ln (ai x.2.2.2.1 r.1))) (M9 x_1 x r I μ) ((AJ x_1 s r)/\(AJ x_1 s r)/\((x_1.2.2.1,()),
 x_1.2.2.2)=bB s (z2,r))))):=by kernel_rfl
end Go.Proofs.YtobfmplofoofkaaGreatDoor
namespace Go.PL
open Go.AM
theorem Qf:∀{l:List (List Int)},iz l=true->l.Pairwise fun a b=>fX a b=true
 |l,h=>by
  rw[List.pairwise_iff_getElem];have adj:∀k,k+1<l.length->fX (l.getD k []) (l.getD (k+1) [])=true:=fun k hk=>by
   unfold iz at h;rw[Wau]at h;have:=h (k+1) (List.mem_range.2 hk)
   rw[decide_eq_false (by omega),WbO]at this
   exact this
  have step:∀d i,i+d+1<l.length->fX (l.getD i []) (l.getD (i+d+1) [])=true:=fun d=>by
   induction d with
   |zero=>exact fun i hi=>adj i hi
   |succ d ih=>exact fun i hi=>oE (ih i (by omega)) (adj (i+d+1) (by omega))
  intro i j hi hj hij;have:=step (j-i-1) i (by omega)
  rw[show i+(j-i-1)+1=j by omega,Wab,Wab,Waa hi,Waa hj]at this
  exact this
theorem Dy{m:Pc}(h:bh m=0):bQ m.2.1=true/\iz m.2.2.2.2.1=true/\(m.1≠1->m.1≠2->m.2.1=root):=by
 unfold bh at h;split at h
 ·cases h
 ·split at h
  ·cases h
  ·rename_i h2;split at h
   ·cases h
   ·rename_i h3;simp only[Bool.not_eq_false,Wac]at h2 h3;refine⟨h2.1.2,h3.1,fun n1 n2=>?_⟩
    have hf:=h2.1.1;unfold dK at hf;simp only[Wac,WaL,decide_eq_true_eq]at hf;rcases hf.1.1.1 with e|e
    ·rcases e with e|e
     ·exact absurd e n1
     ·exact absurd e n2
    ·exact e
theorem qgr{s:List It}{m:Pc}(h:bh m=0)(k:m.1=1):bB s m=((s,()),Iq Hx s m,0):=by
 unfold bB cg;rw[if_neg (by rw[h];simp),if_pos k]
theorem qgs{s:List It}{m:Pc}(h:bh m=0)(k:m.1=2):bB s m=((s,()),Ir s m,0):=by
 unfold bB cg;rw[if_neg (by rw[h];simp),if_neg (by rw[k];decide),if_pos k]
theorem qgt{s:List It}{m:Pc}(h:bh m=0)(k:m.1=3):bB s m=((s,()),xj s m,0):=by
 unfold bB cg;rw[if_neg (by rw[h];simp),if_neg (by rw[k];decide),if_neg (by rw[k];decide),if_pos k]
theorem qgu{s:List It}{m:Pc}(h:bh m=0)(k:m.1=4):bB s m=(((jL eK s m.2.2.2.2.2.1).1,()),[],(jL eK s m.2.2.2.2.2.1).2):=by
 unfold bB cg;rw[if_neg (by rw[h];simp),if_neg (by rw[k];decide),if_neg (by rw[k];decide),if_neg (by rw[k];decide)]
theorem qgv{s:List It}{m:Pc}(h:bh m≠0):bB s m=((s,()),[],bh m):=by
 unfold bB cg;rw[if_pos h]
theorem Yb{s:List It}{l:List (List Int)}{i:Nat}(h:i<l.length)(z:List Int):lT s (l.take (i+1))=lT s (l.take i)++if cJ s (l.getD i z)=false then [l.getD i z] else []:=by
 have e:l.take (i+1)=l.take i++[l.getD i z]:=by
  rw[Wbc,Wab,Waa h];rfl
 unfold lT;rw[e,List.filter_append];congr 1
 cases hu:cJ s (l.getD i z) with
 |true=>rw[WbD (by simp only[hu];decide)];rfl
 |false=>rw[WbC (by simp only[hu];decide)];rfl
def xq(l:List (List Int))(u:List It):List Pc:=(u.filter fun it=>decide (it.1∉l)).map fun it=>dA it.2.1
theorem Kg{l:List (List Int)}{u:List It}{i:Nat}(h:i<u.length)(z:It):xq l (u.take (i+1))=xq l (u.take i)++if (u.getD i z).1∈l then [] else [dA (u.getD i z).2.1]:=by
 have e:u.take (i+1)=u.take i++[u.getD i z]:=by
  rw[Wbc,Wab,Waa h];rfl
 unfold xq;rw[e,List.filter_append,WaQ];congr 1
 by_cases hu:(u.getD i z).1∈l
 ·rw[WbD (by simpa using hu),if_pos hu];rfl
 ·rw[WbC (by simpa using hu),if_neg hu];rfl
theorem Yc{s:List It}{l:List (List Int)}{i:Nat}(h:i<l.length)(z:List Int):((l.take (i+1)).filterMap (cD s)).map dA=((l.take i).filterMap (cD s)).map dA++if cJ s (l.getD i z)=true then [dA ((cD s (l.getD i z)).getD [])] else []:=by
 have e:l.take (i+1)=l.take i++[l.getD i z]:=by
  rw[Wbc,Wab,Waa h];rfl
 rw[e,List.filterMap_append,WaQ];congr 1
 cases hu:cD s (l.getD i z) with
 |none=>
  rw[List.filterMap_cons_none hu,if_neg (by rw[m8.1 hu];simp)]
  rfl
 |some t=>
  have hh:cJ s (l.getD i z)=true:=by
   cases e:cJ s (l.getD i z) with
   |true=>rfl
   |false=>rw[m8.2 e]at hu;cases hu
  rw[List.filterMap_cons_some hu,if_pos hh];rfl
theorem Yd{s:List It}(hs:s.Pairwise xk)(hn:∀it∈s,aV it.1){p:Px}(hp:128<=p.2.1):(ai s p).length<=1:=by
 have h1:∀x∈aA (ai s p),x=p.1:=fun x hx=>by
  obtain⟨it,hi,rfl⟩:=List.mem_map.1 hx;obtain⟨h2,h3⟩:=List.mem_filter.1 hi;have:=(gJ p it.1).1 h3
  rw[JD (hn it h2) (by omega)]at this
  exact this
 have h2:=pI (m:=[p.1]) (C9 (iA hs p)) fun x hx=>by rw[h1 x hx];exact List.mem_singleton.2 rfl
 unfold aA at h2;rw[Wav]at h2;exact h2
end Go.PL
namespace Go.Proofs.YtobfmplofoofkaaGreatDoor
open Go.AM Go.PL
attribute [local irreducible] aW cz
theorem AK:Tryz.prog.bytesOf 116=96:=by kernel_rfl
theorem Ye:au JA0:=LI ⟨Cn,JU,trivial⟩ ⟨Pe,trivial⟩ ⟨qdg,trivial⟩
theorem HS:Sat bs.P 24 GO:=bq Ye (fun x=>qgq x.1.1 x.2) fun (x:Sk×List Int) hk hp=>by
 delta M4 Ti Cy M5 SD SP ln y0 y1 ya BJ zW kD BK BL y2 y3 y4 y5 y6 y7 y8 y9 z0 z1 z2 qf z6
 obtain⟨⟨s,⟨⟩⟩,t⟩:=x;obtain⟨hs,ht⟩:eA s/\t.length<=20000:=hp
 dsimp only;have e0:jL eK s t=if 1048576<t.length then (s,1) else if cJ s (eK t)=true then (s,6) else if 65536<=s.length then (s,2) else (pH s (eK t,t,()),0):=rfl
 have qqJ:(eK t).length=16:=s7 _ _;have e16:=nG qqJ;have en:iq (44:Int) [t]=eK t:=rfl;simp only[en,e16];refine⟨fun h=>?_,fun h=>⟨by omega,hs,fun h2=>?_,fun h2=>⟨fun h3=>?_,fun h3=>?_⟩⟩⟩
 ·have:=dt h
  omega
 ·rw[e0,if_neg (by omega),if_pos h2]
 ·have:=dt h3
  have:=hs.2.1
  omega
 ·have yW:¬cJ s (eK t)=true:=by rw[h2];simp
  have hc:cA s (eK t)<=s.length:=WaF _ _;have e1:jL eK s t=(pH s (eK t,t,()),0):=by
   rw[e0,if_neg (by omega),if_neg yW,if_neg (by have:=hs.2.1;omega)]
  have ei:pH s (eK t,t,())=s.take (cA s (eK t))++[(eK t,t,())]++s.drop (cA s (eK t)):=by
   unfold pH;rw[Waj];rfl
  have hls:=hs.2.1;simp only[e1,ei,Waw];have hpre:Cx (↑(cA s (eK t)):Int) s [(eK t,t,())]:=by
   have h1:([((eK t,t,()):It)]:List It).length=1:=rfl;unfold Cx;rw[h1];exact⟨by omega,by omega,by omega,by omega,by omega⟩
  repeat' first|exact hpre|apply And.intro
  all_goals first|exact hpre|trivial|rfl|omega
theorem Tj{s:List It}(h:Ub IL s):∀it∈s,aV it.1:=M3 h
theorem qhG:jK bs.P tJf:=⟨SV,J9,PV,PT,Cn,PU,HA,HS,UK,trivial⟩
theorem Yf:au JFy:=az qhG trivial
theorem wB:au Qe:=az qhG trivial
theorem Yg:Sat bs.P 50 U9:=bq Yf (fun x=>qdi x.1.1 x.2) fun (x:Sk×Pc) hk hp=>by
 obtain⟨⟨s,⟨⟩⟩,m⟩:=x;have hc:bh m≠0:=hp;have e:=qgv (s:=s) hc;dsimp only;rw[e];have hd:decide (bh m=0)=false:=decide_eq_false hc;rw[hd];repeat' apply And.intro
 all_goals first|trivial|rfl
theorem Yh:Sat bs.P 50 (qz 4):=by
 refine bx wB 8 _ _ fun (x:Sk×Pc) hk hp=>?_
 obtain⟨⟨s,⟨⟩⟩,⟨k,r⟩⟩:=x;obtain⟨⟨hs,hm⟩,hc,hk4⟩:(eA s/\Am (k,r))/\bh (k,r)=0/\k=4:=hp
 subst hk4;rw[qdj s r];delta Ds wz z0 z4;rw[qgu hc rfl,hc]
 have ht:r.2.2.2.2.1.length<=20000:=hm.2;refine⟨trivial,rfl,⟨hs,ht⟩,?_⟩
 repeat' apply And.intro
 all_goals rfl
theorem Yi:Sat bs.P 50 (qz 3):=by
 refine bx wB 8 _ _ fun (x:Sk×Pc) hk hp=>?_
 obtain⟨⟨s,⟨⟩⟩,⟨k,r⟩⟩:=x;obtain⟨⟨hs,hm⟩,hc,hk4⟩:(eA s/\Am (k,r))/\bh (k,r)=0/\k=3:=hp
 subst hk4;obtain⟨l,hl⟩:∃l:List (List Int),l=r.2.2.2.1:=⟨_,rfl⟩
 have hll:l.length<=900:=by rw[hl];exact hm.1
 have hW:xj s (3,r)=(l.filterMap (cD s)).map dA:=by rw[hl];rfl
 rw[qdk s r,qgt hc rfl,hc,hW];simp only[<-hl];obtain⟨z,hz⟩:∃z:List Int,z=List.replicate (16:Nat) (0:Int):=⟨_,rfl⟩
 simp only[<-hz];refine⟨trivial,rfl,fun x=>0<=x.1/\x.1<=l.length/\x.2.2.1=s/\x.2.2.2.1=((l.take x.1.toNat).filterMap (cD s)).map dA/\x.2.2.2.2=0,fun x=>(l.length-x.1).toNat,⟨Waz _,by dsimp only;omega,rfl,rfl,rfl⟩,?_⟩
 rintro⟨i,r0,S,o,e⟩ ⟨i0,i1,h1,h2,h3⟩
 dsimp only at i0 i1 h1 h2 h3 ⊢;subst h1 h3;refine⟨fun h=>?_,fun h=>?_⟩
 ·have h:=dt h;have e1:(i+1).toNat=i.toNat+1:=by omega
  have BC:=Yc (s:=S) (l:=l) (i:=i.toNat) (by omega) z
  have hol:o.length<=900:=by
   rw[h2,Wav];have:=Wcw (cD S) (l.take i.toNat)
   rw[Waf]at this;omega
  refine⟨⟨i0,h⟩,hs,fun hh=>?_,fun hh=>?_⟩
  ·rw[if_pos hh,<-h2]at BC;refine⟨Dq 96 AK (by omega) (by simp only[Wae,WaB];omega),bP (by omega) (by omega),⟨by omega,by omega,rfl,?_,rfl⟩,by omega⟩
   rw[e1,BC];rfl
  ·rw[if_neg (by rw[hh];simp),WaA,<-h2]at BC
   refine⟨bP (by omega) (by omega),⟨by omega,by omega,rfl,?_,rfl⟩,by omega⟩
   rw[e1,BC]
 ·have h:=df h;rw[Wap (by omega)]at h2
  rw[h2];repeat' apply And.intro
  all_goals rfl
end Go.Proofs.YtobfmplofoofkaaGreatDoor
namespace Go.Proofs.YtobfmplofoofkaaGreatDoor
open Go.AM Go.PL
attribute [local irreducible] aW cz
theorem Yj:Sat bs.P 50 (qz 1):=by
 refine bx wB 8 _ _ fun (x:Sk×Pc) hk hp=>?_
 obtain⟨⟨s,⟨⟩⟩,⟨k,r⟩⟩:=x;obtain⟨⟨hs,hm⟩,hc,hk4⟩:(eA s/\Am (k,r))/\bh (k,r)=0/\k=1:=hp
 subst hk4;have hnm:=Tj hk.1.1;have VY:aV r.1.1:=gL hk.2.2.1.1;obtain⟨hr,-,-⟩:=Dy hc;have hr:bQ r.1=true:=hr;have hrp:gI r.1:=⟨(fC.1 hr).1.1,(fC.1 hr).1.2,VY.1,(fC.1 hr).2⟩;have hpx:j5 s r.1:=⟨hs,hr⟩;have hS:Iq Hx s (1,r)=if Hx (aA (ai s r.1))=r.2.1/\((ai s r.1).length:Int)=r.2.2.1 then []
  else if (ai s r.1).length<=8 then [lS s r.1] else if r.2.2.1<=8 then [aP Hx s r.1] else [aP Hx s (half r.1 false),aP Hx s (half r.1 true)]:=rfl
 have hV:=qgr (s:=s) hc rfl;have f1:(aP Hx s r.1).2.2.1=Hx (aA (ai s r.1)):=rfl;have f2:(aP Hx s r.1).2.2.2.1=((ai s r.1).length:Int):=rfl;rw[qdl s r];delta kU tr wA tu EI M6 SD y0 y1 ya BJ zW kD BK BL y2 y3 y4 y5 y6 y7 y8 y9 z0 z1 z2 z8;rw[nG VY.1,hc]
 simp only[f1,f2];have room:∀{l:List Pc},l.length<=2->aM Qe 116 l.length:=fun h=>Dq 96 AK (by omega) (by omega)
 have nam:¬(Hx (aA (ai s r.1))=r.2.1/\((ai s r.1).length:Int)=r.2.2.1)->(ai s r.1).length<=8->bB s (1,r)=((s,()),[((2:Int),(r.1.1,r.1.2.1,()),[0,0,0,0,0,0,0,0,0,0,0,0,0,0,0,0],(0:Int),aA (ai s r.1),bytesOf {data:=#[]},())],0):=fun h1 h2=>by
  rw[hV,hS,if_neg h1,if_pos h2];rfl
 have one:¬(Hx (aA (ai s r.1))=r.2.1/\((ai s r.1).length:Int)=r.2.2.1)->¬(ai s r.1).length<=8->r.2.2.1<=8->bB s (1,r)=((s,()),[aP Hx s r.1],0):=fun h1 h2 h3=>by
  rw[hV,hS,if_neg h1,if_neg h2,if_pos h3]
 have two:¬(Hx (aA (ai s r.1))=r.2.1/\((ai s r.1).length:Int)=r.2.2.1)->¬(ai s r.1).length<=8->¬r.2.2.1<=8->bB s (1,r)=((s,()),[aP Hx s (half r.1 false),aP Hx s (half r.1 true)],0):=fun h1 h2 h3=>by
  rw[hV,hS,if_neg h1,if_neg h2,if_neg h3]
 have qhH:¬(ai s r.1).length<=8->r.1.2.1<128/\∀b,j5 s (half r.1 b):=fun h=>by
  have hlt:r.1.2.1<128:=by
   rcases Wa4 r.1.2.1 128 with h'|h'
   ·exact h'
   ·have:=Yd hs.1 hnm h'
    omega
  exact⟨hlt,fun b=>⟨hs,rB (Gh hrp VY hlt b).1⟩⟩
 refine⟨trivial,rfl,hpx,fun h1=>⟨fun h2=>?_,fun h2=>⟨fun h3=>?_,fun h3=>⟨fun h4=>?_,fun h4=>?_⟩⟩⟩,fun h1=>⟨fun h3=>?_,fun h3=>⟨fun h4=>?_,fun h4=>?_⟩⟩⟩
 ·have h1:=dt h1;have h2:=dt h2;have e:bB s (1,r)=((s,()),[],0):=by rw[hV,hS,if_pos ⟨h1,h2⟩]
  rw[e];repeat' apply And.intro
  all_goals rfl
 ·have e:=nam (fun h=>df h2 h.2) (by have:=dt h3;omega)
  rw[e];refine⟨hpx,room (by simp),?_⟩
  repeat' apply And.intro
  all_goals rfl
 ·have e:=one (fun h=>df h2 h.2) (by have:=df h3;omega) (dt h4)
  rw[e];refine⟨room (by simp),?_⟩
  repeat' apply And.intro
  all_goals rfl
 ·have e:=two (fun h=>df h2 h.2) (by have:=df h3;omega) (df h4)
  obtain⟨q1,q2⟩:=qhH (by have:=df h3;omega)
  rw[e];have hrm:aM Qe 116 ([aP Hx s (half r.1 false),aP Hx s (half r.1 true)]:List Pc).length:=room (by simp)
  repeat' first|exact q2 _|exact hrm|exact hr|exact q1|apply And.intro
  all_goals first|exact q2 _|exact hrm|rfl
 ·have e:=nam (fun h=>df h1 h.1) (by have:=dt h3;omega)
  rw[e];refine⟨hpx,room (by simp),?_⟩
  repeat' apply And.intro
  all_goals rfl
 ·have e:=one (fun h=>df h1 h.1) (by have:=df h3;omega) (dt h4)
  rw[e];refine⟨room (by simp),?_⟩
  repeat' apply And.intro
  all_goals rfl
 ·have e:=two (fun h=>df h1 h.1) (by have:=df h3;omega) (df h4)
  obtain⟨q1,q2⟩:=qhH (by have:=df h3;omega)
  rw[e];have hrm:aM Qe 116 ([aP Hx s (half r.1 false),aP Hx s (half r.1 true)]:List Pc).length:=room (by simp)
  repeat' first|exact q2 _|exact hrm|exact hr|exact q1|apply And.intro
  all_goals first|exact q2 _|exact hrm|rfl
theorem Yk:Sat bs.P 50 (qz 2):=by
 refine bx wB 8 _ _ fun (x:Sk×Pc) hk hp=>?_
 obtain⟨⟨s,⟨⟩⟩,⟨k,r⟩⟩:=x;obtain⟨⟨hs,hm⟩,hc,hk4⟩:(eA s/\Am (k,r))/\bh (k,r)=0/\k=2:=hp
 subst hk4;obtain⟨hr,hso,-⟩:=Dy hc;have hr:bQ r.1=true:=hr;have hpx:j5 s r.1:=⟨hs,hr⟩;obtain⟨l,hl⟩:∃l:List (List Int),l=r.2.2.2.1:=⟨_,rfl⟩
 have hll:l.length<=900:=by rw[hl];exact hm.1
 have hsd:UF l:=⟨by rw[hl];exact Qf hso,hll⟩
 obtain⟨u,hu⟩:∃u,u=ai s r.1:=⟨_,rfl⟩
 have AQ:u.length<=900:=by
  rw[hu];exact Wbj (WaF _ _) hs.2.1
 have hN:Ir s (2,r)=(if 0<(lT s l).length then [fq (lT s l)] else [])++xq l u:=by rw[hl,hu];rfl
 have hlk:(lT s l).length<=900:=Wbj (WaF _ _) hll;rw[qdm s r];delta qA qB Dt Du Dw Dx M7 M8 M9 AJ Na IR LP NX SD SP eI eL ln qg z0 z1 z2 z3 z4;dsimp only;rw[qgs hc rfl,hc,hN]
 simp only[<-hl];obtain⟨z,hz⟩:∃z:List Int,z=List.replicate (16:Nat) (0:Int):=⟨_,rfl⟩
 simp only[<-hz];refine⟨trivial,rfl,fun x=>0<=x.1/\x.1<=l.length/\x.2.1=lT s (l.take x.1.toNat)/\x.2.2.2.1=s/\x.2.2.2.2.1=[]/\x.2.2.2.2.2=0,fun x=>(l.length-x.1).toNat,⟨Waz _,by dsimp only;omega,rfl,rfl,rfl,rfl⟩,?_⟩
 rintro⟨i,lk,r0,S,o,e⟩ ⟨i0,i1,h1,h2,h3,h4⟩
 dsimp only at i0 i1 h1 h2 h3 h4 ⊢;subst h2 h3 h4;refine⟨fun h=>?_,fun h=>?_⟩
 ·have h:=dt h;have e1:(i+1).toNat=i.toNat+1:=by omega
  have BC:=Yb (s:=S) (l:=l) (i:=i.toNat) (by omega) z
  have hol:lk.length<=900:=by
   rw[h1];refine Wbj (WaF _ _) ?_
   rw[Waf];omega
  refine⟨⟨i0,h⟩,hs,fun hh=>?_,fun hh=>?_⟩
  ·have hh:=nt hh;rw[if_pos hh,<-h1]at BC;exact⟨Dq 16 MO (by omega) (by simp only[Wae,WaB];omega),bP (by omega) (by omega),⟨by omega,by omega,by rw[e1,BC],rfl,rfl,rfl⟩,by omega⟩
  ·have hh:=nf hh;rw[if_neg (by rw[hh];simp),WaA,<-h1]at BC
   exact⟨bP (by omega) (by omega),⟨by omega,by omega,by rw[e1,BC],rfl,rfl,rfl⟩,by omega⟩
 ·have h:=df h;rw[Wap (by omega)]at h1
  subst h1;simp only[<-hu];have loop:∀base:List Pc,base.length<=1->base++xq l u=(if 0<(lT S l).length then [fq (lT S l)] else [])++xq l u->∀(j:Int) (o:List Pc),o=base++xq l (u.take j.toNat)->o.length<=901:=fun base hb _ j o ho=>by
   rw[ho,Wad];unfold xq;rw[Wav];have:=WaF (fun it:It=>decide (it.1∉l)) (u.take j.toNat)
   rw[Waf]at this;omega
  refine⟨fun hg=>?_,fun hg=>?_⟩
  ·have hg:=dt hg;have hb:([((3:Int),([(0:Int),0,0,0,0,0,0,0,0,0,0,0,0,0,0,0],(0:Int),()),[(0:Int),0,0,0,0,0,0,0,0,0,0,0,0,0,0,0],(0:Int),lT S l,bytesOf {data:=#[]},())]:List Pc)=[fq (lT S l)]:=rfl;rw[hb,if_pos (by omega),WaY]
   refine⟨Dq 96 AK (by omega) (by simp),hpx,fun x=>0<=x.1/\x.1<=u.length/\x.2.2.1=S/\x.2.2.2.1=[fq (lT S l)]++xq l (u.take x.1.toNat)/\x.2.2.2.2=0,fun x=>(u.length-x.1).toNat,⟨Waz _,by dsimp only;omega,rfl,rfl,rfl⟩,?_⟩
   rintro⟨j,r1,S',o,e'⟩ ⟨j0,j1,k1,k2,k3⟩
   dsimp only at j0 j1 k1 k2 k3 ⊢;subst k1 k3;refine⟨fun hj=>?_,fun hj=>?_⟩
   ·have hj:=dt hj;have e1:(j+1).toNat=j.toNat+1:=by omega
    have BC:=Kg (l:=l) (u:=u) (i:=j.toNat) (by omega) (z,[],())
    have hol:=loop [fq (lT S' l)] (by simp) (by rw[if_pos (by omega)]) j o k2
    refine⟨⟨j0,hj⟩,⟨trivial,hsd⟩,fun hh=>?_,fun hh=>?_⟩
    ·have hh:¬(u.getD j.toNat (z,[],())).1∈l:=by have:=nt hh;simpa using this
     rw[if_neg hh]at BC;refine⟨Dq 96 AK (by omega) (by simp only[Wae,WaB];omega),bP (by omega) (by omega),⟨by omega,by omega,rfl,?_,rfl⟩,by omega⟩
     rw[e1,BC,k2,Waj];rfl
    ·have hh:(u.getD j.toNat (z,[],())).1∈l:=by have:=nf hh;simpa using this
     rw[if_pos hh,WaA]at BC;exact⟨bP (by omega) (by omega),⟨by omega,by omega,rfl,by rw[e1,BC,k2],rfl⟩,by omega⟩
   ·have hj:=df hj;rw[Wap (by omega)]at k2
    rw[k2];repeat' apply And.intro
    all_goals rfl
  ·have hg:=df hg;rw[if_neg (by omega),WaY]
   refine⟨hpx,fun x=>0<=x.1/\x.1<=u.length/\x.2.2.1=S/\x.2.2.2.1=xq l (u.take x.1.toNat)/\x.2.2.2.2=0,fun x=>(u.length-x.1).toNat,⟨Waz _,by dsimp only;omega,rfl,rfl,rfl⟩,?_⟩
   rintro⟨j,r1,S',o,e'⟩ ⟨j0,j1,k1,k2,k3⟩
   dsimp only at j0 j1 k1 k2 k3 ⊢;subst k1 k3;refine⟨fun hj=>?_,fun hj=>?_⟩
   ·have hj:=dt hj;have e1:(j+1).toNat=j.toNat+1:=by omega
    have BC:=Kg (l:=l) (u:=u) (i:=j.toNat) (by omega) (z,[],())
    have hol:=loop [] (by simp) (by rw[if_neg (by omega)]) j o k2
    refine⟨⟨j0,hj⟩,⟨trivial,hsd⟩,fun hh=>?_,fun hh=>?_⟩
    ·have hh:¬(u.getD j.toNat (z,[],())).1∈l:=by have:=nt hh;simpa using this
     rw[if_neg hh]at BC;refine⟨Dq 96 AK (by omega) (by simp only[Wae,WaB];omega),bP (by omega) (by omega),⟨by omega,by omega,rfl,?_,rfl⟩,by omega⟩
     rw[e1,BC,k2];rfl
    ·have hh:(u.getD j.toNat (z,[],())).1∈l:=by have:=nf hh;simpa using this
     rw[if_pos hh,WaA]at BC;exact⟨bP (by omega) (by omega),⟨by omega,by omega,rfl,by rw[e1,BC,k2],rfl⟩,by omega⟩
   ·have hj:=df hj;rw[Wap (by omega)]at k2
    rw[k2];repeat' apply And.intro
    all_goals rfl
theorem Kh:Sat bs.P 50 Mj:=fun Ψ w (x:Sk×Pc) args dO xK bu hp=>by
 obtain⟨hs,hm⟩:eA x.1.1/\Am x.2:=hp
 by_cases hc:bh x.2=0
 ·have hk:=HD hc;have h4:x.2.1=1\/x.2.1=2\/x.2.1=3\/x.2.1=4:=by omega
  rcases h4 with h|h|h|h
  ·exact Yj Ψ w x args dO xK bu ⟨⟨hs,hm⟩,hc,h⟩
  ·exact Yk Ψ w x args dO xK bu ⟨⟨hs,hm⟩,hc,h⟩
  ·exact Yi Ψ w x args dO xK bu ⟨⟨hs,hm⟩,hc,h⟩
  ·exact Yh Ψ w x args dO xK bu ⟨⟨hs,hm⟩,hc,h⟩
 ·exact Yg Ψ w x args dO xK bu hc
end Go.Proofs.YtobfmplofoofkaaGreatDoor
namespace Go.PL
open Go.AM
def aD0:Dv:=((1:Int),(1:Int),qv [1],())
def aD1:Dv:=(gM 13 aD0 0 0 0 [2]).1
theorem qkv:eR 1 [1]=(aD0,0):=by kernel_rfl
theorem qkw:gM 13 aD0 0 0 0 [2]=(aD1,0):=by kernel_rfl
theorem Va:Cm 1 0 aD0:=Hy (by omega) (by omega) (by omega) (n:=13) (by omega) (.inl (rJ (by decide))) (by rw[gi (rJ (by decide))];exact Wan _) (by omega) (by omega)
theorem qdn:qP 13 1 aD0 (0,0,0,2,0,())=(aD1,0):=by kernel_rfl
theorem Vb:Cm 1 1 aD1:=by
 have:=Va.step (by omega) (0,0,0,2,0,()) (by rw[qdn])
 rw[qdn]at this;exact this
end Go.PL
namespace Go.Proofs.YtobfmplofoofkaaGreatDoor
open Go.AM Go.PL
def qhI:aJ:=⟨[],[.bool],fun _=>True,fun _=>true⟩
def qnJ(t:TypeId):Nat:=bif Nat.beq t 70||(Nat.beq t 72||Nat.beq t 39) then 2 else 0
def qkx(f:FuncId):Hint:=if Nat.beq f 999999995 then⟨fun _=>[],fun _=>.split,fun _=>.split,qnJ⟩ else⟨fun _=>[],fun r=>bif Nat.beq f 5&&Nat.beq r 5 then .yes else .split,fun _=>.split,fun _=>0⟩
noncomputable def MW0:Ctx:=bA bs [(22,UT),(23,Mz 13),(25,SF 13),(24,GO),(16,Eu)] [] qkx
theorem qdo:aW MW0 6 5 qhI ()=((1:Nat)<=(1000000:Nat)/\GoodN (13:Nat) (eR (1:Int) [(1:Int)]).fst/\(eA []/\(1:Nat)<=(20000:Nat))/\lE
 (jL eK [] (bytesOf {data:=#[(120:UInt8)]})).fst []/\true=true/\true=true/\true=true/\pX (13:Nat) (gM (13:Nat) (eR (1:Int) [(1:Int)]).fst (0:
 Int) (0:Int) (0:Int) [(2:Int)]).fst/\true=true/\pX (13:Nat) (gM (13:Nat) (eR (1:Int) [(1:Int)]).fst (0:Int) (0:Int) (0:Int) [(2:Int)]).fst/\
 true=true/\(Dh (kR Hx eK (jL eK [] (bytesOf {data:=#[(120:UInt8)]})).fst [])).snd=true/\((0:Int)<=(1:Int)/\(1:Int)<(2:Int))/\true=true/\((0
 :Int)<=(1:Int)/\(1:Int)<(2:Int))/\((0:Int)<=(0:Int)/\(0:Int)<(↑(1:Nat):Int))/\true=true):=by kernel_rfl
def qgw:aJ:=⟨[],[.bool],fun _=>True,fun _=>true⟩
def qky(dv:Int->List CH.den->Dv×Dv):aJ:=⟨[I,.arr CH],[DV,DV,.bool],fun x=>1<=(x.1:Int)/\(x.1:Int)<=32/\(x.2:List CH.den).length<=12,fun x=>((dv x.1 x.2).1,(dv x.1 x.2).2,true)⟩
def tLw(dv:Int->List CH.den->Dv×Dv):List (FuncId×aJ):=[(4,R7),(5,qgw),(6,UE),(7,qky dv),(9,pY 13),
 (10,GP),(11,LU),(12,My 13),(16,Eu),(17,MY),(18,M0),
 (24,GO),(47,Al),(48,Er)]
def qgx(f:FuncId)(r:Nat):List LA:=
 if Nat.beq f 3 then
  bif Nat.beq r 4 then [.slot 49 I] else
  bif Nat.beq r 15 then [.slot 74 I,.aT 0 DV,.aT 1 DV,.IB 2] else
  bif Nat.beq r 18 then [.slot 81 I,.aT 0 DV,.aT 1 DV,.IB 2,.aT 5 AR] else
  bif Nat.beq r 21 then [.slot 87 I,.aT 0 DV,.aT 1 DV,.IB 2,.aT 5 AR] else
  bif Nat.beq r 29 then [.slot 109 I,.aT 0 DV,.aT 1 DV,.IB 2] else
  bif Nat.beq r 42 then [.slot 172 I,.aT 0 DV,.aT 1 DV,.IB 2,.aT 5 MV] else
  bif Nat.beq r 48 then [.slot 187 I,.aT 0 DV,.aT 1 DV,.IB 2] else
  bif Nat.beq r 51 then [.slot 194 I,.aT 0 DV,.aT 1 DV,.IB 2,.aT 5 AR] else
  bif Nat.beq r 54 then [.slot 200 I,.aT 0 DV,.aT 1 DV,.IB 2,.aT 5 AR] else [] else
 if Nat.beq f 14 then [.slot 16 I,.aT 0 DV,.aT 1 DV,.IB 2,.aT 5 MV,.cell 6 0 IL,.cell 7 0 IL,.cell 8 0 IL,.cell 9 0 IL] else
 []
def qnK(t:TypeId):Nat:=bif Nat.beq t 70||(Nat.beq t 72||(Nat.beq t 39||(Nat.beq t 50||(Nat.beq t 57||Nat.beq t 32)))) then 2 else 0
def qkz(f:FuncId)(r:Nat):AM.Mode:=
 bif (Nat.beq f 3&&(Nat.beq r 24||(Nat.beq r 44||Nat.beq r 56)))||(Nat.beq f 15&&Nat.beq r 1) then .all else .split
def qdp(f:FuncId):Hint:=if Nat.beq f 999999995 then⟨fun _=>[],fun _=>.split,fun _=>.split,qnK⟩ else
 if Nat.beq f 999999993 then⟨fun _=>[],fun _=>.split,fun _=>.split,fun t=>bif Nat.beq t 42 then 1 else 0⟩ else
 ⟨qgx f,qkz f,fun _=>.split,fun _=>0⟩
def qdq:List LA:=[.aT 0 DV,.aT 1 DV,.IB 2,.aT 5 MV,.cell 6 0 IL,.cell 7 0 IL,.cell 8 0 IL,.cell 9 0 IL]
def qgy(f:FuncId):Option (List Ty×List LA):=
 if Nat.beq f 13 then some ([SK,.bool],qdq) else
 if Nat.beq f 15 then some ([.bool],qdq++[.aT 9 EN,.aT 10 EN]) else none
noncomputable def LW0(dv:Int->List CH.den->Dv×Dv):Ctx:={bA bs (tLw dv) [] qdp with qgM:=qgy}
abbrev wC:Type:=Int->List CH.den->Dv×Dv
abbrev gO:Type:=Int×(Int×Int×Rose ((TI.pair (TI.pair Ty.unit)).den×(L.pair Ty.unit).den)×Unit)×(Int×Int×Rose ((TI.pair (TI.pair Ty.unit)).den×(L.pair
 Ty.unit).den)×Unit)×List (Int×Int×List (List Int))
abbrev fL:Type:=Int×(Int×Int×Rose ((TI.pair (TI.pair Ty.unit)).den×(L.pair Ty.unit).den)×Unit)×(Int×Int×Rose ((TI.pair (TI.pair Ty.unit)).den×(L.pair
 Ty.unit).den)×Unit)×List (Int×Int×List (List Int))×(List Int×List Int×Unit)×List Int×Unit
abbrev oK:Type:=Int×(Int×Int×Rose ((TI.pair (TI.pair Ty.unit)).den×(L.pair Ty.unit).den)×Unit)×(Int×Int×Rose ((TI.pair (TI.pair Ty.unit)).den×(L.pair
 Ty.unit).den)×Unit)×List (Int×Int×List (List Int))×(List Int×List Int×Unit)×List Int×Unit->Prop
abbrev oL:Type:=Int×(Int×Int×Rose ((TI.pair (TI.pair Ty.unit)).den×(L.pair Ty.unit).den)×Unit)×(Int×Int×Rose ((TI.pair (TI.pair Ty.unit)).den×(L.pair
 Ty.unit).den)×Unit)×List (Int×Int×List (List Int))×(List Int×List Int×Unit)×List Int×Unit->Nat
abbrev Yl:Type:=Int×(Int×Int×Rose ((TI.pair (TI.pair Ty.unit)).den×(L.pair Ty.unit).den)×Unit)×(Int×Int×Rose ((TI.pair (TI.pair Ty.unit)).den×(L.pair
 Ty.unit).den)×Unit)×List (Int×Int×List (List Int))×((List Int×List Int×Unit)×List Int×Int×Unit)×List (List Int×List Int×Unit)×List (List Int×List Int×Unit)×
 List (List Int×List Int×Unit)
abbrev Ki:Type:=(Int×Int×Rose ((TI.pair (TI.pair Ty.unit)).den×(L.pair Ty.unit).den)×Unit)×(Int×Int×Rose ((TI.pair (TI.pair Ty.unit)).den×(L.pair Ty.unit).den)×
 Unit)×List (Int×Int×List (List Int))×((List Int×List Int×Unit)×List Int×Int×Unit)×List (List Int×List Int×Unit)×List (List Int×List Int×Unit)×List (List Int
 ×List Int×Unit)×Int×Int×Int×Int×Int×Int×Int×List Int×List (List Int×Int×Int×List Int×Unit)×Unit
abbrev Ym:Type:=(List (List Int×List Int×Unit)×Unit)×Bool->(Int×Int×Rose ((TI.pair (TI.pair Ty.unit)).den×(L.pair Ty.unit).den)×Unit)×(Int×Int×Rose
 ((TI.pair (TI.pair Ty.unit)).den×(L.pair Ty.unit).den)×Unit)×List (Int×Int×List (List Int))×(List Int×List Int×Unit)×List Int×Int×Unit->Prop
abbrev Yn:Type:=Int×(Int×Int×Rose ((TI.pair (TI.pair Ty.unit)).den×(L.pair Ty.unit).den)×Unit)×(Int×Int×Rose ((TI.pair (TI.pair Ty.unit)).den×(L.pair
 Ty.unit).den)×Unit)×List (Int×Int×List (List Int))×((List Int×List Int×Unit)×List Int×Int×Unit)×List (List Int×List Int×Unit)×List (List Int×List Int×Unit)×
 List (List Int×List Int×Unit)×List (List Int×List Int×Unit)
abbrev Yo:Type:=(Int×Int×Rose ((TI.pair (TI.pair Ty.unit)).den×(L.pair Ty.unit).den)×Unit)×(Int×Int×Rose ((TI.pair (TI.pair Ty.unit)).den×(L.pair Ty.unit).den)×
 Unit)×List (Int×Int×List (List Int))×(List Int×List Int×Unit)×List Int×Int×Unit
abbrev HT:Type:=(Int×Int×Rose ((TI.pair (TI.pair Ty.unit)).den×(L.pair Ty.unit).den)×Unit)×(Int×Int×Rose ((TI.pair (TI.pair Ty.unit)).den×(L.pair Ty.unit).den)×
 Unit)×List (Int×Int×List (List Int))×((List Int×List Int×Unit)×List Int×Int×Unit)×List (List Int×List Int×Unit)×List (List Int×List Int×Unit)×List (List Int
 ×List Int×Unit)×List (List Int×List Int×Unit)×Int×Int×Int×Int×Int×Int×Int×List Int×List (List Int×Int×Int×List Int×Unit)×Unit
abbrev Tk:Type:=(List (List Int×List Int×Unit)×Unit)×Bool->(Int×Int×Rose ((TI.pair (TI.pair Ty.unit)).den×(L.pair Ty.unit).den)×Unit)×(Int×Int×Rose
 ((TI.pair (TI.pair Ty.unit)).den×(L.pair Ty.unit).den)×Unit)×List (Int×Int×List (List Int))×((List Int×List Int×Unit)×List Int×Int×Unit)×List (List Int×List Int×
 Unit)->Prop
abbrev p7:Type:=(Int×Int×Rose ((TI.pair (TI.pair Ty.unit)).den×(L.pair Ty.unit).den)×Unit)×(Int×Int×Rose ((TI.pair (TI.pair Ty.unit)).den×(L.pair Ty.unit).den)×
 Unit)×List (Int×Int×List (List Int))×((List Int×List Int×Unit)×List Int×Int×Unit)×List (List Int×List Int×Unit)
abbrev p9:Type:=(List (List Int×List Int×Unit)×Unit)×Bool
abbrev yP:Type:=Int×(Int×Int×Rose ((TI.pair (TI.pair Ty.unit)).den×(L.pair Ty.unit).den)×Unit)×(Int×Int×Rose ((TI.pair (TI.pair Ty.unit)).den×(L.pair
 Ty.unit).den)×Unit)×List (Int×Int×List (List Int))×(List Int×List Int×Unit)×List Int×Int×Unit
abbrev yQ:Type:=Int×(Int×Int×Rose ((TI.pair (TI.pair Ty.unit)).den×(L.pair Ty.unit).den)×Unit)×(Int×Int×Rose ((TI.pair (TI.pair Ty.unit)).den×(L.pair
 Ty.unit).den)×Unit)×List (Int×Int×List (List Int))×(List Int×List Int×Unit)×List Int×Int×Unit->Prop
abbrev yR:Type:=Int×(Int×Int×Rose ((TI.pair (TI.pair Ty.unit)).den×(L.pair Ty.unit).den)×Unit)×(Int×Int×Rose ((TI.pair (TI.pair Ty.unit)).den×(L.pair
 Ty.unit).den)×Unit)×List (Int×Int×List (List Int))×(List Int×List Int×Unit)×List Int×Int×Unit->Nat
abbrev Kj:List At:=[]
abbrev Kk:List (Int×Int×List (List Int)):=[]
abbrev mF:List (List Int×List Int×Unit):=[]
abbrev gP:=(z0,z0,z0,z0,z0,z0,z0,eI,Kj,())
abbrev xu(x_1 x:gO):=(aq kD x_1.2.2.1).getD x.1.toNat ((eI,eI,()),eI,())
abbrev mG(x_1 x:gO)(x_2:fL):=(xu x_1 x).2.1.getD x_2.1.toNat z0
abbrev Kl(x_3:fL)(x_1 x:gO)(x_2:fL)(l:List En)(I:oK)(μ:oL):=(eY x_3.2.2.2.1 (mG x_1 x x_2)<z0/\∀(g:Int),z0<=g->(∀(p:
 Int×Int×List (List Int)),p∈x_3.2.2.2.1->p.2.1≠g)->wL (l.getD x_3.1.toNat gP)/\(eY (x_3.2.2.2.1++[((xu x_1 x).2.1.getD x_2.1.toNat z0,g,eL)]) (mG x_1 x x_2)<z0
 \/∃(p:Int×Int×List (List Int)),p∈x_3.2.2.2.1++[((xu x_1 x).2.1.getD x_2.1.toNat z0,g,eL)]/\p.2.1=eY (x_3.2.2.2.1++[((xu x_1 x).2.1.getD x_2.1.toNat z0,g,eL)])
 (mG x_1 x x_2))/\SP (!kj (x_3.2.2.2.1++[((xu x_1 x).2.1.getD x_2.1.toNat z0,g,eL)]) (eY (x_3.2.2.2.1++[((xu x_1 x).2.1.getD x_2.1.toNat z0,g,eL)]) (mG x_1 x x_2))
 (PL.dS (l.getD x_3.1.toNat gP))) (false=true) (aa (x_3.1+z1)/\NX I μ x_3 (x_3.1+z1,x_3.2.1,x_3.2.2.1,x_3.2.2.2.1++[((xu x_1 x).2.1.getD x_2.1.toNat z0,g,eL)],
 x_3.2.2.2.2)))
abbrev Km(l:List En)(x_3:fL)(x_1 x:gO)(x_2:fL)(I:oK)(μ:oL):=wL (l.getD x_3.1.toNat gP)/\(eY x_3.2.2.2.1 (mG x_1 x x_2)<
 z0\/∃(p:Int×Int×List (List Int)),p∈x_3.2.2.2.1/\p.2.1=eY x_3.2.2.2.1 (mG x_1 x x_2))/\SP (!kj x_3.2.2.2.1 (eY x_3.2.2.2.1 (mG x_1 x x_2)) (PL.dS (l.getD
 x_3.1.toNat gP))) (false=true) (aa (x_3.1+z1)/\NX I μ x_3 (x_3.1+z1,x_3.2))
abbrev qC(dv:wC)(s:Sc)(ch:List CH.den)(x:gO):=(aq kD (dv s.1 ch).1).getD x.1.toNat ((eI,eI,()),eI,())
abbrev vn(x x_1:gO):=(gj kD x.2.1 x.2.2.1).getD x_1.1.toNat ((eI,eI,()),eI,z0,())
abbrev qdr(x_2:fL)(dv:wC)(s:Sc)(ch:List CH.den)(x:gO)(x_1:fL)(l:List En)(I:oK)(μ:oL):=(eY x_2.2.2.2.1 ((qC dv s
 ch x).2.1.getD x_1.1.toNat z0)<z0/\∀(g:Int),z0<=g->(∀(p:Int×Int×List (List Int)),p∈x_2.2.2.2.1->p.2.1≠g)->wL (l.getD x_2.1.toNat gP)/\(∃(p:Int×Int×List
 (List Int)),p∈x_2.2.2.2.1++[((qC dv s ch x).2.1.getD x_1.1.toNat z0,g,eL)]/\p.2.1=eY (x_2.2.2.2.1++[((qC dv s ch x).2.1.getD x_1.1.toNat z0,g,eL)]) ((qC dv s ch
 x).2.1.getD x_1.1.toNat z0))/\aa (x_2.1+z1)/\NX I μ x_2 (x_2.1+z1,x_2.2.1,x_2.2.2.1,ko (x_2.2.2.2.1++[((qC dv s ch x).2.1.getD x_1.1.toNat z0,g,eL)]) (eY (x_2.2.2.2.1
 ++[((qC dv s ch x).2.1.getD x_1.1.toNat z0,g,eL)]) ((qC dv s ch x).2.1.getD x_1.1.toNat z0)) (PL.dS (l.getD x_2.1.toNat gP)),x_2.2.2.2.2))
abbrev vo(x:p7)(r_1:p9):=Dh (kR Hx eK x.2.2.2.2 r_1.1.1)
abbrev qds(x_2:yP)(YU:yQ)(iS:yR)(x:p7)(r_1:p9):=(eY x_2.2.2.2.1 x_2.2.2.2.2.2.2.1<z0/\∀(g:Int),z0<=g->(∀(p:Int×Int
 ×List (List Int)),p∈x_2.2.2.2.1->p.2.1≠g)->(∃(p:Int×Int×List (List Int)),p∈x_2.2.2.2.1++[(x_2.2.2.2.2.2.2.1,g,eL)]/\p.2.1=eY (x_2.2.2.2.1++[(x_2.2.2.2.2.2.2.1,
 g,eL)]) x_2.2.2.2.2.2.2.1)/\aa (x_2.1+z1)/\NX YU iS x_2 (x_2.1+z1,x_2.2.1,x_2.2.2.1,ko (x_2.2.2.2.1++[(x_2.2.2.2.2.2.2.1,g,eL)]) (eY (x_2.2.2.2.1++
 [(x_2.2.2.2.2.2.2.1,g,eL)]) x_2.2.2.2.2.2.2.1) ((vo x r_1).1.2.1.1.getD x_2.1.toNat (List.replicate qg z0,eI,())).2.1,x_2.2.2.2.2))
abbrev qdt(x_3:fL)(l:List En)(x_1 x:gO)(x_2:fL)(I:oK)(μ:oL):=SP (cR x_3.2.2.2.2.1 (l.getD x_3.1.toNat gP).2.2.2.2.2.2.2.1) (((SD
 (eY x_3.2.2.2.1 (mG x_1 x x_2)<z0) (Kl x_3 x_1 x x_2 l I μ) (Km l x_3 x_1 x x_2 I μ))/\SD (eY x_3.2.2.2.1 (mG x_1 x x_2)<z0) (Kl x_3 x_1 x x_2 l I μ) (Km l x_3
 x_1 x x_2 I μ))/\SD (eY x_3.2.2.2.1 (mG x_1 x x_2)<z0) (Kl x_3 x_1 x x_2 l I μ) (Km l x_3 x_1 x x_2 I μ)) (((aa (x_3.1+z1)/\NX I μ x_3 (x_3.1+z1,x_3.2))/\aa
 (x_3.1+z1)/\NX I μ x_3 (x_3.1+z1,x_3.2))/\aa (x_3.1+z1)/\NX I μ x_3 (x_3.1+z1,x_3.2))
abbrev qdu(x_2:yP)(YU:yQ)(iS:yR)(x:p7)(r_1:p9):=(∃(p:Int×Int×List (List Int)),p∈x_2.2.2.2.1/\p.2.1=eY x_2.2.2.2.1
 x_2.2.2.2.2.2.2.1)/\aa (x_2.1+z1)/\NX YU iS x_2 (x_2.1+z1,x_2.2.1,x_2.2.2.1,ko x_2.2.2.2.1 (eY x_2.2.2.2.1 x_2.2.2.2.2.2.2.1) ((vo x r_1).1.2.1.1.getD x_2.1.toNat
 (List.replicate qg z0,eI,())).2.1,x_2.2.2.2.2)
abbrev yS(x:HT):=jL eK x.2.2.2.2.2.2.2.1 (PL.dS x.2.2.2.2.2.2.2.2)
abbrev yT(x:Ki):=jL eK x.2.2.2.2.2.2.1 (PL.dS x.2.2.2.2.2.2.2)
abbrev Tl(l:List En)(x_2:fL)(dv:wC)(s:Sc)(ch:List CH.den)(x:gO)(x_1:fL)(I:oK)(μ:oL):=wL (l.getD x_2.1.toNat
 gP)/\(∃(p:Int×Int×List (List Int)),p∈x_2.2.2.2.1/\p.2.1=eY x_2.2.2.2.1 ((qC dv s ch x).2.1.getD x_1.1.toNat z0))/\aa (x_2.1+z1)/\NX I μ x_2 (x_2.1+z1,x_2.2.1,
 x_2.2.2.1,ko x_2.2.2.2.1 (eY x_2.2.2.2.1 ((qC dv s ch x).2.1.getD x_1.1.toNat z0)) (PL.dS (l.getD x_2.1.toNat gP)),x_2.2.2.2.2)
abbrev Tm(x:p7)(r_1:p9):=True/\SP true (AI x.2.2.2.2 r_1.1.1/\SP (nR Hx x.2.2.2.2 r_1.1.1) (true=true) (AI r_1.1.1 x.2.2.2.2/\nR Hx r_1.1.1
 x.2.2.2.2=true)) (false=true)
abbrev tv(x x_1:gO):=(vn x x_1).2.1.getD y0 z0
theorem qkA(dv:Int->List CH.den->Dv×Dv)(s:Sc)(l:List En)(ch:List CH.den):aW (LW0 dv) 12 3 (qaZ [SC,.arr EN,.arr CH]) (s,l,ch)=(True/\SP (!(nT s z6&&
 (decide (nF s=z0)&&(decide ((ln l)<=z28)&&l.all iL)))) (True/\true=true) (SD (z12<(ln ch)) (True/\true=true) (LP z0 fun I μ x=>SD (x<(ln l)) ((IR x l)/\eM s/\
 SP (!decide (iD s (l.getD x.toNat gP)=z0)) (True/\true=true) (aa (x+z1)/\NX I μ x (x+z1))) ((z1<=s.1/\s.1<=nj/\ch.length<=zW)/\SP (!true) (false=true) (pX kD
 (dv s.1 ch).1/\LP (z0,(dv s.1 ch).1,(dv s.1 ch).2,Kk) fun I μ x=>SD (x.1<(ln (aq kD (dv s.1 ch).1))) ((IR x.1 (aq kD (dv s.1 ch).1))/\LP (z0,x.2.1,x.2.2.1,
 x.2.2.2,(aq kD (dv s.1 ch).1).getD x.1.toNat ((eI,eI,()),eI,())) fun wK iS x_1=>SD (x_1.1<(ln (qC dv s ch x).2.1)) ((IR x_1.1 (qC dv s ch x).2.1)/\LP (z0,x_1.2) fun
 I μ x_2=>SD (x_2.1<(ln l)) ((IR x_2.1 l)/\True/\SP (cR x_2.2.2.2.2.1 (l.getD x_2.1.toNat gP).2.2.2.2.2.2.2.1) ((SD (eY x_2.2.2.2.1 ((qC dv s ch x).2.1.getD x_1.1.toNat z0)<
 z0) (qdr x_2 dv s ch x x_1 l I μ) (Tl l x_2 dv s ch x x_1 I μ))/\SD (eY x_2.2.2.2.1 ((qC dv s ch x).2.1.getD x_1.1.toNat z0)<z0) (qdr x_2 dv s ch x x_1 l I μ) (Tl l x_2
 dv s ch x x_1 I μ)) (aa (x_2.1+z1)/\NX I μ x_2 (x_2.1+z1,x_2.2))) (aa (x_1.1+z1)/\NX wK iS x_1 (x_1.1+z1,x_2.2))) (aa (x.1+z1)/\NX I μ x (x.1+z1,x_1.2.1,
 x_1.2.2.1,x_1.2.2.2.1))) (qf1 kD x.2.1 x.2.2.1/\LP (z0,x.2) fun I μ x_1=>SD (x_1.1<(ln (gj kD x.2.1 x.2.2.1))) ((IR x_1.1 (gj kD x.2.1 x.2.2.1))/\SD ((ln (vn x
 x_1).2.1)=z0) (false=true) ((IR z0 (vn x x_1).2.1)/\∃(wK:(List (List Int×List Int×Unit)×Unit)×Bool->(Int×Int×Rose ((TI.pair (TI.pair Ty.unit)).den×(L.pair
 Ty.unit).den)×Unit)×(Int×Int×Rose ((TI.pair (TI.pair Ty.unit)).den×(L.pair Ty.unit).den)×Unit)×List (Int×Int×List (List Int))×(List Int×List Int×Unit)×List Int×
 Int×Unit->Prop),(LP (z0,x_1.2.1,x_1.2.2.1,x_1.2.2.2,(gj kD x.2.1 x.2.2.1).getD x_1.1.toNat ((eI,eI,()),eI,z0,()),mF,mF,mF) fun I μ x_2=>SD (x_2.1
 <(ln l)) ((IR x_2.1 l)/\True/\SP (!cR (vn x x_1).1 (l.getD x_2.1.toNat gP).2.2.2.2.2.2.2.1) (aa (x_2.1+z1)/\NX I μ x_2 (x_2.1+z1,x_2.2)) (∃(I_2:Bool->(Int×Int×
 Rose ((TI.pair (TI.pair Ty.unit)).den×(L.pair Ty.unit).den)×Unit)×(Int×Int×Rose ((TI.pair (TI.pair Ty.unit)).den×(L.pair Ty.unit).den)×Unit)×List (Int×Int×List (List
 Int))×((List Int×List Int×Unit)×List Int×Int×Unit)×List (List Int×List Int×Unit)×List (List Int×List Int×Unit)×List (List Int×List Int×Unit)×Int×Int×Int
 ×Int×Int×Int×Int×List Int×List (List Int×Int×Int×List Int×Unit)×Unit->Prop),(SD (eY x_2.2.2.2.1 (tv x x_1)<z0) (eY x_2.2.2.2.1 (tv x x_1)<z0/\∀(g:
 Int),z0<=g->(∀(p:Int×Int×List (List Int)),p∈x_2.2.2.2.1->p.2.1≠g)->wL (l.getD x_2.1.toNat gP)/\(eY (x_2.2.2.2.1++[((vn x x_1).2.1.getD y0 z0,g,eL)]) (tv x
 x_1)<z0\/∃(p:Int×Int×List (List Int)),p∈x_2.2.2.2.1++[((vn x x_1).2.1.getD y0 z0,g,eL)]/\p.2.1=eY (x_2.2.2.2.1++[((vn x x_1).2.1.getD y0 z0,g,eL)]) (tv x
 x_1))/\I_2 (kj (x_2.2.2.2.1++[((vn x x_1).2.1.getD y0 z0,g,eL)]) (eY (x_2.2.2.2.1++[((vn x x_1).2.1.getD y0 z0,g,eL)]) (tv x x_1)) (PL.dS (l.getD x_2.1.toNat
 gP))) (x_2.2.1,x_2.2.2.1,x_2.2.2.2.1++[((vn x x_1).2.1.getD y0 z0,g,eL)],x_2.2.2.2.2.1,x_2.2.2.2.2.2.1,x_2.2.2.2.2.2.2.1,x_2.2.2.2.2.2.2.2,l.getD x_2.1.toNat gP)) (wL
 (l.getD x_2.1.toNat gP)/\(eY x_2.2.2.2.1 (tv x x_1)<z0\/∃(p:Int×Int×List (List Int)),p∈x_2.2.2.2.1/\p.2.1=eY x_2.2.2.2.1 (tv x x_1))/\I_2 (kj x_2.2.2.2.1
 (eY x_2.2.2.2.1 (tv x x_1)) (PL.dS (l.getD x_2.1.toNat gP))) (x_2.2.1,x_2.2.2.1,x_2.2.2.2.1,x_2.2.2.2.2.1,x_2.2.2.2.2.2.1,x_2.2.2.2.2.2.2.1,x_2.2.2.2.2.2.2.2,l.getD
 x_2.1.toNat gP)))/\∀(r:Bool) (x:(Int×Int×Rose ((TI.pair (TI.pair Ty.unit)).den×(L.pair Ty.unit).den)×Unit)×(Int×Int×Rose ((TI.pair (TI.pair Ty.unit)).den×(L.pair
 Ty.unit).den)×Unit)×List (Int×Int×List (List Int))×((List Int×List Int×Unit)×List Int×Int×Unit)×List (List Int×List Int×Unit)×List (List Int×List Int×Unit)×
 List (List Int×List Int×Unit)×Int×Int×Int×Int×Int×Int×Int×List Int×List (List Int×Int×Int×List Int×Unit)×Unit),I_2 r x->SP (!r) (aa (x_2.1+z1)/\NX I
 μ x_2 (x_2.1+z1,x.1,x.2.1,x.2.2.1,x.2.2.2.1,x.2.2.2.2.1,x.2.2.2.2.2.1,x.2.2.2.2.2.2.1)) (wL x.2.2.2.2.2.2.2/\(eA x.2.2.2.2.2.2.1/\(PL.dS x.2.2.2.2.2.2.2).length<=(20000:
 Nat))/\(PL.dS x.2.2.2.2.2.2.2).length<=(100000:Nat)/\eA (yT x).1/\SP (!cJ (yT x).1 (iq qf [PL.dS x.2.2.2.2.2.2.2])) (wK (((yT x).1,()),false) (x.1,x.2.1,
 x.2.2.1,x.2.2.2.1)) (SP (!decide ((cD (yT x).1 (iq qf [PL.dS x.2.2.2.2.2.2.2])).getD eI=PL.dS x.2.2.2.2.2.2.2)) (wK (((yT x).1,()),false) (x.1,x.2.1,x.2.2.1,
 x.2.2.2.1)) (aa (x_2.1+z1)/\NX I μ x_2 (x_2.1+z1,x.1,x.2.1,x.2.2.1,x.2.2.2.1,x.2.2.2.2.1,x.2.2.2.2.2.1,(yT x).1)))))) (wK ((x_2.2.2.2.2.2.2.2,()),true) (x_2.2.1,
 x_2.2.2.1,x_2.2.2.2.1,x_2.2.2.2.2.1)))/\∀(r:(List (List Int×List Int×Unit)×Unit)×Bool) (x:(Int×Int×Rose ((TI.pair (TI.pair Ty.unit)).den×(L.pair Ty.unit).den)×Unit)
 ×(Int×Int×Rose ((TI.pair (TI.pair Ty.unit)).den×(L.pair Ty.unit).den)×Unit)×List (Int×Int×List (List Int))×(List Int×List Int×Unit)×List Int×Int×Unit),wK r x->
 ∃(I_2:(List (List Int×List Int×Unit)×Unit)×Bool->(Int×Int×Rose ((TI.pair (TI.pair Ty.unit)).den×(L.pair Ty.unit).den)×Unit)×(Int×Int×Rose ((TI.pair (TI.pair
 Ty.unit)).den×(L.pair Ty.unit).den)×Unit)×List (Int×Int×List (List Int))×((List Int×List Int×Unit)×List Int×Int×Unit)×List (List Int×List Int×Unit)->Prop),(LP
 (z0,x.1,x.2.1,x.2.2.1,x.2.2.2,r.1.1,mF,mF,mF) fun I μ x_2=>SD (x_2.1<(ln l)) ((IR x_2.1 l)/\True/\SP (!cR x.2.2.2.1 (l.getD x_2.1.toNat
 gP).2.2.2.2.2.2.2.1) (aa (x_2.1+z1)/\NX I μ x_2 (x_2.1+z1,x_2.2)) (∃(YU:Bool->(Int×Int×Rose ((TI.pair (TI.pair Ty.unit)).den×(L.pair Ty.unit).den)×Unit)×(Int×
 Int×Rose ((TI.pair (TI.pair Ty.unit)).den×(L.pair Ty.unit).den)×Unit)×List (Int×Int×List (List Int))×((List Int×List Int×Unit)×List Int×Int×Unit)×List (List Int×
 List Int×Unit)×List (List Int×List Int×Unit)×List (List Int×List Int×Unit)×List (List Int×List Int×Unit)×Int×Int×Int×Int×Int×Int×Int×List Int×List
 (List Int×Int×Int×List Int×Unit)×Unit->Prop),(SD (eY x_2.2.2.2.1 x.2.2.2.2.2.1<z0) (eY x_2.2.2.2.1 x.2.2.2.2.2.1<z0/\∀(g:Int),z0<=g->(∀(p:Int×Int×List (List
 Int)),p∈x_2.2.2.2.1->p.2.1≠g)->wL (l.getD x_2.1.toNat gP)/\(eY (x_2.2.2.2.1++[(x.2.2.2.2.2.1,g,eL)]) x.2.2.2.2.2.1<z0\/∃(p:Int×Int×List (List Int)),p∈
 x_2.2.2.2.1++[(x.2.2.2.2.2.1,g,eL)]/\p.2.1=eY (x_2.2.2.2.1++[(x.2.2.2.2.2.1,g,eL)]) x.2.2.2.2.2.1)/\YU (kj (x_2.2.2.2.1++[(x.2.2.2.2.2.1,g,eL)]) (eY (x_2.2.2.2.1++
 [(x.2.2.2.2.2.1,g,eL)]) x.2.2.2.2.2.1) (PL.dS (l.getD x_2.1.toNat gP))) (x_2.2.1,x_2.2.2.1,x_2.2.2.2.1++[(x.2.2.2.2.2.1,g,eL)],x_2.2.2.2.2.1,x_2.2.2.2.2.2.1,
 x_2.2.2.2.2.2.2.1,x_2.2.2.2.2.2.2.2.1,x_2.2.2.2.2.2.2.2.2,l.getD x_2.1.toNat gP)) (wL (l.getD x_2.1.toNat gP)/\(eY x_2.2.2.2.1 x.2.2.2.2.2.1<z0\/∃(p:Int×Int×List
 (List Int)),p∈x_2.2.2.2.1/\p.2.1=eY x_2.2.2.2.1 x.2.2.2.2.2.1)/\YU (kj x_2.2.2.2.1 (eY x_2.2.2.2.1 x.2.2.2.2.2.1) (PL.dS (l.getD x_2.1.toNat gP))) (x_2.2.1,x_2.2.2.1,
 x_2.2.2.2.1,x_2.2.2.2.2.1,x_2.2.2.2.2.2.1,x_2.2.2.2.2.2.2.1,x_2.2.2.2.2.2.2.2.1,x_2.2.2.2.2.2.2.2.2,l.getD x_2.1.toNat gP)))/\∀(r:Bool) (x:(Int×Int×Rose ((TI.pair
 (TI.pair Ty.unit)).den×(L.pair Ty.unit).den)×Unit)×(Int×Int×Rose ((TI.pair (TI.pair Ty.unit)).den×(L.pair Ty.unit).den)×Unit)×List (Int×Int×List (List Int))×((List Int
 ×List Int×Unit)×List Int×Int×Unit)×List (List Int×List Int×Unit)×List (List Int×List Int×Unit)×List (List Int×List Int×Unit)×List (List Int×List Int×Unit)×
 Int×Int×Int×Int×Int×Int×Int×List Int×List (List Int×Int×Int×List Int×Unit)×Unit),YU r x->SP (!r) (aa (x_2.1+z1)/\NX I μ x_2 (x_2.1+z1,x.1,x.2.1,
 x.2.2.1,x.2.2.2.1,x.2.2.2.2.1,x.2.2.2.2.2.1,x.2.2.2.2.2.2.1,x.2.2.2.2.2.2.2.1)) (wL x.2.2.2.2.2.2.2.2/\(eA x.2.2.2.2.2.2.2.1/\(PL.dS x.2.2.2.2.2.2.2.2).length<=(20000:Nat))
 /\(PL.dS x.2.2.2.2.2.2.2.2).length<=(100000:Nat)/\eA (yS x).1/\SP (!cJ (yS x).1 (iq qf [PL.dS x.2.2.2.2.2.2.2.2])) (I_2 (((yS x).1,()),false) (x.1,x.2.1,
 x.2.2.1,x.2.2.2.1,x.2.2.2.2.1)) (SP (!decide ((cD (yS x).1 (iq qf [PL.dS x.2.2.2.2.2.2.2.2])).getD eI=PL.dS x.2.2.2.2.2.2.2.2)) (I_2 (((yS x).1,()),false) (x.1,
 x.2.1,x.2.2.1,x.2.2.2.1,x.2.2.2.2.1)) (aa (x_2.1+z1)/\NX I μ x_2 (x_2.1+z1,x.1,x.2.1,x.2.2.1,x.2.2.2.1,x.2.2.2.2.1,x.2.2.2.2.2.1,x.2.2.2.2.2.2.1,(yS x).1)))))) (I_2
 ((x_2.2.2.2.2.2.2.2.2,()),true) (x_2.2.1,x_2.2.2.1,x_2.2.2.2.1,x_2.2.2.2.2.1,x_2.2.2.2.2.2.1)))/\∀(r_1:(List (List Int×List Int×Unit)×Unit)×Bool) (x:(Int×Int×Rose
 ((TI.pair (TI.pair Ty.unit)).den×(L.pair Ty.unit).den)×Unit)×(Int×Int×Rose ((TI.pair (TI.pair Ty.unit)).den×(L.pair Ty.unit).den)×Unit)×List (Int×Int×List (List Int))×
 ((List Int×List Int×Unit)×List Int×Int×Unit)×List (List Int×List Int×Unit)),I_2 r_1 x->SP (!r.2) (True/\true=true) (SP (!r_1.2) (True/\true=true) (lE x.2.2.2.2
 r_1.1.1/\SP (!(vo x r_1).2) (Tm x r_1) ((z0<=z0/\z0<z2)/\(z0<=z1/\z1<z2)/\True/\SP (!decide ((vo x r_1).1.1.1=(vo x r_1).1.2.1.1)) (Tm x r_1) ((z0<=z1/\
 z1<z2)/\LP (z0,x.1,x.2.1,x.2.2.1,x.2.2.2.1) fun YU iS x_2=>SD (x_2.1<(ln (vo x r_1).1.2.1.1)) ((IR x_2.1 (vo x r_1).1.2.1.1)/\(SD (eY x_2.2.2.2.1 x_2.2.2.2.2.2.2.1<
 z0) (qds x_2 YU iS x r_1) (qdu x_2 YU iS x r_1))/\SD (eY x_2.2.2.2.1 x_2.2.2.2.2.2.2.1<z0) (qds x_2 YU iS x r_1) (qdu x_2 YU iS x r_1)) (aa (x_1.1+z1)/\NX I μ x_1
 (x_1.1+z1,x_2.2.1,x_2.2.2.1,x_2.2.2.2.1)))))))) (pX kD x_1.2.2.1/\LP (z0,x_1.2) fun I μ x=>SD (x.1<(ln (aq kD x_1.2.2.1))) ((IR x.1 (aq kD x_1.2.2.1))/\LP (z0,
 x.2.1,x.2.2.1,x.2.2.2,(aq kD x_1.2.2.1).getD x.1.toNat ((eI,eI,()),eI,())) fun wK iS x_2=>SD (x_2.1<(ln (xu x_1 x).2.1)) ((IR x_2.1 (xu x_1 x).2.1)/\LP (z0,x_2.2)
 fun I μ x_3=>SD (x_3.1<(ln l)) ((IR x_3.1 l)/\True/\(qdt x_3 l x_1 x x_2 I μ)/\(qdt x_3 l x_1 x x_2 I μ)/\SP (cR x_3.2.2.2.2.1 (l.getD x_3.1.toNat gP).2.2.2.2.2.2.2.1) ((SD
 (eY x_3.2.2.2.1 (mG x_1 x x_2)<z0) (Kl x_3 x_1 x x_2 l I μ) (Km l x_3 x_1 x x_2 I μ))/\SD (eY x_3.2.2.2.1 (mG x_1 x x_2)<z0) (Kl x_3 x_1 x x_2 l I μ) (Km l x_3
 x_1 x x_2 I μ)) ((aa (x_3.1+z1)/\NX I μ x_3 (x_3.1+z1,x_3.2))/\aa (x_3.1+z1)/\NX I μ x_3 (x_3.1+z1,x_3.2))) (aa (x_2.1+z1)/\NX wK iS x_2 (x_2.1+z1,x_3.2)))
 (aa (x.1+z1)/\NX I μ x (x.1+z1,x_2.2.1,x_2.2.2.1,x_2.2.2.2.1))) (True/\true=true)))))))):=by kernel_rfl
end Go.Proofs.YtobfmplofoofkaaGreatDoor
