import Derived.Test.YtobfmplofoofkaaGreatDoorKz10
import Derived.Test.YtobfmplofoofkaaGreatDoorKz11
import Derived.Test.YtobfmplofoofkaaGreatDoorKz9
import Derived.Test.YtobfmplofoofkaaGreatDoorRows
import Derived.Test.YtobfmplofoofkaaGreatDoorKz8
import Derived.WalkKit
import Derived.ProofKit
import Derived.LaidMore
import Derived.OpenShut
import Derived.LaidLaws
import Derived.LaidSub
set_option linter.unusedSimpArgs false
set_option linter.unusedVariables false
namespace Go.PL
open Go.AM
theorem rM{n:Nat}{d:Dv}{a:Ar}(h:a∈aq n d):∃i,i<(aq n d).length/\(aq n d).getD i AU=a:=Xv AU h
theorem Yp{o:Int}{l:List Int}(h:0<=iE o l):o∈l:=by
 rcases qu o l with ⟨e,_⟩|⟨h0,h1,h2,_⟩
 ·omega
 ·rw[<-h2,Wab,Waa (by omega)]
  exact WaJ _
theorem Yq{n:Nat}{a b:Dv}(ha:GoodN n a)(hb:GoodN n b)(hd:a.1=b.1){v:List Int}(hv:pP v=true)(hl:(v.length:Int)=a.1){x:Ar}(hx:x∈aq n b)(hbx:cR x.1 v=true){o:Int}(ho:o∈x.2.1):
 ∃y∈aq n a,cR y.1 v=true/\y.2.1≠[]/\(o∈y.2.1\/∃m∈gj n a b,m.2.2.1=o/\cR m.1 v=true/\m.2.1=y.2.1):=by
 obtain⟨h0,h1,h2⟩:=ha.home hv hl;obtain⟨i,hi,ei⟩:=rM hx;obtain⟨y,hy⟩:∃y,y=(aq n a).getD (vf n a v).toNat AU:=⟨_,rfl⟩
 have hlt:(vf n a v).toNat<(aq n a).length:=by omega
 have my:y∈aq n a:=by
  rw[hy,Wab,Waa hlt];exact WaJ hlt
 rw[<-hy]at h2;have gy:eB y.2.1=true:=by rw[hy];exact (ha.sub hlt).2
 have ny:y.2.1≠[]:=fun e=>by
  have:=(fj.1 gy).2.1
  rw[e]at this;simp at this
 refine⟨y,my,h2,ny,?_⟩
 by_cases hin:o∈y.2.1
 ·exact .inl hin
 ·right
  obtain⟨hba,hbm⟩:=qcC hbx h2;have hm:meets x y=true:=by rw[J0 hba];exact hbm
  have hno:inL y.2.1 o=false:=by
   unfold inL;rw[decide_eq_false_iff_not];intro h;exact hin (Yp h)
  refine⟨((jG x.1 y.1).1,y.2.1,o,()),?_,rfl,?_,rfl⟩
  ·unfold gj Mx;refine List.mem_flatMap.2 ⟨x,hx,?_⟩
   unfold nH;refine List.mem_flatMap.2 ⟨y,my,?_⟩
   unfold jO;rw[if_pos hm];refine List.mem_flatMap.2 ⟨o,ho,?_⟩
   unfold nU;rw[hno];exact List.mem_singleton.2 rfl
  ·show cR (jG x.1 y.1).1 v=true
   have e:(jG x.1 y.1).1=lV x.1 y.1:=by rw[v8 hba hbm]
   rw[e,J1 hba hbm];exact⟨hbx,h2⟩
theorem Kn{n:Nat}{a b:Dv}(ha:GoodN n a){m:Mv}(h:m∈gj n a b):m.2.1≠[]:=by
 unfold gj Mx at h;obtain⟨x,hx,h⟩:=List.mem_flatMap.1 h;unfold nH at h;obtain⟨y,hy,h⟩:=List.mem_flatMap.1 h;unfold jO at h;split at h
 ·obtain⟨o,ho,h⟩:=List.mem_flatMap.1 h;unfold nU at h;split at h
  ·cases h
  ·rw[List.mem_singleton.1 h];obtain⟨i,hi,ei⟩:=rM hy;have gy:eB y.2.1=true:=by rw[<-ei];exact (ha.sub hi).2
   intro e;have:=(fj.1 gy).2.1
   have e:y.2.1=[]:=e;rw[e]at this;simp at this
 ·cases h
def AN(e:En):List Int:=e.2.2.2.2.2.2.2.1
def Hv(m:Nm)(R:Int->List Int->Prop):Prop:=∀n t,R n t->Ng m n t=true
theorem Hv.le{m m':Nm}{R:Int->List Int->Prop}(h:Hv m R)(hl:AW m m'):Hv m' R:=fun n t hr=>hl n t (h n t hr)
theorem qnL{v:List Int}(h:DN v=true):pP v=true:=by
 unfold DN at h;simp only[Wac,decide_eq_true_eq,Wau]at h;refine j6.2 ⟨fun i hi=>?_,h.2.1,h.2.2⟩
 rw[Wab,Waa hi];exact h.1 _ (WaJ hi)
theorem qgz{s:Sc}{e:En}(h:iD s e=0):pP (AN e)=true/\((AN e).length:Int)=s.1:=by
 unfold iD at h;split at h
 ·cases h
 ·split at h
  ·cases h
  ·split at h
   ·cases h
   ·rename_i h3;refine⟨qnL ?_,?_⟩
    ·cases e':DN e.2.2.2.2.2.2.2.1 with
     |true=>exact e'
     |false=>exact absurd (.inr e') h3
    ·exact Decidable.of_not_not fun hn=>h3 (.inl hn)
structure Nb (l:List En) (a b:Dv):Prop where
 ga:GoodN 13 a
 gb:GoodN 13 b
 hd:a.1=b.1
 ll:l.length<=28
 Iw:∀e∈l,wL e
 vec:∀e∈l,pP (AN e)=true/\((AN e).length:Int)=a.1
def RB(l:List En)(d:Dv)(n:Int)(t:List Int):Prop:=∃y∈aq 13 d,n∈y.2.1/\∃e∈l,cR y.1 (AN e)=true/\t=dS e
def RC(l:List En)(ML:List Mv)(i:Int)(n:Int)(t:List Int):Prop:=∃q:Nat,(q:Int)<i/\∃mv,ML[q]?=some mv/\n=mv.2.2.1/\∃e∈l,cR mv.1 (AN e)=true/\t=dS e
theorem Yr{a b:Dv}(ha:GoodN 13 a)(hb:GoodN 13 b)(hd:a.1=b.1){m:Mv}(h:m∈gj 13 a b):∃y∈aq 13 a,m.2.1=y.2.1/\∀v,cR m.1 v=true->cR y.1 v=true:=by
 unfold gj Mx at h;obtain⟨x,hx,h⟩:=List.mem_flatMap.1 h;unfold nH at h;obtain⟨y,hy,h⟩:=List.mem_flatMap.1 h;unfold jO at h;split at h
 ·rename_i hm;obtain⟨o,ho,h⟩:=List.mem_flatMap.1 h;unfold nU at h;split at h
  ·cases h
  ·rw[List.mem_singleton.1 h];obtain⟨i,hi,ei⟩:=rM hx;obtain⟨j,hj,ej⟩:=rM hy;have s1:=(hb.sub hi).1;have s2:=(ha.sub hj).1;rw[ei]at s1;rw[ej,hd]at s2;have hba:gh x.1 y.1=true:=SB s1 s2;rw[J0 hba]at hm;refine⟨y,hy,rfl,fun v hv=>?_⟩
   have e:(jG x.1 y.1).1=lV x.1 y.1:=by rw[v8 hba hm]
   have hv:cR (jG x.1 y.1).1 v=true:=hv;rw[e]at hv;exact ((J1 hba hm).1 hv).2
 ·cases h
theorem head_mem{l:List Int}(h:l≠[]):l.getD 0 0∈l:=by
 cases l with
 |nil=>exact absurd rfl h
 |cons x l=>exact Waq
theorem qdv{l:List En}{a b:Dv}(E:Nb l a b){m:Nm}(h:Hv m (RB l a)){mv:Mv}(hm:mv∈gj 13 a b){e:En}(he:e∈l)(hb:cR mv.1 (AN e)=true):Ng m (mv.2.1.getD 0 0) (dS e)=true:=by
 obtain⟨y,hy,e1,hv⟩:=Yr E.ga E.gb E.hd hm;have hne:=Kn E.ga hm;refine h _ _ ⟨y,hy,?_,e,he,hv _ hb,rfl⟩
 rw[<-e1];exact head_mem hne
theorem Ys{l:List En}{a b:Dv}(E:Nb l a b){m:Nm}(h:Hv m (RB l a)){ML:List Mv}(hML:ML=gj 13 a b)(h':Hv m (RC l ML (ML.length:Int))):Hv m (RB l b):=by
 intro n t h0;obtain⟨x,hx,hn,e,he,hb,ht⟩:=h0;rw[ht];obtain⟨hv,hl⟩:=E.vec e he;obtain⟨y,hy,h2,h3,h4⟩:=Yq E.ga E.gb E.hd hv hl hx hb hn;rcases h4 with h4|⟨mv,hm,e1,e2,e3⟩
 ·exact h n _ ⟨y,hy,h4,e,he,h2,rfl⟩
 ·rw[<-hML]at hm;obtain⟨q,hq,rfl⟩:=WaM hm;exact h' n _ ⟨q,Int.ofNat_lt.2 hq,_,Waa hq,e1.symm,e,he,e2,rfl⟩
theorem Yt{a b:Dv}(ha:GoodN 13 a)(hb:GoodN 13 b):qf1 13 a b:=by
 refine⟨ha.pre,hb.pre,?_⟩
 have la:(aq 13 a).length<=64:=by rw[jw];exact ha.Iw
 have lb:(aq 13 b).length<=64:=by rw[jw];exact hb.Iw
 have o4:∀x∈aq 13 b,x.2.1.length<=4:=fun x hx=>by
  obtain⟨i,hi,ei⟩:=rM hx;have:=(fj.1 (hb.sub hi).2).2.2
  rw[ei]at this;exact this
 have h1:∀x∈aq 13 b,(nH (aq 13 a) x).length<=256:=fun x hx=>by
  have:=wj (f:=jO x) (c:=4) (l:=aq 13 a) fun y hy=>SH (o4 x hx)
  unfold nH;omega
 have h2:=wj (f:=nH (aq 13 a)) (c:=256) (l:=aq 13 b) h1;have h3:(gj 13 a b).length<=(aq 13 b).length*256:=h2;omega
theorem HU:∀(l:List Df) (b:List Int),GA l b=0->∀d∈l,d.1≠[]
 |[],_,_,d,h=>absurd h Wbg
 |x::l,b,h,d,hd=>by
  have h:(if pM x b≠0 then pM x b else GA l x.1)=0:=h
  by_cases hx:pM x b=0
  ·rw[if_neg (fun g=>g hx)]at h
   rcases List.mem_cons.1 hd with g|g
   ·subst g;intro e;have hn:(!kS d.1)=true:=by rw[e];rfl
    unfold pM at hx;rw[if_pos hn]at hx;exact absurd hx (by decide)
   ·exact HU l _ h d g
  ·rw[if_pos hx]at h;exact absurd h hx
theorem Yu{s:Sc}(h:nF s=0):eM s:=by
 unfold nF at h;split at h
 ·exact absurd h (by decide)
 ·split at h
  ·exact absurd h (by decide)
  ·exact HU _ _ h
def R1(l:List En)(AL:List Ar)(i:Int)(n:Int)(t:List Int):Prop:=∃q:Nat,(q:Int)<i/\∃y,AL[q]?=some y/\n∈y.2.1/\∃e∈l,cR y.1 (AN e)=true/\t=dS e
def R2(l:List En)(A:Ar)(j:Int)(n:Int)(t:List Int):Prop:=∃q:Nat,(q:Int)<j/\A.2.1[q]?=some n/\∃e∈l,cR A.1 (AN e)=true/\t=dS e
def R3(l:List En)(A:Ar)(N:Int)(k:Int)(n:Int)(t:List Int):Prop:=n=N/\∃r:Nat,(r:Int)<k/\∃e,l[r]?=some e/\cR A.1 (AN e)=true/\t=dS e
theorem getD_some{α:Type}{l:List α}{k:Nat}(h:k<l.length)(d:α):l[k]?=some (l.getD k d):=by
 rw[Wab,Waa h];rfl
structure C3 (l:List En) (AL:List Ar) (i:Int) (A:Ar) (j N k:Int) (m:Nm):Prop where
 ok:DR m
 h1:Hv m (R1 l AL i)
 h2:Hv m (R2 l A j)
 h3:Hv m (R3 l A N k)
structure C2 (l:List En) (AL:List Ar) (i:Int) (A:Ar) (j:Int) (m:Nm):Prop where
 ok:DR m
 h1:Hv m (R1 l AL i)
 h2:Hv m (R2 l A j)
structure C1 (l:List En) (AL:List Ar) (i:Int) (m:Nm):Prop where
 ok:DR m
 h1:Hv m (R1 l AL i)
theorem C1.zero{l:List En}{AL:List Ar}:C1 l AL 0 []:=⟨fun p hp=>(by cases hp),fun n t h=>by obtain⟨q,hq,_⟩:=h;omega⟩
theorem C1.start{l:List En}{AL:List Ar}{i:Int}{m:Nm}(h:C1 l AL i m)(A:Ar):C2 l AL i A 0 m:=⟨h.ok,h.h1,fun n t h=>by obtain⟨q,hq,_⟩:=h;omega⟩
theorem C2.start{l:List En}{AL:List Ar}{i j:Int}{A:Ar}{m:Nm}(h:C2 l AL i A j m)(N:Int):C3 l AL i A j N 0 m:=⟨h.ok,h.h1,h.h2,fun n t h=>by obtain⟨_,q,hq,_⟩:=h;omega⟩
theorem C3.skip{l:List En}{AL:List Ar}{i j N k:Int}{A:Ar}{m:Nm}(h:C3 l AL i A j N k m)(k0:0<=k){e:En}(he:l[k.toNat]?=some e)(hb:cR A.1 (AN e)=false):C3 l AL i A j N (k+1) m:=⟨h.ok,h.h1,h.h2,fun n t h'=>by
 obtain⟨hn,r,hr,e',he',hb',ht⟩:=h';rcases Wa4 (r:Int) k with hlt|hge
 ·exact h.h3 n t ⟨hn,r,hlt,e',he',hb',ht⟩
 ·have:r=k.toNat:=by omega
  subst this;rw[he]at he';cases he';rw[hb]at hb';cases hb'⟩
theorem C3.put{l:List En}{AL:List Ar}{i j N k:Int}{A:Ar}{m m':Nm}(h:C3 l AL i A j N k m)(k0:0<=k){e:En}(he:l[k.toNat]?=some e)(h1:DR m')(h2:AW m m')(h3:0<=eY m' N):
 C3 l AL i A j N (k+1) (ko m' (eY m' N) (dS e)):=by
 have hle:=h2.trans (MT (m:=m') (eY m' N) (dS e));refine⟨MR h1 _ _,h.h1.le hle,h.h2.le hle,fun n t h'=>?_⟩
 obtain⟨hn,r,hr,e',he',hb',ht⟩:=h';rcases Wa4 (r:Int) k with hlt|hge
 ·exact hle n t (h.h3 n t ⟨hn,r,hlt,e',he',hb',ht⟩)
 ·have:r=k.toNat:=by omega
  subst this;rw[he]at he';cases he';rw[hn,ht];exact qcS h3 _
theorem C3.fin{l:List En}{AL:List Ar}{i j N k:Int}{A:Ar}{m:Nm}(h:C3 l AL i A j N k m)(hk:(l.length:Int)<=k)(j0:0<=j)(hN:A.2.1[j.toNat]?=some N):C2 l AL i A (j+1) m:=⟨h.ok,h.h1,fun n t h'=>by
 obtain⟨q,hq,hn,e,he,hb,ht⟩:=h';rcases Wa4 (q:Int) j with hlt|hge
 ·exact h.h2 n t ⟨q,hlt,hn,e,he,hb,ht⟩
 ·have:q=j.toNat:=by omega
  subst this;rw[hN]at hn;cases hn;obtain⟨r,hr,rfl⟩:=WaM he;exact h.h3 _ t ⟨rfl,r,by omega,_,Waa hr,hb,ht⟩⟩
theorem C2.fin{l:List En}{AL:List Ar}{i j:Int}{A:Ar}{m:Nm}(h:C2 l AL i A j m)(hj:(A.2.1.length:Int)<=j)(i0:0<=i)(hA:AL[i.toNat]?=some A):C1 l AL (i+1) m:=⟨h.ok,fun n t h'=>by
 obtain⟨q,hq,y,hy,hn,e,he,hb,ht⟩:=h';rcases Wa4 (q:Int) i with hlt|hge
 ·exact h.h1 n t ⟨q,hlt,y,hy,hn,e,he,hb,ht⟩
 ·have:q=i.toNat:=by omega
  subst this;rw[hA]at hy;cases hy;obtain⟨r,hr,rfl⟩:=WaM hn;exact h.h2 _ t ⟨r,by omega,Waa hr,e,he,hb,ht⟩⟩
theorem C1.fin{l:List En}{AL:List Ar}{i:Int}{m:Nm}(h:C1 l AL i m)(hi:(AL.length:Int)<=i){a:Dv}(hAL:AL=aq 13 a):Hv m (RB l a):=fun n t h'=>by
 obtain⟨y,hy,hn,e,he,hb,ht⟩:=h';rw[<-hAL]at hy;obtain⟨q,hq,rfl⟩:=WaM hy;exact h.h1 n t ⟨q,by omega,_,Waa hq,hn,e,he,hb,ht⟩
structure CM (l:List En) (a:Dv) (ML:List Mv) (i:Int) (m:Nm):Prop where
 ok:DR m
 hb:Hv m (RB l a)
 hc:Hv m (RC l ML i)
theorem qgB{l:List En}{ML:List Mv}{m:Nm}:Hv m (RC l ML 0):=fun n t h=>by obtain⟨q,hq,_⟩:=h;omega
theorem CM.fin{l:List En}{a:Dv}{ML:List Mv}{i:Int}{m:Nm}(h:CM l a ML i m)(hi:(ML.length:Int)<=i):Hv m (RC l ML (ML.length:Int)):=fun n t h'=>by
 obtain⟨q,hq,g⟩:=h';exact h.hc n t ⟨q,by omega,g⟩
theorem Vc{a:Dv}(ha:GoodN 13 a){x:Ar}(hx:x∈aq 13 a):x.2.1.length<=4:=by
 obtain⟨i,hi,ei⟩:=rM hx;have:=(fj.1 (ha.sub hi).2).2.2
 rw[ei]at this;exact this
theorem CM.le{l:List En}{a:Dv}{ML:List Mv}{i:Int}{m m':Nm}(h:CM l a ML i m)(hk:DR m')(hl:AW m m'):CM l a ML i m':=⟨hk,h.hb.le hl,h.hc.le hl⟩
structure wO (l:List En) (b:dQ) (F:Int) (m0:Nm) (k:Int) (m:Nm) (o:List It):Prop where
 ok:DR m
 le:AW m0 m
 st:ni eK k.toNat o
 all:∀r:Nat,(r:Int)<k->∀e,l[r]?=some e->cR b (AN e)=true->Ng m0 F (dS e)=true->qkl eK o (dS e)
theorem wO.zero{l:List En}{b:dQ}{F:Int}{m:Nm}(h:DR m):wO l b F m 0 m []:=⟨h,AW.refl m,ni.nil,fun r hr=>absurd hr (by omega)⟩
theorem wO.skip{l:List En}{b:dQ}{F k:Int}{m0 m m':Nm}{o:List It}(h:wO l b F m0 k m o)(k0:0<=k){e:En}(he:l[k.toNat]?=some e)(hok:DR m')(hle:AW m m')(hn:cR b (AN e)=true->Ng m0 F (dS e)=false):wO l b F m0 (k+1) m' o:=
 ⟨hok,h.le.trans hle,h.st.le (by omega),fun r hr e' he' hb hi=>by
   rcases Wa4 (r:Int) k with hlt|hge
   ·exact h.all r hlt e' he' hb hi
   ·have:r=k.toNat:=by omega
    subst this;rw[he]at he';cases he';rw[hn hb]at hi;cases hi⟩
theorem wO.add{l:List En}{b:dQ}{F k:Int}{m0 m m':Nm}{o:List It}(h:wO l b F m0 k m o)(k0:0<=k){e:En}(he:l[k.toNat]?=some e)(hok:DR m')(hle:AW m m')(hlen:(dS e).length<=20000)(h1:cJ (jL eK o (dS e)).1 (eK (dS e))=true)(h2:(cD (jL eK o (dS e)).1 (eK (dS e))).getD []=dS e):
 wO l b F m0 (k+1) m' (jL eK o (dS e)).1:=by
 have hst:=h.st.add hlen (MU _);have ek:k.toNat+1=(k+1).toNat:=by omega
 rw[ek]at hst;refine⟨hok,h.le.trans hle,hst,fun r hr e' he' hb hi=>?_⟩
 rcases Wa4 (r:Int) k with hlt|hge
 ·exact qcT (h.all r hlt e' he' hb hi)
 ·have:r=k.toNat:=by omega
  subst this;rw[he]at he';cases he';exact qgh h1 h2
theorem wO.size{l:List En}{b:dQ}{F k:Int}{m0 m:Nm}{o:List It}(h:wO l b F m0 k m o)(hk:k<=28):eA o/\ni eK 28 o:=⟨⟨h.st.ok.1,by have:=h.st.len;omega,h.st.txt⟩,h.st.le (by omega)⟩
def Sel(l:List En)(b:dQ)(F:Int)(m0:Nm)(o:List It):Prop:=∀e∈l,cR b (AN e)=true->Ng m0 F (dS e)=true->qkl eK o (dS e)
theorem wO.fin{l:List En}{b:dQ}{F k:Int}{m0 m:Nm}{o:List It}(h:wO l b F m0 k m o)(hk:(l.length:Int)<=k):Sel l b F m0 o:=fun e he=>by
 obtain⟨r,hr,rfl⟩:=WaM he;exact h.all r (by omega) _ (Waa hr)
theorem qgC{a b:List It}(ha:ni eK 28 a)(hb:ni eK 28 b):lE a b:=⟨ha.ok,hb.ok,ha.len,hb.len,fun it hi=>by
 rcases List.mem_append.1 hi with h|h
 ·exact ha.txt it h
 ·exact hb.txt it h⟩
def RT(N:Int)(c:List It)(j:Int)(n:Int)(t:List Int):Prop:=n=N/\∃q:Nat,(q:Int)<j/\∃it,c[q]?=some it/\t=it.2.1
theorem qgD(N:Int)(c:List It)(m:Nm):Hv m (RT N c 0):=fun n t h=>by obtain⟨_,q,hq,_⟩:=h;omega
theorem qdw{N j:Int}{c:List It}{m m':Nm}(h:Hv m (RT N c j))(j0:0<=j){it:It}(hi:c[j.toNat]?=some it)(h2:AW m m')(h3:0<=eY m' N):Hv (ko m' (eY m' N) it.2.1) (RT N c (j+1)):=fun n t h'=>by
 have hle:=h2.trans (MT (m:=m') (eY m' N) it.2.1);obtain⟨hn,q,hq,it',hi',ht⟩:=h';rcases Wa4 (q:Int) j with hlt|hge
 ·exact hle n t (h n t ⟨hn,q,hlt,it',hi',ht⟩)
 ·have:q=j.toNat:=by omega
  subst this;rw[hi]at hi';cases hi';rw[hn,ht];exact qcS h3 _
theorem CM.move{l:List En}{a b:Dv}(E:Nb l a b){ML:List Mv}(hML:ML=gj 13 a b){i j:Int}{m0 m:Nm}{mv:Mv}{one c:List It}(h0:CM l a ML i m0)(i0:0<=i)(Ec:ML[i.toNat]?=some mv)(h:CM l a ML i m)(hj:(c.length:Int)<=j)(ht:Hv m (RT mv.2.2.1 c j))
 (hs:Sel l mv.1 (mv.2.1.getD 0 0) m0 one) (hc:∀it∈one,it∈c):CM l a ML (i+1) m:=⟨h.ok,h.hb,fun n t h'=>by
 obtain⟨q,hq,mv',hm',hn,e,he,hb,hte⟩:=h';rcases Wa4 (q:Int) i with hlt|hge
 ·exact h.hc n t ⟨q,hlt,mv',hm',hn,e,he,hb,hte⟩
 ·have:q=i.toNat:=by omega
  subst this;rw[Ec]at hm';cases hm';have hmem:mv∈gj 13 a b:=by rw[<-hML];exact WaE Ec
  have h1:=hs e he hb (qdv E h0.hb hmem he hb);obtain⟨r,hr,e2⟩:=WaM (hc _ h1);rw[hn,hte];exact ht _ _ ⟨rfl,r,by omega,_,Waa hr,by rw[e2]⟩⟩
end Go.PL
namespace Go.Proofs.YtobfmplofoofkaaGreatDoor
open Go.AM Go.PL
attribute [local irreducible] aW cz
theorem qhK:jK bs.P tGa:=⟨qfw,qbS,qbN,trivial⟩
theorem Yv:au GA0:=az qhK trivial
theorem qdx:Sat bs.P 21 R6:=bq Yv (fun x=>qfA x.1 x.2) fun (x:List En×Int) hk hp=>by
 delta GH IR LP NX SD SP eI ln z0 z1;dsimp only
 obtain⟨l,m⟩:=x;have hl:l.length<=9223372036854775807:=hk.1.1;dsimp only;refine⟨fun h=>?_,fun h=>?_⟩
 ·rw[decide_eq_false (show ¬((l.length:Int)<=m) by have:=dt h;omega),Bool.false_and]
 ·rw[decide_eq_true (show (l.length:Int)<=m by have:=df h;omega),Bool.true_and]
  obtain⟨z,hz⟩:∃z:En,z=((0:Int),(0:Int),(0:Int),(0:Int),(0:Int),(0:Int),(0:Int),[],[],()):=⟨_,rfl⟩
  rw[<-hz];clear hz
  refine⟨fun x=>0<=x/\x<=l.length/\∀k:Nat,(k:Int)<x->iL (l.getD k z)=true,fun x=>(l.length-x).toNat,⟨Waz _,by omega,fun k hk=>absurd hk (by omega)⟩,?_⟩
  rintro x ⟨x0,x1,x2⟩
  refine⟨fun h=>?_,fun h=>?_⟩
  ·have h:=dt h;refine⟨⟨x0,h⟩,trivial,fun hb=>?_,fun hb=>?_⟩
   ·symm
    rw[List.all_eq_false];refine⟨l.getD x.toNat z,?_,by simpa using hb⟩
    rw[Wab,Waa (by omega)]
    exact WaJ _
   ·refine⟨iC x0 h hl,⟨by omega,by omega,fun k hk=>?_⟩,by dsimp only;omega⟩
    rcases Wa4 (k:Int) x with hlt|hge
    ·exact x2 k hlt
    ·have:k=x.toNat:=by omega
     subst this;simpa using hb
  ·have h:=df h;symm
   rw[Wau];intro e he;obtain⟨k,hk,rfl⟩:=WaM he;have:=x2 k (by omega)
   rw[Wab,Waa hk]at this;exact this
theorem Yw:au GA1:=az ⟨qdx,qhK⟩ trivial
theorem qdy:Sat bs.P 4 R7:=bq Yw (fun x=>qfB x.1 x.2) fun (x:Sc×List En) hk hp=>by
 refine⟨trivial,fun h=>⟨trivial,fun h2=>⟨trivial,?_⟩,fun h2=>?_⟩,fun h=>?_⟩
 ·rw[h,h2];rfl
 ·rw[h,h2];rfl
 ·rw[h];rfl
end Go.Proofs.YtobfmplofoofkaaGreatDoor
namespace Go.PL
open Go.AM
theorem ni.size{i:Nat}{s:List It}(h:ni eK i s)(hi:i<=900):eA s:=⟨h.ok.1,by have:=h.len;omega,h.txt⟩
theorem AO{m m':Nm}{n:Int}{t:List Int}(h:AW m m')(hf:Ng m' n t=false):Ng m n t=false:=by
 cases e:Ng m n t with
 |false=>rfl
 |true=>rw[h n t e]at hf;cases hf
theorem blk{b:Bool}{Z W:Prop}(hZ:b=true->Z)(hW:b=false->W):((b=true->(Z/\Z)/\Z)/\(b=false->(W/\W)/\W))/\((b=true->(Z/\Z)/\Z)/\(b=false->(W/\W)/\W))/\(b=true->Z/\Z)/\(b=false->W/\W):=
 ⟨⟨fun h=>⟨⟨hZ h,hZ h⟩,hZ h⟩,fun h=>⟨⟨hW h,hW h⟩,hW h⟩⟩,⟨fun h=>⟨⟨hZ h,hZ h⟩,hZ h⟩,fun h=>⟨⟨hW h,hW h⟩,hW h⟩⟩,fun h=>⟨hZ h,hZ h⟩,fun h=>⟨hW h,hW h⟩⟩
theorem qdz{s:Sc}(h:nF s=0):1<=s.1/\s.1<=32:=by
 unfold nF at h;split at h
 ·exact absurd h (by decide)
 ·omega
theorem dup{Z:Prop}(h:Z):Z/\Z:=⟨h,h⟩
end Go.PL
namespace Go.Proofs.YtobfmplofoofkaaGreatDoor
open Go.AM Go.PL
attribute [local irreducible] aW cz
theorem Yx{a b:List It}(h:lE a b)(hn:¬∃c,kR Hx eK a b=((c,c),true)):True/\(true=true->AI a b/\(nR Hx a b=true->true=true)/\(nR Hx a b=false->AI b a/\nR Hx b a=true))/\(true=false->false=true):=by
 obtain⟨oa,ob,la,lb,_⟩:=h;have ha:a.length<=900:=by omega
 have hb:b.length<=900:=by omega
 refine⟨trivial,fun _=>⟨⟨ha,hb⟩,fun _=>rfl,fun hf=>⟨⟨hb,ha⟩,?_⟩⟩,fun h=>by cases h⟩
 rcases qe8 oa ob la lb hn with g|g
 ·rw[hf]at g;cases g
 ·exact g
theorem Yy:au MW0:=az ⟨UZ,PE 13,qcA 13,HS,Ke Kh,trivial⟩ trivial
theorem qnM:bytesOf {data:=#[(120:UInt8)]}=[120]:=by kernel_rfl
theorem Yz:Sat bs.P 5 qhI:=bq Yy (fun x=>qdo) fun (x:Unit) hk hp=>by
 rw[qnM,qkv];dsimp only;rw[qkw,qnu];dsimp only;rw[qko];exact⟨by omega,Va.good,⟨⟨List.Pairwise.nil,by decide,fun it hi=>by cases hi⟩,by omega⟩,qhB,rfl,rfl,rfl,Vb.good.pre,rfl,Vb.good.pre,rfl,rfl,⟨by omega,by omega⟩,rfl,⟨by omega,by omega⟩,⟨by omega,by decide⟩,rfl⟩
end Go.Proofs.YtobfmplofoofkaaGreatDoor
namespace Go.Proofs.YtobfmplofoofkaaGreatDoor
open Go.AM Go.PL
attribute [local irreducible] aW cz
noncomputable def KCs:Ctx:=bA bs [] [] Tb
theorem YC(p:Px)(b:Bool):aW KCs 6 53 MZ (p,b)=(aa (p.2.1+z1)/\SP b ((z8≠z0/\aa (p.2.1.tdiv z8))/\(z8≠z0/\aa (p.2.1.tdiv z8))/\(z0<=p.2.1.tdiv z8
 /\p.2.1.tdiv z8<uR)/\z8≠z0/\(z0<=p.2.1.tmod z8/\p.2.1.tmod z8<=z8)/\(z0<=p.2.1.tdiv z8/\p.2.1.tdiv z8<uR)/\([p.1.getD y0 z0,p.1.getD y1 z0,p.1.getD y2 z0,p.1.getD y3 z0,
 p.1.getD y4 z0,p.1.getD y5 z0,p.1.getD y6 z0,p.1.getD y7 z0,p.1.getD y8 z0,p.1.getD y9 z0,p.1.getD ya z0,p.1.getD BJ z0,p.1.getD zW z0,p.1.getD kD z0,p.1.getD BK z0,p.1.getD
 BL z0].set (p.2.1.tdiv z8).toNat (IntKind.u8.wrap ([p.1.getD y0 z0,p.1.getD y1 z0,p.1.getD y2 z0,p.1.getD y3 z0,p.1.getD y4 z0,p.1.getD y5 z0,p.1.getD y6 z0,p.1.getD y7 z0,p.1.getD
 y8 z0,p.1.getD y9 z0,p.1.getD ya z0,p.1.getD BJ z0,p.1.getD zW z0,p.1.getD kD z0,p.1.getD BK z0,p.1.getD BL z0].getD (p.2.1.tdiv z8).toNat z0+(128:Int) / z2 ^ (p.2.1.tmod
 z8).toNat)),p.2.1+z1,())=half p b) (([p.1.getD y0 z0,p.1.getD y1 z0,p.1.getD y2 z0,p.1.getD y3 z0,p.1.getD y4 z0,p.1.getD y5 z0,p.1.getD y6 z0,p.1.getD y7 z0,p.1.getD y8 z0,
 p.1.getD y9 z0,p.1.getD ya z0,p.1.getD BJ z0,p.1.getD zW z0,p.1.getD kD z0,p.1.getD BK z0,p.1.getD BL z0],p.2.1+z1,())=half p b)):=by kernel_rfl
theorem YD:au KCs:=az trivial trivial
theorem YE:Sat bs.P 53 MZ:=bq YD (fun x=>YC x.1 x.2) fun (x:Px×Bool) hk hp=>by
 delta SP y0 y1 ya BJ zW kD BK BL y2 y3 y4 y5 y6 y7 y8 y9 z0 z1 uR z2 z8
 obtain⟨⟨d,n,⟨⟩⟩,b⟩:=x;obtain⟨hr,hl⟩:bQ (d,n,())=true/\n<128:=hp
 have hd:aV d:=gL hk.1.1;obtain⟨⟨n0,n1⟩,hm⟩:=fC.1 hr;have n0:0<=n:=n0;have hm:cG d n.toNat=d:=hm;have e1:n.tdiv 8=n / 8:=Wbw n0;have e2:n.tmod 8=n % 8:=WaI n0;dsimp only;rw[nG hd.1,e1,e2];refine⟨bP (by omega) (by omega),fun hb=>?_,fun hb=>?_⟩
 ·subst hb;have f1:(n / 8).toNat=n.toNat / 8:=by omega
  have f2:(n % 8).toNat=n.toNat % 8:=by omega
  refine⟨⟨by decide,bP (by omega) (by omega)⟩,⟨by decide,bP (by omega) (by omega)⟩,⟨by omega,by omega⟩,by decide,⟨by omega,by omega⟩,⟨by omega,by omega⟩,?_⟩
  rw[f1,f2];have h4:=congrArg (fun l=>l.getD (n.toNat / 8) 0) hm
  simp only[b9 _ _ _ (show n.toNat / 8<16 by omega)]at h4
  rw[show min (n.toNat-8*(n.toNat / 8)) 8=n.toNat % 8 by omega]at h4
  have hw:IntKind.u8.wrap (d.getD (n.toNat / 8) 0+128 / 2 ^ (n.toNat % 8))=d.getD (n.toNat / 8) 0+128 / 2 ^ (n.toNat % 8):=by
   obtain⟨c,hc,ec⟩:=jX (iw hd (n.toNat / 8));rw[ec]at h4 ⊢;exact qcX c hc _ (List.mem_range.2 (Wcg _ (by decide))) h4
  rw[hw];rfl
 ·subst hb;rfl
noncomputable def KDs:Ctx:=bA bs [(104,AG),(105,AH),(106,MX)] [] Tb
abbrev Dz:Type:=Int×List (List Int)×Int×(List Int×Int×Unit)×List Int×Int×List (List Int)×List Int×Unit
theorem qdA(s:List It)(p:Px):aW KDs 6 52 S9 ((s,()),p)=(S8 s p/\LP (τ:=Dz) (z0,eL,z0,([z0,z0,z0,z0,z0,z0,z0,z0,z0,z0,z0,z0,z0,z0,z0,
 z0],z0,()),[z0,z0,z0,z0,z0,z0,z0,z0,z0,z0,z0,z0,z0,z0,z0,z0],z0,eL,bytesOf {data:=#[]},()) fun I μ x=>SD (x.1<(ln (aA (ai s p)))) ((IR x.1 (aA
 (ai s p)))/\True/\aM KDs y9 (x.2.1.length+[(aA (ai s p)).getD x.1.toNat (List.replicate qg z0)].length)/\aa (x.1+z1)/\NX I μ x (x.1+z1,x.2.1++[(aA
 (ai s p)).getD x.1.toNat (List.replicate qg z0)],x.2.2)) (sY x.2.1/\(z1,([p.1.getD y0 z0,p.1.getD y1 z0,p.1.getD y2 z0,p.1.getD y3 z0,p.1.getD y4 z0,p.1.getD y5 z0,
 p.1.getD y6 z0,p.1.getD y7 z0,p.1.getD y8 z0,p.1.getD y9 z0,p.1.getD ya z0,p.1.getD BJ z0,p.1.getD zW z0,p.1.getD kD z0,p.1.getD BK z0,p.1.getD BL z0],p.2.1,()),[(iq OO
 x.2.1).getD y0 z0,(iq OO x.2.1).getD y1 z0,(iq OO x.2.1).getD y2 z0,(iq OO x.2.1).getD y3 z0,(iq OO x.2.1).getD y4 z0,(iq OO x.2.1).getD y5 z0,(iq OO x.2.1).getD y6 z0,
 (iq OO x.2.1).getD y7 z0,(iq OO x.2.1).getD y8 z0,(iq OO x.2.1).getD y9 z0,(iq OO x.2.1).getD ya z0,(iq OO x.2.1).getD BJ z0,(iq OO x.2.1).getD zW z0,(iq OO
 x.2.1).getD kD z0,(iq OO x.2.1).getD BK z0,(iq OO x.2.1).getD BL z0],(ln (aA (ai s p))),eL,bytesOf {data:=#[]},())=aP Hx s p)):=by kernel_rfl
theorem YF:au KDs:=az ⟨HR,Dr,Qa,trivial⟩ trivial
theorem qdB:Sat bs.P 52 S9:=bq YF (fun x=>qdA x.1.1 x.2) fun (x:Sk×Px) hk hp=>by
 delta Dz IR LP NX SD eL ln y0 y1 ya BJ zW kD BK BL qg y2 y3 y4 y5 y6 y7 y8 y9 z0 z1 OO;dsimp only
 obtain⟨⟨s,⟨⟩⟩,p⟩:=x;obtain⟨hl,hr⟩:s.length<=900/\bQ p=true:=hp
 have hok:=M3 hk.1.1;have VY:aV p.1:=gL hk.2.1;obtain⟨N,hN⟩:∃N,N=aA (ai s p):=⟨_,rfl⟩
 have hNl:N.length<=900:=by
  rw[hN];unfold aA ai;rw[Wav];exact Wbj (WaF _ _) hl
 have hN2:N.length=(ai s p).length:=by rw[hN];exact Wav _
 have h16:∀d∈N,d.length=16:=fun d hd=>by
  rw[hN]at hd;obtain⟨it,h1,rfl⟩:=List.mem_map.1 hd;exact (hok it (List.mem_filter.1 h1).1).1
 dsimp only;rw[nG VY.1];simp only[<-hN];obtain⟨z,hz⟩:∃z:List Int,z=List.replicate (16:Nat) (0:Int):=⟨_,rfl⟩
 simp only[<-hz];refine⟨⟨hl,hr⟩,fun x=>0<=x.1/\x.1<=N.length/\x.2.1=N.take x.1.toNat,fun x=>(N.length-x.1).toNat,⟨Waz _,by dsimp only;omega,rfl⟩,?_⟩
 rintro⟨i,l,rest⟩ ⟨i0,i1,i2⟩
 dsimp only at i0 i1 i2 ⊢;subst i2;refine⟨fun h=>?_,fun h=>?_⟩
 ·have h:=dt h;have e1:(i+1).toNat=i.toNat+1:=by omega
  rw[oJ _ _ (by omega)]
  exact⟨⟨i0,h⟩,trivial,Dc 16 U2 (by omega) (by simp only[Waf,Wae,WaB];omega),bP (by omega) (by omega),⟨by omega,by omega,by rw[e1]⟩,by omega⟩
 ·have h:=df h;have e:N.take i.toNat=N:=Wap (by omega)
  rw[e,nG (s7 _ _)];refine⟨⟨by omega,fun d hd=>by rw[h16 d hd];omega⟩,?_⟩
  rw[hN2,hN];rfl
theorem YG:au KP0:=az ⟨HQ,YE,HR,Dr,Qa,qdB,Te,trivial⟩ trivial
def tQ(a b:List It)(it:It):Bool:=match cD b it.1 with
 |some t=>decide (t≠it.2.1)
 |none=>(List.range 129).any fun n=>decide (Hx (aA (ai a (nB it.1 n)))=Hx (aA (ai b (nB it.1 n))))
theorem qdC(a b:List It):nR Hx a b=a.any (tQ a b):=rfl
theorem YH:Sat bs.P 18 M0:=bq YG (fun x=>qc9 x.1.1 x.2.1) fun (x:Sk×Sk) hk hp=>by
 delta Qb Qc Qd qy M1 IR LP NX SD SP eI ln qg z0 z1;dsimp only
 obtain⟨⟨a,⟨⟩⟩,⟨b,⟨⟩⟩⟩:=x;obtain⟨hla,hlb⟩:a.length<=900/\b.length<=900:=hp
 have qqO:=M3 hk.1.1;dsimp only;rw[qdC];obtain⟨z,hz⟩:∃z:It,z=(List.replicate (16:Nat) (0:Int),[],()):=⟨_,rfl⟩
 simp only[<-hz];refine⟨fun x=>0<=x/\x<=a.length/\∀k:Nat,(k:Int)<x->tQ a b (a.getD k z)=false,fun x=>(a.length-x).toNat,⟨Waz _,by omega,fun k hk=>absurd hk (by omega)⟩,?_⟩
 rintro x ⟨x0,x1,x2⟩
 refine⟨fun h=>?_,fun h=>?_⟩
 ·have h:=dt h;have hit:=Cv (l:=a) (k:=x.toNat) (by omega) z
  generalize hI:a.getD x.toNat z=it at hit ⊢
  have hn:=qqO it hit;have yes:tQ a b it=true->true=a.any (tQ a b):=fun e=>by
   symm
   exact List.any_eq_true.2 ⟨it,hit,e⟩
  have next:tQ a b it=false->0<=x+1/\x+1<=a.length/\∀k:Nat,(k:Int)<x+1->tQ a b (a.getD k z)=false:=fun e=>⟨by omega,by omega,fun k hk=>by
   rcases Wa4 (k:Int) x with hlt|hge
   ·exact x2 k hlt
   ·have:k=x.toNat:=by omega
    rw[this,hI];exact e⟩
  have hmu:(fun x:Int=>(a.length-x).toNat) (x+1)<(fun x:Int=>(a.length-x).toNat) x:=by dsimp only;omega
  have hx1:aa (x+1):=bP (by omega) (by omega)
  have inner:cD b it.1=none->∃(wK:Int×Px->Prop) (iS:Int×Px->Nat),wK ((0:Int),[(0:Int),(0:Int),(0:Int),(0:Int),(0:Int),(0:Int),(0:Int),(0:Int),(0:Int),(0:Int),(0:Int),(0:Int),(0:Int),(0:Int),(0:Int),(0:Int)],(0:Int),())/\
   ∀y:Int×Px,wK y->(decide (y.1<=(128:Int))=true->S8 a y.2/\S8 b y.2/\(decide ((aP Hx a y.2).2.2.1=(aP Hx b y.2).2.2.1)=true->true=a.any (tQ a b))/\
    (decide ((aP Hx a y.2).2.2.1=(aP Hx b y.2).2.2.1)=false->
      (decide (y.1<(128:Int))=true->(0<=y.1/\y.1<(128:Int))/\(bQ y.2=true/\y.2.2.1<(128:Int))/\aa (y.1+1)/\wK (y.1+1,half y.2 (og it.1 y.1.toNat))/\iS (y.1+1,half y.2 (og it.1 y.1.toNat))<iS y)/\
      (decide (y.1<(128:Int))=false->aa (y.1+1)/\wK (y.1+1,y.2)/\iS (y.1+1,y.2)<iS y)))/\
    (decide (y.1<=(128:Int))=false->tQ a b it=false):=fun hno=>by
   have ec:tQ a b it=(List.range 129).any fun n=>decide (Hx (aA (ai a (nB it.1 n)))=Hx (aA (ai b (nB it.1 n)))):=by
    unfold tQ;rw[hno]
   refine⟨fun y=>0<=y.1/\y.1<=129/\(y.1<=128->y.2=nB it.1 y.1.toNat)/\∀k:Nat,(k:Int)<y.1->Hx (aA (ai a (nB it.1 k)))≠Hx (aA (ai b (nB it.1 k))),fun y=>(129-y.1).toNat,⟨Waz _,by decide,fun _=>?_,fun k hk=>absurd hk (by dsimp only;omega)⟩,?_⟩
   ·have:=qc0 hn
    dsimp only;show _=nB it.1 0
    rw[this];rfl
   rintro⟨n,p⟩ ⟨n0,n1,n2,n3⟩
   dsimp only at n0 n1 n2 n3 ⊢;refine⟨fun hc=>?_,fun hc=>?_⟩
   ·have hc:=dt hc;have ep:=n2 hc;subst ep;have hpr:=XQ hn (n:=n.toNat) (by omega)
    refine⟨⟨hla,hpr⟩,⟨hlb,hpr⟩,fun he=>?_,fun he=>?_⟩
    ·refine yes ?_
     rw[ec,WcI];exact⟨n.toNat,List.mem_range.2 (by omega),he⟩
    ·have he:=df he;have keep:∀k:Nat,(k:Int)<n+1->Hx (aA (ai a (nB it.1 k)))≠Hx (aA (ai b (nB it.1 k))):=fun k hk=>by
      rcases Wa4 (k:Int) n with hlt|hge
      ·exact n3 k hlt
      ·have:k=n.toNat:=by omega
       rw[this];exact he
     refine⟨fun hd=>?_,fun hd=>?_⟩
     ·have hd:=dt hd;have e1:(n+1).toNat=n.toNat+1:=by omega
      have hn2:(nB it.1 n.toNat).2.1=(n.toNat:Int):=rfl;refine⟨⟨n0,hd⟩,⟨hpr,by rw[hn2];omega⟩,bP (by omega) (by omega),⟨by omega,by omega,fun _=>?_,keep⟩,by omega⟩
      rw[qcZ hn (by omega),e1]
     ·have hd:=df hd;exact⟨bP (by omega) (by omega),⟨by omega,by omega,fun h=>absurd h (by omega),keep⟩,by omega⟩
   ·have hc:=df hc;rw[ec,List.any_eq_false];intro k hk;have:=n3 k (by have:=List.mem_range.1 hk;omega)
    simpa using this
  rcases P5 b it.1 z with ⟨Vu,Qi⟩|⟨hp0,Vu,Qi⟩
  ·have hd:decide ((0:Int)<=gN b it.1)=false:=decide_eq_false (by omega)
   rw[hd];refine⟨⟨x0,h⟩,trivial,fun hc=>absurd hc (by simp),fun _=>⟨fun hc=>absurd hc (by simp),fun _=>?_⟩⟩
   obtain⟨I1,m1,i0,qhL⟩:=inner Qi;refine⟨I1,m1,i0,fun y hy=>⟨fun hc=>?_,fun hc=>⟨hx1,next ((qhL y hy).2 hc),hmu⟩⟩⟩
   obtain⟨g1,g2,g3,g4⟩:=(qhL y hy).1 hc;refine⟨g1,g2,g3,fun he=>⟨fun hd=>?_,fun hd=>?_⟩⟩
   ·obtain⟨k1,k2,k3,k4,k5⟩:=(g4 he).1 hd;refine⟨⟨x0,h⟩,?_⟩
    repeat' first|exact k1|exact k2|exact k3|exact k4|exact k5|apply And.intro
   ·obtain⟨k3,k4,k5⟩:=(g4 he).2 hd;exact⟨k3,k4,k5⟩
  ·have hd:decide ((0:Int)<=gN b it.1)=true:=decide_eq_true hp0;rw[hd];have ec:tQ a b it=decide ((b.getD (gN b it.1).toNat z).2.1≠it.2.1):=by
    unfold tQ;rw[Qi]
   refine⟨⟨x0,h⟩,trivial,fun _=>⟨⟨hp0,Vu⟩,⟨x0,h⟩,fun he=>?_,fun he=>⟨fun _=>⟨hx1,next ?_,hmu⟩,fun hc=>absurd hc (by simp)⟩⟩,fun hc=>absurd hc (by simp)⟩
   ·refine yes ?_
    rw[ec];have he:=nt he;exact decide_eq_true (of_decide_eq_false he)
   ·rw[ec];have he:=nf he;rw[decide_eq_false_iff_not];intro hne;exact hne (of_decide_eq_true he)
 ·have h:=df h;symm
  rw[List.any_eq_false];intro it hi;obtain⟨k,hk,rfl⟩:=WaM hi;have:=x2 k (by omega)
  rw[Wab,Waa hk]at this;simpa using this
end Go.Proofs.YtobfmplofoofkaaGreatDoor
namespace Go.Proofs.YtobfmplofoofkaaGreatDoor
open Go.AM Go.PL
attribute [local irreducible] aW cz
theorem qdD:au (LW0 (wM 13)):=by
 have h:au (bA bs (tLw (wM 13)) [] qdp):=az ⟨qdy,Yz,qft,qf9,mD 13,GS,qbA,Xu 13,Ke Kh,X7,YH,HS,HA,JU,trivial⟩ trivial;exact h
theorem qgE:Sat bs.P 3 (qaZ [SC,.arr EN,.arr CH]):=bq qdD (fun x=>qkA (wM 13) x.1 x.2.1 x.2.2) fun (x:Sc×List En×List Ch) hk hp=>by
 delta wC gO fL oK oL Yl Ki Ym Yn Yo HT Tk p7 p9 yP yQ yR Kj Kk mF gP xu mG Kl Km qC vn qdr vo qds qdt qdu yS yT Tl Tm tv IR LP NX SD SP eI eL ln y0 zW kD qg z0 z1 z12 z2 z28 nj qf z6 TI;dsimp only
 obtain⟨s,l,ch⟩:=x;refine⟨trivial,fun _=>⟨trivial,rfl⟩,fun hf=>⟨fun _=>⟨trivial,rfl⟩,fun hc=>?_⟩⟩
 have hf:=nf hf;have hc:=df hc;dsimp only at hf hc ⊢;simp only[Wac,decide_eq_true_eq,Wau]at hf;obtain⟨-,qkB,hlen,RW⟩:=hf;have hnm:=Yu qkB;have qdE:1<=s.1/\s.1<=32:=qdz qkB;refine⟨fun x=>0<=x/\∀q:Nat,(q:Int)<x->∀e,l[q]?=some e->iD s e=0,fun x=>(l.length-x).toNat,⟨Waz _,fun q hq=>absurd hq (by omega)⟩,?_⟩
 rintro i ⟨i0,hI⟩
 refine⟨fun hi=>?_,fun hi=>?_⟩
 ·have hi:=dt hi;have he:l[i.toNat]?=some (l.getD i.toNat _):=getD_some (by omega) ((0:Int),(0:Int),(0:Int),(0:Int),(0:Int),(0:Int),(0:Int),[],[],())
  refine⟨⟨i0,hi⟩,hnm,fun _=>⟨trivial,rfl⟩,fun h0=>⟨gT (by omega) (by omega),⟨by omega,fun q hq e h=>?_⟩,by (try dsimp only);omega⟩⟩
  rcases Wa4 (q:Int) i with hlt|hge
  ·exact hI q hlt e h
  ·have:q=i.toNat:=by omega
   subst this;rw[he]at h;cases h;exact dt (nf h0)
 have hi:=df hi;have hent:∀e∈l,iD s e=0:=fun e he=>by
  obtain⟨r,hr,rfl⟩:=WaM he;exact hI r (by omega) _ (Waa hr)
 refine⟨⟨qdE.1,qdE.2,by omega⟩,fun h=>(by cases h),fun _=>?_⟩
 obtain⟨da,db⟩:=qf8 qdE.1 qdE.2 ch (by omega)
 have E:Nb l (wM 13 s.1 ch).1 (wM 13 s.1 ch).2:=⟨da.good,db.good,by rw[da.dim,db.dim],by omega,fun e he=>qfv (RW e he),fun e he=>by rw[da.dim];exact qgz (hent e he)⟩
 revert E
 generalize (wM 13 s.1 ch).1=a
 generalize (wM 13 s.1 ch).2=b
 intro E;clear hI hent da db qkB RW hc hnm qdE
 have hlen':l.length<=28:=E.ll;have hAl:(aq 13 a).length<=64:=by rw[jw];exact E.ga.Iw
 have hBl:(aq 13 b).length<=64:=by rw[jw];exact E.gb.Iw
 have hPM:qf1 13 a b:=Yt E.ga E.gb;refine⟨E.ga.pre,fun x=>0<=x.1/\x.1<=((aq 13 a).length:Int)/\a=x.2.1/\b=x.2.2.1/\C1 l (aq 13 a) x.1 x.2.2.2,fun x=>((aq 13 a).length-x.1).toNat,⟨Waz _,by (try dsimp only);omega,rfl,rfl,C1.zero⟩,?_⟩
 rintro⟨i,d0,d1,m⟩ ⟨i0,i1,qR,pz,h1⟩
 dsimp only at i0 i1 qR pz h1 ⊢;subst qR;subst pz;refine⟨fun hi=>?_,fun hi=>?_⟩
 ·have hi:=dt hi;obtain⟨A,hA⟩:∃A,A=(aq 13 a).getD i.toNat (([],[],()),[],()):=⟨_,rfl⟩
  have hAs:(aq 13 a)[i.toNat]?=some A:=by rw[hA];exact getD_some (by omega) _
  rw[<-hA];have hol:A.2.1.length<=4:=Vc E.ga (WaE hAs);refine⟨⟨i0,hi⟩,fun x=>0<=x.1/\x.1<=(A.2.1.length:Int)/\a=x.2.1/\b=x.2.2.1/\A=x.2.2.2.2/\C2 l (aq 13 a) i A x.1 x.2.2.2.1,fun x=>(A.2.1.length-x.1).toNat,⟨Waz _,by (try dsimp only);omega,rfl,rfl,rfl,h1.start A⟩,?_⟩
  rintro⟨j,d0,d1,m,A'⟩ ⟨j0,j1,qR,pz,hA',h2⟩
  dsimp only at j0 j1 qR pz hA' h2 ⊢;subst qR;subst pz;subst hA';refine⟨fun hj=>?_,fun hj=>?_⟩
  ·have hj:=dt hj;obtain⟨N,hN⟩:∃N,N=A.2.1.getD j.toNat 0:=⟨_,rfl⟩
   have hNs:A.2.1[j.toNat]?=some N:=by rw[hN];exact getD_some (by omega) _
   rw[<-hN];refine⟨⟨j0,hj⟩,fun x=>0<=x.1/\x.1<=(l.length:Int)/\a=x.2.1/\b=x.2.2.1/\A=x.2.2.2.2/\C3 l (aq 13 a) i A j N x.1 x.2.2.2.1,fun x=>(l.length-x.1).toNat,⟨Waz _,by (try dsimp only);omega,rfl,rfl,rfl,h2.start N⟩,?_⟩
   rintro⟨k,d0,d1,m,A'⟩ ⟨k0,k1,qR,pz,hA',h3⟩
   dsimp only at k0 k1 qR pz hA' h3 ⊢;subst qR;subst pz;subst hA';refine⟨fun hk=>?_,fun hk=>?_⟩
   ·have hk:=dt hk;obtain⟨e,hE⟩:∃e,e=l.getD k.toNat ((0:Int),(0:Int),(0:Int),(0:Int),(0:Int),(0:Int),(0:Int),[],[],()):=⟨_,rfl⟩
    have he:l[k.toNat]?=some e:=by rw[hE];exact getD_some (by omega) _
    rw[<-hE];have hem:=WaE he;refine⟨⟨k0,hk⟩,trivial,fun hb=>dup ⟨fun hn=>⟨dt hn,fun g g0 hg=>?_⟩,fun hn=>?_⟩,fun hb=>⟨gT (by omega) (by omega),⟨by (try dsimp only);omega,by (try dsimp only);omega,rfl,rfl,rfl,h3.skip k0 he hb⟩,by (try dsimp only);omega⟩⟩
    ·have q3:0<=eY (m++[(N,g,[])]) N:=by rw[HF h3.ok (dt hn)];exact g0
     exact⟨E.Iw e hem,nM q3,gT (by omega) (by omega),⟨by (try dsimp only);omega,by (try dsimp only);omega,rfl,rfl,rfl,h3.put k0 he (HE h3.ok g0) (tj h3.ok) q3⟩,by (try dsimp only);omega⟩
    ·have q3:0<=eY m N:=by have:=df hn;omega
     exact⟨E.Iw e hem,nM q3,gT (by omega) (by omega),⟨by (try dsimp only);omega,by (try dsimp only);omega,rfl,rfl,rfl,h3.put k0 he h3.ok (AW.refl m) q3⟩,by (try dsimp only);omega⟩
   ·have hk:=df hk;exact⟨gT (by omega) (by omega),⟨by (try dsimp only);omega,by (try dsimp only);omega,rfl,rfl,rfl,h3.fin (by omega) j0 hNs⟩,by (try dsimp only);omega⟩
  ·have hj:=df hj;exact⟨gT (by omega) (by omega),⟨by (try dsimp only);omega,by (try dsimp only);omega,rfl,rfl,h2.fin (by omega) i0 hAs⟩,by (try dsimp only);omega⟩
 have hi:=df hi;have hRB:Hv m (RB l a):=h1.fin (by omega) rfl
 have qdG:=h1.ok;clear hi h1 i0 i1 hAl
 obtain⟨ML,hML⟩:∃ML,ML=gj 13 a b:=⟨_,rfl⟩
 have hMl:ML.length<=1000000:=by rw[hML];exact hPM.2.2
 rw[<-hML];refine⟨hPM,fun x=>0<=x.1/\x.1<=(ML.length:Int)/\a=x.2.1/\b=x.2.2.1/\CM l a ML x.1 x.2.2.2,fun x=>(ML.length-x.1).toNat,⟨Waz _,by (try dsimp only);omega,rfl,rfl,qdG,hRB,qgB⟩,?_⟩
 clear qdG hRB
 rintro⟨i,d0,d1,m⟩ ⟨i0,i1,qR,pz,h1⟩
 dsimp only at i0 i1 qR pz h1 ⊢;subst qR;subst pz;refine⟨fun hi=>?_,fun hi=>?_⟩
 ·have hi:=dt hi;obtain⟨mv,hV⟩:∃mv,mv=ML.getD i.toNat (([],[],()),[],(0:Int),()):=⟨_,rfl⟩
  have Ec:ML[i.toNat]?=some mv:=by rw[hV];exact getD_some (by omega) _
  rw[<-hV];have hne:mv.2.1≠[]:=Kn E.ga (by rw[<-hML];exact WaE Ec)
  have hnl:0<mv.2.1.length:=List.length_pos_iff.2 hne;refine⟨⟨i0,hi⟩,fun h0=>absurd (dt h0) (by omega),fun _=>⟨⟨Waz _,by omega⟩,?_⟩⟩
  obtain⟨F,hF⟩:∃F,F=mv.2.1.getD 0 0:=⟨_,rfl⟩
  rw[<-hF];refine⟨fun r x=>DR x.2.2.1/\AW m x.2.2.1/\a=x.1/\b=x.2.1/\mv=x.2.2.2/\(r.2=true->ni eK 28 r.1.1/\Sel l mv.1 F m r.1.1),?_,?_⟩
  ·refine⟨fun x=>0<=x.1/\x.1<=(l.length:Int)/\a=x.2.1/\b=x.2.2.1/\mv=x.2.2.2.2.1/\wO l mv.1 F m x.1 x.2.2.2.1 x.2.2.2.2.2.2.2,fun x=>(l.length-x.1).toNat,⟨Waz _,by (try dsimp only);omega,rfl,rfl,rfl,wO.zero h1.ok⟩,?_⟩
   rintro⟨k,d0,d1,m1,mv',c6,c7,o⟩ ⟨k0,k1,qR,pz,rN,h3⟩
   dsimp only at k0 k1 qR pz rN h3 ⊢;subst qR;subst pz;subst rN;refine⟨fun hk=>?_,fun hk=>?_⟩
   ·have hk:=dt hk;obtain⟨e,hE⟩:∃e,e=l.getD k.toNat ((0:Int),(0:Int),(0:Int),(0:Int),(0:Int),(0:Int),(0:Int),[],[],()):=⟨_,rfl⟩
    have he:l[k.toNat]?=some e:=by rw[hE];exact getD_some (by omega) _
    rw[<-hE];have hem:=WaE he;have hfe:=E.Iw e hem;have hel:=O5 hfe;refine⟨⟨k0,hk⟩,trivial,fun hb=>⟨gT (by omega) (by omega),⟨by (try dsimp only);omega,by (try dsimp only);omega,rfl,rfl,rfl,h3.skip k0 he h3.ok (AW.refl _) fun hb'=>?_⟩,by (try dsimp only);omega⟩,fun hb=>?_⟩
    ·have hb:=nt hb;have hb':cR mv.1 e.2.2.2.2.2.2.2.1=true:=hb';rw[hb]at hb';cases hb'
    refine⟨fun r x=>DR x.2.2.1/\AW m1 x.2.2.1/\a=x.1/\b=x.2.1/\mv=x.2.2.2.1/\o=x.2.2.2.2.2.2.1/\e=x.2.2.2.2.2.2.2/\(r=false->Ng m F (PL.dS e)=false),⟨fun hn=>⟨dt hn,fun g g0 hg=>?_⟩,fun hn=>?_⟩,?_⟩
    ·have q3:0<=eY (m1++[(F,g,[])]) F:=by rw[HF h3.ok (dt hn)];exact g0
     exact⟨hfe,.inr (nM q3),HE h3.ok g0,tj h3.ok,rfl,rfl,rfl,rfl,rfl,fun hr=>AO (h3.le.trans (tj h3.ok)) hr⟩
    ·have q3:0<=eY m1 F:=by have:=df hn;omega
     exact⟨hfe,.inr (nM q3),h3.ok,AW.refl _,rfl,rfl,rfl,rfl,rfl,fun hr=>AO h3.le hr⟩
    rintro r ⟨d0,d1,m2,mv',c6',c7',o',e'⟩ ⟨hok,hle,qR,pz,rN,ho',he',hr⟩
    dsimp only at hok hle qR pz rN ho' he' hr ⊢;subst qR;subst pz;subst rN;subst ho';subst he';refine⟨fun Ee=>⟨gT (by omega) (by omega),⟨by (try dsimp only);omega,by (try dsimp only);omega,rfl,rfl,rfl,h3.skip k0 he hok hle fun _=>hr (nt Ee)⟩,by (try dsimp only);omega⟩,fun TU=>?_⟩
    have hst:=h3.st.add hel (MU (PL.dS e));refine⟨hfe,⟨h3.st.size (by omega),hel⟩,by omega,hst.size (by omega),fun _=>⟨hok,h3.le.trans hle,rfl,rfl,rfl,fun h=>(by cases h)⟩,fun hh=>⟨fun _=>⟨hok,h3.le.trans hle,rfl,rfl,rfl,fun h=>(by cases h)⟩,fun ht=>⟨gT (by omega) (by omega),⟨by (try dsimp only);omega,by (try dsimp only);omega,rfl,rfl,rfl,h3.add k0 he hok hle hel (nf hh) (dt (nf ht))⟩,by (try dsimp only);omega⟩⟩⟩
   ·have hk:=df hk;exact⟨h3.ok,h3.le,rfl,rfl,rfl,fun _=>⟨(h3.size (by omega)).2,h3.fin (by omega)⟩⟩
  rintro⟨⟨one,⟨⟩⟩,r0⟩ ⟨d0,d1,m1,mv'⟩ ⟨qdG,qkC,qR,pz,rN,hone⟩
  dsimp only at qdG qkC qR pz rN hone ⊢;subst qR;subst pz;subst rN;refine⟨fun r x=>DR x.2.2.1/\AW m x.2.2.1/\a=x.1/\b=x.2.1/\mv=x.2.2.2.1/\one=x.2.2.2.2/\(r.2=true->ni eK 28 r.1.1),?_,?_⟩
  ·obtain⟨T,hT⟩:∃T,T=mv.2.2.1:=⟨_,rfl⟩
   rw[<-hT];refine⟨fun x=>0<=x.1/\x.1<=(l.length:Int)/\a=x.2.1/\b=x.2.2.1/\mv=x.2.2.2.2.1/\one=x.2.2.2.2.2.1/\wO l mv.1 T m1 x.1 x.2.2.2.1 x.2.2.2.2.2.2.2.2,fun x=>(l.length-x.1).toNat,⟨Waz _,by (try dsimp only);omega,rfl,rfl,rfl,rfl,wO.zero qdG⟩,?_⟩
   rintro⟨k,d0,d1,m2,mv',one',c6,c7,o⟩ ⟨k0,k1,qR,pz,rN,wX,h3⟩
   dsimp only at k0 k1 qR pz rN wX h3 ⊢;subst qR;subst pz;subst rN;subst wX;refine⟨fun hk=>?_,fun hk=>?_⟩
   ·have hk:=dt hk;obtain⟨e,hE⟩:∃e,e=l.getD k.toNat ((0:Int),(0:Int),(0:Int),(0:Int),(0:Int),(0:Int),(0:Int),[],[],()):=⟨_,rfl⟩
    have he:l[k.toNat]?=some e:=by rw[hE];exact getD_some (by omega) _
    rw[<-hE];have hem:=WaE he;have hfe:=E.Iw e hem;have hel:=O5 hfe;refine⟨⟨k0,hk⟩,trivial,fun hb=>⟨gT (by omega) (by omega),⟨by (try dsimp only);omega,by (try dsimp only);omega,rfl,rfl,rfl,rfl,h3.skip k0 he h3.ok (AW.refl _) fun hb'=>?_⟩,by (try dsimp only);omega⟩,fun hb=>?_⟩
    ·have hb:=nt hb;have hb':cR mv.1 e.2.2.2.2.2.2.2.1=true:=hb';rw[hb]at hb';cases hb'
    refine⟨fun r x=>DR x.2.2.1/\AW m2 x.2.2.1/\a=x.1/\b=x.2.1/\mv=x.2.2.2.1/\one=x.2.2.2.2.1/\o=x.2.2.2.2.2.2.2.1/\e=x.2.2.2.2.2.2.2.2/\(r=false->Ng m1 T (PL.dS e)=false),⟨fun hn=>⟨dt hn,fun g g0 hg=>?_⟩,fun hn=>?_⟩,?_⟩
    ·have q3:0<=eY (m2++[(T,g,[])]) T:=by rw[HF h3.ok (dt hn)];exact g0
     exact⟨hfe,.inr (nM q3),HE h3.ok g0,tj h3.ok,rfl,rfl,rfl,rfl,rfl,rfl,fun hr=>AO (h3.le.trans (tj h3.ok)) hr⟩
    ·have q3:0<=eY m2 T:=by have:=df hn;omega
     exact⟨hfe,.inr (nM q3),h3.ok,AW.refl _,rfl,rfl,rfl,rfl,rfl,rfl,fun hr=>AO h3.le hr⟩
    rintro r ⟨d0,d1,m3,mv',one',c6',c7',o',e'⟩ ⟨hok,hle,qR,pz,rN,wX,ho',he',hr⟩
    dsimp only at hok hle qR pz rN wX ho' he' hr ⊢;subst qR;subst pz;subst rN;subst wX;subst ho';subst he';refine⟨fun Ee=>⟨gT (by omega) (by omega),⟨by (try dsimp only);omega,by (try dsimp only);omega,rfl,rfl,rfl,rfl,h3.skip k0 he hok hle fun _=>hr (nt Ee)⟩,by (try dsimp only);omega⟩,fun TU=>?_⟩
    have hst:=h3.st.add hel (MU (PL.dS e));have qdH:AW m m3:=qkC.trans (h3.le.trans hle);refine⟨hfe,⟨h3.st.size (by omega),hel⟩,by omega,hst.size (by omega),fun _=>⟨hok,qdH,rfl,rfl,rfl,rfl,fun h=>(by cases h)⟩,fun hh=>⟨fun _=>⟨hok,qdH,rfl,rfl,rfl,rfl,fun h=>(by cases h)⟩,fun ht=>⟨gT (by omega) (by omega),⟨by (try dsimp only);omega,by (try dsimp only);omega,rfl,rfl,rfl,rfl,h3.add k0 he hok hle hel (nf hh) (dt (nf ht))⟩,by (try dsimp only);omega⟩⟩⟩
   ·have hk:=df hk;exact⟨h3.ok,qkC.trans h3.le,rfl,rfl,rfl,rfl,fun _=>(h3.size (by omega)).2⟩
  rintro⟨⟨two,⟨⟩⟩,r1⟩ ⟨d0,d1,m2,mv',one'⟩ ⟨qnN,qdH,qR,pz,rN,wX,qnO⟩
  dsimp only at qnN qdH qR pz rN wX qnO ⊢;subst qR;subst pz;subst rN;subst wX;refine⟨fun _=>⟨trivial,rfl⟩,fun Ee=>⟨fun _=>⟨trivial,rfl⟩,fun TU=>?_⟩⟩
  have qnP:r0=true:=nf Ee;have qiT:r1=true:=nf TU;have NH:=(hone qnP).1;have hsel:=(hone qnP).2;have hmp:=qgC NH (qnO qiT);have hcg:=Yx hmp;have hks:=(sV (H:=Hx) (nm:=eK) 5001 one two [(1,aP Hx one root)]).1;have hks:∀x∈one,x∈(kR Hx eK one two).1.1:=hks;have hmo:=(P2 hmp).2.len;have qut:(one++two).length<=56:=by rw[Wad];have:=hmp.2.2.1;have:=hmp.2.2.2.1;omega
  refine⟨hmp,?_⟩
  revert hcg hks hmo
  generalize kR Hx eK one two=R
  revert R
  rintro⟨⟨c1,c⟩,rb⟩ hcg hks hmo
  dsimp only[Dh]at hks hmo ⊢
  refine⟨fun hm=>hcg ?_,fun hm=>?_⟩
  ·rintro⟨c',h⟩
   cases h;cases hm
  have hm:=nf hm;refine⟨⟨by omega,by omega⟩,⟨by omega,by omega⟩,trivial,fun hq=>hcg ?_,fun hq=>?_⟩
  ·rintro⟨c',h⟩
   cases h;exact absurd rfl (df (nt hq))
  have hq:=dt (nf hq);rw[hq]at hks;refine⟨⟨by omega,by omega⟩,fun x=>0<=x.1/\x.1<=(c.length:Int)/\a=x.2.1/\b=x.2.2.1/\mv=x.2.2.2.2/\CM l a ML i x.2.2.2.1/\Hv x.2.2.2.1 (RT mv.2.2.1 c x.1),fun x=>(c.length-x.1).toNat,⟨Waz _,by (try dsimp only);omega,rfl,rfl,rfl,h1.le qnN qdH,qgD _ _ _⟩,?_⟩
  rintro⟨j,d0,d1,m3,mv'⟩ ⟨j0,j1,qR,pz,rN,h5,h6⟩
  dsimp only at j0 j1 qR pz rN h5 h6 ⊢;subst qR;subst pz;subst rN;refine⟨fun hj=>?_,fun hj=>?_⟩
  ·have hj:=dt hj;obtain⟨it,hI⟩:∃it,it=c.getD j.toNat (List.replicate (16:Nat) (0:Int),[],()):=⟨_,rfl⟩
   have hit:c[j.toNat]?=some it:=by rw[hI];exact getD_some (by omega) _
   rw[<-hI];refine⟨⟨j0,hj⟩,dup ⟨fun hn=>⟨dt hn,fun g g0 hg=>?_⟩,fun hn=>?_⟩⟩
   ·have q3:0<=eY (m3++[(mv.2.2.1,g,[])]) mv.2.2.1:=by rw[HF h5.ok (dt hn)];exact g0
    exact⟨nM q3,gT (by omega) (by omega),⟨by (try dsimp only);omega,by (try dsimp only);omega,rfl,rfl,rfl,h5.le (MR (HE h5.ok g0) _ _) ((tj h5.ok).trans (MT _ _)),qdw h6 j0 hit (tj h5.ok) q3⟩,by (try dsimp only);omega⟩
   ·have q3:0<=eY m3 mv.2.2.1:=by have:=df hn;omega
    exact⟨nM q3,gT (by omega) (by omega),⟨by (try dsimp only);omega,by (try dsimp only);omega,rfl,rfl,rfl,h5.le (MR h5.ok _ _) (MT _ _),qdw h6 j0 hit (AW.refl _) q3⟩,by (try dsimp only);omega⟩
  ·have hj:=df hj;exact⟨gT (by omega) (by omega),⟨by (try dsimp only);omega,by (try dsimp only);omega,rfl,rfl,CM.move E hML h1 i0 Ec h5 (by omega) h6 (by rw[<-hF];exact hsel) hks⟩,by (try dsimp only);omega⟩
 have hi:=df hi;have hB:Hv m (RB l b):=Ys E h1.hb hML (h1.fin (by omega))
 have hok:=h1.ok;clear hi h1 i0 i1 hPM
 refine⟨E.gb.pre,fun x=>0<=x.1/\x.1<=((aq 13 b).length:Int)/\a=x.2.1/\b=x.2.2.1/\DR x.2.2.2/\Hv x.2.2.2 (RB l b),fun x=>((aq 13 b).length-x.1).toNat,⟨Waz _,by (try dsimp only);omega,rfl,rfl,hok,hB⟩,?_⟩
 clear hB hok
 rintro⟨i,d0,d1,m⟩ ⟨i0,i1,qR,pz,hok,hB⟩
 dsimp only at i0 i1 qR pz hok hB ⊢;subst qR;subst pz;refine⟨fun hi=>?_,fun _=>⟨trivial,rfl⟩⟩
 have hi:=dt hi;obtain⟨A,hA⟩:∃A,A=(aq 13 b).getD i.toNat (([],[],()),[],()):=⟨_,rfl⟩
 have hAs:(aq 13 b)[i.toNat]?=some A:=by rw[hA];exact getD_some (by omega) _
 rw[<-hA];have hAm:=WaE hAs;have hol:A.2.1.length<=4:=Vc E.gb hAm;refine⟨⟨i0,hi⟩,fun x=>0<=x.1/\x.1<=(A.2.1.length:Int)/\a=x.2.1/\b=x.2.2.1/\A=x.2.2.2.2/\DR x.2.2.2.1/\Hv x.2.2.2.1 (RB l b),fun x=>(A.2.1.length-x.1).toNat,⟨Waz _,by (try dsimp only);omega,rfl,rfl,rfl,hok,hB⟩,?_⟩
 clear hB hok
 rintro⟨j,d0,d1,m,A'⟩ ⟨j0,j1,qR,pz,hA',hok,hB⟩
 dsimp only at j0 j1 qR pz hA' hok hB ⊢;subst qR;subst pz;subst hA';refine⟨fun hj=>?_,fun hj=>?_⟩
 ·have hj:=dt hj;obtain⟨N,hN⟩:∃N,N=A.2.1.getD j.toNat 0:=⟨_,rfl⟩
  have hNs:A.2.1[j.toNat]?=some N:=by rw[hN];exact getD_some (by omega) _
  rw[<-hN];have hNm:=WaE hNs;refine⟨⟨j0,hj⟩,fun x=>0<=x.1/\x.1<=(l.length:Int)/\a=x.2.1/\b=x.2.2.1/\A=x.2.2.2.2/\DR x.2.2.2.1/\Hv x.2.2.2.1 (RB l b),fun x=>(l.length-x.1).toNat,⟨Waz _,by (try dsimp only);omega,rfl,rfl,rfl,hok,hB⟩,?_⟩
  clear hB hok
  rintro⟨k,d0,d1,m,A'⟩ ⟨k0,k1,qR,pz,hA',hok,hB⟩
  dsimp only at k0 k1 qR pz hA' hok hB ⊢;subst qR;subst pz;subst hA';refine⟨fun hk=>?_,fun hk=>?_⟩
  ·have hk:=dt hk;obtain⟨e,hE⟩:∃e,e=l.getD k.toNat ((0:Int),(0:Int),(0:Int),(0:Int),(0:Int),(0:Int),(0:Int),[],[],()):=⟨_,rfl⟩
   have he:l[k.toNat]?=some e:=by rw[hE];exact getD_some (by omega) _
   rw[<-hE];have hem:=WaE he;have hfe:=E.Iw e hem;refine⟨⟨k0,hk⟩,trivial,blk (fun hb=>⟨fun hn=>⟨dt hn,fun g g0 hg=>?_⟩,fun hn=>?_⟩) fun hb=>⟨gT (by omega) (by omega),⟨by (try dsimp only);omega,by (try dsimp only);omega,rfl,rfl,rfl,hok,hB⟩,by (try dsimp only);omega⟩⟩
   ·have hin:Ng m N (PL.dS e)=true:=hB _ _ ⟨A,hAm,hNm,e,hem,hb,rfl⟩;have hin:Ng (m++[(N,g,[])]) N (PL.dS e)=true:=tj hok _ _ hin;have q3:0<=eY (m++[(N,g,[])]) N:=by rw[HF hok (dt hn)];exact g0
    refine⟨hfe,.inr (nM q3),fun hf=>?_,fun _=>⟨gT (by omega) (by omega),⟨by (try dsimp only);omega,by (try dsimp only);omega,rfl,rfl,rfl,HE hok g0,hB.le (tj hok)⟩,by (try dsimp only);omega⟩⟩
    have hf:=nt hf;have hin:kj (m++[(N,g,[])]) (eY (m++[(N,g,[])]) N) (PL.dS e)=true:=hin;rw[hf]at hin;cases hin
   ·have hin:kj m (eY m N) (PL.dS e)=true:=hB _ _ ⟨A,hAm,hNm,e,hem,hb,rfl⟩;have q3:0<=eY m N:=by have:=df hn;omega
    refine⟨hfe,.inr (nM q3),fun hf=>?_,fun _=>⟨gT (by omega) (by omega),⟨by (try dsimp only);omega,by (try dsimp only);omega,rfl,rfl,rfl,hok,hB⟩,by (try dsimp only);omega⟩⟩
    have hf:=nt hf;rw[hf]at hin;cases hin
  ·have hk:=df hk;exact⟨gT (by omega) (by omega),⟨by (try dsimp only);omega,by (try dsimp only);omega,rfl,rfl,rfl,hok,hB⟩,by (try dsimp only);omega⟩
 ·have hj:=df hj;exact⟨gT (by omega) (by omega),⟨by (try dsimp only);omega,by (try dsimp only);omega,rfl,rfl,hok,hB⟩,by (try dsimp only);omega⟩
end Go.Proofs.YtobfmplofoofkaaGreatDoor
namespace Go.Proofs.YtobfmplofoofkaaGreatDoor
open Go.ChangeShapes Go.WideShapes Go.ChangeAt Go.RowKit Go.AM
abbrev DA:List (String×DataW Unit):=[("antiquary/antiquaryref02.constants",Rows.laid_antiquary_antiquaryref02_constants),("antiquary/hash.constants",Rows.laid_antiquary_hash_constants)]
abbrev qkD:List (String×DataW Unit):=[("antiquary/hash.constants",Rows.laid_antiquary_hash_constants)]
abbrev qkE:List (String×DataW Unit):=[("antiquary/antiquaryref02.constants",Rows.laid_antiquary_antiquaryref02_constants)]
theorem qkF:(DA.filter fun x=>x.1== "antiquary/hash.constants")=qkD:=by kernel_rfl
theorem qkG:(DA.filter fun x=>x.1== "antiquary/antiquaryref02.constants")=qkE:=by kernel_rfl
theorem gcX:(Tryz.prog.globalNamed "strings.asciiSpace").isNone=true:=by kernel_rfl
theorem gcN:Tryz.prog.globalNamed "antiquary/hash.constants" =some 0:=by kernel_rfl
theorem gcM:Tryz.prog.globalNamed "antiquary/antiquaryref02.constants" =some 1:=by kernel_rfl
theorem gcT:(Tryz.prog.globals[0]?).map (·.type)=some 229:=by kernel_rfl
theorem gcU:(Tryz.prog.globals[1]?).map (·.type)=some 229:=by kernel_rfl
theorem gcW:Rows.laid_antiquary_hash_constants (H:=Unit)= .agg (gA.map fun n=>.lit (.int .u32 n)):=by kernel_rfl
theorem gcV:Rows.laid_antiquary_antiquaryref02_constants (H:=Unit)= .agg (gA.map fun n=>.lit (.int .u32 n)):=by kernel_rfl
theorem gcC:Tryz.prog.cellsOf 196=1:=by kernel_rfl
theorem qdI{W:World}{nm:String}{d:DataW Unit}{k:Nat}(hN:Tryz.prog.globalNamed nm=some k)(hT:(Tryz.prog.globals[k]?).map (·.type)=some 229)(hW:d= .agg (gA.map fun n=>.lit (.int .u32 n)))
 {ps:List MemPlace} (h:DataW.LaidVars Tryz.prog W [(nm,d)] ps) {j:Nat} {n:Int} (hj:gA[j]?=some n):fG W ⟨k,j,none⟩=some (.int .u32 n):=by
 obtain⟨g0,t0,cs0,f0,p0,q0,hg0,ht0,hv0,qR,_,_⟩:=h;obtain rfl:=Option.some.inj (hN.symm.trans hg0);obtain rfl:=Option.some.inj (hT.symm.trans ht0);obtain⟨xs,m,rfl,hx,hlen,hn,hel⟩:=DataW.trod_array Tryz.underlying229 qR;rw[hW]at hx;simp only[Prod.mk.injEq,DataW.agg.injEq]at hx;have qqR:j<64:=by
  have:=(List.getElem?_eq_some_iff.1 hj).1
  have e:gA.length=64:=by kernel_rfl
  omega
 show W.cell? ⟨k,j,none⟩=some (.int .u32 n)
 rw[World.var?_cell hN hv0 j]
 have h0:=hel j qqR;rw[gcC,WaS]at h0;have hxj:xs[j]?=some (xs[j]'(by omega)):=Waa (by omega)
 rw[hxj]at h0;obtain⟨k,e1,e2,_⟩:=DataW.trod_int Tryz.underlying196 h0;have h1:=congrArg (fun z=>z[j]?) hx.1
 simp only[Wba,hj,hxj,Wbk,Option.some.injEq]at h1;rw[e2]at h1;simp only[DataW.lit.injEq,Lit.int.injEq,true_and]at h1;subst h1;have h2:=congrArg (fun z=>z[0]?) e1
 simpa using h2
theorem qgF{W:World}(h:laidMetH Tryz.prog DA W):Gl Tryz.prog (fG W):=by
 have h1:=h.filter fun x=>x.1== "antiquary/hash.constants"
 have h2:=h.filter fun x=>x.1== "antiquary/antiquaryref02.constants"
 rw[qkF]at h1;rw[qkG]at h2;rw[MakeChecks.laidMetH_plain _ _ _ (by kernel_rfl)]at h1 h2
 obtain⟨p1,h1,_⟩:=h1;obtain⟨p2,h2,_⟩:=h2;refine⟨fun g hg j n hj=>?_,fun g hg=>?_⟩
 ·unfold gIs at hg;rcases WaL _ _▸hg with e|e
  ·obtain rfl:=Option.some.inj (gcN.symm.trans (beq_iff_eq.1 e));exact qdI gcN gcT gcW h1 hj
  ·obtain rfl:=Option.some.inj (gcM.symm.trans (beq_iff_eq.1 e));exact qdI gcM gcU gcV h2 hj
 ·unfold qlh at hg;have:=gcX
  rw[beq_iff_eq.1 hg]at this;cases this
theorem qdJ(os:Os)(args:Array Value):laidMetH Tryz.prog DA ((World.doorLaid Tryz.prog 400 os).forCall (fun _ _=>0) ⟨#[],args,[]⟩).memory:=by
 rw[MakeChecks.laidMetH_plain _ _ _ (by kernel_rfl)]
 exact laidMet_of_run' 8 (by kernel_rfl) (by kernel_rfl)
end Go.Proofs.YtobfmplofoofkaaGreatDoor
