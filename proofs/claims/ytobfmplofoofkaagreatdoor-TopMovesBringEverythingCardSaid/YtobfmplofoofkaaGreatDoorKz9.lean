import Derived.Test.YtobfmplofoofkaaGreatDoorKz8
import Derived.Shelf.Spec.SlicesGrow
import Derived.Shelf.SlGeneric
import Derived.Test.YtobfmplofoofkaaGreatDoorProg
set_option linter.unusedSimpArgs false
set_option linter.unusedVariables false
namespace Go.PL
open Go.AM
theorem yj{α:Type}(f:Nat->α)(n:Nat):(List.range (n+1)).map f=(List.range n).map f++[f n]:=by
 rw[List.range_succ,WaQ];rfl
theorem BS{α:Type}(f:Nat->α)(z:α)(N n:Nat)(h:n<N):((List.range n).map f++List.replicate (N-n) z).set n (f n)=(List.range (n+1)).map f++List.replicate (N-(n+1)) z:=by
 rw[yj,WcK _ _ (by simp)]
 simp only[Wav,List.length_range,Nat.sub_self];rw[show N-n=(N-(n+1))+1 by omega,Wb8]
 simp
theorem Gu:JJ jN:=by unfold JJ jN;decide
theorem oo{s:List Int}(h:s.length<=100000):(bS s).length<=100010:=by
 unfold bS;have:=jZ (s.length:Int)
 simp only[Wad];omega
theorem RN{α β:Type}[Inhabited β](f:α->β->α)(z:α)(l:List β)(d:β)(n:Nat)(h:n<l.length):(l.take (n+1)).foldl f z=f ((l.take n).foldl f z) (l.getD n d):=by
 have e:l.take (n+1)=l.take n++[l.getD n d]:=by
  rw[Wbc,Waa h,Wab,Waa h];rfl
 rw[e,WcF];rfl
end Go.PL
namespace Go.Proofs.YtobfmplofoofkaaGreatDoor
open Go.AM Go.PL
attribute [local irreducible] aW cz sched rounds sW comp om tT
theorem O0:au A5:=az ⟨Ut,trivial⟩ trivial
theorem WG:Sat bs.P 122 Em:=bx O0 6 _ Em fun x _ _=>by
 cases x;rw[qbx];rfl
theorem qby{n:Nat}(h:n<=100000):aM A5 5 n:=by
 unfold aM;have:A5.P.bytesOf 5=1:=by kernel_rfl
 rw[this];omega
theorem qfi:Sat bs.P 124 Uv:=bx O0 6 _ Uv fun x hok hp=>by
 obtain⟨st,bl,n,rfl⟩:∃(st bl:List Int) (n:Int),x=(st,bl,n,()):=⟨x.1,x.2.1,x.2.2.1,rfl⟩
 have hp:n<=1000000000:=hp;have hn:0<=n/\n<18446744073709551616:=Us hok.2.2.1;have hm:JJ (st,bl,n,()):=⟨hok.2.1.1,hn⟩;have ew:IntKind.i64.wrap n=n:=qp5 (by unfold aa;omega)
 rw[qjt];delta WC WD WE LP NX SD SP ln y1 y5 z0 z1 z2 z24 nj z4 Uf j9 z8;dsimp only
 have hz:gK n<64/\(gK n:Int)=(55-n) % 64:=by unfold gK;omega
 refine⟨fun x=>∃t,t<=gK n/\x.1=128::List.replicate t 0/\x.2.1=(st,bl,n,()),fun x=>100-x.1.length,⟨0,by omega,rfl,rfl⟩,?_⟩
 rintro⟨pad,s,z⟩ ⟨t,ht,O1,hs⟩
 simp only at O1 hs ⊢
 subst O1 hs;simp only[ew,Wae,Wa7];have et:(n+((t+1:Nat):Int)).tmod 64=(n+(t+1:Nat)) % 64:=WaI (by omega)
 rw[et];refine⟨by unfold aa;omega,by decide,fun h=>?_,fun h=>?_⟩
 ·have h:¬(n+((t+1:Nat):Int)) % 64=56:=by simpa using h
  refine⟨qby (by omega),⟨t+1,?_,?_,by first|trivial|rfl⟩,?_⟩
  ·omega
  ·rw[WaP,<-List.replicate_succ']
  ·simp only[Wad,Wae,Wa7,WaB];omega
 ·have h:(n+((t+1:Nat):Int)) % 64=56:=by simpa using h
  have YN:t=gK n:=by omega
  subst YN;refine⟨fun x=>∃i:Nat,i<=8/\x.1=(i:Int)/\x.2.1=(128::List.replicate (gK n) 0)++(List.range i).map (qjq (IntKind.u64.wrap (8*n)))/\x.2.2.1=(st,bl,n,()),fun x=>(8-x.1).toNat,⟨0,by omega,rfl,by simp,rfl⟩,?_⟩
  rintro⟨j,pad,s,z'⟩ ⟨i,hi,hj,O1,hs⟩
  simp only at hj O1 hs ⊢
  subst hj O1 hs;refine⟨fun h=>?_,fun h=>?_⟩
  ·have h:(i:Int)<8:=of_decide_eq_true h;have e1:((56:Int)-8*(i:Int)).toNat=56-8*i:=by omega
   rw[e1];refine⟨by unfold aa;omega,by unfold aa;omega,⟨by omega,by omega⟩,qby (by simp;omega),by unfold aa;omega,⟨i+1,by omega,by omega,?_,by first|trivial|rfl⟩,by omega⟩
   rw[yj,<-Waj];rfl
  ·have h:¬(i:Int)<8:=of_decide_eq_false h;have WH:i=8:=by omega
   subst WH;refine⟨trivial,fun x=>∃i:Nat,i<=32/\x.1=(i:Int)/\x.2.1=om (st,bl,n,()) (OZ n)/\x.2.2.2=(List.range i).map (RM (om (st,bl,n,()) (OZ n)).1)++List.replicate (32-i) 0,fun x=>(32-x.1).toNat,⟨0,by omega,rfl,rfl,rfl⟩,?_⟩
   rintro⟨j,s,z2,out⟩ ⟨i,hi,hj,hs,hout⟩
   simp only at hj hs hout ⊢
   subst hj hs hout;have e2:((i:Int)).tdiv 4=((i / 4:Nat):Int):=by
    rw[Wbw (by omega)]
    omega
   have e3:((i:Int)).tmod 4=((i % 4:Nat):Int):=by
    rw[WaI (by omega)]
    omega
   have e4:((24:Int)-8*((i % 4:Nat):Int)).toNat=24-8*(i % 4):=by omega
   simp only[e2,e3,e4,Waw];refine⟨fun h=>?_,fun h=>?_⟩
   ·have h:(i:Int)<32:=of_decide_eq_true h;refine⟨⟨by decide,by unfold aa;omega⟩,⟨by omega,by omega⟩,by decide,by unfold aa;omega,by unfold aa;omega,⟨by omega,by omega⟩,⟨by omega,by omega⟩,by unfold aa;omega,⟨i+1,by omega,by omega,by first|trivial|rfl,?_⟩,by omega⟩
    exact BS (RM (om (st,bl,n,()) (OZ n)).1) 0 32 i (by omega)
   ·have h:¬(i:Int)<32:=of_decide_eq_false h;have WH:i=32:=by omega
    subst WH;show _=Is (st,bl,n,())
    unfold Is;simp
theorem qbz:au A6:=az ⟨Ut,WG,qfi,BR.jd,trivial⟩ trivial
theorem RO:Sat bs.P 97 WB:=bx qbz 6 _ WB fun x hok hp=>by
 obtain⟨tag,l,rfl⟩:∃(tag:Int) (l:List (List Int)),x=(tag,l):=⟨x.1,x.2,rfl⟩
 obtain⟨Vu,Qi⟩:l.length<=1000/\∀p∈l,p.length<=100000:=hp
 rw[qmS];delta IR LP NX SD eI ln y0 qg z0 z1 uR nj;dsimp only
 have hb0:JJ (om jN [IntKind.u8.wrap tag]):=Ur _ Gu;have hb1:(om jN [IntKind.u8.wrap tag]).2.2.1=1:=by
  rw[qbn _ Gu (by show (0:Int)+_<_;simp)]
  rfl
 refine⟨trivial,trivial,fun x=>∃i:Nat,i<=l.length/\x.1=(i:Int)/\x.2.2=(l.take i).foldl (fun s p=>om s (bS p)) (om jN [IntKind.u8.wrap tag])/\JJ x.2.2/\x.2.2.2.2.1<=1+100010*i,fun x=>(l.length-x.1).toNat,⟨0,by omega,rfl,by simp,hb0,by rw[hb1];omega⟩,?_⟩
 rintro⟨j,z,s⟩ ⟨i,hi,hj,hs,Wv,hn⟩
 simp only at hj hs Wv hn ⊢
 subst hj;simp only[Waw];refine⟨fun h=>?_,fun h=>?_⟩
 ·have h:(i:Int)<l.length:=of_decide_eq_true h;have hm:l.getD i []∈l:=by
   rw[Wab,Waa (by omega)]
   exact WaJ _
  have hl:=Qi _ hm;have hle:=oo hl;have hn0:=Wv.2.1;refine⟨⟨by omega,by omega⟩,hl,trivial,by unfold aa;omega,⟨i+1,by omega,by omega,?_,Ur _ Wv,?_⟩,by omega⟩
  ·rw[RN _ _ l [] i (by omega),<-hs]
  ·rw[qbn _ Wv (by omega)]
   omega
 ·have h:¬(i:Int)<l.length:=of_decide_eq_false h;have WH:i=l.length:=by omega
  subst WH;refine⟨by omega,⟨by decide,by decide,by decide,by decide⟩,by decide,?_⟩
  rw[hs,WbP];rfl
end Go.Proofs.YtobfmplofoofkaaGreatDoor
namespace Go.Proofs
open Go.Shelf
def Tryz.WI:Go.Shelf.Ren:=⟨fun|4=>86|n=>n,fun|22=>29|25=>3|3=>3|4=>4|9=>9|20=>20|0=>0|n=>n,fun|n=>n⟩
theorem Tryz.qmT:Go.Proofs.Lays8.n4 Tryz.prog Tryz.WI:={
 mixed:=by kernel_rfl
 f4:=⟨Tryz.f86.name,by decide,Tryz.func86.trans (congrArg some (by kernel_rfl))⟩
 t0:=Tryz.underlying0
 a0:=Tryz.isAgg0
 z0:=Tryz.sizeOf0
 v0:=Tryz.zeroValue0
 t3:=Tryz.underlying3
 a3:=Tryz.isAgg3
 z3:=Tryz.sizeOf3
 v3:=Tryz.zeroValue3
 t4:=Tryz.underlying4
 a4:=Tryz.isAgg4
 z4:=Tryz.sizeOf4
 v4:=Tryz.zeroValue4
 t9:=Tryz.underlying9
 a9:=Tryz.isAgg9
 z9:=Tryz.sizeOf9
 v9:=Tryz.zeroValue9
 t20:=Tryz.underlying20
 a20:=Tryz.isAgg20
 z20:=Tryz.sizeOf20
 v20:=Tryz.zeroValue20
 t22:=Tryz.underlying29
 a22:=Tryz.isAgg29
 z22:=Tryz.sizeOf29
 v22:=Tryz.zeroValue29}
def Tryz.WJ:Go.Shelf.Ren:=⟨fun|4=>87|n=>n,fun|22=>52|25=>5|3=>3|4=>4|9=>9|20=>20|0=>0|n=>n,fun|n=>n⟩
theorem Tryz.qmU:Go.Proofs.Lays8.n4 Tryz.prog Tryz.WJ:={
 mixed:=by kernel_rfl
 f4:=⟨Tryz.f87.name,by decide,Tryz.func87.trans (congrArg some (by kernel_rfl))⟩
 t0:=Tryz.underlying0
 a0:=Tryz.isAgg0
 z0:=Tryz.sizeOf0
 v0:=Tryz.zeroValue0
 t3:=Tryz.underlying3
 a3:=Tryz.isAgg3
 z3:=Tryz.sizeOf3
 v3:=Tryz.zeroValue3
 t4:=Tryz.underlying4
 a4:=Tryz.isAgg4
 z4:=Tryz.sizeOf4
 v4:=Tryz.zeroValue4
 t9:=Tryz.underlying9
 a9:=Tryz.isAgg9
 z9:=Tryz.sizeOf9
 v9:=Tryz.zeroValue9
 t20:=Tryz.underlying20
 a20:=Tryz.isAgg20
 z20:=Tryz.sizeOf20
 v20:=Tryz.zeroValue20
 t22:=Tryz.underlying52
 a22:=Tryz.isAgg52
 z22:=Tryz.sizeOf52
 v22:=Tryz.zeroValue52}
end Go.Proofs
namespace Go.Proofs.YtobfmplofoofkaaGreatDoor
open Go.AM Go.PL Go.RowKit
theorem Gv{P:Program}{ρ:Go.Shelf.Ren}(L:Lays8.n4 P ρ)(tid:TypeId)(e:Ty)(i0:TypeInfo)(z:Value)(ht:ρ.t 25=tid)(hi0:P.info? (ρ.t 25)=some i0)(hz0:i0.zero=some z)(hs0:i0.size=e.cells)(NH:z.cells.size=e.cells)(he:0<e.cells)(hb:i0.bytes<=16):
 Vi P (ρ.f 4) ⟨[I],tid,e,fun n=>0<=(n:Int)/\(n:Int)<=1000000,fun _=>[]⟩:=by
 subst ht;intro Ψ w (x:Int) args dO _ bu hpre;obtain⟨h0,h1⟩:0<=x/\x<=1000000:=hpre
 obtain⟨v,vs',rfl,hv,hl⟩:=bu;simp only[aL]at hl;subst hl;obtain⟨rfl,hh⟩:=aU.1 hv;obtain⟨n,rfl⟩:=Wa8 h0;have hn:n<=1000000:=by omega
 rcases Wcr n with e0|e0
 ·subst e0;refine (Any8.slices_Grow_room L none 0 0 0 w (by omega) (by omega) (by omega) (by omega)).mono ?_
  rintro e w' ⟨rfl,rfl⟩
  exact⟨_,Ψ,rfl,Below.refl _ _,fun _ _ h=>h,fun _ _ h=>.inl h,rfl,.inl ⟨none,rfl,rfl⟩,by
   rintro g ⟨m,cap,h1,h2⟩
   simp at h2⟩
 ·have hbig:(0+n)*i0.bytes<=140737488355328:=by
   have:=Wcx (show 0+n<=1000000 by omega) hb
   omega
  refine (Any8.slices_Grow_grow L i0 z hi0 hz0 (by omega) none 0 0 n [] w (by omega) (by omega) hbig (by omega) (by simp) (fun _=>rfl) (by simp)).mono ?_
  rintro e' w' ⟨rfl,rfl⟩
  have hG1:=grownCap_ge w (0+n) 0 (ρ.t 25);have Ef:=grownCap_le_maxLen w (0+n) 0 (ρ.t 25) (by unfold maxLen;omega)
  generalize grownCap w (0+n) 0 (ρ.t 25)=G at hG1 Ef ⊢
  obtain⟨cur,Z6⟩:∃cur:Array Value,cur=([]:List Value).toArray++Builtin.zeroCells z.cells (0+n-0)++Builtin.zeroCells z.cells (G-(0+n)):=⟨_,rfl⟩
  rw[<-Z6];refine⟨_,Ψ,rfl,⟨rfl,rfl,rfl,?_,fun k hk=>?_⟩,fun _ _ h=>h,fun _ _ h=>.inl h,rfl,.inr ⟨w.heap.size,G,cur,rfl,by omega,WcH _,?_,Wbz _,Ef,?_,?_⟩,?_⟩
  ·show _<=(w.heap.push _).size
   simp
  ·show (w.heap.push _)[k]?=_
   rw[Array.getElem?_push,if_neg (by omega)]
  ·show (w.heap.push _)[w.heap.size]?=_
   simp
  ·rw[Z6,Wcb,Wcb,size_zeroCells,size_zeroCells,NH];show 0+(0+n-0)*e.cells+(G-(0+n))*e.cells=G*e.cells
   rw[WaO,<-Nat.add_mul];congr 1
   omega
  ·show cur.toList.take (([]:List e.den).length*e.cells)=([]:List Value)
   simp
  ·rintro g ⟨m,cap,h1,h2⟩ a ha
   have hg:g=w.heap.size:=by
    simp at h2
    exact h2.1.symm
   cases hp:Ψ a with
   |none=>rfl
   |some u=>
    have h3:=(dO a u hp).2;have h4:a.block<w.heap.size:=by
     rcases Wak a.block w.heap.size with h5|h5
     ·exact h5
     ·simp[World.cell?,h5]at h3
    omega
def Uw:cL:=⟨[I],3,I,fun n=>0<=(n:Int)/\(n:Int)<=1000000,fun _=>[]⟩
def Ux:cL:=⟨[I],5,U8,fun n=>0<=(n:Int)/\(n:Int)<=1000000,fun _=>[]⟩
theorem RP:Vi bs.P 86 Uw:=
 Gv Tryz.qmT 3 I Tryz.t3 (.int .i64 0) rfl (by kernel_rfl) rfl rfl rfl (by decide) (by decide)
theorem RQ:Vi bs.P 87 Ux:=
 Gv Tryz.qmU 5 U8 Tryz.t5 (.int .u8 0) rfl (by kernel_rfl) rfl rfl rfl (by decide) (by decide)
def LS{α:Type}(ll:List (List α)):Prop:=ll.length<=1000/\ll.flatten.length<=400000
def vV:cL:=⟨[.arr L],3,I,fun ll=>LS (ll:List (List Int)),fun ll=>(ll:List (List Int)).flatten⟩
def vW:cL:=⟨[.arr BY],5,U8,fun ll=>LS (ll:List (List Int)),fun ll=>(ll:List (List Int)).flatten⟩
def qfj(f:FuncId)(r:Nat):List LA:=
 if Nat.beq f 41 then (if Nat.beq r 3 then [.slot 11 I,.slot 3 I] else [.slot 27 I,.dF 6 3 I]) else
 if Nat.beq f 42 then (if Nat.beq r 3 then [.slot 11 I,.slot 3 I] else [.slot 27 I,.dF 6 5 U8]) else
 []
def qju(f:FuncId):Hint:=⟨qfj f,fun _=>.split,fun _=>.split,fun _=>0⟩
noncomputable def AC:Ctx:=qaX bs [] [] [] [(86,Uw),(87,Ux)] qju
theorem RR(ll:List (List Int)):cz AC 6 41 vV ll=(LP (z0,z0) fun I μ x=>SD (x.1<(ln ll)) ((IR x.1 ll)/\aa (x.2+(ln (ll.getD x.1.toNat eI)))/\SD (x.2+(ln
 (ll.getD x.1.toNat eI))<z0) False (aa (x.1+z1)/\NX I μ x (x.1+z1,x.2+(ln (ll.getD x.1.toNat eI))))) ((z0<=x.2/\x.2<=(1000000:Int))/\LP (z0,eI) fun I μ x=>SD (x.1<(ln
 ll)) ((IR x.1 ll)/\aM AC y3 (x.2.length+(ll.getD x.1.toNat eI).length)/\aa (x.1+z1)/\NX I μ x (x.1+z1,x.2++ll.getD x.1.toNat eI)) (x.2=ll.flatten))):=by kernel_rfl
theorem RS(ll:List (List Int)):cz AC 6 42 vW ll=(LP (z0,z0) fun I μ x=>SD (x.1<(ln ll)) ((IR x.1 ll)/\aa (x.2+(ln (ll.getD x.1.toNat eI)))/\SD (x.2+(ln
 (ll.getD x.1.toNat eI))<z0) False (aa (x.1+z1)/\NX I μ x (x.1+z1,x.2+(ln (ll.getD x.1.toNat eI))))) ((z0<=x.2/\x.2<=(1000000:Int))/\LP (z0,eI) fun I μ x=>SD (x.1<(ln
 ll)) ((IR x.1 ll)/\aM AC y5 (x.2.length+(ll.getD x.1.toNat eI).length)/\aa (x.1+z1)/\NX I μ x (x.1+z1,x.2++ll.getD x.1.toNat eI)) (x.2=ll.flatten))):=by kernel_rfl
end Go.Proofs.YtobfmplofoofkaaGreatDoor
namespace Go.PL
open Go.AM
theorem vX{α:Type}(ll:List (List α))(n:Nat):(ll.take n).flatten.length<=ll.flatten.length:=by
 have h:=congrArg List.length (congrArg List.flatten (Wax n ll));rw[WcR,Wad]at h;omega
theorem vY{α:Type}(ll:List (List α)){i:Int}(h0:0<=i)(h:i<ll.length):(ll.take i.toNat).flatten++ll.getD i.toNat []=(ll.take (i+1).toNat).flatten:=by
 have e:(i+1).toNat=i.toNat+1:=by omega
 have hl:i.toNat<ll.length:=by omega
 rw[e,Wbc,Waa hl,Wab,Waa hl,WcR];simp
theorem gT{n:Int}(h0:-1000000000000<=n)(h1:n<=1000000000000):aa n:=by unfold aa;omega
theorem dt{p:Prop}[Decidable p](h:decide p=true):p:=of_decide_eq_true h
theorem df{p:Prop}[Decidable p](h:decide p=false):¬p:=of_decide_eq_false h
theorem ndt{p:Prop}[Decidable p](h:(!decide p)=true):¬p:=by simpa using h
theorem Uy{p:Prop}[Decidable p](h:(!decide p)=false):p:=by simpa using h
end Go.PL
namespace Go.Proofs.YtobfmplofoofkaaGreatDoor
open Go.AM Go.PL
theorem Dc{C:Ctx}{t:TypeId}{n:Nat}(k:Nat)(hk:C.P.bytesOf t=k)(YQ:k<=1000)(h:n<=1000000):aM C t n:=by
 unfold aM;rw[hk];have:=Wcx h YQ
 omega
theorem O2:au AC:=LF trivial trivial trivial ⟨RP,RQ,trivial⟩
theorem O3:qY bs.P 41 vV:=gH (C:=AC) O2 6 _ vV fun (ll:List (List Int)) hk hp=>by
 rw[RR];delta IR LP NX SD eI ln y3 z0 z1;dsimp only
 obtain⟨Vu,Qi⟩:ll.length<=1000/\ll.flatten.length<=400000:=hp
 refine⟨fun x=>0<=x.1/\x.1<=ll.length/\x.2=((ll.take x.1.toNat).flatten.length:Int),fun x=>(ll.length-x.1).toNat,⟨by omega,by omega,rfl⟩,?_⟩
 rintro⟨i,n⟩ ⟨h0,h1,h2⟩
 dsimp only at h0 h1 h2 ⊢;have hle:=vX ll i.toNat;refine⟨fun hlt=>?_,fun hlt=>⟨⟨by omega,by omega⟩,?_⟩⟩
 ·have hlt:=dt hlt;have hst:=vY ll h0 hlt;have hle':=vX ll (i+1).toNat;have DK:=congrArg List.length hst;rw[Wad]at DK;exact⟨⟨h0,hlt⟩,gT (by omega) (by omega),fun h=>by have:=dt h;omega,fun _=>⟨gT (by omega) (by omega),⟨by omega,by omega,by omega⟩,by omega⟩⟩
 ·refine⟨fun x=>0<=x.1/\x.1<=ll.length/\x.2=(ll.take x.1.toNat).flatten,fun x=>(ll.length-x.1).toNat,⟨by omega,by omega,rfl⟩,?_⟩
  rintro⟨j,out⟩ ⟨h3,h4,h5⟩
  dsimp only at h3 h4 h5 ⊢;subst h5;refine⟨fun hlt=>?_,fun hlt=>?_⟩
  ·have hlt:=dt hlt;have hst:=vY ll h3 hlt;have hle':=vX ll (j+1).toNat;have DK:=congrArg List.length hst;rw[Wad]at DK;exact⟨⟨h3,hlt⟩,Dc 8 (by kernel_rfl) (by omega) (by omega),gT (by omega) (by omega),⟨by omega,by omega,hst⟩,by omega⟩
  ·have hlt:=df hlt;rw[Wap (by omega)]
theorem O4:qY bs.P 42 vW:=gH (C:=AC) O2 6 _ vW fun (ll:List (List Int)) hk hp=>by
 rw[RS];delta IR LP NX SD eI ln y5 z0 z1;dsimp only
 obtain⟨Vu,Qi⟩:ll.length<=1000/\ll.flatten.length<=400000:=hp
 refine⟨fun x=>0<=x.1/\x.1<=ll.length/\x.2=((ll.take x.1.toNat).flatten.length:Int),fun x=>(ll.length-x.1).toNat,⟨by omega,by omega,rfl⟩,?_⟩
 rintro⟨i,n⟩ ⟨h0,h1,h2⟩
 dsimp only at h0 h1 h2 ⊢;have hle:=vX ll i.toNat;refine⟨fun hlt=>?_,fun hlt=>⟨⟨by omega,by omega⟩,?_⟩⟩
 ·have hlt:=dt hlt;have hst:=vY ll h0 hlt;have hle':=vX ll (i+1).toNat;have DK:=congrArg List.length hst;rw[Wad]at DK;exact⟨⟨h0,hlt⟩,gT (by omega) (by omega),fun h=>by have:=dt h;omega,fun _=>⟨gT (by omega) (by omega),⟨by omega,by omega,by omega⟩,by omega⟩⟩
 ·refine⟨fun x=>0<=x.1/\x.1<=ll.length/\x.2=(ll.take x.1.toNat).flatten,fun x=>(ll.length-x.1).toNat,⟨by omega,by omega,rfl⟩,?_⟩
  rintro⟨j,out⟩ ⟨h3,h4,h5⟩
  dsimp only at h3 h4 h5 ⊢;subst h5;refine⟨fun hlt=>?_,fun hlt=>?_⟩
  ·have hlt:=dt hlt;have hst:=vY ll h3 hlt;have hle':=vX ll (j+1).toNat;have DK:=congrArg List.length hst;rw[Wad]at DK;exact⟨⟨h3,hlt⟩,Dc 1 (by kernel_rfl) (by omega) (by omega),gT (by omega) (by omega),⟨by omega,by omega,hst⟩,by omega⟩
  ·have hlt:=df hlt;rw[Wap (by omega)]
end Go.Proofs.YtobfmplofoofkaaGreatDoor
namespace Go.PL
open Go.AM
abbrev At:=List Int×Int×Int×List Int×Unit
abbrev En:=Int×Int×Int×Int×Int×Int×Int×List Int×List At×Unit
def Dd(l:List At):List Int:=l.flatMap fun a=>[a.2.1,a.2.2.1]
def pK(l:List At):List (List Int):=l.flatMap fun a=>[a.1,a.2.2.2.1]
def Gw(e:En):List Int:=
 [e.1,e.2.1,e.2.2.1,e.2.2.2.1,e.2.2.2.2.1,e.2.2.2.2.2.1,e.2.2.2.2.2.2.1,(e.2.2.2.2.2.2.2.1.length:Int)]++e.2.2.2.2.2.2.2.1++[(e.2.2.2.2.2.2.2.2.1.length:Int)]++Dd e.2.2.2.2.2.2.2.2.1
def dS(e:En):List Int:=dL kG (Gw e)++dL bS (pK e.2.2.2.2.2.2.2.2.1)
def qfl(l:List At):Prop:=l.length<=20/\∀a∈l,a.1.length<=300/\a.2.2.2.1.length<=300
def wL(e:En):Prop:=e.2.2.2.2.2.2.2.1.length<=40/\qfl e.2.2.2.2.2.2.2.2.1
theorem De{α:Type}(one:α->List Int){k:Nat}(l:List α)(h:∀x∈l,(one x).length<=k):(dL one l).length<=10+k*l.length:=by
 unfold dL;have:=jZ (l.length:Int)
 have:=uX (one:=one) l h
 simp only[Wad];omega
theorem JO(l:List At):(Dd l).length=2*l.length:=by
 induction l with
 |nil=>rfl
 |cons a l ih=>simp only[Dd,WbS,Wad,Wae,WaB]at*;omega
theorem Gx(l:List At):(pK l).length=2*l.length:=by
 induction l with
 |nil=>rfl
 |cons a l ih=>simp only[pK,WbS,Wad,Wae,WaB]at*;omega
theorem Gy{l:List At}(h:qfl l):∀s∈pK l,s.length<=300:=by
 intro s hs;obtain⟨a,ha,h2⟩:=List.mem_flatMap.1 hs;have:=h.2 a ha
 simp only[Wbi,Wbg,or_false]at h2;rcases h2 with rfl|rfl
 ·exact this.1
 ·exact this.2
theorem Dg(l:List Int):(dL kG l).length<=10+10*l.length:=De kG l fun x _=>(jZ x).2
theorem Ad{l:List At}(h:qfl l):(dL bS (pK l)).length<=13000:=by
 have h1:=De bS (k:=310) (pK l) (fun s hs=>by
  have:=Gy h s hs
  have:=jZ (s.length:Int)
  unfold bS;simp only[Wad];omega)
 rw[Gx]at h1;have:=h.1
 omega
theorem JP{e:En}(h:wL e):(Gw e).length<=100:=by
 obtain⟨h1,h2,_⟩:=h;unfold Gw;simp only[Wad,Wae,WaB,JO];omega
theorem O5{e:En}(h:wL e):(dS e).length<=20000:=by
 have h1:=Dg (Gw e);have h2:=JP h;have h3:=Ad h.2;unfold dS;simp only[Wad];omega
end Go.PL
namespace Go.Proofs.YtobfmplofoofkaaGreatDoor
open Go.AM Go.PL
def LU:aJ:=⟨[EN],[BY],fun e=>wL e,fun e=>dS e⟩
def qjv(f:FuncId)(r:Nat):List LA:=
 if Nat.beq f 11 then [.slot 36 I,.dF 3 3 I,.dF 4 9 .str] else
 []
def qp6(t:TypeId):Nat:=bif Nat.beq t 70||Nat.beq t 69 then 2 else 0
def qp7(f:FuncId)(r:Nat):Bool:=Nat.beq f 11&&Nat.beq r 6
def qmV(f:FuncId):Hint:=if Nat.beq f 999999995 then⟨fun _=>[],fun _=>.split,fun _=>.split,qp6⟩ else⟨qjv f,fun r=>bif qp7 f r then .all else .split,fun _=>.split,fun _=>0⟩
def tE0:List (FuncId×aJ):=[(43,LR),(44,vU),(97,WB)]
def tEG:List (FuncId×cL):=[(41,vV),(42,vW)]
noncomputable def Uz:Ctx:=bA bs tE0 tEG qmV
abbrev kH:Type:=Int×List Int×List (List Int)
abbrev ym:Type:=Int×List Int×List (List Int)->Prop
abbrev yp:Type:=Int×List Int×List (List Int)->Nat
abbrev sZ(l:List At)(x:kH):=l.getD x.1.toNat (eI,z0,z0,eI,())
abbrev BT(x:kH)(l:List At):=(x.1+z1,x.2.1++[(sZ l x).2.1,(sZ l x).2.2.1],x.2.2++[(sZ l x).1,(sZ l x).2.2.2.1])
abbrev BU(x:kH)(l:List At):=x.2.1.length+[(sZ l x).2.1,(sZ l x).2.2.1].length
abbrev BV(x:kH)(l:List At):=x.2.2.length+[(sZ l x).1,(sZ l x).2.2.2.1].length
abbrev LV(x:kH)(l:List At)(I:ym)(μ:yp):=aM Uz y3 (BU x l)/\aM Uz y9 (BV x l)/\aa (x.1+z1)/\NX I μ x (BT x l)
abbrev LW(x:kH)(l:List At)(I:ym)(μ:yp):=(LV x l I μ)/\aM Uz y3 (BU x l)/\aM Uz y9 (BV x l)/\aa (x.1+z1)/\NX I μ x
 (BT x l)
theorem qfm(id nE ow fi fr to bo:Int)(v:List Int)(l:List At):aW Uz 6 11 LU (id,nE,ow,fi,fr,to,bo,v,l,())=(LS [[id,nE,ow,fi,fr,to,bo,(ln v)],v,
 [(ln l)]]/\LP (z0,[[id,nE,ow,fi,fr,to,bo,(ln v)],v,[(ln l)]].flatten,eL) fun I μ x=>SD (x.1<(ln l)) ((IR x.1 l)/\((LV x l I μ)/\(LW x l I μ)/\(LV x l I μ)/\
 aM Uz y3 (BU x l)/\aM Uz y9 (BV x l)/\aa (x.1+z1)/\NX I μ x (BT x l))/\((LW x l I μ)/\aM Uz y3 (BU x l)/\aM Uz y9 (BV x l)/\aa (x.1+
 z1)/\NX I μ x (BT x l))/\(LW x l I μ)/\aM Uz y3 (BU x l)/\aM Uz y9 (BV x l)/\aa (x.1+z1)/\NX I μ x (BT x l)) (sX x.2.1/\((∀(s:List Int),s∈
 x.2.2->s.length<=(100000:Nat))/\sX x.2.2)/\LS [dL kG x.2.1,dL bS x.2.2]/\[dL kG x.2.1,dL bS x.2.2].flatten=PL.dS (id,nE,ow,fi,
 fr,to,bo,v,l,()))):=by kernel_rfl
end Go.Proofs.YtobfmplofoofkaaGreatDoor
namespace Go.PL
open Go.AM
theorem WK{α:Type}(l:List α)(d:α){i:Int}(h0:0<=i)(h:i<l.length):l.getD i.toNat d∈l:=by
 rw[List.getD,Waa (by omega)]
 exact WaJ (by omega)
end Go.PL
namespace Go.Proofs.YtobfmplofoofkaaGreatDoor
open Go.AM Go.PL
noncomputable def X4:Ctx:=bA bs [(89,tU.data),(158,tU.data),(91,nD.data),(150,nD.data)]
 [(89,tU),(158,tU),(91,nD),(150,nD)] qhr
theorem qp8:au X4:=az ⟨El.jd,Ac.jd,BR.jd,yg.jd,trivial⟩ ⟨El,Ac,BR,yg,trivial⟩
theorem RU(l:List (List Int)):aW X4 5 44 vU l=(True/\LP (kG (ln l),z0) fun I μ x=>SD (x.2<(ln l)) ((IR x.2 l)/\(l.getD x.2.toNat eI).length<=(100000:Nat)
 /\aM X4 y5 (x.1.length+(bS (l.getD x.2.toNat eI)).length)/\aa (x.2+z1)/\NX I μ x (x.1++bS (l.getD x.2.toNat eI),x.2+z1)) (x.1=dL bS l)):=by
 kernel_rfl
theorem LX{l:List (List Int)}(h:(∀s∈l,s.length<=100000)/\sX l):(dL bS l).length<=100000000000:=by
 have h2:=h.2;unfold sX at h2;have h1:=uX (one:=bS) (k:=100010) l (fun x hx=>by
  have:=jZ (x.length:Int)
  have:=h.1 x hx
  unfold bS;rw[List.length_append];omega)
 have h3:=jZ (l.length:Int);unfold dL;rw[Wad];omega
theorem O6:Sat Tryz.prog 44 vU:=by
 refine bx (C:=X4) qp8 5 44 vU fun (l:List (List Int)) hk hp=>?_
 rw[RU];delta IR LP NX SD eI ln y5 z0 z1;dsimp only
 have hr:=LX hp;have hl:l.length<=100000:=hp.2;simp only[decide_eq_true_eq,decide_eq_false_iff_not,Ue];refine⟨trivial,JM bS l,fun x=>((l.length:Int)-x.2).toNat,Gs _ _,fun x hI=>⟨fun hc=>?_,fun hc=>JN hI hc⟩⟩
 obtain⟨h1,h2⟩:=Gt [] hI hc;have h0:=hI.1;exact⟨⟨h0,hc⟩,hp.1 _ (WK l [] h0 hc),Db uW (by omega),by omega,h1,by dsimp only;omega⟩
end Go.Proofs.YtobfmplofoofkaaGreatDoor
namespace Go.PL
open Go.AM
theorem Ae{α β:Type}(f:α->List β)(l:List α)(d:α)(n:Nat)(h:n<l.length):(l.take (n+1)).flatMap f=(l.take n).flatMap f++f (l.getD n d):=by
 have e:l.take (n+1)=l.take n++[l.getD n d]:=by
  rw[Wbc,Waa h,Wab,Waa h];rfl
 rw[e,Wcl];simp
theorem RV(l:List At)(n:Nat)(h:n<l.length):Dd (l.take (n+1))=Dd (l.take n)++[(l.getD n ([],0,0,[],())).2.1,(l.getD n ([],0,0,[],())).2.2.1]:=Ae _ l _ n h
theorem O7(l:List At)(n:Nat)(h:n<l.length):pK (l.take (n+1))=pK (l.take n)++[(l.getD n ([],0,0,[],())).1,(l.getD n ([],0,0,[],())).2.2.2.1]:=Ae _ l _ n h
end Go.PL
namespace Go.Proofs.YtobfmplofoofkaaGreatDoor
open Go.AM Go.PL
attribute [local irreducible] aW cz iq
theorem qmW:jK bs.P tE0:=⟨qbu,O6,RO,trivial⟩
theorem qmX:n9 bs.P tEG:=⟨O3,O4,trivial⟩
theorem WL:au Uz:=az qmW qmX
theorem qfn{C:Ctx}(h:C.P=bs.P):C.P.bytesOf 3=8:=by rw[h];kernel_rfl
theorem qfo{C:Ctx}(h:C.P=bs.P):C.P.bytesOf 9=16:=by rw[h];kernel_rfl
theorem JQ{α:Type}{l:List α}(h:l.length<=100000):sX l:=h
theorem qbA:Sat bs.P 11 LU:=bx WL 6 _ LU fun x hok hp=>by
 obtain⟨id,nE,ow,fi,fr,to,bo,v,l,rfl⟩:∃(id nE ow fi fr to bo:Int) (v:List Int) (l:List At),x=(id,nE,ow,fi,fr,to,bo,v,l,()):=⟨x.1,x.2.1,x.2.2.1,x.2.2.2.1,x.2.2.2.2.1,x.2.2.2.2.2.1,x.2.2.2.2.2.2.1,x.2.2.2.2.2.2.2.1,x.2.2.2.2.2.2.2.2.1,rfl⟩
 have hp:wL (id,nE,ow,fi,fr,to,bo,v,l,()):=hp;have hnl:=JP hp;obtain⟨h1,h2,h3⟩:v.length<=40/\l.length<=20/\∀a∈l,a.1.length<=300/\a.2.2.2.1.length<=300:=hp
 have RW:qfl l:=⟨h2,h3⟩;rw[qfm];delta kH ym yp sZ BT BU BV LV LW IR LP NX SD eI eL ln y3 y9 z0 z1;dsimp only
 refine⟨⟨by simp,by simp;omega⟩,fun x=>∃i:Nat,i<=l.length/\x.1=(i:Int)/\x.2.1=[[id,nE,ow,fi,fr,to,bo,(v.length:Int)],v,[(l.length:Int)]].flatten++Dd (l.take i)/\x.2.2=pK (l.take i),fun x=>(l.length-x.1).toNat,⟨0,by omega,rfl,by simp[Dd],by simp[pK]⟩,?_⟩
 rintro⟨j,n,t⟩ ⟨i,hi,hj,hn,ht⟩
 simp only at hj hn ht ⊢
 subst hj;simp only[Waw];have hnn:n.length<=1000:=by rw[hn];simp only[Wad,JO,Waf];simp;omega
 have QV:t.length<=1000:=by rw[ht];simp only[Gx,Waf];omega
 refine⟨fun h=>?_,fun h=>?_⟩
 ·have h:(i:Int)<l.length:=of_decide_eq_true h;have r1:aM Uz 3 (n.length+[(l.getD i ([],(0:Int),(0:Int),[],())).2.1,(l.getD i ([],(0:Int),(0:Int),[],())).2.2.1].length):=Dc 8 (qfn rfl) (by omega) (by simp;omega)
  have r2:aM Uz 9 (t.length+[(l.getD i ([],(0:Int),(0:Int),[],())).1,(l.getD i ([],(0:Int),(0:Int),[],())).2.2.2.1].length):=Dc 16 (qfo rfl) (by omega) (by simp;omega)
  have r3:aa ((i:Int)+1):=by unfold aa;omega
  have r4:∃i':Nat,i'<=l.length/\((i:Int)+1)=(i':Int)/\n++[(l.getD i ([],(0:Int),(0:Int),[],())).2.1,(l.getD i ([],(0:Int),(0:Int),[],())).2.2.1]=[[id,nE,ow,fi,fr,to,bo,(v.length:Int)],v,[(l.length:Int)]].flatten++Dd (l.take i')/\
   t++[(l.getD i ([],(0:Int),(0:Int),[],())).1,(l.getD i ([],(0:Int),(0:Int),[],())).2.2.2.1]=pK (l.take i'):=
   ⟨i+1,by omega,by omega,by rw[RV l i (by omega),hn,Waj],by rw[O7 l i (by omega),ht]⟩
  have r5:((l.length:Int)-((i:Int)+1)).toNat<((l.length:Int)-(i:Int)).toNat:=by omega
  simp only[r1,r2,r3,r5,and_true,true_and];repeat' apply And.intro
  all_goals first|exact r4|omega
 ·have h:¬(i:Int)<l.length:=of_decide_eq_false h;have wG:i=l.length:=by omega
  subst wG;rw[WbP]at hn ht;have hn':n=Gw (id,nE,ow,fi,fr,to,bo,v,l,()):=by rw[hn];simp[Gw]
  subst hn' ht;have l1:=Dg (Gw (id,nE,ow,fi,fr,to,bo,v,l,()));have l2:=Ad RW;refine⟨JQ (by omega),⟨fun s hs=>by have:=Gy RW s hs;omega,JQ (by omega)⟩,⟨by simp,by simp;omega⟩,?_⟩
  simp[PL.dS]
end Go.Proofs.YtobfmplofoofkaaGreatDoor
namespace Go.PL
open Go.AM
def upto(n:Nat)(p:Nat->Bool):Bool:=(List.range n).all p
def tab(n:Nat)(f:Nat->Int):List Int:=(List.range n).map f
def qbB{α:Type}(n:Nat)(f:Nat->α):List α:=(List.range n).map f
theorem m9{n:Nat}{p:Nat->Bool}:upto n p=true↔∀i,i<n->p i=true:=by
 unfold upto;rw[Wau];exact⟨fun h i hi=>h i (List.mem_range.2 hi),fun h i hi=>h i (List.mem_range.1 hi)⟩
theorem qbC(f:Nat->Int):tab 0 f=[]:=rfl
theorem qbD(n:Nat)(f:Nat->Int):tab (n+1) f=tab n f++[f n]:=by
 unfold tab;rw[List.range_succ,WaQ];rfl
theorem pL(n:Nat)(f:Nat->Int):(tab n f).length=n:=by simp[tab]
theorem nc{n i:Nat}(f:Nat->Int)(h:i<n):(tab n f).getD i 0=f i:=by
 rw[Wab,Waa (by rw[pL];exact h)]
 simp[tab]
theorem Gz{v:List Int}{i:Nat}(h:v.length<=i):v.getD i 0=0:=by
 rw[Wab,Wai h];rfl
theorem qbE{a b:List Int}(hl:a.length=b.length)(h:∀i,i<a.length->a.getD i 0=b.getD i 0):a=b:=by
 apply List.ext_getElem hl
 intro i h1 h2;have:=h i h1
 rw[Wab,Wab,Waa h1,Waa h2]at this;exact this
theorem nt{b:Bool}(h:(!b)=true):b=false:=by simpa using h
theorem nf{b:Bool}(h:(!b)=false):b=true:=by simpa using h
theorem gU{b:Bool}(h:b=true->False):false=b:=by cases b<;>simp_all
theorem uY{b:Bool}(h:b=true->False):b=false:=by cases b<;>simp_all
theorem RX{p:Prop}[Decidable p]{b:Bool}(h:p↔b=true):decide p=b:=by
 by_cases hp:p
 ·rw[decide_eq_true hp,h.1 hp]
 ·rw[decide_eq_false hp];exact gU fun hb=>hp (h.2 hb)
theorem LY{a b:Bool}(h:a=true↔b=true):a=b:=by cases a<;>cases b<;>simp_all
theorem iB{P:Nat->Prop}{x:Int}(h0:0<=x)(h:∀j:Nat,(j:Int)<x->P j)(hx:P x.toNat):∀j:Nat,(j:Int)<x+1->P j:=fun j hj=>by
 by_cases h':(j:Int)<x
 ·exact h j h'
 ·rw[show j=x.toNat by omega];exact hx
theorem RY{x:Int}(h:0<=x):(x+1).toNat=x.toNat+1:=by omega
theorem WM{x:Int}{n:Nat}(h1:x<=n)(h:¬x<(n:Int)):x.toNat=n:=by omega
theorem bP{n:Int}(h:-9000000000000000000<=n)(h':n<=9000000000000000000):aa n:=by unfold aa;omega
theorem iC{x:Int}{n:Nat}(h0:0<=x)(h:x<n)(hn:n<=9223372036854775807):aa (x+1):=by unfold aa;omega
theorem uZ{α:Type}(n:Nat)(f:Nat->α):(qbB n f).length=n:=by simp[qbB]
theorem WN{α:Type}{n i:Nat}(f:Nat->α)(d:α)(h:i<n):(qbB n f).getD i d=f i:=by
 rw[Wab,Waa (by rw[uZ];exact h)]
 simp[qbB]
theorem WO{α:Type}{a b:List α}(d:α)(hl:a.length=b.length)(h:∀i,i<a.length->a.getD i d=b.getD i d):a=b:=by
 apply List.ext_getElem hl
 intro i h1 h2;have:=h i h1
 rw[Wab,Wab,Waa h1,Waa h2]at this;exact this
theorem WQ{α:Type}(v:List α)(d:α):qbB v.length (fun i=>v.getD i d)=v:=
 WO d (uZ _ _) fun i hi=>by rw[uZ]at hi;rw[WN _ _ hi]
abbrev Df:=List Int×Int×Int×Int×List (List Int)×Unit
abbrev Sc:=Int×Int×List Df×Unit
def qmY(c:Int):Bool:=decide (97<=c)&&decide (c<=122)
def qmZ(c:Int):Bool:=(decide (48<=c)&&decide (c<=57))||decide (c=95)
def kws:List (List Int):=[[97,108,108],[97,110,100],[104,97,115],[105,110],[110,111,116],[111,114]]
def chB(s:List Int)(i:Nat):Bool:=qmY (s.getD i 0)||(!decide (i=0)&&qmZ (s.getD i 0))
def kS(s:List Int):Bool:=upto s.length (chB s)&&(decide (1<=s.length)&&(decide (s.length<=40)&& !decide (s∈kws)))
def leS(a b:List Int):Bool:=strLt a b||decide (a=b)
def LZ(l:List (List Int)):Bool:=upto (l.length-1) fun i=>!leS (l.getD (i+1) []) (l.getD i [])
def mz(l:List (List Int)):Int:=
 if l.length<1\/50<l.length then 2 else if (!upto l.length fun i=>kS (l.getD i []))=true then 5 else if (!LZ l)=true then 6 else 0
def pM(d:Df)(before:List Int):Int:=
 if (!kS d.1)=true then 5 else if leS d.1 before=true then 6 else
 if d.2.1=1 then (if d.2.2.1< -1099511627776\/1099511627776<d.2.2.2.1\/d.2.2.2.1<d.2.2.1 then 131 else if 0<d.2.2.2.2.1.length then 3 else 0) else
 if d.2.1=2 then (if d.2.2.1≠0\/d.2.2.2.1≠0 then 3 else mz d.2.2.2.2.1) else 130
def GA:List Df->List Int->Int
 |[],_=>0
 |d::l,b=>if pM d b≠0 then pM d b else GA l d.1
def nF(s:Sc):Int:=if s.1<1\/32<s.1\/s.2.1<1\/3<s.2.1 then 1 else if 16<s.2.2.1.length then 2 else GA s.2.2.1 []
def DN(v:List Int):Bool:=v.all (fun x=>decide (-1000<=x)&&decide (x<=1000))&&(decide (1<=v.length)&&decide (v.length<=32))
end Go.PL
namespace Go.Proofs.YtobfmplofoofkaaGreatDoor
open Go.AM Go.PL
def L0:aJ:=⟨[.str],[.bool],fun _=>True,fun s=>kS s⟩
def tN:aJ:=⟨[SS,.str],[.bool],fun _=>True,fun x=>decide ((x.2:List Int)∈(x.1:List (List Int)))⟩
def Eo:aJ:=⟨[SS],[I],fun _=>True,fun l=>mz l⟩
def UA:aJ:=⟨[DF,.str],[I],fun _=>True,fun x=>pM x.1 x.2⟩
def UB:aJ:=⟨[SC],[I],fun _=>True,fun s=>nF s⟩
def O8:aJ:=⟨[L],[.bool],fun _=>True,fun v=>DN v⟩
def Af:aJ:=⟨[I],[.bool],fun _=>True,fun m=>decide (1<=(m:Int))&&decide ((m:Int)<=3)⟩
def qjw(f:FuncId)(r:Nat):List LA:=
 if Nat.beq f 107 then [.slot 3 I] else
 if Nat.beq f 115 then [.slot 8 I] else
 if Nat.beq f 137 then [.slot 5 I] else
 if Nat.beq f 108 then (bif Nat.beq r 4 then [.slot 3 I] else [.slot 4 I]) else
 if Nat.beq f 20 then [.slot 4 I,.slot 3 .str] else
 if Nat.beq f 67 then [.slot 11 I,.slot 1 .bool] else
 []
def qbF(t:TypeId):Nat:=bif Nat.beq t 1000000 then 1 else 0
def O9(f:FuncId):Hint:=if Nat.beq f 999999995 then⟨fun _=>[],fun _=>.split,fun _=>.split,qbF⟩ else
 ⟨qjw f,fun _=>.split,fun t=>bif Nat.beq f 26&&Nat.beq t 8 then .force else .split,fun r=>bif Nat.beq f 26 then 7 else 0⟩
noncomputable def AF0:Ctx:=bA bs [] [] O9
theorem qjx(l:List (List Int))(s:List Int):aW AF0 6 76 tN (l,s)=(∃(I:Int->Prop),∃(μ:Int->Nat),I (0:Int)/\∀(x:Int),I x->(decide (x<(↑l.length
 :Int))=true->((0:Int)<=x/\x<(↑l.length:Int))/\(decide (s=l.getD x.toNat [])=true->decide ((0:Int)<=x)=decide (s∈l))/\(decide (s=l.getD x.toNat [])=
 false->aa (x+(1:Int))/\I (x+(1:Int))/\μ (x+(1:Int))<μ x))/\(decide (x<(↑l.length:Int))=false->false=decide (s∈l))):=by kernel_rfl
theorem qfp(l:List (List Int))(s:List Int):aW AF0 6 137 tN (l,s)=(∃(I:Int->Prop),∃(μ:Int->Nat),I (0:Int)/\∀(x:Int),I x->(decide (x<
 (↑l.length:Int))=true->((0:Int)<=x/\x<(↑l.length:Int))/\(decide (l.getD x.toNat []=s)=true->true=decide (s∈l))/\(decide (l.getD x.toNat []=s)=false->
 aa (x+(1:Int))/\I (x+(1:Int))/\μ (x+(1:Int))<μ x))/\(decide (x<(↑l.length:Int))=false->false=decide (s∈l))):=by kernel_rfl
theorem WR(m:Int):aW AF0 6 55 Af m=((decide ((1:Int)<=m)=true->decide (m<=(3:Int))=(decide ((1:Int)<=m)&&decide (m<=(3:Int))))/\(decide
 ((1:Int)<=m)=false->false=(decide ((1:Int)<=m)&&decide (m<=(3:Int))))):=by kernel_rfl
theorem qjy(v:List Int):aW AF0 6 32 O8 v=(LP (z0,true) fun I μ x=>SD (x.1<(ln v)) ((IR x.1 v)/\SP x.2 (SD ((-1000:Int)<=v.getD x.1.toNat z0) (aa (x.1+z1)/\NX I
 μ x (x.1+z1,decide (v.getD x.1.toNat z0<=(1000:Int)))) (aa (x.1+z1)/\NX I μ x (x.1+z1,false))) (aa (x.1+z1)/\NX I μ x (x.1+z1,false))) (SP x.2 (SD (z1<=(ln v))
 (decide ((ln v)<=nj)=DN v) (false=DN v)) (false=DN v))):=by kernel_rfl
def tF1:List (FuncId×aJ):=[(76,tN),(137,tN)]
noncomputable def AF1:Ctx:=bA bs tF1 [] O9
abbrev Ag(x:Int)(s:List Int)(I:Int->Prop)(μ:Int->Nat):=SD (x=z0) (false=kS s) (SP (!decide (s.getD x.toNat z0=(95:Int))) (false=kS s) (aa (x+z1)/\
 NX I μ x (x+z1)))
theorem qbG(s:List Int):aW AF1 6 107 L0 s=(LP z0 fun I μ x=>SD (x<(ln s)) ((IR x s)/\SD ((97:Int)<=s.getD x.toNat z0) (SD (z48<=s.getD x.toNat z0) (SD (s.getD
 x.toNat z0<=z57) (SP (!decide (s.getD x.toNat z0<=(122:Int))) (SD (x=z0) (false=kS s) (aa (x+z1)/\NX I μ x (x+z1))) (aa (x+z1)/\NX I μ x (x+z1))) (SP (!decide
 (s.getD x.toNat z0<=(122:Int))) (Ag x s I μ) (aa (x+z1)/\NX I μ x (x+z1)))) (SP (!decide (s.getD x.toNat z0<=(122:Int))) (Ag x s I μ) (aa (x+z1)/\NX I μ x (x+
 z1)))) (SD (z48<=s.getD x.toNat z0) (SD (s.getD x.toNat z0<=z57) (SD (x=z0) (false=kS s) (aa (x+z1)/\NX I μ x (x+z1))) (Ag x s I μ)) (Ag x s I μ))) (SD (z1<=(ln
 s)) (SD ((ln s)<=z40) (True/\(!decide (s∈[bytesOf {data:=#[(97:UInt8),(108:UInt8),(108:UInt8)]},bytesOf {data:=#[(97:UInt8),(110:UInt8),(100:UInt8)]},bytesOf {
 data:=#[(104:UInt8),(97:UInt8),(115:UInt8)]},bytesOf {data:=#[(105:UInt8),(110:UInt8)]},bytesOf {data:=#[(110:UInt8),(111:UInt8),(116:UInt8)]},bytesOf {
 data:=#[(111:UInt8),(114:UInt8)]}]))=kS s) (false=kS s)) (false=kS s))):=by kernel_rfl
def tF2:List (FuncId×aJ):=[(107,L0),(55,Af)]
noncomputable def AF2:Ctx:=bA bs tF2 [] O9
theorem qbH(l:List (List Int)):aW AF2 6 108 Eo l=(SD ((ln l)<z1) (z2=mz l) (SD (z50<(ln l)) (z2=mz l) (LP z0 fun I μ x=>SD (x<(ln l)) ((IR x l)/\True
 /\SP (!kS (l.getD x.toNat eI)) (z5=mz l) (aa (x+z1)/\NX I μ x (x+z1))) (LP z1 fun I μ x=>SD (x<(ln l)) ((IR x l)/\aa (x-z1)/\(IR (x-z1) l)/\SP (AM.strLt
 (l.getD x.toNat eI) (l.getD (x-z1).toNat eI)||decide (l.getD x.toNat eI=l.getD (x-z1).toNat eI)) (z6=mz l) (aa (x+z1)/\NX I μ x (x+z1))) (z0=mz l))))):=by
 kernel_rfl
noncomputable def AF3:Ctx:=bA bs ((108,Eo)::tF2) [] O9
theorem qfq(n:List Int)(k lo hi:Int)(w:List (List Int))(b:List Int):aW AF3 6 56 UA ((n,k,lo,hi,w,()),b)=(True/\SP (!kS n) (z5=pM (n,k,lo,hi,w,())
 b) (SP (AM.strLt n b||decide (n=b)) (z6=pM (n,k,lo,hi,w,()) b) (SD (k=z1) (SD (lo<(-1099511627776:Int)) ((131:Int)=pM (n,k,lo,hi,w,()) b) (SD ((1099511627776:
 Int)<hi) ((131:Int)=pM (n,k,lo,hi,w,()) b) (SD (hi<lo) ((131:Int)=pM (n,k,lo,hi,w,()) b) (SD (z0<(ln w)) (z3=pM (n,k,lo,hi,w,()) b) (z0=pM (n,k,
 lo,hi,w,()) b))))) (SD (k=z2) (SP (!decide (lo=z0)) (z3=pM (n,k,lo,hi,w,()) b) (SP (!decide (hi=z0)) (z3=pM (n,k,lo,hi,w,()) b) (True/\mz w=pM (n,k,lo,
 hi,w,()) b))) ((130:Int)=pM (n,k,lo,hi,w,()) b))))):=by kernel_rfl
noncomputable def AF4:Ctx:=bA bs ((56,UA)::tF2) [] O9
theorem qfr(d m:Int)(l:List Df):aW AF4 6 20 UB (d,m,l,())=(SD (d<z1) (z1=nF (d,m,l,())) (SD (nj<d) (z1=nF (d,m,l,())) (True/\SP (!(decide (z1<=m)
 &&decide (m<=z3))) (z1=nF (d,m,l,())) (SD (uR<(ln l)) (z2=nF (d,m,l,())) (LP (τ:=Int×List Int) (z0,bytesOf {data:=#[]}) fun I μ x=>SD (x.1<(ln l)) ((IR x.1
 l)/\True/\SP (!decide (pM (l.getD x.1.toNat (eI,z0,z0,z0,eL,())) x.2=z0)) (pM (l.getD x.1.toNat (eI,z0,z0,z0,eL,())) x.2=nF (d,m,l,())) ((IR x.1 l)/\aa (x.1+
 z1)/\NX I μ x (x.1+z1,(l.getD x.1.toNat (eI,z0,z0,z0,eL,())).1))) (z0=nF (d,m,l,()))))))):=by kernel_rfl
end Go.Proofs.YtobfmplofoofkaaGreatDoor
namespace Go.PL
open Go.AM
theorem qjz:[bytesOf {data:=#[(97:UInt8),(108:UInt8),(108:UInt8)]},bytesOf {data:=#[(97:UInt8),(110:UInt8),(100:UInt8)]},bytesOf {data:=#[(104:UInt8),(97:UInt8),(115:UInt8)]},bytesOf {data:=#[(105:UInt8),(110:UInt8)]},bytesOf {data:=#[(110:UInt8),(111:UInt8),(116:UInt8)]},bytesOf {data:=#[(111:UInt8),(114:UInt8)]}]=kws:=by decide+kernel
theorem oH{α:Type}{l:List α}{d:α}{i:Nat}(h:i<l.length):l.getD i d∈l:=by
 rw[Wab,Waa h];exact WaJ _
theorem pN{α:Type}{l:List α}(d:α){x:α}(h:x∈l):∃i,i<l.length/\l.getD i d=x:=by
 obtain⟨i,hi,e⟩:=WaM h;exact⟨i,hi,by rw[Wab,Waa hi];exact e⟩
theorem L1{n:Nat}{p:Nat->Bool}{i:Nat}(hi:i<n)(h:p i=false):upto n p=false:=uY fun hu=>by
 have:=m9.1 hu i hi
 rw[h]at this;cases this
theorem qbI{s:List Int}{i:Nat}(hi:i<s.length)(h:chB s i=false):false=kS s:=by
 unfold kS;rw[L1 hi h];rfl
theorem WS{s:List Int}(h:∀j,j<s.length->chB s j=true):kS s=(decide (1<=s.length)&&(decide (s.length<=40)&& !decide (s∈kws))):=by
 unfold kS;rw[m9.2 h];rfl
theorem UC{s:List Int}{i:Nat}:chB s i=true↔(97<=s.getD i 0/\s.getD i 0<=122)\/(i≠0/\((48<=s.getD i 0/\s.getD i 0<=57)\/s.getD i 0=95)):=by
 unfold chB qmY qmZ;simp only[WaL,Wac,decide_eq_true_eq,WaU,decide_eq_false_iff_not,ne_eq]
theorem qjA{s:List Int}{i:Nat}(h:¬((97<=s.getD i 0/\s.getD i 0<=122)\/(i≠0/\((48<=s.getD i 0/\s.getD i 0<=57)\/s.getD i 0=95)))):chB s i=false:=uY fun hc=>h (UC.1 hc)
end Go.PL
namespace Go.Proofs.YtobfmplofoofkaaGreatDoor
open Go.AM Go.PL
attribute [local irreducible] aW cz
theorem vZ:au AF0:=az trivial trivial
theorem L2:Sat bs.P 76 tN:=bx vZ 6 _ tN fun (⟨l,s⟩:List (List Int)×List Int) hok _=>by
 rw[qjx];have hm:l.length<=9223372036854775807:=hok.1.1;refine⟨fun x=>0<=x/\x<=l.length/\∀j:Nat,(j:Int)<x->l.getD j []≠s,fun x=>(l.length-x).toNat,⟨by omega,by omega,fun j hj=>by omega⟩,?_⟩
 rintro x ⟨h0,h1,h2⟩
 refine⟨fun h=>?_,fun h=>?_⟩
 ·have h:=dt h;refine⟨⟨h0,h⟩,fun he=>?_,fun he=>⟨iC h0 h hm,⟨by omega,by omega,iB h0 h2 fun e=>df he e.symm⟩,by dsimp only;omega⟩⟩
  rw[decide_eq_true h0,decide_eq_true];rw[dt he];exact oH (by omega)
 ·have h:=df h;rw[decide_eq_false];intro hm';obtain⟨i,hi,e⟩:=pN [] hm';exact h2 i (by omega) e
theorem GB:Sat bs.P 137 tN:=bx vZ 6 _ tN fun (⟨l,s⟩:List (List Int)×List Int) hok _=>by
 rw[qfp];have hm:l.length<=9223372036854775807:=hok.1.1;refine⟨fun x=>0<=x/\x<=l.length/\∀j:Nat,(j:Int)<x->l.getD j []≠s,fun x=>(l.length-x).toNat,⟨by omega,by omega,fun j hj=>by omega⟩,?_⟩
 rintro x ⟨h0,h1,h2⟩
 refine⟨fun h=>?_,fun h=>?_⟩
 ·have h:=dt h;refine⟨⟨h0,h⟩,fun he=>?_,fun he=>⟨iC h0 h hm,⟨by omega,by omega,iB h0 h2 (df he)⟩,by dsimp only;omega⟩⟩
  rw[decide_eq_true];rw[<-dt he];exact oH (by omega)
 ·have h:=df h;rw[decide_eq_false];intro hm';obtain⟨i,hi,e⟩:=pN [] hm';exact h2 i (by omega) e
theorem yq:Sat bs.P 55 Af:=bx vZ 6 _ Af fun (m:Int) hok _=>by
 rw[WR];refine⟨fun h=>?_,fun h=>?_⟩
 ·rw[h];rfl
 ·rw[h];rfl
theorem UD:Sat bs.P 32 O8:=bx vZ 6 _ O8 fun (v:List Int) hok _=>by
 rw[qjy];delta IR LP NX SD SP ln z0 z1 nj;dsimp only
 have hm:v.length<=9223372036854775807:=hok.1;have hall:∀b:Bool,(b=true↔∀j:Nat,(j:Int)<v.length-> -1000<=v.getD j 0/\v.getD j 0<=1000)->DN v=(b&&(decide (1<=v.length)&&decide (v.length<=32))):=fun b hb=>by
  unfold DN;congr 1
  apply LY
  rw[hb,Wau];constructor
  ·intro h j hj;have:=h _ (oH (d:=0) (show j<v.length by omega))
   simpa using this
  ·intro h x hx;obtain⟨j,hj,e⟩:=pN 0 hx;have:=h j (by omega)
   rw[e]at this;simpa using this
 refine⟨fun x=>0<=x.1/\x.1<=v.length/\(x.2=true↔∀j:Nat,(j:Int)<x.1-> -1000<=v.getD j 0/\v.getD j 0<=1000),fun x=>(v.length-x.1).toNat,⟨by omega,by omega,by simp;omega⟩,?_⟩
 rintro⟨x,b⟩ ⟨h0,h1,h2⟩
 simp only at h0 h1 h2 ⊢
 have step:∀b':Bool,(b'=true↔b=true/\(-1000<=v.getD x.toNat 0/\v.getD x.toNat 0<=1000))->(b'=true↔∀j:Nat,(j:Int)<x+1-> -1000<=v.getD j 0/\v.getD j 0<=1000):=fun b' hb=>by
  rw[hb,h2];constructor
  ·rintro⟨g1,g2⟩
   exact iB h0 g1 g2
  ·intro g;exact⟨fun j hj=>g j (by omega),g x.toNat (by omega)⟩
 refine⟨fun h=>?_,fun h=>?_⟩
 ·have h:=dt h;have hi:aa (x+1):=iC h0 h hm;refine⟨⟨h0,h⟩,fun hb=>⟨fun hc=>⟨hi,⟨by omega,by omega,step _ ?_⟩,by omega⟩,fun hc=>⟨hi,⟨by omega,by omega,step _ ?_⟩,by omega⟩⟩,fun hb=>⟨hi,⟨by omega,by omega,step _ ?_⟩,by omega⟩⟩
  ·have:=dt hc
   rw[decide_eq_true_eq];exact⟨fun g=>⟨hb,this,g⟩,fun g=>g.2.2⟩
  ·have:=df hc
   exact⟨fun g=>(by cases g),fun g=>absurd g.2.1 this⟩
  ·exact⟨fun g=>(by cases g),fun g=>(by rw[hb]at g;cases g.1)⟩
 ·have h:=df h;have hx:x=v.length:=by omega
  subst hx;rw[hall b h2];refine⟨fun hb=>⟨fun hc=>?_,fun hc=>?_⟩,fun hb=>?_⟩
  ·have hc:=dt hc;rw[hb,decide_eq_true (show 1<=v.length by omega)]
   simp only[Bool.true_and];exact RX (by simp;omega)
  ·have hc:=df hc;rw[decide_eq_false (show ¬1<=v.length by omega)]
   simp
  ·rw[hb];rfl
theorem WT:au AF1:=az ⟨L2,GB,trivial⟩ trivial
theorem BW:Sat bs.P 107 L0:=bx WT 6 _ L0 fun (s:List Int) hok _=>by
 rw[qbG];delta Ag IR LP NX SD SP ln z0 z1 z40 z48 z57;dsimp only;rw[qjz]
 have hm:s.length<=9223372036854775807:=hok.2;refine⟨fun x=>0<=x/\x<=s.length/\∀j:Nat,(j:Int)<x->chB s j=true,fun x=>(s.length-x).toNat,⟨by omega,by omega,fun j hj=>by omega⟩,?_⟩
 rintro x ⟨h0,h1,h2⟩
 refine⟨fun h=>?_,fun h=>?_⟩
 ·have h:=dt h;have hi:aa (x+1):=iC h0 h hm;have go:chB s x.toNat=true->aa (x+1)/\(0<=x+1/\x+1<=s.length/\∀j:Nat,(j:Int)<x+1->chB s j=true)/\((s.length:Int)-(x+1)).toNat<((s.length:Int)-x).toNat:=fun hc=>⟨hi,⟨by omega,by omega,iB h0 h2 hc⟩,by omega⟩
  have no:chB s x.toNat=false->false=kS s:=fun hc=>qbI (by omega) hc
  have hx0:x=0↔x.toNat=0:=by omega
  refine⟨⟨h0,h⟩,?_⟩
  repeat' apply And.intro
  all_goals (repeat' (first|(intro hh;first|(replace hh:=dt hh)|(replace hh:=df hh)|(replace hh:=ndt hh)|(replace hh:=Uy hh))|apply And.intro))
  all_goals first
   |exact no (qjA (by omega))
   |exact hi
   |omega
   |(dsimp only;omega)
   |exact iB h0 h2 (UC.2 (by omega))
 ·have h:=df h;rw[WS fun j hj=>h2 j (by omega)]
  refine⟨fun hc=>⟨fun hd=>⟨trivial,?_⟩,fun hd=>?_⟩,fun hc=>?_⟩
  ·have hc:=dt hc;have hd:=dt hd;rw[decide_eq_true (show 1<=s.length by omega),decide_eq_true (show s.length<=40 by omega)]
   rfl
  ·have hd:=df hd;rw[decide_eq_false (show ¬s.length<=40 by omega)]
   simp
  ·have hc:=df hc;rw[decide_eq_false (show ¬1<=s.length by omega)]
   rfl
end Go.Proofs.YtobfmplofoofkaaGreatDoor
namespace Go.PL
open Go.AM
theorem WU{l:List Df}{x:Int}(h0:0<=x)(h:x<l.length)(b:List Int):GA (l.drop x.toNat) b=if pM (l.getD x.toNat ([],0,0,0,[],())) b≠0 then pM (l.getD x.toNat ([],0,0,0,[],())) b else GA (l.drop (x+1).toNat) (l.getD x.toNat ([],0,0,0,[],())).1:=by
 have hlt:x.toNat<l.length:=by omega
 rw[Wa9 hlt,show (x+1).toNat=x.toNat+1 by omega,Wab,Waa hlt]
 rfl
theorem qbJ{l:List Df}{x:Int}(h:¬x<l.length)(b:List Int):GA (l.drop x.toNat) b=0:=by
 rw[Wbx (by omega)]
 rfl
theorem GC{d m:Int}{l:List Df}(h:d<1\/32<d\/m<1\/3<m):nF (d,m,l,())=1:=by
 unfold nF;rw[if_pos h]
theorem qbK{d m:Int}{l:List Df}(h:¬(d<1\/32<d\/m<1\/3<m))(hl:16<l.length):nF (d,m,l,())=2:=by
 unfold nF;rw[if_neg h,if_pos hl]
theorem qbL{d m:Int}{l:List Df}(h:¬(d<1\/32<d\/m<1\/3<m))(hl:¬16<l.length):nF (d,m,l,())=GA l []:=by
 unfold nF;rw[if_neg h,if_neg hl]
end Go.PL
namespace Go.Proofs.YtobfmplofoofkaaGreatDoor
open Go.AM Go.PL
attribute [local irreducible] aW cz
theorem WV:au AF2:=az ⟨BW,yq,trivial⟩ trivial
theorem WW:Sat bs.P 108 Eo:=bx WV 6 _ Eo fun (l:List (List Int)) hok _=>by
 rw[qbH];delta IR LP NX SD SP eI ln z0 z1 z2 z5 z50 z6;dsimp only
 have hm:l.length<=9223372036854775807:=hok.1;refine⟨fun h=>?_,fun h=>⟨fun g=>?_,fun g=>?_⟩⟩
 ·have h:=dt h;unfold mz;rw[if_pos (by omega)]
 ·have g:=dt g;unfold mz;rw[if_pos (by omega)]
 have h:=df h;have g:=df g;have hn:¬(l.length<1\/50<l.length):=by omega
 refine⟨fun x=>0<=x/\x<=l.length/\∀j:Nat,(j:Int)<x->kS (l.getD j [])=true,fun x=>(l.length-x).toNat,⟨by omega,by omega,fun j hj=>by omega⟩,?_⟩
 rintro x ⟨h0,h1,h2⟩
 refine⟨fun h=>?_,fun h=>?_⟩
 ·have h:=dt h;refine⟨⟨h0,h⟩,trivial,fun he=>?_,fun he=>⟨iC h0 h hm,⟨by omega,by omega,iB h0 h2 (by simpa using he)⟩,by dsimp only;omega⟩⟩
  unfold mz;rw[if_neg hn,L1 (i:=x.toNat) (by omega) (by simpa using he)]
  rfl
 ·have h:=df h;have hu:(upto l.length fun i=>kS (l.getD i []))=true:=m9.2 fun j hj=>h2 j (by omega)
  refine⟨fun x=>1<=x/\∀j:Nat,(j:Int)+1<x->leS (l.getD (j+1) []) (l.getD j [])=false,fun x=>(l.length-x).toNat,⟨by omega,fun j hj=>by omega⟩,?_⟩
  rintro x ⟨h0,h2⟩
  have e1:x.toNat=(x-1).toNat+1:=by omega
  refine⟨fun h=>?_,fun h=>?_⟩
  ·have h:=dt h;refine⟨⟨by omega,h⟩,by unfold aa;omega,⟨by omega,by omega⟩,fun hc=>?_,fun hc=>⟨by unfold aa;omega,⟨by omega,fun j hj=>?_⟩,by dsimp only;omega⟩⟩
   ·unfold mz LZ;rw[if_neg hn,hu,L1 (i:=(x-1).toNat) (by omega)]
    ·rfl
    ·rw[<-e1];have:leS (l.getD x.toNat []) (l.getD (x-1).toNat [])=true:=hc
     rw[this];rfl
   ·by_cases hj':(j:Int)+1<x
    ·exact h2 j hj'
    ·have hjx:j=(x-1).toNat:=by omega
     subst hjx;rw[<-e1];exact hc
  ·have h:=df h;have hr:LZ l=true:=m9.2 fun j hj=>by
    rw[h2 j (by omega)]
    rfl
   unfold mz;rw[if_neg hn,hu,hr];rfl
theorem WX:au AF3:=az ⟨WW,BW,yq,trivial⟩ trivial
theorem qbM:Sat bs.P 56 UA:=bx WX 6 _ UA fun (⟨⟨n,k,lo,hi,w,⟨⟩⟩,b⟩:Df×List Int) hok _=>by
 rw[qfq];delta SD SP ln z0 z1 z2 z3 z5 z6
 simp only[pM,leS];refine⟨trivial,?_⟩
 repeat' (first|apply And.intro|(intro hh;first|(replace hh:=dt hh)|(replace hh:=df hh)|(replace hh:=ndt hh)|(replace hh:=Uy hh))|intro hh)
 all_goals simp_all
 all_goals (split<;>first|omega|rfl|(split<;>first|omega|rfl))
theorem WY:au AF4:=az ⟨qbM,BW,yq,trivial⟩ trivial
theorem qbN:Sat bs.P 20 UB:=bx WY 6 _ UB fun (⟨d,m,l,⟨⟩⟩:Int×Int×List Df×Unit) hok _=>by
 rw[qfr];delta IR LP NX SD SP eI eL ln z0 z1 uR z2 z3 nj;dsimp only
 have hm:l.length<=9223372036854775807:=hok.2.2.1.1;refine⟨fun h=>?_,fun h1=>⟨fun h=>?_,fun h2=>⟨trivial,fun h=>?_,fun h3=>⟨fun h=>?_,fun h4=>?_⟩⟩⟩⟩
 ·rw[GC (by have:=dt h;omega)]
 ·rw[GC (by have:=dt h;omega)]
 ·rw[GC (by simp at h;omega)]
 ·rw[qbK (by have:=df h1;have:=df h2;simp at h3;omega) (by have:=dt h;omega)]
 have hr:nF (d,m,l,())=GA l []:=qbL (by have:=df h1;have:=df h2;simp at h3;omega) (by have:=df h4;omega)
 rw[hr];refine⟨fun x=>0<=x.1/\x.1<=l.length/\GA (l.drop x.1.toNat) x.2=GA l [],fun x=>(l.length-x.1).toNat,⟨by omega,by omega,rfl⟩,?_⟩
 rintro⟨x,b⟩ ⟨h0,h1,h2⟩
 dsimp only at h0 h1 h2 ⊢;refine⟨fun h=>?_,fun h=>?_⟩
 ·have h:=dt h;rw[WU h0 h]at h2;refine⟨⟨h0,h⟩,trivial,fun hd=>?_,fun hd=>⟨⟨h0,h⟩,iC h0 h hm,⟨by omega,by omega,?_⟩,by omega⟩⟩
  ·rw[if_pos (ndt hd)]at h2;exact h2
  ·rw[if_neg (fun g=>g (Uy hd))]at h2
   exact h2
 ·have h:=df h;rw[qbJ h]at h2;exact h2
end Go.Proofs.YtobfmplofoofkaaGreatDoor
namespace Go.PL
open Go.AM
def DO:List Df->List Int->Int->Int
 |[],_,_=>-1
 |d::l,n,k=>if d.1=n then k else DO l n (k+1)
def qbO(d:Df)(a:At):Int:=
 if a.2.1≠d.2.1 then 130 else if a.2.1=1 then (if a.2.2.2.1≠[] then 3 else if a.2.2.1<d.2.2.1\/d.2.2.2.1<a.2.2.1 then 131 else 0) else
 if a.2.2.1≠0 then 3 else if a.2.2.2.1∉d.2.2.2.2.1 then 131 else 0
def GD(ds:List Df):List At->List Int->Int
 |[],_=>0
 |a::l,b=>if DO ds a.1 0<0 then 5 else if leS a.1 b=true then 6 else
  if qbO (ds.getD (DO ds a.1 0).toNat ([],0,0,0,[],())) a≠0 then qbO (ds.getD (DO ds a.1 0).toNat ([],0,0,0,[],())) a else GD ds l a.1
def cX(s:Sc)(l:List At):Int:=GD s.2.2.1 l []
def iD(s:Sc)(e:En):Int:=
 if e.1<1\/1073741824<e.1\/e.2.2.1<1\/1073741824<e.2.2.1\/e.2.1<1\/1073741824<e.2.1 then 1 else
 if e.2.2.2.1<0\/e.2.2.2.2.1<e.2.2.2.1\/e.2.2.2.2.2.1<=e.2.2.2.2.1\/1048577<e.2.2.2.2.2.1\/1048576<e.2.2.2.2.1\/e.2.2.2.2.2.2.1<1\/1073741824<e.2.2.2.2.2.2.1 then 9 else
 if (e.2.2.2.2.2.2.2.1.length:Int)≠s.1\/DN e.2.2.2.2.2.2.2.1=false then 40 else cX s e.2.2.2.2.2.2.2.2.1
def eM(s:Sc):Prop:=∀d∈s.2.2.1,d.1≠[]
end Go.PL
namespace Go.Proofs.YtobfmplofoofkaaGreatDoor
open Go.AM Go.PL
def L3:aJ:=⟨[SC,AL],[I],fun x=>eM x.1,fun x=>cX x.1 x.2⟩
def UE:aJ:=⟨[SC,EN],[I],fun x=>eM x.1,fun x=>iD x.1 x.2⟩
def qjB(f:FuncId)(r:Nat):List LA:=
 if Nat.beq f 33 then [.slot 14 I,.cell 0 0 .str] else
 if Nat.beq f 69 then [.slot 8 I,.cell 0 0 .str,.cell 1 0 .str,.cell 1 1 I,.cell 1 2 I,.cell 1 3 .str] else
 []
def qht(f:FuncId):Hint:=if Nat.beq f 999999995 then⟨fun _=>[],fun _=>.split,fun _=>.split,qbF⟩ else
 ⟨qjB f,fun r=>bif Nat.beq f 33&&Nat.beq r 8 then .all else .split,fun t=>bif Nat.beq f 26&&Nat.beq t 8 then .force else .split,fun r=>bif Nat.beq f 26 then 7 else bif Nat.beq f 33&&Nat.ble 6 r then 701 else 0⟩
noncomputable def AP0:Ctx:=bA bs [(76,tN),(137,tN),(32,O8)] [] qht
abbrev mA:Type:=Int×List Int×List Int×Int×Int×List Int
abbrev gd(x:Int×List Int)(I:Int×List Int->Prop)(μ:Int×List Int->Nat)(x_1:mA):=aa (x.1+z1)/\NX I μ x (x.1+z1,x_1.2.2.1)
abbrev qN:=(eI,z0,z0,z0,eL,())
abbrev RZ(x_1:mA)(l:List Df)(d m:Int)(a:List At)(x:Int×List Int)(I:Int×List Int->Prop)(μ:Int×List Int->Nat):=aa z4/\(z0<=z4/\z4<z5)/\SP
 (!decide (x_1.2.2.2.1=z1)) (True/\SP (!decide (x_1.2.2.2.2.2∈(l.getD x_1.1.toNat qN).2.2.2.2.1)) (SP true ((131:Int)=cX (d,m,l,()) a) (gd x I μ x_1)) (aa z5/\SP
 false (z0=cX (d,m,l,()) a) (gd x I μ x_1))) (aa z5/\SP false (z0=cX (d,m,l,()) a) (gd x I μ x_1))
abbrev GF(x_1:mA)(l:List Df)(d m:Int)(a:List At)(x:Int×List Int)(I:Int×List Int->Prop)(μ:Int×List Int->Nat):=aa z3/\(z0<=z3/\z3<z5)/\SD
 (x_1.2.2.2.1=z1) (SD (x_1.2.2.2.2.1<(l.getD x_1.1.toNat qN).2.2.1) (SP true ((131:Int)=cX (d,m,l,()) a) (gd x I μ x_1)) (SD ((l.getD x_1.1.toNat qN).2.2.2.1<
 x_1.2.2.2.2.1) (SP true ((131:Int)=cX (d,m,l,()) a) (gd x I μ x_1)) (RZ x_1 l d m a x I μ))) (RZ x_1 l d m a x I μ)
abbrev R4(x_1:mA)(l:List Df)(d m:Int)(a:List At)(x:Int×List Int)(I:Int×List Int->Prop)(μ:Int×List Int->Nat):=aa z4/\(z0<=z4/\z4<z5)/\SP
 (!decide (x_1.2.2.2.1=z1)) (True/\SP (!decide (x_1.2.2.2.2.2∈(l.getD y0 qN).2.2.2.2.1)) (SP true ((131:Int)=cX (d,m,l,()) a) (gd x I μ x_1)) (aa z5/\SP false (z0
 =cX (d,m,l,()) a) (gd x I μ x_1))) (aa z5/\SP false (z0=cX (d,m,l,()) a) (gd x I μ x_1))
abbrev GG(x_1:mA)(l:List Df)(d m:Int)(a:List At)(x:Int×List Int)(I:Int×List Int->Prop)(μ:Int×List Int->Nat):=aa z3/\(z0<=z3/\z3<z5)/\SD
 (x_1.2.2.2.1=z1) (SD (x_1.2.2.2.2.1<(l.getD y0 qN).2.2.1) (SP true ((131:Int)=cX (d,m,l,()) a) (gd x I μ x_1)) (SD ((l.getD y0 qN).2.2.2.1<x_1.2.2.2.2.1) (SP
 true ((131:Int)=cX (d,m,l,()) a) (gd x I μ x_1)) (R4 x_1 l d m a x I μ))) (R4 x_1 l d m a x I μ)
theorem qfs(d m:Int)(l:List Df)(a:List At):aW AP0 8 33 L3 ((d,m,l,()),a)=(LP (τ:=Int×List Int) (z0,bytesOf {data:=#[]}) fun I μ x=>SD (x.1<(ln a))
 ((IR x.1 a)/\LP (z0,x.2,(a.getD x.1.toNat (eI,z0,z0,eI,())).1,(a.getD x.1.toNat (eI,z0,z0,eI,())).2.1,(a.getD x.1.toNat (eI,z0,z0,eI,())).2.2.1,(a.getD x.1.toNat (eI,z0,
 z0,eI,())).2.2.2.1) fun wK iS x_1=>SD (x_1.1<(ln l)) ((IR x_1.1 l)/\SD ((l.getD x_1.1.toNat qN).1=x_1.2.2.1) (SD (x_1.1<z0) (z5=cX (d,m,l,()) a) ((IR x_1.1 l)/\(z0
 <=z0/\z0<z5)/\SP (AM.strLt x_1.2.2.1 x_1.2.1||decide (x_1.2.2.1=x_1.2.1)) (SP true (z6=cX (d,m,l,()) a) (gd x I μ x_1)) (aa z1/\(z0<=z1/\z1<z5)/\SP (!decide
 (x_1.2.2.2.1=(l.getD x_1.1.toNat qN).2.1)) (SP true ((130:Int)=cX (d,m,l,()) a) (gd x I μ x_1)) (aa z2/\(z0<=z2/\z2<z5)/\SD (x_1.2.2.2.1=z1) (SP (!decide
 (x_1.2.2.2.2.2=bytesOf {data:=#[]})) (SP true (z3=cX (d,m,l,()) a) (gd x I μ x_1)) (SP (!decide (x_1.2.2.2.1=z1)) (SP (!decide (x_1.2.2.2.2.1=z0)) (SP true (z3=cX
 (d,m,l,()) a) (gd x I μ x_1)) (GF x_1 l d m a x I μ)) (GF x_1 l d m a x I μ))) (SP (!decide (x_1.2.2.2.1=z1)) (SP (!decide (x_1.2.2.2.2.1=z0)) (SP true (z3=cX (d,m,
 l,()) a) (gd x I μ x_1)) (GF x_1 l d m a x I μ)) (GF x_1 l d m a x I μ)))))) (aa (x_1.1+z1)/\NX wK iS x_1 (x_1.1+z1,x_1.2))) (SP true (z5=cX (d,m,l,()) a)
 ((IR (-1:Int) l)/\(z0<=z0/\z0<z5)/\SP (AM.strLt x_1.2.2.1 x_1.2.1||decide (x_1.2.2.1=x_1.2.1)) (SP true (z6=cX (d,m,l,()) a) (gd x I μ x_1)) (aa z1/\(z0<=z1/\
 z1<z5)/\SP (!decide (x_1.2.2.2.1=(l.getD y0 qN).2.1)) (SP true ((130:Int)=cX (d,m,l,()) a) (gd x I μ x_1)) (aa z2/\(z0<=z2/\z2<z5)/\SD (x_1.2.2.2.1=z1) (SP
 (!decide (x_1.2.2.2.2.2=bytesOf {data:=#[]})) (SP true (z3=cX (d,m,l,()) a) (gd x I μ x_1)) (SP (!decide (x_1.2.2.2.1=z1)) (SP (!decide (x_1.2.2.2.2.1=z0)) (SP true
 (z3=cX (d,m,l,()) a) (gd x I μ x_1)) (GG x_1 l d m a x I μ)) (GG x_1 l d m a x I μ))) (SP (!decide (x_1.2.2.2.1=z1)) (SP (!decide (x_1.2.2.2.2.1=z0)) (SP true (z3=
 cX (d,m,l,()) a) (gd x I μ x_1)) (GG x_1 l d m a x I μ)) (GG x_1 l d m a x I μ))))))) (z0=cX (d,m,l,()) a)):=by kernel_rfl
def tP1:List (FuncId×aJ):=[(76,tN),(137,tN),(32,O8)]
noncomputable def AP2:Ctx:=bA bs ((33,L3)::tP1) [] qht
theorem qjC(d m:Int)(l:List Df)(id nE ow fi fr to bo:Int)(ve:List Int)(a:List At):aW AP2 8 6 UE ((d,m,l,()),(id,nE,ow,fi,fr,to,bo,ve,a,()))
 =(((0:Int)<=(0:Int)/\(0:Int)<(5:Int))/\(decide (id<(1:Int))=true->(true=true->(1:Int)=iD (d,m,l,()) (id,nE,ow,fi,fr,to,bo,ve,a,()))/\
 (true=false->eM (d,m,l,())/\cX (d,m,l,()) a=iD (d,m,l,()) (id,nE,ow,fi,fr,to,bo,ve,a,())))/\(decide (id<(1:Int))=false->(decide
 ((1073741824:Int)<id)=true->(true=true->(1:Int)=iD (d,m,l,()) (id,nE,ow,fi,fr,to,bo,ve,a,()))/\(true=false->eM (d,m,l,())/\cX (d,m,
 l,()) a=iD (d,m,l,()) (id,nE,ow,fi,fr,to,bo,ve,a,())))/\(decide ((1073741824:Int)<id)=false->(decide (ow<(1:Int))=true->(true=true->(1:Int)
 =iD (d,m,l,()) (id,nE,ow,fi,fr,to,bo,ve,a,()))/\(true=false->eM (d,m,l,())/\cX (d,m,l,()) a=iD (d,m,l,()) (id,nE,ow,fi,fr,to,bo,
 ve,a,())))/\(decide (ow<(1:Int))=false->(decide ((1073741824:Int)<ow)=true->(true=true->(1:Int)=iD (d,m,l,()) (id,nE,ow,fi,fr,to,bo,ve,a,
 ()))/\(true=false->eM (d,m,l,())/\cX (d,m,l,()) a=iD (d,m,l,()) (id,nE,ow,fi,fr,to,bo,ve,a,())))/\(decide ((1073741824:Int)<ow)=false->
 (decide (nE<(1:Int))=true->(true=true->(1:Int)=iD (d,m,l,()) (id,nE,ow,fi,fr,to,bo,ve,a,()))/\(true=false->eM (d,m,l,())/\cX (d,m,
 l,()) a=iD (d,m,l,()) (id,nE,ow,fi,fr,to,bo,ve,a,())))/\(decide (nE<(1:Int))=false->(decide ((1073741824:Int)<nE)=true->(true=true->(1:
 Int)=iD (d,m,l,()) (id,nE,ow,fi,fr,to,bo,ve,a,()))/\(true=false->eM (d,m,l,())/\cX (d,m,l,()) a=iD (d,m,l,()) (id,nE,ow,fi,fr,to,
 bo,ve,a,())))/\(decide ((1073741824:Int)<nE)=false->aa (1:Int)/\((0:Int)<=(1:Int)/\(1:Int)<(5:Int))/\(decide (fi<(0:Int))=true->(true=true
 ->(9:Int)=iD (d,m,l,()) (id,nE,ow,fi,fr,to,bo,ve,a,()))/\(true=false->eM (d,m,l,())/\cX (d,m,l,()) a=iD (d,m,l,()) (id,nE,ow,fi,
 fr,to,bo,ve,a,())))/\(decide (fi<(0:Int))=false->(decide (fr<fi)=true->(true=true->(9:Int)=iD (d,m,l,()) (id,nE,ow,fi,fr,to,bo,ve,a,()))/\
 (true=false->eM (d,m,l,())/\cX (d,m,l,()) a=iD (d,m,l,()) (id,nE,ow,fi,fr,to,bo,ve,a,())))/\(decide (fr<fi)=false->(decide ((1048576:
 Int)<fr)=true->(true=true->(9:Int)=iD (d,m,l,()) (id,nE,ow,fi,fr,to,bo,ve,a,()))/\(true=false->eM (d,m,l,())/\cX (d,m,l,()) a=iD
 (d,m,l,()) (id,nE,ow,fi,fr,to,bo,ve,a,())))/\(decide ((1048576:Int)<fr)=false->aa (2:Int)/\((0:Int)<=(2:Int)/\(2:Int)<(5:Int))/\(decide
 (to<=fr)=true->(true=true->(9:Int)=iD (d,m,l,()) (id,nE,ow,fi,fr,to,bo,ve,a,()))/\(true=false->eM (d,m,l,())/\cX (d,m,l,()) a=iD
 (d,m,l,()) (id,nE,ow,fi,fr,to,bo,ve,a,())))/\(decide (to<=fr)=false->(decide ((1048577:Int)<to)=true->(true=true->(9:Int)=iD (d,m,l,()) (id,
 nE,ow,fi,fr,to,bo,ve,a,()))/\(true=false->eM (d,m,l,())/\cX (d,m,l,()) a=iD (d,m,l,()) (id,nE,ow,fi,fr,to,bo,ve,a,())))/\(decide
 ((1048577:Int)<to)=false->aa (3:Int)/\((0:Int)<=(3:Int)/\(3:Int)<(5:Int))/\(decide (bo<(1:Int))=true->(true=true->(9:Int)=iD (d,m,l,
 ()) (id,nE,ow,fi,fr,to,bo,ve,a,()))/\(true=false->eM (d,m,l,())/\cX (d,m,l,()) a=iD (d,m,l,()) (id,nE,ow,fi,fr,to,bo,ve,a,())))/\
 (decide (bo<(1:Int))=false->(decide ((1073741824:Int)<bo)=true->(true=true->(9:Int)=iD (d,m,l,()) (id,nE,ow,fi,fr,to,bo,ve,a,()))/\(true=
 false->eM (d,m,l,())/\cX (d,m,l,()) a=iD (d,m,l,()) (id,nE,ow,fi,fr,to,bo,ve,a,())))/\(decide ((1073741824:Int)<bo)=false->aa (4:
 Int)/\((0:Int)<=(4:Int)/\(4:Int)<(5:Int))/\((!decide ((↑ve.length:Int)=d))=true->(true=true->(40:Int)=iD (d,m,l,()) (id,nE,ow,fi,fr,to,bo,
 ve,a,()))/\(true=false->eM (d,m,l,())/\cX (d,m,l,()) a=iD (d,m,l,()) (id,nE,ow,fi,fr,to,bo,ve,a,())))/\((!decide ((↑ve.length:Int)=d))
 =false->True/\((!DN ve)=true->(true=true->(40:Int)=iD (d,m,l,()) (id,nE,ow,fi,fr,to,bo,ve,a,()))/\(true=false->eM (d,m,l,())/\cX (d,
 m,l,()) a=iD (d,m,l,()) (id,nE,ow,fi,fr,to,bo,ve,a,())))/\((!DN ve)=false->aa (5:Int)/\(false=true->(0:Int)=iD (d,m,l,()) (id,nE,ow,
 fi,fr,to,bo,ve,a,()))/\(false=false->eM (d,m,l,())/\cX (d,m,l,()) a=iD (d,m,l,()) (id,nE,ow,fi,fr,to,bo,ve,a,())))))))))))))))))):=by
 kernel_rfl
end Go.Proofs.YtobfmplofoofkaaGreatDoor
namespace Go.PL
open Go.AM
theorem WZ{l:List Df}{x:Int}(h0:0<=x)(h:x<l.length)(n:List Int):DO (l.drop x.toNat) n x=if (l.getD x.toNat ([],0,0,0,[],())).1=n then x else DO (l.drop (x+1).toNat) n (x+1):=by
 have hlt:x.toNat<l.length:=by omega
 rw[Wa9 hlt,show (x+1).toNat=x.toNat+1 by omega,Wab,Waa hlt]
 rfl
theorem qbP{l:List Df}{x:Int}(h:¬x<l.length)(n:List Int):DO (l.drop x.toNat) n x= -1:=by
 rw[Wbx (by omega)]
 rfl
theorem R5(ds:List Df){l:List At}{x:Int}(h0:0<=x)(h:x<l.length)(b:List Int):GD ds (l.drop x.toNat) b=
 if DO ds (l.getD x.toNat ([],0,0,[],())).1 0<0 then 5 else if leS (l.getD x.toNat ([],0,0,[],())).1 b=true then 6 else
 if qbO (ds.getD (DO ds (l.getD x.toNat ([],0,0,[],())).1 0).toNat ([],0,0,0,[],())) (l.getD x.toNat ([],0,0,[],()))≠0 then qbO (ds.getD (DO ds (l.getD x.toNat ([],0,0,[],())).1 0).toNat ([],0,0,0,[],())) (l.getD x.toNat ([],0,0,[],())) else
 GD ds (l.drop (x+1).toNat) (l.getD x.toNat ([],0,0,[],())).1:=by
 have hlt:x.toNat<l.length:=by omega
 rw[Wa9 hlt,show (x+1).toNat=x.toNat+1 by omega,Wab,Waa hlt]
 rfl
theorem W2(ds:List Df){l:List At}{x:Int}(h:¬x<l.length)(b:List Int):GD ds (l.drop x.toNat) b=0:=by
 rw[Wbx (by omega)]
 rfl
end Go.PL
namespace Go.Proofs.YtobfmplofoofkaaGreatDoor
open Go.AM Go.PL
attribute [local irreducible] aW cz
theorem W3:au AP0:=az ⟨L2,GB,UD,trivial⟩ trivial
end Go.Proofs.YtobfmplofoofkaaGreatDoor
namespace Go.Proofs.YtobfmplofoofkaaGreatDoor
open Go.AM Go.PL
attribute [local irreducible] aW cz
theorem qbQ:Sat bs.P 33 L3:=bx W3 8 _ L3 fun (⟨⟨d,m,ds,⟨⟩⟩,l⟩:Sc×List At) hok hp=>by
 rw[qfs];delta mA gd qN RZ GF R4 GG IR LP NX SD SP eI eL ln y0 z0 z1 z2 z3 z4 z5 z6;dsimp only
 have hm:l.length<=9223372036854775807:=hok.2.1;have hmd:ds.length<=9223372036854775807:=hok.1.2.2.1.1;refine⟨fun x=>0<=x.1/\x.1<=l.length/\GD ds (l.drop x.1.toNat) x.2=cX (d,m,ds,()) l,fun x=>(l.length-x.1).toNat,⟨by omega,by omega,rfl⟩,?_⟩
 rintro⟨x,b⟩ ⟨h0,h1,h2⟩
 dsimp only at h0 h1 h2 ⊢;refine⟨fun h=>?_,fun h=>?_⟩
 ·have h:=dt h;rw[R5 ds h0 h]at h2;have hi:aa (x+1):=iC h0 h hm;generalize GD ds (l.drop (x+1).toNat)=rest at h2 ⊢
  generalize hT:cX (d,m,ds,()) l=T at h2 ⊢
  refine⟨⟨h0,h⟩,?_⟩
  obtain⟨a,ha⟩:∃a,a=l.getD x.toNat ([],0,0,[],()):=⟨_,rfl⟩
  rw[<-ha]at h2 ⊢;obtain⟨an,ak,av,sv,⟨⟩⟩:=a;dsimp only at h2 ⊢;refine⟨fun y=>0<=y.1/\y.1<=ds.length/\y.2=(b,an,ak,av,sv)/\DO (ds.drop y.1.toNat) an y.1=DO ds an 0,fun y=>(ds.length-y.1).toNat,⟨by omega,by omega,rfl,rfl⟩,?_⟩
  rintro⟨y,z⟩ ⟨g0,g1,g2,g3⟩
  dsimp only at g0 g1 g2 g3;subst g2;dsimp only;refine⟨fun hy=>?_,fun hy=>?_⟩
  ·have hy:=dt hy;have hiy:aa (y+1):=iC g0 hy hmd;rw[WZ g0 hy]at g3;refine⟨⟨g0,hy⟩,fun hn=>?_,fun hn=>⟨hiy,⟨by omega,by omega,rfl,?_⟩,by omega⟩⟩
   ·rw[if_pos (dt hn)]at g3;rw[<-g3,if_neg (by omega)]at h2
    refine⟨fun hc=>absurd (dt hc) (by omega),fun _=>⟨⟨g0,hy⟩,?_⟩⟩
    clear g3 hn
    obtain⟨D,hD⟩:∃D,D=ds.getD y.toNat ([],0,0,0,[],()):=⟨_,rfl⟩
    rw[<-hD]at h2 ⊢;obtain⟨dn,dk,lo,hi',w,⟨⟩⟩:=D;clear hD ha hT hp hok
    simp only[leS,qbO]at h2;dsimp only;have hlt:((l.length:Int)-(x+1)).toNat<((l.length:Int)-x).toNat:=by omega
    have ha1:0<=x+1:=by omega
    have ha2:x+1<=(l.length:Int):=by omega
    repeat' (first|exact hi|exact hlt|exact ha1|exact ha2|apply And.intro|(intro hh;first|(replace hh:=dt hh)|(replace hh:=df hh)|(replace hh:=ndt hh)|(replace hh:=Uy hh))|intro hh)
    all_goals first
     |trivial
     |omega
     |(unfold aa;omega)
     |(exfalso;simp_all;done)
     |(rw[<-h2];simp_all[bytesOf];done)
     |(rw[<-h2];simp_all[bytesOf];omega)
   ·rw[if_neg (df hn)]at g3;exact g3
  ·rw[qbP (df hy)]at g3;rw[<-g3,if_pos (by decide)]at h2
   exact⟨fun _=>h2,fun hc=>(by cases hc)⟩
 ·rw[W2 ds (df h)]at h2;exact h2
theorem W5:au AP2:=az ⟨qbQ,L2,GB,UD,trivial⟩ trivial
theorem qft:Sat bs.P 6 UE:=bx W5 8 _ UE fun (⟨⟨d,m,l,⟨⟩⟩,⟨id,nE,ow,fi,fr,to,bo,ve,a,⟨⟩⟩⟩:Sc×En) hok hp=>by
 rw[qjC];simp only[iD];repeat' (first|exact hp|apply And.intro|(intro hh;first|(replace hh:=dt hh)|(replace hh:=df hh)|(replace hh:=ndt hh)|(replace hh:=Uy hh))|intro hh)
 all_goals first
  |trivial
  |omega
  |(unfold aa;omega)
  |(exfalso;simp_all;done)
  |(rw[if_pos (by omega)];done)
  |(rw[if_neg (by omega),if_pos (by omega)];done)
  |(rw[if_neg (by omega),if_neg (by omega),if_pos (by simp_all;done)];done)
  |(rw[if_neg (by omega),if_neg (by omega),if_pos (by simp_all;omega)];done)
  |(rw[if_neg (by omega),if_neg (by omega),if_neg (by simp_all;done)];done)
end Go.Proofs.YtobfmplofoofkaaGreatDoor
namespace Go.PL
open Go.AM
def qbR(a:At):Bool:=decide (a.1.length<=300)&&decide (a.2.2.2.1.length<=300)
def iL(e:En):Bool:=decide (e.2.2.2.2.2.2.2.1.length<=40)&&(decide (e.2.2.2.2.2.2.2.2.1.length<=20)&&e.2.2.2.2.2.2.2.2.1.all qbR)
end Go.PL
namespace Go.Proofs.YtobfmplofoofkaaGreatDoor
open Go.AM Go.PL
def L4:aJ:=⟨[EN],[.bool],fun _=>True,fun e=>iL e⟩
def qfu(f:FuncId)(r:Nat):List LA:=
 if Nat.beq f 57 then [.slot 3 I] else []
def qjD(f:FuncId):Hint:=if Nat.beq f 999999995 then⟨fun _=>[],fun _=>.split,fun _=>.split,qbF⟩ else⟨qfu f,fun _=>.split,fun _=>.split,fun _=>0⟩
noncomputable def BF0:Ctx:=bA bs [] [] qjD
theorem qjE(e1 e2 e3 e4 e5 e6 e7:Int)(v:List Int)(l:List At):aW BF0 6 57 L4 (e1,e2,e3,e4,e5,e6,e7,v,l,())=(∃(I:Int->Prop),∃(μ:Int->Nat),I
 (0:Int)/\∀(x:Int),I x->(decide (x<(↑l.length:Int))=true->(decide (x<=(20:Int))=true->((0:Int)<=x/\x<(↑l.length:Int))/\(decide ((300:Int)<
 (↑(l.getD x.toNat ([],(0:Int),(0:Int),[],())).fst.length:Int))=true->false=iL (e1,e2,e3,e4,e5,e6,e7,v,l,()))/\(decide ((300:Int)<(↑(l.getD x.toNat
 ([],(0:Int),(0:Int),[],())).fst.length:Int))=false->((0:Int)<=x/\x<(↑l.length:Int))/\(decide ((300:Int)<(↑(l.getD x.toNat ([],(0:Int),(0:Int),[],
 ())).snd.snd.snd.fst.length:Int))=true->false=iL (e1,e2,e3,e4,e5,e6,e7,v,l,()))/\(decide ((300:Int)<(↑(l.getD x.toNat ([],(0:Int),(0:Int),[],
 ())).snd.snd.snd.fst.length:Int))=false->aa (x+(1:Int))/\I (x+(1:Int))/\μ (x+(1:Int))<μ x)))/\(decide (x<=(20:Int))=false->(decide ((↑v.length:
 Int)<=(40:Int))=true->decide ((↑l.length:Int)<=(20:Int))=iL (e1,e2,e3,e4,e5,e6,e7,v,l,()))/\(decide ((↑v.length:Int)<=(40:Int))=false->false=
 iL (e1,e2,e3,e4,e5,e6,e7,v,l,()))))/\(decide (x<(↑l.length:Int))=false->(decide ((↑v.length:Int)<=(40:Int))=true->decide ((↑l.length:Int)<=(20:
 Int))=iL (e1,e2,e3,e4,e5,e6,e7,v,l,()))/\(decide ((↑v.length:Int)<=(40:Int))=false->false=iL (e1,e2,e3,e4,e5,e6,e7,v,l,())))):=by
 kernel_rfl
end Go.Proofs.YtobfmplofoofkaaGreatDoor
namespace Go.PL
open Go.AM
theorem oI{e:En}:iL e=true↔e.2.2.2.2.2.2.2.1.length<=40/\e.2.2.2.2.2.2.2.2.1.length<=20/\∀j:Nat,(j:Int)<e.2.2.2.2.2.2.2.2.1.length->(e.2.2.2.2.2.2.2.2.1.getD j ([],0,0,[],())).1.length<=300/\(e.2.2.2.2.2.2.2.2.1.getD j ([],0,0,[],())).2.2.2.1.length<=300:=by
 unfold iL qbR;simp only[Wac,decide_eq_true_eq,Wau];refine⟨fun ⟨a,b,c⟩=>⟨a,b,fun j hj=>c _ (oH (by omega))⟩,fun ⟨a,b,c⟩=>⟨a,b,fun x hx=>?_⟩⟩
 obtain⟨j,hj,rfl⟩:=pN ([],0,0,[],()) hx;exact c j (by omega)
theorem qfv{e:En}(h:iL e=true):wL e:=by
 obtain⟨a,b,c⟩:=oI.1 h;refine⟨a,b,fun x hx=>?_⟩
 obtain⟨j,hj,rfl⟩:=pN ([],0,0,[],()) hx;exact c j (by omega)
end Go.PL
namespace Go.Proofs.YtobfmplofoofkaaGreatDoor
open Go.AM Go.PL
attribute [local irreducible] aW cz
theorem W6:au BF0:=az trivial trivial
theorem qfw:Sat bs.P 57 L4:=bx W6 6 _ L4 fun (⟨e1,e2,e3,e4,e5,e6,e7,v,l,⟨⟩⟩:En) hok hp=>by
 rw[qjE];have hm:l.length<=9223372036854775807:=hok.2.2.2.2.2.2.2.2.1.1;have no:(¬iL (e1,e2,e3,e4,e5,e6,e7,v,l,())=true)->false=iL (e1,e2,e3,e4,e5,e6,e7,v,l,()):=fun h=>gU h
 refine⟨fun x=>0<=x/\x<=l.length/\∀j:Nat,(j:Int)<x->(l.getD j ([],0,0,[],())).1.length<=300/\(l.getD j ([],0,0,[],())).2.2.2.1.length<=300,fun x=>(l.length-x).toNat,⟨by omega,by omega,fun j hj=>by omega⟩,?_⟩
 rintro x ⟨h0,h1,h2⟩
 have vec:decide ((v.length:Int)<=40)=false->false=iL (e1,e2,e3,e4,e5,e6,e7,v,l,()):=fun c=>no fun g=>df c (by have:=(oI.1 g).1;dsimp only at this;omega)
 refine⟨fun h=>⟨fun c=>?_,fun c=>⟨fun c2=>?_,vec⟩⟩,fun h=>⟨fun c2=>?_,vec⟩⟩
 ·have h:=dt h;refine⟨⟨h0,h⟩,fun d=>no fun g=>?_,fun d=>⟨⟨h0,h⟩,fun d2=>no fun g=>?_,fun d2=>⟨iC h0 h hm,⟨by omega,by omega,iB h0 h2 ?_⟩,by dsimp only;omega⟩⟩⟩
  ·have:=((oI.1 g).2.2 x.toNat (by dsimp only;omega)).1
   have:=dt d
   dsimp only at*
   omega
  ·have:=((oI.1 g).2.2 x.toNat (by dsimp only;omega)).2
   have:=dt d2
   dsimp only at*
   omega
  ·have:=df d
   have:=df d2
   exact⟨by omega,by omega⟩
 ·have h:=dt h;have c:=df c;rw[decide_eq_false (by omega)]
  exact no fun g=>by have:=(oI.1 g).2.1;dsimp only at this;omega
 ·have h:=df h;refine LY ?_
  rw[decide_eq_true_eq,oI];dsimp only;have:=dt c2
  exact⟨fun g=>⟨by omega,by omega,fun j hj=>h2 j (by omega)⟩,fun g=>by have:=g.2.1;omega⟩
end Go.Proofs.YtobfmplofoofkaaGreatDoor
namespace Go.PL
open Go.AM
def BZ(d:Df):Bool:=decide (d.2.2.2.2.1.length<=60)&&(decide (d.1.length<=100)&&d.2.2.2.2.1.all fun w=>decide (w.length<=100))
def nT(s:Sc)(most:Int):Bool:=decide ((s.2.2.1.length:Int)<=most)&&s.2.2.1.all BZ
end Go.PL
namespace Go.Proofs.YtobfmplofoofkaaGreatDoor
open Go.AM Go.PL
def L5:aJ:=⟨[SC,I],[.bool],fun _=>True,fun x=>nT x.1 x.2⟩
def qfx(f:FuncId)(r:Nat):List LA:=
 if Nat.beq f 19 then (bif Nat.beq r 2 then [.slot 5 I] else [.slot 5 I,.slot 7 I,.cell 0 4 SS]) else []
def qjF(f:FuncId):Hint:=if Nat.beq f 999999995 then⟨fun _=>[],fun _=>.split,fun _=>.split,qbF⟩ else⟨qfx f,fun _=>.split,fun _=>.split,fun _=>0⟩
noncomputable def BL0:Ctx:=bA bs [] [] qjF
theorem qfy(d m:Int)(l:List Df)(most:Int):aW BL0 6 19 L5 ((d,m,l,()),most)=(LP z0 fun I μ x=>SD (x<(ln l)) (SD (x<=most) ((IR x l)/\SD (z60<(ln (l.getD
 x.toNat (eI,z0,z0,z0,eL,())).2.2.2.2.1)) (false=nT (d,m,l,()) most) (SD ((100:Int)<(ln (l.getD x.toNat (eI,z0,z0,z0,eL,())).1)) (false=nT (d,m,l,()) most) (LP
 (x,z0,(l.getD x.toNat (eI,z0,z0,z0,eL,())).2.2.2.2.1) fun wK iS x_1=>SD (x_1.2.1<(ln x_1.2.2)) ((IR x_1.2.1 x_1.2.2)/\SD ((100:Int)<(ln (x_1.2.2.getD x_1.2.1.toNat eI)))
 (false=nT (d,m,l,()) most) (aa (x_1.2.1+z1)/\NX wK iS x_1 (x_1.1,x_1.2.1+z1,x_1.2.2))) (aa (x_1.1+z1)/\NX I μ x (x_1.1+z1))))) (decide ((ln l)<=most)=nT
 (d,m,l,()) most)) (decide ((ln l)<=most)=nT (d,m,l,()) most)):=by kernel_rfl
end Go.Proofs.YtobfmplofoofkaaGreatDoor
namespace Go.PL
open Go.AM
theorem B4{d m:Int}{l:List Df}{most:Int}:nT (d,m,l,()) most=true↔(l.length:Int)<=most/\∀j:Nat,(j:Int)<l.length->BZ (l.getD j ([],0,0,0,[],()))=true:=by
 unfold nT;simp only[Wac,decide_eq_true_eq,Wau];refine⟨fun ⟨a,c⟩=>⟨a,fun j hj=>c _ (oH (by omega))⟩,fun ⟨a,c⟩=>⟨a,fun x hx=>?_⟩⟩
 obtain⟨j,hj,rfl⟩:=pN ([],0,0,0,[],()) hx;exact c j (by omega)
theorem s6{d:Df}:BZ d=true↔d.2.2.2.2.1.length<=60/\d.1.length<=100/\∀j:Nat,(j:Int)<d.2.2.2.2.1.length->(d.2.2.2.2.1.getD j []).length<=100:=by
 unfold BZ;simp only[Wac,decide_eq_true_eq,Wau];refine⟨fun ⟨a,b,c⟩=>⟨a,b,fun j hj=>c _ (oH (by omega))⟩,fun ⟨a,b,c⟩=>⟨a,b,fun x hx=>?_⟩⟩
 obtain⟨j,hj,rfl⟩:=pN [] hx;exact c j (by omega)
end Go.PL
namespace Go.Proofs.YtobfmplofoofkaaGreatDoor
open Go.AM Go.PL
attribute [local irreducible] aW cz
theorem W7:au BL0:=az trivial trivial
theorem qbS:Sat bs.P 19 L5:=bx W7 6 _ L5 fun (⟨⟨d,m,l,⟨⟩⟩,most⟩:Sc×Int) hok hp=>by
 rw[qfy];delta IR LP NX SD eI eL ln z0 z1 z60;dsimp only
 have hm:l.length<=9223372036854775807:=hok.1.2.2.1.1;refine⟨fun x=>0<=x/\x<=l.length/\∀j:Nat,(j:Int)<x->BZ (l.getD j ([],0,0,0,[],()))=true,fun x=>(l.length-x).toNat,⟨by omega,by omega,fun j hj=>by omega⟩,?_⟩
 rintro x ⟨h0,h1,h2⟩
 refine⟨fun h=>⟨fun c=>?_,fun c=>?_⟩,fun h=>?_⟩
 ·have h:=dt h;obtain⟨q,hq⟩:∃q,q=l.getD x.toNat ([],0,0,0,[],()):=⟨_,rfl⟩
  have hno:BZ q=false->false=nT (d,m,l,()) most:=fun g=>gU fun k=>by
   have:=(B4.1 k).2 x.toNat (by omega)
   rw[<-hq,g]at this;cases this
  rw[<-hq];refine⟨⟨h0,h⟩,fun c1=>hno (uY fun k=>?_),fun c1=>⟨fun c2=>hno (uY fun k=>?_),fun c2=>⟨fun y=>y.1=x/\y.2.2=q.2.2.2.2.1/\0<=y.2.1/\y.2.1<=q.2.2.2.2.1.length/\∀j:Nat,(j:Int)<y.2.1->(q.2.2.2.2.1.getD j []).length<=100,fun y=>(q.2.2.2.2.1.length-y.2.1).toNat,⟨rfl,rfl,by dsimp only;omega,by dsimp only;omega,fun j hj=>by dsimp only at hj;omega⟩,?_⟩⟩⟩
  ·have:=(s6.1 k).1
   have:=dt c1
   omega
  ·have:=(s6.1 k).2.1
   have:=dt c2
   omega
  ·have c1:=df c1;have c2:=df c2;rintro⟨x',k,w⟩ ⟨e1,e2,k0,k1,k2⟩
   dsimp only at e1 e2 k0 k1 k2 ⊢;subst e1 e2;refine⟨fun hk=>?_,fun hk=>⟨iC h0 h hm,⟨by omega,by omega,iB h0 h2 ?_⟩,by omega⟩⟩
   ·have hk:=dt hk;refine⟨⟨k0,hk⟩,fun c3=>hno (uY fun g=>?_),fun c3=>⟨by unfold aa;omega,⟨rfl,rfl,by omega,by omega,iB k0 k2 ?_⟩,by omega⟩⟩
    ·have:=(s6.1 g).2.2 k.toNat (by omega)
     have:=dt c3
     omega
    ·have:=df c3
     omega
   ·rw[<-hq];exact s6.2 ⟨by omega,by omega,fun j hj=>k2 j (by have:=df hk;omega)⟩
 ·have h:=dt h;have c:=df c;rw[decide_eq_false (by omega)]
  exact gU fun g=>by have:=(B4.1 g).1;omega
 ·have h:=df h;refine LY ?_
  rw[decide_eq_true_eq,B4];exact⟨fun g=>⟨g,fun j hj=>h2 j (by omega)⟩,fun g=>g.1⟩
end Go.Proofs.YtobfmplofoofkaaGreatDoor
namespace Go.Proofs.YtobfmplofoofkaaGreatDoor
open Go.AM Go.PL
def R6:aJ:=⟨[.arr EN,I],[.bool],fun _=>True,fun x=>decide (((x.1:List En).length:Int)<=(x.2:Int))&&(x.1:List En).all iL⟩
def R7:aJ:=⟨[SC,.arr EN],[.bool],fun _=>True,fun x=>nT x.1 6&&(decide (nF x.1=0)&&(decide (((x.2:List En).length:Int)<=28)&&(x.2:List En).all iL))⟩
def qfz(f:FuncId)(r:Nat):List LA:=if Nat.beq f 21 then [.slot 5 I] else []
def qbT(f:FuncId):Hint:=if Nat.beq f 999999995 then⟨fun _=>[],fun _=>.split,fun _=>.split,qbF⟩ else⟨qfz f,fun _=>.split,fun _=>.split,fun _=>0⟩
def tGa:List (FuncId×aJ):=[(57,L4),(19,L5),(20,UB)]
noncomputable def GA0:Ctx:=bA bs tGa [] qbT
abbrev GH:List At:=[]
theorem qfA(l:List En)(m:Int):aW GA0 6 21 R6 (l,m)=(SD (m<(ln l)) (false=(decide ((ln l)<=m)&&l.all iL)) (LP z0 fun I μ x=>SD (x<(ln l)) ((IR x l)/\True/\
 SP (!iL (l.getD x.toNat (z0,z0,z0,z0,z0,z0,z0,eI,GH,()))) (false=(decide ((ln l)<=m)&&l.all iL)) (aa (x+z1)/\NX I μ x (x+z1))) (true=(decide ((ln l)<=
 m)&&l.all iL)))):=by kernel_rfl
noncomputable def GA1:Ctx:=bA bs ((21,R6)::tGa) [] qbT
theorem qfB(s:Sc)(l:List En):aW GA1 6 4 R7 (s,l)=(True/\(nT s (6:Int)=true->True/\(decide (nF s=(0:Int))=true->True/\(decide ((↑l.length:
 Int)<=(28:Int))&&l.all iL)=(nT s (6:Int)&&(decide (nF s=(0:Int))&&(decide ((↑l.length:Int)<=(28:Int))&&l.all iL))))/\(decide (nF s=(0:
 Int))=false->false=(nT s (6:Int)&&(decide (nF s=(0:Int))&&(decide ((↑l.length:Int)<=(28:Int))&&l.all iL)))))/\(nT s (6:Int)=false->false=
 (nT s (6:Int)&&(decide (nF s=(0:Int))&&(decide ((↑l.length:Int)<=(28:Int))&&l.all iL))))):=by kernel_rfl
end Go.Proofs.YtobfmplofoofkaaGreatDoor
namespace Go.PL
def eA(s:List It):Prop:=s.Pairwise xk/\s.length<=900/\∀it∈s,it.2.1.length<=20000
def Ah(l:List (List Int))(x:List Int):Nat:=(l.filter fun y=>fX y x).length
def UF(l:List (List Int)):Prop:=(l.Pairwise fun a b=>fX a b=true)/\l.length<=900
def W9(p:Px):Prop:=0<=p.2.1/\p.2.1<=1000
end Go.PL
namespace Go.Proofs.YtobfmplofoofkaaGreatDoor
open Go.AM Go.PL
def Ep:aJ:=⟨[DG,DG],[I],fun _=>True,fun x=>nC x.1 x.2⟩
def L6:aJ:=⟨[IT,DG],[I],fun _=>True,fun x=>nC (x.1:It).1 x.2⟩
def UG:aJ:=⟨[IL,DG,.qi],[I,.bool],fun x=>(x.2.2:Nat)=111/\eA x.1,fun x=>((cA x.1 x.2.1:Int),cJ x.1 x.2.1)⟩
def Pb:aJ:=⟨[DL,DG,.qi],[I,.bool],fun x=>(x.2.2:Nat)=112/\UF x.1,fun x=>((Ah x.1 x.2.1:Int),decide (x.2.1∈(x.1:List (List Int))))⟩
def Er:aJ:=⟨[.str],[DG],fun t=>(t:List Int).length<=100000,fun t=>iq 44 [t]⟩
def L7:aJ:=⟨[DG,I],[DG],fun x=>0<=(x.2:Int)/\(x.2:Int)<=1000,fun x=>cG x.1 (x.2:Int).toNat⟩
def R8:aJ:=⟨[PX,DG],[.bool],fun x=>W9 x.1,fun x=>under x.1 x.2⟩
def GI:aJ:=⟨[PC],[.bool],fun _=>True,fun m=>dK m⟩
def L8:aJ:=⟨[PX],[.bool],fun _=>True,fun p=>bQ p⟩
def Ai:cL:=⟨[IL],72,IT,fun v=>(v:List It).length<=1000000,fun v=>v⟩
def qqd(t:TypeId):Nat:=bif Nat.beq t 70 then 1 else 0
def UH(f:FuncId)(r:Nat):List LA:=
 if Nat.beq f 145 then [.slot 7 I,.aT 0 DG,.aT 1 DG] else
 if Nat.beq f 110 then [.slot 9 I,.slot 10 I] else
 if Nat.beq f 133 then [.slot 9 I,.slot 10 I] else
 []
def R9(f:FuncId):Hint:=if Nat.beq f 999999995 then⟨fun _=>[],fun _=>.split,fun _=>.split,fun _=>0⟩ else⟨UH f,fun _=>.split,fun _=>.split,fun _=>0⟩
def qjG(f:FuncId):Hint:=if Nat.beq f 999999995 then⟨fun _=>[],fun _=>.split,fun _=>.split,qqd⟩ else⟨UH f,fun r=>.all,fun _=>.split,fun _=>0⟩
noncomputable def JB0:Ctx:=bA bs [(138,qbf),(97,WB)] [] R9
theorem qbU(a b:List Int):aW JB0 6 112 Ep (a,b)=(((1:Nat)<=a.length/\(1:Nat)<=b.length)/\nC a b=nC a b):=by kernel_rfl
theorem qbV(t:List Int):aW JB0 6 48 Er t=(sY [t]/\[(iq qf [t]).getD y0 z0,(iq qf [t]).getD y1 z0,(iq qf [t]).getD y2 z0,(iq qf [t]).getD y3 z0,(iq qf
 [t]).getD y4 z0,(iq qf [t]).getD y5 z0,(iq qf [t]).getD y6 z0,(iq qf [t]).getD y7 z0,(iq qf [t]).getD y8 z0,(iq qf [t]).getD y9 z0,(iq qf [t]).getD ya z0,(iq qf
 [t]).getD BJ z0,(iq qf [t]).getD zW z0,(iq qf [t]).getD kD z0,(iq qf [t]).getD BK z0,(iq qf [t]).getD BL z0]=iq qf [t]):=by kernel_rfl
theorem Sa(v:List It):cz JB0 5 64 Ai v=(∀(b:Bool),(b=true->v=[])->(b=true->[]=v)/\(b=false->aM JB0 (72:Nat) v.length/\v=v)):=by
 kernel_rfl
noncomputable def JM0:Ctx:=bA bs [] [] qjG
abbrev Sb(x:Int×List Int×List Int)(n:Int):=(x.1+z1,x.2.1.set x.1.toNat (aK BinOp.and IntKind.u8 (x.2.1.getD x.1.toNat z0) (aK BinOp.xor IntKind.u8 (255:Int)
 ((255:Int) / z2 ^ (min (max (n-z8*x.1) z0) z8).toNat))),x.2.2)
theorem qfC(d:List Int)(n:Int):aW JM0 6 145 L7 (d,n)=(LP (z0,d,[z0,z0,z0,z0,z0,z0,z0,z0,z0,z0,z0,z0,z0,z0,z0,z0]) fun I μ x=>SD (x.1<uR) (aa (z8
 *x.1)/\aa (n-z8*x.1)/\SD (min (max (n-z8*x.1) z0) z8<z8) ((z0<=x.1/\x.1<uR)/\(z0<=min (max (n-z8*x.1) z0) z8/\min (max (n-z8*x.1) z0) z8<=z8)/\((z0<=x.1/\
 x.1<uR)/\aa (x.1+z1)/\NX I μ x (Sb x n))/\(z0<=x.1/\x.1<uR)/\aa (x.1+z1)/\NX I μ x (Sb x n)) (aa (x.1+z1)/\NX I μ x (x.1+z1,x.2))) (x.2.1=cG d
 n.toNat)):=by kernel_rfl
noncomputable def JB1:Ctx:=bA bs [(112,Ep),(145,L7)] [] R9
theorem qbW(x:It)(d:List Int):aW JB1 6 111 L6 (x,d)=(True/\nC [x.fst.getD (0:Nat) (0:Int),x.fst.getD (1:Nat) (0:Int),x.fst.getD (2:Nat) (0:
 Int),x.fst.getD (3:Nat) (0:Int),x.fst.getD (4:Nat) (0:Int),x.fst.getD (5:Nat) (0:Int),x.fst.getD (6:Nat) (0:Int),x.fst.getD (7:Nat) (0:Int),x.fst.getD
 (8:Nat) (0:Int),x.fst.getD (9:Nat) (0:Int),x.fst.getD (10:Nat) (0:Int),x.fst.getD (11:Nat) (0:Int),x.fst.getD (12:Nat) (0:Int),x.fst.getD (13:Nat) (0:
 Int),x.fst.getD (14:Nat) (0:Int),x.fst.getD (15:Nat) (0:Int)] d=nC x.fst d):=by kernel_rfl
abbrev JR(x:Int×Int):=IntKind.u64.wrap (x.1+x.2) / z2 ^ y1
theorem qjH(l:List (List Int))(d:List Int):aW JB1 6 133 Pb (l,d,112)=(LP (z0,(ln l)) fun I μ x=>SD (x.1<x.2) (aa (x.1+x.2)/\(z0<=z1/\z1<=j9)/\(IR
 (IntKind.i64.wrap (JR x)) l)/\True/\SD (nC (l.getD (IntKind.i64.wrap (JR x)).toNat (List.replicate qg z0)) d<z0) (aa (IntKind.i64.wrap (JR x)+z1)/\NX I μ x
 (IntKind.i64.wrap (JR x)+z1,x.2)) (NX I μ x (x.1,IntKind.i64.wrap (JR x)))) (SD (x.1<(ln l)) ((IR x.1 l)/\True/\(x.1,decide (nC (l.getD x.1.toNat (List.replicate qg z0)) d
 =z0))=((↑(Ah l d):Int),decide (d∈l))) ((x.1,false)=((↑(Ah l d):Int),decide (d∈l))))):=by kernel_rfl
theorem qfD(p:Px)(d:List Int):aW JB1 6 128 R8 (p,d)=(((0:Int)<=p.snd.fst/\p.snd.fst<=(1000:Int))/\decide (cG d p.snd.fst.toNat=p.fst)=under p d)
 :=by kernel_rfl
abbrev pO(m:Pc):=SD (m.1=z4) (true=dK m) (decide (m.2.2.2.2.2.1=bytesOf {data:=#[]})=dK m)
abbrev Aj(m:Pc):=SD (m.1=z1) (SD (m.1=z3) (pO m) (SD ((ln m.2.2.2.2.1)=z0) (pO m) (false=dK m))) (SD (m.2.2.1=[z0,z0,z0,z0,z0,z0,z0,z0,z0,z0,
 z0,z0,z0,z0,z0,z0]) (SD (m.2.2.2.1=z0) (SD (m.1=z3) (pO m) (SD ((ln m.2.2.2.2.1)=z0) (pO m) (false=dK m))) (false=dK m)) (false=dK m))
abbrev Ak(m:Pc):=SD (m.1=z1) (pO m) (SD (m.2.2.1=[z0,z0,z0,z0,z0,z0,z0,z0,z0,z0,z0,z0,z0,z0,z0,z0]) (SD (m.2.2.2.1=z0) (pO m) (false=dK m))
 (false=dK m))
abbrev GJ(m:Pc):=decide (m.2.1.1=[z0,z0,z0,z0,z0,z0,z0,z0,z0,z0,z0,z0,z0,z0,z0,z0])&&(decide (m.2.1.2.1=z0)&&true)
theorem Xa(m:Pc):aW JB1 6 126 GI m=(SD (m.1=z1) (SD (m.1=z2) (Ak m) (Aj m)) (SD (m.1=z2) (SD (m.1=z2) (Ak m) (SP (GJ m) (Ak m)
 (false=dK m))) (SD (m.1=z2) (Aj m) (SP (GJ m) (Aj m) (false=dK m))))):=by kernel_rfl
theorem qbX(p:Px):aW JB1 6 127 L8 p=((decide ((0:Int)<=p.snd.fst)=true->(decide (p.snd.fst<=(128:Int))=true->((0:Int)<=p.snd.fst/\p.snd.fst<=
 (1000:Int))/\decide (cG p.fst p.snd.fst.toNat=p.fst)=bQ p)/\(decide (p.snd.fst<=(128:Int))=false->false=bQ p))/\(decide ((0:Int)<=p.snd.fst)=
 false->false=bQ p)):=by kernel_rfl
noncomputable def JB2:Ctx:=bA bs [(111,L6)] [] R9
abbrev JS(x:Int×Int):=IntKind.u64.wrap (x.1+x.2) / z2 ^ y1
theorem qjI(l:List It)(d:List Int):aW JB2 6 110 UG (l,d,111)=(LP (z0,(ln l)) fun I μ x=>SD (x.1<x.2) (aa (x.1+x.2)/\(z0<=z1/\z1<=j9)/\(IR
 (IntKind.i64.wrap (JS x)) l)/\True/\SD (nC (l.getD (IntKind.i64.wrap (JS x)).toNat (List.replicate qg z0,eI,())).1 d<z0) (aa (IntKind.i64.wrap (JS x)+z1)/\NX I μ x
 (IntKind.i64.wrap (JS x)+z1,x.2)) (NX I μ x (x.1,IntKind.i64.wrap (JS x)))) (SD (x.1<(ln l)) ((IR x.1 l)/\True/\(x.1,decide (nC (l.getD x.1.toNat (List.replicate qg z0,
 eI,())).1 d=z0))=((↑(cA l d):Int),cJ l d)) ((x.1,false)=((↑(cA l d):Int),cJ l d)))):=by kernel_rfl
end Go.Proofs.YtobfmplofoofkaaGreatDoor
namespace Go.PL
open Go.AM
theorem nG{l:List Int}(h:l.length=16):[l.getD 0 0,l.getD 1 0,l.getD 2 0,l.getD 3 0,l.getD 4 0,l.getD 5 0,l.getD 6 0,l.getD 7 0,l.getD 8 0,l.getD 9 0,l.getD 10 0,l.getD 11 0,l.getD 12 0,l.getD 13 0,l.getD 14 0,l.getD 15 0]=l:=by
 have:=WQ l 0
 rw[h]at this;exact this
theorem s7(t:Int)(l:List (List Int)):(iq t l).length=16:=by
 unfold iq Is;rw[Waf,Wav,List.length_range];rfl
def BI(p:Nat->Bool)(n:Nat)(x:Int×Int):Prop:=0<=x.1/\x.1<=x.2/\x.2<=(n:Int)/\(∀i:Nat,(i:Int)<x.1->p i=true)/\∀i:Nat,x.2<=(i:Int)->i<n->p i=false
theorem qfE(p:Nat->Bool)(n:Nat):BI p n (0,(n:Int)):=⟨Waz _,by show (0:Int)<=(n:Int);omega,by show (n:Int)<=n;omega,fun i h=>absurd h (by show ¬(i:Int)<0;omega),fun i h h'=>absurd h (by show ¬(n:Int)<=i;omega)⟩
theorem L9{s:Int}(h0:0<=s)(h1:s<=1000000):IntKind.i64.wrap (IntKind.u64.wrap s / (2:Int) ^ (1:Nat))=s / 2:=by
 have e:IntKind.u64.wrap s=s:=E7 (k:=.u64) ⟨by show (0:Int)<=s;omega,by show s<=(18446744073709551615:Int);omega⟩
 rw[e];show IntKind.i64.wrap (s / 2)=s / 2
 exact wrap_i64 (by unfold aa;omega)
theorem UI{p:Nat->Bool}{n:Nat}{x:Int×Int}(hp:∀i j,i<=j->j<n->p j=true->p i=true)(h:BI p n x)(hx:x.1<x.2)(hm:p ((x.1+x.2) / 2).toNat=true):BI p n ((x.1+x.2) / 2+1,x.2):=by
 obtain⟨h0,h1,h2,h3,h4⟩:=h;refine⟨by dsimp only;omega,by dsimp only;omega,h2,fun i hi=>?_,h4⟩
 have hi:(i:Int)<(x.1+x.2) / 2+1:=hi;exact hp i _ (by omega) (by omega) hm
theorem UJ{p:Nat->Bool}{n:Nat}{x:Int×Int}(hp:∀i j,i<=j->j<n->p j=true->p i=true)(h:BI p n x)(hx:x.1<x.2)(hm:p ((x.1+x.2) / 2).toNat=false):BI p n (x.1,(x.1+x.2) / 2):=by
 obtain⟨h0,h1,h2,h3,h4⟩:=h;refine⟨h0,by dsimp only;omega,by dsimp only;omega,h3,fun i hi hn=>?_⟩
 have hi:(x.1+x.2) / 2<=(i:Int):=hi;cases hq:p i with
 |false=>rfl
 |true=>rw[hp _ i (by omega) hn hq]at hm;cases hm
theorem Ma{p:Nat->Bool}{n:Nat}{x:Int×Int}(h:BI p n x)(hx:¬x.1<x.2):x.1.toNat<=n/\0<=x.1/\(∀i,i<x.1.toNat->p i=true)/\∀i,x.1.toNat<=i->i<n->p i=false:=by
 obtain⟨h0,h1,h2,h3,h4⟩:=h;exact⟨by omega,h0,fun i hi=>h3 i (by omega),fun i hi hn=>h4 i (by omega) hn⟩
theorem Es{l:List (List Int)}(h:l.Pairwise fun a b=>fX a b=true)(z:List Int){i j:Nat}(hij:i<j)(hj:j<l.length):fX (l.getD i z) (l.getD j z)=true:=by
 rw[Wab,Wab,Waa (by omega),Waa hj]
 exact List.pairwise_iff_getElem.1 h i j (by omega) hj hij
theorem Mb{l:List (List Int)}(h:l.Pairwise fun a b=>fX a b=true)(z d:List Int):∀i j,i<=j->j<l.length->fX (l.getD j z) d=true->fX (l.getD i z) d=true:=by
 intro i j hij hj hd;rcases Wak i j with hlt|hge
 ·exact oE (Es h z hlt hj) hd
 ·have:i=j:=by omega
  subst this;exact hd
theorem Mc{l:List (List Int)}(h:l.Pairwise fun a b=>fX a b=true)(z d:List Int){k:Nat}(hk:k<=l.length)(h1:∀i,i<k->fX (l.getD i z) d=true)(h2:∀i,k<=i->i<l.length->fX (l.getD i z) d=false):
 Ah l d=k/\(k<l.length->decide (nC (l.getD k z) d=0)=decide (d∈l))/\(¬k<l.length->decide (d∈l)=false):=by
 have hmem:∀y∈l,∃i,i<l.length/\l.getD i z=y:=fun y hy=>by
  obtain⟨i,hi,rfl⟩:=WaM hy;exact⟨i,hi,by rw[Wab,Waa hi];rfl⟩
 have a1:(l.take k).filter (fun y=>fX y d)=l.take k:=by
  rw[WcS];intro y hy;obtain⟨i,hi,rfl⟩:=WaM hy;have hi':i<k:=by rw[Waf]at hi;omega
  have:=h1 i hi'
  rw[Wab,Waa (by omega)]at this
  rw[List.getElem_take];exact this
 have a2:(l.drop k).filter (fun y=>fX y d)=[]:=by
  rw[Wca];intro y hy;obtain⟨i,hi,rfl⟩:=WaM hy;have hi':k+i<l.length:=by rw[List.length_drop]at hi;omega
  have:=h2 (k+i) (by omega) hi'
  rw[Wab,Waa hi']at this;rw[List.getElem_drop];simp only[Wa3]at this;rw[this];simp
 refine⟨?_,fun hlt=>?_,fun hge=>?_⟩
 ·unfold Ah;rw[<-Wax k l,List.filter_append,a1,a2,WaA,Waf];omega
 ·have hn:=h2 k (Wan _) hlt;apply decide_eq_decide.2
  unfold nC;rw[hn];simp only[WaG,if_false];constructor
  ·intro e;split at e
   ·rename_i e';rw[<-e',Wab,Waa hlt];exact WaJ hlt
   ·cases e
  ·intro hd;obtain⟨i,hi,e⟩:=hmem d hd;rcases Nat.lt_trichotomy i k with hik|hik|hik
   ·have:=h1 i hik
    rw[e,mL]at this;cases this
   ·subst hik;rw[if_pos e]
   ·have:=Es h z hik hi
    rw[e,hn]at this;cases this
 ·rw[decide_eq_false_iff_not];intro hd;obtain⟨i,hi,e⟩:=hmem d hd;have:=h1 i (by omega)
  rw[e,mL]at this;cases this
theorem Pd(a b:List Int):decide (nC a b<0)=fX a b:=by
 unfold nC;cases fX a b with
 |true=>rfl
 |false=>
  simp only[WaG,if_false];split<;>rfl
theorem u5(s:List It)(d:List Int):cA s d=Ah (aA s) d:=by
 unfold cA Ah aA;rw[List.filter_map,Wav];rfl
theorem mB(s:List It)(k:Nat)(z:It):(s.getD k z).1=(aA s).getD k z.1:=by
 unfold aA;rw[Wab,Wab,Wba];cases s[k]? <;>rfl
theorem Xb:∀c∈List.range 256,∀h∈List.range 8,aK BinOp.and IntKind.u8 (c:Int) (aK BinOp.xor IntKind.u8 (255:Int) ((255:Int) / (2:Int) ^ h))=mb (c:Int) h:=by decide+kernel
def mI(d:List Int)(n i:Nat):List Int:=(List.range 16).map fun k=>if k<i then mb (d.getD k 0) (min (n-8*k) 8) else d.getD k 0
theorem yu(d:List Int)(n i:Nat):(mI d n i).length=16:=by simp[mI]
theorem yw(d:List Int)(n i k:Nat)(hk:k<16):(mI d n i).getD k 0=if k<i then mb (d.getD k 0) (min (n-8*k) 8) else d.getD k 0:=by
 unfold mI;rw[Wab,Wba,Wck hk];rfl
theorem qfF{d:List Int}(h:d.length=16)(n:Nat):mI d n 0=d:=xg (yu _ _ _) h fun k hk=>by rw[yw _ _ _ _ hk,if_neg (by omega)]
theorem qjJ(d:List Int)(n:Nat):mI d n 16=cG d n:=xg (yu _ _ _) (dZ _ _) fun k hk=>by rw[yw _ _ _ _ hk,if_pos hk,b9 _ _ _ hk]
theorem qfG(d:List Int)(n i:Nat)(hi:i<16):mI d n (i+1)=(mI d n i).set i (mb (d.getD i 0) (min (n-8*i) 8)):=by
 refine xg (yu _ _ _) (by rw[WaX,yu]) fun k hk=>?_
 rw[yw _ _ _ _ hk,oF _ _ _ _ (by rw[yu];exact hi),yw _ _ _ _ hk]
 by_cases e:k=i
 ·subst e;rw[if_pos (by omega),if_pos rfl]
 ·rw[if_neg e];by_cases hl:k<i
  ·rw[if_pos (by omega),if_pos hl]
  ·rw[if_neg (by omega),if_neg hl]
theorem qfH{d:List Int}(h:d.length=16)(n i:Nat)(hi:i<16)(h8:8<=n-8*i):mI d n (i+1)=mI d n i:=by
 refine xg (yu _ _ _) (yu _ _ _) fun k hk=>?_
 rw[yw _ _ _ _ hk,yw _ _ _ _ hk];by_cases e:k=i
 ·subst e;rw[if_pos (by omega),if_neg (by omega),show min (n-8*k) 8=8 by omega,zY]
 ·by_cases hl:k<i
  ·rw[if_pos (by omega),if_pos hl]
  ·rw[if_neg (by omega),if_neg hl]
end Go.PL
namespace Go.Proofs.YtobfmplofoofkaaGreatDoor
open Go.AM Go.PL
attribute [local irreducible] aW cz
theorem gL{d:List Int}(h:Ub DG d):aV d:=⟨h.1,fun c hc=>by
 have h:(0:Int)<=c/\c<=255:=h.2 c hc;exact h⟩
theorem B5:au JB0:=az ⟨qbg,RO,trivial⟩ trivial
theorem JT:Sat bs.P 112 Ep:=bq B5 (fun x=>qbU x.1 x.2) fun (x:List Int×List Int) hk hp=>by
 have h1:x.1.length=16:=hk.1.1;have h2:x.2.length=16:=hk.2.1;exact⟨⟨by omega,by omega⟩,rfl⟩
theorem JU:Sat bs.P 48 Er:=bq B5 qbV fun (t:List Int) hk hp=>by
 delta y0 y1 ya BJ zW kD BK BL y2 y3 y4 y5 y6 y7 y8 y9 z0 qf
 have hp:t.length<=100000:=hp;refine⟨⟨by simp,fun p h=>?_⟩,nG (s7 _ _)⟩
 rw[List.mem_singleton.1 h];exact hp
theorem Pe:qY bs.P 64 Ai:=gH B5 5 _ Ai fun (v:List It) hk hp=>by
 have hp:v.length<=1000000:=hp;rw[Sa];exact fun b hb=>⟨fun h=>(hb h).symm,fun _=>⟨Dc 32 (by kernel_rfl) (by omega) hp,rfl⟩⟩
theorem Xc:au JM0:=az trivial trivial
theorem Pf:Sat bs.P 145 L7:=bq Xc (fun x=>qfC x.1 x.2) fun (x:List Int×Int) hk hp=>by
 delta Sb LP NX SD z0 z1 uR z2 z8;dsimp only
 obtain⟨d,n⟩:=x;have hd:aV d:=gL hk.1;obtain⟨h0,h1⟩:0<=n/\n<=1000:=hp
 refine⟨fun x=>0<=x.1/\x.1<=16/\x.2.1=mI d n.toNat x.1.toNat,fun x=>(16-x.1).toNat,⟨Waz _,(by decide:(0:Int)<=16),(qfF hd.1 _).symm⟩,?_⟩
 rintro⟨i,l,z⟩ ⟨g0,g1,g2⟩
 dsimp only at g0 g1 g2 ⊢;refine⟨fun hi=>?_,fun hi=>?_⟩
 ·have hi:=dt hi;have i8:aa (8*i):=bP (by omega) (by omega)
  have i9:aa (n-8*i):=bP (by omega) (by omega)
  have i1:aa (i+1):=bP (by omega) (by omega)
  have e1:(i+1).toNat=i.toNat+1:=by omega
  have hm:(min (max (n-8*i) 0) 8).toNat=min (n.toNat-8*i.toNat) 8:=by omega
  refine⟨i8,i9,fun hh=>?_,fun hh=>?_⟩
  ·have hh:=dt hh;obtain⟨c,hc,ec⟩:=jX (iw hd i.toNat);have key:l.set i.toNat (aK BinOp.and IntKind.u8 (l.getD i.toNat 0) (aK BinOp.xor IntKind.u8 255 (255 / 2 ^ (min (max (n-8*i) 0) 8).toNat)))=mI d n.toNat (i+1).toNat:=by
    rw[e1,qfG _ _ _ (by omega),g2,yw _ _ _ _ (by omega),if_neg (by omega),ec,Xb c hc _ (List.mem_range.2 (by omega)),hm]
   rw[key];exact⟨⟨g0,hi⟩,⟨by omega,by omega⟩,⟨⟨g0,hi⟩,i1,⟨by omega,by omega,rfl⟩,by omega⟩,⟨g0,hi⟩,i1,⟨by omega,by omega,rfl⟩,by omega⟩
  ·have hh:=df hh;exact⟨i1,⟨by omega,by omega,by rw[e1,qfH hd.1 _ _ (by omega) (by omega)];exact g2⟩,by omega⟩
 ·have hi:=df hi;have:i.toNat=16:=by omega
  rw[g2,this,qjJ]
theorem rD:au JB1:=az ⟨JT,Pf,trivial⟩ trivial
theorem Xd:Sat bs.P 111 L6:=bq rD (fun x=>qbW x.1 x.2) fun (x:It×List Int) hk hp=>by
 rw[nG hk.1.1.1];exact⟨trivial,rfl⟩
theorem qbY:Sat bs.P 128 R8:=bq rD (fun x=>qfD x.1 x.2) fun (x:Px×List Int) hk hp=>⟨hp,rfl⟩
theorem Xe:Sat bs.P 127 L8:=bq rD qbX fun (p:Px) hk hp=>by
 refine⟨fun h=>⟨fun h'=>⟨⟨dt h,WbL (dt h') (by decide)⟩,?_⟩,fun h'=>?_⟩,fun h=>?_⟩
 ·unfold bQ;rw[decide_eq_true (show 0<=p.2.1/\p.2.1<=128 from⟨dt h,dt h'⟩),Bool.true_and]
 ·unfold bQ;rw[decide_eq_false (show ¬(0<=p.2.1/\p.2.1<=128) from fun c=>df h' c.2),Bool.false_and]
 ·unfold bQ;rw[decide_eq_false (show ¬(0<=p.2.1/\p.2.1<=128) from fun c=>df h c.1),Bool.false_and]
theorem Sd:Sat bs.P 126 GI:=bq rD Xa fun (m:Pc) hk hp=>by
 delta pO Aj Ak GJ SD SP ln z0 z1 z2 z3 z4
 have e1:(decide (m.2.1.1=[(0:Int),0,0,0,0,0,0,0,0,0,0,0,0,0,0,0])&&(decide (m.2.1.2.1=(0:Int))&&true))=decide (m.2.1=root):=by
  obtain⟨k,⟨a,b,⟨⟩⟩,r⟩:=m;rw[Bool.and_true,<-Bool.decide_and];apply decide_eq_decide.2
  show (a=_/\b=0)↔(a,b,())=(jW,0,())
  simp only[Prod.mk.injEq,and_true];exact Iff.rfl
 have e2:decide ((m.2.2.2.2.1.length:Int)=0)=decide (m.2.2.2.2.1.length=0):=decide_eq_decide.2 (by omega)
 have e3:bytesOf {data:=#[]}=[]:=rfl;have e4:([(0:Int),0,0,0,0,0,0,0,0,0,0,0,0,0,0,0]:List Int)=jW:=rfl;simp only[e1,e2,e3];simp only[e4];unfold dK;simp only[Bool.decide_or];generalize decide (m.1=1)=b1
 generalize decide (m.1=2)=b2
 generalize decide (m.1=3)=b3
 generalize decide (m.1=4)=b4
 generalize decide (m.2.1=root)=c1
 generalize decide (m.2.2.1=jW)=c2
 generalize decide (m.2.2.2.1=0)=c3
 generalize decide (m.2.2.2.2.1.length=0)=c4
 generalize decide (m.2.2.2.2.2.1=[])=c5
 clear e1 e2 e3 e4
 repeat' (first|apply And.intro|(intro h;cases h))
 all_goals first|rfl|simp
theorem qbZ{a b:List Int}(h:decide (nC a b<0)=true):fX a b=true:=by rw[<-Pd];exact h
theorem qb0{a b:List Int}(h:decide (nC a b<0)=false):fX a b=false:=by rw[<-Pd];exact h
theorem UK:Sat bs.P 133 Pb:=bx rD 6 _ Pb fun (x:List (List Int)×List Int×Nat) hk hp=>by
 obtain⟨l,d,f⟩:=x;obtain⟨ef,hs,hl⟩:f=112/\UF l:=hp
 subst ef;rw[qjH];delta JR IR LP NX SD ln y1 qg z0 z1 z2 j9;dsimp only
 obtain⟨z,hz⟩:∃z,z=List.replicate (16:Nat) (0:Int):=⟨_,rfl⟩
 rw[<-hz];clear hz
 have mono:=Mb hs z d;refine⟨BI (fun i=>fX (l.getD i z) d) l.length,fun x=>(x.2-x.1).toNat,qfE _ _,?_⟩
 rintro⟨a,b⟩ hB
 have T0:=hB;obtain⟨g0,g1,g2,-,-⟩:=T0;dsimp only at g0 g1 g2 ⊢;refine⟨fun hi=>?_,fun hi=>?_⟩
 ·have hi:=dt hi;rw[L9 (show 0<=a+b by omega) (by omega)]
  refine⟨bP (by omega) (by omega),⟨by decide,by decide⟩,⟨by omega,by omega⟩,trivial,fun h=>?_,fun h=>?_⟩
  ·exact⟨bP (by omega) (by omega),UI mono hB hi (qbZ h),by omega⟩
  ·exact⟨UJ mono hB hi (qb0 h),by omega⟩
 ·have hi:=df hi;obtain⟨h1,h2,h3,h4⟩:=Ma hB hi;obtain⟨e1,e2,e3⟩:=Mc hs z d h1 h3 h4;dsimp only at h1 h2 e1 e2 e3;have ea:((Ah l d:Nat):Int)=a:=by omega
  rw[ea];refine⟨fun h=>⟨⟨h2,dt h⟩,trivial,by rw[e2 (by have:=dt h;omega)]⟩,fun h=>by rw[e3 (by have:=df h;omega)]⟩
theorem Xf:au JB2:=az ⟨Xd,trivial⟩ trivial
theorem qfI:Sat bs.P 110 UG:=bx Xf 6 _ UG fun (x:List It×List Int×Nat) hk hp=>by
 obtain⟨l,d,f⟩:=x;obtain⟨ef,hs,hl,-⟩:f=111/\eA l:=hp
 subst ef;rw[qjI];delta JS IR LP NX SD eI ln y1 qg z0 z1 z2 j9;dsimp only
 obtain⟨z,hz⟩:∃z:It,z=(List.replicate (16:Nat) (0:Int),[],()):=⟨_,rfl⟩
 rw[<-hz];clear hz
 have hs':=eF hs;have hll:(aA l).length=l.length:=Wav _;have mono:=Mb hs' z.1 d;rw[u5];unfold cJ;refine⟨BI (fun i=>fX ((aA l).getD i z.1) d) (aA l).length,fun x=>(x.2-x.1).toNat,by rw[<-hll];exact qfE _ _,?_⟩
 rintro⟨a,b⟩ hB
 have T0:=hB;obtain⟨g0,g1,g2,-,-⟩:=T0;dsimp only at g0 g1 g2 ⊢;simp only[mB];refine⟨fun hi=>?_,fun hi=>?_⟩
 ·have hi:=dt hi;rw[L9 (show 0<=a+b by omega) (by omega)]
  refine⟨bP (by omega) (by omega),⟨by decide,by decide⟩,⟨by omega,by omega⟩,trivial,fun h=>?_,fun h=>?_⟩
  ·exact⟨bP (by omega) (by omega),UI mono hB hi (qbZ h),by omega⟩
  ·exact⟨UJ mono hB hi (qb0 h),by omega⟩
 ·have hi:=df hi;obtain⟨h1,h2,h3,h4⟩:=Ma hB hi;obtain⟨e1,e2,e3⟩:=Mc hs' z.1 d h1 h3 h4;dsimp only at h1 h2 e1 e2 e3;have ea:((Ah (aA l) d:Nat):Int)=a:=by omega
  rw[ea];refine⟨fun h=>⟨⟨h2,dt h⟩,trivial,by rw[e2 (by have:=dt h;omega)]⟩,fun h=>by rw[e3 (by have:=df h;omega)]⟩
end Go.Proofs.YtobfmplofoofkaaGreatDoor
namespace Go.PL
abbrev Sk:=List It×Unit
def Hx(l:List (List Int)):List Int:=iq 45 l
def eK(t:List Int):List Int:=iq 44 [t]
end Go.PL
namespace Go.Proofs.YtobfmplofoofkaaGreatDoor
open Go.AM Go.PL
def v5:aJ:=⟨[SK,DG],[I,.bool],fun x=>eA (x.1:Sk).1,fun x=>((cA (x.1:Sk).1 x.2:Int),cJ (x.1:Sk).1 x.2)⟩
def Al:aJ:=⟨[SK,DG],[.str,.bool],fun x=>eA (x.1:Sk).1,fun x=>((cD (x.1:Sk).1 x.2).getD [],cJ (x.1:Sk).1 x.2)⟩
def GK:aJ:=⟨[PC],[I],fun m=>True,fun m=>bh m⟩
def B6:aJ:=⟨[PX],[PX,PX],fun p=>bQ p=true/\(p:Px).2.1<128,fun p=>(half p false,half p true)⟩
def j5(s:List It)(p:Px):Prop:=eA s/\bQ p=true
def GL:aJ:=⟨[SK,PX],[IL],fun x=>j5 (x.1:Sk).1 x.2,fun x=>ai (x.1:Sk).1 x.2⟩
def GM:aJ:=⟨[SK,PX],[DL],fun x=>j5 (x.1:Sk).1 x.2,fun x=>aA (ai (x.1:Sk).1 x.2)⟩
def Md:aJ:=⟨[SK,PX],[DG,I],fun x=>j5 (x.1:Sk).1 x.2,fun x=>(Hx (aA (ai (x.1:Sk).1 x.2)),((ai (x.1:Sk).1 x.2).length:Int))⟩
def Et:aJ:=⟨[SK,PX],[PC],fun x=>j5 (x.1:Sk).1 x.2,fun x=>aP Hx (x.1:Sk).1 x.2⟩
def Me:aJ:=⟨[SK],[PC],fun x=>eA (x:Sk).1,fun x=>aP Hx (x:Sk).1 root⟩
def qhv(t:TypeId):Nat:=bif Nat.beq t 70||(Nat.beq t 72||Nat.beq t 113) then 1 else 0
def v7(f:FuncId)(r:Nat):List LA:=
 if Nat.beq f 146 then [.slot 5 I,.slot 6 I,.cell 0 0 IL] else
 if Nat.beq f 130 then [.slot 12 I,.dF 5 70 DG] else
 if Nat.beq f 125 then [.slot 13 I,.dF 6 9 .str,.aT 0 DG] else
 if Nat.beq f 99 then [.slot 49 I] else
 []
def qjK(f:FuncId):Hint:=if Nat.beq f 999999995 then⟨fun _=>[],fun _=>.split,fun _=>.split,fun _=>0⟩ else⟨v7 f,fun _=>.split,fun _=>.split,fun _=>0⟩
def qjL(f:FuncId):Hint:=if Nat.beq f 999999995 then⟨fun _=>[],fun _=>.split,fun _=>.split,qhv⟩ else⟨v7 f,fun r=>.all,fun _=>.split,fun _=>0⟩
def Sf:List (FuncId×aJ):=[(112,Ep),(145,L7),(128,R8),(126,GI),(127,L8),
 (110,UG),(133,Pb),(97,WB)]
def qjM(f:FuncId):Hint:=if Nat.beq f 999999995 then⟨fun _=>[],fun _=>.split,fun _=>.split,qhv⟩ else⟨v7 f,fun r=>bif Nat.beq f 132&&Nat.beq r 3 then .all else .split,fun _=>.split,fun _=>0⟩
def qjN(f:FuncId):Hint:=if Nat.beq f 999999995 then⟨fun _=>[],fun _=>.split,fun _=>.split,fun _=>0⟩ else if Nat.beq f 999999997 then⟨fun _=>[],fun _=>.split,fun _=>.split,fun _=>1⟩ else
 ⟨v7 f,fun r=>bif Nat.beq f 132&&Nat.beq r 3 then .all else .split,fun _=>.split,fun _=>0⟩
def qm2(t:TypeId):Nat:=bif Nat.beq t 70||Nat.beq t 116 then 1 else 0
def qb1(f:FuncId):Hint:=if Nat.beq f 999999995 then⟨fun _=>[],fun _=>.split,fun _=>.split,qm2⟩ else⟨v7 f,fun _=>.split,fun _=>.split,fun _=>0⟩
def qm3(t:TypeId):Nat:=bif Nat.beq t 70||Nat.beq t 72 then 1 else 0
def qjO(f:FuncId):Hint:=if Nat.beq f 999999995 then⟨fun _=>[],fun _=>.split,fun _=>.split,qm3⟩ else⟨v7 f,fun _=>.split,fun _=>.split,fun _=>0⟩
noncomputable def JU0:Ctx:=bA bs Sf [] qjN
noncomputable def JS0:Ctx:=bA bs Sf [] qjM
noncomputable def JD0:Ctx:=bA bs Sf [] qjK
theorem qb2(s:List It)(x:List Int):aW JD0 6 62 v5 ((s,()),x)=(((111:Nat)=(111:Nat)/\eA s)/\((↑(cA s x):Int),cJ s x)=((↑(cA s x):
 Int),cJ s x)):=by kernel_rfl
abbrev kI:Type:=Int×Int×List (List Int×List Int×Unit)
abbrev yx:Type:=Int×Int×List (List Int×List Int×Unit)->Prop
abbrev yy:Type:=Int×Int×List (List Int×List Int×Unit)->Nat
abbrev B7(x_1:kI):=IntKind.u64.wrap (x_1.1+x_1.2.1) / z2 ^ y1
abbrev Mf(x_1:kI)(p:Px)(I:yx)(μ:yy):=aa (x_1.1+x_1.2.1)/\(z0<=z1/\z1<=j9)/\(IR (IntKind.i64.wrap (B7 x_1)) x_1.2.2)/\W9 p/\SP
 (!!under p (x_1.2.2.getD (IntKind.i64.wrap (B7 x_1)).toNat (List.replicate qg z0,eI,())).1) (aa (IntKind.i64.wrap (B7 x_1)+z1)/\NX I μ x_1 (IntKind.i64.wrap (B7 x_1)+
 z1,x_1.2)) (NX I μ x_1 (x_1.1,IntKind.i64.wrap (B7 x_1),x_1.2.2))
abbrev yz(s:List It)(x:Int×Int):=(z0,(ln (List.take (s.length-x.1.toNat) (List.drop x.1.toNat s))),List.take (s.length-x.1.toNat) (List.drop x.1.toNat s))
abbrev Mg(x_1:kI)(s:List It)(x:Int×Int)(p:Px):=(z0<=z0/\z0<=x_1.1/\x_1.1<=(ln (List.take (s.length-x.1.toNat) (List.drop x.1.toNat s))))/\List.take
 (x_1.1.toNat-y0) (List.drop y0 (List.take (s.length-x.1.toNat) (List.drop x.1.toNat s)))=ai s p
abbrev u6(I:Int×Int->Prop)(μ:Int×Int->Nat)(s:List It)(x:Int×Int)(p:Px):=LP (yz s x) fun I μ x_1=>SD (x_1.1<x_1.2.1) (Mf x_1 p I μ) (Mg x_1 s x p)
abbrev B8(x:kI):=IntKind.u64.wrap (x.1+x.2.1) / z2 ^ y1
abbrev Mh(x:kI)(p:Px)(I:yx)(μ:yy):=aa (x.1+x.2.1)/\(z0<=z1/\z1<=j9)/\(IR (IntKind.i64.wrap (B8 x)) x.2.2)/\W9 p/\SP (!!under p
 (x.2.2.getD (IntKind.i64.wrap (B8 x)).toNat (List.replicate qg z0,eI,())).1) (aa (IntKind.i64.wrap (B8 x)+z1)/\NX I μ x (IntKind.i64.wrap (B8 x)+z1,x.2)) (NX I μ x
 (x.1,IntKind.i64.wrap (B8 x),x.2.2))
abbrev Sg(I:Int×Int->Prop)(μ:Int×Int->Nat)(s:List It)(x:Int×Int)(p:Px):=(u6 I μ s x p)/\LP (yz s x) fun I μ x_1=>SD (x_1.1<x_1.2.1) (Mf x_1 p I
 μ) (Mg x_1 s x p)
abbrev Mi(x:kI)(s:List It)(p:Px):=(z0<=z0/\z0<=x.1/\x.1<=(ln x.2.2))/\List.take (x.1.toNat-y0) (List.drop y0 x.2.2)=ai s p
abbrev B9(x:Int×Int):=IntKind.u64.wrap (x.1+x.2) / z2 ^ y1
theorem qfJ(s:List It)(p:Px):aW JU0 6 132 GL ((s,()),p)=(LP (z0,(ln s)) fun I μ x=>SD (x.1<x.2) (aa (x.1+x.2)/\(z0<=z1/\z1<=j9)/\(IR (IntKind.i64.wrap
 (B9 x)) s)/\True/\SP (!decide (z0<=nC (s.getD (IntKind.i64.wrap (B9 x)).toNat (List.replicate qg z0,eI,())).1 p.1)) (aa (IntKind.i64.wrap (B9 x)+z1)/\NX I μ x
 (IntKind.i64.wrap (B9 x)+z1,x.2)) (NX I μ x (x.1,IntKind.i64.wrap (B9 x)))) ((z0<=x.1/\x.1<=(ln s))/\((Sg I μ s x p)/\LP (yz s x) fun I μ x_1=>SD (x_1.1<
 x_1.2.1) (Mf x_1 p I μ) (Mg x_1 s x p))/\((Sg I μ s x p)/\((u6 I μ s x p)/\(u6 I μ s x p)/\LP (yz s x) fun I μ x=>SD (x.1<x.2.1) (Mh x p I μ) (Mi x s
 p))/\(u6 I μ s x p)/\(u6 I μ s x p)/\LP (yz s x) fun I μ x=>SD (x.1<x.2.1) (Mh x p I μ) (Mi x s p))/\(u6 I μ s x p)/\(u6 I μ s x p)/\LP (yz s x)
 fun I μ x=>SD (x.1<x.2.1) (Mh x p I μ) (Mi x s p))):=by kernel_rfl
abbrev GN(m:Pc)(x:Int)(I:Int->Prop)(μ:Int->Nat):=SD (m.1=z2) (W9 m.2.1/\SP (!under m.2.1 (m.2.2.2.2.1.getD x.toNat (List.replicate qg z0))) (z3=bh m) (aa
 (x+z1)/\NX I μ x (x+z1))) (aa (x+z1)/\NX I μ x (x+z1))
theorem Xg(m:Pc):aW JS0 6 99 GK m=(SD (m.1<z1) (z1=bh m) (SD (z4<m.1) (z1=bh m) (True/\SP (!dK m) (z3=bh m) (True/\SP (!bQ m.2.1) (z3=
 bh m) (SD (m.2.2.2.1<z0) (z3=bh m) (SD ((65536:Int)<m.2.2.2.1) (z3=bh m) (SD ((65536:Int)<(ln m.2.2.2.2.1)) (z3=bh m) (SD ((1048576:Int)<(ln
 m.2.2.2.2.2.1)) (z3=bh m) (LP z0 fun I μ x=>SD (x<(ln m.2.2.2.2.1)) ((IR x m.2.2.2.2.1)/\SD (z0<x) (aa (x-z1)/\(IR (x-z1) m.2.2.2.2.1)/\True/\SD (z0<=nC
 (m.2.2.2.2.1.getD (x-z1).toNat (List.replicate qg z0)) (m.2.2.2.2.1.getD x.toNat (List.replicate qg z0))) (z3=bh m) (GN m x I μ)) (GN m x I μ)) (z0=bh
 m)))))))))):=by kernel_rfl
noncomputable def JH0:Ctx:=bA bs Sf [] qjL
abbrev rE(p:Px):=(([p.1.getD y0 z0,p.1.getD y1 z0,p.1.getD y2 z0,p.1.getD y3 z0,p.1.getD y4 z0,p.1.getD y5 z0,p.1.getD y6 z0,p.1.getD y7 z0,p.1.getD y8 z0,p.1.getD y9
 z0,p.1.getD ya z0,p.1.getD BJ z0,p.1.getD zW z0,p.1.getD kD z0,p.1.getD BK z0,p.1.getD BL z0],p.2.1+z1,()),[p.1.getD y0 z0,p.1.getD y1 z0,p.1.getD y2 z0,p.1.getD y3 z0,
 p.1.getD y4 z0,p.1.getD y5 z0,p.1.getD y6 z0,p.1.getD y7 z0,p.1.getD y8 z0,p.1.getD y9 z0,p.1.getD ya z0,p.1.getD BJ z0,p.1.getD zW z0,p.1.getD kD z0,p.1.getD BK z0,p.1.getD
 BL z0].set (p.2.1.tdiv z8).toNat (aK BinOp.or IntKind.u8 ([p.1.getD y0 z0,p.1.getD y1 z0,p.1.getD y2 z0,p.1.getD y3 z0,p.1.getD y4 z0,p.1.getD y5 z0,p.1.getD y6 z0,p.1.getD y7
 z0,p.1.getD y8 z0,p.1.getD y9 z0,p.1.getD ya z0,p.1.getD BJ z0,p.1.getD zW z0,p.1.getD kD z0,p.1.getD BK z0,p.1.getD BL z0].getD (p.2.1.tdiv z8).toNat z0) ((128:Int) / z2 ^
 (p.2.1.tmod z8).toNat)),p.2.1+z1,())
abbrev rF(p:Px):=z0<=p.2.1.tdiv z8/\p.2.1.tdiv z8<uR
theorem Sh(p:Px):aW JH0 6 131 B6 p=(aa (p.2.1+z1)/\((z8≠z0/\aa (p.2.1.tdiv z8))/\(rF p)/\z8≠z0/\(z0<=p.2.1.tmod z8/\p.2.1.tmod z8<=z8)/\
 (rF p)/\(rE p)=(half p false,half p true)/\(rE p)=(half p false,half p true))/\z8≠z0/\(z0<=p.2.1.tmod z8/\p.2.1.tmod z8<=z8)/\(z8≠z0/\aa
 (p.2.1.tdiv z8))/\(rF p)/\(rF p)/\(rE p)=(half p false,half p true)/\(rE p)=(half p false,half p true)):=by kernel_rfl
noncomputable def JD1:Ctx:=bA bs ((62,v5)::(132,GL)::Sf) [] qjO
theorem Xh(s:List It)(x:List Int):aW JD1 6 47 Al ((s,()),x)=(eA s/\((!cJ s x)=true->(bytesOf {data:=#[]},false)=((cD s x).getD [],
 cJ s x))/\((!cJ s x)=false->((0:Int)<=(↑(cA s x):Int)/\(↑(cA s x):Int)<(↑s.length:Int))/\((s.getD (↑(cA s x):Int).toNat (List.replicate (16:Nat)
 (0:Int),[],())).snd.fst,true)=((cD s x).getD [],cJ s x))):=by kernel_rfl
theorem Si(s:List It)(p:Px):aW JD1 6 130 GM ((s,()),p)=(j5 s p/\LP (z0,eL) fun I μ x=>SD (x.1<(ln (ai s p))) ((IR x.1 (ai s p))/\aM JD1 (70:
 Nat) (x.2.length+[((ai s p).getD x.1.toNat (List.replicate qg z0,eI,())).1].length)/\aa (x.1+z1)/\NX I μ x (x.1+z1,x.2++[((ai s p).getD x.1.toNat (List.replicate
 qg z0,eI,())).1])) (x.2=aA (ai s p))):=by kernel_rfl
theorem qb3(s:List It)(p:Px):aW JD1 6 125 Md ((s,()),p)=(j5 s p/\∃(I:Int×List (List Int)×List Int->Prop),∃(μ:Int×List (List Int)×List
 Int->Nat),I ((0:Int),[],[(0:Int),(0:Int),(0:Int),(0:Int),(0:Int),(0:Int),(0:Int),(0:Int),(0:Int),(0:Int),(0:Int),(0:Int),(0:Int),(0:
 Int),(0:Int),(0:Int)])/\∀(x:Int×List (List Int)×List Int),I x->(decide (x.fst<(↑(ai s p).length:Int))=true->((0:Int)<=x.fst/\x.fst<(↑(ai s
 p).length:Int))/\((0:Int)<=(0:Int)/\(0:Int)<=(16:Int)/\(16:Int)<=(16:Int)/\(0:Int)<(16:Int))/\aM JD1 (9:Nat) (x.snd.fst.length+[List.take (16:
 Nat) (List.drop (0:Nat) ((ai s p).getD x.fst.toNat (List.replicate (16:Nat) (0:Int),[],())).fst)].length)/\aa (x.fst+(1:Int))/\I (x.fst+(1:Int),
 x.snd.fst++[List.take (16:Nat) (List.drop (0:Nat) ((ai s p).getD x.fst.toNat (List.replicate (16:Nat) (0:Int),[],())).fst)],x.snd.snd)/\μ (x.fst+(1:Int),
 x.snd.fst++[List.take (16:Nat) (List.drop (0:Nat) ((ai s p).getD x.fst.toNat (List.replicate (16:Nat) (0:Int),[],())).fst)],x.snd.snd)<μ x)/\(decide (x.fst<
 (↑(ai s p).length:Int))=false->sY x.snd.fst/\(iq (45:Int) x.snd.fst,(↑x.snd.fst.length:Int))=(Hx (aA (ai s p)),(↑(ai s p).length:Int)))):=
 by kernel_rfl
noncomputable def JD2:Ctx:=bA bs [(125,Md)] [] qb1
abbrev fQ(s:List It)(p:Px):=Hx (aA (ai s p))
theorem qb4(s:List It)(p:Px):aW JD2 6 98 Et ((s,()),p)=(j5 s p/\(z1,([p.1.getD y0 z0,p.1.getD y1 z0,p.1.getD y2 z0,p.1.getD y3 z0,p.1.getD y4 z0,p.1.getD y5
 z0,p.1.getD y6 z0,p.1.getD y7 z0,p.1.getD y8 z0,p.1.getD y9 z0,p.1.getD ya z0,p.1.getD BJ z0,p.1.getD zW z0,p.1.getD kD z0,p.1.getD BK z0,p.1.getD BL z0],p.2.1,()),
 [(fQ s p).getD y0 z0,(fQ s p).getD y1 z0,(fQ s p).getD y2 z0,(fQ s p).getD y3 z0,(fQ s p).getD y4 z0,(fQ s p).getD y5 z0,(fQ s p).getD y6 z0,
 (fQ s p).getD y7 z0,(fQ s p).getD y8 z0,(fQ s p).getD y9 z0,(fQ s p).getD ya z0,(fQ s p).getD BJ z0,(fQ s p).getD zW z0,(fQ s p).getD kD z0,
 (fQ s p).getD BK z0,(fQ s p).getD BL z0],(ln (ai s p)),eL,bytesOf {data:=#[]},())=aP Hx s p):=by kernel_rfl
noncomputable def JD3:Ctx:=bA bs [(98,Et)] [] qb1
theorem qb5(s:List It):aW JD3 6 49 Me (s,())=(j5 s ([(0:Int),(0:Int),(0:Int),(0:Int),(0:Int),(0:Int),(0:Int),(0:Int),(0:Int),(0:
 Int),(0:Int),(0:Int),(0:Int),(0:Int),(0:Int),(0:Int)],(0:Int),())/\aP Hx s ([(0:Int),(0:Int),(0:Int),(0:Int),(0:Int),(0:Int),(0:
 Int),(0:Int),(0:Int),(0:Int),(0:Int),(0:Int),(0:Int),(0:Int),(0:Int),(0:Int)],(0:Int),())=aP Hx s root):=by kernel_rfl
end Go.Proofs.YtobfmplofoofkaaGreatDoor
namespace Go.PL
def Am(m:Pc):Prop:=m.2.2.2.2.1.length<=900/\m.2.2.2.2.2.1.length<=20000
def bB(s:List It)(m:Pc):Sk×List Pc×Int:=(((cg Hx eK s m).1,()),(cg Hx eK s m).2.1,(cg Hx eK s m).2.2)
def lE(a b:List It):Prop:=oh eK a/\oh eK b/\a.length<=28/\b.length<=28/\∀it∈a++b,it.2.1.length<=20000
abbrev S2t:=Sk×Sk×Unit
def Dh(r:(List It×List It)×Bool):S2t×Bool:=(((r.1.1,()),(r.1.2,()),()),r.2)
end Go.PL
namespace Go.Proofs.YtobfmplofoofkaaGreatDoor
open Go.AM Go.PL
def GO:aJ:=⟨[SK,.str],[SK,I],fun x=>eA (x.1:Sk).1/\(x.2:List Int).length<=20000,fun x=>(((jL eK (x.1:Sk).1 x.2).1,()),(jL eK (x.1:Sk).1 x.2).2)⟩
def Mj:aJ:=⟨[SK,PC],[SK,.arr PC,I],fun x=>eA (x.1:Sk).1/\Am x.2,fun x=>bB (x.1:Sk).1 x.2⟩
end Go.Proofs.YtobfmplofoofkaaGreatDoor
namespace Go.PL
end Go.PL
namespace Go.Proofs.YtobfmplofoofkaaGreatDoor
open Go.AM Go.PL
def Eu:aJ:=⟨[SK,SK],[S2,.bool],fun x=>lE (x.1:Sk).1 (x.2:Sk).1,fun x=>Dh (kR Hx eK (x.1:Sk).1 (x.2:Sk).1)⟩
def qfK(f:FuncId)(r:Nat):List LA:=
 if Nat.beq f 16 then
  bif Nat.beq r 4 then [.slot 8 I,.nN 7 119 SE,.cell 1 0 IL,.cell 1 1 IL]
  else [.slot 55 I,.nN 7 119 SE,.cell 1 0 IL,.cell 1 1 IL,.aT 3 SE] else
 []
def qm4(t:TypeId):Nat:=bif Nat.beq t 70||(Nat.beq t 72||(Nat.beq t 113||(Nat.beq t 116||Nat.beq t 119))) then 2 else 0
def qjP(f:FuncId):Hint:=if Nat.beq f 999999995 then⟨fun _=>[],fun _=>.split,fun _=>.split,qm4⟩ else
 if Nat.beq f 999999996 then⟨fun _=>[],fun _=>.split,fun _=>.split,fun t=>bif Nat.beq t 120 then 2 else 0⟩ else
 ⟨qfK f,fun _=>.split,fun _=>.split,fun r=>bif Nat.beq f 16&&Nat.beq r 10 then 100000+16*3+2 else 0⟩
noncomputable def MA0:Ctx:=bA bs [(50,Mj),(49,Me)] [] qjP
abbrev kT:Type:=Int×List (Int×(Int×(List Int×Int×Unit)×List Int×Int×List (List Int)×List Int×Unit)×Unit)×List (List Int×List Int×Unit)×List (List
 Int×List Int×Unit)
abbrev ng:Type:=Int×List (Int×(Int×(List Int×Int×Unit)×List Int×Int×List (List Int)×List Int×Unit)×Unit)×List (List Int×List Int×Unit)×List (List
 Int×List Int×Unit)×Int×(Int×(List Int×Int×Unit)×List Int×Int×List (List Int)×List Int×Unit)×Unit
abbrev Pg:Type:=Int×List (Int×(Int×(List Int×Int×Unit)×List Int×Int×List (List Int)×List Int×Unit)×Unit)×List (List Int×List Int×Unit)×List (List
 Int×List Int×Unit)->Prop
abbrev Pj:Type:=Int×List (Int×(Int×(List Int×Int×Unit)×List Int×Int×List (List Int)×List Int×Unit)×Unit)×List (List Int×List Int×Unit)×List (List
 Int×List Int×Unit)->Nat
abbrev Ev:=(z0,(List.replicate qg z0,z0,()),List.replicate qg z0,z0,eL,eI,())
abbrev eX(x:kT):=x.2.1.getD y0 (z0,Ev,())
abbrev bH(x:kT)(x_1:ng):=(bB x.2.2.2 (eX x).2.1).2.1.getD x_1.1.toNat Ev
abbrev bI(x:kT)(x_1:ng):=(bB x.2.2.1 (eX x).2.1).2.1.getD x_1.1.toNat Ev
abbrev Mk(x_1:ng)(x:kT):=(z1-x_1.2.2.2.2.1,((bH x x_1).1,([(bH x x_1).2.1.1.getD y0 z0,(bH x x_1).2.1.1.getD y1 z0,(bH x
 x_1).2.1.1.getD y2 z0,(bH x x_1).2.1.1.getD y3 z0,(bH x x_1).2.1.1.getD y4 z0,(bH x x_1).2.1.1.getD y5 z0,(bH x x_1).2.1.1.getD y6 z0,(bH x x_1).2.1.1.getD y7
 z0,(bH x x_1).2.1.1.getD y8 z0,(bH x x_1).2.1.1.getD y9 z0,(bH x x_1).2.1.1.getD ya z0,(bH x x_1).2.1.1.getD BJ z0,(bH x x_1).2.1.1.getD zW z0,(bH x
 x_1).2.1.1.getD kD z0,(bH x x_1).2.1.1.getD BK z0,(bH x x_1).2.1.1.getD BL z0],(bH x x_1).2.1.2.1,()),[(bH x x_1).2.2.1.getD y0 z0,(bH x x_1).2.2.1.getD y1
 z0,(bH x x_1).2.2.1.getD y2 z0,(bH x x_1).2.2.1.getD y3 z0,(bH x x_1).2.2.1.getD y4 z0,(bH x x_1).2.2.1.getD y5 z0,(bH x x_1).2.2.1.getD y6 z0,(bH x
 x_1).2.2.1.getD y7 z0,(bH x x_1).2.2.1.getD y8 z0,(bH x x_1).2.2.1.getD y9 z0,(bH x x_1).2.2.1.getD ya z0,(bH x x_1).2.2.1.getD BJ z0,(bH x x_1).2.2.1.getD
 zW z0,(bH x x_1).2.2.1.getD kD z0,(bH x x_1).2.2.1.getD BK z0,(bH x x_1).2.2.1.getD BL z0],(bH x x_1).2.2.2.1,(bH x x_1).2.2.2.2.1,(bH x
 x_1).2.2.2.2.2.1,()),())
abbrev Ml(x_1:ng)(x:kT):=(z1-x_1.2.2.2.2.1,((bI x x_1).1,([(bI x x_1).2.1.1.getD y0 z0,(bI x x_1).2.1.1.getD y1 z0,(bI x
 x_1).2.1.1.getD y2 z0,(bI x x_1).2.1.1.getD y3 z0,(bI x x_1).2.1.1.getD y4 z0,(bI x x_1).2.1.1.getD y5 z0,(bI x x_1).2.1.1.getD y6 z0,(bI x x_1).2.1.1.getD y7
 z0,(bI x x_1).2.1.1.getD y8 z0,(bI x x_1).2.1.1.getD y9 z0,(bI x x_1).2.1.1.getD ya z0,(bI x x_1).2.1.1.getD BJ z0,(bI x x_1).2.1.1.getD zW z0,(bI x
 x_1).2.1.1.getD kD z0,(bI x x_1).2.1.1.getD BK z0,(bI x x_1).2.1.1.getD BL z0],(bI x x_1).2.1.2.1,()),[(bI x x_1).2.2.1.getD y0 z0,(bI x x_1).2.2.1.getD y1
 z0,(bI x x_1).2.2.1.getD y2 z0,(bI x x_1).2.2.1.getD y3 z0,(bI x x_1).2.2.1.getD y4 z0,(bI x x_1).2.2.1.getD y5 z0,(bI x x_1).2.2.1.getD y6 z0,(bI x
 x_1).2.2.1.getD y7 z0,(bI x x_1).2.2.1.getD y8 z0,(bI x x_1).2.2.1.getD y9 z0,(bI x x_1).2.2.1.getD ya z0,(bI x x_1).2.2.1.getD BJ z0,(bI x x_1).2.2.1.getD
 zW z0,(bI x x_1).2.2.1.getD kD z0,(bI x x_1).2.2.1.getD BK z0,(bI x x_1).2.2.1.getD BL z0],(bI x x_1).2.2.2.1,(bI x x_1).2.2.2.2.1,(bI x
 x_1).2.2.2.2.2.1,()),())
theorem qb6(a b:List It):aW MA0 6 16 Eu ((a,()),(b,()))=(eA a/\LP (z0,[(z1,((aP Hx a root).1,([(aP Hx a root).2.1.1.getD y0 z0,(aP Hx a
 root).2.1.1.getD y1 z0,(aP Hx a root).2.1.1.getD y2 z0,(aP Hx a root).2.1.1.getD y3 z0,(aP Hx a root).2.1.1.getD y4 z0,(aP Hx a root).2.1.1.getD y5 z0,(aP Hx a
 root).2.1.1.getD y6 z0,(aP Hx a root).2.1.1.getD y7 z0,(aP Hx a root).2.1.1.getD y8 z0,(aP Hx a root).2.1.1.getD y9 z0,(aP Hx a root).2.1.1.getD ya z0,(aP Hx a
 root).2.1.1.getD BJ z0,(aP Hx a root).2.1.1.getD zW z0,(aP Hx a root).2.1.1.getD kD z0,(aP Hx a root).2.1.1.getD BK z0,(aP Hx a root).2.1.1.getD BL z0],(aP Hx a
 root).2.1.2.1,()),[(aP Hx a root).2.2.1.getD y0 z0,(aP Hx a root).2.2.1.getD y1 z0,(aP Hx a root).2.2.1.getD y2 z0,(aP Hx a root).2.2.1.getD y3 z0,(aP Hx a
 root).2.2.1.getD y4 z0,(aP Hx a root).2.2.1.getD y5 z0,(aP Hx a root).2.2.1.getD y6 z0,(aP Hx a root).2.2.1.getD y7 z0,(aP Hx a root).2.2.1.getD y8 z0,(aP Hx a
 root).2.2.1.getD y9 z0,(aP Hx a root).2.2.1.getD ya z0,(aP Hx a root).2.2.1.getD BJ z0,(aP Hx a root).2.2.1.getD zW z0,(aP Hx a root).2.2.1.getD kD z0,(aP Hx a
 root).2.2.1.getD BK z0,(aP Hx a root).2.2.1.getD BL z0],(aP Hx a root).2.2.2.1,(aP Hx a root).2.2.2.2.1,(aP Hx a root).2.2.2.2.2.1,()),())],a,b) fun I μ x=>SD (z0<
 (ln x.2.1)) (SD ((5000:Int)<x.1) ((((x.2.2.1,()),(x.2.2.2,()),()),false)=Dh (kR Hx eK a b)) ((IR z0 x.2.1)/\(z0<=z1/\z1<=(ln x.2.1))/\(z0<=(eX x).1/\(eX
 x).1<z2)/\((eX x).1=z1->(z0<=z1/\z1<z2)/\(eA x.2.2.2/\Am (eX x).2.1)/\SP (!decide ((bB x.2.2.2 (eX x).2.1).2.2=z0)) ((((x.2.2.1,()),(x.2.2.2,()),
 ()),false)=Dh (kR Hx eK a b)) ((z0<=z1/\z1<z2)/\LP (z0,List.drop y1 x.2.1,x.2.2.1,(bB x.2.2.2 (eX x).2.1).1.1,z1,(eX x).2) fun wK iS x_1=>SD (x_1.1<
 (ln (bB x.2.2.2 (eX x).2.1).2.1)) ((IR x_1.1 (bB x.2.2.2 (eX x).2.1).2.1)/\aa (z1-x_1.2.2.2.2.1)/\aM MA0 (119:Nat) (x_1.2.1.length+[(Mk x_1 x)].length)/\
 aa (x_1.1+z1)/\NX wK iS x_1 (x_1.1+z1,x_1.2.1++[(Mk x_1 x)],x_1.2.2)) (aa (x.1+z1)/\NX I μ x (x.1+z1,x_1.2.1,x_1.2.2.1,x_1.2.2.2.1))))/\((eX x).1=z0->
 (z0<=z0/\z0<z2)/\(eA x.2.2.1/\Am (eX x).2.1)/\SP (!decide ((bB x.2.2.1 (eX x).2.1).2.2=z0)) ((((x.2.2.1,()),(x.2.2.2,()),()),false)=Dh (kR Hx eK a
 b)) ((z0<=z0/\z0<z2)/\LP (z0,List.drop y1 x.2.1,(bB x.2.2.1 (eX x).2.1).1.1,x.2.2.2,z0,(eX x).2) fun wK iS x_1=>SD (x_1.1<(ln (bB x.2.2.1 (eX
 x).2.1).2.1)) ((IR x_1.1 (bB x.2.2.1 (eX x).2.1).2.1)/\aa (z1-x_1.2.2.2.2.1)/\aM MA0 (119:Nat) (x_1.2.1.length+[(Ml x_1 x)].length)/\aa (x_1.1+z1)/\NX wK
 iS x_1 (x_1.1+z1,x_1.2.1++[(Ml x_1 x)],x_1.2.2)) (aa (x.1+z1)/\NX I μ x (x.1+z1,x_1.2.1,x_1.2.2.1,x_1.2.2.2.1))))/\True)) ((((x.2.2.1,()),(x.2.2.2,()),()),true)
 =Dh (kR Hx eK a b))):=by kernel_rfl
end Go.Proofs.YtobfmplofoofkaaGreatDoor
namespace Go.PL
open Go.AM
abbrev dQ:=List Int×List Int×Unit
def Pk:dQ:=([],[],())
def at_(v:List Int)(i:Nat):Int:=v.getD i 0
def bco(x:Int):Bool:=decide (-1000<=x)&&decide (x<=1000)
def pP(v:List Int):Bool:=upto v.length (fun i=>bco (at_ v i))&&(decide (1<=v.length)&&decide (v.length<=32))
def eU(b:dQ):Bool:=pP b.1&&(pP b.2.1&&(decide (b.1.length=b.2.1.length)&&upto b.1.length (fun i=>decide (at_ b.1 i<=at_ b.2.1 i))))
def gh(a b:dQ):Bool:=eU a&&(eU b&&decide (a.1.length=b.1.length))
def cR(b:dQ)(v:List Int):Bool:=eU b&&(decide (v.length=b.1.length)&&upto v.length (fun i=>decide (at_ b.1 i<=at_ v i)&&decide (at_ v i<=at_ b.2.1 i)))
def lV(a b:dQ):dQ:=(tab a.1.length fun i=>max (at_ a.1 i) (at_ b.1 i),tab a.2.1.length fun i=>min (at_ a.2.1 i) (at_ b.2.1 i),())
def jG(a b:dQ):dQ×Bool×Int:=if gh a b then (if eU (lV a b) then (lV a b,true,0) else (Pk,false,0)) else (Pk,false,1)
def iE(x:Int):List Int->Int
 |[]=>-1
 |y::v=>if x=y then 0 else if iE x v= -1 then-1 else iE x v+1
def sm(v:List Int):Prop:=v.length<=64/\∀i,-4000<=at_ v i/\at_ v i<=4000
end Go.PL
namespace Go.Proofs.YtobfmplofoofkaaGreatDoor
open Go.AM Go.PL
def qqf(how:FuncId)(x y:Int):Int:=if how=95 then min x y else if how=94 then max x y else x-y
def Sj(a b:List Int)(how:FuncId):List Int:=tab a.length fun i=>qqf how (at_ a i) (at_ b i)
def Sl:aJ:=⟨[L],[.bool],fun _=>True,fun v=>pP v⟩
def Sn:aJ:=⟨[BX],[.bool],fun _=>True,fun b=>eU b⟩
def So:aJ:=⟨[BX,BX],[.bool],fun _=>True,fun x=>gh x.1 x.2⟩
def GP:aJ:=⟨[BX,L],[.bool],fun _=>True,fun x=>cR x.1 x.2⟩
def qb7:aJ:=⟨[I,I],[I],fun _=>True,fun x=>min (x.1:Int) x.2⟩
def qb8:aJ:=⟨[I,I],[I],fun _=>True,fun x=>max (x.1:Int) x.2⟩
def Di:aJ:=⟨[L,L,.qi],[L],fun x=>sm x.1/\sm x.2.1/\(x.1:List Int).length<=(x.2.1:List Int).length/\(x.2.2=95\/x.2.2=94),
 fun x=>Sj x.1 x.2.1 x.2.2⟩
def Iu:cL:=⟨[L],3,I,fun v=>(v:List Int).length<=1000000,fun v=>v⟩
def UL:aJ:=⟨[L,I],[I],fun _=>True,fun x=>iE x.2 x.1⟩
def Sq:aJ:=⟨[BX,BX],[BX,.bool,I],fun _=>True,fun x=>jG x.1 x.2⟩
def qfL(f:FuncId)(r:Nat):List LA:=
 if Nat.beq f 143 then [.slot 8 I] else
 if Nat.beq f 121 then [.slot 10 I] else
 if Nat.beq f 93 then [.dF 7 3 I,.slot 11 I] else
 if Nat.beq f 10 then [.slot 20 I] else
 if Nat.beq f 96 then [.slot 8 I] else
 []
def Mm(f:FuncId):Hint:=⟨qfL f,fun r=>.split,fun _=>.split,fun _=>0⟩
def tB1:List (FuncId×aJ):=[(84,Sl),(95,qb7),(94,qb8),
 (96,UL)]
noncomputable def B0:Ctx:=bA bs [] [] Mm
noncomputable def B1:Ctx:=bA bs tB1 [] Mm
def tB2:List (FuncId×aJ):=(40,Sn)::(93,Di)::tB1
noncomputable def B2:Ctx:=bA bs tB2 [] Mm
def tB3:List (FuncId×aJ):=(92,So)::(10,GP)::(39,Iu.data)::tB2
noncomputable def B3:Ctx:=bA bs tB3 [] Mm
theorem qb9(v:List Int):aW B0 6 84 Sl v=(SD (z1<=(ln v)) (SD ((ln v)<=nj) (LP z0 fun I μ x=>SD (x<(ln v)) ((IR x v)/\SD (v.getD x.toNat z0<(-1000:Int))
 ((!decide (z0<=x))=pP v) (SD ((1000:Int)<v.getD x.toNat z0) ((!decide (z0<=x))=pP v) (aa (x+z1)/\NX I μ x (x+z1)))) (true=pP v)) (false=pP v)) (false=pP
 v)):=by kernel_rfl
theorem qca(x y:Int):aW B0 6 95 qb7 (x,y)=(min x y=min x y):=by kernel_rfl
theorem qcb(x y:Int):aW B0 6 94 qb8 (x,y)=(max x y=max x y):=by kernel_rfl
theorem qjQ(v:List Int)(x:Int):aW B0 6 96 UL (v,x)=(∃(I:Int->Prop),∃(μ:Int->Nat),I (0:Int)/\∀(x_1:Int),I x_1->(decide (x_1<(↑v.length:Int))
 =true->((0:Int)<=x_1/\x_1<(↑v.length:Int))/\(decide (x=v.getD x_1.toNat (0:Int))=true->x_1=iE x v)/\(decide (x=v.getD x_1.toNat (0:Int))=false->
 aa (x_1+(1:Int))/\I (x_1+(1:Int))/\μ (x_1+(1:Int))<μ x_1))/\(decide (x_1<(↑v.length:Int))=false->(-1:Int)=iE x v)):=by kernel_rfl
theorem qjR(v:List Int):cz B0 6 39 Iu v=(∀(b:Bool),(b=true->v=[])->(b=true->[]=v)/\(b=false->aM B0 (3:Nat) v.length/\v=v)):=by
 kernel_rfl
theorem Xi(b:dQ):aW B1 6 40 Sn b=(True/\SP (!pP b.1) (false=eU b) (True/\SP (!pP b.2.1) (false=eU b) (SP (!decide ((ln b.1)=(ln b.2.1))) (false=eU b)
 (LP z0 fun I μ x=>SD (x<min (ln b.1) (ln b.2.1)) ((IR x b.1)/\(IR x b.2.1)/\SD (b.2.1.getD x.toNat z0<b.1.getD x.toNat z0) (false=eU b) (aa (x+z1)/\NX I μ x (x+z1)))
 (true=eU b))))):=by kernel_rfl
theorem qfM(a b:List Int):aW B1 6 93 Di (a,b,95)=(LP (eI,z0) fun I μ x=>SD (x.2<(ln a)) ((IR x.2 a)/\(IR x.2 b)/\True/\aM B1 y3 (x.1.length+[min (a.getD
 x.2.toNat z0) (b.getD x.2.toNat z0)].length)/\aa (x.2+z1)/\NX I μ x (x.1++[min (a.getD x.2.toNat z0) (b.getD x.2.toNat z0)],x.2+z1)) (x.1=Sj a b (95:Nat))):=by
 kernel_rfl
theorem qfN(a b:List Int):aW B1 6 93 Di (a,b,94)=(LP (eI,z0) fun I μ x=>SD (x.2<(ln a)) ((IR x.2 a)/\(IR x.2 b)/\True/\aM B1 y3 (x.1.length+[max (a.getD
 x.2.toNat z0) (b.getD x.2.toNat z0)].length)/\aa (x.2+z1)/\NX I μ x (x.1++[max (a.getD x.2.toNat z0) (b.getD x.2.toNat z0)],x.2+z1)) (x.1=Sj a b (94:Nat))):=by
 kernel_rfl
theorem Xj(a b:dQ):aW B2 6 92 So (a,b)=(True/\(eU a=true->True/\(eU b=true->decide ((↑a.fst.length:Int)=(↑b.fst.length:Int))=gh a b)/\
 (eU b=false->false=gh a b))/\(eU a=false->false=gh a b)):=by kernel_rfl
theorem qfO(b:dQ)(v:List Int):aW B2 6 10 GP (b,v)=(True/\((!eU b)=true->false=cR b v)/\((!eU b)=false->((!decide ((↑v.length:Int)=
 (↑b.fst.length:Int)))=true->false=cR b v)/\((!decide ((↑v.length:Int)=(↑b.fst.length:Int)))=false->∃(I:Int->Prop),∃(μ:Int->Nat),I (0:Int)/\∀(x:
 Int),I x->(decide (x<(↑v.length:Int))=true->((0:Int)<=x/\x<(↑v.length:Int))/\((0:Int)<=x/\x<(↑b.fst.length:Int))/\(decide (v.getD x.toNat (0:Int)<
 b.fst.getD x.toNat (0:Int))=true->false=cR b v)/\(decide (v.getD x.toNat (0:Int)<b.fst.getD x.toNat (0:Int))=false->((0:Int)<=x/\x<(↑b.snd.fst.length:
 Int))/\(decide (b.snd.fst.getD x.toNat (0:Int)<v.getD x.toNat (0:Int))=true->false=cR b v)/\(decide (b.snd.fst.getD x.toNat (0:Int)<v.getD x.toNat (0:Int))=
 false->aa (x+(1:Int))/\I (x+(1:Int))/\μ (x+(1:Int))<μ x)))/\(decide (x<(↑v.length:Int))=false->true=cR b v)))):=by kernel_rfl
theorem qfP(a b:dQ):aW B3 6 45 Sq (a,b)=(True/\SP (!gh a b) (((eI,eI,()),false,z1)=jG a b) ((sm a.1/\sm b.1/\a.1.length<=b.1.length/\((94:Nat)=(95:
 Nat)\/(94:Nat)=(94:Nat)))/\(sm a.2.1/\sm b.2.1/\a.2.1.length<=b.2.1.length/\((95:Nat)=(95:Nat)\/(95:Nat)=(94:Nat)))/\True/\SP (!eU (Sj a.1 b.1 (94:Nat),
 Sj a.2.1 b.2.1 (95:Nat),())) (((eI,eI,()),false,z0)=jG a b) (((Sj a.1 b.1 (94:Nat),Sj a.2.1 b.2.1 (95:Nat),()),true,z0)=jG a b))):=by kernel_rfl
end Go.Proofs.YtobfmplofoofkaaGreatDoor
namespace Go.PL
open Go.AM
theorem qfQ{x:Int}:bco x=true↔ -1000<=x/\x<=1000:=by simp[bco]
theorem j6{v:List Int}:pP v=true↔(∀i,i<v.length-> -1000<=v.getD i 0/\v.getD i 0<=1000)/\1<=v.length/\v.length<=32:=by
 unfold pP at_;simp only[Wac,m9,decide_eq_true_eq,qfQ]
theorem ke{v:List Int}(h:pP v=true)(i:Nat):-1000<=v.getD i 0/\v.getD i 0<=1000:=by
 rcases Wak i v.length with h'|h'
 ·exact (j6.1 h).1 i h'
 ·rw[Gz h'];omega
theorem rG{v:List Int}(h:pP v=true):1<=v.length/\v.length<=32:=(j6.1 h).2
theorem fR{b:dQ}:eU b=true↔pP b.1=true/\pP b.2.1=true/\b.1.length=b.2.1.length/\∀i,i<b.1.length->b.1.getD i 0<=b.2.1.getD i 0:=by
 unfold eU at_;simp only[Wac,m9,decide_eq_true_eq]
theorem An{b:dQ}(h:eU b=true)(i:Nat):-1000<=b.1.getD i 0/\b.1.getD i 0<=b.2.1.getD i 0/\b.2.1.getD i 0<=1000:=by
 obtain⟨h1,h2,h3,h4⟩:=fR.1 h;refine⟨(ke h1 i).1,?_,(ke h2 i).2⟩
 rcases Wak i b.1.length with h'|h'
 ·exact h4 i h'
 ·rw[Gz h',Gz (by omega)];omega
theorem rH{b:dQ}(h:eU b=true):1<=b.1.length/\b.1.length<=32/\b.2.1.length=b.1.length:=by
 obtain⟨h1,h2,h3,h4⟩:=fR.1 h;have:=rG h1
 omega
theorem iF{a b:dQ}:gh a b=true↔eU a=true/\eU b=true/\a.1.length=b.1.length:=by
 unfold gh;simp only[Wac,decide_eq_true_eq]
theorem fu{b:dQ}{v:List Int}:cR b v=true↔eU b=true/\v.length=b.1.length/\∀i,i<v.length->b.1.getD i 0<=v.getD i 0/\v.getD i 0<=b.2.1.getD i 0:=by
 unfold cR at_;simp only[Wac,m9,decide_eq_true_eq]
theorem Ew{v:List Int}(h:pP v=true):sm v:=
 ⟨by have:=rG h;omega,fun i=>by have:=ke h i;unfold at_;omega⟩
theorem qu(x:Int):∀(v:List Int),(iE x v= -1/\∀i,i<v.length->v.getD i 0≠x)\/(0<=iE x v/\iE x v<v.length/\v.getD (iE x v).toNat 0=x/\∀j:Nat,(j:Int)<iE x v->v.getD j 0≠x)
 |[]=>.inl ⟨rfl,fun i hi=>by simp at hi⟩
 |y::v=>by
  unfold iE;by_cases h:x=y
  ·rw[if_pos h];exact .inr ⟨by omega,by simp,by simpa using h.symm,fun j hj=>by omega⟩
  ·rw[if_neg h];rcases qu x v with ⟨h1,h2⟩|⟨h1,h2,h3,h4⟩
   ·rw[if_pos h1];refine .inl ⟨rfl,fun i hi=>?_⟩
    cases i with
    |zero=>simpa using fun e=>h e.symm
    |succ i=>simpa using h2 i (by simpa using hi)
   ·rw[if_neg (by omega)]
    refine .inr ⟨by omega,by simp;omega,?_,fun j hj=>?_⟩
    ·rw[show (iE x v+1).toNat=(iE x v).toNat+1 by omega]
     simpa using h3
    ·cases j with
     |zero=>simpa using fun e=>h e.symm
     |succ j=>simpa using h4 j (by omega)
theorem Xk{x:Int}{v:List Int}{i:Int}(h0:0<=i)(h1:i<v.length)(h2:v.getD i.toNat 0=x)(h3:∀j:Nat,(j:Int)<i->v.getD j 0≠x):iE x v=i:=by
 rcases qu x v with ⟨g1,g2⟩|⟨g1,g2,g3,g4⟩
 ·exact absurd h2 (g2 _ (by omega))
 ·rcases Int.lt_trichotomy (iE x v) i with h|h|h
  ·exact absurd g3 (h3 _ (by omega))
  ·exact h
  ·exact absurd h2 (g4 _ (by omega))
theorem Pn{x:Int}{v:List Int}(h:∀j:Nat,j<v.length->v.getD j 0≠x):iE x v= -1:=by
 rcases qu x v with ⟨g1,g2⟩|⟨g1,g2,g3,g4⟩
 ·exact g1
 ·exact absurd g3 (h _ (by omega))
end Go.PL
namespace Go.Proofs.YtobfmplofoofkaaGreatDoor
open Go.AM Go.PL
attribute [local irreducible] aW cz
theorem qcc:au B0:=az trivial trivial
theorem qcd:Tryz.prog.bytesOf 3=8:=by kernel_rfl
theorem UM:B1.P.bytesOf 3=8:=by kernel_rfl
theorem qce{C:Ctx}{n:Nat}(hb:C.P.bytesOf 3=8)(h:n<=1000000):aM C 3 n:=by
 unfold aM;rw[hb];omega
theorem Ca:Sat Tryz.prog 84 Sl:=by
 refine bq (C:=B0) qcc qb9 fun (v:List Int) hk hp=>?_;delta IR LP NX SD ln z0 z1 nj;dsimp only
 refine⟨fun c1=>⟨fun c2=>⟨fun x=>0<=x/\x<=v.length/\∀j:Nat,(j:Int)<x-> -1000<=v.getD j 0/\v.getD j 0<=1000,fun x=>((v.length:Int)-x).toNat,⟨by omega,by omega,fun j hj=>by omega⟩,
  fun x ⟨h0,h1,h2⟩=>⟨fun c=>?_,fun c=>?_⟩⟩,fun c2=>?_⟩,fun c1=>?_⟩
 ·have c:=dt c;refine⟨⟨h0,c⟩,fun g=>?_,fun g=>⟨fun g'=>?_,fun g'=>⟨iC h0 c hk.1,⟨by omega,by omega,iB h0 h2 ?_⟩,by dsimp only;omega⟩⟩⟩
  ·have g:=dt g;rw[decide_eq_true h0];exact gU fun hb=>by have:=ke hb x.toNat;omega
  ·have g:=dt g';rw[decide_eq_true h0];exact gU fun hb=>by have:=ke hb x.toNat;omega
  ·have g:=df g;have g':=df g';omega
 ·have c:=df c;exact (j6.2 ⟨fun i hi=>h2 i (by omega),by have:=dt c1;omega,by have:=dt c2;omega⟩).symm
 ·have c2:=df c2;exact gU fun hb=>by have:=rG hb;omega
 ·have c1:=df c1;exact gU fun hb=>by have:=rG hb;omega
theorem Cb:Sat Tryz.prog 95 qb7:=bq (C:=B0) qcc (fun x=>qca x.1 x.2) fun _ _ _=>rfl
theorem Cc:Sat Tryz.prog 94 qb8:=bq (C:=B0) qcc (fun x=>qcb x.1 x.2) fun _ _ _=>rfl
theorem Ey:Sat Tryz.prog 96 UL:=by
 refine bq (C:=B0) qcc (fun x=>qjQ x.1 x.2) fun (⟨v,x⟩:List Int×Int) hk hp=>?_
 dsimp only;refine⟨fun i=>0<=i/\i<=v.length/\∀j:Nat,(j:Int)<i->v.getD j 0≠x,fun i=>((v.length:Int)-i).toNat,⟨by omega,by omega,fun j hj=>by omega⟩,fun i ⟨h0,h1,h2⟩=>⟨fun c=>?_,fun c=>?_⟩⟩
 ·have c:=dt c;refine⟨⟨h0,c⟩,fun g=>(Xk h0 c (dt g).symm h2).symm,fun g=>⟨iC h0 c hk.1.1,⟨by omega,by omega,iB h0 h2 fun e=>df g e.symm⟩,by dsimp only;omega⟩⟩
 ·exact (Pn fun j hj=>h2 j (by have:=df c;omega)).symm
theorem nh:qY Tryz.prog 39 Iu:=by
 refine gH (C:=B0) qcc 6 _ _ fun (v:List Int) hk (hp:v.length<=1000000)=>?_
 rw[qjR];exact fun b h=>⟨fun hb=>(h hb).symm,fun _=>⟨qce qcd (by omega),rfl⟩⟩
theorem qm5:au B1:=az ⟨Ca,Cb,Cc,Ey,trivial⟩ trivial
theorem GQ:Sat Tryz.prog 40 Sn:=by
 refine bq (C:=B1) qm5 Xi fun (b:dQ) hk hp=>?_;delta IR LP NX SD SP ln z0 z1;dsimp only
 refine⟨trivial,fun c=>gU fun h=>?_,fun c1=>⟨trivial,fun c=>gU fun h=>?_,fun c2=>⟨fun c=>gU fun h=>?_,fun c3=>⟨fun x=>0<=x/\x<=b.1.length/\∀j:Nat,(j:Int)<x->b.1.getD j 0<=b.2.1.getD j 0,fun x=>((b.1.length:Int)-x).toNat,
  ⟨by omega,by omega,fun j hj=>by omega⟩,fun x ⟨h0,h1,h2⟩=>⟨fun c=>?_,fun c=>?_⟩⟩⟩⟩⟩
 ·have:=nt c;rw[(fR.1 h).1]at this;cases this
 ·have:=nt c;rw[(fR.1 h).2.1]at this;cases this
 ·have:=(fR.1 h).2.2.1;exact ndt c (by omega)
 ·have c3:=Uy c3;have c:=dt c;refine⟨⟨h0,by omega⟩,⟨h0,by omega⟩,fun g=>gU fun h=>?_,fun g=>⟨iC (n:=b.1.length) h0 (by omega) hk.1.1,⟨by omega,by omega,iB h0 h2 (by have:=df g;omega)⟩,by dsimp only;omega⟩⟩
  have:=An h x.toNat
  have:=dt g
  omega
 ·have c3:=Uy c3;have c:=df c;exact (fR.2 ⟨nf c1,nf c2,by omega,fun i hi=>h2 i (by omega)⟩).symm
theorem qcf{C:Ctx}(hb:C.P.bytesOf 3=8){a:List Int}{f:Nat->Int}{g:Int->Int}{R:List Int}{X Y:Int->Prop}(ha:a.length<=64)(hg:∀i:Int,0<=i->i<a.length->g i=f i.toNat/\X i/\Y i)(hR:R=tab a.length f):
 ∃(I:List Int×Int->Prop),∃(μ:List Int×Int->Nat),I ([],(0:Int))/\∀(x:List Int×Int),I x->
  (decide (x.snd<(↑a.length:Int))=true->((0:Int)<=x.snd/\x.snd<(↑a.length:Int))/\X x.snd/\Y x.snd/\aM C 3 (x.fst.length+[g x.snd].length)/\aa (x.snd+(1:Int))/\I (x.fst++[g x.snd],x.snd+(1:Int))/\μ (x.fst++[g x.snd],x.snd+(1:Int))<μ x)/\(decide (x.snd<
  (↑a.length:Int))=false->x.fst=R):=by
 refine⟨fun x=>0<=x.2/\x.2<=a.length/\x.1=tab x.2.toNat f,fun x=>((a.length:Int)-x.2).toNat,⟨by simp,by simp,by simp[qbC]⟩,fun ⟨o,i⟩ ⟨h0,h1,h2⟩=>?_⟩
 dsimp only at h0 h1 h2 ⊢;refine⟨fun c=>?_,fun c=>by rw[h2,WM h1 (df c),hR]⟩
 have c:=dt c;obtain⟨g1,g2,g3⟩:=hg i h0 c;have hol:o.length=i.toNat:=by rw[h2,pL]
 exact⟨⟨h0,c⟩,g2,g3,qce hb (by rw[hol];simp;omega),bP (by omega) (by omega),⟨by omega,by omega,by rw[RY h0,qbD,<-h2,g1]⟩,by omega⟩
def qjS(i:List Int×List Int):Prop:=sm i.1/\sm i.2/\i.1.length<=i.2.length
theorem qfR:∀i,qjS i->aW B1 6 93 Di (i.1,i.2,(95:FuncId)):=by
 intro i ⟨ha,hb,hl⟩;rw[qfM];delta IR LP NX SD eI ln y3 z0 z1;dsimp only
 exact qcf (C:=B1) (f:=fun j=>min (i.1.getD j 0) (i.2.getD j 0)) (X:=fun j=>0<=j/\j<i.2.length) (Y:=fun _=>True) (g:=fun j=>min (i.1.getD j.toNat 0) (i.2.getD j.toNat 0)) UM ha.1 (fun j h0 h1=>⟨rfl,⟨h0,by omega⟩,trivial⟩) rfl
theorem qfS:∀i,qjS i->aW B1 6 93 Di (i.1,i.2,(94:FuncId)):=by
 intro i ⟨ha,hb,hl⟩;rw[qfN];delta IR LP NX SD eI ln y3 z0 z1;dsimp only
 exact qcf (C:=B1) (f:=fun j=>max (i.1.getD j 0) (i.2.getD j 0)) (X:=fun j=>0<=j/\j<i.2.length) (Y:=fun _=>True) (g:=fun j=>max (i.1.getD j.toNat 0) (i.2.getD j.toNat 0)) UM ha.1 (fun j h0 h1=>⟨rfl,⟨h0,by omega⟩,trivial⟩) rfl
theorem qfT{C:Ctx}(hsp:au C){n:Nat}{f:FuncId}{sp:aJ}{ι:Type}{g1 g2:ι->dens sp.ps}{p:ι->Prop}(hc:∀x,sp.pre x->∃i,p i/\(x=g1 i\/x=g2 i))
 (h1:∀i,p i->aW C n f sp (g1 i)) (h2:∀i,p i->aW C n f sp (g2 i)):Sat C.P f sp:=
 bx hsp n f sp fun x _ hp=>by
  obtain⟨i,hi,h|h⟩:=hc x hp<;>rw[h]
  ·exact h1 i hi
  ·exact h2 i hi
theorem qfU(x:dens Di.ps)(hp:Di.pre x):∃i:List Int×List Int,qjS i/\(x=(i.1,i.2,(95:FuncId))\/x=(i.1,i.2,(94:FuncId))):=
 ⟨(x.1,x.2.1),⟨hp.1,hp.2.1,hp.2.2.1⟩,hp.2.2.2.imp (fun e=>Prod.ext rfl (Prod.ext rfl e)) (fun e=>Prod.ext rfl (Prod.ext rfl e))⟩
theorem UN:Sat Tryz.prog 93 Di:=
 qfT (C:=B1) qm5 qfU qfR qfS
end Go.Proofs.YtobfmplofoofkaaGreatDoor
namespace Go.PL
open Go.AM
theorem qcg{a b:dQ}(h:gh a b=true->False):((([],[],()),false,(1:Int)):dQ×Bool×Int)=jG a b:=by
 unfold jG;rw[if_neg h];rfl
theorem GR{a b:dQ}(h:gh a b=true)(h':eU (lV a b)=false):((([],[],()),false,(0:Int)):dQ×Bool×Int)=jG a b:=by
 unfold jG;rw[if_pos h,if_neg (by rw[h'];simp)];rfl
theorem v8{a b:dQ}(h:gh a b=true)(h':eU (lV a b)=true):jG a b=(lV a b,true,0):=by
 unfold jG;rw[if_pos h,if_pos h']
theorem Xl{a b:dQ}(h:gh a b=true):eU (lV a b)=true↔∀i,i<a.1.length->max (a.1.getD i 0) (b.1.getD i 0)<=min (a.2.1.getD i 0) (b.2.1.getD i 0):=by
 obtain⟨ha,hb,hl⟩:=iF.1 h;obtain⟨l1,l2,l3⟩:=rH ha;obtain⟨k1,k2,k3⟩:=rH hb;have e1:(lV a b).1=tab a.1.length fun i=>max (a.1.getD i 0) (b.1.getD i 0):=rfl
 have e2:(lV a b).2.1=tab a.2.1.length fun i=>min (a.2.1.getD i 0) (b.2.1.getD i 0):=rfl
 rw[fR,j6,j6,e1,e2,pL,pL];constructor
 ·rintro⟨_,_,_,h4⟩ i hi
  have:=h4 i hi
  rwa [nc _ hi,nc _ (by omega)]at this
 ·intro h4;refine⟨⟨fun i hi=>?_,by omega,by omega⟩,⟨fun i hi=>?_,by omega,by omega⟩,by omega,fun i hi=>?_⟩
  ·rw[nc _ hi];have:=An ha i;have:=An hb i;omega
  ·rw[nc _ hi];have:=An ha i;have:=An hb i;omega
  ·rw[nc _ hi,nc _ (by omega)]
   exact h4 i hi
end Go.PL
namespace Go.Proofs.YtobfmplofoofkaaGreatDoor
open Go.AM Go.PL
theorem qm6:au B2:=az ⟨GQ,UN,Ca,Cb,Cc,Ey,trivial⟩ trivial
theorem Xm(a b:dQ):(True/\(eU a=true->True/\(eU b=true->decide ((↑a.fst.length:Int)=(↑b.fst.length:Int))=gh a b)/\
 (eU b=false->false=gh a b))/\(eU a=false->false=gh a b)):=
 ⟨trivial,fun h1=>⟨trivial,fun h2=>RX ⟨fun h=>iF.2 ⟨h1,h2,by omega⟩,fun h=>by have:=(iF.1 h).2.2;omega⟩,fun h2=>gU fun h=>by rw[(iF.1 h).2.1]at h2;cases h2⟩,
   fun h1=>gU fun h=>by rw[(iF.1 h).1]at h1;cases h1⟩
theorem Sr:Sat Tryz.prog 92 So:=bq (C:=B2) qm6 (fun x=>Xj x.1 x.2) fun x hk hp=>Xm x.1 x.2
theorem GS:Sat Tryz.prog 10 GP:=by
 refine bq (C:=B2) qm6 (fun x=>qfO x.1 x.2) fun (⟨b,v⟩:dQ×List Int) hk hp=>?_
 dsimp only;refine⟨trivial,fun c=>gU fun h=>?_,fun c1=>⟨fun c=>gU fun h=>?_,fun c2=>⟨fun x=>0<=x/\x<=v.length/\∀j:Nat,(j:Int)<x->b.1.getD j 0<=v.getD j 0/\v.getD j 0<=b.2.1.getD j 0,fun x=>((v.length:Int)-x).toNat,
  ⟨by omega,by omega,fun j hj=>by omega⟩,fun x ⟨h0,h1,h2⟩=>⟨fun c=>?_,fun c=>?_⟩⟩⟩⟩
 ·have:=nt c;rw[(fu.1 h).1]at this;cases this
 ·have:=(fu.1 h).2.1;exact ndt c (by omega)
 ·have c1:=rH (nf c1);have c2:=Uy c2;have c:=dt c;refine⟨⟨h0,c⟩,⟨h0,by omega⟩,fun g=>gU fun h=>?_,fun g=>⟨⟨h0,by omega⟩,fun g'=>gU fun h=>?_,fun g'=>⟨bP (by omega) (by omega),⟨by omega,by omega,iB h0 h2 ⟨by have:=df g;omega,by have:=df g';omega⟩⟩,by dsimp only;omega⟩⟩⟩
  ·have:=(fu.1 h).2.2 x.toNat (by omega)
   have:=dt g
   omega
  ·have:=(fu.1 h).2.2 x.toNat (by omega)
   have:=dt g'
   omega
 ·have c1:=nf c1;have c2:=Uy c2;have c:=df c;exact (fu.2 ⟨c1,by omega,fun i hi=>h2 i (by omega)⟩).symm
end Go.Proofs.YtobfmplofoofkaaGreatDoor
namespace Go.PL
open Go.AM
end Go.PL
namespace Go.Proofs.YtobfmplofoofkaaGreatDoor
open Go.AM Go.PL
set_option linter.unusedVariables false
theorem qqg:au B3:=az ⟨Sr,GS,nh.jd,GQ,UN,Ca,Cb,Cc,Ey,trivial⟩ trivial
theorem qch:Sat Tryz.prog 45 Sq:=by
 refine bq (C:=B3) qqg (fun x=>qfP x.1 x.2) fun (⟨a,b⟩:dQ×dQ) hk hp=>?_;delta SP eI z0 z1
 dsimp only;refine⟨trivial,fun c=>qcg fun h=>(by have:=nt c;rw[h]at this;cases this),fun c=>?_⟩
 have c:=nf c;obtain⟨ha,hb,hl⟩:=iF.1 c;obtain⟨a1,a2,a3,_⟩:=fR.1 ha;obtain⟨b1,b2,b3,_⟩:=fR.1 hb;refine⟨⟨Ew a1,Ew b1,by omega,.inr rfl⟩,⟨Ew a2,Ew b2,by omega,.inl rfl⟩,trivial,fun g=>GR c (nt g),fun g=>?_⟩
 rw[v8 c (nf g)];rfl
end Go.Proofs.YtobfmplofoofkaaGreatDoor
namespace Go.PL
open Go.AM
abbrev Sp:=Rose ((Int×Int×Unit)×(List Int×Unit))
def cE(x:Sp):Int:=x.val.1.1
def iT(x:Sp):Int:=x.val.1.2.1
def GU(x:Sp):List Int:=x.val.2.1
def aF(x:Sp)(i:Nat):Sp:=x.aN.getD i (.node ((0,0,()),([],())) [])
def eB(l:List Int):Bool:=upto l.length (fun i=>decide (0<=at_ l i)&&(decide (at_ l i<32)&&(decide (i=0)||decide (at_ l (i-1)<at_ l i))))&&(decide (1<=l.length)&&decide (l.length<=4))
def bD(d:Int):dQ:=(List.replicate d.toNat (-1000),List.replicate d.toNat 1000,())
def fy(b:dQ)(x a:Int):Bool:=decide (0<=x)&&(decide (x<b.1.length)&&(decide (at_ b.1 x.toNat<a)&&decide (a<=at_ b.2.1 x.toNat)))
def mC(b:dQ)(x a:Int):dQ:=(b.1,b.2.1.set x.toNat (a-1),())
def fS(b:dQ)(x a:Int):dQ:=(b.1.set x.toNat a,b.2.1,())
def jf(b:dQ):Prop:=b.1.length=b.2.1.length/\b.1.length<=1000
def dB(x:Sp):Bool:=decide (x.aN.length=0)&&(decide (cE x=0)&&(decide (iT x=0)&&eB (GU x)))
def fA(x:Sp)(b:dQ):Bool:=decide (x.aN.length=2)&&(decide ((GU x).length=0)&&fy b (cE x) (iT x))
def bK:Nat->Sp->dQ->List (dQ×Sp)
 |0,_,_=>[]
 |n+1,x,b=>if dB x then [(b,x)] else if fA x b then bK n (aF x 0) (mC b (cE x) (iT x))++bK n (aF x 1) (fS b (cE x) (iT x)) else [(Pk,x)]
def rI(n:Nat)(x:Sp)(b:dQ):List (dQ×Sp):=bK (n+1) x b
def lF:Nat->Sp->Prop
 |0,_=>False
 |n+1,x=>∀y∈x.aN,lF n y
end Go.PL
namespace Go.Proofs.YtobfmplofoofkaaGreatDoor
open Go.AM Go.PL
def yA:aJ:=⟨[L],[.bool],fun _=>True,fun l=>eB l⟩
def Mn:aJ:=⟨[I],[BX],fun d=>1<=(d:Int)/\(d:Int)<=1000,fun d=>bD d⟩
def Mo:aJ:=⟨[BX,I,I],[.bool],fun x=>jf x.1,fun x=>fy x.1 x.2.1 x.2.2⟩
def GV:aJ:=⟨[BX,I,I],[BX,BX],fun x=>jf x.1/\fy x.1 x.2.1 x.2.2=true,fun x=>(mC x.1 x.2.1 x.2.2,fS x.1 x.2.1 x.2.2)⟩
def qjT:cL:=⟨[L,I],3,I,fun x=>(x.1:List Int).length=1/\1<=(x.2:Int)/\(x.2:Int)<=1000000,fun x=>List.replicate (x.2:Int).toNat ((x.1:List Int).getD 0 0)⟩
def qci:aJ:=⟨[.int .u64,.int .u64],[.int .u64,.int .u64],fun x=>0<=(x.1:Int)/\(x.1:Int)<=1000000/\0<=(x.2:Int)/\(x.2:Int)<=1000000,fun x=>((0:Int),(x.1:Int)*x.2)⟩
def qcj(n:Nat):jC:=⟨[ST,BX],[BX,ST],fun x=>lF n x.1/\jf x.2,fun x=>bK n x.1 x.2⟩
def Dj(n:Nat):jC:=⟨[ST,BX],[BX,ST],fun x=>(lF (n+1) x.1/\jf x.2)/\(x.1:Sp).aN.length=0,fun x=>rI n x.1 x.2⟩
def Po(n:Nat):jC:=⟨[ST,BX],[BX,ST],fun x=>(lF (n+1) x.1/\jf x.2)/\(x.1:Sp).aN.length≠0,fun x=>rI n x.1 x.2⟩
def qjU(f:FuncId)(r:Nat):List LA:=
 if Nat.beq f 58 then [.slot 15 I] else
 if Nat.beq f 83 then [.dF 7 3 I,.slot 8 I] else
 []
def UO(f:FuncId):Hint:=⟨qjU f,fun r=>bif (Nat.beq f 83&&Nat.beq r 9)||(Nat.beq f 82&&Nat.beq r 3)||(Nat.beq f 81&&Nat.beq r 5) then .all else .split,fun t=>bif Nat.beq f 81&&Nat.beq t 24 then .force else .split,fun r=>bif Nat.beq f 82&&Nat.beq r 3 then 500 else bif Nat.beq f 81&&Nat.beq r 3 then 3 else 0⟩
def qjV(f:FuncId):Hint:=⟨fun _=>[],fun _=>.split,fun t=>bif Nat.beq f 81&&Nat.beq t 67 then .yes else .split,fun _=>0⟩
def qjW(f:FuncId):Hint:=⟨fun _=>[],fun r=>bif Nat.beq f 81 then (bif Nat.beq r 10 then .no else bif Nat.beq r 5 then .all else .split) else .split,fun t=>bif Nat.beq f 81 then (bif Nat.beq t 24 then .force else bif Nat.beq t 43 then .no else .split) else .split,fun r=>bif Nat.beq f 81&&Nat.beq r 3 then 3 else 0⟩
def qjX(f:FuncId):Hint:=if Nat.beq f 999999999 then⟨fun _=>[],fun _=>.split,fun _=>.split,fun r=>bif Nat.beq r 1 then 1 else 0⟩ else UO f
def tY1:List (FuncId×aJ):=[(58,yA),(59,Mo),(82,GV),(38,Mn),(39,Iu.data)]
noncomputable def Y0:Ctx:=bA bs [] [] UO
noncomputable def YRp:Ctx:=bA bs [(118,qci)] [] qjX
noncomputable def Y0G:Ctx:=bA bs [] [(39,Iu)] UO
theorem qfV(v:List Int):aW Y0 6 58 yA v=(SD ((ln v)<z1) (false=eB v) (SD (z4<(ln v)) (false=eB v) (LP z0 fun I μ x=>SD (x<(ln v)) ((IR x v)/\SD (v.getD
 x.toNat z0<z0) (false=eB v) (SD (nj<=v.getD x.toNat z0) (false=eB v) (SD (z0<x) (aa (x-z1)/\(IR (x-z1) v)/\SD (v.getD x.toNat z0<=v.getD (x-z1).toNat z0) (false
 =eB v) (aa (x+z1)/\NX I μ x (x+z1))) (aa (x+z1)/\NX I μ x (x+z1))))) (true=eB v)))):=by kernel_rfl
theorem qfW(b:dQ)(x a:Int):aW Y0 6 59 Mo (b,x,a)=((decide ((0:Int)<=x)=true->(decide (x<(↑b.fst.length:Int))=true->((0:Int)<=x/\x<
 (↑b.fst.length:Int))/\(decide (b.fst.getD x.toNat (0:Int)<a)=true->((0:Int)<=x/\x<(↑b.snd.fst.length:Int))/\decide (a<=b.snd.fst.getD x.toNat (0:Int))=
 fy b x a)/\(decide (b.fst.getD x.toNat (0:Int)<a)=false->false=fy b x a))/\(decide (x<(↑b.fst.length:Int))=false->false=fy b x a))/\(decide ((0:
 Int)<=x)=false->false=fy b x a)):=by kernel_rfl
theorem Xn(b:dQ)(x a:Int):aW Y0G 6 82 GV (b,x,a)=(b.fst.length<=(1000000:Nat)/\b.snd.fst.length<=(1000000:Nat)/\aa (a-(1:Int))/\((0:
 Int)<=x/\x<(↑b.fst.length:Int))/\((0:Int)<=x/\x<(↑b.snd.fst.length:Int))/\(((b.fst,b.snd.fst.set x.toNat (a-(1:Int)),()),b.fst.set x.toNat a,b.snd.fst,
 ())=(mC b x a,fS b x a)/\((b.fst,b.snd.fst.set x.toNat (a-(1:Int)),()),b.fst.set x.toNat a,b.snd.fst,())=(mC b x a,fS b x a))/\((b.fst,b.snd.fst.set
 x.toNat (a-(1:Int)),()),b.fst.set x.toNat a,b.snd.fst,())=(mC b x a,fS b x a)):=by kernel_rfl
abbrev JV(l:List Int)(n:Int):=IntKind.u64.wrap (ln l)*IntKind.u64.wrap n
abbrev xm(l:List Int)(n:Int):=List.replicate (IntKind.i64.wrap (JV l n)).toNat z0
abbrev Pp(x:List Int×Int):=List.take (x.2.toNat-y0) (List.drop y0 x.1)
abbrev Pq(x:List Int×Int):=min ((Int.ofNat x.1.length).toNat-x.2.toNat) (Pp x).length
abbrev qck(x:List Int×Int):=(List.take x.2.toNat x.1++List.take (Pq x) (Pp x)++List.drop (x.2.toNat+min ((Int.ofNat x.1.length).toNat-x.2.toNat) (Pp x).length) x.1,
 x.2+(↑(Pq x):Int))
abbrev qcl(x:List Int×Int):=y0<x.1.length/\y0<(Pp x).length/\z0<=x.2/\x.2<=Int.ofNat x.1.length/\Int.ofNat x.1.length<=(ln x.1)
abbrev qcm(x:List Int×Int):=z0<=x.2/\x.2<=Int.ofNat x.1.length/\Int.ofNat x.1.length<=(ln x.1)/\x.2<(ln x.1)
theorem qjY(l:List Int)(n:Int):cz YRp 6 83 qjT (l,n)=(SD (n<z0) False ((z0<=IntKind.u64.wrap (ln l)/\IntKind.u64.wrap (ln l)<=(1000000:Int)/\z0<=IntKind.u64.wrap n
 /\IntKind.u64.wrap n<=(1000000:Int))/\SD (z0<z0) False (SD ((9223372036854775807:Int)<IntKind.u64.wrap (ln l)*IntKind.u64.wrap n) False ((z0<=IntKind.i64.wrap (JV l n)/\
 IntKind.i64.wrap (JV l n)<=IntKind.i64.wrap (JV l n)/\aM YRp y3 (IntKind.i64.wrap (JV l n)).toNat)/\(y0<(xm l n).length/\y0<l.length/\z0<=z0/\z0<=(ln (xm l n))
 /\(ln (xm l n))<=(ln (xm l n)))/\LP (List.take y0 (xm l n)++List.take (min ((ln (xm l n)).toNat-y0) l.length) l++List.drop (y0+min ((ln (xm l n)).toNat-y0)
 l.length) (xm l n),(↑(min ((ln (xm l n)).toNat-y0) l.length):Int)) fun I μ x=>SD (x.2<(ln x.1)) (((qcm x)/\(z0<=z0/\z0<=x.2/\x.2<=(ln x.1)/\z0<(ln x.1))/\(qcl
 x)/\aa (x.2+(↑(Pq x):Int))/\NX I μ x (qck x))/\(z0<=z0/\z0<=x.2/\x.2<=(ln x.1)/\z0<(ln x.1))/\(qcm x)/\(qcl x)/\aa (x.2+(↑(Pq x):Int))/\NX I μ x
 (qck x)) (x.1=List.replicate n.toNat (l.getD y0 z0)))))):=by kernel_rfl
abbrev qcn(x y:Int):=IntKind.u64.wrap (x / z2 ^ y32*aK BinOp.and IntKind.u64 y (4294967295:Int))+IntKind.u64.wrap (aK BinOp.and IntKind.u64 x (4294967295:Int)*aK
 BinOp.and IntKind.u64 y (4294967295:Int)) / z2 ^ y32
theorem qjZ(x y:Int):aW Y0 6 118 qci (x,y)=((z0<=nj/\nj<=j9)/\(z0<=nj/\nj<=j9)/\(z0<=nj/\nj<=j9)/\(z0<=nj/\nj<=j9)/\(z0<=nj/\nj<=j9)/\
 (IntKind.u64.wrap (IntKind.u64.wrap (IntKind.u64.wrap (x / z2 ^ y32*(y / z2 ^ y32))+IntKind.u64.wrap (qcn x y) / z2 ^ y32)+IntKind.u64.wrap (aK BinOp.and IntKind.u64
 (IntKind.u64.wrap (qcn x y)) (4294967295:Int)+IntKind.u64.wrap (aK BinOp.and IntKind.u64 x (4294967295:Int)*(y / z2 ^ y32))) / z2 ^ y32),IntKind.u64.wrap (x*y))=(z0,x*
 y)):=by kernel_rfl
end Go.Proofs.YtobfmplofoofkaaGreatDoor
namespace Go.PL
open Go.AM
theorem JW{x:Int}(h0:0<=x)(h1:x<18446744073709551616):IntKind.u64.wrap x=x:=by
 unfold IntKind.wrap;simp[IntKind.bits,IntKind.signed]
 omega
theorem qco{x:Int}(h0:-9223372036854775808<=x)(h1:x<=9223372036854775807):IntKind.i64.wrap x=x:=by
 unfold IntKind.wrap;simp[IntKind.bits,IntKind.signed]
 omega
theorem Ss{x:Int}(h0:0<=x)(h1:x<4294967296):aK .and .u64 x 4294967295=x:=by
 have e:(BitVec.ofInt 64 x&&&BitVec.ofInt 64 (4294967295:Int)).toNat=x.toNat:=by
  rw[BitVec.toNat_and];have xJ:(BitVec.ofInt 64 x).toNat=x.toNat:=by rw[BitVec.toNat_ofInt];omega
  have h2:(BitVec.ofInt 64 (4294967295:Int)).toNat=2 ^ 32-1:=by rw[BitVec.toNat_ofInt];rfl
  rw[xJ,h2,Nat.and_two_pow_sub_one_eq_mod];omega
 show IntKind.u64.wrap ((BitVec.ofInt 64 x&&&BitVec.ofInt 64 (4294967295:Int)).toNat:Int)=x
 rw[e,JW (by omega) (by omega)]
 omega
theorem qcp{x:List Int}{s n:Nat}{v:Int}(hl:x.length=n)(h1:1<=s)(h2:s<n)(hv:∀i,i<s->x.getD i 0=v):
 (x.take s++(x.take s).take (min (n-s) s)++x.drop (s+min (n-s) s)).length=n/\∀i,i<s+min (n-s) s->(x.take s++(x.take s).take (min (n-s) s)++x.drop (s+min (n-s) s)).getD i 0=v:=by
 refine⟨by simp only[Wad,Waf,List.length_drop];omega,fun i hi=>?_⟩
 have ht:(x.take s).length=s:=by rw[Waf];omega
 rw[Wab,Waj];rcases Wak i s with h|h
 ·rw[Wao (by omega),Was,if_pos h,<-Wab]
  exact hv i h
 ·rw[WaH (by omega),ht,Wao (by rw[Waf,ht];omega),Was,if_pos (by omega),Was,if_pos (by omega),<-Wab]
  exact hv _ (by omega)
theorem Iv{x:List Int}{n:Nat}{v:Int}(hl:x.length=n)(hv:∀i,i<n->x.getD i 0=v):x=List.replicate n v:=by
 refine qbE (by simp[hl]) fun i hi=>?_
 rw[hv i (by omega),Wab,Wbb,if_pos (by omega)]
 rfl
theorem fj{l:List Int}:eB l=true↔(∀i,i<l.length->0<=at_ l i/\at_ l i<32/\(i=0\/at_ l (i-1)<at_ l i))/\1<=l.length/\l.length<=4:=by
 unfold eB;simp only[Wac,WaL,decide_eq_true_eq,m9]
theorem iQ{b:dQ}{x a:Int}:fy b x a=true↔0<=x/\x<b.1.length/\at_ b.1 x.toNat<a/\a<=at_ b.2.1 x.toNat:=by
 unfold fy;simp only[Wac,decide_eq_true_eq]
end Go.PL
namespace Go.Proofs.YtobfmplofoofkaaGreatDoor
open Go.AM Go.PL
attribute [local irreducible] aW cz
theorem qj0:au Y0:=az trivial trivial
theorem qm8:au Y0G:=az trivial ⟨nh,trivial⟩
theorem u7:Sat Tryz.prog 58 yA:=by
 refine bq (C:=Y0) qj0 qfV fun (v:List Int) hk hp=>?_;delta IR LP NX SD ln z0 z1 nj z4;dsimp only
 refine⟨fun c=>gU fun h=>?_,fun c1=>⟨fun c=>gU fun h=>?_,fun c2=>⟨fun x=>0<=x/\x<=v.length/\∀j:Nat,(j:Int)<x->0<=at_ v j/\at_ v j<32/\(j=0\/at_ v (j-1)<at_ v j),fun x=>((v.length:Int)-x).toNat,⟨by omega,by omega,fun j hj=>by omega⟩,fun x ⟨h0,h1,h2⟩=>⟨fun c=>?_,fun c=>?_⟩⟩⟩⟩
 ·have:=dt c;have:=(fj.1 h).2.1;omega
 ·have:=dt c;have:=(fj.1 h).2.2;omega
 ·have c:=dt c;have step:(x=0\/v.getD (x-1).toNat 0<v.getD x.toNat 0)->0<=v.getD x.toNat 0->v.getD x.toNat 0<32->(∀j:Nat,(j:Int)<x+1->0<=at_ v j/\at_ v j<32/\(j=0\/at_ v (j-1)<at_ v j)):=fun g g1 g2=>iB h0 h2 ⟨g1,g2,by
   rcases g with g|g
   ·exact .inl (by omega)
   ·exact .inr (by show v.getD (x.toNat-1) 0<_;rw[show x.toNat-1=(x-1).toNat by omega];exact g)⟩
  refine⟨⟨h0,c⟩,fun g=>gU fun h=>?_,fun g1=>⟨fun g=>gU fun h=>?_,fun g2=>⟨fun g3=>⟨(by have:v.length<=9223372036854775807:=hk.1;unfold aa;omega),⟨by have:=dt g3;omega,by omega⟩,fun g=>gU fun h=>?_,fun g=>⟨iC h0 c hk.1,⟨by omega,by omega,step (.inr (by have:=df g;omega)) (by have:=df g1;omega) (by have:=df g2;omega)⟩,by dsimp only;omega⟩⟩,fun g3=>⟨iC h0 c hk.1,⟨by omega,by omega,step (.inl (by have:=df g3;omega)) (by have:=df g1;omega) (by have:=df g2;omega)⟩,by dsimp only;omega⟩⟩⟩⟩
  ·have:=dt g;have:=((fj.1 h).1 x.toNat (by omega)).1;unfold at_ at this;omega
  ·have:=dt g;have:=((fj.1 h).1 x.toNat (by omega)).2.1;unfold at_ at this;omega
  ·have g:=dt g;have g3:=dt g3;have:=((fj.1 h).1 x.toNat (by omega)).2.2
   unfold at_ at this;rw[show x.toNat-1=(x-1).toNat by omega]at this
   omega
 ·have c:=df c;have c1:=df c1;have c2:=df c2;exact (fj.2 ⟨fun i hi=>h2 i (by omega),by omega,by omega⟩).symm
theorem Xo{b:dQ}{x a:Int}(he:jf b):((decide ((0:Int)<=x)=true->
 (decide (x<(↑b.fst.length:Int))=true->
   ((0:Int)<=x/\x<(↑b.fst.length:Int))/\
     (decide (b.fst.getD x.toNat (0:Int)<a)=true->
       ((0:Int)<=x/\x<(↑b.snd.fst.length:Int))/\
         decide (a<=b.snd.fst.getD x.toNat (0:Int))=fy b x a)/\
       (decide (b.fst.getD x.toNat (0:Int)<a)=false->false=fy b x a))/\
   (decide (x<(↑b.fst.length:Int))=false->false=fy b x a))/\
 (decide ((0:Int)<=x)=false->false=fy b x a)):=by
 obtain⟨h1,h2⟩:=he;refine⟨fun c=>⟨fun c1=>⟨⟨dt c,dt c1⟩,fun c2=>⟨⟨dt c,by have:=dt c1;omega⟩,RX ⟨fun h=>iQ.2 ⟨dt c,dt c1,dt c2,h⟩,fun h=>(iQ.1 h).2.2.2⟩⟩,fun c2=>gU fun h=>df c2 (iQ.1 h).2.2.1⟩,fun c1=>gU fun h=>df c1 (iQ.1 h).2.1⟩,fun c=>gU fun h=>df c (iQ.1 h).1⟩
theorem Pt:Sat Tryz.prog 59 Mo:=bq (C:=Y0) qj0 (fun x=>qfW x.1 x.2.1 x.2.2) fun x hk hp=>Xo hp
theorem qj1{l:List Int}(h:∀x∈l,IntKind.i64.has x)(i:Nat)(hi:i<l.length):aa (at_ l i):=by
 unfold at_;rw[Wab,Waa hi];exact h _ (WaJ hi)
theorem Su:Sat Tryz.prog 82 GV:=by
 refine bq (C:=Y0G) qm8 (fun x=>Xn x.1 x.2.1 x.2.2) fun (⟨b,x,a⟩:dQ×Int×Int) hk hp=>?_
 obtain⟨⟨h1,h2⟩,h3⟩:jf b/\fy b x a=true:=hp
 obtain⟨c1,c2,c3,c4⟩:=iQ.1 h3;have k1:=qj1 hk.1.1.2 x.toNat (by dsimp only;omega)
 have k2:IntKind.i64.has a:=hk.2.2;have k2':-9223372036854775808<=a/\a<=9223372036854775807:=k2;dsimp only at k1 ⊢;refine⟨by omega,by omega,?_,⟨c1,by omega⟩,⟨c1,by omega⟩,⟨rfl,rfl⟩,rfl⟩
 unfold aa at*;omega
theorem qfX:Sat Tryz.prog 118 qci:=by
 refine bq (C:=Y0) qj0 (fun x=>qjZ x.1 x.2) fun (⟨x,y⟩:Int×Int) hk hp=>?_;delta qcn y32 z0 z2 nj j9
 try dsimp only at*
 obtain⟨hx,px,hy,py⟩:0<=x/\x<=1000000/\0<=y/\y<=1000000:=hp
 try dsimp only
 have e32:(2:Int) ^ (32:Nat)=4294967296:=by decide
 have hm:0<=x*y/\x*y<=1000000*1000000:=⟨Int.mul_nonneg hx hy,Int.mul_le_mul px py hy (by omega)⟩
 have z:IntKind.u64.wrap 0=0:=JW (by omega) (by omega)
 have hq:0<=x*y / 4294967296/\x*y / 4294967296<=1000:=by omega
 rw[e32,Ss hx (by omega),Ss hy (by omega),show x / 4294967296=0 by omega,show y / 4294967296=0 by omega]
 simp only[Int.zero_mul,Int.mul_zero,z,Int.zero_add,JW (x:=x*y) hm.1 (by omega)]
 generalize x*y / 4294967296=q at*
 simp only[JW (x:=q) (by omega) (by omega),Ss (x:=q) (by omega) (by omega),Int.add_zero,show q / 4294967296=0 by omega,z]
 exact⟨by omega,by omega,by omega,by omega,by omega,trivial⟩
theorem qm9:au YRp:=az ⟨qfX,trivial⟩ trivial
theorem qfY:qY Tryz.prog 83 qjT:=by
 refine gH qm9 6 _ _ fun (x:List Int×Int) hk hp=>?_
 obtain⟨l,n⟩:=x;obtain⟨hl,h1,h2⟩:l.length=1/\1<=n/\n<=1000000:=hp
 rw[qjY];delta JV xm Pp Pq qck qcl qcm LP NX SD ln y0 y3 z0;dsimp only
 obtain⟨v,rfl⟩:∃v,l=[v]:=by
  match l,hl with
  |[v],_=>exact⟨v,rfl⟩
 have w1:IntKind.u64.wrap ((([v]:List Int).length:Nat):Int)=1:=JW (by simp) (by simp)
 have w2:IntKind.u64.wrap n=n:=JW (by omega) (by omega)
 have w3:IntKind.i64.wrap n=n:=qco (by omega) (by omega)
 simp only[w1,w2,Int.one_mul,w3,Wa7,Waw,Nat.sub_zero,Wcy,WaY,WaO,Wbe,Waf];refine⟨fun h=>absurd (dt h) (by omega),fun _=>⟨⟨by omega,by omega,by omega,by omega⟩,fun h=>absurd (dt h) (by omega),fun _=>⟨fun h=>absurd (dt h) (by omega),fun _=>⟨⟨by omega,by omega,qce (C:=YRp) qcd (by omega)⟩,⟨by omega,by simp,by omega,by omega,by omega⟩,?_⟩⟩⟩⟩
 refine⟨fun x=>(x.1:List Int).length=n.toNat/\1<=x.2/\x.2<=n/\∀i:Nat,(i:Int)<x.2->x.1.getD i 0=v,fun x=>(n-x.2).toNat,?_,fun ⟨x,s⟩ ⟨x1,x2,x3,x4⟩=>⟨fun g=>?_,fun g=>?_⟩⟩
 ·have e:min n.toNat ([v]:List Int).length=1:=by simp;omega
  rw[e];refine⟨by simp;omega,by show (1:Int)<=((1:Nat):Int);omega,by show ((1:Nat):Int)<=n;omega,fun i hi=>?_⟩
  have:i=0:=by dsimp only at hi;omega
  subst this;rfl
 ·dsimp only at x1 x2 x3 x4 g ⊢;have g:=dt g;have e0:(Int.ofNat x.length).toNat=n.toNat:=by show ((x.length:Nat):Int).toNat=_;omega
  have e1:min s.toNat x.length=s.toNat:=by omega
  have e2:(Int.ofNat x.length)=(x.length:Int):=rfl;obtain⟨r1,r2⟩:=qcp (x:=x) (s:=s.toNat) (n:=n.toNat) (v:=v) x1 (by omega) (by omega) fun i hi=>x4 i (by omega)
  rw[e0,e1,e2];have f1:(0<=s/\s<=(x.length:Int)/\(x.length:Int)<=(x.length:Int)/\s<(x.length:Int)):=by omega
  have f2:((0:Int)<=0/\0<=s/\s<=(x.length:Int)/\0<(x.length:Int)):=by omega
  have f3:(0<x.length/\0<s.toNat/\0<=s/\s<=(x.length:Int)/\(x.length:Int)<=(x.length:Int)):=by omega
  have f4:aa (s+((min (n.toNat-s.toNat) s.toNat:Nat):Int)):=bP (by omega) (by omega)
  have f5:(n-(s+((min (n.toNat-s.toNat) s.toNat:Nat):Int))).toNat<(n-s).toNat:=by omega
  have f6:1<=s+((min (n.toNat-s.toNat) s.toNat:Nat):Int)/\s+((min (n.toNat-s.toNat) s.toNat:Nat):Int)<=n:=by omega
  have f7:=fun (i:Nat) (hi:(i:Int)<s+((min (n.toNat-s.toNat) s.toNat:Nat):Int))=>r2 i (by omega)
  exact⟨⟨f1,f2,f3,f4,⟨r1,f6.1,f6.2,f7⟩,f5⟩,f2,f1,f3,f4,⟨r1,f6.1,f6.2,f7⟩,f5⟩
 ·dsimp only at x1 x2 x3 x4 g ⊢;have g:=df g;exact Iv x1 fun i hi=>x4 i (by omega)
end Go.Proofs.YtobfmplofoofkaaGreatDoor
namespace Go.Proofs.YtobfmplofoofkaaGreatDoor
open Go.AM Go.PL
noncomputable def Y1:Ctx:=bA bs [(58,yA)] [(83,qjT)] UO
noncomputable def YA:Ctx:=bA bs tY1 [] qjV
theorem qcq(d:Int):aW Y1 6 38 Mn d=(([(-1000:Int)].length=(1:Nat)/\(1:Int)<=d/\d<=(1000000:Int))/\([(1000:Int)].length=(1:Nat)/\(1:Int)<=
 d/\d<=(1000000:Int))/\(List.replicate d.toNat ([(-1000:Int)].getD (0:Nat) (0:Int)),List.replicate d.toNat ([(1000:Int)].getD (0:Nat) (0:Int)),())=bD d)
 :=by kernel_rfl
abbrev s8:List (dQ×Sp):=[]
abbrev GW:List ((List Int×List Int×Unit)×Sp):=[]
abbrev yB:List ((List I.den×List I.den×Unit)×Sp):=[]
abbrev pQ:List I.den:=[]
abbrev Mp(n:Nat)(Y:fM (Dj n).ys)(own:Nat->Prop)(x:Sp)(b:dQ):=((∃(bT:Nat->Prop),aB.kV [BX,ST] Y own=aB.log [BX,ST] Y bT (rI n x b))\/∃(bT:
 Nat->Prop),aB.kV [BX,ST] Y own=aB.kV [BX,ST] Y bT)
abbrev Sv(n:Nat)(Y:fM (Dj n).ys)(own:Nat->Prop)(x:Sp)(b:dQ):=((∃(bT:Nat->Prop),aB.log [BX,ST] Y own (yB++[((pQ,pQ,()),x)])
 =aB.log [BX,ST] Y bT (rI n x b))\/∃(bT:Nat->Prop),aB.log [BX,ST] Y own (yB++[((pQ,pQ,()),x)])=aB.kV [BX,ST] Y bT)
abbrev Sw(n:Nat)(Y:fM (Dj n).ys)(x:Sp):=(∃(rest:List ((List Int×List Int×Unit)×Rose ((I.pair (I.pair Ty.unit)).den×(L.pair Ty.unit).den))),Y.items=
 GW++((eI,eI,()),x)::rest)
abbrev Sx(n:Nat)(Y:fM (Dj n).ys)(x:Sp)(own:Nat->Prop)(b:dQ):=((Sw n Y x)/\∀(own:Nat->Prop),(Sv n Y own x b)/\(Mp n Y own x b))
abbrev GX(x:Sp)(n:Nat)(Y:fM (Dj n).ys)(own:Nat->Prop)(b:dQ):=SP (!decide ((ln (Rose.aN x))=z2)) (Sx n Y x own b) (SD (z0<(ln (Rose.val x).2.1)) (Sx
 n Y x own b) (jf b/\(!fy b (Rose.val x).1.1 (Rose.val x).1.2.1)=true/\(Sw n Y x)/\∀(own:Nat->Prop),(Sv n Y own x b)/\(Mp n Y own x b)))
theorem qfZ(n:Nat)(x:Sp)(b:dQ):mQ YA 6 81 (Dj n) (x,b)=(∀(Y:fM (Dj n).ys) (own:Nat->Prop),Y.items=rI n x b->SD ((ln (Rose.aN x))=z0) (SD
 ((Rose.val x).1.1=z0) (SD ((Rose.val x).1.2.1=z0) (True/\SP (eB (Rose.val x).2.1) ((∃(rest:List ((List Int×List Int×Unit)×Rose ((I.pair (I.pair Ty.unit)).den×(L.pair
 Ty.unit).den))),Y.items=s8++(b,x)::rest)/\∀(own:Nat->Prop),((∃(bT:Nat->Prop),aB.log [BX,ST] Y own (s8++[(b,x)])=aB.log [BX,ST] Y bT (rI n
 x b))\/∃(bT:Nat->Prop),aB.log [BX,ST] Y own (s8++[(b,x)])=aB.kV [BX,ST] Y bT)/\(Mp n Y own x b)) (GX x n Y own b)) (GX x n Y own b)) (GX x n Y
 own b)) (GX x n Y own b)):=by kernel_rfl
end Go.Proofs.YtobfmplofoofkaaGreatDoor
