import Derived.Test.YtobfmplofoofkaaGreatDoorKz9
set_option linter.unusedSimpArgs false
set_option linter.unusedVariables false
namespace Go.Proofs.YtobfmplofoofkaaGreatDoor
open Go.AM Go.PL
attribute [local irreducible] aW cz mQ
theorem qqi:au Y1:=az ⟨u7,trivial⟩ ⟨qfY,trivial⟩
theorem Xp:Sat Tryz.prog 38 Mn:=by
 refine bq (C:=Y1) qqi qcq fun (d:Int) hk hp=>?_
 obtain⟨h1,h2⟩:1<=d/\d<=1000:=hp
 exact⟨⟨rfl,h1,by omega⟩,⟨rfl,h1,by omega⟩,rfl⟩
end Go.Proofs.YtobfmplofoofkaaGreatDoor
namespace Go.Proofs.YtobfmplofoofkaaGreatDoor
open Go.AM Go.PL
noncomputable def YB(n:Nat):Ctx:=Ge bs tY1 [] [(81,qcj n)] qjW
abbrev Sy:Type:=List ((List Int×List Int×Unit)×Rose ((TI.pair (TI.pair Ty.unit)).den×(L.pair Ty.unit).den))
abbrev GY:Type:=(List Int×List Int×Unit)×Rose ((TI.pair (TI.pair Ty.unit)).den×(L.pair Ty.unit).den)
abbrev GZ:List ((List Int×List Int×Unit)×Sp):=[]
abbrev yC:List ((List I.den×List I.den×Unit)×Sp):=[]
abbrev pR:List I.den:=[]
abbrev G0:List (Rose ((Int×Int×Unit)×List Int×Unit)):=[]
abbrev G1:List (tY [BX,ST]).den:=[]
abbrev yD:List ((List Int×List Int×Unit)×Rose ((TI.pair (TI.pair Ty.unit)).den×(L.pair Ty.unit).den)):=[]
abbrev Mq(n:Nat)(Y:fM (Po n).ys)(own:Nat->Prop)(x:Sp)(b:dQ):=((∃(bT:Nat->Prop),aB.kV [BX,ST] Y own=aB.log [BX,ST] Y bT (rI n x b))\/∃(bT:
 Nat->Prop),aB.kV [BX,ST] Y own=aB.kV [BX,ST] Y bT)
abbrev Mr(n:Nat)(Y:fM (Po n).ys)(x:Sp)(own:Nat->Prop)(b:dQ):=((∃(rest:List ((List Int×List Int×Unit)×Rose ((I.pair (I.pair Ty.unit)).den×(L.pair
 Ty.unit).den))),Y.items=GZ++((eI,eI,()),x)::rest)/\∀(own:Nat->Prop),((∃(bT:Nat->Prop),aB.log [BX,ST] Y own (yC++[((pR,pR,()),
 x)])=aB.log [BX,ST] Y bT (rI n x b))\/∃(bT:Nat->Prop),aB.log [BX,ST] Y own (yC++[((pR,pR,()),x)])=aB.kV [BX,ST] Y bT)/\(Mq n Y
 own x b))
abbrev yE(b:dQ)(x:Sp):=((fS b (Rose.val x).1.1 (Rose.val x).1.2.1).1,(fS b (Rose.val x).1.1 (Rose.val x).1.2.1).2.1,())
abbrev yF(b:dQ)(x:Sp):=((mC b (Rose.val x).1.1 (Rose.val x).1.2.1).1,(mC b (Rose.val x).1.1 (Rose.val x).1.2.1).2.1,())
abbrev G2(y:GY):=((y.1.1,y.1.2.1,()),Rose.node ((y.2.val.1.1,y.2.val.1.2.1,()),y.2.val.2.1,()) y.2.aN)
abbrev yG:=Rose.node ((z0,z0,()),eI,()) G0
abbrev Ms(b:dQ)(x:Sp):=(([(yF b x),(yE b x)].getD y0 (eI,eI,())).1,([(yF b x),(yE b x)].getD y0 (eI,eI,())).2.1,())
abbrev Mt(b:dQ)(x:Sp):=(([(yF b x),(yE b x)].getD y1 (eI,eI,())).1,([(yF b x),(yE b x)].getD y1 (eI,eI,())).2.1,())
theorem qf0(n:Nat)(x:Sp)(b:dQ):mQ (YB n) 6 81 (Po n) (x,b)=(∀(Y:fM (Po n).ys) (own:Nat->Prop),Y.items=rI n x b->decide ((ln (Rose.aN x))=z0)=
 false/\SP (!decide ((ln (Rose.aN x))=z2)) (Mr n Y x own b) (SD (z0<(ln (Rose.val x).2.1)) (Mr n Y x own b) (jf b/\SP (!fy b (Rose.val x).1.1 (Rose.val x).1.2.1)
 (Mr n Y x own b) ((jf b/\fy b (Rose.val x).1.1 (Rose.val x).1.2.1=true)/\(IR z0 [(yF b x),(yE b x)])/\(IR z0 (Rose.aN x))/\(lF n ((Rose.aN x).getD y0 yG)
 /\jf (Ms b x))/\∃(I:List ((List Int×List Int×Unit)×Rose ((I.pair (I.pair Ty.unit)).den×(L.pair Ty.unit).den))->List ((List Int×List Int×Unit)×Rose ((I.pair (I.pair
 Ty.unit)).den×(L.pair Ty.unit).den))->Unit->Prop),(∃(pS:Nat->Prop),∃(z:List ((List Int×List Int×Unit)×Rose ((TI.pair (TI.pair Ty.unit)).den×(L.pair Ty.unit).den))),
 aB.log [BX,ST] Y own G1=aB.log [BX,ST] Y pS z/\I yD z ())/\(∀(xs:List ((List Int×List Int×Unit)×Rose ((TI.pair (TI.pair Ty.unit)).den×(L.pair
 Ty.unit).den))) (y:(List Int×List Int×Unit)×Rose ((TI.pair (TI.pair Ty.unit)).den×(L.pair Ty.unit).den)) (rest:List ((List Int×List Int×Unit)×Rose ((TI.pair (TI.pair
 Ty.unit)).den×(L.pair Ty.unit).den))),bK n ((Rose.aN x).getD y0 yG) (Ms b x)=xs++y::rest->∀(own:Nat->Prop) (z:List ((List Int×List Int×Unit)×Rose
 ((TI.pair (TI.pair Ty.unit)).den×(L.pair Ty.unit).den))) (v:Unit),I xs z v->(∃(rest:List ((List Int×List Int×Unit)×Rose ((TI.pair (TI.pair Ty.unit)).den×(L.pair
 Ty.unit).den))),Y.items=z++(G2 y)::rest)/\∀(own:Nat->Prop),(∃(pS:Nat->Prop),∃(Pu:List ((List Int×List Int×Unit)×Rose ((TI.pair (TI.pair Ty.unit)).den×
 (L.pair Ty.unit).den))),aB.log [BX,ST] Y own (z++[(G2 y)])=aB.log [BX,ST] Y pS Pu/\I (xs++[y]) Pu ())/\(Mq n Y own x b))/\∀(own:Nat->Prop) (z:List ((List
 Int×List Int×Unit)×Rose ((TI.pair (TI.pair Ty.unit)).den×(L.pair Ty.unit).den))) (v:Unit),I (bK n ((Rose.aN x).getD y0 yG) (Ms b x)) z v->aa z1/\(IR z1 [(yF
 b x),(yE b x)])/\(IR z1 (Rose.aN x))/\(lF n ((Rose.aN x).getD y1 yG)/\jf (Mt b x))/\∃(I:List ((List Int×List Int×Unit)×Rose ((TI.pair (TI.pair
 Ty.unit)).den×(L.pair Ty.unit).den))->List ((List Int×List Int×Unit)×Rose ((TI.pair (TI.pair Ty.unit)).den×(L.pair Ty.unit).den))->Unit->Prop),(∃(pS:Nat->Prop),∃(Pu
 :List ((List Int×List Int×Unit)×Rose ((TI.pair (TI.pair Ty.unit)).den×(L.pair Ty.unit).den))),aB.log [BX,ST] Y own z=aB.log [BX,ST] Y pS Pu/\I yD Pu ())/\(∀
 (xs:List ((List Int×List Int×Unit)×Rose ((TI.pair (TI.pair Ty.unit)).den×(L.pair Ty.unit).den))) (y:(List Int×List Int×Unit)×Rose ((TI.pair (TI.pair Ty.unit)).den×
 (L.pair Ty.unit).den)) (rest:List ((List Int×List Int×Unit)×Rose ((TI.pair (TI.pair Ty.unit)).den×(L.pair Ty.unit).den))),bK n ((Rose.aN x).getD y1 yG) (Mt b x)=xs
 ++y::rest->∀(own:Nat->Prop) (z:List ((List Int×List Int×Unit)×Rose ((TI.pair (TI.pair Ty.unit)).den×(L.pair Ty.unit).den))) (v:Unit),I xs z v->(∃(rest:List ((List
 Int×List Int×Unit)×Rose ((TI.pair (TI.pair Ty.unit)).den×(L.pair Ty.unit).den))),Y.items=z++(G2 y)::rest)/\∀(own:Nat->Prop),(∃(pS:Nat->Prop),∃(Pu:List
 ((List Int×List Int×Unit)×Rose ((TI.pair (TI.pair Ty.unit)).den×(L.pair Ty.unit).den))),aB.log [BX,ST] Y own (z++[(G2 y)])=aB.log [BX,ST] Y pS Pu/\I (xs++[y])
 Pu ())/\(Mq n Y own x b))/\∀(own:Nat->Prop) (z:List ((List Int×List Int×Unit)×Rose ((TI.pair (TI.pair Ty.unit)).den×(L.pair Ty.unit).den))) (v:Unit),I (bK n
 ((Rose.aN x).getD y1 yG) (Mt b x)) z v->aa z2/\((∃(bT:Nat->Prop),aB.log [BX,ST] Y own z=aB.log [BX,ST] Y bT (rI n x b))\/∃(bT:Nat->Prop),aB.log
 [BX,ST] Y own z=aB.kV [BX,ST] Y bT))))):=by kernel_rfl
end Go.Proofs.YtobfmplofoofkaaGreatDoor
namespace Go.PL
open Go.AM
theorem pU{x:Sp}:dB x=true↔x.aN.length=0/\cE x=0/\iT x=0/\eB (GU x)=true:=by
 unfold dB;simp only[Wac,decide_eq_true_eq]
theorem pV{x:Sp}{b:dQ}:fA x b=true↔x.aN.length=2/\(GU x).length=0/\fy b (cE x) (iT x)=true:=by
 unfold fA;simp only[Wac,decide_eq_true_eq]
theorem Sz{n:Nat}{x:Sp}{b:dQ}(h:dB x=true):rI n x b=[(b,x)]:=by
 show (if dB x then _ else _)=_
 rw[if_pos h]
theorem JX{n:Nat}{x:Sp}{b:dQ}(h:¬dB x=true)(h':¬fA x b=true):rI n x b=[(Pk,x)]:=by
 show (if dB x then _ else if fA x b then _ else _)=_
 rw[if_neg h,if_neg h']
theorem told{ys:List Ty}{Y:fM ys}{l:List (tY ys).den}{e:(tY ys).den}(hY:Y.2=l)(h:l=[e]):(∃rest,Y.2=[]++e::rest)/\∀own:Nat->Prop,((∃bT:Nat->Prop,aB.log ys Y own ([]++[e])=aB.log ys Y bT l)\/∃bT:Nat->Prop,aB.log ys Y own ([]++[e])=aB.kV ys Y bT)/\
 ((∃bT:Nat->Prop,aB.kV ys Y own=aB.log ys Y bT l)\/∃bT:Nat->Prop,aB.kV ys Y own=aB.kV ys Y bT):=
 ⟨⟨[],by rw[hY,h];rfl⟩,fun own=>⟨.inl ⟨own,by rw[h];rfl⟩,.inr ⟨own,rfl⟩⟩⟩
end Go.PL
namespace Go.Proofs.YtobfmplofoofkaaGreatDoor
open Go.AM Go.PL
attribute [local irreducible] aW cz mQ
theorem UP:jK bs.P tY1:=⟨u7,Pt,Su,Xp,nh.jd,trivial⟩
theorem qqj:au YA:=az UP trivial
theorem qcr(n:Nat):E2 Tryz.prog 81 (Dj n):=by
 refine vR (C:=YA) qqj 6 _ _ fun (x':Sp×dQ) hk hp=>?_
 obtain⟨x,b⟩:=x';obtain⟨⟨hd,he⟩,h0⟩:(lF (n+1) x/\jf b)/\x.aN.length=0:=hp
 rw[qfZ];delta s8 GW yB pQ Mp Sv Sw Sx GX SD SP eI ln z0 z2
 intro Y own hY;have hf:¬fA x b=true:=fun h=>by have:=(pV.1 h).1;omega
 have bad:=fun (h:¬dB x=true)=>told hY (JX h hf)
 refine⟨fun c0=>⟨fun c1=>⟨fun c2=>⟨trivial,fun c3=>told hY (Sz (pU.2 ⟨h0,dt c1,dt c2,c3⟩)),fun c3=>?_⟩,fun c2=>?_⟩,fun c1=>?_⟩,fun c0=>absurd h0 (by have:=df c0;omega)⟩
 ·have hb:=bad fun h=>by have:=(pU.1 h).2.2.2;unfold GU at this;rw[c3]at this;cases this
  exact⟨fun _=>hb,fun c=>absurd h0 (by have:=Uy c;omega)⟩
 ·have hb:=bad fun h=>df c2 (pU.1 h).2.2.1
  exact⟨fun _=>hb,fun c=>absurd h0 (by have:=Uy c;omega)⟩
 ·have hb:=bad fun h=>df c1 (pU.1 h).2.1
  exact⟨fun _=>hb,fun c=>absurd h0 (by have:=Uy c;omega)⟩
end Go.Proofs.YtobfmplofoofkaaGreatDoor
namespace Go.PL
open Go.AM
theorem qcs(y:dQ×Sp):(((y.fst.fst,y.fst.snd.fst,()),Rose.node ((y.snd.val.fst.fst,y.snd.val.fst.snd.fst,()),y.snd.val.snd.fst,()) y.snd.aN):dQ×Sp)=y:=by
 obtain⟨b,r⟩:=y;cases r;rfl
theorem SA{n:Nat}{x:Sp}{b:dQ}(h:¬dB x=true)(h':fA x b=true):rI n x b=bK n (aF x 0) (mC b (cE x) (iT x))++bK n (aF x 1) (fS b (cE x) (iT x)):=by
 show (if dB x then _ else if fA x b then _ else _)=_
 rw[if_neg h,if_pos h']
theorem qct{b:dQ}{x a:Int}(h:jf b):jf (mC b x a):=⟨by show b.1.length=(b.2.1.set _ _).length;rw[WaX];exact h.1,h.2⟩
theorem Xq{b:dQ}{x a:Int}(h:jf b):jf (fS b x a):=⟨by show (b.1.set _ _).length=b.2.1.length;rw[WaX];exact h.1,by show (b.1.set _ _).length<=1000;rw[WaX];exact h.2⟩
theorem Pv{n:Nat}{x:Sp}(h:lF (n+1) x){i:Nat}(hi:i<x.aN.length):lF n (aF x i):=by
 refine h _ ?_
 unfold aF;rw[Wab,Waa hi];exact WaJ hi
end Go.PL
namespace Go.Proofs.YtobfmplofoofkaaGreatDoor
open Go.AM Go.PL
attribute [local irreducible] aW cz mQ
theorem qcu(n:Nat)(hI:E2 Tryz.prog 81 (qcj n)):E2 Tryz.prog 81 (Po n):=by
 have qqk:au (YB n):=oe UP trivial ⟨hI,trivial⟩;refine vR (C:=YB n) qqk 6 _ _ fun (x':Sp×dQ) hk hp=>?_
 obtain⟨x,b⟩:=x';obtain⟨⟨hd,he⟩,h0⟩:(lF (n+1) x/\jf b)/\x.aN.length≠0:=hp
 rw[qf0];delta Sy GY GZ yC pR G0 G1 yD Mq Mr yE yF G2 yG Ms Mt IR SD SP eI ln y0 y1 z0 z1 z2 TI
 intro Y own hY;have hl:¬dB x=true:=fun h=>h0 (pU.1 h).1
 have bad:=fun (h:¬fA x b=true)=>told hY (JX hl h)
 refine⟨decide_eq_false (by omega),fun c=>bad fun h=>ndt c (by have:=(pV.1 h).1;omega),fun c1=>⟨fun c=>bad fun h=>?_,fun c2=>⟨he,fun c=>bad fun h=>?_,fun c3=>?_⟩⟩⟩
 ·have:=(pV.1 h).2.1;unfold GU at this;have:=dt c;omega
 ·have:=(pV.1 h).2.2;unfold cE iT at this;rw[nt c]at this;cases this
 have c1:=Uy c1;have c2:=df c2;have c3:=nf c3;have hf:fA x b=true:=pV.2 ⟨by omega,by unfold GU;omega,c3⟩
 have hr:=SA (n:=n) hl hf;refine⟨⟨he,c3⟩,⟨by omega,by simp⟩,⟨by omega,by omega⟩,⟨Pv (i:=0) hd (by omega),qct he⟩,fun xs z _=>z=xs,⟨own,[],rfl,rfl⟩,fun xs y rest hxs qna z v hz=>?_,fun qna z v hz=>?_⟩
 ·have hxs:bK n (aF x 0) (mC b (cE x) (iT x))=xs++y::rest:=hxs;have hz:z=xs:=hz;subst hz;rw[qcs y];exact⟨⟨rest++bK n (aF x 1) (fS b (cE x) (iT x)),by rw[hY,hr,hxs];exact Waj _ _ _⟩,fun OA=>⟨⟨OA,_,rfl,rfl⟩,.inr ⟨OA,rfl⟩⟩⟩
 ·have hz:z=bK n (aF x 0) (mC b (cE x) (iT x)):=hz;refine⟨bP (by omega) (by omega),⟨by omega,by simp⟩,⟨by omega,by omega⟩,⟨Pv (i:=1) hd (by omega),Xq he⟩,fun xs z' _=>z'=z++xs,⟨qna,z,rfl,(WaA z).symm⟩,fun xs y rest hxs qnb z' v' Fk=>?_,fun qnb z' v' Fk=>⟨bP (by omega) (by omega),.inl ⟨qnb,?_⟩⟩⟩
  ·have hxs:bK n (aF x 1) (fS b (cE x) (iT x))=xs++y::rest:=hxs;have Fk:z'=z++xs:=Fk;subst Fk;rw[qcs y];exact⟨⟨rest,by rw[hY,hr,hxs,hz];exact (Waj _ _ _).symm⟩,fun OA=>⟨⟨OA,_,rfl,Waj _ _ _⟩,.inr ⟨OA,rfl⟩⟩⟩
  ·have Fk:z'=z++bK n (aF x 1) (fS b (cE x) (iT x)):=Fk;rw[Fk,hz,hr]
theorem Mu:∀n,E2 Tryz.prog 81 (qcj n)
 |0=>fun B w0 Y x own Ψ w vs hp=>hp.1.elim
 |n+1=>fun B w0 Y x own Ψ w vs hp=>by
  by_cases h:(x.1:Sp).aN.length=0
  ·exact qcr n B w0 Y x own Ψ w vs ⟨hp,h⟩
  ·exact qcu n (Mu n) B w0 Y x own Ψ w vs ⟨hp,h⟩
end Go.Proofs.YtobfmplofoofkaaGreatDoor
namespace Go.PL
open Go.AM
def Mw(y:dQ×Sp):dQ×List Int×Unit:=(y.1,GU y.2,())
def aq(n:Nat)(d:Int×Int×Sp×Unit):List (dQ×List Int×Unit):=(bK n d.2.2.1 (bD d.1)).map Mw
def qcv(n:Nat)(d:Int×Int×Sp×Unit):Prop:=(bK n d.2.2.1 (bD d.1)).length<=1000/\∀p∈bK n d.2.2.1 (bD d.1),(GU p.2).length<=1000000
end Go.PL
namespace Go.Proofs.YtobfmplofoofkaaGreatDoor
open Go.AM Go.PL
def UQ(n:Nat):aJ:=⟨[DV],[.arr AR],fun d=>1<=(d.1:Int)/\(d.1:Int)<=1000/\lF n d.2.2.1/\qcv n d,fun d=>aq n d⟩
def qj2(f:FuncId):Hint:=⟨fun _=>bif Nat.beq f 81 then [.kY 0 0 50 AR] else [],fun r=>bif Nat.beq f 9&&(Nat.beq r 2||Nat.beq r 5) then .all else .split,fun _=>.split,fun _=>0⟩
noncomputable def YAr(n:Nat):Ctx:=Ge bs tY1 [] [(81,qcj n)] qj2
theorem qcx(n:Nat)(d:Int×Int×Sp×Unit):aW (YAr n) 6 9 (UQ n) d=(((1:Int)<=d.fst/\d.fst<=(1000:Int))/\(lF n d.snd.snd.fst/\jf (bD
 d.fst))/\∃(I:List ((List Int×List Int×Unit)×Rose ((I.pair (I.pair Ty.unit)).den×(L.pair Ty.unit).den))->Unit->List ((List Int×List Int×Unit)×List Int×Unit)
 ->Prop),I [] () []/\(∀(xs:List ((List Int×List Int×Unit)×Rose ((YtobfmplofoofkaaGreatDoor.I.pair (YtobfmplofoofkaaGreatDoor.I.pair Ty.unit)).den×(L.pair
 Ty.unit).den))) (y:(List Int×List Int×Unit)×Rose ((YtobfmplofoofkaaGreatDoor.I.pair (YtobfmplofoofkaaGreatDoor.I.pair Ty.unit)).den×(L.pair Ty.unit).den)) (rest:List
 ((List Int×List Int×Unit)×Rose ((YtobfmplofoofkaaGreatDoor.I.pair (YtobfmplofoofkaaGreatDoor.I.pair Ty.unit)).den×(L.pair Ty.unit).den))),bK n d.snd.snd.fst (bD
 d.fst)=xs++y::rest->∀(own:Nat->Prop) (z:Unit) (v:List ((List Int×List Int×Unit)×List Int×Unit)),I xs z v->((y.snd.val.snd.fst.length<=(1000000:Nat)/\
 aM (YAr n) (50:Nat) (v.length+[((y.fst.fst,y.fst.snd.fst,()),y.snd.val.snd.fst,())].length)/\I (xs++[y]) () (v++[((y.fst.fst,y.fst.snd.fst,()),
 y.snd.val.snd.fst,())]))/\y.snd.val.snd.fst.length<=(1000000:Nat)/\aM (YAr n) (50:Nat) (v.length+[((y.fst.fst,y.fst.snd.fst,()),y.snd.val.snd.fst,())].length)/\
 I (xs++[y]) () (v++[((y.fst.fst,y.fst.snd.fst,()),y.snd.val.snd.fst,())]))/\((y.snd.val.snd.fst.length<=(1000000:Nat)/\aM (YAr n) (50:Nat) (v.length+
 [((y.fst.fst,y.fst.snd.fst,()),y.snd.val.snd.fst,())].length)/\I (xs++[y]) () (v++[((y.fst.fst,y.fst.snd.fst,()),y.snd.val.snd.fst,())]))/\y.snd.val.snd.fst.length
 <=(1000000:Nat)/\(aM (YAr n) (50:Nat) (v.length+[((y.fst.fst,y.fst.snd.fst,()),y.snd.val.snd.fst,())].length)/\I (xs++[y]) () (v++[((y.fst.fst,y.fst.snd.fst,
 ()),y.snd.val.snd.fst,())]))/\aM (YAr n) (50:Nat) (v.length+[((y.fst.fst,y.fst.snd.fst,()),y.snd.val.snd.fst,())].length)/\I (xs++[y]) () (v++[((y.fst.fst,
 y.fst.snd.fst,()),y.snd.val.snd.fst,())]))/\y.snd.val.snd.fst.length<=(1000000:Nat)/\(aM (YAr n) (50:Nat) (v.length+[((y.fst.fst,y.fst.snd.fst,()),
 y.snd.val.snd.fst,())].length)/\I (xs++[y]) () (v++[((y.fst.fst,y.fst.snd.fst,()),y.snd.val.snd.fst,())]))/\aM (YAr n) (50:Nat) (v.length+[((y.fst.fst,
 y.fst.snd.fst,()),y.snd.val.snd.fst,())].length)/\I (xs++[y]) () (v++[((y.fst.fst,y.fst.snd.fst,()),y.snd.val.snd.fst,())]))/\∀(own:Nat->Prop) (z:Unit) (v:
 List ((List Int×List Int×Unit)×List Int×Unit)),I (bK n d.snd.snd.fst (bD d.fst)) z v->v=aq n d):=by kernel_rfl
end Go.Proofs.YtobfmplofoofkaaGreatDoor
namespace Go.PL
open Go.AM
end Go.PL
namespace Go.Proofs.YtobfmplofoofkaaGreatDoor
open Go.AM Go.PL
end Go.Proofs.YtobfmplofoofkaaGreatDoor
namespace Go.PL
open Go.AM
abbrev Dv:=Int×Int×Sp×Unit
end Go.PL
namespace Go.Proofs.YtobfmplofoofkaaGreatDoor
open Go.AM Go.PL
end Go.Proofs.YtobfmplofoofkaaGreatDoor
namespace Go.PL
open Go.AM
def dD:Nat->Sp->dQ->Prop
 |0,_,_=>False
 |n+1,x,b=>dB x=true\/(dB x=false/\fA x b=true/\dD n (aF x 0) (mC b (cE x) (iT x))/\dD n (aF x 1) (fS b (cE x) (iT x)))
theorem jg{x:Sp}:dB x=true↔x.aN.length=0/\cE x=0/\iT x=0/\eB (GU x)=true:=by
 unfold dB;simp only[Bool.and_eq_true,decide_eq_true_eq]
theorem eJ{x:Sp}{b:dQ}:fA x b=true↔x.aN.length=2/\(GU x).length=0/\fy b (cE x) (iT x)=true:=by
 unfold fA;simp only[Bool.and_eq_true,decide_eq_true_eq]
theorem gi{n:Nat}{x:Sp}{b:dQ}(h:dB x=true):bK (n+1) x b=[(b,x)]:=by
 show (if dB x then _ else if fA x b then _ else _)=_
 rw[if_pos h]
theorem iG{n:Nat}{x:Sp}{b:dQ}(h:dB x=false)(h':fA x b=true):bK (n+1) x b=bK n (aF x 0) (mC b (cE x) (iT x))++bK n (aF x 1) (fS b (cE x) (iT x)):=by
 show (if dB x then _ else if fA x b then _ else _)=_
 rw[if_neg (by simp[h]),if_pos h']
theorem JY{x:Sp}{i:Nat}(h:i<x.aN.length):aF x i∈x.aN:=by
 unfold aF;rw[Wab,Waa h];exact WaJ h
theorem pW:∀{n:Nat} {x:Sp} {b:dQ} {m:Nat},lF n x->n<=m->bK m x b=bK n x b
 |0,x,b,m,h,_=>h.elim
 |n+1,x,b,0,h,hm=>by omega
 |n+1,x,b,m+1,h,hm=>by
  cases hl:dB x
  ·cases hf:fA x b
   ·show (if dB x then _ else if fA x b then _ else _)=(if dB x then _ else if fA x b then _ else _)
    rw[hl,hf];rfl
   ·have h2:=(eJ.1 hf).1;rw[iG hl hf,iG hl hf,pW (x:=aF x 0) (n:=n) (h _ (JY (by omega))) (by omega),pW (x:=aF x 1) (n:=n) (h _ (JY (by omega))) (by omega)]
  ·rw[gi hl,gi hl]
theorem we:∀{n:Nat} {x:Sp} {b:dQ} {m:Nat},dD n x b->n<=m->dD m x b
 |0,x,b,m,h,_=>h.elim
 |n+1,x,b,0,h,hm=>by omega
 |n+1,x,b,m+1,h,hm=>by
  rcases h with h|⟨h1,h2,h3,h4⟩
  ·exact .inl h
  ·exact .inr ⟨h1,h2,we h3 (by omega),we h4 (by omega)⟩
def mM(c b:dQ):Prop:=eU c=true/\c.1.length=b.1.length/\∀i,i<c.1.length->b.1.getD i 0<=c.1.getD i 0/\c.2.1.getD i 0<=b.2.1.getD i 0
theorem Xr{b:dQ}(h:eU b=true):mM b b:=⟨h,rfl,fun i hi=>⟨Waz _,Waz _⟩⟩
theorem G3{a b c:dQ}(h:mM a b)(h':mM b c):mM a c:=⟨h.1,h.2.1.trans h'.2.1,fun i hi=>by
 have h1:=h.2.2 i hi;have h2:=h'.2.2 i (by have:=h.2.1;omega)
 omega⟩
theorem Ao{l:List Int}{i j:Nat}{v:Int}(h:i<l.length):(l.set i v).getD j 0=if j=i then v else l.getD j 0:=by
 rw[Wab,WcD];by_cases hj:i=j
 ·subst hj;simp[h]
 ·rw[if_neg hj,if_neg (fun e=>hj e.symm),<-Wab]
theorem Ez{b:dQ}{x a:Int}(h:eU b=true)(hc:fy b x a=true):mM (mC b x a) b:=by
 obtain⟨h0,h1,h2,h3⟩:=iQ.1 hc;obtain⟨v1,v2,v3,v4⟩:=fR.1 h;unfold at_ at h2 h3;have hx:x.toNat<b.2.1.length:=by omega
 have e:∀i,(mC b x a).2.1.getD i 0=if i=x.toNat then a-1 else b.2.1.getD i 0:=fun i=>Ao hx
 have el:(mC b x a).2.1.length=b.2.1.length:=WaX ..;have b1:=ke v1 x.toNat;have b2:=ke v2 x.toNat;refine⟨fR.2 ⟨v1,j6.2 ⟨fun i hi=>?_,?_⟩,?_,fun i hi=>?_⟩,rfl,fun i hi=>⟨Waz _,?_⟩⟩
 ·rw[e];split
  ·omega
  ·exact ke v2 i
 ·have:=rG v2;omega
 ·rw[el];exact v3
 ·rw[e];split
  ·rename_i hi';subst hi';show b.1.getD _ 0<=_;omega
  ·exact v4 i hi
 ·rw[e];split
  ·rename_i hi';subst hi';omega
  ·exact Waz _
theorem Ap{b:dQ}{x a:Int}(h:eU b=true)(hc:fy b x a=true):mM (fS b x a) b:=by
 obtain⟨h0,h1,h2,h3⟩:=iQ.1 hc;obtain⟨v1,v2,v3,v4⟩:=fR.1 h;unfold at_ at h2 h3;have hx:x.toNat<b.1.length:=by omega
 have e:∀i,(fS b x a).1.getD i 0=if i=x.toNat then a else b.1.getD i 0:=fun i=>Ao hx
 have el:(fS b x a).1.length=b.1.length:=WaX ..;have b1:=ke v1 x.toNat;have b2:=ke v2 x.toNat;refine⟨fR.2 ⟨j6.2 ⟨fun i hi=>?_,?_⟩,v2,?_,fun i hi=>?_⟩,el,fun i hi=>⟨?_,Waz _⟩⟩
 ·rw[e];split
  ·omega
  ·exact ke v1 i
 ·have:=rG v1;omega
 ·rw[el];exact v3
 ·rw[e];split
  ·rename_i hi';subst hi';show _<=b.2.1.getD _ 0;omega
  ·exact v4 i (by rw[el]at hi;exact hi)
 ·rw[e];split
  ·rename_i hi';subst hi';omega
  ·exact Waz _
theorem qcy{b:dQ}{x a:Int}{v:List Int}(h:eU b=true)(hc:fy b x a=true):cR (mC b x a) v=true↔cR b v=true/\v.getD x.toNat 0<a:=by
 obtain⟨h0,h1,h2,h3⟩:=iQ.1 hc;unfold at_ at h2 h3;have hs:=Ez h hc;have hx:x.toNat<b.2.1.length:=by have:=(rH h).2.2;omega
 have e:∀i,(mC b x a).2.1.getD i 0=if i=x.toNat then a-1 else b.2.1.getD i 0:=fun i=>Ao hx
 have e1:(mC b x a).1=b.1:=rfl;rw[fu,fu,e1];refine⟨fun ⟨_,k1,k2⟩=>⟨⟨h,k1,fun i hi=>?_⟩,?_⟩,fun ⟨⟨_,k1,k2⟩,k3⟩=>⟨hs.1,k1,fun i hi=>?_⟩⟩
 ·have:=k2 i hi
  rw[e]at this;split at this
  ·rename_i hi';subst hi';omega
  ·exact this
 ·have:=k2 x.toNat (by omega)
  rw[e,if_pos rfl]at this;omega
 ·have:=k2 i hi
  rw[e];split
  ·rename_i hi';subst hi';omega
  ·exact this
theorem Xs{b:dQ}{x a:Int}{v:List Int}(h:eU b=true)(hc:fy b x a=true):cR (fS b x a) v=true↔cR b v=true/\a<=v.getD x.toNat 0:=by
 obtain⟨h0,h1,h2,h3⟩:=iQ.1 hc;unfold at_ at h2 h3;have hs:=Ap h hc;have hx:x.toNat<b.1.length:=by omega
 have e:∀i,(fS b x a).1.getD i 0=if i=x.toNat then a else b.1.getD i 0:=fun i=>Ao hx
 have e1:(fS b x a).1.length=b.1.length:=WaX ..;have e2:(fS b x a).2.1=b.2.1:=rfl;rw[fu,fu,e1,e2];refine⟨fun ⟨_,k1,k2⟩=>⟨⟨h,k1,fun i hi=>?_⟩,?_⟩,fun ⟨⟨_,k1,k2⟩,k3⟩=>⟨hs.1,k1,fun i hi=>?_⟩⟩
 ·have:=k2 i hi
  rw[e]at this;split at this
  ·rename_i hi';subst hi';omega
  ·exact this
 ·have:=k2 x.toNat (by omega)
  rw[e,if_pos rfl]at this;omega
 ·have:=k2 i hi
  rw[e];split
  ·rename_i hi';subst hi';omega
  ·exact this
theorem u9:∀{n:Nat} {x:Sp} {b:dQ},eU b=true->dD n x b->∀p∈bK n x b,mM p.1 b/\dB p.2=true
 |0,x,b,hb,h,p,hp=>h.elim
 |n+1,x,b,hb,.inl h,p,hp=>by
  rw[gi h,Wbs]at hp;subst hp;exact⟨Xr hb,h⟩
 |n+1,x,b,hb,.inr ⟨h1,h2,h3,h4⟩,p,hp=>by
  have hc:=(eJ.1 h2).2.2;rw[iG h1 h2,WbH]at hp;rcases hp with hp|hp
  ·obtain⟨k1,k2⟩:=u9 (Ez hb hc).1 h3 p hp;exact⟨G3 k1 (Ez hb hc),k2⟩
  ·obtain⟨k1,k2⟩:=u9 (Ap hb hc).1 h4 p hp;exact⟨G3 k1 (Ap hb hc),k2⟩
theorem G4:∀{n:Nat} {x:Sp} {b:dQ},eU b=true->dD n x b->∀v,((bK n x b).filter fun p=>cR p.1 v).length=if cR b v then 1 else 0
 |0,x,b,hb,h,v=>h.elim
 |n+1,x,b,hb,.inl h,v=>by
  rw[gi h];cases hv:cR b v<;>simp[hv]
 |n+1,x,b,hb,.inr ⟨h1,h2,h3,h4⟩,v=>by
  have hc:=(eJ.1 h2).2.2;rw[iG h1 h2,List.filter_append,Wad,G4 (Ez hb hc).1 h3 v,G4 (Ap hb hc).1 h4 v];have l:=qcy (v:=v) hb hc;have g:=Xs (v:=v) hb hc;cases hv:cR b v
  ·have e1:cR (mC b (cE x) (iT x)) v=false:=uY fun h=>by have:=(l.1 h).1;simp[hv]at this
   have e2:cR (fS b (cE x) (iT x)) v=false:=uY fun h=>by have:=(g.1 h).1;simp[hv]at this
   rw[e1,e2];rfl
  ·by_cases k:v.getD (cE x).toNat 0<iT x
   ·have e2:cR (fS b (cE x) (iT x)) v=false:=uY fun h=>by have:=(g.1 h).2;omega
    rw[l.2 ⟨hv,k⟩,e2];rfl
   ·have e1:cR (mC b (cE x) (iT x)) v=false:=uY fun h=>by have:=(l.1 h).2;omega
    rw[g.2 ⟨hv,by omega⟩,e1];rfl
theorem SB{a b c:dQ}(h:mM a c)(h':mM b c):gh a b=true:=iF.2 ⟨h.1,h'.1,by have:=h.2.1;have:=h'.2.1;omega⟩
end Go.PL
namespace Go.Proofs.YtobfmplofoofkaaGreatDoor
open Go.AM Go.PL
attribute [local irreducible] aW cz mQ
theorem G5{k:Int}(h:k<=1000):jf (bD k):=⟨by simp[bD],by simp only[bD,Wa7];omega⟩
theorem qj3:Tryz.prog.bytesOf 50=72:=by kernel_rfl
theorem qnc{C:Ctx}{n:Nat}(hb:C.P.bytesOf 50=72)(h:n<=1000000):aM C 50 n:=by
 unfold aM;rw[hb];omega
theorem Xt(n:Nat):Sat Tryz.prog 9 (UQ n):=by
 refine bq (C:=YAr n) (oe UP trivial ⟨Mu n,trivial⟩) (fun d=>qcx n d) fun (d:Dv) hk hp=>?_
 obtain⟨h1,h2,hd,ho⟩:=hp;have hb:(YAr n).P.bytesOf 50=72:=qj3;refine⟨⟨h1,h2⟩,⟨hd,G5 h2⟩,fun xs _ v=>v=xs.map Mw,rfl,fun xs y rest e own z v hv=>?_,fun own z v hv=>hv⟩
 have A:y.snd.val.snd.fst.length<=1000000:=ho.2 y (by rw[e];simp)
 have B:aM (YAr n) 50 (v.length+[((y.fst.fst,y.fst.snd.fst,()),y.snd.val.snd.fst,())].length):=qnc hb (by
  have:=ho.1
  rw[e]at this;rw[hv];simp only[Wad,Wae,Wav,WaB]at this ⊢;omega)
 have C:v++[((y.fst.fst,y.fst.snd.fst,()),y.snd.val.snd.fst,())]=(xs++[y]).map Mw:=by rw[hv,WaQ];rfl
 simp only[A,B,C,and_self]
end Go.Proofs.YtobfmplofoofkaaGreatDoor
namespace Go.PL
open Go.AM
abbrev Ar:=dQ×List Int×Unit
abbrev Mv:=dQ×List Int×Int×Unit
def iM:List Ar->List Int->Int
 |[],_=>-1
 |a::l,v=>if cR a.1 v then 0 else if iM l v= -1 then-1 else iM l v+1
def inL(l:List Int)(n:Int):Bool:=decide (0<=iE n l)
def meets(x y:Ar):Bool:=(jG x.1 y.1).2.1&&decide ((jG x.1 y.1).2.2=0)
def nU(x y:Ar)(n:Int):List Mv:=if inL y.2.1 n then [] else [((jG x.1 y.1).1,y.2.1,n,())]
def jO(x y:Ar):List Mv:=if meets x y then x.2.1.flatMap (nU x y) else []
def nH(la:List Ar)(x:Ar):List Mv:=la.flatMap (jO x)
def Mx(la lb:List Ar):List Mv:=lb.flatMap (nH la)
def vf(n:Nat)(d:Dv)(v:List Int):Int:=iM (aq n d) v
def gj(n:Nat)(a b:Dv):List Mv:=Mx (aq n a) (aq n b)
def pX(n:Nat)(d:Dv):Prop:=1<=d.1/\d.1<=1000/\lF n d.2.2.1/\qcv n d
def qf1(n:Nat)(a b:Dv):Prop:=pX n a/\pX n b/\(gj n a b).length<=1000000
end Go.PL
namespace Go.Proofs.YtobfmplofoofkaaGreatDoor
open Go.AM Go.PL
def pY(n:Nat):aJ:=⟨[DV],[.arr AR],fun d=>pX n d,fun d=>aq n d⟩
def SF(n:Nat):aJ:=⟨[DV,L],[I],fun x=>pX n x.1,fun x=>vf n x.1 x.2⟩
def My(n:Nat):aJ:=⟨[DV,DV],[.arr MV],fun x=>qf1 n x.1 x.2,fun x=>gj n x.1 x.2⟩
def qj4(f:FuncId)(r:Nat):List LA:=
 if Nat.beq f 65 then [.slot 8 I] else
 if Nat.beq f 12 then
  (if Nat.beq r 3 then [.dF 5 57 MV,.slot 18 I] else
   if Nat.beq r 6 then [.dF 5 57 MV,.cell 1 0 L,.cell 1 1 L,.cell 1 2 L,.slot 25 I] else
   [.dF 5 57 MV,.cell 1 0 L,.cell 1 1 L,.cell 1 2 L,.cell 2 0 L,.cell 2 1 L,.cell 2 2 L,.cell 3 0 L,.cell 3 1 L,.slot 47 I]) else
 []
def qne(f:FuncId):Hint:=⟨qj4 f,fun r=>.split,fun t=>.split,fun r=>0⟩
def tYm(n:Nat):List (FuncId×aJ):=[(9,pY n),(10,GP),(45,Sq),(96,UL)]
noncomputable def YM(n:Nat):Ctx:=bA bs (tYm n) [] qne
theorem qf2(n:Nat)(d:Dv)(v:List Int):aW (YM n) 6 25 (SF n) (d,v)=(pX n d/\∃(I:Int->Prop),∃(μ:Int->Nat),I (0:Int)/\∀(x:Int),I x->(decide
 (x<(↑(aq n d).length:Int))=true->((0:Int)<=x/\x<(↑(aq n d).length:Int))/\True/\(cR ((aq n d).getD x.toNat (([],[],()),[],())).fst v=true->x
 =vf n d v)/\(cR ((aq n d).getD x.toNat (([],[],()),[],())).fst v=false->aa (x+(1:Int))/\I (x+(1:Int))/\μ (x+(1:Int))<μ x))/\(decide (x<
 (↑(aq n d).length:Int))=false->(-1:Int)=vf n d v)):=by kernel_rfl
abbrev Pw:Type:=List ((List Int×List Int×Unit)×List Int×Int×Unit)×Int
abbrev vg:Type:=List ((List Int×List Int×Unit)×List Int×Int×Unit)×List Int×List Int×List Int×Int
abbrev Py:Type:=List ((List Int×List Int×Unit)×List Int×Int×Unit)×List Int×List Int×List Int×Int->Prop
abbrev Pz:Type:=List ((List Int×List Int×Unit)×List Int×Int×Unit)×List Int×List Int×List Int×Int->Nat
abbrev PA:Type:=List ((List Int×List Int×Unit)×List Int×Int×Unit)×List Int×List Int×List Int×List Int×List Int×List Int×List Int×List Int×Int
abbrev Dk:List ((List Int×List Int×Unit)×List Int×Int×Unit):=[]
abbrev wg(n:Nat)(a:Dv)(x_1:vg):=(aq n a).getD x_1.2.2.2.2.toNat ((eI,eI,()),eI,())
abbrev Aq(x_1:vg)(n:Nat)(a:Dv):=jG (x_1.2.1,x_1.2.2.1,()) ((wg n a x_1).1.1,(wg n a x_1).1.2.1,())
theorem qcz(n:Nat)(a b:Dv):aW (YM n) 6 12 (My n) (a,b)=(pX n b/\LP (Dk,z0) fun I μ x=>SD (x.2<(ln (aq n b))) ((IR x.2 (aq n b))/\pX n a/\
 LP (x.1,((aq n b).getD x.2.toNat ((eI,eI,()),eI,())).1.1,((aq n b).getD x.2.toNat ((eI,eI,()),eI,())).1.2.1,((aq n b).getD x.2.toNat ((eI,eI,()),eI,())).2.1,z0)
 fun wK iS x_1=>SD (x_1.2.2.2.2<(ln (aq n a))) ((IR x_1.2.2.2.2 (aq n a))/\True/\SP (!(Aq x_1 n a).2.1) (aa (x_1.2.2.2.2+z1)/\NX wK iS x_1 (x_1.1,x_1.2.1,
 x_1.2.2.1,x_1.2.2.2.1,x_1.2.2.2.2+z1)) (SP (!decide ((Aq x_1 n a).2.2=z0)) (aa (x_1.2.2.2.2+z1)/\NX wK iS x_1 (x_1.1,x_1.2.1,x_1.2.2.1,x_1.2.2.2.1,x_1.2.2.2.2+z1))
 (LP (x_1.1,x_1.2.1,x_1.2.2.1,x_1.2.2.2.1,(wg n a x_1).1.1,(wg n a x_1).1.2.1,(wg n a x_1).2.1,(Aq x_1 n a).1.1,(Aq x_1 n a).1.2.1,z0) fun I μ x=>SD
 (x.2.2.2.2.2.2.2.2.2<(ln x_1.2.2.2.1)) ((IR x.2.2.2.2.2.2.2.2.2 x_1.2.2.2.1)/\True/\SP (!decide (z0<=iE (x_1.2.2.2.1.getD x.2.2.2.2.2.2.2.2.2.toNat z0) x.2.2.2.2.2.2.1)) (aM (YM
 n) y57 (x.1.length+[((x.2.2.2.2.2.2.2.1,x.2.2.2.2.2.2.2.2.1,()),x.2.2.2.2.2.2.1,x_1.2.2.2.1.getD x.2.2.2.2.2.2.2.2.2.toNat z0,())].length)/\aa (x.2.2.2.2.2.2.2.2.2+z1)/\NX I μ
 x (x.1++[((x.2.2.2.2.2.2.2.1,x.2.2.2.2.2.2.2.2.1,()),x.2.2.2.2.2.2.1,x_1.2.2.2.1.getD x.2.2.2.2.2.2.2.2.2.toNat z0,())],x.2.1,x.2.2.1,x.2.2.2.1,x.2.2.2.2.1,x.2.2.2.2.2.1,
 x.2.2.2.2.2.2.1,x.2.2.2.2.2.2.2.1,x.2.2.2.2.2.2.2.2.1,x.2.2.2.2.2.2.2.2.2+z1)) (aa (x.2.2.2.2.2.2.2.2.2+z1)/\NX I μ x (x.1,x.2.1,x.2.2.1,x.2.2.2.1,x.2.2.2.2.1,x.2.2.2.2.2.1,
 x.2.2.2.2.2.2.1,x.2.2.2.2.2.2.2.1,x.2.2.2.2.2.2.2.2.1,x.2.2.2.2.2.2.2.2.2+z1))) (aa (x_1.2.2.2.2+z1)/\NX wK iS x_1 (x.1,x.2.1,x.2.2.1,x.2.2.2.1,x_1.2.2.2.2+z1))))) (aa
 (x.2+z1)/\NX I μ x (x_1.1,x.2+z1))) (x.1=gj n a b)):=by kernel_rfl
end Go.Proofs.YtobfmplofoofkaaGreatDoor
namespace Go.PL
open Go.AM
abbrev AU:Ar:=(([],[],()),[],())
theorem G6{v:List Int}:∀{l:List Ar},(∀j:Nat,j<l.length->cR (l.getD j AU).1 v=false)->iM l v= -1
 |[],h=>rfl
 |a::l,h=>by
  have h0:cR a.1 v=false:=h 0 (by simp)
  have ih:iM l v= -1:=G6 fun j hj=>by have:=h (j+1) (by simp only[Wae];omega);rwa [WbV]at this
  unfold iM;rw[h0,ih];rfl
theorem G7(v:List Int):∀l:List Ar,-1<=iM l v/\iM l v<l.length
 |[]=>by simp[iM]
 |a::l=>by
  have:=G7 v l
  unfold iM;simp only[Wae];split
  ·omega
  ·split<;>omega
theorem PB{v:List Int}:∀{l:List Ar} {i:Nat},i<l.length->cR (l.getD i AU).1 v=true->(∀j:Nat,j<i->cR (l.getD j AU).1 v=false)->iM l v=i
 |[],i,h,_,_=>by simp at h
 |a::l,0,h,h1,h2=>by
  have h1:cR a.1 v=true:=h1;unfold iM;rw[if_pos h1];rfl
 |a::l,i+1,h,h1,h2=>by
  have h0:cR a.1 v=false:=h2 0 (by omega)
  rw[WbV]at h1;have ih:iM l v=i:=PB (by simp only[Wae]at h;omega) h1 fun j hj=>by have:=h2 (j+1) (by omega);rwa [WbV]at this
  unfold iM;rw[h0,ih];have:¬(i:Int)= -1:=by omega
  simp only[WaG,if_false,if_neg this];omega
theorem JZ{v:List Int}:∀{l:List Ar},0<=iM l v->cR (l.getD (iM l v).toNat AU).1 v=true
 |[],h=>by simp[iM]at h
 |a::l,h=>by
  unfold iM at h ⊢;cases h0:cR a.1 v
  ·simp only[h0,WaG,if_false]at h ⊢;split at h
   ·omega
   ·rename_i hk;rw[if_neg hk];have hg:=G7 v l;rw[show (iM l v+1).toNat=(iM l v).toNat+1 by omega,WbV]
    exact JZ (by omega)
  ·simp only[if_true];exact h0
theorem pZ{α β:Type}(l:List α)(d:α)(f:α->List β){i:Int}(h0:0<=i)(h1:i<l.length):(l.take (i+1).toNat).flatMap f=(l.take i.toNat).flatMap f++f (l.getD i.toNat d):=by
 rw[Wh l d h0 h1,Wcl];simp
theorem Cd{α β:Type}(l:List α)(d:α)(f:α->List β){i:Int}(h0:0<=i)(h1:i<l.length):((l.take i.toNat).flatMap f).length+(f (l.getD i.toNat d)).length<=(l.flatMap f).length:=by
 have e:l.flatMap f=(l.take (i+1).toNat).flatMap f++(l.drop (i+1).toNat).flatMap f:=by rw[<-Wcl,Wax]
 rw[e,pZ l d f h0 h1,Wad,Wad];omega
end Go.PL
namespace Go.Proofs.YtobfmplofoofkaaGreatDoor
open Go.AM Go.PL
attribute [local irreducible] aW cz mQ
theorem mD(n:Nat):Sat Tryz.prog 9 (pY n):=Xt n
theorem qhw(n:Nat):jK bs.P (tYm n):=⟨mD n,GS,qch,Ey,trivial⟩
theorem qcA(n:Nat):Sat Tryz.prog 25 (SF n):=by
 refine bq (C:=YM n) (az (qhw n) trivial) (fun x=>qf2 n x.1 x.2) fun (x:Dv×List Int) hk hp=>?_
 obtain⟨d,v⟩:=x;dsimp only;have hl:(aq n d).length<=1000:=by
  have h:qcv n d:=hp.2.2.2;have:=h.1
  unfold aq;rw[Wav];exact this
 refine⟨hp,fun x=>0<=x/\x<=(aq n d).length/\∀j:Nat,(j:Int)<x->cR ((aq n d).getD j AU).1 v=false,fun x=>(((aq n d).length:Int)-x).toNat,⟨by omega,by omega,fun j hj=>by omega⟩,fun x ⟨h0,h1,h2⟩=>⟨fun c=>?_,fun c=>?_⟩⟩
 ·have c:=dt c;refine⟨⟨h0,c⟩,trivial,fun g=>?_,fun g=>⟨bP (by omega) (by omega),⟨by omega,by omega,iB h0 h2 g⟩,by dsimp only;omega⟩⟩
  have:=PB (l:=aq n d) (i:=x.toNat) (by omega) g fun j hj=>h2 j (by omega)
  show x=iM (aq n d) v
  omega
 ·have c:=df c;exact (G6 fun j hj=>h2 j (by omega)).symm
theorem qj5:Tryz.prog.bytesOf 57=80:=by kernel_rfl
theorem qnf{C:Ctx}{n:Nat}(hb:C.P.bytesOf 57=80)(h:n<=1000000):aM C 57 n:=by
 unfold aM;rw[hb];omega
theorem Xu(n:Nat):Sat Tryz.prog 12 (My n):=by
 refine bq (C:=YM n) (az (qhw n) trivial) (fun x=>qcz n x.1 x.2) fun (x:Dv×Dv) hk hp=>?_;delta Pw vg Py Pz PA Dk wg Aq IR LP NX SD SP eI ln y57 z0 z1;dsimp only
 obtain⟨a,b⟩:=x;obtain⟨pa,pb,hm⟩:pX n a/\pX n b/\(gj n a b).length<=1000000:=hp
 dsimp only;have hb:(YM n).P.bytesOf 57=80:=qj5;have len:∀{d:Dv},pX n d->(aq n d).length<=1000:=fun {d} hp=>by
  have h:qcv n d:=hp.2.2.2;have:=h.1
  unfold aq;rw[Wav];exact this
 have qql:∀{d:Dv},pX n d->∀y∈aq n d,y.2.1.length<=1000000:=fun {d} hp y hy=>by
  have h:qcv n d:=hp.2.2.2;obtain⟨p,hp',e⟩:=List.mem_map.1 hy;rw[<-e];exact h.2 p hp'
 have la:=len pa;have lb:=len pb;refine⟨pb,fun s=>0<=s.2/\s.2<=(aq n b).length/\s.1=((aq n b).take s.2.toNat).flatMap (nH (aq n a)),fun s=>(((aq n b).length:Int)-s.2).toNat,⟨by omega,by omega,rfl⟩,fun s ⟨h0,h1,h2⟩=>⟨fun c=>⟨⟨h0,dt c⟩,pa,?_⟩,fun c=>?_⟩⟩
 ·have c:=dt c;have eb:=pZ (aq n b) AU (nH (aq n a)) h0 c;have rb:=Cd (aq n b) AU (nH (aq n a)) h0 c;have mb:(aq n b).getD s.2.toNat AU∈aq n b:=qa0 _ _ (by omega)
  have ob:=qql pb _ mb;revert eb rb ob
  generalize (aq n b).getD s.2.toNat AU=x
  intro eb rb ob;refine⟨fun t=>t.2.1=x.1.1/\t.2.2.1=x.1.2.1/\t.2.2.2.1=x.2.1/\0<=t.2.2.2.2/\t.2.2.2.2<=(aq n a).length/\t.1=s.1++((aq n a).take t.2.2.2.2.toNat).flatMap (jO x),fun t=>(((aq n a).length:Int)-t.2.2.2.2).toNat,⟨rfl,rfl,rfl,by dsimp only;omega,by dsimp only;omega,(WaA _).symm⟩,fun t ht=>?_⟩
  obtain⟨o1,xl,xh,xo,j⟩:=t;obtain⟨e1,e2,e3,g0,g1,g2⟩:=ht;dsimp only at e1 e2 e3 g0 g1 g2 ⊢;subst e1 e2 e3;refine⟨fun k=>⟨⟨g0,dt k⟩,trivial,?_⟩,fun k=>?_⟩
  ·have k:=dt k;have ea:=pZ (aq n a) AU (jO x) g0 k;have ra:=Cd (aq n a) AU (jO x) g0 k;revert ea ra
   generalize (aq n a).getD j.toNat AU=y
   intro ea ra;have ex:((x.1.1,x.1.2.1,()):dQ)=x.1:=rfl;have ey:((y.1.1,y.1.2.1,()):dQ)=y.1:=rfl;rw[ex,ey];have skip:meets x y=false->aa (j+1)/\(x.1.1=x.1.1/\x.1.2.1=x.1.2.1/\x.2.1=x.2.1/\0<=j+1/\j+1<=(aq n a).length/\o1=s.1++((aq n a).take (j+1).toNat).flatMap (jO x))/\(((aq n a).length:Int)-(j+1)).toNat<(((aq n a).length:Int)-j).toNat:=fun hn=>by
    have:jO x y=[]:=by unfold jO;rw[hn];rfl
    exact⟨bP (by omega) (by omega),⟨rfl,rfl,rfl,by omega,by omega,by rw[ea,this,WaA];exact g2⟩,by omega⟩
   refine⟨fun q=>skip (by unfold meets;rw[nt q];rfl),fun q=>⟨fun q1=>skip (by unfold meets;rw[nt q1,Bool.and_false]),fun q1=>?_⟩⟩
   have hmt:meets x y=true:=by unfold meets;rw[nf q,nf q1];rfl
   have ey2:jO x y=x.2.1.flatMap (nU x y):=by unfold jO;rw[hmt];rfl
   refine⟨fun u=>u.2.1=x.1.1/\u.2.2.1=x.1.2.1/\u.2.2.2.1=x.2.1/\u.2.2.2.2.2.2.1=y.2.1/\u.2.2.2.2.2.2.2.1=(jG x.1 y.1).1.1/\u.2.2.2.2.2.2.2.2.1=(jG x.1 y.1).1.2.1/\0<=u.2.2.2.2.2.2.2.2.2/\u.2.2.2.2.2.2.2.2.2<=x.2.1.length/\u.1=o1++(x.2.1.take u.2.2.2.2.2.2.2.2.2.toNat).flatMap (nU x y),fun u=>((x.2.1.length:Int)-u.2.2.2.2.2.2.2.2.2).toNat,⟨rfl,rfl,rfl,rfl,rfl,rfl,by dsimp only;omega,by dsimp only;omega,(WaA _).symm⟩,fun u hu=>?_⟩
   obtain⟨o2,xl,xh,xo,yl,yh,yo,ml,mh,i⟩:=u;obtain⟨e1,e2,e3,e4,e5,e6,f0,f1,f2⟩:=hu;dsimp only at e1 e2 e3 e4 e5 e6 f0 f1 f2 ⊢;subst e1 e2 e3 e4 e5 e6;refine⟨fun p=>⟨⟨f0,dt p⟩,trivial,fun p1=>?_,fun p1=>?_⟩,fun p=>?_⟩
   ·have p:=dt p;have ei:=pZ x.2.1 0 (nU x y) f0 p;have ri:=Cd x.2.1 0 (nU x y) f0 p;have em:nU x y (x.2.1.getD i.toNat 0)=[((jG x.1 y.1).1,y.2.1,x.2.1.getD i.toNat 0,())]:=by
     have:inL y.2.1 (x.2.1.getD i.toNat 0)=false:=nt p1
     unfold nU;rw[this];rfl
    rw[em]at ei ri;refine⟨qnf hb ?_,bP (by omega) (by omega),⟨rfl,rfl,rfl,rfl,rfl,rfl,by omega,by omega,?_⟩,by omega⟩
    ·have e5:(gj n a b).length=((aq n b).flatMap (nH (aq n a))).length:=rfl;have e6:(nH (aq n a) x).length=((aq n a).flatMap (jO x)).length:=rfl;rw[f2,g2,h2];simp only[Wad,Wae,WaB]at ri ⊢;rw[ey2]at ra;omega
    ·rw[ei,f2,Waj]
   ·have p:=dt p;have ei:=pZ x.2.1 0 (nU x y) f0 p;have em:nU x y (x.2.1.getD i.toNat 0)=[]:=by
     have:inL y.2.1 (x.2.1.getD i.toNat 0)=true:=nf p1
     unfold nU;rw[this];rfl
    exact⟨bP (by omega) (by omega),⟨rfl,rfl,rfl,rfl,rfl,rfl,by omega,by omega,by rw[ei,em,WaA];exact f2⟩,by omega⟩
   ·have p:=df p;have hi:i.toNat=x.2.1.length:=by omega
    refine⟨bP (by omega) (by omega),⟨rfl,rfl,rfl,by omega,by omega,?_⟩,by omega⟩
    rw[ea,ey2,f2,hi,WbP,g2,Waj]
  ·have k:=df k;have hj:j.toNat=(aq n a).length:=by omega
   refine⟨bP (by omega) (by omega),⟨by omega,by omega,?_⟩,by omega⟩
   rw[eb,g2,hj,WbP,h2];rfl
 ·have c:=df c;have hs:s.2.toNat=(aq n b).length:=by omega
  rw[h2,hs,WbP];rfl
end Go.Proofs.YtobfmplofoofkaaGreatDoor
namespace Go.PL
open Go.AM
def qv(l:List Int):Sp:=.node ((0,0,()),(l,())) []
set_option linter.unusedVariables false
def YI(n:Nat)(d:Dv):Prop:=1<=d.1/\d.1<=32/\1<=d.2.1/\d.2.1<=1073741824/\lF n d.2.2.1/\(bK n d.2.2.1 (bD d.1)).length<=64/\∀p∈bK n d.2.2.1 (bD d.1),p.1.1.length≠0
end Go.PL
namespace Go.Proofs.YtobfmplofoofkaaGreatDoor
open Go.AM Go.PL
def G8(n:Nat):aJ:=⟨[DV],[.bool],fun d=>YI n d,fun _=>true⟩
def qj6(f:FuncId):Hint:=⟨fun _=>bif Nat.beq f 81 then [.cell 0 0 I] else [],fun r=>bif Nat.beq f 36&&Nat.beq r 4 then .all else .split,fun _=>.split,fun _=>0⟩
noncomputable def YV(n:Nat):Ctx:=Ge bs tY1 [] [(81,qcj n)] qj6
abbrev Dl:List ((List Int×List Int×Unit)×Rose ((TI.pair (TI.pair Ty.unit)).den×(L.pair Ty.unit).den)):=[]
theorem qcB(n:Nat)(d:Dv):aW (YV n) 6 36 (G8 n) d=(SD (d.1<z1) (false=true) (SD (nj<d.1) (false=true) (SD (d.2.1<z1) (false=true) (SD ((1073741824:Int)<
 d.2.1) (false=true) ((z1<=d.1/\d.1<=(1000:Int))/\(lF n d.2.2.1/\jf (bD d.1))/\∃(I:List ((List Int×List Int×Unit)×Rose ((I.pair (I.pair Ty.unit)).den×(L.pair
 Ty.unit).den))->Unit->Int->Prop),I Dl () z0/\(∀(xs:List ((List Int×List Int×Unit)×Rose ((TI.pair (TI.pair Ty.unit)).den×(L.pair Ty.unit).den))) (y:(List Int×
 List Int×Unit)×Rose ((TI.pair (TI.pair Ty.unit)).den×(L.pair Ty.unit).den)) (rest:List ((List Int×List Int×Unit)×Rose ((TI.pair (TI.pair Ty.unit)).den×(L.pair
 Ty.unit).den))),bK n d.2.2.1 (bD d.1)=xs++y::rest->∀(own:Nat->Prop) (z:Unit) (v:Int),I xs z v->aa (v+z1)/\SD ((ln y.1.1)=z0) (false=true) (SD (j9<v+
 z1) (false=true) (I (xs++[y]) () (v+z1))))/\∀(own:Nat->Prop) (z:Unit) (v:Int),I (bK n d.2.2.1 (bD d.1)) z v->decide (v<=j9)=true))))):=by kernel_rfl
end Go.Proofs.YtobfmplofoofkaaGreatDoor
namespace Go.PL
open Go.AM
structure GoodN (n:Nat) (d:Dv):Prop where
 d1:1<=d.1
 d2:d.1<=32
 deep:lF n d.2.2.1
 val:dD n d.2.2.1 (bD d.1)
 Iw:(bK n d.2.2.1 (bD d.1)).length<=64
theorem G9{k:Int}(h1:1<=k)(h2:k<=32):eU (bD k)=true:=by
 have e1:∀i,i<k.toNat->(bD k).1.getD i 0= -1000:=fun i hi=>by
  show (List.replicate k.toNat (-1000:Int)).getD i 0=_
  rw[Wab,Wbb,if_pos hi];rfl
 have e2:∀i,i<k.toNat->(bD k).2.1.getD i 0=1000:=fun i hi=>by
  show (List.replicate k.toNat (1000:Int)).getD i 0=_
  rw[Wab,Wbb,if_pos hi];rfl
 have l1:(bD k).1.length=k.toNat:=Wa7;have l2:(bD k).2.1.length=k.toNat:=Wa7;refine fR.2 ⟨j6.2 ⟨fun i hi=>?_,by omega,by omega⟩,j6.2 ⟨fun i hi=>?_,by omega,by omega⟩,by omega,fun i hi=>?_⟩
 ·rw[e1 i (by omega)];omega
 ·rw[e2 i (by omega)];omega
 ·rw[e1 i (by omega),e2 i (by omega)];omega
theorem SG{k:Int}(h1:1<=k)(h2:k<=32){v:List Int}(hv:pP v=true)(hl:(v.length:Int)=k):cR (bD k) v=true:=by
 have e1:∀i,i<k.toNat->(bD k).1.getD i 0= -1000:=fun i hi=>by
  show (List.replicate k.toNat (-1000:Int)).getD i 0=_
  rw[Wab,Wbb,if_pos hi];rfl
 have e2:∀i,i<k.toNat->(bD k).2.1.getD i 0=1000:=fun i hi=>by
  show (List.replicate k.toNat (1000:Int)).getD i 0=_
  rw[Wab,Wbb,if_pos hi];rfl
 have l1:(bD k).1.length=k.toNat:=Wa7;refine fu.2 ⟨G9 h1 h2,by omega,fun i hi=>?_⟩
 rw[e1 i (by omega),e2 i (by omega)]
 exact ke hv i
theorem qcC{a b:dQ}{v:List Int}(ha:cR a v=true)(hb:cR b v=true):gh a b=true/\eU (lV a b)=true:=by
 obtain⟨a1,a2,a3⟩:=fu.1 ha;obtain⟨b1,b2,b3⟩:=fu.1 hb;have hl:gh a b=true:=iF.2 ⟨a1,b1,by omega⟩
 refine⟨hl,(Xl hl).2 fun i hi=>?_⟩
 have h1:=a3 i (by omega)
 have h2:=b3 i (by omega)
 omega
theorem jw(n:Nat)(d:Dv):(aq n d).length=(bK n d.2.2.1 (bD d.1)).length:=Wav ..
theorem He{n:Nat}{d:Dv}{i:Nat}(h:i<(aq n d).length):∃p,p∈bK n d.2.2.1 (bD d.1)/\(aq n d).getD i AU=Mw p/\(bK n d.2.2.1 (bD d.1))[i]?=some p:=by
 have h':=h;rw[jw]at h';refine⟨(bK n d.2.2.1 (bD d.1))[i],WaJ h',?_,Waa h'⟩
 rw[Wab];unfold aq;rw[Wba,Waa h'];rfl
namespace GoodN
variable {n:Nat} {d:Dv}
theorem eU(h:GoodN n d):Go.PL.eU (bD d.1)=true:=G9 h.d1 h.d2
theorem pre(h:GoodN n d):pX n d:=⟨h.d1,by have:=h.d2;omega,h.deep,by have:=h.Iw;omega,fun p hp=>by
 have:=fj.1 (jg.1 (u9 h.eU h.val p hp).2).2.2.2
 omega⟩
theorem sub(h:GoodN n d){i:Nat}(hi:i<(aq n d).length):mM ((aq n d).getD i AU).1 (bD d.1)/\eB ((aq n d).getD i AU).2.1=true:=by
 obtain⟨p,hp,e,_⟩:=He hi;rw[e];have:=u9 h.eU h.val p hp
 exact⟨this.1,(jg.1 this.2).2.2.2⟩
theorem home(h:GoodN n d){v:List Int}(hv:pP v=true)(hl:(v.length:Int)=d.1):0<=vf n d v/\vf n d v<(aq n d).length/\cR ((aq n d).getD (vf n d v).toNat AU).1 v=true:=by
 have hone:=G4 h.eU h.val v;rw[if_pos (SG h.d1 h.d2 hv hl)]at hone;have hg:=G7 v (aq n d);have h0:0<=vf n d v:=by
  rcases Decidable.em (vf n d v<0) with hn|hn
  ·exfalso
   have hmem:∃p,p∈(bK n d.2.2.1 (bD d.1)).filter fun p=>cR p.1 v:=by
    cases hf:(bK n d.2.2.1 (bD d.1)).filter fun p=>cR p.1 v with
    |nil=>rw[hf]at hone;simp at hone
    |cons p l=>exact⟨p,by simp⟩
   obtain⟨p,hp⟩:=hmem;obtain⟨Vu,Qi⟩:=List.mem_filter.1 hp;obtain⟨i,hi,e⟩:=List.mem_iff_getElem.1 Vu;have hi':i<(aq n d).length:=by rw[jw];exact hi
   obtain⟨q,hq,e',g⟩:=He hi';rw[Waa hi]at g;simp only[Option.some.injEq]at g;have hq2:cR ((aq n d).getD i AU).1 v=true:=by rw[e',<-g,e];exact Qi
   have key:∀l:List Ar,(∃j,j<l.length/\cR (l.getD j AU).1 v=true)->0<=iM l v:=by
    intro l;induction l with
    |nil=>intro ⟨j,hj,_⟩;simp at hj
    |cons a l ih=>
     intro ⟨j,hj,hb⟩;unfold iM;split
     ·omega
     ·rename_i ha;have:0<=iM l v:=by
       cases j with
       |zero=>exact absurd hb ha
       |succ j=>exact ih ⟨j,by simp only[Wae]at hj;omega,by rwa [WbV]at hb⟩
      split<;>omega
   have:=key (aq n d) ⟨i,hi',hq2⟩
   have e3:vf n d v=iM (aq n d) v:=rfl;omega
  ·omega
 exact⟨h0,hg.2,JZ h0⟩
end GoodN
end Go.PL
namespace Go.PL
open Go.AM
theorem wj{α β:Type}{f:α->List β}{c:Nat}:∀{l:List α},(∀x∈l,(f x).length<=c)->(l.flatMap f).length<=l.length*c
 |[],_=>by simp
 |a::l,h=>by
  rw[WbS,Wad,Wae,WbA];have h1:=h a Waq;have h2:=wj (f:=f) (c:=c) (l:=l) fun x hx=>h x (Wal _ hx)
  omega
theorem Xv{α:Type}{l:List α}{x:α}(d:α)(h:x∈l):∃i,i<l.length/\l.getD i d=x:=by
 obtain⟨i,hi,e⟩:=List.mem_iff_getElem.1 h;exact⟨i,hi,by rw[Wab,Waa hi];exact e⟩
theorem J0{x y:Ar}(h:gh x.1 y.1=true):meets x y=eU (lV x.1 y.1):=by
 unfold meets;cases hb:eU (lV x.1 y.1)
 ·rw[<-GR h hb];rfl
 ·rw[v8 h hb];rfl
theorem J1{a b:dQ}{v:List Int}(h:gh a b=true)(hm:eU (lV a b)=true):cR (lV a b) v=true↔cR a v=true/\cR b v=true:=by
 obtain⟨ha,hb,hl⟩:=iF.1 h;have la:a.2.1.length=a.1.length:=(rH ha).2.2;have e1:∀i,i<a.1.length->(lV a b).1.getD i 0=max (a.1.getD i 0) (b.1.getD i 0):=fun i hi=>nc _ hi
 have e2:∀i,i<a.1.length->(lV a b).2.1.getD i 0=min (a.2.1.getD i 0) (b.2.1.getD i 0):=fun i hi=>nc _ (by omega)
 have l1:(lV a b).1.length=a.1.length:=pL ..;rw[fu,fu,fu];constructor
 ·rintro⟨_,h2,h3⟩
  refine⟨⟨ha,by omega,fun i hi=>?_⟩,hb,by omega,fun i hi=>?_⟩
  ·have:=h3 i hi;rw[e1 i (by omega),e2 i (by omega)]at this;omega
  ·have:=h3 i hi;rw[e1 i (by omega),e2 i (by omega)]at this;omega
 ·rintro⟨⟨_,h2,h3⟩,_,h4,h5⟩
  refine⟨hm,by omega,fun i hi=>?_⟩
  rw[e1 i (by omega),e2 i (by omega)]
  have:=h3 i hi
  have:=h5 i hi
  omega
theorem Xw(x y:Ar)(n:Int):(nU x y n).length<=1:=by unfold nU;split<;>simp
theorem SH{x y:Ar}(h:x.2.1.length<=4):(jO x y).length<=4:=by
 unfold jO;split
 ·have:=wj (f:=nU x y) (c:=1) (l:=x.2.1) fun n _=>Xw x y n
  omega
 ·simp
namespace Good
variable {a b:Dv}
end Good
end Go.PL
namespace Go.PL
open Go.AM
abbrev gS(x:Sp)(k:Nat):Sp:=(Rose.aN x).getD k (Rose.node (((0:Int),(0:Int),()),[],()) [])
abbrev nS(y:Sp):Sp:=Rose.node ((y.val.fst.fst,y.val.fst.snd.fst,()),y.val.snd.fst,()) y.aN
def ay:Nat->Sp->Int
 |0,_=>0
 |n+1,x=>if x.aN.length=0 then 1 else ay n (aF x 0)+ay n (aF x 1)
def cH(n:Nat)(x:Sp):Int:=ay (n+1) x
def SI:Nat->Sp->Prop
 |0,_=>False
 |n+1,x=>x.aN.length=0\/(x.aN.length=2/\SI n (aF x 0)/\SI n (aF x 1))
def SJ(a t:Int)(o:List Int)(x:Sp):Sp:=.node ((a,t,()),([],())) [x,qv o]
def j7:Nat->Int->Int->Int->List Int->Sp->Int->Sp
 |0,_,_,_,_,x,_=>x
 |n+1,p,a,t,o,x,c=>if x.aN.length=0 then (if c=p then SJ a t o x else x) else
  .node x.val [j7 n p a t o (aF x 0) c,j7 n p a t o (aF x 1) (c+ay n (aF x 0))]
def xp(n:Nat)(p a t:Int)(o:List Int)(x:Sp)(c:Int):Sp:=j7 (n+1) p a t o x c
def twin(p:Int)(x:Sp)(c:Int):Bool:=decide (c=p)&&(decide (x.aN.length≠0)&&(decide ((aF x 0).aN.length=0)&&decide ((aF x 1).aN.length=0)))
def fB:Nat->Int->Sp->Int->Sp
 |0,_,x,_=>x
 |n+1,p,x,c=>if twin p x c then aF x 0 else if x.aN.length=0 then x else
  .node x.val [fB n p (aF x 0) c,fB n p (aF x 1) (c+ay n (aF x 0))]
def mE(n:Nat)(p:Int)(x:Sp)(c:Int):Sp:=fB (n+1) p x c
def cZ:Nat->Int->Sp->Int->Bool
 |0,_,_,_=>false
 |n+1,p,x,c=>if twin p x c then true else if x.aN.length=0 then false else
  cZ n p (aF x 0) c||cZ n p (aF x 1) (c+ay n (aF x 0))
def jy(n:Nat)(p:Int)(x:Sp)(c:Int):Bool:=cZ (n+1) p x c
def vh(n:Nat)(x:Sp)(c:Int):Prop:=SI n x/\0<=c/\c+ay n x<=1000000
def qng(n:Nat)(x:Sp)(c:Int):Prop:=vh (n+1) x c
def tV(n:Nat)(o:List Int)(x:Sp)(c:Int):Prop:=vh n x c/\o.length<=1000000
def gM(n:Nat)(d:Dv)(p a t:Int)(o:List Int):Dv×Int:=
 if p<0\/((aq n d).length:Int)<=p then (d,5) else if fy ((aq n d).getD p.toNat AU).1 a t=false\/eB o=false then (d,1) else if 64<=(aq n d).length then (d,2) else
 if (1073741824:Int)<=d.2.1 then (d,2) else ((d.1,d.2.1+1,j7 n p a t o d.2.2.1 0,()),0)
end Go.PL
namespace Go.Proofs.YtobfmplofoofkaaGreatDoor
open Go.AM Go.PL
noncomputable def bsF:BG:=⟨Tryz.prog,tyB,fun t=>Nat.beq t 3||bs.ro t⟩
def qnh(p a t:Int)(o:List Int)(c:Int):List aB:=
 [.gone,.cells [.fn 61 [.rp I a,.rp I t,.rp L o]],.gone,.cells [.fn 109 [.rp I p,.own 1 0]],.gone,.cells [.d I c],.cells [.fn 116 [.own 5 0,.own 3 0,.own 6 0]]]
def qj7(n:Nat)(p a t:Int)(o:List Int):kZ:=⟨[ST],[ST],[.cell 5 0 I],[.own 5 0,.own 3 0,.own 6 0],fun c=>qnh p a t o c,fun x c=>tV n o x c,fun x c=>j7 n p a t o x c,fun x c=>(fun e:Int=>e+ay n x) c⟩
def qhx(n:Nat)(p a t:Int)(o:List Int):kZ:=⟨[ST],[ST],[.cell 5 0 I],[.own 5 0,.own 3 0,.own 6 0],fun c=>qnh p a t o c,fun x c=>tV (n+1) o x c,fun x c=>xp n p a t o x c,fun x c=>(fun e:Int=>e+cH n x) c⟩
def qni(f:FuncId)(r:Nat):Bool:=
 (Nat.beq f 78&&Nat.beq r 6)||(Nat.beq f 116&&Nat.beq r 15)||(Nat.beq f 23&&Nat.beq r 4)||(Nat.beq f 34&&Nat.beq r 1)
def qnj(f:FuncId)(r:Nat):Nat:=bif (Nat.beq f 116&&Nat.beq r 13)||(Nat.beq f 140&&Nat.beq r 4) then 3 else 0
def qcD(f:FuncId):Hint:=if Nat.beq f 999999997 then⟨fun _=>[],fun _=>.split,fun _=>.split,fun _=>1⟩ else
 ⟨fun _=>[],fun r=>bif qni f r then .all else .split,fun t=>bif Nat.beq f 140&&Nat.beq t 9 then .yes else .split,qnj f⟩
def qcE(f:FuncId):Hint:=⟨fun _=>[],fun r=>bif qni f r then .all else .split,fun _=>.split,qnj f⟩
noncomputable def FC(n:Nat)(p a t:Int)(o:List Int):Ctx:=x9 bsF [(39,Iu.data)] [] [] [(116,qj7 n p a t o)] qcD
def Mz(n:Nat):aJ:=⟨[DV,I,I,I,L],[DV,I],fun x=>GoodN n x.1,fun x=>gM n x.1 x.2.1 x.2.2.1 x.2.2.2.1 x.2.2.2.2⟩
noncomputable def FCc(n:Nat)(p a t:Int)(o:List Int):Ctx:=x9 bsF [(9,pY n),(59,Mo),(58,yA),(39,Iu.data)] [] [] [(116,qj7 n p a t o)] qcE
abbrev yH:List (Rose ((Int×Int×Unit)×List Int×Unit)):=[]
abbrev nI:=True/\True/\True/\True
abbrev s9(a t:Int)(o:List Int):=(a=a/\t=t/\o=o/\True)/\True
abbrev tc(p:Int):=(p=p/\True/\True)/\True
abbrev Hf(x:Sp):=(((Rose.val x).1.1,(Rose.val x).1.2.1,()),(Rose.val x).2.1,())
abbrev SL(x:Sp)(c:Int)(n:Nat)(p a t:Int)(o:List Int):=SD ((ln (Rose.aN x))=z0) (aa (c+z1)/\Rose.node (Hf x) (Rose.aN x)=xp n p a t o x c/\(True/\
 (s9 a t o)/\True/\(tc p)/\True/\(c+z1=c+cH n x/\True)/\(nI/\True)/\True)/\True) (SD (z0<(ln (Rose.aN x))) ((IR z0 (Rose.aN x))/\nI/\(True/\
 (s9 a t o)/\True/\(tc p)/\True/\(c=c/\True)/\(nI/\True)/\True)/\tV n o (nS (gS x y0)) c/\aM (FC n p a t o) Rx [j7 n p a t o (nS (gS x y0)) c].length/\aa
 z1/\SD (z1<(ln (Rose.aN x))) ((IR z1 (Rose.aN x))/\nI/\(True/\(s9 a t o)/\True/\(tc p)/\True/\(c+ay n (nS (gS x y0))=c+ay n (nS (gS x y0))/\True)
 /\(nI/\True)/\True)/\tV n o (nS (gS x y1)) (c+ay n (nS (gS x y0)))/\aM (FC n p a t o) Rx ([j7 n p a t o (nS (gS x y0)) c].length+[j7 n p a t o (nS (gS x y1)) (c+
 ay n (nS (gS x y0)))].length)/\aa z2/\SD (z2<(ln (Rose.aN x))) ((IR z2 (Rose.aN x))/\nI/\(True/\(s9 a t o)/\True/\(tc p)/\True/\(c+ay n (nS (gS x
 y0))+ay n (nS (gS x y1))=c+ay n (nS (gS x y0))+ay n (nS (gS x y1))/\True)/\(nI/\True)/\True)/\tV n o (nS (gS x y2)) (c+ay n (nS (gS x y0))+ay
 n (nS (gS x y1)))/\aM (FC n p a t o) Rx (([j7 n p a t o (nS (gS x y0)) c]++[j7 n p a t o (nS (gS x y1)) (c+ay n (nS (gS x y0)))]).length+[j7 n p a t o (nS (gS x y2))
 (c+ay n (nS (gS x y0))+ay n (nS (gS x y1)))].length)/\aa z3/\False) (Rose.node (Hf x) ([j7 n p a t o (nS (gS x y0)) c]++[j7 n p a t o (nS (gS x y1)) (c+
 ay n (nS (gS x y0)))])=xp n p a t o x c/\(True/\(s9 a t o)/\True/\(tc p)/\True/\(c+ay n (nS (gS x y0))+ay n (nS (gS x y1))=c+cH n x/\True)/\
 (nI/\True)/\True)/\True)) (Rose.node (Hf x) [j7 n p a t o (nS (gS x y0)) c]=xp n p a t o x c/\(True/\(s9 a t o)/\True/\(tc p)/\True/\(c+ay n (nS (gS x
 y0))=c+cH n x/\True)/\(nI/\True)/\True)/\True)) (Rose.node (Hf x) yH=xp n p a t o x c/\(True/\(s9 a t o)/\True/\(tc p)/\True/\(c=c+
 cH n x/\True)/\(nI/\True)/\True)/\True))
theorem qf3(n:Nat)(p a t:Int)(o:List Int)(x:Sp)(c:Int):wR (FC n p a t o) 8 116 (qhx n p a t o) x c=(SD (z0<(ln (Rose.aN x))) (SL x c n p a t o) (SP
 (!decide (c=p)) (SL x c n p a t o) (o.length<=(1000000:Nat)/\decide ((ln (Rose.aN x))=z0)=true/\aa (c+z1)/\Rose.node ((a,t,()),eI,()) [x,Rose.node ((z0,z0,()),
 o,()) yH]=xp n p a t o x c/\(True/\(s9 a t o)/\True/\(tc p)/\True/\(c+z1=c+cH n x/\True)/\(nI/\True)/\True)/\True))):=by kernel_rfl
abbrev Hg(d:Dv):=(d.1,d.2.1,Rose.node (((Rose.val d.2.2.1).1.1,(Rose.val d.2.2.1).1.2.1,()),(Rose.val d.2.2.1).2.1,()) (Rose.aN d.2.2.1),())
theorem qj8(n:Nat)(d:Dv)(p a t:Int)(o:List Int):aW (FCc n p a t o) 8 23 (Mz n) (d,p,a,t,o)=(pX n d/\SD (p<z0) (((Hg d),z5)=gM n d p a t o) (SD
 ((ln (aq n d))<=p) (((Hg d),z5)=gM n d p a t o) ((IR p (aq n d))/\jf ((aq n d).getD p.toNat ((eI,eI,()),eI,())).1/\SP (!fy ((aq n d).getD p.toNat
 ((eI,eI,()),eI,())).1 a t) (((Hg d),z1)=gM n d p a t o) (True/\SP (!eB o) (((Hg d),z1)=gM n d p a t o) (SD (j9<=(ln (aq n d))) (((Hg d),z2)=gM n
 d p a t o) (SD ((1073741824:Int)<=d.2.1) (((Hg d),z2)=gM n d p a t o) (aa (d.2.1+z1)/\(True/\True/\True/\True)/\(True/\((a=a/\t=t/\o=o/\True)/\True)/\True
 /\((p=p/\True/\True)/\True)/\True/\(z0=z0/\True)/\((True/\True/\True/\True)/\True)/\True)/\tV n o d.2.2.1 z0/\((d.1,d.2.1+z1,Rose.node (((Rose.val (j7 n p a t o
 d.2.2.1 z0)).1.1,(Rose.val (j7 n p a t o d.2.2.1 z0)).1.2.1,()),(Rose.val (j7 n p a t o d.2.2.1 z0)).2.1,()) (Rose.aN (j7 n p a t o d.2.2.1 z0)),()),z0)=gM n d p a t
 o))))))):=by kernel_rfl
end Go.Proofs.YtobfmplofoofkaaGreatDoor
namespace Go.PL
open Go.AM
theorem eta(x:Sp):Rose.node ((x.val.fst.fst,x.val.fst.snd.fst,()),x.val.snd.fst,()) x.aN=x:=by cases x;rfl
theorem qf4(y:Sp):nS y=y:=eta y
theorem Hh{n:Nat}{p a t:Int}{o:List Int}{x:Sp}{c:Int}(h:x.aN.length=0):xp n p a t o x c=if c=p then SJ a t o x else x:=by
 unfold xp j7;rw[if_pos h]
theorem Hi{n:Nat}{p a t:Int}{o:List Int}{x:Sp}{c:Int}(h:x.aN.length=2):xp n p a t o x c= .node x.val [j7 n p a t o (aF x 0) c,j7 n p a t o (aF x 1) (c+ay n (aF x 0))]:=by
 unfold xp;conv=>lhs;unfold j7
 rw[if_neg (by omega)]
theorem jz{n:Nat}{x:Sp}(h:x.aN.length=0):cH n x=1:=by
 unfold cH ay;rw[if_pos h]
theorem fT{n:Nat}{x:Sp}(h:x.aN.length=2):cH n x=ay n (aF x 0)+ay n (aF x 1):=by
 unfold cH;conv=>lhs;unfold ay
 rw[if_neg (by omega)]
theorem dH:∀{n:Nat} {x:Sp},SI n x->1<=ay n x
 |0,x,h=>h.elim
 |n+1,x,h=>by
  have e:ay (n+1) x=cH n x:=rfl;rcases h with h|⟨h,h0,h1⟩
  ·rw[e,jz h];omega
  ·rw[e,fT h];have:=dH h0
   have:=dH h1
   omega
theorem Ce{n:Nat}{x:Sp}{c:Int}(h:vh (n+1) x c)(hl:x.aN.length=2):vh n (aF x 0) c/\vh n (aF x 1) (c+ay n (aF x 0)):=by
 obtain⟨h1,h2,h3⟩:=h;have e:ay (n+1) x=cH n x:=rfl;rw[e,fT hl]at h3;rcases h1 with h1|⟨_,b0,b1⟩
 ·omega
 ·have:=dH b0
  have:=dH b1
  exact⟨⟨b0,h2,by omega⟩,b1,by omega,by omega⟩
theorem qw:∀{n:Nat} {x:Sp} {b:dQ},dD n x b->SI n x
 |0,x,b,h=>h.elim
 |n+1,x,b,.inl h=>.inl (jg.1 h).1
 |n+1,x,b,.inr ⟨h1,h2,h3,h4⟩=>.inr ⟨(eJ.1 h2).1,qw h3,qw h4⟩
theorem fU:∀{n:Nat} {x:Sp} {b:dQ},dD n x b->ay n x=(bK n x b).length
 |0,x,b,h=>h.elim
 |n+1,x,b,.inl h=>by
  rw[gi h];exact jz (jg.1 h).1
 |n+1,x,b,.inr ⟨h1,h2,h3,h4⟩=>by
  rw[iG h1 h2,Wad];have e:ay (n+1) x=cH n x:=rfl;rw[e,fT (eJ.1 h2).1,fU h3,fU h4];omega
theorem Cf{n:Nat}{d:Dv}(g:GoodN n d):vh n d.2.2.1 0:=⟨qw g.val,by omega,by rw[fU g.val];have:=g.Iw;omega⟩
end Go.PL
namespace Go.Proofs.YtobfmplofoofkaaGreatDoor
open Go.AM Go.PL
attribute [local irreducible] aW cz mQ wR
theorem SO:Tryz.prog.bytesOf 37=64:=by kernel_rfl
theorem J2{C:Ctx}{n:Nat}(hb:C.P.bytesOf 37=64)(h:n<=1000000):aM C 37 n:=by
 unfold aM;rw[hb];omega
theorem PD:∀(n:Nat) (p a t:Int) (o:List Int),E3 Tryz.prog 116 (qj7 n p a t o)
 |0,p,a,t,o=>fun B w0 Ψ β w x y args caps hsh hi ha hcp hp=>hp.1.1.elim
 |n+1,p,a,t,o=>by
  have ss:au (FC n p a t o):=jv ⟨nh.jd,trivial⟩ trivial trivial ⟨PD n p a t o,trivial⟩;have h:E3 Tryz.prog 116 (qhx n p a t o):=BF ss 8 _ _ fun (x:Sp) (c:Int) hk hp=>by
   obtain⟨hp,ho⟩:vh (n+1) x c/\o.length<=1000000:=hp
   refine (qf3 n p a t o x c).mpr ?_;delta yH nI s9 tc Hf SL IR SD SP eI ln y0 y1 y2 Rx z0 z1 z2 z3
   have hb:(FC n p a t o).P.bytesOf 37=64:=SO;have e0:gS x 0=aF x 0:=rfl;have e1:gS x 1=aF x 1:=rfl;have i1:aa 1:=bP (by omega) (by omega)
   have i2:aa 2:=bP (by omega) (by omega)
   have hc:aa (c+1):=by
    have:=dH hp.1
    have:=hp.2
    exact bP (by omega) (by omega)
   have r1:aM (FC n p a t o) 37 (0+1):=J2 hb (by omega)
   have r2:aM (FC n p a t o) 37 (0+1+(0+1)):=J2 hb (by omega)
   simp only[qf4,e0,e1,Wae,WaB];rcases hp.1 with hl|⟨hl,b0,b1⟩
   ·have d1:decide ((0:Int)<(x.aN.length:Int))=false:=decide_eq_false (by omega)
    have d2:decide ((x.aN.length:Int)=0)=true:=decide_eq_true (by omega)
    simp only[d1,d2,Hh hl,jz hl,hc,ho,WaG,false_implies,true_implies,reduceCtorEq,and_true,true_and,WaU,Bool.not_eq_false'];exact⟨fun h=>by rw[if_neg (df h)],fun h=>by rw[if_pos (dt h)];rfl⟩
   ·obtain⟨q0,q1⟩:=Ce hp hl;have d2:decide ((x.aN.length:Int)=0)=false:=decide_eq_false (by omega)
    have d4:decide ((2:Int)<(x.aN.length:Int))=false:=decide_eq_false (by omega)
    have g0:tV n o (aF x 0) c:=⟨q0,ho⟩;have g1:tV n o (aF x 1) (c+ay n (aF x 0)):=⟨q1,ho⟩;have k0:(0:Int)<=0/\(0:Int)<(x.aN.length:Int):=⟨by omega,by omega⟩
    have k1:(0:Int)<=1/\(1:Int)<(x.aN.length:Int):=⟨by omega,by omega⟩
    simp only[d2,d4,Hi hl,fT hl,g0,g1,k0,k1,i1,i2,r1,r2,WaG,false_implies,true_implies,and_true,true_and,and_self,WaP,WaY,decide_true,Wbt,Int.add_assoc]
  exact h
theorem PE(n:Nat):Sat Tryz.prog 23 (Mz n):=OH (m:=8) fun (x:Dv×Int×Int×Int×List Int) hk hp=>by
 obtain⟨d,p,a,t,o⟩:=x;have g:GoodN n d:=hp;refine⟨FCc n p a t o,rfl,jv ⟨mD n,Pt,u7,nh.jd,trivial⟩ trivial trivial ⟨PD n p a t o,trivial⟩,(qj8 n d p a t o).mpr ?_⟩;delta Hg IR SD SP eI ln z0 z1 z2 z5 j9
 have ed:((d.fst,d.snd.fst,d.snd.snd.fst,()):Dv)=d:=rfl;simp only[eta,ed];refine⟨g.pre,fun c=>?_,fun c=>⟨fun c1=>?_,fun c1=>?_⟩⟩
 ·unfold gM;rw[if_pos (.inl (dt c))]
 ·unfold gM;rw[if_pos (.inr (dt c1))]
 ·have c:=df c;have c1:=df c1;have uw:p.toNat<(aq n d).length:=by omega
  have he:jf ((aq n d).getD p.toNat AU).1:=by
   have:=rH (g.sub uw).1.1
   exact⟨this.2.2.symm,by omega⟩
  have r1:gM n d p a t o=if fy ((aq n d).getD p.toNat AU).1 a t=false\/eB o=false then (d,1) else if 64<=(aq n d).length then (d,2) else
   if (1073741824:Int)<=d.2.1 then (d,2) else ((d.1,d.2.1+1,j7 n p a t o d.2.2.1 0,()),0):=by
   unfold gM;rw[if_neg (by omega)]
  rw[r1];have hw:=Cf g;refine⟨⟨by omega,by omega⟩,he,fun c2=>?_,fun c2=>⟨trivial,fun c3=>?_,fun c3=>?_⟩⟩
  ·rw[if_pos (.inl (nt c2))]
  ·rw[if_pos (.inr (nt c3))]
  ·have hn:¬(fy ((aq n d).getD p.toNat AU).1 a t=false\/eB o=false):=by
    rintro (h|h)
    ·have:=nf c2;rw[h]at this;cases this
    ·have:=nf c3;rw[h]at this;cases this
   rw[if_neg hn];refine⟨fun c4=>by rw[if_pos (by have:=dt c4;omega)],fun c4=>?_⟩
   rw[if_neg (by have:=df c4;omega)]
   have gl:eB o=true:=nf c3;obtain⟨v1,v2⟩:(-9223372036854775808:Int)<=d.2.1/\d.2.1<=9223372036854775807:=hk.1.2.1
   refine⟨fun c5=>by rw[if_pos (dt c5)],fun c5=>?_⟩
   have c5:=df c5;rw[if_neg c5];have ho:=(fj.1 gl).2.2;have hi:aa (d.2.1+1):=by unfold aa;omega
   have hpre:tV n o d.2.2.1 0:=⟨hw,by omega⟩
   exact⟨hi,⟨trivial,trivial,trivial,trivial⟩,by simp only[and_self],hpre,rfl⟩
end Go.Proofs.YtobfmplofoofkaaGreatDoor
namespace Go.PL
open Go.AM
def fV:Nat->Int->List Int->Sp->Int->Sp
 |0,_,_,x,_=>x
 |n+1,p,o,x,c=>if x.aN.length=0 then (if c=p then qv o else x) else
  .node x.val [fV n p o (aF x 0) c,fV n p o (aF x 1) (c+ay n (aF x 0))]
def qO(n:Nat)(p:Int)(o:List Int)(x:Sp)(c:Int):Sp:=fV (n+1) p o x c
def iW(n:Nat)(d:Dv)(p:Int)(o:List Int):Dv×Int:=
 if p<0\/((aq n d).length:Int)<=p then (d,5) else if eB o=false then (d,1) else
 if (1073741824:Int)<=d.2.1 then (d,2) else ((d.1,d.2.1+1,fV n p o d.2.2.1 0,()),0)
end Go.PL
namespace Go.Proofs.YtobfmplofoofkaaGreatDoor
open Go.AM Go.PL
def qnk(p:Int)(o:List Int)(c:Int):List aB:=
 [.gone,.cells [.fn 80 [.rp L o]],.gone,.cells [.fn 109 [.rp I p,.own 1 0]],.gone,.cells [.d I c],.cells [.fn 116 [.own 5 0,.own 3 0,.own 6 0]]]
def qcF(n:Nat)(p:Int)(o:List Int):kZ:=⟨[ST],[ST],[.cell 5 0 I],[.own 5 0,.own 3 0,.own 6 0],fun c=>qnk p o c,fun x c=>tV n o x c,fun x c=>fV n p o x c,fun x c=>(fun e:Int=>e+ay n x) c⟩
def qcG(n:Nat)(p:Int)(o:List Int):kZ:=⟨[ST],[ST],[.cell 5 0 I],[.own 5 0,.own 3 0,.own 6 0],fun c=>qnk p o c,fun x c=>tV (n+1) o x c,fun x c=>qO n p o x c,fun x c=>(fun e:Int=>e+cH n x) c⟩
noncomputable def FG(n:Nat)(p:Int)(o:List Int):Ctx:=x9 bsF [(39,Iu.data)] [] [] [(116,qcF n p o)] qcD
def MA(n:Nat):aJ:=⟨[DV,I,L],[DV,I],fun x=>GoodN n x.1,fun x=>iW n x.1 x.2.1 x.2.2⟩
noncomputable def FGc(n:Nat)(p:Int)(o:List Int):Ctx:=x9 bsF [(9,pY n),(58,yA),(39,Iu.data)] [] [] [(116,qcF n p o)] qcE
abbrev vi:List (Rose ((Int×Int×Unit)×List Int×Unit)):=[]
abbrev kf:=True/\True/\True/\True
abbrev ot(p:Int):=(p=p/\True/\True)/\True
abbrev Au(x:Sp):=(((Rose.val x).1.1,(Rose.val x).1.2.1,()),(Rose.val x).2.1,())
abbrev MB(x:Sp)(c:Int)(n:Nat)(p:Int)(o:List Int):=SD ((ln (Rose.aN x))=z0) (aa (c+z1)/\Rose.node (Au x) (Rose.aN x)=qO n p o x c/\(True/\((o=
 o/\True)/\True)/\True/\(ot p)/\True/\(c+z1=c+cH n x/\True)/\(kf/\True)/\True)/\True) (SD (z0<(ln (Rose.aN x))) ((IR z0 (Rose.aN x))/\kf/\(True/\
 ((o=o/\True)/\True)/\True/\(ot p)/\True/\(c=c/\True)/\(kf/\True)/\True)/\tV n o (nS (gS x y0)) c/\aM (FG n p o) Rx [fV n p o (nS (gS x y0)) c].length/\
 aa z1/\SD (z1<(ln (Rose.aN x))) ((IR z1 (Rose.aN x))/\kf/\(True/\((o=o/\True)/\True)/\True/\(ot p)/\True/\(c+ay n (nS (gS x y0))=c+ay n (nS
 (gS x y0))/\True)/\(kf/\True)/\True)/\tV n o (nS (gS x y1)) (c+ay n (nS (gS x y0)))/\aM (FG n p o) Rx ([fV n p o (nS (gS x y0)) c].length+[fV n p o (nS (gS x
 y1)) (c+ay n (nS (gS x y0)))].length)/\aa z2/\SD (z2<(ln (Rose.aN x))) ((IR z2 (Rose.aN x))/\kf/\(True/\((o=o/\True)/\True)/\True/\(ot p)/\True/\(c+
 ay n (nS (gS x y0))+ay n (nS (gS x y1))=c+ay n (nS (gS x y0))+ay n (nS (gS x y1))/\True)/\(kf/\True)/\True)/\tV n o (nS (gS x y2)) (c+ay n (nS
 (gS x y0))+ay n (nS (gS x y1)))/\aM (FG n p o) Rx (([fV n p o (nS (gS x y0)) c]++[fV n p o (nS (gS x y1)) (c+ay n (nS (gS x y0)))]).length+[fV n p o (nS (gS
 x y2)) (c+ay n (nS (gS x y0))+ay n (nS (gS x y1)))].length)/\aa z3/\False) (Rose.node (Au x) ([fV n p o (nS (gS x y0)) c]++[fV n p o (nS (gS x y1)) (c+
 ay n (nS (gS x y0)))])=qO n p o x c/\(True/\((o=o/\True)/\True)/\True/\(ot p)/\True/\(c+ay n (nS (gS x y0))+ay n (nS (gS x y1))=c+cH n x/\
 True)/\(kf/\True)/\True)/\True)) (Rose.node (Au x) [fV n p o (nS (gS x y0)) c]=qO n p o x c/\(True/\((o=o/\True)/\True)/\True/\(ot p)/\True/\(c+
 ay n (nS (gS x y0))=c+cH n x/\True)/\(kf/\True)/\True)/\True)) (Rose.node (Au x) vi=qO n p o x c/\(True/\((o=o/\True)/\True)/\True/\
 (ot p)/\True/\(c=c+cH n x/\True)/\(kf/\True)/\True)/\True))
theorem qcH(n:Nat)(p:Int)(o:List Int)(x:Sp)(c:Int):wR (FG n p o) 8 116 (qcG n p o) x c=(SD (z0<(ln (Rose.aN x))) (MB x c n p o) (SP (!decide (c=p))
 (MB x c n p o) (o.length<=(1000000:Nat)/\decide ((ln (Rose.aN x))=z0)=true/\aa (c+z1)/\Rose.node ((z0,z0,()),o,()) vi=qO n p o x c/\(True/\((o=o
 /\True)/\True)/\True/\(ot p)/\True/\(c+z1=c+cH n x/\True)/\(kf/\True)/\True)/\True))):=by kernel_rfl
abbrev Hj(d:Dv):=(d.1,d.2.1,Rose.node (((Rose.val d.2.2.1).1.1,(Rose.val d.2.2.1).1.2.1,()),(Rose.val d.2.2.1).2.1,()) (Rose.aN d.2.2.1),())
theorem qf5(n:Nat)(d:Dv)(p:Int)(o:List Int):aW (FGc n p o) 8 35 (MA n) (d,p,o)=(SD (p<z0) (((Hj d),z5)=iW n d p o) (pX n d/\SD ((ln (aq n
 d))<=p) (((Hj d),z5)=iW n d p o) (True/\SP (!eB o) (((Hj d),z1)=iW n d p o) (SD ((1073741824:Int)<=d.2.1) (((Hj d),z2)=iW n d p o) (aa (d.2.1
 +z1)/\(True/\True/\True/\True)/\(True/\((o=o/\True)/\True)/\True/\((p=p/\True/\True)/\True)/\True/\(z0=z0/\True)/\((True/\True/\True/\True)/\True)/\True)/\tV
 n o d.2.2.1 z0/\((d.1,d.2.1+z1,Rose.node (((Rose.val (fV n p o d.2.2.1 z0)).1.1,(Rose.val (fV n p o d.2.2.1 z0)).1.2.1,()),(Rose.val (fV n p o d.2.2.1 z0)).2.1,())
 (Rose.aN (fV n p o d.2.2.1 z0)),()),z0)=iW n d p o))))):=by kernel_rfl
end Go.Proofs.YtobfmplofoofkaaGreatDoor
namespace Go.PL
open Go.AM
theorem Dm{n:Nat}{p:Int}{o:List Int}{x:Sp}{c:Int}(h:x.aN.length=0):qO n p o x c=if c=p then qv o else x:=by
 unfold qO fV;rw[if_pos h]
theorem Dn{n:Nat}{p:Int}{o:List Int}{x:Sp}{c:Int}(h:x.aN.length=2):qO n p o x c= .node x.val [fV n p o (aF x 0) c,fV n p o (aF x 1) (c+ay n (aF x 0))]:=by
 unfold qO;conv=>lhs;unfold fV
 rw[if_neg (by omega)]
end Go.PL
namespace Go.Proofs.YtobfmplofoofkaaGreatDoor
open Go.AM Go.PL
attribute [local irreducible] aW cz mQ wR
theorem J3:∀(n:Nat) (p:Int) (o:List Int),E3 Tryz.prog 116 (qcF n p o)
 |0,p,o=>fun B w0 Ψ β w x y args caps hsh hi ha hcp hp=>hp.1.1.elim
 |n+1,p,o=>by
  have ss:au (FG n p o):=jv ⟨nh.jd,trivial⟩ trivial trivial ⟨J3 n p o,trivial⟩;have h:E3 Tryz.prog 116 (qcG n p o):=BF ss 8 _ _ fun (x:Sp) (c:Int) hk hp=>by
   obtain⟨hp,ho⟩:vh (n+1) x c/\o.length<=1000000:=hp
   refine (qcH n p o x c).mpr ?_;delta vi kf ot Au MB IR SD SP ln y0 y1 y2 Rx z0 z1 z2 z3
   have hb:(FG n p o).P.bytesOf 37=64:=SO;have e0:gS x 0=aF x 0:=rfl;have e1:gS x 1=aF x 1:=rfl;have i1:aa 1:=bP (by omega) (by omega)
   have i2:aa 2:=bP (by omega) (by omega)
   have hc:aa (c+1):=by
    have:=dH hp.1
    have:=hp.2
    exact bP (by omega) (by omega)
   have r1:aM (FG n p o) 37 (0+1):=J2 hb (by omega)
   have r2:aM (FG n p o) 37 (0+1+(0+1)):=J2 hb (by omega)
   simp only[qf4,e0,e1,Wae,WaB];rcases hp.1 with hl|⟨hl,b0,b1⟩
   ·have d1:decide ((0:Int)<(x.aN.length:Int))=false:=decide_eq_false (by omega)
    have d2:decide ((x.aN.length:Int)=0)=true:=decide_eq_true (by omega)
    simp only[d1,d2,Dm hl,jz hl,hc,ho,WaG,false_implies,true_implies,reduceCtorEq,and_true,true_and,WaU,Bool.not_eq_false'];exact⟨fun h=>by rw[if_neg (df h)],fun h=>by rw[if_pos (dt h)];rfl⟩
   ·obtain⟨q0,q1⟩:=Ce hp hl;have d2:decide ((x.aN.length:Int)=0)=false:=decide_eq_false (by omega)
    have d4:decide ((2:Int)<(x.aN.length:Int))=false:=decide_eq_false (by omega)
    have g0:tV n o (aF x 0) c:=⟨q0,ho⟩;have g1:tV n o (aF x 1) (c+ay n (aF x 0)):=⟨q1,ho⟩;have k0:(0:Int)<=0/\(0:Int)<(x.aN.length:Int):=⟨by omega,by omega⟩
    have k1:(0:Int)<=1/\(1:Int)<(x.aN.length:Int):=⟨by omega,by omega⟩
    simp only[d2,d4,Dn hl,fT hl,g0,g1,k0,k1,i1,i2,r1,r2,WaG,false_implies,true_implies,and_true,true_and,and_self,WaP,WaY,decide_true,Wbt,Int.add_assoc]
  exact h
theorem Xx(n:Nat):Sat Tryz.prog 35 (MA n):=OH (m:=8) fun (x:Dv×Int×List Int) hk hp=>by
 obtain⟨d,p,o⟩:=x;have g:GoodN n d:=hp;refine⟨FGc n p o,rfl,jv ⟨mD n,u7,nh.jd,trivial⟩ trivial trivial ⟨J3 n p o,trivial⟩,(qf5 n d p o).mpr ?_⟩;delta Hj SD SP ln z0 z1 z2 z5
 have ed:((d.fst,d.snd.fst,d.snd.snd.fst,()):Dv)=d:=rfl;simp only[eta,ed];refine⟨fun c=>?_,fun c=>⟨g.pre,fun c1=>?_,fun c1=>?_⟩⟩
 ·unfold iW;rw[if_pos (.inl (dt c))]
 ·unfold iW;rw[if_pos (.inr (dt c1))]
 ·have c:=df c;have c1:=df c1;have r1:iW n d p o=if eB o=false then (d,1) else if (1073741824:Int)<=d.2.1 then (d,2) else ((d.1,d.2.1+1,fV n p o d.2.2.1 0,()),0):=by
   unfold iW;rw[if_neg (by omega)]
  rw[r1];have hw:=Cf g;refine⟨trivial,fun c3=>by rw[if_pos (nt c3)],fun c3=>?_⟩
  have gl:eB o=true:=nf c3;rw[if_neg (by rw[gl];simp)]
  obtain⟨v1,v2⟩:(-9223372036854775808:Int)<=d.2.1/\d.2.1<=9223372036854775807:=hk.1.2.1
  refine⟨fun c5=>by rw[if_pos (dt c5)],fun c5=>?_⟩
  have c5:=df c5;rw[if_neg c5];have ho:=(fj.1 gl).2.2;have hi:aa (d.2.1+1):=by unfold aa;omega
  have hpre:tV n o d.2.2.1 0:=⟨hw,by omega⟩
  exact⟨hi,⟨trivial,trivial,trivial,trivial⟩,by simp only[and_self],hpre,rfl⟩
end Go.Proofs.YtobfmplofoofkaaGreatDoor
namespace Go.PL
open Go.AM
def nJ(x:Sp):List Sp:=if x.aN.length=0 then [x] else [aF x 0,aF x 1]
def UR(x:Sp):Prop:=x.aN.length=0
def qf6(x:Sp):Prop:=x.aN.length=0\/(x.aN.length=2/\(aF x 0).aN.length=0/\(aF x 1).aN.length=0)
end Go.PL
namespace Go.Proofs.YtobfmplofoofkaaGreatDoor
open Go.AM Go.PL
def EA:jC:=⟨[ST],[ST],fun x=>UR x,fun x=>[x]⟩
def qx:jC:=⟨[ST],[ST],fun x=>qf6 x,fun x=>nJ x⟩
def qj9(f:FuncId):Hint:=⟨fun _=>[],fun _=>.split,fun t=>bif Nat.beq f 140&&Nat.beq t 9 then .yes else .split,fun r=>0⟩
def qka(f:FuncId):Hint:=⟨fun _=>[],fun _=>.split,fun _=>.split,fun r=>bif Nat.beq f 140&&Nat.beq r 4 then 3 else 0⟩
noncomputable def FP1:Ctx:=bA bs [] [] qj9
noncomputable def FP2:Ctx:=Ge bs [] [] [(140,EA)] qka
theorem Xy(x:Sp):mQ FP1 6 140 EA x=(∀(Y:fM EA.ys) (own:Nat->Prop),Y.2=[x]->decide ((↑(Rose.aN x).length:Int)=(0:Int))=true/\(∃
 (rest:List (Rose ((I.pair (I.pair Ty.unit)).den×(L.pair Ty.unit).den))),Y.2=[]++x::rest)/\∀(own:Nat->Prop),((∃(bT:Nat->Prop),aB.log [ST] Y own ([]++
 [x])=aB.log [ST] Y bT [x])\/∃(bT:Nat->Prop),aB.log [ST] Y own ([]++[x])=aB.kV [ST] Y bT)/\((∃(bT:Nat->Prop),aB.kV [ST] Y own=aB.log [ST] Y bT
 [x])\/∃(bT:Nat->Prop),aB.kV [ST] Y own=aB.kV [ST] Y bT)):=by kernel_rfl
abbrev jA:Type:=List (Rose ((TI.pair (TI.pair Ty.unit)).den×(L.pair Ty.unit).den))
abbrev tf:Type:=Rose ((TI.pair (TI.pair Ty.unit)).den×(L.pair Ty.unit).den)
abbrev tg:Type:=List (Rose ((TI.pair (TI.pair Ty.unit)).den×(L.pair Ty.unit).den))->List (Rose ((TI.pair (TI.pair Ty.unit)).den×(L.pair Ty.unit).den))->Unit->Prop
abbrev ou:List Sp:=[]
abbrev ov:List (tY [ST]).den:=[]
abbrev th:List (Rose ((TI.pair (TI.pair Ty.unit)).den×(L.pair Ty.unit).den)):=[]
abbrev vj(Y:fM qx.ys)(own:Nat->Prop)(x:Sp):=((∃(bT:Nat->Prop),aB.kV [ST] Y own=aB.log [ST] Y bT (nJ x))\/∃(bT:Nat->Prop),aB.kV [ST] Y
 own=aB.kV [ST] Y bT)
abbrev Av(rest:jA)(Y:fM qx.ys)(z:jA)(y:tf):=(∃(rest:List (Rose ((TI.pair (TI.pair Ty.unit)).den×(L.pair Ty.unit).den))),
 Y.items=z++Rose.node ((y.val.1.1,y.val.1.2.1,()),y.val.2.1,()) y.aN::rest)
abbrev Hl(Y:fM qx.ys)(own:Nat->Prop)(z:jA)(y:tf)(I:tg)(xs:jA):=(∃(pS:Nat->Prop),∃(Pu:List (Rose
 ((TI.pair (TI.pair Ty.unit)).den×(L.pair Ty.unit).den))),aB.log [ST] Y own (z++[Rose.node ((y.val.1.1,y.val.1.2.1,()),y.val.2.1,()) y.aN])=aB.log [ST] Y pS Pu/\I (xs++
 [y]) Pu ())
abbrev Ho(Y:fM qx.ys)(own:Nat->Prop)(z:jA)(I:tg):=(∃(pS:Nat->Prop),∃(Pu:List (Rose ((TI.pair (TI.pair Ty.unit)).den×(L.pair
 Ty.unit).den))),aB.log [ST] Y own z=aB.log [ST] Y pS Pu/\I th Pu ())
theorem Xz(x:Sp):mQ FP2 6 140 qx x=(∀(Y:fM qx.ys) (own:Nat->Prop),Y.items=nJ x->SD ((ln (Rose.aN x))=z0) ((∃(rest:List (Rose ((I.pair
 (I.pair Ty.unit)).den×(L.pair Ty.unit).den))),Y.items=ou++x::rest)/\∀(own:Nat->Prop),((∃(bT:Nat->Prop),aB.log [ST] Y own (ou++[x])=aB.log
 [ST] Y bT (nJ x))\/∃(bT:Nat->Prop),aB.log [ST] Y own (ou++[x])=aB.kV [ST] Y bT)/\(vj Y own x)) (SD (z0<(ln (Rose.aN x))) ((IR z0 (Rose.aN x))/\
 UR (nS (gS x y0))/\∃(I:List (Rose ((I.pair (I.pair Ty.unit)).den×(L.pair Ty.unit).den))->List (Rose ((I.pair (I.pair Ty.unit)).den×(L.pair Ty.unit).den))->Unit->Prop),(∃
 (pS:Nat->Prop),∃(z:List (Rose ((TI.pair (TI.pair Ty.unit)).den×(L.pair Ty.unit).den))),aB.log [ST] Y own ov=aB.log [ST] Y pS z/\I th z ())/\(∀(xs
 :List (Rose ((TI.pair (TI.pair Ty.unit)).den×(L.pair Ty.unit).den))) (y:Rose ((TI.pair (TI.pair Ty.unit)).den×(L.pair Ty.unit).den)) (rest:List (Rose ((TI.pair (TI.pair
 Ty.unit)).den×(L.pair Ty.unit).den))),[nS (gS x y0)]=xs++y::rest->∀(own:Nat->Prop) (z:List (Rose ((TI.pair (TI.pair Ty.unit)).den×(L.pair Ty.unit).den))) (v:Unit),I xs
 z v->(Av rest Y z y)/\∀(own:Nat->Prop),(∃(pS:Nat->Prop),∃(Pu:List (Rose ((TI.pair (TI.pair Ty.unit)).den×(L.pair Ty.unit).den))),aB.log [ST] Y own (z++
 [Rose.node ((y.val.1.1,y.val.1.2.1,()),y.val.2.1,()) y.aN])=aB.log [ST] Y pS Pu/\I (xs++[y]) Pu ())/\(vj Y own x))/\∀(own:Nat->Prop) (z:List (Rose ((TI.pair
 (TI.pair Ty.unit)).den×(L.pair Ty.unit).den))) (v:Unit),I [nS (gS x y0)] z v->aa z1/\SD (z1<(ln (Rose.aN x))) ((IR z1 (Rose.aN x))/\UR (nS (gS x y1))/\∃(I:List (Rose
 ((TI.pair (TI.pair Ty.unit)).den×(L.pair Ty.unit).den))->List (Rose ((TI.pair (TI.pair Ty.unit)).den×(L.pair Ty.unit).den))->Unit->Prop),(Ho Y own z I)/\(∀(xs:List (Rose
 ((TI.pair (TI.pair Ty.unit)).den×(L.pair Ty.unit).den))) (y:Rose ((TI.pair (TI.pair Ty.unit)).den×(L.pair Ty.unit).den)) (rest:List (Rose ((TI.pair (TI.pair Ty.unit)).den×(L.pair
 Ty.unit).den))),[nS (gS x y1)]=xs++y::rest->∀(own:Nat->Prop) (z:List (Rose ((TI.pair (TI.pair Ty.unit)).den×(L.pair Ty.unit).den))) (v:Unit),I xs z v->(Av rest Y z
 y)/\∀(own:Nat->Prop),(Hl Y own z y I xs)/\(vj Y own x))/\∀(own:Nat->Prop) (z:List (Rose ((TI.pair (TI.pair Ty.unit)).den×(L.pair Ty.unit).den))) (v:Unit),I
 [nS (gS x y1)] z v->aa z2/\SD (z2<(ln (Rose.aN x))) ((IR z2 (Rose.aN x))/\UR (nS (gS x y2))/\∃(I:List (Rose ((TI.pair (TI.pair Ty.unit)).den×(L.pair Ty.unit).den))->
 List (Rose ((TI.pair (TI.pair Ty.unit)).den×(L.pair Ty.unit).den))->Unit->Prop),(Ho Y own z I)/\(∀(xs:List (Rose ((TI.pair (TI.pair Ty.unit)).den×(L.pair Ty.unit).den))) (y
 :Rose ((TI.pair (TI.pair Ty.unit)).den×(L.pair Ty.unit).den)) (rest:List (Rose ((TI.pair (TI.pair Ty.unit)).den×(L.pair Ty.unit).den))),[nS (gS x y2)]=xs++y::rest->∀(own:
 Nat->Prop) (z:List (Rose ((TI.pair (TI.pair Ty.unit)).den×(L.pair Ty.unit).den))) (v:Unit),I xs z v->(Av rest Y z y)/\∀(own:Nat->Prop),(Hl Y own z y I xs)/\
 (vj Y own x))/\∀(own:Nat->Prop) (z:List (Rose ((TI.pair (TI.pair Ty.unit)).den×(L.pair Ty.unit).den))) (v:Unit),I [nS (gS x y2)] z v->aa z3/\False) ((∃(bT:Nat->
 Prop),aB.log [ST] Y own z=aB.log [ST] Y bT (nJ x))\/∃(bT:Nat->Prop),aB.log [ST] Y own z=aB.kV [ST] Y bT)) ((∃(bT:Nat->Prop),aB.log [ST] Y own z=aB.log
 [ST] Y bT (nJ x))\/∃(bT:Nat->Prop),aB.log [ST] Y own z=aB.kV [ST] Y bT)) ((∃(bT:Nat->Prop),aB.log [ST] Y own ov=aB.log [ST] Y bT (nJ x))\/∃
 (bT:Nat->Prop),aB.log [ST] Y own ov=aB.kV [ST] Y bT))):=by kernel_rfl
def qnl(y:Int×Bool×Int):List aB:=
 [.cells [.d I y.2.2],.gone,.cells [.fn 77 [.own 0 0]],.cells [.d .bool y.2.1],.cells [.fn 79 [.own 2 0,.own 3 0]],.gone,.cells [.d I y.1],.cells [.fn 116 [.own 6 0,.own 4 0,.own 7 0]]]
def qcI(n:Nat):kZ:=⟨[ST],[ST],[.cell 6 0 I,.cell 3 0 .bool,.cell 0 0 I],[.own 6 0,.own 4 0,.own 7 0],fun y=>qnl y,fun x y=>vh n x y.1,fun x y=>fB n y.2.2 x y.1,fun x y=>(fun z:Int×Bool×Int=>(z.1+ay n x,z.2.1||cZ n z.2.2 x z.1,z.2.2)) y⟩
def qcJ(n:Nat):kZ:=⟨[ST],[ST],[.cell 6 0 I,.cell 3 0 .bool,.cell 0 0 I],[.own 6 0,.own 4 0,.own 7 0],fun y=>qnl y,fun x y=>qng n x y.1,fun x y=>mE n y.2.2 x y.1,fun x y=>(fun z:Int×Bool×Int=>(z.1+cH n x,z.2.1||jy n z.2.2 x z.1,z.2.2)) y⟩
def qqm(f:FuncId)(r:Nat):List LA:=bif Nat.beq f 140 then [.cell 6 0 I,.cell 3 0 .bool,.cell 0 0 I,.cell 34 0 I,.cell 34 1 I,.cell 34 2 (.arr ST),.cell 34 3 L] else []
def qnm(f:FuncId):Hint:=if Nat.beq f 999999997 then⟨fun _=>[],fun _=>.split,fun _=>.split,fun _=>1⟩ else
 ⟨qqm f,fun r=>bif Nat.beq f 116&&Nat.beq r 15 then .all else .split,fun _=>.split,fun r=>bif Nat.beq f 116&&Nat.beq r 13 then 3 else 0⟩
noncomputable def FJ(n:Nat):Ctx:=x9 bs [] [] [(140,qx)] [(116,qcI n)] qnm
abbrev PF:Type:=List (Rose ((I.pair (I.pair Ty.unit)).den×(L.pair Ty.unit).den))->Unit->Int×Bool×Int×Int×Int×List (Rose ((I.pair (I.pair Ty.unit)).den×(L.pair
 Ty.unit).den))×List Int->Prop
abbrev PG:Type:=Int×Bool×Int×Int×Int×List (Rose ((TI.pair (TI.pair Ty.unit)).den×(L.pair Ty.unit).den))×List Int
abbrev vk:List (Rose ((Int×Int×Unit)×List Int×Unit)):=[]
abbrev Dp:List (Rose ((TI.pair (TI.pair Ty.unit)).den×(L.pair Ty.unit).den)):=[]
abbrev dM:=True/\True/\True/\True
abbrev gz:=(True/\True/\True)/\True
abbrev ox(x:Sp):=(((Rose.val x).1.1,(Rose.val x).1.2.1,()),(Rose.val x).2.1,())
abbrev Aw(n:Nat)(p:Int)(x:Sp)(c:Int):=[fB n p (nS (gS x y0)) c]++[fB n p (nS (gS x y1)) (c+ay n (nS (gS x y0)))]
abbrev EB(n:Nat)(p:Int)(x:Sp)(c:Int):=false||cZ n p (nS (gS x y0)) c||cZ n p (nS (gS x y1)) (c+ay n (nS (gS x y0)))
abbrev EC(n:Nat)(p:Int)(x:Sp)(c:Int):=true||cZ n p (nS (gS x y0)) c||cZ n p (nS (gS x y1)) (c+ay n (nS (gS x y0)))
abbrev Ax(c:Int)(n:Nat)(x:Sp):=c+ay n (nS (gS x y0))+ay n (nS (gS x y1))
abbrev MC(c:Int)(n:Nat)(x:Sp):=c+ay n (nS (gS x y0))+ay n (nS (gS x y1))=c+ay n (nS (gS x y0))+ay n (nS (gS x y1))/\True
abbrev ED(b:Bool)(x:Sp)(c:Int)(n:Nat)(p:Int):=SP b (SD ((ln (Rose.aN x))=z0) (aa (c+z1)/\Rose.node (ox x) (Rose.aN x)=mE n p x c/\((p=p/\
 True)/\True/\((True/\True)/\True)/\(true=(b||jy n p x c)/\True)/\gz/\True/\(c+z1=c+cH n x/\True)/\(dM/\True)/\True)/\True) (SD (z0<(ln
 (Rose.aN x))) ((IR z0 (Rose.aN x))/\dM/\((p=p/\True)/\True/\((True/\True)/\True)/\(true=true/\True)/\gz/\True/\(c=c/\True)/\(dM/\True)/\True)/\vh
 n (nS (gS x y0)) c/\aM (FJ n) Rx [fB n p (nS (gS x y0)) c].length/\aa z1/\SD (z1<(ln (Rose.aN x))) ((IR z1 (Rose.aN x))/\dM/\((p=p/\True)/\True/\((True/\
 True)/\True)/\((true||cZ n p (nS (gS x y0)) c)=(true||cZ n p (nS (gS x y0)) c)/\True)/\gz/\True/\(c+ay n (nS (gS x y0))=c+ay n (nS (gS x y0))/\
 True)/\(dM/\True)/\True)/\vh n (nS (gS x y1)) (c+ay n (nS (gS x y0)))/\aM (FJ n) Rx ([fB n p (nS (gS x y0)) c].length+[fB n p (nS (gS x y1)) (c+ay n
 (nS (gS x y0)))].length)/\aa z2/\SD (z2<(ln (Rose.aN x))) ((IR z2 (Rose.aN x))/\dM/\((p=p/\True)/\True/\((True/\True)/\True)/\((EC n p x c)=(EC n p x
 c)/\True)/\gz/\True/\(MC c n x)/\(dM/\True)/\True)/\vh n (nS (gS x y2)) (Ax c n x)/\aM (FJ n) Rx ((Aw n p x c).length+[fB n p (nS (gS x y2))
 (Ax c n x)].length)/\aa z3/\False) (Rose.node (ox x) (Aw n p x c)=mE n p x c/\((p=p/\True)/\True/\((True/\True)/\True)/\((EC n p x c)=(b||jy
 n p x c)/\True)/\gz/\True/\(c+ay n (nS (gS x y0))+ay n (nS (gS x y1))=c+cH n x/\True)/\(dM/\True)/\True)/\True)) (Rose.node (ox x) [fB n p
 (nS (gS x y0)) c]=mE n p x c/\((p=p/\True)/\True/\((True/\True)/\True)/\((true||cZ n p (nS (gS x y0)) c)=(b||jy n p x c)/\True)/\gz/\True/\(c+
 ay n (nS (gS x y0))=c+cH n x/\True)/\(dM/\True)/\True)/\True)) (Rose.node (ox x) vk=mE n p x c/\((p=p/\True)/\True/\((True/\True)/\True)
 /\(true=(b||jy n p x c)/\True)/\gz/\True/\(c=c+cH n x/\True)/\(dM/\True)/\True)/\True))) (SD ((ln (Rose.aN x))=z0) (aa (c+z1)/\Rose.node
 (ox x) (Rose.aN x)=mE n p x c/\((p=p/\True)/\True/\((True/\True)/\True)/\(false=(b||jy n p x c)/\True)/\gz/\True/\(c+z1=c+cH n x/\True)/\
 (dM/\True)/\True)/\True) (SD (z0<(ln (Rose.aN x))) ((IR z0 (Rose.aN x))/\dM/\((p=p/\True)/\True/\((True/\True)/\True)/\(false=false/\True)/\gz/\True/\
 (c=c/\True)/\(dM/\True)/\True)/\vh n (nS (gS x y0)) c/\aM (FJ n) Rx [fB n p (nS (gS x y0)) c].length/\aa z1/\SD (z1<(ln (Rose.aN x))) ((IR z1 (Rose.aN x))/\
 dM/\((p=p/\True)/\True/\((True/\True)/\True)/\((false||cZ n p (nS (gS x y0)) c)=(false||cZ n p (nS (gS x y0)) c)/\True)/\gz/\True/\(c+ay n (nS
 (gS x y0))=c+ay n (nS (gS x y0))/\True)/\(dM/\True)/\True)/\vh n (nS (gS x y1)) (c+ay n (nS (gS x y0)))/\aM (FJ n) Rx ([fB n p (nS (gS x y0)) c].length+
 [fB n p (nS (gS x y1)) (c+ay n (nS (gS x y0)))].length)/\aa z2/\SD (z2<(ln (Rose.aN x))) ((IR z2 (Rose.aN x))/\dM/\((p=p/\True)/\True/\((True/\True)/\
 True)/\((EB n p x c)=(EB n p x c)/\True)/\gz/\True/\(MC c n x)/\(dM/\True)/\True)/\vh n (nS (gS x y2)) (Ax c n x)/\aM (FJ n) Rx ((Aw n p
 x c).length+[fB n p (nS (gS x y2)) (Ax c n x)].length)/\aa z3/\False) (Rose.node (ox x) (Aw n p x c)=mE n p x c/\((p=p/\True)/\True/\((True/\True)/\
 True)/\((EB n p x c)=(b||jy n p x c)/\True)/\gz/\True/\(c+ay n (nS (gS x y0))+ay n (nS (gS x y1))=c+cH n x/\True)/\(dM/\True)/\True)
 /\True)) (Rose.node (ox x) [fB n p (nS (gS x y0)) c]=mE n p x c/\((p=p/\True)/\True/\((True/\True)/\True)/\((false||cZ n p (nS (gS x y0)) c)=(b||jy n p
 x c)/\True)/\gz/\True/\(c+ay n (nS (gS x y0))=c+cH n x/\True)/\(dM/\True)/\True)/\True)) (Rose.node (ox x) vk=mE n p x c/\((p=p/\
 True)/\True/\((True/\True)/\True)/\(false=(b||jy n p x c)/\True)/\gz/\True/\(c=c+cH n x/\True)/\(dM/\True)/\True)/\True)))
abbrev MD(x:Sp)(c p:Int)(n:Nat)(b:Bool):=(qf6 x/\∃(I:List (Rose ((I.pair (I.pair Ty.unit)).den×(L.pair Ty.unit).den))->Unit->Int×Bool×Int×Int×Int×List
 (Rose ((I.pair (I.pair Ty.unit)).den×(L.pair Ty.unit).den))×List Int->Prop),I Dp () (c,true,p,(Rose.val (gS x y0)).1.1,(Rose.val (gS x y0)).1.2.1,Rose.aN (gS x y0),
 (Rose.val (gS x y0)).2.1)/\(∀(xs:List (Rose ((TI.pair (TI.pair Ty.unit)).den×(L.pair Ty.unit).den))) (y:Rose ((TI.pair (TI.pair Ty.unit)).den×(L.pair Ty.unit).den)) (rest:List
 (Rose ((TI.pair (TI.pair Ty.unit)).den×(L.pair Ty.unit).den))),nJ x=xs++y::rest->∀(own:Nat->Prop) (z:Unit) (v:Int×Bool×Int×Int×Int×List (Rose ((TI.pair
 (TI.pair Ty.unit)).den×(L.pair Ty.unit).den))×List Int),I xs z v->aa (v.1+z1)/\I (xs++[y]) () (v.1+z1,v.2))/\∀(own:Nat->Prop) (z:Unit) (v:Int×Bool×Int×Int×
 Int×List (Rose ((TI.pair (TI.pair Ty.unit)).den×(L.pair Ty.unit).den))×List Int),I (nJ x) z v->Rose.node ((v.2.2.2.1,v.2.2.2.2.1,()),v.2.2.2.2.2.2,()) v.2.2.2.2.2.1=mE
 n p x c/\((v.2.2.1=p/\True)/\True/\((True/\True)/\True)/\(v.2.1=(b||jy n p x c)/\True)/\gz/\True/\(v.1=c+cH n x/\True)/\(dM/\True)/\True)/\
 True)
theorem qcK(n:Nat)(x:Sp)(c:Int)(b:Bool)(p:Int):wR (FJ n) 8 116 (qcJ n) x (c,b,p)=(SP (!decide (c=p)) (ED b x c n p) (SD ((ln (Rose.aN x))=z0)
 (ED b x c n p) ((IR z0 (Rose.aN x))/\(IR z1 (Rose.aN x))/\aa ((ln (Rose.aN (gS x y0)))+(ln (Rose.aN (gS x y1))))/\SD (z0<(ln (Rose.aN (gS x y0)))+(ln (Rose.aN
 (gS x y1)))) (ED b x c n p) ((IR z0 (Rose.aN x))/\SP b (MD x c p n b) (MD x c p n b))))):=by kernel_rfl
end Go.Proofs.YtobfmplofoofkaaGreatDoor
namespace Go.PL
open Go.AM
abbrev Rg:=dQ×Sp
abbrev XA:Rg:=(Pk,.node ((0,0,()),([],())) [])
def ME(a t:Int)(o:List Int)(l:List Rg)(i:Nat):List Rg:=l.take i++[(mC (l.getD i XA).1 a t,(l.getD i XA).2),(fS (l.getD i XA).1 a t,qv o)]++l.drop (i+1)
theorem XC{a t:Int}{o:List Int}{l k:List Rg}{i:Nat}(h:i<l.length):ME a t o (l++k) i=ME a t o l i++k:=by
 unfold ME;have e:(l++k).getD i XA=l.getD i XA:=by
  rw[Wab,Wao h,<-Wab]
 rw[e,WaR (by omega),WaV (by omega)]
 simp only[Waj]
theorem SQ{a t:Int}{o:List Int}{l k:List Rg}{i:Nat}(h:l.length<=i):ME a t o (l++k) i=l++ME a t o k (i-l.length):=by
 unfold ME;have e:(l++k).getD i XA=k.getD (i-l.length) XA:=by
  rw[Wab,WaH h,<-Wab]
 have e1:List.drop (i+1) (l++k)=List.drop (i-l.length+1) k:=by
  rw[List.drop_append];rw[WbY (by omega),WaY]
  congr 1
  omega
 rw[e,e1,Wce,Wap (by omega)]
 simp only[Waj]
theorem rJ{o:List Int}(h:eB o=true):dB (qv o)=true:=jg.2 ⟨rfl,rfl,rfl,h⟩
theorem Hp{n:Nat}{p a t:Int}{o:List Int}{x:Sp}{c:Int}(h:x.aN.length=0):j7 (n+1) p a t o x c=if c=p then SJ a t o x else x:=Hh h
theorem Hq{n:Nat}{p a t:Int}{o:List Int}{x:Sp}{c:Int}(h:x.aN.length=2):j7 (n+1) p a t o x c= .node x.val [j7 n p a t o (aF x 0) c,j7 n p a t o (aF x 1) (c+ay n (aF x 0))]:=Hi h
theorem lG{n:Nat}{x:Sp}(h:x.aN.length=0):ay (n+1) x=1:=jz h
theorem jB{n:Nat}{x:Sp}(h:x.aN.length=2):ay (n+1) x=ay n (aF x 0)+ay n (aF x 1):=fT h
theorem Cg{v:(Int×Int×Unit)×(List Int×Unit)}{A B:Sp}:dB (.node v [A,B])=false:=uY fun h=>by
 have:=(jg.1 h).1
 simp[Rose.aN]at this
theorem Ay:∀{n:Nat} {x:Sp} {b:dQ} {p a t:Int} {o:List Int} {c:Int},dD n x b->eB o=true->
 (¬(c<=p/\p<c+ay n x)->j7 n p a t o x c=x)/\
 (c<=p/\p<c+ay n x->fy ((bK n x b).getD (p-c).toNat XA).1 a t=true->
   dD (n+1) (j7 n p a t o x c) b/\bK (n+1) (j7 n p a t o x c) b=ME a t o (bK n x b) (p-c).toNat)
 |0,x,b,p,a,t,o,c,h,_=>h.elim
 |n+1,x,b,p,a,t,o,c,.inl h,ho=>by
  have hl:=(jg.1 h).1;rw[Hp hl,lG hl,gi h];refine⟨fun hp=>by rw[if_neg (by omega)],fun hp hc=>?_⟩
  have e:(p-c).toNat=0:=by omega
  rw[e]at hc ⊢;have hc:fy b a t=true:=hc;rw[if_pos (by omega)]
  have f1:dB (SJ a t o x)=false:=Cg;have f2:fA (SJ a t o x) b=true:=eJ.2 ⟨rfl,rfl,hc⟩;refine⟨.inr ⟨f1,f2,.inl h,.inl (rJ ho)⟩,?_⟩
  rw[iG f1 f2];have e0:aF (SJ a t o x) 0=x:=rfl;have e1:aF (SJ a t o x) 1=qv o:=rfl;rw[e0,e1,gi h,gi (rJ ho)];rfl
 |n+1,x,b,p,a,t,o,c,.inr ⟨h1,h2,h3,h4⟩,ho=>by
  have hl:=(eJ.1 h2).1;have l0:=fU h3;have l1:=fU h4;have p0:=dH (qw h3);have p1:=dH (qw h4);rw[Hq hl,jB hl,iG h1 h2];obtain⟨a1,a2⟩:=Ay (p:=p) (a:=a) (t:=t) (o:=o) (c:=c) h3 ho;obtain⟨b1,b2⟩:=Ay (p:=p) (a:=a) (t:=t) (o:=o) (c:=c+ay n (aF x 0)) h4 ho;obtain⟨A,hA⟩:∃A,A=j7 n p a t o (aF x 0) c:=⟨_,rfl⟩
  obtain⟨B,hB⟩:∃B,B=j7 n p a t o (aF x 1) (c+ay n (aF x 0)):=⟨_,rfl⟩
  rw[<-hA]at a1 a2;rw[<-hB]at b1 b2;rw[<-hA,<-hB];have hx:(Rose.node x.val [aF x 0,aF x 1]:Sp)=x:=by
   cases x with
   |node v l=>
    match l,hl with
    |[y,z],_=>rfl
  have f1:dB (.node x.val [A,B])=false:=Cg;have f2:fA (.node x.val [A,B]) b=true:=eJ.2 ⟨rfl,(eJ.1 h2).2.1,(eJ.1 h2).2.2⟩;have e0:aF (.node x.val [A,B]) 0=A:=rfl;have e1:aF (.node x.val [A,B]) 1=B:=rfl;have e2:cE (.node x.val [A,B])=cE x:=rfl;have e3:iT (.node x.val [A,B])=iT x:=rfl;refine⟨fun hp=>?_,fun hp hc=>?_⟩
  ·rw[a1 (by omega),b1 (by omega)]
   exact hx
  ·have hval:dD (n+1) A (mC b (cE x) (iT x))->dD (n+1) B (fS b (cE x) (iT x))->dD (n+1+1) (.node x.val [A,B]) b:=fun v0 v1=>.inr ⟨f1,f2,by rw[e0,e2,e3];exact v0,by rw[e1,e2,e3];exact v1⟩
   rw[iG f1 f2,e0,e1,e2,e3];by_cases hq:p<c+ay n (aF x 0)
   ·have e:(bK n (aF x 0) (mC b (cE x) (iT x))++bK n (aF x 1) (fS b (cE x) (iT x))).getD (p-c).toNat XA=(bK n (aF x 0) (mC b (cE x) (iT x))).getD (p-c).toNat XA:=by
     rw[Wab,Wao (by omega),<-Wab]
    rw[e]at hc;obtain⟨v0,r0⟩:=a2 (by omega) hc
    have hb1:=b1 (by omega)
    rw[hb1]at hval ⊢;refine⟨hval v0 (we h4 (by omega)),?_⟩
    rw[r0,XC (by omega),pW (Az h4) (by omega)]
   ·have e:(bK n (aF x 0) (mC b (cE x) (iT x))++bK n (aF x 1) (fS b (cE x) (iT x))).getD (p-c).toNat XA=(bK n (aF x 1) (fS b (cE x) (iT x))).getD (p-(c+ay n (aF x 0))).toNat XA:=by
     rw[Wab,WaH (by omega),<-Wab]
     congr 1
     omega
    rw[e]at hc;obtain⟨v1,r1⟩:=b2 (by omega) hc
    have ha1:=a1 (by omega)
    rw[ha1]at hval ⊢;refine⟨hval (we h3 (by omega)) v1,?_⟩
    rw[r1,SQ (by omega),pW (Az h3) (by omega)]
    congr 2
    omega
where
 Az:∀{n:Nat} {x:Sp} {b:dQ},dD n x b->lF n x
  |0,x,b,h=>h.elim
  |n+1,x,b,.inl h=>fun y hy=>by
   have:=(jg.1 h).1
   rw[List.length_eq_zero_iff]at this;rw[this]at hy;cases hy
  |n+1,x,b,.inr ⟨h1,h2,h3,h4⟩=>fun y hy=>by
   have hl:=(eJ.1 h2).1;cases x with
   |node v l=>
    match l,hl with
    |[s,r],_=>
     have hy:y∈[s,r]:=hy;simp only[Wbi,Wbg,or_false]at hy;rcases hy with rfl|rfl
     ·exact Az h3
     ·exact Az h4
theorem Hr{n:Nat}{x:Sp}{b:dQ}(h:dD n x b):lF n x:=Ay.Az h
theorem Hs{n:Nat}{p:Int}{x:Sp}{c:Int}(h:x.aN.length=0):fB (n+1) p x c=x/\cZ (n+1) p x c=false:=by
 have ht:twin p x c=false:=uY fun ht=>by
  unfold twin at ht;simp only[Wac,decide_eq_true_eq]at ht;exact ht.2.1 h
 constructor
 ·show (if twin p x c then _ else if _ then _ else _)=_
  rw[ht,if_pos h];rfl
 ·show (if twin p x c then _ else if _ then _ else _)=_
  rw[ht,if_pos h];rfl
theorem Ht{n:Nat}{p:Int}{x:Sp}{c:Int}(h:x.aN.length=2)(ht:twin p x c=false):
 fB (n+1) p x c= .node x.val [fB n p (aF x 0) c,fB n p (aF x 1) (c+ay n (aF x 0))]/\cZ (n+1) p x c=(cZ n p (aF x 0) c||cZ n p (aF x 1) (c+ay n (aF x 0))):=by
 constructor
 ·show (if twin p x c then _ else if _ then _ else _)=_
  rw[ht,if_neg (show ¬x.aN.length=0 by omega)];rfl
 ·show (if twin p x c then _ else if _ then _ else _)=_
  rw[ht,if_neg (show ¬x.aN.length=0 by omega)];rfl
theorem PI{n:Nat}{p:Int}{x:Sp}{c:Int}(h:x.aN.length=0):mE n p x c=x/\jy n p x c=false:=Hs h
theorem PJ{n:Nat}{p:Int}{x:Sp}{c:Int}(h:x.aN.length=2)(ht:twin p x c=false):
 mE n p x c= .node x.val [fB n p (aF x 0) c,fB n p (aF x 1) (c+ay n (aF x 0))]/\jy n p x c=(cZ n p (aF x 0) c||cZ n p (aF x 1) (c+ay n (aF x 0))):=Ht h ht
theorem PK{n:Nat}{p:Int}{x:Sp}{c:Int}(ht:twin p x c=true):mE n p x c=aF x 0/\jy n p x c=true:=by
 constructor
 ·show (if twin p x c then _ else _)=_
  rw[if_pos ht]
 ·show (if twin p x c then _ else _)=_
  rw[if_pos ht]
theorem PM{p:Int}{x:Sp}{c:Int}:twin p x c=true↔c=p/\x.aN.length≠0/\(aF x 0).aN.length=0/\(aF x 1).aN.length=0:=by
 unfold twin;simp only[Bool.and_eq_true,decide_eq_true_eq]
theorem PN:∀{n:Nat} {x:Sp},SI n x->x.aN.length<=2
 |0,x,h=>h.elim
 |n+1,x,.inl h=>by omega
 |n+1,x,.inr ⟨h,_⟩=>by omega
theorem PO:∀{n:Nat} {x:Sp},SI n x->x.aN.length=0->ay n x=1
 |0,x,h,_=>h.elim
 |n+1,x,_,h=>lG h
end Go.PL
namespace Go.Proofs.YtobfmplofoofkaaGreatDoor
open Go.AM Go.PL
attribute [local irreducible] aW cz mQ wR
theorem qkb:E2 Tryz.prog 140 EA:=vR (C:=FP1) (az trivial trivial) 6 _ _ fun (x:Sp) hk hp=>by
 have hp:x.aN.length=0:=hp;exact (Xy x).mpr fun Y own hY=>⟨decide_eq_true (by omega),⟨[],hY⟩,fun own=>⟨.inl ⟨own,rfl⟩,.inr ⟨own,rfl⟩⟩⟩
theorem qkc:E2 Tryz.prog 140 qx:=vR (C:=FP2) (oe trivial trivial ⟨qkb,trivial⟩) 6 _ _ fun (x:Sp) hk hp=>by
 refine (Xz x).mpr ?_;delta jA tf tg ou ov th vj Av Hl Ho IR SD ln y0 y1 y2 z0 z1 z2 z3 TI
 have hp:qf6 x:=hp;have e0:gS x 0=aF x 0:=rfl;have e1:gS x 1=aF x 1:=rfl;simp only[qf4,e0,e1];intro Y own hY;have i1:aa 1:=bP (by omega) (by omega)
 have i2:aa 2:=bP (by omega) (by omega)
 rcases hp with hl|⟨hl,h0,h1⟩
 ·have hi:nJ x=[x]:=if_pos hl;exact⟨fun _=>⟨⟨[],by rw[hY,hi];rfl⟩,fun own=>⟨.inl ⟨own,by rw[hi];rfl⟩,.inr ⟨own,rfl⟩⟩⟩,fun c=>absurd (df c) (by omega)⟩
 ·have hi:nJ x=[aF x 0,aF x 1]:=if_neg (by omega)
  refine⟨fun c=>absurd (dt c) (by omega),fun _=>⟨fun _=>⟨⟨by omega,by omega⟩,h0,fun xs z _=>z=xs,⟨own,[],rfl,rfl⟩,fun xs y rest e own z v hI=>⟨⟨rest++[aF x 1],?_⟩,fun own=>⟨⟨own,_,rfl,?_⟩,.inr ⟨own,rfl⟩⟩⟩,fun own z v hI=>⟨i1,fun _=>⟨⟨by omega,by omega⟩,h1,fun xs z _=>z=aF x 0::xs,⟨own,z,rfl,hI⟩,fun xs y rest e own z v hI=>⟨⟨rest,?_⟩,fun own=>⟨⟨own,_,rfl,?_⟩,.inr ⟨own,rfl⟩⟩⟩,fun own z v hI=>⟨i2,fun c=>absurd (dt c) (by omega),fun _=>.inl ⟨own,?_⟩⟩⟩,fun c=>absurd (df c) (by omega)⟩⟩,fun c=>absurd (df c) (by omega)⟩⟩
  ·have hI:z=xs:=hI;rw[hY,hi,hI,show [aF x 0,aF x 1]=[aF x 0]++[aF x 1] from rfl,e,Waj]
   rfl
  ·have hI:z=xs:=hI;rw[hI]
  ·have hI:z=aF x 0::xs:=hI;rw[hY,hi,hI,show [aF x 0,aF x 1]=aF x 0::[aF x 1] from rfl,e]
   rfl
  ·have hI:z=aF x 0::xs:=hI;rw[hI];rfl
  ·have hI:z=[aF x 0,aF x 1]:=hI;rw[hI,hi]
theorem J4:∀(n:Nat),E3 Tryz.prog 116 (qcI n)
 |0=>fun B w0 Ψ β w x y args caps hsh hi ha hcp hp=>hp.1.elim
 |n+1=>by
  have ss:au (FJ n):=jv trivial trivial ⟨qkc,trivial⟩ ⟨J4 n,trivial⟩;have h:E3 Tryz.prog 116 (qcJ n):=BF ss 8 _ _ fun (x:Sp) (y:Int×Bool×Int) hk hp=>by
   obtain⟨c,b,p⟩:=y;have hp:vh (n+1) x c:=hp;refine (qcK n x c b p).mpr ?_;delta PF PG vk Dp dM gz ox Aw EB EC Ax MC ED MD IR SD SP ln y0 y1 y2 Rx z0 z1 z2 z3 TI
   have hb:(FJ n).P.bytesOf 37=64:=SO;have e0:gS x 0=aF x 0:=rfl;have e1:gS x 1=aF x 1:=rfl;have i1:aa 1:=bP (by omega) (by omega)
   have i2:aa 2:=bP (by omega) (by omega)
   have hc:aa (c+1):=by
    have:=dH hp.1
    have:=hp.2
    exact bP (by omega) (by omega)
   have r1:aM (FJ n) 37 (0+1):=J2 hb (by omega)
   have r2:aM (FJ n) 37 (0+1+(0+1)):=J2 hb (by omega)
   simp only[qf4,e0,e1,Wae,WaB];rcases hp.1 with hl|⟨hl,b0,b1⟩
   ·obtain⟨j1,j2⟩:=PI (n:=n) (p:=p) (c:=c) hl;have d2:decide ((x.aN.length:Int)=0)=true:=decide_eq_true (by omega)
    cases b<;>simp only[d2,j1,j2,jz hl,hc,WaG,Wbt,false_implies,true_implies,and_true,true_and,Wci]
    all_goals exact⟨fun _=>trivial,fun _=>trivial⟩
   ·obtain⟨q0,q1⟩:=Ce hp hl;have d2:decide ((x.aN.length:Int)=0)=false:=decide_eq_false (by omega)
    have d4:decide ((2:Int)<(x.aN.length:Int))=false:=decide_eq_false (by omega)
    have k0:(0:Int)<=0/\(0:Int)<(x.aN.length:Int):=⟨by omega,by omega⟩
    have k1:(0:Int)<=1/\(1:Int)<(x.aN.length:Int):=⟨by omega,by omega⟩
    have n0:=PN b0;have n1:=PN b1;have hs:aa (((aF x 0).aN.length:Int)+((aF x 1).aN.length:Int)):=bP (by omega) (by omega)
    cases ht:twin p x c
    ·obtain⟨j1,j2⟩:=PJ (n:=n) hl ht;simp only[d2,d4,j1,j2,fT hl,q0,q1,k0,k1,i1,i2,r1,r2,WaG,false_implies,true_implies,and_true,true_and,and_self,WaP,WaY,decide_true,Wbt,Int.add_assoc];have fin:(b=true->(true||cZ n p (aF x 0) c||cZ n p (aF x 1) (c+ay n (aF x 0)))=(b||(cZ n p (aF x 0) c||cZ n p (aF x 1) (c+ay n (aF x 0)))))/\
      (b=false->(false||cZ n p (aF x 0) c||cZ n p (aF x 1) (c+ay n (aF x 0)))=(b||(cZ n p (aF x 0) c||cZ n p (aF x 1) (c+ay n (aF x 0))))):=
      ⟨fun h=>by rw[h];rfl,fun h=>by rw[h];rfl⟩
     refine⟨fun _=>fin,fun hcp=>⟨hs,fun _=>fin,fun hz=>?_⟩⟩
     have:=(PM (p:=p) (x:=x) (c:=c)).2 ⟨Uy hcp,by omega,by have:=df hz;omega,by have:=df hz;omega⟩
     rw[ht]at this;cases this
    ·obtain⟨t1,t2,t3,t4⟩:=PM.1 ht;obtain⟨j1,j2⟩:=PK (n:=n) ht;simp only[d2,d4,j1,j2,fT hl,q0,q1,k0,k1,i1,i2,r1,r2,WaG,false_implies,true_implies,and_true,true_and,and_self,WaP,WaY,decide_true,Wbt,Int.add_assoc];have Qi:qf6 x:=.inr ⟨hl,t3,t4⟩;have hi:nJ x=[aF x 0,aF x 1]:=if_neg (by omega)
     have hl0:ay n (aF x 0)=1:=PO b0 t3;have HX:ay n (aF x 1)=1:=PO b1 t4;obtain⟨c0,c1⟩:=hp.2;rw[jB hl,hl0,HX]at c1;refine⟨fun h=>absurd t1 (ndt h),fun _=>⟨hs,fun h=>absurd (dt h) (by omega),fun _=>⟨fun hbb=>?_,fun hbb=>?_⟩⟩⟩
     all_goals
      refine⟨Qi,fun xs _ v=>v=(c+(xs.length:Int),true,p,(Rose.val (aF x 0)).fst.fst,(Rose.val (aF x 0)).fst.snd.fst,Rose.aN (aF x 0),(Rose.val (aF x 0)).snd.fst),?_,fun xs y rest e own z v hI=>?_,fun own z v hI=>?_⟩
      ·dsimp only;rw[WaB,Int.natCast_zero,Int.add_zero]
      ·have hlen:xs.length+1<=2:=by
        have:=congrArg List.length e
        rw[hi,Wad,Wae]at this;simp only[Wae,WaB]at this;omega
       rw[hI];dsimp only;refine⟨bP (by omega) (by omega),?_⟩
       have ec:c+(xs.length:Int)+1=c+((xs++[y]).length:Int):=by
        rw[Wad,Wae,WaB];omega
       rw[ec]
      ·rw[hI,hi];dsimp only;refine⟨eta _,rfl,(Wb7 b).symm,?_⟩
       rw[hl0,HX];rfl
  exact h
end Go.Proofs.YtobfmplofoofkaaGreatDoor
namespace Go.PL
open Go.AM
def cw(n:Nat)(d:Dv)(p:Int):Dv×Int:=
 if p<0\/((aq n d).length:Int)<=p+1 then (d,5) else if cZ n p d.2.2.1 0=false then (d,4) else if (1073741824:Int)<=d.2.1 then (d,2) else ((d.1,d.2.1+1,fB n p d.2.2.1 0,()),0)
end Go.PL
namespace Go.Proofs.YtobfmplofoofkaaGreatDoor
open Go.AM Go.PL
def MF(n:Nat):aJ:=⟨[DV,I],[DV,I],fun x=>GoodN n x.1/\(x.2:Int)<=1000000,fun x=>cw n x.1 x.2⟩
def qkd(f:FuncId):Hint:=⟨fun _=>[],fun r=>bif (Nat.beq f 34&&Nat.beq r 1)||(Nat.beq f 78&&Nat.beq r 6) then .all else .split,fun _=>.split,fun _=>0⟩
noncomputable def bsJ:BG:=⟨Tryz.prog,tyB,fun t=>bs.ro t&& !Nat.beq t 3⟩
noncomputable def FJc(n:Nat):Ctx:=x9 bsJ [(9,pY n)] [] [] [(116,qcI n)] qkd
abbrev kJ(d:Dv):=(d.1,d.2.1,Rose.node (((Rose.val d.2.2.1).1.1,(Rose.val d.2.2.1).1.2.1,()),(Rose.val d.2.2.1).2.1,()) (Rose.aN d.2.2.1),())
abbrev yI(d:Dv):=Rose.node (((Rose.val d.2.2.1).1.1,(Rose.val d.2.2.1).1.2.1,()),(Rose.val d.2.2.1).2.1,()) (Rose.aN d.2.2.1)
abbrev yJ(d:Dv)(n:Nat)(p:Int):=SD ((1073741824:Int)<=z0) (((kJ d),z4)=cw n d p) (aa (z0+z1)/\(True/\True/\True/\True)/\((p=p/\True)/\True/\((True
 /\True)/\True)/\(false=false/\True)/\((True/\True/\True)/\True)/\True/\(z0=z0/\True)/\((True/\True/\True/\True)/\True)/\True)/\vh n (yI d) z0/\SP (!(false||
 cZ n p (yI d) z0)) (((kJ d),z4)=cw n d p) (SD ((1073741824:Int)<=d.2.1) (((kJ d),z2)=cw n d p) (aa (d.2.1+z1)/\((d.1,d.2.1+z1,Rose.node
 (((Rose.val (fB n p (yI d) z0)).1.1,(Rose.val (fB n p (yI d) z0)).1.2.1,()),(Rose.val (fB n p (yI d) z0)).2.1,()) (Rose.aN (fB n p (yI d) z0)),()),z0)=
 cw n d p)))
abbrev yK(d:Dv)(n:Nat)(p:Int):=((kJ d),z5)=cw n d p
abbrev MG(p:Int)(n:Nat)(d:Dv):=aa (p+z1)/\pX n d/\SD ((ln (aq n d))<=p+z1) (yK d n p) (yJ d n p)
abbrev MH(p:Int)(n:Nat)(d:Dv):=aa (p+z1)/\SD ((ln (aq n d))<=p+z1) (yK d n p) (yJ d n p)
theorem qf7(n:Nat)(d:Dv)(p:Int):aW (FJc n) 8 34 (MF n) (d,p)=((SD (p<z0) (((kJ d),z5)=cw n d p/\((kJ d),z5)=cw n d p/\((kJ d),z5)=
 cw n d p/\((kJ d),z5)=cw n d p) ((MG p n d)/\(MG p n d)/\pX n d/\(MH p n d)/\aa (p+z1)/\SD ((ln (aq n d))<=p+z1) (yK d n p) (yJ d n
 p)))/\SD (p<z0) ((((kJ d),z5)=cw n d p/\((kJ d),z5)=cw n d p/\((kJ d),z5)=cw n d p)/\(((kJ d),z5)=cw n d p/\((kJ d),z5)=cw
 n d p)/\((kJ d),z5)=cw n d p) (((MG p n d)/\pX n d/\(MH p n d)/\aa (p+z1)/\SD ((ln (aq n d))<=p+z1) (yK d n p) (yJ d n p))/\pX n d/\
 ((MH p n d)/\aa (p+z1)/\SD ((ln (aq n d))<=p+z1) (yK d n p) (yJ d n p))/\aa (p+z1)/\SD ((ln (aq n d))<=p+z1) (yK d n p) (yJ d n p))):=by
 kernel_rfl
end Go.Proofs.YtobfmplofoofkaaGreatDoor
namespace Go.Proofs.YtobfmplofoofkaaGreatDoor
open Go.AM Go.PL
attribute [local irreducible] aW cz mQ wR
theorem XD(n:Nat):Sat Tryz.prog 34 (MF n):=by
 refine bq (C:=FJc n) (jv ⟨mD n,trivial⟩ trivial trivial ⟨J4 n,trivial⟩) (fun x=>qf7 n x.1 x.2) fun (x:Dv×Int) hk hp=>?_;delta kJ yI yJ yK MG MH SD SP ln z0 z1 z2 z4 z5
 obtain⟨d,p⟩:=x;obtain⟨g,uw⟩:GoodN n d/\p<=1000000:=hp
 have ed:((d.fst,d.snd.fst,d.snd.snd.fst,()):Dv)=d:=rfl;dsimp only;simp only[eta,ed];obtain⟨v1,v2⟩:(-9223372036854775808:Int)<=d.2.1/\d.2.1<=9223372036854775807:=hk.1.2.1
 have hw:=Cf g;have hpre:=g.pre;have z:decide ((1073741824:Int)<=0)=false:=decide_eq_false (by omega)
 have i0:aa (0+1):=bP (by omega) (by omega)
 by_cases c0:p<0
 ·have e0:=decide_eq_true c0;have hr:cw n d p=(d,5):=by unfold cw;rw[if_pos (.inl c0)]
  simp only[e0,hr,Wbt,false_implies,true_implies,and_self]
 have e0:=decide_eq_false c0;have ip:aa (p+1):=bP (by omega) (by omega)
 by_cases c1:((aq n d).length:Int)<=p+1
 ·have e1:=decide_eq_true c1;have hr:cw n d p=(d,5):=by unfold cw;rw[if_pos (.inr c1)]
  simp only[e0,e1,hr,ip,hpre,Wbt,WaG,false_implies,true_implies,and_self]
 have e1:=decide_eq_false c1;have n1:¬(p<0\/((aq n d).length:Int)<=p+1):=by omega
 cases hf:cZ n p d.2.2.1 0
 ·have hr:cw n d p=(d,4):=by unfold cw;rw[if_neg n1,if_pos hf]
  simp only[e0,e1,z,hr,ip,i0,hw,hpre,Wci,Bool.not_false,Wbt,WaG,false_implies,true_implies,and_self]
 by_cases c2:(1073741824:Int)<=d.2.1
 ·have e2:=decide_eq_true c2;have hr:cw n d p=(d,2):=by unfold cw;rw[if_neg n1,if_neg (by rw[hf];simp),if_pos c2]
  simp only[e0,e1,e2,z,hr,ip,i0,hw,hpre,Wb7,Bool.not_true,Wbt,WaG,false_implies,true_implies,and_self]
 ·have e2:=decide_eq_false c2;have hr:cw n d p=((d.1,d.2.1+1,fB n p d.2.2.1 0,()),0):=by unfold cw;rw[if_neg n1,if_neg (by rw[hf];simp),if_neg c2]
  have iv:aa (d.2.1+1):=by unfold aa;omega
  simp only[e0,e1,e2,z,hr,ip,i0,iv,hw,hpre,Wb7,Bool.not_true,WaG,false_implies,true_implies,and_self]
end Go.Proofs.YtobfmplofoofkaaGreatDoor
namespace Go.PL
open Go.AM
theorem DP{n:Nat}{p:Int}{o:List Int}{x:Sp}{c:Int}(h:x.aN.length=0):fV (n+1) p o x c=if c=p then qv o else x:=Dm h
theorem DQ{n:Nat}{p:Int}{o:List Int}{x:Sp}{c:Int}(h:x.aN.length=2):fV (n+1) p o x c= .node x.val [fV n p o (aF x 0) c,fV n p o (aF x 1) (c+ay n (aF x 0))]:=Dn h
theorem US{n:Nat}{x A B:Sp}{b:dQ}(h2:fA x b=true)(hA:dD n A (mC b (cE x) (iT x)))(hB:dD n B (fS b (cE x) (iT x))):
 dD (n+1) (.node x.val [A,B]) b/\ay (n+1) (.node x.val [A,B])=ay n A+ay n B:=by
 have f1:dB (.node x.val [A,B])=false:=Cg;have f2:fA (.node x.val [A,B]) b=true:=eJ.2 ⟨rfl,(eJ.1 h2).2.1,(eJ.1 h2).2.2⟩;exact⟨.inr ⟨f1,f2,hA,hB⟩,jB rfl⟩
theorem MJ:∀{n:Nat} {x:Sp} {b:dQ} {p:Int} {o:List Int} {c:Int},dD n x b->eB o=true->dD n (fV n p o x c) b/\ay n (fV n p o x c)=ay n x
 |0,x,b,p,o,c,h,_=>h.elim
 |n+1,x,b,p,o,c,.inl h,ho=>by
  have hl:=(jg.1 h).1;rw[DP hl];split
  ·exact⟨.inl (rJ ho),by rw[lG hl];exact lG rfl⟩
  ·exact⟨.inl h,rfl⟩
 |n+1,x,b,p,o,c,.inr ⟨h1,h2,h3,h4⟩,ho=>by
  have hl:=(eJ.1 h2).1;rw[DQ hl,jB hl];obtain⟨a1,a2⟩:=MJ (p:=p) (o:=o) (c:=c) h3 ho;obtain⟨b1,b2⟩:=MJ (p:=p) (o:=o) (c:=c+ay n (aF x 0)) h4 ho;obtain⟨k1,k2⟩:=US h2 a1 b1;exact⟨k1,by rw[k2,a2,b2]⟩
theorem Iy{n:Nat}{x:Sp}{b:dQ}(h:dD n x b)(h0:x.aN.length=0):dB x=true:=by
 cases n with
 |zero=>exact h.elim
 |succ n=>
  rcases h with h|⟨_,h2,_⟩
  ·exact h
  ·have:=(eJ.1 h2).1
   omega
theorem MK:∀{n:Nat} {x:Sp} {b:dQ} {p:Int} {c:Int},dD n x b->dD n (fB n p x c) b/\ay n (fB n p x c)<=ay n x
 |0,x,b,p,c,h=>h.elim
 |n+1,x,b,p,c,.inl h=>by
  have hl:=(jg.1 h).1;rw[(Hs hl).1];exact⟨.inl h,Waz _⟩
 |n+1,x,b,p,c,.inr ⟨h1,h2,h3,h4⟩=>by
  have hl:=(eJ.1 h2).1;have p0:=dH (qw h3);have p1:=dH (qw h4);cases ht:twin p x c with
  |true=>
   have e:fB (n+1) p x c=aF x 0:=by
    show (if twin p x c then aF x 0 else _)=_
    rw[ht,if_pos rfl]
   unfold twin at ht;simp only[Wac,decide_eq_true_eq]at ht;have hs:=Iy h3 ht.2.2.1;rw[e,lG (jg.1 hs).1,jB hl];exact⟨.inl hs,by omega⟩
  |false=>
   rw[(Ht hl ht).1,jB hl];obtain⟨a1,a2⟩:=MK (p:=p) (c:=c) h3;obtain⟨b1,b2⟩:=MK (p:=p) (c:=c+ay n (aF x 0)) h4;obtain⟨k1,k2⟩:=US h2 a1 b1;exact⟨k1,by rw[k2];omega⟩
end Go.PL
namespace Go.Proofs.YtobfmplofoofkaaGreatDoor
open Go.AM Go.PL
attribute [local irreducible] aW cz mQ
theorem SR(n:Nat):Sat Tryz.prog 36 (G8 n):=by
 refine bq (C:=YV n) (oe UP trivial ⟨Mu n,trivial⟩) (fun d=>qcB n d) fun (d:Dv) hk hp=>?_;delta Dl SD ln z0 z1 nj j9 TI
 obtain⟨h1,h2,h3,h4,hd,hn,ho⟩:YI n d:=hp
 refine⟨fun c=>absurd (dt c) (by omega),fun _=>⟨fun c=>absurd (dt c) (by omega),fun _=>⟨fun c=>absurd (dt c) (by omega),fun _=>⟨fun c=>absurd (dt c) (by omega),fun _=>⟨⟨h1,by omega⟩,⟨hd,G5 (by omega)⟩,
  fun xs _ v=>v=xs.length,rfl,fun xs y rest e own z v hv=>?_,fun own z v hv=>?_⟩⟩⟩⟩⟩
 ·have hl:xs.length+1<=64:=by
   rw[e,Wad,Wae]at hn;omega
  have hy:y.1.1.length≠0:=ho y (by rw[e];simp)
  refine⟨bP (by omega) (by omega),fun c=>absurd (dt c) (by omega),fun _=>⟨fun c=>absurd (dt c) (by omega),fun _=>?_⟩⟩
  have hv:v=xs.length:=hv;show v+1=((xs++[y]).length:Int)
  rw[hv,Wad];rfl
 ·exact decide_eq_true (by omega)
end Go.Proofs.YtobfmplofoofkaaGreatDoor
namespace Go.PL
open Go.AM
abbrev Ch:=Int×Int×Int×Int×Int×Unit
def eR(aG:Int)(o:List Int):Dv×Int:=if aG<1\/32<aG\/eB o=false then ((0,0,qv [],()),1) else ((aG,1,qv o,()),0)
def qP(n:Nat)(aG:Int)(d:Dv)(c:Ch):Dv×Int:=
 if c.1 % 3=0 then gM n d (c.2.1 % ((aq n d).length:Int)) (c.2.2.1 % aG) c.2.2.2.2.1 [c.2.2.2.1 % 32]
 else if c.1 % 3=1 then cw n d (c.2.1 % ((aq n d).length:Int)) else iW n d (c.2.1 % ((aq n d).length:Int)) [c.2.2.2.1 % 32]
def nK(n:Nat)(aG:Int)(st:Dv×Dv)(c:Ch):Dv×Dv:=if (qP n aG st.2 c).2=0 then (st.2,(qP n aG st.2 c).1) else st
def wM(n:Nat)(aG:Int)(l:List Ch):Dv×Dv:=l.foldl (nK n aG) ((eR aG [0]).1,(eR aG [0]).1)
end Go.PL
namespace Go.Proofs.YtobfmplofoofkaaGreatDoor
open Go.AM Go.PL
def UT:aJ:=⟨[I,L],[DV,I],fun x=>(x.2:List Int).length<=1000000,fun x=>eR x.1 x.2⟩
def qhy:aJ:=⟨[I,.arr CH],[DV,DV,.bool],fun x=>1<=(x.1:Int)/\(x.1:Int)<=32/\(x.2:List Ch).length<=12,fun x=>((wM 13 x.1 x.2).1,(wM 13 x.1 x.2).2,true)⟩
def qnn(t:TypeId):Nat:=bif Nat.beq t 39 then 2 else 0
def qcL(f:FuncId):Hint:=if Nat.beq f 999999995 then⟨fun _=>[],fun _=>.split,fun _=>.split,qnn⟩ else
 ⟨fun _=>if Nat.beq f 7 then [.slot 22 I,.slot 7 I,.aT 0 DV,.aT 1 DV] else [],
  fun r=>bif Nat.beq f 7&&(Nat.beq r 9||(Nat.beq r 12||(Nat.beq r 14||(Nat.beq r 16||(Nat.beq r 18||Nat.beq r 20))))) then .all else .split,fun _=>.split,fun _=>0⟩
noncomputable def FN0:Ctx:=bA bs [(58,yA),(39,Iu.data)] [] qcL
abbrev Ci:List (Rose ((Int×Int×Unit)×List Int×Unit)):=[]
abbrev UU:=((z0,z0,Rose.node ((z0,z0,()),eI,()) Ci,()),z1)
theorem qke(aG:Int)(o:List Int):aW FN0 6 22 UT (aG,o)=(SD (aG<z1) (UU=eR aG o) (SD (nj<aG) (UU=eR aG o) (True/\SP (!eB o) (UU=
 eR aG o) (o.length<=(1000000:Nat)/\((aG,z1,Rose.node ((z0,z0,()),o,()) Ci,()),z0)=eR aG o)))):=by kernel_rfl
def tFn:List (FuncId×aJ):=[(22,UT),(9,pY 13),(23,Mz 13),(34,MF 13),(35,MA 13),(36,G8 13)]
noncomputable def FN1:Ctx:=bA bs tFn [] qcL
abbrev cy:Type:=Int×Int×(Int×Int×Rose ((TI.pair (TI.pair Ty.unit)).den×(L.pair Ty.unit).den)×Unit)×Int×Int×Rose ((TI.pair (TI.pair Ty.unit)).den×(L.pair
 Ty.unit).den)×Unit
abbrev wk:Type:=Int×Int×(Int×Int×Rose ((I.pair (I.pair Ty.unit)).den×(L.pair Ty.unit).den)×Unit)×Int×Int×Rose ((I.pair (I.pair Ty.unit)).den×(L.pair
 Ty.unit).den)×Unit->Prop
abbrev wm:Type:=Int×Int×(Int×Int×Rose ((TI.pair (TI.pair Ty.unit)).den×(L.pair Ty.unit).den)×Unit)×Int×Int×Rose ((TI.pair (TI.pair Ty.unit)).den×(L.pair
 Ty.unit).den)×Unit->Nat
abbrev Cj:List TI.den:=[]
abbrev Ck:List (Rose ((TI.pair (TI.pair Ty.unit)).den×(L.pair Ty.unit).den)):=[]
abbrev qQ(l:List Ch)(x:cy):=l.getD x.1.toNat (z0,z0,z0,z0,z0,())
abbrev nL(x:cy):=ln (aq kD x.2.2.2)
abbrev UW(l:List Ch)(x:cy):=(IntKind.i64.wrap (qQ l x).2.1).tmod (nL x)
abbrev tO(x:cy)(l:List Ch)(aG:Int):=gM kD x.2.2.2 (UW l x) ((IntKind.i64.wrap (qQ l x).2.2.1).tmod aG) (qQ l x).2.2.2.2.1 [(IntKind.i64.wrap (qQ
 l x).2.2.2.1).tmod nj]
abbrev gr(aG:Int)(l:List Ch):=((wM kD aG l).1,(wM kD aG l).2,true)
abbrev lH(x:cy):=(x.2.2.1,x.2.2.2,false)
abbrev tP(x:cy)(aG:Int)(l:List Ch):=(lH x)=(gr aG l)/\(lH x)=(gr aG l)/\(lH x)=(gr aG l)
abbrev kK(x:cy):=(x.2.2.1,x.2.2.2,true)
abbrev UX(x:cy)(aG:Int)(l:List Ch):=PL.YI kD x.2.2.2/\(kK x)=(gr aG l)/\(kK x)=(gr aG l)/\(kK x)=(gr aG l)
abbrev Hu(x:cy)(I:wk)(μ:wm)(l:List Ch)(aG:Int):=(aa (x.1+z1)/\NX I μ x (x.1+z1,(tO x l aG).2,x.2.2.2,(tO x l aG).1))/\aa
 (x.1+z1)/\NX I μ x (x.1+z1,(tO x l aG).2,x.2.2.2,(tO x l aG).1)
abbrev PR(x:cy)(aG:Int)(l:List Ch):=(kK x)=(gr aG l)/\(kK x)=(gr aG l)/\(kK x)=(gr aG l)
abbrev yL(x:cy)(I:wk)(μ:wm)(l:List Ch)(aG:Int):=aa (x.1+z1)/\NX I μ x (x.1+z1,(tO x l aG).2,x.2.2)
abbrev J5(x:cy)(aG:Int)(l:List Ch)(I:wk)(μ:wm):=(nL x)≠z0/\aG≠z0/\GoodN kD x.2.2.2/\SD ((tO x l aG).2=z0) (Hu x I μ l aG)
 (yL x I μ l aG)
abbrev J6(x:cy)(aG:Int)(l:List Ch):=(lH x)=(gr aG l)/\(lH x)=(gr aG l)
abbrev Hw(x:cy)(aG:Int)(l:List Ch):=(kK x)=(gr aG l)/\(kK x)=(gr aG l)
abbrev UY(x:cy)(aG:Int)(l:List Ch):=(UX x aG l)/\PL.YI kD x.2.2.2/\(PR x aG l)/\(Hw x aG l)/\(Hw x aG l)/\(kK x)=(gr aG l)
abbrev yM(x:cy)(l:List Ch):=iW kD x.2.2.2 (UW l x) [(IntKind.i64.wrap (qQ l x).2.2.2.1).tmod nj]
abbrev MM(x:cy)(aG:Int)(l:List Ch):=(tP x aG l)/\(tP x aG l)/\(J6 x aG l)/\(J6 x aG l)/\(lH x)=(gr aG l)
abbrev yN(l:List Ch)(x:cy)(aG:Int):=SD ((ln l)<=z12) (UX x aG l) (tP x aG l)
abbrev MN(x:cy)(aG:Int)(l:List Ch):=(UX x aG l)/\PL.YI kD x.2.2.2/\(PR x aG l)/\(kK x)=(gr aG l)
abbrev yO(x:cy)(l:List Ch):=cw kD x.2.2.2 (UW l x)
theorem qkf(aG:Int)(l:List Ch):aW FN1 6 7 qhy (aG,l)=([z0].length<=(1000000:Nat)/\∃(I:Int×Int×(Int×Int×Rose ((I.pair (I.pair Ty.unit)).den×(L.pair
 Ty.unit).den)×Unit)×Int×Int×Rose ((I.pair (I.pair Ty.unit)).den×(L.pair Ty.unit).den)×Unit->Prop),∃(μ:Int×Int×(Int×Int×Rose ((TI.pair (TI.pair Ty.unit)).den×
 (L.pair Ty.unit).den)×Unit)×Int×Int×Rose ((TI.pair (TI.pair Ty.unit)).den×(L.pair Ty.unit).den)×Unit->Nat),I (z0,(eR aG [z0]).2,(eR aG [z0]).1,(eR aG
 [z0]).1)/\∀(x:Int×Int×(Int×Int×Rose ((TI.pair (TI.pair Ty.unit)).den×(L.pair Ty.unit).den)×Unit)×Int×Int×Rose ((TI.pair (TI.pair Ty.unit)).den×(L.pair Ty.unit).den)
 ×Unit),I x->SD (x.1<(ln l)) ((IR x.1 l)/\pX kD x.2.2.2/\nj≠z0/\SD ((nL x)=z0) (J6 x aG l) (z3≠z0/\SD ((qQ l x).1.tmod z3=z0) (((J5 x aG l I μ)/\(aG
 ≠z0/\(nL x)≠z0/\GoodN kD x.2.2.2/\SD ((tO x l aG).2=z0) (Hu x I μ l aG) (yL x I μ l aG))/\(J5 x aG l I μ)/\aG≠z0/\(nL x)≠z0/\GoodN kD
 x.2.2.2/\SD ((tO x l aG).2=z0) (Hu x I μ l aG) (yL x I μ l aG))/\(J5 x aG l I μ)/\(aG≠z0/\(nL x)≠z0/\GoodN kD x.2.2.2/\SD ((tO x l aG).2=z0)
 (Hu x I μ l aG) (yL x I μ l aG))/\((J5 x aG l I μ)/\aG≠z0/\(nL x)≠z0/\GoodN kD x.2.2.2/\SD ((tO x l aG).2=z0) (Hu x I μ l aG) (yL x I μ l
 aG))/\(J5 x aG l I μ)/\aG≠z0/\(nL x)≠z0/\GoodN kD x.2.2.2/\SD ((tO x l aG).2=z0) (Hu x I μ l aG) (yL x I μ l aG)) (SD ((qQ l x).1.tmod z3=z1)
 ((nL x)≠z0/\(GoodN kD x.2.2.2/\(IntKind.i64.wrap (qQ l x).2.1).tmod (nL x)<=(1000000:Int))/\SD ((yO x l).2=z0) ((aa (x.1+z1)/\NX I μ x (x.1+z1,(yO x
 l).2,x.2.2.2,(yO x l).1))/\aa (x.1+z1)/\NX I μ x (x.1+z1,(yO x l).2,x.2.2.2,(yO x l).1)) (aa (x.1+z1)/\NX I μ x (x.1+z1,(yO x l).2,x.2.2))) (SD
 ((qQ l x).1.tmod z3=z2) ((nL x)≠z0/\GoodN kD x.2.2.2/\SD ((yM x l).2=z0) ((aa (x.1+z1)/\NX I μ x (x.1+z1,(yM x l).2,x.2.2.2,(yM x l).1))/\aa (x.1
 +z1)/\NX I μ x (x.1+z1,(yM x l).2,x.2.2.2,(yM x l).1)) (aa (x.1+z1)/\NX I μ x (x.1+z1,(yM x l).2,x.2.2))) (SD (x.2.1=z0) ((aa (x.1+z1)/\NX I μ x (x.1+
 z1,x.2.1,x.2.2.2,z0,z0,Rose.node ((z0,z0,()),Cj,()) Ck,()))/\aa (x.1+z1)/\NX I μ x (x.1+z1,x.2.1,x.2.2.2,z0,z0,Rose.node ((z0,z0,()),Cj,())
 Ck,())) (aa (x.1+z1)/\NX I μ x (x.1+z1,x.2))))))) (((yN l x aG)/\(yN l x aG)/\SD ((ln l)<=z12) (UY x aG l) (MM x aG l))/\((yN l x aG)/\
 (yN l x aG)/\SD ((ln l)<=z12) (MN x aG l) ((tP x aG l)/\(tP x aG l)/\(lH x)=(gr aG l)))/\((yN l x aG)/\SD ((ln l)<=z12) (UY x aG l)
 (MM x aG l))/\((yN l x aG)/\SD ((ln l)<=z12) (MN x aG l) ((tP x aG l)/\(tP x aG l)/\(lH x)=(gr aG l)))/\SD ((ln l)<=z12) ((UY x aG l)/\
 (MN x aG l)/\PL.YI kD x.2.2.2/\((PR x aG l)/\(Hw x aG l)/\(Hw x aG l)/\(kK x)=(gr aG l))/\((PR x aG l)/\(kK x)=(gr aG l))/\
 (kK x)=(gr aG l)/\(kK x)=(gr aG l)) ((MM x aG l)/\((tP x aG l)/\(tP x aG l)/\(lH x)=(gr aG l))/\((tP x aG l)/\(J6 x aG l)/\
 (J6 x aG l)/\(lH x)=(gr aG l))/\((tP x aG l)/\(lH x)=(gr aG l))/\(lH x)=(gr aG l)/\(lH x)=(gr aG l)))):=by kernel_rfl
end Go.Proofs.YtobfmplofoofkaaGreatDoor
namespace Go.PL
open Go.AM
theorem XE{α:Type}{l:List α}{k:Nat}(h:k<l.length)(d:α):l.getD k d∈l:=by
 rw[Wab,Waa h];exact WaJ h
theorem AA{n:Nat}{x:Sp}{b:dQ}(h:dD n x b):1<=(bK n x b).length:=by
 have h1:=fU h;have h2:=dH (qw h);omega
theorem Cl:∀{n m:Nat} {x:Sp} {b:dQ},dD n x b->(bK n x b).length<=m->dD m x b
 |0,m,x,b,h,_=>h.elim
 |n+1,0,x,b,h,hm=>by have:=AA h;omega
 |n+1,m+1,x,b,.inl h,hm=>.inl h
 |n+1,m+1,x,b,.inr ⟨h1,h2,h3,h4⟩,hm=>by
  rw[iG h1 h2,Wad]at hm;have p3:=AA h3;have p4:=AA h4;exact .inr ⟨h1,h2,Cl h3 (by omega),Cl h4 (by omega)⟩
structure Cm (aG:Int) (i:Nat) (d:Dv):Prop where
 good:GoodN 13 d
 Iw:(bK 13 d.2.2.1 (bD d.1)).length<=i+1
 v1:1<=d.2.1
 v2:d.2.1<=1+i
 dim:d.1=aG
theorem Hy{aG v:Int}{i n:Nat}{t:Sp}(h1:1<=aG)(h2:aG<=32)(hi:i<=12)(hn:13<=n)(hv:dD n t (bD aG))(hf:(bK n t (bD aG)).length<=i+1)(v1:1<=v)(v2:v<=1+i):Cm aG i (aG,v,t,()):=by
 have k:=Cl (m:=13) hv (by omega)
 have e:=pW (b:=bD aG) (Hr k) hn;exact⟨⟨h1,h2,Hr k,k,by show (bK 13 t (bD aG)).length<=64;rw[<-e];omega⟩,by show (bK 13 t (bD aG)).length<=i+1;rw[<-e];exact hf,v1,v2,rfl⟩
theorem Cm.le{aG:Int}{i j:Nat}{d:Dv}(h:Cm aG i d)(hij:i<=j):Cm aG j d:=⟨h.good,by have:=h.Iw;omega,h.v1,by have:=h.v2;omega,h.dim⟩
theorem qcM{a t:Int}{o:List Int}{l:List Rg}{i:Nat}(h:i<l.length):(ME a t o l i).length=l.length+1:=by
 unfold ME;simp only[Wad,Waf,Wae,WaB,List.length_drop];omega
theorem Cm.step{aG:Int}{i:Nat}{d:Dv}(h:Cm aG i d)(hi:i+1<=12)(c:Ch)(hc:(qP 13 aG d c).2=0):Cm aG (i+1) (qP 13 aG d c).1:=by
 obtain⟨g,Iw,v1,v2,hd⟩:=h;obtain⟨dm,v,t,⟨⟩⟩:=d;have hd:dm=aG:=hd;subst hd;have d1:1<=dm:=g.d1;have d2:dm<=32:=g.d2;have Iw:(bK 13 t (bD dm)).length<=i+1:=Iw;have v1:1<=v:=v1;have v2:v<=1+i:=v2;have al:=jw 13 (dm,v,t,());have al:(aq 13 (dm,v,t,())).length=(bK 13 t (bD dm)).length:=al;have gv:dD 13 t (bD dm):=g.val;have ll:=fU gv;have hlen:ay 13 t=((aq 13 (dm,v,t,())).length:Int):=by rw[ll,al]
 have RW:((aq 13 (dm,v,t,())).length:Int)<=(i:Int)+1:=by rw[al];exact Int.ofNat_le.2 Iw
 have fit:∀{t':Sp},ay 13 t'=((bK 13 t' (bD dm)).length:Int)->ay 13 t'<=ay 13 t->(bK 13 t' (bD dm)).length<=i+1+1:=fun h3 h2=>by
  have h4:=WbL h2 (WbL (Int.le_of_eq hlen) RW);rw[h3]at h4;have h5:=Int.ofNat_le.1 (show (((bK 13 _ (bD dm)).length:Nat):Int)<=((i+1:Nat):Int) from h4)
  exact Nat.le_succ_of_le h5
 unfold qP at hc ⊢;split
 ·rename_i h0;rw[if_pos h0]at hc;generalize c.2.1 % ((aq 13 (dm,v,t,())).length:Int)=p at hc ⊢
  generalize c.2.2.1 % dm=a at hc ⊢
  generalize c.2.2.2.2.1=s at hc ⊢
  generalize [c.2.2.2.1 % 32]=o at hc ⊢
  unfold gM at hc ⊢;split at hc
  ·cases hc
  rename_i k1;split at hc
  ·cases hc
  rename_i k2;split at hc
  ·cases hc
  rename_i k3;split at hc
  ·cases hc
  rename_i k4;rw[if_neg k1,if_neg k2,if_neg k3,if_neg k4];have p0:0<=p:=Int.not_lt.1 fun hh=>k1 (.inl hh)
  have p1:p<(aq 13 (dm,v,t,())).length:=Int.not_le.1 fun hh=>k1 (.inr hh)
  have p2:p.toNat<(aq 13 (dm,v,t,())).length:=by generalize (aq 13 (dm,v,t,())).length=L at p1 ⊢;omega
  obtain⟨q,hq1,hq2,hq3⟩:=He (n:=13) (d:=(dm,v,t,())) (i:=p.toNat) p2;have ho:eB o=true:=by
   cases e:eB o with
   |true=>rfl
   |false=>exact absurd (.inr e) k2
  have qqo:fy ((aq 13 (dm,v,t,())).getD p.toNat AU).1 a s=true:=by
   cases e:fy ((aq 13 (dm,v,t,())).getD p.toNat AU).1 a s with
   |true=>rfl
   |false=>exact absurd (.inl e) k2
  have hq3:(bK 13 t (bD dm))[p.toNat]?=some q:=hq3;have eq:((bK 13 t (bD dm)).getD (p-0).toNat XA).1=((aq 13 (dm,v,t,())).getD p.toNat AU).1:=by
   rw[hq2,show (p-0).toNat=p.toNat by omega,Wab,hq3]
   rfl
  obtain⟨r1,r2⟩:=(Ay (c:=0) (p:=p) (a:=a) (t:=s) (o:=o) gv ho).2 ⟨p0,by rw[Int.zero_add,hlen];exact p1⟩ (by rw[eq];exact qqo)
  refine Hy d1 d2 (by omega) (n:=14) (by omega) r1 ?_ (by omega) (by omega)
  rw[r2,qcM (by rw[<-al,Int.sub_zero];exact p2)]
  exact Nat.succ_le_succ Iw
 ·rename_i h0;rw[if_neg h0]at hc;split
  ·rename_i h1;rw[if_pos h1]at hc;generalize c.2.1 % ((aq 13 (dm,v,t,())).length:Int)=p at hc ⊢
   unfold cw at hc ⊢;split at hc
   ·cases hc
   rename_i k1;split at hc
   ·cases hc
   rename_i k2;split at hc
   ·cases hc
   rename_i k3;rw[if_neg k1,if_neg k2,if_neg k3];obtain⟨r1,r2⟩:=MK (p:=p) (c:=0) gv;have r3:=fU r1;exact Hy d1 d2 (by omega) (n:=13) (by omega) r1 (fit r3 r2) (by omega) (by omega)
  ·rename_i h1;rw[if_neg h1]at hc;generalize c.2.1 % ((aq 13 (dm,v,t,())).length:Int)=p at hc ⊢
   generalize [c.2.2.2.1 % 32]=o at hc ⊢
   unfold iW at hc ⊢;split at hc
   ·cases hc
   rename_i k1;split at hc
   ·cases hc
   rename_i k2;split at hc
   ·cases hc
   rename_i k3;rw[if_neg k1,if_neg k2,if_neg k3];have ho:eB o=true:=by
    cases e:eB o with
    |true=>rfl
    |false=>exact absurd e k2
   obtain⟨r1,r2⟩:=MJ (p:=p) (c:=0) gv ho;have r3:=fU r1;exact Hy d1 d2 (by omega) (n:=13) (by omega) r1 (fit r3 (Int.le_of_eq r2)) (by omega) (by omega)
theorem Cm.start{aG:Int}(h1:1<=aG)(h2:aG<=32):eR aG [0]=((aG,1,qv [0],()),0)/\Cm aG 0 (aG,1,qv [0],()):=by
 have hg:eB [0]=true:=by decide
 have hl:=rJ hg;refine⟨?_,Hy h1 h2 (by omega) (n:=13) (by omega) (.inl hl) (by rw[gi hl];exact Wan _) (by omega) (by omega)⟩
 unfold eR;rw[if_neg (by rw[hg];simp;omega)]
theorem Cm.YI{aG:Int}{i:Nat}{d:Dv}(h:Cm aG i d)(hi:i<=12):Go.PL.YI 13 d:=
 ⟨h.good.d1,h.good.d2,h.v1,by have:=h.v2;omega,h.good.deep,h.good.Iw,fun p hp=>by
   have h1:=(u9 h.good.eU h.good.val p hp).1.2.1;have h2:(bD d.1).1.length=d.1.toNat:=Wa7;have:=h.good.d1
   omega⟩
theorem qf8{aG:Int}(h1:1<=aG)(h2:aG<=32):∀(l:List Ch),l.length<=12->Cm aG l.length (wM 13 aG l).1/\Cm aG l.length (wM 13 aG l).2:=by
 intro l;have key:∀(r:List Ch) (i:Nat) (st:Dv×Dv),i+r.length<=12->Cm aG i st.1->Cm aG i st.2->Cm aG (i+r.length) (r.foldl (nK 13 aG) st).1/\Cm aG (i+r.length) (r.foldl (nK 13 aG) st).2:=by
  intro r;induction r with
  |nil=>exact fun i st _ a b=>⟨a,b⟩
  |cons c r ih=>
   intro i st hi a b;rw[Wae]at hi;rw[WcL,Wae,show i+(r.length+1)=(i+1)+r.length by omega]
   refine ih (i+1) _ (by omega) ?_ ?_
   ·unfold nK;split
    ·exact b.le (by omega)
    ·exact a.le (by omega)
   ·unfold nK;split
    ·rename_i hc;exact b.step (by omega) c hc
    ·exact b.le (by omega)
 intro hl;obtain⟨e,s⟩:=Cm.start h1 h2;have:=key l 0 ((eR aG [0]).1,(eR aG [0]).1) (by omega) (by rw[e];exact s) (by rw[e];exact s)
 rw[WaO]at this;exact this
end Go.PL
namespace Go.Proofs.YtobfmplofoofkaaGreatDoor
open Go.AM Go.PL
attribute [local irreducible] aW cz mQ wR
theorem XF:au FN0:=az ⟨u7,nh.jd,trivial⟩ trivial
theorem UZ:Sat bs.P 22 UT:=bq XF (fun x=>qke x.1 x.2) fun (x:Int×List Int) hk hp=>by
 delta Ci UU SD SP eI z0 z1 nj
 obtain⟨aG,o⟩:=x;have hp:o.length<=1000000:=hp;dsimp only;have e:eR aG o=if aG<1\/32<aG\/eB o=false then ((0,0,qv [],()),1) else ((aG,1,qv o,()),0):=rfl
 refine⟨fun h=>?_,fun h=>⟨fun h2=>?_,fun h2=>⟨trivial,fun h3=>?_,fun h3=>⟨hp,?_⟩⟩⟩⟩
 ·rw[e,if_pos (.inl (dt h))];rfl
 ·rw[e,if_pos (.inr (.inl (dt h2)))];rfl
 ·rw[e,if_pos (.inr (.inr (nt h3)))];rfl
 ·have:=nf h3
  rw[e,if_neg (by rintro (k|k|k);exact df h k;exact df h2 k;rw[this]at k;cases k)]
  rfl
theorem XG:au FN1:=az ⟨UZ,mD 13,PE 13,XD 13,Xx 13,SR 13,trivial⟩ trivial
theorem wrap_u8{n:Int}(h0:0<=n)(h1:n<=255):IntKind.i64.wrap n=n:=wrap_i64 (by unfold aa;omega)
theorem qf9:Sat bs.P 7 qhy:=bq XG (fun x=>qkf x.1 x.2) fun (x:Int×List Ch) hk hp=>by
 delta cy wk wm Cj Ck qQ nL UW tO gr lH tP kK UX Hu PR yL J5 J6 Hw UY yM MM yN MN yO IR NX SD ln kD z0 z1 z12 z2 z3 nj TI
 obtain⟨aG,l⟩:=x;obtain⟨h1,h2,hl⟩:1<=aG/\aG<=32/\l.length<=12:=hp
 obtain⟨e0,s0⟩:=Cm.start h1 h2;have hkc:∀c∈l,Ub CH c:=hk.2.2;dsimp only;obtain⟨z,hz⟩:∃z:Ch,z=((0:Int),(0:Int),(0:Int),(0:Int),(0:Int),()):=⟨_,rfl⟩
 simp only[<-hz];refine⟨by simp,fun x=>0<=x.1/\x.1<=l.length/\Cm aG x.1.toNat x.2.2.1/\Cm aG x.1.toNat x.2.2.2/\(x.2.2.1,x.2.2.2)=(l.take x.1.toNat).foldl (nK 13 aG) ((eR aG [0]).1,(eR aG [0]).1),fun x=>(l.length-x.1).toNat,
  ⟨Waz _,by dsimp only;omega,by dsimp only;rw[e0];exact s0,by dsimp only;rw[e0];exact s0,rfl⟩,?_⟩
 rintro⟨i,e,a,d⟩ ⟨i0,i1,ha,hd,hf⟩
 dsimp only at i0 i1 ha hd hf ⊢;refine⟨fun h=>?_,fun h=>?_⟩
 ·have h:=dt h;have hm:=XE (l:=l) (k:=i.toNat) (by omega) z
  have e1:(i+1).toNat=i.toNat+1:=by omega
  have qJ:l.take (i+1).toNat=l.take i.toNat++[l.getD i.toNat z]:=by
   rw[e1,Wbc,Wab,Waa (by omega)]
   rfl
  generalize l.getD i.toNat z=c at hm qJ ⊢
  obtain⟨kc,pc,ac,oc,atc,⟨⟩⟩:=c;have hok:=hkc _ hm;obtain⟨q0,q1⟩:0<=kc/\kc<=255:=hok.1
  obtain⟨q2,q3⟩:0<=pc/\pc<=255:=hok.2.1
  obtain⟨q4,q5⟩:0<=ac/\ac<=255:=hok.2.2.1
  obtain⟨q6,q7⟩:0<=oc/\oc<=255:=hok.2.2.2.1
  have hpos:1<=(aq 13 d).length:=by rw[jw];exact AA hd.good.val
  have hlen:((aq 13 d).length:Int)≠0:=by omega
  have qcN:aG≠0:=by omega
  have hg:=hd.good;have w1:=wrap_u8 q2 q3;have w2:=wrap_u8 q4 q5;have w3:=wrap_u8 q6 q7;have m0:kc.tmod 3=kc % 3:=WaI q0;have m1:pc.tmod ((aq 13 d).length:Int)=pc % ((aq 13 d).length:Int):=WaI q2;have m2:ac.tmod aG=ac % aG:=WaI q4;have m3:oc.tmod 32=oc % 32:=WaI q6;simp only[w1,w2,w3,m0,m1,m2,m3];obtain⟨R,hR⟩:∃R,R=qP 13 aG d (kc,pc,ac,oc,atc,()):=⟨_,rfl⟩
  have cut:kc % 3=0->gM 13 d (pc % ((aq 13 d).length:Int)) (ac % aG) atc [oc % 32]=R:=fun k=>by
   rw[hR];unfold qP;rw[if_pos k]
  have join:kc % 3=1->cw 13 d (pc % ((aq 13 d).length:Int))=R:=fun k=>by
   rw[hR];unfold qP;rw[if_neg (by show ¬kc % 3=0;omega),if_pos k]
  have qqp:kc % 3=2->iW 13 d (pc % ((aq 13 d).length:Int)) [oc % 32]=R:=fun k=>by
   rw[hR];unfold qP;rw[if_neg (by show ¬kc % 3=0;omega),if_neg (by show ¬kc % 3=1;omega)]
  have yes:R.2=0->aa (i+1)/\(0<=i+1/\i+1<=(l.length:Int)/\Cm aG (i+1).toNat d/\Cm aG (i+1).toNat R.1/\(d,R.1)=(l.take (i+1).toNat).foldl (nK 13 aG) ((eR aG [0]).1,(eR aG [0]).1))/\(l.length-(i+1)).toNat<(l.length-i).toNat:=fun k=>by
   refine⟨bP (by omega) (by omega),⟨by omega,by omega,hd.le (by omega),?_,?_⟩,by omega⟩
   ·rw[e1,hR];rw[hR]at k;exact hd.step (by omega) _ k
   ·rw[qJ,WcF,<-hf];show _=nK 13 aG (a,d) (kc,pc,ac,oc,atc,())
    unfold nK;rw[if_pos (by rw[<-hR];exact k),<-hR]
  have no:¬R.2=0->aa (i+1)/\(0<=i+1/\i+1<=(l.length:Int)/\Cm aG (i+1).toNat a/\Cm aG (i+1).toNat d/\(a,d)=(l.take (i+1).toNat).foldl (nK 13 aG) ((eR aG [0]).1,(eR aG [0]).1))/\(l.length-(i+1)).toNat<(l.length-i).toNat:=fun k=>by
   refine⟨bP (by omega) (by omega),⟨by omega,by omega,ha.le (by omega),hd.le (by omega),?_⟩,by omega⟩
   rw[qJ,WcF,<-hf];show _=nK 13 aG (a,d) (kc,pc,ac,oc,atc,())
   unfold nK;rw[if_neg (by rw[<-hR];exact k)]
  refine⟨⟨i0,h⟩,hg.pre,by decide,fun hz=>absurd (dt hz) hlen,fun _=>⟨by decide,fun k0=>?_,fun k0=>⟨fun k1=>?_,fun k1=>⟨fun k2=>?_,fun k2=>?_⟩⟩⟩⟩
  ·rw[cut (dt k0)];repeat' first|exact hlen|exact qcN|exact hg|exact fun h=>⟨yes (dt h),yes (dt h)⟩|exact fun h=>no (df h)|apply And.intro
  ·have hb:pc % ((aq 13 d).length:Int)<=1000000:=by
    have:=Int.emod_lt_of_pos pc (show (0:Int)<(aq 13 d).length by omega)
    have:=hg.Iw
    rw[<-jw]at this;omega
   rw[join (dt k1)];repeat' first|exact hlen|exact qcN|exact⟨hg,hb⟩|exact fun h=>⟨yes (dt h),yes (dt h)⟩|exact fun h=>no (df h)|apply And.intro
  ·rw[qqp (dt k2)];repeat' first|exact hlen|exact qcN|exact hg|exact fun h=>⟨yes (dt h),yes (dt h)⟩|exact fun h=>no (df h)|apply And.intro
  ·have:=df k0
   have:=df k1
   have:=df k2
   omega
 ·have h:=df h;rw[Wap (by omega)]at hf
  have e:wM 13 aG l=(a,d):=by rw[hf];rfl
  have ea:(wM 13 aG l).1=a:=by rw[e]
  have ed:(wM 13 aG l).2=d:=by rw[e]
  have hV:=hd.YI (by omega)
  have h12:decide ((l.length:Int)<=12)=true:=decide_eq_true (by omega)
  simp[ea,ed,h12,hV]
end Go.Proofs.YtobfmplofoofkaaGreatDoor
namespace Go.PL
open Go.AM
theorem EE:∀{n:Nat} {a b:List Int},a.length=n->b.length=n->(fX a b=true↔∃i,i<n/\(∀k,k<i->a.getD k 0=b.getD k 0)/\a.getD i 0<b.getD i 0)
 |0,a,b,ha,hb=>by
  have e1:=WaT ha;have e2:=WaT hb;subst e1 e2;simp[fX]
 |n+1,[],b,ha,hb=>by cases ha
 |n+1,a::l,[],ha,hb=>by cases hb
 |n+1,a::l,b::m,ha,hb=>by
  have ih:=EE (n:=n) (a:=l) (b:=m) (by simpa using ha) (by simpa using hb)
  simp only[fX,WaL,Wac,decide_eq_true_eq];rw[ih];constructor
  ·rintro (h|⟨rfl,i,h1,h2,h3⟩)
   ·exact⟨0,by omega,fun k hk=>by omega,h⟩
   ·refine⟨i+1,by omega,fun k hk=>?_,h3⟩
    cases k with
    |zero=>rfl
    |succ k=>exact h2 k (by omega)
  ·rintro⟨i,h1,h2,h3⟩
   cases i with
   |zero=>exact .inl h3
   |succ i=>exact .inr ⟨h2 0 (by omega),i,by omega,fun k hk=>h2 (k+1) (by omega),h3⟩
theorem qno:∀c∈List.range 256,∀h∈List.range 9,mb (c:Int) h<=(c:Int):=by decide+kernel
theorem qga{c d:Int}(h:c<=d)(r:Nat):mb c r<=mb d r:=by
 unfold mb;have hp:(0:Int)<2 ^ (8-r):=Int.pow_pos (by decide)
 exact Int.mul_le_mul_of_nonneg_right (Int.ediv_le_ediv hp h) (Int.le_of_lt hp)
theorem qgb{x:List Int}(hx:aV x)(n:Nat):fX x (cG x n)=false:=by
 cases h:fX x (cG x n) with
 |false=>rfl
 |true=>
  obtain⟨i,hi,-,h3⟩:=(EE hx.1 (dZ x n)).1 h;rw[b9 _ _ _ hi]at h3;obtain⟨c,hc,ec⟩:=jX (iw hx i);rw[ec]at h3;have:=qno c hc (min (n-8*i) 8) (List.mem_range.2 (by omega))
  omega
theorem J7{x y:List Int}(hx:aV x)(hy:aV y)(n:Nat)(h:fX x y=true):fX (cG y n) (cG x n)=false:=by
 cases h':fX (cG y n) (cG x n) with
 |false=>rfl
 |true=>
  obtain⟨j,hj,j2,j3⟩:=(EE hx.1 hy.1).1 h;obtain⟨i,hi,i2,i3⟩:=(EE (dZ y n) (dZ x n)).1 h';rw[b9 _ _ _ hi,b9 _ _ _ hi]at i3;rcases Nat.lt_trichotomy i j with hij|hij|hij
  ·rw[j2 i hij]at i3;omega
  ·subst hij;have:=qga (Int.le_of_lt j3) (min (n-8*i) 8)
   omega
  ·have e:=i2 j hij;rw[b9 _ _ _ (by omega),b9 _ _ _ (by omega)]at e
   by_cases h8:8<=n-8*j
   ·rw[show min (n-8*j) 8=8 by omega,zY,zY]at e
    omega
   ·rw[show min (n-8*i) 8=0 by omega,LK (iw hy i),LK (iw hx i)]at i3
    omega
theorem fC{p:Px}:bQ p=true↔(0<=p.2.1/\p.2.1<=128)/\cG p.1 p.2.1.toNat=p.1:=by
 unfold bQ;rw[Wac,decide_eq_true_eq,decide_eq_true_eq]
theorem PS{p:Px}(hp:aV p.1)(hr:bQ p=true){x y:List Int}(hx:aV x)(hy:aV y)(hxy:fX x y=true)(hpx:fX x p.1=false)(hu:under p y=true):under p x=true:=by
 have hm:=(fC.1 hr).2;have e:=(gJ _ _).1 hu;refine (gJ _ _).2 (zX _ _ ?_ ?_)
 ·cases h:fX p.1 x with
  |true=>
   have:=J7 hp hx p.2.1.toNat h
   rw[hm]at this;exact this
  |false=>
   rw[zX _ _ hpx h,hm,mL]
 ·have:=J7 hx hy p.2.1.toNat hxy
  rw[e]at this;exact this
theorem SU{p:Px}{x:List Int}(hx:aV x)(hu:under p x=true):fX x p.1=false:=by
 rw[<-(gJ _ _).1 hu];exact qgb hx _
theorem qgc{s:List It}(hs:s.Pairwise xk)(hok:∀it∈s,aV it.1){p:Px}(hp:aV p.1)(hr:bQ p=true){j:Nat}(z:It)(hj:j<=(s.drop (cA s p.1)).length)
 (h1:∀i,i<j->under p ((s.drop (cA s p.1)).getD i z).1=true) (h2:∀i,j<=i->i<(s.drop (cA s p.1)).length->under p ((s.drop (cA s p.1)).getD i z).1=false):
 (s.drop (cA s p.1)).take j=ai s p:=by
 obtain⟨t1,t2⟩:=Aa (x:=p.1) hs;generalize hd:s.drop (cA s p.1)=r at*
 have e:s=s.take (cA s p.1)++r:=by rw[<-hd,Wax]
 unfold ai;rw[e,List.filter_append];have a1:(s.take (cA s p.1)).filter (fun it=>under p it.1)=[]:=by
  rw[Wca];intro it hit hu;rw[t1]at hit;obtain⟨hit,hlt⟩:=List.mem_filter.1 hit;rw[SU (hok it hit) hu]at hlt;cases hlt
 have a2:r.filter (fun it=>under p it.1)=r.take j:=by
  rw[<-Wax j r,List.filter_append];have b1:(r.take j).filter (fun it=>under p it.1)=r.take j:=by
   rw[WcS];intro it hit;obtain⟨i,hi,rfl⟩:=WaM hit;have hi':i<j:=by rw[Waf]at hi;omega
   have:=h1 i hi'
   rw[Wab,Waa (by omega)]at this
   rw[List.getElem_take];exact this
  have b2:(r.drop j).filter (fun it=>under p it.1)=[]:=by
   rw[Wca];intro it hit;obtain⟨i,hi,rfl⟩:=WaM hit;have hi':j+i<r.length:=by rw[List.length_drop]at hi;omega
   have:=h2 (j+i) (by omega) hi'
   rw[Wab,Waa hi']at this;rw[List.getElem_drop];simp only[Wa3]at this;rw[this];simp
  rw[b1,b2,WaA,WaR (by rw[Waf];omega),Wb6,Nat.min_self]
 rw[a1,a2,WaY]
theorem qcO{s:List It}(hs:s.Pairwise xk)(hok:∀it∈s,aV it.1){p:Px}(hp:aV p.1)(hr:bQ p=true)(z:It):∀i j,i<=j->j<(s.drop (cA s p.1)).length->
 under p ((s.drop (cA s p.1)).getD j z).1=true->under p ((s.drop (cA s p.1)).getD i z).1=true:=by
 intro i j hij hj hu;rcases Wak i j with hlt|hge
 ·obtain⟨t1,t2⟩:=Aa (x:=p.1) hs;have hmem:∀k,k<(s.drop (cA s p.1)).length->(s.drop (cA s p.1)).getD k z∈s.drop (cA s p.1):=fun k hk=>by
   rw[Wab,Waa hk];exact WaJ hk
  have mi:=hmem i (by omega)
  have mj:=hmem j hj;have hsd:fX ((s.drop (cA s p.1)).getD i z).1 ((s.drop (cA s p.1)).getD j z).1=true:=by
   have Qi:(s.drop (cA s p.1)).Pairwise xk:=hs.sublist (List.drop_sublist _ _);rw[Wab,Wab,Waa (by omega),Waa hj]
   exact List.pairwise_iff_getElem.1 Qi i j (by omega) hj hlt
  refine PS hp hr (hok _ (Wbd mi)) (hok _ (Wbd mj)) hsd ?_ hu
  generalize (s.drop (cA s p.1)).getD i z=q at mi ⊢
  rw[t2]at mi;simpa using (List.mem_filter.1 mi).2
 ·have:i=j:=by omega
  subst this;exact hu
theorem qkg{s:List It}(hs:s.Pairwise xk){x:List Int}(h:cJ s x=true)(z:It):cA s x<s.length/\(s.getD (cA s x) z).1=x/\s.getD (cA s x) z∈s:=by
 obtain⟨it,hit,rfl⟩:=je.1 h;obtain⟨i,hi,rfl⟩:=WaM hit;have hl:(aA s).length=s.length:=Wav _;have e:(s.getD i z).1=(s[i]).1:=by rw[Wab,Waa hi];rfl
 have hk:cA s (s[i]).1=i:=by
  rw[u5];refine (Mc (eF hs) z.1 _ (k:=i) (by omega) (fun j hj=>?_) fun j h1 h2=>?_).1
  ·rw[<-e,mB];exact Es (eF hs) z.1 hj (by omega)
  ·rw[<-e,mB];cases hq:fX ((aA s).getD j z.1) ((aA s).getD i z.1) with
   |false=>rfl
   |true=>
    rcases Wak i j with hij|hij
    ·rw[BM (Es (eF hs) z.1 hij h2)]at hq;cases hq
    ·have:i=j:=by omega
     subst this;rw[mL]at hq;cases hq
 rw[hk];exact⟨hi,e,by rw[Wab,Waa hi];exact WaJ hi⟩
theorem qgd:∀c∈List.range 256,∀r∈List.range 8,mb (c:Int) r=(c:Int)->aK BinOp.or IntKind.u8 (c:Int) ((128:Int) / (2:Int) ^ r)=(c:Int)+128 / 2 ^ r:=by decide+kernel
theorem EF(a b:List Int):decide (0<=nC a b)= !fX a b:=by
 unfold nC;cases fX a b with
 |true=>rfl
 |false=>
  simp only[WaG,if_false];split<;>rfl
theorem AB{α:Type}(l:List α){k:Nat}(h:k<l.length)(a b:α):l.getD k a=l.getD k b:=by
 rw[Wab,Wab,Waa h];rfl
end Go.PL
namespace Go.Proofs.YtobfmplofoofkaaGreatDoor
open Go.AM Go.PL
attribute [local irreducible] aW cz
theorem Hz:jK bs.P Sf:=⟨JT,Pf,qbY,Sd,Xe,qfI,UK,RO,trivial⟩
theorem XH:au JD0:=az Hz trivial
theorem XI:au JS0:=az Hz trivial
theorem XJ:au JU0:=az Hz trivial
theorem XK:au JH0:=az Hz trivial
theorem Cn:Sat bs.P 62 v5:=bq XH (fun x=>qb2 x.1.1 x.2) fun (x:Sk×List Int) hk hp=>⟨⟨rfl,hp⟩,rfl⟩
theorem J8{s:List It}(h:Ub SK (s,())):∀it∈s,aV it.1:=fun it hi=>gL (h.1.2 it hi).1
theorem SV:Sat bs.P 99 GK:=bq XI Xg fun (m:Pc) hk hp=>by
 delta GN IR LP NX SD SP ln qg z0 z1 z2 z3 z4;dsimp only
 have hl:m.2.2.2.2.1.length<=9223372036854775807:=hk.2.2.2.2.1.1;refine⟨fun h=>?_,fun h=>⟨fun h2=>?_,fun h2=>⟨trivial,fun h3=>?_,fun h3=>⟨trivial,fun h4=>?_,fun h4=>⟨fun h5=>?_,fun h5=>⟨fun h6=>?_,fun h6=>⟨fun h7=>?_,fun h7=>⟨fun h8=>?_,fun h8=>?_⟩⟩⟩⟩⟩⟩⟩⟩
 ·unfold bh;rw[if_pos (.inl (dt h))]
 ·unfold bh;rw[if_pos (.inr (dt h2))]
 all_goals have n0:¬(m.1<1\/4<m.1):=by have:=df h;have:=df h2;omega
 ·unfold bh;rw[if_neg n0,if_pos (by rw[show dK m=false by simpa using h3];rfl)]
 all_goals have f1:dK m=true:=by simpa using h3
 ·unfold bh;rw[if_neg n0,if_pos (by rw[f1,show bQ m.2.1=false by simpa using h4];rfl)]
 all_goals have f2:bQ m.2.1=true:=by simpa using h4
 ·unfold bh;have:=dt h5
  rw[if_neg n0,if_pos (by rw[f1,f2,decide_eq_false (by omega)];rfl)]
 ·unfold bh;have:=dt h6
  rw[if_neg n0,if_pos (by rw[f1,f2,decide_eq_false (by omega)];rfl)]
 ·unfold bh;have:=dt h7
  rw[if_neg n0,if_pos (by rw[f1,f2,decide_eq_false (by omega)];rfl)]
 ·unfold bh;have:=dt h8
  rw[if_neg n0,if_pos (by rw[f1,f2,decide_eq_false (by omega)];rfl)]
 have g5:=df h5;have g6:=df h6;have g7:=df h7;have g8:=df h8;have f3:(dK m&&bQ m.2.1&&decide (0<=m.2.2.2.1/\m.2.2.2.1<=65536/\m.2.2.2.2.1.length<=65536/\m.2.2.2.2.2.1.length<=1048576))=true:=by
  rw[f1,f2,decide_eq_true (by omega)]
  rfl
 have hc:bh m=if (iz m.2.2.2.2.1&&(decide (m.1≠2)||m.2.2.2.2.1.all fun x=>under m.2.1 x))=false then 3 else 0:=by
  unfold bh;rw[if_neg n0,if_neg (by rw[f3];simp)]
 have hpx:W9 m.2.1:=by
  have:=(fC.1 f2).1
  exact⟨this.1,by omega⟩
 rw[hc];obtain⟨l,hl'⟩:∃l,l=m.2.2.2.2.1:=⟨_,rfl⟩
 have gl:l.length<=65536:=by rw[hl'];omega
 rw[<-hl']at hl ⊢;obtain⟨z,hz⟩:∃z,z=List.replicate (16:Nat) (0:Int):=⟨_,rfl⟩
 rw[<-hz];clear hz
 have qqq:∀k,0<k->k<l.length->fX (l.getD (k-1) z) (l.getD k z)=false->iz l=false:=fun k h0 hk hlt=>by
  unfold iz;rw[List.all_eq_false];refine⟨k,List.mem_range.2 hk,?_⟩
  rw[decide_eq_false (by omega),WbO,AB l (show k-1<l.length by omega) [] z,AB l hk [] z,hlt]
  simp
 have qnp:∀k,k<l.length->m.1=2->under m.2.1 (l.getD k z)=false->(decide (m.1≠2)||l.all fun x=>under m.2.1 x)=false:=fun k hk e hu=>by
  rw[decide_eq_false (by omega),WbO,List.all_eq_false]
  refine⟨l.getD k z,?_,by rw[hu];simp⟩
  rw[Wab,Waa hk];exact WaJ hk
 refine⟨fun x=>0<=x/\x<=l.length/\∀k:Nat,(k:Int)<x->(k=0\/fX (l.getD (k-1) z) (l.getD k z)=true)/\(m.1=2->under m.2.1 (l.getD k z)=true),fun x=>(l.length-x).toNat,
  ⟨Waz _,by omega,fun k hk=>absurd hk (by omega)⟩,?_⟩
 rintro x ⟨x0,x1,x2⟩
 have next:x<l.length->(0<x->fX (l.getD (x-1).toNat z) (l.getD x.toNat z)=true)->(m.1=2->under m.2.1 (l.getD x.toNat z)=true)->
  aa (x+1)/\(0<=x+1/\x+1<=l.length/\∀k:Nat,(k:Int)<x+1->(k=0\/fX (l.getD (k-1) z) (l.getD k z)=true)/\(m.1=2->under m.2.1 (l.getD k z)=true))/\(l.length-(x+1)).toNat<(l.length-x).toNat:=by
  intro hx a1 a2;refine⟨iC x0 hx hl,⟨by omega,by omega,fun k hk=>?_⟩,by omega⟩
  rcases Wa4 (k:Int) x with hlt|hge
  ·exact x2 k hlt
  ·have e:k=x.toNat:=by omega
   subst e;refine⟨?_,a2⟩
   by_cases e0:x.toNat=0
   ·exact .inl e0
   ·have:=a1 (by omega)
    rw[show (x-1).toNat=x.toNat-1 by omega]at this
    exact .inr this
 refine⟨fun hx=>?_,fun hx=>?_⟩
 ·have hx:=dt hx;have qkh:(iz l&&(decide (m.1≠2)||l.all fun x=>under m.2.1 x))=false->(3:Int)=if (iz l&&(decide (m.1≠2)||l.all fun x=>under m.2.1 x))=false then 3 else 0:=fun h=>by rw[if_pos h]
  refine⟨⟨x0,hx⟩,fun hp=>?_,fun hp=>⟨fun yW=>⟨hpx,fun hu=>qkh ?_,fun hu=>?_⟩,fun yW=>?_⟩⟩
  ·have hp:=dt hp;refine⟨bP (by omega) (by omega),⟨by omega,by omega⟩,trivial,fun ho=>qkh ?_,fun ho=>⟨fun yW=>⟨hpx,fun hu=>qkh ?_,fun hu=>?_⟩,fun yW=>?_⟩⟩
   ·rw[EF]at ho;rw[qqq x.toNat (by omega) (by omega) (by rw[show x.toNat-1=(x-1).toNat by omega];simpa using ho)]
    rfl
   ·rw[qnp x.toNat (by omega) (dt yW) (by simpa using hu),Bool.and_false]
   ·rw[EF]at ho;exact next hx (fun _=>by simpa using ho) fun _=>by simpa using hu
   ·rw[EF]at ho;exact next hx (fun _=>by simpa using ho) fun e=>absurd e (df yW)
  ·rw[qnp x.toNat (by omega) (dt yW) (by simpa using hu),Bool.and_false]
  ·exact next hx (fun h=>absurd h (df hp)) fun _=>by simpa using hu
  ·exact next hx (fun h=>absurd h (df hp)) fun e=>absurd e (df yW)
 ·have hx:=df hx;have s1:iz l=true:=by
   unfold iz;rw[Wau];intro k hk;have hk:=List.mem_range.1 hk;rcases (x2 k (by omega)).1 with e|e
   ·rw[decide_eq_true e,Bool.true_or]
   ·rw[WaL];by_cases e0:k=0
    ·exact .inl (decide_eq_true e0)
    ·rw[AB l (show k-1<l.length by omega) [] z,AB l hk [] z]
     exact .inr e
  have s2:(decide (m.1≠2)||l.all fun x=>under m.2.1 x)=true:=by
   by_cases e:m.1=2
   ·rw[WaL];refine .inr (List.all_eq_true.2 fun y hy=>?_)
    obtain⟨k,hk,rfl⟩:=WaM hy;have:=(x2 k (by omega)).2 e
    rw[Wab,Waa hk]at this;exact this
   ·rw[decide_eq_true e,Bool.true_or]
  rw[if_neg (by rw[s1,s2];simp)]
theorem PT:Sat bs.P 131 B6:=bq XK Sh fun (p:Px) hk hp=>by
 delta rE rF y0 y1 ya BJ zW kD BK BL y2 y3 y4 y5 y6 y7 y8 y9 z0 z1 uR z2 z8
 obtain⟨d,n,⟨⟩⟩:=p;obtain⟨hr,hl⟩:bQ (d,n,())=true/\n<128:=hp
 obtain⟨⟨h0,h1⟩,h2⟩:=fC.1 hr;dsimp only at h0 h1 h2 ⊢;have hd:aV d:=gL hk.1;have e1:n.tdiv 8=n / 8:=Wbw h0;have e2:n.tmod 8=n % 8:=WaI h0;rw[nG hd.1,e1,e2];have key:aK BinOp.or IntKind.u8 (d.getD (n / 8).toNat 0) (128 / 2 ^ (n % 8).toNat)=d.getD (n / 8).toNat 0+128 / 2 ^ (n % 8).toNat:=by
  have h4:=congrArg (fun l=>l.getD (n / 8).toNat 0) h2
  simp only[b9 _ _ _ (show (n / 8).toNat<16 by omega)]at h4
  rw[show min (n.toNat-8*(n / 8).toNat) 8=(n % 8).toNat by omega]at h4
  have hc:=iw hd (n / 8).toNat;generalize d.getD (n / 8).toNat 0=c at h4 hc ⊢
  obtain⟨k,hk,rfl⟩:=jX hc;exact qgd k hk _ (List.mem_range.2 (by omega)) h4
 rw[key];have q1:(n / 8).toNat=n.toNat / 8:=by omega
 have q2:(n % 8).toNat=n.toNat % 8:=by omega
 have fin:(((d,n+1,()),(d.set (n / 8).toNat (d.getD (n / 8).toNat 0+128 / 2 ^ (n % 8).toNat),n+1,())):Px×Px)=(half (d,n,()) false,half (d,n,()) true):=by
  rw[q1,q2];rfl
 have c1:aa (n / 8):=bP (by omega) (by omega)
 have c2:aa (n+1):=bP (by omega) (by omega)
 have c3:(0:Int)<=n / 8/\n / 8<16:=⟨by omega,by omega⟩
 have c4:(0:Int)<=n % 8/\n % 8<=8:=⟨by omega,by omega⟩
 have c5:(8:Int)≠0:=by decide
 simp only[fin,c1,c2,c3,c4,c5,ne_eq,not_false_eq_true,and_self]
theorem qge{s:List It}{a:Nat}:List.take (s.length-a) (List.drop a s)=s.drop a:=Wap (by rw[List.length_drop];exact Wan _)
theorem PU:Sat bs.P 132 GL:=bq XJ (fun x=>qfJ x.1.1 x.2) fun (x:Sk×Px) hk hp=>by
 delta kI yx yy B7 Mf yz Mg u6 B8 Mh Sg Mi B9 IR LP NX SD SP eI ln y0 y1 qg z0 z1 z2 j9;dsimp only
 obtain⟨⟨s,⟨⟩⟩,p⟩:=x;obtain⟨⟨hs,hl,-⟩,hr⟩:eA s/\bQ p=true:=hp
 have hok:=J8 hk.1;have VY:aV p.1:=gL hk.2.1;have hpx:W9 p:=by
  have:=(fC.1 hr).1
  exact⟨this.1,by omega⟩
 dsimp only;obtain⟨z,hz⟩:∃z:It,z=(List.replicate (16:Nat) (0:Int),[],()):=⟨_,rfl⟩
 rw[<-hz];clear hz
 have hs':=eF hs;have hll:(aA s).length=s.length:=Wav _;have mono:=Mb hs' z.1 p.1;refine⟨BI (fun i=>fX ((aA s).getD i z.1) p.1) (aA s).length,fun x=>(x.2-x.1).toNat,by rw[<-hll];exact qfE _ _,?_⟩
 rintro⟨a,b⟩ hB
 have T0:=hB;obtain⟨g0,g1,g2,-,-⟩:=T0;dsimp only at g0 g1 g2 ⊢;refine⟨fun hi=>?_,fun hi=>?_⟩
 ·have hi:=dt hi;rw[L9 (show 0<=a+b by omega) (by omega)]
  simp only[mB,EF,Bool.not_not];refine⟨bP (by omega) (by omega),⟨by decide,by decide⟩,⟨by omega,by omega⟩,trivial,fun h=>?_,fun h=>?_⟩
  ·exact⟨bP (by omega) (by omega),UI mono hB hi h,by omega⟩
  ·exact⟨UJ mono hB hi h,by omega⟩
 ·have hi:=df hi;obtain⟨h1,h2,h3,h4⟩:=Ma hB hi;obtain⟨e1,-,-⟩:=Mc hs' z.1 p.1 h1 h3 h4;dsimp only at h1 h2 e1;rw[<-u5]at e1;rw[qge,<-e1];have um:=qcO hs hok VY hr z;have ul:∀{j:Nat},_:=fun {j}=>qgc hs hok VY hr (j:=j) z
  have lr:(s.drop (cA s p.1)).length<=900:=by rw[List.length_drop];omega
  refine⟨⟨h2,by omega⟩,?_⟩
  generalize s.drop (cA s p.1)=R at um ul lr ⊢
  simp only[Bool.not_not,Wbe,Nat.sub_zero];repeat' apply And.intro
  all_goals
   refine⟨fun y=>BI (fun i=>under p (R.getD i z).1) R.length (y.1,y.2.1)/\y.2.2=R,fun y=>(y.2.1-y.1).toNat,⟨qfE _ _,rfl⟩,?_⟩
   rintro⟨a',b',r⟩ ⟨hB2,hr2⟩
   dsimp only at hB2 hr2;subst hr2;have hB3:=hB2;obtain⟨k0,k1,k2,-,-⟩:=hB3;dsimp only at k0 k1 k2 ⊢;refine⟨fun hi2=>?_,fun hi2=>?_⟩
   ·have hi2:=dt hi2;rw[L9 (show 0<=a'+b' by omega) (by omega)]
    refine⟨bP (by omega) (by omega),⟨by decide,by decide⟩,⟨by omega,by omega⟩,hpx,fun h=>?_,fun h=>?_⟩
    ·exact⟨bP (by omega) (by omega),⟨UI um hB2 hi2 h,rfl⟩,by omega⟩
    ·exact⟨⟨UJ um hB2 hi2 h,rfl⟩,by omega⟩
   ·have hi2:=df hi2;obtain⟨j1,j2,j3,j4⟩:=Ma hB2 hi2;exact⟨⟨Waz _,j2,by omega⟩,ul j1 j3 j4⟩
theorem qki:jK bs.P ((62,v5)::(132,GL)::Sf):=⟨Cn,PU,Hz⟩
theorem Co:au JD1:=az qki trivial
theorem HA:Sat bs.P 47 Al:=bq Co (fun x=>Xh x.1.1 x.2) fun (x:Sk×List Int) hk hp=>by
 obtain⟨⟨s,⟨⟩⟩,x⟩:=x;obtain⟨hs,hl,ht⟩:eA s:=hp
 dsimp only;refine⟨⟨hs,hl,ht⟩,fun h=>?_,fun h=>?_⟩
 ·have h:cJ s x=false:=by simpa using h
  have e:cD s x=none:=m8.2 h;rw[h,e];rfl
 ·have h:cJ s x=true:=by simpa using h
  obtain⟨h1,h2,h3⟩:=qkg hs h (List.replicate (16:Nat) (0:Int),[],());refine⟨⟨by omega,by omega⟩,?_⟩
  rw[h,Waw];have e:=yc hs h3;rw[h2]at e;rw[e];rfl
theorem MO:Tryz.prog.bytesOf 70=16:=by kernel_rfl
theorem oJ{α:Type}(l:List α)(i:Nat)(h:i<l.length)(d:α):l.take i++[l.getD i d]=l.take (i+1):=by
 rw[Wbc,Wab,Waa h];rfl
theorem PV:Sat bs.P 130 GM:=bq Co (fun x=>Si x.1.1 x.2) fun (x:Sk×Px) hk hp=>by
 delta IR LP NX SD eI eL ln qg z0 z1;dsimp only
 obtain⟨⟨s,⟨⟩⟩,p⟩:=x;obtain⟨⟨hs,hl,ht⟩,hr⟩:eA s/\bQ p=true:=hp
 dsimp only;have hu:(ai s p).length<=900:=Wbj (WaF _ _) hl;have hn:(aA (ai s p)).length=(ai s p).length:=Wav _;simp only[mB];refine⟨⟨⟨hs,hl,ht⟩,hr⟩,fun x=>0<=x.1/\x.1<=(ai s p).length/\x.2=(aA (ai s p)).take x.1.toNat,fun x=>((ai s p).length-x.1).toNat,⟨Waz _,by omega,rfl⟩,?_⟩
 rintro⟨i,l⟩ ⟨i0,i1,i2⟩
 dsimp only at i0 i1 i2 ⊢;subst i2;refine⟨fun h=>?_,fun h=>?_⟩
 ·have h:=dt h;have e1:(i+1).toNat=i.toNat+1:=by omega
  rw[oJ _ _ (by omega)]
  exact⟨⟨i0,h⟩,Dc 16 MO (by omega) (by simp only[Waf,Wae,WaB];omega),bP (by omega) (by omega),⟨by omega,by omega,by rw[e1]⟩,by omega⟩
 ·have h:=df h;exact Wap (by omega)
end Go.Proofs.YtobfmplofoofkaaGreatDoor
namespace Go.PL
open Go.AM
structure HB (T:List It) (m:Pc):Prop where
 nl:m.2.2.2.2.1.length<=56
 tl:m.2.2.2.2.2.1.length<=20000
 tx:m.1=4->((eK m.2.2.2.2.2.1,m.2.2.2.2.2.1,()):It)∈T
 p16:m.2.1.1.length=16
 s16:m.2.2.1.length=16
structure TOk (T:List It):Prop where
 len:T.length<=56
 it:∀it∈T,aV it.1/\it.1=eK it.2.1/\it.2.1.length<=20000
structure PW (T s:List It):Prop where
 ok:oh eK s
 sub:∀it∈s,it∈T
theorem PW.len{T s:List It}(h:PW T s):s.length<=T.length:=pI (Da h.ok.1) h.sub
theorem PW.size{T s:List It}(hT:TOk T)(h:PW T s):eA s:=⟨h.ok.1,by have:=h.len;have:=hT.len;omega,fun it hi=>(hT.it it (h.sub it hi)).2.2⟩
theorem qcP{T:List It}(hT:TOk T){it:It}(h:it∈T):((eK it.2.1,it.2.1,()):It)=it:=by
 have:=(hT.it it h).2.1
 obtain⟨a,b,u⟩:=it;simp only at this ⊢
 rw[<-this]
theorem HC{T s:List It}{p:Px}(h:p.1.length=16):HB T (aP Hx s p):=
 ⟨Wbz _,Wbz _,fun e=>absurd e (by show ¬(1:Int)=4;decide),h,s7 _ _⟩
theorem qcQ(s:List It)(p:Px):(aA (ai s p)).length<=s.length:=by
 unfold aA ai;rw[Wav];exact WaF _ _
theorem qkj{T s:List It}{p:Px}(hT:TOk T)(hs:PW T s)(h:p.1.length=16):HB T (lS s p):=
 ⟨by have:=qcQ s p;have:=hs.len;have:=hT.len;show (aA (ai s p)).length<=56;omega,Wbz _,fun e=>absurd e (by show ¬(2:Int)=4;decide),h,by show jW.length=16;decide⟩
theorem qgg{T:List It}{l:List (List Int)}(h:l.length<=56):HB T (fq l):=
 ⟨h,Wbz _,fun e=>absurd e (by show ¬(3:Int)=4;decide),by show jW.length=16;decide,by show jW.length=16;decide⟩
theorem U0{T:List It}(hT:TOk T){it:It}(h:it∈T):HB T (dA it.2.1):=
 ⟨Wbz _,(hT.it it h).2.2,fun _=>by show ((eK it.2.1,it.2.1,()):It)∈T;rw[qcP hT h];exact h,by show jW.length=16;decide,by show jW.length=16;decide⟩
theorem qcR(p:Px)(b:Bool):(half p b).1.length=p.1.length:=by
 unfold half lB;dsimp only;split
 ·exact WaX
 ·rfl
theorem XL{s:List It}{x t:List Int}(h:cD s x=some t):∃it∈s,it.2.1=t:=by
 unfold cD at h;cases e:s.find? (fun it=>decide (it.1=x)) with
 |none=>rw[e]at h;cases h
 |some it=>
  rw[e]at h;exact⟨it,Wcp e,by simpa using h⟩
theorem HD{m:Pc}(h:bh m=0):1<=m.1/\m.1<=4:=by
 unfold bh at h;split at h
 ·cases h
 ·omega
theorem qkk{n:Nat}(h:n<=20000):n<=1048576:=by omega
theorem wo{T s:List It}{m:Pc}(hT:TOk T)(hs:PW T s)(hm:HB T m):
 PW T (cg Hx eK s m).1/\(∀m'∈(cg Hx eK s m).2.1,HB T m')/\(cg Hx eK s m).2.1.length<=60:=by
 have hl:=hs.len;have hTl:=hT.len;unfold cg;split
 ·exact⟨hs,fun m' h=>(by cases h),Wbz _⟩
 ·rename_i hc;have hk:=HD (m:=m) (by simpa using hc)
  split
  ·refine⟨hs,fun m' h=>?_,?_⟩
   ·have h:m'∈Iq Hx s m:=h;unfold Iq at h;split at h
    ·cases h
    ·split at h
     ·rw[List.mem_singleton.1 h];exact qkj hT hs hm.p16
     ·split at h
      ·rw[List.mem_singleton.1 h];exact HC hm.p16
      ·rcases List.mem_cons.1 h with h|h
       ·rw[h];exact HC (by rw[qcR];exact hm.p16)
       ·rw[List.mem_singleton.1 h];exact HC (by rw[qcR];exact hm.p16)
   ·show (Iq Hx s m).length<=60
    unfold Iq;split
    ·simp
    ·split
     ·simp
     ·split<;>simp
  ·split
   ·have hlk:(lT s m.2.2.2.2.1).length<=56:=Wbj (WaF _ _) hm.nl;refine⟨hs,fun m' h=>?_,?_⟩
    ·have h:m'∈Ir s m:=h;unfold Ir at h;rcases List.mem_append.1 h with h|h
     ·split at h
      ·rw[List.mem_singleton.1 h];exact qgg hlk
      ·cases h
     ·obtain⟨it,h1,rfl⟩:=List.mem_map.1 h;exact U0 hT (hs.sub it (List.mem_filter.1 (List.mem_filter.1 h1).1).1)
    ·show (Ir s m).length<=60
     unfold Ir;rw[Wad,Wav];have h1:(qho s m).length<=s.length:=Wbj (WaF _ _) (WaF _ _);split
     ·simp only[Wae,WaB];omega
     ·simp only[WaB];omega
   ·split
    ·refine⟨hs,fun m' h=>?_,?_⟩
     ·have h:m'∈xj s m:=h;unfold xj at h;obtain⟨t,h1,rfl⟩:=List.mem_map.1 h;obtain⟨x,_,h2⟩:=List.mem_filterMap.1 h1;obtain⟨it,h3,rfl⟩:=XL h2;exact U0 hT (hs.sub it h3)
     ·show (xj s m).length<=60
      unfold xj;rw[Wav];have:=Wcw (cD s) m.2.2.2.2.1
      have:=hm.nl
      omega
    ·have h4:m.1=4:=by omega
     have ht:=hm.tx h4;refine⟨?_,fun m' h=>(by cases h),Wbz _⟩
     show PW T (jL eK s m.2.2.2.2.2.1).1
     unfold jL;split
     ·exact hs
     ·split
      ·exact hs
      ·rename_i hn;split
       ·exact hs
       ·refine⟨⟨uS hs.ok.1 (by simpa using hn),fun it hi=>?_⟩,fun it hi=>?_⟩
        ·rcases (jY hs.ok.1).1 hi with e|e
         ·have hn1:aV (eK m.2.2.2.2.2.1):=(hT.it _ ht).1;have key:aV (eK m.2.2.2.2.2.1)/\eK m.2.2.2.2.2.1=eK m.2.2.2.2.2.1/\m.2.2.2.2.2.1.length<=1048576:=⟨hn1,Eq.refl _,qkk hm.tl⟩;rw[e];exact key
         ·exact hs.ok.2 it e
        ·rcases (jY hs.ok.1).1 hi with e|e
         ·rw[e];exact ht
         ·exact hs.sub it e
theorem SW{m:Pc}(h1:m.2.1.1.length=16)(h2:m.2.2.1.length=16):
 ((m.1,([m.2.1.1.getD 0 0,m.2.1.1.getD 1 0,m.2.1.1.getD 2 0,m.2.1.1.getD 3 0,m.2.1.1.getD 4 0,m.2.1.1.getD 5 0,m.2.1.1.getD 6 0,m.2.1.1.getD 7 0,m.2.1.1.getD 8 0,m.2.1.1.getD 9 0,m.2.1.1.getD 10 0,m.2.1.1.getD 11 0,m.2.1.1.getD 12 0,m.2.1.1.getD 13 0,m.2.1.1.getD 14 0,m.2.1.1.getD 15 0],m.2.1.2.1,()),
   [m.2.2.1.getD 0 0,m.2.2.1.getD 1 0,m.2.2.1.getD 2 0,m.2.2.1.getD 3 0,m.2.2.1.getD 4 0,m.2.2.1.getD 5 0,m.2.2.1.getD 6 0,m.2.2.1.getD 7 0,m.2.2.1.getD 8 0,m.2.2.1.getD 9 0,m.2.2.1.getD 10 0,m.2.2.1.getD 11 0,m.2.2.1.getD 12 0,m.2.2.1.getD 13 0,m.2.2.1.getD 14 0,m.2.2.1.getD 15 0],
   m.2.2.2.1,m.2.2.2.2.1,m.2.2.2.2.2.1,()):Pc)=m:=by
 rw[nG h1,nG h2]
abbrev Se:=Int×Pc×Unit
def qOf(q:List Se):List (Int×Pc):=q.map fun w=>(w.1,w.2.1)
structure MI (T:List It) (R:(List It×List It)×Bool) (f:Nat) (q:List Se) (a b:List It):Prop where
 eq:nQ Hx eK f a b (qOf q)=R
 JG:PW T a
 Nf:PW T b
 okq:∀w∈q,(w.1=0\/w.1=1)/\HB T w.2.1
 len:q.length+60*f<=1+60*5001
theorem MI.one{T:List It}{R:(List It×List It)×Bool}{f:Nat}{w:Se}{q:List Se}{a b:List It}(hT:TOk T)(h:MI T R (f+1) (w::q) a b)(hw:w.1=1):
 ((cg Hx eK b w.2.1).2.2≠0->R=((a,b),false))/\((cg Hx eK b w.2.1).2.2=0->MI T R f (q++(cg Hx eK b w.2.1).2.1.map fun m=>(1-w.1,m,())) a (cg Hx eK b w.2.1).1):=by
 have he:=h.eq;unfold qOf at he;rw[Wat,nQ,if_neg (by rw[hw];decide)]at he
 dsimp only at he;obtain⟨h1,h2,h3⟩:=wo hT h.Nf (h.okq w Waq).2;refine⟨fun hn=>?_,fun hn=>?_⟩
 ·rw[if_pos hn]at he;exact he.symm
 ·rw[if_neg (by simpa using hn)]at he
  refine⟨?_,h.JG,h1,fun v hv=>?_,?_⟩
  ·rw[<-he];unfold qOf;rw[WaQ,WbR];congr 2
   refine WbJ fun m _=>?_
   show (1-w.1,m)=(0,m)
   rw[hw];rfl
  ·rcases List.mem_append.1 hv with hv|hv
   ·exact h.okq v (Wal _ hv)
   ·obtain⟨m,hm,rfl⟩:=List.mem_map.1 hv;exact⟨.inl (by show 1-w.1=0;rw[hw];rfl),h2 m hm⟩
  ·have:=h.len
   rw[Wae]at this;rw[Wad,Wav];omega
theorem MI.zero{T:List It}{R:(List It×List It)×Bool}{f:Nat}{w:Se}{q:List Se}{a b:List It}(hT:TOk T)(h:MI T R (f+1) (w::q) a b)(hw:w.1=0):
 ((cg Hx eK a w.2.1).2.2≠0->R=((a,b),false))/\((cg Hx eK a w.2.1).2.2=0->MI T R f (q++(cg Hx eK a w.2.1).2.1.map fun m=>(1-w.1,m,())) (cg Hx eK a w.2.1).1 b):=by
 have he:=h.eq;unfold qOf at he;rw[Wat,nQ,if_pos (by exact hw)]at he
 dsimp only at he;obtain⟨h1,h2,h3⟩:=wo hT h.JG (h.okq w Waq).2;refine⟨fun hn=>?_,fun hn=>?_⟩
 ·rw[if_pos hn]at he;exact he.symm
 ·rw[if_neg (by simpa using hn)]at he
  refine⟨?_,h1,h.Nf,fun v hv=>?_,?_⟩
  ·rw[<-he];unfold qOf;rw[WaQ,WbR];congr 2
   refine WbJ fun m _=>?_
   show (1-w.1,m)=(1,m)
   rw[hw];rfl
  ·rcases List.mem_append.1 hv with hv|hv
   ·exact h.okq v (Wal _ hv)
   ·obtain⟨m,hm,rfl⟩:=List.mem_map.1 hv;exact⟨.inr (by show 1-w.1=1;rw[hw];rfl),h2 m hm⟩
  ·have:=h.len
   rw[Wae]at this;rw[Wad,Wav];omega
theorem qhA{a b:List It}(h:lE a b):TOk (a++b):=⟨by rw[Wad];have:=h.2.2.1;have:=h.2.2.2.1;omega,fun it hi=>by
 rcases List.mem_append.1 hi with e|e
 ·exact⟨(h.1.2 it e).1,(h.1.2 it e).2.1,h.2.2.2.2 it hi⟩
 ·exact⟨(h.2.1.2 it e).1,(h.2.1.2 it e).2.1,h.2.2.2.2 it hi⟩⟩
theorem MI.start{a b:List It}(h:lE a b):MI (a++b) (kR Hx eK a b) 5001 [(1,aP Hx a root,())] a b:=
 ⟨rfl,⟨h.1,fun it hi=>Wbm _ hi⟩,⟨h.2.1,fun it hi=>Wbq _ hi⟩,fun w hw=>by
   rw[List.mem_singleton.1 hw];exact⟨.inr rfl,HC (by show jW.length=16;decide)⟩,Wan _⟩
end Go.PL
