import Derived.Test.YtobfmplofoofkaaGreatDoorKz7
import Derived.ProofKit
import Derived.OpenShut
import Derived.Carry
import Derived.Test.YtobfmplofoofkaaGreatDoorRows
import Derived.Test.YtobfmplofoofkaaGreatDoorProg
import Derived.KernelRfl
import Derived.Tactics
import Derived.Tactics2
import Derived.WalkKit
import Derived.WalkSpells
import Derived.StillTactics
import Derived.Laws.Pointers
import Derived.Laws.Externs
import Derived.LoopN
import Derived.Handy
import Derived.Lib.Small
import Derived.Lib.Walk
import Derived.Lib.BytesEntry
import Derived.Lib.Bytealg
set_option linter.unusedSimpArgs false
set_option linter.unusedVariables false
namespace Go.AM
open Go.Proofs.YtobfmplofoofkaaGreatDoor
open Go.ChangeShapes Go.WideShapes Go.ChangeAt Go.RowKit
def wt:(t:Ty)->t.den->Nat
 | .int _,_=>1
 | .bool,_=>1
 | .qi,_=>1
 | .any,_=>1
 | .str,l=>(l:List Int).length+1
 | .arr e,xs=>((xs:List e.den).map (wt e)).sum+1
 | .vec _ e,xs=>((xs:List e.den).map (wt e)).sum
 | .unit,_=>0
 | .pair a b,x=>wt a x.1+wt b x.2
 | .dR a b,x=>Rose.size (fun y=>wt a (Prod.fst y)+wt b (Prod.snd y)) x
theorem OK{α:Type}(f:α->Nat):∀(l:List (Rose α)),Rose.sizes f l=(l.map (Rose.size f)).sum
 |[]=>rfl
 |y::l=>by simp only[Rose.sizes,Wat,WbT,OK f l]
def wts:(ts:List Ty)->dens ts->Nat
 |[],_=>0
 |[t],x=>wt t x
 |t::u::ts,x=>wt t x.1+wts (u::ts) x.2
def fG(w:World):Pr:=fun a=>w.cell? a
theorem LB(w:World)(a:Addr)(v:Value)(h:fG w a=some v):a.spot=none/\w.cell? a=some v:=⟨World.cell?_spot h,h⟩
section
variable {H:Type} {enc:TypeId×Value->H} {P:Program} {w:World} {spare:Nat->Bool} {held:Bool}
theorem JA{α:Type}{R:α->List Value->Prop}{g off ce:Nat}{rd:List Value->Option (DataW H×List MemPlace)}{wf:α->Nat}
 (ih:∀cs x,rd cs=some x->cs.length=ce->∃y,R y cs/\wf y<=Rows.uptoBulk x.1):
 ∀(n i0:Nat) (elems:List (DataW H×List MemPlace)),elems.length=n->
  (∀i,i<n->(w.cells? 0 (Addr.add ⟨g,off,none⟩ ((i0+i)*ce)) ce).bind rd=elems[i]?)->
  ∃(ys:List α) (cells:List Value),ys.length=n/\gu R ys cells/\cells.length=n*ce/\(∀j u,cells[j]?=some u->w.cell? ⟨g,off+(i0*ce+j),none⟩=some u)/\
   (ys.map wf).sum<=Rows.uptoBulkAll (elems.map (·.1)):=by
 intro n;induction n with
 |zero=>intro i0 elems hl _;exact⟨[],[],rfl,rfl,by simp,by simp,by simp⟩
 |succ n ihn=>
  intro i0 elems hl hel;cases elems with
  |nil=>simp at hl
  |cons x xs=>
   have h0:=hel 0 (by omega)
   simp only[Wbh,WcB]at h0;obtain⟨cs,hc,hx⟩:=h0;obtain⟨_,hlen,hcell⟩:=World.cells?_some hc
   obtain⟨y,hy,hw⟩:=ih cs x hx hlen;obtain⟨ys,cells,h1,h2,h3,h4,h5⟩:=ihn (i0+1) xs (by simpa using hl) (fun i hi=>by
    have:=hel (i+1) (by omega)
    rw[show i0+(i+1)=i0+1+i by omega]at this
    simpa using this)
   refine⟨y::ys,cs++cells,by simp[h1],⟨cs,cells,rfl,hy,h2⟩,by simp[h3,hlen,Nat.add_mul];omega,fun j u hj=>?_,by simp only[Wat,WbT,Rows.uptoBulkAll];omega⟩
   by_cases hjc:j<ce
   ·rw[Wao (by omega)]at hj
    have:=hcell j hjc
    rw[hj,add_plain,add_plain]at this;simpa [Wa2]using this
   ·rw[WaH (by omega),hlen]at hj
    have:=h4 (j-ce) u hj
    rw[<-this];congr 2
    rw[Nat.add_mul];omega
mutual
theorem iP:∀(ty:Ty) {t:TypeId} {fuel:Nat} {cs:List Value} {x:DataW H×List MemPlace},qD P ty t=true->
 DataW.trod enc P w 0 spare held fuel t cs=some x->∃d:ty.den,reads (fG w) ty d cs/\cs.length=ty.cells/\wt ty d<=Rows.uptoBulk x.1
 | .int k,t,fuel,cs,x,ht,h=>by
  unfold qD at ht;split at ht
  ·rename_i k' hk;have:k'=k:=by simpa using ht
   subst this;obtain⟨n,rfl,rfl,hw⟩:=DataW.trod_int hk h;simp only[Lit.wf,Wac,decide_eq_true_eq]at hw;exact⟨n,⟨rfl,by unfold IntKind.has;simpa using hw⟩,rfl,by simp[wt,Rows.uptoBulk]⟩
  ·cases ht
 | .bool,t,fuel,cs,x,ht,h=>by
  unfold qD at ht;split at ht
  ·rename_i hk;obtain⟨b,rfl,rfl⟩:=DataW.trod_bool hk h;exact⟨b,rfl,rfl,by simp[wt,Rows.uptoBulk]⟩
  ·cases ht
 | .str,t,fuel,cs,x,ht,h=>by
  unfold qD at ht;split at ht
  ·rename_i hk;obtain⟨s,rfl,rfl,hs⟩:=DataW.trod_string hk h;refine⟨bytesOf s,⟨?_,?_,?_⟩,rfl,by simp[wt,Rows.uptoBulk,bytesOf]⟩
   ·congr 2
    unfold strOf bytesOf;cases s with|mk d=>simp[Wb2]
   ·intro c hc;simp only[bytesOf,WbM]at hc;obtain⟨b,_,rfl⟩:=hc;have:=b.toNat_lt
    omega
   ·simpa [bytesOf]using hs
  ·cases ht
 | .arr e,t,fuel,cs,x,ht,h=>by
  unfold qD at ht;split at ht
  ·rename_i et hk;simp only[Wac]at ht;obtain⟨⟨hc,h1⟩,he⟩:=ht;have hc:=Wam hc;have h1:=Wb0 h1;rcases DataW.trod_slice hk h with ⟨rfl,rfl⟩|⟨a,len,cap,elems,rest,n,rfl,rfl,rfl,hb,hl,hm,hlen,hel,_,_⟩
   ·exact⟨([]:List e.den),⟨none,0,rfl,Wan _,Wbz _,.inl rfl⟩,rfl,by simp[wt,Rows.uptoBulk]⟩
   ·by_cases h0:len=0
    ·subst h0;exact⟨([]:List e.den),⟨some a,cap,rfl,hl,hm,.inl rfl⟩,rfl,by simp[wt,Rows.uptoBulk]⟩
    ·have hsp:a.spot=none:=by
      have:=hel 0 (by omega)
      rw[Waa (by omega),WcB]at this
      obtain⟨cs,hcs,_⟩:=this;obtain⟨_,hcl,hcell⟩:=World.cells?_some hcs
      have:=hcell 0 (by omega)
      rw[Waa (by omega)]at this
      have:=World.cell?_spot this
      unfold Addr.add at this;split at this<;>simp_all
     obtain⟨g,off,sp⟩:=a;simp only at hsp
     subst hsp;obtain⟨ys,cells,y1,y2,y3,y4,y5⟩:=JA (wf:=wt e) (w:=w) (g:=g) (off:=off) (ce:=e.cells) (R:=reads (fG w) e) (rd:=DataW.trod enc P w 0 spare held n et)
      (fun cs x hx _=>let ⟨d,hd,_,hw⟩:=iP e he hx;⟨d,hd,hw⟩) len 0 elems hlen (fun i hi=>by
        have:=hel i hi
        rw[hc]at this;simpa using this)
     exact⟨ys,⟨some ⟨g,off,none⟩,cap,by rw[y1],by omega,hm,.inr ⟨cells,y2,g,off,rfl,fun j u hj=>by simpa [fG]using y4 j u hj⟩⟩,rfl,by simp only[wt,Rows.uptoBulk];omega⟩
  ·cases ht
 | .vec n e,t,fuel,cs,x,ht,h=>by
  unfold qD at ht;split at ht
  ·rename_i m et hk;simp only[Wac]at ht;obtain⟨⟨⟨hm,hc⟩,hs⟩,he⟩:=ht;have hc:=Wam hc;have hs:=Wam hs;have hm:=Wam hm;subst hm;obtain⟨xs,k,rfl,rfl,hl,hx,hel⟩:=DataW.trod_array hk h;rw[hs]at hl;have key:∀(r i:Nat),i+r=m->∃ys:List e.den,ys.length=r/\gu (reads (fG w) e) ys (cs.drop (i*e.cells))/\(ys.map (wt e)).sum<=Rows.uptoBulkAll ((xs.drop i).map (·.1)):=by
    intro r;induction r with
    |zero=>
     intro i hi;refine⟨[],rfl,?_,by simp⟩
     show cs.drop (i*e.cells)=[]
     rw[WcP,hl,<-hi];simp
    |succ r ihr=>
     intro i hi;obtain⟨ys,h1,h2,h3⟩:=ihr (i+1) (by omega)
     have:=hel i (by omega)
     rw[Waa (by omega),hc]at this
     obtain⟨y,hy,_,hw⟩:=iP e he this;refine⟨y::ys,by simp[h1],⟨(cs.drop (i*e.cells)).take e.cells,cs.drop ((i+1)*e.cells),?_,hy,h2⟩,by
      rw[Wa9 (by omega)]
      simp only[Wat,WbT,Rows.uptoBulkAll];omega⟩
     rw[Nat.add_mul,Nat.one_mul,<-List.drop_drop,Wax]
   obtain⟨ys,h1,h2,h3⟩:=key m 0 (by omega)
   exact⟨ys,⟨h1,by simpa using h2⟩,hl,by simp only[wt,Rows.uptoBulk];simp only[Wbe]at h3;omega⟩
  ·cases ht
 | .dR a b,t,fuel,cs,x,ht,h=>by
  unfold qD at ht;split at ht
  ·rename_i fs hk;simp only[Wac]at ht;obtain⟨hs,hA⟩:=ht;have hs:=Wam hs;have key:∀(N:Nat) (fuel:Nat),fuel<=N->∀(cs:List Value) (x:DataW H×List MemPlace),DataW.trod enc P w 0 spare held fuel t cs=some x->
    ∃d:Rose (a.den×b.den),reads (fG w) (.dR a b) d cs/\cs.length=a.cells+1+b.cells/\wt (.dR a b) d<=Rows.uptoBulk x.1:=by
    intro N;induction N with
    |zero=>
     intro fuel hf cs x h;obtain⟨xs,n,rfl,_⟩:=DataW.trod_struct hk h;omega
    |succ N ihN=>
     intro fuel hf cs x h;obtain⟨xs,n,rfl,rfl,hl,hx,hel⟩:=DataW.trod_struct hk h;rw[hs]at hl;obtain⟨da,fs',xs',h1,h2,h3,h4,h5⟩:=tL a (n:=n) (fs:=fs.toList) (xs:=xs) (cs:=cs) (off:=0) hA (fun i f hf=>hel i f (by simpa using hf)) (by simp[hx])
     cases fs' with
     |nil=>cases h2
     |cons f fs'=>
      simp only[Wac]at h2;obtain⟨⟨⟨ho,hc⟩,he⟩,hb⟩:=h2;have ho:=Wam ho;have hc:=Wam hc;split at he
      ·rename_i et hke;have het:=Wam he;subst het;cases xs' with
       |nil=>simp at h4
       |cons x0 xs'=>
        have h0:=h3 0 f rfl;rw[ho,hc]at h0;simp only[Wbh,WaO]at h0;obtain⟨db,hdb,hwb⟩:=pE b (n:=n) (fs:=fs') (xs:=xs') (cs:=cs) (off:=a.cells+1) (by simpa using hb) (by omega) (fun i f' hf'=>by
         have:=h3 (i+1) f' (by simpa using hf')
         rw[this];rfl) (by simpa using h4)
        obtain⟨v,hv⟩:∃v,(cs.drop a.cells).take 1=[v]:=by
         have:((cs.drop a.cells).take 1).length=1:=by simp;omega
         exact List.length_eq_one_iff.1 this
        rw[hv]at h0;have hsub:∃ys:List (Rose (a.den×b.den)),reads (fG w) (.arr (.dR a b)) ys [v]/\(ys.map (wt (.dR a b))).sum+1<=Rows.uptoBulk x0.1:=by
         rcases DataW.trod_slice hke h0 with ⟨e1,rfl⟩|⟨ad,len,cap,elems,rest,n',rfl,e1,rfl,hb',hl',hm,hlen,qmE,_,_⟩
         ·exact⟨[],⟨none,0,e1,Wan _,Wbz _,.inl rfl⟩,by simp[Rows.uptoBulk]⟩
         ·by_cases hz:len=0
          ·subst hz;exact⟨[],⟨some ad,cap,e1,hl',hm,.inl rfl⟩,by simp[Rows.uptoBulk]⟩
          ·have hce:P.cellsOf et=a.cells+1+b.cells:=hs;have hsp:ad.spot=none:=by
            have:=qmE 0 (by omega)
            rw[Waa (by omega),WcB]at this
            obtain⟨cs',hcs,_⟩:=this;obtain⟨_,hcl,hcell⟩:=World.cells?_some hcs
            have:=hcell 0 (by omega)
            rw[Waa (by omega)]at this
            have:=World.cell?_spot this
            unfold Addr.add at this;split at this<;>simp_all
           obtain⟨g,off,sp⟩:=ad;simp only at hsp
           subst hsp;obtain⟨ys,cells,y1,y2,y3,y4,y5⟩:=JA (wf:=wt (.dR a b)) (w:=w) (g:=g) (off:=off) (ce:=a.cells+1+b.cells) (R:=reads (fG w) (.dR a b)) (rd:=DataW.trod enc P w 0 spare held n' et)
            (fun cs x hx _=>let ⟨d,hd,_,hw⟩:=ihN n' (by omega) cs x hx;⟨d,hd,hw⟩) len 0 elems hlen (fun i hi=>by
              have:=qmE i hi
              rw[hce]at this;simpa using this)
           exact⟨ys,⟨some ⟨g,off,none⟩,cap,by rw[y1];exact e1,by rw[y1];exact hl',hm,.inr ⟨cells,y2,g,off,rfl,fun j u hj=>by simpa [fG]using y4 j u hj⟩⟩,by simp only[Rows.uptoBulk];omega⟩
        obtain⟨ys,hys,hwy⟩:=hsub;refine⟨.node (da,db) ys,(r9 _ _).2 ⟨cs.take a.cells,v,cs.drop (a.cells+1),?_,by rw[Wbe]at h1;exact h1,hdb,hys⟩,hl,?_⟩
        ·rw[<-WcJ,<-hv];have e2:cs.drop (a.cells+1)=(cs.drop a.cells).drop 1:=by rw[List.drop_drop]
         rw[e2,Wax,Wax]
        ·show Rose.size _ _<=_
         simp only[Rose.size,OK,Rows.uptoBulk];simp only[Wat,Rows.uptoBulkAll]at h5;have e3:(List.map (Rose.size fun y:a.den×b.den=>wt a y.1+wt b y.2) ys).sum=(ys.map (wt (.dR a b))).sum:=rfl
         omega
      ·cases he
   exact key fuel fuel (Wan _) cs x h
  ·cases ht
 | .unit,t,fuel,cs,x,ht,h=>by unfold qD at ht;cases ht
 | .qi,t,fuel,cs,x,ht,h=>by unfold qD at ht;cases ht
 | .any,t,fuel,cs,x,ht,h=>by unfold qD at ht;cases ht
 | .pair a b,t,fuel,cs,x,ht,h=>by
  unfold qD at ht;split at ht
  ·rename_i fs hk;split at ht
   ·rename_i f fs' sj;simp only[Wac]at ht;obtain⟨⟨⟨⟨hs,ho⟩,hc⟩,ha⟩,hb⟩:=ht;have hs:=Wam hs;have ho:=Wam ho;have hc:=Wam hc;obtain⟨xs,n,rfl,rfl,hl,hx,hel⟩:=DataW.trod_struct hk h;have hfl:∀i:Nat,fs[i]?=(f::fs')[i]?:=fun i=>by rw[<-sj];simp
    have hsz:fs.size=fs'.length+1:=by rw[<-Array.length_toList,sj];simp
    have h0:=hel 0 f (by rw[hfl];rfl)
    rw[ho,hc,Waa (by omega)]at h0
    obtain⟨da,hda,hla,hwa⟩:=iP a ha h0;have hF:=pE b (n:=n) (fs:=fs') (xs:=xs.tail) (cs:=cs) (off:=a.cells) hb (by rw[hl,hs]) (fun i f' hf'=>by
     have:=hel (i+1) f' (by rw[hfl];exact hf')
     rw[this];cases xs with
     |nil=>simp
     |cons x xs=>rfl) (by simp;omega)
    obtain⟨db,hdb,hwb⟩:=hF;refine⟨(da,db),⟨cs.take a.cells,cs.drop a.cells,(Wax _ _).symm,by simpa using hda,hdb⟩,by rw[hl,hs];rfl,?_⟩
    cases xs with
    |nil=>simp at hx;omega
    |cons x xs=>
     simp only[wt,Rows.uptoBulk,Wat,Rows.uptoBulkAll];simp only[List.getElem_cons_zero,List.tail_cons]at hwa hwb;omega
   ·cases ht
  ·cases ht
theorem tL:∀(ty:Ty) {n:Nat} {fs:List Field} {xs:List (DataW H×List MemPlace)} {cs:List Value} {off:Nat} {k:List Field->Nat->Bool},Tq P ty fs off k=true->
 (∀(i:Nat) (f:Field),fs[i]?=some f->DataW.trod enc P w 0 spare held n f.type ((cs.drop f.offset).take (P.cellsOf f.type))=xs[i]?)->xs.length=fs.length->
 ∃(d:ty.den) (fs':List Field) (xs':List (DataW H×List MemPlace)),reads (fG w) ty d ((cs.drop off).take ty.cells)/\k fs' (off+ty.cells)=true/\
  (∀(i:Nat) (f:Field),fs'[i]?=some f->DataW.trod enc P w 0 spare held n f.type ((cs.drop f.offset).take (P.cellsOf f.type))=xs'[i]?)/\xs'.length=fs'.length/\
  wt ty d+Rows.uptoBulkAll (xs'.map (·.1))<=Rows.uptoBulkAll (xs.map (·.1))
 | .pair a b,n,fs,xs,cs,off,k,ht,hel,hx=>by
  cases fs with
  |nil=>simp[Tq]at ht
  |cons f fs=>
   simp only[Tq,Wac]at ht;obtain⟨⟨⟨ho,hc⟩,ha⟩,hb⟩:=ht;have ho:=Wam ho;have hc:=Wam hc;cases xs with
   |nil=>simp at hx
   |cons x xs=>
    have h0:=hel 0 f rfl;rw[ho,hc]at h0;obtain⟨da,hda,_,hwa⟩:=iP a ha (by simpa using h0)
    obtain⟨db,fs',xs',h1,h2,h3,h4,h5⟩:=tL b (n:=n) (fs:=fs) (xs:=xs) (cs:=cs) (off:=off+a.cells) (k:=k) hb (fun i f' hf'=>by
     have:=hel (i+1) f' (by simpa using hf')
     rw[this];rfl) (by simpa using hx)
    refine⟨(da,db),fs',xs',⟨(cs.drop off).take a.cells,(cs.drop (off+a.cells)).take b.cells,?_,hda,h1⟩,by rw[<-h2];congr 1;simp[Ty.cells];omega,h3,h4,by simp only[wt,Wat,Rows.uptoBulkAll];omega⟩
    rw[<-List.drop_drop,<-List.take_add];rfl
 | .unit,n,fs,xs,cs,off,k,ht,hel,hx=>by
  simp only[Tq]at ht;exact⟨(),fs,xs,by show (cs.drop off).take 0=[];simp,by simpa [Ty.cells]using ht,hel,hx,by simp[wt]⟩
 | .int _,_,_,_,_,_,_,ht,_,_=>by simp[Tq]at ht
 | .bool,_,_,_,_,_,_,ht,_,_=>by simp[Tq]at ht
 | .qi,_,_,_,_,_,_,ht,_,_=>by simp[Tq]at ht
 | .any,_,_,_,_,_,_,ht,_,_=>by simp[Tq]at ht
 | .str,_,_,_,_,_,_,ht,_,_=>by simp[Tq]at ht
 | .arr _,_,_,_,_,_,_,ht,_,_=>by simp[Tq]at ht
 | .dR _ _,_,_,_,_,_,_,ht,_,_=>by simp[Tq]at ht
 | .vec _ _,_,_,_,_,_,_,ht,_,_=>by simp[Tq]at ht
theorem pE:∀(ty:Ty) {n:Nat} {fs:List Field} {xs:List (DataW H×List MemPlace)} {cs:List Value} {off:Nat},okF P ty fs off=true->cs.length=off+ty.cells->
 (∀(i:Nat) (f:Field),fs[i]?=some f->DataW.trod enc P w 0 spare held n f.type ((cs.drop f.offset).take (P.cellsOf f.type))=xs[i]?)->xs.length=fs.length->
 ∃d:ty.den,reads (fG w) ty d (cs.drop off)/\wt ty d<=Rows.uptoBulkAll (xs.map (·.1))
 | .pair a b,n,fs,xs,cs,off,ht,hl,hel,hx=>by
  cases fs with
  |nil=>simp[okF]at ht
  |cons f fs=>
   simp only[okF,Wac]at ht;obtain⟨⟨⟨ho,hc⟩,ha⟩,hb⟩:=ht;have ho:=Wam ho;have hc:=Wam hc;cases xs with
   |nil=>simp at hx
   |cons x xs=>
    have h0:=hel 0 f rfl;rw[ho,hc]at h0;obtain⟨da,hda,_,hwa⟩:=iP a ha (by simpa using h0)
    obtain⟨db,hdb,hwb⟩:=pE b (n:=n) (fs:=fs) (xs:=xs) (cs:=cs) (off:=off+a.cells) hb (by rw[hl];simp[Ty.cells];omega) (fun i f' hf'=>by
     have:=hel (i+1) f' (by simpa using hf')
     rw[this];rfl) (by simpa using hx)
    refine⟨(da,db),⟨(cs.drop off).take a.cells,cs.drop (off+a.cells),?_,hda,hdb⟩,by simp only[wt,Wat,Rows.uptoBulkAll];omega⟩
    rw[<-List.drop_drop,Wax]
 | .unit,n,fs,xs,cs,off,ht,hl,hel,hx=>⟨(),by
  show cs.drop off=[]
  rw[WcP,hl];simp[Ty.cells],by simp[wt]⟩
 | .int _,_,_,_,_,_,ht,_,_,_=>by simp[okF]at ht
 | .bool,_,_,_,_,_,ht,_,_,_=>by simp[okF]at ht
 | .qi,_,_,_,_,_,ht,_,_,_=>by simp[okF]at ht
 | .dR _ _,_,_,_,_,_,ht,_,_,_=>by simp[okF]at ht
 | .any,_,_,_,_,_,ht,_,_,_=>by simp[okF]at ht
 | .str,_,_,_,_,_,ht,_,_,_=>by simp[okF]at ht
 | .arr _,_,_,_,_,_,ht,_,_,_=>by simp[okF]at ht
 | .vec _ _,_,_,_,_,_,ht,_,_,_=>by simp[okF]at ht
end
theorem Rv(ty:Ty){r:Reach}{b0:Nat}{t:TypeId}{v:Value}{d:DataW H}{ps:List MemPlace}(ht:qD P ty t=true)(hval:Value.okWide P w r b0 t v)
 (h:DataW.Trod enc P w 0 spare held t v d ps):∃x:ty.den,rv (fG w) ty x v/\wt ty x<=Rows.uptoBulk d:=by
 obtain⟨fuel,h⟩:=h;obtain⟨x,hx,_,hwt⟩:=iP ty ht h;refine⟨x,⟨v.cells.toList,hx,?_⟩,hwt⟩
 unfold Value.okWide at hval;cases ty with
 |int k=>
  unfold qD at ht;split at ht
  ·rename_i k' hk;obtain⟨n,rfl⟩:=okWide_int hk (by unfold Value.okWide;rw[hk]at hval ⊢;exact hval)
   rfl
  ·cases ht
 |qi=>unfold qD at ht;cases ht
 |any=>unfold qD at ht;cases ht
 |dR a b=>
  unfold qD at ht;split at ht
  ·rename_i hk;rw[hk]at hval;obtain⟨cs,rfl,_⟩:=hval;simp[Ty.isAgg,Value.cells]
  ·cases ht
 |bool=>
  unfold qD at ht;split at ht
  ·rename_i hk;obtain⟨n,rfl⟩:=okWide_bool hk (by unfold Value.okWide;rw[hk]at hval ⊢;exact hval)
   rfl
  ·cases ht
 |str=>
  unfold qD at ht;split at ht
  ·rename_i hk;obtain⟨n,rfl⟩:=okWide_string hk (by unfold Value.okWide;rw[hk]at hval ⊢;exact hval)
   rfl
  ·cases ht
 |arr e=>
  unfold qD at ht;split at ht
  ·rename_i hk;obtain⟨a,l,c,rfl⟩:=okWide_slice hk (by unfold Value.okWide;rw[hk]at hval ⊢;exact hval)
   rfl
  ·cases ht
 |vec n e=>
  unfold qD at ht;split at ht
  ·rename_i hk;rw[hk]at hval;obtain⟨cs,rfl,_⟩:=hval;simp[Ty.isAgg,Value.cells]
  ·cases ht
 |unit=>unfold qD at ht;cases ht
 |pair a b=>
  unfold qD at ht;split at ht
  ·rename_i hk;rw[hk]at hval;obtain⟨cs,rfl,_⟩:=hval;simp[Ty.isAgg,Value.cells]
  ·cases ht
theorem zV:∀(tys:List Ty) {r:Reach} {b0:Nat} {ts:List TypeId} {vs:List Value} {ds:List (DataW H)} {ps:List MemPlace},Qj P tys ts=true->
 (∀(j:Nat) t v,ts[j]?=some t->vs[j]?=some v->Value.okWide P w r b0 t v)->DataW.TrodAll enc P w 0 spare held ts vs ds ps->
 ∃x:dens tys,aL (fG w) [] (outs tys x) vs/\wts tys x<=Rows.uptoBulkAll ds
 |[],_,_,ts,vs,ds,ps,ht,hval,h=>by
  cases ts with
  |cons t ts=>simp[Qj]at ht
  |nil=>
   obtain⟨rfl,_,_⟩:=trodAll_nil h;exact⟨(),rfl,by simp[wts]⟩
 |ty::tys,_,_,ts,vs,ds,ps,ht,hval,h=>by
  cases ts with
  |nil=>simp[Qj]at ht
  |cons t ts=>
   simp only[Qj,Wac]at ht;obtain⟨v,vs,d,ds,p,q,rfl,rfl,rfl,h1,h2⟩:=trodAll_cons h;obtain⟨x,hx,hwx⟩:=Rv ty ht.1 (hval 0 t v rfl rfl) h1;obtain⟨y,hy,hwy⟩:=zV tys ht.2 (fun j t v hj hv=>hval (j+1) t v (by simpa using hj) (by simpa using hv)) h2
   cases tys with
   |nil=>exact⟨x,⟨v,vs,rfl,hx,hy⟩,by simp only[wts,Rows.uptoBulkAll];omega⟩
   |cons u us=>exact⟨(x,y),⟨v,vs,rfl,hx,hy⟩,by simp only[wts,Rows.uptoBulkAll];omega⟩
theorem xd{ts:List TypeId}(hl:laidOutB P=true)(hr:∀t∈ts,P.readableRec t=true/\t<P.types.size){W W':World}{sp:Nat->Bool}(hb:Below W.heap.size W W'):
 ∀{ts':List TypeId} {vs:List Value} {ds:List (DataW H)} {ps:List MemPlace},(∀t∈ts',t∈ts)->DataW.TrodAll enc P W 0 (fun _=>true) true ts' vs ds ps->
  (∀x∈ps,x.block<W.heap.size)->(∀x∈ps,sp x.block=true)->DataW.TrodAll enc P W' 0 sp true ts' vs ds ps
 |[],[],[],_,_,h,_,_=>h
 |t::ts',_::_,_::_,_,hm,⟨p,q,h1,h2,e⟩,hlt,hsp=>
  ⟨p,q,WideElems.Trod_stays hl (hr t (hm t (by simp))).1 (hr t (hm t (by simp))).2 h1 (fun x hx=>hb.same (hlt x (by rw[e];simp[hx]))) (fun x hx=>hsp x (by rw[e];simp[hx])),
    xd hl hr hb (fun t ht=>hm t (by simp[ht])) h2 (fun x hx=>hlt x (by rw[e];simp[hx])) (fun x hx=>hsp x (by rw[e];simp[hx])),e⟩
theorem Rw{f:Func}{s:ChangeSpec}{apart fresh handsOn again:Bool}{W W':World}{args:Array Value}{v:Value}{ds gs:List (DataW H)}{before pa pv:List MemPlace}
 (hW:DataW.Whole enc P f.params.toList s.vars apart W args.toList ds gs before)
 (hres:∀(b:Nat) (sp:Nat->Bool) (hd:Bool),DataW.TrodAll enc P W' b sp hd f.resultTypes.toList (v.resultList f.resultTypes.size) (s.fn H (ds++gs)).results [])
 (hargs:∀sp:Nat->Bool,(∀p∈before,sp p.block=true)->DataW.TrodAll enc P W' 0 sp true f.params.toList args.toList (s.fn H (ds++gs)).args pa)
 (hvars:∀sp:Nat->Bool,(∀p∈before,sp p.block=true)->DataW.TrodVars enc P W' sp s.vars (s.fn H (ds++gs)).vars pv)
 (hps:before=pa++pv) (hb:Below W.heap.size W W')
 (hok:∀(j:Nat) (t:TypeId) (r:Value),f.resultTypes[j]?=some t->(v.resultList f.resultTypes.size)[j]?=some r->Value.okWide P W' .any 0 t r):
 s.post enc P f apart fresh handsOn again W args v W':=by
 have hlt:∀p∈before,p.block<W.heap.size:=fun p hp=>by simpa using hW.lt p hp
 have hold:∀p∈before,(fun b=>decide (b<W.heap.size)) p.block=true:=fun p hp=>by simpa using hW.lt p hp
 refine⟨ds,gs,before,[],pa,pv,hW,hres _ _ _,hargs _ hold,hvars _ hold,hb.frame _,fun _=>?_⟩
 obtain⟨_,_,_,_,_,hz,hn⟩:=hW;refine⟨hok,_,_,([]++pa)++pv,⟨[]++pa,pv,trodAll_append (hargs _ (fun _ _=>rfl)) (hres _ _ _),hvars _ (fun _ _=>rfl),rfl,?_,?_⟩,?_⟩
 ·intro b off hp;have hp':MemPlace.cell b off∈before:=by rw[hps];simpa using hp
  rw[hb.frozen (p:=⟨b,off,none⟩) (hlt _ hp')];exact hz b off hp'
 ·intro ha;have:=hn ha
  rw[hps]at this;simpa using this
 ·intro p hp _;rw[hps];simpa using hp
def look:List (FuncId×aJ)->FuncId->Option aJ
 |[],_=>none
 |p::l,f=>if Nat.beq f p.1 then some p.2 else look l f
def jK(P:Program):List (FuncId×aJ)->Prop
 |[]=>True
 |p::l=>Sat P p.1 p.2/\jK P l
def xe:List (FuncId×cL)->FuncId->Option cL
 |[],_=>none
 |p::l,f=>if Nat.beq f p.1 then some p.2 else xe l f
def n9(P:Program):List (FuncId×cL)->Prop
 |[]=>True
 |p::l=>qY P p.1 p.2/\n9 P l
theorem kQ{P:Program}:∀(l:List (FuncId×cL)),n9 P l->∀g sp,xe l g=some sp->qY P g sp
 |[],_,g,sp,h=>by simp[xe]at h
 |p::l,hl,g,sp,h=>by
  unfold xe at h;split at h
  ·rename_i hb;have:=Wam hb
   simp at h
   subst this;subst h
   exact hl.1
  ·exact kQ l hl.2 g sp h
def OL:List (FuncId×Cz)->FuncId->Option Cz
 |[],_=>none
 |p::l,f=>if Nat.beq f p.1 then some p.2 else OL l f
def LC(P:Program):List (FuncId×Cz)->Prop
 |[]=>True
 |p::l=>qh3 P p.1 p.2/\LC P l
def LD(P:Program):List (FuncId×cL)->Prop
 |[]=>True
 |p::l=>Vi P p.1 p.2/\LD P l
theorem C5{P:Program}:∀(l:List (FuncId×cL)),LD P l->∀g sp,xe l g=some sp->Vi P g sp
 |[],_,g,sp,h=>by simp[xe]at h
 |p::l,hl,g,sp,h=>by
  unfold xe at h;split at h
  ·rename_i hb;have:=Wam hb
   simp at h
   subst this;subst h
   exact hl.1
  ·exact C5 l hl.2 g sp h
theorem C6{P:Program}:∀(l:List (FuncId×Cz)),LC P l->∀g sp,OL l g=some sp->qh3 P g sp
 |[],_,g,sp,h=>by simp[OL]at h
 |p::l,hl,g,sp,h=>by
  unfold OL at h;split at h
  ·rename_i hb;have:=Wam hb
   simp at h
   subst this;subst h
   exact hl.1
  ·exact C6 l hl.2 g sp h
theorem mw{P:Program}:∀(l:List (FuncId×aJ)),jK P l->∀g sp,look l g=some sp->Sat P g sp
 |[],_,g,sp,h=>by simp[look]at h
 |p::l,hl,g,sp,h=>by
  unfold look at h;split at h
  ·rename_i hb;have:=Wam hb
   simp at h
   subst this;subst h
   exact hl.1
  ·exact mw l hl.2 g sp h
structure BG where
 P:Program
 ty:TypeId->Option Ty
 ro:TypeId->Bool
def qmG(loops:FuncId->Nat->List LA)(f:FuncId):Hint:=⟨loops f,fun _=>.split,fun _=>.split,fun _=>0⟩
def bA(b:BG)(l:List (FuncId×aJ))(g:List (FuncId×cL))(hint:FuncId->Hint):Ctx:=⟨b.P,look l,hint,b.ty,xe g,b.ro,fun _=>none,fun _=>none,fun _=>none,fun _=>none,fun _=>none,fun _=>none,fun _=>none,true,fun _=>False,0,fun _=>false,fun _=>none,fun _=>none⟩
def qaX(b:BG)(l:List (FuncId×aJ))(g:List (FuncId×cL))(so:List (FuncId×Cz))(ns:List (FuncId×cL))(hint:FuncId->Hint):Ctx:=⟨b.P,look l,hint,b.ty,xe g,b.ro,OL so,xe ns,fun _=>none,fun _=>none,fun _=>none,fun _=>none,fun _=>none,true,fun _=>False,0,fun _=>false,fun _=>none,fun _=>none⟩
theorem az{b:BG}{l:List (FuncId×aJ)}{g:List (FuncId×cL)}{hint:FuncId->Hint}(h:jK b.P l)(h':n9 b.P g):au (bA b l g hint):=
 ⟨fun f sp hg=>mw l h f sp hg,fun f sp hg=>kQ g h' f sp hg,(fun f sp hg=>by cases hg),(fun f sp hg=>by cases hg),(fun f sp hg=>by cases hg),(fun f sp hg=>by cases hg),(fun f sp hg=>by cases hg),(fun f sp hg=>by cases hg),(fun f sp hg=>by cases hg),(fun f hg=>by cases hg),fun f sp hg=>by cases hg⟩
theorem LF{b:BG}{l:List (FuncId×aJ)}{g:List (FuncId×cL)}{so:List (FuncId×Cz)}{ns:List (FuncId×cL)}{hint:FuncId->Hint}(h:jK b.P l)(h':n9 b.P g)(h'':LC b.P so)(h3:LD b.P ns):au (qaX b l g so ns hint):=
 ⟨fun f sp hg=>mw l h f sp hg,fun f sp hg=>kQ g h' f sp hg,fun f sp hg=>C6 so h'' f sp hg,(fun f sp hg=>C5 ns h3 f sp hg),(fun f sp hg=>by cases hg),(fun f sp hg=>by cases hg),(fun f sp hg=>by cases hg),(fun f sp hg=>by cases hg),(fun f sp hg=>by cases hg),(fun f hg=>by cases hg),fun f sp hg=>by cases hg⟩
def JB:List (FuncId×jC)->FuncId->Option jC
 |[],_=>none
 |p::l,g=>if Nat.beq p.1 g then some p.2 else JB l g
def Ej(P:Program):List (FuncId×jC)->Prop
 |[]=>True
 |p::l=>E2 P p.1 p.2/\Ej P l
theorem uQ{P:Program}:∀(l:List (FuncId×jC)),Ej P l->∀g sp,JB l g=some sp->E2 P g sp
 |[],_,g,sp,h=>by simp[JB]at h
 |p::l,hl,g,sp,h=>by
  unfold JB at h;split at h
  ·rename_i hb;have:=Wam hb
   simp at h
   subst this;subst h
   exact hl.1
  ·exact uQ l hl.2 g sp h
def Ge(b:BG)(l:List (FuncId×aJ))(g:List (FuncId×cL))(it:List (FuncId×jC))(hint:FuncId->Hint):Ctx:={bA b l g hint with Tp:=JB it}
theorem oe{b:BG}{l:List (FuncId×aJ)}{g:List (FuncId×cL)}{it:List (FuncId×jC)}{hint:FuncId->Hint}(h:jK b.P l)(h':n9 b.P g)(h'':Ej b.P it):au (Ge b l g it hint):=
 ⟨fun f sp hg=>mw l h f sp hg,fun f sp hg=>kQ g h' f sp hg,(fun f sp hg=>by cases hg),(fun f sp hg=>by cases hg),(fun f sp hg=>uQ it h'' f sp hg),(fun f sp hg=>by cases hg),(fun f sp hg=>by cases hg),(fun f sp hg=>by cases hg),(fun f sp hg=>by cases hg),(fun f hg=>by cases hg),fun f sp hg=>by cases hg⟩
def OM:List (FuncId×kZ)->FuncId->Option kZ
 |[],_=>none
 |p::l,f=>if Nat.beq f p.1 then some p.2 else OM l f
def LG(P:Program):List (FuncId×kZ)->Prop
 |[]=>True
 |p::l=>E3 P p.1 p.2/\LG P l
theorem C7{P:Program}:∀(l:List (FuncId×kZ)),LG P l->∀g sp,OM l g=some sp->E3 P g sp
 |[],_,g,sp,h=>by simp[OM]at h
 |p::l,hl,g,sp,h=>by
  unfold OM at h;split at h
  ·rename_i hb;have:=Wam hb
   simp at h
   subst this;subst h
   exact hl.1
  ·exact C7 l hl.2 g sp h
def x9(b:BG)(l:List (FuncId×aJ))(g:List (FuncId×cL))(it:List (FuncId×jC))(pr:List (FuncId×kZ))(hint:FuncId->Hint):Ctx:={bA b l g hint with Tp:=JB it,procs:=OM pr}
theorem jv{b:BG}{l:List (FuncId×aJ)}{g:List (FuncId×cL)}{it:List (FuncId×jC)}{pr:List (FuncId×kZ)}{hint:FuncId->Hint}(h:jK b.P l)(h':n9 b.P g)(h'':Ej b.P it)(h3:LG b.P pr):au (x9 b l g it pr hint):=
 ⟨fun f sp hg=>mw l h f sp hg,fun f sp hg=>kQ g h' f sp hg,(fun f sp hg=>by cases hg),(fun f sp hg=>by cases hg),(fun f sp hg=>uQ it h'' f sp hg),(fun f sp hg=>by cases hg),(fun f sp hg=>C7 pr h3 f sp hg),(fun f sp hg=>by cases hg),(fun f sp hg=>by cases hg),(fun f hg=>by cases hg),fun f sp hg=>by cases hg⟩
def ON:List (FuncId×ua)->FuncId->Option ua
 |[],_=>none
 |p::l,f=>if Nat.beq f p.1 then some p.2 else ON l f
def LH(P:Program):List (FuncId×ua)->Prop
 |[]=>True
 |p::l=>ZM P p.1 p.2/\LH P l
theorem C8{P:Program}:∀(l:List (FuncId×ua)),LH P l->∀g sp,ON l g=some sp->ZM P g sp
 |[],_,g,sp,h=>by simp[ON]at h
 |p::l,hl,g,sp,h=>by
  unfold ON at h;split at h
  ·rename_i hb;have:=Wam hb
   simp at h
   subst this;subst h
   exact hl.1
  ·exact C8 l hl.2 g sp h
def qaY(b:BG)(l:List (FuncId×aJ))(g:List (FuncId×cL))(ea:List (FuncId×ua))(hint:FuncId->Hint):Ctx:={bA b l g hint with qhN:=ON ea}
theorem LI{b:BG}{l:List (FuncId×aJ)}{g:List (FuncId×cL)}{ea:List (FuncId×ua)}{hint:FuncId->Hint}(h:jK b.P l)(h':n9 b.P g)(h'':LH b.P ea):au (qaY b l g ea hint):=
 ⟨fun f sp hg=>mw l h f sp hg,fun f sp hg=>kQ g h' f sp hg,(fun f sp hg=>by cases hg),(fun f sp hg=>by cases hg),(fun f sp hg=>by cases hg),(fun f sp hg=>by cases hg),(fun f sp hg=>by cases hg),(fun f sp hg=>by cases hg),(fun f sp hg=>by cases hg),(fun f hg=>by cases hg),fun f sp hg=>C8 ea h'' f sp hg⟩
def qmH(_:FuncId):Hint:=⟨fun _=>[],fun _=>.force,fun _=>.force,fun _=>200⟩
def qaZ(ps:List Ty):aJ:=⟨ps,[.bool],fun _=>True,fun _=>true⟩
theorem Ip{f:FuncId}{fn:Func}{s:ChangeSpec}{tys:List Ty}{pre:dens tys->Prop}{bt:TypeId}{W:World}{r:Reach}{base:Nat}{args:Array Value}{ds gs:List (DataW H)}{before:List MemPlace}
 (qi8:Sat P f ⟨tys,[.bool],pre,fun _=>true⟩) (hpre:∀x,wts tys x<=Rows.uptoBulkAll ds->pre x) (hl:laidOutB P=true)
 (hr:(fn.params.toList.all fun t=>P.readableRec t&&decide (t<P.types.size))=true) (hty:Qj P tys fn.params.toList=true)
 (hvars:s.vars=[]) (hs:∀ds:List (DataW H),ds.length=fn.params.size->s.fn H (ds++[])={results:=[.lit (.bool true)],args:=ds})
 (hres:fn.resultTypes= #[bt]) (hbt:P.underlying bt=some .bool)
 (hval:∀(j:Nat) t v,fn.params[j]?=some t->args[j]?=some v->Value.okWide P W r base t v)
 (hW:DataW.Whole enc P fn.params.toList s.vars false W args.toList ds gs before) (xK:Gl P (fG W)):
 Calls P f args W fun e W'=>∃v,e= .returned v/\s.post enc P fn false true false false W args v W':=by
 have hW':=hW;obtain⟨p,q,hA,hV,rfl,hfz,o7⟩:=hW;rw[hvars]at hV;obtain⟨rfl,rfl⟩:=trodVars_none hV;obtain⟨x,hx,hwx⟩:=zV tys hty (fun j t v hj hv=>hval j t v (by simpa using hj) (by simpa using hv)) hA
 have hds:ds.length=fn.params.size:=by
  have:∀{ts:List TypeId} {vs:List Value} {ds:List (DataW H)} {ps:List MemPlace},DataW.TrodAll enc P W 0 (fun _=>true) true ts vs ds ps->ds.length=ts.length:=by
   intro ts;induction ts with
   |nil=>intro vs ds ps h;obtain⟨_,rfl,_⟩:=trodAll_nil h;rfl
   |cons t ts ih=>intro vs ds ps h;obtain⟨v,vs,d,ds,p,q,rfl,rfl,rfl,h1,h2⟩:=trodAll_cons h;simp[ih h2]
  simpa using this hA
 have hlt:∀y∈p,y.block<W.heap.size:=fun y hy=>by simpa using hW'.lt y (by simpa using hy)
 refine (qi8 (fG W) W x args.toList (LB W) xK hx (hpre x hwx)).mono fun e W' ⟨v,ax,he,hb,_,_,hv⟩=>?_
 have hv:rv ax .bool true v:=hv;obtain⟨cs,hcs,hcv⟩:=hv;have hcs:cs=[.bool true]:=hcs;have hcv:cs=[v]:=hcv;have e2:v= .bool true:=by rw[hcs]at hcv;simpa using hcv.symm
 subst e2;have hr':∀t∈fn.params.toList,P.readableRec t=true/\t<P.types.size:=fun t ht=>by
  have:=List.all_eq_true.1 hr t ht
  simpa using this
 refine⟨_,he,Rw (pa:=p) (pv:=[]) hW' (fun b sp hd=>?_) (fun sp hsp=>?_) (fun sp _=>?_) (by simp) hb (ok_one hres rfl (okWide_bool_mk hbt _))⟩
 ·rw[hs ds hds,hres];exact trodAll_cons_mk (shut_bool hbt _) trodAll_mk0
 ·rw[hs ds hds];exact xd hl hr' hb (fun t ht=>ht) hA hlt (fun y hy=>hsp y (by simpa using hy))
 ·rw[hs ds hds,hvars];rfl
theorem LJ{f:FuncId}{fn:Func}{s:ChangeSpec}{tys:List Ty}{bt:TypeId}{W:World}{r:Reach}{base:Nat}{args:Array Value}{ds gs:List (DataW H)}{before:List MemPlace}
 (qi8:Sat P f (qaZ tys)) (hl:laidOutB P=true) (hr:(fn.params.toList.all fun t=>P.readableRec t&&decide (t<P.types.size))=true) (hty:Qj P tys fn.params.toList=true)
 (hvars:s.vars=[]) (hs:∀ds:List (DataW H),ds.length=fn.params.size->s.fn H (ds++[])={results:=[.lit (.bool true)],args:=ds})
 (hres:fn.resultTypes= #[bt]) (hbt:P.underlying bt=some .bool)
 (hval:∀(j:Nat) t v,fn.params[j]?=some t->args[j]?=some v->Value.okWide P W r base t v)
 (hW:DataW.Whole enc P fn.params.toList s.vars false W args.toList ds gs before) (xK:Gl P (fG W)):
 Calls P f args W fun e W'=>∃v,e= .returned v/\s.post enc P fn false true false false W args v W':=
 Ip qi8 (fun _ _=>trivial) hl hr hty hvars hs hres hbt hval hW xK
end
end Go.AM
namespace Go.PL
open Go.AM
theorem Ue{n:Int}:aa n↔ -9223372036854775808<=n/\n<=9223372036854775807:=Iff.rfl
theorem BH{α:Type}(v:List α)(d:α){i:Int}(h0:0<=i)(h1:i<v.length):v.drop i.toNat=v.getD i.toNat d::v.drop (i+1).toNat:=by
 have e:(i+1).toNat=i.toNat+1:=by omega
 have h:i.toNat<v.length:=by omega
 rw[e,Wa9 h,Wab,Waa h];rfl
theorem Gf{α:Type}(v:List α){i:Int}(h:¬i<(v.length:Int)):v.drop i.toNat=[]:=by
 rw[WcP];omega
theorem qa0{α:Type}(v:List α)(d:α){i:Nat}(h:i<v.length):v.getD i d∈v:=by
 rw[Wab,Waa h];exact WaJ h
theorem Wh{α:Type}(v:List α)(d:α){i:Int}(h0:0<=i)(h1:i<v.length):v.take (i+1).toNat=v.take i.toNat++[v.getD i.toNat d]:=by
 have e:(i+1).toNat=i.toNat+1:=by omega
 have h:i.toNat<v.length:=by omega
 rw[e,Wbc,Wab,Waa h];rfl
end Go.PL
namespace Go.PL
abbrev LP{τ:Type}(i:τ)(b:(τ->Prop)->(τ->Nat)->τ->Prop):Prop:=∃I,∃μ,I i/\∀x,I x->b I μ x
abbrev NX{τ:Type}(I:τ->Prop)(μ:τ->Nat)(x t:τ):Prop:=I t/\μ t<μ x
abbrev SP(c:Bool)(a b:Prop):Prop:=(c=true->a)/\(c=false->b)
abbrev SD(p:Prop)[Decidable p](a b:Prop):Prop:=(decide p=true->a)/\(decide p=false->b)
abbrev SN(p:Prop)[Decidable p](a b:Prop):Prop:=((!decide p)=true->a)/\((!decide p)=false->b)
abbrev IR{α:Type}(e:Int)(l:List α):Prop:=(0:Int)<=e/\e<(↑l.length:Int)
abbrev ln{α:Type}(l:List α):Int:=↑l.length
abbrev z0:Int:=0
abbrev z1:Int:=1
abbrev z2:Int:=2
abbrev z3:Int:=3
abbrev z4:Int:=4
abbrev z5:Int:=5
abbrev z6:Int:=6
abbrev z7:Int:=7
abbrev z8:Int:=8
abbrev z9:Int:=9
abbrev z10:Int:=10
abbrev z11:Int:=11
abbrev z12:Int:=12
abbrev z13:Int:=13
abbrev z14:Int:=14
abbrev JC:Int:=15
abbrev uR:Int:=16
abbrev z17:Int:=17
abbrev z18:Int:=18
abbrev z19:Int:=19
abbrev z20:Int:=20
abbrev z21:Int:=21
abbrev z22:Int:=22
abbrev z23:Int:=23
abbrev z24:Int:=24
abbrev z25:Int:=25
abbrev z26:Int:=26
abbrev z27:Int:=27
abbrev z28:Int:=28
abbrev z29:Int:=29
abbrev z30:Int:=30
abbrev YS:Int:=31
abbrev nj:Int:=32
abbrev z33:Int:=33
abbrev z34:Int:=34
abbrev z35:Int:=35
abbrev z36:Int:=36
abbrev z37:Int:=37
abbrev z38:Int:=38
abbrev z39:Int:=39
abbrev z40:Int:=40
abbrev z41:Int:=41
abbrev z42:Int:=42
abbrev z43:Int:=43
abbrev qf:Int:=44
abbrev OO:Int:=45
abbrev z46:Int:=46
abbrev z47:Int:=47
abbrev z48:Int:=48
abbrev z49:Int:=49
abbrev z50:Int:=50
abbrev z51:Int:=51
abbrev z52:Int:=52
abbrev z53:Int:=53
abbrev z54:Int:=54
abbrev z55:Int:=55
abbrev Uf:Int:=56
abbrev z57:Int:=57
abbrev z58:Int:=58
abbrev z59:Int:=59
abbrev z60:Int:=60
abbrev z61:Int:=61
abbrev z62:Int:=62
abbrev z63:Int:=63
abbrev j9:Int:=64
abbrev z65:Int:=65
abbrev z66:Int:=66
abbrev y0:Nat:=0
abbrev y1:Nat:=1
abbrev y2:Nat:=2
abbrev y3:Nat:=3
abbrev y4:Nat:=4
abbrev y5:Nat:=5
abbrev y6:Nat:=6
abbrev y7:Nat:=7
abbrev y8:Nat:=8
abbrev y9:Nat:=9
abbrev ya:Nat:=10
abbrev BJ:Nat:=11
abbrev zW:Nat:=12
abbrev kD:Nat:=13
abbrev BK:Nat:=14
abbrev BL:Nat:=15
abbrev qg:Nat:=16
abbrev y17:Nat:=17
abbrev y18:Nat:=18
abbrev y19:Nat:=19
abbrev y20:Nat:=20
abbrev y21:Nat:=21
abbrev y22:Nat:=22
abbrev y23:Nat:=23
abbrev y24:Nat:=24
abbrev y25:Nat:=25
abbrev y26:Nat:=26
abbrev y27:Nat:=27
abbrev y28:Nat:=28
abbrev y29:Nat:=29
abbrev y30:Nat:=30
abbrev y31:Nat:=31
abbrev y32:Nat:=32
abbrev y33:Nat:=33
abbrev y34:Nat:=34
abbrev y35:Nat:=35
abbrev y36:Nat:=36
abbrev Rx:Nat:=37
abbrev y38:Nat:=38
abbrev y39:Nat:=39
abbrev y40:Nat:=40
abbrev y41:Nat:=41
abbrev y42:Nat:=42
abbrev y43:Nat:=43
abbrev y44:Nat:=44
abbrev y45:Nat:=45
abbrev y46:Nat:=46
abbrev y47:Nat:=47
abbrev y48:Nat:=48
abbrev y49:Nat:=49
abbrev y50:Nat:=50
abbrev y51:Nat:=51
abbrev y52:Nat:=52
abbrev y53:Nat:=53
abbrev y54:Nat:=54
abbrev y55:Nat:=55
abbrev y56:Nat:=56
abbrev y57:Nat:=57
abbrev y58:Nat:=58
abbrev y59:Nat:=59
abbrev y60:Nat:=60
abbrev y61:Nat:=61
abbrev y62:Nat:=62
abbrev y63:Nat:=63
abbrev y64:Nat:=64
abbrev y65:Nat:=65
abbrev y66:Nat:=66
abbrev eI:List Int:=[]
abbrev eL:List (List Int):=[]
end Go.PL
namespace Go.Proofs.YtobfmplofoofkaaGreatDoor
open Go.AM Go.PL
abbrev I:Ty:=.int .i64
abbrev TI:Ty:=I
abbrev U8:Ty:=.int .u8
abbrev U32:Ty:=.int .u32
abbrev U64:Ty:=.int .u64
abbrev L:Ty:=.arr I
abbrev BY:Ty:=.arr U8
abbrev SS:Ty:=.arr .str
abbrev DG:Ty:=.vec 16 U8
abbrev DL:Ty:=.arr DG
abbrev W8:Ty:=.vec 8 U32
abbrev W4:Ty:=.vec 4 U32
abbrev Wi:Ty:=.vec 64 U32
abbrev B64:Ty:=.vec 64 U8
abbrev Wj:Ty:=.vec 32 U8
abbrev SM:Ty:=.pair W8 (.pair B64 (.pair U64 .unit))
abbrev AT:Ty:=.pair .str (.pair I (.pair I (.pair .str .unit)))
abbrev AL:Ty:=.arr AT
abbrev EN:Ty:=.pair I (.pair I (.pair I (.pair I (.pair I (.pair I (.pair I (.pair L (.pair AL .unit))))))))
abbrev DF:Ty:=.pair .str (.pair I (.pair I (.pair I (.pair SS .unit))))
abbrev SC:Ty:=.pair I (.pair I (.pair (.arr DF) .unit))
abbrev BX:Ty:=.pair L (.pair L .unit)
abbrev ST:Ty:=.dR (.pair I (.pair I .unit)) (.pair L .unit)
abbrev AR:Ty:=.pair BX (.pair L .unit)
abbrev MV:Ty:=.pair BX (.pair L (.pair I .unit))
abbrev DV:Ty:=.pair I (.pair I (.pair ST .unit))
abbrev CH:Ty:=.pair U8 (.pair U8 (.pair U8 (.pair U8 (.pair I .unit))))
abbrev IT:Ty:=.pair DG (.pair .str .unit)
abbrev IL:Ty:=.arr IT
abbrev SK:Ty:=.pair IL .unit
abbrev S2:Ty:=.pair SK (.pair SK .unit)
abbrev PX:Ty:=.pair DG (.pair I .unit)
abbrev PC:Ty:=.pair I (.pair PX (.pair DG (.pair I (.pair DL (.pair .str .unit)))))
abbrev SE:Ty:=.pair I (.pair PC .unit)
def tyB(t:TypeId):Option Ty:=
 if Nat.beq t 3 then some I else
 if Nat.beq t 4 then some .bool else
 if Nat.beq t 5 then some U8 else
 if Nat.beq t 196 then some U32 else
 if Nat.beq t 195 then some U64 else
 if Nat.beq t 9 then some .str else
 if Nat.beq t 70 then some DG else
 if Nat.beq t 69 then some DG else
 if Nat.beq t 197 then some W8 else
 if Nat.beq t 231 then some W4 else
 if Nat.beq t 229 then some Wi else
 if Nat.beq t 198 then some B64 else
 if Nat.beq t 203 then some Wj else
 if Nat.beq t 200 then some SM else
 if Nat.beq t 52 then some BY else
 if Nat.beq t 29 then some L else
 if Nat.beq t 100 then some SS else
 if Nat.beq t 102 then some AT else
 if Nat.beq t 30 then some AL else
 if Nat.beq t 32 then some EN else
 if Nat.beq t 25 then some (.arr EN) else
 if Nat.beq t 129 then some DF else
 if Nat.beq t 22 then some (.arr DF) else
 if Nat.beq t 24 then some SC else
 if Nat.beq t 114 then some DL else
 if Nat.beq t 48 then some BX else
 if Nat.beq t 37 then some ST else
 if Nat.beq t 35 then some (.arr ST) else
 if Nat.beq t 50 then some AR else
 if Nat.beq t 45 then some (.arr AR) else
 if Nat.beq t 57 then some MV else
 if Nat.beq t 54 then some (.arr MV) else
 if Nat.beq t 39 then some DV else
 if Nat.beq t 89 then some CH else
 if Nat.beq t 26 then some (.arr CH) else
 if Nat.beq t 72 then some IT else
 if Nat.beq t 58 then some IL else
 if Nat.beq t 60 then some SK else
 if Nat.beq t 113 then some PX else
 if Nat.beq t 65 then some S2 else
 if Nat.beq t 116 then some PC else
 if Nat.beq t 121 then some (.arr PC) else
 if Nat.beq t 119 then some SE else
 if Nat.beq t 120 then some (.arr SE) else
 none
noncomputable def bs:BG:=⟨Tryz.prog,tyB,fun t=>
 Nat.beq t 70||Nat.beq t 3||Nat.beq t 32||Nat.beq t 25||Nat.beq t 129||Nat.beq t 24||Nat.beq t 102||
 Nat.beq t 48||Nat.beq t 29||Nat.beq t 37||Nat.beq t 39||Nat.beq t 50||Nat.beq t 60||Nat.beq t 113||Nat.beq t 116⟩
end Go.Proofs.YtobfmplofoofkaaGreatDoor
namespace Go.PL
def fX:List Int->List Int->Bool
 |[],[]=>false
 |[],_::_=>true
 |_::_,[]=>false
 |a::l,b::m=>decide (a<b)||(decide (a=b)&&fX l m)
theorem mL:∀l:List Int,fX l l=false
 |[]=>rfl
 |a::l=>by simp[fX,mL l]
theorem oE:∀{a b c:List Int},fX a b=true->fX b c=true->fX a c=true
 |[],[],_,h,_=>by simp[fX]at h
 |[],_::_,[],_,h=>by simp[fX]at h
 |[],_::_,_::_,_,_=>rfl
 |_::_,[],_,h,_=>by simp[fX]at h
 |_::_,_::_,[],_,h=>by simp[fX]at h
 |a::l,b::m,c::n,h1,h2=>by
  simp only[fX,WaL,Wac,decide_eq_true_eq]at h1 h2 ⊢;rcases h1 with h1|⟨h1,xJ⟩<;>rcases h2 with h2|⟨h2,yW⟩
  ·exact .inl (by omega)
  ·exact .inl (by omega)
  ·exact .inl (by omega)
  ·exact .inr ⟨by omega,oE xJ yW⟩
theorem zX:∀(a b:List Int),fX a b=false->fX b a=false->a=b
 |[],[],_,_=>rfl
 |[],_::_,h,_=>by simp[fX]at h
 |_::_,[],_,h=>by simp[fX]at h
 |a::l,b::m,h1,h2=>by
  simp only[fX,Bool.or_eq_false_iff,Bool.and_eq_false_iff,decide_eq_false_iff_not]at h1 h2;have e:a=b:=by omega
  subst e;rw[zX l m (by simpa using h1.2) (by simpa using h2.2)]
theorem BM{a b:List Int}(h:fX a b=true):fX b a=false:=by
 cases hb:fX b a with
 |false=>rfl
 |true=>rw[<-mL a];exact (oE h hb).symm▸rfl
theorem Gg{a b:List Int}(h:fX a b=true):a≠b:=by
 rintro rfl
 rw[mL]at h;cases h
def mb(c:Int)(h:Nat):Int:=c / 2 ^ (8-h)*2 ^ (8-h)
def cG(d:List Int)(n:Nat):List Int:=(List.range 16).map fun k=>mb (d.getD k 0) (min (n-8*k) 8)
def qa1(c:Int)(r:Nat):Bool:=decide (c / 2 ^ (7-r) % 2=1)
def og(d:List Int)(k:Nat):Bool:=qa1 (d.getD (k / 8) 0) (k % 8)
def sR(c:Int):Prop:=0<=c/\c<=255
def aV(d:List Int):Prop:=d.length=16/\∀c∈d,sR c
abbrev Px:=List Int×Int×Unit
def under(p:Px)(x:List Int):Bool:=decide (cG x p.2.1.toNat=p.1)
def lB(p:Px)(b:Bool):List Int:=if b then p.1.set (p.2.1.toNat / 8) (p.1.getD (p.2.1.toNat / 8) 0+128 / 2 ^ (p.2.1.toNat % 8)) else p.1
def half(p:Px)(b:Bool):Px:=(lB p b,p.2.1+1,())
def gI(p:Px):Prop:=0<=p.2.1/\p.2.1<=128/\p.1.length=16/\cG p.1 p.2.1.toNat=p.1
def jW:List Int:=List.replicate 16 0
def root:Px:=(jW,0,())
def nB(x:List Int)(n:Nat):Px:=(cG x n,(n:Int),())
theorem iw{d:List Int}(h:aV d)(k:Nat):sR (d.getD k 0):=by
 rw[Wab];cases e:d[k]? with
 |none=>exact⟨by simp,by simp⟩
 |some c=>exact h.2 c (WaE e)
theorem LK{c:Int}(h:sR c):mb c 0=0:=by
 obtain⟨h0,h1⟩:=h;simp only[mb];omega
theorem zY(c:Int):mb c 8=c:=by simp[mb]
theorem qe5:∀c∈List.range 256,∀r∈List.range 8,mb (c:Int) (r+1)=mb (c:Int) r+(if qa1 (c:Int) r then (128 / 2 ^ r:Int) else 0):=by decide+kernel
theorem qmI:∀c∈List.range 256,∀r∈List.range 9,∀s∈List.range 9,mb (mb (c:Int) r) s=mb (c:Int) (min r s):=by decide+kernel
theorem jX{c:Int}(h:sR c):∃n∈List.range 256,c=(n:Int):=⟨c.toNat,List.mem_range.2 (by have:=h.1;have:=h.2;omega),by have:=h.1;omega⟩
theorem qa2{c:Int}(h:sR c){r:Nat}(hr:r<8):mb c (r+1)=mb c r+(if qa1 c r then (128 / 2 ^ r:Int) else 0):=by
 obtain⟨n,hn,rfl⟩:=jX h;exact qe5 n hn r (List.mem_range.2 hr)
theorem qa3{c:Int}(h:sR c){r s:Nat}(hr:r<=8)(hs:s<=8):mb (mb c r) s=mb c (min r s):=by
 obtain⟨n,hn,rfl⟩:=jX h;exact qmI n hn r (List.mem_range.2 (by omega)) s (List.mem_range.2 (by omega))
theorem dZ(d:List Int)(n:Nat):(cG d n).length=16:=by simp[cG]
theorem b9(d:List Int)(n k:Nat)(hk:k<16):(cG d n).getD k 0=mb (d.getD k 0) (min (n-8*k) 8):=by
 unfold cG;rw[Wab,Wba,Wck hk];rfl
theorem xg{a b:List Int}(ha:a.length=16)(hb:b.length=16)(h:∀k,k<16->a.getD k 0=b.getD k 0):a=b:=by
 apply WbF
 intro k;by_cases hk:k<16
 ·have:=h k hk
  rw[Wab,Wab,Waa (by omega),Waa (by omega)]at this
  rw[Waa (by omega),Waa (by omega)]
  simpa using this
 ·rw[Wai (by omega),Wai (by omega)]
theorem sS{d:List Int}(h:aV d)(m n:Nat):cG (cG d m) n=cG d (min m n):=by
 refine xg (dZ _ _) (dZ _ _) fun k hk=>?_
 rw[b9 _ _ _ hk,b9 _ _ _ hk,b9 _ _ _ hk,qa3 (iw h k) (WbX _ _) (WbX _ _)];congr 1
 omega
theorem JD{d:List Int}(h:aV d){n:Nat}(hn:128<=n):cG d n=d:=by
 refine xg (dZ _ _) h.1 fun k hk=>?_
 rw[b9 _ _ _ hk,show min (n-8*k) 8=8 by omega,zY]
theorem pF{d:List Int}(h:aV d):cG d 0=jW:=by
 refine xg (dZ _ _) (by simp[jW]) fun k hk=>?_
 rw[b9 _ _ _ hk,show min (0-8*k) 8=0 by omega,LK (iw h k)]
 unfold jW;rw[Wab,Wbb,if_pos hk];rfl
theorem oF(l:List Int)(i k:Nat)(x:Int)(hi:i<l.length):(l.set i x).getD k 0=if k=i then x else l.getD k 0:=by
 rw[Wab,Wab,WcD];by_cases h:k=i
 ·subst h;simp[hi]
 ·rw[if_neg (Wa0 h),if_neg h]
theorem kE{d:List Int}(h:aV d){n:Nat}(hn:n<128):cG d (n+1)=lB (cG d n,(n:Int),()) (og d n):=by
 have hq:n / 8<16:=by omega
 refine xg (dZ _ _) (by unfold lB;split<;>simp[dZ]) fun k hk=>?_
 rw[b9 _ _ _ hk];by_cases e:k=n / 8
 ·subst e;have e1:min (n+1-8*(n / 8)) 8=n % 8+1:=by omega
  have e2:min (n-8*(n / 8)) 8=n % 8:=by omega
  rw[e1,qa2 (iw h _) (Wcg _ (by decide))]
  have e3:og d n=qa1 (d.getD (n / 8) 0) (n % 8):=rfl;unfold lB;simp only[Waw,e3];split
  ·rename_i hb;rw[oF _ _ _ _ (by rw[dZ];exact hq),if_pos rfl,b9 _ _ _ hk,e2]
  ·rw[b9 _ _ _ hk,e2];omega
 ·have e1:min (n+1-8*k) 8=min (n-8*k) 8:=by omega
  rw[e1];unfold lB;simp only[Waw];split
  ·rw[oF _ _ _ _ (by rw[dZ];exact hq),if_neg e,b9 _ _ _ hk]
  ·rw[b9 _ _ _ hk]
theorem JE{p:Px}(hr:gI p)(hl:p.2.1<128){b c:Bool}(h:lB p b=lB p c):b=c:=by
 obtain⟨h0,h1,h2,h3⟩:=hr;have hq:p.2.1.toNat / 8<p.1.length:=by omega
 have hp:(0:Int)<128 / 2 ^ (p.2.1.toNat % 8):=by
  have:p.2.1.toNat % 8<8:=Wcg _ (by decide)
  generalize p.2.1.toNat % 8=r at*
  have:∀r∈List.range 8,(0:Int)<128 / 2 ^ r:=by decide
  exact this r (List.mem_range.2 (by assumption))
 cases b<;>cases c<;>first|rfl|skip
 all_goals
  exfalso
  unfold lB at h;have h:=congrArg (fun l=>l.getD (p.2.1.toNat / 8) 0) h
  simp only[WaG,if_false,if_true]at h;rw[oF _ _ _ _ hq,if_pos rfl]at h;omega
theorem gJ(p:Px)(x:List Int):under p x=true↔cG x p.2.1.toNat=p.1:=by simp[under]
theorem Ry{x:List Int}(h:aV x):under root x=true:=(gJ _ _).2 (by exact pF h)
theorem iy{p:Px}(hr:gI p)(hp:aV p.1)(hl:p.2.1<128){x:List Int}(hx:aV x)(b:Bool):under (half p b) x=true↔under p x=true/\og x p.2.1.toNat=b:=by
 have hr':=hr;obtain⟨h0,h1,h2,h3⟩:=hr;obtain⟨n,hn⟩:∃n:Nat,p.2.1=(n:Int):=⟨p.2.1.toNat,by omega⟩
 obtain⟨d,m,u⟩:=p;simp only at hn h0 h1 h2 h3 hl hp
 subst hn;have hn:n<128:=by omega
 rw[gJ,gJ];show cG x (((n:Int)+1).toNat)=lB (d,(n:Int),u) b↔cG x n=d/\og x n=b
 rw[show ((n:Int)+1).toNat=n+1 by omega]
 simp only[Waw]at h3;have hlen:(lB (d,(n:Int),u) b).length=16:=by unfold lB;split<;>simp[h2]
 constructor
 ·intro h;have e1:cG (cG x (n+1)) n=cG x n:=by rw[sS hx];congr 1;omega
  have e2:cG (lB (d,(n:Int),u) b) n=d:=by
   refine xg (dZ _ _) h2 fun k hk=>?_
   rw[b9 _ _ _ hk];have h4:=congrArg (fun l=>l.getD k 0) h3
   simp only[b9 _ _ _ hk]at h4;unfold lB;simp only[Waw];split
   ·rw[oF _ _ _ _ (by rw[h2];omega)]
    split
    ·rename_i e;subst e;rw[show min (n-8*(n / 8)) 8=n % 8 by omega]at h4 ⊢
     have hc:=iw hp (n / 8);generalize d.getD (n / 8) 0=c at h4 hc ⊢
     have key:∀c∈List.range 256,∀r∈List.range 8,mb (c:Int) r=(c:Int)->mb ((c:Int)+128 / 2 ^ r) r=(c:Int):=by decide+kernel
     obtain⟨k,hk,rfl⟩:=jX hc;exact key k hk _ (List.mem_range.2 (Wcg _ (by decide))) h4
    ·exact h4
   ·exact h4
  have e3:cG x n=d:=by rw[<-e1,h,e2]
  refine⟨e3,?_⟩
  rw[kE hx hn,e3]at h;exact JE (p:=(d,(n:Int),u)) hr' (by exact hl) h
 ·rintro⟨h4,h5⟩
  rw[kE hx hn,h4,h5]
theorem pG:gI root:=⟨by decide,by decide,by decide,by exact pF (d:=jW) ⟨by decide,fun c hc=>by rw[Wcs hc];exact⟨by decide,by decide⟩⟩⟩
theorem qa4:aV jW:=⟨by decide,fun c hc=>by rw[Wcs hc];exact⟨by decide,by decide⟩⟩
theorem OP{p:Px}(hr:gI p){x:List Int}(h:under p x=true):p=nB x p.2.1.toNat:=by
 obtain⟨h0,h1,h2,h3⟩:=hr;obtain⟨d,m,u⟩:=p;have h:=(gJ _ _).1 h;show (d,m,u)=(cG x m.toNat,((m.toNat:Nat):Int),())
 simp only at h h0
 rw[h];congr 2
 omega
theorem Gh{p:Px}(hr:gI p)(hp:aV p.1)(hl:p.2.1<128)(b:Bool):gI (half p b)/\aV (half p b).1:=by
 have hr':=hr;obtain⟨h0,h1,h2,h3⟩:=hr;obtain⟨n,hn⟩:∃n:Nat,p.2.1=(n:Int):=⟨p.2.1.toNat,by omega⟩
 obtain⟨d,m,u⟩:=p;simp only at hn h0 h1 h2 h3 hl hp
 subst hn;have hn:n<128:=by omega
 simp only[Waw]at h3;have key:∀c∈List.range 256,∀r∈List.range 8,mb (c:Int) r=(c:Int)->(0:Int)<=c+128 / 2 ^ r/\(c:Int)+128 / 2 ^ r<=255:=by decide+kernel
 have hbyte:sR (d.getD (n / 8) 0+128 / 2 ^ (n % 8)):=by
  have h4:=congrArg (fun l=>l.getD (n / 8) 0) h3
  simp only[b9 _ _ _ (show n / 8<16 by omega)]at h4
  rw[show min (n-8*(n / 8)) 8=n % 8 by omega]at h4
  have hc:=iw hp (n / 8);generalize d.getD (n / 8) 0=c at h4 hc ⊢
  obtain⟨k,hk,rfl⟩:=jX hc;exact key k hk _ (List.mem_range.2 (Wcg _ (by decide))) h4
 have ok:aV (lB (d,(n:Int),u) b):=by
  unfold lB;simp only[Waw];split
  ·refine⟨by simp[h2],fun c hc=>?_⟩
   rcases List.mem_or_eq_of_mem_set hc with hc|hc
   ·exact hp.2 c hc
   ·rw[hc];exact hbyte
  ·exact hp
 refine⟨⟨by show (0:Int)<=(n:Int)+1;omega,by show (n:Int)+1<=128;omega,ok.1,?_⟩,ok⟩
 show cG (lB (d,(n:Int),u) b) ((n:Int)+1).toNat=lB (d,(n:Int),u) b
 rw[show ((n:Int)+1).toNat=n+1 by omega]
 refine xg (dZ _ _) ok.1 fun k hk=>?_
 rw[b9 _ _ _ hk];have h4:=congrArg (fun l=>l.getD k 0) h3
 simp only[b9 _ _ _ hk]at h4;unfold lB;simp only[Waw];have up:∀c:Int,sR c->∀r s:Nat,r<=s->s<=8->mb c r=c->mb c s=c:=fun c hc r s hrs hs h=>by
  rw[<-h,qa3 hc (by omega) hs,show min r s=r by omega]
 split
 ·rw[oF _ _ _ _ (by rw[h2];omega)]
  split
  ·rename_i e;subst e;rw[show min (n-8*(n / 8)) 8=n % 8 by omega]at h4
   rw[show min (n+1-8*(n / 8)) 8=n % 8+1 by omega]
   have hc:=iw hp (n / 8);generalize d.getD (n / 8) 0=c at h4 hc ⊢
   have qp3:∀c∈List.range 256,∀r∈List.range 8,mb (c:Int) r=(c:Int)->mb ((c:Int)+128 / 2 ^ r) (r+1)=(c:Int)+128 / 2 ^ r:=by decide+kernel
   obtain⟨k,hk,rfl⟩:=jX hc;exact qp3 k hk _ (List.mem_range.2 (Wcg _ (by decide))) h4
  ·exact up _ (iw hp k) _ _ (by omega) (by omega) h4
 ·exact up _ (iw hp k) _ _ (by omega) (by omega) h4
abbrev It:=List Int×List Int×Unit
abbrev Pc:=Int×Px×List Int×Int×List (List Int)×List Int×Unit
def aA(s:List It):List (List Int):=s.map fun it=>it.1
def cJ(s:List It)(x:List Int):Bool:=decide (x∈aA s)
def ai(s:List It)(p:Px):List It:=s.filter fun it=>under p it.1
def cA(s:List It)(x:List Int):Nat:=(s.filter fun it=>fX it.1 x).length
def pH(s:List It)(it:It):List It:=s.take (cA s it.1)++it::s.drop (cA s it.1)
def aP(H:List (List Int)->List Int)(s:List It)(p:Px):Pc:=(1,p,H (aA (ai s p)),((ai s p).length:Int),[],[],())
def lS(s:List It)(p:Px):Pc:=(2,p,jW,0,aA (ai s p),[],())
def fq(l:List (List Int)):Pc:=(3,root,jW,0,l,[],())
def dA(t:List Int):Pc:=(4,root,jW,0,[],t,())
def jL(nm:List Int->List Int)(s:List It)(t:List Int):List It×Int:=
 if 1048576<t.length then (s,1) else if cJ s (nm t)=true then (s,6) else if 65536<=s.length then (s,2) else (pH s (nm t,t,()),0)
def iz(l:List (List Int)):Bool:=(List.range l.length).all fun k=>decide (k=0)||fX (l.getD (k-1) []) (l.getD k [])
def dK(m:Pc):Bool:=
 (decide (m.1=1\/m.1=2)||decide (m.2.1=root))&&(decide (m.1=1)||decide (m.2.2.1=jW)&&decide (m.2.2.2.1=0))&&(decide (m.1=2\/m.1=3)||decide (m.2.2.2.2.1.length=0))&&
   (decide (m.1=4)||decide (m.2.2.2.2.2.1=[]))
def bQ(p:Px):Bool:=decide (0<=p.2.1/\p.2.1<=128)&&decide (cG p.1 p.2.1.toNat=p.1)
def bh(m:Pc):Int:=
 if m.1<1\/4<m.1 then 1
 else if (dK m&&bQ m.2.1&&decide (0<=m.2.2.2.1/\m.2.2.2.1<=65536/\m.2.2.2.2.1.length<=65536/\m.2.2.2.2.2.1.length<=1048576))=false then 3
 else if (iz m.2.2.2.2.1&&(decide (m.1≠2)||m.2.2.2.2.1.all fun x=>under m.2.1 x))=false then 3 else 0
def Iq(H:List (List Int)->List Int)(s:List It)(m:Pc):List Pc:=
 if H (aA (ai s m.2.1))=m.2.2.1/\((ai s m.2.1).length:Int)=m.2.2.2.1 then []
 else if (ai s m.2.1).length<=8 then [lS s m.2.1]
 else if m.2.2.2.1<=8 then [aP H s m.2.1]
 else [aP H s (half m.2.1 false),aP H s (half m.2.1 true)]
def lT(s:List It)(l:List (List Int)):List (List Int):=l.filter fun x=>!cJ s x
def qho(s:List It)(m:Pc):List It:=(ai s m.2.1).filter fun it=>decide (it.1∉m.2.2.2.2.1)
def Ir(s:List It)(m:Pc):List Pc:=
 (if 0<(lT s m.2.2.2.2.1).length then [fq (lT s m.2.2.2.2.1)] else [])++(qho s m).map fun it=>dA it.2.1
def cD(s:List It)(x:List Int):Option (List Int):=(s.find? fun it=>decide (it.1=x)).map fun it=>it.2.1
def xj(s:List It)(m:Pc):List Pc:=(m.2.2.2.2.1.filterMap (cD s)).map dA
def cg(H:List (List Int)->List Int)(nm:List Int->List Int)(s:List It)(m:Pc):List It×List Pc×Int:=
 if bh m≠0 then (s,[],bh m) else if m.1=1 then (s,Iq H s m,0) else if m.1=2 then (s,Ir s m,0) else if m.1=3 then (s,xj s m,0)
 else ((jL nm s m.2.2.2.2.2.1).1,[],(jL nm s m.2.2.2.2.2.1).2)
def nQ(H:List (List Int)->List Int)(nm:List Int->List Int):Nat->List It->List It->List (Int×Pc)->(List It×List It)×Bool
 |_,a,b,[]=>((a,b),true)
 |0,a,b,_::_=>((a,b),false)
 |f+1,a,b,w::q=>
  if w.1=0 then
   if (cg H nm a w.2).2.2≠0 then ((a,b),false) else nQ H nm f (cg H nm a w.2).1 b (q++(cg H nm a w.2).2.1.map fun m=>(1,m))
  else
   if (cg H nm b w.2).2.2≠0 then ((a,b),false) else nQ H nm f a (cg H nm b w.2).1 (q++(cg H nm b w.2).2.1.map fun m=>(0,m))
def kR(H:List (List Int)->List Int)(nm:List Int->List Int)(a b:List It):(List It×List It)×Bool:=nQ H nm 5001 a b [(1,aP H a root)]
def xk(a b:It):Prop:=fX a.1 b.1=true
def oh(nm:List Int->List Int)(s:List It):Prop:=s.Pairwise xk/\∀it∈s,aV it.1/\it.1=nm it.2.1/\it.2.1.length<=1048576
theorem je{s:List It}{x:List Int}:cJ s x=true↔∃it∈s,it.1=x:=by
 unfold cJ aA;rw[decide_eq_true_iff,WbM]
theorem Gi{s:List It}{x:List Int}:cJ s x=false↔∀it∈s,it.1≠x:=by
 unfold cJ aA;rw[decide_eq_false_iff_not,WbM];exact⟨fun h it hi e=>h ⟨it,hi,e⟩,fun h ⟨it,hi,e⟩=>h it hi e⟩
theorem zZ{s:List It}{it:It}(h:it∈s):cJ s it.1=true:=je.2 ⟨it,h,rfl⟩
theorem eF{s:List It}(h:s.Pairwise xk):(aA s).Pairwise fun a b=>fX a b=true:=List.pairwise_map.2 h
theorem Gj{s:List It}(h:s.Pairwise xk){i j:It}(hi:i∈s)(hj:j∈s)(e:i.1=j.1):i=j:=by
 induction s with
 |nil=>cases hi
 |cons z s ih=>
  obtain⟨h1,h2⟩:=List.pairwise_cons.1 h;rcases List.mem_cons.1 hi with hi|hi<;>rcases List.mem_cons.1 hj with hj|hj
  ·rw[hi,hj]
  ·have:=Gg (h1 j hj);rw[hi]at e;exact absurd e this
  ·have:=Gg (h1 i hi);rw[hj]at e;exact absurd e.symm this
  ·exact ih h2 hi hj
theorem yb{α:Type}{r:α->α->Prop}(hi:∀a,¬r a a)(ht:∀a b,r a b->¬r b a):∀{l m:List α},l.Pairwise r->m.Pairwise r->(∀x,x∈l↔x∈m)->l=m
 |[],[],_,_,_=>rfl
 |[],y::m,_,_,h=>absurd ((h y).2 Waq) Wbg
 |x::l,[],_,_,h=>absurd ((h x).1 Waq) Wbg
 |x::l,y::m,h1,h2,h=>by
  obtain⟨a1,a2⟩:=List.pairwise_cons.1 h1;obtain⟨b1,b2⟩:=List.pairwise_cons.1 h2;have e:x=y:=by
   rcases List.mem_cons.1 ((h x).1 Waq) with e|e
   ·exact e
   ·rcases List.mem_cons.1 ((h y).2 Waq) with e'|e'
    ·exact e'.symm
    ·exact absurd (b1 x e) (ht _ _ (a1 y e'))
  subst e;rw[yb hi ht a2 b2 fun z=>?_]
  constructor
  ·intro hz;rcases List.mem_cons.1 ((h z).1 (Wal _ hz)) with e|e
   ·subst e;exact absurd (a1 z hz) (hi z)
   ·exact e
  ·intro hz;rcases List.mem_cons.1 ((h z).2 (Wal _ hz)) with e|e
   ·subst e;exact absurd (b1 z hz) (hi z)
   ·exact e
theorem Wk{l m:List (List Int)}(h1:l.Pairwise fun a b=>fX a b=true)(h2:m.Pairwise fun a b=>fX a b=true)(h:∀x,x∈l↔x∈m):l=m:=
 yb (fun a h=>by rw[mL]at h;cases h) (fun a b h h'=>by rw[BM h]at h';cases h') h1 h2 h
theorem Wl{l m:List It}(h1:l.Pairwise xk)(h2:m.Pairwise xk)(h:∀x,x∈l↔x∈m):l=m:=
 yb (fun a h=>by unfold xk at h;rw[mL]at h;cases h) (fun a b h h'=>by unfold xk at h h';rw[BM h]at h';cases h') h1 h2 h
theorem Aa{x:List Int}:∀{s:List It},s.Pairwise xk->s.take (cA s x)=s.filter (fun it=>fX it.1 x)/\s.drop (cA s x)=s.filter fun it=>!fX it.1 x
 |[],_=>⟨rfl,rfl⟩
 |z::s,h=>by
  obtain⟨h1,h2⟩:=List.pairwise_cons.1 h;obtain⟨i1,i2⟩:=Aa (x:=x) h2;unfold cA at*;cases hz:fX z.1 x with
  |true=>
   rw[WbC (by simpa using hz),WbD (by simp[hz])]
   exact⟨by rw[Wae,List.take_succ_cons,i1],by rw[Wae,WcQ,i2]⟩
  |false=>
   have e:s.filter (fun it=>fX it.1 x)=[]:=by
    rw[Wca];intro it hit hlt;rw[oE (h1 it hit) hlt]at hz;cases hz
   rw[WbD (by simp[hz]),WbC (by simp[hz]),e]
   refine⟨rfl,?_⟩
   show z::s=_
   rw[e]at i2;rw[<-i2];rfl
theorem LL{s:List It}(h:s.Pairwise xk)(it:It):pH s it=s.filter (fun x=>fX x.1 it.1)++it::s.filter fun x=>!fX x.1 it.1:=by
 obtain⟨h1,h2⟩:=Aa (x:=it.1) h;unfold pH;rw[h1,h2]
theorem jY{s:List It}(h:s.Pairwise xk){it x:It}:x∈pH s it↔x=it\/x∈s:=by
 rw[LL h];simp only[WbH,Wbi,WbI,WaU];constructor
 ·rintro (h|h|h)
  ·exact .inr h.1
  ·exact .inl h
  ·exact .inr h.1
 ·rintro (h|h)
  ·exact .inr (.inl h)
  ·cases e:fX x.1 it.1 with
   |true=>exact .inl ⟨h,rfl⟩
   |false=>exact .inr (.inr ⟨h,rfl⟩)
theorem uS{s:List It}(h:s.Pairwise xk){it:It}(hn:cJ s it.1=false):(pH s it).Pairwise xk:=by
 rw[LL h];have hn:=Gi.1 hn;refine List.pairwise_append.2 ⟨h.filter _,List.pairwise_cons.2 ⟨fun x hx=>?_,h.filter _⟩,fun x hx y hy=>?_⟩
 ·obtain⟨h1,h2⟩:=List.mem_filter.1 hx;simp only[WaU]at h2;unfold xk;cases e:fX it.1 x.1 with
  |true=>rfl
  |false=>exact absurd (zX _ _ h2 e) (hn x h1)
 ·have h1:=(List.mem_filter.1 hx).2;rcases List.mem_cons.1 hy with hy|hy
  ·subst hy;exact h1
  ·obtain⟨h2,h3⟩:=List.mem_filter.1 hy;simp only[WaU]at h3;unfold xk;have h4:fX it.1 y.1=true:=by
    cases e:fX it.1 y.1 with
    |true=>rfl
    |false=>exact absurd (zX _ _ h3 e) (hn y h2)
   exact oE h1 h4
theorem qa5{s:List It}(it:It):(pH s it).length=s.length+1:=by
 have h:cA s it.1<=s.length:=WaF _ _;unfold pH;simp only[Wad,Waf,Wae,List.length_drop];omega
theorem uT{s:List It}(h:s.Pairwise xk){it:It}{x:List Int}:cJ (pH s it) x=true↔x=it.1\/cJ s x=true:=by
 rw[je,je];constructor
 ·rintro⟨y,hy,rfl⟩
  rcases (jY h).1 hy with e|e
  ·exact .inl (by rw[e])
  ·exact .inr ⟨y,e,rfl⟩
 ·rintro (e|⟨y,hy,rfl⟩)
  ·exact⟨it,(jY h).2 (.inl rfl),e.symm⟩
  ·exact⟨y,(jY h).2 (.inr hy),rfl⟩
theorem sU{s:List It}(h:s.Pairwise xk){it:It}{p:Px}(hp:under p it.1=false):ai (pH s it) p=ai s p:=by
 unfold ai;obtain⟨h1,h2⟩:=Aa (x:=it.1) h;have h0:s=s.filter (fun x=>fX x.1 it.1)++s.filter fun x=>!fX x.1 it.1:=by rw[<-h1,<-h2,Wax]
 rw[LL h,List.filter_append,WbD (by simp[hp]),<-List.filter_append,<-h0]
theorem pI{α:Type}[DecidableEq α]:∀{l m:List α},l.Nodup->(∀x∈l,x∈m)->l.length<=m.length
 |[],_,_,_=>Wbz _
 |x::l,m,h,hs=>by
  obtain⟨h1,h2⟩:=List.nodup_cons.1 h;have hx:=hs x Waq;have:=pI (m:=m.erase x) h2 fun y hy=>(List.mem_erase_of_ne (fun e=>h1 (by rw[<-e];exact hy))).2 (hs y (Wal _ hy))
  rw[List.length_erase_of_mem hx]at this;have:=List.length_pos_of_mem hx
  simp only[Wae];omega
theorem C9{s:List It}(h:s.Pairwise xk):(aA s).Nodup:=(eF h).imp fun h=>Gg h
theorem Da{s:List It}(h:s.Pairwise xk):s.Nodup:=h.imp fun {a b} h e=>by unfold xk at h;rw[e,mL]at h;cases h
theorem Gk{l:List (List Int)}(h:l.Pairwise fun a b=>fX a b=true):iz l=true:=by
 unfold iz;rw[Wau];intro k hk;have hk:=List.mem_range.1 hk;by_cases e:k=0
 ·simp[e]
 ·rw[WaL];refine .inr ?_
  have h1:k-1<l.length:=by omega
  rw[Wab,Wab,Waa h1,Waa hk];exact List.pairwise_iff_getElem.1 h (k-1) k h1 hk (by omega)
theorem yc{s:List It}(h:s.Pairwise xk){it:It}(hi:it∈s):cD s it.1=some it.2.1:=by
 unfold cD;cases e:s.find? fun x=>decide (x.1=it.1) with
 |none=>exact absurd (decide_eq_true rfl) (List.find?_eq_none.1 e it hi)
 |some y=>
  have h1:=Wcp e;have h2:=WcO e;rw[Gj h h1 hi (of_decide_eq_true h2)];rfl
end Go.PL
namespace Go.PL
section
variable (H:List (List Int)->List Int) (nm:List Int->List Int)
def scope(m:Pc)(x:List Int):Prop:=if m.1<=2 then under m.2.1 x=true else if m.1=3 then x∈m.2.2.2.2.1 else x=nm m.2.2.2.2.2.1
def uU(r s r0 s0:List It)(m:Pc):Prop:=
 (∃p,m=aP H s p/\gI p/\aV p.1/\ai r p=ai r0 p/\ai s p=ai s0 p)\/
 (∃p,m=lS s p/\gI p/\aV p.1/\ai r p=ai r0 p/\ai s p=ai s0 p)\/
 (∃l,m=fq l/\(l.Pairwise fun a b=>fX a b=true)/\l.length<=65536/\∀x∈l,cJ r x=true/\cJ s x=false)\/
 (∃it,m=dA it.2.1/\it∈s/\cJ r it.1=false)
def cnt(s:List It)(p:Px):Nat:=(ai s p).length
def uV(r0 s0:List It)(m:Pc):Nat:=
 if m.1=1 then 5*(128-m.2.1.2.1.toNat)*(min (cnt r0 m.2.1) (cnt s0 m.2.1) / 9)+(if cnt r0 m.2.1<=8 then 3 else 4)+(cnt r0 m.2.1+cnt s0 m.2.1)
 else if m.1=2 then 2+(cnt r0 m.2.1+cnt s0 m.2.1) else if m.1=3 then 1+m.2.2.2.2.1.length else 1
def jM(a b:List It):Prop:=∀it∈a,cJ b it.1=false->∀n,n<=128->H (aA (ai a (nB it.1 n)))≠H (aA (ai b (nB it.1 n)))
def qa6(m m':Pc):Prop:=∀x,aV x->scope nm m x->¬scope nm m' x
theorem iA{s:List It}(h:s.Pairwise xk)(p:Px):(ai s p).Pairwise xk:=h.filter _
theorem qa7{s:List It}{p:Px}{x:List Int}(hp:under p x=true):x∈aA (ai s p)↔cJ s x=true:=by
 rw[je];unfold aA ai;simp only[WbM,WbI];constructor
 ·rintro⟨it,⟨h1,h2⟩,h3⟩;exact⟨it,h1,h3⟩
 ·rintro⟨it,h1,h3⟩;exact⟨it,⟨h1,by rw[h3];exact hp⟩,h3⟩
theorem qe6{s:List It}{p:Px}{x:List Int}(h:x∈aA (ai s p)):under p x=true/\cJ s x=true:=by
 obtain⟨it,h1,h2⟩:=List.mem_map.1 h;obtain⟨h3,h4⟩:=List.mem_filter.1 h1;rw[<-h2];exact⟨h4,zZ h3⟩
theorem qa8{s:List It}(h:oh nm s){x:List Int}(hx:cJ s x=true):aV x:=by
 obtain⟨it,h1,rfl⟩:=je.1 hx;exact (h.2 it h1).1
theorem LM(s:List It)(p:Px):cnt s p<=s.length:=WaF _ _
theorem qa9{a b:List It}(ha:oh nm a)(hb:oh nm b)(h1:jM H a b)(h2:jM H b a){p:Px}(hp:gI p)(e:H (aA (ai a p))=H (aA (ai b p))):
 aA (ai a p)=aA (ai b p):=by
 have key:∀{a b:List It},oh nm a->oh nm b->jM H a b->H (aA (ai a p))=H (aA (ai b p))->∀x,x∈aA (ai a p)->x∈aA (ai b p):=by
  intro a b ha hb h1 e x hx;obtain⟨hu,hx⟩:=qe6 hx;refine (qa7 hu).2 ?_
  cases hb':cJ b x with
  |true=>rfl
  |false=>
   obtain⟨it,hi,rfl⟩:=je.1 hx;have hpx:=OP hp hu;have:=hp.2.1
   have h0:=hp.1;refine absurd ?_ (h1 it hi hb' p.2.1.toNat (by omega))
   rw[<-hpx];exact e
 exact Wk (eF (iA ha.1 p)) (eF (iA hb.1 p)) fun x=>⟨key ha hb h1 e x,key hb ha h2 e.symm x⟩
theorem qe7{s:List It}(h:oh nm s){p:Px}(hp:128<=p.2.1):cnt s p<=1:=by
 have h1:∀x∈aA (ai s p),x=p.1:=fun x hx=>by
  obtain⟨h2,h3⟩:=qe6 hx;have:=(gJ p x).1 h2
  rw[JD (qa8 nm h h3) (by omega)]at this
  exact this
 have h2:=pI (m:=[p.1]) (C9 (iA h.1 p)) fun x hx=>by rw[h1 x hx];exact List.mem_singleton.2 rfl
 unfold aA at h2;rw[Wav]at h2;exact h2
theorem OQ{s:List It}(h:oh nm s){p:Px}(hp:gI p)(hok:aV p.1)(hl:p.2.1<128):cnt s (half p false)+cnt s (half p true)=cnt s p:=by
 have key:∀l:List It,(∀it∈l,aV it.1)->(l.filter fun it=>under (half p false) it.1).length+(l.filter fun it=>under (half p true) it.1).length=(l.filter fun it=>under p it.1).length:=by
  intro l hl';induction l with
  |nil=>rfl
  |cons z l ih=>
   have ih:=ih fun it hi=>hl' it (Wal _ hi)
   have hz:=hl' z Waq;have e1:=iy hp hok hl hz false;have e2:=iy hp hok hl hz true;simp only[List.filter_cons];cases hu:under p z.1 with
   |false=>
    have n1:under (half p false) z.1=false:=by cases e:under (half p false) z.1 with|false=>rfl|true=>exact absurd (e1.1 e).1 (by simp[hu])
    have n2:under (half p true) z.1=false:=by cases e:under (half p true) z.1 with|false=>rfl|true=>exact absurd (e2.1 e).1 (by simp[hu])
    simp only[n1,n2,WaG,if_false];exact ih
   |true=>
    cases hb:og z.1 p.2.1.toNat with
    |false=>
     have n1:under (half p false) z.1=true:=e1.2 ⟨hu,hb⟩;have n2:under (half p true) z.1=false:=by cases e:under (half p true) z.1 with|false=>rfl|true=>exact absurd (e2.1 e).2 (by simp[hb])
     simp only[n1,n2,WaG,if_false,if_true,Wae];omega
    |true=>
     have n1:under (half p false) z.1=false:=by cases e:under (half p false) z.1 with|false=>rfl|true=>exact absurd (e1.1 e).2 (by simp[hb])
     have n2:under (half p true) z.1=true:=e2.2 ⟨hu,hb⟩;simp only[n1,n2,WaG,if_false,if_true,Wae];omega
 exact key s fun it hi=>(h.2 it hi).1
theorem rB{p:Px}(h:gI p):bQ p=true:=by
 unfold bQ;rw[decide_eq_true ⟨h.1,h.2.1⟩,decide_eq_true h.2.2.2];rfl
theorem Wm{s:List It}{p:Px}(hp:gI p)(hl:s.length<=65536):bh (aP H s p)=0:=by
 have:=LM s p
 unfold cnt at this;unfold bh dK aP;simp only[rB hp];rw[if_neg (by omega),if_neg,if_neg]<;>simp[iz]
 omega
theorem Wn{s:List It}(hs:s.Pairwise xk){p:Px}(hp:gI p)(hl:s.length<=65536):bh (lS s p)=0:=by
 have:=LM s p
 unfold cnt at this;have h2:((aA (ai s p)).all fun x=>under p x)=true:=List.all_eq_true.2 fun x hx=>(qe6 hx).1
 unfold bh dK lS;simp only[rB hp,Gk (eF (iA hs p)),h2];rw[if_neg (by omega),if_neg,if_neg]
 ·simp
 ·simp[aA]
  omega
theorem Rz{l:List (List Int)}(hs:l.Pairwise fun a b=>fX a b=true)(hl:l.length<=65536):bh (fq l)=0:=by
 unfold bh dK fq;simp only[rB pG,Gk hs];rw[if_neg (by omega),if_neg,if_neg]
 ·simp
 ·simp
  omega
theorem RA{t:List Int}(hl:t.length<=1048576):bh (dA t)=0:=by
 unfold bh dK dA;simp only[rB pG];rw[if_neg (by omega),if_neg,if_neg]<;>simp[iz]
 omega
end
end Go.PL
namespace Go.PL
section
variable (H:List (List Int)->List Int) (nm:List Int->List Int)
structure Did (r s r0 s0:List It) (m:Pc) (r':List It) (l:List Pc):Prop where
 chg:r'=r\/∃it,it∈s/\scope nm m it.1/\cJ r it.1=false/\r'=pH r it
 good:∀m'∈l,uU H s r' s0 r0 m'
 dis:l.Pairwise (qa6 nm)
 sub:∀m'∈l,∀x,aV x->scope nm m' x->scope nm m x
 rest:∀x,aV x->scope nm m x->(∀m'∈l,¬scope nm m' x)->cJ r' x=cJ s x
 mea:(l.map (uV s0 r0)).sum+1<=uV r0 s0 m
variable {H nm}
theorem cP{s:List It}{p:Px}{x:List Int}:scope nm (aP H s p) x↔under p x=true:=by simp[scope,aP]
theorem oG{s:List It}{p:Px}{x:List Int}:scope nm (lS s p) x↔under p x=true:=by simp[scope,lS]
theorem kF{l:List (List Int)}{x:List Int}:scope nm (fq l) x↔x∈l:=by simp[scope,fq]
theorem eP{t:List Int}{x:List Int}:scope nm (dA t) x↔x=nm t:=by simp[scope,dA]
theorem pJ{a b s:List It}{p:Px}:uV a b (aP H s p)=5*(128-p.2.1.toNat)*(min (cnt a p) (cnt b p) / 9)+(if cnt a p<=8 then 3 else 4)+(cnt a p+cnt b p):=by
 unfold uV;rw[if_pos (show (aP H s p).1=1 from rfl)]
 rfl
theorem OR{a b s:List It}{p:Px}:uV a b (lS s p)=2+(cnt a p+cnt b p):=by simp[uV,lS]
theorem JF{a b:List It}{l:List (List Int)}:uV a b (fq l)=1+l.length:=by simp[uV,fq]
theorem BN{a b:List It}{t:List Int}:uV a b (dA t)=1:=by simp[uV,dA]
theorem has_eq{a b:Bool}(h:a=true↔b=true):a=b:=by cases a<;>cases b<;>simp_all
theorem qba{r s:List It}{p:Px}(hp:gI p)(hl:s.length<=65536):cg H nm r (aP H s p)=(r,Iq H r (aP H s p),0):=by
 unfold cg;rw[Wm H hp hl,if_neg (by decide)]
 rfl
theorem qbb{r s:List It}{p:Px}(hs:s.Pairwise xk)(hp:gI p)(hl:s.length<=65536):cg H nm r (lS s p)=(r,Ir r (lS s p),0):=by
 unfold cg;rw[Wn hs hp hl,if_neg (by decide)]
 rfl
theorem Wo{r:List It}{l:List (List Int)}(hs:l.Pairwise fun a b=>fX a b=true)(hl:l.length<=65536):cg H nm r (fq l)=(r,xj r (fq l),0):=by
 unfold cg;rw[Rz hs hl,if_neg (by decide)]
 rfl
theorem Wp{r:List It}{t:List Int}(hl:t.length<=1048576):cg H nm r (dA t)=((jL nm r t).1,[],(jL nm r t).2):=by
 unfold cg;rw[RA hl,if_neg (by decide)]
 rfl
theorem qbc{r s r0 s0:List It}(hr:oh nm r)(hs:oh nm s)(Ee:oh nm r0)(hs0:oh nm s0)(hls:s.length<=65536)(c1:jM H r0 s0)(c2:jM H s0 r0){p:Px}(hp:gI p)(hok:aV p.1)
 (er:ai r p=ai r0 p) (es:ai s p=ai s0 p):∃r' l,cg H nm r (aP H s p)=(r',l,0)/\Did H nm r s r0 s0 (aP H s p) r' l:=by
 have cr:(ai r p).length=cnt r0 p:=by rw[er];rfl
 have cs:(ai s p).length=cnt s0 p:=by rw[es];rfl
 refine⟨r,Iq H r (aP H s p),qba hp hls,?_⟩
 have eh:Iq H r (aP H s p)=if H (aA (ai r p))=H (aA (ai s p))/\((ai r p).length:Int)=((ai s p).length:Int) then []
  else if (ai r p).length<=8 then [lS r p] else if ((ai s p).length:Int)<=8 then [aP H r p] else [aP H r (half p false),aP H r (half p true)]:=rfl
 rw[eh];split
 ·rename_i h;refine⟨.inl rfl,fun m' h=>absurd h Wbg,List.Pairwise.nil,fun m' h=>absurd h Wbg,fun x hx h1 h2=>?_,?_⟩
  ·have hu:=cP.1 h1;have hn:aA (ai r p)=aA (ai s p):=by
    have:=qa9 H nm Ee hs0 c1 c2 hp (by rw[<-er,<-es];exact h.1)
    rw[er,es];exact this
   refine has_eq ?_
   rw[<-qa7 hu,<-qa7 hu,hn]
  ·rw[pJ];simp only[WbN,Wcv];split<;>omega
 ·split
  ·rename_i h8;refine⟨.inl rfl,fun m' h=>?_,WbE _ _,fun m' h x hx h1=>?_,fun x hx h1 h2=>?_,?_⟩
   ·rw[List.mem_singleton.1 h];exact .inr (.inl ⟨p,rfl,hp,hok,es,er⟩)
   ·rw[List.mem_singleton.1 h]at h1;exact cP.2 (oG.1 h1)
   ·exact absurd (oG.2 (cP.1 h1)) (h2 _ (List.mem_singleton.2 rfl))
   ·rw[pJ];simp only[Wat,WbN,WbT,Wcv,OR];rw[cr]at h8;rw[if_pos h8];omega
  ·rename_i h8;split
   ·rename_i h9;refine⟨.inl rfl,fun m' h=>?_,WbE _ _,fun m' h x hx h1=>?_,fun x hx h1 h2=>?_,?_⟩
    ·rw[List.mem_singleton.1 h];exact .inl ⟨p,rfl,hp,hok,es,er⟩
    ·rw[List.mem_singleton.1 h]at h1;exact cP.2 (cP.1 h1)
    ·exact absurd (cP.2 (cP.1 h1)) (h2 _ (List.mem_singleton.2 rfl))
    ·rw[pJ];simp only[Wat,WbN,WbT,Wcv,pJ];rw[cr]at h8;rw[cs]at h9;rw[if_neg h8,if_pos (show cnt s0 p<=8 by omega)]
     have e1:min (cnt s0 p) (cnt r0 p) / 9=0:=by omega
     rw[e1];omega
   ·rename_i h9;rw[cr]at h8;rw[cs]at h9;have hlt:p.2.1<128:=by
     have:=qe7 nm Ee (p:=p)
     by_cases h:p.2.1<128
     ·exact h
     ·have:=this (by omega)
      omega
    have b:∀c,gI (half p c)/\aV (half p c).1:=fun c=>Gh hp hok hlt c
    have uh:∀{a a0:List It},oh nm a->oh nm a0->ai a p=ai a0 p->∀c,ai a (half p c)=ai a0 (half p c):=by
     intro a a0 ha ha0 e c;have k:∀{a:List It},oh nm a->ai a (half p c)=(ai a p).filter fun it=>under (half p c) it.1:=by
      intro a ha;unfold ai;rw[List.filter_filter];refine List.filter_congr fun it hi=>?_
      have:=iy hp hok hlt (ha.2 it hi).1 c
      cases e:under (half p c) it.1 with
      |false=>rfl
      |true=>rw[(this.1 e).1];rfl
     rw[k ha,k ha0,e]
    refine⟨.inl rfl,fun m' h=>?_,List.pairwise_cons.2 ⟨fun m' h=>?_,WbE _ _⟩,fun m' h x hx h1=>?_,fun x hx h1 h2=>?_,?_⟩
    ·rcases List.mem_cons.1 h with h|h
     ·rw[h];exact .inl ⟨_,rfl,(b false).1,(b false).2,uh hs hs0 es _,uh hr Ee er _⟩
     ·rw[List.mem_singleton.1 h];exact .inl ⟨_,rfl,(b true).1,(b true).2,uh hs hs0 es _,uh hr Ee er _⟩
    ·rw[List.mem_singleton.1 h];intro x hx h1 h2;have e1:=((iy hp hok hlt hx false).1 (cP.1 h1)).2;have e2:=((iy hp hok hlt hx true).1 (cP.1 h2)).2;rw[e1]at e2;cases e2
    ·rcases List.mem_cons.1 h with h|h
     ·rw[h]at h1;exact cP.2 ((iy hp hok hlt hx _).1 (cP.1 h1)).1
     ·rw[List.mem_singleton.1 h]at h1;exact cP.2 ((iy hp hok hlt hx _).1 (cP.1 h1)).1
    ·have hu:=cP.1 h1;cases hb:og x p.2.1.toNat with
     |false=>exact absurd (cP.2 ((iy hp hok hlt hx false).2 ⟨hu,hb⟩)) (h2 _ Waq)
     |true=>exact absurd (cP.2 ((iy hp hok hlt hx true).2 ⟨hu,hb⟩)) (h2 _ (Wal _ (List.mem_singleton.2 rfl)))
    ·have a1:=OQ nm Ee hp hok hlt;have a2:=OQ nm hs0 hp hok hlt;rw[pJ];simp only[Wat,WbN,WbT,Wcv,pJ];have el:∀c,(half p c).2.1.toNat=p.2.1.toNat+1:=fun c=>by show (p.2.1+1).toNat=_;have:=hp.1;omega
     rw[el,el,if_neg h8];have hn:p.2.1.toNat<128:=by have:=hp.1;omega
     generalize p.2.1.toNat=n at*
     obtain⟨K,hK⟩:∃K,128-n=K+1:=⟨127-n,by omega⟩
     have hK':128-(n+1)=K:=by omega
     rw[hK,hK'];generalize cnt r0 (half p false)=x0 at*
     generalize cnt r0 (half p true)=x1 at*
     generalize cnt s0 (half p false)=y0 at*
     generalize cnt s0 (half p true)=y1 at*
     have g:min y0 x0 / 9+min y1 x1 / 9<=min (cnt r0 p) (cnt s0 p) / 9:=by omega
     have g1:1<=min (cnt r0 p) (cnt s0 p) / 9:=by omega
     generalize min y0 x0 / 9=u at*
     generalize min y1 x1 / 9=v at*
     generalize min (cnt r0 p) (cnt s0 p) / 9=z at*
     have m1:5*K*u+5*K*v<=5*K*z:=by rw[<-Nat.mul_add];exact Nat.mul_le_mul_left _ g
     have m2:5*(K+1)*z=5*K*z+5*z:=by rw[Nat.mul_add,Nat.add_mul]
     rw[m2];split<;>split<;>omega
theorem OS(l:List Pc){f:Pc->Nat}(h:∀m∈l,f m=1):(l.map f).sum=l.length:=by
 induction l with
 |nil=>rfl
 |cons m l ih=>
  rw[Wat,WbT,h m Waq,ih fun m hm=>h m (Wal _ hm),Wae]
  omega
theorem qbd{r s r0 s0:List It}(hr:oh nm r)(hs:oh nm s)(hls:s.length<=65536){p:Px}(hp:gI p)(hok:aV p.1)
 (er:ai r p=ai r0 p) (es:ai s p=ai s0 p):∃r' l,cg H nm r (lS s p)=(r',l,0)/\Did H nm r s r0 s0 (lS s p) r' l:=by
 have cr:(ai r p).length=cnt r0 p:=by rw[er];rfl
 have cs:(ai s p).length=cnt s0 p:=by rw[es];rfl
 refine⟨r,Ir r (lS s p),qbb hs.1 hp hls,?_⟩
 obtain⟨L,hL⟩:∃L,L=aA (ai s p):=⟨_,rfl⟩
 have hLs:L.Pairwise fun a b=>fX a b=true:=by rw[hL];exact eF (iA hs.1 p)
 have hLl:L.length=cnt s0 p:=by rw[hL,<-cs];simp[aA]
 obtain⟨K,hK⟩:∃K,K=lT r L:=⟨_,rfl⟩
 obtain⟨M,hM⟩:∃M,M=(ai r p).filter fun it=>decide (it.1∉L):=⟨_,rfl⟩
 have eh:Ir r (lS s p)=(if 0<K.length then [fq K] else [])++M.map fun it=>dA it.2.1:=by rw[hK,hM,hL];rfl
 rw[eh];have hKm:∀x,x∈K↔x∈L/\cJ r x=false:=fun x=>by rw[hK];unfold lT;rw[WbI];simp
 have hLm:∀x,x∈L->under p x=true/\cJ s x=true:=fun x hx=>by rw[hL]at hx;exact qe6 hx
 have hMm:∀it,it∈M->it∈r/\under p it.1=true/\cJ s it.1=false:=fun it hi=>by
  rw[hM]at hi;obtain⟨h1,h2⟩:=List.mem_filter.1 hi;obtain⟨h3,h4⟩:=List.mem_filter.1 h1;refine⟨h3,h4,?_⟩
  cases e:cJ s it.1 with
  |false=>rfl
  |true=>exact absurd (by rw[hL];exact (qa7 h4).2 e) (of_decide_eq_true h2)
 have e8:∀m',m'∈(if 0<K.length then [fq K] else [])->m'=fq K:=fun m' h=>by
  split at h
  ·exact List.mem_singleton.1 h
  ·exact absurd h Wbg
 have htext:∀m',m'∈(M.map fun it=>dA it.2.1)->∃it∈M,m'=dA it.2.1/\nm it.2.1=it.1:=fun m' h=>by
  obtain⟨it,h1,h2⟩:=List.mem_map.1 h;exact⟨it,h1,h2.symm,(hr.2 it (hMm it h1).1).2.1.symm⟩
 refine⟨.inl rfl,fun m' h=>?_,List.pairwise_append.2 ⟨?_,?_,fun m' h m'' h''=>?_⟩,fun m' h x hx h1=>?_,fun x hx h1 h2=>?_,?_⟩
 ·rcases List.mem_append.1 h with h|h
  ·rw[e8 m' h];refine .inr (.inr (.inl ⟨K,rfl,by rw[hK];exact hLs.filter _,?_,fun x hx=>?_⟩))
   ·have:K.length<=L.length:=by rw[hK];exact WaF _ _
    have:=WaF (fun it:It=>under p it.1) s
    have e:L.length=(ai s p).length:=by rw[hL];simp[aA]
    unfold ai at e;omega
   ·obtain⟨h1,h2⟩:=(hKm x).1 hx;exact⟨(hLm x h1).2,h2⟩
  ·obtain⟨it,h1,rfl,_⟩:=htext m' h;obtain⟨h2,h3,h4⟩:=hMm it h1;exact .inr (.inr (.inr ⟨it,rfl,h2,h4⟩))
 ·split
  ·exact WbE _ _
  ·exact List.Pairwise.nil
 ·rw[WcE];have:M.Pairwise xk:=by rw[hM];exact (iA hr.1 p).filter _
  refine List.Pairwise.imp_of_mem ?_ this
  intro a b ha hb hab x hx h1 h2;have e1:=eP.1 h1;have e2:=eP.1 h2;rw[<-(hr.2 a (hMm a ha).1).2.1]at e1;rw[<-(hr.2 b (hMm b hb).1).2.1]at e2;exact Gg hab (e1.symm.trans e2)
 ·obtain⟨it,h1,rfl,e⟩:=htext m'' h'';rw[e8 m' h];intro x hx h3 h4;have h5:=(hKm x).1 (kF.1 h3);rw[eP.1 h4,e,zZ (hMm it h1).1]at h5;exact absurd h5.2 (by decide)
 ·refine oG.2 ?_
  rcases List.mem_append.1 h with h|h
  ·rw[e8 m' h]at h1;exact (hLm x ((hKm x).1 (kF.1 h1)).1).1
  ·obtain⟨it,h3,rfl,e⟩:=htext m' h;rw[eP.1 h1,e];exact (hMm it h3).2.1
 ·have hu:=oG.1 h1;refine has_eq ⟨fun h=>?_,fun h=>?_⟩
  ·obtain⟨it,h3,rfl⟩:=je.1 h;cases e:cJ s it.1 with
   |true=>rfl
   |false=>
    have h4:it.1∉L:=fun h=>by have:=(hLm _ h).2;rw[e]at this;cases this
    have h5:it∈M:=by
     rw[hM];exact List.mem_filter.2 ⟨List.mem_filter.2 ⟨h3,hu⟩,decide_eq_true h4⟩
    exact absurd (eP.2 (hr.2 it h3).2.1) (h2 (dA it.2.1) (Wbq _ (List.mem_map.2 ⟨it,h5,rfl⟩)))
  ·cases e:cJ r x with
   |true=>rfl
   |false=>
    have h3:x∈K:=(hKm x).2 ⟨by rw[hL];exact (qa7 hu).2 h,e⟩
    have h4:0<K.length:=List.length_pos_of_mem h3;rw[if_pos h4]at h2;exact absurd (kF.2 h3) (h2 _ (Wbm _ (List.mem_singleton.2 rfl)))
 ·have hKl:K.length<=L.length:=by rw[hK];exact WaF _ _
  have hMl:M.length<=cnt r0 p:=by rw[hM,<-cr];exact WaF _ _
  rw[OR,WaQ,List.sum_append,OS (M.map fun it=>dA it.2.1) (fun m' h=>by obtain⟨it,_,rfl,_⟩:=htext m' h;exact BN),Wav]
  split
  ·simp only[Wat,WbN,WbT,Wcv,JF];omega
  ·simp only[WbN,Wcv];omega
theorem Wq{r s r0 s0:List It}(hr:oh nm r){w:List (List Int)}(hw:w.Pairwise fun a b=>fX a b=true)(hlw:w.length<=65536)(hin:∀x∈w,cJ r x=true/\cJ s x=false):
 ∃r' l,cg H nm r (fq w)=(r',l,0)/\Did H nm r s r0 s0 (fq w) r' l:=by
 refine⟨r,xj r (fq w),Wo hw hlw,?_⟩
 have ht:∀x∈w,∃it∈r,it.1=x/\cD r x=some it.2.1/\nm it.2.1=x:=fun x hx=>by
  obtain⟨it,h1,rfl⟩:=je.1 (hin x hx).1;exact⟨it,h1,rfl,yc hr.1 h1,(hr.2 it h1).2.1.symm⟩
 have eh:xj r (fq w)=(w.filterMap (cD r)).map dA:=rfl;rw[eh];have hm:∀m',m'∈(w.filterMap (cD r)).map dA->∃it∈r,it.1∈w/\m'=dA it.2.1/\nm it.2.1=it.1:=fun m' h=>by
  obtain⟨t,h1,rfl⟩:=List.mem_map.1 h;obtain⟨x,h2,h3⟩:=List.mem_filterMap.1 h1;obtain⟨it,h4,rfl,h5,h6⟩:=ht x h2;rw[h3]at h5;obtain rfl:=Option.some.inj h5;exact⟨it,h4,h2,rfl,h6⟩
 refine⟨.inl rfl,fun m' h=>?_,?_,fun m' h x hx h1=>?_,fun x hx h1 h2=>?_,?_⟩
 ·obtain⟨it,h1,h2,rfl,_⟩:=hm m' h;exact .inr (.inr (.inr ⟨it,rfl,h1,(hin _ h2).2⟩))
 ·rw[WcE,List.pairwise_filterMap];refine List.Pairwise.imp_of_mem ?_ hw
  intro a b ha hb hab t h1 u h2 x hx h3 h4;obtain⟨i,_,rfl,h5,h6⟩:=ht a ha;obtain⟨j,_,rfl,h7,h8⟩:=ht b hb;rw[h5]at h1;rw[h7]at h2;obtain rfl:=Option.some.inj h1;obtain rfl:=Option.some.inj h2;have e1:=eP.1 h3;have e2:=eP.1 h4;rw[h6]at e1;rw[h8]at e2;exact Gg hab (e1.symm.trans e2)
 ·obtain⟨it,h2,h3,rfl,e⟩:=hm m' h;rw[eP.1 h1,e];exact kF.2 h3
 ·obtain⟨it,h3,rfl,h4,h5⟩:=ht x (kF.1 h1);exact absurd (eP.2 h5.symm) (h2 (dA it.2.1) (List.mem_map.2 ⟨_,List.mem_filterMap.2 ⟨_,kF.1 h1,h4⟩,rfl⟩))
 ·rw[JF,OS _ (fun m' h=>by obtain⟨it,_,_,rfl,_⟩:=hm m' h;exact BN),Wav]
  have:=Wcw (cD r) w
  omega
theorem Wr{r s r0 s0:List It}(hr:oh nm r)(hs:oh nm s)(hlr:r.length<65536){it:It}(hi:it∈s)(hn:cJ r it.1=false):
 ∃r' l,cg H nm r (dA it.2.1)=(r',l,0)/\Did H nm r s r0 s0 (dA it.2.1) r' l:=by
 obtain⟨h1,h2,h3⟩:=hs.2 it hi;have ei:(nm it.2.1,it.2.1,())=it:=by rw[<-h2]
 have ea:jL nm r it.2.1=(pH r it,0):=by
  unfold jL;rw[if_neg (by omega),if_neg (by rw[<-h2,hn];decide),if_neg (by omega),ei]
 refine⟨pH r it,[],by rw[Wp h3,ea],.inr ⟨it,hi,eP.2 h2,hn,rfl⟩,fun m' h=>absurd h Wbg,List.Pairwise.nil,fun m' h=>absurd h Wbg,fun x hx h4 h5=>?_,?_⟩
 ·have e:=eP.1 h4;rw[<-h2]at e;rw[e,(uT hr.1).2 (.inl rfl),zZ hi]
 ·rw[BN];simp
theorem step{r s r0 s0:List It}(hr:oh nm r)(hs:oh nm s)(Ee:oh nm r0)(hs0:oh nm s0)(hlr:r.length<65536)(hls:s.length<=65536)(c1:jM H r0 s0)(c2:jM H s0 r0){m:Pc}(hm:uU H r s r0 s0 m):
 ∃r' l,cg H nm r m=(r',l,0)/\Did H nm r s r0 s0 m r' l:=by
 rcases hm with ⟨p,rfl,h1,h2,h3,h4⟩|⟨p,rfl,h1,h2,h3,h4⟩|⟨l,rfl,h1,h2,h3⟩|⟨it,rfl,h1,h2⟩
 ·exact qbc hr hs Ee hs0 hls c1 c2 h1 h2 h3 h4
 ·exact qbd hr hs hls h1 h2 h3 h4
 ·exact Wq hr h1 h2 h3
 ·exact Wr hr hs hlr h1 h2
end
end Go.PL
namespace Go.PL
section
variable {H:List (List Int)->List Int} {nm:List Int->List Int}
theorem qja{r s:List It}(hr:oh nm r)(hs:oh nm s){it:It}(hi:it∈s)(hn:cJ r it.1=false):oh nm (pH r it):=
 ⟨uS hr.1 hn,fun x hx=>by
   rcases (jY hr.1).1 hx with e|e
   ·rw[e];exact hs.2 it hi
   ·exact hr.2 x e⟩
theorem Ws{r s r0 s0:List It}(hr:oh nm r)(hs:oh nm s){it:It}(hok:aV it.1){m:Pc}(hm:uU H r s r0 s0 m)(hsc:¬scope nm m it.1):uU H (pH r it) s r0 s0 m:=by
 rcases hm with ⟨p,rfl,h1,h2,h3,h4⟩|⟨p,rfl,h1,h2,h3,h4⟩|⟨l,rfl,h1,h2,h3⟩|⟨j,rfl,h1,h2⟩
 ·have hu:under p it.1=false:=by cases e:under p it.1 with|false=>rfl|true=>exact absurd (cP.2 e) hsc
  exact .inl ⟨p,rfl,h1,h2,by rw[sU hr.1 hu,h3],h4⟩
 ·have hu:under p it.1=false:=by cases e:under p it.1 with|false=>rfl|true=>exact absurd (oG.2 e) hsc
  exact .inr (.inl ⟨p,rfl,h1,h2,by rw[sU hr.1 hu,h3],h4⟩)
 ·exact .inr (.inr (.inl ⟨l,rfl,h1,h2,fun x hx=>⟨(uT hr.1).2 (.inr (h3 x hx).1),(h3 x hx).2⟩⟩))
 ·refine .inr (.inr (.inr ⟨j,rfl,h1,?_⟩))
  cases e:cJ (pH r it) j.1 with
  |false=>rfl
  |true=>
   rcases (uT hr.1).1 e with e|e
   ·exact absurd (eP.2 (by rw[<-e];exact (hs.2 j h1).2.1)) hsc
   ·rw[h2]at e;cases e
theorem Wt{r s r0 s0:List It}(hr:oh nm r)(hs:oh nm s){it:It}(hok:aV it.1){m:Pc}(hm:uU H r s r0 s0 m)(hsc:¬scope nm m it.1):uU H r (pH s it) r0 s0 m:=by
 rcases hm with ⟨p,rfl,h1,h2,h3,h4⟩|⟨p,rfl,h1,h2,h3,h4⟩|⟨l,rfl,h1,h2,h3⟩|⟨j,rfl,h1,h2⟩
 ·have hu:under p it.1=false:=by cases e:under p it.1 with|false=>rfl|true=>exact absurd (cP.2 e) hsc
  have e:=sU hs.1 hu;exact .inl ⟨p,by unfold aP;rw[e],h1,h2,h3,by rw[e,h4]⟩
 ·have hu:under p it.1=false:=by cases e:under p it.1 with|false=>rfl|true=>exact absurd (oG.2 e) hsc
  have e:=sU hs.1 hu;exact .inr (.inl ⟨p,by unfold lS;rw[e],h1,h2,h3,by rw[e,h4]⟩)
 ·refine .inr (.inr (.inl ⟨l,rfl,h1,h2,fun x hx=>⟨(h3 x hx).1,?_⟩⟩))
  cases e:cJ (pH s it) x with
  |false=>rfl
  |true=>
   rcases (uT hs.1).1 e with e|e
   ·exact absurd (kF.2 (by rw[<-e];exact hx)) hsc
   ·rw[(h3 x hx).2]at e;cases e
 ·exact .inr (.inr (.inr ⟨j,rfl,(jY hs.1).2 (.inr h1),h2⟩))
structure yd (H:List (List Int)->List Int) (nm:List Int->List Int) (a0 b0 a b:List It) (q:List (Int×Pc)):Prop where
 JG:oh nm a
 Nf:oh nm b
 RD:∀it∈a,it∈a0++b0
 RE:∀it∈b,it∈a0++b0
 good:∀w∈q,(w.1=0/\uU H a b a0 b0 w.2)\/(w.1=1/\uU H b a b0 a0 w.2)
 dis:q.Pairwise fun v w=>qa6 nm v.2 w.2
 rest:∀x,aV x->(∀w∈q,¬scope nm w.2 x)->cJ a x=cJ b x
def lC(a0 b0:List It)(q:List (Int×Pc)):Nat:=(q.map fun w=>if w.1=0 then uV a0 b0 w.2 else uV b0 a0 w.2).sum
theorem Wu(a0 b0:List It)(q l:List (Int×Pc)):lC a0 b0 (q++l)=lC a0 b0 q+lC a0 b0 l:=by unfold lC;rw[WaQ,List.sum_append]
theorem yd.swap{a0 b0 a b:List It}{q:List (Int×Pc)}(h:yd H nm a0 b0 a b q):yd H nm b0 a0 b a (q.map fun w=>(1-w.1,w.2)) where
 JG:=h.Nf
 Nf:=h.JG
 RD:=fun it hi=>List.mem_append.2 (Or.comm.1 (List.mem_append.1 (h.RE it hi)))
 RE:=fun it hi=>List.mem_append.2 (Or.comm.1 (List.mem_append.1 (h.RD it hi)))
 good:=fun w hw=>by
  obtain⟨v,hv,rfl⟩:=List.mem_map.1 hw;rcases h.good v hv with ⟨h1,h2⟩|⟨h1,h2⟩
  ·exact .inr ⟨by show 1-v.1=1;omega,h2⟩
  ·exact .inl ⟨by show 1-v.1=0;omega,h2⟩
 dis:=by rw[WcE];exact h.dis
 rest:=fun x hx h1=>(h.rest x hx fun w hw=>h1 (1-w.1,w.2) (List.mem_map.2 ⟨w,hw,rfl⟩)).symm
theorem Ug{a0 b0 a:List It}(h:oh nm a)(hs:∀it∈a,it∈a0++b0):a.length<=a0.length+b0.length:=by
 have:=pI (Da h.1) hs
 rwa [Wad]at this
theorem yd.round{a0 b0 a b:List It}{m:Pc}{q:List (Int×Pc)}(ha0:oh nm a0)(hb0:oh nm b0)(hlen:a0.length+b0.length<65536)(c1:jM H a0 b0)(c2:jM H b0 a0)(h:yd H nm a0 b0 a b ((0,m)::q)):
 ∃a' l,cg H nm a m=(a',l,0)/\yd H nm a0 b0 a' b (q++l.map fun m=>(1,m))/\lC a0 b0 (q++l.map fun m=>(1,m))+1<=lC a0 b0 ((0,m)::q):=by
 have hla:=Ug h.JG h.RD;have hlb:=Ug h.Nf h.RE;have hg:uU H a b a0 b0 m:=by
  rcases h.good _ Waq with ⟨_,h2⟩|⟨h1,_⟩
  ·exact h2
  ·exact absurd (show (0:Int)=1 from h1) (by decide)
 obtain⟨a',l,e,hd⟩:=step h.JG h.Nf ha0 hb0 (by omega) (by omega) c1 c2 hg
 obtain⟨d1,d2⟩:=List.pairwise_cons.1 h.dis;refine⟨a',l,e,?_,?_⟩
 ·
  have hq:∀w∈q,(w.1=0/\uU H a' b a0 b0 w.2)\/(w.1=1/\uU H b a' b0 a0 w.2):=by
   intro w hw;have hgw:=h.good w (Wal _ hw);rcases hd.chg with rfl|⟨it,h1,h2,h3,rfl⟩
   ·exact hgw
   ·have hok:=(h.Nf.2 it h1).1;have HY:¬scope nm w.2 it.1:=d1 w hw it.1 hok h2;rcases hgw with ⟨h4,h5⟩|⟨h4,h5⟩
    ·exact .inl ⟨h4,Ws h.JG h.Nf hok h5 HY⟩
    ·exact .inr ⟨h4,Wt h.Nf h.JG hok h5 HY⟩
  have Wv:oh nm a':=by
   rcases hd.chg with rfl|⟨it,h1,h2,h3,rfl⟩
   ·exact h.JG
   ·exact qja h.JG h.Nf h1 h3
  refine⟨Wv,h.Nf,?_,h.RE,?_,?_,?_⟩
  ·rcases hd.chg with rfl|⟨it,h1,h2,h3,rfl⟩
   ·exact h.RD
   ·intro x hx;rcases (jY h.JG.1).1 hx with e|e
    ·rw[e];exact h.RE it h1
    ·exact h.RD x e
  ·intro w hw;rcases List.mem_append.1 hw with hw|hw
   ·exact hq w hw
   ·obtain⟨m',hm',rfl⟩:=List.mem_map.1 hw;exact .inr ⟨rfl,hd.good m' hm'⟩
  ·refine List.pairwise_append.2 ⟨d2,by rw[WcE];exact hd.dis,fun v hv w hw=>?_⟩
   obtain⟨m',hm',rfl⟩:=List.mem_map.1 hw;intro x hx h1 h2;exact d1 v hv x hx (hd.sub m' hm' x hx h2) h1
  ·intro x hx h1;have Oc:∀w∈q,¬scope nm w.2 x:=fun w hw=>h1 w (Wbm _ hw)
   by_cases hs:scope nm m x
   ·exact hd.rest x hx hs fun m' hm'=>h1 (1,m') (Wbq _ (List.mem_map.2 ⟨m',hm',rfl⟩))
   ·have e0:=h.rest x hx fun w hw=>by
     rcases List.mem_cons.1 hw with e|e
     ·rw[e];exact hs
     ·exact Oc w e
    rcases hd.chg with rfl|⟨it,h2,h3,h4,rfl⟩
    ·exact e0
    ·rw[<-e0];refine has_eq ?_
     rw[uT h.JG.1];refine⟨fun h=>?_,.inr⟩
     rcases h with h|h
     ·rw[h]at hs;exact absurd h3 hs
     ·exact h
 ·have hm:=hd.mea;rw[Wu];have e1:lC a0 b0 (l.map fun m=>(1,m))=(l.map (uV b0 a0)).sum:=by
   unfold lC;rw[WbR];rfl
  have e2:lC a0 b0 ((0,m)::q)=uV a0 b0 m+lC a0 b0 q:=by
   unfold lC;rw[Wat,WbT];rfl
  rw[e1,e2];omega
theorem ye(a0 b0:List It){q:List (Int×Pc)}(h:∀w∈q,w.1=0\/w.1=1):lC b0 a0 (q.map fun w=>(1-w.1,w.2))=lC a0 b0 q:=by
 unfold lC;rw[WbR];congr 1
 refine WbJ fun w hw=>?_
 show (if 1-w.1=0 then uV b0 a0 w.2 else uV a0 b0 w.2)=_
 rcases h w hw with e|e<;>rw[e]<;>rfl
theorem Gm{a0 b0:List It}(ha0:oh nm a0)(hb0:oh nm b0)(hlen:a0.length+b0.length<65536)(c1:jM H a0 b0)(c2:jM H b0 a0):
 ∀(f:Nat) (a b:List It) (q:List (Int×Pc)),yd H nm a0 b0 a b q->lC a0 b0 q<=f->∃a' b',nQ H nm f a b q=((a',b'),true)/\yd H nm a0 b0 a' b' []
 |f,a,b,[],h,_=>⟨a,b,by unfold nQ;rfl,h⟩
 |0,a,b,w::q,h,hf=>by
  exfalso
  rcases h.good w Waq with ⟨e,h1⟩|⟨e,h1⟩
  ·obtain⟨t,m⟩:=w;obtain rfl:t=0:=e
   obtain⟨a',l,_,_,h3⟩:=yd.round ha0 hb0 hlen c1 c2 h;omega
  ·have hw:∀v∈w::q,v.1=0\/v.1=1:=fun v hv=>(h.good v hv).imp And.left And.left
   obtain⟨t,m⟩:=w;obtain rfl:t=1:=e
   have hsw:yd H nm b0 a0 b a ((0,m)::q.map fun w=>(1-w.1,w.2)):=h.swap
   obtain⟨a',l,_,_,h3⟩:=yd.round hb0 ha0 (by omega) c2 c1 hsw
   have:lC b0 a0 ((0,m)::q.map fun w=>(1-w.1,w.2))=_:=ye a0 b0 hw
   omega
 |f+1,a,b,w::q,h,hf=>by
  rcases h.good w Waq with ⟨e,h1⟩|⟨e,h1⟩
  ·obtain⟨t,m⟩:=w;obtain rfl:t=0:=e
   obtain⟨a',l,e,h2,h3⟩:=yd.round ha0 hb0 hlen c1 c2 h;obtain⟨a'',b'',e',h4⟩:=Gm ha0 hb0 hlen c1 c2 f a' b _ h2 (by omega)
   refine⟨a'',b'',?_,h4⟩
   rw[nQ,if_pos rfl];simp only[e];rw[if_neg (by decide)]
   exact e'
  ·have hw:∀v∈w::q,v.1=0\/v.1=1:=fun v hv=>(h.good v hv).imp And.left And.left
   obtain⟨t,m⟩:=w;obtain rfl:t=1:=e
   have hsw:yd H nm b0 a0 b a ((0,m)::q.map fun w=>(1-w.1,w.2)):=h.swap
   obtain⟨b',l,e,h2,h3⟩:=yd.round hb0 ha0 (by omega) c2 c1 hsw
   have e5:lC b0 a0 ((0,m)::q.map fun w=>(1-w.1,w.2))=_:=ye a0 b0 hw
   have h6:=h2.swap;have e6:((q.map fun w:Int×Pc=>((1-w.1,w.2):Int×Pc))++l.map fun m=>((1,m):Int×Pc)).map (fun w=>((1-w.1,w.2):Int×Pc))=q++l.map fun m=>(0,m):=by
    rw[WaQ,WbR,WbR];congr 1
    ·conv=>rhs;rw[<-List.map_id q]
     refine WbJ fun v hv=>?_
     obtain⟨t,m⟩:=v;show (1-(1-t),m)=(t,m)
     congr 1
     omega
   rw[e6]at h6;have hw6:∀v∈((q.map fun w:Int×Pc=>((1-w.1,w.2):Int×Pc))++l.map fun m=>((1,m):Int×Pc)),v.1=0\/v.1=1:=fun v hv=>(h2.good v hv).imp And.left And.left
   have e7:=ye b0 a0 hw6;rw[e6]at e7;obtain⟨a'',b'',e',h4⟩:=Gm ha0 hb0 hlen c1 c2 f a b' _ h6 (by omega)
   refine⟨a'',b'',?_,h4⟩
   rw[nQ,if_neg (show ¬(1:Int)=0 by decide)]
   simp only[e];rw[if_neg (by decide)]
   exact e'
theorem Gn{a0 b0:List It}(ha0:oh nm a0)(hb0:oh nm b0)(hla:a0.length<=28)(hlb:b0.length<=28)(c1:jM H a0 b0)(c2:jM H b0 a0)(ht:∀i∈a0,∀j∈b0,i.1=j.1->i=j):
 ∃c,kR H nm a0 b0=((c,c),true):=by
 have h0:yd H nm a0 b0 a0 b0 [(1,aP H a0 root)]:=by
  refine⟨ha0,hb0,fun it hi=>Wbm _ hi,fun it hi=>Wbq _ hi,fun w hw=>?_,WbE _ _,fun x hx h=>?_⟩
  ·rw[List.mem_singleton.1 hw];exact .inr ⟨rfl,.inl ⟨root,rfl,pG,qa4,rfl,rfl⟩⟩
  ·exact absurd (cP.2 (Ry hx)) (h _ (List.mem_singleton.2 rfl))
 have hm:lC a0 b0 [(1,aP H a0 root)]<=5001:=by
  have e:lC a0 b0 [(1,aP H a0 root)]=uV b0 a0 (aP H a0 root)+0:=rfl;rw[e,pJ];have k1:=LM a0 root;have k2:=LM b0 root;have e0:128-root.2.1.toNat=128:=rfl;rw[e0];have k3:min (cnt b0 root) (cnt a0 root) / 9<=3:=by omega
  split<;>omega
 obtain⟨a,b,e,h⟩:=Gm ha0 hb0 (by omega) c1 c2 5001 a0 b0 _ h0 hm
 have hab:a=b:=by
  refine Wl h.JG.1 h.Nf.1 ?_
  have key:∀{a b:List It},oh nm a->oh nm b->(∀it∈a,it∈a0++b0)->(∀it∈b,it∈a0++b0)->(∀x,aV x->cJ a x=cJ b x)->∀it,it∈a->it∈b:=by
   intro a b ha hb sa sb hr it hi;have h1:cJ b it.1=true:=by rw[<-hr it.1 (ha.2 it hi).1];exact zZ hi
   obtain⟨j,hj,e⟩:=je.1 h1;have h2:=List.mem_append.1 (sa it hi);have h3:=List.mem_append.1 (sb j hj);have:j=it:=by
    rcases h2 with h2|h2<;>rcases h3 with h3|h3
    ·exact Gj ha0.1 h3 h2 e
    ·exact (ht it h2 j h3 e.symm).symm
    ·exact ht j h3 it h2 e
    ·exact Gj hb0.1 h3 h2 e
   rw[<-this];exact hj
  have hr:∀x,aV x->cJ a x=cJ b x:=fun x hx=>h.rest x hx fun w hw=>absurd hw Wbg
  exact fun x=>⟨key h.JG h.Nf h.RD h.RE hr x,key h.Nf h.JG h.RE h.RD (fun x hx=>(hr x hx).symm) x⟩
 exact⟨a,by unfold kR;rw[e,<-hab]⟩
end
end Go.PL
namespace Go.PL
def nR(H:List (List Int)->List Int)(a b:List It):Bool:=a.any fun it=>match cD b it.1 with
 |some t=>decide (t≠it.2.1)
 |none=>(List.range 129).any fun n=>decide (H (aA (ai a (nB it.1 n)))=H (aA (ai b (nB it.1 n))))
theorem m8{s:List It}{x:List Int}:cD s x=none↔cJ s x=false:=by
 unfold cD;rw[Option.map_eq_none_iff,List.find?_eq_none,Gi]
 simp
section
variable {H:List (List Int)->List Int} {nm:List Int->List Int}
theorem Uh{a b:List It}(h:nR H a b=false):jM H a b:=by
 intro it hi hn n hl e;have h1:=List.any_eq_false.1 h it hi;rw[m8.2 hn]at h1;simp only[WcI,not_exists,not_and]at h1;exact h1 n (List.mem_range.2 (by omega)) (decide_eq_true e)
theorem qbe{a b:List It}(hb:b.Pairwise xk)(h:nR H a b=false):∀i∈a,∀j∈b,i.1=j.1->i=j:=by
 intro i hi j hj e;have h1:=List.any_eq_false.1 h i hi;rw[e,yc hb hj]at h1;have h1:¬decide (j.2.1≠i.2.1)=true:=h1;have h2:i.2.1=j.2.1:=by
  rw[decide_eq_true_iff]at h1;exact (Decidable.not_not.1 h1).symm
 obtain⟨x,y,u⟩:=i;obtain⟨x',y',u'⟩:=j;simp only at e h2
 rw[e,h2]
theorem qe8{a b:List It}(ha:oh nm a)(hb:oh nm b)(hla:a.length<=28)(hlb:b.length<=28)(h:¬∃c,kR H nm a b=((c,c),true)):nR H a b=true\/nR H b a=true:=by
 cases e1:nR H a b with
 |true=>exact .inl rfl
 |false=>
  cases e2:nR H b a with
  |true=>exact .inr rfl
  |false=>exact absurd (Gn ha hb hla hlb (Uh e1) (Uh e2) (qbe hb.1 e1)) h
theorem OT{s:List It}{it x:It}(h:x∈s):x∈pH s it:=by
 unfold pH;rw[<-Wax (cA s it.1) s]at h;rcases List.mem_append.1 h with h|h
 ·exact Wbm _ h
 ·exact Wbq _ (Wal _ h)
theorem Gp{s:List It}{m:Pc}{x:It}(h:x∈s):x∈(cg H nm s m).1:=by
 unfold cg;split
 ·exact h
 ·split
  ·exact h
  ·split
   ·exact h
   ·split
    ·exact h
    ·unfold jL;split
     ·exact h
     ·split
      ·exact h
      ·split
       ·exact h
       ·exact OT h
theorem sV:∀(f:Nat) (a b:List It) (q:List (Int×Pc)),(∀x∈a,x∈(nQ H nm f a b q).1.1)/\∀x∈b,x∈(nQ H nm f a b q).1.2
 |0,a,b,[]=>⟨fun x h=>h,fun x h=>h⟩
 |_+1,a,b,[]=>⟨fun x h=>h,fun x h=>h⟩
 |0,a,b,w::q=>⟨fun x h=>h,fun x h=>h⟩
 |f+1,a,b,w::q=>by
  unfold nQ;split
  ·split
   ·exact⟨fun x h=>h,fun x h=>h⟩
   ·have:=sV f (cg H nm a w.2).1 b (q++(cg H nm a w.2).2.1.map fun m=>(1,m))
    exact⟨fun x h=>this.1 x (Gp h),this.2⟩
  ·split
   ·exact⟨fun x h=>h,fun x h=>h⟩
   ·have:=sV f a (cg H nm b w.2).1 (q++(cg H nm b w.2).2.1.map fun m=>(0,m))
    exact⟨this.1,fun x h=>this.2 x (Gp h)⟩
end
end Go.PL
namespace Go.Proofs
open Go.Lib
theorem KYtobfmplofoofkaaGreatDoor.qjb{P:Program}(w:World)(x y:List Int)(a b:Addr)(ca cb:Nat)(hx:∀j v,x[j]?=some v->w.cell? (a.add j)=some (.int .u8 v))(hy:∀j v,y[j]?=some v->w.cell? (b.add j)=some (.int .u8 v)):
 (Extern.BytealgCompare.compare #[.slice (some a) x.length ca,.slice (some b) y.length cb]).run P w= .ok (.int .i64 (compareBytes (bytesOf x) (bytesOf y))) w:=by
 change Sem.run P (do pure (goInt (Extern.BytealgCompare.cmp (<-Extern.Bytes.bytesOf (.slice (some a) x.length ca)) (<-Extern.Bytes.bytesOf (.slice (some b) y.length cb))))) w=_
 have h1:=run_loadBytesX (P:=P) w x a .empty hx;have h2:=run_loadBytesX (P:=P) w y b .empty hy;simp only[Extern.Bytes.bytesOf,Sem.run_bind,Sem.run_pure,Result.andThen,h1,h2];rw[cmp_eq];simp[goInt]
set_option maxRecDepth 100000 in
theorem KYtobfmplofoofkaaGreatDoor.bytes(x y:List Int)(a b:Addr)(ca cb:Nat)(w:World)(hx:∀j v,x[j]?=some v->w.cell? (a.add j)=some (.int .u8 v))(hy:∀j v,y[j]?=some v->w.cell? (b.add j)=some (.int .u8 v)):
 Calls Tryz.prog 138 #[.slice (some a) x.length ca,.slice (some b) y.length cb] w fun e w'=>e= .returned (.int .i64 (compareBytes (bytesOf x) (bytesOf y)))/\w'=w:=by
 go_enter Tryz.func138,Tryz.ntmps138
 go_wp2
 rw[run_callFunc_extern Tryz.func151 (by kernel_rfl) (by kernel_rfl) (by kernel_rfl) (e:=Extern.BytealgCompare.compare) (by kernel_rfl),KYtobfmplofoofkaaGreatDoor.qjb w x y a b ca cb hx hy]
 simp only[Result.andThen];rw[Oper.upon_value];go_wp2
 go_ret
 exact⟨rfl,rfl⟩
end Go.Proofs
namespace Go.PL
def nC(a b:List Int):Int:=if fX a b then-1 else if a=b then 0 else 1
end Go.PL
namespace Go.Proofs.YtobfmplofoofkaaGreatDoor
open Go.AM Go.PL Go.Lib Go.RowKit
theorem qe9(a b:UInt8)(x y:List UInt8):compareBytes (a::x) (b::y)=if a.toNat<b.toNat then-1 else if b.toNat<a.toNat then 1 else compareBytes x y:=by
 show (if a<b then _ else if b<a then _ else _)=_
 simp only[UInt8.lt_iff_toNat_lt]
theorem Ab(a:Int)(l:List Int):bytesOf (a::l)=(UInt8.ofNat a.toNat)::bytesOf l:=rfl
theorem Ui:∀(a b:List Int),(∀c∈a,0<=c/\c<=255)->(∀c∈b,0<=c/\c<=255)->compareBytes (bytesOf a) (bytesOf b)=nC a b
 |[],[],_,_=>rfl
 |[],_::_,_,_=>rfl
 |_::_,[],_,_=>rfl
 |x::a,y::b,ha,hb=>by
  have h1:=ha x Waq;have h2:=hb y Waq;rw[Ab,Ab,qe9,Ui a b (fun c hc=>ha c (Wal _ hc)) (fun c hc=>hb c (Wal _ hc))]
  have e1:(UInt8.ofNat x.toNat).toNat=x.toNat:=by rw[WbZ];omega
  have e2:(UInt8.ofNat y.toNat).toNat=y.toNat:=by rw[WbZ];omega
  rw[e1,e2];unfold nC;simp only[fX,WaL,Wac,decide_eq_true_eq,List.cons.injEq];by_cases hl:x<y
  ·rw[if_pos (by omega),if_pos (.inl hl)]
  ·by_cases hg:y<x
   ·rw[if_neg (by omega),if_pos (by omega),if_neg (by omega),if_neg (by omega)]
   ·have e:x=y:=by omega
    rw[if_neg (by omega),if_neg (by omega)]
    simp[e]
theorem RF(Ψ:Pr):∀(xs:List Int) (vs:List Value),gu (reads Ψ U8) xs vs↔vs=xs.map (Value.int .u8)/\∀v∈xs,IntKind.u8.has v
 |[],vs=>by simp[gu]
 |x::xs,vs=>by
  simp only[gu,Wat,Wbi,forall_eq_or_imp];constructor
  ·rintro⟨c,vs',rfl,⟨rfl,hx⟩,h2⟩
   obtain⟨rfl,hxs⟩:=(RF Ψ xs vs').1 h2;exact⟨rfl,hx,hxs⟩
  ·rintro⟨rfl,hx,hxs⟩
   exact⟨_,_,rfl,⟨rfl,hx⟩,(RF Ψ xs _).2 ⟨rfl,hxs⟩⟩
def qbf:aJ:=⟨[BY,BY],[I],fun x=>1<=(x.1:List Int).length/\1<=(x.2:List Int).length,fun x=>nC x.1 x.2⟩
theorem OU{Ψ:Pr}{β:List Value}{x:List Int}{v:Value}{w:World}(dO:∀a v,Ψ a=some v->a.spot=none/\w.cell? a=some v)(h:aE Ψ β (.d BY x) v)(h1:1<=x.length):
 ∃a c,v= .slice (some a) x.length c/\(∀c∈x,0<=c/\c<=255)/\∀j u,x[j]?=some u->w.cell? (a.add j)=some (.int .u8 u):=by
 obtain⟨cs,⟨a,cap,rfl,hc,hm,hr⟩,hv⟩:=h;have hv:v= .slice a x.length cap:=by
  have hv:[Value.slice a x.length cap]=[v]:=hv;simpa using hv.symm
 subst hv;rcases hr with rfl|⟨cells,hr,hrow⟩
 ·simp at h1
 ·obtain⟨rfl,hx⟩:=(RF Ψ x cells).1 hr;obtain⟨g,off,rfl,hp⟩:=hrow;refine⟨_,cap,rfl,fun c hc=>?_,fun j u hj=>?_⟩
  ·have h:(0:Int)<=c/\c<=255:=hx c hc;exact h
  ·rw[Addr.add_lit];exact (dO _ _ (hp j _ (by rw[Wba,hj];rfl))).2
theorem qbg:Sat bs.P 138 qbf:=by
 rintro Ψ w ⟨x,y⟩ args dO xK bu ⟨hx,hy⟩
 obtain⟨v,vs',rfl,hv,v2,vs2,rfl,hv2,hl⟩:=bu;simp only[aL]at hl;subst hl;obtain⟨a,ca,rfl,ba,ra⟩:=OU dO hv hx;obtain⟨b,cb,rfl,bb,rb⟩:=OU dO hv2 hy;refine (KYtobfmplofoofkaaGreatDoor.bytes x y a b ca cb w ra rb).mono ?_
 rintro e w' ⟨rfl,rfl⟩
 refine⟨_,Ψ,rfl,Below.refl _ _,fun _ _ h=>h,fun _ _ h=>.inl h,?_⟩
 rw[Ui x y ba bb];refine⟨_,⟨rfl,?_⟩,rfl⟩
 show IntKind.i64.has (nC x y)
 unfold nC;split
 ·exact⟨by decide,by decide⟩
 ·split
  ·exact⟨by decide,by decide⟩
  ·exact⟨by decide,by decide⟩
end Go.Proofs.YtobfmplofoofkaaGreatDoor
namespace Go.PL
open Go.AM
def kW(n:Int):Int:=IntKind.u32.wrap n
def yf(a b:Int):Int:=aK .or .u32 a b
def lU(a b:Int):Int:=aK .xor .u32 a b
def tM(a b:Int):Int:=aK .and .u32 a b
def lK(x:Int)(i:Nat):Int:=yf (kW (x*2 ^ (32-i))) (x / 2 ^ i)
def BO(x:Int)(i j k:Nat):Int:=lU (lU (lK x i) (lK x j)) (lK x k)
def rC(l:List Int):Int:=l.foldl (fun z c=>yf (kW (z*256)) (kW c)) 0
def qbh(w:List Int)(t:Nat):Int:=
 kW (kW (kW (w.getD (t-16) 0+lU (lU (lK (w.getD (t-15) 0) 7) (lK (w.getD (t-15) 0) 18)) (w.getD (t-15) 0 / 2 ^ 3))+w.getD (t-7) 0)
  +lU (lU (lK (w.getD (t-2) 0) 17) (lK (w.getD (t-2) 0) 19)) (w.getD (t-2) 0 / 2 ^ 10))
def sched(b:List Int):Nat->List Int
 |0=>List.replicate 64 0
 |t+1=>(sched b t).set t (if t<16 then rC ((b.drop (4*t)).take 4) else qbh (sched b t) t)
theorem vS(b:List Int):∀t,(sched b t).length=64
 |0=>by simp[sched]
 |t+1=>by simp[sched,vS b t]
theorem Gq(b:List Int):∀(t j:Nat),t<=j->(sched b t).getD j 0=0
 |0,j,_=>by
  simp only[sched,Wab,Wbb];split<;>rfl
 |t+1,j,h=>by
  have:=Gq b t j (by omega)
  simp only[sched,Wab]at*
  rw[War (by omega)]
  exact this
theorem RG(l:List Int)(n:Nat)(h:n<l.length):rC (l.take (n+1))=yf (kW (rC (l.take n)*256)) (kW (l.getD n 0)):=by
 have e:l.take (n+1)=l.take n++[l.getD n 0]:=by
  rw[Wbc,Waa h,Wab,Waa h];rfl
 unfold rC;rw[e,WcF];rfl
theorem qmL:∀n∈List.range 31,aK .and .u64 (IntKind.u64.wrap (-((n:Int)+1))) 31=31-(n:Int):=by decide+kernel
theorem qmM:∀n∈List.range 31,IntKind.u64.wrap (32-(31-(n:Int)))=(n:Int)+1:=by decide+kernel
theorem qfa{s:Int}(h0:-31<=s)(h1:s<= -1):aK .and .u64 (IntKind.u64.wrap s) 31=32+s:=by
 have:=qmL (-s-1).toNat (List.mem_range.2 (by omega))
 rw[show-(((-s-1).toNat:Int)+1)=s by omega]at this
 rw[this];omega
theorem qfb{s:Int}(h0:-31<=s)(h1:s<= -1):IntKind.u64.wrap (32-(32+s))= -s:=by
 have:=qmM (-s-1).toNat (List.mem_range.2 (by omega))
 rw[show 32-(31-((-s-1).toNat:Int))=32-(32+s) by omega]at this
 rw[this];omega
end Go.PL
namespace Go.Proofs.YtobfmplofoofkaaGreatDoor
open Go.AM Go.PL
def hD(f:FuncId):Hint:=⟨fun _=>[],fun _=>.split,fun _=>.split,fun _=>0⟩
def JH:aJ:=⟨[U32,I],[U32],fun x=>-31<=(x.2:Int)/\(x.2:Int)<= -1,fun x=>lK x.1 (-(x.2:Int)).toNat⟩
def OV:aJ:=⟨[U32,I,I,I],[U32],fun x=>(1<=(x.2.1:Int)/\(x.2.1:Int)<=31)/\(1<=(x.2.2.1:Int)/\(x.2.2.1:Int)<=31)/\(1<=(x.2.2.2:Int)/\(x.2.2.2:Int)<=31),fun x=>BO x.1 (x.2.1:Int).toNat (x.2.2.1:Int).toNat (x.2.2.2:Int).toNat⟩
noncomputable def A0:Ctx:=bA bs [] [] hD
def tA1:List (FuncId×aJ):=[(159,JH)]
noncomputable def A1:Ctx:=bA bs tA1 [] hD
theorem qjc(x s:Int):aW A0 6 159 JH (x,s)=(((0:Int)<=aK BinOp.and IntKind.u64 (IntKind.u64.wrap s) (31:Int)/\aK BinOp.and IntKind.u64
 (IntKind.u64.wrap s) (31:Int)<=(32:Int))/\((0:Int)<=IntKind.u64.wrap ((32:Int)-aK BinOp.and IntKind.u64 (IntKind.u64.wrap s) (31:Int))/\IntKind.u64.wrap ((32
 :Int)-aK BinOp.and IntKind.u64 (IntKind.u64.wrap s) (31:Int))<=(32:Int))/\aK BinOp.or IntKind.u32 (IntKind.u32.wrap (x*(2:Int) ^ (aK BinOp.and
 IntKind.u64 (IntKind.u64.wrap s) (31:Int)).toNat)) (x / (2:Int) ^ (IntKind.u64.wrap ((32:Int)-aK BinOp.and IntKind.u64 (IntKind.u64.wrap s) (31:Int))).toNat)=lK
 x (-s).toNat):=by kernel_rfl
theorem qjd(x i j k:Int):aW A1 6 154 OV (x,i,j,k)=(aa ((0:Int)-i)/\((-31:Int)<=(0:Int)-i/\(0:Int)-i<=(-1:Int))/\aa ((0:Int)-j)/\
 ((-31:Int)<=(0:Int)-j/\(0:Int)-j<=(-1:Int))/\aa ((0:Int)-k)/\((-31:Int)<=(0:Int)-k/\(0:Int)-k<=(-1:Int))/\aK BinOp.xor IntKind.u32
 (aK BinOp.xor IntKind.u32 (lK x (-((0:Int)-i)).toNat) (lK x (-((0:Int)-j)).toNat)) (lK x (-((0:Int)-k)).toNat)=BO x i.toNat j.toNat k.toNat):=by
 kernel_rfl
attribute [local irreducible] aW cz
theorem qbi:au A0:=az trivial trivial
theorem LN:Sat bs.P 159 JH:=bx qbi 6 _ JH fun x _ hp=>by
 obtain⟨x,s,rfl⟩:∃x0 s0:Int,x=(x0,s0):=⟨x.1,x.2,rfl⟩
 obtain⟨h0,h1⟩:-31<=s/\s<= -1:=hp
 rw[qjc,qfa h0 h1,qfb h0 h1];refine⟨⟨by omega,by omega⟩,⟨by omega,by omega⟩,?_⟩
 show _=yf (kW (x*2 ^ (32-(-s).toNat))) (x / 2 ^ (-s).toNat)
 have e:(32+s).toNat=32-(-s).toNat:=by omega
 rw[e];rfl
theorem qbj:au A1:=az ⟨LN,trivial⟩ trivial
theorem Uj:Sat bs.P 154 OV:=bx qbj 6 _ OV fun x _ hp=>by
 obtain⟨x,i,j,k,rfl⟩:∃x0 i0 j0 k0:Int,x=(x0,i0,j0,k0):=⟨x.1,x.2.1,x.2.2.1,x.2.2.2,rfl⟩
 obtain⟨⟨h1,h2⟩,⟨h3,h4⟩,h5,h6⟩:(1<=i/\i<=31)/\(1<=j/\j<=31)/\(1<=k/\k<=31):=hp
 rw[qjd];refine⟨by unfold aa;omega,⟨by omega,by omega⟩,by unfold aa;omega,⟨by omega,by omega⟩,by unfold aa;omega,⟨by omega,by omega⟩,?_⟩
 rw[show (-(0-i))=i by omega,show (-(0-j))=j by omega,show (-(0-k))=k by omega]
 rfl
end Go.Proofs.YtobfmplofoofkaaGreatDoor
namespace Go.Proofs.YtobfmplofoofkaaGreatDoor
open Go.AM Go.PL
def qje(f:FuncId)(r:Nat):List LA:=
 if Nat.beq f 153 then bif Nat.beq r 3 then [.slot 11 I,.aT 0 Wi,.aT 1 Wi] else [.slot 24 I,.aT 0 Wi,.aT 1 Wi] else
 if Nat.beq f 144 then [] else
 []
def RH(t:TypeId):Nat:=bif Nat.beq t 229||Nat.beq t 197||Nat.beq t 231||Nat.beq t 203||Nat.beq t 198||Nat.beq t 200||Nat.beq t 70 then 1 else 0
def qmN(f:FuncId):Hint:=if Nat.beq f 999999995 then⟨fun _=>[],fun _=>.split,fun _=>.split,RH⟩ else⟨qje f,fun _=>.split,fun _=>.split,fun _=>0⟩
def tA2:List (FuncId×aJ):=[(159,JH),(154,OV)]
noncomputable def A2:Ctx:=bA bs tA2 [] qmN
def Uk:aJ:=⟨[BY],[Wi],fun b=>(b:List Int).length=64,fun b=>sched b 64⟩
abbrev Ul(x:Int×List Int×List Int)(b:List Int):=List.take ((z4*x.1+z4).toNat-(z4*x.1).toNat) (List.drop (z4*x.1).toNat b)
theorem qjf(b:List Int):aW A2 6 153 Uk b=(LP (z0,have y:=have y:=have y:=have y:=[z0,z0,z0,z0];z0::z0::z0::z0::y;have y:=z0::z0::z0::z0::y;z0
 ::z0::z0::z0::y;have y:=have y:=z0::z0::z0::z0::y;z0::z0::z0::z0::y;have y:=z0::z0::z0::z0::y;z0::z0::z0::z0::y;have y:=have y:=have y
 :=z0::z0::z0::z0::y;z0::z0::z0::z0::y;have y:=z0::z0::z0::z0::y;z0::z0::z0::z0::y;have y:=have y:=z0::z0::z0::z0::y;z0::z0::z0::z0
 ::y;have y:=z0::z0::z0::z0::y;z0::z0::z0::z0::y,have y:=have y:=have y:=have y:=[z0,z0,z0,z0];z0::z0::z0::z0::y;have y:=z0::z0::z0::z0::
 y;z0::z0::z0::z0::y;have y:=have y:=z0::z0::z0::z0::y;z0::z0::z0::z0::y;have y:=z0::z0::z0::z0::y;z0::z0::z0::z0::y;have y:=have y:=
 have y:=z0::z0::z0::z0::y;z0::z0::z0::z0::y;have y:=z0::z0::z0::z0::y;z0::z0::z0::z0::y;have y:=have y:=z0::z0::z0::z0::y;z0::z0::z0
 ::z0::y;have y:=z0::z0::z0::z0::y;z0::z0::z0::z0::y) fun I μ x=>SD (x.1<j9) (SD (x.1<uR) (aa (z4*x.1)/\aa (z4*x.1)/\aa (z4*x.1+z4)/\(z0<=
 z4*x.1/\z4*x.1<=z4*x.1+z4/\z4*x.1+z4<=(ln b))/\LP (z0,x.2) fun wK iS x_1=>SD (x_1.1<(ln (Ul x b))) ((IR x_1.1 (Ul x b))/\(z0<=x.1/\x.1<j9)/\(z0<=z8/\
 z8<=nj)/\(z0<=x.1/\x.1<j9)/\aa (x_1.1+z1)/\NX wK iS x_1 (x_1.1+z1,x_1.2.1,x_1.2.2.set x.1.toNat (aK BinOp.or IntKind.u32 (IntKind.u32.wrap (x_1.2.2.getD x.1.toNat
 z0*(256:Int))) (IntKind.u32.wrap ((Ul x b).getD x_1.1.toNat z0))))) (aa (x.1+z1)/\NX I μ x (x.1+z1,x_1.2))) (aa (x.1-JC)/\(z0<=x.1-JC/\x.1-JC<j9)/\aa
 (x.1-z2)/\(z0<=x.1-z2/\x.1-z2<j9)/\((-31:Int)<=(-7:Int)/\(-7:Int)<=(-1:Int))/\((-31:Int)<=(-18:Int)/\(-18:Int)<=(-1:Int))/\(z0<=z3/\z3<=nj)/\((-31
 :Int)<=(-17:Int)/\(-17:Int)<=(-1:Int))/\((-31:Int)<=(-19:Int)/\(-19:Int)<=(-1:Int))/\(z0<=z10/\z10<=nj)/\aa (x.1-uR)/\(z0<=x.1-uR/\x.1-uR<j9)/\
 aa (x.1-z7)/\(z0<=x.1-z7/\x.1-z7<j9)/\(z0<=x.1/\x.1<j9)/\aa (x.1+z1)/\NX I μ x (x.1+z1,x.2.1,x.2.2.set x.1.toNat (IntKind.u32.wrap (IntKind.u32.wrap
 (IntKind.u32.wrap (x.2.2.getD (x.1-uR).toNat z0+aK BinOp.xor IntKind.u32 (aK BinOp.xor IntKind.u32 (lK (x.2.2.getD (x.1-JC).toNat z0) (-(-7:Int)).toNat) (lK
 (x.2.2.getD (x.1-JC).toNat z0) (-(-18:Int)).toNat)) (x.2.2.getD (x.1-JC).toNat z0 / z2 ^ y3))+x.2.2.getD (x.1-z7).toNat z0)+aK BinOp.xor IntKind.u32 (aK BinOp.xor
 IntKind.u32 (lK (x.2.2.getD (x.1-z2).toNat z0) (-(-17:Int)).toNat) (lK (x.2.2.getD (x.1-z2).toNat z0) (-(-19:Int)).toNat)) (x.2.2.getD (x.1-z2).toNat z0 / z2 ^ ya))))))
 (x.2.2=sched b y64)):=by kernel_rfl
attribute [local irreducible] aW cz
theorem qbk:au A2:=az ⟨LN,Uj,trivial⟩ trivial
theorem qfc:Sat bs.P 153 Uk:=bx qbk 6 _ Uk fun x _ hp=>by
 obtain⟨b,rfl⟩:∃b:List Int,b=x:=⟨x,rfl⟩
 have hp:b.length=64:=hp;rw[qjf];delta Ul IR LP NX SD ln ya y3 y64 z0 z1 z10 JC uR z2 z3 nj z4 j9 z7 z8;dsimp only
 refine⟨fun v=>∃t:Nat,t<=64/\v.1=(t:Int)/\v.2.2=sched b t,fun v=>(64-v.1).toNat,⟨0,by omega,rfl,rfl⟩,?_⟩
 rintro⟨i,z,w⟩ ⟨t,ht,hi,hw⟩
 simp only at hi hw ⊢
 subst hi hw;have hT:((t:Int)).toNat=t:=by omega
 refine⟨fun h=>?_,fun h=>?_⟩
 ·have h:(t:Int)<64:=of_decide_eq_true h;refine⟨fun h16=>?_,fun h16=>?_⟩
  ·have h16:(t:Int)<16:=of_decide_eq_true h16;have e1:((4:Int)*(t:Int)).toNat=4*t:=by omega
   have e2:((4:Int)*(t:Int)+4).toNat-(4*t)=4:=by omega
   simp only[e1,e2,hT];have hl:((b.drop (4*t)).take 4).length=4:=by simp;omega
   refine⟨by unfold aa;omega,by unfold aa;omega,by unfold aa;omega,⟨by omega,by omega,by omega⟩,?_⟩
   refine⟨fun v=>∃n:Nat,n<=4/\v.1=(n:Int)/\v.2.2=(sched b t).set t (rC (((b.drop (4*t)).take 4).take n)),fun v=>(4-v.1).toNat,⟨0,by omega,rfl,?_⟩,?_⟩
   ·show sched b t=(sched b t).set t (rC [])
    have:=Gq b t t (Wan _)
    rw[Wab,Waa (by rw[vS];omega)]at this
    have h0:(sched b t)[t]'(by rw[vS];omega)=rC []:=this
    rw[<-h0,List.set_getElem_self]
   ·rintro⟨j,z',w'⟩ ⟨n,hn,hj,hw'⟩
    simp only at hj hw' ⊢
    subst hj hw';rw[hl];have hN:((n:Int)).toNat=n:=by omega
    refine⟨fun h4=>?_,fun h4=>?_⟩
    ·have h4:(n:Int)<4:=of_decide_eq_true h4;have hg:((sched b t).set t (rC (((b.drop (4*t)).take 4).take n))).getD t 0=rC (((b.drop (4*t)).take 4).take n):=by
      rw[Wab,WaC (by rw[vS];omega)]
      rfl
     rw[hg,hN];refine⟨⟨by omega,by omega⟩,⟨by omega,by omega⟩,⟨by omega,by omega⟩,⟨by omega,by omega⟩,by unfold aa;omega,⟨n+1,by omega,by omega,?_⟩,by omega⟩
     rw[RG _ n (by rw[hl];omega),List.set_set]
     rfl
    ·have h4:¬(n:Int)<4:=of_decide_eq_false h4;have:n=4:=by omega
     subst this;refine⟨by unfold aa;omega,⟨t+1,by omega,by omega,?_⟩,by omega⟩
     rw[sched,if_pos (by omega),Wap (by rw[hl];omega)]
  ·have h16:¬(t:Int)<16:=of_decide_eq_false h16;have e1:((t:Int)-16).toNat=t-16:=by omega
   have e2:((t:Int)-15).toNat=t-15:=by omega
   have e3:((t:Int)-7).toNat=t-7:=by omega
   have e4:((t:Int)-2).toNat=t-2:=by omega
   simp only[e1,e2,e3,e4,hT];refine⟨by unfold aa;omega,⟨by omega,by omega⟩,by unfold aa;omega,⟨by omega,by omega⟩,⟨by omega,by omega⟩,⟨by omega,by omega⟩,⟨by omega,by omega⟩,⟨by omega,by omega⟩,⟨by omega,by omega⟩,⟨by omega,by omega⟩,by unfold aa;omega,⟨by omega,by omega⟩,
    by unfold aa;omega,⟨by omega,by omega⟩,⟨by omega,by omega⟩,by unfold aa;omega,⟨t+1,by omega,by omega,?_⟩,by omega⟩
   rw[sched,if_neg (by omega)]
   rfl
 ·have h:¬(t:Int)<64:=of_decide_eq_false h;have:t=64:=by omega
  subst this;rfl
end Go.Proofs.YtobfmplofoofkaaGreatDoor
namespace Go.PL
open Go.AM
def rx(w e:List Int)(t:Nat):Int:=
 kW (kW (kW (kW (e.getD 3 0+BO (e.getD 0 0) 6 11 25)+lU (tM (e.getD 0 0) (e.getD 1 0)) (tM (lU 4294967295 (e.getD 0 0)) (e.getD 2 0)))+gA.getD t 0)+w.getD t 0)
def ry(v:List Int):Int:=
 kW (BO (v.getD 0 0) 2 13 22+lU (lU (tM (v.getD 0 0) (v.getD 1 0)) (tM (v.getD 0 0) (v.getD 2 0))) (tM (v.getD 1 0) (v.getD 2 0)))
def rounds(s w:List Int):Nat->List Int×List Int
 |0=>((s.drop 0).take 4,(s.drop 4).take 4)
 |t+1=>([kW (rx w (rounds s w t).2 t+ry (rounds s w t).1),(rounds s w t).1.getD 0 0,(rounds s w t).1.getD 1 0,(rounds s w t).1.getD 2 0],
  [kW ((rounds s w t).1.getD 3 0+rx w (rounds s w t).2 t),(rounds s w t).2.getD 0 0,(rounds s w t).2.getD 1 0,(rounds s w t).2.getD 2 0])
def sW(s v e:List Int):Nat->List Int
 |0=>s
 |n+1=>((sW s v e n).set n (kW ((sW s v e n).getD n 0+v.getD n 0))).set (n+4) (kW (((sW s v e n).set n (kW ((sW s v e n).getD n 0+v.getD n 0))).getD (n+4) 0+e.getD n 0))
theorem qt(s w:List Int):rounds s w 0=((s.drop 0).take 4,(s.drop 4).take 4):=rfl
theorem rounds_succ(s w:List Int)(t:Nat):rounds s w (t+1)=([kW (rx w (rounds s w t).2 t+ry (rounds s w t).1),(rounds s w t).1.getD 0 0,(rounds s w t).1.getD 1 0,(rounds s w t).1.getD 2 0],
 [kW ((rounds s w t).1.getD 3 0+rx w (rounds s w t).2 t),(rounds s w t).2.getD 0 0,(rounds s w t).2.getD 1 0,(rounds s w t).2.getD 2 0]):=rfl
theorem Ww(s v e:List Int):sW s v e 0=s:=rfl
theorem JI(s v e:List Int)(n:Nat):sW s v e (n+1)=((sW s v e n).set n (kW ((sW s v e n).getD n 0+v.getD n 0))).set (n+4) (kW (((sW s v e n).set n (kW ((sW s v e n).getD n 0+v.getD n 0))).getD (n+4) 0+e.getD n 0)):=rfl
def comp(s b:List Int):List Int:=sW s (rounds s (sched b 64) 64).1 (rounds s (sched b 64) 64).2 4
end Go.PL
namespace Go.Proofs.YtobfmplofoofkaaGreatDoor
open Go.AM Go.PL
def qjg(f:FuncId)(r:Nat):List LA:=
 if Nat.beq f 144 then bif Nat.beq r 4 then [.slot 22 I,.aT 0 W8,.aT 1 W8,.aT 2 Wi,.aT 9 W4,.aT 10 W4] else [.slot 94 I,.aT 0 W8,.aT 1 W8,.aT 9 W4,.aT 10 W4] else
 []
def qmO(f:FuncId):Hint:=if Nat.beq f 999999995 then⟨fun _=>[],fun _=>.split,fun _=>.split,RH⟩ else⟨qjg f,fun _=>.split,fun _=>.split,fun _=>0⟩
def tA3:List (FuncId×aJ):=[(159,JH),(154,OV),(153,Uk)]
noncomputable def A3:Ctx:=bA bs tA3 [] qmO
def Um:aJ:=⟨[W8,BY],[W8],fun x=>(x.2:List Int).length=64,fun x=>comp x.1 x.2⟩
theorem qjh(s b:List Int):aW A3 6 144 Um (s,b)=(b.length=(64:Nat)/\((0:Int)<=(0:Int)/\(0:Int)<=(4:Int)/\(4:Int)<=(8:Int)/\(0:Int)<(8:
 Int))/\(4:Int)<=(4:Int)/\((0:Int)<=(4:Int)/\(4:Int)<=(8:Int)/\(8:Int)<=(8:Int)/\(4:Int)<(8:Int))/\(8:Int)<=(8:Int)/\∃(I:Int×List Int×
 List Int×List Int×List Int×List Int->Prop),∃(μ:Int×List Int×List Int×List Int×List Int×List Int->Nat),I ((0:Int),s,[(0:Int),(0:Int),(0:Int),(0
 :Int),(0:Int),(0:Int),(0:Int),(0:Int)],sched b (64:Nat),List.take (4:Nat) (List.drop (0:Nat) s),List.take (4:Nat) (List.drop (4:Nat) s))/\∀(x:Int×
 List Int×List Int×List Int×List Int×List Int),I x->(decide (x.fst<(64:Int))=true->((0:Int)<=x.fst/\x.fst<(64:Int))/\((0:Int)<=(3:Int)/\(3:Int)<
 (4:Int))/\((0:Int)<=(0:Int)/\(0:Int)<(4:Int))/\(((1:Int)<=(6:Int)/\(6:Int)<=(31:Int))/\((1:Int)<=(11:Int)/\(11:Int)<=(31:Int))/\(1:Int)
 <=(25:Int)/\(25:Int)<=(31:Int))/\((0:Int)<=(0:Int)/\(0:Int)<(4:Int))/\((0:Int)<=(1:Int)/\(1:Int)<(4:Int))/\((0:Int)<=(0:Int)/\(0:Int)<
 (4:Int))/\((0:Int)<=(2:Int)/\(2:Int)<(4:Int))/\((0:Int)<=x.fst/\x.fst<(64:Int))/\((0:Int)<=(0:Int)/\(0:Int)<(4:Int))/\(((1:Int)<=(2:
 Int)/\(2:Int)<=(31:Int))/\((1:Int)<=(13:Int)/\(13:Int)<=(31:Int))/\(1:Int)<=(22:Int)/\(22:Int)<=(31:Int))/\((0:Int)<=(0:Int)/\(0:Int)<(4
 :Int))/\((0:Int)<=(1:Int)/\(1:Int)<(4:Int))/\((0:Int)<=(0:Int)/\(0:Int)<(4:Int))/\((0:Int)<=(2:Int)/\(2:Int)<(4:Int))/\((0:Int)<=(1:
 Int)/\(1:Int)<(4:Int))/\((0:Int)<=(2:Int)/\(2:Int)<(4:Int))/\((0:Int)<=(3:Int)/\(3:Int)<(4:Int))/\((0:Int)<=(0:Int)/\(0:Int)<(4:
 Int))/\((0:Int)<=(1:Int)/\(1:Int)<(4:Int))/\((0:Int)<=(2:Int)/\(2:Int)<(4:Int))/\((0:Int)<=(0:Int)/\(0:Int)<(4:Int))/\((0:Int)<=(1:
 Int)/\(1:Int)<(4:Int))/\((0:Int)<=(2:Int)/\(2:Int)<(4:Int))/\aa (x.fst+(1:Int))/\I (x.fst+(1:Int),x.snd.fst,x.snd.snd.fst,x.snd.snd.snd.fst,
 [IntKind.u32.wrap (IntKind.u32.wrap (IntKind.u32.wrap (IntKind.u32.wrap (IntKind.u32.wrap (x.snd.snd.snd.snd.snd.getD (3:Nat) (0:Int)+BO (x.snd.snd.snd.snd.snd.getD (0:
 Nat) (0:Int)) (Int.toNat (6:Int)) (Int.toNat (11:Int)) (Int.toNat (25:Int)))+aK BinOp.xor IntKind.u32 (aK BinOp.and IntKind.u32 (x.snd.snd.snd.snd.snd.getD (0:
 Nat) (0:Int)) (x.snd.snd.snd.snd.snd.getD (1:Nat) (0:Int))) (aK BinOp.and IntKind.u32 (aK BinOp.xor IntKind.u32 (4294967295:Int) (x.snd.snd.snd.snd.snd.getD (0:
 Nat) (0:Int))) (x.snd.snd.snd.snd.snd.getD (2:Nat) (0:Int))))+gA.getD x.fst.toNat (0:Int))+x.snd.snd.snd.fst.getD x.fst.toNat (0:Int))+IntKind.u32.wrap (BO
 (x.snd.snd.snd.snd.fst.getD (0:Nat) (0:Int)) (Int.toNat (2:Int)) (Int.toNat (13:Int)) (Int.toNat (22:Int))+aK BinOp.xor IntKind.u32 (aK BinOp.xor IntKind.u32
 (aK BinOp.and IntKind.u32 (x.snd.snd.snd.snd.fst.getD (0:Nat) (0:Int)) (x.snd.snd.snd.snd.fst.getD (1:Nat) (0:Int))) (aK BinOp.and IntKind.u32
 (x.snd.snd.snd.snd.fst.getD (0:Nat) (0:Int)) (x.snd.snd.snd.snd.fst.getD (2:Nat) (0:Int)))) (aK BinOp.and IntKind.u32 (x.snd.snd.snd.snd.fst.getD (1:Nat) (0:Int))
 (x.snd.snd.snd.snd.fst.getD (2:Nat) (0:Int))))),x.snd.snd.snd.snd.fst.getD (0:Nat) (0:Int),x.snd.snd.snd.snd.fst.getD (1:Nat) (0:Int),x.snd.snd.snd.snd.fst.getD (2
 :Nat) (0:Int)],[IntKind.u32.wrap (x.snd.snd.snd.snd.fst.getD (3:Nat) (0:Int)+IntKind.u32.wrap (IntKind.u32.wrap (IntKind.u32.wrap (IntKind.u32.wrap
 (x.snd.snd.snd.snd.snd.getD (3:Nat) (0:Int)+BO (x.snd.snd.snd.snd.snd.getD (0:Nat) (0:Int)) (Int.toNat (6:Int)) (Int.toNat (11:Int)) (Int.toNat (25:Int)))+
 aK BinOp.xor IntKind.u32 (aK BinOp.and IntKind.u32 (x.snd.snd.snd.snd.snd.getD (0:Nat) (0:Int)) (x.snd.snd.snd.snd.snd.getD (1:Nat) (0:Int))) (aK BinOp.and
 IntKind.u32 (aK BinOp.xor IntKind.u32 (4294967295:Int) (x.snd.snd.snd.snd.snd.getD (0:Nat) (0:Int))) (x.snd.snd.snd.snd.snd.getD (2:Nat) (0:Int))))+gA.getD
 x.fst.toNat (0:Int))+x.snd.snd.snd.fst.getD x.fst.toNat (0:Int))),x.snd.snd.snd.snd.snd.getD (0:Nat) (0:Int),x.snd.snd.snd.snd.snd.getD (1:Nat) (0:Int),
 x.snd.snd.snd.snd.snd.getD (2:Nat) (0:Int)])/\μ (x.fst+(1:Int),x.snd.fst,x.snd.snd.fst,x.snd.snd.snd.fst,[IntKind.u32.wrap (IntKind.u32.wrap (IntKind.u32.wrap
 (IntKind.u32.wrap (IntKind.u32.wrap (x.snd.snd.snd.snd.snd.getD (3:Nat) (0:Int)+BO (x.snd.snd.snd.snd.snd.getD (0:Nat) (0:Int)) (Int.toNat (6:Int)) (Int.toNat (11:
 Int)) (Int.toNat (25:Int)))+aK BinOp.xor IntKind.u32 (aK BinOp.and IntKind.u32 (x.snd.snd.snd.snd.snd.getD (0:Nat) (0:Int)) (x.snd.snd.snd.snd.snd.getD (1:Nat)
 (0:Int))) (aK BinOp.and IntKind.u32 (aK BinOp.xor IntKind.u32 (4294967295:Int) (x.snd.snd.snd.snd.snd.getD (0:Nat) (0:Int))) (x.snd.snd.snd.snd.snd.getD (2:Nat)
 (0:Int))))+gA.getD x.fst.toNat (0:Int))+x.snd.snd.snd.fst.getD x.fst.toNat (0:Int))+IntKind.u32.wrap (BO (x.snd.snd.snd.snd.fst.getD (0:Nat) (0:Int))
 (Int.toNat (2:Int)) (Int.toNat (13:Int)) (Int.toNat (22:Int))+aK BinOp.xor IntKind.u32 (aK BinOp.xor IntKind.u32 (aK BinOp.and IntKind.u32
 (x.snd.snd.snd.snd.fst.getD (0:Nat) (0:Int)) (x.snd.snd.snd.snd.fst.getD (1:Nat) (0:Int))) (aK BinOp.and IntKind.u32 (x.snd.snd.snd.snd.fst.getD (0:Nat) (0:Int))
 (x.snd.snd.snd.snd.fst.getD (2:Nat) (0:Int)))) (aK BinOp.and IntKind.u32 (x.snd.snd.snd.snd.fst.getD (1:Nat) (0:Int)) (x.snd.snd.snd.snd.fst.getD (2:Nat) (0:
 Int))))),x.snd.snd.snd.snd.fst.getD (0:Nat) (0:Int),x.snd.snd.snd.snd.fst.getD (1:Nat) (0:Int),x.snd.snd.snd.snd.fst.getD (2:Nat) (0:Int)],[IntKind.u32.wrap
 (x.snd.snd.snd.snd.fst.getD (3:Nat) (0:Int)+IntKind.u32.wrap (IntKind.u32.wrap (IntKind.u32.wrap (IntKind.u32.wrap (x.snd.snd.snd.snd.snd.getD (3:Nat) (0:Int)+BO
 (x.snd.snd.snd.snd.snd.getD (0:Nat) (0:Int)) (Int.toNat (6:Int)) (Int.toNat (11:Int)) (Int.toNat (25:Int)))+aK BinOp.xor IntKind.u32 (aK BinOp.and IntKind.u32
 (x.snd.snd.snd.snd.snd.getD (0:Nat) (0:Int)) (x.snd.snd.snd.snd.snd.getD (1:Nat) (0:Int))) (aK BinOp.and IntKind.u32 (aK BinOp.xor IntKind.u32 (4294967295:Int)
 (x.snd.snd.snd.snd.snd.getD (0:Nat) (0:Int))) (x.snd.snd.snd.snd.snd.getD (2:Nat) (0:Int))))+gA.getD x.fst.toNat (0:Int))+x.snd.snd.snd.fst.getD x.fst.toNat (0:
 Int))),x.snd.snd.snd.snd.snd.getD (0:Nat) (0:Int),x.snd.snd.snd.snd.snd.getD (1:Nat) (0:Int),x.snd.snd.snd.snd.snd.getD (2:Nat) (0:Int)])<μ x)/\(decide (x.fst<
 (64:Int))=false->∃(I:Int×List Int×List Int×List Int×List Int->Prop),∃(μ:Int×List Int×List Int×List Int×List Int->Nat),I ((0:Int),x.snd.fst,
 x.snd.snd.fst,x.snd.snd.snd.snd.fst,x.snd.snd.snd.snd.snd)/\∀(x:Int×List Int×List Int×List Int×List Int),I x->(decide (x.fst<(4:Int))=true->((0:Int)<=
 x.fst/\x.fst<(8:Int))/\((0:Int)<=x.fst/\x.fst<(4:Int))/\((0:Int)<=x.fst/\x.fst<(8:Int))/\aa (x.fst+(4:Int))/\((0:Int)<=x.fst+(4:Int)/\
 x.fst+(4:Int)<(8:Int))/\((0:Int)<=x.fst/\x.fst<(4:Int))/\((0:Int)<=x.fst+(4:Int)/\x.fst+(4:Int)<(8:Int))/\aa (x.fst+(1:Int))/\I (x.fst
 +(1:Int),(x.snd.fst.set x.fst.toNat (IntKind.u32.wrap (x.snd.fst.getD x.fst.toNat (0:Int)+x.snd.snd.snd.fst.getD x.fst.toNat (0:Int)))).set (x.fst+(4:Int)).toNat
 (IntKind.u32.wrap ((x.snd.fst.set x.fst.toNat (IntKind.u32.wrap (x.snd.fst.getD x.fst.toNat (0:Int)+x.snd.snd.snd.fst.getD x.fst.toNat (0:Int)))).getD (x.fst+(4:
 Int)).toNat (0:Int)+x.snd.snd.snd.snd.getD x.fst.toNat (0:Int))),x.snd.snd.fst,x.snd.snd.snd.fst,x.snd.snd.snd.snd)/\μ (x.fst+(1:Int),(x.snd.fst.set x.fst.toNat
 (IntKind.u32.wrap (x.snd.fst.getD x.fst.toNat (0:Int)+x.snd.snd.snd.fst.getD x.fst.toNat (0:Int)))).set (x.fst+(4:Int)).toNat (IntKind.u32.wrap ((x.snd.fst.set
 x.fst.toNat (IntKind.u32.wrap (x.snd.fst.getD x.fst.toNat (0:Int)+x.snd.snd.snd.fst.getD x.fst.toNat (0:Int)))).getD (x.fst+(4:Int)).toNat (0:Int)+
 x.snd.snd.snd.snd.getD x.fst.toNat (0:Int))),x.snd.snd.fst,x.snd.snd.snd.fst,x.snd.snd.snd.snd)<μ x)/\(decide (x.fst<(4:Int))=false->x.snd.fst=comp s b))):=by
 kernel_rfl
theorem Un(s b:List Int):comp s b=sW s (rounds s (sched b 64) 64).1 (rounds s (sched b 64) 64).2 4:=rfl
attribute [local irreducible] aW cz sched rounds sW comp
theorem qbl:au A3:=az ⟨LN,Uj,qfc,trivial⟩ trivial
theorem qfd:Sat bs.P 144 Um:=bx qbl 6 _ Um fun x _ hp=>by
 obtain⟨s,b,rfl⟩:∃s b:List Int,x=(s,b):=⟨x.1,x.2,rfl⟩
 have hp:b.length=64:=hp;rw[qjh];refine⟨hp,⟨by omega,by omega,by omega,by omega⟩,by omega,⟨by omega,by omega,by omega,by omega⟩,by omega,?_⟩
 refine⟨fun x=>∃t:Nat,t<=64/\x.1=(t:Int)/\x.2.1=s/\x.2.2.2.1=sched b 64/\x.2.2.2.2.1=(rounds s (sched b 64) t).1/\x.2.2.2.2.2=(rounds s (sched b 64) t).2,fun x=>(64-x.1).toNat,⟨0,by omega,rfl,rfl,rfl,by rw[Go.PL.qt],by rw[Go.PL.qt]⟩,?_⟩
 rintro⟨i,s',z,w,v,e⟩ ⟨t,ht,hi,hs,hw,hv,he⟩
 simp only at hi hs hw hv he ⊢
 subst hi hs hw hv he;have hT:((t:Int)).toNat=t:=by omega
 simp only[hT];refine⟨fun h=>?_,fun h=>?_⟩
 ·have h:(t:Int)<64:=of_decide_eq_true h;repeat' apply And.intro
  all_goals first|omega|(unfold aa;omega)|skip
  refine⟨t+1,by omega,by omega,by first|trivial|rfl,by first|trivial|rfl,?_,?_⟩<;>rw[Go.PL.rounds_succ]<;>rfl
 ·have h:¬(t:Int)<64:=of_decide_eq_false h;have:t=64:=by omega
  subst this;refine⟨fun x=>∃n:Nat,n<=4/\x.1=(n:Int)/\x.2.1=sW s' (rounds s' (sched b 64) 64).1 (rounds s' (sched b 64) 64).2 n/\x.2.2.2.1=(rounds s' (sched b 64) 64).1/\x.2.2.2.2=(rounds s' (sched b 64) 64).2,fun x=>(4-x.1).toNat,⟨0,by omega,rfl,by rw[Go.PL.Ww],rfl,rfl⟩,?_⟩
  rintro⟨j,s2,z2,v2,e2⟩ ⟨n,hn,hj,hs2,hv2,he2⟩
  simp only at hj hs2 hv2 he2 ⊢
  subst hj hs2 hv2 he2;have hN:((n:Int)).toNat=n:=by omega
  have hN4:((n:Int)+4).toNat=n+4:=by omega
  simp only[hN,hN4];refine⟨fun h=>?_,fun h=>?_⟩
  ·have h:(n:Int)<4:=of_decide_eq_true h;repeat' apply And.intro
   all_goals first|omega|(unfold aa;omega)|skip
   refine⟨n+1,by omega,by omega,?_,by first|trivial|rfl,by first|trivial|rfl⟩
   rw[Go.PL.JI];rfl
  ·have h:¬(n:Int)<4:=of_decide_eq_false h;have:n=4:=by omega
   subst this;exact (Un _ _).symm
end Go.Proofs.YtobfmplofoofkaaGreatDoor
namespace Go.Proofs.YtobfmplofoofkaaGreatDoor
open Go.AM Go.PL
def qji(f:FuncId)(r:Nat):List LA:=
 if Nat.beq f 123 then [.slot 1 .str,.aT 0 SM,.aT 1 SM] else
 []
def qjj(f:FuncId):Hint:=if Nat.beq f 999999995 then⟨fun _=>[],fun _=>.split,fun _=>.split,RH⟩ else⟨qji f,fun _=>.split,fun _=>.split,fun _=>0⟩
def tA4:List (FuncId×aJ):=[(144,Um)]
noncomputable def A4:Ctx:=bA bs tA4 [] qjj
end Go.Proofs.YtobfmplofoofkaaGreatDoor
namespace Go.PL
open Go.AM
abbrev Sm:=List Int×List Int×Int×Unit
def Uo(s:Sm):Nat:=(IntKind.i64.wrap (s.2.2.1.tmod 64)).toNat
def kM(s:Sm)(l:List Int):Nat:=min (64-Uo s) l.length
def LO(s:Sm)(l:List Int):List Int:=s.2.1.take (Uo s)++l.take (kM s l)++s.2.1.drop (Uo s+kM s l)
def BP(s:Sm)(l:List Int):Sm:=
 (if IntKind.i64.wrap (s.2.2.1.tmod 64)+(kM s l:Int)=64 then comp s.1 (((LO s l).drop 0).take 64) else s.1,LO s l,IntKind.u64.wrap (s.2.2.1+IntKind.u64.wrap (kM s l:Int)),())
def tT:Nat->Sm->List Int->Sm
 |0,s,_=>s
 |f+1,s,l=>match l with
  |[]=>s
  |c::l=>tT f (BP s (c::l)) ((c::l).drop (kM s (c::l)))
def om(s:Sm)(l:List Int):Sm:=tT l.length s l
theorem OW:∀(f:Nat) (s:Sm),tT f s []=s
 |0,_=>rfl
 |_+1,_=>rfl
theorem BQ(f:Nat)(s:Sm){l:List Int}(h:l≠[]):tT (f+1) s l=tT f (BP s l) (l.drop (kM s l)):=by
 cases l with
 |nil=>exact absurd rfl h
 |cons c l=>rfl
def JJ(s:Sm):Prop:=s.2.1.length=64/\0<=s.2.2.1/\s.2.2.1<18446744073709551616
theorem Up{s:Sm}(h:JJ s):IntKind.i64.wrap (s.2.2.1.tmod 64)=s.2.2.1 % 64/\Uo s<64/\(Uo s:Int)=s.2.2.1 % 64:=by
 obtain⟨_,h1,h2⟩:=h;have e:s.2.2.1.tmod 64=s.2.2.1 % 64:=WaI h1;have h3:=Int.emod_nonneg s.2.2.1 (show (64:Int)≠0 by decide)
 have h4:=Int.emod_lt_of_pos s.2.2.1 (show (0:Int)<64 by decide)
 have e2:IntKind.i64.wrap (s.2.2.1 % 64)=s.2.2.1 % 64:=by
  unfold IntKind.wrap;simp[IntKind.bits,IntKind.signed]
  omega
 unfold Uo;rw[e,e2];omega
theorem OX{s:Sm}(h:JJ s)(l:List Int):(LO s l).length=64:=by
 obtain⟨_,h2,_⟩:=Up h;have h1:=h.1;have h3:kM s l<=l.length:=WbX _ _;have h4:kM s l<=64-Uo s:=WcM _ _;unfold LO;simp only[Wad,Waf,List.length_drop,h1];omega
theorem RI(x:Int):0<=IntKind.u64.wrap x/\IntKind.u64.wrap x<18446744073709551616:=by
 unfold IntKind.wrap;simp[IntKind.bits,IntKind.signed]
 omega
theorem Ek{s:Sm}(h:JJ s)(l:List Int):JJ (BP s l):=⟨OX h l,RI _⟩
theorem LQ{s:Sm}(h:JJ s){l:List Int}(hl:l≠[]):1<=kM s l:=by
 obtain⟨_,h2,_⟩:=Up h;have:0<l.length:=List.length_pos_iff.2 hl
 unfold kM;omega
theorem Uq:∀(f:Nat) {s:Sm} (l:List Int),JJ s->JJ (tT f s l)
 |0,_,_,h=>h
 |f+1,s,l,h=>by
  cases l with
  |nil=>exact h
  |cons c l=>exact Uq f _ (Ek h _)
theorem Ur{s:Sm}(l:List Int)(h:JJ s):JJ (om s l):=Uq _ l h
theorem qbm:∀(f:Nat) {s:Sm} (l:List Int),JJ s->l.length<=f->s.2.2.1+l.length<18446744073709551616->(tT f s l).2.2.1=s.2.2.1+l.length
 |0,s,l,h,hf,hb=>by
  have:l=[]:=WaT (by omega)
  subst this;simp[tT]
 |f+1,s,l,h,hf,hb=>by
  by_cases hl:l=[]
  ·subst hl;simp[tT]
  ·have hk:=LQ h hl;have hk2:kM s l<=l.length:=WbX _ _;have e1:(BP s l).2.2.1=s.2.2.1+kM s l:=by
    have h1:=h.2.1;show IntKind.u64.wrap (s.2.2.1+IntKind.u64.wrap (kM s l:Int))=_
    unfold IntKind.wrap;simp[IntKind.bits,IntKind.signed]
    omega
   rw[BQ f s hl,qbm f _ (Ek h l) (by rw[List.length_drop];omega) (by rw[e1,List.length_drop];omega),e1,List.length_drop]
   omega
theorem qbn{s:Sm}(l:List Int)(h:JJ s)(hb:s.2.2.1+l.length<18446744073709551616):(om s l).2.2.1=s.2.2.1+l.length:=qbm _ l h (Wan _) hb
end Go.PL
namespace Go.Proofs.YtobfmplofoofkaaGreatDoor
open Go.AM Go.PL
def OY:aJ:=⟨[SM,.str],[SM],fun x=>True,fun x=>om x.1 x.2⟩
theorem qfe(st bl:List Int)(n:Int)(l:List Int):aW A4 6 123 OY ((st,bl,n,()),l)=(∃(I:List Int×(List Int×List Int×Int×Unit)×List Int×List Int
 ×Int×Unit->Prop),∃(μ:List Int×(List Int×List Int×Int×Unit)×List Int×List Int×Int×Unit->Nat),I (l,(st,bl,n,()),[(0:Int),(0:Int),(0:Int),(0
 :Int),(0:Int),(0:Int),(0:Int),(0:Int)],[(0:Int),(0:Int),(0:Int),(0:Int),(0:Int),(0:Int),(0:Int),(0:Int),(0:Int),(0:Int),(0:Int),(0
 :Int),(0:Int),(0:Int),(0:Int),(0:Int),(0:Int),(0:Int),(0:Int),(0:Int),(0:Int),(0:Int),(0:Int),(0:Int),(0:Int),(0:Int),(0:Int),(0:
 Int),(0:Int),(0:Int),(0:Int),(0:Int),(0:Int),(0:Int),(0:Int),(0:Int),(0:Int),(0:Int),(0:Int),(0:Int),(0:Int),(0:Int),(0:Int),(0:
 Int),(0:Int),(0:Int),(0:Int),(0:Int),(0:Int),(0:Int),(0:Int),(0:Int),(0:Int),(0:Int),(0:Int),(0:Int),(0:Int),(0:Int),(0:Int),(0:
 Int),(0:Int),(0:Int),(0:Int),(0:Int)],(0:Int),())/\∀(x:List Int×(List Int×List Int×Int×Unit)×List Int×List Int×Int×Unit),I x->((!decide
 (x.fst=bytesOf {data:=#[]}))=true->(64:Int)≠(0:Int)/\((0:Int)<=IntKind.i64.wrap (x.snd.fst.snd.snd.fst.tmod (64:Int))/\IntKind.i64.wrap
 (x.snd.fst.snd.snd.fst.tmod (64:Int))<=(64:Int)/\(64:Int)<=(64:Int)/\IntKind.i64.wrap (x.snd.fst.snd.snd.fst.tmod (64:Int))<(64:Int))/\((0:Int)<=(↑(min ((64
 :Nat)-(IntKind.i64.wrap (x.snd.fst.snd.snd.fst.tmod (64:Int))).toNat) x.fst.length):Int)/\(↑(min ((64:Nat)-(IntKind.i64.wrap (x.snd.fst.snd.snd.fst.tmod (64:
 Int))).toNat) x.fst.length):Int)<=(↑x.fst.length:Int))/\aa (IntKind.i64.wrap (x.snd.fst.snd.snd.fst.tmod (64:Int))+(↑(min ((64:Nat)-(IntKind.i64.wrap
 (x.snd.fst.snd.snd.fst.tmod (64:Int))).toNat) x.fst.length):Int))/\(decide (IntKind.i64.wrap (x.snd.fst.snd.snd.fst.tmod (64:Int))+(↑(min ((64:Nat)-(IntKind.i64.wrap
 (x.snd.fst.snd.snd.fst.tmod (64:Int))).toNat) x.fst.length):Int)=(64:Int))=true->((0:Int)<=(0:Int)/\(0:Int)<=(64:Int)/\(64:Int)<=(64:Int)/\(0:Int)
 <(64:Int))/\(List.take (64:Nat) (List.drop (0:Nat) (List.take (IntKind.i64.wrap (x.snd.fst.snd.snd.fst.tmod (64:Int))).toNat x.snd.fst.snd.fst++List.take (min ((64:
 Nat)-(IntKind.i64.wrap (x.snd.fst.snd.snd.fst.tmod (64:Int))).toNat) x.fst.length) x.fst++List.drop ((IntKind.i64.wrap (x.snd.fst.snd.snd.fst.tmod (64:Int))).toNat+min
 ((64:Nat)-(IntKind.i64.wrap (x.snd.fst.snd.snd.fst.tmod (64:Int))).toNat) x.fst.length) x.snd.fst.snd.fst))).length=(64:Nat)/\I (List.drop (↑(min ((64:Nat)-
 (IntKind.i64.wrap (x.snd.fst.snd.snd.fst.tmod (64:Int))).toNat) x.fst.length):Int).toNat x.fst,(comp x.snd.fst.fst (List.take (64:Nat) (List.drop (0:Nat) (List.take
 (IntKind.i64.wrap (x.snd.fst.snd.snd.fst.tmod (64:Int))).toNat x.snd.fst.snd.fst++List.take (min ((64:Nat)-(IntKind.i64.wrap (x.snd.fst.snd.snd.fst.tmod (64:
 Int))).toNat) x.fst.length) x.fst++List.drop ((IntKind.i64.wrap (x.snd.fst.snd.snd.fst.tmod (64:Int))).toNat+min ((64:Nat)-(IntKind.i64.wrap (x.snd.fst.snd.snd.fst.tmod
 (64:Int))).toNat) x.fst.length) x.snd.fst.snd.fst))),List.take (IntKind.i64.wrap (x.snd.fst.snd.snd.fst.tmod (64:Int))).toNat x.snd.fst.snd.fst++List.take (min ((64:Nat)
 -(IntKind.i64.wrap (x.snd.fst.snd.snd.fst.tmod (64:Int))).toNat) x.fst.length) x.fst++List.drop ((IntKind.i64.wrap (x.snd.fst.snd.snd.fst.tmod (64:Int))).toNat+min ((64
 :Nat)-(IntKind.i64.wrap (x.snd.fst.snd.snd.fst.tmod (64:Int))).toNat) x.fst.length) x.snd.fst.snd.fst,IntKind.u64.wrap (x.snd.fst.snd.snd.fst+IntKind.u64.wrap (↑(min ((64
 :Nat)-(IntKind.i64.wrap (x.snd.fst.snd.snd.fst.tmod (64:Int))).toNat) x.fst.length):Int)),x.snd.fst.snd.snd.snd),x.snd.snd)/\μ (List.drop (↑(min ((64:Nat)-
 (IntKind.i64.wrap (x.snd.fst.snd.snd.fst.tmod (64:Int))).toNat) x.fst.length):Int).toNat x.fst,(comp x.snd.fst.fst (List.take (64:Nat) (List.drop (0:Nat) (List.take
 (IntKind.i64.wrap (x.snd.fst.snd.snd.fst.tmod (64:Int))).toNat x.snd.fst.snd.fst++List.take (min ((64:Nat)-(IntKind.i64.wrap (x.snd.fst.snd.snd.fst.tmod (64:
 Int))).toNat) x.fst.length) x.fst++List.drop ((IntKind.i64.wrap (x.snd.fst.snd.snd.fst.tmod (64:Int))).toNat+min ((64:Nat)-(IntKind.i64.wrap (x.snd.fst.snd.snd.fst.tmod
 (64:Int))).toNat) x.fst.length) x.snd.fst.snd.fst))),List.take (IntKind.i64.wrap (x.snd.fst.snd.snd.fst.tmod (64:Int))).toNat x.snd.fst.snd.fst++List.take (min ((64:Nat)
 -(IntKind.i64.wrap (x.snd.fst.snd.snd.fst.tmod (64:Int))).toNat) x.fst.length) x.fst++List.drop ((IntKind.i64.wrap (x.snd.fst.snd.snd.fst.tmod (64:Int))).toNat+min ((64
 :Nat)-(IntKind.i64.wrap (x.snd.fst.snd.snd.fst.tmod (64:Int))).toNat) x.fst.length) x.snd.fst.snd.fst,IntKind.u64.wrap (x.snd.fst.snd.snd.fst+IntKind.u64.wrap (↑(min ((64
 :Nat)-(IntKind.i64.wrap (x.snd.fst.snd.snd.fst.tmod (64:Int))).toNat) x.fst.length):Int)),x.snd.fst.snd.snd.snd),x.snd.snd)<μ x)/\(decide (IntKind.i64.wrap
 (x.snd.fst.snd.snd.fst.tmod (64:Int))+(↑(min ((64:Nat)-(IntKind.i64.wrap (x.snd.fst.snd.snd.fst.tmod (64:Int))).toNat) x.fst.length):Int)=(64:Int))=false->I
 (List.drop (↑(min ((64:Nat)-(IntKind.i64.wrap (x.snd.fst.snd.snd.fst.tmod (64:Int))).toNat) x.fst.length):Int).toNat x.fst,(x.snd.fst.fst,List.take (IntKind.i64.wrap
 (x.snd.fst.snd.snd.fst.tmod (64:Int))).toNat x.snd.fst.snd.fst++List.take (min ((64:Nat)-(IntKind.i64.wrap (x.snd.fst.snd.snd.fst.tmod (64:Int))).toNat) x.fst.length)
 x.fst++List.drop ((IntKind.i64.wrap (x.snd.fst.snd.snd.fst.tmod (64:Int))).toNat+min ((64:Nat)-(IntKind.i64.wrap (x.snd.fst.snd.snd.fst.tmod (64:Int))).toNat)
 x.fst.length) x.snd.fst.snd.fst,IntKind.u64.wrap (x.snd.fst.snd.snd.fst+IntKind.u64.wrap (↑(min ((64:Nat)-(IntKind.i64.wrap (x.snd.fst.snd.snd.fst.tmod (64:Int))).toNat)
 x.fst.length):Int)),x.snd.fst.snd.snd.snd),x.snd.snd)/\μ (List.drop (↑(min ((64:Nat)-(IntKind.i64.wrap (x.snd.fst.snd.snd.fst.tmod (64:Int))).toNat) x.fst.length):
 Int).toNat x.fst,(x.snd.fst.fst,List.take (IntKind.i64.wrap (x.snd.fst.snd.snd.fst.tmod (64:Int))).toNat x.snd.fst.snd.fst++List.take (min ((64:Nat)-(IntKind.i64.wrap
 (x.snd.fst.snd.snd.fst.tmod (64:Int))).toNat) x.fst.length) x.fst++List.drop ((IntKind.i64.wrap (x.snd.fst.snd.snd.fst.tmod (64:Int))).toNat+min ((64:Nat)-
 (IntKind.i64.wrap (x.snd.fst.snd.snd.fst.tmod (64:Int))).toNat) x.fst.length) x.snd.fst.snd.fst,IntKind.u64.wrap (x.snd.fst.snd.snd.fst+IntKind.u64.wrap (↑(min ((64:Nat)-
 (IntKind.i64.wrap (x.snd.fst.snd.snd.fst.tmod (64:Int))).toNat) x.fst.length):Int)),x.snd.fst.snd.snd.snd),x.snd.snd)<μ x))/\((!decide (x.fst=bytesOf {data:=#[]}))
 =false->x.snd.fst=om (st,bl,n,()) l)):=by kernel_rfl
attribute [local irreducible] aW cz sched rounds sW comp om tT
theorem qbo:au A4:=az ⟨qfd,trivial⟩ trivial
theorem Us{n:Int}(h:IntKind.u64.has n):0<=n/\n<18446744073709551616:=by
 unfold IntKind.has at h;simp[IntKind.min,IntKind.max,IntKind.bits,IntKind.signed]at h
 omega
theorem Ut:Sat bs.P 123 OY:=bx qbo 6 _ OY fun x hok _=>by
 obtain⟨st,bl,n,l,rfl⟩:∃(st bl:List Int) (n:Int) (l:List Int),x=((st,bl,n,()),l):=⟨x.1.1,x.1.2.1,x.1.2.2.1,x.2,rfl⟩
 have hm:JJ (st,bl,n,()):=⟨hok.1.2.1.1,Us hok.1.2.2.1⟩;rw[qfe];obtain⟨R,hR⟩:∃R,R=om (st,bl,n,()) l:=⟨_,rfl⟩
 refine⟨fun x=>∃f,x.1.length<=f/\JJ x.2.1/\tT f x.2.1 x.1=R,fun x=>x.1.length,⟨l.length,Wan _,hm,by rw[hR];unfold om;rfl⟩,?_⟩
 rintro⟨l,s,z⟩ ⟨f,hf,hs,he⟩
 simp only at hf hs he ⊢
 obtain⟨a1,a2,a3⟩:=Up hs;have hbl:=OX hs l;refine⟨fun h=>?_,fun h=>?_⟩
 ·have hl:l≠[]:=by
   intro e;subst e;have h:(!decide (([]:List Int)=[]))=true:=h;simp at h
  have hlp:=List.length_pos_iff.2 hl;have hk:=LQ hs hl;have hk2:kM s l<=l.length:=WbX _ _;have hk3:kM s l<=64-Uo s:=WcM _ _;have eT:(((kM s l:Nat):Int)).toNat=kM s l:=Waw _;obtain⟨f',rfl⟩:∃f',f=f'+1:=⟨f-1,by omega⟩
  rw[BQ f' s hl]at he;have hI:∀s',s'=BP s l->∃f,(l.drop (((kM s l:Nat):Int)).toNat).length<=f/\JJ s'/\tT f s' (l.drop (((kM s l:Nat):Int)).toNat)=R:=fun s' h'=>by
   subst h';rw[eT];exact⟨f',by rw[List.length_drop];omega,Ek hs l,he⟩
  have hmu:(l.drop (((kM s l:Nat):Int)).toNat).length<l.length:=by rw[eT,List.length_drop];omega
  have yU:0<=IntKind.i64.wrap (s.2.2.1.tmod 64)/\IntKind.i64.wrap (s.2.2.1.tmod 64)<64:=by rw[a1];omega
  refine⟨by decide,⟨yU.1,Int.le_of_lt yU.2,by decide,yU.2⟩,⟨Int.natCast_nonneg _,Int.ofNat_le.2 hk2⟩,?_,fun hc=>⟨by decide,?_,hI _ ?_,hmu⟩,fun hc=>⟨hI _ ?_,hmu⟩⟩
  ·show aa (IntKind.i64.wrap (s.2.2.1.tmod 64)+((kM s l:Nat):Int))
   unfold aa;omega
  ·show (((LO s l).drop 0).take 64).length=64
   rw[Waf,List.length_drop,hbl];rfl
  ·have hc:IntKind.i64.wrap (s.2.2.1.tmod 64)+((kM s l:Nat):Int)=64:=of_decide_eq_true hc;unfold BP;rw[if_pos hc];rfl
  ·have hc:¬IntKind.i64.wrap (s.2.2.1.tmod 64)+((kM s l:Nat):Int)=64:=of_decide_eq_false hc;unfold BP;rw[if_neg hc];rfl
 ·have hl:l=[]:=by
   have h:(!decide (l=[]))=false:=h;simpa using h
  subst hl;rw[OW]at he;rw[he,hR]
end Go.Proofs.YtobfmplofoofkaaGreatDoor
namespace Go.PL
open Go.AM
def zz(n:Int):Int:=if n<0 then 2*(-1-n)+1 else 2*n
def digits:Nat->Int->List Int
 |0,z=>[z]
 |k+1,z=>if z<128 then [z] else (z % 128+128)::digits k (z / 128)
def kG(n:Int):List Int:=digits 9 (zz n)
theorem JK(n:Int):0<=zz n:=by unfold zz;split<;>omega
theorem qhp{n:Int}(h:aa n):zz n<18446744073709551616:=by
 unfold aa at h;unfold zz;split<;>omega
theorem Gr:∀(k:Nat) (z:Int),1<=(digits k z).length/\(digits k z).length<=k+1
 |0,z=>by simp[digits]
 |k+1,z=>by
  unfold digits;split
  ·simp
  ·have:=Gr k (z / 128)
   simp;omega
end Go.PL
namespace Go.Proofs.YtobfmplofoofkaaGreatDoor
open Go.AM Go.PL
def tU:cL:=⟨[I],5,U8,fun _=>True,fun n=>kG n⟩
def qbp(f:FuncId)(r:Nat):List LA:=
 if Nat.beq f 89||Nat.beq f 158 then [.dF 4 5 U8,.slot 3 (.int .u64)]
 else []
noncomputable def W0:Ctx:=bA bs [] [] (qmG qbp)
theorem qjk(n:Int):cz W0 5 89 tU n=((z0<=z1/\z1<=j9)/\(z0<=z63/\z63<=j9)/\LP (eI,aK BinOp.xor IntKind.u64 (IntKind.u64.wrap (IntKind.u64.wrap n*z2))
 (IntKind.u64.wrap (n / z2 ^ y63))) fun I μ x=>SD ((127:Int)<x.2) (aM W0 y5 (x.1.length+[aK BinOp.or IntKind.u8 (IntKind.u8.wrap x.2) (128:Int)].length)/\(z0<=z7/\z7<=
 j9)/\NX I μ x (x.1++[aK BinOp.or IntKind.u8 (IntKind.u8.wrap x.2) (128:Int)],x.2 / z2 ^ y7)) (aM W0 y5 (x.1.length+[IntKind.u8.wrap x.2].length)/\x.1++[IntKind.u8.wrap
 x.2]=kG n)):=by kernel_rfl
abbrev RJ(x:List Int×Int)(I:List Int×Int->Prop)(μ:List Int×Int->Nat):=(128:Int)≠z0/\aM W0 y5 (x.1.length+[IntKind.u8.wrap (IntKind.u8.wrap (x.2.tmod (128:
 Int))+(128:Int))].length)/\(128:Int)≠z0/\NX I μ x (x.1++[IntKind.u8.wrap (IntKind.u8.wrap (x.2.tmod (128:Int))+(128:Int))],IntKind.u64.wrap (x.2.tdiv (128:Int)))
theorem qff(n:Int):cz W0 5 158 tU n=(SD (n<z0) (aa ((-1:Int)-n)/\LP (eI,IntKind.u64.wrap (IntKind.u64.wrap (IntKind.u64.wrap ((-1:Int)-n)*z2)+z1)) fun I μ
 x=>SD ((128:Int)<=x.2) (RJ x I μ) (aM W0 y5 (x.1.length+[IntKind.u8.wrap x.2].length)/\x.1++[IntKind.u8.wrap x.2]=kG n)) (LP (eI,IntKind.u64.wrap (IntKind.u64.wrap n*
 z2)) fun I μ x=>SD ((128:Int)<=x.2) (RJ x I μ) (aM W0 y5 (x.1.length+[IntKind.u8.wrap x.2].length)/\x.1++[IntKind.u8.wrap x.2]=kG n))):=by kernel_rfl
theorem qbq{k:IntKind}(hs:k.signed=false)(x:Int):k.wrap x=x % 2 ^ k.bits:=by
 unfold IntKind.wrap;simp[hs]
theorem u8w(x:Int):IntKind.u8.wrap x=x % 256:=by rw[qbq rfl];rfl
theorem RK(x:Int):IntKind.u64.wrap x=x % 18446744073709551616:=by rw[qbq rfl];rfl
theorem qp5{x:Int}(h:aa x):IntKind.i64.wrap x=x:=by
 unfold aa at h;unfold IntKind.wrap;simp[IntKind.bits,IntKind.signed]
 omega
theorem qjl:∀i:Fin 256,aK .or .u8 (i.1:Int) 128=(i.1:Int) % 128+128:=by decide+kernel
theorem qmQ{x:Int}(h0:0<=x)(h1:x<256):aK .or .u8 x 128=x % 128+128:=by
 obtain⟨m,rfl⟩:=Wa8 h0;exact qjl ⟨m,by omega⟩
theorem toNat_ofInt{x:Int}(h0:0<=x)(h1:x<18446744073709551616):(BitVec.ofInt 64 x).toNat=x.toNat:=by
 rw[BitVec.toNat_ofInt];congr 1
 exact Int.emod_eq_of_lt h0 (by simpa using h1)
theorem Wx{a:Int}(h0:0<=a)(h1:a<18446744073709551616):aK .xor .u64 a 0=a:=by
 unfold aK;show IntKind.u64.wrap (((BitVec.ofInt 64 a ^^^ BitVec.ofInt 64 0).toNat:Nat):Int)=_
 have:BitVec.ofInt 64 a ^^^ BitVec.ofInt 64 0=BitVec.ofInt 64 a:=by simp
 rw[this,toNat_ofInt h0 h1,RK];omega
theorem qbr{a:Int}(h0:0<=a)(h1:a<18446744073709551616):aK .xor .u64 a 18446744073709551615=18446744073709551615-a:=by
 unfold aK;show IntKind.u64.wrap (((BitVec.ofInt 64 a ^^^ BitVec.ofInt 64 18446744073709551615).toNat:Nat):Int)=_
 have e:BitVec.ofInt 64 18446744073709551615=BitVec.allOnes 64:=by decide
 rw[e,BitVec.xor_allOnes,BitVec.toNat_not,toNat_ofInt h0 h1,RK];omega
theorem qfg{n:Int}(h:aa n):aK .xor .u64 (IntKind.u64.wrap (IntKind.u64.wrap n*2)) (IntKind.u64.wrap (n / 2 ^ 63))=zz n:=by
 unfold aa at h;have e63:((2:Int) ^ 63)=9223372036854775808:=by decide
 rw[e63];unfold zz;rcases Wa4 n 0 with hn|hn
 ·have e:n / 9223372036854775808= -1:=by omega
  rw[e,show IntKind.u64.wrap (-1)=18446744073709551615 by decide,if_pos hn]
  simp only[RK];rw[qbr (by omega) (by omega)]
  omega
 ·have e:n / 9223372036854775808=0:=by omega
  rw[e,show IntKind.u64.wrap 0=0 by decide,if_neg (by omega)]
  simp only[RK];rw[Wx (by omega) (by omega)]
  omega
theorem uW:Tryz.prog.bytesOf 5=1:=by kernel_rfl
theorem Db{C:Ctx}{t:TypeId}{n:Nat}(hb:C.P.bytesOf t=1)(h:n<=140737488355328):aM C t n:=by
 unfold aM;rw[hb];omega
theorem vT(m:Nat)(z:Int):digits (m+1) z=if z<128 then [z] else (z % 128+128)::digits m (z / 128):=rfl
theorem El:qY Tryz.prog 89 tU:=by
 refine gH (C:=W0) (az trivial trivial) 5 89 tU fun (n:Int) hk _=>?_
 rw[qjk];delta LP NX SD eI y5 y63 y7 z0 z1 z2 z63 j9 z7;dsimp only
 have hk:aa n:=mJ.1 hk;rw[qfg hk];have hz:=qhp hk;have hz0:=JK n;simp only[decide_eq_true_eq,decide_eq_false_iff_not];refine⟨by omega,by omega,fun x=>∃m:Nat,0<=x.2/\x.2<2*128 ^ m/\x.1.length+m=9/\kG n=x.1++digits m x.2,fun x=>x.2.toNat,⟨9,hz0,?_,rfl,rfl⟩,fun ⟨o,z⟩ hI=>?_⟩
 ·show zz n<2*128 ^ 9
  omega
 obtain⟨m,h0,h1,h2,h3⟩:=hI;simp only at h0 h1 h2 h3 ⊢
 refine⟨fun hc=>?_,fun hc=>?_⟩
 ·cases m with
  |zero=>simp at h1;omega
  |succ m=>
   rw[u8w,qmQ (by omega) (by omega)]
   have e7:((2:Int) ^ 7)=128:=by decide
   rw[e7];have e:z % 256 % 128+128=z % 128+128:=by omega
   rw[e];rw[Int.pow_succ]at h1;refine⟨Db uW (by simp;omega),by omega,⟨m,by omega,by omega,by simp;omega,?_⟩,by omega⟩
   rw[h3,vT,if_neg (by omega)]
   simp
 ·have e:z % 256=z:=by omega
  rw[u8w,e];refine⟨Db uW (by simp;omega),?_⟩
  rw[h3];cases m with
  |zero=>rfl
  |succ m=>rw[vT,if_pos (by omega)]
theorem qjm:∀i:Fin 9,(128:Int) ^ i.1<=72057594037927936:=by decide
theorem JL{n z0:Int}(hz:zz n=z0)(hk:aa n):
 ∃(I:List Int×Int->Prop),∃(μ:List Int×Int->Nat),I ([],z0)/\∀(x:List Int×Int),I x->(decide ((128:Int)<=x.snd)=true->(128:Int)≠(0:Int)/\aM W0 (5:Nat)
 (x.fst.length+[IntKind.u8.wrap (IntKind.u8.wrap (x.snd.tmod (128:Int))+(128:Int))].length)/\(128:Int)≠(0:Int)/\I (x.fst++[IntKind.u8.wrap (IntKind.u8.wrap
 (x.snd.tmod (128:Int))+(128:Int))],IntKind.u64.wrap (x.snd.tdiv (128:Int)))/\μ (x.fst++[IntKind.u8.wrap (IntKind.u8.wrap (x.snd.tmod (128:Int))+(128:Int))],
 IntKind.u64.wrap (x.snd.tdiv (128:Int)))<μ x)/\(decide ((128:Int)<=x.snd)=false->aM W0 (5:Nat) (x.fst.length+[IntKind.u8.wrap x.snd].length)/\x.fst++
 [IntKind.u8.wrap x.snd]=kG n):=by
 have hz1:=qhp hk;have hz0:=JK n;simp only[decide_eq_true_eq,decide_eq_false_iff_not];refine⟨fun x=>∃m:Nat,0<=x.2/\x.2<2*128 ^ m/\x.1.length+m=9/\kG n=x.1++digits m x.2,fun x=>x.2.toNat,⟨9,by dsimp only;omega,?_,rfl,by subst hz;rfl⟩,fun ⟨o,z⟩ hI=>?_⟩
 ·show z0<2*128 ^ 9
  omega
 obtain⟨m,h0,h1,h2,h3⟩:=hI;simp only at h0 h1 h2 h3 ⊢
 rw[WaI h0,Wbw h0];refine⟨fun hc=>?_,fun hc=>?_⟩
 ·cases m with
  |zero=>simp at h1;omega
  |succ m=>
   have e:(z % 128 % 256+128) % 256=z % 128+128:=by omega
   have hb2:z / 128<18446744073709551616:=by
    rw[Int.pow_succ]at h1;have h4:=qjm ⟨m,by omega⟩
    simp only at h4
    omega
   simp only[u8w,RK];rw[e,Int.emod_eq_of_lt (by omega) hb2]
   rw[Int.pow_succ]at h1;refine⟨by decide,Db uW (by simp;omega),by decide,⟨m,by omega,by omega,by simp;omega,?_⟩,by omega⟩
   rw[h3,vT,if_neg (by omega)]
   simp
 ·have e:z % 256=z:=by omega
  rw[u8w,e];refine⟨Db uW (by simp;omega),?_⟩
  rw[h3];cases m with
  |zero=>rfl
  |succ m=>rw[vT,if_pos (by omega)]
theorem Ac:qY Tryz.prog 158 tU:=by
 refine gH (C:=W0) (az trivial trivial) 5 158 tU fun (n:Int) hk _=>?_
 rw[qff];delta RJ LP NX SD eI y5 z0 z1 z2;dsimp only
 have hk:aa n:=mJ.1 hk;have hk':=hk;unfold aa at hk';refine⟨fun hc=>⟨?_,JL ?_ hk⟩,fun hc=>JL ?_ hk⟩
 ·unfold aa;have:n<0:=by simpa using hc
  omega
 ·have:n<0:=by simpa using hc
  simp only[RK];unfold zz;rw[if_pos this];omega
 ·have:¬n<0:=by simpa using hc
  simp only[RK];unfold zz;rw[if_neg this];omega
end Go.Proofs.YtobfmplofoofkaaGreatDoor
namespace Go.PL
open Go.AM
def bS(s:List Int):List Int:=kG s.length++s
def dL{α:Type}(one:α->List Int)(l:List α):List Int:=kG l.length++l.flatMap one
end Go.PL
namespace Go.Proofs.YtobfmplofoofkaaGreatDoor
open Go.AM Go.PL
def nD:cL:=⟨[.str],5,U8,fun s=>(s:List Int).length<=100000,fun s=>bS s⟩
def sX{α:Type}(l:List α):Prop:=l.length<=100000
def LR:aJ:=⟨[L],[BY],fun l=>sX (l:List Int),fun l=>dL kG l⟩
def vU:aJ:=⟨[.arr .str],[BY],fun l=>(∀s∈(l:List (List Int)),s.length<=100000)/\sX (l:List (List Int)),fun l=>dL bS l⟩
def qjn(f:FuncId)(r:Nat):List LA:=
 if Nat.beq f 88 then [.dF 5 5 U8,.slot 13 I] else
 if Nat.beq f 90 then [.dF 5 5 U8,.slot 13 I] else
 qbp f r
def qhq(f:FuncId):Bool:=
 false
def qhr(f:FuncId):Hint:=⟨qjn f,fun _=>.split,fun t=>bif qhq f&&Nat.beq t 27 then .force else .split,
 fun r=>bif qhq f&&Nat.beq r 10 then 20 else 0⟩
noncomputable def X0:Ctx:=bA bs [(89,tU.data),(158,tU.data)] [(89,tU),(158,tU)] qhr
theorem qbs(s:List Int):cz X0 5 91 nD s=(True/\aM X0 (5:Nat) ((kG (↑s.length:Int)).length+s.length)/\kG (↑s.length:Int)++s=bS s):=by
 kernel_rfl
theorem Wy(s:List Int):cz X0 5 150 nD s=(True/\aM X0 (5:Nat) ((kG (↑s.length:Int)).length+s.length)/\kG (↑s.length:Int)++s=bS s):=
 by kernel_rfl
theorem qfh(l:List Int):aW X0 5 43 LR l=(True/\∃(I:List Int×Int->Prop),∃(μ:List Int×Int->Nat),I (kG (↑l.length:Int),(0:Int))/\∀(x:List
 Int×Int),I x->(decide (x.snd<(↑l.length:Int))=true->((0:Int)<=x.snd/\x.snd<(↑l.length:Int))/\True/\aM X0 (5:Nat) (x.fst.length+(kG (l.getD
 x.snd.toNat (0:Int))).length)/\aa (x.snd+(1:Int))/\I (x.fst++kG (l.getD x.snd.toNat (0:Int)),x.snd+(1:Int))/\μ (x.fst++kG (l.getD x.snd.toNat (0:
 Int)),x.snd+(1:Int))<μ x)/\(decide (x.snd<(↑l.length:Int))=false->x.fst=dL kG l)):=by kernel_rfl
end Go.Proofs.YtobfmplofoofkaaGreatDoor
namespace Go.PL
open Go.AM
def JM{α:Type}(one:α->List Int)(l:List α)(x:List Int×Int):Prop:=0<=x.2/\x.2<=l.length/\dL one l=x.1++(l.drop x.2.toNat).flatMap one
theorem Gs{α:Type}(one:α->List Int)(l:List α):JM one l (kG l.length,0):=⟨Waz _,by simp,by simp[dL]⟩
theorem Gt{α:Type}{one:α->List Int}{l:List α}{x:List Int×Int}(d:α)(h:JM one l x)(hc:x.2<l.length):
 JM one l (x.1++one (l.getD x.2.toNat d),x.2+1)/\x.1.length+(one (l.getD x.2.toNat d)).length<=(dL one l).length:=by
 obtain⟨h0,h1,h2⟩:=h;rw[BH l d h0 hc,WbS]at h2;refine⟨⟨by dsimp only;omega,by dsimp only;omega,by rw[h2,Waj]⟩,?_⟩
 rw[h2];simp only[Wad];omega
theorem JN{α:Type}{one:α->List Int}{l:List α}{x:List Int×Int}(h:JM one l x)(hc:¬x.2<l.length):x.1=dL one l:=by
 obtain⟨h0,h1,h2⟩:=h;rw[Gf l hc]at h2;simpa using h2.symm
theorem jZ(n:Int):1<=(kG n).length/\(kG n).length<=10:=Gr 9 (zz n)
theorem uX{α:Type}{one:α->List Int}{k:Nat}:∀(l:List α),(∀x∈l,(one x).length<=k)->(l.flatMap one).length<=k*l.length
 |[],_=>by simp
 |x::l,h=>by
  have h1:=uX l (fun y hy=>h y (by simp[hy]))
  have h2:=h x (by simp)
  simp only[WbS,Wad,Wae];rw[Nat.mul_add];omega
def Uu{α:Type}(a b:List α)(i:Int):Prop:=0<=i/\i<=a.length/\(a=b↔a.drop i.toNat=b.drop i.toNat)
theorem RL{α:Type}{a b:List α}(hl:a.length=b.length){i:Int}(d:α)(h:Uu a b i)(hc:i<a.length)(he:a.getD i.toNat d=b.getD i.toNat d):Uu a b (i+1):=by
 obtain⟨h0,h1,h2⟩:=h;rw[BH a d h0 hc,BH b d h0 (by omega),he,List.cons.injEq]at h2
 exact⟨by omega,by omega,by simpa using h2⟩
theorem qbt{α:Type}{a b:List α}{i:Int}(d:α)(he:¬a.getD i.toNat d=b.getD i.toNat d):¬a=b:=fun e=>he (by rw[e])
theorem Wz{α:Type}{a b:List α}(hl:a.length=b.length){i:Int}(h:Uu a b i)(hc:¬i<a.length):a=b:=by
 obtain⟨h0,h1,h2⟩:=h;rw[Gf a hc,Gf b (by omega)]at h2
 exact h2.2 rfl
end Go.PL
namespace Go.Proofs.YtobfmplofoofkaaGreatDoor
open Go.AM Go.PL
theorem qmR:jK bs.P [(89,tU.data),(158,tU.data)]:=⟨El.jd,Ac.jd,trivial⟩
theorem qjo:n9 bs.P [(89,tU),(158,tU)]:=⟨El,Ac,trivial⟩
theorem qjp:au X0:=az qmR qjo
theorem BR:qY Tryz.prog 91 nD:=by
 refine gH (C:=X0) qjp 5 91 nD fun (s:List Int) hk hp=>?_
 rw[qbs];refine⟨trivial,?_,rfl⟩
 have hl:s.length<=100000:=hp;have:=jZ (s.length:Int)
 exact Db uW (by omega)
theorem yg:qY Tryz.prog 150 nD:=by
 refine gH (C:=X0) qjp 5 150 nD fun (s:List Int) hk hp=>?_
 rw[Wy];refine⟨trivial,?_,rfl⟩
 have hl:s.length<=100000:=hp;have:=jZ (s.length:Int)
 exact Db uW (by omega)
theorem WA{l:List Int}(h:sX l):(dL kG l).length<=10000000:=by
 unfold sX at h;have h1:=uX (one:=kG) (k:=10) l (fun x _=>(jZ x).2)
 have h2:=jZ (l.length:Int);unfold dL;rw[Wad];omega
theorem qbu:Sat Tryz.prog 43 LR:=by
 refine bx (C:=X0) qjp 5 43 LR fun (l:List Int) hk hp=>?_
 rw[qfh];have hr:=WA hp;have hp:l.length<=100000:=hp;simp only[decide_eq_true_eq,decide_eq_false_iff_not,Ue];refine⟨trivial,JM kG l,fun x=>((l.length:Int)-x.2).toNat,Gs _ _,fun x hI=>⟨fun hc=>?_,fun hc=>JN hI hc⟩⟩
 obtain⟨h1,h2⟩:=Gt 0 hI hc;have h0:=hI.1;exact⟨⟨h0,hc⟩,trivial,Db uW (by omega),by omega,h1,by dsimp only;omega⟩
end Go.Proofs.YtobfmplofoofkaaGreatDoor
namespace Go.PL
open Go.AM
def jN:Sm:=([1779033703,3144134277,1013904242,2773480762,1359893119,2600822924,528734635,1541459225],List.replicate 64 0,0,())
def gK(n:Int):Nat:=((55-n) % 64).toNat
def qjq(m:Int)(i:Nat):Int:=IntKind.u8.wrap (m / 2 ^ (56-8*i))
def OZ(n:Int):List Int:=(128::List.replicate (gK n) 0)++(List.range 8).map (qjq (IntKind.u64.wrap (8*n)))
def RM(st:List Int)(i:Nat):Int:=IntKind.u8.wrap (st.getD (i / 4) 0 / 2 ^ (24-8*(i % 4)))
def Is(s:Sm):List Int:=(List.range 32).map (RM (om s (OZ s.2.2.1)).1)
def iq(tag:Int)(parts:List (List Int)):List Int:=
 (Is (parts.foldl (fun s p=>om s (bS p)) (om jN [IntKind.u8.wrap tag]))).take 16
end Go.PL
namespace Go.Proofs.YtobfmplofoofkaaGreatDoor
open Go.AM Go.PL
def Em:aJ:=⟨[],[SM],fun _=>True,fun _=>jN⟩
def Uv:aJ:=⟨[SM],[Wj],fun s=>(s:Sm).2.2.1<=1000000000,fun s=>Is s⟩
def sY(l:List (List Int)):Prop:=l.length<=1000/\∀p∈l,p.length<=100000
def WB:aJ:=⟨[I,SS],[DG],fun x=>sY x.2,fun x=>iq x.1 x.2⟩
def qbw(f:FuncId)(r:Nat):List LA:=
 if Nat.beq f 124 then (bif Nat.beq r 3 then [.dF 4 5 U8,.aT 0 SM,.aT 1 Wj] else bif Nat.beq r 6 then [.slot 23 I,.dF 4 5 U8,.aT 0 SM,.aT 1 Wj] else [.slot 40 I,.aT 0 SM,.aT 1 Wj,.aT 3 Wj]) else
 if Nat.beq f 97 then [.slot 17 I,.aT 0 DG,.aT 7 SM] else
 []
def qjr(f:FuncId):Hint:=if Nat.beq f 999999995 then⟨fun _=>[],fun _=>.split,fun _=>.split,RH⟩ else if Nat.beq f 999999996 then⟨fun _=>[],fun _=>.split,fun _=>.split,fun _=>1⟩ else⟨qbw f,fun _=>.split,fun _=>.split,fun _=>0⟩
def tA5:List (FuncId×aJ):=[(123,OY)]
noncomputable def A5:Ctx:=bA bs tA5 [] qjr
def tA6:List (FuncId×aJ):=[(123,OY),(122,Em),(124,Uv),(91,nD.data)]
def qjs(f:FuncId):Hint:=if Nat.beq f 999999995 then⟨fun _=>[],fun _=>.split,fun _=>.split,RH⟩ else⟨qbw f,fun _=>.split,fun _=>.split,fun _=>0⟩
noncomputable def A6:Ctx:=bA bs tA6 [] qjs
theorem qbx:aW A5 6 122 Em ()=(([(1779033703:Int),(3144134277:Int),(1013904242:Int),(2773480762:Int),(1359893119:Int),(2600822924:Int),(528734635
 :Int),(1541459225:Int)],[(0:Int),(0:Int),(0:Int),(0:Int),(0:Int),(0:Int),(0:Int),(0:Int),(0:Int),(0:Int),(0:Int),(0:Int),(0:Int),(0:
 Int),(0:Int),(0:Int),(0:Int),(0:Int),(0:Int),(0:Int),(0:Int),(0:Int),(0:Int),(0:Int),(0:Int),(0:Int),(0:Int),(0:Int),(0:Int),(0:
 Int),(0:Int),(0:Int),(0:Int),(0:Int),(0:Int),(0:Int),(0:Int),(0:Int),(0:Int),(0:Int),(0:Int),(0:Int),(0:Int),(0:Int),(0:Int),(0:
 Int),(0:Int),(0:Int),(0:Int),(0:Int),(0:Int),(0:Int),(0:Int),(0:Int),(0:Int),(0:Int),(0:Int),(0:Int),(0:Int),(0:Int),(0:Int),(0:
 Int),(0:Int),(0:Int)],(0:Int),())=jN):=by kernel_rfl
abbrev WC:Type:=List Int×(List Int×List Int×Int×Unit)×List Int
abbrev WD:Type:=Int×List Int×(List Int×List Int×Int×Unit)×List Int
abbrev WE:Type:=Int×(List Int×List Int×Int×Unit)×List Int×List Int
theorem qjt(st bl:List Int)(n:Int):aW A5 6 124 Uv (st,bl,n,())=(LP ([(128:Int)],(st,bl,n,()),[z0,z0,z0,z0,z0,z0,z0,z0,z0,z0,z0,z0,z0,z0,z0,z0,z0,
 z0,z0,z0,z0,z0,z0,z0,z0,z0,z0,z0,z0,z0,z0,z0]) fun I μ x=>aa (IntKind.i64.wrap x.2.1.2.2.1+(ln x.1))/\j9≠z0/\SP (!decide ((IntKind.i64.wrap x.2.1.2.2.1+(ln
 x.1)).tmod j9=Uf)) (aM A5 y5 (x.1.length+y1)/\NX I μ x (x.1++[z0],x.2)) (LP (z0,x) fun I μ x=>SD (x.1<z8) (aa (z8*x.1)/\aa (Uf-z8*x.1)/\(z0<=Uf-z8*x.1
 /\Uf-z8*x.1<=j9)/\aM A5 y5 (x.2.1.length+[IntKind.u8.wrap (IntKind.u64.wrap (z8*n) / z2 ^ (Uf-z8*x.1).toNat)].length)/\aa (x.1+z1)/\NX I μ x (x.1+z1,x.2.1++
 [IntKind.u8.wrap (IntKind.u64.wrap (z8*n) / z2 ^ (Uf-z8*x.1).toNat)],x.2.2)) (True/\LP (z0,om x.2.2.1 x.2.1,x.2.2.2,[z0,z0,z0,z0,z0,z0,z0,z0,z0,z0,z0,z0,z0,z0,
 z0,z0,z0,z0,z0,z0,z0,z0,z0,z0,z0,z0,z0,z0,z0,z0,z0,z0]) fun I μ x=>SD (x.1<nj) ((z4≠z0/\aa (x.1.tdiv z4))/\(z0<=x.1.tdiv z4/\x.1.tdiv z4<z8)/\z4≠z0/\
 aa (z8*x.1.tmod z4)/\aa (z24-z8*x.1.tmod z4)/\(z0<=z24-z8*x.1.tmod z4/\z24-z8*x.1.tmod z4<=nj)/\(z0<=x.1/\x.1<nj)/\aa (x.1+z1)/\NX I μ x (x.1+z1,
 x.2.1,x.2.2.1,x.2.2.2.set x.1.toNat (IntKind.u8.wrap (x.2.1.1.getD (x.1.tdiv z4).toNat z0 / z2 ^ (z24-z8*x.1.tmod z4).toNat)))) (x.2.2.2=Is (st,bl,n,()))))):=by kernel_rfl
theorem qmS(tag:Int)(l:List (List Int)):aW A6 6 97 WB (tag,l)=(True/\True/\LP (z0,[z0,z0,z0,z0,z0,z0,z0,z0,z0,z0,z0,z0,z0,z0,z0,z0],om jN
 [IntKind.u8.wrap tag]) fun I μ x=>SD (x.1<(ln l)) ((IR x.1 l)/\(l.getD x.1.toNat eI).length<=(100000:Nat)/\True/\aa (x.1+z1)/\NX I μ x (x.1+z1,x.2.1,om x.2.2 (bS
 (l.getD x.1.toNat eI)))) (x.2.2.2.2.1<=(1000000000:Int)/\(z0<=z0/\z0<=uR/\uR<=nj/\z0<nj)/\uR<=uR/\List.take qg (List.drop y0 (Is x.2.2))=iq tag l)):=by
 kernel_rfl
end Go.Proofs.YtobfmplofoofkaaGreatDoor
