import Derived.Test.YtobfmplofoofkaaGreatDoorKz2
import Derived.MapKept
set_option linter.unusedSimpArgs false
set_option linter.unusedVariables false
namespace Go.AM
open Go.RowKit
variable {B:Nat->Prop} {w0:World} {C:Ctx} {Ψ:Pr} {β:List Value} {h:List aB} {w:World} {fr:List AV} {a:Act}
theorem mT{t tid:TypeId}{sz:Nat}(he:elemOf C t=some tid)(hs:C.size tid=some sz){ad:Addr}{len cap:Nat}{k:IntKind}{i:Int}(h0:0<=i)(h1:i<len):
 (Instr.indexAt t (.slice (some ad) len cap) (.int k i)).run C.P w= .ok (.pointer (some (ad.add (i.toNat*sz)))) w:=by
 simp[Instr.indexAt,run_underlying (cO he),asIntOf,h0,h1,run_sizeOf hs]
theorem lp{t et:TypeId}{n sz:Nat}(ha:arrayOf C t=some (n,et))(hs:C.size et=some sz){ad:Addr}{k:IntKind}{i:Int}(h0:0<=i)(h1:i<n):
 (Instr.indexAt t (.pointer (some ad)) (.int k i)).run C.P w= .ok (.pointer (some (ad.add (i.toNat*sz)))) w:=by
 simp[Instr.indexAt,run_underlying (lg ha),asIntOf,Instr.sureAddr,h0,h1,run_sizeOf hs]
theorem Vq:∀n∈gA,(0:Int)<=n/\n<=4294967295:=by decide+kernel
theorem Vr:gA.length=64:=by decide+kernel
theorem NL{t:TypeId}{av:AV}{v:Value}{k:IntKind}{i:Int}{r:Out}(xK:Gl C.P Ψ)(hx:aE Ψ β av v)(hr:vr C h t av i=some r)(hp:∀p,r.need=some p->p):
 r.heap=h/\r.kill=none/\dP C Ψ β w (Instr.indexAt t v (.int k i)) r.v:=by
 unfold vr at hr;split at hr
 ·rename_i n et ha;split at hr
  ·rename_i sz hs;split at hr
   ·rename_i k' off;cases hd:(C.zb t&&Nat.beq sz 1) with
    |true=>
     rw[hd,cond_true]at hr;simp only[Wac,Wag]at hd;obtain⟨_,rfl⟩:=hd;have:=bG hr;subst this
     obtain⟨h0,h1⟩:(0:Int)<=i/\i<(n:Int):=hp _ rfl
     obtain⟨g,bV,rfl⟩:=hx;refine⟨rfl,rfl,dP.aO (v:=.pointer (some ⟨g,off+i.toNat,none⟩)) ?_ ⟨g,bV,h0,h1,rfl⟩⟩
     rw[lp ha hs h0 h1,Addr.add_lit,WaS]
    |false=>
     rw[hd,cond_false]at hr;have:=bG hr;subst this
     obtain⟨h0,h1⟩:(0:Int)<=i/\i<(n:Int):=hp _ rfl
     obtain⟨g,bV,rfl⟩:=hx;refine⟨rfl,rfl,dP.aO (v:=.pointer (some ⟨g,off+i.toNat*sz,none⟩)) ?_ ⟨g,bV,rfl⟩⟩
     rw[lp ha hs h0 h1,Addr.add_lit]
   ·rename_i m e xs;split at hr
    ·rename_i hc;simp only[Wac,Wag]at hc;obtain⟨hsz,rfl⟩:=hc;have:=bG hr;subst this
     obtain⟨h0,h1⟩:(0:Int)<=i/\i<(m:Int):=hp _ rfl
     obtain⟨g,off,cs,rfl,⟨hlen,hd⟩,hpr⟩:=hx;have hlt:i.toNat<xs.length:=by omega
     obtain⟨us,kN,aH⟩:=nY (aj e) _ _ hd i.toNat xs[i.toNat] (Waa hlt);have hD:xs.getD i.toNat (dflt e)=xs[i.toNat]:=by simp[Wab,Waa hlt]
     refine⟨rfl,rfl,dP.aO (v:=.pointer (some ⟨g,off+i.toNat*sz,none⟩)) ?_ ⟨g,off+i.toNat*sz,us,rfl,by rw[hD];exact kN,fun j u hj=>?_⟩⟩
     ·rw[lp ha hs h0 h1,Addr.add_lit]
     ·have:=hpr _ _ (aH j u hj)
      rw[<-hsz];rwa [<-Wa2]at this
    ·cases hr
   ·rename_i g;split at hr
    ·rename_i hc;simp only[Wac,Wag]at hc;obtain⟨⟨rfl,rfl⟩,hg⟩:=hc;have:=bG hr;subst this
     obtain⟨h0,h1⟩:(0:Int)<=i/\i<((64:Nat):Int):=hp _ rfl
     have hx:v= .pointer (some ⟨g,0,none⟩):=hx;subst hx;have hlt:i.toNat<gA.length:=by rw[Vr];omega
     have hD:gA.getD i.toNat 0=gA[i.toNat]:=by simp[Wab,Waa hlt]
     refine⟨rfl,rfl,dP.aO (v:=.pointer (some ⟨g,0+i.toNat*1,none⟩)) ?_ ⟨g,0+i.toNat*1,[.int .u32 gA[i.toNat]],rfl,by rw[hD];exact⟨rfl,Vq _ (WaJ hlt)⟩,fun j u hj=>?_⟩⟩
     ·rw[lp ha hs h0 h1,Addr.add_lit]
     ·cases j with
      |zero=>
       simp at hj
       subst hj;rw[WaO,WaS,Wbu];exact xK.1 g hg _ _ (Waa hlt)
      |succ j=>simp at hj
    ·cases hr
   ·cases hr
  ·cases hr
 ·cases hr
theorem K2{t:TypeId}{av iv:AV}{v u:Value}{r:Out}(hi:aD C.P B w0 Ψ β h w)(hx:aE Ψ β av v)(hu:aE Ψ β iv u)(hr:oP C h t av iv=some r)(hp:∀p,r.need=some p->p):
 r.heap=h/\r.kill=none/\dP C Ψ β w (Instr.indexAt t v u) r.v:=by
 unfold oP at hr;split at hr
 ·rename_i tid _ i0 he;obtain⟨i,rfl⟩:∃i:Int,i=i0:=⟨i0,rfl⟩
  obtain⟨rfl,hik⟩:=aU.1 hu;split at hr
  ·rename_i sz hs;split at hr
   ·rename_i k;split at hr
    ·rename_i tid' e xs hg;split at hr
     ·rename_i hc;have hsz:e.cells=sz:=by simpa [Wag]using hc
      have:=bG hr;subst this
      obtain⟨h0,h1⟩:(0:Int)<=i/\i<(xs.length:Int):=hp _ rfl
      have hv:β[k]?=some v:=hx.1;rcases hi.blk k _ (aC hg (by simp)) with ⟨ad,bV,rfl⟩|⟨g,cap,cur,bV,hz,hB,hh,hn,zA,hcs,hd⟩
      ·simp at h1
       omega
      ·rw[bV]at hv;simp at hv
       subst hv;refine⟨rfl,rfl,dP.aO (v:=.pointer (some ⟨g,i.toNat*sz,none⟩)) ?_ ⟨g,0,_,cap,bV,h0,h1,by rw[WaO]⟩⟩
       rw[mT he hs h0 h1,Addr.add_lit];simp
     ·cases hr
    ·cases hr
   ·rename_i k n;have:=bG hr;subst this
    obtain⟨h0,h1⟩:(0:Int)<=i/\i<(n:Int):=hp _ rfl
    obtain⟨g,bV,hn,rfl⟩:=hx;refine⟨rfl,rfl,dP.aO (v:=.pointer (some ⟨g,i.toNat*sz,none⟩)) ?_ ⟨g,bV,rfl⟩⟩
    rw[mT he hs h0 h1,Addr.add_lit];simp
   ·rename_i Vk _;split at hr
    ·rename_i e xs hl;split at hr
     ·rename_i hc;have hsz:e.cells=sz:=by simpa [Wag]using hc
      have:=bG hr;subst this
      obtain⟨h0,h1⟩:(0:Int)<=i/\i<(xs.length:Int):=hp _ rfl
      obtain⟨ad,cap,rfl,_,_,h3⟩:=nu.1 (q9 hx hl (fun k e=>Vk k e))
      have hlt:i.toNat<xs.length:=by omega
      rcases h3 with rfl|⟨cells,hd,g,off,rfl,tG⟩
      ·simp at hlt
      ·obtain⟨us,kN,aH⟩:=nY (aj e) _ _ hd i.toNat xs[i.toNat] (Waa hlt);have hD:xs.getD i.toNat (dflt e)=xs[i.toNat]:=by simp[Wab,Waa hlt]
       refine⟨rfl,rfl,dP.aO (v:=.pointer (some ⟨g,off+i.toNat*sz,none⟩)) ?_ ⟨g,off+i.toNat*sz,us,rfl,by rw[hD];exact kN,fun j u hj=>?_⟩⟩
       ·rw[mT he hs h0 h1,Addr.add_lit]
       ·have:=tG _ _ (aH j u hj)
        rw[<-hsz];rwa [<-Wa2]at this
     ·cases hr
    ·cases hr
  ·cases hr
 ·rename_i i0 he;obtain⟨rfl,_⟩:=aU.1 hu;exact NL hi.gQ hx hr hp
 ·cases hr
theorem Vs{l:List Int}(hl:∀c∈l,0<=c/\c<=255){i:Nat}(hi:i<l.length):∃b,(strOf l)[i]?=some b/\(b.toNat:Int)=l.getD i 0/\IntKind.u8.has (l.getD i 0):=by
 have hsz:i<(strOf l).size:=by rw[dU];exact hi
 have h1:l.getD i 0=l[i]:=by simp[Wab,Waa hi]
 have h2:=hl l[i] (WaJ hi);refine⟨(strOf l)[i],by simp[hsz],?_,?_⟩
 ·rw[h1];have:(strOf l)[i]=UInt8.ofNat l[i].toNat:=by
   show (strOf l).data[i]=_
   simp[strOf]
  rw[this];simp
  omega
 ·rw[h1];unfold IntKind.has;simp[IntKind.min,IntKind.max,IntKind.bits,IntKind.signed]
  omega
theorem ZV{t:TypeId}{av iv:AV}{v u:Value}{r:Out}(hx:aE Ψ β av v)(hu:aE Ψ β iv u)(hr:Qr C h t av iv=some r)(hp:∀p,r.need=some p->p):
 r.heap=h/\r.kill=none/\dP C Ψ β w (Instr.index t v u) r.v:=by
 unfold Qr at hr;split at hr
 ·rename_i s _ i0 hut;obtain⟨i,rfl⟩:∃i:Int,i=i0:=⟨i0,rfl⟩
  obtain⟨rfl,hik⟩:=aU.1 hu;obtain⟨rfl,hs,hs'⟩:=gX.1 hx;have:=bG hr;subst this
  obtain⟨h0,h1⟩:(0:Int)<=i/\i<(List.length (α:=Int) s:Int):=hp _ rfl
  obtain⟨b,hb,hbn,hk⟩:=Vs hs (i:=i.toNat) (by omega)
  refine⟨rfl,rfl,dP.aO (v:=.int .u8 (s.getD i.toNat 0)) ?_ (aU.2 ⟨rfl,hk⟩)⟩
  rw[<-hbn];simp[Instr.index,run_underlying hut,asIntOf,h0,hb]
 ·rename_i n et m e xs ki i0 hut;obtain⟨i,rfl⟩:∃i:Int,i=i0:=⟨i0,rfl⟩
  obtain⟨rfl,hik⟩:=aU.1 hu;split at hr
  ·rename_i ag sz cU;split at hr
   ·rename_i hc;simp only[Wac,Wag,beq_iff_eq]at hc;obtain⟨⟨rfl,rfl⟩,rfl⟩:=hc;have:=bG hr;subst this
    obtain⟨h0,h1⟩:(0:Int)<=i/\i<(m:Int):=hp _ rfl
    obtain⟨cs,⟨hlen,hd⟩,hv⟩:=hx;have hv:v= .agg cs.toArray:=hv;subst hv;have hlt:i.toNat<List.length (α:=e.den) xs:=by omega
    have hdr:=iJ (aj e) _ _ i.toNat hd;rw[Wa9 hlt]at hdr;obtain⟨us,rest,hsp,kN,_⟩:=hdr;have qeq:=aj e _ _ kN;have hS:(cs.drop (i.toNat*e.cells)).take e.cells=us:=by rw[hsp,<-qeq,Wb5]
    have hle:i.toNat*e.cells+e.cells<=cs.length:=by
     have h2:=congrArg List.length hsp;simp only[List.length_drop,Wad]at h2;rcases Wcr e.cells with h3|h3
     ·have:=gx (aj e) _ _ hd
      rw[h3]at this ⊢;omega
     ·omega
    have hD:List.getD xs i.toNat (dflt e)=xs[i.toNat]:=by simp[Wab,Waa hlt]
    have hrun:=Fb (w:=w) (vs:=cs) cU hle;rw[hS]at hrun;refine⟨rfl,rfl,dP.aO (v:=valOf e.isAgg us) ?_ (by rw[hD];exact jb kN rfl (fun hf=>by rw[qeq];exact (cQ cU).2.2 hf))⟩
    simp[Instr.index,run_underlying hut,asIntOf,h0,h1,run_sizeOf (cQ cU).1,hrun]
   ·cases hr
  ·cases hr
 ·cases hr
theorem QK{av:AV}{v:Value}{i:Nat}{r:Out}(hx:aE Ψ β av v)(hr:ud h av i=some r):
 r.heap=h/\r.kill=none/\r.need=none/\dP C Ψ β w (Instr.extract v i) r.v:=by
 unfold ud at hr;split at hr
 ·rename_i cs;split at hr
  ·rename_i hc;have:=aI hr;subst this
   obtain⟨vs,rfl,hl⟩:=hx;obtain⟨u,hu,bu⟩:=l6 _ _ hl i (by simp only[WaK,dw]at hc;omega)
   exact⟨rfl,rfl,rfl,dP.aO (v:=u) (by simp[Instr.extract,hu]) bu⟩
  ·cases hr
 ·cases hr
theorem sk{k:IntKind}:∀(l:List Int) (cs:List Value),gu (reads Ψ (.int k)) l cs->cs=l.map (Value.int k)/\∀c∈l,k.has c
 |[],cs,h=>by simp only[gu]at h;subst h;simp
 |x::l,cs,⟨c,vs',e,⟨hc,hk⟩,hl⟩=>by
  obtain⟨h1,h2⟩:=sk l vs' hl;subst e hc h1;refine⟨rfl,fun c hm=>?_⟩
  rcases List.mem_cons.1 hm with rfl|hm
  ·exact hk
  ·exact h2 c hm
theorem I2{c:Int}(h:IntKind.u8.has c):0<=c/\c<=255:=by
 unfold IntKind.has at h;simpa [IntKind.min,IntKind.max,IntKind.bits,IntKind.signed]using h
theorem NM{k off n:Nat}{lo hi':Int}{v:Value}{e:Ty}{xs:List e.den}(hi:aD C.P B w0 Ψ β h w)(hr:aE Ψ β (.yX k off n lo hi') v)(hl:iR h (IA h (.yX k off n lo hi'))=some ⟨e,xs⟩):
 ∃ad cap,v= .slice ad xs.length cap/\xs.length<=cap/\cap<=maxLen/\(xs=[]\/∃cells g off,gu (reads Ψ e) xs cells/\ad=some ⟨g,off,none⟩/\∀j u,cells[j]?=some u->w.cell? ⟨g,off+j,none⟩=some u):=by
 unfold IA at hl;split at hl
 ·rename_i k off n lo hi' hEq;cases hEq;split at hl
  ·rename_i u x hg;split at hl
   ·rename_i e2 ys hv;simp only[iR,Option.some.injEq,Sigma.mk.injEq]at hl;obtain⟨rfl,hl⟩:=hl;have hl:=eq_of_heq hl;subst hl;obtain⟨g,bV,h0,h1,h2,h3,rfl⟩:=hr;obtain⟨g',c,e',oY,rfl',hh,hB,hrd⟩:=vE (off:=0) (v:=.pointer (some ⟨g,0,none⟩)) hi hg ⟨g,bV,rfl⟩;have hgg:g'=g:=by simpa using rfl'.symm
    subst hgg;obtain⟨Fe,hlen,hle',hd⟩:=o3 hv hrd;have HV:=(gZ Fe).1;have k1:=ja (aj e2) _ _ (hi'.toNat-lo.toNat) (iJ (aj e2) _ _ lo.toNat hd);rw[HV,WaS,WaS]at k1;have hlL:((ys.drop lo.toNat).take (hi'.toNat-lo.toNat)).length=hi'.toNat-lo.toNat:=by simp;omega
    refine⟨some ⟨g',off+lo.toNat,none⟩,n-lo.toNat,by rw[hlL],by rw[hlL];omega,by omega,.inr ⟨_,g',off+lo.toNat,k1,rfl,fun j u hj=>?_⟩⟩
    rw[bp hh];have h5:=bM hj;rw[Was]at h5;split at h5
    ·rw[WaZ,Wcd]at h5;rw[Wa2];exact h5
    ·cases h5
   ·simp[iR]at hl
  ·simp[iR]at hl
 ·rename_i hne;exact absurd rfl (hne _ _ _ _ _)
theorem QL{src dst:TypeId}{av:AV}{v:Value}{r:Out}(hi:aD C.P B w0 Ψ β h w)(hx:aE Ψ β av v)(hr:qT C h src dst av=some r):
 r.heap=h/\r.kill=none/\r.need=none/\dP C Ψ β w (convert src dst v) r.v:=by
 unfold qT at hr;split at hr
 ·rename_i k0 k hsrc fk;split at hr
  ·rename_i j n;obtain⟨rfl,hn⟩:=aU.1 hx;have hrun:(convert src dst (.int j n)).run C.P w= .ok (.int k (k.wrap n)) w:=by
    simp[convert,run_underlying hsrc,run_underlying fk,Conv.intToInt]
   split at hr
   ·have:=aI hr;subst this
    exact⟨rfl,rfl,rfl,dP.aO (by rw[hrun,E7 hn]) (aU.2 ⟨rfl,hn⟩)⟩
   ·have:=aI hr;subst this
    exact⟨rfl,rfl,rfl,dP.aO hrun (aU.2 ⟨rfl,eG _ _⟩)⟩
  ·cases hr
 ·rename_i et hsrc fk;split at hr
  ·rename_i he;have empty:∀ad cap,(convert src dst (.slice ad 0 cap)).run C.P w= .ok (.string (strOf [])) w:=by
    intro ad cap;rw[run_convert_bytes_string w src dst et ad 0 cap hsrc he fk];cases ad with
    |none=>simp[Conv.bytesToString];rfl
    |some ad=>
     have hl:(loadCells ad 0).run C.P w= .ok (([]:List Int).map (Value.int .u8)).toArray w:=run_loadCells_list w ad [] (by simp)
     rw[run_bytesToString w ad 0 cap [] hl];rfl
   have hnil:aE Ψ β (.d .str []) (.string (strOf [])):=gX.2 ⟨rfl,by simp,by simp[maxLen]⟩
   split at hr
   ·have:=aI hr;subst this
    have hv:v= .slice none 0 0:=hx;subst hv;exact⟨rfl,rfl,rfl,dP.aO (empty none 0) hnil⟩
   ·split at hr
    ·rename_i e xs hl;split at hr
     ·rename_i ys hc;obtain⟨hee,rfl⟩:=bz hc;simp only[Ty.arr.injEq]at hee;subst hee;have:=aI hr;subst this
      obtain⟨ad,cap,rfl,h1,h2,h3⟩:=NM hi hx hl;rcases h3 with rfl|⟨cells,g,off,hd,rfl,hcell⟩
      ·exact⟨rfl,rfl,rfl,dP.aO (empty ad cap) hnil⟩
      ·obtain⟨rfl,hk⟩:=sk (Ψ:=Ψ) xs _ hd;refine⟨rfl,rfl,rfl,dP.aO (v:=.string (strOf xs)) ?_ (gX.2 ⟨rfl,fun c hc=>I2 (hk c hc),Wbj h1 h2⟩)⟩
       exact run_convert_bytes_arg w src et hsrc he g off xs.length cap xs rfl (fun i hi'=>hcell i _ (by rw[Wba,Waa hi'];simp[Wab,Waa hi'])) dst fk
     ·cases hr
    ·cases hr
   ·split at hr
    ·rename_i e xs hl;split at hr
     ·rename_i ys hc;obtain⟨hee,rfl⟩:=bz hc;simp only[Ty.arr.injEq]at hee;subst hee;have:=aI hr;subst this
      obtain⟨ad,cap,rfl,h1,h2,h3⟩:=oX hi hx hl;rcases h3 with rfl|⟨cells,g,off,hd,rfl,hcell⟩
      ·exact⟨rfl,rfl,rfl,dP.aO (empty ad cap) hnil⟩
      ·obtain⟨rfl,hk⟩:=sk (Ψ:=Ψ) xs _ hd;refine⟨rfl,rfl,rfl,dP.aO (v:=.string (strOf xs)) ?_ (gX.2 ⟨rfl,fun c hc=>I2 (hk c hc),Wbj h1 h2⟩)⟩
       exact run_convert_bytes_arg w src et hsrc he g off xs.length cap xs rfl (fun i hi'=>hcell i _ (by rw[Wba,Waa hi'];simp[Wab,Waa hi'])) dst fk
     ·cases hr
    ·cases hr
  ·cases hr
 ·cases hr
theorem QM{t:TypeId}{av:AV}{v:Value}{r:Out}(hx:aE Ψ β av v)(hr:EO C h t av=some r)(hp:∀p,r.need=some p->p):
 r.heap=h/\r.kill=none/\dP C Ψ β w (Instr.arrayAt t v) r.v:=by
 unfold EO at hr;split at hr
 ·rename_i n et ha;split at hr
  ·rename_i sz hs;split at hr
   ·cases hr
   ·rename_i k off m lo hi;split at hr
    ·rename_i hc;simp only[Wac,Wag,WaK]at hc;have:=bG hr;subst this
     have hlen:lo+(n:Int)<=hi:=hp _ rfl;obtain⟨g,bV,h1,h2,h3,h4,rfl⟩:=hx;refine⟨rfl,rfl,dP.aO (v:=.pointer (some ⟨g,off+lo.toNat,none⟩)) ?_ ⟨g,bV,rfl⟩⟩
     have:¬hi.toNat-lo.toNat<n:=by omega
     simp[Instr.arrayAt,run_underlying (lg ha),this]
    ·cases hr
   ·rename_i Vk _;split at hr
    ·rename_i e xs hl;split at hr
     ·rename_i hc;simp only[Wac,Wag,WaK]at hc;obtain⟨hsz,h1⟩:=hc;have:=bG hr;subst this
      have hlen:(n:Int)<=xs.length:=hp _ rfl;obtain⟨ad,cap,rfl,_,_,h3⟩:=nu.1 (q9 hx hl (fun k e=>Vk k e))
      rcases h3 with rfl|⟨cells,hd,g,off,rfl,hcell⟩
      ·simp at hlen;omega
      ·refine⟨rfl,rfl,dP.aO (v:=.pointer (some ⟨g,off,none⟩)) ?_ ⟨g,off,cells.take (n*e.cells),rfl,⟨by simp;omega,ja (aj e) _ _ n hd⟩,fun j u hj=>hcell j u ?_⟩⟩
       ·have:¬xs.length<n:=by omega
        simp[Instr.arrayAt,run_underlying (lg ha),this]
       ·rw[Was]at hj;split at hj
        ·exact hj
        ·cases hj
     ·cases hr
    ·cases hr
  ·cases hr
 ·cases hr
theorem NN(cs:List AV)(off:Nat)(l:List AV)(hle:off+l.length<=cs.length):setCells cs off l=cs.take off++l++cs.drop (off+l.length):=by
 induction l generalizing cs off with
 |nil=>simp[setCells]
 |cons v l ih=>
  simp only[Wae]at hle;rw[setCells,ih _ _ (by rw[D4,WaX];omega),D4]
  rw[List.take_set,List.drop_set];have h1:(cs.take (off+1)).set off v=cs.take off++[v]:=by
   rw[List.set_eq_take_append_cons_drop,if_pos (by simp;omega)]
   simp[Wb6]
  rw[h1,if_pos (by omega)]
  simp[Waj]
  congr 1
  omega
theorem wW{cs l:List AV}{vs us:List Value}{off:Nat}(hr:aL Ψ β cs vs)(hl:aL Ψ β l us)(hle:off+l.length<=cs.length):
 aL Ψ β (setCells cs off l) (vs.take off++us++vs.drop (off+us.length)):=by
 rw[NN cs off l hle];have e:=dr _ _ hl;rw[e];exact eZ _ _ _ _ (eZ _ _ _ _ (l7 _ _ _ hr) hl) (l8 _ _ _ hr)
theorem l9:∀{t:Ty} {x:t.den} {l:List AV} {cs:List Value},jH t x=some l->reads Ψ t x cs->aL Ψ β l cs
 | .pair a b,x,l,cs,hs,hr=>by
  unfold jH at hs;split at hs
  ·rename_i la ha;split at hs
   ·rename_i lb hb;simp at hs
    subst hs;obtain⟨u,v,rfl,hu,hv⟩:=hr;exact eZ _ _ _ _ (l9 ha hu) (l9 hb hv)
   ·cases hs
  ·cases hs
 | .dR a b,x,l,cs,hs,hr=>by
  unfold jH at hs;split at hs
  ·rename_i la ha;split at hs
   ·rename_i lb hb;simp only[Option.some.injEq]at hs;subst hs;obtain⟨u,s,v,rfl,hu,hv,hy⟩:=(r9 x cs).1 hr;exact eZ _ _ _ _ (l9 ha hu) ⟨s,v,rfl,⟨[s],hy,rfl⟩,l9 hb hv⟩
   ·cases hs
  ·cases hs
 | .unit,x,l,cs,hs,hr=>by
  simp only[jH,Option.some.injEq]at hs;subst hs;exact hr
 | .vec n e,x,l,cs,hs,hr=>by
  unfold jH at hs;split at hs
  ·rename_i Fe;obtain⟨h1,h2⟩:=gZ Fe;simp at hs
   subst hs;obtain⟨hlen,hd⟩:=hr;have key:∀(m i:Nat) (cs:List Value),i+m=n->gu (reads Ψ e) (List.drop i x) cs->aL Ψ β (EK e x i m) cs:=by
    intro m;induction m with
    |zero=>
     intro i cs hi hd;rw[WbY (by omega)]at hd
     exact hd
    |succ m ih=>
     intro i cs hi hd;have hlt:i<List.length x:=by omega
     rw[Wa9 hlt]at hd;obtain⟨c,vs',rfl,hc,hl⟩:=hd;have Fh:=aj e _ _ hc;rw[h1]at Fh;obtain⟨u,rfl⟩:=List.length_eq_one_iff.1 Fh;refine⟨u,vs',rfl,⟨[u],?_,by rw[h2];rfl⟩,ih (i+1) vs' (by omega) hl⟩
     have hD:List.getD x i (dflt e)=x[i]:=by simp[Wab,Waa hlt]
     rw[hD];exact hc
   exact key n 0 cs (by omega) (by simpa using hd)
  ·cases hs
 | .int k,x,l,cs,hs,hr=>by
  simp only[jH,Option.some.injEq]at hs;subst hs;obtain⟨rfl,hk⟩:=hr;exact⟨_,[],rfl,aU.2 ⟨rfl,hk⟩,rfl⟩
 | .qi,x,l,cs,hs,hr=>by
  simp only[jH,Option.some.injEq]at hs;subst hs;simp only[reads]at hr;subst hr;exact⟨_,[],rfl,⟨_,rfl,rfl⟩,rfl⟩
 | .any,x,l,cs,hs,hr=>by
  simp only[jH,Option.some.injEq]at hs;subst hs;obtain⟨v,rfl,h1⟩:=hr;exact⟨_,[],rfl,⟨[v],⟨v,rfl,h1⟩,rfl⟩,rfl⟩
 | .bool,x,l,cs,hs,hr=>by
  simp only[jH,Option.some.injEq]at hs;subst hs;simp only[reads]at hr;subst hr;exact⟨_,[],rfl,fP.2 rfl,rfl⟩
 | .str,x,l,cs,hs,hr=>by
  simp only[jH,Option.some.injEq]at hs;subst hs;obtain⟨rfl,hk⟩:=hr;exact⟨_,[],rfl,gX.2 ⟨rfl,hk⟩,rfl⟩
 | .arr e,x,l,cs,hs,hr=>by
  simp only[jH,Option.some.injEq]at hs;subst hs;obtain⟨ad,cap,rfl,hk⟩:=hr;exact⟨_,[],rfl,nu.2 ⟨ad,cap,rfl,hk⟩,rfl⟩
theorem hO(hone:∀(k:Nat) (u:Value),β[k]?=some u->u.oneCell'=true){av:AV}{v:Value}{l:List AV}(hc:bC av=some l)(hr:aE Ψ β av v):aL Ψ β l v.cells.toList/\(∀u∈v.cells.toList,u.oneCell'=true):=by
 have single:∀{av:AV} {v:Value},aE Ψ β av v->v.oneCell'=true->aL Ψ β [av] v.cells.toList/\(∀u∈v.cells.toList,u.oneCell'=true):=by
  intro av v hr h1;have hv:v.cells= #[v]:=by cases v<;>first|rfl|simp[Value.oneCell']at h1
  rw[hv];exact⟨⟨v,[],rfl,hr,rfl⟩,fun u hu=>by simp at hu;subst hu;exact h1⟩
 cases av with
 |d t x=>
  simp only[bC]at hc;obtain⟨cs,hcs,e⟩:=hr;cases ht:t.isAgg with
  |true=>
   rw[ht]at e;simp at e;subst e
   simp only[Value.cells];exact⟨l9 hc hcs,cN t _ _ hcs⟩
  |false=>
   rw[ht]at e;simp at e;subst e
   have h1:=cN t _ _ hcs v (by simp)
   have hv:v.cells= #[v]:=by cases v<;>first|rfl|simp[Value.oneCell']at h1
   rw[hv];exact⟨l9 hc hcs,fun u hu=>by simp at hu;subst hu;exact h1⟩
 |agg cs=>
  simp only[bC,cellsOf,Option.some.injEq]at hc;subst hc;obtain⟨vs,rfl,hl,h1⟩:=hr;simp only[Value.cells];exact⟨hl,h1⟩
 |bJ=>simp[bC,cellsOf]at hc
 |lO=>simp[bC,cellsOf]at hc
 |lW cs=>simp[bC,cellsOf]at hc
 |tt=>simp only[bC,cellsOf,Option.some.injEq]at hc;subst hc;have:v=_:=hr;subst this;exact single rfl rfl
 |ff=>simp only[bC,cellsOf,Option.some.injEq]at hc;subst hc;have:v=_:=hr;subst this;exact single rfl rfl
 |iX=>simp only[bC,cellsOf,Option.some.injEq]at hc;subst hc;have:v=_:=hr;subst this;exact single rfl rfl
 |nk=>simp only[bC,cellsOf,Option.some.injEq]at hc;subst hc;have:v=_:=hr;subst this;exact single rfl rfl
 |nq=>simp only[bC,cellsOf,Option.some.injEq]at hc;subst hc;have:v=_:=hr;subst this;exact single rfl rfl
 |fs e xs=>simp only[bC,cellsOf,Option.some.injEq]at hc;subst hc;have hr':=hr;obtain⟨ad,rfl,_⟩:=hr';exact single hr rfl
 |fn f cs=>simp only[bC,cellsOf,Option.some.injEq]at hc;subst hc;have hr':=hr;obtain⟨ad,rfl,_⟩:=hr';exact single hr rfl
 |xw f cs=>simp only[bC,cellsOf,Option.some.injEq]at hc;subst hc;have hr':=hr;obtain⟨ad,rfl,_⟩:=hr';exact single hr rfl
 |sv k sz lo hi=>simp only[bC,cellsOf,Option.some.injEq]at hc;subst hc;have hr':=hr;obtain⟨_,_,_,_,_,_,_,rfl⟩:=hr';exact single hr rfl
 |own k off=>simp only[bC,cellsOf,Option.some.injEq]at hc;subst hc;have hr':=hr;obtain⟨ad,_,rfl⟩:=hr';exact single hr rfl
 |tX k sz i=>simp only[bC,cellsOf,Option.some.injEq]at hc;subst hc;have hr':=hr;obtain⟨_,_,_,_,_,_,_,rfl⟩:=hr';exact single hr rfl
 |rp t x=>simp only[bC,cellsOf,Option.some.injEq]at hc;subst hc;have hr':=hr;obtain⟨_,_,_,rfl,_⟩:=hr';exact single hr rfl
 |sl k=>simp only[bC,cellsOf,Option.some.injEq]at hc;subst hc;exact single hr (hone k v hr.1)
 |qd k=>simp only[bC,cellsOf,Option.some.injEq]at hc;subst hc;exact single hr (by obtain⟨l',_,rfl⟩:=hr;rfl)
 |Ko g=>simp only[bC,cellsOf,Option.some.injEq]at hc;subst hc;have:v=_:=hr;subst this;exact single rfl rfl
 |DS k off n i=>simp only[bC,cellsOf,Option.some.injEq]at hc;subst hc;have hr':=hr;obtain⟨_,_,_,_,rfl⟩:=hr';exact single hr rfl
 |yX k off n lo hi=>simp only[bC,cellsOf,Option.some.injEq]at hc;subst hc;have hr':=hr;obtain⟨_,_,_,_,_,_,rfl⟩:=hr';exact single hr rfl
 |lI k sz i off=>simp only[bC,cellsOf,Option.some.injEq]at hc;subst hc;have hr':=hr;obtain⟨_,_,_,_,_,_,_,_,rfl⟩:=hr';exact single hr rfl
 |oM g=>
  simp only[bC,cellsOf,Option.some.injEq]at hc;subst hc;refine single hr ?_
  have hr:v=if g<0 then Value.map none else Value.map (some g.toNat):=hr
  rw[hr];split<;>rfl
 |DT k n=>simp only[bC,cellsOf,Option.some.injEq]at hc;subst hc;have hr':=hr;obtain⟨_,_,_,rfl⟩:=hr';exact single hr rfl
def Vt(cs:List Value)(off:Nat):List Value->List Value
 |[]=>cs
 |v::vs=>Vt (cs.set off v) (off+1) vs
theorem TO(cs:List Value)(off:Nat)(l:List Value)(hle:off+l.length<=cs.length):Vt cs off l=cs.take off++l++cs.drop (off+l.length):=by
 induction l generalizing cs off with
 |nil=>simp[Vt]
 |cons v l ih=>
  simp only[Wae]at hle;rw[Vt,ih _ _ (by rw[WaX];omega)]
  rw[List.take_set,List.drop_set];have h1:(cs.take (off+1)).set off v=cs.take off++[v]:=by
   rw[List.set_eq_take_append_cons_drop,if_pos (by simp;omega)]
   simp[Wb6]
  rw[h1,if_pos (by omega)]
  simp[Waj]
  congr 1
  omega
theorem Bk(off:Nat):∀(l:List Value) (n:Nat) (cells:Array Value),
 ((l.zipIdx n).foldl (fun cs (p:Value×Nat)=>cs.setIfInBounds (off+p.2) p.1) cells).toList=Vt cells.toList (off+n) l
 |[],_,_=>rfl
 |v::l,n,cells=>by
  rw[List.zipIdx_cons,WcL,Bk off l (n+1)];simp[Vt,Wa2]
def qer(Ψ:Pr)(β:List Value):List (Nat×AV)->List (Nat×Value)->Prop
 |[],ps=>ps=[]
 |(i,av)::r,ps=>∃v ps',ps=(i,v)::ps'/\aE Ψ β av v/\qer Ψ β r ps'
theorem uv:∀(l:List (Nat×Operand)) (_:∀p∈l,aE Ψ β (ev fr p.2) (a.eval p.2)),qer Ψ β (DW fr l) (l.map fun (i,x)=>(i,a.eval x))
 |[],_=>rfl
 |(i,x)::l,cI=>⟨a.eval x,_,rfl,cI (i,x) (by simp),uv l fun p hp=>cI p (by simp[hp])⟩
theorem Fi(hone:∀(k:Nat) (u:Value),β[k]?=some u->u.oneCell'=true)(place:Nat->Option (Nat×Nat)):∀(parts:List (Nat×AV)) (ps:List (Nat×Value)) (cs out:List AV) (cells:Array Value),
 ID place cs parts=some out->qer Ψ β parts ps->aL Ψ β cs cells.toList->(∀u∈cells.toList,u.oneCell'=true)->
 ∃arr,Instr.fill place cells ps=some arr/\aL Ψ β out arr.toList/\(∀u∈arr.toList,u.oneCell'=true)
 |[],ps,cs,out,cells,hf,hp,hr,h1=>by
  simp only[ID,Option.some.injEq]at hf;simp only[qer]at hp;subst hf hp;exact⟨cells,rfl,hr,h1⟩
 |(_,av)::parts,_,cs,out,cells,hf,⟨v,ps',rfl,hv,hp⟩,hr,h1=>by
  unfold ID at hf;split at hf
  ·cases hf
  ·rename_i off size uw;split at hf
   ·cases hf
   ·rename_i l hc;split at hf
    ·rename_i hb;simp only[Wac,Wag,WaK,dw]at hb;obtain⟨hb1,hb2⟩:=hb;obtain⟨hl,HX⟩:=hO hone hc hv;have hlen:=dr _ _ hl;have hcl:=dr _ _ hr;have hvs:v.cells.size=size:=by rw[<-Array.length_toList];omega
     have hcs:off+v.cells.size<=cells.size:=by rw[<-Array.length_toList (xs:=cells)];omega
     have NO:(v.cells.zipIdx.foldl (fun cs (p:Value×Nat)=>cs.setIfInBounds (off+p.2) p.1) cells).toList=cells.toList.take off++v.cells.toList++cells.toList.drop (off+v.cells.toList.length):=by
      rw[<-TO _ _ _ (by rw[Array.length_toList,Array.length_toList];exact hcs)]
      have:=Bk off v.cells.toList 0 cells
      rw[Wbu]at this;rw[<-this,<-Array.toList_zipIdx,Array.foldl_toList]
     obtain⟨arr,ha,bu,wX⟩:=Fi hone place parts ps' _ out (v.cells.zipIdx.foldl (fun cs (p:Value×Nat)=>cs.setIfInBounds (off+p.2) p.1) cells) hf hp
      (by rw[NO];exact wW hr hl (by omega))
      (by
        rw[NO];intro u hu;simp only[WbH]at hu;rcases hu with (hu|hu)|hu
        ·exact h1 u (Wa5 hu)
        ·exact HX u hu
        ·exact h1 u (Wbd hu))
     refine⟨arr,?_,bu,wX⟩
     unfold Instr.fill;simp only[uw];rw[if_neg (by simp;omega)]
     exact ha
    ·cases hf
theorem fJ{t:TypeId}{z:AV}(hz:C.zero t=some z):∃i v,C.P.info? t=some i/\i.zero=some v/\z=ofV v:=by
 unfold Ctx.zero at hz;split at hz
 ·rename_i i hi;split at hz
  ·rename_i v hv;exact⟨i,v,hi,hv,by simpa using hz.symm⟩
  ·cases hz
 ·cases hz
theorem ZW{t:TypeId}{parts:Array (Nat×Operand)}{r:Out}(hone:∀(k:Nat) (u:Value),β[k]?=some u->u.oneCell'=true)(cI:∀p∈parts.toList,aE Ψ β (ev fr p.2) (a.eval p.2))(hr:Qp C h t (DW fr parts.toList)=some r):
 r.heap=h/\r.kill=none/\r.need=none/\dP C Ψ β w (Instr.build t (parts.map fun (i,x)=>(i,a.eval x))) r.v:=by
 unfold Qp at hr;split at hr
 ·rename_i fs hu;split at hr
  ·rename_i zs ps hz hps;split at hr
   ·rename_i cs hf;have:=aI hr;subst this
    obtain⟨i,z,hi,Ib,hzv⟩:=fJ hz;have hzr:aE Ψ β (.agg zs) z:=by rw[hzv];exact iU z
    obtain⟨vs,rfl,hl,h1⟩:=hzr;obtain⟨arr,ha,bu,xJ⟩:=Fi hone _ _ _ _ _ vs.toArray hf (uv parts.toList cI) (by simpa using hl) (by simpa using h1)
    have hb:C.P.built t (parts.map fun (i,x)=>(i,a.eval x)).toList=some arr:=by
     unfold Program.built;simp only[hi,hu,Ib];unfold placesOf at hps;simp only[hps];simpa [Value.cells]using ha
    refine⟨rfl,rfl,rfl,dP.aO (run_build w t _ arr hb) ⟨arr.toList,by simp,bu,xJ⟩⟩
   ·cases hr
  ·cases hr
 ·rename_i n et hu;split at hr
  ·rename_i zs sz hz hs;split at hr
   ·rename_i cs hf;have:=aI hr;subst this
    obtain⟨i,z,hi,Ib,hzv⟩:=fJ hz;obtain⟨ie,hie,hsz⟩:=zy hs;have hzr:aE Ψ β (.agg zs) z:=by rw[hzv];exact iU z
    obtain⟨vs,rfl,hl,h1⟩:=hzr;obtain⟨arr,ha,bu,xJ⟩:=Fi hone _ _ _ _ _ vs.toArray hf (uv parts.toList cI) (by simpa using hl) (by simpa using h1)
    have hb:C.P.built t (parts.map fun (i,x)=>(i,a.eval x)).toList=some arr:=by
     unfold Program.built;simp only[hi,hu,Ib,hie,hsz];simpa [Value.cells]using ha
    refine⟨rfl,rfl,rfl,dP.aO (run_build w t _ arr hb) ⟨arr.toList,by simp,bu,xJ⟩⟩
   ·cases hr
  ·cases hr
 ·cases hr
theorem Step.alloc(Ψ:Pr)(w:World)(c:Array Value)(t:TypeId)(ax:Pr)(hle:bW Ψ ax)(hnew:∀ad v,ax ad=some v->Ψ ad=some v\/(ad.block=w.heap.size/\ad.spot=none/\c[ad.off]?=some v)):
 Step Ψ w ax (w.alloc (.cells c t)) where
 below:=(Below.refl _ _).alloc (Wan _) _
 le:=hle
 new:=fun ad v hv=>(hnew ad v hv).imp id fun ⟨h1,h2,h3⟩=>⟨by omega,h2,by
  obtain⟨b,o,s⟩:=ad;simp only at h1 h2 h3
  subst h1 h2;rw[World.cell?_alloc_new]
  exact h3⟩
def dV(Ψ:Pr)(n:Nat)(c:List Value):Pr:=fun ad=>if ad.block=n/\ad.spot=none then c[ad.off]? else Ψ ad
theorem zF{Ψ:Pr}{w:World}{c:List Value}(hp:∀ad v,Ψ ad=some v->Pm w ad v):bW Ψ (dV Ψ w.heap.size c):=by
 intro ad v hv;unfold dV;rw[if_neg]
 ·exact hv
 ·rintro⟨hb,_⟩
  have:=qm (hp ad v hv)
  omega
theorem sq{Ψ:Pr}{n:Nat}{c:List Value}(i:Nat):dV Ψ n c ⟨n,i,none⟩=c[i]?:=by simp[dV]
theorem step_block(hi:aD C.P B w0 Ψ β h w)(c:List Value)(t:TypeId):Step Ψ w (dV Ψ w.heap.size c) (w.alloc (.cells c.toArray t)):=
 Step.alloc Ψ w c.toArray t _ (zF hi.prom) fun ad v hv=>by
  unfold dV at hv;split at hv
  ·rename_i hc;exact .inr ⟨hc.1,hc.2,by simpa using hv⟩
  ·exact .inl hv
theorem rj{t:Ty}{x:t.den}{v:Value}(hr:rv Ψ t x v):reads Ψ t x v.cells.toList:=by
 obtain⟨cs,hc,e⟩:=hr;cases ht:t.isAgg with
 |true=>rw[ht]at e;simp at e;subst e;simpa [Value.cells]using hc
 |false=>
  rw[ht]at e;simp at e;subst e
  have h1:=cN t _ _ hc v (by simp)
  have hv:v.cells= #[v]:=by cases v<;>first|rfl|simp[Value.oneCell']at h1
  rw[hv];exact hc
theorem Fj{e:Ty}:∀(xs:List e.den) (vs:List Value) (n:Nat) (parts:List (Nat×Value)) (cells:Array Value),parts.map (·.2)=vs->parts.map (·.1)=List.range' n vs.length->
 xs.length=vs.length->(∀(i:Nat) (x:e.den) (v:Value),xs[i]?=some x->vs[i]?=some v->rv Ψ e x v)->(n+vs.length)*e.cells<=cells.size->
 ∃arr us,Instr.fill (fun i=>some (i*e.cells,e.cells)) cells parts=some arr/\gu (reads Ψ e) xs us/\arr.toList=cells.toList.take (n*e.cells)++us++cells.toList.drop (n*e.cells+us.length)/\us=(vs.map fun v=>v.cells.toList).flatten
 |[],[],n,parts,cells,hp,_,_,_,_=>by
  have:parts=[]:=by simpa using hp
  subst this;exact⟨cells,[],rfl,rfl,by simp,rfl⟩
 |x::xs,v::vs,n,parts,cells,hp,hn,hl,vD,hsz=>by
  match parts,hp with
  |(i,v')::parts,Vu=>
  simp only[Wat,List.cons.injEq]at Vu;obtain⟨rfl,Vu⟩:=Vu;simp only[Wat,Wae,List.range'_succ,List.cons.injEq]at hn;obtain⟨rfl,hn⟩:=hn;have hr:=rj (vD 0 x v' rfl rfl);have hlen:=aj e _ _ hr;have hvs:v'.cells.size=e.cells:=by rw[<-hlen,Array.length_toList]
  simp only[Wae]at hsz;have qia:i*e.cells+v'.cells.size<=cells.size:=by
   rw[hvs];have:(i+1)*e.cells<=(i+(vs.length+1))*e.cells:=WaD _ (by omega)
   rw[WbA]at this;omega
  have NO:(v'.cells.zipIdx.foldl (fun cs (p:Value×Nat)=>cs.setIfInBounds (i*e.cells+p.2) p.1) cells).toList=cells.toList.take (i*e.cells)++v'.cells.toList++cells.toList.drop (i*e.cells+v'.cells.toList.length):=by
   rw[<-TO _ _ _ (by rw[Array.length_toList,Array.length_toList];exact qia)]
   have:=Bk (i*e.cells) v'.cells.toList 0 cells
   rw[Wbu]at this;rw[<-this,<-Array.toList_zipIdx,Array.foldl_toList]
  have hsize:(v'.cells.zipIdx.foldl (fun cs (p:Value×Nat)=>cs.setIfInBounds (i*e.cells+p.2) p.1) cells).size=cells.size:=by
   rw[<-Array.length_toList,NO];simp
   omega
  obtain⟨arr,us,h1,h2,h3,kN⟩:=Fj xs vs (i+1) parts _ Vu hn (by simpa using hl) (fun j x v hx hv=>vD (j+1) x v (by simpa using hx) (by simpa using hv)) (by rw[hsize];rw[show i+1+vs.length=i+(vs.length+1) by omega];exact hsz)
  refine⟨arr,v'.cells.toList++us,?_,⟨_,us,rfl,hr,h2⟩,?_,by rw[kN];rfl⟩
  ·unfold Instr.fill;simp only[];rw[if_neg (by simp[hvs];omega)]
   exact h1
  ·rw[h3,NO];have e1:(i+1)*e.cells=i*e.cells+v'.cells.toList.length:=by rw[WbA,hlen]
   have ht:(cells.toList.take (i*e.cells)).length=i*e.cells:=by simp;omega
   rw[e1,Waj (cells.toList.take (i*e.cells)) v'.cells.toList];have k1:(cells.toList.take (i*e.cells)++(v'.cells.toList++cells.toList.drop (i*e.cells+v'.cells.toList.length))).take (i*e.cells+v'.cells.toList.length)=cells.toList.take (i*e.cells)++v'.cells.toList:=by
    conv=>lhs;arg 1;rw[<-ht]
    rw[fO];simp
   have k2:(cells.toList.take (i*e.cells)++(v'.cells.toList++cells.toList.drop (i*e.cells+v'.cells.toList.length))).drop (i*e.cells+v'.cells.toList.length+us.length)=cells.toList.drop (i*e.cells+(v'.cells.toList++us).length):=by
    conv=>lhs;arg 1;rw[<-ht]
    rw[Wa2,eD,eD,List.drop_drop,Wad];congr 1
    omega
   rw[k1,k2];simp[Waj]
theorem CF{e:Ty}:∀{dN:List AV} {vs:List Value} {xs:List e.den},partsOf e h dN=some xs->aL Ψ β dN vs->cS dN=[]->xs.length=vs.length/\∀(i:Nat) (x:e.den) (v:Value),xs[i]?=some x->vs[i]?=some v->rv Ψ e x v
 |[],vs,xs,hp,hr,_=>by
  simp only[partsOf,Option.some.injEq]at hp;simp only[aL]at hr;subst hp hr;exact⟨rfl,fun i x v hx=>by simp at hx⟩
 |av::dN,vs,xs,hp,hr,hn=>by
  obtain⟨v,vs',rfl,hv,hl⟩:=hr;unfold partsOf at hp;split at hp
  ·rename_i y hy;split at hp
   ·rename_i ys hys;simp at hp
    subst hp;simp only[cS,List.append_eq_nil_iff]at hn;obtain⟨h1,h2⟩:=CF hys hl hn.2;refine⟨by simp[h1],fun i x u hx hu=>?_⟩
    cases i with
    |zero=>
     simp at hx hu
     subst hx hu;exact ku (bW.refl _) hy hv (by rw[hn.1];exact cc.nil)
    |succ i=>exact h2 i x u (by simpa using hx) (by simpa using hu)
   ·cases hp
  ·cases hp
theorem ia:∀(l:List Operand) (_:∀x∈l,aE Ψ β (ev fr x) (a.eval x)),aL Ψ β (tw fr l) (l.map a.eval)
 |[],_=>rfl
 |x::l,cI=>⟨a.eval x,_,rfl,cI x (by simp),ia l fun y hy=>cI y (by simp[hy])⟩
theorem mc(l:List (Nat×Operand)):seconds l=l.map (·.2):=by
 induction l with
 |nil=>rfl
 |cons p l ih=>obtain⟨i,o⟩:=p;simp[seconds,ih]
theorem xL:∀(n:Nat) (l:List (Nat×Operand)),ze n l=true->l.map (·.1)=List.range' n l.length
 |_,[],_=>rfl
 |n,(i,o)::l,h=>by
  simp only[ze,Wac,Wag]at h;simp[List.range'_succ,h.1,xL (n+1) l h.2]
theorem gD{l:List AV}(h:gB l=true):cS l=[]:=by
 unfold gB at h;split at h
 ·assumption
 ·cases h
theorem lq{t:TypeId}{len:Nat}{parts:Array (Nat×Operand)}{r:Out}(hi:aD C.P B w0 Ψ β h w)(cI:∀p∈parts.toList,aE Ψ β (ev fr p.2) (a.eval p.2))(hr:iY C h t len parts.toList (tw fr (seconds parts.toList))=some r):
 ∃(e:Ty) (xs:List e.den) (us:List Value) (tid:TypeId),r=⟨none,.fs e xs,h,none⟩/\elemOf C t=some tid/\(∀w:World,(Instr.buildSlice t len (parts.map fun (i,x)=>(i,a.eval x))).run C.P w= .ok (.slice (some ⟨w.heap.size,0,none⟩) len len) (w.alloc (.cells us.toArray tid)))/\
  gu (reads Ψ e) xs us/\xs.length=len/\us.length=len*e.cells/\len<=maxLen:=by
 unfold iY at hr;split at hr
 ·rename_i tid he;split at hr
  ·rename_i e sz hty hsz;split at hr
   ·rename_i hc;simp only[Wac,Wag,WaK,dw]at hc;obtain⟨⟨⟨⟨⟨hec,qib⟩,hlen⟩,hbd⟩,qlC⟩,tW⟩:=hc;subst hec;split at hr
    ·rename_i xs z hxs hz;have:=aI hr;subst this
     obtain⟨i,zv,hi',Ib,_⟩:=fJ hz;have bu:=ia (Ψ:=Ψ) (β:=β) (fr:=fr) (a:=a) (seconds parts.toList) (fun x hx=>by
      rw[mc]at hx;obtain⟨p,hp,rfl⟩:=List.mem_map.1 hx;exact cI p hp)
     obtain⟨Ic,hxr⟩:=CF hxs bu (gD tW);have hvl:((seconds parts.toList).map a.eval).length=len:=by rw[dr _ _ bu];exact hlen
     have uw:parts.toList.length=len:=by rw[<-hvl,mc];simp
     have qlD:∀cells:Array Value,cells.size=len*e.cells->∃arr us,Instr.fill (fun i=>some (i*e.cells,e.cells)) cells (parts.toList.map fun (i,x)=>(i,a.eval x))=some arr/\gu (reads Ψ e) xs us/\arr.toList=us:=by
      intro cells hcs;obtain⟨arr,us,h1,h2,h3,_⟩:=Fj (Ψ:=Ψ) xs ((seconds parts.toList).map a.eval) 0 (parts.toList.map fun (i,x)=>(i,a.eval x)) cells (by rw[mc];simp[Wb2]) (by
       have:=xL 0 _ qib
       rw[hvl,<-uw,<-this];simp[Wb2]) Ic hxr (by rw[hvl,hcs];simp)
      refine⟨arr,us,h1,h2,?_⟩
      rw[h3];have AQ:=gx (aj e) _ _ h2;rw[Ic,hvl]at AQ;rw[Wbx (by rw[Array.length_toList];omega)]
      simp
     have HY:¬(len*e.cells>2 ^ 24):=by omega
     obtain⟨arr,us,h1,h2,h3⟩:=qlD ((Array.range (len*e.cells)).map ((if len*e.cells=0 then #[] else zv.cells)[· % (if len*e.cells=0 then #[] else zv.cells).size]!)) (by simp)
     have hrun:∀w:World,(Instr.buildSlice t len (parts.map fun (i,x)=>(i,a.eval x))).run C.P w= .ok (.slice (some ⟨w.heap.size,0,none⟩) len len) (w.alloc (.cells us.toArray tid)):=by
      intro w;have mU:arr=us.toArray:=by rw[<-h3]
      subst mU;by_cases h0:len*e.cells=0
      ·simp only[if_pos h0]at h1;simp[Instr.buildSlice,run_underlying (cO he),run_sizeOf hsz,h0,newRow]
       rw[h0]at h1;have hz0:∀f:Nat->Value,(Array.range 0).map f= #[]:=by intro f;simp[Array.range_zero']
       rw[hz0]at h1 ⊢;rw[h1];simp
      ·simp only[if_neg h0]at h1;have qic:¬(16777216<len*e.cells):=by omega
       simp[Instr.buildSlice,run_underlying (cO he),run_sizeOf hsz,h0,newRow,zeroValue,typeInfo,hi',Ib,qic]
       rw[h1];simp
     have kN:=gx (aj e) _ _ h2;exact⟨e,xs,us,tid,rfl,he,hrun,h2,by rw[Ic,hvl],by rw[kN,Ic,hvl],by simp only[maxLen];omega⟩
    ·cases hr
   ·cases hr
  ·cases hr
 ·cases hr
theorem Ie{t:TypeId}{len:Nat}{parts:Array (Nat×Operand)}{r:Out}(hi:aD C.P B w0 Ψ β h w)(cI:∀p∈parts.toList,aE Ψ β (ev fr p.2) (a.eval p.2))(hr:iY C h t len parts.toList (tw fr (seconds parts.toList))=some r):
 r.heap=h/\r.kill=none/\r.need=none/\dP C Ψ β w (Instr.buildSlice t len (parts.map fun (i,x)=>(i,a.eval x))) r.v:=by
 obtain⟨e,xs,us,tid,rfl,he,hrun,h2,Ic,kN,hle⟩:=lq hi cI hr;refine⟨rfl,rfl,rfl,_,_,_,hrun w,step_block hi us tid,⟨_,by rw[Ic],?_⟩⟩
 exact nu (β:=β).2 ⟨_,_,by rw[Ic],by rw[Ic];exact Wan _,hle,.inr ⟨us,eS (aR (zF hi.prom) e) _ _ h2,w.heap.size,0,rfl,fun j u hj=>by rw[sq,WaO];exact hj⟩⟩
theorem I3:∀(us:List Value),(∀u∈us,u.oneCell'=true)->gu (reads Ψ .any) (List.replicate us.length ()) us
 |[],_=>rfl
 |u::us,h=>⟨[u],us,rfl,⟨u,rfl,h u (Waq ..)⟩,I3 us fun v hv=>h v (Wal _ hv)⟩
theorem wY{sz:Nat}:∀{dN:List AV} {vs:List Value} {cs:List AV},lX dN sz=some cs->aL Ψ β dN vs->
 aL Ψ β cs ((vs.map fun v=>v.cells.toList).flatten)/\(∀u∈(vs.map fun v=>v.cells.toList).flatten,u.oneCell'=true)/\∀v∈vs,rv Ψ (.vec sz .any) (List.replicate sz ()) v
 |[],vs,cs,hp,hr=>by
  simp only[lX,Option.some.injEq]at hp;simp only[aL]at hr;subst hp hr;exact⟨rfl,by simp,by simp⟩
 |av::dN,vs,cs,hp,hr=>by
  obtain⟨v,vs',rfl,hv,hl⟩:=hr;have qep:∃l m,av= .agg l/\lX dN sz=some m/\l.length=sz/\cs=l++m:=by
   cases av<;>simp only[lX,reduceCtorEq]at hp
   rename_i l;cases hm:lX dN sz with
   |none=>rw[hm]at hp;cases hp
   |some m=>
    rw[hm]at hp;simp only at hp
    split at hp
    ·rename_i hsz;simp only[Option.some.injEq]at hp;exact⟨l,m,rfl,rfl,by rw[<-dw];simpa [Wag]using hsz,hp.symm⟩
    ·cases hp
  obtain⟨l,m,rfl,hm,hsz,rfl⟩:=qep;obtain⟨k1,k2,k3⟩:=wY hm hl;obtain⟨us,rfl,bu,h1⟩:=hv;have AQ:=dr _ _ bu;refine⟨?_,?_,?_⟩
  ·simp only[Wat,WcC,Value.cells,Wcj];exact eZ _ _ _ _ bu k1
  ·simp only[Wat,WcC,Value.cells,Wcj];intro u hu;rcases List.mem_append.1 hu with hu|hu
   ·exact h1 u hu
   ·exact k2 u hu
  ·intro v hv;rcases List.mem_cons.1 hv with rfl|hv
   ·have hrd:=I3 (Ψ:=Ψ) us h1;rw[AQ,hsz]at hrd;exact⟨us,⟨by simp,hrd⟩,rfl⟩
   ·exact k3 v hv
theorem ZX{t:TypeId}{len:Nat}{parts:Array (Nat×Operand)}{r:Out}(cI:∀p∈parts.toList,aE Ψ β (ev fr p.2) (a.eval p.2))(hr:qhQ C h t len parts.toList (tw fr (seconds parts.toList))=some r):
 ∃(cs:List AV) (us:List Value) (tid:TypeId),r=⟨none,.DT (hlen h) len,h++[.cells cs],none⟩/\(Instr.buildSlice t len (parts.map fun (i,x)=>(i,a.eval x))).run C.P w= .ok (.slice (some ⟨w.heap.size,0,none⟩) len len) (w.alloc (.cells us.toArray tid))/\
  aL Ψ β cs us/\(∀u∈us,u.oneCell'=true)/\len<=16777216:=by
 unfold qhQ at hr;split at hr
 ·rename_i tid he;split at hr
  ·rename_i sz z hsz hz;split at hr
   ·rename_i hc;simp only[Wac,Wag,WaK,dw]at hc;obtain⟨⟨⟨⟨⟨qib,hlen⟩,hbd⟩,qlC⟩,HX⟩,NH⟩:=hc;split at hr
    ·rename_i cs hcs;simp only[Option.some.injEq]at hr;subst hr;obtain⟨i,zv,hi',Ib,_⟩:=fJ hz;have bu:=ia (Ψ:=Ψ) (β:=β) (fr:=fr) (a:=a) (seconds parts.toList) (fun x hx=>by
      rw[mc]at hx;obtain⟨p,hp,rfl⟩:=List.mem_map.1 hx;exact cI p hp)
     obtain⟨k1,k2,k3⟩:=wY hcs bu;have hvl:((seconds parts.toList).map a.eval).length=len:=by rw[dr _ _ bu];exact hlen
     have uw:parts.toList.length=len:=by rw[<-hvl,mc];simp
     have hec:(Ty.vec sz .any).cells=sz:=by simp[Ty.cells]
     obtain⟨arr,us,h1,h2,h3,kN⟩:=Fj (Ψ:=Ψ) (e:=.vec sz .any) (List.replicate len (List.replicate sz ())) ((seconds parts.toList).map a.eval) 0 (parts.toList.map fun (i,x)=>(i,a.eval x))
      ((Array.range (len*sz)).map (zv.cells[· % zv.cells.size]!)) (by rw[mc];simp[Wb2]) (by
        have:=xL 0 _ qib
        rw[hvl,<-uw,<-this];simp[Wb2]) (by simp[hvl]) (fun i x v hx hv=>by
        have hxe:x=List.replicate sz ():=Wcs (WaE hx);rw[hxe];exact k3 v (WaE hv)) (by rw[hvl,hec];simp)
     rw[hec]at h1 h3;have AQ:us.length=len*sz:=by
      have:=gx (aj (Ψ:=Ψ) (.vec sz .any)) _ _ h2
      rw[hec]at this;simpa using this
     have mU:arr=us.toArray:=by
      apply Wb4
      rw[h3];rw[Wbx (by simp;omega)]
      simp
     subst mU;refine⟨cs,us,tid,rfl,?_,by rw[kN];exact k1,by rw[kN];exact k2,qlC⟩
     have h0:¬(len*sz=0):=by
      have:=Wcx HX NH
      omega
     have qic:¬(16777216<len*sz):=by omega
     simp[Instr.buildSlice,run_underlying (cO he),run_sizeOf hsz,h0,newRow,zeroValue,typeInfo,hi',Ib,qic]
     rw[h1];simp
    ·cases hr
   ·cases hr
  ·cases hr
 ·cases hr
end Go.AM
namespace Go.AM
open Go.RowKit
variable {B:Nat->Prop} {w0:World} {C:Ctx} {Ψ:Pr} {β:List Value} {h:List aB} {w:World} {fr:List AV} {a:Act}
def NOp(C:Ctx)(Ψ:Pr)(β:List Value)(w:World)(s:Sem Next)(av:AV):Prop:=
 ∃v ax w',s.run C.P w= .ok (.value v) w'/\Step Ψ w ax w'/\aE ax β av v
theorem dP.op{s:Sem Value}{av:AV}(hk:dP C Ψ β w s av):NOp C Ψ β w (do pure (.value (<-s))) av:=by
 obtain⟨v,ax,w',h1,h2,h3⟩:=hk;exact⟨v,ax,w',by simp[h1],h2,h3⟩
theorem qes{av bv cv:AV}{u v c:Value}{r:Out}(hc:aE Ψ β cv c)(hx:aE Ψ β av u)(hy:aE Ψ β bv v)(hr:Y8 h cv av bv=some r):
 r.heap=h/\r.kill=none/\NOp C Ψ β w (do pure (.value (if<-asBool c then u else v))) r.v:=by
 unfold Y8 at hr;split at hr
 ·have:=aI hr;subst this
  have:c= .bool true:=hc
  subst this;exact⟨rfl,rfl,u,Ψ,w,by simp[asBool],Step.refl _ _,hx⟩
 ·have:=aI hr;subst this
  have:c= .bool false:=hc
  subst this;exact⟨rfl,rfl,v,Ψ,w,by simp[asBool],Step.refl _ _,hy⟩
 ·rename_i x;rw[fP.1 hc];split at hr
  ·rename_i y z hy' Fk;have e1:=oy hx hy';have e2:=oy hy Fk
   subst e1 e2;have:=aI hr;subst this
   refine⟨rfl,rfl,.bool (bif x then y else z),Ψ,w,?_,Step.refl _ _,dx _⟩
   cases x<;>simp[asBool]
  ·cases hr
 ·cases hr
theorem ZY{av:AV}{v:Value}{r:Out}(hx:aE Ψ β av v)(hr:qhR h av=some r):r.heap=h/\r.kill=none/\r.need=none/\aE Ψ β r.v v/\∃ad,v= .pointer (some ad):=by
 unfold qhR at hr;split at hr
 ·have:=aI hr;subst this
  have hx':=hx;obtain⟨g,_,rfl⟩:=hx';exact⟨rfl,rfl,rfl,hx,_,rfl⟩
 ·have:=aI hr;subst this
  have hx':=hx;obtain⟨g,off,cs,rfl,_⟩:=hx';exact⟨rfl,rfl,rfl,hx,_,rfl⟩
 ·have:=aI hr;subst this
  have hx':=hx;obtain⟨g,o,n,c,_,_,_,rfl⟩:=hx';exact⟨rfl,rfl,rfl,hx,_,rfl⟩
 ·have:=aI hr;subst this
  have hx':=hx;obtain⟨g,_,_,_,rfl⟩:=hx';exact⟨rfl,rfl,rfl,hx,_,rfl⟩
 ·have:=aI hr;subst this
  have hx':=hx;obtain⟨g,o,n,c,_,_,_,_,rfl⟩:=hx';exact⟨rfl,rfl,rfl,hx,_,rfl⟩
 ·cases hr
theorem rm{α β:Type}(f:α->β)(xs:Array α):xs.map f=(xs.toList.map f).toArray:=by
 apply Wb4;simp
theorem Fl{ts:Array TypeId}{ty:TypeId}{args:Array Operand}{r:Out}(hi:aD C.P B w0 Ψ β h w)(cI:∀x∈args.toList,aE Ψ β (ev fr x) (a.eval x))
 (hr:ld C h .len ts.toList (tw fr args.toList)=some r) (hp:∀p,r.need=some p->p):r.heap=h/\r.kill=none/\dP C Ψ β w (Builtin.len_ ts ty (args.map a.eval)) r.v:=by
 have bu:=ia (Ψ:=Ψ) (β:=β) args.toList cI;rw[rm];generalize tw fr args.toList=l at*
 generalize args.toList.map a.eval=vs at*
 unfold ld at hr;split at hr<;>first|(rename_i hb;cases hb;done)|skip
 ·rename_i x hb;obtain⟨v,vs',rfl,hv,hl⟩:=bu;simp only[aL]at hl;subst hl;split at hr
  ·rename_i t ht;have hts:ts= #[t]:=by rw[<-Wbl (xs:=ts),ht]
   subst hts;exact qh6 hi hv hr hp
  ·cases hr
 ·cases hr
theorem Fm{ts:Array TypeId}{ty:TypeId}{args:Array Operand}{r:Out}(cI:∀x∈args.toList,aE Ψ β (ev fr x) (a.eval x))
 (hr:ld C h .min ts.toList (tw fr args.toList)=some r) (_hp:∀p,r.need=some p->p):r.heap=h/\r.kill=none/\dP C Ψ β w (Builtin.min_ ts ty (args.map a.eval)) r.v:=by
 have bu:=ia (Ψ:=Ψ) (β:=β) args.toList cI;rw[rm];generalize tw fr args.toList=l at*
 generalize args.toList.map a.eval=vs at*
 unfold ld at hr;split at hr<;>first|(rename_i hb;cases hb;done)|skip
 ·rename_i kd n l' hb;obtain⟨v,vs',rfl,hv,hl⟩:=bu;obtain⟨rfl,hn⟩:=aU.1 hv;split at hr
  ·rename_i m hm;have:=aI hr;subst this
   obtain⟨h1,h2⟩:=E9 (C:=C) (w:=w) _ _ _ _ hm hl hn;exact⟨rfl,rfl,dP.aO (by simpa [Builtin.min_]using h1) (aU.2 ⟨rfl,h2⟩)⟩
  ·cases hr
 ·cases hr
theorem Fo{ts:Array TypeId}{ty:TypeId}{args:Array Operand}{r:Out}(cI:∀x∈args.toList,aE Ψ β (ev fr x) (a.eval x))
 (hr:ld C h .max ts.toList (tw fr args.toList)=some r) (_hp:∀p,r.need=some p->p):r.heap=h/\r.kill=none/\dP C Ψ β w (Builtin.max_ ts ty (args.map a.eval)) r.v:=by
 have bu:=ia (Ψ:=Ψ) (β:=β) args.toList cI;rw[rm];generalize tw fr args.toList=l at*
 generalize args.toList.map a.eval=vs at*
 unfold ld at hr;split at hr<;>first|(rename_i hb;cases hb;done)|skip
 ·rename_i kd n l' hb;obtain⟨v,vs',rfl,hv,hl⟩:=bu;obtain⟨rfl,hn⟩:=aU.1 hv;split at hr
  ·rename_i m hm;have:=aI hr;subst this
   obtain⟨h1,h2⟩:=Fa (C:=C) (w:=w) _ _ _ _ hm hl hn;exact⟨rfl,rfl,dP.aO (by simpa [Builtin.max_]using h1) (aU.2 ⟨rfl,h2⟩)⟩
  ·cases hr
 ·cases hr
theorem wZ{o:Oper}{r:Out}(hi:aD C.P B w0 Ψ β h w)(cI:∀x∈o.op.operands,aE Ψ β (ev fr x) (a.eval x))(hn:neutral o.op=true)
 (hr:DC C fr h o.op=some r) (hp:∀p,r.need=some p->p):r.heap=h/\r.kill=none/\NOp C Ψ β w (execOp a.eval o) r.v:=by
 obtain⟨dst,op,ty,pos,after,guard⟩:=o;simp only at cI hn hr
 cases op<;>simp only[neutral,WaG]at hn
 case move x=>
  have:=aI hr;subst this
  exact⟨rfl,rfl,_,Ψ,w,rfl,Step.refl _ _,cI x (by simp[Op.operands])⟩
 case assign x=>
  have:=aI hr;subst this
  exact⟨rfl,rfl,_,Ψ,w,rfl,Step.refl _ _,cI x (by simp[Op.operands])⟩
 case pick c x y=>
  exact qes (cI c (by simp[Op.operands])) (cI x (by simp[Op.operands])) (cI y (by simp[Op.operands])) hr
 case build t parts=>
  obtain⟨h1,h2,_,h3⟩:=ZW (C:=C) (w:=w) hi.one (fun p hp=>cI p.2 (by simp only[Op.operands,List.mem_toArray];exact Wbo hp)) hr
  exact⟨h1,h2,h3.op⟩
 case buildSlice t len parts=>
  obtain⟨h1,h2,_,h3⟩:=Ie (C:=C) hi (fun p hp=>cI p.2 (by simp only[Op.operands,List.mem_toArray];exact Wbo hp)) hr
  exact⟨h1,h2,h3.op⟩
 case load t x=>
  obtain⟨h1,h2,_,h3⟩:=D9 hi (cI x (by simp[Op.operands])) hr
  exact⟨h1,h2,h3.op⟩
 case nilCheck x=>
  obtain⟨h1,h2,_,h3,ad,h4⟩:=ZY (cI x (by simp[Op.operands])) hr
  refine⟨h1,h2,a.eval x,Ψ,w,?_,Step.refl _ _,h3⟩
  simp[execOp,h4]
 case binOp op xt x y yt=>
  simp only[DC]at hr;split at hr
  ·rename_i r' hb;simp at hr
   subst hr;obtain⟨h1,h2,_,h3⟩:=Vp (C:=C) (w:=w) (cI x (by simp[Op.operands])) (cI y (by simp[Op.operands])) hb
   exact⟨h1,h2,h3.op⟩
  obtain⟨h1,h2,h3⟩:=ZQ (C:=C) (w:=w) (x:=x) (y:=y) (cI x (by simp[Op.operands])) (cI y (by simp[Op.operands])) hr hp
  exact⟨h1,h2,h3.op⟩
 case unOp op xt x=>
  obtain⟨h1,h2,h3⟩:=qem (C:=C) (w:=w) (cI x (by simp[Op.operands])) hr hp
  exact⟨h1,h2,h3.op⟩
 case convert src dst x=>
  obtain⟨h1,h2,_,h3⟩:=QL hi (cI x (by simp[Op.operands])) hr
  exact⟨h1,h2,h3.op⟩
 case makeFunc f first caps=>
  cases f<;>simp only[DC,reduceCtorEq]at hr
  split at hr
  ·rename_i f' hf;have hf':first= #[]:=Array.eq_empty_of_size_eq_zero (by simpa [Wag]using hf)
   subst hf';have:=aI hr;subst this
   refine⟨rfl,rfl,.func (.func f') #[] (caps.map a.eval),Ψ,w,by simp[execOp,Instr.makeFunc],Step.refl _ _,caps.toList.map a.eval,by rw[rm],?_⟩
   exact ia _ fun x hx=>cI x (by simp[Op.operands];simpa using hx)
  ·rename_i f' hf;split at hr
   ·rename_i hc;have tG:caps= #[]:=Array.eq_empty_of_size_eq_zero (by simpa [Wag]using hc)
    subst tG;have:=aI hr;subst this
    refine⟨rfl,rfl,.func (.func f') (first.map a.eval) #[],Ψ,w,by simp[execOp,Instr.makeFunc],Step.refl _ _,first.toList.map a.eval,by rw[rm],?_⟩
    exact ia _ fun x hx=>cI x (by simp[Op.operands];simpa using hx)
   ·cases hr
 case sliceToArrayPointer t x=>
  obtain⟨h1,h2,h3⟩:=QM (w:=w) (cI x (by simp[Op.operands])) hr hp
  exact⟨h1,h2,h3.op⟩
 case slice t x lo hi' mx=>
  obtain⟨h1,h2,h3⟩:=ZS (w:=w) hi (cI x (by simp[Op.operands])) (vC lo fun y hy=>cI y (by simp only[Op.operands,Wbf];exact .inl (.inl (.inr hy))))
   (vC hi' fun y hy=>cI y (by simp only[Op.operands,Wbf];exact .inl (.inr hy))) (vC mx fun y hy=>cI y (by simp only[Op.operands,Wbf];exact .inr hy)) hr hp
  exact⟨h1,h2,h3.op⟩
 case fieldAddr t x f=>
  obtain⟨h1,h2,_,h3⟩:=K1 (C:=C) (w:=w) (cI x (by simp[Op.operands])) hr
  exact⟨h1,h2,h3.op⟩
 case field t x f=>
  obtain⟨h1,h2,_,h3⟩:=ZU (C:=C) (w:=w) (cI x (by simp[Op.operands])) hr
  exact⟨h1,h2,h3.op⟩
 case indexAddr t x ix=>
  obtain⟨h1,h2,h3⟩:=K2 hi (cI x (by simp[Op.operands])) (cI ix (by simp[Op.operands])) hr hp
  exact⟨h1,h2,h3.op⟩
 case index t x ix=>
  obtain⟨h1,h2,h3⟩:=ZV (C:=C) (w:=w) (cI x (by simp[Op.operands])) (cI ix (by simp[Op.operands])) hr hp
  exact⟨h1,h2,h3.op⟩
 case extract x i=>
  obtain⟨h1,h2,_,h3⟩:=QK (C:=C) (w:=w) (cI x (by simp[Op.operands])) hr
  exact⟨h1,h2,h3.op⟩
 case call c=>
  obtain⟨callee,args,ats⟩:=c;have hargs:∀x∈args.toList,aE Ψ β (ev fr x) (a.eval x):=fun x hx=>cI x (by simp only[Op.operands,Call.operands,Wbf];exact .inr (by simpa using hx))
  cases callee with
  |value f=>simp at hn
  |invoke r m=>simp at hn
  |builtin b=>
  cases b<;>first|(simp at hn;done)|skip
  case len=>
   obtain⟨h1,h2,h3⟩:=Fl (ty:=ty) hi hargs hr hp;refine⟨h1,h2,?_⟩
   obtain⟨v,ax,w',e1,e2,e3⟩:=h3;exact⟨v,ax,w',by simp[execOp,resolve,invoke,builtin,e1],e2,e3⟩
  case max=>
   obtain⟨h1,h2,h3⟩:=Fo (w:=w) (ty:=ty) hargs hr hp;refine⟨h1,h2,?_⟩
   obtain⟨v,ax,w',e1,e2,e3⟩:=h3;exact⟨v,ax,w',by simp[execOp,resolve,invoke,builtin,e1],e2,e3⟩
  case min=>
   obtain⟨h1,h2,h3⟩:=Fm (w:=w) (ty:=ty) hargs hr hp;refine⟨h1,h2,?_⟩
   obtain⟨v,ax,w',e1,e2,e3⟩:=h3;exact⟨v,ax,w',by simp[execOp,resolve,invoke,builtin,e1],e2,e3⟩
end Go.AM
namespace Go.AM
open Go.RowKit
variable {B:Nat->Prop} {w0:World} {C:Ctx} {Ψ:Pr} {β:List Value} {h:List aB} {w w':World} {fr:List AV} {a:Act}
theorem bg{α:Type}{l:List α}{x y:α}{k:Nat}(hk:(l++[x])[k]?=some y):l[k]?=some y\/(k=l.length/\y=x):=by
 rcases Wak k l.length with hlt|hge
 ·left;rwa [Wao hlt]at hk
 ·right
  rw[WaH hge]at hk;have:k-l.length=0:=by
   rcases Wcr (k-l.length) with h0|h0
   ·exact h0
   ·rw[Wai (by simp;omega)]at hk;cases hk
  rw[this]at hk;simp at hk
  exact⟨by omega,hk.symm⟩
theorem aS{l:List Value}(u:Value):∀(k:Nat) (v:Value),l[k]?=some v->(l++[u])[k]?=some v:=by
 intro k v hk;have hlt:k<l.length:=by
  rcases Wak k l.length with h'|h'
  ·exact h'
  ·rw[Wai h']at hk;cases hk
 rw[Wao hlt];exact hk
theorem vF{b:aB}{k:Nat}(u:Value)(hb:cn C.P B Ψ β w k b):cn C.P B Ψ (β++[u]) w k b:=by
 cases b with
 |gone=>trivial
 |log ys Y own xs=>exact jQ hb (fun _ h=>aS u _ _ h) (bW.refl _).m (Wan _) fun _ _=>rfl
 |kV ys Y own=>exact jR hb (fun _ h=>aS u _ _ h) (bW.refl _).m (Wan _) fun _ _=>rfl
 |cells cs=>
  obtain⟨g,c,e,h1,h2,h3,h4,h5⟩:=hb;exact⟨g,c,e,aS u _ _ h1,h2,h3,aX (bW.refl _) (aS u) _ _ h4,h5⟩
 |grow tid e xs=>
  rcases hb with ⟨ad,h1,h2⟩|⟨g,cap,cur,h1,r⟩
  ·exact .inl ⟨ad,aS u _ _ h1,h2⟩
  ·exact .inr ⟨g,cap,cur,aS u _ _ h1,r⟩
 |fH es=>
  obtain⟨g,ms,cl,h1,h2,h3,h4,h5,h6⟩:=hb;exact⟨g,ms,cl,aS u _ _ h1,h2,h3,h4,aX (bW.refl _) (aS u) _ _ h5,h6⟩
 |dmap e m=>
  obtain⟨g,ms,cl,h1,r⟩:=hb;exact⟨g,ms,cl,aS u _ _ h1,r⟩
 |eo e last left=>
  obtain⟨g,gm,ms,cl,seen,h1,r⟩:=hb;exact⟨g,gm,ms,cl,seen,aS u _ _ h1,r⟩
 |loop f p ph ts=>
  obtain⟨l,r,h1,h2,h3,h4,h5,h6⟩:=hb;exact⟨l,r,aS u _ _ h1,h2,h3,h4,aX (bW.refl _) (aS u) _ _ h5,h6⟩
 |dat t x=>
  obtain⟨g,c,e,h1,r⟩:=hb;exact⟨g,c,e,aS u _ _ h1,r⟩
 |eu n rest=>
  obtain⟨g,s,pos,h1,r⟩:=hb;exact⟨g,s,pos,aS u _ _ h1,r⟩
 |xb x=>
  obtain⟨v,h1,r⟩:=hb;exact⟨v,aS u _ _ h1,r⟩
theorem bO{b:aB}{k g:Nat}{u:Value}(hl:k<β.length)(hc:af (β++[u]) k g b):af β k g b:=by
 cases b with
 |gone=>exact hc
 |log ys Y own xs=>exact hc
 |kV ys Y own=>exact hc
 |cells cs=>
  simp only[af]at*
  rwa [Wao hl]at hc
 |grow tid e xs=>
  obtain⟨n,cap,h1,h2⟩:=hc;rw[Wao hl]at h2;exact⟨n,cap,h1,h2⟩
 |fH es=>
  simp only[af]at*
  rwa [Wao hl]at hc
 |dmap e m=>
  simp only[af]at*
  rwa [Wao hl]at hc
 |eo e last left=>
  simp only[af]at*
  rwa [Wao hl]at hc
 |loop f p ph ts=>
  simp only[af]at*
  rwa [Wao hl]at hc
 |dat t x=>
  simp only[af]at*
  rwa [Wao hl]at hc
 |eu n rest=>
  simp only[af]at*
  rwa [Wao hl]at hc
 |xb x=>
  obtain⟨v,h1,h2⟩:=hc;rw[Wao hl]at h1;exact⟨v,h1,h2⟩
theorem aD.push{b:aB}{u:Value}(hi:aD C.P B w0 Ψ β h w)(hb:Below w.heap.size w w')(hone:u.oneCell'=true)(hnew:cn C.P B Ψ (β++[u]) w' h.length b)
 (hcl:∀g,af (β++[u]) h.length g b->w.heap.size<=g):aD C.P B w0 Ψ (β++[u]) (h++[b]) w':=by
 have hi':aD C.P B w0 Ψ β h w':=hi.step ⟨hb,bW.refl _,fun _ _ h=>.inl h⟩
 have lt:∀{k:Nat} {b:aB},h[k]?=some b->k<β.length:=fun {k b} hk=>by
  rw[hi.len];rcases Wak k h.length with h'|h'
  ·exact h'
  ·rw[Wai h']at hk;cases hk
 have old:∀{k g:Nat} {b:aB},h[k]?=some b->af β k g b->g<w.heap.size:=fun hk hc=>(ct (hi.blk _ _ hk) hc).2
 refine⟨hi'.low,hi'.size,hi'.prom,hi'.own,by simp[hi.len],?_,?_,?_,?_,hi'.gQ⟩
 ·intro k v hk;rcases bg hk with h1|⟨_,rfl⟩
  ·exact hi.one k v h1
  ·exact hone
 ·intro k b' hk;rcases bg hk with h1|⟨rfl,rfl⟩
  ·exact vF u (hi'.blk k b' h1)
  ·exact hnew
 ·intro k b' g hk hc ad had hsp;rcases bg hk with h1|⟨rfl,rfl⟩
  ·exact hi'.free k b' g h1 (bO (lt h1) hc) ad had hsp
  ·cases hp:Ψ ad with
   |none=>rfl
   |some v=>
    have:=qm (hi.prom ad v hp)
    have:=hcl g hc
    omega
 ·intro j k bj bk g cY hj hk n6 hck;rcases bg hj with h1|⟨e1,rfl⟩<;>rcases bg hk with h2|⟨e2,rfl⟩
  ·exact hi.sep j k bj bk g cY h1 h2 (bO (lt h1) n6) (bO (lt h2) hck)
  ·subst e2;have:=old h1 (bO (lt h1) n6)
   have:=hcl g hck
   omega
  ·subst e1;have:=old h2 (bO (lt h2) hck)
   have:=hcl g n6
   omega
  ·omega
def I4(C:Ctx)(B:Nat->Prop)(w0:World)(Ψ:Pr)(w:World)(s:Sem Next)(r:Out)(fs:List (List AV))(dW:List Act):Prop:=
 ∃n v β' w',s.run C.P w= .ok n w'/\(n= .value v\/(n= .skip/\v=undef))/\aD C.P B w0 Ψ β' (match r.kill with|none=>r.heap|some k=>kg k .bJ r.heap) w'/\
  aQ Ψ β' (match r.kill with|none=>fs|some k=>Ni k .bJ fs) dW/\aE Ψ β' r.v v
theorem vG{cs:List AV}{c:Array Value}(hi:aD C.P B w0 Ψ β h w)(t:TypeId)(hl:aL Ψ β cs c.toList)(h1:∀u∈c.toList,u.oneCell'=true):
 aD C.P B w0 Ψ (β++[.pointer (some ⟨w.heap.size,0,none⟩)]) (h++[.cells cs]) (w.alloc (.cells c t)):=by
 have hn:(β++[Value.pointer (some ⟨w.heap.size,0,none⟩)])[h.length]?=some (.pointer (some ⟨w.heap.size,0,none⟩)):=by
  rw[<-hi.len];simp
 refine hi.push ((Below.refl _ _).alloc (Wan _) _) rfl ⟨w.heap.size,c,t,hn,heap_alloc_new w _,gW hi.size,aX (bW.refl _) (aS _) _ _ hl,h1⟩ ?_
 intro g hc;simp only[af]at hc;rw[hn]at hc;simp at hc
 omega
theorem TP{u:Ty}{x:u.den}{c:Array Value}(hi:aD C.P B w0 Ψ β h w)(t:TypeId)(hrd:reads Ψ u x c.toList):
 aD C.P B w0 Ψ (β++[.pointer (some ⟨w.heap.size,0,none⟩)]) (h++[.dat u x]) (w.alloc (.cells c t)):=by
 have hn:(β++[Value.pointer (some ⟨w.heap.size,0,none⟩)])[h.length]?=some (.pointer (some ⟨w.heap.size,0,none⟩)):=by
  rw[<-hi.len];simp
 refine hi.push ((Below.refl _ _).alloc (Wan _) _) rfl ⟨w.heap.size,c,t,hn,heap_alloc_new w _,gW hi.size,hrd⟩ ?_
 intro g hc;simp only[af]at hc;rw[hn]at hc;simp at hc
 omega
theorem o6{l:List AV}(h:mH l=true):cS l=[]:=by
 unfold mH at h;split at h
 ·assumption
 ·cases h
theorem Bl{t:TypeId}{av:AV}{v:Value}{r:Out}(hr:Za C h t av=some r)(hx:aE Ψ β av v):∃(u:Ty) (x:u.den),r=⟨none,.own (hlen h) 0,h++[.dat u x],none⟩/\reads Ψ u x v.cells.toList:=by
 unfold Za at hr;split at hr
 ·rename_i u sz hu hs;split at hr
  ·rename_i hc;simp only[Wac]at hc;split at hr
   ·rename_i x hd;simp only[Option.some.injEq]at hr;have hrefs:refs av=[]:=by
     have:=o6 hc.2
     simpa [cS]using this
    exact⟨u,x,hr.symm,rj (ku (bW.refl _) hd hx (by rw[hrefs];exact cc.nil))⟩
   ·cases hr
  ·cases hr
 ·cases hr
theorem qet{t:TypeId}{av:AV}{v:Value}{r:Out}{fs:List (List AV)}{dW:List Act}(hi:aD C.P B w0 Ψ β h w)(hf:aQ Ψ β fs dW)(hx:aE Ψ β av v)(hr:Za C h t av=some r):
 I4 C B w0 Ψ w (do pure (.value (<-Instr.box t v))) r fs dW:=by
 obtain⟨u,x,rfl,hrd⟩:=Bl hr hx;refine⟨.value (.pointer (some ⟨w.heap.size,0,none⟩)),_,_,w.alloc (.cells v.cells t),?_,.inl rfl,TP hi t hrd,bF (bW.refl _) (aS _) _ _ hf,?_⟩
 ·simp[Instr.box,newVar,newRow]
 ·rw[cF];exact⟨w.heap.size,by rw[<-hi.len];simp,rfl⟩
theorem ZZ{t:TypeId}{r:Out}{fs:List (List AV)}{dW:List Act}(hi:aD C.P B w0 Ψ β h w)(hf:aQ Ψ β fs dW)(hr:xz C h t=some r):
 I4 C B w0 Ψ w (do pure (.value (<-Instr.alloc t true (.tuple #[])))) r fs dW:=by
 unfold xz at hr;split at hr
 ·rename_i z hz;obtain⟨i,v,Vv,Ib,rfl⟩:=fJ hz;cases had:C.zb t with
  |true=>
   rw[had,cond_true]at hr;obtain⟨u,x,rfl,hrd⟩:=Bl hr (iU (Ψ:=Ψ) (β:=β) v);refine⟨.value (.pointer (some ⟨w.heap.size,0,none⟩)),_,_,w.alloc (.cells v.cells t),?_,.inl rfl,TP hi t hrd,bF (bW.refl _) (aS _) _ _ hf,?_⟩
   ·simp[Instr.alloc,zeroValue,typeInfo,Vv,Ib,newVar,newRow]
   ·rw[cF];exact⟨w.heap.size,by rw[<-hi.len];simp,rfl⟩
  |false=>
  rw[had,cond_false]at hr;split at hr
  ·rename_i cs hc;simp at hr
   subst hr;obtain⟨hl,h1⟩:=hO hi.one hc (iU v);refine⟨.value (.pointer (some ⟨w.heap.size,0,none⟩)),_,_,w.alloc (.cells v.cells t),?_,.inl rfl,vG hi t hl h1,bF (bW.refl _) (aS _) _ _ hf,?_⟩
   ·simp[Instr.alloc,zeroValue,typeInfo,Vv,Ib,newVar,newRow]
   ·rw[cF];exact⟨w.heap.size,by rw[<-hi.len];simp,rfl⟩
  ·split at hr
   ·rename_i hz1;simp at hr
    subst hr;have xJ:v.oneCell'=true:=by
     unfold Kv at hz1;rw[Vv]at hz1;simp only[Ib]at hz1;exact hz1
    have hcl:v.cells= #[v]:=by cases v<;>first|rfl|(simp[Value.oneCell']at xJ)
    have hl:aL Ψ β [.bJ] v.cells.toList:=by rw[hcl];exact⟨v,[],rfl,trivial,rfl⟩
    have h1:∀u∈v.cells.toList,u.oneCell'=true:=by rw[hcl];intro u hu;simp at hu;rw[hu];exact xJ
    refine⟨.value (.pointer (some ⟨w.heap.size,0,none⟩)),_,_,w.alloc (.cells v.cells t),?_,.inl rfl,vG hi t hl h1,bF (bW.refl _) (aS _) _ _ hf,?_⟩
    ·simp[Instr.alloc,zeroValue,typeInfo,Vv,Ib,newVar,newRow]
    ·rw[cF];exact⟨w.heap.size,by rw[<-hi.len];simp,rfl⟩
   ·cases hr
 ·cases hr
theorem qid{t:TypeId}{av:AV}{v:Value}{r:Out}{fs:List (List AV)}{dW:List Act}(hi:aD C.P B w0 Ψ β h w)(hf:aQ Ψ β fs dW)(hx:aE Ψ β av v)(hr:qhS h av=some r):
 I4 C B w0 Ψ w (do pure (.value (<-Instr.box t v))) r fs dW:=by
 unfold qhS at hr;split at hr
 ·rename_i cs hc;simp at hr
  subst hr;obtain⟨hl,h1⟩:=hO hi.one hc hx;refine⟨.value (.pointer (some ⟨w.heap.size,0,none⟩)),_,_,w.alloc (.cells v.cells t),?_,.inl rfl,vG hi t hl h1,bF (bW.refl _) (aS _) _ _ hf,?_⟩
  ·simp[Instr.box,newVar,newRow]
  ·rw[cF];exact⟨w.heap.size,by rw[<-hi.len];simp,rfl⟩
 ·cases hr
theorem tH{l:List Int}(hl:∀c∈l,0<=c/\c<=255):byteCells (strOf l)=l.map (Value.int .u8):=by
 unfold byteCells;rw[zu,WbR];apply WbJ
 intro c hc;have:=hl c hc
 simp
 omega
theorem Fp{k:IntKind}:∀(l:List Int),(∀c∈l,k.has c)->gu (reads Ψ (.int k)) l (l.map (Value.int k))
 |[],_=>rfl
 |c::l,h=>⟨[.int k c],l.map (Value.int k),rfl,⟨rfl,h c (by simp)⟩,Fp l fun d hd=>h d (by simp[hd])⟩
theorem Z0{c:Int}(h:0<=c/\c<=255):IntKind.u8.has c:=by
 unfold IntKind.has;simp[IntKind.min,IntKind.max,IntKind.bits,IntKind.signed]
 omega
theorem ux{e:Ty}{ys:List e.den}{tx:TypeId}{y:AV}{v:Value}(hi:aD C.P B w0 Ψ β h w)(hy:aE Ψ β y v)(ht:uc C h e tx y=some ys):
 ∃news,Src C.P e.cells tx v ys.length news w/\gu (reads Ψ e) ys news:=by
 unfold uc at ht;split at ht
 ·rename_i u hu;simp at ht
  subst ht;have:v= .slice none 0 0:=hy
  subst this;exact⟨[],Src.ofNil w hu 0,rfl⟩
 ·rename_i l hu;obtain⟨he,rfl⟩:=bz ht;simp only[Ty.arr.injEq]at he;subst he;obtain⟨rfl,hl,hl'⟩:=gX.1 hy;refine⟨byteCells (strOf l),?_,?_⟩
  ·have:=Src.ofString w hu (strOf l)
   rw[dU]at this;exact this
  ·rw[tH hl];exact Fp l fun c hc=>Z0 (hl c hc)
 ·rename_i u x hu hx;split at ht
  ·rename_i e' xs hl;obtain⟨he,rfl⟩:=bz ht;simp only[Ty.arr.injEq]at he;subst he;obtain⟨ad,cap,rfl,h1,h2,h3⟩:=oX hi hy hl;rcases h3 with rfl|⟨cells,g,off,hd,rfl,hc⟩
   ·refine⟨[],?_,rfl⟩
    cases ad with
    |none=>exact Src.ofNil w hu cap
    |some ad=>exact Src.ofSlice w hu ad 0 cap [] (by simp) (by simp) (by simp)
   ·refine⟨cells,Src.ofSlice w hu ⟨g,off,none⟩ xs.length cap cells (gx (aj e') _ _ hd) (fun j u hj=>?_) (ql (cN e') _ _ hd),hd⟩
    rw[Addr.add_lit];exact hc j u hj
  ·cases ht
 ·cases ht
theorem NP{e:Ty}{v:Value}(hz:qE e (ofV v)=true):v.cells.size=e.cells:=by
 unfold qE at hz;split at hz
 ·rename_i l hc;obtain⟨hl,_⟩:=hO (Ψ:=fun _=>none) (β:=[]) (by simp) hc (iU v)
  have:=dr _ _ hl
  rw[<-Array.length_toList,this,<-dw];simpa [Wag]using hz
 ·cases hz
structure Vw (C:Ctx) (t tid:TypeId) (e:Ty) (i:TypeInfo) (z:Value):Prop where
 ht:C.P.underlying t=some (.slice tid)
 hi:C.P.info? tid=some i
 hz:i.zero=some z
 hs:i.size=e.cells
 hc:z.cells.size=e.cells
def mV(w:World)(n mW:Nat)(tid:TypeId)(z:Value)(vs:List Value):Array Value:=
 vs.toArray++Builtin.zeroCells z.cells (grownCap w n mW tid-n)
theorem sr{t tx ty tid:TypeId}{e:Ty}{i:TypeInfo}{z:Value}(hT:Vw C t tid e i z)(base:Option Addr)(n mW:Nat)(olds:List Value)(hol:olds.length=n*e.cells)
 (hold:(Builtin.firstCells e.cells n (.slice base n mW)).run C.P w.drew= .ok olds.toArray w.drew) {x:Value} {m:Nat} {news:List Value} (hs:Src C.P e.cells tx x m news w)
 (hg:mW<n+m) (hroom:aM C tid (n+m)):
 (Builtin.append_ #[t,tx] ty #[.slice base n mW,x]).run C.P w=
   .ok (.slice (some ⟨w.heap.size,0,none⟩) (n+m) (grownCap w (n+m) mW tid)) (w.drew.alloc (.cells (mV w (n+m) mW tid z (olds++news)) tid))/\
 n+m<=grownCap w (n+m) mW tid/\grownCap w (n+m) mW tid<=maxLen/\(mV w (n+m) mW tid z (olds++news)).size=grownCap w (n+m) mW tid*e.cells/\
 (mV w (n+m) mW tid z (olds++news)).toList.take ((n+m)*e.cells)=olds++news:=by
 obtain⟨h1,h2⟩:=hroom;have hb:C.P.bytesOf tid=i.bytes:=by simp[Program.bytesOf,hT.hi]
 rw[hb]at h1;have hlen:(olds++news).length=(n+m)*e.cells:=by rw[Wad,hol,hs.newsLen,Nat.add_mul]
 have hge:=grownCap_ge w (n+m) mW tid;have hle:=grownCap_le_maxLen w (n+m) mW tid (by simp only[maxLen];omega)
 refine⟨?_,hge,hle,?_,?_⟩
 ·exact run_append_grow_src w t tx ty tid i z hT.ht hT.hi hT.hz base n mW olds (by rw[hT.hs];exact hold) x m news (by rw[hT.hs];exact hs) hg (by omega) (growslice_fits hg h1)
 ·simp only[mV,Wcb,Wbp,size_zeroCells,hT.hc,hlen,<-Nat.add_mul];congr 1
  omega
 ·simp only[mV,Array.toList_append];rw[<-hlen];exact Wb5
theorem K3{w:World}{n mW:Nat}{tid:TypeId}(h:0<n):grownCap w n mW tid≠0:=by
 have:=grownCap_ge w n mW tid
 omega
theorem dJ.grown{w1 w2:World}{row:Option Nat}(h:dJ B w0 w1)(hg:w1.grownBy w2 row)(hs:∀k,B k->k<w1.heap.size)(hr:∀g,row=some g->¬B g):dJ B w0 w2:=
 h.trans ⟨hg.os,hg.tape,hg.output,hg.size,fun k hk=>hg.block k (hs k hk) fun e=>hr k e.symm hk⟩
theorem I5(w:World)(o:Obj):Below w.heap.size w (w.drew.alloc o):=((Below.refl _ w).drew).alloc (Wan _) o
theorem K4{e:Ty}{xs:List e.den}{tid:TypeId}{z:Value}{k n mW:Nat}{vs:List Value}(hB:(∀k,B k->k<w.heap.size))(hn:xs.length=n)(h0:0<n)
 (hge:n<=grownCap w n mW tid) (hle:grownCap w n mW tid<=maxLen) (hsz:(mV w n mW tid z vs).size=grownCap w n mW tid*e.cells) (qJ:(mV w n mW tid z vs).toList.take (n*e.cells)=vs)
 (hd:gu (reads Ψ e) xs vs) (bV:β[k]?=some (.slice (some ⟨w.heap.size,0,none⟩) n (grownCap w n mW tid))):
 cn C.P B Ψ β (w.drew.alloc (.cells (mV w n mW tid z vs) tid)) k (.grow tid e xs):=by
 subst hn;exact .inr ⟨w.heap.size,_,_,bV,K3 h0,gW hB,heap_alloc_new w.drew _,hge,hle,hsz,by rw[qJ];exact hd⟩
theorem append_empty{t tx ty tid:TypeId}{e:Ty}{i:TypeInfo}{z:Value}(hT:Vw C t tid e i z)(base:Option Addr){x:Value}{ys:List e.den}{news:List Value}(hs:Src C.P e.cells tx x ys.length news w)
 (hd:gu (reads Ψ e) ys news) (hB:(∀k,B k->k<w.heap.size)) (hroom:aM C tid ys.length):
 ∃u w',(Builtin.append_ #[t,tx] ty #[.slice base 0 0,x]).run C.P w= .ok u w'/\Below w.heap.size w w'/\u.oneCell'=true/\
  (∀(β':List Value) (k:Nat),β'[k]?=some u->cn C.P B Ψ β' w' k (.grow tid e ys))/\(∀(β':List Value) (k g:Nat),β'[k]?=some u->af β' k g (.grow tid e ys)->w.heap.size<=g):=by
 by_cases h0:ys.length=0
 ·have hys:ys=[]:=WaT h0;subst hys;have hnews:news=[]:=WaT (by simpa using hs.newsLen)
  subst hnews;refine⟨.slice base 0 0,w,?_,Below.refl _ _,rfl,fun β' k hk=>.inl ⟨base,hk,rfl⟩,fun β' k g hk hc=>?_⟩
  ·have hcells:=hs.cells;rw[<-hT.hs]at hcells;simp only[WaB]at hcells;rcases hs.kind with ⟨e',hk⟩|hk<;>cases base<;>simp[Builtin.append_,run_underlying hT.ht,run_underlying hk,sizeOf,typeInfo,hT.hi,hs.len,hcells,storeCells]
  ·obtain⟨n,cap,hz,hc⟩:=hc;rw[hk]at hc;simp at hc
   omega
 ·have hn:=sr (ty:=ty) hT base 0 0 [] (by simp) (by
   cases base<;>simp[Builtin.firstCells,loadCells,loadCellsFrom]) hs (by omega) (by rw[WaO];exact hroom)
  simp only[WaO,WaY]at hn;obtain⟨hrun,hge,hle,hsz,qJ⟩:=hn;refine⟨_,_,hrun,I5 w _,rfl,fun β' k hk=>K4 hB rfl (by omega) hge hle hsz qJ hd hk,fun β' k g hk hc=>?_⟩
  obtain⟨n,cap,hz,hc⟩:=hc;rw[hk]at hc;simp at hc
  omega
theorem Fq{t tx ty tid:TypeId}{e:Ty}{i:TypeInfo}{z:Value}(hT:Vw C t tid e i z){g cap:Nat}{cur:Array Value}{xs:List e.den}(hz:cap≠0)(hBg:¬B g)(hh:w.heap[g]?=some (.cells cur tid (0,0)))
 (_hn:xs.length<=cap) (zA:cap<=maxLen) (hcs:cur.size=cap*e.cells) (Vx:gu (reads Ψ e) xs (cur.toList.take (xs.length*e.cells))) {x:Value} {ys:List e.den} {news:List Value} (hs:Src C.P e.cells tx x ys.length news w)
 (hd:gu (reads Ψ e) ys news) (hB:(∀k,B k->k<w.heap.size)) (hroom:aM C tid (xs.length+ys.length)):
 ∃u w',(Builtin.append_ #[t,tx] ty #[.slice (some ⟨g,0,none⟩) xs.length cap,x]).run C.P w= .ok u w'/\w.grownBy w' (some g)/\u.oneCell'=true/\
  (∀(β':List Value) (k:Nat),β'[k]?=some u->cn C.P B Ψ β' w' k (.grow tid e (xs++ys)))/\(∀(β':List Value) (k g':Nat),β'[k]?=some u->af β' k g' (.grow tid e (xs++ys))->g'=g\/w.heap.size<=g'):=by
 have TQ:(cur.toList.take (xs.length*e.cells)).length=xs.length*e.cells:=gx (aj e) _ _ Vx;by_cases hr:xs.length+ys.length<=cap
 ·
  have hfit:0+xs.length*e.cells+news.length<=cur.size:=by
   rw[hs.newsLen,hcs,WaO,<-Nat.add_mul];exact WaD _ hr
  have hst:=run_storeCells_at C.P g (xs.length*e.cells) tid news 0 cur w hh (by simp only[Wbu];omega) hs.one
  simp only[Wbu]at hst;have hcells:=hs.cells;refine⟨.slice (some ⟨g,0,none⟩) (xs.length+ys.length) cap,w.setRow g (cur.toList.take (xs.length*e.cells)++news++cur.toList.drop (xs.length*e.cells+news.length)).toArray,?_,
   ⟨rfl,rfl,rfl,by simp,fun k _ hk=>setRow_other w g k _ (fun e=>hk (by simp[e]))⟩,rfl,fun β' k hk=>?_,fun β' k g' hk hc=>?_⟩
  ·rw[<-hT.hs]at hst hcells;rw[<-hT.hs];rcases hs.kind with ⟨e',hk⟩|hk<;>simp[Builtin.append_,run_underlying hT.ht,run_underlying hk,sizeOf,typeInfo,hT.hi,hs.len,hr,hcells,Addr.add_lit,hst]
  ·refine .inr ⟨g,cap,_,by rw[hk];simp,hz,hBg,setRow_heap w g cur _ tid _ hh,by simpa using hr,zA,?_,?_⟩
   ·simp only[Wbp,Wad,TQ,List.length_drop,Array.length_toList];omega
   ·simp only[Wad];have e1:(xs.length+ys.length)*e.cells=(cur.toList.take (xs.length*e.cells)++news).length+0:=by
     rw[Wad,TQ,hs.newsLen,Nat.add_mul,Wbu]
    rw[e1,fO];simp only[Wcy,WaA];exact eO _ _ _ _ Vx hd
  ·left
   obtain⟨n,cap',Fk,hc⟩:=hc;rw[hk]at hc;simp at hc
   exact hc.1.symm
 ·
  have hold:(Builtin.firstCells e.cells xs.length (.slice (some ⟨g,0,none⟩) xs.length cap)).run C.P w.drew= .ok (cur.toList.take (xs.length*e.cells)).toArray w.drew:=by
   refine run_firstCells_some (P:=C.P) w.drew e.cells xs.length ⟨g,0,none⟩ xs.length cap _ TQ (fun j v hj=>?_)
   rw[Addr.add_lit,World.cell?_drew,bp hh,WaO]
   rw[Was]at hj;split at hj
   ·simpa using hj
   ·cases hj
  obtain⟨hrun,hge,hle,hsz,qJ⟩:=sr (ty:=ty) hT (some ⟨g,0,none⟩) xs.length cap _ TQ hold hs (by omega) hroom
  refine⟨_,_,hrun,⟨rfl,rfl,rfl,by simp,fun k hk _=>Below.heap_alloc w.drew _ k hk⟩,rfl,fun β' k hk=>?_,fun β' k g' hk hc=>?_⟩
  ·exact K4 hB (by simp) (by omega) hge hle hsz qJ (eO _ _ _ _ Vx hd) hk
  ·right
   obtain⟨n,cap',Fk,hc⟩:=hc;rw[hk]at hc;simp at hc
   omega
theorem uy(k:Nat)(r:AV):∀(h:List aB) (j:Nat) (b:aB),(kg k r h)[j]?=some b->∃b',h[j]?=some b'/\b=mM k r b'
 |[],j,b,hj=>by simp[kg]at hj
 |b0::h,0,b,hj=>by
  refine⟨b0,rfl,?_⟩
  cases b0<;>simp[kg]at hj<;>simp[mM,hj]
 |b0::h,j+1,b,hj=>by
  have:(kg k r (b0::h))[j+1]?=(kg k r h)[j]?:=by cases b0<;>simp[kg]
  rw[this]at hj;simpa using uy k r h j b hj
theorem uz(k:Nat)(r:AV):∀h:List aB,(kg k r h).length=h.length
 |[]=>rfl
 |b::h=>by cases b<;>simp[kg,uz k r h]
theorem uA{ax:Pr}{β':List Value}(k:Nat)(r:AV)(hle:bW Ψ ax)(hr:∀v:Value,β[k]?=some v->aE ax β' r v)(hb:∀(j:Nat) (v:Value),j≠k->β[j]?=some v->β'[j]?=some v)
 (hp:∀g:Nat,β[k]?=some (.pointer (some ⟨g,0,none⟩))->β'[k]?=some (.pointer (some ⟨g,0,none⟩))) (hy:∀l:Nat,β[k]?=some (cm l)->β'[k]?=some (cm l)):
 ∀(fs:List (List AV)) (as:List Act),aQ Ψ β fs as->aQ ax β' (Ni k r fs) as
 |[],_,h=>h
 |_::fs,_,⟨a,as',e,⟨h1,h2⟩,h3⟩=>⟨a,as',e,⟨oW hle h1,iK k r hle hr hb hp hy _ _ h2⟩,uA k r hle hr hb hp hy fs as' h3⟩
theorem su{k:Nat}{tid:TypeId}{e:Ty}{xs:List e.den}{g:Nat}(hb:cn C.P B Ψ β w k (.grow tid e xs)):β[k]? ≠some (.pointer (some ⟨g,0,none⟩)):=by
 rcases hb with ⟨ad,h1,_⟩|⟨g',cap,cur,h1,_⟩<;>rw[h1]<;>simp
theorem sw{k:Nat}{tid:TypeId}{e:Ty}{xs:List e.den}{l:Nat}(hb:cn C.P B Ψ β w k (.grow tid e xs)):β[k]? ≠some (cm l):=by
 rcases hb with ⟨ad,h1,_⟩|⟨g',cap,cur,h1,_⟩<;>rw[h1]<;>simp[cm]
theorem cB{l:List Value}{k j:Nat}{u v:Value}(hj:j≠k)(h:l[j]?=some v):(l.set k u)[j]?=some v:=by
 rw[War (Wa0 hj)];exact h
theorem aD.qg0{k:Nat}{bo bn:aB}{u:Value}{row:Option Nat}(hi:aD C.P B w0 Ψ β h w)(hk:h[k]?=some bo)(hnl:bo.Bd=false)(hnp:∀g,β[k]? ≠some (.pointer (some ⟨g,0,none⟩)))(hny:∀l,β[k]? ≠some (cm l))
 (hsb:mM k .bJ bn=bn) (hg:w.grownBy w' row)
 (hrow:∀g,row=some g->af β k g bo) (hone:u.oneCell'=true) (hnew:cn C.P B Ψ (β.set k u) w' k bn) (hcl:∀g,af (β.set k u) k g bn->row=some g\/w.heap.size<=g):
 aD C.P B w0 Ψ (β.set k u) (kg k .bJ (h.set k bn)) w':=by
 have Ig:k<h.length:=by
  rcases Wak k h.length with h'|h'
  ·exact h'
  ·rw[Wai h']at hk;cases hk
 have hB:=hi.blk k _ hk;have qlE:∀g,row=some g->¬B g:=fun g hg'=>(ct hB (hrow g hg')).1
 have nv:∀{g:Nat},(∀j b,j≠k->h[j]?=some b->af β j g b->row≠some g):=fun {g} j b cY hj hc e=>hi.sep j k b _ g cY hj hk hc (hrow g e)
 have prom:∀ad v,Ψ ad=some v->Pm w' ad v:=fun ad v hv=>by
  have h1:=hi.prom ad v hv;refine mR (hg.block ad.block (qm h1) ?_) h1
  intro e;rw[hi.free' hk (hrow _ e.symm) hnl ad rfl]at hv;cases hv
 have Z1:∀j b,j≠k->h[j]?=some b->cn C.P B Ψ (β.set k u) w' j (mM k .bJ b):=by
  intro j b cY hj;have hb:=hi.blk j b hj;cases b with
  |gone=>trivial
  |log ys Y own xs=>exact jQ hb (fun _ h=>cB cY h) (bW.refl _).m hg.size fun g ho=>hg.block g (hb.2.2.1 g ho).2 (fun e=>nv j _ cY hj ho e.symm)
  |kV ys Y own=>exact jR hb (fun _ h=>cB cY h) (bW.refl _).m hg.size fun g ho=>hg.block g (hb.2.2.1 g ho).2 (fun e=>nv j _ cY hj ho e.symm)
  |cells cs=>
   obtain⟨g,c,e',h1,h2,h3,h4,h5⟩:=hb;refine⟨g,c,e',cB cY h1,(hg.block g (aY h2) (fun e=>nv j _ cY hj h1 e.symm)).trans h2,h3,?_,h5⟩
   exact iK k .bJ (bW.refl _) (fun _ _=>trivial) (fun i v hik hv=>cB hik hv) (fun g hp=>absurd hp (hnp g)) (fun l hy=>absurd hy (hny l)) _ _ h4
  |grow tid' e' xs'=>
   rcases hb with ⟨ad,h1,h2⟩|⟨g,cap,cur,h1,h2,h3,h4,h5⟩
   ·exact .inl ⟨ad,cB cY h1,h2⟩
   ·exact .inr ⟨g,cap,cur,cB cY h1,h2,h3,(hg.block g (aY h4) (fun e=>nv j _ cY hj ⟨_,_,h2,h1⟩ e.symm)).trans h4,h5⟩
  |fH es=>
   obtain⟨g,ms,cl,h1,h2,h3,h4,h5,h6⟩:=hb;refine⟨g,ms,cl,cB cY h1,(hg.block g (aY h2) (fun e=>nv j _ cY hj h1 e.symm)).trans h2,h3,h4,?_,h6⟩
   have:aL Ψ (β.set k u) (qS k .bJ (es.map Prod.snd)) _:=iK k .bJ (bW.refl _) (fun _ _=>trivial) (fun i v hik hv=>cB hik hv) (fun g hp=>absurd hp (hnp g)) (fun l hy=>absurd hy (hny l)) _ _ h5
   rwa [E6 k .bJ fun p hp=>(h6 p hp).1]at this
  |dmap e m=>
   obtain⟨g,ms,cl,h1,h2,h3,h4⟩:=hb;exact⟨g,ms,cl,cB cY h1,(hg.block g (aY h2) (fun e=>nv j _ cY hj h1 e.symm)).trans h2,h3,h4⟩
  |eo e last left=>
   obtain⟨g,gm,ms,cl,seen,h1,h2,h3,h4⟩:=hb;exact⟨g,gm,ms,cl,seen,cB cY h1,(hg.block g (aY h2) (fun e=>nv j _ cY hj h1 e.symm)).trans h2,h3,h4⟩
  |loop f p ph ts=>
   obtain⟨l,r,h1,h2,h3,h4,h5,h6⟩:=hb;exact⟨l,r,cB cY h1,(hg.block l (aY h2) (fun e=>nv j _ cY hj h1 e.symm)).trans h2,h3,h4,
    iK k .bJ (bW.refl _) (fun _ _=>trivial) (fun i v hik hv=>cB hik hv) (fun g hp=>absurd hp (hnp g)) (fun l hy=>absurd hy (hny l)) _ _ h5,h6⟩
  |dat t x=>
   obtain⟨g,c,e',h1,h2,h3⟩:=hb;exact⟨g,c,e',cB cY h1,(hg.block g (aY h2) (fun e=>nv j _ cY hj h1 e.symm)).trans h2,h3⟩
  |eu n rest=>
   obtain⟨g,s,pos,h1,h2,h3⟩:=hb;exact⟨g,s,pos,cB cY h1,(hg.block g (aY h2) (fun e=>nv j _ cY hj h1 e.symm)).trans h2,h3⟩
  |xb x=>
   obtain⟨v,h1,h2,h3⟩:=hb;exact⟨v,cB cY h1,D7 (fun g hc=>hg.block g (h3 g hc).2 (fun e=>nv j _ cY hj ⟨v,h1,hc⟩ e.symm)) h2,fun g hc=>⟨(h3 g hc).1,Wa6 (h3 g hc).2 hg.size⟩⟩
 have qn:∀{j g:Nat} {b:aB},j≠k->af (β.set k u) j g (mM k .bJ b)->af β j g b:=by
  intro j g b cY hc;cases b with
  |gone=>exact hc
  |log ys Y own xs=>exact hc
  |kV ys Y own=>exact hc
  |cells cs=>simp only[af,mM]at*;rwa [War (Wa0 cY)]at hc
  |grow tid' e' xs'=>obtain⟨n,cap,h1,h2⟩:=hc;rw[War (Wa0 cY)]at h2;exact⟨n,cap,h1,h2⟩
  |fH es=>simp only[af,mM]at*;rwa [War (Wa0 cY)]at hc
  |dmap e m=>simp only[af,mM]at*;rwa [War (Wa0 cY)]at hc
  |eo e last left=>simp only[af,mM]at*;rwa [War (Wa0 cY)]at hc
  |loop f p ph ts=>simp only[af,mM]at*;rwa [War (Wa0 cY)]at hc
  |dat t x=>simp only[af,mM]at*;rwa [War (Wa0 cY)]at hc
  |eu n rest=>simp only[af,mM]at*;rwa [War (Wa0 cY)]at hc
  |xb x=>obtain⟨v,h1,h2⟩:=hc;rw[War (Wa0 cY)]at h1;exact⟨v,h1,h2⟩
 have qie:∀{b:aB},(kg k .bJ (h.set k bn))[k]?=some b->b=bn:=by
  intro b hb;obtain⟨b',h1,h2⟩:=uy _ _ _ _ _ hb;rw[WaC (by simpa using Ig)]at h1
  simp at h1
  subst h1;rw[h2,hsb]
 have Z2:∀{j:Nat} {b:aB},j≠k->(kg k .bJ (h.set k bn))[j]?=some b->∃b',h[j]?=some b'/\b=(mM k .bJ b'):=by
  intro j b cY hb;obtain⟨b',h1,h2⟩:=uy _ _ _ _ _ hb;rw[War (Wa0 cY)]at h1;exact⟨b',h1,h2⟩
 refine⟨?_,fun k hk=>Wa6 (hi.size k hk) hg.size,prom,hi.own,by rw[uz];simp[hi.len],?_,?_,?_,?_,hi.gQ⟩
 ·exact hi.low.grown hg hi.size qlE
 ·intro j v hj;by_cases cY:j=k
  ·subst cY;rw[WaC (by rw[hi.len];exact Ig)]at hj
   simp at hj
   subst hj;exact hone
  ·rw[War (Wa0 cY)]at hj;exact hi.one j v hj
 ·intro j b hb;by_cases cY:j=k
  ·subst cY;rw[qie hb];exact hnew
  ·obtain⟨b',h1,rfl⟩:=Z2 cY hb;exact Z1 j b' cY h1
 ·intro j b g hb hc ad had hsp;by_cases cY:j=k
  ·subst cY;rw[qie hb]at hc;rcases hcl g hc with e1|e1
   ·exact hi.free j _ g hk (hrow g e1) ad had hsp
   ·cases hp:Ψ ad with
    |none=>rfl
    |some v=>
     have:=qm (hi.prom ad v hp)
     omega
  ·obtain⟨b',h1,rfl⟩:=Z2 cY hb;exact hi.free j b' g h1 (qn cY hc) ad had hsp
 ·have mixed:∀{j g:Nat} {b bk:aB},j≠k->(kg k .bJ (h.set k bn))[j]?=some b->(kg k .bJ (h.set k bn))[k]?=some bk->af (β.set k u) j g b->af (β.set k u) k g bk->False:=by
   intro j g b bk cY hb HZ hc hck;rw[qie HZ]at hck;obtain⟨b',h1,rfl⟩:=Z2 cY hb;have tG:=qn cY hc;rcases hcl g hck with e1|e1
   ·exact nv j b' cY h1 tG e1
   ·have:=(ct (hi.blk j b' h1) tG).2
    omega
  intro i j bi bj g hij yV xM rO n6;by_cases hik:i=k
  ·subst hik;exact mixed (Wa0 hij) xM yV n6 rO
  ·by_cases cY:j=k
   ·subst cY;exact mixed hij yV xM rO n6
   ·obtain⟨bi',h1,rfl⟩:=Z2 hik yV;obtain⟨bj',h2,rfl⟩:=Z2 cY xM;exact hi.sep i j bi' bj' g hij h1 h2 (qn hik rO) (qn cY n6)
theorem aD.Z3{k:Nat}{tid:TypeId}{e:Ty}{xs ys:List e.den}{u:Value}{row:Option Nat}(hi:aD C.P B w0 Ψ β h w)(hk:h[k]?=some (.grow tid e xs))(hg:w.grownBy w' row)
 (hrow:∀g,row=some g->af β k g (.grow tid e xs)) (hone:u.oneCell'=true) (hnew:cn C.P B Ψ (β.set k u) w' k (.grow tid e ys)) (hcl:∀g,af (β.set k u) k g (.grow tid e ys)->row=some g\/w.heap.size<=g):
 aD C.P B w0 Ψ (β.set k u) (kg k .bJ (h.set k (.grow tid e ys))) w':=
 hi.qg0 hk rfl (fun _=>su (hi.blk k _ hk)) (fun _=>sw (hi.blk k _ hk)) rfl hg hrow hone hnew hcl
theorem Vy{t tid:TypeId}{sz:Nat}{z:AV}{e:Ty}(he:elemOf C t=some tid)(hs:C.size tid=some sz)(hz:C.zero tid=some z)(hsz:e.cells=sz)(hzo:qE e z=true):∃i v,Vw C t tid e i v:=by
 obtain⟨i,v,hi,Ib,rfl⟩:=fJ hz;obtain⟨i',hi',hsi⟩:=zy hs;rw[hi]at hi';simp at hi'
 subst hi';exact⟨i,v,cO he,hi,Ib,by omega,NP hzo⟩
theorem Vz{t tx ty:TypeId}{x y:AV}{u v:Value}{r:Out}{fs:List (List AV)}{dW:List Act}(hi:aD C.P B w0 Ψ β h w)(hf:aQ Ψ β fs dW)(hx:aE Ψ β x u)(hy:aE Ψ β y v)
 (hr:Ks C h t tx x y=some r) (hp:∀p,r.need=some p->p):
 I4 C B w0 Ψ w (do pure (.value (<-Builtin.append_ #[t,tx] ty #[u,v]))) r fs dW:=by
 unfold Ks at hr;split at hr
 ·cases hr
 ·rename_i tid he;split at hr
  ·rename_i sz z hsz hz;unfold IC at hr;have fresh:∀{e:Ty} {ys:List e.den} {u':Value} {w':World},(Builtin.append_ #[t,tx] ty #[u,v]).run C.P w= .ok u' w'->Below w.heap.size w w'->u'.oneCell'=true->
    (∀(β':List Value) (k:Nat),β'[k]?=some u'->cn C.P B Ψ β' w' k (.grow tid e ys))->(∀(β':List Value) (k g:Nat),β'[k]?=some u'->af β' k g (.grow tid e ys)->w.heap.size<=g)->
    ∀p,I4 C B w0 Ψ w (do pure (.value (<-Builtin.append_ #[t,tx] ty #[u,v]))) ⟨p,.sl (hlen h),h++[.grow tid e ys],none⟩ fs dW:=by
    intro e ys u' w' hrun hb hone eV hcl p;have hn:(β++[u'])[h.length]?=some u':=by rw[<-hi.len];simp
    refine⟨.value u',u',β++[u'],w',by simp[hrun],.inl rfl,hi.push hb hone (eV _ _ hn) (fun g hc=>hcl _ _ g hn hc),bF (bW.refl _) (aS _) _ _ hf,?_⟩
    refine⟨?_,fun e0=>?_⟩
    ·rw[cF];exact hn
    ·have hb0:=eV _ _ hn;rcases hb0 with ⟨ad,h1,_⟩|⟨g,cap,cur,h1,_⟩
     ·rw[hn,e0]at h1;simp[hole]at h1
     ·rw[hn,e0]at h1;simp[hole]at h1
   split at hr
   ·
    split at hr
    ·cases hr
    ·rename_i e hty;split at hr
     ·rename_i ys hys;split at hr
      ·rename_i hc;simp only[Wac,Wag]at hc;simp at hr
       subst hr;have hu:u= .slice none 0 0:=hx;subst hu;obtain⟨i,zv,hT⟩:=Vy he hsz hz hc.1 hc.2;obtain⟨news,hs,hd⟩:=ux hi hy hys;obtain⟨u',w',hrun,hb,hone,eV,hcl⟩:=append_empty (ty:=ty) hT none hs hd hi.size (hp _ rfl);exact fresh hrun hb hone eV hcl _
      ·cases hr
     ·cases hr
   ·
    rename_i k;split at hr
    ·rename_i tid' e xs hg;split at hr
     ·rename_i ys hys;split at hr
      ·rename_i hc;simp only[Wac,Wag]at hc;obtain⟨⟨rfl,Fh⟩,Qg⟩:=hc;simp at hr
       subst hr;have bV:β[k]?=some u:=hx.1;have hhk:=aC hg (by simp)
       have Ig:k<β.length:=by
        rcases Wak k β.length with h'|h'
        ·exact h'
        ·rw[Wai h']at bV;cases bV
       obtain⟨i,zv,hT⟩:=Vy he hsz hz Fh Qg;obtain⟨news,hs,hd⟩:=ux hi hy hys;have done:∀{u':Value} {w':World} {row:Option Nat},(Builtin.append_ #[t,tx] ty #[u,v]).run C.P w= .ok u' w'->w.grownBy w' row->(∀g,row=some g->af β k g (.grow tid e xs))->u'.oneCell'=true->
        (∀(β':List Value) (k:Nat),β'[k]?=some u'->cn C.P B Ψ β' w' k (.grow tid e (xs++ys)))->(∀(β':List Value) (k g:Nat),β'[k]?=some u'->af β' k g (.grow tid e (xs++ys))->row=some g\/w.heap.size<=g)->
        I4 C B w0 Ψ w (do pure (.value (<-Builtin.append_ #[t,tx] ty #[u,v]))) ⟨some (aM C tid (xs.length+ys.length)),.sl k,bw h k (.grow tid e (xs++ys)),some k⟩ fs dW:=by
        intro u' w' row hrun xN hrow hone eV hcl;have hn:(β.set k u')[k]?=some u':=by rw[WaC Ig]
        refine⟨.value u',u',β.set k u',w',by simp[hrun],.inl rfl,?_,?_,⟨hn,iN (eV _ _ hn) hn⟩⟩
        ·simp only[aZ];exact hi.Z3 hhk xN hrow hone (eV _ _ hn) (fun g hc=>hcl _ _ g hn hc)
        ·exact uA k .bJ (bW.refl _) (fun _ _=>trivial) (fun j v cY hv=>cB cY hv) (fun g hp=>absurd hp (su (hi.blk k _ hhk))) (fun l hy=>absurd hy (sw (hi.blk k _ hhk))) _ _ hf
       rcases hi.blk k _ hhk with ⟨ad,hb1,rfl⟩|⟨g,cap,cur,hb1,Fk,hB,hh,hn,zA,hcs,Vx⟩
       ·rw[bV]at hb1;simp at hb1
        subst hb1;have hroom:=hp _ rfl;simp only[WaB,WaO]at hroom;obtain⟨u',w',hrun,hb,hone,eV,hcl⟩:=append_empty (ty:=ty) hT ad hs hd hi.size hroom;exact done (row:=none) hrun ⟨hb.os,hb.tape,hb.output,hb.size,fun k hk _=>hb.block k hk⟩ (by simp) hone (by simpa using eV) (fun β' k g hk hc=>.inr (hcl β' k g hk (by simpa using hc)))
       ·rw[bV]at hb1;simp at hb1
        subst hb1;obtain⟨u',w',hrun,xN,hone,eV,hcl⟩:=Fq (ty:=ty) hT Fk hB hh hn zA hcs Vx hs hd hi.size (hp _ rfl);exact done hrun xN (fun g' e=>by cases e;exact⟨_,_,Fk,bV⟩) hone eV (fun β' k g' hk hc=>(hcl β' k g' hk hc).imp (fun e=>by rw[e]) id)
      ·cases hr
     ·cases hr
    ·cases hr
   ·
    rename_i e xs;split at hr
    ·rename_i ys hys;split at hr
     ·rename_i hc;simp only[Wac,Wag]at hc;obtain⟨i,zv,hT⟩:=Vy he hsz hz hc.1 hc.2;obtain⟨news,hs,hd⟩:=ux hi hy hys;obtain⟨ad,rfl,vD⟩:=hx;have more:∀(x0:e.den) (Ih:List e.den) (y0:e.den) (Nc:List e.den),xs=x0::Ih->ys=y0::Nc->aM C tid ((x0::Ih).length+(y0::Nc).length)->∀p,
       I4 C B w0 Ψ w (do pure (.value (<-Builtin.append_ #[t,tx] ty #[.slice ad xs.length xs.length,v]))) ⟨p,.sl (hlen h),h++[.grow tid e (x0::Ih++y0::Nc)],none⟩ fs dW:=by
       intro x0 Ih y0 Nc ex ey hroom p;subst ex ey;obtain⟨ad',cap,e1,h1,h2,h3⟩:=nu (β:=β).1 vD;simp at e1
       obtain⟨rfl,rfl⟩:=e1;rcases h3 with h3|⟨cells,Vx,g,off,rfl,tG⟩
       ·cases h3
       ·have TQ:=gx (aj e) _ _ Vx;have hold:(Builtin.firstCells e.cells (x0::Ih).length (.slice (some ⟨g,off,none⟩) (x0::Ih).length (x0::Ih).length)).run C.P w.drew= .ok cells.toArray w.drew:=by
         refine run_firstCells_some (P:=C.P) w.drew e.cells _ ⟨g,off,none⟩ _ _ _ TQ (fun j v hj=>?_)
         rw[Addr.add_lit,World.cell?_drew]
         exact hi.prom _ _ (tG j v hj)
        obtain⟨hrun,hge,hle,n5,qJ⟩:=sr (ty:=ty) hT (some ⟨g,off,none⟩) (x0::Ih).length (x0::Ih).length _ TQ hold hs (by simp) hroom
        refine fresh (e:=e) (ys:=x0::Ih++y0::Nc) hrun (I5 w _) rfl (fun β' k hk=>?_) (fun β' k g' hk hc=>?_) p
        ·exact K4 hi.size Wad (Nat.add_pos_left (Nat.succ_pos _) _) hge hle n5 qJ (eO _ _ _ _ Vx hd) hk
        ·obtain⟨n,cap',Fk,hc⟩:=hc;rw[hk]at hc;simp at hc
         omega
      cases htf:C.vp with
      |true=>
       rw[htf]at hr;simp only[cond_true]at hr;split at hr
       ·simp only[Option.some.injEq]at hr;subst hr;have hnl:news=[]:=WaT (by rw[hs.newsLen];simp)
        subst hnl;have hcells:=hs.cells;have hl0:=hs.len;refine⟨.value (.slice ad xs.length xs.length),_,β,w,?_,.inl rfl,hi,hf,⟨ad,rfl,vD⟩⟩
        rw[<-hT.hs]at hcells;have hcells:(Builtin.firstCells i.size 0 v).run C.P w= .ok #[] w:=hcells;rcases hs.kind with ⟨e',hk⟩|hk<;>cases ad<;>simp[Builtin.append_,run_underlying hT.ht,run_underlying hk,sizeOf,typeInfo,hT.hi,hl0,hcells,storeCells]
       ·rename_i y0 Nc;simp only[Option.some.injEq]at hr;subst hr;have hroom:=hp _ rfl;cases xs with
        |nil=>
         obtain⟨u',w',hrun,hb,hone,eV,hcl⟩:=append_empty (ty:=ty) hT ad hs hd hi.size (by simpa using hroom)
         exact fresh hrun hb hone eV hcl _
        |cons x0 Ih=>exact more x0 Ih y0 Nc rfl rfl hroom _
      |false=>
       rw[htf]at hr;simp only[cond_false]at hr;split at hr
       ·simp at hr
        subst hr;obtain⟨u',w',hrun,hb,hone,eV,hcl⟩:=append_empty (ty:=ty) hT ad hs hd hi.size (hp _ rfl);exact fresh hrun hb hone eV hcl _
       ·rename_i x0 Ih y0 Nc;simp at hr
        subst hr;exact more x0 Ih y0 Nc rfl rfl (hp _ rfl) _
       ·cases hr
     ·cases hr
    ·cases hr
   ·cases hr
  ·cases hr
end Go.AM
namespace Go.AM
open Go.RowKit Go.MapKept
variable {B:Nat->Prop} {w0:World} {C:Ctx} {Ψ:Pr} {β:List Value} {h:List aB} {w w':World} {fr:List AV} {a:Act} {As:List Act}
theorem oz{s:Sem Unit}(hr:s.run C.P w= .ok () w'):(do s;pure .skip:Sem Next).run C.P w= .ok .skip w':=by simp[hr]
theorem dX{s:Sem Value}{v:Value}(hr:s.run C.P w= .ok v w'):(do pure (.value (<-s)):Sem Next).run C.P w= .ok (.value v) w':=by simp[hr]
theorem NQ{c:List Value}{n:Nat}:∀(m j:Nat),c.length=n->j<m*n->((List.replicate m c).flatten)[j]?=c[j % n]?
 |0,j,_,hj=>by simp at hj
 |m+1,j,hc,hj=>by
  rw[Wb8,WcC];rcases Wak j n with h|h
  ·rw[Wao (by omega),Wcf h]
  ·rw[WaH (by omega),hc,NQ m (j-n) hc (by rw[WbA]at hj;omega),Nat.mod_eq_sub_mod h]
theorem qev(z:Array Value)(m:Nat)(n:Nat)(hn:z.size=n):(madeCells z (m*n)).toList=(List.replicate m z.toList).flatten:=by
 apply WbF
 intro j;rcases Wak j (m*n) with h|h
 ·rw[NQ m j (by simpa using hn) h]
  have hpos:0<n:=by
   rcases Wcr n with h0|h0
   ·subst h0;omega
   ·exact h0
  have hlt:j % n<z.size:=by rw[hn];exact Wcg _ hpos
  simp only[madeCells,Wcd,Array.getElem?_map,Array.getElem?_range,h,if_true,Wbk,hn]
  rw[Wa1 hlt,getElem!_pos z (j % n) hlt]
 ·rw[Wai (by rw[Array.length_toList,size_madeCells];exact h),Wai (by simp[hn];exact h)]
theorem qew{t:TypeId}{x y:AV}{u v:Value}{r:Out}{fs:List (List AV)}{dW:List Act}(hi:aD C.P B w0 Ψ β h w)(hf:aQ Ψ β fs dW)(hx:aE Ψ β x u)(hy:aE Ψ β y v)
 (hr:Y9 C h t x y=some r) (hp:∀p,r.need=some p->p):I4 C B w0 Ψ w (do pure (.value (<-Instr.makeSlice t u v))) r fs dW:=by
 unfold Y9 at hr;split at hr
 ·rename_i tid he;split at hr
  ·rename_i e sz z n0 m0 hty hsz hz;obtain⟨n,rfl⟩:∃n:Int,n=n0:=⟨n0,rfl⟩
   obtain⟨m,rfl⟩:∃m:Int,m=m0:=⟨m0,rfl⟩
   split at hr
   ·rename_i hc;simp only[Wac,Wag]at hc;split at hr
    ·rename_i x0 hx0;simp at hr
     subst hr;obtain⟨hn0,hnm,hb1,hb2⟩:(0:Int)<=n/\n<=m/\m.toNat*C.P.bytesOf tid<=140737488355328/\m.toNat<=9223372036854775807:=hp _ rfl
     obtain⟨rfl,hnk⟩:=aU.1 hx;obtain⟨rfl,hmk⟩:=aU.1 hy;obtain⟨i,zv,hT⟩:=Vy he hsz hz hc.1 hc.2;obtain⟨i',zv',hi',qoR,hzz⟩:=fJ hz;have:i'=i:=by have:=hT.hi;rw[hi']at this;simpa using this
     subst this;have:zv'=zv:=by have:=hT.hz;rw[qoR]at this;simpa using this
     subst this;have hbytes:(i'.bytes:Int)*m<=281474976710656:=by
      have hb:C.P.bytesOf tid=i'.bytes:=by simp[Program.bytesOf,hi']
      rw[hb]at hb1;have:((m.toNat*i'.bytes:Nat):Int)<=140737488355328:=by omega
      rw[Int.natCast_mul,WbU (by omega),Int.mul_comm]at this
      omega
     have hrun:=run_make (P:=C.P) w t tid i' zv' hT.ht hT.hi hT.hz .i64 .i64 n m hn0 hnm hbytes (by omega)
     rw[hT.hs]at hrun;have vD:reads Ψ e x0 zv'.cells.toList:=rj (ku (h:=[]) (β:=β) (bW.refl Ψ) hx0 (by rw[hzz];exact iU zv') (fun k _ tid e xs hg=>by simp[aH]at hg))
     have Ic:((List.replicate n.toNat x0).length)=n.toNat:=by simp
     refine⟨.value (.slice (some ⟨w.heap.size,0,none⟩) n.toNat m.toNat),.slice (some ⟨w.heap.size,0,none⟩) n.toNat m.toNat,β++[.slice (some ⟨w.heap.size,0,none⟩) n.toNat m.toNat],_,dX hrun,.inl rfl,
      hi.push ((Below.refl _ _).alloc (Wan _) _) rfl ?_ ?_,bF (bW.refl _) (aS _) _ _ hf,?_⟩
     ·have hk:(β++[Value.slice (some ⟨w.heap.size,0,none⟩) n.toNat m.toNat])[h.length]?=some (.slice (some ⟨w.heap.size,0,none⟩) n.toNat m.toNat):=by
       rw[<-hi.len];simp
      by_cases hm0:m.toNat=0
      ·left
       have:n.toNat=0:=by omega
       rw[hm0,this]at hk;exact⟨_,by rw[hm0,this];exact hk,by rw[this];rfl⟩
      ·right
       refine⟨w.heap.size,m.toNat,_,by rw[Ic];exact hk,hm0,gW hi.size,heap_alloc_new w _,by rw[Ic];omega,by simp only[maxLen];omega,size_madeCells _ _,?_⟩
       rw[Ic,qev _ _ _ hT.hc];have:(List.replicate m.toNat zv'.cells.toList).flatten.take (n.toNat*e.cells)=(List.replicate n.toNat zv'.cells.toList).flatten:=by
        have hsplit:m.toNat=n.toNat+(m.toNat-n.toNat):=by omega
        rw[hsplit,<-List.replicate_append_replicate,WcR,WaR (by simp[hT.hc]),Wap (by simp[hT.hc])]
       rw[this];exact wT x0 _ vD _
     ·intro g hcl;obtain⟨n',cap',Fk,hcl⟩:=hcl;rw[<-hi.len]at hcl;simp at hcl
      omega
     ·refine⟨?_,by simp[hole]⟩
      rw[cF,<-hi.len];simp
    ·cases hr
   ·cases hr
  ·cases hr
 ·cases hr
theorem mX{t:TypeId}{n g off:Nat}{v:Value}{cur:Array Value}{e:TypeId}(hs:C.size t=some n)(hn:v.cells.size=n)(hh:w.heap[g]?=some (.cells cur e (0,0)))(hle:off+n<=cur.size)(h1:∀u∈v.cells.toList,u.oneCell'=true):
 (Instr.storeAt t (.pointer (some ⟨g,off,none⟩)) v).run C.P w= .ok () (w.setRow g (cur.toList.take off++v.cells.toList++cur.toList.drop (off+v.cells.toList.length)).toArray):=by
 have hst:=run_storeCells_at C.P g off e v.cells.toList 0 cur w hh (by simp;omega) h1
 simp only[Wbu]at hst;simp[Instr.storeAt,Instr.sureAddr,storeVar,run_sizeOf hs,hn,hst]
theorem aD.NR{k g:Nat}{b b':aB}(hi:aD C.P B w0 Ψ β h w)(hk:h[k]?=some b)(hc:af β k g b)(xN:w.grownBy w' (some g))
 (dO:∀ad v,Ψ ad=some v->ad.block=g->Pm w' ad v) (hcl:∀g',af β k g' b'->af β k g' b) (hnew:cn C.P B Ψ β w' k b'):aD C.P B w0 Ψ β (h.set k b') w':=by
 have hBg:=(ct (hi.blk k b hk) hc).1;have at_:∀{j:Nat} {b1:aB},(h.set k b')[j]?=some b1->(j=k/\b1=b')\/(j≠k/\h[j]?=some b1):=by
  intro j b1 hj;by_cases cY:j=k
  ·subst cY;rw[WaC (by
    rcases Wak j h.length with h'|h'
    ·exact h'
    ·rw[Wai h']at hk;cases hk)]at hj
   simp at hj
   exact .inl ⟨rfl,hj.symm⟩
  ·rw[War (Wa0 cY)]at hj;exact .inr ⟨cY,hj⟩
 have Fs:∀{j:Nat} {b1:aB},j≠k->h[j]?=some b1->∀g',af β j g' b1->some g'≠some g:=fun cY hj g' tG e=>hi.sep _ k _ b g cY hj hk (by cases e;exact tG) hc
 refine⟨hi.low.grown xN hi.size (fun g' e=>by cases e;exact hBg),fun k hk=>Wa6 (hi.size k hk) xN.size,fun ad v hv=>?_,hi.own,by simp[hi.len],hi.one,fun j b1 hj=>?_,fun j b1 g' hj tG ad had hsp=>?_,fun i j bi bj g' hij yV xM rO n6=>?_,hi.gQ⟩
 ·by_cases e:ad.block=g
  ·exact dO ad v hv e
  ·have h1:=hi.prom ad v hv;exact mR (xN.block ad.block (qm h1) (fun e'=>e (by simpa using e'))) h1
 ·rcases at_ hj with ⟨rfl,rfl⟩|⟨cY,hj'⟩
  ·exact hnew
  ·have hb:=hi.blk j b1 hj';cases b1 with
   |gone=>trivial
   |log ys Y own xs=>exact jQ hb (fun _ h=>h) (bW.refl _).m xN.size fun g' ho=>xN.block g' (hb.2.2.1 g' ho).2 (Fs cY hj' g' ho)
   |kV ys Y own=>exact jR hb (fun _ h=>h) (bW.refl _).m xN.size fun g' ho=>xN.block g' (hb.2.2.1 g' ho).2 (Fs cY hj' g' ho)
   |cells cs=>
    obtain⟨g',c,e',h1,h2,h3,h4⟩:=hb;exact⟨g',c,e',h1,(xN.block g' (aY h2) (Fs cY hj' g' h1)).trans h2,h3,h4⟩
   |grow tid e' xs'=>
    rcases hb with hb|⟨g',cap,qoS,h1,h2,h3,h4,h5⟩
    ·exact .inl hb
    ·exact .inr ⟨g',cap,qoS,h1,h2,h3,(xN.block g' (aY h4) (Fs cY hj' g' ⟨_,_,h2,h1⟩)).trans h4,h5⟩
   |fH es=>
    obtain⟨g',ms,cl,h1,h2,h3,h4⟩:=hb;exact⟨g',ms,cl,h1,(xN.block g' (aY h2) (Fs cY hj' g' h1)).trans h2,h3,h4⟩
   |dmap e m=>
    obtain⟨g',ms,cl,h1,h2,h3,h4⟩:=hb;exact⟨g',ms,cl,h1,(xN.block g' (aY h2) (Fs cY hj' g' h1)).trans h2,h3,h4⟩
   |eo e last left=>
    obtain⟨g',gm,ms,cl,seen,h1,h2,h3,h4⟩:=hb;exact⟨g',gm,ms,cl,seen,h1,(xN.block g' (aY h2) (Fs cY hj' g' h1)).trans h2,h3,h4⟩
   |loop f p ph ts=>
    obtain⟨l,r,h1,h2,h3⟩:=hb;exact⟨l,r,h1,(xN.block l (aY h2) (Fs cY hj' l h1)).trans h2,h3⟩
   |dat t x=>
    obtain⟨g',c,e',h1,h2,h3⟩:=hb;exact⟨g',c,e',h1,(xN.block g' (aY h2) (Fs cY hj' g' h1)).trans h2,h3⟩
   |eu n rest=>
    obtain⟨g',s,pos,h1,h2,h3⟩:=hb;exact⟨g',s,pos,h1,(xN.block g' (aY h2) (Fs cY hj' g' h1)).trans h2,h3⟩
   |xb x=>
    obtain⟨v,h1,h2,h3⟩:=hb;exact⟨v,h1,D7 (fun g' tG=>xN.block g' (h3 g' tG).2 (Fs cY hj' g' ⟨v,h1,tG⟩)) h2,fun g' tG=>⟨(h3 g' tG).1,Wa6 (h3 g' tG).2 xN.size⟩⟩
 ·rcases at_ hj with ⟨rfl,rfl⟩|⟨cY,hj'⟩
  ·exact hi.free _ b g' hk (hcl g' tG) ad had hsp
  ·exact hi.free j b1 g' hj' tG ad had hsp
 ·rcases at_ yV with ⟨rfl,rfl⟩|⟨hik,qex⟩<;>rcases at_ xM with ⟨rfl,rfl⟩|⟨cY,qey⟩
  ·exact hij rfl
  ·exact hi.sep _ j b bj g' hij hk qey (hcl g' rO) n6
  ·exact hi.sep i _ bi b g' hij qex hk rO (hcl g' n6)
  ·exact hi.sep i j bi bj g' hij qex qey rO n6
theorem aD.mY{k g:Nat}{b b':aB}(hi:aD C.P B w0 Ψ β h w)(hk:h[k]?=some b)(hn:b.Bd=false)(hc:af β k g b)(xN:w.grownBy w' (some g))
 (hcl:∀g',af β k g' b'->af β k g' b) (hnew:cn C.P B Ψ β w' k b'):aD C.P B w0 Ψ β (h.set k b') w':=
 hi.NR hk hc xN (fun ad v hv e=>by rw[hi.free' hk hc hn ad e]at hv;cases hv) hcl hnew
theorem aD.rewrite{k g:Nat}{b b':aB}{cur cur':Array Value}{e:TypeId}(hi:aD C.P B w0 Ψ β h w)(hk:h[k]?=some b)(hn:b.Bd=false)(hc:af β k g b)(hh:w.heap[g]?=some (.cells cur e (0,0)))
 (hcl:∀g',af β k g' b'->af β k g' b) (hnew:cn C.P B Ψ β (w.setRow g cur') k b'):aD C.P B w0 Ψ β (h.set k b') (w.setRow g cur'):=
 hi.mY hk hn hc ⟨rfl,rfl,rfl,by simp,fun j _ hj=>setRow_other w g j _ (fun e=>hj (by rw[e]))⟩ hcl hnew
theorem qez{α:Type}(A S1 S2 S3 D d:List α)(hd:d.length=S2.length):
 (A++(S1++S2++S3)++D).take (A.length+S1.length)++d++(A++(S1++S2++S3)++D).drop (A.length+S1.length+d.length)=A++(S1++d++S3)++D:=by
 have e1:A++(S1++S2++S3)++D=(A++S1)++(S2++(S3++D)):=by simp[Waj]
 have e2:A.length+S1.length=(A++S1).length:=by simp
 rw[e1,hd,e2,Wb5,<-List.drop_drop,WcT,WcT];simp[Waj]
theorem splice{α:Type}(cs d:List α)(off n i:Nat)(h1:off+n<=cs.length)(h2:i+d.length<=n):
 cs.take (off+i)++d++cs.drop (off+i+d.length)=cs.take off++(((cs.drop off).take n).take i++d++((cs.drop off).take n).drop (i+d.length))++cs.drop (off+n):=by
 have e1:cs=cs.take off++(((cs.drop off).take n).take i++(((cs.drop off).take n).drop i).take d.length++((cs.drop off).take n).drop (i+d.length))++cs.drop (off+n):=by
  rw[<-List.drop_drop,Waj (((cs.drop off).take n).take i),Wax,Wax,Waj,<-List.drop_drop,Wax,Wax]
 have hA:(cs.take off).length=off:=by simp;omega
 have hS1:(((cs.drop off).take n).take i).length=i:=by simp;omega
 have hS2:((((cs.drop off).take n).drop i).take d.length).length=d.length:=by simp;omega
 have:=qez (cs.take off) (((cs.drop off).take n).take i) ((((cs.drop off).take n).drop i).take d.length) (((cs.drop off).take n).drop (i+d.length)) (cs.drop (off+n)) d hS2.symm
 rw[<-e1,hA,hS1]at this;exact this
theorem NS{α:Type}(cs d:List α)(p L:Nat)(h1:p+d.length<=L)(h2:L<=cs.length):
 (cs.take p++d++cs.drop (p+d.length)).take L=(cs.take L).take p++d++(cs.take L).drop (p+d.length):=by
 have hta:(cs.take p++d).length=p+d.length:=by rw[Wad,Waf];omega
 conv=>lhs;rw[show L=(cs.take p++d).length+(L-(p+d.length)) by rw[hta];omega,fO]
 rw[Wb6,Wcm (by omega),Wcz]
theorem Ft{t:Ty}{z:t.den}{av:AV}{v:Value}(hd:AZ h t av=some z)(hr:refs av=[])(hx:aE Ψ β av v):reads Ψ t z v.cells.toList:=
 rj (ku (bW.refl _) hd hx (by rw[hr];exact cc.nil))
theorem ic{av:AV}{v:Value}(Ii:refs av=[])(hx:aE Ψ β av v):∀{t:Ty} {x z:t.den} {off sz:Nat} {cs:List Value},DB t x off sz h av=some z->reads Ψ t x cs->
 v.cells.toList.length=sz/\(∀u∈v.cells.toList,u.oneCell'=true)/\off+sz<=cs.length/\reads Ψ t z (cs.take off++v.cells.toList++cs.drop (off+sz))
 | .pair a b,x,z,off,sz,cs,hs,hr=>by
  unfold DB at hs;split at hs
  ·rename_i y hy;simp only[Option.some.injEq]at hs;subst hs;split at hy
   ·rename_i hc;simp only[Wac,Wag]at hc;exact ic.whole Ii hx (hc.1) (by simp[Ty.cells,hc.2]) hy hr
   ·cases hy
  ·obtain⟨u1,u2,rfl,h1,h2⟩:=hr;have l1:=aj a _ _ h1;have l2:=aj b _ _ h2;split at hs
   ·rename_i hc;simp only[WaK]at hc;split at hs
    ·rename_i y hy;simp only[Option.some.injEq]at hs;subst hs;obtain⟨k1,k2,k3,k4⟩:=ic Ii hx hy h1;refine⟨k1,k2,by simp;omega,_,u2,?_,k4,h2⟩
     rw[WaR (by omega),WaV (by omega)]
     simp[Waj]
    ·cases hs
   ·split at hs
    ·rename_i hc;simp only[WaK]at hc;split at hs
     ·rename_i y hy;simp only[Option.some.injEq]at hs;subst hs;obtain⟨k1,k2,k3,k4⟩:=ic Ii hx hy h2;refine⟨k1,k2,by simp;omega,u1,_,?_,h1,k4⟩
      have e2:off+sz=u1.length+(off-a.cells+sz):=by omega
      rw[e2,eD];rw[Wce,Wap (by omega:u1.length<=off),l1]
      simp[Waj]
     ·cases hs
    ·cases hs
 | .vec n e,x,z,off,sz,cs,hs,hr=>by
  unfold DB at hs;split at hs
  ·rename_i hc;simp only[Wac,Wag]at hc;exact ic.whole Ii hx (hc.1) (by simp[Ty.cells,hc.2]) hs hr
  ·split at hs
   ·rename_i hc;simp only[Wac,Wag,WaK]at hc;obtain⟨⟨Fe,rfl⟩,hle⟩:=hc;obtain⟨HV,he2⟩:=gZ Fe;split at hs
    ·rename_i y hy;simp only[Option.some.injEq]at hs;subst hs;have hw:=Ft hy Ii hx;have hwl:=aj e _ _ hw;obtain⟨hl,hd⟩:=hr;have lc:=gx (aj e) _ _ hd;rw[HV,WaS]at lc;have bw:=zo (aj e) y _ hw x _ hd off (by rw[hl];omega)
     rw[HV,WaS]at bw;exact⟨by rw[hwl,HV],cN e _ _ hw,by omega,⟨by simpa using hl,bw⟩⟩
    ·cases hs
   ·cases hs
 | .dR _ _,x,z,off,sz,cs,hs,hr=>ic.leaf Ii hx hs hr
 | .int _,x,z,off,sz,cs,hs,hr=>ic.leaf Ii hx hs hr
 | .bool,x,z,off,sz,cs,hs,hr=>ic.leaf Ii hx hs hr
 | .qi,x,z,off,sz,cs,hs,hr=>ic.leaf Ii hx hs hr
 | .any,x,z,off,sz,cs,hs,hr=>ic.leaf Ii hx hs hr
 | .str,x,z,off,sz,cs,hs,hr=>ic.leaf Ii hx hs hr
 | .arr _,x,z,off,sz,cs,hs,hr=>ic.leaf Ii hx hs hr
 | .unit,x,z,off,sz,cs,hs,hr=>ic.leaf Ii hx hs hr
where
 whole {av:AV} {v:Value} (Ii:refs av=[]) (hx:aE Ψ β av v) {t:Ty} {x z:t.den} {off sz:Nat} {cs:List Value} (h0:off=0) (h1:t.cells=sz) (hs:AZ h t av=some z) (hr:reads Ψ t x cs):
  v.cells.toList.length=sz/\(∀u∈v.cells.toList,u.oneCell'=true)/\off+sz<=cs.length/\reads Ψ t z (cs.take off++v.cells.toList++cs.drop (off+sz)):=by
  have hw:=Ft hs Ii hx;have hwl:=aj t _ _ hw;have lc:=aj t _ _ hr;subst h0;refine⟨by omega,cN t _ _ hw,by omega,?_⟩
  rw[Wcy,WaY,Wbx (by omega),WaA]
  exact hw
 leaf {av:AV} {v:Value} (Ii:refs av=[]) (hx:aE Ψ β av v) {t:Ty} {x z:t.den} {off sz:Nat} {cs:List Value} (hs:(if Nat.beq off 0&&Nat.beq t.cells sz then AZ h t av else none)=some z) (hr:reads Ψ t x cs):
  v.cells.toList.length=sz/\(∀u∈v.cells.toList,u.oneCell'=true)/\off+sz<=cs.length/\reads Ψ t z (cs.take off++v.cells.toList++cs.drop (off+sz)):=by
  split at hs
  ·rename_i hc;simp only[Wac,Wag]at hc;exact ic.whole Ii hx hc.1 hc.2 hs hr
  ·cases hs
theorem Ea{e:Ty}{ys:List e.den}{us:List Value}{n:Nat}(hl:ys.length=n)(hd:gu (reads Ψ e) ys us):∀{t:Ty} {x z:t.den} {off:Nat} {cs:List Value},Qm t x off n e ys=some z->reads Ψ t x cs->
 reads Ψ t z (cs.take off++us++cs.drop (off+n))
 | .pair a b,x,z,off,cs,hs,hr=>by
  obtain⟨u1,u2,rfl,h1,h2⟩:=hr;have l1:=aj a _ _ h1;have l2:=aj b _ _ h2;unfold Qm at hs;split at hs
  ·rename_i hc;simp only[WaK]at hc;split at hs
   ·rename_i y hy;simp only[Option.some.injEq]at hs;subst hs;have k4:=Ea hl hd hy h1;refine⟨_,u2,?_,k4,h2⟩
    rw[WaR (by omega),WaV (by omega)]
    simp[Waj]
   ·cases hs
  ·split at hs
   ·rename_i hc;simp only[WaK]at hc;split at hs
    ·rename_i y hy;simp only[Option.some.injEq]at hs;subst hs;have k4:=Ea hl hd hy h2;refine⟨u1,_,?_,h1,k4⟩
     have e2:off+n=u1.length+(off-a.cells+n):=by omega
     rw[e2,eD];rw[Wce,Wap (by omega:u1.length<=off),l1]
     simp[Waj]
    ·cases hs
   ·cases hs
 | .vec m e',x,z,off,cs,hs,hr=>by
  unfold Qm at hs;split at hs
  ·rename_i hc;simp only[Wac,Wag]at hc;obtain⟨⟨rfl,rfl⟩,Fe⟩:=hc;obtain⟨he,rfl⟩:=bz hs;simp only[Ty.arr.injEq]at he;subst he;obtain⟨hl',hd'⟩:=hr;have lc:=gx (aj e) _ _ hd';rw[(gZ Fe).1,WaS,hl']at lc;refine⟨hl,?_⟩
   rw[Wcy,WaY,Wbx (by omega),WaA]
   exact hd
  ·cases hs
 | .dR _ _,x,z,off,cs,hs,hr=>by cases hs
 | .int _,x,z,off,cs,hs,hr=>by cases hs
 | .bool,x,z,off,cs,hs,hr=>by cases hs
 | .qi,x,z,off,cs,hs,hr=>by cases hs
 | .any,x,z,off,cs,hs,hr=>by cases hs
 | .str,x,z,off,cs,hs,hr=>by cases hs
 | .arr _,x,z,off,cs,hs,hr=>by cases hs
 | .unit,x,z,off,cs,hs,hr=>by cases hs
theorem xO{av:AV}(tW:gB [av]=true):refs av=[]:=by
 have:=gD tW
 simpa [cS]using this
theorem Fu{t:TypeId}{av xv:AV}{ad v:Value}{r:Out}(hi:aD C.P B w0 Ψ β h w)(ha:aE Ψ β av ad)(hx:aE Ψ β xv v)
 (hr:nr C h t av xv=some r):∃w',(Instr.storeAt t ad v).run C.P w= .ok () w'/\r.kill=none/\r.v= .lO/\aD C.P B w0 Ψ β r.heap w':=by
 unfold nr at hr;split at hr
 ·
  rename_i k off;split at hr
  ·rename_i cs hg;split at hr
   ·rename_i l sz hc hsz;split at hr
    ·rename_i hb;simp only[Wac,Wag,WaK,dw]at hb;simp at hr
     subst hr;obtain⟨g,c,e,bV,rfl,hh,hB,bu,h1⟩:=KZ hi hg ha;obtain⟨hl,HX⟩:=hO hi.one hc hx;have e1:=dr _ _ bu;have e2:=dr _ _ hl;have hrun:=mX (v:=v) hsz (by rw[<-Array.length_toList];omega) hh (off:=off) (by rw[<-Array.length_toList];omega) HX
     refine⟨_,hrun,rfl,rfl,?_⟩
     simp only[aZ];refine hi.rewrite (aC hg (by simp)) rfl (g:=g) bV hh (fun g' h'=>h') ⟨g,_,e,bV,setRow_heap w g c _ e _ hh,hB,?_,?_⟩
     ·exact wW bu hl (by omega)
     ·intro u hu;simp only[WbH]at hu;rcases hu with (hu|hu)|hu
      ·exact h1 u (Wa5 hu)
      ·exact HX u hu
      ·exact h1 u (Wbd hu)
    ·cases hr
   ·cases hr
  ·
   rename_i u y hg;split at hr
   ·rename_i sz hsz;split at hr
    ·rename_i tW;split at hr
     ·rename_i z hz;simp at hr
      subst hr;obtain⟨g,c,e,bV,rfl,hh,hB,hrd⟩:=vE hi hg ha;obtain⟨k1,k2,k3,k4⟩:=ic (xO tW) hx hz hrd;have hrun:=mX (v:=v) hsz (by rw[<-Array.length_toList];exact k1) hh (off:=off) (by rw[<-Array.length_toList];exact k3) k2
      refine⟨_,hrun,rfl,rfl,?_⟩
      simp only[aZ];refine hi.rewrite (aC hg (by simp)) rfl (g:=g) bV hh (fun g' h'=>h') ⟨g,_,e,bV,setRow_heap w g c _ e _ hh,hB,?_⟩
      rw[k1];exact k4
     ·cases hr
    ·cases hr
   ·cases hr
  ·cases hr
 ·
  rename_i k off m i;split at hr
  ·rename_i u y hg;split at hr
   ·rename_i sz e xs hsz hv;split at hr
    ·rename_i hc;simp only[Wac,Wag]at hc;obtain⟨rfl,tW⟩:=hc;split at hr
     ·rename_i z hz;split at hr
      ·rename_i y' hy';simp at hr
       subst hr;have bV:∃g,β[k]?=some (.pointer (some ⟨g,0,none⟩))/\ad= .pointer (some ⟨g,off+i.toNat,none⟩):=by
        obtain⟨g,h1,_,_,h2⟩:=ha;exact⟨g,h1,h2⟩
       obtain⟨g0,bV,hg0⟩:=bV;obtain⟨g,c,e',h0,h1,hag,hh,hB,hrd⟩:=TN hi hg ha;rw[hg0]at hag;simp at hag
       subst hag;subst hg0;obtain⟨Fe,hlen,hle,hd⟩:=o3 hv hrd;obtain⟨HV,he2⟩:=gZ Fe;have hw:=Ft hz (xO tW) hx;have hwl:=aj e _ _ hw;rw[HV]at hwl;have hlt:i.toNat<xs.length:=by omega
       have bw:=zo (aj e) z _ hw xs _ hd i.toNat hlt;rw[HV,WaS]at bw;have k4:=Ea (by simpa using hlen) bw hy' hrd
       have hrun:=mX (v:=v) hsz (by rw[<-Array.length_toList];exact hwl) hh (off:=off+i.toNat) (by rw[<-Array.length_toList];omega) (cN e _ _ hw)
       refine⟨_,hrun,rfl,rfl,?_⟩
       simp only[aZ];refine hi.rewrite (aC hg (by simp)) rfl (g:=g0) bV hh (fun g' h'=>h') ⟨g0,_,e',bV,setRow_heap w g0 c _ e' _ hh,hB,?_⟩
       rw[splice _ _ off m i.toNat hle (by omega),hwl]
       exact k4
      ·cases hr
     ·cases hr
    ·cases hr
   ·cases hr
  ·cases hr
 ·
  rename_i k sz i off;split at hr
  ·rename_i tid e xs hg;split at hr
   ·rename_i n hsz;split at hr
    ·rename_i hc;simp only[Wac,Wag]at hc;obtain⟨rfl,tW⟩:=hc;split at hr
     ·rename_i y hy;simp at hr
      subst hr;obtain⟨g,c,cur,bV,rfl,h0,hlt,hh,hlc,zA,hcz,hB,hcs,hd⟩:=Ff hi hg ha rfl;have hD:xs.getD i.toNat (dflt e)=xs[i.toNat]:=by simp[Wab,Waa hlt]
      rw[hD]at hy;have hcl:cur.toList.length=c*e.cells:=by rw[Array.length_toList];exact hcs
      have hmul:i.toNat*e.cells+e.cells<=xs.length*e.cells:=by
       rw[<-WbA];exact WaD _ (by omega)
      have qlJ:xs.length*e.cells<=c*e.cells:=WaD _ hlc;have hdr:=iJ (aj e) _ _ i.toNat hd;rw[Wa9 hlt]at hdr;obtain⟨us,rest,hsp,kN,_⟩:=hdr;have qeq:=aj e _ _ kN;have hS:((cur.toList.take (xs.length*e.cells)).drop (i.toNat*e.cells)).take e.cells=us:=by
       rw[hsp,<-qeq,Wb5]
      obtain⟨k1,k2,k3,k4⟩:=ic (xO tW) hx hy kN;have hrun:=mX (v:=v) hsz (by rw[<-Array.length_toList];exact k1) hh (off:=i.toNat*e.cells+off) (by rw[<-Array.length_toList];omega) k2
      refine⟨_,hrun,rfl,rfl,?_⟩
      simp only[aZ];refine hi.rewrite (aC hg (by simp)) rfl (g:=g) ⟨_,_,hcz,bV⟩ hh (fun g' h'=>h') (.inr ⟨g,c,_,by simpa using bV,hcz,hB,setRow_heap w g cur _ tid _ hh,by simpa using hlc,zA,?_,?_⟩)
      ·simp only[Wbp,Wad,Waf,List.length_drop,hcl,k1];omega
      ·simp only[WaX];have bw:=zo (aj e) y _ k4 xs _ hd i.toNat hlt;rw[NS _ _ _ _ (by omega) (by omega),splice _ _ (i.toNat*e.cells) e.cells off (by rw[Waf];omega) (by omega),hS,k1]
       exact bw
     ·cases hr
    ·cases hr
   ·cases hr
  ·cases hr
 ·
  rename_i k sz i;split at hr
  ·rename_i tid e xs hg;split at hr
   ·rename_i y n hy hsz;split at hr
    ·rename_i hb;simp only[Wac,Wag]at hb;obtain⟨⟨hn,n5⟩,tW⟩:=hb;simp at hr
     subst hr;obtain⟨g,c,cur,bV,rfl,h0,hlt,hh,hlc,zA,hcz,hB,hcs,hd⟩:=Bg hi hg ha (by omega)
     have hrefs:refs xv=[]:=by
      have:=gD tW
      simpa [cS]using this
     have vD:=rj (ku (bW.refl _) hy hx (by rw[hrefs];exact cc.nil))
     have hlv:=aj e _ _ vD;have hmul:i.toNat*e.cells+e.cells<=xs.length*e.cells:=by
      rw[<-WbA];exact WaD _ (by omega)
     have qlJ:xs.length*e.cells<=c*e.cells:=WaD _ hlc;have qif:sz=e.cells:=by omega
     have hrun:=mX (v:=v) hsz (by rw[<-Array.length_toList];omega) hh (off:=i.toNat*sz) (by rw[qif];omega) (cN e _ _ vD)
     refine⟨_,hrun,rfl,rfl,?_⟩
     simp only[aZ];refine hi.rewrite (aC hg (by simp)) rfl (g:=g) ⟨_,_,hcz,bV⟩ hh (fun g' h'=>h') (.inr ⟨g,c,_,by simpa using bV,hcz,hB,setRow_heap w g cur _ tid _ hh,by simpa using hlc,zA,?_,?_⟩)
     ·have hvs:v.cells.size=e.cells:=by rw[<-Array.length_toList];exact hlv
      simp only[Wbp,Wad,Waf,List.length_drop,Array.length_toList,qif];omega
     ·simp only[WaX,qif];have:=zo (aj e) y _ vD xs _ hd i.toNat hlt
      have e1:(cur.toList.take (i.toNat*e.cells)++v.cells.toList++cur.toList.drop (i.toNat*e.cells+v.cells.toList.length)).take (xs.length*e.cells)=
       (cur.toList.take (xs.length*e.cells)).take (i.toNat*e.cells)++v.cells.toList++(cur.toList.take (xs.length*e.cells)).drop (i.toNat*e.cells+e.cells):=by
       have hcl:cur.toList.length=c*e.cells:=by rw[Array.length_toList];exact hcs
       rw[Wb6,Wcm (by omega),hlv]
       have hta:(cur.toList.take (i.toNat*e.cells)).length=i.toNat*e.cells:=by rw[Waf];omega
       rw[Waj];have hsplit:xs.length*e.cells=(cur.toList.take (i.toNat*e.cells)).length+(v.cells.toList.length+(xs.length*e.cells-(i.toNat*e.cells+e.cells))):=by
        rw[hta,hlv];omega
       conv=>lhs;rw[hsplit,fO,fO]
       rw[Waj,Wcz]
      rw[e1];exact this
    ·cases hr
   ·cases hr
  ·cases hr
 ·cases hr
theorem Z4{t:TypeId}{av xv:AV}{ad v:Value}{r:Out}{fs:List (List AV)}{dW:List Act}(hi:aD C.P B w0 Ψ β h w)(hf:aQ Ψ β fs dW)(ha:aE Ψ β av ad)(hx:aE Ψ β xv v)
 (hr:nr C h t av xv=some r):I4 C B w0 Ψ w (do Instr.storeAt t ad v;pure .skip) r fs dW:=by
 obtain⟨w',hrun,hk,hv,hi'⟩:=Fu hi ha hx hr;refine⟨.skip,undef,β,w',oz hrun,.inr ⟨rfl,rfl⟩,?_,?_,?_⟩
 ·rw[hk];exact hi'
 ·rw[hk];exact hf
 ·rw[hv];rfl
theorem qig{av:AV}{v:Value}{e:Ty}{ys:List e.den}(hi:aD C.P B w0 Ψ β h w)(hx:aE Ψ β av v)(hs:Y5 h av=some ⟨e,ys⟩)(hne:0<ys.length)(HV:e.cells=1):
 ∃g off cap cells,v= .slice (some ⟨g,off,none⟩) ys.length cap/\gu (reads Ψ e) ys cells/\∀j u,cells[j]?=some u->w.cell? ⟨g,off+j,none⟩=some u:=by
 unfold Y5 at hs;split at hs
 ·rename_i k sz lo hi';split at hs
  ·rename_i tid e' xs hg;split at hs
   case isFalse=>cases hs
   rename_i hsz;simp only[Option.some.injEq,Sigma.mk.injEq]at hs;obtain⟨rfl,hs⟩:=hs;have hs:=eq_of_heq hs;subst hs;obtain⟨g,n,c,bV,h0,h1,h2,rfl⟩:=hx;have hsz:sz=1:=by simpa [Wag]using hsz
   subst hsz;rcases hi.blk k _ (aC hg (by simp)) with ⟨ad,h3,hxs⟩|⟨g',cap,cur,oY,hz,hB,hcell,hlc,zA,hcs,hd⟩
   ·subst hxs;simp at hne
   ·rw[bV]at oY;simp at oY
    obtain⟨rfl,rfl,rfl⟩:=oY;have hln:((xs.drop lo.toNat).take (hi'.toNat-lo.toNat)).length=hi'.toNat-lo.toNat:=by simp;omega
    refine⟨g,lo.toNat*1,_,_,by rw[hln],ja (aj e') _ _ (hi'.toNat-lo.toNat) (iJ (aj e') _ _ lo.toNat hd),fun j u hj=>?_⟩
    have hj2:=bM hj;rw[HV,Was]at hj2;split at hj2
    ·rw[bp hcell];simpa using hj2
    ·cases hj2
  ·cases hs
 ·obtain⟨ad,cap,rfl,_,_,h3⟩:=oX hi hx hs;rcases h3 with rfl|⟨cells,g,off,hd,rfl,hc⟩
  ·simp at hne
  ·exact⟨g,off,cap,cells,rfl,hd,hc⟩
theorem Z5{t t' ty:TypeId}{xv yv:AV}{x y:Value}{r:Out}{fs:List (List AV)}{dW:List Act}(hi:aD C.P B w0 Ψ β h w)(hf:aQ Ψ β fs dW)(hx:aE Ψ β xv x)(hy:aE Ψ β yv y)
 (hr:Qn C h t xv yv=some r) (hp:∀p,r.need=some p->p):I4 C B w0 Ψ w (do pure (.value (<-Builtin.copy_ #[t,t'] ty #[x,y]))) r fs dW:=by
 unfold Qn at hr;split at hr
 ·rename_i tid k lo hi' u Nc he hd hs;split at hr
  ·rename_i sz tid' e xs hsz hg;split at hr
   ·rename_i ys hcast;split at hr
    ·rename_i hc;simp only[Wac,Wag]at hc;obtain⟨NH,Fh⟩:=hc;simp only[Option.some.injEq]at hr;subst hr;obtain⟨p1,p2,p3,p5,p4⟩:=hp _ rfl;have hue:Ty.arr u=Ty.arr e:=by
      unfold bR at hcast;split at hcast
      ·assumption
      ·cases hcast
     cases hue;have qih:Nc=ys:=by
      unfold bR at hcast;split at hcast
      ·simpa using hcast
      ·cases hcast
     subst qih;have hu:=cO he;rcases hi.blk k _ (aC hg (by simp)) with ⟨ad,_,hxs⟩|⟨g,cap,cur,bV,hz,hB,hcell,hlc,zA,hcs,hrd⟩
     ·subst hxs;simp at p1
     have fk:∃c,x= .slice (some ⟨g,lo.toNat,none⟩) (hi'.toNat-lo.toNat) c:=by
      unfold qgO at hd;split at hd
      ·rename_i k';split at hd
       ·rename_i t1 e1 xs1 hg1;simp only[Option.some.injEq,Prod.mk.injEq]at hd;obtain⟨rfl,rfl,rfl⟩:=hd;rw[hg]at hg1;cases hg1;have hv:=hx.1;rw[bV]at hv;simp only[Option.some.injEq]at hv;exact⟨cap,by rw[<-hv];simp⟩
       ·cases hd
      ·rename_i k' sz' a b;split at hd
       ·rename_i n5;simp only[Option.some.injEq,Prod.mk.injEq]at hd;obtain⟨rfl,rfl,rfl⟩:=hd;obtain⟨g',n,c,oY,h0,h1,h2,rfl⟩:=hx;rw[bV]at oY;simp only[Option.some.injEq,Value.slice.injEq,Addr.mk.injEq,and_true]at oY;obtain⟨rfl,rfl,rfl⟩:=oY;have n5:sz'=1:=by simpa [Wag]using n5
        subst n5;exact⟨_,by rw[WaS]⟩
       ·cases hd
      ·cases hd
     obtain⟨c,rfl⟩:=fk;obtain⟨g2,off2,qoT,cells,rfl,hsr,qoU⟩:=qig hi hy hs p2 Fh;have hcl:cells.length=Nc.length:=by
      have:=gx (aj u) _ _ hsr
      rw[this,Fh,WaS]
     generalize hN:min (hi'.toNat-lo.toNat) Nc.length=N
     have hNl:N<=Nc.length:=by omega
     have Z6:cur.toList.length=cap:=by rw[Array.length_toList,hcs,Fh,WaS]
     have hinfo:(C.P.info? tid).map (·.size)=some 1:=by
      obtain⟨i,h1,h2⟩:=zy hsz;simp[h1,h2,NH]
     have hfit:lo.toNat+N<=xs.length:=by omega
     have hrun:=run_copy_row C.P w t t' ty tid g lo.toNat (hi'.toNat-lo.toNat) c ⟨g2,off2,none⟩ Nc.length qoT cur tid' (cells.take N) hu hinfo hcell
      (by rw[Waf,hcl,Wcm hNl,<-hN];exact Nat.min_comm _ _) (fun j v hj=>by
        rw[Addr.add_lit];rw[Was]at hj;split at hj
        ·exact qoU j v hj
        ·cases hj) (by rw[Waf,hcl,<-Array.length_toList,Z6];omega) (fun v hv=>ql (cN u) _ _ hsr v (Wa5 hv))
     have htl:(cells.take N).length=N:=by rw[Waf,hcl];omega
     rw[htl]at hrun;refine⟨.value (goInt N),goInt N,β,_,dX hrun,.inl rfl,?_,hf,aU.2 ⟨rfl,?_⟩⟩
     ·simp only[aZ];have hlen':(xs.take lo.toNat++Nc.take N++xs.drop (lo.toNat+N)).length=xs.length:=by
       simp only[Wad,Waf,List.length_drop];omega
      refine hi.rewrite (aC hg (by simp)) rfl (g:=g) ⟨_,_,hz,bV⟩ hcell (fun g' h'=>h') (.inr ⟨g,cap,_,by rw[hlen'];exact bV,hz,hB,setRow_heap w g cur _ tid' _ hcell,by rw[hlen'];exact hlc,zA,?_,?_⟩)
      ·simp only[Wbp,Wad,Waf,List.length_drop,Z6,Fh];omega
      ·rw[hlen',Fh,WaS];rw[Fh,WaS]at hrd;have e1:(cur.toList.take lo.toNat++cells.take N++cur.toList.drop (lo.toNat+N)).take xs.length=(cur.toList.take xs.length).take (lo.toNat*u.cells)++cells.take (N*u.cells)++(cur.toList.take xs.length).drop ((lo.toNat+N)*u.cells):=by
        rw[Fh,WaS,WaS,WaS,Wb6,Wcm (by omega),Wcz]
        have hta:(cur.toList.take lo.toNat++cells.take N).length=lo.toNat+N:=by rw[Wad,htl,Waf];omega
        conv=>lhs;rw[show xs.length=(cur.toList.take lo.toNat++cells.take N).length+(xs.length-(lo.toNat+N)) by rw[hta];omega,fO]
       rw[e1];exact eO _ _ _ _ (eO _ _ _ _ (ja (aj u) _ _ _ hrd) (ja (aj u) _ _ _ hsr)) (iJ (aj u) _ _ _ hrd)
     ·rw[mJ];unfold aa;simp only[maxLen]at zA;omega
    ·cases hr
   ·cases hr
  ·cases hr
 ·cases hr
theorem K5{P:Program}(w:World)(dT sT ty elem:TypeId)(g o dLen dCap:Nat)(s:ByteArray)(cur:Array Value)(t:TypeId)
 (hu:P.underlying dT=some (.slice elem)) (hs:(P.info? elem).map (·.size)=some 1) (hg:w.heap[g]?=some (.cells cur t (0,0))) (hfit:o+Nat.min s.size dLen<=cur.size):
 (Builtin.copy_ #[dT,sT] ty #[.slice (some ⟨g,o,none⟩) dLen dCap,.string s]).run P w=
   .ok (goInt (Nat.min s.size dLen)) (w.setRow g (cur.toList.take o++(byteCells s).take (Nat.min s.size dLen)++cur.toList.drop (o+Nat.min s.size dLen)).toArray):=by
 have hlen:((byteCells s).take (Nat.min s.size dLen)).length=Nat.min s.size dLen:=by
  rw[Waf];have:(byteCells s).length=s.size:=by simp[byteCells]
  rw[this];exact Wcm (WcM _ _)
 have h1:∀v∈(byteCells s).take (Nat.min s.size dLen),v.oneCell'=true:=by
  intro v hv;have hv:=Wa5 hv;simp only[byteCells,WbM]at hv;obtain⟨b,_,rfl⟩:=hv;rfl
 have hst:=run_storeCells_at P g o t ((byteCells s).take (Nat.min s.size dLen)) 0 cur w hg (by rw[hlen];simpa using hfit) h1
 have qJ:List.take (Nat.min s.size dLen) (List.map (fun b:UInt8=>Value.int IntKind.u8 (b.toNat:Int)) s.data.toList)=(byteCells s).take (Nat.min s.size dLen):=rfl
 rw[hlen]at hst;simp only[Wbu]at hst;cases hq:P.info? elem with
 |none=>simp[hq]at hs
 |some i=>
  simp[Builtin.copy_,run_underlying hu,Builtin.lenOf,Builtin.firstCells,sizeOf,typeInfo,hq]
  rw[qJ,hst];simp[Result.andThen]
theorem Z7{t t' ty:TypeId}{xv yv:AV}{x y:Value}{r:Out}{fs:List (List AV)}{dW:List Act}(hi:aD C.P B w0 Ψ β h w)(hf:aQ Ψ β fs dW)(hx:aE Ψ β xv x)(hy:aE Ψ β yv y)
 (hr:Qo C h t xv yv=some r):I4 C B w0 Ψ w (do pure (.value (<-Builtin.copy_ #[t,t'] ty #[x,y]))) r fs dW:=by
 unfold Qo at hr;split at hr
 ·rename_i k off n lo hi' l;split at hr
  ·rename_i tid he;split at hr
   ·rename_i sz hsz;split at hr
    ·rename_i NH;have NH:sz=1:=by simpa [Wag]using NH
     subst NH;unfold Y6 at hr;split at hr
     ·rename_i u z hg;split at hr
      ·rename_i e xs hv;split at hr
       ·rename_i ys hcast;split at hr
        ·rename_i z' Fk;simp only[Option.some.injEq]at hr;subst hr;obtain⟨heq,hys⟩:=bz hcast;simp only[Ty.arr.injEq]at heq;subst heq;have hys:ys=l:=hys;subst hys;obtain⟨rfl,hl,hl'⟩:=gX.1 hy;obtain⟨g,bV,h0,h1,h2,h3,rfl⟩:=hx;obtain⟨g',c,e',oY,rfl',hh,hB,hrd⟩:=vE (off:=0) (v:=.pointer (some ⟨g,0,none⟩)) hi hg ⟨g,bV,rfl⟩;have hgg:g'=g:=by simpa using rfl'.symm
         subst hgg;obtain⟨Fe,hlen,hle,hd⟩:=o3 hv hrd;have hmin:Nat.min (strOf ys).size (hi'.toNat-lo.toNat)=min (hi'.toNat-lo.toNat) ys.length:=by rw[dU];exact Nat.min_comm _ _
         generalize hN:min (hi'.toNat-lo.toNat) ys.length=N at*
         have hNl:N<=ys.length:=by omega
         have hinfo:(C.P.info? tid).map (·.size)=some 1:=by
          obtain⟨i,k1,k2⟩:=zy hsz;simp[k1,k2]
         have hrun:=K5 w t t' ty tid g' (off+lo.toNat) (hi'.toNat-lo.toNat) (n-lo.toNat) (strOf ys) c e' (cO he) hinfo hh (by rw[hmin,<-Array.length_toList];omega)
         rw[hmin]at hrun;have hbc:byteCells (strOf ys)=ys.map (Value.int .u8):=tH hl;rw[hbc]at hrun;have hcl:((ys.map (Value.int .u8)).take N).length=N:=by simp;omega
         have hcr:gu (reads Ψ (.int .u8)) (ys.take N) ((ys.map (Value.int .u8)).take N):=by
          rw[<-List.map_take];exact Fp _ fun c hc=>Z0 (hl c (Wa5 hc))
         have kN:gu (reads Ψ (.int .u8)) (xs.take lo.toNat++ys.take N++xs.drop (lo.toNat+N)) (((c.toList.drop off).take n).take lo.toNat++(ys.map (Value.int .u8)).take N++((c.toList.drop off).take n).drop (lo.toNat+N)):=by
          have k1:=ja (aj (.int .u8)) _ _ lo.toNat hd;have k2:=iJ (aj (.int .u8)) _ _ (lo.toNat+N) hd;simp only[Ty.cells,WaS]at k1 k2;exact eO _ _ _ _ (eO _ _ _ _ k1 hcr) k2
         have k4:=Ea (by simp only[Wad,Waf,List.length_drop];omega) kN Fk hrd
         refine⟨.value (goInt N),goInt N,β,_,dX hrun,.inl rfl,?_,hf,aU.2 ⟨rfl,?_⟩⟩
         ·simp only[aZ];refine hi.rewrite (aC hg (by simp)) rfl (g:=g') bV hh (fun g' h'=>h') ⟨g',_,e',bV,setRow_heap w g' c _ e' _ hh,hB,?_⟩
          have:=splice c.toList ((ys.map (Value.int .u8)).take N) off n lo.toNat hle (by omega)
          rw[hcl]at this;rw[this];exact k4
         ·rw[mJ];unfold aa;simp only[maxLen]at hl';omega
        ·cases hr
       ·cases hr
      ·cases hr
     ·cases hr
    ·cases hr
   ·cases hr
  ·cases hr
 ·cases hr
theorem qeB{t t' ty:TypeId}{xv yv:AV}{x y:Value}{r:Out}{fs:List (List AV)}{dW:List Act}(hi:aD C.P B w0 Ψ β h w)(hf:aQ Ψ β fs dW)(hx:aE Ψ β xv x)(hy:aE Ψ β yv y)
 (hr:Y7 C h t xv yv=some r) (hp:∀p,r.need=some p->p):I4 C B w0 Ψ w (do pure (.value (<-Builtin.copy_ #[t,t'] ty #[x,y]))) r fs dW:=by
 unfold Y7 at hr;split at hr
 ·rename_i r' hs;simp only[Option.some.injEq]at hr;subst hr;exact Z7 hi hf hx hy hs
 ·exact Z5 hi hf hx hy hr hp
theorem CG{t et:TypeId}(hm:Ba C t=some et):∃kt,C.P.underlying t=some (.map kt et)/\C.P.underlying kt=some (.int .i64):=by
 unfold Ba at hm;split at hm
 ·rename_i kt et' hu;split at hm
  ·rename_i hk;simp at hm
   subst hm;exact⟨kt,hu,hk⟩
  ·cases hm
 ·cases hm
theorem kO{t et:TypeId}{b:Bool}(hm:xA C t=some (b,et)):∃kt,C.P.underlying t=some (.map kt et)/\C.P.underlying kt=some (bif b then .int .i64 else .string):=by
 unfold xA at hm;split at hm
 ·rename_i kt et' hu;split at hm
  ·rename_i hk;simp at hm
   obtain⟨rfl,rfl⟩:=hm;exact⟨kt,hu,hk⟩
  ·rename_i hk;simp at hm
   obtain⟨rfl,rfl⟩:=hm;exact⟨kt,hu,hk⟩
  ·cases hm
 ·cases hm
theorem I6{b:Bool}{av:AV}{x:KK}{v:Value}(hk:keyOf b av=some x)(hv:aE Ψ β av v):v=x.v/\x.ok/\x.td=bif b then .int .i64 else .string:=by
 unfold keyOf at hk;split at hk
 ·simp only[Option.some.injEq]at hk;subst hk;exact⟨(aU.1 hv).1,trivial,rfl⟩
 ·simp only[Option.some.injEq]at hk;subst hk;have:=gX.1 hv
  exact⟨this.1,this.2.1,rfl⟩
 ·cases hk
theorem Z8{a b:Int}:Instr.sameNow (.int .i64) (.int .i64 a) (.int .i64 b)=some (decide (a=b)):=by
 by_cases h:a=b
 ·subst h;simp[Instr.sameNow]
 ·simp[Instr.sameNow,h]
theorem QN{a b:List Int}(ha:∀c∈a,0<=c/\c<=255)(hb:∀c∈b,0<=c/\c<=255):Instr.sameNow .string (.string (strOf a)) (.string (strOf b))=some (decide (a=b)):=by
 show some (strOf a==strOf b)=some (decide (a=b))
 congr 1
 rw[Bool.eq_iff_iff,MapKept.bytes_beq,decide_eq_true_iff];exact⟨Be ha hb,fun e=>by rw[e]⟩
theorem Bm{x:KK}(hx:x.ok):∀(es:List (KK×AV)) (l:List MapEntry) (i:Nat),l.map (·.key)=es.map (fun p=>p.1.v)->aL Ψ β (es.map Prod.snd) (l.map (·.val))->(∀p∈es,okE p.2=true/\p.1.ok)->
 (Kw x es=true->Instr.findNow x.td x.v l i=some none)/\
   ∀(fo:Bool) (k:AV->Bool->Prop) (z:AV),IG fo k z x es->∃r,Instr.findNow x.td x.v l i=some r/\match r with|none=>k z false|some (_,u)=>∃v,aE Ψ β v u/\k v true
 |[],l,i,h,_,_=>by
  simp only[WbN,List.map_eq_nil_iff]at h;subst h;exact⟨fun _=>rfl,fun fo k z hk=>⟨none,rfl,hk⟩⟩
 |(n,f)::es,[],i,h,_,_=>by simp at h
 |(n,f)::es,e::l,i,h,hr,ho=>by
  simp only[Wat,List.cons.injEq]at h;obtain⟨hk,hl⟩:=h;obtain⟨u,us,hu,hru,hrs⟩:=hr;simp only[Wat,List.cons.injEq]at hu;obtain⟨rfl,rfl⟩:=hu;obtain⟨ih1,ih2⟩:=Bm hx es l (i+1) hl hrs fun p hp=>ho p (Wal _ hp)
  have hn:=(ho (n,f) (Waq ..)).2;have both:∀c:Bool,Instr.sameNow x.td x.v n.v=some c->(Instr.findNow x.td x.v (e::l) i=if c then some (some (i,e.val)) else Instr.findNow x.td x.v l (i+1)):=fun c hc=>by
   simp only[Instr.findNow,hk,hc];cases c<;>rfl
  have fork:∀(c:Bool) (p:Prop) (fo:Bool) (k:AV->Bool->Prop) (z:AV),(c=true↔p)->Instr.sameNow x.td x.v n.v=some c->Zd fo c p (k f true) (IG fo k z x es)->
   ∃r,Instr.findNow x.td x.v (e::l) i=some r/\match r with|none=>k z false|some (_,u)=>∃v,aE Ψ β v u/\k v true:=fun c p fo k z hcp hc hf=>by
   rw[both c hc];cases c with
   |true=>
    refine⟨_,rfl,f,hru,?_⟩
    cases fo with
    |true=>exact hf
    |false=>exact hf.1 (hcp.1 rfl)
   |false=>
    refine ih2 fo k z ?_
    cases fo with
    |true=>exact hf
    |false=>exact hf.2 fun g=>by cases hcp.2 g
  refine⟨fun hno=>?_,fun fo k z hf=>?_⟩
  ·simp only[Kw,Wac,WaU]at hno;cases x<;>cases n<;>simp only[Zb]at hno
   ·rw[both _ Z8,if_neg (by rw[show decide _=false from hno.1.2];decide)]
    exact ih1 hno.2
   ·exact absurd hno.1.1 (by decide)
   ·exact absurd hno.1.1 (by decide)
   ·rw[both _ (QN hx hn),if_neg (by rw[show decide _=false from hno.1.2];decide)]
    exact ih1 hno.2
  ·unfold IG at hf;cases x<;>cases n
   ·exact fork _ _ fo k z (by simp) Z8 hf
   ·exact hf.elim
   ·exact hf.elim
   ·exact fork _ _ fo k z (by simp) (QN hx hn) hf
theorem K6{k:Nat}{es:List (KK×AV)}{v:Value}(hi:aD C.P B w0 Ψ β h w)(hg:aH h k= .fH es)(hv:aE Ψ β (.sl k) v):
 ∃g ms cl,v= .map (some g)/\β[k]?=some (.map (some g))/\w.heap[g]?=some (.map ms cl)/\¬B g/\ms.toList.map (·.key)=es.map (fun p=>p.1.v)/\aL Ψ β (es.map Prod.snd) (ms.toList.map (·.val))/\∀p∈es,okE p.2=true/\p.1.ok:=by
 obtain⟨g,ms,cl,h1,h2,h3,h4⟩:=hi.blk k _ (aC hg (by simp))
 have hv:β[k]?=some v:=hv.1;rw[h1]at hv;simp at hv
 exact⟨g,ms,cl,hv.symm,h1,h2,h3,h4⟩
theorem Fv{t:TypeId}{fs:List (List AV)}{dW:List Act}(hi:aD C.P B w0 Ψ β h w)(hf:aQ Ψ β fs dW):
 I4 C B w0 Ψ w (do pure (.value (<-Instr.makeMap t none))) ⟨none,.sl (hlen h),h++[.fH []],none⟩ fs dW:=by
 have hn:(β++[Value.map (some w.heap.size)])[h.length]?=some (.map (some w.heap.size)):=by rw[<-hi.len];simp
 refine⟨.value (.map (some w.heap.size)),_,β++[.map (some w.heap.size)],w.alloc (.map #[] 0),dX rfl,.inl rfl,?_,bF (bW.refl _) (aS _) _ _ hf,?_⟩
 ·refine hi.push ((Below.refl _ _).alloc (Wan _) _) rfl ⟨w.heap.size,#[],0,hn,heap_alloc_new w _,gW hi.size,rfl,rfl,fun p hp=>by simp at hp⟩ (fun g hc=>?_)
  simp only[af]at hc;rw[hn]at hc;simp at hc
  omega
 ·refine⟨?_,by simp[hole]⟩
  rw[cF];exact hn
theorem NT{t:TypeId}{fs:List (List AV)}{dW:List Act}(hi:aD C.P B w0 Ψ β h w)(hf:aQ Ψ β fs dW):
 I4 C B w0 Ψ w (do pure (.value (<-Instr.makeMap t none))) ⟨none,.sl (hlen h),h++[.xb (.jP [])],none⟩ fs dW:=by
 have hn:(β++[Value.map (some w.heap.size)])[h.length]?=some (.map (some w.heap.size)):=by rw[<-hi.len];simp
 have hx:∀g,gV (.map (some w.heap.size)) g (.jP [])->g=w.heap.size:=fun g hg=>by
  rcases hg with hg|⟨p,hp,_⟩
  ·simp only[Value.map.injEq,Option.some.injEq]at hg;exact hg.symm
  ·cases hp
 refine⟨.value (.map (some w.heap.size)),_,β++[.map (some w.heap.size)],w.alloc (.map #[] 0),dX rfl,.inl rfl,?_,bF (bW.refl _) (aS _) _ _ hf,?_⟩
 ·refine hi.push ((Below.refl _ _).alloc (Wan _) _) rfl ⟨_,hn,⟨w.heap.size,#[],0,rfl,heap_alloc_new w _,rfl,fun p hp=>by simp at hp,Wby⟩,fun g hg=>?_⟩ (fun g hc=>?_)
  ·rw[hx g hg];exact⟨gW hi.size,(Array.getElem?_eq_some_iff.1 (heap_alloc_new w (.map #[] 0))).1⟩
  ·obtain⟨v,h1,h2⟩:=hc;rw[hn]at h1;cases h1;rw[hx g h2];exact Wan _
 ·refine⟨?_,by simp[hole]⟩
  rw[cF];exact hn
theorem I7{v:AV}{u:Value}(hv:aE Ψ β v u):∀{l:List AV} {us:List Value},aL Ψ β l us->aL Ψ β (l++[v]) (us++[u])
 |[],us,h=>by
  simp only[aL]at h;subst h;exact⟨u,[],rfl,hv,rfl⟩
 |_::_,_,⟨a,b,rfl,h1,h2⟩=>⟨a,b++[u],rfl,h1,I7 hv h2⟩
theorem VA{t:TypeId}{m key v:AV}{mv kv vv:Value}{r:Out}{fs:List (List AV)}{dW:List Act}(hi:aD C.P B w0 Ψ β h w)(hf:aQ Ψ β fs dW)(hm:aE Ψ β m mv)(hk:aE Ψ β key kv)(hv:aE Ψ β v vv)
 (hr:Kx C h t m key v=some r):I4 C B w0 Ψ w (do Instr.mapUpdate t mv kv vv;pure .skip) r fs dW:=by
 unfold Kx at hr;split at hr
 ·rename_i b et k Eb;split at hr
  ·rename_i es x hg hx;split at hr
   ·rename_i hnot;simp only[Option.some.injEq]at hr;subst hr;rw[Wac]at hnot;obtain⟨kt,hu,tI⟩:=kO Eb;obtain⟨g,ms,cl,rfl,bV,hh,hB,hes,hrs,hok⟩:=K6 hi hg hm;obtain⟨rfl,hxo,hxt⟩:=I6 hx hk;rw[<-hxt]at tI;have hfind:=(Bm hxo es ms.toList 0 hes hrs hok).1 hnot.1;refine⟨.skip,undef,β,{w with heap:=w.heap.setIfInBounds g (.map (ms.push {key:=x.v,val:=vv,born:=cl}) (cl+1))},?_,.inr ⟨rfl,rfl⟩,?_,hf,rfl⟩
    ·have hck:∀e n,(Instr.checkKey e (n+1) kt x.v).run C.P w= .ok () w:=fun e n=>run_checkKey tI (k:=x.v) (by cases x<;>exact (by first|rfl|trivial)) e n
     exact oz (by simp[Instr.mapUpdate,run_underlying hu,MapKept.run_getObj_map hh,hck,run_findKey tI hfind,MapKept.run_setObj_map _ hh,Result.andThen])
    ·simp only[aZ];have hlt:=aY hh;refine hi.mY (aC hg (by simp)) rfl (g:=g) bV ⟨rfl,rfl,rfl,by simp,fun j _ hj=>(MapKept.heap_set (o':=_) hh).2 j (fun e=>hj (by rw[e]))⟩ (fun g' h'=>h') ⟨g,_,_,bV,(MapKept.heap_set hh).1,hB,?_,?_,?_⟩
     ·simp[hes]
     ·rw[Wb3,WaQ,WaQ];exact I7 hv hrs
     ·intro p hp;rcases List.mem_append.1 hp with hp|hp
      ·exact hok p hp
      ·simp only[Wbs]at hp;subst hp;exact⟨hnot.2,hxo⟩
   ·cases hr
  ·cases hr
 ·cases hr
theorem Bn{e:Ty}(x:Int):∀(m:List (Int×e.den)) (l:List MapEntry) (i:Nat),zn Ψ e m l->
 (yY m x=none/\Instr.findNow (.int .i64) (.int .i64 x) l i=some none/\∀y,AX m x y=m++[(x,y)])\/
 ∃j y u,yY m x=some y/\Instr.findNow (.int .i64) (.int .i64 x) l i=some (some (i+j,u.val))/\l[j]?=some u/\u.key= .int .i64 x/\rv Ψ e y u.val/\
  ∀(y':e.den) (v':Value),IntKind.i64.has x->rv Ψ e y' v'->zn Ψ e (AX m x y') (l.set j {u with key:=.int .i64 x,val:=v'})
 |[],l,i,h=>.inl ⟨rfl,by
    have h:l=[]:=h;subst h;rfl,fun _=>rfl⟩
 |p::m,_,i,⟨u,l,rfl,hk,hh,hv,hl⟩=>by
  by_cases hx:p.1=x
  ·refine .inr ⟨0,p.2,u,by simp[yY,hx],by simp[Instr.findNow,Instr.sameNow,hk,hx],rfl,by rw[hk,hx],hv,fun y' v' hn AS=>?_⟩
   simp only[AX,hx,if_true,List.set_cons_zero];exact⟨_,l,rfl,rfl,hn,AS,hl⟩
  ·have hb:(x==p.1)=false:=by simpa using fun h=>hx h.symm
   rcases Bn x m l (i+1) hl with ⟨h1,h2,h3⟩|⟨j,y,u',h1,h2,h3,h4,h5,h6⟩
   ·exact .inl ⟨by simp only[yY,hx,if_false];exact h1,by simp only[Instr.findNow,hk,Instr.sameNow,if_true,hb];exact h2,fun y=>by simp only[AX,hx,if_false,h3 y,WaP]⟩
   ·refine .inr ⟨j+1,y,u',by simp only[yY,hx,if_false];exact h1,?_,by simpa using h3,h4,h5,fun y' v' hn AS=>?_⟩
    ·simp only[Instr.findNow,hk,Instr.sameNow,if_true,hb];rw[h2,show i+1+j=i+(j+1) by omega]
    ·simp only[AX,hx,if_false,List.set_cons_succ];exact⟨u,_,rfl,hk,hh,hv,h6 y' v' hn AS⟩
theorem xP{α:Type}(f:α->α):∀(l:List α) (j:Nat) (e:α),l[j]?=some e->l.modify j f=l.set j (f e)
 |[],_,_,h=>by simp at h
 |_::_,0,_,h=>by simp at h;simp[h]
 |_::l,j+1,e,h=>by simp[xP f l j e (by simpa using h)]
theorem I8{e:Ty}{x:Int}{y:e.den}{u:MapEntry}(hk:u.key= .int .i64 x)(hx:IntKind.i64.has x)(hv:rv Ψ e y u.val):∀{m:List (Int×e.den)} {l:List MapEntry},zn Ψ e m l->zn Ψ e (m++[(x,y)]) (l++[u])
 |[],l,h=>by
  have h:l=[]:=h;subst h;exact⟨u,[],rfl,hk,hx,hv,rfl⟩
 |_::_,_,⟨u',l',rfl,h1,h2,h3,h4⟩=>⟨u',l'++[u],rfl,h1,h2,h3,I8 hk hx hv h4⟩
theorem NU{α:Type}{n:Int}{x:α}:∀{m:List (Int×α)} {k:Int},k∈(AX m n x).map Prod.fst->k∈m.map Prod.fst\/k=n
 |[],k,h=>.inr (by simpa [AX]using h)
 |p::m,k,h=>by
  unfold AX at h;split at h
  ·rename_i hp;simp only[Wat,Wbi]at h ⊢;rcases h with h|h
   ·exact .inr h
   ·exact .inl (.inr h)
  ·simp only[Wat,Wbi]at h ⊢;rcases h with h|h
   ·exact .inl (.inl h)
   ·exact (NU h).imp .inr id
theorem xQ{α:Type}{n:Int}{x:α}:∀{m:List (Int×α)},(m.map Prod.fst).Nodup->((AX m n x).map Prod.fst).Nodup
 |[],_=>by simp[AX]
 |p::m,h=>by
  simp only[Wat,Wb9]at h;unfold AX;split
  ·rename_i hp;simp only[Wat,Wb9];rw[<-hp];exact h
  ·rename_i hp;simp only[Wat,Wb9];exact⟨fun hm=>(NU hm).elim h.1 fun e=>hp e,xQ h.2⟩
theorem TR{k:Nat}{e:Ty}{m:List (Int×e.den)}{v:Value}(hi:aD C.P B w0 Ψ β h w)(hg:aH h k= .dmap e m)(hv:aE Ψ β (.sl k) v):
 ∃g ms cl,v= .map (some g)/\β[k]?=some (.map (some g))/\w.heap[g]?=some (.map ms cl)/\¬B g/\zn Ψ e m ms.toList/\(m.map Prod.fst).Nodup/\(ms.toList.map (·.born)).Nodup/\(∀x∈ms.toList,x.born<cl):=by
 obtain⟨g,ms,cl,h1,h2,h3,h4⟩:=hi.blk k _ (aC hg (by simp))
 have hv:β[k]?=some v:=hv.1;rw[h1]at hv;simp at hv
 exact⟨g,ms,cl,hv.symm,h1,h2,h3,h4⟩
theorem NV{t et:TypeId}{e:Ty}{fs:List (List AV)}{dW:List Act}(hi:aD C.P B w0 Ψ β h w)(hf:aQ Ψ β fs dW)(hm:Ba C t=some et):
 I4 C B w0 Ψ w (do pure (.value (<-Instr.makeMap t none))) ⟨none,.sl (hlen h),h++[.dmap e []],none⟩ fs dW:=by
 have hn:(β++[Value.map (some w.heap.size)])[h.length]?=some (.map (some w.heap.size)):=by rw[<-hi.len];simp
 refine⟨.value (.map (some w.heap.size)),_,β++[.map (some w.heap.size)],w.alloc (.map #[] 0),dX rfl,.inl rfl,?_,bF (bW.refl _) (aS _) _ _ hf,?_⟩
 ·refine hi.push ((Below.refl _ _).alloc (Wan _) _) rfl ⟨w.heap.size,#[],0,hn,heap_alloc_new w _,gW hi.size,rfl,Wby,Wby,fun x hx=>by simp at hx⟩ (fun g hc=>?_)
  simp only[af]at hc;rw[hn]at hc;simp at hc
  omega
 ·refine⟨?_,by simp[hole]⟩
  rw[cF];exact hn
theorem Fx{t:TypeId}{m key v:AV}{mv kv vv:Value}{r:Out}{fs:List (List AV)}{dW:List Act}(hi:aD C.P B w0 Ψ β h w)(hf:aQ Ψ β fs dW)(hm:aE Ψ β m mv)(hk:aE Ψ β key kv)(hv:aE Ψ β v vv)
 (hr:DY C h t m key v=some r):I4 C B w0 Ψ w (do Instr.mapUpdate t mv kv vv;pure .skip) r fs dW:=by
 unfold DY at hr;split at hr
 ·rename_i et k n Eb;split at hr
  ·rename_i e mm hg;split at hr
   ·rename_i x hx;split at hr
    ·rename_i tW;simp only[Option.some.injEq]at hr;subst hr;obtain⟨kt,hu,tI⟩:=CG Eb;obtain⟨g,ms,cl,rfl,bV,hh,hB,hmr,o7,hbn,hbc⟩:=TR hi hg hm;obtain⟨rfl,hn⟩:=aU.1 hk;have qil:refs v=[]:=by
      have:=gD tW
      simpa [cS]using this
     have hxv:rv Ψ e x vv:=ku (bW.refl Ψ) hx hv (by rw[qil];exact cc.nil)
     rcases Bn n mm ms.toList 0 hmr with ⟨h1,h2,h3⟩|⟨j,y,u,h1,h2,h3,h4,h5,h6⟩
     ·refine⟨.skip,undef,β,{w with heap:=w.heap.setIfInBounds g (.map (ms.push {key:=.int .i64 n,val:=vv,born:=cl}) (cl+1))},?_,.inr ⟨rfl,rfl⟩,?_,hf,rfl⟩
      ·exact oz (by simp[Instr.mapUpdate,run_underlying hu,MapKept.run_getObj_map hh,run_checkKey tI (k:=.int .i64 n) rfl,run_findKey tI h2,MapKept.run_setObj_map _ hh,Result.andThen])
      ·simp only[aZ];refine hi.mY (aC hg (by simp)) rfl (g:=g) bV ⟨rfl,rfl,rfl,by simp,fun j _ hj=>(MapKept.heap_set (o':=_) hh).2 j (fun e=>hj (by rw[e]))⟩ (fun g' h'=>h') ⟨g,_,_,bV,(MapKept.heap_set hh).1,hB,?_,xQ o7,?_,?_⟩
       ·rw[h3,Wb3];exact I8 rfl hn hxv hmr
       ·rw[Wb3,WaQ,List.nodup_append];refine⟨hbn,by simp,fun a ha b hb=>?_⟩
        simp only[Wat,WbN,Wbs]at hb;obtain⟨z,hz,rfl⟩:=List.mem_map.1 ha;have:=hbc z hz
        omega
       ·intro z hz;rw[Wb3]at hz;rcases List.mem_append.1 hz with hz|hz
        ·have:=hbc z hz;omega
        ·simp only[Wbs]at hz;subst hz;exact Nat.lt_succ_self _
     ·have hlt:j<ms.toList.length:=by
       rcases Wak j ms.toList.length with h'|h'
       ·exact h'
       ·rw[Wai h']at h3;cases h3
      have hmj:ms[j]?=some u:=by simpa using h3
      have Z9:(ms.modify j (fun e'=>{e' with key:=.int .i64 n,val:=vv})).toList=ms.toList.set j {u with key:=.int .i64 n,val:=vv}:=by
       rw[Array.toList_modify,xP _ _ _ _ h3]
      have qg2:(ms.toList.set j {u with key:=.int .i64 n,val:=vv}).map (·.born)=ms.toList.map (·.born):=by
       rw[List.map_set];refine WbF fun i=>?_
       rw[WcD];split
       ·rename_i hij;subst hij;split
        ·rw[Wba,h3];rfl
        ·rename_i hc;exact absurd (by simpa using hlt) hc
       ·rfl
      refine⟨.skip,undef,β,{w with heap:=w.heap.setIfInBounds g (.map (ms.modify j (fun e'=>{e' with key:=.int .i64 n,val:=vv})) cl)},?_,.inr ⟨rfl,rfl⟩,?_,hf,rfl⟩
      ·rw[WaO]at h2;exact oz (by simp[Instr.mapUpdate,run_underlying hu,MapKept.run_getObj_map hh,run_checkKey tI (k:=.int .i64 n) rfl,run_findKey tI h2,MapKept.run_setObj_map _ hh,Result.andThen,hmj,h4,Instr.keyThatStays,Instr.sameBits])
      ·simp only[aZ];refine hi.mY (aC hg (by simp)) rfl (g:=g) bV ⟨rfl,rfl,rfl,by simp,fun j _ hj=>(MapKept.heap_set (o':=_) hh).2 j (fun e=>hj (by rw[e]))⟩ (fun g' h'=>h') ⟨g,_,_,bV,(MapKept.heap_set hh).1,hB,?_,xQ o7,?_,?_⟩
       ·rw[Z9];exact h6 x vv hn hxv
       ·rw[Z9,qg2];exact hbn
       ·intro z hz;rw[Z9]at hz;have Fk:z.born∈(ms.toList.set j {u with key:=.int .i64 n,val:=vv}).map (·.born):=List.mem_map.2 ⟨z,hz,rfl⟩;rw[qg2]at Fk;obtain⟨z',hz1,hz2⟩:=List.mem_map.1 Fk;have:=hbc z' hz1
        omega
    ·cases hr
   ·cases hr
  ·cases hr
 ·cases hr
theorem QO{t:TypeId}{m key:AV}{mv kv:Value}{ok:Bool}{r:Out}{fs:List (List AV)}{dW:List Act}(hi:aD C.P B w0 Ψ β h w)(hf:aQ Ψ β fs dW)(hm:aE Ψ β m mv)(hk:aE Ψ β key kv)
 (hr:Ky C h t m key ok=some r):I4 C B w0 Ψ w (do pure (.value (<-Instr.lookup t mv kv ok))) r fs dW:=by
 unfold Ky at hr;split at hr
 ·rename_i et k n Eb;split at hr
  ·rename_i e mm z hg hz;split at hr
   ·rename_i x hx;split at hr
    ·rename_i tW;have:=aI hr;subst this
     obtain⟨kt,hu,tI⟩:=CG Eb;obtain⟨g,ms,cl,rfl,bV,hh,hB,hmr,o7,hbn,hbc⟩:=TR hi hg hm;obtain⟨rfl,hn⟩:=aU.1 hk;obtain⟨ti,zv,hti,YN,rfl⟩:=fJ hz;have qil:refs (ofV zv)=[]:=by
      have:=gD tW
      simpa [cS]using this
     have hzv:rv Ψ e x zv:=ku (β:=β) (h:=h) (bW.refl Ψ) hx (iU zv) (by rw[qil];exact cc.nil)
     have fin:∀(vv:Value) (b:Bool) (y:e.den),(yY mm n).getD x=y->(yY mm n).isSome=b->rv Ψ e y vv->(do pure (.value (<-Instr.lookup t (.map (some g)) (.int .i64 n) ok)):Sem Next).run C.P w= .ok (.value (if ok then .tuple #[vv,.bool b] else vv)) w->
      I4 C B w0 Ψ w (do pure (.value (<-Instr.lookup t (.map (some g)) (.int .i64 n) ok))) ⟨none,if ok then .lW [.d e ((yY mm n).getD x),.d .bool (yY mm n).isSome] else .d e ((yY mm n).getD x),h,none⟩ fs dW:=fun vv b y e1 e2 hv hrun=>by
      refine⟨_,_,β,w,hrun,.inl rfl,hi,hf,?_⟩
      rw[e1,e2];cases ok with
      |true=>exact⟨[vv,.bool b],rfl,vv,_,rfl,hv,.bool b,[],rfl,fP.2 rfl,rfl⟩
      |false=>exact hv
     rcases Bn n mm ms.toList 0 hmr with ⟨h1,h2,h3⟩|⟨j,y,u,h1,h2,h3,h4,h5,h6⟩
     ·refine fin zv false x (by rw[h1];rfl) (by rw[h1];rfl) hzv ?_
      cases ok<;>simp[Instr.lookup,run_underlying hu,MapKept.run_getObj_map hh,run_checkKey tI (k:=.int .i64 n) rfl,run_findKey tI h2,zeroValue,typeInfo,hti,YN,Result.andThen]
     ·refine fin u.val true y (by rw[h1];rfl) (by rw[h1];rfl) h5 ?_
      cases ok<;>simp[Instr.lookup,run_underlying hu,MapKept.run_getObj_map hh,run_checkKey tI (k:=.int .i64 n) rfl,run_findKey tI h2,Result.andThen]
    ·cases hr
   ·cases hr
  ·cases hr
 ·cases hr
theorem Ext.refl(B:Nat->Prop)(Ψ:Pr):Ext B Ψ Ψ:=⟨bW.refl _,fun _ _ h=>.inl h⟩
theorem Ext.trans{B:Nat->Prop}{Ψ ax qaa:Pr}(h:Ext B Ψ ax)(h':Ext B ax qaa):Ext B Ψ qaa:=
 ⟨fun a v hv=>h'.1 a v (h.1 a v hv),fun ad v hv=>(h'.2 ad v hv).elim (h.2 ad v) .inr⟩
theorem Step.ext{ax:Pr}(hs:Step Ψ w ax w')(hB:(∀k,B k->k<w.heap.size)):Ext B Ψ ax:=
 ⟨hs.le,fun ad v hv=>(hs.new ad v hv).imp id fun h=>QD hB h.1⟩
theorem eW{l:List aB}{k:Nat}{b:aB}(h:l[k]?=some b):k<l.length:=by
 rcases Wak k l.length with h'|h'
 ·exact h'
 ·rw[Wai h']at h;cases h
theorem zG{ax:Pr}(hi:aD C.P B w0 Ψ β h w)(hle:bW Ψ ax){k:Nat}{tid:TypeId}{e:Ty}{xs:List e.den}(hg:aH h k= .grow tid e xs)
 (hp:∀g n cap,cap≠0->β[k]?=some (.slice (some ⟨g,0,none⟩) n cap)->∀i v,w.cell? ⟨g,i,none⟩=some v->ax ⟨g,i,none⟩=some v) {u:Value} (hu:β[k]?=some u):rv ax (.arr e) xs u:=by
 rcases hi.blk k _ (aC hg (by simp)) with ⟨ad,h1,rfl⟩|⟨g,cap,cur,h1,hz,hB,hh,hn,zA,hcs,hd⟩
 ·rw[hu]at h1;simp at h1
  subst h1;exact⟨_,⟨ad,0,rfl,Wan _,by simp[maxLen],.inl rfl⟩,rfl⟩
 ·have hp':=hp g _ cap hz h1;rw[hu]at h1;simp at h1
  subst h1;refine⟨_,⟨_,cap,rfl,hn,zA,.inr ⟨_,eS (aR hle e) _ _ hd,g,0,rfl,fun j v hj=>hp' _ v ?_⟩⟩,rfl⟩
  rw[bp hh,WaO];rw[Was]at hj;split at hj
  ·simpa using hj
  ·cases hj
open Classical in
noncomputable def given(Ψ:Pr)(β:List Value)(w:World)(k:Nat):Pr:=fun ad=>
 if (∃n cap,cap≠0/\β[k]?=some (.slice (some ⟨ad.block,0,none⟩) n cap))/\ad.spot=none then w.cell? ad else Ψ ad
theorem qab{k g n cap:Nat}(hz:cap≠0)(bV:β[k]?=some (.slice (some ⟨g,0,none⟩) n cap))(i:Nat):given Ψ β w k ⟨g,i,none⟩=w.cell? ⟨g,i,none⟩:=by
 unfold given;rw[if_pos ⟨⟨n,cap,hz,bV⟩,rfl⟩]
theorem sx{s:St}(hi:aD C.P B w0 Ψ β s.heap w)(hf:aQ Ψ β (s.top::s.below) As)(k:Nat):
 ∃ax,Ext B Ψ ax/\aD C.P B w0 ax β (s.freeze k).heap w/\aQ ax β ((s.freeze k).top::(s.freeze k).below) As/\cc ax β s.heap [k]/\
  ∀(j:Nat) (tid:TypeId) (e:Ty) (xs:List e.den),j≠k->aH s.heap j= .grow tid e xs->aH (s.freeze k).heap j= .grow tid e xs:=by
 unfold St.freeze;split
 ·rename_i tid e xs hg;have hk:=aC hg (by simp)
  have hle:bW Ψ (given Ψ β w k):=by
   intro ad v hv;have h1:=hi.prom ad v hv;unfold given;split
   ·rename_i hc;exact mS hc.2 h1
   ·exact hv
  have hrd:∀u:Value,β[k]?=some u->rv (given Ψ β w k) (.arr e) xs u:=fun u hu=>
   zG hi hle hg (fun g n cap hz bV i v hv=>by rw[qab hz bV];exact hv) hu
  have NW:∀g:Nat,β[k]?=some (.pointer (some ⟨g,0,none⟩))->β[k]?=some (.pointer (some ⟨g,0,none⟩)):=fun _ h=>h
  have TS:∀{j:Nat} {b:aB},((kg k (.d (.arr e) xs) s.heap).set k .gone)[j]?=some b->(j=k/\b= .gone)\/(j≠k/\∃b',s.heap[j]?=some b'/\b=(mM k (.d (.arr e) xs) b')):=by
   intro j b hb;by_cases cY:j=k
   ·subst cY;have hlt:j<(kg j (.d (.arr e) xs) s.heap).length:=by rw[uz];exact eW hk
    rw[WaC hlt]at hb;simp at hb
    exact .inl ⟨rfl,hb.symm⟩
   ·rw[War (Wa0 cY)]at hb;exact .inr ⟨cY,uy _ _ _ _ _ hb⟩
  have hcl:∀{j g:Nat} {b b':aB},b=(mM k (.d (.arr e) xs) b')->af β j g b->af β j g b':=by
   intro j g b b' hb hc;subst hb;cases b'<;>exact hc
  have qlL:∀{g n cap:Nat},cap≠0->β[k]?=some (.slice (some ⟨g,0,none⟩) n cap)->af β k g (.grow tid e xs):=fun hz bV=>⟨_,_,hz,bV⟩
  refine⟨given Ψ β w k,⟨hle,fun ad v hv=>?_⟩,?_,?_,?_,?_⟩
  ·unfold given at hv;split at hv
   ·rename_i hc;obtain⟨⟨n,cap,hz,bV⟩,_⟩:=hc;exact .inr (ct (hi.blk k _ hk) (qlL hz bV)).1
   ·exact .inl hv
  ·show aD C.P B w0 (given Ψ β w k) β (bw (kg k (.d (.arr e) xs) s.heap) k .gone) w
   rw[aZ];refine⟨hi.low,hi.size,fun ad v hv=>?_,fun ad v hv hsp=>?_,by simp[uz,hi.len],hi.one,fun j b hb=>?_,fun j b g hb hc ad had hsp=>?_,fun i j bi bj g hij yV xM rO n6=>?_,hi.gQ.le hle⟩
   ·unfold given at hv;split at hv
    ·rename_i hc;exact E5 hc.2 hv
    ·exact hi.prom ad v hv
   ·unfold given at hv;split at hv
    ·rename_i hc;rw[hc.2]at hsp;cases hsp
    ·exact hi.own ad v hv hsp
   ·rcases TS hb with ⟨_,rfl⟩|⟨cY,b',hb',rfl⟩
    ·trivial
    ·have hB:=hi.blk j _ hb';cases b' with
     |gone=>trivial
     |log ys Y own xs=>exact jQ hB (fun _ h=>h) hle.m (Wan _) fun _ _=>rfl
     |kV ys Y own=>exact jR hB (fun _ h=>h) hle.m (Wan _) fun _ _=>rfl
     |cells cs=>
      obtain⟨g,c,e',h1,h2,h3,h4,h5⟩:=hB;exact⟨g,c,e',h1,h2,h3,iK k _ hle hrd (fun _ _ _ h=>h) NW (fun _ h=>h) _ _ h4,h5⟩
     |grow tid' e' xs'=>
      refine hB.imp id ?_
      rintro⟨g,cap,cur,h1,h2,h3,h4,h5,h6,h7,h8⟩
      exact⟨g,cap,cur,h1,h2,h3,h4,h5,h6,h7,eS (aR hle e') _ _ h8⟩
     |fH es=>
      obtain⟨g,ms,cl,h1,h2,h3,h4,h5,h6⟩:=hB;refine⟨g,ms,cl,h1,h2,h3,h4,?_,h6⟩
      have:aL (given Ψ β w k) β (qS k (.d (.arr e) xs) (es.map Prod.snd)) _:=iK k _ hle hrd (fun _ _ _ h=>h) NW (fun _ h=>h) _ _ h5
      rwa [E6 k _ fun p hp=>(h6 p hp).1]at this
     |dmap e' m=>
      obtain⟨g,ms,cl,h1,h2,h3,h4,h5⟩:=hB;exact⟨g,ms,cl,h1,h2,h3,jl hle h4,h5⟩
     |eo e' last left=>
      obtain⟨g,gm,ms,cl,seen,h1,h2,h3,h4,h5,h6⟩:=hB;exact⟨g,gm,ms,cl,seen,h1,h2,h3,hle _ _ h4,jl hle h5,h6.1,h6.2.1,h6.2.2.imp id fun ⟨p,x,s',a1,a2,a3,a4,a5,a6⟩=>⟨p,x,s',a1,a2,a3,a4,a5,Nz hle a6⟩⟩
     |loop f p ph ts=>
      obtain⟨l,r,h1,h2,h3,h4,h5,h6,h7,h8⟩:=hB;exact⟨l,r,h1,h2,h3,h4,iK k _ hle hrd (fun _ _ _ h=>h) NW (fun _ h=>h) _ _ h5,hle _ _ h6,fun i v hv=>hle _ _ (h7 i v hv),h8⟩
     |dat t x=>
      obtain⟨g,c,e',h1,h2,h3,h4⟩:=hB;exact⟨g,c,e',h1,h2,h3,aR hle t x _ h4⟩
     |eu n rest=>exact hB
     |xb x=>
      obtain⟨v,h1,h2,h3⟩:=hB;exact⟨v,h1,TL hle h2,h3⟩
   ·rcases TS hb with ⟨_,rfl⟩|⟨cY,b',hb',hbe⟩
    ·exact hc.elim
    ·have tG:=hcl hbe hc;unfold given;split
     ·rename_i qlM;obtain⟨⟨n,cap,hz,bV⟩,_⟩:=qlM;rw[had]at bV;exact (hi.sep j k _ _ g cY hb' hk tG (qlL hz bV)).elim
     ·exact hi.free j _ g hb' tG ad had hsp
   ·rcases TS yV with ⟨_,rfl⟩|⟨_,bi',qex,qoZ⟩
    ·exact rO.elim
    ·rcases TS xM with ⟨_,rfl⟩|⟨_,bj',qey,qo0⟩
     ·exact n6.elim
     ·exact hi.sep i j _ _ g hij qex qey (hcl qoZ rO) (hcl qo0 n6)
  ·exact uA k _ hle hrd (fun _ _ _ h=>h) NW (fun _ h=>h) (s.top::s.below) As hf
  ·intro k' hk' tid' e' xs' hg' u hu;simp only[Wbs]at hk';subst hk';rw[hg]at hg';cases hg';exact hrd u hu
  ·intro j tid' e' xs' cY hg';show aH (bw (kg k (.d (.arr e) xs) s.heap) k .gone) j=_
   rw[aZ];have h1:=aC hg' (by simp)
   have h2:(kg k (.d (.arr e) xs) s.heap)[j]?=some (.grow tid' e' xs'):=by
    have hlt:j<(kg k (.d (.arr e) xs) s.heap).length:=by rw[uz];exact eW h1
    have h3:=Waa hlt;obtain⟨b',hb',hbe⟩:=uy _ _ _ _ _ h3;rw[h1]at hb';simp at hb'
    subst hb';rw[h3,hbe];rfl
   exact zH (by rw[War (Wa0 cY)];exact h2)
 ·rename_i hng;refine⟨Ψ,Ext.refl _ _,hi,hf,fun k' hk' tid e xs hg u hu=>?_,fun _ _ _ _ _ h=>h⟩
  simp only[Wbs]at hk';subst hk';exact absurd hg (hng _ _ _)
where
 zH:∀{h:List aB} {j:Nat} {b:aB},h[j]?=some b->aH h j=b
  |[],_,_,hb=>by simp at hb
  |b0::h,0,_,hb=>by simpa [aH]using hb
  |b0::h,j+1,_,hb=>by
   simp only[aH];exact zH (by simpa using hb)
theorem NY{o:Oper}{r:Out}{fs:List (List AV)}{dW:List Act}(hi:aD C.P B w0 Ψ β h w)(hf:aQ Ψ β fs dW)(cI:∀x∈o.op.operands,aE Ψ β (ev fr x) (a.eval x))
 (hr:DC C fr h o.op=some r) (hp:∀p,r.need=some p->p):
 ∃n v ax β' w',(execOp a.eval o).run C.P w= .ok n w'/\(n= .value v\/(n= .skip/\v=undef))/\Ext B Ψ ax/\aD C.P B w0 ax β' (match r.kill with|none=>r.heap|some k=>kg k .bJ r.heap) w'/\
  aQ ax β' (match r.kill with|none=>fs|some k=>Ni k .bJ fs) dW/\aE ax β' r.v v:=by
 by_cases hn:neutral o.op=true
 ·obtain⟨h1,h2,v,ax,w',e1,e2,e3⟩:=wZ hi cI hn hr hp;rw[h1,h2];exact⟨.value v,v,ax,β,w',e1,.inl rfl,e2.ext hi.size,hi.step e2,bF e2.le (fun _ _ h=>h) _ _ hf,e3⟩
 ·have key:I4 C B w0 Ψ w (execOp a.eval o) r fs dW->∃n v ax β' w',(execOp a.eval o).run C.P w= .ok n w'/\(n= .value v\/(n= .skip/\v=undef))/\Ext B Ψ ax/\aD C.P B w0 ax β' (match r.kill with|none=>r.heap|some k=>kg k .bJ r.heap) w'/\
   aQ ax β' (match r.kill with|none=>fs|some k=>Ni k .bJ fs) dW/\aE ax β' r.v v:=
   fun ⟨n,v,β',w',e1,e2,e3,e4,e5⟩=>⟨n,v,Ψ,β',w',e1,e2,Ext.refl _ _,e3,e4,e5⟩
  by_cases hbx:∃bt y r',o.op= .box bt y/\IE C h bt (ev fr y)=some r'
  ·obtain⟨bt,y,r',ho,hb⟩:=hbx;obtain⟨dst,op,ty,pos,after,guard⟩:=o;simp only at ho cI hr
   subst ho;simp only[DC,hb,Option.some.injEq]at hr;subst hr;have hx:=cI y (by simp[Op.operands])
   cases had:C.Y3 bt with
   |true=>
    unfold IE at hb;rw[had,cond_true]at hb;exact key (qet hi hf hx hb)
   |false=>
   generalize ev fr y=av at hb hx
   obtain⟨u,z,hr',hz⟩:∃(u:Ty) (z:u.den),iH h (.rp u z)=some r'/\rv Ψ u z (a.eval y):=by
    unfold IE at hb;rw[had,cond_false]at hb;split at hb
    ·rename_i u z;split at hb
     ·exact⟨u,z,hb,hx⟩
     ·cases hb
    ·rename_i cs;split at hb
     ·split at hb
      ·rename_i Ii;split at hb
       ·rename_i u hu;split at hb
        ·rename_i z hz;exact⟨u,z,hb,ku (bW.refl _) hz hx (by rw[Ii];exact cc.nil)⟩
        ·cases hb
       ·cases hb
      ·cases hb
     ·cases hb
    ·cases hb
   have:=aI hr';subst this
   obtain⟨cs,hcs,hv⟩:=hz;have hone:∀v:Value,v.oneCell'=true->v.cells= #[v]:=by
    intro v h;cases v<;>first|rfl|simp[Value.oneCell']at h
   have hv:(a.eval y).cells=cs.toArray:=by
    cases ht:u.isAgg with
    |true=>rw[ht]at hv;simp at hv;rw[hv];rfl
    |false=>
     rw[ht]at hv;simp at hv
     have h1:=cN u z cs hcs (a.eval y) (by simp[hv])
     rw[hone _ h1,hv]
   have hst:=step_block hi cs bt;refine⟨.value (.pointer (some ⟨w.heap.size,0,none⟩)),_,_,β,_,?_,.inl rfl,hst.ext hi.size,hi.step hst,bF hst.le (fun _ _ h=>h) _ _ hf,⟨w.heap.size,0,cs,rfl,aR hst.le u z cs hcs,fun j v' hj=>?_⟩⟩
   ·simp[execOp,Instr.box,newVar,newRow,hv]
   ·rw[sq];simpa using hj
  apply key
  obtain⟨dst,op,ty,pos,after,guard⟩:=o;simp only at cI hn hr
  cases op<;>first|(simp[neutral]at hn;done)|(simp[DC]at hr;done)|skip
  case alloc t=>exact ZZ hi hf hr
  case box t x=>
   have hnone:IE C h t (ev fr x)=none:=by
    cases hq:IE C h t (ev fr x) with
    |none=>rfl
    |some r'=>exact absurd ⟨t,x,r',rfl,hq⟩ hbx
   simp only[DC,hnone]at hr;exact qid hi hf (cI x (by simp[Op.operands])) hr
  case store t x y=>exact Z4 hi hf (cI x (by simp[Op.operands])) (cI y (by simp[Op.operands])) hr
  case makeMap t res=>
   cases res with
   |some _=>simp[DC]at hr
   |none=>
    simp only[DC]at hr;split at hr
    ·rename_i et hm;split at hr
     ·simp only[Option.some.injEq]at hr;subst hr;exact NV hi hf hm
     ·split at hr
      ·simp only[Option.some.injEq]at hr;subst hr;exact NT hi hf
      ·simp only[Option.some.injEq]at hr;subst hr;exact Fv hi hf
    ·split at hr
     ·simp only[Option.some.injEq]at hr;subst hr;exact Fv hi hf
     ·cases hr
  case insert t m kx v=>
   simp only[DC]at hr;split at hr
   ·rename_i r' hr';simp only[Option.some.injEq]at hr;subst hr;exact VA hi hf (cI m (by simp[Op.operands])) (cI kx (by simp[Op.operands])) (cI v (by simp[Op.operands])) hr'
   ·exact Fx hi hf (cI m (by simp[Op.operands])) (cI kx (by simp[Op.operands])) (cI v (by simp[Op.operands])) hr
  case mapUpdate t m kx v=>exact Fx hi hf (cI m (by simp[Op.operands])) (cI kx (by simp[Op.operands])) (cI v (by simp[Op.operands])) hr
  case lookup t m kx ok=>exact QO hi hf (cI m (by simp[Op.operands])) (cI kx (by simp[Op.operands])) hr
  case makeSlice t x y=>exact qew hi hf (cI x (by simp[Op.operands])) (cI y (by simp[Op.operands])) hr hp
  case call c=>
   obtain⟨callee,args,ats⟩:=c;have hargs:∀x∈args.toList,aE Ψ β (ev fr x) (a.eval x):=fun x hx=>cI x (by simp only[Op.operands,Call.operands,Wbf];exact .inr (by simpa using hx))
   cases callee with
   |value f=>simp[DC]at hr
   |invoke r m=>simp[DC]at hr
   |builtin b=>
   have bu:=ia (Ψ:=Ψ) (β:=β) args.toList hargs;have hmap:=rm a.eval args;have hr':ld C h b ats.toList (tw fr args.toList)=some r:=hr;generalize tw fr args.toList=l at*
   generalize args.toList.map a.eval=vs at*
   unfold ld at hr';split at hr'<;>first|(simp[neutral]at hn;done)|(cases hr';done)|skip
   ·rename_i x y;split at hr'
    ·rename_i t tx hts;obtain⟨u,vs',rfl,hu,hl⟩:=bu;obtain⟨v,qin,rfl,hv,hl⟩:=hl;simp only[aL]at hl;subst hl;have Fy:ats= #[t,tx]:=by rw[<-Wbl (xs:=ats),hts]
     subst Fy;obtain⟨n,v',β',w',e1,e2,e3,e4,e5⟩:=Vz (ty:=ty) hi hf hu hv hr' hp;refine⟨n,v',β',w',?_,e2,e3,e4,e5⟩
     rw[<-e1];simp[execOp,resolve,invoke,builtin,hmap]
    ·cases hr'
   ·rename_i x y;split at hr'
    ·rename_i t tx hts;obtain⟨u,vs',rfl,hu,hl⟩:=bu;obtain⟨v,qin,rfl,hv,hl⟩:=hl;simp only[aL]at hl;subst hl;have Fy:ats= #[t,tx]:=by rw[<-Wbl (xs:=ats),hts]
     subst Fy;obtain⟨n,v',β',w',e1,e2,e3,e4,e5⟩:=qeB (t':=tx) (ty:=ty) hi hf hu hv hr' hp;refine⟨n,v',β',w',?_,e2,e3,e4,e5⟩
     rw[<-e1];simp[execOp,resolve,invoke,builtin,hmap]
    ·cases hr'
end Go.AM
