import Derived.Test.YtobfmplofoofkaaGreatDoorKz4
set_option linter.unusedSimpArgs false
set_option linter.unusedVariables false
namespace Go.AM
open Go.RowKit
variable {B:Nat->Prop} {w0:World} {C:Ctx} {Ψ bL:Pr} {β:List Value} {h:List aB} {w w':World} {fr:List AV} {a a0:Act} {As:List Act} {W:List Nat}
theorem js{listed:Array Bool}{i:Nat}(h:listed.getD i true=false):listed.getD i false=false:=by
 rw[Wah]at*
 cases hx:listed[i]? with
 |none=>rw[hx]at h;simp at h
 |some b=>rw[hx]at h;simpa using h
theorem La{listed:Array Bool}{i:Nat}(hi:i<listed.size)(h:listed.getD i false=false):listed.getD i true=false:=by
 rw[Wah]at*
 rw[Wa1 hi]at*
 simpa using h
theorem vI{t:Nat}:∀{l:List Nat},ue t l=true↔t∈l
 |[]=>by simp[ue]
 |u::l=>by simp[ue,vI (l:=l),Wag]
theorem FF{t:Nat}:∀{l:List Nat},H8 t l=true↔t∈l
 |[]=>by simp[H8]
 |u::l=>by simp[H8,FF (l:=l),Wag]
theorem zI{o:Oper}{j:Nat}(he:vt o j=true):∃e∈o.after,Region.binds .any e=true/\e.on=j:=by
 unfold vt at he;rw[WbQ]at he;obtain⟨e,hm,hc⟩:=he;simp only[Wac,Wag]at hc;exact⟨e,hm,hc⟩
theorem uJ{i:Nat}{o:Oper}(hb:qV i o=true):∀e∈o.after,Region.binds .any e=true->e.on<i:=by
 intro e hm hbd;unfold qV at hb;rw[Array.all_eq_true']at hb;have:=hb e hm
 simp only[hbd,Bool.not_true,WbO,Nat.blt_eq]at this;exact this
theorem dz{t:Nat}:∀{l:List Nat},ck t l=true↔t∈l
 |[]=>by simp[ck]
 |u::l=>by simp[ck,dz (l:=l),Wag]
theorem n8{o:Oper}{j:Nat}(h:j∈fN o):∃e∈o.after,Region.binds .any e=true/\e.on=j:=by
 simp only[fN,WbM,WbI]at h;obtain⟨e,⟨h1,h2⟩,h3⟩:=h;exact⟨e,by simpa using h1,h2,h3⟩
def ig(all:Array Oper)(listed:Array Bool):Prop:=
 ∀i o,all[i]?=some o->listed.getD i false=true->∀e∈o.after,Region.binds .any e=true->listed.getD e.on false=true
theorem lz{all:Array Oper}{listed:Array Bool}(hc:ig all listed):∀(k:Nat) (S:List Nat),(∀j∈S,listed.getD j false=true)->∀j∈CD all k S,listed.getD j false=true
 |0,S,hS=>hS
 |k+1,S,hS=>by
  unfold CD;split
  ·rename_i hk;split
   ·rename_i o ho;refine lz hc k _ (fun j hj=>?_)
    rcases List.mem_append.1 hj with h|h
    ·obtain⟨e,he,hb,rfl⟩:=n8 h;exact hc k o ho (hS k (dz.1 hk)) e he hb
    ·exact hS j h
   ·exact lz hc k S hS
  ·exact lz hc k S hS
theorem FH{S:List Nat}:∀{i:Nat},Tv S i=true->∀j,j<i->j∈S
 |0,_,j,hj=>by omega
 |i+1,hd,j,hj=>by
  simp only[Tv,Wac]at hd;rcases Wak j i with h|h
  ·exact FH hd.2 j h
  ·have:j=i:=by omega
   subst this;exact dz.1 hd.1
theorem CL{all:Array Oper}{listed:Array Bool}{o:Oper}{i:Nat}(hc:ig all listed)(hd:KD all o i=true)(hr:∀e∈o.after,Region.binds .any e=true->listed.getD e.on false=true):
 ∀j,j<i->listed.getD j false=true:=fun j hj=>
 lz hc i _ (fun k hk=>let ⟨e,he,hb,hk⟩:=n8 hk;hk▸hr e he hb) j (FH hd j hj)
theorem ig.set{all:Array Oper}{listed:Array Bool}{i:Nat}{o:Oper}(hc:ig all listed)(ho:all[i]?=some o)(hr:∀e∈o.after,Region.binds .any e=true->listed.getD e.on false=true):
 ig all (listed.setIfInBounds i true):=by
 have up:∀j,listed.getD j false=true->(listed.setIfInBounds i true).getD j false=true:=by
  intro j hj;rw[Wah]at hj ⊢;by_cases hji:j=i
  ·subst hji;have hlt:j<listed.size:=by
    rcases Wak j listed.size with h|h
    ·exact h
    ·rw[WaW h]at hj;simp at hj
   rw[Wbv hlt];rfl
  ·rw[WaN (Wa0 hji)];exact hj
 intro j oj N8 hl e he hb;apply up
 by_cases hji:j=i
 ·subst hji;rw[ho]at N8;simp at N8
  subst N8;exact hr e he hb
 ·refine hc j oj N8 ?_ e he hb
  rw[Wah,WaN (Wa0 hji)]at hl;rw[Wah];exact hl
theorem qo{all:Array Oper}:∀{l:List Oper} {i0:Nat},rU all i0 l=true->∀j o,l[j]?=some o->KD all o (i0+j)=true/\qV (i0+j) o=true
 |[],_,_,j,o,hj=>by simp at hj
 |o'::l,i0,ht,0,o,hj=>by
  simp at hj
  subst hj;simp only[rU,Wac]at ht;exact ht.1
 |o'::l,i0,ht,j+1,o,hj=>by
  simp only[rU,Wac]at ht;have:=qo ht.2 j o (by simpa using hj)
  rwa [show i0+1+j=i0+(j+1) by omega]at this
theorem jt{ops:Array Oper}{listed:Array Bool}{i:Nat}:i∈Region.ready .any ops listed↔listed.getD i true=false/\∃o,ops[i]?=some o/\∀e∈o.after,Region.binds .any e=true->listed.getD e.on false=true:=mem_ready
theorem vJ{ops:Array Oper}{i:Nat}{o:Oper}{K:Act->World->Prop}{Q:Exit->Act->World->Prop}(ho:ops[i]?=some o)
 {ro:Option Nat} (h:if Region.wanted o (yielded ops a.tmps) then o.wpIn (Fw ro) 0 C.P a w K Q else K (a.put o.dst undef) w):wpOpIn (Fw ro) 0 C.P ops Q i K a w:=by
 unfold wpOpIn;simp only[ho];split
 ·rename_i hw;rw[if_pos hw]at h;exact h
 ·rename_i hw;rw[if_neg hw]at h;exact⟨fun _ _=>trivial,h⟩
theorem T3{ro:Option Nat}(ops:Array Oper)(Q:Exit->Act->World->Prop):∀(rest:List Oper) (i0 fuel:Nat) (listed:Array Bool) (a:Act) (w:World),rest=ops.toList.drop i0->i0<=ops.size->rU ops i0 rest=true->listed.size=ops.size->ig ops listed->
 (∀j,j<ops.size->listed.getD j false=decide (j<i0))->rest.length<=fuel->wpListIn (Fw ro) 0 C.P ops Q rest a w->wpAnyIn (Fw ro) 0 C.P .any ops Q fuel listed a w
 |[],i0,fuel,listed,a,w,w7,hi0,_,hsz,_,hl,_,hw=>by
  have hsize:ops.size<=i0:=by
   have:=congrArg List.length w7
   simp at this
   omega
  have hnone:Region.ready .any ops listed=[]:=by
   cases hr:Region.ready .any ops listed with
   |nil=>rfl
   |cons i l=>
    obtain⟨h1,o,h2,_⟩:=jt.1 (show i∈Region.ready .any ops listed by rw[hr];simp)
    have hlt:i<ops.size:=by
     rcases Wak i ops.size with h'|h'
     ·exact h'
     ·rw[WaW h']at h2;cases h2
    have h3:=hl i hlt;rw[js h1]at h3;simp at h3
    omega
  cases fuel with
  |zero=>exact⟨hnone,hw⟩
  |succ n=>exact⟨fun _=>hw,fun i hi=>by rw[hnone]at hi;cases hi⟩
 |o::rest,i0,0,listed,a,w,_,_,_,_,_,_,hf,_=>by simp at hf
 |o::rest,i0,fuel+1,listed,a,w,w7,hi0,ht,hsz,hcl,hl,hf,hw=>by
  have hlt:i0<ops.size:=by
   have:=congrArg List.length w7
   simp at this
   omega
  have ho:ops[i0]?=some o:=by
   have:(ops.toList.drop i0)[0]?=some o:=by rw[<-w7];rfl
   rw[WaZ]at this;simpa using this
  have qiz:rest=ops.toList.drop (i0+1):=by
   have:=congrArg List.tail w7
   simpa [List.tail_drop]using this
  have qal:i0∈Region.ready .any ops listed:=by
   rw[jt];refine⟨La (by omega) (by rw[hl i0 hlt];simp),o,ho,fun e he hb=>?_⟩
   have h1:=uJ (qo ht 0 o rfl).2 e he hb;rw[hl e.on (by omega)]
   simp only[decide_eq_true_eq];omega
  refine⟨fun hr=>(by rw[hr]at qal;cases qal),fun i hi=>?_⟩
  obtain⟨h1,oi,h2,h3⟩:=jt.1 hi;have hilt:i<ops.size:=by
   rcases Wak i ops.size with h'|h'
   ·exact h'
   ·rw[WaW h']at h2;cases h2
  have hge:i0<=i:=by
   have:=hl i hilt
   rw[js h1]at this;simp at this
   exact this
  have Vv:i=i0:=by
   rcases Wak i0 i with hgt|hle
   ·exfalso
    have hoi:(o::rest)[i-i0]?=some oi:=by
     rw[w7,WaZ,show i0+(i-i0)=i by omega]
     simpa using h2
    have hd:=(qo ht _ _ hoi).1;rw[show i0+(i-i0)=i by omega]at hd
    have:=CL hcl hd h3 i0 hgt
    rw[hl i0 hlt]at this;simp at this
   ·omega
  subst Vv;rw[ho]at h2;simp at h2
  subst h2;have K:∀a' w',wpListIn (Fw ro) 0 C.P ops Q rest a' w'->wpAnyIn (Fw ro) 0 C.P .any ops Q fuel (listed.setIfInBounds i true) a' w':=fun a' w' hw'=>
   T3 ops Q rest (i+1) fuel _ a' w' qiz (by omega) (by simp only[rU,Wac]at ht;exact ht.2) (by simpa using hsz) (hcl.set ho h3) (fun j hj=>by
    by_cases hji:j=i
    ·subst hji;rw[Wah,Wbv (by omega)]
     simp
    ·rw[Wah,WaN (Wa0 hji),<-Wah,hl j hj];simp only[decide_eq_decide];omega) (by simpa using hf) hw'
  refine vJ ho ?_
  unfold wpListIn at hw;split
  ·rename_i e8;rw[if_pos e8]at hw;exact Oper.wpIn_mono K hw
  ·rename_i e8;rw[if_neg e8]at hw;exact K _ _ hw.2
def unl(l:List Bool):Nat:=l.countP (!·)
theorem Lb:∀{l:List Bool} {i:Nat},l[i]?=some false->unl (l.set i true)+1=unl l
 |[],i,h=>by simp at h
 |b::l,0,h=>by
  simp at h
  subst h;simp[unl]
 |b::l,i+1,h=>by
  have:=Lb (l:=l) (i:=i) (by simpa using h)
  simp only[unl,List.set_cons_succ,List.countP_cons]at*
  omega
theorem By:∀{l:List Bool} {m:Nat},m<=l.length->(∀j,m<=j->j<l.length->l[j]?=some false)->l.length-m<=unl l
 |[],m,_,_=>by simp
 |b::l,0,_,h=>by
  have h0:=h 0 (Wan _) (by simp)
  simp at h0
  subst h0;have:=By (l:=l) (m:=0) (by omega) (fun j _ hj=>by simpa using h (j+1) (by omega) (by simpa using hj))
  simp only[unl,List.countP_cons,Wae]at*
  simp
  omega
 |b::l,m+1,hm,h=>by
  have:=By (l:=l) (m:=m) (by simpa using hm) (fun j hj hjl=>by simpa using h (j+1) (by omega) (by simpa using hjl))
  simp only[unl,List.countP_cons,Wae]at*
  omega
structure Head (all:Array Oper) (head:List Oper):Prop where
 self:∀(i:Nat) (o:Oper),head[i]?=some o->∀t,o.dst=some t->t∉looks all o
 back:∀(i:Nat) (o:Oper),head[i]?=some o->∀e∈o.after,Region.binds .any e=true->e.on<i
 pair:∀(i j:Nat) (oi oj:Oper),head[i]?=some oi->head[j]?=some oj->i≠j->∀t,oj.dst=some t->oi.dst≠some t/\(t∈looks all oi->(j<i/\vt oi j=true)\/(i<j/\vt oj i=true))
theorem VK{all:Array Oper}{head:List Oper}(hk:Qu all head.zipIdx=true):Head all head:=by
 unfold Qu at hk;rw[Wau]at hk;have at_:∀{i:Nat} {o:Oper},head[i]?=some o->(o,i)∈head.zipIdx:=fun h=>by
  rw[List.mem_zipIdx_iff_getElem?];exact h
 refine⟨fun i o hi t ht hm=>?_,fun i o hi=>?_,fun i j oi oj hi hj hij t ht=>?_⟩
 ·have:=hk _ (at_ hi)
  simp only[Wac]at this;have h1:=this.1.1;unfold Zj at h1;rw[ht]at h1;simp only[WaU]at h1;rw[vI.2 hm]at h1;cases h1
 ·have:=hk _ (at_ hi)
  simp only[Wac]at this;exact uJ this.1.2
 ·have:=hk _ (at_ hi)
  simp only[Wac,Wau]at this;have h1:=this.2 _ (at_ hj);unfold Zi at h1;rw[ht]at h1;simp only[WaL,Wag,Wac,WaU,beq_eq_false_iff_ne]at h1;rcases h1 with h1|⟨h1,h2⟩
  ·exact absurd h1 hij
  ·refine⟨h1,fun hm=>?_⟩
   rcases h2 with (h2|h2)|h2
   ·rw[vI.2 hm]at h2;cases h2
   ·exact .inl (by simpa [Nat.blt_eq]using h2)
   ·exact .inr (by simpa [Nat.blt_eq]using h2)
theorem Head.distinct{all:Array Oper}{head:List Oper}(hh:Head all head):uG head:=fun i j oi oj t hi hj hti htj=>by
 rcases Nat.decEq i j with h|h
 ·exact absurd hti (hh.pair i j oi oj hi hj h t htj).1
 ·exact h
theorem take_at{all:Array Oper}{m i:Nat}{o:Oper}(h:(all.toList.take m)[i]?=some o):i<m/\all[i]?=some o:=by
 rw[Was]at h;split at h
 ·rename_i hlt;exact⟨hlt,by simpa using h⟩
 ·cases h
theorem T4{all:Array Oper}{m i:Nat}{o:Oper}(hm:i<m)(h:all[i]?=some o):(all.toList.take m)[i]?=some o:=by
 rw[Was,if_pos hm];simpa using h
theorem aD.weaken{β':List Value}{h':List aB}(hi:aD C.P B w0 Ψ β h w)(hl:β'.length=h'.length)(hb:∀(k:Nat) (v:Value),β'[k]?=some v->β[k]?=some v)
 (hw:∀k b,h'[k]?=some b->cn C.P B Ψ β' w k b/\∀g,af β' k g b->∃b'',h[k]?=some b''/\af β k g b''):aD C.P B w0 Ψ β' h' w where
 low:=hi.low
 size:=hi.size
 prom:=hi.prom
 own:=hi.own
 len:=hl
 one:=fun k u hk=>hi.one k u (hb k u hk)
 blk:=fun k b hk=>(hw k b hk).1
 free:=fun k b g hk hc ad had hsp=>by
  obtain⟨b'',h1,h2⟩:=(hw k b hk).2 g hc;exact hi.free k b'' g h1 h2 ad had hsp
 sep:=fun i j bi bj g hij yV xM rO n6=>by
  obtain⟨bi',h1,h2⟩:=(hw i bi yV).2 g rO;obtain⟨bj',h3,h4⟩:=(hw j bj xM).2 g n6;exact hi.sep i j bi' bj' g hij h1 h3 h2 h4
 gQ:=hi.gQ
def N9(m:Nat)(dh:Nat->aB)(listed:Array Bool)(us:List Value)(uK:List aB):Prop:=
 us.length=m/\uK.length=m/\∀i,i<m->uK[i]?=some (if listed.getD i false then dh i else .gone)/\(listed.getD i false=false->us[i]?=some hole)
def iV(n:Nat)(fW:Nat->Option (Nat×aB))(listed:Array Bool):List (Nat×aB):=(List.range n).filterMap fun i=>if listed.getD i false then fW i else none
def DE(B:Nat->Prop)(w0:World)(bL:Pr)(β:List Value)(H:HW)(below:List (List AV))(As:List Act)(W:List Nat)(a0:Act)(head:List Oper)(top:List AV)(vals:Nat->AV)(dh:Nat->aB)(fW:Nat->Option (Nat×aB))(listed:Array Bool)(a:Act)(w:World):Prop:=
 ∃Ψ us uK,Ext B bL Ψ/\aD C.P B w0 Ψ (β++us) (wr (H.h0++uK) (iV head.length fW listed)) w/\N9 head.length dh listed us uK/\aQ Ψ (β++us) below As/\YK Ψ a/\a.tmps.size=top.length/\
  (∀t,t<top.length->aE Ψ (β++us) (lQ head top vals (fun i=>listed.getD i false) t) (a.tmps.toList.getD t undef))/\fI bL W a0 a
theorem qam:∀(h:List aB) (rw:List (Nat×aB)),(wr h rw).length=h.length
 |h,[]=>rfl
 |h,(k,b)::l=>by
  show (wr (bw h k b) l).length=_
  rw[qam,aZ,WaX]
theorem FI:∀{h:List aB} {rw:List (Nat×aB)} {k:Nat},(∀p∈rw,p.1≠k)->(wr h rw)[k]?=h[k]?
 |h,[],k,_=>rfl
 |h,(j,b)::l,k,hk=>by
  show (wr (bw h j b) l)[k]?=_
  rw[FI fun p hp=>hk p (Wal _ hp),aZ,War (hk (j,b) (by simp))]
theorem QY:∀{h:List aB} {rw:List (Nat×aB)} {k:Nat} {b:aB},(∀p∈rw,p.1≠k)->wr (h.set k b) rw=(wr h rw).set k b
 |h,[],k,b,_=>rfl
 |h,(j,c)::l,k,b,hk=>by
  show wr (bw (h.set k b) j c) l=(wr (bw h j c) l).set k b
  rw[aZ,aZ,List.set_comm _ _ (hk (j,c) (by simp)).symm,QY fun p hp=>hk p (Wal _ hp)]
theorem Bz:∀(h:List aB) (a b:List (Nat×aB)),wr h (a++b)=wr (wr h a) b
 |h,[],b=>rfl
 |h,(j,c)::l,b=>Bz (bw h j c) l b
theorem qiA{h:List aB}{A B:List (Nat×aB)}{k:Nat}{b:aB}(hk:∀p∈A++B,p.1≠k):wr h (A++(k,b)::B)=bw (wr h (A++B)) k b:=by
 rw[Bz,Bz];show wr (bw (wr h A) k b) B=_
 rw[aZ,aZ,QY fun p hp=>hk p (Wbq _ hp)]
theorem qg4:∀{h:List aB} {rw:List (Nat×aB)} {k:Nat} {b:aB},(k,b)∈rw->rw.Pairwise (fun p q=>p.1≠q.1)->k<h.length->(wr h rw)[k]?=some b
 |h,[],k,b,hm,_,_=>by simp at hm
 |h,(j,c)::l,k,b,hm,hd,hk=>by
  have hd':=List.pairwise_cons.1 hd;show (wr (bw h j c) l)[k]?=some b
  rcases List.mem_cons.1 hm with e|hm
  ·simp only[Prod.mk.injEq]at e;obtain⟨rfl,rfl⟩:=e;rw[FI fun p hp=>(hd'.1 p hp).symm,aZ,WaC hk]
  ·exact qg4 hm hd'.2 (by rw[aZ,WaX];exact hk)
theorem notKey_iff{k:Nat}:∀{l:List (Nat×aB)},notKey k l=true->∀p∈l,p.1≠k
 |[],_,p,hp=>by simp at hp
 |(j,b)::l,h,p,hp=>by
  simp only[notKey,Wac,WaU]at h;rcases List.mem_cons.1 hp with rfl|hp
  ·intro e;rw[show Nat.beq j k=true from by rw[show j=k from e];simp]at h
   cases h.1
  ·exact notKey_iff h.2 p hp
theorem zJ{f g:Nat->Option (Nat×aB)}:∀{l:List Nat},(∀x∈l,f x=g x)->l.filterMap f=l.filterMap g
 |[],_=>rfl
 |x::l,h=>by
  rw[WbK,WbK,h x (by simp),zJ fun y hy=>h y (Wal x hy)]
theorem QZ{n:Nat}{fW:Nat->Option (Nat×aB)}{listed:Array Bool}{p:Nat×aB}(h:p∈iV n fW listed):∃j,j<n/\listed.getD j false=true/\fW j=some p:=by
 unfold iV at h;obtain⟨j,hj,he⟩:=List.mem_filterMap.1 h;split at he
 ·rename_i hl;exact⟨j,List.mem_range.1 hj,hl,he⟩
 ·cases he
theorem qan{L L':Nat->Bool}{fW:Nat->Option (Nat×aB)}{i:Nat}{p:Nat×aB}(hr:fW i=some p)(hi0:L i=false)(hi1:L' i=true)(hL:∀j,j≠i->L' j=L j):
 ∀(l:List Nat),l.Nodup->i∈l->∃A B,l.filterMap (fun j=>if L j then fW j else none)=A++B/\l.filterMap (fun j=>if L' j then fW j else none)=A++p::B/\∀q∈A++B,∃j,j∈l/\j≠i/\fW j=some q
 |[],_,h=>by simp at h
 |x::l,hn,h=>by
  have hn':=List.nodup_cons.1 hn;have tail:∀(M:List Nat),i∉M->M.filterMap (fun j=>if L' j then fW j else none)=M.filterMap (fun j=>if L j then fW j else none):=by
   intro M hM;apply zJ
   intro j hj;rw[hL j (fun e=>hM (e▸hj))]
  have mem:∀(M:List Nat),i∉M->∀q∈M.filterMap (fun j=>if L j then fW j else none),∃j,j∈M/\j≠i/\fW j=some q:=by
   intro M hM q hq;obtain⟨j,hj,he⟩:=List.mem_filterMap.1 hq;split at he
   ·exact⟨j,hj,fun e=>hM (e▸hj),he⟩
   ·cases he
  by_cases hx:x=i
  ·subst hx;refine⟨[],l.filterMap (fun j=>if L j then fW j else none),?_,?_,fun q hq=>?_⟩
   ·rw[WbK,hi0];rfl
   ·rw[WbK,hi1];simp only[if_true,hr];rw[tail l hn'.1];rfl
   ·obtain⟨j,hj,h1,h2⟩:=mem l hn'.1 q hq;exact⟨j,Wal _ hj,h1,h2⟩
  ·have wG:i∈l:=by
    rcases List.mem_cons.1 h with e|h
    ·exact absurd e.symm hx
    ·exact h
   obtain⟨A,B,e1,e2,e3⟩:=qan hr hi0 hi1 hL l hn'.2 wG;refine⟨(if L x then fW x else none).toList++A,B,?_,?_,fun q hq=>?_⟩
   ·rw[WbK,e1];cases (if L x then fW x else none)<;>rfl
   ·rw[WbK,e2,hL x hx];cases (if L x then fW x else none)<;>rfl
   ·rw[Waj]at hq;rcases List.mem_append.1 hq with hq|hq
    ·refine⟨x,by simp,hx,?_⟩
     split at hq
     ·simpa using hq
     ·simp at hq
    ·obtain⟨j,hj,h1,h2⟩:=e3 q hq;exact⟨j,Wal _ hj,h1,h2⟩
theorem BA:∀{h:List aB} {i:Nat} {b:aB},(wP h)[i]?=some b->∃b0,h[i]?=some b0/\b=Tu b0
 |[],_,_,h=>by simp[wP]at h
 |b0::h,0,b,hb=>⟨b0,rfl,by simpa [wP]using hb.symm⟩
 |b0::h,i+1,b,hb=>by
  obtain⟨b1,h1,h2⟩:=BA (h:=h) (i:=i) (by simpa [wP]using hb)
  exact⟨b1,by simpa using h1,h2⟩
theorem ru:∀h:List aB,(wP h).length=h.length
 |[]=>rfl
 |_::h=>by simp[wP,ru h]
theorem rz:∀l:List Oper,(mP l).length=l.length
 |[]=>rfl
 |_::l=>by simp[mP,rz l]
theorem Je:∀{l:List Oper} {i:Nat},i<l.length->(mP l)[i]?=some .gone
 |[],_,h=>by simp at h
 |_::l,0,_=>rfl
 |_::l,i+1,h=>by simpa [mP]using Je (l:=l) (i:=i) (by simpa using h)
theorem vK:∀{l:List Oper} {i:Nat} {b:aB},(mP l)[i]?=some b->b= .gone
 |[],_,_,h=>by simp[mP]at h
 |_::l,0,_,h=>by simpa [mP]using h.symm
 |_::l,i+1,_,h=>vK (l:=l) (i:=i) (by simpa [mP]using h)
theorem eH(us:List Value):∀(k:Nat) (v:Value),β[k]?=some v->(β++us)[k]?=some v:=fun k v hk=>by
 have hlt:k<β.length:=by
  rcases Wak k β.length with h'|h'
  ·exact h'
  ·rw[Wai h']at hk;cases hk
 rw[Wao hlt];exact hk
theorem qao{a:Act}{d t:Nat}{v:Value}:(a.put (some d) v).tmps.toList.getD t undef=if d=t/\t<a.tmps.size then v else a.tmps.toList.getD t undef:=by
 simp only[Act.put,Wb1,Wab];by_cases h:d=t
 ·subst h;by_cases hlt:d<a.tmps.size
  ·rw[WaC (by simpa using hlt),if_pos ⟨rfl,hlt⟩];rfl
  ·rw[if_neg (fun hh=>hlt hh.2),Wai (by simpa using hlt),Wai (by simpa using hlt)]
 ·rw[War h,if_neg (fun hh=>h hh.1)]
theorem jV{listed:Array Bool}{i j:Nat}(hi:i<listed.size):(listed.setIfInBounds i true).getD j false=if i=j then true else listed.getD j false:=by
 by_cases h:i=j
 ·subst h;rw[if_pos rfl,Wah,Wbv hi];rfl
 ·rw[if_neg h,Wah,WaN h,<-Wah]
theorem VL{P:Program}{b:aB}{k:Nat}(hv:isVar b)(hb:cn P B Ψ β w k b):∃g,β[k]?=some (.pointer (some ⟨g,0,none⟩)):=by
 cases b<;>first|exact hv.elim|skip
 ·obtain⟨g,c,e,h1,_⟩:=hb;exact⟨g,h1⟩
 ·obtain⟨g,c,e,h1,_⟩:=hb;exact⟨g,h1⟩
theorem Q0{h h':List aB}:∀(t:Ty) (x:t.den) (off sz:Nat) (v:Ty) (z:v.den),DB t x off sz h (.d v z)=DB t x off sz h' (.d v z)
 | .pair a b,x,off,sz,v,z=>by
  unfold DB;rw[Q0 a x.1 off sz v z,Q0 b x.2 (off-a.cells) sz v z];rfl
 | .vec n e,x,off,sz,v,z=>rfl
 | .dR _ _,x,off,sz,v,z=>rfl
 | .int _,x,off,sz,v,z=>rfl
 | .bool,x,off,sz,v,z=>rfl
 | .qi,x,off,sz,v,z=>rfl
 | .any,x,off,sz,v,z=>rfl
 | .str,x,off,sz,v,z=>rfl
 | .arr _,x,off,sz,v,z=>rfl
 | .unit,x,off,sz,v,z=>rfl
theorem sC{n k:Nat}{ex:List aB}{o:Oper}{top:List AV}{h:List aB}{b':aB}(hs:IJ C n ex o {top:=top,below:=[],heap:=h}=some (k,b')):
 (∃t a x sz i u y tid e xs,o.op= .store t a x/\o.dst=none/\ev top a= .tX k sz i/\ev top x= .d u y/\k<n/\aH h k= .grow tid e xs/\
   ∀h2,aH h2 k= .grow tid e xs->∃r2,nr C h2 t (.tX k sz i) (.d u y)=some r2/\r2.heap=bw h2 k b')\/
 (∃t a x off c,o.op= .store t a x/\o.dst=none/\ev top a= .own k off/\n<=k/\aH ex (k-n)=c/\isVar c/\isVar b'/\
   ∀h2,aH h2 k=c->∃r2,nr C h2 t (.own k off) (ev top x)=some r2/\r2.heap=bw h2 k b'):=by
 unfold IJ at hs;split at hs
 ·rename_i t a x ho fk;split at hs
  ·rename_i k' sz i hea;split at hs
   ·rename_i u y hex;split at hs
    ·rename_i hk;split at hs
     ·rename_i r hr;simp only[Option.some.injEq,Prod.mk.injEq]at hs;obtain⟨rfl,rfl⟩:=hs;have Ee:=hr;unfold nr at hr;simp only at hr
      split at hr
      ·rename_i tid e xs hg;refine .inl ⟨t,a,x,sz,i,u,y,tid,e,xs,ho,fk,hea,hex,(by have:=Wb0 hk;omega),hg,fun h2 hg2=>?_⟩
       have xK:k'<h.length:=eW (aC hg (by simp))
       split at hr
       ·rename_i y' n' hy' hn';split at hr
        ·rename_i hc;simp only[Option.some.injEq]at hr;subst hr;have hy2:AZ h2 e (.d u y)=some y':=hy';refine⟨⟨none,.lO,bw h2 k' (.grow tid e (xs.set i.toNat y')),none⟩,?_,?_⟩
         ·unfold nr;simp only[hg2,hy2,hn',hc,if_true]
         ·show bw h2 k' _=bw h2 k' (aH (bw h k' (.grow tid e (xs.set i.toNat y'))) k')
          congr 1
          rw[aZ];exact (zK (by rw[WaC xK])).symm
        ·cases hr
       ·cases hr
      ·cases hr
     ·cases hs
    ·cases hs
   ·cases hs
  ·rename_i k' off hea;split at hs
   ·rename_i hk;split at hs
    ·rename_i cs hg;split at hs
     ·rename_i l sz hl hsz;split at hs
      ·rename_i hc;simp only[Option.some.injEq,Prod.mk.injEq]at hs;obtain⟨rfl,rfl⟩:=hs;refine .inr ⟨t,a,x,off,.cells cs,ho,fk,hea,Wb0 hk,hg,trivial,trivial,fun h2 hg2=>⟨⟨none,.lO,bw h2 k' (.cells (setCells cs off l)),none⟩,?_,rfl⟩⟩
       unfold nr;simp only at hl
       simp only[hg2,hl,hsz,hc,if_true]
      ·cases hs
     ·cases hs
    ·rename_i u y hg;split at hs
     ·rename_i sz v z hsz hex;split at hs
      ·rename_i z' hz;simp only[Option.some.injEq,Prod.mk.injEq]at hs;obtain⟨rfl,rfl⟩:=hs;refine .inr ⟨t,a,x,off,.dat u y,ho,fk,hea,Wb0 hk,hg,trivial,trivial,fun h2 hg2=>⟨⟨none,.lO,bw h2 k' (.dat u z'),none⟩,?_,rfl⟩⟩
       have hz2:DB u y off sz h2 (.d v z)=some z':=(Q0 (h:=h2) (h':=[]) u y off sz v z).trans hz;simp only at hex
       have tW:gB [AV.d v z]=true:=rfl;unfold nr;simp only[hg2,hsz,hex,hz2,tW,if_true]
      ·cases hs
     ·cases hs
    ·cases hs
   ·cases hs
  ·cases hs
 ·cases hs
where
 zK:∀{h:List aB} {j:Nat} {b:aB},h[j]?=some b->aH h j=b
  |[],_,_,hb=>by simp at hb
  |b0::h,0,_,hb=>by simpa [aH]using hb
  |b0::h,j+1,_,hb=>by simpa [aH]using zK (h:=h) (j:=j) (by simpa using hb)
theorem qap{H:HW}{head:List Oper}(hU:H.hU=H.h0++mP head)(hM:H.hM=wP H.h0++mP head){rw:List (Nat×aB)}{us:List Value}{uK:List aB}(hl:uK.length=head.length)
 (hi:aD C.P B w0 Ψ (β++us) (wr (H.h0++uK) rw) w) (i:Nat) (hb:before H.all H.st i=true->rw=[]) (hrw:∀k b,(k,b)∈rw->(∃tid e xs,H.h0[k]?=some (.grow tid e xs))\/(H.h0.length<=k/\isVar b)):aD C.P B w0 Ψ (β++us) (H.heap i) w:=by
 have hlen:=hi.len;rw[qam,Wad (as:=H.h0),hl]at hlen;refine hi.weaken ?_ (fun _ _ h=>h) (fun k b hk=>?_)
 ·rw[hlen];unfold HW.heap;split
  ·rw[hU,Wad,rz]
  ·rw[hM,Wad,rz,ru]
 ·unfold HW.heap at hk;have qiC:b= .gone->cn C.P B Ψ (β++us) w k b/\∀g,af (β++us) k g b->∃b'',(wr (H.h0++uK) rw)[k]?=some b''/\af (β++us) k g b'':=by
   rintro rfl
   exact⟨trivial,fun g hc=>hc.elim⟩
  have same:(wr (H.h0++uK) rw)[k]?=some b->cn C.P B Ψ (β++us) w k b/\∀g,af (β++us) k g b->∃b'',(wr (H.h0++uK) rw)[k]?=some b''/\af (β++us) k g b'':=
   fun he=>⟨hi.blk k b he,fun g hc=>⟨b,he,hc⟩⟩
  split at hk
  ·rename_i hbf;have hrn:=hb hbf;subst hrn;rw[hU]at hk;rcases Wak k H.h0.length with h'|h'
   ·rw[Wao h']at hk;exact same (by show (H.h0++uK)[k]?=_;rw[Wao h'];exact hk)
   ·rw[WaH h']at hk;exact qiC (vK hk)
  ·rw[hM]at hk;rcases Wak k H.h0.length with h'|h'
   ·rw[Wao (by rw[ru];exact h')]at hk
    obtain⟨b0,h0,rfl⟩:=BA hk;by_cases zL:∃tid e xs,b0= .grow tid e xs
    ·obtain⟨tid,e,xs,rfl⟩:=zL;exact qiC rfl
    ·have hmb:Tu b0=b0:=by
      cases b0 with
      |grow tid e xs=>exact absurd ⟨tid,e,xs,rfl⟩ zL
      |_=>rfl
     rw[hmb]at same ⊢;apply same
     rw[FI,Wao h']
     ·exact h0
     ·rintro⟨k',b'⟩ hr
      rcases hrw k' b' hr with ⟨tid,e,xs,hk'⟩|⟨hk',_⟩
      ·rintro rfl
       rw[h0]at hk';simp only[Option.some.injEq]at hk';exact zL ⟨tid,e,xs,hk'⟩
      ·show k'≠k
       omega
   ·rw[WaH (by rw[ru];exact h')]at hk
    exact qiC (vK hk)
theorem DE.put{H:HW}{fW:Nat->Option (Nat×aB)}{below:List (List AV)}{head:List Oper}{top:List AV}{vals:Nat->AV}{dh:Nat->aB}{listed:Array Bool}{i:Nat}{o:Oper}{v:Value}{ax:Pr}{us:List Value}{uK:List aB}(hd:uG head)(hi:head[i]?=some o)(wG:i<listed.size)
 (hE:Ext B bL ax) (VM:aD C.P B w0 ax (β++us) (wr (H.h0++uK) (iV head.length fW (listed.setIfInBounds i true))) w) (hx:N9 head.length dh (listed.setIfInBounds i true) us uK) (hF:aQ ax (β++us) below As) (hdf:YK ax a) (hsz:a.tmps.size=top.length)
 (hb:∀t,t<top.length->aE ax (β++us) (lQ head top vals (fun i=>listed.getD i false) t) (a.tmps.toList.getD t undef))
 (hS:fI bL W a0 a) (hW:∀t,o.dst=some t->t∈W) (hv:aE ax (β++us) (vals i) v):
 DE (C:=C) B w0 bL β H below As W a0 head top vals dh fW (listed.setIfInBounds i true) (a.put o.dst v) w:=by
 have same:∀t,o.dst≠some t->lQ head top vals (fun j=>(listed.setIfInBounds i true).getD j false) t=lQ head top vals (fun j=>listed.getD j false) t:=by
  intro t hne;by_cases hex:∃(j:Nat) (oj:Oper),head[j]?=some oj/\oj.dst=some t/\listed.getD j false=true
  ·obtain⟨j,oj,h1,h2,h3⟩:=hex;rw[m4 hd h1 h2 (by rw[jV wG];split<;>first|rfl|exact h3),m4 hd h1 h2 h3]
  ·rw[fZ (fun j oj h1 h2=>?_),fZ (fun j oj h1 h2=>?_)]
   ·cases hx:listed.getD j false with
    |false=>rfl
    |true=>exact absurd ⟨j,oj,h1,h2,hx⟩ hex
   ·rw[jV wG];split
    ·rename_i hij;subst hij;rw[hi]at h1;simp at h1
     subst h1;exact absurd h2 hne
    ·cases hx:listed.getD j false with
     |false=>rfl
     |true=>exact absurd ⟨j,oj,h1,h2,hx⟩ hex
 refine⟨ax,us,uK,hE,VM,hx,hF,?_,?_,fun t ht=>?_,hS.put hW⟩
 ·cases o.dst<;>exact hdf
 ·cases o.dst with
  |none=>exact hsz
  |some d=>simpa [Act.put]using hsz
 ·cases fk:o.dst with
  |none=>
   rw[same t (by rw[fk];simp)]
   exact hb t ht
  |some d=>
   rw[qao];by_cases htd:d=t
   ·subst htd;rw[if_pos ⟨rfl,by omega⟩,m4 hd hi fk (by rw[jV wG,if_pos rfl])]
    exact hv
   ·rw[if_neg (fun hh=>htd hh.1),same t (by rw[fk];simpa using htd)]
    exact hb t ht
theorem DE.mono{Ψ ax:Pr}{head:List Oper}{top:List AV}{vals:Nat->AV}{listed:Array Bool}(hle:bW Ψ ax)
 (hb:∀t,t<top.length->aE Ψ β (lQ head top vals (fun i=>listed.getD i false) t) (a.tmps.toList.getD t undef)):
 ∀t,t<top.length->aE ax β (lQ head top vals (fun i=>listed.getD i false) t) (a.tmps.toList.getD t undef):=
 fun t ht=>jk hle (fun _ _ h=>h) _ _ (hb t ht)
theorem N9.set{m i:Nat}{dh:Nat->aB}{listed:Array Bool}{us:List Value}{uK:List aB}(wG:i<listed.size)(AQ:listed.getD i false=false)(Eb:i<m)(hx:N9 m dh listed us uK)(he:dh i= .gone):N9 m dh (listed.setIfInBounds i true) us uK:=by
 obtain⟨h1,h2,h3⟩:=hx;refine⟨h1,h2,fun j hj=>?_⟩
 obtain⟨h4,h5⟩:=h3 j hj;rw[jV wG];by_cases hij:i=j
 ·subst hij;rw[if_pos rfl];rw[AQ]at h4;refine⟨by rw[if_pos rfl,he];simpa using h4,fun e=>by cases e⟩
 ·rw[if_neg hij];exact⟨h4,h5⟩
theorem N9.fill{m i:Nat}{dh:Nat->aB}{listed:Array Bool}{us:List Value}{uK:List aB}(wG:i<listed.size)(Eb:i<m)(hx:N9 m dh listed us uK)(v:Value):N9 m dh (listed.setIfInBounds i true) (us.set i v) (uK.set i (dh i)):=by
 obtain⟨h1,h2,h3⟩:=hx;refine⟨by simpa using h1,by simpa using h2,fun j hj=>?_⟩
 obtain⟨h4,h5⟩:=h3 j hj;rw[jV wG];by_cases hij:i=j
 ·subst hij;rw[if_pos rfl];exact⟨by rw[WaC (by omega)];simp,fun e=>by cases e⟩
 ·rw[if_neg hij,War hij,War hij];exact⟨h4,h5⟩
theorem T6{Ψ:Pr}{β:List Value}:∀(top:List AV) (vs:List Value),vs.length=top.length->(∀t,t<top.length->aE Ψ β (bX top t) (vs.getD t undef))->aL Ψ β top vs
 |[],[],_,_=>rfl
 |[],_::_,h,_=>by simp at h
 |_::_,[],h,_=>by simp at h
 |c::top,v::vs,h,hr=>⟨v,vs,rfl,by simpa [bX]using hr 0 (by simp),T6 top vs (by simpa using h) fun t ht=>by simpa [bX]using hr (t+1) (by simpa using ht)⟩
theorem find_congr{α:Type}{p q:α->Bool}:∀{l:List α},(∀x∈l,p x=q x)->l.find? p=l.find? q
 |[],_=>rfl
 |x::l,h=>by
  have ih:=find_congr (l:=l) fun y hy=>h y (Wal x hy)
  simp only[List.find?_cons,h x (by simp),ih]
theorem uL:∀{l:List AV} {t:Nat},l.length<=t->bX l t= .bJ
 |[],_,_=>rfl
 |_::l,0,h=>by simp at h
 |_::l,t+1,h=>uL (l:=l) (by simpa using h)
theorem w8:∀{l:List Oper} {i0 s:Nat} {o:Oper},(s,o)∈mO l i0->i0<=s/\l[s-i0]?=some o
 |[],_,_,_,h=>by simp[mO]at h
 |o'::l,i0,s,o,h=>by
  have step:(s,o)∈mO l (i0+1)->i0<=s/\(o'::l)[s-i0]?=some o:=by
   intro h;obtain⟨h1,h2⟩:=w8 h;refine⟨by omega,?_⟩
   rw[show s-i0=(s-(i0+1))+1 by omega]
   simpa using h2
  unfold mO at h;split at h
  ·rcases List.mem_cons.1 h with h|h
   ·simp only[Prod.mk.injEq]at h;obtain⟨rfl,rfl⟩:=h;exact⟨Wan _,by simp⟩
   ·exact step h
  ·exact step h
theorem Jf:∀{st:List (Nat×Oper)} {i:Nat},xB st i=true->∃o,(i,o)∈st
 |[],_,h=>by simp[xB]at h
 |(s,o)::l,i,h=>by
  simp only[xB,WaL,Wag]at h;rcases h with rfl|h
  ·exact⟨o,by simp⟩
  ·obtain⟨o',ho⟩:=Jf h;exact⟨o',Wal _ ho⟩
theorem CN{all:Array Oper}:∀{st:List (Nat×Oper)} {i:Nat},before all st i=true->∀s o,(s,o)∈st->i=s\/i∈CD all s (fN o)
 |[],_,_,s,o,h=>by simp at h
 |(s',o')::l,i,h,s,o,hm=>by
  simp only[before,Wac,WaL,Wag]at h;rcases List.mem_cons.1 hm with e|hm
  ·simp only[Prod.mk.injEq]at e;obtain⟨rfl,rfl⟩:=e;exact h.1.imp id dz.1
  ·exact CN h.2 s o hm
theorem BB{n:Nat}{fW:Nat->Option (Nat×aB)}{listed:Array Bool}{i:Nat}(wG:i<listed.size)(hn:fW i=none):iV n fW (listed.setIfInBounds i true)=iV n fW listed:=by
 unfold iV;apply zJ
 intro j _;rw[jV wG];by_cases hij:i=j
 ·subst hij;rw[if_pos rfl,hn];simp
 ·rw[if_neg hij]
theorem qaq{ro:Option Nat}(hsp:au C){all:Array Oper}{m:Nat}{below:List (List AV)}{top:List AV}{jT n7:Nat->List AV}{vals:Nat->AV}{Ed:Nat->Bool}{dh:Nat->aB}{H:HW}{fW:Nat->Option (Nat×aB)}{Q:Exit->Act->World->Prop}(hm:m<=all.size)
 (hh:Head all (all.toList.take m)) (hH:H=HW.mk' all h (all.toList.take m)) (qar:β.length=h.length) (ht:Trace C H [] [] (all.toList.take m) 0 top jT n7 vals Ed dh fW) (FK:rU all m (all.toList.drop m)=true) (hW:∀o∈all.toList,∀t,o.dst=some t->t∈W)
 (Oa:∀Ψ us a w,Ext B bL Ψ->aD C.P B w0 Ψ (β++us) (wr (h++rq m dh) (rws m fW [])) w->aQ Ψ (β++us) (jT m::below) (a::As)->fI bL W a0 a->wpListIn (Fw ro) 0 C.P all Q (all.toList.drop m) a w):
 ∀(fuel:Nat) (listed:Array Bool) (a:Act) (w:World),listed.size=all.size->(∀i,m<=i->i<all.size->listed.getD i false=false)->ig all listed->unl listed.toList<=fuel->
  DE (C:=C) B w0 bL β H below As W a0 (all.toList.take m) top vals dh fW listed a w->wpAnyIn (Fw ro) 0 C.P .any all Q fuel listed a w:=by
 have hd:=hh.distinct;have hml:(all.toList.take m).length=m:=by simp;omega
 have Ob:H.all=all:=by rw[hH];rfl
 have hh0:H.h0=h:=by rw[hH];rfl
 have hst:H.st=mO (all.toList.take m) 0:=by rw[hH];rfl
 have hU:H.hU=H.h0++mP (all.toList.take m):=by rw[hH];rfl
 have hM:H.hM=wP H.h0++mP (all.toList.take m):=by rw[hH];rfl
 have hsr:∀s q,s<m->fW s=some q->∃o,(all.toList.take m)[s]?=some o/\xB H.st s=true/\notKey q.1 (rws s fW [])=true/\IJ C (hlen H.h0) (rq s dh) o {top:=n7 s,below:=[],heap:=H.heap s}=some q:=by
  intro s q hs hr;have ho:(all.toList.take m)[s]?=some ((all.toList.take m)[s]'(by rw[hml];exact hs)):=Waa _
  obtain⟨_,_,hy,hn⟩:=ht.step s _ ho;cases hw:Ed s with
  |false=>rw[(hn hw).2.2]at hr;cases hr
  |true=>
   rcases hy hw with ⟨h1,_,_,_,r,hr',hnk,hsc⟩|⟨_,hr',_⟩
   ·rw[hr]at hr';simp only[Option.some.injEq]at hr';subst hr';rw[WaO]at h1 hsc;rw[WaY]at hsc;exact⟨_,ho,h1,hnk,hsc⟩
   ·rw[hr]at hr';cases hr'
 have ql2:∀(i k:Nat) tid e xs,(H.heap i)[k]?=some (.grow tid e xs)->k<H.h0.length->before H.all H.st i=true/\H.h0[k]?=some (.grow tid e xs):=by
  intro i k tid e xs hk hlt;unfold HW.heap at hk;split at hk
  ·rename_i hb;rw[hU,Wao hlt]at hk;exact⟨hb,hk⟩
  ·rw[hM,Wao (by rw[ru];exact hlt)]at hk
   obtain⟨b0,_,hb0⟩:=BA hk;cases b0<;>simp[Tu]at hb0
 have ql3:∀s k b,s<m->fW s=some (k,b)->(∃tid e xs,H.h0[k]?=some (.grow tid e xs))\/(H.h0.length<=k/\isVar b):=by
  intro s k b hs hr;obtain⟨o,_,_,_,hsc⟩:=hsr s _ hs hr;rcases sC hsc with ⟨t,a,x,sz,i,u,y,tid,e,xs,_,_,_,_,hk,hg,_⟩|⟨_,_,_,_,_,_,_,_,hk,_,_,hb,_⟩
  ·exact .inl ⟨tid,e,xs,(ql2 s k tid e xs (aC hg (by simp)) (by rw[<-cF];exact hk)).2⟩
  ·exact .inr ⟨by rw[<-cF];exact hk,hb⟩
 have hrw:∀listed k b,(k,b)∈iV (all.toList.take m).length fW listed->(∃tid e xs,H.h0[k]?=some (.grow tid e xs))\/(H.h0.length<=k/\isVar b):=by
  intro listed k b hr;obtain⟨s,hs,_,he⟩:=QZ hr;rw[hml]at hs;exact ql3 s k b hs he
 have hdk:∀i j q q',i<m->j<m->i≠j->fW i=some q->fW j=some q'->q.1≠q'.1:=by
  have lt:∀i j q q',i<j->j<m->fW i=some q->fW j=some q'->q.1≠q'.1:=by
   intro i j q q' hij hj hq Oc;obtain⟨_,_,_,hnk,_⟩:=hsr j q' hj Oc;refine notKey_iff hnk q ?_
   unfold rws;rw[WaY,List.mem_filterMap];exact⟨i,List.mem_range.2 hij,hq⟩
  intro i j q q' hi hj hij hq Oc;rcases Wak i j with h'|h'
  ·exact lt i j q q' h' hj hq Oc
  ·exact (lt j i q' q (by omega) hi Oc hq).symm
 have hpw:∀listed,(iV (all.toList.take m).length fW listed).Pairwise (fun p q=>p.1≠q.1):=by
  intro listed;unfold iV;rw[hml,List.pairwise_filterMap];refine (List.pairwise_lt_range (n:=m)).imp_of_mem fun ha hb hlt q hq q' Oc=>?_
  split at hq
  ·split at Oc
   ·exact hdk _ _ q q' (List.mem_range.1 ha) (List.mem_range.1 hb) (by omega) hq Oc
   ·cases Oc
  ·cases hq
 have ql4:∀(listed:Array Bool) (i:Nat),ig all listed->listed.getD i false=false->before H.all H.st i=true->iV (all.toList.take m).length fW listed=[]:=by
  intro listed i hcd AQ hbf;rw[List.eq_nil_iff_forall_not_mem];intro q hq;obtain⟨s,hs,hls,he⟩:=QZ hq;rw[hml]at hs;obtain⟨_,_,hsi,_,_⟩:=hsr s q hs he;obtain⟨o',hm'⟩:=Jf hsi;have hso:=hm';rw[hst]at hso;obtain⟨_,hso⟩:=w8 hso;obtain⟨_,hso⟩:=take_at (show (all.toList.take m)[s]?=some o' by simpa using hso)
  rw[Ob]at hbf;rcases CN hbf s o' hm' with rfl|hsw
  ·rw[AQ]at hls;cases hls
  ·have:=lz hcd s _ (fun j hj=>by
    obtain⟨e,he,hbd,rfl⟩:=n8 hj;exact hcd s o' hso hls e he hbd) i hsw
   rw[AQ]at this;cases this
 intro fuel;induction fuel with
 |zero=>
  intro listed a w hsz htl hcd hu hJ;have hall:∀i,i<m->listed.getD i false=true:=by
   intro i hi;cases hx:listed.getD i false with
   |true=>rfl
   |false=>
    exfalso
    have:listed.toList[i]?=some false:=by
     rw[Wah,Wa1 (by omega)]at hx
     simp at hx
     rw[Waa (by simp;omega)]
     simp[hx]
    have:=Lb this
    omega
  exact Od hm hml hd hH qar ht FK Oa 0 listed a w hsz htl hcd hu hall hJ
 |succ fuel ih=>
  intro listed a w hsz htl hcd hu hJ;by_cases hall:∀i,i<m->listed.getD i false=true
  ·exact Od hm hml hd hH qar ht FK Oa (fuel+1) listed a w hsz htl hcd hu hall hJ
  ·
   have hex:∃i,i<m/\listed.getD i false=false/\∀j,j<i->listed.getD j false=true:=by
    have hne:∃i,i<m/\listed.getD i false=false:=by
     apply Wcn
     intro hn;apply hall
     intro i hi;cases hx:listed.getD i false with
     |true=>rfl
     |false=>exact absurd ⟨i,hi,hx⟩ hn
    obtain⟨i,hi⟩:=hne;induction i using Nat.strongRecOn with
    |_ i ih'=>
     by_cases Ob:∀j,j<i->listed.getD j false=true
     ·exact⟨i,hi.1,hi.2,Ob⟩
     ·have:∃j,j<i/\listed.getD j false=false:=by
       apply Wcn
       intro hn;apply Ob
       intro j hj;cases hx:listed.getD j false with
       |true=>rfl
       |false=>exact absurd ⟨j,hj,hx⟩ hn
      obtain⟨j,hj,hx⟩:=this;exact ih' j hj ⟨by omega,hx⟩
   refine⟨fun hr=>?_,fun i hi=>?_⟩
   ·exfalso
    obtain⟨i,hi,hx,qpc⟩:=hex;have ho:all[i]?=some all[i]:=Wa1 (by omega)
    have:i∈Region.ready .any all listed:=by
     rw[jt];exact⟨La (by omega) hx,_,ho,fun e he hb=>qpc _ (hh.back i _ (T4 hi ho) e he hb)⟩
    rw[hr]at this;cases this
   ·obtain⟨h1,o,h2,h3⟩:=jt.1 hi;have hilt:i<all.size:=by
     rcases Wak i all.size with h'|h'
     ·exact h'
     ·rw[WaW h']at h2;cases h2
    have Eb:i<m:=by
     rcases Wak i m with h'|h'
     ·exact h'
     ·exfalso
      apply hall
      intro j hj;have hoi:(all.toList.drop m)[i-m]?=some o:=by
       rw[WaZ,show m+(i-m)=i by omega]
       simpa using h2
      have ql6:=(qo FK _ _ hoi).1;rw[show m+(i-m)=i by omega]at ql6
      exact CL hcd ql6 h3 j (by omega)
    have hoh:=T4 Eb h2;obtain⟨hg,he,hy,hn⟩:=ht.step i o hoh;obtain⟨hcl,rO⟩:=ht.chain hd i (by omega)
    obtain⟨xK,hgi⟩:=CJ hg;obtain⟨Ψ,us,uK,hE,VM,hx,hF,hdf,qas,hb,hS⟩:=hJ;have look:∀t,t∈looks all o->aE Ψ (β++us) (bX (jT i) t) (a.tmps.toList.getD t undef):=by
     intro t htl;by_cases htr:t<top.length
     ·have h4:lQ (all.toList.take m) top vals (fun j=>decide (j<i)) t=lQ (all.toList.take m) top vals (fun j=>listed.getD j false) t:=by
       by_cases hex:∃(j:Nat) (oj:Oper),(all.toList.take m)[j]?=some oj/\oj.dst=some t
       ·obtain⟨j,oj,VN,hj2⟩:=hex;have hji:i≠j:=by
         rintro rfl
         rw[hoh]at VN;simp at VN
         subst VN;exact hh.self _ _ hoh t hj2 htl
        rcases (hh.pair i j o oj hoh VN hji t hj2).2 htl with ⟨hlt,qat⟩|⟨hlt,qat⟩
        ·obtain⟨e,he',hb',hon⟩:=zI qat;have:=h3 e he' hb'
         rw[hon]at this;rw[m4 hd VN hj2 (by simpa using hlt),m4 hd VN hj2 this]
        ·have hjl:listed.getD j false=false:=by
          cases hx':listed.getD j false with
          |false=>rfl
          |true=>
           obtain⟨e,he',hb',hon⟩:=zI qat;have:=hcd j oj (take_at VN).2 hx' e he' hb'
           rw[hon,js h1]at this;cases this
         rw[fZ (fun j' oj' qiD qiE=>?_),fZ (fun j' oj' qiD qiE=>?_)]
         ·have:=hd j' j oj' oj t qiD VN qiE hj2
          rw[this];exact hjl
         ·have:=hd j' j oj' oj t qiD VN qiE hj2
          rw[this];simpa using Nat.le_of_lt hlt
       ·rw[fZ (fun j oj VN hj2=>absurd ⟨j,oj,VN,hj2⟩ hex),fZ (fun j oj VN hj2=>absurd ⟨j,oj,VN,hj2⟩ hex)]
      have h5:=hb t htr;rw[<-h4]at h5;exact rO t htr _ _ _ h5
     ·have:bX (jT i) t= .bJ:=by
       exact uL (by omega)
      rw[this];trivial
    have wG:i<listed.size:=by omega
    have hnext:∀a' w',DE (C:=C) B w0 bL β H below As W a0 (all.toList.take m) top vals dh fW (listed.setIfInBounds i true) a' w'->wpAnyIn (Fw ro) 0 C.P .any all Q fuel (listed.setIfInBounds i true) a' w':=fun a' w' hJ'=>
     ih _ a' w' (by simpa using hsz) (fun j hj hjs=>by rw[jV wG,if_neg (by omega)];exact htl j hj hjs) (hcd.set h2 h3) (by
      have hx:=js h1;have:listed.toList[i]?=some false:=by
       rw[Wah,Wa1 wG]at hx;simp at hx
       rw[Waa (by simpa using wG)]
       simp[hx]
      have:=Lb this
      rw[Wb1];omega) hJ'
    have hWo:∀t,o.dst=some t->t∈W:=hW o (by
     have:=WaE (l:=all.toList) (i:=i) (by simpa using h2)
     exact this)
    refine vJ h2 ?_
    have qeJ:Region.wanted o (yielded all a.tmps)=Ed i:=by
     rw[Ob]at hg;unfold fF at hg;unfold Region.wanted;split at hg
     ·rename_i hgd;rw[hgd,hg.2]
     ·rename_i j want hgd;obtain⟨t,hgt,ql7⟩:=hg;have hl:=look t (by simp[looks,hgd,hgt])
      rw[hgd];simp only[xS hgt];have cell:∀b:Bool,a.tmps.toList.getD t undef= .bool b->a.tmps[t]?=some (.bool b):=by
       intro b hb;rw[getD_eq]at hb;cases hx:a.tmps[t]? with
       |none=>rw[hx]at hb;simp[undef]at hb
       |some x=>rw[hx]at hb;simp at hb;rw[hb]
      rcases ql7 with ⟨hf,_,hb⟩|⟨hf,_,hb⟩|⟨hf,_,hb⟩|⟨hf,_,hb⟩|⟨hf,_,hb⟩<;>rw[hf]at hl<;>rw[hb]
      ·rw[cell true hl];cases want<;>rfl
      ·rw[cell false hl];cases want<;>rfl
      ·rw[getD_eq]at hl;have hl':(a.tmps[t]?).getD undef=undef:=hl;cases hx:a.tmps[t]? with
       |none=>simp
       |some x=>rw[hx]at hl';simp at hl';subst hl';simp[undef]
      ·rw[cell true (fP.1 hl)];cases want<;>rfl
      ·rw[cell false (fP.1 hl)];cases want<;>rfl
    rw[qeJ];split
    ·rename_i hw1;have cI:∀x∈o.op.operands,aE Ψ (β++us) (ev (n7 i) x) (a.eval x):=by
      intro x hx;cases x with
      |tmp t=>
       have hlt:t∈looks all o:=by
        simp only[looks,WbH,List.mem_filterMap];exact .inl ⟨.tmp t,by simpa using hx,rfl⟩
       have:=hgi t _ _ _ (look t hlt)
       simpa [ev,Act.eval,Wah,Wab]using this
      |const v=>exact iU v
      |global g=>trivial
      |func f=>exact⟨[],rfl,rfl⟩
     have AQ:=js h1;have qeK:i<(all.toList.take m).length:=by rw[hml];exact Eb
     have hBi:aD C.P B w0 Ψ (β++us) (H.heap i) w:=qap hU hM hx.2.1 VM i (fun hbf=>ql4 listed i hcd AQ hbf) (hrw listed)
     have qsM:=cI;have filled:fW i=none->∀(v:Value) (ax:Pr) (w':World),Step Ψ w ax w'->qak C B ax w w' (hlen H.h0+i) v (dh i) (vals i)->DE (C:=C) B w0 bL β H below As W a0 (all.toList.take m) top vals dh fW (listed.setIfInBounds i true) (a.put o.dst v) w':=by
      intro hni v ax w' uM ⟨hone,hnew⟩;have hxi:=hx;obtain⟨x1,x2,x3⟩:=hx;obtain⟨x4,x5⟩:=x3 i qeK;rw[AQ]at x4;have x4:uK[i]?=some .gone:=by simpa using x4
      have hk:hlen H.h0+i=β.length+i:=by rw[cF,qar,hh0]
      have VO:(β++us)[hlen H.h0+i]?=some hole:=by
       rw[hk,WaH (by omega),WbB]
       exact x5 AQ
      have hne:∀q∈iV (all.toList.take m).length fW listed,q.1≠hlen H.h0+i:=by
       rintro⟨k,b⟩ hr rfl
       rcases hrw listed _ _ hr with ⟨tid,e,xs,hg⟩|⟨_,qiF⟩
       ·rw[cF,Wai (by omega)]at hg
        cases hg
       ·have hlt:hlen H.h0+i<(H.h0++uK).length:=by rw[cF,Wad];omega
        have hb:=VM.blk (hlen H.h0+i) _ (qg4 hr (hpw listed) hlt);obtain⟨g,h1⟩:=VL qiF hb;rw[VO]at h1;simp[hole]at h1
      have hhk:(wr (H.h0++uK) (iV (all.toList.take m).length fW listed))[hlen H.h0+i]?=some .gone:=by
       rw[FI hne,cF,WaH (by omega),WbB]
       exact x4
      have e1:(β++us).set (hlen H.h0+i) v=β++us.set i v:=by
       rw[hk,WcK _ _ (by omega),WbB]
      have e2:(wr (H.h0++uK) (iV (all.toList.take m).length fW listed)).set (hlen H.h0+i) (dh i)=wr (H.h0++uK.set i (dh i)) (iV (all.toList.take m).length fW listed):=by
       rw[<-QY hne,cF,WcK _ _ (by omega),WbB]
      have aH:((β++us).set (hlen H.h0+i) v)[hlen H.h0+i]?=some v:=by
       rw[WaC];rcases Wak (hlen H.h0+i) (β++us).length with h'|h'
       ·exact h'
       ·rw[Wai h']at VO;cases VO
      obtain⟨n1,n2,n3,n4⟩:=hnew _ aH;have f2:=VM.fill uM hhk VO hone n1 n2 n3;have f3:=Jd (u:=v) uM.le VO _ _ hF;rw[e1]at f2 f3 n4;rw[e2]at f2;refine DE.put hd hoh wG (hE.trans (uM.ext VM.size)) (by rw[BB wG hni];exact f2) (hxi.fill wG qeK v) f3 (oW uM.le hdf) qas (fun t ht=>?_) hS hWo n4
      have:=Jc (u:=v) uM.le VO _ _ (hb t ht)
      rwa [e1]at this
     have hy1:=hy hw1;rw[WaO]at hy1;rcases hy1 with ⟨hsi,hvi,hei,hdn,r,VP,hnk,hsc⟩|⟨hni,VP,hy⟩
     ·obtain⟨k,b'⟩:=r;obtain⟨A,Bq,r1,r2',r3⟩:=qan (L:=fun j=>listed.getD j false) (L':=fun j=>(listed.setIfInBounds i true).getD j false) VP AQ (by rw[jV wG,if_pos rfl]) (fun j hj=>by rw[jV wG,if_neg (Wa0 hj)])
       (List.range (all.toList.take m).length) List.nodup_range (List.mem_range.2 (by rw[hml];exact Eb))
      have r1:iV (all.toList.take m).length fW listed=A++Bq:=r1;have r2':iV (all.toList.take m).length fW (listed.setIfInBounds i true)=A++(k,b')::Bq:=r2';have hkeys:∀q∈A++Bq,q.1≠k:=fun q hq=>by
       obtain⟨j,hj,hne,he⟩:=r3 q hq;rw[WbW,hml]at hj;exact hdk j i q (k,b') hj Eb hne he VP
      have qpg:∃t av xv avv xvv r2,o.op= .store t av xv/\aE Ψ (β++us) avv (a.eval av)/\aE Ψ (β++us) xvv (a.eval xv)/\nr C (wr (H.h0++uK) (iV (all.toList.take m).length fW listed)) t avv xvv=some r2/\r2.heap=bw (wr (H.h0++uK) (iV (all.toList.take m).length fW listed)) k b':=by
       rcases sC hsc with ⟨t,av,xv,sz,ix,u,y,tid,e,xs,hop,_,hea,hex,hk,hg,qiG⟩|⟨t,av,xv,off,cb,hop,_,hea,hk,hg,qiF,_,qiG⟩
       ·have Ig:k<H.h0.length:=by rw[<-cF];exact hk
        obtain⟨hbf,hgk⟩:=ql2 i k tid e xs (aC hg (by simp)) Ig
        obtain⟨r2,hr2,qau⟩:=qiG (wr (H.h0++uK) (iV (all.toList.take m).length fW listed)) (sC.zK (by rw[ql4 listed i hcd AQ hbf];show (H.h0++uK)[k]?=_;rw[Wao Ig];exact hgk))
        exact⟨t,av,xv,_,_,r2,hop,by rw[<-hea];exact cI av (by rw[hop];simp[Op.operands]),by rw[<-hex];exact cI xv (by rw[hop];simp[Op.operands]),hr2,qau⟩
       ·have ha:aE Ψ (β++us) (.own k off) (a.eval av):=by rw[<-hea];exact cI av (by rw[hop];simp[Op.operands])
        have hgk:=aC hg (by rintro rfl;exact qiF)
        rw[WaY]at hgk;have hji:k-hlen H.h0<i:=by
         rcases Wak (k-hlen H.h0) i with h'|h'
         ·exact h'
         ·rw[Wai (by simp[rq];exact h')]at hgk;cases hgk
        have hgj:dh (k-hlen H.h0)=cb:=by
         simp only[rq,Wba,Wck hji,Wbk,Option.some.injEq]at hgk;exact hgk
        obtain⟨x1,x2,x3⟩:=hx;rw[hml]at x1 x2 x3;obtain⟨x4,x5⟩:=x3 (k-hlen H.h0) (by omega)
        have Il:k=β.length+(k-hlen H.h0):=by rw[qar,<-hh0,<-cF];omega
        have hlj:listed.getD (k-hlen H.h0) false=true:=by
         cases hl:listed.getD (k-hlen H.h0) false with
         |true=>rfl
         |false=>
          exfalso
          obtain⟨g,h1,_⟩:=ha;rw[Il,WaH (by omega),WbB,x5 hl]at h1
          simp[hole]at h1
        rw[hlj]at x4;have qpj:(wr (H.h0++uK) (iV (all.toList.take m).length fW listed))[k]?=some cb:=by
         rw[r1,FI hkeys,WaH (by rw[<-cF];exact hk),<-cF,x4,if_pos rfl,hgj]
        obtain⟨r2,hr2,qau⟩:=qiG _ (sC.zK qpj);exact⟨t,av,xv,_,_,r2,hop,ha,cI xv (by rw[hop];simp[Op.operands]),hr2,qau⟩
      obtain⟨t,av,xv,avv,xvv,r2,hop,ha,hxv,hr2,qau⟩:=qpg;obtain⟨w',hrun,_,_,hi'⟩:=Fu VM ha hxv hr2;have o7:∀c,o.op≠ .defer c:=fun c hc=>by rw[hop]at hc;cases hc
      refine⟨fun _ _=>trivial,?_⟩
      rw[Oper.semAt_eq _ _ _ o7];have nP:(execOp a.eval o).run C.P w= .ok .skip w':=by
       obtain⟨dst,op,ty,pos,after,guard⟩:=o;simp only at hop
       subst hop;simp[execOp,hrun]
      rw[nP];refine hnext _ _ (DE.put hd hoh wG hE (by
       rw[r2',qiA hkeys,<-r1,<-qau];exact hi') (hx.set wG AQ qeK hei) hF hdf qas hb hS hWo (by rw[hvi];rfl))
     ·rcases hy with ⟨hy,hei⟩|⟨hy,hvi⟩|⟨hy,hvi⟩|⟨hy,hvi⟩
      ·refine Oper.wpIn_mono (fun a' w' hp=>?_) (qiy hsp hy hBi cI)
       obtain⟨v,ax,rfl,uM,hv⟩:=hp;exact hnext _ _ (DE.put hd hoh wG (hE.trans (uM.ext VM.size)) (by rw[BB wG VP];exact VM.step uM) (hx.set wG AQ qeK hei) (bF uM.le (fun _ _ h=>h) _ _ hF) (oW uM.le hdf) qas (DE.mono uM.le hb) hS hWo hv)
      ·refine Oper.wpIn_mono (fun a' w' hp=>?_) (qeG (j:=hlen H.h0+i) hsp hy hBi cI)
       obtain⟨v,ax,rfl,uM,hn⟩:=hp;exact hnext _ _ (filled VP v ax w' uM (by rw[hvi];exact hn))
      ·refine Oper.wpIn_mono (fun a' w' hp=>?_) (qeH (j:=hlen H.h0+i) hy hBi)
       obtain⟨v,ax,rfl,uM,hn⟩:=hp;exact hnext _ _ (filled VP v ax w' uM (by rw[hvi];exact hn))
      ·refine Oper.wpIn_mono (fun a' w' hp=>?_) (qeI (j:=hlen H.h0+i) hy hBi cI)
       obtain⟨v,ax,rfl,uM,hn⟩:=hp;exact hnext _ _ (filled VP v ax w' uM (by rw[hvi];exact hn))
    ·rename_i hw1;obtain⟨hvi,hei,VP⟩:=hn (by simpa using hw1)
     exact hnext _ _ (DE.put hd hoh wG hE (by rw[BB wG VP];exact VM) (hx.set wG (js h1) (by rw[hml];exact Eb) hei) hF hdf qas hb hS hWo (by rw[hvi];rfl))
where
 Od {ro:Option Nat} {all:Array Oper} {m:Nat} {below:List (List AV)} {top:List AV} {jT n7:Nat->List AV} {vals:Nat->AV} {Ed:Nat->Bool} {dh:Nat->aB} {H:HW} {fW:Nat->Option (Nat×aB)} {Q:Exit->Act->World->Prop} (hm:m<=all.size) (hml:(all.toList.take m).length=m) (hd:uG (all.toList.take m))
  (hH:H=HW.mk' all h (all.toList.take m)) (qar:β.length=h.length) (ht:Trace C H [] [] (all.toList.take m) 0 top jT n7 vals Ed dh fW) (FK:rU all m (all.toList.drop m)=true)
  (Oa:∀Ψ us a w,Ext B bL Ψ->aD C.P B w0 Ψ (β++us) (wr (h++rq m dh) (rws m fW [])) w->aQ Ψ (β++us) (jT m::below) (a::As)->fI bL W a0 a->wpListIn (Fw ro) 0 C.P all Q (all.toList.drop m) a w)
  (fuel:Nat) (listed:Array Bool) (a:Act) (w:World) (hsz:listed.size=all.size) (htl:∀i,m<=i->i<all.size->listed.getD i false=false) (hcd:ig all listed) (hu:unl listed.toList<=fuel) (hall:∀i,i<m->listed.getD i false=true)
  (hJ:DE (C:=C) B w0 bL β H below As W a0 (all.toList.take m) top vals dh fW listed a w):wpAnyIn (Fw ro) 0 C.P .any all Q fuel listed a w:=by
  obtain⟨Ψ,us,uK,hE,VM,hx,hF,hdf,qas,hb,hS⟩:=hJ;have qpk:uK=rq m dh:=by
   obtain⟨x1,x2,x3⟩:=hx;rw[hml]at x2 x3;apply WbF
   intro i;rcases Wak i m with h'|h'
   ·have x4:=(x3 i h').1;rw[hall i h']at x4;rw[x4];simp[rq,h']
   ·rw[Wai (by omega),Wai (by simp[rq];omega)]
  subst qpk;have hh0:H.h0=h:=by rw[hH];rfl
  have qpl:rws m fW []=iV (all.toList.take m).length fW listed:=by
   unfold rws iV;rw[hml,WaY];apply zJ
   intro j hj;rw[hall j (List.mem_range.1 hj),if_pos rfl]
  rw[hh0,<-qpl]at VM;obtain⟨hcl,rO⟩:=ht.chain hd m (by omega)
  have hbase:∀t,lQ (all.toList.take m) top vals (fun j=>decide (j<m)) t=lQ (all.toList.take m) top vals (fun j=>listed.getD j false) t:=by
   intro t;unfold lQ;rw[find_congr (q:=fun i=>listed.getD i false&&((all.toList.take m)[i]?.bind (·.dst)==some t)) (fun j hj=>?_)]
   have:j<m:=by rw[WbW,hml]at hj;exact hj
   simp[this,hall j this]
  refine T3 all Q _ m fuel listed a w rfl hm FK hsz hcd (fun j hj=>?_) ?_ (Oa Ψ us a w hE VM ⟨a,As,rfl,⟨hdf,T6 _ _ (by simp;omega) (fun t ht'=>?_)⟩,hF⟩ hS)
  ·rcases Wak j m with h'|h'
   ·rw[hall j h'];simpa using h'
   ·rw[htl j h' hj];simp;omega
  ·have:=By (l:=listed.toList) (m:=m) (by simp;omega) (fun j hj hjl=>by
    have hx:=htl j hj (by simp at hjl;omega)
    rw[Wah,Wa1 (by simpa using hjl)]at hx
    simp at hx
    rw[Waa hjl];simp[hx])
   simp only[List.length_drop,Array.length_toList]at*
   omega
  ·have:=hb t (by omega)
   rw[<-hbase t]at this;exact rO t (by omega) _ _ _ this
theorem aD.places(hi:aD C.P B w0 Ψ β h w)(n:Nat)(gs:List aB)(hl:n=gs.length)(hg:∀b∈gs,b= .gone):aD C.P B w0 Ψ (β++List.replicate n hole) (h++gs) w:=by
 have at_:∀{j:Nat} {b:aB},(h++gs)[j]?=some b->h[j]?=some b\/b= .gone:=by
  intro j b hj;rcases Wak j h.length with h'|h'
  ·rw[Wao h']at hj;exact .inl hj
  ·rw[WaH h']at hj;exact .inr (hg b (WaE hj))
 have cl:∀{j g:Nat} {b:aB},h[j]?=some b->af (β++List.replicate n hole) j g b->af β j g b:=by
  intro j g b hj hc;have e:(β++List.replicate n hole)[j]?=β[j]?:=Wao (by
   rw[hi.len];rcases Wak j h.length with h'|h'
   ·exact h'
   ·rw[Wai h']at hj;cases hj)
  cases b with
  |gone=>exact hc
  |log ys Y own xs=>exact hc
  |kV ys Y own=>exact hc
  |cells cs=>simp only[af]at*;rwa [e]at hc
  |grow tid e' xs=>obtain⟨m,cap,h1,h2⟩:=hc;rw[e]at h2;exact⟨m,cap,h1,h2⟩
  |fH es=>simp only[af]at*;rwa [e]at hc
  |dmap e' m=>simp only[af]at*;rwa [e]at hc
  |eo e' last left=>simp only[af]at*;rwa [e]at hc
  |loop f p ph ts=>simp only[af]at*;rwa [e]at hc
  |dat t x=>simp only[af]at*;rwa [e]at hc
  |eu n rest=>simp only[af]at*;rwa [e]at hc
  |xb x=>obtain⟨v,h1,h2⟩:=hc;rw[e]at h1;exact⟨v,h1,h2⟩
 refine⟨hi.low,hi.size,hi.prom,hi.own,by simp[hi.len,hl],fun j u hj=>?_,fun j b hj=>?_,fun j b g hj hc a ha hs=>?_,fun i j bi bj g hij yV xM rO n6=>?_,hi.gQ⟩
 ·rcases Wak j β.length with h'|h'
  ·rw[Wao h']at hj;exact hi.one j u hj
  ·rw[WaH h',Wbb]at hj;split at hj
   ·simp at hj;subst hj;rfl
   ·cases hj
 ·rcases at_ hj with h1|rfl
  ·have hb:=hi.blk j b h1;cases b with
   |gone=>trivial
   |log ys Y own xs=>exact jQ hb (fun _ h=>eH _ _ _ h) (bW.refl _).m (Wan _) fun _ _=>rfl
   |kV ys Y own=>exact jR hb (fun _ h=>eH _ _ _ h) (bW.refl _).m (Wan _) fun _ _=>rfl
   |cells cs=>
    obtain⟨g,c,e,h1,h2,h3,h4,h5⟩:=hb;exact⟨g,c,e,eH _ _ _ h1,h2,h3,aX (bW.refl _) (eH _) _ _ h4,h5⟩
   |grow tid e xs=>
    rcases hb with ⟨ad,h1,h2⟩|⟨g,cap,cur,h1,r⟩
    ·exact .inl ⟨ad,eH _ _ _ h1,h2⟩
    ·exact .inr ⟨g,cap,cur,eH _ _ _ h1,r⟩
   |fH es=>
    obtain⟨g,ms,cl,h1,h2,h3,h4,h5,h6⟩:=hb;exact⟨g,ms,cl,eH _ _ _ h1,h2,h3,h4,aX (bW.refl _) (eH _) _ _ h5,h6⟩
   |dmap e m=>
    obtain⟨g,ms,cl,h1,r⟩:=hb;exact⟨g,ms,cl,eH _ _ _ h1,r⟩
   |eo e last left=>
    obtain⟨g,gm,ms,cl,seen,h1,r⟩:=hb;exact⟨g,gm,ms,cl,seen,eH _ _ _ h1,r⟩
   |dat t x=>
    obtain⟨g,c,e,h1,r⟩:=hb;exact⟨g,c,e,eH _ _ _ h1,r⟩
   |eu n rest=>
    obtain⟨g,s,pos,h1,r⟩:=hb;exact⟨g,s,pos,eH _ _ _ h1,r⟩
   |xb x=>
    obtain⟨v,h1,r⟩:=hb;exact⟨v,eH _ _ _ h1,r⟩
   |loop f p ph ts=>
    obtain⟨l,r,h1,h2,h3,h4,h5,h6⟩:=hb;exact⟨l,r,eH _ _ _ h1,h2,h3,h4,aX (bW.refl _) (eH _) _ _ h5,h6⟩
  ·trivial
 ·rcases at_ hj with h1|rfl
  ·exact hi.free j b g h1 (cl h1 hc) a ha hs
  ·exact hc.elim
 ·rcases at_ yV with h1|rfl
  ·rcases at_ xM with h2|rfl
   ·exact hi.sep i j bi bj g hij h1 h2 (cl h1 rO) (cl h2 n6)
   ·exact n6.elim
  ·exact rO.elim
theorem m6{n:Nat}(i:Nat):(Array.replicate n false).getD i false=false:=by
 simp[Wah,Array.getElem?_replicate];split<;>rfl
theorem cC{all:Array Oper}{L:List Nat}{i:Nat}:∀{n:Nat},i∈dI all L n↔i<n/\∃o,all[i]?=some o/\ck i L=false/\(fN o).all (fun j=>ck j L)=true
 |0=>by simp[dI]
 |n+1=>by
  unfold dI;have ih:=cC (all:=all) (L:=L) (i:=i) (n:=n);split
  ·rename_i o ho;split
   ·rename_i hc;simp only[Wac,WaU]at hc;rw[WbH,ih,Wbs];constructor
    ·rintro (⟨h1,h2⟩|rfl)
     ·exact⟨by omega,h2⟩
     ·exact⟨by omega,o,ho,hc.1,hc.2⟩
    ·rintro⟨h1,o',ho',h2⟩
     by_cases hin:i=n
     ·exact .inr hin
     ·exact .inl ⟨by omega,o',ho',h2⟩
   ·rename_i hc;rw[ih];constructor
    ·rintro⟨h1,h2⟩;exact⟨by omega,h2⟩
    ·rintro⟨h1,o',ho',h2,h3⟩
     by_cases hin:i=n
     ·subst hin;rw[ho]at ho';simp only[Option.some.injEq]at ho';subst ho';exact absurd (by rw[h2,h3];rfl) hc
     ·exact⟨by omega,o',ho',h2,h3⟩
  ·rename_i ho;rw[ih];constructor
   ·rintro⟨h1,h2⟩;exact⟨by omega,h2⟩
   ·rintro⟨h1,o',ho',h2⟩
    by_cases hin:i=n
    ·subst hin;rw[ho]at ho';cases ho'
    ·exact⟨by omega,o',ho',h2⟩
theorem vL{p:Nat->Prop}:∀{l:List Nat},Tx p l->∀i∈l,p i
 |[],_,i,hi=>by simp at hi
 |[j],h,i,hi=>by simp at hi;subst hi;exact h
 |j::j'::l,h,i,hi=>by
  rcases List.mem_cons.1 hi with rfl|hi
  ·exact h.1
  ·exact vL h.2 i hi
theorem sD:∀{l:List Nat},EP l=true↔l=[]
 |[]=>by simp[EP]
 |_::_=>by simp[EP]
theorem pe{F:Fence}{n:Nat}{P:Program}{o:Oper}{K:Act->World->Prop}{Q Q':Exit->Act->World->Prop}(h:∀e a w,e≠ .normal->Q e a w->Q' e a w)(hh:o.wpIn F n P a w K Q):o.wpIn F n P a w K Q':=by
 unfold Oper.wpIn at*;refine⟨hh.1,?_⟩
 have hh:=hh.2;generalize (o.semAt F.round a.eval).run P w=r at*
 have out:LetsOut Q->LetsOut Q':=fun ⟨a,w,hq⟩=>⟨a,w,h _ _ _ (by simp) hq⟩
 cases r with
 |ok x w'=>
  cases x<;>simp only[Oper.uponIn]at hh ⊢ <;>
   first
    |exact hh
    |exact⟨hh.1,CallsIn.mono hh.2 (fun e w'' he=>by cases e<;>first|exact he|exact h _ _ _ (by simp) he|exact out he)⟩
    |exact⟨hh.1,RoundIn.mono hh.2 (fun e w'' he=>by cases e<;>first|exact he|exact h _ _ _ (by simp) he|exact out he)⟩
 |halt x w'=>cases x<;>simp only[Oper.uponIn]at hh ⊢ <;>first|exact hh|exact h _ _ _ (by simp) hh
theorem Jg{all:Array Oper}{L:List Nat}:∀{l:List Nat} {i:Nat},Zl fr all L l=some i->i∈l/\TA fr all L i=true
 |[],_,h=>by simp[Zl]at h
 |j::l,i,h=>by
  unfold Zl at h;split at h
  ·rename_i hf;simp only[Option.some.injEq]at h;subst h;exact⟨by simp,hf⟩
  ·obtain⟨h1,h2⟩:=Jg h;exact⟨Wal _ h1,h2⟩
def Oe(Ψ:Pr)(w:World):Prop:=∀ad v,Ψ ad=some v->Pm w ad v
def qav(P:Program)(R:World->Prop)(o:Oper)(v:Value)(a:Act):Prop:=∀a':Act,(∀x∈o.op.operands,a'.eval x=a.eval x)->∀w,R w->(execOp a'.eval o).run P w= .ok (.value v) w
theorem vM{P:Program}{s:Sem Value}{v:Value}{w:World}(hr:s.run P w= .ok v w):(do pure (Next.value (<-s)):Sem Next).run P w= .ok (.value v) w:=by
 rw[Sem.run_bind,hr];rfl
theorem xX{wr:Bool}{k:IntKind}{n:Int}{r:Out}(hr:arith wr h k n=some r)(hp:∀p,r.need=some p->p):aE Ψ β r.v (.int k (k.wrap n)):=(q8 (Ψ:=Ψ) (β:=β) hr hp).2.2
theorem Lc{src dt:TypeId}{j:IntKind}{n:Int}{V:Value}{r:Out}(hx:aE Ψ β (.d (.int j) n) V)(hr:qT C h src dt (.d (.int j) n)=some r):∃v,(∀w,(convert src dt V).run C.P w= .ok v w)/\aE Ψ β r.v v:=by
 obtain⟨rfl,hn⟩:=aU.1 hx;unfold qT at hr;split at hr
 ·rename_i k0 k hsrc fk;have hrun:∀w,(convert src dt (.int j n)).run C.P w= .ok (.int k (k.wrap n)) w:=fun w=>by
   simp[convert,run_underlying hsrc,run_underlying fk,Conv.intToInt]
  dsimp only at hr;split at hr
  ·have:=aI hr;subst this
   exact⟨_,hrun,by rw[E7 hn];exact aU.2 ⟨rfl,hn⟩⟩
  ·have:=aI hr;subst this
   exact⟨_,hrun,aU.2 ⟨rfl,eG _ _⟩⟩
 ·split at hr
  ·simp[iR]at hr
  ·cases hr
 ·cases hr
theorem VQ{wr:Bool}{op:BinOp}{xt:TypeId}{k k':IntKind}{m n:Int}{r:Out}(hm:k.has m)(hn:k'.has n)
 (hr:Vd wr h op k k' m n=some r) (hp:∀p,r.need=some p->p):∃v,(∀w,(binOp op xt (.int k m) (.int k' n)).run C.P w= .ok v w)/\aE Ψ β r.v v:=by
 unfold Vd at hr;split at hr
 ·split at hr
  ·have:=bG hr;subst this
   obtain⟨h0,h1,h2⟩:=hp _ rfl;refine⟨.int .i64 (m*2 ^ n.toNat),fun w=>?_,aU.2 ⟨rfl,mJ.2 h2⟩⟩
   rw[binOp_shl,KT _ _ _ _ h0 (by simp[IntKind.bits];omega),wrap_i64 h2]
  ·have:=bG hr;subst this
   obtain⟨h0,h1⟩:=hp _ rfl;refine⟨.int k (k.wrap (m*2 ^ n.toNat)),fun w=>?_,aU.2 ⟨rfl,eG _ _⟩⟩
   rw[binOp_shl,KT _ _ _ _ h0 h1]
 ·have:=bG hr;subst this
  obtain⟨h0,h1⟩:=hp _ rfl;refine⟨.int k (m / 2 ^ n.toNat),fun w=>?_,aU.2 ⟨rfl,TM hm _⟩⟩
  rw[binOp_shr,ZP _ _ _ _ h0 h1]
 ·split at hr
  ·rename_i hk;subst hk;have Bf:∀b:Bool,iH h (fY b)=some r->(∀w,(binOp op xt (.int k m) (.int k n)).run C.P w= .ok (.bool b) w)->
    ∃v,(∀w,(binOp op xt (.int k m) (.int k n)).run C.P w= .ok v w)/\aE Ψ β r.v v:=by
    intro b e hb;have:=aI e;subst this
    exact⟨_,hb,dx b⟩
   split at hr
   ·exact⟨_,fun w=>by rw[binOp_add];rfl,xX hr hp⟩
   ·exact⟨_,fun w=>by rw[binOp_sub];rfl,xX hr hp⟩
   ·exact⟨_,fun w=>by rw[binOp_mul];rfl,xX hr hp⟩
   ·split at hr
    ·have:=bG hr;subst this
     obtain⟨h0,h1⟩:=hp _ rfl;refine⟨.int .i64 (m.tdiv n),fun w=>?_,aU.2 ⟨rfl,mJ.2 h1⟩⟩
     rw[binOp_quo];simp[Op.intDiv,h0,wrap_i64 h1]
    ·have:=bG hr;subst this
     have h0:=hp _ rfl;refine⟨.int k (k.wrap (m.tdiv n)),fun w=>?_,aU.2 ⟨rfl,eG _ _⟩⟩
     rw[binOp_quo];simp[Op.intDiv,h0]
   ·have:=bG hr;subst this
    have h0:=hp _ rfl;refine⟨.int k (m.tmod n),fun w=>?_,aU.2 ⟨rfl,ND hm hn⟩⟩
    rw[binOp_rem];simp[Op.intDiv,h0]
   ·have:=aI hr;subst this
    exact⟨_,fun w=>by rw[binOp_and];exact nZ _ _ _ _ (.inl rfl),aU.2 ⟨rfl,eG _ _⟩⟩
   ·have:=aI hr;subst this
    exact⟨_,fun w=>by rw[binOp_or];exact nZ _ _ _ _ (.inr (.inl rfl)),aU.2 ⟨rfl,eG _ _⟩⟩
   ·have:=aI hr;subst this
    exact⟨_,fun w=>by rw[binOp_xor];exact nZ _ _ _ _ (.inr (.inr (.inl rfl))),aU.2 ⟨rfl,eG _ _⟩⟩
   ·have:=aI hr;subst this
    exact⟨_,fun w=>by rw[binOp_andNot];exact nZ _ _ _ _ (.inr (.inr (.inr rfl))),aU.2 ⟨rfl,eG _ _⟩⟩
   ·exact Bf _ hr (fun w=>by rw[binOp_eql];rfl)
   ·exact Bf _ hr (fun w=>by rw[binOp_neq];rfl)
   ·exact Bf _ hr (fun w=>by rw[binOp_lss];rfl)
   ·exact Bf _ hr (fun w=>by rw[binOp_leq];rfl)
   ·exact Bf _ hr (fun w=>by rw[binOp_gtr];rfl)
   ·exact Bf _ hr (fun w=>by rw[binOp_geq];rfl)
   ·cases hr
  ·cases hr
theorem Q1{t:TypeId}{e0:Ty}{Ih:List e0.den}{v:Value}{lo hi mx:Option AV}{l h' m:Option Value}{r:Out}(hx:aE Ψ β (.d (.arr e0) Ih) v)(hl:jS Ψ β lo l)(hh:jS Ψ β hi h')(hm:jS Ψ β mx m)
 (hr:EL C h t (.d (.arr e0) Ih) lo hi mx=some r) (hp:∀p,r.need=some p->p):∃u,(∀w,(Instr.sliceAt t v l h' m).run C.P w= .ok u w)/\aE Ψ β r.v u:=by
 have hr:vq C h t (.d (.arr e0) Ih) lo hi mx=some r:=hr;generalize hX:AV.d (.arr e0) Ih=X at hr hx
 unfold vq at hr;split at hr
 ·cases hr
 ·rename_i x y z he;split at hr
  ·cases hX
  ·cases hX
  ·rename_i tid hu Vk;split at hr
   ·rename_i e xs sz hl' hsz;split at hr
    ·rename_i hc;have tG:sz=e.cells:=by simpa [Wag]using hc
     have vD:=q9 hx hl' (by intro k e;subst e;cases hX)
     have yU:∀v' w,(Instr.sliceAt t v' l h' m).run C.P w=(Instr.slice t v' l h' m).run C.P w:=by
      intro v' w;simp[Instr.sliceAt,run_underlying hu]
     split at hr
     ·have:=bG hr;subst this
      obtain⟨h0,h1⟩:=hp _ rfl;obtain⟨ad,cap,rfl,hlc,zA,hout⟩:=jm vD tG (l:=x.toNat) (n:=xs.length) (by omega) (Wan _)
      refine⟨_,fun w=>?_,hout cap hlc (Wan _)⟩
      obtain⟨hb,_⟩:=cK (C:=C) (w:=w) (isSlice:=true) (len:=xs.length) (cap:=cap) hl hh hm he h0 (by simpa using h1) (by simp) (by simp) hlc
      simp only[WbG,Wbn]at hb;rw[yU];simp[Instr.slice,run_underlying hu,hb,run_sizeOf hsz]
     ·rename_i n;have:=bG hr;subst this
      obtain⟨h0,h1,h2⟩:=hp _ rfl;have hn0:0<=n:=WbL h0 h1;obtain⟨ad,cap,rfl,hlc,zA,hout⟩:=jm vD tG (l:=x.toNat) (n:=n.toNat) (by omega) (by omega)
      refine⟨_,fun w=>?_,hout cap (by omega) (Wan _)⟩
      obtain⟨hb,_⟩:=cK (C:=C) (w:=w) (isSlice:=true) (len:=xs.length) (cap:=cap) hl hh hm he h0 (by simpa using h1) (by simp;omega) (by simp) hlc
      simp only[WbG,Wbn,Wbk,Wa3]at hb;rw[yU];simp[Instr.slice,run_underlying hu,hb,run_sizeOf hsz]
     ·rename_i n m';have:=bG hr;subst this
      obtain⟨h0,h1,h2,h3⟩:=hp _ rfl;subst h3;have hn0:0<=m':=WbL h0 h1;obtain⟨ad,cap,rfl,hlc,zA,hout⟩:=jm vD tG (l:=x.toNat) (n:=m'.toNat) (by omega) (by omega)
      have hlen:((xs.drop x.toNat).take (m'.toNat-x.toNat)).length=m'.toNat-x.toNat:=by simp;omega
      refine⟨_,fun w=>?_,⟨_,by rw[hlen],hout m'.toNat (Wan _) (by omega)⟩⟩
      obtain⟨hb,_⟩:=cK (C:=C) (w:=w) (isSlice:=true) (len:=xs.length) (cap:=cap) hl hh hm he h0 (by simpa using h1) (by simp) (by simp;omega) hlc
      simp only[Wbk,Wa3]at hb;rw[yU];simp[Instr.slice,run_underlying hu,hb,run_sizeOf hsz]
     ·cases hr
    ·cases hr
   ·cases hr
  ·cases hr
theorem VR{o:Oper}{r:Out}(qJ:ER fr o.op=true)(cI:∀x∈o.op.operands,aE Ψ β (ev fr x) (a.eval x))(hr:DC C fr h o.op=some r)(hp:∀p,r.need=some p->p):
 ∃v,qav C.P (Oe Ψ) o v a/\aE Ψ β r.v v:=by
 obtain⟨dst,op,ty,pos,after,guard⟩:=o;simp only at qJ cI hr
 cases op with
 |move x=>
  have:=aI hr;subst this
  exact⟨a.eval x,fun a' he w _=>by simp[execOp,he x (by simp[Op.operands])],cI x (by simp[Op.operands])⟩
 |assign x=>
  have:=aI hr;subst this
  exact⟨a.eval x,fun a' he w _=>by simp[execOp,he x (by simp[Op.operands])],cI x (by simp[Op.operands])⟩
 |fieldAddr t x f=>
  obtain⟨v,h1,h2⟩:=Fc (cI x (by simp[Op.operands])) hr
  exact⟨v,fun a' he w _=>by simp[execOp,he x (by simp[Op.operands]),h1 w],h2⟩
 |nilCheck x=>
  obtain⟨h1,h2,_,h3,ad,h4⟩:=ZY (cI x (by simp[Op.operands])) hr
  exact⟨a.eval x,fun a' he w _=>by simp[execOp,he x (by simp[Op.operands]),h4],h3⟩
 |load t x=>
  have hx:=cI x (by simp[Op.operands])
  have hr:CC C h t (ev fr x)=some r:=hr;unfold ER at qJ;simp only at qJ
  split at qJ
  ·rename_i u y hu;rw[hu]at hr hx;unfold CC at hr;simp only at hr
   split at hr
   ·rename_i ag n cU;split at hr
    ·rename_i hc;simp only[Wac,Wag,beq_iff_eq]at hc;obtain⟨hn,hag⟩:=hc;have:=aI hr;subst this
     obtain⟨g,off,us,hv,kN,hpr⟩:=hx;refine⟨_,fun a' he w hR=>?_,jb kN hag (fun hf=>by rw[aj u _ _ kN];have:=(cQ cU).2.2 hf;omega)⟩
     have hrun:=bN (w:=w) (us:=us) (g:=g) (off:=off) cU (by rw[aj u _ _ kN];omega) (fun j u' hj=>hR _ _ (hpr j u' hj))
     simp[execOp,he x (by simp[Op.operands]),hv,gY,hrun]
    ·cases hr
   ·cases hr
  ·cases qJ
 |indexAddr t x ix=>
  have hx:=cI x (by simp[Op.operands])
  have hu:=cI ix (by simp[Op.operands])
  have hr:oP C h t (ev fr x) (ev fr ix)=some r:=hr;have HY:∀k,ev fr x≠ .sl k:=fun k e=>by unfold ER at qJ;simp[e]at qJ
  have tW:∀u y,ev fr x≠ .rp u y:=fun u y e=>by unfold ER at qJ;simp[e]at qJ
  have hnz:∀k n,ev fr x≠ .DT k n:=fun k o e=>by unfold ER at qJ;simp[e]at qJ
  have hng:∀g,ev fr x≠ .Ko g:=fun g e=>by unfold ER at qJ;simp[e]at qJ
  generalize hX:ev fr x=X at*
  generalize hV:a.eval x=V at*
  generalize hY:ev fr ix=Y at*
  generalize hU:a.eval ix=U at*
  unfold oP at hr;split at hr
  ·rename_i tid kd i0 he;obtain⟨i,rfl⟩:∃i:Int,i=i0:=⟨i0,rfl⟩
   obtain⟨rfl,hik⟩:=aU.1 hu;split at hr
   ·rename_i sz hs;split at hr
    ·rename_i k;exact absurd rfl (HY k)
    ·exact absurd rfl (hnz _ _)
    ·split at hr
     ·rename_i e xs hl;split at hr
      ·rename_i hc;have hsz:e.cells=sz:=by simpa [Wag]using hc
       have:=bG hr;subst this
       obtain⟨h0,h1⟩:(0:Int)<=i/\i<(xs.length:Int):=hp _ rfl
       obtain⟨ad,cap,rfl,_,_,h3⟩:=nu.1 (q9 hx hl (fun k e=>HY k e))
       have hlt:i.toNat<xs.length:=by omega
       rcases h3 with rfl|⟨cells,hd,g,off,rfl,tG⟩
       ·simp at hlt
       ·obtain⟨us,kN,aH⟩:=nY (aj e) _ _ hd i.toNat xs[i.toNat] (Waa hlt);have hD:xs.getD i.toNat (dflt e)=xs[i.toNat]:=by simp[Wab,Waa hlt]
        refine⟨.pointer (some ⟨g,off+i.toNat*sz,none⟩),fun a' he' w _=>?_,⟨g,off+i.toNat*sz,us,rfl,by rw[hD];exact kN,fun j u hj=>?_⟩⟩
        ·have e1:=he' x (by simp[Op.operands])
         have e2:=he' ix (by simp[Op.operands])
         rw[hV]at e1;rw[hU]at e2;have hrun:=mT (w:=w) he hs h0 h1 (cap:=cap) (k:=kd) (ad:=⟨g,off,none⟩);rw[Addr.add_lit]at hrun;simp[execOp,e1,e2,hrun]
        ·have:=tG _ _ (aH j u hj)
         rw[<-hsz];rwa [<-Wa2]at this
      ·cases hr
     ·cases hr
   ·cases hr
  ·rename_i kd i0 he;obtain⟨i,rfl⟩:∃i:Int,i=i0:=⟨i0,rfl⟩
   obtain⟨rfl,hik⟩:=aU.1 hu;unfold vr at hr;split at hr
   ·rename_i n et ha;split at hr
    ·rename_i sz hs;split at hr
     ·rename_i k off;obtain⟨g,bV,rfl⟩:=hx;have hpure:(0:Int)<=i/\i<(n:Int)->∀a':Act,(∀y∈(Op.indexAddr t x ix).operands,a'.eval y=a.eval y)->∀w:World,(execOp a'.eval {dst:=dst,op:=.indexAddr t x ix,type:=ty,pos:=pos,after:=after,guard:=guard}).run C.P w= .ok (.value (.pointer (some ⟨g,off+i.toNat*sz,none⟩))) w:=fun hb a' he' w=>by
       have e1:=he' x (by simp[Op.operands])
       have e2:=he' ix (by simp[Op.operands])
       rw[hV]at e1;rw[hU]at e2;have hrun:=lp (w:=w) ha hs hb.1 hb.2 (k:=kd) (ad:=⟨g,off,none⟩);rw[Addr.add_lit]at hrun;simp[execOp,e1,e2,hrun]
      cases hd:(C.zb t&&Nat.beq sz 1) with
      |true=>
       rw[hd,cond_true]at hr;simp only[Wac,Wag]at hd;obtain⟨_,rfl⟩:=hd;have:=bG hr;subst this
       have hb:(0:Int)<=i/\i<(n:Int):=hp _ rfl;exact⟨_,fun a' he' w _=>hpure hb a' he' w,⟨g,bV,hb.1,hb.2,by rw[WaS]⟩⟩
      |false=>
       rw[hd,cond_false]at hr;have:=bG hr;subst this
       have hb:(0:Int)<=i/\i<(n:Int):=hp _ rfl;exact⟨_,fun a' he' w _=>hpure hb a' he' w,⟨g,bV,rfl⟩⟩
     ·exact absurd rfl (tW _ _)
     ·exact absurd rfl (hng _)
     ·cases hr
    ·cases hr
   ·cases hr
  ·cases hr
 |binOp bop xt x y yt=>
  have hx:=cI x (by simp[Op.operands])
  have hy:=cI y (by simp[Op.operands])
  simp only[ER]at qJ;simp only[DC]at hr;split at qJ
  ·rename_i k m k' n hX hY;rw[hX]at hr hx;rw[hY]at hr hy;have hno:zc C h bop xt (.d (.int k) m) (.d (.int k') n)=none:=by
    unfold zc;split
    ·rename_i ty hty;split
     ·rename_i hc;simp only[Wac]at hc;have hag:=hc.1.1.1.1.1;split
      ·rename_i a' b' ha' hb';exfalso
       have hn:∀ty:Ty,ty.isAgg=true->Ty.int k≠ty:=fun ty h1 h2=>by subst h2;cases h1
       have:AZ h ty (.d (.int k) m)=none:=by
        show bR (.int k) ty m=none
        unfold bR;split
        ·rename_i h1 _;exact absurd h1 (hn ty hag)
        ·rfl
       rw[this]at ha';cases ha'
      ·rfl
     ·rfl
    ·rfl
   rw[hno]at hr;have hr:Vd C.qgN h bop k k' m n=some r:=hr;obtain⟨hx1,hm⟩:=aU.1 hx;obtain⟨hy1,hn⟩:=aU.1 hy;obtain⟨v,h1,h2⟩:=VQ (C:=C) (Ψ:=Ψ) (β:=β) (xt:=xt) hm hn hr hp;refine⟨v,fun a' he w _=>?_,h2⟩
   have e1:=he x (by simp[Op.operands])
   have e2:=he y (by simp[Op.operands])
   rw[hx1]at e1;rw[hy1]at e2;have hrun:∀s:Sem Value,((pure ():Sem Unit)>>=fun _=>s)=s:=fun _=>rfl
   have h3:(do eqGuard bop xt x y (.int k m) (.int k' n);Go.binOp bop xt (.int k m) (.int k' n)).run C.P w= .ok v w:=by
    rw[eqGuard_at_int,hrun];exact h1 w
   simp only[execOp,e1,e2];exact vM h3
  ·cases qJ
 |slice t x lo hi' mx=>
  have hx:=cI x (by simp[Op.operands])
  simp only[ER]at qJ;have hr:EL C h t (ev fr x) (EM fr lo) (EM fr hi') (EM fr mx)=some r:=hr;split at qJ
  ·rename_i e0 Ih hX;rw[hX]at hr hx;obtain⟨u,h1,h2⟩:=Q1 hx (vC lo fun y hy=>cI y (by simp only[Op.operands,Wbf];exact .inl (.inl (.inr hy))))
    (vC hi' fun y hy=>cI y (by simp only[Op.operands,Wbf];exact .inl (.inr hy))) (vC mx fun y hy=>cI y (by simp only[Op.operands,Wbf];exact .inr hy)) hr hp
   refine⟨u,fun a' he w _=>?_,h2⟩
   have opt:∀o:Option Operand,(∀y∈o.toArray,a'.eval y=a.eval y)->o.map a'.eval=o.map a.eval:=fun o ho=>by
    cases o with
    |none=>rfl
    |some y=>simp[ho y (by simp)]
   have e1:=he x (by simp[Op.operands])
   have e2:=opt lo fun y hy=>he y (by simp only[Op.operands,Wbf];exact .inl (.inl (.inr hy)))
   have e3:=opt hi' fun y hy=>he y (by simp only[Op.operands,Wbf];exact .inl (.inr hy))
   have e4:=opt mx fun y hy=>he y (by simp only[Op.operands,Wbf];exact .inr hy)
   simp only[execOp,e1,e2,e3,e4];exact vM (h1 w)
  ·cases qJ
 |convert src dt x=>
  have hx:=cI x (by simp[Op.operands])
  simp only[ER]at qJ;have hr:qT C h src dt (ev fr x)=some r:=hr;split at qJ
  ·rename_i k m hX;rw[hX]at hr hx;obtain⟨v,h1,h2⟩:=Lc hx hr;refine⟨v,fun a' he w _=>?_,h2⟩
   have e1:=he x (by simp[Op.operands])
   simp only[execOp,e1];exact vM (h1 w)
  ·cases qJ
 |extract x i=>
  have hx:=cI x (by simp[Op.operands])
  have hr:ud h (ev fr x) i=some r:=hr;unfold ud at hr;split at hr
  ·rename_i cs hX;rw[hX]at hx;split at hr
   ·rename_i hc;have:=aI hr;subst this
    obtain⟨vs,hvs,hl⟩:=hx;obtain⟨u,hu,bu⟩:=l6 _ _ hl i (by simp only[WaK,dw]at hc;omega)
    refine⟨u,fun a' he w _=>?_,bu⟩
    have e1:=he x (by simp[Op.operands])
    rw[hvs]at e1;simp[execOp,e1,Instr.extract,hu]
   ·cases hr
  ·cases hr
 |_=>cases qJ
theorem Of{ro:Option Nat}{P:Program}{all:Array Oper}{oi oj:Oper}{v:Value}{j:Nat}{K:Act->World->Prop}{Q:Exit->Act->World->Prop}(hP:∀c (a:Act) d v w,Q (.panic c) (a.put d v) w↔Q (.panic c) a w)(hap:oi.apart all oj=true)
 (hj:all[j]?=some oj) (o7:∀c,oj.op≠ .defer c) (HY:∀cs b,oj.op≠ .select cs b) (hh:wpOpIn (Fw ro) 0 P all Q j K (a.put oi.dst v) w):
 wpOpIn (Fw ro) 0 P all Q j (fun a' w'=>(∀x∈oi.op.operands,a'.eval x=a.eval x)/\K (a'.put oi.dst v) w') a w:=by
 obtain⟨h1,h2,h3⟩:=Oper.apart_spec hap;have keep:∀u,∀x∈oi.op.operands,(a.put oj.dst u).eval x=a.eval x:=fun u x hx=>by
  refine Act.eval_put fun d hd hxd=>h3 d hd ?_
  subst hxd;exact Wbm _ (List.mem_filterMap.2 ⟨.tmp d,by simpa using hx,rfl⟩)
 have both:∀u w',K ((a.put oi.dst v).put oj.dst u) w'->(∀x∈oi.op.operands,(a.put oj.dst u).eval x=a.eval x)/\K ((a.put oj.dst u).put oi.dst v) w':=fun u w' hk=>
  ⟨keep u,by rw[<-Act.put_comm a v u h2];exact hk⟩
 have hwd:=wanted_put oj a oi.dst v h1;unfold wpOpIn at hh ⊢;rw[hj]at hh ⊢;simp only at hh ⊢
 rw[hwd]at hh;by_cases hw:Region.wanted oj (yielded all a.tmps)=true
 ·rw[if_pos hw]at hh ⊢;refine⟨fun _ _=>trivial,?_⟩
  have hh:=hh.2;rw[Oper.semAt_eq _ _ _ o7]at hh ⊢;rw[execOp_put oj HY a oi.dst v h1]at hh;generalize (execOp a.eval oj).run P w=res at hh ⊢
  rcases res with ⟨nx,w'⟩|⟨st,w'⟩
  ·cases nx<;>simp only[Oper.uponIn]at hh ⊢
   case value u=>exact both u w' hh
   case skip=>exact both undef w' hh
   case defer d=>
    refine⟨fun x hx=>by rw[show (({a with defers:=d::a.defers}:Act).put oj.dst undef).eval x=(a.put oj.dst undef).eval x by cases oj.dst<;>cases x<;>rfl];exact keep undef x hx,?_⟩
    rw[<-Act.put_comm _ v undef h2,<-Act.put_defers];exact hh
   case enter f args=>
    exact⟨hh.1,CallsIn.mono hh.2 fun e w'' he=>by
     cases e with
     |returned u=>exact both u w'' he
     |panicked c=>first|exact (hP _ _ _ _ _).2 he|exact (hP _ _ _ _ _).1 he|exact he
     |outgrown=>exact he⟩
   case row r args=>exact⟨hh.1,RowsIn.mono hh.2 fun u w'' he=>both u w'' he⟩
   case round l f tmps assign body=>
    exact⟨hh.1,RoundIn.mono hh.2 fun e w'' he=>by
     cases e with
     |returned u=>exact both u w'' he
     |panicked c=>first|exact (hP _ _ _ _ _).2 he|exact (hP _ _ _ _ _).1 he|exact he
     |outgrown=>exact he⟩
  ·cases st<;>simp only[Oper.uponIn]at hh ⊢
   case panic u=>first|exact (hP _ _ _ _ _).2 hh|exact (hP _ _ _ _ _).1 hh|exact hh
 ·rw[if_neg hw]at hh ⊢;exact⟨fun _ _=>trivial,both undef w hh.2⟩
def dY(ro:Option Nat)(P:Program)(all:Array Oper)(Q:Exit->Act->World->Prop)(R:World->Prop):Nat->Array Bool->Act->World->Prop
 |0,listed,a,w=>R w/\Region.ready .any all listed=[]/\Q .normal a w
 |fuel+1,listed,a,w=>R w/\(Region.ready .any all listed=[]->Q .normal a w)/\
  ∀i∈Region.ready .any all listed,wpOpIn (Fw ro) 0 P all Q i (dY ro P all Q R fuel (listed.setIfInBounds i true)) a w
theorem dY.mono{ro:Option Nat}{P:Program}{all:Array Oper}{Q:Exit->Act->World->Prop}{R R':World->Prop}(h:∀w,R w->R' w):∀(fuel:Nat) (listed:Array Bool) (a:Act) (w:World),dY ro P all Q R fuel listed a w->dY ro P all Q R' fuel listed a w
 |0,_,_,_,hk=>⟨h _ hk.1,hk.2⟩
 |fuel+1,_,_,_,hk=>⟨h _ hk.1,hk.2.1,fun i hi=>wpOpIn_mono (fun a w=>dY.mono h fuel _ a w) (hk.2.2 i hi)⟩
theorem dY.any{ro:Option Nat}{P:Program}{all:Array Oper}{Q:Exit->Act->World->Prop}{R:World->Prop}:∀(fuel:Nat) (listed:Array Bool) (a:Act) (w:World),dY ro P all Q R fuel listed a w->wpAnyIn (Fw ro) 0 P .any all Q fuel listed a w
 |0,_,_,_,hk=>hk.2
 |fuel+1,_,_,_,hk=>⟨hk.2.1,fun i hi=>wpOpIn_mono (fun a w=>dY.any fuel _ a w) (hk.2.2 i hi)⟩
theorem Q2{ro:Option Nat}{P:Program}{all:Array Oper}{i:Nat}{oi:Oper}{v:Value}{R:World->Prop}{Q:Exit->Act->World->Prop}(hP:∀c (a:Act) d v w,Q (.panic c) (a.put d v) w↔Q (.panic c) a w)(hi:all[i]?=some oi)(hg:oi.guard=none)
 (qiJ:∀c,oi.op≠ .defer c) (o7:∀(j:Nat) (o:Oper) (c:Call),all[j]?=some o->o.op≠ .defer c) (HY:∀(j:Nat) (o:Oper) cs b,all[j]?=some o->o.op≠ .select cs b):
 ∀(fuel:Nat) (listed:Array Bool) (a:Act) (w:World),
  (∀j oj,all[j]?=some oj->j≠i->listed.getD j true=false->(∀e∈oj.after,Region.binds .any e=true->e.on≠i)->oi.apart all oj=true)->i∈Region.ready .any all listed->qav P R oi v a->
  dY ro P all Q R fuel (listed.setIfInBounds i true) (a.put oi.dst v) w->dY ro P all Q R (fuel+1) listed a w:=by
 have own:∀(K:Act->World->Prop) (a:Act) (w:World),qav P R oi v a->R w->K (a.put oi.dst v) w->wpOpIn (Fw ro) 0 P all Q i K a w:=by
  intro K a w hp hR hk;unfold wpOpIn;rw[hi];simp only
  rw[if_pos (by simp[Region.wanted,hg])]
  refine⟨fun _ _=>trivial,?_⟩
  rw[Oper.semAt_eq _ _ _ qiJ,hp a (fun _ _=>rfl) w hR]
  exact hk
 intro fuel;induction fuel with
 |zero=>
  intro listed a w _ hr hp hk;refine⟨hk.1,fun he=>(by rw[he]at hr;cases hr),fun j hj=>?_⟩
  by_cases hji:j=i
  ·subst hji;exact own _ a w hp hk.1 hk
  ·have:=ready_mono hj hji
   rw[hk.2.1]at this;cases this
 |succ fuel ih=>
  intro listed a w hfree hr hp hk;refine⟨hk.1,fun he=>(by rw[he]at hr;cases hr),fun j hj=>?_⟩
  by_cases hji:j=i
  ·subst hji;exact own _ a w hp hk.1 hk
  ·obtain⟨hun,oj,N8,hall⟩:=jt.1 hj;have hni:∀e∈oj.after,Region.binds .any e=true->e.on≠i:=fun e he hb heq=>by
    have h1:=hall e he hb;rw[heq,js (jt.1 hr).1]at h1;cases h1
   have h2:=Of hP (hfree j oj N8 hji hun hni) N8 (fun c=>o7 j oj c N8) (fun cs b=>HY j oj cs b N8) (hk.2.2 j (ready_mono hj hji))
   refine wpOpIn_mono (fun a' w' h3=>ih (listed.setIfInBounds j true) a' w' (fun k ok hk' hki qaw hno=>hfree k ok hk' hki ?_ hno) (ready_mono hr (Wa0 hji)) (fun a'' he w'' hR=>hp a'' (fun x hx=>by rw[he x hx,h3.1 x hx]) w'' hR) ?_) h2
   ·by_cases cY:j=k
    ·subst cY;exact hun
    ·rw[Wah,WaN cY,<-Wah]at qaw;exact qaw
   ·rw[Wct _ _ hji];exact h3.2
def Still(P:Program){α:Type}(s:Sem α):Prop:=∀w v w',s.run P w= .ok v w'->w'=w
theorem Still.pure{P:Program}{α:Type}(a:α):Still P (pure a:Sem α):=fun w v w' h=>by
 simp only[Sem.run_pure]at h;cases h;rfl
theorem Still.bind{P:Program}{α β:Type}{s:Sem α}{f:α->Sem β}(h:Still P s)(h':∀a,Still P (f a)):Still P (s>>=f):=fun w v w' hr=>by
 rw[Sem.run_bind]at hr;cases hs:s.run P w with
 |ok a w1=>
  rw[hs]at hr;have:=h _ _ _ hs
  subst this;exact h' a _ _ _ hr
 |halt _ _=>rw[hs]at hr;cases hr
theorem Still.Jh{P:Program}(a:Addr):Still P (Go.load a):=fun w v w' h=>by
 unfold Go.load at h;simp only[Sem.run]at h;repeat' split at h
 all_goals first|(cases h;rfl)|(cases h)
theorem Still.program{P:Program}:Still P Go.program:=fun w v w' h=>by
 unfold Go.program at h;simp only[Sem.run]at h;cases h;rfl
theorem Still.halt{P:Program}{α:Type}(x):Still P (Sem.halt x:Sem α):=fun w v w' h=>by
 simp only[Sem.run]at h;cases h
theorem Still.loadCells{P:Program}(a:Addr):∀(n i:Nat) (acc:Array Value),Still P (loadCellsFrom a i n acc)
 |0,i,acc=>Still.pure _
 |n+1,i,acc=>Still.bind (Still.Jh _) fun v=>Still.loadCells a n (i+1) _
theorem Still.typeInfo{P:Program}(t:TypeId):Still P (typeInfo t):=Still.bind Still.program fun p=>by
 split
 ·exact Still.pure _
 ·exact Still.halt _
theorem Still.underlying{P:Program}(t:TypeId):Still P (underlying t):=Still.bind Still.program fun p=>by
 split
 ·exact Still.pure _
 ·exact Still.halt _
theorem Still.loadVar{P:Program}(t:TypeId)(a:Addr):Still P (loadVar t a):=by
 unfold Go.loadVar;refine Still.bind (Still.bind (Still.underlying t) fun d=>?_) fun b=>?_
 ·split<;>exact Still.pure _
 ·split
  ·exact Still.bind (Still.bind (Still.typeInfo t) fun i=>Still.pure _) fun n=>Still.bind (Still.loadCells a _ _ _) fun v=>Still.pure _
  ·exact Still.Jh _
theorem Still.loadAt{P:Program}(t:TypeId)(v:Value):Still P (Instr.loadAt t v):=by
 unfold Instr.loadAt;refine Still.bind ?_ fun ad=>Still.loadVar t ad
 unfold Instr.sureAddr;split
 ·exact Still.pure _
 ·exact Still.halt _
theorem Still.Og{P:Program}{o:Oper}{ρ:Operand->Value}(h:uf o.op=true){w w':World}{nx:Next}(hr:(execOp ρ o).run P w= .ok nx w'):w'=w/\∃u,nx= .value u:=by
 unfold uf at h;split at h
 ·rename_i t x hop;simp only[execOp,hop]at hr;rw[Sem.run_bind]at hr;cases hs:(Instr.loadAt t (ρ x)).run P w with
  |ok u w1=>
   rw[hs]at hr;have:=Still.loadAt t (ρ x) _ _ _ hs
   subst this;have hr:(Result.ok (Next.value u) w1:Result Next)= .ok nx w':=hr;cases hr;exact⟨rfl,u,rfl⟩
  |halt _ _=>rw[hs]at hr;cases hr
 ·cases h
def Pre(w w':World):Prop:=∀k,k<w.heap.size->w'.heap[k]?=w.heap[k]?
theorem Pre.refl(w:World):Pre w w:=fun _ _=>rfl
theorem Pre.lt{w w':World}(h:Pre w w'){k:Nat}(hk:k<w.heap.size):k<w'.heap.size:=by
 have:=h k hk
 rw[Wa1 hk]at this;exact aY this
theorem Pre.trans{w w' w'':World}(h:Pre w w')(h':Pre w' w''):Pre w w'':=fun k hk=>(h' k (h.lt hk)).trans (h k hk)
def Quiet(P:Program){α:Type}(s:Sem α):Prop:=∀w v w',s.run P w= .ok v w'->Pre w w'
theorem Still.quiet{P:Program}{α:Type}{s:Sem α}(h:Still P s):Quiet P s:=fun w v w' hr=>by
 rw[h w v w' hr];exact Pre.refl w
theorem Quiet.bind{P:Program}{α β:Type}{s:Sem α}{f:α->Sem β}(h:Quiet P s)(h':∀a,Quiet P (f a)):Quiet P (s>>=f):=fun w v w' hr=>by
 rw[Sem.run_bind]at hr;cases hs:s.run P w with
 |ok a w1=>
  rw[hs]at hr;exact (h _ _ _ hs).trans (h' a _ _ _ hr)
 |halt _ _=>rw[hs]at hr;cases hr
theorem Quiet.pure{P:Program}{α:Type}(a:α):Quiet P (pure a:Sem α):=(Still.pure a).quiet
theorem Quiet.halt{P:Program}{α:Type}(x):Quiet P (Sem.halt x:Sem α):=(Still.halt x).quiet
theorem Quiet.newRow{P:Program}(t:TypeId)(cs:Array Value):Quiet P (newRow t cs):=fun w v w' hr=>by
 simp[Go.newRow]at hr
 obtain⟨_,rfl⟩:=hr;intro k hk;show (w.heap.push _)[k]?=_
 rw[Array.getElem?_push,if_neg (by omega)]
theorem Still.zeroValue{P:Program}(t:TypeId):Still P (zeroValue t):=Still.bind (Still.typeInfo t) fun i=>by
 split
 ·exact Still.pure _
 ·exact Still.halt _
theorem Still.sizeOf{P:Program}(t:TypeId):Still P (Go.sizeOf t):=Still.bind (Still.typeInfo t) fun i=>Still.pure _
theorem Quiet.alloc{P:Program}(t:TypeId):Quiet P (Instr.alloc t true (.tuple #[])):=by
 unfold Instr.alloc;exact Quiet.bind (Still.zeroValue t).quiet fun z=>Quiet.bind (Quiet.newRow _ _) fun a=>Quiet.pure _
theorem Quiet.buildSlice{P:Program}(t:TypeId)(len:Nat)(parts:Array (Nat×Value)):Quiet P (Instr.buildSlice t len parts):=by
 unfold Instr.buildSlice;repeat' (first|exact Quiet.halt _|exact Quiet.pure _|exact (Still.zeroValue _).quiet|exact (Still.sizeOf _).quiet|exact (Still.underlying _).quiet|exact Quiet.newRow _ _|(refine Quiet.bind ?_ fun _=>?_)|split|(dsimp only;split))
theorem Ji{P:Program}{s:Sem Value}{nx:Next}{w w':World}(h:Quiet P s)(hr:(do pure (Next.value (<-s)):Sem Next).run P w= .ok nx w'):Pre w w'/\∃u,nx= .value u:=by
 rw[Sem.run_bind]at hr;cases hs:s.run P w with
 |ok u w1=>
  rw[hs]at hr;have hr:(Result.ok (Next.value u) w1:Result Next)= .ok nx w':=hr;cases hr;exact⟨h _ _ _ hs,u,rfl⟩
 |halt _ _=>rw[hs]at hr;cases hr
def sE(C:Ctx)(o:Oper):Bool:=uf o.op||fD C o
theorem VS{o:Oper}{ρ:Operand->Value}(h:sE C o=true){P:Program}{w w':World}{nx:Next}(hr:(execOp ρ o).run P w= .ok nx w'):Pre w w'/\∃u,nx= .value u:=by
 unfold sE at h;rw[WaL]at h;rcases h with h|h
 ·obtain⟨e,hu⟩:=Still.Og h hr;subst e;exact⟨Pre.refl _,hu⟩
 ·unfold fD at h;rw[Wac]at h;have h:=h.2;split at h
  ·rename_i t ht;simp only[execOp,ht]at hr;exact Ji (Quiet.alloc t) hr
  ·rename_i t len parts ht;simp only[execOp,ht]at hr;exact Ji (Quiet.buildSlice _ _ _) hr
  ·cases h
def fe(P:Program)(b:Nat){α:Type}(s:Sem α):Prop:=∀w w' v w1,(∃(c:Array Value) (e:TypeId) (f:Nat×Nat),w.heap[b]?=some (.cells c e f)/\w'.heap[b]?=some (.cells c e f))->s.run P w= .ok v w1->w1=w/\s.run P w'= .ok v w'
theorem fe.pure{P:Program}{b:Nat}{α:Type}(a:α):fe P b (pure a:Sem α):=fun w w' v w1 _ h=>by
 simp only[Sem.run_pure]at h;cases h;exact⟨rfl,by simp⟩
theorem fe.bind{P:Program}{b:Nat}{α β:Type}{s:Sem α}{f:α->Sem β}(h:fe P b s)(h':∀a,fe P b (f a)):fe P b (s>>=f):=fun w w' v w1 hb hr=>by
 rw[Sem.run_bind]at hr;cases hs:s.run P w with
 |ok a w2=>
  rw[hs]at hr;obtain⟨rfl,h1⟩:=h _ _ _ _ hb hs;obtain⟨rfl,h2⟩:=h' a _ _ _ _ hb hr;refine⟨rfl,?_⟩
  rw[Sem.run_bind,h1];exact h2
 |halt _ _=>rw[hs]at hr;cases hr
theorem fe.halt{P:Program}{b:Nat}{α:Type}(x):fe P b (Sem.halt x:Sem α):=fun w w' v w1 _ h=>by
 simp only[Sem.run]at h;cases h
theorem fe.program{P:Program}{b:Nat}:fe P b Go.program:=fun w w' v w1 _ h=>by
 unfold Go.program at h ⊢;simp only[Sem.run]at h ⊢;cases h;exact⟨rfl,rfl⟩
theorem fe.typeInfo{P:Program}{b:Nat}(t:TypeId):fe P b (typeInfo t):=fe.bind fe.program fun p=>by
 split
 ·exact fe.pure _
 ·exact fe.halt _
theorem fe.underlying{P:Program}{b:Nat}(t:TypeId):fe P b (underlying t):=fe.bind fe.program fun p=>by
 split
 ·exact fe.pure _
 ·exact fe.halt _
theorem fe.Jh{P:Program}{b:Nat}(ad:Addr)(hb:ad.block=b):fe P b (Go.load ad):=fun w w' v w1 ⟨c,e,f,h1,h2⟩ hr=>by
 subst hb;refine⟨Still.Jh _ _ _ _ hr,?_⟩
 have e1:∀at',w.farLoad P ad at'= .error (w.noCell ad "load: no such cell"):=fun at'=>by unfold World.farLoad;rw[h1]
 have ec:w'.cell? ad=w.cell? ad:=by unfold World.cell?;rw[h1,h2]
 unfold Go.load at hr ⊢;simp only[Sem.run,e1]at hr;simp only[Sem.run,ec];split at hr
 ·rename_i u hu;cases hr;first|rfl|rw[hu]
 ·cases hr
theorem fe.loadCells{P:Program}{b:Nat}(ad:Addr)(hb:ad.block=b):∀(n i:Nat) (acc:Array Value),fe P b (loadCellsFrom ad i n acc)
 |0,i,acc=>fe.pure _
 |n+1,i,acc=>fe.bind (fe.Jh _ (by rw[<-hb];unfold Addr.add;split<;>rfl)) fun v=>fe.loadCells ad hb n (i+1) _
theorem fe.loadVar{P:Program}{b:Nat}(t:TypeId)(ad:Addr)(hb:ad.block=b):fe P b (Go.loadVar t ad):=by
 unfold Go.loadVar;refine fe.bind (fe.bind (fe.underlying t) fun d=>?_) fun b'=>?_
 ·split<;>exact fe.pure _
 ·split
  ·exact fe.bind (fe.bind (fe.typeInfo t) fun i=>fe.pure _) fun n=>fe.bind (fe.loadCells ad hb _ _ _) fun v=>fe.pure _
  ·exact fe.Jh _ hb
def Kept(g:Nat)(w w':World):Prop:=w'.heap[g]?=w.heap[g]? /\w.heap.size<=w'.heap.size/\∀(b:Nat) (c:Array Value) (e:TypeId) (f:Nat×Nat),w.heap[b]?=some (.cells c e f)->∃c':Array Value,w'.heap[b]?=some (.cells c' e f)
theorem Kept.refl(g:Nat)(w:World):Kept g w w:=⟨rfl,Wan _,fun _ c _ _ h=>⟨c,h⟩⟩
theorem Kept.trans{g:Nat}{w w' w'':World}(h:Kept g w w')(h':Kept g w' w''):Kept g w w'':=
 ⟨h'.1.trans h.1,Wbj h.2.1 h'.2.1,fun b c e f hb=>by
   obtain⟨c1,h1⟩:=h.2.2 b c e f hb;exact h'.2.2 b c1 e f h1⟩
theorem Pre.kept{g:Nat}{w w':World}(h:Pre w w')(hg:g<w.heap.size):Kept g w w':=⟨h g hg,by
 rcases Wak w'.heap.size w.heap.size with h1|h1
 ·have:=h.lt h1
  omega
 ·exact h1,fun b c e f hb=>⟨c,(h b (aY hb)).trans hb⟩⟩
def DH(g:Nat)(w:World)(v:Value):Prop:=∀ad,v= .pointer (some ad)->ad.block≠g/\∃(c:Array Value) (e:TypeId) (f:Nat×Nat),w.heap[ad.block]?=some (.cells c e f)
theorem DH.mono{g:Nat}{w w':World}{v:Value}(h:DH g w v)(hk:Kept g w w'):DH g w' v:=fun ad had=>by
 obtain⟨h1,c,e,f,h2⟩:=h ad had;obtain⟨c',h3⟩:=hk.2.2 _ _ _ _ h2;exact⟨h1,c',e,f,h3⟩
theorem Oh{P:Program}{g:Nat}{ad:Addr}{v:Value}{w w':World}{u:Unit}(hb:ad.block≠g)(hc:∃(c:Array Value) (e:TypeId) (f:Nat×Nat),w.heap[ad.block]?=some (.cells c e f))(hr:(Go.store ad v).run P w= .ok u w'):Kept g w w':=by
 obtain⟨c,e,f,hc⟩:=hc;have far:∀x,w.farStore P ad x false= .error (w.noCell ad "store: no such cell"):=fun x=>by unfold World.farStore;rw[hc]
 have keep:Kept g w (w.setCell ad v):=by
  refine⟨?_,?_,fun b c1 e1 f1 h1=>?_⟩
  ·unfold World.setCell;simp only[Array.getElem?_modify]
   rw[if_neg hb]
  ·unfold World.setCell;simp
  ·unfold World.setCell;simp only[Array.getElem?_modify]
   by_cases hbb:ad.block=b
   ·subst hbb;rw[if_pos rfl,h1];exact⟨_,rfl⟩
   ·rw[if_neg hbb];exact⟨c1,h1⟩
 unfold Go.store at hr;cases v<;>simp only[Sem.run]at hr<;>first
  |(cases hr;done)
  |(split at hr
    ·split at hr
     ·cases hr
     ·simp only[Result.ok.injEq]at hr;rw[<-hr.2];exact keep
    ·split at hr
     ·rename_i sj;first
       |(rw[far]at sj;cases sj)
       |(rw[show (Go.Mode.plain==Go.Mode.atomic)=false from rfl,far]at sj;cases sj)
     ·cases hr)
theorem tJ{P:Program}{g:Nat}{ad:Addr}(hb:ad.block≠g):∀(vs:List Value) (i:Nat) {w w':World} {u:Unit},(∃(c:Array Value) (e:TypeId) (f:Nat×Nat),w.heap[ad.block]?=some (.cells c e f))->(storeCells ad vs i).run P w= .ok u w'->Kept g w w'
 |[],i,w,w',u,_,hr=>by
  unfold storeCells at hr;simp only[Sem.run_pure]at hr;cases hr;exact Kept.refl g w
 |v::vs,i,w,w',u,hc,hr=>by
  unfold storeCells at hr;rw[Sem.run_bind]at hr;cases hs:(Go.store (ad.add i) v).run P w with
  |ok u1 w1=>
   rw[hs]at hr;have hab:(ad.add i).block=ad.block:=by unfold Addr.add;split<;>rfl
   have h1:=Oh (g:=g) (by rw[hab];exact hb) (by rw[hab];exact hc) hs
   obtain⟨c,e,f,hc⟩:=hc;obtain⟨c1,Fh⟩:=h1.2.2 _ _ _ _ hc;exact h1.trans (tJ hb vs (i+1) ⟨c1,e,f,Fh⟩ hr)
  |halt _ _=>rw[hs]at hr;cases hr
theorem Ld{P:Program}{g:Nat}{t:TypeId}{ad v:Value}{w w':World}{u:Unit}(ha:DH g w ad)(hr:(Instr.storeAt t ad v).run P w= .ok u w'):Kept g w w':=by
 unfold Instr.storeAt at hr;cases ad with
 |pointer o=>
  cases o with
  |none=>simp[Instr.sureAddr,stuck,Sem.run_bind,Sem.run]at hr
  |some ad=>
   obtain⟨hb,hc⟩:=ha ad rfl;simp only[Instr.sureAddr,Sem.run_bind,Sem.run_pure,Result.andThen_ok]at hr;unfold storeVar at hr;rw[Sem.run_bind]at hr;cases hs:(Go.sizeOf t).run P w with
   |ok n w1=>
    rw[hs]at hr;have hw1:w1=w:=Still.sizeOf t _ _ _ hs;subst hw1;simp only[Result.andThen_ok]at hr;split at hr
    ·simp[stuck,Sem.run_bind,Sem.run]at hr
    ·exact tJ hb _ _ hc hr
   |halt _ _=>rw[hs]at hr;cases hr
 |_=>simp[Instr.sureAddr,stuck,Sem.run_bind,Sem.run]at hr
def qeM(all:Array Oper)(q p:Nat):Prop:=∃oq c,all[q]?=some oq/\oq.op= .alloc c/\oq.guard=none/\oq.dst=some p/\∀r o,all[r]?=some o->r≠q->o.dst≠some p
def Le(SP:Nat->Nat->Prop)(oj:Oper):Prop:=∃t p v q,oj.op= .store t (.tmp p) v/\SP q p/\oj.after.any (fun e=>Region.binds .any e&&e.on==q)=true
theorem CO{all:Array Oper}{L:List Nat}{q p:Nat}(h:Bc all L q p=true):ck q L=false/\qeM all q p:=by
 unfold Bc at h;rw[Wac]at h;obtain⟨h0,h⟩:=h;refine⟨by simpa using h0,?_⟩
 split at h
 ·rename_i oq hoq;simp only[Wac,Wau,WbW,Wco,beq_iff_eq]at h;obtain⟨⟨⟨h1,h2⟩,h3⟩,h4⟩:=h;split at h1
  ·rename_i c hc;refine⟨oq,c,hoq,hc,h2,h3,fun r o hr hne hd=>?_⟩
   have hlt:r<all.size:=by
    rcases Wak r all.size with h'|h'
    ·exact h'
    ·rw[WaW h']at hr;cases hr
   have:=h4 r hlt
   rw[hr]at this;simp only[hd,beq_self_eq_true,Bool.not_true,Wci,beq_iff_eq]at this;exact hne this
  ·cases h1
 ·cases h
theorem Lf{all:Array Oper}{L:List Nat}{o:Oper}(h:KI all L o=true):Le (fun q p=>Bc all L q p=true) o:=by
 unfold KI at h;split at h
 ·rename_i t p v hop;rw[WcI]at h;obtain⟨q,_,h⟩:=h;rw[Wac]at h;exact⟨t,p,v,q,hop,h.1,h.2⟩
 ·cases h
theorem Q3{P:Program}{g:Nat}{oj:Oper}{c:TypeId}{ρ:Operand->Value}{u:Value}{w w':World}(hop:oj.op= .alloc c)(hg:g<w.heap.size)(hr:(execOp ρ oj).run P w= .ok (.value u) w'):DH g w' u:=by
 simp only[execOp,hop]at hr;rw[Sem.run_bind]at hr;cases hs:(Instr.alloc c true (.tuple #[])).run P w with
 |ok x w1=>
  rw[hs]at hr;have hr:(Result.ok (Next.value x) w1:Result Next)= .ok (.value u) w':=hr;cases hr;unfold Instr.alloc at hs;rw[Sem.run_bind]at hs;cases hz:(Go.zeroValue c).run P w with
  |ok z w2=>
   rw[hz]at hs;have hw2:w2=w:=Still.zeroValue c _ _ _ hz;subst hw2;simp[Go.newVar,Go.newRow]at hs
   obtain⟨rfl,rfl⟩:=hs;intro ad had;simp only[Value.pointer.injEq,Option.some.injEq]at had;subst had;refine⟨by show w2.heap.size≠g;omega,z.cells,c,(0,0),?_⟩
   show (w2.heap.push _)[w2.heap.size]?=_
   simp
  |halt _ _=>rw[hz]at hs;cases hs
 |halt _ _=>rw[hs]at hr;cases hr
theorem sF(g:Nat)(w:World):DH g w undef:=fun ad h=>by cases h
theorem FL{all:Array Oper}{SP:Nat->Nat->Prop}(hSP:∀q p,SP q p->qeM all q p){g j:Nat}{oj:Oper}(hj:all[j]?=some oj){a:Act}{u:Value}{w w':World}{P0:Nat->Prop}(hk:Kept g w w')(hu:∀p,SP j p->DH g w' u)(haw:∀q p,SP q p->P0 q->DH g w (a.eval (.tmp p))):
 ∀q p,SP q p->(P0 q\/q=j)->DH g w' ((a.put oj.dst u).eval (.tmp p)):=by
 intro q p hqp hq;obtain⟨oq,c,h1,h2,h3,h4,h5⟩:=hSP q p hqp;by_cases hqj:q=j
 ·subst hqj;rw[hj]at h1;simp only[Option.some.injEq]at h1;subst h1;rw[h4];by_cases hlt:p<a.tmps.size
  ·have:(a.put (some p) u).eval (.tmp p)=u:=by simp[Act.put,Act.eval,Array.getD,hlt]
   rw[this];exact hu p hqp
  ·have:(a.put (some p) u).eval (.tmp p)=undef:=by
    simp only[Act.put,Act.eval];rw[Wah,WaW (by simp;omega)]
    rfl
   rw[this];exact sF g w'
 ·have Oc:=hq.resolve_right hqj;rw[Act.eval_put (fun d hd hx=>by
   simp only[Operand.tmp.injEq]at hx;subst hx;exact h5 j oj hj (Wa0 hqj) hd)]
  exact (haw q p hqp Oc).mono hk
theorem qax{ro:Option Nat}{P:Program}{all:Array Oper}{SP:Nat->Nat->Prop}(hSP:∀q p,SP q p->qeM all q p){g:Nat}{oj:Oper}{j:Nat}{K:Act->World->Prop}{Q:Exit->Act->World->Prop}(hP:∀c (a:Act) d v w,Q (.panic c) (a.put d v) w↔Q (.panic c) a w)
 (hj:all[j]?=some oj) (o7:∀c,oj.op≠ .defer c) {P0:Nat->Prop} (hl:sE C oj=true\/∃t p v q,oj.op= .store t (.tmp p) v/\SP q p/\P0 q) (hg:g<w.heap.size) (haw:∀q p,SP q p->P0 q->DH g w (a.eval (.tmp p)))
 (hh:wpOpIn (Fw ro) 0 P all Q j K a w):wpOpIn (Fw ro) 0 P all Q j (fun a' w'=>(Kept g w w'/\∀q p,SP q p->(P0 q\/q=j)->DH g w' (a'.eval (.tmp p)))/\K a' w') a w:=by
 unfold wpOpIn at hh ⊢;rw[hj]at hh ⊢;simp only at hh ⊢
 split
 ·rename_i hw;rw[if_pos hw]at hh;refine⟨fun _ _=>trivial,?_⟩
  have hh:=hh.2;rw[Oper.semAt_eq _ _ _ o7]at hh ⊢;cases hr:(execOp a.eval oj).run P w with
  |ok nx w'=>
   rw[hr]at hh;rcases hl with hl|⟨t,p,v,q,hop,hqp,hq⟩
   ·obtain⟨e,u,rfl⟩:=VS hl hr;have hk:=e.kept hg;refine⟨⟨hk,FL hSP hj hk (fun p hp=>?_) haw⟩,hh⟩
    obtain⟨oq,c,h1,h2,_⟩:=hSP j p hp;rw[hj]at h1;simp only[Option.some.injEq]at h1;subst h1;exact Q3 h2 hg hr
   ·have hs:∃u0:Unit,(Instr.storeAt t (a.eval (.tmp p)) (a.eval v)).run P w= .ok u0 w'/\nx= .skip:=by
     simp only[execOp,hop]at hr;rw[Sem.run_bind]at hr;cases hs:(Instr.storeAt t (a.eval (.tmp p)) (a.eval v)).run P w with
     |ok x w1=>
      rw[hs]at hr;have hr:(Result.ok Next.skip w1:Result Next)= .ok nx w':=hr;cases hr;exact⟨x,rfl,rfl⟩
     |halt _ _=>rw[hs]at hr;cases hr
    obtain⟨u0,hs,rfl⟩:=hs;have hk:=Ld (haw q p hqp hq) hs;refine⟨⟨hk,FL hSP hj hk (fun p hp=>?_) haw⟩,hh⟩
    exact sF g w'
  |halt st w'=>
   rw[hr]at hh;cases st<;>simp only[Oper.uponIn]at hh ⊢
   case panic u=>first|exact (hP _ _ _ _ _).2 hh|exact (hP _ _ _ _ _).1 hh|exact hh
 ·rename_i hw;rw[if_neg hw]at hh;have hk:=Kept.refl g w;exact⟨fun _ _=>trivial,⟨hk,FL hSP hj hk (fun p _=>sF g w) haw⟩,hh.2⟩
theorem VT{P:Program}{o:Oper}{t:TypeId}{x:Operand}{ρ:Operand->Value}{g off:Nat}{u:Value}{w w1 w':World}{c:Array Value}{e:TypeId}{f:Nat×Nat}(hop:o.op= .load t x)(hx:ρ x= .pointer (some ⟨g,off,none⟩))(hb:w.heap[g]?=some (.cells c e f))(hp:Kept g w w')
 (hr:(execOp ρ o).run P w= .ok (.value u) w1):(execOp ρ o).run P w'= .ok (.value u) w':=by
 have hb':w'.heap[g]?=some (.cells c e f):=hp.1.trans hb;have hP:fe P g (do pure (Next.value (<-Instr.loadAt t (.pointer (some ⟨g,off,none⟩)))):Sem Next):=fe.bind (fe.loadVar t ⟨g,off,none⟩ rfl) fun v=>fe.pure _
 simp only[execOp,hop,hx]at hr ⊢;exact (hP _ _ _ _ ⟨c,e,f,hb,hb'⟩ hr).2
theorem Lg{all:Array Oper}{L D:List Nat}{i:Nat}{oi:Oper}(h:D0 C all L D i oi=true):
 (∀d∈D,ck d L=false/\(d=i\/hasDep all D d=true))/\∀j oj,all[j]?=some oj->j≠i->ck j L=false->ck j D=false->(sE C oj=true\/Le (fun q p=>Bc all L q p=true) oj)/\oi.apart all oj=true:=by
 unfold D0 at h;simp only[Wac,Wau,WbW]at h;obtain⟨h1,h2⟩:=h;refine⟨fun d hd=>?_,fun j oj hj hji hL hD=>?_⟩
 ·have:=h1 d hd
  simp only[WaL,beq_iff_eq,WaU]at this;exact this
 ·have hlt:j<all.size:=by
   rcases Wak j all.size with h'|h'
   ·exact h'
   ·rw[WaW h']at hj;cases hj
  have:=h2 j hlt
  rw[hj]at this;simp only[hL,hD,Wci,WaL,beq_iff_eq,Wac]at this;rcases this with h|h
  ·exact absurd h hji
  ·refine⟨?_,h.2⟩
   rcases h.1 with h'|h'
   ·exact .inl (by unfold sE;rw[WaL];exact h')
   ·exact .inr (Lf h')
theorem qay{ro:Option Nat}{P:Program}{all:Array Oper}{i:Nat}{oi:Oper}{v:Value}{R:World->Prop}{Q:Exit->Act->World->Prop}(hP:∀c (a:Act) d v w,Q (.panic c) (a.put d v) w↔Q (.panic c) a w)(hi:all[i]?=some oi)(hg:oi.guard=none)
 (qiJ:∀c,oi.op≠ .defer c) (o7:∀(j:Nat) (o:Oper) (c:Call),all[j]?=some o->o.op≠ .defer c) (HY:∀(j:Nat) (o:Oper) cs b,all[j]?=some o->o.op≠ .select cs b) {D:List Nat} (hD:∀d∈D,d=i\/hasDep all D d=true)
 {SP:Nat->Nat->Prop} (hSP:∀q p,SP q p->qeM all q p) {g:Nat} :
 ∀(fuel:Nat) (listed:Array Bool) (a:Act) (w:World),(∀d∈D,listed.getD d false=false)->
  (∀j oj,all[j]?=some oj->j≠i->listed.getD j true=false->ck j D=false->(sE C oj=true\/Le SP oj)/\oi.apart all oj=true)->i∈Region.ready .any all listed->
  g<w.heap.size->(∀q p,SP q p->listed.getD q false=true->DH g w (a.eval (.tmp p)))->
  (∀a':Act,(∀x∈oi.op.operands,a'.eval x=a.eval x)->∀w',Kept g w w'->(execOp a'.eval oi).run P w'= .ok (.value v) w')->
  dY ro P all Q R fuel (listed.setIfInBounds i true) (a.put oi.dst v) w->dY ro P all Q R (fuel+1) listed a w:=by
 have own:∀(K:Act->World->Prop) (a:Act) (w:World),(execOp a.eval oi).run P w= .ok (.value v) w->K (a.put oi.dst v) w->wpOpIn (Fw ro) 0 P all Q i K a w:=by
  intro K a w hp hk;unfold wpOpIn;rw[hi];simp only
  rw[if_pos (by simp[Region.wanted,hg])]
  refine⟨fun _ _=>trivial,?_⟩
  rw[Oper.semAt_eq _ _ _ qiJ,hp];exact hk
 intro fuel;induction fuel with
 |zero=>
  intro listed a w _ _ hr _ _ hp hk;refine⟨hk.1,fun he=>(by rw[he]at hr;cases hr),fun j hj=>?_⟩
  by_cases hji:j=i
  ·subst hji;exact own _ a w (hp a (fun _ _=>rfl) w (Kept.refl g w)) hk
  ·have:=ready_mono hj hji
   rw[hk.2.1]at this;cases this
 |succ fuel ih=>
  intro listed a w hdl hfree hr hgw haw hp hk;refine⟨hk.1,fun he=>(by rw[he]at hr;cases hr),fun j hj=>?_⟩
  by_cases hji:j=i
  ·subst hji;exact own _ a w (hp a (fun _ _=>rfl) w (Kept.refl g w)) hk
  ·obtain⟨hun,oj,N8,hall⟩:=jt.1 hj;have hjD:ck j D=false:=by
    cases hm:ck j D with
    |false=>rfl
    |true=>
     exfalso
     rcases hD j (dz.1 hm) with h|h
     ·exact hji h
     ·unfold hasDep at h;rw[N8]at h;simp only[WbQ,Wac]at h;obtain⟨e,he,hb,hd⟩:=h;have h1:=hall e he hb;rw[hdl e.on (dz.1 hd)]at h1;cases h1
   obtain⟨hq,hap⟩:=hfree j oj N8 hji hun hjD;have Oc:sE C oj=true\/∃t p v q,oj.op= .store t (.tmp p) v/\SP q p/\listed.getD q false=true:=by
    rcases hq with hq|⟨t,p,v,q,h1,h2,h3⟩
    ·exact .inl hq
    ·refine .inr ⟨t,p,v,q,h1,h2,?_⟩
     simp only[WbQ,Wac,beq_iff_eq]at h3;obtain⟨e,he,hb,rfl⟩:=h3;exact hall e he hb
   have h2:=qax (P0:=fun q=>listed.getD q false=true) hSP hP N8 (fun c=>o7 j oj c N8) Oc hgw haw (Of hP hap N8 (fun c=>o7 j oj c N8) (fun cs b=>HY j oj cs b N8) (hk.2.2 j (ready_mono hj hji)))
   refine wpOpIn_mono (fun a' w' h3=>?_) h2
   obtain⟨⟨hpre,qpo⟩,h3⟩:=h3;refine ih (listed.setIfInBounds j true) a' w' (fun d hd=>?_) (fun k ok hk' hki qaw hno=>hfree k ok hk' hki ?_ hno) (ready_mono hr (Wa0 hji)) (Wa6 hgw hpre.2.1) (fun q p hqp hlq=>qpo q p hqp ?_) (fun a'' he w'' qpp=>hp a'' (fun x hx=>by rw[he x hx,h3.1 x hx]) w'' (hpre.trans qpp)) ?_
   ·have hne:j≠d:=fun e=>by subst e;rw[dz.2 hd]at hjD;cases hjD
    rw[Wah,WaN hne,<-Wah];exact hdl d hd
   ·by_cases cY:j=k
    ·subst cY;exact hun
    ·rw[Wah,WaN cY,<-Wah]at qaw;exact qaw
   ·by_cases hjq:j=q
    ·exact .inr hjq.symm
    ·rw[Wah,WaN hjq,<-Wah]at hlq;exact .inl hlq
   ·rw[Wct _ _ hji];exact h3.2
theorem CP{s:St}{all:Array Oper}{L:List Nat}{i:Nat}:∀{l:List Nat},KM C s all L l=some i->i∈l/\KL C s all L i=true
 |[],h=>by cases h
 |j::l,h=>by
  unfold KM at h;split at h
  ·rename_i hf;simp only[Option.some.injEq]at h;subst h;exact⟨Waq,hf⟩
  ·obtain⟨h1,h2⟩:=CP h;exact⟨Wal _ h1,h2⟩
theorem Oi{s:St}{all:Array Oper}{L:List Nat}{i:Nat}{o:Oper}(ho:all[i]?=some o)(h:KL C s all L i=true)(hi:aD C.P B w0 Ψ β s.heap w)(hf:wS Ψ β s.top a):
 o.guard=none/\uf o.op=true/\D0 C all L (TB all L all.size [i]) i o=true/\∃u g,g<w.heap.size/\¬B g/\(execOp a.eval o).run C.P w= .ok (.value u) w/\∀a':Act,(∀x∈o.op.operands,a'.eval x=a.eval x)->∀w',Kept g w w'->(execOp a'.eval o).run C.P w'= .ok (.value u) w':=by
 unfold KL at h;rw[ho]at h;simp only[Wac,Wco]at h;obtain⟨⟨⟨hld,hg⟩,hav⟩,hfd⟩:=h;unfold qea at hld;split at hld
 ·rename_i t x hop;split at hld
  ·rename_i k off cI;unfold qG at hav;rw[hop]at hav;simp only at hav
   split at hav
   ·rename_i v0 hv0;split at hv0
    ·rename_i r hr;have hx:aE Ψ β (ev s.top x) (a.eval x):=bU hf x;obtain⟨_,_,_,v,fE,w1,hrun,_,_⟩:=D9 hi hx hr;have hw1:=Still.loadAt t _ _ _ _ hrun;subst hw1;have CQ:(execOp a.eval o).run C.P w1= .ok (.value v) w1:=by
      simp only[execOp,hop];exact vM hrun
     rw[cI]at hx hr;obtain⟨g,bV,hxe⟩:=hx;have eV:∃(c:Array Value) (e:TypeId) (f:Nat×Nat),w1.heap[g]?=some (.cells c e f)/\¬B g:=by
      unfold CC at hr;simp only at hr
      split at hr
      ·rename_i cs hg';obtain⟨g',c,e,b1,b2,b3,_⟩:=hi.blk k _ (aC hg' (by simp))
       rw[bV]at b1;simp at b1
       subst b1;exact⟨_,_,_,b2,b3⟩
      ·rename_i u' y hg';obtain⟨g',c,e,b1,b2,b3,_⟩:=hi.blk k _ (aC hg' (by simp))
       rw[bV]at b1;simp at b1
       subst b1;exact⟨_,_,_,b2,b3⟩
      ·cases hr
     obtain⟨c,e,f,hb,hnB⟩:=eV;refine⟨hg,by unfold uf;rw[hop],hfd,v,g,aY hb,hnB,CQ,fun a' he w' hp=>?_⟩
     have hx':a'.eval x= .pointer (some ⟨g,off,none⟩):=by rw[he x (by rw[hop];simp[Op.operands]),hxe]
     have YO:(execOp a'.eval o).run C.P w1= .ok (.value v) w1:=by
      rw[<-CQ];simp only[execOp,hop,hx',hxe]
     exact VT hop hx' hb hp YO
    ·cases hv0
   ·cases hav
  ·cases hld
 ·cases hld
theorem qiL{ro:Option Nat}{P:Program}{all:Array Oper}{oi oj:Oper}{v:Value}{j:Nat}{K:Act->World->Prop}{Q:Exit->Act->World->Prop}(hP:∀c (a:Act) d v w,Q (.panic c) (a.put d v) w↔Q (.panic c) a w)(hap:oi.apart all oj=true)
 (hj:all[j]?=some oj) (o7:∀c,oj.op≠ .defer c) (HY:∀cs b,oj.op≠ .select cs b) (hh:wpOpIn (Fw ro) 0 P all Q j (fun a' w'=>K (a'.put oi.dst v) w') a w):
 wpOpIn (Fw ro) 0 P all Q j K (a.put oi.dst v) w:=by
 obtain⟨h1,h2,h3⟩:=Oper.apart_spec hap;have both:∀u w',K ((a.put oj.dst u).put oi.dst v) w'->K ((a.put oi.dst v).put oj.dst u) w':=fun u w' hk=>by rw[Act.put_comm a v u h2];exact hk
 have hwd:=wanted_put oj a oi.dst v h1;unfold wpOpIn at hh ⊢;rw[hj]at hh ⊢;simp only at hh ⊢
 rw[hwd];by_cases hw:Region.wanted oj (yielded all a.tmps)=true
 ·rw[if_pos hw]at hh ⊢;refine⟨fun _ _=>trivial,?_⟩
  have hh:=hh.2;rw[Oper.semAt_eq _ _ _ o7]at hh ⊢;rw[execOp_put oj HY a oi.dst v h1];generalize (execOp a.eval oj).run P w=res at hh ⊢
  rcases res with ⟨nx,w'⟩|⟨st,w'⟩
  ·cases nx<;>simp only[Oper.uponIn]at hh ⊢
   case value u=>exact both u w' hh
   case skip=>exact both undef w' hh
   case defer d=>
    rw[<-Act.put_comm _ v undef h2,<-Act.put_defers]at hh;exact hh
   case enter f args=>
    exact⟨hh.1,CallsIn.mono hh.2 fun e w'' he=>by
     cases e with
     |returned u=>exact both u w'' he
     |panicked c=>first|exact (hP _ _ _ _ _).2 he|exact (hP _ _ _ _ _).1 he|exact he
     |outgrown=>exact he⟩
   case row r args=>exact⟨hh.1,RowsIn.mono hh.2 fun u w'' he=>both u w'' he⟩
   case round l f tmps assign body=>
    exact⟨hh.1,RoundIn.mono hh.2 fun e w'' he=>by
     cases e with
     |returned u=>exact both u w'' he
     |panicked c=>first|exact (hP _ _ _ _ _).2 he|exact (hP _ _ _ _ _).1 he|exact he
     |outgrown=>exact he⟩
  ·cases st<;>simp only[Oper.uponIn]at hh ⊢
   case panic u=>first|exact (hP _ _ _ _ _).2 hh|exact (hP _ _ _ _ _).1 hh|exact hh
 ·rw[if_neg hw]at hh ⊢;exact⟨fun _ _=>trivial,both undef w hh.2⟩
theorem VU{ro:Option Nat}{P:Program}{all:Array Oper}{i f:Nat}{oi o:Oper}{v0:Value}{R:World->Prop}{Q:Exit->Act->World->Prop}(hP:∀c (a:Act) d v w,Q (.panic c) (a.put d v) w↔Q (.panic c) a w)(hN:∀c a w,¬Q (.panic c) a w)(hi:all[i]?=some oi)(hfo:all[f]?=some o)(hg:oi.guard=none)
 (hlo:uf oi.op=true) (o7:∀(j:Nat) (o:Oper) (c:Call),all[j]?=some o->o.op≠ .defer c) (HY:∀(j:Nat) (o:Oper) cs b,all[j]?=some o->o.op≠ .select cs b) (hap:oi.apart all o=true) (hif:i≠f)
 {listed:Array Bool} {n:Nat} (VP:i∈Region.ready .any all listed) (Ii:f∈Region.ready .any all listed) (hall:∀k∈Region.ready .any all listed,k=i\/k=f) (qiM:∀k∈Region.ready .any all (listed.setIfInBounds i true),k=f)
 (CQ:(execOp a.eval oi).run P w= .ok (.value v0) w) (hR:R w)
 (h:wpOpIn (Fw ro) 0 P all Q f (fun a1 w1=>dY ro P all Q R (n+1) (listed.setIfInBounds f true) a1 w1/\∀v1 w2,(execOp a1.eval oi).run P w1= .ok (.value v1) w2->v1=v0) a w):dY ro P all Q R (n+2) listed a w:=by
 refine⟨hR,fun he=>(by rw[he]at VP;cases VP),fun k hk=>?_⟩
 rcases hall k hk with e|e
 ·subst e;unfold wpOpIn;rw[hi];simp only
  rw[if_pos (by simp[Region.wanted,hg])]
  refine⟨fun _ _=>trivial,?_⟩
  rw[Oper.semAt_eq _ _ _ (fun c=>o7 _ _ c hi),CQ]
  show dY ro P all Q R (n+1) (listed.setIfInBounds k true) (a.put oi.dst v0) w
  have hf':=ready_mono Ii (Wa0 hif);refine⟨hR,fun he=>(by rw[he]at hf';cases hf'),fun q hq=>?_⟩
  have hqf:=qiM q hq;subst hqf;refine qiL hP hap hfo (fun c=>o7 _ _ c hfo) (fun cs b=>HY _ _ cs b hfo) (wpOpIn_mono (fun a1 w1 hh=>?_) h)
  obtain⟨hA,hv⟩:=hh;have hc:=hA.2.2 k (ready_mono VP hif);unfold wpOpIn at hc;rw[hi]at hc;simp only at hc
  rw[if_pos (by simp[Region.wanted,hg])]at hc
  have Qg:=hc.2;clear hc
  rw[Oper.semAt_eq _ _ _ (fun c=>o7 _ _ c hi)]at Qg
  cases hr:(execOp a1.eval oi).run P w1 with
  |ok nx w'=>
   rw[hr]at Qg;obtain⟨e,u,rfl⟩:=Still.Og hlo hr;subst e;have:=hv _ _ hr
   subst this;rw[Wct _ _ hif];exact Qg
  |halt st w'=>
   rw[hr]at Qg;exfalso
   cases st<;>simp only[Oper.uponIn]at Qg
   case panic u=>exact (hN _ _ _ Qg).elim
 ·subst e;exact wpOpIn_mono (fun a1 w1 hh=>hh.1) h
theorem FM{j:Nat}{fr Zr:List AV}{d:Option Tmp}:∀n,TC j fr Zr d n=true->∃q,d≠some q/\bX fr q= .sl j/\bX Zr q= .sl j
 |0,h=>by cases h
 |q+1,h=>by
  simp only[TC,WaL,Wac]at h;rcases h with ⟨⟨h1,h2⟩,h3⟩|h
  ·have hs:∀x:AV,qeb j x=true->x= .sl j:=fun x hx=>by
    unfold qeb at hx;split at hx
    ·rw[Wam hx]
    ·cases hx
   refine⟨q,fun e=>?_,hs _ h2,hs _ h3⟩
   subst e;simp[Zq]at h1
  ·exact FM q h
theorem VV{t u:Ty}{x:t.den}{y:u.den}{mZ Ψ3:Pr}{jJ:List Value}{v0 v1:Value}(h:Zs t x u y=true)(h0:aE mZ β (.d t x) v0)(h1:aE Ψ3 jJ (.d u y) v1):v1=v0:=by
 unfold Zs at h;split at h
 ·have e:=of_decide_eq_true h;have a:=(gX.1 h0).1;have b:=(gX.1 h1).1;rw[a,b,e]
 ·rw[Wac]at h;have e1:=of_decide_eq_true h.1;have e2:=of_decide_eq_true h.2;have a:=(aU.1 h0).1;have b:=(aU.1 h1).1;rw[a,b,e1,e2]
 ·cases h
theorem Q4{fr Zr:List AV}{d:Option Tmp}{x y:AV}{a1:Act}{fE mZ Ψ3:Pr}{jJ:List Value}{v0 v1:Value}(h:EU fr Zr d x y=true)(hf:wS Ψ β fr a)(o8:wS fE jJ Zr a1)(hs:∀q,d≠some q->a1.tmps[q]?=a.tmps[q]?)
 (h0:aE mZ β x v0) (h1:aE Ψ3 jJ y v1):v1=v0:=by
 unfold EU at h;split at h
 ·have e0:v0= .slice none 0 0:=h0;have e1:v1= .slice none 0 0:=h1;rw[e0,e1]
 ·exact VV h h0 h1
 ·rename_i j k;simp only[Wac,Wag]at h;obtain⟨rfl,h⟩:=h;obtain⟨q,hq,g0,g1⟩:=FM _ h;have r0:=bU hf (.tmp q);have r1:=bU o8 (.tmp q);have r0:aE Ψ β (bX fr q) (a.eval (.tmp q)):=r0;have r1:aE fE jJ (bX Zr q) (a1.eval (.tmp q)):=r1;rw[g0]at r0;rw[g1]at r1;have ee:a1.eval (.tmp q)=a.eval (.tmp q):=by
   have:=hs q hq
   simp only[Act.eval,Wah,this]
  have e1:jJ[j]?=some (a1.eval (.tmp q)):=r1.1;have e0:β[j]?=some (a.eval (.tmp q)):=r0.1;have f0:β[j]?=some v0:=h0.1;have f1:jJ[j]?=some v1:=h1.1;rw[e0]at f0;rw[e1,ee]at f1;simp only[Option.some.injEq]at f0 f1;rw[<-f0,<-f1]
 ·cases h
theorem Q5{L:List Nat}{all:Array Oper}{s:St}{n:Nat}{R:List Nat}{i f:Nat}(h:Zt C all L s n R=some (i,f)):(R=[i,f]\/R=[f,i])/\Nq C all L s i f=true/\(∃m,n=m+1)/\C.oN=true:=by
 unfold Zt at h;split at h
 ·split at h
  ·cases h
  ·split at h
   ·cases h
   ·split at h
    ·rename_i hnp;split at h
     ·rename_i hd;simp only[Option.some.injEq,Prod.mk.injEq]at h;obtain⟨rfl,rfl⟩:=h;exact⟨.inl rfl,hd,⟨_,rfl⟩,hnp⟩
     ·split at h
      ·rename_i hd;simp only[Option.some.injEq,Prod.mk.injEq]at h;obtain⟨rfl,rfl⟩:=h;exact⟨.inr rfl,hd,⟨_,rfl⟩,hnp⟩
      ·cases h
    ·cases h
 ·cases h
theorem Q6{L:List Nat}{all:Array Oper}{s:St}{i f:Nat}(h:Nq C all L s i f=true):∃oi o,all[i]?=some oi/\all[f]?=some o/\uf oi.op=true/\oi.guard=none/\(∃t x r,oi.op= .load t x/\CC C s.heap t (ev s.top x)=some r)/\oi.apart all o=true/\i≠f/\dI all (i::L) all.size=[f]:=by
 unfold Nq at h;split at h
 ·rename_i oi o hi hf;simp only[Wac,Wco]at h;obtain⟨⟨⟨⟨⟨h1,h2⟩,h3⟩,h4⟩,h5⟩,h6⟩:=h;have hn:i≠f:=fun e=>by subst e;simp at h5
  refine⟨oi,o,hi,hf,?_,h2,?_,h4,hn,?_⟩
  ·unfold qea at h1;split at h1
   ·rename_i t x hop;rw[hop];rfl
   ·cases h1
  ·unfold qG at h3;split at h3
   ·rename_i t x hop;split at h3
    ·rename_i r hr;exact⟨t,x,r,hop,hr⟩
    ·cases h3
   ·cases h3
  ·split at h6
   ·rename_i g hg;rw[hg,Wam h6]
   ·cases h6
 ·cases h
theorem Im{F:Fence}{n:Nat}{P:Program}{md:Region.Mode}{ops:Array Oper}{Q Q':Exit->Act->World->Prop}(hq:∀e a w,Q e a w->Q' e a w):
 ∀(fuel:Nat) (listed:Array Bool) (a:Act) (w:World),wpAnyIn F n P md ops Q fuel listed a w->wpAnyIn F n P md ops Q' fuel listed a w:=by
 intro fuel;induction fuel with
 |zero=>intro listed a w h;exact⟨h.1,hq _ _ _ h.2⟩
 |succ fuel ih=>
  intro listed a w h;refine⟨fun hr=>hq _ _ _ (h.1 hr),fun i hi=>?_⟩
  have h2:=wpOpIn_mono (fun a w=>ih (listed.setIfInBounds i true) a w) (h.2 i hi)
  unfold wpOpIn at h2 ⊢;split
  ·rename_i hn;rw[hn]at h2;exact h2
  ·rename_i o ho;rw[ho]at h2;simp only at h2
   split
   ·rename_i hw;rw[if_pos hw]at h2;exact pe (fun e a w _=>hq e a w) h2
   ·rename_i hw;rw[if_neg hw]at h2;exact h2
theorem VW{P:Program}{F:Nat->Prop}{k:Nat}{b:aB}(hF:∀g,B g->F g)(hb:cn P F Ψ β w k b):cn P B Ψ β w k b:=by
 cases b with
 |gone=>trivial
 |log ys Y own xs=>exact⟨hb.1,hb.2.1,fun g hg=>⟨fun h=>(hb.2.2.1 g hg).1 (hF g h),(hb.2.2.1 g hg).2⟩,hb.2.2.2⟩
 |kV ys Y own=>exact⟨hb.1,hb.2.1,fun g hg=>⟨fun h=>(hb.2.2.1 g hg).1 (hF g h),(hb.2.2.1 g hg).2⟩,hb.2.2.2⟩
 |cells cs=>
  obtain⟨g,c,e,h1,h2,h3,h4⟩:=hb;exact⟨g,c,e,h1,h2,fun h=>h3 (hF g h),h4⟩
 |grow tid e xs=>
  rcases hb with hb|⟨g,cap,cur,h1,h2,h3,h4⟩
  ·exact .inl hb
  ·exact .inr ⟨g,cap,cur,h1,h2,fun h=>h3 (hF g h),h4⟩
 |fH es=>
  obtain⟨g,ms,cl,h1,h2,h3,h4⟩:=hb;exact⟨g,ms,cl,h1,h2,fun h=>h3 (hF g h),h4⟩
 |dmap e m=>
  obtain⟨g,ms,cl,h1,h2,h3,h4⟩:=hb;exact⟨g,ms,cl,h1,h2,fun h=>h3 (hF g h),h4⟩
 |eo e last left=>
  obtain⟨g,gm,ms,cl,seen,h1,h2,h3,h4⟩:=hb;exact⟨g,gm,ms,cl,seen,h1,h2,fun h=>h3 (hF g h),h4⟩
 |loop f p ph ts=>
  obtain⟨l,r,h1,h2,h3,h4⟩:=hb;exact⟨l,r,h1,h2,fun h=>h3 (hF l h),h4⟩
 |dat t x=>
  obtain⟨g,c,e,h1,h2,h3,h4⟩:=hb;exact⟨g,c,e,h1,h2,fun h=>h3 (hF g h),h4⟩
 |eu n rest=>
  obtain⟨g,s,pos,h1,h2,h3,h4⟩:=hb;exact⟨g,s,pos,h1,h2,fun h=>h3 (hF g h),h4⟩
 |xb x=>
  obtain⟨v,h1,h2,h3⟩:=hb;exact⟨v,h1,h2,fun g hg=>⟨fun h=>(h3 g hg).1 (hF g h),(h3 g hg).2⟩⟩
theorem aD.anti{F:Nat->Prop}{w1:World}(hF:∀g,B g->F g)(sy:dJ B w0 w1)(hi:aD C.P F w1 Ψ β h w):aD C.P B w0 Ψ β h w:=
 ⟨sy.trans ⟨hi.low.os,hi.low.tape,hi.low.output,hi.low.size,fun g hg=>hi.low.block g (hF g hg)⟩,fun g hg=>hi.size g (hF g hg),hi.prom,fun a v hv hs hg=>hi.own a v hv hs (hF _ hg),hi.len,hi.one,
   fun k b hb=>VW hF (hi.blk k b hb),hi.free,hi.sep,hi.gQ⟩
theorem Ext.anti{F:Nat->Prop}{ax:Pr}(hF:∀g,B g->F g)(h:Ext F Ψ ax):Ext B Ψ ax:=⟨h.1,fun a v hv=>(h.2 a v hv).imp id fun h' hb=>h' (hF _ hb)⟩
theorem aD.Fz{F:Nat->Prop}{c:Array Value}{t:TypeId}(hi:aD C.P F w0 Ψ β h w):aD C.P (fun g=>F g\/g=w.heap.size) (w.alloc (.cells c t)) Ψ β h (w.alloc (.cells c t)):=by
 have hb:Below w.heap.size w (w.alloc (.cells c t)):=(Below.refl _ _).alloc (Wan _) _;have hi':aD C.P F w0 Ψ β h (w.alloc (.cells c t)):=hi.step ⟨hb,bW.refl _,fun _ _ h=>.inl h⟩
 refine⟨dJ.refl _ _,?_,hi'.prom,?_,hi.len,hi.one,?_,hi.free,hi.sep,hi.gQ⟩
 ·rintro g (hg|rfl)
  ·exact hi'.size g hg
  ·have:=heap_alloc_new w (.cells c t)
   exact (Array.getElem?_eq_some_iff.1 this).1
 ·rintro a v hv hs (hg|hg)
  ·exact hi.own a v hv hs hg
  ·have:=qm (hi.prom a v hv)
   omega
 ·intro k b hk;have HZ:=hi'.blk k b hk;have hlt:∀g,af β k g b->g<w.heap.size:=fun g hc=>(ct (hi.blk k b hk) hc).2
  have no:∀g,af β k g b->¬(F g\/g=w.heap.size):=fun g hc=>by
   rintro (hg|hg)
   ·exact (ct HZ hc).1 hg
   ·have:=hlt g hc;omega
  cases b with
  |gone=>trivial
  |log ys Y own xs=>exact⟨HZ.1,HZ.2.1,fun g hg=>⟨no g hg,(HZ.2.2.1 g hg).2⟩,HZ.2.2.2⟩
  |kV ys Y own=>exact⟨HZ.1,HZ.2.1,fun g hg=>⟨no g hg,(HZ.2.2.1 g hg).2⟩,HZ.2.2.2⟩
  |cells cs=>
   obtain⟨g,c,e,h1,h2,h3,h4⟩:=HZ;exact⟨g,c,e,h1,h2,no g h1,h4⟩
  |grow tid e xs=>
   rcases HZ with HZ|⟨g,cap,cur,h1,h2,h3,h4⟩
   ·exact .inl HZ
   ·exact .inr ⟨g,cap,cur,h1,h2,no g ⟨_,_,h2,h1⟩,h4⟩
  |fH es=>
   obtain⟨g,ms,cl,h1,h2,h3,h4⟩:=HZ;exact⟨g,ms,cl,h1,h2,no g h1,h4⟩
  |dmap e m=>
   obtain⟨g,ms,cl,h1,h2,h3,h4⟩:=HZ;exact⟨g,ms,cl,h1,h2,no g h1,h4⟩
  |eo e last left=>
   obtain⟨g,gm,ms,cl,seen,h1,h2,h3,h4⟩:=HZ;exact⟨g,gm,ms,cl,seen,h1,h2,no g h1,h4⟩
  |loop f p ph ts=>
   obtain⟨l,r,h1,h2,h3,h4⟩:=HZ;exact⟨l,r,h1,h2,no l h1,h4⟩
  |dat t x=>
   obtain⟨g,c,e,h1,h2,h3,h4⟩:=HZ;exact⟨g,c,e,h1,h2,no g h1,h4⟩
  |eu n rest=>
   obtain⟨g,s,pos,h1,h2,h3,h4⟩:=HZ;exact⟨g,s,pos,h1,h2,no g h1,h4⟩
  |xb x=>
   obtain⟨v,h1,h2,h3⟩:=HZ;exact⟨v,h1,h2,fun g hg=>⟨no g ⟨v,h1,hg⟩,(h3 g hg).2⟩⟩
theorem aD.qmd{F:Nat->Prop}{g:Nat}{b:aB}{u:Value}(hi:aD C.P F w0 Ψ β h w)(hF:F g)(hn:∀a,a.block=g->Ψ a=none)(hone:u.oneCell'=true)(hnew:cn C.P (fun q=>F q/\q≠g) Ψ (β++[u]) w h.length b)
 (hcl:∀q,af (β++[u]) h.length q b->q=g):aD C.P (fun q=>F q/\q≠g) w0 Ψ (β++[u]) (h++[b]) w:=by
 have hi':aD C.P (fun q=>F q/\q≠g) w0 Ψ β h w:=hi.anti (fun q hq=>hq.1) (dJ.refl _ _)
 have lt:∀{k:Nat} {b:aB},h[k]?=some b->k<β.length:=fun {k b} hk=>by
  rw[hi.len];rcases Wak k h.length with h'|h'
  ·exact h'
  ·rw[Wai h']at hk;cases hk
 have old:∀{k q:Nat} {b:aB},h[k]?=some b->af β k q b->q≠g:=fun hk hc e=>(ct (hi.blk _ _ hk) hc).1 (e▸hF)
 refine⟨hi'.low,hi'.size,hi'.prom,hi'.own,by simp[hi.len],?_,?_,?_,?_,hi'.gQ⟩
 ·intro k v hk;rcases bg hk with h1|⟨_,rfl⟩
  ·exact hi.one k v h1
  ·exact hone
 ·intro k b' hk;rcases bg hk with h1|⟨rfl,rfl⟩
  ·exact vF u (hi'.blk k b' h1)
  ·exact hnew
 ·intro k b' q hk hc ad had hsp;rcases bg hk with h1|⟨rfl,rfl⟩
  ·exact hi'.free k b' q h1 (bO (lt h1) hc) ad had hsp
  ·exact hn ad (by rw[had,hcl q hc])
 ·intro j k bj bk q cY hj hk n6 hck;rcases bg hj with h1|⟨e1,rfl⟩<;>rcases bg hk with h2|⟨e2,rfl⟩
  ·exact hi.sep j k bj bk q cY h1 h2 (bO (lt h1) n6) (bO (lt h2) hck)
  ·subst e2;exact old h1 (bO (lt h1) n6) (hcl q hck)
  ·subst e1;exact old h2 (bO (lt h2) hck) (hcl q n6)
  ·omega
theorem aD.promise{F:Nat->Prop}{g:Nat}{us:List Value}{t:TypeId}(hi:aD C.P F w0 Ψ β h w)(hF:F g)(hn:∀a,a.block=g->Ψ a=none)(hg:w.heap[g]?=some (.cells us.toArray t (0,0))):bW Ψ (dV Ψ g us)/\
 (∀a v,dV Ψ g us a=some v->Ψ a=some v\/a.block=g)/\aD C.P (fun q=>F q/\q≠g) w0 (dV Ψ g us) β h w:=by
 have hi':aD C.P (fun q=>F q/\q≠g) w0 Ψ β h w:=hi.anti (fun q hq=>hq.1) (dJ.refl _ _)
 have hle:bW Ψ (dV Ψ g us):=fun a v hv=>by
  unfold dV;rw[if_neg]
  ·exact hv
  ·rintro⟨hb,_⟩
   rw[hn a hb]at hv;cases hv
 have T1:∀a v,dV Ψ g us a=some v->Ψ a=some v\/(a.block=g/\a.spot=none/\us[a.off]?=some v):=fun a v hv=>by
  unfold dV at hv;split at hv
  ·rename_i hc;exact .inr ⟨hc.1,hc.2,hv⟩
  ·exact .inl hv
 refine⟨hle,fun a v hv=>(T1 a v hv).imp id fun h=>h.1,hi'.low,hi'.size,fun a v hv=>?_,fun a v hv hs=>?_,hi.len,hi.one,fun k b hk=>?_,fun k b q hk hc a ha hs=>?_,hi.sep,hi.gQ.le hle⟩
 ·rcases T1 a v hv with h'|⟨h1,h2,h3⟩
  ·exact hi.prom a v h'
  ·refine E5 h2 ?_
   obtain⟨b,o,s⟩:=a;simp only at h1 h2 h3
   subst h1 h2;simp[World.cell?,hg,h3]
 ·rcases T1 a v hv with h'|⟨h1,h2,h3⟩
  ·exact hi'.own a v h' hs
  ·rw[h2]at hs;cases hs
 ·exact VC hle (hi'.blk k b hk)
 ·cases hp:dV Ψ g us a with
  |none=>rfl
  |some v=>
   rcases T1 a v hp with h'|⟨h1,_⟩
   ·rw[hi.free k b q hk hc a ha hs]at h';cases h'
   ·exact absurd hF (by rw[<-h1,ha];exact (ct (hi.blk k b hk) hc).1)
def wH(o:Oper)(n:Nat):Value:=match o.op with
 | .buildSlice _ len _=>.slice (some ⟨n,0,none⟩) len len
 |_=>.pointer (some ⟨n,0,none⟩)
def VX(P:Program)(o:Oper)(a:Act)(c:Array Value)(t:TypeId):Prop:=
 ∀a':Act,(∀x∈o.op.operands,a'.eval x=a.eval x)->∀w:World,(execOp a'.eval o).run P w= .ok (.value (wH o w.heap.size)) (w.alloc (.cells c t))
theorem Jj{w:World}{c c':Array Value}{t t':TypeId}(h:w.alloc (.cells c t)=w.alloc (.cells c' t')):c=c'/\t=t':=by
 have h1:=heap_alloc_new w (.cells c t);rw[h]at h1;have h2:=heap_alloc_new w (.cells c' t');rw[h2]at h1;simp only[Option.some.injEq,Obj.cells.injEq]at h1;exact⟨h1.1.symm,h1.2.1.symm⟩
theorem qaz{a:Act}{t:Tmp}{v:Value}(h:t<a.tmps.size->a.tmps[t]?=some v):a.put (some t) v=a:=by
 have:a.tmps.setIfInBounds t v=a.tmps:=by
  apply Wb4
  rw[Wb1];apply WbF
  intro j;rw[WcD];split
  ·rename_i e;subst e;split
   ·rename_i hlt;have:=h (by simpa using hlt)
    rw[<-this];simp
   ·rename_i hlt;rw[Wai (by simpa using hlt)]
  ·rfl
 show ({a with tmps:=a.tmps.setIfInBounds t v}:Act)=a
 rw[this]
theorem ij{o:Oper}(h:fD C o=true):o.guard=none/\(∃t,o.dst=some t/\∀x∈o.op.operands,x≠ .tmp t)/\((∃t,o.op= .alloc t)\/(∃t len parts,o.op= .buildSlice t len parts/\C.Qt t=false/\KC C o.op=false)):=by
 unfold fD at h;simp only[Wac]at h;obtain⟨⟨h1,h2⟩,h3⟩:=h;refine⟨by simpa using h1,?_,?_⟩
 ·split at h2
  ·rename_i t ht;refine⟨t,ht,fun x hx e=>?_⟩
   subst e;have hm:t∈o.op.operands.toList.filterMap Np:=List.mem_filterMap.2 ⟨.tmp t,by simpa using hx,rfl⟩
   have:ue t (o.op.operands.toList.filterMap Np)=true:=by
    revert hm
    generalize o.op.operands.toList.filterMap Np=l
    intro hm;induction l with
    |nil=>cases hm
    |cons y l ih=>
     rcases List.mem_cons.1 hm with rfl|hm
     ·simp[ue]
     ·simp[ue,ih hm]
   rw[this]at h2;cases h2
  ·cases h2
 split at h3
 ·rename_i t ht;exact .inl ⟨t,ht⟩
 ·rename_i t len parts ht;simp only[Wac,WaU]at h3;exact .inr ⟨t,len,parts,ht,h3.1,h3.2⟩
 ·cases h3
theorem T7{s:St}{o:Oper}{r:Out}(cU:fD C o=true)(hi:aD C.P B w0 Ψ β s.heap w)(hf:wS Ψ β s.top a)(hr:DC C s.top s.heap o.op=some r):∃c t,VX C.P o a c t:=by
 obtain⟨_,_,hop⟩:=ij cU;rcases hop with ⟨t,hop⟩|⟨t,len,parts,hop,_,_⟩
 ·rw[hop]at hr;have hr:xz C s.heap t=some r:=hr;unfold xz at hr;split at hr
  ·rename_i z hz;obtain⟨i,v,Vv,Ib,rfl⟩:=fJ hz;refine⟨v.cells,t,fun a' _ w=>?_⟩
   simp[execOp,wH,hop,Instr.alloc,zeroValue,typeInfo,Vv,Ib,newVar,newRow]
  ·cases hr
 ·rw[hop]at hr;have hr:iY C s.heap t len parts.toList (tw s.top (seconds parts.toList))=some r:=hr;obtain⟨e,xs,us,tid,_,_,hrun,_⟩:=lq (C:=C) (a:=a) (fr:=s.top) hi (fun p _=>bU hf p.2) hr
  refine⟨us.toArray,tid,fun a' he w=>?_⟩
  have hp:(parts.map fun (i,x)=>(i,a'.eval x))=parts.map fun (i,x)=>(i,a.eval x):=by
   apply Array.map_congr_left
   rintro⟨i,x⟩ hx
   have:=he x (by rw[hop];simp only[Op.operands,List.mem_toArray];exact Wbo (f:=fun p:Nat×Operand=>p.2) (Array.mem_toList_iff.2 hx))
   simp[this]
  have:=hrun w
  rw[<-hp]at this;simp[execOp,wH,hop,this]
theorem CR{o:Oper}{t:Tmp}{g:Nat}{c:Array Value}{tid:TypeId}{F:Nat->Prop}{s:St}{r:Out}(hra:DC C s.top s.heap o.op=some r)(cU:fD C o=true)(fk:o.dst=some t)(hl:VX C.P o a c tid)
 (hi:aD C.P F w0 Ψ β s.heap w) (hf:aQ Ψ β (s.top::s.below) (a::As)) (hg:w.heap[g]?=some (.cells c tid (0,0))) (hF:F g) (hn:∀ad,ad.block=g->Ψ ad=none) (hv:t<a.tmps.size->a.tmps[t]?=some (wH o g)):
 ∃ax β',bW Ψ ax/\(∀ad v,ax ad=some v->Ψ ad=some v\/ad.block=g)/\aD C.P (fun q=>F q/\q≠g) w0 ax β' ((s.apply r).put o.dst r.v).heap w/\aQ ax β' (((s.apply r).put o.dst r.v).top::((s.apply r).put o.dst r.v).below) (a::As):=by
 obtain⟨hgd,_,hop⟩:=ij cU;have hfr:=bf hf;have Oa:∀{ax β'} {h':List aB} {av:AV},bW Ψ ax->(∀(k:Nat) (v:Value),β[k]?=some v->β'[k]?=some v)->aE ax β' av (wH o g)->aQ ax β' ((({s with heap:=h'}:St).put o.dst av).top::(({s with heap:=h'}:St).put o.dst av).below) (a::As):=by
  intro ax β' h' av hle bV hav;have h1:=cq (s:={s with heap:=h'}) (d:=o.dst) (bF hle bV _ _ hf) hav;rw[fk,qaz hv,<-fk]at h1;exact h1
 rcases hop with ⟨t',hop⟩|⟨t',len,parts,hop,hown,qq9⟩
 ·rw[hop]at hra;have hr:xz C s.heap t'=some r:=hra;have hrun:=hl a (fun _ _=>rfl) w
  unfold xz at hr;split at hr
  ·rename_i z hz;obtain⟨i,v,Vv,Ib,rfl⟩:=fJ hz;have nP:(execOp a.eval o).run C.P w= .ok (.value (.pointer (some ⟨w.heap.size,0,none⟩))) (w.alloc (.cells v.cells t')):=by
    simp[execOp,hop,Instr.alloc,zeroValue,typeInfo,Vv,Ib,newVar,newRow]
   rw[hrun]at nP;obtain⟨rfl,rfl⟩:c=v.cells/\tid=t':=Jj (by injection nP)
   have hlv:∀n,wH o n= .pointer (some ⟨n,0,none⟩):=fun n=>by unfold wH;rw[hop]
   rw[hlv]at Oa;have T1:(β++[Value.pointer (some ⟨g,0,none⟩)])[s.heap.length]?=some (.pointer (some ⟨g,0,none⟩)):=by rw[<-hi.len];simp
   have fin:∀b:aB,r=⟨none,.own (hlen s.heap) 0,s.heap++[b],none⟩->(∀q,af (β++[Value.pointer (some ⟨g,0,none⟩)]) s.heap.length q b->q=g)->cn C.P (fun q=>F q/\q≠g) Ψ (β++[Value.pointer (some ⟨g,0,none⟩)]) w s.heap.length b->
    ∃ax β',bW Ψ ax/\(∀ad v,ax ad=some v->Ψ ad=some v\/ad.block=g)/\aD C.P (fun q=>F q/\q≠g) w0 ax β' ((s.apply r).put o.dst r.v).heap w/\aQ ax β' (((s.apply r).put o.dst r.v).top::((s.apply r).put o.dst r.v).below) (a::As):=fun b h0 h1 h2=>by
    subst h0;exact⟨Ψ,β++[Value.pointer (some ⟨g,0,none⟩)],bW.refl _,fun _ _ h=>.inl h,by rw[cu];exact hi.qmd hF hn rfl h2 h1,Oa (h':=s.heap++[b]) (bW.refl _) (aS _) (by
     rw[cF];exact⟨g,T1,rfl⟩)⟩
   cases had:C.zb tid with
   |true=>
    rw[had,cond_true]at hr;obtain⟨u,x,rfl,hrd⟩:=Bl hr (iU (Ψ:=Ψ) (β:=β) v);exact fin (.dat u x) rfl (fun q hc=>by simp only[af]at hc;rw[T1]at hc;simp at hc;exact hc.symm) ⟨g,v.cells,tid,T1,hg,fun h=>h.2 rfl,hrd⟩
   |false=>
    rw[had,cond_false]at hr;split at hr
    ·rename_i cs hc;simp at hr
     obtain⟨hl',h1⟩:=hO hi.one hc (iU v);exact fin (.cells cs) hr.symm (fun q hc=>by simp only[af]at hc;rw[T1]at hc;simp at hc;exact hc.symm) ⟨g,v.cells,tid,T1,hg,fun h=>h.2 rfl,aX (bW.refl _) (aS _) _ _ hl',h1⟩
    ·split at hr
     ·rename_i hz1;simp at hr
      have xJ:v.oneCell'=true:=by
       unfold Kv at hz1;rw[Vv]at hz1;simp only[Ib]at hz1;exact hz1
      have hcl:v.cells= #[v]:=by cases v<;>first|rfl|(simp[Value.oneCell']at xJ)
      have hl':aL Ψ (β++[Value.pointer (some ⟨g,0,none⟩)]) [.bJ] v.cells.toList:=by rw[hcl];exact⟨v,[],rfl,trivial,rfl⟩
      have h1:∀u∈v.cells.toList,u.oneCell'=true:=by rw[hcl];intro u hu;simp at hu;rw[hu];exact xJ
      exact fin (.cells [.bJ]) hr.symm (fun q hc=>by simp only[af]at hc;rw[T1]at hc;simp at hc;exact hc.symm) ⟨g,v.cells,tid,T1,hg,fun h=>h.2 rfl,hl',h1⟩
     ·cases hr
  ·cases hr
 ·rw[hop]at hra;have hr:iY C s.heap t' len parts.toList (tw s.top (seconds parts.toList))=some r:=hra;obtain⟨e,xs,us,tid',rfl,_,nP,h2,Ic,kN,hle⟩:=lq (C:=C) (a:=a) (fr:=s.top) hi (fun p _=>bU hfr p.2) hr
  have hrun:=hl a (fun _ _=>rfl) w
  have qhb:(execOp a.eval o).run C.P w= .ok (.value (.slice (some ⟨w.heap.size,0,none⟩) len len)) (w.alloc (.cells us.toArray tid')):=by
   simp[execOp,hop,nP w]
  rw[hrun]at qhb;obtain⟨rfl,rfl⟩:c=us.toArray/\tid=tid':=Jj (by injection qhb)
  obtain⟨p1,p2,p3⟩:=hi.promise hF hn hg;have hlv:wH o g= .slice (some ⟨g,0,none⟩) len len:=by unfold wH;rw[hop]
  refine⟨dV Ψ g us,β,p1,p2,?_,Oa (h':=s.heap) p1 (fun _ _ h=>h) ?_⟩
  ·rw[cu];exact p3
  ·rw[hlv];refine⟨_,by rw[Ic],?_⟩
   exact nu (β:=β).2 ⟨_,_,by rw[Ic],by rw[Ic];exact Wan _,hle,.inr ⟨us,eS (aR p1 e) _ _ h2,g,0,rfl,fun j u hj=>by rw[sq,WaO];exact hj⟩⟩
theorem Oj:∀(N:Nat) (l:List Nat),l.Nodup->(∀x∈l,x<N)->l.length<=N
 |0,l,_,h=>by
  cases l with
  |nil=>simp
  |cons x l=>exact absurd (h x (by simp)) (by omega)
 |N+1,l,hn,h=>by
  have h1:=Oj N (l.filter fun x=>x !=N) (hn.filter _) (fun x hx=>by
   have h2:=List.mem_filter.1 hx;have:=h x h2.1
   have h3:x≠N:=by simpa using h2.2
   omega)
  have h2:l.length<=(l.filter fun x=>x !=N).length+1:=by
   clear h h1
   induction l with
   |nil=>simp
   |cons x l ih=>
    have hn':=List.nodup_cons.1 hn;by_cases hx:x=N
    ·subst hx;have:l.filter (fun y=>y !=x)=l:=by
      rw[WcS];intro y hy;have:y≠x:=fun e=>hn'.1 (e▸hy)
      simpa using this
     simp[this]
    ·have:=ih hn'.2
     simp[hx]
     omega
  omega
theorem Jk(v:AV):∀(l:List AV) (i j:Nat),eN (eN l i v) j v=eN (eN l j v) i v
 |[],_,_=>rfl
 |_::_,0,0=>rfl
 |_::_,0,_+1=>rfl
 |_::_,_+1,0=>rfl
 |a::l,i+1,j+1=>by simp only[eN,Jk v l i j]
theorem Jl(v:AV):∀(l:List AV) (i:Nat),eN (eN l i v) i v=eN l i v
 |[],_=>rfl
 |_::_,0=>rfl
 |a::l,i+1=>by simp only[eN,Jl v l i]
theorem FN{L:List Nat}{t:Nat}:∀(os:List Oper) (i:Nat) (fr:List AV),eN fr t .bJ=fr->eN (wQ C L os i fr) t .bJ=wQ C L os i fr
 |[],_,_,h=>h
 |o::os,i,fr,h=>by
  unfold wQ;refine FN os (i+1) _ ?_
  split
  ·split
   ·rw[Jk,h]
   ·exact h
  ·exact h
theorem Jm{L:List Nat}{t d:Nat}{o:Oper}(cU:fD C o=true)(fk:o.dst=some t)(hL:ck d L=false):∀(os:List Oper) (i:Nat) (fr:List AV),i<=d->os[d-i]?=some o->eN (wQ C L os i fr) t .bJ=wQ C L os i fr
 |[],_,_,_,h=>by simp at h
 |o'::os,i,fr,hi,h=>by
  unfold wQ;by_cases hid:i=d
  ·subst hid;simp only[Nat.sub_self,Wbh,Option.some.injEq]at h;subst h;refine FN os (i+1) _ ?_
   rw[cU,hL,fk];exact Jl _ _ _
  ·refine Jm cU fk hL os (i+1) _ (by omega) ?_
   rw[show d-i=(d-(i+1))+1 by omega,WcA]at h
   exact h
theorem Jn{L:List Nat}:∀(os:List Oper) (i:Nat) (fr:List AV) {vs:List Value},aL Ψ β fr vs->aL Ψ β (wQ C L os i fr) vs
 |[],_,_,_,h=>h
 |o::os,i,fr,vs,h=>by
  unfold wQ;refine Jn os (i+1) _ ?_
  split
  ·split
   ·exact Ok _ _ h
   ·exact h
  ·exact h
where
 Ok:∀(fr:List AV) (t:Nat) {vs:List Value},aL Ψ β fr vs->aL Ψ β (eN fr t .bJ) vs
  |[],_,_,h=>h
  |_::_,0,_,⟨v,vs',e,_,h2⟩=>⟨v,vs',e,trivial,h2⟩
  |_::l,t+1,_,⟨v,vs',e,h1,h2⟩=>⟨v,vs',e,h1,Ok l t h2⟩
theorem oC{s:St}{all:Array Oper}{L:List Nat}(h:aQ Ψ β (s.top::s.below) (a::As)):aQ Ψ β ((s.bJ C all L).top::(s.bJ C all L).below) (a::As):=by
 obtain⟨a1,as',e,⟨h1,h2⟩,h3⟩:=h;exact⟨a1,as',e,⟨h1,Jn _ _ _ h2⟩,h3⟩
def qaA(C:Ctx)(B F:Nat->Prop)(Ψ:Pr)(all:Array Oper)(L:List Nat)(a:Act)(w:World)(p:Nat×Nat):Prop:=
 ∃o t c tid,all[p.1]?=some o/\fD C o=true/\o.dst=some t/\VX C.P o a c tid/\(t<a.tmps.size->a.tmps[t]?=some (wH o p.2))/\w.heap[p.2]?=some (.cells c tid (0,0))/\F p.2/\¬B p.2/\(∀ad,ad.block=p.2->Ψ ad=none)/\
  (fN o).all (fun j=>ck j L)=true/\∀j oj,all[j]?=some oj->j≠p.1->ck j L=false->(oj.after.any (fun e=>Region.binds .any e&&e.on==p.1)=true)\/o.apart all oj=true
theorem eval_at{a a':Act}{x:Operand}(h:∀t,x= .tmp t->a'.tmps[t]?=a.tmps[t]?):a'.eval x=a.eval x:=by
 cases x with
 |tmp t=>
  have:=h t rfl
  simp only[Act.eval,Wah,this]
 |_=>rfl
theorem qaA.step{F F':Nat->Prop}{all:Array Oper}{L L':List Nat}{a':Act}{w':World}{ax:Pr}{p:Nat×Nat}{o':Oper}(h:qaA C B F Ψ all L a w p)(hsz:a'.tmps.size=a.tmps.size)(hs:∀q,o'.dst≠some q->a'.tmps[q]?=a.tmps[q]?)
 (hap:∀o,all[p.1]?=some o->o.apart all o'=true) (hw:w'.heap[p.2]?=w.heap[p.2]?) (hF:F' p.2) (hΨ:∀ad,ad.block=p.2->ax ad=none) (hL:∀j,ck j L=true->ck j L'=true):qaA C B F' ax all L' a' w' p:=by
 obtain⟨o,t,c,tid,h1,h2,h3,h4,h5,h6,h7,h8,h9,h10,h11⟩:=h;obtain⟨g1,g2,g3⟩:=Oper.apart_spec (hap o h1);have hlk:∀x∈o.op.operands,a'.eval x=a.eval x:=fun x hx=>eval_at fun q hq=>hs q fun hd=>g3 q hd (by
  subst hq;exact Wbm _ (List.mem_filterMap.2 ⟨.tmp q,by simpa using hx,rfl⟩))
 refine⟨o,t,c,tid,h1,h2,h3,fun a2 he w2=>h4 a2 (fun x hx=>by rw[he x hx,hlk x hx]) w2,fun ht=>?_,hw.trans h6,hF,h8,hΨ,?_,fun j oj hj hne hm=>h11 j oj hj hne ?_⟩
 ·rw[hs t (fun hd=>g2 t h3 hd)]
  exact h5 (by rw[<-hsz];exact ht)
 ·rw[Wau]at h10 ⊢;exact fun j hj=>hL j (h10 j hj)
 ·cases hm':ck j L with
  |false=>rfl
  |true=>rw[hL j hm']at hm;cases hm
theorem Ol{all:Array Oper}{L:List Nat}{listed:Array Bool}{i:Nat}{o:Oper}(hl:∀i,ck i L=true->listed.getD i false=true)(ho:all[i]?=some o)(h:TA fr all L i=true):
 ER fr o.op=true/\o.guard=none/\Region.free .any all listed i=true:=by
 unfold TA at h;rw[ho]at h;simp only[Wac,Wau,WbW]at h;obtain⟨⟨h1,h2⟩,h3⟩:=h;refine⟨h1,by simpa using h2,?_⟩
 unfold Region.free;rw[ho];simp only[Wau,WbW];intro j hj;have h4:=h3 j hj;by_cases hm:ck j L=true
 ·have e:listed.getD j true=true:=by
   have:=hl j hm
   rw[Wah]at this ⊢;cases hg:listed[j]? with
   |none=>rfl
   |some b=>rw[hg]at this;exact this
  rw[e];simp
 ·have hm':ck j L=false:=by simpa using hm
  rw[hm',Wci]at h4;cases hji:(j==i) with
  |true=>simp
  |false=>
   rw[hji,WbO]at h4;rw[WbO];exact Bool.or_eq_true_iff.2 (.inr h4)
theorem Lh{all:Array Oper}{i:Nat}{o:Oper}(ho:all[i]?=some o):rX C all i=fD C o:=by unfold rX;rw[ho]
theorem xY{all:Array Oper}{i:Nat}:∀{l:List Nat},i∈xE C all l↔i∈l/\rX C all i=false
 |[]=>by simp[xE]
 |j::l=>by
  unfold xE;split
  ·rename_i h;rw[xY,Wbi];constructor
   ·rintro⟨h1,h2⟩;exact⟨.inr h1,h2⟩
   ·rintro⟨rfl|h1,h2⟩
    ·rw[h2]at h;cases h
    ·exact⟨h1,h2⟩
  ·rename_i h;rw[Wbi,xY,Wbi];constructor
   ·rintro (rfl|⟨h1,h2⟩)
    ·exact⟨.inl rfl,by simpa using h⟩
    ·exact⟨.inr h1,h2⟩
   ·rintro⟨rfl|h1,h2⟩
    ·exact .inl rfl
    ·exact .inr ⟨h1,h2⟩
theorem vN{M:List Nat}{i:Nat}:∀{l:List Nat},i∈minus M l↔i∈l/\i∉M
 |[]=>by simp[minus]
 |j::l=>by
  unfold minus;split
  ·rename_i h;have h:=dz.1 h;rw[vN,Wbi];constructor
   ·rintro⟨h1,h2⟩;exact⟨.inr h1,h2⟩
   ·rintro⟨rfl|h1,h2⟩
    ·exact absurd h h2
    ·exact⟨h1,h2⟩
  ·rename_i h;have h:j∉M:=fun hm=>h (dz.2 hm)
   rw[Wbi,vN,Wbi];constructor
   ·rintro (rfl|⟨h1,h2⟩)
    ·exact⟨.inl rfl,h⟩
    ·exact⟨.inr h1,h2⟩
   ·rintro⟨rfl|h1,h2⟩
    ·exact .inl rfl
    ·exact .inr ⟨h1,h2⟩
theorem Om{all:Array Oper}{R:List Nat}{i:Nat}(h:i∈qj C all R):i∈R:=by
 unfold qj at h;split at h
 ·split at h
  ·simp at h;subst h;simp
  ·cases h
 ·exact (xY.1 h).1
theorem Q7{all:Array Oper}{R:List Nat}(h:R≠[]):∃i,i∈qj C all R:=by
 unfold qj;split
 ·cases R with
  |nil=>exact absurd rfl h
  |cons r R=>exact⟨r,by simp⟩
 ·rename_i l hl;cases hn:xE C all R with
  |nil=>exact absurd hn hl
  |cons x y=>exact⟨x,by simp⟩
theorem bZ{i:Nat}{l:List Nat}:ck i l=false↔i∉l:=by
 rw[<-Bool.not_eq_true,dz]
theorem xZ{all:Array Oper}{L R R2:List Nat}{s:St}(h:Nr C all L R s=some R2):R2=R\/(R2=qj C all R/\KJ C all L R (minus (qj C all R) R) s=true):=by
 unfold Nr at h;split at h
 ·split at h
  ·rename_i hp;simp only[Option.some.injEq]at h;exact .inr ⟨h.symm,hp⟩
  ·simp only[Option.some.injEq]at h;exact .inl h.symm
 ·cases h
theorem Q8{all:Array Oper}{L R:List Nat}{s:St}(h:Nr C all L R s=none):∀i∈R,rX C all i=false:=by
 unfold Nr at h;split at h
 ·split at h<;>cases h
 ·rename_i hn;intro i hi;cases hl:rX C all i with
  |false=>rfl
  |true=>exact absurd (List.any_eq_true.2 ⟨i,hi,hl⟩) hn
theorem On{all:Array Oper}{L R D:List Nat}{s:St}(h:KJ C all L R D s=true):(∀p∈D,∃o r,all[p]?=some o/\fD C o=true/\DC C s.top s.heap o.op=some r/\∀j oj,all[j]?=some oj->j≠p->ck j L=false->(oj.after.any (fun e=>Region.binds .any e&&e.on==p)=true)\/o.apart all oj=true)/\
 ∀x o,all[x]?=some o->ck x L=false->ck x R=false->∃e∈fN o,ck e L=false/\ck e D=false:=by
 unfold KJ at h;simp only[Wac,Wau,WbW]at h;obtain⟨h1,h2⟩:=h;have FO:∀{i:Nat} {o:Oper},all[i]?=some o->i<all.size:=fun {i o} ho=>by
  rcases Wak i all.size with h'|h'
  ·exact h'
  ·rw[WaW h']at ho;cases ho
 refine⟨fun p hp=>?_,fun x o ho hL hR=>?_⟩
 ·have h3:=h1 p hp;unfold qlm at h3;split at h3
  ·rename_i o ho;simp only[Wac,Wau,WbW]at h3;obtain⟨⟨h4,h5⟩,h6⟩:=h3;split at h5
   ·rename_i r hr;refine⟨o,r,ho,h4,hr,fun j oj hj hne hm=>?_⟩
    have h7:=h6 j (FO hj);rw[hj]at h7;simp only[hm,Wci,WaL,beq_iff_eq,hne,false_or]at h7;exact h7
   ·cases h5
  ·cases h3
 ·have h3:=h2 x (FO ho);rw[ho,hL,hR]at h3;simp only[WbO,WcI,Wac,WaU]at h3;obtain⟨e,he,h4,h5⟩:=h3;exact⟨e,he,h4,h5⟩
theorem FP{i:Nat}{l l':List Nat}(h:∀x,x∈l↔x∈l'):ck i l=ck i l':=by
 cases h1:ck i l' with
 |true=>exact dz.2 ((h i).2 (dz.1 h1))
 |false=>exact bZ.2 (fun hm=>bZ.1 h1 ((h i).1 hm))
theorem Oo{o:Oper}{t:Tmp}{v:Value}(cU:fD C o=true)(fk:o.dst=some t):∀x∈o.op.operands,(a.put (some t) v).eval x=a.eval x:=fun x hx=>by
 obtain⟨_,⟨t',h1,h2⟩,_⟩:=ij cU;rw[fk]at h1;simp only[Option.some.injEq]at h1;subst h1;exact Act.eval_put fun d hd=>by
  simp only[Option.some.injEq]at hd;subst hd;exact h2 x hx
theorem qaB{ro:Option Nat}{P:Program}{all:Array Oper}{i:Nat}{o:Oper}{c:Array Value}{tid:TypeId}{K:Act->World->Prop}{Q:Exit->Act->World->Prop}(ho:all[i]?=some o)(hg:o.guard=none)(o7:∀c,o.op≠ .defer c)(hl:VX P o a c tid)
 (hk:K (a.put o.dst (wH o w.heap.size)) (w.alloc (.cells c tid))):wpOpIn (Fw ro) 0 P all Q i K a w:=by
 unfold wpOpIn;rw[ho];simp only
 rw[if_pos (by simp[Region.wanted,hg])]
 refine⟨fun _ _=>trivial,?_⟩
 rw[Oper.semAt_eq _ _ _ o7,hl a (fun _ _=>rfl) w]
 exact hk
theorem Q9{call:gk}(hc:fc C call){ro:Option Nat}{all:Array Oper}{Q:Exit->Act->World->Prop}{k:St->Prop}(hW:∀o∈all.toList,∀t,o.dst=some t->t∈W)(hQ:∀a w,jc C B w0 bL As W a0 k a w->Q .normal a w)(HY:Region.noSelect all=true)(o7:Tz all=true)(hP:∀c (a:Act) d v w,Q (.panic c) (a.put d v) w↔Q (.panic c) a w)(hP0:C.oN=true->∀c a w,¬Q (.panic c) a w)(Ij:∀ch a w,uB C B w0 bL ch w->qK W a0 a->Q (.panic ch) a w):
 ∀(n m:Nat) (D:List (Nat×Nat)) {L:List Nat} {listed:Array Bool} {s0:St} {Ψ:Pr} {β:List Value} {a:Act} {w w1:World} {F:Nat->Prop},n+L.length=all.size->m+D.length=n->(L++D.map Prod.fst).Nodup->(∀i∈L++D.map Prod.fst,i<all.size)->(∀i,listed.getD i false=ck i (L++D.map Prod.fst))->listed.size=all.size->Ns C call all n L s0 k->
 Ext B bL Ψ->(∀g,B g->F g)->dJ B w0 w1->aD C.P F w1 Ψ β s0.heap w->aQ Ψ β ((s0.bJ C all L).top::s0.below) (a::As)->fI bL W a0 a->(∀p∈D,qaA C B F Ψ all L a w p)->(D.map Prod.snd).Nodup->∀R:World->Prop,(∀ax w',bW Ψ ax->Oe ax w'->R w')->dY ro C.P all Q R m listed a w:=by
 have Li:∀(j:Nat) (o:Oper) (c:Call),all[j]?=some o->o.op≠ .defer c:=fun j o c hj e=>by
  have:=Array.all_eq_true_iff_forall_mem.1 o7 o (Array.mem_of_getElem? hj)
  simp[e]at this
 have FO:∀{i:Nat} {o:Oper},all[i]?=some o->i<all.size:=fun {i o} ho=>by
  rcases Wak i all.size with h'|h'
  ·exact h'
  ·rw[WaW h']at ho;cases ho
 have fwd:∀{M:List Nat} {listed:Array Bool},(∀i,listed.getD i false=ck i M)->listed.size=all.size->∀i,i∈Region.ready .any all listed↔i∈dI all M all.size:=by
  intro M listed hl hs i;rw[jt,cC];constructor
  ·rintro⟨h1,o,ho,h2⟩
   refine⟨FO ho,o,ho,by rw[<-hl];exact js h1,?_⟩
   rw[Wau];intro j hj;obtain⟨e,he,hb,rfl⟩:=n8 hj;rw[<-hl];exact h2 e he hb
  ·rintro⟨hlt,o,ho,h1,h2⟩
   refine⟨La (by omega) (by rw[hl];exact h1),o,ho,fun e he hb=>?_⟩
   rw[Wau]at h2;rw[hl];refine h2 e.on ?_
   simp only[fN,WbM,WbI];exact⟨e,⟨by simpa using he,hb⟩,rfl⟩
 have app:∀(i:Nat) (M N:List Nat),ck i (M++N)=(ck i M||ck i N):=fun i M N=>by
  induction M with
  |nil=>rfl
  |cons x M ih=>simp only[WaP,ck,ih,Bool.or_assoc]
 have bw:∀{M:List Nat} {listed:Array Bool},(∀i,listed.getD i false=ck i M)->listed.size=all.size->∀{N:List Nat} (i:Nat),i<all.size->(∀j,ck j N=(ck j M||Nat.beq j i))->(∀j,(listed.setIfInBounds i true).getD j false=ck j N):=fun {M listed} hl hs N i hi hN j=>by
  rw[jV (by omega),hN]
  by_cases hij:i=j
  ·subst hij;simp
  ·rw[if_neg hij,hl,show Nat.beq j i=false from by
    cases hb:Nat.beq j i with
    |false=>rfl
    |true=>exact absurd (Wam hb).symm hij]
   simp
 intro n;induction n with
 |zero=>
  intro m D L listed s0 Ψ β a w w1 F hnL hmD sG hlt hl hs hk hE xR sy hi hf hS gq BC R hR;have hm:m=0:=by omega
  have hD:D=[]:=WaT (by omega)
  subst hm hD;unfold Ns at hk;split at hk
  ·rename_i hn;have hl':∀i,listed.getD i false=ck i L:=fun i=>by rw[hl];simp
   refine⟨hR _ _ (bW.refl _) hi.prom,?_,hQ a w ⟨Ψ,β,s0.bJ C all L,hE,hi.anti xR sy,hf,hS,hk⟩⟩
   cases hr:Region.ready .any all listed with
   |nil=>rfl
   |cons i l=>
    have:=(fwd hl' hs i).1 (by rw[hr];simp)
    rw[sD.1 hn]at this;cases this
  ·exact hk.elim
 |succ n ih=>
  intro m;induction m using Nat.strongRecOn with
  |_ m ihm=>
  intro D L listed s0 Ψ β a w w1 F hnL hmD sG hlt hl hs hk hE xR sy hi hf hS gq BC R hR;have qiN:∀i,i<all.size->i∉L++D.map Prod.fst->∃m',m=m'+1:=fun i hi hni=>by
   have:=Oj all.size (i::(L++D.map Prod.fst)) (List.nodup_cons.2 ⟨hni,sG⟩) (fun x hx=>by
    rcases List.mem_cons.1 hx with rfl|hx
    ·exact hi
    ·exact hlt x hx)
   simp only[Wae,Wad,Wav]at this;exact⟨m-1,by omega⟩
  have HX:∀i,ck i L=true->listed.getD i false=true:=fun i h=>by rw[hl,app,h];rfl
  have hDL:∀p∈D,p.1∉L:=fun p hp uw=>(List.nodup_append.1 sG).2.2 p.1 uw p.1 (Wbo hp) rfl
  have hdr:∀p∈D,p.1∈dI all L all.size:=fun p hp=>by
   obtain⟨o,t,c,tid,h1,h2,h3,h4,h5,h6,h7,h8,h9,h10,h11⟩:=gq p hp;exact cC.2 ⟨FO h1,o,h1,bZ.2 (hDL p hp),h10⟩
  have hk0:=hk;unfold Ns at hk;rw[IN]at hk;obtain⟨s,hse⟩:∃s,s=s0.bJ C all L:=⟨_,rfl⟩
  have hsh:s.heap=s0.heap:=by rw[hse];rfl
  have hsb:s.below=s0.below:=by rw[hse];rfl
  rw[<-hse]at hk;have sj:aQ Ψ β (s.top::s.below) (a::As):=by rw[hsb,hse];exact hf
  have FQ:aD C.P F w1 Ψ β s.heap w:=by rw[hsh];exact hi
  have hkeep:Oe Ψ w:=hi.prom;unfold qgV at hk;split at hk
  ·rename_i hn;have hn:=sD.1 hn;have hD:D=[]:=by
    cases D with
    |nil=>rfl
    |cons p D=>have:=hdr p (by simp);rw[hn]at this;cases this
   subst hD;have hm:m=n+1:=by simpa using hmD
   subst hm;have hl':∀i,listed.getD i false=ck i L:=fun i=>by rw[hl];simp
   refine⟨hR _ _ (bW.refl _) hkeep,fun _=>hQ a w ⟨Ψ,β,s,hE,FQ.anti xR sy,sj,hS,hk⟩,fun i hir=>?_⟩
   have:=(fwd hl' hs i).1 hir
   rw[hn]at this;cases this
  rename_i hnn;split at hk
  ·rename_i i' qJ;obtain⟨hmem,hfr⟩:=Jg qJ;obtain⟨hlt',o',ho',qaC,DI⟩:=cC.1 hmem;unfold tC at hk;rw[ho']at hk;simp only at hk
   split at hk
   ·rename_i r hr;obtain⟨h1,h2,h3⟩:=Ol HX ho' hfr;have hkn:=me hk;obtain⟨v,hy,hv⟩:=VR (a:=a) h1 (fun x _=>bU (bf sj) x) hr hkn.1
    have hiD:i'∉D.map Prod.fst:=fun hm=>by
     obtain⟨p,hp,e⟩:=List.mem_map.1 hm;obtain⟨o,t,c,tid,g1,g2,_⟩:=gq p hp;rw[e,ho']at g1;simp only[Option.some.injEq]at g1;subst g1;obtain⟨_,_,hop⟩:=ij g2;rcases hop with ⟨t,hop⟩|⟨t,len,parts,hop,_⟩<;>rw[hop]at h1<;>cases h1
    have hnm:i'∉L++D.map Prod.fst:=fun hm=>by
     rcases List.mem_append.1 hm with hm|hm
     ·exact bZ.1 qaC hm
     ·exact hiD hm
    obtain⟨m',rfl⟩:=qiN i' hlt' hnm;have hsz:(a.put o'.dst v).tmps.size=a.tmps.size:=by
     cases o'.dst with
     |none=>rfl
     |some d=>simp[Act.put]
    have w7:=ih m' D (L:=i'::L) (listed:=listed.setIfInBounds i' true) (by simp only[Wae];omega) (by omega) (by rw[WaP];exact List.nodup_cons.2 ⟨hnm,sG⟩) (fun x hx=>by
     rw[WaP]at hx;rcases List.mem_cons.1 hx with rfl|hx
     ·exact hlt'
     ·exact hlt x hx) (bw hl hs i' hlt' (fun j=>by rw[WaP];simp only[ck,Wcu])) (by simpa using hs) hkn.2 hE xR sy (by rw[cu];exact FQ) (oC (cq sj hv)) (hS.put (hW o' (WaE (l:=all.toList) (i:=i') (by simpa using ho'))))
     (fun p hp=>(gq p hp).step (o':=o') hsz (fun q hq=>by
       cases hd:o'.dst with
       |none=>rfl
       |some d=>
        have:d≠q:=fun e=>hq (by rw[hd,e])
        simp only[Act.put];rw[WaN this]) (fun o ho=>by
       obtain⟨o2,_,_,_,g1,_,_,_,_,_,_,_,_,_,g11⟩:=gq p hp;rw[g1]at ho;simp only[Option.some.injEq]at ho;subst ho;rcases g11 i' o' ho' (fun e=>hiD (by rw[e];exact Wbo hp)) qaC with hw|hw
       ·exfalso
        simp only[WbQ,Wac,beq_iff_eq]at hw;obtain⟨e,he,hb,heq⟩:=hw;rw[Wau]at DI;have:=DI e.on (by simp only[fN,WbM,WbI];exact⟨e,⟨by simpa using he,hb⟩,rfl⟩)
        rw[heq]at this;exact hDL p hp (dz.1 this)
       ·exact hw) rfl (by obtain⟨_,_,_,_,_,_,_,_,_,_,g7,_⟩:=gq p hp;exact g7) (by obtain⟨_,_,_,_,_,_,_,_,_,_,_,_,g9,_⟩:=gq p hp;exact g9) (fun j hj=>by simp only[ck,hj,Wb7])) BC
     (fun w=>R w/\Oe Ψ w) (fun ax w' he hk'=>⟨hR _ _ he hk',fun ad u hu=>hk' ad u (he ad u hu)⟩)
    have qiO:i'∈Region.ready .any all listed:=(fwd hl hs i').2 (cC.2 ⟨hlt',o',ho',bZ.2 hnm,by
     rw[Wau]at DI ⊢;exact fun j hj=>by rw[app,DI j hj];rfl⟩)
    have:=Q2 (ro:=ro) (P:=C.P) hP ho' h2 (fun c=>Li i' o' c ho') Li (Region.noSelect_spec HY) m' listed a w (Region.free_spec ho' h3) qiO (fun a' he w hw=>hy a' he w hw.2) w7
    exact dY.mono (fun w hw=>hw.1) _ _ _ _ this
   ·exact hk.elim
  rename_i qsV;split at hk
  ·rename_i i' qps;obtain⟨hmem,hfr⟩:=CP qps;obtain⟨hlt',o',ho',qaC,DI⟩:=cC.1 hmem;obtain⟨hg,qme,hfd,u,gl,xK,hgF,CQ,hall⟩:=Oi ho' hfr FQ (bf sj);obtain⟨d1,d2⟩:=Lg hfd;unfold tC at hk;rw[ho']at hk;simp only at hk
   have hiD:i'∉D.map Prod.fst:=fun hm=>by
    obtain⟨p,hp,e⟩:=List.mem_map.1 hm;obtain⟨o,t,c,tid,g1,g2,_⟩:=gq p hp;rw[e,ho']at g1;simp only[Option.some.injEq]at g1;subst g1;obtain⟨_,_,hop⟩:=ij g2;rcases hop with ⟨t,hop⟩|⟨t,len,parts,hop,_⟩<;>rw[hop]at qme<;>cases qme
   have hnm:i'∉L++D.map Prod.fst:=fun hm=>by
    rcases List.mem_append.1 hm with hm|hm
    ·exact bZ.1 qaC hm
    ·exact hiD hm
   obtain⟨m',rfl⟩:=qiN i' hlt' hnm;have YP:o'∈all.toList:=WaE (l:=all.toList) (i:=i') (by simpa using ho')
   have qiO:i'∈Region.ready .any all listed:=(fwd hl hs i').2 (cC.2 ⟨hlt',o',ho',bZ.2 hnm,by
    rw[Wau]at DI ⊢;exact fun j hj=>by rw[app,DI j hj];rfl⟩)
   have hap:∀p∈D,∀o,all[p.1]?=some o->o.apart all o'=true:=fun p hp o ho=>by
    obtain⟨o2,_,_,_,g1,_,_,_,_,_,_,_,_,_,g11⟩:=gq p hp;rw[g1]at ho;simp only[Option.some.injEq]at ho;subst ho;rcases g11 i' o' ho' (fun e=>hiD (by rw[e];exact Wbo hp)) qaC with hw|hw
    ·exfalso
     simp only[WbQ,Wac,beq_iff_eq]at hw;obtain⟨e,he,hb,heq⟩:=hw;rw[Wau]at DI;have:=DI e.on (by simp only[fN,WbM,WbI];exact⟨e,⟨by simpa using he,hb⟩,rfl⟩)
     rw[heq]at this;exact hDL p hp (dz.1 this)
    ·exact hw
   have hw:=mg (Ij:=fun ch a2 w2 hp hd=>Ij ch a2 w2 (hp.Fz hE xR sy fun h=>h.anti xR) (qK.trans hS hd (fun t hm=>hW o' YP t (by simpa using hm)))) (B:=F) (w0:=w1) (bL:=Ψ) (As:=As) (W:=o'.dst.toList) (a0:=a) (ro:=ro) hc all [o'] (Q:=fun e a' w'=>match e with
    | .normal=>dY ro C.P all Q R m' (listed.setIfInBounds i' true) a' w'
    |e=>Q e a' w') hk (Ext.refl F Ψ) FQ sj (fI.refl Ψ _ a) (fun o2 ho2 t ht=>by simp at ho2;subst ho2;simp[ht]) (fun a' w' hp=>by
     obtain⟨ax,β',s',jF,hi',hf',rP,hk'⟩:=hp;refine ih m' D (L:=i'::L) (by simp only[Wae];omega) (by omega) (by rw[WaP];exact List.nodup_cons.2 ⟨hnm,sG⟩) (fun x hx=>by
      rw[WaP]at hx;rcases List.mem_cons.1 hx with rfl|hx
      ·exact hlt'
      ·exact hlt x hx) (bw hl hs i' hlt' (fun j=>by rw[WaP];simp only[ck,Wcu])) (by simpa using hs) hk' (hE.trans (jF.anti xR)) xR sy hi' (oC hf')
      (hS.trans hE.1 (rP.mono fun t hm=>hW o' YP t (by simpa using hm))) ?_ BC R (fun mZ w2 he hk2=>hR _ _ (fun ad u hu=>he ad u (jF.1 ad u hu)) hk2)
     intro p hp;have hpF:F p.2:=by obtain⟨_,_,_,_,_,_,_,_,_,_,g7,_⟩:=gq p hp;exact g7
     refine (gq p hp).step (o':=o') rP.1.1 (fun q hq=>rP.1.2 q fun hm=>hq (by simpa using hm)) (hap p hp) ((hi'.low.block p.2 hpF).trans (FQ.low.block p.2 hpF).symm) hpF (fun ad had=>?_) (fun j hj=>by simp only[ck,hj,Wb7])
     cases hp':ax ad with
     |none=>rfl
     |some u=>
      rcases jF.2 ad u hp' with h|h
      ·obtain⟨_,_,_,_,_,_,_,_,_,_,_,_,g9,_⟩:=gq p hp;rw[g9 ad had]at h;cases h
      ·exact absurd hpF (by rw[<-had];exact h))
   have Rd:wpOpIn (Fw ro) 0 C.P all Q i' (dY ro C.P all Q R m' (listed.setIfInBounds i' true)) a w:=by
    refine vJ ho' ?_
    unfold wpListIn at hw;split
    ·rename_i e8;rw[if_pos e8]at hw;exact pe (fun e a w hne h=>by cases e<;>first|exact absurd rfl hne|exact h) hw
    ·rename_i e8;rw[if_neg e8]at hw;exact hw.2
   have w7:dY ro C.P all Q R m' (listed.setIfInBounds i' true) (a.put o'.dst u) w:=by
    unfold wpOpIn at Rd;rw[ho']at Rd;simp only at Rd
    rw[if_pos (by simp[Region.wanted,hg])]at Rd
    have Qg:=Rd.2;rw[Oper.semAt_eq _ _ _ (fun c=>Li i' o' c ho'),CQ]at Qg
    exact Qg
   exact qay (C:=C) hP ho' hg (fun c=>Li i' o' c ho') Li (Region.noSelect_spec HY) (D:=TB all L all.size [i']) (fun d hd=>(d1 d hd).2) (SP:=fun q p=>Bc all L q p=true) (fun q p h=>(CO h).2) m' listed a w (fun d hd=>by
    have hdd:d∉L:=bZ.1 (d1 d hd).1;have hdD:d∉D.map Prod.fst:=fun hm=>by
     obtain⟨p,hp,e⟩:=List.mem_map.1 hm;rcases (d1 d hd).2 with h|h
     ·exact hiD (by rw[<-h,<-e];exact Wbo hp)
     ·obtain⟨o2,_,_,_,g1,_,_,_,_,_,_,_,_,g10,_⟩:=gq p hp;unfold hasDep at h;rw[<-e,g1]at h;simp only[WbQ,Wac]at h;obtain⟨e2,he2,hb2,hd2⟩:=h;rw[Wau]at g10;have h3:=g10 e2.on (by simp only[fN,WbM,WbI];exact⟨e2,⟨by simpa using he2,hb2⟩,rfl⟩)
      have h4:=(d1 e2.on (dz.1 hd2)).1;rw[h3]at h4;cases h4
    rw[hl,app,bZ.2 hdd,bZ.2 hdD];rfl) (fun j oj hj hji hun hjD=>d2 j oj hj hji (by
    have:=js hun
    rw[hl,app,Bool.or_eq_false_iff]at this;exact this.1) hjD) qiO xK (fun q p hqp hlq=>by
    obtain⟨hqL,oq,c,k1,k2,k3,k4,k5⟩:=CO hqp;rw[hl,app,hqL,WbO]at hlq;obtain⟨p',hp',rfl⟩:=List.mem_map.1 (dz.1 hlq);obtain⟨o2,t2,c2,qef,g1,g2,g3,g4,g5,g6,g7,g8,g9,_⟩:=gq p' hp';rw[k1]at g1;simp only[Option.some.injEq]at g1;subst g1;rw[k4]at g3;simp only[Option.some.injEq]at g3;subst g3;by_cases hlt:p<a.tmps.size
    ·have cI:a.eval (.tmp p)= .pointer (some ⟨p'.2,0,none⟩):=by
      simp only[Act.eval];rw[Wah,g5 hlt];unfold wH;rw[k2];rfl
     rw[cI];intro ad had;simp only[Value.pointer.injEq,Option.some.injEq]at had;subst had;exact⟨fun e=>hgF (by rw[<-e];exact g7),c2,qef,(0,0),g6⟩
    ·have cI:a.eval (.tmp p)=undef:=by
      simp only[Act.eval];rw[Wah,WaW (by omega)]
      rfl
     rw[cI];exact sF _ _) hall w7
  rename_i qsZ;split at hk
  ·rename_i R2 cU;have hsub:∀i∈R2,i∈dI all L all.size:=fun i hi=>by
    rcases xZ cU with h|⟨h,_⟩
    ·rw[<-h];exact hi
    ·rw[h]at hi;exact Om hi
   have qmg:dI all L all.size≠[]:=fun h=>hnn (sD.2 h)
   have hne:∃i,i∈R2:=by
    rcases xZ cU with h|⟨h,_⟩
    ·rw[h];cases hr:dI all L all.size with
     |nil=>exact absurd hr qmg
     |cons x y=>exact⟨x,by simp⟩
    ·rw[h];exact Q7 qmg
   have hed:∀{i:Nat} {o:Oper} (q:Nat),all[i]?=some o->i∈dI all L all.size->q∉L->¬(o.after.any (fun e=>Region.binds .any e&&e.on==q)=true):=fun {i o} q ho hi hq hw=>by
    obtain⟨_,o',ho',_,DI⟩:=cC.1 hi;rw[ho]at ho';simp only[Option.some.injEq]at ho';subst ho';simp only[WbQ,Wac,beq_iff_eq]at hw;obtain⟨e,he,hb,heq⟩:=hw;rw[Wau]at DI;have:=DI e.on (by simp only[fN,WbM,WbI];exact⟨e,⟨by simpa using he,hb⟩,rfl⟩)
    rw[heq]at this;exact hq (dz.1 this)
   by_cases hA:∃p∈D,p.1∈R2
   ·obtain⟨p,hp,hpR⟩:=hA;obtain⟨D1,D2,rfl⟩:=List.append_of_mem hp;obtain⟨o,t,c,tid,g1,g2,g3,g4,g5,g6,g7,g8,g9,g10,g11⟩:=gq p hp;have hone:=vL hk p.1 hpR;unfold tC at hone;rw[g1]at hone;simp only at hone
    rw[if_pos g2]at hone;split at hone
    ·rename_i r hr;have hkn:=me hone;obtain⟨ax,β',hle,hnew,hi',hf'⟩:=CR hr g2 g3 g4 FQ sj g6 g7 g9 g5;have FR:(L++(D1++p::D2).map Prod.fst).Perm (p.1::L++(D1++D2).map Prod.fst):=by
      rw[WaQ,Wat,WaQ,<-Waj,WaP,<-Waj];exact List.perm_middle
     have qpu:(D1.map Prod.snd++p.2::D2.map Prod.snd).Nodup:=by rw[WaQ,Wat]at BC;exact BC
     have qmh:=(List.perm_middle.nodup_iff).1 qpu;refine ih m (D1++D2) (L:=p.1::L) (listed:=listed) (F:=fun q=>F q/\q≠p.2) (by simp only[Wae];omega) (by simp only[Wad,Wae]at hmD ⊢;omega) (FR.nodup_iff.1 sG) (fun x hx=>hlt x (FR.mem_iff.2 hx))
      (fun i=>by rw[hl];exact FP fun x=>FR.mem_iff) hs hkn.2 (hE.trans ⟨hle,fun ad v hv=>(hnew ad v hv).imp id fun e=>by rw[e];exact g8⟩) (fun q hq=>⟨xR q hq,fun e=>g8 (e▸hq)⟩) sy hi' (oC hf') hS ?_ ?_ R (fun mZ w2 he hk2=>hR _ _ (fun ad u hu=>he ad u (hle ad u hu)) hk2)
     ·intro q hq;have hqD:q∈D1++p::D2:=by
       rcases List.mem_append.1 hq with h|h
       ·exact Wbm _ h
       ·exact Wbq _ (Wal _ h)
      have qmi:q.2≠p.2:=fun e=>(List.nodup_cons.1 qmh).1 (by
       rw[<-e,<-WaQ];exact Wbo hq)
      obtain⟨o',t',c',tid',k1,k2,k3,k4,k5,k6,k7,k8,k9,k10,k11⟩:=gq q hqD;refine⟨o',t',c',tid',k1,k2,k3,k4,k5,k6,⟨k7,qmi⟩,k8,fun ad had=>?_,?_,fun j oj hj hjn hm=>k11 j oj hj hjn ?_⟩
      ·cases hp':ax ad with
       |none=>rfl
       |some u=>
        rcases hnew ad u hp' with h|h
        ·rw[k9 ad had]at h;cases h
        ·exact absurd (had.symm.trans h) qmi
      ·rw[Wau]at k10 ⊢;exact fun j hj=>by simp only[ck,k10 j hj,Wb7]
      ·cases hm':ck j L with
       |false=>rfl
       |true=>simp only[ck,hm',Wb7,reduceCtorEq]at hm
     ·rw[WaQ];exact (List.nodup_cons.1 qmh).2
    ·exact hone.elim
   ·have hnR:∀p∈D,p.1∉R2:=fun p hp h=>hA ⟨p,hp,h⟩
    obtain⟨r0,Ee⟩:=hne;obtain⟨qmj,o0,ho0,qpw,qmk⟩:=cC.1 (hsub r0 Ee);have qml:r0∉L++D.map Prod.fst:=fun hm=>by
     rcases List.mem_append.1 hm with hm|hm
     ·exact bZ.1 qpw hm
     ·obtain⟨p,hp,e⟩:=List.mem_map.1 hm;exact hnR p hp (by rw[e];exact Ee)
    obtain⟨m',rfl⟩:=qiN r0 qmj qml;have qhd:r0∈Region.ready .any all listed:=(fwd hl hs r0).2 (cC.2 ⟨qmj,o0,ho0,bZ.2 qml,by
     rw[Wau]at qmk ⊢;exact fun j hj=>by rw[app,qmk j hj];rfl⟩)
    refine⟨hR _ _ (bW.refl _) hkeep,fun hr=>(by rw[hr]at qhd;cases qhd),fun i hir=>?_⟩
    obtain⟨qaE,o,ho,qpx,qiP⟩:=cC.1 ((fwd hl hs i).1 hir);have qeP:i∉L++D.map Prod.fst:=bZ.1 qpx;have hiL:i∉L:=fun h=>qeP (Wbm _ h)
    have hiD:i∉D.map Prod.fst:=fun h=>qeP (Wbq _ h)
    have YP:o∈all.toList:=WaE (l:=all.toList) (i:=i) (by simpa using ho)
    have qeQ:∀p∈D,p.2<w.heap.size:=fun p hp=>by
     obtain⟨_,_,_,_,_,_,_,_,_,g6,_⟩:=gq p hp;exact aY g6
    have Re:i∈dI all L all.size->∀p∈D,∀o',all[p.1]?=some o'->o'.apart all o=true:=fun hiR p hp o' ho'=>by
     obtain⟨o2,_,_,_,g1,_,_,_,_,_,_,_,_,_,g11⟩:=gq p hp;rw[g1]at ho';simp only[Option.some.injEq]at ho';subst ho';rcases g11 i o ho (fun e=>hiD (by rw[e];exact Wbo hp)) (bZ.2 hiL) with hw|hw
     ·exact absurd hw (hed p.1 ho hiR (hDL p hp))
     ·exact hw
    have hstep:∀{ax:Pr} {β':List Value} {s':St} {a':Act} {w' w1':World} {F':Nat->Prop},Ns C call all n (i::L) s' k->Ext B Ψ ax->(∀g,B g->F' g)->dJ B w0 w1'->aD C.P F' w1' ax β' s'.heap w'->aQ ax β' (s'.top::s'.below) (a'::As)->fI bL W a0 a'->
     (∀p∈D,qaA C B F' ax all (i::L) a' w' p)->dY ro C.P all Q R m' (listed.setIfInBounds i true) a' w':=by
     intro ax β' s' a' w' w1' F' hk' jF qpy qmm hi' hf' rP qiR;refine ih m' D (L:=i::L) (by simp only[Wae];omega) (by omega) (by rw[WaP];exact List.nodup_cons.2 ⟨qeP,sG⟩) (fun x hx=>by
      rw[WaP]at hx;rcases List.mem_cons.1 hx with rfl|hx
      ·exact qaE
      ·exact hlt x hx) (bw hl hs i qaE (fun j=>by rw[WaP];simp only[ck,Wcu])) (by simpa using hs) hk' (hE.trans jF) qpy qmm hi' (oC hf') rP qiR BC R (fun mZ w2 he hk2=>hR _ _ (fun ad u hu=>he ad u (jF.1 ad u hu)) hk2)
    have hLs:∀j,ck j L=true->ck j (i::L)=true:=fun j hj=>by simp only[ck,hj,Wb7]
    have qhe:∀{c:Array Value} {tid:TypeId},dJ B w0 (w.alloc (.cells c tid)):=fun {c tid}=>by
     refine (sy.trans ⟨FQ.low.os,FQ.low.tape,FQ.low.output,FQ.low.size,fun g hg=>FQ.low.block g (xR g hg)⟩).trans ?_
     exact D3 ((Below.refl _ _).alloc (Wan _) _) fun g hg=>FQ.size g (xR g hg)
    have T8:fD C o=true->∀(t:Tmp) (v:Value),o.dst=some t->aQ Ψ β (s.top::s.below) (a.put (some t) v::As)/\(a.put (some t) v).tmps.size=a.tmps.size/\(∀q,o.dst≠some q->(a.put (some t) v).tmps[q]?=a.tmps[q]?)/\(t<(a.put (some t) v).tmps.size->(a.put (some t) v).tmps[t]?=some v):=fun Rh t v fk=>by
     have h1:=cq (d:=some t) (av:=.bJ) (v:=v) sj trivial;have h2:eN s.top t .bJ=s.top:=by
      rw[hse];exact Jm Rh fk (bZ.2 hiL) all.toList 0 s0.top (Wbz _) (by simpa using ho)
     have h1:aQ Ψ β (eN s.top t .bJ::s.below) (a.put (some t) v::As):=h1;rw[h2]at h1;refine⟨h1,by simp[Act.put],fun q hq=>?_,fun ht=>?_⟩
     ·have:t≠q:=fun e=>hq (by rw[fk,e])
      simp only[Act.put];rw[WaN this]
     ·have ht':t<a.tmps.size:=by simpa [Act.put]using ht
      simp only[Act.put];rw[Wbv ht']
    by_cases hiR:i∈R2
    ·have hone:=vL hk i hiR;unfold tC at hone;rw[ho]at hone;simp only at hone
     by_cases Rh:fD C o=true
     ·rw[if_pos Rh]at hone;split at hone
      ·rename_i r hr;have hkn:=me hone;obtain⟨hgd,⟨t,fk,_⟩,_⟩:=ij Rh;obtain⟨c,tid,Oq⟩:=T7 Rh FQ (bf sj) hr;refine qaB ho hgd (fun c=>Li i o c ho) Oq ?_
       rw[fk];obtain⟨q1,q2,q3,q4⟩:=T8 Rh t (wH o w.heap.size) fk;have qeR:=FQ.Fz (c:=c) (t:=tid);have Ri:VX C.P o (a.put (some t) (wH o w.heap.size)) c tid:=fun a2 he w2=>Oq a2 (fun x hx=>by rw[he x hx,Oo Rh fk x hx]) w2
       have hnone:∀ad,ad.block=w.heap.size->Ψ ad=none:=fun ad had=>by
        cases hp:Ψ ad with
        |none=>rfl
        |some u=>have:=qm (hi.prom ad u hp);omega
       obtain⟨ax,β',hle,hnew,hi',hf'⟩:=CR hr Rh fk Ri qeR q1 (heap_alloc_new w _) (.inr rfl) hnone q4;have hnB:¬B w.heap.size:=fun hb=>WcH _ (FQ.size _ (xR _ hb))
       refine hstep hkn.2 ⟨hle,fun ad v hv=>(hnew ad v hv).imp id fun e=>by rw[e];exact hnB⟩ (fun g hg=>⟨.inl (xR g hg),fun e=>hnB (e▸hg)⟩) qhe hi' hf' (hS.put (d:=some t) (fun t' ht'=>hW o YP t' (by rw[fk];exact ht'))) ?_
       intro p hp;have VY:p.2≠w.heap.size:=Nat.ne_of_lt (qeQ p hp);refine (gq p hp).step (o':=o) q2 q3 (Re (hsub i hiR) p hp) ?_ ⟨.inl ?_,VY⟩ (fun ad had=>?_) hLs
       ·exact ((Below.refl w.heap.size w).alloc (Wan _) (.cells c tid)).block p.2 (qeQ p hp)
       ·obtain⟨_,_,_,_,_,_,_,_,_,_,g7,_⟩:=gq p hp;exact g7
       ·cases hp':ax ad with
        |none=>rfl
        |some u=>
         rcases hnew ad u hp' with h|h
         ·obtain⟨_,_,_,_,_,_,_,_,_,_,_,_,g9,_⟩:=gq p hp;rw[g9 ad had]at h;cases h
         ·exact absurd (had.symm.trans h) VY
      ·exact hone.elim
     ·rw[if_neg Rh]at hone;have hw:=mg (Ij:=fun ch a2 w2 hp hd=>Ij ch a2 w2 (hp.Fz hE xR sy fun h=>h.anti xR) (qK.trans hS hd (fun t hm=>hW o YP t (by simpa using hm)))) (B:=F) (w0:=w1) (bL:=Ψ) (As:=As) (W:=o.dst.toList) (a0:=a) (ro:=ro) hc all [o] (Q:=fun e a' w'=>match e with
       | .normal=>dY ro C.P all Q R m' (listed.setIfInBounds i true) a' w'
       |e=>Q e a' w') hone (Ext.refl F Ψ) FQ sj (fI.refl Ψ _ a) (fun o' ho' t ht=>by simp at ho';subst ho';simp[ht]) (fun a' w' hp=>by
        obtain⟨ax,β',s',jF,hi',hf',rP,hk'⟩:=hp;refine hstep hk' (jF.anti xR) xR sy hi' hf' (hS.trans hE.1 (rP.mono fun t hm=>hW o YP t (by simpa using hm))) ?_
        intro p hp;have hpF:F p.2:=by obtain⟨_,_,_,_,_,_,_,_,_,_,g7,_⟩:=gq p hp;exact g7
        refine (gq p hp).step (o':=o) rP.1.1 (fun q hq=>rP.1.2 q fun hm=>hq (by simpa using hm)) (Re (hsub i hiR) p hp) ((hi'.low.block p.2 hpF).trans (FQ.low.block p.2 hpF).symm) hpF (fun ad had=>?_) hLs
        cases hp':ax ad with
        |none=>rfl
        |some u=>
         rcases jF.2 ad u hp' with h|h
         ·obtain⟨_,_,_,_,_,_,_,_,_,_,_,_,g9,_⟩:=gq p hp;rw[g9 ad had]at h;cases h
         ·exact absurd hpF (by rw[<-had];exact h))
      refine vJ ho ?_
      unfold wpListIn at hw;split
      ·rename_i e8;rw[if_pos e8]at hw;exact pe (fun e a w hne h=>by cases e<;>first|exact absurd rfl hne|exact h) hw
      ·rename_i e8;rw[if_neg e8]at hw;exact hw.2
    ·
     rcases xZ cU with hR2|⟨hR2,hput⟩
     ·exfalso
      have hD:D=[]:=by
       cases D with
       |nil=>rfl
       |cons p D=>exact absurd (by rw[hR2];exact hdr p (by simp)) (hnR p (by simp))
      subst hD;refine hiR ?_
      rw[hR2];exact cC.2 ⟨qaE,o,ho,bZ.2 hiL,by simpa using qiP⟩
     ·obtain⟨p1,p2⟩:=On hput;rw[<-hR2]at p1 p2;have qiS:i∈dI all L all.size:=by
       cases hm:ck i (dI all L all.size) with
       |true=>exact dz.1 hm
       |false=>
        exfalso
        obtain⟨e,he,h1,h2⟩:=p2 i o ho (bZ.2 hiL) hm;rw[Wau]at qiP;have h3:=qiP e he;rw[app,h1,WbO]at h3;obtain⟨p,hp,e'⟩:=List.mem_map.1 (dz.1 h3);exact bZ.1 h2 (by rw[<-e'];exact vN.2 ⟨hdr p hp,hnR p hp⟩)
      obtain⟨o',r,ho',Rh,hr,hap⟩:=p1 i (vN.2 ⟨qiS,hiR⟩);rw[ho]at ho';simp only[Option.some.injEq]at ho';subst ho';obtain⟨hgd,⟨t,fk,_⟩,_⟩:=ij Rh;obtain⟨c,tid,Oq⟩:=T7 Rh FQ (bf sj) hr;refine qaB ho hgd (fun c=>Li i o c ho) Oq ?_
      rw[fk];obtain⟨q1,q2,q3,q4⟩:=T8 Rh t (wH o w.heap.size) fk;have qeR:=FQ.Fz (c:=c) (t:=tid);have Ri:VX C.P o (a.put (some t) (wH o w.heap.size)) c tid:=fun a2 he w2=>Oq a2 (fun x hx=>by rw[he x hx,Oo Rh fk x hx]) w2
      have hnone:∀ad,ad.block=w.heap.size->Ψ ad=none:=fun ad had=>by
       cases hp:Ψ ad with
       |none=>rfl
       |some u=>have:=qm (hi.prom ad u hp);omega
      have hnB:¬B w.heap.size:=fun hb=>WcH _ (FQ.size _ (xR _ hb))
      have FR:(i::(L++D.map Prod.fst)).Perm (L++((i,w.heap.size)::D).map Prod.fst):=List.perm_middle.symm;have qpz:(fN o).all (fun j=>ck j L)=true:=by
       obtain⟨_,o2,ho2,_,h2⟩:=cC.1 qiS;rw[ho]at ho2;simp only[Option.some.injEq]at ho2;subst ho2;exact h2
      refine ihm m' (by omega) ((i,w.heap.size)::D) (L:=L) (s0:=s0) (F:=fun g=>F g\/g=w.heap.size) hnL (by simp only[Wae];omega) (FR.nodup_iff.1 (List.nodup_cons.2 ⟨qeP,sG⟩)) (fun x hx=>by
       rcases List.mem_cons.1 (FR.mem_iff.2 hx) with rfl|hx
       ·exact qaE
       ·exact hlt x hx) (bw hl hs i qaE (fun j=>by
       rw[FP (fun x=>FR.mem_iff.symm)]
       simp only[ck,Wcu])) (by simpa using hs) hk0 hE (fun g hg=>.inl (xR g hg)) qhe (by rw[hsh]at qeR;exact qeR) (by rw[hsb,hse]at q1;exact q1) (hS.put (d:=some t) (fun t' ht'=>hW o YP t' (by rw[fk];exact ht'))) ?_ ?_ R hR
      ·intro p hp;rcases List.mem_cons.1 hp with rfl|hp
       ·exact⟨o,t,c,tid,ho,Rh,fk,Ri,q4,heap_alloc_new w _,.inr rfl,hnB,hnone,qpz,hap⟩
       ·refine (gq p hp).step (o':=o) q2 q3 (Re qiS p hp) ?_ (.inl ?_) ?_ (fun _ h=>h)
        ·exact ((Below.refl w.heap.size w).alloc (Wan _) (.cells c tid)).block p.2 (qeQ p hp)
        ·obtain⟨_,_,_,_,_,_,_,_,_,_,g7,_⟩:=gq p hp;exact g7
        ·obtain⟨_,_,_,_,_,_,_,_,_,_,_,_,g9,_⟩:=gq p hp;exact g9
      ·rw[Wat];refine List.nodup_cons.2 ⟨fun hm=>?_,BC⟩
       obtain⟨p,hp,e⟩:=List.mem_map.1 hm;have:=qeQ p hp
       simp only at e
       omega
  ·rename_i cU;have hno:=Q8 cU;have hD:D=[]:=by
    cases D with
    |nil=>rfl
    |cons p D=>
     exfalso
     obtain⟨o,t,c,tid,g1,g2,_⟩:=gq p (by simp)
     have:=hno p.1 (hdr p (by simp))
     rw[Lh g1,g2]at this;cases this
   subst hD;have hm:m=n+1:=by simpa using hmD
   subst hm;have hl':∀i,listed.getD i false=ck i L:=fun i=>by rw[hl];simp
   have qaF:∀(i:Nat) {ax:Pr} {β':List Value} {s':St} {a':Act} {w':World},i<all.size->i∉L->Ns C call all n (i::L) s' k->Ext F Ψ ax->aD C.P F w1 ax β' s'.heap w'->aQ ax β' (s'.top::s'.below) (a'::As)->fI bL W a0 a'->
    ∀R':World->Prop,(∀qaa w'',bW ax qaa->Oe qaa w''->R' w'')->dY ro C.P all Q R' n (listed.setIfInBounds i true) a' w':=by
    intro i ax β' s' a' w' hi1 hi2 hk' jF hi' hf' rP R' hR';refine ih n [] (L:=i::L) (by simp only[Wae];omega) (by simp) (by simpa using ⟨hi2,by simpa using sG⟩) (fun x hx=>by
     simp only[WbN,WaA]at hx;rcases List.mem_cons.1 hx with rfl|hx
     ·exact hi1
     ·exact hlt x (by simpa using hx)) (bw hl hs i hi1 (fun j=>by simp only[WbN,WaA,ck,Wcu])) (by simpa using hs) hk' (hE.trans (jF.anti xR)) xR sy hi' (oC hf') rP (fun p hp=>by cases hp) (by simp) R' hR'
   refine⟨hR _ _ (bW.refl _) hkeep,fun hr=>?_,fun i hir=>?_⟩
   ·exfalso
    apply hnn
    rw[sD];cases hrl:dI all L all.size with
    |nil=>rfl
    |cons i l=>
     have:=(fwd hl' hs i).2 (by rw[hrl];simp)
     rw[hr]at this;cases this
   have Eb:=(fwd hl' hs i).1 hir;have hkI:=hi.prom;split at hk
   ·rename_i i' f' qpA;obtain⟨hrl,hok,⟨m,rfl⟩,hnp⟩:=Q5 qpA;obtain⟨oi,o,hoi,iq,hlo,hgn,⟨t,x,r0,hop,Ee⟩,hap,hne,qpB⟩:=Q6 hok;have Li:∀(j:Nat) (o:Oper) (c:Call),all[j]?=some o->o.op≠ .defer c:=fun j o c hj e=>by
     have:=Array.all_eq_true_iff_forall_mem.1 o7 o (Array.mem_of_getElem? hj)
     simp[e]at this
    have mi:i'∈dI all L all.size:=by rcases hrl with h|h<;>rw[h]<;>simp
    have mf:f'∈dI all L all.size:=by rcases hrl with h|h<;>rw[h]<;>simp
    have hi1:=(cC.1 mi).1;have o8:=(cC.1 mf).1;unfold tC at hk;rw[hoi,iq]at hk;simp only at hk
    obtain⟨_,_,_,v0,qs6,w0',hrun,_,hv0⟩:=D9 FQ (bU (bf sj) x) Ee;have hw0:=Still.loadAt t _ _ _ _ hrun;subst hw0;have CQ:(execOp a.eval oi).run C.P w0'= .ok (.value v0) w0':=by
     simp only[execOp,hop];exact vM hrun
    have YP:o∈all.toList:=WaE (l:=all.toList) (i:=f') (by simpa using iq)
    have hw:=mg (Ij:=fun ch a2 w2 hp hd=>Ij ch a2 w2 (hp.Fz hE xR sy fun h=>h.anti xR) (qK.trans hS hd (fun t hm=>hW o YP t (by simpa using hm)))) (B:=F) (w0:=w1) (bL:=Ψ) (As:=As) (W:=o.dst.toList) (a0:=a) (ro:=ro) hc all [o] (Q:=fun e a' w'=>match e with
     | .normal=>dY ro C.P all Q R (m+1) (listed.setIfInBounds f' true) a' w'/\∀v1 w2,(execOp a'.eval oi).run C.P w'= .ok (.value v1) w2->v1=v0
     |e=>Q e a' w') hk (Ext.refl F Ψ) FQ sj (fI.refl Ψ _ a) (fun o' ho' t ht=>by simp at ho';subst ho';simp[ht]) (fun a' w' hp=>by
      obtain⟨ax,β',s',jF,hi',hf',rP,hk'⟩:=hp;have qpC:qG C s.top s.heap oi.op=some r0.v:=by unfold qG;rw[hop];simp only[Ee]
      rw[qpC]at hk';cases Lj:qG C s'.top s'.heap oi.op with
      |none=>rw[Lj]at hk';exact hk'.elim
      |some y=>
       rw[Lj]at hk';have hk':if EU s.top s'.top o.dst r0.v y=true then Ns C call all (m+1) (f'::L) s' k else False:=hk'
       by_cases Fe:EU s.top s'.top o.dst r0.v y=true
       ·rw[if_pos Fe]at hk';refine⟨qaF f' o8 (bZ.1 (cC.1 mf).2.choose_spec.2.1) hk' jF hi' hf' (hS.trans hE.1 (rP.mono fun t hm=>hW o YP t (by simpa using hm))) R (fun mZ w2 he hk2=>hR _ _ (fun ad u hu=>he ad u (jF.1 ad u hu)) hk2),fun v1 w2 TU=>?_⟩
        unfold qG at Lj;rw[hop]at Lj;simp only at Lj
        split at Lj
        ·rename_i r1 qiT;simp only[Option.some.injEq]at Lj;subst Lj;obtain⟨_,_,_,v1',qs7,w1',qhf,_,Vo⟩:=D9 hi' (bU (bf hf') x) qiT;have hw1:=Still.loadAt t _ _ _ _ qhf;subst hw1;have hx1:(execOp a'.eval oi).run C.P w1'= .ok (.value v1') w1':=by
          simp only[execOp,hop];exact vM qhf
         rw[hx1]at TU;have e1:v1'=v1:=by cases TU;rfl
         subst e1;exact Q4 Fe (bf sj) (bf hf') (fun q hq=>rP.1.2 q fun hm=>hq (by simpa using hm)) hv0 Vo
        ·cases Lj
       ·rw[if_neg Fe]at hk';exact hk'.elim)
    have Rd:wpOpIn (Fw ro) 0 C.P all Q f' (fun a1 w1=>dY ro C.P all Q R (m+1) (listed.setIfInBounds f' true) a1 w1/\∀v1 w2,(execOp a1.eval oi).run C.P w1= .ok (.value v1) w2->v1=v0) a w0':=by
     refine vJ iq ?_
     unfold wpListIn at hw;split
     ·rename_i e8;rw[if_pos e8]at hw;exact pe (fun e a w hne h=>by cases e<;>first|exact absurd rfl hne|exact h) hw
     ·rename_i e8;rw[if_neg e8]at hw;exact hw.2
    exact (VU hP (hP0 hnp) hoi iq hgn hlo Li (Region.noSelect_spec HY) hap hne ((fwd hl' hs i').2 mi) ((fwd hl' hs f').2 mf) (fun k hk=>by
     have:=(fwd hl' hs k).1 hk
     rcases hrl with h|h<;>rw[h]at this<;>simp at this<;>omega) (fun k hk=>by
     have:=(fwd (bw hl' hs i' hi1 (N:=i'::L) (fun j=>by simp only[ck,Wcu])) (by simpa using hs) k).1 hk
     rw[qpB]at this;simpa using this) CQ (hR _ _ (bW.refl _) hkeep) Rd).2.2 i hir
   ·have core:∀i,i∈dI all L all.size->wpOpIn (Fw ro) 0 C.P all Q i (dY ro C.P all Q R n (listed.setIfInBounds i true)) a w:=by
     intro i Eb;obtain⟨hlt,o,ho,_,_⟩:=cC.1 Eb;have hone:=vL hk i Eb;unfold tC at hone;rw[ho]at hone;simp only at hone
     have YP:o∈all.toList:=WaE (l:=all.toList) (i:=i) (by simpa using ho)
     have hw:=mg (Ij:=fun ch a2 w2 hp hd=>Ij ch a2 w2 (hp.Fz hE xR sy fun h=>h.anti xR) (qK.trans hS hd (fun t hm=>hm))) (B:=F) (w0:=w1) (bL:=Ψ) (As:=As) (W:=W) (a0:=a) (ro:=ro) hc all [o] (Q:=fun e a' w'=>match e with
      | .normal=>dY ro C.P all Q R n (listed.setIfInBounds i true) a' w'
      |e=>Q e a' w') hone (Ext.refl F Ψ) FQ sj (fI.refl Ψ W a) (fun o' ho'=>by simp at ho';subst ho';exact hW _ YP) (fun a' w' hp=>by
       obtain⟨ax,β',s',jF,hi',hf',rP,hk'⟩:=hp;exact qaF i hlt (bZ.1 (cC.1 Eb).2.choose_spec.2.1) hk' jF hi' hf' (hS.trans hE.1 rP) R (fun mZ w2 he hk2=>hR _ _ (fun ad u hu=>he ad u (jF.1 ad u hu)) hk2))
     refine vJ ho ?_
     unfold wpListIn at hw;split
     ·rename_i e8;rw[if_pos e8]at hw;exact pe (fun e a w hne h=>by cases e<;>first|exact absurd rfl hne|exact h) hw
     ·rename_i e8;rw[if_neg e8]at hw;exact hw.2
    exact core i Eb
theorem Ot(hsp:au C){call:gk}(hc:fc C call){all:Array Oper}{id:Nat}{s:St}{k:St->Prop}{md:Mode}(hk:Zu C call md all s k)(hE:Ext B bL Ψ)(hi:aD C.P B w0 Ψ β s.heap w)(hf:aQ Ψ β (s.top::s.below) (a::As))
 (hS:fI bL W a0 a) (hW:∀o∈all.toList,∀t,o.dst=some t->t∈W) {Q:Exit->Act->World->Prop} {ro:Option Nat} (hQ:∀a w,jc C B w0 bL As W a0 k a w->Q .normal a w) (Ij:∀ch a w,uB C B w0 bL ch w->qK W a0 a->Q (.panic ch) a w):(Code.region id all true).wpIn (Fw ro) 0 C.P Q a w:=by
 unfold Zu at hk;split at hk
 ·split at hk
  ·rename_i VZ;simp only[Wac]at VZ;refine wpIn_region_any VZ.1 ?_
   have hwd:{w with drawn:=w.drawn+1}=w.drew:=rfl;rw[hwd];have hH:aD C.P B w0 Ψ β s.heap w.drew:=hi.step ⟨(Below.refl _ w).drew,bW.refl _,fun _ _ h=>.inl h⟩
   refine Im (Q:=fun e a w=>match e with| .normal=>Q .normal a w| .panic ch=>uB C B w0 bL ch w/\qK W a0 a|_=>False) (fun e a w h=>by cases e<;>first|exact h|exact Ij _ _ _ h.1 h.2|exact h.elim) _ _ _ _ ?_
   exact (Q9 (Q:=fun e a w=>match e with| .normal=>Q .normal a w| .panic ch=>uB C B w0 bL ch w/\qK W a0 a|_=>False) hc hW (fun a w hp=>hQ a w hp) VZ.2.1 VZ.2.2 (fun _ _ _ _ _=>and_congr Iff.rfl qK.put) (fun hn _ _ _ h=>h.1.no hn) (fun _ _ _ h h'=>⟨h,h'⟩) all.size all.size [] (L:=[]) (by simp) (by simp) (by simp) (by simp) (fun i=>(m6 i).trans rfl) (by simp) hk hE (fun _ h=>h) (dJ.refl _ _) hH (oC hf) hS (by simp) (by simp) (fun _=>True) (fun _ _ _ _=>trivial)).any
  ·exact hk.elim
 split at hk
 ·rename_i hok;simp only[Wac]at hok;obtain⟨hok,VZ⟩:=hok;unfold Zk at hok;simp only[Wac]at hok;obtain⟨qmp,FK⟩:=hok;obtain⟨jT,n7,vals,Ed,dh,fW,ht,hk'⟩:=FD _ _ _ _ _ _ hk;have hm:ji all<=all.size:=by unfold ji;omega
  have hml:(all.toList.take (ji all)).length=ji all:=by simp;omega
  rw[hml]at hk';simp only[WaY]at hk' ht;refine wpIn_region_any VZ ?_
  have hwd:{w with drawn:=w.drawn+1}=w.drew:=rfl;rw[hwd];obtain⟨a1,as',e,⟨hdf,bu⟩,hF⟩:=hf;simp only[List.cons.injEq]at e;obtain⟨rfl,rfl⟩:=e;have hH:aD C.P B w0 Ψ β s.heap w.drew:=hi.step ⟨(Below.refl _ w).drew,bW.refl _,fun _ _ h=>.inl h⟩
  refine qaq (B:=B) (w0:=w0) (h:=s.heap) (bL:=bL) (β:=β) (As:=As) (W:=W) (a0:=a0) (below:=s.below) hsp hm (VK qmp) rfl hi.len ht FK hW ?_ all.size _ a w.drew (by simp) (fun i _ _=>m6 i) (fun i o _ hl=>by rw[m6 i]at hl;cases hl) ?_ ?_
  ·intro fE us a' w' jF hH' hF' rP;exact mg hc all _ hk' jF hH' hF' rP (fun o ho=>hW o (Wbd ho)) hQ Ij
  ·unfold unl;have:=List.countP_le_length (p:=(! ·)) (l:=(Array.replicate all.size false).toList)
   simpa using this
  ·have hg:aD C.P B w0 Ψ (β++List.replicate (all.toList.take (ji all)).length hole) (s.heap++mP (all.toList.take (ji all))) w.drew:=hH.places _ _ (by simp[rz]) (fun b hb=>by
    obtain⟨i,hi⟩:=List.getElem?_of_mem hb
    exact vK hi)
   have hrn:iV (all.toList.take (ji all)).length fW (Array.replicate all.size false)=[]:=by
    rw[List.eq_nil_iff_forall_not_mem];intro q hq;obtain⟨j,_,hl,_⟩:=QZ hq;rw[m6]at hl;cases hl
   refine⟨Ψ,List.replicate (all.toList.take (ji all)).length hole,mP (all.toList.take (ji all)),hE,(by rw[hrn];exact hg),⟨by simp,rz _,fun i Eb=>⟨?_,fun _=>?_⟩⟩,bF (bW.refl _) (eH _) _ _ hF,hdf,by simpa using dr _ _ bu,fun t ht'=>?_,hS⟩
   ·rw[m6 i];exact Je Eb
   ·rw[Wbb,if_pos Eb]
   rw[fZ (fun i o _ _=>by simp[Wah,Array.getElem?_replicate];split<;>rfl)]
   exact jk (bW.refl _) (eH _) _ _ (c9 _ _ bu t)
 ·exact hk.elim
end Go.AM
