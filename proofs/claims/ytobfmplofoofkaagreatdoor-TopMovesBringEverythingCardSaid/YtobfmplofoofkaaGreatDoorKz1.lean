import Derived.WalkKit
import Derived.CallsIn
import Derived.DefersIn
import Derived.Deep.AppendSrc
import Derived.DeepKeys
set_option linter.unusedSimpArgs false
set_option linter.unusedVariables false
namespace Go
abbrev Waa:=@List.getElem?_eq_getElem
abbrev Wab:=@List.getD_eq_getElem?_getD
abbrev Wac:=@Bool.and_eq_true
abbrev Wad:=@List.length_append
abbrev Wae:=@List.length_cons
abbrev Waf:=@List.length_take
abbrev Wag:=@Nat.beq_eq
abbrev Wah:=@Array.getD_eq_getD_getElem?
abbrev Wai:=@List.getElem?_eq_none
abbrev Waj:=@List.append_assoc
abbrev Wak:=@Nat.lt_or_ge
abbrev Wal:=@List.mem_cons_of_mem
abbrev Wam:=@Nat.eq_of_beq_eq_true
abbrev Wan:=@Nat.le_refl
abbrev Wao:=@List.getElem?_append_left
abbrev Wap:=@List.take_of_length_le
abbrev Waq:=@List.mem_cons_self
abbrev War:=@List.getElem?_set_ne
abbrev Was:=@List.getElem?_take
abbrev Wat:=@List.map_cons
abbrev Wau:=@List.all_eq_true
abbrev Wav:=@List.length_map
abbrev Waw:=@Int.toNat_natCast
abbrev Wax:=@List.take_append_drop
abbrev Waz:=@Int.le_refl
abbrev WaA:=@List.append_nil
abbrev WaB:=@List.length_nil
abbrev WaC:=@List.getElem?_set_self
abbrev WaD:=@Nat.mul_le_mul_right
abbrev WaE:=@List.mem_of_getElem?
abbrev WaF:=@List.length_filter_le
abbrev WaG:=@Bool.false_eq_true
abbrev WaH:=@List.getElem?_append_right
abbrev WaI:=@Int.tmod_eq_emod_of_nonneg
abbrev WaJ:=@List.getElem_mem
abbrev WaK:=@Nat.ble_eq
abbrev WaL:=@Bool.or_eq_true
abbrev WaM:=@List.getElem_of_mem
abbrev WaN:=@Array.getElem?_setIfInBounds_ne
abbrev WaO:=@Nat.zero_add
abbrev WaP:=@List.cons_append
abbrev WaQ:=@List.map_append
abbrev WaR:=@List.take_append_of_le_length
abbrev WaS:=@Nat.mul_one
abbrev WaT:=@List.eq_nil_of_length_eq_zero
abbrev WaU:=@Bool.not_eq_true'
abbrev WaV:=@List.drop_append_of_le_length
abbrev WaW:=@Array.getElem?_eq_none
abbrev WaX:=@List.length_set
abbrev WaY:=@List.nil_append
abbrev WaZ:=@List.getElem?_drop
abbrev Wa0:=@Ne.symm
abbrev Wa1:=@Array.getElem?_eq_getElem
abbrev Wa2:=@Nat.add_assoc
abbrev Wa3:=@Option.getD_some
abbrev Wa4:=@Int.lt_or_le
abbrev Wa5:=@List.mem_of_mem_take
abbrev Wa6:=@Nat.lt_of_lt_of_le
abbrev Wa7:=@List.length_replicate
abbrev Wa8:=@Int.eq_ofNat_of_zero_le
abbrev Wa9:=@List.drop_eq_getElem_cons
abbrev Wba:=@List.getElem?_map
abbrev Wbb:=@List.getElem?_replicate
abbrev Wbc:=@List.take_add_one
abbrev Wbd:=@List.mem_of_mem_drop
abbrev Wbe:=@List.drop_zero
abbrev Wbf:=@Array.mem_append
abbrev Wbg:=@List.not_mem_nil
abbrev Wbh:=@List.getElem?_cons_zero
abbrev Wbi:=@List.mem_cons
abbrev Wbj:=@Nat.le_trans
abbrev Wbk:=@Option.map_some
abbrev Wbl:=@Array.toArray_toList
abbrev Wbm:=@List.mem_append_left
abbrev Wbn:=@Option.getD_none
abbrev Wbo:=@List.mem_map_of_mem
abbrev Wbp:=@List.size_toArray
abbrev Wbq:=@List.mem_append_right
abbrev Wbr:=@List.set_eq_of_length_le
abbrev Wbs:=@List.mem_singleton
abbrev Wbt:=@Bool.true_eq_false
abbrev Wbu:=@Nat.add_zero
abbrev Wbv:=@Array.getElem?_setIfInBounds_self_of_lt
abbrev Wbw:=@Int.tdiv_eq_ediv_of_nonneg
abbrev Wbx:=@List.drop_of_length_le
abbrev Wby:=@List.nodup_nil
abbrev Wbz:=@Nat.zero_le
abbrev WbA:=@Nat.succ_mul
abbrev WbB:=@Nat.add_sub_cancel_left
abbrev WbC:=@List.filter_cons_of_pos
abbrev WbD:=@List.filter_cons_of_neg
abbrev WbE:=@List.pairwise_singleton
abbrev WbF:=@List.ext_getElem?
abbrev WbG:=@Option.map_none
abbrev WbH:=@List.mem_append
abbrev WbI:=@List.mem_filter
abbrev WbJ:=@List.map_congr_left
abbrev WbK:=@List.filterMap_cons
abbrev WbL:=@Int.le_trans
abbrev WbM:=@List.mem_map
abbrev WbN:=@List.map_nil
abbrev WbO:=@Bool.false_or
abbrev WbP:=@List.take_length
abbrev WbQ:=@Array.any_eq_true'
abbrev WbR:=@List.map_map
abbrev WbS:=@List.flatMap_cons
abbrev WbT:=@List.sum_cons
abbrev WbU:=@Int.toNat_of_nonneg
abbrev WbV:=@List.getD_cons_succ
abbrev WbW:=@List.mem_range
abbrev WbX:=@Nat.min_le_right
abbrev WbY:=@List.drop_eq_nil_of_le
abbrev WbZ:=@UInt8.toNat_ofNat'
abbrev Wb0:=@Nat.le_of_ble_eq_true
abbrev Wb1:=@Array.toList_setIfInBounds
abbrev Wb2:=@Function.comp_def
abbrev Wb3:=@Array.toList_push
abbrev Wb4:=@Array.ext'
abbrev Wb5:=@List.take_left
abbrev Wb6:=@List.take_take
abbrev Wb7:=@Bool.or_true
abbrev Wb8:=@List.replicate_succ
abbrev Wb9:=@List.nodup_cons
abbrev Wca:=@List.filter_eq_nil_iff
abbrev Wcb:=@Array.size_append
abbrev Wcc:=@List.mapM_cons
abbrev Wcd:=@Array.getElem?_toList
abbrev Wce:=@List.take_append
abbrev Wcf:=@Nat.mod_eq_of_lt
abbrev Wcg:=@Nat.mod_lt
abbrev Wch:=@Nat.le_of_not_lt
abbrev Wci:=@Bool.or_false
abbrev Wcj:=@List.toList_toArray
abbrev Wck:=@List.getElem?_range
abbrev Wcl:=@List.flatMap_append
abbrev Wcm:=@Nat.min_eq_left
abbrev Wcn:=@Classical.byContradiction
abbrev Wco:=@Option.isNone_iff_eq_none
abbrev Wcp:=@List.mem_of_find?_eq_some
abbrev Wcq:=@List.take_left'
abbrev Wcr:=@Nat.eq_zero_or_pos
abbrev Wcs:=@List.eq_of_mem_replicate
abbrev Wct:=@Array.setIfInBounds_comm
abbrev Wcu:=@Bool.or_comm
abbrev Wcv:=@List.sum_nil
abbrev Wcw:=@List.length_filterMap_le
abbrev Wcx:=@Nat.mul_le_mul
abbrev Wcy:=@List.take_zero
abbrev Wcz:=@List.drop_take
abbrev WcA:=@List.getElem?_cons_succ
abbrev WcB:=@Option.bind_eq_some_iff
abbrev WcC:=@List.flatten_cons
abbrev WcD:=@List.getElem?_set
abbrev WcE:=@List.pairwise_map
abbrev WcF:=@List.foldl_append
abbrev WcG:=@List.range_succ_eq_map
abbrev WcH:=@Nat.lt_irrefl
abbrev WcI:=@List.any_eq_true
abbrev WcJ:=@List.singleton_append
abbrev WcK:=@List.set_append_right
abbrev WcL:=@List.foldl_cons
abbrev WcM:=@Nat.min_le_left
abbrev WcN:=@List.drop_left'
abbrev WcO:=@List.find?_some
abbrev WcP:=@List.drop_eq_nil_iff
abbrev WcQ:=@List.drop_succ_cons
abbrev WcR:=@List.flatten_append
abbrev WcS:=@List.filter_eq_self
abbrev WcT:=@List.drop_left
end Go
namespace Go
inductive Rose (α:Type):Type where
 |node (x:α) (aN:List (Rose α)):Rose α
namespace Rose
variable {α β:Type}
def val:Rose α->α
 | .node x _=>x
def aN:Rose α->List (Rose α)
 | .node _ l=>l
mutual
theorem ind{p:Rose α->Prop}(h:∀x l,(∀y∈l,p y)->p (.node x l)):∀r,p r
 | .node x l=>h x l (qlb h l)
theorem qlb{p:Rose α->Prop}(h:∀x l,(∀y∈l,p y)->p (.node x l)):∀(l:List (Rose α)) (y:Rose α),y∈l->p y
 |[],_,hy=>by cases hy
 |z::l,y,hy=>by
  rcases List.mem_cons.1 hy with e|e
  ·rw[e];exact ind h z
  ·exact qlb h l y e
end
mutual
def all(p:α->Nat->Prop):Rose α->Prop
 | .node x l=>p x l.length/\YW p l
def YW(p:α->Nat->Prop):List (Rose α)->Prop
 |[]=>True
 |y::l=>all p y/\YW p l
end
theorem Nh{p:α->Nat->Prop}:∀(l:List (Rose α)),YW p l↔∀y∈l,all p y
 |[]=>by simp[YW]
 |y::l=>by simp only[YW,Wbi,forall_eq_or_imp,Nh l]
mutual
def size(f:α->Nat):Rose α->Nat
 | .node x l=>f x+sizes f l+1
def sizes(f:α->Nat):List (Rose α)->Nat
 |[]=>0
 |y::l=>size f y+sizes f l
end
end Rose
end Go
namespace Go.AM
open Go.RowKit
inductive Ty where
 |int (k:IntKind)
 |bool
 |str
 |arr (e:Ty)
 |vec (n:Nat) (e:Ty)
 |unit
 |pair (a b:Ty)
 |dR (a b:Ty)
 |qi
 |any
 deriving DecidableEq
@[reducible] def Ty.den:Ty->Type
  | .int _=>Int
  | .bool=>Bool
  | .str=>List Int
  | .arr e=>List e.den
  | .vec _ e=>List e.den
  | .unit=>Unit
  | .pair a b=>a.den×b.den
  | .dR a b=>Rose (a.den×b.den)
  | .qi=>FuncId
  | .any=>Unit
def Ty.cells:Ty->Nat
 | .int _| .bool| .str| .arr _| .qi| .any=>1
 | .vec n e=>n*e.cells
 | .unit=>0
 | .pair a b=>a.cells+b.cells
 | .dR a b=>a.cells+1+b.cells
def Ty.isAgg:Ty->Bool
 | .vec .. | .unit| .pair .. | .dR ..=>true
 |_=>false
def Ty.small(e:Ty):Bool:=Nat.beq e.cells 1&& !e.isAgg
def Ty.flat:Ty->Bool
 | .int _| .bool| .str| .unit| .qi| .any=>true
 | .arr _=>false
 | .vec _ e=>e.flat
 | .pair a b=>a.flat&&b.flat
 | .dR _ _=>false
def dflt:(t:Ty)->t.den
 | .int _=>(0:Int)
 | .bool=>false
 | .str=>([]:List Int)
 | .arr e=>([]:List e.den)
 | .vec n e=>(List.replicate n (dflt e):List e.den)
 | .unit=>()
 | .pair a b=>(dflt a,dflt b)
 | .dR a b=>(.node (dflt a,dflt b) []:Rose (a.den×b.den))
 | .qi=>(0:Nat)
 | .any=>()
def bR(t u:Ty)(x:t.den):Option u.den:=
 match decEq t u with
 |isTrue h=>some (h▸x)
 |isFalse _=>none
@[reducible] def dens:List Ty->Type
  |[]=>Unit
  |[t]=>t.den
  |t::u::ts=>t.den×dens (u::ts)
inductive AV where
 |bJ
 |lO
 |tt
 |ff
 |d (t:Ty) (x:t.den)
 |fs (e:Ty) (xs:List e.den)
 |iX
 |agg (cs:List AV)
 |lW (cs:List AV)
 |fn (f:FuncId) (cap:List AV)
 |nk
 |nq
 |own (k off:Nat)
 |sl (k:Nat)
 |tX (k sz:Nat) (i:Int)
 |rp (t:Ty) (x:t.den)
 |qd (k:Nat)
 |xw (f:FuncId) (first:List AV)
 |sv (k sz:Nat) (lo hi:Int)
 |Ko (g:Nat)
 |DS (k off n:Nat) (i:Int)
 |yX (k off n:Nat) (lo hi:Int)
 |lI (k sz:Nat) (i:Int) (off:Nat)
 |DT (k n:Nat)
 |oM (g:Int)
inductive Ex where
 |normal
 |exit (id:Nat)
 |ret
inductive Ph where
 |ready|busy|done (e:Ex)|exhausted
def AX{α:Type}:List (Int×α)->Int->α->List (Int×α)
 |[],n,x=>[(n,x)]
 |p::m,n,x=>if p.1=n then (n,x)::m else p::AX m n x
def yY{α:Type}:List (Int×α)->Int->Option α
 |[],_=>none
 |p::m,n=>if p.1=n then some p.2 else yY m n
def tY:List Ty->Ty
 |[]=>.unit
 |[t]=>t
 |t::u::ts=>.pair t (tY (u::ts))
def AY:(ts:List Ty)->(tY ts).den->dens ts
 |[],_=>()
 |[_],x=>x
 |_::u::ts,x=>(x.1,AY (u::ts) x.2)
def tZ:(ts:List Ty)->dens ts->(tY ts).den
 |[],_=>()
 |[_],x=>x
 |_::u::ts,x=>(x.1,tZ (u::ts) x.2)
theorem Iz:∀(ts:List Ty) (x:dens ts),AY ts (tZ ts x)=x
 |[],_=>rfl
 |[_],_=>rfl
 |_::u::ts,x=>by
  obtain⟨a,b⟩:=x;show (a,AY (u::ts) (tZ (u::ts) b))=(a,b)
  rw[Iz (u::ts) b]
structure fM (ys:List Ty) where
 l:Nat
 items:List (tY ys).den
 R:List (tY ys).den->(Nat->Prop)->(Addr->Option Value)->World->Prop
 Rf:(Nat->Prop)->(Addr->Option Value)->World->Prop
inductive KK where
 |i (n:Int)
 |s (l:List Int)
inductive XB where
 |xx (tid:TypeId) (e:Ty) (xs:List e.den)
 |jP (m:List (Int×Int×List (List Int)))
inductive aB where
 |gone
 |log (ys:List Ty) (Y:fM ys) (own:Nat->Prop) (xs:List (tY ys).den)
 |kV (ys:List Ty) (Y:fM ys) (own:Nat->Prop)
 |cells (cs:List AV)
 |grow (tid:TypeId) (e:Ty) (xs:List e.den)
 |fH (es:List (KK×AV))
 |dmap (e:Ty) (m:List (Int×e.den))
 |eo (e:Ty) (last left:List (Int×e.den))
 |loop (f:FuncId) (p:List Nat) (ph:Ph) (tmps:List AV)
 |dat (t:Ty) (x:t.den)
 |eu (n:Int) (rest:List Int)
 |xb (x:XB)
structure St where
 top:List AV
 below:List (List AV)
 heap:List aB
def bX:List AV->Nat->AV
 |[],_=>.bJ
 |a::_,0=>a
 |_::l,i+1=>bX l i
def eN:List AV->Nat->AV->List AV
 |[],_,_=>[]
 |_::l,0,v=>v::l
 |a::l,i+1,v=>a::eN l i v
def aH:List aB->Nat->aB
 |[],_=>.gone
 |a::_,0=>a
 |_::l,i+1=>aH l i
def bw:List aB->Nat->aB->List aB
 |[],_,_=>[]
 |_::l,0,v=>v::l
 |a::l,i+1,v=>a::bw l i v
def St.put(s:St)(dst:Option Tmp)(v:AV):St:=
 match dst with
 |some t=>{s with top:=eN s.top t v}
 |none=>s
def YX(k:IntKind)(n:Int):Bool:=decide (k.min<=n)&&decide (n<=k.max)
def bytesOf(s:ByteArray):List Int:=s.data.toList.map fun b=>(b.toNat:Int)
def qd6:Value->AV
 | .bool true=>.tt
 | .bool false=>.ff
 | .int k n=>if YX k n then .d (.int k) n else .bJ
 | .string s=>if s.size<=maxLen then .d .str (bytesOf s) else .bJ
 | .slice none 0 0=>.iX
 | .nilFunc=>.nk
 | .pointer none=>.nq
 |_=>.bJ
def qhM:List Value->List AV
 |[]=>[]
 |v::vs=>qd6 v::qhM vs
def ofV:Value->AV
 | .agg cs=>if cs.toList.all Value.oneCell' then .agg (qhM cs.toList) else .bJ
 |v=>qd6 v
def ev(fr:List AV):Operand->AV
 | .tmp t=>bX fr t
 | .const v=>ofV v
 | .global g=>.Ko g
 | .func f=>.fn f []
def tw(fr:List AV):List Operand->List AV
 |[]=>[]
 |o::os=>ev fr o::tw fr os
mutual
def sub(k:Nat)(r:AV):AV->AV
 | .sl j=>if Nat.beq j k then r else .sl j
 | .tX j sz i=>if Nat.beq j k then .bJ else .tX j sz i
 | .agg cs=>.agg (qS k r cs)
 | .lW cs=>.lW (qS k r cs)
 | .fn f cs=>.fn f (qS k r cs)
 | .xw f cs=>.xw f (qS k r cs)
 | .sv j sz a b=>if Nat.beq j k then .bJ else .sv j sz a b
 | .lI j sz i off=>if Nat.beq j k then .bJ else .lI j sz i off
 |v=>v
def qS(k:Nat)(r:AV):List AV->List AV
 |[]=>[]
 |c::cs=>sub k r c::qS k r cs
end
def Ni(k:Nat)(r:AV):List (List AV)->List (List AV)
 |[]=>[]
 |f::fs=>qS k r f::Ni k r fs
def kg(k:Nat)(r:AV):List aB->List aB
 |[]=>[]
 | .cells cs::h=>.cells (qS k r cs)::kg k r h
 | .loop f p ph ts::h=>.loop f p ph (qS k r ts)::kg k r h
 |b::h=>b::kg k r h
def mM(k:Nat)(r:AV):aB->aB
 | .cells cs=>.cells (qS k r cs)
 | .loop f p ph ts=>.loop f p ph (qS k r ts)
 |b=>b
def St.sub(s:St)(k:Nat)(r:AV):St:={top:=qS k r s.top,below:=Ni k r s.below,heap:=kg k r s.heap}
def St.freeze(s:St)(k:Nat):St:=
 match aH s.heap k with
 | .grow _ e xs=>
  let s':=s.sub k (.d (.arr e) xs)
  {s' with heap:=bw s'.heap k .gone}
 |_=>s
def EJ:AV->List Nat
 | .sl k=>[k]
 |_=>[]
def kX:List AV->List Nat
 |[]=>[]
 |c::cs=>EJ c++kX cs
def refs:AV->List Nat
 | .agg cs=>kX cs
 |v=>EJ v
def cS:List AV->List Nat
 |[]=>[]
 |c::cs=>refs c++cS cs
def mH(l:List AV):Bool:=match cS l with|[]=>true|_=>false
def St.c8(s:St):List Nat->St
 |[]=>s
 |k::ks=>(s.freeze k).c8 ks
def Kp(h:List aB)(t:Ty):AV->Option t.den
 | .d u x=>bR u t x
 | .tt=>match t with| .bool=>some true|_=>none
 | .ff=>match t with| .bool=>some false|_=>none
 | .fs e xs=>bR (.arr e) t xs
 | .iX=>match t with| .arr _=>some []|_=>none
 | .sl k=>match aH h k with
  | .grow _ e xs=>bR (.arr e) t xs
  |_=>none
 | .fn f cs=>match t,cs with
  | .qi,[]=>some f
  |_,_=>none
 |_=>none
def takeN:Nat->List AV->List AV
 |0,_=>[]
 |_,[]=>[]
 |n+1,a::l=>a::takeN n l
def yZ:Nat->List AV->List AV
 |0,l=>l
 |_,[]=>[]
 |n+1,_::l=>yZ n l
def single(h:List aB)(t:Ty)(cs:List AV):Option t.den:=
 match cs with
 |[c]=>Kp h t c
 |_=>none
def Nj(h:List aB)(e:Ty):List AV->Option (List e.den)
 |[]=>some []
 |c::cs=>match Kp h e c with
  |some y=>match Nj h e cs with
   |some ys=>some (y::ys)
   |none=>none
  |none=>none
def Tn:List AV->Nat
 |[]=>0
 |_::l=>Tn l+1
def gw(h:List aB):(t:Ty)->List AV->Option t.den
 | .pair a b,cs=>
  match gw h a (takeN a.cells cs) with
  |some x=>match gw h b (yZ a.cells cs) with
   |some y=>some (x,y)
   |none=>none
  |none=>none
 | .dR a b,cs=>
  match gw h a (takeN a.cells cs) with
  |some x=>match yZ a.cells cs with
   |c::rest=>match Kp h (.arr (.dR a b)) c with
    |some ys=>match gw h b rest with
     |some y=>some (.node (x,y) ys:Rose (a.den×b.den))
     |none=>none
    |none=>none
   |[]=>none
  |none=>none
 | .unit,cs=>match cs with
  |[]=>some ()
  |_=>none
 | .vec n e,cs=>if e.small&&Nat.beq (Tn cs) n then Nj h e cs else none
 | .int k,cs=>single h (.int k) cs
 | .bool,cs=>single h .bool cs
 | .qi,cs=>single h .qi cs
 | .any,cs=>single h .any cs
 | .str,cs=>single h .str cs
 | .arr e,cs=>single h (.arr e) cs
def AZ(h:List aB)(t:Ty):AV->Option t.den
 | .agg cs=>if t.isAgg then gw h t cs else none
 |v=>Kp h t v
def za:(t:Ty)->t.den->(off n:Nat)->Option ((e:Ty)×List e.den)
 | .pair a b,x,off,n=>if Nat.ble (off+n) a.cells then za a x.1 off n else if Nat.ble a.cells off then za b x.2 (off-a.cells) n else none
 | .vec m e,x,off,n=>if Nat.beq off 0&&Nat.beq m n&&e.small then some ⟨e,x⟩ else none
 |_,_,_,_=>none
def IA(h:List aB):AV->AV
 | .yX k off n lo hi=>match aH h k with
  | .dat u x=>match za u x off n with
   |some ⟨e,xs⟩=>.d (.arr e) ((xs.drop lo.toNat).take (hi.toNat-lo.toNat))
   |none=>.yX k off n lo hi
  |_=>.yX k off n lo hi
 |v=>v
def A7(h:List aB):List AV->List AV
 |[]=>[]
 |v::vs=>IA h v::A7 h vs
def To:Ty->Bool
 | .any=>true
 | .pair a b=>To a||To b
 |_=>false
def Nk:Ty->List AV->List AV
 | .pair a b,cs=>Nk a (takeN a.cells cs)++Nk b (yZ a.cells cs)
 | .any,_::cs=>.d .any ()::cs
 |_,cs=>cs
def YY(t:Ty):AV->AV
 | .agg cs=>bif To t then .agg (Nk t cs) else .agg cs
 |v=>v
def rQ:List Ty->List AV->List AV
 |t::ts,v::vs=>YY t v::rQ ts vs
 |_,vs=>vs
def lJ(h:List aB):(ts:List Ty)->List AV->Option (dens ts)
 |[],[]=>some ()
 |[t],[v]=>AZ h t v
 |t::u::ts,v::vs=>
  match AZ h t v with
  |some x=>match lJ h (u::ts) vs with
   |some y=>some (x,y)
   |none=>none
  |none=>none
 |_,_=>none
def outs:(ts:List Ty)->dens ts->List AV
 |[],_=>[]
 |[t],x=>[.d t x]
 |t::u::ts,x=>.d t x.1::outs (u::ts) x.2
def nV(ts:List Ty)(x:dens ts):AV:=
 match outs ts x with
 |[v]=>v
 |vs=>.lW vs
def mN:List Ty->Bool
 |[]=>true
 |t::ts=>t.flat&&mN ts
structure aJ where
 ps:List Ty
 rs:List Ty
 pre:dens ps->Prop
 post:dens ps->dens rs
structure cL where
 ps:List Ty
 tid:TypeId
 e:Ty
 pre:dens ps->Prop
 post:dens ps->List e.den
structure qgH where
 tid:TypeId
 cmp:FuncId
 f:List (Int×Int)->List Int->List Int
structure Cz where
 tid:TypeId
 e:Ty
 cmp:FuncId
 f:List e.den->List e.den
structure jC where
 ps:List Ty
 ys:List Ty
 pre:dens ps->Prop
 items:dens ps->List (tY ys).den
def rps:(ts:List Ty)->dens ts->List AV
 |[],_=>[]
 |[t],x=>[.rp t x]
 |t::u::ts,x=>.rp t x.1::rps (u::ts) x.2
def qd7(t:Ty):AV->Option t.den
 | .rp u x=>bR u t x
 |_=>none
def CA:(ts:List Ty)->List AV->Option (dens ts)
 |[],[]=>some ()
 |[t],[v]=>qd7 t v
 |t::u::ts,v::vs=>match qd7 t v with
  |none=>none
  |some x=>match CA (u::ts) vs with
   |none=>none
   |some y=>some (x,y)
 |_,_=>none
def cL.data(g:cL):aJ:=⟨g.ps,[.arr g.e],g.pre,g.post⟩
inductive LA where
 |slot (i:Nat) (t:Ty)
 |cell (k off:Nat) (t:Ty)
 |dF (i:Nat) (tid:TypeId) (e:Ty)
 |kY (k off:Nat) (tid:TypeId) (e:Ty)
 |keep (k:Nat) (tid:TypeId) (e:Ty)
 |kmp (k:Nat) (e:Ty)
 |kit (k:Nat) (e:Ty)
 |aT (k:Nat) (t:Ty)
 |H7 (k:Nat)
 |nN (i:Nat) (tid:TypeId) (e:Ty)
 |IB (k:Nat)
def LA.ty:LA->Ty
 | .slot _ t| .cell _ _ t=>t
 | .dF _ _ e| .kY _ _ _ e| .keep _ _ e| .nN _ _ e=>.arr e
 | .kmp _ e| .kit _ e=>.arr (.pair (.int .i64) e)
 | .aT _ t=>t
 | .H7 _=>.pair (.int .i64) .str
 | .IB _=>.arr (.pair (.int .i64) (.pair (.int .i64) (.arr .str)))
def jD:List LA->List Ty
 |[]=>[]
 |a::as=>a.ty::jD as
structure kZ where
 ps:List Ty
 rs:List Ty
 A8:List LA
 cap:List AV
 h:dens (jD A8)->List aB
 pre:dens ps->dens (jD A8)->Prop
 post:dens ps->dens (jD A8)->dens rs
 aft:dens ps->dens (jD A8)->dens (jD A8)
structure qgI where
 ps:List Ty
 rs:List Ty
 tid:TypeId
 e:Ty
 pre:dens ps->List e.den->Prop
 post:dens ps->List e.den->dens rs
 aft:dens ps->List e.den->List e.den
structure ua where
 p:Ty
 tid:TypeId
 e:Ty
 pre:p.den->List e.den->List e.den->Prop
 post:p.den->List e.den->List e.den->List e.den
structure qgJ where
 ps:List Ty
 rs:List Ty
 pre:dens ps->Prop
 post:dens ps->dens rs ⊕ (Int×Int)
 qld:Option (dens ps->Int×Int):=none
inductive Mode where
 |split|yes|no|force|all
def Mode.flip:Mode->Mode
 | .yes=>.no
 | .no=>.yes
 |m=>m
def xy(m:Mode)(b:Bool)(p q:Prop):Prop:=
 match m with
 | .split=>(b=true->p)/\(b=false->q)
 | .yes=>b=true/\p
 | .no=>b=false/\q
 | .force=>match b with|true=>p|false=>q
 | .all=>(b=true->p)/\(b=false->q)
theorem eC{m:Mode}{b:Bool}{p q:Prop}(h:xy m b p q):(b=true->p)/\(b=false->q):=by
 cases m<;>cases b<;>simp_all[xy]
structure Hint where
 A8:Nat->List LA
 mode:Nat->Mode
 qgK:Nat->Mode
 CB:Nat->Nat
def Hint.cond(H:Hint):Operand->Mode
 | .tmp t=>H.qgK t
 |_=>.split
structure Ctx where
 P:Program
 spec:FuncId->Option aJ
 hint:FuncId->Hint
 ty:TypeId->Option Ty
 fresh:FuncId->Option cL
 ro:TypeId->Bool
 qgL:FuncId->Option Cz:=fun _=>none
 qle:FuncId->Option cL:=fun _=>none
 Tp:FuncId->Option jC:=fun _=>none
 YZ:FuncId->Option qgH:=fun _=>none
 procs:FuncId->Option kZ:=fun _=>none
 muts:FuncId->Option qgI:=fun _=>none
 qlf:FuncId->Option qgJ:=fun _=>none
 oN:Bool:=true
 pan:Int×Int->Prop:=fun _=>False
 qlg:TypeId:=0
 quiet:FuncId->Bool:=fun _=>false
 qhN:FuncId->Option ua:=fun _=>none
 qgM:FuncId->Option (List Ty×List LA):=fun _=>none
def Ctx.Y2(C:Ctx)(b:Int×Int):Prop:=match C.oN with|true=>False|false=>C.pan b
def Ctx.qgN(C:Ctx):Bool:=Nat.beq ((C.hint 999999994).CB 0) 1
def Ctx.zb(C:Ctx)(t:TypeId):Bool:=Nat.ble 1 ((C.hint 999999995).CB t)
def Ctx.Y3(C:Ctx)(t:TypeId):Bool:=Nat.beq ((C.hint 999999995).CB t) 1
def gA:List Int:=[1116352408,1899447441,3049323471,3921009573,961987163,1508970993,2453635748,2870763221,3624381080,310598401,607225278,1426881987,1925078388,2162078206,2614888103,3248222580,
 3835390401,4022224774,264347078,604807628,770255983,1249150122,1555081692,1996064986,2554220882,2821834349,2952996808,3210313671,3336571891,3584528711,113926993,338241895,
 666307205,773529912,1294757372,1396182291,1695183700,1986661051,2177026350,2456956037,2730485921,2820302411,3259730800,3345764771,3516065817,3600352804,4094571909,275423344,
 430227734,506948616,659060556,883997877,958139571,1322822218,1537002063,1747873779,1955562222,2024104815,2227730452,2361852424,2428436474,2756734187,3204031479,3329325298]
def gIs(P:Program)(g:Nat):Bool:=P.globalNamed "antiquary/hash.constants" ==some g||P.globalNamed "antiquary/antiquaryref02.constants" ==some g
def wsL:List Int:=(List.range 256).map fun c=>if Nat.beq c 32||(Nat.ble 9 c&&Nat.ble c 13) then 1 else 0
def qlh(P:Program)(g:Nat):Bool:=P.globalNamed "strings.asciiSpace" ==some g
def Ctx.lay(C:Ctx)(t:TypeId):Option (Bool×Nat):=
 match C.P.info? t with
 |none=>none
 |some i=>match C.P.underlying t with
  |some (.struct _)=>some (true,i.size)
  |some (.array _ _)=>some (true,i.size)
  |some _=>if Nat.beq i.size 1 then some (false,1) else none
  |none=>none
def Ctx.size(C:Ctx)(t:TypeId):Option Nat:=
 match C.P.info? t with
 |some i=>some i.size
 |none=>none
def Ctx.zero(C:Ctx)(t:TypeId):Option AV:=
 match C.P.info? t with
 |some i=>match i.zero with
  |some v=>some (ofV v)
  |none=>none
 |none=>none
mutual
def qD(P:Program):Ty->TypeId->Bool
 | .int k,t=>match P.underlying t with|some (.int k')=>decide (k'=k)|_=>false
 | .bool,t=>match P.underlying t with|some .bool=>true|_=>false
 | .str,t=>match P.underlying t with|some .string=>true|_=>false
 | .arr e,t=>match P.underlying t with
  |some (.slice et)=>Nat.beq (P.cellsOf et) e.cells&&Nat.ble 1 e.cells&&qD P e et
  |_=>false
 | .vec n e,t=>match P.underlying t with
  |some (.array m et)=>Nat.beq m n&&Nat.beq (P.cellsOf et) e.cells&&Nat.beq (P.cellsOf t) (n*e.cells)&&qD P e et
  |_=>false
 | .unit,_=>false
 | .qi,_=>false
 | .any,_=>false
 | .dR a b,t=>match P.underlying t with
  |some (.struct fs)=>Nat.beq (P.cellsOf t) (a.cells+1+b.cells)&&Tq P a fs.toList 0 (fun fs off=>match fs with
   |f::fs=>Nat.beq f.offset off&&Nat.beq (P.cellsOf f.type) 1&&(match P.underlying f.type with
    |some (.slice et)=>Nat.beq et t
    |_=>false)&&okF P b fs (off+1)
   |[]=>false)
  |_=>false
 | .pair a b,t=>match P.underlying t with
  |some (.struct fs)=>match fs.toList with
   |f::fs=>Nat.beq (P.cellsOf t) (a.cells+b.cells)&&Nat.beq f.offset 0&&Nat.beq (P.cellsOf f.type) a.cells&&qD P a f.type&&okF P b fs a.cells
   |[]=>false
  |_=>false
def Tq(P:Program):Ty->List Field->Nat->(List Field->Nat->Bool)->Bool
 | .pair a b,fs,off,k=>match fs with
  |f::fs=>Nat.beq f.offset off&&Nat.beq (P.cellsOf f.type) a.cells&&qD P a f.type&&Tq P b fs (off+a.cells) k
  |[]=>false
 | .unit,fs,off,k=>k fs off
 |_,_,_,_=>false
def okF(P:Program):Ty->List Field->Nat->Bool
 | .pair a b,fs,off=>match fs with
  |f::fs=>Nat.beq f.offset off&&Nat.beq (P.cellsOf f.type) a.cells&&qD P a f.type&&okF P b fs (off+a.cells)
  |[]=>false
 | .unit,fs,_=>match fs with|[]=>true|_=>false
 |_,_,_=>false
end
def Qj(P:Program):List Ty->List TypeId->Bool
 |[],[]=>true
 |a::as,t::ts=>qD P a t&&Qj P as ts
 |_,_=>false
def e9:Ty->Bool
 | .int _| .bool| .str| .unit=>true
 | .vec _ (.int _)=>true
 | .pair a b=>e9 a&&e9 b
 |_=>false
def Qk:(t:Ty)->t.den->t.den->Bool
 | .int _,x,y=>decide ((x:Int)=y)
 | .bool,x,y=>x==y
 | .str,x,y=>decide ((x:List Int)=y)
 | .vec _ (.int _),x,y=>decide ((x:List Int)=y)
 | .pair a b,x,y=>Qk a x.1 y.1&&Qk b x.2 y.2
 | .unit,_,_=>true
 |_,_,_=>false
structure Out where
 need:Option Prop
 v:AV
 heap:List aB
 kill:Option Nat
def cellsOf:AV->Option (List AV)
 | .agg cs=>some cs
 | .bJ| .lO| .lW _=>none
 | .sl k=>some [.sl k]
 | .d t x=>if t.isAgg then none else some [.d t x]
 |v=>some [v]
def EK(e:Ty)(xs:List e.den):Nat->Nat->List AV
 |_,0=>[]
 |i,m+1=>.d e (xs.getD i (dflt e))::EK e xs (i+1) m
def jH:(t:Ty)->t.den->Option (List AV)
 | .pair a b,x=>
  match jH a x.1 with
  |some l=>match jH b x.2 with
   |some m=>some (l++m)
   |none=>none
  |none=>none
 | .unit,_=>some []
 | .dR a b,x=>
  match jH a (x:Rose (a.den×b.den)).val.1 with
  |some l=>match jH b (x:Rose (a.den×b.den)).val.2 with
   |some m=>some (l++ .d (.arr (.dR a b)) (x:Rose (a.den×b.den)).aN::m)
   |none=>none
  |none=>none
 | .vec n e,x=>if e.small then some (EK e x 0 n) else none
 |t,x=>some [.d t x]
def bC:AV->Option (List AV)
 | .d t x=>jH t x
 |v=>cellsOf v
def Nl:(t:Ty)->t.den->(off sz:Nat)->(ag:Bool)->Option AV
 | .pair a b,x,off,sz,ag=>
  if Nat.beq off 0&&Nat.beq (a.cells+b.cells) sz&&ag then some (.d (.pair a b) x)
  else if Nat.ble (off+sz) a.cells then Nl a x.1 off sz ag
  else if Nat.ble a.cells off then Nl b x.2 (off-a.cells) sz ag
  else none
 | .dR a b,x,off,sz,ag=>
  if Nat.beq off 0&&Nat.beq (a.cells+1+b.cells) sz&&ag then some (.d (.dR a b) x)
  else if Nat.ble (off+sz) a.cells then Nl a (x:Rose (a.den×b.den)).val.1 off sz ag
  else if Nat.beq off a.cells&&Nat.beq sz 1&& !ag then some (.d (.arr (.dR a b)) (x:Rose (a.den×b.den)).aN)
  else if Nat.ble (a.cells+1) off then Nl b (x:Rose (a.den×b.den)).val.2 (off-(a.cells+1)) sz ag
  else none
 |t,x,off,sz,ag=>if Nat.beq off 0&&Nat.beq t.cells sz&&(t.isAgg==ag) then some (.d t x) else none
def Y4(off:Nat):AV->AV
 | .d (.pair a .unit) x=>bif Nat.ble 1 off&&a.isAgg then .d a x.1 else .d (.pair a .unit) x
 |v=>v
def Ql(t:Ty)(x:t.den)(off sz:Nat)(ag:Bool):Option AV:=
 match Nl t x off sz ag with
 |some v=>some (Y4 off v)
 |none=>none
def Nn:(t:Ty)->t.den->(off sz:Nat)->(ag:Bool)->Option AV
 | .pair a b,x,off,sz,ag=>match Ql (.pair a b) x off sz ag with
  |some v=>some v
  |none=>if Nat.ble (off+sz) a.cells then Nn a x.1 off sz ag else if Nat.ble a.cells off then Nn b x.2 (off-a.cells) sz ag else none
 | .vec n e,x,off,sz,ag=>match Ql (.vec n e) x off sz ag with
  |some v=>some v
  |none=>if e.small&&Nat.ble (off+sz) n then (bif ag then some (.d (.vec sz e) ((x.drop off).take sz)) else bif Nat.beq sz 1 then some (.d e (x.getD off (dflt e))) else none) else none
 |t,x,off,sz,ag=>Ql t x off sz ag
def Qm:(t:Ty)->t.den->(off n:Nat)->(e:Ty)->List e.den->Option t.den
 | .pair a b,x,off,n,e,ys=>
  if Nat.ble (off+n) a.cells then match Qm a x.1 off n e ys with
   |some y=>some (y,x.2)
   |none=>none
  else if Nat.ble a.cells off then match Qm b x.2 (off-a.cells) n e ys with
   |some y=>some (x.1,y)
   |none=>none
  else none
 | .vec m e',x,off,n,e,ys=>if Nat.beq off 0&&Nat.beq m n&&e.small then bR (.arr e) (.arr e') ys else none
 |_,_,_,_,_,_=>none
def DB:(t:Ty)->t.den->(off sz:Nat)->List aB->AV->Option t.den
 | .pair a b,x,off,sz,h,v=>
  match (if Nat.beq off 0&&Nat.beq (a.cells+b.cells) sz then AZ h (.pair a b) v else none) with
  |some y=>some y
  |none=>
  if Nat.ble (off+sz) a.cells then match DB a x.1 off sz h v with
   |some y=>some (y,x.2)
   |none=>none
  else if Nat.ble a.cells off then match DB b x.2 (off-a.cells) sz h v with
   |some y=>some (x.1,y)
   |none=>none
  else none
 | .vec n e,x,off,sz,h,v=>
  if Nat.beq off 0&&Nat.beq (n*e.cells) sz then AZ h (.vec n e) v
  else if e.small&&Nat.beq sz 1&&Nat.ble (off+1) n then match AZ h e v with
   |some y=>some (x.set off y)
   |none=>none
  else none
 |t,x,off,sz,h,v=>if Nat.beq off 0&&Nat.beq t.cells sz then AZ h t v else none
def dg:List AV->Nat
 |[]=>0
 |_::l=>dg l+1
def hlen:List aB->Nat
 |[]=>0
 |_::l=>hlen l+1
def setCells:List AV->Nat->List AV->List AV
 |cs,_,[]=>cs
 |cs,off,v::vs=>setCells (eN cs off v) (off+1) vs
def aa(n:Int):Prop:=-9223372036854775808<=n/\n<=9223372036854775807
def fY(b:Bool):AV:=.d .bool b
def asB:AV->Option Bool
 | .tt=>some true
 | .ff=>some false
 | .d .bool b=>some b
 |_=>none
def iH(h:List aB)(v:AV):Option Out:=some ⟨none,v,h,none⟩
def AP(h:List aB)(p:Prop)(v:AV):Option Out:=some ⟨some p,v,h,none⟩
def arith(wr:Bool)(h:List aB)(k:IntKind)(n:Int):Option Out:=
 match k with
 | .i64=>(match wr with
  |true=>iH h (.d (.int .i64) (IntKind.i64.wrap n))
  |false=>AP h (aa n) (.d (.int .i64) n))
 |k=>iH h (.d (.int k) (k.wrap n))
def aK(op:BinOp)(k:IntKind)(a b:Int):Int:=
 match op with
 | .and=>k.wrap (BitVec.ofInt k.bits a&&&BitVec.ofInt k.bits b).toNat
 | .or=>k.wrap (BitVec.ofInt k.bits a|||BitVec.ofInt k.bits b).toNat
 | .xor=>k.wrap (BitVec.ofInt k.bits a ^^^ BitVec.ofInt k.bits b).toNat
 |_=>k.wrap (BitVec.ofInt k.bits a&&& ~~~(BitVec.ofInt k.bits b)).toNat
def Vd(wr:Bool)(h:List aB)(op:BinOp)(k k':IntKind)(a b:Int):Option Out:=
 match op with
 | .shl=>match k with
  | .i64=>AP h (0<=b/\b<=63/\aa (a*2 ^ b.toNat)) (.d (.int .i64) (a*2 ^ b.toNat))
  |k=>AP h (0<=b/\b<=k.bits) (.d (.int k) (k.wrap (a*2 ^ b.toNat)))
 | .shr=>AP h (0<=b/\b<=k.bits) (.d (.int k) (a / 2 ^ b.toNat))
 |op=>if k=k' then
  match op with
  | .add=>arith wr h k (a+b)
  | .sub=>arith wr h k (a-b)
  | .mul=>arith wr h k (a*b)
  | .quo=>match k with
   | .i64=>AP h (b≠0/\aa (a.tdiv b)) (.d (.int .i64) (a.tdiv b))
   |k=>AP h (b≠0) (.d (.int k) (k.wrap (a.tdiv b)))
  | .rem=>AP h (b≠0) (.d (.int k) (a.tmod b))
  | .and=>iH h (.d (.int k) (aK .and k a b))
  | .or=>iH h (.d (.int k) (aK .or k a b))
  | .xor=>iH h (.d (.int k) (aK .xor k a b))
  | .andNot=>iH h (.d (.int k) (aK .andNot k a b))
  | .eql=>iH h (fY (decide (a=b)))
  | .neq=>iH h (fY (!decide (a=b)))
  | .lss=>iH h (fY (decide (a<b)))
  | .leq=>iH h (fY (decide (a<=b)))
  | .gtr=>iH h (fY (decide (b<a)))
  | .geq=>iH h (fY (decide (b<=a)))
  |_=>none
  else none
def Kq(C:Ctx)(t:TypeId):Bool:=
 match C.P.underlying t with
 |some .bool=>true
 |_=>false
def DU(C:Ctx)(t:TypeId):Bool:=
 match C.P.underlying t with
 |some (.func _ _ _)=>true
 |_=>false
def Kr(C:Ctx)(t:TypeId):Bool:=
 match C.P.underlying t with
 |some (.pointer _)=>true
 |_=>false
def Ve(h:List aB)(op:BinOp)(b:Bool):Option Out:=
 match op with
 | .eql=>iH h (bif b then .tt else .ff)
 | .neq=>iH h (bif b then .ff else .tt)
 |_=>none
def strLt:List Int->List Int->Bool
 |[],[]=>false
 |[],_::_=>true
 |_::_,[]=>false
 |a::l,b::m=>decide (a<b)||(decide (a=b)&&strLt l m)
def qhO(C:Ctx)(h:List aB)(op:BinOp)(xt:TypeId)(x y:AV):Option Out:=
 match x,y with
 | .d (.int k) a,.d (.int k') b=>Vd C.qgN h op k k' a b
 | .d .str a,.d .str b=>
  match op with
  | .eql=>iH h (fY (decide (a=b)))
  | .neq=>iH h (fY (!decide (a=b)))
  | .lss=>iH h (fY (strLt a b))
  | .gtr=>iH h (fY (!(strLt a b||decide (a=b))))
  | .leq=>iH h (fY (strLt a b||decide (a=b)))
  | .geq=>iH h (fY (!strLt a b))
  | .add=>AP h (a.length+b.length<=9223372036854775807) (.d .str (a++b))
  |_=>none
 | .fn _ _,.nk=>if DU C xt then Ve h op false else none
 | .nk,.nk=>if DU C xt then Ve h op true else none
 | .own _ _,.nq=>if Kr C xt then Ve h op false else none
 | .nq,.nq=>if Kr C xt then Ve h op true else none
 |x,y=>
  if Kq C xt then
   match asB x,asB y,op with
   |some a,some b,.eql=>iH h (fY (a==b))
   |some a,some b,.neq=>iH h (fY (a !=b))
   |_,_,_=>none
  else none
def zc(C:Ctx)(h:List aB)(op:BinOp)(xt:TypeId)(x y:AV):Option Out:=
 match C.ty xt with
 |some ty=>if ty.isAgg&&e9 ty&&qD C.P ty xt&&C.P.keyTypeAt 100 xt&& !(C.P.eqGuardType C.P.depth xt)&&mH [x,y] then
  match AZ h ty x,AZ h ty y with
  |some a,some b=>match op with
   | .eql=>iH h (fY (Qk ty a b))
   | .neq=>iH h (fY (!Qk ty a b))
   |_=>none
  |_,_=>none
  else none
 |none=>none
def aun(h:List aB)(op:UnOp)(x:AV):Option Out:=
 match op,x with
 | .not,.tt=>iH h .ff
 | .not,.ff=>iH h .tt
 | .not,.d .bool b=>iH h (fY (!b))
 | .neg,.d (.int k) n=>arith false h k (0-n)
 | .xor,.d (.int k) n=>iH h (.d (.int k) (aK .xor k (if k.signed then-1 else k.max) n))
 |_,_=>none
def iR(h:List aB):AV->Option ((e:Ty)×List e.den)
 | .d (.arr e) xs=>some ⟨e,xs⟩
 | .fs e xs=>some ⟨e,xs⟩
 | .sl k=>match aH h k with
  | .grow _ e xs=>some ⟨e,xs⟩
  |_=>none
 |_=>none
def qhP(C:Ctx)(h:List aB)(t:TypeId)(x:AV):Option Out:=
 match C.P.underlying t,x with
 |some .string,.d .str l=>iH h (.d (.int .i64) (l.length:Int))
 |some (.slice _),.iX=>iH h (.d (.int .i64) (0:Int))
 |some (.slice _),.DT _ n=>iH h (.d (.int .i64) (n:Int))
 |some (.slice _),.yX _ _ _ lo hi=>iH h (.d (.int .i64) (hi-lo))
 |some (.slice _),x=>match iR h x with
  |some ⟨_,xs⟩=>iH h (.d (.int .i64) (xs.length:Int))
  |none=>none
 |some (.map _ _),.sl k=>match aH h k with
  | .dmap _ mm=>some ⟨some ((mm.length:Int)<=9223372036854775807),.d (.int .i64) (mm.length:Int),h,none⟩
  |_=>none
 |_,_=>none
def rR(k:IntKind):List AV->Int->Option Int
 |[],n=>some n
 | .d (.int k') m::l,n=>if k'=k then rR k l (min n m) else none
 |_,_=>none
def rS(k:IntKind):List AV->Int->Option Int
 |[],n=>some n
 | .d (.int k') m::l,n=>if k'=k then rS k l (max n m) else none
 |_,_=>none
def uc(C:Ctx)(h:List aB)(e:Ty)(t:TypeId)(y:AV):Option (List e.den):=
 match C.P.underlying t,y with
 |some (.slice _),.iX=>some []
 |some .string,.d .str l=>bR (.arr (.int .u8)) (.arr e) l
 |some (.slice _),x=>match iR h x with
  |some ⟨u,xs⟩=>bR (.arr u) (.arr e) xs
  |none=>none
 |_,_=>none
def elemOf(C:Ctx)(t:TypeId):Option TypeId:=
 match C.P.underlying t with
 |some (.slice e)=>some e
 |_=>none
def qE(e:Ty)(z:AV):Bool:=
 match bC z with
 |some l=>Nat.beq (dg l) e.cells
 |none=>false
def aM(C:Ctx)(tid:TypeId)(n:Nat):Prop:=n*(C.P.bytesOf tid)<=140737488355328/\n<=9223372036854775807
def Ctx.vp(C:Ctx):Bool:=Nat.beq ((C.hint 999999999).CB 0) 77
def IC(C:Ctx)(h:List aB)(tx tid:TypeId)(sz:Nat)(z:AV)(x y:AV):Option Out:=
 match x with
 | .iX=>
  match C.ty tid with
  |none=>none
  |some e=>
  match uc C h e tx y with
  |some ys=>if Nat.beq e.cells sz&&qE e z then some ⟨some (aM C tid ys.length),.sl (hlen h),h++[.grow tid e ys],none⟩ else none
  |none=>none
 | .sl k=>
  match aH h k with
  | .grow tid' e xs=>
   match uc C h e tx y with
   |some ys=>
    if Nat.beq tid tid'&&Nat.beq e.cells sz&&qE e z then
     some ⟨some (aM C tid (xs.length+ys.length)),.sl k,bw h k (.grow tid e (xs++ys)),some k⟩
    else none
   |none=>none
  |_=>none
 | .fs e xs=>
  match uc C h e tx y with
  |some ys=>
   if Nat.beq e.cells sz&&qE e z then
    bif C.vp then
     match ys with
     |[]=>some ⟨none,.fs e xs,h,none⟩
     |y::ys=>some ⟨some (aM C tid (xs.length+(y::ys).length)),.sl (hlen h),h++[.grow tid e (xs++y::ys)],none⟩
    else match xs,ys with
    |[],ys=>some ⟨some (aM C tid ys.length),.sl (hlen h),h++[.grow tid e ys],none⟩
    |x::xs,y::ys=>some ⟨some (aM C tid ((x::xs).length+(y::ys).length)),.sl (hlen h),h++[.grow tid e (x::xs++y::ys)],none⟩
    |_::_,[]=>none
   else none
  |none=>none
 |_=>none
def Ks(C:Ctx)(h:List aB)(t tx:TypeId)(x y:AV):Option Out:=
 match elemOf C t with
 |none=>none
 |some tid=>
  match C.size tid,C.zero tid with
  |some sz,some z=>IC C h tx tid sz z x y
  |_,_=>none
def rT(low high max:Option AV):Option (Int×Option Int×Option Int):=
 match low,high,max with
 |none,none,none=>some (0,none,none)
 |some (.d (.int _) l),none,none=>some (l,none,none)
 |none,some (.d (.int _) n),none=>some (0,some n,none)
 |some (.d (.int _) l),some (.d (.int _) n),none=>some (l,some n,none)
 |none,some (.d (.int _) n),some (.d (.int _) m)=>some (0,some n,some m)
 |some (.d (.int _) l),some (.d (.int _) n),some (.d (.int _) m)=>some (l,some n,some m)
 |_,_,_=>none
def arrayOf(C:Ctx)(t:TypeId):Option (Nat×TypeId):=
 match C.P.underlying t with
 |some (.array n e)=>some (n,e)
 |_=>none
def A9(C:Ctx)(h:List aB)(t:TypeId)(x:AV)(low high max:Option AV):Option Out:=
 match arrayOf C t,low,high,max with
 |some (n,et),none,none,none=>match C.size et,x with
  |some sz,.rp (.vec m e) xs=>if Nat.beq e.cells sz&&Nat.beq m n&&Nat.ble n 16777216 then iH h (.fs e xs) else none
  |_,_=>none
 |_,_,_,_=>none
def vq(C:Ctx)(h:List aB)(t:TypeId)(x:AV)(low high max:Option AV):Option Out:=
 match rT low high max with
 |none=>none
 |some (l,hi,mx)=>
  match C.P.underlying t,x with
  |some .string,.d .str s=>
   match hi,mx with
   |none,none=>AP h (0<=l/\l<=s.length) (.d .str (s.drop l.toNat))
   |some n,none=>AP h (0<=l/\l<=n/\n<=s.length) (.d .str ((s.drop l.toNat).take (n.toNat-l.toNat)))
   |_,_=>none
  |some (.slice _),.sl _=>none
  |some (.slice tid),x=>
   match iR h x,C.size tid with
   |some ⟨e,xs⟩,some sz=>
    if Nat.beq sz e.cells then
     match hi,mx with
     |none,none=>AP h (0<=l/\l<=xs.length) (.d (.arr e) ((xs.drop l.toNat).take (xs.length-l.toNat)))
     |some n,none=>AP h (0<=l/\l<=n/\n<=xs.length) (.d (.arr e) ((xs.drop l.toNat).take (n.toNat-l.toNat)))
     |some n,some m=>AP h (0<=l/\l<=n/\n<=xs.length/\m=n) (.fs e ((xs.drop l.toNat).take (n.toNat-l.toNat)))
     |_,_=>none
    else none
   |_,_=>none
  |_,_=>none
def Ctx.views(C:Ctx):Bool:=Nat.beq ((C.hint 999999999).CB 1) 1
def nO(n:Nat):Option Int->Int
 |none=>n
 |some i=>i
def Kt(C:Ctx)(h:List aB)(t:TypeId)(k:Nat)(low high max:Option AV):Option Out:=
 match rT low high max with
 |some (l,hi,none)=>
  match C.P.underlying t,aH h k with
  |some (.slice tid),.grow _ e xs=>match C.size tid with
   |some sz=>if Nat.beq sz e.cells then AP h (0<=l/\l<=nO xs.length hi/\nO xs.length hi<=xs.length/\l<xs.length) (.sv k sz l (nO xs.length hi)) else none
   |none=>none
  |_,_=>none
 |_=>none
def Ku(C:Ctx)(h:List aB)(t:TypeId)(k off:Nat)(low high max:Option AV):Option Out:=
 match arrayOf C t,rT low high max with
 |some (n,et),some (l,hi,none)=>match C.size et with
  |some sz=>if C.zb t&&Nat.beq sz 1&&Nat.ble n 16777216 then AP h (0<=l/\l<=nO n hi/\nO n hi<=n/\l<n) (.yX k off n l (nO n hi)) else none
  |none=>none
 |_,_=>none
def EL(C:Ctx)(h:List aB)(t:TypeId)(x:AV)(low high max:Option AV):Option Out:=
 match x with
 | .own k off=>Ku C h t k off low high max
 | .rp _ _=>A9 C h t x low high max
 | .sl k=>bif C.views then Kt C h t k low high max else vq C h t (.sl k) low high max
 |x=>vq C h t x low high max
def Y5(h:List aB):AV->Option ((e:Ty)×List e.den)
 | .sv k sz lo hi=>match aH h k with
  | .grow _ e xs=>if Nat.beq sz 1 then some ⟨e,(xs.drop lo.toNat).take (hi.toNat-lo.toNat)⟩ else none
  |_=>none
 |x=>iR h x
def qgO(h:List aB):AV->Option (Nat×Int×Int)
 | .sl k=>match aH h k with
  | .grow _ _ xs=>some (k,0,xs.length)
  |_=>none
 | .sv k sz lo hi=>if Nat.beq sz 1 then some (k,lo,hi) else none
 |_=>none
def Y6(h:List aB)(k off n:Nat)(lo hi:Int)(l:List Int):Option Out:=
 match aH h k with
 | .dat u x=>match za u x off n with
  |some ⟨e,xs⟩=>match bR (.arr (.int .u8)) (.arr e) l with
   |some ys=>match Qm u x off n e (xs.take lo.toNat++ys.take (min (hi.toNat-lo.toNat) ys.length)++xs.drop (lo.toNat+min (hi.toNat-lo.toNat) ys.length)) with
    |some x'=>some ⟨none,.d (.int .i64) ((min (hi.toNat-lo.toNat) ys.length:Nat):Int),bw h k (.dat u x'),none⟩
    |none=>none
   |none=>none
  |none=>none
 |_=>none
def Qn(C:Ctx)(h:List aB)(t:TypeId)(x y:AV):Option Out:=
 match elemOf C t,qgO h x,Y5 h y with
 |some tid,some (k,lo,hi),some ⟨u,Nc⟩=>
  match C.size tid,aH h k with
  |some sz,.grow tid' e xs=>
   match bR (.arr u) (.arr e) Nc with
   |some ys=>
    if Nat.beq sz 1&&Nat.beq e.cells 1 then
     some ⟨some (0<xs.length/\0<ys.length/\0<=lo/\lo<=hi/\hi<=xs.length),.d (.int .i64) ((min (hi.toNat-lo.toNat) ys.length:Nat):Int),
      bw h k (.grow tid' e (xs.take lo.toNat++ys.take (min (hi.toNat-lo.toNat) ys.length)++xs.drop (lo.toNat+min (hi.toNat-lo.toNat) ys.length))),none⟩
    else none
   |none=>none
  |_,_=>none
 |_,_,_=>none
def Qo(C:Ctx)(h:List aB)(t:TypeId)(x y:AV):Option Out:=
 match x,y with
 | .yX k off n lo hi,.d .str l=>match elemOf C t with
  |some tid=>match C.size tid with
   |some sz=>if Nat.beq sz 1 then Y6 h k off n lo hi l else none
   |none=>none
  |none=>none
 |_,_=>none
def Y7(C:Ctx)(h:List aB)(t:TypeId)(x y:AV):Option Out:=
 match Qo C h t x y with
 |some r=>some r
 |none=>Qn C h t x y
def ld(C:Ctx)(h:List aB)(b:Builtin)(ts:List TypeId)(args:List AV):Option Out:=
 match b,args with
 | .len,[x]=>match ts with|[t]=>qhP C h t x|_=>none
 | .min,.d (.int kd) n::l=>match rR kd l n with|some m=>iH h (.d (.int kd) m)|none=>none
 | .max,.d (.int kd) n::l=>match rS kd l n with|some m=>iH h (.d (.int kd) m)|none=>none
 | .append,[x,y]=>match ts with|[t,tx]=>Ks C h t tx x y|_=>none
 | .copy,[x,y]=>match ts with|[t,_]=>Y7 C h t x y|_=>none
 |_,_=>none
def partsOf(e:Ty)(h:List aB):List AV->Option (List e.den)
 |[]=>some []
 |v::vs=>match AZ h e v with
  |some x=>match partsOf e h vs with
   |some xs=>some (x::xs)
   |none=>none
  |none=>none
def ze:Nat->List (Nat×Operand)->Bool
 |_,[]=>true
 |n,(i,_)::l=>Nat.beq i n&&ze (n+1) l
def seconds:List (Nat×Operand)->List Operand
 |[]=>[]
 |(_,o)::l=>o::seconds l
def ID(place:Nat->Option (Nat×Nat))(cs:List AV):List (Nat×AV)->Option (List AV)
 |[]=>some cs
 |(i,v)::rest=>
  match place i with
  |none=>none
  |some (off,size)=>
   match bC v with
   |none=>none
   |some l=>if Nat.beq (dg l) size&&Nat.ble (off+size) (dg cs) then ID place (setCells cs off l) rest else none
def DW(fr:List AV):List (Nat×Operand)->List (Nat×AV)
 |[]=>[]
 |(i,o)::l=>(i,ev fr o)::DW fr l
def EM(fr:List AV):Option Operand->Option AV
 |none=>none
 |some o=>some (ev fr o)
def DX(C:Ctx)(t:TypeId)(f:Nat):Option Field:=
 match C.P.underlying t with
 |some (.struct fs)=>fs[f]?
 |_=>none
def zf(C:Ctx)(t:TypeId)(cs:List AV)(off:Nat):Option AV:=
 match C.lay t with
 |some (true,sz)=>if Nat.ble (off+sz) (dg cs) then some (.agg (takeN sz (yZ off cs))) else none
 |some (false,_)=>if Nat.ble (off+1) (dg cs) then some (bX cs off) else none
 |none=>none
def placesOf(C:Ctx)(fs:List Field):Option (List (Nat×Nat)):=fs.mapM fun f=>(C.P.info? f.type).map fun i=>(f.offset,i.size)
def CC(C:Ctx)(h:List aB)(t:TypeId)(x:AV):Option Out:=
 match x with
 | .own k off=>match aH h k with
  | .cells cs=>match zf C t cs off with
   |some v=>iH h v
   |none=>none
  | .dat u x=>match C.lay t with
   |some (ag,n)=>match Nn u x off n ag with
    |some v=>iH h v
    |none=>none
   |none=>none
  |_=>none
 | .DS k off m i=>match aH h k,C.lay t with
  | .dat u x,some (false,_)=>match za u x off m with
   |some ⟨e,xs⟩=>iH h (.d e (xs.getD i.toNat (dflt e)))
   |none=>none
  |_,_=>none
 | .Ko g=>match C.lay t with
  |some (true,n)=>if Nat.beq n 64&&gIs C.P g then iH h (.d (.vec 64 (.int .u32)) gA) else none
  |_=>none
 | .lI k sz i off=>match aH h k with
  | .grow _ e xs=>match C.lay t with
   |some (ag,n)=>if Nat.beq sz e.cells then match Nn e (xs.getD i.toNat (dflt e)) off n ag with
    |some v=>iH h v
    |none=>none
    else none
   |none=>none
  |_=>none
 | .tX k sz i=>match aH h k with
  | .grow _ e xs=>match C.lay t with
   |some (ag,n)=>if Nat.beq n e.cells&&Nat.beq n sz&&(ag==e.isAgg) then iH h (.d e (xs.getD i.toNat (dflt e))) else none
   |none=>none
  |_=>none
 | .rp u x=>match C.lay t with
  |some (ag,n)=>if Nat.beq n u.cells&&(ag==u.isAgg) then iH h (.d u x) else none
  |none=>none
 |_=>none
def gB(l:List AV):Bool:=match cS l with|[]=>true|_=>false
def Y8(h:List aB)(c a b:AV):Option Out:=
 match c with
 | .tt=>iH h a
 | .ff=>iH h b
 | .d .bool x=>match asB a,asB b with
  |some y,some z=>iH h (fY (bif x then y else z))
  |_,_=>none
 |_=>none
def Qp(C:Ctx)(h:List aB)(t:TypeId)(parts:List (Nat×AV)):Option Out:=
 match C.P.underlying t with
 |some (.struct fs)=>
  match C.zero t,placesOf C fs.toList with
  |some (.agg zs),some ps=>
   match ID (fun i=>ps.toArray[i]?) zs parts with
   |some cs=>iH h (.agg cs)
   |none=>none
  |_,_=>none
 |some (.array _ et)=>
  match C.zero t,C.size et with
  |some (.agg zs),some sz=>
   match ID (fun i=>some (i*sz,sz)) zs parts with
   |some cs=>iH h (.agg cs)
   |none=>none
  |_,_=>none
 |_=>none
def iY(C:Ctx)(h:List aB)(t:TypeId)(len:Nat)(parts:List (Nat×Operand))(vs:List AV):Option Out:=
 match elemOf C t with
 |some tid=>match C.ty tid,C.size tid with
  |some e,some sz=>
   if Nat.beq e.cells sz&&ze 0 parts&&Nat.beq (dg vs) len&&Nat.ble (len*sz) 16777216&&Nat.ble len 16777216&&gB vs then
    match partsOf e h vs,C.zero tid with
    |some xs,some _=>iH h (.fs e xs)
    |_,_=>none
   else none
  |_,_=>none
 |none=>none
def lX:List AV->Nat->Option (List AV)
 |[],_=>some []
 | .agg l::vs,sz=>match lX vs sz with
  |some m=>if Nat.beq (dg l) sz then some (l++m) else none
  |none=>none
 |_::_,_=>none
def qhQ(C:Ctx)(h:List aB)(t:TypeId)(len:Nat)(parts:List (Nat×Operand))(vs:List AV):Option Out:=
 match elemOf C t with
 |some tid=>match C.size tid,C.zero tid with
  |some sz,some _=>if ze 0 parts&&Nat.beq (dg vs) len&&Nat.ble (len*sz) 16777216&&Nat.ble len 16777216&&Nat.ble 1 len&&Nat.ble 1 sz then match lX vs sz with
   |some cs=>some ⟨none,.DT (hlen h) len,h++[.cells cs],none⟩
   |none=>none
   else none
  |_,_=>none
 |none=>none
def nr(C:Ctx)(h:List aB)(t:TypeId)(a x:AV):Option Out:=
 match a with
 | .own k off=>match aH h k with
  | .cells cs=>match bC x,C.size t with
   |some l,some sz=>if Nat.beq (dg l) sz&&Nat.ble (off+sz) (dg cs) then some ⟨none,.lO,bw h k (.cells (setCells cs off l)),none⟩ else none
   |_,_=>none
  | .dat u y=>match C.size t with
   |some sz=>if gB [x] then match DB u y off sz h x with
    |some z=>some ⟨none,.lO,bw h k (.dat u z),none⟩
    |none=>none
    else none
   |none=>none
  |_=>none
 | .DS k off m i=>match aH h k with
  | .dat u y=>match C.size t,za u y off m with
   |some sz,some ⟨e,xs⟩=>if Nat.beq sz 1&&gB [x] then match AZ h e x with
    |some z=>match Qm u y off m e (xs.set i.toNat z) with
     |some y'=>some ⟨none,.lO,bw h k (.dat u y'),none⟩
     |none=>none
    |none=>none
    else none
   |_,_=>none
  |_=>none
 | .lI k sz i off=>match aH h k with
  | .grow tid e xs=>match C.size t with
   |some n=>if Nat.beq sz e.cells&&gB [x] then match DB e (xs.getD i.toNat (dflt e)) off n h x with
    |some y=>some ⟨none,.lO,bw h k (.grow tid e (xs.set i.toNat y)),none⟩
    |none=>none
    else none
   |none=>none
  |_=>none
 | .tX k sz i=>match aH h k with
  | .grow tid e xs=>match AZ h e x,C.size t with
   |some y,some n=>if Nat.beq n e.cells&&Nat.beq n sz&&gB [x] then some ⟨none,.lO,bw h k (.grow tid e (xs.set i.toNat y)),none⟩ else none
   |_,_=>none
  |_=>none
 |_=>none
def qhR(h:List aB)(x:AV):Option Out:=
 match x with
 | .own k off=>iH h (.own k off)
 | .rp t x=>iH h (.rp t x)
 | .tX k sz i=>iH h (.tX k sz i)
 | .DS k off n i=>iH h (.DS k off n i)
 | .lI k sz i off=>iH h (.lI k sz i off)
 |_=>none
def qT(C:Ctx)(h:List aB)(src dst:TypeId)(x:AV):Option Out:=
 match C.P.underlying src,C.P.underlying dst with
 |some (.int _),some (.int k)=>match x with
  | .d (.int j) n=>
   match k,j with
   | .i64,.i64=>iH h (.d (.int .i64) n)
   |k,_=>iH h (.d (.int k) (k.wrap n))
  |_=>none
 |some (.slice et),some .string=>match C.P.underlying et with
  |some (.int .u8)=>match x with
   | .iX=>iH h (.d .str [])
   | .yX k off n lo hi=>match iR h (IA h (.yX k off n lo hi)) with
    |some ⟨e,xs⟩=>match bR (.arr e) (.arr (.int .u8)) xs with
     |some ys=>iH h (.d .str ys)
     |none=>none
    |none=>none
   |x=>match iR h x with
    |some ⟨e,xs⟩=>match bR (.arr e) (.arr (.int .u8)) xs with
     |some ys=>iH h (.d .str ys)
     |none=>none
    |none=>none
  |_=>none
 |_,_=>none
def Y9(C:Ctx)(h:List aB)(t:TypeId)(l c:AV):Option Out:=
 match elemOf C t with
 |some tid=>match C.ty tid,C.size tid,C.zero tid,l,c with
  |some e,some sz,some z,.d (.int .i64) n,.d (.int .i64) m=>
   if Nat.beq e.cells sz&&qE e z then
    match AZ [] e z with
    |some x=>some ⟨some (0<=n/\n<=m/\aM C tid m.toNat),.sl (hlen h),h++[.grow tid e (List.replicate n.toNat x)],none⟩
    |none=>none
   else none
  |_,_,_,_,_=>none
 |none=>none
def oO(C:Ctx)(h:List aB)(t:TypeId)(x:AV)(f:Nat):Option Out:=
 match DX C t f with
 |some fd=>match C.lay fd.type with
  |some (ag,sz)=>match x with
   | .own k off=>if Nat.ble 1 sz then iH h (.own k (off+fd.offset)) else none
   | .tX k z i=>if Nat.ble 1 sz&&Nat.ble (fd.offset+sz) z then iH h (.lI k z i fd.offset) else none
   | .lI k z i off=>if Nat.ble 1 sz&&Nat.ble (off+fd.offset+sz) z then iH h (.lI k z i (off+fd.offset)) else none
   | .rp u y=>if Nat.ble 1 sz then match Ql u y fd.offset sz ag with
    |some (.d u' y')=>iH h (.rp u' y')
    |_=>none
    else none
   |_=>none
  |none=>none
 |none=>none
def Qq(C:Ctx)(h:List aB)(t:TypeId)(x:AV)(f:Nat):Option Out:=
 match DX C t f with
 |some fd=>match C.lay fd.type with
  |some (ag,sz)=>match x with
   | .agg cs=>match zf C fd.type cs fd.offset with
    |some v=>iH h v
    |none=>none
   | .d u y=>if u.isAgg then
    match Ql u y fd.offset sz ag with
    |some v=>iH h v
    |none=>none
    else none
   |_=>none
  |none=>none
 |none=>none
def vr(C:Ctx)(h:List aB)(t:TypeId)(x:AV)(i:Int):Option Out:=
 match arrayOf C t with
 |some (n,et)=>match C.size et with
  |some sz=>match x with
   | .own k off=>bif C.zb t&&Nat.beq sz 1 then AP h (0<=i/\i<(n:Int)) (.DS k off n i) else AP h (0<=i/\i<(n:Int)) (.own k (off+i.toNat*sz))
   | .rp (.vec m e) xs=>if Nat.beq e.cells sz&&Nat.beq m n then AP h (0<=i/\i<(n:Int)) (.rp e (xs.getD i.toNat (dflt e))) else none
   | .Ko g=>if Nat.beq sz 1&&Nat.beq n 64&&gIs C.P g then AP h (0<=i/\i<(n:Int)) (.rp (.int .u32) (gA.getD i.toNat 0)) else none
   |_=>none
  |none=>none
 |none=>none
def oP(C:Ctx)(h:List aB)(t:TypeId)(x ix:AV):Option Out:=
 match elemOf C t,ix with
 |some tid,.d (.int _) i=>match C.size tid with
  |some sz=>match x with
   | .sl k=>match aH h k with
    | .grow _ e xs=>if Nat.beq e.cells sz then AP h (0<=i/\i<xs.length) (.tX k sz i) else none
    |_=>none
   | .DT k n=>AP h (0<=i/\i<(n:Int)) (.own k (i.toNat*sz))
   |x=>match iR h x with
    |some ⟨e,xs⟩=>if Nat.beq e.cells sz then AP h (0<=i/\i<xs.length) (.rp e (xs.getD i.toNat (dflt e))) else none
    |none=>none
  |none=>none
 |none,.d (.int _) i=>vr C h t x i
 |_,_=>none
def Qr(C:Ctx)(h:List aB)(t:TypeId)(x ix:AV):Option Out:=
 match C.P.underlying t,x,ix with
 |some .string,.d .str s,.d (.int _) i=>AP h (0<=i/\i<s.length) (.d (.int .u8) (s.getD i.toNat 0))
 |some (.array n et),.d (.vec m e) xs,.d (.int _) i=>match C.lay et with
  |some (ag,sz)=>if Nat.beq e.cells sz&&Nat.beq m n&&(ag==e.isAgg) then AP h (0<=i/\i<(n:Int)) (.d e (xs.getD i.toNat (dflt e))) else none
  |none=>none
 |_,_,_=>none
def EO(C:Ctx)(h:List aB)(t:TypeId)(x:AV):Option Out:=
 match arrayOf C t with
 |some (n,et)=>match C.size et with
  |some sz=>match x with
   | .sl _=>none
   | .yX k off _ lo hi=>if Nat.beq sz 1&&Nat.ble 1 n then AP h (lo+(n:Int)<=hi) (.own k (off+lo.toNat)) else none
   |x=>match iR h x with
    |some ⟨e,xs⟩=>if Nat.beq e.cells sz&&Nat.ble 1 n then AP h ((n:Int)<=xs.length) (.rp (.vec n e) (xs.take n)) else none
    |none=>none
  |none=>none
 |none=>none
def ud(h:List aB)(x:AV)(i:Nat):Option Out:=
 match x with
 | .lW cs=>if Nat.ble (i+1) (dg cs) then iH h (bX cs i) else none
 |_=>none
def Kv(C:Ctx)(t:TypeId):Bool:=match C.P.info? t with
 |some i=>match i.zero with
  |some v=>v.oneCell'
  |none=>false
 |none=>false
def Za(C:Ctx)(h:List aB)(t:TypeId)(v:AV):Option Out:=
 match C.ty t,C.size t with
 |some u,some sz=>if Nat.beq sz u.cells&&mH [v] then match AZ h u v with
  |some x=>some ⟨none,.own (hlen h) 0,h++[.dat u x],none⟩
  |none=>none
  else none
 |_,_=>none
def xz(C:Ctx)(h:List aB)(t:TypeId):Option Out:=
 match C.zero t with
 |some z=>bif C.zb t then Za C h t z else match bC z with
  |some cs=>some ⟨none,.own (hlen h) 0,h++[.cells cs],none⟩
  |none=>if Kv C t then some ⟨none,.own (hlen h) 0,h++[.cells [.bJ]],none⟩ else none
 |none=>none
def IE(C:Ctx)(h:List aB)(t:TypeId)(x:AV):Option Out:=
 bif C.Y3 t then Za C h t x else match x with
 | .d u y=>if C.ro t then iH h (.rp u y) else none
 | .agg cs=>if C.ro t then match refs (.agg cs) with
  |[]=>match C.ty t with
   |some u=>match AZ h u (.agg cs) with
    |some y=>iH h (.rp u y)
    |none=>none
   |none=>none
  |_=>none
  else none
 |_=>none
def qhS(h:List aB)(x:AV):Option Out:=
 match bC x with
 |some cs=>some ⟨none,.own (hlen h) 0,h++[.cells cs],none⟩
 |none=>none
def Ba(C:Ctx)(t:TypeId):Option TypeId:=
 match C.P.underlying t with
 |some (.map kt et)=>match C.P.underlying kt with
  |some (.int .i64)=>some et
  |_=>none
 |_=>none
def xA(C:Ctx)(t:TypeId):Option (Bool×TypeId):=
 match C.P.underlying t with
 |some (.map kt et)=>match C.P.underlying kt with
  |some (.int .i64)=>some (true,et)
  |some .string=>some (false,et)
  |_=>none
 |_=>none
def keyOf:Bool->AV->Option KK
 |true,.d (.int .i64) n=>some (.i n)
 |false,.d .str l=>some (.s l)
 |_,_=>none
def qd8:KK->KK->Bool
 | .i a,.i b=>decide (a=b)
 | .s a,.s b=>decide (a=b)
 |_,_=>false
def Zb:KK->KK->Bool
 | .i _,.i _=>true
 | .s _,.s _=>true
 |_,_=>false
def Kw(n:KK):List (KK×AV)->Bool
 |[]=>true
 |(m,_)::es=>Zb n m&& !qd8 n m&&Kw n es
def Zc:AV->Bool
 | .own _ _=>true
 | .d _ _=>true
 | .rp _ _=>true
 |_=>false
def No:List AV->Bool
 |[]=>true
 |v::vs=>Zc v&&No vs
def okE:AV->Bool
 | .fn _ cs=>No cs
 | .xw _ cs=>No cs
 |v=>Zc v
def Kx(C:Ctx)(h:List aB)(t:TypeId)(m key v:AV):Option Out:=
 match xA C t,m with
 |some (b,_),.sl k=>match aH h k,keyOf b key with
  | .fH es,some x=>if Kw x es&&okE v then some ⟨none,.lO,bw h k (.fH (es++[(x,v)])),none⟩ else none
  |_,_=>none
 |_,_=>none
def DY(C:Ctx)(h:List aB)(t:TypeId)(m key v:AV):Option Out:=
 match Ba C t,m,key with
 |some _,.sl k,.d (.int .i64) n=>match aH h k with
  | .dmap e mm=>match AZ h e v with
   |some x=>if gB [v] then some ⟨none,.lO,bw h k (.dmap e (AX mm n x)),none⟩ else none
   |none=>none
  |_=>none
 |_,_,_=>none
def Ky(C:Ctx)(h:List aB)(t:TypeId)(m key:AV)(ok:Bool):Option Out:=
 match Ba C t,m,key with
 |some et,.sl k,.d (.int .i64) n=>match aH h k,C.zero et with
  | .dmap e mm,some z=>match AZ h e z with
   |some x=>if gB [z] then iH h (if ok then .lW [.d e ((yY mm n).getD x),.d .bool (yY mm n).isSome] else .d e ((yY mm n).getD x)) else none
   |none=>none
  |_,_=>none
 |_,_,_=>none
def Ctx.nested(C:Ctx)(t:TypeId):Bool:=Nat.beq ((C.hint 999999993).CB t) 1
def DC(C:Ctx)(fr:List AV)(h:List aB)(op:Op):Option Out:=
 match op with
 | .move x| .assign x=>iH h (ev fr x)
 | .pick c a b=>Y8 h (ev fr c) (ev fr a) (ev fr b)
 | .alloc t=>xz C h t
 | .box t x=>match IE C h t (ev fr x) with
  |some r=>some r
  |none=>qhS h (ev fr x)
 | .build t parts=>Qp C h t (DW fr parts.toList)
 | .buildSlice t len parts=>iY C h t len parts.toList (tw fr (seconds parts.toList))
 | .load t a=>CC C h t (ev fr a)
 | .store t a x=>nr C h t (ev fr a) (ev fr x)
 | .nilCheck x=>qhR h (ev fr x)
 | .binOp op xt x y _=>match zc C h op xt (ev fr x) (ev fr y) with
  |some r=>some r
  |none=>qhO C h op xt (ev fr x) (ev fr y)
 | .unOp op _ x=>aun h op (ev fr x)
 | .convert src dst x=>qT C h src dst (ev fr x)
 | .makeFunc (.func f) first caps=>if Nat.beq first.size 0 then iH h (.fn f (tw fr caps.toList)) else if Nat.beq caps.size 0 then iH h (.xw f (tw fr first.toList)) else none
 | .makeSlice t l c=>Y9 C h t (ev fr l) (ev fr c)
 | .sliceToArrayPointer t x=>EO C h t (ev fr x)
 | .slice t x lo hi mx=>EL C h t (ev fr x) (EM fr lo) (EM fr hi) (EM fr mx)
 | .fieldAddr t x f=>oO C h t (ev fr x) f
 | .field t x f=>Qq C h t (ev fr x) f
 | .indexAddr t x ix=>oP C h t (ev fr x) (ev fr ix)
 | .index t x ix=>Qr C h t (ev fr x) (ev fr ix)
 | .extract x i=>ud h (ev fr x) i
 | .makeMap t none=>match Ba C t with
  |some et=>match C.ty et with
   |some e=>some ⟨none,.sl (hlen h),h++[.dmap e []],none⟩
   |none=>if C.nested t then some ⟨none,.sl (hlen h),h++[.xb (.jP [])],none⟩ else some ⟨none,.sl (hlen h),h++[.fH []],none⟩
  |none=>match xA C t with
   |some _=>some ⟨none,.sl (hlen h),h++[.fH []],none⟩
   |none=>none
 | .insert t m key v=>match Kx C h t (ev fr m) (ev fr key) (ev fr v) with
  |some r=>some r
  |none=>DY C h t (ev fr m) (ev fr key) (ev fr v)
 | .mapUpdate t m key v=>DY C h t (ev fr m) (ev fr key) (ev fr v)
 | .lookup t m key ok=>Ky C h t (ev fr m) (ev fr key) ok
 | .call c=>match c.callee with
  | .builtin b=>ld C h b c.argTypes.toList (tw fr c.args.toList)
  |_=>none
 |_=>none
inductive Tgt where
 |fn (f:FuncId)
 |qd (k:Nat)
abbrev gk:=Tgt->List AV->St->(AV->St->Prop)->Prop
def IF(p:Option Prop)(q:Prop):Prop:=
 match p with
 |none=>q
 |some p=>p/\q
def St.apply(s:St)(o:Out):St:=
 match o.kill with
 |none=>{s with heap:=o.heap}
 |some k=>{top:=qS k .bJ s.top,below:=Ni k .bJ s.below,heap:=kg k .bJ o.heap}
def jh(C:Ctx)(g:FuncId):Bool:=
 match C.P.funcs[g]? with
 |some fn=>fn.body.isSome&& !(fn.name== "runtime.NumGoroutine")
 |none=>false
def DZ(C:Ctx)(o:Oper)(s:St)(k:St->Prop):Prop:=
 match o.op with
 | .binOp op xt x y _=>
  match elemOf C xt,ev s.top y with
  |some _,.iX=>match iR s.heap (ev s.top x) with
   |some ⟨_,xs⟩=>match op with
    | .eql=>∀b:Bool,(b=true->xs=[])->k (s.put o.dst (.d .bool b))
    | .neq=>∀b:Bool,(b=true->xs=[])->k (s.put o.dst (.d .bool (!b)))
    |_=>False
   |none=>False
  |_,_=>False
 |_=>False
def Zd(fo b:Bool)(p q r:Prop):Prop:=
 match fo with
 |true=>(match b with|true=>q|false=>r)
 |false=>(p->q)/\(¬p->r)
def IG(fo:Bool)(k:AV->Bool->Prop)(z:AV)(x:KK):List (KK×AV)->Prop
 |[]=>k z false
 |(n,v)::es=>match x,n with
  | .i a,.i b=>Zd fo (decide (a=b)) (a=b) (k v true) (IG fo k z x es)
  | .s a,.s b=>Zd fo (decide (a=b)) (a=b) (k v true) (IG fo k z x es)
  |_,_=>False
def Ctx.reckon(C:Ctx):Bool:=match (C.hint 999999997).CB 1 with
 |0=>false
 |_=>true
def Ze(ok:Bool)(v:AV)(is:Bool):AV:=
 match ok with
 |true=>.lW [v,(match is with|true=>.tt|false=>.ff)]
 |false=>v
def Kz(C:Ctx)(o:Oper)(s:St)(k:St->Prop):Prop:=
 match o.op with
 | .lookup t m i ok=>
  match xA C t with
  |none=>False
  |some (b,et)=>match ev s.top m,keyOf b (ev s.top i),C.zero et with
   | .sl j,some x,some z=>match aH s.heap j with
    | .fH es=>IG C.reckon (fun v is=>k (s.put o.dst (Ze ok v is))) z x es
    |_=>False
   |_,_,_=>False
 |_=>False
def qli(o:Oper)(s:St):Option Nat:=
 match o.op with
 | .slice _ x _ _ _=>match ev s.top x with
  | .sl j=>some j
  |_=>none
 | .buildSlice _ _ parts=>match cS (tw s.top (seconds parts.toList)) with
  |j::_=>some j
  |[]=>none
 |_=>none
def Tr(C:Ctx)(o:Oper)(s:St)(k:St->Prop):Prop:=
 match qli o s with
 |some j=>match DC C (s.freeze j).top (s.freeze j).heap o.op with
  |some r=>IF r.need (k (((s.freeze j).apply r).put o.dst r.v))
  |none=>False
 |none=>False
def qgQ:Op->Bool
 | .slice _ _ _ _ _| .buildSlice _ _ _=>true
 |_=>false
def eY:List (Int×Int×List (List Int))->Int->Int
 |[],_=>-1
 |p::m,n=>if p.1=n then p.2.1 else eY m n
def kj:List (Int×Int×List (List Int))->Int->List Int->Bool
 |[],_,_=>false
 |p::m,g,t=>if p.2.1=g then decide (t∈p.2.2) else kj m g t
def KA(l:List (List Int))(t:List Int):List (List Int):=if t∈l then l else l++[t]
def ko:List (Int×Int×List (List Int))->Int->List Int->List (Int×Int×List (List Int))
 |[],_,_=>[]
 |p::m,g,t=>if p.2.1=g then (p.1,p.2.1,KA p.2.2 t)::m else p::ko m g t
def Qs:List aB->Nat->Option (Nat×List (Int×Int×List (List Int)))
 |[],_=>none
 | .xb (.jP m)::_,j=>some (j,m)
 |_::h,j=>Qs h (j+1)
def II(s:St)(j:Nat)(b:aB):St:={top:=qS j .bJ s.top,below:=Ni j .bJ s.below,heap:=kg j .bJ (bw s.heap j b)}
def Ts(s:St):AV->Option (Nat×XB)
 | .sl j=>match aH s.heap j with
  | .xb x=>some (j,x)
  |_=>none
 | .tX j _ _=>match aH s.heap j with
  | .xb x=>some (j,x)
  |_=>none
 |_=>none
def KB(C:Ctx)(h:List aB)(e:Ty)(t:TypeId)(y:AV):Option (List e.den):=
 match y with
 | .sl j=>match aH h j with
  | .xb (.xx _ e' xs)=>match C.P.underlying t with
   |some (.slice _)=>bR (.arr e') (.arr e) xs
   |_=>none
  |_=>none
 |y=>uc C h e t y
def qhT(C:Ctx)(o:Oper)(s:St)(k:St->Prop):Prop:=
 match o.op with
 | .call {callee:=.builtin .len,args,argTypes}=>match args.toList,argTypes.toList with
  |[x],[t]=>match ev s.top x,C.P.underlying t with
   | .sl j,some (.slice _)=>match aH s.heap j with
    | .xb (.xx _ _ xs)=>k (s.put o.dst (.d (.int .i64) (xs.length:Int)))
    |_=>False
   |_,_=>False
  |_,_=>False
 | .call {callee:=.builtin .append,args,argTypes}=>match args.toList,argTypes.toList with
  |[x,y],[t,tx]=>match ev s.top x,elemOf C t with
   | .sl j,some tid=>match aH s.heap j,C.size tid,C.zero tid with
    | .xb (.xx tid' e xs),some sz,some z=>match KB C s.heap e tx (ev s.top y) with
     |some ys=>if Nat.beq tid tid'&&Nat.beq e.cells sz&&qE e z then aM C tid (xs.length+ys.length)/\k ((II s j (.xb (.xx tid e (xs++ys)))).put o.dst (.sl j)) else False
     |none=>False
    |_,_,_=>False
   |_,_=>False
  |_,_=>False
 | .slice t x (some lo) none none=>match ev s.top x,ev s.top lo,elemOf C t with
  | .sl j,.d (.int .i64) l,some tid=>match aH s.heap j,C.size tid with
   | .xb (.xx tid' e xs),some sz=>if Nat.beq tid tid'&&Nat.beq e.cells sz then (0<=l/\l<=xs.length)/\k ((II s j (.xb (.xx tid' e (xs.drop l.toNat)))).put o.dst (.sl j)) else False
   |_,_=>False
  |_,_,_=>False
 | .indexAddr t x ix=>match ev s.top x,ev s.top ix,elemOf C t with
  | .sl j,.d (.int _) i,some tid=>match aH s.heap j,C.size tid with
   | .xb (.xx _ e xs),some sz=>if Nat.beq e.cells sz then (0<=i/\i<xs.length)/\k (s.put o.dst (.tX j sz i)) else False
   |_,_=>False
  |_,_,_=>False
 | .load t a=>match ev s.top a with
  | .tX j sz i=>match aH s.heap j,C.lay t with
   | .xb (.xx _ e xs),some (ag,n)=>if Nat.beq n e.cells&&Nat.beq n sz&&(ag==e.isAgg) then k (s.put o.dst (.d e (xs.getD i.toNat (dflt e)))) else False
   |_,_=>False
  |_=>False
 |_=>False
def Zf(C:Ctx)(o:Oper)(s:St)(k:St->Prop):Prop:=
 match o.op with
 | .lookup t m i false=>match ev s.top m,xA C t,ev s.top i with
  | .sl j,some (true,et),.d (.int .i64) n=>match aH s.heap j,C.P.info? et with
   | .xb (.jP mm),some ti=>match ti.zero with
    |some (.map none)=>k (s.put o.dst (.oM (eY mm n)))
    |_=>False
   |_,_=>False
  | .oM g,some (false,et),.d .str x=>match Qs s.heap 0,C.P.info? et with
   |some (_,mm),some ti=>match ti.zero with
    |some (.bool false)=>(g<0\/∃p∈mm,p.2.1=g)/\k (s.put o.dst (.d .bool (kj mm g x)))
    |_=>False
   |_,_=>False
  |_,_,_=>False
 | .mapUpdate t m i v=>match ev s.top m,xA C t,ev s.top i with
  | .sl j,some (true,_),.d (.int .i64) n=>match aH s.heap j,ev s.top v with
   | .xb (.jP mm),.sl j'=>match aH s.heap j' with
    | .fH []=>eY mm n<0/\∀g:Int,0<=g->(∀p∈mm,p.2.1≠g)->k ({s with heap:=bw (bw s.heap j (.xb (.jP (mm++[(n,g,[])])))) j' .gone}.put o.dst .lO)
    |_=>False
   |_,_=>False
  | .oM g,some (false,_),.d .str x=>match Qs s.heap 0,ev s.top v with
   |some (j,mm),.tt=>(∃p∈mm,p.2.1=g)/\k ({s with heap:=bw s.heap j (.xb (.jP (ko mm g x)))}.put o.dst .lO)
   |some (j,mm),.d .bool b=>b=true/\(∃p∈mm,p.2.1=g)/\k ({s with heap:=bw s.heap j (.xb (.jP (ko mm g x)))}.put o.dst .lO)
   |_,_=>False
  |_,_,_=>False
 | .binOp op xt x y _=>match ev s.top x,y,C.P.underlying xt with
  | .oM g,.const (.map none),some (.map _ _)=>match op with
   | .eql=>k (s.put o.dst (.d .bool (decide (g<0))))
   | .neq=>k (s.put o.dst (.d .bool (!decide (g<0))))
   |_=>False
  |_,_,_=>False
 |_=>False
def qlj(o:Oper)(s:St):Bool:=
 match o.op with
 | .call {callee:=.builtin .len,args,.. } | .call {callee:=.builtin .append,args,.. }=>match args.toList with
  |x::_=>(Ts s (ev s.top x)).isSome
  |[]=>false
 | .slice _ x _ _ _| .indexAddr _ x _=>(Ts s (ev s.top x)).isSome
 | .load _ x=>(Ts s (ev s.top x)).isSome
 |_=>false
def qlk(o:Oper)(s:St):Bool:=
 match o.op with
 | .lookup _ m _ _| .mapUpdate _ m _ _=>(Ts s (ev s.top m)).isSome||match ev s.top m with
  | .oM _=>true
  |_=>false
 | .binOp _ _ x _ _=>match ev s.top x with
  | .oM _=>true
  |_=>false
 |_=>false
def qhU(C:Ctx)(o:Oper)(s:St)(k:St->Prop):Prop:=
 if qlj o s then qhT C o s k else
 if qlk o s then Zf C o s k else
 if qgQ o.op then Tr C o s k else
 match o.op with
 | .lookup _ _ _ _=>Kz C o s k
 | .range _ _=>False
 | .next _ _=>False
 | .entry _=>False
 |_=>DZ C o s k
def Ctx.Qt(C:Ctx)(t:TypeId):Bool:=Nat.beq ((C.hint 999999996).CB t) 1||Nat.beq ((C.hint 999999996).CB t) 2
def Ctx.Zg(C:Ctx)(t:TypeId):Bool:=Nat.beq ((C.hint 999999996).CB t) 2
def qoz:Op->TypeId
 | .buildSlice t _ _=>t
 |_=>0
def nW(s:St)(parts:Array (Nat×Operand)):St:=s.c8 (cS (tw s.top (seconds parts.toList)))
def qll(C:Ctx)(o:Oper)(s:St)(k:St->Prop):Prop:=
 match o.op with
 | .buildSlice t len parts=>match iY C (nW s parts).heap t len parts.toList (tw (nW s parts).top (seconds parts.toList)),elemOf C t with
  |some r,some tid=>match r.v with
   | .fs e xs=>if Nat.ble 1 len then (bif C.Zg t then k ({nW s parts with heap:=(nW s parts).heap++[aB.xb (.xx tid e xs)]}.put o.dst (.sl (hlen (nW s parts).heap)))
    else k ({nW s parts with heap:=(nW s parts).heap++[aB.grow tid e xs]}.put o.dst (.sl (hlen (nW s parts).heap)))) else False
   |_=>False
  |_,_=>False
 |_=>False
def isLit:Op->Bool
 | .buildSlice _ len _=>Nat.ble 1 len
 |_=>false
def Ctx.qd9(C:Ctx):Bool:=Nat.beq ((C.hint 999999995).CB 1000000) 1
def KC(C:Ctx):Op->Bool
 | .buildSlice t _ _=>C.qd9&&match elemOf C t with
  |some tid=>match C.ty tid with
   |none=>true
   |some _=>false
  |none=>false
 |_=>false
def qgR(C:Ctx)(o:Oper)(s:St)(k:St->Prop):Prop:=
 match o.op with
 | .buildSlice t len parts=>match qhQ C s.heap t len parts.toList (tw s.top (seconds parts.toList)) with
  |some r=>k ({s with heap:=r.heap}.put o.dst r.v)
  |none=>False
 |_=>False
def zg(C:Ctx)(call:gk)(o:Oper)(s:St)(k:St->Prop):Prop:=
 if KC C o.op then qgR C o s k else
 if isLit o.op&&C.Qt (qoz o.op) then qll C o s k else
 match o.op with
 | .call {callee:=.value f,args,.. }=>
  match ev s.top f with
  | .fn g cap=>if jh C g then call (.fn g) (tw s.top args.toList++cap) s (fun v s'=>k (s'.put o.dst v)) else False
  | .qd j=>call (.qd j) (tw s.top args.toList) s (fun v s'=>k (s'.put o.dst v))
  | .xw g first=>if jh C g then call (.fn g) (first++tw s.top args.toList) s (fun v s'=>k (s'.put o.dst v)) else False
  |_=>False
 |op=>
  match DC C s.top s.heap op with
  |some r=>IF r.need (k ((s.apply r).put o.dst r.v))
  |none=>qhU C o s k
def qU(all:Array Oper)(j:Nat):Option Tmp:=
 match all[j]? with
 |some o=>o.dst
 |none=>none
def qF(C:Ctx)(call:gk)(m:Mode)(all:Array Oper):List Oper->St->(St->Prop)->Prop
 |[],s,k=>k s
 |o::rest,s,k=>
  match o.guard with
  |none=>zg C call o s (fun s'=>qF C call m all rest s' k)
  |some (j,want)=>
   match qU all j with
   |none=>False
   |some t=>
    match bX s.top t with
    | .tt=>match want with
     |true=>zg C call o s (fun s'=>qF C call m all rest s' k)
     |false=>qF C call m all rest (s.put o.dst .lO) k
    | .ff=>match want with
     |false=>zg C call o s (fun s'=>qF C call m all rest s' k)
     |true=>qF C call m all rest (s.put o.dst .lO) k
    | .lO=>qF C call m all rest (s.put o.dst .lO) k
    | .d .bool b=>
     match want with
     |true=>xy m b (zg C call o (s.put (some t) .tt) (fun s'=>qF C call m all rest s' k))
      (qF C call m all rest ((s.put (some t) .ff).put o.dst .lO) k)
     |false=>xy m.flip b (qF C call m all rest ((s.put (some t) .tt).put o.dst .lO) k)
      (zg C call o (s.put (some t) .ff) (fun s'=>qF C call m all rest s' k))
    |_=>False
def neutral:Op->Bool
 | .move _| .assign _| .pick _ _ _| .build _ _| .buildSlice _ _ _| .load _ _| .nilCheck _| .binOp _ _ _ _ _| .unOp _ _ _| .convert _ _ _
 | .makeFunc _ _ _| .sliceToArrayPointer _ _| .slice _ _ _ _ _| .fieldAddr _ _ _| .field _ _ _| .indexAddr _ _ _| .index _ _ _| .extract _ _=>true
 | .call {callee:=.builtin .len,.. } | .call {callee:=.builtin .min,.. } | .call {callee:=.builtin .max,.. }=>true
 |_=>false
def Zh(C:Ctx)(o:Oper)(s:St)(k:St->Prop):Prop:=
 match o.op with
 | .call {callee:=.value f,args,.. }=>
  match ev s.top f with
  | .fn g []=>match C.spec g with
   |some sp=>
    if (mN sp.rs||gB (rQ sp.ps (tw s.top args.toList)))&&jh C g then
     match lJ s.heap sp.ps (bif mN sp.rs then A7 s.heap (rQ sp.ps (tw s.top args.toList)) else rQ sp.ps (tw s.top args.toList)) with
     |some x=>sp.pre x/\k (s.put o.dst (nV sp.rs (sp.post x)))
     |none=>False
    else False
   |none=>False
  |_=>False
 |op=>
  if neutral op then
   match DC C s.top s.heap op with
   |some r=>IF r.need (k (s.put o.dst r.v))
   |none=>False
  else False
def Np:Operand->Option Nat
 | .tmp t=>some t
 |_=>none
def looks(all:Array Oper)(o:Oper):List Nat:=
 (o.op.operands.toList.filterMap Np)++(match o.guard with|some (j,_)=>(qU all j).toList|none=>[])
def ue(t:Nat):List Nat->Bool
 |[]=>false
 |u::l=>Nat.beq t u||ue t l
def qgS(C:Ctx)(o:Oper)(s:St):Option (FuncId×cL×List AV):=
 match o.op with
 | .call {callee:=.value f,args,.. }=>
  match ev s.top f with
  | .fn g []=>match C.spec g with
   |some _=>none
   |none=>match C.fresh g with
    |some gs=>some (g,gs,tw s.top args.toList)
    |none=>none
  |_=>none
 |_=>none
def Tt(C:Ctx)(o:Oper):Option aB:=
 match o.op with
 | .alloc t=>match C.zero t with
  |some z=>bif C.zb t then (match C.ty t,C.size t with
   |some u,some sz=>if Nat.beq sz u.cells&&mH [z] then match AZ [] u z with
    |some x=>some (.dat u x)
    |none=>none
    else none
   |_,_=>none) else match bC z with
   |some cs=>some (.cells cs)
   |none=>none
  |none=>none
 |_=>none
def qgT(C:Ctx)(o:Oper)(s:St):Option (Prop×aB):=
 match o.op with
 | .call {callee:=.builtin .append,args,argTypes}=>
  match tw s.top args.toList,argTypes.toList with
  |[.fs e [],y],[t,tx]=>match C.vp,elemOf C t with
   |false,some tid=>match C.size tid,C.zero tid,uc C s.heap e tx y with
    |some sz,some z,some ys=>if Nat.beq e.cells sz&&qE e z then some (aM C tid ys.length,.grow tid e ys) else none
    |_,_,_=>none
   |_,_=>none
  |_,_=>none
 |_=>none
def fN(o:Oper):List Nat:=(o.after.toList.filter (Region.binds .any)).map (·.on)
def ck(i:Nat):List Nat->Bool
 |[]=>false
 |j::l=>Nat.beq i j||ck i l
def CD(all:Array Oper):Nat->List Nat->List Nat
 |0,S=>S
 |k+1,S=>if ck k S then (match all[k]? with
  |some o=>CD all k (fN o++S)
  |none=>CD all k S) else CD all k S
def mO:List Oper->Nat->List (Nat×Oper)
 |[],_=>[]
 |o::os,i=>match o.op with
  | .store _ _ _=>(i,o)::mO os (i+1)
  |_=>mO os (i+1)
def before(all:Array Oper):List (Nat×Oper)->Nat->Bool
 |[],_=>true
 |(s,o)::l,i=>(Nat.beq i s||ck i (CD all s (fN o)))&&before all l i
def xB:List (Nat×Oper)->Nat->Bool
 |[],_=>false
 |(s,_)::l,i=>Nat.beq i s||xB l i
def Tu:aB->aB
 | .grow _ _ _=>.gone
 |b=>b
def wP:List aB->List aB
 |[]=>[]
 |b::l=>Tu b::wP l
def isVar:aB->Prop
 | .cells _=>True
 | .dat _ _=>True
 |_=>False
def IJ(C:Ctx)(n:Nat)(ex:List aB)(o:Oper)(s:St):Option (Nat×aB):=
 match o.op,o.dst with
 | .store t a x,none=>match ev s.top a with
  | .tX k sz i=>match ev s.top x with
   | .d u y=>if Nat.ble (k+1) n then match nr C s.heap t (.tX k sz i) (.d u y) with
    |some r=>some (k,aH r.heap k)
    |none=>none
    else none
   |_=>none
  | .own k off=>if Nat.ble n k then match aH ex (k-n) with
   | .cells cs=>match bC (ev s.top x),C.size t with
    |some l,some sz=>if Nat.beq (dg l) sz&&Nat.ble (off+sz) (dg cs) then some (k,.cells (setCells cs off l)) else none
    |_,_=>none
   | .dat u y=>match C.size t,ev s.top x with
    |some sz,.d v z=>match DB u y off sz [] (.d v z) with
     |some z'=>some (k,.dat u z')
     |none=>none
    |_,_=>none
   |_=>none
   else none
  |_=>none
 |_,_=>none
def wr(h:List aB):List (Nat×aB)->List aB
 |[]=>h
 |(k,b)::l=>wr (bw h k b) l
def notKey(k:Nat):List (Nat×aB)->Bool
 |[]=>true
 |(j,_)::l=>!(Nat.beq j k)&&notKey k l
def upd(rw:List (Nat×aB)):Option (Nat×aB)->List (Nat×aB)
 |some r=>rw++[r]
 |none=>rw
def CE(C:Ctx)(n:Nat)(ex:List aB)(rw:List (Nat×aB))(isS:Bool)(o:Oper)(j:Nat)(s:St)(k:aB->Option (Nat×aB)->St->Prop):Prop:=
 if isS then match IJ C n ex o s with
  |some r=>if notKey r.1 rw then k .gone (some r) s else False
  |none=>False
 else match qgS C o s with
 |some (g,gs,args)=>
  if gB args&&jh C g then
   match lJ s.heap gs.ps args with
   |some x=>gs.pre x/\k (.grow gs.tid gs.e (gs.post x)) none (s.put o.dst (.sl j))
   |none=>False
  else False
 |none=>match Tt C o with
  |some b=>k b none (s.put o.dst (.own j 0))
  |none=>match qgT C o s with
   |some (p,b)=>p/\k b none (s.put o.dst (.sl j))
   |none=>Zh C o s (k .gone none)
def mP:List Oper->List aB
 |[]=>[]
 |_::os=>.gone::mP os
structure HW where
 all:Array Oper
 h0:List aB
 st:List (Nat×Oper)
 hU:List aB
 hM:List aB
def HW.heap(H:HW)(i:Nat):List aB:=if before H.all H.st i then H.hU else H.hM
def wD(C:Ctx)(m:Mode)(H:HW):List Oper->Nat->List aB->List (Nat×aB)->St->(St->Prop)->Prop
 |[],_,ex,rw,s,k=>k {s with heap:=wr (H.h0++ex) rw}
 |o::rest,i,ex,rw,s,k=>
  match o.guard with
  |none=>CE C (hlen H.h0) ex rw (xB H.st i) o (hlen H.h0+i) {s with heap:=H.heap i} (fun b r s'=>wD C m H rest (i+1) (ex++[b]) (upd rw r) s' k)
  |some (g,want)=>
   match qU H.all g with
   |none=>False
   |some t=>
    match bX s.top t with
    | .tt=>match want with
     |true=>CE C (hlen H.h0) ex rw (xB H.st i) o (hlen H.h0+i) {s with heap:=H.heap i} (fun b r s'=>wD C m H rest (i+1) (ex++[b]) (upd rw r) s' k)
     |false=>wD C m H rest (i+1) (ex++[.gone]) rw (s.put o.dst .lO) k
    | .ff=>match want with
     |false=>CE C (hlen H.h0) ex rw (xB H.st i) o (hlen H.h0+i) {s with heap:=H.heap i} (fun b r s'=>wD C m H rest (i+1) (ex++[b]) (upd rw r) s' k)
     |true=>wD C m H rest (i+1) (ex++[.gone]) rw (s.put o.dst .lO) k
    | .lO=>wD C m H rest (i+1) (ex++[.gone]) rw (s.put o.dst .lO) k
    | .d .bool b=>
     match want with
     |true=>xy m b (CE C (hlen H.h0) ex rw (xB H.st i) o (hlen H.h0+i) {s.put (some t) .tt with heap:=H.heap i} (fun b r s'=>wD C m H rest (i+1) (ex++[b]) (upd rw r) s' k))
      (wD C m H rest (i+1) (ex++[.gone]) rw ((s.put (some t) .ff).put o.dst .lO) k)
     |false=>xy m.flip b (wD C m H rest (i+1) (ex++[.gone]) rw ((s.put (some t) .tt).put o.dst .lO) k)
      (CE C (hlen H.h0) ex rw (xB H.st i) o (hlen H.h0+i) {s.put (some t) .ff with heap:=H.heap i} (fun b r s'=>wD C m H rest (i+1) (ex++[b]) (upd rw r) s' k))
    |_=>False
def HW.mk'(all:Array Oper)(h0:List aB)(head:List Oper):HW:=
 {all:=all,h0:=h0,st:=mO head 0,hU:=h0++mP head,hM:=wP h0++mP head}
def vt(o:Oper)(j:Nat):Bool:=o.after.any fun e=>Region.binds .any e&&Nat.beq e.on j
def Tv(S:List Nat):Nat->Bool
 |0=>true
 |j+1=>ck j S&&Tv S j
def KD(all:Array Oper)(o:Oper)(i:Nat):Bool:=Tv (CD all i (fN o)) i
def Zi(all:Array Oper)(i j:Nat)(oi oj:Oper):Bool:=
 Nat.beq i j||match oj.dst with
  |none=>true
  |some t=>!(oi.dst==some t)&&(!(ue t (looks all oi))||(Nat.blt j i&&vt oi j)||(Nat.blt i j&&vt oj i))
def Zj(all:Array Oper)(o:Oper):Bool:=
 match o.dst with
 |none=>true
 |some t=>!(ue t (looks all o))
def qV(i:Nat)(o:Oper):Bool:=o.after.all fun e=>!Region.binds .any e||Nat.blt e.on i
def Qu(all:Array Oper)(head:List (Oper×Nat)):Bool:=
 head.all fun p=>Zj all p.1&&qV p.2 p.1&&head.all fun q=>Zi all p.2 q.2 p.1 q.1
def rU(all:Array Oper):Nat->List Oper->Bool
 |_,[]=>true
 |i,o::l=>KD all o i&&qV i o&&rU all (i+1) l
def Tw(all:Array Oper):Nat->List Oper->Nat
 |_,[]=>0
 |i,o::l=>if KD all o i then Tw all (i-1) l+1 else 0
def ji(ops:Array Oper):Nat:=ops.size-Tw ops (ops.size-1) ops.toList.reverse
def Zk(ops:Array Oper)(m:Nat):Bool:=Qu ops (ops.toList.take m).zipIdx&&rU ops m (ops.toList.drop m)
def dI(all:Array Oper)(L:List Nat):Nat->List Nat
 |0=>[]
 |n+1=>match all[n]? with
  |some o=>if !(ck n L)&&(fN o).all (fun j=>ck j L) then dI all L n++[n] else dI all L n
  |none=>dI all L n
def Tx(p:Nat->Prop):List Nat->Prop
 |[]=>True
 |[i]=>p i
 |i::j::l=>p i/\Tx p (j::l)
def tC(all:Array Oper)(i:Nat)(p:Oper->Prop):Prop:=
 match all[i]? with
 |some o=>p o
 |none=>False
def EP:List Nat->Bool
 |[]=>true
 |_=>false
def Tz(all:Array Oper):Bool:=all.all fun o=>match o.op with| .defer _=>false|_=>true
def ER(fr:List AV):Op->Bool
 | .move _| .assign _| .fieldAddr _ _ _=>true
 | .nilCheck x=>match ev fr x with
  | .own _ _=>true
  | .rp _ _=>true
  |_=>false
 | .load _ x=>match ev fr x with
  | .rp _ _=>true
  |_=>false
 | .indexAddr _ x _=>match ev fr x with
  | .d _ _=>true
  | .fs _ _=>true
  | .own _ _=>true
  |_=>false
 | .binOp _ _ x y _=>match ev fr x,ev fr y with
  | .d (.int _) _,.d (.int _) _=>true
  |_,_=>false
 | .slice _ x _ _ _=>match ev fr x with
  | .d (.arr _) _=>true
  |_=>false
 | .extract x _=>match ev fr x with
  | .lW _=>true
  |_=>false
 | .convert _ _ x=>match ev fr x with
  | .d (.int _) _=>true
  |_=>false
 |_=>false
def TA(fr:List AV)(all:Array Oper)(L:List Nat)(i:Nat):Bool:=
 match all[i]? with
 |none=>false
 |some oi=>ER fr oi.op&&oi.guard.isNone&&(List.range all.size).all fun j=>j==i||ck j L||match all[j]? with
  |some oj=>oj.after.any (fun e=>Region.binds .any e&&e.on==i)||oi.apart all oj
  |none=>true
def Zl(fr:List AV)(all:Array Oper)(L:List Nat):List Nat->Option Nat
 |[]=>none
 |i::l=>if TA fr all L i then some i else Zl fr all L l
mutual
def _root_.Go.Rose.nf{α:Type}(f:α->(α->Prop)->Prop):Rose α->(Rose α->Prop)->Prop
 | .node x l,k=>f x fun x'=>Rose.nfs f l fun l'=>k (.node x' l')
def _root_.Go.Rose.nfs{α:Type}(f:α->(α->Prop)->Prop):List (Rose α)->(List (Rose α)->Prop)->Prop
 |[],k=>k []
 |y::l,k=>Rose.nf f y fun y'=>Rose.nfs f l fun l'=>k (y'::l')
end
mutual
theorem qgU{α:Type}{f:α->(α->Prop)->Prop}(hf:∀x k,f x k=k x):∀(r:Rose α) (k:Rose α->Prop),Rose.nf f r k=k r
 | .node x l,k=>by unfold Rose.nf;rw[hf,Zm hf l]
theorem Zm{α:Type}{f:α->(α->Prop)->Prop}(hf:∀x k,f x k=k x):∀(l:List (Rose α)) (k:List (Rose α)->Prop),Rose.nfs f l k=k l
 |[],k=>rfl
 |y::l,k=>by unfold Rose.nfs;rw[qgU hf y,Zm hf l]
end
def nfL{α:Type}(f:α->(α->Prop)->Prop):List α->(List α->Prop)->Prop
 |[],k=>k []
 |y::l,k=>f y fun y'=>nfL f l fun l'=>k (y'::l')
theorem KE{α:Type}{f:α->(α->Prop)->Prop}(hf:∀x k,f x k=k x):∀(l:List α) (k:List α->Prop),nfL f l k=k l
 |[],k=>rfl
 |y::l,k=>by unfold nfL;rw[hf,KE hf l]
def nfI(n:Int)(k:Int->Prop):Prop:=match n with
 | .ofNat m=>k (.ofNat m)
 | .negSucc m=>k (.negSucc m)
theorem qhV(n:Int)(k:Int->Prop):nfI n k=k n:=by cases n<;>rfl
def nfB(n:Bool)(k:Bool->Prop):Prop:=match n with
 |true=>k true
 |false=>k false
def nfP{α β:Type}(f:α->(α->Prop)->Prop)(g:β->(β->Prop)->Prop)(x:α×β)(k:α×β->Prop):Prop:=match x with
 |(u,v)=>f u fun u'=>g v fun v'=>k (u',v')
theorem Zn{α β:Type}{f:α->(α->Prop)->Prop}{g:β->(β->Prop)->Prop}(hf:∀x k,f x k=k x)(hg:∀x k,g x k=k x)(x:α×β)(k:α×β->Prop):nfP f g x k=k x:=by
 obtain⟨u,v⟩:=x;unfold nfP;simp only[hf,hg]
def Zo:(t:Ty)->t.den->(t.den->Prop)->Prop
 | .pair a b,x,k=>nfP (Zo a) (Zo b) x k
 | .arr e,x,k=>nfL (Zo e) x k
 | .dR a b,x,k=>Rose.nf (nfP (Zo a) (Zo b)) x k
 | .int _,x,k=>nfI x k
 | .bool,x,k=>nfB x k
 | .unit,x,k=>k x
 | .str,x,k=>k x
 | .qi,x,k=>k x
 | .any,x,k=>k x
 | .vec _ _,x,k=>k x
theorem rV:∀(t:Ty) (x:t.den) (k:t.den->Prop),Zo t x k=k x
 | .pair a b,x,k=>Zn (rV a) (rV b) x k
 | .arr e,x,k=>KE (rV e) x k
 | .dR a b,x,k=>qgU (Zn (rV a) (rV b)) x k
 | .int _,x,k=>qhV x k
 | .bool,x,k=>by cases x<;>rfl
 | .unit,x,k=>rfl
 | .str,x,k=>rfl
 | .qi,x,k=>rfl
 | .any,x,k=>rfl
 | .vec _ _,x,k=>rfl
def KF(fl:Bool)(v:AV)(k:AV->Prop):Prop:=
 match v with
 | .bJ=>k .bJ
 | .lO=>k .lO
 | .tt=>k .tt
 | .ff=>k .ff
 | .d t x=>bif fl then Zo t x fun y=>k (.d t y) else k (.d t x)
 | .fs e xs=>bif fl then nfL (Zo e) xs fun y=>k (.fs e y) else k (.fs e xs)
 | .iX=>k .iX
 | .agg cs=>k (.agg cs)
 | .lW cs=>k (.lW cs)
 | .fn f cs=>k (.fn f cs)
 | .xw f cs=>k (.xw f cs)
 | .sv a b c d=>k (.sv a b c d)
 | .nk=>k .nk
 | .nq=>k .nq
 | .own a b=>k (.own a b)
 | .sl a=>k (.sl a)
 | .tX a b c=>k (.tX a b c)
 | .rp t x=>bif fl then Zo t x fun y=>k (.rp t y) else k (.rp t x)
 | .qd a=>k (.qd a)
 | .Ko g=>k (.Ko g)
 | .DS a b c d=>k (.DS a b c d)
 | .yX a b c d e=>k (.yX a b c d e)
 | .lI a b c d=>k (.lI a b c d)
 | .DT a b=>k (.DT a b)
 | .oM g=>k (.oM g)
def vu(fl:Bool):List AV->(List AV->Prop)->Prop
 |[],k=>k []
 |v::vs,k=>KF fl v fun v'=>vu fl vs fun vs'=>k (v'::vs')
def Qv(fl:Bool)(v:AV)(k:AV->Prop):Prop:=
 match v with
 | .agg cs=>vu fl cs fun cs=>k (.agg cs)
 | .lW cs=>vu fl cs fun cs=>k (.lW cs)
 | .fn f cs=>vu fl cs fun cs=>k (.fn f cs)
 |v=>KF fl v k
def xC(fl:Bool):List AV->(List AV->Prop)->Prop
 |[],k=>k []
 |v::vs,k=>Qv fl v fun v'=>xC fl vs fun vs'=>k (v'::vs')
def KG(fl:Bool):List (List AV)->(List (List AV)->Prop)->Prop
 |[],k=>k []
 |v::vs,k=>xC fl v fun v'=>KG fl vs fun vs'=>k (v'::vs')
def Zp(fl:Bool)(b:aB)(k:aB->Prop):Prop:=
 match b with
 | .gone=>k .gone
 | .log ys Y own xs=>k (.log ys Y own xs)
 | .kV ys Y own=>k (.kV ys Y own)
 | .cells cs=>xC fl cs fun cs=>k (.cells cs)
 | .grow a b c=>bif fl then nfL (Zo b) c fun c=>k (.grow a b c) else k (.grow a b c)
 | .fH a=>k (.fH a)
 | .dmap a b=>k (.dmap a b)
 | .eo a b c=>k (.eo a b c)
 | .loop f p ph ts=>xC fl ts fun ts=>k (.loop f p ph ts)
 | .dat t x=>bif fl then Zo t x fun y=>k (.dat t y) else k (.dat t x)
 | .eu n rest=>k (.eu n rest)
 | .xb x=>k (.xb x)
def KH(fl:Bool):List aB->(List aB->Prop)->Prop
 |[],k=>k []
 |v::vs,k=>Zp fl v fun v'=>KH fl vs fun vs'=>k (v'::vs')
def zh(fl:Bool)(s:St)(k:St->Prop):Prop:=xC fl s.top fun t=>KG fl s.below fun b=>KH fl s.heap fun h=>k {top:=t,below:=b,heap:=h}
def ES(s:St)(k:St->Prop):Prop:=zh false s k
theorem ET(fl:Bool)(v:AV)(k:AV->Prop):KF fl v k=k v:=by
 cases v<;>first
  |rfl
  |(cases fl<;>first|rfl|exact rV _ _ _|exact KE (rV _) _ _)
theorem rW(fl:Bool):∀(l:List AV) (k:List AV->Prop),vu fl l k=k l
 |[],_=>rfl
 |v::vs,k=>by unfold vu;rw[ET,rW fl vs]
theorem Vf(fl:Bool)(v:AV)(k:AV->Prop):Qv fl v k=k v:=by
 unfold Qv;split
 ·exact rW fl _ _
 ·exact rW fl _ _
 ·exact rW fl _ _
 ·exact ET fl _ _
theorem vw(fl:Bool):∀(l:List AV) (k:List AV->Prop),xC fl l k=k l
 |[],_=>rfl
 |v::vs,k=>by unfold xC;rw[Vf,vw fl vs]
theorem IK(fl:Bool):∀(l:List (List AV)) (k:List (List AV)->Prop),KG fl l k=k l
 |[],_=>rfl
 |v::vs,k=>by unfold KG;rw[vw,IK fl vs]
theorem Vg(fl:Bool)(b:aB)(k:aB->Prop):Zp fl b k=k b:=by
 cases b<;>first
  |rfl
  |exact vw fl _ _
  |(cases fl<;>first|rfl|exact KE (rV _) _ _|exact rV _ _ _)
theorem IM(fl:Bool):∀(l:List aB) (k:List aB->Prop),KH fl l k=k l
 |[],_=>rfl
 |v::vs,k=>by unfold KH;rw[Vg,IM fl vs]
theorem xD(fl:Bool)(s:St)(k:St->Prop):zh fl s k=k s:=by unfold zh;rw[vw,IK,IM]
theorem IN(s:St)(k:St->Prop):ES s k=k s:=xD false s k
def Qw(n:Nat)(s:St)(k:St->Prop):Prop:=bif Nat.beq n 700 then zh true s k else bif Nat.beq n 701 then zh false s k else k s
theorem IP(n:Nat)(s:St)(k:St->Prop):Qw n s k=k s:=by
 unfold Qw;cases Nat.beq n 700
 ·cases Nat.beq n 701
  ·rfl
  ·exact xD _ _ _
 ·exact xD _ _ _
def qea(fr:List AV):Op->Bool
 | .load _ x=>match ev fr x with
  | .own _ _=>true
  |_=>false
 |_=>false
def uf:Op->Bool
 | .load _ _=>true
 |_=>false
def hasDep(all:Array Oper)(D:List Nat)(j:Nat):Bool:=match all[j]? with
 |some oj=>oj.after.any fun e=>Region.binds .any e&&ck e.on D
 |none=>false
def TB(all:Array Oper)(L:List Nat):Nat->List Nat->List Nat
 |0,D=>D
 |n+1,D=>TB all L n (D++(List.range all.size).filter fun j=>!ck j L&& !ck j D&&hasDep all D j)
def fD(C:Ctx)(o:Oper):Bool:=o.guard.isNone&&(match o.dst with
 |some t=>!ue t (o.op.operands.toList.filterMap Np)
 |none=>false)&&match o.op with
 | .alloc _=>true
 | .buildSlice t _ _=>!C.Qt t&& !KC C o.op
 |_=>false
def Bc(all:Array Oper)(L:List Nat)(q p:Nat):Bool:=!ck q L&&(match all[q]? with
 |some oq=>(match oq.op with
  | .alloc _=>true
  |_=>false)&&oq.guard.isNone&&oq.dst==some p&&(List.range all.size).all (fun r=>r==q||match all[r]? with
   |some o=>!(o.dst==some p)
   |none=>true)
 |none=>false)
def KI(all:Array Oper)(L:List Nat)(o:Oper):Bool:=match o.op with
 | .store _ (.tmp p) _=>(List.range all.size).any fun q=>Bc all L q p&&o.after.any (fun e=>Region.binds .any e&&e.on==q)
 |_=>false
def D0(C:Ctx)(all:Array Oper)(L D:List Nat)(i:Nat)(oi:Oper):Bool:=
 (D.all fun d=>!ck d L&&(d==i||hasDep all D d))&&(List.range all.size).all fun j=>j==i||ck j L||ck j D||match all[j]? with
   |some oj=>(uf oj.op||fD C oj||KI all L oj)&&oi.apart all oj
   |none=>true
def qeb(j:Nat):AV->Bool
 | .sl k=>Nat.beq k j
 |_=>false
def Zq(q:Nat):Option Tmp->Bool
 |some d=>!Nat.beq d q
 |none=>true
def TC(j:Nat)(fr Zr:List AV)(d:Option Tmp):Nat->Bool
 |0=>false
 |q+1=>(Zq q d&&qeb j (bX fr q)&&qeb j (bX Zr q))||TC j fr Zr d q
def Zs(t:Ty)(x:t.den)(u:Ty)(y:u.den):Bool:=
 match t,u,x,y with
 | .str,.str,x,y=>decide ((x:List Int)=(y:List Int))
 | .int k,.int k',x,y=>decide (k=k')&&decide ((x:Int)=(y:Int))
 |_,_,_,_=>false
def EU(fr Zr:List AV)(d:Option Tmp):AV->AV->Bool
 | .iX,.iX=>true
 | .d t x,.d u y=>Zs t x u y
 | .sl j,.sl k=>Nat.beq j k&&TC j fr Zr d (dg fr)
 |_,_=>false
def qG(C:Ctx)(fr:List AV)(h:List aB):Op->Option AV
 | .load t x=>match CC C h t (ev fr x) with
  |some r=>some r.v
  |none=>none
 |_=>none
def qec:Option AV->Bool
 |some .iX=>true
 |some (.sl _)=>true
 |some (.d .str _)=>true
 |some (.d (.int _) _)=>true
 |_=>false
def Nq(C:Ctx)(all:Array Oper)(L:List Nat)(s:St)(i f:Nat):Bool:=
 match all[i]?,all[f]? with
 |some oi,some o=>qea s.top oi.op&&oi.guard.isNone&&qec (qG C s.top s.heap oi.op)&&oi.apart all o&& !Nat.beq i f&&(match dI all (i::L) all.size with
  |[g]=>Nat.beq g f
  |_=>false)
 |_,_=>false
def Zt(C:Ctx)(all:Array Oper)(L:List Nat)(s:St)(n:Nat):List Nat->Option (Nat×Nat)
 |[p,q]=>match n with
  |0=>none
  |_+1=>match (C.hint 999999997).CB 0 with
   |0=>none
   |_+1=>if C.oN then (if Nq C all L s p q then some (p,q) else if Nq C all L s q p then some (q,p) else none) else none
 |_=>none
def TD(C:Ctx):Mode:=match (C.hint 999999997).CB 0 with
 |0=>.split
 |_=>.force
def rX(C:Ctx)(all:Array Oper)(i:Nat):Bool:=match all[i]? with
 |some o=>fD C o
 |none=>false
def wQ(C:Ctx)(L:List Nat):List Oper->Nat->List AV->List AV
 |[],_,fr=>fr
 |o::os,i,fr=>wQ C L os (i+1) (if fD C o&& !ck i L then (match o.dst with
  |some t=>eN fr t .bJ
  |none=>fr) else fr)
def St.bJ(C:Ctx)(all:Array Oper)(L:List Nat)(s:St):St:={s with top:=wQ C L all.toList 0 s.top}
def qlm(C:Ctx)(all:Array Oper)(L:List Nat)(s:St)(p:Nat):Bool:=match all[p]? with
 |some o=>fD C o&&(match DC C s.top s.heap o.op with
  |some _=>true
  |none=>false)&&(List.range all.size).all (fun j=>j==p||ck j L||match all[j]? with
  |some oj=>oj.after.any (fun e=>Region.binds .any e&&e.on==p)||o.apart all oj
  |none=>true)
 |none=>false
def KJ(C:Ctx)(all:Array Oper)(L R D:List Nat)(s:St):Bool:=
 D.all (qlm C all L s)&&(List.range all.size).all fun x=>ck x L||ck x R||match all[x]? with
  |some o=>(fN o).any fun e=>!ck e L&& !ck e D
  |none=>true
def xE(C:Ctx)(all:Array Oper):List Nat->List Nat
 |[]=>[]
 |i::l=>if rX C all i then xE C all l else i::xE C all l
def minus(M:List Nat):List Nat->List Nat
 |[]=>[]
 |i::l=>if ck i M then minus M l else i::minus M l
def qj(C:Ctx)(all:Array Oper)(R:List Nat):List Nat:=match xE C all R with
 |[]=>(match R with
  |r::_=>[r]
  |[]=>[])
 |l=>l
def Nr(C:Ctx)(all:Array Oper)(L R:List Nat)(s:St):Option (List Nat):=
 if R.any (rX C all) then (if KJ C all L R (minus (qj C all R) R) s then some (qj C all R) else some R) else none
def KL(C:Ctx)(s:St)(all:Array Oper)(L:List Nat)(i:Nat):Bool:=
 match all[i]? with
 |none=>false
 |some oi=>qea s.top oi.op&&oi.guard.isNone&&(match qG C s.top s.heap oi.op with
  |some _=>true
  |none=>false)&&D0 C all L (TB all L all.size [i]) i oi
def KM(C:Ctx)(s:St)(all:Array Oper)(L:List Nat):List Nat->Option Nat
 |[]=>none
 |i::l=>if KL C s all L i then some i else KM C s all L l
def qgV(C:Ctx)(call:gk)(all:Array Oper)(n:Nat)(L:List Nat)(k:St->Prop)(rec:List Nat->St->Prop)(s:St):Prop:=
 if EP (dI all L all.size) then k s else
  match Zl s.top all L (dI all L all.size) with
  |some i=>tC all i fun o=>match DC C s.top s.heap o.op with
   |some r=>IF r.need (rec (i::L) (s.put o.dst r.v))
   |none=>False
  |none=>match KM C s all L (dI all L all.size) with
  |some i=>tC all i fun o=>qF C call (TD C) all [o] s (fun s'=>rec (i::L) s')
  |none=>match Nr C all L (dI all L all.size) s with
   |some R=>Tx (fun i=>tC all i fun o=>if fD C o then (match DC C s.top s.heap o.op with
    |some r=>IF r.need (rec (i::L) ((s.apply r).put o.dst r.v))
    |none=>False)
    else qF C call (TD C) all [o] s (fun s'=>rec (i::L) s')) R
   |none=>match Zt C all L s n (dI all L all.size) with
    |some (i,f)=>tC all i fun oi=>tC all f fun o=>qF C call (TD C) all [o] s (fun s'=>match qG C s.top s.heap oi.op,qG C s'.top s'.heap oi.op with
     |some x,some y=>if EU s.top s'.top o.dst x y then rec (f::L) s' else False
     |_,_=>False)
    |none=>Tx (fun i=>tC all i fun o=>qF C call (TD C) all [o] s (fun s'=>rec (i::L) s')) (dI all L all.size)
def Ns(C:Ctx)(call:gk)(all:Array Oper):Nat->List Nat->St->(St->Prop)->Prop
 |0,L,s,k=>if EP (dI all L all.size) then k (s.bJ C all L) else False
 |n+1,L,s,k=>ES (s.bJ C all L) fun s=>qgV C call all n L k (fun L' s'=>Ns C call all n L' s' k) s
def qhW:Mode->Bool
 | .all=>true
 |_=>false
def Zu(C:Ctx)(call:gk)(md:Mode)(ops:Array Oper)(s:St)(k:St->Prop):Prop:=
 if qhW md then (if C.P.follows .mixedOrders&&(Region.noSelect ops&&Tz ops) then Ns C call ops ops.size [] s k else False) else
 if Zk ops (ji ops)&&C.P.follows .mixedOrders then
  wD C md (HW.mk' ops s.heap (ops.toList.take (ji ops))) (ops.toList.take (ji ops)) 0 [] [] s (fun s'=>qF C call md ops (ops.toList.drop (ji ops)) s' k)
 else False
def EV:Operand->AV->St->St
 | .tmp t,v,s=>s.put (some t) v
 |_,_,s=>s
def zi:List Oper->List Nat
 |[]=>[]
 |o::os=>match o.dst with|some t=>t::zi os|none=>zi os
def mkW:Nat:=99999
def kr:Code->List Nat
 | .region _ ops _=>zi ops.toList
 | .seq a b=>kr a++kr b
 | .cond _ a b=>kr a++kr b
 | .block _ c| .loop c| .scope c=>kr c
 | .rangeFunc _ _ _ _=>[mkW]
 |_=>[]
def kL:Code->Option Nat
 | .region i _ _=>some i
 | .seq a b=>match kL a with|some i=>some i|none=>kL b
 | .cond _ a b=>match kL a with|some i=>some i|none=>kL b
 | .block _ c| .loop c| .scope c=>kL c
 |_=>none
def tD(s:St):(a:LA)->Option a.ty.den
 | .slot i t=>if gB [bX s.top i] then AZ s.heap t (bX s.top i) else none
 | .cell k off t=>match aH s.heap k with
  | .cells cs=>if !t.isAgg&&gB [bX cs off]&&Nat.ble (off+1) (dg cs) then Kp s.heap t (bX cs off) else none
  |_=>none
 | .dF i tid e=>match bX s.top i with
  | .sl k=>match aH s.heap k with
   | .grow tid' e' xs=>if Nat.beq tid tid' then bR (.arr e') (.arr e) xs else none
   |_=>none
  | .fs e' xs=>bR (.arr e') (.arr e) xs
  |_=>none
 | .kY k off tid e=>match aH s.heap k with
  | .cells cs=>match bX cs off with
   | .sl j=>match aH s.heap j with
    | .grow tid' e' xs=>if Nat.beq tid tid' then bR (.arr e') (.arr e) xs else none
    |_=>none
   |_=>none
  |_=>none
 | .keep k tid e=>match aH s.heap k with
  | .grow tid' e' xs=>if Nat.beq tid tid' then bR (.arr e') (.arr e) xs else none
  |_=>none
 | .kmp k e=>match aH s.heap k with
  | .dmap e' m=>bR (.arr (.pair (.int .i64) e')) (.arr (.pair (.int .i64) e)) m
  |_=>none
 | .kit k e=>match aH s.heap k with
  | .eo e' _ m=>bR (.arr (.pair (.int .i64) e')) (.arr (.pair (.int .i64) e)) m
  |_=>none
 | .aT k t=>match aH s.heap k with
  | .dat u x=>bR u t x
  |_=>none
 | .H7 k=>match aH s.heap k with
  | .eu n rest=>some (n,rest)
  |_=>none
 | .nN i tid e=>match bX s.top i with
  | .sl k=>match aH s.heap k with
   | .xb (.xx tid' e' xs)=>if Nat.beq tid tid' then bR (.arr e') (.arr e) xs else none
   |_=>none
  |_=>none
 | .IB k=>match aH s.heap k with
  | .xb (.jP m)=>some m
  |_=>none
def lf(s:St):(as:List LA)->Option (dens (jD as))
 |[]=>some ()
 |[a]=>tD s a
 |a::b::as=>
  match tD s a with
  |some x=>match lf s (b::as) with
   |some y=>some (x,y)
   |none=>none
  |none=>none
def EW(s:St):LA->St
 | .dF i tid e=>match bX s.top i with
  | .iX=>{s with top:=eN s.top i (.sl (hlen s.heap)),heap:=s.heap++[.grow tid e []]}
  |_=>s
 | .kY k off tid e=>match aH s.heap k with
  | .cells cs=>match bX cs off with
   | .iX=>{s with heap:=bw (s.heap++[.grow tid e []]) k (.cells (eN cs off (.sl (hlen s.heap))))}
   |_=>s
  |_=>s
 | .cell k off (.arr e)=>match aH s.heap k with
  | .cells cs=>match bX cs off with
   | .iX=>{s with heap:=bw s.heap k (.cells (eN cs off (.d (.arr e) [])))}
   |_=>s
  |_=>s
 |_=>s
def cM(s:St):List LA->St
 |[]=>s
 |a::as=>cM (EW s a) as
def H8(i:Nat):List Nat->Bool
 |[]=>false
 |j::l=>Nat.beq i j||H8 i l
def TE(ks:List Nat):AV->AV
 | .tX _ _ _=>.bJ
 | .sv _ _ _ _=>.bJ
 | .DS _ _ _ _=>.bJ
 | .yX _ _ _ _ _=>.bJ
 | .lI _ _ _ _=>.bJ
 | .DT _ _=>.bJ
 | .sl k=>if H8 k ks then .bJ else .sl k
 |v=>v
def forget(ks:List Nat)(w:List Nat):Nat->List AV->List AV
 |_,[]=>[]
 |i,v::vs=>(if H8 i w then .bJ else TE ks v)::forget ks w (i+1) vs
def EX(ks:List Nat):List AV->List AV
 |[]=>[]
 |v::vs=>TE ks v::EX ks vs
def ug(ks:List Nat):List (List AV)->List (List AV)
 |[]=>[]
 |f::fs=>EX ks f::ug ks fs
mutual
def zj(ks:List Nat):AV->AV
 | .own k o=>.own k o
 | .sl k=>if H8 k ks then .bJ else .sl k
 | .fn f cs=>.fn f (uj ks cs)
 | .xw f cs=>.xw f (uj ks cs)
 | .qd k=>.qd k
 | .iX=>.iX
 | .nk=>.nk
 | .nq=>.nq
 | .rp t x=>if Nat.ble 8 t.cells then .rp t x else .bJ
 |_=>.bJ
def uj(ks:List Nat):List AV->List AV
 |[]=>[]
 |v::vs=>zj ks v::uj ks vs
end
mutual
def gC:AV->AV->Bool
 | .own k o,b=>match b with| .own k' o'=>Nat.beq k k'&&Nat.beq o o'|_=>false
 | .sl k,b=>match b with| .sl k'=>Nat.beq k k'|_=>false
 | .fn f cs,b=>match b with| .fn f' ds=>Nat.beq f f'&&oQ cs ds|_=>false
 | .xw f cs,b=>match b with| .xw f' ds=>Nat.beq f f'&&oQ cs ds|_=>false
 | .qd k,b=>match b with| .qd k'=>Nat.beq k k'|_=>false
 | .iX,b=>match b with| .iX=>true|_=>false
 | .nk,b=>match b with| .nk=>true|_=>false
 | .nq,b=>match b with| .nq=>true|_=>false
 | .rp _ _,b=>match b with| .rp _ _=>true|_=>false
 | .bJ,_=>true
 |_,_=>false
def oQ:List AV->List AV->Bool
 |[],b=>match b with|[]=>true|_=>false
 |c::cs,b=>match b with|d::ds=>gC c d&&oQ cs ds|[]=>false
end
mutual
def tE:AV->AV->Prop->Prop
 | .rp t x,b,q=>match b with
  | .rp u y=>match bR t u x with
   |some z=>z=y/\q
   |none=>False
  |_=>False
 | .fn _ cs,b,q=>match b with| .fn _ ds=>qH cs ds q|_=>q
 | .xw _ cs,b,q=>match b with| .xw _ ds=>qH cs ds q|_=>q
 |_,_,q=>q
def qH:List AV->List AV->Prop->Prop
 |[],_,q=>q
 |c::cs,b,q=>match b with|d::ds=>tE c d (qH cs ds q)|[]=>q
end
def EY:aB->aB->Prop->Prop
 | .cells cs,b,q=>match b with| .cells ds=>qH cs ds q|_=>q
 |_,_,q=>q
def lY:List aB->List aB->Prop->Prop
 |[],_,q=>q
 |b::h,l,q=>match l with|c::h'=>EY b c (lY h h' q)|[]=>q
def IQ(k:Nat):List AV->Bool
 |[]=>false
 | .qd j::l=>Nat.beq j k||IQ k l
 |_::l=>IQ k l
def rY(k:Nat):List (List AV)->Bool
 |[]=>false
 |f::fs=>IQ k f||rY k fs
def qhX:AV->Bool
 | .fn _ []=>true
 |_=>false
def Qx:List (KK×AV)->Bool
 |[]=>true
 |p::l=>qhX p.2&&Qx l
def jI(ks:List Nat)(fs:List (List AV)):Nat->List aB->List aB
 |_,[]=>[]
 |i,.cells cs::h=>.cells (uj ks cs)::jI ks fs (i+1) h
 |i,.fH es::h=>(if Qx es then .fH es else .gone)::jI ks fs (i+1) h
 |i,.loop f p ph ts::h=>(if rY i fs then .loop f p ph (EX ks ts) else .gone)::jI ks fs (i+1) h
 |i,_::h=>.gone::jI ks fs (i+1) h
def qI(s0:St):LA->Option Nat
 | .dF i _ _=>match bX s0.top i with
  | .sl k=>some k
  |_=>none
 | .nN i _ _=>match bX s0.top i with
  | .sl k=>some k
  |_=>none
 | .kY k off _ _=>match aH s0.heap k with
  | .cells cs=>match bX cs off with
   | .sl j=>some j
   |_=>none
  |_=>none
 |_=>none
def wE(s0:St):List LA->List Nat
 |[]=>[]
 |a::as=>match qI s0 a with
  |some k=>k::wE s0 as
  |none=>wE s0 as
def gp(s0 s:St):(a:LA)->a.ty.den->St
 | .slot i t,x=>{s with top:=eN s.top i (.d t x)}
 | .cell k off t,x=>match aH s.heap k with
  | .cells cs=>{s with heap:=bw s.heap k (.cells (eN cs off (.d t x)))}
  |_=>s
 | .dF i tid e,xs=>match qI s0 (.dF i tid e) with
  |some k=>{s with top:=eN s.top i (.sl k),heap:=bw s.heap k (.grow tid e xs)}
  |none=>s
 | .kY k off tid e,xs=>match qI s0 (.kY k off tid e) with
  |some j=>match aH s.heap k with
   | .cells cs=>{s with heap:=bw (bw s.heap k (.cells (eN cs off (.sl j)))) j (.grow tid e xs)}
   |_=>s
  |none=>s
 | .keep k tid e,xs=>{s with heap:=bw s.heap k (.grow tid e xs)}
 | .kmp k e,xs=>{s with heap:=bw s.heap k (.dmap e xs)}
 | .kit k e,xs=>{s with heap:=bw s.heap k (.eo e [] xs)}
 | .aT k t,x=>{s with heap:=bw s.heap k (.dat t x)}
 | .H7 k,x=>{s with heap:=bw s.heap k (.eu x.1 x.2)}
 | .nN i tid e,xs=>match qI s0 (.nN i tid e) with
  |some k=>{s with top:=eN s.top i (.sl k),heap:=bw s.heap k (.xb (.xx tid e xs))}
  |none=>s
 | .IB k,m=>{s with heap:=bw s.heap k (.xb (.jP m))}
def Qy(s0 s:St):(as:List LA)->dens (jD as)->St
 |[],_=>s
 |[a],x=>gp s0 s a x
 |a::b::as,x=>Qy s0 (gp s0 s a x.1) (b::as) x.2
def tF(s0:St)(w:List Nat)(as:List LA):St:=
 {top:=forget (wE s0 as) w 0 s0.top,below:=ug (wE s0 as) s0.below,heap:=jI (wE s0 as) (forget (wE s0 as) w 0 s0.top::ug (wE s0 as) s0.below) 0 s0.heap}
def oR(s0:St)(w:List Nat)(as:List LA)(x:dens (jD as)):St:=Qy s0 (tF s0 w as) as x
mutual
def still:AV->AV->Bool
 | .own k o,b=>match b with| .own k' o'=>Nat.beq k k'&&Nat.beq o o'|_=>false
 | .sl k,b=>match b with| .sl k'=>Nat.beq k k'|_=>false
 | .tX _ _ _,_=>false
 | .sv _ _ _ _,_=>false
 | .DS _ _ _ _,_=>false
 | .yX _ _ _ _ _,_=>false
 | .lI _ _ _ _,_=>false
 | .DT _ _,_=>false
 | .qd k,b=>match b with| .qd k'=>Nat.beq k k'|_=>false
 | .agg cs,b=>match b with| .agg cs'=>rZ cs cs'|_=>false
 | .lW cs,b=>match b with| .lW cs'=>rZ cs cs'|_=>false
 | .fn _ cs,b=>match b with| .fn _ cs'=>rZ cs cs'|_=>false
 | .xw _ cs,b=>match b with| .xw _ cs'=>rZ cs cs'|_=>false
 |_,_=>true
def rZ:List AV->List AV->Bool
 |[],_=>true
 |c::cs,b=>match b with|c'::cs'=>still c c'&&rZ cs cs'|[]=>false
end
def KN(w:List Nat):Nat->List AV->List AV->Bool
 |_,[],_=>true
 |i,v::vs,b=>match b with|v'::vs'=>(H8 i w||still v v')&&KN w (i+1) vs vs'|[]=>false
def KO:List (List AV)->List (List AV)->Bool
 |[],_=>true
 |f::fs,b=>match b with|f'::fs'=>rZ f f'&&KO fs fs'|[]=>false
def KP(s0 s:St):List LA->Bool
 |[]=>true
 |a::as=>(match a with
  | .slot _ _| .cell _ _ _=>true
  |a=>match qI s0 a,qI s a with
   |some j,some k=>Nat.beq j k
   |none,_=>true
   |_,_=>false)&&KP s0 s as
def qgW:Ex->Ex->Bool
 | .normal,.normal=>true
 | .exit i,.exit j=>Nat.beq i j
 | .ret,.ret=>true
 |_,_=>false
def Zv:Ph->Ph->Bool
 | .ready,.ready=>true
 | .busy,.busy=>true
 | .done e,.done e'=>qgW e e'
 | .exhausted,.exhausted=>true
 |_,_=>false
def vz:List Nat->List Nat->Bool
 |[],[]=>true
 |a::l,b::m=>Nat.beq a b&&vz l m
 |_,_=>false
def TF:AV->AV->Bool
 | .fn f [],.fn g []=>Nat.beq f g
 |_,_=>false
def zk:List (KK×AV)->List (KK×AV)->Bool
 |[],[]=>true
 |p::l,q::k=>qd8 p.1 q.1&&TF p.2 q.2&&zk l k
 |_,_=>false
def oS:aB->aB->Bool
 | .gone,_=>true
 | .cells cs,b=>match b with| .cells ds=>oQ cs ds|_=>false
 | .fH es,b=>match b with| .fH fs=>zk es fs|_=>false
 | .loop f p ph ts,b=>match b with| .loop f' p' Zw ts'=>Nat.beq f f'&&vz p p'&&Zv ph Zw&&rZ ts ts'&&Nat.beq (dg ts) (dg ts')|_=>false
 | .grow _ _ _,_=>false
 | .dmap _ _,_=>false
 | .eo _ _ _,_=>false
 | .log _ _ _ _,_=>false
 | .kV _ _ _,_=>false
 | .dat _ _,_=>false
 | .eu _ _,_=>false
 | .xb _,_=>false
def r6:List aB->List aB->Bool
 |[],_=>true
 |b::h,c::h'=>oS b c&&r6 h h'
 |_::_,[]=>false
def fits(as:List LA)(w:List Nat)(s0 s:St):Bool:=
 KN w 0 (forget (wE s0 as) w 0 s0.top) s.top&&KO (ug (wE s0 as) s0.below) s.below&&KP s0 s as&&r6 (tF s0 w as).heap s.heap
def TG(as:List LA)(w:List Nat)(body:(Ex->St->Prop)->St->Prop)(k:Ex->St->Prop)(s:St):Prop:=
 match lf (cM s as) as with
 |none=>False
 |some x0=>if fits as w (cM s as) (cM s as) then ∃(I:dens (jD as)->Prop) (μ:dens (jD as)->Nat),I x0/\∀x,I x->
  body (fun e s'=>match e with
   | .normal=>match lf s' as with
    |some x'=>if fits as w (cM s as) s' then lY (tF (cM s as) w as).heap s'.heap (I x'/\μ x'<μ x) else False
    |none=>False
   |e=>k e s') (oR (cM s as) w as x)
  else False
def KQ(body:(Ex->St->Prop)->St->Prop)(k:Ex->St->Prop):Nat->St->Prop
 |0,_=>False
 |n+1,s=>body (fun e s'=>match e with| .normal=>KQ body k n s'|e=>k e s') s
def j8:Code->Nat->Option Code
 | .seq a b,i=>if Nat.beq i 0 then some a else some b
 | .cond _ a b,i=>if Nat.beq i 0 then some a else some b
 | .block _ c,_=>some c
 | .loop c,_=>some c
 | .scope c,_=>some c
 | .rangeFunc _ _ a b,i=>if Nat.beq i 0 then some a else some b
 |_,_=>none
def iZ(P:Program)(f:FuncId):List Nat->Option Code
 |[]=>match P.funcs[f]? with
  |some fn=>fn.body
  |none=>none
 |i::p=>match iZ P f p with
  |some c=>j8 c i
  |none=>none
def iI(h:List aB)(j:Nat)(ph:Ph):List aB:=
 match aH h j with
 | .loop f p _ ts=>bw h j (.loop f p ph ts)
 |_=>h
def r7(s:St):Option St:=
 match s.below with
 |f::fs=>some {top:=f,below:=fs,heap:=s.heap}
 |[]=>none
def named(j:Nat)(s:St):Option St:=
 match s.top with
 |[.qd i]=>if Nat.beq i j then r7 s else none
 |_=>none
def Qz(j:Nat)(s:St):Bool:=
 match s.below with
 |[.qd i]::_=>Nat.beq i j
 |_=>false
def cV(h:List aB):List LA->(List LA->Prop)->Prop
 |[],k=>k []
 | .keep j tid e::as,k=>match aH h j with
  | .grow _ _ _=>cV h as (fun l=>k (.keep j tid e::l))
  |_=>cV h as k
 | .kmp j e::as,k=>match aH h j with
  | .dmap _ _=>cV h as (fun l=>k (.kmp j e::l))
  |_=>cV h as k
 | .kit j e::as,k=>match aH h j with
  | .eo _ _ _=>cV h as (fun l=>k (.kit j e::l))
  |_=>cV h as k
 | .aT j e::as,k=>match aH h j with
  | .dat _ _=>cV h as (fun l=>k (.aT j e::l))
  |_=>cV h as k
 | .H7 j::as,k=>match aH h j with
  | .eu _ _=>cV h as (fun l=>k (.H7 j::l))
  |_=>cV h as k
 | .IB j::as,k=>match aH h j with
  | .xb (.jP _)=>cV h as (fun l=>k (.IB j::l))
  |_=>cV h as k
 | .nN i t e::as,k=>cV h as (fun l=>k (.nN i t e::l))
 | .slot i t::as,k=>cV h as (fun l=>k (.slot i t::l))
 | .cell i o t::as,k=>match aH h i with
  | .cells _=>cV h as (fun l=>k (.cell i o t::l))
  |_=>cV h as k
 | .dF i t e::as,k=>cV h as (fun l=>k (.dF i t e::l))
 | .kY i o t e::as,k=>match aH h i with
  | .cells _=>cV h as (fun l=>k (.kY i o t e::l))
  |_=>cV h as k
theorem br{h:List aB}:∀{as:List LA} {k:List LA->Prop},cV h as k->∃l,k l
 |[],_,hk=>⟨[],hk⟩
 | .keep j tid e::as,k,hk=>by
  unfold cV at hk;split at hk
  ·obtain⟨l,hl⟩:=br hk;exact⟨_,hl⟩
  ·exact br hk
 | .kmp j e::as,k,hk=>by
  unfold cV at hk;split at hk
  ·obtain⟨l,hl⟩:=br hk;exact⟨_,hl⟩
  ·exact br hk
 | .kit j e::as,k,hk=>by
  unfold cV at hk;split at hk
  ·obtain⟨l,hl⟩:=br hk;exact⟨_,hl⟩
  ·exact br hk
 | .aT j e::as,k,hk=>by
  unfold cV at hk;split at hk
  ·obtain⟨l,hl⟩:=br hk;exact⟨_,hl⟩
  ·exact br hk
 | .H7 j::as,k,hk=>by
  unfold cV at hk;split at hk
  ·obtain⟨l,hl⟩:=br hk;exact⟨_,hl⟩
  ·exact br hk
 | .IB j::as,k,hk=>by
  unfold cV at hk;split at hk
  ·obtain⟨l,hl⟩:=br hk;exact⟨_,hl⟩
  ·exact br hk
 | .slot i t::as,k,hk=>by obtain⟨l,hl⟩:=br (as:=as) hk;exact⟨_,hl⟩
 | .nN i t e::as,k,hk=>by obtain⟨l,hl⟩:=br (as:=as) hk;exact⟨_,hl⟩
 | .cell i o t::as,k,hk=>by
  unfold cV at hk;split at hk
  ·obtain⟨l,hl⟩:=br hk;exact⟨_,hl⟩
  ·exact br hk
 | .dF i t e::as,k,hk=>by obtain⟨l,hl⟩:=br (as:=as) hk;exact⟨_,hl⟩
 | .kY i o t e::as,k,hk=>by
  unfold cV at hk;split at hk
  ·obtain⟨l,hl⟩:=br hk;exact⟨_,hl⟩
  ·exact br hk
def TH:List aB->List Nat
 |[]=>[]
 | .cells cs::h=>cS cs++TH h
 |_::h=>TH h
def Ctx.ahead(C:Ctx)(f:FuncId)(id:Nat)(s:St):St:=
 bif Nat.beq ((C.hint f).CB id) 500 then s.c8 (cS s.top)
 else bif Nat.beq ((C.hint f).CB id) 501 then s.c8 (TH s.heap) else s
def Zx(x:Int)(i:Nat)(s:St)(k:St->Prop):Nat->Prop
 |0=>True
 |n+1=>(x=(n:Int)->k {s with top:=eN s.top i (.d (.int .i64) (n:Int))})/\Zx x i s k n
def Zy(m i:Nat)(s:St)(k:St->Prop):Prop:=
 match bX s.top i with
 | .d (.int .i64) x=>(0<=(x:Int)/\(x:Int)<(m:Int))/\Zx x i s k m
 |_=>False
def QA(t:Ty)(x:(Ty.pair (.int .i64) t).den)(b:Nat)(s:St)(k:St->Prop):Nat->Prop
 |0=>True
 |n+1=>(x.1=(n:Int)->k {s with heap:=bw s.heap b (.dat (.pair (.int .i64) t) ((n:Int),x.2))})/\QA t x b s k n
def Zz(m b:Nat)(s:St)(k:St->Prop):Prop:=
 match aH s.heap b with
 | .dat (.pair (.int .i64) t) x=>(0<=(x.1:Int)/\(x.1:Int)<(m:Int))/\QA t x b s k m
 |_=>False
def Ctx.fork(C:Ctx)(f:FuncId)(id:Nat)(s:St)(k:St->Prop):Prop:=
 if Nat.ble 100000 ((C.hint f).CB id) then Zz (Nat.mod (Nat.sub ((C.hint f).CB id) 100000) 16) (Nat.div (Nat.sub ((C.hint f).CB id) 100000) 16) s k else
 if Nat.ble 3000 ((C.hint f).CB id) then Zy (Nat.mod (Nat.sub ((C.hint f).CB id) 3000) 16) (Nat.div (Nat.sub ((C.hint f).CB id) 3000) 16) s k else k s
def xF(C:Ctx)(call:gk)(f:FuncId):List Nat->Code->(Ex->St->Prop)->St->Prop
 |_,.skip,k,s=>k .normal s
 |_,.label _,k,s=>k .normal s
 |_,.region id ops draw,k,s=>C.fork f id s (fun s=>Qw ((C.hint f).CB id) (C.ahead f id s) fun s=>if draw then Zu C call ((C.hint f).mode id) ops s (k .normal) else qF C call ((C.hint f).mode id) ops ops.toList s (k .normal))
 |p,.seq a b,k,s=>xF C call f (0::p) a (fun e s'=>match e with| .normal=>xF C call f (1::p) b k s'|e=>k e s') s
 |p,.cond c a b,k,s=>
  match ev s.top c with
  | .tt=>xF C call f (0::p) a k s
  | .ff=>xF C call f (1::p) b k s
  | .d .bool x=>xy ((C.hint f).cond c) x (xF C call f (0::p) a k (EV c .tt s)) (xF C call f (1::p) b k (EV c .ff s))
  |_=>False
 |p,.block id c,k,s=>xF C call f (0::p) c (fun e s'=>match e with| .exit i=>if Nat.beq i id then k .normal s' else k (.exit i) s'|e=>k e s') s
 |p,.scope c,k,s=>xF C call f (0::p) c k s
 |_,.exit id,k,s=>k (.exit id) s
 |_,.ret,k,s=>k .ret s
 |p,.loop body,k,s=>
  match kL body with
  |some r=>match (C.hint f).CB r with
   |0=>cV s.heap ((C.hint f).A8 r) (fun as=>TG as (kr body) (xF C call f (0::p) body) k s)
   |n=>if Nat.beq n 1000 then xF C call f (0::p) body (fun e s'=>match e with
    | .normal=>cV s'.heap ((C.hint f).A8 r) (fun as=>TG as (kr body) (xF C call f (0::p) body) k s')
    |e=>k e s') s
    else KQ (xF C call f (0::p) body) k n s
  |none=>False
 |p,.rangeFunc g _ _ _,k,s=>
  match ev s.top g with
  | .fn h cap=>if jh C h&&C.oN then
   call (.fn h) (.qd (hlen s.heap)::cap) {top:=[.qd (hlen s.heap)],below:=s.top::s.below,heap:=s.heap++[.loop f p .ready s.top]} (fun _ s'=>
    match named (hlen s.heap) s' with
    |none=>False
    |some s1=>match aH s1.heap (hlen s.heap) with
     | .loop _ _ .ready _=>k .normal {s1 with heap:=iI s1.heap (hlen s.heap) .exhausted}
     | .loop _ _ (.done e) _=>k e {s1 with heap:=iI s1.heap (hlen s.heap) .exhausted}
     |_=>False)
   else False
  |_=>False
 |_,_,_,_=>False
def Nt(C:Ctx)(s:St):List ResultVar->Option (List AV)
 |[]=>some []
 | .tmp t::rs=>match Nt C s rs with
  |some l=>some (bX s.top t::l)
  |none=>none
 | .cell a t::rs=>match bX s.top a with
  | .own k off=>match aH s.heap k with
   | .cells cs=>match zf C t cs off,Nt C s rs with
    |some v,some l=>some (v::l)
    |_,_=>none
   | .dat u x=>match C.lay t with
    |some (ag,n)=>match Nn u x off n ag,Nt C s rs with
     |some v,some l=>some (v::l)
     |_,_=>none
    |none=>none
   |_=>none
  |_=>none
def qlo:List AV->AV
 |[v]=>v
 |vs=>.lW vs
def ZA:List AV->Nat->List AV
 |[],n=>List.replicate n .lO
 |v::vs,n=>v::ZA vs (n-1)
def contract(sp:aJ)(args:List AV)(s:St)(k:AV->St->Prop):Prop:=
 match lJ s.heap sp.ps (bif mN sp.rs then A7 s.heap args else args) with
 |none=>False
 |some x=>sp.pre x/\k (nV sp.rs (sp.post x)) (if mN sp.rs then s else s.c8 (cS args))
def vA(g:cL)(args:List AV)(s:St)(k:AV->St->Prop):Prop:=
 match lJ s.heap g.ps args with
 |none=>False
 |some x=>g.pre x/\k (.sl (hlen (s.c8 (cS args)).heap)) {s.c8 (cS args) with heap:=(s.c8 (cS args)).heap++[.grow g.tid g.e (g.post x)]}
def fin(C:Ctx)(fn:Func)(k:AV->St->Prop)(s':St):Prop:=
 match Nt C s' fn.results.toList with
 |none=>False
 |some vs=>match r7 s' with
  |none=>False
  |some s''=>k (qlo vs) s''
def qlp(l:List Nat):Bool:=!ue mkW l
def qlq(o:Oper):Option (Operand×List Operand):=
 match o.guard,o.dst,o.op with
 |none,none,.defer c=>match c.callee with
  | .value f=>some (f,c.args.toList)
  |_=>none
 |_,_,_=>none
def TJ:List Oper->Option (List Oper×Operand×List Operand)
 |[]=>none
 |o::l=>match l with
  |[]=>(match qlq o with
   |some d=>some ([],d)
   |none=>none)
  |_::_=>match TJ l with
   |some (p,d)=>some (o::p,d)
   |none=>none
def qhY:Code->Option (Nat×Array Oper×List Oper×Operand×List Operand)
 | .region id ops draw=>bif draw then none else match TJ ops.toList with
  |some (p,d)=>some (id,ops,p,d)
  |none=>none
 |_=>none
def ZB:Code->Bool
 | .seq x y=>(qhY x).isSome||ZB y
 |_=>false
def EZ(C:Ctx)(call:gk)(f:FuncId)(fn:Func)(code:Code)(args:List AV)(s:St)(k:AV->St->Prop):Prop:=
 if Nat.ble (dg args) fn.ntmps&&(C.oN||qlp (kr code)) then
  xF C call f [] code (fun e s'=>match e with| .exit _=>False|_=>fin C fn k s') {top:=ZA args fn.ntmps,below:=s.top::s.below,heap:=s.heap}
 else False
def nX(C:Ctx)(call:gk)(f:FuncId)(fn:Func)(args:List AV)(s:St)(k:AV->St->Prop):Prop:=
 match fn.body with
 |none=>False
 |some code=>if ZB code then False else EZ C call f fn code args s k
def IS:List AV->List Nat->List AV->List AV
 |ts,t::ps,v::vs=>IS (eN ts t v) ps vs
 |ts,_,_=>ts
def around(C:Ctx)(call:gk)(j:Nat)(args:List AV)(s:St)(k:AV->St->Prop):Prop:=
 if C.oN then match aH s.heap j with
 | .loop f p .ready ts=>match iZ C.P f p with
  |some (.rangeFunc _ ps as bd)=>
   if Nat.beq (dg args) (zl ps.toList) then
    xF C call f (0::p) as (fun e s1=>match e with
     | .normal=>if Qz j s1 then match aH s1.heap j with
      | .loop _ _ .ready _=>xF C call f (1::p) bd (fun e s2=>match r7 s2 with
       |none=>False
       |some s3=>match named j s3 with
        |none=>False
        |some s4=>match aH s4.heap j with
         | .loop _ _ .busy _=>match e with
          | .normal=>k .tt {s4 with heap:=iI s4.heap j .ready}
          |e=>k .ff {s4 with heap:=iI s4.heap j (.done e)}
         |_=>False) {s1 with heap:=iI s1.heap j .busy}
      |_=>False
      else False
     |_=>False) {top:=IS ts ps.toList args,below:=[.qd j]::s.top::s.below,heap:=s.heap}
   else False
  |_=>False
 |_=>False
 else False
where
 zl:List Nat->Nat
  |[]=>0
  |_::l=>zl l+1
def qhZ(j:Nat)(ys:List Ty)(Y:fM ys)(xs:List (tY ys).den)(args:List AV)(s:St)(k:AV->St->Prop):Prop:=
 match lJ s.heap ys args with
 |none=>False
 |some y=>if mH args then
  (∃rest,Y.items=xs++tZ ys y::rest)/\∀own,k .tt {s with heap:=bw s.heap j (.log ys Y own (xs++[tZ ys y]))}/\k .ff {s with heap:=bw s.heap j (.kV ys Y own)}
  else False
def ZC:aB->Type
 | .log ys _ _ _=>List (tY ys).den
 |_=>Unit
def uk:(b:aB)->(Nat->Prop)->ZC b->St->St
 | .log ys Y _ _,own,z,s=>{s with heap:=bw s.heap 0 (.log ys Y own z)}
 |_,_,_,s=>s
def Nu:(b:aB)->aB->(ZC b->Prop)->Prop
 | .log ys Y _ _,b',p=>∃own z,b'= .log ys Y own z/\p z
 | .kV _ _ _,_,p=>p ()
 | .gone,_,p=>p ()
 | .cells _,_,p=>p ()
 | .grow _ _ _,_,p=>p ()
 | .fH _,_,p=>p ()
 | .dmap _ _,_,p=>p ()
 | .eo _ _ _,_,p=>p ()
 | .loop _ _ _ _,_,p=>p ()
 | .dat _ _,_,p=>p ()
 | .eu _ _,_,p=>p ()
 | .xb _,_,p=>p ()
def uo(j:Nat)(s:St):Bool:=
 match s.top with
 |[.qd i]=>Nat.beq i j
 |_=>false
def QB(call:gk)(l5:jC)(x:dens l5.ps)(j:Nat)(s:St)(k:AV->St->Prop)(as:List LA):Prop:=
 match lf (cM s as) as with
 |none=>False
 |some x0=>if uo j s&&uo j (cM s as)&&fits as [] (cM s as) (cM s as) then
  ∃I:List (tY l5.ys).den->ZC (aH (cM s as).heap 0)->dens (jD as)->Prop,
   Nu (aH (cM s as).heap 0) (aH (cM s as).heap 0) (fun z=>I [] z x0)/\
   (∀xs y rest,l5.items x=xs++y::rest->∀own z v,I xs z v->call (.qd j) (outs l5.ys (AY l5.ys y)) (uk (aH (cM s as).heap 0) own z (oR (cM s as) [] as v)) (fun r s'=>match r with
     | .tt=>match lf s' as with
      |some v'=>if fits as [] (cM s as) s' then lY (tF (cM s as) [] as).heap s'.heap (Nu (aH (cM s as).heap 0) (aH s'.heap 0) (fun z'=>I (xs++[y]) z' v')) else False
      |none=>False
     | .ff=>k (.lW []) s'
     |_=>False))/\
   ∀own z v,I (l5.items x) z v->k (.lW []) (uk (aH (cM s as).heap 0) own z (oR (cM s as) [] as v))
  else False
def ZD(call:gk)(l5:jC)(x:dens l5.ps)(j:Nat)(s:St)(k:AV->St->Prop)(as:List LA):Prop:=
 ES (cM s as) fun s0=>match lf s0 as with
 |none=>False
 |some x0=>if uo j s&&uo j s0&&fits as [] s0 s0 then
  ∃I:List (tY l5.ys).den->ZC (aH s0.heap 0)->dens (jD as)->Prop,
   Nu (aH s0.heap 0) (aH s0.heap 0) (fun z=>I [] z x0)/\
   (∀xs y rest,l5.items x=xs++y::rest->∀own z v,I xs z v->ES (uk (aH s0.heap 0) own z (oR s0 [] as v)) fun σ=>call (.qd j) (outs l5.ys (AY l5.ys y)) σ (fun r s'=>match r with
     | .tt=>match lf s' as with
      |some v'=>if fits as [] s0 s' then lY (tF s0 [] as).heap s'.heap (Nu (aH s0.heap 0) (aH s'.heap 0) (fun z'=>I (xs++[y]) z' v')) else False
      |none=>False
     | .ff=>k (.lW []) s'
     |_=>False))/\
   ∀own z v,I (l5.items x) z v->ES (uk (aH s0.heap 0) own z (oR s0 [] as v)) fun σ=>k (.lW []) σ
  else False
theorem ZE(call:gk)(l5:jC)(x:dens l5.ps)(j:Nat)(s:St)(k:AV->St->Prop)(as:List LA):ZD call l5 x j s k as=QB call l5 x j s k as:=by
 unfold ZD QB;simp only[IN]
def QC(C:Ctx)(call:gk)(f:FuncId)(l5:jC)(args:List AV)(s:St)(k:AV->St->Prop):Prop:=
 match args with
 | .qd j::cap=>match CA l5.ps cap with
  |none=>False
  |some x=>l5.pre x/\cV s.heap ((C.hint f).A8 0) (ZD call l5 x j s k)
 |_=>False
mutual
def eqV:AV->AV->Prop
 | .bJ,b=>match b with| .bJ=>True|_=>False
 | .tt,b=>match b with| .tt=>True|_=>False
 | .ff,b=>match b with| .ff=>True|_=>False
 | .iX,b=>match b with| .iX=>True|_=>False
 | .nk,b=>match b with| .nk=>True|_=>False
 | .nq,b=>match b with| .nq=>True|_=>False
 | .d t x,b=>match b with| .d u y=>(match bR t u x with|some z=>z=y|none=>False)|_=>False
 | .rp t x,b=>match b with| .rp u y=>(match bR t u x with|some z=>z=y|none=>False)|_=>False
 | .own k o,b=>match b with| .own k' o'=>(match Nat.beq k k'&&Nat.beq o o' with|true=>True|false=>False)|_=>False
 | .fn f cs,b=>match b with| .fn g ds=>(match Nat.beq f g with|true=>ZF cs ds|false=>False)|_=>False
 | .xw f cs,b=>match b with| .xw g ds=>(match Nat.beq f g with|true=>ZF cs ds|false=>False)|_=>False
 |_,_=>False
def ZF:List AV->List AV->Prop
 |[],b=>match b with|[]=>True|_=>False
 |c::cs,b=>match b with|d::ds=>eqV c d/\ZF cs ds|[]=>False
end
def qh1(a b:AV):Prop:=
 match b with
 | .bJ=>True
 | .d t x=>(match a with
  | .tt=>(match bR .bool t true with|some z=>z=x|none=>False)
  | .ff=>(match bR .bool t false with|some z=>z=x|none=>False)
  | .fs e xs=>(match bR (.arr e) t xs with|some z=>z=x|none=>False)
  |a=>eqV a (.d t x))
 |b=>eqV a b
def qed:List AV->List AV->Prop
 |[],b=>match b with|[]=>True|_=>False
 |c::cs,b=>match b with|d::ds=>qh1 c d/\qed cs ds|[]=>False
def qee:List aB->List aB->Prop
 |_,[]=>True
 |[],_::_=>False
 |b::h,t::ts=>(match t with
  | .gone=>True
  | .cells ds=>(match b with| .cells cs=>qed cs ds|_=>False)
  |_=>False)/\qee h ts
def isCells:aB->Bool
 | .cells _=>true
 |_=>false
mutual
def YI(t:List aB):AV->Bool
 | .own k _=>isCells (aH t k)
 | .sl _=>false
 | .tX _ _ _=>false
 | .sv _ _ _ _=>false
 | .DS _ _ _ _=>false
 | .yX _ _ _ _ _=>false
 | .lI _ _ _ _=>false
 | .DT _ _=>false
 | .qd _=>false
 | .agg cs=>H9 t cs
 | .lW cs=>H9 t cs
 | .fn _ cs=>H9 t cs
 | .xw _ cs=>H9 t cs
 |_=>true
def H9(t:List aB):List AV->Bool
 |[]=>true
 |c::cs=>YI t c&&H9 t cs
end
def okH(t:List aB):List aB->Bool
 |[]=>true
 |b::bs=>(match b with| .cells cs=>H9 t cs| .gone=>true|_=>false)&&okH t bs
def KR:List aB->List aB->Bool
 |[],b=>match b with|[]=>true|_=>false
 |c::cs,b=>match b with|d::ds=>(isCells c==isCells d)&&KR cs ds|[]=>false
def E0:List aB->List aB->List aB
 |[],_=>[]
 |b::h,[]=>b::h
 |b::h,t::ts=>(match t with| .cells cs=>.cells cs|_=>b)::E0 h ts
def zm:List Ty->Nat
 |[]=>0
 |_::l=>zm l+1
def ZG(hsp:kZ)(x:dens hsp.ps)(y:dens (jD hsp.A8)):Bool:=
 okH (hsp.h y) (hsp.h y)&&H9 (hsp.h y) hsp.cap&&(okH (hsp.h (hsp.aft x y)) (hsp.h (hsp.aft x y))&&KR (hsp.h y) (hsp.h (hsp.aft x y)))
def ZH(hsp:kZ)(args:List AV)(s:St)(k:AV->St->Prop):Prop:=
 match lJ s.heap hsp.ps (takeN (zm hsp.ps) args),lf s hsp.A8 with
 |some x,some y=>if mH (takeN (zm hsp.ps) args)&&ZG hsp x y then
  ZF (yZ (zm hsp.ps) args) hsp.cap/\qee s.heap (hsp.h y)/\hsp.pre x y/\k (nV hsp.rs (hsp.post x y)) {s with heap:=E0 s.heap (hsp.h (hsp.aft x y))}
  else False
 |_,_=>False
def qh2(g:ua)(args:List AV)(s:St)(k:AV->St->Prop):Prop:=
 match args with
 |[.sl j,v,.sl j2]=>match aH s.heap j,aH s.heap j2,AZ s.heap g.p v with
  | .grow tid e xs,.grow qef e2 ys,some x=>if Nat.beq tid g.tid&&Nat.beq qef g.tid&&mH [v]&& !Nat.beq j j2 then match bR (.arr e) (.arr g.e) xs,bR (.arr e2) (.arr g.e) ys with
   |some zs,some us=>g.pre x zs us/\k (.sl j) (II s j (.grow g.tid g.e (g.post x zs us)))
   |_,_=>False
   else False
  |_,_,_=>False
 |_=>False
def Nv(rs:List Ty)(v:AV):Option (List AV):=match rs with
 |[]=>none
 |[_]=>some [v]
 |_=>match v with
  | .lW vs=>some vs
  |_=>none
def ZI(C:Ctx)(call:gk)(f:FuncId)(fn:Func)(rs:List Ty)(A8:List LA)(args:List AV)(s:St)(k:AV->St->Prop):Prop:=
 cV s.heap A8 fun as=>if fits as [] s s then ∃I:dens rs->dens (jD as)->Prop,
  nX C call f fn args s (fun v s'=>match Nv rs v with
   |none=>False
   |some vs=>if mH vs then match lJ s'.heap rs vs with
    |none=>False
    |some r=>match lf s' as with
     |none=>False
     |some x'=>if fits as [] s s' then lY (tF s [] as).heap s'.heap (I r x') else False
    else False)/\
  ∀r x,I r x->k (nV rs r) (oR s [] as x)
 else False
def uq(C:Ctx):Nat->gk
 |0,_,_,_,_=>False
 |n+1,.qd j,args,s,k=>match aH s.heap j with
  | .log ys Y _ xs=>qhZ j ys Y xs args s k
  |_=>around C (uq C n) j args s k
 |n+1,.fn f,args,s,k=>
  match C.Tp f with
  |some l5=>QC C (uq C n) f l5 args s k
  |none=>match C.fresh f with
   |some g=>vA g args s k
   |none=>match C.spec f with
    |some sp=>contract sp (rQ sp.ps args) s k
    |none=>match C.qgL f with
     |some _=>False
     |none=>match C.YZ f with
      |some _=>False
      |none=>match C.qle f with
       |some g=>(match args with
        | .iX::rest=>vA g rest s k
        |_=>False)
       |none=>match C.procs f with
        |some hsp=>ZH hsp args s k
        |none=>match C.muts f with
         |some _=>False
         |none=>match C.qlf f with
          |some _=>False
          |none=>match C.qhN f with
           |some g=>qh2 g args s k
           |none=>match C.P.funcs[f]? with
            |none=>False
            |some fn=>match C.qgM f with
             |none=>nX C (uq C n) f fn args s k
             |some j=>ZI C (uq C n) f fn j.1 j.2 args s k
def ZJ:AV->AV
 | .d t x=>match t,x with
  | .qi,f=>.fn f []
  |t,x=>.d t x
 |v=>v
def E1:List AV->List AV
 |[]=>[]
 |v::vs=>ZJ v::E1 vs
def aW(C:Ctx)(n:Nat)(f:FuncId)(sp:aJ)(x:dens sp.ps):Prop:=
 match C.oN with|false=>False|true=>match C.P.funcs[f]? with
 |none=>False
 |some fn=>nX C (uq C n) f fn (E1 (outs sp.ps x)) {top:=[],below:=[],heap:=[]} (fun v s'=>
  match (match sp.rs with
   |[]=>match v with| .lW []=>lJ s'.heap sp.rs []|_=>none
   |[_]=>lJ s'.heap sp.rs [v]
   |_=>match v with| .lW vs=>lJ s'.heap sp.rs vs|_=>none) with
  |some y=>y=sp.post x
  |none=>False)
def cz(C:Ctx)(n:Nat)(f:FuncId)(sp:cL)(x:dens sp.ps):Prop:=
 match C.oN with|false=>False|true=>match C.P.funcs[f]? with
 |none=>False
 |some fn=>nX C (uq C n) f fn (E1 (outs sp.ps x)) {top:=[],below:=[],heap:=[]} (fun v s'=>
  match v with
  | .sl k=>match aH s'.heap k with
   | .grow tid e xs=>if Nat.beq tid sp.tid then match bR (.arr e) (.arr sp.e) xs with
    |some ys=>ys=sp.post x
    |none=>False
    else False
   |_=>False
  | .iX=>[]=sp.post x
  |_=>False)
def mQ(C:Ctx)(n:Nat)(f:FuncId)(l5:jC)(x:dens l5.ps):Prop:=
 match C.oN with|false=>False|true=>match C.P.funcs[f]? with
 |none=>False
 |some fn=>∀(Y:fM l5.ys) (own:Nat->Prop),Y.items=l5.items x->nX C (uq C n) f fn (.qd 0::rps l5.ps x) {top:=[],below:=[],heap:=[.log l5.ys Y own []]} (fun v s'=>
  match v with
  | .lW []=>(∃bT,aH s'.heap 0= .log l5.ys Y bT (l5.items x))\/∃bT,aH s'.heap 0= .kV l5.ys Y bT
  |_=>False)
def oT:Nat->List aB->List AV
 |_,[]=>[]
 |k,b::bs=>(match b with| .cells _=>.own k 0|_=>.bJ)::oT (k+1) bs
def qgX(rs:List Ty)(h:List aB)(v:AV):Option (dens rs):=
 match rs with
 |[]=>match v with| .lW []=>lJ h [] []|_=>none
 |[t]=>lJ h [t] [v]
 |t::u::ts=>match v with| .lW vs=>lJ h (t::u::ts) vs|_=>none
def qW(rs:List Ty)(v:AV):List Nat:=
 match rs with
 |[_]=>cS [v]
 |_=>match v with| .lW vs=>cS vs|_=>[]
def wR(C:Ctx)(n:Nat)(f:FuncId)(hsp:kZ)(x:dens hsp.ps)(y:dens (jD hsp.A8)):Prop:=
 match C.oN with|false=>False|true=>match C.P.funcs[f]? with
 |none=>False
 |some fn=>if ZG hsp x y then nX C (uq C n) f fn (E1 (outs hsp.ps x)++hsp.cap) {top:=oT 0 (hsp.h y),below:=[],heap:=hsp.h y} (fun v s'=>
  match qgX hsp.rs s'.heap v with
  |some r=>r=hsp.post x y/\qee (s'.c8 (qW hsp.rs v)).heap (hsp.h (hsp.aft x y))/\(match oQ (oT 0 (hsp.h y)) (s'.c8 (qW hsp.rs v)).top with|true=>True|false=>False)
  |none=>False) else False
abbrev Pr:=Addr->Option Value
def strOf(l:List Int):ByteArray:=⟨(l.map fun n=>UInt8.ofNat n.toNat).toArray⟩
def gu{α:Type}(R:α->List Value->Prop):List α->List Value->Prop
 |[],vs=>vs=[]
 |x::xs,vs=>∃c vs',vs=c++vs'/\R x c/\gu R xs vs'
def rowAt(Ψ:Pr)(a:Option Addr)(vs:List Value):Prop:=
 ∃g off,a=some ⟨g,off,none⟩/\∀j u,vs[j]?=some u->Ψ ⟨g,off+j,none⟩=some u
mutual
def rdR(Ψ:Pr){α β:Type}(Ra:α->List Value->Prop)(Rb:β->List Value->Prop):Rose (α×β)->List Value->Prop
 | .node x ys,vs=>∃u s w,vs=u++s::w/\Ra x.1 u/\Rb x.2 w/\∃a cap,s= .slice a ys.length cap/\ys.length<=cap/\cap<=maxLen/\(ys=[]\/∃cells,ZK Ψ Ra Rb ys cells/\rowAt Ψ a cells)
def ZK(Ψ:Pr){α β:Type}(Ra:α->List Value->Prop)(Rb:β->List Value->Prop):List (Rose (α×β))->List Value->Prop
 |[],vs=>vs=[]
 |y::ys,vs=>∃c vs',vs=c++vs'/\rdR Ψ Ra Rb y c/\ZK Ψ Ra Rb ys vs'
end
def reads(Ψ:Pr):(t:Ty)->t.den->List Value->Prop
 | .int k,n,vs=>vs=[.int k n]/\k.has n
 | .bool,b,vs=>vs=[.bool b]
 | .qi,f,vs=>vs=[.func (.func f) #[] #[]]
 | .any,_,vs=>∃v:Value,vs=[v]/\v.oneCell'=true
 | .str,l,vs=>vs=[.string (strOf l)]/\(∀c∈l,0<=c/\c<=255)/\l.length<=maxLen
 | .arr e,xs,vs=>∃a cap,vs=[.slice a xs.length cap]/\xs.length<=cap/\cap<=maxLen/\(xs=[]\/∃cells,gu (reads Ψ e) xs cells/\rowAt Ψ a cells)
 | .vec n e,xs,vs=>xs.length=n/\gu (reads Ψ e) xs vs
 | .unit,_,vs=>vs=[]
 | .pair a b,x,vs=>∃u v,vs=u++v/\reads Ψ a x.1 u/\reads Ψ b x.2 v
 | .dR a b,x,vs=>rdR Ψ (reads Ψ a) (reads Ψ b) x vs
def rv(Ψ:Pr)(t:Ty)(x:t.den)(v:Value):Prop:=∃cs,reads Ψ t x cs/\if t.isAgg then v= .agg cs.toArray else cs=[v]
def cm(l:Nat):Value:=.func (.yield l) #[] #[]
def hole:Value:=.nilFunc
mutual
def aE(Ψ:Pr)(β:List Value):AV->Value->Prop
 | .bJ,_=>True
 | .lO,v=>v=undef
 | .tt,v=>v= .bool true
 | .ff,v=>v= .bool false
 | .d t x,v=>rv Ψ t x v
 | .fs e xs,v=>∃a,v= .slice a xs.length xs.length/\rv Ψ (.arr e) xs v
 | .iX,v=>v= .slice none 0 0
 | .agg cs,v=>∃vs:List Value,v= .agg vs.toArray/\aL Ψ β cs vs/\∀u∈vs,u.oneCell'=true
 | .lW cs,v=>∃vs:List Value,v= .tuple vs.toArray/\aL Ψ β cs vs
 | .fn f cs,v=>∃vs:List Value,v= .func (.func f) #[] vs.toArray/\aL Ψ β cs vs
 | .xw f cs,v=>∃vs:List Value,v= .func (.func f) vs.toArray #[]/\aL Ψ β cs vs
 | .sv k sz lo hi,v=>∃g n c,β[k]?=some (.slice (some ⟨g,0,none⟩) n c)/\0<=lo/\lo<=hi/\hi<=n/\v= .slice (some ⟨g,lo.toNat*sz,none⟩) (hi.toNat-lo.toNat) (c-lo.toNat)
 | .nk,v=>v= .nilFunc
 | .nq,v=>v= .pointer none
 | .own k off,v=>∃g,β[k]?=some (.pointer (some ⟨g,0,none⟩))/\v= .pointer (some ⟨g,off,none⟩)
 | .sl k,v=>β[k]?=some v/\v≠hole
 | .tX k sz i,v=>∃g o n c,β[k]?=some (.slice (some ⟨g,o,none⟩) n c)/\0<=i/\i<(n:Int)/\v= .pointer (some ⟨g,o+i.toNat*sz,none⟩)
 | .rp t x,v=>∃g off cs,v= .pointer (some ⟨g,off,none⟩)/\reads Ψ t x cs/\∀j u,cs[j]?=some u->Ψ ⟨g,off+j,none⟩=some u
 | .qd k,v=>∃l,β[k]?=some (cm l)/\v=cm l
 | .Ko g,v=>v= .pointer (some ⟨g,0,none⟩)
 | .DS k off n i,v=>∃g,β[k]?=some (.pointer (some ⟨g,0,none⟩))/\0<=i/\i<(n:Int)/\v= .pointer (some ⟨g,off+i.toNat,none⟩)
 | .yX k off n lo hi,v=>∃g,β[k]?=some (.pointer (some ⟨g,0,none⟩))/\0<=lo/\lo<=hi/\hi<=(n:Int)/\n<=maxLen/\v= .slice (some ⟨g,off+lo.toNat,none⟩) (hi.toNat-lo.toNat) (n-lo.toNat)
 | .lI k sz i off,v=>∃g o n c,β[k]?=some (.slice (some ⟨g,o,none⟩) n c)/\0<=i/\i<(n:Int)/\off<sz/\v= .pointer (some ⟨g,o+i.toNat*sz+off,none⟩)
 | .DT k n,v=>∃g,β[k]?=some (.pointer (some ⟨g,0,none⟩))/\n<=16777216/\v= .slice (some ⟨g,0,none⟩) n n
 | .oM g,v=>v=if g<0 then .map none else .map (some g.toNat)
def aL(Ψ:Pr)(β:List Value):List AV->List Value->Prop
 |[],vs=>vs=[]
 |c::cs,vs=>∃v vs',vs=v::vs'/\aE Ψ β c v/\aL Ψ β cs vs'
end
def txR:List (List Int)->List MapEntry->Prop
 |[],es=>es=[]
 |t::ts,es=>∃x es',es=x::es'/\x.key= .string (strOf t)/\(∀c∈t,0<=c/\c<=255)/\x.val= .bool true/\txR ts es'
def Vh(w:World):List (Int×Int×List (List Int))->List MapEntry->Prop
 |[],es=>es=[]
 |p::m,es=>∃x es',es=x::es'/\x.key= .int .i64 p.1/\0<=p.2.1/\x.val= .map (some p.2.1.toNat)/\(∃ms cl,w.heap[p.2.1.toNat]?=some (.map ms cl)/\txR p.2.2 ms.toList)/\Vh w m es'
def gV(v:Value)(g:Nat):XB->Prop
 | .xx _ _ _=>∃o n cap,v= .slice (some ⟨g,o,none⟩) n cap
 | .jP m=>v= .map (some g)\/∃p∈m,p.2.1=(g:Int)
def XR(Ψ:Addr->Option Value)(w:World)(v:Value):XB->Prop
 | .xx tid e xs=>∃g o cap cur,v= .slice (some ⟨g,o,none⟩) xs.length cap/\w.heap[g]?=some (.cells cur tid (0,0))/\xs.length<=cap/\cap<=maxLen/\o+cap*e.cells<=cur.size/\
  gu (reads Ψ e) xs ((cur.toList.drop o).take (xs.length*e.cells))
 | .jP m=>∃g ms cl,v= .map (some g)/\w.heap[g]?=some (.map ms cl)/\Vh w m ms.toList/\(∀p∈m,p.2.1≠(g:Int))/\(m.map fun p=>p.2.1).Nodup
def af(β:List Value)(k:Nat)(g:Nat):aB->Prop
 | .gone=>False
 | .log _ _ own _=>own g
 | .kV _ _ own=>own g
 | .cells _=>β[k]?=some (.pointer (some ⟨g,0,none⟩))
 | .grow _ _ _=>∃n cap,cap≠0/\β[k]?=some (.slice (some ⟨g,0,none⟩) n cap)
 | .fH _| .dmap _ _=>β[k]?=some (.map (some g))
 | .eo _ _ _=>β[k]?=some (.pointer (some ⟨g,0,none⟩))
 | .loop _ _ _ _=>β[k]?=some (cm g)
 | .dat _ _=>β[k]?=some (.pointer (some ⟨g,0,none⟩))
 | .eu _ _=>β[k]?=some (.pointer (some ⟨g,0,none⟩))
 | .xb x=>∃v,β[k]?=some v/\gV v g x
def qX(D:Nat):Addr:=⟨D,0,some 0⟩
def ur(l:Nat):Addr:=⟨l,0,some 1⟩
def IU(l i:Nat):Addr:=⟨l,i,some 2⟩
def ZL(g:Nat):Addr:=⟨g,0,some 3⟩
def dS(x:MapEntry):Value:=.agg #[x.key,x.val,.int .i64 x.born]
def qls(ms:Array MapEntry)(cl:Nat):Value:=.tuple #[.agg (ms.map dS),.int .i64 cl]
def Pm(w:World)(a:Addr)(v:Value):Prop:=
 match a.spot with
 |none=>w.cell? a=some v
 |some 0=>a.off=0/\w.heap[a.block]?=some (.deferred (some []))
 |some 1=>∃r,w.heap[a.block]?=some (.loop r)
 |some 2=>∃r,w.heap[a.block]?=some (.loop r)/\r.tmps[a.off]?=some v
 |some 3=>∃ms cl,w.heap[a.block]?=some (.map ms cl)/\v=qls ms cl
 |_=>False
def uu:Ex->Option Code
 | .normal=>none
 | .exit i=>some (.exit i)
 | .ret=>some .ret
def qlt:Ph->Loop->Prop
 | .ready,r=>r.state= .ready/\r.pending=none
 | .busy,r=>r.state= .busy
 | .done e,r=>r.state= .done/\r.pending=uu e
 | .exhausted,r=>r.state= .exhausted
def fnV(f:FuncId):Value:=.func (.func f) #[] #[]
def KK.v:KK->Value
 | .i n=>.int .i64 n
 | .s l=>.string (strOf l)
def KK.ok:KK->Prop
 | .i _=>True
 | .s l=>∀c∈l,0<=c/\c<=255
def KK.td:KK->TypeDesc
 | .i _=>.int .i64
 | .s _=>.string
def zn(Ψ:Pr)(e:Ty):List (Int×e.den)->List MapEntry->Prop
 |[],es=>es=[]
 |p::m,es=>∃x es',es=x::es'/\x.key= .int .i64 p.1/\IntKind.i64.has p.1/\rv Ψ e p.2 x.val/\zn Ψ e m es'
def qlu(es:List MapEntry)(seen:Array Nat):List MapEntry:=es.filter fun e=>!seen.contains e.born
structure dJ (B:Nat->Prop) (w w':World):Prop where
 os:w'.os=w.os
 tape:w'.tape=w.tape
 output:w'.output=w.output
 size:w.heap.size<=w'.heap.size
 block:∀k,B k->w'.heap[k]?=w.heap[k]?
theorem dJ.refl(B:Nat->Prop)(w:World):dJ B w w:=⟨rfl,rfl,rfl,Wan _,fun _ _=>rfl⟩
theorem dJ.trans{B:Nat->Prop}{w w' w'':World}(h:dJ B w w')(h':dJ B w' w''):dJ B w w'':=
 ⟨h'.os.trans h.os,h'.tape.trans h.tape,h'.output.trans h.output,Wbj h.size h'.size,fun k hk=>(h'.block k hk).trans (h.block k hk)⟩
theorem D3{B:Nat->Prop}{n:Nat}{w w':World}(h:Below n w w')(hB:∀k,B k->k<n):dJ B w w':=⟨h.os,h.tape,h.output,h.size,fun k hk=>h.block k (hB k hk)⟩
theorem gW{B:Nat->Prop}{n:Nat}(h:∀k,B k->k<n):¬B n:=fun hb=>WcH _ (h n hb)
theorem QD{B:Nat->Prop}{n m:Nat}(h:∀k,B k->k<n)(hm:n<=m):¬B m:=fun hb=>WcH _ (Wa6 (h m hb) hm)
theorem dJ.of{n:Nat}{w w':World}(h:dJ (fun k=>k<n) w w'):Below n w w':=⟨h.os,h.tape,h.output,h.size,h.block⟩
def pl(a:Addr):Prop:=a.spot=none\/a.spot=some 3\/a.spot=some 0
def TK(Ψ ax:Pr):Prop:=∀a v,a.spot≠some 0->Ψ a=some v->ax a=some v
def Ext(B:Nat->Prop)(Ψ ax:Pr):Prop:=(∀a v,Ψ a=some v->ax a=some v)/\∀ad v,ax ad=some v->Ψ ad=some v\/¬B ad.block
def QE(B:Nat->Prop)(own:Nat->Prop)(w:World):Prop:=∀g,own g->¬B g/\g<w.heap.size
def Gl(P:Program)(Ψ:Pr):Prop:=(∀g,gIs P g=true->∀(j:Nat) (n:Int),gA[j]?=some n->Ψ ⟨g,j,none⟩=some (.int .u32 n))/\
 ∀g,qlh P g=true->∀(j:Nat) (n:Int),wsL[j]?=some n->Ψ ⟨g,j,none⟩=some (.int .u8 n)
structure QF (P:Program) (B:Nat->Prop) (w0:World) (own:Nat->Prop) (Ψ:Pr) (w:World):Prop where
 low:dJ B w0 w
 size:∀k,B k->k<w.heap.size
 prom:∀a v,Ψ a=some v->Pm w a v
 marks:∀a v,Ψ a=some v->a.spot=some 0->¬B a.block
 mine:QE B own w
 free:∀a,own a.block->pl a->Ψ a=none
 gQ:Gl P Ψ
def fM.KS{ys:List Ty}(Y:fM ys):Prop:=
 (∀xs own Ψ ax w w',Y.R xs own Ψ w->TK Ψ ax->(∀g,own g->w'.heap[g]?=w.heap[g]?)->Y.R xs own ax w')/\
 (∀own Ψ ax w w',Y.Rf own Ψ w->TK Ψ ax->(∀g,own g->w'.heap[g]?=w.heap[g]?)->Y.Rf own ax w')
def fM.Step{ys:List Ty}(P:Program)(Y:fM ys):Prop:=
 ∀xs y rest,Y.items=xs++y::rest->∀(B:Nat->Prop) w0 own Ψ w vs,Y.R xs own Ψ w->QF P B w0 own Ψ w->aL Ψ [] (outs ys (AY ys y)) vs->
  ∃r,w.heap[Y.l]?=some (.loop r)/\vs.length=r.params.size/\
   RoundIn Fence.wide 0 P Y.l r.fn ((r.params.zip vs.toArray).foldl (fun tmps (t,a)=>tmps.setIfInBounds t a) r.tmps) r.assign r.body w fun e w'=>∃v bT ax,e= .returned v/\Ext B Ψ ax/\QF P B w0 bT ax w'/\
    ((v= .bool true/\Y.R (xs++[y]) bT ax w')\/(v= .bool false/\Y.Rf bT ax w'))
def cn(P:Program)(B:Nat->Prop)(Ψ:Pr)(β:List Value)(w:World)(k:Nat):aB->Prop
 | .gone=>True
 | .log _ Y own xs=>β[k]?=some (cm Y.l)/\Y.R xs own Ψ w/\QE B own w/\Y.KS/\Y.Step P
 | .kV _ Y own=>β[k]?=some (cm Y.l)/\Y.Rf own Ψ w/\QE B own w/\Y.KS
 | .cells cs=>∃g c e,β[k]?=some (.pointer (some ⟨g,0,none⟩))/\w.heap[g]?=some (.cells c e (0,0))/\¬B g/\aL Ψ β cs c.toList/\(∀u∈c.toList,u.oneCell'=true)
 | .grow tid e xs=>(∃ad,β[k]?=some (.slice ad 0 0)/\xs=[])\/
  ∃g cap cur,β[k]?=some (.slice (some ⟨g,0,none⟩) xs.length cap)/\cap≠0/\¬B g/\w.heap[g]?=some (.cells cur tid (0,0))/\xs.length<=cap/\cap<=maxLen/\cur.size=cap*e.cells/\
   gu (reads Ψ e) xs (cur.toList.take (xs.length*e.cells))
 | .fH es=>∃g ms cl,β[k]?=some (.map (some g))/\w.heap[g]?=some (.map ms cl)/\¬B g/\ms.toList.map (·.key)=es.map (fun p=>p.1.v)/\aL Ψ β (es.map Prod.snd) (ms.toList.map (·.val))/\∀p∈es,okE p.2=true/\p.1.ok
 | .dmap e m=>∃g ms cl,β[k]?=some (.map (some g))/\w.heap[g]?=some (.map ms cl)/\¬B g/\zn Ψ e m ms.toList/\(m.map Prod.fst).Nodup/\(ms.toList.map (·.born)).Nodup/\(∀x∈ms.toList,x.born<cl)
 | .eo e last left=>∃g gm ms cl seen,β[k]?=some (.pointer (some ⟨g,0,none⟩))/\w.heap[g]?=some (.mapIter (some gm) cl seen cl)/\¬B g/\Ψ (ZL gm)=some (qls ms cl)/\zn Ψ e left (qlu ms.toList seen)/\
  (ms.toList.map (·.born)).Nodup/\(∀x∈ms.toList,x.born<cl)/\(last=[]\/∃(p:Int×e.den) (x:MapEntry) (seen':Array Nat),last=[p]/\seen=seen'.push x.born/\x∈ms.toList/\x.key= .int .i64 p.1/\IntKind.i64.has p.1/\rv Ψ e p.2 x.val)
 | .loop f p ph ts=>∃l r,β[k]?=some (cm l)/\w.heap[l]?=some (.loop r)/\¬B l/\qlt ph r/\aL Ψ β ts r.tmps.toList/\Ψ (ur l)=some undef/\(∀i v,r.tmps[i]?=some v->Ψ (IU l i)=some v)/\
  ∃g,iZ P f p=some (.rangeFunc g r.params r.assign r.body)
 | .dat t x=>∃g c e,β[k]?=some (.pointer (some ⟨g,0,none⟩))/\w.heap[g]?=some (.cells c e (0,0))/\¬B g/\reads Ψ t x c.toList
 | .eu n rest=>∃g s pos,β[k]?=some (.pointer (some ⟨g,0,none⟩))/\w.heap[g]?=some (.stringIter s pos)/\¬B g/\n=(pos:Int)/\pos<=s.size/\s.size<=maxLen/\rest=(bytesOf s).drop pos
 | .xb x=>∃v,β[k]?=some v/\XR Ψ w v x/\∀g,gV v g x->¬B g/\g<w.heap.size
structure aD (P:Program) (B:Nat->Prop) (w0:World) (Ψ:Pr) (β:List Value) (h:List aB) (w:World):Prop where
 low:dJ B w0 w
 size:∀k,B k->k<w.heap.size
 prom:∀a v,Ψ a=some v->Pm w a v
 own:∀a v,Ψ a=some v->a.spot=some 0->¬B a.block
 len:β.length=h.length
 one:∀(k:Nat) (u:Value),β[k]?=some u->u.oneCell'=true
 blk:∀k b,h[k]?=some b->cn P B Ψ β w k b
 free:∀k b g,h[k]?=some b->af β k g b->∀a,a.block=g->pl a->Ψ a=none
 sep:∀j k bj bk g,j≠k->h[j]?=some bj->h[k]?=some bk->af β j g bj->af β k g bk->False
 gQ:Gl P Ψ
def YJ(D:Nat):Deferred:={target:=.collected D,args:=#[]}
def YK(Ψ:Pr)(a:Act):Prop:=∃(ds:List Nat) (r:List Deferred),a.defers=ds.map YJ++r/\(∀d∈r,∀D,d≠YJ D)/\ds.Nodup/\∀D∈ds,Ψ (qX D)=some undef
def wS(Ψ:Pr)(β:List Value)(fr:List AV)(a:Act):Prop:=
 YK Ψ a/\aL Ψ β fr a.tmps.toList
def aQ(Ψ:Pr)(β:List Value):List (List AV)->List Act->Prop
 |[],as=>as=[]
 |f::fs,as=>∃a as',as=a::as'/\wS Ψ β f a/\aQ Ψ β fs as'
def Sat(P:Program)(f:FuncId)(sp:aJ):Prop:=
 ∀(Ψ:Pr) (w:World) (x:dens sp.ps) (args:List Value),(∀a v,Ψ a=some v->a.spot=none/\w.cell? a=some v)->Gl P Ψ->
  aL Ψ [] (outs sp.ps x) args->sp.pre x->
  Calls P f args.toArray w fun e w'=>∃v ax,e= .returned v/\Below w.heap.size w w'/\(∀a u,Ψ a=some u->ax a=some u)/\
   (∀a u,ax a=some u->Ψ a=some u\/(w.heap.size<=a.block/\a.spot=none/\w'.cell? a=some u))/\aE ax [] (nV sp.rs (sp.post x)) v
def Nw(P:Program)(f:FuncId)(px:List Value)(sp:cL):Prop:=
 ∀(Ψ:Pr) (w:World) (x:dens sp.ps) (args:List Value),(∀a v,Ψ a=some v->a.spot=none/\w.cell? a=some v)->Gl P Ψ->
  aL Ψ [] (outs sp.ps x) args->sp.pre x->
  Calls P f (px++args).toArray w fun e w'=>∃v ax,e= .returned v/\Below w.heap.size w w'/\(∀a u,Ψ a=some u->ax a=some u)/\
   (∀a u,ax a=some u->Ψ a=some u\/(w.heap.size<=a.block/\a.spot=none/\w'.cell? a=some u))/\v.oneCell'=true/\
   cn P (fun k=>k<w.heap.size) ax [v] w' 0 (.grow sp.tid sp.e (sp.post x))/\∀g,af [v] 0 g (.grow sp.tid sp.e (sp.post x))->∀a,a.block=g->ax a=none
def qY(P:Program)(f:FuncId)(sp:cL):Prop:=Nw P f [] sp
def Vi(P:Program)(f:FuncId)(sp:cL):Prop:=Nw P f [.slice none 0 0] sp
def E2(P:Program)(f:FuncId)(l5:jC):Prop:=
 ∀(B:Nat->Prop) (w0:World) (Y:fM l5.ys) (x:dens l5.ps) (own:Nat->Prop) (Ψ:Pr) (w:World) (vs:List Value),l5.pre x->Y.items=l5.items x->Y.KS->Y.Step P->Y.R [] own Ψ w->QF P B w0 own Ψ w->aL Ψ [] (rps l5.ps x) vs->
  Calls P f (cm Y.l::vs).toArray w fun e w'=>∃bT ax,e= .returned (.tuple #[])/\Ext B Ψ ax/\QF P B w0 bT ax w'/\(Y.R (l5.items x) bT ax w'\/Y.Rf bT ax w')
def qh3(P:Program)(f:FuncId)(g:Cz):Prop:=
 ∀(B:Nat->Prop) (Ψ:Pr) (w:World) (xs:List g.e.den) (v:Value),cn P B Ψ [v] w 0 (.grow g.tid g.e xs)->(xs.length:Int)<=4611686018427387903->
  Calls P f #[v,fnV g.cmp] w fun e w'=>e= .returned (.tuple #[])/\
   ((w'=w/\g.f xs=xs)\/∃gb,af [v] 0 gb (.grow g.tid g.e xs)/\w.grownBy w' (some gb)/\cn P B Ψ [v] w' 0 (.grow g.tid g.e (g.f xs)))
def qoA(f:FuncId)(u:Value):Value:=.func (.func f) #[] #[u]
def qoB(P:Program)(f:FuncId)(g:qgH):Prop:=
 ∀(B:Nat->Prop) (Ψ:Pr) (w:World) (xs:List Int) (mm:List (Int×Int)) (v:Value) (gc gm cl:Nat) (ec:TypeId) (ms:Array MapEntry),cn P B Ψ [v] w 0 (.grow g.tid (.int .i64) xs)->(xs.length:Int)<=4611686018427387903->
  w.heap[gc]?=some (.cells #[.map (some gm)] ec (0,0))->w.heap[gm]?=some (.map ms cl)->zn Ψ (.int .i64) mm ms.toList->(∀gb,af [v] 0 gb (.grow g.tid (.int .i64) xs)->gb≠gc)->
  Calls P f #[v,qoA g.cmp (.pointer (some ⟨gc,0,none⟩))] w fun e w'=>e= .returned (.tuple #[])/\
   ((w'=w/\g.f mm xs=xs)\/∃gb,af [v] 0 gb (.grow g.tid (.int .i64) xs)/\w.grownBy w' (some gb)/\cn P B Ψ [v] w' 0 (.grow g.tid (.int .i64) (g.f mm xs)))
def E3(P:Program)(f:FuncId)(hsp:kZ):Prop:=
 ∀(B:Nat->Prop) (w0:World) (Ψ:Pr) (β:List Value) (w:World) (x:dens hsp.ps) (y:dens (jD hsp.A8)) (args caps:List Value),ZG hsp x y=true->aD P B w0 Ψ β (hsp.h y) w->aL Ψ [] (outs hsp.ps x) args->aL Ψ β hsp.cap caps->hsp.pre x y->
  Calls P f (args++caps).toArray w fun e w'=>∃v ax,e= .returned v/\Ext B Ψ ax/\aD P B w0 ax β (hsp.h (hsp.aft x y)) w'/\aE ax [] (nV hsp.rs (hsp.post x y)) v
def qoC(pT:TypeId)(b:Int×Int):Value:=.iface pT (.agg #[.int .i64 b.1,.int .i64 b.2])
def qlv(pT:TypeId)(b:Int×Int):List PanicEntry:=[{v:=qoC pT b,recovered:=false}]
def qoD(P:Program)(pT:TypeId)(f:FuncId)(sp:qgJ):Prop:=
 (∀g,sp.qld=some g->∀x,sp.post x= .inr (g x))/\∀(Ψ:Pr) (w:World) (x:dens sp.ps) (args:List Value),(∀a v,Ψ a=some v->a.spot=none/\w.cell? a=some v)->Gl P Ψ->
   aL Ψ [] (outs sp.ps x) args->sp.pre x->
   Calls P f args.toArray w fun e w'=>∃ax,Below w.heap.size w w'/\(∀a u,Ψ a=some u->ax a=some u)/\
    (∀a u,ax a=some u->Ψ a=some u\/(w.heap.size<=a.block/\a.spot=none/\w'.cell? a=some u))/\
    ((∃v y,e= .returned v/\sp.post x= .inl y/\aE ax [] (nV sp.rs y) v)\/∃b,sp.post x= .inr b/\e= .panicked (qlv pT b))
def ZM(P:Program)(f:FuncId)(g:ua):Prop:=
 ∀(B:Nat->Prop) (Ψ:Pr) (w:World) (v va v2:Value) (x:g.p.den) (xs ys:List g.e.den),(∀k,B k->k<w.heap.size)->cn P B Ψ [v] w 0 (.grow g.tid g.e xs)->cn P B Ψ [v2] w 0 (.grow g.tid g.e ys)->
  (∀q,af [v] 0 q (.grow g.tid g.e xs)->af [v2] 0 q (.grow g.tid g.e ys)->False)->rv Ψ g.p x va->g.pre x xs ys->
  Calls P f #[v,va,v2] w fun e w'=>∃u row,e= .returned u/\w.grownBy w' row/\(∀q,row=some q->af [v] 0 q (.grow g.tid g.e xs))/\u.oneCell'=true/\
   (∀(β':List Value) (k:Nat),β'[k]?=some u->cn P B Ψ β' w' k (.grow g.tid g.e (g.post x xs ys)))/\∀(β':List Value) (k q:Nat),β'[k]?=some u->af β' k q (.grow g.tid g.e (g.post x xs ys))->row=some q\/w.heap.size<=q
def qoE(P:Program)(f:FuncId):Prop:=∀(args:Array Value) (w:World),CallsDIn Fence.wide 0 P f args .returning w fun e u' w'=>u'= .returning/\w'=w/\∃v,e= .returned v
def qoF(P:Program)(f:FuncId)(g:qgI):Prop:=
 ∀(B:Nat->Prop) (w0:World) (Ψ:Pr) (v:Value) (w:World) (x:dens g.ps) (xs:List g.e.den) (args:List Value),aD P B w0 Ψ [v] [.grow g.tid g.e xs] w->aL Ψ [] (outs g.ps x) args->g.pre x xs->
  Calls P f (v::args).toArray w fun e w'=>∃u ax,e= .returned u/\Ext B Ψ ax/\aD P B w0 ax [v] [.grow g.tid g.e (g.aft x xs)] w'/\aE ax [] (nV g.rs (g.post x xs)) u
end Go.AM
