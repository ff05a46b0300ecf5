import Derived.WalkKit
import Derived.CallsIn
import Derived.DefersIn
import Derived.Deep.AppendSrc
import Derived.DeepKeys
set_option linter.unusedSimpArgs false
set_option linter.unusedVariables false
namespace Go
inductive Rose (α:Type):Type where
 | node (x:α) (subs:List (Rose α)):Rose α
namespace Rose
variable {α β:Type}
def val:Rose α → α
 | .node x _=>x
def subs:Rose α → List (Rose α)
 | .node _ l=>l
mutual
theorem ind {p:Rose α → Prop} (h:∀ x l,(∀ y ∈ l,p y) → p (.node x l)):∀ r,p r
 | .node x l=>h x l (inds h l)
theorem inds {p:Rose α → Prop} (h:∀ x l,(∀ y ∈ l,p y) → p (.node x l)):∀ (l:List (Rose α)) (y:Rose α),y ∈ l → p y
 | [],_,hy=>by cases hy
 | z :: l,y,hy=>by
  rcases List.mem_cons.1 hy with e | e
  ·rw [e]; exact ind h z
  ·exact inds h l y e
end
mutual
def all (p:α → Nat → Prop):Rose α → Prop
 | .node x l=>p x l.length ∧ alls p l
def alls (p:α → Nat → Prop):List (Rose α) → Prop
 | []=>True
 | y :: l=>all p y ∧ alls p l
end
theorem alls_iff {p:α → Nat → Prop}:∀ (l:List (Rose α)),alls p l ↔ ∀ y ∈ l,all p y
 | []=>by simp [alls]
 | y :: l=>by simp only [alls,List.mem_cons,forall_eq_or_imp,alls_iff l]
mutual
def size (f:α → Nat):Rose α → Nat
 | .node x l=>f x + sizes f l + 1
def sizes (f:α → Nat):List (Rose α) → Nat
 | []=>0
 | y :: l=>size f y + sizes f l
end
end Rose
end Go
namespace Go.AM
open Go.RowKit
inductive Ty where
 | int (k:IntKind)
 | bool
 | str
 | arr (e:Ty)
 | vec (n:Nat) (e:Ty)
 | unit
 | pair (a b:Ty)
 | rose (a b:Ty)
 | fnc
 | any
 deriving DecidableEq
@[reducible] def Ty.den:Ty → Type
  | .int _=>Int
  | .bool=>Bool
  | .str=>List Int
  | .arr e=>List e.den
  | .vec _ e=>List e.den
  | .unit=>Unit
  | .pair a b=>a.den × b.den
  | .rose a b=>Rose (a.den × b.den)
  | .fnc=>FuncId
  | .any=>Unit
def Ty.cells:Ty → Nat
 | .int _ | .bool | .str | .arr _ | .fnc | .any=>1
 | .vec n e=>n * e.cells
 | .unit=>0
 | .pair a b=>a.cells + b.cells
 | .rose a b=>a.cells + 1 + b.cells
def Ty.isAgg:Ty → Bool
 | .vec .. | .unit | .pair .. | .rose ..=>true
 | _=>false
def Ty.small (e:Ty):Bool:=Nat.beq e.cells 1 && !e.isAgg
def Ty.flat:Ty → Bool
 | .int _ | .bool | .str | .unit | .fnc | .any=>true
 | .arr _=>false
 | .vec _ e=>e.flat
 | .pair a b=>a.flat && b.flat
 | .rose _ _=>false
def dflt:(t:Ty) → t.den
 | .int _=>(0:Int)
 | .bool=>false
 | .str=>([]:List Int)
 | .arr e=>([]:List e.den)
 | .vec n e=>(List.replicate n (dflt e):List e.den)
 | .unit=>()
 | .pair a b=>(dflt a,dflt b)
 | .rose a b=>(.node (dflt a,dflt b) []:Rose (a.den × b.den))
 | .fnc=>(0:Nat)
 | .any=>()
def cast? (t u:Ty) (x:t.den):Option u.den :=
 match decEq t u with
 | isTrue h=>some (h ▸ x)
 | isFalse _=>none
@[reducible] def dens:List Ty → Type
  | []=>Unit
  | [t]=>t.den
  | t :: u :: ts=>t.den × dens (u :: ts)
inductive AV where
 | junk
 | und
 | tt
 | ff
 | d (t:Ty) (x:t.den)
 | fs (e:Ty) (xs:List e.den)
 | nils
 | agg (cs:List AV)
 | tup (cs:List AV)
 | fn (f:FuncId) (cap:List AV)
 | nilf
 | nilp
 | own (k off:Nat)
 | sl (k:Nat)
 | slp (k sz:Nat) (i:Int)
 | rp (t:Ty) (x:t.den)
 | yld (k:Nat)
 | bnd (f:FuncId) (first:List AV)
 | sv (k sz:Nat) (lo hi:Int)
 | glb (g:Nat)
 | oix (k off n:Nat) (i:Int)
 | osl (k off n:Nat) (lo hi:Int)
 | slpf (k sz:Nat) (i:Int) (off:Nat)
 | ssl (k n:Nat)
inductive Ex where
 | normal
 | exit (id:Nat)
 | ret
inductive Ph where
 | ready | busy | done (e:Ex) | exhausted
def mput {α:Type}:List (Int × α) → Int → α → List (Int × α)
 | [],n,x=>[(n,x)]
 | p :: m,n,x=>if p.1 = n then (n,x) :: m else p :: mput m n x
def mget {α:Type}:List (Int × α) → Int → Option α
 | [],_=>none
 | p :: m,n=>if p.1 = n then some p.2 else mget m n
def tyOf:List Ty → Ty
 | []=>.unit
 | [t]=>t
 | t :: u :: ts=>.pair t (tyOf (u :: ts))
def undens:(ts:List Ty) → (tyOf ts).den → dens ts
 | [],_=>()
 | [_],x=>x
 | _ :: u :: ts,x=>(x.1,undens (u :: ts) x.2)
structure Proto (ys:List Ty) where
 l:Nat
 items:List (tyOf ys).den
 R:List (tyOf ys).den → (Nat → Prop) → (Addr → Option Value) → World → Prop
 Rf:(Nat → Prop) → (Addr → Option Value) → World → Prop
inductive KK where
 | i (n:Int)
 | s (l:List Int)
inductive Blk where
 | gone
 | log (ys:List Ty) (Y:Proto ys) (own:Nat → Prop) (xs:List (tyOf ys).den)
 | lof (ys:List Ty) (Y:Proto ys) (own:Nat → Prop)
 | cells (cs:List AV)
 | grow (tid:TypeId) (e:Ty) (xs:List e.den)
 | kmap (es:List (KK × AV))
 | dmap (e:Ty) (m:List (Int × e.den))
 | diter (e:Ty) (last left:List (Int × e.den))
 | loop (f:FuncId) (p:List Nat) (ph:Ph) (tmps:List AV)
 | dat (t:Ty) (x:t.den)
 | siter (n:Int) (rest:List Int)
structure St where
 top:List AV
 below:List (List AV)
 heap:List Blk
def fget:List AV → Nat → AV
 | [],_=>.junk
 | a :: _,0=>a
 | _ :: l,i + 1=>fget l i
def fset:List AV → Nat → AV → List AV
 | [],_,_=>[]
 | _ :: l,0,v=>v :: l
 | a :: l,i + 1,v=>a :: fset l i v
def hget:List Blk → Nat → Blk
 | [],_=>.gone
 | a :: _,0=>a
 | _ :: l,i + 1=>hget l i
def hset:List Blk → Nat → Blk → List Blk
 | [],_,_=>[]
 | _ :: l,0,v=>v :: l
 | a :: l,i + 1,v=>a :: hset l i v
def St.put (s:St) (dst:Option Tmp) (v:AV):St :=
 match dst with
 | some t=>{ s with top:=fset s.top t v }
 | none=>s
def inKind (k:IntKind) (n:Int):Bool:=decide (k.min ≤ n) && decide (n ≤ k.max)
def bytesOf (s:ByteArray):List Int:=s.data.toList.map fun b=>(b.toNat:Int)
def ofV1:Value → AV
 | .bool true=>.tt
 | .bool false=>.ff
 | .int k n=>if inKind k n then .d (.int k) n else .junk
 | .string s=>if s.size ≤ maxLen then .d .str (bytesOf s) else .junk
 | .slice none 0 0=>.nils
 | .nilFunc=>.nilf
 | .pointer none=>.nilp
 | _=>.junk
def ofVs:List Value → List AV
 | []=>[]
 | v :: vs=>ofV1 v :: ofVs vs
def ofV:Value → AV
 | .agg cs=>if cs.toList.all Value.oneCell' then .agg (ofVs cs.toList) else .junk
 | v=>ofV1 v
def ev (fr:List AV):Operand → AV
 | .tmp t=>fget fr t
 | .const v=>ofV v
 | .global g=>.glb g
 | .func f=>.fn f []
def evs (fr:List AV):List Operand → List AV
 | []=>[]
 | o :: os=>ev fr o :: evs fr os
mutual
def sub (k:Nat) (r:AV):AV → AV
 | .sl j=>if Nat.beq j k then r else .sl j
 | .slp j sz i=>if Nat.beq j k then .junk else .slp j sz i
 | .agg cs=>.agg (subL k r cs)
 | .tup cs=>.tup (subL k r cs)
 | .fn f cs=>.fn f (subL k r cs)
 | .bnd f cs=>.bnd f (subL k r cs)
 | .sv j sz a b=>if Nat.beq j k then .junk else .sv j sz a b
 | .slpf j sz i off=>if Nat.beq j k then .junk else .slpf j sz i off
 | v=>v
def subL (k:Nat) (r:AV):List AV → List AV
 | []=>[]
 | c :: cs=>sub k r c :: subL k r cs
end
def subF (k:Nat) (r:AV):List (List AV) → List (List AV)
 | []=>[]
 | f :: fs=>subL k r f :: subF k r fs
def subH (k:Nat) (r:AV):List Blk → List Blk
 | []=>[]
 | .cells cs :: h=>.cells (subL k r cs) :: subH k r h
 | .loop f p ph ts :: h=>.loop f p ph (subL k r ts) :: subH k r h
 | b :: h=>b :: subH k r h
def subB (k:Nat) (r:AV):Blk → Blk
 | .cells cs=>.cells (subL k r cs)
 | .loop f p ph ts=>.loop f p ph (subL k r ts)
 | b=>b
def St.sub (s:St) (k:Nat) (r:AV):St:={ top:=subL k r s.top,below:=subF k r s.below,heap:=subH k r s.heap }
def St.freeze (s:St) (k:Nat):St :=
 match hget s.heap k with
 | .grow _ e xs =>
  let s':=s.sub k (.d (.arr e) xs)
  { s' with heap:=hset s'.heap k .gone }
 | _=>s
def refs1:AV → List Nat
 | .sl k=>[k]
 | _=>[]
def refsL:List AV → List Nat
 | []=>[]
 | c :: cs=>refs1 c ++ refsL cs
def refs:AV → List Nat
 | .agg cs=>refsL cs
 | v=>refs1 v
def refsA:List AV → List Nat
 | []=>[]
 | c :: cs=>refs c ++ refsA cs
def noRefs' (l:List AV):Bool:=match refsA l with | []=>true | _=>false
def St.freezeAll (s:St):List Nat → St
 | []=>s
 | k :: ks=>(s.freeze k).freezeAll ks
def asD1 (h:List Blk) (t:Ty):AV → Option t.den
 | .d u x=>cast? u t x
 | .tt=>match t with | .bool=>some true | _=>none
 | .ff=>match t with | .bool=>some false | _=>none
 | .fs e xs=>cast? (.arr e) t xs
 | .nils=>match t with | .arr _=>some [] | _=>none
 | .sl k=>match hget h k with
  | .grow _ e xs=>cast? (.arr e) t xs
  | _=>none
 | .fn f cs=>match t,cs with
  | .fnc,[]=>some f
  | _,_=>none
 | _=>none
def takeN:Nat → List AV → List AV
 | 0,_=>[]
 | _,[]=>[]
 | n + 1,a :: l=>a :: takeN n l
def dropN:Nat → List AV → List AV
 | 0,l=>l
 | _,[]=>[]
 | n + 1,_ :: l=>dropN n l
def jXv (h:List Blk) (t:Ty) (cs:List AV):Option t.den :=
 match cs with
 | [c]=>asD1 h t c
 | _=>none
def asVec (h:List Blk) (e:Ty):List AV → Option (List e.den)
 | []=>some []
 | c :: cs=>match asD1 h e c with
  | some y=>match asVec h e cs with
   | some ys=>some (y :: ys)
   | none=>none
  | none=>none
def lenAV:List AV → Nat
 | []=>0
 | _ :: l=>lenAV l + 1
def jZi (h:List Blk):(t:Ty) → List AV → Option t.den
 | .pair a b,cs =>
  match jZi h a (takeN a.cells cs) with
  | some x=>match jZi h b (dropN a.cells cs) with
   | some y=>some (x,y)
   | none=>none
  | none=>none
 | .rose a b,cs =>
  match jZi h a (takeN a.cells cs) with
  | some x=>match dropN a.cells cs with
   | c :: rest=>match asD1 h (.arr (.rose a b)) c with
    | some ys=>match jZi h b rest with
     | some y=>some (.node (x,y) ys:Rose (a.den × b.den))
     | none=>none
    | none=>none
   | []=>none
  | none=>none
 | .unit,cs=>match cs with
  | []=>some ()
  | _=>none
 | .vec n e,cs=>if e.small && Nat.beq (lenAV cs) n then asVec h e cs else none
 | .int k,cs=>jXv h (.int k) cs
 | .bool,cs=>jXv h .bool cs
 | .fnc,cs=>jXv h .fnc cs
 | .any,cs=>jXv h .any cs
 | .str,cs=>jXv h .str cs
 | .arr e,cs=>jXv h (.arr e) cs
def asD (h:List Blk) (t:Ty):AV → Option t.den
 | .agg cs=>if t.isAgg then jZi h t cs else none
 | v=>asD1 h t v
def vecAt:(t:Ty) → t.den → (off n:Nat) → Option ((e:Ty) × List e.den)
 | .pair a b,x,off,n=>if Nat.ble (off + n) a.cells then vecAt a x.1 off n else if Nat.ble a.cells off then vecAt b x.2 (off - a.cells) n else none
 | .vec m e,x,off,n=>if Nat.beq off 0 && Nat.beq m n && e.small then some ⟨e,x⟩ else none
 | _,_,_,_=>none
def lendV (h:List Blk):AV → AV
 | .osl k off n lo hi=>match hget h k with
  | .dat u x=>match vecAt u x off n with
   | some ⟨e,xs⟩=>.d (.arr e) ((xs.drop lo.toNat).take (hi.toNat - lo.toNat))
   | none=>.osl k off n lo hi
  | _=>.osl k off n lo hi
 | v=>v
def lendVs (h:List Blk):List AV → List AV
 | []=>[]
 | v :: vs=>lendV h v :: lendVs h vs
def anyIn:Ty → Bool
 | .any=>true
 | .pair a b=>anyIn a || anyIn b
 | _=>false
def maskC:Ty → List AV → List AV
 | .pair a b,cs=>maskC a (takeN a.cells cs) ++ maskC b (dropN a.cells cs)
 | .any,_ :: cs=>.d .any () :: cs
 | _,cs=>cs
def maskD (t:Ty):AV → AV
 | .agg cs=>bif anyIn t then .agg (maskC t cs) else .agg cs
 | v=>v
def maskAs:List Ty → List AV → List AV
 | t :: ts,v :: vs=>maskD t v :: maskAs ts vs
 | _,vs=>vs
def asDs (h:List Blk):(ts:List Ty) → List AV → Option (dens ts)
 | [],[]=>some ()
 | [t],[v]=>asD h t v
 | t :: u :: ts,v :: vs =>
  match asD h t v with
  | some x=>match asDs h (u :: ts) vs with
   | some y=>some (x,y)
   | none=>none
  | none=>none
 | _,_=>none
def outs:(ts:List Ty) → dens ts → List AV
 | [],_=>[]
 | [t],x=>[.d t x]
 | t :: u :: ts,x=>.d t x.1 :: outs (u :: ts) x.2
def outV (ts:List Ty) (x:dens ts):AV :=
 match outs ts x with
 | [v]=>v
 | vs=>.tup vs
def flats:List Ty → Bool
 | []=>true
 | t :: ts=>t.flat && flats ts
structure FSpec where
 ps:List Ty
 rs:List Ty
 pre:dens ps → Prop
 post:dens ps → dens rs
structure GSpec where
 ps:List Ty
 tid:TypeId
 e:Ty
 pre:dens ps → Prop
 post:dens ps → List e.den
structure MSpec where
 tid:TypeId
 cmp:FuncId
 f:List (Int × Int) → List Int → List Int
structure SSpec where
 tid:TypeId
 e:Ty
 cmp:FuncId
 f:List e.den → List e.den
structure ISpec where
 ps:List Ty
 ys:List Ty
 pre:dens ps → Prop
 items:dens ps → List (tyOf ys).den
def rps:(ts:List Ty) → dens ts → List AV
 | [],_=>[]
 | [t],x=>[.rp t x]
 | t :: u :: ts,x=>.rp t x.1 :: rps (u :: ts) x.2
inductive LA where
 | slot (i:Nat) (t:Ty)
 | cell (k off:Nat) (t:Ty)
 | gslot (i:Nat) (tid:TypeId) (e:Ty)
 | gcell (k off:Nat) (tid:TypeId) (e:Ty)
 | keep (k:Nat) (tid:TypeId) (e:Ty)
 | kmp (k:Nat) (e:Ty)
 | kit (k:Nat) (e:Ty)
 | kdat (k:Nat) (t:Ty)
 | ksit (k:Nat)
def LA.ty:LA → Ty
 | .slot _ t | .cell _ _ t=>t
 | .gslot _ _ e | .gcell _ _ _ e | .keep _ _ e=>.arr e
 | .kmp _ e | .kit _ e=>.arr (.pair (.int .i64) e)
 | .kdat _ t=>t
 | .ksit _=>.pair (.int .i64) .str
def laTys:List LA → List Ty
 | []=>[]
 | a :: as=>a.ty :: laTys as
structure HSpec where
 ps:List Ty
 rs:List Ty
 las:List LA
 cap:List AV
 h:dens (laTys las) → List Blk
 pre:dens ps → dens (laTys las) → Prop
 post:dens ps → dens (laTys las) → dens rs
 aft:dens ps → dens (laTys las) → dens (laTys las)
structure OSpec where
 ps:List Ty
 rs:List Ty
 tid:TypeId
 e:Ty
 pre:dens ps → List e.den → Prop
 post:dens ps → List e.den → dens rs
 aft:dens ps → List e.den → List e.den
structure PSpec where
 ps:List Ty
 rs:List Ty
 pre:dens ps → Prop
 post:dens ps → dens rs ⊕ (Int × Int)
 fails:Option (dens ps → Int × Int):=none
inductive Mode where
 | split | yes | no | force | all
def Mode.flip:Mode → Mode
 | .yes=>.no
 | .no=>.yes
 | m=>m
def splitB (m:Mode) (b:Bool) (p q:Prop):Prop :=
 match m with
 | .split=>(b = true → p) ∧ (b = false → q)
 | .yes=>b = true ∧ p
 | .no=>b = false ∧ q
 | .force=>match b with | true=>p | false=>q
 | .all=>(b = true → p) ∧ (b = false → q)
theorem jXm {m:Mode} {b:Bool} {p q:Prop} (h:splitB m b p q):(b = true → p) ∧ (b = false → q):=by
 cases m <;> cases b <;> simp_all [splitB]
structure Hint where
 las:Nat → List LA
 mode:Nat → Mode
 cmode:Nat → Mode
 unr:Nat → Nat
def Hint.cond (H:Hint):Operand → Mode
 | .tmp t=>H.cmode t
 | _=>.split
structure Ctx where
 P:Program
 spec:FuncId → Option FSpec
 hint:FuncId → Hint
 ty:TypeId → Option Ty
 fresh:FuncId → Option GSpec
 ro:TypeId → Bool
 sorts:FuncId → Option SSpec:=fun _=>none
 nilG:FuncId → Option GSpec:=fun _=>none
 iters:FuncId → Option ISpec:=fun _=>none
 sortsM:FuncId → Option MSpec:=fun _=>none
 procs:FuncId → Option HSpec:=fun _=>none
 muts:FuncId → Option OSpec:=fun _=>none
 pans:FuncId → Option PSpec:=fun _=>none
 noPan:Bool:=true
 pan:Int × Int → Prop:=fun _=>False
 panT:TypeId:=0
 quiet:FuncId → Bool:=fun _=>false
def Ctx.panOk (C:Ctx) (b:Int × Int):Prop:=match C.noPan with | true=>False | false=>C.pan b
def Ctx.wraps (C:Ctx):Bool:=Nat.beq ((C.hint 999999994).unr 0) 1
def Ctx.asDat (C:Ctx) (t:TypeId):Bool:=Nat.ble 1 ((C.hint 999999995).unr t)
def Ctx.asDatB (C:Ctx) (t:TypeId):Bool:=Nat.beq ((C.hint 999999995).unr t) 1
def gdatL:List Int:=[1116352408,1899447441,3049323471,3921009573,961987163,1508970993,2453635748,2870763221,3624381080,310598401,607225278,1426881987,1925078388,2162078206,2614888103,3248222580,
 3835390401,4022224774,264347078,604807628,770255983,1249150122,1555081692,1996064986,2554220882,2821834349,2952996808,3210313671,3336571891,3584528711,113926993,338241895,
 666307205,773529912,1294757372,1396182291,1695183700,1986661051,2177026350,2456956037,2730485921,2820302411,3259730800,3345764771,3516065817,3600352804,4094571909,275423344,
 430227734,506948616,659060556,883997877,958139571,1322822218,1537002063,1747873779,1955562222,2024104815,2227730452,2361852424,2428436474,2756734187,3204031479,3329325298]
def gIs (P:Program) (g:Nat):Bool:=P.globalNamed "antiquary/hash.constants" == some g
def wsL:List Int:=(List.range 256).map fun c=>if Nat.beq c 32 || (Nat.ble 9 c && Nat.ble c 13) then 1 else 0
def wsIs (P:Program) (g:Nat):Bool:=P.globalNamed "strings.asciiSpace" == some g
def Ctx.lay (C:Ctx) (t:TypeId):Option (Bool × Nat) :=
 match C.P.info? t with
 | none=>none
 | some i=>match C.P.underlying t with
  | some (.struct _)=>some (true,i.size)
  | some (.array _ _)=>some (true,i.size)
  | some _=>if Nat.beq i.size 1 then some (false,1) else none
  | none=>none
def Ctx.size (C:Ctx) (t:TypeId):Option Nat :=
 match C.P.info? t with
 | some i=>some i.size
 | none=>none
def Ctx.zero (C:Ctx) (t:TypeId):Option AV :=
 match C.P.info? t with
 | some i=>match i.zero with
  | some v=>some (ofV v)
  | none=>none
 | none=>none
mutual
def okT (P:Program):Ty → TypeId → Bool
 | .int k,t=>match P.underlying t with | some (.int k')=>decide (k' = k) | _=>false
 | .bool,t=>match P.underlying t with | some .bool=>true | _=>false
 | .str,t=>match P.underlying t with | some .string=>true | _=>false
 | .arr e,t=>match P.underlying t with
  | some (.slice et)=>Nat.beq (P.cellsOf et) e.cells && Nat.ble 1 e.cells && okT P e et
  | _=>false
 | .vec n e,t=>match P.underlying t with
  | some (.array m et)=>Nat.beq m n && Nat.beq (P.cellsOf et) e.cells && Nat.beq (P.cellsOf t) (n * e.cells) && okT P e et
  | _=>false
 | .unit,_=>false
 | .fnc,_=>false
 | .any,_=>false
 | .rose a b,t=>match P.underlying t with
  | some (.struct fs)=>Nat.beq (P.cellsOf t) (a.cells + 1 + b.cells) && okA P a fs.toList 0 (fun fs off=>match fs with
   | f :: fs=>Nat.beq f.offset off && Nat.beq (P.cellsOf f.type) 1 && (match P.underlying f.type with
    | some (.slice et)=>Nat.beq et t
    | _=>false) && okF P b fs (off + 1)
   | []=>false)
  | _=>false
 | .pair a b,t=>match P.underlying t with
  | some (.struct fs)=>match fs.toList with
   | f :: fs=>Nat.beq (P.cellsOf t) (a.cells + b.cells) && Nat.beq f.offset 0 && Nat.beq (P.cellsOf f.type) a.cells && okT P a f.type && okF P b fs a.cells
   | []=>false
  | _=>false
def okA (P:Program):Ty → List Field → Nat → (List Field → Nat → Bool) → Bool
 | .pair a b,fs,off,k=>match fs with
  | f :: fs=>Nat.beq f.offset off && Nat.beq (P.cellsOf f.type) a.cells && okT P a f.type && okA P b fs (off + a.cells) k
  | []=>false
 | .unit,fs,off,k=>k fs off
 | _,_,_,_=>false
def okF (P:Program):Ty → List Field → Nat → Bool
 | .pair a b,fs,off=>match fs with
  | f :: fs=>Nat.beq f.offset off && Nat.beq (P.cellsOf f.type) a.cells && okT P a f.type && okF P b fs (off + a.cells)
  | []=>false
 | .unit,fs,_=>match fs with | []=>true | _=>false
 | _,_,_=>false
end
def okTs (P:Program):List Ty → List TypeId → Bool
 | [],[]=>true
 | a :: as,t :: ts=>okT P a t && okTs P as ts
 | _,_=>false
def eqOk:Ty → Bool
 | .int _ | .bool | .str | .unit=>true
 | .vec _ (.int _)=>true
 | .pair a b=>eqOk a && eqOk b
 | _=>false
def eqD:(t:Ty) → t.den → t.den → Bool
 | .int _,x,y=>decide ((x:Int) = y)
 | .bool,x,y=>x == y
 | .str,x,y=>decide ((x:List Int) = y)
 | .vec _ (.int _),x,y=>decide ((x:List Int) = y)
 | .pair a b,x,y=>eqD a x.1 y.1 && eqD b x.2 y.2
 | .unit,_,_=>true
 | _,_,_=>false
structure Out where
 need:Option Prop
 v:AV
 heap:List Blk
 kill:Option Nat
def cellsOf:AV → Option (List AV)
 | .agg cs=>some cs
 | .junk | .und | .tup _=>none
 | .sl k=>some [.sl k]
 | .d t x=>if t.isAgg then none else some [.d t x]
 | v=>some [v]
def vecCells (e:Ty) (xs:List e.den):Nat → Nat → List AV
 | _,0=>[]
 | i,m + 1=>.d e (xs.getD i (dflt e)) :: vecCells e xs (i + 1) m
def jJs:(t:Ty) → t.den → Option (List AV)
 | .pair a b,x =>
  match jJs a x.1 with
  | some l=>match jJs b x.2 with
   | some m=>some (l ++ m)
   | none=>none
  | none=>none
 | .unit,_=>some []
 | .rose a b,x =>
  match jJs a (x:Rose (a.den × b.den)).val.1 with
  | some l=>match jJs b (x:Rose (a.den × b.den)).val.2 with
   | some m=>some (l ++ .d (.arr (.rose a b)) (x:Rose (a.den × b.den)).subs :: m)
   | none=>none
  | none=>none
 | .vec n e,x=>if e.small then some (vecCells e x 0 n) else none
 | t,x=>some [.d t x]
def cellsOf':AV → Option (List AV)
 | .d t x=>jJs t x
 | v=>cellsOf v
def subD:(t:Ty) → t.den → (off sz:Nat) → (ag:Bool) → Option AV
 | .pair a b,x,off,sz,ag =>
  if Nat.beq off 0 && Nat.beq (a.cells + b.cells) sz && ag then some (.d (.pair a b) x)
  else if Nat.ble (off + sz) a.cells then subD a x.1 off sz ag
  else if Nat.ble a.cells off then subD b x.2 (off - a.cells) sz ag
  else none
 | .rose a b,x,off,sz,ag =>
  if Nat.beq off 0 && Nat.beq (a.cells + 1 + b.cells) sz && ag then some (.d (.rose a b) x)
  else if Nat.ble (off + sz) a.cells then subD a (x:Rose (a.den × b.den)).val.1 off sz ag
  else if Nat.beq off a.cells && Nat.beq sz 1 && !ag then some (.d (.arr (.rose a b)) (x:Rose (a.den × b.den)).subs)
  else if Nat.ble (a.cells + 1) off then subD b (x:Rose (a.den × b.den)).val.2 (off - (a.cells + 1)) sz ag
  else none
 | t,x,off,sz,ag=>if Nat.beq off 0 && Nat.beq t.cells sz && (t.isAgg == ag) then some (.d t x) else none
def peel (off:Nat):AV → AV
 | .d (.pair a .unit) x=>bif Nat.ble 1 off && a.isAgg then .d a x.1 else .d (.pair a .unit) x
 | v=>v
def subP (t:Ty) (x:t.den) (off sz:Nat) (ag:Bool):Option AV :=
 match subD t x off sz ag with
 | some v=>some (peel off v)
 | none=>none
def subX:(t:Ty) → t.den → (off sz:Nat) → (ag:Bool) → Option AV
 | .pair a b,x,off,sz,ag=>match subP (.pair a b) x off sz ag with
  | some v=>some v
  | none=>if Nat.ble (off + sz) a.cells then subX a x.1 off sz ag else if Nat.ble a.cells off then subX b x.2 (off - a.cells) sz ag else none
 | .vec n e,x,off,sz,ag=>match subP (.vec n e) x off sz ag with
  | some v=>some v
  | none=>if e.small && Nat.ble (off + sz) n then (bif ag then some (.d (.vec sz e) ((x.drop off).take sz)) else bif Nat.beq sz 1 then some (.d e (x.getD off (dflt e))) else none) else none
 | t,x,off,sz,ag=>subP t x off sz ag
def updV:(t:Ty) → t.den → (off n:Nat) → (e:Ty) → List e.den → Option t.den
 | .pair a b,x,off,n,e,ys =>
  if Nat.ble (off + n) a.cells then match updV a x.1 off n e ys with
   | some y=>some (y,x.2)
   | none=>none
  else if Nat.ble a.cells off then match updV b x.2 (off - a.cells) n e ys with
   | some y=>some (x.1,y)
   | none=>none
  else none
 | .vec m e',x,off,n,e,ys=>if Nat.beq off 0 && Nat.beq m n && e.small then cast? (.arr e) (.arr e') ys else none
 | _,_,_,_,_,_=>none
def updD:(t:Ty) → t.den → (off sz:Nat) → List Blk → AV → Option t.den
 | .pair a b,x,off,sz,h,v =>
  match (if Nat.beq off 0 && Nat.beq (a.cells + b.cells) sz then asD h (.pair a b) v else none) with
  | some y=>some y
  | none =>
  if Nat.ble (off + sz) a.cells then match updD a x.1 off sz h v with
   | some y=>some (y,x.2)
   | none=>none
  else if Nat.ble a.cells off then match updD b x.2 (off - a.cells) sz h v with
   | some y=>some (x.1,y)
   | none=>none
  else none
 | .vec n e,x,off,sz,h,v =>
  if Nat.beq off 0 && Nat.beq (n * e.cells) sz then asD h (.vec n e) v
  else if e.small && Nat.beq sz 1 && Nat.ble (off + 1) n then match asD h e v with
   | some y=>some (x.set off y)
   | none=>none
  else none
 | t,x,off,sz,h,v=>if Nat.beq off 0 && Nat.beq t.cells sz then asD h t v else none
def jXi:List AV → Nat
 | []=>0
 | _ :: l=>jXi l + 1
def hlen:List Blk → Nat
 | []=>0
 | _ :: l=>hlen l + 1
def jJu:List AV → Nat → List AV → List AV
 | cs,_,[]=>cs
 | cs,off,v :: vs=>jJu (fset cs off v) (off + 1) vs
def isI64 (n:Int):Prop:=-9223372036854775808 ≤ n ∧ n ≤ 9223372036854775807
def jZl (b:Bool):AV:=.d .bool b
def asB:AV → Option Bool
 | .tt=>some true
 | .ff=>some false
 | .d .bool b=>some b
 | _=>none
def ok0 (h:List Blk) (v:AV):Option Out:=some ⟨none,v,h,none⟩
def okP (h:List Blk) (p:Prop) (v:AV):Option Out:=some ⟨some p,v,h,none⟩
def arith (wr:Bool) (h:List Blk) (k:IntKind) (n:Int):Option Out :=
 match k with
 | .i64=>(match wr with
  | true=>ok0 h (.d (.int .i64) (IntKind.i64.wrap n))
  | false=>okP h (isI64 n) (.d (.int .i64) n))
 | k=>ok0 h (.d (.int k) (k.wrap n))
def bitsOp (op:BinOp) (k:IntKind) (a b:Int):Int :=
 match op with
 | .and=>k.wrap (BitVec.ofInt k.bits a &&& BitVec.ofInt k.bits b).toNat
 | .or=>k.wrap (BitVec.ofInt k.bits a ||| BitVec.ofInt k.bits b).toNat
 | .xor=>k.wrap (BitVec.ofInt k.bits a ^^^ BitVec.ofInt k.bits b).toNat
 | _=>k.wrap (BitVec.ofInt k.bits a &&& ~~~(BitVec.ofInt k.bits b)).toNat
def ibin (wr:Bool) (h:List Blk) (op:BinOp) (k k':IntKind) (a b:Int):Option Out :=
 match op with
 | .shl=>match k with
  | .i64=>okP h (0 ≤ b ∧ b ≤ 63 ∧ isI64 (a * 2 ^ b.toNat)) (.d (.int .i64) (a * 2 ^ b.toNat))
  | k=>okP h (0 ≤ b ∧ b ≤ k.bits) (.d (.int k) (k.wrap (a * 2 ^ b.toNat)))
 | .shr=>okP h (0 ≤ b ∧ b ≤ k.bits) (.d (.int k) (a / 2 ^ b.toNat))
 | op=>if k = k' then
  match op with
  | .add=>arith wr h k (a + b)
  | .sub=>arith wr h k (a - b)
  | .mul=>arith wr h k (a * b)
  | .quo=>match k with
   | .i64=>okP h (b ≠ 0 ∧ isI64 (a.tdiv b)) (.d (.int .i64) (a.tdiv b))
   | k=>okP h (b ≠ 0) (.d (.int k) (k.wrap (a.tdiv b)))
  | .rem=>okP h (b ≠ 0) (.d (.int k) (a.tmod b))
  | .and=>ok0 h (.d (.int k) (bitsOp .and k a b))
  | .or=>ok0 h (.d (.int k) (bitsOp .or k a b))
  | .xor=>ok0 h (.d (.int k) (bitsOp .xor k a b))
  | .andNot=>ok0 h (.d (.int k) (bitsOp .andNot k a b))
  | .eql=>ok0 h (jZl (decide (a = b)))
  | .neq=>ok0 h (jZl (!decide (a = b)))
  | .lss=>ok0 h (jZl (decide (a < b)))
  | .leq=>ok0 h (jZl (decide (a ≤ b)))
  | .gtr=>ok0 h (jZl (decide (b < a)))
  | .geq=>ok0 h (jZl (decide (b ≤ a)))
  | _=>none
  else none
def isBoolT (C:Ctx) (t:TypeId):Bool :=
 match C.P.underlying t with
 | some .bool=>true
 | _=>false
def isFuncT (C:Ctx) (t:TypeId):Bool :=
 match C.P.underlying t with
 | some (.func _ _ _)=>true
 | _=>false
def isPtrT (C:Ctx) (t:TypeId):Bool :=
 match C.P.underlying t with
 | some (.pointer _)=>true
 | _=>false
def nilB (h:List Blk) (op:BinOp) (b:Bool):Option Out :=
 match op with
 | .eql=>ok0 h (bif b then .tt else .ff)
 | .neq=>ok0 h (bif b then .ff else .tt)
 | _=>none
def strLt:List Int → List Int → Bool
 | [],[]=>false
 | [],_ :: _=>true
 | _ :: _,[]=>false
 | a :: l,b :: m=>decide (a < b) || (decide (a = b) && strLt l m)
def abin (C:Ctx) (h:List Blk) (op:BinOp) (xt:TypeId) (x y:AV):Option Out :=
 match x,y with
 | .d (.int k) a,.d (.int k') b=>ibin C.wraps h op k k' a b
 | .d .str a,.d .str b =>
  match op with
  | .eql=>ok0 h (jZl (decide (a = b)))
  | .neq=>ok0 h (jZl (!decide (a = b)))
  | .lss=>ok0 h (jZl (strLt a b))
  | .gtr=>ok0 h (jZl (!(strLt a b || decide (a = b))))
  | .leq=>ok0 h (jZl (strLt a b || decide (a = b)))
  | .geq=>ok0 h (jZl (!strLt a b))
  | .add=>okP h (a.length + b.length ≤ 9223372036854775807) (.d .str (a ++ b))
  | _=>none
 | .fn _ _,.nilf=>if isFuncT C xt then nilB h op false else none
 | .nilf,.nilf=>if isFuncT C xt then nilB h op true else none
 | .own _ _,.nilp=>if isPtrT C xt then nilB h op false else none
 | .nilp,.nilp=>if isPtrT C xt then nilB h op true else none
 | x,y =>
  if isBoolT C xt then
   match asB x,asB y,op with
   | some a,some b,.eql=>ok0 h (jZl (a == b))
   | some a,some b,.neq=>ok0 h (jZl (a != b))
   | _,_,_=>none
  else none
def abinAgg (C:Ctx) (h:List Blk) (op:BinOp) (xt:TypeId) (x y:AV):Option Out :=
 match C.ty xt with
 | some ty=>if ty.isAgg && eqOk ty && okT C.P ty xt && C.P.keyTypeAt 100 xt && !(C.P.eqGuardType C.P.depth xt) && noRefs' [x,y] then
  match asD h ty x,asD h ty y with
  | some a,some b=>match op with
   | .eql=>ok0 h (jZl (eqD ty a b))
   | .neq=>ok0 h (jZl (!eqD ty a b))
   | _=>none
  | _,_=>none
  else none
 | none=>none
def aun (h:List Blk) (op:UnOp) (x:AV):Option Out :=
 match op,x with
 | .not,.tt=>ok0 h .ff
 | .not,.ff=>ok0 h .tt
 | .not,.d .bool b=>ok0 h (jZl (!b))
 | .neg,.d (.int k) n=>arith false h k (0 - n)
 | .xor,.d (.int k) n=>ok0 h (.d (.int k) (bitsOp .xor k (if k.signed then -1 else k.max) n))
 | _,_=>none
def asList (h:List Blk):AV → Option ((e:Ty) × List e.den)
 | .d (.arr e) xs=>some ⟨e,xs⟩
 | .fs e xs=>some ⟨e,xs⟩
 | .sl k=>match hget h k with
  | .grow _ e xs=>some ⟨e,xs⟩
  | _=>none
 | _=>none
def alen (C:Ctx) (h:List Blk) (t:TypeId) (x:AV):Option Out :=
 match C.P.underlying t,x with
 | some .string,.d .str l=>ok0 h (.d (.int .i64) (l.length:Int))
 | some (.slice _),.nils=>ok0 h (.d (.int .i64) (0:Int))
 | some (.slice _),.ssl _ n=>ok0 h (.d (.int .i64) (n:Int))
 | some (.slice _),.osl _ _ _ lo hi=>ok0 h (.d (.int .i64) (hi - lo))
 | some (.slice _),x=>match asList h x with
  | some ⟨_,xs⟩=>ok0 h (.d (.int .i64) (xs.length:Int))
  | none=>none
 | some (.map _ _),.sl k=>match hget h k with
  | .dmap _ mm=>some ⟨some ((mm.length:Int) ≤ 9223372036854775807),.d (.int .i64) (mm.length:Int),h,none⟩
  | _=>none
 | _,_=>none
def foldMin (k:IntKind):List AV → Int → Option Int
 | [],n=>some n
 | .d (.int k') m :: l,n=>if k' = k then foldMin k l (min n m) else none
 | _,_=>none
def foldMax (k:IntKind):List AV → Int → Option Int
 | [],n=>some n
 | .d (.int k') m :: l,n=>if k' = k then foldMax k l (max n m) else none
 | _,_=>none
def asTail (C:Ctx) (h:List Blk) (e:Ty) (t:TypeId) (y:AV):Option (List e.den) :=
 match C.P.underlying t,y with
 | some (.slice _),.nils=>some []
 | some .string,.d .str l=>cast? (.arr (.int .u8)) (.arr e) l
 | some (.slice _),x=>match asList h x with
  | some ⟨u,xs⟩=>cast? (.arr u) (.arr e) xs
  | none=>none
 | _,_=>none
def jJp (C:Ctx) (t:TypeId):Option TypeId :=
 match C.P.underlying t with
 | some (.slice e)=>some e
 | _=>none
def zeroOk (e:Ty) (z:AV):Bool :=
 match cellsOf' z with
 | some l=>Nat.beq (jXi l) e.cells
 | none=>false
def roomP (C:Ctx) (tid:TypeId) (n:Nat):Prop:=n * (C.P.bytesOf tid) ≤ 140737488355328 ∧ n ≤ 9223372036854775807
def Ctx.tailFirst (C:Ctx):Bool:=Nat.beq ((C.hint 999999999).unr 0) 77
def aappendTo (C:Ctx) (h:List Blk) (tx tid:TypeId) (sz:Nat) (z:AV) (x y:AV):Option Out :=
 match x with
 | .nils =>
  match C.ty tid with
  | none=>none
  | some e =>
  match asTail C h e tx y with
  | some ys=>if Nat.beq e.cells sz && zeroOk e z then some ⟨some (roomP C tid ys.length),.sl (hlen h),h ++ [.grow tid e ys],none⟩ else none
  | none=>none
 | .sl k =>
  match hget h k with
  | .grow tid' e xs =>
   match asTail C h e tx y with
   | some ys =>
    if Nat.beq tid tid' && Nat.beq e.cells sz && zeroOk e z then
     some ⟨some (roomP C tid (xs.length + ys.length)),.sl k,hset h k (.grow tid e (xs ++ ys)),some k⟩
    else none
   | none=>none
  | _=>none
 | .fs e xs =>
  match asTail C h e tx y with
  | some ys =>
   if Nat.beq e.cells sz && zeroOk e z then
    bif C.tailFirst then
     match ys with
     | []=>some ⟨none,.fs e xs,h,none⟩
     | y :: ys=>some ⟨some (roomP C tid (xs.length + (y :: ys).length)),.sl (hlen h),h ++ [.grow tid e (xs ++ y :: ys)],none⟩
    else match xs,ys with
    | [],ys=>some ⟨some (roomP C tid ys.length),.sl (hlen h),h ++ [.grow tid e ys],none⟩
    | x :: xs,y :: ys=>some ⟨some (roomP C tid ((x :: xs).length + (y :: ys).length)),.sl (hlen h),h ++ [.grow tid e (x :: xs ++ y :: ys)],none⟩
    | _ :: _,[]=>none
   else none
  | none=>none
 | _=>none
def aappend (C:Ctx) (h:List Blk) (t tx:TypeId) (x y:AV):Option Out :=
 match jJp C t with
 | none=>none
 | some tid =>
  match C.size tid,C.zero tid with
  | some sz,some z=>aappendTo C h tx tid sz z x y
  | _,_=>none
def ainterp (low high max:Option AV):Option (Int × Option Int × Option Int) :=
 match low,high,max with
 | none,none,none=>some (0,none,none)
 | some (.d (.int _) l),none,none=>some (l,none,none)
 | none,some (.d (.int _) n),none=>some (0,some n,none)
 | some (.d (.int _) l),some (.d (.int _) n),none=>some (l,some n,none)
 | none,some (.d (.int _) n),some (.d (.int _) m)=>some (0,some n,some m)
 | some (.d (.int _) l),some (.d (.int _) n),some (.d (.int _) m)=>some (l,some n,some m)
 | _,_,_=>none
def arrayOf (C:Ctx) (t:TypeId):Option (Nat × TypeId) :=
 match C.P.underlying t with
 | some (.array n e)=>some (n,e)
 | _=>none
def asliceArr (C:Ctx) (h:List Blk) (t:TypeId) (x:AV) (low high max:Option AV):Option Out :=
 match arrayOf C t,low,high,max with
 | some (n,et),none,none,none=>match C.size et,x with
  | some sz,.rp (.vec m e) xs=>if Nat.beq e.cells sz && Nat.beq m n && Nat.ble n 16777216 then ok0 h (.fs e xs) else none
  | _,_=>none
 | _,_,_,_=>none
def aslice0 (C:Ctx) (h:List Blk) (t:TypeId) (x:AV) (low high max:Option AV):Option Out :=
 match ainterp low high max with
 | none=>none
 | some (l,hi,mx) =>
  match C.P.underlying t,x with
  | some .string,.d .str s =>
   match hi,mx with
   | none,none=>okP h (0 ≤ l ∧ l ≤ s.length) (.d .str (s.drop l.toNat))
   | some n,none=>okP h (0 ≤ l ∧ l ≤ n ∧ n ≤ s.length) (.d .str ((s.drop l.toNat).take (n.toNat - l.toNat)))
   | _,_=>none
  | some (.slice _),.sl _=>none
  | some (.slice tid),x =>
   match asList h x,C.size tid with
   | some ⟨e,xs⟩,some sz =>
    if Nat.beq sz e.cells then
     match hi,mx with
     | none,none=>okP h (0 ≤ l ∧ l ≤ xs.length) (.d (.arr e) ((xs.drop l.toNat).take (xs.length - l.toNat)))
     | some n,none=>okP h (0 ≤ l ∧ l ≤ n ∧ n ≤ xs.length) (.d (.arr e) ((xs.drop l.toNat).take (n.toNat - l.toNat)))
     | some n,some m=>okP h (0 ≤ l ∧ l ≤ n ∧ n ≤ xs.length ∧ m = n) (.fs e ((xs.drop l.toNat).take (n.toNat - l.toNat)))
     | _,_=>none
    else none
   | _,_=>none
  | _,_=>none
def Ctx.views (C:Ctx):Bool:=Nat.beq ((C.hint 999999999).unr 1) 1
def endOf (n:Nat):Option Int → Int
 | none=>n
 | some i=>i
def asliceV (C:Ctx) (h:List Blk) (t:TypeId) (k:Nat) (low high max:Option AV):Option Out :=
 match ainterp low high max with
 | some (l,hi,none) =>
  match C.P.underlying t,hget h k with
  | some (.slice tid),.grow _ e xs=>match C.size tid with
   | some sz=>if Nat.beq sz e.cells then okP h (0 ≤ l ∧ l ≤ endOf xs.length hi ∧ endOf xs.length hi ≤ xs.length ∧ l < xs.length) (.sv k sz l (endOf xs.length hi)) else none
   | none=>none
  | _,_=>none
 | _=>none
def asliceO (C:Ctx) (h:List Blk) (t:TypeId) (k off:Nat) (low high max:Option AV):Option Out :=
 match arrayOf C t,ainterp low high max with
 | some (n,et),some (l,hi,none)=>match C.size et with
  | some sz=>if C.asDat t && Nat.beq sz 1 && Nat.ble n 16777216 then okP h (0 ≤ l ∧ l ≤ endOf n hi ∧ endOf n hi ≤ n ∧ l < n) (.osl k off n l (endOf n hi)) else none
  | none=>none
 | _,_=>none
def aslice (C:Ctx) (h:List Blk) (t:TypeId) (x:AV) (low high max:Option AV):Option Out :=
 match x with
 | .own k off=>asliceO C h t k off low high max
 | .rp _ _=>asliceArr C h t x low high max
 | .sl k=>bif C.views then asliceV C h t k low high max else aslice0 C h t (.sl k) low high max
 | x=>aslice0 C h t x low high max
def asSrc (h:List Blk):AV → Option ((e:Ty) × List e.den)
 | .sv k sz lo hi=>match hget h k with
  | .grow _ e xs=>if Nat.beq sz 1 then some ⟨e,(xs.drop lo.toNat).take (hi.toNat - lo.toNat)⟩ else none
  | _=>none
 | x=>asList h x
def asDst (h:List Blk):AV → Option (Nat × Int × Int)
 | .sl k=>match hget h k with
  | .grow _ _ xs=>some (k,0,xs.length)
  | _=>none
 | .sv k sz lo hi=>if Nat.beq sz 1 then some (k,lo,hi) else none
 | _=>none
def acopyO (h:List Blk) (k off n:Nat) (lo hi:Int) (l:List Int):Option Out :=
 match hget h k with
 | .dat u x=>match vecAt u x off n with
  | some ⟨e,xs⟩=>match cast? (.arr (.int .u8)) (.arr e) l with
   | some ys=>match updV u x off n e (xs.take lo.toNat ++ ys.take (min (hi.toNat - lo.toNat) ys.length) ++ xs.drop (lo.toNat + min (hi.toNat - lo.toNat) ys.length)) with
    | some x'=>some ⟨none,.d (.int .i64) ((min (hi.toNat - lo.toNat) ys.length:Nat):Int),hset h k (.dat u x'),none⟩
    | none=>none
   | none=>none
  | none=>none
 | _=>none
def acopy1 (C:Ctx) (h:List Blk) (t:TypeId) (x y:AV):Option Out :=
 match jJp C t,asDst h x,asSrc h y with
 | some tid,some (k,lo,hi),some ⟨u,ys0⟩ =>
  match C.size tid,hget h k with
  | some sz,.grow tid' e xs =>
   match cast? (.arr u) (.arr e) ys0 with
   | some ys =>
    if Nat.beq sz 1 && Nat.beq e.cells 1 then
     some ⟨some (0 < xs.length ∧ 0 < ys.length ∧ 0 ≤ lo ∧ lo ≤ hi ∧ hi ≤ xs.length),.d (.int .i64) ((min (hi.toNat - lo.toNat) ys.length:Nat):Int),
      hset h k (.grow tid' e (xs.take lo.toNat ++ ys.take (min (hi.toNat - lo.toNat) ys.length) ++ xs.drop (lo.toNat + min (hi.toNat - lo.toNat) ys.length))),none⟩
    else none
   | none=>none
  | _,_=>none
 | _,_,_=>none
def acopyS (C:Ctx) (h:List Blk) (t:TypeId) (x y:AV):Option Out :=
 match x,y with
 | .osl k off n lo hi,.d .str l=>match jJp C t with
  | some tid=>match C.size tid with
   | some sz=>if Nat.beq sz 1 then acopyO h k off n lo hi l else none
   | none=>none
  | none=>none
 | _,_=>none
def acopy (C:Ctx) (h:List Blk) (t:TypeId) (x y:AV):Option Out :=
 match acopyS C h t x y with
 | some r=>some r
 | none=>acopy1 C h t x y
def jJy (C:Ctx) (h:List Blk) (b:Builtin) (ts:List TypeId) (args:List AV):Option Out :=
 match b,args with
 | .len,[x]=>match ts with | [t]=>alen C h t x | _=>none
 | .min,.d (.int kd) n :: l=>match foldMin kd l n with | some m=>ok0 h (.d (.int kd) m) | none=>none
 | .max,.d (.int kd) n :: l=>match foldMax kd l n with | some m=>ok0 h (.d (.int kd) m) | none=>none
 | .append,[x,y]=>match ts with | [t,tx]=>aappend C h t tx x y | _=>none
 | .copy,[x,y]=>match ts with | [t,_]=>acopy C h t x y | _=>none
 | _,_=>none
def partsOf (e:Ty) (h:List Blk):List AV → Option (List e.den)
 | []=>some []
 | v :: vs=>match asD h e v with
  | some x=>match partsOf e h vs with
   | some xs=>some (x :: xs)
   | none=>none
  | none=>none
def inOrder:Nat → List (Nat × Operand) → Bool
 | _,[]=>true
 | n,(i,_) :: l=>Nat.beq i n && inOrder (n + 1) l
def jXz:List (Nat × Operand) → List Operand
 | []=>[]
 | (_,o) :: l=>o :: jXz l
def fillA (place:Nat → Option (Nat × Nat)) (cs:List AV):List (Nat × AV) → Option (List AV)
 | []=>some cs
 | (i,v) :: rest =>
  match place i with
  | none=>none
  | some (off,size) =>
   match cellsOf' v with
   | none=>none
   | some l=>if Nat.beq (jXi l) size && Nat.ble (off + size) (jXi cs) then fillA place (jJu cs off l) rest else none
def evParts (fr:List AV):List (Nat × Operand) → List (Nat × AV)
 | []=>[]
 | (i,o) :: l=>(i,ev fr o) :: evParts fr l
def optEv (fr:List AV):Option Operand → Option AV
 | none=>none
 | some o=>some (ev fr o)
def fieldOf (C:Ctx) (t:TypeId) (f:Nat):Option Field :=
 match C.P.underlying t with
 | some (.struct fs)=>fs[f]?
 | _=>none
def loadOwn (C:Ctx) (t:TypeId) (cs:List AV) (off:Nat):Option AV :=
 match C.lay t with
 | some (true,sz)=>if Nat.ble (off + sz) (jXi cs) then some (.agg (takeN sz (dropN off cs))) else none
 | some (false,_)=>if Nat.ble (off + 1) (jXi cs) then some (fget cs off) else none
 | none=>none
def placesOf (C:Ctx) (fs:List Field):Option (List (Nat × Nat)):=fs.mapM fun f=>(C.P.info? f.type).map fun i=>(f.offset,i.size)
def aload (C:Ctx) (h:List Blk) (t:TypeId) (x:AV):Option Out :=
 match x with
 | .own k off=>match hget h k with
  | .cells cs=>match loadOwn C t cs off with
   | some v=>ok0 h v
   | none=>none
  | .dat u x=>match C.lay t with
   | some (ag,n)=>match subX u x off n ag with
    | some v=>ok0 h v
    | none=>none
   | none=>none
  | _=>none
 | .oix k off m i=>match hget h k,C.lay t with
  | .dat u x,some (false,_)=>match vecAt u x off m with
   | some ⟨e,xs⟩=>ok0 h (.d e (xs.getD i.toNat (dflt e)))
   | none=>none
  | _,_=>none
 | .glb g=>match C.lay t with
  | some (true,n)=>if Nat.beq n 64 && gIs C.P g then ok0 h (.d (.vec 64 (.int .u32)) gdatL) else none
  | _=>none
 | .slpf k sz i off=>match hget h k with
  | .grow _ e xs=>match C.lay t with
   | some (ag,n)=>if Nat.beq sz e.cells then match subX e (xs.getD i.toNat (dflt e)) off n ag with
    | some v=>ok0 h v
    | none=>none
    else none
   | none=>none
  | _=>none
 | .slp k sz i=>match hget h k with
  | .grow _ e xs=>match C.lay t with
   | some (ag,n)=>if Nat.beq n e.cells && Nat.beq n sz && (ag == e.isAgg) then ok0 h (.d e (xs.getD i.toNat (dflt e))) else none
   | none=>none
  | _=>none
 | .rp u x=>match C.lay t with
  | some (ag,n)=>if Nat.beq n u.cells && (ag == u.isAgg) then ok0 h (.d u x) else none
  | none=>none
 | _=>none
def jZx (l:List AV):Bool:=match refsA l with | []=>true | _=>false
def apick (h:List Blk) (c a b:AV):Option Out :=
 match c with
 | .tt=>ok0 h a
 | .ff=>ok0 h b
 | .d .bool x=>match asB a,asB b with
  | some y,some z=>ok0 h (jZl (bif x then y else z))
  | _,_=>none
 | _=>none
def abuild (C:Ctx) (h:List Blk) (t:TypeId) (parts:List (Nat × AV)):Option Out :=
 match C.P.underlying t with
 | some (.struct fs) =>
  match C.zero t,placesOf C fs.toList with
  | some (.agg zs),some ps =>
   match fillA (fun i=>ps.toArray[i]?) zs parts with
   | some cs=>ok0 h (.agg cs)
   | none=>none
  | _,_=>none
 | some (.array _ et) =>
  match C.zero t,C.size et with
  | some (.agg zs),some sz =>
   match fillA (fun i=>some (i * sz,sz)) zs parts with
   | some cs=>ok0 h (.agg cs)
   | none=>none
  | _,_=>none
 | _=>none
def jZr (C:Ctx) (h:List Blk) (t:TypeId) (len:Nat) (parts:List (Nat × Operand)) (vs:List AV):Option Out :=
 match jJp C t with
 | some tid=>match C.ty tid,C.size tid with
  | some e,some sz =>
   if Nat.beq e.cells sz && inOrder 0 parts && Nat.beq (jXi vs) len && Nat.ble (len * sz) 16777216 && Nat.ble len 16777216 && jZx vs then
    match partsOf e h vs,C.zero tid with
    | some xs,some _=>ok0 h (.fs e xs)
    | _,_=>none
   else none
  | _,_=>none
 | none=>none
def jJ5:List AV → Nat → Option (List AV)
 | [],_=>some []
 | .agg l :: vs,sz=>match jJ5 vs sz with
  | some m=>if Nat.beq (jXi l) sz then some (l ++ m) else none
  | none=>none
 | _ :: _,_=>none
def assl (C:Ctx) (h:List Blk) (t:TypeId) (len:Nat) (parts:List (Nat × Operand)) (vs:List AV):Option Out :=
 match jJp C t with
 | some tid=>match C.size tid,C.zero tid with
  | some sz,some _=>if inOrder 0 parts && Nat.beq (jXi vs) len && Nat.ble (len * sz) 16777216 && Nat.ble len 16777216 && Nat.ble 1 len && Nat.ble 1 sz then match jJ5 vs sz with
   | some cs=>some ⟨none,.ssl (hlen h) len,h ++ [.cells cs],none⟩
   | none=>none
   else none
  | _,_=>none
 | none=>none
def astore (C:Ctx) (h:List Blk) (t:TypeId) (a x:AV):Option Out :=
 match a with
 | .own k off=>match hget h k with
  | .cells cs=>match cellsOf' x,C.size t with
   | some l,some sz=>if Nat.beq (jXi l) sz && Nat.ble (off + sz) (jXi cs) then some ⟨none,.und,hset h k (.cells (jJu cs off l)),none⟩ else none
   | _,_=>none
  | .dat u y=>match C.size t with
   | some sz=>if jZx [x] then match updD u y off sz h x with
    | some z=>some ⟨none,.und,hset h k (.dat u z),none⟩
    | none=>none
    else none
   | none=>none
  | _=>none
 | .oix k off m i=>match hget h k with
  | .dat u y=>match C.size t,vecAt u y off m with
   | some sz,some ⟨e,xs⟩=>if Nat.beq sz 1 && jZx [x] then match asD h e x with
    | some z=>match updV u y off m e (xs.set i.toNat z) with
     | some y'=>some ⟨none,.und,hset h k (.dat u y'),none⟩
     | none=>none
    | none=>none
    else none
   | _,_=>none
  | _=>none
 | .slpf k sz i off=>match hget h k with
  | .grow tid e xs=>match C.size t with
   | some n=>if Nat.beq sz e.cells && jZx [x] then match updD e (xs.getD i.toNat (dflt e)) off n h x with
    | some y=>some ⟨none,.und,hset h k (.grow tid e (xs.set i.toNat y)),none⟩
    | none=>none
    else none
   | none=>none
  | _=>none
 | .slp k sz i=>match hget h k with
  | .grow tid e xs=>match asD h e x,C.size t with
   | some y,some n=>if Nat.beq n e.cells && Nat.beq n sz && jZx [x] then some ⟨none,.und,hset h k (.grow tid e (xs.set i.toNat y)),none⟩ else none
   | _,_=>none
  | _=>none
 | _=>none
def anil (h:List Blk) (x:AV):Option Out :=
 match x with
 | .own k off=>ok0 h (.own k off)
 | .rp t x=>ok0 h (.rp t x)
 | .slp k sz i=>ok0 h (.slp k sz i)
 | .oix k off n i=>ok0 h (.oix k off n i)
 | .slpf k sz i off=>ok0 h (.slpf k sz i off)
 | _=>none
def aconvert (C:Ctx) (h:List Blk) (src dst:TypeId) (x:AV):Option Out :=
 match C.P.underlying src,C.P.underlying dst with
 | some (.int _),some (.int k)=>match x with
  | .d (.int j) n =>
   match k,j with
   | .i64,.i64=>ok0 h (.d (.int .i64) n)
   | k,_=>ok0 h (.d (.int k) (k.wrap n))
  | _=>none
 | some (.slice et),some .string=>match C.P.underlying et with
  | some (.int .u8)=>match x with
   | .nils=>ok0 h (.d .str [])
   | x=>match asList h x with
    | some ⟨e,xs⟩=>match cast? (.arr e) (.arr (.int .u8)) xs with
     | some ys=>ok0 h (.d .str ys)
     | none=>none
    | none=>none
  | _=>none
 | _,_=>none
def amake (C:Ctx) (h:List Blk) (t:TypeId) (l c:AV):Option Out :=
 match jJp C t with
 | some tid=>match C.ty tid,C.size tid,C.zero tid,l,c with
  | some e,some sz,some z,.d (.int .i64) n,.d (.int .i64) m =>
   if Nat.beq e.cells sz && zeroOk e z then
    match asD [] e z with
    | some x=>some ⟨some (0 ≤ n ∧ n ≤ m ∧ roomP C tid m.toNat),.sl (hlen h),h ++ [.grow tid e (List.replicate n.toNat x)],none⟩
    | none=>none
   else none
  | _,_,_,_,_=>none
 | none=>none
def jKy (C:Ctx) (h:List Blk) (t:TypeId) (x:AV) (f:Nat):Option Out :=
 match fieldOf C t f with
 | some fd=>match C.lay fd.type with
  | some (ag,sz)=>match x with
   | .own k off=>if Nat.ble 1 sz then ok0 h (.own k (off + fd.offset)) else none
   | .slp k z i=>if Nat.ble 1 sz && Nat.ble (fd.offset + sz) z then ok0 h (.slpf k z i fd.offset) else none
   | .slpf k z i off=>if Nat.ble 1 sz && Nat.ble (off + fd.offset + sz) z then ok0 h (.slpf k z i (off + fd.offset)) else none
   | .rp u y=>if Nat.ble 1 sz then match subP u y fd.offset sz ag with
    | some (.d u' y')=>ok0 h (.rp u' y')
    | _=>none
    else none
   | _=>none
  | none=>none
 | none=>none
def afield (C:Ctx) (h:List Blk) (t:TypeId) (x:AV) (f:Nat):Option Out :=
 match fieldOf C t f with
 | some fd=>match C.lay fd.type with
  | some (ag,sz)=>match x with
   | .agg cs=>match loadOwn C fd.type cs fd.offset with
    | some v=>ok0 h v
    | none=>none
   | .d u y=>if u.isAgg then
    match subP u y fd.offset sz ag with
    | some v=>ok0 h v
    | none=>none
    else none
   | _=>none
  | none=>none
 | none=>none
def aindexArr (C:Ctx) (h:List Blk) (t:TypeId) (x:AV) (i:Int):Option Out :=
 match arrayOf C t with
 | some (n,et)=>match C.size et with
  | some sz=>match x with
   | .own k off=>bif C.asDat t && Nat.beq sz 1 then okP h (0 ≤ i ∧ i < (n:Int)) (.oix k off n i) else okP h (0 ≤ i ∧ i < (n:Int)) (.own k (off + i.toNat * sz))
   | .rp (.vec m e) xs=>if Nat.beq e.cells sz && Nat.beq m n then okP h (0 ≤ i ∧ i < (n:Int)) (.rp e (xs.getD i.toNat (dflt e))) else none
   | _=>none
  | none=>none
 | none=>none
def jKx (C:Ctx) (h:List Blk) (t:TypeId) (x ix:AV):Option Out :=
 match jJp C t,ix with
 | some tid,.d (.int _) i=>match C.size tid with
  | some sz=>match x with
   | .sl k=>match hget h k with
    | .grow _ e xs=>if Nat.beq e.cells sz then okP h (0 ≤ i ∧ i < xs.length) (.slp k sz i) else none
    | _=>none
   | .ssl k n=>okP h (0 ≤ i ∧ i < (n:Int)) (.own k (i.toNat * sz))
   | x=>match asList h x with
    | some ⟨e,xs⟩=>if Nat.beq e.cells sz then okP h (0 ≤ i ∧ i < xs.length) (.rp e (xs.getD i.toNat (dflt e))) else none
    | none=>none
  | none=>none
 | none,.d (.int _) i=>aindexArr C h t x i
 | _,_=>none
def aindex (C:Ctx) (h:List Blk) (t:TypeId) (x ix:AV):Option Out :=
 match C.P.underlying t,x,ix with
 | some .string,.d .str s,.d (.int _) i=>okP h (0 ≤ i ∧ i < s.length) (.d (.int .u8) (s.getD i.toNat 0))
 | some (.array n et),.d (.vec m e) xs,.d (.int _) i=>match C.lay et with
  | some (ag,sz)=>if Nat.beq e.cells sz && Nat.beq m n && (ag == e.isAgg) then okP h (0 ≤ i ∧ i < (n:Int)) (.d e (xs.getD i.toNat (dflt e))) else none
  | none=>none
 | _,_,_=>none
def aarrayAt (C:Ctx) (h:List Blk) (t:TypeId) (x:AV):Option Out :=
 match arrayOf C t with
 | some (n,et)=>match C.size et with
  | some sz=>match x with
   | .sl _=>none
   | .osl k off _ lo hi=>if Nat.beq sz 1 && Nat.ble 1 n then okP h (lo + (n:Int) ≤ hi) (.own k (off + lo.toNat)) else none
   | x=>match asList h x with
    | some ⟨e,xs⟩=>if Nat.beq e.cells sz && Nat.ble 1 n then okP h ((n:Int) ≤ xs.length) (.rp (.vec n e) (xs.take n)) else none
    | none=>none
  | none=>none
 | none=>none
def aextract (h:List Blk) (x:AV) (i:Nat):Option Out :=
 match x with
 | .tup cs=>if Nat.ble (i + 1) (jXi cs) then ok0 h (fget cs i) else none
 | _=>none
def zeroOne (C:Ctx) (t:TypeId):Bool:=match C.P.info? t with
 | some i=>match i.zero with
  | some v=>v.oneCell'
  | none=>false
 | none=>false
def adat (C:Ctx) (h:List Blk) (t:TypeId) (v:AV):Option Out :=
 match C.ty t,C.size t with
 | some u,some sz=>if Nat.beq sz u.cells && noRefs' [v] then match asD h u v with
  | some x=>some ⟨none,.own (hlen h) 0,h ++ [.dat u x],none⟩
  | none=>none
  else none
 | _,_=>none
def aalloc (C:Ctx) (h:List Blk) (t:TypeId):Option Out :=
 match C.zero t with
 | some z=>bif C.asDat t then adat C h t z else match cellsOf' z with
  | some cs=>some ⟨none,.own (hlen h) 0,h ++ [.cells cs],none⟩
  | none=>if zeroOne C t then some ⟨none,.own (hlen h) 0,h ++ [.cells [.junk]],none⟩ else none
 | none=>none
def abox' (C:Ctx) (h:List Blk) (t:TypeId) (x:AV):Option Out :=
 bif C.asDatB t then adat C h t x else match x with
 | .d u y=>if C.ro t then ok0 h (.rp u y) else none
 | .agg cs=>if C.ro t then match refs (.agg cs) with
  | []=>match C.ty t with
   | some u=>match asD h u (.agg cs) with
    | some y=>ok0 h (.rp u y)
    | none=>none
   | none=>none
  | _=>none
  else none
 | _=>none
def abox (h:List Blk) (x:AV):Option Out :=
 match cellsOf' x with
 | some cs=>some ⟨none,.own (hlen h) 0,h ++ [.cells cs],none⟩
 | none=>none
def intMap (C:Ctx) (t:TypeId):Option TypeId :=
 match C.P.underlying t with
 | some (.map kt et)=>match C.P.underlying kt with
  | some (.int .i64)=>some et
  | _=>none
 | _=>none
def keyMap (C:Ctx) (t:TypeId):Option (Bool × TypeId) :=
 match C.P.underlying t with
 | some (.map kt et)=>match C.P.underlying kt with
  | some (.int .i64)=>some (true,et)
  | some .string=>some (false,et)
  | _=>none
 | _=>none
def keyOf:Bool → AV → Option KK
 | true,.d (.int .i64) n=>some (.i n)
 | false,.d .str l=>some (.s l)
 | _,_=>none
def kkEq:KK → KK → Bool
 | .i a,.i b=>decide (a = b)
 | .s a,.s b=>decide (a = b)
 | _,_=>false
def kkLike:KK → KK → Bool
 | .i _,.i _=>true
 | .s _,.s _=>true
 | _,_=>false
def notInK (n:KK):List (KK × AV) → Bool
 | []=>true
 | (m,_) :: es=>kkLike n m && !kkEq n m && notInK n es
def okE1:AV → Bool
 | .own _ _=>true
 | .d _ _=>true
 | .rp _ _=>true
 | _=>false
def okE1s:List AV → Bool
 | []=>true
 | v :: vs=>okE1 v && okE1s vs
def okE:AV → Bool
 | .fn _ cs=>okE1s cs
 | .bnd _ cs=>okE1s cs
 | v=>okE1 v
def ainsert (C:Ctx) (h:List Blk) (t:TypeId) (m key v:AV):Option Out :=
 match keyMap C t,m with
 | some (b,_),.sl k=>match hget h k,keyOf b key with
  | .kmap es,some x=>if notInK x es && okE v then some ⟨none,.und,hset h k (.kmap (es ++ [(x,v)])),none⟩ else none
  | _,_=>none
 | _,_=>none
def dinsert (C:Ctx) (h:List Blk) (t:TypeId) (m key v:AV):Option Out :=
 match intMap C t,m,key with
 | some _,.sl k,.d (.int .i64) n=>match hget h k with
  | .dmap e mm=>match asD h e v with
   | some x=>if jZx [v] then some ⟨none,.und,hset h k (.dmap e (mput mm n x)),none⟩ else none
   | none=>none
  | _=>none
 | _,_,_=>none
def dlookup (C:Ctx) (h:List Blk) (t:TypeId) (m key:AV) (ok:Bool):Option Out :=
 match intMap C t,m,key with
 | some et,.sl k,.d (.int .i64) n=>match hget h k,C.zero et with
  | .dmap e mm,some z=>match asD h e z with
   | some x=>if jZx [z] then ok0 h (if ok then .tup [.d e ((mget mm n).getD x),.d .bool (mget mm n).isSome] else .d e ((mget mm n).getD x)) else none
   | none=>none
  | _,_=>none
 | _,_,_=>none
def aop (C:Ctx) (fr:List AV) (h:List Blk) (op:Op):Option Out :=
 match op with
 | .move x | .assign x=>ok0 h (ev fr x)
 | .pick c a b=>apick h (ev fr c) (ev fr a) (ev fr b)
 | .alloc t=>aalloc C h t
 | .box t x=>match abox' C h t (ev fr x) with
  | some r=>some r
  | none=>abox h (ev fr x)
 | .build t parts=>abuild C h t (evParts fr parts.toList)
 | .buildSlice t len parts=>jZr C h t len parts.toList (evs fr (jXz parts.toList))
 | .load t a=>aload C h t (ev fr a)
 | .store t a x=>astore C h t (ev fr a) (ev fr x)
 | .nilCheck x=>anil h (ev fr x)
 | .binOp op xt x y _=>match abinAgg C h op xt (ev fr x) (ev fr y) with
  | some r=>some r
  | none=>abin C h op xt (ev fr x) (ev fr y)
 | .unOp op _ x=>aun h op (ev fr x)
 | .convert src dst x=>aconvert C h src dst (ev fr x)
 | .makeFunc (.func f) first caps=>if Nat.beq first.size 0 then ok0 h (.fn f (evs fr caps.toList)) else if Nat.beq caps.size 0 then ok0 h (.bnd f (evs fr first.toList)) else none
 | .makeSlice t l c=>amake C h t (ev fr l) (ev fr c)
 | .sliceToArrayPointer t x=>aarrayAt C h t (ev fr x)
 | .slice t x lo hi mx=>aslice C h t (ev fr x) (optEv fr lo) (optEv fr hi) (optEv fr mx)
 | .fieldAddr t x f=>jKy C h t (ev fr x) f
 | .field t x f=>afield C h t (ev fr x) f
 | .indexAddr t x ix=>jKx C h t (ev fr x) (ev fr ix)
 | .index t x ix=>aindex C h t (ev fr x) (ev fr ix)
 | .extract x i=>aextract h (ev fr x) i
 | .makeMap t none=>match intMap C t with
  | some et=>match C.ty et with
   | some e=>some ⟨none,.sl (hlen h),h ++ [.dmap e []],none⟩
   | none=>some ⟨none,.sl (hlen h),h ++ [.kmap []],none⟩
  | none=>match keyMap C t with
   | some _=>some ⟨none,.sl (hlen h),h ++ [.kmap []],none⟩
   | none=>none
 | .insert t m key v=>match ainsert C h t (ev fr m) (ev fr key) (ev fr v) with
  | some r=>some r
  | none=>dinsert C h t (ev fr m) (ev fr key) (ev fr v)
 | .mapUpdate t m key v=>dinsert C h t (ev fr m) (ev fr key) (ev fr v)
 | .lookup t m key ok=>dlookup C h t (ev fr m) (ev fr key) ok
 | .call c=>match c.callee with
  | .builtin b=>jJy C h b c.argTypes.toList (evs fr c.args.toList)
  | _=>none
 | _=>none
inductive Tgt where
 | fn (f:FuncId)
 | yld (k:Nat)
abbrev CallT:=Tgt → List AV → St → (AV → St → Prop) → Prop
def needs (p:Option Prop) (q:Prop):Prop :=
 match p with
 | none=>q
 | some p=>p ∧ q
def St.apply (s:St) (o:Out):St :=
 match o.kill with
 | none=>{ s with heap:=o.heap }
 | some k=>{ top:=subL k .junk s.top,below:=subF k .junk s.below,heap:=subH k .junk o.heap }
def jZh (C:Ctx) (g:FuncId):Bool :=
 match C.P.funcs[g]? with
 | some fn=>fn.body.isSome && !(fn.name == "runtime.NumGoroutine")
 | none=>false
def anilCmp (C:Ctx) (o:Oper) (s:St) (k:St → Prop):Prop :=
 match o.op with
 | .binOp op xt x y _ =>
  match jJp C xt,ev s.top y with
  | some _,.nils=>match asList s.heap (ev s.top x) with
   | some ⟨_,xs⟩=>match op with
    | .eql=>∀ b:Bool,(b = true → xs = []) → k (s.put o.dst (.d .bool b))
    | .neq=>∀ b:Bool,(b = true → xs = []) → k (s.put o.dst (.d .bool (!b)))
    | _=>False
   | none=>False
  | _,_=>False
 | _=>False
def forkP (fo b:Bool) (p q r:Prop):Prop :=
 match fo with
 | true=>(match b with | true=>q | false=>r)
 | false=>(p → q) ∧ (¬ p → r)
def forkK (fo:Bool) (k:AV → Bool → Prop) (z:AV) (x:KK):List (KK × AV) → Prop
 | []=>k z false
 | (n,v) :: es=>match x,n with
  | .i a,.i b=>forkP fo (decide (a = b)) (a = b) (k v true) (forkK fo k z x es)
  | .s a,.s b=>forkP fo (decide (a = b)) (a = b) (k v true) (forkK fo k z x es)
  | _,_=>False
def Ctx.reckon (C:Ctx):Bool:=match (C.hint 999999997).unr 0 with
 | 0=>false
 | _=>true
def pairV (ok:Bool) (v:AV) (is:Bool):AV :=
 match ok with
 | true=>.tup [v,(match is with | true=>.tt | false=>.ff)]
 | false=>v
def alookup (C:Ctx) (o:Oper) (s:St) (k:St → Prop):Prop :=
 match o.op with
 | .lookup t m i ok =>
  match keyMap C t with
  | none=>False
  | some (b,et)=>match ev s.top m,keyOf b (ev s.top i),C.zero et with
   | .sl j,some x,some z=>match hget s.heap j with
    | .kmap es=>forkK C.reckon (fun v is=>k (s.put o.dst (pairV ok v is))) z x es
    | _=>False
   | _,_,_=>False
 | _=>False
def frzOf (o:Oper) (s:St):Option Nat :=
 match o.op with
 | .slice _ x _ _ _=>match ev s.top x with
  | .sl j=>some j
  | _=>none
 | .buildSlice _ _ parts=>match refsA (evs s.top (jXz parts.toList)) with
  | j :: _=>some j
  | []=>none
 | _=>none
def afreeze (C:Ctx) (o:Oper) (s:St) (k:St → Prop):Prop :=
 match frzOf o s with
 | some j=>match aop C (s.freeze j).top (s.freeze j).heap o.op with
  | some r=>needs r.need (k (((s.freeze j).apply r).put o.dst r.v))
  | none=>False
 | none=>False
def isFrz:Op → Bool
 | .slice _ _ _ _ _ | .buildSlice _ _ _=>true
 | _=>false
def arange (C:Ctx) (o:Oper) (s:St) (k:St → Prop):Prop :=
 match o.op with
 | .range t m=>match intMap C t,ev s.top m with
  | some _,.sl j=>match hget s.heap j with
   | .dmap e mm=>k ({ s with heap:=hset s.heap j .gone ++ [Blk.diter e [] mm] }.put o.dst (.own (hlen s.heap) 0))
   | _=>False
  | none,.d .str l=>match C.P.underlying t with
   | some .string=>k ({ s with heap:=s.heap ++ [Blk.siter 0 l] }.put o.dst (.own (hlen s.heap) 0))
   | _=>False
  | _,_=>False
 | .next it true=>match ev s.top it with
  | .own j 0=>match hget s.heap j with
   | .siter n rest=>(rest = [] → k (s.put o.dst (.tup [.ff]))) ∧
    ∀ (c:Int) (m:List Int) (r wd:Int),rest = c :: m → (c < 128 → r = c ∧ wd = 1) → (128 ≤ c → 128 ≤ r ∧ 1 ≤ wd) → IntKind.i32.has r → wd ≤ rest.length → k ({ s with heap:=hset s.heap j (.siter (n + wd) (rest.drop wd.toNat)) }.put o.dst (.tup [.tt,.d (.int .i64) n,.d (.int .i32) r]))
   | _=>False
  | _=>False
 | .next it false=>match ev s.top it with
  | .own j 0=>match hget s.heap j with
   | .diter e _ left=>(left = [] → k (s.put o.dst (.tup [.ff]))) ∧
    ∀ i:Nat,i < left.length → k ({ s with heap:=hset s.heap j (.diter e [left.getD i (0,dflt e)] (left.eraseIdx i)) }.put o.dst (.tup [.tt,.d (.int .i64) (left.getD i (0,dflt e)).1,.d e (left.getD i (0,dflt e)).2]))
   | _=>False
  | _=>False
 | .entry it=>match ev s.top it with
  | .own j 0=>match hget s.heap j with
   | .diter e [p] _=>k (s.put o.dst (.tup [.d (.int .i64) p.1,.d e p.2]))
   | _=>False
  | _=>False
 | _=>False
def aext (C:Ctx) (o:Oper) (s:St) (k:St → Prop):Prop :=
 if isFrz o.op then afreeze C o s k else
 match o.op with
 | .lookup _ _ _ _=>alookup C o s k
 | .range _ _=>arange C o s k
 | .next _ _=>arange C o s k
 | .entry _=>arange C o s k
 | _=>anilCmp C o s k
def Ctx.ownLit (C:Ctx) (t:TypeId):Bool:=Nat.beq ((C.hint 999999996).unr t) 1
def litT:Op → TypeId
 | .buildSlice t _ _=>t
 | _=>0
def litS (s:St) (parts:Array (Nat × Operand)):St:=s.freezeAll (refsA (evs s.top (jXz parts.toList)))
def alit (C:Ctx) (o:Oper) (s:St) (k:St → Prop):Prop :=
 match o.op with
 | .buildSlice t len parts=>match jZr C (litS s parts).heap t len parts.toList (evs (litS s parts).top (jXz parts.toList)),jJp C t with
  | some r,some tid=>match r.v with
   | .fs e xs=>if Nat.ble 1 len then k ({ litS s parts with heap:=(litS s parts).heap ++ [Blk.grow tid e xs] }.put o.dst (.sl (hlen (litS s parts).heap))) else False
   | _=>False
  | _,_=>False
 | _=>False
def isLit:Op → Bool
 | .buildSlice _ len _=>Nat.ble 1 len
 | _=>false
def Ctx.closLit (C:Ctx):Bool:=Nat.beq ((C.hint 999999995).unr 1000000) 1
def isClos (C:Ctx):Op → Bool
 | .buildSlice t _ _=>C.closLit && match jJp C t with
  | some tid=>match C.ty tid with
   | none=>true
   | some _=>false
  | none=>false
 | _=>false
def aclos (C:Ctx) (o:Oper) (s:St) (k:St → Prop):Prop :=
 match o.op with
 | .buildSlice t len parts=>match assl C s.heap t len parts.toList (evs s.top (jXz parts.toList)) with
  | some r=>k ({ s with heap:=r.heap }.put o.dst r.v)
  | none=>False
 | _=>False
def astep (C:Ctx) (call:CallT) (o:Oper) (s:St) (k:St → Prop):Prop :=
 if isClos C o.op then aclos C o s k else
 if isLit o.op && C.ownLit (litT o.op) then alit C o s k else
 match o.op with
 | .call { callee:=.value f,args,.. } =>
  match ev s.top f with
  | .fn g cap=>if jZh C g then call (.fn g) (evs s.top args.toList ++ cap) s (fun v s'=>k (s'.put o.dst v)) else False
  | .yld j=>call (.yld j) (evs s.top args.toList) s (fun v s'=>k (s'.put o.dst v))
  | .bnd g first=>if jZh C g then call (.fn g) (first ++ evs s.top args.toList) s (fun v s'=>k (s'.put o.dst v)) else False
  | _=>False
 | op =>
  match aop C s.top s.heap op with
  | some r=>needs r.need (k ((s.apply r).put o.dst r.v))
  | none=>aext C o s k
def guardTmp (all:Array Oper) (j:Nat):Option Tmp :=
 match all[j]? with
 | some o=>o.dst
 | none=>none
def aops (C:Ctx) (call:CallT) (m:Mode) (all:Array Oper):List Oper → St → (St → Prop) → Prop
 | [],s,k=>k s
 | o :: rest,s,k =>
  match o.guard with
  | none=>astep C call o s (fun s'=>aops C call m all rest s' k)
  | some (j,want) =>
   match guardTmp all j with
   | none=>False
   | some t =>
    match fget s.top t with
    | .tt=>match want with
     | true=>astep C call o s (fun s'=>aops C call m all rest s' k)
     | false=>aops C call m all rest (s.put o.dst .und) k
    | .ff=>match want with
     | false=>astep C call o s (fun s'=>aops C call m all rest s' k)
     | true=>aops C call m all rest (s.put o.dst .und) k
    | .und=>aops C call m all rest (s.put o.dst .und) k
    | .d .bool b =>
     match want with
     | true=>splitB m b (astep C call o (s.put (some t) .tt) (fun s'=>aops C call m all rest s' k))
      (aops C call m all rest ((s.put (some t) .ff).put o.dst .und) k)
     | false=>splitB m.flip b (aops C call m all rest ((s.put (some t) .tt).put o.dst .und) k)
      (astep C call o (s.put (some t) .ff) (fun s'=>aops C call m all rest s' k))
    | _=>False
def neutral:Op → Bool
 | .move _ | .assign _ | .pick _ _ _ | .build _ _ | .buildSlice _ _ _ | .load _ _ | .nilCheck _ | .binOp _ _ _ _ _ | .unOp _ _ _ | .convert _ _ _
 | .makeFunc _ _ _ | .sliceToArrayPointer _ _ | .slice _ _ _ _ _ | .fieldAddr _ _ _ | .field _ _ _ | .indexAddr _ _ _ | .index _ _ _ | .extract _ _=>true
 | .call { callee:=.builtin .len,.. } | .call { callee:=.builtin .min,.. } | .call { callee:=.builtin .max,.. }=>true
 | _=>false
def nstep (C:Ctx) (o:Oper) (s:St) (k:St → Prop):Prop :=
 match o.op with
 | .call { callee:=.value f,args,.. } =>
  match ev s.top f with
  | .fn g []=>match C.spec g with
   | some sp =>
    if (flats sp.rs || jZx (maskAs sp.ps (evs s.top args.toList))) && jZh C g then
     match asDs s.heap sp.ps (bif flats sp.rs then lendVs s.heap (maskAs sp.ps (evs s.top args.toList)) else maskAs sp.ps (evs s.top args.toList)) with
     | some x=>sp.pre x ∧ k (s.put o.dst (outV sp.rs (sp.post x)))
     | none=>False
    else False
   | none=>False
  | _=>False
 | op =>
  if neutral op then
   match aop C s.top s.heap op with
   | some r=>needs r.need (k (s.put o.dst r.v))
   | none=>False
  else False
def tmpOf:Operand → Option Nat
 | .tmp t=>some t
 | _=>none
def looks (all:Array Oper) (o:Oper):List Nat :=
 (o.op.operands.toList.filterMap tmpOf) ++ (match o.guard with | some (j,_)=>(guardTmp all j).toList | none=>[])
def memN' (t:Nat):List Nat → Bool
 | []=>false
 | u :: l=>Nat.beq t u || memN' t l
def gcall (C:Ctx) (o:Oper) (s:St):Option (FuncId × GSpec × List AV) :=
 match o.op with
 | .call { callee:=.value f,args,.. } =>
  match ev s.top f with
  | .fn g []=>match C.spec g with
   | some _=>none
   | none=>match C.fresh g with
    | some gs=>some (g,gs,evs s.top args.toList)
    | none=>none
  | _=>none
 | _=>none
def acell (C:Ctx) (o:Oper):Option Blk :=
 match o.op with
 | .alloc t=>match C.zero t with
  | some z=>bif C.asDat t then (match C.ty t,C.size t with
   | some u,some sz=>if Nat.beq sz u.cells && noRefs' [z] then match asD [] u z with
    | some x=>some (.dat u x)
    | none=>none
    else none
   | _,_=>none) else match cellsOf' z with
   | some cs=>some (.cells cs)
   | none=>none
  | none=>none
 | _=>none
def pcall (C:Ctx) (o:Oper) (s:St):Option (Prop × Blk) :=
 match o.op with
 | .call { callee:=.builtin .append,args,argTypes } =>
  match evs s.top args.toList,argTypes.toList with
  | [.fs e [],y],[t,tx]=>match C.tailFirst,jJp C t with
   | false,some tid=>match C.size tid,C.zero tid,asTail C s.heap e tx y with
    | some sz,some z,some ys=>if Nat.beq e.cells sz && zeroOk e z then some (roomP C tid ys.length,.grow tid e ys) else none
    | _,_,_=>none
   | _,_=>none
  | _,_=>none
 | _=>none
def jZa (o:Oper):List Nat:=(o.after.toList.filter (Region.binds .any)).map (·.on)
def memS (i:Nat):List Nat → Bool
 | []=>false
 | j :: l=>Nat.beq i j || memS i l
def sweep (all:Array Oper):Nat → List Nat → List Nat
 | 0,S=>S
 | k + 1,S=>if memS k S then (match all[k]? with
  | some o=>sweep all k (jZa o ++ S)
  | none=>sweep all k S) else sweep all k S
def jKb:List Oper → Nat → List (Nat × Oper)
 | [],_=>[]
 | o :: os,i=>match o.op with
  | .store _ _ _=>(i,o) :: jKb os (i + 1)
  | _=>jKb os (i + 1)
def jX2 (all:Array Oper):List (Nat × Oper) → Nat → Bool
 | [],_=>true
 | (s,o) :: l,i=>(Nat.beq i s || memS i (sweep all s (jZa o))) && jX2 all l i
def isSt:List (Nat × Oper) → Nat → Bool
 | [],_=>false
 | (s,_) :: l,i=>Nat.beq i s || isSt l i
def maskB:Blk → Blk
 | .grow _ _ _=>.gone
 | b=>b
def maskG:List Blk → List Blk
 | []=>[]
 | b :: l=>maskB b :: maskG l
def isVar:Blk → Prop
 | .cells _=>True
 | .dat _ _=>True
 | _=>False
def scall (C:Ctx) (n:Nat) (ex:List Blk) (o:Oper) (s:St):Option (Nat × Blk) :=
 match o.op,o.dst with
 | .store t a x,none=>match ev s.top a with
  | .slp k sz i=>match ev s.top x with
   | .d u y=>if Nat.ble (k + 1) n then match astore C s.heap t (.slp k sz i) (.d u y) with
    | some r=>some (k,hget r.heap k)
    | none=>none
    else none
   | _=>none
  | .own k off=>if Nat.ble n k then match hget ex (k - n) with
   | .cells cs=>match cellsOf' (ev s.top x),C.size t with
    | some l,some sz=>if Nat.beq (jXi l) sz && Nat.ble (off + sz) (jXi cs) then some (k,.cells (jJu cs off l)) else none
    | _,_=>none
   | .dat u y=>match C.size t,ev s.top x with
    | some sz,.d v z=>match updD u y off sz [] (.d v z) with
     | some z'=>some (k,.dat u z')
     | none=>none
    | _,_=>none
   | _=>none
   else none
  | _=>none
 | _,_=>none
def wr (h:List Blk):List (Nat × Blk) → List Blk
 | []=>h
 | (k,b) :: l=>wr (hset h k b) l
def notKey (k:Nat):List (Nat × Blk) → Bool
 | []=>true
 | (j,_) :: l=>!(Nat.beq j k) && notKey k l
def upd (rw:List (Nat × Blk)):Option (Nat × Blk) → List (Nat × Blk)
 | some r=>rw ++ [r]
 | none=>rw
def dstep (C:Ctx) (n:Nat) (ex:List Blk) (rw:List (Nat × Blk)) (isS:Bool) (o:Oper) (j:Nat) (s:St) (k:Blk → Option (Nat × Blk) → St → Prop):Prop :=
 if isS then match scall C n ex o s with
  | some r=>if notKey r.1 rw then k .gone (some r) s else False
  | none=>False
 else match gcall C o s with
 | some (g,gs,args) =>
  if jZx args && jZh C g then
   match asDs s.heap gs.ps args with
   | some x=>gs.pre x ∧ k (.grow gs.tid gs.e (gs.post x)) none (s.put o.dst (.sl j))
   | none=>False
  else False
 | none=>match acell C o with
  | some b=>k b none (s.put o.dst (.own j 0))
  | none=>match pcall C o s with
   | some (p,b)=>p ∧ k b none (s.put o.dst (.sl j))
   | none=>nstep C o s (k .gone none)
def gones:List Oper → List Blk
 | []=>[]
 | _ :: os=>.gone :: gones os
structure HW where
 all:Array Oper
 h0:List Blk
 st:List (Nat × Oper)
 hU:List Blk
 hM:List Blk
def HW.heap (H:HW) (i:Nat):List Blk:=if jX2 H.all H.st i then H.hU else H.hM
def dops (C:Ctx) (m:Mode) (H:HW):List Oper → Nat → List Blk → List (Nat × Blk) → St → (St → Prop) → Prop
 | [],_,ex,rw,s,k=>k { s with heap:=wr (H.h0 ++ ex) rw }
 | o :: rest,i,ex,rw,s,k =>
  match o.guard with
  | none=>dstep C (hlen H.h0) ex rw (isSt H.st i) o (hlen H.h0 + i) { s with heap:=H.heap i } (fun b r s'=>dops C m H rest (i + 1) (ex ++ [b]) (upd rw r) s' k)
  | some (g,want) =>
   match guardTmp H.all g with
   | none=>False
   | some t =>
    match fget s.top t with
    | .tt=>match want with
     | true=>dstep C (hlen H.h0) ex rw (isSt H.st i) o (hlen H.h0 + i) { s with heap:=H.heap i } (fun b r s'=>dops C m H rest (i + 1) (ex ++ [b]) (upd rw r) s' k)
     | false=>dops C m H rest (i + 1) (ex ++ [.gone]) rw (s.put o.dst .und) k
    | .ff=>match want with
     | false=>dstep C (hlen H.h0) ex rw (isSt H.st i) o (hlen H.h0 + i) { s with heap:=H.heap i } (fun b r s'=>dops C m H rest (i + 1) (ex ++ [b]) (upd rw r) s' k)
     | true=>dops C m H rest (i + 1) (ex ++ [.gone]) rw (s.put o.dst .und) k
    | .und=>dops C m H rest (i + 1) (ex ++ [.gone]) rw (s.put o.dst .und) k
    | .d .bool b =>
     match want with
     | true=>splitB m b (dstep C (hlen H.h0) ex rw (isSt H.st i) o (hlen H.h0 + i) { s.put (some t) .tt with heap:=H.heap i } (fun b r s'=>dops C m H rest (i + 1) (ex ++ [b]) (upd rw r) s' k))
      (dops C m H rest (i + 1) (ex ++ [.gone]) rw ((s.put (some t) .ff).put o.dst .und) k)
     | false=>splitB m.flip b (dops C m H rest (i + 1) (ex ++ [.gone]) rw ((s.put (some t) .tt).put o.dst .und) k)
      (dstep C (hlen H.h0) ex rw (isSt H.st i) o (hlen H.h0 + i) { s.put (some t) .ff with heap:=H.heap i } (fun b r s'=>dops C m H rest (i + 1) (ex ++ [b]) (upd rw r) s' k))
    | _=>False
def HW.mk' (all:Array Oper) (h0:List Blk) (head:List Oper):HW :=
 { all:=all,h0:=h0,st:=jKb head 0,hU:=h0 ++ gones head,hM:=maskG h0 ++ gones head }
def hasEdge (o:Oper) (j:Nat):Bool:=o.after.any fun e=>Region.binds .any e && Nat.beq e.on j
def allIn (S:List Nat):Nat → Bool
 | 0=>true
 | j + 1=>memS j S && allIn S j
def depAll (all:Array Oper) (o:Oper) (i:Nat):Bool:=allIn (sweep all i (jZa o)) i
def pairOk (all:Array Oper) (i j:Nat) (oi oj:Oper):Bool :=
 Nat.beq i j || match oj.dst with
  | none=>true
  | some t=>!(oi.dst == some t) && (!(memN' t (looks all oi)) || (Nat.blt j i && hasEdge oi j) || (Nat.blt i j && hasEdge oj i))
def selfOk (all:Array Oper) (o:Oper):Bool :=
 match o.dst with
 | none=>true
 | some t=>!(memN' t (looks all o))
def backEdges (i:Nat) (o:Oper):Bool:=o.after.all fun e=>!Region.binds .any e || Nat.blt e.on i
def headOk (all:Array Oper) (head:List (Oper × Nat)):Bool :=
 head.all fun p=>selfOk all p.1 && backEdges p.2 p.1 && head.all fun q=>pairOk all p.2 q.2 p.1 q.1
def tailOk (all:Array Oper):Nat → List Oper → Bool
 | _,[]=>true
 | i,o :: l=>depAll all o i && backEdges i o && tailOk all (i + 1) l
def tailLen (all:Array Oper):Nat → List Oper → Nat
 | _,[]=>0
 | i,o :: l=>if depAll all o i then tailLen all (i - 1) l + 1 else 0
def jJf (ops:Array Oper):Nat:=ops.size - tailLen ops (ops.size - 1) ops.toList.reverse
def drawOk (ops:Array Oper) (m:Nat):Bool:=headOk ops (ops.toList.take m).zipIdx && tailOk ops m (ops.toList.drop m)
def jXw (all:Array Oper) (L:List Nat):Nat → List Nat
 | 0=>[]
 | n + 1=>match all[n]? with
  | some o=>if !(memS n L) && (jZa o).all (fun j=>memS j L) then jXw all L n ++ [n] else jXw all L n
  | none=>jXw all L n
def aeach (p:Nat → Prop):List Nat → Prop
 | []=>True
 | [i]=>p i
 | i :: j :: l=>p i ∧ aeach p (j :: l)
def oneAt (all:Array Oper) (i:Nat) (p:Oper → Prop):Prop :=
 match all[i]? with
 | some o=>p o
 | none=>False
def isNilL:List Nat → Bool
 | []=>true
 | _=>false
def noDefer (all:Array Oper):Bool:=all.all fun o=>match o.op with | .defer _=>false | _=>true
def isTk (fr:List AV):Op → Bool
 | .move _ | .assign _ | .fieldAddr _ _ _=>true
 | .load _ x=>match ev fr x with
  | .rp _ _=>true
  | _=>false
 | .indexAddr _ x _=>match ev fr x with
  | .d _ _=>true
  | .fs _ _=>true
  | .own _ _=>true
  | _=>false
 | .binOp _ _ x y _=>match ev fr x,ev fr y with
  | .d (.int _) _,.d (.int _) _=>true
  | _,_=>false
 | .slice _ x _ _ _=>match ev fr x with
  | .d (.arr _) _=>true
  | _=>false
 | .extract x _=>match ev fr x with
  | .tup _=>true
  | _=>false
 | _=>false
def freeL (fr:List AV) (all:Array Oper) (L:List Nat) (i:Nat):Bool :=
 match all[i]? with
 | none=>false
 | some oi=>isTk fr oi.op && oi.guard.isNone && (List.range all.size).all fun j=>j == i || memS j L || match all[j]? with
  | some oj=>oj.after.any (fun e=>Region.binds .any e && e.on == i) || oi.apart all oj
  | none=>true
def tkOf (fr:List AV) (all:Array Oper) (L:List Nat):List Nat → Option Nat
 | []=>none
 | i :: l=>if freeL fr all L i then some i else tkOf fr all L l
mutual
def _root_.Go.Rose.nf {α:Type} (f:α → (α → Prop) → Prop):Rose α → (Rose α → Prop) → Prop
 | .node x l,k=>f x fun x'=>Rose.nfs f l fun l'=>k (.node x' l')
def _root_.Go.Rose.nfs {α:Type} (f:α → (α → Prop) → Prop):List (Rose α) → (List (Rose α) → Prop) → Prop
 | [],k=>k []
 | y :: l,k=>Rose.nf f y fun y'=>Rose.nfs f l fun l'=>k (y' :: l')
end
mutual
theorem nf_eq {α:Type} {f:α → (α → Prop) → Prop} (hf:∀ x k,f x k = k x):∀ (r:Rose α) (k:Rose α → Prop),Rose.nf f r k = k r
 | .node x l,k=>by unfold Rose.nf; rw [hf,nfs_eq hf l]
theorem nfs_eq {α:Type} {f:α → (α → Prop) → Prop} (hf:∀ x k,f x k = k x):∀ (l:List (Rose α)) (k:List (Rose α) → Prop),Rose.nfs f l k = k l
 | [],k=>rfl
 | y :: l,k=>by unfold Rose.nfs; rw [nf_eq hf y,nfs_eq hf l]
end
def nfL {α:Type} (f:α → (α → Prop) → Prop):List α → (List α → Prop) → Prop
 | [],k=>k []
 | y :: l,k=>f y fun y'=>nfL f l fun l'=>k (y' :: l')
theorem nfL_eq {α:Type} {f:α → (α → Prop) → Prop} (hf:∀ x k,f x k = k x):∀ (l:List α) (k:List α → Prop),nfL f l k = k l
 | [],k=>rfl
 | y :: l,k=>by unfold nfL; rw [hf,nfL_eq hf l]
def nfI (n:Int) (k:Int → Prop):Prop:=match n with
 | .ofNat m=>k (.ofNat m)
 | .negSucc m=>k (.negSucc m)
theorem nfI_eq (n:Int) (k:Int → Prop):nfI n k = k n:=by cases n <;> rfl
def nfB (n:Bool) (k:Bool → Prop):Prop:=match n with
 | true=>k true
 | false=>k false
def nfP {α β:Type} (f:α → (α → Prop) → Prop) (g:β → (β → Prop) → Prop) (x:α × β) (k:α × β → Prop):Prop:=match x with
 | (u,v)=>f u fun u'=>g v fun v'=>k (u',v')
theorem nfP_eq {α β:Type} {f:α → (α → Prop) → Prop} {g:β → (β → Prop) → Prop} (hf:∀ x k,f x k = k x) (hg:∀ x k,g x k = k x) (x:α × β) (k:α × β → Prop):nfP f g x k = k x:=by
 obtain ⟨u,v⟩:=x
 unfold nfP
 simp only [hf,hg]
def nfD:(t:Ty) → t.den → (t.den → Prop) → Prop
 | .pair a b,x,k=>nfP (nfD a) (nfD b) x k
 | .arr e,x,k=>nfL (nfD e) x k
 | .rose a b,x,k=>Rose.nf (nfP (nfD a) (nfD b)) x k
 | .int _,x,k=>nfI x k
 | .bool,x,k=>nfB x k
 | .unit,x,k=>k x
 | .str,x,k=>k x
 | .fnc,x,k=>k x
 | .any,x,k=>k x
 | .vec _ _,x,k=>k x
theorem nfD_eq:∀ (t:Ty) (x:t.den) (k:t.den → Prop),nfD t x k = k x
 | .pair a b,x,k=>nfP_eq (nfD_eq a) (nfD_eq b) x k
 | .arr e,x,k=>nfL_eq (nfD_eq e) x k
 | .rose a b,x,k=>nf_eq (nfP_eq (nfD_eq a) (nfD_eq b)) x k
 | .int _,x,k=>nfI_eq x k
 | .bool,x,k=>by cases x <;> rfl
 | .unit,x,k=>rfl
 | .str,x,k=>rfl
 | .fnc,x,k=>rfl
 | .any,x,k=>rfl
 | .vec _ _,x,k=>rfl
def forceV0 (fl:Bool) (v:AV) (k:AV → Prop):Prop :=
 match v with
 | .junk=>k .junk
 | .und=>k .und
 | .tt=>k .tt
 | .ff=>k .ff
 | .d t x=>bif fl then nfD t x fun y=>k (.d t y) else k (.d t x)
 | .fs e xs=>bif fl then nfL (nfD e) xs fun y=>k (.fs e y) else k (.fs e xs)
 | .nils=>k .nils
 | .agg cs=>k (.agg cs)
 | .tup cs=>k (.tup cs)
 | .fn f cs=>k (.fn f cs)
 | .bnd f cs=>k (.bnd f cs)
 | .sv a b c d=>k (.sv a b c d)
 | .nilf=>k .nilf
 | .nilp=>k .nilp
 | .own a b=>k (.own a b)
 | .sl a=>k (.sl a)
 | .slp a b c=>k (.slp a b c)
 | .rp t x=>bif fl then nfD t x fun y=>k (.rp t y) else k (.rp t x)
 | .yld a=>k (.yld a)
 | .glb g=>k (.glb g)
 | .oix a b c d=>k (.oix a b c d)
 | .osl a b c d e=>k (.osl a b c d e)
 | .slpf a b c d=>k (.slpf a b c d)
 | .ssl a b=>k (.ssl a b)
def forceL0 (fl:Bool):List AV → (List AV → Prop) → Prop
 | [],k=>k []
 | v :: vs,k=>forceV0 fl v fun v'=>forceL0 fl vs fun vs'=>k (v' :: vs')
def forceV (fl:Bool) (v:AV) (k:AV → Prop):Prop :=
 match v with
 | .agg cs=>forceL0 fl cs fun cs=>k (.agg cs)
 | .tup cs=>forceL0 fl cs fun cs=>k (.tup cs)
 | .fn f cs=>forceL0 fl cs fun cs=>k (.fn f cs)
 | v=>forceV0 fl v k
def forceL (fl:Bool):List AV → (List AV → Prop) → Prop
 | [],k=>k []
 | v :: vs,k=>forceV fl v fun v'=>forceL fl vs fun vs'=>k (v' :: vs')
def forceF (fl:Bool):List (List AV) → (List (List AV) → Prop) → Prop
 | [],k=>k []
 | v :: vs,k=>forceL fl v fun v'=>forceF fl vs fun vs'=>k (v' :: vs')
def forceB (fl:Bool) (b:Blk) (k:Blk → Prop):Prop :=
 match b with
 | .gone=>k .gone
 | .log ys Y own xs=>k (.log ys Y own xs)
 | .lof ys Y own=>k (.lof ys Y own)
 | .cells cs=>forceL fl cs fun cs=>k (.cells cs)
 | .grow a b c=>bif fl then nfL (nfD b) c fun c=>k (.grow a b c) else k (.grow a b c)
 | .kmap a=>k (.kmap a)
 | .dmap a b=>k (.dmap a b)
 | .diter a b c=>k (.diter a b c)
 | .loop f p ph ts=>forceL fl ts fun ts=>k (.loop f p ph ts)
 | .dat t x=>bif fl then nfD t x fun y=>k (.dat t y) else k (.dat t x)
 | .siter n rest=>k (.siter n rest)
def forceH (fl:Bool):List Blk → (List Blk → Prop) → Prop
 | [],k=>k []
 | v :: vs,k=>forceB fl v fun v'=>forceH fl vs fun vs'=>k (v' :: vs')
def forceSF (fl:Bool) (s:St) (k:St → Prop):Prop:=forceL fl s.top fun t=>forceF fl s.below fun b=>forceH fl s.heap fun h=>k { top:=t,below:=b,heap:=h }
def forceS (s:St) (k:St → Prop):Prop:=forceSF false s k
theorem forceV0_eq (fl:Bool) (v:AV) (k:AV → Prop):forceV0 fl v k = k v:=by
 cases v <;> first
  | rfl
  | (cases fl <;> first | rfl | exact nfD_eq _ _ _ | exact nfL_eq (nfD_eq _) _ _)
theorem forceL0_eq (fl:Bool):∀ (l:List AV) (k:List AV → Prop),forceL0 fl l k = k l
 | [],_=>rfl
 | v :: vs,k=>by unfold forceL0; rw [forceV0_eq,forceL0_eq fl vs]
theorem forceV_eq (fl:Bool) (v:AV) (k:AV → Prop):forceV fl v k = k v:=by
 unfold forceV
 split
 ·exact forceL0_eq fl _ _
 ·exact forceL0_eq fl _ _
 ·exact forceL0_eq fl _ _
 ·exact forceV0_eq fl _ _
theorem forceL_eq (fl:Bool):∀ (l:List AV) (k:List AV → Prop),forceL fl l k = k l
 | [],_=>rfl
 | v :: vs,k=>by unfold forceL; rw [forceV_eq,forceL_eq fl vs]
theorem forceF_eq (fl:Bool):∀ (l:List (List AV)) (k:List (List AV) → Prop),forceF fl l k = k l
 | [],_=>rfl
 | v :: vs,k=>by unfold forceF; rw [forceL_eq,forceF_eq fl vs]
theorem forceB_eq (fl:Bool) (b:Blk) (k:Blk → Prop):forceB fl b k = k b:=by
 cases b <;> first
  | rfl
  | exact forceL_eq fl _ _
  | (cases fl <;> first | rfl | exact nfL_eq (nfD_eq _) _ _ | exact nfD_eq _ _ _)
theorem forceH_eq (fl:Bool):∀ (l:List Blk) (k:List Blk → Prop),forceH fl l k = k l
 | [],_=>rfl
 | v :: vs,k=>by unfold forceH; rw [forceB_eq,forceH_eq fl vs]
theorem forceSF_eq (fl:Bool) (s:St) (k:St → Prop):forceSF fl s k = k s:=by unfold forceSF; rw [forceL_eq,forceF_eq,forceH_eq]
theorem forceS_eq (s:St) (k:St → Prop):forceS s k = k s:=forceSF_eq false s k
def forceC (n:Nat) (s:St) (k:St → Prop):Prop:=bif Nat.beq n 700 then forceSF true s k else bif Nat.beq n 701 then forceSF false s k else k s
theorem forceC_eq (n:Nat) (s:St) (k:St → Prop):forceC n s k = k s:=by
 unfold forceC
 cases Nat.beq n 700
 ·cases Nat.beq n 701
  ·rfl
  ·exact forceSF_eq _ _ _
 ·exact forceSF_eq _ _ _
def isLd (fr:List AV):Op → Bool
 | .load _ x=>match ev fr x with
  | .own _ _=>true
  | _=>false
 | _=>false
def isLoad:Op → Bool
 | .load _ _=>true
 | _=>false
def hasDep (all:Array Oper) (D:List Nat) (j:Nat):Bool:=match all[j]? with
 | some oj=>oj.after.any fun e=>Region.binds .any e && memS e.on D
 | none=>false
def descs (all:Array Oper) (L:List Nat):Nat → List Nat → List Nat
 | 0,D=>D
 | n + 1,D=>descs all L n (D ++ (List.range all.size).filter fun j=>!memS j L && !memS j D && hasDep all D j)
def jX7 (C:Ctx) (o:Oper):Bool:=o.guard.isNone && (match o.dst with
 | some t=>!memN' t (o.op.operands.toList.filterMap tmpOf)
 | none=>false) && match o.op with
 | .alloc _=>true
 | .buildSlice t _ _=>!C.ownLit t && !isClos C o.op
 | _=>false
def layVar (all:Array Oper) (L:List Nat) (q p:Nat):Bool:=!memS q L && (match all[q]? with
 | some oq=>(match oq.op with
  | .alloc _=>true
  | _=>false) && oq.guard.isNone && oq.dst == some p && (List.range all.size).all (fun r=>r == q || match all[r]? with
   | some o=>!(o.dst == some p)
   | none=>true)
 | none=>false)
def freshSt (all:Array Oper) (L:List Nat) (o:Oper):Bool:=match o.op with
 | .store _ (.tmp p) _=>(List.range all.size).any fun q=>layVar all L q p && o.after.any (fun e=>Region.binds .any e && e.on == q)
 | _=>false
def freeLdD (C:Ctx) (all:Array Oper) (L D:List Nat) (i:Nat) (oi:Oper):Bool :=
 (D.all fun d=>!memS d L && (d == i || hasDep all D d)) && (List.range all.size).all fun j=>j == i || memS j L || memS j D || match all[j]? with
   | some oj=>(isLoad oj.op || jX7 C oj || freshSt all L oj) && oi.apart all oj
   | none=>true
def isSl (j:Nat):AV → Bool
 | .sl k=>Nat.beq k j
 | _=>false
def notDst (q:Nat):Option Tmp → Bool
 | some d=>!Nat.beq d q
 | none=>true
def slotS (j:Nat) (fr fr1:List AV) (d:Option Tmp):Nat → Bool
 | 0=>false
 | q + 1=>(notDst q d && isSl j (fget fr q) && isSl j (fget fr1 q)) || slotS j fr fr1 d q
def sameD (t:Ty) (x:t.den) (u:Ty) (y:u.den):Bool :=
 match t,u,x,y with
 | .str,.str,x,y=>decide ((x:List Int) = (y:List Int))
 | .int k,.int k',x,y=>decide (k = k') && decide ((x:Int) = (y:Int))
 | _,_,_,_=>false
def sameAV (fr fr1:List AV) (d:Option Tmp):AV → AV → Bool
 | .nils,.nils=>true
 | .d t x,.d u y=>sameD t x u y
 | .sl j,.sl k=>Nat.beq j k && slotS j fr fr1 d (jXi fr)
 | _,_=>false
def loadAV (C:Ctx) (fr:List AV) (h:List Blk):Op → Option AV
 | .load t x=>match aload C h t (ev fr x) with
  | some r=>some r.v
  | none=>none
 | _=>none
def slOrNil:Option AV → Bool
 | some .nils=>true
 | some (.sl _)=>true
 | some (.d .str _)=>true
 | some (.d (.int _) _)=>true
 | _=>false
def diaOk (C:Ctx) (all:Array Oper) (L:List Nat) (s:St) (i f:Nat):Bool :=
 match all[i]?,all[f]? with
 | some oi,some o=>isLd s.top oi.op && oi.guard.isNone && slOrNil (loadAV C s.top s.heap oi.op) && oi.apart all o && !Nat.beq i f && (match jXw all (i :: L) all.size with
  | [g]=>Nat.beq g f
  | _=>false)
 | _,_=>false
def diaOf (C:Ctx) (all:Array Oper) (L:List Nat) (s:St) (n:Nat):List Nat → Option (Nat × Nat)
 | [p,q]=>match n with
  | 0=>none
  | _ + 1=>match (C.hint 999999997).unr 0 with
   | 0=>none
   | _ + 1=>if C.noPan then (if diaOk C all L s p q then some (p,q) else if diaOk C all L s q p then some (q,p) else none) else none
 | _=>none
def allMd (C:Ctx):Mode:=match (C.hint 999999997).unr 0 with
 | 0=>.split
 | _=>.force
def isLayAt (C:Ctx) (all:Array Oper) (i:Nat):Bool:=match all[i]? with
 | some o=>jX7 C o
 | none=>false
def junkT (C:Ctx) (L:List Nat):List Oper → Nat → List AV → List AV
 | [],_,fr=>fr
 | o :: os,i,fr=>junkT C L os (i + 1) (if jX7 C o && !memS i L then (match o.dst with
  | some t=>fset fr t .junk
  | none=>fr) else fr)
def St.junk (C:Ctx) (all:Array Oper) (L:List Nat) (s:St):St:={ s with top:=junkT C L all.toList 0 s.top }
def layD (C:Ctx) (all:Array Oper) (L:List Nat) (s:St) (p:Nat):Bool:=match all[p]? with
 | some o=>jX7 C o && (match aop C s.top s.heap o.op with
  | some _=>true
  | none=>false) && (List.range all.size).all (fun j=>j == p || memS j L || match all[j]? with
  | some oj=>oj.after.any (fun e=>Region.binds .any e && e.on == p) || o.apart all oj
  | none=>true)
 | none=>false
def putOff (C:Ctx) (all:Array Oper) (L R D:List Nat) (s:St):Bool :=
 D.all (layD C all L s) && (List.range all.size).all fun x=>memS x L || memS x R || match all[x]? with
  | some o=>(jZa o).any fun e=>!memS e L && !memS e D
  | none=>true
def notLay (C:Ctx) (all:Array Oper):List Nat → List Nat
 | []=>[]
 | i :: l=>if isLayAt C all i then notLay C all l else i :: notLay C all l
def minus (M:List Nat):List Nat → List Nat
 | []=>[]
 | i :: l=>if memS i M then minus M l else i :: minus M l
def chooseL (C:Ctx) (all:Array Oper) (R:List Nat):List Nat:=match notLay C all R with
 | []=>(match R with
  | r :: _=>[r]
  | []=>[])
 | l=>l
def layOf (C:Ctx) (all:Array Oper) (L R:List Nat) (s:St):Option (List Nat) :=
 if R.any (isLayAt C all) then (if putOff C all L R (minus (chooseL C all R) R) s then some (chooseL C all R) else some R) else none
def freeLd (C:Ctx) (s:St) (all:Array Oper) (L:List Nat) (i:Nat):Bool :=
 match all[i]? with
 | none=>false
 | some oi=>isLd s.top oi.op && oi.guard.isNone && (match loadAV C s.top s.heap oi.op with
  | some _=>true
  | none=>false) && freeLdD C all L (descs all L all.size [i]) i oi
def ldFree (C:Ctx) (s:St) (all:Array Oper) (L:List Nat):List Nat → Option Nat
 | []=>none
 | i :: l=>if freeLd C s all L i then some i else ldFree C s all L l
def aallB (C:Ctx) (call:CallT) (all:Array Oper) (n:Nat) (L:List Nat) (k:St → Prop) (rec:List Nat → St → Prop) (s:St):Prop :=
 if isNilL (jXw all L all.size) then k s else
  match tkOf s.top all L (jXw all L all.size) with
  | some i=>oneAt all i fun o=>match aop C s.top s.heap o.op with
   | some r=>needs r.need (rec (i :: L) (s.put o.dst r.v))
   | none=>False
  | none=>match ldFree C s all L (jXw all L all.size) with
  | some i=>oneAt all i fun o=>aops C call (allMd C) all [o] s (fun s'=>rec (i :: L) s')
  | none=>match layOf C all L (jXw all L all.size) s with
   | some R=>aeach (fun i=>oneAt all i fun o=>if jX7 C o then (match aop C s.top s.heap o.op with
    | some r=>needs r.need (rec (i :: L) ((s.apply r).put o.dst r.v))
    | none=>False)
    else aops C call (allMd C) all [o] s (fun s'=>rec (i :: L) s')) R
   | none=>match diaOf C all L s n (jXw all L all.size) with
    | some (i,f)=>oneAt all i fun oi=>oneAt all f fun o=>aops C call (allMd C) all [o] s (fun s'=>match loadAV C s.top s.heap oi.op,loadAV C s'.top s'.heap oi.op with
     | some x,some y=>if sameAV s.top s'.top o.dst x y then rec (f :: L) s' else False
     | _,_=>False)
    | none=>aeach (fun i=>oneAt all i fun o=>aops C call (allMd C) all [o] s (fun s'=>rec (i :: L) s')) (jXw all L all.size)
def aall (C:Ctx) (call:CallT) (all:Array Oper):Nat → List Nat → St → (St → Prop) → Prop
 | 0,L,s,k=>if isNilL (jXw all L all.size) then k (s.junk C all L) else False
 | n + 1,L,s,k=>forceS (s.junk C all L) fun s=>aallB C call all n L k (fun L' s'=>aall C call all n L' s' k) s
def isAllM:Mode → Bool
 | .all=>true
 | _=>false
def adraw (C:Ctx) (call:CallT) (md:Mode) (ops:Array Oper) (s:St) (k:St → Prop):Prop :=
 if isAllM md then (if C.P.follows .mixedOrders && (Region.noSelect ops && noDefer ops) then aall C call ops ops.size [] s k else False) else
 if drawOk ops (jJf ops) && C.P.follows .mixedOrders then
  dops C md (HW.mk' ops s.heap (ops.toList.take (jJf ops))) (ops.toList.take (jJf ops)) 0 [] [] s (fun s'=>aops C call md ops (ops.toList.drop (jJf ops)) s' k)
 else False
def setTmp:Operand → AV → St → St
 | .tmp t,v,s=>s.put (some t) v
 | _,_,s=>s
def dstsOps:List Oper → List Nat
 | []=>[]
 | o :: os=>match o.dst with | some t=>t :: dstsOps os | none=>dstsOps os
def mkW:Nat:=99999
def dsts:Code → List Nat
 | .region _ ops _=>dstsOps ops.toList
 | .seq a b=>dsts a ++ dsts b
 | .cond _ a b=>dsts a ++ dsts b
 | .block _ c | .loop c | .scope c=>dsts c
 | .rangeFunc _ _ _ _=>[mkW]
 | _=>[]
def jJg:Code → Option Nat
 | .region i _ _=>some i
 | .seq a b=>match jJg a with | some i=>some i | none=>jJg b
 | .cond _ a b=>match jJg a with | some i=>some i | none=>jJg b
 | .block _ c | .loop c | .scope c=>jJg c
 | _=>none
def getLA (s:St):(a:LA) → Option a.ty.den
 | .slot i t=>if jZx [fget s.top i] then asD s.heap t (fget s.top i) else none
 | .cell k off t=>match hget s.heap k with
  | .cells cs=>if !t.isAgg && jZx [fget cs off] && Nat.ble (off + 1) (jXi cs) then asD1 s.heap t (fget cs off) else none
  | _=>none
 | .gslot i tid e=>match fget s.top i with
  | .sl k=>match hget s.heap k with
   | .grow tid' e' xs=>if Nat.beq tid tid' then cast? (.arr e') (.arr e) xs else none
   | _=>none
  | .fs e' xs=>cast? (.arr e') (.arr e) xs
  | _=>none
 | .gcell k off tid e=>match hget s.heap k with
  | .cells cs=>match fget cs off with
   | .sl j=>match hget s.heap j with
    | .grow tid' e' xs=>if Nat.beq tid tid' then cast? (.arr e') (.arr e) xs else none
    | _=>none
   | _=>none
  | _=>none
 | .keep k tid e=>match hget s.heap k with
  | .grow tid' e' xs=>if Nat.beq tid tid' then cast? (.arr e') (.arr e) xs else none
  | _=>none
 | .kmp k e=>match hget s.heap k with
  | .dmap e' m=>cast? (.arr (.pair (.int .i64) e')) (.arr (.pair (.int .i64) e)) m
  | _=>none
 | .kit k e=>match hget s.heap k with
  | .diter e' _ m=>cast? (.arr (.pair (.int .i64) e')) (.arr (.pair (.int .i64) e)) m
  | _=>none
 | .kdat k t=>match hget s.heap k with
  | .dat u x=>cast? u t x
  | _=>none
 | .ksit k=>match hget s.heap k with
  | .siter n rest=>some (n,rest)
  | _=>none
def getLAs (s:St):(as:List LA) → Option (dens (laTys as))
 | []=>some ()
 | [a]=>getLA s a
 | a :: b :: as =>
  match getLA s a with
  | some x=>match getLAs s (b :: as) with
   | some y=>some (x,y)
   | none=>none
  | none=>none
def prepLA (s:St):LA → St
 | .gslot i tid e=>match fget s.top i with
  | .nils=>{ s with top:=fset s.top i (.sl (hlen s.heap)),heap:=s.heap ++ [.grow tid e []] }
  | _=>s
 | .gcell k off tid e=>match hget s.heap k with
  | .cells cs=>match fget cs off with
   | .nils=>{ s with heap:=hset (s.heap ++ [.grow tid e []]) k (.cells (fset cs off (.sl (hlen s.heap)))) }
   | _=>s
  | _=>s
 | _=>s
def jJ4 (s:St):List LA → St
 | []=>s
 | a :: as=>jJ4 (prepLA s a) as
def memN (i:Nat):List Nat → Bool
 | []=>false
 | j :: l=>Nat.beq i j || memN i l
def noSlp (ks:List Nat):AV → AV
 | .slp _ _ _=>.junk
 | .sv _ _ _ _=>.junk
 | .oix _ _ _ _=>.junk
 | .osl _ _ _ _ _=>.junk
 | .slpf _ _ _ _=>.junk
 | .ssl _ _=>.junk
 | .sl k=>if memN k ks then .junk else .sl k
 | v=>v
def jZy (ks:List Nat) (w:List Nat):Nat → List AV → List AV
 | _,[]=>[]
 | i,v :: vs=>(if memN i w then .junk else noSlp ks v) :: jZy ks w (i + 1) vs
def noSlps (ks:List Nat):List AV → List AV
 | []=>[]
 | v :: vs=>noSlp ks v :: noSlps ks vs
def noSlpF (ks:List Nat):List (List AV) → List (List AV)
 | []=>[]
 | f :: fs=>noSlps ks f :: noSlpF ks fs
mutual
def keepC (ks:List Nat):AV → AV
 | .own k o=>.own k o
 | .sl k=>if memN k ks then .junk else .sl k
 | .fn f cs=>.fn f (keepCs ks cs)
 | .bnd f cs=>.bnd f (keepCs ks cs)
 | .yld k=>.yld k
 | .nils=>.nils
 | .nilf=>.nilf
 | .nilp=>.nilp
 | .rp t x=>if Nat.ble 8 t.cells then .rp t x else .junk
 | _=>.junk
def keepCs (ks:List Nat):List AV → List AV
 | []=>[]
 | v :: vs=>keepC ks v :: keepCs ks vs
end
mutual
def sameC:AV → AV → Bool
 | .own k o,b=>match b with | .own k' o'=>Nat.beq k k' && Nat.beq o o' | _=>false
 | .sl k,b=>match b with | .sl k'=>Nat.beq k k' | _=>false
 | .fn f cs,b=>match b with | .fn f' ds=>Nat.beq f f' && sameCs cs ds | _=>false
 | .bnd f cs,b=>match b with | .bnd f' ds=>Nat.beq f f' && sameCs cs ds | _=>false
 | .yld k,b=>match b with | .yld k'=>Nat.beq k k' | _=>false
 | .nils,b=>match b with | .nils=>true | _=>false
 | .nilf,b=>match b with | .nilf=>true | _=>false
 | .nilp,b=>match b with | .nilp=>true | _=>false
 | .rp _ _,b=>match b with | .rp _ _=>true | _=>false
 | .junk,_=>true
 | _,_=>false
def sameCs:List AV → List AV → Bool
 | [],b=>match b with | []=>true | _=>false
 | c :: cs,b=>match b with | d :: ds=>sameC c d && sameCs cs ds | []=>false
end
mutual
def sameP:AV → AV → Prop → Prop
 | .rp t x,b,q=>match b with
  | .rp u y=>match cast? t u x with
   | some z=>z = y ∧ q
   | none=>False
  | _=>False
 | .fn _ cs,b,q=>match b with | .fn _ ds=>samePs cs ds q | _=>q
 | .bnd _ cs,b,q=>match b with | .bnd _ ds=>samePs cs ds q | _=>q
 | _,_,q=>q
def samePs:List AV → List AV → Prop → Prop
 | [],_,q=>q
 | c :: cs,b,q=>match b with | d :: ds=>sameP c d (samePs cs ds q) | []=>q
end
def samePB:Blk → Blk → Prop → Prop
 | .cells cs,b,q=>match b with | .cells ds=>samePs cs ds q | _=>q
 | _,_,q=>q
def samePH:List Blk → List Blk → Prop → Prop
 | [],_,q=>q
 | b :: h,l,q=>match l with | c :: h'=>samePB b c (samePH h h' q) | []=>q
def yldIn (k:Nat):List AV → Bool
 | []=>false
 | .yld j :: l=>Nat.beq j k || yldIn k l
 | _ :: l=>yldIn k l
def yldInF (k:Nat):List (List AV) → Bool
 | []=>false
 | f :: fs=>yldIn k f || yldInF k fs
def plainV:AV → Bool
 | .fn _ []=>true
 | _=>false
def plainK:List (KK × AV) → Bool
 | []=>true
 | p :: l=>plainV p.2 && plainK l
def jJt (ks:List Nat) (fs:List (List AV)):Nat → List Blk → List Blk
 | _,[]=>[]
 | i,.cells cs :: h=>.cells (keepCs ks cs) :: jJt ks fs (i + 1) h
 | i,.kmap es :: h=>(if plainK es then .kmap es else .gone) :: jJt ks fs (i + 1) h
 | i,.loop f p ph ts :: h=>(if yldInF i fs then .loop f p ph (noSlps ks ts) else .gone) :: jJt ks fs (i + 1) h
 | i,_ :: h=>.gone :: jJt ks fs (i + 1) h
def laSl (s0:St):LA → Option Nat
 | .gslot i _ _=>match fget s0.top i with
  | .sl k=>some k
  | _=>none
 | .gcell k off _ _=>match hget s0.heap k with
  | .cells cs=>match fget cs off with
   | .sl j=>some j
   | _=>none
  | _=>none
 | _=>none
def laKs (s0:St):List LA → List Nat
 | []=>[]
 | a :: as=>match laSl s0 a with
  | some k=>k :: laKs s0 as
  | none=>laKs s0 as
def setLA (s0 s:St):(a:LA) → a.ty.den → St
 | .slot i t,x=>{ s with top:=fset s.top i (.d t x) }
 | .cell k off t,x=>match hget s.heap k with
  | .cells cs=>{ s with heap:=hset s.heap k (.cells (fset cs off (.d t x))) }
  | _=>s
 | .gslot i tid e,xs=>match laSl s0 (.gslot i tid e) with
  | some k=>{ s with top:=fset s.top i (.sl k),heap:=hset s.heap k (.grow tid e xs) }
  | none=>s
 | .gcell k off tid e,xs=>match laSl s0 (.gcell k off tid e) with
  | some j=>match hget s.heap k with
   | .cells cs=>{ s with heap:=hset (hset s.heap k (.cells (fset cs off (.sl j)))) j (.grow tid e xs) }
   | _=>s
  | none=>s
 | .keep k tid e,xs=>{ s with heap:=hset s.heap k (.grow tid e xs) }
 | .kmp k e,xs=>{ s with heap:=hset s.heap k (.dmap e xs) }
 | .kit k e,xs=>{ s with heap:=hset s.heap k (.diter e [] xs) }
 | .kdat k t,x=>{ s with heap:=hset s.heap k (.dat t x) }
 | .ksit k,x=>{ s with heap:=hset s.heap k (.siter x.1 x.2) }
def setLAs (s0 s:St):(as:List LA) → dens (laTys as) → St
 | [],_=>s
 | [a],x=>setLA s0 s a x
 | a :: b :: as,x=>setLAs s0 (setLA s0 s a x.1) (b :: as) x.2
def head0 (s0:St) (w:List Nat) (as:List LA):St :=
 { top:=jZy (laKs s0 as) w 0 s0.top,below:=noSlpF (laKs s0 as) s0.below,heap:=jJt (laKs s0 as) (jZy (laKs s0 as) w 0 s0.top :: noSlpF (laKs s0 as) s0.below) 0 s0.heap }
def tmpl (s0:St) (w:List Nat) (as:List LA) (x:dens (laTys as)):St:=setLAs s0 (head0 s0 w as) as x
mutual
def still:AV → AV → Bool
 | .own k o,b=>match b with | .own k' o'=>Nat.beq k k' && Nat.beq o o' | _=>false
 | .sl k,b=>match b with | .sl k'=>Nat.beq k k' | _=>false
 | .slp _ _ _,_=>false
 | .sv _ _ _ _,_=>false
 | .oix _ _ _ _,_=>false
 | .osl _ _ _ _ _,_=>false
 | .slpf _ _ _ _,_=>false
 | .ssl _ _,_=>false
 | .yld k,b=>match b with | .yld k'=>Nat.beq k k' | _=>false
 | .agg cs,b=>match b with | .agg cs'=>stillL cs cs' | _=>false
 | .tup cs,b=>match b with | .tup cs'=>stillL cs cs' | _=>false
 | .fn _ cs,b=>match b with | .fn _ cs'=>stillL cs cs' | _=>false
 | .bnd _ cs,b=>match b with | .bnd _ cs'=>stillL cs cs' | _=>false
 | _,_=>true
def stillL:List AV → List AV → Bool
 | [],_=>true
 | c :: cs,b=>match b with | c' :: cs'=>still c c' && stillL cs cs' | []=>false
end
def stillT (w:List Nat):Nat → List AV → List AV → Bool
 | _,[],_=>true
 | i,v :: vs,b=>match b with | v' :: vs'=>(memN i w || still v v') && stillT w (i + 1) vs vs' | []=>false
def stillF:List (List AV) → List (List AV) → Bool
 | [],_=>true
 | f :: fs,b=>match b with | f' :: fs'=>stillL f f' && stillF fs fs' | []=>false
def stillA (s0 s:St):List LA → Bool
 | []=>true
 | a :: as=>(match a with
  | .slot _ _ | .cell _ _ _=>true
  | a=>match laSl s0 a,laSl s a with
   | some j,some k=>Nat.beq j k
   | none,_=>true
   | _,_=>false) && stillA s0 s as
def exBeq:Ex → Ex → Bool
 | .normal,.normal=>true
 | .exit i,.exit j=>Nat.beq i j
 | .ret,.ret=>true
 | _,_=>false
def phBeq:Ph → Ph → Bool
 | .ready,.ready=>true
 | .busy,.busy=>true
 | .done e,.done e'=>exBeq e e'
 | .exhausted,.exhausted=>true
 | _,_=>false
def natsBeq:List Nat → List Nat → Bool
 | [],[]=>true
 | a :: l,b :: m=>Nat.beq a b && natsBeq l m
 | _,_=>false
def fnBeq:AV → AV → Bool
 | .fn f [],.fn g []=>Nat.beq f g
 | _,_=>false
def kmBeq:List (KK × AV) → List (KK × AV) → Bool
 | [],[]=>true
 | p :: l,q :: k=>kkEq p.1 q.1 && fnBeq p.2 q.2 && kmBeq l k
 | _,_=>false
def sameB:Blk → Blk → Bool
 | .gone,_=>true
 | .cells cs,b=>match b with | .cells ds=>sameCs cs ds | _=>false
 | .kmap es,b=>match b with | .kmap fs=>kmBeq es fs | _=>false
 | .loop f p ph ts,b=>match b with | .loop f' p' ph' ts'=>Nat.beq f f' && natsBeq p p' && phBeq ph ph' && stillL ts ts' && Nat.beq (jXi ts) (jXi ts') | _=>false
 | .grow _ _ _,_=>false
 | .dmap _ _,_=>false
 | .diter _ _ _,_=>false
 | .log _ _ _ _,_=>false
 | .lof _ _ _,_=>false
 | .dat _ _,_=>false
 | .siter _ _,_=>false
def sameBs:List Blk → List Blk → Bool
 | [],_=>true
 | b :: h,c :: h'=>sameB b c && sameBs h h'
 | _ :: _,[]=>false
def fits (as:List LA) (w:List Nat) (s0 s:St):Bool :=
 stillT w 0 (jZy (laKs s0 as) w 0 s0.top) s.top && stillF (noSlpF (laKs s0 as) s0.below) s.below && stillA s0 s as && sameBs (head0 s0 w as).heap s.heap
def aloop (as:List LA) (w:List Nat) (body:(Ex → St → Prop) → St → Prop) (k:Ex → St → Prop) (s:St):Prop :=
 match getLAs (jJ4 s as) as with
 | none=>False
 | some x0=>if fits as w (jJ4 s as) (jJ4 s as) then ∃ (I:dens (laTys as) → Prop) (μ:dens (laTys as) → Nat),I x0 ∧ ∀ x,I x →
  body (fun e s'=>match e with
   | .normal=>match getLAs s' as with
    | some x'=>if fits as w (jJ4 s as) s' then samePH (head0 (jJ4 s as) w as).heap s'.heap (I x' ∧ μ x' < μ x) else False
    | none=>False
   | e=>k e s') (tmpl (jJ4 s as) w as x)
  else False
def aunroll (body:(Ex → St → Prop) → St → Prop) (k:Ex → St → Prop):Nat → St → Prop
 | 0,_=>False
 | n + 1,s=>body (fun e s'=>match e with | .normal=>aunroll body k n s' | e=>k e s') s
def jZq:Code → Nat → Option Code
 | .seq a b,i=>if Nat.beq i 0 then some a else some b
 | .cond _ a b,i=>if Nat.beq i 0 then some a else some b
 | .block _ c,_=>some c
 | .loop c,_=>some c
 | .scope c,_=>some c
 | .rangeFunc _ _ a b,i=>if Nat.beq i 0 then some a else some b
 | _,_=>none
def jZb (P:Program) (f:FuncId):List Nat → Option Code
 | []=>match P.funcs[f]? with
  | some fn=>fn.body
  | none=>none
 | i :: p=>match jZb P f p with
  | some c=>jZq c i
  | none=>none
def setPh (h:List Blk) (j:Nat) (ph:Ph):List Blk :=
 match hget h j with
 | .loop f p _ ts=>hset h j (.loop f p ph ts)
 | _=>h
def popped (s:St):Option St :=
 match s.below with
 | f :: fs=>some { top:=f,below:=fs,heap:=s.heap }
 | []=>none
def named (j:Nat) (s:St):Option St :=
 match s.top with
 | [.yld i]=>if Nat.beq i j then popped s else none
 | _=>none
def namedB (j:Nat) (s:St):Bool :=
 match s.below with
 | [.yld i] :: _=>Nat.beq i j
 | _=>false
def jX1 (h:List Blk):List LA → (List LA → Prop) → Prop
 | [],k=>k []
 | .keep j tid e :: as,k=>match hget h j with
  | .grow _ _ _=>jX1 h as (fun l=>k (.keep j tid e :: l))
  | _=>jX1 h as k
 | .kmp j e :: as,k=>match hget h j with
  | .dmap _ _=>jX1 h as (fun l=>k (.kmp j e :: l))
  | _=>jX1 h as k
 | .kit j e :: as,k=>match hget h j with
  | .diter _ _ _=>jX1 h as (fun l=>k (.kit j e :: l))
  | _=>jX1 h as k
 | .kdat j e :: as,k=>match hget h j with
  | .dat _ _=>jX1 h as (fun l=>k (.kdat j e :: l))
  | _=>jX1 h as k
 | .ksit j :: as,k=>match hget h j with
  | .siter _ _=>jX1 h as (fun l=>k (.ksit j :: l))
  | _=>jX1 h as k
 | .slot i t :: as,k=>jX1 h as (fun l=>k (.slot i t :: l))
 | .cell i o t :: as,k=>match hget h i with
  | .cells _=>jX1 h as (fun l=>k (.cell i o t :: l))
  | _=>jX1 h as k
 | .gslot i t e :: as,k=>jX1 h as (fun l=>k (.gslot i t e :: l))
 | .gcell i o t e :: as,k=>match hget h i with
  | .cells _=>jX1 h as (fun l=>k (.gcell i o t e :: l))
  | _=>jX1 h as k
theorem jQu {h:List Blk}:∀ {as:List LA} {k:List LA → Prop},jX1 h as k → ∃ l,k l
 | [],_,hk=>⟨[],hk⟩
 | .keep j tid e :: as,k,hk=>by
  unfold jX1 at hk
  split at hk
  ·obtain ⟨l,hl⟩:=jQu hk; exact ⟨_,hl⟩
  ·exact jQu hk
 | .kmp j e :: as,k,hk=>by
  unfold jX1 at hk
  split at hk
  ·obtain ⟨l,hl⟩:=jQu hk; exact ⟨_,hl⟩
  ·exact jQu hk
 | .kit j e :: as,k,hk=>by
  unfold jX1 at hk
  split at hk
  ·obtain ⟨l,hl⟩:=jQu hk; exact ⟨_,hl⟩
  ·exact jQu hk
 | .kdat j e :: as,k,hk=>by
  unfold jX1 at hk
  split at hk
  ·obtain ⟨l,hl⟩:=jQu hk; exact ⟨_,hl⟩
  ·exact jQu hk
 | .ksit j :: as,k,hk=>by
  unfold jX1 at hk
  split at hk
  ·obtain ⟨l,hl⟩:=jQu hk; exact ⟨_,hl⟩
  ·exact jQu hk
 | .slot i t :: as,k,hk=>by obtain ⟨l,hl⟩:=jQu (as:=as) hk; exact ⟨_,hl⟩
 | .cell i o t :: as,k,hk=>by
  unfold jX1 at hk
  split at hk
  ·obtain ⟨l,hl⟩:=jQu hk; exact ⟨_,hl⟩
  ·exact jQu hk
 | .gslot i t e :: as,k,hk=>by obtain ⟨l,hl⟩:=jQu (as:=as) hk; exact ⟨_,hl⟩
 | .gcell i o t e :: as,k,hk=>by
  unfold jX1 at hk
  split at hk
  ·obtain ⟨l,hl⟩:=jQu hk; exact ⟨_,hl⟩
  ·exact jQu hk
def refsH:List Blk → List Nat
 | []=>[]
 | .cells cs :: h=>refsA cs ++ refsH h
 | _ :: h=>refsH h
def Ctx.ahead (C:Ctx) (f:FuncId) (id:Nat) (s:St):St :=
 bif Nat.beq ((C.hint f).unr id) 500 then s.freezeAll (refsA s.top)
 else bif Nat.beq ((C.hint f).unr id) 501 then s.freezeAll (refsH s.heap) else s
def forkN (x:Int) (i:Nat) (s:St) (k:St → Prop):Nat → Prop
 | 0=>True
 | n + 1=>(x = (n:Int) → k { s with top:=fset s.top i (.d (.int .i64) (n:Int)) }) ∧ forkN x i s k n
def forkW (m i:Nat) (s:St) (k:St → Prop):Prop :=
 match fget s.top i with
 | .d (.int .i64) x=>(0 ≤ (x:Int) ∧ (x:Int) < (m:Int)) ∧ forkN x i s k m
 | _=>False
def Ctx.fork (C:Ctx) (f:FuncId) (id:Nat) (s:St) (k:St → Prop):Prop :=
 if Nat.ble 3000 ((C.hint f).unr id) then forkW (Nat.mod (Nat.sub ((C.hint f).unr id) 3000) 16) (Nat.div (Nat.sub ((C.hint f).unr id) 3000) 16) s k else k s
def awp (C:Ctx) (call:CallT) (f:FuncId):List Nat → Code → (Ex → St → Prop) → St → Prop
 | _,.skip,k,s=>k .normal s
 | _,.label _,k,s=>k .normal s
 | _,.region id ops draw,k,s=>C.fork f id s (fun s=>forceC ((C.hint f).unr id) (C.ahead f id s) fun s=>if draw then adraw C call ((C.hint f).mode id) ops s (k .normal) else aops C call ((C.hint f).mode id) ops ops.toList s (k .normal))
 | p,.seq a b,k,s=>awp C call f (0 :: p) a (fun e s'=>match e with | .normal=>awp C call f (1 :: p) b k s' | e=>k e s') s
 | p,.cond c a b,k,s =>
  match ev s.top c with
  | .tt=>awp C call f (0 :: p) a k s
  | .ff=>awp C call f (1 :: p) b k s
  | .d .bool x=>splitB ((C.hint f).cond c) x (awp C call f (0 :: p) a k (setTmp c .tt s)) (awp C call f (1 :: p) b k (setTmp c .ff s))
  | _=>False
 | p,.block id c,k,s=>awp C call f (0 :: p) c (fun e s'=>match e with | .exit i=>if Nat.beq i id then k .normal s' else k (.exit i) s' | e=>k e s') s
 | p,.scope c,k,s=>awp C call f (0 :: p) c k s
 | _,.exit id,k,s=>k (.exit id) s
 | _,.ret,k,s=>k .ret s
 | p,.loop body,k,s =>
  match jJg body with
  | some r=>match (C.hint f).unr r with
   | 0=>jX1 s.heap ((C.hint f).las r) (fun as=>aloop as (dsts body) (awp C call f (0 :: p) body) k s)
   | n=>if Nat.beq n 1000 then awp C call f (0 :: p) body (fun e s'=>match e with
    | .normal=>jX1 s'.heap ((C.hint f).las r) (fun as=>aloop as (dsts body) (awp C call f (0 :: p) body) k s')
    | e=>k e s') s
    else aunroll (awp C call f (0 :: p) body) k n s
  | none=>False
 | p,.rangeFunc g _ _ _,k,s =>
  match ev s.top g with
  | .fn h cap=>if jZh C h && C.noPan then
   call (.fn h) (.yld (hlen s.heap) :: cap) { top:=[.yld (hlen s.heap)],below:=s.top :: s.below,heap:=s.heap ++ [.loop f p .ready s.top] } (fun _ s' =>
    match named (hlen s.heap) s' with
    | none=>False
    | some s1=>match hget s1.heap (hlen s.heap) with
     | .loop _ _ .ready _=>k .normal { s1 with heap:=setPh s1.heap (hlen s.heap) .exhausted }
     | .loop _ _ (.done e) _=>k e { s1 with heap:=setPh s1.heap (hlen s.heap) .exhausted }
     | _=>False)
   else False
  | _=>False
 | _,_,_,_=>False
def resV (C:Ctx) (s:St):List ResultVar → Option (List AV)
 | []=>some []
 | .tmp t :: rs=>match resV C s rs with
  | some l=>some (fget s.top t :: l)
  | none=>none
 | .cell a t :: rs=>match fget s.top a with
  | .own k off=>match hget s.heap k with
   | .cells cs=>match loadOwn C t cs off,resV C s rs with
    | some v,some l=>some (v :: l)
    | _,_=>none
   | .dat u x=>match C.lay t with
    | some (ag,n)=>match subX u x off n ag,resV C s rs with
     | some v,some l=>some (v :: l)
     | _,_=>none
    | none=>none
   | _=>none
  | _=>none
def tup1:List AV → AV
 | [v]=>v
 | vs=>.tup vs
def pads:List AV → Nat → List AV
 | [],n=>List.replicate n .und
 | v :: vs,n=>v :: pads vs (n - 1)
def contract (sp:FSpec) (args:List AV) (s:St) (k:AV → St → Prop):Prop :=
 match asDs s.heap sp.ps (bif flats sp.rs then lendVs s.heap args else args) with
 | none=>False
 | some x=>sp.pre x ∧ k (outV sp.rs (sp.post x)) (if flats sp.rs then s else s.freezeAll (refsA args))
def contractG (g:GSpec) (args:List AV) (s:St) (k:AV → St → Prop):Prop :=
 match asDs s.heap g.ps args with
 | none=>False
 | some x=>g.pre x ∧ k (.sl (hlen (s.freezeAll (refsA args)).heap)) { s.freezeAll (refsA args) with heap:=(s.freezeAll (refsA args)).heap ++ [.grow g.tid g.e (g.post x)] }
def fin (C:Ctx) (fn:Func) (k:AV → St → Prop) (s':St):Prop :=
 match resV C s' fn.results.toList with
 | none=>False
 | some vs=>match popped s' with
  | none=>False
  | some s''=>k (tup1 vs) s''
def noMk (l:List Nat):Bool:=!memN' mkW l
def defOp (o:Oper):Option (Operand × List Operand) :=
 match o.guard,o.dst,o.op with
 | none,none,.defer c=>match c.callee with
  | .value f=>some (f,c.args.toList)
  | _=>none
 | _,_,_=>none
def defLast:List Oper → Option (List Oper × Operand × List Operand)
 | []=>none
 | o :: l=>match l with
  | []=>(match defOp o with
   | some d=>some ([],d)
   | none=>none)
  | _ :: _=>match defLast l with
   | some (p,d)=>some (o :: p,d)
   | none=>none
def defReg:Code → Option (Nat × Array Oper × List Oper × Operand × List Operand)
 | .region id ops draw=>bif draw then none else match defLast ops.toList with
  | some (p,d)=>some (id,ops,p,d)
  | none=>none
 | _=>none
def hasDef:Code → Bool
 | .seq x y=>(defReg x).isSome || hasDef y
 | _=>false
def keptAs (W:List Nat):List Operand → Bool
 | []=>true
 | x :: l=>(match x with | .tmp t=>!memN' t W | _=>false) && keptAs W l
def awpD (C:Ctx) (call:CallT) (f:FuncId):List Nat → Code → (Option (FuncId × List Operand) → St → Prop) → St → Prop
 | p,.seq x y,k,s=>match defReg x with
  | some (id,ops,pre,fo,as)=>if keptAs (dsts y) as then aops C call ((C.hint f).mode id) ops pre s (fun s1=>match ev s1.top fo with
   | .fn g cap=>if jZh C g then (if C.quiet g then awp C call f (1 :: p) y (fun e s2=>match e with | .exit _=>False | _=>k none s2) s1 else match cap with
    | []=>awp C call f (1 :: p) y (fun e s2=>match e with | .exit _=>False | _=>k (some (g,as)) s2) s1
    | _=>False) else False
   | _=>False) else False
  | none=>awp C call f (0 :: p) x (fun e s'=>match e with | .normal=>awpD C call f (1 :: p) y k s' | .exit _=>False | .ret=>k none s') s
 | _,_,_,_=>False
def inlined0 (C:Ctx) (call:CallT) (f:FuncId) (fn:Func) (code:Code) (args:List AV) (s:St) (k:AV → St → Prop):Prop :=
 if Nat.ble (jXi args) fn.ntmps && (C.noPan || noMk (dsts code)) then
  awp C call f [] code (fun e s'=>match e with | .exit _=>False | _=>fin C fn k s') { top:=pads args fn.ntmps,below:=s.top :: s.below,heap:=s.heap }
 else False
def dcall (C:Ctx) (call:CallT) (g:FuncId) (args:List AV) (s:St) (k:St → Prop):Prop :=
 match C.P.funcs[g]? with
 | none=>False
 | some fn=>match fn.body with
  | none=>False
  | some code=>if noMk (dsts code) && C.noPan then inlined0 C call g fn code args s (fun _ s'=>k s') else False
def inlinedD (C:Ctx) (call:CallT) (f:FuncId) (fn:Func) (code:Code) (args:List AV) (s:St) (k:AV → St → Prop):Prop :=
 if Nat.ble (jXi args) fn.ntmps && (noMk (dsts code) && C.noPan) then
  awpD C call f [] code (fun d s'=>match d with
   | none=>fin C fn k s'
   | some (g,as)=>dcall C call g (evs s'.top as) s' (fin C fn k)) { top:=pads args fn.ntmps,below:=s.top :: s.below,heap:=s.heap }
 else False
def inlined (C:Ctx) (call:CallT) (f:FuncId) (fn:Func) (args:List AV) (s:St) (k:AV → St → Prop):Prop :=
 match fn.body with
 | none=>False
 | some code=>if hasDef code then inlinedD C call f fn code args s k else inlined0 C call f fn code args s k
def setPs:List AV → List Nat → List AV → List AV
 | ts,t :: ps,v :: vs=>setPs (fset ts t v) ps vs
 | ts,_,_=>ts
def around (C:Ctx) (call:CallT) (j:Nat) (args:List AV) (s:St) (k:AV → St → Prop):Prop :=
 if C.noPan then match hget s.heap j with
 | .loop f p .ready ts=>match jZb C.P f p with
  | some (.rangeFunc _ ps as bd) =>
   if Nat.beq (jXi args) (listLen' ps.toList) then
    awp C call f (0 :: p) as (fun e s1=>match e with
     | .normal=>if namedB j s1 then match hget s1.heap j with
      | .loop _ _ .ready _=>awp C call f (1 :: p) bd (fun e s2=>match popped s2 with
       | none=>False
       | some s3=>match named j s3 with
        | none=>False
        | some s4=>match hget s4.heap j with
         | .loop _ _ .busy _=>match e with
          | .normal=>k .tt { s4 with heap:=setPh s4.heap j .ready }
          | e=>k .ff { s4 with heap:=setPh s4.heap j (.done e) }
         | _=>False) { s1 with heap:=setPh s1.heap j .busy }
      | _=>False
      else False
     | _=>False) { top:=setPs ts ps.toList args,below:=[.yld j] :: s.top :: s.below,heap:=s.heap }
   else False
  | _=>False
 | _=>False
 else False
where
 listLen':List Nat → Nat
  | []=>0
  | _ :: l=>listLen' l + 1
def asort (g:SSpec) (args:List AV) (s:St) (k:AV → St → Prop):Prop :=
 match args with
 | [.sl j,.fn c []]=>if Nat.beq c g.cmp then match hget s.heap j with
     | .grow tid e xs=>if Nat.beq tid g.tid then match cast? (.arr e) (.arr g.e) xs with
      | some ys=>((ys.length:Int) ≤ 4611686018427387903) ∧ k (.tup []) { s with heap:=hset s.heap j (.grow g.tid g.e (g.f ys)) }
      | none=>False
      else False
     | _=>False
  else False
 | _=>False
def isCells:Blk → Bool
 | .cells _=>true
 | _=>false
mutual
def okV (t:List Blk):AV → Bool
 | .own k _=>isCells (hget t k)
 | .sl _=>false
 | .slp _ _ _=>false
 | .sv _ _ _ _=>false
 | .oix _ _ _ _=>false
 | .osl _ _ _ _ _=>false
 | .slpf _ _ _ _=>false
 | .ssl _ _=>false
 | .yld _=>false
 | .agg cs=>okVs t cs
 | .tup cs=>okVs t cs
 | .fn _ cs=>okVs t cs
 | .bnd _ cs=>okVs t cs
 | _=>true
def okVs (t:List Blk):List AV → Bool
 | []=>true
 | c :: cs=>okV t c && okVs t cs
end
def okH (t:List Blk):List Blk → Bool
 | []=>true
 | b :: bs=>(match b with | .cells cs=>okVs t cs | .gone=>true | _=>false) && okH t bs
def sameSh:List Blk → List Blk → Bool
 | [],b=>match b with | []=>true | _=>false
 | c :: cs,b=>match b with | d :: ds=>(isCells c == isCells d) && sameSh cs ds | []=>false
def shOk (hsp:HSpec) (x:dens hsp.ps) (y:dens (laTys hsp.las)):Bool :=
 okH (hsp.h y) (hsp.h y) && okVs (hsp.h y) hsp.cap && (okH (hsp.h (hsp.aft x y)) (hsp.h (hsp.aft x y)) && sameSh (hsp.h y) (hsp.h (hsp.aft x y)))
def amut (g:OSpec) (args:List AV) (s:St) (k:AV → St → Prop):Prop :=
 match args with
 | .sl j :: rest=>match hget s.heap j with
  | .grow tid e xs=>if Nat.beq tid g.tid then match cast? (.arr e) (.arr g.e) xs with
   | some ys=>match asDs s.heap g.ps rest with
    | some x=>if noRefs' rest then g.pre x ys ∧ k (outV g.rs (g.post x ys)) { s with heap:=hset s.heap j (.grow g.tid g.e (g.aft x ys)) } else False
    | none=>False
   | none=>False
   else False
  | _=>False
 | _=>False
def acontractP (C:Ctx) (g:PSpec) (args:List AV) (s:St) (k:AV → St → Prop):Prop :=
 match asDs s.heap g.ps args with
 | none=>False
 | some x=>if noRefs' args then g.pre x ∧ (match g.fails with
  | some f=>C.panOk (f x)
  | none=>(∀ y,g.post x = .inl y → k (outV g.rs y) s) ∧ ∀ b,g.post x = .inr b → C.panOk b) else False
def acall (C:Ctx):Nat → CallT
 | 0,_,_,_,_=>False
 | n + 1,.yld j,args,s,k=>match hget s.heap j with
  | .log _ _ _ _=>False
  | _=>around C (acall C n) j args s k
 | n + 1,.fn f,args,s,k =>
  match C.iters f with
  | some _=>False
  | none=>match C.fresh f with
   | some g=>contractG g args s k
   | none=>match C.spec f with
    | some sp=>contract sp (maskAs sp.ps args) s k
    | none=>match C.sorts f with
     | some g=>asort g args s k
     | none=>match C.sortsM f with
      | some _=>False
      | none=>match C.nilG f with
       | some g=>(match args with
        | .nils :: rest=>contractG g rest s k
        | _=>False)
       | none=>match C.procs f with
        | some _=>False
        | none=>match C.muts f with
         | some g=>amut g args s k
         | none=>match C.pans f with
          | some g=>acontractP C g args s k
          | none=>match C.P.funcs[f]? with
           | none=>False
           | some fn=>inlined C (acall C n) f fn args s k
def normF:AV → AV
 | .d t x=>match t,x with
  | .fnc,f=>.fn f []
  | t,x=>.d t x
 | v=>v
def normFs:List AV → List AV
 | []=>[]
 | v :: vs=>normF v :: normFs vs
def fnwp (C:Ctx) (n:Nat) (f:FuncId) (sp:FSpec) (x:dens sp.ps):Prop :=
 match C.noPan with | false=>False | true=>match C.P.funcs[f]? with
 | none=>False
 | some fn=>inlined C (acall C n) f fn (normFs (outs sp.ps x)) { top:=[],below:=[],heap:=[] } (fun v s' =>
  match (match sp.rs with
   | []=>match v with | .tup []=>asDs s'.heap sp.rs [] | _=>none
   | [_]=>asDs s'.heap sp.rs [v]
   | _=>match v with | .tup vs=>asDs s'.heap sp.rs vs | _=>none) with
  | some y=>y = sp.post x
  | none=>False)
def resOf (rs:List Ty) (h:List Blk) (v:AV):Option (dens rs) :=
 match rs with
 | []=>match v with | .tup []=>asDs h [] [] | _=>none
 | [t]=>asDs h [t] [v]
 | t :: u :: ts=>match v with | .tup vs=>asDs h (t :: u :: ts) vs | _=>none
def fnwpP (C:Ctx) (n:Nat) (f:FuncId) (sp:PSpec) (x:dens sp.ps):Prop :=
 match C.P.funcs[f]? with
 | none=>False
 | some fn=>inlined C (acall C n) f fn (normFs (outs sp.ps x)) { top:=[],below:=[],heap:=[] } (fun v s' =>
  match resOf sp.rs s'.heap v with
  | some y=>sp.post x = .inl y
  | none=>False)
abbrev Pr:=Addr → Option Value
def strOf (l:List Int):ByteArray:=⟨(l.map fun n=>UInt8.ofNat n.toNat).toArray⟩
def rdL {α:Type} (R:α → List Value → Prop):List α → List Value → Prop
 | [],vs=>vs = []
 | x :: xs,vs=>∃ c vs',vs = c ++ vs' ∧ R x c ∧ rdL R xs vs'
def rowAt (Ψ:Pr) (a:Option Addr) (vs:List Value):Prop :=
 ∃ g off,a = some ⟨g,off,none⟩ ∧ ∀ j u,vs[j]? = some u → Ψ ⟨g,off + j,none⟩ = some u
mutual
def rdR (Ψ:Pr) {α β:Type} (Ra:α → List Value → Prop) (Rb:β → List Value → Prop):Rose (α × β) → List Value → Prop
 | .node x ys,vs=>∃ u s w,vs = u ++ s :: w ∧ Ra x.1 u ∧ Rb x.2 w ∧ ∃ a cap,s = .slice a ys.length cap ∧ ys.length ≤ cap ∧ cap ≤ maxLen ∧ (ys = [] ∨ ∃ cells,rdRs Ψ Ra Rb ys cells ∧ rowAt Ψ a cells)
def rdRs (Ψ:Pr) {α β:Type} (Ra:α → List Value → Prop) (Rb:β → List Value → Prop):List (Rose (α × β)) → List Value → Prop
 | [],vs=>vs = []
 | y :: ys,vs=>∃ c vs',vs = c ++ vs' ∧ rdR Ψ Ra Rb y c ∧ rdRs Ψ Ra Rb ys vs'
end
def reads (Ψ:Pr):(t:Ty) → t.den → List Value → Prop
 | .int k,n,vs=>vs = [.int k n] ∧ k.has n
 | .bool,b,vs=>vs = [.bool b]
 | .fnc,f,vs=>vs = [.func (.func f) #[] #[]]
 | .any,_,vs=>∃ v:Value,vs = [v] ∧ v.oneCell' = true
 | .str,l,vs=>vs = [.string (strOf l)] ∧ (∀ c ∈ l,0 ≤ c ∧ c ≤ 255) ∧ l.length ≤ maxLen
 | .arr e,xs,vs=>∃ a cap,vs = [.slice a xs.length cap] ∧ xs.length ≤ cap ∧ cap ≤ maxLen ∧ (xs = [] ∨ ∃ cells,rdL (reads Ψ e) xs cells ∧ rowAt Ψ a cells)
 | .vec n e,xs,vs=>xs.length = n ∧ rdL (reads Ψ e) xs vs
 | .unit,_,vs=>vs = []
 | .pair a b,x,vs=>∃ u v,vs = u ++ v ∧ reads Ψ a x.1 u ∧ reads Ψ b x.2 v
 | .rose a b,x,vs=>rdR Ψ (reads Ψ a) (reads Ψ b) x vs
def rv (Ψ:Pr) (t:Ty) (x:t.den) (v:Value):Prop:=∃ cs,reads Ψ t x cs ∧ if t.isAgg then v = .agg cs.toArray else cs = [v]
def yldV (l:Nat):Value:=.func (.yield l) #[] #[]
def hole:Value:=.nilFunc
mutual
def RelV (Ψ:Pr) (β:List Value):AV → Value → Prop
 | .junk,_=>True
 | .und,v=>v = undef
 | .tt,v=>v = .bool true
 | .ff,v=>v = .bool false
 | .d t x,v=>rv Ψ t x v
 | .fs e xs,v=>∃ a,v = .slice a xs.length xs.length ∧ rv Ψ (.arr e) xs v
 | .nils,v=>v = .slice none 0 0
 | .agg cs,v=>∃ vs:List Value,v = .agg vs.toArray ∧ RelL Ψ β cs vs ∧ ∀ u ∈ vs,u.oneCell' = true
 | .tup cs,v=>∃ vs:List Value,v = .tuple vs.toArray ∧ RelL Ψ β cs vs
 | .fn f cs,v=>∃ vs:List Value,v = .func (.func f) #[] vs.toArray ∧ RelL Ψ β cs vs
 | .bnd f cs,v=>∃ vs:List Value,v = .func (.func f) vs.toArray #[] ∧ RelL Ψ β cs vs
 | .sv k sz lo hi,v=>∃ g n c,β[k]? = some (.slice (some ⟨g,0,none⟩) n c) ∧ 0 ≤ lo ∧ lo ≤ hi ∧ hi ≤ n ∧ v = .slice (some ⟨g,lo.toNat * sz,none⟩) (hi.toNat - lo.toNat) (c - lo.toNat)
 | .nilf,v=>v = .nilFunc
 | .nilp,v=>v = .pointer none
 | .own k off,v=>∃ g,β[k]? = some (.pointer (some ⟨g,0,none⟩)) ∧ v = .pointer (some ⟨g,off,none⟩)
 | .sl k,v=>β[k]? = some v ∧ v ≠ hole
 | .slp k sz i,v=>∃ g n c,β[k]? = some (.slice (some ⟨g,0,none⟩) n c) ∧ 0 ≤ i ∧ i < n ∧ v = .pointer (some ⟨g,i.toNat * sz,none⟩)
 | .rp t x,v=>∃ g off cs,v = .pointer (some ⟨g,off,none⟩) ∧ reads Ψ t x cs ∧ ∀ j u,cs[j]? = some u → Ψ ⟨g,off + j,none⟩ = some u
 | .yld k,v=>∃ l,β[k]? = some (yldV l) ∧ v = yldV l
 | .glb g,v=>v = .pointer (some ⟨g,0,none⟩)
 | .oix k off n i,v=>∃ g,β[k]? = some (.pointer (some ⟨g,0,none⟩)) ∧ 0 ≤ i ∧ i < (n:Int) ∧ v = .pointer (some ⟨g,off + i.toNat,none⟩)
 | .osl k off n lo hi,v=>∃ g,β[k]? = some (.pointer (some ⟨g,0,none⟩)) ∧ 0 ≤ lo ∧ lo ≤ hi ∧ hi ≤ (n:Int) ∧ n ≤ maxLen ∧ v = .slice (some ⟨g,off + lo.toNat,none⟩) (hi.toNat - lo.toNat) (n - lo.toNat)
 | .slpf k sz i off,v=>∃ g n c,β[k]? = some (.slice (some ⟨g,0,none⟩) n c) ∧ 0 ≤ i ∧ i < n ∧ off < sz ∧ v = .pointer (some ⟨g,i.toNat * sz + off,none⟩)
 | .ssl k n,v=>∃ g,β[k]? = some (.pointer (some ⟨g,0,none⟩)) ∧ n ≤ 16777216 ∧ v = .slice (some ⟨g,0,none⟩) n n
def RelL (Ψ:Pr) (β:List Value):List AV → List Value → Prop
 | [],vs=>vs = []
 | c :: cs,vs=>∃ v vs',vs = v :: vs' ∧ RelV Ψ β c v ∧ RelL Ψ β cs vs'
end
def jQb (β:List Value) (k:Nat) (g:Nat):Blk → Prop
 | .gone=>False
 | .log _ _ own _=>own g
 | .lof _ _ own=>own g
 | .cells _=>β[k]? = some (.pointer (some ⟨g,0,none⟩))
 | .grow _ _ _=>∃ n cap,cap ≠ 0 ∧ β[k]? = some (.slice (some ⟨g,0,none⟩) n cap)
 | .kmap _ | .dmap _ _=>β[k]? = some (.map (some g))
 | .diter _ _ _=>β[k]? = some (.pointer (some ⟨g,0,none⟩))
 | .loop _ _ _ _=>β[k]? = some (yldV g)
 | .dat _ _=>β[k]? = some (.pointer (some ⟨g,0,none⟩))
 | .siter _ _=>β[k]? = some (.pointer (some ⟨g,0,none⟩))
def dAddr (D:Nat):Addr:=⟨D,0,some 0⟩
def lAddr (l:Nat):Addr:=⟨l,0,some 1⟩
def tAddr (l i:Nat):Addr:=⟨l,i,some 2⟩
def mAddr (g:Nat):Addr:=⟨g,0,some 3⟩
def encE (x:MapEntry):Value:=.agg #[x.key,x.val,.int .i64 x.born]
def encM (ms:Array MapEntry) (cl:Nat):Value:=.tuple #[.agg (ms.map encE),.int .i64 cl]
def Pm (w:World) (a:Addr) (v:Value):Prop :=
 match a.spot with
 | none=>w.cell? a = some v
 | some 0=>a.off = 0 ∧ w.heap[a.block]? = some (.deferred (some []))
 | some 1=>∃ r,w.heap[a.block]? = some (.loop r)
 | some 2=>∃ r,w.heap[a.block]? = some (.loop r) ∧ r.tmps[a.off]? = some v
 | some 3=>∃ ms cl,w.heap[a.block]? = some (.map ms cl) ∧ v = encM ms cl
 | _=>False
def exCode:Ex → Option Code
 | .normal=>none
 | .exit i=>some (.exit i)
 | .ret=>some .ret
def phOk:Ph → Loop → Prop
 | .ready,r=>r.state = .ready ∧ r.pending = none
 | .busy,r=>r.state = .busy
 | .done e,r=>r.state = .done ∧ r.pending = exCode e
 | .exhausted,r=>r.state = .exhausted
def fnV (f:FuncId):Value:=.func (.func f) #[] #[]
def KK.v:KK → Value
 | .i n=>.int .i64 n
 | .s l=>.string (strOf l)
def KK.ok:KK → Prop
 | .i _=>True
 | .s l=>∀ c ∈ l,0 ≤ c ∧ c ≤ 255
def KK.td:KK → TypeDesc
 | .i _=>.int .i64
 | .s _=>.string
def mapR (Ψ:Pr) (e:Ty):List (Int × e.den) → List MapEntry → Prop
 | [],es=>es = []
 | p :: m,es=>∃ x es',es = x :: es' ∧ x.key = .int .i64 p.1 ∧ IntKind.i64.has p.1 ∧ rv Ψ e p.2 x.val ∧ mapR Ψ e m es'
def leftL (es:List MapEntry) (seen:Array Nat):List MapEntry:=es.filter fun e=>!seen.contains e.born
structure BelowS (B:Nat → Prop) (w w':World):Prop where
 os:w'.os = w.os
 tape:w'.tape = w.tape
 output:w'.output = w.output
 size:w.heap.size ≤ w'.heap.size
 block:∀ k,B k → w'.heap[k]? = w.heap[k]?
theorem BelowS.refl (B:Nat → Prop) (w:World):BelowS B w w:=⟨rfl,rfl,rfl,Nat.le_refl _,fun _ _=>rfl⟩
theorem BelowS.trans {B:Nat → Prop} {w w' w'':World} (h:BelowS B w w') (h':BelowS B w' w''):BelowS B w w'' :=
 ⟨h'.os.trans h.os,h'.tape.trans h.tape,h'.output.trans h.output,Nat.le_trans h.size h'.size,fun k hk=>(h'.block k hk).trans (h.block k hk)⟩
theorem below_S {B:Nat → Prop} {n:Nat} {w w':World} (h:Below n w w') (hB:∀ k,B k → k < n):BelowS B w w':=⟨h.os,h.tape,h.output,h.size,fun k hk=>h.block k (hB k hk)⟩
theorem jZ3 {B:Nat → Prop} {n:Nat} (h:∀ k,B k → k < n):¬ B n:=fun hb=>Nat.lt_irrefl _ (h n hb)
theorem out_ge {B:Nat → Prop} {n m:Nat} (h:∀ k,B k → k < n) (hm:n ≤ m):¬ B m:=fun hb=>Nat.lt_irrefl _ (Nat.lt_of_lt_of_le (h m hb) hm)
theorem BelowS.of {n:Nat} {w w':World} (h:BelowS (fun k=>k < n) w w'):Below n w w':=⟨h.os,h.tape,h.output,h.size,h.block⟩
def pl (a:Addr):Prop:=a.spot = none ∨ a.spot = some 3 ∨ a.spot = some 0
def PLm (Ψ Ψ':Pr):Prop:=∀ a v,a.spot ≠ some 0 → Ψ a = some v → Ψ' a = some v
def Ext (B:Nat → Prop) (Ψ Ψ':Pr):Prop:=(∀ a v,Ψ a = some v → Ψ' a = some v) ∧ ∀ ad v,Ψ' ad = some v → Ψ ad = some v ∨ ¬ B ad.block
def Mine (B:Nat → Prop) (own:Nat → Prop) (w:World):Prop:=∀ g,own g → ¬ B g ∧ g < w.heap.size
def Gl (P:Program) (Ψ:Pr):Prop:=(∀ g,gIs P g = true → ∀ (j:Nat) (n:Int),gdatL[j]? = some n → Ψ ⟨g,j,none⟩ = some (.int .u32 n)) ∧
 ∀ g,wsIs P g = true → ∀ (j:Nat) (n:Int),wsL[j]? = some n → Ψ ⟨g,j,none⟩ = some (.int .u8 n)
structure Glob (P:Program) (B:Nat → Prop) (w0:World) (own:Nat → Prop) (Ψ:Pr) (w:World):Prop where
 low:BelowS B w0 w
 size:∀ k,B k → k < w.heap.size
 prom:∀ a v,Ψ a = some v → Pm w a v
 marks:∀ a v,Ψ a = some v → a.spot = some 0 → ¬ B a.block
 mine:Mine B own w
 free:∀ a,own a.block → pl a → Ψ a = none
 glob:Gl P Ψ
def Proto.Stable {ys:List Ty} (Y:Proto ys):Prop :=
 (∀ xs own Ψ Ψ' w w',Y.R xs own Ψ w → PLm Ψ Ψ' → (∀ g,own g → w'.heap[g]? = w.heap[g]?) → Y.R xs own Ψ' w') ∧
 (∀ own Ψ Ψ' w w',Y.Rf own Ψ w → PLm Ψ Ψ' → (∀ g,own g → w'.heap[g]? = w.heap[g]?) → Y.Rf own Ψ' w')
def Proto.Step {ys:List Ty} (P:Program) (Y:Proto ys):Prop :=
 ∀ xs y rest,Y.items = xs ++ y :: rest → ∀ (B:Nat → Prop) w0 own Ψ w vs,Y.R xs own Ψ w → Glob P B w0 own Ψ w → RelL Ψ [] (outs ys (undens ys y)) vs →
  ∃ r,w.heap[Y.l]? = some (.loop r) ∧ vs.length = r.params.size ∧
   RoundIn Fence.wide 0 P Y.l r.fn ((r.params.zip vs.toArray).foldl (fun tmps (t,a)=>tmps.setIfInBounds t a) r.tmps) r.assign r.body w fun e w'=>∃ v own' Ψ',e = .returned v ∧ Ext B Ψ Ψ' ∧ Glob P B w0 own' Ψ' w' ∧
    ((v = .bool true ∧ Y.R (xs ++ [y]) own' Ψ' w') ∨ (v = .bool false ∧ Y.Rf own' Ψ' w'))
def BlkR (P:Program) (B:Nat → Prop) (Ψ:Pr) (β:List Value) (w:World) (k:Nat):Blk → Prop
 | .gone=>True
 | .log _ Y own xs=>β[k]? = some (yldV Y.l) ∧ Y.R xs own Ψ w ∧ Mine B own w ∧ Y.Stable ∧ Y.Step P
 | .lof _ Y own=>β[k]? = some (yldV Y.l) ∧ Y.Rf own Ψ w ∧ Mine B own w ∧ Y.Stable
 | .cells cs=>∃ g c e,β[k]? = some (.pointer (some ⟨g,0,none⟩)) ∧ w.heap[g]? = some (.cells c e (0,0)) ∧ ¬ B g ∧ RelL Ψ β cs c.toList ∧ (∀ u ∈ c.toList,u.oneCell' = true)
 | .grow tid e xs=>(∃ ad,β[k]? = some (.slice ad 0 0) ∧ xs = []) ∨
  ∃ g cap cur,β[k]? = some (.slice (some ⟨g,0,none⟩) xs.length cap) ∧ cap ≠ 0 ∧ ¬ B g ∧ w.heap[g]? = some (.cells cur tid (0,0)) ∧ xs.length ≤ cap ∧ cap ≤ maxLen ∧ cur.size = cap * e.cells ∧
   rdL (reads Ψ e) xs (cur.toList.take (xs.length * e.cells))
 | .kmap es=>∃ g ms cl,β[k]? = some (.map (some g)) ∧ w.heap[g]? = some (.map ms cl) ∧ ¬ B g ∧ ms.toList.map (·.key) = es.map (fun p=>p.1.v) ∧ RelL Ψ β (es.map Prod.snd) (ms.toList.map (·.val)) ∧ ∀ p ∈ es,okE p.2 = true ∧ p.1.ok
 | .dmap e m=>∃ g ms cl,β[k]? = some (.map (some g)) ∧ w.heap[g]? = some (.map ms cl) ∧ ¬ B g ∧ mapR Ψ e m ms.toList ∧ (m.map Prod.fst).Nodup ∧ (ms.toList.map (·.born)).Nodup ∧ (∀ x ∈ ms.toList,x.born < cl)
 | .diter e last left=>∃ g gm ms cl seen,β[k]? = some (.pointer (some ⟨g,0,none⟩)) ∧ w.heap[g]? = some (.mapIter (some gm) cl seen cl) ∧ ¬ B g ∧ Ψ (mAddr gm) = some (encM ms cl) ∧ mapR Ψ e left (leftL ms.toList seen) ∧
  (ms.toList.map (·.born)).Nodup ∧ (∀ x ∈ ms.toList,x.born < cl) ∧ (last = [] ∨ ∃ (p:Int × e.den) (x:MapEntry) (seen':Array Nat),last = [p] ∧ seen = seen'.push x.born ∧ x ∈ ms.toList ∧ x.key = .int .i64 p.1 ∧ IntKind.i64.has p.1 ∧ rv Ψ e p.2 x.val)
 | .loop f p ph ts=>∃ l r,β[k]? = some (yldV l) ∧ w.heap[l]? = some (.loop r) ∧ ¬ B l ∧ phOk ph r ∧ RelL Ψ β ts r.tmps.toList ∧ Ψ (lAddr l) = some undef ∧ (∀ i v,r.tmps[i]? = some v → Ψ (tAddr l i) = some v) ∧
  ∃ g,jZb P f p = some (.rangeFunc g r.params r.assign r.body)
 | .dat t x=>∃ g c e,β[k]? = some (.pointer (some ⟨g,0,none⟩)) ∧ w.heap[g]? = some (.cells c e (0,0)) ∧ ¬ B g ∧ reads Ψ t x c.toList
 | .siter n rest=>∃ g s pos,β[k]? = some (.pointer (some ⟨g,0,none⟩)) ∧ w.heap[g]? = some (.stringIter s pos) ∧ ¬ B g ∧ n = (pos:Int) ∧ pos ≤ s.size ∧ s.size ≤ maxLen ∧ rest = (bytesOf s).drop pos
structure InvH (P:Program) (B:Nat → Prop) (w0:World) (Ψ:Pr) (β:List Value) (h:List Blk) (w:World):Prop where
 low:BelowS B w0 w
 size:∀ k,B k → k < w.heap.size
 prom:∀ a v,Ψ a = some v → Pm w a v
 own:∀ a v,Ψ a = some v → a.spot = some 0 → ¬ B a.block
 len:β.length = h.length
 one:∀ (k:Nat) (u:Value),β[k]? = some u → u.oneCell' = true
 blk:∀ k b,h[k]? = some b → BlkR P B Ψ β w k b
 free:∀ k b g,h[k]? = some b → jQb β k g b → ∀ a,a.block = g → pl a → Ψ a = none
 sep:∀ j k bj bk g,j ≠ k → h[j]? = some bj → h[k]? = some bk → jQb β j g bj → jQb β k g bk → False
 glob:Gl P Ψ
def mkD (D:Nat):Deferred:={ target:=.collected D,args:=#[] }
def Dok (Ψ:Pr) (a:Act):Prop:=∃ (ds:List Nat) (r:List Deferred),a.defers = ds.map mkD ++ r ∧ (∀ d ∈ r,∀ D,d ≠ mkD D) ∧ ds.Nodup ∧ ∀ D ∈ ds,Ψ (dAddr D) = some undef
def RelFr (Ψ:Pr) (β:List Value) (fr:List AV) (a:Act):Prop :=
 Dok Ψ a ∧ RelL Ψ β fr a.tmps.toList
def RelF (Ψ:Pr) (β:List Value):List (List AV) → List Act → Prop
 | [],as=>as = []
 | f :: fs,as=>∃ a as',as = a :: as' ∧ RelFr Ψ β f a ∧ RelF Ψ β fs as'
def Sat (P:Program) (f:FuncId) (sp:FSpec):Prop :=
 ∀ (Ψ:Pr) (w:World) (x:dens sp.ps) (args:List Value),(∀ a v,Ψ a = some v → a.spot = none ∧ w.cell? a = some v) → Gl P Ψ →
  RelL Ψ [] (outs sp.ps x) args → sp.pre x →
  Calls P f args.toArray w fun e w'=>∃ v Ψ',e = .returned v ∧ Below w.heap.size w w' ∧ (∀ a u,Ψ a = some u → Ψ' a = some u) ∧
   (∀ a u,Ψ' a = some u → Ψ a = some u ∨ (w.heap.size ≤ a.block ∧ a.spot = none ∧ w'.cell? a = some u)) ∧ RelV Ψ' [] (outV sp.rs (sp.post x)) v
def SatGp (P:Program) (f:FuncId) (px:List Value) (sp:GSpec):Prop :=
 ∀ (Ψ:Pr) (w:World) (x:dens sp.ps) (args:List Value),(∀ a v,Ψ a = some v → a.spot = none ∧ w.cell? a = some v) → Gl P Ψ →
  RelL Ψ [] (outs sp.ps x) args → sp.pre x →
  Calls P f (px ++ args).toArray w fun e w'=>∃ v Ψ',e = .returned v ∧ Below w.heap.size w w' ∧ (∀ a u,Ψ a = some u → Ψ' a = some u) ∧
   (∀ a u,Ψ' a = some u → Ψ a = some u ∨ (w.heap.size ≤ a.block ∧ a.spot = none ∧ w'.cell? a = some u)) ∧ v.oneCell' = true ∧
   BlkR P (fun k=>k < w.heap.size) Ψ' [v] w' 0 (.grow sp.tid sp.e (sp.post x)) ∧ ∀ g,jQb [v] 0 g (.grow sp.tid sp.e (sp.post x)) → ∀ a,a.block = g → Ψ' a = none
def SatG (P:Program) (f:FuncId) (sp:GSpec):Prop:=SatGp P f [] sp
def SatN (P:Program) (f:FuncId) (sp:GSpec):Prop:=SatGp P f [.slice none 0 0] sp
def SatI (P:Program) (f:FuncId) (isp:ISpec):Prop :=
 ∀ (B:Nat → Prop) (w0:World) (Y:Proto isp.ys) (x:dens isp.ps) (own:Nat → Prop) (Ψ:Pr) (w:World) (vs:List Value),isp.pre x → Y.items = isp.items x → Y.Stable → Y.Step P → Y.R [] own Ψ w → Glob P B w0 own Ψ w → RelL Ψ [] (rps isp.ps x) vs →
  Calls P f (yldV Y.l :: vs).toArray w fun e w'=>∃ own' Ψ',e = .returned (.tuple #[]) ∧ Ext B Ψ Ψ' ∧ Glob P B w0 own' Ψ' w' ∧ (Y.R (isp.items x) own' Ψ' w' ∨ Y.Rf own' Ψ' w')
def SatS (P:Program) (f:FuncId) (g:SSpec):Prop :=
 ∀ (B:Nat → Prop) (Ψ:Pr) (w:World) (xs:List g.e.den) (v:Value),BlkR P B Ψ [v] w 0 (.grow g.tid g.e xs) → (xs.length:Int) ≤ 4611686018427387903 →
  Calls P f #[v,fnV g.cmp] w fun e w'=>e = .returned (.tuple #[]) ∧
   ((w' = w ∧ g.f xs = xs) ∨ ∃ gb,jQb [v] 0 gb (.grow g.tid g.e xs) ∧ w.grownBy w' (some gb) ∧ BlkR P B Ψ [v] w' 0 (.grow g.tid g.e (g.f xs)))
def capV (f:FuncId) (u:Value):Value:=.func (.func f) #[] #[u]
def SatM (P:Program) (f:FuncId) (g:MSpec):Prop :=
 ∀ (B:Nat → Prop) (Ψ:Pr) (w:World) (xs:List Int) (mm:List (Int × Int)) (v:Value) (gc gm cl:Nat) (ec:TypeId) (ms:Array MapEntry),BlkR P B Ψ [v] w 0 (.grow g.tid (.int .i64) xs) → (xs.length:Int) ≤ 4611686018427387903 →
  w.heap[gc]? = some (.cells #[.map (some gm)] ec (0,0)) → w.heap[gm]? = some (.map ms cl) → mapR Ψ (.int .i64) mm ms.toList → (∀ gb,jQb [v] 0 gb (.grow g.tid (.int .i64) xs) → gb ≠ gc) →
  Calls P f #[v,capV g.cmp (.pointer (some ⟨gc,0,none⟩))] w fun e w'=>e = .returned (.tuple #[]) ∧
   ((w' = w ∧ g.f mm xs = xs) ∨ ∃ gb,jQb [v] 0 gb (.grow g.tid (.int .i64) xs) ∧ w.grownBy w' (some gb) ∧ BlkR P B Ψ [v] w' 0 (.grow g.tid (.int .i64) (g.f mm xs)))
def SatH (P:Program) (f:FuncId) (hsp:HSpec):Prop :=
 ∀ (B:Nat → Prop) (w0:World) (Ψ:Pr) (β:List Value) (w:World) (x:dens hsp.ps) (y:dens (laTys hsp.las)) (args caps:List Value),shOk hsp x y = true → InvH P B w0 Ψ β (hsp.h y) w → RelL Ψ [] (outs hsp.ps x) args → RelL Ψ β hsp.cap caps → hsp.pre x y →
  Calls P f (args ++ caps).toArray w fun e w'=>∃ v Ψ',e = .returned v ∧ Ext B Ψ Ψ' ∧ InvH P B w0 Ψ' β (hsp.h (hsp.aft x y)) w' ∧ RelV Ψ' [] (outV hsp.rs (hsp.post x y)) v
def panV (pT:TypeId) (b:Int × Int):Value:=.iface pT (.agg #[.int .i64 b.1,.int .i64 b.2])
def panE (pT:TypeId) (b:Int × Int):List PanicEntry:=[{ v:=panV pT b,recovered:=false }]
def SatP (P:Program) (pT:TypeId) (f:FuncId) (sp:PSpec):Prop :=
 (∀ g,sp.fails = some g → ∀ x,sp.post x = .inr (g x)) ∧ ∀ (Ψ:Pr) (w:World) (x:dens sp.ps) (args:List Value),(∀ a v,Ψ a = some v → a.spot = none ∧ w.cell? a = some v) → Gl P Ψ →
   RelL Ψ [] (outs sp.ps x) args → sp.pre x →
   Calls P f args.toArray w fun e w'=>∃ Ψ',Below w.heap.size w w' ∧ (∀ a u,Ψ a = some u → Ψ' a = some u) ∧
    (∀ a u,Ψ' a = some u → Ψ a = some u ∨ (w.heap.size ≤ a.block ∧ a.spot = none ∧ w'.cell? a = some u)) ∧
    ((∃ v y,e = .returned v ∧ sp.post x = .inl y ∧ RelV Ψ' [] (outV sp.rs y) v) ∨ ∃ b,sp.post x = .inr b ∧ e = .panicked (panE pT b))
def SatQ (P:Program) (f:FuncId):Prop:=∀ (args:Array Value) (w:World),CallsDIn Fence.wide 0 P f args .returning w fun e u' w'=>u' = .returning ∧ w' = w ∧ ∃ v,e = .returned v
def SatO (P:Program) (f:FuncId) (g:OSpec):Prop :=
 ∀ (B:Nat → Prop) (w0:World) (Ψ:Pr) (v:Value) (w:World) (x:dens g.ps) (xs:List g.e.den) (args:List Value),InvH P B w0 Ψ [v] [.grow g.tid g.e xs] w → RelL Ψ [] (outs g.ps x) args → g.pre x xs →
  Calls P f (v :: args).toArray w fun e w'=>∃ u Ψ',e = .returned u ∧ Ext B Ψ Ψ' ∧ InvH P B w0 Ψ' [v] [.grow g.tid g.e (g.aft x xs)] w' ∧ RelV Ψ' [] (outV g.rs (g.post x xs)) u
end Go.AM
