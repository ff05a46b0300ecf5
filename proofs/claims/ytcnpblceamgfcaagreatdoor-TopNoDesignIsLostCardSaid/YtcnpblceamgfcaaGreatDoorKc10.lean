import Derived.Test.YtcnpblceamgfcaaGreatDoorKc1
import Derived.Test.YtcnpblceamgfcaaGreatDoorKc9
set_option linter.unusedSimpArgs false
set_option linter.unusedVariables false
namespace Go.PL
open Go.AM
abbrev Df:=List Int × Int × Int × Int × List (List Int) × Unit
abbrev Sc:=Int × Int × List Df × Unit
def letB (c:Int):Bool:=decide (97 ≤ c) && decide (c ≤ 122)
def digB (c:Int):Bool:=(decide (48 ≤ c) && decide (c ≤ 57)) || decide (c = 95)
def kws:List (List Int):=[[97,108,108],[97,110,100],[104,97,115],[105,110],[110,111,116],[111,114]]
def chB (s:List Int) (i:Nat):Bool:=letB (s.getD i 0) || (!decide (i = 0) && digB (s.getD i 0))
def nameB (s:List Int):Bool:=upto s.length (chB s) && (decide (1 ≤ s.length) && (decide (s.length ≤ 40) && !decide (s ∈ kws)))
def leS (a b:List Int):Bool:=strLt a b || decide (a = b)
def risingB (l:List (List Int)):Bool:=upto (l.length - 1) fun i=>!leS (l.getD (i + 1) []) (l.getD i [])
def jYf (l:List (List Int)):Int :=
 if l.length < 1 ∨ 50 < l.length then 2 else if (!upto l.length fun i=>nameB (l.getD i [])) = true then 5 else if (!risingB l) = true then 6 else 0
def defS (d:Df) (jZh:List Int):Int :=
 if (!nameB d.1) = true then 5 else if leS d.1 jZh = true then 6 else
 if d.2.1 = 1 then (if d.2.2.1 < -1099511627776 ∨ 1099511627776 < d.2.2.2.1 ∨ d.2.2.2.1 < d.2.2.1 then 131 else if 0 < d.2.2.2.2.1.length then 3 else 0) else
 if d.2.1 = 2 then (if d.2.2.1 ≠ 0 ∨ d.2.2.2.1 ≠ 0 then 3 else jYf d.2.2.2.2.1) else 130
def chkL:List Df → List Int → Int
 | [],_=>0
 | d :: l,b=>if defS d b ≠ 0 then defS d b else chkL l d.1
def chkS (s:Sc):Int:=if s.1 < 1 ∨ 32 < s.1 ∨ s.2.1 < 1 ∨ 3 < s.2.1 then 1 else if 16 < s.2.2.1.length then 2 else chkL s.2.2.1 []
def vecB (v:List Int):Bool:=v.all (fun x=>decide (-1000 ≤ x) && decide (x ≤ 1000)) && (decide (1 ≤ v.length) && decide (v.length ≤ 32))
end Go.PL
namespace Go.Proofs.YtcnpblceamgfcaaGreatDoor
open Go.AM Go.PL
def nameSp:FSpec:=⟨[.str],[.bool],fun _=>True,fun s=>nameB s⟩
def hasSp:FSpec:=⟨[SS,.str],[.bool],fun _=>True,fun x=>decide ((x.2:List Int) ∈ (x.1:List (List Int)))⟩
def risingSp:FSpec:=⟨[SS],[.bool],fun _=>True,fun l=>risingB l⟩
def wordsSp:FSpec:=⟨[SS],[I],fun _=>True,fun l=>jYf l⟩
def defSp:FSpec:=⟨[DF,.str],[I],fun _=>True,fun x=>defS x.1 x.2⟩
def chkSp:FSpec:=⟨[SC],[I],fun _=>True,fun s=>chkS s⟩
def vecSp:FSpec:=⟨[L],[.bool],fun _=>True,fun v=>vecB v⟩
def metricSp:FSpec:=⟨[I],[.bool],fun _=>True,fun m=>decide (1 ≤ (m:Int)) && decide ((m:Int) ≤ 3)⟩
def loopsF (f:FuncId) (r:Nat):List LA :=
 if Nat.beq f 135 then [.ksit 0] else
 if Nat.beq f 83 then [.slot 3 I] else
 if Nat.beq f 184 then [.slot 8 I] else
 if Nat.beq f 168 then [.slot 8 I] else
 if Nat.beq f 127 then [.slot 5 I] else
 if Nat.beq f 146 then [.slot 3 I] else
 if Nat.beq f 84 then (bif Nat.beq r 4 then [.slot 3 I] else [.slot 4 I]) else
 if Nat.beq f 23 then [.slot 4 I,.slot 3 .str] else
 if Nat.beq f 57 then [.slot 5 I,.slot 4 .str,.slot 3 I] else
 if Nat.beq f 171 then [.slot 11 I,.slot 1 .bool] else
 if Nat.beq f 163 then [.slot 3 I] else
 []
def datN (t:TypeId):Nat:=bif Nat.beq t 1000000 then 1 else 0
def hintF (f:FuncId):Hint:=if Nat.beq f 999999995 then ⟨fun _=>[],fun _=>.split,fun _=>.split,datN⟩ else
 ⟨loopsF f,fun _=>.split,fun t=>bif Nat.beq f 98 && Nat.beq t 8 then .force else .split,fun r=>bif Nat.beq f 98 then 7 else 0⟩
noncomputable def AF0:Ctx:=mkctx bs [] [] hintF
theorem has_nf (l:List (List Int)) (s:List Int):fnwp AF0 6 167 hasSp (l,s) = (LP z0 fun I μ x=>SD (x < (ln l)) ((IR x l) ∧ SD (s = l.getD x.toNat eI) (decide (z0 ≤ x) =
 decide (s ∈ l)) (isI64 (x + z1) ∧ NX I μ x (x + z1))) (false = decide (s ∈ l))):=by kernel_rfl
theorem rHas_nf (l:List (List Int)) (s:List Int):fnwp AF0 6 127 hasSp (l,s) = (LP z0 fun I μ x=>SD (x < (ln l)) ((IR x l) ∧ SD (l.getD x.toNat eI = s) (true = decide (s
 ∈ l)) (isI64 (x + z1) ∧ NX I μ x (x + z1))) (false = decide (s ∈ l))):=by kernel_rfl
theorem metric_nf (m:Int):fnwp AF0 6 48 metricSp m = (SD (z1 ≤ m) (decide (m ≤ z3) = (decide (z1 ≤ m) && decide (m ≤ z3))) (false = (decide (z1 ≤ m) && decide (m ≤ z3)))) :=
 by kernel_rfl
theorem vec_nf (v:List Int):fnwp AF0 6 156 vecSp v = (LP (z0,true) fun I μ x=>SD (x.1 < (ln v)) ((IR x.1 v) ∧ SP x.2 (SD ((-1000:Int) ≤ v.getD x.1.toNat z0) (isI64 (x.1
 + z1) ∧ NX I μ x (x.1 + z1,decide (v.getD x.1.toNat z0 ≤ (1000:Int)))) (isI64 (x.1 + z1) ∧ NX I μ x (x.1 + z1,false))) (isI64 (x.1 + z1) ∧ NX I μ x (x.1 + z1,false))) (SP
 x.2 (SD (z1 ≤ (ln v)) (decide ((ln v) ≤ z32) = vecB v) (false = vecB v)) (false = vecB v))):=by kernel_rfl
theorem rVec_nf (v:List Int):fnwp AF0 6 163 vecSp v = (LP z0 fun I μ x=>SD (x < (ln v)) ((IR x v) ∧ SD (v.getD x.toNat z0 < (-1000:Int)) (false = vecB v) ((IR x v) ∧ SD
 ((1000:Int) < v.getD x.toNat z0) (false = vecB v) (isI64 (x + z1) ∧ NX I μ x (x + z1)))) (SD (z1 ≤ (ln v)) (decide ((ln v) ≤ z32) = vecB v) (false = vecB v))):=by kernel_rfl
theorem rising_nf (l:List (List Int)):fnwp AF0 6 146 risingSp l = (LP z1 fun I μ x=>SD (x < (ln l)) ((IR x l) ∧ isI64 (x - z1) ∧ (IR (x - z1) l) ∧ SP (strLt (l.getD x.toNat
 eI) (l.getD (x - z1).toNat eI) || decide (l.getD x.toNat eI = l.getD (x - z1).toNat eI)) (false = risingB l) (isI64 (x + z1) ∧ NX I μ x (x + z1))) (true = risingB l)):=by
 kernel_rfl
def tF1:List (FuncId × FSpec):=[(167,hasSp),(127,hasSp)]
noncomputable def AF1:Ctx:=mkctx bs tF1 [] hintF
abbrev nameq0 (x:Int × List Int) (s:List Int) (r:Int) (I:Int × List Int → Prop) (μ:Int × List Int → Nat) (wd:Int):=SD (x.1 = z0) (false = nameB s) (SD (r < z48) (SP
 (!decide (r = (95:Int))) (false = nameB s) (NX I μ x (x.1 + wd,List.drop wd.toNat x.2))) (SD (z57 < r) (SP (!decide (r = (95:Int))) (false = nameB s) (NX I μ x (x.1 + wd,
 List.drop wd.toNat x.2))) (NX I μ x (x.1 + wd,List.drop wd.toNat x.2))))
theorem name_nf (s:List Int):fnwp AF1 6 135 nameSp s = (LP (z0,s) fun I μ x=>(x.2 = eI → SD (z1 ≤ (ln s)) (SD ((ln s) ≤ z40) (True ∧ (!decide (s ∈ [bytesOf { data:=#[(97
 : UInt8),(108:UInt8),(108:UInt8)] },bytesOf { data:=#[(97:UInt8),(110:UInt8),(100:UInt8)] },bytesOf { data:=#[(104:UInt8),(97:UInt8),(115:UInt8)] },
 bytesOf { data:=#[(105:UInt8),(110:UInt8)] },bytesOf { data:=#[(110:UInt8),(111:UInt8),(116:UInt8)] },bytesOf { data:=#[(111:UInt8),(114:UInt8)] }])) =
 nameB s) (false = nameB s)) (false = nameB s)) ∧ ∀ (c:Int) (m:List Int) (r wd:Int),x.2 = c :: m → (c < (128:Int) → r = c ∧ wd = z1) → ((128:Int) ≤ c → (128:Int) ≤ r
 ∧ z1 ≤ wd) → IntKind.i32.has r → wd ≤ (ln x.2) → SD (r < (97:Int)) (nameq0 x s r I μ wd) (SD ((122:Int) < r) (nameq0 x s r I μ wd) (NX I μ x (x.1 + wd,List.drop wd.toNat
 x.2)))):=by kernel_rfl
abbrev rNameq0 (x:Int) (s:List Int) (I:Int → Prop) (μ:Int → Nat):=SD (x = z0) (false = nameB s) (SP (!decide (s.getD x.toNat z0 = (95:Int))) (false = nameB s) (isI64
 (x + z1) ∧ NX I μ x (x + z1)))
theorem rName_nf (s:List Int):fnwp AF1 6 83 nameSp s = (LP z0 fun I μ x=>SD (x < (ln s)) ((IR x s) ∧ SD ((97:Int) ≤ s.getD x.toNat z0) (SD (z48 ≤ s.getD x.toNat z0) (SD
 (s.getD x.toNat z0 ≤ z57) (SP (!decide (s.getD x.toNat z0 ≤ (122:Int))) (SD (x = z0) (false = nameB s) (isI64 (x + z1) ∧ NX I μ x (x + z1))) (isI64 (x + z1) ∧ NX I μ x (x +
 z1))) (SP (!decide (s.getD x.toNat z0 ≤ (122:Int))) (rNameq0 x s I μ) (isI64 (x + z1) ∧ NX I μ x (x + z1)))) (SP (!decide (s.getD x.toNat z0 ≤ (122:Int))) (rNameq0 x s I μ)
 (isI64 (x + z1) ∧ NX I μ x (x + z1)))) (SD (z48 ≤ s.getD x.toNat z0) (SD (s.getD x.toNat z0 ≤ z57) (SD (x = z0) (false = nameB s) (isI64 (x + z1) ∧ NX I μ x (x + z1))) (rNameq0
 x s I μ)) (rNameq0 x s I μ))) (SD (z1 ≤ (ln s)) (SD ((ln s) ≤ z40) (True ∧ (!decide (s ∈ [bytesOf { data:=#[(97:UInt8),(108:UInt8),(108:UInt8)] },bytesOf { data :=
 #[(97:UInt8),(110:UInt8),(100:UInt8)] },bytesOf { data:=#[(104:UInt8),(97:UInt8),(115:UInt8)] },bytesOf { data:=#[(105:UInt8),(110:UInt8)] },bytesOf
 { data:=#[(110:UInt8),(111:UInt8),(116:UInt8)] },bytesOf { data:=#[(111:UInt8),(114:UInt8)] }])) = nameB s) (false = nameB s)) (false = nameB s))):=by
 kernel_rfl
def tF2:List (FuncId × FSpec):=[(135,nameSp),(83,nameSp),(146,risingSp),(48,metricSp)]
noncomputable def AF2:Ctx:=mkctx bs tF2 [] hintF
def cfSp:FSpec:=⟨[SS,.fnc],[.bool],fun x=>(x.2:Nat) = 144,fun x=>!upto (x.1:List (List Int)).length fun i=>nameB ((x.1:List (List Int)).getD i [])⟩
theorem cf_nf (l:List (List Int)):fnwp AF2 6 143 cfSp (l,(144:Nat)) = (LP z0 fun I μ x=>SD (x < (ln l)) ((IR x l) ∧ True ∧ SP (!nameB (l.getD x.toNat eI)) (decide (z0 ≤
 x) = !upto l.length fun (i:Nat)=>nameB (l.getD i eI)) (isI64 (x + z1) ∧ NX I μ x (x + z1))) (false = !upto l.length fun (i:Nat)=>nameB (l.getD i eI))):=by kernel_rfl
theorem words_nf (l:List (List Int)):fnwp AF2 6 84 wordsSp l = (SD ((ln l) < z1) (z2 = jYf l) (SD (z50 < (ln l)) (z2 = jYf l) (LP z0 fun I μ x=>SD (x < (ln l)) ((IR x
 l) ∧ True ∧ SP (!nameB (l.getD x.toNat eI)) (z5 = jYf l) (isI64 (x + z1) ∧ NX I μ x (x + z1))) (LP z1 fun I μ x=>SD (x < (ln l)) ((IR x l) ∧ isI64 (x - z1) ∧ (IR (x - z1)
 l) ∧ SP (strLt (l.getD x.toNat eI) (l.getD (x - z1).toNat eI) || decide (l.getD x.toNat eI = l.getD (x - z1).toNat eI)) (z6 = jYf l) (isI64 (x + z1) ∧ NX I μ x (x + z1))) (z0
 = jYf l))))):=by kernel_rfl
noncomputable def AF3:Ctx:=mkctx bs ((84,wordsSp) :: (143,cfSp) :: tF2) [] hintF
theorem rDef_nf (n:List Int) (k lo hi:Int) (w:List (List Int)) (b:List Int):fnwp AF3 6 49 defSp ((n,k,lo,hi,w,()),b) = (True ∧ SP (!nameB n) (z5 = defS (n,k,lo,
 hi,w,()) b) (SP (strLt n b || decide (n = b)) (z6 = defS (n,k,lo,hi,w,()) b) (SD (k = z1) (SD (lo < (-1099511627776:Int)) ((131:Int) = defS (n,k,lo,hi,w,()) b)
 (SD ((1099511627776:Int) < hi) ((131:Int) = defS (n,k,lo,hi,w,()) b) (SD (hi < lo) ((131:Int) = defS (n,k,lo,hi,w,()) b) (SD (z0 < (ln w)) (z3 = defS (n,k,lo,
 hi,w,()) b) (z0 = defS (n,k,lo,hi,w,()) b))))) (SD (k = z2) (SP (!decide (lo = z0)) (z3 = defS (n,k,lo,hi,w,()) b) (SP (!decide (hi = z0)) (z3 = defS (n,k,lo,hi,
 w,()) b) (True ∧ jYf w = defS (n,k,lo,hi,w,()) b))) ((130:Int) = defS (n,k,lo,hi,w,()) b))))):=by kernel_rfl
abbrev defq0 (k lo:Int) (n:List Int) (hi:Int) (w:List (List Int)) (b:List Int):=SD (k = z1) ((z0 ≤ z0 ∧ z0 < z2) ∧ SD (lo < (-1099511627776:Int)) ((131:Int) =
 defS (n,k,lo,hi,w,()) b) (SD ((1099511627776:Int) < hi) ((131:Int) = defS (n,k,lo,hi,w,()) b) (SD (hi < lo) ((131:Int) = defS (n,k,lo,hi,w,()) b) (isI64 z1
 ∧ (z0 ≤ z1 ∧ z1 < z2) ∧ SD (z0 < (ln w)) (z3 = defS (n,k,lo,hi,w,()) b) (isI64 z2 ∧ z0 = defS (n,k,lo,hi,w,()) b))))) ((z0 ≤ z0 ∧ z0 < z4) ∧ SP (!decide (lo = z0)) (z3
 = defS (n,k,lo,hi,w,()) b) (SP (!decide (hi = z0)) (z3 = defS (n,k,lo,hi,w,()) b) (isI64 z1 ∧ (z0 ≤ z1 ∧ z1 < z4) ∧ SD ((ln w) < z1) (z2 = defS (n,k,lo,hi,w,())
 b) (SD (z50 < (ln w)) (z2 = defS (n,k,lo,hi,w,()) b) (isI64 z2 ∧ (z0 ≤ z2 ∧ z2 < z4) ∧ (144:Nat) = (144:Nat) ∧ SP (!upto w.length fun (i:Nat)=>nameB (w.getD i eI))
 (z5 = defS (n,k,lo,hi,w,()) b) (isI64 z3 ∧ (z0 ≤ z3 ∧ z3 < z4) ∧ True ∧ SP (!risingB w) (z6 = defS (n,k,lo,hi,w,()) b) (isI64 z4 ∧ z0 = defS (n,k,lo,hi,w,())
 b)))))))
theorem def_nf (n:List Int) (k lo hi:Int) (w:List (List Int)) (b:List Int):fnwp AF3 8 101 defSp ((n,k,lo,hi,w,()),b) = ((z0 ≤ z0 ∧ z0 < z3) ∧ True ∧ SP (!nameB n)
 (SP true (z5 = defS (n,k,lo,hi,w,()) b) (defq0 k lo n hi w b)) (isI64 z1 ∧ (z0 ≤ z1 ∧ z1 < z3) ∧ SP (strLt n b || decide (n = b)) (SP true (z6 = defS (n,k,lo,hi,w,())
 b) (defq0 k lo n hi w b)) (isI64 z2 ∧ (z0 ≤ z2 ∧ z2 < z3) ∧ SP (!decide (k = z1)) (SP (!decide (k = z2)) (SP true ((130:Int) = defS (n,k,lo,hi,w,()) b) (defq0 k lo n hi w
 b)) (isI64 z3 ∧ SP false (z0 = defS (n,k,lo,hi,w,()) b) (defq0 k lo n hi w b))) (isI64 z3 ∧ SP false (z0 = defS (n,k,lo,hi,w,()) b) (defq0 k lo n hi w b))))):=by
 kernel_rfl
noncomputable def AF4:Ctx:=mkctx bs ((49,defSp) :: (101,defSp) :: tF2) [] hintF
theorem rChk_nf (d m:Int) (l:List Df):fnwp AF4 6 23 chkSp (d,m,l,()) = (SD (d < z1) (z1 = chkS (d,m,l,())) (SD (z32 < d) (z1 = chkS (d,m,l,())) (True ∧ SP
 (!(decide (z1 ≤ m) && decide (m ≤ z3))) (z1 = chkS (d,m,l,())) (SD (z16 < (ln l)) (z2 = chkS (d,m,l,())) (LP (τ:=Int × List Int) (z0,bytesOf { data:=#[] }) fun I μ x
 => SD (x.1 < (ln l)) ((IR x.1 l) ∧ True ∧ SP (!decide (defS (l.getD x.1.toNat (eI,z0,z0,z0,eL,())) x.2 = z0)) (defS (l.getD x.1.toNat (eI,z0,z0,z0,eL,())) x.2 = chkS
 (d,m,l,())) ((IR x.1 l) ∧ isI64 (x.1 + z1) ∧ NX I μ x (x.1 + z1,(l.getD x.1.toNat (eI,z0,z0,z0,eL,())).1))) (z0 = chkS (d,m,l,()))))))):=by kernel_rfl
abbrev chk_nf_t0:Type:=Int × List Int × Int → Prop
abbrev chk_nf_t1:Type:=Int × List Int × Int → Nat
abbrev chkq1 (x:Int × List Int × Int) (l:List Df) (I:chk_nf_t0) (μ:chk_nf_t1) (d m:Int):=SD (x.2.2 = z0) ((IR x.1 l) ∧ True ∧ (IR x.1 l) ∧ isI64 (x.1 + z1) ∧ NX I μ x
 (x.1 + z1,(l.getD x.1.toNat (eI,z0,z0,z0,eL,())).1,defS (l.getD x.1.toNat (eI,z0,z0,z0,eL,())) x.2.1)) (x.2.2 = chkS (d,m,l,()))
abbrev chkq0 (l:List Df) (d m:Int):=LP (τ:=Int × List Int × Int) (z0,bytesOf { data:=#[] },z1) fun I μ x=>SD (x.1 < (ln l)) (chkq1 x l I μ d m) (x.2.2 = chkS (d,m,
 l,()))
theorem chk_nf (d m:Int) (l:List Df):fnwp AF4 8 57 chkSp (d,m,l,()) = ((z0 ≤ z0 ∧ z0 < z2) ∧ SD (d < z1) (chkq0 l d m) (SD (z32 < d) (chkq0 l d m) (SD (m < z1) (chkq0 l
 d m) (SD (z3 < m) (chkq0 l d m) (isI64 z1 ∧ (z0 ≤ z1 ∧ z1 < z2) ∧ SD (z16 < (ln l)) (LP (τ:=Int × List Int × Int) (z0,bytesOf { data:=#[] },z2) fun I μ x=>SD (x.1 < (ln
 l)) (chkq1 x l I μ d m) (x.2.2 = chkS (d,m,l,()))) (isI64 z2 ∧ LP (τ:=Int × List Int × Int) (z0,bytesOf { data:=#[] },z0) fun I μ x=>SD (x.1 < (ln l)) (chkq1 x l I μ
 d m) (x.2.2 = chkS (d,m,l,())))))))):=by kernel_rfl
end Go.Proofs.YtcnpblceamgfcaaGreatDoor
namespace Go.PL
open Go.AM
theorem kws_eq:[bytesOf { data:=#[(97:UInt8),(108:UInt8),(108:UInt8)] },bytesOf { data:=#[(97:UInt8),(110:UInt8),(100:UInt8)] },bytesOf { data:=#[(104:UInt8),(97:UInt8),(115:UInt8)] },bytesOf { data:=#[(105:UInt8),(110:UInt8)] },bytesOf { data:=#[(110:UInt8),(111:UInt8),(116:UInt8)] },bytesOf { data:=#[(111:UInt8),(114:UInt8)] }] = kws:=by decide +kernel
theorem jX5 {α:Type} {l:List α} {d:α} {i:Nat} (h:i < l.length):l.getD i d ∈ l:=by
 rw [List.getD_eq_getElem?_getD,List.getElem?_eq_getElem h]
 exact List.getElem_mem _
theorem jVj {α:Type} {l:List α} (d:α) {x:α} (h:x ∈ l):∃ i,i < l.length ∧ l.getD i d = x:=by
 obtain ⟨i,hi,e⟩:=List.getElem_of_mem h
 exact ⟨i,hi,by rw [List.getD_eq_getElem?_getD,List.getElem?_eq_getElem hi]; exact e⟩
theorem upto_no {n:Nat} {p:Nat → Bool} {i:Nat} (hi:i < n) (h:p i = false):upto n p = false:=eq_no fun hu=>by
 have:=upto_iff.1 hu i hi
 rw [h] at this; cases this
theorem nameB_no {s:List Int} {i:Nat} (hi:i < s.length) (h:chB s i = false):false = nameB s:=by
 unfold nameB
 rw [upto_no hi h]
 rfl
theorem nameB_end {s:List Int} (h:∀ j,j < s.length → chB s j = true):nameB s = (decide (1 ≤ s.length) && (decide (s.length ≤ 40) && !decide (s ∈ kws))):=by
 unfold nameB
 rw [upto_iff.2 h]
 rfl
theorem drop_head {s:List Int} {n:Nat} {c:Int} {m:List Int} (h:s.drop n = c :: m):n < s.length ∧ s.getD n 0 = c ∧ s.drop (n + 1) = m:=by
 have hlt:n < s.length:=by
  rcases Nat.lt_or_ge n s.length with h' | h'
  ·exact h'
  ·rw [List.drop_of_length_le h'] at h; cases h
 rw [List.drop_eq_getElem_cons hlt] at h
 injection h with h1 h2
 exact ⟨hlt,by rw [List.getD_eq_getElem?_getD,List.getElem?_eq_getElem hlt]; exact h1,h2⟩
theorem chB_iff {s:List Int} {i:Nat}:chB s i = true ↔ (97 ≤ s.getD i 0 ∧ s.getD i 0 ≤ 122) ∨ (i ≠ 0 ∧ ((48 ≤ s.getD i 0 ∧ s.getD i 0 ≤ 57) ∨ s.getD i 0 = 95)):=by
 unfold chB letB digB
 simp only [Bool.or_eq_true,Bool.and_eq_true,decide_eq_true_eq,Bool.not_eq_true',decide_eq_false_iff_not,ne_eq]
theorem chB_no {s:List Int} {i:Nat} (h:¬ ((97 ≤ s.getD i 0 ∧ s.getD i 0 ≤ 122) ∨ (i ≠ 0 ∧ ((48 ≤ s.getD i 0 ∧ s.getD i 0 ≤ 57) ∨ s.getD i 0 = 95)))):chB s i = false:=eq_no fun hc=>h (chB_iff.1 hc)
end Go.PL
namespace Go.Proofs.YtcnpblceamgfcaaGreatDoor
open Go.AM Go.PL
attribute [local irreducible] fnwp fnwpG
theorem kQo:jQa AF0:=jQd trivial trivial
theorem sat_has:Sat bs.P 167 hasSp:=jQe kQo 6 _ hasSp fun (⟨l,s⟩:List (List Int) × List Int) hok _=>by
 rw [has_nf]; delta IR LP NX SD eI ln z0 z1; dsimp only
 have hm:l.length ≤ 9223372036854775807:=hok.1.1
 refine ⟨fun x=>0 ≤ x ∧ x ≤ l.length ∧ ∀ j:Nat,(j:Int) < x → l.getD j [] ≠ s,fun x=>(l.length - x).toNat,⟨by omega,by omega,fun j hj=>by omega⟩,?_⟩
 rintro x ⟨h0,h1,h2⟩
 refine ⟨fun h=>?_,fun h=>?_⟩
 ·have h:=dt h
  refine ⟨⟨h0,h⟩,fun he=>?_,fun he=>⟨jZv h0 h hm,⟨by omega,by omega,jK7 h0 h2 fun e=>df he e.symm⟩,by dsimp only; omega⟩⟩
  rw [decide_eq_true h0,decide_eq_true]
  rw [dt he]
  exact jX5 (by omega)
 ·have h:=df h
  rw [decide_eq_false]
  intro hm'
  obtain ⟨i,hi,e⟩:=jVj [] hm'
  exact h2 i (by omega) e
theorem sat_rHas:Sat bs.P 127 hasSp:=jQe kQo 6 _ hasSp fun (⟨l,s⟩:List (List Int) × List Int) hok _=>by
 rw [rHas_nf]; delta IR LP NX SD eI ln z0 z1; dsimp only
 have hm:l.length ≤ 9223372036854775807:=hok.1.1
 refine ⟨fun x=>0 ≤ x ∧ x ≤ l.length ∧ ∀ j:Nat,(j:Int) < x → l.getD j [] ≠ s,fun x=>(l.length - x).toNat,⟨by omega,by omega,fun j hj=>by omega⟩,?_⟩
 rintro x ⟨h0,h1,h2⟩
 refine ⟨fun h=>?_,fun h=>?_⟩
 ·have h:=dt h
  refine ⟨⟨h0,h⟩,fun he=>?_,fun he=>⟨jZv h0 h hm,⟨by omega,by omega,jK7 h0 h2 (df he)⟩,by dsimp only; omega⟩⟩
  rw [decide_eq_true]
  rw [← dt he]
  exact jX5 (by omega)
 ·have h:=df h
  rw [decide_eq_false]
  intro hm'
  obtain ⟨i,hi,e⟩:=jVj [] hm'
  exact h2 i (by omega) e
theorem sat_metric:Sat bs.P 48 metricSp:=jQe kQo 6 _ metricSp fun (m:Int) hok _=>by
 rw [metric_nf]; delta SD z1 z3
 refine ⟨fun h=>?_,fun h=>?_⟩
 ·rw [h]; rfl
 ·rw [h]; rfl
theorem sat_vec:Sat bs.P 156 vecSp:=jQe kQo 6 _ vecSp fun (v:List Int) hok _=>by
 rw [vec_nf]; delta IR LP NX SD SP ln z0 z1 z32; dsimp only
 have hm:v.length ≤ 9223372036854775807:=hok.1
 have hall:∀ b:Bool,(b = true ↔ ∀ j:Nat,(j:Int) < v.length → -1000 ≤ v.getD j 0 ∧ v.getD j 0 ≤ 1000) → vecB v = (b && (decide (1 ≤ v.length) && decide (v.length ≤ 32))):=fun b hb=>by
  unfold vecB
  congr 1
  apply bool_is
  rw [hb,List.all_eq_true]
  constructor
  ·intro h j hj
   have:=h _ (jX5 (d:=0) (show j < v.length by omega))
   simpa using this
  ·intro h x hx
   obtain ⟨j,hj,e⟩:=jVj 0 hx
   have:=h j (by omega)
   rw [e] at this
   simpa using this
 refine ⟨fun x=>0 ≤ x.1 ∧ x.1 ≤ v.length ∧ (x.2 = true ↔ ∀ j:Nat,(j:Int) < x.1 → -1000 ≤ v.getD j 0 ∧ v.getD j 0 ≤ 1000),fun x=>(v.length - x.1).toNat,⟨by omega,by omega,by simp; omega⟩,?_⟩
 rintro ⟨x,b⟩ ⟨h0,h1,h2⟩
 simp only at h0 h1 h2 ⊢
 have step:∀ b':Bool,(b' = true ↔ b = true ∧ (-1000 ≤ v.getD x.toNat 0 ∧ v.getD x.toNat 0 ≤ 1000)) → (b' = true ↔ ∀ j:Nat,(j:Int) < x + 1 → -1000 ≤ v.getD j 0 ∧ v.getD j 0 ≤ 1000):=fun b' hb=>by
  rw [hb,h2]
  constructor
  ·rintro ⟨g1,g2⟩
   exact jK7 h0 g1 g2
  ·intro g
   exact ⟨fun j hj=>g j (by omega),g x.toNat (by omega)⟩
 refine ⟨fun h=>?_,fun h=>?_⟩
 ·have h:=dt h
  have hi:isI64 (x + 1):=jZv h0 h hm
  refine ⟨⟨h0,h⟩,fun hb=>⟨fun hc=>⟨hi,⟨by omega,by omega,step _ ?_⟩,by omega⟩,fun hc=>⟨hi,⟨by omega,by omega,step _ ?_⟩,by omega⟩⟩,fun hb=>⟨hi,⟨by omega,by omega,step _ ?_⟩,by omega⟩⟩
  ·have:=dt hc
   rw [decide_eq_true_eq]
   exact ⟨fun g=>⟨hb,this,g⟩,fun g=>g.2.2⟩
  ·have:=df hc
   exact ⟨fun g=>(by cases g),fun g=>absurd g.2.1 this⟩
  ·exact ⟨fun g=>(by cases g),fun g=>(by rw [hb] at g; cases g.1)⟩
 ·have h:=df h
  have hx:x = v.length:=by omega
  subst hx
  rw [hall b h2]
  refine ⟨fun hb=>⟨fun hc=>?_,fun hc=>?_⟩,fun hb=>?_⟩
  ·have hc:=dt hc
   rw [hb,decide_eq_true (show 1 ≤ v.length by omega)]
   simp only [Bool.true_and]
   exact dec_is (by simp; omega)
  ·have hc:=df hc
   rw [decide_eq_false (show ¬ 1 ≤ v.length by omega)]
   simp
  ·rw [hb]; rfl
theorem sat_rVec:Sat bs.P 163 vecSp:=jQe kQo 6 _ vecSp fun (v:List Int) hok _=>by
 rw [rVec_nf]; delta IR LP NX SD ln z0 z1 z32; dsimp only
 have hm:v.length ≤ 9223372036854775807:=hok.1
 have hno:∀ j:Nat,j < v.length → ¬ (-1000 ≤ v.getD j 0 ∧ v.getD j 0 ≤ 1000) → false = vecB v:=fun j hj hn=>is_no fun h=>by
  unfold vecB at h
  rw [Bool.and_eq_true,List.all_eq_true] at h
  have:=h.1 _ (jX5 (d:=0) hj)
  exact hn (by simpa using this)
 have hyes:(∀ j:Nat,(j:Int) < v.length → -1000 ≤ v.getD j 0 ∧ v.getD j 0 ≤ 1000) → vecB v = (decide (1 ≤ v.length) && decide (v.length ≤ 32)):=fun hj=>by
  unfold vecB
  rw [List.all_eq_true.2 fun x hx=>?_]
  ·rfl
  ·obtain ⟨j,hj',e⟩:=jVj 0 hx
   have:=hj j (by omega)
   rw [e] at this
   simpa using this
 refine ⟨fun x=>0 ≤ x ∧ x ≤ v.length ∧ ∀ j:Nat,(j:Int) < x → -1000 ≤ v.getD j 0 ∧ v.getD j 0 ≤ 1000,fun x=>(v.length - x).toNat,⟨by omega,by omega,fun j hj=>by omega⟩,?_⟩
 rintro x ⟨h0,h1,h2⟩
 refine ⟨fun h=>?_,fun h=>?_⟩
 ·have h:=dt h
  refine ⟨⟨h0,h⟩,fun hc=>hno x.toNat (by omega) (by have:=dt hc; omega),fun hc=>⟨⟨h0,h⟩,fun hd=>hno x.toNat (by omega) (by have:=dt hd; omega),fun hd=>⟨jZv h0 h hm,⟨by omega,by omega,jK7 h0 h2 ?_⟩,by dsimp only; omega⟩⟩⟩
  have:=df hc
  have:=df hd
  omega
 ·have h:=df h
  have hx:x = v.length:=by omega
  subst hx
  rw [hyes h2]
  refine ⟨fun hc=>?_,fun hc=>?_⟩
  ·have hc:=dt hc
   rw [decide_eq_true (show 1 ≤ v.length by omega)]
   exact dec_is (by simp; omega)
  ·have hc:=df hc
   rw [decide_eq_false (show ¬ 1 ≤ v.length by omega)]
   rfl
theorem sat_rising:Sat bs.P 146 risingSp:=jQe kQo 6 _ risingSp fun (l:List (List Int)) hok _=>by
 rw [rising_nf]; delta IR LP NX SD SP eI ln z1; dsimp only
 have hm:l.length ≤ 9223372036854775807:=hok.1
 refine ⟨fun x=>1 ≤ x ∧ ∀ j:Nat,(j:Int) + 1 < x → leS (l.getD (j + 1) []) (l.getD j []) = false,fun x=>(l.length - x).toNat,⟨by omega,fun j hj=>by omega⟩,?_⟩
 rintro x ⟨h0,h2⟩
 have e1:x.toNat = (x - 1).toNat + 1:=by omega
 refine ⟨fun h=>?_,fun h=>?_⟩
 ·have h:=dt h
  refine ⟨⟨by omega,h⟩,by unfold isI64; omega,⟨by omega,by omega⟩,fun hc=>?_,fun hc=>⟨by unfold isI64; omega,⟨by omega,fun j hj=>?_⟩,by dsimp only; omega⟩⟩
  ·refine (upto_no (i:=(x - 1).toNat) (by omega) ?_).symm
   rw [← e1]
   have:leS (l.getD x.toNat []) (l.getD (x - 1).toNat []) = true:=hc
   rw [this]
   rfl
  ·by_cases hj':(j:Int) + 1 < x
   ·exact h2 j hj'
   ·have hjx:j = (x - 1).toNat:=by omega
    subst hjx
    rw [← e1]
    exact hc
 ·have h:=df h
  refine (upto_iff.2 fun j hj=>?_).symm
  rw [h2 j (by omega)]
  rfl
theorem AF1_sound:jQa AF1:=jQd ⟨sat_has,sat_rHas,trivial⟩ trivial
theorem sat_rName:Sat bs.P 83 nameSp:=jQe AF1_sound 6 _ nameSp fun (s:List Int) hok _=>by
 rw [rName_nf]; delta rNameq0 IR LP NX SD SP ln z0 z1 z40 z48 z57; dsimp only; rw [kws_eq]
 have hm:s.length ≤ 9223372036854775807:=hok.2
 refine ⟨fun x=>0 ≤ x ∧ x ≤ s.length ∧ ∀ j:Nat,(j:Int) < x → chB s j = true,fun x=>(s.length - x).toNat,⟨by omega,by omega,fun j hj=>by omega⟩,?_⟩
 rintro x ⟨h0,h1,h2⟩
 refine ⟨fun h=>?_,fun h=>?_⟩
 ·have h:=dt h
  have hi:isI64 (x + 1):=jZv h0 h hm
  have go:chB s x.toNat = true → isI64 (x + 1) ∧ (0 ≤ x + 1 ∧ x + 1 ≤ s.length ∧ ∀ j:Nat,(j:Int) < x + 1 → chB s j = true) ∧ ((s.length:Int) - (x + 1)).toNat < ((s.length:Int) - x).toNat:=fun hc=>⟨hi,⟨by omega,by omega,jK7 h0 h2 hc⟩,by omega⟩
  have no:chB s x.toNat = false → false = nameB s:=fun hc=>nameB_no (by omega) hc
  have hx0:x = 0 ↔ x.toNat = 0:=by omega
  refine ⟨⟨h0,h⟩,?_⟩
  repeat' apply And.intro
  all_goals (repeat' (first | (intro hh; first | (replace hh:=dt hh) | (replace hh:=df hh) | (replace hh:=ndt hh) | (replace hh:=ndf hh)) | apply And.intro))
  all_goals first
   | exact no (chB_no (by omega))
   | exact hi
   | omega
   | (dsimp only; omega)
   | exact jK7 h0 h2 (chB_iff.2 (by omega))
 ·have h:=df h
  rw [nameB_end fun j hj=>h2 j (by omega)]
  refine ⟨fun hc=>⟨fun hd=>⟨trivial,?_⟩,fun hd=>?_⟩,fun hc=>?_⟩
  ·have hc:=dt hc
   have hd:=dt hd
   rw [decide_eq_true (show 1 ≤ s.length by omega),decide_eq_true (show s.length ≤ 40 by omega)]
   rfl
  ·have hd:=df hd
   rw [decide_eq_false (show ¬ s.length ≤ 40 by omega)]
   simp
  ·have hc:=df hc
   rw [decide_eq_false (show ¬ 1 ≤ s.length by omega)]
   rfl
theorem sat_name:Sat bs.P 135 nameSp:=jQe AF1_sound 6 _ nameSp fun (s:List Int) hok _=>by
 rw [name_nf]; delta nameq0 LP NX SD SP eI ln z0 z1 z40 z48 z57; dsimp only; rw [kws_eq]
 have hm:s.length ≤ 9223372036854775807:=hok.2
 have hb:∀ c ∈ s,0 ≤ c ∧ c ≤ 255:=hok.1
 refine ⟨fun x=>∃ n:Nat,n ≤ s.length ∧ x.1 = (n:Int) ∧ x.2 = s.drop n ∧ ∀ j:Nat,j < n → chB s j = true,fun x=>x.2.length,⟨0,by omega,rfl,rfl,fun j hj=>by omega⟩,?_⟩
 rintro ⟨p,rest⟩ ⟨n,h1,hp,hr,h2⟩
 simp only at hp hr ⊢
 subst hp hr
 refine ⟨fun h=>?_,fun c m r wd hcm hlt hge hr32 hwd=>?_⟩
 ·have hn:n = s.length:=by
   have:=congrArg List.length h
   simp at this
   omega
  subst hn
  rw [nameB_end h2]
  refine ⟨fun hc=>⟨fun hd=>⟨trivial,?_⟩,fun hd=>?_⟩,fun hc=>?_⟩
  ·have hc:=dt hc
   have hd:=dt hd
   rw [decide_eq_true (show 1 ≤ s.length by omega),decide_eq_true (show s.length ≤ 40 by omega)]
   rfl
  ·have hd:=df hd
   rw [decide_eq_false (show ¬ s.length ≤ 40 by omega)]
   simp
  ·have hc:=df hc
   rw [decide_eq_false (show ¬ 1 ≤ s.length by omega)]
   rfl
 ·obtain ⟨g1,g2,g3⟩:=drop_head hcm
  have no:chB s n = false → false = nameB s:=fun hc=>nameB_no g1 hc
  have hn0:(n:Int) = 0 ↔ n = 0:=by omega
  rcases Int.lt_or_le c 128 with hc | hc
  ·obtain ⟨rfl,rfl⟩:=hlt hc
   have e1:(1:Int).toNat = 1:=rfl
   have go1:chB s n = true → ∃ n':Nat,n' ≤ s.length ∧ (n:Int) + 1 = (n':Int) ∧ (s.drop n).drop (1:Int).toNat = s.drop n' ∧ ∀ j:Nat,j < n' → chB s j = true:=fun hc=>⟨n + 1,by omega,by omega,by rw [e1,List.drop_drop],fun j hj=>by
    by_cases hj':j < n
    ·exact h2 j hj'
    ·rw [show j = n by omega]; exact hc⟩
   have go2:((s.drop n).drop (1:Int).toNat).length < (s.drop n).length:=by
    rw [e1]; simp only [List.length_drop]; omega
   repeat' apply And.intro
   all_goals (repeat' (first | (intro hh; first | (replace hh:=dt hh) | (replace hh:=df hh) | (replace hh:=ndt hh) | (replace hh:=ndf hh)) | apply And.intro))
   all_goals first
    | exact no (chB_no (by omega))
    | exact go1 (chB_iff.2 (by omega))
    | exact go2
  ·obtain ⟨q1,q2⟩:=hge hc
   repeat' apply And.intro
   all_goals (repeat' (first | (intro hh; first | (replace hh:=dt hh) | (replace hh:=df hh) | (replace hh:=ndt hh) | (replace hh:=ndf hh)) | apply And.intro))
   all_goals first
    | exact no (chB_no (by omega))
    | (exfalso; omega)
end Go.Proofs.YtcnpblceamgfcaaGreatDoor
namespace Go.PL
open Go.AM
theorem chkL_drop {l:List Df} {x:Int} (h0:0 ≤ x) (h:x < l.length) (b:List Int):chkL (l.drop x.toNat) b = if defS (l.getD x.toNat ([],0,0,0,[],())) b ≠ 0 then defS (l.getD x.toNat ([],0,0,0,[],())) b else chkL (l.drop (x + 1).toNat) (l.getD x.toNat ([],0,0,0,[],())).1:=by
 have hlt:x.toNat < l.length:=by omega
 rw [List.drop_eq_getElem_cons hlt,show (x + 1).toNat = x.toNat + 1 by omega,List.getD_eq_getElem?_getD,List.getElem?_eq_getElem hlt]
 rfl
theorem chkL_end {l:List Df} {x:Int} (h:¬ x < l.length) (b:List Int):chkL (l.drop x.toNat) b = 0:=by
 rw [List.drop_of_length_le (by omega)]
 rfl
theorem chkS_err {d m:Int} {l:List Df} (h:d < 1 ∨ 32 < d ∨ m < 1 ∨ 3 < m):chkS (d,m,l,()) = 1:=by
 unfold chkS
 rw [if_pos h]
theorem chkS_lim {d m:Int} {l:List Df} (h:¬ (d < 1 ∨ 32 < d ∨ m < 1 ∨ 3 < m)) (hl:16 < l.length):chkS (d,m,l,()) = 2:=by
 unfold chkS
 rw [if_neg h,if_pos hl]
theorem chkS_run {d m:Int} {l:List Df} (h:¬ (d < 1 ∨ 32 < d ∨ m < 1 ∨ 3 < m)) (hl:¬ 16 < l.length):chkS (d,m,l,()) = chkL l []:=by
 unfold chkS
 rw [if_neg h,if_neg hl]
theorem chk_loop (l:List Df) (e0 T:Int) (hl:l.length ≤ 9223372036854775807) (hT:T = if e0 = 0 then chkL l [] else e0) :
 ∃ (I:Int × List Int × Int → Prop) (μ:Int × List Int × Int → Nat),I (0,bytesOf { data:=#[] },e0) ∧ ∀ (x:Int × List Int × Int),I x →
  (decide (x.1 < (l.length:Int)) = true →
    (decide (x.2.2 = 0) = true → (0 ≤ x.1 ∧ x.1 < (l.length:Int)) ∧ True ∧ (0 ≤ x.1 ∧ x.1 < (l.length:Int)) ∧ isI64 (x.1 + 1) ∧
      I (x.1 + 1,(l.getD x.1.toNat ([],0,0,0,[],())).1,defS (l.getD x.1.toNat ([],0,0,0,[],())) x.2.1) ∧
      μ (x.1 + 1,(l.getD x.1.toNat ([],0,0,0,[],())).1,defS (l.getD x.1.toNat ([],0,0,0,[],())) x.2.1) < μ x) ∧
    (decide (x.2.2 = 0) = false → x.2.2 = T)) ∧
  (decide (x.1 < (l.length:Int)) = false → x.2.2 = T):=by
 refine ⟨fun x=>0 ≤ x.1 ∧ x.1 ≤ l.length ∧ (if x.2.2 = 0 then chkL (l.drop x.1.toNat) x.2.1 else x.2.2) = T,fun x=>(l.length - x.1).toNat,⟨by omega,by omega,hT.symm⟩,?_⟩
 rintro ⟨x,b,e⟩ ⟨h0,h1,h2⟩
 dsimp only at h0 h1 h2 ⊢
 refine ⟨fun h=>⟨fun he=>?_,fun he=>?_⟩,fun h=>?_⟩
 ·have h:=dt h
  have he:=dt he
  rw [if_pos he,chkL_drop h0 h] at h2
  refine ⟨⟨h0,h⟩,trivial,⟨h0,h⟩,jZv h0 h hl,⟨by omega,by omega,?_⟩,by omega⟩
  rw [← h2]
  by_cases hd:defS (l.getD x.toNat ([],0,0,0,[],())) b = 0
  ·rw [if_pos hd,if_neg (by rw [hd]; decide)]
  ·rw [if_neg hd,if_pos hd]
 ·rw [if_neg (df he)] at h2
  exact h2
 ·have h:=df h
  by_cases he:e = 0
  ·rw [if_pos he,chkL_end h] at h2
   rw [he,h2]
  ·rw [if_neg he] at h2
   exact h2
end Go.PL
namespace Go.Proofs.YtcnpblceamgfcaaGreatDoor
open Go.AM Go.PL
attribute [local irreducible] fnwp fnwpG
theorem AF2_sound:jQa AF2:=jQd ⟨sat_name,sat_rName,sat_rising,sat_metric,trivial⟩ trivial
theorem sat_cf:Sat bs.P 143 cfSp:=jQe AF2_sound 6 _ cfSp fun (⟨l,f⟩:List (List Int) × Nat) hok hf=>by
 have hf':f = 144:=hf
 subst hf'
 rw [cf_nf]; delta IR LP NX SD SP eI ln z0 z1; dsimp only
 have hm:l.length ≤ 9223372036854775807:=hok.1.1
 refine ⟨fun x=>0 ≤ x ∧ x ≤ l.length ∧ ∀ j:Nat,(j:Int) < x → nameB (l.getD j []) = true,fun x=>(l.length - x).toNat,⟨by omega,by omega,fun j hj=>by omega⟩,?_⟩
 rintro x ⟨h0,h1,h2⟩
 refine ⟨fun h=>?_,fun h=>?_⟩
 ·have h:=dt h
  refine ⟨⟨h0,h⟩,trivial,fun he=>?_,fun he=>⟨jZv h0 h hm,⟨by omega,by omega,jK7 h0 h2 (by simpa using he)⟩,by dsimp only; omega⟩⟩
  rw [upto_no (i:=x.toNat) (by omega) (by simpa using he),decide_eq_true h0]
  rfl
 ·have h:=df h
  rw [upto_iff.2 fun j hj=>h2 j (by omega)]
  rfl
theorem sat_words:Sat bs.P 84 wordsSp:=jQe AF2_sound 6 _ wordsSp fun (l:List (List Int)) hok _=>by
 rw [words_nf]; delta IR LP NX SD SP eI ln z0 z1 z2 z5 z50 z6; dsimp only
 have hm:l.length ≤ 9223372036854775807:=hok.1
 refine ⟨fun h=>?_,fun h=>⟨fun g=>?_,fun g=>?_⟩⟩
 ·have h:=dt h
  unfold jYf
  rw [if_pos (by omega)]
 ·have g:=dt g
  unfold jYf
  rw [if_pos (by omega)]
 have h:=df h
 have g:=df g
 have hn:¬ (l.length < 1 ∨ 50 < l.length):=by omega
 refine ⟨fun x=>0 ≤ x ∧ x ≤ l.length ∧ ∀ j:Nat,(j:Int) < x → nameB (l.getD j []) = true,fun x=>(l.length - x).toNat,⟨by omega,by omega,fun j hj=>by omega⟩,?_⟩
 rintro x ⟨h0,h1,h2⟩
 refine ⟨fun h=>?_,fun h=>?_⟩
 ·have h:=dt h
  refine ⟨⟨h0,h⟩,trivial,fun he=>?_,fun he=>⟨jZv h0 h hm,⟨by omega,by omega,jK7 h0 h2 (by simpa using he)⟩,by dsimp only; omega⟩⟩
  unfold jYf
  rw [if_neg hn,upto_no (i:=x.toNat) (by omega) (by simpa using he)]
  rfl
 ·have h:=df h
  have hu:(upto l.length fun i=>nameB (l.getD i [])) = true:=upto_iff.2 fun j hj=>h2 j (by omega)
  refine ⟨fun x=>1 ≤ x ∧ ∀ j:Nat,(j:Int) + 1 < x → leS (l.getD (j + 1) []) (l.getD j []) = false,fun x=>(l.length - x).toNat,⟨by omega,fun j hj=>by omega⟩,?_⟩
  rintro x ⟨h0,h2⟩
  have e1:x.toNat = (x - 1).toNat + 1:=by omega
  refine ⟨fun h=>?_,fun h=>?_⟩
  ·have h:=dt h
   refine ⟨⟨by omega,h⟩,by unfold isI64; omega,⟨by omega,by omega⟩,fun hc=>?_,fun hc=>⟨by unfold isI64; omega,⟨by omega,fun j hj=>?_⟩,by dsimp only; omega⟩⟩
   ·unfold jYf risingB
    rw [if_neg hn,hu,upto_no (i:=(x - 1).toNat) (by omega)]
    ·rfl
    ·rw [← e1]
     have:leS (l.getD x.toNat []) (l.getD (x - 1).toNat []) = true:=hc
     rw [this]
     rfl
   ·by_cases hj':(j:Int) + 1 < x
    ·exact h2 j hj'
    ·have hjx:j = (x - 1).toNat:=by omega
     subst hjx
     rw [← e1]
     exact hc
  ·have h:=df h
   have hr:risingB l = true:=upto_iff.2 fun j hj=>by
    rw [h2 j (by omega)]
    rfl
   unfold jYf
   rw [if_neg hn,hu,hr]
   rfl
theorem AF3_sound:jQa AF3:=jQd ⟨sat_words,sat_cf,sat_name,sat_rName,sat_rising,sat_metric,trivial⟩ trivial
theorem sat_rDef:Sat bs.P 49 defSp:=jQe AF3_sound 6 _ defSp fun (⟨⟨n,k,lo,hi,w,⟨⟩⟩,b⟩:Df × List Int) hok _=>by
 rw [rDef_nf]; delta SD SP ln z0 z1 z2 z3 z5 z6
 simp only [defS,leS]
 refine ⟨trivial,?_⟩
 repeat' (first | apply And.intro | (intro hh; first | (replace hh:=dt hh) | (replace hh:=df hh) | (replace hh:=ndt hh) | (replace hh:=ndf hh)) | intro hh)
 all_goals simp_all
 all_goals (split <;> first | omega | rfl | (split <;> first | omega | rfl))
theorem sat_def:Sat bs.P 101 defSp:=jQe AF3_sound 8 _ defSp fun (⟨⟨n,k,lo,hi,w,⟨⟩⟩,b⟩:Df × List Int) hok _=>by
 rw [def_nf]; delta defq0 SD SP eI ln z0 z1 z2 z3 z4 z5 z50 z6
 simp only [defS,leS,jYf]
 repeat' (first | apply And.intro | (intro hh; first | (replace hh:=dt hh) | (replace hh:=df hh) | (replace hh:=ndt hh) | (replace hh:=ndf hh)) | intro hh)
 all_goals simp_all
 all_goals (repeat' split) <;> first | omega | rfl | (intro hw; have:=List.length_pos_iff.2 hw; omega) | exact ⟨List.length_pos_iff.1 (by omega),by omega⟩
theorem AF4_sound:jQa AF4:=jQd ⟨sat_rDef,sat_def,sat_name,sat_rName,sat_rising,sat_metric,trivial⟩ trivial
theorem sat_rChk:Sat bs.P 23 chkSp:=jQe AF4_sound 6 _ chkSp fun (⟨d,m,l,⟨⟩⟩:Int × Int × List Df × Unit) hok _=>by
 rw [rChk_nf]; delta IR LP NX SD SP eI eL ln z0 z1 z16 z2 z3 z32; dsimp only
 have hm:l.length ≤ 9223372036854775807:=hok.2.2.1.1
 refine ⟨fun h=>?_,fun h1=>⟨fun h=>?_,fun h2=>⟨trivial,fun h=>?_,fun h3=>⟨fun h=>?_,fun h4=>?_⟩⟩⟩⟩
 ·rw [chkS_err (by have:=dt h; omega)]
 ·rw [chkS_err (by have:=dt h; omega)]
 ·rw [chkS_err (by simp at h; omega)]
 ·rw [chkS_lim (by have:=df h1; have:=df h2; simp at h3; omega) (by have:=dt h; omega)]
 have hr:chkS (d,m,l,()) = chkL l []:=chkS_run (by have:=df h1; have:=df h2; simp at h3; omega) (by have:=df h4; omega)
 rw [hr]
 refine ⟨fun x=>0 ≤ x.1 ∧ x.1 ≤ l.length ∧ chkL (l.drop x.1.toNat) x.2 = chkL l [],fun x=>(l.length - x.1).toNat,⟨by omega,by omega,rfl⟩,?_⟩
 rintro ⟨x,b⟩ ⟨h0,h1,h2⟩
 dsimp only at h0 h1 h2 ⊢
 refine ⟨fun h=>?_,fun h=>?_⟩
 ·have h:=dt h
  rw [chkL_drop h0 h] at h2
  refine ⟨⟨h0,h⟩,trivial,fun hd=>?_,fun hd=>⟨⟨h0,h⟩,jZv h0 h hm,⟨by omega,by omega,?_⟩,by omega⟩⟩
  ·rw [if_pos (ndt hd)] at h2
   exact h2
  ·rw [if_neg (fun g=>g (ndf hd))] at h2
   exact h2
 ·have h:=df h
  rw [chkL_end h] at h2
  exact h2
theorem sat_chk:Sat bs.P 57 chkSp:=jQe AF4_sound 8 _ chkSp fun (⟨d,m,l,⟨⟩⟩:Int × Int × List Df × Unit) hok _=>by
 rw [chk_nf]; delta chk_nf_t0 chk_nf_t1 chkq1 chkq0 IR LP NX SD eI eL ln z0 z1 z16 z2 z3 z32; dsimp only
 have hm:l.length ≤ 9223372036854775807:=hok.2.2.1.1
 repeat' (first | refine chk_loop l _ _ hm ?_ | apply And.intro | (intro hh; first | (replace hh:=dt hh) | (replace hh:=df hh) | (replace hh:=ndt hh) | (replace hh:=ndf hh)) | intro hh)
 all_goals first
  | omega
  | (unfold isI64; omega)
  | (rw [chkS_err (by omega)]; rfl)
  | (rw [chkS_lim (by omega) (by omega)]; rfl)
  | (rw [chkS_run (by omega) (by omega)]; rfl)
  | trivial
end Go.Proofs.YtcnpblceamgfcaaGreatDoor
namespace Go.PL
open Go.AM
def fndN:List Df → List Int → Int → Int
 | [],_,_=>-1
 | d :: l,n,k=>if d.1 = n then k else fndN l n (k + 1)
def valS (d:Df) (a:At):Int :=
 if a.2.1 ≠ d.2.1 then 130 else if a.2.1 = 1 then (if a.2.2.2.1 ≠ [] then 3 else if a.2.2.1 < d.2.2.1 ∨ d.2.2.2.1 < a.2.2.1 then 131 else 0) else
 if a.2.2.1 ≠ 0 then 3 else if a.2.2.2.1 ∉ d.2.2.2.2.1 then 131 else 0
def fitsL (ds:List Df):List At → List Int → Int
 | [],_=>0
 | a :: l,b=>if fndN ds a.1 0 < 0 then 5 else if leS a.1 b = true then 6 else
  if valS (ds.getD (fndN ds a.1 0).toNat ([],0,0,0,[],())) a ≠ 0 then valS (ds.getD (fndN ds a.1 0).toNat ([],0,0,0,[],())) a else fitsL ds l a.1
def fitsS (s:Sc) (l:List At):Int:=fitsL s.2.2.1 l []
def entS (s:Sc) (e:En):Int :=
 if e.1 < 1 ∨ 1073741824 < e.1 ∨ e.2.2.1 < 1 ∨ 1073741824 < e.2.2.1 ∨ e.2.1 < 1 ∨ 1073741824 < e.2.1 then 1 else
 if e.2.2.2.1 < 0 ∨ e.2.2.2.2.1 < e.2.2.2.1 ∨ e.2.2.2.2.2.1 ≤ e.2.2.2.2.1 ∨ 1048577 < e.2.2.2.2.2.1 ∨ 1048576 < e.2.2.2.2.1 ∨ e.2.2.2.2.2.2.1 < 1 ∨ 1073741824 < e.2.2.2.2.2.2.1 then 9 else
 if (e.2.2.2.2.2.2.2.1.length:Int) ≠ s.1 ∨ vecB e.2.2.2.2.2.2.2.1 = false then 40 else fitsS s e.2.2.2.2.2.2.2.2.1
def jQ6 (s:Sc):Prop:=∀ d ∈ s.2.2.1,d.1 ≠ []
end Go.PL
namespace Go.Proofs.YtcnpblceamgfcaaGreatDoor
open Go.AM Go.PL
def findSp:FSpec:=⟨[SC,.str],[I],fun _=>True,fun x=>fndN (x.1:Sc).2.2.1 x.2 0⟩
def valSp:FSpec:=⟨[DF,AT],[I],fun _=>True,fun x=>valS x.1 x.2⟩
def fitsSp:FSpec:=⟨[SC,AL],[I],fun x=>jQ6 x.1,fun x=>fitsS x.1 x.2⟩
def entSp:FSpec:=⟨[SC,EN],[I],fun x=>jQ6 x.1,fun x=>entS x.1 x.2⟩
def loopsP (f:FuncId) (r:Nat):List LA :=
 if Nat.beq f 157 then [.slot 14 I,.cell 0 0 .str] else
 if Nat.beq f 173 then [.slot 8 I,.cell 0 0 .str,.cell 1 0 .str,.cell 1 1 I,.cell 1 2 I,.cell 1 3 .str] else
 if Nat.beq f 181 then [.slot 5 I] else
 if Nat.beq f 164 then [.slot 5 I] else
 []
def hintP (f:FuncId):Hint:=if Nat.beq f 999999995 then ⟨fun _=>[],fun _=>.split,fun _=>.split,datN⟩ else
 ⟨loopsP f,fun r=>bif Nat.beq f 157 && Nat.beq r 8 then .all else .split,fun t=>bif Nat.beq f 98 && Nat.beq t 8 then .force else .split,fun r=>bif Nat.beq f 98 then 7 else bif Nat.beq f 157 && Nat.ble 6 r then 701 else 0⟩
noncomputable def AP0:Ctx:=mkctx bs [(167,hasSp),(127,hasSp),(156,vecSp),(163,vecSp)] [] hintP
theorem find_nf (d m:Int) (l:List Df) (s:List Int):fnwp AP0 6 181 findSp ((d,m,l,()),s) = (LP z0 fun I μ x=>SD (x < (ln l)) ((IR x l) ∧ SD ((l.getD x.toNat (eI,z0,
 z0,z0,eL,())).1 = s) (x = fndN l s z0) (isI64 (x + z1) ∧ NX I μ x (x + z1))) ((-1:Int) = fndN l s z0)):=by kernel_rfl
theorem val_nf (n:List Int) (k lo hi:Int) (w:List (List Int)) (an:List Int) (ak av:Int) (sv:List Int):fnwp AP0 6 182 valSp ((n,k,lo,hi,w,()),(an,ak,av,sv,
 ())) = (SP (!decide (ak = k)) ((130:Int) = valS (n,k,lo,hi,w,()) (an,ak,av,sv,())) (SD (ak = z1) (SP (!decide (sv = bytesOf { data:=#[] })) (z3 = valS (n,k,lo,
 hi,w,()) (an,ak,av,sv,())) (SD (av < lo) ((131:Int) = valS (n,k,lo,hi,w,()) (an,ak,av,sv,())) (SD (hi < av) ((131:Int) = valS (n,k,lo,hi,w,()) (an,ak,
 av,sv,())) (z0 = valS (n,k,lo,hi,w,()) (an,ak,av,sv,()))))) (SP (!decide (av = z0)) (z3 = valS (n,k,lo,hi,w,()) (an,ak,av,sv,())) (True ∧ SP (!decide (sv ∈
 w)) ((131:Int) = valS (n,k,lo,hi,w,()) (an,ak,av,sv,())) (z0 = valS (n,k,lo,hi,w,()) (an,ak,av,sv,())))))):=by kernel_rfl
abbrev jVs:Type:=Int × List Int × List Int × Int × Int × List Int
abbrev jJb (x:Int × List Int) (I:Int × List Int → Prop) (μ:Int × List Int → Nat) (x_1:jVs):=isI64 (x.1 + z1) ∧ NX I μ x (x.1 + z1,x_1.2.2.1)
abbrev fitsq5:=(eI,z0,z0,z0,eL,())
abbrev fitsq3 (x_1:jVs) (l:List Df) (d m:Int) (a:List At) (x:Int × List Int) (I:Int × List Int → Prop) (μ:Int × List Int → Nat):=isI64 z4 ∧ (z0 ≤ z4 ∧ z4 <
 z5) ∧ SP (!decide (x_1.2.2.2.1 = z1)) (True ∧ SP (!decide (x_1.2.2.2.2.2 ∈ (l.getD x_1.1.toNat fitsq5).2.2.2.2.1)) (SP true ((131:Int) = fitsS (d,m,l,()) a) (jJb x I μ
 x_1)) (isI64 z5 ∧ SP false (z0 = fitsS (d,m,l,()) a) (jJb x I μ x_1))) (isI64 z5 ∧ SP false (z0 = fitsS (d,m,l,()) a) (jJb x I μ x_1))
abbrev fitsq0 (x_1:jVs) (l:List Df) (d m:Int) (a:List At) (x:Int × List Int) (I:Int × List Int → Prop) (μ:Int × List Int → Nat):=isI64 z3 ∧ (z0 ≤ z3 ∧ z3 <
 z5) ∧ SD (x_1.2.2.2.1 = z1) (SD (x_1.2.2.2.2.1 < (l.getD x_1.1.toNat fitsq5).2.2.1) (SP true ((131:Int) = fitsS (d,m,l,()) a) (jJb x I μ x_1)) (SD ((l.getD x_1.1.toNat
 fitsq5).2.2.2.1 < x_1.2.2.2.2.1) (SP true ((131:Int) = fitsS (d,m,l,()) a) (jJb x I μ x_1)) (fitsq3 x_1 l d m a x I μ))) (fitsq3 x_1 l d m a x I μ)
abbrev fitsq4 (x_1:jVs) (l:List Df) (d m:Int) (a:List At) (x:Int × List Int) (I:Int × List Int → Prop) (μ:Int × List Int → Nat):=isI64 z4 ∧ (z0 ≤ z4 ∧ z4 <
 z5) ∧ SP (!decide (x_1.2.2.2.1 = z1)) (True ∧ SP (!decide (x_1.2.2.2.2.2 ∈ (l.getD y0 fitsq5).2.2.2.2.1)) (SP true ((131:Int) = fitsS (d,m,l,()) a) (jJb x I μ x_1))
 (isI64 z5 ∧ SP false (z0 = fitsS (d,m,l,()) a) (jJb x I μ x_1))) (isI64 z5 ∧ SP false (z0 = fitsS (d,m,l,()) a) (jJb x I μ x_1))
abbrev fitsq1 (x_1:jVs) (l:List Df) (d m:Int) (a:List At) (x:Int × List Int) (I:Int × List Int → Prop) (μ:Int × List Int → Nat):=isI64 z3 ∧ (z0 ≤ z3 ∧ z3 <
 z5) ∧ SD (x_1.2.2.2.1 = z1) (SD (x_1.2.2.2.2.1 < (l.getD y0 fitsq5).2.2.1) (SP true ((131:Int) = fitsS (d,m,l,()) a) (jJb x I μ x_1)) (SD ((l.getD y0 fitsq5).2.2.2.1 <
 x_1.2.2.2.2.1) (SP true ((131:Int) = fitsS (d,m,l,()) a) (jJb x I μ x_1)) (fitsq4 x_1 l d m a x I μ))) (fitsq4 x_1 l d m a x I μ)
theorem fits_nf (d m:Int) (l:List Df) (a:List At):fnwp AP0 8 157 fitsSp ((d,m,l,()),a) = (LP (τ:=Int × List Int) (z0,bytesOf { data:=#[] }) fun I μ x=>SD (x.1
 < (ln a)) ((IR x.1 a) ∧ LP (z0,x.2,(a.getD x.1.toNat (eI,z0,z0,eI,())).1,(a.getD x.1.toNat (eI,z0,z0,eI,())).2.1,(a.getD x.1.toNat (eI,z0,z0,eI,())).2.2.1,
 (a.getD x.1.toNat (eI,z0,z0,eI,())).2.2.2.1) fun I_1 μ_1 x_1=>SD (x_1.1 < (ln l)) ((IR x_1.1 l) ∧ SD ((l.getD x_1.1.toNat fitsq5).1 = x_1.2.2.1) (SD (x_1.1 < z0) (z5 =
 fitsS (d,m,l,()) a) ((IR x_1.1 l) ∧ (z0 ≤ z0 ∧ z0 < z5) ∧ SP (strLt x_1.2.2.1 x_1.2.1 || decide (x_1.2.2.1 = x_1.2.1)) (SP true (z6 = fitsS (d,m,l,()) a) (jJb x I μ
 x_1)) (isI64 z1 ∧ (z0 ≤ z1 ∧ z1 < z5) ∧ SP (!decide (x_1.2.2.2.1 = (l.getD x_1.1.toNat fitsq5).2.1)) (SP true ((130:Int) = fitsS (d,m,l,()) a) (jJb x I μ x_1)) (isI64 z2
 ∧ (z0 ≤ z2 ∧ z2 < z5) ∧ SD (x_1.2.2.2.1 = z1) (SP (!decide (x_1.2.2.2.2.2 = bytesOf { data:=#[] })) (SP true (z3 = fitsS (d,m,l,()) a) (jJb x I μ x_1)) (SP (!decide
 (x_1.2.2.2.1 = z1)) (SP (!decide (x_1.2.2.2.2.1 = z0)) (SP true (z3 = fitsS (d,m,l,()) a) (jJb x I μ x_1)) (fitsq0 x_1 l d m a x I μ)) (fitsq0 x_1 l d m a x I μ))) (SP
 (!decide (x_1.2.2.2.1 = z1)) (SP (!decide (x_1.2.2.2.2.1 = z0)) (SP true (z3 = fitsS (d,m,l,()) a) (jJb x I μ x_1)) (fitsq0 x_1 l d m a x I μ)) (fitsq0 x_1 l d m a x I
 μ)))))) (isI64 (x_1.1 + z1) ∧ NX I_1 μ_1 x_1 (x_1.1 + z1,x_1.2))) (SP true (z5 = fitsS (d,m,l,()) a) ((IR (-1:Int) l) ∧ (z0 ≤ z0 ∧ z0 < z5) ∧ SP (strLt x_1.2.2.1 x_1.2.1
 || decide (x_1.2.2.1 = x_1.2.1)) (SP true (z6 = fitsS (d,m,l,()) a) (jJb x I μ x_1)) (isI64 z1 ∧ (z0 ≤ z1 ∧ z1 < z5) ∧ SP (!decide (x_1.2.2.2.1 = (l.getD y0 fitsq5).2.1))
 (SP true ((130:Int) = fitsS (d,m,l,()) a) (jJb x I μ x_1)) (isI64 z2 ∧ (z0 ≤ z2 ∧ z2 < z5) ∧ SD (x_1.2.2.2.1 = z1) (SP (!decide (x_1.2.2.2.2.2 = bytesOf { data:=#[]
 })) (SP true (z3 = fitsS (d,m,l,()) a) (jJb x I μ x_1)) (SP (!decide (x_1.2.2.2.1 = z1)) (SP (!decide (x_1.2.2.2.2.1 = z0)) (SP true (z3 = fitsS (d,m,l,()) a) (jJb x
 I μ x_1)) (fitsq1 x_1 l d m a x I μ)) (fitsq1 x_1 l d m a x I μ))) (SP (!decide (x_1.2.2.2.1 = z1)) (SP (!decide (x_1.2.2.2.2.1 = z0)) (SP true (z3 = fitsS (d,m,l,()) a)
 (jJb x I μ x_1)) (fitsq1 x_1 l d m a x I μ)) (fitsq1 x_1 l d m a x I μ))))))) (z0 = fitsS (d,m,l,()) a)):=by kernel_rfl
def tP1:List (FuncId × FSpec):=[(181,findSp),(182,valSp),(167,hasSp),(127,hasSp),(156,vecSp),(163,vecSp)]
noncomputable def AP1:Ctx:=mkctx bs tP1 [] hintP
abbrev kQy (a:List At) (x:Int):=a.getD x.toNat (eI,z0,z0,eI,())
abbrev rFitsq0 (l:List Df) (a:List At) (x d m:Int) (I:Int → Prop) (μ:Int → Nat):=(IR (fndN l (kQy a x).1 z0) l) ∧ (IR x a) ∧ True ∧ SP (!decide (valS (l.getD
 (fndN l (kQy a x).1 z0).toNat (eI,z0,z0,z0,eL,())) (kQy a x) = z0)) (valS (l.getD (fndN l (kQy a x).1 z0).toNat (eI,z0,z0,z0,eL,())) (kQy a x) = fitsS
 (d,m,l,()) a) (isI64 (x + z1) ∧ NX I μ x (x + z1))
theorem rFits_nf (d m:Int) (l:List Df) (a:List At):fnwp AP1 6 164 fitsSp ((d,m,l,()),a) = (LP z0 fun I μ x=>SD (x < (ln a)) ((IR x a) ∧ True ∧ SD (fndN l (kQy a
 x).1 z0 < z0) (z5 = fitsS (d,m,l,()) a) (SD (z0 < x) ((IR x a) ∧ isI64 (x - z1) ∧ (IR (x - z1) a) ∧ SP (strLt (kQy a x).1 (a.getD (x - z1).toNat (eI,z0,z0,eI,())).1
 || decide ((kQy a x).1 = (a.getD (x - z1).toNat (eI,z0,z0,eI,())).1)) (z6 = fitsS (d,m,l,()) a) (rFitsq0 l a x d m I μ)) (rFitsq0 l a x d m I μ))) (z0 = fitsS (d,m,
 l,()) a)):=by kernel_rfl
noncomputable def AP2:Ctx:=mkctx bs ((157,fitsSp) :: (164,fitsSp) :: tP1) [] hintP
abbrev entq0 (d m:Int) (l:List Df) (a:List At) (id ver ow fi fr to bo:Int) (ve:List Int):=jQ6 (d,m,l,()) ∧ fitsS (d,m,l,()) a = entS (d,m,l,()) (id,ver,
 ow,fi,fr,to,bo,ve,a,())
abbrev entq1 (d m:Int) (l:List Df) (id ver ow fi fr to bo:Int) (ve:List Int) (a:List At):=SP true (z9 = entS (d,m,l,()) (id,ver,ow,fi,fr,to,bo,ve,a,()))
 (entq0 d m l a id ver ow fi fr to bo ve)
abbrev entq2 (d m:Int) (l:List Df) (id ver ow fi fr to bo:Int) (ve:List Int) (a:List At):=SP true (z1 = entS (d,m,l,()) (id,ver,ow,fi,fr,to,bo,ve,a,()))
 (entq0 d m l a id ver ow fi fr to bo ve)
theorem ent_nf (d m:Int) (l:List Df) (id ver ow fi fr to bo:Int) (ve:List Int) (a:List At):fnwp AP2 8 111 entSp ((d,m,l,()),(id,ver,ow,fi,fr,to,bo,ve,a,
 ())) = ((z0 ≤ z0 ∧ z0 < z5) ∧ SD (id < z1) (entq2 d m l id ver ow fi fr to bo ve a) (SD ((1073741824:Int) < id) (entq2 d m l id ver ow fi fr to bo ve a) (SD (ow < z1) (entq2 d
 m l id ver ow fi fr to bo ve a) (SD ((1073741824:Int) < ow) (entq2 d m l id ver ow fi fr to bo ve a) (SD (ver < z1) (entq2 d m l id ver ow fi fr to bo ve a) (SD ((1073741824 :
 Int) < ver) (entq2 d m l id ver ow fi fr to bo ve a) (isI64 z1 ∧ (z0 ≤ z1 ∧ z1 < z5) ∧ SD (fi < z0) (entq1 d m l id ver ow fi fr to bo ve a) (SD (fr < fi) (entq1 d m l id ver ow
 fi fr to bo ve a) (SD ((1048576:Int) < fr) (entq1 d m l id ver ow fi fr to bo ve a) (isI64 z2 ∧ (z0 ≤ z2 ∧ z2 < z5) ∧ SD (to ≤ fr) (entq1 d m l id ver ow fi fr to bo ve a) (SD
 ((1048577:Int) < to) (entq1 d m l id ver ow fi fr to bo ve a) (isI64 z3 ∧ (z0 ≤ z3 ∧ z3 < z5) ∧ SD (bo < z1) (entq1 d m l id ver ow fi fr to bo ve a) (SD ((1073741824:Int) <
 bo) (entq1 d m l id ver ow fi fr to bo ve a) (isI64 z4 ∧ (z0 ≤ z4 ∧ z4 < z5) ∧ SP (!decide ((ln ve) = d)) (SP true (z40 = entS (d,m,l,()) (id,ver,ow,fi,fr,to,bo,ve,a,
 ())) (entq0 d m l a id ver ow fi fr to bo ve)) (True ∧ SP (!vecB ve) (SP true (z40 = entS (d,m,l,()) (id,ver,ow,fi,fr,to,bo,ve,a,())) (entq0 d m l a id ver ow fi fr
 to bo ve)) (isI64 z5 ∧ SP false (z0 = entS (d,m,l,()) (id,ver,ow,fi,fr,to,bo,ve,a,())) (entq0 d m l a id ver ow fi fr to bo ve))))))))))))))))):=by kernel_rfl
theorem rEnt_nf (d m:Int) (l:List Df) (id ver ow fi fr to bo:Int) (ve:List Int) (a:List At):fnwp AP2 8 129 entSp ((d,m,l,()),(id,ver,ow,fi,fr,to,bo,ve,a,
 ())) = (SD (id < z1) (z1 = entS (d,m,l,()) (id,ver,ow,fi,fr,to,bo,ve,a,())) (SD ((1073741824:Int) < id) (z1 = entS (d,m,l,()) (id,ver,ow,fi,fr,to,bo,ve,
 a,())) (SD (ow < z1) (z1 = entS (d,m,l,()) (id,ver,ow,fi,fr,to,bo,ve,a,())) (SD ((1073741824:Int) < ow) (z1 = entS (d,m,l,()) (id,ver,ow,fi,fr,to,bo,ve,
 a,())) (SD (ver < z1) (z1 = entS (d,m,l,()) (id,ver,ow,fi,fr,to,bo,ve,a,())) (SD ((1073741824:Int) < ver) (z1 = entS (d,m,l,()) (id,ver,ow,fi,fr,to,bo,
 ve,a,())) (SD (fi < z0) (z9 = entS (d,m,l,()) (id,ver,ow,fi,fr,to,bo,ve,a,())) (SD (fr < fi) (z9 = entS (d,m,l,()) (id,ver,ow,fi,fr,to,bo,ve,a,())) (SD
 (to ≤ fr) (z9 = entS (d,m,l,()) (id,ver,ow,fi,fr,to,bo,ve,a,())) (SD ((1048577:Int) < to) (z9 = entS (d,m,l,()) (id,ver,ow,fi,fr,to,bo,ve,a,())) (SD
 ((1048576:Int) < fr) (z9 = entS (d,m,l,()) (id,ver,ow,fi,fr,to,bo,ve,a,())) (SD (bo < z1) (z9 = entS (d,m,l,()) (id,ver,ow,fi,fr,to,bo,ve,a,())) (SD
 ((1073741824:Int) < bo) (z9 = entS (d,m,l,()) (id,ver,ow,fi,fr,to,bo,ve,a,())) (True ∧ SP (!vecB ve) (z40 = entS (d,m,l,()) (id,ver,ow,fi,fr,to,bo,ve,a,
 ())) (SP (!decide ((ln ve) = d)) (z40 = entS (d,m,l,()) (id,ver,ow,fi,fr,to,bo,ve,a,())) (jQ6 (d,m,l,()) ∧ fitsS (d,m,l,()) a = entS (d,m,l,()) (id,
 ver,ow,fi,fr,to,bo,ve,a,()))))))))))))))))):=by kernel_rfl
end Go.Proofs.YtcnpblceamgfcaaGreatDoor
namespace Go.PL
open Go.AM
theorem fndN_lt (n:List Int):∀ (l:List Df) (k:Int),fndN l n k = -1 ∨ (k ≤ fndN l n k ∧ fndN l n k < k + l.length)
 | [],k=>.inl rfl
 | d :: l,k=>by
  unfold fndN
  have:=fndN_lt n l (k + 1)
  simp only [List.length_cons]
  split <;> omega
theorem fndN_drop {l:List Df} {x:Int} (h0:0 ≤ x) (h:x < l.length) (n:List Int):fndN (l.drop x.toNat) n x = if (l.getD x.toNat ([],0,0,0,[],())).1 = n then x else fndN (l.drop (x + 1).toNat) n (x + 1):=by
 have hlt:x.toNat < l.length:=by omega
 rw [List.drop_eq_getElem_cons hlt,show (x + 1).toNat = x.toNat + 1 by omega,List.getD_eq_getElem?_getD,List.getElem?_eq_getElem hlt]
 rfl
theorem fndN_end {l:List Df} {x:Int} (h:¬ x < l.length) (n:List Int):fndN (l.drop x.toNat) n x = -1:=by
 rw [List.drop_of_length_le (by omega)]
 rfl
theorem fitsL_drop (ds:List Df) {l:List At} {x:Int} (h0:0 ≤ x) (h:x < l.length) (b:List Int):fitsL ds (l.drop x.toNat) b =
 if fndN ds (l.getD x.toNat ([],0,0,[],())).1 0 < 0 then 5 else if leS (l.getD x.toNat ([],0,0,[],())).1 b = true then 6 else
 if valS (ds.getD (fndN ds (l.getD x.toNat ([],0,0,[],())).1 0).toNat ([],0,0,0,[],())) (l.getD x.toNat ([],0,0,[],())) ≠ 0 then valS (ds.getD (fndN ds (l.getD x.toNat ([],0,0,[],())).1 0).toNat ([],0,0,0,[],())) (l.getD x.toNat ([],0,0,[],())) else
 fitsL ds (l.drop (x + 1).toNat) (l.getD x.toNat ([],0,0,[],())).1:=by
 have hlt:x.toNat < l.length:=by omega
 rw [List.drop_eq_getElem_cons hlt,show (x + 1).toNat = x.toNat + 1 by omega,List.getD_eq_getElem?_getD,List.getElem?_eq_getElem hlt]
 rfl
theorem fitsL_end (ds:List Df) {l:List At} {x:Int} (h:¬ x < l.length) (b:List Int):fitsL ds (l.drop x.toNat) b = 0:=by
 rw [List.drop_of_length_le (by omega)]
 rfl
theorem fndN_ne {ds:List Df} (hd:∀ d ∈ ds,d.1 ≠ []):∀ k,0 ≤ k → fndN ds [] k = -1:=by
 induction ds with
 | nil=>intro k _; rfl
 | cons d l ih =>
  intro k hk
  unfold fndN
  rw [if_neg (hd d (List.mem_cons_self ..))]
  exact ih (fun x hx=>hd x (List.mem_cons_of_mem _ hx)) (k + 1) (by omega)
theorem leS_nil {a:List Int} (h:a ≠ []):leS a [] = false:=by
 cases a with
 | nil=>exact absurd rfl h
 | cons x l=>rfl
end Go.PL
namespace Go.Proofs.YtcnpblceamgfcaaGreatDoor
open Go.AM Go.PL
attribute [local irreducible] fnwp fnwpG
theorem AP0_sound:jQa AP0:=jQd ⟨sat_has,sat_rHas,sat_vec,sat_rVec,trivial⟩ trivial
theorem sat_find:Sat bs.P 181 findSp:=jQe AP0_sound 6 _ findSp fun (⟨⟨d,m,l,⟨⟩⟩,s⟩:Sc × List Int) hok _=>by
 rw [find_nf]; delta IR LP NX SD eI eL ln z0 z1; dsimp only
 have hm:l.length ≤ 9223372036854775807:=hok.1.2.2.1.1
 refine ⟨fun x=>0 ≤ x ∧ x ≤ l.length ∧ fndN (l.drop x.toNat) s x = fndN l s 0,fun x=>(l.length - x).toNat,⟨by omega,by omega,rfl⟩,?_⟩
 rintro x ⟨h0,h1,h2⟩
 refine ⟨fun h=>?_,fun h=>?_⟩
 ·have h:=dt h
  rw [fndN_drop h0 h] at h2
  refine ⟨⟨h0,h⟩,fun hd=>?_,fun hd=>⟨jZv h0 h hm,⟨by omega,by omega,?_⟩,by dsimp only; omega⟩⟩
  ·rw [if_pos (dt hd)] at h2
   exact h2
  ·rw [if_neg (df hd)] at h2
   exact h2
 ·rw [fndN_end (df h)] at h2
  exact h2
theorem sat_val:Sat bs.P 182 valSp:=jQe AP0_sound 6 _ valSp fun (⟨⟨n,k,lo,hi,w,⟨⟩⟩,⟨an,ak,av,sv,⟨⟩⟩⟩:Df × At) hok _=>by
 rw [val_nf]; delta SD SP z0 z1 z3
 simp only [valS]
 repeat' (first | apply And.intro | (intro hh; first | (replace hh:=dt hh) | (replace hh:=df hh) | (replace hh:=ndt hh) | (replace hh:=ndf hh)) | intro hh)
 all_goals simp_all [bytesOf]
 all_goals (repeat' split) <;> first | omega | rfl | simp_all
theorem AP1_sound:jQa AP1:=jQd ⟨sat_find,sat_val,sat_has,sat_rHas,sat_vec,sat_rVec,trivial⟩ trivial
theorem sat_rFits:Sat bs.P 164 fitsSp:=jQe AP1_sound 6 _ fitsSp fun (⟨⟨d,m,ds,⟨⟩⟩,l⟩:Sc × List At) hok hp=>by
 rw [rFits_nf]; delta kQy rFitsq0 IR LP NX SD SP eI eL ln z0 z1 z5 z6; dsimp only
 have hm:l.length ≤ 9223372036854775807:=hok.2.1
 have hp:∀ d ∈ ds,d.1 ≠ []:=hp
 refine ⟨fun x=>0 ≤ x ∧ x ≤ l.length ∧ fitsL ds (l.drop x.toNat) (if x = 0 then [] else (l.getD (x - 1).toNat ([],0,0,[],())).1) = fitsS (d,m,ds,()) l,fun x=>(l.length - x).toNat,⟨by omega,by omega,rfl⟩,?_⟩
 rintro x ⟨h0,h1,h2⟩
 refine ⟨fun h=>?_,fun h=>?_⟩
 ·have h:=dt h
  rw [fitsL_drop ds h0 h] at h2
  refine ⟨⟨h0,h⟩,trivial,fun hd=>?_,fun hd=>?_⟩
  ·rw [if_pos (dt hd)] at h2
   exact h2
  have hd:=df hd
  rw [if_neg hd] at h2
  have hr:=fndN_lt (l.getD x.toNat ([],0,0,[],())).1 ds 0
  have hfr:0 ≤ fndN ds (l.getD x.toNat ([],0,0,[],())).1 0 ∧ fndN ds (l.getD x.toNat ([],0,0,[],())).1 0 < (ds.length:Int):=by omega
  have hx1:¬ x + 1 = 0:=by omega
  have last:leS (l.getD x.toNat ([],0,0,[],())).1 (if x = 0 then [] else (l.getD (x - 1).toNat ([],0,0,[],())).1) = false →
   (((!decide (valS (ds.getD (fndN ds (l.getD x.toNat ([],0,0,[],())).1 0).toNat ([],0,0,0,[],())) (l.getD x.toNat ([],0,0,[],())) = 0)) = true →
     valS (ds.getD (fndN ds (l.getD x.toNat ([],0,0,[],())).1 0).toNat ([],0,0,0,[],())) (l.getD x.toNat ([],0,0,[],())) = fitsS (d,m,ds,()) l) ∧
   ((!decide (valS (ds.getD (fndN ds (l.getD x.toNat ([],0,0,[],())).1 0).toNat ([],0,0,0,[],())) (l.getD x.toNat ([],0,0,[],())) = 0)) = false →
     isI64 (x + 1) ∧ (0 ≤ x + 1 ∧ x + 1 ≤ l.length ∧ fitsL ds (l.drop (x + 1).toNat) (if x + 1 = 0 then [] else (l.getD (x + 1 - 1).toNat ([],0,0,[],())).1) = fitsS (d,m,ds,()) l) ∧ ((l.length:Int) - (x + 1)).toNat < ((l.length:Int) - x).toNat)):=fun hle=>by
   rw [hle,if_neg (by decide)] at h2
   refine ⟨fun hv=>?_,fun hv=>⟨jZv h0 h hm,⟨by omega,by omega,?_⟩,by omega⟩⟩
   ·rw [if_pos (ndt hv)] at h2
    exact h2
   ·rw [if_neg (fun g=>g (ndf hv))] at h2
    rw [if_neg hx1,show x + 1 - 1 = x by omega]
    exact h2
  refine ⟨fun hx=>?_,fun hx=>?_⟩
  ·have hx:=dt hx
   rw [if_neg (by omega:¬ x = 0)] at h2 last
   refine ⟨⟨h0,h⟩,by unfold isI64; omega,⟨by omega,by omega⟩,fun hle=>?_,fun hle=>⟨hfr,⟨h0,h⟩,trivial,last hle⟩⟩
   have hle:leS (l.getD x.toNat ([],0,0,[],())).1 (l.getD (x - 1).toNat ([],0,0,[],())).1 = true:=hle
   rw [if_pos hle] at h2
   exact h2
  ·have hx:=df hx
   have hx0:x = 0:=by omega
   refine ⟨hfr,⟨h0,h⟩,trivial,last ?_⟩
   rw [if_pos hx0]
   apply leS_nil
   intro he
   rw [he,fndN_ne hp 0 (by omega)] at hd
   exact hd (by decide)
 ·rw [fitsL_end ds (df h)] at h2
  exact h2
end Go.Proofs.YtcnpblceamgfcaaGreatDoor
namespace Go.Proofs.YtcnpblceamgfcaaGreatDoor
open Go.AM Go.PL
attribute [local irreducible] fnwp fnwpG
theorem sat_fits:Sat bs.P 157 fitsSp:=jQe AP0_sound 8 _ fitsSp fun (⟨⟨d,m,ds,⟨⟩⟩,l⟩:Sc × List At) hok hp=>by
 rw [fits_nf]; delta jVs jJb fitsq5 fitsq3 fitsq0 fitsq4 fitsq1 IR LP NX SD SP eI eL ln y0 z0 z1 z2 z3 z4 z5 z6; dsimp only
 have hm:l.length ≤ 9223372036854775807:=hok.2.1
 have hmd:ds.length ≤ 9223372036854775807:=hok.1.2.2.1.1
 refine ⟨fun x=>0 ≤ x.1 ∧ x.1 ≤ l.length ∧ fitsL ds (l.drop x.1.toNat) x.2 = fitsS (d,m,ds,()) l,fun x=>(l.length - x.1).toNat,⟨by omega,by omega,rfl⟩,?_⟩
 rintro ⟨x,b⟩ ⟨h0,h1,h2⟩
 dsimp only at h0 h1 h2 ⊢
 refine ⟨fun h=>?_,fun h=>?_⟩
 ·have h:=dt h
  rw [fitsL_drop ds h0 h] at h2
  have hi:isI64 (x + 1):=jZv h0 h hm
  generalize fitsL ds (l.drop (x + 1).toNat) = rest at h2 ⊢
  generalize hT:fitsS (d,m,ds,()) l = T at h2 ⊢
  refine ⟨⟨h0,h⟩,?_⟩
  obtain ⟨a,ha⟩:∃ a,a = l.getD x.toNat ([],0,0,[],()):=⟨_,rfl⟩
  rw [← ha] at h2 ⊢
  obtain ⟨an,ak,av,sv,⟨⟩⟩:=a
  dsimp only at h2 ⊢
  refine ⟨fun y=>0 ≤ y.1 ∧ y.1 ≤ ds.length ∧ y.2 = (b,an,ak,av,sv) ∧ fndN (ds.drop y.1.toNat) an y.1 = fndN ds an 0,fun y=>(ds.length - y.1).toNat,⟨by omega,by omega,rfl,rfl⟩,?_⟩
  rintro ⟨y,z⟩ ⟨g0,g1,g2,g3⟩
  dsimp only at g0 g1 g2 g3
  subst g2
  dsimp only
  refine ⟨fun hy=>?_,fun hy=>?_⟩
  ·have hy:=dt hy
   have hiy:isI64 (y + 1):=jZv g0 hy hmd
   rw [fndN_drop g0 hy] at g3
   refine ⟨⟨g0,hy⟩,fun hn=>?_,fun hn=>⟨hiy,⟨by omega,by omega,rfl,?_⟩,by omega⟩⟩
   ·rw [if_pos (dt hn)] at g3
    rw [← g3,if_neg (by omega)] at h2
    refine ⟨fun hc=>absurd (dt hc) (by omega),fun _=>⟨⟨g0,hy⟩,?_⟩⟩
    clear g3 hn
    obtain ⟨D,hD⟩:∃ D,D = ds.getD y.toNat ([],0,0,0,[],()):=⟨_,rfl⟩
    rw [← hD] at h2 ⊢
    obtain ⟨dn,dk,lo,hi',w,⟨⟩⟩:=D
    clear hD ha hT hp hok
    simp only [leS,valS] at h2
    dsimp only
    have hlt:((l.length:Int) - (x + 1)).toNat < ((l.length:Int) - x).toNat:=by omega
    have ha1:0 ≤ x + 1:=by omega
    have ha2:x + 1 ≤ (l.length:Int):=by omega
    repeat' (first | exact hi | exact hlt | exact ha1 | exact ha2 | apply And.intro | (intro hh; first | (replace hh:=dt hh) | (replace hh:=df hh) | (replace hh:=ndt hh) | (replace hh:=ndf hh)) | intro hh)
    all_goals first
     | trivial
     | omega
     | (unfold isI64; omega)
     | (exfalso; simp_all; done)
     | (rw [← h2]; simp_all [bytesOf]; done)
     | (rw [← h2]; simp_all [bytesOf]; omega)
   ·rw [if_neg (df hn)] at g3
    exact g3
  ·rw [fndN_end (df hy)] at g3
   rw [← g3,if_pos (by decide)] at h2
   exact ⟨fun _=>h2,fun hc=>(by cases hc)⟩
 ·rw [fitsL_end ds (df h)] at h2
  exact h2
theorem AP2_sound:jQa AP2:=jQd ⟨sat_fits,sat_rFits,sat_find,sat_val,sat_has,sat_rHas,sat_vec,sat_rVec,trivial⟩ trivial
theorem sat_rEnt:Sat bs.P 129 entSp:=jQe AP2_sound 8 _ entSp fun (⟨⟨d,m,l,⟨⟩⟩,⟨id,ver,ow,fi,fr,to,bo,ve,a,⟨⟩⟩⟩:Sc × En) hok hp=>by
 rw [rEnt_nf]; delta SD SP ln z0 z1 z40 z9
 simp only [entS]
 repeat' (first | exact hp | apply And.intro | (intro hh; first | (replace hh:=dt hh) | (replace hh:=df hh) | (replace hh:=ndt hh) | (replace hh:=ndf hh)) | intro hh)
 all_goals first
  | trivial
  | (rw [if_pos (by omega)]; done)
  | (rw [if_neg (by omega),if_pos (by omega)]; done)
  | (rw [if_neg (by omega),if_neg (by omega),if_pos (by simp_all; done)]; done)
  | (rw [if_neg (by omega),if_neg (by omega),if_pos (by simp_all; omega)]; done)
  | (rw [if_neg (by omega),if_neg (by omega),if_neg (by simp_all; done)]; done)
theorem sat_ent:Sat bs.P 111 entSp:=jQe AP2_sound 8 _ entSp fun (⟨⟨d,m,l,⟨⟩⟩,⟨id,ver,ow,fi,fr,to,bo,ve,a,⟨⟩⟩⟩:Sc × En) hok hp=>by
 rw [ent_nf]; delta entq0 entq1 entq2 SD SP ln z0 z1 z2 z3 z4 z40 z5 z9
 simp only [entS]
 repeat' (first | exact hp | apply And.intro | (intro hh; first | (replace hh:=dt hh) | (replace hh:=df hh) | (replace hh:=ndt hh) | (replace hh:=ndf hh)) | intro hh)
 all_goals first
  | trivial
  | omega
  | (unfold isI64; omega)
  | (exfalso; simp_all; done)
  | (rw [if_pos (by omega)]; done)
  | (rw [if_neg (by omega),if_pos (by omega)]; done)
  | (rw [if_neg (by omega),if_neg (by omega),if_pos (by simp_all; done)]; done)
  | (rw [if_neg (by omega),if_neg (by omega),if_pos (by simp_all; omega)]; done)
  | (rw [if_neg (by omega),if_neg (by omega),if_neg (by simp_all; done)]; done)
end Go.Proofs.YtcnpblceamgfcaaGreatDoor
namespace Go.PL
open Go.AM
abbrev Rw:=En × Int × Unit
abbrev Bo:=Sc × Int × Int × List Int × List Rw × Unit
def dEn:En:=(0,0,0,0,0,0,0,[],[],())
def dRw:Rw:=(dEn,0,())
def cmpI (x y:Int):Int:=if x < y then -1 else if y < x then 1 else 0
def fromR (r:Rw):Int:=r.1.2.2.2.2.1
def cmpR (x y:Rw):Int:=cmpI (fromR x) (fromR y)
def insB (r:Rw):List Rw → List Rw
 | []=>[r]
 | x :: l=>if fromR r < fromR x then x :: insB r l else r :: x :: l
def jVa (l:List Rw):List Rw:=l.foldl (fun acc r=>insB r acc) []
def jQl (l:List Rw):List Rw:=(jVa l).reverse
def liveF (id:Int) (l:List Rw):List Rw:=l.filter fun r=>decide (r.1.1 = id) && decide (r.2.1 = 0)
def liveS (b:Bo) (id:Int):List Rw:=jQl (liveF id b.2.2.2.2.1)
end Go.PL
namespace Go.Proofs.YtcnpblceamgfcaaGreatDoor
open Go.AM Go.PL
def cmpSp:FSpec:=⟨[I,I],[I],fun _=>True,fun x=>cmpI x.1 x.2⟩
def cmpRSp:FSpec:=⟨[RW,RW],[I],fun _=>True,fun x=>cmpR x.1 x.2⟩
def insO (f:Nat):OSpec:=⟨[I,I,.fnc],[],58,RW,fun x xs=>(x.1:Int) = 0 ∧ (x.2.1:Int) = (xs:List Rw).length ∧ (x.2.2:Nat) = f,fun _ _=>(),fun _ xs=>jQl xs⟩
def stabO (f:Nat):OSpec:=⟨[I,.fnc],[],58,RW,fun x xs=>(x.1:Int) = (xs:List Rw).length ∧ (xs:List Rw).length ≤ 19 ∧ (x.2:Nat) = f,fun _ _=>(),fun _ xs=>jQl xs⟩
def sortO (f:Nat):OSpec:=⟨[.fnc],[],58,RW,fun x xs=>(xs:List Rw).length ≤ 19 ∧ (x:Nat) = f,fun _ _=>(),fun _ xs=>jQl xs⟩
def liveSp:FSpec:=⟨[BO,I],[RL],fun x=>(liveF x.2 (x.1:Bo).2.2.2.2.1).length ≤ 19,fun x=>liveS x.1 x.2⟩
def loopsS (f:FuncId) (r:Nat):List LA :=
 if Nat.beq f 169 then (bif Nat.beq r 1 then [.keep 0 58 RW,.slot 8 I] else [.keep 0 58 RW,.slot 8 I,.slot 9 I]) else
 if Nat.beq f 147 then [.slot 9 I,.gcell 0 0 58 RW] else
 []
def modeS (f:FuncId) (r:Nat):AM.Mode:=bif Nat.beq f 169 && Nat.beq r 6 then .all else bif Nat.beq f 149 && (Nat.beq r 1) then .all else .split
def cmodeS (f:FuncId) (t:Nat):AM.Mode:=bif Nat.beq f 149 && (Nat.beq t 13 || Nat.beq t 30) then .no else .split
def unrS (f:FuncId) (r:Nat):Nat:=bif Nat.beq f 149 then 1 else 0
def hintS (f:FuncId):Hint:=if Nat.beq f 999999995 then ⟨fun _=>[],fun _=>.split,fun _=>.split,datN⟩ else ⟨loopsS f,modeS f,cmodeS f,unrS f⟩
noncomputable def AS0:Ctx:=mkctx bs [] [] hintS
theorem cmp_nf (x y:Int):fnwp AS0 6 107 cmpSp (x,y) = (SP (!decide (x = x)) (SP (!decide (y = y)) (z0 = cmpI x y) ((-1:Int) = cmpI x y)) (SP (!decide (y = y)) (z1 = cmpI x
 y) (SD (x < y) ((-1:Int) = cmpI x y) (SD (y < x) (z1 = cmpI x y) (z0 = cmpI x y))))):=by kernel_rfl
noncomputable def AS1:Ctx:=mkctx bs [(107,cmpSp)] [] hintS
theorem cmpA_nf (x y:Rw):fnwp AS1 6 106 cmpRSp (x,y) = (True ∧ cmpI x.1.2.2.2.2.1 y.1.2.2.2.2.1 = cmpR x y):=by kernel_rfl
theorem cmpB_nf (x y:Rw):fnwp AS1 6 110 cmpRSp (x,y) = (True ∧ cmpI x.1.2.2.2.2.1 y.1.2.2.2.2.1 = cmpR x y):=by kernel_rfl
noncomputable def AS2:Ctx:=mkctx bs [(106,cmpRSp),(110,cmpRSp)] [] hintS
abbrev insA_nf_t0:Type:=List ((Int × Int × Int × Int × Int × Int × Int × List Int × List (List Int × Int × Int × List Int × Unit) × Unit) × Int × Unit) × Int × Int
abbrev insA_nf_e0:List (List Int × Int × Int × List Int × Unit):=[]
abbrev insAq2:=((z0,z0,z0,z0,z0,z0,z0,eI,insA_nf_e0,()),z0,())
abbrev insAq1 (x_1:insA_nf_t0):=x_1.1.set x_1.2.2.toNat (x_1.1.getD (x_1.2.2 - z1).toNat insAq2)
abbrev insAq0 (x_1:insA_nf_t0):=((insAq1 x_1).set (x_1.2.2 - z1).toNat (x_1.1.getD x_1.2.2.toNat insAq2),x_1.2.1,x_1.2.2 - z1)
abbrev insAq3 (x_1:insA_nf_t0):=IR (x_1.2.2 - z1) (insAq1 x_1)
theorem insA_nf (a b:Int) (xs:List Rw):fnwpO AS2 6 169 (insO 106) (a,b,(106:Nat)) xs = (isI64 (a + z1) ∧ LP (xs,a + z1) fun I μ x=>SD (x.2 < b) (LP (x.1,x.2,x.2)
 fun I_1 μ_1 x_1=>SD (a < x_1.2.2) ((IR x_1.2.2 x_1.1) ∧ isI64 (x_1.2.2 - z1) ∧ (IR (x_1.2.2 - z1) x_1.1) ∧ True ∧ SD (cmpR (x_1.1.getD x_1.2.2.toNat insAq2) (x_1.1.getD
 (x_1.2.2 - z1).toNat insAq2) < z0) (isI64 (x_1.2.2 - z1) ∧ isI64 (x_1.2.2 - z1) ∧ ((IR (x_1.2.2 - z1) x_1.1) ∧ ((IR x_1.2.2 x_1.1) ∧ (IR x_1.2.2 x_1.1) ∧ (insAq3 x_1) ∧ isI64
 (x_1.2.2 - z1) ∧ NX I_1 μ_1 x_1 (insAq0 x_1)) ∧ (IR x_1.2.2 x_1.1) ∧ ((IR x_1.2.2 x_1.1) ∧ (insAq3 x_1) ∧ isI64 (x_1.2.2 - z1) ∧ NX I_1 μ_1 x_1 (insAq0 x_1)) ∧ (IR x_1.2.2
 x_1.1) ∧ (insAq3 x_1) ∧ isI64 (x_1.2.2 - z1) ∧ NX I_1 μ_1 x_1 (insAq0 x_1)) ∧ (IR x_1.2.2 x_1.1) ∧ ((IR (x_1.2.2 - z1) x_1.1) ∧ ((IR x_1.2.2 x_1.1) ∧ (insAq3 x_1) ∧ isI64
 (x_1.2.2 - z1) ∧ NX I_1 μ_1 x_1 (insAq0 x_1)) ∧ (IR x_1.2.2 x_1.1) ∧ (insAq3 x_1) ∧ isI64 (x_1.2.2 - z1) ∧ NX I_1 μ_1 x_1 (insAq0 x_1)) ∧ (IR (x_1.2.2 - z1) x_1.1) ∧ (IR x_1.2.2
 x_1.1) ∧ (insAq3 x_1) ∧ isI64 (x_1.2.2 - z1) ∧ NX I_1 μ_1 x_1 (insAq0 x_1)) (isI64 (x_1.2.1 + z1) ∧ NX I μ x (x_1.1,x_1.2.1 + z1))) (isI64 (x_1.2.1 + z1) ∧ NX I μ x (x_1.1,
 x_1.2.1 + z1))) (() = () ∧ x.1 = jQl xs)):=by kernel_rfl
abbrev insB_nf_t0:Type:=List ((Int × Int × Int × Int × Int × Int × Int × List Int × List (List Int × Int × Int × List Int × Unit) × Unit) × Int × Unit) × Int × Int
abbrev insB_nf_e0:List (List Int × Int × Int × List Int × Unit):=[]
abbrev insBq2:=((z0,z0,z0,z0,z0,z0,z0,eI,insB_nf_e0,()),z0,())
abbrev insBq1 (x_1:insB_nf_t0):=x_1.1.set x_1.2.2.toNat (x_1.1.getD (x_1.2.2 - z1).toNat insBq2)
abbrev insBq0 (x_1:insB_nf_t0):=((insBq1 x_1).set (x_1.2.2 - z1).toNat (x_1.1.getD x_1.2.2.toNat insBq2),x_1.2.1,x_1.2.2 - z1)
abbrev insBq3 (x_1:insB_nf_t0):=IR (x_1.2.2 - z1) (insBq1 x_1)
theorem insB_nf (a b:Int) (xs:List Rw):fnwpO AS2 6 169 (insO 110) (a,b,(110:Nat)) xs = (isI64 (a + z1) ∧ LP (xs,a + z1) fun I μ x=>SD (x.2 < b) (LP (x.1,x.2,x.2)
 fun I_1 μ_1 x_1=>SD (a < x_1.2.2) ((IR x_1.2.2 x_1.1) ∧ isI64 (x_1.2.2 - z1) ∧ (IR (x_1.2.2 - z1) x_1.1) ∧ True ∧ SD (cmpR (x_1.1.getD x_1.2.2.toNat insBq2) (x_1.1.getD
 (x_1.2.2 - z1).toNat insBq2) < z0) (isI64 (x_1.2.2 - z1) ∧ isI64 (x_1.2.2 - z1) ∧ ((IR (x_1.2.2 - z1) x_1.1) ∧ ((IR x_1.2.2 x_1.1) ∧ (IR x_1.2.2 x_1.1) ∧ (insBq3 x_1) ∧ isI64
 (x_1.2.2 - z1) ∧ NX I_1 μ_1 x_1 (insBq0 x_1)) ∧ (IR x_1.2.2 x_1.1) ∧ ((IR x_1.2.2 x_1.1) ∧ (insBq3 x_1) ∧ isI64 (x_1.2.2 - z1) ∧ NX I_1 μ_1 x_1 (insBq0 x_1)) ∧ (IR x_1.2.2
 x_1.1) ∧ (insBq3 x_1) ∧ isI64 (x_1.2.2 - z1) ∧ NX I_1 μ_1 x_1 (insBq0 x_1)) ∧ (IR x_1.2.2 x_1.1) ∧ ((IR (x_1.2.2 - z1) x_1.1) ∧ ((IR x_1.2.2 x_1.1) ∧ (insBq3 x_1) ∧ isI64
 (x_1.2.2 - z1) ∧ NX I_1 μ_1 x_1 (insBq0 x_1)) ∧ (IR x_1.2.2 x_1.1) ∧ (insBq3 x_1) ∧ isI64 (x_1.2.2 - z1) ∧ NX I_1 μ_1 x_1 (insBq0 x_1)) ∧ (IR (x_1.2.2 - z1) x_1.1) ∧ (IR x_1.2.2
 x_1.1) ∧ (insBq3 x_1) ∧ isI64 (x_1.2.2 - z1) ∧ NX I_1 μ_1 x_1 (insBq0 x_1)) (isI64 (x_1.2.1 + z1) ∧ NX I μ x (x_1.1,x_1.2.1 + z1))) (isI64 (x_1.2.1 + z1) ∧ NX I μ x (x_1.1,
 x_1.2.1 + z1))) (() = () ∧ x.1 = jQl xs)):=by kernel_rfl
noncomputable def AS3 (f:Nat):Ctx:=mkctxO bs [] [] [] [] [] [(169,insO f)] hintS
theorem stabA_nf (n:Int) (xs:List Rw):fnwpO (AS3 106) 6 149 (stabO 106) (n,(106:Nat)) xs = (decide (z20 ≤ n) = false ∧ (z0 = z0 ∧ n = (ln xs) ∧ (106:Nat) = (106 :
 Nat)) ∧ decide (z20 < n) = false ∧ () = () ∧ jQl xs = jQl xs):=by kernel_rfl
theorem stabB_nf (n:Int) (xs:List Rw):fnwpO (AS3 110) 6 149 (stabO 110) (n,(110:Nat)) xs = (decide (z20 ≤ n) = false ∧ (z0 = z0 ∧ n = (ln xs) ∧ (110:Nat) = (110 :
 Nat)) ∧ decide (z20 < n) = false ∧ () = () ∧ jQl xs = jQl xs):=by kernel_rfl
noncomputable def AS4 (f:Nat):Ctx:=mkctxO bs [] [] [] [] [] [(149,stabO f)] hintS
theorem sortA_nf (xs:List Rw):fnwpO (AS4 106) 6 105 (sortO 106) (106:Nat) xs = (((ln xs) = (ln xs) ∧ xs.length ≤ y19 ∧ (106:Nat) = (106:Nat)) ∧ () = () ∧ jQl xs =
 jQl xs):=by kernel_rfl
theorem sortB_nf (xs:List Rw):fnwpO (AS4 110) 6 105 (sortO 110) (110:Nat) xs = (((ln xs) = (ln xs) ∧ xs.length ≤ y19 ∧ (110:Nat) = (110:Nat)) ∧ () = () ∧ jQl xs =
 jQl xs):=by kernel_rfl
noncomputable def AS5:Ctx:=mkctxO bs [] [] [] [] [] [(105,sortO 106)] hintS
abbrev live_nf_t0:Type:=Int × List ((Int × Int × Int × Int × Int × Int × Int × List Int × List (List Int × Int × Int × List Int × Unit) × Unit) × Int × Unit)
abbrev live_nf_e0:List ((Int × Int × Int × Int × Int × Int × Int × List Int × List (List Int × Int × Int × List Int × Unit) × Unit) × Int × Unit):=[]
abbrev live_nf_e1:List (List Int × Int × Int × List Int × Unit):=[]
abbrev jY4 (rs:List Rw) (x:live_nf_t0):=rs.getD x.1.toNat ((z0,z0,z0,z0,z0,z0,z0,eI,live_nf_e1,()),z0,())
abbrev liveq1 (rs:List Rw) (x:live_nf_t0):=(((jY4 rs x).1.1,(jY4 rs x).1.2.1,(jY4 rs x).1.2.2.1,(jY4 rs x).1.2.2.2.1,(jY4 rs x).1.2.2.2.2.1,(jY4 rs
 x).1.2.2.2.2.2.1,(jY4 rs x).1.2.2.2.2.2.2.1,(jY4 rs x).1.2.2.2.2.2.2.2.1,(jY4 rs x).1.2.2.2.2.2.2.2.2.1,()),(jY4 rs x).2.1,())
theorem live_nf (sc:Sc) (cm da:Int) (ds:List Int) (rs:List Rw) (id:Int):fnwp AS5 8 63 liveSp ((sc,cm,da,ds,rs,()),id) = (LP (z0,live_nf_e0) fun I μ x=>SD
 (x.1 < (ln rs)) ((IR x.1 rs) ∧ SD ((jY4 rs x).1.1 = id) (SD ((jY4 rs x).2.1 = z0) (roomP AS5 y58 (x.2.length + [(liveq1 rs x)].length) ∧ isI64 (x.1 + z1) ∧ NX I μ x (x.1 +
 z1,x.2 ++ [(liveq1 rs x)])) (isI64 (x.1 + z1) ∧ NX I μ x (x.1 + z1,x.2))) (isI64 (x.1 + z1) ∧ NX I μ x (x.1 + z1,x.2))) ((x.2.length ≤ y19 ∧ (106:Nat) = (106:Nat)) ∧
 jQl x.2 = liveS (sc,cm,da,ds,rs,()) id)):=by kernel_rfl
end Go.Proofs.YtcnpblceamgfcaaGreatDoor
namespace Go.PL
open Go.AM
theorem getD_mid {α:Type} (A:List α) (x:α) (B:List α) (d:α):(A ++ x :: B).getD A.length d = x:=by
 rw [List.getD_eq_getElem?_getD,List.getElem?_append_right (Nat.le_refl _)]
 simp
theorem getD_mid1 {α:Type} (A:List α) (x y:α) (B:List α) (d:α):(A ++ x :: y :: B).getD (A.length + 1) d = y:=by
 rw [List.getD_eq_getElem?_getD,List.getElem?_append_right (by omega)]
 simp
theorem set_mid {α:Type} (A:List α) (x z:α) (B:List α):(A ++ x :: B).set A.length z = A ++ z :: B:=by
 rw [List.set_append_right _ _ (Nat.le_refl _)]
 simp
theorem set_mid1 {α:Type} (A:List α) (x y z:α) (B:List α):(A ++ x :: y :: B).set (A.length + 1) z = A ++ x :: z :: B:=by
 rw [List.set_append_right _ _ (by omega)]
 simp
theorem cmpR_lt {x y:Rw}:cmpR x y < 0 ↔ fromR x < fromR y:=by
 unfold cmpR cmpI
 split
 ·omega
 ·split <;> omega
theorem isortB_snoc (l:List Rw) (r:Rw):jVa (l ++ [r]) = insB r (jVa l):=by
 unfold jVa
 rw [List.foldl_append]
 rfl
def OutI (xs c:List Rw) (i:Int):Prop:=1 ≤ i ∧ c = (jVa (xs.take i.toNat)).reverse ++ xs.drop i.toNat
def InI (xs c:List Rw) (i j:Int):Prop:=∃ P Q r rest,j = (P.length:Int) ∧ i = ((P.length + Q.length:Nat):Int) ∧ 1 ≤ i ∧ c = P.reverse ++ r :: (Q.reverse ++ rest) ∧ insB r (Q ++ P) = Q ++ insB r P ∧ jVa (xs.take i.toNat) = Q ++ P ∧ xs.drop i.toNat = r :: rest
theorem out_start (xs:List Rw):OutI xs xs (0 + 1):=by
 refine ⟨by omega,?_⟩
 cases xs <;> rfl
theorem out_end {xs c:List Rw} {i:Int} (h:OutI xs c i) (hi:¬ i < xs.length):c = jQl xs:=by
 obtain ⟨h1,h2⟩:=h
 rw [h2,List.take_of_length_le (by omega),List.drop_of_length_le (by omega),List.append_nil]
 rfl
theorem insB_len (r:Rw):∀ l:List Rw,(insB r l).length = l.length + 1
 | []=>rfl
 | x :: l=>by
  unfold insB
  split
  ·rw [List.length_cons,insB_len r l,List.length_cons]
  ·rfl
theorem isortB_len (l:List Rw):(jVa l).length = l.length:=by
 have key:∀ (l acc:List Rw),(l.foldl (fun acc r=>insB r acc) acc).length = acc.length + l.length:=by
  intro l
  induction l with
  | nil=>intro acc; rfl
  | cons r l ih=>intro acc; rw [List.foldl_cons,ih,insB_len,List.length_cons]; omega
 have:=key l []
 rw [List.length_nil,Nat.zero_add] at this
 exact this
theorem in_start {xs c:List Rw} {i:Int} (h:OutI xs c i) (hi:i < xs.length):InI xs c i i:=by
 obtain ⟨h1,h2⟩:=h
 have hlt:i.toNat < xs.length:=by omega
 have hlen:(jVa (xs.take i.toNat)).length = i.toNat:=by rw [isortB_len,List.length_take]; omega
 have hd:=List.drop_eq_getElem_cons hlt
 refine ⟨jVa (xs.take i.toNat),[],xs[i.toNat],xs.drop (i.toNat + 1),by omega,by simp only [List.length_nil]; omega,h1,?_,rfl,rfl,hd⟩
 rw [h2,hd]
 rfl
theorem in_len {xs c:List Rw} {i j:Int} (h:InI xs c i j):0 ≤ j ∧ j < (c.length:Int) ∧ j ≤ i:=by
 obtain ⟨P,Q,r,rest,h1,h2,h3,h4,_⟩:=h
 rw [h4]
 simp only [List.length_append,List.length_reverse,List.length_cons]
 omega
theorem in_out {xs:List Rw} {i:Int} {P Q rest:List Rw} {r:Rw} (h3:1 ≤ i) (h6:jVa (xs.take i.toNat) = Q ++ P) (h7:xs.drop i.toNat = r :: rest) (h5:insB r (Q ++ P) = Q ++ insB r P) (hr:insB r P = r :: P):OutI xs (P.reverse ++ r :: (Q.reverse ++ rest)) (i + 1):=by
 refine ⟨by omega,?_⟩
 have hlt:i.toNat < xs.length:=by
  rcases Nat.lt_or_ge i.toNat xs.length with h' | h'
  ·exact h'
  ·rw [List.drop_of_length_le h'] at h7; cases h7
 have hd:=List.drop_eq_getElem_cons hlt
 rw [h7] at hd
 injection hd with e1 e2
 rw [show (i + 1).toNat = i.toNat + 1 by omega,List.take_add_one,List.getElem?_eq_getElem hlt,← e1,← e2]
 show _ = (jVa (xs.take i.toNat ++ [r])).reverse ++ rest
 rw [isortB_snoc,h6,h5,hr]
 simp
theorem in_end0 {xs c:List Rw} {i j:Int} (h:InI xs c i j) (hj:¬ 0 < j):OutI xs c (i + 1):=by
 obtain ⟨P,Q,r,rest,h1,h2,h3,h4,h5,h6,h7⟩:=h
 have hP:P = []:=List.eq_nil_of_length_eq_zero (by omega)
 subst hP
 rw [h4]
 exact in_out h3 h6 h7 h5 rfl
theorem in_split {P:List Rw} {j:Int} (h1:j = (P.length:Int)) (hj:0 < j):∃ p P',P = p :: P' ∧ j.toNat = P'.length + 1 ∧ (j - 1).toNat = P'.length:=by
 cases P with
 | nil=>simp at h1; omega
 | cons p P'=>exact ⟨p,P',rfl,by simp only [List.length_cons] at h1; omega,by simp only [List.length_cons] at h1; omega⟩
theorem in_get {P' S:List Rw} {p r:Rw}:((p :: P').reverse ++ r :: S).getD (P'.length + 1) dRw = r ∧ ((p :: P').reverse ++ r :: S).getD P'.length dRw = p:=by
 rw [List.reverse_cons,List.append_assoc]
 have h1:=getD_mid1 P'.reverse p r S dRw
 have h2:=getD_mid P'.reverse p (r :: S) dRw
 rw [List.length_reverse] at h1 h2
 exact ⟨h1,h2⟩
theorem in_end1 {xs c:List Rw} {i j:Int} (h:InI xs c i j) (hj:0 < j) (hc:¬ cmpR (c.getD j.toNat dRw) (c.getD (j - 1).toNat dRw) < 0):OutI xs c (i + 1):=by
 obtain ⟨P,Q,r,rest,h1,h2,h3,h4,h5,h6,h7⟩:=h
 obtain ⟨p,P',rfl,e1,e2⟩:=in_split h1 hj
 rw [h4] at hc
 rw [e1,e2,in_get.1,in_get.2,cmpR_lt] at hc
 rw [h4]
 refine in_out h3 h6 h7 h5 ?_
 unfold insB
 rw [if_neg hc]
theorem in_step {xs c:List Rw} {i j:Int} (h:InI xs c i j) (hj:0 < j) (hc:cmpR (c.getD j.toNat dRw) (c.getD (j - 1).toNat dRw) < 0):InI xs ((c.set j.toNat (c.getD (j - 1).toNat dRw)).set (j - 1).toNat (c.getD j.toNat dRw)) i (j - 1):=by
 obtain ⟨P,Q,r,rest,h1,h2,h3,h4,h5,h6,h7⟩:=h
 obtain ⟨p,P',rfl,e1,e2⟩:=in_split h1 hj
 rw [h4] at hc ⊢
 rw [e1,e2,in_get.1,in_get.2] at hc ⊢
 rw [cmpR_lt] at hc
 refine ⟨P',Q ++ [p],r,rest,by simp only [List.length_cons] at h1; omega,by simp only [List.length_cons,List.length_append,List.length_nil] at h2 ⊢; omega,h3,?_,?_,?_,h7⟩
 ·rw [List.reverse_cons,List.append_assoc]
  have s1:=set_mid1 P'.reverse p r p (Q.reverse ++ rest)
  have s2:=set_mid P'.reverse p r (p :: (Q.reverse ++ rest))
  rw [List.length_reverse] at s1 s2
  show ((P'.reverse ++ p :: r :: (Q.reverse ++ rest)).set (P'.length + 1) p).set P'.length r = _
  rw [s1,s2]
  simp
 ·rw [List.append_assoc]
  show insB r (Q ++ (p :: P')) = _
  rw [h5,show insB r (p :: P') = p :: insB r P' from if_pos hc]
  simp
 ·rw [h6]
  simp
end Go.PL
namespace Go.Proofs.YtcnpblceamgfcaaGreatDoor
open Go.AM Go.PL
attribute [local irreducible] fnwp fnwpG fnwpO
theorem AS0_sound:jQa AS0:=jQd trivial trivial
theorem sat_cmp:Sat bs.P 107 cmpSp:=jQe AS0_sound 6 _ cmpSp fun (⟨x,y⟩:Int × Int) hok _=>by
 rw [cmp_nf]; delta SD SP z0 z1
 unfold cmpI
 repeat' (first | apply And.intro | (intro hh; first | (replace hh:=dt hh) | (replace hh:=df hh) | (replace hh:=ndt hh) | (replace hh:=ndf hh)) | intro hh)
 all_goals first
  | (exfalso; simp_all; done)
  | (rw [if_pos (by omega)]; done)
  | (rw [if_neg (by omega),if_pos (by omega)]; done)
  | (rw [if_neg (by omega),if_neg (by omega)]; done)
theorem AS1_sound:jQa AS1:=jQd ⟨sat_cmp,trivial⟩ trivial
theorem sat_cmpA:Sat bs.P 106 cmpRSp:=jQe AS1_sound 6 _ cmpRSp fun (⟨x,y⟩:Rw × Rw) hok _=>by
 rw [cmpA_nf]
 exact ⟨trivial,rfl⟩
theorem sat_cmpB:Sat bs.P 110 cmpRSp:=jQe AS1_sound 6 _ cmpRSp fun (⟨x,y⟩:Rw × Rw) hok _=>by
 rw [cmpB_nf]
 exact ⟨trivial,rfl⟩
theorem AS2_sound:jQa AS2:=jQd ⟨sat_cmpA,sat_cmpB,trivial⟩ trivial
theorem satO_insA:SatO bs.P 169 (insO 106):=jY6 AS2_sound 6 _ (insO 106) fun (⟨a,b,f⟩:Int × Int × Nat) (xs:List Rw) hok hx hp=>by
 obtain ⟨ha,hb,hf⟩:a = 0 ∧ b = (xs.length:Int) ∧ f = 106:=hp
 subst ha hb hf
 rw [insA_nf]; delta insA_nf_t0 insA_nf_e0 insAq2 insAq1 insAq0 insAq3 IR LP NX SD eI z0 z1; dsimp only
 have hm:xs.length ≤ 9223372036854775807:=hx.1
 refine ⟨by unfold isI64; omega,fun x=>OutI xs x.1 x.2,fun x=>(xs.length - x.2).toNat,out_start xs,?_⟩
 rintro ⟨c,i⟩ ho
 dsimp only at ho ⊢
 refine ⟨fun h=>?_,fun h=>⟨rfl,out_end ho (df h)⟩⟩
 have h:=dt h
 have hi1:=ho.1
 have hii:isI64 (i + 1):=by unfold isI64; omega
 have hmu:((xs.length:Int) - (i + 1)).toNat < ((xs.length:Int) - i).toNat:=by omega
 refine ⟨fun y=>InI xs y.1 i y.2.2 ∧ y.2.1 = i,fun y=>y.2.2.toNat,⟨in_start ho h,rfl⟩,?_⟩
 rintro ⟨c',i',j⟩ ⟨hin,hi'⟩
 dsimp only at hin hi' ⊢
 subst hi'
 refine ⟨fun hj=>?_,fun hj=>⟨hii,in_end0 hin (df hj),hmu⟩⟩
 have hj:=dt hj
 obtain ⟨b1,b2,b3⟩:=in_len hin
 have hj1:isI64 (j - 1):=by unfold isI64; omega
 refine ⟨⟨by omega,b2⟩,hj1,⟨by omega,by omega⟩,trivial,fun hc=>?_,fun hc=>⟨hii,in_end1 hin hj (df hc),hmu⟩⟩
 have hstep:=in_step hin hj (dt hc)
 have hmu2:(j - 1).toNat < j.toNat:=by omega
 have p1:0 ≤ j - 1 ∧ j - 1 < (c'.length:Int):=⟨by omega,by omega⟩
 have p2:0 ≤ j ∧ j < (c'.length:Int):=⟨by omega,b2⟩
 have p3:∀ v,0 ≤ j - 1 ∧ j - 1 < ((c'.set j.toNat v).length:Int):=fun v=>by rw [List.length_set]; exact p1
 have hrfl:i' = i':=rfl
 repeat' first | exact hj1 | exact p1 | exact p2 | exact p3 _ | exact ⟨hstep,hrfl⟩ | exact hmu2 | apply And.intro
theorem AS3A_sound:jQa (AS3 106):=jQ9 trivial trivial trivial trivial trivial ⟨satO_insA,trivial⟩
theorem satO_stabA:SatO bs.P 149 (stabO 106):=jY6 AS3A_sound 6 _ (stabO 106) fun (⟨n,f⟩:Int × Nat) (xs:List Rw) hok hx hp=>by
 obtain ⟨hn,hl,hf⟩:n = (xs.length:Int) ∧ xs.length ≤ 19 ∧ f = 106:=hp
 subst hn hf
 rw [stabA_nf]; delta ln z0 z20
 exact ⟨decide_eq_false (by omega),⟨rfl,rfl,rfl⟩,decide_eq_false (by omega),rfl,rfl⟩
theorem AS4A_sound:jQa (AS4 106):=jQ9 trivial trivial trivial trivial trivial ⟨satO_stabA,trivial⟩
theorem satO_sortA:SatO bs.P 105 (sortO 106):=jY6 AS4A_sound 6 _ (sortO 106) fun (f:Nat) (xs:List Rw) hok hx hp=>by
 obtain ⟨hl,hf⟩:xs.length ≤ 19 ∧ f = 106:=hp
 subst hf
 rw [sortA_nf]; delta ln y19
 exact ⟨⟨rfl,hl,rfl⟩,rfl,rfl⟩
theorem satO_insB:SatO bs.P 169 (insO 110):=jY6 AS2_sound 6 _ (insO 110) fun (⟨a,b,f⟩:Int × Int × Nat) (xs:List Rw) hok hx hp=>by
 obtain ⟨ha,hb,hf⟩:a = 0 ∧ b = (xs.length:Int) ∧ f = 110:=hp
 subst ha hb hf
 rw [insB_nf]; delta insB_nf_t0 insB_nf_e0 insBq2 insBq1 insBq0 insBq3 IR LP NX SD eI z0 z1; dsimp only
 have hm:xs.length ≤ 9223372036854775807:=hx.1
 refine ⟨by unfold isI64; omega,fun x=>OutI xs x.1 x.2,fun x=>(xs.length - x.2).toNat,out_start xs,?_⟩
 rintro ⟨c,i⟩ ho
 dsimp only at ho ⊢
 refine ⟨fun h=>?_,fun h=>⟨rfl,out_end ho (df h)⟩⟩
 have h:=dt h
 have hi1:=ho.1
 have hii:isI64 (i + 1):=by unfold isI64; omega
 have hmu:((xs.length:Int) - (i + 1)).toNat < ((xs.length:Int) - i).toNat:=by omega
 refine ⟨fun y=>InI xs y.1 i y.2.2 ∧ y.2.1 = i,fun y=>y.2.2.toNat,⟨in_start ho h,rfl⟩,?_⟩
 rintro ⟨c',i',j⟩ ⟨hin,hi'⟩
 dsimp only at hin hi' ⊢
 subst hi'
 refine ⟨fun hj=>?_,fun hj=>⟨hii,in_end0 hin (df hj),hmu⟩⟩
 have hj:=dt hj
 obtain ⟨b1,b2,b3⟩:=in_len hin
 have hj1:isI64 (j - 1):=by unfold isI64; omega
 refine ⟨⟨by omega,b2⟩,hj1,⟨by omega,by omega⟩,trivial,fun hc=>?_,fun hc=>⟨hii,in_end1 hin hj (df hc),hmu⟩⟩
 have hstep:=in_step hin hj (dt hc)
 have hmu2:(j - 1).toNat < j.toNat:=by omega
 have p1:0 ≤ j - 1 ∧ j - 1 < (c'.length:Int):=⟨by omega,by omega⟩
 have p2:0 ≤ j ∧ j < (c'.length:Int):=⟨by omega,b2⟩
 have p3:∀ v,0 ≤ j - 1 ∧ j - 1 < ((c'.set j.toNat v).length:Int):=fun v=>by rw [List.length_set]; exact p1
 have hrfl:i' = i':=rfl
 repeat' first | exact hj1 | exact p1 | exact p2 | exact p3 _ | exact ⟨hstep,hrfl⟩ | exact hmu2 | apply And.intro
theorem AS3B_sound:jQa (AS3 110):=jQ9 trivial trivial trivial trivial trivial ⟨satO_insB,trivial⟩
theorem satO_stabB:SatO bs.P 149 (stabO 110):=jY6 AS3B_sound 6 _ (stabO 110) fun (⟨n,f⟩:Int × Nat) (xs:List Rw) hok hx hp=>by
 obtain ⟨hn,hl,hf⟩:n = (xs.length:Int) ∧ xs.length ≤ 19 ∧ f = 110:=hp
 subst hn hf
 rw [stabB_nf]; delta ln z0 z20
 exact ⟨decide_eq_false (by omega),⟨rfl,rfl,rfl⟩,decide_eq_false (by omega),rfl,rfl⟩
theorem AS4B_sound:jQa (AS4 110):=jQ9 trivial trivial trivial trivial trivial ⟨satO_stabB,trivial⟩
theorem jKg:SatO bs.P 105 (sortO 110):=jY6 AS4B_sound 6 _ (sortO 110) fun (f:Nat) (xs:List Rw) hok hx hp=>by
 obtain ⟨hl,hf⟩:xs.length ≤ 19 ∧ f = 110:=hp
 subst hf
 rw [sortB_nf]; delta ln y19
 exact ⟨⟨rfl,hl,rfl⟩,rfl,rfl⟩
end Go.Proofs.YtcnpblceamgfcaaGreatDoor
namespace Go.PL
open Go.AM
theorem liveF_snoc (id:Int) (l:List Rw) {n:Nat} (h:n < l.length):liveF id (l.take (n + 1)) = if (l.getD n dRw).1.1 = id ∧ (l.getD n dRw).2.1 = 0 then liveF id (l.take n) ++ [l.getD n dRw] else liveF id (l.take n):=by
 unfold liveF
 rw [List.take_add_one,List.filter_append,List.getD_eq_getElem?_getD,List.getElem?_eq_getElem h]
 simp only [Option.toList_some,Option.getD_some,List.filter_cons,List.filter_nil]
 by_cases hc:l[n].1.1 = id ∧ l[n].2.1 = 0
 ·rw [if_pos hc,if_pos (by rw [decide_eq_true hc.1,decide_eq_true hc.2]; rfl)]
 ·rw [if_neg hc,if_neg (by simp only [Bool.and_eq_true,decide_eq_true_eq]; exact hc),List.append_nil]
theorem liveF_len (id:Int) (l:List Rw) (n:Nat):(liveF id (l.take n)).length ≤ (liveF id l).length:=by
 have:liveF id l = liveF id (l.take n) ++ liveF id (l.drop n):=by
  unfold liveF
  rw [← List.filter_append,List.take_append_drop]
 rw [this,List.length_append]
 omega
end Go.PL
namespace Go.Proofs.YtcnpblceamgfcaaGreatDoor
open Go.AM Go.PL
attribute [local irreducible] fnwp fnwpG fnwpO
theorem AS5_sound:jQa AS5:=jQ9 trivial trivial trivial trivial trivial ⟨satO_sortA,trivial⟩
theorem kQu:Sat bs.P 63 liveSp:=jQe AS5_sound 8 _ liveSp fun (⟨⟨sc,cm,da,ds,rs,⟨⟩⟩,id⟩:Bo × Int) hok hp=>by
 have hp:(liveF id rs).length ≤ 19:=hp
 rw [live_nf]; delta live_nf_t0 live_nf_e0 live_nf_e1 jY4 liveq1 IR LP NX SD eI ln y19 y58 z0 z1; dsimp only
 have hm:rs.length ≤ 9223372036854775807:=hok.1.2.2.2.2.1.1
 refine ⟨fun x=>0 ≤ x.1 ∧ x.1 ≤ rs.length ∧ x.2 = liveF id (rs.take x.1.toNat),fun x=>(rs.length - x.1).toNat,⟨by omega,by omega,rfl⟩,?_⟩
 rintro ⟨x,o⟩ ⟨h0,h1,h2⟩
 dsimp only at h0 h1 h2 ⊢
 subst h2
 have hl:=liveF_len id rs x.toNat
 refine ⟨fun h=>?_,fun h=>?_⟩
 ·have h:=dt h
  have hi:isI64 (x + 1):=jZv h0 h hm
  have hmu:((rs.length:Int) - (x + 1)).toNat < ((rs.length:Int) - x).toNat:=by omega
  have hs:=liveF_snoc id rs (n:=x.toNat) (by omega)
  rw [← show (x + 1).toNat = x.toNat + 1 by omega] at hs
  refine ⟨⟨h0,h⟩,fun hid=>⟨fun hd=>?_,fun hd=>⟨hi,⟨by omega,by omega,?_⟩,hmu⟩⟩,fun hid=>⟨hi,⟨by omega,by omega,?_⟩,hmu⟩⟩
  ·have hid:=dt hid
   have hd:=dt hd
   refine ⟨roomB 112 (by kernel_rfl) (by omega) (by rw [List.length_singleton]; omega),hi,⟨by omega,by omega,?_⟩,hmu⟩
   rw [hs,if_pos ⟨hid,hd⟩]
   rfl
  ·rw [hs,if_neg fun g=>df hd g.2]
  ·rw [hs,if_neg fun g=>df hid g.1]
 ·have h:=df h
  rw [List.take_of_length_le (by omega)]
  exact ⟨⟨hp,rfl⟩,rfl⟩
end Go.Proofs.YtcnpblceamgfcaaGreatDoor
namespace Go.PL
open Go.AM
def hasF (id:Int) (l:List Rw):Bool:=l.any fun r=>decide (r.1.1 = id)
def verF (id:Int) (l:List Rw):Int:=l.foldl (fun n r=>if r.1.1 = id then max n r.1.2.1 else n) 0
def dieR (id from_ commit:Int) (r:Rw):Rw:=if r.1.1 = id ∧ fromR r = from_ ∧ r.2.1 = 0 ∧ r.1.2.2.2.2.2.2.1 < commit then (r.1,commit,()) else r
def dieF (id from_ commit:Int) (l:List Rw):List Rw:=l.map (dieR id from_ commit)
def endR (l:List Rw):Int:=(l.getD (l.length - 1) dRw).1.2.2.2.2.2.1
end Go.PL
namespace Go.Proofs.YtcnpblceamgfcaaGreatDoor
open Go.AM Go.PL
def hasRSp:FSpec:=⟨[BO,I],[.bool],fun _=>True,fun x=>hasF x.2 (x.1:Bo).2.2.2.2.1⟩
def verSp:FSpec:=⟨[BO,I],[I],fun _=>True,fun x=>verF x.2 (x.1:Bo).2.2.2.2.1⟩
def dieSp:FSpec:=⟨[RL,I,I,I],[RL],fun x=>(x.1:List Rw).length ≤ 100000,fun x=>dieF x.2.1 x.2.2.1 x.2.2.2 x.1⟩
def endSp:FSpec:=⟨[RL],[I],fun l=>1 ≤ (l:List Rw).length,fun l=>endR l⟩
def loopsV (f:FuncId) (r:Nat):List LA :=
 if Nat.beq f 128 then [.slot 5 I] else
 if Nat.beq f 130 then [.slot 5 I,.slot 6 I] else
 if Nat.beq f 131 then [.gslot 9 58 RW,.slot 10 I] else
 if Nat.beq f 87 then (bif Nat.beq r 3 then [.gslot 5 58 RW,.slot 6 I] else [.gslot 5 58 RW,.slot 6 I,.slot 7 I]) else
 []
def hintV (f:FuncId):Hint:=if Nat.beq f 999999995 then ⟨fun _=>[],fun _=>.split,fun _=>.split,datN⟩ else ⟨loopsV f,fun _=>.split,fun _=>.split,fun _=>0⟩
noncomputable def AV0:Ctx:=mkctx bs [] [] hintV
abbrev hasR_nf_e0:List (List Int × Int × Int × List Int × Unit):=[]
theorem hasR_nf (sc:Sc) (cm da:Int) (ds:List Int) (rs:List Rw) (id:Int):fnwp AV0 6 128 hasRSp ((sc,cm,da,ds,rs,()),id) = (LP z0 fun I μ x=>SD (x < (ln rs))
 ((IR x rs) ∧ SD ((rs.getD x.toNat ((z0,z0,z0,z0,z0,z0,z0,eI,hasR_nf_e0,()),z0,())).1.1 = id) (true = hasF id rs) (isI64 (x + z1) ∧ NX I μ x (x + z1))) (false = hasF
 id rs)):=by kernel_rfl
abbrev ver_nf_e0:List (List Int × Int × Int × List Int × Unit):=[]
theorem ver_nf (sc:Sc) (cm da:Int) (ds:List Int) (rs:List Rw) (id:Int):fnwp AV0 6 130 verSp ((sc,cm,da,ds,rs,()),id) = (LP (z0,z0) fun I μ x=>SD (x.2 < (ln
 rs)) ((IR x.2 rs) ∧ SD ((rs.getD x.2.toNat ((z0,z0,z0,z0,z0,z0,z0,eI,ver_nf_e0,()),z0,())).1.1 = id) ((IR x.2 rs) ∧ isI64 (x.2 + z1) ∧ NX I μ x (max x.1 (rs.getD
 x.2.toNat ((z0,z0,z0,z0,z0,z0,z0,eI,ver_nf_e0,()),z0,())).1.2.1,x.2 + z1)) (isI64 (x.2 + z1) ∧ NX I μ x (x.1,x.2 + z1))) (x.1 = verF id rs)):=by kernel_rfl
abbrev end_nf_e0:List (List Int × Int × Int × List Int × Unit):=[]
theorem end_nf (l:List Rw):fnwp AV0 6 132 endSp l = (isI64 ((ln l) - z1) ∧ (IR ((ln l) - z1) l) ∧ (l.getD ((ln l) - z1).toNat ((z0,z0,z0,z0,z0,z0,z0,eI,end_nf_e0,
 ()),z0,())).1.2.2.2.2.2.1 = endR l):=by kernel_rfl
abbrev rLive_nf_e0:List ((Int × Int × Int × Int × Int × Int × Int × List Int × List (List Int × Int × Int × List Int × Unit) × Unit) × Int × Unit):=[]
abbrev rLive_nf_e1:List (List Int × Int × Int × List Int × Unit):=[]
abbrev jYr:=((z0,z0,z0,z0,z0,z0,z0,eI,rLive_nf_e1,()),z0,())
theorem rLive_nf (sc:Sc) (cm da:Int) (ds:List Int) (rs:List Rw) (id:Int):fnwp AV0 6 87 liveSp ((sc,cm,da,ds,rs,()),id) = (LP (rLive_nf_e0,z0) fun I μ x=>SD
 (x.2 < (ln rs)) ((IR x.2 rs) ∧ SD ((rs.getD x.2.toNat jYr).1.1 = id) ((IR x.2 rs) ∧ SD ((rs.getD x.2.toNat jYr).2.1 = z0) ((IR x.2 rs) ∧ roomP AV0 y58 (x.1.length +
 [rs.getD x.2.toNat jYr].length) ∧ LP (x.1 ++ [rs.getD x.2.toNat jYr],x.2,(ln x.1)) fun I_1 μ_1 x_1=>SD (z0 < x_1.2.2) (isI64 (x_1.2.2 - z1) ∧ (IR (x_1.2.2 - z1)
 x_1.1) ∧ (IR x_1.2.1 rs) ∧ SD ((rs.getD x_1.2.1.toNat jYr).1.2.2.2.2.1 < (x_1.1.getD (x_1.2.2 - z1).toNat jYr).1.2.2.2.2.1) (isI64 (x_1.2.2 - z1) ∧ (IR (x_1.2.2 - z1)
 x_1.1) ∧ (IR x_1.2.2 x_1.1) ∧ isI64 (x_1.2.2 - z1) ∧ NX I_1 μ_1 x_1 (x_1.1.set x_1.2.2.toNat (x_1.1.getD (x_1.2.2 - z1).toNat jYr),x_1.2.1,x_1.2.2 - z1)) ((IR x_1.2.1 rs)
 ∧ (IR x_1.2.2 x_1.1) ∧ isI64 (x_1.2.1 + z1) ∧ NX I μ x (x_1.1.set x_1.2.2.toNat (rs.getD x_1.2.1.toNat jYr),x_1.2.1 + z1))) ((IR x_1.2.1 rs) ∧ (IR x_1.2.2 x_1.1) ∧ isI64
 (x_1.2.1 + z1) ∧ NX I μ x (x_1.1.set x_1.2.2.toNat (rs.getD x_1.2.1.toNat jYr),x_1.2.1 + z1))) (isI64 (x.2 + z1) ∧ NX I μ x (x.1,x.2 + z1))) (isI64 (x.2 + z1) ∧ NX I μ x
 (x.1,x.2 + z1))) (x.1 = liveS (sc,cm,da,ds,rs,()) id)):=by kernel_rfl
abbrev die_nf_t0:Type:=List ((Int × Int × Int × Int × Int × Int × Int × List Int × List (List Int × Int × Int × List Int × Unit) × Unit) × Int × Unit) × Int
abbrev die_nf_e0:List (List Int × Int × Int × List Int × Unit):=[]
abbrev dieq0 (x:die_nf_t0):=x.1.getD x.2.toNat ((z0,z0,z0,z0,z0,z0,z0,eI,die_nf_e0,()),z0,())
theorem die_nf (rs:List Rw) (id fr cm:Int):fnwp AV0 6 131 dieSp (rs,id,fr,cm) = (roomP AV0 y58 rs.length ∧ LP (rs,z0) fun I μ x=>SD (x.2 < (ln x.1)) ((IR x.2 x.1) ∧
 SD ((dieq0 x).1.1 = id) ((IR x.2 x.1) ∧ SD ((dieq0 x).1.2.2.2.2.1 = fr) ((IR x.2 x.1) ∧ SD ((dieq0 x).2.1 = z0) ((IR x.2 x.1) ∧ SD ((dieq0 x).1.2.2.2.2.2.2.1 < cm) ((IR x.2 x.1)
 ∧ isI64 (x.2 + z1) ∧ NX I μ x (x.1.set x.2.toNat ((dieq0 x).1,cm,(dieq0 x).2.2),x.2 + z1)) (isI64 (x.2 + z1) ∧ NX I μ x (x.1,x.2 + z1))) (isI64 (x.2 + z1) ∧ NX I μ x (x.1,
 x.2 + z1))) (isI64 (x.2 + z1) ∧ NX I μ x (x.1,x.2 + z1))) (isI64 (x.2 + z1) ∧ NX I μ x (x.1,x.2 + z1))) (x.1 = dieF id fr cm rs)):=by kernel_rfl
end Go.Proofs.YtcnpblceamgfcaaGreatDoor
namespace Go.PL
open Go.AM
theorem jXd {α:Type} {l:List α} {d:α} {x:Int} (h0:0 ≤ x) (h:x < l.length):l.take (x + 1).toNat = l.take x.toNat ++ [l.getD x.toNat d]:=by
 have hlt:x.toNat < l.length:=by omega
 rw [show (x + 1).toNat = x.toNat + 1 by omega,List.take_add_one,List.getD_eq_getElem?_getD,List.getElem?_eq_getElem hlt]
 rfl
theorem jJc {α:Type} {l:List α} {d:α} {x:Int} (h0:0 ≤ x) (h:x < l.length):l.drop x.toNat = l.getD x.toNat d :: l.drop (x + 1).toNat:=by
 have hlt:x.toNat < l.length:=by omega
 rw [show (x + 1).toNat = x.toNat + 1 by omega,List.getD_eq_getElem?_getD,List.getElem?_eq_getElem hlt]
 exact List.drop_eq_getElem_cons hlt
theorem hasF_snoc (id:Int) (l:List Rw) (r:Rw):hasF id (l ++ [r]) = (hasF id l || decide (r.1.1 = id)):=by
 unfold hasF
 rw [List.any_append]
 simp
theorem jYw (id:Int) (l:List Rw) (r:Rw):verF id (l ++ [r]) = if r.1.1 = id then max (verF id l) r.1.2.1 else verF id l:=by
 unfold verF
 rw [List.foldl_append]
 rfl
theorem liveF_app (id:Int) (l:List Rw) (r:Rw):liveF id (l ++ [r]) = if r.1.1 = id ∧ r.2.1 = 0 then liveF id l ++ [r] else liveF id l:=by
 unfold liveF
 rw [List.filter_append]
 simp only [List.filter_cons,List.filter_nil]
 by_cases hc:r.1.1 = id ∧ r.2.1 = 0
 ·rw [if_pos hc,if_pos (by rw [decide_eq_true hc.1,decide_eq_true hc.2]; rfl)]
 ·rw [if_neg hc,if_neg (by simp only [Bool.and_eq_true,decide_eq_true_eq]; exact hc),List.append_nil]
def HolI (S:List Rw) (r:Rw) (c:List Rw) (k:Int):Prop:=∃ P Q h,k = (P.length:Int) ∧ c = P.reverse ++ h :: Q.reverse ∧ S = Q ++ P ∧ insB r S = Q ++ insB r P
theorem jZa (l:List Rw):(jQl l).length = l.length:=by
 unfold jQl
 rw [List.length_reverse,isortB_len]
theorem hol_start (l:List Rw) (r:Rw):HolI (jVa l) r (jQl l ++ [r]) ((jQl l).length:Int) :=
 ⟨jVa l,[],r,by unfold jQl; rw [List.length_reverse],rfl,rfl,rfl⟩
theorem hol_len {S c:List Rw} {r:Rw} {k:Int} (h:HolI S r c k):0 ≤ k ∧ k < (c.length:Int) ∧ c.length = S.length + 1:=by
 obtain ⟨P,Q,h',h1,h2,h3,_⟩:=h
 rw [h2,h3]
 simp only [List.length_append,List.length_reverse,List.length_cons]
 omega
theorem hol_get {P' Q:List Rw} {p h:Rw}:((p :: P').reverse ++ h :: Q.reverse).getD P'.length dRw = p:=by
 rw [List.reverse_cons,List.append_assoc]
 have h2:=getD_mid P'.reverse p (h :: Q.reverse) dRw
 rw [List.length_reverse] at h2
 exact h2
theorem hol_step {S c:List Rw} {r:Rw} {k:Int} (h:HolI S r c k) (hk:0 < k) (hc:fromR r < fromR (c.getD (k - 1).toNat dRw)):HolI S r (c.set k.toNat (c.getD (k - 1).toNat dRw)) (k - 1):=by
 obtain ⟨P,Q,h',h1,h2,h3,h4⟩:=h
 obtain ⟨p,P',rfl,e1,e2⟩:=in_split h1 hk
 rw [h2] at hc ⊢
 rw [e2,hol_get] at hc ⊢
 refine ⟨P',Q ++ [p],p,by simp only [List.length_cons] at h1; omega,?_,by rw [h3]; simp,?_⟩
 ·rw [e1]
  have s1:=set_mid (p :: P').reverse h' p Q.reverse
  rw [List.length_reverse] at s1
  rw [show P'.length + 1 = (p :: P').length from rfl,s1]
  simp
 ·rw [h4,show insB r (p :: P') = p :: insB r P' from if_pos hc]
  simp
theorem hol_end {S c:List Rw} {r:Rw} {k:Int} (h:HolI S r c k) (hc:0 < k → ¬ fromR r < fromR (c.getD (k - 1).toNat dRw)):c.set k.toNat r = (insB r S).reverse:=by
 obtain ⟨P,Q,h',h1,h2,h3,h4⟩:=h
 have hi:insB r P = r :: P:=by
  cases P with
  | nil=>rfl
  | cons p P' =>
   have hk:0 < k:=by simp only [List.length_cons] at h1; omega
   have hg:=hc hk
   obtain ⟨p',P'',e,e1,e2⟩:=in_split h1 hk
   injection e with ea eb
   subst ea eb
   rw [h2,e2,hol_get] at hg
   exact if_neg hg
 have s1:=set_mid P.reverse h' r Q.reverse
 rw [List.length_reverse] at s1
 rw [h4,hi,h2,show k.toNat = P.length by omega,s1]
 simp
def DieI (id fr cm:Int) (rs c:List Rw) (i:Int):Prop:=0 ≤ i ∧ i ≤ rs.length ∧ c = dieF id fr cm (rs.take i.toNat) ++ rs.drop i.toNat
theorem die_len {id fr cm:Int} {rs c:List Rw} {i:Int} (h:DieI id fr cm rs c i):c.length = rs.length:=by
 rw [h.2.2]
 unfold dieF
 simp only [List.length_append,List.length_map,List.length_take,List.length_drop]
 have:=h.2.1
 have:=h.1
 omega
theorem die_form {id fr cm:Int} {rs c:List Rw} {i:Int} (h:DieI id fr cm rs c i) (hi:i < rs.length):∃ A B,c = A ++ rs.getD i.toNat dRw :: B ∧ A.length = i.toNat ∧ A = dieF id fr cm (rs.take i.toNat) ∧ B = rs.drop (i + 1).toNat:=by
 refine ⟨_,_,?_,?_,rfl,rfl⟩
 ·rw [h.2.2,jJc (d:=dRw) h.1 hi]
 ·unfold dieF
  rw [List.length_map,List.length_take]
  have:=h.1
  omega
theorem die_get {id fr cm:Int} {rs c:List Rw} {i:Int} (h:DieI id fr cm rs c i) (hi:i < rs.length):c.getD i.toNat dRw = rs.getD i.toNat dRw:=by
 obtain ⟨A,B,h1,h2,_⟩:=die_form h hi
 have hs:=getD_mid A (rs.getD i.toNat dRw) B dRw
 rw [h2,← h1] at hs
 exact hs
theorem die_set {id fr cm:Int} {rs c:List Rw} {i:Int} (h:DieI id fr cm rs c i) (hi:i < rs.length) {r':Rw} (hr:r' = dieR id fr cm (rs.getD i.toNat dRw)):DieI id fr cm rs (c.set i.toNat r') (i + 1):=by
 obtain ⟨A,B,h1,h2,h3,h4⟩:=die_form h hi
 have:=h.1
 refine ⟨by omega,by omega,?_⟩
 have hs:=set_mid A (rs.getD i.toNat dRw) r' B
 rw [h2,← h1] at hs
 rw [hs,jXd (d:=dRw) h.1 hi,h3,h4,hr]
 unfold dieF
 rw [List.map_append,List.append_assoc]
 rfl
theorem die_keep {id fr cm:Int} {rs c:List Rw} {i:Int} (h:DieI id fr cm rs c i) (hi:i < rs.length) (hr:dieR id fr cm (rs.getD i.toNat dRw) = rs.getD i.toNat dRw):DieI id fr cm rs c (i + 1):=by
 obtain ⟨A,B,h1,h2,h3,h4⟩:=die_form h hi
 have:=h.1
 refine ⟨by omega,by omega,?_⟩
 rw [h1,jXd (d:=dRw) h.1 hi,h3,h4]
 unfold dieF
 rw [List.map_append,List.append_assoc]
 show _ = _ ++ dieR id fr cm (rs.getD i.toNat dRw) :: _
 rw [hr]
 rfl
end Go.PL
namespace Go.Proofs.YtcnpblceamgfcaaGreatDoor
open Go.AM Go.PL
attribute [local irreducible] fnwp fnwpG fnwpO
theorem AV0_sound:jQa AV0:=jQd trivial trivial
theorem sat_hasR:Sat bs.P 128 hasRSp:=jQe AV0_sound 6 _ hasRSp fun (⟨⟨sc,cm,da,ds,rs,⟨⟩⟩,id⟩:Bo × Int) hok hp=>by
 rw [hasR_nf]; delta hasR_nf_e0 IR LP NX SD eI ln z0 z1; dsimp only
 have hm:rs.length ≤ 9223372036854775807:=hok.1.2.2.2.2.1.1
 refine ⟨fun x=>0 ≤ x ∧ x ≤ rs.length ∧ hasF id (rs.take x.toNat) = false,fun x=>(rs.length - x).toNat,⟨by omega,by omega,rfl⟩,?_⟩
 rintro x ⟨h0,h1,h2⟩
 refine ⟨fun h=>?_,fun h=>?_⟩
 ·have h:=dt h
  refine ⟨⟨h0,h⟩,fun hc=>?_,fun hc=>⟨jZv h0 h hm,⟨by omega,by omega,?_⟩,by dsimp only; omega⟩⟩
  ·refine (List.any_eq_true.2 ⟨_,jX5 (d:=dRw) (show x.toNat < rs.length by omega),?_⟩).symm
   exact hc
  ·rw [jXd (d:=dRw) h0 h,hasF_snoc,h2]
   exact hc
 ·have h:=df h
  rw [List.take_of_length_le (by omega)] at h2
  exact h2.symm
theorem sat_ver:Sat bs.P 130 verSp:=jQe AV0_sound 6 _ verSp fun (⟨⟨sc,cm,da,ds,rs,⟨⟩⟩,id⟩:Bo × Int) hok hp=>by
 rw [ver_nf]; delta ver_nf_e0 IR LP NX SD eI ln z0 z1; dsimp only
 have hm:rs.length ≤ 9223372036854775807:=hok.1.2.2.2.2.1.1
 refine ⟨fun x=>0 ≤ x.2 ∧ x.2 ≤ rs.length ∧ x.1 = verF id (rs.take x.2.toNat),fun x=>(rs.length - x.2).toNat,⟨by omega,by omega,rfl⟩,?_⟩
 rintro ⟨n,x⟩ ⟨h0,h1,h2⟩
 dsimp only at h0 h1 h2 ⊢
 refine ⟨fun h=>?_,fun h=>?_⟩
 ·have h:=dt h
  have hs:=jYw id (rs.take x.toNat) (rs.getD x.toNat dRw)
  rw [← jXd h0 h,← h2] at hs
  refine ⟨⟨h0,h⟩,fun hc=>⟨⟨h0,h⟩,jZv h0 h hm,⟨by omega,by omega,?_⟩,by omega⟩,fun hc=>⟨jZv h0 h hm,⟨by omega,by omega,?_⟩,by omega⟩⟩
  ·rw [hs]
   exact (if_pos (dt hc)).symm
  ·rw [hs]
   exact (if_neg (df hc)).symm
 ·have h:=df h
  rw [List.take_of_length_le (by omega)] at h2
  exact h2
theorem sat_end:Sat bs.P 132 endSp:=jQe AV0_sound 6 _ endSp fun (l:List Rw) hok hp=>by
 rw [end_nf]; delta end_nf_e0 IR eI ln z0 z1
 have hp:1 ≤ l.length:=hp
 have hm:l.length ≤ 9223372036854775807:=hok.1
 refine ⟨by unfold isI64; omega,⟨by omega,by omega⟩,?_⟩
 unfold endR
 rw [show ((l.length:Int) - 1).toNat = l.length - 1 by omega]
 rfl
theorem sat_die:Sat bs.P 131 dieSp:=jQe AV0_sound 6 _ dieSp fun (⟨rs,id,fr,cm⟩:List Rw × Int × Int × Int) hok hp=>by
 rw [die_nf]; delta die_nf_t0 die_nf_e0 dieq0 IR LP NX SD eI ln y58 z0 z1; dsimp only
 have hp:rs.length ≤ 100000:=hp
 have hm:rs.length ≤ 9223372036854775807:=by omega
 refine ⟨roomB 112 (by kernel_rfl) (by omega) (by omega),fun x=>DieI id fr cm rs x.1 x.2,fun x=>(rs.length - x.2).toNat,⟨by omega,by omega,rfl⟩,?_⟩
 rintro ⟨c,i⟩ hI
 dsimp only at hI ⊢
 have hl:=die_len hI
 have h0:=hI.1
 refine ⟨fun h=>?_,fun h=>?_⟩
 ·have h:=dt h
  rw [hl] at h ⊢
  have hg:=die_get hI h
  have hg':c.getD i.toNat (((0:Int),(0:Int),(0:Int),(0:Int),(0:Int),(0:Int),(0:Int),[],[],()),(0:Int),()) = rs.getD i.toNat dRw:=hg
  rw [hg']
  have hi:isI64 (i + 1):=jZv h0 h hm
  have hmu:((rs.length:Int) - (i + 1)).toNat < ((rs.length:Int) - i).toNat:=by omega
  have no:¬ ((rs.getD i.toNat dRw).1.1 = id ∧ fromR (rs.getD i.toNat dRw) = fr ∧ (rs.getD i.toNat dRw).2.1 = 0 ∧ (rs.getD i.toNat dRw).1.2.2.2.2.2.2.1 < cm) → DieI id fr cm rs c (i + 1):=fun hn=>die_keep hI h (if_neg hn)
  refine ⟨⟨h0,h⟩,fun c1=>⟨⟨h0,h⟩,fun c2=>⟨⟨h0,h⟩,fun c3=>⟨⟨h0,h⟩,fun c4=>⟨⟨h0,h⟩,hi,die_set hI h ?_,hmu⟩,fun c4=>⟨hi,no fun g=>df c4 g.2.2.2,hmu⟩⟩,fun c3=>⟨hi,no fun g=>df c3 g.2.2.1,hmu⟩⟩,fun c2=>⟨hi,no fun g=>df c2 g.2.1,hmu⟩⟩,fun c1=>⟨hi,no fun g=>df c1 g.1,hmu⟩⟩
  exact (if_pos (show (rs.getD i.toNat dRw).1.1 = id ∧ fromR (rs.getD i.toNat dRw) = fr ∧ (rs.getD i.toNat dRw).2.1 = 0 ∧ (rs.getD i.toNat dRw).1.2.2.2.2.2.2.1 < cm from ⟨dt c1,dt c2,dt c3,dt c4⟩)).symm
 ·have h:=df h
  have h2:=hI.2.2
  rw [List.take_of_length_le (by omega),List.drop_of_length_le (by omega),List.append_nil] at h2
  exact h2
theorem sat_rLive:Sat bs.P 87 liveSp:=jQe AV0_sound 6 _ liveSp fun (⟨⟨sc,cm,da,ds,rs,⟨⟩⟩,id⟩:Bo × Int) hok hp=>by
 have hp:(liveF id rs).length ≤ 19:=hp
 rw [rLive_nf]; delta rLive_nf_e0 rLive_nf_e1 jYr IR LP NX SD eI ln y58 z0 z1; dsimp only
 have hm:rs.length ≤ 9223372036854775807:=hok.1.2.2.2.2.1.1
 refine ⟨fun x=>0 ≤ x.2 ∧ x.2 ≤ rs.length ∧ x.1 = jQl (liveF id (rs.take x.2.toNat)),fun x=>(rs.length - x.2).toNat,⟨by omega,by omega,rfl⟩,?_⟩
 rintro ⟨o,x⟩ ⟨h0,h1,h2⟩
 dsimp only at h0 h1 h2 ⊢
 subst h2
 have hl:=liveF_len id rs x.toNat
 refine ⟨fun h=>?_,fun h=>?_⟩
 ·have h:=dt h
  have hi:isI64 (x + 1):=jZv h0 h hm
  have hmu:((rs.length:Int) - (x + 1)).toNat < ((rs.length:Int) - x).toNat:=by omega
  have hs:=liveF_app id (rs.take x.toNat) (rs.getD x.toNat dRw)
  rw [← jXd h0 h] at hs
  refine ⟨⟨h0,h⟩,fun hid=>⟨⟨h0,h⟩,fun hd=>?_,fun hd=>⟨hi,⟨by omega,by omega,?_⟩,hmu⟩⟩,fun hid=>⟨hi,⟨by omega,by omega,?_⟩,hmu⟩⟩
  ·rw [if_pos ⟨dt hid,dt hd⟩] at hs
   have hlen:=jZa (liveF id (rs.take x.toNat))
   refine ⟨⟨h0,h⟩,roomB 112 (by kernel_rfl) (by omega) (by rw [List.length_singleton]; omega),fun y=>HolI (jVa (liveF id (rs.take x.toNat))) (rs.getD x.toNat dRw) y.1 y.2.2 ∧ y.2.1 = x,fun y=>y.2.2.toNat,⟨hol_start _ _,rfl⟩,?_⟩
   rintro ⟨c,x',k⟩ ⟨hI,hx⟩
   dsimp only at hI hx ⊢
   subst hx
   obtain ⟨k0,k1,k2⟩:=hol_len hI
   have hb:=isortB_len (liveF id (rs.take x'.toNat))
   have hk1:isI64 (k - 1):=by unfold isI64; omega
   have done:(0 < k → ¬ fromR (rs.getD x'.toNat dRw) < fromR (c.getD (k - 1).toNat dRw)) → c.set k.toNat (rs.getD x'.toNat dRw) = jQl (liveF id (rs.take (x' + 1).toNat)):=fun hc=>by
    rw [hol_end hI hc,hs]
    unfold jQl
    rw [isortB_snoc]
   refine ⟨fun hk=>?_,fun hk=>⟨⟨h0,h⟩,⟨k0,k1⟩,hi,⟨by omega,by omega,done fun g=>absurd g (df hk)⟩,hmu⟩⟩
   have hk:=dt hk
   refine ⟨hk1,⟨by omega,by omega⟩,⟨h0,h⟩,fun hc=>⟨hk1,⟨by omega,by omega⟩,⟨k0,k1⟩,hk1,⟨hol_step hI hk (dt hc),rfl⟩,by omega⟩,fun hc=>⟨⟨h0,h⟩,⟨k0,k1⟩,hi,⟨by omega,by omega,done fun _=>df hc⟩,hmu⟩⟩
  ·rw [hs,if_neg fun g=>df hd g.2]
  ·rw [hs,if_neg fun g=>df hid g.1]
 ·have h:=df h
  rw [List.take_of_length_le (by omega)]
  rfl
end Go.Proofs.YtcnpblceamgfcaaGreatDoor
namespace Go.PL
open Go.AM
abbrev Dy:=Int × Int × Unit
abbrev Bk:=Bo × Int × Unit
def redate (x:En) (fr to ver born:Int):En:=(x.1,ver,x.2.2.1,x.2.2.2.1,fr,to,born,x.2.2.2.2.2.2.2.1,x.2.2.2.2.2.2.2.2.1,())
def chgL (id cm:Int):List Rw → List Dy → List Rw × List Rw × Int → List Rw × List Rw × Int
 | r :: l,t :: to,(rows,added,ver) =>
  if t.1 = fromR r ∧ t.2.1 = r.1.2.2.2.2.2.1 then chgL id cm l to (rows,added,ver) else
  if t.1 < t.2.1 then chgL id cm l to (dieF id (fromR r) cm rows,added ++ [(redate r.1 t.1 t.2.1 (ver + 1) cm,0,())],ver + 1) else
  chgL id cm l to (dieF id (fromR r) cm rows,added,ver)
 | _,_,s=>s
def reVer (x:En) (ver:Int):En:=(x.1,ver,x.2.2)
def jQz (b:Bo) (e:Ev) (l:List Rw) (to:List Dy) (more:En):Bk :=
 let s:=chgL e.2.2.2.1 e.2.1 l to (b.2.2.2.2.1,[],verF e.2.2.2.1 b.2.2.2.2.1)
 let m:=reVer more (s.2.2 + 1)
 if more.1 ≠ 0 ∧ entS b.1 m ≠ 0 then (b,entS b.1 m,()) else
 let added:=if more.1 ≠ 0 then s.2.1 ++ [(m,0,())] else s.2.1
 if 65536 < s.1.length + added.length then (b,2,()) else
 ((b.1,e.2.1,e.2.2.1,b.2.2.2.1 ++ [e.2.2.1],s.1 ++ added,()),0,())
end Go.PL
namespace Go.Proofs.YtcnpblceamgfcaaGreatDoor
open Go.AM Go.PL
noncomputable def bs2:Base:=⟨Tryz.prog,tyB,fun t =>
 Nat.beq t 31 || Nat.beq t 3 || Nat.beq t 33 || Nat.beq t 58 || Nat.beq t 39 || Nat.beq t 101 || Nat.beq t 24 || Nat.beq t 111⟩
def changeSp:FSpec:=⟨[BO,EV,RL,.arr DY,EN],[BK],fun x=>jQ6 (x.1:Bo).1 ∧ (x.1:Bo).2.2.2.2.1.length ≤ 50000 ∧ (x.1:Bo).2.2.2.1.length ≤ 50000 ∧ (x.2.2.1:List Rw).length ≤ 19 ∧ (x.2.2.2.1:List Dy).length = (x.2.2.1:List Rw).length ∧ verF (x.2.1:Ev).2.2.2.1 (x.1:Bo).2.2.2.2.1 ≤ 1000000,
 fun x=>jQz x.1 x.2.1 x.2.2.1 x.2.2.2.1 x.2.2.2.2⟩
def loopsQ (f:FuncId) (r:Nat):List LA :=
 if Nat.beq f 86 then [.slot 11 I,.slot 14 I,.gslot 13 58 RW,.slot 12 RL,.cell 0 0 I,.cell 0 1 I,.cell 0 2 I,.cell 0 3 I,.cell 0 4 I,.cell 0 5 I,.cell 0 6 I,.cell 0 7 L,.cell 0 8 AL,.cell 1 7 I] else
 []
def modeQ (f:FuncId) (r:Nat):AM.Mode:=bif Nat.beq f 86 && Nat.beq r 25 then .all else .split
def hintQ (f:FuncId):Hint:=if Nat.beq f 999999995 then ⟨fun _=>[],fun _=>.split,fun _=>.split,datN⟩ else ⟨loopsQ f,modeQ f,fun _=>.split,fun _=>0⟩
noncomputable def AX0:Ctx:=mkctx bs2 [(130,verSp),(131,dieSp),(129,entSp)] [] hintQ
abbrev jK3:Type:=Int × Int × List ((Int × Int × Int × Int × Int × Int × Int × List Int × List (List Int × Int × Int × List Int × Unit) × Unit) × Int × Unit) × List
 ((Int × Int × Int × Int × Int × Int × Int × List Int × List (List Int × Int × Int × List Int × Unit) × Unit) × Int × Unit) × Int × Int × Int × Int × Int × Int × Int × List Int ×
 List (List Int × Int × Int × List Int × Unit) × Int
abbrev change_nf_t1:Type:=Int × Int × List ((Int × Int × Int × Int × Int × Int × Int × List Int × List (List Int × Int × Int × List Int × Unit) × Unit) × Int × Unit) × List
 ((Int × Int × Int × Int × Int × Int × Int × List Int × List (List Int × Int × Int × List Int × Unit) × Unit) × Int × Unit) × Int × Int × Int × Int × Int × Int × Int × List Int ×
 List (List Int × Int × Int × List Int × Unit) × Int → Prop
abbrev change_nf_t2:Type:=Int × Int × List ((Int × Int × Int × Int × Int × Int × Int × List Int × List (List Int × Int × Int × List Int × Unit) × Unit) × Int × Unit) × List
 ((Int × Int × Int × Int × Int × Int × Int × List Int × List (List Int × Int × Int × List Int × Unit) × Unit) × Int × Unit) × Int × Int × Int × Int × Int × Int × Int × List Int ×
 List (List Int × Int × Int × List Int × Unit) × Int → Nat
abbrev change_nf_e0:List ((Int × Int × Int × Int × Int × Int × Int × List Int × List (List Int × Int × Int × List Int × Unit) × Unit) × Int × Unit):=[]
abbrev change_nf_e1:List (List Int × Int × Int × List Int × Unit):=[]
abbrev jKs (l:List Rw) (x:jK3):=l.getD x.2.1.toNat ((z0,z0,z0,z0,z0,z0,z0,eI,change_nf_e1,()),z0,())
abbrev changeq3 (l:List Rw) (x:jK3) (to:List Dy) (ec:Int):=(((jKs l x).1.1,x.1 + z1,(jKs l x).1.2.2.1,(jKs l x).1.2.2.2.1,(to.getD
 x.2.1.toNat (z0,z0,())).1,(to.getD x.2.1.toNat (z0,z0,())).2.1,ec,(jKs l x).1.2.2.2.2.2.2.2.1,(jKs l x).1.2.2.2.2.2.2.2.2.1,()),z0,())
abbrev changeq0 (x:jK3) (to:List Dy) (l:List Rw) (ec:Int) (I:change_nf_t1) (μ:change_nf_t2) (ei:Int):=x.2.2.2.1.length ≤ (100000:Nat) ∧ (IR x.2.1 to) ∧
 (IR x.2.1 to) ∧ SD ((to.getD x.2.1.toNat (z0,z0,())).1 < (to.getD x.2.1.toNat (z0,z0,())).2.1) (isI64 (x.1 + z1) ∧ (IR x.2.1 to) ∧ (IR x.2.1 to) ∧ roomP AX0 y58
 (x.2.2.1.length + [(changeq3 l x to ec)].length) ∧ isI64 (x.2.1 + z1) ∧ NX I μ x (x.1 + z1,x.2.1 + z1,x.2.2.1 ++ [(changeq3 l x to ec)],dieF ei (jKs l x).1.2.2.2.2.1 ec
 x.2.2.2.1,x.2.2.2.2)) (isI64 (x.2.1 + z1) ∧ NX I μ x (x.1,x.2.1 + z1,x.2.2.1,dieF ei (jKs l x).1.2.2.2.2.1 ec x.2.2.2.1,x.2.2.2.2))
abbrev jYn (x:jK3):=(x.2.2.2.2.1,x.1 + z1,x.2.2.2.2.2.2.1,x.2.2.2.2.2.2.2.1,x.2.2.2.2.2.2.2.2.1,x.2.2.2.2.2.2.2.2.2.1,x.2.2.2.2.2.2.2.2.2.2.1,
 x.2.2.2.2.2.2.2.2.2.2.2.1,x.2.2.2.2.2.2.2.2.2.2.2.2.1,())
theorem change_nf (sc:Sc) (cm da:Int) (ds:List Int) (rs:List Rw) (ek ec ed ei eo eu ef:Int) (ev:List Int) (ea:List At) (en:List Int) (l:List Rw) (to:List Dy)
 (m1 m2 m3 m4 m5 m6 m7:Int) (m8:List Int) (m9:List At):fnwp AX0 6 86 changeSp ((sc,cm,da,ds,rs,()),(ek,ec,ed,ei,eo,eu,ef,ev,ea,en,()),l,to,(m1,m2,m3,
 m4,m5,m6,m7,m8,m9,())) = (True ∧ LP (verF ei rs,z0,change_nf_e0,rs,m1,m2,m3,m4,m5,m6,m7,m8,m9,z0) fun I μ x=>SD (x.2.1 < (ln l)) ((IR x.2.1 l) ∧ (IR x.2.1
 to) ∧ SD ((to.getD x.2.1.toNat (z0,z0,())).1 = (jKs l x).1.2.2.2.2.1) ((IR x.2.1 to) ∧ SD ((to.getD x.2.1.toNat (z0,z0,())).2.1 = (jKs l x).1.2.2.2.2.2.1) (isI64
 (x.2.1 + z1) ∧ NX I μ x (x.1,x.2.1 + z1,x.2.2)) (changeq0 x to l ec I μ ei)) (changeq0 x to l ec I μ ei)) (SP (!decide (x.2.2.2.2.1 = z0)) (isI64 (x.1 + z1) ∧ jQ6 sc ∧ SP
 (!decide (entS sc (jYn x) = z0)) ((((sc.1,sc.2.1,sc.2.2.1,()),cm,da,ds,rs,()),entS sc (jYn x),()) = jQz (sc,cm,da,ds,rs,()) (ek,ec,ed,ei,eo,eu,
 ef,ev,ea,en,()) l to (m1,m2,m3,m4,m5,m6,m7,m8,m9,())) (roomP AX0 y58 (x.2.2.1.length + [((jYn x),z0,())].length) ∧ isI64 ((ln x.2.2.2.1) + (ln (x.2.2.1 ++
 [((jYn x),z0,())]))) ∧ SD ((65536:Int) < (ln x.2.2.2.1) + (ln (x.2.2.1 ++ [((jYn x),z0,())]))) ((((sc.1,sc.2.1,sc.2.2.1,()),cm,da,ds,rs,()),z2,()) =
 jQz (sc,cm,da,ds,rs,()) (ek,ec,ed,ei,eo,eu,ef,ev,ea,en,()) l to (m1,m2,m3,m4,m5,m6,m7,m8,m9,())) (roomP AX0 y3 ds.length ∧ roomP AX0 y3 (ds.length +
 [ed].length) ∧ roomP AX0 y58 x.2.2.2.1.length ∧ roomP AX0 y58 (x.2.2.2.1.length + (x.2.2.1 ++ [((jYn x),z0,())]).length) ∧ (((sc.1,sc.2.1,sc.2.2.1,()),ec,ed,ds ++
 [ed],x.2.2.2.1 ++ (x.2.2.1 ++ [((jYn x),z0,())]),()),z0,()) = jQz (sc,cm,da,ds,rs,()) (ek,ec,ed,ei,eo,eu,ef,ev,ea,en,()) l to (m1,m2,m3,m4,m5,
 m6,m7,m8,m9,())))) (isI64 ((ln x.2.2.2.1) + (ln x.2.2.1)) ∧ SD ((65536:Int) < (ln x.2.2.2.1) + (ln x.2.2.1)) ((((sc.1,sc.2.1,sc.2.2.1,()),cm,da,ds,rs,()),z2,())
 = jQz (sc,cm,da,ds,rs,()) (ek,ec,ed,ei,eo,eu,ef,ev,ea,en,()) l to (m1,m2,m3,m4,m5,m6,m7,m8,m9,())) (roomP AX0 y3 ds.length ∧ roomP AX0 y3 (ds.length
 + [ed].length) ∧ roomP AX0 y58 x.2.2.2.1.length ∧ roomP AX0 y58 (x.2.2.2.1.length + x.2.2.1.length) ∧ (((sc.1,sc.2.1,sc.2.2.1,()),ec,ed,ds ++ [ed],x.2.2.2.1 ++ x.2.2.1,
 ()),z0,()) = jQz (sc,cm,da,ds,rs,()) (ek,ec,ed,ei,eo,eu,ef,ev,ea,en,()) l to (m1,m2,m3,m4,m5,m6,m7,m8,m9,()))))):=by kernel_rfl
end Go.Proofs.YtcnpblceamgfcaaGreatDoor
namespace Go.PL
open Go.AM
theorem verF_nn (id:Int) (l:List Rw):0 ≤ verF id l:=by
 have key:∀ (l:List Rw) (n:Int),0 ≤ n → 0 ≤ l.foldl (fun n r=>if r.1.1 = id then max n r.1.2.1 else n) n:=by
  intro l
  induction l with
  | nil=>intro n h; exact h
  | cons r l ih =>
   intro n h
   rw [List.foldl_cons]
   apply ih
   split <;> omega
 exact key l 0 (by omega)
theorem dieF_len (id fr cm:Int) (l:List Rw):(dieF id fr cm l).length = l.length:=by
 unfold dieF
 rw [List.length_map]
def ChI (id cm:Int) (l:List Rw) (to:List Dy) (rs:List Rw) (i ver:Int) (added rows:List Rw):Prop :=
 0 ≤ i ∧ i ≤ l.length ∧ rows.length = rs.length ∧ (added.length:Int) ≤ i ∧ 0 ≤ ver ∧ ver ≤ 1000000 + i ∧ chgL id cm (l.drop i.toNat) (to.drop i.toNat) (rows,added,ver) = chgL id cm l to (rs,[],verF id rs)
theorem chg_drop {id cm:Int} {l:List Rw} {to:List Dy} (hl:to.length = l.length) {i:Int} (h0:0 ≤ i) (h:i < l.length) (rows added:List Rw) (ver:Int):chgL id cm (l.drop i.toNat) (to.drop i.toNat) (rows,added,ver) =
 if (to.getD i.toNat (0,0,())).1 = fromR (l.getD i.toNat dRw) ∧ (to.getD i.toNat (0,0,())).2.1 = (l.getD i.toNat dRw).1.2.2.2.2.2.1 then chgL id cm (l.drop (i + 1).toNat) (to.drop (i + 1).toNat) (rows,added,ver) else
 if (to.getD i.toNat (0,0,())).1 < (to.getD i.toNat (0,0,())).2.1 then chgL id cm (l.drop (i + 1).toNat) (to.drop (i + 1).toNat) (dieF id (fromR (l.getD i.toNat dRw)) cm rows,added ++ [(redate (l.getD i.toNat dRw).1 (to.getD i.toNat (0,0,())).1 (to.getD i.toNat (0,0,())).2.1 (ver + 1) cm,0,())],ver + 1) else
 chgL id cm (l.drop (i + 1).toNat) (to.drop (i + 1).toNat) (dieF id (fromR (l.getD i.toNat dRw)) cm rows,added,ver):=by
 rw [jJc (d:=dRw) h0 h,jJc (l:=to) (d:=(0,0,())) h0 (by omega)]
 rfl
theorem ch_skip {id cm:Int} {l:List Rw} {to:List Dy} {rs:List Rw} (hl:to.length = l.length) {i ver:Int} {added rows:List Rw} (h:ChI id cm l to rs i ver added rows) (hi:i < l.length)
 (hc:(to.getD i.toNat (0,0,())).1 = fromR (l.getD i.toNat dRw) ∧ (to.getD i.toNat (0,0,())).2.1 = (l.getD i.toNat dRw).1.2.2.2.2.2.1):ChI id cm l to rs (i + 1) ver added rows:=by
 obtain ⟨a1,a2,a3,a4,a5,a6,a7⟩:=h
 rw [chg_drop hl a1 hi,if_pos hc] at a7
 exact ⟨by omega,by omega,a3,by omega,a5,by omega,a7⟩
theorem ch_add {id cm:Int} {l:List Rw} {to:List Dy} {rs:List Rw} (hl:to.length = l.length) {i ver:Int} {added rows:List Rw} (h:ChI id cm l to rs i ver added rows) (hi:i < l.length)
 (hc:¬ ((to.getD i.toNat (0,0,())).1 = fromR (l.getD i.toNat dRw) ∧ (to.getD i.toNat (0,0,())).2.1 = (l.getD i.toNat dRw).1.2.2.2.2.2.1)) (hd:(to.getD i.toNat (0,0,())).1 < (to.getD i.toNat (0,0,())).2.1) :
 ChI id cm l to rs (i + 1) (ver + 1) (added ++ [(redate (l.getD i.toNat dRw).1 (to.getD i.toNat (0,0,())).1 (to.getD i.toNat (0,0,())).2.1 (ver + 1) cm,0,())]) (dieF id (fromR (l.getD i.toNat dRw)) cm rows):=by
 obtain ⟨a1,a2,a3,a4,a5,a6,a7⟩:=h
 rw [chg_drop hl a1 hi,if_neg hc,if_pos hd] at a7
 exact ⟨by omega,by omega,by rw [dieF_len]; exact a3,by rw [List.length_append,List.length_singleton]; omega,by omega,by omega,a7⟩
theorem ch_die {id cm:Int} {l:List Rw} {to:List Dy} {rs:List Rw} (hl:to.length = l.length) {i ver:Int} {added rows:List Rw} (h:ChI id cm l to rs i ver added rows) (hi:i < l.length)
 (hc:¬ ((to.getD i.toNat (0,0,())).1 = fromR (l.getD i.toNat dRw) ∧ (to.getD i.toNat (0,0,())).2.1 = (l.getD i.toNat dRw).1.2.2.2.2.2.1)) (hd:¬ (to.getD i.toNat (0,0,())).1 < (to.getD i.toNat (0,0,())).2.1) :
 ChI id cm l to rs (i + 1) ver added (dieF id (fromR (l.getD i.toNat dRw)) cm rows):=by
 obtain ⟨a1,a2,a3,a4,a5,a6,a7⟩:=h
 rw [chg_drop hl a1 hi,if_neg hc,if_neg hd] at a7
 exact ⟨by omega,by omega,by rw [dieF_len]; exact a3,by omega,a5,by omega,a7⟩
theorem ch_end {id cm:Int} {l:List Rw} {to:List Dy} {rs:List Rw} {i ver:Int} {added rows:List Rw} (h:ChI id cm l to rs i ver added rows) (hi:¬ i < l.length):chgL id cm l to (rs,[],verF id rs) = (rows,added,ver):=by
 have h7:=h.2.2.2.2.2.2
 rw [List.drop_of_length_le (by omega)] at h7
 exact h7.symm
end Go.PL
namespace Go.Proofs.YtcnpblceamgfcaaGreatDoor
open Go.AM Go.PL
attribute [local irreducible] fnwp fnwpG fnwpO
theorem AX0_sound:jQa AX0:=jQd ⟨sat_ver,sat_die,sat_rEnt,trivial⟩ trivial
theorem sat_change:Sat bs.P 86 changeSp:=jQe AX0_sound 6 _ changeSp fun (⟨⟨sc,cm,da,ds,rs,⟨⟩⟩,⟨ek,ec,ed,ei,eo,eu,ef,ev,ea,en,⟨⟩⟩,l,to,⟨m1,m2,m3,m4,m5,m6,m7,m8,m9,⟨⟩⟩⟩:Bo × Ev × List Rw × List Dy × En) hok hp=>by
 obtain ⟨hn,hrs,hds,hl,hto,hv⟩:jQ6 sc ∧ rs.length ≤ 50000 ∧ ds.length ≤ 50000 ∧ l.length ≤ 19 ∧ to.length = l.length ∧ verF ei rs ≤ 1000000:=hp
 rw [change_nf]; delta jK3 change_nf_t1 change_nf_t2 change_nf_e0 change_nf_e1 jKs changeq3 changeq0 jYn IR LP NX SD SP eI ln y3 y58 z0 z1 z2; dsimp only
 have hv0:=verF_nn ei rs
 refine ⟨trivial,fun x=>ChI ei ec l to rs x.2.1 x.1 x.2.2.1 x.2.2.2.1 ∧ ∃ e,x.2.2.2.2 = (m1,m2,m3,m4,m5,m6,m7,m8,m9,e),fun x=>(l.length - x.2.1).toNat,⟨⟨by dsimp only; omega,by dsimp only; omega,rfl,by simp,hv0,by dsimp only; omega,rfl⟩,_,rfl⟩,?_⟩
 rintro ⟨ver,i,added,rows,q⟩ ⟨hI,e,hq⟩
 dsimp only at hI hq
 subst hq
 dsimp only
 obtain ⟨a1,a2,a3,a4,a5,a6,a7⟩:=id hI
 refine ⟨fun h=>?_,fun h=>?_⟩
 ·have h:=dt h
  have p1:0 ≤ i ∧ i < (l.length:Int):=⟨a1,h⟩
  have p2:0 ≤ i ∧ i < (to.length:Int):=by rw [hto]; exact p1
  have hi:isI64 (i + 1):=by unfold isI64; omega
  have hve:isI64 (ver + 1):=by unfold isI64; omega
  have hmu:((l.length:Int) - (i + 1)).toNat < ((l.length:Int) - i).toNat:=by omega
  have hr1:rows.length ≤ 100000:=by omega
  have room:∀ x:Rw,roomP AX0 58 (added.length + [x].length):=fun x=>roomB 112 (by kernel_rfl) (by omega) (by rw [List.length_singleton]; omega)
  refine ⟨p1,p2,fun c1=>⟨p2,fun c2=>⟨hi,⟨ch_skip hto hI h ⟨dt c1,dt c2⟩,_,rfl⟩,hmu⟩,fun c2=>⟨hr1,p2,p2,fun c3=>⟨hve,p2,p2,room _,hi,⟨ch_add hto hI h (fun g=>df c2 g.2) (dt c3),_,rfl⟩,hmu⟩,fun c3=>⟨hi,⟨ch_die hto hI h (fun g=>df c2 g.2) (df c3),_,rfl⟩,hmu⟩⟩⟩,
   fun c1=>⟨hr1,p2,p2,fun c3=>⟨hve,p2,p2,room _,hi,⟨ch_add hto hI h (fun g=>df c1 g.1) (dt c3),_,rfl⟩,hmu⟩,fun c3=>⟨hi,⟨ch_die hto hI h (fun g=>df c1 g.1) (df c3),_,rfl⟩,hmu⟩⟩⟩
 ·have h:=df h
  have hS:=ch_end hI h
  have hve:isI64 (ver + 1):=by unfold isI64; omega
  have hlen:∀ x:Rw,(added ++ [x]).length = added.length + 1:=fun x=>by rw [List.length_append,List.length_singleton]
  have r1:roomP AX0 3 ds.length:=roomB 8 (by kernel_rfl) (by omega) (by omega)
  have r2:roomP AX0 3 (ds.length + [ed].length):=roomB 8 (by kernel_rfl) (by omega) (by rw [List.length_singleton]; omega)
  have r3:roomP AX0 58 rows.length:=roomB 112 (by kernel_rfl) (by omega) (by omega)
  have r4:roomP AX0 58 (rows.length + added.length):=roomB 112 (by kernel_rfl) (by omega) (by omega)
  have r5:∀ x:Rw,roomP AX0 58 (rows.length + (added ++ [x]).length):=fun x=>roomB 112 (by kernel_rfl) (by omega) (by rw [hlen]; omega)
  have r6:∀ x:Rw,roomP AX0 58 (added.length + [x].length):=fun x=>roomB 112 (by kernel_rfl) (by omega) (by rw [List.length_singleton]; omega)
  have i1:isI64 ((rows.length:Int) + (added.length:Int)):=by unfold isI64; omega
  have i2:∀ x:Rw,isI64 ((rows.length:Int) + ((added ++ [x]).length:Int)):=fun x=>by rw [hlen]; unfold isI64; omega
  refine ⟨fun c1=>⟨hve,hn,fun c2=>?_,fun c2=>⟨r6 _,i2 _,fun c3=>?_,fun c3=>⟨r1,r2,r3,r5 _,?_⟩⟩⟩,fun c1=>⟨i1,fun c3=>?_,fun c3=>⟨r1,r2,r3,r4,?_⟩⟩⟩
  all_goals unfold jQz
  all_goals simp only [hS]
  ·rw [if_pos ⟨ndt c1,ndt c2⟩]
   rfl
  ·have g1:m1 ≠ 0:=ndt c1
   rw [if_neg fun g=>g.2 (ndf c2),if_pos g1,if_pos (by have:=dt c3; rw [hlen] at this ⊢; omega)]
  ·have g1:m1 ≠ 0:=ndt c1
   rw [if_neg fun g=>g.2 (ndf c2),if_pos g1,if_neg (by have:=df c3; rw [hlen] at this ⊢; omega)]
   rfl
  ·have g1:¬ m1 ≠ 0:=fun g=>g (ndf c1)
   rw [if_neg fun g=>g1 g.1,if_neg g1,if_pos (by have:=dt c3; omega)]
  ·have g1:¬ m1 ≠ 0:=fun g=>g (ndf c1)
   rw [if_neg fun g=>g1 g.1,if_neg g1,if_neg (by have:=df c3; omega)]
end Go.Proofs.YtcnpblceamgfcaaGreatDoor
namespace Go.PL
open Go.AM
def daysC (f:Int) (l:List Rw):List Dy:=l.map fun r=>(fromR r,min r.1.2.2.2.2.2.1 (max f (fromR r)),())
def daysE (u op:Int) (l:List Rw):List Dy:=(List.range l.length).map fun i=>(if i = 0 ∧ u < op then u else max (fromR (l.getD i dRw)) (min u (l.getD i dRw).1.2.2.2.2.2.1),(l.getD i dRw).1.2.2.2.2.2.1,())
def newEn (e:Ev) (ver:Int):En:=(e.2.2.2.1,ver,e.2.2.2.2.1,e.2.2.1,e.2.2.2.2.2.1,1048577,e.2.1,e.2.2.2.2.2.2.2.1,e.2.2.2.2.2.2.2.2.1,())
def corEn (x:En) (f to:Int) (e:Ev):En:=(x.1,x.2.1,x.2.2.1,x.2.2.2.1,f,to,e.2.1,e.2.2.2.2.2.2.2.1,e.2.2.2.2.2.2.2.2.1,())
def fileS (b:Bo) (e:Ev):Bk :=
 if hasF e.2.2.2.1 b.2.2.2.2.1 = true then (b,6,()) else if entS b.1 (newEn e 1) ≠ 0 then (b,entS b.1 (newEn e 1),()) else jQz b e [] [] (newEn e 1)
def jVk (b:Bo) (e:Ev) (l:List Rw):Bk :=
 if e.2.2.2.2.2.2.1 < 0 ∨ endR l ≤ max e.2.2.2.2.2.2.1 (fromR (l.getD 0 dRw)) then (b,9,()) else
 jQz b e l (daysC (max e.2.2.2.2.2.2.1 (fromR (l.getD 0 dRw))) l) (corEn (l.getD 0 dRw).1 (max e.2.2.2.2.2.2.1 (fromR (l.getD 0 dRw))) (endR l) e)
def jJr (b:Bo) (e:Ev) (l:List Rw):Bk :=
 if e.2.2.2.2.2.2.1 < 0 ∨ endR l ≤ e.2.2.2.2.2.2.1 then (b,9,()) else jQz b e l (daysC e.2.2.2.2.2.2.1 l) dEn
def jJ4 (b:Bo) (e:Ev) (l:List Rw):Bk :=
 if fromR (l.getD 0 dRw) ≤ e.2.2.1 ∨ fromR (l.getD 0 dRw) = e.2.2.2.2.2.1 then (b,4,()) else
 if e.2.2.2.2.2.1 < e.2.2.1 ∨ endR l ≤ e.2.2.2.2.2.1 then (b,9,()) else jQz b e l (daysE e.2.2.2.2.2.1 (fromR (l.getD 0 dRw)) l) dEn
def okB (b:Bo) (id:Int):Prop:=jQ6 b.1 ∧ b.2.2.2.2.1.length ≤ 50000 ∧ b.2.2.2.1.length ≤ 50000 ∧ verF id b.2.2.2.2.1 ≤ 1000000
end Go.PL
namespace Go.Proofs.YtcnpblceamgfcaaGreatDoor
open Go.AM Go.PL
def fileSp:FSpec:=⟨[BO,EV],[BK],fun x=>okB x.1 (x.2:Ev).2.2.2.1,fun x=>fileS x.1 x.2⟩
def correctSp:FSpec:=⟨[BO,EV,RL],[BK],fun x=>okB x.1 (x.2.1:Ev).2.2.2.1 ∧ 1 ≤ (x.2.2:List Rw).length ∧ (x.2.2:List Rw).length ≤ 19,fun x=>jVk x.1 x.2.1 x.2.2⟩
def withdrawSp:FSpec:=⟨[BO,EV,RL],[BK],fun x=>okB x.1 (x.2.1:Ev).2.2.2.1 ∧ 1 ≤ (x.2.2:List Rw).length ∧ (x.2.2:List Rw).length ≤ 19,fun x=>jJr x.1 x.2.1 x.2.2⟩
def embargoSp:FSpec:=⟨[BO,EV,RL],[BK],fun x=>okB x.1 (x.2.1:Ev).2.2.2.1 ∧ 1 ≤ (x.2.2:List Rw).length ∧ (x.2.2:List Rw).length ≤ 19,fun x=>jJ4 x.1 x.2.1 x.2.2⟩
def loopsZ (f:FuncId) (r:Nat):List LA :=
 if Nat.beq f 88 then [.gslot 8 193 DY,.slot 9 I,.cell 0 7 I] else
 if Nat.beq f 89 then [.gslot 7 193 DY,.slot 8 I,.cell 0 7 I] else
 if Nat.beq f 90 then [.gslot 8 193 DY,.slot 9 I,.cell 0 7 I] else
 []
def hintZ (f:FuncId):Hint:=if Nat.beq f 999999995 then ⟨fun _=>[],fun _=>.split,fun _=>.split,datN⟩ else ⟨loopsZ f,fun _=>.split,fun _=>.split,fun _=>0⟩
noncomputable def AZ0:Ctx:=mkctx bs [(128,hasRSp),(132,endSp),(86,changeSp),(129,entSp)] [] hintZ
abbrev file_nf_e0:List ((Int × Int × Int × Int × Int × Int × Int × List Int × List (List Int × Int × Int × List Int × Unit) × Unit) × Int × Unit):=[]
abbrev file_nf_e1:List (Int × Int × Unit):=[]
abbrev fileq0 (sc:Sc) (cm da:Int) (ds:List Int) (rs:List Rw) (ek ec ed ei eo eu ef:Int) (ev:List Int) (ea:List At) (en:List Int):=jQz (sc,cm,da,ds,rs,
 ()) (ek,ec,ed,ei,eo,eu,ef,ev,ea,en,()) file_nf_e0 file_nf_e1 (ei,z1,eo,ed,eu,(1048577:Int),ec,ev,ea,())
theorem file_nf (sc:Sc) (cm da:Int) (ds:List Int) (rs:List Rw) (ek ec ed ei eo eu ef:Int) (ev:List Int) (ea:List At) (en:List Int):fnwp AZ0 6 85 fileSp ((sc,
 cm,da,ds,rs,()),(ek,ec,ed,ei,eo,eu,ef,ev,ea,en,())) = (True ∧ SP (hasF ei rs) ((((sc.1,sc.2.1,sc.2.2.1,()),cm,da,ds,rs,()),z6,()) = fileS (sc,cm,da,
 ds,rs,()) (ek,ec,ed,ei,eo,eu,ef,ev,ea,en,())) (jQ6 sc ∧ SP (!decide (entS sc (ei,z1,eo,ed,eu,(1048577:Int),ec,ev,ea,()) = z0)) ((((sc.1,sc.2.1,
 sc.2.2.1,()),cm,da,ds,rs,()),entS sc (ei,z1,eo,ed,eu,(1048577:Int),ec,ev,ea,()),()) = fileS (sc,cm,da,ds,rs,()) (ek,ec,ed,ei,eo,eu,ef,ev,ea,en,
 ())) ((jQ6 sc ∧ rs.length ≤ (50000:Nat) ∧ ds.length ≤ (50000:Nat) ∧ file_nf_e0.length ≤ y19 ∧ file_nf_e1.length = file_nf_e0.length ∧ verF ei rs ≤ (1000000:Int)) ∧
 ((((fileq0 sc cm da ds rs ek ec ed ei eo eu ef ev ea en).1.1.1,(fileq0 sc cm da ds rs ek ec ed ei eo eu ef ev ea en).1.1.2.1,(fileq0 sc cm da ds rs ek ec ed ei eo eu ef ev ea
 en).1.1.2.2.1,()),(fileq0 sc cm da ds rs ek ec ed ei eo eu ef ev ea en).1.2.1,(fileq0 sc cm da ds rs ek ec ed ei eo eu ef ev ea en).1.2.2.1,(fileq0 sc cm da ds rs ek ec ed
 ei eo eu ef ev ea en).1.2.2.2.1,(fileq0 sc cm da ds rs ek ec ed ei eo eu ef ev ea en).1.2.2.2.2.1,()),(fileq0 sc cm da ds rs ek ec ed ei eo eu ef ev ea en).2.1,()) = fileS
 (sc,cm,da,ds,rs,()) (ek,ec,ed,ei,eo,eu,ef,ev,ea,en,())))):=by kernel_rfl
abbrev kQ6:Type:=List (Int × Int × Unit) × Int × Int
abbrev correct_nf_e0:List (List Int × Int × Int × List Int × Unit):=[]
abbrev correct_nf_e1:List (Int × Int × Unit):=[]
abbrev jZ0:=((z0,z0,z0,z0,z0,z0,z0,eI,correct_nf_e0,()),z0,())
abbrev jJ5 (sc:Sc) (cm da:Int) (ds:List Int) (rs:List Rw) (ek ec ed ei eo eu ef:Int) (ev:List Int) (ea:List At) (en:List Int) (l:List Rw) (x :
 kQ6):=jQz (sc,cm,da,ds,rs,()) (ek,ec,ed,ei,eo,eu,ef,ev,ea,en,()) l x.1 ((l.getD y0 jZ0).1.1,(l.getD y0 jZ0).1.2.1,(l.getD y0
 jZ0).1.2.2.1,(l.getD y0 jZ0).1.2.2.2.1,max ef (l.getD y0 jZ0).1.2.2.2.2.1,endR l,ec,ev,ea,())
abbrev correctq2 (l:List Rw) (x:kQ6) (ef:Int):=((l.getD x.2.1.toNat jZ0).1.2.2.2.2.1,min (l.getD x.2.1.toNat jZ0).1.2.2.2.2.2.1 (max (max ef
 (l.getD y0 jZ0).1.2.2.2.2.1) (l.getD x.2.1.toNat jZ0).1.2.2.2.2.1),())
theorem correct_nf (sc:Sc) (cm da:Int) (ds:List Int) (rs:List Rw) (ek ec ed ei eo eu ef:Int) (ev:List Int) (ea:List At) (en:List Int) (l:List Rw):fnwp AZ0 6
 88 correctSp ((sc,cm,da,ds,rs,()),(ek,ec,ed,ei,eo,eu,ef,ev,ea,en,()),l) = ((IR z0 l) ∧ SD (ef < z0) ((((sc.1,sc.2.1,sc.2.2.1,()),cm,da,ds,rs,()),z9,
 ()) = jVk (sc,cm,da,ds,rs,()) (ek,ec,ed,ei,eo,eu,ef,ev,ea,en,()) l) (y1 ≤ l.length ∧ SD (endR l ≤ max ef (l.getD y0 jZ0).1.2.2.2.2.1) ((((sc.1,sc.2.1,
 sc.2.2.1,()),cm,da,ds,rs,()),z9,()) = jVk (sc,cm,da,ds,rs,()) (ek,ec,ed,ei,eo,eu,ef,ev,ea,en,()) l) (LP (correct_nf_e1,z0,z0) fun I μ x=>SD
 (x.2.1 < (ln l)) ((IR x.2.1 l) ∧ roomP AZ0 (193:Nat) (x.1.length + [(correctq2 l x ef)].length) ∧ isI64 (x.2.1 + z1) ∧ NX I μ x (x.1 ++ [(correctq2 l x ef)],x.2.1 + z1,
 x.2.2)) ((IR z0 l) ∧ y1 ≤ l.length ∧ (jQ6 sc ∧ rs.length ≤ (50000:Nat) ∧ ds.length ≤ (50000:Nat) ∧ l.length ≤ y19 ∧ x.1.length = l.length ∧ verF ei rs ≤ (1000000:Int))
 ∧ ((((jJ5 sc cm da ds rs ek ec ed ei eo eu ef ev ea en l x).1.1.1,(jJ5 sc cm da ds rs ek ec ed ei eo eu ef ev ea en l x).1.1.2.1,(jJ5 sc cm da ds rs ek ec ed
 ei eo eu ef ev ea en l x).1.1.2.2.1,()),(jJ5 sc cm da ds rs ek ec ed ei eo eu ef ev ea en l x).1.2.1,(jJ5 sc cm da ds rs ek ec ed ei eo eu ef ev ea en l
 x).1.2.2.1,(jJ5 sc cm da ds rs ek ec ed ei eo eu ef ev ea en l x).1.2.2.2.1,(jJ5 sc cm da ds rs ek ec ed ei eo eu ef ev ea en l x).1.2.2.2.2.1,()),(jJ5 sc
 cm da ds rs ek ec ed ei eo eu ef ev ea en l x).2.1,()) = jVk (sc,cm,da,ds,rs,()) (ek,ec,ed,ei,eo,eu,ef,ev,ea,en,()) l)))):=by kernel_rfl
abbrev withdraw_nf_t0:Type:=List (Int × Int × Unit) × Int × Int
abbrev withdraw_nf_e0:List (Int × Int × Unit):=[]
abbrev withdraw_nf_e1:List (List Int × Int × Int × List Int × Unit):=[]
abbrev jX8:=(z0,z0,z0,z0,z0,z0,z0,eI,withdraw_nf_e1,())
abbrev withdrawq1 (l:List Rw) (x:withdraw_nf_t0) (ef:Int):=((l.getD x.2.1.toNat (jX8,z0,())).1.2.2.2.2.1,min (l.getD x.2.1.toNat (jX8,z0,
 ())).1.2.2.2.2.2.1 (max ef (l.getD x.2.1.toNat (jX8,z0,())).1.2.2.2.2.1),())
theorem withdraw_nf (sc:Sc) (cm da:Int) (ds:List Int) (rs:List Rw) (ek ec ed ei eo eu ef:Int) (ev:List Int) (ea:List At) (en:List Int) (l:List Rw):fnwp AZ0 6
 89 withdrawSp ((sc,cm,da,ds,rs,()),(ek,ec,ed,ei,eo,eu,ef,ev,ea,en,()),l) = (SD (ef < z0) ((((sc.1,sc.2.1,sc.2.2.1,()),cm,da,ds,rs,()),z9,()) =
 jJr (sc,cm,da,ds,rs,()) (ek,ec,ed,ei,eo,eu,ef,ev,ea,en,()) l) (y1 ≤ l.length ∧ SD (endR l ≤ ef) ((((sc.1,sc.2.1,sc.2.2.1,()),cm,da,ds,rs,()),z9,
 ()) = jJr (sc,cm,da,ds,rs,()) (ek,ec,ed,ei,eo,eu,ef,ev,ea,en,()) l) (LP (withdraw_nf_e0,z0,z0) fun I μ x=>SD (x.2.1 < (ln l)) ((IR x.2.1 l) ∧ roomP AZ0
 (193:Nat) (x.1.length + [(withdrawq1 l x ef)].length) ∧ isI64 (x.2.1 + z1) ∧ NX I μ x (x.1 ++ [(withdrawq1 l x ef)],x.2.1 + z1,x.2.2)) ((jQ6 sc ∧ rs.length ≤ (50000 :
 Nat) ∧ ds.length ≤ (50000:Nat) ∧ l.length ≤ y19 ∧ x.1.length = l.length ∧ verF ei rs ≤ (1000000:Int)) ∧ ((((jQz (sc,cm,da,ds,rs,()) (ek,ec,ed,ei,eo,eu,ef,ev,
 ea,en,()) l x.1 jX8).1.1.1,(jQz (sc,cm,da,ds,rs,()) (ek,ec,ed,ei,eo,eu,ef,ev,ea,en,()) l x.1 jX8).1.1.2.1,(jQz (sc,cm,da,ds,rs,())
 (ek,ec,ed,ei,eo,eu,ef,ev,ea,en,()) l x.1 jX8).1.1.2.2.1,()),(jQz (sc,cm,da,ds,rs,()) (ek,ec,ed,ei,eo,eu,ef,ev,ea,en,()) l x.1
 jX8).1.2.1,(jQz (sc,cm,da,ds,rs,()) (ek,ec,ed,ei,eo,eu,ef,ev,ea,en,()) l x.1 jX8).1.2.2.1,(jQz (sc,cm,da,ds,rs,()) (ek,ec,ed,ei,
 eo,eu,ef,ev,ea,en,()) l x.1 jX8).1.2.2.2.1,(jQz (sc,cm,da,ds,rs,()) (ek,ec,ed,ei,eo,eu,ef,ev,ea,en,()) l x.1 jX8).1.2.2.2.2.1,()),
 (jQz (sc,cm,da,ds,rs,()) (ek,ec,ed,ei,eo,eu,ef,ev,ea,en,()) l x.1 jX8).2.1,()) = jJr (sc,cm,da,ds,rs,()) (ek,ec,ed,ei,eo,eu,ef,ev,
 ea,en,()) l)))):=by kernel_rfl
abbrev embargo_nf_t0:Type:=List (Int × Int × Unit) × Int × Int
abbrev embargo_nf_e0:List (List Int × Int × Int × List Int × Unit):=[]
abbrev embargo_nf_e1:List (Int × Int × Unit):=[]
abbrev jXq:=(z0,z0,z0,z0,z0,z0,z0,eI,embargo_nf_e0,())
abbrev embargoq1 (l:List Rw) (x:embargo_nf_t0) (eu:Int):=(max (l.getD x.2.1.toNat (jXq,z0,())).1.2.2.2.2.1 (min eu (l.getD x.2.1.toNat (jXq,z0,
 ())).1.2.2.2.2.2.1),(l.getD x.2.1.toNat (jXq,z0,())).1.2.2.2.2.2.1,())
theorem embargo_nf (sc:Sc) (cm da:Int) (ds:List Int) (rs:List Rw) (ek ec ed ei eo eu ef:Int) (ev:List Int) (ea:List At) (en:List Int) (l:List Rw):fnwp AZ0 6
 90 embargoSp ((sc,cm,da,ds,rs,()),(ek,ec,ed,ei,eo,eu,ef,ev,ea,en,()),l) = ((IR z0 l) ∧ SD ((l.getD y0 (jXq,z0,())).1.2.2.2.2.1 ≤ ed) ((((sc.1,sc.2.1,
 sc.2.2.1,()),cm,da,ds,rs,()),z4,()) = jJ4 (sc,cm,da,ds,rs,()) (ek,ec,ed,ei,eo,eu,ef,ev,ea,en,()) l) (SD ((l.getD y0 (jXq,z0,())).1.2.2.2.2.1
 = eu) ((((sc.1,sc.2.1,sc.2.2.1,()),cm,da,ds,rs,()),z4,()) = jJ4 (sc,cm,da,ds,rs,()) (ek,ec,ed,ei,eo,eu,ef,ev,ea,en,()) l) (SD (eu < ed) ((((sc.1,
 sc.2.1,sc.2.2.1,()),cm,da,ds,rs,()),z9,()) = jJ4 (sc,cm,da,ds,rs,()) (ek,ec,ed,ei,eo,eu,ef,ev,ea,en,()) l) (y1 ≤ l.length ∧ SD (endR l ≤ eu)
 ((((sc.1,sc.2.1,sc.2.2.1,()),cm,da,ds,rs,()),z9,()) = jJ4 (sc,cm,da,ds,rs,()) (ek,ec,ed,ei,eo,eu,ef,ev,ea,en,()) l) (LP (embargo_nf_e1,z0,z0) fun
 I μ x=>SD (x.2.1 < (ln l)) ((IR x.2.1 l) ∧ SD (x.2.1 = z0) (SD (eu < (l.getD y0 (jXq,z0,())).1.2.2.2.2.1) (roomP AZ0 (193:Nat) (x.1.length + [(eu,(l.getD
 x.2.1.toNat (jXq,z0,())).1.2.2.2.2.2.1,())].length) ∧ isI64 (x.2.1 + z1) ∧ NX I μ x (x.1 ++ [(eu,(l.getD x.2.1.toNat (jXq,z0,())).1.2.2.2.2.2.1,())],x.2.1 +
 z1,x.2.2)) (roomP AZ0 (193:Nat) (x.1.length + [(embargoq1 l x eu)].length) ∧ isI64 (x.2.1 + z1) ∧ NX I μ x (x.1 ++ [(embargoq1 l x eu)],x.2.1 + z1,x.2.2))) (roomP AZ0 (193
 : Nat) (x.1.length + [(embargoq1 l x eu)].length) ∧ isI64 (x.2.1 + z1) ∧ NX I μ x (x.1 ++ [(embargoq1 l x eu)],x.2.1 + z1,x.2.2))) ((jQ6 sc ∧ rs.length ≤ (50000:Nat) ∧
 ds.length ≤ (50000:Nat) ∧ l.length ≤ y19 ∧ x.1.length = l.length ∧ verF ei rs ≤ (1000000:Int)) ∧ ((((jQz (sc,cm,da,ds,rs,()) (ek,ec,ed,ei,eo,eu,ef,ev,ea,
 en,()) l x.1 jXq).1.1.1,(jQz (sc,cm,da,ds,rs,()) (ek,ec,ed,ei,eo,eu,ef,ev,ea,en,()) l x.1 jXq).1.1.2.1,(jQz (sc,cm,da,ds,rs,()) (ek,
 ec,ed,ei,eo,eu,ef,ev,ea,en,()) l x.1 jXq).1.1.2.2.1,()),(jQz (sc,cm,da,ds,rs,()) (ek,ec,ed,ei,eo,eu,ef,ev,ea,en,()) l x.1 jXq).1.2.1,
 (jQz (sc,cm,da,ds,rs,()) (ek,ec,ed,ei,eo,eu,ef,ev,ea,en,()) l x.1 jXq).1.2.2.1,(jQz (sc,cm,da,ds,rs,()) (ek,ec,ed,ei,eo,eu,ef,ev,ea,
 en,()) l x.1 jXq).1.2.2.2.1,(jQz (sc,cm,da,ds,rs,()) (ek,ec,ed,ei,eo,eu,ef,ev,ea,en,()) l x.1 jXq).1.2.2.2.2.1,()),(jQz (sc,cm,da,ds,
 rs,()) (ek,ec,ed,ei,eo,eu,ef,ev,ea,en,()) l x.1 jXq).2.1,()) = jJ4 (sc,cm,da,ds,rs,()) (ek,ec,ed,ei,eo,eu,ef,ev,ea,en,()) l)))))):=by
 kernel_rfl
end Go.Proofs.YtcnpblceamgfcaaGreatDoor
namespace Go.PL
open Go.AM
theorem daysC_len (f:Int) (l:List Rw):(daysC f l).length = l.length:=by
 unfold daysC
 rw [List.length_map]
theorem daysE_len (u op:Int) (l:List Rw):(daysE u op l).length = l.length:=by
 unfold daysE
 rw [List.length_map,List.length_range]
theorem daysC_get (f:Int) {l:List Rw} {i:Nat} (h:i < l.length):(daysC f l).getD i (0,0,()) = (fromR (l.getD i dRw),min (l.getD i dRw).1.2.2.2.2.2.1 (max f (fromR (l.getD i dRw))),()):=by
 unfold daysC
 rw [List.getD_eq_getElem?_getD,List.getElem?_map,List.getD_eq_getElem?_getD,List.getElem?_eq_getElem h]
 rfl
theorem daysE_get (u op:Int) {l:List Rw} {i:Nat} (h:i < l.length):(daysE u op l).getD i (0,0,()) = (if i = 0 ∧ u < op then u else max (fromR (l.getD i dRw)) (min u (l.getD i dRw).1.2.2.2.2.2.1),(l.getD i dRw).1.2.2.2.2.2.1,()):=by
 unfold daysE
 rw [List.getD_eq_getElem?_getD,List.getElem?_map,List.getElem?_range h]
 rfl
end Go.PL
namespace Go.Proofs.YtcnpblceamgfcaaGreatDoor
open Go.AM Go.PL
attribute [local irreducible] fnwp fnwpG fnwpO
theorem AZ0_sound:jQa AZ0:=jQd ⟨sat_hasR,sat_end,sat_change,sat_rEnt,trivial⟩ trivial
theorem sat_file:Sat bs.P 85 fileSp:=jQe AZ0_sound 6 _ fileSp fun (⟨⟨sc,cm,da,ds,rs,⟨⟩⟩,⟨ek,ec,ed,ei,eo,eu,ef,ev,ea,en,⟨⟩⟩⟩:Bo × Ev) hok hp=>by
 obtain ⟨hn,hrs,hds,hv⟩:jQ6 sc ∧ rs.length ≤ 50000 ∧ ds.length ≤ 50000 ∧ verF ei rs ≤ 1000000:=hp
 rw [file_nf]; delta file_nf_e0 file_nf_e1 fileq0 SP y19 z0 z1 z6
 refine ⟨trivial,fun c=>?_,fun c=>⟨hn,fun c2=>?_,fun c2=>⟨⟨hn,hrs,hds,by simp,rfl,hv⟩,?_⟩⟩⟩
 ·exact (if_pos c).symm
 ·have h1:¬ hasF ei rs = true:=by rw [c]; decide
  refine ((if_neg h1).trans ?_).symm
  exact if_pos (ndt c2)
 ·have h1:¬ hasF ei rs = true:=by rw [c]; decide
  refine ((if_neg h1).trans ?_).symm
  exact if_neg fun g=>g (ndf c2)
theorem sat_withdraw:Sat bs.P 89 withdrawSp:=jQe AZ0_sound 6 _ withdrawSp fun (⟨⟨sc,cm,da,ds,rs,⟨⟩⟩,⟨ek,ec,ed,ei,eo,eu,ef,ev,ea,en,⟨⟩⟩,l⟩:Bo × Ev × List Rw) hok hp=>by
 obtain ⟨⟨hn,hrs,hds,hv⟩,h1,h19⟩:(jQ6 sc ∧ rs.length ≤ 50000 ∧ ds.length ≤ 50000 ∧ verF ei rs ≤ 1000000) ∧ 1 ≤ l.length ∧ l.length ≤ 19:=hp
 rw [withdraw_nf]; delta withdraw_nf_t0 withdraw_nf_e0 withdraw_nf_e1 jX8 withdrawq1 IR LP NX SD eI ln y1 y19 z0 z1 z9; dsimp only
 refine ⟨fun c=>(if_pos (.inl (dt c))).symm,fun c=>⟨h1,fun c2=>(if_pos (.inr (dt c2))).symm,fun c2=>⟨fun x=>0 ≤ x.2.1 ∧ x.2.1 ≤ l.length ∧ x.1 = (daysC ef l).take x.2.1.toNat,fun x=>(l.length - x.2.1).toNat,⟨by dsimp only; omega,by dsimp only; omega,rfl⟩,?_⟩⟩⟩
 rintro ⟨o,x,er⟩ ⟨g0,g1,g2⟩
 dsimp only at g0 g1 g2
 have hlen:=daysC_len ef l
 refine ⟨fun h=>?_,fun h=>?_⟩
 ·have h:x < (l.length:Int):=dt h
  have hs:=jXd (l:=daysC ef l) (d:=(0,0,())) g0 (by rw [hlen]; exact h)
  rw [← g2,daysC_get ef (show x.toNat < l.length by omega)] at hs
  have hol:o.length ≤ 19:=by rw [g2,List.length_take,hlen]; omega
  exact ⟨⟨g0,h⟩,roomB 16 (by kernel_rfl) (by omega) (by rw [List.length_singleton]; dsimp only; omega),by dsimp only; unfold isI64; omega,⟨by dsimp only; omega,by dsimp only; omega,hs.symm⟩,by dsimp only; omega⟩
 ·have h:¬ x < (l.length:Int):=df h
  rw [List.take_of_length_le (by omega)] at g2
  dsimp only
  rw [g2]
  exact ⟨⟨hn,hrs,hds,h19,hlen,hv⟩,(if_neg (not_or.2 ⟨df c,df c2⟩)).symm⟩
theorem sat_correct:Sat bs.P 88 correctSp:=jQe AZ0_sound 6 _ correctSp fun (⟨⟨sc,cm,da,ds,rs,⟨⟩⟩,⟨ek,ec,ed,ei,eo,eu,ef,ev,ea,en,⟨⟩⟩,l⟩:Bo × Ev × List Rw) hok hp=>by
 obtain ⟨⟨hn,hrs,hds,hv⟩,h1,h19⟩:(jQ6 sc ∧ rs.length ≤ 50000 ∧ ds.length ≤ 50000 ∧ verF ei rs ≤ 1000000) ∧ 1 ≤ l.length ∧ l.length ≤ 19:=hp
 rw [correct_nf]; delta kQ6 correct_nf_e0 correct_nf_e1 jZ0 jJ5 correctq2 IR LP NX SD eI ln y0 y1 y19 z0 z1 z9; dsimp only
 have p0:(0:Int) ≤ 0 ∧ (0:Int) < (l.length:Int):=⟨by omega,by omega⟩
 refine ⟨p0,fun c=>(if_pos (.inl (dt c))).symm,fun c=>⟨h1,fun c2=>(if_pos (.inr (dt c2))).symm,fun c2=>⟨fun x=>0 ≤ x.2.1 ∧ x.2.1 ≤ l.length ∧ x.1 = (daysC (max ef (fromR (l.getD 0 dRw))) l).take x.2.1.toNat,fun x=>(l.length - x.2.1).toNat,⟨by dsimp only; omega,by dsimp only; omega,rfl⟩,?_⟩⟩⟩
 rintro ⟨o,x,er⟩ ⟨g0,g1,g2⟩
 dsimp only at g0 g1 g2
 have hlen:=daysC_len (max ef (fromR (l.getD 0 dRw))) l
 refine ⟨fun h=>?_,fun h=>?_⟩
 ·have h:x < (l.length:Int):=dt h
  have hs:=jXd (l:=daysC (max ef (fromR (l.getD 0 dRw))) l) (d:=(0,0,())) g0 (by rw [hlen]; exact h)
  rw [← g2,daysC_get _ (show x.toNat < l.length by omega)] at hs
  have hol:o.length ≤ 19:=by rw [g2,List.length_take,hlen]; omega
  exact ⟨⟨g0,h⟩,roomB 16 (by kernel_rfl) (by omega) (by rw [List.length_singleton]; dsimp only; omega),by dsimp only; unfold isI64; omega,⟨by dsimp only; omega,by dsimp only; omega,hs.symm⟩,by dsimp only; omega⟩
 ·have h:¬ x < (l.length:Int):=df h
  rw [List.take_of_length_le (by omega)] at g2
  dsimp only
  rw [g2]
  exact ⟨p0,h1,⟨hn,hrs,hds,h19,hlen,hv⟩,(if_neg (not_or.2 ⟨df c,df c2⟩)).symm⟩
theorem sat_embargo:Sat bs.P 90 embargoSp:=jQe AZ0_sound 6 _ embargoSp fun (⟨⟨sc,cm,da,ds,rs,⟨⟩⟩,⟨ek,ec,ed,ei,eo,eu,ef,ev,ea,en,⟨⟩⟩,l⟩:Bo × Ev × List Rw) hok hp=>by
 obtain ⟨⟨hn,hrs,hds,hv⟩,h1,h19⟩:(jQ6 sc ∧ rs.length ≤ 50000 ∧ ds.length ≤ 50000 ∧ verF ei rs ≤ 1000000) ∧ 1 ≤ l.length ∧ l.length ≤ 19:=hp
 rw [embargo_nf]; delta embargo_nf_t0 embargo_nf_e0 embargo_nf_e1 jXq embargoq1 IR LP NX SD eI ln y0 y1 y19 z0 z1 z4 z9; dsimp only
 have p0:(0:Int) ≤ 0 ∧ (0:Int) < (l.length:Int):=⟨by omega,by omega⟩
 refine ⟨p0,fun c=>(if_pos (.inl (dt c))).symm,fun c=>⟨fun c2=>(if_pos (.inr (dt c2))).symm,fun c2=>?_⟩⟩
 have n1:¬ (fromR (l.getD 0 dRw) ≤ ed ∨ fromR (l.getD 0 dRw) = eu):=not_or.2 ⟨df c,df c2⟩
 refine ⟨fun c3=>((if_neg n1).trans (if_pos (.inl (dt c3)))).symm,fun c3=>⟨h1,fun c4=>((if_neg n1).trans (if_pos (.inr (dt c4)))).symm,fun c4=>⟨fun x=>0 ≤ x.2.1 ∧ x.2.1 ≤ l.length ∧ x.1 = (daysE eu (fromR (l.getD 0 dRw)) l).take x.2.1.toNat,fun x=>(l.length - x.2.1).toNat,⟨by dsimp only; omega,by dsimp only; omega,rfl⟩,?_⟩⟩⟩
 rintro ⟨o,x,er⟩ ⟨g0,g1,g2⟩
 dsimp only at g0 g1 g2
 have hlen:=daysE_len eu (fromR (l.getD 0 dRw)) l
 refine ⟨fun h=>?_,fun h=>?_⟩
 ·have h:x < (l.length:Int):=dt h
  have hs:=jXd (l:=daysE eu (fromR (l.getD 0 dRw)) l) (d:=(0,0,())) g0 (by rw [hlen]; exact h)
  rw [← g2,daysE_get _ _ (show x.toNat < l.length by omega)] at hs
  have hol:o.length ≤ 19:=by rw [g2,List.length_take,hlen]; omega
  have room:∀ d:Dy,roomP AZ0 193 (o.length + [d].length):=fun d=>roomB 16 (by kernel_rfl) (by omega) (by rw [List.length_singleton]; omega)
  have hi:isI64 (x + 1):=by unfold isI64; omega
  have hmu:((l.length:Int) - (x + 1)).toNat < ((l.length:Int) - x).toNat:=by omega
  have b1:0 ≤ x + 1:=by omega
  have b2:x + 1 ≤ (l.length:Int):=by omega
  refine ⟨⟨g0,h⟩,fun c5=>⟨fun c6=>⟨room _,hi,⟨b1,b2,?_⟩,hmu⟩,fun c6=>⟨room _,hi,⟨b1,b2,?_⟩,hmu⟩⟩,fun c5=>⟨room _,hi,⟨b1,b2,?_⟩,hmu⟩⟩
  ·have c5:x = 0:=dt c5
   have c6:eu < fromR (l.getD 0 dRw):=dt c6
   rw [if_pos ⟨by omega,c6⟩] at hs
   exact hs.symm
  ·have c6:¬ eu < fromR (l.getD 0 dRw):=df c6
   rw [if_neg fun g=>c6 g.2] at hs
   exact hs.symm
  ·have c5:¬ x = 0:=df c5
   rw [if_neg fun g=>c5 (by omega)] at hs
   exact hs.symm
 ·have h:¬ x < (l.length:Int):=df h
  rw [List.take_of_length_le (by omega)] at g2
  dsimp only
  rw [g2]
  exact ⟨⟨hn,hrs,hds,h19,hlen,hv⟩,((if_neg n1).trans (if_neg (not_or.2 ⟨df c3,df c4⟩))).symm⟩
end Go.Proofs.YtcnpblceamgfcaaGreatDoor
namespace Go.PL
open Go.AM
def jXs (b:Bo) (e:Ev):Bk :=
 if e.2.1 ≠ b.2.1 + 1 ∨ 1073741824 < e.2.1 ∨ e.2.2.1 < b.2.2.1 ∨ 1048576 < e.2.2.1 then (b,9,()) else
 if e.1 = 1 then fileS b e else if e.1 = 5 then jQz b e [] [] dEn else
 if e.1 = 2 ∨ e.1 = 3 ∨ e.1 = 4 then
  (if (liveS b e.2.2.2.1).length = 0 then (b,5,()) else
   if e.1 = 2 then jVk b e (liveS b e.2.2.2.1) else if e.1 = 3 then jJr b e (liveS b e.2.2.2.1) else jJ4 b e (liveS b e.2.2.2.1)) else (b,1,())
def zeroB:Bo:=((0,0,[],()),0,0,[],[],())
def newB (s:Sc):Bo:=(s,0,0,[],[],())
def newS (s:Sc):Bk:=if chkS s ≠ 0 then (zeroB,chkS s,()) else (newB s,0,())
abbrev Fo:=Bo × Int × Int × Unit
def foldA (b:Bo):List Ev → Int → Fo
 | [],i=>(b,i,0,())
 | e :: l,i=>if (jXs b e).2.1 ≠ 0 then (b,i,(jXs b e).2.1,()) else foldA (jXs b e).1 l (i + 1)
def foldS (s:Sc) (l:List Ev):Fo:=if chkS s ≠ 0 then (zeroB,0,chkS s,()) else foldA (newB s) l 0
def okE (b:Bo) (id:Int):Prop:=okB b id ∧ (liveF id b.2.2.2.2.1).length ≤ 19 ∧ 0 ≤ b.2.1 ∧ b.2.1 ≤ 1000000
def okA (b:Bo):List Ev → Prop
 | []=>True
 | e :: l=>okE b e.2.2.2.1 ∧ ((jXs b e).2.1 = 0 → okA (jXs b e).1 l)
def okF (s:Sc) (l:List Ev):Prop:=chkS s = 0 → okA (newB s) l
end Go.PL
namespace Go.Proofs.YtcnpblceamgfcaaGreatDoor
open Go.AM Go.PL
def applySp:FSpec:=⟨[BO,EV],[BK],fun x=>okE x.1 (x.2:Ev).2.2.2.1,fun x=>jXs x.1 x.2⟩
def newSp:FSpec:=⟨[SC],[BK],fun _=>True,fun s=>newS s⟩
def foldSp:FSpec:=⟨[SC,.arr EV],[FO],fun x=>okF x.1 x.2,fun x=>foldS x.1 x.2⟩
def hintBb (f:FuncId):Hint:=if Nat.beq f 999999995 then ⟨fun _=>[],fun _=>.split,fun _=>.split,datN⟩ else ⟨fun _=>[],fun _=>.split,fun _=>.split,fun _=>0⟩
noncomputable def BB0:Ctx:=mkctx bs [(85,fileSp),(88,correctSp),(89,withdrawSp),(90,embargoSp),(86,changeSp),(87,liveSp),(23,chkSp)] [] hintBb
abbrev rApply_nf_e0:List ((Int × Int × Int × Int × Int × Int × Int × List Int × List (List Int × Int × Int × List Int × Unit) × Unit) × Int × Unit):=[]
abbrev rApply_nf_e1:List (Int × Int × Unit):=[]
abbrev rApply_nf_e2:List (List Int × Int × Int × List Int × Unit):=[]
abbrev jVh (sc:Sc) (cm da:Int) (ds:List Int) (rs:List Rw) (ek ec ed ei eo eu ef:Int) (ev:List Int) (ea:List At) (en:List Int):=jJr (sc,cm,da,ds,
 rs,()) (ek,ec,ed,ei,eo,eu,ef,ev,ea,en,()) (liveS (sc,cm,da,ds,rs,()) ei)
abbrev jVg (sc:Sc) (cm da:Int) (ds:List Int) (rs:List Rw) (ek ec ed ei eo eu ef:Int) (ev:List Int) (ea:List At) (en:List Int):=jVk (sc,cm,da,ds,
 rs,()) (ek,ec,ed,ei,eo,eu,ef,ev,ea,en,()) (liveS (sc,cm,da,ds,rs,()) ei)
abbrev jVf (sc:Sc) (cm da:Int) (ds:List Int) (rs:List Rw) (ek ec ed ei eo eu ef:Int) (ev:List Int) (ea:List At) (en:List Int):=jJ4 (sc,cm,da,ds,
 rs,()) (ek,ec,ed,ei,eo,eu,ef,ev,ea,en,()) (liveS (sc,cm,da,ds,rs,()) ei)
abbrev rApplyq5 (sc:Sc) (cm da:Int) (ds:List Int) (rs:List Rw) (ei:Int):=okB (sc,cm,da,ds,rs,()) ei ∧ y1 ≤ (liveS (sc,cm,da,ds,rs,()) ei).length ∧ (liveS
 (sc,cm,da,ds,rs,()) ei).length ≤ y19
abbrev rApplyq0 (ei:Int) (rs:List Rw) (sc:Sc) (cm da:Int) (ds:List Int) (ek ec ed eo eu ef:Int) (ev:List Int) (ea:List At) (en:List Int):=(liveF ei rs).length
 ≤ y19 ∧ SD ((ln (liveS (sc,cm,da,ds,rs,()) ei)) = z0) ((((sc.1,sc.2.1,sc.2.2.1,()),cm,da,ds,rs,()),z5,()) = jXs (sc,cm,da,ds,rs,()) (ek,ec,ed,ei,eo,
 eu,ef,ev,ea,en,())) (SD (ek = z2) ((rApplyq5 sc cm da ds rs ei) ∧ ((((jVg sc cm da ds rs ek ec ed ei eo eu ef ev ea en).1.1.1,(jVg sc cm da ds rs ek ec ed ei eo
 eu ef ev ea en).1.1.2.1,(jVg sc cm da ds rs ek ec ed ei eo eu ef ev ea en).1.1.2.2.1,()),(jVg sc cm da ds rs ek ec ed ei eo eu ef ev ea en).1.2.1,(jVg sc cm
 da ds rs ek ec ed ei eo eu ef ev ea en).1.2.2.1,(jVg sc cm da ds rs ek ec ed ei eo eu ef ev ea en).1.2.2.2.1,(jVg sc cm da ds rs ek ec ed ei eo eu ef ev ea
 en).1.2.2.2.2.1,()),(jVg sc cm da ds rs ek ec ed ei eo eu ef ev ea en).2.1,()) = jXs (sc,cm,da,ds,rs,()) (ek,ec,ed,ei,eo,eu,ef,ev,ea,en,())) (SD (ek =
 z3) ((rApplyq5 sc cm da ds rs ei) ∧ ((((jVh sc cm da ds rs ek ec ed ei eo eu ef ev ea en).1.1.1,(jVh sc cm da ds rs ek ec ed ei eo eu ef ev ea en).1.1.2.1,(jVh
 sc cm da ds rs ek ec ed ei eo eu ef ev ea en).1.1.2.2.1,()),(jVh sc cm da ds rs ek ec ed ei eo eu ef ev ea en).1.2.1,(jVh sc cm da ds rs ek ec ed ei eo eu ef ev ea
 en).1.2.2.1,(jVh sc cm da ds rs ek ec ed ei eo eu ef ev ea en).1.2.2.2.1,(jVh sc cm da ds rs ek ec ed ei eo eu ef ev ea en).1.2.2.2.2.1,()),(jVh sc cm da ds
 rs ek ec ed ei eo eu ef ev ea en).2.1,()) = jXs (sc,cm,da,ds,rs,()) (ek,ec,ed,ei,eo,eu,ef,ev,ea,en,())) ((rApplyq5 sc cm da ds rs ei) ∧ ((((jVf sc cm da
 ds rs ek ec ed ei eo eu ef ev ea en).1.1.1,(jVf sc cm da ds rs ek ec ed ei eo eu ef ev ea en).1.1.2.1,(jVf sc cm da ds rs ek ec ed ei eo eu ef ev ea en).1.1.2.2.1,
 ()),(jVf sc cm da ds rs ek ec ed ei eo eu ef ev ea en).1.2.1,(jVf sc cm da ds rs ek ec ed ei eo eu ef ev ea en).1.2.2.1,(jVf sc cm da ds rs ek ec ed ei eo eu
 ef ev ea en).1.2.2.2.1,(jVf sc cm da ds rs ek ec ed ei eo eu ef ev ea en).1.2.2.2.2.1,()),(jVf sc cm da ds rs ek ec ed ei eo eu ef ev ea en).2.1,()) = jXs (sc,
 cm,da,ds,rs,()) (ek,ec,ed,ei,eo,eu,ef,ev,ea,en,()))))
abbrev jVi (sc:Sc) (cm da:Int) (ds:List Int) (rs:List Rw) (ek ec ed ei eo eu ef:Int) (ev:List Int) (ea:List At) (en:List Int):=jQz (sc,cm,da,ds,rs,
 ()) (ek,ec,ed,ei,eo,eu,ef,ev,ea,en,()) rApply_nf_e0 rApply_nf_e1 (z0,z0,z0,z0,z0,z0,z0,eI,rApply_nf_e2,())
theorem rApply_nf (sc:Sc) (cm da:Int) (ds:List Int) (rs:List Rw) (ek ec ed ei eo eu ef:Int) (ev:List Int) (ea:List At) (en:List Int):fnwp BB0 6 51 applySp ((sc,
 cm,da,ds,rs,()),(ek,ec,ed,ei,eo,eu,ef,ev,ea,en,())) = (isI64 (cm + z1) ∧ SP (!decide (ec = cm + z1)) ((((sc.1,sc.2.1,sc.2.2.1,()),cm,da,ds,rs,()),z9,())
 = jXs (sc,cm,da,ds,rs,()) (ek,ec,ed,ei,eo,eu,ef,ev,ea,en,())) (SD ((1073741824:Int) < ec) ((((sc.1,sc.2.1,sc.2.2.1,()),cm,da,ds,rs,()),z9,()) =
 jXs (sc,cm,da,ds,rs,()) (ek,ec,ed,ei,eo,eu,ef,ev,ea,en,())) (SD (ed < da) ((((sc.1,sc.2.1,sc.2.2.1,()),cm,da,ds,rs,()),z9,()) = jXs (sc,cm,da,
 ds,rs,()) (ek,ec,ed,ei,eo,eu,ef,ev,ea,en,())) (SD ((1048576:Int) < ed) ((((sc.1,sc.2.1,sc.2.2.1,()),cm,da,ds,rs,()),z9,()) = jXs (sc,cm,da,ds,rs,
 ()) (ek,ec,ed,ei,eo,eu,ef,ev,ea,en,())) (SD (ek = z1) (okB (sc,cm,da,ds,rs,()) ei ∧ ((((fileS (sc,cm,da,ds,rs,()) (ek,ec,ed,ei,eo,eu,ef,ev,ea,en,
 ())).1.1.1,(fileS (sc,cm,da,ds,rs,()) (ek,ec,ed,ei,eo,eu,ef,ev,ea,en,())).1.1.2.1,(fileS (sc,cm,da,ds,rs,()) (ek,ec,ed,ei,eo,eu,ef,ev,ea,en,
 ())).1.1.2.2.1,()),(fileS (sc,cm,da,ds,rs,()) (ek,ec,ed,ei,eo,eu,ef,ev,ea,en,())).1.2.1,(fileS (sc,cm,da,ds,rs,()) (ek,ec,ed,ei,eo,eu,ef,ev,ea,
 en,())).1.2.2.1,(fileS (sc,cm,da,ds,rs,()) (ek,ec,ed,ei,eo,eu,ef,ev,ea,en,())).1.2.2.2.1,(fileS (sc,cm,da,ds,rs,()) (ek,ec,ed,ei,eo,eu,ef,ev,ea,
 en,())).1.2.2.2.2.1,()),(fileS (sc,cm,da,ds,rs,()) (ek,ec,ed,ei,eo,eu,ef,ev,ea,en,())).2.1,()) = jXs (sc,cm,da,ds,rs,()) (ek,ec,ed,ei,eo,eu,ef,
 ev,ea,en,())) (SD (ek = z5) ((jQ6 sc ∧ rs.length ≤ (50000:Nat) ∧ ds.length ≤ (50000:Nat) ∧ rApply_nf_e0.length ≤ y19 ∧ rApply_nf_e1.length = rApply_nf_e0.length ∧
 verF ei rs ≤ (1000000:Int)) ∧ ((((jVi sc cm da ds rs ek ec ed ei eo eu ef ev ea en).1.1.1,(jVi sc cm da ds rs ek ec ed ei eo eu ef ev ea en).1.1.2.1,(jVi sc
 cm da ds rs ek ec ed ei eo eu ef ev ea en).1.1.2.2.1,()),(jVi sc cm da ds rs ek ec ed ei eo eu ef ev ea en).1.2.1,(jVi sc cm da ds rs ek ec ed ei eo eu ef ev ea
 en).1.2.2.1,(jVi sc cm da ds rs ek ec ed ei eo eu ef ev ea en).1.2.2.2.1,(jVi sc cm da ds rs ek ec ed ei eo eu ef ev ea en).1.2.2.2.2.1,()),(jVi sc cm da ds
 rs ek ec ed ei eo eu ef ev ea en).2.1,()) = jXs (sc,cm,da,ds,rs,()) (ek,ec,ed,ei,eo,eu,ef,ev,ea,en,())) (SD (ek = z2) (rApplyq0 ei rs sc cm da ds ek ec ed eo
 eu ef ev ea en) (SD (ek = z3) (rApplyq0 ei rs sc cm da ds ek ec ed eo eu ef ev ea en) (SD (ek = z4) (rApplyq0 ei rs sc cm da ds ek ec ed eo eu ef ev ea en) ((((sc.1,sc.2.1,
 sc.2.2.1,()),cm,da,ds,rs,()),z1,()) = jXs (sc,cm,da,ds,rs,()) (ek,ec,ed,ei,eo,eu,ef,ev,ea,en,()))))))))))):=by kernel_rfl
abbrev rNew_nf_e0:List (List Int × Int × Int × Int × List (List Int) × Unit):=[]
abbrev rNew_nf_e1:List ((Int × Int × Int × Int × Int × Int × Int × List Int × List (List Int × Int × Int × List Int × Unit) × Unit) × Int × Unit):=[]
theorem rNew_nf (d m:Int) (l:List Df):fnwp BB0 6 50 newSp (d,m,l,()) = (True ∧ SP (!decide (chkS (d,m,l,()) = z0)) ((((z0,z0,rNew_nf_e0,()),z0,z0,eI,
 rNew_nf_e1,()),chkS (d,m,l,()),()) = newS (d,m,l,())) ((((d,m,l,()),z0,z0,eI,rNew_nf_e1,()),z0,()) = newS (d,m,l,()))):=by kernel_rfl
end Go.Proofs.YtcnpblceamgfcaaGreatDoor
