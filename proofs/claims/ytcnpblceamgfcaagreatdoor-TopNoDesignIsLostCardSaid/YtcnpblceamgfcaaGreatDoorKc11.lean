import Derived.Test.YtcnpblceamgfcaaGreatDoorKc10
import Derived.Test.YtcnpblceamgfcaaGreatDoorKc1
import Derived.Test.YtcnpblceamgfcaaGreatDoorKc9
import Derived.Shelf.SlSortCmp.NoneTotal
import Derived.Shelf.SlSortCmp.WholeK
import Derived.Shelf.SlGeneric
import Derived.Test.YtcnpblceamgfcaaGreatDoorProg
import Derived.Tactics
import Derived.Tactics2
import Derived.WalkKit
import Derived.WalkSpells
import Derived.StillTactics
import Derived.Laws.Pointers
import Derived.Laws.Externs
import Derived.LoopN
import Derived.Handy
import Derived.Deep.RegionHeld3
import Derived.Lib.Small
import Derived.Lib.Walk
import Derived.Lib.BytesEntry
import Derived.Lib.Bytealg
import Derived.Sort.Grow
import Derived.Deep.Draws
import Derived.Deep.DrawnRows
import Derived.KernelRfl
set_option linter.unusedSimpArgs false
set_option linter.unusedVariables false
namespace Go.PL
open Go.AM
abbrev badT (b:Bo) (e:Ev):Prop:=e.2.1 ≠ b.2.1 + 1 ∨ 1073741824 < e.2.1 ∨ e.2.2.1 < b.2.2.1 ∨ 1048576 < e.2.2.1
theorem apS_time {b:Bo} {e:Ev} (h:badT b e):jXs b e = (b,9,()):=if_pos h
theorem apS_file {b:Bo} {e:Ev} (h:¬ badT b e) (hk:e.1 = 1):jXs b e = fileS b e:=(if_neg h).trans (if_pos hk)
theorem apS_turn {b:Bo} {e:Ev} (h:¬ badT b e) (hk:e.1 = 5):jXs b e = jQz b e [] [] dEn:=(if_neg h).trans ((if_neg (by rw [hk]; decide)).trans (if_pos hk))
theorem apS_mid {b:Bo} {e:Ev} (h:¬ badT b e) (hk:e.1 = 2 ∨ e.1 = 3 ∨ e.1 = 4):jXs b e = (if (liveS b e.2.2.2.1).length = 0 then (b,5,()) else
 if e.1 = 2 then jVk b e (liveS b e.2.2.2.1) else if e.1 = 3 then jJr b e (liveS b e.2.2.2.1) else jJ4 b e (liveS b e.2.2.2.1)):=(if_neg h).trans ((if_neg (by omega)).trans ((if_neg (by omega)).trans (if_pos hk)))
theorem apS_none {b:Bo} {e:Ev} (h:¬ badT b e) (hk:e.1 = 2 ∨ e.1 = 3 ∨ e.1 = 4) (hl:(liveS b e.2.2.2.1).length = 0):jXs b e = (b,5,()):=(apS_mid h hk).trans (if_pos hl)
theorem apS_cor {b:Bo} {e:Ev} (h:¬ badT b e) (hk:e.1 = 2) (hl:¬ (liveS b e.2.2.2.1).length = 0):jXs b e = jVk b e (liveS b e.2.2.2.1):=(apS_mid h (.inl hk)).trans ((if_neg hl).trans (if_pos hk))
theorem apS_wd {b:Bo} {e:Ev} (h:¬ badT b e) (hk:e.1 = 3) (hl:¬ (liveS b e.2.2.2.1).length = 0):jXs b e = jJr b e (liveS b e.2.2.2.1):=(apS_mid h (.inr (.inl hk))).trans ((if_neg hl).trans ((if_neg (by rw [hk]; decide)).trans (if_pos hk)))
theorem apS_em {b:Bo} {e:Ev} (h:¬ badT b e) (hk:e.1 = 4) (hl:¬ (liveS b e.2.2.2.1).length = 0):jXs b e = jJ4 b e (liveS b e.2.2.2.1):=(apS_mid h (.inr (.inr hk))).trans ((if_neg hl).trans ((if_neg (by rw [hk]; decide)).trans (if_neg (by rw [hk]; decide))))
theorem apS_bad {b:Bo} {e:Ev} (h:¬ badT b e) (h1:¬ e.1 = 1) (h5:¬ e.1 = 5) (hk:¬ (e.1 = 2 ∨ e.1 = 3 ∨ e.1 = 4)):jXs b e = (b,1,()):=(if_neg h).trans ((if_neg h1).trans ((if_neg h5).trans (if_neg hk)))
end Go.PL
namespace Go.Proofs.YtcnpblceamgfcaaGreatDoor
open Go.AM Go.PL
attribute [local irreducible] fnwp fnwpG fnwpO
theorem BB0_sound:jQa BB0:=jQd ⟨sat_file,sat_correct,sat_withdraw,sat_embargo,sat_change,sat_rLive,sat_rChk,trivial⟩ trivial
theorem sat_rApply:Sat bs.P 51 applySp:=jQe BB0_sound 6 _ applySp fun (⟨⟨sc,cm,da,ds,rs,⟨⟩⟩,⟨ek,ec,ed,ei,eo,eu,ef,ev,ea,en,⟨⟩⟩⟩:Bo × Ev) hok hp=>by
 obtain ⟨⟨hn,hrs,hds,hv⟩,hlv,hc0,hc1⟩:(jQ6 sc ∧ rs.length ≤ 50000 ∧ ds.length ≤ 50000 ∧ verF ei rs ≤ 1000000) ∧ (liveF ei rs).length ≤ 19 ∧ 0 ≤ cm ∧ cm ≤ 1000000:=hp
 rw [rApply_nf]; delta rApply_nf_e0 rApply_nf_e1 rApply_nf_e2 jVh jVg jVf rApplyq5 rApplyq0 jVi SD SP eI ln y1 y19 z0 z1 z2 z3 z4 z5 z9
 have hob:okB (sc,cm,da,ds,rs,()) ei:=⟨hn,hrs,hds,hv⟩
 have hll:(liveS (sc,cm,da,ds,rs,()) ei).length ≤ 19:=by
  unfold liveS
  rw [jZa]
  exact hlv
 have hz:([]:List Rw).length ≤ 19:=by simp
 have hi:isI64 (cm + 1):=by unfold isI64; omega
 refine ⟨hi,fun c1=>(apS_time (.inl (ndt c1))).symm,fun c1=>⟨fun c2=>(apS_time (.inr (.inl (dt c2)))).symm,fun c2=>⟨fun c3=>(apS_time (.inr (.inr (.inl (dt c3))))).symm,fun c3=>⟨fun c4=>(apS_time (.inr (.inr (.inr (dt c4))))).symm,fun c4=>?_⟩⟩⟩⟩
 have hT:¬ badT (sc,cm,da,ds,rs,()) (ek,ec,ed,ei,eo,eu,ef,ev,ea,en,()):=by
  rintro (g | g | g | g)
  ·exact g (ndf c1)
  ·exact df c2 g
  ·exact df c3 g
  ·exact df c4 g
 have zz:∀ {n:Nat},decide ((n:Int) = 0) = true → n = 0:=fun z=>by have:=dt z; omega
 have zn:∀ {n:Nat},decide ((n:Int) = 0) = false → ¬ n = 0:=fun z=>by have:=df z; omega
 have z1:∀ {n:Nat},decide ((n:Int) = 0) = false → 1 ≤ n:=fun z=>by have:=df z; omega
 refine ⟨fun k1=>⟨hob,(apS_file hT (dt k1)).symm⟩,fun k1=>⟨fun k5=>⟨⟨hn,hrs,hds,hz,rfl,hv⟩,(apS_turn hT (dt k5)).symm⟩,fun k5=>⟨fun h2=>?_,fun h2=>⟨fun h3=>?_,fun h3=>⟨fun h4=>?_,fun h4=>(apS_bad hT (df k1) (df k5) (by rintro (g | g | g); exact df h2 g; exact df h3 g; exact df h4 g)).symm⟩⟩⟩⟩⟩
 ·have hk:ek = 2 ∨ ek = 3 ∨ ek = 4:=.inl (dt h2)
  exact ⟨hlv,fun z=>(apS_none hT hk (zz z)).symm,fun z=>⟨fun k2=>⟨⟨hob,z1 z,hll⟩,(apS_cor hT (dt k2) (zn z)).symm⟩,fun k2=>absurd (dt h2) (df k2)⟩⟩
 ·have hk:ek = 2 ∨ ek = 3 ∨ ek = 4:=.inr (.inl (dt h3))
  exact ⟨hlv,fun z=>(apS_none hT hk (zz z)).symm,fun z=>⟨fun k2=>absurd (dt k2) (df h2),fun k2=>⟨fun k3=>⟨⟨hob,z1 z,hll⟩,(apS_wd hT (dt k3) (zn z)).symm⟩,fun k3=>absurd (dt h3) (df k3)⟩⟩⟩
 ·have hk:ek = 2 ∨ ek = 3 ∨ ek = 4:=.inr (.inr (dt h4))
  exact ⟨hlv,fun z=>(apS_none hT hk (zz z)).symm,fun z=>⟨fun k2=>absurd (dt k2) (df h2),fun k2=>⟨fun k3=>absurd (dt k3) (df h3),fun k3=>⟨⟨hob,z1 z,hll⟩,(apS_em hT (dt h4) (zn z)).symm⟩⟩⟩⟩
theorem sat_rNew:Sat bs.P 50 newSp:=jQe BB0_sound 6 _ newSp fun (⟨d,m,l,⟨⟩⟩:Sc) hok hp=>by
 rw [rNew_nf]; delta rNew_nf_e0 rNew_nf_e1 SP eI z0
 exact ⟨trivial,fun c=>(if_pos (ndt c)).symm,fun c=>(if_neg fun g=>g (ndf c)).symm⟩
end Go.Proofs.YtcnpblceamgfcaaGreatDoor
namespace Go.Proofs.YtcnpblceamgfcaaGreatDoor
open Go.AM Go.PL
def loopsBd (f:FuncId) (r:Nat):List LA :=
 if Nat.beq f 24 then [.slot 6 I,.cell 0 8 I,.cell 1 0 I,.cell 1 1 I,.cell 1 2 (.arr DF),.cell 1 3 I,.cell 1 4 I,.cell 1 5 L,.cell 1 6 RL,.cell 1 7 I] else
 []
def hintBd (f:FuncId):Hint:=if Nat.beq f 999999995 then ⟨fun _=>[],fun _=>.split,fun _=>.split,datN⟩ else ⟨loopsBd f,fun r=>bif Nat.beq f 24 && Nat.beq r 5 then .all else .split,fun _=>.split,fun _=>0⟩
noncomputable def BD0:Ctx:=mkctx bs [(51,applySp),(50,newSp)] [] hintBd
abbrev kQx:Type:=Int × Int × Int × Int × List (List Int × Int × Int × Int × List (List Int) × Unit) × Int × Int × List Int × List ((Int × Int × Int × Int × Int × Int
 × Int × List Int × List (List Int × Int × Int × List Int × Unit) × Unit) × Int × Unit) × Int
abbrev rFold_nf_e0:List (List Int × Int × Int × List Int × Unit):=[]
abbrev rFold_nf_e1:List (List Int × Int × Int × Int × List (List Int) × Unit):=[]
abbrev rFold_nf_e2:List ((Int × Int × Int × Int × Int × Int × Int × List Int × List (List Int × Int × Int × List Int × Unit) × Unit) × Int × Unit):=[]
abbrev rFoldq1 (x:kQx):=((x.2.2.1,x.2.2.2.1,x.2.2.2.2.1,()),x.2.2.2.2.2.1,x.2.2.2.2.2.2.1,x.2.2.2.2.2.2.2.1,x.2.2.2.2.2.2.2.2.1,())
abbrev jVw (x:kQx) (l:List Ev):=jXs (rFoldq1 x) (l.getD x.1.toNat (z0,z0,z0,z0,z0,z0,z0,eI,rFold_nf_e0,List.replicate y16 z0,()))
abbrev rFoldq2 (x:kQx) (d m:Int) (df:List Df) (l:List Ev):=SP (!decide (x.2.2.2.2.2.2.2.2.2 = z0)) ((((z0,z0,rFold_nf_e1,()),z0,z0,eI,rFold_nf_e2,()),
 z0,x.2.2.2.2.2.2.2.2.2,()) = foldS (d,m,df,()) l) (((rFoldq1 x),(ln l),z0,()) = foldS (d,m,df,()) l)
theorem rFold_nf (d m:Int) (df:List Df) (l:List Ev):fnwp BD0 6 24 foldSp ((d,m,df,()),l) = (True ∧ LP (z0,z0,(newS (d,m,df,())).1.1.1,(newS (d,m,df,
 ())).1.1.2.1,(newS (d,m,df,())).1.1.2.2.1,(newS (d,m,df,())).1.2.1,(newS (d,m,df,())).1.2.2.1,(newS (d,m,df,())).1.2.2.2.1,(newS (d,m,df,())).1.2.2.2.2.1,
 (newS (d,m,df,())).2.1) fun I μ x=>SD (x.1 < (ln l)) (SD (x.2.2.2.2.2.2.2.2.2 = z0) ((IR x.1 l) ∧ okE (rFoldq1 x) (l.getD x.1.toNat (z0,z0,z0,z0,z0,z0,z0,eI,
 rFold_nf_e0,List.replicate y16 z0,())).2.2.2.1 ∧ SP (!decide ((jVw x l).2.1 = z0)) (((rFoldq1 x),x.1,(jVw x l).2.1,()) = foldS (d,m,df,()) l) (isI64 (x.1 + z1) ∧
 NX I μ x (x.1 + z1,x.2.1,(jVw x l).1.1.1,(jVw x l).1.1.2.1,(jVw x l).1.1.2.2.1,(jVw x l).1.2.1,(jVw x l).1.2.2.1,(jVw x l).1.2.2.2.1,(jVw x
 l).1.2.2.2.2.1,(jVw x l).2.1))) (rFoldq2 x d m df l)) (rFoldq2 x d m df l)):=by kernel_rfl
end Go.Proofs.YtcnpblceamgfcaaGreatDoor
namespace Go.PL
open Go.AM
abbrev dEv:Ev:=(0,0,0,0,0,0,0,[],[],List.replicate (16:Nat) 0,())
def FoldI (s:Sc) (l:List Ev) (i:Int) (b:Bo) (e:Int):Prop :=
 0 ≤ i ∧ i ≤ l.length ∧ ((e = 0 ∧ okA b (l.drop i.toNat) ∧ foldS s l = foldA b (l.drop i.toNat) i) ∨ (e ≠ 0 ∧ foldS s l = (zeroB,0,e,())))
theorem fold_start {s:Sc} {l:List Ev} (h:okF s l):FoldI s l 0 (newS s).1 (newS s).2.1:=by
 refine ⟨by omega,by omega,?_⟩
 by_cases hc:chkS s = 0
 ·have h1:newS s = (newB s,0,()):=if_neg fun g=>g hc
  have h2:foldS s l = foldA (newB s) l 0:=if_neg fun g=>g hc
  rw [h1]
  exact .inl ⟨rfl,h hc,h2⟩
 ·have h1:newS s = (zeroB,chkS s,()):=if_pos hc
  have h2:foldS s l = (zeroB,0,chkS s,()):=if_pos hc
  rw [h1]
  exact .inr ⟨hc,h2⟩
theorem fold_err {s:Sc} {l:List Ev} {i:Int} {b:Bo} {e:Int} (h:FoldI s l i b e) (he:e ≠ 0):(zeroB,0,e,()) = foldS s l:=by
 rcases h.2.2 with g | g
 ·exact absurd g.1 he
 ·exact g.2.symm
theorem fold_ok {s:Sc} {l:List Ev} {i:Int} {b:Bo} {e:Int} (h:FoldI s l i b e) (he:e = 0) (hi:i < l.length):okE b (l.getD i.toNat dEv).2.2.2.1:=by
 rcases h.2.2 with g | g
 ·have:=g.2.1
  rw [jJc (d:=dEv) h.1 hi] at this
  exact this.1
 ·exact absurd he g.1
theorem fold_bad {s:Sc} {l:List Ev} {i:Int} {b:Bo} {e:Int} (h:FoldI s l i b e) (he:e = 0) (hi:i < l.length) (ha:(jXs b (l.getD i.toNat dEv)).2.1 ≠ 0):(b,i,(jXs b (l.getD i.toNat dEv)).2.1,()) = foldS s l:=by
 rcases h.2.2 with g | g
 ·rw [g.2.2,jJc (d:=dEv) h.1 hi]
  exact (if_pos ha).symm
 ·exact absurd he g.1
theorem fold_step {s:Sc} {l:List Ev} {i:Int} {b:Bo} {e:Int} (h:FoldI s l i b e) (he:e = 0) (hi:i < l.length) (ha:(jXs b (l.getD i.toNat dEv)).2.1 = 0):FoldI s l (i + 1) (jXs b (l.getD i.toNat dEv)).1 (jXs b (l.getD i.toNat dEv)).2.1:=by
 have h0:=h.1
 refine ⟨by omega,by omega,.inl ⟨ha,?_⟩⟩
 rcases h.2.2 with g | g
 ·have g1:=g.2.1
  have g2:=g.2.2
  rw [jJc (d:=dEv) h.1 hi] at g1 g2
  exact ⟨g1.2 ha,g2.trans (if_neg fun k=>k ha)⟩
 ·exact absurd he g.1
theorem fold_end {s:Sc} {l:List Ev} {i:Int} {b:Bo} {e:Int} (h:FoldI s l i b e) (he:e = 0) (hi:¬ i < l.length):(b,(l.length:Int),0,()) = foldS s l:=by
 rcases h.2.2 with g | g
 ·have h1:=h.2.1
  have h2:=g.2.2
  rw [List.drop_of_length_le (by omega)] at h2
  rw [h2,show (l.length:Int) = i by omega]
  rfl
 ·exact absurd he g.1
end Go.PL
namespace Go.Proofs.YtcnpblceamgfcaaGreatDoor
open Go.AM Go.PL
attribute [local irreducible] fnwp fnwpG fnwpO
theorem BD0_sound:jQa BD0:=jQd ⟨sat_rApply,sat_rNew,trivial⟩ trivial
theorem sat_rFold:Sat bs.P 24 foldSp:=jQe BD0_sound 6 _ foldSp fun (⟨⟨d,m,dl,⟨⟩⟩,l⟩:Sc × List Ev) hok hp=>by
 have hp:okF (d,m,dl,()) l:=hp
 have hm:l.length ≤ 9223372036854775807:=hok.2.1
 rw [rFold_nf]; delta kQx rFold_nf_e0 rFold_nf_e1 rFold_nf_e2 rFoldq1 jVw rFoldq2 IR LP NX SD SP eI ln y16 z0 z1; dsimp only
 refine ⟨trivial,fun x=>FoldI (d,m,dl,()) l x.1 ((x.2.2.1,x.2.2.2.1,x.2.2.2.2.1,()),x.2.2.2.2.2.1,x.2.2.2.2.2.2.1,x.2.2.2.2.2.2.2.1,x.2.2.2.2.2.2.2.2.1,()) x.2.2.2.2.2.2.2.2.2,fun x=>(l.length - x.1).toNat,fold_start hp,?_⟩
 rintro ⟨i,re,d',m',dl',cm,da,ds,rs,e⟩ hI
 dsimp only at hI
 have h0:=hI.1
 refine ⟨fun h=>⟨fun c=>?_,fun c=>⟨fun _=>fold_err hI (df c),fun g=>absurd (ndf g) (df c)⟩⟩,fun h=>⟨fun g=>fold_err hI (ndt g),fun g=>fold_end hI (ndf g) (df h)⟩⟩
 have h:i < (l.length:Int):=dt h
 have c:e = 0:=dt c
 exact ⟨⟨h0,h⟩,fold_ok hI c h,fun g=>fold_bad hI c h (ndt g),fun g=>⟨jZv h0 h hm,fold_step hI c h (ndf g),by dsimp only; omega⟩⟩
end Go.Proofs.YtcnpblceamgfcaaGreatDoor
namespace Go.PL
open Go.AM
def shortA (a:At):Bool:=decide (a.1.length ≤ 300) && decide (a.2.2.2.1.length ≤ 300)
def fewEB (e:En):Bool:=decide (e.2.2.2.2.2.2.2.1.length ≤ 40) && (decide (e.2.2.2.2.2.2.2.2.1.length ≤ 20) && e.2.2.2.2.2.2.2.2.1.all shortA)
end Go.PL
namespace Go.Proofs.YtcnpblceamgfcaaGreatDoor
open Go.AM Go.PL
def fewESp:FSpec:=⟨[EN],[.bool],fun _=>True,fun e=>fewEB e⟩
def loopsBf (f:FuncId) (r:Nat):List LA :=
 if Nat.beq f 47 then [.slot 3 I] else []
def hintBf (f:FuncId):Hint:=if Nat.beq f 999999995 then ⟨fun _=>[],fun _=>.split,fun _=>.split,datN⟩ else ⟨loopsBf f,fun _=>.split,fun _=>.split,fun _=>0⟩
noncomputable def BF0:Ctx:=mkctx bs [] [] hintBf
theorem few_nf (e1 e2 e3 e4 e5 e6 e7:Int) (v:List Int) (l:List At):fnwp BF0 6 47 fewESp (e1,e2,e3,e4,e5,e6,e7,v,l,()) = (LP z0 fun I μ x=>SD (x < (ln l)) (SD
 (x ≤ z20) ((IR x l) ∧ SD ((300:Int) < (ln (l.getD x.toNat (eI,z0,z0,eI,())).1)) (false = fewEB (e1,e2,e3,e4,e5,e6,e7,v,l,())) ((IR x l) ∧ SD ((300:Int) < (ln
 (l.getD x.toNat (eI,z0,z0,eI,())).2.2.2.1)) (false = fewEB (e1,e2,e3,e4,e5,e6,e7,v,l,())) (isI64 (x + z1) ∧ NX I μ x (x + z1)))) (SD ((ln v) ≤ z40) (decide ((ln l)
 ≤ z20) = fewEB (e1,e2,e3,e4,e5,e6,e7,v,l,())) (false = fewEB (e1,e2,e3,e4,e5,e6,e7,v,l,())))) (SD ((ln v) ≤ z40) (decide ((ln l) ≤ z20) = fewEB (e1,e2,e3,
 e4,e5,e6,e7,v,l,())) (false = fewEB (e1,e2,e3,e4,e5,e6,e7,v,l,())))):=by kernel_rfl
end Go.Proofs.YtcnpblceamgfcaaGreatDoor
namespace Go.PL
open Go.AM
theorem jY8 {e:En}:fewEB e = true ↔ e.2.2.2.2.2.2.2.1.length ≤ 40 ∧ e.2.2.2.2.2.2.2.2.1.length ≤ 20 ∧ ∀ j:Nat,(j:Int) < e.2.2.2.2.2.2.2.2.1.length → (e.2.2.2.2.2.2.2.2.1.getD j ([],0,0,[],())).1.length ≤ 300 ∧ (e.2.2.2.2.2.2.2.2.1.getD j ([],0,0,[],())).2.2.2.1.length ≤ 300:=by
 unfold fewEB shortA
 simp only [Bool.and_eq_true,decide_eq_true_eq,List.all_eq_true]
 refine ⟨fun ⟨a,b,c⟩=>⟨a,b,fun j hj=>c _ (jX5 (by omega))⟩,fun ⟨a,b,c⟩=>⟨a,b,fun x hx=>?_⟩⟩
 obtain ⟨j,hj,rfl⟩:=jVj ([],0,0,[],()) hx
 exact c j (by omega)
theorem fewE_of {e:En} (h:fewEB e = true):fewE e:=by
 obtain ⟨a,b,c⟩:=jY8.1 h
 refine ⟨a,b,fun x hx=>?_⟩
 obtain ⟨j,hj,rfl⟩:=jVj ([],0,0,[],()) hx
 exact c j (by omega)
end Go.PL
namespace Go.Proofs.YtcnpblceamgfcaaGreatDoor
open Go.AM Go.PL
attribute [local irreducible] fnwp fnwpG fnwpO
theorem BF0_sound:jQa BF0:=jQd trivial trivial
theorem sat_few:Sat bs.P 47 fewESp:=jQe BF0_sound 6 _ fewESp fun (⟨e1,e2,e3,e4,e5,e6,e7,v,l,⟨⟩⟩:En) hok hp=>by
 rw [few_nf]; delta IR LP NX SD eI ln z0 z1 z20 z40; dsimp only
 have hm:l.length ≤ 9223372036854775807:=hok.2.2.2.2.2.2.2.2.1.1
 have no:(¬ fewEB (e1,e2,e3,e4,e5,e6,e7,v,l,()) = true) → false = fewEB (e1,e2,e3,e4,e5,e6,e7,v,l,()):=fun h=>is_no h
 refine ⟨fun x=>0 ≤ x ∧ x ≤ l.length ∧ ∀ j:Nat,(j:Int) < x → (l.getD j ([],0,0,[],())).1.length ≤ 300 ∧ (l.getD j ([],0,0,[],())).2.2.2.1.length ≤ 300,fun x=>(l.length - x).toNat,⟨by omega,by omega,fun j hj=>by omega⟩,?_⟩
 rintro x ⟨h0,h1,h2⟩
 have vec:decide ((v.length:Int) ≤ 40) = false → false = fewEB (e1,e2,e3,e4,e5,e6,e7,v,l,()):=fun c=>no fun g=>df c (by have:=(jY8.1 g).1; dsimp only at this; omega)
 refine ⟨fun h=>⟨fun c=>?_,fun c=>⟨fun c2=>?_,vec⟩⟩,fun h=>⟨fun c2=>?_,vec⟩⟩
 ·have h:=dt h
  refine ⟨⟨h0,h⟩,fun d=>no fun g=>?_,fun d=>⟨⟨h0,h⟩,fun d2=>no fun g=>?_,fun d2=>⟨jZv h0 h hm,⟨by omega,by omega,jK7 h0 h2 ?_⟩,by dsimp only; omega⟩⟩⟩
  ·have:=((jY8.1 g).2.2 x.toNat (by dsimp only; omega)).1
   have:=dt d
   dsimp only at *
   omega
  ·have:=((jY8.1 g).2.2 x.toNat (by dsimp only; omega)).2
   have:=dt d2
   dsimp only at *
   omega
  ·have:=df d
   have:=df d2
   exact ⟨by omega,by omega⟩
 ·have h:=dt h
  have c:=df c
  rw [decide_eq_false (by omega)]
  exact no fun g=>by have:=(jY8.1 g).2.1; dsimp only at this; omega
 ·have h:=df h
  refine bool_is ?_
  rw [decide_eq_true_eq,jY8]
  dsimp only
  have:=dt c2
  exact ⟨fun g=>⟨by omega,by omega,fun j hj=>h2 j (by omega)⟩,fun g=>by have:=g.2.1; omega⟩
end Go.Proofs.YtcnpblceamgfcaaGreatDoor
namespace Go.PL
open Go.AM
def evE (e:Ev):En:=(0,0,0,0,0,0,0,e.2.2.2.2.2.2.2.1,e.2.2.2.2.2.2.2.2.1,())
def fewLB (l:List Ev) (most:Int):Bool:=decide ((l.length:Int) ≤ most) && l.all fun e=>fewEB (evE e)
end Go.PL
namespace Go.Proofs.YtcnpblceamgfcaaGreatDoor
open Go.AM Go.PL
def fewLSp:FSpec:=⟨[.arr EV,I],[.bool],fun _=>True,fun x=>fewLB x.1 x.2⟩
def loopsBh (f:FuncId) (r:Nat):List LA :=
 if Nat.beq f 21 then [.slot 5 I] else []
def hintBh (f:FuncId):Hint:=if Nat.beq f 999999995 then ⟨fun _=>[],fun _=>.split,fun _=>.split,datN⟩ else ⟨loopsBh f,fun _=>.split,fun _=>.split,fun _=>0⟩
noncomputable def BH0:Ctx:=mkctx bs [(47,fewESp)] [] hintBh
abbrev fewL_nf_e0:List (List Int × Int × Int × List Int × Unit):=[]
abbrev fewLq0:=(z0,z0,z0,z0,z0,z0,z0,eI,fewL_nf_e0,List.replicate y16 z0,())
theorem fewL_nf (l:List Ev) (most:Int):fnwp BH0 6 21 fewLSp (l,most) = (LP z0 fun I μ x=>SD (x < (ln l)) (SD (x ≤ most) ((IR x l) ∧ (IR x l) ∧ True ∧ SP (!fewEB (z0,z0,
 z0,z0,z0,z0,z0,(l.getD x.toNat fewLq0).2.2.2.2.2.2.2.1,(l.getD x.toNat fewLq0).2.2.2.2.2.2.2.2.1,())) (false = fewLB l most) (isI64 (x + z1) ∧ NX I μ x (x + z1))) (decide
 ((ln l) ≤ most) = fewLB l most)) (decide ((ln l) ≤ most) = fewLB l most)):=by kernel_rfl
end Go.Proofs.YtcnpblceamgfcaaGreatDoor
namespace Go.PL
open Go.AM
theorem fewLB_iff {l:List Ev} {most:Int}:fewLB l most = true ↔ (l.length:Int) ≤ most ∧ ∀ j:Nat,(j:Int) < l.length → fewEB (evE (l.getD j dEv)) = true:=by
 unfold fewLB
 simp only [Bool.and_eq_true,decide_eq_true_eq,List.all_eq_true]
 refine ⟨fun ⟨a,c⟩=>⟨a,fun j hj=>c _ (jX5 (by omega))⟩,fun ⟨a,c⟩=>⟨a,fun x hx=>?_⟩⟩
 obtain ⟨j,hj,rfl⟩:=jVj dEv hx
 exact c j (by omega)
end Go.PL
namespace Go.Proofs.YtcnpblceamgfcaaGreatDoor
open Go.AM Go.PL
attribute [local irreducible] fnwp fnwpG fnwpO
theorem BH0_sound:jQa BH0:=jQd ⟨sat_few,trivial⟩ trivial
theorem sat_fewL:Sat bs.P 21 fewLSp:=jQe BH0_sound 6 _ fewLSp fun (⟨l,most⟩:List Ev × Int) hok hp=>by
 rw [fewL_nf]; delta fewL_nf_e0 fewLq0 IR LP NX SD SP eI ln y16 z0 z1; dsimp only
 have hm:l.length ≤ 9223372036854775807:=hok.1.1
 refine ⟨fun x=>0 ≤ x ∧ x ≤ l.length ∧ ∀ j:Nat,(j:Int) < x → fewEB (evE (l.getD j dEv)) = true,fun x=>(l.length - x).toNat,⟨by omega,by omega,fun j hj=>by omega⟩,?_⟩
 rintro x ⟨h0,h1,h2⟩
 refine ⟨fun h=>⟨fun c=>?_,fun c=>?_⟩,fun h=>?_⟩
 ·have h:=dt h
  refine ⟨⟨h0,h⟩,⟨h0,h⟩,trivial,fun d=>?_,fun d=>⟨jZv h0 h hm,⟨by omega,by omega,jK7 h0 h2 ?_⟩,by dsimp only; omega⟩⟩
  ·refine is_no fun g=>?_
   have:=(fewLB_iff.1 g).2 x.toNat (by omega)
   have d:(!fewEB (evE (l.getD x.toNat dEv))) = true:=d
   rw [this] at d
   cases d
  ·have d:(!fewEB (evE (l.getD x.toNat dEv))) = false:=d
   simpa using d
 ·have h:=dt h
  have c:=df c
  rw [decide_eq_false (by omega)]
  exact is_no fun g=>by have:=(fewLB_iff.1 g).1; omega
 ·have h:=df h
  refine bool_is ?_
  rw [decide_eq_true_eq,fewLB_iff]
  exact ⟨fun g=>⟨g,fun j hj=>h2 j (by omega)⟩,fun g=>g.1⟩
end Go.Proofs.YtcnpblceamgfcaaGreatDoor
namespace Go.PL
open Go.AM
end Go.PL
namespace Go.Proofs.YtcnpblceamgfcaaGreatDoor
open Go.AM Go.PL
end Go.Proofs.YtcnpblceamgfcaaGreatDoor
namespace Go.PL
open Go.AM
end Go.PL
namespace Go.Proofs.YtcnpblceamgfcaaGreatDoor
open Go.AM Go.PL
attribute [local irreducible] fnwp fnwpG fnwpO
end Go.Proofs.YtcnpblceamgfcaaGreatDoor
namespace Go.PL
open Go.AM
def shortD (d:Df):Bool:=decide (d.2.2.2.2.1.length ≤ 60) && (decide (d.1.length ≤ 100) && d.2.2.2.2.1.all fun w=>decide (w.length ≤ 100))
def fewDB (s:Sc) (most:Int):Bool:=decide ((s.2.2.1.length:Int) ≤ most) && s.2.2.1.all shortD
end Go.PL
namespace Go.Proofs.YtcnpblceamgfcaaGreatDoor
open Go.AM Go.PL
def fewDSp:FSpec:=⟨[SC,I],[.bool],fun _=>True,fun x=>fewDB x.1 x.2⟩
def loopsBl (f:FuncId) (r:Nat):List LA :=
 if Nat.beq f 22 then (bif Nat.beq r 2 then [.slot 5 I] else [.slot 5 I,.slot 7 I,.cell 0 4 SS]) else []
def hintBl (f:FuncId):Hint:=if Nat.beq f 999999995 then ⟨fun _=>[],fun _=>.split,fun _=>.split,datN⟩ else ⟨loopsBl f,fun _=>.split,fun _=>.split,fun _=>0⟩
noncomputable def BL0:Ctx:=mkctx bs [] [] hintBl
theorem fewD_nf (d m:Int) (l:List Df) (most:Int):fnwp BL0 6 22 fewDSp ((d,m,l,()),most) = (LP z0 fun I μ x=>SD (x < (ln l)) (SD (x ≤ most) ((IR x l) ∧ SD (z60 < (ln
 (l.getD x.toNat (eI,z0,z0,z0,eL,())).2.2.2.2.1)) (false = fewDB (d,m,l,()) most) (SD ((100:Int) < (ln (l.getD x.toNat (eI,z0,z0,z0,eL,())).1)) (false = fewDB (d,
 m,l,()) most) (LP (x,z0,(l.getD x.toNat (eI,z0,z0,z0,eL,())).2.2.2.2.1) fun I_1 μ_1 x_1=>SD (x_1.2.1 < (ln x_1.2.2)) ((IR x_1.2.1 x_1.2.2) ∧ SD ((100:Int) < (ln
 (x_1.2.2.getD x_1.2.1.toNat eI))) (false = fewDB (d,m,l,()) most) (isI64 (x_1.2.1 + z1) ∧ NX I_1 μ_1 x_1 (x_1.1,x_1.2.1 + z1,x_1.2.2))) (isI64 (x_1.1 + z1) ∧ NX I μ x
 (x_1.1 + z1))))) (decide ((ln l) ≤ most) = fewDB (d,m,l,()) most)) (decide ((ln l) ≤ most) = fewDB (d,m,l,()) most)):=by kernel_rfl
end Go.Proofs.YtcnpblceamgfcaaGreatDoor
namespace Go.PL
open Go.AM
theorem fewDB_iff {d m:Int} {l:List Df} {most:Int}:fewDB (d,m,l,()) most = true ↔ (l.length:Int) ≤ most ∧ ∀ j:Nat,(j:Int) < l.length → shortD (l.getD j ([],0,0,0,[],())) = true:=by
 unfold fewDB
 simp only [Bool.and_eq_true,decide_eq_true_eq,List.all_eq_true]
 refine ⟨fun ⟨a,c⟩=>⟨a,fun j hj=>c _ (jX5 (by omega))⟩,fun ⟨a,c⟩=>⟨a,fun x hx=>?_⟩⟩
 obtain ⟨j,hj,rfl⟩:=jVj ([],0,0,0,[],()) hx
 exact c j (by omega)
theorem shortD_iff {d:Df}:shortD d = true ↔ d.2.2.2.2.1.length ≤ 60 ∧ d.1.length ≤ 100 ∧ ∀ j:Nat,(j:Int) < d.2.2.2.2.1.length → (d.2.2.2.2.1.getD j []).length ≤ 100:=by
 unfold shortD
 simp only [Bool.and_eq_true,decide_eq_true_eq,List.all_eq_true]
 refine ⟨fun ⟨a,b,c⟩=>⟨a,b,fun j hj=>c _ (jX5 (by omega))⟩,fun ⟨a,b,c⟩=>⟨a,b,fun x hx=>?_⟩⟩
 obtain ⟨j,hj,rfl⟩:=jVj [] hx
 exact c j (by omega)
end Go.PL
namespace Go.Proofs.YtcnpblceamgfcaaGreatDoor
open Go.AM Go.PL
attribute [local irreducible] fnwp fnwpG fnwpO
theorem BL0_sound:jQa BL0:=jQd trivial trivial
theorem sat_fewD:Sat bs.P 22 fewDSp:=jQe BL0_sound 6 _ fewDSp fun (⟨⟨d,m,l,⟨⟩⟩,most⟩:Sc × Int) hok hp=>by
 rw [fewD_nf]; delta IR LP NX SD eI eL ln z0 z1 z60; dsimp only
 have hm:l.length ≤ 9223372036854775807:=hok.1.2.2.1.1
 refine ⟨fun x=>0 ≤ x ∧ x ≤ l.length ∧ ∀ j:Nat,(j:Int) < x → shortD (l.getD j ([],0,0,0,[],())) = true,fun x=>(l.length - x).toNat,⟨by omega,by omega,fun j hj=>by omega⟩,?_⟩
 rintro x ⟨h0,h1,h2⟩
 refine ⟨fun h=>⟨fun c=>?_,fun c=>?_⟩,fun h=>?_⟩
 ·have h:=dt h
  obtain ⟨q,hq⟩:∃ q,q = l.getD x.toNat ([],0,0,0,[],()):=⟨_,rfl⟩
  have hno:shortD q = false → false = fewDB (d,m,l,()) most:=fun g=>is_no fun k=>by
   have:=(fewDB_iff.1 k).2 x.toNat (by omega)
   rw [← hq,g] at this
   cases this
  rw [← hq]
  refine ⟨⟨h0,h⟩,fun c1=>hno (eq_no fun k=>?_),fun c1=>⟨fun c2=>hno (eq_no fun k=>?_),fun c2=>⟨fun y=>y.1 = x ∧ y.2.2 = q.2.2.2.2.1 ∧ 0 ≤ y.2.1 ∧ y.2.1 ≤ q.2.2.2.2.1.length ∧ ∀ j:Nat,(j:Int) < y.2.1 → (q.2.2.2.2.1.getD j []).length ≤ 100,fun y=>(q.2.2.2.2.1.length - y.2.1).toNat,⟨rfl,rfl,by dsimp only; omega,by dsimp only; omega,fun j hj=>by dsimp only at hj; omega⟩,?_⟩⟩⟩
  ·have:=(shortD_iff.1 k).1
   have:=dt c1
   omega
  ·have:=(shortD_iff.1 k).2.1
   have:=dt c2
   omega
  ·have c1:=df c1
   have c2:=df c2
   rintro ⟨x',k,w⟩ ⟨e1,e2,k0,k1,k2⟩
   dsimp only at e1 e2 k0 k1 k2 ⊢
   subst e1 e2
   refine ⟨fun hk=>?_,fun hk=>⟨jZv h0 h hm,⟨by omega,by omega,jK7 h0 h2 ?_⟩,by omega⟩⟩
   ·have hk:=dt hk
    refine ⟨⟨k0,hk⟩,fun c3=>hno (eq_no fun g=>?_),fun c3=>⟨by unfold isI64; omega,⟨rfl,rfl,by omega,by omega,jK7 k0 k2 ?_⟩,by omega⟩⟩
    ·have:=(shortD_iff.1 g).2.2 k.toNat (by omega)
     have:=dt c3
     omega
    ·have:=df c3
     omega
   ·rw [← hq]
    exact shortD_iff.2 ⟨by omega,by omega,fun j hj=>k2 j (by have:=df hk; omega)⟩
 ·have h:=dt h
  have c:=df c
  rw [decide_eq_false (by omega)]
  exact is_no fun g=>by have:=(fewDB_iff.1 g).1; omega
 ·have h:=df h
  refine bool_is ?_
  rw [decide_eq_true_eq,fewDB_iff]
  exact ⟨fun g=>⟨g,fun j hj=>h2 j (by omega)⟩,fun g=>g.1⟩
end Go.Proofs.YtcnpblceamgfcaaGreatDoor
namespace Go.Proofs.YtcnpblceamgfcaaGreatDoor
open Go.AM Go.PL
def cloneIG:GSpec:=⟨[L],3,I,fun v=>(v:List Int).length ≤ 1000000,fun v=>v⟩
def cloneRG:GSpec:=⟨[RL],58,RW,fun v=>(v:List Rw).length ≤ 1000000,fun v=>v⟩
def hintBn (f:FuncId):Hint:=if Nat.beq f 999999995 then ⟨fun _=>[],fun _=>.split,fun _=>.split,datN⟩ else ⟨fun _=>[],fun _=>.split,fun _=>.split,fun _=>0⟩
noncomputable def BN0:Ctx:=mkctx bs [] [] hintBn
theorem cloneI_nf (v:List Int):fnwpG BN0 5 108 cloneIG v = (∀ (b:Bool),(b = true → v = eI) → SP b (eI = v) (roomP BN0 y3 v.length ∧ v = v)):=by kernel_rfl
abbrev cloneR_nf_e0:List ((Int × Int × Int × Int × Int × Int × Int × List Int × List (List Int × Int × Int × List Int × Unit) × Unit) × Int × Unit):=[]
theorem cloneR_nf (v:List Rw):fnwpG BN0 5 109 cloneRG v = (∀ (b:Bool),(b = true → v = cloneR_nf_e0) → SP b (cloneR_nf_e0 = v) (roomP BN0 y58 v.length ∧ v = v)):=by
 kernel_rfl
attribute [local irreducible] fnwp fnwpG fnwpO
theorem BN0_sound:jQa BN0:=jQd trivial trivial
theorem jKf:SatG bs.P 108 cloneIG:=jJ2 BN0_sound 5 _ cloneIG fun (v:List Int) hk hp=>by
 have hp:v.length ≤ 1000000:=hp
 rw [cloneI_nf]; delta SP eI y3
 exact fun b hb=>⟨fun h=>(hb h).symm,fun _=>⟨roomB 8 (by kernel_rfl) (by omega) hp,rfl⟩⟩
theorem jKe:SatG bs.P 109 cloneRG:=jJ2 BN0_sound 5 _ cloneRG fun (v:List Rw) hk hp=>by
 have hp:v.length ≤ 1000000:=hp
 rw [cloneR_nf]; delta cloneR_nf_e0 SP y58
 exact fun b hb=>⟨fun h=>(hb h).symm,fun _=>⟨roomB 112 (by kernel_rfl) (by omega) hp,rfl⟩⟩
end Go.Proofs.YtcnpblceamgfcaaGreatDoor
namespace Go.PL
open Go.AM
abbrev Dys:=En → Int × Int
def toR (r:Rw):Int:=r.1.2.2.2.2.2.1
def bornR (r:Rw):Int:=r.1.2.2.2.2.2.2.1
def mvB (dy:Dys) (r:Rw):Bool:=!(decide ((dy r.1).1 = fromR r) && decide ((dy r.1).2 = toR r))
def ltB (dy:Dys) (r:Rw):Bool:=decide ((dy r.1).1 < (dy r.1).2)
def liveB (id:Int) (r:Rw):Bool:=decide (r.1.1 = id) && decide (r.2.1 = 0)
def dieD (id cm:Int) (dy:Dys) (r:Rw):Rw:=if (liveB id r && mvB dy r) = true then (r.1,cm,()) else r
def addR (cm:Int) (dy:Dys) (r:Rw):Rw:=(redate r.1 (dy r.1).1 (dy r.1).2 r.1.2.1 cm,0,())
def addD (id cm:Int) (dy:Dys) (l:List Rw):List Rw:=(l.filter fun r=>liveB id r && (mvB dy r && ltB dy r)).map (addR cm dy)
def setVer (v:Int) (r:Rw):Rw:=(reVer r.1 v,r.2)
def numb (v:Int):List Rw → List Rw
 | []=>[]
 | r :: l=>setVer v r :: numb (v + 1) l
def finD (p:Bool) (f:Int) (b:Bo) (e:Ev) (rows added:List Rw):Bk :=
 if p = true ∧ f ≠ 0 then (b,f,()) else if 65536 < rows.length + added.length then (b,2,()) else
 ((b.1,e.2.1,e.2.2.1,b.2.2.2.1 ++ [e.2.2.1],rows ++ added,()),0,())
def jX7 (b:Bo) (e:Ev) (dy:Dys) (mo:List Rw):List Rw:=numb (verF e.2.2.2.1 b.2.2.2.2.1 + 1) (jQl (addD e.2.2.2.1 e.2.1 dy b.2.2.2.2.1) ++ mo)
def lastR (l:List Rw):Rw:=l.getD (l.length - 1) dRw
def makeD (b:Bo) (e:Ev) (dy:Dys) (mo:List Rw):Bk :=
 finD (!mo.isEmpty) (entS b.1 (lastR (jX7 b e dy mo)).1) b e (b.2.2.2.2.1.map (dieD e.2.2.2.1 e.2.1 dy)) (jX7 b e dy mo)
def idDy:Dys:=fun x=>(x.2.2.2.2.1,x.2.2.2.2.2.1)
def befDy (f:Int):Dys:=fun x=>(x.2.2.2.2.1,min x.2.2.2.2.2.1 (max f x.2.2.2.2.1))
def embDy (u op:Int):Dys:=fun x=>if x.2.2.2.2.1 = op then (min u x.2.2.2.2.2.1,x.2.2.2.2.2.1) else (max x.2.2.2.2.1 (min u x.2.2.2.2.2.1),x.2.2.2.2.2.1)
def jQh (b:Bo) (e:Ev):Bk :=
 if e.2.1 ≠ b.2.1 + 1 ∨ 1073741824 < e.2.1 ∨ e.2.2.1 < b.2.2.1 ∨ 1048576 < e.2.2.1 then (b,9,()) else
 if e.1 < 1 ∨ 6 ≤ e.1 then (b,1,()) else
 let l:=liveS b e.2.2.2.1
 if l.length = 0 ∧ e.1 ≠ 1 ∧ e.1 ≠ 5 then (b,5,()) else
 if e.1 = 1 then (if hasF e.2.2.2.1 b.2.2.2.2.1 = true then (b,6,()) else makeD b e idDy [(newEn e 0,0,())]) else
 if e.1 = 2 then (if e.2.2.2.2.2.2.1 < 0 ∨ endR l ≤ max e.2.2.2.2.2.2.1 (fromR (l.getD 0 dRw)) then (b,9,()) else
  makeD b e (befDy (max e.2.2.2.2.2.2.1 (fromR (l.getD 0 dRw)))) [(corEn (l.getD 0 dRw).1 (max e.2.2.2.2.2.2.1 (fromR (l.getD 0 dRw))) (endR l) e,0,())]) else
 if e.1 = 3 then (if e.2.2.2.2.2.2.1 < 0 ∨ endR l ≤ e.2.2.2.2.2.2.1 then (b,9,()) else makeD b e (befDy e.2.2.2.2.2.2.1) []) else
 if e.1 = 4 then (if fromR (l.getD 0 dRw) ≤ e.2.2.1 ∨ fromR (l.getD 0 dRw) = e.2.2.2.2.2.1 then (b,4,()) else
  if e.2.2.2.2.2.1 < e.2.2.1 ∨ endR l ≤ e.2.2.2.2.2.1 then (b,9,()) else makeD b e (embDy e.2.2.2.2.2.1 (fromR (l.getD 0 dRw))) []) else
 makeD b e idDy []
theorem insB_perm (r:Rw):∀ l:List Rw,(insB r l).Perm (r :: l)
 | []=>List.Perm.refl _
 | x :: l=>by
  unfold insB
  split
  ·exact ((insB_perm r l).cons x).trans (List.Perm.swap r x l)
  ·exact List.Perm.refl _
theorem isortB_perm (l:List Rw):(jVa l).Perm l:=by
 have key:∀ (l acc:List Rw),(l.foldl (fun acc r=>insB r acc) acc).Perm (acc ++ l):=by
  intro l
  induction l with
  | nil=>intro acc; rw [List.append_nil]; exact List.Perm.refl _
  | cons r l ih =>
   intro acc
   rw [List.foldl_cons]
   exact (ih _).trans (((insB_perm r acc).append_right l).trans List.perm_middle.symm)
 exact key l []
theorem jZj (l:List Rw):(jQl l).Perm l:=(List.reverse_perm _).trans (isortB_perm l)
theorem insB_sorted (r:Rw):∀ l:List Rw,l.Pairwise (fun a b=>fromR b ≤ fromR a) → (insB r l).Pairwise (fun a b=>fromR b ≤ fromR a)
 | [],_=>List.pairwise_singleton _ _
 | x :: l,h=>by
  have h':=List.pairwise_cons.1 h
  unfold insB
  split
  ·refine List.pairwise_cons.2 ⟨fun y hy=>?_,insB_sorted r l h'.2⟩
   rcases List.mem_cons.1 ((insB_perm r l).mem_iff.1 hy) with rfl | hy
   ·omega
   ·exact h'.1 y hy
  ·refine List.pairwise_cons.2 ⟨fun y hy=>?_,h⟩
   rcases List.mem_cons.1 hy with rfl | hy
   ·omega
   ·have:=h'.1 y hy
    omega
theorem isortB_sorted (l:List Rw):(jVa l).Pairwise (fun a b=>fromR b ≤ fromR a):=by
 have key:∀ (l acc:List Rw),acc.Pairwise (fun a b=>fromR b ≤ fromR a) → (l.foldl (fun acc r=>insB r acc) acc).Pairwise (fun a b=>fromR b ≤ fromR a):=by
  intro l
  induction l with
  | nil=>intro acc h; exact h
  | cons r l ih=>intro acc h; rw [List.foldl_cons]; exact ih _ (insB_sorted r acc h)
 exact key l [] List.Pairwise.nil
theorem kQ3 (l:List Rw):(jQl l).Pairwise (fun a b=>fromR a ≤ fromR b):=List.pairwise_reverse.2 (isortB_sorted l)
theorem pw_inj {α:Type} {f:α → Int}:∀ {l:List α},l.Pairwise (fun a b=>f a ≠ f b) → ∀ {x y:α},x ∈ l → y ∈ l → f x = f y → x = y
 | [],_,_,_,hx,_,_=>absurd hx List.not_mem_nil
 | a :: l,h,x,y,hx,hy,e=>by
  have h':=List.pairwise_cons.1 h
  rcases List.mem_cons.1 hx with gx | gx
  ·rcases List.mem_cons.1 hy with gy | gy
   ·exact gx.trans gy.symm
   ·exact absurd (gx ▸ e) (h'.1 y gy)
  ·rcases List.mem_cons.1 hy with gy | gy
   ·exact absurd (gy ▸ e).symm (h'.1 x gx)
   ·exact pw_inj h'.2 gx gy e
theorem kQ0 (v:Int) (a b:List Rw):numb v (a ++ b) = numb v a ++ numb (v + a.length) b:=by
 induction a generalizing v with
 | nil=>simp [numb]
 | cons x a ih =>
  show setVer v x :: numb (v + 1) (a ++ b) = setVer v x :: (numb (v + 1) a ++ numb (v + ((x :: a).length:Nat)) b)
  rw [ih,List.length_cons]
  congr 3
  omega
theorem numb_len (v:Int) (a:List Rw):(numb v a).length = a.length:=by
 induction a generalizing v with
 | nil=>rfl
 | cons x a ih=>show (numb (v + 1) a).length + 1 = a.length + 1; rw [ih]
def tauD (dy:Dys) (r:Rw):Dy:=((dy r.1).1,(dy r.1).2,())
def jV7 (id:Int) (F:List Int) (cm:Int) (rows:List Rw):List Rw:=rows.map fun r=>if r.1.1 = id ∧ fromR r ∈ F ∧ r.2.1 = 0 ∧ bornR r < cm then (r.1,cm,()) else r
theorem dieAll_nil (id cm:Int) (rows:List Rw):jV7 id [] cm rows = rows:=by
 unfold jV7
 induction rows with
 | nil=>rfl
 | cons r l ih=>rw [List.map_cons,ih,if_neg (by simp)]
theorem dieAll_snoc {id cm:Int} (hc:cm ≠ 0) (F:List Int) (fr:Int) (rows:List Rw):dieF id fr cm (jV7 id F cm rows) = jV7 id (F ++ [fr]) cm rows:=by
 unfold dieF jV7
 rw [List.map_map]
 apply List.map_congr_left
 intro r hr
 show dieR id fr cm (if r.1.1 = id ∧ fromR r ∈ F ∧ r.2.1 = 0 ∧ bornR r < cm then (r.1,cm,()) else r) = _
 by_cases h1:r.1.1 = id ∧ fromR r ∈ F ∧ r.2.1 = 0 ∧ bornR r < cm
 ·rw [if_pos h1,if_pos ⟨h1.1,List.mem_append_left _ h1.2.1,h1.2.2⟩]
  exact if_neg fun g=>hc g.2.2.1
 ·rw [if_neg h1]
  unfold dieR
  by_cases h2:r.1.1 = id ∧ fromR r = fr ∧ r.2.1 = 0 ∧ bornR r < cm
  ·rw [if_pos (show r.1.1 = id ∧ fromR r = fr ∧ r.2.1 = 0 ∧ r.1.2.2.2.2.2.2.1 < cm from h2),if_pos ⟨h2.1,List.mem_append_right _ (List.mem_singleton.2 h2.2.1),h2.2.2⟩]
  ·rw [if_neg (show ¬ (r.1.1 = id ∧ fromR r = fr ∧ r.2.1 = 0 ∧ r.1.2.2.2.2.2.2.1 < cm) from h2),if_neg]
   intro g
   rcases List.mem_append.1 g.2.1 with k | k
   ·exact h1 ⟨g.1,k,g.2.2⟩
   ·exact h2 ⟨g.1,List.mem_singleton.1 k,g.2.2⟩
theorem mvB_iff {dy:Dys} {r:Rw}:mvB dy r = false ↔ (dy r.1).1 = fromR r ∧ (dy r.1).2 = toR r:=by
 unfold mvB
 simp
theorem chg_map {id cm:Int} {dy:Dys} {rows:List Rw} (hc:cm ≠ 0):∀ (l:List Rw) (F:List Int) (added:List Rw) (ver:Int),
 chgL id cm l (l.map (tauD dy)) (jV7 id F cm rows,added,ver) =
  (jV7 id (F ++ (l.filter (mvB dy)).map fromR) cm rows,added ++ numb (ver + 1) ((l.filter fun r=>mvB dy r && ltB dy r).map (addR cm dy)),ver + ((l.filter fun r=>mvB dy r && ltB dy r).length:Nat)):=by
 intro l
 induction l with
 | nil =>
  intro F added ver
  simp only [List.filter_nil,List.map_nil,List.append_nil,List.length_nil]
  show (_,added,ver) = _
  rw [show ver + ((0:Nat):Int) = ver by omega,show numb (ver + 1) [] = [] from rfl,List.append_nil]
 | cons r l ih =>
  intro F added ver
  rw [List.map_cons]
  by_cases h1:mvB dy r = true
  ·have h1':¬ ((tauD dy r).1 = fromR r ∧ (tauD dy r).2.1 = r.1.2.2.2.2.2.1):=fun g=>by
    rw [mvB_iff.2 g] at h1
    cases h1
   by_cases h2:ltB dy r = true
   ·have h2':(tauD dy r).1 < (tauD dy r).2.1:=of_decide_eq_true h2
    have e:chgL id cm (r :: l) (tauD dy r :: l.map (tauD dy)) (jV7 id F cm rows,added,ver) = chgL id cm l (l.map (tauD dy)) (dieF id (fromR r) cm (jV7 id F cm rows),added ++ [(redate r.1 (tauD dy r).1 (tauD dy r).2.1 (ver + 1) cm,0,())],ver + 1):=by
     show (if _ then _ else if _ then _ else _) = _
     rw [if_neg h1',if_pos h2']
    rw [e,dieAll_snoc hc,ih]
    simp only [List.filter_cons,h1,h2,Bool.and_self,if_true,List.map_cons,List.append_assoc,List.length_cons,numb]
    refine Prod.ext ?_ (Prod.ext ?_ ?_)
    ·rfl
    ·rfl
    ·show ver + 1 + _ = ver + _
     omega
   ·have h2':¬ (tauD dy r).1 < (tauD dy r).2.1:=fun g=>h2 (decide_eq_true g)
    have h2:ltB dy r = false:=by simpa using h2
    have e:chgL id cm (r :: l) (tauD dy r :: l.map (tauD dy)) (jV7 id F cm rows,added,ver) = chgL id cm l (l.map (tauD dy)) (dieF id (fromR r) cm (jV7 id F cm rows),added,ver):=by
     show (if _ then _ else if _ then _ else _) = _
     rw [if_neg h1',if_neg h2']
    rw [e,dieAll_snoc hc,ih]
    simp only [List.filter_cons,h1,h2,Bool.and_false,if_true,List.map_cons,List.append_assoc,Bool.false_eq_true,if_false]
    rfl
  ·have h1:mvB dy r = false:=by simpa using h1
   have e:chgL id cm (r :: l) (tauD dy r :: l.map (tauD dy)) (jV7 id F cm rows,added,ver) = chgL id cm l (l.map (tauD dy)) (jV7 id F cm rows,added,ver):=by
    show (if _ then _ else if _ then _ else _) = _
    rw [if_pos (show (tauD dy r).1 = fromR r ∧ (tauD dy r).2.1 = r.1.2.2.2.2.2.1 from mvB_iff.1 h1)]
   rw [e,ih]
   simp only [List.filter_cons,h1,Bool.false_and,Bool.false_eq_true,if_false]
end Go.PL
namespace Go.PL
open Go.AM
def disj (r s:Rw):Prop:=r.1.1 = s.1.1 → r.2.1 = 0 → s.2.1 = 0 → toR r ≤ fromR s ∨ toR s ≤ fromR r
def InvB (b:Bo):Prop:=0 ≤ b.2.1 ∧ (∀ r ∈ b.2.2.2.2.1,r.2.1 = 0 → fromR r < toR r ∧ bornR r ≤ b.2.1 ∧ 1 ≤ r.1.1) ∧ b.2.2.2.2.1.Pairwise disj
theorem disj_symm {r s:Rw} (h:disj r s):disj s r:=fun a b c=>(h a.symm c b).symm
theorem pw_or {α:Type} {R:α → α → Prop}:∀ {l:List α},l.Pairwise R → ∀ {x y:α},x ∈ l → y ∈ l → x = y ∨ R x y ∨ R y x
 | [],_,_,_,hx,_=>absurd hx List.not_mem_nil
 | a :: l,h,x,y,hx,hy=>by
  have h':=List.pairwise_cons.1 h
  rcases List.mem_cons.1 hx with gx | gx
  ·rcases List.mem_cons.1 hy with gy | gy
   ·exact .inl (gx.trans gy.symm)
   ·exact .inr (.inl (gx ▸ h'.1 y gy))
  ·rcases List.mem_cons.1 hy with gy | gy
   ·exact .inr (.inr (gy ▸ h'.1 x gx))
   ·exact pw_or h'.2 gx gy
theorem jZw {id:Int} {r:Rw}:liveB id r = true ↔ r.1.1 = id ∧ r.2.1 = 0:=by
 unfold liveB
 rw [Bool.and_eq_true,decide_eq_true_eq,decide_eq_true_eq]
theorem jXk {b:Bo} {id:Int} {r:Rw}:r ∈ liveS b id ↔ r ∈ b.2.2.2.2.1 ∧ r.1.1 = id ∧ r.2.1 = 0:=by
 unfold liveS
 rw [(jZj _).mem_iff]
 unfold liveF
 rw [List.mem_filter]
 exact and_congr Iff.rfl jZw
theorem live_pw {b:Bo} (hI:InvB b) (id:Int):(liveS b id).Pairwise (fun r s=>toR r ≤ fromR s):=by
 have h1:(liveF id b.2.2.2.2.1).Pairwise disj:=hI.2.2.filter _
 have h2:(liveS b id).Pairwise disj:=h1.perm (jZj _).symm disj_symm
 have h3:(liveS b id).Pairwise (fun a c=>fromR a ≤ fromR c):=kQ3 _
 refine (h2.and h3).imp_of_mem fun {r s} hr hs h=>?_
 have gr:=jXk.1 hr
 have gs:=jXk.1 hs
 have k:=(hI.2.1 s gs.1 gs.2.2).1
 have k':=(hI.2.1 r gr.1 gr.2.2).1
 rcases h.1 (gr.2.1.trans gs.2.1.symm) gr.2.2 gs.2.2 with g | g
 ·exact g
 ·have:=h.2
  omega
theorem live_inj {b:Bo} (hI:InvB b) {id:Int} {r s:Rw} (hr:r ∈ liveS b id) (hs:s ∈ liveS b id) (h:fromR r = fromR s):r = s:=by
 have gr:=jXk.1 hr
 have gs:=jXk.1 hs
 have k:=(hI.2.1 s gs.1 gs.2.2).1
 have k':=(hI.2.1 r gr.1 gr.2.2).1
 rcases pw_or (live_pw hI id) hr hs with g | g | g
 ·exact g
 ·omega
 ·omega
def MonoD (dy:Dys) (S:List Rw):Prop:=∀ r ∈ S,∀ s ∈ S,toR r ≤ fromR s → ltB dy r = true → ltB dy s = true → (dy r.1).2 ≤ (dy s.1).1
theorem die_eq {b:Bo} (hI:InvB b) {id cm:Int} (hc:b.2.1 < cm) (dy:Dys):jV7 id (((liveS b id).filter (mvB dy)).map fromR) cm b.2.2.2.2.1 = b.2.2.2.2.1.map (dieD id cm dy):=by
 unfold jV7 dieD
 apply List.map_congr_left
 intro r hr
 by_cases h:(liveB id r && mvB dy r) = true
 ·rw [if_pos h]
  rw [Bool.and_eq_true] at h
  have hl:=jZw.1 h.1
  refine if_pos ⟨hl.1,List.mem_map.2 ⟨r,List.mem_filter.2 ⟨jXk.2 ⟨hr,hl⟩,h.2⟩,rfl⟩,hl.2,?_⟩
  have:=(hI.2.1 r hr hl.2).2.1
  omega
 ·rw [if_neg h,if_neg]
  intro g
  apply h
  obtain ⟨s,hs,he⟩:=List.mem_map.1 g.2.1
  have hs:=List.mem_filter.1 hs
  have hl:r ∈ liveS b id:=jXk.2 ⟨hr,g.1,g.2.2.1⟩
  have:=live_inj hI hs.1 hl he
  subst this
  rw [Bool.and_eq_true]
  exact ⟨jZw.2 ⟨g.1,g.2.2.1⟩,hs.2⟩
theorem add_pw {b:Bo} (hI:InvB b) {id cm:Int} {dy:Dys} (hm:MonoD dy (liveS b id)):(((liveS b id).filter fun r=>mvB dy r && ltB dy r).map (addR cm dy)).Pairwise (fun a c=>fromR a < toR a ∧ fromR c < toR c ∧ toR a ≤ fromR c):=by
 rw [List.pairwise_map]
 refine ((live_pw hI id).filter _).imp_of_mem fun {r s} hr hs h=>?_
 have hr:=List.mem_filter.1 hr
 have hs:=List.mem_filter.1 hs
 rw [Bool.and_eq_true] at hr hs
 exact ⟨of_decide_eq_true hr.2.2,of_decide_eq_true hs.2.2,hm r hr.1 s hs.1 h hr.2.2 hs.2.2⟩
theorem add_eq {b:Bo} (hI:InvB b) {id cm:Int} {dy:Dys} (hm:MonoD dy (liveS b id)):((liveS b id).filter fun r=>mvB dy r && ltB dy r).map (addR cm dy) = jQl (addD id cm dy b.2.2.2.2.1):=by
 have hp:(((liveS b id).filter fun r=>mvB dy r && ltB dy r).map (addR cm dy)).Perm (addD id cm dy b.2.2.2.2.1):=by
  unfold addD
  refine List.Perm.map _ ?_
  have:(b.2.2.2.2.1.filter fun r=>liveB id r && (mvB dy r && ltB dy r)) = (liveF id b.2.2.2.2.1).filter fun r=>mvB dy r && ltB dy r:=by
   unfold liveF
   rw [List.filter_filter]
   apply List.filter_congr
   intro r _
   exact Bool.and_comm _ _
  rw [this]
  exact (jZj _).filter _
 have h1:=add_pw (cm:=cm) hI hm
 have hne:(((liveS b id).filter fun r=>mvB dy r && ltB dy r).map (addR cm dy)).Pairwise (fun a c=>fromR a ≠ fromR c):=h1.imp fun h=>by omega
 refine List.Perm.eq_of_pairwise (le:=fun a c=>fromR a ≤ fromR c) (fun a c ha hc g g'=>?_) (h1.imp fun h=>by omega) (kQ3 _) (hp.trans (jZj _).symm)
 exact pw_inj hne ha ((hp.trans (jZj _).symm).mem_iff.2 hc) (by omega)
theorem getD_last {l:List Rw} {x:Rw}:lastR (l ++ [x]) = x:=by
 unfold lastR
 rw [List.length_append,List.length_singleton,List.getD_eq_getElem?_getD,List.getElem?_append_right (by omega)]
 simp
theorem change_fin (b:Bo) (e:Ev) (l:List Rw) (to:List Dy) (more:En) (rows added:List Rw) (ver:Int) (h:chgL e.2.2.2.1 e.2.1 l to (b.2.2.2.2.1,[],verF e.2.2.2.1 b.2.2.2.2.1) = (rows,added,ver)) :
 jQz b e l to more = finD (decide (more.1 ≠ 0)) (entS b.1 (reVer more (ver + 1))) b e rows (if more.1 ≠ 0 then added ++ [(reVer more (ver + 1),0,())] else added):=by
 unfold jQz finD
 simp only [h,decide_eq_true_eq]
theorem fin_no (f g:Int) (b:Bo) (e:Ev) (rows added:List Rw):finD false f b e rows added = finD (!([]:List Rw).isEmpty) g b e rows added:=by
 unfold finD
 have h1:¬ (false = true ∧ f ≠ 0):=fun k=>Bool.false_ne_true k.1
 have h2:¬ ((!([]:List Rw).isEmpty) = true ∧ g ≠ 0):=fun k=>Bool.false_ne_true k.1
 rw [if_neg h1,if_neg h2]
theorem make_of {b:Bo} {e:Ev} {l:List Rw} {to:List Dy} {dy:Dys} (more:En)
 (h:chgL e.2.2.2.1 e.2.1 l to (b.2.2.2.2.1,[],verF e.2.2.2.1 b.2.2.2.2.1) = (b.2.2.2.2.1.map (dieD e.2.2.2.1 e.2.1 dy),numb (verF e.2.2.2.1 b.2.2.2.2.1 + 1) (jQl (addD e.2.2.2.1 e.2.1 dy b.2.2.2.2.1)),verF e.2.2.2.1 b.2.2.2.2.1 + ((jQl (addD e.2.2.2.1 e.2.1 dy b.2.2.2.2.1)).length:Nat))) :
 jQz b e l to more = makeD b e dy (if more.1 ≠ 0 then [(more,0,())] else []):=by
 rw [change_fin _ _ _ _ _ _ _ _ h]
 unfold makeD jX7
 by_cases hm:more.1 ≠ 0
 ·have e1:∀ v,numb v [((more,0,()):Rw)] = [(reVer more v,0,())]:=fun _=>rfl
  rw [if_pos hm,if_pos hm,kQ0,e1,getD_last,decide_eq_true hm,show verF e.2.2.2.1 b.2.2.2.2.1 + ((jQl (addD e.2.2.2.1 e.2.1 dy b.2.2.2.2.1)).length:Nat) + 1 = verF e.2.2.2.1 b.2.2.2.2.1 + 1 + ((jQl (addD e.2.2.2.1 e.2.1 dy b.2.2.2.2.1)).length:Nat) by omega]
  rfl
 ·rw [if_neg hm,if_neg hm,decide_eq_false hm,List.append_nil]
  exact fin_no _ _ _ _ _ _
theorem change_eq {b:Bo} (hI:InvB b) {e:Ev} (hc:e.2.1 = b.2.1 + 1) {dy:Dys} (hm:MonoD dy (liveS b e.2.2.2.1)) (more:En) :
 jQz b e (liveS b e.2.2.2.1) ((liveS b e.2.2.2.1).map (tauD dy)) more = makeD b e dy (if more.1 ≠ 0 then [(more,0,())] else []):=by
 have h0:=hI.1
 apply make_of
 have:=chg_map (id:=e.2.2.2.1) (cm:=e.2.1) (dy:=dy) (rows:=b.2.2.2.2.1) (by omega) (liveS b e.2.2.2.1) [] [] (verF e.2.2.2.1 b.2.2.2.2.1)
 rw [dieAll_nil,List.nil_append,List.nil_append,die_eq hI (by omega)] at this
 rw [this,← add_eq hI hm,List.length_map]
theorem mvB_id (r:Rw):mvB idDy r = false:=mvB_iff.2 ⟨rfl,rfl⟩
theorem die_id (id cm:Int) (l:List Rw):l.map (dieD id cm idDy) = l:=by
 induction l with
 | nil=>rfl
 | cons r l ih =>
  rw [List.map_cons,ih]
  unfold dieD
  rw [mvB_id,Bool.and_false,if_neg (by simp)]
theorem add_id (id cm:Int) (l:List Rw):addD id cm idDy l = []:=by
 unfold addD
 rw [List.filter_eq_nil_iff.2 fun r _=>by rw [mvB_id]; simp]
 rfl
theorem change_nil {b:Bo} {e:Ev} (more:En):jQz b e [] [] more = makeD b e idDy (if more.1 ≠ 0 then [(more,0,())] else []):=by
 apply make_of
 rw [die_id,add_id]
 refine Prod.ext rfl (Prod.ext rfl ?_)
 show verF e.2.2.2.1 b.2.2.2.2.1 = verF e.2.2.2.1 b.2.2.2.2.1 + ((0:Nat):Int)
 omega
theorem mono_bef {b:Bo} (f:Int) (id:Int):MonoD (befDy f) (liveS b id):=fun r hr s hs h _ _=>by
 show min (toR r) (max f (fromR r)) ≤ fromR s
 omega
theorem mono_id {b:Bo} (id:Int):MonoD idDy (liveS b id):=fun r hr s hs h _ _=>h
theorem first_le {b:Bo} (hI:InvB b) {id:Int} {r:Rw} (hr:r ∈ liveS b id):fromR ((liveS b id).getD 0 dRw) ≤ fromR r:=by
 have hp:(liveS b id).Pairwise (fun a c=>fromR a ≤ fromR c):=kQ3 _
 cases hS:liveS b id with
 | nil=>rw [hS] at hr; cases hr
 | cons x l =>
  rw [hS] at hr hp
  show fromR x ≤ fromR r
  rcases List.mem_cons.1 hr with g | g
  ·rw [g]; omega
  ·exact (List.pairwise_cons.1 hp).1 r g
theorem mono_emb {b:Bo} (hI:InvB b) (u id:Int):MonoD (embDy u (fromR ((liveS b id).getD 0 dRw))) (liveS b id):=fun r hr s hs h _ _=>by
 have h1:=first_le hI hr
 have gr:=jXk.1 hr
 have h2:=(hI.2.1 r gr.1 gr.2.2).1
 have e1:(embDy u (fromR ((liveS b id).getD 0 dRw)) r.1).2 = toR r:=by
  unfold embDy
  split <;> rfl
 have e2:(embDy u (fromR ((liveS b id).getD 0 dRw)) s.1).1 = max (fromR s) (min u (toR s)):=by
  have hh:¬ fromR s = fromR ((liveS b id).getD 0 dRw):=by omega
  unfold embDy
  rw [if_neg (show ¬ s.1.2.2.2.2.1 = fromR ((liveS b id).getD 0 dRw) from hh)]
  rfl
 rw [e1,e2]
 omega
theorem days_emb {b:Bo} (hI:InvB b) {u id:Int} (hu:fromR ((liveS b id).getD 0 dRw) ≠ u):daysE u (fromR ((liveS b id).getD 0 dRw)) (liveS b id) = (liveS b id).map (tauD (embDy u (fromR ((liveS b id).getD 0 dRw)))):=by
 have hpw:=live_pw hI id
 have hmem:∀ r ∈ liveS b id,fromR r < toR r:=fun r hr=>(hI.2.1 r (jXk.1 hr).1 (jXk.1 hr).2.2).1
 cases hS:liveS b id with
 | nil=>rfl
 | cons x l =>
  rw [hS] at hpw hmem hu
  have hu:fromR x ≠ u:=hu
  show daysE u (fromR x) (x :: l) = (x :: l).map (tauD (embDy u (fromR x)))
  have hx:=hmem x List.mem_cons_self
  apply List.ext_getElem
  ·unfold daysE
   rw [List.length_map,List.length_map,List.length_range]
  ·intro i h1 h2
   rw [List.getElem_map]
   refine (List.getElem_map _).trans ?_
   rw [List.getElem_range]
   rw [List.length_map] at h2
   cases i with
   | zero =>
    show ((if 0 = 0 ∧ u < fromR x then u else max (fromR x) (min u (toR x))),toR x,()) = tauD (embDy u (fromR x)) x
    unfold tauD embDy
    rw [if_pos (show x.1.2.2.2.2.1 = fromR x from rfl)]
    show _ = (min u (toR x),toR x,())
    congr 1
    split <;> omega
   | succ i =>
    have hi:i < l.length:=by rw [List.length_cons] at h2; omega
    have hg:(x :: l).getD (i + 1) dRw = l[i]:=by
     rw [List.getD_cons_succ,List.getD_eq_getElem?_getD,List.getElem?_eq_getElem hi]
     rfl
    rw [hg,List.getElem_cons_succ]
    have h3:=(List.pairwise_cons.1 hpw).1 l[i] (List.getElem_mem hi)
    rw [if_neg (by omega)]
    have hh:¬ fromR l[i] = fromR x:=by omega
    unfold tauD embDy
    rw [if_neg (show ¬ l[i].1.2.2.2.2.1 = fromR x from hh)]
    rfl
theorem live_ne {b:Bo} {id:Int} (h:¬ (liveS b id).length = 0):(liveS b id).getD 0 dRw ∈ liveS b id:=jX5 (by omega)
theorem apply_eq {b:Bo} (hI:InvB b) (e:Ev):jQh b e = jXs b e:=by
 unfold jQh jXs
 by_cases h0:e.2.1 ≠ b.2.1 + 1 ∨ 1073741824 < e.2.1 ∨ e.2.2.1 < b.2.2.1 ∨ 1048576 < e.2.2.1
 ·rw [if_pos h0,if_pos h0]
 rw [if_neg h0,if_neg h0]
 have hc:e.2.1 = b.2.1 + 1:=by omega
 by_cases hk:e.1 < 1 ∨ 6 ≤ e.1
 ·rw [if_pos hk,if_neg (by omega),if_neg (by omega),if_neg (by omega)]
 rw [if_neg hk]
 dsimp only
 by_cases k1:e.1 = 1
 ·rw [if_neg (fun g=>g.2.1 k1),if_pos k1,if_pos k1]
  unfold fileS
  by_cases hh:hasF e.2.2.2.1 b.2.2.2.2.1 = true
  ·rw [if_pos hh,if_pos hh]
  rw [if_neg hh,if_neg hh]
  have hv:verF e.2.2.2.1 b.2.2.2.2.1 = 0:=by
   unfold verF
   have key:∀ (l:List Rw) (n:Int),¬ hasF e.2.2.2.1 l = true → l.foldl (fun n r=>if r.1.1 = e.2.2.2.1 then max n r.1.2.1 else n) n = n:=by
    intro l
    induction l with
    | nil=>intro n _; rfl
    | cons r l ih =>
     intro n h
     unfold hasF at h
     rw [List.any_cons,Bool.or_eq_true,not_or] at h
     rw [List.foldl_cons,if_neg (fun g=>h.1 (decide_eq_true g))]
     exact ih n h.2
   exact key _ _ hh
  by_cases hid:e.2.2.2.1 = 0
  ·have hx:entS b.1 (newEn e 1) = 1:=by
    unfold entS
    exact if_pos (.inl (show e.2.2.2.1 < 1 by omega))
   rw [if_pos (by rw [hx]; decide),hx]
   unfold makeD jX7
   rw [hv,add_id]
   show finD true (entS b.1 (newEn e 1)) _ _ _ _ = _
   rw [hx]
   unfold finD
   rw [if_pos ⟨rfl,by decide⟩]
  ·have hm:makeD b e idDy [(newEn e 0,0,())] = jQz b e [] [] (newEn e 1):=by
    have:=change_nil (b:=b) (e:=e) (newEn e 1)
    rw [if_pos (show (newEn e 1).1 ≠ 0 from hid)] at this
    rw [this]
    unfold makeD jX7
    rw [add_id]
    rfl
   rw [hm]
   by_cases hx:entS b.1 (newEn e 1) = 0
   ·rw [if_neg fun g=>g hx]
   ·rw [if_pos hx]
    rw [change_fin b e [] [] (newEn e 1) _ _ _ rfl,hv]
    unfold finD
    rw [if_pos ⟨decide_eq_true hid,hx⟩]
    rfl
 by_cases k5:e.1 = 5
 ·rw [if_neg (fun g=>g.2.2 k5),if_neg k1,if_neg (by omega),if_neg (by omega),if_neg (by omega),if_neg k1,if_pos k5,change_nil]
  rfl
 rw [if_neg k1,if_neg k1,if_neg k5,if_pos (by omega:e.1 = 2 ∨ e.1 = 3 ∨ e.1 = 4)]
 by_cases hl:(liveS b e.2.2.2.1).length = 0
 ·rw [if_pos ⟨hl,k1,k5⟩,if_pos hl]
 rw [if_neg (fun g=>hl g.1),if_neg hl]
 have hf:=jXk.1 (live_ne hl)
 have hid:=(hI.2.1 _ hf.1 hf.2.2).2.2
 by_cases k2:e.1 = 2
 ·rw [if_pos k2,if_pos k2]
  unfold jVk
  split
  ·rfl
  ·have:=change_eq hI hc (mono_bef (max e.2.2.2.2.2.2.1 (fromR ((liveS b e.2.2.2.1).getD 0 dRw))) e.2.2.2.1) (corEn ((liveS b e.2.2.2.1).getD 0 dRw).1 (max e.2.2.2.2.2.2.1 (fromR ((liveS b e.2.2.2.1).getD 0 dRw))) (endR (liveS b e.2.2.2.1)) e)
   rw [if_pos (show (corEn ((liveS b e.2.2.2.1).getD 0 dRw).1 (max e.2.2.2.2.2.2.1 (fromR ((liveS b e.2.2.2.1).getD 0 dRw))) (endR (liveS b e.2.2.2.1)) e).1 ≠ 0 from (by omega:((liveS b e.2.2.2.1).getD 0 dRw).1.1 ≠ 0))] at this
   exact this.symm
 rw [if_neg k2,if_neg k2]
 by_cases k3:e.1 = 3
 ·rw [if_pos k3,if_pos k3]
  unfold jJr
  split
  ·rfl
  ·exact (change_eq hI hc (mono_bef e.2.2.2.2.2.2.1 e.2.2.2.1) dEn).symm
 rw [if_neg k3,if_neg k3,if_pos (by omega:e.1 = 4)]
 unfold jJ4
 split
 ·rfl
 ·split
  ·rfl
  ·rename_i g _
   rw [days_emb hI (fun k=>g (.inr k))]
   exact (change_eq hI hc (mono_emb hI e.2.2.2.2.2.1 e.2.2.2.1) dEn).symm
end Go.PL
namespace Go.PL
open Go.AM
theorem no9 {b:Bo} {n:Int} (h:((b,n,()):Bk).2.1 = 0):n = 0:=h
theorem kQ1 {y:Rw}:∀ {v:Int} {l:List Rw},y ∈ numb v l → ∃ x ∈ l,∃ w,y = setVer w x ∧ v ≤ w ∧ w < v + (l.length:Nat)
 | v,[],h=>absurd h List.not_mem_nil
 | v,r :: l,h=>by
  rcases List.mem_cons.1 h with g | g
  ·exact ⟨r,List.mem_cons_self,v,g,by omega,by rw [List.length_cons]; omega⟩
  ·obtain ⟨x,hx,w,e,h1,h2⟩:=kQ1 g
   exact ⟨x,List.mem_cons_of_mem _ hx,w,e,by omega,by rw [List.length_cons]; omega⟩
theorem numb_pw {R:Rw → Rw → Prop} (hR:∀ a c v w,R a c → R (setVer v a) (setVer w c)):∀ {v:Int} {l:List Rw},l.Pairwise R → (numb v l).Pairwise R
 | v,[],_=>List.Pairwise.nil
 | v,r :: l,h=>by
  have h':=List.pairwise_cons.1 h
  refine List.pairwise_cons.2 ⟨fun y hy=>?_,numb_pw hR h'.2⟩
  obtain ⟨x,hx,w,e,_⟩:=kQ1 hy
  rw [e]
  exact hR _ _ _ _ (h'.1 x hx)
def MoOk (id cm:Int) (dy:Dys) (S:List Rw) (mo:List Rw):Prop :=
 mo = [] ∨ ∃ m:En,mo = [(m,0,())] ∧ m.1 = id ∧ m.2.2.2.2.2.2.1 = cm ∧ ∀ r ∈ S,ltB dy r = true → (dy r.1).2 ≤ m.2.2.2.2.1 ∨ m.2.2.2.2.2.1 ≤ (dy r.1).1
theorem entS_ok {s:Sc} {x:En} (h:entS s x = 0):1 ≤ x.1 ∧ x.2.2.2.2.1 < x.2.2.2.2.2.1:=by
 unfold entS at h
 split at h
 ·exact absurd h (by decide)
 ·split at h
  ·exact absurd h (by decide)
  ·omega
theorem fin_ok {p:Bool} {f:Int} {b:Bo} {e:Ev} {rows added:List Rw} (h:(finD p f b e rows added).2.1 = 0):(p = true → f = 0) ∧ (finD p f b e rows added).1 = (b.1,e.2.1,e.2.2.1,b.2.2.2.1 ++ [e.2.2.1],rows ++ added,()):=by
 unfold finD at h ⊢
 by_cases h1:p = true ∧ f ≠ 0
 ·rw [if_pos h1] at h
  exact absurd h h1.2
 ·rw [if_neg h1] at h ⊢
  by_cases h2:65536 < rows.length + added.length
  ·rw [if_pos h2] at h
   exact absurd (no9 h) (by decide)
  ·rw [if_neg h2]
   exact ⟨fun g=>Classical.byContradiction fun k=>h1 ⟨g,k⟩,rfl⟩
theorem mem_die {id cm:Int} {dy:Dys} {rows:List Rw} {r:Rw} (hc:cm ≠ 0) (hr:r ∈ rows.map (dieD id cm dy)):∃ x ∈ rows,r.1 = x.1 ∧ (r.2.1 = 0 → r = x ∧ ¬ (liveB id x && mvB dy x) = true):=by
 obtain ⟨x,hx,e⟩:=List.mem_map.1 hr
 refine ⟨x,hx,?_⟩
 unfold dieD at e
 split at e
 ·rw [← e]
  exact ⟨rfl,fun g=>absurd g hc⟩
 ·rename_i k
  rw [← e]
  exact ⟨rfl,fun _=>⟨rfl,k⟩⟩
theorem inv_make {b:Bo} (hI:InvB b) {e:Ev} (hc:e.2.1 = b.2.1 + 1) {dy:Dys} (hm:MonoD dy (liveS b e.2.2.2.1)) {mo:List Rw} (hmo:MoOk e.2.2.2.1 e.2.1 dy (liveS b e.2.2.2.1) mo) (hk:(makeD b e dy mo).2.1 = 0) :
 InvB (makeD b e dy mo).1:=by
 have h0:=hI.1
 have hc0:e.2.1 ≠ 0:=by omega
 obtain ⟨hE,hR⟩:=fin_ok hk
 have hR':(makeD b e dy mo).1 = _:=hR
 rw [hR']
 have hA:=add_eq (cm:=e.2.1) hI hm
 have hAp:=add_pw (cm:=e.2.1) hI hm
 have hAm:∀ x ∈ jQl (addD e.2.2.2.1 e.2.1 dy b.2.2.2.2.1),∃ r ∈ liveS b e.2.2.2.1,mvB dy r = true ∧ ltB dy r = true ∧ x = addR e.2.1 dy r:=by
  intro x hx
  rw [← hA] at hx
  obtain ⟨r,hr,ex⟩:=List.mem_map.1 hx
  have hr:=List.mem_filter.1 hr
  rw [Bool.and_eq_true] at hr
  exact ⟨r,hr.1,hr.2.1,hr.2.2,ex.symm⟩
 have hX:∀ y ∈ jX7 b e dy mo,fromR y < toR y ∧ bornR y = e.2.1 ∧ 1 ≤ y.1.1 ∧ y.1.1 = e.2.2.2.1 ∧ y.2.1 = 0 ∧ ∀ r ∈ liveS b e.2.2.2.1,mvB dy r = false → toR r ≤ fromR y ∨ toR y ≤ fromR r:=by
  intro y hy
  unfold jX7 at hy
  rw [kQ0] at hy
  rcases List.mem_append.1 hy with g | g
  ·obtain ⟨x,hx,w,ey,_⟩:=kQ1 g
   obtain ⟨r,hr,m1,m2,ex⟩:=hAm x hx
   have gr:=jXk.1 hr
   subst ex ey
   refine ⟨of_decide_eq_true m2,rfl,(hI.2.1 r gr.1 gr.2.2).2.2,gr.2.1,rfl,fun s hs k=>?_⟩
   have gs:=jXk.1 hs
   have ks:=mvB_iff.1 k
   have ls:ltB dy s = true:=decide_eq_true (by rw [ks.1,ks.2]; exact (hI.2.1 s gs.1 gs.2.2).1)
   show toR s ≤ (dy r.1).1 ∨ (dy r.1).2 ≤ fromR s
   rcases pw_or (live_pw hI _) hr hs with q | q | q
   ·rw [q,k] at m1
    cases m1
   ·have:=hm r hr s hs q m2 ls
    rw [ks.1] at this
    exact .inr this
   ·have:=hm s hs r hr q ls m2
    rw [ks.2] at this
    exact .inl this
  ·rcases hmo with q | ⟨m,q,m1,m2,m3⟩
   ·rw [q] at g
    cases g
   ·subst q
    have hE:=hE rfl
    unfold jX7 at hE
    rw [kQ0] at hE
    obtain ⟨x,hx,w,ey,_⟩:=kQ1 g
    rw [List.mem_singleton] at hx
    subst hx
    rw [show ∀ v,numb v [((m,0,()):Rw)] = [(reVer m v,0,())] from fun _=>rfl,getD_last] at hE
    have:=entS_ok hE
    subst ey
    refine ⟨this.2,m2,this.1,m1,rfl,fun s hs k=>?_⟩
    have gs:=jXk.1 hs
    have ks:=mvB_iff.1 k
    have ls:ltB dy s = true:=decide_eq_true (by rw [ks.1,ks.2]; exact (hI.2.1 s gs.1 gs.2.2).1)
    have:=m3 s hs ls
    rw [ks.1,ks.2] at this
    exact this
 refine ⟨show 0 ≤ e.2.1 by omega,fun r hr hd=>?_,?_⟩
 ·rcases List.mem_append.1 hr with g | g
  ·obtain ⟨x,hx,_,k⟩:=mem_die hc0 g
   obtain ⟨rfl,_⟩:=k hd
   have:=hI.2.1 r hx hd
   exact ⟨this.1,show bornR r ≤ e.2.1 by omega,this.2.2⟩
  ·have:=hX r g
   exact ⟨this.1,show bornR r ≤ e.2.1 by omega,this.2.2.1⟩
 ·refine List.pairwise_append.2 ⟨?_,?_,fun r hr y hy i1 i2 i3=>?_⟩
  ·rw [List.pairwise_map]
   refine hI.2.2.imp fun {r s} h i1 i2 i3=>?_
   have key:∀ x:Rw,(dieD e.2.2.2.1 e.2.1 dy x).2.1 = 0 → dieD e.2.2.2.1 e.2.1 dy x = x:=by
    intro x
    unfold dieD
    split
    ·exact fun g=>absurd g hc0
    ·exact fun _=>rfl
   rw [key r i2,key s i3] at i1 ⊢
   rw [key r i2] at i2
   rw [key s i3] at i3
   exact h i1 i2 i3
  ·unfold jX7
   refine numb_pw (fun a c v w h=>h) ?_
   refine List.pairwise_append.2 ⟨?_,?_,fun x hx y hy _ _ _=>?_⟩
   ·rw [← hA]
    exact hAp.imp fun h _ _ _=>.inl h.2.2
   ·rcases hmo with q | ⟨m,q,_⟩
    ·rw [q]; exact List.Pairwise.nil
    ·rw [q]; exact List.pairwise_singleton _ _
   ·rcases hmo with q | ⟨m,q,m1,m2,m3⟩
    ·rw [q] at hy; cases hy
    ·rw [q,List.mem_singleton] at hy
     subst hy
     obtain ⟨r,hr,g1,g2,ex⟩:=hAm x hx
     subst ex
     exact m3 r hr g2
  ·obtain ⟨x,hx,_,k⟩:=mem_die hc0 hr
   obtain ⟨rfl,k⟩:=k i2
   have hy:=hX y hy
   have hid:r.1.1 = e.2.2.2.1:=i1.trans hy.2.2.2.1
   refine hy.2.2.2.2.2 r (jXk.2 ⟨hx,hid,i2⟩) ?_
   cases hq:mvB dy r with
   | false=>rfl
   | true=>exact absurd (by rw [Bool.and_eq_true]; exact ⟨jZw.2 ⟨hid,i2⟩,hq⟩) k
def BndB (b:Bo):Prop:=b.2.1 ≤ 20 ∧ (b.2.2.2.1.length:Int) = b.2.1 ∧ (b.2.2.2.2.1.length:Int) ≤ 20 * b.2.1 ∧ (∀ id,((liveF id b.2.2.2.2.1).length:Int) ≤ b.2.1) ∧ ∀ id,verF id b.2.2.2.2.1 ≤ b.2.2.2.2.1.length
theorem verF_le {id M:Int}:∀ {l:List Rw},(∀ r ∈ l,r.1.1 = id → r.1.2.1 ≤ M) → 0 ≤ M → verF id l ≤ M:=by
 have key:∀ (l:List Rw) (n:Int),(∀ r ∈ l,r.1.1 = id → r.1.2.1 ≤ M) → n ≤ M → l.foldl (fun n r=>if r.1.1 = id then max n r.1.2.1 else n) n ≤ M:=by
  intro l
  induction l with
  | nil=>intro n _ h; exact h
  | cons r l ih =>
   intro n h hn
   rw [List.foldl_cons]
   apply ih _ fun x hx=>h x (List.mem_cons_of_mem _ hx)
   split
   ·have:=h r List.mem_cons_self (by assumption)
    omega
   ·exact hn
 intro l h hM
 exact key l 0 h hM
theorem le_verF {id:Int}:∀ {l:List Rw} {r:Rw},r ∈ l → r.1.1 = id → r.1.2.1 ≤ verF id l:=by
 have mono:∀ (l:List Rw) (n:Int),n ≤ l.foldl (fun n r=>if r.1.1 = id then max n r.1.2.1 else n) n:=by
  intro l
  induction l with
  | nil=>intro n; exact Int.le_refl _
  | cons r l ih =>
   intro n
   rw [List.foldl_cons]
   refine Int.le_trans ?_ (ih _)
   split <;> omega
 have key:∀ (l:List Rw) (n:Int) (r:Rw),r ∈ l → r.1.1 = id → r.1.2.1 ≤ l.foldl (fun n r=>if r.1.1 = id then max n r.1.2.1 else n) n:=by
  intro l
  induction l with
  | nil=>intro n r h; cases h
  | cons x l ih =>
   intro n r h hr
   rw [List.foldl_cons]
   rcases List.mem_cons.1 h with g | g
   ·rw [← g,if_pos hr]
    refine Int.le_trans ?_ (mono l _)
    omega
   ·exact ih _ r g hr
 intro l r h hr
 exact key l 0 r h hr
theorem live_cnt {id cm:Int} (hc:cm ≠ 0) (dy:Dys) (id':Int):∀ rows:List Rw,(liveF id' (rows.map (dieD id cm dy))).length + (if id' = id then (addD id cm dy rows).length else 0) ≤ (liveF id' rows).length:=by
 intro rows
 induction rows with
 | nil=>simp [liveF,addD]
 | cons r l ih =>
  unfold addD liveF at *
  rw [List.map_cons]
  simp only [List.filter_cons,List.length_map] at ih ⊢
  by_cases h:(liveB id r && mvB dy r) = true
  ·have hd:dieD id cm dy r = (r.1,cm,()):=if_pos h
   rw [hd]
   have hn:¬ ((decide (r.1.1 = id') && decide (cm = 0)) = true):=by simp [hc]
   rw [if_neg hn]
   have hl:=Bool.and_eq_true _ _ ▸ h
   by_cases hid:id' = id
   ·subst hid
    rw [if_pos rfl] at ih ⊢
    have:(decide (r.1.1 = id') && decide (r.2.1 = 0)) = true:=hl.1
    rw [if_pos this]
    split
    ·rw [List.length_cons,List.length_cons]; omega
    ·rw [List.length_cons]; omega
   ·rw [if_neg hid] at ih ⊢
    have hx:=jZw.1 hl.1
    have:¬ ((decide (r.1.1 = id') && decide (r.2.1 = 0)) = true):=by
     rw [hx.1,decide_eq_false (fun k:id = id'=>hid k.symm),Bool.false_and]
     exact Bool.false_ne_true
    rw [if_neg this]
    exact ih
  ·have hd:dieD id cm dy r = r:=if_neg h
   rw [hd]
   have hn:¬ ((liveB id r && (mvB dy r && ltB dy r)) = true):=fun g=>by
    rw [Bool.and_eq_true,Bool.and_eq_true] at g
    exact h (by rw [Bool.and_eq_true]; exact ⟨g.1,g.2.1⟩)
   rw [if_neg hn]
   split
   ·rw [List.length_cons,List.length_cons]; omega
   ·exact ih
theorem bnd_make {b:Bo} (hI:InvB b) (hB:BndB b) {e:Ev} (hc:e.2.1 = b.2.1 + 1) (h20:b.2.1 ≤ 19) {dy:Dys} {mo:List Rw} (hmo:MoOk e.2.2.2.1 e.2.1 dy (liveS b e.2.2.2.1) mo) (hk:(makeD b e dy mo).2.1 = 0) :
 BndB (makeD b e dy mo).1:=by
 have h0:=hI.1
 have hc0:e.2.1 ≠ 0:=by omega
 obtain ⟨hE,hR⟩:=fin_ok hk
 have hR':(makeD b e dy mo).1 = _:=hR
 rw [hR']
 obtain ⟨_,h2,h3,h4,h5⟩:=hB
 have hml:mo.length ≤ 1:=by
  rcases hmo with q | ⟨m,q,_⟩
  ·rw [q]; simp
  ·rw [q]; simp
 have hal:(jX7 b e dy mo).length = (addD e.2.2.2.1 e.2.1 dy b.2.2.2.2.1).length + mo.length:=by
  unfold jX7
  rw [numb_len,List.length_append,(jZj _).length_eq]
 have hcnt:=live_cnt (id:=e.2.2.2.1) hc0 dy
 have hc1:=hcnt e.2.2.2.1 b.2.2.2.2.1
 rw [if_pos rfl] at hc1
 have hl1:=h4 e.2.2.2.1
 refine ⟨show e.2.1 ≤ 20 by omega,?_,?_,fun id=>?_,fun id=>?_⟩
 ·show ((b.2.2.2.1 ++ [e.2.2.1]).length:Int) = e.2.1
  rw [List.length_append,List.length_singleton]
  omega
 ·show ((b.2.2.2.2.1.map (dieD e.2.2.2.1 e.2.1 dy) ++ jX7 b e dy mo).length:Int) ≤ 20 * e.2.1
  rw [List.length_append,List.length_map,hal]
  omega
 ·show ((liveF id (b.2.2.2.2.1.map (dieD e.2.2.2.1 e.2.1 dy) ++ jX7 b e dy mo)).length:Int) ≤ e.2.1
  unfold liveF
  rw [List.filter_append,List.length_append]
  have hci:=hcnt id b.2.2.2.2.1
  have hli:=h4 id
  unfold liveF at hci hli
  by_cases hid:id = e.2.2.2.1
  ·rw [if_pos hid] at hci
   rw [← hid] at hal hci
   have:=List.length_filter_le (fun r:Rw=>decide (r.1.1 = id) && decide (r.2.1 = 0)) (jX7 b e dy mo)
   rw [← hid]
   omega
  ·rw [if_neg hid] at hci
   have:(jX7 b e dy mo).filter (fun r:Rw=>decide (r.1.1 = id) && decide (r.2.1 = 0)) = []:=by
    rw [List.filter_eq_nil_iff]
    intro y hy
    have hyid:y.1.1 = e.2.2.2.1:=by
     unfold jX7 at hy
     obtain ⟨x,hx,w,ey,_⟩:=kQ1 hy
     subst ey
     rcases List.mem_append.1 hx with g | g
     ·obtain ⟨r,hr,ex⟩:=List.mem_map.1 ((jZj _).mem_iff.1 g)
      have hr:=(List.mem_filter.1 hr).2
      rw [Bool.and_eq_true] at hr
      subst ex
      exact (jZw.1 hr.1).1
     ·rcases hmo with q | ⟨m,q,m1,_⟩
      ·rw [q] at g; cases g
      ·rw [q,List.mem_singleton] at g
       subst g
       exact m1
    rw [hyid,decide_eq_false (fun k:e.2.2.2.1 = id=>hid k.symm),Bool.false_and]
    exact Bool.false_ne_true
   rw [this]
   simp only [List.length_nil]
   omega
 ·show verF id (b.2.2.2.2.1.map (dieD e.2.2.2.1 e.2.1 dy) ++ jX7 b e dy mo) ≤ ((b.2.2.2.2.1.map (dieD e.2.2.2.1 e.2.1 dy) ++ jX7 b e dy mo).length:Int)
  rw [List.length_append,List.length_map]
  refine verF_le (fun r hr hid=>?_) (by omega)
  rcases List.mem_append.1 hr with g | g
  ·obtain ⟨x,hx,e1,_⟩:=mem_die hc0 g
   rw [e1] at hid ⊢
   have:=le_verF hx hid
   have:=h5 id
   omega
  ·have hl:(jX7 b e dy mo).length = (jQl (addD e.2.2.2.1 e.2.1 dy b.2.2.2.2.1) ++ mo).length:=numb_len _ _
   unfold jX7 at g
   obtain ⟨x,hx,w,ey,_,hw⟩:=kQ1 g
   subst ey
   show w ≤ _
   rw [hl]
   have:=h5 e.2.2.2.1
   omega
theorem corr_mo {b:Bo} (hI:InvB b) {e:Ev} (hc:e.2.1 = b.2.1 + 1) (hl:¬ (liveS b e.2.2.2.1).length = 0) {f to:Int}:MoOk e.2.2.2.1 e.2.1 (befDy f) (liveS b e.2.2.2.1) [(corEn ((liveS b e.2.2.2.1).getD 0 dRw).1 f to e,0,())]:=by
 refine .inr ⟨_,rfl,(jXk.1 (live_ne hl)).2.1,rfl,fun r hr hlt=>.inl ?_⟩
 have:(befDy f r.1).1 < (befDy f r.1).2:=of_decide_eq_true hlt
 show min (toR r) (max f (fromR r)) ≤ f
 have h2:fromR r < min (toR r) (max f (fromR r)):=this
 omega
theorem file_mo {b:Bo} {e:Ev} (hh:¬ hasF e.2.2.2.1 b.2.2.2.2.1 = true):MoOk e.2.2.2.1 e.2.1 idDy (liveS b e.2.2.2.1) [(newEn e 0,0,())]:=by
 refine .inr ⟨_,rfl,rfl,rfl,fun r hr hlt=>absurd ?_ hh⟩
 have:=jXk.1 hr
 exact List.any_eq_true.2 ⟨r,this.1,decide_eq_true this.2.1⟩
theorem apply_ok {b:Bo} (hI:InvB b) {e:Ev} (h:(jQh b e).2.1 = 0):e.2.1 = b.2.1 + 1 ∧ b.2.2.1 ≤ e.2.2.1 ∧ (1 ≤ e.1 ∧ e.1 ≤ 5) ∧ ∃ dy mo,jQh b e = makeD b e dy mo ∧ MonoD dy (liveS b e.2.2.2.1) ∧ MoOk e.2.2.2.1 e.2.1 dy (liveS b e.2.2.2.1) mo ∧
 (e.1 = 1 → ¬ hasF e.2.2.2.1 b.2.2.2.2.1 = true ∧ dy = idDy ∧ mo = [(newEn e 0,0,())]) ∧ (e.1 = 5 → dy = idDy ∧ mo = []):=by
 unfold jQh at h ⊢
 by_cases h0:e.2.1 ≠ b.2.1 + 1 ∨ 1073741824 < e.2.1 ∨ e.2.2.1 < b.2.2.1 ∨ 1048576 < e.2.2.1
 ·rw [if_pos h0] at h
  exact absurd (no9 h) (by decide)
 rw [if_neg h0] at h ⊢
 have hc:e.2.1 = b.2.1 + 1:=by omega
 by_cases hk:e.1 < 1 ∨ 6 ≤ e.1
 ·rw [if_pos hk] at h
  exact absurd (no9 h) (by decide)
 rw [if_neg hk] at h ⊢
 refine ⟨hc,by omega,by omega,?_⟩
 dsimp only at h ⊢
 by_cases hl:(liveS b e.2.2.2.1).length = 0 ∧ e.1 ≠ 1 ∧ e.1 ≠ 5
 ·rw [if_pos hl] at h
  exact absurd (no9 h) (by decide)
 rw [if_neg hl] at h ⊢
 by_cases k1:e.1 = 1
 ·rw [if_pos k1] at h ⊢
  by_cases hh:hasF e.2.2.2.1 b.2.2.2.2.1 = true
  ·rw [if_pos hh] at h
   exact absurd (no9 h) (by decide)
  rw [if_neg hh]
  exact ⟨_,_,rfl,mono_id _,file_mo hh,fun _=>⟨hh,rfl,rfl⟩,fun g=>by omega⟩
 rw [if_neg k1] at h ⊢
 by_cases k2:e.1 = 2
 ·rw [if_pos k2] at h ⊢
  split at h
  ·exact absurd (no9 h) (by decide)
  ·rename_i g
   rw [if_neg g]
   exact ⟨_,_,rfl,mono_bef _ _,corr_mo hI hc (by omega),fun g=>by omega,fun g=>by omega⟩
 rw [if_neg k2] at h ⊢
 by_cases k3:e.1 = 3
 ·rw [if_pos k3] at h ⊢
  split at h
  ·exact absurd (no9 h) (by decide)
  ·rename_i g
   rw [if_neg g]
   exact ⟨_,_,rfl,mono_bef _ _,.inl rfl,fun g=>by omega,fun g=>by omega⟩
 rw [if_neg k3] at h ⊢
 by_cases k4:e.1 = 4
 ·rw [if_pos k4] at h ⊢
  split at h
  ·exact absurd (no9 h) (by decide)
  ·rename_i g
   rw [if_neg g]
   split at h
   ·exact absurd (no9 h) (by decide)
   ·rename_i g'
    rw [if_neg g']
    exact ⟨_,_,rfl,mono_emb hI _ _,.inl rfl,fun g=>by omega,fun g=>by omega⟩
 rw [if_neg k4]
 exact ⟨_,_,rfl,mono_id _,.inl rfl,fun g=>by omega,fun _=>⟨rfl,rfl⟩⟩
theorem kQ2 {b:Bo} {e:Ev} {dy:Dys} {mo:List Rw} (h:(makeD b e dy mo).2.1 = 0):(makeD b e dy mo).1 = (b.1,e.2.1,e.2.2.1,b.2.2.2.1 ++ [e.2.2.1],b.2.2.2.2.1.map (dieD e.2.2.2.1 e.2.1 dy) ++ jX7 b e dy mo,()):=(fin_ok h).2
def GoodB (s:Sc) (n:Nat) (b:Bo):Prop:=InvB b ∧ BndB b ∧ b.1 = s ∧ b.2.1 = n
theorem good_new (s:Sc):GoodB s 0 (newB s):=by
 refine ⟨⟨Int.le_refl 0,fun r (h:r ∈ [])=>absurd h List.not_mem_nil,List.Pairwise.nil⟩,⟨show (0:Int) ≤ 20 by omega,rfl,show (0:Int) ≤ 20 * 0 by omega,fun id=>Int.le_refl 0,fun id=>Int.le_refl 0⟩,rfl,rfl⟩
theorem good_step {s:Sc} {n:Nat} {b:Bo} (h:GoodB s n b) (hn:n ≤ 19) {e:Ev} (he:(jQh b e).2.1 = 0):GoodB s (n + 1) (jQh b e).1:=by
 obtain ⟨h1,h2,h3,h4⟩:=h
 obtain ⟨hc,hd,hk,dy,mo,hE,hm,hmo,_⟩:=apply_ok h1 he
 rw [hE] at he ⊢
 refine ⟨inv_make h1 hc hm hmo he,bnd_make h1 h2 hc (by omega) hmo he,?_,?_⟩
 ·rw [kQ2 he]; exact h3
 ·rw [kQ2 he]
  show e.2.1 = _
  omega
theorem good_okE {s:Sc} {n:Nat} {b:Bo} (h:GoodB s n b) (hn:n ≤ 19) (hs:jQ6 s) (id:Int):okE b id:=by
 obtain ⟨h1,⟨k1,k2,k3,k4,k5⟩,h3,h4⟩:=h
 have:=k4 id
 have:=k5 id
 exact ⟨⟨by rw [h3]; exact hs,by omega,by omega,by omega⟩,by omega,h1.1,by omega⟩
theorem good_okA {s:Sc} (hs:jQ6 s):∀ (l:List Ev) {n:Nat} {b:Bo},GoodB s n b → n + l.length ≤ 20 → okA b l
 | [],_,_,_,_=>trivial
 | e :: l,n,b,h,hn=>by
  rw [List.length_cons] at hn
  refine ⟨good_okE h (by omega) hs _,fun k=>?_⟩
  rw [← apply_eq h.1] at k ⊢
  exact good_okA hs l (good_step h (by omega) k) (by omega)
def foldDA (b:Bo):List Ev → Int → Fo
 | [],i=>(b,i,0,())
 | e :: l,i=>if (jQh b e).2.1 ≠ 0 then (b,i,(jQh b e).2.1,()) else foldDA (jQh b e).1 l (i + 1)
theorem foldDA_eq {s:Sc}:∀ (l:List Ev) {n:Nat} {b:Bo} (i:Int),GoodB s n b → n + l.length ≤ 20 → foldDA b l i = foldA b l i
 | [],_,_,_,_,_=>rfl
 | e :: l,n,b,i,h,hn=>by
  rw [List.length_cons] at hn
  have ha:=apply_eq h.1 e
  show (if (jQh b e).2.1 ≠ 0 then _ else _) = (if (jXs b e).2.1 ≠ 0 then _ else _)
  rw [← ha]
  by_cases k:(jQh b e).2.1 = 0
  ·rw [if_neg (fun g=>g k),if_neg (fun g=>g k)]
   exact foldDA_eq l (i + 1) (good_step h (by omega) k) (by omega)
  ·rw [if_pos k,if_pos k]
def foldD (s:Sc) (l:List Ev):Fo:=if chkS s ≠ 0 then (zeroB,0,chkS s,()) else foldDA (newB s) l 0
theorem foldD_eq {s:Sc} {l:List Ev} (h:l.length ≤ 20):foldD s l = foldS s l:=by
 unfold foldD foldS
 rw [foldDA_eq l 0 (good_new s) (by omega)]
end Go.PL
namespace Go.PL
open Go.AM
theorem take_snocD {α:Type} {l:List α} (d:α) {i:Int} (h0:0 ≤ i) (h:i < l.length):l.take (i + 1).toNat = l.take i.toNat ++ [l.getD i.toNat d]:=by
 rw [show (i + 1).toNat = i.toNat + 1 by omega,List.take_add_one,List.getD_eq_getElem?_getD,List.getElem?_eq_getElem (by omega:i.toNat < l.length)]
 rfl
theorem drop_consD {α:Type} {l:List α} (d:α) {i:Int} (h0:0 ≤ i) (h:i < l.length):l.drop i.toNat = l.getD i.toNat d :: l.drop (i + 1).toNat:=by
 rw [show (i + 1).toNat = i.toNat + 1 by omega,List.getD_eq_getElem?_getD,List.getElem?_eq_getElem (by omega:i.toNat < l.length)]
 exact List.drop_eq_getElem_cons (by omega)
def L2 (id cm:Int) (dy:Dys) (rs:List Rw) (i:Int) (added rows:List Rw):Prop :=
 0 ≤ i ∧ i ≤ rs.length ∧ added = addD id cm dy (rs.take i.toNat) ∧ rows = (rs.take i.toNat).map (dieD id cm dy) ++ rs.drop i.toNat
theorem l2_zero (id cm:Int) (dy:Dys) (rs:List Rw):L2 id cm dy rs 0 [] rs:=⟨by omega,by omega,rfl,rfl⟩
theorem l2_len {id cm:Int} {dy:Dys} {rs:List Rw} {i:Int} {added rows:List Rw} (h:L2 id cm dy rs i added rows):rows.length = rs.length:=by
 obtain ⟨h0,h1,_,h2⟩:=h
 rw [h2,List.length_append,List.length_map,List.length_take,List.length_drop]
 omega
theorem l2_get {id cm:Int} {dy:Dys} {rs:List Rw} {i:Int} {added rows:List Rw} (h:L2 id cm dy rs i added rows) (hi:i < rs.length):rows.getD i.toNat dRw = rs.getD i.toNat dRw:=by
 obtain ⟨h0,h1,_,h2⟩:=h
 rw [h2,List.getD_eq_getElem?_getD,List.getD_eq_getElem?_getD,List.getElem?_append_right (by rw [List.length_map,List.length_take]; omega),List.getElem?_drop,List.length_map,List.length_take]
 congr 2
 omega
theorem l2_next {id cm:Int} {dy:Dys} {rs:List Rw} {i:Int} {added rows:List Rw} (h:L2 id cm dy rs i added rows) (hi:i < rs.length) {ad rw':List Rw}
 (ha:ad = added ++ (if (liveB id (rs.getD i.toNat dRw) && (mvB dy (rs.getD i.toNat dRw) && ltB dy (rs.getD i.toNat dRw))) = true then [addR cm dy (rs.getD i.toNat dRw)] else []))
 (hr:rw' = rows.set i.toNat (dieD id cm dy (rs.getD i.toNat dRw))):L2 id cm dy rs (i + 1) ad rw':=by
 obtain ⟨h0,h1,h2,h3⟩:=h
 refine ⟨by omega,by omega,?_,?_⟩
 ·rw [ha,h2,take_snocD dRw h0 hi]
  unfold addD
  rw [List.filter_append,List.map_append,List.filter_cons]
  split <;> rfl
 ·rw [hr,h3,take_snocD dRw h0 hi,List.map_append,List.set_append_right _ _ (by rw [List.length_map,List.length_take]; omega),drop_consD dRw h0 hi,List.length_map,List.length_take,
   show i.toNat - min i.toNat rs.length = 0 by omega,List.append_assoc]
  rfl
theorem set_same {l:List Rw} {n:Nat} (d:Rw):l.set n (l.getD n d) = l:=by
 rw [List.getD_eq_getElem?_getD]
 apply List.ext_getElem?
 intro j
 rw [List.getElem?_set]
 split
 ·rename_i e
  subst e
  split
  ·rename_i h
   rw [List.getElem?_eq_getElem h]
   rfl
  ·rename_i h
   rw [List.getElem?_eq_none (by omega)]
 ·rfl
theorem l2_skip {id cm:Int} {dy:Dys} {rs:List Rw} {i:Int} {added rows:List Rw} (h:L2 id cm dy rs i added rows) (hi:i < rs.length) (hn:¬ (liveB id (rs.getD i.toNat dRw) && mvB dy (rs.getD i.toNat dRw)) = true):L2 id cm dy rs (i + 1) added rows:=by
 refine l2_next h hi ?_ ?_
 ·rw [if_neg fun g=>hn (by rw [Bool.and_eq_true,Bool.and_eq_true] at g; rw [Bool.and_eq_true]; exact ⟨g.1,g.2.1⟩),List.append_nil]
 ·rw [show dieD id cm dy (rs.getD i.toNat dRw) = rs.getD i.toNat dRw from if_neg hn,← l2_get h hi,set_same]
theorem l2_die {id cm:Int} {dy:Dys} {rs:List Rw} {i:Int} {added rows:List Rw} (h:L2 id cm dy rs i added rows) (hi:i < rs.length) (hn:(liveB id (rs.getD i.toNat dRw) && mvB dy (rs.getD i.toNat dRw)) = true) (hl:ltB dy (rs.getD i.toNat dRw) = false) :
 L2 id cm dy rs (i + 1) added (rows.set i.toNat ((rows.getD i.toNat dRw).1,cm,(rows.getD i.toNat dRw).2.2)):=by
 refine l2_next h hi ?_ ?_
 ·rw [hl,Bool.and_false,Bool.and_false,if_neg Bool.false_ne_true,List.append_nil]
 ·rw [l2_get h hi,show dieD id cm dy (rs.getD i.toNat dRw) = ((rs.getD i.toNat dRw).1,cm,()) from if_pos hn]
theorem l2_add {id cm:Int} {dy:Dys} {rs:List Rw} {i:Int} {added rows:List Rw} (h:L2 id cm dy rs i added rows) (hi:i < rs.length) (hn:(liveB id (rs.getD i.toNat dRw) && mvB dy (rs.getD i.toNat dRw)) = true) (hl:ltB dy (rs.getD i.toNat dRw) = true) :
 L2 id cm dy rs (i + 1) (added ++ [addR cm dy (rs.getD i.toNat dRw)]) (rows.set i.toNat ((rows.getD i.toNat dRw).1,cm,(rows.getD i.toNat dRw).2.2)):=by
 refine l2_next h hi ?_ ?_
 ·rw [Bool.and_eq_true] at hn
  rw [hn.1,hn.2,hl,Bool.and_self,Bool.and_self,if_pos rfl]
 ·rw [l2_get h hi,show dieD id cm dy (rs.getD i.toNat dRw) = ((rs.getD i.toNat dRw).1,cm,()) from if_pos hn]
theorem l2_end {id cm:Int} {dy:Dys} {rs:List Rw} {i:Int} {added rows:List Rw} (h:L2 id cm dy rs i added rows) (hi:¬ i < rs.length):added = addD id cm dy rs ∧ rows = rs.map (dieD id cm dy):=by
 obtain ⟨h0,h1,h2,h3⟩:=h
 rw [List.take_of_length_le (by omega)] at h2 h3
 rw [List.drop_of_length_le (by omega),List.append_nil] at h3
 exact ⟨h2,h3⟩
theorem addD_le (id cm:Int) (dy:Dys) (rs:List Rw) (n:Nat):(addD id cm dy (rs.take n)).length ≤ (liveF id rs).length:=by
 unfold addD liveF
 rw [List.length_map]
 have h1:((rs.take n).filter fun r=>liveB id r && (mvB dy r && ltB dy r)).length ≤ (rs.filter fun r=>liveB id r && (mvB dy r && ltB dy r)).length:=by
  exact (List.Sublist.filter _ (List.take_sublist n rs)).length_le
 have h2:(rs.filter fun r=>liveB id r && (mvB dy r && ltB dy r)).length ≤ (rs.filter (liveB id)).length:=by
  have:(rs.filter fun r=>liveB id r && (mvB dy r && ltB dy r)) = (rs.filter (liveB id)).filter fun r=>mvB dy r && ltB dy r:=by
   rw [List.filter_filter]
   exact List.filter_congr fun r _=>Bool.and_comm _ _
  rw [this]
  exact List.length_filter_le _ _
 exact Nat.le_trans h1 h2
theorem l2_small {id cm:Int} {dy:Dys} {rs:List Rw} {i:Int} {added rows:List Rw} (h:L2 id cm dy rs i added rows):added.length ≤ (liveF id rs).length:=by
 rw [h.2.2.1]
 exact addD_le _ _ _ _ _
def L3 (v:Int) (A:List Rw) (i:Int) (c:List Rw):Prop:=0 ≤ i ∧ i ≤ A.length ∧ c = numb (v + 1) (A.take i.toNat) ++ A.drop i.toNat
theorem l3_zero (v:Int) (A:List Rw):L3 v A 0 A:=⟨by omega,by omega,rfl⟩
theorem l3_len {v:Int} {A:List Rw} {i:Int} {c:List Rw} (h:L3 v A i c):c.length = A.length:=by
 obtain ⟨h0,h1,h2⟩:=h
 rw [h2,List.length_append,numb_len,List.length_take,List.length_drop]
 omega
theorem l3_step {v:Int} {A:List Rw} {i:Int} {c:List Rw} (h:L3 v A i c) (hi:i < A.length):L3 v A (i + 1) (c.set i.toNat (((c.getD i.toNat dRw).1.1,v + 1 + i,(c.getD i.toNat dRw).1.2.2),(c.getD i.toNat dRw).2)):=by
 obtain ⟨h0,h1,h2⟩:=h
 have hl:(numb (v + 1) (A.take i.toNat)).length = i.toNat:=by rw [numb_len,List.length_take]; omega
 refine ⟨by omega,by omega,?_⟩
 have hg:c.getD i.toNat dRw = A.getD i.toNat dRw:=by
  rw [h2,List.getD_eq_getElem?_getD,List.getD_eq_getElem?_getD,List.getElem?_append_right (by omega),hl,Nat.sub_self,List.getElem?_drop,Nat.add_zero]
 rw [hg,h2,take_snocD dRw h0 hi,kQ0,List.set_append_right _ _ (by omega),hl,Nat.sub_self,drop_consD dRw h0 hi,List.append_assoc,List.length_take]
 rw [show v + 1 + i = v + 1 + ((min i.toNat A.length:Nat):Int) by omega]
 rfl
theorem l3_end {v:Int} {A:List Rw} {i:Int} {c:List Rw} (h:L3 v A i c) (hi:¬ i < A.length):c = numb (v + 1) A:=by
 obtain ⟨h0,h1,h2⟩:=h
 rw [List.take_of_length_le (by omega),List.drop_of_length_le (by omega),List.append_nil] at h2
 exact h2
theorem fin_err {p:Bool} {f:Int} {b:Bo} {e:Ev} {rows added:List Rw} (hp:p = true) (hf:¬ f = 0):finD p f b e rows added = (b,f,()):=if_pos ⟨hp,hf⟩
theorem fin_lim {p:Bool} {f:Int} {b:Bo} {e:Ev} {rows added:List Rw} (hp:¬ (p = true ∧ f ≠ 0)) (hl:65536 < (rows.length:Int) + added.length):finD p f b e rows added = (b,2,()):=(if_neg hp).trans (if_pos (by omega))
theorem fin_fine {p:Bool} {f:Int} {b:Bo} {e:Ev} {rows added:List Rw} (hp:¬ (p = true ∧ f ≠ 0)) (hl:¬ 65536 < (rows.length:Int) + added.length):finD p f b e rows added = ((b.1,e.2.1,e.2.2.1,b.2.2.2.1 ++ [e.2.2.1],rows ++ added,()),0,()):=(if_neg hp).trans (if_neg (by omega))
theorem mv_live {id:Int} {dy:Dys} {r:Rw} (h1:r.1.1 = id) (h2:r.2.1 = 0) (h3:¬ ((dy r.1).1 = fromR r ∧ (dy r.1).2 = toR r)):(liveB id r && mvB dy r) = true:=by
 rw [Bool.and_eq_true]
 refine ⟨jZw.2 ⟨h1,h2⟩,?_⟩
 cases hq:mvB dy r with
 | true=>rfl
 | false=>exact absurd (mvB_iff.1 hq) h3
theorem mv_not1 {id:Int} {dy:Dys} {r:Rw} (h:¬ (r.1.1 = id ∧ r.2.1 = 0)):¬ (liveB id r && mvB dy r) = true:=fun g=>h (jZw.1 (Bool.and_eq_true _ _ ▸ g).1)
theorem mv_not2 {id:Int} {dy:Dys} {r:Rw} (h:(dy r.1).1 = fromR r ∧ (dy r.1).2 = toR r):¬ (liveB id r && mvB dy r) = true:=fun g=>by
 have:=(Bool.and_eq_true _ _ ▸ g).2
 rw [mvB_iff.2 h] at this
 cases this
theorem jQ2 {b:Bo} {e:Ev} (h:badT b e):jQh b e = (b,9,()):=if_pos h
theorem ap_arg {b:Bo} {e:Ev} (h0:¬ badT b e) (h:e.1 < 1 ∨ 6 ≤ e.1):jQh b e = (b,1,()):=(if_neg h0).trans (if_pos h)
theorem ap_none {b:Bo} {e:Ev} (h0:¬ badT b e) (h:2 ≤ e.1 ∧ e.1 ≤ 4) (hl:(liveS b e.2.2.2.1).length = 0):jQh b e = (b,5,()) :=
 (if_neg h0).trans ((if_neg (by omega)).trans (if_pos ⟨hl,by omega,by omega⟩))
theorem ap_5 {b:Bo} {e:Ev} (h0:¬ badT b e) (h:e.1 = 5):jQh b e = makeD b e idDy []:=by
 refine (if_neg h0).trans ((if_neg (by omega)).trans ?_)
 dsimp only
 rw [if_neg (by omega),if_neg (by omega),if_neg (by omega),if_neg (by omega),if_neg (by omega)]
theorem ap_1a {b:Bo} {e:Ev} (h0:¬ badT b e) (h:e.1 = 1) (hh:hasF e.2.2.2.1 b.2.2.2.2.1 = true):jQh b e = (b,6,()):=by
 refine (if_neg h0).trans ((if_neg (by omega)).trans ?_)
 dsimp only
 rw [if_neg (by omega),if_pos h,if_pos hh]
theorem ap_1b {b:Bo} {e:Ev} (h0:¬ badT b e) (h:e.1 = 1) (hh:hasF e.2.2.2.1 b.2.2.2.2.1 = false):jQh b e = makeD b e idDy [(newEn e 0,0,())]:=by
 refine (if_neg h0).trans ((if_neg (by omega)).trans ?_)
 dsimp only
 rw [if_neg (by omega),if_pos h,if_neg (by rw [hh]; exact Bool.false_ne_true)]
theorem ap_2a {b:Bo} {e:Ev} (h0:¬ badT b e) (h:e.1 = 2) (hl:¬ (liveS b e.2.2.2.1).length = 0) (hx:e.2.2.2.2.2.2.1 < 0 ∨ endR (liveS b e.2.2.2.1) ≤ max e.2.2.2.2.2.2.1 (fromR ((liveS b e.2.2.2.1).getD 0 dRw))):jQh b e = (b,9,()):=by
 refine (if_neg h0).trans ((if_neg (by omega)).trans ?_)
 dsimp only
 rw [if_neg (fun g=>hl g.1),if_neg (by omega),if_pos h,if_pos hx]
theorem ap_2b {b:Bo} {e:Ev} (h0:¬ badT b e) (h:e.1 = 2) (hl:¬ (liveS b e.2.2.2.1).length = 0) (hx:¬ (e.2.2.2.2.2.2.1 < 0 ∨ endR (liveS b e.2.2.2.1) ≤ max e.2.2.2.2.2.2.1 (fromR ((liveS b e.2.2.2.1).getD 0 dRw)))):jQh b e =
 makeD b e (befDy (max e.2.2.2.2.2.2.1 (fromR ((liveS b e.2.2.2.1).getD 0 dRw)))) [(corEn ((liveS b e.2.2.2.1).getD 0 dRw).1 (max e.2.2.2.2.2.2.1 (fromR ((liveS b e.2.2.2.1).getD 0 dRw))) (endR (liveS b e.2.2.2.1)) e,0,())]:=by
 refine (if_neg h0).trans ((if_neg (by omega)).trans ?_)
 dsimp only
 rw [if_neg (fun g=>hl g.1),if_neg (by omega),if_pos h,if_neg hx]
theorem ap_3a {b:Bo} {e:Ev} (h0:¬ badT b e) (h:e.1 = 3) (hl:¬ (liveS b e.2.2.2.1).length = 0) (hx:e.2.2.2.2.2.2.1 < 0 ∨ endR (liveS b e.2.2.2.1) ≤ e.2.2.2.2.2.2.1):jQh b e = (b,9,()):=by
 refine (if_neg h0).trans ((if_neg (by omega)).trans ?_)
 dsimp only
 rw [if_neg (fun g=>hl g.1),if_neg (by omega),if_neg (by omega),if_pos h,if_pos hx]
theorem ap_3b {b:Bo} {e:Ev} (h0:¬ badT b e) (h:e.1 = 3) (hl:¬ (liveS b e.2.2.2.1).length = 0) (hx:¬ (e.2.2.2.2.2.2.1 < 0 ∨ endR (liveS b e.2.2.2.1) ≤ e.2.2.2.2.2.2.1)):jQh b e = makeD b e (befDy e.2.2.2.2.2.2.1) []:=by
 refine (if_neg h0).trans ((if_neg (by omega)).trans ?_)
 dsimp only
 rw [if_neg (fun g=>hl g.1),if_neg (by omega),if_neg (by omega),if_pos h,if_neg hx]
theorem ap_4a {b:Bo} {e:Ev} (h0:¬ badT b e) (h:e.1 = 4) (hl:¬ (liveS b e.2.2.2.1).length = 0) (hx:fromR ((liveS b e.2.2.2.1).getD 0 dRw) ≤ e.2.2.1 ∨ fromR ((liveS b e.2.2.2.1).getD 0 dRw) = e.2.2.2.2.2.1):jQh b e = (b,4,()):=by
 refine (if_neg h0).trans ((if_neg (by omega)).trans ?_)
 dsimp only
 rw [if_neg (fun g=>hl g.1),if_neg (by omega),if_neg (by omega),if_neg (by omega),if_pos h,if_pos hx]
theorem ap_4b {b:Bo} {e:Ev} (h0:¬ badT b e) (h:e.1 = 4) (hl:¬ (liveS b e.2.2.2.1).length = 0) (hx:¬ (fromR ((liveS b e.2.2.2.1).getD 0 dRw) ≤ e.2.2.1 ∨ fromR ((liveS b e.2.2.2.1).getD 0 dRw) = e.2.2.2.2.2.1))
 (hy:e.2.2.2.2.2.1 < e.2.2.1 ∨ endR (liveS b e.2.2.2.1) ≤ e.2.2.2.2.2.1):jQh b e = (b,9,()):=by
 refine (if_neg h0).trans ((if_neg (by omega)).trans ?_)
 dsimp only
 rw [if_neg (fun g=>hl g.1),if_neg (by omega),if_neg (by omega),if_neg (by omega),if_pos h,if_neg hx,if_pos hy]
theorem ap_4c {b:Bo} {e:Ev} (h0:¬ badT b e) (h:e.1 = 4) (hl:¬ (liveS b e.2.2.2.1).length = 0) (hx:¬ (fromR ((liveS b e.2.2.2.1).getD 0 dRw) ≤ e.2.2.1 ∨ fromR ((liveS b e.2.2.2.1).getD 0 dRw) = e.2.2.2.2.2.1))
 (hy:¬ (e.2.2.2.2.2.1 < e.2.2.1 ∨ endR (liveS b e.2.2.2.1) ≤ e.2.2.2.2.2.1)):jQh b e = makeD b e (embDy e.2.2.2.2.2.1 (fromR ((liveS b e.2.2.2.1).getD 0 dRw))) []:=by
 refine (if_neg h0).trans ((if_neg (by omega)).trans ?_)
 dsimp only
 rw [if_neg (fun g=>hl g.1),if_neg (by omega),if_neg (by omega),if_neg (by omega),if_pos h,if_neg hx,if_neg hy]
theorem jQk {b:Bo} {e:Ev} {c:Bo} {f:Int} (h:jQh b e = (c,f,())):(c,f) = ((jQh b e).1,(jQh b e).2.1):=by rw [h]
end Go.PL
namespace Go.PL
open Go.AM
def dayOfS (b:Bo) (c:Int):Int:=if c = 0 then 0 else b.2.2.2.1.getD (c - 1).toNat 0
def lastC (b:Bo) (r:Rw):Int:=if 0 < r.2.1 then r.2.1 - 1 else b.2.1
def pubS (b:Bo) (r:Rw):Bool:=decide (fromR r ≤ dayOfS b (lastC b r))
def dayOk (b:Bo) (r:Rw):Prop:=0 ≤ lastC b r ∧ lastC b r ≤ b.2.2.2.1.length
def kQb (b:Bo):Prop:=∀ r ∈ b.2.2.2.2.1,dayOk b r
def pubL (b:Bo):List Rw:=b.2.2.2.2.1.filter (pubS b)
def restL (b:Bo):List Rw:=b.2.2.2.2.1.filter fun r=>!pubS b r
def jZo (r:Rw):Bool:=decide (r.2.1 = 0)
def vltL (b:Bo):List Rw:=(restL b).filter jZo
end Go.PL
namespace Go.Proofs.YtcnpblceamgfcaaGreatDoor
open Go.AM Go.PL
def pubSp:FSpec:=⟨[BO,RW],[.bool],fun x=>dayOk x.1 x.2,fun x=>pubS x.1 x.2⟩
def splitSp:FSpec:=⟨[BO],[RL,RL],fun b=>kQb b ∧ (b:Bo).2.2.2.2.1.length ≤ 50000,fun b=>(pubL b,vltL b)⟩
def loopsBu (f:FuncId) (r:Nat):List LA :=
 if Nat.beq f 30 then [.slot 10 I,.gslot 4 58 RW,.gslot 5 58 RW] else
 []
def unrBu (f:FuncId) (r:Nat):Nat:=bif (Nat.beq f 30 && Nat.beq r 1) || (Nat.beq f 10 && Nat.beq r 2) then 500 else 0
def datW (t:TypeId):Nat:=bif Nat.beq t 58 then 1 else datN t
def hintBu (f:FuncId):Hint:=if Nat.beq f 999999995 then ⟨fun _=>[],fun _=>.split,fun _=>.split,datW⟩ else ⟨loopsBu f,fun _=>.split,fun _=>.split,unrBu f⟩
def dayOfSp:FSpec:=⟨[BO,I],[I],fun x=>0 ≤ (x.2:Int) ∧ (x.2:Int) ≤ (x.1:Bo).2.2.2.1.length,fun x=>dayOfS x.1 x.2⟩
noncomputable def BU9:Ctx:=mkctx bs [] [] hintBu
theorem dayOf_nf (sc:Sc) (cm da:Int) (ds:List Int) (rs:List Rw) (c:Int):fnwp BU9 6 65 dayOfSp ((sc,cm,da,ds,rs,()),c) = (SD (c = z0) (z0 = dayOfS (sc,cm,da,
 ds,rs,()) c) (isI64 (c - z1) ∧ (IR (c - z1) ds) ∧ ds.getD (c - z1).toNat z0 = dayOfS (sc,cm,da,ds,rs,()) c)):=by kernel_rfl
noncomputable def BU0:Ctx:=mkctx bs [(65,dayOfSp)] [] hintBu
theorem pub_nf (sc:Sc) (cm da:Int) (ds:List Int) (rs:List Rw) (r:Rw):fnwp BU0 6 32 pubSp ((sc,cm,da,ds,rs,()),r) = (SD (z0 < r.2.1) (isI64 (r.2.1 - z1) ∧ (z0 ≤
 r.2.1 - z1 ∧ r.2.1 - z1 ≤ (ln ds)) ∧ decide (r.1.2.2.2.2.1 ≤ dayOfS (sc,cm,da,ds,rs,()) (r.2.1 - z1)) = pubS (sc,cm,da,ds,rs,()) r) ((z0 ≤ cm ∧ cm ≤ (ln ds)) ∧ decide
 (r.1.2.2.2.2.1 ≤ dayOfS (sc,cm,da,ds,rs,()) cm) = pubS (sc,cm,da,ds,rs,()) r)):=by kernel_rfl
noncomputable def BU1:Ctx:=mkctx bs [(32,pubSp)] [] hintBu
abbrev jVt:List ((Int × Int × Int × Int × Int × Int × Int × List Int × List (List Int × Int × Int × List Int × Unit) × Unit) × Int × Unit):=[]
abbrev split_nf_e1:List (List Int × Int × Int × List Int × Unit):=[]
abbrev jK8:=((z0,z0,z0,z0,z0,z0,z0,eI,split_nf_e1,()),z0,())
theorem split_nf (sc:Sc) (cm da:Int) (ds:List Int) (rs:List Rw):fnwp BU1 8 10 splitSp (sc,cm,da,ds,rs,()) = (LP (z0,jVt,jVt) fun I μ x=>SD (x.1
 < (ln rs)) ((IR x.1 rs) ∧ dayOk (sc,cm,da,ds,rs,()) (rs.getD x.1.toNat jK8) ∧ SP (pubS (sc,cm,da,ds,rs,()) (rs.getD x.1.toNat jK8)) (roomP BU1 y58
 (x.2.1.length + [rs.getD x.1.toNat jK8].length) ∧ isI64 (x.1 + z1) ∧ NX I μ x (x.1 + z1,x.2.1 ++ [rs.getD x.1.toNat jK8],x.2.2)) (roomP BU1 y58 (x.2.2.length +
 [rs.getD x.1.toNat jK8].length) ∧ isI64 (x.1 + z1) ∧ NX I μ x (x.1 + z1,x.2.1,x.2.2 ++ [rs.getD x.1.toNat jK8]))) (LP (z0,jVt,jVt) fun I μ x_1=>SD
 (x_1.1 < (ln x.2.2)) ((IR x_1.1 x.2.2) ∧ SD ((x.2.2.getD x_1.1.toNat jK8).2.1 = z0) (roomP BU1 y58 (x_1.2.1.length + [x.2.2.getD x_1.1.toNat jK8].length) ∧ isI64 (x_1.1
 + z1) ∧ NX I μ x_1 (x_1.1 + z1,x_1.2.1 ++ [x.2.2.getD x_1.1.toNat jK8],x_1.2.2)) (roomP BU1 y58 (x_1.2.2.length + [x.2.2.getD x_1.1.toNat jK8].length) ∧ isI64 (x_1.1 +
 z1) ∧ NX I μ x_1 (x_1.1 + z1,x_1.2.1,x_1.2.2 ++ [x.2.2.getD x_1.1.toNat jK8]))) ((x.2.1,x_1.2.1) = (pubL (sc,cm,da,ds,rs,()),vltL (sc,cm,da,ds,rs,()))))):=by
 kernel_rfl
end Go.Proofs.YtcnpblceamgfcaaGreatDoor
namespace Go.PL
open Go.AM
end Go.PL
namespace Go.Proofs.YtcnpblceamgfcaaGreatDoor
open Go.AM Go.PL
def rowsFew (b:Bo):Prop:=(∀ r ∈ b.2.2.2.2.1,fewE (r:Rw).1) ∧ b.2.2.2.2.1.length ≤ 50000
end Go.Proofs.YtcnpblceamgfcaaGreatDoor
namespace Go.AM
open Go.Proofs Go.Sort Go.Shelf Go.Lib
theorem flatK_list {α:Type} [Inhabited α] (enc:α → List Value) (k:Nat) (hk:∀ x,(enc x).length = k):∀ (l:List α),(flatK enc k l.toArray).toList = l.flatMap enc
 | []=>by simp [flatK]
 | x :: l=>by
  have ih:=flatK_list enc k hk l
  apply List.ext_getElem?
  intro i
  have hi0:=congrArg (fun z=>z[i - k]?) ih
  simp only [flatK,Array.toList_map,Array.toList_range,List.getElem?_map] at hi0 ⊢
  simp only [List.size_toArray,List.length_cons,List.flatMap_cons] at hi0 ⊢
  rcases Nat.lt_or_ge i k with h | h
  ·rw [List.getElem?_append_left (by rw [hk]; exact h),List.getElem?_range (by
    have:k ≤ (l.length + 1) * k:=Nat.le_mul_of_pos_left k (by omega)
    omega)]
   simp only [Option.map_some,Nat.div_eq_of_lt h,Nat.mod_eq_of_lt h]
   have hx:(enc x)[i]? = some ((enc x)[i]'(by rw [hk]; exact h)):=List.getElem?_eq_getElem _
   rw [hx]
   simp [hk,h]
  ·rw [List.getElem?_append_right (by rw [hk]; exact h),hk,← hi0]
   have hkp:(l.length + 1) * k = l.length * k + k:=by rw [Nat.add_mul,Nat.one_mul]
   by_cases hlt:i - k < l.length * k
   ·rw [List.getElem?_range (by omega),List.getElem?_range (by omega)]
    have hk0:0 < k:=by
     rcases Nat.eq_zero_or_pos k with e | e
     ·subst e; simp at hlt
     ·exact e
    have e1:i / k = (i - k) / k + 1:=by rw [← Nat.sub_add_cancel h,Nat.add_div_right _ hk0]; simp
    have e2:i % k = (i - k) % k:=by rw [Nat.mod_eq_sub_mod h]
    simp [e1,e2]
   ·rw [List.getElem?_eq_none (by simp; omega),List.getElem?_eq_none (by simp; omega)]
    rfl
theorem take_putId (F cur:Array Value) (h:F.size ≤ cur.size):(putCells id 0 F cur).toList.take F.size = F.toList:=by
 apply List.ext_getElem?
 intro j
 by_cases hj:j < F.size
 ·rw [List.getElem?_take_of_lt hj,Array.getElem?_toList]
  simp [putCells,hj,show j < cur.size by omega]
 ·rw [List.getElem?_take_eq_none (by omega),List.getElem?_eq_none (by simp; omega)]
theorem rdL_enc {α:Type} {R:α → List Value → Prop} {enc:α → List Value} {ok:α → Prop} (h:∀ x vs,R x vs ↔ vs = enc x ∧ ok x):∀ (xs:List α) (vs:List Value),rdL R xs vs ↔ vs = xs.flatMap enc ∧ ∀ x ∈ xs,ok x
 | [],vs=>by simp [rdL]
 | x :: xs,vs=>by
  simp only [rdL,List.flatMap_cons,List.mem_cons,forall_eq_or_imp]
  constructor
  ·rintro ⟨c,vs',rfl,h1,h2⟩
   obtain ⟨rfl,hx⟩:=(h x c).1 h1
   obtain ⟨rfl,hxs⟩:=(rdL_enc h xs vs').1 h2
   exact ⟨rfl,hx,hxs⟩
  ·rintro ⟨rfl,hx,hxs⟩
   exact ⟨_,_,rfl,(h x _).2 ⟨rfl,hx⟩,(rdL_enc h xs _).2 ⟨rfl,hxs⟩⟩
theorem holds_id {w:World} {g:Nat} {cur:Array Value} {e:TypeId} {F:Array Value} (hb:w.heap[g]? = some (.cells cur e (0,0))) (ht:cur.toList.take F.size = F.toList):Holds id w g 0 F:=by
 intro j hj
 refine ⟨?_,by simp [World.frozen?,hb]⟩
 have h1:(cur.toList.take F.size)[j]? = F.toList[j]?:=by rw [ht]
 rw [List.getElem?_take_of_lt hj] at h1
 simp only [World.cell?,hb,Nat.zero_add]
 simp only [Option.isSome_none,Bool.false_eq_true,if_false]
 rw [← Array.getElem?_toList,h1]
 simp [hj]
theorem heap_sortedK {w:World} {g n:Nat} {os:Array Obj} {cur:Array Value} {e:TypeId} {fr:Nat × Nat} (d:Array Value) (hb:w.heap[g]? = some (.cells cur e fr)) :
 (grow (putRow id (Sort.ahead w n) g 0 d) os).heap[g]? = some (.cells (putCells id 0 d cur) e fr):=by
 have hg:g < w.heap.size:=(Array.getElem?_eq_some_iff.1 hb).1
 rw [heap_grow_old _ _ (by simpa using hg)]
 simp [putRow,mapBlock,Sort.ahead,Array.getElem?_modify,hb,onCells]
theorem grownBy_sortedK {w:World} {g n:Nat} {os:Array Obj} (d:Array Value):w.grownBy (grow (putRow id (Sort.ahead w n) g 0 d) os) (some g):=by
 refine ⟨rfl,rfl,rfl,by simp,fun k hk hne=>?_⟩
 rw [heap_grow_old _ _ (by simpa using hk)]
 have:g ≠ k:=fun e=>hne (by rw [e])
 simp [putRow,mapBlock,Sort.ahead,Array.getElem?_modify,this]
end Go.AM
namespace Go.Proofs
open Go.Shelf
def Tryz.sortDig_ren:Go.Shelf.Ren:=⟨fun | 6=>36 | 15=>67 | 14=>66 | 28=>120 | 29=>121 | 20=>112 | 21=>113 | 22=>114 | 23=>115 | 24=>116 | 25=>117 | 26=>118 | 27=>119 | 46=>158 | 47=>159 | 48=>160 | 49=>161 | 50=>162 | 57=>180 | n=>n,fun | 22=>46 | 24=>31 | 25=>91 | 3=>3 | 39=>125 | 0=>0 | 53=>147 | 55=>130 | 4=>4 | 46=>177 | 45=>176 | 50=>181 | 5=>5 | 9=>9 | 66=>204 | 70=>208 | 76=>222 | 77=>173 | n=>n,fun | n=>n⟩
theorem Tryz.sortDig:Go.Proofs.SlLaysF0.n6 Tryz.prog Tryz.sortDig_ren:={
 mixed:=by kernel_rfl
 f6:=⟨Tryz.f36.name,by decide,Tryz.func36.trans (congrArg some (by kernel_rfl))⟩
 f14:=⟨Tryz.f66.name,by decide,Tryz.func66.trans (congrArg some (by kernel_rfl))⟩
 f15:=Tryz.func67.trans (congrArg some (by kernel_rfl))
 f20:=⟨Tryz.f112.name,by decide,Tryz.func112.trans (congrArg some (by kernel_rfl))⟩
 f21:=⟨Tryz.f113.name,by decide,Tryz.func113.trans (congrArg some (by kernel_rfl))⟩
 f22:=⟨Tryz.f114.name,by decide,Tryz.func114.trans (congrArg some (by kernel_rfl))⟩
 f23:=⟨Tryz.f115.name,by decide,Tryz.func115.trans (congrArg some (by kernel_rfl))⟩
 f24:=⟨Tryz.f116.name,by decide,Tryz.func116.trans (congrArg some (by kernel_rfl))⟩
 f25:=⟨Tryz.f117.name,by decide,Tryz.func117.trans (congrArg some (by kernel_rfl))⟩
 f26:=⟨Tryz.f118.name,by decide,Tryz.func118.trans (congrArg some (by kernel_rfl))⟩
 f27:=⟨Tryz.f119.name,by decide,Tryz.func119.trans (congrArg some (by kernel_rfl))⟩
 f28:=Tryz.func120.trans (congrArg some (by kernel_rfl))
 f29:=Tryz.func121.trans (congrArg some (by kernel_rfl))
 f46:=⟨Tryz.f158.name,by decide,Tryz.func158.trans (congrArg some (by kernel_rfl))⟩
 f47:=Tryz.func159.trans (congrArg some (by kernel_rfl))
 f48:=Tryz.func160.trans (congrArg some (by kernel_rfl))
 f49:=⟨Tryz.f161.name,by decide,Tryz.func161.trans (congrArg some (by kernel_rfl))⟩
 f50:=⟨Tryz.f162.name,by decide,Tryz.func162.trans (congrArg some (by kernel_rfl))⟩
 f57:=⟨Tryz.f180.name,by decide,Tryz.func180.trans (congrArg some (by kernel_rfl))⟩
 t0:=Tryz.underlying0
 a0:=Tryz.isAgg0
 z0:=Tryz.sizeOf0
 v0:=Tryz.zeroValue0
 t3:=Tryz.underlying3
 a3:=Tryz.isAgg3
 z3:=Tryz.sizeOf3
 v3:=Tryz.zeroValue3
 t4:=Tryz.underlying4
 a4:=Tryz.isAgg4
 z4:=Tryz.sizeOf4
 v4:=Tryz.zeroValue4
 t5:=Tryz.underlying5
 a5:=Tryz.isAgg5
 z5:=Tryz.sizeOf5
 v5:=Tryz.zeroValue5
 t9:=Tryz.underlying9
 a9:=Tryz.isAgg9
 z9:=Tryz.sizeOf9
 v9:=Tryz.zeroValue9
 t22:=Tryz.underlying46
 a22:=Tryz.isAgg46
 z22:=Tryz.sizeOf46
 v22:=Tryz.zeroValue46
 t25:=Tryz.underlying91
 a25:=Tryz.isAgg91
 z25:=Tryz.sizeOf91
 v25:=Tryz.zeroValue91
 t39:=Tryz.underlying125
 a39:=Tryz.isAgg125
 z39:=Tryz.sizeOf125
 v39:=Tryz.zeroValue125
 t45:=Tryz.underlying176
 a45:=Tryz.isAgg176
 z45:=Tryz.sizeOf176
 v45:=Tryz.zeroValue176
 t46:=Tryz.underlying177
 a46:=Tryz.isAgg177
 z46:=Tryz.sizeOf177
 v46:=Tryz.zeroValue177
 t50:=Tryz.underlying181
 a50:=Tryz.isAgg181
 z50:=Tryz.sizeOf181
 v50:=Tryz.zeroValue181
 t53:=Tryz.underlying147
 a53:=Tryz.isAgg147
 z53:=Tryz.sizeOf147
 v53:=Tryz.zeroValue147
 t55:=Tryz.underlying130
 a55:=Tryz.isAgg130
 z55:=Tryz.sizeOf130
 v55:=Tryz.zeroValue130
 t66:=Tryz.underlying204
 a66:=Tryz.isAgg204
 z66:=Tryz.sizeOf204
 v66:=Tryz.zeroValue204
 t70:=Tryz.underlying208
 a70:=Tryz.isAgg208
 z70:=Tryz.sizeOf208
 v70:=Tryz.zeroValue208
 t76:=Tryz.underlying222
 a76:=Tryz.isAgg222
 z76:=Tryz.sizeOf222
 v76:=Tryz.zeroValue222
 t77:=Tryz.underlying173
 a77:=Tryz.isAgg173
 z77:=Tryz.sizeOf173
 v77:=Tryz.zeroValue173 }
end Go.Proofs
namespace Go.Proofs
open Go.Sort Go.Lib
theorem KYtcnpblceamgfcaaGreatDoor.cmpRun {P:Program} (w:World) (x y:List Int) (a b:Addr) (ca cb:Nat) (hx:∀ j v,x[j]? = some v → w.cell? (a.add j) = some (.int .u8 v)) (hy:∀ j v,y[j]? = some v → w.cell? (b.add j) = some (.int .u8 v)) :
 (Extern.BytealgCompare.compare #[.slice (some a) x.length ca,.slice (some b) y.length cb]).run P w = .ok (.int .i64 (compareBytes (bytesOf x) (bytesOf y))) w:=by
 change Sem.run P (do pure (goInt (Extern.BytealgCompare.cmp (← Extern.Bytes.bytesOf (.slice (some a) x.length ca)) (← Extern.Bytes.bytesOf (.slice (some b) y.length cb))))) w = _
 have h1:=run_loadBytesX (P:=P) w x a .empty hx
 have h2:=run_loadBytesX (P:=P) w y b .empty hy
 simp only [Extern.Bytes.bytesOf,Sem.run_bind,Sem.run_pure,Result.andThen,h1,h2]
 rw [cmp_eq]
 simp [goInt]
set_option maxRecDepth 100000 in
theorem KYtcnpblceamgfcaaGreatDoor.bytes (x y:List Int) (a b:Addr) (ca cb:Nat) (w:World) (hx:∀ j v,x[j]? = some v → w.cell? (a.add j) = some (.int .u8 v)) (hy:∀ j v,y[j]? = some v → w.cell? (b.add j) = some (.int .u8 v)) :
 Calls Tryz.prog 68 #[.slice (some a) x.length ca,.slice (some b) y.length cb] w fun e w'=>e = .returned (.int .i64 (compareBytes (bytesOf x) (bytesOf y))) ∧ w' = w:=by
 go_enter Tryz.func68,Tryz.ntmps68
 go_wp2
 rw [run_callFunc_extern Tryz.func122 (by kernel_rfl) (by kernel_rfl) (by kernel_rfl) (e:=Extern.BytealgCompare.compare) (by kernel_rfl),KYtcnpblceamgfcaaGreatDoor.cmpRun w x y a b ca cb hx hy]
 simp only [Result.andThen]
 rw [Oper.upon_value]
 go_wp2
 go_ret
 exact ⟨rfl,rfl⟩
theorem KYtcnpblceamgfcaaGreatDoor.addJ (g j:Nat):(⟨g,0,none⟩:Addr).add j = ⟨g,j,none⟩:=by
 unfold Addr.add
 split <;> simp_all
theorem KYtcnpblceamgfcaaGreatDoor.cells1 (w:World) (l:List Int) (t:TypeId) (o:Obj):∀ j v,l[j]? = some v → ((w.alloc (.cells (l.map (Value.int .u8)).toArray t)).alloc o).drew.cell? ((⟨w.heap.size,0,none⟩:Addr).add j) = some (.int .u8 v):=by
 intro j v h
 have hh:((w.alloc (.cells (l.map (Value.int .u8)).toArray t)).alloc o).drew.heap = (w.heap.push (.cells (l.map (Value.int .u8)).toArray t)).push o:=rfl
 rw [KYtcnpblceamgfcaaGreatDoor.addJ]
 simp [World.cell?,hh,Array.getElem?_push,h]
theorem KYtcnpblceamgfcaaGreatDoor.cells2 (w:World) (l:List Int) (t:TypeId) (o:Obj):∀ j v,l[j]? = some v → ((w.alloc o).alloc (.cells (l.map (Value.int .u8)).toArray t)).drew.cell? ((⟨w.heap.size + 1,0,none⟩:Addr).add j) = some (.int .u8 v):=by
 intro j v h
 have hh:((w.alloc o).alloc (.cells (l.map (Value.int .u8)).toArray t)).drew.heap = (w.heap.push o).push (.cells (l.map (Value.int .u8)).toArray t):=rfl
 have e:((w.heap.push o).push (.cells (l.map (Value.int .u8)).toArray t))[w.heap.size + 1]? = some (.cells (l.map (Value.int .u8)).toArray t):=by
  rw [show w.heap.size + 1 = (w.heap.push o).size by simp]
  exact Array.getElem?_push_size
 rw [KYtcnpblceamgfcaaGreatDoor.addJ]
 simp only [World.cell?,hh,e]
 simp [h]
attribute [local go_sem ↓] Go.wp_at_zero Go.wp_at_succ
set_option maxHeartbeats 4000000 in
theorem KYtcnpblceamgfcaaGreatDoor.digests (x y:List Int) (hx:x.length = 16) (hy:y.length = 16) (w:World) :
 Calls Tryz.prog 37 #[.agg (x.map (Value.int .u8)).toArray,.agg (y.map (Value.int .u8)).toArray] w fun e w'=>e = .returned (.int .i64 (compareBytes (bytesOf x) (bytesOf y))) ∧ ∃ q os',w' = grow (w.drewN q) os':=by
 have hb:∀ W:World,(∀ j v,x[j]? = some v → W.cell? ((⟨w.heap.size,0,none⟩:Addr).add j) = some (.int .u8 v)) → (∀ j v,y[j]? = some v → W.cell? ((⟨w.heap.size + 1,0,none⟩:Addr).add j) = some (.int .u8 v)) →
  Calls Tryz.prog 68 #[.slice (some ⟨w.heap.size,0,none⟩) 16 16,.slice (some ⟨w.heap.size + 1,0,none⟩) 16 16] W fun e w'=>e = .returned (.int .i64 (compareBytes (bytesOf x) (bytesOf y))) ∧ w' = W:=fun W h1 h2=>by
  have:=KYtcnpblceamgfcaaGreatDoor.bytes x y ⟨w.heap.size,0,none⟩ ⟨w.heap.size + 1,0,none⟩ 16 16 W h1 h2
  rw [hx,hy] at this
  exact this
 generalize compareBytes (bytesOf x) (bytesOf y) = c at hb ⊢
 go_enter Tryz.func37,Tryz.ntmps37
 go_wp2
 have k1:=KYtcnpblceamgfcaaGreatDoor.cells1 w x 31 (.cells (y.map (Value.int .u8)).toArray 31)
 have k2:=KYtcnpblceamgfcaaGreatDoor.cells2 w y 31 (.cells (x.map (Value.int .u8)).toArray 31)
 go_region_held3 (fun w'=>(∀ j v,x[j]? = some v → w'.cell? ((⟨w.heap.size,0,none⟩:Addr).add j) = some (.int .u8 v)) ∧ (∀ j v,y[j]? = some v → w'.cell? ((⟨w.heap.size + 1,0,none⟩:Addr).add j) = some (.int .u8 v))) (first | exact ⟨k1,k2⟩ | exact k1 | exact k2 | assumption | go_keep)
  (first | (go_at_call 68; refine (hb _ k1 k2).mono ?_; rintro e w' ⟨rfl,rfl⟩))
 go_wp2
 go_ret
 exact ⟨rfl,1,_,by rw [alloc_eq_grow,alloc_eq_grow,grow_grow]; rfl⟩
end Go.Proofs
namespace Go.AM
open Go.Proofs Go.Sort Go.Shelf Go.Lib
def rightL {α:Type} {ok:α → Prop} (xs:List α) (h:∀ x ∈ xs,ok x):List {x:α // ok x}:=xs.attach.map fun x=>⟨x.1,h x.1 x.2⟩
theorem rightL_val {α:Type} {ok:α → Prop} (xs:List α) (h:∀ x ∈ xs,ok x):(rightL xs h).map Subtype.val = xs:=by
 unfold rightL
 rw [List.map_map]
 exact List.attach_map_subtype_val xs
open Classical in
noncomputable def sortSub {α:Type} (ok:α → Prop) (cf:{x:α // ok x} → {x:α // ok x} → Int) (xs:List α):List α :=
 if h:∀ x ∈ xs,ok x then ((rightL xs h).mergeSort fun x y=>!(ltOf cf) y x).map Subtype.val else xs
theorem sortSub_perm {α:Type} (ok:α → Prop) (cf:{x:α // ok x} → {x:α // ok x} → Int) (xs:List α):(sortSub ok cf xs).Perm xs:=by
 unfold sortSub
 split
 ·rename_i h
  have:=(List.mergeSort_perm (rightL xs h) fun x y=>!(ltOf cf) y x).map Subtype.val
  rw [rightL_val] at this
  exact this
 ·exact List.Perm.refl _
theorem satS_sub {P:Program} {ρ:Ren} (L:SlLaysF0.n6 P ρ) (tid:TypeId) (e:Ty) (ok:e.den → Prop) [Inhabited {x:e.den // ok x}] (enc:e.den → List Value) (hre:∀ Ψ x vs,reads Ψ e x vs ↔ vs = enc x ∧ ok x) (k:Nat) (hk:∀ x,ok x → (enc x).length = k) (hce:e.cells = k)
 (h1:∀ x,ok x → ∀ v ∈ enc x,v.oneCell' = true) (aE:∀ w,(isAgg (ρ.t 24)).run P w = .ok true w) (zE:∀ w,(Go.sizeOf (ρ.t 24)).run P w = .ok k w) (cf:{x:e.den // ok x} → {x:e.den // ok x} → Int) (hO:SWO (ltOf cf)) (hT:∀ x y,(ltOf cf) x y = false → (ltOf cf) y x = false → x = y)
 (g:Nat) (eg:∀ args w,(callFunc g args).run P w = .ok (.enter g args) w)
 (hcmp:∀ (x y:{x:e.den // ok x}) W,Calls P g #[.agg (enc x.1).toArray,.agg (enc y.1).toArray] W fun e w'=>e = .returned (.int .i64 (cf x y)) ∧ ∃ q os',w' = grow (W.drewN q) os') :
 SatS P (ρ.f 6) ⟨tid,e,g,fun xs=>sortSub ok cf xs⟩:=by
 intro B Ψ w xs v hb hn
 rcases hb with ⟨ad,hβ,rfl⟩ | ⟨gb,cap,cur,hβ,hcap,hB,hh,hle,hmax,hsz,hrd⟩
 ·have hv:v = .slice ad 0 0:=by simpa using hβ
  subst hv
  refine (AnyF.slices_SortFunc_none L ad 0 (fnV g) w).mono ?_
  rintro e' w' ⟨rfl,rfl⟩
  refine ⟨rfl,.inl ⟨rfl,?_⟩⟩
  exact List.perm_nil.1 (sortSub_perm ok cf [])
 ·dsimp only at hβ hh hle hmax hsz hrd
  have hv:v = .slice (some ⟨gb,0,none⟩) xs.length cap:=by simpa using hβ
  subst hv
  obtain ⟨hcells,hok⟩:=(rdL_enc (hre Ψ) _ _).1 hrd
  rw [hce] at hcells hsz
  generalize hzs:rightL xs hok = zs
  have hzv:zs.map Subtype.val = xs:=by rw [← hzs]; exact rightL_val xs hok
  have hzl:zs.length = xs.length:=by rw [← hzv,List.length_map]
  have hk':∀ x:{x:e.den // ok x},(enc x.1).length = k:=fun x=>hk x.1 x.2
  have hF:=flatK_list (fun x:{x:e.den // ok x}=>enc x.1) k hk' zs
  have hfm:∀ l:List {x:e.den // ok x},l.flatMap (fun x=>enc x.1) = (l.map Subtype.val).flatMap enc:=fun l=>by rw [List.flatMap_map]
  have hFs:(flatK (fun x:{x:e.den // ok x}=>enc x.1) k zs.toArray).size = xs.length * k:=by simp [hzl]
  have hHo:HoldsK (fun x:{x:e.den // ok x}=>enc x.1) k w gb 0 zs.toArray:=holds_id hh (by rw [hFs,hF,hfm,hzv]; exact hcells)
  have hlt:gb < w.heap.size:=(Array.getElem?_eq_some_iff.1 hh).1
  have hc:CmpLays P g #[] (fun x:{x:e.den // ok x}=>enc x.1) k cf gb 0 zs.toArray.size w:=fun m os dk hdk x y=>hcmp x y _
  have:=AnyQ.slices_SortFunc_total L k aE zE (fun x:{x:e.den // ok x}=>enc x.1) hk' (fun x=>h1 x.1 x.2) cf hO g #[] gb 0 cap zs.toArray w eg hc hHo hlt (by
   simp only [List.size_toArray]; omega) hT
  rw [show xs.length = zs.toArray.size by simp [hzl]]
  refine this.mono ?_
  rintro e' w' ⟨rfl,n,os,rfl⟩
  refine ⟨rfl,.inr ⟨gb,⟨_,_,hcap,by rw [← show xs.length = zs.toArray.size by simp [hzl]]; exact hβ⟩,grownBy_sortedK _,?_⟩⟩
  dsimp only
  have hsub:sortSub ok cf xs = (zs.mergeSort fun x y=>!(ltOf cf) y x).map Subtype.val:=by
   unfold sortSub
   rw [dif_pos hok,hzs]
  rw [hsub]
  generalize hys:(zs.mergeSort fun x y=>!(ltOf cf) y x) = ys
  have hlen:ys.length = xs.length:=by rw [← hys,List.length_mergeSort,hzl]
  have hmem:∀ y ∈ ys.map Subtype.val,ok y:=fun y hy=>by
   obtain ⟨z,_,rfl⟩:=List.mem_map.1 hy
   exact z.2
  have hF':=flatK_list (fun x:{x:e.den // ok x}=>enc x.1) k hk' ys
  have hFs':(flatK (fun x:{x:e.den // ok x}=>enc x.1) k ys.toArray).size = ys.length * k:=by simp
  have hss:xs.length * k ≤ cap * k:=Nat.mul_le_mul_right k hle
  refine .inr ⟨gb,cap,_,by rw [List.length_map,hlen,← show xs.length = zs.toArray.size by simp [hzl]]; exact hβ,hcap,hB,heap_sortedK _ hh,by rw [List.length_map]; omega,hmax,by rw [hce]; simp [putCells,hsz],?_⟩
  refine (rdL_enc (hre Ψ) _ _).2 ⟨?_,hmem⟩
  rw [hce,List.length_map,← hFs',take_putId _ _ (by rw [hFs',hlen,hsz]; exact hss),hF',hfm]
end Go.AM
namespace Go.Proofs.YtcnpblceamgfcaaGreatDoor
open Go.AM Go.PL Go.Sort Go.Shelf Go.Lib
theorem cb_cons (a b:UInt8) (x y:List UInt8):compareBytes (a :: x) (b :: y) = if a.toNat < b.toNat then -1 else if b.toNat < a.toNat then 1 else compareBytes x y:=by
 show (if a < b then _ else if b < a then _ else _) = _
 simp only [UInt8.lt_iff_toNat_lt]
theorem cb_self:∀ a:List UInt8,compareBytes a a = 0
 | []=>rfl
 | a :: x=>by rw [cb_cons,if_neg (Nat.lt_irrefl _),if_neg (Nat.lt_irrefl _)]; exact cb_self x
theorem cb_trans:∀ a b c:List UInt8,compareBytes a b < 0 → compareBytes b c < 0 → compareBytes a c < 0
 | [],[],_,h,_=>absurd h (show ¬ ((_:Int) < 0) from (by decide:¬ (0:Int) < 0))
 | [],_ :: _,[],_,h=>absurd h (show ¬ ((_:Int) < 0) from (by decide:¬ (1:Int) < 0))
 | [],_ :: _,_ :: _,_,_=>(by decide:(-1:Int) < 0)
 | _ :: _,[],_,h,_=>absurd h (show ¬ ((_:Int) < 0) from (by decide:¬ (1:Int) < 0))
 | _ :: _,_ :: _,[],_,h=>absurd h (show ¬ ((_:Int) < 0) from (by decide:¬ (1:Int) < 0))
 | a :: x,b :: y,c :: z,h1,h2=>by
  rw [cb_cons] at h1 h2 ⊢
  have ih:=cb_trans x y z
  split at h1 <;> split at h2 <;> (try split at h1) <;> (try split at h2) <;> (repeat' split) <;> first | omega | (exact ih h1 h2) | (exfalso; omega)
theorem cb_ntrans:∀ a b c:List UInt8,¬ compareBytes a b < 0 → ¬ compareBytes b c < 0 → ¬ compareBytes a c < 0
 | [],[],c,_,h=>h
 | [],_ :: _,_,h,_=>absurd (show (_:Int) < 0 from (by decide:(-1:Int) < 0)) h
 | _ :: _,[],[],_,_=>(by decide:¬ (1:Int) < 0)
 | _ :: _,[],_ :: _,_,h=>absurd (show (_:Int) < 0 from (by decide:(-1:Int) < 0)) h
 | _ :: _,_ :: _,[],_,_=>(by decide:¬ (1:Int) < 0)
 | a :: x,b :: y,c :: z,h1,h2=>by
  rw [cb_cons] at h1 h2 ⊢
  have ih:=cb_ntrans x y z
  split at h1 <;> split at h2 <;> (try split at h1) <;> (try split at h2) <;> (repeat' split) <;> first | omega | (exact ih h1 h2) | (exfalso; omega)
theorem cb_tot:∀ a b:List UInt8,¬ compareBytes a b < 0 → ¬ compareBytes b a < 0 → a = b
 | [],[],_,_=>rfl
 | [],_ :: _,h,_=>absurd (show (_:Int) < 0 from (by decide:(-1:Int) < 0)) h
 | _ :: _,[],_,h=>absurd (show (_:Int) < 0 from (by decide:(-1:Int) < 0)) h
 | a :: x,b :: y,h1,h2=>by
  rw [cb_cons] at h1 h2
  have ih:=cb_tot x y
  have key:a.toNat = b.toNat ∧ x = y:=by
   split at h1 <;> split at h2 <;> (try split at h1) <;> (try split at h2) <;> first | (exfalso; omega) | (exact ⟨by omega,ih h1 h2⟩)
  rw [UInt8.toNat_inj.1 key.1,key.2]
def okD16 (x:List Int):Prop:=x.length = 16 ∧ ∀ v ∈ x,IntKind.u8.has v
def encD16 (x:List Int):List Value:=x.map (Value.int .u8)
abbrev Dig:={x:Ty.den DG // okD16 x}
def cfD (x y:Dig):Int:=compareBytes (bytesOf x.1) (bytesOf y.1)
instance:Inhabited Dig:=⟨⟨List.replicate 16 0,by rfl,fun v hv=>by rw [(List.mem_replicate.1 hv).2]; exact ⟨by decide,by decide⟩⟩⟩
theorem has8 {v:Int} (h:IntKind.u8.has v):0 ≤ v ∧ v < 256:=by
 have h:(0:Int) ≤ v ∧ v ≤ 255:=h
 omega
theorem rdL_u8 (Ψ:Pr):∀ (xs:List Int) (vs:List Value),rdL (reads Ψ U8) xs vs ↔ vs = xs.map (Value.int .u8) ∧ ∀ v ∈ xs,IntKind.u8.has v
 | [],vs=>by simp [rdL]
 | x :: xs,vs=>by
  simp only [rdL,List.map_cons,List.mem_cons,forall_eq_or_imp]
  constructor
  ·rintro ⟨c,vs',rfl,⟨rfl,hx⟩,h2⟩
   obtain ⟨rfl,hxs⟩:=(rdL_u8 Ψ xs vs').1 h2
   exact ⟨rfl,hx,hxs⟩
  ·rintro ⟨rfl,hx,hxs⟩
   exact ⟨_,_,rfl,⟨rfl,hx⟩,(rdL_u8 Ψ xs _).2 ⟨rfl,hxs⟩⟩
theorem readsD (Ψ:Pr) (x:Ty.den DG) (vs:List Value):reads Ψ DG x vs ↔ vs = encD16 x ∧ okD16 x:=by
 show (List.length (α:=Int) x = 16 ∧ rdL (reads Ψ U8) x vs) ↔ _
 rw [rdL_u8]
 exact ⟨fun h=>⟨h.2.1,h.1,h.2.2⟩,fun h=>⟨h.2.1,h.1,h.2.2⟩⟩
theorem bytes_inj:∀ (x y:List Int),(∀ v ∈ x,IntKind.u8.has v) → (∀ v ∈ y,IntKind.u8.has v) → bytesOf x = bytesOf y → x = y
 | [],[],_,_,_=>rfl
 | [],_ :: _,_,_,h=>by cases h
 | _ :: _,[],_,_,h=>by cases h
 | a :: x,b :: y,h1,h2,h=>by
  injection h with e1 e2
  have ha:=has8 (h1 a List.mem_cons_self)
  have hb:=has8 (h2 b List.mem_cons_self)
  have e1:=congrArg UInt8.toNat e1
  rw [UInt8.toNat_ofNat',UInt8.toNat_ofNat'] at e1
  have:a = b:=by omega
  rw [this,bytes_inj x y (fun v hv=>h1 v (List.mem_cons_of_mem _ hv)) (fun v hv=>h2 v (List.mem_cons_of_mem _ hv)) e2]
theorem ltD_iff (x y:Dig):ltOf cfD x y = true ↔ compareBytes (bytesOf x.1) (bytesOf y.1) < 0:=by
 unfold ltOf cfD
 rw [decide_eq_true_eq]
theorem ltD_no (x y:Dig):ltOf cfD x y = false ↔ ¬ compareBytes (bytesOf x.1) (bytesOf y.1) < 0:=by
 unfold ltOf cfD
 rw [decide_eq_false_iff_not]
theorem swoD:SWO (ltOf cfD) where
 irrefl x:=(ltD_no x x).2 (by rw [cb_self]; decide)
 trans x y z h1 h2:=(ltD_iff x z).2 (cb_trans _ _ _ ((ltD_iff x y).1 h1) ((ltD_iff y z).1 h2))
 ntrans x y z h1 h2:=(ltD_no x z).2 (cb_ntrans _ _ _ ((ltD_no x y).1 h1) ((ltD_no y z).1 h2))
theorem totD (x y:Dig) (h1:ltOf cfD x y = false) (h2:ltOf cfD y x = false):x = y :=
 Subtype.ext (bytes_inj _ _ x.2.2 y.2.2 (cb_tot _ _ ((ltD_no x y).1 h1) ((ltD_no y x).1 h2)))
noncomputable def sortD (xs:List (List Int)):List (List Int):=sortSub (α:=Ty.den DG) okD16 cfD xs
theorem jYy (xs:List (List Int)):(sortD xs).Perm xs:=sortSub_perm (α:=Ty.den DG) okD16 cfD xs
noncomputable def sortDSp:SSpec:=⟨31,DG,37,fun xs=>sortD xs⟩
theorem satS_dig:SatS bs.P 36 sortDSp :=
 satS_sub Tryz.sortDig 31 DG okD16 encD16 readsD 16 (fun x hx=>by unfold encD16; rw [List.length_map]; exact hx.1) rfl (fun x hx v hv=>by
  unfold encD16 at hv
  obtain ⟨a,_,rfl⟩:=List.mem_map.1 hv
  rfl) Tryz.isAgg31 Tryz.sizeOf31 cfD swoD totD
  37 (enters_of Tryz.func37 (by kernel_rfl) rfl) (fun x y W=>KYtcnpblceamgfcaaGreatDoor.digests x.1 y.1 x.2.1 y.2.1 W)
end Go.Proofs.YtcnpblceamgfcaaGreatDoor
namespace Go.PL
open Go.AM
def filN (id:Int):List Ev → Int → Int
 | [],_=>-1
 | e :: l,k=>if e.1 = 1 ∧ e.2.2.2.1 = id then k else filN id l (k + 1)
def nonceE (e:Ev):List Int:=e.2.2.2.2.2.2.2.2.2.1
def vltD (l:List Ev) (r:Rw):List (List Int):=if filN r.1.1 l 0 < 0 then [] else [jJi (nonceE (l.getD (filN r.1.1 l 0).toNat dEv)) r.1]
def vltU (l:List Ev) (b:Bo):List (List Int):=(vltL b).flatMap (vltD l)
end Go.PL
namespace Go.Proofs.YtcnpblceamgfcaaGreatDoor
open Go.AM Go.PL
noncomputable def vaultSp:FSpec:=⟨[.arr EV,BO],[DL],fun x=>kQb x.2 ∧ rowsFew x.2,fun x=>sortD (vltU x.1 x.2)⟩
def loopsBw (f:FuncId) (r:Nat):List LA :=
 if Nat.beq f 12 then [.slot 18 I,.gslot 5 31 DG] else
 if Nat.beq f 34 then [.slot 8 I,.keep 0 31 DG,.kdat 1 RW] else
 []
def modeBw (f:FuncId) (r:Nat):AM.Mode:=bif Nat.beq f 12 && Nat.beq r 8 then .all else .split
def hintBw (f:FuncId):Hint:=if Nat.beq f 999999995 then ⟨fun _=>[],fun _=>.split,fun _=>.split,datW⟩ else ⟨loopsBw f,modeBw f,fun _=>.split,fun _=>0⟩
noncomputable def BW0:Ctx:=mkctxO bs [(10,splitSp),(16,kQp)] [] [(36,sortDSp)] [] [] [] hintBw
abbrev vault_nf_e0:List (List Int × Int × Int × List Int × Unit):=[]
abbrev vaultq0:=(z0,z0,z0,z0,z0,z0,z0,eI,vault_nf_e0,List.replicate y16 z0,())
theorem vault_nf (l:List Ev) (sc:Sc) (cm da:Int) (ds:List Int) (rs:List Rw):fnwp BW0 8 12 vaultSp (l,(sc,cm,da,ds,rs,())) = ((kQb (sc,cm,da,ds,rs,()) ∧
 rs.length ≤ (50000:Nat)) ∧ LP (z0,eL) fun I μ x=>SD (x.1 < (ln (vltL (sc,cm,da,ds,rs,())))) ((IR x.1 (vltL (sc,cm,da,ds,rs,()))) ∧ LP (z0,x.2,(vltL (sc,cm,da,
 ds,rs,())).getD x.1.toNat ((z0,z0,z0,z0,z0,z0,z0,eI,vault_nf_e0,()),z0,())) fun I_1 μ_1 x_1=>SD (x_1.1 < (ln l)) ((IR x_1.1 l) ∧ SD ((l.getD x_1.1.toNat
 vaultq0).1 = z1) (SD ((l.getD x_1.1.toNat vaultq0).2.2.2.1 = x_1.2.2.1.1) (SD (z0 ≤ x_1.1) ((IR x_1.1 l) ∧ fewE x_1.2.2.1 ∧ roomP BW0 y31 (x_1.2.1.length + [jJi (l.getD
 x_1.1.toNat vaultq0).2.2.2.2.2.2.2.2.2.1 x_1.2.2.1].length) ∧ isI64 (x.1 + z1) ∧ NX I μ x (x.1 + z1,x_1.2.1 ++ [jJi (l.getD x_1.1.toNat vaultq0).2.2.2.2.2.2.2.2.2.1
 x_1.2.2.1])) (isI64 (x.1 + z1) ∧ NX I μ x (x.1 + z1,x_1.2.1))) (isI64 (x_1.1 + z1) ∧ NX I_1 μ_1 x_1 (x_1.1 + z1,x_1.2))) (isI64 (x_1.1 + z1) ∧ NX I_1 μ_1 x_1 (x_1.1 + z1,
 x_1.2))) (SP false ((IR (-1:Int) l) ∧ fewE x_1.2.2.1 ∧ roomP BW0 y31 (x_1.2.1.length + [jJi (l.getD y0 vaultq0).2.2.2.2.2.2.2.2.2.1 x_1.2.2.1].length) ∧ isI64 (x.1 + z1) ∧
 NX I μ x (x.1 + z1,x_1.2.1 ++ [jJi (l.getD y0 vaultq0).2.2.2.2.2.2.2.2.2.1 x_1.2.2.1])) (isI64 (x.1 + z1) ∧ NX I μ x (x.1 + z1,x_1.2.1)))) ((ln x.2) ≤ (4611686018427387903
 : Int) ∧ sortD x.2 = sortD (vltU l (sc,cm,da,ds,rs,())))):=by kernel_rfl
end Go.Proofs.YtcnpblceamgfcaaGreatDoor
namespace Go.PL
open Go.AM
theorem filt_yes {p:Rw → Bool} {l:List Rw} {i:Int} (h0:0 ≤ i) (h:i < l.length) (hp:p (l.getD i.toNat dRw) = true):(l.take (i + 1).toNat).filter p = (l.take i.toNat).filter p ++ [l.getD i.toNat dRw]:=by
 rw [jXd (d:=dRw) h0 h,List.filter_append,List.filter_cons,if_pos hp]
 rfl
theorem filt_no {p:Rw → Bool} {l:List Rw} {i:Int} (h0:0 ≤ i) (h:i < l.length) (hp:p (l.getD i.toNat dRw) = false):(l.take (i + 1).toNat).filter p = (l.take i.toNat).filter p:=by
 rw [jXd (d:=dRw) h0 h,List.filter_append,List.filter_cons,if_neg (by rw [hp]; exact Bool.false_ne_true)]
 exact List.append_nil _
theorem filt_len {p:Rw → Bool} {l:List Rw} (n:Nat):((l.take n).filter p).length ≤ l.length:=by
 have:=List.length_filter_le p (l.take n)
 rw [List.length_take] at this
 omega
end Go.PL
namespace Go.Proofs.YtcnpblceamgfcaaGreatDoor
open Go.AM Go.PL
attribute [local irreducible] fnwp fnwpG fnwpO
theorem BU9_sound:jQa BU9:=jQd trivial trivial
theorem sat_dayOf:Sat bs.P 65 dayOfSp:=jQe BU9_sound 6 _ dayOfSp fun (⟨⟨sc,cm,da,ds,rs,⟨⟩⟩,c⟩:Bo × Int) hok hp=>by
 obtain ⟨h0,h1⟩:0 ≤ c ∧ c ≤ (ds.length:Int):=hp
 rw [dayOf_nf]; delta IR SD z0 z1
 have hm:ds.length ≤ 9223372036854775807:=hok.1.2.2.2.1.1
 exact ⟨fun h=>(if_pos (dt h)).symm,fun h=>⟨by have:=df h; unfold isI64; omega,by have:=df h; omega,(if_neg (df h)).symm⟩⟩
theorem BU0_sound:jQa BU0:=jQd ⟨sat_dayOf,trivial⟩ trivial
theorem sat_pub:Sat bs.P 32 pubSp:=jQe BU0_sound 6 _ pubSp fun (⟨⟨sc,cm,da,ds,rs,⟨⟩⟩,r⟩:Bo × Rw) hok hp=>by
 have hp:dayOk (sc,cm,da,ds,rs,()) r:=hp
 have hm:ds.length ≤ 9223372036854775807:=hok.1.2.2.2.1.1
 rw [pub_nf]; delta SD ln z0 z1
 unfold dayOk at hp
 unfold pubS
 by_cases h:0 < r.2.1
 ·have e:lastC (sc,cm,da,ds,rs,()) r = r.2.1 - 1:=if_pos h
  rw [e] at hp ⊢
  exact ⟨fun _=>⟨by have:=hp.2; have:((sc,cm,da,ds,rs,()):Bo).2.2.2.1.length = ds.length:=rfl; unfold isI64; omega,hp,rfl⟩,fun g=>absurd h (df g)⟩
 ·have e:lastC (sc,cm,da,ds,rs,()) r = cm:=if_neg h
  rw [e] at hp ⊢
  exact ⟨fun g=>absurd (dt g) h,fun _=>⟨hp,rfl⟩⟩
theorem BU1_sound:jQa BU1:=jQd ⟨sat_pub,trivial⟩ trivial
theorem sat_split:Sat bs.P 10 splitSp:=jQe BU1_sound 8 _ splitSp fun (⟨sc,cm,da,ds,rs,⟨⟩⟩:Bo) hok hp=>by
 obtain ⟨hd,hl⟩:kQb (sc,cm,da,ds,rs,()) ∧ rs.length ≤ 50000:=hp
 rw [split_nf]; delta jVt split_nf_e1 jK8 IR LP NX SD SP eI ln y58 z0 z1; dsimp only
 refine ⟨fun x=>0 ≤ x.1 ∧ x.1 ≤ rs.length ∧ x.2.1 = (rs.take x.1.toNat).filter (pubS (sc,cm,da,ds,rs,())) ∧ x.2.2 = (rs.take x.1.toNat).filter (fun r=>!pubS (sc,cm,da,ds,rs,()) r),fun x=>(rs.length - x.1).toNat,⟨by dsimp only; omega,by dsimp only; omega,rfl,rfl⟩,?_⟩
 rintro ⟨i,a,c⟩ ⟨h0,h1,h2,h3⟩
 dsimp only at h0 h1 h2 h3
 subst h2 h3
 dsimp only
 have l1:=filt_len (p:=pubS (sc,cm,da,ds,rs,())) (l:=rs) i.toNat
 have l2:=filt_len (p:=fun r=>!pubS (sc,cm,da,ds,rs,()) r) (l:=rs) i.toNat
 refine ⟨fun h=>?_,fun h=>?_⟩
 ·have h:=dt h
  have hi:isI64 (i + 1):=by unfold isI64; omega
  have b0:0 ≤ i + 1:=by omega
  have b1:i + 1 ≤ (rs.length:Int):=by omega
  have hmu:((rs.length:Int) - (i + 1)).toNat < ((rs.length:Int) - i).toNat:=by omega
  have hr:rs.getD i.toNat dRw ∈ rs:=jX5 (by omega)
  refine ⟨⟨h0,h⟩,hd _ hr,fun c=>?_,fun c=>?_⟩
  ·exact ⟨roomB 112 (by kernel_rfl) (by omega) (by rw [List.length_singleton]; omega),hi,⟨b0,b1,(filt_yes (p:=pubS (sc,cm,da,ds,rs,())) h0 h c).symm,(filt_no (p:=fun r=>!pubS (sc,cm,da,ds,rs,()) r) h0 h (by rw [show pubS (sc,cm,da,ds,rs,()) (rs.getD i.toNat dRw) = true from c]; rfl)).symm⟩,hmu⟩
  ·exact ⟨roomB 112 (by kernel_rfl) (by omega) (by rw [List.length_singleton]; omega),hi,⟨b0,b1,(filt_no (p:=pubS (sc,cm,da,ds,rs,())) h0 h c).symm,(filt_yes (p:=fun r=>!pubS (sc,cm,da,ds,rs,()) r) h0 h (by rw [show pubS (sc,cm,da,ds,rs,()) (rs.getD i.toNat dRw) = false from c]; rfl)).symm⟩,hmu⟩
 have h:=df h
 rw [List.take_of_length_le (by omega)] at l2 ⊢
 refine ⟨fun x=>0 ≤ x.1 ∧ x.1 ≤ (restL (sc,cm,da,ds,rs,())).length ∧ x.2.1 = ((restL (sc,cm,da,ds,rs,())).take x.1.toNat).filter jZo ∧ x.2.2 = ((restL (sc,cm,da,ds,rs,())).take x.1.toNat).filter (fun r=>!jZo r),fun x=>((restL (sc,cm,da,ds,rs,())).length - x.1).toNat,⟨by dsimp only; omega,by dsimp only; omega,rfl,rfl⟩,?_⟩
 have l2:(restL (sc,cm,da,ds,rs,())).length ≤ rs.length:=l2
 show ∀ x_1,_ → (decide (_ < ((restL (sc,cm,da,ds,rs,())).length:Int)) = true → _) ∧ (decide (_ < ((restL (sc,cm,da,ds,rs,())).length:Int)) = false → _)
 generalize hR:restL (sc,cm,da,ds,rs,()) = R at *
 rintro ⟨j,a,c⟩ ⟨g0,g1,g2,g3⟩
 dsimp only at g0 g1 g2 g3
 subst g2 g3
 dsimp only
 have m1:=filt_len (p:=jZo) (l:=R) j.toNat
 have m2:=filt_len (p:=fun r=>!jZo r) (l:=R) j.toNat
 have hR':rs.filter (fun r=>!pubS (sc,cm,da,ds,rs,()) r) = R:=hR
 rw [hR']
 refine ⟨fun h=>?_,fun h=>?_⟩
 ·have h:=dt h
  have hi:isI64 (j + 1):=by unfold isI64; omega
  have b0:0 ≤ j + 1:=by omega
  have b1:j + 1 ≤ (R.length:Int):=by omega
  have hmu:((R.length:Int) - (j + 1)).toNat < ((R.length:Int) - j).toNat:=by omega
  refine ⟨⟨g0,h⟩,fun c=>?_,fun c=>?_⟩
  ·exact ⟨roomB 112 (by kernel_rfl) (by omega) (by rw [List.length_singleton]; omega),hi,⟨b0,b1,(filt_yes (p:=jZo) g0 h c).symm,(filt_no (p:=fun r=>!jZo r) g0 h (by rw [show jZo (R.getD j.toNat dRw) = true from c]; rfl)).symm⟩,hmu⟩
  ·exact ⟨roomB 112 (by kernel_rfl) (by omega) (by rw [List.length_singleton]; omega),hi,⟨b0,b1,(filt_no (p:=jZo) g0 h c).symm,(filt_yes (p:=fun r=>!jZo r) g0 h (by rw [show jZo (R.getD j.toNat dRw) = false from c]; rfl)).symm⟩,hmu⟩
 ·have h:=df h
  rw [List.take_of_length_le (by omega)]
  show (pubL _,R.filter jZo) = _
  rw [← hR]
  rfl
end Go.Proofs.YtcnpblceamgfcaaGreatDoor
namespace Go.PL
open Go.AM
theorem list16 {l:List Int} (h:l.length = 16):[l.getD 0 0,l.getD 1 0,l.getD 2 0,l.getD 3 0,l.getD 4 0,l.getD 5 0,l.getD 6 0,l.getD 7 0,l.getD 8 0,l.getD 9 0,l.getD 10 0,l.getD 11 0,l.getD 12 0,l.getD 13 0,l.getD 14 0,l.getD 15 0] = l:=by
 have:=tabL_self l 0
 rw [h] at this
 exact this
end Go.PL
namespace Go.Proofs.YtcnpblceamgfcaaGreatDoor
open Go.AM Go.PL
attribute [local irreducible] fnwp fnwpG fnwpO hof
end Go.Proofs.YtcnpblceamgfcaaGreatDoor
namespace Go.PL
open Go.AM
theorem filN_step {id:Int} {l:List Ev} {k:Int} (h0:0 ≤ k) (h:k < l.length):filN id (l.drop k.toNat) k = if (l.getD k.toNat dEv).1 = 1 ∧ (l.getD k.toNat dEv).2.2.2.1 = id then k else filN id (l.drop (k + 1).toNat) (k + 1):=by
 rw [jJc (d:=dEv) h0 h]
 rfl
theorem filN_end {id:Int} {l:List Ev} {k:Int} (h:¬ k < l.length):filN id (l.drop k.toNat) k = -1:=by
 rw [List.drop_of_length_le (by omega)]
 rfl
theorem vltD_len (l:List Ev) (r:Rw):(vltD l r).length ≤ 1:=by
 unfold vltD
 split <;> simp
theorem vltU_len (l:List Ev):∀ V:List Rw,(V.flatMap (vltD l)).length ≤ V.length
 | []=>Nat.le_refl _
 | r :: V=>by
  rw [List.flatMap_cons,List.length_append,List.length_cons]
  have:=vltU_len l V
  have:=vltD_len l r
  omega
theorem flat_snoc {l:List Ev} {V:List Rw} {i:Int} (h0:0 ≤ i) (h:i < V.length):(V.take (i + 1).toNat).flatMap (vltD l) = (V.take i.toNat).flatMap (vltD l) ++ vltD l (V.getD i.toNat dRw):=by
 rw [jXd (d:=dRw) h0 h,List.flatMap_append,List.flatMap_cons,List.flatMap_nil,List.append_nil]
end Go.PL
namespace Go.Proofs.YtcnpblceamgfcaaGreatDoor
open Go.AM Go.PL
attribute [local irreducible] fnwp fnwpG fnwpO hof
theorem BW0_sound:jQa BW0:=jQ9 ⟨sat_split,sat_vblind,trivial⟩ trivial ⟨satS_dig,trivial⟩ trivial trivial trivial
theorem sat_vault:Sat bs.P 12 vaultSp:=jQe BW0_sound 8 _ vaultSp fun (⟨l,⟨sc,cm,da,ds,rs,⟨⟩⟩⟩:List Ev × Bo) hok hp=>by
 obtain ⟨hd,hfew,hl⟩:kQb (sc,cm,da,ds,rs,()) ∧ (∀ r ∈ rs,fewE (r:Rw).1) ∧ rs.length ≤ 50000:=hp
 have hm:l.length ≤ 9223372036854775807:=hok.1.1
 rw [vault_nf]; delta vault_nf_e0 vaultq0 IR LP NX SD SP eI eL ln y0 y16 y31 z0 z1; dsimp only
 have hVm:∀ r ∈ vltL (sc,cm,da,ds,rs,()),fewE r.1:=fun r hr=>hfew r (List.mem_filter.1 (List.mem_filter.1 hr).1).1
 have hVl:(vltL (sc,cm,da,ds,rs,())).length ≤ rs.length:=Nat.le_trans (List.length_filter_le _ _) (List.length_filter_le _ _)
 have hU:vltU l (sc,cm,da,ds,rs,()) = (vltL (sc,cm,da,ds,rs,())).flatMap (vltD l):=rfl
 rw [hU]
 generalize hV:vltL (sc,cm,da,ds,rs,()) = V at *
 refine ⟨⟨hd,hl⟩,fun x=>0 ≤ x.1 ∧ x.1 ≤ V.length ∧ x.2 = (V.take x.1.toNat).flatMap (vltD l),fun x=>(V.length - x.1).toNat,⟨by dsimp only; omega,by dsimp only; omega,rfl⟩,?_⟩
 rintro ⟨i,o⟩ ⟨h0,h1,h2⟩
 dsimp only at h0 h1 h2
 subst h2
 dsimp only
 have hol:((V.take i.toNat).flatMap (vltD l)).length ≤ rs.length:=by
  have:=vltU_len l (V.take i.toNat)
  rw [List.length_take] at this
  omega
 refine ⟨fun h=>?_,fun h=>?_⟩
 ·have h:=dt h
  have hi:isI64 (i + 1):=by unfold isI64; omega
  have hmu:((V.length:Int) - (i + 1)).toNat < ((V.length:Int) - i).toNat:=by omega
  have b0:0 ≤ i + 1:=by omega
  have b1:i + 1 ≤ (V.length:Int):=by omega
  have hs:=flat_snoc (l:=l) h0 h
  have hrf:=hVm _ (jX5 (d:=dRw) (show i.toNat < V.length by omega))
  refine ⟨⟨h0,h⟩,?_⟩
  generalize hr:V.getD i.toNat dRw = r at hs hrf
  have hr':V.getD i.toNat (((0:Int),(0:Int),(0:Int),(0:Int),(0:Int),(0:Int),(0:Int),[],[],()),(0:Int),()) = r:=hr
  rw [hr']
  generalize hO:(V.take i.toNat).flatMap (vltD l) = O at hs hol
  have room:∀ d:List Int,roomP BW0 31 (O.length + [d].length):=fun d=>roomB 16 (by kernel_rfl) (by omega) (by rw [List.length_singleton]; omega)
  refine ⟨fun x=>(0 ≤ x.1 ∧ x.1 ≤ l.length ∧ filN r.1.1 (l.drop x.1.toNat) x.1 = filN r.1.1 l 0) ∧ x.2 = (O,r),fun x=>(l.length - x.1).toNat,⟨⟨by dsimp only; omega,by dsimp only; omega,rfl⟩,rfl⟩,?_⟩
  rintro ⟨k,q⟩ ⟨⟨k0,k1,k2⟩,k3⟩
  dsimp only at k0 k1 k2 k3
  subst k3
  dsimp only
  refine ⟨fun g=>?_,fun g=>⟨fun z=>absurd z Bool.false_ne_true,fun _=>⟨hi,⟨b0,b1,?_⟩,hmu⟩⟩⟩
  ·have g:=dt g
   have hk:isI64 (k + 1):=jZv k0 g hm
   have hst:=filN_step (id:=r.1.1) k0 g
   rw [k2] at hst
   have mk:((l.length:Int) - (k + 1)).toNat < ((l.length:Int) - k).toNat:=by omega
   have n0:0 ≤ k + 1:=by omega
   have n1:k + 1 ≤ (l.length:Int):=by omega
   refine ⟨⟨k0,g⟩,fun c1=>⟨fun c2=>⟨fun _=>⟨⟨k0,g⟩,hrf,room _,hi,⟨b0,b1,?_⟩,hmu⟩,fun c3=>absurd k0 (df c3)⟩,fun c2=>⟨hk,⟨⟨n0,n1,?_⟩,rfl⟩,mk⟩⟩,fun c1=>⟨hk,⟨⟨n0,n1,?_⟩,rfl⟩,mk⟩⟩
   ·have hf:filN r.1.1 l 0 = k:=hst.trans (if_pos ⟨dt c1,dt c2⟩)
    have:vltD l r = [jJi (nonceE (l.getD k.toNat dEv)) r.1]:=by
     unfold vltD
     rw [hf,if_neg (by omega)]
    rw [hs,this]
    rfl
   ·exact (hst.trans (if_neg fun z=>df c2 z.2)).symm
   ·exact (hst.trans (if_neg fun z=>df c1 z.1)).symm
  ·have hf:filN r.1.1 l 0 = -1:=k2.symm.trans (filN_end (df g))
   have:vltD l r = []:=by
    unfold vltD
    rw [hf,if_pos (by omega)]
   rw [hs,this,List.append_nil]
 ·have h:=df h
  rw [List.take_of_length_le (by omega)] at hol ⊢
  exact ⟨by omega,rfl⟩
end Go.Proofs.YtcnpblceamgfcaaGreatDoor
namespace Go.PL
open Go.AM
theorem jKr {id cm:Int} {dy:Dys} {rs:List Rw} {i:Int} {added rows:List Rw} (h:L2 id cm dy rs i added rows) (hi:i < rs.length) (hn:¬ ((rs.getD i.toNat dRw).1.1 = id ∧ (rs.getD i.toNat dRw).2.1 = 0)):L2 id cm dy rs (i + 1) added rows:=l2_skip h hi (mv_not1 hn)
theorem l2_skip1 {id cm:Int} {dy:Dys} {rs:List Rw} {i:Int} {added rows:List Rw} (h:L2 id cm dy rs i added rows) (hi:i < rs.length) {a b:Int} (hab:dy (rs.getD i.toNat dRw).1 = (a,b)) (ha:a = fromR (rs.getD i.toNat dRw)) (hb:b = toR (rs.getD i.toNat dRw)):L2 id cm dy rs (i + 1) added rows :=
 l2_skip h hi (mv_not2 (by rw [hab]; exact ⟨ha,hb⟩))
theorem l2_die1 {id cm:Int} {dy:Dys} {rs:List Rw} {i:Int} {added rows:List Rw} (h:L2 id cm dy rs i added rows) (hi:i < rs.length) {a b:Int} (hab:dy (rs.getD i.toNat dRw).1 = (a,b)) (hid:(rs.getD i.toNat dRw).1.1 = id) (hd:(rs.getD i.toNat dRw).2.1 = 0)
 (hne:¬ (a = fromR (rs.getD i.toNat dRw) ∧ b = toR (rs.getD i.toNat dRw))) (hl:¬ a < b):L2 id cm dy rs (i + 1) added (rows.set i.toNat ((rows.getD i.toNat dRw).1,cm,(rows.getD i.toNat dRw).2.2)) :=
 l2_die h hi (mv_live hid hd (by rw [hab]; exact hne)) (by unfold ltB; rw [hab]; exact decide_eq_false hl)
theorem l2_add1 {id cm:Int} {dy:Dys} {rs:List Rw} {i:Int} {added rows:List Rw} (h:L2 id cm dy rs i added rows) (hi:i < rs.length) {a b:Int} (hab:dy (rs.getD i.toNat dRw).1 = (a,b)) (hid:(rs.getD i.toNat dRw).1.1 = id) (hd:(rs.getD i.toNat dRw).2.1 = 0)
 (hne:¬ (a = fromR (rs.getD i.toNat dRw) ∧ b = toR (rs.getD i.toNat dRw))) (hl:a < b):L2 id cm dy rs (i + 1) (added ++ [(redate (rs.getD i.toNat dRw).1 a b (rs.getD i.toNat dRw).1.2.1 cm,0,())]) (rows.set i.toNat ((rows.getD i.toNat dRw).1,cm,(rows.getD i.toNat dRw).2.2)):=by
 have:=l2_add h hi (mv_live hid hd (by rw [hab]; exact hne)) (by unfold ltB; rw [hab]; exact decide_eq_true hl)
 unfold addR at this
 rw [hab] at this
 exact this
theorem mk0 {b:Bo} {e:Ev} {dy:Dys} {rows c:List Rw} (hA:jQh b e = makeD b e dy []) (hr:rows = b.2.2.2.2.1.map (dieD e.2.2.2.1 e.2.1 dy)) (hc:c = numb (verF e.2.2.2.1 b.2.2.2.2.1 + 1) (jQl (addD e.2.2.2.1 e.2.1 dy b.2.2.2.2.1))):jQh b e = finD false 0 b e rows c:=by
 rw [hA]
 unfold makeD jX7
 rw [List.append_nil,← hr,← hc]
 exact (fin_no _ _ _ _ _ _).symm
theorem mk1 {b:Bo} {e:Ev} {dy:Dys} {rows c:List Rw} {m:En} (hA:jQh b e = makeD b e dy [(m,0,())]) (hr:rows = b.2.2.2.2.1.map (dieD e.2.2.2.1 e.2.1 dy)) (hc:c = numb (verF e.2.2.2.1 b.2.2.2.2.1 + 1) (jQl (addD e.2.2.2.1 e.2.1 dy b.2.2.2.2.1) ++ [(m,0,())])):jQh b e = finD true (entS b.1 (lastR c).1) b e rows c:=by
 rw [hA]
 unfold makeD jX7
 rw [← hr,← hc]
 rfl
theorem three1 {a b c:Bool} {E M:Prop} (hb:b = true → c = true → E) (m:M):(a = true → (b = true → (c = true → E) ∧ (c = false → M)) ∧ (b = false → M)) ∧ (a = false → M) :=
 ⟨fun _=>⟨fun h=>⟨hb h,fun _=>m⟩,fun _=>m⟩,fun _=>m⟩
end Go.PL
namespace Go.Proofs.YtcnpblceamgfcaaGreatDoor
open Go.AM Go.PL
def jXw:FSpec:=⟨[BO,EV],[BO,I],fun x=>okE x.1 (x.2:Ev).2.2.2.1,fun x=>((jQh x.1 x.2).1,(jQh x.1 x.2).2.1)⟩
def rowsBp (o a:Nat) (more:List LA):List LA:=[.cell (o + 1) 0 I,.gcell a 0 58 RW,.gcell o 6 58 RW,.gcell o 5 3 I,.cell o 0 I,.cell o 1 I,.cell o 2 (.arr DF),.cell o 3 I,.cell o 4 I] ++ more
def loopsBp (o a:Nat) (more:List LA) (f:FuncId) (r:Nat):List LA :=
 if Nat.beq f 147 then .slot 9 I :: rowsBp o a more else
 if Nat.beq f 64 then .slot 118 I :: rowsBp o a more else
 []
def modeBp (m7:AM.Mode) (f:FuncId) (r:Nat):AM.Mode :=
 bif Nat.beq f 64 && (Nat.beq r 1 || Nat.beq r 16) then .all else
 bif Nat.beq f 29 && Nat.beq r 9 then .all else
 bif Nat.beq f 59 && (Nat.beq r 1 || Nat.beq r 5) then .all else
 bif Nat.beq f 29 && Nat.beq r 4 then .yes else
 bif Nat.beq f 29 && Nat.beq r 7 then m7 else .split
def cmodeBp (m7:AM.Mode) (f:FuncId) (t:Nat):AM.Mode:=bif Nat.beq f 29 && Nat.beq t 74 then .force else bif Nat.beq f 29 && Nat.beq t 42 then .no else bif Nat.beq f 29 && Nat.beq t 60 then m7 else .split
def hintBp (o a:Nat) (more:List LA) (m7:AM.Mode) (f:FuncId):Hint:=if Nat.beq f 999999995 then ⟨fun _=>[],fun _=>.split,fun _=>.split,datN⟩ else ⟨loopsBp o a more f,modeBp m7 f,cmodeBp m7 f,fun _=>0⟩
noncomputable def ctxBp (b:Base) (h:FuncId → Hint):Ctx:=mkctxO b [(63,liveSp),(111,entSp)] [(108,cloneIG),(109,cloneRG)] [] [] [] [(105,sortO 110)] h
noncomputable def bs3:Base:=⟨Tryz.prog,tyB,fun t=>Nat.beq t 31 || Nat.beq t 56 || Nat.beq t 33 || Nat.beq t 58 || Nat.beq t 39 || Nat.beq t 101 || Nat.beq t 24 || Nat.beq t 111⟩
noncomputable def BP5:Ctx:=ctxBp bs (hintBp 8 11 [] .split)
noncomputable def BP3:Ctx:=ctxBp bs3 (hintBp 23 27 [.cell 17 0 I,.cell 25 0 I,.cell 28 0 I] .no)
noncomputable def BP2:Ctx:=ctxBp bs3 (hintBp 10 14 [.cell 4 0 I,.cell 12 0 I,.cell 15 0 I,.cell 3 0 I,.cell 3 1 I,.cell 3 2 I,.cell 3 3 I,.cell 3 4 I,.cell 3 5 I,.cell 3 6 I,.cell 3 7 L,.cell 3 8 AL] .no)
noncomputable def BP4:Ctx:=ctxBp bs (hintBp 25 28 [.cell 3 0 I] .no)
noncomputable def BP1:Ctx:=ctxBp bs2 (hintBp 11 14 [.cell 5 0 I,.cell 5 1 I,.cell 5 2 I,.cell 5 3 I,.cell 5 4 I,.cell 5 5 I,.cell 5 6 I,.cell 5 7 L,.cell 5 8 AL] .split)
noncomputable def BP0:Ctx:=ctxBp bs (hintBp 99 99 [] .yes)
def hintB6 (f:FuncId):Hint:=if Nat.beq f 999999995 then ⟨fun _=>[],fun _=>.split,fun _=>.split,datN⟩ else ⟨fun _=>[],fun _=>.split,fun t=>bif Nat.beq f 29 && Nat.beq t 42 then .yes else .split,fun _=>0⟩
noncomputable def BP6:Ctx:=ctxBp bs hintB6
end Go.Proofs.YtcnpblceamgfcaaGreatDoor
namespace Go.Proofs.YtcnpblceamgfcaaGreatDoor
open Go.AM Go.PL
abbrev ap1_nf_t3:Type:=Int × Int × List ((Int × Int × Int × Int × Int × Int × Int × List Int × List (List Int × Int × Int × List Int × Unit) × Unit) × Int × Unit) × List
 ((Int × Int × Int × Int × Int × Int × Int × List Int × List (List Int × Int × Int × List Int × Unit) × Unit) × Int × Unit) × List Int × Int × Int × List (List Int × Int × Int ×
 Int × List (List Int) × Unit) × Int × Int × Int × Int × Int × Int × Int × Int × Int × List Int × List (List Int × Int × Int × List Int × Unit)
abbrev ap1_nf_e0:List (List Int × Int × Int × List Int × Unit):=[]
abbrev ap1_nf_e1:List ((Int × Int × Int × Int × Int × Int × Int × List Int × List (List Int × Int × Int × List Int × Unit) × Unit) × Int × Unit):=[]
abbrev ap1q1 (sc:Sc) (cm da:Int) (ds:List Int) (rs:List Rw) (ec ed ei eo eu ef:Int) (ev:List Int) (ea:List At) (en:List Int):=((jQh (sc,cm,da,ds,rs,())
 (z1,ec,ed,ei,eo,eu,ef,ev,ea,en,())).1,(jQh (sc,cm,da,ds,rs,()) (z1,ec,ed,ei,eo,eu,ef,ev,ea,en,())).2.1)
abbrev ap1q2 (x:ap1_nf_t3):=((x.2.2.2.2.2.2.2.2.2.2.1,x.2.2.2.2.2.2.2.2.2.2.2.1,x.2.2.2.2.2.2.2.2.2.2.2.2.1,x.2.2.2.2.2.2.2.2.2.2.2.2.2.1,x.2.2.2.2.2.2.2.2.2.2.2.2.2.2.1,
 x.2.2.2.2.2.2.2.2.2.2.2.2.2.2.2.1,x.2.2.2.2.2.2.2.2.2.2.2.2.2.2.2.2.1,x.2.2.2.2.2.2.2.2.2.2.2.2.2.2.2.2.2.1,x.2.2.2.2.2.2.2.2.2.2.2.2.2.2.2.2.2.2,()),z0,())
abbrev ap1q3:=((z0,z0,z0,z0,z0,z0,z0,eI,ap1_nf_e0,()),z0,())
abbrev ap1q4 (sc:Sc) (cm da:Int) (ds:List Int) (rs:List Rw):=((sc.1,sc.2.1,sc.2.2.1,()),cm,da,ds,rs,())
abbrev ap1q0 (rs:List Rw) (ei:Int) (sc:Sc) (cm da:Int) (ds:List Int) (ec ed eo eu ef:Int) (ev:List Int) (ea:List At) (en:List Int):=(z0 ≤ z1 ∧ z1 < z6) ∧ LP
 z0 fun I μ x=>SD (x < (ln rs)) ((IR x rs) ∧ SD ((rs.getD x.toNat ap1q3).1.1 = ei) (((ap1q4 sc cm da ds rs),z6) = (ap1q1 sc cm da ds rs ec ed ei eo eu ef ev ea en)) (isI64 (x
 + z1) ∧ NX I μ x (x + z1))) (ds.length ≤ (1000000:Nat) ∧ roomP BP1 y3 (ds.length + [ed].length) ∧ rs.length ≤ (1000000:Nat) ∧ LP (z0,z0,rs,ds ++ [ed],sc.1,sc.2.1,
 sc.2.2.1,ec,ed,ei,z0,eo,ed,eu,(1048577:Int),ec,ev,ea) fun I μ x=>SD (x.1 < (ln rs)) ((IR x.1 rs) ∧ SD ((rs.getD x.1.toNat ap1q3).1.1 = ei) (isI64 (x.1 + z1) ∧ NX
 I μ x (x.1 + z1,max x.2.1 (rs.getD x.1.toNat ap1q3).1.2.1,x.2.2)) (isI64 (x.1 + z1) ∧ NX I μ x (x.1 + z1,x.2))) (LP (z0,x.2.1,ap1_nf_e1,x.2.2) fun I μ x=>SD (x.1 < (ln
 rs)) ((IR x.1 rs) ∧ SD ((rs.getD x.1.toNat ap1q3).1.1 = ei) (SP (!decide ((rs.getD x.1.toNat ap1q3).2.1 = z0)) (isI64 (x.1 + z1) ∧ NX I μ x (x.1 + z1,x.2)) (isI64 (x.1 + z1) ∧
 NX I μ x (x.1 + z1,x.2))) (isI64 (x.1 + z1) ∧ NX I μ x (x.1 + z1,x.2))) ((x.2.2.1.length ≤ y19 ∧ (110:Nat) = (110:Nat)) ∧ roomP BP1 y58 ((jQl x.2.2.1).length + [(ap1q2
 x)].length) ∧ LP (z0,x.2.1,jQl x.2.2.1 ++ [(ap1q2 x)],x.2.2.2) fun I μ x_1=>SD (x_1.1 < (ln (jQl x.2.2.1 ++ [(ap1q2 x)]))) (isI64 (x_1.2.1 + z1) ∧ isI64 (x_1.2.1 + z1
 + x_1.1) ∧ (IR x_1.1 x_1.2.2.1) ∧ isI64 (x_1.1 + z1) ∧ NX I μ x_1 (x_1.1 + z1,x_1.2.1,x_1.2.2.1.set x_1.1.toNat (((x_1.2.2.1.getD x_1.1.toNat ap1q3).1.1,x_1.2.1 + z1 + x_1.1,
 (x_1.2.2.1.getD x_1.1.toNat ap1q3).1.2.2),(x_1.2.2.1.getD x_1.1.toNat ap1q3).2),x_1.2.2.2)) (isI64 ((ln x_1.2.2.1) - z1) ∧ (IR ((ln x_1.2.2.1) - z1) x_1.2.2.1) ∧ jQ6 sc ∧
 SP (!decide (entS sc (x_1.2.2.1.getD ((ln x_1.2.2.1) - z1).toNat ap1q3).1 = z0)) (((ap1q4 sc cm da ds rs),entS sc (x_1.2.2.1.getD ((ln x_1.2.2.1) - z1).toNat ap1q3).1) = (ap1q1
 sc cm da ds rs ec ed ei eo eu ef ev ea en)) (isI64 ((ln x_1.2.2.2.1) + (ln x_1.2.2.1)) ∧ SD ((65536:Int) < (ln x_1.2.2.2.1) + (ln x_1.2.2.1)) (((ap1q4 sc cm da ds rs),z2) =
 (ap1q1 sc cm da ds rs ec ed ei eo eu ef ev ea en)) (roomP BP1 y58 (x_1.2.2.2.1.length + x_1.2.2.1.length) ∧ (((x_1.2.2.2.2.2.1,x_1.2.2.2.2.2.2.1,x_1.2.2.2.2.2.2.2.1,()),
 x_1.2.2.2.2.2.2.2.2.1,x_1.2.2.2.2.2.2.2.2.2.1,x_1.2.2.2.2.1,x_1.2.2.2.1 ++ x_1.2.2.1,()),z0) = (ap1q1 sc cm da ds rs ec ed ei eo eu ef ev ea en)))))))
theorem ap1_nf (sc:Sc) (cm da:Int) (ds:List Int) (rs:List Rw) (ec ed ei eo eu ef:Int) (ev:List Int) (ea:List At) (en:List Int):fnwp BP1 8 29 jXw ((sc,cm,
 da,ds,rs,()),((1:Int),ec,ed,ei,eo,eu,ef,ev,ea,en,())) = (isI64 (cm + z1) ∧ SP (!decide (ec = cm + z1)) (((ap1q4 sc cm da ds rs),z9) = (ap1q1 sc cm da ds rs ec
 ed ei eo eu ef ev ea en)) (SD ((1073741824:Int) < ec) (((ap1q4 sc cm da ds rs),z9) = (ap1q1 sc cm da ds rs ec ed ei eo eu ef ev ea en)) (SD (ed < da) (((ap1q4 sc cm da ds
 rs),z9) = (ap1q1 sc cm da ds rs ec ed ei eo eu ef ev ea en)) (SD ((1048576:Int) < ed) (((ap1q4 sc cm da ds rs),z9) = (ap1q1 sc cm da ds rs ec ed ei eo eu ef ev ea en))
 (decide (z1 < z1) = false ∧ decide (z6 ≤ z1) = false ∧ (liveF ei rs).length ≤ y19 ∧ SD ((ln (liveS (sc,cm,da,ds,rs,()) ei)) = z0) (SP (!decide (z1 = z1)) (SP (!decide (z1 =
 z5)) (((ap1q4 sc cm da ds rs),z5) = (ap1q1 sc cm da ds rs ec ed ei eo eu ef ev ea en)) (ap1q0 rs ei sc cm da ds ec ed eo eu ef ev ea en)) (ap1q0 rs ei sc cm da ds ec ed eo eu
 ef ev ea en)) (ap1q0 rs ei sc cm da ds ec ed eo eu ef ev ea en)))))):=by kernel_rfl
end Go.Proofs.YtcnpblceamgfcaaGreatDoor
namespace Go.Proofs.YtcnpblceamgfcaaGreatDoor
open Go.AM Go.PL
attribute [local irreducible] fnwp fnwpG fnwpO
theorem BP1_sound:jQa BP1:=jQ9 ⟨kQu,sat_ent,trivial⟩ ⟨jKf,jKe,trivial⟩ trivial trivial trivial ⟨jKg,trivial⟩
theorem ap1_ok (sc:Sc) (cm da:Int) (ds:List Int) (rs:List Rw) (ec ed ei eo eu ef:Int) (ev:List Int) (ea:List At) (en:List Int) (hn:jQ6 sc) (hrs:rs.length ≤ 50000) (hds:ds.length ≤ 50000) (hv:verF ei rs ≤ 1000000) (hlv:(liveF ei rs).length ≤ 19) (hc0:0 ≤ cm) (hc1:cm ≤ 1000000):fnwp BP1 8 29 jXw ((sc,cm,da,ds,rs,()),((1:Int),ec,ed,ei,eo,eu,ef,ev,ea,en,())):=by
 rw [ap1_nf]; delta ap1_nf_t3 ap1_nf_e0 ap1_nf_e1 ap1q1 ap1q2 ap1q3 ap1q4 ap1q0 IR LP NX SD SP eI ln y19 y3 y58 z0 z1 z2 z5 z6 z9; dsimp only
 have hL:(liveS (sc,cm,da,ds,rs,()) ei).length ≤ 19:=by unfold liveS; rw [jZa]; exact hlv
 have hv0:=verF_nn ei rs
 have hi0:isI64 (cm + 1):=by unfold isI64; omega
 refine ⟨hi0,fun c1=>jQk (jQ2 (.inl (ndt c1))),fun c1=>⟨fun c2=>jQk (jQ2 (.inr (.inl (dt c2)))),fun c2=>⟨fun c3=>jQk (jQ2 (.inr (.inr (.inl (dt c3))))),fun c3=>⟨fun c4=>jQk (jQ2 (.inr (.inr (.inr (dt c4))))),fun c4=>?_⟩⟩⟩⟩
 have hT:¬ badT ((sc,cm,da,ds,rs,()):Bo) (((1:Int),ec,ed,ei,eo,eu,ef,ev,ea,en,()):Ev):=by
  rintro (g | g | g | g)
  ·exact g (ndf c1)
  ·exact df c2 g
  ·exact df c3 g
  ·exact df c4 g
 have hr8:∀ {C:Ctx},C.P = Tryz.prog → roomP C 3 (ds.length + [ed].length):=fun {C} hC=>roomB 8 (by rw [hC]; kernel_rfl) (by omega) (by rw [List.length_singleton]; omega)
 have hd6:ds.length ≤ 1000000:=by omega
 have hr6:rs.length ≤ 1000000:=by omega
 refine ⟨by decide,by decide,hlv,three1 (fun q _=>absurd q (by decide)) ?_⟩
 refine ⟨⟨by decide,by decide⟩,fun x=>0 ≤ x ∧ x ≤ rs.length ∧ hasF ei (rs.take x.toNat) = false,fun x=>(rs.length - x).toNat,⟨by omega,by omega,rfl⟩,?_⟩
 rintro y ⟨y0,y1,y2⟩
 have yn:∀ h:y < (rs.length:Int),hasF ei (rs.take (y + 1).toNat) = decide ((rs.getD y.toNat dRw).1.1 = ei):=fun h=>by
  rw [jXd (d:=dRw) y0 h,hasF_snoc,y2,Bool.false_or]
 refine ⟨fun h=>⟨⟨y0,dt h⟩,fun c=>jQk (ap_1a hT rfl ?_),fun c=>⟨by have:=dt h; unfold isI64; omega,⟨by omega,by have:=dt h; omega,by rw [yn (dt h)]; exact c⟩,by have:=dt h; dsimp only; omega⟩⟩,fun h=>?_⟩
 ·have hx:hasF ei (rs.take (y + 1).toNat) = true:=(yn (dt h)).trans c
  obtain ⟨r,hr,hr2⟩:=List.any_eq_true.1 hx
  exact List.any_eq_true.2 ⟨r,List.mem_of_mem_take hr,hr2⟩
 have h:=df h
 rw [List.take_of_length_le (by omega)] at y2
 have hA:jQh ((sc,cm,da,ds,rs,()):Bo) (((1:Int),ec,ed,ei,eo,eu,ef,ev,ea,en,()):Ev) = makeD _ _ idDy [(((ei,0,eo,ed,eu,1048577,ec,ev,ea,()):En),0,())]:=ap_1b hT rfl y2
 refine ⟨hd6,hr8 rfl,hr6,fun x=>0 ≤ x.1 ∧ x.1 ≤ rs.length ∧ x.2.1 = verF ei (rs.take x.1.toNat) ∧ x.2.2 = (rs,ds ++ [ed],sc.1,sc.2.1,sc.2.2.1,ec,ed,ei,0,eo,ed,eu,1048577,ec,ev,ea),fun x=>(rs.length - x.1).toNat,⟨by dsimp only; omega,by dsimp only; omega,rfl,rfl⟩,?_⟩
 rintro ⟨i,v,kk⟩ ⟨h0,h1,h2,h3⟩
 dsimp only at h0 h1 h2 h3
 subst h3
 subst h2
 dsimp only
 refine ⟨fun h=>?_,fun h=>?_⟩
 ·have h:=dt h
  have hi:isI64 (i + 1):=by unfold isI64; omega
  have hmu:((rs.length:Int) - (i + 1)).toNat < ((rs.length:Int) - i).toNat:=by omega
  have hs:=jYw ei (rs.take i.toNat) (rs.getD i.toNat dRw)
  rw [← jXd (d:=dRw) h0 h] at hs
  have b0:0 ≤ i + 1:=by omega
  have b1:i + 1 ≤ (rs.length:Int):=by omega
  exact ⟨⟨h0,h⟩,fun c=>⟨hi,⟨b0,b1,(hs.trans (if_pos (dt c))).symm,rfl⟩,hmu⟩,fun c=>⟨hi,⟨b0,b1,(hs.trans (if_neg (df c))).symm,rfl⟩,hmu⟩⟩
 have h:=df h
 rw [List.take_of_length_le (by omega)]
 refine ⟨fun x=>L2 ei ec idDy rs x.1 x.2.2.1 x.2.2.2.1 ∧ x.2.1 = verF ei rs ∧ x.2.2.2.2 = (ds ++ [ed],sc.1,sc.2.1,sc.2.2.1,ec,ed,ei,0,eo,ed,eu,1048577,ec,ev,ea),fun x=>(rs.length - x.1).toNat,⟨l2_zero _ _ _ _,rfl,rfl⟩,?_⟩
 rintro ⟨i,v,ad,rw2,kk⟩ ⟨hI,h2,h3⟩
 dsimp only at hI h2 h3
 subst h3
 subst h2
 dsimp only
 have h0:=hI.1
 have h1:=hI.2.1
 have hsm:=l2_small hI
 have hln:=l2_len hI
 refine ⟨fun h=>?_,fun h=>?_⟩
 ·have h:=dt h
  have hi:isI64 (i + 1):=by unfold isI64; omega
  have hmu:((rs.length:Int) - (i + 1)).toNat < ((rs.length:Int) - i).toNat:=by omega
  exact ⟨⟨h0,h⟩,fun c=>⟨fun d=>⟨hi,⟨jKr hI h (fun g=>ndt d g.2),rfl,rfl⟩,hmu⟩,fun d=>⟨hi,⟨l2_skip1 hI h rfl rfl rfl,rfl,rfl⟩,hmu⟩⟩,fun c=>⟨hi,⟨jKr hI h (fun g=>df c g.1),rfl,rfl⟩,hmu⟩⟩
 have h:=df h
 obtain ⟨e1,e2⟩:=l2_end hI h
 have hal:(jQl ad).length ≤ 19:=by rw [jZa]; omega
 have hAl:(jQl ad ++ [(((ei,0,eo,ed,eu,1048577,ec,ev,ea,()):En),0,())]).length ≤ 20:=by rw [List.length_append,List.length_singleton]; omega
 refine ⟨⟨by omega,rfl⟩,roomB 112 (by kernel_rfl) (by omega) (by rw [List.length_singleton]; omega),fun x=>L3 (verF ei rs) (jQl ad ++ [(((ei,0,eo,ed,eu,1048577,ec,ev,ea,()):En),0,())]) x.1 x.2.2.1 ∧ x.2.1 = verF ei rs ∧ x.2.2.2 = (rw2,ds ++ [ed],sc.1,sc.2.1,sc.2.2.1,ec,ed,ei,0,eo,ed,eu,1048577,ec,ev,ea),fun x=>((jQl ad ++ [(((ei,0,eo,ed,eu,1048577,ec,ev,ea,()):En),0,())]).length - x.1).toNat,⟨l3_zero _ _,rfl,rfl⟩,?_⟩
 rintro ⟨j,v,c,kk⟩ ⟨g1,h2,h3⟩
 dsimp only at g1 h2 h3
 subst h3
 subst h2
 dsimp only
 have j0:=g1.1
 have hcl:=l3_len g1
 refine ⟨fun h=>?_,fun h=>?_⟩
 ·have h:j < (((jQl ad ++ [(((ei,0,eo,ed,eu,1048577,ec,ev,ea,()):En),0,())]).length:Nat):Int):=dt h
  exact ⟨by unfold isI64; omega,by unfold isI64; omega,⟨j0,by omega⟩,by unfold isI64; omega,⟨l3_step g1 h,rfl,rfl⟩,by omega⟩
 have h:¬ j < (((jQl ad ++ [(((ei,0,eo,ed,eu,1048577,ec,ev,ea,()):En),0,())]).length:Nat):Int):=df h
 have hc:=l3_end g1 h
 rw [e1] at hc
 have hsum:isI64 ((rw2.length:Int) + (c.length:Int)):=by unfold isI64; omega
 have hroom:roomP BP1 58 (rw2.length + c.length):=roomB 112 (by kernel_rfl) (by omega) (by omega)
 have hM:=mk1 hA e2 hc
 have hcp:0 < c.length:=by rw [hcl,List.length_append,List.length_singleton]; omega
 have hlast:c.getD ((c.length:Int) - 1).toNat dRw = lastR c:=by
  unfold lastR
  rw [show ((c.length:Int) - 1).toNat = c.length - 1 by omega]
 have hlast:c.getD ((c.length:Int) - 1).toNat (((0:Int),(0:Int),(0:Int),(0:Int),(0:Int),(0:Int),(0:Int),[],[],()),(0:Int),()) = lastR c:=hlast
 rw [hlast]
 refine ⟨by unfold isI64; omega,by omega,hn,fun y=>jQk (hM.trans (fin_err rfl (ndt y))),fun y=>?_⟩
 have hno:¬ (true = true ∧ entS sc (lastR c).1 ≠ 0):=fun g=>g.2 (ndf y)
 exact ⟨hsum,fun z=>jQk (hM.trans (fin_lim hno (dt z))),fun z=>⟨hroom,jQk (hM.trans (fin_fine hno (df z)))⟩⟩
end Go.Proofs.YtcnpblceamgfcaaGreatDoor
namespace Go.Proofs.YtcnpblceamgfcaaGreatDoor
open Go.AM Go.PL
abbrev ap2_nf_t1:Type:=Int × Int × List ((Int × Int × Int × Int × Int × Int × Int × List Int × List (List Int × Int × Int × List Int × Unit) × Unit) × Int × Unit) × List
 ((Int × Int × Int × Int × Int × Int × Int × List Int × List (List Int × Int × Int × List Int × Unit) × Unit) × Int × Unit) × List Int × Int × Int × List (List Int × Int × Int ×
 Int × List (List Int) × Unit) × Int × Int × Int × Int × Int × Int × Int × Int × Int × Int × Int × Int × List Int × List (List Int × Int × Int × List Int × Unit)
abbrev ap2_nf_t2:Type:=Int × Int × List ((Int × Int × Int × Int × Int × Int × Int × List Int × List (List Int × Int × Int × List Int × Unit) × Unit) × Int × Unit) × List
 ((Int × Int × Int × Int × Int × Int × Int × List Int × List (List Int × Int × Int × List Int × Unit) × Unit) × Int × Unit) × List Int × Int × Int × List (List Int × Int × Int ×
 Int × List (List Int) × Unit) × Int × Int × Int × Int × Int × Int × Int × Int × Int × Int × Int × Int × List Int × List (List Int × Int × Int × List Int × Unit) → Prop
abbrev ap2_nf_t3:Type:=Int × Int × List ((Int × Int × Int × Int × Int × Int × Int × List Int × List (List Int × Int × Int × List Int × Unit) × Unit) × Int × Unit) × List
 ((Int × Int × Int × Int × Int × Int × Int × List Int × List (List Int × Int × Int × List Int × Unit) × Unit) × Int × Unit) × List Int × Int × Int × List (List Int × Int × Int ×
 Int × List (List Int) × Unit) × Int × Int × Int × Int × Int × Int × Int × Int × Int × Int × Int × Int × List Int × List (List Int × Int × Int × List Int × Unit) → Nat
abbrev ap2_nf_e0:List (List Int × Int × Int × List Int × Unit):=[]
abbrev ap2_nf_e1:List ((Int × Int × Int × Int × Int × Int × Int × List Int × List (List Int × Int × Int × List Int × Unit) × Unit) × Int × Unit):=[]
abbrev ap2q0:=((z0,z0,z0,z0,z0,z0,z0,eI,ap2_nf_e0,()),z0,())
abbrev ap2q5 (rs:List Rw) (x:ap2_nf_t1):=rs.getD x.1.toNat ap2q0
abbrev ap2q4 (rs:List Rw) (x:ap2_nf_t1) (ec:Int):=(((ap2q5 rs x).1.1,(ap2q5 rs x).1.2.1,(ap2q5 rs x).1.2.2.1,(ap2q5 rs x).1.2.2.2.1,(ap2q5 rs x).1.2.2.2.2.1,min
 (ap2q5 rs x).1.2.2.2.2.2.1 (max x.2.2.2.2.2.2.2.2.2.2.1 (ap2q5 rs x).1.2.2.2.2.1),ec,(ap2q5 rs x).1.2.2.2.2.2.2.2.1,(ap2q5 rs x).1.2.2.2.2.2.2.2.2.1,()),z0,())
abbrev ap2q1 (x:ap2_nf_t1) (rs:List Rw) (ec:Int) (I:ap2_nf_t2) (μ:ap2_nf_t3):=(IR x.1 x.2.2.2.1) ∧ SD ((ap2q5 rs x).1.2.2.2.2.1 < min (ap2q5 rs x).1.2.2.2.2.2.1 (max
 x.2.2.2.2.2.2.2.2.2.2.1 (ap2q5 rs x).1.2.2.2.2.1)) (roomP BP2 y58 (x.2.2.1.length + [(ap2q4 rs x ec)].length) ∧ isI64 (x.1 + z1) ∧ NX I μ x (x.1 + z1,x.2.1,x.2.2.1 ++ [(ap2q4
 rs x ec)],x.2.2.2.1.set x.1.toNat ((x.2.2.2.1.getD x.1.toNat ap2q0).1,ec,(x.2.2.2.1.getD x.1.toNat ap2q0).2.2),x.2.2.2.2)) (isI64 (x.1 + z1) ∧ NX I μ x (x.1 + z1,x.2.1,
 x.2.2.1,x.2.2.2.1.set x.1.toNat ((x.2.2.2.1.getD x.1.toNat ap2q0).1,ec,(x.2.2.2.1.getD x.1.toNat ap2q0).2.2),x.2.2.2.2))
abbrev ap2q2 (sc:Sc) (cm da:Int) (ds:List Int) (rs:List Rw) (ec ed ei eo eu ef:Int) (ev:List Int) (ea:List At) (en:List Int):=((jQh (sc,cm,da,ds,rs,())
 (z2,ec,ed,ei,eo,eu,ef,ev,ea,en,())).1,(jQh (sc,cm,da,ds,rs,()) (z2,ec,ed,ei,eo,eu,ef,ev,ea,en,())).2.1)
abbrev ap2q3 (x:ap2_nf_t1):=((x.2.2.2.2.2.2.2.2.2.2.2.2.2.1,x.2.2.2.2.2.2.2.2.2.2.2.2.2.2.1,x.2.2.2.2.2.2.2.2.2.2.2.2.2.2.2.1,x.2.2.2.2.2.2.2.2.2.2.2.2.2.2.2.2.1,
 x.2.2.2.2.2.2.2.2.2.2.2.2.2.2.2.2.2.1,x.2.2.2.2.2.2.2.2.2.2.2.2.2.2.2.2.2.2.1,x.2.2.2.2.2.2.2.2.2.2.2.2.2.2.2.2.2.2.2.1,x.2.2.2.2.2.2.2.2.2.2.2.2.2.2.2.2.2.2.2.2.1,
 x.2.2.2.2.2.2.2.2.2.2.2.2.2.2.2.2.2.2.2.2.2,()),z0,())
abbrev ap2q6 (sc:Sc) (cm da:Int) (ds:List Int) (rs:List Rw):=((sc.1,sc.2.1,sc.2.2.1,()),cm,da,ds,rs,())
abbrev ap2q7 (sc:Sc) (cm da:Int) (ds:List Int) (rs:List Rw) (ei:Int):=(liveS (sc,cm,da,ds,rs,()) ei).getD y0 ap2q0
theorem ap2_nf (sc:Sc) (cm da:Int) (ds:List Int) (rs:List Rw) (ec ed ei eo eu ef:Int) (ev:List Int) (ea:List At) (en:List Int):fnwp BP2 8 29 jXw ((sc,cm,
 da,ds,rs,()),((2:Int),ec,ed,ei,eo,eu,ef,ev,ea,en,())) = (isI64 (cm + z1) ∧ SP (!decide (ec = cm + z1)) (((ap2q6 sc cm da ds rs),z9) = (ap2q2 sc cm da ds rs ec
 ed ei eo eu ef ev ea en)) (SD ((1073741824:Int) < ec) (((ap2q6 sc cm da ds rs),z9) = (ap2q2 sc cm da ds rs ec ed ei eo eu ef ev ea en)) (SD (ed < da) (((ap2q6 sc cm da ds
 rs),z9) = (ap2q2 sc cm da ds rs ec ed ei eo eu ef ev ea en)) (SD ((1048576:Int) < ed) (((ap2q6 sc cm da ds rs),z9) = (ap2q2 sc cm da ds rs ec ed ei eo eu ef ev ea en))
 (decide (z2 < z1) = false ∧ decide (z6 ≤ z2) = false ∧ (liveF ei rs).length ≤ y19 ∧ decide ((ln (liveS (sc,cm,da,ds,rs,()) ei)) = z0) = false ∧ (z0 ≤ z2 ∧ z2 < z6) ∧ (IR z0
 (liveS (sc,cm,da,ds,rs,()) ei)) ∧ isI64 ((ln (liveS (sc,cm,da,ds,rs,()) ei)) - z1) ∧ (IR ((ln (liveS (sc,cm,da,ds,rs,()) ei)) - z1) (liveS (sc,cm,da,ds,rs,
 ()) ei)) ∧ SD (ef < z0) (((ap2q6 sc cm da ds rs),z9) = (ap2q2 sc cm da ds rs ec ed ei eo eu ef ev ea en)) (SD (((liveS (sc,cm,da,ds,rs,()) ei).getD ((ln (liveS (sc,cm,
 da,ds,rs,()) ei)) - z1).toNat ap2q0).1.2.2.2.2.2.1 ≤ max ef (ap2q7 sc cm da ds rs ei).1.2.2.2.2.1) (((ap2q6 sc cm da ds rs),z9) = (ap2q2 sc cm da ds rs ec ed ei eo eu ef ev
 ea en)) (ds.length ≤ (1000000:Nat) ∧ roomP BP2 y3 (ds.length + [ed].length) ∧ rs.length ≤ (1000000:Nat) ∧ LP (z0,z0,rs,ds ++ [ed],sc.1,sc.2.1,sc.2.2.1,ec,ed,max ef
 (ap2q7 sc cm da ds rs ei).1.2.2.2.2.1,ei,(ap2q7 sc cm da ds rs ei).1.1,(ap2q7 sc cm da ds rs ei).1.2.1,(ap2q7 sc cm da ds rs ei).1.2.2.1,(ap2q7 sc cm da ds rs
 ei).1.2.2.2.1,max ef (ap2q7 sc cm da ds rs ei).1.2.2.2.2.1,((liveS (sc,cm,da,ds,rs,()) ei).getD ((ln (liveS (sc,cm,da,ds,rs,()) ei)) - z1).toNat
 ap2q0).1.2.2.2.2.2.1,ec,ev,ea) fun I μ x=>SD (x.1 < (ln rs)) ((IR x.1 rs) ∧ SD ((rs.getD x.1.toNat ap2q0).1.1 = x.2.2.2.2.2.2.2.2.2.2.1) (isI64 (x.1 + z1) ∧ NX I μ x (x.1 +
 z1,max x.2.1 (rs.getD x.1.toNat ap2q0).1.2.1,x.2.2)) (isI64 (x.1 + z1) ∧ NX I μ x (x.1 + z1,x.2))) (LP (z0,x.2.1,ap2_nf_e1,x.2.2.1,x.2.2.2.1,x.2.2.2.2.1,x.2.2.2.2.2.1,
 x.2.2.2.2.2.2.1,x.2.2.2.2.2.2.2.1,x.2.2.2.2.2.2.2.2.1,x.2.2.2.2.2.2.2.2.2.1,x.2.2.2.2.2.2.2.2.2.2.1,ei,x.2.2.2.2.2.2.2.2.2.2.2) fun I μ x=>SD (x.1 < (ln rs)) ((IR x.1
 rs) ∧ SD ((ap2q5 rs x).1.1 = x.2.2.2.2.2.2.2.2.2.2.2.2.1) (SP (!decide ((ap2q5 rs x).2.1 = z0)) (isI64 (x.1 + z1) ∧ NX I μ x (x.1 + z1,x.2)) (SD ((ap2q5 rs x).1.2.2.2.2.1 =
 (ap2q5 rs x).1.2.2.2.2.1) (SD (min (ap2q5 rs x).1.2.2.2.2.2.1 (max x.2.2.2.2.2.2.2.2.2.2.1 (ap2q5 rs x).1.2.2.2.2.1) = (ap2q5 rs x).1.2.2.2.2.2.1) (isI64 (x.1 + z1) ∧ NX I μ x
 (x.1 + z1,x.2)) (ap2q1 x rs ec I μ)) (ap2q1 x rs ec I μ))) (isI64 (x.1 + z1) ∧ NX I μ x (x.1 + z1,x.2))) ((x.2.2.1.length ≤ y19 ∧ (110:Nat) = (110:Nat)) ∧ roomP BP2 y58
 ((jQl x.2.2.1).length + [(ap2q3 x)].length) ∧ LP (z0,x.2.1,jQl x.2.2.1 ++ [(ap2q3 x)],x.2.2.2) fun I μ x_1=>SD (x_1.1 < (ln (jQl x.2.2.1 ++ [(ap2q3 x)]))) (isI64
 (x_1.2.1 + z1) ∧ isI64 (x_1.2.1 + z1 + x_1.1) ∧ (IR x_1.1 x_1.2.2.1) ∧ isI64 (x_1.1 + z1) ∧ NX I μ x_1 (x_1.1 + z1,x_1.2.1,x_1.2.2.1.set x_1.1.toNat (((x_1.2.2.1.getD
 x_1.1.toNat ap2q0).1.1,x_1.2.1 + z1 + x_1.1,(x_1.2.2.1.getD x_1.1.toNat ap2q0).1.2.2),(x_1.2.2.1.getD x_1.1.toNat ap2q0).2),x_1.2.2.2)) (isI64 ((ln x_1.2.2.1) - z1) ∧ (IR
 ((ln x_1.2.2.1) - z1) x_1.2.2.1) ∧ jQ6 sc ∧ SP (!decide (entS sc (x_1.2.2.1.getD ((ln x_1.2.2.1) - z1).toNat ap2q0).1 = z0)) (((ap2q6 sc cm da ds rs),entS sc
 (x_1.2.2.1.getD ((ln x_1.2.2.1) - z1).toNat ap2q0).1) = (ap2q2 sc cm da ds rs ec ed ei eo eu ef ev ea en)) (isI64 ((ln x_1.2.2.2.1) + (ln x_1.2.2.1)) ∧ SD ((65536:Int) < (ln
 x_1.2.2.2.1) + (ln x_1.2.2.1)) (((ap2q6 sc cm da ds rs),z2) = (ap2q2 sc cm da ds rs ec ed ei eo eu ef ev ea en)) (roomP BP2 y58 (x_1.2.2.2.1.length + x_1.2.2.1.length) ∧
 (((x_1.2.2.2.2.2.1,x_1.2.2.2.2.2.2.1,x_1.2.2.2.2.2.2.2.1,()),x_1.2.2.2.2.2.2.2.2.1,x_1.2.2.2.2.2.2.2.2.2.1,x_1.2.2.2.2.1,x_1.2.2.2.1 ++ x_1.2.2.1,()),z0) = (ap2q2 sc cm
 da ds rs ec ed ei eo eu ef ev ea en))))))))))))):=by kernel_rfl
end Go.Proofs.YtcnpblceamgfcaaGreatDoor
