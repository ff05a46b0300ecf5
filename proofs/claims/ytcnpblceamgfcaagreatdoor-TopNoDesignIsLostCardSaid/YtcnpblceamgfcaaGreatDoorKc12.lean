import Derived.Test.YtcnpblceamgfcaaGreatDoorKc11
import Derived.Test.YtcnpblceamgfcaaGreatDoorKc1
import Derived.Test.YtcnpblceamgfcaaGreatDoorKc9
import Derived.Test.YtcnpblceamgfcaaGreatDoorKc10
set_option linter.unusedSimpArgs false
set_option linter.unusedVariables false
namespace Go.Proofs.YtcnpblceamgfcaaGreatDoor
open Go.AM Go.PL
attribute [local irreducible] fnwp fnwpG fnwpO
theorem BP2_sound:jQa BP2:=jQ9 ⟨kQu,sat_ent,trivial⟩ ⟨jKf,jKe,trivial⟩ trivial trivial trivial ⟨jKg,trivial⟩
theorem ap2_ok (sc:Sc) (cm da:Int) (ds:List Int) (rs:List Rw) (ec ed ei eo eu ef:Int) (ev:List Int) (ea:List At) (en:List Int) (hn:jQ6 sc) (hrs:rs.length ≤ 50000) (hds:ds.length ≤ 50000) (hv:verF ei rs ≤ 1000000) (hlv:(liveF ei rs).length ≤ 19) (hc0:0 ≤ cm) (hc1:cm ≤ 1000000) (hl:¬ (liveS (sc,cm,da,ds,rs,()) ei).length = 0):fnwp BP2 8 29 jXw ((sc,cm,da,ds,rs,()),((2:Int),ec,ed,ei,eo,eu,ef,ev,ea,en,())):=by
 rw [ap2_nf]; delta ap2_nf_t1 ap2_nf_t2 ap2_nf_t3 ap2_nf_e0 ap2_nf_e1 ap2q0 ap2q5 ap2q4 ap2q1 ap2q2 ap2q3 ap2q6 ap2q7 IR LP NX SD SP eI ln y0 y19 y3 y58 z0 z1 z2 z6 z9; dsimp only
 have hL:(liveS (sc,cm,da,ds,rs,()) ei).length ≤ 19:=by unfold liveS; rw [jZa]; exact hlv
 have hend:((liveS (sc,cm,da,ds,rs,()) ei).getD (((liveS (sc,cm,da,ds,rs,()) ei).length:Int) - 1).toNat dRw).1.2.2.2.2.2.1 = (endR (liveS (sc,cm,da,ds,rs,()) ei)):=by
  unfold endR
  rw [show (((liveS (sc,cm,da,ds,rs,()) ei).length:Int) - 1).toNat = (liveS (sc,cm,da,ds,rs,()) ei).length - 1 by omega]
 have hend:((liveS (sc,cm,da,ds,rs,()) ei).getD (((liveS (sc,cm,da,ds,rs,()) ei).length:Int) - 1).toNat (((0:Int),(0:Int),(0:Int),(0:Int),(0:Int),(0:Int),(0:Int),[],[],()),(0:Int),())).1.2.2.2.2.2.1 = (endR (liveS (sc,cm,da,ds,rs,()) ei)):=hend
 rw [hend]
 have hlp:(0:Int) ≤ 0 ∧ (0:Int) < ((liveS (sc,cm,da,ds,rs,()) ei).length:Int):=by omega
 have hlq:0 ≤ ((liveS (sc,cm,da,ds,rs,()) ei).length:Int) - 1 ∧ ((liveS (sc,cm,da,ds,rs,()) ei).length:Int) - 1 < ((liveS (sc,cm,da,ds,rs,()) ei).length:Int):=by omega
 have hli:isI64 (((liveS (sc,cm,da,ds,rs,()) ei).length:Int) - 1):=by unfold isI64; omega
 have hv0:=verF_nn ei rs
 have hi0:isI64 (cm + 1):=by unfold isI64; omega
 refine ⟨hi0,fun c1=>jQk (jQ2 (.inl (ndt c1))),fun c1=>⟨fun c2=>jQk (jQ2 (.inr (.inl (dt c2)))),fun c2=>⟨fun c3=>jQk (jQ2 (.inr (.inr (.inl (dt c3))))),fun c3=>⟨fun c4=>jQk (jQ2 (.inr (.inr (.inr (dt c4))))),fun c4=>?_⟩⟩⟩⟩
 have hT:¬ badT ((sc,cm,da,ds,rs,()):Bo) (((2:Int),ec,ed,ei,eo,eu,ef,ev,ea,en,()):Ev):=by
  rintro (g | g | g | g)
  ·exact g (ndf c1)
  ·exact df c2 g
  ·exact df c3 g
  ·exact df c4 g
 have hr8:∀ {C:Ctx},C.P = Tryz.prog → roomP C 3 (ds.length + [ed].length):=fun {C} hC=>roomB 8 (by rw [hC]; kernel_rfl) (by omega) (by rw [List.length_singleton]; omega)
 have hd6:ds.length ≤ 1000000:=by omega
 have hr6:rs.length ≤ 1000000:=by omega
 have hlz:decide (((liveS (sc,cm,da,ds,rs,()) ei).length:Int) = 0) = false:=decide_eq_false (by omega)
 refine ⟨by decide,by decide,hlv,hlz,⟨by decide,by decide⟩,hlp,hli,hlq,fun q=>jQk (ap_2a hT rfl hl (.inl (dt q))),fun q=>⟨fun q2=>jQk (ap_2a hT rfl hl (.inr (dt q2))),fun q2=>?_⟩⟩
 have hA:jQh ((sc,cm,da,ds,rs,()):Bo) (((2:Int),ec,ed,ei,eo,eu,ef,ev,ea,en,()):Ev) = makeD _ _ (befDy (max ef (fromR ((liveS (sc,cm,da,ds,rs,()) ei).getD 0 dRw)))) [(((((liveS (sc,cm,da,ds,rs,()) ei).getD 0 dRw).1.1,((liveS (sc,cm,da,ds,rs,()) ei).getD 0 dRw).1.2.1,((liveS (sc,cm,da,ds,rs,()) ei).getD 0 dRw).1.2.2.1,((liveS (sc,cm,da,ds,rs,()) ei).getD 0 dRw).1.2.2.2.1,max ef (fromR ((liveS (sc,cm,da,ds,rs,()) ei).getD 0 dRw)),(endR (liveS (sc,cm,da,ds,rs,()) ei)),ec,ev,ea,()):En),0,())]:=ap_2b hT rfl hl (not_or.2 ⟨df q,df q2⟩)
 refine ⟨hd6,hr8 rfl,hr6,fun x=>0 ≤ x.1 ∧ x.1 ≤ rs.length ∧ x.2.1 = verF ei (rs.take x.1.toNat) ∧ x.2.2 = (rs,ds ++ [ed],sc.1,sc.2.1,sc.2.2.1,ec,ed,max ef (fromR ((liveS (sc,cm,da,ds,rs,()) ei).getD 0 dRw)),ei,((liveS (sc,cm,da,ds,rs,()) ei).getD 0 dRw).1.1,((liveS (sc,cm,da,ds,rs,()) ei).getD 0 dRw).1.2.1,((liveS (sc,cm,da,ds,rs,()) ei).getD 0 dRw).1.2.2.1,((liveS (sc,cm,da,ds,rs,()) ei).getD 0 dRw).1.2.2.2.1,max ef (fromR ((liveS (sc,cm,da,ds,rs,()) ei).getD 0 dRw)),(endR (liveS (sc,cm,da,ds,rs,()) ei)),ec,ev,ea),fun x=>(rs.length - x.1).toNat,⟨by dsimp only; omega,by dsimp only; omega,rfl,rfl⟩,?_⟩
 rintro ⟨i,v,kk⟩ ⟨h0,h1,h2,h3⟩
 dsimp only at h0 h1 h2 h3
 subst h3
 subst h2
 dsimp only
 refine ⟨fun h=>?_,fun h=>?_⟩
 ·have h:=dt h
  have hi:isI64 (i + 1):=by unfold isI64; omega
  have hmu:((rs.length:Int) - (i + 1)).toNat < ((rs.length:Int) - i).toNat:=by omega
  have hs:=jYw ei (rs.take i.toNat) (rs.getD i.toNat dRw)
  rw [← jXd (d:=dRw) h0 h] at hs
  have b0:0 ≤ i + 1:=by omega
  have b1:i + 1 ≤ (rs.length:Int):=by omega
  exact ⟨⟨h0,h⟩,fun c=>⟨hi,⟨b0,b1,(hs.trans (if_pos (dt c))).symm,rfl⟩,hmu⟩,fun c=>⟨hi,⟨b0,b1,(hs.trans (if_neg (df c))).symm,rfl⟩,hmu⟩⟩
 have h:=df h
 rw [List.take_of_length_le (by omega)]
 refine ⟨fun x=>L2 ei ec (befDy (max ef (fromR ((liveS (sc,cm,da,ds,rs,()) ei).getD 0 dRw)))) rs x.1 x.2.2.1 x.2.2.2.1 ∧ x.2.1 = verF ei rs ∧ x.2.2.2.2 = (ds ++ [ed],sc.1,sc.2.1,sc.2.2.1,ec,ed,max ef (fromR ((liveS (sc,cm,da,ds,rs,()) ei).getD 0 dRw)),ei,ei,((liveS (sc,cm,da,ds,rs,()) ei).getD 0 dRw).1.1,((liveS (sc,cm,da,ds,rs,()) ei).getD 0 dRw).1.2.1,((liveS (sc,cm,da,ds,rs,()) ei).getD 0 dRw).1.2.2.1,((liveS (sc,cm,da,ds,rs,()) ei).getD 0 dRw).1.2.2.2.1,max ef (fromR ((liveS (sc,cm,da,ds,rs,()) ei).getD 0 dRw)),(endR (liveS (sc,cm,da,ds,rs,()) ei)),ec,ev,ea),fun x=>(rs.length - x.1).toNat,⟨l2_zero _ _ _ _,rfl,rfl⟩,?_⟩
 rintro ⟨i,v,ad,rw2,kk⟩ ⟨hI,h2,h3⟩
 dsimp only at hI h2 h3
 subst h3
 subst h2
 dsimp only
 have h0:=hI.1
 have h1:=hI.2.1
 have hsm:=l2_small hI
 have hln:=l2_len hI
 refine ⟨fun h=>?_,fun h=>?_⟩
 ·have h:=dt h
  have hi:isI64 (i + 1):=by unfold isI64; omega
  have hmu:((rs.length:Int) - (i + 1)).toNat < ((rs.length:Int) - i).toNat:=by omega
  have hp:0 ≤ i ∧ i < (rw2.length:Int):=by omega
  have room:∀ r:Rw,roomP BP2 58 (ad.length + [r].length):=fun r=>roomB 112 (by kernel_rfl) (by omega) (by rw [List.length_singleton]; omega)
  exact ⟨⟨h0,h⟩,fun c=>⟨fun d=>⟨hi,⟨jKr hI h (fun g=>ndt d g.2),rfl,rfl⟩,hmu⟩,fun d=>⟨fun c1=>⟨fun c2=>⟨hi,⟨l2_skip1 hI h rfl (dt c1) (dt c2),rfl,rfl⟩,hmu⟩,fun c2=>⟨hp,fun c3=>⟨room _,hi,⟨l2_add1 hI h rfl (dt c) (ndf d) (fun g=>df c2 g.2) (dt c3),rfl,rfl⟩,hmu⟩,fun c3=>⟨hi,⟨l2_die1 hI h rfl (dt c) (ndf d) (fun g=>df c2 g.2) (df c3),rfl,rfl⟩,hmu⟩⟩⟩,fun c1=>⟨hp,fun c3=>⟨room _,hi,⟨l2_add1 hI h rfl (dt c) (ndf d) (fun g=>df c1 g.1) (dt c3),rfl,rfl⟩,hmu⟩,fun c3=>⟨hi,⟨l2_die1 hI h rfl (dt c) (ndf d) (fun g=>df c1 g.1) (df c3),rfl,rfl⟩,hmu⟩⟩⟩⟩,fun c=>⟨hi,⟨jKr hI h (fun g=>df c g.1),rfl,rfl⟩,hmu⟩⟩
 have h:=df h
 obtain ⟨e1,e2⟩:=l2_end hI h
 have hal:(jQl ad).length ≤ 19:=by rw [jZa]; omega
 have hAl:(jQl ad ++ [(((((liveS (sc,cm,da,ds,rs,()) ei).getD 0 dRw).1.1,((liveS (sc,cm,da,ds,rs,()) ei).getD 0 dRw).1.2.1,((liveS (sc,cm,da,ds,rs,()) ei).getD 0 dRw).1.2.2.1,((liveS (sc,cm,da,ds,rs,()) ei).getD 0 dRw).1.2.2.2.1,max ef (fromR ((liveS (sc,cm,da,ds,rs,()) ei).getD 0 dRw)),(endR (liveS (sc,cm,da,ds,rs,()) ei)),ec,ev,ea,()):En),0,())]).length ≤ 20:=by rw [List.length_append,List.length_singleton]; omega
 refine ⟨⟨by omega,rfl⟩,roomB 112 (by kernel_rfl) (by omega) (by rw [List.length_singleton]; omega),fun x=>L3 (verF ei rs) (jQl ad ++ [(((((liveS (sc,cm,da,ds,rs,()) ei).getD 0 dRw).1.1,((liveS (sc,cm,da,ds,rs,()) ei).getD 0 dRw).1.2.1,((liveS (sc,cm,da,ds,rs,()) ei).getD 0 dRw).1.2.2.1,((liveS (sc,cm,da,ds,rs,()) ei).getD 0 dRw).1.2.2.2.1,max ef (fromR ((liveS (sc,cm,da,ds,rs,()) ei).getD 0 dRw)),(endR (liveS (sc,cm,da,ds,rs,()) ei)),ec,ev,ea,()):En),0,())]) x.1 x.2.2.1 ∧ x.2.1 = verF ei rs ∧ x.2.2.2 = (rw2,ds ++ [ed],sc.1,sc.2.1,sc.2.2.1,ec,ed,max ef (fromR ((liveS (sc,cm,da,ds,rs,()) ei).getD 0 dRw)),ei,ei,((liveS (sc,cm,da,ds,rs,()) ei).getD 0 dRw).1.1,((liveS (sc,cm,da,ds,rs,()) ei).getD 0 dRw).1.2.1,((liveS (sc,cm,da,ds,rs,()) ei).getD 0 dRw).1.2.2.1,((liveS (sc,cm,da,ds,rs,()) ei).getD 0 dRw).1.2.2.2.1,max ef (fromR ((liveS (sc,cm,da,ds,rs,()) ei).getD 0 dRw)),(endR (liveS (sc,cm,da,ds,rs,()) ei)),ec,ev,ea),fun x=>((jQl ad ++ [(((((liveS (sc,cm,da,ds,rs,()) ei).getD 0 dRw).1.1,((liveS (sc,cm,da,ds,rs,()) ei).getD 0 dRw).1.2.1,((liveS (sc,cm,da,ds,rs,()) ei).getD 0 dRw).1.2.2.1,((liveS (sc,cm,da,ds,rs,()) ei).getD 0 dRw).1.2.2.2.1,max ef (fromR ((liveS (sc,cm,da,ds,rs,()) ei).getD 0 dRw)),(endR (liveS (sc,cm,da,ds,rs,()) ei)),ec,ev,ea,()):En),0,())]).length - x.1).toNat,⟨l3_zero _ _,rfl,rfl⟩,?_⟩
 rintro ⟨j,v,c,kk⟩ ⟨g1,h2,h3⟩
 dsimp only at g1 h2 h3
 subst h3
 subst h2
 dsimp only
 have j0:=g1.1
 have hcl:=l3_len g1
 refine ⟨fun h=>?_,fun h=>?_⟩
 ·have h:j < (((jQl ad ++ [(((((liveS (sc,cm,da,ds,rs,()) ei).getD 0 dRw).1.1,((liveS (sc,cm,da,ds,rs,()) ei).getD 0 dRw).1.2.1,((liveS (sc,cm,da,ds,rs,()) ei).getD 0 dRw).1.2.2.1,((liveS (sc,cm,da,ds,rs,()) ei).getD 0 dRw).1.2.2.2.1,max ef (fromR ((liveS (sc,cm,da,ds,rs,()) ei).getD 0 dRw)),(endR (liveS (sc,cm,da,ds,rs,()) ei)),ec,ev,ea,()):En),0,())]).length:Nat):Int):=dt h
  exact ⟨by unfold isI64; omega,by unfold isI64; omega,⟨j0,by omega⟩,by unfold isI64; omega,⟨l3_step g1 h,rfl,rfl⟩,by omega⟩
 have h:¬ j < (((jQl ad ++ [(((((liveS (sc,cm,da,ds,rs,()) ei).getD 0 dRw).1.1,((liveS (sc,cm,da,ds,rs,()) ei).getD 0 dRw).1.2.1,((liveS (sc,cm,da,ds,rs,()) ei).getD 0 dRw).1.2.2.1,((liveS (sc,cm,da,ds,rs,()) ei).getD 0 dRw).1.2.2.2.1,max ef (fromR ((liveS (sc,cm,da,ds,rs,()) ei).getD 0 dRw)),(endR (liveS (sc,cm,da,ds,rs,()) ei)),ec,ev,ea,()):En),0,())]).length:Nat):Int):=df h
 have hc:=l3_end g1 h
 rw [e1] at hc
 have hsum:isI64 ((rw2.length:Int) + (c.length:Int)):=by unfold isI64; omega
 have hroom:roomP BP2 58 (rw2.length + c.length):=roomB 112 (by kernel_rfl) (by omega) (by omega)
 have hM:=mk1 hA e2 hc
 have hcp:0 < c.length:=by rw [hcl,List.length_append,List.length_singleton]; omega
 have hlast:c.getD ((c.length:Int) - 1).toNat dRw = lastR c:=by
  unfold lastR
  rw [show ((c.length:Int) - 1).toNat = c.length - 1 by omega]
 have hlast:c.getD ((c.length:Int) - 1).toNat (((0:Int),(0:Int),(0:Int),(0:Int),(0:Int),(0:Int),(0:Int),[],[],()),(0:Int),()) = lastR c:=hlast
 rw [hlast]
 refine ⟨by unfold isI64; omega,by omega,hn,fun y=>jQk (hM.trans (fin_err rfl (ndt y))),fun y=>?_⟩
 have hno:¬ (true = true ∧ entS sc (lastR c).1 ≠ 0):=fun g=>g.2 (ndf y)
 exact ⟨hsum,fun z=>jQk (hM.trans (fin_lim hno (dt z))),fun z=>⟨hroom,jQk (hM.trans (fin_fine hno (df z)))⟩⟩
end Go.Proofs.YtcnpblceamgfcaaGreatDoor
namespace Go.Proofs.YtcnpblceamgfcaaGreatDoor
open Go.AM Go.PL
abbrev ap3_nf_t1:Type:=Int × Int × List ((Int × Int × Int × Int × Int × Int × Int × List Int × List (List Int × Int × Int × List Int × Unit) × Unit) × Int × Unit) × List
 ((Int × Int × Int × Int × Int × Int × Int × List Int × List (List Int × Int × Int × List Int × Unit) × Unit) × Int × Unit) × List Int × Int × Int × List (List Int × Int × Int ×
 Int × List (List Int) × Unit) × Int × Int × Int × Int × Int
abbrev ap3_nf_t2:Type:=Int × Int × List ((Int × Int × Int × Int × Int × Int × Int × List Int × List (List Int × Int × Int × List Int × Unit) × Unit) × Int × Unit) × List
 ((Int × Int × Int × Int × Int × Int × Int × List Int × List (List Int × Int × Int × List Int × Unit) × Unit) × Int × Unit) × List Int × Int × Int × List (List Int × Int × Int ×
 Int × List (List Int) × Unit) × Int × Int × Int × Int × Int → Prop
abbrev ap3_nf_t3:Type:=Int × Int × List ((Int × Int × Int × Int × Int × Int × Int × List Int × List (List Int × Int × Int × List Int × Unit) × Unit) × Int × Unit) × List
 ((Int × Int × Int × Int × Int × Int × Int × List Int × List (List Int × Int × Int × List Int × Unit) × Unit) × Int × Unit) × List Int × Int × Int × List (List Int × Int × Int ×
 Int × List (List Int) × Unit) × Int × Int × Int × Int × Int → Nat
abbrev ap3_nf_e0:List (List Int × Int × Int × List Int × Unit):=[]
abbrev ap3_nf_e1:List ((Int × Int × Int × Int × Int × Int × Int × List Int × List (List Int × Int × Int × List Int × Unit) × Unit) × Int × Unit):=[]
abbrev ap3q0:=((z0,z0,z0,z0,z0,z0,z0,eI,ap3_nf_e0,()),z0,())
abbrev ap3q4 (rs:List Rw) (x:ap3_nf_t1):=rs.getD x.1.toNat ap3q0
abbrev ap3q3 (rs:List Rw) (x:ap3_nf_t1) (ec:Int):=(((ap3q4 rs x).1.1,(ap3q4 rs x).1.2.1,(ap3q4 rs x).1.2.2.1,(ap3q4 rs x).1.2.2.2.1,(ap3q4 rs x).1.2.2.2.2.1,min
 (ap3q4 rs x).1.2.2.2.2.2.1 (max x.2.2.2.2.2.2.2.2.2.2.1 (ap3q4 rs x).1.2.2.2.2.1),ec,(ap3q4 rs x).1.2.2.2.2.2.2.2.1,(ap3q4 rs x).1.2.2.2.2.2.2.2.2.1,()),z0,())
abbrev ap3q1 (x:ap3_nf_t1) (rs:List Rw) (ec:Int) (I:ap3_nf_t2) (μ:ap3_nf_t3):=(IR x.1 x.2.2.2.1) ∧ SD ((ap3q4 rs x).1.2.2.2.2.1 < min (ap3q4 rs x).1.2.2.2.2.2.1 (max
 x.2.2.2.2.2.2.2.2.2.2.1 (ap3q4 rs x).1.2.2.2.2.1)) (roomP BP3 y58 (x.2.2.1.length + [(ap3q3 rs x ec)].length) ∧ isI64 (x.1 + z1) ∧ NX I μ x (x.1 + z1,x.2.1,x.2.2.1 ++ [(ap3q3
 rs x ec)],x.2.2.2.1.set x.1.toNat ((x.2.2.2.1.getD x.1.toNat ap3q0).1,ec,(x.2.2.2.1.getD x.1.toNat ap3q0).2.2),x.2.2.2.2)) (isI64 (x.1 + z1) ∧ NX I μ x (x.1 + z1,x.2.1,
 x.2.2.1,x.2.2.2.1.set x.1.toNat ((x.2.2.2.1.getD x.1.toNat ap3q0).1,ec,(x.2.2.2.1.getD x.1.toNat ap3q0).2.2),x.2.2.2.2))
abbrev ap3q2 (sc:Sc) (cm da:Int) (ds:List Int) (rs:List Rw) (ec ed ei eo eu ef:Int) (ev:List Int) (ea:List At) (en:List Int):=(((sc.1,sc.2.1,sc.2.2.1,()),
 cm,da,ds,rs,()),z9) = ((jQh (sc,cm,da,ds,rs,()) (z3,ec,ed,ei,eo,eu,ef,ev,ea,en,())).1,(jQh (sc,cm,da,ds,rs,()) (z3,ec,ed,ei,eo,eu,ef,ev,
 ea,en,())).2.1)
theorem ap3_nf (sc:Sc) (cm da:Int) (ds:List Int) (rs:List Rw) (ec ed ei eo eu ef:Int) (ev:List Int) (ea:List At) (en:List Int):fnwp BP3 8 29 jXw ((sc,cm,
 da,ds,rs,()),((3:Int),ec,ed,ei,eo,eu,ef,ev,ea,en,())) = (isI64 (cm + z1) ∧ SP (!decide (ec = cm + z1)) (ap3q2 sc cm da ds rs ec ed ei eo eu ef ev ea en) (SD
 ((1073741824:Int) < ec) (ap3q2 sc cm da ds rs ec ed ei eo eu ef ev ea en) (SD (ed < da) (ap3q2 sc cm da ds rs ec ed ei eo eu ef ev ea en) (SD ((1048576:Int) < ed) (ap3q2 sc
 cm da ds rs ec ed ei eo eu ef ev ea en) (decide (z3 < z1) = false ∧ decide (z6 ≤ z3) = false ∧ (liveF ei rs).length ≤ y19 ∧ decide ((ln (liveS (sc,cm,da,ds,rs,()) ei)) =
 z0) = false ∧ (z0 ≤ z3 ∧ z3 < z6) ∧ SD (ef < z0) (ap3q2 sc cm da ds rs ec ed ei eo eu ef ev ea en) (isI64 ((ln (liveS (sc,cm,da,ds,rs,()) ei)) - z1) ∧ (IR ((ln (liveS (sc,
 cm,da,ds,rs,()) ei)) - z1) (liveS (sc,cm,da,ds,rs,()) ei)) ∧ SD (((liveS (sc,cm,da,ds,rs,()) ei).getD ((ln (liveS (sc,cm,da,ds,rs,()) ei)) - z1).toNat
 ap3q0).1.2.2.2.2.2.1 ≤ ef) (ap3q2 sc cm da ds rs ec ed ei eo eu ef ev ea en) (ds.length ≤ (1000000:Nat) ∧ roomP BP3 y3 (ds.length + [ed].length) ∧ rs.length ≤ (1000000:Nat)
 ∧ LP (z0,z0,rs,ds ++ [ed],sc.1,sc.2.1,sc.2.2.1,ec,ed,ef,ei) fun I μ x=>SD (x.1 < (ln rs)) ((IR x.1 rs) ∧ SD ((rs.getD x.1.toNat ap3q0).1.1 = x.2.2.2.2.2.2.2.2.2.2)
 (isI64 (x.1 + z1) ∧ NX I μ x (x.1 + z1,max x.2.1 (rs.getD x.1.toNat ap3q0).1.2.1,x.2.2)) (isI64 (x.1 + z1) ∧ NX I μ x (x.1 + z1,x.2))) (LP (z0,x.2.1,ap3_nf_e1,x.2.2.1,
 x.2.2.2.1,x.2.2.2.2.1,x.2.2.2.2.2.1,x.2.2.2.2.2.2.1,x.2.2.2.2.2.2.2.1,x.2.2.2.2.2.2.2.2.1,x.2.2.2.2.2.2.2.2.2.1,x.2.2.2.2.2.2.2.2.2.2,ei) fun I μ x=>SD (x.1 < (ln rs))
 ((IR x.1 rs) ∧ SD ((ap3q4 rs x).1.1 = x.2.2.2.2.2.2.2.2.2.2.2.2) (SP (!decide ((ap3q4 rs x).2.1 = z0)) (isI64 (x.1 + z1) ∧ NX I μ x (x.1 + z1,x.2)) (SD ((ap3q4 rs
 x).1.2.2.2.2.1 = (ap3q4 rs x).1.2.2.2.2.1) (SD (min (ap3q4 rs x).1.2.2.2.2.2.1 (max x.2.2.2.2.2.2.2.2.2.2.1 (ap3q4 rs x).1.2.2.2.2.1) = (ap3q4 rs x).1.2.2.2.2.2.1) (isI64 (x.1 +
 z1) ∧ NX I μ x (x.1 + z1,x.2)) (ap3q1 x rs ec I μ)) (ap3q1 x rs ec I μ))) (isI64 (x.1 + z1) ∧ NX I μ x (x.1 + z1,x.2))) ((x.2.2.1.length ≤ y19 ∧ (110:Nat) = (110:Nat)) ∧
 LP (z0,x.2.1,jQl x.2.2.1,x.2.2.2) fun I μ x_1=>SD (x_1.1 < (ln (jQl x.2.2.1))) (isI64 (x_1.2.1 + z1) ∧ isI64 (x_1.2.1 + z1 + x_1.1) ∧ (IR x_1.1 x_1.2.2.1) ∧ isI64
 (x_1.1 + z1) ∧ NX I μ x_1 (x_1.1 + z1,x_1.2.1,x_1.2.2.1.set x_1.1.toNat (((x_1.2.2.1.getD x_1.1.toNat ap3q0).1.1,x_1.2.1 + z1 + x_1.1,(x_1.2.2.1.getD x_1.1.toNat
 ap3q0).1.2.2),(x_1.2.2.1.getD x_1.1.toNat ap3q0).2),x_1.2.2.2)) (isI64 ((ln x_1.2.2.2.1) + (ln x_1.2.2.1)) ∧ SD ((65536:Int) < (ln x_1.2.2.2.1) + (ln x_1.2.2.1)) ((((sc.1,
 sc.2.1,sc.2.2.1,()),cm,da,ds,rs,()),z2) = ((jQh (sc,cm,da,ds,rs,()) (z3,ec,ed,ei,eo,eu,ef,ev,ea,en,())).1,(jQh (sc,cm,da,ds,rs,()) (z3,ec,
 ed,ei,eo,eu,ef,ev,ea,en,())).2.1)) (roomP BP3 y58 (x_1.2.2.2.1.length + x_1.2.2.1.length) ∧ (((x_1.2.2.2.2.2.1,x_1.2.2.2.2.2.2.1,x_1.2.2.2.2.2.2.2.1,()),
 x_1.2.2.2.2.2.2.2.2.1,x_1.2.2.2.2.2.2.2.2.2.1,x_1.2.2.2.2.1,x_1.2.2.2.1 ++ x_1.2.2.1,()),z0) = ((jQh (sc,cm,da,ds,rs,()) (z3,ec,ed,ei,eo,eu,ef,ev,ea,en,
 ())).1,(jQh (sc,cm,da,ds,rs,()) (z3,ec,ed,ei,eo,eu,ef,ev,ea,en,())).2.1)))))))))))):=by kernel_rfl
end Go.Proofs.YtcnpblceamgfcaaGreatDoor
namespace Go.Proofs.YtcnpblceamgfcaaGreatDoor
open Go.AM Go.PL
attribute [local irreducible] fnwp fnwpG fnwpO
theorem BP3_sound:jQa BP3:=jQ9 ⟨kQu,sat_ent,trivial⟩ ⟨jKf,jKe,trivial⟩ trivial trivial trivial ⟨jKg,trivial⟩
theorem ap3_ok (sc:Sc) (cm da:Int) (ds:List Int) (rs:List Rw) (ec ed ei eo eu ef:Int) (ev:List Int) (ea:List At) (en:List Int) (hn:jQ6 sc) (hrs:rs.length ≤ 50000) (hds:ds.length ≤ 50000) (hv:verF ei rs ≤ 1000000) (hlv:(liveF ei rs).length ≤ 19) (hc0:0 ≤ cm) (hc1:cm ≤ 1000000) (hl:¬ (liveS (sc,cm,da,ds,rs,()) ei).length = 0):fnwp BP3 8 29 jXw ((sc,cm,da,ds,rs,()),((3:Int),ec,ed,ei,eo,eu,ef,ev,ea,en,())):=by
 rw [ap3_nf]; delta ap3_nf_t1 ap3_nf_t2 ap3_nf_t3 ap3_nf_e0 ap3_nf_e1 ap3q0 ap3q4 ap3q3 ap3q1 ap3q2 IR LP NX SD SP eI ln y19 y3 y58 z0 z1 z2 z3 z6 z9; dsimp only
 have hL:(liveS (sc,cm,da,ds,rs,()) ei).length ≤ 19:=by unfold liveS; rw [jZa]; exact hlv
 have hend:((liveS (sc,cm,da,ds,rs,()) ei).getD (((liveS (sc,cm,da,ds,rs,()) ei).length:Int) - 1).toNat dRw).1.2.2.2.2.2.1 = (endR (liveS (sc,cm,da,ds,rs,()) ei)):=by
  unfold endR
  rw [show (((liveS (sc,cm,da,ds,rs,()) ei).length:Int) - 1).toNat = (liveS (sc,cm,da,ds,rs,()) ei).length - 1 by omega]
 have hend:((liveS (sc,cm,da,ds,rs,()) ei).getD (((liveS (sc,cm,da,ds,rs,()) ei).length:Int) - 1).toNat (((0:Int),(0:Int),(0:Int),(0:Int),(0:Int),(0:Int),(0:Int),[],[],()),(0:Int),())).1.2.2.2.2.2.1 = (endR (liveS (sc,cm,da,ds,rs,()) ei)):=hend
 rw [hend]
 have hlp:(0:Int) ≤ 0 ∧ (0:Int) < ((liveS (sc,cm,da,ds,rs,()) ei).length:Int):=by omega
 have hlq:0 ≤ ((liveS (sc,cm,da,ds,rs,()) ei).length:Int) - 1 ∧ ((liveS (sc,cm,da,ds,rs,()) ei).length:Int) - 1 < ((liveS (sc,cm,da,ds,rs,()) ei).length:Int):=by omega
 have hli:isI64 (((liveS (sc,cm,da,ds,rs,()) ei).length:Int) - 1):=by unfold isI64; omega
 have hv0:=verF_nn ei rs
 have hi0:isI64 (cm + 1):=by unfold isI64; omega
 refine ⟨hi0,fun c1=>jQk (jQ2 (.inl (ndt c1))),fun c1=>⟨fun c2=>jQk (jQ2 (.inr (.inl (dt c2)))),fun c2=>⟨fun c3=>jQk (jQ2 (.inr (.inr (.inl (dt c3))))),fun c3=>⟨fun c4=>jQk (jQ2 (.inr (.inr (.inr (dt c4))))),fun c4=>?_⟩⟩⟩⟩
 have hT:¬ badT ((sc,cm,da,ds,rs,()):Bo) (((3:Int),ec,ed,ei,eo,eu,ef,ev,ea,en,()):Ev):=by
  rintro (g | g | g | g)
  ·exact g (ndf c1)
  ·exact df c2 g
  ·exact df c3 g
  ·exact df c4 g
 have hr8:∀ {C:Ctx},C.P = Tryz.prog → roomP C 3 (ds.length + [ed].length):=fun {C} hC=>roomB 8 (by rw [hC]; kernel_rfl) (by omega) (by rw [List.length_singleton]; omega)
 have hd6:ds.length ≤ 1000000:=by omega
 have hr6:rs.length ≤ 1000000:=by omega
 have hlz:decide (((liveS (sc,cm,da,ds,rs,()) ei).length:Int) = 0) = false:=decide_eq_false (by omega)
 refine ⟨by decide,by decide,hlv,hlz,⟨by decide,by decide⟩,fun q=>jQk (ap_3a hT rfl hl (.inl (dt q))),fun q=>⟨hli,hlq,fun q2=>jQk (ap_3a hT rfl hl (.inr (dt q2))),fun q2=>?_⟩⟩
 have hA:jQh ((sc,cm,da,ds,rs,()):Bo) (((3:Int),ec,ed,ei,eo,eu,ef,ev,ea,en,()):Ev) = makeD _ _ (befDy ef) []:=ap_3b hT rfl hl (not_or.2 ⟨df q,df q2⟩)
 refine ⟨hd6,hr8 rfl,hr6,fun x=>0 ≤ x.1 ∧ x.1 ≤ rs.length ∧ x.2.1 = verF ei (rs.take x.1.toNat) ∧ x.2.2 = (rs,ds ++ [ed],sc.1,sc.2.1,sc.2.2.1,ec,ed,ef,ei),fun x=>(rs.length - x.1).toNat,⟨by dsimp only; omega,by dsimp only; omega,rfl,rfl⟩,?_⟩
 rintro ⟨i,v,kk⟩ ⟨h0,h1,h2,h3⟩
 dsimp only at h0 h1 h2 h3
 subst h3
 subst h2
 dsimp only
 refine ⟨fun h=>?_,fun h=>?_⟩
 ·have h:=dt h
  have hi:isI64 (i + 1):=by unfold isI64; omega
  have hmu:((rs.length:Int) - (i + 1)).toNat < ((rs.length:Int) - i).toNat:=by omega
  have hs:=jYw ei (rs.take i.toNat) (rs.getD i.toNat dRw)
  rw [← jXd (d:=dRw) h0 h] at hs
  have b0:0 ≤ i + 1:=by omega
  have b1:i + 1 ≤ (rs.length:Int):=by omega
  exact ⟨⟨h0,h⟩,fun c=>⟨hi,⟨b0,b1,(hs.trans (if_pos (dt c))).symm,rfl⟩,hmu⟩,fun c=>⟨hi,⟨b0,b1,(hs.trans (if_neg (df c))).symm,rfl⟩,hmu⟩⟩
 have h:=df h
 rw [List.take_of_length_le (by omega)]
 refine ⟨fun x=>L2 ei ec (befDy ef) rs x.1 x.2.2.1 x.2.2.2.1 ∧ x.2.1 = verF ei rs ∧ x.2.2.2.2 = (ds ++ [ed],sc.1,sc.2.1,sc.2.2.1,ec,ed,ef,ei,ei),fun x=>(rs.length - x.1).toNat,⟨l2_zero _ _ _ _,rfl,rfl⟩,?_⟩
 rintro ⟨i,v,ad,rw2,kk⟩ ⟨hI,h2,h3⟩
 dsimp only at hI h2 h3
 subst h3
 subst h2
 dsimp only
 have h0:=hI.1
 have h1:=hI.2.1
 have hsm:=l2_small hI
 have hln:=l2_len hI
 refine ⟨fun h=>?_,fun h=>?_⟩
 ·have h:=dt h
  have hi:isI64 (i + 1):=by unfold isI64; omega
  have hmu:((rs.length:Int) - (i + 1)).toNat < ((rs.length:Int) - i).toNat:=by omega
  have hp:0 ≤ i ∧ i < (rw2.length:Int):=by omega
  have room:∀ r:Rw,roomP BP3 58 (ad.length + [r].length):=fun r=>roomB 112 (by kernel_rfl) (by omega) (by rw [List.length_singleton]; omega)
  exact ⟨⟨h0,h⟩,fun c=>⟨fun d=>⟨hi,⟨jKr hI h (fun g=>ndt d g.2),rfl,rfl⟩,hmu⟩,fun d=>⟨fun c1=>⟨fun c2=>⟨hi,⟨l2_skip1 hI h rfl (dt c1) (dt c2),rfl,rfl⟩,hmu⟩,fun c2=>⟨hp,fun c3=>⟨room _,hi,⟨l2_add1 hI h rfl (dt c) (ndf d) (fun g=>df c2 g.2) (dt c3),rfl,rfl⟩,hmu⟩,fun c3=>⟨hi,⟨l2_die1 hI h rfl (dt c) (ndf d) (fun g=>df c2 g.2) (df c3),rfl,rfl⟩,hmu⟩⟩⟩,fun c1=>⟨hp,fun c3=>⟨room _,hi,⟨l2_add1 hI h rfl (dt c) (ndf d) (fun g=>df c1 g.1) (dt c3),rfl,rfl⟩,hmu⟩,fun c3=>⟨hi,⟨l2_die1 hI h rfl (dt c) (ndf d) (fun g=>df c1 g.1) (df c3),rfl,rfl⟩,hmu⟩⟩⟩⟩,fun c=>⟨hi,⟨jKr hI h (fun g=>df c g.1),rfl,rfl⟩,hmu⟩⟩
 have h:=df h
 obtain ⟨e1,e2⟩:=l2_end hI h
 have hal:(jQl ad).length ≤ 19:=by rw [jZa]; omega
 have hAl:(jQl ad).length ≤ 20:=by omega
 refine ⟨⟨by omega,rfl⟩,fun x=>L3 (verF ei rs) (jQl ad) x.1 x.2.2.1 ∧ x.2.1 = verF ei rs ∧ x.2.2.2 = (rw2,ds ++ [ed],sc.1,sc.2.1,sc.2.2.1,ec,ed,ef,ei,ei),fun x=>((jQl ad).length - x.1).toNat,⟨l3_zero _ _,rfl,rfl⟩,?_⟩
 rintro ⟨j,v,c,kk⟩ ⟨g1,h2,h3⟩
 dsimp only at g1 h2 h3
 subst h3
 subst h2
 dsimp only
 have j0:=g1.1
 have hcl:=l3_len g1
 refine ⟨fun h=>?_,fun h=>?_⟩
 ·have h:j < (((jQl ad).length:Nat):Int):=dt h
  exact ⟨by unfold isI64; omega,by unfold isI64; omega,⟨j0,by omega⟩,by unfold isI64; omega,⟨l3_step g1 h,rfl,rfl⟩,by omega⟩
 have h:¬ j < (((jQl ad).length:Nat):Int):=df h
 have hc:=l3_end g1 h
 rw [e1] at hc
 have hsum:isI64 ((rw2.length:Int) + (c.length:Int)):=by unfold isI64; omega
 have hroom:roomP BP3 58 (rw2.length + c.length):=roomB 112 (by kernel_rfl) (by omega) (by omega)
 have hM:=mk0 hA e2 hc
 exact ⟨hsum,fun z=>jQk (hM.trans (fin_lim (fun g=>Bool.false_ne_true g.1) (dt z))),fun z=>⟨hroom,jQk (hM.trans (fin_fine (fun g=>Bool.false_ne_true g.1) (df z)))⟩⟩
end Go.Proofs.YtcnpblceamgfcaaGreatDoor
namespace Go.Proofs.YtcnpblceamgfcaaGreatDoor
open Go.AM Go.PL
abbrev jJ9:Type:=Int × Int × List ((Int × Int × Int × Int × Int × Int × Int × List Int × List (List Int × Int × Int × List Int × Unit) × Unit) × Int × Unit) × List
 ((Int × Int × Int × Int × Int × Int × Int × List Int × List (List Int × Int × Int × List Int × Unit) × Unit) × Int × Unit) × List Int × Int × Int × List (List Int × Int × Int ×
 Int × List (List Int) × Unit) × Int × Int × Int
abbrev ap4_nf_t2:Type:=Int × Int × List ((Int × Int × Int × Int × Int × Int × Int × List Int × List (List Int × Int × Int × List Int × Unit) × Unit) × Int × Unit) × List
 ((Int × Int × Int × Int × Int × Int × Int × List Int × List (List Int × Int × Int × List Int × Unit) × Unit) × Int × Unit) × List Int × Int × Int × List (List Int × Int × Int ×
 Int × List (List Int) × Unit) × Int × Int × Int → Prop
abbrev ap4_nf_t3:Type:=Int × Int × List ((Int × Int × Int × Int × Int × Int × Int × List Int × List (List Int × Int × Int × List Int × Unit) × Unit) × Int × Unit) × List
 ((Int × Int × Int × Int × Int × Int × Int × List Int × List (List Int × Int × Int × List Int × Unit) × Unit) × Int × Unit) × List Int × Int × Int × List (List Int × Int × Int ×
 Int × List (List Int) × Unit) × Int × Int × Int → Nat
abbrev ap4_nf_e0:List (List Int × Int × Int × List Int × Unit):=[]
abbrev ap4_nf_e1:List ((Int × Int × Int × Int × Int × Int × Int × List Int × List (List Int × Int × Int × List Int × Unit) × Unit) × Int × Unit):=[]
abbrev ap4q0:=((z0,z0,z0,z0,z0,z0,z0,eI,ap4_nf_e0,()),z0,())
abbrev ap4q5 (rs:List Rw) (x:jJ9):=rs.getD x.1.toNat ap4q0
abbrev ap4q6 (ec ed ei eo eu ef:Int) (ev:List Int) (ea:List At) (en:List Int):=(z4,ec,ed,ei,eo,eu,ef,ev,ea,en,())
abbrev ap4q7 (rs:List Rw) (x:jJ9) (eu ec:Int):=(((ap4q5 rs x).1.1,(ap4q5 rs x).1.2.1,(ap4q5 rs x).1.2.2.1,(ap4q5 rs x).1.2.2.2.1,max (ap4q5 rs x).1.2.2.2.2.1
 (min eu (ap4q5 rs x).1.2.2.2.2.2.1),(ap4q5 rs x).1.2.2.2.2.2.1,ec,(ap4q5 rs x).1.2.2.2.2.2.2.2.1,(ap4q5 rs x).1.2.2.2.2.2.2.2.2.1,()),z0,())
abbrev ap4q11 (x:jJ9) (ec:Int):=((x.2.2.2.1.getD x.1.toNat ap4q0).1,ec,(x.2.2.2.1.getD x.1.toNat ap4q0).2.2)
abbrev ap4q8 (x:jJ9) (ec ed ei eo eu ef:Int) (ev:List Int) (ea:List At) (en:List Int) (I:ap4_nf_t2) (μ:ap4_nf_t3):=isI64 (x.1 + z1) ∧ (ap4q6 ec ed ei eo eu
 ef ev ea en) = (ap4q6 ec ed ei eo eu ef ev ea en) ∧ (ap4q6 ec ed ei eo eu ef ev ea en) = (ap4q6 ec ed ei eo eu ef ev ea en) ∧ (ap4q6 ec ed ei eo eu ef ev ea en) = (ap4q6 ec ed
 ei eo eu ef ev ea en) ∧ NX I μ x (x.1 + z1,x.2.1,x.2.2.1,x.2.2.2.1.set x.1.toNat (ap4q11 x ec),x.2.2.2.2)
abbrev ap4q1 (x:jJ9) (rs:List Rw) (eu ec ed ei eo ef:Int) (ev:List Int) (ea:List At) (en:List Int) (I:ap4_nf_t2) (μ:ap4_nf_t3):=(IR x.1 x.2.2.2.1) ∧ SD
 (max (ap4q5 rs x).1.2.2.2.2.1 (min eu (ap4q5 rs x).1.2.2.2.2.2.1) < (ap4q5 rs x).1.2.2.2.2.2.1) (roomP BP4 y58 (x.2.2.1.length + [(ap4q7 rs x eu ec)].length) ∧ isI64 (x.1 + z1)
 ∧ (ap4q6 ec ed ei eo eu ef ev ea en) = (ap4q6 ec ed ei eo eu ef ev ea en) ∧ (ap4q6 ec ed ei eo eu ef ev ea en) = (ap4q6 ec ed ei eo eu ef ev ea en) ∧ (ap4q6 ec ed ei eo eu ef ev
 ea en) = (ap4q6 ec ed ei eo eu ef ev ea en) ∧ NX I μ x (x.1 + z1,x.2.1,x.2.2.1 ++ [(ap4q7 rs x eu ec)],x.2.2.2.1.set x.1.toNat (ap4q11 x ec),x.2.2.2.2)) (ap4q8 x ec ed ei eo
 eu ef ev ea en I μ)
abbrev ap4q9 (rs:List Rw) (x:jJ9) (eu ec:Int):=(((ap4q5 rs x).1.1,(ap4q5 rs x).1.2.1,(ap4q5 rs x).1.2.2.1,(ap4q5 rs x).1.2.2.2.1,min eu (ap4q5 rs
 x).1.2.2.2.2.2.1,(ap4q5 rs x).1.2.2.2.2.2.1,ec,(ap4q5 rs x).1.2.2.2.2.2.2.2.1,(ap4q5 rs x).1.2.2.2.2.2.2.2.2.1,()),z0,())
abbrev ap4q2 (x:jJ9) (eu:Int) (rs:List Rw) (ec ed ei eo ef:Int) (ev:List Int) (ea:List At) (en:List Int) (I:ap4_nf_t2) (μ:ap4_nf_t3):=(IR x.1 x.2.2.2.1)
 ∧ SD (min eu (ap4q5 rs x).1.2.2.2.2.2.1 < (ap4q5 rs x).1.2.2.2.2.2.1) (roomP BP4 y58 (x.2.2.1.length + [(ap4q9 rs x eu ec)].length) ∧ isI64 (x.1 + z1) ∧ (ap4q6 ec ed ei eo eu ef
 ev ea en) = (ap4q6 ec ed ei eo eu ef ev ea en) ∧ (ap4q6 ec ed ei eo eu ef ev ea en) = (ap4q6 ec ed ei eo eu ef ev ea en) ∧ (ap4q6 ec ed ei eo eu ef ev ea en) = (ap4q6 ec ed ei
 eo eu ef ev ea en) ∧ NX I μ x (x.1 + z1,x.2.1,x.2.2.1 ++ [(ap4q9 rs x eu ec)],x.2.2.2.1.set x.1.toNat (ap4q11 x ec),x.2.2.2.2)) (ap4q8 x ec ed ei eo eu ef ev ea en I μ)
abbrev ap4q3 (sc:Sc) (cm da:Int) (ds:List Int) (rs:List Rw) (ec ed ei eo eu ef:Int) (ev:List Int) (ea:List At) (en:List Int):=((jQh (sc,cm,da,ds,rs,())
 (ap4q6 ec ed ei eo eu ef ev ea en)).1,(jQh (sc,cm,da,ds,rs,()) (ap4q6 ec ed ei eo eu ef ev ea en)).2.1)
abbrev ap4q4 (x:jJ9) (ec ed ei eo eu ef:Int) (ev:List Int) (ea:List At) (en:List Int) (I:ap4_nf_t2) (μ:ap4_nf_t3):=isI64 (x.1 + z1) ∧ (ap4q6 ec ed ei eo eu
 ef ev ea en) = (ap4q6 ec ed ei eo eu ef ev ea en) ∧ (ap4q6 ec ed ei eo eu ef ev ea en) = (ap4q6 ec ed ei eo eu ef ev ea en) ∧ (ap4q6 ec ed ei eo eu ef ev ea en) = (ap4q6 ec ed
 ei eo eu ef ev ea en) ∧ NX I μ x (x.1 + z1,x.2)
abbrev ap4q10 (sc:Sc) (cm da:Int) (ds:List Int) (rs:List Rw):=((sc.1,sc.2.1,sc.2.2.1,()),cm,da,ds,rs,())
theorem ap4_nf (sc:Sc) (cm da:Int) (ds:List Int) (rs:List Rw) (ec ed ei eo eu ef:Int) (ev:List Int) (ea:List At) (en:List Int):fnwp BP4 8 29 jXw ((sc,cm,
 da,ds,rs,()),((4:Int),ec,ed,ei,eo,eu,ef,ev,ea,en,())) = (isI64 (cm + z1) ∧ SP (!decide (ec = cm + z1)) (((ap4q10 sc cm da ds rs),z9) = (ap4q3 sc cm da ds rs ec
 ed ei eo eu ef ev ea en)) (SD ((1073741824:Int) < ec) (((ap4q10 sc cm da ds rs),z9) = (ap4q3 sc cm da ds rs ec ed ei eo eu ef ev ea en)) (SD (ed < da) (((ap4q10 sc cm da ds
 rs),z9) = (ap4q3 sc cm da ds rs ec ed ei eo eu ef ev ea en)) (SD ((1048576:Int) < ed) (((ap4q10 sc cm da ds rs),z9) = (ap4q3 sc cm da ds rs ec ed ei eo eu ef ev ea en))
 (decide (z4 < z1) = false ∧ decide (z6 ≤ z4) = false ∧ (liveF ei rs).length ≤ y19 ∧ decide ((ln (liveS (sc,cm,da,ds,rs,()) ei)) = z0) = false ∧ (z0 ≤ z4 ∧ z4 < z6) ∧ (IR z0
 (liveS (sc,cm,da,ds,rs,()) ei)) ∧ SD (((liveS (sc,cm,da,ds,rs,()) ei).getD y0 ap4q0).1.2.2.2.2.1 ≤ ed) (((ap4q10 sc cm da ds rs),z4) = (ap4q3 sc cm da ds rs ec ed ei
 eo eu ef ev ea en)) (SD (((liveS (sc,cm,da,ds,rs,()) ei).getD y0 ap4q0).1.2.2.2.2.1 = eu) (((ap4q10 sc cm da ds rs),z4) = (ap4q3 sc cm da ds rs ec ed ei eo eu ef ev ea
 en)) (SD (eu < ed) (((ap4q10 sc cm da ds rs),z9) = (ap4q3 sc cm da ds rs ec ed ei eo eu ef ev ea en)) (isI64 ((ln (liveS (sc,cm,da,ds,rs,()) ei)) - z1) ∧ (IR ((ln (liveS
 (sc,cm,da,ds,rs,()) ei)) - z1) (liveS (sc,cm,da,ds,rs,()) ei)) ∧ SD (((liveS (sc,cm,da,ds,rs,()) ei).getD ((ln (liveS (sc,cm,da,ds,rs,()) ei)) - z1).toNat
 ap4q0).1.2.2.2.2.2.1 ≤ eu) (((ap4q10 sc cm da ds rs),z9) = (ap4q3 sc cm da ds rs ec ed ei eo eu ef ev ea en)) (ds.length ≤ (1000000:Nat) ∧ roomP BP4 y3 (ds.length +
 [ed].length) ∧ rs.length ≤ (1000000:Nat) ∧ LP (z0,z0,rs,ds ++ [ed],sc.1,sc.2.1,sc.2.2.1,ec,ed,((liveS (sc,cm,da,ds,rs,()) ei).getD y0 ap4q0).1.2.2.2.2.1) fun I μ
 x=>SD (x.1 < (ln rs)) ((IR x.1 rs) ∧ SD ((rs.getD x.1.toNat ap4q0).1.1 = ei) (isI64 (x.1 + z1) ∧ (ap4q6 ec ed ei eo eu ef ev ea en) = (ap4q6 ec ed ei eo eu ef ev ea en) ∧
 (ap4q6 ec ed ei eo eu ef ev ea en) = (ap4q6 ec ed ei eo eu ef ev ea en) ∧ (ap4q6 ec ed ei eo eu ef ev ea en) = (ap4q6 ec ed ei eo eu ef ev ea en) ∧ NX I μ x (x.1 + z1,max x.2.1
 (rs.getD x.1.toNat ap4q0).1.2.1,x.2.2)) (isI64 (x.1 + z1) ∧ (ap4q6 ec ed ei eo eu ef ev ea en) = (ap4q6 ec ed ei eo eu ef ev ea en) ∧ (ap4q6 ec ed ei eo eu ef ev ea en) =
 (ap4q6 ec ed ei eo eu ef ev ea en) ∧ (ap4q6 ec ed ei eo eu ef ev ea en) = (ap4q6 ec ed ei eo eu ef ev ea en) ∧ NX I μ x (x.1 + z1,x.2))) (LP (z0,x.2.1,ap4_nf_e1,x.2.2) fun I
 μ x=>SD (x.1 < (ln rs)) ((IR x.1 rs) ∧ SD ((ap4q5 rs x).1.1 = ei) (SP (!decide ((ap4q5 rs x).2.1 = z0)) (ap4q4 x ec ed ei eo eu ef ev ea en I μ) (SD ((ap4q5 rs x).1.2.2.2.2.1
 = x.2.2.2.2.2.2.2.2.2.2) (SD (min eu (ap4q5 rs x).1.2.2.2.2.2.1 = (ap4q5 rs x).1.2.2.2.2.1) (SD ((ap4q5 rs x).1.2.2.2.2.2.1 = (ap4q5 rs x).1.2.2.2.2.2.1) (ap4q4 x ec ed ei eo eu
 ef ev ea en I μ) (ap4q2 x eu rs ec ed ei eo ef ev ea en I μ)) (ap4q2 x eu rs ec ed ei eo ef ev ea en I μ)) (SD (max (ap4q5 rs x).1.2.2.2.2.1 (min eu (ap4q5 rs x).1.2.2.2.2.2.1)
 = (ap4q5 rs x).1.2.2.2.2.1) (SD ((ap4q5 rs x).1.2.2.2.2.2.1 = (ap4q5 rs x).1.2.2.2.2.2.1) (ap4q4 x ec ed ei eo eu ef ev ea en I μ) (ap4q1 x rs eu ec ed ei eo ef ev ea en I μ))
 (ap4q1 x rs eu ec ed ei eo ef ev ea en I μ)))) (ap4q4 x ec ed ei eo eu ef ev ea en I μ)) ((x.2.2.1.length ≤ y19 ∧ (110:Nat) = (110:Nat)) ∧ LP (z0,x.2.1,jQl x.2.2.1,
 x.2.2.2) fun I μ x_1=>SD (x_1.1 < (ln (jQl x.2.2.1))) (isI64 (x_1.2.1 + z1) ∧ isI64 (x_1.2.1 + z1 + x_1.1) ∧ (IR x_1.1 x_1.2.2.1) ∧ isI64 (x_1.1 + z1) ∧ (ap4q6 ec ed ei eo
 eu ef ev ea en) = (ap4q6 ec ed ei eo eu ef ev ea en) ∧ (ap4q6 ec ed ei eo eu ef ev ea en) = (ap4q6 ec ed ei eo eu ef ev ea en) ∧ (ap4q6 ec ed ei eo eu ef ev ea en) = (ap4q6 ec
 ed ei eo eu ef ev ea en) ∧ NX I μ x_1 (x_1.1 + z1,x_1.2.1,x_1.2.2.1.set x_1.1.toNat (((x_1.2.2.1.getD x_1.1.toNat ap4q0).1.1,x_1.2.1 + z1 + x_1.1,(x_1.2.2.1.getD x_1.1.toNat
 ap4q0).1.2.2),(x_1.2.2.1.getD x_1.1.toNat ap4q0).2),x_1.2.2.2)) (isI64 ((ln x_1.2.2.2.1) + (ln x_1.2.2.1)) ∧ SD ((65536:Int) < (ln x_1.2.2.2.1) + (ln x_1.2.2.1)) (((ap4q10
 sc cm da ds rs),z2) = (ap4q3 sc cm da ds rs ec ed ei eo eu ef ev ea en)) (roomP BP4 y58 (x_1.2.2.2.1.length + x_1.2.2.1.length) ∧ (((x_1.2.2.2.2.2.1,x_1.2.2.2.2.2.2.1,
 x_1.2.2.2.2.2.2.2.1,()),x_1.2.2.2.2.2.2.2.2.1,x_1.2.2.2.2.2.2.2.2.2.1,x_1.2.2.2.2.1,x_1.2.2.2.1 ++ x_1.2.2.1,()),z0) = (ap4q3 sc cm da ds rs ec ed ei eo eu ef ev ea
 en)))))))))))))):=by kernel_rfl
end Go.Proofs.YtcnpblceamgfcaaGreatDoor
namespace Go.Proofs.YtcnpblceamgfcaaGreatDoor
open Go.AM Go.PL
attribute [local irreducible] fnwp fnwpG fnwpO
theorem BP4_sound:jQa BP4:=jQ9 ⟨kQu,sat_ent,trivial⟩ ⟨jKf,jKe,trivial⟩ trivial trivial trivial ⟨jKg,trivial⟩
theorem ap4_ok (sc:Sc) (cm da:Int) (ds:List Int) (rs:List Rw) (ec ed ei eo eu ef:Int) (ev:List Int) (ea:List At) (en:List Int) (hn:jQ6 sc) (hrs:rs.length ≤ 50000) (hds:ds.length ≤ 50000) (hv:verF ei rs ≤ 1000000) (hlv:(liveF ei rs).length ≤ 19) (hc0:0 ≤ cm) (hc1:cm ≤ 1000000) (hl:¬ (liveS (sc,cm,da,ds,rs,()) ei).length = 0):fnwp BP4 8 29 jXw ((sc,cm,da,ds,rs,()),((4:Int),ec,ed,ei,eo,eu,ef,ev,ea,en,())):=by
 rw [ap4_nf]; delta jJ9 ap4_nf_t2 ap4_nf_t3 ap4_nf_e0 ap4_nf_e1 ap4q0 ap4q5 ap4q6 ap4q7 ap4q11 ap4q8 ap4q1 ap4q9 ap4q2 ap4q3 ap4q4 ap4q10 IR LP NX SD SP eI ln y0 y19 y3 y58 z0 z1 z2 z4 z6 z9; dsimp only
 have hL:(liveS (sc,cm,da,ds,rs,()) ei).length ≤ 19:=by unfold liveS; rw [jZa]; exact hlv
 have hend:((liveS (sc,cm,da,ds,rs,()) ei).getD (((liveS (sc,cm,da,ds,rs,()) ei).length:Int) - 1).toNat dRw).1.2.2.2.2.2.1 = (endR (liveS (sc,cm,da,ds,rs,()) ei)):=by
  unfold endR
  rw [show (((liveS (sc,cm,da,ds,rs,()) ei).length:Int) - 1).toNat = (liveS (sc,cm,da,ds,rs,()) ei).length - 1 by omega]
 have hend:((liveS (sc,cm,da,ds,rs,()) ei).getD (((liveS (sc,cm,da,ds,rs,()) ei).length:Int) - 1).toNat (((0:Int),(0:Int),(0:Int),(0:Int),(0:Int),(0:Int),(0:Int),[],[],()),(0:Int),())).1.2.2.2.2.2.1 = (endR (liveS (sc,cm,da,ds,rs,()) ei)):=hend
 rw [hend]
 have hlp:(0:Int) ≤ 0 ∧ (0:Int) < ((liveS (sc,cm,da,ds,rs,()) ei).length:Int):=by omega
 have hlq:0 ≤ ((liveS (sc,cm,da,ds,rs,()) ei).length:Int) - 1 ∧ ((liveS (sc,cm,da,ds,rs,()) ei).length:Int) - 1 < ((liveS (sc,cm,da,ds,rs,()) ei).length:Int):=by omega
 have hli:isI64 (((liveS (sc,cm,da,ds,rs,()) ei).length:Int) - 1):=by unfold isI64; omega
 have hv0:=verF_nn ei rs
 have hi0:isI64 (cm + 1):=by unfold isI64; omega
 refine ⟨hi0,fun c1=>jQk (jQ2 (.inl (ndt c1))),fun c1=>⟨fun c2=>jQk (jQ2 (.inr (.inl (dt c2)))),fun c2=>⟨fun c3=>jQk (jQ2 (.inr (.inr (.inl (dt c3))))),fun c3=>⟨fun c4=>jQk (jQ2 (.inr (.inr (.inr (dt c4))))),fun c4=>?_⟩⟩⟩⟩
 have hT:¬ badT ((sc,cm,da,ds,rs,()):Bo) (((4:Int),ec,ed,ei,eo,eu,ef,ev,ea,en,()):Ev):=by
  rintro (g | g | g | g)
  ·exact g (ndf c1)
  ·exact df c2 g
  ·exact df c3 g
  ·exact df c4 g
 have hr8:∀ {C:Ctx},C.P = Tryz.prog → roomP C 3 (ds.length + [ed].length):=fun {C} hC=>roomB 8 (by rw [hC]; kernel_rfl) (by omega) (by rw [List.length_singleton]; omega)
 have hd6:ds.length ≤ 1000000:=by omega
 have hr6:rs.length ≤ 1000000:=by omega
 have hlz:decide (((liveS (sc,cm,da,ds,rs,()) ei).length:Int) = 0) = false:=decide_eq_false (by omega)
 refine ⟨by decide,by decide,hlv,hlz,⟨by decide,by decide⟩,hlp,fun q=>jQk (ap_4a hT rfl hl (.inl (dt q))),fun q=>⟨fun q2=>jQk (ap_4a hT rfl hl (.inr (dt q2))),fun q2=>⟨fun q3=>jQk (ap_4b hT rfl hl (not_or.2 ⟨df q,df q2⟩) (.inl (dt q3))),fun q3=>⟨hli,hlq,fun q4=>jQk (ap_4b hT rfl hl (not_or.2 ⟨df q,df q2⟩) (.inr (dt q4))),fun q4=>?_⟩⟩⟩⟩
 have hA:jQh ((sc,cm,da,ds,rs,()):Bo) (((4:Int),ec,ed,ei,eo,eu,ef,ev,ea,en,()):Ev) = makeD _ _ (embDy eu (fromR ((liveS (sc,cm,da,ds,rs,()) ei).getD 0 dRw))) []:=ap_4c hT rfl hl (not_or.2 ⟨df q,df q2⟩) (not_or.2 ⟨df q3,df q4⟩)
 refine ⟨hd6,hr8 rfl,hr6,fun x=>0 ≤ x.1 ∧ x.1 ≤ rs.length ∧ x.2.1 = verF ei (rs.take x.1.toNat) ∧ x.2.2 = (rs,ds ++ [ed],sc.1,sc.2.1,sc.2.2.1,ec,ed,(fromR ((liveS (sc,cm,da,ds,rs,()) ei).getD 0 dRw))),fun x=>(rs.length - x.1).toNat,⟨by dsimp only; omega,by dsimp only; omega,rfl,rfl⟩,?_⟩
 rintro ⟨i,v,kk⟩ ⟨h0,h1,h2,h3⟩
 dsimp only at h0 h1 h2 h3
 subst h3
 subst h2
 dsimp only
 refine ⟨fun h=>?_,fun h=>?_⟩
 ·have h:=dt h
  have hi:isI64 (i + 1):=by unfold isI64; omega
  have hmu:((rs.length:Int) - (i + 1)).toNat < ((rs.length:Int) - i).toNat:=by omega
  have hs:=jYw ei (rs.take i.toNat) (rs.getD i.toNat dRw)
  rw [← jXd (d:=dRw) h0 h] at hs
  have b0:0 ≤ i + 1:=by omega
  have b1:i + 1 ≤ (rs.length:Int):=by omega
  exact ⟨⟨h0,h⟩,fun c=>⟨hi,rfl,rfl,rfl,⟨b0,b1,(hs.trans (if_pos (dt c))).symm,rfl⟩,hmu⟩,fun c=>⟨hi,rfl,rfl,rfl,⟨b0,b1,(hs.trans (if_neg (df c))).symm,rfl⟩,hmu⟩⟩
 have h:=df h
 rw [List.take_of_length_le (by omega)]
 refine ⟨fun x=>L2 ei ec (embDy eu (fromR ((liveS (sc,cm,da,ds,rs,()) ei).getD 0 dRw))) rs x.1 x.2.2.1 x.2.2.2.1 ∧ x.2.1 = verF ei rs ∧ x.2.2.2.2 = (ds ++ [ed],sc.1,sc.2.1,sc.2.2.1,ec,ed,(fromR ((liveS (sc,cm,da,ds,rs,()) ei).getD 0 dRw))),fun x=>(rs.length - x.1).toNat,⟨l2_zero _ _ _ _,rfl,rfl⟩,?_⟩
 rintro ⟨i,v,ad,rw2,kk⟩ ⟨hI,h2,h3⟩
 dsimp only at hI h2 h3
 subst h3
 subst h2
 dsimp only
 have h0:=hI.1
 have h1:=hI.2.1
 have hsm:=l2_small hI
 have hln:=l2_len hI
 refine ⟨fun h=>?_,fun h=>?_⟩
 ·have h:=dt h
  have hi:isI64 (i + 1):=by unfold isI64; omega
  have hmu:((rs.length:Int) - (i + 1)).toNat < ((rs.length:Int) - i).toNat:=by omega
  have hp:0 ≤ i ∧ i < (rw2.length:Int):=by omega
  have room:∀ r:Rw,roomP BP4 58 (ad.length + [r].length):=fun r=>roomB 112 (by kernel_rfl) (by omega) (by rw [List.length_singleton]; omega)
  exact ⟨⟨h0,h⟩,fun c=>⟨fun d=>⟨hi,rfl,rfl,rfl,⟨jKr hI h (fun g=>ndt d g.2),rfl,rfl⟩,hmu⟩,fun d=>⟨fun co=>⟨fun c1=>⟨fun c2=>⟨hi,rfl,rfl,rfl,⟨l2_skip1 hI h (if_pos (dt co)) (dt c1) (dt c2),rfl,rfl⟩,hmu⟩,fun c2=>⟨hp,fun c3=>⟨room _,hi,rfl,rfl,rfl,⟨l2_add1 hI h (if_pos (dt co)) (dt c) (ndf d) (fun g=>df c2 g.2) (dt c3),rfl,rfl⟩,hmu⟩,fun c3=>⟨hi,rfl,rfl,rfl,⟨l2_die1 hI h (if_pos (dt co)) (dt c) (ndf d) (fun g=>df c2 g.2) (df c3),rfl,rfl⟩,hmu⟩⟩⟩,fun c1=>⟨hp,fun c3=>⟨room _,hi,rfl,rfl,rfl,⟨l2_add1 hI h (if_pos (dt co)) (dt c) (ndf d) (fun g=>df c1 g.1) (dt c3),rfl,rfl⟩,hmu⟩,fun c3=>⟨hi,rfl,rfl,rfl,⟨l2_die1 hI h (if_pos (dt co)) (dt c) (ndf d) (fun g=>df c1 g.1) (df c3),rfl,rfl⟩,hmu⟩⟩⟩,fun co=>⟨fun c1=>⟨fun c2=>⟨hi,rfl,rfl,rfl,⟨l2_skip1 hI h (if_neg (df co)) (dt c1) (dt c2),rfl,rfl⟩,hmu⟩,fun c2=>⟨hp,fun c3=>⟨room _,hi,rfl,rfl,rfl,⟨l2_add1 hI h (if_neg (df co)) (dt c) (ndf d) (fun g=>df c2 g.2) (dt c3),rfl,rfl⟩,hmu⟩,fun c3=>⟨hi,rfl,rfl,rfl,⟨l2_die1 hI h (if_neg (df co)) (dt c) (ndf d) (fun g=>df c2 g.2) (df c3),rfl,rfl⟩,hmu⟩⟩⟩,fun c1=>⟨hp,fun c3=>⟨room _,hi,rfl,rfl,rfl,⟨l2_add1 hI h (if_neg (df co)) (dt c) (ndf d) (fun g=>df c1 g.1) (dt c3),rfl,rfl⟩,hmu⟩,fun c3=>⟨hi,rfl,rfl,rfl,⟨l2_die1 hI h (if_neg (df co)) (dt c) (ndf d) (fun g=>df c1 g.1) (df c3),rfl,rfl⟩,hmu⟩⟩⟩⟩⟩,fun c=>⟨hi,rfl,rfl,rfl,⟨jKr hI h (fun g=>df c g.1),rfl,rfl⟩,hmu⟩⟩
 have h:=df h
 obtain ⟨e1,e2⟩:=l2_end hI h
 have hal:(jQl ad).length ≤ 19:=by rw [jZa]; omega
 have hAl:(jQl ad).length ≤ 20:=by omega
 refine ⟨⟨by omega,rfl⟩,fun x=>L3 (verF ei rs) (jQl ad) x.1 x.2.2.1 ∧ x.2.1 = verF ei rs ∧ x.2.2.2 = (rw2,ds ++ [ed],sc.1,sc.2.1,sc.2.2.1,ec,ed,(fromR ((liveS (sc,cm,da,ds,rs,()) ei).getD 0 dRw))),fun x=>((jQl ad).length - x.1).toNat,⟨l3_zero _ _,rfl,rfl⟩,?_⟩
 rintro ⟨j,v,c,kk⟩ ⟨g1,h2,h3⟩
 dsimp only at g1 h2 h3
 subst h3
 subst h2
 dsimp only
 have j0:=g1.1
 have hcl:=l3_len g1
 refine ⟨fun h=>?_,fun h=>?_⟩
 ·have h:j < (((jQl ad).length:Nat):Int):=dt h
  exact ⟨by unfold isI64; omega,by unfold isI64; omega,⟨j0,by omega⟩,by unfold isI64; omega,rfl,rfl,rfl,⟨l3_step g1 h,rfl,rfl⟩,by omega⟩
 have h:¬ j < (((jQl ad).length:Nat):Int):=df h
 have hc:=l3_end g1 h
 rw [e1] at hc
 have hsum:isI64 ((rw2.length:Int) + (c.length:Int)):=by unfold isI64; omega
 have hroom:roomP BP4 58 (rw2.length + c.length):=roomB 112 (by kernel_rfl) (by omega) (by omega)
 have hM:=mk0 hA e2 hc
 exact ⟨hsum,fun z=>jQk (hM.trans (fin_lim (fun g=>Bool.false_ne_true g.1) (dt z))),fun z=>⟨hroom,jQk (hM.trans (fin_fine (fun g=>Bool.false_ne_true g.1) (df z)))⟩⟩
end Go.Proofs.YtcnpblceamgfcaaGreatDoor
namespace Go.Proofs.YtcnpblceamgfcaaGreatDoor
open Go.AM Go.PL
abbrev ap5_nf_e0:List (List Int × Int × Int × List Int × Unit):=[]
abbrev ap5_nf_e1:List ((Int × Int × Int × Int × Int × Int × Int × List Int × List (List Int × Int × Int × List Int × Unit) × Unit) × Int × Unit):=[]
abbrev ap5q1 (sc:Sc) (cm da:Int) (ds:List Int) (rs:List Rw) (ec ed ei eo eu ef:Int) (ev:List Int) (ea:List At) (en:List Int):=((jQh (sc,cm,da,ds,rs,())
 (z5,ec,ed,ei,eo,eu,ef,ev,ea,en,())).1,(jQh (sc,cm,da,ds,rs,()) (z5,ec,ed,ei,eo,eu,ef,ev,ea,en,())).2.1)
abbrev ap5q2:=((z0,z0,z0,z0,z0,z0,z0,eI,ap5_nf_e0,()),z0,())
abbrev ap5q3 (sc:Sc):=(sc.1,sc.2.1,sc.2.2.1,())
abbrev ap5q0 (ds:List Int) (ed:Int) (rs:List Rw) (sc:Sc) (ec ei cm da eo eu ef:Int) (ev:List Int) (ea:List At) (en:List Int):=(z0 ≤ z5 ∧ z5 < z6) ∧ ds.length ≤
 (1000000:Nat) ∧ roomP BP5 y3 (ds.length + [ed].length) ∧ rs.length ≤ (1000000:Nat) ∧ LP (z0,z0,rs,ds ++ [ed],sc.1,sc.2.1,sc.2.2.1,ec,ed) fun I μ x=>SD (x.1 < (ln
 rs)) ((IR x.1 rs) ∧ SD ((rs.getD x.1.toNat ap5q2).1.1 = ei) (isI64 (x.1 + z1) ∧ NX I μ x (x.1 + z1,max x.2.1 (rs.getD x.1.toNat ap5q2).1.2.1,x.2.2)) (isI64 (x.1 + z1) ∧ NX I μ
 x (x.1 + z1,x.2))) (LP (z0,x.2.1,ap5_nf_e1,x.2.2) fun I μ x=>SD (x.1 < (ln rs)) ((IR x.1 rs) ∧ SD ((rs.getD x.1.toNat ap5q2).1.1 = ei) (SP (!decide ((rs.getD x.1.toNat
 ap5q2).2.1 = z0)) (isI64 (x.1 + z1) ∧ NX I μ x (x.1 + z1,x.2)) (isI64 (x.1 + z1) ∧ NX I μ x (x.1 + z1,x.2))) (isI64 (x.1 + z1) ∧ NX I μ x (x.1 + z1,x.2))) ((x.2.2.1.length ≤
 y19 ∧ (110:Nat) = (110:Nat)) ∧ LP (z0,x.2.1,jQl x.2.2.1,x.2.2.2) fun I μ x_1=>SD (x_1.1 < (ln (jQl x.2.2.1))) (isI64 (x_1.2.1 + z1) ∧ isI64 (x_1.2.1 + z1 + x_1.1)
 ∧ (IR x_1.1 x_1.2.2.1) ∧ isI64 (x_1.1 + z1) ∧ NX I μ x_1 (x_1.1 + z1,x_1.2.1,x_1.2.2.1.set x_1.1.toNat (((x_1.2.2.1.getD x_1.1.toNat ap5q2).1.1,x_1.2.1 + z1 + x_1.1,
 (x_1.2.2.1.getD x_1.1.toNat ap5q2).1.2.2),(x_1.2.2.1.getD x_1.1.toNat ap5q2).2),x_1.2.2.2)) (isI64 ((ln x_1.2.2.2.1) + (ln x_1.2.2.1)) ∧ SD ((65536:Int) < (ln x_1.2.2.2.1) +
 (ln x_1.2.2.1)) ((((ap5q3 sc),cm,da,ds,rs,()),z2) = (ap5q1 sc cm da ds rs ec ed ei eo eu ef ev ea en)) (roomP BP5 y58 (x_1.2.2.2.1.length + x_1.2.2.1.length) ∧
 (((x_1.2.2.2.2.2.1,x_1.2.2.2.2.2.2.1,x_1.2.2.2.2.2.2.2.1,()),x_1.2.2.2.2.2.2.2.2.1,x_1.2.2.2.2.2.2.2.2.2,x_1.2.2.2.2.1,x_1.2.2.2.1 ++ x_1.2.2.1,()),z0) = (ap5q1 sc cm
 da ds rs ec ed ei eo eu ef ev ea en)))))
theorem ap5_nf (sc:Sc) (cm da:Int) (ds:List Int) (rs:List Rw) (ec ed ei eo eu ef:Int) (ev:List Int) (ea:List At) (en:List Int):fnwp BP5 8 29 jXw ((sc,cm,
 da,ds,rs,()),((5:Int),ec,ed,ei,eo,eu,ef,ev,ea,en,())) = (isI64 (cm + z1) ∧ SP (!decide (ec = cm + z1)) ((((ap5q3 sc),cm,da,ds,rs,()),z9) = (ap5q1 sc cm da
 ds rs ec ed ei eo eu ef ev ea en)) (SD ((1073741824:Int) < ec) ((((ap5q3 sc),cm,da,ds,rs,()),z9) = (ap5q1 sc cm da ds rs ec ed ei eo eu ef ev ea en)) (SD (ed < da)
 ((((ap5q3 sc),cm,da,ds,rs,()),z9) = (ap5q1 sc cm da ds rs ec ed ei eo eu ef ev ea en)) (SD ((1048576:Int) < ed) ((((ap5q3 sc),cm,da,ds,rs,()),z9) = (ap5q1 sc cm da
 ds rs ec ed ei eo eu ef ev ea en)) (decide (z5 < z1) = false ∧ decide (z6 ≤ z5) = false ∧ (liveF ei rs).length ≤ y19 ∧ SD ((ln (liveS (sc,cm,da,ds,rs,()) ei)) = z0) (SP
 (!decide (z5 = z1)) (SP (!decide (z5 = z5)) ((((ap5q3 sc),cm,da,ds,rs,()),z5) = (ap5q1 sc cm da ds rs ec ed ei eo eu ef ev ea en)) (ap5q0 ds ed rs sc ec ei cm da eo eu ef
 ev ea en)) (ap5q0 ds ed rs sc ec ei cm da eo eu ef ev ea en)) (ap5q0 ds ed rs sc ec ei cm da eo eu ef ev ea en)))))):=by kernel_rfl
end Go.Proofs.YtcnpblceamgfcaaGreatDoor
namespace Go.Proofs.YtcnpblceamgfcaaGreatDoor
open Go.AM Go.PL
attribute [local irreducible] fnwp fnwpG fnwpO
theorem BP5_sound:jQa BP5:=jQ9 ⟨kQu,sat_ent,trivial⟩ ⟨jKf,jKe,trivial⟩ trivial trivial trivial ⟨jKg,trivial⟩
theorem ap5_ok (sc:Sc) (cm da:Int) (ds:List Int) (rs:List Rw) (ec ed ei eo eu ef:Int) (ev:List Int) (ea:List At) (en:List Int) (hn:jQ6 sc) (hrs:rs.length ≤ 50000) (hds:ds.length ≤ 50000) (hv:verF ei rs ≤ 1000000) (hlv:(liveF ei rs).length ≤ 19) (hc0:0 ≤ cm) (hc1:cm ≤ 1000000):fnwp BP5 8 29 jXw ((sc,cm,da,ds,rs,()),((5:Int),ec,ed,ei,eo,eu,ef,ev,ea,en,())):=by
 rw [ap5_nf]; delta ap5_nf_e0 ap5_nf_e1 ap5q1 ap5q2 ap5q3 ap5q0 IR LP NX SD SP eI ln y19 y3 y58 z0 z1 z2 z5 z6 z9; dsimp only
 have hL:(liveS (sc,cm,da,ds,rs,()) ei).length ≤ 19:=by unfold liveS; rw [jZa]; exact hlv
 have hv0:=verF_nn ei rs
 have hi0:isI64 (cm + 1):=by unfold isI64; omega
 refine ⟨hi0,fun c1=>jQk (jQ2 (.inl (ndt c1))),fun c1=>⟨fun c2=>jQk (jQ2 (.inr (.inl (dt c2)))),fun c2=>⟨fun c3=>jQk (jQ2 (.inr (.inr (.inl (dt c3))))),fun c3=>⟨fun c4=>jQk (jQ2 (.inr (.inr (.inr (dt c4))))),fun c4=>?_⟩⟩⟩⟩
 have hT:¬ badT ((sc,cm,da,ds,rs,()):Bo) (((5:Int),ec,ed,ei,eo,eu,ef,ev,ea,en,()):Ev):=by
  rintro (g | g | g | g)
  ·exact g (ndf c1)
  ·exact df c2 g
  ·exact df c3 g
  ·exact df c4 g
 have hr8:∀ {C:Ctx},C.P = Tryz.prog → roomP C 3 (ds.length + [ed].length):=fun {C} hC=>roomB 8 (by rw [hC]; kernel_rfl) (by omega) (by rw [List.length_singleton]; omega)
 have hd6:ds.length ≤ 1000000:=by omega
 have hr6:rs.length ≤ 1000000:=by omega
 refine ⟨by decide,by decide,hlv,three1 (fun _ q=>absurd q (by decide)) ?_⟩
 have hA:jQh ((sc,cm,da,ds,rs,()):Bo) (((5:Int),ec,ed,ei,eo,eu,ef,ev,ea,en,()):Ev) = makeD _ _ idDy []:=ap_5 hT rfl
 refine ⟨⟨by decide,by decide⟩,?_⟩
 refine ⟨hd6,hr8 rfl,hr6,fun x=>0 ≤ x.1 ∧ x.1 ≤ rs.length ∧ x.2.1 = verF ei (rs.take x.1.toNat) ∧ x.2.2 = (rs,ds ++ [ed],sc.1,sc.2.1,sc.2.2.1,ec,ed),fun x=>(rs.length - x.1).toNat,⟨by dsimp only; omega,by dsimp only; omega,rfl,rfl⟩,?_⟩
 rintro ⟨i,v,kk⟩ ⟨h0,h1,h2,h3⟩
 dsimp only at h0 h1 h2 h3
 subst h3
 subst h2
 dsimp only
 refine ⟨fun h=>?_,fun h=>?_⟩
 ·have h:=dt h
  have hi:isI64 (i + 1):=by unfold isI64; omega
  have hmu:((rs.length:Int) - (i + 1)).toNat < ((rs.length:Int) - i).toNat:=by omega
  have hs:=jYw ei (rs.take i.toNat) (rs.getD i.toNat dRw)
  rw [← jXd (d:=dRw) h0 h] at hs
  have b0:0 ≤ i + 1:=by omega
  have b1:i + 1 ≤ (rs.length:Int):=by omega
  exact ⟨⟨h0,h⟩,fun c=>⟨hi,⟨b0,b1,(hs.trans (if_pos (dt c))).symm,rfl⟩,hmu⟩,fun c=>⟨hi,⟨b0,b1,(hs.trans (if_neg (df c))).symm,rfl⟩,hmu⟩⟩
 have h:=df h
 rw [List.take_of_length_le (by omega)]
 refine ⟨fun x=>L2 ei ec idDy rs x.1 x.2.2.1 x.2.2.2.1 ∧ x.2.1 = verF ei rs ∧ x.2.2.2.2 = (ds ++ [ed],sc.1,sc.2.1,sc.2.2.1,ec,ed),fun x=>(rs.length - x.1).toNat,⟨l2_zero _ _ _ _,rfl,rfl⟩,?_⟩
 rintro ⟨i,v,ad,rw2,kk⟩ ⟨hI,h2,h3⟩
 dsimp only at hI h2 h3
 subst h3
 subst h2
 dsimp only
 have h0:=hI.1
 have h1:=hI.2.1
 have hsm:=l2_small hI
 have hln:=l2_len hI
 refine ⟨fun h=>?_,fun h=>?_⟩
 ·have h:=dt h
  have hi:isI64 (i + 1):=by unfold isI64; omega
  have hmu:((rs.length:Int) - (i + 1)).toNat < ((rs.length:Int) - i).toNat:=by omega
  exact ⟨⟨h0,h⟩,fun c=>⟨fun d=>⟨hi,⟨jKr hI h (fun g=>ndt d g.2),rfl,rfl⟩,hmu⟩,fun d=>⟨hi,⟨l2_skip1 hI h rfl rfl rfl,rfl,rfl⟩,hmu⟩⟩,fun c=>⟨hi,⟨jKr hI h (fun g=>df c g.1),rfl,rfl⟩,hmu⟩⟩
 have h:=df h
 obtain ⟨e1,e2⟩:=l2_end hI h
 have hal:(jQl ad).length ≤ 19:=by rw [jZa]; omega
 have hAl:(jQl ad).length ≤ 20:=by omega
 refine ⟨⟨by omega,rfl⟩,fun x=>L3 (verF ei rs) (jQl ad) x.1 x.2.2.1 ∧ x.2.1 = verF ei rs ∧ x.2.2.2 = (rw2,ds ++ [ed],sc.1,sc.2.1,sc.2.2.1,ec,ed),fun x=>((jQl ad).length - x.1).toNat,⟨l3_zero _ _,rfl,rfl⟩,?_⟩
 rintro ⟨j,v,c,kk⟩ ⟨g1,h2,h3⟩
 dsimp only at g1 h2 h3
 subst h3
 subst h2
 dsimp only
 have j0:=g1.1
 have hcl:=l3_len g1
 refine ⟨fun h=>?_,fun h=>?_⟩
 ·have h:j < (((jQl ad).length:Nat):Int):=dt h
  exact ⟨by unfold isI64; omega,by unfold isI64; omega,⟨j0,by omega⟩,by unfold isI64; omega,⟨l3_step g1 h,rfl,rfl⟩,by omega⟩
 have h:¬ j < (((jQl ad).length:Nat):Int):=df h
 have hc:=l3_end g1 h
 rw [e1] at hc
 have hsum:isI64 ((rw2.length:Int) + (c.length:Int)):=by unfold isI64; omega
 have hroom:roomP BP5 58 (rw2.length + c.length):=roomB 112 (by kernel_rfl) (by omega) (by omega)
 have hM:=mk0 hA e2 hc
 exact ⟨hsum,fun z=>jQk (hM.trans (fin_lim (fun g=>Bool.false_ne_true g.1) (dt z))),fun z=>⟨hroom,jQk (hM.trans (fin_fine (fun g=>Bool.false_ne_true g.1) (df z)))⟩⟩
end Go.Proofs.YtcnpblceamgfcaaGreatDoor
namespace Go.Proofs.YtcnpblceamgfcaaGreatDoor
open Go.AM Go.PL
abbrev ap02q0 (sc:Sc) (cm da:Int) (ds:List Int) (rs:List Rw) (ec ed ei eo eu ef:Int) (ev:List Int) (ea:List At) (en:List Int):=(((sc.1,sc.2.1,sc.2.2.1,()),
 cm,da,ds,rs,()),z9) = ((jQh (sc,cm,da,ds,rs,()) (z2,ec,ed,ei,eo,eu,ef,ev,ea,en,())).1,(jQh (sc,cm,da,ds,rs,()) (z2,ec,ed,ei,eo,eu,ef,ev,
 ea,en,())).2.1)
theorem ap02_nf (sc:Sc) (cm da:Int) (ds:List Int) (rs:List Rw) (ec ed ei eo eu ef:Int) (ev:List Int) (ea:List At) (en:List Int):fnwp BP0 8 29 jXw ((sc,cm,
 da,ds,rs,()),((2:Int),ec,ed,ei,eo,eu,ef,ev,ea,en,())) = (isI64 (cm + z1) ∧ SP (!decide (ec = cm + z1)) (ap02q0 sc cm da ds rs ec ed ei eo eu ef ev ea en) (SD
 ((1073741824:Int) < ec) (ap02q0 sc cm da ds rs ec ed ei eo eu ef ev ea en) (SD (ed < da) (ap02q0 sc cm da ds rs ec ed ei eo eu ef ev ea en) (SD ((1048576:Int) < ed) (ap02q0
 sc cm da ds rs ec ed ei eo eu ef ev ea en) (decide (z2 < z1) = false ∧ decide (z6 ≤ z2) = false ∧ (liveF ei rs).length ≤ y19 ∧ decide ((ln (liveS (sc,cm,da,ds,rs,()) ei)) =
 z0) = true ∧ (!decide (z2 = z1)) = true ∧ (!decide (z2 = z5)) = true ∧ (((sc.1,sc.2.1,sc.2.2.1,()),cm,da,ds,rs,()),z5) = ((jQh (sc,cm,da,ds,rs,()) (z2,ec,ed,
 ei,eo,eu,ef,ev,ea,en,())).1,(jQh (sc,cm,da,ds,rs,()) (z2,ec,ed,ei,eo,eu,ef,ev,ea,en,())).2.1)))))):=by kernel_rfl
abbrev ap03q0 (sc:Sc) (cm da:Int) (ds:List Int) (rs:List Rw) (ec ed ei eo eu ef:Int) (ev:List Int) (ea:List At) (en:List Int):=(((sc.1,sc.2.1,sc.2.2.1,()),
 cm,da,ds,rs,()),z9) = ((jQh (sc,cm,da,ds,rs,()) (z3,ec,ed,ei,eo,eu,ef,ev,ea,en,())).1,(jQh (sc,cm,da,ds,rs,()) (z3,ec,ed,ei,eo,eu,ef,ev,
 ea,en,())).2.1)
theorem ap03_nf (sc:Sc) (cm da:Int) (ds:List Int) (rs:List Rw) (ec ed ei eo eu ef:Int) (ev:List Int) (ea:List At) (en:List Int):fnwp BP0 8 29 jXw ((sc,cm,
 da,ds,rs,()),((3:Int),ec,ed,ei,eo,eu,ef,ev,ea,en,())) = (isI64 (cm + z1) ∧ SP (!decide (ec = cm + z1)) (ap03q0 sc cm da ds rs ec ed ei eo eu ef ev ea en) (SD
 ((1073741824:Int) < ec) (ap03q0 sc cm da ds rs ec ed ei eo eu ef ev ea en) (SD (ed < da) (ap03q0 sc cm da ds rs ec ed ei eo eu ef ev ea en) (SD ((1048576:Int) < ed) (ap03q0
 sc cm da ds rs ec ed ei eo eu ef ev ea en) (decide (z3 < z1) = false ∧ decide (z6 ≤ z3) = false ∧ (liveF ei rs).length ≤ y19 ∧ decide ((ln (liveS (sc,cm,da,ds,rs,()) ei)) =
 z0) = true ∧ (!decide (z3 = z1)) = true ∧ (!decide (z3 = z5)) = true ∧ (((sc.1,sc.2.1,sc.2.2.1,()),cm,da,ds,rs,()),z5) = ((jQh (sc,cm,da,ds,rs,()) (z3,ec,ed,
 ei,eo,eu,ef,ev,ea,en,())).1,(jQh (sc,cm,da,ds,rs,()) (z3,ec,ed,ei,eo,eu,ef,ev,ea,en,())).2.1)))))):=by kernel_rfl
abbrev ap04q0 (sc:Sc) (cm da:Int) (ds:List Int) (rs:List Rw) (ec ed ei eo eu ef:Int) (ev:List Int) (ea:List At) (en:List Int):=(((sc.1,sc.2.1,sc.2.2.1,()),
 cm,da,ds,rs,()),z9) = ((jQh (sc,cm,da,ds,rs,()) (z4,ec,ed,ei,eo,eu,ef,ev,ea,en,())).1,(jQh (sc,cm,da,ds,rs,()) (z4,ec,ed,ei,eo,eu,ef,ev,
 ea,en,())).2.1)
theorem ap04_nf (sc:Sc) (cm da:Int) (ds:List Int) (rs:List Rw) (ec ed ei eo eu ef:Int) (ev:List Int) (ea:List At) (en:List Int):fnwp BP0 8 29 jXw ((sc,cm,
 da,ds,rs,()),((4:Int),ec,ed,ei,eo,eu,ef,ev,ea,en,())) = (isI64 (cm + z1) ∧ SP (!decide (ec = cm + z1)) (ap04q0 sc cm da ds rs ec ed ei eo eu ef ev ea en) (SD
 ((1073741824:Int) < ec) (ap04q0 sc cm da ds rs ec ed ei eo eu ef ev ea en) (SD (ed < da) (ap04q0 sc cm da ds rs ec ed ei eo eu ef ev ea en) (SD ((1048576:Int) < ed) (ap04q0
 sc cm da ds rs ec ed ei eo eu ef ev ea en) (decide (z4 < z1) = false ∧ decide (z6 ≤ z4) = false ∧ (liveF ei rs).length ≤ y19 ∧ decide ((ln (liveS (sc,cm,da,ds,rs,()) ei)) =
 z0) = true ∧ (!decide (z4 = z1)) = true ∧ (!decide (z4 = z5)) = true ∧ (((sc.1,sc.2.1,sc.2.2.1,()),cm,da,ds,rs,()),z5) = ((jQh (sc,cm,da,ds,rs,()) (z4,ec,ed,
 ei,eo,eu,ef,ev,ea,en,())).1,(jQh (sc,cm,da,ds,rs,()) (z4,ec,ed,ei,eo,eu,ef,ev,ea,en,())).2.1)))))):=by kernel_rfl
abbrev ap6q0 (sc:Sc) (cm da:Int) (ds:List Int) (rs:List Rw) (ek ec ed ei eo eu ef:Int) (ev:List Int) (ea:List At) (en:List Int):=((jQh (sc,cm,da,ds,rs,
 ()) (ek,ec,ed,ei,eo,eu,ef,ev,ea,en,())).1,(jQh (sc,cm,da,ds,rs,()) (ek,ec,ed,ei,eo,eu,ef,ev,ea,en,())).2.1)
abbrev ap6q1 (sc:Sc):=(sc.1,sc.2.1,sc.2.2.1,())
theorem ap6_nf (sc:Sc) (cm da:Int) (ds:List Int) (rs:List Rw) (ek ec ed ei eo eu ef:Int) (ev:List Int) (ea:List At) (en:List Int):fnwp BP6 8 29 jXw ((sc,
 cm,da,ds,rs,()),(ek,ec,ed,ei,eo,eu,ef,ev,ea,en,())) = (isI64 (cm + z1) ∧ SP (!decide (ec = cm + z1)) ((((ap6q1 sc),cm,da,ds,rs,()),z9) = (ap6q0 sc cm da ds
 rs ek ec ed ei eo eu ef ev ea en)) (SD ((1073741824:Int) < ec) ((((ap6q1 sc),cm,da,ds,rs,()),z9) = (ap6q0 sc cm da ds rs ek ec ed ei eo eu ef ev ea en)) (SD (ed < da)
 ((((ap6q1 sc),cm,da,ds,rs,()),z9) = (ap6q0 sc cm da ds rs ek ec ed ei eo eu ef ev ea en)) (SD ((1048576:Int) < ed) ((((ap6q1 sc),cm,da,ds,rs,()),z9) = (ap6q0 sc cm
 da ds rs ek ec ed ei eo eu ef ev ea en)) (SD (ek < z1) ((((ap6q1 sc),cm,da,ds,rs,()),z1) = (ap6q0 sc cm da ds rs ek ec ed ei eo eu ef ev ea en)) (decide (z6 ≤ ek) = true ∧
 (((ap6q1 sc),cm,da,ds,rs,()),z1) = (ap6q0 sc cm da ds rs ek ec ed ei eo eu ef ev ea en))))))):=by kernel_rfl
end Go.Proofs.YtcnpblceamgfcaaGreatDoor
namespace Go.Proofs.YtcnpblceamgfcaaGreatDoor
open Go.AM Go.PL
attribute [local irreducible] fnwp fnwpG fnwpO
theorem BP0_sound:jQa BP0:=jQ9 ⟨kQu,sat_ent,trivial⟩ ⟨jKf,jKe,trivial⟩ trivial trivial trivial ⟨jKg,trivial⟩
theorem BP6_sound:jQa BP6:=jQ9 ⟨kQu,sat_ent,trivial⟩ ⟨jKf,jKe,trivial⟩ trivial trivial trivial ⟨jKg,trivial⟩
theorem ap0_tm {cm da ec ed:Int} {b:Bo} {e:Ev} (hb1:b.2.1 = cm) (hb2:b.2.2.1 = da) (he1:e.2.1 = ec) (he2:e.2.2.1 = ed) (c1:(!decide (ec = cm + 1)) = false) (c2:decide (1073741824 < ec) = false) (c3:decide (ed < da) = false) (c4:decide (1048576 < ed) = false):¬ badT b e:=by
 subst hb1 hb2 he1 he2
 rintro (g | g | g | g)
 ·exact g (ndf c1)
 ·exact df c2 g
 ·exact df c3 g
 ·exact df c4 g
theorem ap02_ok (sc:Sc) (cm da:Int) (ds:List Int) (rs:List Rw) (ec ed ei eo eu ef:Int) (ev:List Int) (ea:List At) (en:List Int) (hlv:(liveF ei rs).length ≤ 19) (hc0:0 ≤ cm) (hc1:cm ≤ 1000000) (hl:(liveS (sc,cm,da,ds,rs,()) ei).length = 0):fnwp BP0 8 29 jXw ((sc,cm,da,ds,rs,()),((2:Int),ec,ed,ei,eo,eu,ef,ev,ea,en,())):=by
 rw [ap02_nf]; delta ap02q0 SD SP ln y19 z0 z1 z2 z5 z6 z9
 have hi0:isI64 (cm + 1):=by unfold isI64; omega
 exact ⟨hi0,fun c1=>jQk (jQ2 (.inl (ndt c1))),fun c1=>⟨fun c2=>jQk (jQ2 (.inr (.inl (dt c2)))),fun c2=>⟨fun c3=>jQk (jQ2 (.inr (.inr (.inl (dt c3))))),fun c3=>⟨fun c4=>jQk (jQ2 (.inr (.inr (.inr (dt c4))))),fun c4 =>
  ⟨by decide,by decide,hlv,decide_eq_true (by omega),by decide,by decide,jQk (ap_none (ap0_tm rfl rfl rfl rfl c1 c2 c3 c4) (by dsimp only; omega) hl)⟩⟩⟩⟩⟩
theorem ap03_ok (sc:Sc) (cm da:Int) (ds:List Int) (rs:List Rw) (ec ed ei eo eu ef:Int) (ev:List Int) (ea:List At) (en:List Int) (hlv:(liveF ei rs).length ≤ 19) (hc0:0 ≤ cm) (hc1:cm ≤ 1000000) (hl:(liveS (sc,cm,da,ds,rs,()) ei).length = 0):fnwp BP0 8 29 jXw ((sc,cm,da,ds,rs,()),((3:Int),ec,ed,ei,eo,eu,ef,ev,ea,en,())):=by
 rw [ap03_nf]; delta ap03q0 SD SP ln y19 z0 z1 z3 z5 z6 z9
 have hi0:isI64 (cm + 1):=by unfold isI64; omega
 exact ⟨hi0,fun c1=>jQk (jQ2 (.inl (ndt c1))),fun c1=>⟨fun c2=>jQk (jQ2 (.inr (.inl (dt c2)))),fun c2=>⟨fun c3=>jQk (jQ2 (.inr (.inr (.inl (dt c3))))),fun c3=>⟨fun c4=>jQk (jQ2 (.inr (.inr (.inr (dt c4))))),fun c4 =>
  ⟨by decide,by decide,hlv,decide_eq_true (by omega),by decide,by decide,jQk (ap_none (ap0_tm rfl rfl rfl rfl c1 c2 c3 c4) (by dsimp only; omega) hl)⟩⟩⟩⟩⟩
theorem ap04_ok (sc:Sc) (cm da:Int) (ds:List Int) (rs:List Rw) (ec ed ei eo eu ef:Int) (ev:List Int) (ea:List At) (en:List Int) (hlv:(liveF ei rs).length ≤ 19) (hc0:0 ≤ cm) (hc1:cm ≤ 1000000) (hl:(liveS (sc,cm,da,ds,rs,()) ei).length = 0):fnwp BP0 8 29 jXw ((sc,cm,da,ds,rs,()),((4:Int),ec,ed,ei,eo,eu,ef,ev,ea,en,())):=by
 rw [ap04_nf]; delta ap04q0 SD SP ln y19 z0 z1 z4 z5 z6 z9
 have hi0:isI64 (cm + 1):=by unfold isI64; omega
 exact ⟨hi0,fun c1=>jQk (jQ2 (.inl (ndt c1))),fun c1=>⟨fun c2=>jQk (jQ2 (.inr (.inl (dt c2)))),fun c2=>⟨fun c3=>jQk (jQ2 (.inr (.inr (.inl (dt c3))))),fun c3=>⟨fun c4=>jQk (jQ2 (.inr (.inr (.inr (dt c4))))),fun c4 =>
  ⟨by decide,by decide,hlv,decide_eq_true (by omega),by decide,by decide,jQk (ap_none (ap0_tm rfl rfl rfl rfl c1 c2 c3 c4) (by dsimp only; omega) hl)⟩⟩⟩⟩⟩
theorem ap6_ok (sc:Sc) (cm da:Int) (ds:List Int) (rs:List Rw) (ek ec ed ei eo eu ef:Int) (ev:List Int) (ea:List At) (en:List Int) (hc0:0 ≤ cm) (hc1:cm ≤ 1000000) (hk:ek < 1 ∨ 6 ≤ ek):fnwp BP6 8 29 jXw ((sc,cm,da,ds,rs,()),(ek,ec,ed,ei,eo,eu,ef,ev,ea,en,())):=by
 rw [ap6_nf]; delta ap6q0 ap6q1 SD SP z1 z6 z9
 have hi0:isI64 (cm + 1):=by unfold isI64; omega
 exact ⟨hi0,fun c1=>jQk (jQ2 (.inl (ndt c1))),fun c1=>⟨fun c2=>jQk (jQ2 (.inr (.inl (dt c2)))),fun c2=>⟨fun c3=>jQk (jQ2 (.inr (.inr (.inl (dt c3))))),fun c3=>⟨fun c4=>jQk (jQ2 (.inr (.inr (.inr (dt c4))))),fun c4 =>
  ⟨fun k=>jQk (ap_arg (ap0_tm rfl rfl rfl rfl c1 c2 c3 c4) (.inl (dt k))),fun k=>⟨decide_eq_true (by have:=df k; omega),jQk (ap_arg (ap0_tm rfl rfl rfl rfl c1 c2 c3 c4) (.inr (by have:=df k; dsimp only; omega)))⟩⟩⟩⟩⟩⟩
theorem sat_apply:Sat bs.P 29 jXw:=sat_each (m:=8) fun (⟨⟨sc,cm,da,ds,rs,⟨⟩⟩,⟨ek,ec,ed,ei,eo,eu,ef,ev,ea,en,⟨⟩⟩⟩:Bo × Ev) hok hp=>by
 obtain ⟨⟨hn,hrs,hds,hv⟩,hlv,hc0,hc1⟩:(jQ6 sc ∧ rs.length ≤ 50000 ∧ ds.length ≤ 50000 ∧ verF ei rs ≤ 1000000) ∧ (liveF ei rs).length ≤ 19 ∧ 0 ≤ cm ∧ cm ≤ 1000000:=hp
 by_cases k1:ek = 1
 ·subst k1
  exact ⟨BP1,rfl,BP1_sound,ap1_ok sc cm da ds rs ec ed ei eo eu ef ev ea en hn hrs hds hv hlv hc0 hc1⟩
 by_cases k5:ek = 5
 ·subst k5
  exact ⟨BP5,rfl,BP5_sound,ap5_ok sc cm da ds rs ec ed ei eo eu ef ev ea en hn hrs hds hv hlv hc0 hc1⟩
 by_cases k6:ek < 1 ∨ 6 ≤ ek
 ·exact ⟨BP6,rfl,BP6_sound,ap6_ok sc cm da ds rs ek ec ed ei eo eu ef ev ea en hc0 hc1 k6⟩
 by_cases hl:(liveS (sc,cm,da,ds,rs,()) ei).length = 0
 ·by_cases k2:ek = 2
  ·subst k2
   exact ⟨BP0,rfl,BP0_sound,ap02_ok sc cm da ds rs ec ed ei eo eu ef ev ea en hlv hc0 hc1 hl⟩
  by_cases k3:ek = 3
  ·subst k3
   exact ⟨BP0,rfl,BP0_sound,ap03_ok sc cm da ds rs ec ed ei eo eu ef ev ea en hlv hc0 hc1 hl⟩
  have k4:ek = 4:=by omega
  subst k4
  exact ⟨BP0,rfl,BP0_sound,ap04_ok sc cm da ds rs ec ed ei eo eu ef ev ea en hlv hc0 hc1 hl⟩
 by_cases k2:ek = 2
 ·subst k2
  exact ⟨BP2,rfl,BP2_sound,ap2_ok sc cm da ds rs ec ed ei eo eu ef ev ea en hn hrs hds hv hlv hc0 hc1 hl⟩
 by_cases k3:ek = 3
 ·subst k3
  exact ⟨BP3,rfl,BP3_sound,ap3_ok sc cm da ds rs ec ed ei eo eu ef ev ea en hn hrs hds hv hlv hc0 hc1 hl⟩
 have k4:ek = 4:=by omega
 subst k4
 exact ⟨BP4,rfl,BP4_sound,ap4_ok sc cm da ds rs ec ed ei eo eu ef ev ea en hn hrs hds hv hlv hc0 hc1 hl⟩
end Go.Proofs.YtcnpblceamgfcaaGreatDoor
namespace Go.Proofs.YtcnpblceamgfcaaGreatDoor
open Go.AM Go.PL
def newDSp:FSpec:=⟨[SC],[BO,I],fun _=>True,fun s=>((newS s).1,(newS s).2.1)⟩
def okD (s:Sc) (l:List Ev):Prop:=(chkS s = 0 → jQ6 s) ∧ l.length ≤ 20
def foldDSp:FSpec:=⟨[SC,.arr EV],[BO,I,I],fun x=>okD x.1 x.2,fun x=>((foldD x.1 x.2).1,(foldD x.1 x.2).2.1,(foldD x.1 x.2).2.2.1)⟩
def loopsBt (f:FuncId) (r:Nat):List LA :=
 if Nat.beq f 9 then [.slot 24 I,.cell 1 0 I,.cell 1 1 I,.cell 1 2 (.arr DF),.cell 1 3 I,.cell 1 4 I,.cell 1 5 L,.cell 1 6 RL] else
 []
def datT (t:TypeId):Nat:=bif Nat.beq t 33 then 1 else datN t
def hintBt (f:FuncId):Hint:=if Nat.beq f 999999995 then ⟨fun _=>[],fun _=>.split,fun _=>.split,datT⟩ else ⟨loopsBt f,fun _=>.split,fun _=>.split,fun _=>0⟩
noncomputable def BT1:Ctx:=mkctx bs [(57,chkSp)] [] hintBt
noncomputable def BT0:Ctx:=mkctx bs [(29,jXw),(28,newDSp)] [] hintBt
abbrev newD_nf_e0:List (List Int × Int × Int × Int × List (List Int) × Unit):=[]
abbrev newD_nf_e1:List ((Int × Int × Int × Int × Int × Int × Int × List Int × List (List Int × Int × Int × List Int × Unit) × Unit) × Int × Unit):=[]
theorem newD_nf (d m:Int) (l:List Df):fnwp BT1 6 28 newDSp (d,m,l,()) = (True ∧ SP (!decide (chkS (d,m,l,()) = z0)) ((((z0,z0,newD_nf_e0,()),z0,z0,eI,
 newD_nf_e1,()),chkS (d,m,l,())) = ((newS (d,m,l,())).1,(newS (d,m,l,())).2.1)) ((((d,m,l,()),z0,z0,eI,newD_nf_e1,()),z0) = ((newS (d,m,l,())).1,(newS
 (d,m,l,())).2.1))):=by kernel_rfl
abbrev foldD_nf_t0:Type:=Int × Int × Int × List (List Int × Int × Int × Int × List (List Int) × Unit) × Int × Int × List Int × List ((Int × Int × Int × Int × Int × Int × Int
 × List Int × List (List Int × Int × Int × List Int × Unit) × Unit) × Int × Unit)
abbrev foldD_nf_e0:List (List Int × Int × Int × List Int × Unit):=[]
abbrev foldDq1 (x:foldD_nf_t0):=((x.2.1,x.2.2.1,x.2.2.2.1,()),x.2.2.2.2.1,x.2.2.2.2.2.1,x.2.2.2.2.2.2.1,x.2.2.2.2.2.2.2,())
abbrev jYu (x:foldD_nf_t0) (l:List Ev):=jQh (foldDq1 x) (l.getD x.1.toNat (z0,z0,z0,z0,z0,z0,z0,eI,foldD_nf_e0,List.replicate y16 z0,()))
abbrev foldDq2 (d m:Int) (dl:List Df) (l:List Ev):=((foldD (d,m,dl,()) l).1,(foldD (d,m,dl,()) l).2.1,(foldD (d,m,dl,()) l).2.2.1)
theorem foldD_nf (d m:Int) (dl:List Df) (l:List Ev):fnwp BT0 6 9 foldDSp ((d,m,dl,()),l) = (True ∧ SP (!decide ((newS (d,m,dl,())).2.1 = z0)) (((((newS (d,m,dl,
 ())).1.1.1,(newS (d,m,dl,())).1.1.2.1,(newS (d,m,dl,())).1.1.2.2.1,()),(newS (d,m,dl,())).1.2.1,(newS (d,m,dl,())).1.2.2.1,(newS (d,m,dl,())).1.2.2.2.1,
 (newS (d,m,dl,())).1.2.2.2.2.1,()),z0,(newS (d,m,dl,())).2.1) = (foldDq2 d m dl l)) (LP (z0,(newS (d,m,dl,())).1.1.1,(newS (d,m,dl,())).1.1.2.1,(newS (d,m,
 dl,())).1.1.2.2.1,(newS (d,m,dl,())).1.2.1,(newS (d,m,dl,())).1.2.2.1,(newS (d,m,dl,())).1.2.2.2.1,(newS (d,m,dl,())).1.2.2.2.2.1) fun I μ x=>SD (x.1 < (ln
 l)) ((IR x.1 l) ∧ okE (foldDq1 x) (l.getD x.1.toNat (z0,z0,z0,z0,z0,z0,z0,eI,foldD_nf_e0,List.replicate y16 z0,())).2.2.2.1 ∧ SP (!decide ((jYu x l).2.1 = z0))
 (((foldDq1 x),x.1,(jYu x l).2.1) = (foldDq2 d m dl l)) (isI64 (x.1 + z1) ∧ NX I μ x (x.1 + z1,(jYu x l).1.1.1,(jYu x l).1.1.2.1,(jYu x l).1.1.2.2.1,
 (jYu x l).1.2.1,(jYu x l).1.2.2.1,(jYu x l).1.2.2.2.1,(jYu x l).1.2.2.2.2.1))) (((foldDq1 x),(ln l),z0) = (foldDq2 d m dl l)))):=by kernel_rfl
end Go.Proofs.YtcnpblceamgfcaaGreatDoor
namespace Go.PL
open Go.AM
def FoldDI (s:Sc) (l:List Ev) (i:Int) (b:Bo):Prop:=0 ≤ i ∧ i ≤ l.length ∧ GoodB s i.toNat b ∧ foldDA (newB s) l 0 = foldDA b (l.drop i.toNat) i
theorem foldD_step {s:Sc} {l:List Ev} {i:Int} {b:Bo} (h:FoldDI s l i b) (hl:l.length ≤ 20) (hi:i < l.length) (ha:(jQh b (l.getD i.toNat dEv)).2.1 = 0):FoldDI s l (i + 1) (jQh b (l.getD i.toNat dEv)).1:=by
 obtain ⟨h0,h1,h2,h3⟩:=h
 have hg:=good_step h2 (by omega) ha
 rw [show i.toNat + 1 = (i + 1).toNat by omega] at hg
 refine ⟨by omega,by omega,hg,?_⟩
 rw [h3,jJc (d:=dEv) h0 hi]
 exact if_neg fun g=>g ha
theorem foldD_bad {s:Sc} {l:List Ev} {i:Int} {b:Bo} (h:FoldDI s l i b) (hi:i < l.length) (ha:(jQh b (l.getD i.toNat dEv)).2.1 ≠ 0):foldDA (newB s) l 0 = (b,i,(jQh b (l.getD i.toNat dEv)).2.1,()):=by
 rw [h.2.2.2,jJc (d:=dEv) h.1 hi]
 exact if_pos ha
theorem foldD_end {s:Sc} {l:List Ev} {i:Int} {b:Bo} (h:FoldDI s l i b) (hi:¬ i < l.length):foldDA (newB s) l 0 = (b,(l.length:Int),0,()):=by
 have h1:=h.2.1
 rw [h.2.2.2,List.drop_of_length_le (by omega),show (l.length:Int) = i by omega]
 rfl
theorem fo_three {s:Sc} {l:List Ev} {b:Bo} {i e:Int} (h:foldD s l = (b,i,e,())):(b,i,e) = ((foldD s l).1,(foldD s l).2.1,(foldD s l).2.2.1):=by rw [h]
end Go.PL
namespace Go.Proofs.YtcnpblceamgfcaaGreatDoor
open Go.AM Go.PL
attribute [local irreducible] fnwp fnwpG fnwpO
theorem BT1_sound:jQa BT1:=jQd ⟨sat_chk,trivial⟩ trivial
theorem sat_newD:Sat bs.P 28 newDSp:=jQe BT1_sound 6 _ newDSp fun (⟨d,m,l,⟨⟩⟩:Sc) hok hp=>by
 rw [newD_nf]; delta newD_nf_e0 newD_nf_e1 SP eI z0
 refine ⟨trivial,fun c=>?_,fun c=>?_⟩
 ·rw [show newS (d,m,l,()) = (zeroB,chkS (d,m,l,()),()) from if_pos (ndt c)]
  rfl
 ·rw [show newS (d,m,l,()) = (newB (d,m,l,()),0,()) from if_neg fun g=>g (ndf c)]
  rfl
theorem BT0_sound:jQa BT0:=jQd ⟨sat_apply,sat_newD,trivial⟩ trivial
theorem sat_foldD:Sat bs.P 9 foldDSp:=jQe BT0_sound 6 _ foldDSp fun (⟨⟨d,m,dl,⟨⟩⟩,l⟩:Sc × List Ev) hok hp=>by
 obtain ⟨hn,hl⟩:(chkS (d,m,dl,()) = 0 → jQ6 (d,m,dl,())) ∧ l.length ≤ 20:=hp
 rw [foldD_nf]; delta foldD_nf_t0 foldD_nf_e0 foldDq1 jYu foldDq2 IR LP NX SD SP eI ln y16 z0 z1; dsimp only
 by_cases hc:chkS (d,m,dl,()) = 0
 ·have h1:newS (d,m,dl,()) = (newB (d,m,dl,()),0,()):=if_neg fun g=>g hc
  have h2:foldD (d,m,dl,()) l = foldDA (newB (d,m,dl,())) l 0:=if_neg fun g=>g hc
  have hn:=hn hc
  rw [h1]
  refine ⟨trivial,fun c=>absurd rfl (ndt c),fun _=>⟨fun x=>FoldDI (d,m,dl,()) l x.1 ((x.2.1,x.2.2.1,x.2.2.2.1,()),x.2.2.2.2.1,x.2.2.2.2.2.1,x.2.2.2.2.2.2.1,x.2.2.2.2.2.2.2,()),fun x=>(l.length - x.1).toNat,⟨by dsimp only; omega,by dsimp only; omega,good_new _,rfl⟩,?_⟩⟩
  rintro ⟨i,d',m',dl',cm,da,ds,rs⟩ hI
  dsimp only at hI ⊢
  have h0:=hI.1
  refine ⟨fun h=>?_,fun h=>fo_three (h2.trans (foldD_end hI (df h)))⟩
  have h:=dt h
  exact ⟨⟨h0,h⟩,good_okE hI.2.2.1 (by omega) hn _,fun c=>fo_three (h2.trans (foldD_bad hI h (ndt c))),fun c=>⟨by unfold isI64; omega,foldD_step hI hl h (ndf c),by omega⟩⟩
 ·have h1:newS (d,m,dl,()) = (zeroB,chkS (d,m,dl,()),()):=if_pos hc
  have h2:foldD (d,m,dl,()) l = (zeroB,0,chkS (d,m,dl,()),()):=if_pos hc
  rw [h1]
  exact ⟨trivial,fun c=>fo_three h2,fun c=>absurd (ndf c) hc⟩
end Go.Proofs.YtcnpblceamgfcaaGreatDoor
namespace Go.PL
open Go.AM
def evsE:List Ev:=[(1,1,5,1,1,8,0,[1],[],[7,0,0,0,0,0,0,0,0,0,0,0,0,0,0,0],()),(5,2,8,0,0,0,0,[],[],[0,0,0,0,0,0,0,0,0,0,0,0,0,0,0,0],())]
def fineB (s:Sc) (l:List Ev):Bool:=fewLB l 20 && (fewDB s 6 && (decide (chkS s = 0) && decide ((foldS s l).2.2.1 = 0)))
end Go.PL
namespace Go.Proofs.YtcnpblceamgfcaaGreatDoor
open Go.AM Go.PL
def evsSp:FSpec:=⟨[],[.arr EV],fun _=>True,fun _=>evsE⟩
def fineSp:FSpec:=⟨[SC,.arr EV],[.bool],fun _=>True,fun x=>fineB x.1 x.2⟩
def hintBx (f:FuncId):Hint:=if Nat.beq f 999999995 then ⟨fun _=>[],fun _=>.split,fun _=>.split,datN⟩ else ⟨fun _=>[],fun _=>.split,fun _=>.split,fun _=>0⟩
noncomputable def BX0:Ctx:=mkctx bs [(21,fewLSp),(22,fewDSp),(23,chkSp),(24,foldSp)] [] hintBx
abbrev evs_nf_e0:List (List Int × Int × Int × List Int × Unit):=[]
theorem evs_nf  : fnwp BX0 6 25 evsSp () = ([(z1,z1,z5,z1,z1,z8,z0,[z1],evs_nf_e0,[z7,z0,z0,z0,z0,z0,z0,z0,z0,z0,z0,z0,z0,z0,z0,z0],()),(z5,z2,z8,z0,
 z0,z0,z0,eI,evs_nf_e0,[z0,z0,z0,z0,z0,z0,z0,z0,z0,z0,z0,z0,z0,z0,z0,z0],())] = evsE):=by kernel_rfl
theorem fine_nf (d m:Int) (dl:List Df) (l:List Ev):fnwp BX0 6 6 fineSp ((d,m,dl,()),l) = (True ∧ SP (!fewLB l z20) (false = fineB (d,m,dl,()) l) (True ∧ SP (!fewDB
 (d,m,dl,()) z6) (false = fineB (d,m,dl,()) l) (True ∧ SP (!decide (chkS (d,m,dl,()) = z0)) (false = fineB (d,m,dl,()) l) (PL.okF (d,m,dl,()) l ∧ decide ((foldS
 (d,m,dl,()) l).2.2.1 = z0) = fineB (d,m,dl,()) l)))):=by kernel_rfl
end Go.Proofs.YtcnpblceamgfcaaGreatDoor
namespace Go.PL
open Go.AM
theorem chkL_names:∀ (l:List Df) (b:List Int),chkL l b = 0 → ∀ d ∈ l,d.1 ≠ []
 | [],_,_,d,h=>absurd h List.not_mem_nil
 | x :: l,b,h,d,hd=>by
  have h:(if defS x b ≠ 0 then defS x b else chkL l x.1) = 0:=h
  by_cases hx:defS x b = 0
  ·rw [if_neg (fun g=>g hx)] at h
   rcases List.mem_cons.1 hd with g | g
   ·subst g
    intro e
    have hn:(!nameB d.1) = true:=by rw [e]; rfl
    unfold defS at hx
    rw [if_pos hn] at hx
    exact absurd hx (by decide)
   ·exact chkL_names l _ h d g
  ·rw [if_pos hx] at h
   exact absurd h hx
theorem chk_names {s:Sc} (h:chkS s = 0):jQ6 s:=by
 unfold chkS at h
 split at h
 ·exact absurd h (by decide)
 ·split at h
  ·exact absurd h (by decide)
  ·exact chkL_names _ _ h
theorem fine_iff {s:Sc} {l:List Ev}:fineB s l = true ↔ fewLB l 20 = true ∧ fewDB s 6 = true ∧ chkS s = 0 ∧ (foldS s l).2.2.1 = 0:=by
 unfold fineB
 rw [Bool.and_eq_true,Bool.and_eq_true,Bool.and_eq_true,decide_eq_true_eq,decide_eq_true_eq]
theorem fewL_iff {l:List Ev}:fewLB l 20 = true ↔ l.length ≤ 20 ∧ ∀ e ∈ l,fewEB (evE e) = true:=by
 unfold fewLB
 rw [Bool.and_eq_true,decide_eq_true_eq,List.all_eq_true]
 exact and_congr (by omega) Iff.rfl
theorem few_okF {s:Sc} {l:List Ev} (h:fewLB l 20 = true):okF s l:=fun hc=>good_okA (chk_names hc) l (good_new s) (by have:=(fewL_iff.1 h).1; omega)
end Go.PL
namespace Go.Proofs.YtcnpblceamgfcaaGreatDoor
open Go.AM Go.PL
attribute [local irreducible] fnwp fnwpG fnwpO
theorem BX0_sound:jQa BX0:=jQd ⟨sat_fewL,sat_fewD,sat_rChk,sat_rFold,trivial⟩ trivial
theorem sat_evs:Sat bs.P 25 evsSp:=jQe BX0_sound 6 _ evsSp fun x hok hp=>by
 obtain ⟨⟩:=x
 rw [evs_nf]; delta evs_nf_e0 eI z0 z1 z2 z5 z7 z8
 rfl
theorem sat_fine:Sat bs.P 6 fineSp:=jQe BX0_sound 6 _ fineSp fun (⟨⟨d,m,dl,⟨⟩⟩,l⟩:Sc × List Ev) hok hp=>by
 rw [fine_nf]; delta SP z0 z20 z6
 have no:∀ {b:Bool},(!b) = true → ¬ b = true:=fun h g=>by rw [g] at h; cases h
 have ys:∀ {b:Bool},(!b) = false → b = true:=fun {b} h=>by cases b <;> simp_all
 refine ⟨trivial,fun h=>is_no fun g=>no h (fine_iff.1 g).1,fun h1=>⟨trivial,fun h=>is_no fun g=>no h (fine_iff.1 g).2.1,fun h2=>⟨trivial,fun h=>is_no fun g=>ndt h (fine_iff.1 g).2.2.1,fun h3=>⟨few_okF (ys h1),?_⟩⟩⟩⟩
 exact dec_is (by rw [fine_iff]; exact ⟨fun h=>⟨ys h1,ys h2,ndf h3,h⟩,fun h=>h.2.2.2⟩)
end Go.Proofs.YtcnpblceamgfcaaGreatDoor
namespace Go.Proofs.YtcnpblceamgfcaaGreatDoor
open Go.AM Go.PL
def awakeSp:FSpec:=⟨[],[.bool],fun _=>True,fun _=>true⟩
def modeBy (f:FuncId) (r:Nat):AM.Mode:=bif Nat.beq f 7 && Nat.beq r 5 then .yes else bif Nat.beq f 7 && Nat.beq r 10 then .yes else .split
def cmodeBy (f:FuncId) (t:Nat):AM.Mode:=bif Nat.beq f 7 && Nat.beq t 44 then .no else .split
def hintBy (f:FuncId):Hint:=if Nat.beq f 999999995 then ⟨fun _=>[],fun _=>.split,fun _=>.split,datN⟩ else ⟨fun _=>[],modeBy f,cmodeBy f,fun _=>0⟩
noncomputable def BY0:Ctx:=mkctx bs [(25,evsSp),(9,foldDSp),(10,splitSp),(12,vaultSp),(16,kQp),(8,faceSp)] [] hintBy
abbrev jYb:List (List Int × Int × Int × Int × List (List Int) × Unit):=[]
abbrev awake_nf_e1:List (List Int × Int × Int × List Int × Unit):=[]
abbrev awakeq4:=List.take y1 (List.drop y0 evsE)
abbrev awakeq1:=foldD (z1,z1,jYb,()) awakeq4
abbrev awakeq0:=((awakeq1.1.1.1,awakeq1.1.1.2.1,awakeq1.1.1.2.2.1,()),awakeq1.1.2.1,awakeq1.1.2.2.1,awakeq1.1.2.2.2.1,awakeq1.1.2.2.2.2.1,())
abbrev awakeq2:=foldD (z1,z1,jYb,()) evsE
abbrev awakeq3:=(z0,z0,z0,z0,z0,z0,z0,eI,awake_nf_e1,List.replicate y16 z0,())
abbrev awakeq5:=(vltL awakeq0).getD y0 ((z0,z0,z0,z0,z0,z0,z0,eI,awake_nf_e1,()),z0,())
theorem awake_nf  : fnwp BY0 6 7 awakeSp () = (True ∧ (z0 ≤ z0 ∧ z0 ≤ z1 ∧ z1 ≤ z2) ∧ okD (z1,z1,jYb,()) awakeq4 ∧ okD (z1,z1,jYb,()) evsE ∧ false = false ∧
 false = false ∧ false = false ∧ false = false ∧ (kQb awakeq0 ∧ y1 ≤ (50000:Nat)) ∧ (kQb ((awakeq2.1.1.1,awakeq2.1.1.2.1,awakeq2.1.1.2.2.1,()),awakeq2.1.2.1,
 awakeq2.1.2.2.1,awakeq2.1.2.2.2.1,awakeq2.1.2.2.2.2.1,()) ∧ y1 ≤ (50000:Nat)) ∧ (z0 ≤ z0 ∧ z0 ≤ z1 ∧ z1 ≤ z2) ∧ (kQb awakeq0 ∧ rowsFew awakeq0) ∧ true = true ∧ true =
 true ∧ true = true ∧ true = true ∧ decide ((ln (sortD (vltU awakeq4 awakeq0))) = z1) = true ∧ (IR z0 (sortD (vltU awakeq4 awakeq0))) ∧ (z0 ≤ z0 ∧ z0 < (↑y2:Int)) ∧ (z0 ≤ z0 ∧
 z0 < (↑y1:Int)) ∧ fewE awakeq5.1 ∧ decide ((sortD (vltU awakeq4 awakeq0)).getD y0 (List.replicate y16 z0) = jJi (evsE.getD y0 awakeq3).2.2.2.2.2.2.2.2.2.1 awakeq5.1) = true
 ∧ (z0 ≤ z0 ∧ z0 < (↑y2:Int)) ∧ fewV (evsE.getD y0 awakeq3) ∧ (z0 ≤ z1 ∧ z1 < (↑y2:Int)) ∧ fewV (evsE.getD y1 awakeq3) ∧ true = true):=by kernel_rfl
end Go.Proofs.YtcnpblceamgfcaaGreatDoor
namespace Go.PL
open Go.AM
def rowE:Rw:=((1,1,1,5,8,1048577,1,[1],[],()),0,())
def bookA:Bo:=((1,1,[],()),1,5,[5],[rowE],())
def bookB:Bo:=((1,1,[],()),2,8,[5,8],[rowE],())
theorem foldA_is:foldD (1,1,[],()) (List.take 1 (List.drop 0 evsE)) = (bookA,1,0,()):=by kernel_rfl
theorem foldB_is:foldD (1,1,[],()) evsE = (bookB,2,0,()):=by kernel_rfl
end Go.PL
namespace Go.Proofs.YtcnpblceamgfcaaGreatDoor
open Go.AM Go.PL
attribute [local irreducible] fnwp fnwpG fnwpO hof
theorem vltA_is:vltU (List.take 1 (List.drop 0 evsE)) bookA = [jJi [7,0,0,0,0,0,0,0,0,0,0,0,0,0,0,0] rowE.1]:=rfl
theorem sortA_is:sortD (vltU (List.take 1 (List.drop 0 evsE)) bookA) = [jJi [7,0,0,0,0,0,0,0,0,0,0,0,0,0,0,0] rowE.1]:=by
 have:=jYy (vltU (List.take 1 (List.drop 0 evsE)) bookA)
 rw [vltA_is] at this ⊢
 exact List.perm_singleton.1 this
theorem BY0_sound:jQa BY0:=jQd ⟨sat_evs,sat_foldD,sat_split,sat_vault,sat_vblind,sat_face,trivial⟩ trivial
theorem sat_awake:Sat bs.P 7 awakeSp:=jQe BY0_sound 6 _ awakeSp fun x hok hp=>by
 obtain ⟨⟩:=x
 rw [awake_nf]; delta jYb awake_nf_e1 awakeq4 awakeq1 awakeq0 awakeq2 awakeq3 awakeq5 IR eI ln y0 y1 y16 y2 z0 z1 z2
 have fewR:fewE rowE.1:=⟨by decide,by decide,fun a ha=>absurd ha List.not_mem_nil⟩
 have dA:kQb bookA:=fun r hr=>by rw [List.mem_singleton.1 hr]; exact ⟨by decide,by decide⟩
 have dB:kQb bookB:=fun r hr=>by rw [List.mem_singleton.1 hr]; exact ⟨by decide,by decide⟩
 have rA:rowsFew bookA:=⟨fun r hr=>by rw [List.mem_singleton.1 hr]; exact fewR,by decide⟩
 have ok:∀ l:List Ev,l.length ≤ 20 → okD (1,1,[],()) l:=fun l h=>⟨fun _ d hd=>absurd hd List.not_mem_nil,h⟩
 have eA:(((foldD (1,1,[],()) (List.take 1 (List.drop 0 evsE))).1.1.1,(foldD (1,1,[],()) (List.take 1 (List.drop 0 evsE))).1.1.2.1,(foldD (1,1,[],()) (List.take 1 (List.drop 0 evsE))).1.1.2.2.1,()),(foldD (1,1,[],()) (List.take 1 (List.drop 0 evsE))).1.2.1,(foldD (1,1,[],()) (List.take 1 (List.drop 0 evsE))).1.2.2.1,(foldD (1,1,[],()) (List.take 1 (List.drop 0 evsE))).1.2.2.2.1,(foldD (1,1,[],()) (List.take 1 (List.drop 0 evsE))).1.2.2.2.2.1,()) = bookA:=by
  rw [foldA_is]
 have eB:(((foldD (1,1,[],()) evsE).1.1.1,(foldD (1,1,[],()) evsE).1.1.2.1,(foldD (1,1,[],()) evsE).1.1.2.2.1,()),(foldD (1,1,[],()) evsE).1.2.1,(foldD (1,1,[],()) evsE).1.2.2.1,(foldD (1,1,[],()) evsE).1.2.2.2.1,(foldD (1,1,[],()) evsE).1.2.2.2.2.1,()) = bookB:=by
  rw [foldB_is]
 rw [eA,eB,sortA_is]
 exact ⟨trivial,⟨by decide,by decide,by decide⟩,ok _ (by decide),ok _ (by decide),rfl,rfl,rfl,rfl,⟨dA,by decide⟩,⟨dB,by decide⟩,⟨by decide,by decide,by decide⟩,⟨dA,rA⟩,rfl,rfl,rfl,rfl,rfl,⟨by decide,by decide⟩,⟨by decide,by decide⟩,⟨by decide,by decide⟩,fewR,
  decide_eq_true rfl,⟨by decide,by decide⟩,⟨by decide,by decide,fun a ha=>absurd ha List.not_mem_nil⟩,⟨by decide,by decide⟩,⟨by decide,by decide,fun a ha=>absurd ha List.not_mem_nil⟩,rfl⟩
end Go.Proofs.YtcnpblceamgfcaaGreatDoor
namespace Go.PL
open Go.AM
def splitD (n:Nat):Nat:=if n ≤ 2 then 1 else if n ≤ 4 then 2 else if n ≤ 8 then 4 else if n ≤ 16 then 8 else 16
def nodeD (a b:List Int):List Int:=hof 31 [a,b]
def emptyD:List Int:=hof 32 []
def rootD:Nat → List (List Int) → List Int
 | 0,_=>emptyD
 | f + 1,l=>if l.length = 0 then emptyD else if l.length = 1 then l.getD 0 (List.replicate 16 0) else nodeD (rootD f (l.take (splitD l.length))) (rootD f (l.drop (splitD l.length)))
def digs (l:List (List Int)):Prop:=l.length ≤ 20 ∧ ∀ x ∈ l,x.length = 16
def rootP (f:Nat) (l:List (List Int)):Prop:=l.length < f ∧ digs l
def len16 (x:List Int):Prop:=x.length = 16
end Go.PL
namespace Go.Proofs.YtcnpblceamgfcaaGreatDoor
open Go.AM Go.PL
def splitDSp:FSpec:=⟨[I],[I],fun n=>2 ≤ (n:Int) ∧ (n:Int) ≤ 20,fun n=>(splitD (n:Int).toNat:Int)⟩
def nodeSp:FSpec:=⟨[DG,DG],[DG],fun x=>len16 x.1 ∧ len16 x.2,fun x=>nodeD x.1 x.2⟩
def emptySp:FSpec:=⟨[],[DG],fun _=>True,fun _=>emptyD⟩
def rootSp (f:Nat):FSpec:=⟨[DL],[DG],fun l=>rootP f l,fun l=>rootD f l⟩
def datM (t:TypeId):Nat:=bif Nat.beq t 31 || Nat.beq t 30 then 2 else 0
def hintM (f:FuncId):Hint:=if Nat.beq f 999999995 then ⟨fun _=>[],fun _=>.split,fun _=>.split,datM⟩ else ⟨fun _=>[],fun r=>bif (Nat.beq f 45 && Nat.beq r 4) || (Nat.beq f 79 && Nat.beq r 1) then .all else .split,fun _=>.split,fun _=>0⟩
def hintMs (f:FuncId):Hint:=⟨fun _=>[],fun _=>.split,fun _=>bif Nat.beq f 121 then .no else .split,fun _=>0⟩
noncomputable def ME0s:Ctx:=mkctx bs [] [] hintMs
noncomputable def ME0:Ctx:=mkctx bs [(52,ofSp)] [] hintM
def tab1:List Int:=bytesOf ⟨(([0,1,2,2,3,3,3,3,4,4,4,4,4,4,4,4,5,5,5,5,5,5,5,5,5,5,5,5,5,5,5,5] ++ List.replicate 32 6) ++ List.replicate 64 7 ++ List.replicate 128 8:List UInt8).toArray⟩
abbrev kQt (n:Int):=tab1.getD (IntKind.u8.wrap (IntKind.u64.wrap (n - z1))).toNat z0
theorem split_nfM (n:Int):fnwp ME0s 8 75 splitDSp n = (isI64 (n - z1) ∧ decide ((4294967296:Int) ≤ IntKind.u64.wrap (n - z1)) = false ∧ decide ((65536:Int) ≤
 IntKind.u64.wrap (n - z1)) = false ∧ decide ((256:Int) ≤ IntKind.u64.wrap (n - z1)) = false ∧ (z0 ≤ IntKind.u8.wrap (IntKind.u64.wrap (n - z1)) ∧ IntKind.u8.wrap
 (IntKind.u64.wrap (n - z1)) < (↑(256:Nat):Int)) ∧ isI64 (z0 + IntKind.i64.wrap (kQt n)) ∧ isI64 (z0 + IntKind.i64.wrap (kQt n) - z1) ∧ (z0 ≤ z0 + IntKind.i64.wrap
 (kQt n) - z1 ∧ z0 + IntKind.i64.wrap (kQt n) - z1 ≤ z63 ∧ isI64 (z1 * z2 ^ (z0 + IntKind.i64.wrap (kQt n) - z1).toNat)) ∧ z1 * z2 ^ (z0 + IntKind.i64.wrap
 (kQt n) - z1).toNat = (↑(PL.splitD n.toNat):Int)):=by kernel_rfl
theorem node_nf (a b:List Int):fnwp ME0 8 79 nodeSp (a,b) = (((jVy [a,b] ∧ hof z31 [a,b] = nodeD a b) ∧ (jVy [a,b] ∧ hof z31 [a,b] = nodeD a b) ∧ jVy [a,b]
 ∧ hof z31 [a,b] = nodeD a b) ∧ ((jVy [a,b] ∧ hof z31 [a,b] = nodeD a b) ∧ jVy [a,b] ∧ hof z31 [a,b] = nodeD a b) ∧ jVy [a,b] ∧ hof z31 [a,b] = nodeD a b) :=
 by kernel_rfl
theorem empty_nf  : fnwp ME0 8 78 emptySp () = (jVy eL ∧ hof z32 eL = emptyD):=by kernel_rfl
noncomputable def ME1 (f:Nat):Ctx:=mkctx bs [(75,splitDSp),(79,nodeSp),(78,emptySp),(45,rootSp f)] [] hintM
abbrev rootq0 (l:List (List Int)):=(↑(PL.splitD (ln l).toNat):Int)
abbrev rootq1 (l:List (List Int)):=List.take ((ln l).toNat - (rootq0 l).toNat) (List.drop (rootq0 l).toNat l)
theorem root_nf (f:Nat) (l:List (List Int)):fnwp (ME1 f) 8 45 (rootSp (f + 1)) l = (SD ((ln l) = z0) (True ∧ emptyD = rootD (f + y1) l) (SD ((ln l) = z1) ((IR z0 l) ∧
 l.getD y0 (List.replicate y16 z0) = rootD (f + y1) l) ((z2 ≤ (ln l) ∧ (ln l) ≤ z20) ∧ (z0 ≤ z0 ∧ z0 ≤ (rootq0 l) ∧ (rootq0 l) ≤ (ln l) ∧ (rootq0 l) = (rootq0 l)) ∧ (z0 ≤ (rootq0
 l) ∧ (rootq0 l) ≤ (ln l) ∧ (ln l) ≤ (ln l) ∧ (ln l) = (ln l)) ∧ rootP f (List.take ((rootq0 l).toNat - y0) (List.drop y0 l)) ∧ rootP f (rootq1 l) ∧ (len16 (rootD f (List.take
 ((rootq0 l).toNat - y0) (List.drop y0 l))) ∧ len16 (rootD f (rootq1 l))) ∧ nodeD (rootD f (List.take ((rootq0 l).toNat - y0) (List.drop y0 l))) (rootD f (rootq1 l)) = rootD (f +
 y1) l))):=by kernel_rfl
end Go.Proofs.YtcnpblceamgfcaaGreatDoor
namespace Go.PL
open Go.AM
theorem hof_len2 (t:Int) (l:List (List Int)):(hof t l).length = 16:=by
 unfold hof sumM
 rw [List.length_take,List.length_map,List.length_range]
 rfl
theorem jYx {n:Nat} (h:2 ≤ n) (h':n ≤ 20):1 ≤ splitD n ∧ splitD n < n:=by
 unfold splitD
 split <;> (try split) <;> (try split) <;> (try split) <;> omega
theorem jY9 {l:List (List Int)} (h:digs l) (k:Nat):digs (l.take k):=⟨by rw [List.length_take]; have:=h.1; omega,fun x hx=>h.2 x (List.mem_of_mem_take hx)⟩
theorem kQa {l:List (List Int)} (h:digs l) (k:Nat):digs (l.drop k):=⟨by rw [List.length_drop]; have:=h.1; omega,fun x hx=>h.2 x (List.mem_of_mem_drop hx)⟩
theorem rootD_len:∀ (f:Nat) {l:List (List Int)},digs l → (rootD f l).length = 16
 | 0,l,_=>hof_len2 _ _
 | f + 1,l,h=>by
  unfold rootD
  split
  ·exact hof_len2 _ _
  ·split
   ·rename_i h1 h2
    have:l.getD 0 (List.replicate 16 0) ∈ l:=by
     rw [List.getD_eq_getElem?_getD,List.getElem?_eq_getElem (by omega)]
     exact List.getElem_mem _
    exact h.2 _ this
   ·exact hof_len2 _ _
end Go.PL
namespace Go.Proofs.YtcnpblceamgfcaaGreatDoor
open Go.AM Go.PL
attribute [local irreducible] fnwp fnwpG fnwpO
theorem ME0s_sound:jQa ME0s:=jQd trivial trivial
theorem ME0_sound:jQa ME0:=jQd ⟨sat_of,trivial⟩ trivial
theorem sat_splitD:Sat bs.P 75 splitDSp:=jQe ME0s_sound 8 _ splitDSp fun (n:Int) _ hp=>by
 obtain ⟨h1,h2⟩:2 ≤ n ∧ n ≤ 20:=hp
 rw [split_nfM]; delta kQt z0 z1 z2 z63
 have hc:n = 2 ∨ n = 3 ∨ n = 4 ∨ n = 5 ∨ n = 6 ∨ n = 7 ∨ n = 8 ∨ n = 9 ∨ n = 10 ∨ n = 11 ∨ n = 12 ∨ n = 13 ∨ n = 14 ∨ n = 15 ∨ n = 16 ∨ n = 17 ∨ n = 18 ∨ n = 19 ∨ n = 20:=by omega
 unfold isI64
 rcases hc with rfl | rfl | rfl | rfl | rfl | rfl | rfl | rfl | rfl | rfl | rfl | rfl | rfl | rfl | rfl | rfl | rfl | rfl | rfl <;> decide +kernel
theorem parts2 {a b:List Int} (h1:len16 a) (h2:len16 b):jVy [a,b]:=by
 unfold len16 at h1 h2
 refine ⟨by simp,fun p hp=>?_⟩
 simp only [List.mem_cons,List.not_mem_nil,or_false] at hp
 rcases hp with rfl | rfl <;> omega
theorem sat_node:Sat bs.P 79 nodeSp:=jQe ME0_sound 8 _ nodeSp fun (⟨a,b⟩:List Int × List Int) _ hp=>by
 obtain ⟨h1,h2⟩:len16 a ∧ len16 b:=hp
 have hq:jVy [a,b] ∧ hof (31:Int) [a,b] = nodeD a b:=⟨parts2 h1 h2,rfl⟩
 rw [node_nf]; delta z31
 simp only [hq,and_self]
theorem sat_empty:Sat bs.P 78 emptySp:=jQe ME0_sound 8 _ emptySp fun x _ hp=>by
 rw [show x = () from rfl,empty_nf]; delta eL z32
 exact ⟨⟨by simp,fun p hp=>absurd hp List.not_mem_nil⟩,rfl⟩
theorem sat_root:∀ f:Nat,Sat bs.P 45 (rootSp f)
 | 0=>jQe ME0_sound 8 _ (rootSp 0) fun l _ hp=>absurd hp.1 (Nat.not_lt_zero _)
 | f + 1=>jQe (C:=ME1 f) (jQd ⟨sat_splitD,sat_node,sat_empty,sat_root f,trivial⟩ trivial) 8 _ (rootSp (f + 1)) fun (l:List (List Int)) _ hp=>by
  obtain ⟨hf,hd⟩:l.length < f + 1 ∧ digs l:=hp
  rw [root_nf]; delta rootq0 rootq1 IR SD ln y0 y1 y16 z0 z1 z2 z20
  have h20:=hd.1
  refine ⟨fun h=>⟨trivial,?_⟩,fun h=>⟨fun h1=>⟨⟨by omega,by have:=dt h1; omega⟩,?_⟩,fun h1=>?_⟩⟩
  ·have h:=dt h
   unfold rootD
   rw [if_pos (by omega)]
  ·have h:=df h
   have h1:=dt h1
   unfold rootD
   rw [if_neg (by omega),if_pos (by omega)]
  ·have h:=df h
   have h1:=df h1
   have hs:=jYx (n:=l.length) (by omega) h20
   simp only [Int.toNat_natCast,Nat.sub_zero,List.drop_zero]
   have e2:List.take (l.length - splitD l.length) (List.drop (splitD l.length) l) = List.drop (splitD l.length) l:=List.take_of_length_le (by rw [List.length_drop]; omega)
   rw [e2]
   refine ⟨⟨by omega,by omega⟩,⟨by omega,by omega,by omega,trivial⟩,⟨by omega,by omega,by omega,trivial⟩,⟨by rw [List.length_take]; omega,jY9 hd _⟩,⟨by rw [List.length_drop]; omega,kQa hd _⟩,⟨rootD_len _ (jY9 hd _),rootD_len _ (kQa hd _)⟩,?_⟩
   conv=>rhs; unfold rootD
   rw [if_neg (by omega),if_neg (by omega)]
end Go.Proofs.YtcnpblceamgfcaaGreatDoor
namespace Go.PL
open Go.AM
def hasEn (l:List Rw) (e:En):Bool:=l.any fun r=>decide (encE r.1 = encE e)
def rowsE (l:List Rw):Prop:=∀ r ∈ l,fewE r.1
end Go.PL
namespace Go.Proofs.YtcnpblceamgfcaaGreatDoor
open Go.AM Go.PL
def filingSp:FSpec:=⟨[.arr EV,I],[I],fun _=>True,fun x=>filN x.2 x.1 0⟩
def hasEnSp:FSpec:=⟨[RL,EN],[.bool],fun x=>rowsE x.1 ∧ fewE x.2,fun x=>hasEn x.1 x.2⟩
def loopsEc (f:FuncId) (r:Nat):List LA :=
 if Nat.beq f 15 || Nat.beq f 14 then [.slot 5 I] else
 []
def modeEc (f:FuncId) (r:Nat):AM.Mode:=bif Nat.beq f 14 && Nat.beq r 4 then .all else .split
def hintEc (f:FuncId):Hint:=if Nat.beq f 999999995 then ⟨fun _=>[],fun _=>.split,fun _=>.split,datW⟩ else ⟨loopsEc f,modeEc f,fun _=>.split,fun _=>0⟩
noncomputable def CE0:Ctx:=mkctx bs [(18,sameESp)] [] hintEc
abbrev filing_nf_e0:List (List Int × Int × Int × List Int × Unit):=[]
theorem filing_nf (l:List Ev) (id:Int):fnwp CE0 8 15 filingSp (l,id) = (LP z0 fun I μ x=>SD (x < (ln l)) ((IR x l) ∧ SD ((l.getD x.toNat (z0,z0,z0,z0,z0,z0,z0,eI,
 filing_nf_e0,List.replicate y16 z0,())).1 = z1) ((IR x l) ∧ SD ((l.getD x.toNat (z0,z0,z0,z0,z0,z0,z0,eI,filing_nf_e0,List.replicate y16 z0,())).2.2.2.1 = id) (x =
 filN id l z0) (isI64 (x + z1) ∧ NX I μ x (x + z1))) (isI64 (x + z1) ∧ NX I μ x (x + z1))) ((-1:Int) = filN id l z0)):=by kernel_rfl
abbrev hasEn_nf_e0:List (List Int × Int × Int × List Int × Unit):=[]
theorem hasEn_nf (l:List Rw) (e:En):fnwp CE0 8 14 hasEnSp (l,e) = (LP z0 fun I μ x=>SD (x < (ln l)) ((IR x l) ∧ (fewE (l.getD x.toNat ((z0,z0,z0,z0,z0,z0,z0,eI,
 hasEn_nf_e0,()),z0,())).1 ∧ fewE e) ∧ SD (PL.encE (l.getD x.toNat ((z0,z0,z0,z0,z0,z0,z0,eI,hasEn_nf_e0,()),z0,())).1 = PL.encE e) (true = hasEn l e) (isI64 (x +
 z1) ∧ NX I μ x (x + z1))) (false = hasEn l e)):=by kernel_rfl
end Go.Proofs.YtcnpblceamgfcaaGreatDoor
namespace Go.PL
open Go.AM
theorem hasEn_step {l:List Rw} {e:En} {i:Int} (h0:0 ≤ i) (h:i < l.length):hasEn (l.take (i + 1).toNat) e = (hasEn (l.take i.toNat) e || decide (encE (l.getD i.toNat dRw).1 = encE e)):=by
 unfold hasEn
 rw [jXd (d:=dRw) h0 h,List.any_append,List.any_cons,List.any_nil,Bool.or_false]
end Go.PL
namespace Go.Proofs.YtcnpblceamgfcaaGreatDoor
open Go.AM Go.PL
attribute [local irreducible] fnwp fnwpG fnwpO hof PL.encE
theorem CE0_sound:jQa CE0:=jQd ⟨sat_sameE,trivial⟩ trivial
theorem sat_filing:Sat bs.P 15 filingSp:=jQe CE0_sound 8 _ filingSp fun (⟨l,id⟩:List Ev × Int) hok _=>by
 have hm:l.length ≤ 9223372036854775807:=hok.1.1
 rw [filing_nf]; delta filing_nf_e0 IR LP NX SD eI ln y16 z0 z1; dsimp only
 refine ⟨fun k=>0 ≤ k ∧ k ≤ l.length ∧ filN id l 0 = filN id (l.drop k.toNat) k,fun k=>(l.length - k).toNat,⟨by omega,by omega,rfl⟩,?_⟩
 rintro k ⟨h0,h1,h2⟩
 refine ⟨fun h=>?_,fun h=>?_⟩
 ·have h:=dt h
  have hs:=filN_step (id:=id) h0 h
  have hi:isI64 (k + 1):=by unfold isI64; omega
  have go:¬ ((l.getD k.toNat dEv).1 = 1 ∧ (l.getD k.toNat dEv).2.2.2.1 = id) → isI64 (k + 1) ∧ (0 ≤ k + 1 ∧ k + 1 ≤ (l.length:Int) ∧ filN id l 0 = filN id (l.drop (k + 1).toNat) (k + 1)) ∧ ((l.length:Int) - (k + 1)).toNat < ((l.length:Int) - k).toNat:=fun hn=>by
   rw [if_neg hn] at hs
   exact ⟨hi,⟨by omega,by omega,h2.trans hs⟩,by omega⟩
  refine ⟨⟨h0,h⟩,fun c=>⟨⟨h0,h⟩,fun c2=>?_,fun c2=>go fun g=>df c2 g.2⟩,fun c=>go fun g=>df c g.1⟩
  rw [if_pos ⟨dt c,dt c2⟩] at hs
  exact (h2.trans hs).symm
 ·have h:=df h
  exact (h2.trans (filN_end h)).symm
theorem sat_hasEn:Sat bs.P 14 hasEnSp:=jQe CE0_sound 8 _ hasEnSp fun (⟨l,e⟩:List Rw × En) hok hp=>by
 obtain ⟨hl,he⟩:rowsE l ∧ fewE e:=hp
 have hm:l.length ≤ 9223372036854775807:=hok.1.1
 rw [hasEn_nf]; delta hasEn_nf_e0 IR LP NX SD eI ln z0 z1; dsimp only
 refine ⟨fun k=>0 ≤ k ∧ k ≤ l.length ∧ hasEn (l.take k.toNat) e = false,fun k=>(l.length - k).toNat,⟨by omega,by omega,rfl⟩,?_⟩
 rintro k ⟨h0,h1,h2⟩
 refine ⟨fun h=>?_,fun h=>?_⟩
 ·have h:=dt h
  have hs:=hasEn_step (e:=e) h0 h
  rw [h2,Bool.false_or] at hs
  have hr:l.getD k.toNat dRw ∈ l:=jX5 (by omega)
  refine ⟨⟨h0,h⟩,⟨hl _ hr,he⟩,fun c=>?_,fun c=>⟨by unfold isI64; omega,⟨by omega,by omega,hs.trans c⟩,by dsimp only; omega⟩⟩
  exact (List.any_eq_true.2 ⟨_,hr,c⟩).symm
 ·have h:=df h
  rw [List.take_of_length_le (by omega)] at h2
  exact h2.symm
end Go.Proofs.YtcnpblceamgfcaaGreatDoor
namespace Go.PL
open Go.AM
def inclD:Nat → List (List Int) → Nat → List (List Int)
 | 0,_,_=>[]
 | f + 1,l,i=>if l.length = 1 then [] else if i < splitD l.length then inclD f (l.take (splitD l.length)) i ++ [rootD 21 (l.drop (splitD l.length))] else inclD f (l.drop (splitD l.length)) (i - splitD l.length) ++ [rootD 21 (l.take (splitD l.length))]
def inclL (l:List (List Int)) (i:Int):List (List Int):=inclD 20 l i.toNat
def inclP (l:List (List Int)) (i:Int):Prop:=digs l ∧ 0 ≤ i ∧ i < l.length
def idxD (d:List Int):List (List Int) → Int → Int
 | [],_=>-1
 | x :: l,k=>if x = d then k else idxD d l (k + 1)
def jY0 (l:List (List Int)) (d:List Int):Int × List (List Int) × Int:=if idxD d l 0 < 0 then (0,[],5) else (idxD d l 0,inclL l (idxD d l 0),0)
end Go.PL
namespace Go.Proofs.YtcnpblceamgfcaaGreatDoor
open Go.AM Go.PL
def inclSp:FSpec:=⟨[DL,I],[DL,I],fun x=>inclP x.1 x.2,fun x=>(inclL x.1 x.2,0)⟩
def proveSp:FSpec:=⟨[DL,DG],[I,DL,I],fun x=>digs x.1,fun x=>jY0 x.1 x.2⟩
def loopsEg (f:FuncId) (r:Nat):List LA:=if Nat.beq f 17 then [.slot 13 I] else []
def hintEg (f:FuncId):Hint:=if Nat.beq f 999999995 then ⟨fun _=>[],fun _=>.split,fun _=>.split,datM⟩ else ⟨loopsEg f,fun _=>.split,fun _=>.split,fun _=>0⟩
noncomputable def PR0:Ctx:=mkctx bs [(43,inclSp)] [] hintEg
theorem prove_nf (l:List (List Int)) (d:List Int):fnwp PR0 8 17 proveSp (l,d) = (LP z0 fun I μ x=>SD (x < (ln l)) ((IR x l) ∧ SD (l.getD x.toNat (List.replicate y16 z0)
 = d) (inclP l x ∧ (x,inclL l x,z0) = jY0 l d) (isI64 (x + z1) ∧ NX I μ x (x + z1))) ((z0,eL,z5) = jY0 l d)):=by kernel_rfl
end Go.Proofs.YtcnpblceamgfcaaGreatDoor
namespace Go.PL
open Go.AM
def lastP (p:List (List Int)):List Int:=p.getD (p.length - 1) (List.replicate 16 0)
def restP (p:List (List Int)):List (List Int):=p.take (p.length - 1)
def jZd:Nat → List Int → Int → Int → List (List Int) → List Int
 | 0,d,_,_,_=>d
 | f + 1,d,i,n,p=>if n = 1 then d else if i < splitD n.toNat then nodeD (jZd f d i (splitD n.toNat) (restP p)) (lastP p) else nodeD (lastP p) (jZd f d (i - splitD n.toNat) (n - splitD n.toNat) (restP p))
def jJp:Nat → Int → Int → List (List Int) → List (List Int)
 | 0,_,_,p=>p
 | f + 1,i,n,p=>if n = 1 then p else if i < splitD n.toNat then jJp f i (splitD n.toNat) (restP p) else jJp f (i - splitD n.toNat) (n - splitD n.toNat) (restP p)
def climbOk:Nat → List Int → Int → Int → List (List Int) → Prop
 | 0,d,_,n,_=>False
 | f + 1,d,i,n,p=>n = 1 ∨ (2 ≤ n ∧ n ≤ 20 ∧ 0 ≤ i ∧ i < n ∧ 1 ≤ p.length ∧ (i < splitD n.toNat → climbOk f d i (splitD n.toNat) (restP p)) ∧ (¬ i < splitD n.toNat → climbOk f d (i - splitD n.toNat) (n - splitD n.toNat) (restP p)))
def preM (f:Nat) (d:List Int) (i n:Int) (p:List (List Int)):Prop:=len16 d ∧ (p.length ≤ 100 ∧ ∀ x ∈ p,len16 x) ∧ climbOk f d i n p
def preM1 (f:Nat) (d:List Int) (i n:Int) (p:List (List Int)):Prop:=preM (f + 1) d i n p
def jV9 (f:Nat) (d:List Int) (i n:Int) (p:List (List Int)):List Int:=jZd (f + 1) d i n p
def jV8 (f:Nat) (i n:Int) (p:List (List Int)):List (List Int):=jJp (f + 1) i n p
def cincP (d:List Int) (i n:Int) (p:List (List Int)) (r:List Int):Prop:=∃ L:List (List Int),digs L ∧ 0 ≤ i ∧ i < L.length ∧ n = L.length ∧ d = L.getD i.toNat (List.replicate 16 0) ∧ p = inclL L i ∧ r = rootD 21 L
def lastPre (p:List (List Int)):Prop:=1 ≤ p.length ∧ p.length ≤ 100
end Go.PL
namespace Go.Proofs.YtcnpblceamgfcaaGreatDoor
open Go.AM Go.PL
def blkM (d:List Int) (y:List (List Int) × Bool):List Blk :=
 [.gone,.cells [.d DL y.1,.d .bool y.2],.cells [.own 1 0],.cells [.fn 81 [.rp DG d,.own 2 0,.own 3 0]]]
def lasM:List LA:=[.cell 1 0 DL,.cell 1 1 .bool]
def lastH (d:List Int):HSpec:=⟨[],[DG],lasM,[.own 1 0],fun y=>blkM d y,fun _ y=>lastPre y.1,fun _ y=>lastP y.1,fun _ y=>(restP y.1,y.2)⟩
def climbH (f:Nat) (d:List Int):HSpec:=⟨[I,I],[DG],lasM,[.rp DG d,.own 2 0,.own 3 0],fun y=>blkM d y,fun x y=>preM f d x.1 x.2 y.1,fun x y=>jZd f d x.1 x.2 y.1,fun x y=>(jJp f x.1 x.2 y.1,y.2)⟩
def climb1H (f:Nat) (d:List Int):HSpec:=⟨[I,I],[DG],lasM,[.rp DG d,.own 2 0,.own 3 0],fun y=>blkM d y,fun x y=>preM1 f d x.1 x.2 y.1,fun x y=>jV9 f d x.1 x.2 y.1,fun x y=>(jV8 f x.1 x.2 y.1,y.2)⟩
def cincSp:FSpec:=⟨[DG,I,I,DL,DG],[.bool],fun x=>cincP x.1 x.2.1 x.2.2.1 x.2.2.2.1 x.2.2.2.2,fun _=>true⟩
def allEm (f:FuncId) (r:Nat):Bool:=(Nat.beq f 81 && (Nat.beq r 3 || Nat.beq r 5 || Nat.beq r 6)) || (Nat.beq f 46 && Nat.beq r 7)
def hintEm (f:FuncId):Hint:=if Nat.beq f 999999995 then ⟨fun _=>[],fun _=>.split,fun _=>.split,datM⟩ else ⟨fun _=>[],fun r=>bif allEm f r then .all else .split,fun _=>.split,fun _=>0⟩
noncomputable def CM0:Ctx:=mkctxH bs [] [] [] [] hintEm
noncomputable def CM (f:Nat) (d:List Int):Ctx:=mkctxH bs [(75,splitDSp),(79,nodeSp)] [] [] [(82,lastH d),(81,climbH f d)] hintEm
theorem lastW_nf (d:List Int) (p:List (List Int)) (b:Bool):fnwpH CM0 8 82 (lastH d) () (p,b) = (SD ((ln p) = z0) ([z0,z0,z0,z0,z0,z0,z0,z0,z0,z0,z0,z0,z0,
 z0,z0,z0] = lastP p ∧ (True ∧ (p = restP p ∧ true = b ∧ True) ∧ (True ∧ True) ∧ ((d = d ∧ True ∧ True ∧ True) ∧ True) ∧ True) ∧ True) (isI64 ((ln p) - z1) ∧ (IR ((ln p) - z1)
 p) ∧ isI64 ((ln p) - z1) ∧ isI64 ((ln p) - z1) ∧ (z0 ≤ z0 ∧ z0 ≤ (ln p) - z1 ∧ (ln p) - z1 ≤ (ln p) ∧ (ln p) - z1 = (ln p) - z1) ∧ p.getD ((ln p) - z1).toNat (List.replicate y16
 z0) = lastP p ∧ (True ∧ (List.take (((ln p) - z1).toNat - y0) (List.drop y0 p) = restP p ∧ b = b ∧ True) ∧ (True ∧ True) ∧ ((d = d ∧ True ∧ True ∧ True) ∧ True) ∧ True) ∧ True))
 := by kernel_rfl
abbrev jQ3 (n:Int):=(↑(PL.splitD n.toNat):Int)
abbrev climbWq5 (d:List Int):=d = d ∧ True ∧ True ∧ True
abbrev jVl (d:List Int):=(climbWq5 d) ∧ True
abbrev climbWq4 (p:List (List Int)) (b:Bool) (d:List Int):=True ∧ (restP p = restP p ∧ b = b ∧ True) ∧ (True ∧ True) ∧ (jVl d) ∧ True
abbrev climbWq0 (i n:Int) (d:List Int) (p:List (List Int)) (b:Bool) (f:Nat):=isI64 (i - (jQ3 n)) ∧ isI64 (n - (jQ3 n)) ∧ ((climbWq5 d) ∧ (climbWq4 p b d) ∧
 preM f d (i - (jQ3 n)) (n - (jQ3 n)) (restP p) ∧ (len16 (lastP p) ∧ len16 (jZd f d (i - (jQ3 n)) (n - (jQ3 n)) (restP p))) ∧ nodeD (lastP p) (jZd f d
 (i - (jQ3 n)) (n - (jQ3 n)) (restP p)) = jV9 f d i n p ∧ (True ∧ (jJp f (i - (jQ3 n)) (n - (jQ3 n)) (restP p) = jV8 f i n p ∧ b = b ∧ True) ∧
 (True ∧ True) ∧ (jVl d) ∧ True) ∧ True) ∧ (climbWq5 d) ∧ (climbWq4 p b d) ∧ preM f d (i - (jQ3 n)) (n - (jQ3 n)) (restP p) ∧ (len16 (lastP p) ∧ len16 (jZd f d
 (i - (jQ3 n)) (n - (jQ3 n)) (restP p))) ∧ nodeD (lastP p) (jZd f d (i - (jQ3 n)) (n - (jQ3 n)) (restP p)) = jV9 f d i n p ∧ (True ∧ (jJp f (i -
 (jQ3 n)) (n - (jQ3 n)) (restP p) = jV8 f i n p ∧ b = b ∧ True) ∧ (True ∧ True) ∧ (jVl d) ∧ True) ∧ True
abbrev climbWq1 (d:List Int) (p:List (List Int)) (b:Bool) (f:Nat) (i n:Int):=((climbWq5 d) ∧ (climbWq4 p b d) ∧ preM f d i (jQ3 n) (restP p) ∧ (len16 (jZd f d
 i (jQ3 n) (restP p)) ∧ len16 (lastP p)) ∧ nodeD (jZd f d i (jQ3 n) (restP p)) (lastP p) = jV9 f d i n p ∧ (True ∧ (jJp f i (jQ3 n) (restP p) = jV8 f
 i n p ∧ b = b ∧ True) ∧ (True ∧ True) ∧ (jVl d) ∧ True) ∧ True) ∧ (climbWq5 d) ∧ (climbWq4 p b d) ∧ preM f d i (jQ3 n) (restP p) ∧ (len16 (jZd f d i (jQ3 n)
 (restP p)) ∧ len16 (lastP p)) ∧ nodeD (jZd f d i (jQ3 n) (restP p)) (lastP p) = jV9 f d i n p ∧ (True ∧ (jJp f i (jQ3 n) (restP p) = jV8 f i n p ∧ b = b
 ∧ True) ∧ (True ∧ True) ∧ (jVl d) ∧ True) ∧ True
theorem climbW_nf (f:Nat) (d:List Int) (i n:Int) (p:List (List Int)) (b:Bool):fnwpH (CM f d) 8 81 (climb1H f d) (i,n) (p,b) = (SD (n = z1) (d = jV9 f d i n p ∧
 (True ∧ (p = jV8 f i n p ∧ b = b ∧ True) ∧ (True ∧ True) ∧ (jVl d) ∧ True) ∧ True) (((z2 ≤ n ∧ n ≤ z20) ∧ (True ∧ True) ∧ (True ∧ (p = p ∧ b = b ∧ True) ∧ (True ∧ True)
 ∧ (jVl d) ∧ True) ∧ lastPre p ∧ SD (i < (jQ3 n)) (climbWq1 d p b f i n) (climbWq0 i n d p b f)) ∧ (z2 ≤ n ∧ n ≤ z20) ∧ (True ∧ True) ∧ (True ∧ (p = p ∧ b = b ∧ True) ∧
 (True ∧ True) ∧ (jVl d) ∧ True) ∧ lastPre p ∧ SD (i < (jQ3 n)) (climbWq1 d p b f i n) (climbWq0 i n d p b f))):=by kernel_rfl
theorem cinc_nf (f:Nat) (d:List Int) (i n:Int) (p:List (List Int)) (r:List Int):fnwp (CM f d) 4 46 cincSp (d,i,n,p,r) = (SD (n < z1) (false = true) (SD
 ((1099511627776:Int) < n) (false = true) (SD (i < z0) (false = true) (SD (n ≤ i) (false = true) ((d = d ∧ True ∧ True ∧ True) ∧ (True ∧ (p = p ∧ false = false ∧ True) ∧ (True
 ∧ True) ∧ ((d = d ∧ True ∧ True ∧ True) ∧ True) ∧ True) ∧ preM f d i n p ∧ SD (jZd f d i n p = r) (SP (!false) (decide ((ln (jJp f i n p)) = z0) = true) (false = true))
 (false = true)))))):=by kernel_rfl
end Go.Proofs.YtcnpblceamgfcaaGreatDoor
namespace Go.PL
open Go.AM
abbrev Rt:=Int × Int × Int × Int × List Int × List Int × List (List Int × List Int × Int × Unit) × List Int × Int × List Int × Int × Int × List Int × Unit
def vaultR (r:Rt):List Int:=r.2.2.2.2.2.2.2.2.2.1
def vaultedR (r:Rt):Int:=r.2.2.2.2.2.2.2.2.2.2.1
def opensP (r:Rt) (nonce:List Int) (e:En) (i:Int) (p:List (List Int)):Prop:=fewE e ∧ cincP (jJi nonce e) i (vaultedR r) p (vaultR r)
end Go.PL
namespace Go.Proofs.YtcnpblceamgfcaaGreatDoor
open Go.AM Go.PL
def vsumSp:FSpec:=⟨[DL],[DG],fun l=>digs l,fun l=>rootD 21 l⟩
def opensSp:FSpec:=⟨[RT,DG,EN,I,DL],[.bool],fun x=>opensP x.1 x.2.1 x.2.2.1 x.2.2.2.1 x.2.2.2.2,fun _=>true⟩
def hintEo1 (f:FuncId):Hint:=if Nat.beq f 999999995 then ⟨fun _=>[],fun _=>.split,fun _=>.split,datM⟩ else ⟨fun _=>[],fun _=>.split,fun _=>.split,fun _=>0⟩
noncomputable def EOr:Ctx:=mkctx bs [(45,rootSp 21),(16,kQp),(46,cincSp)] [] hintEo1
theorem vsum_nf (l:List (List Int)):fnwp EOr 8 19 vsumSp l = (rootP y21 l ∧ rootD y21 l = rootD y21 l):=by kernel_rfl
theorem opens_nf (r:Rt) (nonce:List Int) (e:En) (i:Int) (p:List (List Int)):fnwp EOr 8 20 opensSp (r,nonce,e,i,p) = (fewE e ∧ cincP (jJi nonce e) i
 r.2.2.2.2.2.2.2.2.2.2.1 p r.2.2.2.2.2.2.2.2.2.1 ∧ true = true):=by kernel_rfl
end Go.Proofs.YtcnpblceamgfcaaGreatDoor
namespace Go.Proofs.YtcnpblceamgfcaaGreatDoor
open Go.AM Go.PL
def law3Sp:FSpec:=⟨[SC,.arr EV],[.bool],fun _=>True,fun _=>true⟩
def datP (t:TypeId):Nat:=if Nat.beq t 39 || Nat.beq t 58 || Nat.beq t 69 then 1 else datN t
def kdP:List LA:=[.kdat 0 BO,.kdat 1 BO,.kdat 2 BO,.kdat 3 BO,.kdat 4 BO,.kdat 5 BO,.kdat 6 BO,.kdat 7 BO,.kdat 8 BO,.kdat 9 BO,.kdat 10 BO,.kdat 11 BO,.kdat 12 BO,.kdat 13 RT,.kdat 14 RT,.kdat 15 RT,.kdat 16 RT,.kdat 17 RT,.kdat 18 RT,.kdat 19 RT,.kdat 20 RT,.kdat 21 RT,.kdat 22 RT]
def loopsEp (f:FuncId) (r:Nat):List LA :=
 if Nat.beq f 5 then (bif Nat.ble r 13 then [.slot 6 I] else (.slot 15 I :: .slot 14 I :: kdP)) else
 []
def hintEp (f:FuncId):Hint:=if Nat.beq f 999999995 then ⟨fun _=>[],fun _=>.split,fun _=>.split,datP⟩ else ⟨loopsEp f,fun _=>.split,fun _=>.split,fun _=>0⟩
noncomputable def tEp:List (FuncId × FSpec):=[(6,fineSp),(7,awakeSp),(9,foldDSp),(10,splitSp),(12,vaultSp),(19,vsumSp),(14,hasEnSp),(15,filingSp),(16,kQp),(17,proveSp),(20,opensSp)]
noncomputable def EP0:Ctx:=mkctx bs tEp [] hintEp
noncomputable section
abbrev law3_nf_t0:Type:=Int × Int × ((Int × Int × List (List Int × Int × Int × Int × List (List Int) × Unit) × Unit) × Int × Int × List Int × List ((Int × Int × Int × Int ×
 Int × Int × Int × List Int × List (List Int × Int × Int × List Int × Unit) × Unit) × Int × Unit) × Unit) × Int × Int × Int × Int × List Int × List Int × List (List Int × List
 Int × Int × Unit) × List Int × Int × List Int × Int × Int × List Int × Unit
abbrev law3_nf_e0:List (List Int × List Int × Int × Unit):=[]
abbrev law3_nf_e1:List (List Int × Int × Int × List Int × Unit):=[]
abbrev law3q2 (x:Int) (l:List Ev):=List.take (x.toNat - y0) (List.drop y0 l)
abbrev law3q5 (d m:Int) (dl:List Df) (x:Int) (l:List Ev):=foldD (d,m,dl,()) (law3q2 x l)
abbrev law3q0 (x:Int) (l:List Ev) (d m:Int) (dl:List Df):=sortD (vltU (law3q2 x l) (law3q5 d m dl x l).1)
abbrev jV2 (x_1:law3_nf_t0):=x_1.2.2.1.2.2.2.2.1.getD x_1.1.toNat ((z0,z0,z0,z0,z0,z0,z0,eI,law3_nf_e1,()),z0,())
abbrev law3q3 (l:List Ev) (x_1:law3_nf_t0) (x:Int):=l.getD (filN (jV2 x_1).1.1 (law3q2 x l) z0).toNat (z0,z0,z0,z0,z0,z0,z0,eI,law3_nf_e1,List.replicate y16
 z0,())
abbrev jKz (x:Int) (l:List Ev) (d m:Int) (dl:List Df):=rootD y21 (law3q0 x l d m dl)
theorem law3_nf (d m:Int) (dl:List Df) (l:List Ev):fnwp EP0 8 5 law3Sp ((d,m,dl,()),l) = (True ∧ SP (!fineB (d,m,dl,()) l) (True ∧ true = true) (LP z0 fun I μ x =>
 SD (x ≤ (ln l)) ((z0 ≤ z0 ∧ z0 ≤ x ∧ x ≤ (ln l)) ∧ okD (d,m,dl,()) (law3q2 x l) ∧ SP (!decide ((law3q5 d m dl x l).2.2.1 = z0)) (false = true) ((kQb (law3q5 d m dl x l).1
 ∧ (law3q5 d m dl x l).1.2.2.2.2.1.length ≤ (50000:Nat)) ∧ (z0 ≤ z0 ∧ z0 ≤ x ∧ x ≤ (ln l)) ∧ (kQb (law3q5 d m dl x l).1 ∧ rowsFew (law3q5 d m dl x l).1) ∧ digs (law3q0 x l d
 m dl) ∧ LP (z0,z0,(law3q5 d m dl x l).1,z0,z0,z0,z0,[z0,z0,z0,z0,z0,z0,z0,z0,z0,z0,z0,z0,z0,z0,z0,z0],[z0,z0,z0,z0,z0,z0,z0,z0,z0,z0,z0,z0,z0,
 z0,z0,z0],law3_nf_e0,[z0,z0,z0,z0,z0,z0,z0,z0,z0,z0,z0,z0,z0,z0,z0,z0],z0,[(jKz x l d m dl).getD y0 z0,(jKz x l d m dl).getD y1 z0,(jKz x l d m
 dl).getD y2 z0,(jKz x l d m dl).getD y3 z0,(jKz x l d m dl).getD y4 z0,(jKz x l d m dl).getD y5 z0,(jKz x l d m dl).getD y6 z0,(jKz x l d m dl).getD y7 z0,
 (jKz x l d m dl).getD y8 z0,(jKz x l d m dl).getD y9 z0,(jKz x l d m dl).getD y10 z0,(jKz x l d m dl).getD y11 z0,(jKz x l d m dl).getD y12 z0,(jKz x l d
 m dl).getD y13 z0,(jKz x l d m dl).getD y14 z0,(jKz x l d m dl).getD y15 z0],(ln (law3q0 x l d m dl)),z0,[z0,z0,z0,z0,z0,z0,z0,z0,z0,z0,z0,z0,z0,z0,z0,
 z0],()) fun I_1 μ_1 x_1=>SD (x_1.1 < (ln x_1.2.2.1.2.2.2.2.1)) ((IR x_1.1 x_1.2.2.1.2.2.2.2.1) ∧ (rowsE (pubL (law3q5 d m dl x l).1) ∧ fewE (jV2 x_1).1) ∧ SD (z0 < (jV2
 x_1).2.1) (isI64 (x_1.1 + z1) ∧ NX I_1 μ_1 x_1 (x_1.1 + z1,x_1.2)) (SP (hasEn (pubL (law3q5 d m dl x l).1) (jV2 x_1).1 != decide ((jV2 x_1).1.2.2.2.2.1 ≤
 x_1.2.2.1.2.2.1)) (false = true) (SP (hasEn (pubL (law3q5 d m dl x l).1) (jV2 x_1).1) (isI64 (x_1.1 + z1) ∧ NX I_1 μ_1 x_1 (x_1.1 + z1,x_1.2)) (isI64 (x_1.2.1 + z1) ∧ (z0 ≤
 z0 ∧ z0 ≤ x ∧ x ≤ (ln l)) ∧ True ∧ SD (filN (jV2 x_1).1.1 (law3q2 x l) z0 < z0) (false = true) ((IR (filN (jV2 x_1).1.1 (law3q2 x l) z0) l) ∧ fewE (jV2 x_1).1 ∧ digs
 (law3q0 x l d m dl) ∧ SP (!decide ((jY0 (law3q0 x l d m dl) (jJi (law3q3 l x_1 x).2.2.2.2.2.2.2.2.2.1 (jV2 x_1).1)).2.2 = z0)) (false = true) ((IR (filN (jV2
 x_1).1.1 (law3q2 x l) z0) l) ∧ opensP x_1.2.2.2 (law3q3 l x_1 x).2.2.2.2.2.2.2.2.2.1 (jV2 x_1).1 (jY0 (law3q0 x l d m dl) (jJi (law3q3 l x_1 x).2.2.2.2.2.2.2.2.2.1
 (jV2 x_1).1)).1 (jY0 (law3q0 x l d m dl) (jJi (law3q3 l x_1 x).2.2.2.2.2.2.2.2.2.1 (jV2 x_1).1)).2.1 ∧ SP (!true) (false = true) (isI64 (x_1.1 + z1) ∧ NX I_1 μ_1 x_1
 (x_1.1 + z1,x_1.2.1 + z1,x_1.2.2)))))))) (SP (!decide (x_1.2.1 = (ln (law3q0 x l d m dl)))) (false = true) (isI64 (x + z1) ∧ NX I μ x (x + z1))))) (True ∧ true = true))):=by
 kernel_rfl
end
end Go.Proofs.YtcnpblceamgfcaaGreatDoor
namespace Go.PL
open Go.AM
def bookS (s:Sc):List Ev → Bo → Bo
 | [],b=>b
 | e :: l,b=>bookS s l (jQh b e).1
def accB:List Ev → Bo → Prop
 | [],_=>True
 | e :: l,b=>(jQh b e).2.1 = 0 ∧ accB l (jQh b e).1
theorem foldDA_acc:∀ (l:List Ev) (b:Bo) (i:Int),(foldDA b l i).2.2.1 = 0 → accB l b
 | [],_,_,_=>trivial
 | e :: l,b,i,h=>by
  have h:(if (jQh b e).2.1 ≠ 0 then (b,i,(jQh b e).2.1,()) else foldDA (jQh b e).1 l (i + 1)).2.2.1 = 0:=h
  by_cases k:(jQh b e).2.1 = 0
  ·rw [if_neg (fun g=>g k)] at h
   exact ⟨k,foldDA_acc l _ _ h⟩
  ·rw [if_pos k] at h
   exact absurd h k
theorem foldDA_book (s:Sc):∀ (l:List Ev) (b:Bo) (i:Int),accB l b → foldDA b l i = (bookS s l b,i + (l.length:Int),0,())
 | [],b,i,_=>by
  show (b,i,0,()) = (b,i + ((0:Nat):Int),0,())
  rw [show i + ((0:Nat):Int) = i by omega]
 | e :: l,b,i,h=>by
  show (if (jQh b e).2.1 ≠ 0 then (b,i,(jQh b e).2.1,()) else foldDA (jQh b e).1 l (i + 1)) = (bookS s l (jQh b e).1,i + ((e :: l).length:Int),0,())
  rw [if_neg (fun g=>g h.1),foldDA_book s l _ _ h.2,List.length_cons]
  rw [show i + 1 + (l.length:Int) = i + ((l.length + 1:Nat):Int) by omega]
theorem bookS_app (s:Sc):∀ (l m:List Ev) (b:Bo),bookS s (l ++ m) b = bookS s m (bookS s l b)
 | [],_,_=>rfl
 | e :: l,m,b=>bookS_app s l m _
theorem accB_app:∀ (l m:List Ev) (b:Bo) (s:Sc),accB (l ++ m) b ↔ accB l b ∧ accB m (bookS s l b)
 | [],_,_,_=>⟨fun h=>⟨trivial,h⟩,fun h=>h.2⟩
 | e :: l,m,b,s=>by
  have:=accB_app l m (jQh b e).1 s
  exact ⟨fun h=>⟨⟨h.1,(this.1 h.2).1⟩,(this.1 h.2).2⟩,fun h=>⟨h.1.1,this.2 ⟨h.1.2,h.2⟩⟩⟩
def bk (s:Sc) (l:List Ev) (i:Nat):Bo:=bookS s (l.take i) (newB s)
theorem bk_succ (s:Sc) (l:List Ev) {i:Nat} (h:i < l.length):bk s l (i + 1) = (jQh (bk s l i) (l.getD i dEv)).1:=by
 unfold bk
 rw [List.take_add_one,List.getElem?_eq_getElem h,List.getD_eq_getElem?_getD,List.getElem?_eq_getElem h]
 show bookS s (l.take i ++ [l[i]]) (newB s) = _
 rw [bookS_app]
 rfl
theorem acc_take {l:List Ev} {b:Bo} (h:accB l b) (s:Sc) (i:Nat):accB (l.take i) b:=by
 rw [← List.take_append_drop i l] at h
 exact ((accB_app _ _ b s).1 h).1
theorem acc_at {s:Sc} {l:List Ev} (h:accB l (newB s)) {i:Nat} (hi:i < l.length):(jQh (bk s l i) (l.getD i dEv)).2.1 = 0:=by
 have:=acc_take h s (i + 1)
 rw [List.take_add_one,List.getElem?_eq_getElem hi] at this
 rw [List.getD_eq_getElem?_getD,List.getElem?_eq_getElem hi]
 exact ((accB_app _ _ _ s).1 this).2.1
theorem foldD_bk {s:Sc} {l:List Ev} (hs:chkS s = 0) (h:accB l (newB s)) (i:Nat):foldD s (l.take i) = (bk s l i,((l.take i).length:Int),0,()):=by
 unfold foldD
 rw [if_neg (fun g=>g hs),foldDA_book s _ _ _ (acc_take h s i),Int.zero_add]
 rfl
theorem fine_acc {s:Sc} {l:List Ev} (h:fineB s l = true):chkS s = 0 ∧ l.length ≤ 20 ∧ (∀ e ∈ l,fewEB (evE e) = true) ∧ accB l (newB s):=by
 obtain ⟨h1,h2,h3,h4⟩:=fine_iff.1 h
 obtain ⟨h5,h6⟩:=fewL_iff.1 h1
 rw [← foldD_eq h5] at h4
 unfold foldD at h4
 rw [if_neg (fun g=>g h3)] at h4
 exact ⟨h3,h5,h6,foldDA_acc _ _ _ h4⟩
theorem good_bk {s:Sc} {l:List Ev} (h:accB l (newB s)) (hl:l.length ≤ 20):∀ i:Nat,i ≤ l.length → GoodB s i (bk s l i)
 | 0,_=>good_new s
 | i + 1,hi=>by
  rw [bk_succ s l (by omega)]
  exact good_step (good_bk h hl i (by omega)) (by omega) (acc_at h (by omega))
def MoreB (b:Bo):Prop:=(∀ r ∈ b.2.2.2.2.1,0 ≤ r.2.1 ∧ r.2.1 ≤ b.2.1) ∧ (0 < b.2.1 → b.2.2.2.1.getD (b.2.1 - 1).toNat 0 = b.2.2.1) ∧ ∀ r ∈ b.2.2.2.2.1,fewE r.1
theorem more_new (s:Sc):MoreB (newB s):=⟨fun r h=>absurd h List.not_mem_nil,fun h=>absurd h (Int.lt_irrefl 0),fun r h=>absurd h List.not_mem_nil⟩
def vaR (r:Rw):List Int × List At:=(r.1.2.2.2.2.2.2.2.1,r.1.2.2.2.2.2.2.2.2.1)
def vaE (e:Ev):List Int × List At:=(e.2.2.2.2.2.2.2.1,e.2.2.2.2.2.2.2.2.1)
theorem apply_src {b:Bo} {e:Ev} (h:(jQh b e).2.1 = 0):∃ dy mo,jQh b e = makeD b e dy mo ∧ ∀ x ∈ mo,x.1.1 = e.2.2.2.1 ∧ x.2.1 = 0 ∧ vaR x = vaE e:=by
 unfold jQh at h ⊢
 by_cases h0:e.2.1 ≠ b.2.1 + 1 ∨ 1073741824 < e.2.1 ∨ e.2.2.1 < b.2.2.1 ∨ 1048576 < e.2.2.1
 ·rw [if_pos h0] at h
  exact absurd (no9 h) (by decide)
 rw [if_neg h0] at h ⊢
 by_cases hk:e.1 < 1 ∨ 6 ≤ e.1
 ·rw [if_pos hk] at h
  exact absurd (no9 h) (by decide)
 rw [if_neg hk] at h ⊢
 dsimp only at h ⊢
 by_cases hl:(liveS b e.2.2.2.1).length = 0 ∧ e.1 ≠ 1 ∧ e.1 ≠ 5
 ·rw [if_pos hl] at h
  exact absurd (no9 h) (by decide)
 rw [if_neg hl] at h ⊢
 by_cases k1:e.1 = 1
 ·rw [if_pos k1] at h ⊢
  by_cases hh:hasF e.2.2.2.1 b.2.2.2.2.1 = true
  ·rw [if_pos hh] at h
   exact absurd (no9 h) (by decide)
  rw [if_neg hh]
  exact ⟨_,_,rfl,fun x hx=>by rw [List.mem_singleton.1 hx]; exact ⟨rfl,rfl,rfl⟩⟩
 rw [if_neg k1] at h ⊢
 by_cases k2:e.1 = 2
 ·rw [if_pos k2] at h ⊢
  split at h
  ·exact absurd (no9 h) (by decide)
  ·rename_i g
   rw [if_neg g]
   exact ⟨_,_,rfl,fun x hx=>by rw [List.mem_singleton.1 hx]; exact ⟨(jXk.1 (live_ne (by omega))).2.1,rfl,rfl⟩⟩
 rw [if_neg k2] at h ⊢
 by_cases k3:e.1 = 3
 ·rw [if_pos k3] at h ⊢
  split at h
  ·exact absurd (no9 h) (by decide)
  ·rename_i g
   rw [if_neg g]
   exact ⟨_,_,rfl,fun x hx=>absurd hx List.not_mem_nil⟩
 rw [if_neg k3] at h ⊢
 by_cases k4:e.1 = 4
 ·rw [if_pos k4] at h ⊢
  split at h
  ·exact absurd (no9 h) (by decide)
  ·rename_i g
   rw [if_neg g]
   split at h
   ·exact absurd (no9 h) (by decide)
   ·rename_i g'
    rw [if_neg g']
    exact ⟨_,_,rfl,fun x hx=>absurd hx List.not_mem_nil⟩
 rw [if_neg k4]
 exact ⟨_,_,rfl,fun x hx=>absurd hx List.not_mem_nil⟩
theorem rows_from {b:Bo} {e:Ev} (hc0:e.2.1 ≠ 0) (he:(jQh b e).2.1 = 0) {r:Rw} (hr:r ∈ (jQh b e).1.2.2.2.2.1) :
 (∃ x ∈ b.2.2.2.2.1,r.1 = x.1 ∧ (r.2.1 = x.2.1 ∨ r.2.1 = e.2.1)) ∨ (r.1.1 = e.2.2.2.1 ∧ r.2.1 = 0 ∧ ((∃ x ∈ b.2.2.2.2.1,vaR r = vaR x) ∨ vaR r = vaE e)):=by
 obtain ⟨dy,mo,hE,hmo⟩:=apply_src he
 rw [hE] at he hr
 rw [kQ2 he] at hr
 rcases List.mem_append.1 (show r ∈ b.2.2.2.2.1.map (dieD e.2.2.2.1 e.2.1 dy) ++ jX7 b e dy mo from hr) with g | g
 ·left
  obtain ⟨x,hx,ex⟩:=List.mem_map.1 g
  refine ⟨x,hx,?_⟩
  unfold dieD at ex
  split at ex
  ·rw [← ex]; exact ⟨rfl,.inr rfl⟩
  ·rw [← ex]; exact ⟨rfl,.inl rfl⟩
 ·right
  unfold jX7 at g
  obtain ⟨y,hy,w,ey,_⟩:=kQ1 g
  subst ey
  rcases List.mem_append.1 hy with q | q
  ·obtain ⟨x,hx,ex⟩:=List.mem_map.1 ((jZj _).mem_iff.1 q)
   have hx:=List.mem_filter.1 hx
   have hl:=(Bool.and_eq_true _ _ ▸ hx.2).1
   subst ex
   exact ⟨(jZw.1 hl).1,rfl,.inl ⟨x,hx.1,rfl⟩⟩
  ·have:=hmo y q
   exact ⟨this.1,this.2.1,.inr this.2.2⟩
theorem fewE_va {r x:Rw} (h:vaR r = vaR x) (hx:fewE x.1):fewE r.1:=by
 injection h with h1 h2
 unfold fewE at *
 rw [h1,h2]
 exact hx
theorem more_step {b:Bo} (hI:InvB b) (hB:BndB b) (hM:MoreB b) {e:Ev} (he:(jQh b e).2.1 = 0) (hf:fewEB (evE e) = true):MoreB (jQh b e).1:=by
 obtain ⟨hc,hd,_,dy,mo,hE,_⟩:=apply_ok hI he
 have h0:=hI.1
 have hc0:e.2.1 ≠ 0:=by omega
 have hf:=fewE_of hf
 refine ⟨fun r hr=>?_,fun _=>?_,fun r hr=>?_⟩
 ·have hcm:(jQh b e).1.2.1 = e.2.1:=by
   rw [hE] at he ⊢
   rw [kQ2 he]
  rw [hcm]
  rcases rows_from hc0 he hr with ⟨x,hx,_,g | g⟩ | ⟨_,g,_⟩
  ·have:=hM.1 x hx
   omega
  ·omega
  ·omega
 ·rw [hE] at he ⊢
  rw [kQ2 he]
  show (b.2.2.2.1 ++ [e.2.2.1]).getD (e.2.1 - 1).toNat 0 = e.2.2.1
  have:=hB.2.1
  rw [show (e.2.1 - 1).toNat = b.2.2.2.1.length by omega,List.getD_eq_getElem?_getD,List.getElem?_append_right (Nat.le_refl _)]
  simp
 ·rcases rows_from hc0 he hr with ⟨x,hx,g,_⟩ | ⟨_,_,⟨x,hx,g⟩ | g⟩
  ·rw [g]; exact hM.2.2 x hx
  ·exact fewE_va g (hM.2.2 x hx)
  ·injection g with g1 g2
   unfold fewE at *
   rw [g1,g2]
   exact hf
theorem more_bk {s:Sc} {l:List Ev} (h:accB l (newB s)) (hl:l.length ≤ 20) (hf:∀ e ∈ l,fewEB (evE e) = true):∀ i:Nat,i ≤ l.length → MoreB (bk s l i)
 | 0,_=>more_new s
 | i + 1,hi=>by
  have hg:=good_bk h hl i (by omega)
  rw [bk_succ s l (by omega)]
  exact more_step hg.1 hg.2.1 (more_bk h hl hf i (by omega)) (acc_at h (by omega)) (hf _ (jX5 (by omega)))
theorem days_ok {b:Bo} (hI:InvB b) (hB:BndB b) (hM:MoreB b):kQb b:=fun r hr=>by
 have h1:=hM.1 r hr
 have h2:=hB.2.1
 have h3:=hI.1
 unfold dayOk lastC
 split <;> omega
theorem rows_few {b:Bo} (hI:InvB b) (hB:BndB b) (hM:MoreB b):(∀ r ∈ b.2.2.2.2.1,fewE r.1) ∧ b.2.2.2.2.1.length ≤ 50000:=by
 have h2:=hB.2.2.1
 have h3:=hB.1
 exact ⟨hM.2.2,by omega⟩
theorem okD_take {s:Sc} {l:List Ev} (hs:chkS s = 0) (hl:l.length ≤ 20) (n:Nat):(chkS s = 0 → jQ6 s) ∧ (l.take n).length ≤ 20:=⟨fun _=>chk_names hs,by rw [List.length_take]; omega⟩
end Go.PL
namespace Go.PL
open Go.AM
section
variable {id:Int} {v:List Int} {a:List At}
end
end Go.PL
namespace Go.PL
open Go.AM
section
variable {s:Sc} {l:List Ev} {k:Nat} {v:List Int} {a:List At}
theorem day_step (h:accB l (newB s)) (hl:l.length ≤ 20) {i:Nat} (hi:i < l.length):(bk s l i).2.2.1 ≤ (bk s l (i + 1)).2.2.1 ∧ (bk s l (i + 1)).2.2.1 = (l.getD i dEv).2.2.1:=by
 have hA:=acc_at h hi
 obtain ⟨_,hd,_,dy,mo,hE,_⟩:=apply_ok (good_bk h hl i (by omega)).1 hA
 rw [bk_succ s l hi]
 rw [hE] at hA ⊢
 rw [kQ2 hA]
 exact ⟨hd,rfl⟩
end
section
variable {id u:Int} {v:List Int} {a:List At} {b:Bo}
end
end Go.PL
namespace Go.PL
open Go.AM
def Kp (i j:Nat) (b c:Bo):Prop:=∃ (f:Rw → Rw) (add:List Rw),c.2.2.2.2.1 = b.2.2.2.2.1.map f ++ add ∧ ∀ r ∈ b.2.2.2.2.1,(f r).1 = r.1 ∧ (f r = r ∨ (r.2.1 = 0 ∧ (i:Int) < (f r).2.1 ∧ (f r).2.1 ≤ (j:Int)))
section
variable {s:Sc} {l:List Ev}
theorem step_rows (h:accB l (newB s)) (hl:l.length ≤ 20) {i:Nat} (hi:i < l.length):Kp i (i + 1) (bk s l i) (bk s l (i + 1)) ∧
 (bk s l (i + 1)).2.2.2.1 = (bk s l i).2.2.2.1 ++ [(bk s l (i + 1)).2.2.1]:=by
 have hA:=acc_at h hi
 have hg:=good_bk h hl i (by omega)
 obtain ⟨hc,hd,_,dy,mo,hE,_⟩:=apply_ok hg.1 hA
 have hn:=hg.2.2.2
 rw [bk_succ s l hi]
 rw [hE] at hA ⊢
 rw [kQ2 hA]
 refine ⟨⟨dieD _ _ dy,_,rfl,fun r _=>?_⟩,rfl⟩
 unfold dieD
 split
 ·rename_i hv
  refine ⟨rfl,.inr ⟨(jZw.1 ((Bool.and_eq_true _ _ ▸ hv).1)).2,?_,?_⟩⟩
  ·show (i:Int) < (l.getD i dEv).2.1; omega
  ·show (l.getD i dEv).2.1 ≤ _; omega
 ·exact ⟨rfl,.inl rfl⟩
theorem day_at (h:accB l (newB s)) (hl:l.length ≤ 20):∀ j:Nat,j ≤ l.length → (bk s l j).2.2.2.1.length = j ∧ ∀ c:Nat,c ≤ j → dayOfS (bk s l j) (c:Int) = (bk s l c).2.2.1
 | 0,_=>⟨rfl,fun c hc=>by rw [show c = 0 by omega]; rfl⟩
 | j + 1,hj=>by
  obtain ⟨h1,h2⟩:=day_at h hl j (by omega)
  have hs:=(step_rows h hl (i:=j) (by omega)).2
  refine ⟨by rw [hs,List.length_append,h1]; rfl,fun c hc=>?_⟩
  unfold dayOfS
  by_cases h0:c = 0
  ·subst h0; rfl
  ·rw [if_neg (by omega),hs,List.getD_eq_getElem?_getD]
   have e:((c:Int) - 1).toNat = c - 1:=by omega
   rw [e]
   by_cases hcj:c ≤ j
   ·rw [List.getElem?_append_left (by omega),← h2 c hcj]
    unfold dayOfS
    rw [if_neg (by omega),e,List.getD_eq_getElem?_getD]
   ·rw [show c = j + 1 by omega,List.getElem?_append_right (by omega),h1]
    simp
theorem day_mono (h:accB l (newB s)) (hl:l.length ≤ 20) (i:Nat):∀ d:Nat,i + d ≤ l.length → (bk s l i).2.2.1 ≤ (bk s l (i + d)).2.2.1
 | 0,_=>Int.le_refl _
 | d + 1,hd=>Int.le_trans (day_mono h hl i d (by omega)) (day_step h hl (i:=i + d) (by omega)).1
theorem day_le (h:accB l (newB s)) (hl:l.length ≤ 20) {i j:Nat} (hij:i ≤ j) (hj:j ≤ l.length):(bk s l i).2.2.1 ≤ (bk s l j).2.2.1:=by
 have:=day_mono h hl i (j - i) (by omega)
 rwa [show i + (j - i) = j by omega] at this
theorem pub_day (h:accB l (newB s)) (hl:l.length ≤ 20) {j:Nat} (hj:j ≤ l.length) {r:Rw} {c:Nat} (hc:lastC (bk s l j) r = (c:Int)) (hcj:c ≤ j):pubS (bk s l j) r = true ↔ fromR r ≤ (bk s l c).2.2.1:=by
 unfold pubS
 rw [hc,(day_at h hl j hj).2 c hcj]
 exact decide_eq_true_iff
theorem last_nat (h:accB l (newB s)) (hl:l.length ≤ 20) (hf:∀ e ∈ l,fewEB (evE e) = true) {j:Nat} (hj:j ≤ l.length) {r:Rw} (hr:r ∈ (bk s l j).2.2.2.2.1):∃ c:Nat,lastC (bk s l j) r = (c:Int) ∧ c ≤ j ∧ (r.2.1 = 0 → c = j) ∧ (r.2.1 ≠ 0 → (c:Int) = r.2.1 - 1):=by
 have h1:=(more_bk h hl hf j hj).1 r hr
 have h2:=(good_bk h hl j hj).2.2.2
 unfold lastC
 by_cases h0:0 < r.2.1
 ·rw [if_pos h0]
  exact ⟨(r.2.1 - 1).toNat,by omega,by omega,by omega,by omega⟩
 ·rw [if_neg h0]
  exact ⟨j,by omega,by omega,fun _=>rfl,by omega⟩
theorem pub_le (h:accB l (newB s)) (hl:l.length ≤ 20) (hf:∀ e ∈ l,fewEB (evE e) = true) {j:Nat} (hj:j ≤ l.length) {r:Rw} (hr:r ∈ (bk s l j).2.2.2.2.1) (hp:pubS (bk s l j) r = true):fromR r ≤ (bk s l j).2.2.1:=by
 obtain ⟨c,c1,c2,_,_⟩:=last_nat h hl hf hj hr
 exact Int.le_trans ((pub_day h hl hj c1 c2).1 hp) (day_le h hl c2 hj)
theorem live_pub (h:accB l (newB s)) (hl:l.length ≤ 20) (hf:∀ e ∈ l,fewEB (evE e) = true) {j:Nat} (hj:j ≤ l.length) {r:Rw} (hr:r ∈ (bk s l j).2.2.2.2.1) (h0:r.2.1 = 0):pubS (bk s l j) r = true ↔ fromR r ≤ (bk s l j).2.2.1:=by
 obtain ⟨c,c1,c2,c3,_⟩:=last_nat h hl hf hj hr
 have:=pub_day h hl hj c1 c2
 rwa [c3 h0] at this
theorem filN_app (id:Int):∀ (a b:List Ev) (k:Int),0 ≤ k → filN id (a ++ b) k = if 0 ≤ filN id a k then filN id a k else filN id b (k + a.length)
 | [],b,k,_=>by simp [filN]
 | e :: a,b,k,hk=>by
  show (if e.1 = 1 ∧ e.2.2.2.1 = id then k else filN id (a ++ b) (k + 1)) = _
  show _ = if 0 ≤ (if e.1 = 1 ∧ e.2.2.2.1 = id then k else filN id a (k + 1)) then (if e.1 = 1 ∧ e.2.2.2.1 = id then k else filN id a (k + 1)) else _
  by_cases hc:e.1 = 1 ∧ e.2.2.2.1 = id
  ·rw [if_pos hc,if_pos hc,if_pos hk]
  ·rw [if_neg hc,if_neg hc,filN_app id a b (k + 1) (by omega),List.length_cons,show k + 1 + (a.length:Int) = k + ((a.length + 1:Nat):Int) by omega]
theorem filN_lt (id:Int):∀ (a:List Ev) (k:Int),0 ≤ filN id a k → filN id a k < k + a.length
 | [],k,h=>by
  have h:(0:Int) ≤ -1:=h
  omega
 | e :: a,k,h=>by
  unfold filN at h ⊢
  rw [List.length_cons]
  split
  ·omega
  ·rename_i hc
   rw [if_neg hc] at h
   have:=filN_lt id a (k + 1) h
   omega
theorem filN_mono {id:Int} {i j:Nat} (hij:i ≤ j) (h:0 ≤ filN id (l.take i) 0):filN id (l.take j) 0 = filN id (l.take i) 0:=by
 have e:l.take j = l.take i ++ (l.take j).drop i:=by
  have:=List.take_append_drop i (l.take j)
  rw [List.take_take,Nat.min_eq_left hij] at this
  exact this.symm
 rw [e,filN_app _ _ _ _ (Int.le_refl 0),if_pos h]
theorem filed (h:accB l (newB s)) (hl:l.length ≤ 20):∀ i:Nat,i ≤ l.length → ∀ r ∈ (bk s l i).2.2.2.2.1,0 ≤ filN r.1.1 (l.take i) 0
 | 0,_=>fun r hr=>absurd hr List.not_mem_nil
 | i + 1,hi=>fun r hr=>by
  have hA:=acc_at h (i:=i) (by omega)
  have hg:=good_bk h hl i (by omega)
  have ih:=filed h hl i (by omega)
  have go:∀ x ∈ (bk s l i).2.2.2.2.1,r.1.1 = x.1.1 → 0 ≤ filN r.1.1 (l.take (i + 1)) 0:=fun x hx e=>by
   have:=ih x hx
   rw [← e] at this
   rw [filN_mono (Nat.le_succ i) this]
   exact this
  rw [bk_succ s l (by omega)] at hr
  obtain ⟨hc,hd,hk,dy,mo,hE,_,_,h1,h5⟩:=apply_ok hg.1 hA
  have hc0:(l.getD i dEv).2.1 ≠ 0:=by have:=hg.2.2.2; omega
  rcases rows_from hc0 hA hr with ⟨x,hx,e,_⟩ | ⟨e,_⟩
  ·exact go x hx (by rw [e])
  ·by_cases k1:(l.getD i dEv).1 = 1
   ·have ht:l.take (i + 1) = l.take i ++ [l.getD i dEv]:=by
     rw [List.take_add_one,List.getElem?_eq_getElem (by omega),List.getD_eq_getElem?_getD,List.getElem?_eq_getElem (by omega)]
     rfl
    rw [ht,filN_app _ _ _ _ (Int.le_refl 0)]
    split
    ·rename_i q; exact q
    ·unfold filN
     rw [if_pos ⟨k1,e.symm⟩]
     omega
   ·by_cases k5:(l.getD i dEv).1 = 5
    ·obtain ⟨rfl,rfl⟩:=h5 k5
     rw [hE] at hA hr
     rw [kQ2 hA,die_id] at hr
     have hn:jX7 (bk s l i) (l.getD i dEv) idDy [] = []:=by
      unfold jX7
      rw [add_id]
      rfl
     rw [hn] at hr
     have hr:r ∈ (bk s l i).2.2.2.2.1:=by simpa using hr
     exact go r hr rfl
    ·by_cases hL:(liveS (bk s l i) (l.getD i dEv).2.2.2.1).length = 0
     ·exfalso
      by_cases hT:badT (bk s l i) (l.getD i dEv)
      ·rw [jQ2 hT] at hA
       exact absurd (no9 hA) (by decide)
      ·rw [ap_none hT (by omega) hL] at hA
       exact absurd (no9 hA) (by decide)
     ·have hm:=live_ne hL
      have hm2:=jXk.1 hm
      exact go _ hm2.1 (e.trans hm2.2.1.symm)
end
end Go.PL
namespace Go.PL
open Go.AM
theorem digits_inj:∀ (m:Nat) {z z':Int} {r r':List Int},0 ≤ z → 0 ≤ z' → jK2 m z ++ r = jK2 m z' ++ r' → z = z' ∧ r = r'
 | 0,z,z',r,r',_,_,h=>by
  have h:z :: r = z' :: r':=h
  injection h with h1 h2
  exact ⟨h1,h2⟩
 | m + 1,z,z',r,r',h0,h0',h=>by
  unfold jK2 at h
  by_cases c:z < 128
  ·by_cases c':z' < 128
   ·rw [if_pos c,if_pos c'] at h
    have h:z :: r = z' :: r':=h
    injection h with h1 h2
    exact ⟨h1,h2⟩
   ·rw [if_pos c,if_neg c'] at h
    have h:z :: r = (z' % 128 + 128) :: (jK2 m (z' / 128) ++ r'):=h
    injection h with h1 h2
    omega
  ·by_cases c':z' < 128
   ·rw [if_neg c,if_pos c'] at h
    have h:(z % 128 + 128) :: (jK2 m (z / 128) ++ r) = z' :: r':=h
    injection h with h1 h2
    omega
   ·rw [if_neg c,if_neg c'] at h
    have h:(z % 128 + 128) :: (jK2 m (z / 128) ++ r) = (z' % 128 + 128) :: (jK2 m (z' / 128) ++ r'):=h
    injection h with h1 h2
    obtain ⟨e1,e2⟩:=digits_inj m (by omega) (by omega) h2
    exact ⟨by omega,e2⟩
theorem jYl {n n':Int} {r r':List Int} (h:encI n ++ r = encI n' ++ r'):n = n' ∧ r = r':=by
 obtain ⟨e1,e2⟩:=digits_inj 9 (zz_nonneg n) (zz_nonneg n') h
 refine ⟨?_,e2⟩
 unfold zz at e1
 split at e1 <;> split at e1 <;> omega
theorem encE_from {a b:En} (h:encE a = encE b):a.2.2.2.2.1 = b.2.2.2.2.1:=by
 unfold encE jQs numsE at h
 simp only [List.cons_append,List.flatMap_cons,List.append_assoc] at h
 have h:=(jYl h).2
 have h:=(jYl h).2
 have h:=(jYl h).2
 have h:=(jYl h).2
 have h:=(jYl h).2
 exact (jYl h).1
end Go.PL
namespace Go.Proofs.YtcnpblceamgfcaaGreatDoor
open Go.AM Go.PL
def hintEi (f:FuncId):Hint:=if Nat.beq f 999999995 then ⟨fun _=>[],fun _=>.split,fun _=>.split,datM⟩ else ⟨fun _=>[],fun r=>bif Nat.beq f 74 && (Nat.beq r 3 || Nat.beq r 5) then .all else .split,fun _=>.split,fun _=>0⟩
noncomputable def IN0:Ctx:=mkctx bs [(75,splitDSp),(45,rootSp 21)] [] hintEi
abbrev nI (l:List (List Int)):Int:=(l.length:Int)
abbrev kI (l:List (List Int)):Int:=(splitD (nI l).toNat:Int)
abbrev fstI (l:List (List Int)):List (List Int):=(l.drop 0).take ((kI l).toNat - 0)
abbrev sndI (l:List (List Int)):List (List Int):=(l.drop (kI l).toNat).take (l.length - (kI l).toNat)
abbrev cutI (l:List (List Int)):Prop:=(0:Int) ≤ 0 ∧ 0 ≤ kI l ∧ kI l ≤ nI l ∧ kI l = kI l
abbrev tailI (l:List (List Int)):Prop:=0 ≤ kI l ∧ kI l ≤ nI l
abbrev twoI (b:Bool) (P:Prop):Prop:=match b with | true=>P ∧ P | false=>P
abbrev addI (x:List Int) (a:List (List Int)) (k:List (List Int) → Prop):Prop:=roomP IN0 31 (a.length + [x].length) ∧ k (a ++ [x])
def iP:Nat → Bool → List (List Int) → Int → List (List Int) → (List (List Int) → Prop) → Prop
 | 0,_,l,_,a,k=>(decide (nI l = 1) = true → k a) ∧ (decide (nI l = 1) = false → False)
 | f + 1,b,l,i,a,k=>(decide (nI l = 1) = true → k a) ∧ (decide (nI l = 1) = false → (2 ≤ nI l ∧ nI l ≤ 20) ∧
  (decide (i < kI l) = true → twoI b (cutI l ∧ iP f true (fstI l) i a fun a'=>tailI l ∧ rootP 21 (sndI l) ∧ addI (rootD 21 (sndI l)) a' k)) ∧
  (decide (i < kI l) = false → match b with
    | false=>tailI l ∧ isI64 (i - kI l) ∧ iP f false (sndI l) (i - kI l) a fun a'=>cutI l ∧ rootP 21 (fstI l) ∧ addI (rootD 21 (fstI l)) a' k
    | true=>isI64 (i - kI l) ∧ twoI true (tailI l ∧ iP f false (sndI l) (i - kI l) a fun a'=>cutI l ∧ rootP 21 (fstI l) ∧ addI (rootD 21 (fstI l)) a' k)))
theorem incl_nf (l:List (List Int)) (i:Int):fnwp IN0 6 43 inclSp (l,i) =
 ((decide (i < 0) = true → ([],(1:Int)) = (inclL l i,(0:Int))) ∧ (decide (i < 0) = false → (decide (nI l ≤ i) = true → ([],(1:Int)) = (inclL l i,(0:Int))) ∧ (decide (nI l ≤ i) = false →
   iP 5 false l i [] fun a=>(a,(0:Int)) = (inclL l i,(0:Int))))):=by kernel_rfl
end Go.Proofs.YtcnpblceamgfcaaGreatDoor
namespace Go.PL
open Go.AM
def lvI:Nat → Nat
 | 0=>1
 | 1=>2
 | 2=>4
 | 3=>8
 | 4=>16
 | _=>20
theorem lv_step {f n:Nat} (hf:f ≤ 4) (h2:2 ≤ n) (h:n ≤ lvI (f + 1)):splitD n ≤ lvI f ∧ n - splitD n ≤ lvI f:=by
 match f,hf with
 | 0,_ | 1,_ | 2,_ | 3,_ | 4,_ =>
  simp only [lvI] at h ⊢
  unfold splitD
  repeat' split
  all_goals omega
theorem inclD_len:∀ (m:Nat) (l:List (List Int)) (i:Nat),(inclD m l i).length ≤ m
 | 0,l,i=>Nat.le_refl 0
 | m + 1,l,i=>by
  unfold inclD
  split
  ·simp
  ·split
   ·rw [List.length_append]
    have:=inclD_len m (l.take (splitD l.length)) i
    simp only [List.length_singleton]
    omega
   ·rw [List.length_append]
    have:=inclD_len m (l.drop (splitD l.length)) (i - splitD l.length)
    simp only [List.length_singleton]
    omega
end Go.PL
namespace Go.Proofs.YtcnpblceamgfcaaGreatDoor
open Go.AM Go.PL
attribute [local irreducible] fnwp fnwpG fnwpO rootD
theorem fstI_eq (l:List (List Int)):fstI l = l.take (splitD l.length):=by
 unfold fstI kI nI
 rw [Int.toNat_natCast,Int.toNat_natCast]
 rfl
theorem sndI_eq (l:List (List Int)):sndI l = l.drop (splitD l.length):=by
 unfold sndI kI nI
 rw [Int.toNat_natCast,Int.toNat_natCast,List.take_of_length_le (by rw [List.length_drop]; omega)]
theorem kI_eq (l:List (List Int)):kI l = (splitD l.length:Int):=by
 unfold kI nI
 rw [Int.toNat_natCast]
theorem twoI_of {b:Bool} {P:Prop} (h:P):twoI b P:=by
 cases b
 ·exact h
 ·exact ⟨h,h⟩
theorem addI_of {x:List Int} {a:List (List Int)} {k:List (List Int) → Prop} (h:a.length ≤ 100) (hk:k (a ++ [x])):addI x a k :=
 ⟨roomB 16 (by kernel_rfl) (by omega) (by rw [List.length_singleton]; omega),hk⟩
theorem iP_ok:∀ (f:Nat),f ≤ 5 → ∀ {b:Bool} {l:List (List Int)} {i:Int} {a:List (List Int)} {k:List (List Int) → Prop} {m:Nat},digs l → 0 ≤ i → i < l.length → l.length ≤ lvI f → f ≤ m → a.length + m ≤ 50 →
 k (a ++ inclD (m + 1) l i.toNat) → iP f b l i a k:=by
 have base:∀ {l:List (List Int)} {i:Int} {a:List (List Int)} {k:List (List Int) → Prop} {m:Nat},decide (nI l = 1) = true → k (a ++ inclD (m + 1) l i.toNat) → k a:=by
  intro l i a k m h hk
  have h:=dt h
  unfold inclD at hk
  rw [if_pos (by unfold nI at h; omega),List.append_nil] at hk
  exact hk
 intro f
 induction f with
 | zero =>
  intro _ b l i a k m hd h0 h1 hl hm ha hk
  refine ⟨fun h=>base h hk,fun h=>?_⟩
  have h:=df h
  have hl:l.length ≤ 1:=hl
  unfold nI at h
  omega
 | succ f ih =>
  intro hf b l i a k m hd h0 h1 hl hm ha hk
  obtain ⟨m,rfl⟩:∃ q,m = q + 1:=⟨m - 1,by omega⟩
  refine ⟨fun h=>base h hk,fun h=>?_⟩
  have h:=df h
  have hn:l.length ≠ 1:=by unfold nI at h; omega
  have h20:=hd.1
  have h2:2 ≤ l.length:=by omega
  have hs:=jYx h2 h20
  have hlv:=lv_step (f:=f) (by omega) h2 hl
  have hcut:cutI l:=by unfold cutI; rw [kI_eq]; unfold nI; omega
  have htl:tailI l:=by unfold tailI; rw [kI_eq]; unfold nI; omega
  have e:inclD (m + 1 + 1) l i.toNat = if i.toNat < splitD l.length then inclD (m + 1) (l.take (splitD l.length)) i.toNat ++ [rootD 21 (l.drop (splitD l.length))] else inclD (m + 1) (l.drop (splitD l.length)) (i.toNat - splitD l.length) ++ [rootD 21 (l.take (splitD l.length))]:=by
   conv=>lhs; unfold inclD
   rw [if_neg hn]
  rw [e] at hk
  have dF:=jY9 hd (splitD l.length)
  have dS:=kQa hd (splitD l.length)
  have lF:(l.take (splitD l.length)).length = splitD l.length:=by rw [List.length_take]; omega
  have lS:(l.drop (splitD l.length)).length = l.length - splitD l.length:=List.length_drop
  have pF:rootP 21 (fstI l):=by rw [fstI_eq]; exact ⟨by have:=dF.1; omega,dF⟩
  have pS:rootP 21 (sndI l):=by rw [sndI_eq]; exact ⟨by have:=dS.1; omega,dS⟩
  refine ⟨by unfold nI; omega,fun c=>?_,fun c=>?_⟩
  ·have c:=dt c
   rw [kI_eq] at c
   rw [if_pos (by omega)] at hk
   refine twoI_of ⟨hcut,ih (m:=m) (by omega) (by rw [fstI_eq]; exact dF) h0 (by rw [fstI_eq,lF]; omega) (by rw [fstI_eq,lF]; exact hlv.1) (by omega) (by omega) ⟨htl,pS,addI_of ?_ ?_⟩⟩
   ·rw [List.length_append]
    have:=inclD_len (m + 1) (fstI l) i.toNat
    omega
   ·rw [fstI_eq,sndI_eq,List.append_assoc]
    exact hk
  ·have c:=df c
   rw [kI_eq] at c
   rw [if_neg (by omega)] at hk
   have hi:isI64 (i - kI l):=by rw [kI_eq]; unfold isI64; omega
   have core:iP f false (sndI l) (i - kI l) a fun a'=>cutI l ∧ rootP 21 (fstI l) ∧ addI (rootD 21 (fstI l)) a' k:=by
    rw [kI_eq]
    refine ih (m:=m) (by omega) (by rw [sndI_eq]; exact dS) (by omega) (by rw [sndI_eq,lS]; omega) (by rw [sndI_eq,lS]; exact hlv.2) (by omega) (by omega) ⟨hcut,pF,addI_of ?_ ?_⟩
    ·rw [List.length_append]
     have:=inclD_len (m + 1) (sndI l) (i - (splitD l.length:Int)).toNat
     omega
    ·rw [fstI_eq,sndI_eq,List.append_assoc,show (i - (splitD l.length:Int)).toNat = i.toNat - splitD l.length by omega]
     exact hk
   cases b
   ·exact ⟨htl,hi,core⟩
   ·exact ⟨hi,twoI_of ⟨htl,core⟩⟩
theorem IN0_sound:jQa IN0:=jQd ⟨sat_splitD,sat_root 21,trivial⟩ trivial
theorem sat_incl:Sat bs.P 43 inclSp:=jQe IN0_sound 6 _ inclSp fun (⟨l,i⟩:List (List Int) × Int) _ hp=>by
 obtain ⟨hd,h0,h1⟩:digs l ∧ 0 ≤ i ∧ i < l.length:=hp
 rw [incl_nf]
 refine ⟨fun h=>absurd (dt h) (by omega),fun _=>⟨fun h=>absurd (dt h) (by unfold nI; omega),fun _=>?_⟩⟩
 exact iP_ok 5 (by omega) (m:=19) hd h0 h1 hd.1 (by omega) (by rw [List.length_nil]; omega) rfl
end Go.Proofs.YtcnpblceamgfcaaGreatDoor
namespace Go.PL
open Go.AM
theorem idxD_step {d:List Int} {l:List (List Int)} {k:Int} (h0:0 ≤ k) (h:k < l.length):idxD d (l.drop k.toNat) k = if l.getD k.toNat (List.replicate 16 0) = d then k else idxD d (l.drop (k + 1).toNat) (k + 1):=by
 rw [jJc (d:=List.replicate 16 0) h0 h]
 rfl
theorem idxD_end {d:List Int} {l:List (List Int)} {k:Int} (h:¬ k < l.length):idxD d (l.drop k.toNat) k = -1:=by
 rw [List.drop_of_length_le (by omega)]
 rfl
theorem idxD_mem {d:List Int}:∀ {l:List (List Int)} {k:Int},0 ≤ k → d ∈ l → 0 ≤ idxD d l k
 | [],_,_,h=>absurd h List.not_mem_nil
 | x :: l,k,h0,h=>by
  unfold idxD
  split
  ·exact h0
  ·rename_i hn
   rcases List.mem_cons.1 h with e | e
   ·exact absurd e.symm hn
   ·exact idxD_mem (by omega) e
theorem prove_ok {d:List Int} {l:List (List Int)} (h:d ∈ l):(jY0 l d).2.2 = 0:=by
 unfold jY0
 rw [if_neg (by have:=idxD_mem (Int.le_refl 0) h; omega)]
end Go.PL
namespace Go.Proofs.YtcnpblceamgfcaaGreatDoor
open Go.AM Go.PL
attribute [local irreducible] fnwp fnwpG fnwpO hof
theorem PR0_sound:jQa PR0:=jQd ⟨sat_incl,trivial⟩ trivial
theorem sat_prove:Sat bs.P 17 proveSp:=jQe PR0_sound 8 _ proveSp fun (⟨l,d⟩:List (List Int) × List Int) hok hp=>by
 have hd:digs l:=hp
 have hm:l.length ≤ 20:=hd.1
 rw [prove_nf]; delta IR LP NX SD eL ln y16 z0 z1 z5; dsimp only
 refine ⟨fun k=>0 ≤ k ∧ k ≤ l.length ∧ idxD d l 0 = idxD d (l.drop k.toNat) k,fun k=>(l.length - k).toNat,⟨by omega,by omega,rfl⟩,?_⟩
 rintro k ⟨h0,h1,h2⟩
 refine ⟨fun h=>?_,fun h=>?_⟩
 ·have h:=dt h
  have hs:=idxD_step (d:=d) h0 h
  refine ⟨⟨h0,h⟩,fun c=>⟨⟨hd,h0,h⟩,?_⟩,fun c=>⟨by unfold isI64; omega,⟨by omega,by omega,?_⟩,by dsimp only; omega⟩⟩
  ·rw [if_pos (dt c)] at hs
   unfold jY0
   rw [h2,hs,if_neg (by omega)]
  ·rw [if_neg (df c)] at hs
   exact h2.trans hs
 ·have h:=df h
  unfold jY0
  rw [h2,idxD_end h]
  rfl
end Go.Proofs.YtcnpblceamgfcaaGreatDoor
namespace Go.PL
open Go.AM Go.Proofs.YtcnpblceamgfcaaGreatDoor
attribute [local irreducible] hof
theorem encE_id {a b:En} (h:encE a = encE b):a.1 = b.1:=by
 unfold encE jQs numsE at h
 simp only [List.cons_append,List.flatMap_cons,List.append_assoc] at h
 have h:=(jYl h).2
 exact (jYl h).1
def liveN (l:List Rw):Nat:=(l.filter jZo).length
theorem liveN_cnt {id cm:Int} (hc:cm ≠ 0) (dy:Dys):∀ rows:List Rw,liveN (rows.map (dieD id cm dy)) + (addD id cm dy rows).length ≤ liveN rows:=by
 intro rows
 induction rows with
 | nil=>simp [liveN,addD]
 | cons r l ih =>
  unfold addD liveN at *
  rw [List.map_cons]
  simp only [List.filter_cons,List.length_map] at ih ⊢
  by_cases h:(liveB id r && mvB dy r) = true
  ·have hd:dieD id cm dy r = (r.1,cm,()):=if_pos h
   rw [hd]
   have hn:¬ (jZo (r.1,cm,()) = true):=by simp [jZo,hc]
   rw [if_neg hn]
   have hl:=Bool.and_eq_true _ _ ▸ h
   have hx:jZo r = true:=by
    unfold jZo
    exact decide_eq_true (jZw.1 hl.1).2
   rw [if_pos hx]
   split
   ·rw [List.length_cons,List.length_cons]; omega
   ·rw [List.length_cons]; omega
  ·have hd:dieD id cm dy r = r:=if_neg h
   rw [hd]
   have hn:¬ ((liveB id r && (mvB dy r && ltB dy r)) = true):=fun g=>by
    rw [Bool.and_eq_true,Bool.and_eq_true] at g
    exact h (by rw [Bool.and_eq_true]; exact ⟨g.1,g.2.1⟩)
   rw [if_neg hn]
   split
   ·rw [List.length_cons,List.length_cons]; omega
   ·exact ih
section
variable {s:Sc} {l:List Ev}
theorem liveN_bk (h:accB l (newB s)) (hl:l.length ≤ 20):∀ i:Nat,i ≤ l.length → liveN (bk s l i).2.2.2.2.1 ≤ i
 | 0,_=>Nat.le_refl 0
 | i + 1,hi=>by
  have ih:=liveN_bk h hl i (by omega)
  have hA:=acc_at h (i:=i) (by omega)
  have hg:=good_bk h hl i (by omega)
  obtain ⟨hc,hd,hk,dy,mo,hE,_,hmo,_,_⟩:=apply_ok hg.1 hA
  have hc0:(l.getD i dEv).2.1 ≠ 0:=by have:=hg.1.1; omega
  have hml:mo.length ≤ 1:=by
   rcases hmo with q | ⟨m,q,_⟩
   ·rw [q]; simp
   ·rw [q]; simp
  have hal:(jX7 (bk s l i) (l.getD i dEv) dy mo).length = (addD (l.getD i dEv).2.2.2.1 (l.getD i dEv).2.1 dy (bk s l i).2.2.2.2.1).length + mo.length:=by
   unfold jX7
   rw [numb_len,List.length_append,(jZj _).length_eq]
  have hcnt:=liveN_cnt (id:=(l.getD i dEv).2.2.2.1) hc0 dy (bk s l i).2.2.2.2.1
  rw [bk_succ s l (by omega)]
  rw [hE] at hA ⊢
  rw [kQ2 hA]
  show liveN (_ ++ _) ≤ _
  unfold liveN at *
  rw [List.filter_append,List.length_append]
  have:=List.length_filter_le jZo (jX7 (bk s l i) (l.getD i dEv) dy mo)
  omega
theorem vlt_len (h:accB l (newB s)) (hl:l.length ≤ 20) {i:Nat} (hi:i ≤ l.length):(vltL (bk s l i)).length ≤ i:=by
 have h1:=liveN_bk h hl i hi
 have:((restL (bk s l i)).filter jZo).Sublist ((bk s l i).2.2.2.2.1.filter jZo):=(List.filter_sublist).filter jZo
 exact Nat.le_trans this.length_le h1
theorem vltD_16 {m:List Ev} {r:Rw}:∀ x ∈ vltD m r,x.length = 16:=fun x hx=>by
 unfold vltD at hx
 split at hx
 ·cases hx
 ·rw [List.mem_singleton] at hx
  subst hx
  exact hof_len2 _ _
theorem digs_vlt (h:accB l (newB s)) (hl:l.length ≤ 20) {i:Nat} (hi:i ≤ l.length) (m:List Ev):digs (sortD (vltU m (bk s l i))):=by
 refine ⟨?_,fun x hx=>?_⟩
 ·rw [(jYy _).length_eq]
  have:=vltU_len m (vltL (bk s l i))
  have:=vlt_len h hl hi
  unfold vltU
  omega
 ·have hx:=(jYy _).mem_iff.1 hx
  unfold vltU at hx
  obtain ⟨r,_,hr⟩:=List.mem_flatMap.1 hx
  exact vltD_16 x hr
theorem mem_pubL {b:Bo} {r:Rw}:r ∈ pubL b ↔ r ∈ b.2.2.2.2.1 ∧ pubS b r = true:=List.mem_filter
theorem mem_vltL {b:Bo} {r:Rw}:r ∈ vltL b ↔ r ∈ b.2.2.2.2.1 ∧ pubS b r = false ∧ r.2.1 = 0:=by
 unfold vltL restL
 rw [List.mem_filter,List.mem_filter]
 unfold jZo
 simp [and_assoc]
theorem hasEn_iff {L:List Rw} {e:En}:hasEn L e = true ↔ ∃ r ∈ L,encE r.1 = encE e:=by
 unfold hasEn
 rw [List.any_eq_true]
 simp
theorem filed_lt (h:accB l (newB s)) (hl:l.length ≤ 20) {i:Nat} (hi:i ≤ l.length) {r:Rw} (hr:r ∈ (bk s l i).2.2.2.2.1):0 ≤ filN r.1.1 (l.take i) 0 ∧ filN r.1.1 (l.take i) 0 < i:=by
 have h1:=filed h hl i hi r hr
 have h2:=filN_lt r.1.1 (l.take i) 0 h1
 rw [List.length_take] at h2
 omega
theorem take_get {α:Type} {l:List α} {d:α} {i k:Nat} (h:k < i):(l.take i).getD k d = l.getD k d:=by
 rw [List.getD_eq_getElem?_getD,List.getD_eq_getElem?_getD,List.getElem?_take,if_pos h]
theorem vlt_mem (h:accB l (newB s)) (hl:l.length ≤ 20) {i j:Nat} (hij:i ≤ j) (hj:j ≤ l.length) {r q:Rw} (hr:r ∈ (bk s l i).2.2.2.2.1) (hq:q ∈ vltL (bk s l j)) (he:encE q.1 = encE r.1) :
 jJi (nonceE (l.getD (filN r.1.1 (l.take i) 0).toNat dEv)) r.1 ∈ sortD (vltU (l.take j) (bk s l j)):=by
 refine (jYy _).mem_iff.2 (List.mem_flatMap.2 ⟨q,hq,?_⟩)
 obtain ⟨f0,f1⟩:=filed_lt h hl (show i ≤ l.length by omega) hr
 have hm:=filN_mono (l:=l) hij f0
 unfold vltD
 rw [encE_id he,hm,if_neg (by omega),take_get (by omega),List.mem_singleton]
 unfold jJi
 rw [he]
theorem open_le (h:accB l (newB s)) (hl:l.length ≤ 20) (hf:∀ e ∈ l,fewEB (evE e) = true) {j:Nat} (hj:j ≤ l.length) {x:En} (h2:hasEn (pubL (bk s l j)) x = true):x.2.2.2.2.1 ≤ (bk s l j).2.2.1:=by
 obtain ⟨p,p1,p2⟩:=hasEn_iff.1 h2
 obtain ⟨b1,b2⟩:=mem_pubL.1 p1
 have hp:=pub_le h hl hf hj b1 b2
 have hfr:fromR p = x.2.2.2.2.1:=encE_from p2
 rwa [hfr] at hp
end
end Go.PL
