import Derived.Test.YtcnpblceamgfcaaGreatDoorKa1
import Derived.Test.YtcnpblceamgfcaaGreatDoorKa10
set_option linter.unusedSimpArgs false
namespace Go.Proofs.YtcnpblceamgfcaaGreatDoor
open Go.AM Go.PL
set_option linter.unusedVariables false
abbrev ap1_nf_t3:Type:=Int × Int × List ((Int × Int × Int × Int × Int × Int × Int × List Int × List (List Int × Int × Int × List Int × Unit) × Unit) × Int × Unit) × List
 ((Int × Int × Int × Int × Int × Int × Int × List Int × List (List Int × Int × Int × List Int × Unit) × Unit) × Int × Unit) × List Int × Int × Int × List (List Int × Int × Int ×
 Int × List (List Int) × Unit) × Int × Int × Int × Int × Int × Int × Int × Int × Int × List Int × List (List Int × Int × Int × List Int × Unit)
abbrev ap1_nf_e0:List (List Int × Int × Int × List Int × Unit):=[]
abbrev ap1_nf_e1:List ((Int × Int × Int × Int × Int × Int × Int × List Int × List (List Int × Int × Int × List Int × Unit) × Unit) × Int × Unit):=[]
abbrev ap1q1 (sc:Sc) (cm da:Int) (ds:List Int) (rs:List Rw) (ec ed ei eo eu ef:Int) (ev:List Int) (ea:List At) (en:List Int):=((applyD (sc,cm,da,ds,rs,())
 (z1,ec,ed,ei,eo,eu,ef,ev,ea,en,())).1,(applyD (sc,cm,da,ds,rs,()) (z1,ec,ed,ei,eo,eu,ef,ev,ea,en,())).2.1)
abbrev ap1q2 (x:ap1_nf_t3):=((x.2.2.2.2.2.2.2.2.2.2.1,x.2.2.2.2.2.2.2.2.2.2.2.1,x.2.2.2.2.2.2.2.2.2.2.2.2.1,x.2.2.2.2.2.2.2.2.2.2.2.2.2.1,x.2.2.2.2.2.2.2.2.2.2.2.2.2.2.1,
 x.2.2.2.2.2.2.2.2.2.2.2.2.2.2.2.1,x.2.2.2.2.2.2.2.2.2.2.2.2.2.2.2.2.1,x.2.2.2.2.2.2.2.2.2.2.2.2.2.2.2.2.2.1,x.2.2.2.2.2.2.2.2.2.2.2.2.2.2.2.2.2.2,()),z0,())
abbrev ap1q3:=((z0,z0,z0,z0,z0,z0,z0,eI,ap1_nf_e0,()),z0,())
abbrev ap1q4 (sc:Sc) (cm da:Int) (ds:List Int) (rs:List Rw):=((sc.1,sc.2.1,sc.2.2.1,()),cm,da,ds,rs,())
abbrev ap1q0 (rs:List Rw) (ei:Int) (sc:Sc) (cm da:Int) (ds:List Int) (ec ed eo eu ef:Int) (ev:List Int) (ea:List At) (en:List Int):=(z0 ≤ z1 ∧ z1 < z6) ∧ LP
 z0 fun I μ x=>SD (x < (ln rs)) ((IR x rs) ∧ SD ((rs.getD x.toNat ap1q3).1.1 = ei) (((ap1q4 sc cm da ds rs),z6) = (ap1q1 sc cm da ds rs ec ed ei eo eu ef ev ea en)) (isI64 (x
 + z1) ∧ NX I μ x (x + z1))) (ds.length ≤ (1000000:Nat) ∧ roomP BP1 y3 (ds.length + [ed].length) ∧ rs.length ≤ (1000000:Nat) ∧ LP (z0,z0,rs,ds ++ [ed],sc.1,sc.2.1,
 sc.2.2.1,ec,ed,ei,z0,eo,ed,eu,(1048577:Int),ec,ev,ea) fun I μ x=>SD (x.1 < (ln rs)) ((IR x.1 rs) ∧ SD ((rs.getD x.1.toNat ap1q3).1.1 = ei) (isI64 (x.1 + z1) ∧ NX
 I μ x (x.1 + z1,max x.2.1 (rs.getD x.1.toNat ap1q3).1.2.1,x.2.2)) (isI64 (x.1 + z1) ∧ NX I μ x (x.1 + z1,x.2))) (LP (z0,x.2.1,ap1_nf_e1,x.2.2) fun I μ x=>SD (x.1 < (ln
 rs)) ((IR x.1 rs) ∧ SD ((rs.getD x.1.toNat ap1q3).1.1 = ei) (SP (!decide ((rs.getD x.1.toNat ap1q3).2.1 = z0)) (isI64 (x.1 + z1) ∧ NX I μ x (x.1 + z1,x.2)) (isI64 (x.1 + z1) ∧
 NX I μ x (x.1 + z1,x.2))) (isI64 (x.1 + z1) ∧ NX I μ x (x.1 + z1,x.2))) ((x.2.2.1.length ≤ y19 ∧ (110:Nat) = (110:Nat)) ∧ roomP BP1 y58 ((isortR x.2.2.1).length + [(ap1q2
 x)].length) ∧ LP (z0,x.2.1,isortR x.2.2.1 ++ [(ap1q2 x)],x.2.2.2) fun I μ x_1=>SD (x_1.1 < (ln (isortR x.2.2.1 ++ [(ap1q2 x)]))) (isI64 (x_1.2.1 + z1) ∧ isI64 (x_1.2.1 + z1
 + x_1.1) ∧ (IR x_1.1 x_1.2.2.1) ∧ isI64 (x_1.1 + z1) ∧ NX I μ x_1 (x_1.1 + z1,x_1.2.1,x_1.2.2.1.set x_1.1.toNat (((x_1.2.2.1.getD x_1.1.toNat ap1q3).1.1,x_1.2.1 + z1 + x_1.1,
 (x_1.2.2.1.getD x_1.1.toNat ap1q3).1.2.2),(x_1.2.2.1.getD x_1.1.toNat ap1q3).2),x_1.2.2.2)) (isI64 ((ln x_1.2.2.1) - z1) ∧ (IR ((ln x_1.2.2.1) - z1) x_1.2.2.1) ∧ namesOk sc ∧
 SP (!decide (entS sc (x_1.2.2.1.getD ((ln x_1.2.2.1) - z1).toNat ap1q3).1 = z0)) (((ap1q4 sc cm da ds rs),entS sc (x_1.2.2.1.getD ((ln x_1.2.2.1) - z1).toNat ap1q3).1) = (ap1q1
 sc cm da ds rs ec ed ei eo eu ef ev ea en)) (isI64 ((ln x_1.2.2.2.1) + (ln x_1.2.2.1)) ∧ SD ((65536:Int) < (ln x_1.2.2.2.1) + (ln x_1.2.2.1)) (((ap1q4 sc cm da ds rs),z2) =
 (ap1q1 sc cm da ds rs ec ed ei eo eu ef ev ea en)) (roomP BP1 y58 (x_1.2.2.2.1.length + x_1.2.2.1.length) ∧ (((x_1.2.2.2.2.2.1,x_1.2.2.2.2.2.2.1,x_1.2.2.2.2.2.2.2.1,()),
 x_1.2.2.2.2.2.2.2.2.1,x_1.2.2.2.2.2.2.2.2.2.1,x_1.2.2.2.2.1,x_1.2.2.2.1 ++ x_1.2.2.1,()),z0) = (ap1q1 sc cm da ds rs ec ed ei eo eu ef ev ea en)))))))
theorem ap1_nf (sc:Sc) (cm da:Int) (ds:List Int) (rs:List Rw) (ec ed ei eo eu ef:Int) (ev:List Int) (ea:List At) (en:List Int):fnwp BP1 8 29 applyDSp ((sc,cm,
 da,ds,rs,()),((1:Int),ec,ed,ei,eo,eu,ef,ev,ea,en,())) = (isI64 (cm + z1) ∧ SP (!decide (ec = cm + z1)) (((ap1q4 sc cm da ds rs),z9) = (ap1q1 sc cm da ds rs ec
 ed ei eo eu ef ev ea en)) (SD ((1073741824:Int) < ec) (((ap1q4 sc cm da ds rs),z9) = (ap1q1 sc cm da ds rs ec ed ei eo eu ef ev ea en)) (SD (ed < da) (((ap1q4 sc cm da ds
 rs),z9) = (ap1q1 sc cm da ds rs ec ed ei eo eu ef ev ea en)) (SD ((1048576:Int) < ed) (((ap1q4 sc cm da ds rs),z9) = (ap1q1 sc cm da ds rs ec ed ei eo eu ef ev ea en))
 (decide (z1 < z1) = false ∧ decide (z6 ≤ z1) = false ∧ (liveF ei rs).length ≤ y19 ∧ SD ((ln (liveS (sc,cm,da,ds,rs,()) ei)) = z0) (SP (!decide (z1 = z1)) (SP (!decide (z1 =
 z5)) (((ap1q4 sc cm da ds rs),z5) = (ap1q1 sc cm da ds rs ec ed ei eo eu ef ev ea en)) (ap1q0 rs ei sc cm da ds ec ed eo eu ef ev ea en)) (ap1q0 rs ei sc cm da ds ec ed eo eu
 ef ev ea en)) (ap1q0 rs ei sc cm da ds ec ed eo eu ef ev ea en)))))):=by kernel_rfl
end Go.Proofs.YtcnpblceamgfcaaGreatDoor
namespace Go.Proofs.YtcnpblceamgfcaaGreatDoor
open Go.AM Go.PL
set_option linter.unusedVariables false
attribute [local irreducible] fnwp fnwpG fnwpO
theorem BP1_sound:SpecSound BP1:=mkctxO_sound ⟨sat_live,sat_ent,trivial⟩ ⟨sat_cloneI,sat_cloneR,trivial⟩ trivial trivial trivial ⟨satO_sortB,trivial⟩
theorem ap1_ok (sc:Sc) (cm da:Int) (ds:List Int) (rs:List Rw) (ec ed ei eo eu ef:Int) (ev:List Int) (ea:List At) (en:List Int) (hn:namesOk sc) (hrs:rs.length ≤ 50000) (hds:ds.length ≤ 50000) (hv:verF ei rs ≤ 1000000) (hlv:(liveF ei rs).length ≤ 19) (hc0:0 ≤ cm) (hc1:cm ≤ 1000000):fnwp BP1 8 29 applyDSp ((sc,cm,da,ds,rs,()),((1:Int),ec,ed,ei,eo,eu,ef,ev,ea,en,())):=by
 rw [ap1_nf]; delta ap1_nf_t3 ap1_nf_e0 ap1_nf_e1 ap1q1 ap1q2 ap1q3 ap1q4 ap1q0 IR LP NX SD SP eI ln y19 y3 y58 z0 z1 z2 z5 z6 z9; dsimp only
 have hL:(liveS (sc,cm,da,ds,rs,()) ei).length ≤ 19:=by unfold liveS; rw [isortR_len]; exact hlv
 have hv0:=verF_nn ei rs
 have hi0:isI64 (cm + 1):=by unfold isI64; omega
 refine ⟨hi0,fun c1=>ap_pair (ap_time (.inl (ndt c1))),fun c1=>⟨fun c2=>ap_pair (ap_time (.inr (.inl (dt c2)))),fun c2=>⟨fun c3=>ap_pair (ap_time (.inr (.inr (.inl (dt c3))))),fun c3=>⟨fun c4=>ap_pair (ap_time (.inr (.inr (.inr (dt c4))))),fun c4=>?_⟩⟩⟩⟩
 have hT:¬ badT ((sc,cm,da,ds,rs,()):Bo) (((1:Int),ec,ed,ei,eo,eu,ef,ev,ea,en,()):Ev):=by
  rintro (g | g | g | g)
  ·exact g (ndf c1)
  ·exact df c2 g
  ·exact df c3 g
  ·exact df c4 g
 have hr8:∀ {C:Ctx},C.P = Tryz.prog → roomP C 3 (ds.length + [ed].length):=fun {C} hC=>roomB 8 (by rw [hC]; kernel_rfl) (by omega) (by rw [List.length_singleton]; omega)
 have hd6:ds.length ≤ 1000000:=by omega
 have hr6:rs.length ≤ 1000000:=by omega
 refine ⟨by decide,by decide,hlv,three1 (fun q _=>absurd q (by decide)) ?_⟩
 refine ⟨⟨by decide,by decide⟩,fun x=>0 ≤ x ∧ x ≤ rs.length ∧ hasF ei (rs.take x.toNat) = false,fun x=>(rs.length - x).toNat,⟨by omega,by omega,rfl⟩,?_⟩
 rintro y ⟨y0,y1,y2⟩
 have yn:∀ h:y < (rs.length:Int),hasF ei (rs.take (y + 1).toNat) = decide ((rs.getD y.toNat dRw).1.1 = ei):=fun h=>by
  rw [take_snoc (d:=dRw) y0 h,hasF_snoc,y2,Bool.false_or]
 refine ⟨fun h=>⟨⟨y0,dt h⟩,fun c=>ap_pair (ap_1a hT rfl ?_),fun c=>⟨by have:=dt h; unfold isI64; omega,⟨by omega,by have:=dt h; omega,by rw [yn (dt h)]; exact c⟩,by have:=dt h; dsimp only; omega⟩⟩,fun h=>?_⟩
 ·have hx:hasF ei (rs.take (y + 1).toNat) = true:=(yn (dt h)).trans c
  obtain ⟨r,hr,hr2⟩:=List.any_eq_true.1 hx
  exact List.any_eq_true.2 ⟨r,List.mem_of_mem_take hr,hr2⟩
 have h:=df h
 rw [List.take_of_length_le (by omega)] at y2
 have hA:applyD ((sc,cm,da,ds,rs,()):Bo) (((1:Int),ec,ed,ei,eo,eu,ef,ev,ea,en,()):Ev) = makeD _ _ idDy [(((ei,0,eo,ed,eu,1048577,ec,ev,ea,()):En),0,())]:=ap_1b hT rfl y2
 refine ⟨hd6,hr8 rfl,hr6,fun x=>0 ≤ x.1 ∧ x.1 ≤ rs.length ∧ x.2.1 = verF ei (rs.take x.1.toNat) ∧ x.2.2 = (rs,ds ++ [ed],sc.1,sc.2.1,sc.2.2.1,ec,ed,ei,0,eo,ed,eu,1048577,ec,ev,ea),fun x=>(rs.length - x.1).toNat,⟨by dsimp only; omega,by dsimp only; omega,rfl,rfl⟩,?_⟩
 rintro ⟨i,v,kk⟩ ⟨h0,h1,h2,h3⟩
 dsimp only at h0 h1 h2 h3
 subst h3
 subst h2
 dsimp only
 refine ⟨fun h=>?_,fun h=>?_⟩
 ·have h:=dt h
  have hi:isI64 (i + 1):=by unfold isI64; omega
  have hmu:((rs.length:Int) - (i + 1)).toNat < ((rs.length:Int) - i).toNat:=by omega
  have hs:=verF_snoc ei (rs.take i.toNat) (rs.getD i.toNat dRw)
  rw [← take_snoc (d:=dRw) h0 h] at hs
  have b0:0 ≤ i + 1:=by omega
  have b1:i + 1 ≤ (rs.length:Int):=by omega
  exact ⟨⟨h0,h⟩,fun c=>⟨hi,⟨b0,b1,(hs.trans (if_pos (dt c))).symm,rfl⟩,hmu⟩,fun c=>⟨hi,⟨b0,b1,(hs.trans (if_neg (df c))).symm,rfl⟩,hmu⟩⟩
 have h:=df h
 rw [List.take_of_length_le (by omega)]
 refine ⟨fun x=>L2 ei ec idDy rs x.1 x.2.2.1 x.2.2.2.1 ∧ x.2.1 = verF ei rs ∧ x.2.2.2.2 = (ds ++ [ed],sc.1,sc.2.1,sc.2.2.1,ec,ed,ei,0,eo,ed,eu,1048577,ec,ev,ea),fun x=>(rs.length - x.1).toNat,⟨l2_zero _ _ _ _,rfl,rfl⟩,?_⟩
 rintro ⟨i,v,ad,rw2,kk⟩ ⟨hI,h2,h3⟩
 dsimp only at hI h2 h3
 subst h3
 subst h2
 dsimp only
 have h0:=hI.1
 have h1:=hI.2.1
 have hsm:=l2_small hI
 have hln:=l2_len hI
 refine ⟨fun h=>?_,fun h=>?_⟩
 ·have h:=dt h
  have hi:isI64 (i + 1):=by unfold isI64; omega
  have hmu:((rs.length:Int) - (i + 1)).toNat < ((rs.length:Int) - i).toNat:=by omega
  exact ⟨⟨h0,h⟩,fun c=>⟨fun d=>⟨hi,⟨l2_skip0 hI h (fun g=>ndt d g.2),rfl,rfl⟩,hmu⟩,fun d=>⟨hi,⟨l2_skip1 hI h rfl rfl rfl,rfl,rfl⟩,hmu⟩⟩,fun c=>⟨hi,⟨l2_skip0 hI h (fun g=>df c g.1),rfl,rfl⟩,hmu⟩⟩
 have h:=df h
 obtain ⟨e1,e2⟩:=l2_end hI h
 have hal:(isortR ad).length ≤ 19:=by rw [isortR_len]; omega
 have hAl:(isortR ad ++ [(((ei,0,eo,ed,eu,1048577,ec,ev,ea,()):En),0,())]).length ≤ 20:=by rw [List.length_append,List.length_singleton]; omega
 refine ⟨⟨by omega,rfl⟩,roomB 112 (by kernel_rfl) (by omega) (by rw [List.length_singleton]; omega),fun x=>L3 (verF ei rs) (isortR ad ++ [(((ei,0,eo,ed,eu,1048577,ec,ev,ea,()):En),0,())]) x.1 x.2.2.1 ∧ x.2.1 = verF ei rs ∧ x.2.2.2 = (rw2,ds ++ [ed],sc.1,sc.2.1,sc.2.2.1,ec,ed,ei,0,eo,ed,eu,1048577,ec,ev,ea),fun x=>((isortR ad ++ [(((ei,0,eo,ed,eu,1048577,ec,ev,ea,()):En),0,())]).length - x.1).toNat,⟨l3_zero _ _,rfl,rfl⟩,?_⟩
 rintro ⟨j,v,c,kk⟩ ⟨g1,h2,h3⟩
 dsimp only at g1 h2 h3
 subst h3
 subst h2
 dsimp only
 have j0:=g1.1
 have hcl:=l3_len g1
 refine ⟨fun h=>?_,fun h=>?_⟩
 ·have h:j < (((isortR ad ++ [(((ei,0,eo,ed,eu,1048577,ec,ev,ea,()):En),0,())]).length:Nat):Int):=dt h
  exact ⟨by unfold isI64; omega,by unfold isI64; omega,⟨j0,by omega⟩,by unfold isI64; omega,⟨l3_step g1 h,rfl,rfl⟩,by omega⟩
 have h:¬ j < (((isortR ad ++ [(((ei,0,eo,ed,eu,1048577,ec,ev,ea,()):En),0,())]).length:Nat):Int):=df h
 have hc:=l3_end g1 h
 rw [e1] at hc
 have hsum:isI64 ((rw2.length:Int) + (c.length:Int)):=by unfold isI64; omega
 have hroom:roomP BP1 58 (rw2.length + c.length):=roomB 112 (by kernel_rfl) (by omega) (by omega)
 have hM:=mk1 hA e2 hc
 have hcp:0 < c.length:=by rw [hcl,List.length_append,List.length_singleton]; omega
 have hlast:c.getD ((c.length:Int) - 1).toNat dRw = lastR c:=by
  unfold lastR
  rw [show ((c.length:Int) - 1).toNat = c.length - 1 by omega]
 have hlast:c.getD ((c.length:Int) - 1).toNat (((0:Int),(0:Int),(0:Int),(0:Int),(0:Int),(0:Int),(0:Int),[],[],()),(0:Int),()) = lastR c:=hlast
 rw [hlast]
 refine ⟨by unfold isI64; omega,by omega,hn,fun y=>ap_pair (hM.trans (fin_err rfl (ndt y))),fun y=>?_⟩
 have hno:¬ (true = true ∧ entS sc (lastR c).1 ≠ 0):=fun g=>g.2 (ndf y)
 exact ⟨hsum,fun z=>ap_pair (hM.trans (fin_lim hno (dt z))),fun z=>⟨hroom,ap_pair (hM.trans (fin_fine hno (df z)))⟩⟩
end Go.Proofs.YtcnpblceamgfcaaGreatDoor
namespace Go.Proofs.YtcnpblceamgfcaaGreatDoor
open Go.AM Go.PL
set_option linter.unusedVariables false
abbrev ap2_nf_t1:Type:=Int × Int × List ((Int × Int × Int × Int × Int × Int × Int × List Int × List (List Int × Int × Int × List Int × Unit) × Unit) × Int × Unit) × List
 ((Int × Int × Int × Int × Int × Int × Int × List Int × List (List Int × Int × Int × List Int × Unit) × Unit) × Int × Unit) × List Int × Int × Int × List (List Int × Int × Int ×
 Int × List (List Int) × Unit) × Int × Int × Int × Int × Int × Int × Int × Int × Int × Int × Int × Int × List Int × List (List Int × Int × Int × List Int × Unit)
abbrev ap2_nf_t2:Type:=Int × Int × List ((Int × Int × Int × Int × Int × Int × Int × List Int × List (List Int × Int × Int × List Int × Unit) × Unit) × Int × Unit) × List
 ((Int × Int × Int × Int × Int × Int × Int × List Int × List (List Int × Int × Int × List Int × Unit) × Unit) × Int × Unit) × List Int × Int × Int × List (List Int × Int × Int ×
 Int × List (List Int) × Unit) × Int × Int × Int × Int × Int × Int × Int × Int × Int × Int × Int × Int × List Int × List (List Int × Int × Int × List Int × Unit) → Prop
abbrev ap2_nf_t3:Type:=Int × Int × List ((Int × Int × Int × Int × Int × Int × Int × List Int × List (List Int × Int × Int × List Int × Unit) × Unit) × Int × Unit) × List
 ((Int × Int × Int × Int × Int × Int × Int × List Int × List (List Int × Int × Int × List Int × Unit) × Unit) × Int × Unit) × List Int × Int × Int × List (List Int × Int × Int ×
 Int × List (List Int) × Unit) × Int × Int × Int × Int × Int × Int × Int × Int × Int × Int × Int × Int × List Int × List (List Int × Int × Int × List Int × Unit) → Nat
abbrev ap2_nf_e0:List (List Int × Int × Int × List Int × Unit):=[]
abbrev ap2_nf_e1:List ((Int × Int × Int × Int × Int × Int × Int × List Int × List (List Int × Int × Int × List Int × Unit) × Unit) × Int × Unit):=[]
abbrev ap2q0:=((z0,z0,z0,z0,z0,z0,z0,eI,ap2_nf_e0,()),z0,())
abbrev ap2q5 (rs:List Rw) (x:ap2_nf_t1):=rs.getD x.1.toNat ap2q0
abbrev ap2q4 (rs:List Rw) (x:ap2_nf_t1) (ec:Int):=(((ap2q5 rs x).1.1,(ap2q5 rs x).1.2.1,(ap2q5 rs x).1.2.2.1,(ap2q5 rs x).1.2.2.2.1,(ap2q5 rs x).1.2.2.2.2.1,min
 (ap2q5 rs x).1.2.2.2.2.2.1 (max x.2.2.2.2.2.2.2.2.2.2.1 (ap2q5 rs x).1.2.2.2.2.1),ec,(ap2q5 rs x).1.2.2.2.2.2.2.2.1,(ap2q5 rs x).1.2.2.2.2.2.2.2.2.1,()),z0,())
abbrev ap2q1 (x:ap2_nf_t1) (rs:List Rw) (ec:Int) (I:ap2_nf_t2) (μ:ap2_nf_t3):=(IR x.1 x.2.2.2.1) ∧ SD ((ap2q5 rs x).1.2.2.2.2.1 < min (ap2q5 rs x).1.2.2.2.2.2.1 (max
 x.2.2.2.2.2.2.2.2.2.2.1 (ap2q5 rs x).1.2.2.2.2.1)) (roomP BP2 y58 (x.2.2.1.length + [(ap2q4 rs x ec)].length) ∧ isI64 (x.1 + z1) ∧ NX I μ x (x.1 + z1,x.2.1,x.2.2.1 ++ [(ap2q4
 rs x ec)],x.2.2.2.1.set x.1.toNat ((x.2.2.2.1.getD x.1.toNat ap2q0).1,ec,(x.2.2.2.1.getD x.1.toNat ap2q0).2.2),x.2.2.2.2)) (isI64 (x.1 + z1) ∧ NX I μ x (x.1 + z1,x.2.1,
 x.2.2.1,x.2.2.2.1.set x.1.toNat ((x.2.2.2.1.getD x.1.toNat ap2q0).1,ec,(x.2.2.2.1.getD x.1.toNat ap2q0).2.2),x.2.2.2.2))
abbrev ap2q2 (sc:Sc) (cm da:Int) (ds:List Int) (rs:List Rw) (ec ed ei eo eu ef:Int) (ev:List Int) (ea:List At) (en:List Int):=((applyD (sc,cm,da,ds,rs,())
 (z2,ec,ed,ei,eo,eu,ef,ev,ea,en,())).1,(applyD (sc,cm,da,ds,rs,()) (z2,ec,ed,ei,eo,eu,ef,ev,ea,en,())).2.1)
abbrev ap2q3 (x:ap2_nf_t1):=((x.2.2.2.2.2.2.2.2.2.2.2.2.2.1,x.2.2.2.2.2.2.2.2.2.2.2.2.2.2.1,x.2.2.2.2.2.2.2.2.2.2.2.2.2.2.2.1,x.2.2.2.2.2.2.2.2.2.2.2.2.2.2.2.2.1,
 x.2.2.2.2.2.2.2.2.2.2.2.2.2.2.2.2.2.1,x.2.2.2.2.2.2.2.2.2.2.2.2.2.2.2.2.2.2.1,x.2.2.2.2.2.2.2.2.2.2.2.2.2.2.2.2.2.2.2.1,x.2.2.2.2.2.2.2.2.2.2.2.2.2.2.2.2.2.2.2.2.1,
 x.2.2.2.2.2.2.2.2.2.2.2.2.2.2.2.2.2.2.2.2.2,()),z0,())
abbrev ap2q6 (sc:Sc) (cm da:Int) (ds:List Int) (rs:List Rw):=((sc.1,sc.2.1,sc.2.2.1,()),cm,da,ds,rs,())
abbrev ap2q7 (sc:Sc) (cm da:Int) (ds:List Int) (rs:List Rw) (ei:Int):=(liveS (sc,cm,da,ds,rs,()) ei).getD y0 ap2q0
theorem ap2_nf (sc:Sc) (cm da:Int) (ds:List Int) (rs:List Rw) (ec ed ei eo eu ef:Int) (ev:List Int) (ea:List At) (en:List Int):fnwp BP2 8 29 applyDSp ((sc,cm,
 da,ds,rs,()),((2:Int),ec,ed,ei,eo,eu,ef,ev,ea,en,())) = (isI64 (cm + z1) ∧ SP (!decide (ec = cm + z1)) (((ap2q6 sc cm da ds rs),z9) = (ap2q2 sc cm da ds rs ec
 ed ei eo eu ef ev ea en)) (SD ((1073741824:Int) < ec) (((ap2q6 sc cm da ds rs),z9) = (ap2q2 sc cm da ds rs ec ed ei eo eu ef ev ea en)) (SD (ed < da) (((ap2q6 sc cm da ds
 rs),z9) = (ap2q2 sc cm da ds rs ec ed ei eo eu ef ev ea en)) (SD ((1048576:Int) < ed) (((ap2q6 sc cm da ds rs),z9) = (ap2q2 sc cm da ds rs ec ed ei eo eu ef ev ea en))
 (decide (z2 < z1) = false ∧ decide (z6 ≤ z2) = false ∧ (liveF ei rs).length ≤ y19 ∧ decide ((ln (liveS (sc,cm,da,ds,rs,()) ei)) = z0) = false ∧ (z0 ≤ z2 ∧ z2 < z6) ∧ (IR z0
 (liveS (sc,cm,da,ds,rs,()) ei)) ∧ isI64 ((ln (liveS (sc,cm,da,ds,rs,()) ei)) - z1) ∧ (IR ((ln (liveS (sc,cm,da,ds,rs,()) ei)) - z1) (liveS (sc,cm,da,ds,rs,
 ()) ei)) ∧ SD (ef < z0) (((ap2q6 sc cm da ds rs),z9) = (ap2q2 sc cm da ds rs ec ed ei eo eu ef ev ea en)) (SD (((liveS (sc,cm,da,ds,rs,()) ei).getD ((ln (liveS (sc,cm,
 da,ds,rs,()) ei)) - z1).toNat ap2q0).1.2.2.2.2.2.1 ≤ max ef (ap2q7 sc cm da ds rs ei).1.2.2.2.2.1) (((ap2q6 sc cm da ds rs),z9) = (ap2q2 sc cm da ds rs ec ed ei eo eu ef ev
 ea en)) (ds.length ≤ (1000000:Nat) ∧ roomP BP2 y3 (ds.length + [ed].length) ∧ rs.length ≤ (1000000:Nat) ∧ LP (z0,z0,rs,ds ++ [ed],sc.1,sc.2.1,sc.2.2.1,ec,ed,max ef
 (ap2q7 sc cm da ds rs ei).1.2.2.2.2.1,ei,(ap2q7 sc cm da ds rs ei).1.1,(ap2q7 sc cm da ds rs ei).1.2.1,(ap2q7 sc cm da ds rs ei).1.2.2.1,(ap2q7 sc cm da ds rs
 ei).1.2.2.2.1,max ef (ap2q7 sc cm da ds rs ei).1.2.2.2.2.1,((liveS (sc,cm,da,ds,rs,()) ei).getD ((ln (liveS (sc,cm,da,ds,rs,()) ei)) - z1).toNat
 ap2q0).1.2.2.2.2.2.1,ec,ev,ea) fun I μ x=>SD (x.1 < (ln rs)) ((IR x.1 rs) ∧ SD ((rs.getD x.1.toNat ap2q0).1.1 = x.2.2.2.2.2.2.2.2.2.2.1) (isI64 (x.1 + z1) ∧ NX I μ x (x.1 +
 z1,max x.2.1 (rs.getD x.1.toNat ap2q0).1.2.1,x.2.2)) (isI64 (x.1 + z1) ∧ NX I μ x (x.1 + z1,x.2))) (LP (z0,x.2.1,ap2_nf_e1,x.2.2.1,x.2.2.2.1,x.2.2.2.2.1,x.2.2.2.2.2.1,
 x.2.2.2.2.2.2.1,x.2.2.2.2.2.2.2.1,x.2.2.2.2.2.2.2.2.1,x.2.2.2.2.2.2.2.2.2.1,x.2.2.2.2.2.2.2.2.2.2.1,ei,x.2.2.2.2.2.2.2.2.2.2.2) fun I μ x=>SD (x.1 < (ln rs)) ((IR x.1
 rs) ∧ SD ((ap2q5 rs x).1.1 = x.2.2.2.2.2.2.2.2.2.2.2.2.1) (SP (!decide ((ap2q5 rs x).2.1 = z0)) (isI64 (x.1 + z1) ∧ NX I μ x (x.1 + z1,x.2)) (SD ((ap2q5 rs x).1.2.2.2.2.1 =
 (ap2q5 rs x).1.2.2.2.2.1) (SD (min (ap2q5 rs x).1.2.2.2.2.2.1 (max x.2.2.2.2.2.2.2.2.2.2.1 (ap2q5 rs x).1.2.2.2.2.1) = (ap2q5 rs x).1.2.2.2.2.2.1) (isI64 (x.1 + z1) ∧ NX I μ x
 (x.1 + z1,x.2)) (ap2q1 x rs ec I μ)) (ap2q1 x rs ec I μ))) (isI64 (x.1 + z1) ∧ NX I μ x (x.1 + z1,x.2))) ((x.2.2.1.length ≤ y19 ∧ (110:Nat) = (110:Nat)) ∧ roomP BP2 y58
 ((isortR x.2.2.1).length + [(ap2q3 x)].length) ∧ LP (z0,x.2.1,isortR x.2.2.1 ++ [(ap2q3 x)],x.2.2.2) fun I μ x_1=>SD (x_1.1 < (ln (isortR x.2.2.1 ++ [(ap2q3 x)]))) (isI64
 (x_1.2.1 + z1) ∧ isI64 (x_1.2.1 + z1 + x_1.1) ∧ (IR x_1.1 x_1.2.2.1) ∧ isI64 (x_1.1 + z1) ∧ NX I μ x_1 (x_1.1 + z1,x_1.2.1,x_1.2.2.1.set x_1.1.toNat (((x_1.2.2.1.getD
 x_1.1.toNat ap2q0).1.1,x_1.2.1 + z1 + x_1.1,(x_1.2.2.1.getD x_1.1.toNat ap2q0).1.2.2),(x_1.2.2.1.getD x_1.1.toNat ap2q0).2),x_1.2.2.2)) (isI64 ((ln x_1.2.2.1) - z1) ∧ (IR
 ((ln x_1.2.2.1) - z1) x_1.2.2.1) ∧ namesOk sc ∧ SP (!decide (entS sc (x_1.2.2.1.getD ((ln x_1.2.2.1) - z1).toNat ap2q0).1 = z0)) (((ap2q6 sc cm da ds rs),entS sc
 (x_1.2.2.1.getD ((ln x_1.2.2.1) - z1).toNat ap2q0).1) = (ap2q2 sc cm da ds rs ec ed ei eo eu ef ev ea en)) (isI64 ((ln x_1.2.2.2.1) + (ln x_1.2.2.1)) ∧ SD ((65536:Int) < (ln
 x_1.2.2.2.1) + (ln x_1.2.2.1)) (((ap2q6 sc cm da ds rs),z2) = (ap2q2 sc cm da ds rs ec ed ei eo eu ef ev ea en)) (roomP BP2 y58 (x_1.2.2.2.1.length + x_1.2.2.1.length) ∧
 (((x_1.2.2.2.2.2.1,x_1.2.2.2.2.2.2.1,x_1.2.2.2.2.2.2.2.1,()),x_1.2.2.2.2.2.2.2.2.1,x_1.2.2.2.2.2.2.2.2.2.1,x_1.2.2.2.2.1,x_1.2.2.2.1 ++ x_1.2.2.1,()),z0) = (ap2q2 sc cm
 da ds rs ec ed ei eo eu ef ev ea en))))))))))))):=by kernel_rfl
end Go.Proofs.YtcnpblceamgfcaaGreatDoor
namespace Go.Proofs.YtcnpblceamgfcaaGreatDoor
open Go.AM Go.PL
set_option linter.unusedVariables false
attribute [local irreducible] fnwp fnwpG fnwpO
theorem BP2_sound:SpecSound BP2:=mkctxO_sound ⟨sat_live,sat_ent,trivial⟩ ⟨sat_cloneI,sat_cloneR,trivial⟩ trivial trivial trivial ⟨satO_sortB,trivial⟩
theorem ap2_ok (sc:Sc) (cm da:Int) (ds:List Int) (rs:List Rw) (ec ed ei eo eu ef:Int) (ev:List Int) (ea:List At) (en:List Int) (hn:namesOk sc) (hrs:rs.length ≤ 50000) (hds:ds.length ≤ 50000) (hv:verF ei rs ≤ 1000000) (hlv:(liveF ei rs).length ≤ 19) (hc0:0 ≤ cm) (hc1:cm ≤ 1000000) (hl:¬ (liveS (sc,cm,da,ds,rs,()) ei).length = 0):fnwp BP2 8 29 applyDSp ((sc,cm,da,ds,rs,()),((2:Int),ec,ed,ei,eo,eu,ef,ev,ea,en,())):=by
 rw [ap2_nf]; delta ap2_nf_t1 ap2_nf_t2 ap2_nf_t3 ap2_nf_e0 ap2_nf_e1 ap2q0 ap2q5 ap2q4 ap2q1 ap2q2 ap2q3 ap2q6 ap2q7 IR LP NX SD SP eI ln y0 y19 y3 y58 z0 z1 z2 z6 z9; dsimp only
 have hL:(liveS (sc,cm,da,ds,rs,()) ei).length ≤ 19:=by unfold liveS; rw [isortR_len]; exact hlv
 have hend:((liveS (sc,cm,da,ds,rs,()) ei).getD (((liveS (sc,cm,da,ds,rs,()) ei).length:Int) - 1).toNat dRw).1.2.2.2.2.2.1 = (endR (liveS (sc,cm,da,ds,rs,()) ei)):=by
  unfold endR
  rw [show (((liveS (sc,cm,da,ds,rs,()) ei).length:Int) - 1).toNat = (liveS (sc,cm,da,ds,rs,()) ei).length - 1 by omega]
 have hend:((liveS (sc,cm,da,ds,rs,()) ei).getD (((liveS (sc,cm,da,ds,rs,()) ei).length:Int) - 1).toNat (((0:Int),(0:Int),(0:Int),(0:Int),(0:Int),(0:Int),(0:Int),[],[],()),(0:Int),())).1.2.2.2.2.2.1 = (endR (liveS (sc,cm,da,ds,rs,()) ei)):=hend
 rw [hend]
 have hlp:(0:Int) ≤ 0 ∧ (0:Int) < ((liveS (sc,cm,da,ds,rs,()) ei).length:Int):=by omega
 have hlq:0 ≤ ((liveS (sc,cm,da,ds,rs,()) ei).length:Int) - 1 ∧ ((liveS (sc,cm,da,ds,rs,()) ei).length:Int) - 1 < ((liveS (sc,cm,da,ds,rs,()) ei).length:Int):=by omega
 have hli:isI64 (((liveS (sc,cm,da,ds,rs,()) ei).length:Int) - 1):=by unfold isI64; omega
 have hv0:=verF_nn ei rs
 have hi0:isI64 (cm + 1):=by unfold isI64; omega
 refine ⟨hi0,fun c1=>ap_pair (ap_time (.inl (ndt c1))),fun c1=>⟨fun c2=>ap_pair (ap_time (.inr (.inl (dt c2)))),fun c2=>⟨fun c3=>ap_pair (ap_time (.inr (.inr (.inl (dt c3))))),fun c3=>⟨fun c4=>ap_pair (ap_time (.inr (.inr (.inr (dt c4))))),fun c4=>?_⟩⟩⟩⟩
 have hT:¬ badT ((sc,cm,da,ds,rs,()):Bo) (((2:Int),ec,ed,ei,eo,eu,ef,ev,ea,en,()):Ev):=by
  rintro (g | g | g | g)
  ·exact g (ndf c1)
  ·exact df c2 g
  ·exact df c3 g
  ·exact df c4 g
 have hr8:∀ {C:Ctx},C.P = Tryz.prog → roomP C 3 (ds.length + [ed].length):=fun {C} hC=>roomB 8 (by rw [hC]; kernel_rfl) (by omega) (by rw [List.length_singleton]; omega)
 have hd6:ds.length ≤ 1000000:=by omega
 have hr6:rs.length ≤ 1000000:=by omega
 have hlz:decide (((liveS (sc,cm,da,ds,rs,()) ei).length:Int) = 0) = false:=decide_eq_false (by omega)
 refine ⟨by decide,by decide,hlv,hlz,⟨by decide,by decide⟩,hlp,hli,hlq,fun q=>ap_pair (ap_2a hT rfl hl (.inl (dt q))),fun q=>⟨fun q2=>ap_pair (ap_2a hT rfl hl (.inr (dt q2))),fun q2=>?_⟩⟩
 have hA:applyD ((sc,cm,da,ds,rs,()):Bo) (((2:Int),ec,ed,ei,eo,eu,ef,ev,ea,en,()):Ev) = makeD _ _ (befDy (max ef (fromR ((liveS (sc,cm,da,ds,rs,()) ei).getD 0 dRw)))) [(((((liveS (sc,cm,da,ds,rs,()) ei).getD 0 dRw).1.1,((liveS (sc,cm,da,ds,rs,()) ei).getD 0 dRw).1.2.1,((liveS (sc,cm,da,ds,rs,()) ei).getD 0 dRw).1.2.2.1,((liveS (sc,cm,da,ds,rs,()) ei).getD 0 dRw).1.2.2.2.1,max ef (fromR ((liveS (sc,cm,da,ds,rs,()) ei).getD 0 dRw)),(endR (liveS (sc,cm,da,ds,rs,()) ei)),ec,ev,ea,()):En),0,())]:=ap_2b hT rfl hl (not_or.2 ⟨df q,df q2⟩)
 refine ⟨hd6,hr8 rfl,hr6,fun x=>0 ≤ x.1 ∧ x.1 ≤ rs.length ∧ x.2.1 = verF ei (rs.take x.1.toNat) ∧ x.2.2 = (rs,ds ++ [ed],sc.1,sc.2.1,sc.2.2.1,ec,ed,max ef (fromR ((liveS (sc,cm,da,ds,rs,()) ei).getD 0 dRw)),ei,((liveS (sc,cm,da,ds,rs,()) ei).getD 0 dRw).1.1,((liveS (sc,cm,da,ds,rs,()) ei).getD 0 dRw).1.2.1,((liveS (sc,cm,da,ds,rs,()) ei).getD 0 dRw).1.2.2.1,((liveS (sc,cm,da,ds,rs,()) ei).getD 0 dRw).1.2.2.2.1,max ef (fromR ((liveS (sc,cm,da,ds,rs,()) ei).getD 0 dRw)),(endR (liveS (sc,cm,da,ds,rs,()) ei)),ec,ev,ea),fun x=>(rs.length - x.1).toNat,⟨by dsimp only; omega,by dsimp only; omega,rfl,rfl⟩,?_⟩
 rintro ⟨i,v,kk⟩ ⟨h0,h1,h2,h3⟩
 dsimp only at h0 h1 h2 h3
 subst h3
 subst h2
 dsimp only
 refine ⟨fun h=>?_,fun h=>?_⟩
 ·have h:=dt h
  have hi:isI64 (i + 1):=by unfold isI64; omega
  have hmu:((rs.length:Int) - (i + 1)).toNat < ((rs.length:Int) - i).toNat:=by omega
  have hs:=verF_snoc ei (rs.take i.toNat) (rs.getD i.toNat dRw)
  rw [← take_snoc (d:=dRw) h0 h] at hs
  have b0:0 ≤ i + 1:=by omega
  have b1:i + 1 ≤ (rs.length:Int):=by omega
  exact ⟨⟨h0,h⟩,fun c=>⟨hi,⟨b0,b1,(hs.trans (if_pos (dt c))).symm,rfl⟩,hmu⟩,fun c=>⟨hi,⟨b0,b1,(hs.trans (if_neg (df c))).symm,rfl⟩,hmu⟩⟩
 have h:=df h
 rw [List.take_of_length_le (by omega)]
 refine ⟨fun x=>L2 ei ec (befDy (max ef (fromR ((liveS (sc,cm,da,ds,rs,()) ei).getD 0 dRw)))) rs x.1 x.2.2.1 x.2.2.2.1 ∧ x.2.1 = verF ei rs ∧ x.2.2.2.2 = (ds ++ [ed],sc.1,sc.2.1,sc.2.2.1,ec,ed,max ef (fromR ((liveS (sc,cm,da,ds,rs,()) ei).getD 0 dRw)),ei,ei,((liveS (sc,cm,da,ds,rs,()) ei).getD 0 dRw).1.1,((liveS (sc,cm,da,ds,rs,()) ei).getD 0 dRw).1.2.1,((liveS (sc,cm,da,ds,rs,()) ei).getD 0 dRw).1.2.2.1,((liveS (sc,cm,da,ds,rs,()) ei).getD 0 dRw).1.2.2.2.1,max ef (fromR ((liveS (sc,cm,da,ds,rs,()) ei).getD 0 dRw)),(endR (liveS (sc,cm,da,ds,rs,()) ei)),ec,ev,ea),fun x=>(rs.length - x.1).toNat,⟨l2_zero _ _ _ _,rfl,rfl⟩,?_⟩
 rintro ⟨i,v,ad,rw2,kk⟩ ⟨hI,h2,h3⟩
 dsimp only at hI h2 h3
 subst h3
 subst h2
 dsimp only
 have h0:=hI.1
 have h1:=hI.2.1
 have hsm:=l2_small hI
 have hln:=l2_len hI
 refine ⟨fun h=>?_,fun h=>?_⟩
 ·have h:=dt h
  have hi:isI64 (i + 1):=by unfold isI64; omega
  have hmu:((rs.length:Int) - (i + 1)).toNat < ((rs.length:Int) - i).toNat:=by omega
  have hp:0 ≤ i ∧ i < (rw2.length:Int):=by omega
  have room:∀ r:Rw,roomP BP2 58 (ad.length + [r].length):=fun r=>roomB 112 (by kernel_rfl) (by omega) (by rw [List.length_singleton]; omega)
  exact ⟨⟨h0,h⟩,fun c=>⟨fun d=>⟨hi,⟨l2_skip0 hI h (fun g=>ndt d g.2),rfl,rfl⟩,hmu⟩,fun d=>⟨fun c1=>⟨fun c2=>⟨hi,⟨l2_skip1 hI h rfl (dt c1) (dt c2),rfl,rfl⟩,hmu⟩,fun c2=>⟨hp,fun c3=>⟨room _,hi,⟨l2_add1 hI h rfl (dt c) (ndf d) (fun g=>df c2 g.2) (dt c3),rfl,rfl⟩,hmu⟩,fun c3=>⟨hi,⟨l2_die1 hI h rfl (dt c) (ndf d) (fun g=>df c2 g.2) (df c3),rfl,rfl⟩,hmu⟩⟩⟩,fun c1=>⟨hp,fun c3=>⟨room _,hi,⟨l2_add1 hI h rfl (dt c) (ndf d) (fun g=>df c1 g.1) (dt c3),rfl,rfl⟩,hmu⟩,fun c3=>⟨hi,⟨l2_die1 hI h rfl (dt c) (ndf d) (fun g=>df c1 g.1) (df c3),rfl,rfl⟩,hmu⟩⟩⟩⟩,fun c=>⟨hi,⟨l2_skip0 hI h (fun g=>df c g.1),rfl,rfl⟩,hmu⟩⟩
 have h:=df h
 obtain ⟨e1,e2⟩:=l2_end hI h
 have hal:(isortR ad).length ≤ 19:=by rw [isortR_len]; omega
 have hAl:(isortR ad ++ [(((((liveS (sc,cm,da,ds,rs,()) ei).getD 0 dRw).1.1,((liveS (sc,cm,da,ds,rs,()) ei).getD 0 dRw).1.2.1,((liveS (sc,cm,da,ds,rs,()) ei).getD 0 dRw).1.2.2.1,((liveS (sc,cm,da,ds,rs,()) ei).getD 0 dRw).1.2.2.2.1,max ef (fromR ((liveS (sc,cm,da,ds,rs,()) ei).getD 0 dRw)),(endR (liveS (sc,cm,da,ds,rs,()) ei)),ec,ev,ea,()):En),0,())]).length ≤ 20:=by rw [List.length_append,List.length_singleton]; omega
 refine ⟨⟨by omega,rfl⟩,roomB 112 (by kernel_rfl) (by omega) (by rw [List.length_singleton]; omega),fun x=>L3 (verF ei rs) (isortR ad ++ [(((((liveS (sc,cm,da,ds,rs,()) ei).getD 0 dRw).1.1,((liveS (sc,cm,da,ds,rs,()) ei).getD 0 dRw).1.2.1,((liveS (sc,cm,da,ds,rs,()) ei).getD 0 dRw).1.2.2.1,((liveS (sc,cm,da,ds,rs,()) ei).getD 0 dRw).1.2.2.2.1,max ef (fromR ((liveS (sc,cm,da,ds,rs,()) ei).getD 0 dRw)),(endR (liveS (sc,cm,da,ds,rs,()) ei)),ec,ev,ea,()):En),0,())]) x.1 x.2.2.1 ∧ x.2.1 = verF ei rs ∧ x.2.2.2 = (rw2,ds ++ [ed],sc.1,sc.2.1,sc.2.2.1,ec,ed,max ef (fromR ((liveS (sc,cm,da,ds,rs,()) ei).getD 0 dRw)),ei,ei,((liveS (sc,cm,da,ds,rs,()) ei).getD 0 dRw).1.1,((liveS (sc,cm,da,ds,rs,()) ei).getD 0 dRw).1.2.1,((liveS (sc,cm,da,ds,rs,()) ei).getD 0 dRw).1.2.2.1,((liveS (sc,cm,da,ds,rs,()) ei).getD 0 dRw).1.2.2.2.1,max ef (fromR ((liveS (sc,cm,da,ds,rs,()) ei).getD 0 dRw)),(endR (liveS (sc,cm,da,ds,rs,()) ei)),ec,ev,ea),fun x=>((isortR ad ++ [(((((liveS (sc,cm,da,ds,rs,()) ei).getD 0 dRw).1.1,((liveS (sc,cm,da,ds,rs,()) ei).getD 0 dRw).1.2.1,((liveS (sc,cm,da,ds,rs,()) ei).getD 0 dRw).1.2.2.1,((liveS (sc,cm,da,ds,rs,()) ei).getD 0 dRw).1.2.2.2.1,max ef (fromR ((liveS (sc,cm,da,ds,rs,()) ei).getD 0 dRw)),(endR (liveS (sc,cm,da,ds,rs,()) ei)),ec,ev,ea,()):En),0,())]).length - x.1).toNat,⟨l3_zero _ _,rfl,rfl⟩,?_⟩
 rintro ⟨j,v,c,kk⟩ ⟨g1,h2,h3⟩
 dsimp only at g1 h2 h3
 subst h3
 subst h2
 dsimp only
 have j0:=g1.1
 have hcl:=l3_len g1
 refine ⟨fun h=>?_,fun h=>?_⟩
 ·have h:j < (((isortR ad ++ [(((((liveS (sc,cm,da,ds,rs,()) ei).getD 0 dRw).1.1,((liveS (sc,cm,da,ds,rs,()) ei).getD 0 dRw).1.2.1,((liveS (sc,cm,da,ds,rs,()) ei).getD 0 dRw).1.2.2.1,((liveS (sc,cm,da,ds,rs,()) ei).getD 0 dRw).1.2.2.2.1,max ef (fromR ((liveS (sc,cm,da,ds,rs,()) ei).getD 0 dRw)),(endR (liveS (sc,cm,da,ds,rs,()) ei)),ec,ev,ea,()):En),0,())]).length:Nat):Int):=dt h
  exact ⟨by unfold isI64; omega,by unfold isI64; omega,⟨j0,by omega⟩,by unfold isI64; omega,⟨l3_step g1 h,rfl,rfl⟩,by omega⟩
 have h:¬ j < (((isortR ad ++ [(((((liveS (sc,cm,da,ds,rs,()) ei).getD 0 dRw).1.1,((liveS (sc,cm,da,ds,rs,()) ei).getD 0 dRw).1.2.1,((liveS (sc,cm,da,ds,rs,()) ei).getD 0 dRw).1.2.2.1,((liveS (sc,cm,da,ds,rs,()) ei).getD 0 dRw).1.2.2.2.1,max ef (fromR ((liveS (sc,cm,da,ds,rs,()) ei).getD 0 dRw)),(endR (liveS (sc,cm,da,ds,rs,()) ei)),ec,ev,ea,()):En),0,())]).length:Nat):Int):=df h
 have hc:=l3_end g1 h
 rw [e1] at hc
 have hsum:isI64 ((rw2.length:Int) + (c.length:Int)):=by unfold isI64; omega
 have hroom:roomP BP2 58 (rw2.length + c.length):=roomB 112 (by kernel_rfl) (by omega) (by omega)
 have hM:=mk1 hA e2 hc
 have hcp:0 < c.length:=by rw [hcl,List.length_append,List.length_singleton]; omega
 have hlast:c.getD ((c.length:Int) - 1).toNat dRw = lastR c:=by
  unfold lastR
  rw [show ((c.length:Int) - 1).toNat = c.length - 1 by omega]
 have hlast:c.getD ((c.length:Int) - 1).toNat (((0:Int),(0:Int),(0:Int),(0:Int),(0:Int),(0:Int),(0:Int),[],[],()),(0:Int),()) = lastR c:=hlast
 rw [hlast]
 refine ⟨by unfold isI64; omega,by omega,hn,fun y=>ap_pair (hM.trans (fin_err rfl (ndt y))),fun y=>?_⟩
 have hno:¬ (true = true ∧ entS sc (lastR c).1 ≠ 0):=fun g=>g.2 (ndf y)
 exact ⟨hsum,fun z=>ap_pair (hM.trans (fin_lim hno (dt z))),fun z=>⟨hroom,ap_pair (hM.trans (fin_fine hno (df z)))⟩⟩
end Go.Proofs.YtcnpblceamgfcaaGreatDoor
namespace Go.Proofs.YtcnpblceamgfcaaGreatDoor
open Go.AM Go.PL
set_option linter.unusedVariables false
abbrev ap3_nf_t1:Type:=Int × Int × List ((Int × Int × Int × Int × Int × Int × Int × List Int × List (List Int × Int × Int × List Int × Unit) × Unit) × Int × Unit) × List
 ((Int × Int × Int × Int × Int × Int × Int × List Int × List (List Int × Int × Int × List Int × Unit) × Unit) × Int × Unit) × List Int × Int × Int × List (List Int × Int × Int ×
 Int × List (List Int) × Unit) × Int × Int × Int × Int × Int
abbrev ap3_nf_t2:Type:=Int × Int × List ((Int × Int × Int × Int × Int × Int × Int × List Int × List (List Int × Int × Int × List Int × Unit) × Unit) × Int × Unit) × List
 ((Int × Int × Int × Int × Int × Int × Int × List Int × List (List Int × Int × Int × List Int × Unit) × Unit) × Int × Unit) × List Int × Int × Int × List (List Int × Int × Int ×
 Int × List (List Int) × Unit) × Int × Int × Int × Int × Int → Prop
abbrev ap3_nf_t3:Type:=Int × Int × List ((Int × Int × Int × Int × Int × Int × Int × List Int × List (List Int × Int × Int × List Int × Unit) × Unit) × Int × Unit) × List
 ((Int × Int × Int × Int × Int × Int × Int × List Int × List (List Int × Int × Int × List Int × Unit) × Unit) × Int × Unit) × List Int × Int × Int × List (List Int × Int × Int ×
 Int × List (List Int) × Unit) × Int × Int × Int × Int × Int → Nat
abbrev ap3_nf_e0:List (List Int × Int × Int × List Int × Unit):=[]
abbrev ap3_nf_e1:List ((Int × Int × Int × Int × Int × Int × Int × List Int × List (List Int × Int × Int × List Int × Unit) × Unit) × Int × Unit):=[]
abbrev ap3q0:=((z0,z0,z0,z0,z0,z0,z0,eI,ap3_nf_e0,()),z0,())
abbrev ap3q4 (rs:List Rw) (x:ap3_nf_t1):=rs.getD x.1.toNat ap3q0
abbrev ap3q3 (rs:List Rw) (x:ap3_nf_t1) (ec:Int):=(((ap3q4 rs x).1.1,(ap3q4 rs x).1.2.1,(ap3q4 rs x).1.2.2.1,(ap3q4 rs x).1.2.2.2.1,(ap3q4 rs x).1.2.2.2.2.1,min
 (ap3q4 rs x).1.2.2.2.2.2.1 (max x.2.2.2.2.2.2.2.2.2.2.1 (ap3q4 rs x).1.2.2.2.2.1),ec,(ap3q4 rs x).1.2.2.2.2.2.2.2.1,(ap3q4 rs x).1.2.2.2.2.2.2.2.2.1,()),z0,())
abbrev ap3q1 (x:ap3_nf_t1) (rs:List Rw) (ec:Int) (I:ap3_nf_t2) (μ:ap3_nf_t3):=(IR x.1 x.2.2.2.1) ∧ SD ((ap3q4 rs x).1.2.2.2.2.1 < min (ap3q4 rs x).1.2.2.2.2.2.1 (max
 x.2.2.2.2.2.2.2.2.2.2.1 (ap3q4 rs x).1.2.2.2.2.1)) (roomP BP3 y58 (x.2.2.1.length + [(ap3q3 rs x ec)].length) ∧ isI64 (x.1 + z1) ∧ NX I μ x (x.1 + z1,x.2.1,x.2.2.1 ++ [(ap3q3
 rs x ec)],x.2.2.2.1.set x.1.toNat ((x.2.2.2.1.getD x.1.toNat ap3q0).1,ec,(x.2.2.2.1.getD x.1.toNat ap3q0).2.2),x.2.2.2.2)) (isI64 (x.1 + z1) ∧ NX I μ x (x.1 + z1,x.2.1,
 x.2.2.1,x.2.2.2.1.set x.1.toNat ((x.2.2.2.1.getD x.1.toNat ap3q0).1,ec,(x.2.2.2.1.getD x.1.toNat ap3q0).2.2),x.2.2.2.2))
abbrev ap3q2 (sc:Sc) (cm da:Int) (ds:List Int) (rs:List Rw) (ec ed ei eo eu ef:Int) (ev:List Int) (ea:List At) (en:List Int):=(((sc.1,sc.2.1,sc.2.2.1,()),
 cm,da,ds,rs,()),z9) = ((applyD (sc,cm,da,ds,rs,()) (z3,ec,ed,ei,eo,eu,ef,ev,ea,en,())).1,(applyD (sc,cm,da,ds,rs,()) (z3,ec,ed,ei,eo,eu,ef,ev,
 ea,en,())).2.1)
theorem ap3_nf (sc:Sc) (cm da:Int) (ds:List Int) (rs:List Rw) (ec ed ei eo eu ef:Int) (ev:List Int) (ea:List At) (en:List Int):fnwp BP3 8 29 applyDSp ((sc,cm,
 da,ds,rs,()),((3:Int),ec,ed,ei,eo,eu,ef,ev,ea,en,())) = (isI64 (cm + z1) ∧ SP (!decide (ec = cm + z1)) (ap3q2 sc cm da ds rs ec ed ei eo eu ef ev ea en) (SD
 ((1073741824:Int) < ec) (ap3q2 sc cm da ds rs ec ed ei eo eu ef ev ea en) (SD (ed < da) (ap3q2 sc cm da ds rs ec ed ei eo eu ef ev ea en) (SD ((1048576:Int) < ed) (ap3q2 sc
 cm da ds rs ec ed ei eo eu ef ev ea en) (decide (z3 < z1) = false ∧ decide (z6 ≤ z3) = false ∧ (liveF ei rs).length ≤ y19 ∧ decide ((ln (liveS (sc,cm,da,ds,rs,()) ei)) =
 z0) = false ∧ (z0 ≤ z3 ∧ z3 < z6) ∧ SD (ef < z0) (ap3q2 sc cm da ds rs ec ed ei eo eu ef ev ea en) (isI64 ((ln (liveS (sc,cm,da,ds,rs,()) ei)) - z1) ∧ (IR ((ln (liveS (sc,
 cm,da,ds,rs,()) ei)) - z1) (liveS (sc,cm,da,ds,rs,()) ei)) ∧ SD (((liveS (sc,cm,da,ds,rs,()) ei).getD ((ln (liveS (sc,cm,da,ds,rs,()) ei)) - z1).toNat
 ap3q0).1.2.2.2.2.2.1 ≤ ef) (ap3q2 sc cm da ds rs ec ed ei eo eu ef ev ea en) (ds.length ≤ (1000000:Nat) ∧ roomP BP3 y3 (ds.length + [ed].length) ∧ rs.length ≤ (1000000:Nat)
 ∧ LP (z0,z0,rs,ds ++ [ed],sc.1,sc.2.1,sc.2.2.1,ec,ed,ef,ei) fun I μ x=>SD (x.1 < (ln rs)) ((IR x.1 rs) ∧ SD ((rs.getD x.1.toNat ap3q0).1.1 = x.2.2.2.2.2.2.2.2.2.2)
 (isI64 (x.1 + z1) ∧ NX I μ x (x.1 + z1,max x.2.1 (rs.getD x.1.toNat ap3q0).1.2.1,x.2.2)) (isI64 (x.1 + z1) ∧ NX I μ x (x.1 + z1,x.2))) (LP (z0,x.2.1,ap3_nf_e1,x.2.2.1,
 x.2.2.2.1,x.2.2.2.2.1,x.2.2.2.2.2.1,x.2.2.2.2.2.2.1,x.2.2.2.2.2.2.2.1,x.2.2.2.2.2.2.2.2.1,x.2.2.2.2.2.2.2.2.2.1,x.2.2.2.2.2.2.2.2.2.2,ei) fun I μ x=>SD (x.1 < (ln rs))
 ((IR x.1 rs) ∧ SD ((ap3q4 rs x).1.1 = x.2.2.2.2.2.2.2.2.2.2.2.2) (SP (!decide ((ap3q4 rs x).2.1 = z0)) (isI64 (x.1 + z1) ∧ NX I μ x (x.1 + z1,x.2)) (SD ((ap3q4 rs
 x).1.2.2.2.2.1 = (ap3q4 rs x).1.2.2.2.2.1) (SD (min (ap3q4 rs x).1.2.2.2.2.2.1 (max x.2.2.2.2.2.2.2.2.2.2.1 (ap3q4 rs x).1.2.2.2.2.1) = (ap3q4 rs x).1.2.2.2.2.2.1) (isI64 (x.1 +
 z1) ∧ NX I μ x (x.1 + z1,x.2)) (ap3q1 x rs ec I μ)) (ap3q1 x rs ec I μ))) (isI64 (x.1 + z1) ∧ NX I μ x (x.1 + z1,x.2))) ((x.2.2.1.length ≤ y19 ∧ (110:Nat) = (110:Nat)) ∧
 LP (z0,x.2.1,isortR x.2.2.1,x.2.2.2) fun I μ x_1=>SD (x_1.1 < (ln (isortR x.2.2.1))) (isI64 (x_1.2.1 + z1) ∧ isI64 (x_1.2.1 + z1 + x_1.1) ∧ (IR x_1.1 x_1.2.2.1) ∧ isI64
 (x_1.1 + z1) ∧ NX I μ x_1 (x_1.1 + z1,x_1.2.1,x_1.2.2.1.set x_1.1.toNat (((x_1.2.2.1.getD x_1.1.toNat ap3q0).1.1,x_1.2.1 + z1 + x_1.1,(x_1.2.2.1.getD x_1.1.toNat
 ap3q0).1.2.2),(x_1.2.2.1.getD x_1.1.toNat ap3q0).2),x_1.2.2.2)) (isI64 ((ln x_1.2.2.2.1) + (ln x_1.2.2.1)) ∧ SD ((65536:Int) < (ln x_1.2.2.2.1) + (ln x_1.2.2.1)) ((((sc.1,
 sc.2.1,sc.2.2.1,()),cm,da,ds,rs,()),z2) = ((applyD (sc,cm,da,ds,rs,()) (z3,ec,ed,ei,eo,eu,ef,ev,ea,en,())).1,(applyD (sc,cm,da,ds,rs,()) (z3,ec,
 ed,ei,eo,eu,ef,ev,ea,en,())).2.1)) (roomP BP3 y58 (x_1.2.2.2.1.length + x_1.2.2.1.length) ∧ (((x_1.2.2.2.2.2.1,x_1.2.2.2.2.2.2.1,x_1.2.2.2.2.2.2.2.1,()),
 x_1.2.2.2.2.2.2.2.2.1,x_1.2.2.2.2.2.2.2.2.2.1,x_1.2.2.2.2.1,x_1.2.2.2.1 ++ x_1.2.2.1,()),z0) = ((applyD (sc,cm,da,ds,rs,()) (z3,ec,ed,ei,eo,eu,ef,ev,ea,en,
 ())).1,(applyD (sc,cm,da,ds,rs,()) (z3,ec,ed,ei,eo,eu,ef,ev,ea,en,())).2.1)))))))))))):=by kernel_rfl
end Go.Proofs.YtcnpblceamgfcaaGreatDoor
namespace Go.Proofs.YtcnpblceamgfcaaGreatDoor
open Go.AM Go.PL
set_option linter.unusedVariables false
attribute [local irreducible] fnwp fnwpG fnwpO
theorem BP3_sound:SpecSound BP3:=mkctxO_sound ⟨sat_live,sat_ent,trivial⟩ ⟨sat_cloneI,sat_cloneR,trivial⟩ trivial trivial trivial ⟨satO_sortB,trivial⟩
theorem ap3_ok (sc:Sc) (cm da:Int) (ds:List Int) (rs:List Rw) (ec ed ei eo eu ef:Int) (ev:List Int) (ea:List At) (en:List Int) (hn:namesOk sc) (hrs:rs.length ≤ 50000) (hds:ds.length ≤ 50000) (hv:verF ei rs ≤ 1000000) (hlv:(liveF ei rs).length ≤ 19) (hc0:0 ≤ cm) (hc1:cm ≤ 1000000) (hl:¬ (liveS (sc,cm,da,ds,rs,()) ei).length = 0):fnwp BP3 8 29 applyDSp ((sc,cm,da,ds,rs,()),((3:Int),ec,ed,ei,eo,eu,ef,ev,ea,en,())):=by
 rw [ap3_nf]; delta ap3_nf_t1 ap3_nf_t2 ap3_nf_t3 ap3_nf_e0 ap3_nf_e1 ap3q0 ap3q4 ap3q3 ap3q1 ap3q2 IR LP NX SD SP eI ln y19 y3 y58 z0 z1 z2 z3 z6 z9; dsimp only
 have hL:(liveS (sc,cm,da,ds,rs,()) ei).length ≤ 19:=by unfold liveS; rw [isortR_len]; exact hlv
 have hend:((liveS (sc,cm,da,ds,rs,()) ei).getD (((liveS (sc,cm,da,ds,rs,()) ei).length:Int) - 1).toNat dRw).1.2.2.2.2.2.1 = (endR (liveS (sc,cm,da,ds,rs,()) ei)):=by
  unfold endR
  rw [show (((liveS (sc,cm,da,ds,rs,()) ei).length:Int) - 1).toNat = (liveS (sc,cm,da,ds,rs,()) ei).length - 1 by omega]
 have hend:((liveS (sc,cm,da,ds,rs,()) ei).getD (((liveS (sc,cm,da,ds,rs,()) ei).length:Int) - 1).toNat (((0:Int),(0:Int),(0:Int),(0:Int),(0:Int),(0:Int),(0:Int),[],[],()),(0:Int),())).1.2.2.2.2.2.1 = (endR (liveS (sc,cm,da,ds,rs,()) ei)):=hend
 rw [hend]
 have hlp:(0:Int) ≤ 0 ∧ (0:Int) < ((liveS (sc,cm,da,ds,rs,()) ei).length:Int):=by omega
 have hlq:0 ≤ ((liveS (sc,cm,da,ds,rs,()) ei).length:Int) - 1 ∧ ((liveS (sc,cm,da,ds,rs,()) ei).length:Int) - 1 < ((liveS (sc,cm,da,ds,rs,()) ei).length:Int):=by omega
 have hli:isI64 (((liveS (sc,cm,da,ds,rs,()) ei).length:Int) - 1):=by unfold isI64; omega
 have hv0:=verF_nn ei rs
 have hi0:isI64 (cm + 1):=by unfold isI64; omega
 refine ⟨hi0,fun c1=>ap_pair (ap_time (.inl (ndt c1))),fun c1=>⟨fun c2=>ap_pair (ap_time (.inr (.inl (dt c2)))),fun c2=>⟨fun c3=>ap_pair (ap_time (.inr (.inr (.inl (dt c3))))),fun c3=>⟨fun c4=>ap_pair (ap_time (.inr (.inr (.inr (dt c4))))),fun c4=>?_⟩⟩⟩⟩
 have hT:¬ badT ((sc,cm,da,ds,rs,()):Bo) (((3:Int),ec,ed,ei,eo,eu,ef,ev,ea,en,()):Ev):=by
  rintro (g | g | g | g)
  ·exact g (ndf c1)
  ·exact df c2 g
  ·exact df c3 g
  ·exact df c4 g
 have hr8:∀ {C:Ctx},C.P = Tryz.prog → roomP C 3 (ds.length + [ed].length):=fun {C} hC=>roomB 8 (by rw [hC]; kernel_rfl) (by omega) (by rw [List.length_singleton]; omega)
 have hd6:ds.length ≤ 1000000:=by omega
 have hr6:rs.length ≤ 1000000:=by omega
 have hlz:decide (((liveS (sc,cm,da,ds,rs,()) ei).length:Int) = 0) = false:=decide_eq_false (by omega)
 refine ⟨by decide,by decide,hlv,hlz,⟨by decide,by decide⟩,fun q=>ap_pair (ap_3a hT rfl hl (.inl (dt q))),fun q=>⟨hli,hlq,fun q2=>ap_pair (ap_3a hT rfl hl (.inr (dt q2))),fun q2=>?_⟩⟩
 have hA:applyD ((sc,cm,da,ds,rs,()):Bo) (((3:Int),ec,ed,ei,eo,eu,ef,ev,ea,en,()):Ev) = makeD _ _ (befDy ef) []:=ap_3b hT rfl hl (not_or.2 ⟨df q,df q2⟩)
 refine ⟨hd6,hr8 rfl,hr6,fun x=>0 ≤ x.1 ∧ x.1 ≤ rs.length ∧ x.2.1 = verF ei (rs.take x.1.toNat) ∧ x.2.2 = (rs,ds ++ [ed],sc.1,sc.2.1,sc.2.2.1,ec,ed,ef,ei),fun x=>(rs.length - x.1).toNat,⟨by dsimp only; omega,by dsimp only; omega,rfl,rfl⟩,?_⟩
 rintro ⟨i,v,kk⟩ ⟨h0,h1,h2,h3⟩
 dsimp only at h0 h1 h2 h3
 subst h3
 subst h2
 dsimp only
 refine ⟨fun h=>?_,fun h=>?_⟩
 ·have h:=dt h
  have hi:isI64 (i + 1):=by unfold isI64; omega
  have hmu:((rs.length:Int) - (i + 1)).toNat < ((rs.length:Int) - i).toNat:=by omega
  have hs:=verF_snoc ei (rs.take i.toNat) (rs.getD i.toNat dRw)
  rw [← take_snoc (d:=dRw) h0 h] at hs
  have b0:0 ≤ i + 1:=by omega
  have b1:i + 1 ≤ (rs.length:Int):=by omega
  exact ⟨⟨h0,h⟩,fun c=>⟨hi,⟨b0,b1,(hs.trans (if_pos (dt c))).symm,rfl⟩,hmu⟩,fun c=>⟨hi,⟨b0,b1,(hs.trans (if_neg (df c))).symm,rfl⟩,hmu⟩⟩
 have h:=df h
 rw [List.take_of_length_le (by omega)]
 refine ⟨fun x=>L2 ei ec (befDy ef) rs x.1 x.2.2.1 x.2.2.2.1 ∧ x.2.1 = verF ei rs ∧ x.2.2.2.2 = (ds ++ [ed],sc.1,sc.2.1,sc.2.2.1,ec,ed,ef,ei,ei),fun x=>(rs.length - x.1).toNat,⟨l2_zero _ _ _ _,rfl,rfl⟩,?_⟩
 rintro ⟨i,v,ad,rw2,kk⟩ ⟨hI,h2,h3⟩
 dsimp only at hI h2 h3
 subst h3
 subst h2
 dsimp only
 have h0:=hI.1
 have h1:=hI.2.1
 have hsm:=l2_small hI
 have hln:=l2_len hI
 refine ⟨fun h=>?_,fun h=>?_⟩
 ·have h:=dt h
  have hi:isI64 (i + 1):=by unfold isI64; omega
  have hmu:((rs.length:Int) - (i + 1)).toNat < ((rs.length:Int) - i).toNat:=by omega
  have hp:0 ≤ i ∧ i < (rw2.length:Int):=by omega
  have room:∀ r:Rw,roomP BP3 58 (ad.length + [r].length):=fun r=>roomB 112 (by kernel_rfl) (by omega) (by rw [List.length_singleton]; omega)
  exact ⟨⟨h0,h⟩,fun c=>⟨fun d=>⟨hi,⟨l2_skip0 hI h (fun g=>ndt d g.2),rfl,rfl⟩,hmu⟩,fun d=>⟨fun c1=>⟨fun c2=>⟨hi,⟨l2_skip1 hI h rfl (dt c1) (dt c2),rfl,rfl⟩,hmu⟩,fun c2=>⟨hp,fun c3=>⟨room _,hi,⟨l2_add1 hI h rfl (dt c) (ndf d) (fun g=>df c2 g.2) (dt c3),rfl,rfl⟩,hmu⟩,fun c3=>⟨hi,⟨l2_die1 hI h rfl (dt c) (ndf d) (fun g=>df c2 g.2) (df c3),rfl,rfl⟩,hmu⟩⟩⟩,fun c1=>⟨hp,fun c3=>⟨room _,hi,⟨l2_add1 hI h rfl (dt c) (ndf d) (fun g=>df c1 g.1) (dt c3),rfl,rfl⟩,hmu⟩,fun c3=>⟨hi,⟨l2_die1 hI h rfl (dt c) (ndf d) (fun g=>df c1 g.1) (df c3),rfl,rfl⟩,hmu⟩⟩⟩⟩,fun c=>⟨hi,⟨l2_skip0 hI h (fun g=>df c g.1),rfl,rfl⟩,hmu⟩⟩
 have h:=df h
 obtain ⟨e1,e2⟩:=l2_end hI h
 have hal:(isortR ad).length ≤ 19:=by rw [isortR_len]; omega
 have hAl:(isortR ad).length ≤ 20:=by omega
 refine ⟨⟨by omega,rfl⟩,fun x=>L3 (verF ei rs) (isortR ad) x.1 x.2.2.1 ∧ x.2.1 = verF ei rs ∧ x.2.2.2 = (rw2,ds ++ [ed],sc.1,sc.2.1,sc.2.2.1,ec,ed,ef,ei,ei),fun x=>((isortR ad).length - x.1).toNat,⟨l3_zero _ _,rfl,rfl⟩,?_⟩
 rintro ⟨j,v,c,kk⟩ ⟨g1,h2,h3⟩
 dsimp only at g1 h2 h3
 subst h3
 subst h2
 dsimp only
 have j0:=g1.1
 have hcl:=l3_len g1
 refine ⟨fun h=>?_,fun h=>?_⟩
 ·have h:j < (((isortR ad).length:Nat):Int):=dt h
  exact ⟨by unfold isI64; omega,by unfold isI64; omega,⟨j0,by omega⟩,by unfold isI64; omega,⟨l3_step g1 h,rfl,rfl⟩,by omega⟩
 have h:¬ j < (((isortR ad).length:Nat):Int):=df h
 have hc:=l3_end g1 h
 rw [e1] at hc
 have hsum:isI64 ((rw2.length:Int) + (c.length:Int)):=by unfold isI64; omega
 have hroom:roomP BP3 58 (rw2.length + c.length):=roomB 112 (by kernel_rfl) (by omega) (by omega)
 have hM:=mk0 hA e2 hc
 exact ⟨hsum,fun z=>ap_pair (hM.trans (fin_lim (fun g=>Bool.false_ne_true g.1) (dt z))),fun z=>⟨hroom,ap_pair (hM.trans (fin_fine (fun g=>Bool.false_ne_true g.1) (df z)))⟩⟩
end Go.Proofs.YtcnpblceamgfcaaGreatDoor
namespace Go.Proofs.YtcnpblceamgfcaaGreatDoor
open Go.AM Go.PL
set_option linter.unusedVariables false
abbrev ap4_nf_t1:Type:=Int × Int × List ((Int × Int × Int × Int × Int × Int × Int × List Int × List (List Int × Int × Int × List Int × Unit) × Unit) × Int × Unit) × List
 ((Int × Int × Int × Int × Int × Int × Int × List Int × List (List Int × Int × Int × List Int × Unit) × Unit) × Int × Unit) × List Int × Int × Int × List (List Int × Int × Int ×
 Int × List (List Int) × Unit) × Int × Int × Int
abbrev ap4_nf_t2:Type:=Int × Int × List ((Int × Int × Int × Int × Int × Int × Int × List Int × List (List Int × Int × Int × List Int × Unit) × Unit) × Int × Unit) × List
 ((Int × Int × Int × Int × Int × Int × Int × List Int × List (List Int × Int × Int × List Int × Unit) × Unit) × Int × Unit) × List Int × Int × Int × List (List Int × Int × Int ×
 Int × List (List Int) × Unit) × Int × Int × Int → Prop
abbrev ap4_nf_t3:Type:=Int × Int × List ((Int × Int × Int × Int × Int × Int × Int × List Int × List (List Int × Int × Int × List Int × Unit) × Unit) × Int × Unit) × List
 ((Int × Int × Int × Int × Int × Int × Int × List Int × List (List Int × Int × Int × List Int × Unit) × Unit) × Int × Unit) × List Int × Int × Int × List (List Int × Int × Int ×
 Int × List (List Int) × Unit) × Int × Int × Int → Nat
abbrev ap4_nf_e0:List (List Int × Int × Int × List Int × Unit):=[]
abbrev ap4_nf_e1:List ((Int × Int × Int × Int × Int × Int × Int × List Int × List (List Int × Int × Int × List Int × Unit) × Unit) × Int × Unit):=[]
abbrev ap4q0:=((z0,z0,z0,z0,z0,z0,z0,eI,ap4_nf_e0,()),z0,())
abbrev ap4q5 (rs:List Rw) (x:ap4_nf_t1):=rs.getD x.1.toNat ap4q0
abbrev ap4q6 (ec ed ei eo eu ef:Int) (ev:List Int) (ea:List At) (en:List Int):=(z4,ec,ed,ei,eo,eu,ef,ev,ea,en,())
abbrev ap4q7 (rs:List Rw) (x:ap4_nf_t1) (eu ec:Int):=(((ap4q5 rs x).1.1,(ap4q5 rs x).1.2.1,(ap4q5 rs x).1.2.2.1,(ap4q5 rs x).1.2.2.2.1,max (ap4q5 rs x).1.2.2.2.2.1
 (min eu (ap4q5 rs x).1.2.2.2.2.2.1),(ap4q5 rs x).1.2.2.2.2.2.1,ec,(ap4q5 rs x).1.2.2.2.2.2.2.2.1,(ap4q5 rs x).1.2.2.2.2.2.2.2.2.1,()),z0,())
abbrev ap4q11 (x:ap4_nf_t1) (ec:Int):=((x.2.2.2.1.getD x.1.toNat ap4q0).1,ec,(x.2.2.2.1.getD x.1.toNat ap4q0).2.2)
abbrev ap4q8 (x:ap4_nf_t1) (ec ed ei eo eu ef:Int) (ev:List Int) (ea:List At) (en:List Int) (I:ap4_nf_t2) (μ:ap4_nf_t3):=isI64 (x.1 + z1) ∧ (ap4q6 ec ed ei eo eu
 ef ev ea en) = (ap4q6 ec ed ei eo eu ef ev ea en) ∧ (ap4q6 ec ed ei eo eu ef ev ea en) = (ap4q6 ec ed ei eo eu ef ev ea en) ∧ (ap4q6 ec ed ei eo eu ef ev ea en) = (ap4q6 ec ed
 ei eo eu ef ev ea en) ∧ NX I μ x (x.1 + z1,x.2.1,x.2.2.1,x.2.2.2.1.set x.1.toNat (ap4q11 x ec),x.2.2.2.2)
abbrev ap4q1 (x:ap4_nf_t1) (rs:List Rw) (eu ec ed ei eo ef:Int) (ev:List Int) (ea:List At) (en:List Int) (I:ap4_nf_t2) (μ:ap4_nf_t3):=(IR x.1 x.2.2.2.1) ∧ SD
 (max (ap4q5 rs x).1.2.2.2.2.1 (min eu (ap4q5 rs x).1.2.2.2.2.2.1) < (ap4q5 rs x).1.2.2.2.2.2.1) (roomP BP4 y58 (x.2.2.1.length + [(ap4q7 rs x eu ec)].length) ∧ isI64 (x.1 + z1)
 ∧ (ap4q6 ec ed ei eo eu ef ev ea en) = (ap4q6 ec ed ei eo eu ef ev ea en) ∧ (ap4q6 ec ed ei eo eu ef ev ea en) = (ap4q6 ec ed ei eo eu ef ev ea en) ∧ (ap4q6 ec ed ei eo eu ef ev
 ea en) = (ap4q6 ec ed ei eo eu ef ev ea en) ∧ NX I μ x (x.1 + z1,x.2.1,x.2.2.1 ++ [(ap4q7 rs x eu ec)],x.2.2.2.1.set x.1.toNat (ap4q11 x ec),x.2.2.2.2)) (ap4q8 x ec ed ei eo
 eu ef ev ea en I μ)
abbrev ap4q9 (rs:List Rw) (x:ap4_nf_t1) (eu ec:Int):=(((ap4q5 rs x).1.1,(ap4q5 rs x).1.2.1,(ap4q5 rs x).1.2.2.1,(ap4q5 rs x).1.2.2.2.1,min eu (ap4q5 rs
 x).1.2.2.2.2.2.1,(ap4q5 rs x).1.2.2.2.2.2.1,ec,(ap4q5 rs x).1.2.2.2.2.2.2.2.1,(ap4q5 rs x).1.2.2.2.2.2.2.2.2.1,()),z0,())
abbrev ap4q2 (x:ap4_nf_t1) (eu:Int) (rs:List Rw) (ec ed ei eo ef:Int) (ev:List Int) (ea:List At) (en:List Int) (I:ap4_nf_t2) (μ:ap4_nf_t3):=(IR x.1 x.2.2.2.1)
 ∧ SD (min eu (ap4q5 rs x).1.2.2.2.2.2.1 < (ap4q5 rs x).1.2.2.2.2.2.1) (roomP BP4 y58 (x.2.2.1.length + [(ap4q9 rs x eu ec)].length) ∧ isI64 (x.1 + z1) ∧ (ap4q6 ec ed ei eo eu ef
 ev ea en) = (ap4q6 ec ed ei eo eu ef ev ea en) ∧ (ap4q6 ec ed ei eo eu ef ev ea en) = (ap4q6 ec ed ei eo eu ef ev ea en) ∧ (ap4q6 ec ed ei eo eu ef ev ea en) = (ap4q6 ec ed ei
 eo eu ef ev ea en) ∧ NX I μ x (x.1 + z1,x.2.1,x.2.2.1 ++ [(ap4q9 rs x eu ec)],x.2.2.2.1.set x.1.toNat (ap4q11 x ec),x.2.2.2.2)) (ap4q8 x ec ed ei eo eu ef ev ea en I μ)
abbrev ap4q3 (sc:Sc) (cm da:Int) (ds:List Int) (rs:List Rw) (ec ed ei eo eu ef:Int) (ev:List Int) (ea:List At) (en:List Int):=((applyD (sc,cm,da,ds,rs,())
 (ap4q6 ec ed ei eo eu ef ev ea en)).1,(applyD (sc,cm,da,ds,rs,()) (ap4q6 ec ed ei eo eu ef ev ea en)).2.1)
abbrev ap4q4 (x:ap4_nf_t1) (ec ed ei eo eu ef:Int) (ev:List Int) (ea:List At) (en:List Int) (I:ap4_nf_t2) (μ:ap4_nf_t3):=isI64 (x.1 + z1) ∧ (ap4q6 ec ed ei eo eu
 ef ev ea en) = (ap4q6 ec ed ei eo eu ef ev ea en) ∧ (ap4q6 ec ed ei eo eu ef ev ea en) = (ap4q6 ec ed ei eo eu ef ev ea en) ∧ (ap4q6 ec ed ei eo eu ef ev ea en) = (ap4q6 ec ed
 ei eo eu ef ev ea en) ∧ NX I μ x (x.1 + z1,x.2)
abbrev ap4q10 (sc:Sc) (cm da:Int) (ds:List Int) (rs:List Rw):=((sc.1,sc.2.1,sc.2.2.1,()),cm,da,ds,rs,())
theorem ap4_nf (sc:Sc) (cm da:Int) (ds:List Int) (rs:List Rw) (ec ed ei eo eu ef:Int) (ev:List Int) (ea:List At) (en:List Int):fnwp BP4 8 29 applyDSp ((sc,cm,
 da,ds,rs,()),((4:Int),ec,ed,ei,eo,eu,ef,ev,ea,en,())) = (isI64 (cm + z1) ∧ SP (!decide (ec = cm + z1)) (((ap4q10 sc cm da ds rs),z9) = (ap4q3 sc cm da ds rs ec
 ed ei eo eu ef ev ea en)) (SD ((1073741824:Int) < ec) (((ap4q10 sc cm da ds rs),z9) = (ap4q3 sc cm da ds rs ec ed ei eo eu ef ev ea en)) (SD (ed < da) (((ap4q10 sc cm da ds
 rs),z9) = (ap4q3 sc cm da ds rs ec ed ei eo eu ef ev ea en)) (SD ((1048576:Int) < ed) (((ap4q10 sc cm da ds rs),z9) = (ap4q3 sc cm da ds rs ec ed ei eo eu ef ev ea en))
 (decide (z4 < z1) = false ∧ decide (z6 ≤ z4) = false ∧ (liveF ei rs).length ≤ y19 ∧ decide ((ln (liveS (sc,cm,da,ds,rs,()) ei)) = z0) = false ∧ (z0 ≤ z4 ∧ z4 < z6) ∧ (IR z0
 (liveS (sc,cm,da,ds,rs,()) ei)) ∧ SD (((liveS (sc,cm,da,ds,rs,()) ei).getD y0 ap4q0).1.2.2.2.2.1 ≤ ed) (((ap4q10 sc cm da ds rs),z4) = (ap4q3 sc cm da ds rs ec ed ei
 eo eu ef ev ea en)) (SD (((liveS (sc,cm,da,ds,rs,()) ei).getD y0 ap4q0).1.2.2.2.2.1 = eu) (((ap4q10 sc cm da ds rs),z4) = (ap4q3 sc cm da ds rs ec ed ei eo eu ef ev ea
 en)) (SD (eu < ed) (((ap4q10 sc cm da ds rs),z9) = (ap4q3 sc cm da ds rs ec ed ei eo eu ef ev ea en)) (isI64 ((ln (liveS (sc,cm,da,ds,rs,()) ei)) - z1) ∧ (IR ((ln (liveS
 (sc,cm,da,ds,rs,()) ei)) - z1) (liveS (sc,cm,da,ds,rs,()) ei)) ∧ SD (((liveS (sc,cm,da,ds,rs,()) ei).getD ((ln (liveS (sc,cm,da,ds,rs,()) ei)) - z1).toNat
 ap4q0).1.2.2.2.2.2.1 ≤ eu) (((ap4q10 sc cm da ds rs),z9) = (ap4q3 sc cm da ds rs ec ed ei eo eu ef ev ea en)) (ds.length ≤ (1000000:Nat) ∧ roomP BP4 y3 (ds.length +
 [ed].length) ∧ rs.length ≤ (1000000:Nat) ∧ LP (z0,z0,rs,ds ++ [ed],sc.1,sc.2.1,sc.2.2.1,ec,ed,((liveS (sc,cm,da,ds,rs,()) ei).getD y0 ap4q0).1.2.2.2.2.1) fun I μ
 x=>SD (x.1 < (ln rs)) ((IR x.1 rs) ∧ SD ((rs.getD x.1.toNat ap4q0).1.1 = ei) (isI64 (x.1 + z1) ∧ (ap4q6 ec ed ei eo eu ef ev ea en) = (ap4q6 ec ed ei eo eu ef ev ea en) ∧
 (ap4q6 ec ed ei eo eu ef ev ea en) = (ap4q6 ec ed ei eo eu ef ev ea en) ∧ (ap4q6 ec ed ei eo eu ef ev ea en) = (ap4q6 ec ed ei eo eu ef ev ea en) ∧ NX I μ x (x.1 + z1,max x.2.1
 (rs.getD x.1.toNat ap4q0).1.2.1,x.2.2)) (isI64 (x.1 + z1) ∧ (ap4q6 ec ed ei eo eu ef ev ea en) = (ap4q6 ec ed ei eo eu ef ev ea en) ∧ (ap4q6 ec ed ei eo eu ef ev ea en) =
 (ap4q6 ec ed ei eo eu ef ev ea en) ∧ (ap4q6 ec ed ei eo eu ef ev ea en) = (ap4q6 ec ed ei eo eu ef ev ea en) ∧ NX I μ x (x.1 + z1,x.2))) (LP (z0,x.2.1,ap4_nf_e1,x.2.2) fun I
 μ x=>SD (x.1 < (ln rs)) ((IR x.1 rs) ∧ SD ((ap4q5 rs x).1.1 = ei) (SP (!decide ((ap4q5 rs x).2.1 = z0)) (ap4q4 x ec ed ei eo eu ef ev ea en I μ) (SD ((ap4q5 rs x).1.2.2.2.2.1
 = x.2.2.2.2.2.2.2.2.2.2) (SD (min eu (ap4q5 rs x).1.2.2.2.2.2.1 = (ap4q5 rs x).1.2.2.2.2.1) (SD ((ap4q5 rs x).1.2.2.2.2.2.1 = (ap4q5 rs x).1.2.2.2.2.2.1) (ap4q4 x ec ed ei eo eu
 ef ev ea en I μ) (ap4q2 x eu rs ec ed ei eo ef ev ea en I μ)) (ap4q2 x eu rs ec ed ei eo ef ev ea en I μ)) (SD (max (ap4q5 rs x).1.2.2.2.2.1 (min eu (ap4q5 rs x).1.2.2.2.2.2.1)
 = (ap4q5 rs x).1.2.2.2.2.1) (SD ((ap4q5 rs x).1.2.2.2.2.2.1 = (ap4q5 rs x).1.2.2.2.2.2.1) (ap4q4 x ec ed ei eo eu ef ev ea en I μ) (ap4q1 x rs eu ec ed ei eo ef ev ea en I μ))
 (ap4q1 x rs eu ec ed ei eo ef ev ea en I μ)))) (ap4q4 x ec ed ei eo eu ef ev ea en I μ)) ((x.2.2.1.length ≤ y19 ∧ (110:Nat) = (110:Nat)) ∧ LP (z0,x.2.1,isortR x.2.2.1,
 x.2.2.2) fun I μ x_1=>SD (x_1.1 < (ln (isortR x.2.2.1))) (isI64 (x_1.2.1 + z1) ∧ isI64 (x_1.2.1 + z1 + x_1.1) ∧ (IR x_1.1 x_1.2.2.1) ∧ isI64 (x_1.1 + z1) ∧ (ap4q6 ec ed ei eo
 eu ef ev ea en) = (ap4q6 ec ed ei eo eu ef ev ea en) ∧ (ap4q6 ec ed ei eo eu ef ev ea en) = (ap4q6 ec ed ei eo eu ef ev ea en) ∧ (ap4q6 ec ed ei eo eu ef ev ea en) = (ap4q6 ec
 ed ei eo eu ef ev ea en) ∧ NX I μ x_1 (x_1.1 + z1,x_1.2.1,x_1.2.2.1.set x_1.1.toNat (((x_1.2.2.1.getD x_1.1.toNat ap4q0).1.1,x_1.2.1 + z1 + x_1.1,(x_1.2.2.1.getD x_1.1.toNat
 ap4q0).1.2.2),(x_1.2.2.1.getD x_1.1.toNat ap4q0).2),x_1.2.2.2)) (isI64 ((ln x_1.2.2.2.1) + (ln x_1.2.2.1)) ∧ SD ((65536:Int) < (ln x_1.2.2.2.1) + (ln x_1.2.2.1)) (((ap4q10
 sc cm da ds rs),z2) = (ap4q3 sc cm da ds rs ec ed ei eo eu ef ev ea en)) (roomP BP4 y58 (x_1.2.2.2.1.length + x_1.2.2.1.length) ∧ (((x_1.2.2.2.2.2.1,x_1.2.2.2.2.2.2.1,
 x_1.2.2.2.2.2.2.2.1,()),x_1.2.2.2.2.2.2.2.2.1,x_1.2.2.2.2.2.2.2.2.2.1,x_1.2.2.2.2.1,x_1.2.2.2.1 ++ x_1.2.2.1,()),z0) = (ap4q3 sc cm da ds rs ec ed ei eo eu ef ev ea
 en)))))))))))))):=by kernel_rfl
end Go.Proofs.YtcnpblceamgfcaaGreatDoor
namespace Go.Proofs.YtcnpblceamgfcaaGreatDoor
open Go.AM Go.PL
set_option linter.unusedVariables false
attribute [local irreducible] fnwp fnwpG fnwpO
theorem BP4_sound:SpecSound BP4:=mkctxO_sound ⟨sat_live,sat_ent,trivial⟩ ⟨sat_cloneI,sat_cloneR,trivial⟩ trivial trivial trivial ⟨satO_sortB,trivial⟩
theorem ap4_ok (sc:Sc) (cm da:Int) (ds:List Int) (rs:List Rw) (ec ed ei eo eu ef:Int) (ev:List Int) (ea:List At) (en:List Int) (hn:namesOk sc) (hrs:rs.length ≤ 50000) (hds:ds.length ≤ 50000) (hv:verF ei rs ≤ 1000000) (hlv:(liveF ei rs).length ≤ 19) (hc0:0 ≤ cm) (hc1:cm ≤ 1000000) (hl:¬ (liveS (sc,cm,da,ds,rs,()) ei).length = 0):fnwp BP4 8 29 applyDSp ((sc,cm,da,ds,rs,()),((4:Int),ec,ed,ei,eo,eu,ef,ev,ea,en,())):=by
 rw [ap4_nf]; delta ap4_nf_t1 ap4_nf_t2 ap4_nf_t3 ap4_nf_e0 ap4_nf_e1 ap4q0 ap4q5 ap4q6 ap4q7 ap4q11 ap4q8 ap4q1 ap4q9 ap4q2 ap4q3 ap4q4 ap4q10 IR LP NX SD SP eI ln y0 y19 y3 y58 z0 z1 z2 z4 z6 z9; dsimp only
 have hL:(liveS (sc,cm,da,ds,rs,()) ei).length ≤ 19:=by unfold liveS; rw [isortR_len]; exact hlv
 have hend:((liveS (sc,cm,da,ds,rs,()) ei).getD (((liveS (sc,cm,da,ds,rs,()) ei).length:Int) - 1).toNat dRw).1.2.2.2.2.2.1 = (endR (liveS (sc,cm,da,ds,rs,()) ei)):=by
  unfold endR
  rw [show (((liveS (sc,cm,da,ds,rs,()) ei).length:Int) - 1).toNat = (liveS (sc,cm,da,ds,rs,()) ei).length - 1 by omega]
 have hend:((liveS (sc,cm,da,ds,rs,()) ei).getD (((liveS (sc,cm,da,ds,rs,()) ei).length:Int) - 1).toNat (((0:Int),(0:Int),(0:Int),(0:Int),(0:Int),(0:Int),(0:Int),[],[],()),(0:Int),())).1.2.2.2.2.2.1 = (endR (liveS (sc,cm,da,ds,rs,()) ei)):=hend
 rw [hend]
 have hlp:(0:Int) ≤ 0 ∧ (0:Int) < ((liveS (sc,cm,da,ds,rs,()) ei).length:Int):=by omega
 have hlq:0 ≤ ((liveS (sc,cm,da,ds,rs,()) ei).length:Int) - 1 ∧ ((liveS (sc,cm,da,ds,rs,()) ei).length:Int) - 1 < ((liveS (sc,cm,da,ds,rs,()) ei).length:Int):=by omega
 have hli:isI64 (((liveS (sc,cm,da,ds,rs,()) ei).length:Int) - 1):=by unfold isI64; omega
 have hv0:=verF_nn ei rs
 have hi0:isI64 (cm + 1):=by unfold isI64; omega
 refine ⟨hi0,fun c1=>ap_pair (ap_time (.inl (ndt c1))),fun c1=>⟨fun c2=>ap_pair (ap_time (.inr (.inl (dt c2)))),fun c2=>⟨fun c3=>ap_pair (ap_time (.inr (.inr (.inl (dt c3))))),fun c3=>⟨fun c4=>ap_pair (ap_time (.inr (.inr (.inr (dt c4))))),fun c4=>?_⟩⟩⟩⟩
 have hT:¬ badT ((sc,cm,da,ds,rs,()):Bo) (((4:Int),ec,ed,ei,eo,eu,ef,ev,ea,en,()):Ev):=by
  rintro (g | g | g | g)
  ·exact g (ndf c1)
  ·exact df c2 g
  ·exact df c3 g
  ·exact df c4 g
 have hr8:∀ {C:Ctx},C.P = Tryz.prog → roomP C 3 (ds.length + [ed].length):=fun {C} hC=>roomB 8 (by rw [hC]; kernel_rfl) (by omega) (by rw [List.length_singleton]; omega)
 have hd6:ds.length ≤ 1000000:=by omega
 have hr6:rs.length ≤ 1000000:=by omega
 have hlz:decide (((liveS (sc,cm,da,ds,rs,()) ei).length:Int) = 0) = false:=decide_eq_false (by omega)
 refine ⟨by decide,by decide,hlv,hlz,⟨by decide,by decide⟩,hlp,fun q=>ap_pair (ap_4a hT rfl hl (.inl (dt q))),fun q=>⟨fun q2=>ap_pair (ap_4a hT rfl hl (.inr (dt q2))),fun q2=>⟨fun q3=>ap_pair (ap_4b hT rfl hl (not_or.2 ⟨df q,df q2⟩) (.inl (dt q3))),fun q3=>⟨hli,hlq,fun q4=>ap_pair (ap_4b hT rfl hl (not_or.2 ⟨df q,df q2⟩) (.inr (dt q4))),fun q4=>?_⟩⟩⟩⟩
 have hA:applyD ((sc,cm,da,ds,rs,()):Bo) (((4:Int),ec,ed,ei,eo,eu,ef,ev,ea,en,()):Ev) = makeD _ _ (embDy eu (fromR ((liveS (sc,cm,da,ds,rs,()) ei).getD 0 dRw))) []:=ap_4c hT rfl hl (not_or.2 ⟨df q,df q2⟩) (not_or.2 ⟨df q3,df q4⟩)
 refine ⟨hd6,hr8 rfl,hr6,fun x=>0 ≤ x.1 ∧ x.1 ≤ rs.length ∧ x.2.1 = verF ei (rs.take x.1.toNat) ∧ x.2.2 = (rs,ds ++ [ed],sc.1,sc.2.1,sc.2.2.1,ec,ed,(fromR ((liveS (sc,cm,da,ds,rs,()) ei).getD 0 dRw))),fun x=>(rs.length - x.1).toNat,⟨by dsimp only; omega,by dsimp only; omega,rfl,rfl⟩,?_⟩
 rintro ⟨i,v,kk⟩ ⟨h0,h1,h2,h3⟩
 dsimp only at h0 h1 h2 h3
 subst h3
 subst h2
 dsimp only
 refine ⟨fun h=>?_,fun h=>?_⟩
 ·have h:=dt h
  have hi:isI64 (i + 1):=by unfold isI64; omega
  have hmu:((rs.length:Int) - (i + 1)).toNat < ((rs.length:Int) - i).toNat:=by omega
  have hs:=verF_snoc ei (rs.take i.toNat) (rs.getD i.toNat dRw)
  rw [← take_snoc (d:=dRw) h0 h] at hs
  have b0:0 ≤ i + 1:=by omega
  have b1:i + 1 ≤ (rs.length:Int):=by omega
  exact ⟨⟨h0,h⟩,fun c=>⟨hi,rfl,rfl,rfl,⟨b0,b1,(hs.trans (if_pos (dt c))).symm,rfl⟩,hmu⟩,fun c=>⟨hi,rfl,rfl,rfl,⟨b0,b1,(hs.trans (if_neg (df c))).symm,rfl⟩,hmu⟩⟩
 have h:=df h
 rw [List.take_of_length_le (by omega)]
 refine ⟨fun x=>L2 ei ec (embDy eu (fromR ((liveS (sc,cm,da,ds,rs,()) ei).getD 0 dRw))) rs x.1 x.2.2.1 x.2.2.2.1 ∧ x.2.1 = verF ei rs ∧ x.2.2.2.2 = (ds ++ [ed],sc.1,sc.2.1,sc.2.2.1,ec,ed,(fromR ((liveS (sc,cm,da,ds,rs,()) ei).getD 0 dRw))),fun x=>(rs.length - x.1).toNat,⟨l2_zero _ _ _ _,rfl,rfl⟩,?_⟩
 rintro ⟨i,v,ad,rw2,kk⟩ ⟨hI,h2,h3⟩
 dsimp only at hI h2 h3
 subst h3
 subst h2
 dsimp only
 have h0:=hI.1
 have h1:=hI.2.1
 have hsm:=l2_small hI
 have hln:=l2_len hI
 refine ⟨fun h=>?_,fun h=>?_⟩
 ·have h:=dt h
  have hi:isI64 (i + 1):=by unfold isI64; omega
  have hmu:((rs.length:Int) - (i + 1)).toNat < ((rs.length:Int) - i).toNat:=by omega
  have hp:0 ≤ i ∧ i < (rw2.length:Int):=by omega
  have room:∀ r:Rw,roomP BP4 58 (ad.length + [r].length):=fun r=>roomB 112 (by kernel_rfl) (by omega) (by rw [List.length_singleton]; omega)
  exact ⟨⟨h0,h⟩,fun c=>⟨fun d=>⟨hi,rfl,rfl,rfl,⟨l2_skip0 hI h (fun g=>ndt d g.2),rfl,rfl⟩,hmu⟩,fun d=>⟨fun co=>⟨fun c1=>⟨fun c2=>⟨hi,rfl,rfl,rfl,⟨l2_skip1 hI h (if_pos (dt co)) (dt c1) (dt c2),rfl,rfl⟩,hmu⟩,fun c2=>⟨hp,fun c3=>⟨room _,hi,rfl,rfl,rfl,⟨l2_add1 hI h (if_pos (dt co)) (dt c) (ndf d) (fun g=>df c2 g.2) (dt c3),rfl,rfl⟩,hmu⟩,fun c3=>⟨hi,rfl,rfl,rfl,⟨l2_die1 hI h (if_pos (dt co)) (dt c) (ndf d) (fun g=>df c2 g.2) (df c3),rfl,rfl⟩,hmu⟩⟩⟩,fun c1=>⟨hp,fun c3=>⟨room _,hi,rfl,rfl,rfl,⟨l2_add1 hI h (if_pos (dt co)) (dt c) (ndf d) (fun g=>df c1 g.1) (dt c3),rfl,rfl⟩,hmu⟩,fun c3=>⟨hi,rfl,rfl,rfl,⟨l2_die1 hI h (if_pos (dt co)) (dt c) (ndf d) (fun g=>df c1 g.1) (df c3),rfl,rfl⟩,hmu⟩⟩⟩,fun co=>⟨fun c1=>⟨fun c2=>⟨hi,rfl,rfl,rfl,⟨l2_skip1 hI h (if_neg (df co)) (dt c1) (dt c2),rfl,rfl⟩,hmu⟩,fun c2=>⟨hp,fun c3=>⟨room _,hi,rfl,rfl,rfl,⟨l2_add1 hI h (if_neg (df co)) (dt c) (ndf d) (fun g=>df c2 g.2) (dt c3),rfl,rfl⟩,hmu⟩,fun c3=>⟨hi,rfl,rfl,rfl,⟨l2_die1 hI h (if_neg (df co)) (dt c) (ndf d) (fun g=>df c2 g.2) (df c3),rfl,rfl⟩,hmu⟩⟩⟩,fun c1=>⟨hp,fun c3=>⟨room _,hi,rfl,rfl,rfl,⟨l2_add1 hI h (if_neg (df co)) (dt c) (ndf d) (fun g=>df c1 g.1) (dt c3),rfl,rfl⟩,hmu⟩,fun c3=>⟨hi,rfl,rfl,rfl,⟨l2_die1 hI h (if_neg (df co)) (dt c) (ndf d) (fun g=>df c1 g.1) (df c3),rfl,rfl⟩,hmu⟩⟩⟩⟩⟩,fun c=>⟨hi,rfl,rfl,rfl,⟨l2_skip0 hI h (fun g=>df c g.1),rfl,rfl⟩,hmu⟩⟩
 have h:=df h
 obtain ⟨e1,e2⟩:=l2_end hI h
 have hal:(isortR ad).length ≤ 19:=by rw [isortR_len]; omega
 have hAl:(isortR ad).length ≤ 20:=by omega
 refine ⟨⟨by omega,rfl⟩,fun x=>L3 (verF ei rs) (isortR ad) x.1 x.2.2.1 ∧ x.2.1 = verF ei rs ∧ x.2.2.2 = (rw2,ds ++ [ed],sc.1,sc.2.1,sc.2.2.1,ec,ed,(fromR ((liveS (sc,cm,da,ds,rs,()) ei).getD 0 dRw))),fun x=>((isortR ad).length - x.1).toNat,⟨l3_zero _ _,rfl,rfl⟩,?_⟩
 rintro ⟨j,v,c,kk⟩ ⟨g1,h2,h3⟩
 dsimp only at g1 h2 h3
 subst h3
 subst h2
 dsimp only
 have j0:=g1.1
 have hcl:=l3_len g1
 refine ⟨fun h=>?_,fun h=>?_⟩
 ·have h:j < (((isortR ad).length:Nat):Int):=dt h
  exact ⟨by unfold isI64; omega,by unfold isI64; omega,⟨j0,by omega⟩,by unfold isI64; omega,rfl,rfl,rfl,⟨l3_step g1 h,rfl,rfl⟩,by omega⟩
 have h:¬ j < (((isortR ad).length:Nat):Int):=df h
 have hc:=l3_end g1 h
 rw [e1] at hc
 have hsum:isI64 ((rw2.length:Int) + (c.length:Int)):=by unfold isI64; omega
 have hroom:roomP BP4 58 (rw2.length + c.length):=roomB 112 (by kernel_rfl) (by omega) (by omega)
 have hM:=mk0 hA e2 hc
 exact ⟨hsum,fun z=>ap_pair (hM.trans (fin_lim (fun g=>Bool.false_ne_true g.1) (dt z))),fun z=>⟨hroom,ap_pair (hM.trans (fin_fine (fun g=>Bool.false_ne_true g.1) (df z)))⟩⟩
end Go.Proofs.YtcnpblceamgfcaaGreatDoor
namespace Go.Proofs.YtcnpblceamgfcaaGreatDoor
open Go.AM Go.PL
set_option linter.unusedVariables false
abbrev ap5_nf_e0:List (List Int × Int × Int × List Int × Unit):=[]
abbrev ap5_nf_e1:List ((Int × Int × Int × Int × Int × Int × Int × List Int × List (List Int × Int × Int × List Int × Unit) × Unit) × Int × Unit):=[]
abbrev ap5q1 (sc:Sc) (cm da:Int) (ds:List Int) (rs:List Rw) (ec ed ei eo eu ef:Int) (ev:List Int) (ea:List At) (en:List Int):=((applyD (sc,cm,da,ds,rs,())
 (z5,ec,ed,ei,eo,eu,ef,ev,ea,en,())).1,(applyD (sc,cm,da,ds,rs,()) (z5,ec,ed,ei,eo,eu,ef,ev,ea,en,())).2.1)
abbrev ap5q2:=((z0,z0,z0,z0,z0,z0,z0,eI,ap5_nf_e0,()),z0,())
abbrev ap5q3 (sc:Sc):=(sc.1,sc.2.1,sc.2.2.1,())
abbrev ap5q0 (ds:List Int) (ed:Int) (rs:List Rw) (sc:Sc) (ec ei cm da eo eu ef:Int) (ev:List Int) (ea:List At) (en:List Int):=(z0 ≤ z5 ∧ z5 < z6) ∧ ds.length ≤
 (1000000:Nat) ∧ roomP BP5 y3 (ds.length + [ed].length) ∧ rs.length ≤ (1000000:Nat) ∧ LP (z0,z0,rs,ds ++ [ed],sc.1,sc.2.1,sc.2.2.1,ec,ed) fun I μ x=>SD (x.1 < (ln
 rs)) ((IR x.1 rs) ∧ SD ((rs.getD x.1.toNat ap5q2).1.1 = ei) (isI64 (x.1 + z1) ∧ NX I μ x (x.1 + z1,max x.2.1 (rs.getD x.1.toNat ap5q2).1.2.1,x.2.2)) (isI64 (x.1 + z1) ∧ NX I μ
 x (x.1 + z1,x.2))) (LP (z0,x.2.1,ap5_nf_e1,x.2.2) fun I μ x=>SD (x.1 < (ln rs)) ((IR x.1 rs) ∧ SD ((rs.getD x.1.toNat ap5q2).1.1 = ei) (SP (!decide ((rs.getD x.1.toNat
 ap5q2).2.1 = z0)) (isI64 (x.1 + z1) ∧ NX I μ x (x.1 + z1,x.2)) (isI64 (x.1 + z1) ∧ NX I μ x (x.1 + z1,x.2))) (isI64 (x.1 + z1) ∧ NX I μ x (x.1 + z1,x.2))) ((x.2.2.1.length ≤
 y19 ∧ (110:Nat) = (110:Nat)) ∧ LP (z0,x.2.1,isortR x.2.2.1,x.2.2.2) fun I μ x_1=>SD (x_1.1 < (ln (isortR x.2.2.1))) (isI64 (x_1.2.1 + z1) ∧ isI64 (x_1.2.1 + z1 + x_1.1)
 ∧ (IR x_1.1 x_1.2.2.1) ∧ isI64 (x_1.1 + z1) ∧ NX I μ x_1 (x_1.1 + z1,x_1.2.1,x_1.2.2.1.set x_1.1.toNat (((x_1.2.2.1.getD x_1.1.toNat ap5q2).1.1,x_1.2.1 + z1 + x_1.1,
 (x_1.2.2.1.getD x_1.1.toNat ap5q2).1.2.2),(x_1.2.2.1.getD x_1.1.toNat ap5q2).2),x_1.2.2.2)) (isI64 ((ln x_1.2.2.2.1) + (ln x_1.2.2.1)) ∧ SD ((65536:Int) < (ln x_1.2.2.2.1) +
 (ln x_1.2.2.1)) ((((ap5q3 sc),cm,da,ds,rs,()),z2) = (ap5q1 sc cm da ds rs ec ed ei eo eu ef ev ea en)) (roomP BP5 y58 (x_1.2.2.2.1.length + x_1.2.2.1.length) ∧
 (((x_1.2.2.2.2.2.1,x_1.2.2.2.2.2.2.1,x_1.2.2.2.2.2.2.2.1,()),x_1.2.2.2.2.2.2.2.2.1,x_1.2.2.2.2.2.2.2.2.2,x_1.2.2.2.2.1,x_1.2.2.2.1 ++ x_1.2.2.1,()),z0) = (ap5q1 sc cm
 da ds rs ec ed ei eo eu ef ev ea en)))))
theorem ap5_nf (sc:Sc) (cm da:Int) (ds:List Int) (rs:List Rw) (ec ed ei eo eu ef:Int) (ev:List Int) (ea:List At) (en:List Int):fnwp BP5 8 29 applyDSp ((sc,cm,
 da,ds,rs,()),((5:Int),ec,ed,ei,eo,eu,ef,ev,ea,en,())) = (isI64 (cm + z1) ∧ SP (!decide (ec = cm + z1)) ((((ap5q3 sc),cm,da,ds,rs,()),z9) = (ap5q1 sc cm da
 ds rs ec ed ei eo eu ef ev ea en)) (SD ((1073741824:Int) < ec) ((((ap5q3 sc),cm,da,ds,rs,()),z9) = (ap5q1 sc cm da ds rs ec ed ei eo eu ef ev ea en)) (SD (ed < da)
 ((((ap5q3 sc),cm,da,ds,rs,()),z9) = (ap5q1 sc cm da ds rs ec ed ei eo eu ef ev ea en)) (SD ((1048576:Int) < ed) ((((ap5q3 sc),cm,da,ds,rs,()),z9) = (ap5q1 sc cm da
 ds rs ec ed ei eo eu ef ev ea en)) (decide (z5 < z1) = false ∧ decide (z6 ≤ z5) = false ∧ (liveF ei rs).length ≤ y19 ∧ SD ((ln (liveS (sc,cm,da,ds,rs,()) ei)) = z0) (SP
 (!decide (z5 = z1)) (SP (!decide (z5 = z5)) ((((ap5q3 sc),cm,da,ds,rs,()),z5) = (ap5q1 sc cm da ds rs ec ed ei eo eu ef ev ea en)) (ap5q0 ds ed rs sc ec ei cm da eo eu ef
 ev ea en)) (ap5q0 ds ed rs sc ec ei cm da eo eu ef ev ea en)) (ap5q0 ds ed rs sc ec ei cm da eo eu ef ev ea en)))))):=by kernel_rfl
end Go.Proofs.YtcnpblceamgfcaaGreatDoor
namespace Go.Proofs.YtcnpblceamgfcaaGreatDoor
open Go.AM Go.PL
set_option linter.unusedVariables false
attribute [local irreducible] fnwp fnwpG fnwpO
theorem BP5_sound:SpecSound BP5:=mkctxO_sound ⟨sat_live,sat_ent,trivial⟩ ⟨sat_cloneI,sat_cloneR,trivial⟩ trivial trivial trivial ⟨satO_sortB,trivial⟩
theorem ap5_ok (sc:Sc) (cm da:Int) (ds:List Int) (rs:List Rw) (ec ed ei eo eu ef:Int) (ev:List Int) (ea:List At) (en:List Int) (hn:namesOk sc) (hrs:rs.length ≤ 50000) (hds:ds.length ≤ 50000) (hv:verF ei rs ≤ 1000000) (hlv:(liveF ei rs).length ≤ 19) (hc0:0 ≤ cm) (hc1:cm ≤ 1000000):fnwp BP5 8 29 applyDSp ((sc,cm,da,ds,rs,()),((5:Int),ec,ed,ei,eo,eu,ef,ev,ea,en,())):=by
 rw [ap5_nf]; delta ap5_nf_e0 ap5_nf_e1 ap5q1 ap5q2 ap5q3 ap5q0 IR LP NX SD SP eI ln y19 y3 y58 z0 z1 z2 z5 z6 z9; dsimp only
 have hL:(liveS (sc,cm,da,ds,rs,()) ei).length ≤ 19:=by unfold liveS; rw [isortR_len]; exact hlv
 have hv0:=verF_nn ei rs
 have hi0:isI64 (cm + 1):=by unfold isI64; omega
 refine ⟨hi0,fun c1=>ap_pair (ap_time (.inl (ndt c1))),fun c1=>⟨fun c2=>ap_pair (ap_time (.inr (.inl (dt c2)))),fun c2=>⟨fun c3=>ap_pair (ap_time (.inr (.inr (.inl (dt c3))))),fun c3=>⟨fun c4=>ap_pair (ap_time (.inr (.inr (.inr (dt c4))))),fun c4=>?_⟩⟩⟩⟩
 have hT:¬ badT ((sc,cm,da,ds,rs,()):Bo) (((5:Int),ec,ed,ei,eo,eu,ef,ev,ea,en,()):Ev):=by
  rintro (g | g | g | g)
  ·exact g (ndf c1)
  ·exact df c2 g
  ·exact df c3 g
  ·exact df c4 g
 have hr8:∀ {C:Ctx},C.P = Tryz.prog → roomP C 3 (ds.length + [ed].length):=fun {C} hC=>roomB 8 (by rw [hC]; kernel_rfl) (by omega) (by rw [List.length_singleton]; omega)
 have hd6:ds.length ≤ 1000000:=by omega
 have hr6:rs.length ≤ 1000000:=by omega
 refine ⟨by decide,by decide,hlv,three1 (fun _ q=>absurd q (by decide)) ?_⟩
 have hA:applyD ((sc,cm,da,ds,rs,()):Bo) (((5:Int),ec,ed,ei,eo,eu,ef,ev,ea,en,()):Ev) = makeD _ _ idDy []:=ap_5 hT rfl
 refine ⟨⟨by decide,by decide⟩,?_⟩
 refine ⟨hd6,hr8 rfl,hr6,fun x=>0 ≤ x.1 ∧ x.1 ≤ rs.length ∧ x.2.1 = verF ei (rs.take x.1.toNat) ∧ x.2.2 = (rs,ds ++ [ed],sc.1,sc.2.1,sc.2.2.1,ec,ed),fun x=>(rs.length - x.1).toNat,⟨by dsimp only; omega,by dsimp only; omega,rfl,rfl⟩,?_⟩
 rintro ⟨i,v,kk⟩ ⟨h0,h1,h2,h3⟩
 dsimp only at h0 h1 h2 h3
 subst h3
 subst h2
 dsimp only
 refine ⟨fun h=>?_,fun h=>?_⟩
 ·have h:=dt h
  have hi:isI64 (i + 1):=by unfold isI64; omega
  have hmu:((rs.length:Int) - (i + 1)).toNat < ((rs.length:Int) - i).toNat:=by omega
  have hs:=verF_snoc ei (rs.take i.toNat) (rs.getD i.toNat dRw)
  rw [← take_snoc (d:=dRw) h0 h] at hs
  have b0:0 ≤ i + 1:=by omega
  have b1:i + 1 ≤ (rs.length:Int):=by omega
  exact ⟨⟨h0,h⟩,fun c=>⟨hi,⟨b0,b1,(hs.trans (if_pos (dt c))).symm,rfl⟩,hmu⟩,fun c=>⟨hi,⟨b0,b1,(hs.trans (if_neg (df c))).symm,rfl⟩,hmu⟩⟩
 have h:=df h
 rw [List.take_of_length_le (by omega)]
 refine ⟨fun x=>L2 ei ec idDy rs x.1 x.2.2.1 x.2.2.2.1 ∧ x.2.1 = verF ei rs ∧ x.2.2.2.2 = (ds ++ [ed],sc.1,sc.2.1,sc.2.2.1,ec,ed),fun x=>(rs.length - x.1).toNat,⟨l2_zero _ _ _ _,rfl,rfl⟩,?_⟩
 rintro ⟨i,v,ad,rw2,kk⟩ ⟨hI,h2,h3⟩
 dsimp only at hI h2 h3
 subst h3
 subst h2
 dsimp only
 have h0:=hI.1
 have h1:=hI.2.1
 have hsm:=l2_small hI
 have hln:=l2_len hI
 refine ⟨fun h=>?_,fun h=>?_⟩
 ·have h:=dt h
  have hi:isI64 (i + 1):=by unfold isI64; omega
  have hmu:((rs.length:Int) - (i + 1)).toNat < ((rs.length:Int) - i).toNat:=by omega
  exact ⟨⟨h0,h⟩,fun c=>⟨fun d=>⟨hi,⟨l2_skip0 hI h (fun g=>ndt d g.2),rfl,rfl⟩,hmu⟩,fun d=>⟨hi,⟨l2_skip1 hI h rfl rfl rfl,rfl,rfl⟩,hmu⟩⟩,fun c=>⟨hi,⟨l2_skip0 hI h (fun g=>df c g.1),rfl,rfl⟩,hmu⟩⟩
 have h:=df h
 obtain ⟨e1,e2⟩:=l2_end hI h
 have hal:(isortR ad).length ≤ 19:=by rw [isortR_len]; omega
 have hAl:(isortR ad).length ≤ 20:=by omega
 refine ⟨⟨by omega,rfl⟩,fun x=>L3 (verF ei rs) (isortR ad) x.1 x.2.2.1 ∧ x.2.1 = verF ei rs ∧ x.2.2.2 = (rw2,ds ++ [ed],sc.1,sc.2.1,sc.2.2.1,ec,ed),fun x=>((isortR ad).length - x.1).toNat,⟨l3_zero _ _,rfl,rfl⟩,?_⟩
 rintro ⟨j,v,c,kk⟩ ⟨g1,h2,h3⟩
 dsimp only at g1 h2 h3
 subst h3
 subst h2
 dsimp only
 have j0:=g1.1
 have hcl:=l3_len g1
 refine ⟨fun h=>?_,fun h=>?_⟩
 ·have h:j < (((isortR ad).length:Nat):Int):=dt h
  exact ⟨by unfold isI64; omega,by unfold isI64; omega,⟨j0,by omega⟩,by unfold isI64; omega,⟨l3_step g1 h,rfl,rfl⟩,by omega⟩
 have h:¬ j < (((isortR ad).length:Nat):Int):=df h
 have hc:=l3_end g1 h
 rw [e1] at hc
 have hsum:isI64 ((rw2.length:Int) + (c.length:Int)):=by unfold isI64; omega
 have hroom:roomP BP5 58 (rw2.length + c.length):=roomB 112 (by kernel_rfl) (by omega) (by omega)
 have hM:=mk0 hA e2 hc
 exact ⟨hsum,fun z=>ap_pair (hM.trans (fin_lim (fun g=>Bool.false_ne_true g.1) (dt z))),fun z=>⟨hroom,ap_pair (hM.trans (fin_fine (fun g=>Bool.false_ne_true g.1) (df z)))⟩⟩
end Go.Proofs.YtcnpblceamgfcaaGreatDoor
namespace Go.Proofs.YtcnpblceamgfcaaGreatDoor
open Go.AM Go.PL
set_option linter.unusedVariables false
abbrev ap02q0 (sc:Sc) (cm da:Int) (ds:List Int) (rs:List Rw) (ec ed ei eo eu ef:Int) (ev:List Int) (ea:List At) (en:List Int):=(((sc.1,sc.2.1,sc.2.2.1,()),
 cm,da,ds,rs,()),z9) = ((applyD (sc,cm,da,ds,rs,()) (z2,ec,ed,ei,eo,eu,ef,ev,ea,en,())).1,(applyD (sc,cm,da,ds,rs,()) (z2,ec,ed,ei,eo,eu,ef,ev,
 ea,en,())).2.1)
theorem ap02_nf (sc:Sc) (cm da:Int) (ds:List Int) (rs:List Rw) (ec ed ei eo eu ef:Int) (ev:List Int) (ea:List At) (en:List Int):fnwp BP0 8 29 applyDSp ((sc,cm,
 da,ds,rs,()),((2:Int),ec,ed,ei,eo,eu,ef,ev,ea,en,())) = (isI64 (cm + z1) ∧ SP (!decide (ec = cm + z1)) (ap02q0 sc cm da ds rs ec ed ei eo eu ef ev ea en) (SD
 ((1073741824:Int) < ec) (ap02q0 sc cm da ds rs ec ed ei eo eu ef ev ea en) (SD (ed < da) (ap02q0 sc cm da ds rs ec ed ei eo eu ef ev ea en) (SD ((1048576:Int) < ed) (ap02q0
 sc cm da ds rs ec ed ei eo eu ef ev ea en) (decide (z2 < z1) = false ∧ decide (z6 ≤ z2) = false ∧ (liveF ei rs).length ≤ y19 ∧ decide ((ln (liveS (sc,cm,da,ds,rs,()) ei)) =
 z0) = true ∧ (!decide (z2 = z1)) = true ∧ (!decide (z2 = z5)) = true ∧ (((sc.1,sc.2.1,sc.2.2.1,()),cm,da,ds,rs,()),z5) = ((applyD (sc,cm,da,ds,rs,()) (z2,ec,ed,
 ei,eo,eu,ef,ev,ea,en,())).1,(applyD (sc,cm,da,ds,rs,()) (z2,ec,ed,ei,eo,eu,ef,ev,ea,en,())).2.1)))))):=by kernel_rfl
abbrev ap03q0 (sc:Sc) (cm da:Int) (ds:List Int) (rs:List Rw) (ec ed ei eo eu ef:Int) (ev:List Int) (ea:List At) (en:List Int):=(((sc.1,sc.2.1,sc.2.2.1,()),
 cm,da,ds,rs,()),z9) = ((applyD (sc,cm,da,ds,rs,()) (z3,ec,ed,ei,eo,eu,ef,ev,ea,en,())).1,(applyD (sc,cm,da,ds,rs,()) (z3,ec,ed,ei,eo,eu,ef,ev,
 ea,en,())).2.1)
theorem ap03_nf (sc:Sc) (cm da:Int) (ds:List Int) (rs:List Rw) (ec ed ei eo eu ef:Int) (ev:List Int) (ea:List At) (en:List Int):fnwp BP0 8 29 applyDSp ((sc,cm,
 da,ds,rs,()),((3:Int),ec,ed,ei,eo,eu,ef,ev,ea,en,())) = (isI64 (cm + z1) ∧ SP (!decide (ec = cm + z1)) (ap03q0 sc cm da ds rs ec ed ei eo eu ef ev ea en) (SD
 ((1073741824:Int) < ec) (ap03q0 sc cm da ds rs ec ed ei eo eu ef ev ea en) (SD (ed < da) (ap03q0 sc cm da ds rs ec ed ei eo eu ef ev ea en) (SD ((1048576:Int) < ed) (ap03q0
 sc cm da ds rs ec ed ei eo eu ef ev ea en) (decide (z3 < z1) = false ∧ decide (z6 ≤ z3) = false ∧ (liveF ei rs).length ≤ y19 ∧ decide ((ln (liveS (sc,cm,da,ds,rs,()) ei)) =
 z0) = true ∧ (!decide (z3 = z1)) = true ∧ (!decide (z3 = z5)) = true ∧ (((sc.1,sc.2.1,sc.2.2.1,()),cm,da,ds,rs,()),z5) = ((applyD (sc,cm,da,ds,rs,()) (z3,ec,ed,
 ei,eo,eu,ef,ev,ea,en,())).1,(applyD (sc,cm,da,ds,rs,()) (z3,ec,ed,ei,eo,eu,ef,ev,ea,en,())).2.1)))))):=by kernel_rfl
abbrev ap04q0 (sc:Sc) (cm da:Int) (ds:List Int) (rs:List Rw) (ec ed ei eo eu ef:Int) (ev:List Int) (ea:List At) (en:List Int):=(((sc.1,sc.2.1,sc.2.2.1,()),
 cm,da,ds,rs,()),z9) = ((applyD (sc,cm,da,ds,rs,()) (z4,ec,ed,ei,eo,eu,ef,ev,ea,en,())).1,(applyD (sc,cm,da,ds,rs,()) (z4,ec,ed,ei,eo,eu,ef,ev,
 ea,en,())).2.1)
theorem ap04_nf (sc:Sc) (cm da:Int) (ds:List Int) (rs:List Rw) (ec ed ei eo eu ef:Int) (ev:List Int) (ea:List At) (en:List Int):fnwp BP0 8 29 applyDSp ((sc,cm,
 da,ds,rs,()),((4:Int),ec,ed,ei,eo,eu,ef,ev,ea,en,())) = (isI64 (cm + z1) ∧ SP (!decide (ec = cm + z1)) (ap04q0 sc cm da ds rs ec ed ei eo eu ef ev ea en) (SD
 ((1073741824:Int) < ec) (ap04q0 sc cm da ds rs ec ed ei eo eu ef ev ea en) (SD (ed < da) (ap04q0 sc cm da ds rs ec ed ei eo eu ef ev ea en) (SD ((1048576:Int) < ed) (ap04q0
 sc cm da ds rs ec ed ei eo eu ef ev ea en) (decide (z4 < z1) = false ∧ decide (z6 ≤ z4) = false ∧ (liveF ei rs).length ≤ y19 ∧ decide ((ln (liveS (sc,cm,da,ds,rs,()) ei)) =
 z0) = true ∧ (!decide (z4 = z1)) = true ∧ (!decide (z4 = z5)) = true ∧ (((sc.1,sc.2.1,sc.2.2.1,()),cm,da,ds,rs,()),z5) = ((applyD (sc,cm,da,ds,rs,()) (z4,ec,ed,
 ei,eo,eu,ef,ev,ea,en,())).1,(applyD (sc,cm,da,ds,rs,()) (z4,ec,ed,ei,eo,eu,ef,ev,ea,en,())).2.1)))))):=by kernel_rfl
abbrev ap6q0 (sc:Sc) (cm da:Int) (ds:List Int) (rs:List Rw) (ek ec ed ei eo eu ef:Int) (ev:List Int) (ea:List At) (en:List Int):=((applyD (sc,cm,da,ds,rs,
 ()) (ek,ec,ed,ei,eo,eu,ef,ev,ea,en,())).1,(applyD (sc,cm,da,ds,rs,()) (ek,ec,ed,ei,eo,eu,ef,ev,ea,en,())).2.1)
abbrev ap6q1 (sc:Sc):=(sc.1,sc.2.1,sc.2.2.1,())
theorem ap6_nf (sc:Sc) (cm da:Int) (ds:List Int) (rs:List Rw) (ek ec ed ei eo eu ef:Int) (ev:List Int) (ea:List At) (en:List Int):fnwp BP6 8 29 applyDSp ((sc,
 cm,da,ds,rs,()),(ek,ec,ed,ei,eo,eu,ef,ev,ea,en,())) = (isI64 (cm + z1) ∧ SP (!decide (ec = cm + z1)) ((((ap6q1 sc),cm,da,ds,rs,()),z9) = (ap6q0 sc cm da ds
 rs ek ec ed ei eo eu ef ev ea en)) (SD ((1073741824:Int) < ec) ((((ap6q1 sc),cm,da,ds,rs,()),z9) = (ap6q0 sc cm da ds rs ek ec ed ei eo eu ef ev ea en)) (SD (ed < da)
 ((((ap6q1 sc),cm,da,ds,rs,()),z9) = (ap6q0 sc cm da ds rs ek ec ed ei eo eu ef ev ea en)) (SD ((1048576:Int) < ed) ((((ap6q1 sc),cm,da,ds,rs,()),z9) = (ap6q0 sc cm
 da ds rs ek ec ed ei eo eu ef ev ea en)) (SD (ek < z1) ((((ap6q1 sc),cm,da,ds,rs,()),z1) = (ap6q0 sc cm da ds rs ek ec ed ei eo eu ef ev ea en)) (decide (z6 ≤ ek) = true ∧
 (((ap6q1 sc),cm,da,ds,rs,()),z1) = (ap6q0 sc cm da ds rs ek ec ed ei eo eu ef ev ea en))))))):=by kernel_rfl
end Go.Proofs.YtcnpblceamgfcaaGreatDoor
namespace Go.Proofs.YtcnpblceamgfcaaGreatDoor
open Go.AM Go.PL
set_option linter.unusedVariables false
attribute [local irreducible] fnwp fnwpG fnwpO
theorem BP0_sound:SpecSound BP0:=mkctxO_sound ⟨sat_live,sat_ent,trivial⟩ ⟨sat_cloneI,sat_cloneR,trivial⟩ trivial trivial trivial ⟨satO_sortB,trivial⟩
theorem BP6_sound:SpecSound BP6:=mkctxO_sound ⟨sat_live,sat_ent,trivial⟩ ⟨sat_cloneI,sat_cloneR,trivial⟩ trivial trivial trivial ⟨satO_sortB,trivial⟩
theorem ap0_tm {cm da ec ed:Int} {b:Bo} {e:Ev} (hb1:b.2.1 = cm) (hb2:b.2.2.1 = da) (he1:e.2.1 = ec) (he2:e.2.2.1 = ed) (c1:(!decide (ec = cm + 1)) = false) (c2:decide (1073741824 < ec) = false) (c3:decide (ed < da) = false) (c4:decide (1048576 < ed) = false):¬ badT b e:=by
 subst hb1 hb2 he1 he2
 rintro (g | g | g | g)
 ·exact g (ndf c1)
 ·exact df c2 g
 ·exact df c3 g
 ·exact df c4 g
theorem ap02_ok (sc:Sc) (cm da:Int) (ds:List Int) (rs:List Rw) (ec ed ei eo eu ef:Int) (ev:List Int) (ea:List At) (en:List Int) (hlv:(liveF ei rs).length ≤ 19) (hc0:0 ≤ cm) (hc1:cm ≤ 1000000) (hl:(liveS (sc,cm,da,ds,rs,()) ei).length = 0):fnwp BP0 8 29 applyDSp ((sc,cm,da,ds,rs,()),((2:Int),ec,ed,ei,eo,eu,ef,ev,ea,en,())):=by
 rw [ap02_nf]; delta ap02q0 SD SP ln y19 z0 z1 z2 z5 z6 z9
 have hi0:isI64 (cm + 1):=by unfold isI64; omega
 exact ⟨hi0,fun c1=>ap_pair (ap_time (.inl (ndt c1))),fun c1=>⟨fun c2=>ap_pair (ap_time (.inr (.inl (dt c2)))),fun c2=>⟨fun c3=>ap_pair (ap_time (.inr (.inr (.inl (dt c3))))),fun c3=>⟨fun c4=>ap_pair (ap_time (.inr (.inr (.inr (dt c4))))),fun c4 =>
  ⟨by decide,by decide,hlv,decide_eq_true (by omega),by decide,by decide,ap_pair (ap_none (ap0_tm rfl rfl rfl rfl c1 c2 c3 c4) (by dsimp only; omega) hl)⟩⟩⟩⟩⟩
theorem ap03_ok (sc:Sc) (cm da:Int) (ds:List Int) (rs:List Rw) (ec ed ei eo eu ef:Int) (ev:List Int) (ea:List At) (en:List Int) (hlv:(liveF ei rs).length ≤ 19) (hc0:0 ≤ cm) (hc1:cm ≤ 1000000) (hl:(liveS (sc,cm,da,ds,rs,()) ei).length = 0):fnwp BP0 8 29 applyDSp ((sc,cm,da,ds,rs,()),((3:Int),ec,ed,ei,eo,eu,ef,ev,ea,en,())):=by
 rw [ap03_nf]; delta ap03q0 SD SP ln y19 z0 z1 z3 z5 z6 z9
 have hi0:isI64 (cm + 1):=by unfold isI64; omega
 exact ⟨hi0,fun c1=>ap_pair (ap_time (.inl (ndt c1))),fun c1=>⟨fun c2=>ap_pair (ap_time (.inr (.inl (dt c2)))),fun c2=>⟨fun c3=>ap_pair (ap_time (.inr (.inr (.inl (dt c3))))),fun c3=>⟨fun c4=>ap_pair (ap_time (.inr (.inr (.inr (dt c4))))),fun c4 =>
  ⟨by decide,by decide,hlv,decide_eq_true (by omega),by decide,by decide,ap_pair (ap_none (ap0_tm rfl rfl rfl rfl c1 c2 c3 c4) (by dsimp only; omega) hl)⟩⟩⟩⟩⟩
theorem ap04_ok (sc:Sc) (cm da:Int) (ds:List Int) (rs:List Rw) (ec ed ei eo eu ef:Int) (ev:List Int) (ea:List At) (en:List Int) (hlv:(liveF ei rs).length ≤ 19) (hc0:0 ≤ cm) (hc1:cm ≤ 1000000) (hl:(liveS (sc,cm,da,ds,rs,()) ei).length = 0):fnwp BP0 8 29 applyDSp ((sc,cm,da,ds,rs,()),((4:Int),ec,ed,ei,eo,eu,ef,ev,ea,en,())):=by
 rw [ap04_nf]; delta ap04q0 SD SP ln y19 z0 z1 z4 z5 z6 z9
 have hi0:isI64 (cm + 1):=by unfold isI64; omega
 exact ⟨hi0,fun c1=>ap_pair (ap_time (.inl (ndt c1))),fun c1=>⟨fun c2=>ap_pair (ap_time (.inr (.inl (dt c2)))),fun c2=>⟨fun c3=>ap_pair (ap_time (.inr (.inr (.inl (dt c3))))),fun c3=>⟨fun c4=>ap_pair (ap_time (.inr (.inr (.inr (dt c4))))),fun c4 =>
  ⟨by decide,by decide,hlv,decide_eq_true (by omega),by decide,by decide,ap_pair (ap_none (ap0_tm rfl rfl rfl rfl c1 c2 c3 c4) (by dsimp only; omega) hl)⟩⟩⟩⟩⟩
theorem ap6_ok (sc:Sc) (cm da:Int) (ds:List Int) (rs:List Rw) (ek ec ed ei eo eu ef:Int) (ev:List Int) (ea:List At) (en:List Int) (hc0:0 ≤ cm) (hc1:cm ≤ 1000000) (hk:ek < 1 ∨ 6 ≤ ek):fnwp BP6 8 29 applyDSp ((sc,cm,da,ds,rs,()),(ek,ec,ed,ei,eo,eu,ef,ev,ea,en,())):=by
 rw [ap6_nf]; delta ap6q0 ap6q1 SD SP z1 z6 z9
 have hi0:isI64 (cm + 1):=by unfold isI64; omega
 exact ⟨hi0,fun c1=>ap_pair (ap_time (.inl (ndt c1))),fun c1=>⟨fun c2=>ap_pair (ap_time (.inr (.inl (dt c2)))),fun c2=>⟨fun c3=>ap_pair (ap_time (.inr (.inr (.inl (dt c3))))),fun c3=>⟨fun c4=>ap_pair (ap_time (.inr (.inr (.inr (dt c4))))),fun c4 =>
  ⟨fun k=>ap_pair (ap_arg (ap0_tm rfl rfl rfl rfl c1 c2 c3 c4) (.inl (dt k))),fun k=>⟨decide_eq_true (by have:=df k; omega),ap_pair (ap_arg (ap0_tm rfl rfl rfl rfl c1 c2 c3 c4) (.inr (by have:=df k; dsimp only; omega)))⟩⟩⟩⟩⟩⟩
theorem sat_apply:Sat bs.P 29 applyDSp:=sat_each (m:=8) fun (⟨⟨sc,cm,da,ds,rs,⟨⟩⟩,⟨ek,ec,ed,ei,eo,eu,ef,ev,ea,en,⟨⟩⟩⟩:Bo × Ev) hok hp=>by
 obtain ⟨⟨hn,hrs,hds,hv⟩,hlv,hc0,hc1⟩:(namesOk sc ∧ rs.length ≤ 50000 ∧ ds.length ≤ 50000 ∧ verF ei rs ≤ 1000000) ∧ (liveF ei rs).length ≤ 19 ∧ 0 ≤ cm ∧ cm ≤ 1000000:=hp
 by_cases k1:ek = 1
 ·subst k1
  exact ⟨BP1,rfl,BP1_sound,ap1_ok sc cm da ds rs ec ed ei eo eu ef ev ea en hn hrs hds hv hlv hc0 hc1⟩
 by_cases k5:ek = 5
 ·subst k5
  exact ⟨BP5,rfl,BP5_sound,ap5_ok sc cm da ds rs ec ed ei eo eu ef ev ea en hn hrs hds hv hlv hc0 hc1⟩
 by_cases k6:ek < 1 ∨ 6 ≤ ek
 ·exact ⟨BP6,rfl,BP6_sound,ap6_ok sc cm da ds rs ek ec ed ei eo eu ef ev ea en hc0 hc1 k6⟩
 by_cases hl:(liveS (sc,cm,da,ds,rs,()) ei).length = 0
 ·by_cases k2:ek = 2
  ·subst k2
   exact ⟨BP0,rfl,BP0_sound,ap02_ok sc cm da ds rs ec ed ei eo eu ef ev ea en hlv hc0 hc1 hl⟩
  by_cases k3:ek = 3
  ·subst k3
   exact ⟨BP0,rfl,BP0_sound,ap03_ok sc cm da ds rs ec ed ei eo eu ef ev ea en hlv hc0 hc1 hl⟩
  have k4:ek = 4:=by omega
  subst k4
  exact ⟨BP0,rfl,BP0_sound,ap04_ok sc cm da ds rs ec ed ei eo eu ef ev ea en hlv hc0 hc1 hl⟩
 by_cases k2:ek = 2
 ·subst k2
  exact ⟨BP2,rfl,BP2_sound,ap2_ok sc cm da ds rs ec ed ei eo eu ef ev ea en hn hrs hds hv hlv hc0 hc1 hl⟩
 by_cases k3:ek = 3
 ·subst k3
  exact ⟨BP3,rfl,BP3_sound,ap3_ok sc cm da ds rs ec ed ei eo eu ef ev ea en hn hrs hds hv hlv hc0 hc1 hl⟩
 have k4:ek = 4:=by omega
 subst k4
 exact ⟨BP4,rfl,BP4_sound,ap4_ok sc cm da ds rs ec ed ei eo eu ef ev ea en hn hrs hds hv hlv hc0 hc1 hl⟩
end Go.Proofs.YtcnpblceamgfcaaGreatDoor
namespace Go.Proofs.YtcnpblceamgfcaaGreatDoor
open Go.AM Go.PL
set_option linter.unusedVariables false
def newDSp:FSpec:=⟨[SC],[BO,I],fun _=>True,fun s=>((newS s).1,(newS s).2.1)⟩
def okD (s:Sc) (l:List Ev):Prop:=(chkS s = 0 → namesOk s) ∧ l.length ≤ 20
def foldDSp:FSpec:=⟨[SC,.arr EV],[BO,I,I],fun x=>okD x.1 x.2,fun x=>((foldD x.1 x.2).1,(foldD x.1 x.2).2.1,(foldD x.1 x.2).2.2.1)⟩
def loopsBt (f:FuncId) (r:Nat):List LA :=
 if Nat.beq f 9 then [.slot 24 I,.cell 1 0 I,.cell 1 1 I,.cell 1 2 (.arr DF),.cell 1 3 I,.cell 1 4 I,.cell 1 5 L,.cell 1 6 RL] else
 []
def datT (t:TypeId):Nat:=bif Nat.beq t 33 then 1 else datN t
def hintBt (f:FuncId):Hint:=if Nat.beq f 999999995 then ⟨fun _=>[],fun _=>.split,fun _=>.split,datT⟩ else ⟨loopsBt f,fun _=>.split,fun _=>.split,fun _=>0⟩
noncomputable def BT1:Ctx:=mkctx bs [(57,chkSp)] [] hintBt
noncomputable def BT0:Ctx:=mkctx bs [(29,applyDSp),(28,newDSp)] [] hintBt
abbrev newD_nf_e0:List (List Int × Int × Int × Int × List (List Int) × Unit):=[]
abbrev newD_nf_e1:List ((Int × Int × Int × Int × Int × Int × Int × List Int × List (List Int × Int × Int × List Int × Unit) × Unit) × Int × Unit):=[]
theorem newD_nf (d m:Int) (l:List Df):fnwp BT1 6 28 newDSp (d,m,l,()) = (True ∧ SP (!decide (chkS (d,m,l,()) = z0)) ((((z0,z0,newD_nf_e0,()),z0,z0,eI,
 newD_nf_e1,()),chkS (d,m,l,())) = ((newS (d,m,l,())).1,(newS (d,m,l,())).2.1)) ((((d,m,l,()),z0,z0,eI,newD_nf_e1,()),z0) = ((newS (d,m,l,())).1,(newS
 (d,m,l,())).2.1))):=by kernel_rfl
abbrev foldD_nf_t0:Type:=Int × Int × Int × List (List Int × Int × Int × Int × List (List Int) × Unit) × Int × Int × List Int × List ((Int × Int × Int × Int × Int × Int × Int
 × List Int × List (List Int × Int × Int × List Int × Unit) × Unit) × Int × Unit)
abbrev foldD_nf_e0:List (List Int × Int × Int × List Int × Unit):=[]
abbrev foldDq1 (x:foldD_nf_t0):=((x.2.1,x.2.2.1,x.2.2.2.1,()),x.2.2.2.2.1,x.2.2.2.2.2.1,x.2.2.2.2.2.2.1,x.2.2.2.2.2.2.2,())
abbrev foldDq0 (x:foldD_nf_t0) (l:List Ev):=applyD (foldDq1 x) (l.getD x.1.toNat (z0,z0,z0,z0,z0,z0,z0,eI,foldD_nf_e0,List.replicate y16 z0,()))
abbrev foldDq2 (d m:Int) (dl:List Df) (l:List Ev):=((foldD (d,m,dl,()) l).1,(foldD (d,m,dl,()) l).2.1,(foldD (d,m,dl,()) l).2.2.1)
theorem foldD_nf (d m:Int) (dl:List Df) (l:List Ev):fnwp BT0 6 9 foldDSp ((d,m,dl,()),l) = (True ∧ SP (!decide ((newS (d,m,dl,())).2.1 = z0)) (((((newS (d,m,dl,
 ())).1.1.1,(newS (d,m,dl,())).1.1.2.1,(newS (d,m,dl,())).1.1.2.2.1,()),(newS (d,m,dl,())).1.2.1,(newS (d,m,dl,())).1.2.2.1,(newS (d,m,dl,())).1.2.2.2.1,
 (newS (d,m,dl,())).1.2.2.2.2.1,()),z0,(newS (d,m,dl,())).2.1) = (foldDq2 d m dl l)) (LP (z0,(newS (d,m,dl,())).1.1.1,(newS (d,m,dl,())).1.1.2.1,(newS (d,m,
 dl,())).1.1.2.2.1,(newS (d,m,dl,())).1.2.1,(newS (d,m,dl,())).1.2.2.1,(newS (d,m,dl,())).1.2.2.2.1,(newS (d,m,dl,())).1.2.2.2.2.1) fun I μ x=>SD (x.1 < (ln
 l)) ((IR x.1 l) ∧ okE (foldDq1 x) (l.getD x.1.toNat (z0,z0,z0,z0,z0,z0,z0,eI,foldD_nf_e0,List.replicate y16 z0,())).2.2.2.1 ∧ SP (!decide ((foldDq0 x l).2.1 = z0))
 (((foldDq1 x),x.1,(foldDq0 x l).2.1) = (foldDq2 d m dl l)) (isI64 (x.1 + z1) ∧ NX I μ x (x.1 + z1,(foldDq0 x l).1.1.1,(foldDq0 x l).1.1.2.1,(foldDq0 x l).1.1.2.2.1,
 (foldDq0 x l).1.2.1,(foldDq0 x l).1.2.2.1,(foldDq0 x l).1.2.2.2.1,(foldDq0 x l).1.2.2.2.2.1))) (((foldDq1 x),(ln l),z0) = (foldDq2 d m dl l)))):=by kernel_rfl
end Go.Proofs.YtcnpblceamgfcaaGreatDoor
namespace Go.PL
open Go.AM
set_option linter.unusedVariables false
def FoldDI (s:Sc) (l:List Ev) (i:Int) (b:Bo):Prop:=0 ≤ i ∧ i ≤ l.length ∧ GoodB s i.toNat b ∧ foldDA (newB s) l 0 = foldDA b (l.drop i.toNat) i
theorem foldD_step {s:Sc} {l:List Ev} {i:Int} {b:Bo} (h:FoldDI s l i b) (hl:l.length ≤ 20) (hi:i < l.length) (ha:(applyD b (l.getD i.toNat dEv)).2.1 = 0):FoldDI s l (i + 1) (applyD b (l.getD i.toNat dEv)).1:=by
 obtain ⟨h0,h1,h2,h3⟩:=h
 have hg:=good_step h2 (by omega) ha
 rw [show i.toNat + 1 = (i + 1).toNat by omega] at hg
 refine ⟨by omega,by omega,hg,?_⟩
 rw [h3,drop_snoc (d:=dEv) h0 hi]
 exact if_neg fun g=>g ha
theorem foldD_bad {s:Sc} {l:List Ev} {i:Int} {b:Bo} (h:FoldDI s l i b) (hi:i < l.length) (ha:(applyD b (l.getD i.toNat dEv)).2.1 ≠ 0):foldDA (newB s) l 0 = (b,i,(applyD b (l.getD i.toNat dEv)).2.1,()):=by
 rw [h.2.2.2,drop_snoc (d:=dEv) h.1 hi]
 exact if_pos ha
theorem foldD_end {s:Sc} {l:List Ev} {i:Int} {b:Bo} (h:FoldDI s l i b) (hi:¬ i < l.length):foldDA (newB s) l 0 = (b,(l.length:Int),0,()):=by
 have h1:=h.2.1
 rw [h.2.2.2,List.drop_of_length_le (by omega),show (l.length:Int) = i by omega]
 rfl
theorem fo_three {s:Sc} {l:List Ev} {b:Bo} {i e:Int} (h:foldD s l = (b,i,e,())):(b,i,e) = ((foldD s l).1,(foldD s l).2.1,(foldD s l).2.2.1):=by rw [h]
end Go.PL
namespace Go.Proofs.YtcnpblceamgfcaaGreatDoor
open Go.AM Go.PL
set_option linter.unusedVariables false
attribute [local irreducible] fnwp fnwpG fnwpO
theorem BT1_sound:SpecSound BT1:=mkctx_sound ⟨sat_chk,trivial⟩ trivial
theorem sat_newD:Sat bs.P 28 newDSp:=fnwp_sat BT1_sound 6 _ newDSp fun (⟨d,m,l,⟨⟩⟩:Sc) hok hp=>by
 rw [newD_nf]; delta newD_nf_e0 newD_nf_e1 SP eI z0
 refine ⟨trivial,fun c=>?_,fun c=>?_⟩
 ·rw [show newS (d,m,l,()) = (zeroB,chkS (d,m,l,()),()) from if_pos (ndt c)]
  rfl
 ·rw [show newS (d,m,l,()) = (newB (d,m,l,()),0,()) from if_neg fun g=>g (ndf c)]
  rfl
theorem BT0_sound:SpecSound BT0:=mkctx_sound ⟨sat_apply,sat_newD,trivial⟩ trivial
theorem sat_foldD:Sat bs.P 9 foldDSp:=fnwp_sat BT0_sound 6 _ foldDSp fun (⟨⟨d,m,dl,⟨⟩⟩,l⟩:Sc × List Ev) hok hp=>by
 obtain ⟨hn,hl⟩:(chkS (d,m,dl,()) = 0 → namesOk (d,m,dl,())) ∧ l.length ≤ 20:=hp
 rw [foldD_nf]; delta foldD_nf_t0 foldD_nf_e0 foldDq1 foldDq0 foldDq2 IR LP NX SD SP eI ln y16 z0 z1; dsimp only
 by_cases hc:chkS (d,m,dl,()) = 0
 ·have h1:newS (d,m,dl,()) = (newB (d,m,dl,()),0,()):=if_neg fun g=>g hc
  have h2:foldD (d,m,dl,()) l = foldDA (newB (d,m,dl,())) l 0:=if_neg fun g=>g hc
  have hn:=hn hc
  rw [h1]
  refine ⟨trivial,fun c=>absurd rfl (ndt c),fun _=>⟨fun x=>FoldDI (d,m,dl,()) l x.1 ((x.2.1,x.2.2.1,x.2.2.2.1,()),x.2.2.2.2.1,x.2.2.2.2.2.1,x.2.2.2.2.2.2.1,x.2.2.2.2.2.2.2,()),fun x=>(l.length - x.1).toNat,⟨by dsimp only; omega,by dsimp only; omega,good_new _,rfl⟩,?_⟩⟩
  rintro ⟨i,d',m',dl',cm,da,ds,rs⟩ hI
  dsimp only at hI ⊢
  have h0:=hI.1
  refine ⟨fun h=>?_,fun h=>fo_three (h2.trans (foldD_end hI (df h)))⟩
  have h:=dt h
  exact ⟨⟨h0,h⟩,good_okE hI.2.2.1 (by omega) hn _,fun c=>fo_three (h2.trans (foldD_bad hI h (ndt c))),fun c=>⟨by unfold isI64; omega,foldD_step hI hl h (ndf c),by omega⟩⟩
 ·have h1:newS (d,m,dl,()) = (zeroB,chkS (d,m,dl,()),()):=if_pos hc
  have h2:foldD (d,m,dl,()) l = (zeroB,0,chkS (d,m,dl,()),()):=if_pos hc
  rw [h1]
  exact ⟨trivial,fun c=>fo_three h2,fun c=>absurd (ndf c) hc⟩
end Go.Proofs.YtcnpblceamgfcaaGreatDoor
namespace Go.PL
open Go.AM
set_option linter.unusedVariables false
def evsE:List Ev:=[(1,1,5,1,1,8,0,[1],[],[7,0,0,0,0,0,0,0,0,0,0,0,0,0,0,0],()),(5,2,8,0,0,0,0,[],[],[0,0,0,0,0,0,0,0,0,0,0,0,0,0,0,0],())]
def fineB (s:Sc) (l:List Ev):Bool:=fewLB l 20 && (fewDB s 6 && (decide (chkS s = 0) && decide ((foldS s l).2.2.1 = 0)))
end Go.PL
namespace Go.Proofs.YtcnpblceamgfcaaGreatDoor
open Go.AM Go.PL
set_option linter.unusedVariables false
def evsSp:FSpec:=⟨[],[.arr EV],fun _=>True,fun _=>evsE⟩
def fineSp:FSpec:=⟨[SC,.arr EV],[.bool],fun _=>True,fun x=>fineB x.1 x.2⟩
def hintBx (f:FuncId):Hint:=if Nat.beq f 999999995 then ⟨fun _=>[],fun _=>.split,fun _=>.split,datN⟩ else ⟨fun _=>[],fun _=>.split,fun _=>.split,fun _=>0⟩
noncomputable def BX0:Ctx:=mkctx bs [(21,fewLSp),(22,fewDSp),(23,chkSp),(24,foldSp)] [] hintBx
abbrev evs_nf_e0:List (List Int × Int × Int × List Int × Unit):=[]
theorem evs_nf  : fnwp BX0 6 25 evsSp () = ([(z1,z1,z5,z1,z1,z8,z0,[z1],evs_nf_e0,[z7,z0,z0,z0,z0,z0,z0,z0,z0,z0,z0,z0,z0,z0,z0,z0],()),(z5,z2,z8,z0,
 z0,z0,z0,eI,evs_nf_e0,[z0,z0,z0,z0,z0,z0,z0,z0,z0,z0,z0,z0,z0,z0,z0,z0],())] = evsE):=by kernel_rfl
theorem fine_nf (d m:Int) (dl:List Df) (l:List Ev):fnwp BX0 6 6 fineSp ((d,m,dl,()),l) = (True ∧ SP (!fewLB l z20) (false = fineB (d,m,dl,()) l) (True ∧ SP (!fewDB
 (d,m,dl,()) z6) (false = fineB (d,m,dl,()) l) (True ∧ SP (!decide (chkS (d,m,dl,()) = z0)) (false = fineB (d,m,dl,()) l) (PL.okF (d,m,dl,()) l ∧ decide ((foldS
 (d,m,dl,()) l).2.2.1 = z0) = fineB (d,m,dl,()) l)))):=by kernel_rfl
end Go.Proofs.YtcnpblceamgfcaaGreatDoor
namespace Go.PL
open Go.AM
set_option linter.unusedVariables false
theorem chkL_names:∀ (l:List Df) (b:List Int),chkL l b = 0 → ∀ d ∈ l,d.1 ≠ []
 | [],_,_,d,h=>absurd h List.not_mem_nil
 | x :: l,b,h,d,hd=>by
  have h:(if defS x b ≠ 0 then defS x b else chkL l x.1) = 0:=h
  by_cases hx:defS x b = 0
  ·rw [if_neg (fun g=>g hx)] at h
   rcases List.mem_cons.1 hd with g | g
   ·subst g
    intro e
    have hn:(!nameB d.1) = true:=by rw [e]; rfl
    unfold defS at hx
    rw [if_pos hn] at hx
    exact absurd hx (by decide)
   ·exact chkL_names l _ h d g
  ·rw [if_pos hx] at h
   exact absurd h hx
theorem chk_names {s:Sc} (h:chkS s = 0):namesOk s:=by
 unfold chkS at h
 split at h
 ·exact absurd h (by decide)
 ·split at h
  ·exact absurd h (by decide)
  ·exact chkL_names _ _ h
theorem fine_iff {s:Sc} {l:List Ev}:fineB s l = true ↔ fewLB l 20 = true ∧ fewDB s 6 = true ∧ chkS s = 0 ∧ (foldS s l).2.2.1 = 0:=by
 unfold fineB
 rw [Bool.and_eq_true,Bool.and_eq_true,Bool.and_eq_true,decide_eq_true_eq,decide_eq_true_eq]
theorem fewL_iff {l:List Ev}:fewLB l 20 = true ↔ l.length ≤ 20 ∧ ∀ e ∈ l,fewEB (evE e) = true:=by
 unfold fewLB
 rw [Bool.and_eq_true,decide_eq_true_eq,List.all_eq_true]
 exact and_congr (by omega) Iff.rfl
theorem few_okF {s:Sc} {l:List Ev} (h:fewLB l 20 = true):okF s l:=fun hc=>good_okA (chk_names hc) l (good_new s) (by have:=(fewL_iff.1 h).1; omega)
end Go.PL
namespace Go.Proofs.YtcnpblceamgfcaaGreatDoor
open Go.AM Go.PL
set_option linter.unusedVariables false
attribute [local irreducible] fnwp fnwpG fnwpO
theorem BX0_sound:SpecSound BX0:=mkctx_sound ⟨sat_fewL,sat_fewD,sat_rChk,sat_rFold,trivial⟩ trivial
theorem sat_evs:Sat bs.P 25 evsSp:=fnwp_sat BX0_sound 6 _ evsSp fun x hok hp=>by
 obtain ⟨⟩:=x
 rw [evs_nf]; delta evs_nf_e0 eI z0 z1 z2 z5 z7 z8
 rfl
theorem sat_fine:Sat bs.P 6 fineSp:=fnwp_sat BX0_sound 6 _ fineSp fun (⟨⟨d,m,dl,⟨⟩⟩,l⟩:Sc × List Ev) hok hp=>by
 rw [fine_nf]; delta SP z0 z20 z6
 have no:∀ {b:Bool},(!b) = true → ¬ b = true:=fun h g=>by rw [g] at h; cases h
 have ys:∀ {b:Bool},(!b) = false → b = true:=fun {b} h=>by cases b <;> simp_all
 refine ⟨trivial,fun h=>is_no fun g=>no h (fine_iff.1 g).1,fun h1=>⟨trivial,fun h=>is_no fun g=>no h (fine_iff.1 g).2.1,fun h2=>⟨trivial,fun h=>is_no fun g=>ndt h (fine_iff.1 g).2.2.1,fun h3=>⟨few_okF (ys h1),?_⟩⟩⟩⟩
 exact dec_is (by rw [fine_iff]; exact ⟨fun h=>⟨ys h1,ys h2,ndf h3,h⟩,fun h=>h.2.2.2⟩)
end Go.Proofs.YtcnpblceamgfcaaGreatDoor
namespace Go.Proofs.YtcnpblceamgfcaaGreatDoor
open Go.AM Go.PL
set_option linter.unusedVariables false
def awakeSp:FSpec:=⟨[],[.bool],fun _=>True,fun _=>true⟩
def modeBy (f:FuncId) (r:Nat):AM.Mode:=bif Nat.beq f 7 && Nat.beq r 5 then .yes else bif Nat.beq f 7 && Nat.beq r 10 then .yes else .split
def cmodeBy (f:FuncId) (t:Nat):AM.Mode:=bif Nat.beq f 7 && Nat.beq t 44 then .no else .split
def hintBy (f:FuncId):Hint:=if Nat.beq f 999999995 then ⟨fun _=>[],fun _=>.split,fun _=>.split,datN⟩ else ⟨fun _=>[],modeBy f,cmodeBy f,fun _=>0⟩
noncomputable def BY0:Ctx:=mkctx bs [(25,evsSp),(9,foldDSp),(10,splitSp),(12,vaultSp),(16,vblindSp),(8,faceSp)] [] hintBy
abbrev awake_nf_e0:List (List Int × Int × Int × Int × List (List Int) × Unit):=[]
abbrev awake_nf_e1:List (List Int × Int × Int × List Int × Unit):=[]
abbrev awakeq4:=List.take y1 (List.drop y0 evsE)
abbrev awakeq1:=foldD (z1,z1,awake_nf_e0,()) awakeq4
abbrev awakeq0:=((awakeq1.1.1.1,awakeq1.1.1.2.1,awakeq1.1.1.2.2.1,()),awakeq1.1.2.1,awakeq1.1.2.2.1,awakeq1.1.2.2.2.1,awakeq1.1.2.2.2.2.1,())
abbrev awakeq2:=foldD (z1,z1,awake_nf_e0,()) evsE
abbrev awakeq3:=(z0,z0,z0,z0,z0,z0,z0,eI,awake_nf_e1,List.replicate y16 z0,())
abbrev awakeq5:=(vltL awakeq0).getD y0 ((z0,z0,z0,z0,z0,z0,z0,eI,awake_nf_e1,()),z0,())
theorem awake_nf  : fnwp BY0 6 7 awakeSp () = (True ∧ (z0 ≤ z0 ∧ z0 ≤ z1 ∧ z1 ≤ z2) ∧ okD (z1,z1,awake_nf_e0,()) awakeq4 ∧ okD (z1,z1,awake_nf_e0,()) evsE ∧ false = false ∧
 false = false ∧ false = false ∧ false = false ∧ (daysOk awakeq0 ∧ y1 ≤ (50000:Nat)) ∧ (daysOk ((awakeq2.1.1.1,awakeq2.1.1.2.1,awakeq2.1.1.2.2.1,()),awakeq2.1.2.1,
 awakeq2.1.2.2.1,awakeq2.1.2.2.2.1,awakeq2.1.2.2.2.2.1,()) ∧ y1 ≤ (50000:Nat)) ∧ (z0 ≤ z0 ∧ z0 ≤ z1 ∧ z1 ≤ z2) ∧ (daysOk awakeq0 ∧ rowsFew awakeq0) ∧ true = true ∧ true =
 true ∧ true = true ∧ true = true ∧ decide ((ln (sortD (vltU awakeq4 awakeq0))) = z1) = true ∧ (IR z0 (sortD (vltU awakeq4 awakeq0))) ∧ (z0 ≤ z0 ∧ z0 < (↑y2:Int)) ∧ (z0 ≤ z0 ∧
 z0 < (↑y1:Int)) ∧ fewE awakeq5.1 ∧ decide ((sortD (vltU awakeq4 awakeq0)).getD y0 (List.replicate y16 z0) = vblind (evsE.getD y0 awakeq3).2.2.2.2.2.2.2.2.2.1 awakeq5.1) = true
 ∧ (z0 ≤ z0 ∧ z0 < (↑y2:Int)) ∧ fewV (evsE.getD y0 awakeq3) ∧ (z0 ≤ z1 ∧ z1 < (↑y2:Int)) ∧ fewV (evsE.getD y1 awakeq3) ∧ true = true):=by kernel_rfl
end Go.Proofs.YtcnpblceamgfcaaGreatDoor
namespace Go.PL
open Go.AM
set_option linter.unusedVariables false
def rowE:Rw:=((1,1,1,5,8,1048577,1,[1],[],()),0,())
def bookA:Bo:=((1,1,[],()),1,5,[5],[rowE],())
def bookB:Bo:=((1,1,[],()),2,8,[5,8],[rowE],())
theorem foldA_is:foldD (1,1,[],()) (List.take 1 (List.drop 0 evsE)) = (bookA,1,0,()):=by kernel_rfl
theorem foldB_is:foldD (1,1,[],()) evsE = (bookB,2,0,()):=by kernel_rfl
end Go.PL
namespace Go.Proofs.YtcnpblceamgfcaaGreatDoor
open Go.AM Go.PL
set_option linter.unusedVariables false
attribute [local irreducible] fnwp fnwpG fnwpO hof
theorem vltA_is:vltU (List.take 1 (List.drop 0 evsE)) bookA = [vblind [7,0,0,0,0,0,0,0,0,0,0,0,0,0,0,0] rowE.1]:=rfl
theorem sortA_is:sortD (vltU (List.take 1 (List.drop 0 evsE)) bookA) = [vblind [7,0,0,0,0,0,0,0,0,0,0,0,0,0,0,0] rowE.1]:=by
 have:=sortD_perm (vltU (List.take 1 (List.drop 0 evsE)) bookA)
 rw [vltA_is] at this ⊢
 exact List.perm_singleton.1 this
theorem BY0_sound:SpecSound BY0:=mkctx_sound ⟨sat_evs,sat_foldD,sat_split,sat_vault,sat_vblind,sat_face,trivial⟩ trivial
theorem sat_awake:Sat bs.P 7 awakeSp:=fnwp_sat BY0_sound 6 _ awakeSp fun x hok hp=>by
 obtain ⟨⟩:=x
 rw [awake_nf]; delta awake_nf_e0 awake_nf_e1 awakeq4 awakeq1 awakeq0 awakeq2 awakeq3 awakeq5 IR eI ln y0 y1 y16 y2 z0 z1 z2
 have fewR:fewE rowE.1:=⟨by decide,by decide,fun a ha=>absurd ha List.not_mem_nil⟩
 have dA:daysOk bookA:=fun r hr=>by rw [List.mem_singleton.1 hr]; exact ⟨by decide,by decide⟩
 have dB:daysOk bookB:=fun r hr=>by rw [List.mem_singleton.1 hr]; exact ⟨by decide,by decide⟩
 have rA:rowsFew bookA:=⟨fun r hr=>by rw [List.mem_singleton.1 hr]; exact fewR,by decide⟩
 have ok:∀ l:List Ev,l.length ≤ 20 → okD (1,1,[],()) l:=fun l h=>⟨fun _ d hd=>absurd hd List.not_mem_nil,h⟩
 have eA:(((foldD (1,1,[],()) (List.take 1 (List.drop 0 evsE))).1.1.1,(foldD (1,1,[],()) (List.take 1 (List.drop 0 evsE))).1.1.2.1,(foldD (1,1,[],()) (List.take 1 (List.drop 0 evsE))).1.1.2.2.1,()),(foldD (1,1,[],()) (List.take 1 (List.drop 0 evsE))).1.2.1,(foldD (1,1,[],()) (List.take 1 (List.drop 0 evsE))).1.2.2.1,(foldD (1,1,[],()) (List.take 1 (List.drop 0 evsE))).1.2.2.2.1,(foldD (1,1,[],()) (List.take 1 (List.drop 0 evsE))).1.2.2.2.2.1,()) = bookA:=by
  rw [foldA_is]
 have eB:(((foldD (1,1,[],()) evsE).1.1.1,(foldD (1,1,[],()) evsE).1.1.2.1,(foldD (1,1,[],()) evsE).1.1.2.2.1,()),(foldD (1,1,[],()) evsE).1.2.1,(foldD (1,1,[],()) evsE).1.2.2.1,(foldD (1,1,[],()) evsE).1.2.2.2.1,(foldD (1,1,[],()) evsE).1.2.2.2.2.1,()) = bookB:=by
  rw [foldB_is]
 rw [eA,eB,sortA_is]
 exact ⟨trivial,⟨by decide,by decide,by decide⟩,ok _ (by decide),ok _ (by decide),rfl,rfl,rfl,rfl,⟨dA,by decide⟩,⟨dB,by decide⟩,⟨by decide,by decide,by decide⟩,⟨dA,rA⟩,rfl,rfl,rfl,rfl,rfl,⟨by decide,by decide⟩,⟨by decide,by decide⟩,⟨by decide,by decide⟩,fewR,
  decide_eq_true rfl,⟨by decide,by decide⟩,⟨by decide,by decide,fun a ha=>absurd ha List.not_mem_nil⟩,⟨by decide,by decide⟩,⟨by decide,by decide,fun a ha=>absurd ha List.not_mem_nil⟩,rfl⟩
end Go.Proofs.YtcnpblceamgfcaaGreatDoor
namespace Go.Proofs.YtcnpblceamgfcaaGreatDoor
open Go.AM Go.PL
set_option linter.unusedVariables false
def law1Sp:FSpec:=⟨[SC,.arr EV,U8,L,AL,U8],[.bool],fun _=>True,fun _=>true⟩
def datZ (t:TypeId):Nat:=bif Nat.beq t 39 || Nat.beq t 35 || Nat.beq t 58 || Nat.beq t 33 || Nat.beq t 52 then 1 else datN t
def loopsBz (f:FuncId) (r:Nat):List LA :=
 if Nat.beq f 3 then (bif Nat.ble r 21 then [.slot 17 I,.slot 15 (.arr EV)] else bif Nat.ble r 24 then [.slot 20 I,.slot 15 (.arr EV)] else [.slot 38 I]) else
 []
def unrBz (f:FuncId) (r:Nat):Nat:=bif Nat.beq f 3 && Nat.beq r 8 then 500 else 0
def hintBz (f:FuncId):Hint:=if Nat.beq f 999999995 then ⟨fun _=>[],fun _=>.split,fun _=>.split,datZ⟩ else ⟨loopsBz f,fun _=>.split,fun _=>.split,unrBz f⟩
noncomputable def tBz:List (FuncId × FSpec):=[(6,fineSp),(7,awakeSp),(8,faceSp),(9,foldDSp),(10,splitSp),(11,sameRSp),(12,vaultSp),(13,forgetSp)]
noncomputable def BZ0:Ctx:=mkctx bs tBz [] hintBz
abbrev law1_nf_t0:Type:=Int × List (Int × Int × Int × Int × Int × Int × Int × List Int × List (List Int × Int × Int × List Int × Unit) × List Int × Unit)
abbrev law1_nf_t1:Type:=Int × List (Int × Int × Int × Int × Int × Int × Int × List Int × List (List Int × Int × Int × List Int × Unit) × List Int × Unit) → Prop
abbrev law1_nf_t2:Type:=Int × List (Int × Int × Int × Int × Int × Int × Int × List Int × List (List Int × Int × Int × List Int × Unit) × List Int × Unit) → Nat
abbrev law1_nf_e0:List (List Int × Int × Int × List Int × Unit):=[]
abbrev law1q1:=(z0,z0,z0,z0,z0,z0,z0,eI,law1_nf_e0,List.replicate y16 z0,())
abbrev law1q11 (w:Int) (l:List Ev):=(IntKind.i64.wrap w).tmod (ln l)
abbrev law1q7 (l:List Ev) (w:Int):=l.getD (law1q11 w l).toNat law1q1
abbrev law1q0 (l:List Ev) (w:Int) (v:List Int):=l.set (law1q11 w l).toNat ((law1q7 l w).1,(law1q7 l w).2.1,(law1q7 l w).2.2.1,(law1q7 l w).2.2.2.1,(law1q7 l
 w).2.2.2.2.1,(law1q7 l w).2.2.2.2.2.1,(law1q7 l w).2.2.2.2.2.2.1,v,(law1q7 l w).2.2.2.2.2.2.2.2)
abbrev law1q8 (x:law1_nf_t0):=faceS (x.2.getD x.1.toNat law1q1)
abbrev law1q10 (l:List Ev) (x:law1_nf_t0):=faceS (l.getD x.1.toNat law1q1)
abbrev law1q2 (x:law1_nf_t0) (l:List Ev) (w:Int) (I:law1_nf_t1) (μ:law1_nf_t2):=(IR x.1 l) ∧ fewV (l.getD x.1.toNat law1q1) ∧ (IR x.1 x.2) ∧ fewV (x.2.getD x.1.toNat
 law1q1) ∧ SD (x.1 = (IntKind.i64.wrap w).tmod (ln l)) (SP (!(decide ((law1q10 l x).1 = (law1q8 x).1) && (decide ((law1q10 l x).2.1 = (law1q8 x).2.1) && (decide ((law1q10 l
 x).2.2.1 = (law1q8 x).2.2.1) && (decide ((law1q10 l x).2.2.2.1 = (law1q8 x).2.2.2.1) && (decide ((law1q10 l x).2.2.2.2.1 = (law1q8 x).2.2.2.2.1) && (decide ((law1q10 l
 x).2.2.2.2.2.1 = (law1q8 x).2.2.2.2.2.1) && (decide ((law1q10 l x).2.2.2.2.2.2.1 = (law1q8 x).2.2.2.2.2.2.1) && (decide ((law1q8 x).2.2.2.2.2.2.2.1 = (law1q8 x).2.2.2.2.2.2.2.1)
 && true))))))))) (false = true) (isI64 (x.1 + z1) ∧ NX I μ x (x.1 + z1,x.2))) (SP (!(decide ((law1q10 l x).1 = (law1q8 x).1) && (decide ((law1q10 l x).2.1 = (law1q8 x).2.1) &&
 (decide ((law1q10 l x).2.2.1 = (law1q8 x).2.2.1) && (decide ((law1q10 l x).2.2.2.1 = (law1q8 x).2.2.2.1) && (decide ((law1q10 l x).2.2.2.2.1 = (law1q8 x).2.2.2.2.1) && (decide
 ((law1q10 l x).2.2.2.2.2.1 = (law1q8 x).2.2.2.2.2.1) && (decide ((law1q10 l x).2.2.2.2.2.2.1 = (law1q8 x).2.2.2.2.2.2.1) && (decide ((law1q10 l x).2.2.2.2.2.2.2.1 = (law1q8
 x).2.2.2.2.2.2.2.1) && true))))))))) (false = true) (isI64 (x.1 + z1) ∧ NX I μ x (x.1 + z1,x.2)))
abbrev law1q3 (d m:Int) (dl:List Df) (x:law1_nf_t0) (l:List Ev):=foldD (d,m,dl,()) (List.take (x.1.toNat - y0) (List.drop y0 l))
abbrev law1q4 (l:List Ev) (w:Int) (v:List Int):=(law1q0 l w v).getD (law1q11 w l).toNat law1q1
abbrev law1q5 (d m:Int) (dl:List Df) (x:law1_nf_t0):=foldD (d,m,dl,()) (List.take (x.1.toNat - y0) (List.drop y0 x.2))
abbrev law1q6 (fl d m:Int) (dl:List Df) (x:law1_nf_t0) (l:List Ev):=(IntKind.i64.wrap fl).tmod ((law1q3 d m dl x l).1.2.1 + z1)
abbrev law1q9:=(z0,z0,z0,z0,List.replicate y16 z0,())
abbrev law1q12 (d m:Int) (dl:List Df) (x:law1_nf_t0) (l:List Ev) (fl:Int):=forgetS (law1q3 d m dl x l).1 (law1q6 fl d m dl x l)
abbrev law1q13 (l:List Ev) (w:Int) (v:List Int) (at_:List At):=((law1q4 l w v).1,(law1q4 l w v).2.1,(law1q4 l w v).2.2.1,(law1q4 l w v).2.2.2.1,(law1q4 l w
 v).2.2.2.2.1,(law1q4 l w v).2.2.2.2.2.1,(law1q4 l w v).2.2.2.2.2.2.1,(law1q4 l w v).2.2.2.2.2.2.2.1,at_,(law1q4 l w v).2.2.2.2.2.2.2.2.2)
abbrev law1q14 (d m:Int) (dl:List Df) (x:law1_nf_t0) (fl:Int) (l:List Ev):=forgetS (law1q5 d m dl x).1 (law1q6 fl d m dl x l)
theorem law1_nf (d m:Int) (dl:List Df) (l:List Ev) (w:Int) (v:List Int) (at_:List At) (fl:Int):fnwp BZ0 8 3 law1Sp ((d,m,dl,()),l,w,v,at_,fl) = (True ∧ SP
 (!fineB (d,m,dl,()) l) (True ∧ true = true) (SD ((ln l) = z0) (True ∧ true = true) (SD (z40 < (ln v)) (True ∧ true = true) ((ln l) ≠ z0 ∧ roomP BZ0 y33 l.length ∧ (IR
 (law1q11 w l) l) ∧ (IR (law1q11 w l) (law1q0 l w v)) ∧ True ∧ SP (!fineB (d,m,dl,()) ((law1q0 l w v).set (law1q11 w l).toNat (law1q13 l w v at_))) (True ∧ true = true) ((IR
 (law1q11 w l) l) ∧ SP (!decide ((law1q7 l w).1 = z1)) (True ∧ true = true) ((IR (law1q11 w l) l) ∧ isI64 ((ln l) - z1) ∧ (IR ((ln l) - z1) l) ∧ SD ((law1q7 l w).2.2.2.2.2.1 ≤
 (l.getD ((ln l) - z1).toNat law1q1).2.2.1) (True ∧ true = true) (LP (z0,(law1q0 l w v).set (law1q11 w l).toNat (law1q13 l w v at_)) fun I μ x=>SD (x.1 < (ln l)) (SD
 ((IntKind.i64.wrap w).tmod (ln l) < x.1) ((IR x.1 l) ∧ (IR (law1q11 w l) l) ∧ SD ((l.getD x.1.toNat law1q1).2.2.2.1 = (law1q7 l w).2.2.2.1) ((IR x.1 l) ∧ SP (!decide ((l.getD
 x.1.toNat law1q1).1 = z5)) (True ∧ true = true) (law1q2 x l w I μ)) (law1q2 x l w I μ)) (law1q2 x l w I μ)) (LP (z0,x.2) fun I μ x=>SD (x.1 ≤ (ln l)) ((z0 ≤ z0 ∧ z0 ≤ x.1 ∧
 x.1 ≤ (ln l)) ∧ okD (d,m,dl,()) (List.take (x.1.toNat - y0) (List.drop y0 l)) ∧ (z0 ≤ z0 ∧ z0 ≤ x.1 ∧ x.1 ≤ (ln x.2)) ∧ okD (d,m,dl,()) (List.take (x.1.toNat - y0)
 (List.drop y0 x.2)) ∧ (daysOk (law1q3 d m dl x l).1 ∧ (law1q3 d m dl x l).1.2.2.2.2.1.length ≤ (50000:Nat)) ∧ (daysOk (law1q5 d m dl x).1 ∧ (law1q5 d m dl
 x).1.2.2.2.2.1.length ≤ (50000:Nat)) ∧ SP (!decide ((law1q3 d m dl x l).2.2.1 = z0)) (false = true) (SP (!decide ((law1q5 d m dl x).2.2.1 = z0)) (false = true) ((fewRs (pubL
 (law1q3 d m dl x l).1) ∧ fewRs (pubL (law1q5 d m dl x).1)) ∧ SP (!sameRB (pubL (law1q3 d m dl x l).1) (pubL (law1q5 d m dl x).1)) (false = true) (SP (!decide ((ln (vltL (law1q3
 d m dl x l).1)) = (ln (vltL (law1q5 d m dl x).1)))) (false = true) ((z0 ≤ z0 ∧ z0 ≤ x.1 ∧ x.1 ≤ (ln l)) ∧ (daysOk (law1q3 d m dl x l).1 ∧ rowsFew (law1q3 d m dl x l).1) ∧ (z0 ≤
 z0 ∧ z0 ≤ x.1 ∧ x.1 ≤ (ln x.2)) ∧ (daysOk (law1q5 d m dl x).1 ∧ rowsFew (law1q5 d m dl x).1) ∧ SP (!decide ((ln (sortD (vltU (List.take (x.1.toNat - y0) (List.drop y0 l))
 (law1q3 d m dl x l).1))) = (ln (sortD (vltU (List.take (x.1.toNat - y0) (List.drop y0 x.2)) (law1q5 d m dl x).1))))) (false = true) (isI64 ((law1q3 d m dl x l).1.2.1 + z1) ∧
 (law1q3 d m dl x l).1.2.1 + z1 ≠ z0 ∧ rowsFew (law1q3 d m dl x l).1 ∧ rowsFew (law1q5 d m dl x).1 ∧ SP (!decide ((law1q12 d m dl x l fl).2.2 = z0)) (false = true) (SP (!decide
 ((law1q14 d m dl x fl l).2.2 = z0)) (false = true) (SP (!decide ((ln (law1q12 d m dl x l fl).2.1) = (ln (law1q14 d m dl x fl l).2.1))) (false = true) (LP z0 fun I_1 μ_1 x_1 =>
 SD (x_1 < (ln (law1q12 d m dl x l fl).2.1)) ((IR x_1 (law1q12 d m dl x l fl).2.1) ∧ (IR x_1 (law1q14 d m dl x fl l).2.1) ∧ SP (!(decide (((law1q12 d m dl x l fl).2.1.getD
 x_1.toNat law1q9).1 = ((law1q14 d m dl x fl l).2.1.getD x_1.toNat law1q9).1) && (decide (((law1q12 d m dl x l fl).2.1.getD x_1.toNat law1q9).2.1 = ((law1q14 d m dl x fl
 l).2.1.getD x_1.toNat law1q9).2.1) && (decide (((law1q12 d m dl x l fl).2.1.getD x_1.toNat law1q9).2.2.1 = ((law1q14 d m dl x fl l).2.1.getD x_1.toNat law1q9).2.2.1) && (decide
 (((law1q12 d m dl x l fl).2.1.getD x_1.toNat law1q9).2.2.2.1 = ((law1q14 d m dl x fl l).2.1.getD x_1.toNat law1q9).2.2.2.1) && (decide (((law1q12 d m dl x l fl).2.1.getD
 x_1.toNat law1q9).2.2.2.2.1 = ((law1q14 d m dl x fl l).2.1.getD x_1.toNat law1q9).2.2.2.2.1) && true)))))) (false = true) (isI64 (x_1 + z1) ∧ NX I_1 μ_1 x_1 (x_1 + z1))) (isI64
 (x.1 + z1) ∧ NX I μ x (x.1 + z1,x.2))))))))))) (True ∧ true = true))))))))):=by kernel_rfl
end Go.Proofs.YtcnpblceamgfcaaGreatDoor
namespace Go.PL
open Go.AM
set_option linter.unusedVariables false
def bookS (s:Sc):List Ev → Bo → Bo
 | [],b=>b
 | e :: l,b=>bookS s l (applyD b e).1
def accB:List Ev → Bo → Prop
 | [],_=>True
 | e :: l,b=>(applyD b e).2.1 = 0 ∧ accB l (applyD b e).1
theorem foldDA_acc:∀ (l:List Ev) (b:Bo) (i:Int),(foldDA b l i).2.2.1 = 0 → accB l b
 | [],_,_,_=>trivial
 | e :: l,b,i,h=>by
  have h:(if (applyD b e).2.1 ≠ 0 then (b,i,(applyD b e).2.1,()) else foldDA (applyD b e).1 l (i + 1)).2.2.1 = 0:=h
  by_cases k:(applyD b e).2.1 = 0
  ·rw [if_neg (fun g=>g k)] at h
   exact ⟨k,foldDA_acc l _ _ h⟩
  ·rw [if_pos k] at h
   exact absurd h k
theorem foldDA_book (s:Sc):∀ (l:List Ev) (b:Bo) (i:Int),accB l b → foldDA b l i = (bookS s l b,i + (l.length:Int),0,())
 | [],b,i,_=>by
  show (b,i,0,()) = (b,i + ((0:Nat):Int),0,())
  rw [show i + ((0:Nat):Int) = i by omega]
 | e :: l,b,i,h=>by
  show (if (applyD b e).2.1 ≠ 0 then (b,i,(applyD b e).2.1,()) else foldDA (applyD b e).1 l (i + 1)) = (bookS s l (applyD b e).1,i + ((e :: l).length:Int),0,())
  rw [if_neg (fun g=>g h.1),foldDA_book s l _ _ h.2,List.length_cons]
  rw [show i + 1 + (l.length:Int) = i + ((l.length + 1:Nat):Int) by omega]
theorem bookS_app (s:Sc):∀ (l m:List Ev) (b:Bo),bookS s (l ++ m) b = bookS s m (bookS s l b)
 | [],_,_=>rfl
 | e :: l,m,b=>bookS_app s l m _
theorem accB_app:∀ (l m:List Ev) (b:Bo) (s:Sc),accB (l ++ m) b ↔ accB l b ∧ accB m (bookS s l b)
 | [],_,_,_=>⟨fun h=>⟨trivial,h⟩,fun h=>h.2⟩
 | e :: l,m,b,s=>by
  have:=accB_app l m (applyD b e).1 s
  exact ⟨fun h=>⟨⟨h.1,(this.1 h.2).1⟩,(this.1 h.2).2⟩,fun h=>⟨h.1.1,this.2 ⟨h.1.2,h.2⟩⟩⟩
def bk (s:Sc) (l:List Ev) (i:Nat):Bo:=bookS s (l.take i) (newB s)
theorem bk_succ (s:Sc) (l:List Ev) {i:Nat} (h:i < l.length):bk s l (i + 1) = (applyD (bk s l i) (l.getD i dEv)).1:=by
 unfold bk
 rw [List.take_add_one,List.getElem?_eq_getElem h,List.getD_eq_getElem?_getD,List.getElem?_eq_getElem h]
 show bookS s (l.take i ++ [l[i]]) (newB s) = _
 rw [bookS_app]
 rfl
theorem acc_take {l:List Ev} {b:Bo} (h:accB l b) (s:Sc) (i:Nat):accB (l.take i) b:=by
 rw [← List.take_append_drop i l] at h
 exact ((accB_app _ _ b s).1 h).1
theorem acc_at {s:Sc} {l:List Ev} (h:accB l (newB s)) {i:Nat} (hi:i < l.length):(applyD (bk s l i) (l.getD i dEv)).2.1 = 0:=by
 have:=acc_take h s (i + 1)
 rw [List.take_add_one,List.getElem?_eq_getElem hi] at this
 rw [List.getD_eq_getElem?_getD,List.getElem?_eq_getElem hi]
 exact ((accB_app _ _ _ s).1 this).2.1
theorem foldD_bk {s:Sc} {l:List Ev} (hs:chkS s = 0) (h:accB l (newB s)) (i:Nat):foldD s (l.take i) = (bk s l i,((l.take i).length:Int),0,()):=by
 unfold foldD
 rw [if_neg (fun g=>g hs),foldDA_book s _ _ _ (acc_take h s i),Int.zero_add]
 rfl
theorem fine_acc {s:Sc} {l:List Ev} (h:fineB s l = true):chkS s = 0 ∧ l.length ≤ 20 ∧ (∀ e ∈ l,fewEB (evE e) = true) ∧ accB l (newB s):=by
 obtain ⟨h1,h2,h3,h4⟩:=fine_iff.1 h
 obtain ⟨h5,h6⟩:=fewL_iff.1 h1
 rw [← foldD_eq h5] at h4
 unfold foldD at h4
 rw [if_neg (fun g=>g h3)] at h4
 exact ⟨h3,h5,h6,foldDA_acc _ _ _ h4⟩
theorem good_bk {s:Sc} {l:List Ev} (h:accB l (newB s)) (hl:l.length ≤ 20):∀ i:Nat,i ≤ l.length → GoodB s i (bk s l i)
 | 0,_=>good_new s
 | i + 1,hi=>by
  rw [bk_succ s l (by omega)]
  exact good_step (good_bk h hl i (by omega)) (by omega) (acc_at h (by omega))
def MoreB (b:Bo):Prop:=(∀ r ∈ b.2.2.2.2.1,0 ≤ r.2.1 ∧ r.2.1 ≤ b.2.1) ∧ (0 < b.2.1 → b.2.2.2.1.getD (b.2.1 - 1).toNat 0 = b.2.2.1) ∧ ∀ r ∈ b.2.2.2.2.1,fewE r.1
theorem more_new (s:Sc):MoreB (newB s):=⟨fun r h=>absurd h List.not_mem_nil,fun h=>absurd h (Int.lt_irrefl 0),fun r h=>absurd h List.not_mem_nil⟩
def vaR (r:Rw):List Int × List At:=(r.1.2.2.2.2.2.2.2.1,r.1.2.2.2.2.2.2.2.2.1)
def vaE (e:Ev):List Int × List At:=(e.2.2.2.2.2.2.2.1,e.2.2.2.2.2.2.2.2.1)
theorem apply_src {b:Bo} {e:Ev} (h:(applyD b e).2.1 = 0):∃ dy mo,applyD b e = makeD b e dy mo ∧ ∀ x ∈ mo,x.1.1 = e.2.2.2.1 ∧ x.2.1 = 0 ∧ vaR x = vaE e:=by
 unfold applyD at h ⊢
 by_cases h0:e.2.1 ≠ b.2.1 + 1 ∨ 1073741824 < e.2.1 ∨ e.2.2.1 < b.2.2.1 ∨ 1048576 < e.2.2.1
 ·rw [if_pos h0] at h
  exact absurd (no9 h) (by decide)
 rw [if_neg h0] at h ⊢
 by_cases hk:e.1 < 1 ∨ 6 ≤ e.1
 ·rw [if_pos hk] at h
  exact absurd (no9 h) (by decide)
 rw [if_neg hk] at h ⊢
 dsimp only at h ⊢
 by_cases hl:(liveS b e.2.2.2.1).length = 0 ∧ e.1 ≠ 1 ∧ e.1 ≠ 5
 ·rw [if_pos hl] at h
  exact absurd (no9 h) (by decide)
 rw [if_neg hl] at h ⊢
 by_cases k1:e.1 = 1
 ·rw [if_pos k1] at h ⊢
  by_cases hh:hasF e.2.2.2.1 b.2.2.2.2.1 = true
  ·rw [if_pos hh] at h
   exact absurd (no9 h) (by decide)
  rw [if_neg hh]
  exact ⟨_,_,rfl,fun x hx=>by rw [List.mem_singleton.1 hx]; exact ⟨rfl,rfl,rfl⟩⟩
 rw [if_neg k1] at h ⊢
 by_cases k2:e.1 = 2
 ·rw [if_pos k2] at h ⊢
  split at h
  ·exact absurd (no9 h) (by decide)
  ·rename_i g
   rw [if_neg g]
   exact ⟨_,_,rfl,fun x hx=>by rw [List.mem_singleton.1 hx]; exact ⟨(mem_liveS.1 (live_ne (by omega))).2.1,rfl,rfl⟩⟩
 rw [if_neg k2] at h ⊢
 by_cases k3:e.1 = 3
 ·rw [if_pos k3] at h ⊢
  split at h
  ·exact absurd (no9 h) (by decide)
  ·rename_i g
   rw [if_neg g]
   exact ⟨_,_,rfl,fun x hx=>absurd hx List.not_mem_nil⟩
 rw [if_neg k3] at h ⊢
 by_cases k4:e.1 = 4
 ·rw [if_pos k4] at h ⊢
  split at h
  ·exact absurd (no9 h) (by decide)
  ·rename_i g
   rw [if_neg g]
   split at h
   ·exact absurd (no9 h) (by decide)
   ·rename_i g'
    rw [if_neg g']
    exact ⟨_,_,rfl,fun x hx=>absurd hx List.not_mem_nil⟩
 rw [if_neg k4]
 exact ⟨_,_,rfl,fun x hx=>absurd hx List.not_mem_nil⟩
theorem rows_from {b:Bo} {e:Ev} (hc0:e.2.1 ≠ 0) (he:(applyD b e).2.1 = 0) {r:Rw} (hr:r ∈ (applyD b e).1.2.2.2.2.1) :
 (∃ x ∈ b.2.2.2.2.1,r.1 = x.1 ∧ (r.2.1 = x.2.1 ∨ r.2.1 = e.2.1)) ∨ (r.1.1 = e.2.2.2.1 ∧ r.2.1 = 0 ∧ ((∃ x ∈ b.2.2.2.2.1,vaR r = vaR x) ∨ vaR r = vaE e)):=by
 obtain ⟨dy,mo,hE,hmo⟩:=apply_src he
 rw [hE] at he hr
 rw [make_sc he] at hr
 rcases List.mem_append.1 (show r ∈ b.2.2.2.2.1.map (dieD e.2.2.2.1 e.2.1 dy) ++ addedD b e dy mo from hr) with g | g
 ·left
  obtain ⟨x,hx,ex⟩:=List.mem_map.1 g
  refine ⟨x,hx,?_⟩
  unfold dieD at ex
  split at ex
  ·rw [← ex]; exact ⟨rfl,.inr rfl⟩
  ·rw [← ex]; exact ⟨rfl,.inl rfl⟩
 ·right
  unfold addedD at g
  obtain ⟨y,hy,w,ey,_⟩:=mem_numb g
  subst ey
  rcases List.mem_append.1 hy with q | q
  ·obtain ⟨x,hx,ex⟩:=List.mem_map.1 ((isortR_perm _).mem_iff.1 q)
   have hx:=List.mem_filter.1 hx
   have hl:=(Bool.and_eq_true _ _ ▸ hx.2).1
   subst ex
   exact ⟨(liveB_iff.1 hl).1,rfl,.inl ⟨x,hx.1,rfl⟩⟩
  ·have:=hmo y q
   exact ⟨this.1,this.2.1,.inr this.2.2⟩
theorem fewE_va {r x:Rw} (h:vaR r = vaR x) (hx:fewE x.1):fewE r.1:=by
 injection h with h1 h2
 unfold fewE at *
 rw [h1,h2]
 exact hx
theorem more_step {b:Bo} (hI:InvB b) (hB:BndB b) (hM:MoreB b) {e:Ev} (he:(applyD b e).2.1 = 0) (hf:fewEB (evE e) = true):MoreB (applyD b e).1:=by
 obtain ⟨hc,hd,_,dy,mo,hE,_⟩:=apply_ok hI he
 have h0:=hI.1
 have hc0:e.2.1 ≠ 0:=by omega
 have hf:=fewE_of hf
 refine ⟨fun r hr=>?_,fun _=>?_,fun r hr=>?_⟩
 ·have hcm:(applyD b e).1.2.1 = e.2.1:=by
   rw [hE] at he ⊢
   rw [make_sc he]
  rw [hcm]
  rcases rows_from hc0 he hr with ⟨x,hx,_,g | g⟩ | ⟨_,g,_⟩
  ·have:=hM.1 x hx
   omega
  ·omega
  ·omega
 ·rw [hE] at he ⊢
  rw [make_sc he]
  show (b.2.2.2.1 ++ [e.2.2.1]).getD (e.2.1 - 1).toNat 0 = e.2.2.1
  have:=hB.2.1
  rw [show (e.2.1 - 1).toNat = b.2.2.2.1.length by omega,List.getD_eq_getElem?_getD,List.getElem?_append_right (Nat.le_refl _)]
  simp
 ·rcases rows_from hc0 he hr with ⟨x,hx,g,_⟩ | ⟨_,_,⟨x,hx,g⟩ | g⟩
  ·rw [g]; exact hM.2.2 x hx
  ·exact fewE_va g (hM.2.2 x hx)
  ·injection g with g1 g2
   unfold fewE at *
   rw [g1,g2]
   exact hf
theorem more_bk {s:Sc} {l:List Ev} (h:accB l (newB s)) (hl:l.length ≤ 20) (hf:∀ e ∈ l,fewEB (evE e) = true):∀ i:Nat,i ≤ l.length → MoreB (bk s l i)
 | 0,_=>more_new s
 | i + 1,hi=>by
  have hg:=good_bk h hl i (by omega)
  rw [bk_succ s l (by omega)]
  exact more_step hg.1 hg.2.1 (more_bk h hl hf i (by omega)) (acc_at h (by omega)) (hf _ (getD_mem2 (by omega)))
theorem days_ok {b:Bo} (hI:InvB b) (hB:BndB b) (hM:MoreB b):daysOk b:=fun r hr=>by
 have h1:=hM.1 r hr
 have h2:=hB.2.1
 have h3:=hI.1
 unfold dayOk lastC
 split <;> omega
theorem rows_few {b:Bo} (hI:InvB b) (hB:BndB b) (hM:MoreB b):(∀ r ∈ b.2.2.2.2.1,fewE r.1) ∧ b.2.2.2.2.1.length ≤ 50000:=by
 have h2:=hB.2.2.1
 have h3:=hB.1
 exact ⟨hM.2.2,by omega⟩
theorem okD_take {s:Sc} {l:List Ev} (hs:chkS s = 0) (hl:l.length ≤ 20) (n:Nat):(chkS s = 0 → namesOk s) ∧ (l.take n).length ≤ 20:=⟨fun _=>chk_names hs,by rw [List.length_take]; omega⟩
end Go.PL
namespace Go.PL
open Go.AM
set_option linter.unusedVariables false
def phi (id:Int) (v:List Int) (a:List At) (r:Rw):Rw:=if r.1.1 = id then ((r.1.1,r.1.2.1,r.1.2.2.1,r.1.2.2.2.1,r.1.2.2.2.2.1,r.1.2.2.2.2.2.1,r.1.2.2.2.2.2.2.1,v,a,()),r.2) else r
def phiB (id:Int) (v:List Int) (a:List At) (b:Bo):Bo:=(b.1,b.2.1,b.2.2.1,b.2.2.2.1,b.2.2.2.2.1.map (phi id v a),())
section
variable {id:Int} {v:List Int} {a:List At}
theorem phi_no {r:Rw} (h:r.1.1 ≠ id):phi id v a r = r:=if_neg h
theorem phi_id (r:Rw):(phi id v a r).1.1 = r.1.1:=by unfold phi; split <;> rfl
theorem phi_died (r:Rw):(phi id v a r).2 = r.2:=by unfold phi; split <;> rfl
theorem phi_from (r:Rw):fromR (phi id v a r) = fromR r:=by unfold phi; split <;> rfl
theorem phi_ver (r:Rw):(phi id v a r).1.2.1 = r.1.2.1:=by unfold phi; split <;> rfl
theorem map_self {f:Rw → Rw} {l:List Rw} (h:∀ r ∈ l,f r = r):l.map f = l:=by
 induction l with
 | nil=>rfl
 | cons r l ih=>rw [List.map_cons,h r List.mem_cons_self,ih fun x hx=>h x (List.mem_cons_of_mem _ hx)]
theorem filt_phi {p:Rw → Bool} {l:List Rw} (h:∀ r ∈ l,p (phi id v a r) = p r):(l.map (phi id v a)).filter p = (l.filter p).map (phi id v a):=by
 rw [List.filter_map]
 congr 1
 exact List.filter_congr fun r hr=>h r hr
theorem live_phi {id':Int} (hne:id' ≠ id) (l:List Rw):liveF id' (l.map (phi id v a)) = liveF id' l:=by
 unfold liveF
 rw [filt_phi fun r _=>by rw [phi_id,phi_died]]
 apply map_self
 intro r hr
 have:=(List.mem_filter.1 hr).2
 rw [Bool.and_eq_true,decide_eq_true_eq] at this
 exact phi_no (by rw [this.1]; exact hne)
theorem ver_phi (id':Int) (l:List Rw):verF id' (l.map (phi id v a)) = verF id' l:=by
 unfold verF
 rw [List.foldl_map]
 congr 1
 funext n r
 rw [phi_id,phi_ver]
theorem has_phi (id':Int) (l:List Rw):hasF id' (l.map (phi id v a)) = hasF id' l:=by
 unfold hasF
 rw [List.any_map]
 congr 1
 funext r
 show decide ((phi id v a r).1.1 = id') = _
 rw [phi_id]
theorem die_phi {id' cm:Int} (hne:id' ≠ id) (dy:Dys) (r:Rw):dieD id' cm dy (phi id v a r) = phi id v a (dieD id' cm dy r):=by
 by_cases h:r.1.1 = id
 ·have h1:dieD id' cm dy r = r:=if_neg fun g=>by
   have:=(liveB_iff.1 (Bool.and_eq_true _ _ ▸ g).1).1
   exact hne (this.symm.trans h)
  have h2:dieD id' cm dy (phi id v a r) = phi id v a r:=if_neg fun g=>by
   have:=(liveB_iff.1 (Bool.and_eq_true _ _ ▸ g).1).1
   rw [phi_id] at this
   exact hne (this.symm.trans h)
  rw [h1,h2]
 ·rw [phi_no h]
  refine (phi_no ?_).symm
  unfold dieD
  split <;> exact h
theorem add_phi {id' cm:Int} (hne:id' ≠ id) (dy:Dys) (l:List Rw):addD id' cm dy (l.map (phi id v a)) = addD id' cm dy l:=by
 unfold addD
 have key:∀ r:Rw,(liveB id' (phi id v a r) && (mvB dy (phi id v a r) && ltB dy (phi id v a r))) = (liveB id' r && (mvB dy r && ltB dy r)):=by
  intro r
  by_cases h:r.1.1 = id
  ·have h1:liveB id' r = false:=by
    unfold liveB
    rw [decide_eq_false (fun g=>hne (g.symm.trans h)),Bool.false_and]
   have h2:liveB id' (phi id v a r) = false:=by
    unfold liveB
    rw [phi_id,decide_eq_false (fun g=>hne (g.symm.trans h)),Bool.false_and]
   rw [h1,h2,Bool.false_and,Bool.false_and]
  ·rw [phi_no h]
 rw [filt_phi fun r _=>key r]
 congr 1
 apply map_self
 intro r hr
 have:=(liveB_iff.1 (Bool.and_eq_true _ _ ▸ (List.mem_filter.1 hr).2).1).1
 exact phi_no (by rw [this]; exact hne)
theorem phi_added {b:Bo} {e:Ev} (hne:e.2.2.2.1 ≠ id) {dy:Dys} {mo:List Rw} (hmo:∀ x ∈ mo,x.1.1 = e.2.2.2.1):(addedD b e dy mo).map (phi id v a) = addedD b e dy mo:=by
 apply map_self
 intro r hr
 unfold addedD at hr
 obtain ⟨x,hx,w,ex,_⟩:=mem_numb hr
 apply phi_no
 subst ex
 rcases List.mem_append.1 hx with g | g
 ·obtain ⟨y,hy,ey⟩:=List.mem_map.1 ((isortR_perm _).mem_iff.1 g)
  have:=(liveB_iff.1 (Bool.and_eq_true _ _ ▸ (List.mem_filter.1 hy).2).1).1
  subst ey
  exact fun z=>hne (this.symm.trans z)
 ·exact fun z=>hne ((hmo x g).symm.trans z)
theorem fin_phi (p:Bool) (f:Int) (b:Bo) (e:Ev) {rows added:List Rw} (ha:added.map (phi id v a) = added):finD p f (phiB id v a b) e (rows.map (phi id v a)) added = (phiB id v a (finD p f b e rows added).1,(finD p f b e rows added).2.1,()):=by
 unfold finD
 rw [List.length_map]
 by_cases h1:p = true ∧ f ≠ 0
 ·rw [if_pos h1,if_pos h1]
 rw [if_neg h1,if_neg h1]
 by_cases h2:65536 < rows.length + added.length
 ·rw [if_pos h2,if_pos h2]
 rw [if_neg h2,if_neg h2]
 show _ = ((b.1,e.2.1,e.2.2.1,b.2.2.2.1 ++ [e.2.2.1],(rows ++ added).map (phi id v a),()),0,())
 rw [List.map_append,ha]
 rfl
theorem make_phi (b:Bo) {e:Ev} (hne:e.2.2.2.1 ≠ id) (dy:Dys) {mo:List Rw} (hmo:∀ x ∈ mo,x.1.1 = e.2.2.2.1):makeD (phiB id v a b) e dy mo = (phiB id v a (makeD b e dy mo).1,(makeD b e dy mo).2.1,()):=by
 have hX:addedD (phiB id v a b) e dy mo = addedD b e dy mo:=by
  unfold addedD
  show numb (verF e.2.2.2.1 (b.2.2.2.2.1.map (phi id v a)) + 1) (isortR (addD e.2.2.2.1 e.2.1 dy (b.2.2.2.2.1.map (phi id v a))) ++ mo) = _
  rw [ver_phi,add_phi hne]
 have hR:(b.2.2.2.2.1.map (phi id v a)).map (dieD e.2.2.2.1 e.2.1 dy) = (b.2.2.2.2.1.map (dieD e.2.2.2.1 e.2.1 dy)).map (phi id v a):=by
  rw [List.map_map,List.map_map]
  exact List.map_congr_left fun r _=>die_phi hne dy r
 unfold makeD
 rw [hX]
 show finD _ _ _ _ ((b.2.2.2.2.1.map (phi id v a)).map (dieD e.2.2.2.1 e.2.1 dy)) _ = _
 rw [hR]
 exact fin_phi _ _ b e (phi_added hne hmo)
theorem turn_phi (b:Bo) (e:Ev):makeD (phiB id v a b) e idDy [] = (phiB id v a (makeD b e idDy []).1,(makeD b e idDy []).2.1,()):=by
 have hX:∀ b:Bo,addedD b e idDy [] = []:=fun b=>by
  unfold addedD
  rw [add_id]
  rfl
 unfold makeD
 rw [hX,hX,die_id,die_id]
 exact fin_phi _ _ b e rfl
theorem apply_phi (b:Bo) {e:Ev} (hne:e.2.2.2.1 ≠ id):applyD (phiB id v a b) e = (phiB id v a (applyD b e).1,(applyD b e).2.1,()):=by
 have hl:liveS (phiB id v a b) e.2.2.2.1 = liveS b e.2.2.2.1:=by
  unfold liveS
  show isortR (liveF e.2.2.2.1 (b.2.2.2.2.1.map (phi id v a))) = _
  rw [live_phi hne]
 have hh:hasF e.2.2.2.1 (phiB id v a b).2.2.2.2.1 = hasF e.2.2.2.1 b.2.2.2.2.1:=has_phi _ _
 unfold applyD
 rw [hl,hh]
 by_cases h0:e.2.1 ≠ b.2.1 + 1 ∨ 1073741824 < e.2.1 ∨ e.2.2.1 < b.2.2.1 ∨ 1048576 < e.2.2.1
 ·rw [if_pos (show e.2.1 ≠ (phiB id v a b).2.1 + 1 ∨ 1073741824 < e.2.1 ∨ e.2.2.1 < (phiB id v a b).2.2.1 ∨ 1048576 < e.2.2.1 from h0),if_pos h0]
 rw [if_neg (show ¬ (e.2.1 ≠ (phiB id v a b).2.1 + 1 ∨ 1073741824 < e.2.1 ∨ e.2.2.1 < (phiB id v a b).2.2.1 ∨ 1048576 < e.2.2.1) from h0),if_neg h0]
 by_cases hk:e.1 < 1 ∨ 6 ≤ e.1
 ·rw [if_pos hk,if_pos hk]
 rw [if_neg hk,if_neg hk]
 dsimp only
 by_cases hz:(liveS b e.2.2.2.1).length = 0 ∧ e.1 ≠ 1 ∧ e.1 ≠ 5
 ·rw [if_pos hz,if_pos hz]
 rw [if_neg hz,if_neg hz]
 by_cases k1:e.1 = 1
 ·rw [if_pos k1,if_pos k1]
  by_cases hx:hasF e.2.2.2.1 b.2.2.2.2.1 = true
  ·rw [if_pos hx,if_pos hx]
  rw [if_neg hx,if_neg hx]
  exact make_phi b hne _ fun x hx=>by rw [List.mem_singleton.1 hx]; rfl
 rw [if_neg k1,if_neg k1]
 by_cases k2:e.1 = 2
 ·rw [if_pos k2,if_pos k2]
  split
  ·rfl
  ·exact make_phi b hne _ fun x hx=>by rw [List.mem_singleton.1 hx]; exact (mem_liveS.1 (live_ne (by omega))).2.1
 rw [if_neg k2,if_neg k2]
 by_cases k3:e.1 = 3
 ·rw [if_pos k3,if_pos k3]
  split
  ·rfl
  ·exact make_phi b hne _ fun x hx=>absurd hx List.not_mem_nil
 rw [if_neg k3,if_neg k3]
 by_cases k4:e.1 = 4
 ·rw [if_pos k4,if_pos k4]
  split
  ·rfl
  ·split
   ·rfl
   ·exact make_phi b hne _ fun x hx=>absurd hx List.not_mem_nil
 rw [if_neg k4,if_neg k4]
 exact turn_phi b e
theorem apply_phi5 (b:Bo) {e:Ev} (h5:e.1 = 5):applyD (phiB id v a b) e = (phiB id v a (applyD b e).1,(applyD b e).2.1,()):=by
 by_cases h0:badT b e
 ·have h0':badT (phiB id v a b) e:=h0
  rw [ap_time h0,ap_time h0']
 ·have h0':¬ badT (phiB id v a b) e:=h0
  rw [ap_5 h0 h5,ap_5 h0' h5]
  exact turn_phi b e
end
def IdOk (id u:Int) (b:Bo):Prop:=∀ r ∈ b.2.2.2.2.1,r.1.1 = id → r.2.1 = 0 ∧ fromR r = u
theorem idOk_step {id u:Int} {b:Bo} (hI:InvB b) (h:IdOk id u b) {e:Ev} (he:(applyD b e).2.1 = 0) (hne:e.2.2.2.1 = id → e.1 = 5):IdOk id u (applyD b e).1:=by
 obtain ⟨hc,hd,_,dy,mo,hE,_,hmo,_,h5⟩:=apply_ok hI he
 rw [hE] at he ⊢
 rw [make_sc he]
 by_cases hid:e.2.2.2.1 = id
 ·obtain ⟨rfl,rfl⟩:=h5 (hne hid)
  intro r hr
  have hr:r ∈ b.2.2.2.2.1.map (dieD e.2.2.2.1 e.2.1 idDy) ++ addedD b e idDy []:=hr
  rw [die_id] at hr
  unfold addedD at hr
  rw [add_id,show isortR [] ++ ([]:List Rw) = [] from rfl,show numb (verF e.2.2.2.1 b.2.2.2.2.1 + 1) [] = [] from rfl,List.append_nil] at hr
  exact h r hr
 ·intro r hr hr1
  rcases List.mem_append.1 (show r ∈ b.2.2.2.2.1.map (dieD e.2.2.2.1 e.2.1 dy) ++ addedD b e dy mo from hr) with g | g
  ·obtain ⟨x,hx,ex⟩:=List.mem_map.1 g
   unfold dieD at ex
   split at ex
   ·rename_i q
    have:=(liveB_iff.1 (Bool.and_eq_true _ _ ▸ q).1).1
    rw [← ex] at hr1
    exact absurd (this.symm.trans hr1) hid
   ·rw [← ex] at hr1 ⊢
    exact h x hx hr1
  ·unfold addedD at g
   obtain ⟨y,hy,w,ey,_⟩:=mem_numb g
   subst ey
   rcases List.mem_append.1 hy with q | q
   ·obtain ⟨x,hx,ex⟩:=List.mem_map.1 ((isortR_perm _).mem_iff.1 q)
    have:=(liveB_iff.1 (Bool.and_eq_true _ _ ▸ (List.mem_filter.1 hx).2).1).1
    subst ex
    exact absurd (this.symm.trans hr1) hid
   ·rcases hmo with z | ⟨m,z,m1,_⟩
    ·rw [z] at q; cases q
    ·rw [z,List.mem_singleton] at q
     subst q
     exact absurd (m1.symm.trans hr1) hid
theorem id_keep {b:Bo} {e:Ev} (he:(applyD b e).2.1 = 0) {x:Rw} (hx:x ∈ b.2.2.2.2.1):∃ y ∈ (applyD b e).1.2.2.2.2.1,y.1.1 = x.1.1:=by
 obtain ⟨dy,mo,hE,_⟩:=apply_src he
 rw [hE] at he ⊢
 rw [make_sc he]
 refine ⟨dieD e.2.2.2.1 e.2.1 dy x,List.mem_append_left _ (List.mem_map.2 ⟨x,hx,rfl⟩),?_⟩
 unfold dieD
 split <;> rfl
end Go.PL
namespace Go.PL
open Go.AM
set_option linter.unusedVariables false
def altE (e:Ev) (v:List Int) (a:List At):Ev:=(e.1,e.2.1,e.2.2.1,e.2.2.2.1,e.2.2.2.2.1,e.2.2.2.2.2.1,e.2.2.2.2.2.2.1,v,a,e.2.2.2.2.2.2.2.2.2)
def altL (l:List Ev) (k:Nat) (v:List Int) (a:List At):List Ev:=l.set k (altE (l.getD k dEv) v a)
theorem set_get {l:List Ev} {k:Nat} {x:Ev} (h:k < l.length):(l.set k x).getD k dEv = x:=by
 rw [List.getD_eq_getElem?_getD,List.getElem?_set_self h]
 rfl
theorem set_get' {l:List Ev} {k j:Nat} {x:Ev} (h:j ≠ k):(l.set k x).getD j dEv = l.getD j dEv:=by
 rw [List.getD_eq_getElem?_getD,List.getElem?_set_ne (fun g=>h g.symm),List.getD_eq_getElem?_getD]
theorem alt_len (l:List Ev) (k:Nat) (v:List Int) (a:List At):(altL l k v a).length = l.length:=List.length_set
section
variable {s:Sc} {l:List Ev} {k:Nat} {v:List Int} {a:List At}
theorem bk_low (hk:k < l.length):∀ i:Nat,i ≤ k → bk s (altL l k v a) i = bk s l i
 | 0,_=>rfl
 | i + 1,hi=>by
  rw [bk_succ s l (by omega),bk_succ s _ (by rw [alt_len]; omega),bk_low hk i (by omega)]
  unfold altL
  rw [set_get' (by omega)]
theorem no_ids (h:accB l (newB s)) (hl:l.length ≤ 20) (hk:k < l.length) (h1:(l.getD k dEv).1 = 1):∀ r ∈ (bk s l k).2.2.2.2.1,r.1.1 ≠ (l.getD k dEv).2.2.2.1:=by
 obtain ⟨_,_,_,dy,mo,_,_,_,h1',_⟩:=apply_ok (good_bk h hl k (by omega)).1 (acc_at h hk)
 have:=(h1' h1).1
 intro r hr g
 exact this (List.any_eq_true.2 ⟨r,hr,decide_eq_true g⟩)
theorem no_ids_low (h:accB l (newB s)) (hl:l.length ≤ 20) (hk:k < l.length) (h1:(l.getD k dEv).1 = 1):∀ (j i:Nat),i + j = k → ∀ r ∈ (bk s l i).2.2.2.2.1,r.1.1 ≠ (l.getD k dEv).2.2.2.1
 | 0,i,hi=>by
  rw [show i = k by omega]
  exact no_ids h hl hk h1
 | j + 1,i,hi=>fun r hr g=>by
  obtain ⟨y,hy,e⟩:=id_keep (acc_at h (show i < l.length by omega)) hr
  rw [← bk_succ s l (by omega)] at hy
  exact no_ids_low h hl hk h1 j (i + 1) (by omega) y hy (e.trans g)
theorem added_one (b:Bo) (e:Ev) (m:En):addedD b e idDy [(m,0,())] = [setVer (verF e.2.2.2.1 b.2.2.2.2.1 + 1) (m,0,())]:=by
 unfold addedD
 rw [add_id]
 rfl
theorem bk_file (h:accB l (newB s)) (h':accB (altL l k v a) (newB s)) (hl:l.length ≤ 20) (hk:k < l.length) (h1:(l.getD k dEv).1 = 1) :
 bk s (altL l k v a) (k + 1) = phiB (l.getD k dEv).2.2.2.1 v a (bk s l (k + 1)) ∧ IdOk (l.getD k dEv).2.2.2.1 (l.getD k dEv).2.2.2.2.2.1 (bk s l (k + 1)):=by
 have hno:=no_ids h hl hk h1
 have hg:=(good_bk h hl k (by omega)).1
 have hA:=acc_at h hk
 have hA':=acc_at h' (show k < (altL l k v a).length by rw [alt_len]; exact hk)
 have hG':(altL l k v a).getD k dEv = altE (l.getD k dEv) v a:=set_get hk
 rw [bk_succ s l hk,bk_succ s _ (show k < (altL l k v a).length by rw [alt_len]; exact hk)]
 rw [hG',bk_low hk k (Nat.le_refl k)] at hA' ⊢
 generalize bk s l k = b at *
 generalize l.getD k dEv = e at *
 obtain ⟨_,_,_,dy,mo,hE,_,_,q,_⟩:=apply_ok hg hA
 obtain ⟨_,rfl,rfl⟩:=q h1
 obtain ⟨_,_,_,dy',mo',hE',_,_,q',_⟩:=apply_ok hg hA'
 obtain ⟨_,rfl,rfl⟩:=q' h1
 rw [hE] at hA ⊢
 rw [hE'] at hA' ⊢
 rw [make_sc hA,make_sc hA',added_one,added_one,die_id,die_id]
 constructor
 ·unfold phiB
  show (b.1,e.2.1,e.2.2.1,b.2.2.2.1 ++ [e.2.2.1],b.2.2.2.2.1 ++ [setVer (verF e.2.2.2.1 b.2.2.2.2.1 + 1) (newEn (altE e v a) 0,0,())],()) = (b.1,e.2.1,e.2.2.1,b.2.2.2.1 ++ [e.2.2.1],(b.2.2.2.2.1 ++ [setVer (verF e.2.2.2.1 b.2.2.2.2.1 + 1) (newEn e 0,0,())]).map (phi e.2.2.2.1 v a),())
  rw [List.map_append,map_self fun r hr=>phi_no (hno r hr),List.map_cons,List.map_nil,show phi e.2.2.2.1 v a (setVer (verF e.2.2.2.1 b.2.2.2.2.1 + 1) (newEn e 0,0,())) = setVer (verF e.2.2.2.1 b.2.2.2.2.1 + 1) (newEn (altE e v a) 0,0,()) from if_pos rfl]
 ·intro r hr g
  rcases List.mem_append.1 (show r ∈ b.2.2.2.2.1 ++ [setVer (verF e.2.2.2.1 b.2.2.2.2.1 + 1) (newEn e 0,0,())] from hr) with z | z
  ·exact absurd g (hno r z)
  ·rw [List.mem_singleton.1 z]
   exact ⟨rfl,rfl⟩
theorem bk_high (h:accB l (newB s)) (h':accB (altL l k v a) (newB s)) (hl:l.length ≤ 20) (hk:k < l.length) (h1:(l.getD k dEv).1 = 1)
 (hm:∀ j:Nat,k < j → j < l.length → (l.getD j dEv).2.2.2.1 = (l.getD k dEv).2.2.2.1 → (l.getD j dEv).1 = 5):∀ j:Nat,k + 1 + j ≤ l.length →
 bk s (altL l k v a) (k + 1 + j) = phiB (l.getD k dEv).2.2.2.1 v a (bk s l (k + 1 + j)) ∧ IdOk (l.getD k dEv).2.2.2.1 (l.getD k dEv).2.2.2.2.2.1 (bk s l (k + 1 + j))
 | 0,_=>bk_file h h' hl hk h1
 | j + 1,hj=>by
  obtain ⟨ih1,ih2⟩:=bk_high h h' hl hk h1 hm j (by omega)
  have hlt:k + 1 + j < l.length:=by omega
  have hA:=acc_at h hlt
  have hg:=(good_bk h hl (k + 1 + j) (by omega)).1
  have hmm:=hm (k + 1 + j) (by omega) hlt
  show bk s (altL l k v a) (k + 1 + j + 1) = phiB _ v a (bk s l (k + 1 + j + 1)) ∧ IdOk _ _ (bk s l (k + 1 + j + 1))
  rw [bk_succ s l hlt,bk_succ s _ (show k + 1 + j < (altL l k v a).length by rw [alt_len]; exact hlt),ih1,show (altL l k v a).getD (k + 1 + j) dEv = l.getD (k + 1 + j) dEv from set_get' (by omega)]
  refine ⟨?_,idOk_step hg ih2 hA hmm⟩
  by_cases hid:(l.getD (k + 1 + j) dEv).2.2.2.1 = (l.getD k dEv).2.2.2.1
  ·rw [apply_phi5 _ (hmm hid)]
  ·rw [apply_phi _ hid]
theorem bk_rel (h:accB l (newB s)) (h':accB (altL l k v a) (newB s)) (hl:l.length ≤ 20) (hk:k < l.length) (h1:(l.getD k dEv).1 = 1)
 (hm:∀ j:Nat,k < j → j < l.length → (l.getD j dEv).2.2.2.1 = (l.getD k dEv).2.2.2.1 → (l.getD j dEv).1 = 5) {i:Nat} (hi:i ≤ l.length) :
 bk s (altL l k v a) i = phiB (l.getD k dEv).2.2.2.1 v a (bk s l i) ∧ IdOk (l.getD k dEv).2.2.2.1 (l.getD k dEv).2.2.2.2.2.1 (bk s l i):=by
 by_cases hik:i ≤ k
 ·have hno:=no_ids_low h hl hk h1 (k - i) i (by omega)
  rw [bk_low hk i hik]
  refine ⟨?_,fun r hr g=>absurd g (hno r hr)⟩
  unfold phiB
  rw [map_self fun r hr=>phi_no (hno r hr)]
 ·have:=bk_high h h' hl hk h1 hm (i - (k + 1)) (by omega)
  rw [show k + 1 + (i - (k + 1)) = i by omega] at this
  exact this
theorem day_step (h:accB l (newB s)) (hl:l.length ≤ 20) {i:Nat} (hi:i < l.length):(bk s l i).2.2.1 ≤ (bk s l (i + 1)).2.2.1 ∧ (bk s l (i + 1)).2.2.1 = (l.getD i dEv).2.2.1:=by
 have hA:=acc_at h hi
 obtain ⟨_,hd,_,dy,mo,hE,_⟩:=apply_ok (good_bk h hl i (by omega)).1 hA
 rw [bk_succ s l hi]
 rw [hE] at hA ⊢
 rw [make_sc hA]
 exact ⟨hd,rfl⟩
theorem day_last (h:accB l (newB s)) (hl:l.length ≤ 20):∀ (j i:Nat),i + j = l.length → (bk s l i).2.2.1 ≤ (bk s l l.length).2.2.1
 | 0,i,hi=>by
  rw [show i = l.length by omega]
  exact Int.le_refl _
 | j + 1,i,hi=>Int.le_trans (day_step h hl (by omega)).1 (day_last h hl j (i + 1) (by omega))
end
section
variable {id u:Int} {v:List Int} {a:List At} {b:Bo}
theorem pub_phi (r:Rw):pubS (phiB id v a b) (phi id v a r) = pubS b r:=by
 unfold pubS lastC
 rw [phi_from,phi_died]
 rfl
theorem id_hidden (hM:MoreB b) (hId:IdOk id u b) (h0:0 ≤ b.2.1) (hz:b.2.1 = 0 → b.2.2.2.2.1 = []) (hu:b.2.2.1 < u) {r:Rw} (hr:r ∈ b.2.2.2.2.1) (hp:pubS b r = true):r.1.1 ≠ id:=by
 intro g
 obtain ⟨d0,f0⟩:=hId r hr g
 have hc:b.2.1 ≠ 0:=fun z=>by rw [hz z] at hr; cases hr
 have hl:lastC b r = b.2.1:=if_neg (by omega)
 have hd:dayOfS b b.2.1 = b.2.2.1:=(if_neg hc).trans (hM.2.1 (by omega))
 have hp:fromR r ≤ dayOfS b (lastC b r):=of_decide_eq_true hp
 rw [hl,hd] at hp
 omega
theorem pubL_phi (hh:∀ r ∈ b.2.2.2.2.1,pubS b r = true → r.1.1 ≠ id):pubL (phiB id v a b) = pubL b:=by
 unfold pubL
 show (b.2.2.2.2.1.map (phi id v a)).filter (pubS (phiB id v a b)) = _
 rw [List.filter_map]
 have:(pubS (phiB id v a b)) ∘ (phi id v a) = pubS b:=by
  funext r
  exact pub_phi r
 rw [this]
 apply map_self
 intro r hr
 have hr:=List.mem_filter.1 hr
 exact phi_no (hh r hr.1 hr.2)
theorem vltL_phi:vltL (phiB id v a b) = (vltL b).map (phi id v a):=by
 unfold vltL restL
 show ((b.2.2.2.2.1.map (phi id v a)).filter (fun r=>!pubS (phiB id v a b) r)).filter isLive = _
 rw [List.filter_map,List.filter_map]
 congr 1
 have e1:(fun r=>!pubS (phiB id v a b) r) ∘ (phi id v a) = fun r=>!pubS b r:=by
  funext r
  show (!pubS (phiB id v a b) (phi id v a r)) = _
  rw [pub_phi]
 have e2:isLive ∘ (phi id v a) = isLive:=by
  funext r
  show decide ((phi id v a r).2.1 = 0) = _
  rw [phi_died]
  rfl
 rw [e1,e2]
theorem filN_ki {id':Int}:∀ {l m:List Ev} {k:Int},(l.map fun e=>(e.1,e.2.2.2.1)) = (m.map fun e=>(e.1,e.2.2.2.1)) → filN id' l k = filN id' m k
 | [],[],_,_=>rfl
 | [],_ :: _,_,h=>by cases h
 | _ :: _,[],_,h=>by cases h
 | e :: l,f :: m,k,h=>by
  injection h with h1 h2
  injection h1 with h3 h4
  show (if e.1 = 1 ∧ e.2.2.2.1 = id' then k else filN id' l (k + 1)) = (if f.1 = 1 ∧ f.2.2.2.1 = id' then k else filN id' m (k + 1))
  have h3:e.1 = f.1:=h3
  have h4:e.2.2.2.1 = f.2.2.2.1:=h4
  rw [h3,h4,filN_ki h2]
theorem alt_ki {l:List Ev} {k:Nat} (hk:k < l.length) (i:Nat):(((altL l k v a).take i).map fun e:Ev=>(e.1,e.2.2.2.1)) = ((l.take i).map fun e:Ev=>(e.1,e.2.2.2.1)):=by
 rw [List.map_take,List.map_take]
 congr 1
 unfold altL
 rw [List.map_set]
 apply List.ext_getElem?
 intro j
 rw [List.getElem?_set]
 split
 ·rename_i e
  subst e
  rw [List.length_map,if_pos hk,List.getElem?_map,List.getElem?_eq_getElem hk,List.getD_eq_getElem?_getD,List.getElem?_eq_getElem hk]
  rfl
 ·rfl
theorem vltU_phi {l m:List Ev} (hki:(m.map fun e:Ev=>(e.1,e.2.2.2.1)) = (l.map fun e:Ev=>(e.1,e.2.2.2.1))):(vltU m (phiB id v a b)).length = (vltU l b).length:=by
 unfold vltU
 rw [vltL_phi]
 induction vltL b with
 | nil=>rfl
 | cons r L ih =>
  rw [List.map_cons,List.flatMap_cons,List.flatMap_cons,List.length_append,List.length_append,ih]
  congr 1
  unfold vltD
  rw [phi_id,filN_ki hki]
  by_cases hf:filN r.1.1 l 0 < 0
  ·rw [if_pos hf,if_pos hf]
  ·rw [if_neg hf,if_neg hf,List.length_singleton,List.length_singleton]
theorem forget_phi (hId:IdOk id u b) (n:Int):(forgetS (phiB id v a b) n).2 = (forgetS b n).2:=by
 have hg:goneL (phiB id v a b) n = goneL b n:=by
  unfold goneL
  show (b.2.2.2.2.1.map (phi id v a)).filter (forgB (b.2.2.2.2.1.map (phi id v a)) n) = _
  rw [List.filter_map]
  have e1:(forgB (b.2.2.2.2.1.map (phi id v a)) n) ∘ (phi id v a) = forgB b.2.2.2.2.1 n:=by
   funext r
   show forgB (b.2.2.2.2.1.map (phi id v a)) n (phi id v a r) = _
   unfold forgB
   rw [phi_died,phi_ver,phi_id,ver_phi]
  rw [e1]
  apply map_self
  intro r hr
  have hr:=List.mem_filter.1 hr
  refine phi_no fun g=>?_
  have h1:=(hId r hr.1 g).1
  have h2:=(Bool.and_eq_true _ _ ▸ hr.2).1
  have h2:1 ≤ r.2.1:=of_decide_eq_true h2
  omega
 unfold forgetS
 rw [hg]
 by_cases h:n < 0 ∨ b.2.1 < n
 ·rw [if_pos (show n < 0 ∨ (phiB id v a b).2.1 < n from h),if_pos h]
 ·rw [if_neg (show ¬ (n < 0 ∨ (phiB id v a b).2.1 < n) from h),if_neg h]
theorem forget_ok {n:Int} (h0:0 ≤ n) (h1:n ≤ b.2.1):(forgetS b n).2.2 = 0:=by
 unfold forgetS
 rw [if_neg (by omega)]
end
theorem same_self (p:List Rw):sameRB p p = true:=sameRB_iff.2 ⟨rfl,fun j hj=>⟨rfl,rfl⟩⟩
end Go.PL
namespace Go.PL
open Go.AM
set_option linter.unusedVariables false
theorem i64_wrap {x:Int} (h0:-9223372036854775808 ≤ x) (h1:x ≤ 9223372036854775807):IntKind.i64.wrap x = x:=by
 have e:IntKind.i64.wrap x = if x % 18446744073709551616 ≥ 9223372036854775808 then x % 18446744073709551616 - 18446744073709551616 else x % 18446744073709551616:=by
  unfold IntKind.wrap
  simp [IntKind.signed,IntKind.bits]
 rw [e]
 split <;> omega
def vecE (e:Ev) (v:List Int):Ev:=(e.1,e.2.1,e.2.2.1,e.2.2.2.1,e.2.2.2.2.1,e.2.2.2.2.2.1,e.2.2.2.2.2.2.1,v,e.2.2.2.2.2.2.2.2)
def attE (e:Ev) (a:List At):Ev:=(e.1,e.2.1,e.2.2.1,e.2.2.2.1,e.2.2.2.2.1,e.2.2.2.2.2.1,e.2.2.2.2.2.2.1,e.2.2.2.2.2.2.2.1,a,e.2.2.2.2.2.2.2.2.2)
theorem m2_eq {l:List Ev} {k:Nat} (h:k < l.length) (v:List Int) (a:List At):(l.set k (vecE (l.getD k dEv) v)).set k (attE ((l.set k (vecE (l.getD k dEv) v)).getD k dEv) a) = altL l k v a:=by
 rw [set_get h,List.set_set]
 rfl
theorem face_t {A B:Fa} (h:A = B):(decide (A.1 = B.1) && (decide (A.2.1 = B.2.1) && (decide (A.2.2.1 = B.2.2.1) && (decide (A.2.2.2.1 = B.2.2.2.1) && (decide (A.2.2.2.2.1 = B.2.2.2.2.1) && (decide (A.2.2.2.2.2.1 = B.2.2.2.2.2.1) && (decide (A.2.2.2.2.2.2.1 = B.2.2.2.2.2.2.1) && (decide (A.2.2.2.2.2.2.2.1 = B.2.2.2.2.2.2.2.1) && true)))))))) = true:=by
 subst h
 simp
theorem face_k {A B:Fa} (h1:A.1 = B.1) (h2:A.2.1 = B.2.1) (h3:A.2.2.1 = B.2.2.1) (h4:A.2.2.2.1 = B.2.2.2.1) (h5:A.2.2.2.2.1 = B.2.2.2.2.1) (h6:A.2.2.2.2.2.1 = B.2.2.2.2.2.1) (h7:A.2.2.2.2.2.2.1 = B.2.2.2.2.2.2.1) :
 (decide (A.1 = B.1) && (decide (A.2.1 = B.2.1) && (decide (A.2.2.1 = B.2.2.1) && (decide (A.2.2.2.1 = B.2.2.2.1) && (decide (A.2.2.2.2.1 = B.2.2.2.2.1) && (decide (A.2.2.2.2.2.1 = B.2.2.2.2.2.1) && (decide (A.2.2.2.2.2.2.1 = B.2.2.2.2.2.2.1) && (decide (B.2.2.2.2.2.2.2.1 = B.2.2.2.2.2.2.2.1) && true)))))))) = true:=by
 rw [h1,h2,h3,h4,h5,h6,h7]
 simp
theorem gone_t {A B:Gn} (h:A = B):(decide (A.1 = B.1) && (decide (A.2.1 = B.2.1) && (decide (A.2.2.1 = B.2.2.1) && (decide (A.2.2.2.1 = B.2.2.2.1) && (decide (A.2.2.2.2.1 = B.2.2.2.2.1) && true))))) = true:=by
 subst h
 simp
theorem fewV_of {e:Ev} (h:fewEB (evE e) = true):fewV e:=fewE_of h
theorem not_t {b:Bool} (h:b = true) (h':(!b) = true):False:=by rw [h] at h'; cases h'
end Go.PL
namespace Go.Proofs.YtcnpblceamgfcaaGreatDoor
open Go.AM Go.PL
set_option linter.unusedVariables false
attribute [local irreducible] fnwp fnwpG fnwpO hof
theorem BZ0_sound:SpecSound BZ0:=mkctx_sound ⟨sat_fine,sat_awake,sat_face,sat_foldD,sat_split,sat_sameR,sat_vault,sat_forget,trivial⟩ trivial
theorem sat_law1:Sat bs.P 3 law1Sp:=fnwp_sat BZ0_sound 8 _ law1Sp fun (⟨⟨d,m,dl,⟨⟩⟩,l,w,v,a,fl⟩:Sc × List Ev × Int × List Int × List At × Int) hok _=>by
 have hw:0 ≤ w ∧ w ≤ 255:=hok.2.2.1
 have hfl:0 ≤ fl ∧ fl ≤ 255:=hok.2.2.2.2.2
 rw [law1_nf]; delta law1_nf_t0 law1_nf_t1 law1_nf_t2 law1_nf_e0 law1q1 law1q11 law1q7 law1q0 law1q8 law1q10 law1q2 law1q3 law1q4 law1q5 law1q6 law1q9 law1q12 law1q13 law1q14 IR LP NX SD SP eI ln y0 y16 y33 z0 z1 z40 z5; dsimp only
 have ys:∀ {b:Bool},(!b) = false → b = true:=fun {b} h=>by cases b <;> simp_all
 refine ⟨trivial,fun _=>⟨trivial,rfl⟩,fun c1=>⟨fun _=>⟨trivial,rfl⟩,fun c2=>⟨fun _=>⟨trivial,rfl⟩,fun c3=>?_⟩⟩⟩
 obtain ⟨hs,hl20,hfew,hacc⟩:=fine_acc (ys c1)
 have hlp:0 < l.length:=by have:=df c2; omega
 have hK0:0 ≤ (IntKind.i64.wrap w).tmod (l.length:Int):=by
  rw [i64_wrap (by omega) (by omega)]
  exact Int.tmod_nonneg _ hw.1
 have hK1:(IntKind.i64.wrap w).tmod (l.length:Int) < (l.length:Int):=Int.tmod_lt_of_pos _ (by omega)
 rw [i64_wrap (x:=fl) (by omega) (by omega)]
 generalize hK:(IntKind.i64.wrap w).tmod (l.length:Int) = K at *
 have hk:K.toNat < l.length:=by omega
 have hM:=m2_eq hk v a
 simp only [vecE,attE,dEv] at hM
 refine ⟨by omega,roomB 120 (by kernel_rfl) (by omega) (by omega),⟨hK0,hK1⟩,⟨hK0,by rw [List.length_set]; exact hK1⟩,trivial,fun _=>⟨trivial,rfl⟩,fun c4=>⟨⟨hK0,hK1⟩,fun _=>⟨trivial,rfl⟩,fun c5=>⟨⟨hK0,hK1⟩,by unfold isI64; omega,⟨by omega,by omega⟩,fun _=>⟨trivial,rfl⟩,fun c6=>?_⟩⟩⟩
 rw [hM] at c4
 rw [hM]
 clear hM
 obtain ⟨_,_,hfew',hacc'⟩:=fine_acc (ys c4)
 have hk1:(l.getD K.toNat dEv).1 = 1:=ndf c5
 have hu:(l.getD ((l.length:Int) - 1).toNat dEv).2.2.1 < (l.getD K.toNat dEv).2.2.2.2.2.1:=Int.not_le.1 (df c6)
 rw [show ((l.length:Int) - 1).toNat = l.length - 1 by omega] at hu
 have hML:(altL l K.toNat v a).length = l.length:=alt_len _ _ _ _
 have hMk:(altL l K.toNat v a).getD K.toNat dEv = altE (l.getD K.toNat dEv) v a:=set_get hk
 have hMo:∀ j:Nat,j ≠ K.toNat → (altL l K.toNat v a).getD j dEv = l.getD j dEv:=fun j hj=>set_get' hj
 refine ⟨fun x=>0 ≤ x.1 ∧ x.1 ≤ l.length ∧ x.2 = altL l K.toNat v a ∧ ∀ j:Nat,K.toNat < j → (j:Int) < x.1 → (l.getD j dEv).2.2.2.1 = (l.getD K.toNat dEv).2.2.2.1 → (l.getD j dEv).1 = 5,fun x=>(l.length - x.1).toNat,⟨by dsimp only; omega,by dsimp only; omega,rfl,fun j h1 h2=>by dsimp only at h2; omega⟩,?_⟩
 rintro ⟨i,M⟩ ⟨h0,h1,h2,h3⟩
 dsimp only at h0 h1 h2 h3
 subst h2
 dsimp only
 refine ⟨fun h=>?_,fun h=>?_⟩
 ·have h:=dt h
  have hi:isI64 (i + 1):=by unfold isI64; omega
  have hmu:((l.length:Int) - (i + 1)).toNat < ((l.length:Int) - i).toNat:=by omega
  have b0:0 ≤ i + 1:=by omega
  have b1:i + 1 ≤ (l.length:Int):=by omega
  have p:0 ≤ i ∧ i < (l.length:Int):=⟨h0,h⟩
  have pM:0 ≤ i ∧ i < ((altL l K.toNat v a).length:Int):=by rw [hML]; exact p
  have f1:fewV (l.getD i.toNat dEv):=fewV_of (hfew _ (getD_mem2 (by omega)))
  have f2:fewV ((altL l K.toNat v a).getD i.toNat dEv):=fewV_of (hfew' _ (getD_mem2 (by omega)))
  have nx:∀ (hn:K < i → (l.getD i.toNat dEv).2.2.2.1 = (l.getD K.toNat dEv).2.2.2.1 → (l.getD i.toNat dEv).1 = 5),∀ j:Nat,K.toNat < j → (j:Int) < i + 1 → (l.getD j dEv).2.2.2.1 = (l.getD K.toNat dEv).2.2.2.1 → (l.getD j dEv).1 = 5:=fun hn j j1 j2=>by
   by_cases hj:(j:Int) < i
   ·exact h3 j j1 hj
   ·have:j = i.toNat:=by omega
    subst this
    exact hn (by omega)
  have fk:i = K → _:=fun e:i = K=>face_k (A:=faceS (l.getD i.toNat dEv)) (B:=faceS ((altL l K.toNat v a).getD i.toNat dEv)) (by rw [e,hMk]; rfl) (by rw [e,hMk]; rfl) (by rw [e,hMk]; rfl) (by rw [e,hMk]; rfl) (by rw [e,hMk]; rfl) (by rw [e,hMk]; rfl) (by rw [e,hMk]; rfl)
  have fo:i ≠ K → _:=fun e:i ≠ K=>face_t (A:=faceS (l.getD i.toNat dEv)) (B:=faceS ((altL l K.toNat v a).getD i.toNat dEv)) (by rw [hMo i.toNat (by omega)])
  refine ⟨fun q1=>⟨p,⟨hK0,hK1⟩,fun q2=>⟨p,fun _=>⟨trivial,rfl⟩,fun q3=>?_⟩,fun q2=>?_⟩,fun q1=>?_⟩
  ·exact ⟨p,f1,pM,f2,fun q=>⟨fun z=>(not_t (fk (dt q)) z).elim,fun _=>⟨hi,⟨b0,b1,rfl,nx fun _ _=>ndf q3⟩,hmu⟩⟩,fun q=>⟨fun z=>(not_t (fo (df q)) z).elim,fun _=>⟨hi,⟨b0,b1,rfl,nx fun _ _=>ndf q3⟩,hmu⟩⟩⟩
  ·exact ⟨p,f1,pM,f2,fun q=>⟨fun z=>(not_t (fk (dt q)) z).elim,fun _=>⟨hi,⟨b0,b1,rfl,nx fun _ g=>absurd g (df q2)⟩,hmu⟩⟩,fun q=>⟨fun z=>(not_t (fo (df q)) z).elim,fun _=>⟨hi,⟨b0,b1,rfl,nx fun _ g=>absurd g (df q2)⟩,hmu⟩⟩⟩
  ·exact ⟨p,f1,pM,f2,fun q=>⟨fun z=>(not_t (fk (dt q)) z).elim,fun _=>⟨hi,⟨b0,b1,rfl,nx fun g=>absurd g (df q1)⟩,hmu⟩⟩,fun q=>⟨fun z=>(not_t (fo (df q)) z).elim,fun _=>⟨hi,⟨b0,b1,rfl,nx fun g=>absurd g (df q1)⟩,hmu⟩⟩⟩
 have h:=df h
 have hmn:∀ j:Nat,K.toNat < j → j < l.length → (l.getD j dEv).2.2.2.1 = (l.getD K.toNat dEv).2.2.2.1 → (l.getD j dEv).1 = 5:=fun j j1 j2=>h3 j j1 (by omega)
 refine ⟨fun x=>0 ≤ x.1 ∧ x.1 ≤ l.length + 1 ∧ x.2 = altL l K.toNat v a,fun x=>(l.length + 1 - x.1).toNat,⟨by dsimp only; omega,by dsimp only; omega,rfl⟩,?_⟩
 rintro ⟨n,M⟩ ⟨n0,n1,n2⟩
 dsimp only at n0 n1 n2
 subst n2
 dsimp only
 refine ⟨fun hn=>?_,fun _=>⟨trivial,rfl⟩⟩
 have hn:n ≤ (l.length:Int):=dt hn
 simp only [List.drop_zero,Nat.sub_zero]
 rw [foldD_bk hs hacc n.toNat,foldD_bk hs hacc' n.toNat]
 obtain ⟨hrel,hid⟩:=bk_rel hacc hacc' hl20 hk hk1 hmn (show n.toNat ≤ l.length by omega)
 have g1:=good_bk hacc hl20 n.toNat (by omega)
 have m1:=more_bk hacc hl20 hfew n.toNat (by omega)
 have g2:=good_bk hacc' (by omega) n.toNat (by omega)
 have m2:=more_bk hacc' (by omega) hfew' n.toNat (by omega)
 have o1:=okD_take hs hl20 n.toNat
 have o2:=okD_take (l:=altL l K.toNat v a) hs (by omega) n.toNat
 have hday:0 < n → (bk (d,m,dl,()) l n.toNat).2.2.1 < (l.getD K.toNat dEv).2.2.2.2.2.1:=fun _=>by
  have q1:=day_last hacc hl20 (l.length - n.toNat) n.toNat (by omega)
  have q2:=(day_step hacc hl20 (show l.length - 1 < l.length by omega)).2
  rw [show l.length - 1 + 1 = l.length by omega] at q2
  omega
 have hzero:(bk (d,m,dl,()) l n.toNat).2.1 = 0 → (bk (d,m,dl,()) l n.toNat).2.2.2.2.1 = []:=fun z=>by
  have:=g1.2.2.2
  have hz:n.toNat = 0:=by omega
  rw [hz]
  rfl
 have hki:=alt_ki (v:=v) (a:=a) hk n.toNat
 dsimp only
 rw [hrel] at g2 m2 ⊢
 have d1:=days_ok g1.1 g1.2.1 m1
 have d2:=days_ok g2.1 g2.2.1 m2
 have r1:=rows_few g1.1 g1.2.1 m1
 have r2:=rows_few g2.1 g2.2.1 m2
 have hc:=g1.2.2.2
 generalize bk (d,m,dl,()) l n.toNat = b at *
 have hpub:pubL (phiB (l.getD K.toNat dEv).2.2.2.1 v a b) = pubL b:=by
  apply pubL_phi
  intro r hr hp
  by_cases hz:b.2.1 = 0
  ·rw [hzero hz] at hr
   cases hr
  ·exact id_hidden m1 hid g1.1.1 hzero (hday (by omega)) hr hp
 have hvl:(vltL (phiB (l.getD K.toNat dEv).2.2.2.1 v a b)).length = (vltL b).length:=by rw [vltL_phi,List.length_map]
 have hvu:(sortD (vltU ((altL l K.toNat v a).take n.toNat) (phiB (l.getD K.toNat dEv).2.2.2.1 v a b))).length = (sortD (vltU (l.take n.toNat) b)).length:=by
  rw [(sortD_perm _).length_eq,(sortD_perm _).length_eq]
  exact vltU_phi hki
 have f1:fewRs (pubL b):=fun r hr=>r1.1 r (List.mem_filter.1 hr).1
 have bl:(0:Int) ≤ 0 ∧ 0 ≤ n ∧ n ≤ (l.length:Int):=⟨Int.le_refl 0,n0,hn⟩
 have bM:(0:Int) ≤ 0 ∧ 0 ≤ n ∧ n ≤ ((altL l K.toNat v a).length:Int):=by rw [hML]; exact bl
 have hfg:=fun z=>forget_phi (v:=v) (a:=a) hid z
 have hq0:0 ≤ fl.tmod (b.2.1 + 1):=Int.tmod_nonneg _ hfl.1
 have hq1:fl.tmod (b.2.1 + 1) ≤ b.2.1:=by have:=Int.tmod_lt_of_pos fl (show 0 < b.2.1 + 1 by omega); omega
 have hok0:=forget_ok (b:=b) hq0 hq1
 rw [hpub,hvl,hvu,hfg]
 refine ⟨bl,o1,bM,o2,⟨d1,r1.2⟩,⟨d2,r2.2⟩,fun z=>absurd rfl (ndt z),fun _=>⟨fun z=>absurd rfl (ndt z),fun _=>⟨⟨f1,f1⟩,fun z=>(not_t (same_self _) z).elim,fun _=>⟨fun z=>absurd rfl (ndt z),fun _=>⟨bl,⟨d1,r1⟩,bM,⟨d2,r2⟩,fun z=>absurd rfl (ndt z),fun _=>⟨by unfold isI64; omega,by omega,r1,r2,fun z=>absurd hok0 (ndt z),fun _=>⟨fun z=>absurd hok0 (ndt z),fun _=>⟨fun z=>absurd rfl (ndt z),fun _=>?_⟩⟩⟩⟩⟩⟩⟩⟩
 have hgl:(forgetS b (fl.tmod (b.2.1 + 1))).2.1.length ≤ 50000:=by
  unfold forgetS
  split
  ·simp
  ·show ((goneL b _).map ofR).length ≤ 50000
   rw [List.length_map]
   exact Nat.le_trans (List.length_filter_le _ _) r1.2
 generalize (forgetS b (fl.tmod (b.2.1 + 1))).2.1 = G at *
 refine ⟨fun j=>0 ≤ j ∧ j ≤ G.length,fun j=>(G.length - j).toNat,⟨by omega,by omega⟩,?_⟩
 rintro j ⟨j0,j1⟩
 refine ⟨fun hj=>?_,fun hj=>⟨by unfold isI64; omega,⟨by omega,by omega,trivial⟩,by omega⟩⟩
 have hj:=dt hj
 exact ⟨⟨j0,hj⟩,⟨j0,hj⟩,fun z=>(not_t (gone_t rfl) z).elim,fun _=>⟨by unfold isI64; omega,⟨by omega,by omega⟩,by dsimp only; omega⟩⟩
end Go.Proofs.YtcnpblceamgfcaaGreatDoor
