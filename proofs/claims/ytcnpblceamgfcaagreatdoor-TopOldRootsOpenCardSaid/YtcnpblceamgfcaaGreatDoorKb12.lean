import Derived.Test.YtcnpblceamgfcaaGreatDoorKb11
import Derived.Test.YtcnpblceamgfcaaGreatDoorRows
import Derived.Test.YtcnpblceamgfcaaGreatDoorKb8
import Derived.WalkKit
import Derived.ProofKit
import Derived.LaidMore
import Derived.OpenShut
import Derived.LaidLaws
set_option linter.unusedSimpArgs false
namespace Go.PL
open Go.AM
set_option linter.unusedVariables false
theorem range2 {n:Nat} {u v:Int} (hu:0 ≤ u) (hv:0 ≤ v):(0 ≤ u.tmod ((n:Int) + 1) ∧ u.tmod ((n:Int) + 1) ≤ n) ∧ 0 ≤ v.tmod ((n:Int) - u.tmod ((n:Int) + 1) + 1) ∧ v.tmod ((n:Int) - u.tmod ((n:Int) + 1) + 1) ≤ (n:Int) - u.tmod ((n:Int) + 1):=by
 have h0:=Int.tmod_nonneg ((n:Int) + 1) hu
 have h1:=Int.tmod_lt_of_pos u (show 0 < (n:Int) + 1 by omega)
 have h2:=Int.tmod_nonneg ((n:Int) - u.tmod ((n:Int) + 1) + 1) hv
 have h3:=Int.tmod_lt_of_pos v (show 0 < (n:Int) - u.tmod ((n:Int) + 1) + 1 by omega)
 omega
end Go.PL
namespace Go.Proofs.YtcnpblceamgfcaaGreatDoor
open Go.AM Go.PL
set_option linter.unusedVariables false
attribute [local irreducible] fnwp fnwpG fnwpO hof PL.encE foldD bk pubL vltL
theorem EJ0_sound:SpecSound EJ0:=mkctx_sound ⟨sat_fine,sat_awake,sat_foldD,sat_split,sat_vault,sat_hasEn,sat_filing,sat_vblind,sat_prove,sat_sameE,trivial⟩ trivial
theorem sat_law2:Sat bs.P 4 law2Sp:=fnwp_sat EJ0_sound 8 _ law2Sp fun (⟨⟨d,m,dl,⟨⟩⟩,l,u,v⟩:Sc × List Ev × Int × Int) hok _=>by
 have hu:0 ≤ u ∧ u ≤ 255:=hok.2.2.1
 have hv:0 ≤ v ∧ v ≤ 255:=hok.2.2.2
 rw [law2_nf]; delta law2_nf_t0 law2_nf_t1 law2_nf_t2 law2_nf_t3 law2_nf_e0 law2q5 law2q3 law2q9 law2q2 law2q10 law2q1 law2q8 law2q4 law2q0 law2q6 law2q7 law2q11 IR LP NX SD SP eI ln y0 y16 z0 z1; dsimp only
 have ys:∀ {b:Bool},(!b) = false → b = true:=fun {b} h=>by cases b <;> simp_all
 refine ⟨trivial,fun _=>⟨trivial,rfl⟩,fun c1=>?_⟩
 obtain ⟨hs,hl20,hfew,hacc⟩:=fine_acc (ys c1)
 rw [i64_wrap (x:=u) (by omega) (by omega),i64_wrap (x:=v) (by omega) (by omega)]
 obtain ⟨⟨i0,i1⟩,t0,t1⟩:=range2 (n:=l.length) hu.1 hv.1
 generalize u.tmod ((l.length:Int) + 1) = i at *
 generalize v.tmod ((l.length:Int) - i + 1) = t at *
 simp only [List.drop_zero,Nat.sub_zero]
 rw [foldD_bk hs hacc i.toNat,foldD_bk hs hacc (i + t).toNat]
 dsimp only
 have hi:i.toNat ≤ l.length:=by omega
 have hj:(i + t).toNat ≤ l.length:=by omega
 have hij:i.toNat ≤ (i + t).toNat:=by omega
 have gA:=good_bk hacc hl20 i.toNat hi
 have mA:=more_bk hacc hl20 hfew i.toNat hi
 have gB:=good_bk hacc hl20 (i + t).toNat hj
 have mB:=more_bk hacc hl20 hfew (i + t).toNat hj
 have dA:=days_ok gA.1 gA.2.1 mA
 have dB:=days_ok gB.1 gB.2.1 mB
 have rA:=rows_few gA.1 gA.2.1 mA
 have rB:=rows_few gB.1 gB.2.1 mB
 have cA:(0:Int) ≤ 0 ∧ 0 ≤ i ∧ i ≤ (l.length:Int):=⟨Int.le_refl 0,i0,i1⟩
 have cB:(0:Int) ≤ 0 ∧ 0 ≤ i + t ∧ i + t ≤ (l.length:Int):=⟨Int.le_refl 0,by omega,by omega⟩
 have ePub:rowsE (pubL (bk (d,m,dl,()) l (i + t).toNat)):=fun r hr=>rB.1 r (mem_pubL.1 hr).1
 have eVlt:rowsE (vltL (bk (d,m,dl,()) l (i + t).toNat)):=fun r hr=>rB.1 r (mem_vltL.1 hr).1
 refine ⟨by unfold isI64; omega,by omega,by unfold isI64; omega,by unfold isI64; omega,by omega,by unfold isI64; omega,cA,okD_take hs hl20 _,cB,okD_take hs hl20 _,fun z=>absurd rfl (ndt z),fun _=>⟨fun z=>absurd rfl (ndt z),fun _=>⟨⟨dA,rA.2⟩,⟨dB,rB.2⟩,cA,⟨dA,rA⟩,cB,⟨dB,rB⟩,?_⟩⟩⟩
 have hpl:(pubL (bk (d,m,dl,()) l i.toNat)).length ≤ 50000:=Nat.le_trans (by unfold pubL; exact List.length_filter_le _ _) rA.2
 have hvl:=vlt_len hacc hl20 hi
 refine ⟨fun x=>0 ≤ x.1 ∧ x.1 ≤ (pubL (bk (d,m,dl,()) l i.toNat)).length ∧ x.2 = (bk (d,m,dl,()) l i.toNat,bk (d,m,dl,()) l (i + t).toNat),fun x=>((pubL (bk (d,m,dl,()) l i.toNat)).length - x.1).toNat,⟨by first | omega | (dsimp only; omega),by first | omega | (dsimp only; omega),rfl⟩,?_⟩
 rintro ⟨k,q⟩ ⟨k0,k1,k2⟩
 dsimp only at k0 k1 k2
 subst k2
 dsimp only
 refine ⟨fun h=>?_,fun _=>?_⟩
 ·have h:=dt h
  have hr:=getD_mem2 (d:=dRw) (show k.toNat < (pubL (bk (d,m,dl,()) l i.toNat)).length by omega)
  have hh:=pub_has hacc hl20 hfew hij hj hr
  exact ⟨⟨k0,h⟩,⟨ePub,rA.1 _ (mem_pubL.1 hr).1⟩,fun z=>(not_t hh z).elim,fun _=>⟨by unfold isI64; omega,⟨by first | omega | (dsimp only; omega),by first | omega | (dsimp only; omega),rfl⟩,by first | omega | (dsimp only; omega)⟩⟩
 refine ⟨fun x=>0 ≤ x.1 ∧ x.1 ≤ (vltL (bk (d,m,dl,()) l i.toNat)).length ∧ x.2 = (bk (d,m,dl,()) l i.toNat,bk (d,m,dl,()) l (i + t).toNat),fun x=>((vltL (bk (d,m,dl,()) l i.toNat)).length - x.1).toNat,⟨by first | omega | (dsimp only; omega),by first | omega | (dsimp only; omega),rfl⟩,?_⟩
 clear k0 k1
 rintro ⟨k,q⟩ ⟨k0,k1,k2⟩
 dsimp only at k0 k1 k2
 subst k2
 dsimp only
 refine ⟨fun h=>?_,fun _=>⟨trivial,by trivial⟩⟩
 have h:=dt h
 have hr:=getD_mem2 (d:=dRw) (show k.toNat < (vltL (bk (d,m,dl,()) l i.toNat)).length by omega)
 have pk:0 ≤ k ∧ k < ((vltL (bk (d,m,dl,()) l i.toNat)).length:Int):=⟨k0,h⟩
 refine ⟨pk,?_⟩
 have e0:(((0:Int),(0:Int),(0:Int),(0:Int),(0:Int),(0:Int),(0:Int),([]:List Int),([]:List At),()),(0:Int),()) = dRw:=rfl
 rw [e0]
 generalize (vltL (bk (d,m,dl,()) l i.toNat)).getD k.toNat dRw = r at hr
 obtain ⟨r1,r2,r3⟩:=mem_vltL.1 hr
 have fr:=rA.1 r r1
 obtain ⟨f0,f1⟩:=filed_lt hacc hl20 hi r1
 have pn:isI64 (k + 1):=by unfold isI64; omega
 have nx:(0 ≤ k + 1 ∧ k + 1 ≤ ((vltL (bk (d,m,dl,()) l i.toNat)).length:Int) ∧ (bk (d,m,dl,()) l i.toNat,bk (d,m,dl,()) l (i + t).toNat) = (bk (d,m,dl,()) l i.toNat,bk (d,m,dl,()) l (i + t).toNat)) ∧ (((vltL (bk (d,m,dl,()) l i.toNat)).length:Int) - (k + 1)).toNat < (((vltL (bk (d,m,dl,()) l i.toNat)).length:Int) - k).toNat:=⟨⟨by omega,by omega,rfl⟩,by omega⟩
 have hself:hasEn (vltL (bk (d,m,dl,()) l i.toNat)) r.1 = true:=hasEn_iff.2 ⟨r,hr,rfl⟩
 refine ⟨cA,trivial,fun z=>absurd (dt z) (by omega),fun _=>⟨⟨f0,by omega⟩,fr,digs_vlt hacc hl20 hi _,digs_vlt hacc hl20 hj _,⟨eVlt,fr⟩,⟨ePub,fr⟩,fun z=>absurd (prove_ok (vlt_mem hacc hl20 (Nat.le_refl _) hi r1 hr rfl)) (ndt z),fun _=>⟨fun w1=>⟨fun w2=>(not_both hacc hl20 hfew hj w1 w2).elim,fun w2=>⟨fun z=>?_,fun _=>?_⟩⟩,fun w1=>?_⟩⟩⟩
 ·obtain ⟨q,q1,q2⟩:=hasEn_iff.1 w1
  exact absurd (prove_ok (vlt_mem hacc hl20 hij hj r1 q1 q2)) (ndt z)
 all_goals
  have hrl:=rB.2
  refine ⟨fun y=>(0 ≤ y.1 ∧ y.1 ≤ (bk (d,m,dl,()) l (i + t).toNat).2.2.2.2.1.length) ∧ y.2.2 = (r.1,bk (d,m,dl,()) l i.toNat,bk (d,m,dl,()) l (i + t).toNat) ∧ (y.2.1 = -1 → ∀ n:Nat,(n:Int) < y.1 → encE ((bk (d,m,dl,()) l (i + t).toNat).2.2.2.2.1.getD n dRw).1 ≠ encE r.1) ∧
   (y.2.1 ≠ -1 → ∃ q ∈ (bk (d,m,dl,()) l (i + t).toNat).2.2.2.2.1,encE q.1 = encE r.1 ∧ y.2.1 = q.2.1),fun y=>((bk (d,m,dl,()) l (i + t).toNat).2.2.2.2.1.length - y.1).toNat,⟨⟨by first | omega | (dsimp only; omega),by first | omega | (dsimp only; omega)⟩,rfl,fun _ n hn=>by dsimp only at hn; omega,fun z=>absurd rfl z⟩,?_⟩
  rintro ⟨n,dd,q⟩ ⟨⟨n0,n1⟩,n2,n3,n4⟩
  dsimp only at n0 n1 n2 n3 n4
  subst n2
  dsimp only
  refine ⟨fun g=>?_,fun g=>?_⟩
  ·have g:=dt g
   have hm:=getD_mem2 (d:=dRw) (show n.toNat < (bk (d,m,dl,()) l (i + t).toNat).2.2.2.2.1.length by omega)
   have gi:isI64 (n + 1):=by unfold isI64; omega
   have gm:(((bk (d,m,dl,()) l (i + t).toNat).2.2.2.2.1.length:Int) - (n + 1)).toNat < (((bk (d,m,dl,()) l (i + t).toNat).2.2.2.2.1.length:Int) - n).toNat:=by omega
   have hq0:=(mB.1 _ hm).1
   refine ⟨⟨n0,g⟩,⟨rB.1 _ hm,fr⟩,fun c=>⟨⟨n0,g⟩,gi,⟨⟨by first | omega | (dsimp only; omega),by first | omega | (dsimp only; omega)⟩,rfl,fun z=>?_,fun _=>⟨_,hm,dt c,rfl⟩⟩,gm⟩,fun c=>⟨gi,⟨⟨by first | omega | (dsimp only; omega),by first | omega | (dsimp only; omega)⟩,rfl,fun z p hp=>?_,n4⟩,gm⟩⟩
   ·try dsimp only at z
    rw [show ((bk (d,m,dl,()) l (i + t).toNat).2.2.2.2.1.getD n.toNat dRw).2.1 = -1 from z] at hq0
    omega
   ·by_cases hp2:(p:Int) < n
    ·exact n3 z p hp2
    ·try dsimp only at hp
     rw [show p = n.toNat by omega]
     exact df c
  ·have g:=df g
   have nn:dd ≠ -1:=fun z=>by
    obtain ⟨q,hq,he⟩:=row_kept hacc hl20 hij hj r1
    obtain ⟨p,hp,ep⟩:=List.mem_iff_getElem.1 hq
    refine n3 z p (by omega) ?_
    rw [List.getD_eq_getElem?_getD,List.getElem?_eq_getElem hp]
    exact (congrArg (fun z:Rw=>encE z.1) ep).trans he
   obtain ⟨q,q1,q2,q3⟩:=n4 nn
   have q0:=(mB.1 q q1).1
   have fin:(hasEn (pubL (bk (d,m,dl,()) l (i + t).toNat)) r.1 = true → (decide ((bk (d,m,dl,()) l (i + t).toNat).2.2.1 < r.1.2.2.2.2.1) = true → false = true) ∧ (decide ((bk (d,m,dl,()) l (i + t).toNat).2.2.1 < r.1.2.2.2.2.1) = false → isI64 (k + 1) ∧ (0 ≤ k + 1 ∧ k + 1 ≤ ((vltL (bk (d,m,dl,()) l i.toNat)).length:Int) ∧ (bk (d,m,dl,()) l i.toNat,bk (d,m,dl,()) l (i + t).toNat) = (bk (d,m,dl,()) l i.toNat,bk (d,m,dl,()) l (i + t).toNat)) ∧ (((vltL (bk (d,m,dl,()) l i.toNat)).length:Int) - (k + 1)).toNat < (((vltL (bk (d,m,dl,()) l i.toNat)).length:Int) - k).toNat)) ∧
    (hasEn (pubL (bk (d,m,dl,()) l (i + t).toNat)) r.1 = false → isI64 (k + 1) ∧ (0 ≤ k + 1 ∧ k + 1 ≤ ((vltL (bk (d,m,dl,()) l i.toNat)).length:Int) ∧ (bk (d,m,dl,()) l i.toNat,bk (d,m,dl,()) l (i + t).toNat) = (bk (d,m,dl,()) l i.toNat,bk (d,m,dl,()) l (i + t).toNat)) ∧ (((vltL (bk (d,m,dl,()) l i.toNat)).length:Int) - (k + 1)).toNat < (((vltL (bk (d,m,dl,()) l i.toNat)).length:Int) - k).toNat) :=
    ⟨fun o=>⟨fun z=>absurd (open_le hacc hl20 hfew hj o) (by have:=dt z; omega),fun _=>⟨pn,nx⟩⟩,fun _=>⟨pn,nx⟩⟩
   refine ⟨fun z=>absurd (dt z) (by omega),fun _=>⟨fun a1=>⟨fun a2=>⟨fun z=>?_,fun _=>fin⟩,fun _=>fin⟩,fun _=>fin⟩⟩
   have z:=dt z
   rcases live_in q1 (by rw [← q3]; exact z) q2 with o | o
   ·exact (not_t o a1).elim
   ·exact (not_t o a2).elim
end Go.Proofs.YtcnpblceamgfcaaGreatDoor
namespace Go.Proofs.YtcnpblceamgfcaaGreatDoor
open Go.ChangeShapes Go.WideShapes Go.ChangeAt Go.RowKit Go.AM
set_option linter.unusedVariables false
abbrev laidC:List (String × DataW Unit):=[("antiquary/hash.constants",Rows.laid_antiquary_hash_constants)]
theorem gcN:Tryz.prog.globalNamed "antiquary/hash.constants" = some 1:=by kernel_rfl
theorem gcT:(Tryz.prog.globals[1]?).map (·.type) = some 210:=by kernel_rfl
theorem gcW:Rows.laid_antiquary_hash_constants (H:=Unit) = .agg (gdatL.map fun n=>.lit (.int .u32 n)):=by kernel_rfl
theorem gcC:Tryz.prog.cellsOf 147 = 1:=by kernel_rfl
theorem gl_laid {W:World} (h:laidMetH Tryz.prog laidC W):Gl Tryz.prog (cellsPr W):=by
 rw [MakeChecks.laidMetH_plain _ _ _ (by kernel_rfl)] at h
 obtain ⟨ps,⟨g0,t0,cs0,f0,p0,q0,hg0,ht0,hv0,hd0,_,_⟩,_,_⟩:=h
 obtain rfl:=Option.some.inj (gcN.symm.trans hg0)
 obtain rfl:=Option.some.inj (gcT.symm.trans ht0)
 obtain ⟨xs,m,rfl,hx,hlen,hn,hel⟩:=DataW.trod_array Tryz.underlying210 hd0
 rw [gcW] at hx
 simp only [Prod.mk.injEq,DataW.agg.injEq] at hx
 intro g hg j n hj
 have hg:Tryz.prog.globalNamed "antiquary/hash.constants" = some g:=by
  unfold gIs at hg
  exact beq_iff_eq.1 hg
 obtain rfl:=Option.some.inj (gcN.symm.trans hg)
 have hj64:j < 64:=by
  have:=(List.getElem?_eq_some_iff.1 hj).1
  have e:gdatL.length = 64:=by kernel_rfl
  omega
 show W.cell? ⟨1,j,none⟩ = some (.int .u32 n)
 rw [World.var?_cell gcN hv0 j]
 have h0:=hel j hj64
 rw [gcC,Nat.mul_one] at h0
 have hxj:xs[j]? = some (xs[j]'(by omega)):=List.getElem?_eq_getElem (by omega)
 rw [hxj] at h0
 obtain ⟨k,e1,e2,_⟩:=DataW.trod_int Tryz.underlying147 h0
 have h1:=congrArg (fun z=>z[j]?) hx.1
 simp only [List.getElem?_map,hj,hxj,Option.map_some,Option.some.injEq] at h1
 rw [e2] at h1
 simp only [DataW.lit.injEq,Lit.int.injEq,true_and] at h1
 subst h1
 have h2:=congrArg (fun z=>z[0]?) e1
 simpa using h2
theorem door_met (os:Os) (args:Array Value):laidMetH Tryz.prog laidC ((World.doorLaid Tryz.prog 400 os).forCall (fun _ _=>0) ⟨#[],args,[]⟩).memory:=by
 rw [MakeChecks.laidMetH_plain _ _ _ (by kernel_rfl)]
 exact laidMet_of_run' 8 (by kernel_rfl) (by kernel_rfl)
end Go.Proofs.YtcnpblceamgfcaaGreatDoor
