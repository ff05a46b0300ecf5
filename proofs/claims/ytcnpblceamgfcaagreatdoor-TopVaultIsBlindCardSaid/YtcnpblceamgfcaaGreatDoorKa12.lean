import Derived.Test.YtcnpblceamgfcaaGreatDoorRows
import Derived.Test.YtcnpblceamgfcaaGreatDoorKa8
import Derived.WalkKit
import Derived.ProofKit
import Derived.LaidMore
import Derived.OpenShut
import Derived.LaidLaws
set_option linter.unusedSimpArgs false
namespace Go.Proofs.YtcnpblceamgfcaaGreatDoor
open Go.ChangeShapes Go.WideShapes Go.ChangeAt Go.RowKit Go.AM
set_option linter.unusedVariables false
abbrev laidC:List (String × DataW Unit):=[("antiquary/hash.constants",Rows.laid_antiquary_hash_constants)]
theorem gcN:Tryz.prog.globalNamed "antiquary/hash.constants" = some 1:=by kernel_rfl
theorem gcT:(Tryz.prog.globals[1]?).map (·.type) = some 210:=by kernel_rfl
theorem gcW:Rows.laid_antiquary_hash_constants (H:=Unit) = .agg (gdatL.map fun n=>.lit (.int .u32 n)):=by kernel_rfl
theorem gcC:Tryz.prog.cellsOf 147 = 1:=by kernel_rfl
theorem gl_laid {W:World} (h:laidMetH Tryz.prog laidC W):Gl Tryz.prog (cellsPr W):=by
 rw [MakeChecks.laidMetH_plain _ _ _ (by kernel_rfl)] at h
 obtain ⟨ps,⟨g0,t0,cs0,f0,p0,q0,hg0,ht0,hv0,hd0,_,_⟩,_,_⟩:=h
 obtain rfl:=Option.some.inj (gcN.symm.trans hg0)
 obtain rfl:=Option.some.inj (gcT.symm.trans ht0)
 obtain ⟨xs,m,rfl,hx,hlen,hn,hel⟩:=DataW.trod_array Tryz.underlying210 hd0
 rw [gcW] at hx
 simp only [Prod.mk.injEq,DataW.agg.injEq] at hx
 intro g hg j n hj
 have hg:Tryz.prog.globalNamed "antiquary/hash.constants" = some g:=by
  unfold gIs at hg
  exact beq_iff_eq.1 hg
 obtain rfl:=Option.some.inj (gcN.symm.trans hg)
 have hj64:j < 64:=by
  have:=(List.getElem?_eq_some_iff.1 hj).1
  have e:gdatL.length = 64:=by kernel_rfl
  omega
 show W.cell? ⟨1,j,none⟩ = some (.int .u32 n)
 rw [World.var?_cell gcN hv0 j]
 have h0:=hel j hj64
 rw [gcC,Nat.mul_one] at h0
 have hxj:xs[j]? = some (xs[j]'(by omega)):=List.getElem?_eq_getElem (by omega)
 rw [hxj] at h0
 obtain ⟨k,e1,e2,_⟩:=DataW.trod_int Tryz.underlying147 h0
 have h1:=congrArg (fun z=>z[j]?) hx.1
 simp only [List.getElem?_map,hj,hxj,Option.map_some,Option.some.injEq] at h1
 rw [e2] at h1
 simp only [DataW.lit.injEq,Lit.int.injEq,true_and] at h1
 subst h1
 have h2:=congrArg (fun z=>z[0]?) e1
 simpa using h2
theorem door_met (os:Os) (args:Array Value):laidMetH Tryz.prog laidC ((World.doorLaid Tryz.prog 400 os).forCall (fun _ _=>0) ⟨#[],args,[]⟩).memory:=by
 rw [MakeChecks.laidMetH_plain _ _ _ (by kernel_rfl)]
 exact laidMet_of_run' 8 (by kernel_rfl) (by kernel_rfl)
end Go.Proofs.YtcnpblceamgfcaaGreatDoor
