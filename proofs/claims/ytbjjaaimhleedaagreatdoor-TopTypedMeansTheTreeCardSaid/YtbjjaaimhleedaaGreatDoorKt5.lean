import Derived.Test.YtbjjaaimhleedaaGreatDoorKt4
set_option linter.unusedSimpArgs false
set_option linter.unusedVariables false
namespace Go.AM
open Go.RowKit
variable {B:Nat → Prop} {w0:World} {C:Ctx} {Ψ Ψ0:Pr} {β:List Value} {h:List Blk} {w w':World} {fr:List AV} {a a0:Act} {As:List Act} {W:List Nat}
def jQe (C:Ctx):Prop:=(∀ g sp,C.spec g = some sp → Sat C.P g sp) ∧ (∀ g sp,C.fresh g = some sp → SatG C.P g sp) ∧ (∀ g sp,C.sorts g = some sp → SatS C.P g sp) ∧ (∀ g sp,C.nilG g = some sp → SatN C.P g sp) ∧ (∀ g sp,C.iters g = some sp → SatI C.P g sp) ∧ (∀ g sp,C.sortsM g = some sp → SatM C.P g sp) ∧ (∀ g sp,C.procs g = some sp → SatH C.P g sp) ∧ (∀ g sp,C.muts g = some sp → SatO C.P g sp) ∧ (∀ g sp,C.pans g = some sp → SatP C.P C.panT g sp) ∧ ∀ g,C.quiet g = true → SatQ C.P g
theorem jJk {Ψ':Pr} (hle:PLe Ψ Ψ'):∀ {ts:List Ty} {avs:List AV} {vs:List Value} {x:dens ts},asDs h ts avs = some x → RelL Ψ β avs vs → Reading Ψ' β h (refsA avs) → RelL Ψ' [] (outs ts x) vs
 | [],[],vs,x,_,hr,_=>hr
 | [],_ :: _,vs,x,hd,_,_=>by simp [asDs] at hd
 | [t],[],vs,x,hd,_,_=>by simp [asDs] at hd
 | [t],[av],vs,x,hd,⟨v,vs',e,hv,hl⟩,hk=>by
  simp only [RelL] at hl
  subst hl e
  exact ⟨v,[],rfl,jKj hle hd hv (hk.sub fun k hm=>by simp [refsA,hm]),rfl⟩
 | [t],_ :: _ :: _,vs,x,hd,_,_=>by simp [asDs] at hd
 | t :: u :: ts,[],vs,x,hd,_,_=>by simp [asDs] at hd
 | t :: u :: ts,av :: avs,vs,x,hd,⟨v,vs',e,hv,hl⟩,hk=>by
  unfold asDs at hd
  split at hd
  ·rename_i y hy
   split at hd
   ·rename_i z hz
    simp at hd
    subst hd
    exact ⟨v,vs',e,jKj hle hy hv (hk.sub fun k hm=>by simp [refsA,hm]),jJk hle hz hl (hk.sub fun k hm=>by simp [refsA]; exact .inr hm)⟩
   ·cases hd
  ·cases hd
def allOf (w:World):Pr:=fun ad=>if ad.spot = none then w.cell? ad else none
theorem allOf_spec (w:World):∀ ad v,allOf w ad = some v → ad.spot = none ∧ w.cell? ad = some v:=by
 intro ad v hv
 unfold allOf at hv
 split at hv
 ·rename_i hs; exact ⟨hs,hv⟩
 ·cases hv
def plain (Ψ:Pr):Pr:=fun ad=>if ad.spot = none then Ψ ad else none
theorem jQ4 {Ψ:Pr} {ad:Addr} {v:Value}:plain Ψ ad = some v ↔ ad.spot = none ∧ Ψ ad = some v:=by
 unfold plain
 split
 ·rename_i h; simp [h]
 ·rename_i h; simp [h]
theorem Gl.plain {P:Program} {Ψ:Pr} (h:Gl P Ψ):Gl P (plain Ψ):=⟨fun g hg j n hn=>jQ4.2 ⟨rfl,h.1 g hg j n hn⟩,fun g hg j n hn=>jQ4.2 ⟨rfl,h.2 g hg j n hn⟩⟩
theorem rowAt_plain {ad:Option Addr} {vs:List Value}:rowAt Ψ ad vs → rowAt (plain Ψ) ad vs
 | ⟨g,off,e,hc⟩=>⟨g,off,e,fun j u hj=>jQ4.2 ⟨rfl,hc j u hj⟩⟩
theorem jQ3:∀ (t:Ty) (x:t.den) (cs:List Value),reads Ψ t x cs → reads (plain Ψ) t x cs
 | .int _,_,_,hr=>hr
 | .bool,_,_,hr=>hr
 | .fnc,_,_,hr=>hr
 | .any,_,_,hr=>hr
 | .str,_,_,hr=>hr
 | .unit,_,_,hr=>hr
 | .arr e,_,_,⟨a,cap,e1,h1,h2,h3⟩=>⟨a,cap,e1,h1,h2,h3.imp id fun ⟨cells,hd,hrow⟩=>⟨cells,jX3 (jQ3 e) _ _ hd,rowAt_plain hrow⟩⟩
 | .vec _ e,_,_,⟨h1,h2⟩=>⟨h1,jX3 (jQ3 e) _ _ h2⟩
 | .pair a b,_,_,⟨u,v,e,h1,h2⟩=>⟨u,v,e,jQ3 a _ _ h1,jQ3 b _ _ h2⟩
 | .rose a b,r,vs,hr=>rdR_mono (fun _ _=>rowAt_plain) (jQ3 a) (jQ3 b) r vs hr
theorem RelV_plain {t:Ty} {x:t.den} {v:Value}:RelV Ψ β (.d t x) v → RelV (plain Ψ) β (.d t x) v
 | ⟨cs,hc,e⟩=>⟨cs,jQ3 t x cs hc,e⟩
theorem jJe:∀ {ts:List Ty} {x:dens ts} {vs:List Value},RelL Ψ β (outs ts x) vs → RelL (plain Ψ) β (outs ts x) vs
 | [],_,_,hr=>hr
 | [t],x,_,⟨v,vs',e,hv,hl⟩=>⟨v,vs',e,RelV_plain hv,hl⟩
 | t :: u :: ts,x,_,⟨v,vs',e,hv,hl⟩=>⟨v,vs',e,RelV_plain hv,jJe hl⟩
theorem jKr {ts:List Ty} {x:dens ts} {v:Value} (hr:RelV Ψ β (outV ts x) v):RelV (plain Ψ) β (outV ts x) v:=by
 match ts,x,hr with
 | [],_,hr=>exact hr
 | [t],x,hr=>exact RelV_plain hr
 | t :: u :: ts,x,hr =>
  have e:outV (t :: u :: ts) x = .tup (outs (t :: u :: ts) x):=by
   match ts with
   | []=>rfl
   | _ :: _=>rfl
  rw [e] at hr ⊢
  obtain ⟨vs,e',hl⟩:=hr
  exact ⟨vs,e',jJe hl⟩
def joinP (Ψ Ψ':Pr):Pr:=fun ad=>if ad.spot = none then Ψ' ad else Ψ ad
theorem jK6 (Ψ Ψ':Pr):PLe (plain Ψ') (joinP Ψ Ψ'):=fun ad v h=>by
 obtain ⟨h1,h2⟩:=jQ4.1 h
 unfold joinP
 rw [if_pos h1]
 exact h2
theorem joinP_step {Ψ':Pr} (hb:Below w.heap.size w w') (hle:∀ a u,plain Ψ a = some u → Ψ' a = some u)
 (hnew:∀ a u,Ψ' a = some u → plain Ψ a = some u ∨ (w.heap.size ≤ a.block ∧ a.spot = none ∧ w'.cell? a = some u)):Step Ψ w (joinP Ψ Ψ') w':=by
 refine ⟨hb,fun ad v hv=>?_,fun ad v hv=>?_⟩
 ·unfold joinP
  split
  ·rename_i hs; exact hle _ _ (jQ4.2 ⟨hs,hv⟩)
  ·exact hv
 ·unfold joinP at hv
  split at hv
  ·exact (hnew ad v hv).imp (fun h=>(jQ4.1 h).2) id
  ·exact .inl hv
theorem jKq (hi:InvH C.P B w0 Ψ β h w):∀ ad v,plain Ψ ad = some v → ad.spot = none ∧ w.cell? ad = some v:=fun ad v hv=>by
 obtain ⟨h1,h2⟩:=jQ4.1 hv
 exact ⟨h1,Pm_plain h1 (hi.prom ad v h2)⟩
theorem le_allOf (hi:InvH C.P B w0 Ψ β h w):PLe (plain Ψ) (allOf w):=by
 intro ad v hv
 obtain ⟨h1,h2⟩:=jKq hi ad v hv
 unfold allOf
 rw [if_pos h1]
 exact h2
theorem RelV_flat {Ψ1 Ψ2:Pr} {β1 β2:List Value} {t:Ty} {x:t.den} {v:Value} (hf:t.flat = true):RelV Ψ1 β1 (.d t x) v → RelV Ψ2 β2 (.d t x) v
 | ⟨cs,hc,e⟩=>⟨cs,reads_flat t x cs hf hc,e⟩
theorem outs_flat {Ψ1 Ψ2:Pr} {β1 β2:List Value}:∀ {ts:List Ty} {x:dens ts} {vs:List Value},flats ts = true → RelL Ψ1 β1 (outs ts x) vs → RelL Ψ2 β2 (outs ts x) vs
 | [],_,_,_,hr=>hr
 | [t],x,_,hf,⟨v,vs',e,hv,hl⟩=>⟨v,vs',e,RelV_flat (by simpa [flats] using hf) hv,hl⟩
 | t :: u :: ts,x,_,hf,⟨v,vs',e,hv,hl⟩=>by
  have hf1:t.flat = true:=by unfold flats at hf; simp only [Bool.and_eq_true] at hf; exact hf.1
  have hf2:flats (u :: ts) = true:=by
   rw [flats] at hf
   simp only [Bool.and_eq_true] at hf
   exact hf.2
  exact ⟨v,vs',e,RelV_flat hf1 hv,outs_flat hf2 hl⟩
theorem outV_flat {Ψ1 Ψ2:Pr} {β1 β2:List Value} {ts:List Ty} {x:dens ts} {v:Value} (hf:flats ts = true) (hr:RelV Ψ1 β1 (outV ts x) v):RelV Ψ2 β2 (outV ts x) v:=by
 match ts,x,hf,hr with
 | [],_,_,hr=>exact hr
 | [t],x,hf,hr=>exact RelV_flat (by simpa [flats] using hf) hr
 | t :: u :: ts,x,hf,hr =>
  have e:outV (t :: u :: ts) x = .tup (outs (t :: u :: ts) x):=by
   match ts with
   | []=>rfl
   | _ :: _=>rfl
  rw [e] at hr ⊢
  obtain ⟨vs,e',hl⟩:=hr
  exact ⟨vs,e',outs_flat hf hl⟩
theorem maskC_rel:∀ (t:Ty) (cs:List AV) (vs:List Value),RelL Ψ β cs vs → (∀ u ∈ vs,u.oneCell' = true) → RelL Ψ β (maskC t cs) vs
 | .pair a b,cs,vs,hr,h1=>by
  unfold maskC
  rw [takeN_eq,dropN_eq]
  have:=jX4 _ _ _ _ (maskC_rel a _ _ (jK0 a.cells cs vs hr) fun u hu=>h1 u (List.mem_of_mem_take hu)) (maskC_rel b _ _ (jK1 a.cells cs vs hr) fun u hu=>h1 u (List.mem_of_mem_drop hu))
  rwa [List.take_append_drop] at this
 | .any,[],_,hr,_=>hr
 | .any,_ :: _,_,⟨v,vs',e,_,hl⟩,h1=>⟨v,vs',e,⟨[v],⟨v,rfl,h1 v (by rw [e]; exact List.mem_cons_self ..)⟩,rfl⟩,hl⟩
 | .int _,_,_,hr,_=>hr
 | .bool,_,_,hr,_=>hr
 | .str,_,_,hr,_=>hr
 | .arr _,_,_,hr,_=>hr
 | .vec _ _,_,_,hr,_=>hr
 | .unit,_,_,hr,_=>hr
 | .fnc,_,_,hr,_=>hr
 | .rose _ _,_,_,hr,_=>hr
theorem maskD_rel (t:Ty) {av:AV} {v:Value} (hr:RelV Ψ β av v):RelV Ψ β (maskD t av) v:=by
 unfold maskD
 split
 ·rename_i cs
  cases anyIn t with
  | true =>
   obtain ⟨vs,e,hl,h1⟩:=hr
   exact ⟨vs,e,maskC_rel t cs vs hl h1,h1⟩
  | false=>exact hr
 ·exact hr
theorem maskAs_rel:∀ (ts:List Ty) {avs:List AV} {vs:List Value},RelL Ψ β avs vs → RelL Ψ β (maskAs ts avs) vs
 | [],[],_,hr=>hr
 | [],_ :: _,_,hr=>hr
 | _ :: _,[],_,hr=>hr
 | t :: ts,_ :: _,_,⟨v,vs',e,hv,hl⟩=>⟨v,vs',e,maskD_rel t hv,maskAs_rel ts hl⟩
theorem lendV_rel {Ψ':Pr} (hi:InvH C.P B w0 Ψ β h w) (hle:PLe Ψ Ψ') (hall:∀ ad u,ad.spot = none → w.cell? ad = some u → Ψ' ad = some u):∀ {av:AV} {v:Value},RelV Ψ β av v → RelV Ψ' β (lendV h av) v:=by
 intro av v hr
 unfold lendV
 split
 ·rename_i k off n lo hi'
  split
  ·rename_i u x hg
   split
   ·rename_i e xs hv
    obtain ⟨g,hβ,h0,h1,h2,h3,rfl⟩:=hr
    obtain ⟨g',c,e',hβ',rfl',hh,hB,hrd⟩:=dat_blk (off:=0) (v:=.pointer (some ⟨g,0,none⟩)) hi hg ⟨g,hβ,rfl⟩
    have hgg:g' = g:=by simpa using rfl'.symm
    subst hgg
    obtain ⟨hsm,hlen,hle',hd⟩:=vecAt_rv hv hrd
    have he1:=(jZs hsm).1
    have k1:=jJv (jQa e) _ _ (hi'.toNat - lo.toNat) (jJw (jQa e) _ _ lo.toNat hd)
    rw [he1,Nat.mul_one,Nat.mul_one] at k1
    have hl:((xs.drop lo.toNat).take (hi'.toNat - lo.toNat)).length = hi'.toNat - lo.toNat:=by simp; omega
    refine rv_arr (β:=β).2 ⟨some ⟨g',off + lo.toNat,none⟩,n - lo.toNat,by rw [hl],by rw [hl]; omega,by omega,.inr ⟨_,jX3 (jQg hle e) _ _ k1,g',off + lo.toNat,rfl,fun j u hj=>hall _ _ rfl ?_⟩⟩
    rw [jXe hh]
    have h5:=jQs hj
    rw [List.getElem?_take] at h5
    split at h5
    ·rw [List.getElem?_drop,Array.getElem?_toList] at h5
     rw [Nat.add_assoc]
     exact h5
    ·cases h5
   ·exact jZm hle (fun _ _ h=>h) _ _ hr
  ·exact jZm hle (fun _ _ h=>h) _ _ hr
 ·exact jZm hle (fun _ _ h=>h) _ _ hr
theorem lendVs_rel {Ψ':Pr} (hi:InvH C.P B w0 Ψ β h w) (hle:PLe Ψ Ψ') (hall:∀ ad u,ad.spot = none → w.cell? ad = some u → Ψ' ad = some u):∀ {avs:List AV} {vs:List Value},RelL Ψ β avs vs → RelL Ψ' β (lendVs h avs) vs
 | [],_,hr=>hr
 | _ :: _,_,⟨v,vs',e,hv,hl⟩=>⟨v,vs',e,lendV_rel hi hle hall hv,lendVs_rel hi hle hall hl⟩
theorem contract_call {sp:FSpec} {g:FuncId} {avs:List AV} {vs:List Value} {x:dens sp.ps} (hS:Sat C.P g sp) (hi:InvH C.P B w0 Ψ β h w) (hr:RelL Ψ β avs vs) (hd:asDs h sp.ps (bif flats sp.rs then lendVs h avs else avs) = some x) (hpre:sp.pre x)
 (hc:flats sp.rs = true ∨ refsA avs = []):Calls C.P g vs.toArray w fun e w'=>∃ v Ψ',e = .returned v ∧ Step Ψ w Ψ' w' ∧ RelV Ψ' β (outV sp.rs (sp.post x)) v:=by
 by_cases hfl:flats sp.rs = true
 ·have hc:=hfl
  rw [hc,cond_true] at hd
  have hjoin:PLe Ψ (joinP Ψ (allOf w)):=fun ad v hv=>by
   unfold joinP
   split
   ·rename_i hs; exact le_allOf hi _ _ (jQ4.2 ⟨hs,hv⟩)
   ·exact hv
  have hall:∀ ad u,ad.spot = none → w.cell? ad = some u → joinP Ψ (allOf w) ad = some u:=fun ad u hs hu=>by
   unfold joinP allOf
   rw [if_pos hs,if_pos hs]
   exact hu
  have hrel:=jJk (PLe.refl _) hd (lendVs_rel hi hjoin hall hr) (fun k _ tid e xs hg u hu=>grow_reading hi hjoin hg (fun g n cap _ _ i v hv=>by unfold joinP; rw [if_pos rfl]; unfold allOf; rw [if_pos rfl]; exact hv) hu)
  have hrel':RelL (allOf w) [] (outs sp.ps x) vs:=by
   have h1:=jJe hrel
   refine jQl (fun ad v hv=>?_) (fun _ _ h=>h) _ _ h1
   obtain ⟨g1,g2⟩:=jQ4.1 hv
   unfold joinP at g2
   rw [if_pos g1] at g2
   exact g2
  refine (hS (allOf w) w x vs (allOf_spec w) (hi.glob.plain.le (le_allOf hi)) hrel' hpre).mono ?_
  rintro e w' ⟨v,Ψ',rfl,hb,_,_,hv⟩
  exact ⟨v,Ψ,rfl,⟨hb,PLe.refl _,fun _ _ h=>.inl h⟩,outV_flat hc hv⟩
 ·have hc:refsA avs = []:=hc.resolve_left hfl
  simp only [Bool.not_eq_true] at hfl
  rw [hfl,cond_false] at hd
  have hrel:=jJk (PLe.refl Ψ) hd hr (by rw [hc]; exact Reading.nil)
  refine (hS (plain Ψ) w x vs (jKq hi) hi.glob.plain (jJe hrel) hpre).mono ?_
  rintro e w' ⟨v,Ψ',rfl,hb,hle,hnew,hv⟩
  exact ⟨v,joinP Ψ Ψ',rfl,joinP_step hb hle hnew,jZm (jK6 Ψ Ψ') (fun k v h=>by simp at h) _ _ (jKr hv)⟩
theorem rdL_of_plain {Ψ':Pr} (hp:PLe (plain Ψ) Ψ') {e:Ty} {xs:List e.den} {cs:List Value} (hr:rdL (reads Ψ e) xs cs):rdL (reads Ψ' e) xs cs :=
 jX3 (fun x cs h=>jQg hp e x cs (jQ3 e x cs h)) _ _ hr
theorem rv_of_plain {Ψ':Pr} (hp:PLe (plain Ψ) Ψ') {t:Ty} {x:t.den} {v:Value}:rv Ψ t x v → rv Ψ' t x v
 | ⟨cs,hc,e⟩=>⟨cs,jQg hp t x cs (jQ3 t x cs hc),e⟩
theorem jZ6 {Ψ':Pr} (hp:PLe (plain Ψ) Ψ') {e:Ty}:∀ {m:List (Int × e.den)} {es:List MapEntry},mapR Ψ e m es → mapR Ψ' e m es
 | [],_,hr=>hr
 | _ :: _,_,⟨x,es',h1,h2,h3,h4,h5⟩=>⟨x,es',h1,h2,h3,rv_of_plain hp h4,jZ6 hp h5⟩
theorem fresh_raw {g:GSpec} {f:FuncId} {x:dens g.ps} {vs px:List Value} (hS:SatGp C.P f px g) (hi1:InvH C.P B w0 Ψ β h w) (hrel:RelL Ψ [] (outs g.ps x) vs) (hpre:g.pre x) :
 Calls C.P f (px ++ vs).toArray w fun e w'=>∃ v Ψ',e = .returned v ∧ Step Ψ w Ψ' w' ∧ v.oneCell' = true ∧ BlkR C.P (fun k=>k < w.heap.size) Ψ' [v] w' 0 (.grow g.tid g.e (g.post x)) ∧
  ∀ gg,jQb [v] 0 gg (.grow g.tid g.e (g.post x)) → ∀ a,a.block = gg → pl a → Ψ' a = none:=by
 refine (hS (plain Ψ) w x vs (jKq hi1) hi1.glob.plain (jJe hrel) hpre).mono ?_
 rintro e w' ⟨v,Ψp,rfl,hb,hle,hnew,hone,hblk,hfree⟩
 refine ⟨v,joinP Ψ Ψp,rfl,joinP_step hb hle hnew,hone,?_,fun gg hc a ha hs=>?_⟩
 ·refine hblk.imp id ?_
  rintro ⟨gg,cap,cur,h1,h2,h3,h4,h5,h6,h7,h8⟩
  exact ⟨gg,cap,cur,h1,h2,h3,h4,h5,h6,h7,rdL_of_plain (jK6 Ψ Ψp) h8⟩
 ·unfold joinP
  by_cases hs':a.spot = none
  ·rw [if_pos hs']
   exact hfree gg hc a ha
  ·rw [if_neg hs']
   cases hp:Ψ a with
   | none=>rfl
   | some u =>
    have h1:=Pm_lt (hi1.prom a u hp)
    have h2:=(jQx hblk hc).1
    omega
theorem grow_at {P:Program} {Ψ':Pr} {β':List Value} {k:Nat} {B':Nat → Prop} {v:Value} {tid:TypeId} {e:Ty} {xs:List e.den} (hget:β'[k]? = some v) (hB:∀ k,B k → B' k) (hblk:BlkR P B' Ψ' [v] w' 0 (.grow tid e xs)):BlkR P B Ψ' β' w' k (.grow tid e xs):=by
 refine hblk.imp (fun ⟨ad,h1,h2⟩=>⟨ad,?_,h2⟩) (fun ⟨gg,cap,cur,h1,h2,h3,h4⟩=>⟨gg,cap,cur,?_,h2,fun hb=>h3 (hB _ hb),h4⟩)
 ·simp at h1; rw [hget,h1]
 ·simp at h1; rw [hget,h1]
theorem claims_at {β':List Value} {k gg:Nat} {v:Value} {tid:TypeId} {e:Ty} {xs:List e.den} (hget:β'[k]? = some v) (hc:jQb β' k gg (.grow tid e xs)):jQb [v] 0 gg (.grow tid e xs):=by
 obtain ⟨n,cap,hz,hc⟩:=hc
 rw [hget] at hc
 exact ⟨n,cap,hz,by simpa using hc⟩
theorem fresh_core {g:GSpec} {f:FuncId} {x:dens g.ps} {vs px:List Value} (hS:SatGp C.P f px g) (hi1:InvH C.P B w0 Ψ β h w) (hrel:RelL Ψ [] (outs g.ps x) vs) (hpre:g.pre x) :
 Calls C.P f (px ++ vs).toArray w fun e w'=>∃ v Ψ',e = .returned v ∧ Step Ψ w Ψ' w' ∧ v ≠ hole ∧ InvH C.P B w0 Ψ' (β ++ [v]) (h ++ [.grow g.tid g.e (g.post x)]) w':=by
 refine (fresh_raw hS hi1 hrel hpre).mono ?_
 rintro e w' ⟨v,Ψ',rfl,hst,hone,hblk,hfree⟩
 have hi2:=hi1.step hst
 have hB:=hi1.size
 have hget:(β ++ [v])[h.length]? = some v:=by rw [← hi2.len]; simp
 have hblk':BlkR C.P B Ψ' (β ++ [v]) w' h.length (.grow g.tid g.e (g.post x)):=grow_at hget hB hblk
 have hcl0:∀ {gg:Nat},jQb (β ++ [v]) h.length gg (.grow g.tid g.e (g.post x)) → jQb [v] 0 gg (.grow g.tid g.e (g.post x)):=fun hc=>claims_at hget hc
 have hclg:∀ {gg:Nat},jQb [v] 0 gg (.grow g.tid g.e (g.post x)) → w.heap.size ≤ gg:=fun hc=>Nat.le_of_not_lt (jQx hblk hc).1
 have hlt:∀ {j:Nat} {b:Blk},h[j]? = some b → j < β.length:=fun {j b} hj=>by
  rw [hi2.len]
  rcases Nat.lt_or_ge j h.length with h' | h'
  ·exact h'
  ·rw [List.getElem?_eq_none h'] at hj; cases hj
 have hold:∀ {j gg:Nat} {b:Blk},h[j]? = some b → jQb (β ++ [v]) j gg b → gg < w.heap.size:=fun hj hc=>(jQx (hi1.blk _ _ hj) (jQr (hlt hj) hc)).2
 refine ⟨v,Ψ',rfl,hst,jJx hblk rfl,?_⟩
 refine ⟨hi2.low,hi2.size,hi2.prom,hi2.own,by simp [hi2.len],fun j u hj=>?_,fun j b hj=>?_,fun j b gg hj hc a ha hs=>?_,fun i j bi bj gg hij hbi hbj hci hcj=>?_,hi2.glob⟩
 ·rcases getElem?_snoc hj with h | ⟨_,rfl⟩
  ·exact hi2.one j u h
  ·exact hone
 ·rcases getElem?_snoc hj with h | ⟨rfl,rfl⟩
  ·exact BlkR_snoc v (hi2.blk j b h)
  ·exact hblk'
 ·rcases getElem?_snoc hj with h | ⟨rfl,rfl⟩
  ·exact hi2.free j b gg h (jQr (hlt h) hc) a ha hs
  ·exact hfree gg (hcl0 hc) a ha hs
 ·rcases getElem?_snoc hbi with h1 | ⟨rfl,rfl⟩
  ·rcases getElem?_snoc hbj with h2 | ⟨rfl,rfl⟩
   ·exact hi2.sep i j bi bj gg hij h1 h2 (jQr (hlt h1) hci) (jQr (hlt h2) hcj)
   ·have:=hold h1 hci
    have:=hclg (hcl0 hcj)
    omega
  ·rcases getElem?_snoc hbj with h2 | ⟨rfl,rfl⟩
   ·have:=hold h2 hcj
    have:=hclg (hcl0 hci)
    omega
   ·exact absurd rfl hij
theorem set_at {k j:Nat} {u v:Value} (hj:(β.set k u)[j]? = some v):(j = k ∧ v = u) ∨ (j ≠ k ∧ β[j]? = some v):=by
 by_cases hjk:j = k
 ·subst hjk
  have hlt:j < β.length:=by
   rcases Nat.lt_or_ge j β.length with h' | h'
   ·exact h'
   ·rw [List.getElem?_eq_none (by simpa using h')] at hj; cases hj
  rw [List.getElem?_set_self hlt] at hj
  simp at hj
  exact .inl ⟨rfl,hj.symm⟩
 ·rw [List.getElem?_set_ne (Ne.symm hjk)] at hj
  exact .inr ⟨hjk,hj⟩
theorem jQz {k j:Nat} {u v:Value} (hk:β[k]? = some hole) (hv:v ≠ hole) (hj:β[j]? = some v):(β.set k u)[j]? = some v:=by
 have hjk:j ≠ k:=by
  rintro rfl
  rw [hk] at hj
  simp at hj
  exact hv hj.symm
 rw [List.getElem?_set_ne (Ne.symm hjk)]
 exact hj
mutual
theorem RelV_fill {Ψ Ψ':Pr} {β:List Value} {k:Nat} {u:Value} (h:PLe Ψ Ψ') (hk:β[k]? = some hole):∀ (av:AV) (v:Value),RelV Ψ β av v → RelV Ψ' (β.set k u) av v
 | .junk,_,_=>trivial
 | .und,_,hr=>hr
 | .tt,_,hr=>hr
 | .ff,_,hr=>hr
 | .d t x,_,⟨cs,hc,e⟩=>⟨cs,jQg h t x cs hc,e⟩
 | .fs e xs,_,⟨a,ea,cs,hc,e'⟩=>⟨a,ea,cs,jQg h (.arr e) xs cs hc,e'⟩
 | .nils,_,hr=>hr
 | .agg cs,_,⟨vs,e,hl,h1⟩=>⟨vs,e,jZ8 h hk cs vs hl,h1⟩
 | .tup cs,_,⟨vs,e,hl⟩=>⟨vs,e,jZ8 h hk cs vs hl⟩
 | .fn _ cs,_,⟨vs,e,hl⟩=>⟨vs,e,jZ8 h hk cs vs hl⟩
 | .bnd _ cs,_,⟨vs,e,hl⟩=>⟨vs,e,jZ8 h hk cs vs hl⟩
 | .sv _ _ _ _,_,⟨g,n,c,hg,r⟩=>⟨g,n,c,jQz hk (by simp [hole]) hg,r⟩
 | .nilf,_,hr=>hr
 | .nilp,_,hr=>hr
 | .own _ _,_,⟨g,hg,e⟩=>⟨g,jQz hk (by simp [hole]) hg,e⟩
 | .sl _,_,⟨hr,hn⟩=>⟨jQz hk hn hr,hn⟩
 | .slp _ _ _,_,⟨g,n,c,hg,r⟩=>⟨g,n,c,jQz hk (by simp [hole]) hg,r⟩
 | .rp t x,_,⟨g,off,cs,e,hc,hp⟩=>⟨g,off,cs,e,jQg h t x cs hc,fun j u hj=>h _ _ (hp j u hj)⟩
 | .yld _,_,⟨l,hg,e⟩=>⟨l,jQz hk (by simp [hole,yldV]) hg,e⟩
 | .glb _,_,hr=>hr
 | .oix _ _ _ _,_,⟨g,hg,r⟩=>⟨g,jQz hk (by simp [hole]) hg,r⟩
 | .osl _ _ _ _ _,_,⟨g,hg,r⟩=>⟨g,jQz hk (by simp [hole]) hg,r⟩
 | .slpf _ _ _ _,_,⟨g,n,c,hg,r⟩=>⟨g,n,c,jQz hk (by simp [hole]) hg,r⟩
 | .ssl _ _,_,⟨g,hg,r⟩=>⟨g,jQz hk (by simp [hole]) hg,r⟩
theorem jZ8 {Ψ Ψ':Pr} {β:List Value} {k:Nat} {u:Value} (h:PLe Ψ Ψ') (hk:β[k]? = some hole):∀ (cs:List AV) (vs:List Value),RelL Ψ β cs vs → RelL Ψ' (β.set k u) cs vs
 | [],_,hr=>hr
 | c :: cs,_,⟨v,vs',e,hv,hl⟩=>⟨v,vs',e,RelV_fill h hk c v hv,jZ8 h hk cs vs' hl⟩
end
theorem RelF_fill {Ψ':Pr} {k:Nat} {u:Value} (h:PLe Ψ Ψ') (hk:β[k]? = some hole):∀ (fs:List (List AV)) (as:List Act),RelF Ψ β fs as → RelF Ψ' (β.set k u) fs as
 | [],_,hr=>hr
 | f :: fs,_,⟨a,as',e,⟨h1,h2⟩,h3⟩=>⟨a,as',e,⟨jVb h h1,jZ8 h hk _ _ h2⟩,RelF_fill h hk fs as' h3⟩
theorem BlkR_fill {P:Program} {k j:Nat} {u:Value} {b:Blk} (hk:β[k]? = some hole) (hb:BlkR P B Ψ β w j b):BlkR P B Ψ (β.set k u) w j b:=by
 cases b with
 | gone=>trivial
 | log ys Y own xs=>exact jJl hb (fun _ h=>by have:=hb.1; rw [this] at h; cases h; exact jQz hk (by simp [hole,yldV]) this) (PLe.refl _).m (Nat.le_refl _) fun _ _=>rfl
 | lof ys Y own=>exact jJm hb (fun _ h=>by have:=hb.1; rw [this] at h; cases h; exact jQz hk (by simp [hole,yldV]) this) (PLe.refl _).m (Nat.le_refl _) fun _ _=>rfl
 | cells cs =>
  obtain ⟨g,c,e,h1,h2,h3,h4,h5⟩:=hb
  exact ⟨g,c,e,jQz hk (by simp [hole]) h1,h2,h3,jZ8 (PLe.refl _) hk _ _ h4,h5⟩
 | grow tid e xs =>
  rcases hb with ⟨ad,h1,h2⟩ | ⟨g,cap,cur,h1,r⟩
  ·exact .inl ⟨ad,jQz hk (by simp [hole]) h1,h2⟩
  ·exact .inr ⟨g,cap,cur,jQz hk (by simp [hole]) h1,r⟩
 | kmap es =>
  obtain ⟨g,ms,cl,h1,h2,h3,h4,h5,h6⟩:=hb
  exact ⟨g,ms,cl,jQz hk (by simp [hole]) h1,h2,h3,h4,jZ8 (PLe.refl _) hk _ _ h5,h6⟩
 | dmap e m =>
  obtain ⟨g,ms,cl,h1,r⟩:=hb
  exact ⟨g,ms,cl,jQz hk (by simp [hole]) h1,r⟩
 | diter e last left =>
  obtain ⟨g,gm,ms,cl,seen,h1,r⟩:=hb
  exact ⟨g,gm,ms,cl,seen,jQz hk (by simp [hole]) h1,r⟩
 | loop f p ph ts =>
  obtain ⟨l,r,h1,h2,h3,h4,h5,h6⟩:=hb
  exact ⟨l,r,jQz hk (by simp [hole,yldV]) h1,h2,h3,h4,jZ8 (PLe.refl _) hk _ _ h5,h6⟩
 | dat t x =>
  obtain ⟨g,c,e,h1,r⟩:=hb
  exact ⟨g,c,e,jQz hk (by simp [hole]) h1,r⟩
 | siter n rest =>
  obtain ⟨g,s,pos,h1,r⟩:=hb
  exact ⟨g,s,pos,jQz hk (by simp [hole]) h1,r⟩
theorem jJ9 {k j g:Nat} {u:Value} {b:Blk} (hjk:j ≠ k) (hc:jQb (β.set k u) j g b):jQb β j g b:=by
 have e:(β.set k u)[j]? = β[j]?:=List.getElem?_set_ne (Ne.symm hjk)
 cases b with
 | gone=>exact hc
 | log ys Y own xs=>exact hc
 | lof ys Y own=>exact hc
 | cells cs=>simp only [jQb] at *; rwa [e] at hc
 | grow tid e' xs=>obtain ⟨n,cap,h1,h2⟩:=hc; rw [e] at h2; exact ⟨n,cap,h1,h2⟩
 | kmap es=>simp only [jQb] at *; rwa [e] at hc
 | dmap e' m=>simp only [jQb] at *; rwa [e] at hc
 | diter e' last left=>simp only [jQb] at *; rwa [e] at hc
 | loop f p ph ts=>simp only [jQb] at *; rwa [e] at hc
 | dat t x=>simp only [jQb] at *; rwa [e] at hc
 | siter n rest=>simp only [jQb] at *; rwa [e] at hc
theorem InvH.fill {Ψ':Pr} {k:Nat} {u:Value} {b:Blk} (hi:InvH C.P B w0 Ψ β h w) (hst:Step Ψ w Ψ' w') (hk:h[k]? = some .gone) (hβ:β[k]? = some hole) (hone:u.oneCell' = true) (hnew:BlkR C.P B Ψ' (β.set k u) w' k b)
 (hge:∀ g,jQb (β.set k u) k g b → w.heap.size ≤ g) (hfree:∀ g,jQb (β.set k u) k g b → ∀ a,a.block = g → pl a → Ψ' a = none):InvH C.P B w0 Ψ' (β.set k u) (h.set k b) w':=by
 have hi2:=hi.step hst
 have hkl:k < h.length:=by
  rcases Nat.lt_or_ge k h.length with h' | h'
  ·exact h'
  ·rw [List.getElem?_eq_none h'] at hk; cases hk
 have at_:∀ {j:Nat} {b1:Blk},(h.set k b)[j]? = some b1 → (j = k ∧ b1 = b) ∨ (j ≠ k ∧ h[j]? = some b1):=by
  intro j b1 hj
  by_cases hjk:j = k
  ·subst hjk
   rw [List.getElem?_set_self hkl] at hj
   simp at hj
   exact .inl ⟨rfl,hj.symm⟩
  ·rw [List.getElem?_set_ne (Ne.symm hjk)] at hj
   exact .inr ⟨hjk,hj⟩
 have old:∀ {j g:Nat} {b1:Blk},h[j]? = some b1 → jQb β j g b1 → g < w.heap.size:=fun hj hc=>(jQx (hi.blk _ _ hj) hc).2
 refine ⟨hi2.low,hi2.size,hi2.prom,hi2.own,by simp [hi2.len],fun j v hj=>?_,fun j b1 hj=>?_,fun j b1 g hj hc a ha hs=>?_,fun i j bi bj g hij hbi hbj hci hcj=>?_,hi2.glob⟩
 ·rcases set_at hj with ⟨_,rfl⟩ | ⟨_,h1⟩
  ·exact hone
  ·exact hi2.one j v h1
 ·rcases at_ hj with ⟨rfl,rfl⟩ | ⟨_,h1⟩
  ·exact hnew
  ·exact BlkR_fill hβ (hi2.blk j b1 h1)
 ·rcases at_ hj with ⟨rfl,rfl⟩ | ⟨hjk,h1⟩
  ·exact hfree g hc a ha hs
  ·exact hi2.free j b1 g h1 (jJ9 hjk hc) a ha hs
 ·rcases at_ hbi with ⟨rfl,rfl⟩ | ⟨hik,h1⟩ <;> rcases at_ hbj with ⟨rfl,rfl⟩ | ⟨hjk,h2⟩
  ·exact hij rfl
  ·have:=hge g hci
   have:=old h2 (jJ9 hjk hcj)
   omega
  ·have:=hge g hcj
   have:=old h1 (jJ9 hik hci)
   omega
  ·exact hi2.sep i j bi bj g hij h1 h2 (jJ9 hik hci) (jJ9 hjk hcj)
def NewB (C:Ctx) (B:Nat → Prop) (Ψ:Pr) (w w':World) (j:Nat) (v:Value) (b:Blk) (av:AV):Prop :=
 v.oneCell' = true ∧ ∀ β':List Value,β'[j]? = some v → BlkR C.P B Ψ β' w' j b ∧ (∀ g,jQb β' j g b → w.heap.size ≤ g) ∧ (∀ g,jQb β' j g b → ∀ a,a.block = g → pl a → Ψ a = none) ∧ RelV Ψ β' av v
theorem yldG_wp (hsp:jQe C) {o:Oper} {mid:List AV} {b:Blk} {j:Nat} (hy:YldG C h o mid b) (hi:InvH C.P B w0 Ψ β h w) (hev:∀ x ∈ o.op.operands,RelV Ψ β (ev mid x) (a.eval x)) {ro:Option Nat} {Q:Exit → Act → World → Prop} :
 o.wpIn (Fw ro) 0 C.P a w (fun a' w'=>∃ v Ψ',a' = a.put o.dst v ∧ Step Ψ w Ψ' w' ∧ NewB C B Ψ' w w' j v b (.sl j)) Q:=by
 obtain ⟨f,args,ats,g,gs,x,ho,hef,hs,hnr,hg,hd',hpre,rfl⟩:=hy
 have hnd:∀ c,o.op ≠ .defer c:=fun c hc=>by rw [ho] at hc; cases hc
 refine ⟨fun _ _=>trivial,?_⟩
 rw [Oper.semAt_eq _ _ _ hnd]
 have hfv:=hev f (by simp [ho,Op.operands,Call.operands])
 rw [hef] at hfv
 obtain ⟨vs,hfv,hl⟩:=hfv
 simp only [RelL] at hl
 subst hl
 rw [op_enter ho hfv hg]
 have hargs:=jZg (Ψ:=Ψ) (β:=β) (fr:=mid) (a:=a) args.toList fun x hx=>hev x (by simp [ho,Op.operands,Call.operands]; exact .inr (by simpa using hx))
 rw [List.append_nil]
 have hrel:=jJk (PLe.refl Ψ) hd' hargs (by rw [jZ5 hnr]; exact Reading.nil)
 refine ⟨fun h=>(by cases ro <;> cases h),(jKu ro _ (fresh_raw (px:=[]) (hsp.2.1 g gs hs) hi hrel hpre)).mono ?_⟩
 rintro e w' ⟨v,Ψ',rfl,hst,hone,hblk,hfree⟩
 exact ⟨v,Ψ',rfl,hst,hone,fun β' hget=>⟨grow_at hget hi.size hblk,fun g hc=>Nat.le_of_not_lt (jQx hblk (claims_at hget hc)).1,fun g hc=>hfree g (claims_at hget hc),hget,jJx hblk rfl⟩⟩
theorem yldA_wp {o:Oper} {b:Blk} {j:Nat} (hy:YldA C o b) (hi:InvH C.P B w0 Ψ β h w) {ro:Option Nat} {Q:Exit → Act → World → Prop} :
 o.wpIn (Fw ro) 0 C.P a w (fun a' w'=>∃ v Ψ',a' = a.put o.dst v ∧ Step Ψ w Ψ' w' ∧ NewB C B Ψ' w w' j v b (.own j 0)) Q:=by
 have hcs:acell C o = some b:=hy
 obtain ⟨dst,op,ty,pos,after,guard⟩:=o
 unfold acell at hcs
 split at hcs
 ·rename_i t ho
  simp only at ho
  subst ho
  split at hcs
  ·rename_i z hz
   obtain ⟨i,v,hii,hiz,rfl⟩:=jX5 hz
   have hnd:∀ c,(Op.alloc t) ≠ .defer c:=fun c hc=>by cases hc
   refine ⟨fun _ _=>trivial,?_⟩
   rw [Oper.semAt_eq _ _ _ hnd]
   have hrun:(execOp a.eval { dst:=dst,op:=.alloc t,type:=ty,pos:=pos,after:=after,guard:=guard }).run C.P w = .ok (.value (.pointer (some ⟨w.heap.size,0,none⟩))) (w.alloc (.cells v.cells t)):=by
    simp [execOp,Instr.alloc,zeroValue,typeInfo,hii,hiz,newVar,newRow]
   rw [hrun]
   have fin:∀ b':Blk,(∀ β':List Value,β'[j]? = some (.pointer (some ⟨w.heap.size,0,none⟩)) → BlkR C.P B Ψ β' (w.alloc (.cells v.cells t)) j b') → (∀ β' g,jQb β' j g b' → β'[j]? = some (.pointer (some ⟨g,0,none⟩))) →
    ∃ u Ψ',a.put dst (.pointer (some ⟨w.heap.size,0,none⟩)) = a.put dst u ∧ Step Ψ w Ψ' (w.alloc (.cells v.cells t)) ∧ NewB C B Ψ' w (w.alloc (.cells v.cells t)) j u b' (.own j 0):=by
    intro b' hb' hcl
    refine ⟨_,Ψ,rfl,⟨(Below.refl _ w).alloc (Nat.le_refl _) _,PLe.refl _,fun _ _ h=>.inl h⟩,rfl,fun β' hget=>⟨hb' β' hget,fun g hc=>?_,fun g hc ad had hs=>?_,w.heap.size,hget,rfl⟩⟩
    ·have hc:=hcl _ _ hc
     rw [hget] at hc
     simp at hc
     omega
    ·have hc:=hcl _ _ hc
     rw [hget] at hc
     simp at hc
     cases hp:Ψ ad with
     | none=>rfl
     | some u =>
      have:=Pm_lt (hi.prom ad u hp)
      omega
   cases had:C.asDat t with
   | true =>
    rw [had,cond_true] at hcs
    split at hcs
    ·rename_i u sz hu hsz
     split at hcs
     ·rename_i hc
      simp only [Bool.and_eq_true] at hc
      split at hcs
      ·rename_i x hx
       simp only [Option.some.injEq] at hcs
       subst hcs
       have hrefs:refs (ofV v) = []:=by
        have:=noRefs'_eq hc.2
        simpa [refsA] using this
       have hrd:=rv_cells (jKj (β:=β) (PLe.refl Ψ) hx (jZ4 v) (by rw [hrefs]; exact Reading.nil))
       exact fin _ (fun β' hget=>⟨w.heap.size,v.cells,t,hget,heap_alloc_new w _,jZ3 hi.size,hrd⟩) (fun _ _ hc=>hc)
      ·cases hcs
     ·cases hcs
    ·cases hcs
   | false =>
    rw [had,cond_false] at hcs
    split at hcs
    ·rename_i cs hc
     simp only [Option.some.injEq] at hcs
     subst hcs
     obtain ⟨hl,h1⟩:=cellsOf'_rel (Ψ:=Ψ) (β:=[]) (fun k u hk=>by simp at hk) hc (jZ4 v)
     exact fin _ (fun β' hget=>⟨w.heap.size,v.cells,t,hget,heap_alloc_new w _,jZ3 hi.size,jQl (PLe.refl _) (fun k v h=>by simp at h) _ _ hl,h1⟩) (fun _ _ hc=>hc)
    ·cases hcs
  ·cases hcs
 ·cases hcs
theorem yldP_wp {o:Oper} {mid:List AV} {b:Blk} {j:Nat} (hy:YldP C h o mid b) (hi:InvH C.P B w0 Ψ β h w) (hev:∀ x ∈ o.op.operands,RelV Ψ β (ev mid x) (a.eval x)) {ro:Option Nat} {Q:Exit → Act → World → Prop} :
 o.wpIn (Fw ro) 0 C.P a w (fun a' w'=>∃ v Ψ',a' = a.put o.dst v ∧ Step Ψ w Ψ' w' ∧ NewB C B Ψ' w w' j v b (.sl j)) Q:=by
 obtain ⟨args,ats,e,y,t,tx,tid,sz,z,ys,ho,hargs,hats,htf,hel,hsz,hz,hys,hcell,hzo,hroom,rfl⟩:=hy
 obtain ⟨dst,op,ty,pos,after,guard⟩:=o
 simp only at ho hev
 subst ho
 have hnd:∀ c,(Op.call { callee:=.builtin .append,args,argTypes:=ats }) ≠ .defer c:=fun c hc=>by cases hc
 refine ⟨fun _ _=>trivial,?_⟩
 rw [Oper.semAt_eq _ _ _ hnd]
 have hrel:=jZg (Ψ:=Ψ) (β:=β) (fr:=mid) (a:=a) args.toList (fun x hx=>hev x (by simp only [Op.operands,Call.operands,Array.mem_append]; exact .inr (by simpa using hx)))
 rw [hargs] at hrel
 obtain ⟨u,vs',hvs,hu,hl⟩:=hrel
 obtain ⟨v,vs'',rfl,hv,hl⟩:=hl
 simp only [RelL] at hl
 subst hl
 obtain ⟨ad,rfl,hrv⟩:=hu
 obtain ⟨i,zv,hT⟩:=appT hel hsz hz hcell hzo
 obtain ⟨news,hs,hd⟩:=tail_src hi hv hys
 obtain ⟨u',w',hrun,hb,hone,hblk,hcl⟩:=jJr (ty:=ty) hT ad hs hd hi.size hroom
 have hats':ats = #[t,tx]:=by rw [← Array.toArray_toList (xs:=ats),hats]
 subst hats'
 have hmap:args.map a.eval = #[.slice ad 0 0,v]:=by
  rw [← Array.toArray_toList (xs:=args.map a.eval),Array.toList_map,hvs]
  rfl
 have hrun':(execOp a.eval { dst:=dst,op:=.call { callee:=.builtin .append,args,argTypes:=#[t,tx] },type:=ty,pos:=pos,after:=after,guard:=guard }).run C.P w = .ok (.value u') w':=by
  have h0:(do pure (Next.value (← Builtin.append_ #[t,tx] ty #[.slice ad 0 0,v])):Sem Next).run C.P w = .ok (.value u') w':=by simp [hrun]
  rw [← h0]
  simp [execOp,resolve,invoke,builtin,hmap]
 rw [hrun']
 refine ⟨u',Ψ,rfl,⟨hb,PLe.refl _,fun _ _ h=>.inl h⟩,hone,fun β' hget=>⟨hblk β' j hget,fun g hc=>hcl β' j g hget hc,fun g hc ad' had hs'=>?_,hget,?_⟩⟩
 ·cases hp:Ψ ad' with
  | none=>rfl
  | some x =>
   have h1:=Pm_lt (hi.prom ad' x hp)
   have h2:=hcl β' j g hget hc
   omega
 ·exact jJx (hblk β' j hget) hget
theorem yld_wp (hsp:jQe C) {o:Oper} {mid:List AV} {av:AV} (hy:Yld C h o mid av) (hi:InvH C.P B w0 Ψ β h w) (hev:∀ x ∈ o.op.operands,RelV Ψ β (ev mid x) (a.eval x)) {ro:Option Nat} {Q:Exit → Act → World → Prop} :
 o.wpIn (Fw ro) 0 C.P a w (fun a' w'=>∃ v Ψ',a' = a.put o.dst v ∧ Step Ψ w Ψ' w' ∧ RelV Ψ' β av v) Q:=by
 have hnd:∀ c,o.op ≠ .defer c:=fun c hc=>by
  rcases hy with ⟨f,args,ats,g,sp,x,ho,_⟩ | ⟨hn,_⟩
  ·rw [ho] at hc; cases hc
  ·rw [hc] at hn; simp [neutral] at hn
 refine ⟨fun _ _=>trivial,?_⟩
 rw [Oper.semAt_eq _ _ _ hnd]
 rcases hy with ⟨f,args,ats,g,sp,x,ho,hef,hs,hc,hg,hd,hpre,rfl⟩ | ⟨hn,r,hr,hp,rfl⟩
 ·have hfv:=hev f (by simp [ho,Op.operands,Call.operands])
  rw [hef] at hfv
  obtain ⟨vs,hfv,hl⟩:=hfv
  simp only [RelL] at hl
  subst hl
  rw [op_enter ho hfv hg]
  have hargs:=jZg (Ψ:=Ψ) (β:=β) (fr:=mid) (a:=a) args.toList fun x hx=>hev x (by simp [ho,Op.operands,Call.operands]; exact .inr (by simpa using hx))
  rw [List.append_nil]
  refine ⟨fun h=>(by cases ro <;> cases h),(jKu ro _ (contract_call (hsp.1 g sp hs) hi (maskAs_rel sp.ps hargs) hd hpre (hc.imp id jZ5))).mono ?_⟩
  rintro e w' ⟨v,Ψ',rfl,hst,hv⟩
  exact ⟨v,Ψ',rfl,hst,hv⟩
 ·obtain ⟨_,_,v,Ψ',w',hrun,hst,hv⟩:=neutral_sound hi hev hn hr hp
  rw [hrun]
  exact ⟨v,Ψ',rfl,hst,hv⟩
end Go.AM
