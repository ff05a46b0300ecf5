import Derived.Test.YtbjjaaimhleedaaGreatDoorKt2
set_option linter.unusedSimpArgs false
set_option linter.unusedVariables false
namespace Go.AM
open Go.RowKit
variable {B:Nat → Prop} {w0:World} {C:Ctx} {Ψ:Pr} {β:List Value} {h:List Blk} {w:World} {fr:List AV} {a:Act}
theorem jK5 {t tid:TypeId} {sz:Nat} (he:jJp C t = some tid) (hs:C.size tid = some sz) {ad:Addr} {len cap:Nat} {k:IntKind} {i:Int} (h0:0 ≤ i) (h1:i < len) :
 (Instr.indexAt t (.slice (some ad) len cap) (.int k i)).run C.P w = .ok (.pointer (some (ad.add (i.toNat * sz)))) w:=by
 simp [Instr.indexAt,run_underlying (jQ6 he),asIntOf,h0,h1,jQo hs]
theorem jKc {t et:TypeId} {n sz:Nat} (ha:arrayOf C t = some (n,et)) (hs:C.size et = some sz) {ad:Addr} {k:IntKind} {i:Int} (h0:0 ≤ i) (h1:i < n) :
 (Instr.indexAt t (.pointer (some ad)) (.int k i)).run C.P w = .ok (.pointer (some (ad.add (i.toNat * sz)))) w:=by
 simp [Instr.indexAt,run_underlying (jJq ha),asIntOf,Instr.sureAddr,h0,h1,jQo hs]
theorem indexArr_ok {t:TypeId} {av:AV} {v:Value} {k:IntKind} {i:Int} {r:Out} (hx:RelV Ψ β av v) (hr:aindexArr C h t av i = some r) (hp:∀ p,r.need = some p → p) :
 r.heap = h ∧ r.kill = none ∧ NOk C Ψ β w (Instr.indexAt t v (.int k i)) r.v:=by
 unfold aindexArr at hr
 split at hr
 ·rename_i n et ha
  split at hr
  ·rename_i sz hs
   split at hr
   ·rename_i k' off
    cases hd:(C.asDat t && Nat.beq sz 1) with
    | true =>
     rw [hd,cond_true] at hr
     simp only [Bool.and_eq_true,Nat.beq_eq] at hd
     obtain ⟨_,rfl⟩:=hd
     have:=jQv hr; subst this
     obtain ⟨h0,h1⟩:(0:Int) ≤ i ∧ i < (n:Int):=hp _ rfl
     obtain ⟨g,hβ,rfl⟩:=hx
     refine ⟨rfl,rfl,NOk.of_run (v:=.pointer (some ⟨g,off + i.toNat,none⟩)) ?_ ⟨g,hβ,h0,h1,rfl⟩⟩
     rw [jKc ha hs h0 h1,Addr.add_lit,Nat.mul_one]
    | false =>
     rw [hd,cond_false] at hr
     have:=jQv hr; subst this
     obtain ⟨h0,h1⟩:(0:Int) ≤ i ∧ i < (n:Int):=hp _ rfl
     obtain ⟨g,hβ,rfl⟩:=hx
     refine ⟨rfl,rfl,NOk.of_run (v:=.pointer (some ⟨g,off + i.toNat * sz,none⟩)) ?_ ⟨g,hβ,rfl⟩⟩
     rw [jKc ha hs h0 h1,Addr.add_lit]
   ·rename_i m e xs
    split at hr
    ·rename_i hc
     simp only [Bool.and_eq_true,Nat.beq_eq] at hc
     obtain ⟨hsz,rfl⟩:=hc
     have:=jQv hr; subst this
     obtain ⟨h0,h1⟩:(0:Int) ≤ i ∧ i < (m:Int):=hp _ rfl
     obtain ⟨g,off,cs,rfl,⟨hlen,hd⟩,hpr⟩:=hx
     have hlt:i.toNat < xs.length:=by omega
     obtain ⟨us,hus,hget⟩:=rdL_get (jQa e) _ _ hd i.toNat xs[i.toNat] (List.getElem?_eq_getElem hlt)
     have hD:xs.getD i.toNat (dflt e) = xs[i.toNat]:=by simp [List.getD_eq_getElem?_getD,List.getElem?_eq_getElem hlt]
     refine ⟨rfl,rfl,NOk.of_run (v:=.pointer (some ⟨g,off + i.toNat * sz,none⟩)) ?_ ⟨g,off + i.toNat * sz,us,rfl,by rw [hD]; exact hus,fun j u hj=>?_⟩⟩
     ·rw [jKc ha hs h0 h1,Addr.add_lit]
     ·have:=hpr _ _ (hget j u hj)
      rw [← hsz]
      rwa [← Nat.add_assoc] at this
    ·cases hr
   ·cases hr
  ·cases hr
 ·cases hr
theorem indexAddr_ok {t:TypeId} {av iv:AV} {v u:Value} {r:Out} (hi:InvH C.P B w0 Ψ β h w) (hx:RelV Ψ β av v) (hu:RelV Ψ β iv u) (hr:jKx C h t av iv = some r) (hp:∀ p,r.need = some p → p) :
 r.heap = h ∧ r.kill = none ∧ NOk C Ψ β w (Instr.indexAt t v u) r.v:=by
 unfold jKx at hr
 split at hr
 ·rename_i tid _ i0 he
  obtain ⟨i,rfl⟩:∃ i:Int,i = i0:=⟨i0,rfl⟩
  obtain ⟨rfl,hik⟩:=jQj.1 hu
  split at hr
  ·rename_i sz hs
   split at hr
   ·rename_i k
    split at hr
    ·rename_i tid' e xs hg
     split at hr
     ·rename_i hc
      have hsz:e.cells = sz:=by simpa [Nat.beq_eq] using hc
      have:=jQv hr; subst this
      obtain ⟨h0,h1⟩:(0:Int) ≤ i ∧ i < (xs.length:Int):=hp _ rfl
      have hv:β[k]? = some v:=hx.1
      rcases hi.blk k _ (jQc hg (by simp)) with ⟨ad,hβ,rfl⟩ | ⟨g,cap,cur,hβ,hz,hB,hh,hn,hcm,hcs,hd⟩
      ·simp at h1
       omega
      ·rw [hβ] at hv
       simp at hv
       subst hv
       refine ⟨rfl,rfl,NOk.of_run (v:=.pointer (some ⟨g,i.toNat * sz,none⟩)) ?_ ⟨g,_,cap,hβ,h0,h1,rfl⟩⟩
       rw [jK5 he hs h0 h1,Addr.add_lit]
       simp
     ·cases hr
    ·cases hr
   ·rename_i k n
    have:=jQv hr; subst this
    obtain ⟨h0,h1⟩:(0:Int) ≤ i ∧ i < (n:Int):=hp _ rfl
    obtain ⟨g,hβ,hn,rfl⟩:=hx
    refine ⟨rfl,rfl,NOk.of_run (v:=.pointer (some ⟨g,i.toNat * sz,none⟩)) ?_ ⟨g,hβ,rfl⟩⟩
    rw [jK5 he hs h0 h1,Addr.add_lit]
    simp
   ·rename_i hnsl _
    split at hr
    ·rename_i e xs hl
     split at hr
     ·rename_i hc
      have hsz:e.cells = sz:=by simpa [Nat.beq_eq] using hc
      have:=jQv hr; subst this
      obtain ⟨h0,h1⟩:(0:Int) ≤ i ∧ i < (xs.length:Int):=hp _ rfl
      obtain ⟨ad,cap,rfl,_,_,h3⟩:=rv_arr.1 (asList_rv hx hl (fun k e=>hnsl k e))
      have hlt:i.toNat < xs.length:=by omega
      rcases h3 with rfl | ⟨cells,hd,g,off,rfl,hc'⟩
      ·simp at hlt
      ·obtain ⟨us,hus,hget⟩:=rdL_get (jQa e) _ _ hd i.toNat xs[i.toNat] (List.getElem?_eq_getElem hlt)
       have hD:xs.getD i.toNat (dflt e) = xs[i.toNat]:=by simp [List.getD_eq_getElem?_getD,List.getElem?_eq_getElem hlt]
       refine ⟨rfl,rfl,NOk.of_run (v:=.pointer (some ⟨g,off + i.toNat * sz,none⟩)) ?_ ⟨g,off + i.toNat * sz,us,rfl,by rw [hD]; exact hus,fun j u hj=>?_⟩⟩
       ·rw [jK5 he hs h0 h1,Addr.add_lit]
       ·have:=hc' _ _ (hget j u hj)
        rw [← hsz]
        rwa [← Nat.add_assoc] at this
     ·cases hr
    ·cases hr
  ·cases hr
 ·rename_i i0 he
  obtain ⟨rfl,_⟩:=jQj.1 hu
  exact indexArr_ok hx hr hp
 ·cases hr
theorem strOf_get {l:List Int} (hl:∀ c ∈ l,0 ≤ c ∧ c ≤ 255) {i:Nat} (hi:i < l.length):∃ b,(strOf l)[i]? = some b ∧ (b.toNat:Int) = l.getD i 0 ∧ IntKind.u8.has (l.getD i 0):=by
 have hsz:i < (strOf l).size:=by rw [jXg]; exact hi
 have h1:l.getD i 0 = l[i]:=by simp [List.getD_eq_getElem?_getD,List.getElem?_eq_getElem hi]
 have h2:=hl l[i] (List.getElem_mem hi)
 refine ⟨(strOf l)[i],by simp [hsz],?_,?_⟩
 ·rw [h1]
  have:(strOf l)[i] = UInt8.ofNat l[i].toNat:=by
   show (strOf l).data[i] = _
   simp [strOf]
  rw [this]
  simp
  omega
 ·rw [h1]
  unfold IntKind.has
  simp [IntKind.min,IntKind.max,IntKind.bits,IntKind.signed]
  omega
theorem index_ok {t:TypeId} {av iv:AV} {v u:Value} {r:Out} (hx:RelV Ψ β av v) (hu:RelV Ψ β iv u) (hr:aindex C h t av iv = some r) (hp:∀ p,r.need = some p → p) :
 r.heap = h ∧ r.kill = none ∧ NOk C Ψ β w (Instr.index t v u) r.v:=by
 unfold aindex at hr
 split at hr
 ·rename_i s _ i0 hut
  obtain ⟨i,rfl⟩:∃ i:Int,i = i0:=⟨i0,rfl⟩
  obtain ⟨rfl,hik⟩:=jQj.1 hu
  obtain ⟨rfl,hs,hs'⟩:=jZt.1 hx
  have:=jQv hr; subst this
  obtain ⟨h0,h1⟩:(0:Int) ≤ i ∧ i < (List.length (α:=Int) s:Int):=hp _ rfl
  obtain ⟨b,hb,hbn,hk⟩:=strOf_get hs (i:=i.toNat) (by omega)
  refine ⟨rfl,rfl,NOk.of_run (v:=.int .u8 (s.getD i.toNat 0)) ?_ (jQj.2 ⟨rfl,hk⟩)⟩
  rw [← hbn]
  simp [Instr.index,run_underlying hut,asIntOf,h0,hb]
 ·rename_i n et m e xs ki i0 hut
  obtain ⟨i,rfl⟩:∃ i:Int,i = i0:=⟨i0,rfl⟩
  obtain ⟨rfl,hik⟩:=jQj.1 hu
  split at hr
  ·rename_i ag sz hlay
   split at hr
   ·rename_i hc
    simp only [Bool.and_eq_true,Nat.beq_eq,beq_iff_eq] at hc
    obtain ⟨⟨rfl,rfl⟩,rfl⟩:=hc
    have:=jQv hr; subst this
    obtain ⟨h0,h1⟩:(0:Int) ≤ i ∧ i < (m:Int):=hp _ rfl
    obtain ⟨cs,⟨hlen,hd⟩,hv⟩:=hx
    have hv:v = .agg cs.toArray:=hv
    subst hv
    have hlt:i.toNat < List.length (α:=e.den) xs:=by omega
    have hdr:=jJw (jQa e) _ _ i.toNat hd
    rw [List.drop_eq_getElem_cons hlt] at hdr
    obtain ⟨us,rest,hsp,hus,_⟩:=hdr
    have husl:=jQa e _ _ hus
    have hS:(cs.drop (i.toNat * e.cells)).take e.cells = us:=by rw [hsp,← husl,List.take_left]
    have hle:i.toNat * e.cells + e.cells ≤ cs.length:=by
     have h2:=congrArg List.length hsp
     simp only [List.length_drop,List.length_append] at h2
     rcases Nat.eq_zero_or_pos e.cells with h3 | h3
     ·have:=jZ2 (jQa e) _ _ hd
      rw [h3] at this ⊢
      omega
     ·omega
    have hD:List.getD xs i.toNat (dflt e) = xs[i.toNat]:=by simp [List.getD_eq_getElem?_getD,List.getElem?_eq_getElem hlt]
    have hrun:=run_part (w:=w) (vs:=cs) hlay hle
    rw [hS] at hrun
    refine ⟨rfl,rfl,NOk.of_run (v:=valOf e.isAgg us) ?_ (by rw [hD]; exact jJh hus rfl (fun hf=>by rw [husl]; exact (jXc hlay).2.2 hf))⟩
    simp [Instr.index,run_underlying hut,asIntOf,h0,h1,jQo (jXc hlay).1,hrun]
   ·cases hr
  ·cases hr
 ·cases hr
theorem extract_ok {av:AV} {v:Value} {i:Nat} {r:Out} (hx:RelV Ψ β av v) (hr:aextract h av i = some r) :
 r.heap = h ∧ r.kill = none ∧ r.need = none ∧ NOk C Ψ β w (Instr.extract v i) r.v:=by
 unfold aextract at hr
 split at hr
 ·rename_i cs
  split at hr
  ·rename_i hc
   have:=jQd hr; subst this
   obtain ⟨vs,rfl,hl⟩:=hx
   obtain ⟨u,hu,hrel⟩:=jQ7? _ _ hl i (by simp only [Nat.ble_eq,jQ5] at hc; omega)
   exact ⟨rfl,rfl,rfl,NOk.of_run (v:=u) (by simp [Instr.extract,hu]) hrel⟩
  ·cases hr
 ·cases hr
theorem rdL_ints_inv {k:IntKind}:∀ (l:List Int) (cs:List Value),rdL (reads Ψ (.int k)) l cs → cs = l.map (Value.int k) ∧ ∀ c ∈ l,k.has c
 | [],cs,h=>by simp only [rdL] at h; subst h; simp
 | x :: l,cs,⟨c,vs',e,⟨hc,hk⟩,hl⟩=>by
  obtain ⟨h1,h2⟩:=rdL_ints_inv l vs' hl
  subst e hc h1
  refine ⟨rfl,fun c hm=>?_⟩
  rcases List.mem_cons.1 hm with rfl | hm
  ·exact hk
  ·exact h2 c hm
theorem u8_bounds {c:Int} (h:IntKind.u8.has c):0 ≤ c ∧ c ≤ 255:=by
 unfold IntKind.has at h
 simpa [IntKind.min,IntKind.max,IntKind.bits,IntKind.signed] using h
theorem convert_ok {src dst:TypeId} {av:AV} {v:Value} {r:Out} (hi:InvH C.P B w0 Ψ β h w) (hx:RelV Ψ β av v) (hr:aconvert C h src dst av = some r) :
 r.heap = h ∧ r.kill = none ∧ r.need = none ∧ NOk C Ψ β w (convert src dst v) r.v:=by
 unfold aconvert at hr
 split at hr
 ·rename_i k0 k hsrc hdst
  split at hr
  ·rename_i j n
   obtain ⟨rfl,hn⟩:=jQj.1 hx
   have hrun:(convert src dst (.int j n)).run C.P w = .ok (.int k (k.wrap n)) w:=by
    simp [convert,run_underlying hsrc,run_underlying hdst,Conv.intToInt]
   split at hr
   ·have:=jQd hr; subst this
    exact ⟨rfl,rfl,rfl,NOk.of_run (by rw [hrun,wrap_has hn]) (jQj.2 ⟨rfl,hn⟩)⟩
   ·have:=jQd hr; subst this
    exact ⟨rfl,rfl,rfl,NOk.of_run hrun (jQj.2 ⟨rfl,jXx _ _⟩)⟩
  ·cases hr
 ·rename_i et hsrc hdst
  split at hr
  ·rename_i he
   have empty:∀ ad cap,(convert src dst (.slice ad 0 cap)).run C.P w = .ok (.string (strOf [])) w:=by
    intro ad cap
    rw [run_convert_bytes_string w src dst et ad 0 cap hsrc he hdst]
    cases ad with
    | none=>simp [Conv.bytesToString]; rfl
    | some ad =>
     have hl:(loadCells ad 0).run C.P w = .ok (([]:List Int).map (Value.int .u8)).toArray w:=run_loadCells_list w ad [] (by simp)
     rw [run_bytesToString w ad 0 cap [] hl]
     rfl
   have hnil:RelV Ψ β (.d .str []) (.string (strOf [])):=jZt.2 ⟨rfl,by simp,by simp [maxLen]⟩
   split at hr
   ·have:=jQd hr; subst this
    have hv:v = .slice none 0 0:=hx
    subst hv
    exact ⟨rfl,rfl,rfl,NOk.of_run (empty none 0) hnil⟩
   ·split at hr
    ·rename_i e xs hl
     split at hr
     ·rename_i ys hc
      obtain ⟨hee,rfl⟩:=cast?_spec hc
      simp only [Ty.arr.injEq] at hee
      subst hee
      have:=jQd hr; subst this
      obtain ⟨ad,cap,rfl,h1,h2,h3⟩:=jKv hi hx hl
      rcases h3 with rfl | ⟨cells,g,off,hd,rfl,hcell⟩
      ·exact ⟨rfl,rfl,rfl,NOk.of_run (empty ad cap) hnil⟩
      ·obtain ⟨rfl,hk⟩:=rdL_ints_inv (Ψ:=Ψ) xs _ hd
       refine ⟨rfl,rfl,rfl,NOk.of_run (v:=.string (strOf xs)) ?_ (jZt.2 ⟨rfl,fun c hc=>u8_bounds (hk c hc),Nat.le_trans h1 h2⟩)⟩
       exact run_convert_bytes_arg w src et hsrc he g off xs.length cap xs rfl (fun i hi'=>hcell i _ (by rw [List.getElem?_map,List.getElem?_eq_getElem hi']; simp [List.getD_eq_getElem?_getD,List.getElem?_eq_getElem hi'])) dst hdst
     ·cases hr
    ·cases hr
  ·cases hr
 ·cases hr
theorem arrayAt_ok {t:TypeId} {av:AV} {v:Value} {r:Out} (hx:RelV Ψ β av v) (hr:aarrayAt C h t av = some r) (hp:∀ p,r.need = some p → p) :
 r.heap = h ∧ r.kill = none ∧ NOk C Ψ β w (Instr.arrayAt t v) r.v:=by
 unfold aarrayAt at hr
 split at hr
 ·rename_i n et ha
  split at hr
  ·rename_i sz hs
   split at hr
   ·cases hr
   ·rename_i k off m lo hi
    split at hr
    ·rename_i hc
     simp only [Bool.and_eq_true,Nat.beq_eq,Nat.ble_eq] at hc
     have:=jQv hr; subst this
     have hlen:lo + (n:Int) ≤ hi:=hp _ rfl
     obtain ⟨g,hβ,h1,h2,h3,h4,rfl⟩:=hx
     refine ⟨rfl,rfl,NOk.of_run (v:=.pointer (some ⟨g,off + lo.toNat,none⟩)) ?_ ⟨g,hβ,rfl⟩⟩
     have:¬ hi.toNat - lo.toNat < n:=by omega
     simp [Instr.arrayAt,run_underlying (jJq ha),this]
    ·cases hr
   ·rename_i hnsl _
    split at hr
    ·rename_i e xs hl
     split at hr
     ·rename_i hc
      simp only [Bool.and_eq_true,Nat.beq_eq,Nat.ble_eq] at hc
      obtain ⟨hsz,h1⟩:=hc
      have:=jQv hr; subst this
      have hlen:(n:Int) ≤ xs.length:=hp _ rfl
      obtain ⟨ad,cap,rfl,_,_,h3⟩:=rv_arr.1 (asList_rv hx hl (fun k e=>hnsl k e))
      rcases h3 with rfl | ⟨cells,hd,g,off,rfl,hcell⟩
      ·simp at hlen; omega
      ·refine ⟨rfl,rfl,NOk.of_run (v:=.pointer (some ⟨g,off,none⟩)) ?_ ⟨g,off,cells.take (n * e.cells),rfl,⟨by simp; omega,jJv (jQa e) _ _ n hd⟩,fun j u hj=>hcell j u ?_⟩⟩
       ·have:¬ xs.length < n:=by omega
        simp [Instr.arrayAt,run_underlying (jJq ha),this]
       ·rw [List.getElem?_take] at hj
        split at hj
        ·exact hj
        ·cases hj
     ·cases hr
    ·cases hr
  ·cases hr
 ·cases hr
theorem setCells_eq (cs:List AV) (off:Nat) (l:List AV) (hle:off + l.length ≤ cs.length):jJu cs off l = cs.take off ++ l ++ cs.drop (off + l.length):=by
 induction l generalizing cs off with
 | nil=>simp [jJu]
 | cons v l ih =>
  simp only [List.length_cons] at hle
  rw [jJu,ih _ _ (by rw [fset_eq,List.length_set]; omega),fset_eq]
  rw [List.take_set,List.drop_set]
  have h1:(cs.take (off + 1)).set off v = cs.take off ++ [v]:=by
   rw [List.set_eq_take_append_cons_drop,if_pos (by simp; omega)]
   simp [List.take_take]
  rw [h1,if_pos (by omega)]
  simp [List.append_assoc]
  congr 1
  omega
theorem RelL_setCells {cs l:List AV} {vs us:List Value} {off:Nat} (hr:RelL Ψ β cs vs) (hl:RelL Ψ β l us) (hle:off + l.length ≤ cs.length) :
 RelL Ψ β (jJu cs off l) (vs.take off ++ us ++ vs.drop (off + us.length)):=by
 rw [setCells_eq cs off l hle]
 have e:=jXl _ _ hl
 rw [e]
 exact jX4 _ _ _ _ (jX4 _ _ _ _ (jK0 _ _ _ hr) hl) (jK1 _ _ _ hr)
theorem jJz:∀ {t:Ty} {x:t.den} {l:List AV} {cs:List Value},jJs t x = some l → reads Ψ t x cs → RelL Ψ β l cs
 | .pair a b,x,l,cs,hs,hr=>by
  unfold jJs at hs
  split at hs
  ·rename_i la ha
   split at hs
   ·rename_i lb hb
    simp at hs
    subst hs
    obtain ⟨u,v,rfl,hu,hv⟩:=hr
    exact jX4 _ _ _ _ (jJz ha hu) (jJz hb hv)
   ·cases hs
  ·cases hs
 | .rose a b,x,l,cs,hs,hr=>by
  unfold jJs at hs
  split at hs
  ·rename_i la ha
   split at hs
   ·rename_i lb hb
    simp only [Option.some.injEq] at hs
    subst hs
    obtain ⟨u,s,v,rfl,hu,hv,hy⟩:=(jZv x cs).1 hr
    exact jX4 _ _ _ _ (jJz ha hu) ⟨s,v,rfl,⟨[s],hy,rfl⟩,jJz hb hv⟩
   ·cases hs
  ·cases hs
 | .unit,x,l,cs,hs,hr=>by
  simp only [jJs,Option.some.injEq] at hs
  subst hs
  exact hr
 | .vec n e,x,l,cs,hs,hr=>by
  unfold jJs at hs
  split at hs
  ·rename_i hsm
   obtain ⟨h1,h2⟩:=jZs hsm
   simp at hs
   subst hs
   obtain ⟨hlen,hd⟩:=hr
   have key:∀ (m i:Nat) (cs:List Value),i + m = n → rdL (reads Ψ e) (List.drop i x) cs → RelL Ψ β (vecCells e x i m) cs:=by
    intro m
    induction m with
    | zero =>
     intro i cs hi hd
     rw [List.drop_eq_nil_of_le (by omega)] at hd
     exact hd
    | succ m ih =>
     intro i cs hi hd
     have hlt:i < List.length x:=by omega
     rw [List.drop_eq_getElem_cons hlt] at hd
     obtain ⟨c,vs',rfl,hc,hl⟩:=hd
     have hc1:=jQa e _ _ hc
     rw [h1] at hc1
     obtain ⟨u,rfl⟩:=List.length_eq_one_iff.1 hc1
     refine ⟨u,vs',rfl,⟨[u],?_,by rw [h2]; rfl⟩,ih (i + 1) vs' (by omega) hl⟩
     have hD:List.getD x i (dflt e) = x[i]:=by simp [List.getD_eq_getElem?_getD,List.getElem?_eq_getElem hlt]
     rw [hD]
     exact hc
   exact key n 0 cs (by omega) (by simpa using hd)
  ·cases hs
 | .int k,x,l,cs,hs,hr=>by
  simp only [jJs,Option.some.injEq] at hs
  subst hs
  obtain ⟨rfl,hk⟩:=hr
  exact ⟨_,[],rfl,jQj.2 ⟨rfl,hk⟩,rfl⟩
 | .fnc,x,l,cs,hs,hr=>by
  simp only [jJs,Option.some.injEq] at hs
  subst hs
  simp only [reads] at hr
  subst hr
  exact ⟨_,[],rfl,⟨_,rfl,rfl⟩,rfl⟩
 | .any,x,l,cs,hs,hr=>by
  simp only [jJs,Option.some.injEq] at hs
  subst hs
  obtain ⟨v,rfl,h1⟩:=hr
  exact ⟨_,[],rfl,⟨[v],⟨v,rfl,h1⟩,rfl⟩,rfl⟩
 | .bool,x,l,cs,hs,hr=>by
  simp only [jJs,Option.some.injEq] at hs
  subst hs
  simp only [reads] at hr
  subst hr
  exact ⟨_,[],rfl,jJd.2 rfl,rfl⟩
 | .str,x,l,cs,hs,hr=>by
  simp only [jJs,Option.some.injEq] at hs
  subst hs
  obtain ⟨rfl,hk⟩:=hr
  exact ⟨_,[],rfl,jZt.2 ⟨rfl,hk⟩,rfl⟩
 | .arr e,x,l,cs,hs,hr=>by
  simp only [jJs,Option.some.injEq] at hs
  subst hs
  obtain ⟨ad,cap,rfl,hk⟩:=hr
  exact ⟨_,[],rfl,rv_arr.2 ⟨ad,cap,rfl,hk⟩,rfl⟩
theorem cellsOf'_rel (hone:∀ (k:Nat) (u:Value),β[k]? = some u → u.oneCell' = true) {av:AV} {v:Value} {l:List AV} (hc:cellsOf' av = some l) (hr:RelV Ψ β av v):RelL Ψ β l v.cells.toList ∧ (∀ u ∈ v.cells.toList,u.oneCell' = true):=by
 have jXv:∀ {av:AV} {v:Value},RelV Ψ β av v → v.oneCell' = true → RelL Ψ β [av] v.cells.toList ∧ (∀ u ∈ v.cells.toList,u.oneCell' = true):=by
  intro av v hr h1
  have hv:v.cells = #[v]:=by cases v <;> first | rfl | simp [Value.oneCell'] at h1
  rw [hv]
  exact ⟨⟨v,[],rfl,hr,rfl⟩,fun u hu=>by simp at hu; subst hu; exact h1⟩
 cases av with
 | d t x =>
  simp only [cellsOf'] at hc
  obtain ⟨cs,hcs,e⟩:=hr
  cases ht:t.isAgg with
  | true =>
   rw [ht] at e; simp at e; subst e
   simp only [Value.cells]
   exact ⟨jJz hc hcs,jXp t _ _ hcs⟩
  | false =>
   rw [ht] at e; simp at e; subst e
   have h1:=jXp t _ _ hcs v (by simp)
   have hv:v.cells = #[v]:=by cases v <;> first | rfl | simp [Value.oneCell'] at h1
   rw [hv]
   exact ⟨jJz hc hcs,fun u hu=>by simp at hu; subst hu; exact h1⟩
 | agg cs =>
  simp only [cellsOf',cellsOf,Option.some.injEq] at hc
  subst hc
  obtain ⟨vs,rfl,hl,h1⟩:=hr
  simp only [Value.cells]
  exact ⟨hl,h1⟩
 | junk=>simp [cellsOf',cellsOf] at hc
 | und=>simp [cellsOf',cellsOf] at hc
 | tup cs=>simp [cellsOf',cellsOf] at hc
 | tt=>simp only [cellsOf',cellsOf,Option.some.injEq] at hc; subst hc; have:v = _:=hr; subst this; exact jXv rfl rfl
 | ff=>simp only [cellsOf',cellsOf,Option.some.injEq] at hc; subst hc; have:v = _:=hr; subst this; exact jXv rfl rfl
 | nils=>simp only [cellsOf',cellsOf,Option.some.injEq] at hc; subst hc; have:v = _:=hr; subst this; exact jXv rfl rfl
 | nilf=>simp only [cellsOf',cellsOf,Option.some.injEq] at hc; subst hc; have:v = _:=hr; subst this; exact jXv rfl rfl
 | nilp=>simp only [cellsOf',cellsOf,Option.some.injEq] at hc; subst hc; have:v = _:=hr; subst this; exact jXv rfl rfl
 | fs e xs=>simp only [cellsOf',cellsOf,Option.some.injEq] at hc; subst hc; have hr':=hr; obtain ⟨ad,rfl,_⟩:=hr'; exact jXv hr rfl
 | fn f cs=>simp only [cellsOf',cellsOf,Option.some.injEq] at hc; subst hc; have hr':=hr; obtain ⟨ad,rfl,_⟩:=hr'; exact jXv hr rfl
 | bnd f cs=>simp only [cellsOf',cellsOf,Option.some.injEq] at hc; subst hc; have hr':=hr; obtain ⟨ad,rfl,_⟩:=hr'; exact jXv hr rfl
 | sv k sz lo hi=>simp only [cellsOf',cellsOf,Option.some.injEq] at hc; subst hc; have hr':=hr; obtain ⟨_,_,_,_,_,_,_,rfl⟩:=hr'; exact jXv hr rfl
 | own k off=>simp only [cellsOf',cellsOf,Option.some.injEq] at hc; subst hc; have hr':=hr; obtain ⟨ad,_,rfl⟩:=hr'; exact jXv hr rfl
 | slp k sz i=>simp only [cellsOf',cellsOf,Option.some.injEq] at hc; subst hc; have hr':=hr; obtain ⟨_,_,_,_,_,_,rfl⟩:=hr'; exact jXv hr rfl
 | rp t x=>simp only [cellsOf',cellsOf,Option.some.injEq] at hc; subst hc; have hr':=hr; obtain ⟨_,_,_,rfl,_⟩:=hr'; exact jXv hr rfl
 | sl k=>simp only [cellsOf',cellsOf,Option.some.injEq] at hc; subst hc; exact jXv hr (hone k v hr.1)
 | yld k=>simp only [cellsOf',cellsOf,Option.some.injEq] at hc; subst hc; exact jXv hr (by obtain ⟨l',_,rfl⟩:=hr; rfl)
 | glb g=>simp only [cellsOf',cellsOf,Option.some.injEq] at hc; subst hc; have:v = _:=hr; subst this; exact jXv rfl rfl
 | oix k off n i=>simp only [cellsOf',cellsOf,Option.some.injEq] at hc; subst hc; have hr':=hr; obtain ⟨_,_,_,_,rfl⟩:=hr'; exact jXv hr rfl
 | osl k off n lo hi=>simp only [cellsOf',cellsOf,Option.some.injEq] at hc; subst hc; have hr':=hr; obtain ⟨_,_,_,_,_,_,rfl⟩:=hr'; exact jXv hr rfl
 | slpf k sz i off=>simp only [cellsOf',cellsOf,Option.some.injEq] at hc; subst hc; have hr':=hr; obtain ⟨_,_,_,_,_,_,_,rfl⟩:=hr'; exact jXv hr rfl
 | ssl k n=>simp only [cellsOf',cellsOf,Option.some.injEq] at hc; subst hc; have hr':=hr; obtain ⟨_,_,_,rfl⟩:=hr'; exact jXv hr rfl
def setV (cs:List Value) (off:Nat):List Value → List Value
 | []=>cs
 | v :: vs=>setV (cs.set off v) (off + 1) vs
theorem setV_eq (cs:List Value) (off:Nat) (l:List Value) (hle:off + l.length ≤ cs.length):setV cs off l = cs.take off ++ l ++ cs.drop (off + l.length):=by
 induction l generalizing cs off with
 | nil=>simp [setV]
 | cons v l ih =>
  simp only [List.length_cons] at hle
  rw [setV,ih _ _ (by rw [List.length_set]; omega)]
  rw [List.take_set,List.drop_set]
  have h1:(cs.take (off + 1)).set off v = cs.take off ++ [v]:=by
   rw [List.set_eq_take_append_cons_drop,if_pos (by simp; omega)]
   simp [List.take_take]
  rw [h1,if_pos (by omega)]
  simp [List.append_assoc]
  congr 1
  omega
theorem fold_setV (off:Nat):∀ (l:List Value) (n:Nat) (cells:Array Value),
 ((l.zipIdx n).foldl (fun cs (p:Value × Nat)=>cs.setIfInBounds (off + p.2) p.1) cells).toList = setV cells.toList (off + n) l
 | [],_,_=>rfl
 | v :: l,n,cells=>by
  rw [List.zipIdx_cons,List.foldl_cons,fold_setV off l (n + 1)]
  simp [setV,Nat.add_assoc]
def RelP (Ψ:Pr) (β:List Value):List (Nat × AV) → List (Nat × Value) → Prop
 | [],ps=>ps = []
 | (i,av) :: r,ps=>∃ v ps',ps = (i,v) :: ps' ∧ RelV Ψ β av v ∧ RelP Ψ β r ps'
theorem evParts_rel:∀ (l:List (Nat × Operand)) (_:∀ p ∈ l,RelV Ψ β (ev fr p.2) (a.eval p.2)),RelP Ψ β (evParts fr l) (l.map fun (i,x)=>(i,a.eval x))
 | [],_=>rfl
 | (i,x) :: l,hev=>⟨a.eval x,_,rfl,hev (i,x) (by simp),evParts_rel l fun p hp=>hev p (by simp [hp])⟩
theorem fill_rel (hone:∀ (k:Nat) (u:Value),β[k]? = some u → u.oneCell' = true) (place:Nat → Option (Nat × Nat)):∀ (parts:List (Nat × AV)) (ps:List (Nat × Value)) (cs out:List AV) (cells:Array Value),
 fillA place cs parts = some out → RelP Ψ β parts ps → RelL Ψ β cs cells.toList → (∀ u ∈ cells.toList,u.oneCell' = true) →
 ∃ arr,Instr.fill place cells ps = some arr ∧ RelL Ψ β out arr.toList ∧ (∀ u ∈ arr.toList,u.oneCell' = true)
 | [],ps,cs,out,cells,hf,hp,hr,h1=>by
  simp only [fillA,Option.some.injEq] at hf
  simp only [RelP] at hp
  subst hf hp
  exact ⟨cells,rfl,hr,h1⟩
 | (_,av) :: parts,_,cs,out,cells,hf,⟨v,ps',rfl,hv,hp⟩,hr,h1=>by
  unfold fillA at hf
  split at hf
  ·cases hf
  ·rename_i off size hpl
   split at hf
   ·cases hf
   ·rename_i l hc
    split at hf
    ·rename_i hb
     simp only [Bool.and_eq_true,Nat.beq_eq,Nat.ble_eq,jQ5] at hb
     obtain ⟨hb1,hb2⟩:=hb
     obtain ⟨hl,hl1⟩:=cellsOf'_rel hone hc hv
     have hlen:=jXl _ _ hl
     have hcl:=jXl _ _ hr
     have hvs:v.cells.size = size:=by rw [← Array.length_toList]; omega
     have hcs:off + v.cells.size ≤ cells.size:=by rw [← Array.length_toList (xs:=cells)]; omega
     have hfold:(v.cells.zipIdx.foldl (fun cs (p:Value × Nat)=>cs.setIfInBounds (off + p.2) p.1) cells).toList = cells.toList.take off ++ v.cells.toList ++ cells.toList.drop (off + v.cells.toList.length):=by
      rw [← setV_eq _ _ _ (by rw [Array.length_toList,Array.length_toList]; exact hcs)]
      have:=fold_setV off v.cells.toList 0 cells
      rw [Nat.add_zero] at this
      rw [← this,← Array.toList_zipIdx,Array.foldl_toList]
     obtain ⟨arr,ha,hrel,hone'⟩:=fill_rel hone place parts ps' _ out (v.cells.zipIdx.foldl (fun cs (p:Value × Nat)=>cs.setIfInBounds (off + p.2) p.1) cells) hf hp
      (by rw [hfold]; exact RelL_setCells hr hl (by omega))
      (by
        rw [hfold]
        intro u hu
        simp only [List.mem_append] at hu
        rcases hu with (hu | hu) | hu
        ·exact h1 u (List.mem_of_mem_take hu)
        ·exact hl1 u hu
        ·exact h1 u (List.mem_of_mem_drop hu))
     refine ⟨arr,?_,hrel,hone'⟩
     unfold Instr.fill
     simp only [hpl]
     rw [if_neg (by simp; omega)]
     exact ha
    ·cases hf
theorem jX5 {t:TypeId} {z:AV} (hz:C.zero t = some z):∃ i v,C.P.info? t = some i ∧ i.zero = some v ∧ z = ofV v:=by
 unfold Ctx.zero at hz
 split at hz
 ·rename_i i hi
  split at hz
  ·rename_i v hv
   exact ⟨i,v,hi,hv,by simpa using hz.symm⟩
  ·cases hz
 ·cases hz
theorem build_ok {t:TypeId} {parts:Array (Nat × Operand)} {r:Out} (hone:∀ (k:Nat) (u:Value),β[k]? = some u → u.oneCell' = true) (hev:∀ p ∈ parts.toList,RelV Ψ β (ev fr p.2) (a.eval p.2)) (hr:abuild C h t (evParts fr parts.toList) = some r) :
 r.heap = h ∧ r.kill = none ∧ r.need = none ∧ NOk C Ψ β w (Instr.build t (parts.map fun (i,x)=>(i,a.eval x))) r.v:=by
 unfold abuild at hr
 split at hr
 ·rename_i fs hu
  split at hr
  ·rename_i zs ps hz hps
   split at hr
   ·rename_i cs hf
    have:=jQd hr; subst this
    obtain ⟨i,z,hi,hiz,hzv⟩:=jX5 hz
    have hzr:RelV Ψ β (.agg zs) z:=by rw [hzv]; exact jZ4 z
    obtain ⟨vs,rfl,hl,h1⟩:=hzr
    obtain ⟨arr,ha,hrel,h1'⟩:=fill_rel hone _ _ _ _ _ vs.toArray hf (evParts_rel parts.toList hev) (by simpa using hl) (by simpa using h1)
    have hb:C.P.built t (parts.map fun (i,x)=>(i,a.eval x)).toList = some arr:=by
     unfold Program.built
     simp only [hi,hu,hiz]
     unfold placesOf at hps
     simp only [hps]
     simpa [Value.cells] using ha
    refine ⟨rfl,rfl,rfl,NOk.of_run (run_build w t _ arr hb) ⟨arr.toList,by simp,hrel,h1'⟩⟩
   ·cases hr
  ·cases hr
 ·rename_i n et hu
  split at hr
  ·rename_i zs sz hz hs
   split at hr
   ·rename_i cs hf
    have:=jQd hr; subst this
    obtain ⟨i,z,hi,hiz,hzv⟩:=jX5 hz
    obtain ⟨ie,hie,hsz⟩:=size_of hs
    have hzr:RelV Ψ β (.agg zs) z:=by rw [hzv]; exact jZ4 z
    obtain ⟨vs,rfl,hl,h1⟩:=hzr
    obtain ⟨arr,ha,hrel,h1'⟩:=fill_rel hone _ _ _ _ _ vs.toArray hf (evParts_rel parts.toList hev) (by simpa using hl) (by simpa using h1)
    have hb:C.P.built t (parts.map fun (i,x)=>(i,a.eval x)).toList = some arr:=by
     unfold Program.built
     simp only [hi,hu,hiz,hie,hsz]
     simpa [Value.cells] using ha
    refine ⟨rfl,rfl,rfl,NOk.of_run (run_build w t _ arr hb) ⟨arr.toList,by simp,hrel,h1'⟩⟩
   ·cases hr
  ·cases hr
 ·cases hr
theorem Step.alloc (Ψ:Pr) (w:World) (c:Array Value) (t:TypeId) (Ψ':Pr) (hle:PLe Ψ Ψ') (hnew:∀ ad v,Ψ' ad = some v → Ψ ad = some v ∨ (ad.block = w.heap.size ∧ ad.spot = none ∧ c[ad.off]? = some v)) :
 Step Ψ w Ψ' (w.alloc (.cells c t)) where
 below:=(Below.refl _ _).alloc (Nat.le_refl _) _
 le:=hle
 new:=fun ad v hv=>(hnew ad v hv).imp id fun ⟨h1,h2,h3⟩=>⟨by omega,h2,by
  obtain ⟨b,o,s⟩:=ad
  simp only at h1 h2 h3
  subst h1 h2
  rw [World.cell?_alloc_new]
  exact h3⟩
def jXo (Ψ:Pr) (n:Nat) (c:List Value):Pr:=fun ad=>if ad.block = n ∧ ad.spot = none then c[ad.off]? else Ψ ad
theorem withBlock_le {Ψ:Pr} {w:World} {c:List Value} (hp:∀ ad v,Ψ ad = some v → Pm w ad v):PLe Ψ (jXo Ψ w.heap.size c):=by
 intro ad v hv
 unfold jXo
 rw [if_neg]
 ·exact hv
 ·rintro ⟨hb,_⟩
  have:=Pm_lt (hp ad v hv)
  omega
theorem withBlock_at {Ψ:Pr} {n:Nat} {c:List Value} (i:Nat):jXo Ψ n c ⟨n,i,none⟩ = c[i]?:=by simp [jXo]
theorem step_block (hi:InvH C.P B w0 Ψ β h w) (c:List Value) (t:TypeId):Step Ψ w (jXo Ψ w.heap.size c) (w.alloc (.cells c.toArray t)) :=
 Step.alloc Ψ w c.toArray t _ (withBlock_le hi.prom) fun ad v hv=>by
  unfold jXo at hv
  split at hv
  ·rename_i hc
   exact .inr ⟨hc.1,hc.2,by simpa using hv⟩
  ·exact .inl hv
theorem rv_cells {t:Ty} {x:t.den} {v:Value} (hr:rv Ψ t x v):reads Ψ t x v.cells.toList:=by
 obtain ⟨cs,hc,e⟩:=hr
 cases ht:t.isAgg with
 | true=>rw [ht] at e; simp at e; subst e; simpa [Value.cells] using hc
 | false =>
  rw [ht] at e; simp at e; subst e
  have h1:=jXp t _ _ hc v (by simp)
  have hv:v.cells = #[v]:=by cases v <;> first | rfl | simp [Value.oneCell'] at h1
  rw [hv]
  exact hc
theorem fill_all {e:Ty}:∀ (xs:List e.den) (vs:List Value) (n:Nat) (parts:List (Nat × Value)) (cells:Array Value),parts.map (·.2) = vs → parts.map (·.1) = List.range' n vs.length →
 xs.length = vs.length → (∀ (i:Nat) (x:e.den) (v:Value),xs[i]? = some x → vs[i]? = some v → rv Ψ e x v) → (n + vs.length) * e.cells ≤ cells.size →
 ∃ arr us,Instr.fill (fun i=>some (i * e.cells,e.cells)) cells parts = some arr ∧ rdL (reads Ψ e) xs us ∧ arr.toList = cells.toList.take (n * e.cells) ++ us ++ cells.toList.drop (n * e.cells + us.length) ∧ us = (vs.map fun v=>v.cells.toList).flatten
 | [],[],n,parts,cells,hp,_,_,_,_=>by
  have:parts = []:=by simpa using hp
  subst this
  exact ⟨cells,[],rfl,rfl,by simp,rfl⟩
 | x :: xs,v :: vs,n,parts,cells,hp,hn,hl,hrv,hsz=>by
  match parts,hp with
  | (i,v') :: parts,hp1 =>
  simp only [List.map_cons,List.cons.injEq] at hp1
  obtain ⟨rfl,hp1⟩:=hp1
  simp only [List.map_cons,List.length_cons,List.range'_succ,List.cons.injEq] at hn
  obtain ⟨rfl,hn⟩:=hn
  have hr:=rv_cells (hrv 0 x v' rfl rfl)
  have hlen:=jQa e _ _ hr
  have hvs:v'.cells.size = e.cells:=by rw [← hlen,Array.length_toList]
  simp only [List.length_cons] at hsz
  have hsz1:i * e.cells + v'.cells.size ≤ cells.size:=by
   rw [hvs]
   have:(i + 1) * e.cells ≤ (i + (vs.length + 1)) * e.cells:=Nat.mul_le_mul_right _ (by omega)
   rw [Nat.succ_mul] at this
   omega
  have hfold:(v'.cells.zipIdx.foldl (fun cs (p:Value × Nat)=>cs.setIfInBounds (i * e.cells + p.2) p.1) cells).toList = cells.toList.take (i * e.cells) ++ v'.cells.toList ++ cells.toList.drop (i * e.cells + v'.cells.toList.length):=by
   rw [← setV_eq _ _ _ (by rw [Array.length_toList,Array.length_toList]; exact hsz1)]
   have:=fold_setV (i * e.cells) v'.cells.toList 0 cells
   rw [Nat.add_zero] at this
   rw [← this,← Array.toList_zipIdx,Array.foldl_toList]
  have hsize:(v'.cells.zipIdx.foldl (fun cs (p:Value × Nat)=>cs.setIfInBounds (i * e.cells + p.2) p.1) cells).size = cells.size:=by
   rw [← Array.length_toList,hfold]
   simp
   omega
  obtain ⟨arr,us,h1,h2,h3,hus⟩:=fill_all xs vs (i + 1) parts _ hp1 hn (by simpa using hl) (fun j x v hx hv=>hrv (j + 1) x v (by simpa using hx) (by simpa using hv)) (by rw [hsize]; rw [show i + 1 + vs.length = i + (vs.length + 1) by omega]; exact hsz)
  refine ⟨arr,v'.cells.toList ++ us,?_,⟨_,us,rfl,hr,h2⟩,?_,by rw [hus]; rfl⟩
  ·unfold Instr.fill
   simp only []
   rw [if_neg (by simp [hvs]; omega)]
   exact h1
  ·rw [h3,hfold]
   have e1:(i + 1) * e.cells = i * e.cells + v'.cells.toList.length:=by rw [Nat.succ_mul,hlen]
   have ht:(cells.toList.take (i * e.cells)).length = i * e.cells:=by simp; omega
   rw [e1,List.append_assoc (cells.toList.take (i * e.cells)) v'.cells.toList]
   have k1:(cells.toList.take (i * e.cells) ++ (v'.cells.toList ++ cells.toList.drop (i * e.cells + v'.cells.toList.length))).take (i * e.cells + v'.cells.toList.length) = cells.toList.take (i * e.cells) ++ v'.cells.toList:=by
    conv=>lhs; arg 1; rw [← ht]
    rw [jX0]
    simp
   have k2:(cells.toList.take (i * e.cells) ++ (v'.cells.toList ++ cells.toList.drop (i * e.cells + v'.cells.toList.length))).drop (i * e.cells + v'.cells.toList.length + us.length) = cells.toList.drop (i * e.cells + (v'.cells.toList ++ us).length):=by
    conv=>lhs; arg 1; rw [← ht]
    rw [Nat.add_assoc,jXn,jXn,List.drop_drop,List.length_append]
    congr 1
    omega
   rw [k1,k2]
   simp [List.append_assoc]
theorem partsOf_rel {e:Ty}:∀ {avs:List AV} {vs:List Value} {xs:List e.den},partsOf e h avs = some xs → RelL Ψ β avs vs → refsA avs = [] → xs.length = vs.length ∧ ∀ (i:Nat) (x:e.den) (v:Value),xs[i]? = some x → vs[i]? = some v → rv Ψ e x v
 | [],vs,xs,hp,hr,_=>by
  simp only [partsOf,Option.some.injEq] at hp
  simp only [RelL] at hr
  subst hp hr
  exact ⟨rfl,fun i x v hx=>by simp at hx⟩
 | av :: avs,vs,xs,hp,hr,hn=>by
  obtain ⟨v,vs',rfl,hv,hl⟩:=hr
  unfold partsOf at hp
  split at hp
  ·rename_i y hy
   split at hp
   ·rename_i ys hys
    simp at hp
    subst hp
    simp only [refsA,List.append_eq_nil_iff] at hn
    obtain ⟨h1,h2⟩:=partsOf_rel hys hl hn.2
    refine ⟨by simp [h1],fun i x u hx hu=>?_⟩
    cases i with
    | zero =>
     simp at hx hu
     subst hx hu
     exact jKj (PLe.refl _) hy hv (by rw [hn.1]; exact Reading.nil)
    | succ i=>exact h2 i x u (by simpa using hx) (by simpa using hu)
   ·cases hp
  ·cases hp
theorem jZg:∀ (l:List Operand) (_:∀ x ∈ l,RelV Ψ β (ev fr x) (a.eval x)),RelL Ψ β (evs fr l) (l.map a.eval)
 | [],_=>rfl
 | x :: l,hev=>⟨a.eval x,_,rfl,hev x (by simp),jZg l fun y hy=>hev y (by simp [hy])⟩
theorem jJ0 (l:List (Nat × Operand)):jXz l = l.map (·.2):=by
 induction l with
 | nil=>rfl
 | cons p l ih=>obtain ⟨i,o⟩:=p; simp [jXz,ih]
theorem inOrder_eq:∀ (n:Nat) (l:List (Nat × Operand)),inOrder n l = true → l.map (·.1) = List.range' n l.length
 | _,[],_=>rfl
 | n,(i,o) :: l,h=>by
  simp only [inOrder,Bool.and_eq_true,Nat.beq_eq] at h
  simp [List.range'_succ,h.1,inOrder_eq (n + 1) l h.2]
theorem jZ5 {l:List AV} (h:jZx l = true):refsA l = []:=by
 unfold jZx at h
 split at h
 ·assumption
 ·cases h
theorem jJj {t:TypeId} {len:Nat} {parts:Array (Nat × Operand)} {r:Out} (hi:InvH C.P B w0 Ψ β h w) (hev:∀ p ∈ parts.toList,RelV Ψ β (ev fr p.2) (a.eval p.2)) (hr:jZr C h t len parts.toList (evs fr (jXz parts.toList)) = some r) :
 ∃ (e:Ty) (xs:List e.den) (us:List Value) (tid:TypeId),r = ⟨none,.fs e xs,h,none⟩ ∧ jJp C t = some tid ∧ (∀ w:World,(Instr.buildSlice t len (parts.map fun (i,x)=>(i,a.eval x))).run C.P w = .ok (.slice (some ⟨w.heap.size,0,none⟩) len len) (w.alloc (.cells us.toArray tid))) ∧
  rdL (reads Ψ e) xs us ∧ xs.length = len ∧ us.length = len * e.cells ∧ len ≤ maxLen:=by
 unfold jZr at hr
 split at hr
 ·rename_i tid he
  split at hr
  ·rename_i e sz hty hsz
   split at hr
   ·rename_i hc
    simp only [Bool.and_eq_true,Nat.beq_eq,Nat.ble_eq,jQ5] at hc
    obtain ⟨⟨⟨⟨⟨hec,hord⟩,hlen⟩,hbd⟩,hbd'⟩,hnr⟩:=hc
    subst hec
    split at hr
    ·rename_i xs z hxs hz
     have:=jQd hr; subst this
     obtain ⟨i,zv,hi',hiz,_⟩:=jX5 hz
     have hrel:=jZg (Ψ:=Ψ) (β:=β) (fr:=fr) (a:=a) (jXz parts.toList) (fun x hx=>by
      rw [jJ0] at hx
      obtain ⟨p,hp,rfl⟩:=List.mem_map.1 hx
      exact hev p hp)
     obtain ⟨hxl,hxr⟩:=partsOf_rel hxs hrel (jZ5 hnr)
     have hvl:((jXz parts.toList).map a.eval).length = len:=by rw [jXl _ _ hrel]; exact hlen
     have hpl:parts.toList.length = len:=by rw [← hvl,jJ0]; simp
     have hfill:∀ cells:Array Value,cells.size = len * e.cells → ∃ arr us,Instr.fill (fun i=>some (i * e.cells,e.cells)) cells (parts.toList.map fun (i,x)=>(i,a.eval x)) = some arr ∧ rdL (reads Ψ e) xs us ∧ arr.toList = us:=by
      intro cells hcs
      obtain ⟨arr,us,h1,h2,h3,_⟩:=fill_all (Ψ:=Ψ) xs ((jXz parts.toList).map a.eval) 0 (parts.toList.map fun (i,x)=>(i,a.eval x)) cells (by rw [jJ0]; simp [Function.comp_def]) (by
       have:=inOrder_eq 0 _ hord
       rw [hvl,← hpl,← this]
       simp [Function.comp_def]) hxl hxr (by rw [hvl,hcs]; simp)
      refine ⟨arr,us,h1,h2,?_⟩
      rw [h3]
      have hul:=jZ2 (jQa e) _ _ h2
      rw [hxl,hvl] at hul
      rw [List.drop_of_length_le (by rw [Array.length_toList]; omega)]
      simp
     have hns:¬ (len * e.cells > 2 ^ 24):=by omega
     obtain ⟨arr,us,h1,h2,h3⟩:=hfill ((Array.range (len * e.cells)).map ((if len * e.cells = 0 then #[] else zv.cells)[· % (if len * e.cells = 0 then #[] else zv.cells).size]!)) (by simp)
     have hrun:∀ w:World,(Instr.buildSlice t len (parts.map fun (i,x)=>(i,a.eval x))).run C.P w = .ok (.slice (some ⟨w.heap.size,0,none⟩) len len) (w.alloc (.cells us.toArray tid)):=by
      intro w
      have harr:arr = us.toArray:=by rw [← h3]
      subst harr
      by_cases h0:len * e.cells = 0
      ·simp only [if_pos h0] at h1
       simp [Instr.buildSlice,run_underlying (jQ6 he),jQo hsz,h0,newRow]
       rw [h0] at h1
       have hz0:∀ f:Nat → Value,(Array.range 0).map f = #[]:=by intro f; simp [Array.range_zero']
       rw [hz0] at h1 ⊢
       rw [h1]
       simp
      ·simp only [if_neg h0] at h1
       have hns':¬ (16777216 < len * e.cells):=by omega
       simp [Instr.buildSlice,run_underlying (jQ6 he),jQo hsz,h0,newRow,zeroValue,typeInfo,hi',hiz,hns']
       rw [h1]
       simp
     have hus:=jZ2 (jQa e) _ _ h2
     exact ⟨e,xs,us,tid,rfl,he,hrun,h2,by rw [hxl,hvl],by rw [hus,hxl,hvl],by simp only [maxLen]; omega⟩
    ·cases hr
   ·cases hr
  ·cases hr
 ·cases hr
theorem buildSlice_ok {t:TypeId} {len:Nat} {parts:Array (Nat × Operand)} {r:Out} (hi:InvH C.P B w0 Ψ β h w) (hev:∀ p ∈ parts.toList,RelV Ψ β (ev fr p.2) (a.eval p.2)) (hr:jZr C h t len parts.toList (evs fr (jXz parts.toList)) = some r) :
 r.heap = h ∧ r.kill = none ∧ r.need = none ∧ NOk C Ψ β w (Instr.buildSlice t len (parts.map fun (i,x)=>(i,a.eval x))) r.v:=by
 obtain ⟨e,xs,us,tid,rfl,he,hrun,h2,hxl,hus,hle⟩:=jJj hi hev hr
 refine ⟨rfl,rfl,rfl,_,_,_,hrun w,step_block hi us tid,⟨_,by rw [hxl],?_⟩⟩
 exact rv_arr (β:=β).2 ⟨_,_,by rw [hxl],by rw [hxl]; exact Nat.le_refl _,hle,.inr ⟨us,jX3 (jQg (withBlock_le hi.prom) e) _ _ h2,w.heap.size,0,rfl,fun j u hj=>by rw [withBlock_at,Nat.zero_add]; exact hj⟩⟩
theorem rdL_units:∀ (us:List Value),(∀ u ∈ us,u.oneCell' = true) → rdL (reads Ψ .any) (List.replicate us.length ()) us
 | [],_=>rfl
 | u :: us,h=>⟨[u],us,rfl,⟨u,rfl,h u (List.mem_cons_self ..)⟩,rdL_units us fun v hv=>h v (List.mem_cons_of_mem _ hv)⟩
theorem partCells_rel {sz:Nat}:∀ {avs:List AV} {vs:List Value} {cs:List AV},jJ5 avs sz = some cs → RelL Ψ β avs vs →
 RelL Ψ β cs ((vs.map fun v=>v.cells.toList).flatten) ∧ (∀ u ∈ (vs.map fun v=>v.cells.toList).flatten,u.oneCell' = true) ∧ ∀ v ∈ vs,rv Ψ (.vec sz .any) (List.replicate sz ()) v
 | [],vs,cs,hp,hr=>by
  simp only [jJ5,Option.some.injEq] at hp
  simp only [RelL] at hr
  subst hp hr
  exact ⟨rfl,by simp,by simp⟩
 | av :: avs,vs,cs,hp,hr=>by
  obtain ⟨v,vs',rfl,hv,hl⟩:=hr
  have hagg:∃ l m,av = .agg l ∧ jJ5 avs sz = some m ∧ l.length = sz ∧ cs = l ++ m:=by
   cases av <;> simp only [jJ5,reduceCtorEq] at hp
   rename_i l
   cases hm:jJ5 avs sz with
   | none=>rw [hm] at hp; cases hp
   | some m =>
    rw [hm] at hp
    simp only at hp
    split at hp
    ·rename_i hsz
     simp only [Option.some.injEq] at hp
     exact ⟨l,m,rfl,rfl,by rw [← jQ5]; simpa [Nat.beq_eq] using hsz,hp.symm⟩
    ·cases hp
  obtain ⟨l,m,rfl,hm,hsz,rfl⟩:=hagg
  obtain ⟨k1,k2,k3⟩:=partCells_rel hm hl
  obtain ⟨us,rfl,hrel,h1⟩:=hv
  have hul:=jXl _ _ hrel
  refine ⟨?_,?_,?_⟩
  ·simp only [List.map_cons,List.flatten_cons,Value.cells,List.toList_toArray]
   exact jX4 _ _ _ _ hrel k1
  ·simp only [List.map_cons,List.flatten_cons,Value.cells,List.toList_toArray]
   intro u hu
   rcases List.mem_append.1 hu with hu | hu
   ·exact h1 u hu
   ·exact k2 u hu
  ·intro v hv
   rcases List.mem_cons.1 hv with rfl | hv
   ·have hrd:=rdL_units (Ψ:=Ψ) us h1
    rw [hul,hsz] at hrd
    exact ⟨us,⟨by simp,hrd⟩,rfl⟩
   ·exact k3 v hv
theorem assl_run {t:TypeId} {len:Nat} {parts:Array (Nat × Operand)} {r:Out} (hev:∀ p ∈ parts.toList,RelV Ψ β (ev fr p.2) (a.eval p.2)) (hr:assl C h t len parts.toList (evs fr (jXz parts.toList)) = some r) :
 ∃ (cs:List AV) (us:List Value) (tid:TypeId),r = ⟨none,.ssl (hlen h) len,h ++ [.cells cs],none⟩ ∧ (Instr.buildSlice t len (parts.map fun (i,x)=>(i,a.eval x))).run C.P w = .ok (.slice (some ⟨w.heap.size,0,none⟩) len len) (w.alloc (.cells us.toArray tid)) ∧
  RelL Ψ β cs us ∧ (∀ u ∈ us,u.oneCell' = true) ∧ len ≤ 16777216:=by
 unfold assl at hr
 split at hr
 ·rename_i tid he
  split at hr
  ·rename_i sz z hsz hz
   split at hr
   ·rename_i hc
    simp only [Bool.and_eq_true,Nat.beq_eq,Nat.ble_eq,jQ5] at hc
    obtain ⟨⟨⟨⟨⟨hord,hlen⟩,hbd⟩,hbd'⟩,hl1⟩,hs1⟩:=hc
    split at hr
    ·rename_i cs hcs
     simp only [Option.some.injEq] at hr
     subst hr
     obtain ⟨i,zv,hi',hiz,_⟩:=jX5 hz
     have hrel:=jZg (Ψ:=Ψ) (β:=β) (fr:=fr) (a:=a) (jXz parts.toList) (fun x hx=>by
      rw [jJ0] at hx
      obtain ⟨p,hp,rfl⟩:=List.mem_map.1 hx
      exact hev p hp)
     obtain ⟨k1,k2,k3⟩:=partCells_rel hcs hrel
     have hvl:((jXz parts.toList).map a.eval).length = len:=by rw [jXl _ _ hrel]; exact hlen
     have hpl:parts.toList.length = len:=by rw [← hvl,jJ0]; simp
     have hec:(Ty.vec sz .any).cells = sz:=by simp [Ty.cells]
     obtain ⟨arr,us,h1,h2,h3,hus⟩:=fill_all (Ψ:=Ψ) (e:=.vec sz .any) (List.replicate len (List.replicate sz ())) ((jXz parts.toList).map a.eval) 0 (parts.toList.map fun (i,x)=>(i,a.eval x))
      ((Array.range (len * sz)).map (zv.cells[· % zv.cells.size]!)) (by rw [jJ0]; simp [Function.comp_def]) (by
        have:=inOrder_eq 0 _ hord
        rw [hvl,← hpl,← this]
        simp [Function.comp_def]) (by simp [hvl]) (fun i x v hx hv=>by
        have hxe:x = List.replicate sz ():=List.eq_of_mem_replicate (List.mem_of_getElem? hx)
        rw [hxe]
        exact k3 v (List.mem_of_getElem? hv)) (by rw [hvl,hec]; simp)
     rw [hec] at h1 h3
     have hul:us.length = len * sz:=by
      have:=jZ2 (jQa (Ψ:=Ψ) (.vec sz .any)) _ _ h2
      rw [hec] at this
      simpa using this
     have harr:arr = us.toArray:=by
      apply Array.ext'
      rw [h3]
      rw [List.drop_of_length_le (by simp; omega)]
      simp
     subst harr
     refine ⟨cs,us,tid,rfl,?_,by rw [hus]; exact k1,by rw [hus]; exact k2,hbd'⟩
     have h0:¬ (len * sz = 0):=by
      have:=Nat.mul_le_mul hl1 hs1
      omega
     have hns':¬ (16777216 < len * sz):=by omega
     simp [Instr.buildSlice,run_underlying (jQ6 he),jQo hsz,h0,newRow,zeroValue,typeInfo,hi',hiz,hns']
     rw [h1]
     simp
    ·cases hr
   ·cases hr
  ·cases hr
 ·cases hr
end Go.AM
namespace Go.AM
open Go.RowKit
variable {B:Nat → Prop} {w0:World} {C:Ctx} {Ψ:Pr} {β:List Value} {h:List Blk} {w:World} {fr:List AV} {a:Act}
def NOp (C:Ctx) (Ψ:Pr) (β:List Value) (w:World) (s:Sem Next) (av:AV):Prop :=
 ∃ v Ψ' w',s.run C.P w = .ok (.value v) w' ∧ Step Ψ w Ψ' w' ∧ RelV Ψ' β av v
theorem NOk.op {s:Sem Value} {av:AV} (hk:NOk C Ψ β w s av):NOp C Ψ β w (do pure (.value (← s))) av:=by
 obtain ⟨v,Ψ',w',h1,h2,h3⟩:=hk
 exact ⟨v,Ψ',w',by simp [h1],h2,h3⟩
theorem pick_ok {av bv cv:AV} {u v c:Value} {r:Out} (hc:RelV Ψ β cv c) (hx:RelV Ψ β av u) (hy:RelV Ψ β bv v) (hr:apick h cv av bv = some r) :
 r.heap = h ∧ r.kill = none ∧ NOp C Ψ β w (do pure (.value (if ← asBool c then u else v))) r.v:=by
 unfold apick at hr
 split at hr
 ·have:=jQd hr; subst this
  have:c = .bool true:=hc
  subst this
  exact ⟨rfl,rfl,u,Ψ,w,by simp [asBool],Step.refl _ _,hx⟩
 ·have:=jQd hr; subst this
  have:c = .bool false:=hc
  subst this
  exact ⟨rfl,rfl,v,Ψ,w,by simp [asBool],Step.refl _ _,hy⟩
 ·rename_i x
  rw [jJd.1 hc]
  split at hr
  ·rename_i y z hy' hz'
   have e1:=jKz hx hy'; have e2:=jKz hy hz'
   subst e1 e2
   have:=jQd hr; subst this
   refine ⟨rfl,rfl,.bool (bif x then y else z),Ψ,w,?_,Step.refl _ _,jXh _⟩
   cases x <;> simp [asBool]
  ·cases hr
 ·cases hr
theorem nil_ok {av:AV} {v:Value} {r:Out} (hx:RelV Ψ β av v) (hr:anil h av = some r):r.heap = h ∧ r.kill = none ∧ r.need = none ∧ RelV Ψ β r.v v ∧ ∃ ad,v = .pointer (some ad):=by
 unfold anil at hr
 split at hr
 ·have:=jQd hr; subst this
  have hx':=hx
  obtain ⟨g,_,rfl⟩:=hx'
  exact ⟨rfl,rfl,rfl,hx,_,rfl⟩
 ·have:=jQd hr; subst this
  have hx':=hx
  obtain ⟨g,off,cs,rfl,_⟩:=hx'
  exact ⟨rfl,rfl,rfl,hx,_,rfl⟩
 ·have:=jQd hr; subst this
  have hx':=hx
  obtain ⟨g,n,c,_,_,_,rfl⟩:=hx'
  exact ⟨rfl,rfl,rfl,hx,_,rfl⟩
 ·have:=jQd hr; subst this
  have hx':=hx
  obtain ⟨g,_,_,_,rfl⟩:=hx'
  exact ⟨rfl,rfl,rfl,hx,_,rfl⟩
 ·have:=jQd hr; subst this
  have hx':=hx
  obtain ⟨g,n,c,_,_,_,_,rfl⟩:=hx'
  exact ⟨rfl,rfl,rfl,hx,_,rfl⟩
 ·cases hr
theorem map_list {α β:Type} (f:α → β) (xs:Array α):xs.map f = (xs.toList.map f).toArray:=by
 apply Array.ext'; simp
theorem builtin_len_ok {ts:Array TypeId} {ty:TypeId} {args:Array Operand} {r:Out} (hi:InvH C.P B w0 Ψ β h w) (hev:∀ x ∈ args.toList,RelV Ψ β (ev fr x) (a.eval x))
 (hr:jJy C h .len ts.toList (evs fr args.toList) = some r) (hp:∀ p,r.need = some p → p):r.heap = h ∧ r.kill = none ∧ NOk C Ψ β w (Builtin.len_ ts ty (args.map a.eval)) r.v:=by
 have hrel:=jZg (Ψ:=Ψ) (β:=β) args.toList hev
 rw [map_list]
 generalize evs fr args.toList = l at *
 generalize args.toList.map a.eval = vs at *
 unfold jJy at hr
 split at hr <;> first | (rename_i hb; cases hb; done) | skip
 ·rename_i x hb
  obtain ⟨v,vs',rfl,hv,hl⟩:=hrel
  simp only [RelL] at hl
  subst hl
  split at hr
  ·rename_i t ht
   have hts:ts = #[t]:=by rw [← Array.toArray_toList (xs:=ts),ht]
   subst hts
   exact len_ok hi hv hr hp
  ·cases hr
 ·cases hr
theorem builtin_min_ok {ts:Array TypeId} {ty:TypeId} {args:Array Operand} {r:Out} (hev:∀ x ∈ args.toList,RelV Ψ β (ev fr x) (a.eval x))
 (hr:jJy C h .min ts.toList (evs fr args.toList) = some r) (_hp:∀ p,r.need = some p → p):r.heap = h ∧ r.kill = none ∧ NOk C Ψ β w (Builtin.min_ ts ty (args.map a.eval)) r.v:=by
 have hrel:=jZg (Ψ:=Ψ) (β:=β) args.toList hev
 rw [map_list]
 generalize evs fr args.toList = l at *
 generalize args.toList.map a.eval = vs at *
 unfold jJy at hr
 split at hr <;> first | (rename_i hb; cases hb; done) | skip
 ·rename_i kd n l' hb
  obtain ⟨v,vs',rfl,hv,hl⟩:=hrel
  obtain ⟨rfl,hn⟩:=jQj.1 hv
  split at hr
  ·rename_i m hm
   have:=jQd hr; subst this
   obtain ⟨h1,h2⟩:=foldMin_ok (C:=C) (w:=w) _ _ _ _ hm hl hn
   exact ⟨rfl,rfl,NOk.of_run (by simpa [Builtin.min_] using h1) (jQj.2 ⟨rfl,h2⟩)⟩
  ·cases hr
 ·cases hr
theorem builtin_max_ok {ts:Array TypeId} {ty:TypeId} {args:Array Operand} {r:Out} (hev:∀ x ∈ args.toList,RelV Ψ β (ev fr x) (a.eval x))
 (hr:jJy C h .max ts.toList (evs fr args.toList) = some r) (_hp:∀ p,r.need = some p → p):r.heap = h ∧ r.kill = none ∧ NOk C Ψ β w (Builtin.max_ ts ty (args.map a.eval)) r.v:=by
 have hrel:=jZg (Ψ:=Ψ) (β:=β) args.toList hev
 rw [map_list]
 generalize evs fr args.toList = l at *
 generalize args.toList.map a.eval = vs at *
 unfold jJy at hr
 split at hr <;> first | (rename_i hb; cases hb; done) | skip
 ·rename_i kd n l' hb
  obtain ⟨v,vs',rfl,hv,hl⟩:=hrel
  obtain ⟨rfl,hn⟩:=jQj.1 hv
  split at hr
  ·rename_i m hm
   have:=jQd hr; subst this
   obtain ⟨h1,h2⟩:=foldMax_ok (C:=C) (w:=w) _ _ _ _ hm hl hn
   exact ⟨rfl,rfl,NOk.of_run (by simpa [Builtin.max_] using h1) (jQj.2 ⟨rfl,h2⟩)⟩
  ·cases hr
 ·cases hr
theorem neutral_sound {o:Oper} {r:Out} (hi:InvH C.P B w0 Ψ β h w) (hev:∀ x ∈ o.op.operands,RelV Ψ β (ev fr x) (a.eval x)) (hn:neutral o.op = true)
 (hr:aop C fr h o.op = some r) (hp:∀ p,r.need = some p → p):r.heap = h ∧ r.kill = none ∧ NOp C Ψ β w (execOp a.eval o) r.v:=by
 obtain ⟨dst,op,ty,pos,after,guard⟩:=o
 simp only at hev hn hr
 cases op <;> simp only [neutral,Bool.false_eq_true] at hn
 case move x =>
  have:=jQd hr; subst this
  exact ⟨rfl,rfl,_,Ψ,w,rfl,Step.refl _ _,hev x (by simp [Op.operands])⟩
 case assign x =>
  have:=jQd hr; subst this
  exact ⟨rfl,rfl,_,Ψ,w,rfl,Step.refl _ _,hev x (by simp [Op.operands])⟩
 case pick c x y =>
  exact pick_ok (hev c (by simp [Op.operands])) (hev x (by simp [Op.operands])) (hev y (by simp [Op.operands])) hr
 case build t parts =>
  obtain ⟨h1,h2,_,h3⟩:=build_ok (C:=C) (w:=w) hi.one (fun p hp=>hev p.2 (by simp only [Op.operands,List.mem_toArray]; exact List.mem_map_of_mem hp)) hr
  exact ⟨h1,h2,h3.op⟩
 case buildSlice t len parts =>
  obtain ⟨h1,h2,_,h3⟩:=buildSlice_ok (C:=C) hi (fun p hp=>hev p.2 (by simp only [Op.operands,List.mem_toArray]; exact List.mem_map_of_mem hp)) hr
  exact ⟨h1,h2,h3.op⟩
 case load t x =>
  obtain ⟨h1,h2,_,h3⟩:=load_ok hi (hev x (by simp [Op.operands])) hr
  exact ⟨h1,h2,h3.op⟩
 case nilCheck x =>
  obtain ⟨h1,h2,_,h3,ad,h4⟩:=nil_ok (hev x (by simp [Op.operands])) hr
  refine ⟨h1,h2,a.eval x,Ψ,w,?_,Step.refl _ _,h3⟩
  simp [execOp,h4]
 case binOp op xt x y yt =>
  simp only [aop] at hr
  split at hr
  ·rename_i r' hb
   simp at hr
   subst hr
   obtain ⟨h1,h2,_,h3⟩:=binAgg_ok (C:=C) (w:=w) (hev x (by simp [Op.operands])) (hev y (by simp [Op.operands])) hb
   exact ⟨h1,h2,h3.op⟩
  obtain ⟨h1,h2,h3⟩:=binop_ok (C:=C) (w:=w) (x:=x) (y:=y) (hev x (by simp [Op.operands])) (hev y (by simp [Op.operands])) hr hp
  exact ⟨h1,h2,h3.op⟩
 case unOp op xt x =>
  obtain ⟨h1,h2,h3⟩:=unop_ok (C:=C) (w:=w) (hev x (by simp [Op.operands])) hr hp
  exact ⟨h1,h2,h3.op⟩
 case convert src dst x =>
  obtain ⟨h1,h2,_,h3⟩:=convert_ok hi (hev x (by simp [Op.operands])) hr
  exact ⟨h1,h2,h3.op⟩
 case makeFunc f first caps =>
  cases f <;> simp only [aop,reduceCtorEq] at hr
  split at hr
  ·rename_i f' hf
   have hf':first = #[]:=Array.eq_empty_of_size_eq_zero (by simpa [Nat.beq_eq] using hf)
   subst hf'
   have:=jQd hr; subst this
   refine ⟨rfl,rfl,.func (.func f') #[] (caps.map a.eval),Ψ,w,by simp [execOp,Instr.makeFunc],Step.refl _ _,caps.toList.map a.eval,by rw [map_list],?_⟩
   exact jZg _ fun x hx=>hev x (by simp [Op.operands]; simpa using hx)
  ·rename_i f' hf
   split at hr
   ·rename_i hc
    have hc':caps = #[]:=Array.eq_empty_of_size_eq_zero (by simpa [Nat.beq_eq] using hc)
    subst hc'
    have:=jQd hr; subst this
    refine ⟨rfl,rfl,.func (.func f') (first.map a.eval) #[],Ψ,w,by simp [execOp,Instr.makeFunc],Step.refl _ _,first.toList.map a.eval,by rw [map_list],?_⟩
    exact jZg _ fun x hx=>hev x (by simp [Op.operands]; simpa using hx)
   ·cases hr
 case sliceToArrayPointer t x =>
  obtain ⟨h1,h2,h3⟩:=arrayAt_ok (w:=w) (hev x (by simp [Op.operands])) hr hp
  exact ⟨h1,h2,h3.op⟩
 case slice t x lo hi' mx =>
  obtain ⟨h1,h2,h3⟩:=slice_ok (w:=w) hi (hev x (by simp [Op.operands])) (RelO_of lo fun y hy=>hev y (by simp only [Op.operands,Array.mem_append]; exact .inl (.inl (.inr hy))))
   (RelO_of hi' fun y hy=>hev y (by simp only [Op.operands,Array.mem_append]; exact .inl (.inr hy))) (RelO_of mx fun y hy=>hev y (by simp only [Op.operands,Array.mem_append]; exact .inr hy)) hr hp
  exact ⟨h1,h2,h3.op⟩
 case fieldAddr t x f =>
  obtain ⟨h1,h2,_,h3⟩:=fieldAddr_ok (C:=C) (w:=w) (hev x (by simp [Op.operands])) hr
  exact ⟨h1,h2,h3.op⟩
 case field t x f =>
  obtain ⟨h1,h2,_,h3⟩:=field_ok (C:=C) (w:=w) (hev x (by simp [Op.operands])) hr
  exact ⟨h1,h2,h3.op⟩
 case indexAddr t x ix =>
  obtain ⟨h1,h2,h3⟩:=indexAddr_ok hi (hev x (by simp [Op.operands])) (hev ix (by simp [Op.operands])) hr hp
  exact ⟨h1,h2,h3.op⟩
 case index t x ix =>
  obtain ⟨h1,h2,h3⟩:=index_ok (C:=C) (w:=w) (hev x (by simp [Op.operands])) (hev ix (by simp [Op.operands])) hr hp
  exact ⟨h1,h2,h3.op⟩
 case extract x i =>
  obtain ⟨h1,h2,_,h3⟩:=extract_ok (C:=C) (w:=w) (hev x (by simp [Op.operands])) hr
  exact ⟨h1,h2,h3.op⟩
 case call c =>
  obtain ⟨callee,args,ats⟩:=c
  have hargs:∀ x ∈ args.toList,RelV Ψ β (ev fr x) (a.eval x):=fun x hx=>hev x (by simp only [Op.operands,Call.operands,Array.mem_append]; exact .inr (by simpa using hx))
  cases callee with
  | value f=>simp at hn
  | invoke r m=>simp at hn
  | builtin b =>
  cases b <;> first | (simp at hn; done) | skip
  case len =>
   obtain ⟨h1,h2,h3⟩:=builtin_len_ok (ty:=ty) hi hargs hr hp
   refine ⟨h1,h2,?_⟩
   obtain ⟨v,Ψ',w',e1,e2,e3⟩:=h3
   exact ⟨v,Ψ',w',by simp [execOp,resolve,invoke,builtin,e1],e2,e3⟩
  case max =>
   obtain ⟨h1,h2,h3⟩:=builtin_max_ok (w:=w) (ty:=ty) hargs hr hp
   refine ⟨h1,h2,?_⟩
   obtain ⟨v,Ψ',w',e1,e2,e3⟩:=h3
   exact ⟨v,Ψ',w',by simp [execOp,resolve,invoke,builtin,e1],e2,e3⟩
  case min =>
   obtain ⟨h1,h2,h3⟩:=builtin_min_ok (w:=w) (ty:=ty) hargs hr hp
   refine ⟨h1,h2,?_⟩
   obtain ⟨v,Ψ',w',e1,e2,e3⟩:=h3
   exact ⟨v,Ψ',w',by simp [execOp,resolve,invoke,builtin,e1],e2,e3⟩
end Go.AM
namespace Go.AM
open Go.RowKit
variable {B:Nat → Prop} {w0:World} {C:Ctx} {Ψ:Pr} {β:List Value} {h:List Blk} {w w':World} {fr:List AV} {a:Act}
theorem getElem?_snoc {α:Type} {l:List α} {x y:α} {k:Nat} (hk:(l ++ [x])[k]? = some y):l[k]? = some y ∨ (k = l.length ∧ y = x):=by
 rcases Nat.lt_or_ge k l.length with hlt | hge
 ·left; rwa [List.getElem?_append_left hlt] at hk
 ·right
  rw [List.getElem?_append_right hge] at hk
  have:k - l.length = 0:=by
   rcases Nat.eq_zero_or_pos (k - l.length) with h0 | h0
   ·exact h0
   ·rw [List.getElem?_eq_none (by simp; omega)] at hk; cases hk
  rw [this] at hk
  simp at hk
  exact ⟨by omega,hk.symm⟩
theorem jQh {l:List Value} (u:Value):∀ (k:Nat) (v:Value),l[k]? = some v → (l ++ [u])[k]? = some v:=by
 intro k v hk
 have hlt:k < l.length:=by
  rcases Nat.lt_or_ge k l.length with h' | h'
  ·exact h'
  ·rw [List.getElem?_eq_none h'] at hk; cases hk
 rw [List.getElem?_append_left hlt]
 exact hk
theorem BlkR_snoc {b:Blk} {k:Nat} (u:Value) (hb:BlkR C.P B Ψ β w k b):BlkR C.P B Ψ (β ++ [u]) w k b:=by
 cases b with
 | gone=>trivial
 | log ys Y own xs=>exact jJl hb (fun _ h=>jQh u _ _ h) (PLe.refl _).m (Nat.le_refl _) fun _ _=>rfl
 | lof ys Y own=>exact jJm hb (fun _ h=>jQh u _ _ h) (PLe.refl _).m (Nat.le_refl _) fun _ _=>rfl
 | cells cs =>
  obtain ⟨g,c,e,h1,h2,h3,h4,h5⟩:=hb
  exact ⟨g,c,e,jQh u _ _ h1,h2,h3,jQl (PLe.refl _) (jQh u) _ _ h4,h5⟩
 | grow tid e xs =>
  rcases hb with ⟨ad,h1,h2⟩ | ⟨g,cap,cur,h1,r⟩
  ·exact .inl ⟨ad,jQh u _ _ h1,h2⟩
  ·exact .inr ⟨g,cap,cur,jQh u _ _ h1,r⟩
 | kmap es =>
  obtain ⟨g,ms,cl,h1,h2,h3,h4,h5,h6⟩:=hb
  exact ⟨g,ms,cl,jQh u _ _ h1,h2,h3,h4,jQl (PLe.refl _) (jQh u) _ _ h5,h6⟩
 | dmap e m =>
  obtain ⟨g,ms,cl,h1,r⟩:=hb
  exact ⟨g,ms,cl,jQh u _ _ h1,r⟩
 | diter e last left =>
  obtain ⟨g,gm,ms,cl,seen,h1,r⟩:=hb
  exact ⟨g,gm,ms,cl,seen,jQh u _ _ h1,r⟩
 | loop f p ph ts =>
  obtain ⟨l,r,h1,h2,h3,h4,h5,h6⟩:=hb
  exact ⟨l,r,jQh u _ _ h1,h2,h3,h4,jQl (PLe.refl _) (jQh u) _ _ h5,h6⟩
 | dat t x =>
  obtain ⟨g,c,e,h1,r⟩:=hb
  exact ⟨g,c,e,jQh u _ _ h1,r⟩
 | siter n rest =>
  obtain ⟨g,s,pos,h1,r⟩:=hb
  exact ⟨g,s,pos,jQh u _ _ h1,r⟩
theorem jQr {b:Blk} {k g:Nat} {u:Value} (hl:k < β.length) (hc:jQb (β ++ [u]) k g b):jQb β k g b:=by
 cases b with
 | gone=>exact hc
 | log ys Y own xs=>exact hc
 | lof ys Y own=>exact hc
 | cells cs =>
  simp only [jQb] at *
  rwa [List.getElem?_append_left hl] at hc
 | grow tid e xs =>
  obtain ⟨n,cap,h1,h2⟩:=hc
  rw [List.getElem?_append_left hl] at h2
  exact ⟨n,cap,h1,h2⟩
 | kmap es =>
  simp only [jQb] at *
  rwa [List.getElem?_append_left hl] at hc
 | dmap e m =>
  simp only [jQb] at *
  rwa [List.getElem?_append_left hl] at hc
 | diter e last left =>
  simp only [jQb] at *
  rwa [List.getElem?_append_left hl] at hc
 | loop f p ph ts =>
  simp only [jQb] at *
  rwa [List.getElem?_append_left hl] at hc
 | dat t x =>
  simp only [jQb] at *
  rwa [List.getElem?_append_left hl] at hc
 | siter n rest =>
  simp only [jQb] at *
  rwa [List.getElem?_append_left hl] at hc
theorem InvH.push {b:Blk} {u:Value} (hi:InvH C.P B w0 Ψ β h w) (hb:Below w.heap.size w w') (hone:u.oneCell' = true) (hnew:BlkR C.P B Ψ (β ++ [u]) w' h.length b)
 (hcl:∀ g,jQb (β ++ [u]) h.length g b → w.heap.size ≤ g):InvH C.P B w0 Ψ (β ++ [u]) (h ++ [b]) w':=by
 have hi':InvH C.P B w0 Ψ β h w':=hi.step ⟨hb,PLe.refl _,fun _ _ h=>.inl h⟩
 have lt:∀ {k:Nat} {b:Blk},h[k]? = some b → k < β.length:=fun {k b} hk=>by
  rw [hi.len]
  rcases Nat.lt_or_ge k h.length with h' | h'
  ·exact h'
  ·rw [List.getElem?_eq_none h'] at hk; cases hk
 have old:∀ {k g:Nat} {b:Blk},h[k]? = some b → jQb β k g b → g < w.heap.size:=fun hk hc=>(jQx (hi.blk _ _ hk) hc).2
 refine ⟨hi'.low,hi'.size,hi'.prom,hi'.own,by simp [hi.len],?_,?_,?_,?_,hi'.glob⟩
 ·intro k v hk
  rcases getElem?_snoc hk with h1 | ⟨_,rfl⟩
  ·exact hi.one k v h1
  ·exact hone
 ·intro k b' hk
  rcases getElem?_snoc hk with h1 | ⟨rfl,rfl⟩
  ·exact BlkR_snoc u (hi'.blk k b' h1)
  ·exact hnew
 ·intro k b' g hk hc ad had hsp
  rcases getElem?_snoc hk with h1 | ⟨rfl,rfl⟩
  ·exact hi'.free k b' g h1 (jQr (lt h1) hc) ad had hsp
  ·cases hp:Ψ ad with
   | none=>rfl
   | some v =>
    have:=Pm_lt (hi.prom ad v hp)
    have:=hcl g hc
    omega
 ·intro j k bj bk g hjk hj hk hcj hck
  rcases getElem?_snoc hj with h1 | ⟨e1,rfl⟩ <;> rcases getElem?_snoc hk with h2 | ⟨e2,rfl⟩
  ·exact hi.sep j k bj bk g hjk h1 h2 (jQr (lt h1) hcj) (jQr (lt h2) hck)
  ·subst e2
   have:=old h1 (jQr (lt h1) hcj)
   have:=hcl g hck
   omega
  ·subst e1
   have:=old h2 (jQr (lt h2) hck)
   have:=hcl g hcj
   omega
  ·omega
def EOp (C:Ctx) (B:Nat → Prop) (w0:World) (Ψ:Pr) (w:World) (s:Sem Next) (r:Out) (fs:List (List AV)) (acts:List Act):Prop :=
 ∃ n v β' w',s.run C.P w = .ok n w' ∧ (n = .value v ∨ (n = .skip ∧ v = undef)) ∧ InvH C.P B w0 Ψ β' (match r.kill with | none=>r.heap | some k=>subH k .junk r.heap) w' ∧
  RelF Ψ β' (match r.kill with | none=>fs | some k=>subF k .junk fs) acts ∧ RelV Ψ β' r.v v
theorem alloc_own {cs:List AV} {c:Array Value} (hi:InvH C.P B w0 Ψ β h w) (t:TypeId) (hl:RelL Ψ β cs c.toList) (h1:∀ u ∈ c.toList,u.oneCell' = true) :
 InvH C.P B w0 Ψ (β ++ [.pointer (some ⟨w.heap.size,0,none⟩)]) (h ++ [.cells cs]) (w.alloc (.cells c t)):=by
 have hn:(β ++ [Value.pointer (some ⟨w.heap.size,0,none⟩)])[h.length]? = some (.pointer (some ⟨w.heap.size,0,none⟩)):=by
  rw [← hi.len]; simp
 refine hi.push ((Below.refl _ _).alloc (Nat.le_refl _) _) rfl ⟨w.heap.size,c,t,hn,heap_alloc_new w _,jZ3 hi.size,jQl (PLe.refl _) (jQh _) _ _ hl,h1⟩ ?_
 intro g hc
 simp only [jQb] at hc
 rw [hn] at hc
 simp at hc
 omega
theorem dat_new {u:Ty} {x:u.den} {c:Array Value} (hi:InvH C.P B w0 Ψ β h w) (t:TypeId) (hrd:reads Ψ u x c.toList) :
 InvH C.P B w0 Ψ (β ++ [.pointer (some ⟨w.heap.size,0,none⟩)]) (h ++ [.dat u x]) (w.alloc (.cells c t)):=by
 have hn:(β ++ [Value.pointer (some ⟨w.heap.size,0,none⟩)])[h.length]? = some (.pointer (some ⟨w.heap.size,0,none⟩)):=by
  rw [← hi.len]; simp
 refine hi.push ((Below.refl _ _).alloc (Nat.le_refl _) _) rfl ⟨w.heap.size,c,t,hn,heap_alloc_new w _,jZ3 hi.size,hrd⟩ ?_
 intro g hc
 simp only [jQb] at hc
 rw [hn] at hc
 simp at hc
 omega
theorem noRefs'_eq {l:List AV} (h:noRefs' l = true):refsA l = []:=by
 unfold noRefs' at h
 split at h
 ·assumption
 ·cases h
theorem adat_spec {t:TypeId} {av:AV} {v:Value} {r:Out} (hr:adat C h t av = some r) (hx:RelV Ψ β av v):∃ (u:Ty) (x:u.den),r = ⟨none,.own (hlen h) 0,h ++ [.dat u x],none⟩ ∧ reads Ψ u x v.cells.toList:=by
 unfold adat at hr
 split at hr
 ·rename_i u sz hu hs
  split at hr
  ·rename_i hc
   simp only [Bool.and_eq_true] at hc
   split at hr
   ·rename_i x hd
    simp only [Option.some.injEq] at hr
    have hrefs:refs av = []:=by
     have:=noRefs'_eq hc.2
     simpa [refsA] using this
    exact ⟨u,x,hr.symm,rv_cells (jKj (PLe.refl _) hd hx (by rw [hrefs]; exact Reading.nil))⟩
   ·cases hr
  ·cases hr
 ·cases hr
theorem dat_box {t:TypeId} {av:AV} {v:Value} {r:Out} {fs:List (List AV)} {acts:List Act} (hi:InvH C.P B w0 Ψ β h w) (hf:RelF Ψ β fs acts) (hx:RelV Ψ β av v) (hr:adat C h t av = some r) :
 EOp C B w0 Ψ w (do pure (.value (← Instr.box t v))) r fs acts:=by
 obtain ⟨u,x,rfl,hrd⟩:=adat_spec hr hx
 refine ⟨.value (.pointer (some ⟨w.heap.size,0,none⟩)),_,_,w.alloc (.cells v.cells t),?_,.inl rfl,dat_new hi t hrd,jQq (PLe.refl _) (jQh _) _ _ hf,?_⟩
 ·simp [Instr.box,newVar,newRow]
 ·rw [jQ1]
  exact ⟨w.heap.size,by rw [← hi.len]; simp,rfl⟩
theorem alloc_ok {t:TypeId} {r:Out} {fs:List (List AV)} {acts:List Act} (hi:InvH C.P B w0 Ψ β h w) (hf:RelF Ψ β fs acts) (hr:aalloc C h t = some r) :
 EOp C B w0 Ψ w (do pure (.value (← Instr.alloc t true (.tuple #[])))) r fs acts:=by
 unfold aalloc at hr
 split at hr
 ·rename_i z hz
  obtain ⟨i,v,hii,hiz,rfl⟩:=jX5 hz
  cases had:C.asDat t with
  | true =>
   rw [had,cond_true] at hr
   obtain ⟨u,x,rfl,hrd⟩:=adat_spec hr (jZ4 (Ψ:=Ψ) (β:=β) v)
   refine ⟨.value (.pointer (some ⟨w.heap.size,0,none⟩)),_,_,w.alloc (.cells v.cells t),?_,.inl rfl,dat_new hi t hrd,jQq (PLe.refl _) (jQh _) _ _ hf,?_⟩
   ·simp [Instr.alloc,zeroValue,typeInfo,hii,hiz,newVar,newRow]
   ·rw [jQ1]
    exact ⟨w.heap.size,by rw [← hi.len]; simp,rfl⟩
  | false =>
  rw [had,cond_false] at hr
  split at hr
  ·rename_i cs hc
   simp at hr
   subst hr
   obtain ⟨hl,h1⟩:=cellsOf'_rel hi.one hc (jZ4 v)
   refine ⟨.value (.pointer (some ⟨w.heap.size,0,none⟩)),_,_,w.alloc (.cells v.cells t),?_,.inl rfl,alloc_own hi t hl h1,jQq (PLe.refl _) (jQh _) _ _ hf,?_⟩
   ·simp [Instr.alloc,zeroValue,typeInfo,hii,hiz,newVar,newRow]
   ·rw [jQ1]
    exact ⟨w.heap.size,by rw [← hi.len]; simp,rfl⟩
  ·split at hr
   ·rename_i hz1
    simp at hr
    subst hr
    have h1':v.oneCell' = true:=by
     unfold zeroOne at hz1
     rw [hii] at hz1
     simp only [hiz] at hz1
     exact hz1
    have hcl:v.cells = #[v]:=by cases v <;> first | rfl | (simp [Value.oneCell'] at h1')
    have hl:RelL Ψ β [.junk] v.cells.toList:=by rw [hcl]; exact ⟨v,[],rfl,trivial,rfl⟩
    have h1:∀ u ∈ v.cells.toList,u.oneCell' = true:=by rw [hcl]; intro u hu; simp at hu; rw [hu]; exact h1'
    refine ⟨.value (.pointer (some ⟨w.heap.size,0,none⟩)),_,_,w.alloc (.cells v.cells t),?_,.inl rfl,alloc_own hi t hl h1,jQq (PLe.refl _) (jQh _) _ _ hf,?_⟩
    ·simp [Instr.alloc,zeroValue,typeInfo,hii,hiz,newVar,newRow]
    ·rw [jQ1]
     exact ⟨w.heap.size,by rw [← hi.len]; simp,rfl⟩
   ·cases hr
 ·cases hr
theorem box_ok {t:TypeId} {av:AV} {v:Value} {r:Out} {fs:List (List AV)} {acts:List Act} (hi:InvH C.P B w0 Ψ β h w) (hf:RelF Ψ β fs acts) (hx:RelV Ψ β av v) (hr:abox h av = some r) :
 EOp C B w0 Ψ w (do pure (.value (← Instr.box t v))) r fs acts:=by
 unfold abox at hr
 split at hr
 ·rename_i cs hc
  simp at hr
  subst hr
  obtain ⟨hl,h1⟩:=cellsOf'_rel hi.one hc hx
  refine ⟨.value (.pointer (some ⟨w.heap.size,0,none⟩)),_,_,w.alloc (.cells v.cells t),?_,.inl rfl,alloc_own hi t hl h1,jQq (PLe.refl _) (jQh _) _ _ hf,?_⟩
  ·simp [Instr.box,newVar,newRow]
  ·rw [jQ1]
   exact ⟨w.heap.size,by rw [← hi.len]; simp,rfl⟩
 ·cases hr
theorem byteCells_strOf {l:List Int} (hl:∀ c ∈ l,0 ≤ c ∧ c ≤ 255):byteCells (strOf l) = l.map (Value.int .u8):=by
 unfold byteCells
 rw [strOf_toList,List.map_map]
 apply List.map_congr_left
 intro c hc
 have:=hl c hc
 simp
 omega
theorem rdL_ints {k:IntKind}:∀ (l:List Int),(∀ c ∈ l,k.has c) → rdL (reads Ψ (.int k)) l (l.map (Value.int k))
 | [],_=>rfl
 | c :: l,h=>⟨[.int k c],l.map (Value.int k),rfl,⟨rfl,h c (by simp)⟩,rdL_ints l fun d hd=>h d (by simp [hd])⟩
theorem has_u8 {c:Int} (h:0 ≤ c ∧ c ≤ 255):IntKind.u8.has c:=by
 unfold IntKind.has
 simp [IntKind.min,IntKind.max,IntKind.bits,IntKind.signed]
 omega
theorem tail_src {e:Ty} {ys:List e.den} {tx:TypeId} {y:AV} {v:Value} (hi:InvH C.P B w0 Ψ β h w) (hy:RelV Ψ β y v) (ht:asTail C h e tx y = some ys) :
 ∃ news,Src C.P e.cells tx v ys.length news w ∧ rdL (reads Ψ e) ys news:=by
 unfold asTail at ht
 split at ht
 ·rename_i u hu
  simp at ht
  subst ht
  have:v = .slice none 0 0:=hy
  subst this
  exact ⟨[],Src.ofNil w hu 0,rfl⟩
 ·rename_i l hu
  obtain ⟨he,rfl⟩:=cast?_spec ht
  simp only [Ty.arr.injEq] at he
  subst he
  obtain ⟨rfl,hl,hl'⟩:=jZt.1 hy
  refine ⟨byteCells (strOf l),?_,?_⟩
  ·have:=Src.ofString w hu (strOf l)
   rw [jXg] at this
   exact this
  ·rw [byteCells_strOf hl]
   exact rdL_ints l fun c hc=>has_u8 (hl c hc)
 ·rename_i u x hu hx
  split at ht
  ·rename_i e' xs hl
   obtain ⟨he,rfl⟩:=cast?_spec ht
   simp only [Ty.arr.injEq] at he
   subst he
   obtain ⟨ad,cap,rfl,h1,h2,h3⟩:=jKv hi hy hl
   rcases h3 with rfl | ⟨cells,g,off,hd,rfl,hc⟩
   ·refine ⟨[],?_,rfl⟩
    cases ad with
    | none=>exact Src.ofNil w hu cap
    | some ad=>exact Src.ofSlice w hu ad 0 cap [] (by simp) (by simp) (by simp)
   ·refine ⟨cells,Src.ofSlice w hu ⟨g,off,none⟩ xs.length cap cells (jZ2 (jQa e') _ _ hd) (fun j u hj=>?_) (rdL_one (jXp e') _ _ hd),hd⟩
    rw [Addr.add_lit]
    exact hc j u hj
  ·cases ht
 ·cases ht
theorem zeroOk_spec {e:Ty} {v:Value} (hz:zeroOk e (ofV v) = true):v.cells.size = e.cells:=by
 unfold zeroOk at hz
 split at hz
 ·rename_i l hc
  obtain ⟨hl,_⟩:=cellsOf'_rel (Ψ:=fun _=>none) (β:=[]) (by simp) hc (jZ4 v)
  have:=jXl _ _ hl
  rw [← Array.length_toList,this,← jQ5]
  simpa [Nat.beq_eq] using hz
 ·cases hz
structure AppT (C:Ctx) (t tid:TypeId) (e:Ty) (i:TypeInfo) (z:Value):Prop where
 ht:C.P.underlying t = some (.slice tid)
 hi:C.P.info? tid = some i
 hz:i.zero = some z
 hs:i.size = e.cells
 hc:z.cells.size = e.cells
def jKd (w:World) (n cap0:Nat) (tid:TypeId) (z:Value) (vs:List Value):Array Value :=
 vs.toArray ++ Builtin.zeroCells z.cells (grownCap w n cap0 tid - n)
theorem append_new {t tx ty tid:TypeId} {e:Ty} {i:TypeInfo} {z:Value} (hT:AppT C t tid e i z) (base:Option Addr) (n cap0:Nat) (olds:List Value) (hol:olds.length = n * e.cells)
 (hold:(Builtin.firstCells e.cells n (.slice base n cap0)).run C.P w.drew = .ok olds.toArray w.drew) {x:Value} {m:Nat} {news:List Value} (hs:Src C.P e.cells tx x m news w)
 (hg:cap0 < n + m) (hroom:roomP C tid (n + m)) :
 (Builtin.append_ #[t,tx] ty #[.slice base n cap0,x]).run C.P w =
   .ok (.slice (some ⟨w.heap.size,0,none⟩) (n + m) (grownCap w (n + m) cap0 tid)) (w.drew.alloc (.cells (jKd w (n + m) cap0 tid z (olds ++ news)) tid)) ∧
 n + m ≤ grownCap w (n + m) cap0 tid ∧ grownCap w (n + m) cap0 tid ≤ maxLen ∧ (jKd w (n + m) cap0 tid z (olds ++ news)).size = grownCap w (n + m) cap0 tid * e.cells ∧
 (jKd w (n + m) cap0 tid z (olds ++ news)).toList.take ((n + m) * e.cells) = olds ++ news:=by
 obtain ⟨h1,h2⟩:=hroom
 have hb:C.P.bytesOf tid = i.bytes:=by simp [Program.bytesOf,hT.hi]
 rw [hb] at h1
 have hlen:(olds ++ news).length = (n + m) * e.cells:=by rw [List.length_append,hol,hs.newsLen,Nat.add_mul]
 have hge:=grownCap_ge w (n + m) cap0 tid
 have hle:=grownCap_le_maxLen w (n + m) cap0 tid (by simp only [maxLen]; omega)
 refine ⟨?_,hge,hle,?_,?_⟩
 ·exact run_append_grow_src w t tx ty tid i z hT.ht hT.hi hT.hz base n cap0 olds (by rw [hT.hs]; exact hold) x m news (by rw [hT.hs]; exact hs) hg (by omega) (growslice_fits hg h1)
 ·simp only [jKd,Array.size_append,List.size_toArray,size_zeroCells,hT.hc,hlen,← Nat.add_mul]
  congr 1
  omega
 ·simp only [jKd,Array.toList_append]
  rw [← hlen]
  exact List.take_left
theorem grownCap_pos {w:World} {n cap0:Nat} {tid:TypeId} (h:0 < n):grownCap w n cap0 tid ≠ 0:=by
 have:=grownCap_ge w n cap0 tid
 omega
theorem BelowS.grown {w1 w2:World} {row:Option Nat} (h:BelowS B w0 w1) (hg:w1.grownBy w2 row) (hs:∀ k,B k → k < w1.heap.size) (hr:∀ g,row = some g → ¬ B g):BelowS B w0 w2 :=
 h.trans ⟨hg.os,hg.tape,hg.output,hg.size,fun k hk=>hg.block k (hs k hk) fun e=>hr k e.symm hk⟩
theorem below_new (w:World) (o:Obj):Below w.heap.size w (w.drew.alloc o):=((Below.refl _ w).drew).alloc (Nat.le_refl _) o
theorem blk_new {e:Ty} {xs:List e.den} {tid:TypeId} {z:Value} {k n cap0:Nat} {vs:List Value} (hB:(∀ k,B k → k < w.heap.size)) (hn:xs.length = n) (h0:0 < n)
 (hge:n ≤ grownCap w n cap0 tid) (hle:grownCap w n cap0 tid ≤ maxLen) (hsz:(jKd w n cap0 tid z vs).size = grownCap w n cap0 tid * e.cells) (htk:(jKd w n cap0 tid z vs).toList.take (n * e.cells) = vs)
 (hd:rdL (reads Ψ e) xs vs) (hβ:β[k]? = some (.slice (some ⟨w.heap.size,0,none⟩) n (grownCap w n cap0 tid))) :
 BlkR C.P B Ψ β (w.drew.alloc (.cells (jKd w n cap0 tid z vs) tid)) k (.grow tid e xs):=by
 subst hn
 exact .inr ⟨w.heap.size,_,_,hβ,grownCap_pos h0,jZ3 hB,heap_alloc_new w.drew _,hge,hle,hsz,by rw [htk]; exact hd⟩
theorem jJr {t tx ty tid:TypeId} {e:Ty} {i:TypeInfo} {z:Value} (hT:AppT C t tid e i z) (base:Option Addr) {x:Value} {ys:List e.den} {news:List Value} (hs:Src C.P e.cells tx x ys.length news w)
 (hd:rdL (reads Ψ e) ys news) (hB:(∀ k,B k → k < w.heap.size)) (hroom:roomP C tid ys.length) :
 ∃ u w',(Builtin.append_ #[t,tx] ty #[.slice base 0 0,x]).run C.P w = .ok u w' ∧ Below w.heap.size w w' ∧ u.oneCell' = true ∧
  (∀ (β':List Value) (k:Nat),β'[k]? = some u → BlkR C.P B Ψ β' w' k (.grow tid e ys)) ∧ (∀ (β':List Value) (k g:Nat),β'[k]? = some u → jQb β' k g (.grow tid e ys) → w.heap.size ≤ g):=by
 by_cases h0:ys.length = 0
 ·have hys:ys = []:=List.eq_nil_of_length_eq_zero h0
  subst hys
  have hnews:news = []:=List.eq_nil_of_length_eq_zero (by simpa using hs.newsLen)
  subst hnews
  refine ⟨.slice base 0 0,w,?_,Below.refl _ _,rfl,fun β' k hk=>.inl ⟨base,hk,rfl⟩,fun β' k g hk hc=>?_⟩
  ·have hcells:=hs.cells
   rw [← hT.hs] at hcells
   simp only [List.length_nil] at hcells
   rcases hs.kind with ⟨e',hk⟩ | hk <;> cases base <;> simp [Builtin.append_,run_underlying hT.ht,run_underlying hk,sizeOf,typeInfo,hT.hi,hs.len,hcells,storeCells]
  ·obtain ⟨n,cap,hz,hc⟩:=hc
   rw [hk] at hc
   simp at hc
   omega
 ·have hn:=append_new (ty:=ty) hT base 0 0 [] (by simp) (by
   cases base <;> simp [Builtin.firstCells,loadCells,loadCellsFrom]) hs (by omega) (by rw [Nat.zero_add]; exact hroom)
  simp only [Nat.zero_add,List.nil_append] at hn
  obtain ⟨hrun,hge,hle,hsz,htk⟩:=hn
  refine ⟨_,_,hrun,below_new w _,rfl,fun β' k hk=>blk_new hB rfl (by omega) hge hle hsz htk hd hk,fun β' k g hk hc=>?_⟩
  obtain ⟨n,cap,hz,hc⟩:=hc
  rw [hk] at hc
  simp at hc
  omega
theorem append_row {t tx ty tid:TypeId} {e:Ty} {i:TypeInfo} {z:Value} (hT:AppT C t tid e i z) {g cap:Nat} {cur:Array Value} {xs:List e.den} (hz:cap ≠ 0) (hBg:¬ B g) (hh:w.heap[g]? = some (.cells cur tid (0,0)))
 (_hn:xs.length ≤ cap) (hcm:cap ≤ maxLen) (hcs:cur.size = cap * e.cells) (hdx:rdL (reads Ψ e) xs (cur.toList.take (xs.length * e.cells))) {x:Value} {ys:List e.den} {news:List Value} (hs:Src C.P e.cells tx x ys.length news w)
 (hd:rdL (reads Ψ e) ys news) (hB:(∀ k,B k → k < w.heap.size)) (hroom:roomP C tid (xs.length + ys.length)) :
 ∃ u w',(Builtin.append_ #[t,tx] ty #[.slice (some ⟨g,0,none⟩) xs.length cap,x]).run C.P w = .ok u w' ∧ w.grownBy w' (some g) ∧ u.oneCell' = true ∧
  (∀ (β':List Value) (k:Nat),β'[k]? = some u → BlkR C.P B Ψ β' w' k (.grow tid e (xs ++ ys))) ∧ (∀ (β':List Value) (k g':Nat),β'[k]? = some u → jQb β' k g' (.grow tid e (xs ++ ys)) → g' = g ∨ w.heap.size ≤ g'):=by
 have hlx:(cur.toList.take (xs.length * e.cells)).length = xs.length * e.cells:=jZ2 (jQa e) _ _ hdx
 by_cases hr:xs.length + ys.length ≤ cap
 ·
  have hfit:0 + xs.length * e.cells + news.length ≤ cur.size:=by
   rw [hs.newsLen,hcs,Nat.zero_add,← Nat.add_mul]
   exact Nat.mul_le_mul_right _ hr
  have hst:=run_storeCells_at C.P g (xs.length * e.cells) tid news 0 cur w hh (by simp only [Nat.add_zero]; omega) hs.one
  simp only [Nat.add_zero] at hst
  have hcells:=hs.cells
  refine ⟨.slice (some ⟨g,0,none⟩) (xs.length + ys.length) cap,w.setRow g (cur.toList.take (xs.length * e.cells) ++ news ++ cur.toList.drop (xs.length * e.cells + news.length)).toArray,?_,
   ⟨rfl,rfl,rfl,by simp,fun k _ hk=>setRow_other w g k _ (fun e=>hk (by simp [e]))⟩,rfl,fun β' k hk=>?_,fun β' k g' hk hc=>?_⟩
  ·rw [← hT.hs] at hst hcells
   rw [← hT.hs]
   rcases hs.kind with ⟨e',hk⟩ | hk <;> simp [Builtin.append_,run_underlying hT.ht,run_underlying hk,sizeOf,typeInfo,hT.hi,hs.len,hr,hcells,Addr.add_lit,hst]
  ·refine .inr ⟨g,cap,_,by rw [hk]; simp,hz,hBg,setRow_heap w g cur _ tid _ hh,by simpa using hr,hcm,?_,?_⟩
   ·simp only [List.size_toArray,List.length_append,hlx,List.length_drop,Array.length_toList]
    omega
   ·simp only [List.length_append]
    have e1:(xs.length + ys.length) * e.cells = (cur.toList.take (xs.length * e.cells) ++ news).length + 0:=by
     rw [List.length_append,hlx,hs.newsLen,Nat.add_mul,Nat.add_zero]
    rw [e1,jX0]
    simp only [List.take_zero,List.append_nil]
    exact jZw _ _ _ _ hdx hd
  ·left
   obtain ⟨n,cap',hz',hc⟩:=hc
   rw [hk] at hc
   simp at hc
   exact hc.1.symm
 ·
  have hold:(Builtin.firstCells e.cells xs.length (.slice (some ⟨g,0,none⟩) xs.length cap)).run C.P w.drew = .ok (cur.toList.take (xs.length * e.cells)).toArray w.drew:=by
   refine run_firstCells_some (P:=C.P) w.drew e.cells xs.length ⟨g,0,none⟩ xs.length cap _ hlx (fun j v hj=>?_)
   rw [Addr.add_lit,World.cell?_drew,jXe hh,Nat.zero_add]
   rw [List.getElem?_take] at hj
   split at hj
   ·simpa using hj
   ·cases hj
  obtain ⟨hrun,hge,hle,hsz,htk⟩:=append_new (ty:=ty) hT (some ⟨g,0,none⟩) xs.length cap _ hlx hold hs (by omega) hroom
  refine ⟨_,_,hrun,⟨rfl,rfl,rfl,by simp,fun k hk _=>Below.heap_alloc w.drew _ k hk⟩,rfl,fun β' k hk=>?_,fun β' k g' hk hc=>?_⟩
  ·exact blk_new hB (by simp) (by omega) hge hle hsz htk (jZw _ _ _ _ hdx hd) hk
  ·right
   obtain ⟨n,cap',hz',hc⟩:=hc
   rw [hk] at hc
   simp at hc
   omega
theorem subH_get (k:Nat) (r:AV):∀ (h:List Blk) (j:Nat) (b:Blk),(subH k r h)[j]? = some b → ∃ b',h[j]? = some b' ∧ b = subB k r b'
 | [],j,b,hj=>by simp [subH] at hj
 | b0 :: h,0,b,hj=>by
  refine ⟨b0,rfl,?_⟩
  cases b0 <;> simp [subH] at hj <;> simp [subB,hj]
 | b0 :: h,j + 1,b,hj=>by
  have:(subH k r (b0 :: h))[j + 1]? = (subH k r h)[j]?:=by cases b0 <;> simp [subH]
  rw [this] at hj
  simpa using subH_get k r h j b hj
theorem subH_len (k:Nat) (r:AV):∀ h:List Blk,(subH k r h).length = h.length
 | []=>rfl
 | b :: h=>by cases b <;> simp [subH,subH_len k r h]
theorem subF_rel {Ψ':Pr} {β':List Value} (k:Nat) (r:AV) (hle:PLe Ψ Ψ') (hr:∀ v:Value,β[k]? = some v → RelV Ψ' β' r v) (hb:∀ (j:Nat) (v:Value),j ≠ k → β[j]? = some v → β'[j]? = some v)
 (hp:∀ g:Nat,β[k]? = some (.pointer (some ⟨g,0,none⟩)) → β'[k]? = some (.pointer (some ⟨g,0,none⟩))) (hy:∀ l:Nat,β[k]? = some (yldV l) → β'[k]? = some (yldV l)) :
 ∀ (fs:List (List AV)) (as:List Act),RelF Ψ β fs as → RelF Ψ' β' (subF k r fs) as
 | [],_,h=>h
 | _ :: fs,_,⟨a,as',e,⟨h1,h2⟩,h3⟩=>⟨a,as',e,⟨jVb hle h1,jZn k r hle hr hb hp hy _ _ h2⟩,subF_rel k r hle hr hb hp hy fs as' h3⟩
theorem jKg {k:Nat} {tid:TypeId} {e:Ty} {xs:List e.den} {g:Nat} (hb:BlkR C.P B Ψ β w k (.grow tid e xs)):β[k]? ≠ some (.pointer (some ⟨g,0,none⟩)):=by
 rcases hb with ⟨ad,h1,_⟩ | ⟨g',cap,cur,h1,_⟩ <;> rw [h1] <;> simp
theorem jKf {k:Nat} {tid:TypeId} {e:Ty} {xs:List e.den} {l:Nat} (hb:BlkR C.P B Ψ β w k (.grow tid e xs)):β[k]? ≠ some (yldV l):=by
 rcases hb with ⟨ad,h1,_⟩ | ⟨g',cap,cur,h1,_⟩ <;> rw [h1] <;> simp [yldV]
theorem jXa {l:List Value} {k j:Nat} {u v:Value} (hj:j ≠ k) (h:l[j]? = some v):(l.set k u)[j]? = some v:=by
 rw [List.getElem?_set_ne (Ne.symm hj)]; exact h
theorem InvH.regrow {k:Nat} {tid:TypeId} {e:Ty} {xs ys:List e.den} {u:Value} {row:Option Nat} (hi:InvH C.P B w0 Ψ β h w) (hk:h[k]? = some (.grow tid e xs)) (hg:w.grownBy w' row)
 (hrow:∀ g,row = some g → jQb β k g (.grow tid e xs)) (hone:u.oneCell' = true) (hnew:BlkR C.P B Ψ (β.set k u) w' k (.grow tid e ys)) (hcl:∀ g,jQb (β.set k u) k g (.grow tid e ys) → row = some g ∨ w.heap.size ≤ g) :
 InvH C.P B w0 Ψ (β.set k u) (subH k .junk (h.set k (.grow tid e ys))) w':=by
 have hkl:k < h.length:=by
  rcases Nat.lt_or_ge k h.length with h' | h'
  ·exact h'
  ·rw [List.getElem?_eq_none h'] at hk; cases hk
 have hB:=hi.blk k _ hk
 have hrowB:∀ g,row = some g → ¬ B g:=fun g hg'=>(jQx hB (hrow g hg')).1
 have notrow:∀ {g:Nat},(∀ j b,j ≠ k → h[j]? = some b → jQb β j g b → row ≠ some g):=fun {g} j b hjk hj hc e=>hi.sep j k b _ g hjk hj hk hc (hrow g e)
 have prom:∀ ad v,Ψ ad = some v → Pm w' ad v:=fun ad v hv=>by
  have h1:=hi.prom ad v hv
  refine jKa (hg.block ad.block (Pm_lt h1) ?_) h1
  intro e
  rw [hi.free' hk (hrow _ e.symm) rfl ad rfl] at hv
  cases hv
 have blkOther:∀ j b,j ≠ k → h[j]? = some b → BlkR C.P B Ψ (β.set k u) w' j (subB k .junk b):=by
  intro j b hjk hj
  have hb:=hi.blk j b hj
  cases b with
  | gone=>trivial
  | log ys Y own xs=>exact jJl hb (fun _ h=>jXa hjk h) (PLe.refl _).m hg.size fun g ho=>hg.block g (hb.2.2.1 g ho).2 (fun e=>notrow j _ hjk hj ho e.symm)
  | lof ys Y own=>exact jJm hb (fun _ h=>jXa hjk h) (PLe.refl _).m hg.size fun g ho=>hg.block g (hb.2.2.1 g ho).2 (fun e=>notrow j _ hjk hj ho e.symm)
  | cells cs =>
   obtain ⟨g,c,e',h1,h2,h3,h4,h5⟩:=hb
   refine ⟨g,c,e',jXa hjk h1,(hg.block g (jQm h2) (fun e=>notrow j _ hjk hj h1 e.symm)).trans h2,h3,?_,h5⟩
   exact jZn k .junk (PLe.refl _) (fun _ _=>trivial) (fun i v hik hv=>jXa hik hv) (fun g hp=>absurd hp (jKg hB)) (fun l hy=>absurd hy (jKf hB)) _ _ h4
  | grow tid' e' xs' =>
   rcases hb with ⟨ad,h1,h2⟩ | ⟨g,cap,cur,h1,h2,h3,h4,h5⟩
   ·exact .inl ⟨ad,jXa hjk h1,h2⟩
   ·exact .inr ⟨g,cap,cur,jXa hjk h1,h2,h3,(hg.block g (jQm h4) (fun e=>notrow j _ hjk hj ⟨_,_,h2,h1⟩ e.symm)).trans h4,h5⟩
  | kmap es =>
   obtain ⟨g,ms,cl,h1,h2,h3,h4,h5,h6⟩:=hb
   refine ⟨g,ms,cl,jXa hjk h1,(hg.block g (jQm h2) (fun e=>notrow j _ hjk hj h1 e.symm)).trans h2,h3,h4,?_,h6⟩
   have:RelL Ψ (β.set k u) (subL k .junk (es.map Prod.snd)) _:=jZn k .junk (PLe.refl _) (fun _ _=>trivial) (fun i v hik hv=>jXa hik hv) (fun g hp=>absurd hp (jKg hB)) (fun l hy=>absurd hy (jKf hB)) _ _ h5
   rwa [subL_okE k .junk fun p hp=>(h6 p hp).1] at this
  | dmap e m =>
   obtain ⟨g,ms,cl,h1,h2,h3,h4⟩:=hb
   exact ⟨g,ms,cl,jXa hjk h1,(hg.block g (jQm h2) (fun e=>notrow j _ hjk hj h1 e.symm)).trans h2,h3,h4⟩
  | diter e last left =>
   obtain ⟨g,gm,ms,cl,seen,h1,h2,h3,h4⟩:=hb
   exact ⟨g,gm,ms,cl,seen,jXa hjk h1,(hg.block g (jQm h2) (fun e=>notrow j _ hjk hj h1 e.symm)).trans h2,h3,h4⟩
  | loop f p ph ts =>
   obtain ⟨l,r,h1,h2,h3,h4,h5,h6⟩:=hb
   exact ⟨l,r,jXa hjk h1,(hg.block l (jQm h2) (fun e=>notrow j _ hjk hj h1 e.symm)).trans h2,h3,h4,
    jZn k .junk (PLe.refl _) (fun _ _=>trivial) (fun i v hik hv=>jXa hik hv) (fun g hp=>absurd hp (jKg hB)) (fun l hy=>absurd hy (jKf hB)) _ _ h5,h6⟩
  | dat t x =>
   obtain ⟨g,c,e',h1,h2,h3⟩:=hb
   exact ⟨g,c,e',jXa hjk h1,(hg.block g (jQm h2) (fun e=>notrow j _ hjk hj h1 e.symm)).trans h2,h3⟩
  | siter n rest =>
   obtain ⟨g,s,pos,h1,h2,h3⟩:=hb
   exact ⟨g,s,pos,jXa hjk h1,(hg.block g (jQm h2) (fun e=>notrow j _ hjk hj h1 e.symm)).trans h2,h3⟩
 have claimsOther:∀ {j g:Nat} {b:Blk},j ≠ k → jQb (β.set k u) j g (subB k .junk b) → jQb β j g b:=by
  intro j g b hjk hc
  cases b with
  | gone=>exact hc
  | log ys Y own xs=>exact hc
  | lof ys Y own=>exact hc
  | cells cs=>simp only [jQb,subB] at *; rwa [List.getElem?_set_ne (Ne.symm hjk)] at hc
  | grow tid' e' xs'=>obtain ⟨n,cap,h1,h2⟩:=hc; rw [List.getElem?_set_ne (Ne.symm hjk)] at h2; exact ⟨n,cap,h1,h2⟩
  | kmap es=>simp only [jQb,subB] at *; rwa [List.getElem?_set_ne (Ne.symm hjk)] at hc
  | dmap e m=>simp only [jQb,subB] at *; rwa [List.getElem?_set_ne (Ne.symm hjk)] at hc
  | diter e last left=>simp only [jQb,subB] at *; rwa [List.getElem?_set_ne (Ne.symm hjk)] at hc
  | loop f p ph ts=>simp only [jQb,subB] at *; rwa [List.getElem?_set_ne (Ne.symm hjk)] at hc
  | dat t x=>simp only [jQb,subB] at *; rwa [List.getElem?_set_ne (Ne.symm hjk)] at hc
  | siter n rest=>simp only [jQb,subB] at *; rwa [List.getElem?_set_ne (Ne.symm hjk)] at hc
 have at_k:∀ {b:Blk},(subH k .junk (h.set k (.grow tid e ys)))[k]? = some b → b = .grow tid e ys:=by
  intro b hb
  obtain ⟨b',h1,h2⟩:=subH_get _ _ _ _ _ hb
  rw [List.getElem?_set_self (by simpa using hkl)] at h1
  simp at h1
  subst h1
  exact h2
 have at_j:∀ {j:Nat} {b:Blk},j ≠ k → (subH k .junk (h.set k (.grow tid e ys)))[j]? = some b → ∃ b',h[j]? = some b' ∧ b = (subB k .junk b'):=by
  intro j b hjk hb
  obtain ⟨b',h1,h2⟩:=subH_get _ _ _ _ _ hb
  rw [List.getElem?_set_ne (Ne.symm hjk)] at h1
  exact ⟨b',h1,h2⟩
 refine ⟨?_,fun k hk=>Nat.lt_of_lt_of_le (hi.size k hk) hg.size,prom,hi.own,by rw [subH_len]; simp [hi.len],?_,?_,?_,?_,hi.glob⟩
 ·exact hi.low.grown hg hi.size hrowB
 ·intro j v hj
  by_cases hjk:j = k
  ·subst hjk
   rw [List.getElem?_set_self (by rw [hi.len]; exact hkl)] at hj
   simp at hj
   subst hj
   exact hone
  ·rw [List.getElem?_set_ne (Ne.symm hjk)] at hj
   exact hi.one j v hj
 ·intro j b hb
  by_cases hjk:j = k
  ·subst hjk
   rw [at_k hb]
   exact hnew
  ·obtain ⟨b',h1,rfl⟩:=at_j hjk hb
   exact blkOther j b' hjk h1
 ·intro j b g hb hc ad had hsp
  by_cases hjk:j = k
  ·subst hjk
   rw [at_k hb] at hc
   rcases hcl g hc with e1 | e1
   ·exact hi.free j _ g hk (hrow g e1) ad had hsp
   ·cases hp:Ψ ad with
    | none=>rfl
    | some v =>
     have:=Pm_lt (hi.prom ad v hp)
     omega
  ·obtain ⟨b',h1,rfl⟩:=at_j hjk hb
   exact hi.free j b' g h1 (claimsOther hjk hc) ad had hsp
 ·have mixed:∀ {j g:Nat} {b bk:Blk},j ≠ k → (subH k .junk (h.set k (.grow tid e ys)))[j]? = some b → (subH k .junk (h.set k (.grow tid e ys)))[k]? = some bk → jQb (β.set k u) j g b → jQb (β.set k u) k g bk → False:=by
   intro j g b bk hjk hb hbk hc hck
   rw [at_k hbk] at hck
   obtain ⟨b',h1,rfl⟩:=at_j hjk hb
   have hc':=claimsOther hjk hc
   rcases hcl g hck with e1 | e1
   ·exact notrow j b' hjk h1 hc' e1
   ·have:=(jQx (hi.blk j b' h1) hc').2
    omega
  intro i j bi bj g hij hbi hbj hci hcj
  by_cases hik:i = k
  ·subst hik
   exact mixed (Ne.symm hij) hbj hbi hcj hci
  ·by_cases hjk:j = k
   ·subst hjk
    exact mixed hij hbi hbj hci hcj
   ·obtain ⟨bi',h1,rfl⟩:=at_j hik hbi
    obtain ⟨bj',h2,rfl⟩:=at_j hjk hbj
    exact hi.sep i j bi' bj' g hij h1 h2 (claimsOther hik hci) (claimsOther hjk hcj)
theorem appT {t tid:TypeId} {sz:Nat} {z:AV} {e:Ty} (he:jJp C t = some tid) (hs:C.size tid = some sz) (hz:C.zero tid = some z) (hsz:e.cells = sz) (hzo:zeroOk e z = true):∃ i v,AppT C t tid e i v:=by
 obtain ⟨i,v,hi,hiz,rfl⟩:=jX5 hz
 obtain ⟨i',hi',hsi⟩:=size_of hs
 rw [hi] at hi'
 simp at hi'
 subst hi'
 exact ⟨i,v,jQ6 he,hi,hiz,by omega,zeroOk_spec hzo⟩
theorem append_ok {t tx ty:TypeId} {x y:AV} {u v:Value} {r:Out} {fs:List (List AV)} {acts:List Act} (hi:InvH C.P B w0 Ψ β h w) (hf:RelF Ψ β fs acts) (hx:RelV Ψ β x u) (hy:RelV Ψ β y v)
 (hr:aappend C h t tx x y = some r) (hp:∀ p,r.need = some p → p) :
 EOp C B w0 Ψ w (do pure (.value (← Builtin.append_ #[t,tx] ty #[u,v]))) r fs acts:=by
 unfold aappend at hr
 split at hr
 ·cases hr
 ·rename_i tid he
  split at hr
  ·rename_i sz z hsz hz
   unfold aappendTo at hr
   have fresh:∀ {e:Ty} {ys:List e.den} {u':Value} {w':World},(Builtin.append_ #[t,tx] ty #[u,v]).run C.P w = .ok u' w' → Below w.heap.size w w' → u'.oneCell' = true →
    (∀ (β':List Value) (k:Nat),β'[k]? = some u' → BlkR C.P B Ψ β' w' k (.grow tid e ys)) → (∀ (β':List Value) (k g:Nat),β'[k]? = some u' → jQb β' k g (.grow tid e ys) → w.heap.size ≤ g) →
    ∀ p,EOp C B w0 Ψ w (do pure (.value (← Builtin.append_ #[t,tx] ty #[u,v]))) ⟨p,.sl (hlen h),h ++ [.grow tid e ys],none⟩ fs acts:=by
    intro e ys u' w' hrun hb hone hblk hcl p
    have hn:(β ++ [u'])[h.length]? = some u':=by rw [← hi.len]; simp
    refine ⟨.value u',u',β ++ [u'],w',by simp [hrun],.inl rfl,hi.push hb hone (hblk _ _ hn) (fun g hc=>hcl _ _ g hn hc),jQq (PLe.refl _) (jQh _) _ _ hf,?_⟩
    refine ⟨?_,fun e0=>?_⟩
    ·rw [jQ1]
     exact hn
    ·have hb0:=hblk _ _ hn
     rcases hb0 with ⟨ad,h1,_⟩ | ⟨g,cap,cur,h1,_⟩
     ·rw [hn,e0] at h1; simp [hole] at h1
     ·rw [hn,e0] at h1; simp [hole] at h1
   split at hr
   ·
    split at hr
    ·cases hr
    ·rename_i e hty
     split at hr
     ·rename_i ys hys
      split at hr
      ·rename_i hc
       simp only [Bool.and_eq_true,Nat.beq_eq] at hc
       simp at hr
       subst hr
       have hu:u = .slice none 0 0:=hx
       subst hu
       obtain ⟨i,zv,hT⟩:=appT he hsz hz hc.1 hc.2
       obtain ⟨news,hs,hd⟩:=tail_src hi hy hys
       obtain ⟨u',w',hrun,hb,hone,hblk,hcl⟩:=jJr (ty:=ty) hT none hs hd hi.size (hp _ rfl)
       exact fresh hrun hb hone hblk hcl _
      ·cases hr
     ·cases hr
   ·
    rename_i k
    split at hr
    ·rename_i tid' e xs hg
     split at hr
     ·rename_i ys hys
      split at hr
      ·rename_i hc
       simp only [Bool.and_eq_true,Nat.beq_eq] at hc
       obtain ⟨⟨rfl,hc1⟩,hc2⟩:=hc
       simp at hr
       subst hr
       have hβ:β[k]? = some u:=hx.1
       have hhk:=jQc hg (by simp)
       have hkl:k < β.length:=by
        rcases Nat.lt_or_ge k β.length with h' | h'
        ·exact h'
        ·rw [List.getElem?_eq_none h'] at hβ; cases hβ
       obtain ⟨i,zv,hT⟩:=appT he hsz hz hc1 hc2
       obtain ⟨news,hs,hd⟩:=tail_src hi hy hys
       have done:∀ {u':Value} {w':World} {row:Option Nat},(Builtin.append_ #[t,tx] ty #[u,v]).run C.P w = .ok u' w' → w.grownBy w' row → (∀ g,row = some g → jQb β k g (.grow tid e xs)) → u'.oneCell' = true →
        (∀ (β':List Value) (k:Nat),β'[k]? = some u' → BlkR C.P B Ψ β' w' k (.grow tid e (xs ++ ys))) → (∀ (β':List Value) (k g:Nat),β'[k]? = some u' → jQb β' k g (.grow tid e (xs ++ ys)) → row = some g ∨ w.heap.size ≤ g) →
        EOp C B w0 Ψ w (do pure (.value (← Builtin.append_ #[t,tx] ty #[u,v]))) ⟨some (roomP C tid (xs.length + ys.length)),.sl k,hset h k (.grow tid e (xs ++ ys)),some k⟩ fs acts:=by
        intro u' w' row hrun hgb hrow hone hblk hcl
        have hn:(β.set k u')[k]? = some u':=by rw [List.getElem?_set_self hkl]
        refine ⟨.value u',u',β.set k u',w',by simp [hrun],.inl rfl,?_,?_,⟨hn,jJx (hblk _ _ hn) hn⟩⟩
        ·simp only [jQp]
         exact hi.regrow hhk hgb hrow hone (hblk _ _ hn) (fun g hc=>hcl _ _ g hn hc)
        ·exact subF_rel k .junk (PLe.refl _) (fun _ _=>trivial) (fun j v hjk hv=>jXa hjk hv) (fun g hp=>absurd hp (jKg (hi.blk k _ hhk))) (fun l hy=>absurd hy (jKf (hi.blk k _ hhk))) _ _ hf
       rcases hi.blk k _ hhk with ⟨ad,hb1,rfl⟩ | ⟨g,cap,cur,hb1,hz',hB,hh,hn,hcm,hcs,hdx⟩
       ·rw [hβ] at hb1
        simp at hb1
        subst hb1
        have hroom:=hp _ rfl
        simp only [List.length_nil,Nat.zero_add] at hroom
        obtain ⟨u',w',hrun,hb,hone,hblk,hcl⟩:=jJr (ty:=ty) hT ad hs hd hi.size hroom
        exact done (row:=none) hrun ⟨hb.os,hb.tape,hb.output,hb.size,fun k hk _=>hb.block k hk⟩ (by simp) hone (by simpa using hblk) (fun β' k g hk hc=>.inr (hcl β' k g hk (by simpa using hc)))
       ·rw [hβ] at hb1
        simp at hb1
        subst hb1
        obtain ⟨u',w',hrun,hgb,hone,hblk,hcl⟩:=append_row (ty:=ty) hT hz' hB hh hn hcm hcs hdx hs hd hi.size (hp _ rfl)
        exact done hrun hgb (fun g' e=>by cases e; exact ⟨_,_,hz',hβ⟩) hone hblk (fun β' k g' hk hc=>(hcl β' k g' hk hc).imp (fun e=>by rw [e]) id)
      ·cases hr
     ·cases hr
    ·cases hr
   ·
    rename_i e xs
    split at hr
    ·rename_i ys hys
     split at hr
     ·rename_i hc
      simp only [Bool.and_eq_true,Nat.beq_eq] at hc
      obtain ⟨i,zv,hT⟩:=appT he hsz hz hc.1 hc.2
      obtain ⟨news,hs,hd⟩:=tail_src hi hy hys
      obtain ⟨ad,rfl,hrv⟩:=hx
      have more:∀ (x0:e.den) (xs0:List e.den) (y0:e.den) (ys0:List e.den),xs = x0 :: xs0 → ys = y0 :: ys0 → roomP C tid ((x0 :: xs0).length + (y0 :: ys0).length) → ∀ p,
       EOp C B w0 Ψ w (do pure (.value (← Builtin.append_ #[t,tx] ty #[.slice ad xs.length xs.length,v]))) ⟨p,.sl (hlen h),h ++ [.grow tid e (x0 :: xs0 ++ y0 :: ys0)],none⟩ fs acts:=by
       intro x0 xs0 y0 ys0 ex ey hroom p
       subst ex ey
       obtain ⟨ad',cap,e1,h1,h2,h3⟩:=rv_arr (β:=β).1 hrv
       simp at e1
       obtain ⟨rfl,rfl⟩:=e1
       rcases h3 with h3 | ⟨cells,hdx,g,off,rfl,hc'⟩
       ·cases h3
       ·have hlx:=jZ2 (jQa e) _ _ hdx
        have hold:(Builtin.firstCells e.cells (x0 :: xs0).length (.slice (some ⟨g,off,none⟩) (x0 :: xs0).length (x0 :: xs0).length)).run C.P w.drew = .ok cells.toArray w.drew:=by
         refine run_firstCells_some (P:=C.P) w.drew e.cells _ ⟨g,off,none⟩ _ _ _ hlx (fun j v hj=>?_)
         rw [Addr.add_lit,World.cell?_drew]
         exact hi.prom _ _ (hc' j v hj)
        obtain ⟨hrun,hge,hle,hsz',htk⟩:=append_new (ty:=ty) hT (some ⟨g,off,none⟩) (x0 :: xs0).length (x0 :: xs0).length _ hlx hold hs (by simp) hroom
        refine fresh (e:=e) (ys:=x0 :: xs0 ++ y0 :: ys0) hrun (below_new w _) rfl (fun β' k hk=>?_) (fun β' k g' hk hc=>?_) p
        ·exact blk_new hi.size List.length_append (Nat.add_pos_left (Nat.succ_pos _) _) hge hle hsz' htk (jZw _ _ _ _ hdx hd) hk
        ·obtain ⟨n,cap',hz',hc⟩:=hc
         rw [hk] at hc
         simp at hc
         omega
      cases htf:C.tailFirst with
      | true =>
       rw [htf] at hr
       simp only [cond_true] at hr
       split at hr
       ·simp only [Option.some.injEq] at hr
        subst hr
        have hnl:news = []:=List.eq_nil_of_length_eq_zero (by rw [hs.newsLen]; simp)
        subst hnl
        have hcells:=hs.cells
        have hl0:=hs.len
        refine ⟨.value (.slice ad xs.length xs.length),_,β,w,?_,.inl rfl,hi,hf,⟨ad,rfl,hrv⟩⟩
        rw [← hT.hs] at hcells
        have hcells:(Builtin.firstCells i.size 0 v).run C.P w = .ok #[] w:=hcells
        rcases hs.kind with ⟨e',hk⟩ | hk <;> cases ad <;> simp [Builtin.append_,run_underlying hT.ht,run_underlying hk,sizeOf,typeInfo,hT.hi,hl0,hcells,storeCells]
       ·rename_i y0 ys0
        simp only [Option.some.injEq] at hr
        subst hr
        have hroom:=hp _ rfl
        cases xs with
        | nil =>
         obtain ⟨u',w',hrun,hb,hone,hblk,hcl⟩:=jJr (ty:=ty) hT ad hs hd hi.size (by simpa using hroom)
         exact fresh hrun hb hone hblk hcl _
        | cons x0 xs0=>exact more x0 xs0 y0 ys0 rfl rfl hroom _
      | false =>
       rw [htf] at hr
       simp only [cond_false] at hr
       split at hr
       ·simp at hr
        subst hr
        obtain ⟨u',w',hrun,hb,hone,hblk,hcl⟩:=jJr (ty:=ty) hT ad hs hd hi.size (hp _ rfl)
        exact fresh hrun hb hone hblk hcl _
       ·rename_i x0 xs0 y0 ys0
        simp at hr
        subst hr
        exact more x0 xs0 y0 ys0 rfl rfl (hp _ rfl) _
       ·cases hr
     ·cases hr
    ·cases hr
   ·cases hr
  ·cases hr
end Go.AM
