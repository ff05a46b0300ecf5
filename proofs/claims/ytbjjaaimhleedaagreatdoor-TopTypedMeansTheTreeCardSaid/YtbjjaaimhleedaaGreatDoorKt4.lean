import Derived.Test.YtbjjaaimhleedaaGreatDoorKt3
import Derived.MapKept
import Derived.Maps.RangeRun
import Derived.Laws.Cover3
import Derived.RangeFuncRecord
import Derived.RangeFuncCalls
import Derived.TacticsIn
import Derived.OrdersIn
set_option linter.unusedSimpArgs false
set_option linter.unusedVariables false
namespace Go.AM
open Go.RowKit Go.MapKept
variable {B:Nat → Prop} {w0:World} {C:Ctx} {Ψ:Pr} {β:List Value} {h:List Blk} {w w':World} {fr:List AV} {a:Act} {As:List Act}
theorem then_skip {s:Sem Unit} (hr:s.run C.P w = .ok () w'):(do s; pure .skip:Sem Next).run C.P w = .ok .skip w':=by simp [hr]
theorem jXf {s:Sem Value} {v:Value} (hr:s.run C.P w = .ok v w'):(do pure (.value (← s)):Sem Next).run C.P w = .ok (.value v) w':=by simp [hr]
theorem flat_get {c:List Value} {n:Nat}:∀ (m j:Nat),c.length = n → j < m * n → ((List.replicate m c).flatten)[j]? = c[j % n]?
 | 0,j,_,hj=>by simp at hj
 | m + 1,j,hc,hj=>by
  rw [List.replicate_succ,List.flatten_cons]
  rcases Nat.lt_or_ge j n with h | h
  ·rw [List.getElem?_append_left (by omega),Nat.mod_eq_of_lt h]
  ·rw [List.getElem?_append_right (by omega),hc,flat_get m (j - n) hc (by rw [Nat.succ_mul] at hj; omega),Nat.mod_eq_sub_mod h]
theorem made_eq (z:Array Value) (m:Nat) (n:Nat) (hn:z.size = n):(madeCells z (m * n)).toList = (List.replicate m z.toList).flatten:=by
 apply List.ext_getElem?
 intro j
 rcases Nat.lt_or_ge j (m * n) with h | h
 ·rw [flat_get m j (by simpa using hn) h]
  have hpos:0 < n:=by
   rcases Nat.eq_zero_or_pos n with h0 | h0
   ·subst h0; omega
   ·exact h0
  have hlt:j % n < z.size:=by rw [hn]; exact Nat.mod_lt _ hpos
  simp only [madeCells,Array.getElem?_toList,Array.getElem?_map,Array.getElem?_range,h,if_true,Option.map_some,hn]
  rw [Array.getElem?_eq_getElem hlt,getElem!_pos z (j % n) hlt]
 ·rw [List.getElem?_eq_none (by rw [Array.length_toList,size_madeCells]; exact h),List.getElem?_eq_none (by simp [hn]; exact h)]
theorem make_ok {t:TypeId} {x y:AV} {u v:Value} {r:Out} {fs:List (List AV)} {acts:List Act} (hi:InvH C.P B w0 Ψ β h w) (hf:RelF Ψ β fs acts) (hx:RelV Ψ β x u) (hy:RelV Ψ β y v)
 (hr:amake C h t x y = some r) (hp:∀ p,r.need = some p → p):EOp C B w0 Ψ w (do pure (.value (← Instr.makeSlice t u v))) r fs acts:=by
 unfold amake at hr
 split at hr
 ·rename_i tid he
  split at hr
  ·rename_i e sz z n0 m0 hty hsz hz
   obtain ⟨n,rfl⟩:∃ n:Int,n = n0:=⟨n0,rfl⟩
   obtain ⟨m,rfl⟩:∃ m:Int,m = m0:=⟨m0,rfl⟩
   split at hr
   ·rename_i hc
    simp only [Bool.and_eq_true,Nat.beq_eq] at hc
    split at hr
    ·rename_i x0 hx0
     simp at hr
     subst hr
     obtain ⟨hn0,hnm,hb1,hb2⟩:(0:Int) ≤ n ∧ n ≤ m ∧ m.toNat * C.P.bytesOf tid ≤ 140737488355328 ∧ m.toNat ≤ 9223372036854775807:=hp _ rfl
     obtain ⟨rfl,hnk⟩:=jQj.1 hx
     obtain ⟨rfl,hmk⟩:=jQj.1 hy
     obtain ⟨i,zv,hT⟩:=appT he hsz hz hc.1 hc.2
     obtain ⟨i',zv',hi',hiz',hzz⟩:=jX5 hz
     have:i' = i:=by have:=hT.hi; rw [hi'] at this; simpa using this
     subst this
     have:zv' = zv:=by have:=hT.hz; rw [hiz'] at this; simpa using this
     subst this
     have hbytes:(i'.bytes:Int) * m ≤ 281474976710656:=by
      have hb:C.P.bytesOf tid = i'.bytes:=by simp [Program.bytesOf,hi']
      rw [hb] at hb1
      have:((m.toNat * i'.bytes:Nat):Int) ≤ 140737488355328:=by omega
      rw [Int.natCast_mul,Int.toNat_of_nonneg (by omega),Int.mul_comm] at this
      omega
     have hrun:=run_make (P:=C.P) w t tid i' zv' hT.ht hT.hi hT.hz .i64 .i64 n m hn0 hnm hbytes (by omega)
     rw [hT.hs] at hrun
     have hrv:reads Ψ e x0 zv'.cells.toList:=rv_cells (jKj (h:=[]) (β:=β) (PLe.refl Ψ) hx0 (by rw [hzz]; exact jZ4 zv') (fun k _ tid e xs hg=>by simp [hget] at hg))
     have hxl:((List.replicate n.toNat x0).length) = n.toNat:=by simp
     refine ⟨.value (.slice (some ⟨w.heap.size,0,none⟩) n.toNat m.toNat),.slice (some ⟨w.heap.size,0,none⟩) n.toNat m.toNat,β ++ [.slice (some ⟨w.heap.size,0,none⟩) n.toNat m.toNat],_,jXf hrun,.inl rfl,
      hi.push ((Below.refl _ _).alloc (Nat.le_refl _) _) rfl ?_ ?_,jQq (PLe.refl _) (jQh _) _ _ hf,?_⟩
     ·have hk:(β ++ [Value.slice (some ⟨w.heap.size,0,none⟩) n.toNat m.toNat])[h.length]? = some (.slice (some ⟨w.heap.size,0,none⟩) n.toNat m.toNat):=by
       rw [← hi.len]; simp
      by_cases hm0:m.toNat = 0
      ·left
       have:n.toNat = 0:=by omega
       rw [hm0,this] at hk
       exact ⟨_,by rw [hm0,this]; exact hk,by rw [this]; rfl⟩
      ·right
       refine ⟨w.heap.size,m.toNat,_,by rw [hxl]; exact hk,hm0,jZ3 hi.size,heap_alloc_new w _,by rw [hxl]; omega,by simp only [maxLen]; omega,size_madeCells _ _,?_⟩
       rw [hxl,made_eq _ _ _ hT.hc]
       have:(List.replicate m.toNat zv'.cells.toList).flatten.take (n.toNat * e.cells) = (List.replicate n.toNat zv'.cells.toList).flatten:=by
        have hsplit:m.toNat = n.toNat + (m.toNat - n.toNat):=by omega
        rw [hsplit,← List.replicate_append_replicate,List.flatten_append,List.take_append_of_le_length (by simp [hT.hc]),List.take_of_length_le (by simp [hT.hc])]
       rw [this]
       exact rdL_replicate x0 _ hrv _
     ·intro g hcl
      obtain ⟨n',cap',hz',hcl⟩:=hcl
      rw [← hi.len] at hcl
      simp at hcl
      omega
     ·refine ⟨?_,by simp [hole]⟩
      rw [jQ1,← hi.len]
      simp
    ·cases hr
   ·cases hr
  ·cases hr
 ·cases hr
theorem jJ3 {t:TypeId} {n g off:Nat} {v:Value} {cur:Array Value} {e:TypeId} (hs:C.size t = some n) (hn:v.cells.size = n) (hh:w.heap[g]? = some (.cells cur e (0,0))) (hle:off + n ≤ cur.size) (h1:∀ u ∈ v.cells.toList,u.oneCell' = true) :
 (Instr.storeAt t (.pointer (some ⟨g,off,none⟩)) v).run C.P w = .ok () (w.setRow g (cur.toList.take off ++ v.cells.toList ++ cur.toList.drop (off + v.cells.toList.length)).toArray):=by
 have hst:=run_storeCells_at C.P g off e v.cells.toList 0 cur w hh (by simp; omega) h1
 simp only [Nat.add_zero] at hst
 simp [Instr.storeAt,Instr.sureAddr,storeVar,jQo hs,hn,hst]
theorem InvH.rewriteL {k g:Nat} {b b':Blk} (hi:InvH C.P B w0 Ψ β h w) (hk:h[k]? = some b) (hc:jQb β k g b) (hgb:w.grownBy w' (some g))
 (hprom:∀ ad v,Ψ ad = some v → ad.block = g → Pm w' ad v) (hcl:∀ g',jQb β k g' b' → jQb β k g' b) (hnew:BlkR C.P B Ψ β w' k b'):InvH C.P B w0 Ψ β (h.set k b') w':=by
 have hBg:=(jQx (hi.blk k b hk) hc).1
 have at_:∀ {j:Nat} {b1:Blk},(h.set k b')[j]? = some b1 → (j = k ∧ b1 = b') ∨ (j ≠ k ∧ h[j]? = some b1):=by
  intro j b1 hj
  by_cases hjk:j = k
  ·subst hjk
   rw [List.getElem?_set_self (by
    rcases Nat.lt_or_ge j h.length with h' | h'
    ·exact h'
    ·rw [List.getElem?_eq_none h'] at hk; cases hk)] at hj
   simp at hj
   exact .inl ⟨rfl,hj.symm⟩
  ·rw [List.getElem?_set_ne (Ne.symm hjk)] at hj
   exact .inr ⟨hjk,hj⟩
 have notg:∀ {j:Nat} {b1:Blk},j ≠ k → h[j]? = some b1 → ∀ g',jQb β j g' b1 → some g' ≠ some g:=fun hjk hj g' hc' e=>hi.sep _ k _ b g hjk hj hk (by cases e; exact hc') hc
 refine ⟨hi.low.grown hgb hi.size (fun g' e=>by cases e; exact hBg),fun k hk=>Nat.lt_of_lt_of_le (hi.size k hk) hgb.size,fun ad v hv=>?_,hi.own,by simp [hi.len],hi.one,fun j b1 hj=>?_,fun j b1 g' hj hc' ad had hsp=>?_,fun i j bi bj g' hij hbi hbj hci hcj=>?_,hi.glob⟩
 ·by_cases e:ad.block = g
  ·exact hprom ad v hv e
  ·have h1:=hi.prom ad v hv
   exact jKa (hgb.block ad.block (Pm_lt h1) (fun e'=>e (by simpa using e'))) h1
 ·rcases at_ hj with ⟨rfl,rfl⟩ | ⟨hjk,hj'⟩
  ·exact hnew
  ·have hb:=hi.blk j b1 hj'
   cases b1 with
   | gone=>trivial
   | log ys Y own xs=>exact jJl hb (fun _ h=>h) (PLe.refl _).m hgb.size fun g' ho=>hgb.block g' (hb.2.2.1 g' ho).2 (notg hjk hj' g' ho)
   | lof ys Y own=>exact jJm hb (fun _ h=>h) (PLe.refl _).m hgb.size fun g' ho=>hgb.block g' (hb.2.2.1 g' ho).2 (notg hjk hj' g' ho)
   | cells cs =>
    obtain ⟨g',c,e',h1,h2,h3,h4⟩:=hb
    exact ⟨g',c,e',h1,(hgb.block g' (jQm h2) (notg hjk hj' g' h1)).trans h2,h3,h4⟩
   | grow tid e' xs' =>
    rcases hb with hb | ⟨g',cap,cur1,h1,h2,h3,h4,h5⟩
    ·exact .inl hb
    ·exact .inr ⟨g',cap,cur1,h1,h2,h3,(hgb.block g' (jQm h4) (notg hjk hj' g' ⟨_,_,h2,h1⟩)).trans h4,h5⟩
   | kmap es =>
    obtain ⟨g',ms,cl,h1,h2,h3,h4⟩:=hb
    exact ⟨g',ms,cl,h1,(hgb.block g' (jQm h2) (notg hjk hj' g' h1)).trans h2,h3,h4⟩
   | dmap e m =>
    obtain ⟨g',ms,cl,h1,h2,h3,h4⟩:=hb
    exact ⟨g',ms,cl,h1,(hgb.block g' (jQm h2) (notg hjk hj' g' h1)).trans h2,h3,h4⟩
   | diter e last left =>
    obtain ⟨g',gm,ms,cl,seen,h1,h2,h3,h4⟩:=hb
    exact ⟨g',gm,ms,cl,seen,h1,(hgb.block g' (jQm h2) (notg hjk hj' g' h1)).trans h2,h3,h4⟩
   | loop f p ph ts =>
    obtain ⟨l,r,h1,h2,h3⟩:=hb
    exact ⟨l,r,h1,(hgb.block l (jQm h2) (notg hjk hj' l h1)).trans h2,h3⟩
   | dat t x =>
    obtain ⟨g',c,e',h1,h2,h3⟩:=hb
    exact ⟨g',c,e',h1,(hgb.block g' (jQm h2) (notg hjk hj' g' h1)).trans h2,h3⟩
   | siter n rest =>
    obtain ⟨g',s,pos,h1,h2,h3⟩:=hb
    exact ⟨g',s,pos,h1,(hgb.block g' (jQm h2) (notg hjk hj' g' h1)).trans h2,h3⟩
 ·rcases at_ hj with ⟨rfl,rfl⟩ | ⟨hjk,hj'⟩
  ·exact hi.free _ b g' hk (hcl g' hc') ad had hsp
  ·exact hi.free j b1 g' hj' hc' ad had hsp
 ·rcases at_ hbi with ⟨rfl,rfl⟩ | ⟨hik,hbi'⟩ <;> rcases at_ hbj with ⟨rfl,rfl⟩ | ⟨hjk,hbj'⟩
  ·exact hij rfl
  ·exact hi.sep _ j b bj g' hij hk hbj' (hcl g' hci) hcj
  ·exact hi.sep i _ bi b g' hij hbi' hk hci (hcl g' hcj)
  ·exact hi.sep i j bi bj g' hij hbi' hbj' hci hcj
theorem InvH.rewriteG {k g:Nat} {b b':Blk} (hi:InvH C.P B w0 Ψ β h w) (hk:h[k]? = some b) (hn:b.isLoop = false) (hc:jQb β k g b) (hgb:w.grownBy w' (some g))
 (hcl:∀ g',jQb β k g' b' → jQb β k g' b) (hnew:BlkR C.P B Ψ β w' k b'):InvH C.P B w0 Ψ β (h.set k b') w' :=
 hi.rewriteL hk hc hgb (fun ad v hv e=>by rw [hi.free' hk hc hn ad e] at hv; cases hv) hcl hnew
theorem InvH.rewrite {k g:Nat} {b b':Blk} {cur cur':Array Value} {e:TypeId} (hi:InvH C.P B w0 Ψ β h w) (hk:h[k]? = some b) (hn:b.isLoop = false) (hc:jQb β k g b) (hh:w.heap[g]? = some (.cells cur e (0,0)))
 (hcl:∀ g',jQb β k g' b' → jQb β k g' b) (hnew:BlkR C.P B Ψ β (w.setRow g cur') k b'):InvH C.P B w0 Ψ β (h.set k b') (w.setRow g cur') :=
 hi.rewriteG hk hn hc ⟨rfl,rfl,rfl,by simp,fun j _ hj=>setRow_other w g j _ (fun e=>hj (by rw [e]))⟩ hcl hnew
theorem splice0 {α:Type} (A S1 S2 S3 D d:List α) (hd:d.length = S2.length) :
 (A ++ (S1 ++ S2 ++ S3) ++ D).take (A.length + S1.length) ++ d ++ (A ++ (S1 ++ S2 ++ S3) ++ D).drop (A.length + S1.length + d.length) = A ++ (S1 ++ d ++ S3) ++ D:=by
 have e1:A ++ (S1 ++ S2 ++ S3) ++ D = (A ++ S1) ++ (S2 ++ (S3 ++ D)):=by simp [List.append_assoc]
 have e2:A.length + S1.length = (A ++ S1).length:=by simp
 rw [e1,hd,e2,List.take_left,← List.drop_drop,List.drop_left,List.drop_left]
 simp [List.append_assoc]
theorem splice {α:Type} (cs d:List α) (off n i:Nat) (h1:off + n ≤ cs.length) (h2:i + d.length ≤ n) :
 cs.take (off + i) ++ d ++ cs.drop (off + i + d.length) = cs.take off ++ (((cs.drop off).take n).take i ++ d ++ ((cs.drop off).take n).drop (i + d.length)) ++ cs.drop (off + n):=by
 have e1:cs = cs.take off ++ (((cs.drop off).take n).take i ++ (((cs.drop off).take n).drop i).take d.length ++ ((cs.drop off).take n).drop (i + d.length)) ++ cs.drop (off + n):=by
  rw [← List.drop_drop,List.append_assoc (((cs.drop off).take n).take i),List.take_append_drop,List.take_append_drop,List.append_assoc,← List.drop_drop,List.take_append_drop,List.take_append_drop]
 have hA:(cs.take off).length = off:=by simp; omega
 have hS1:(((cs.drop off).take n).take i).length = i:=by simp; omega
 have hS2:((((cs.drop off).take n).drop i).take d.length).length = d.length:=by simp; omega
 have:=splice0 (cs.take off) (((cs.drop off).take n).take i) ((((cs.drop off).take n).drop i).take d.length) (((cs.drop off).take n).drop (i + d.length)) (cs.drop (off + n)) d hS2.symm
 rw [← e1,hA,hS1] at this
 exact this
theorem take_splice {α:Type} (cs d:List α) (p L:Nat) (h1:p + d.length ≤ L) (h2:L ≤ cs.length) :
 (cs.take p ++ d ++ cs.drop (p + d.length)).take L = (cs.take L).take p ++ d ++ (cs.take L).drop (p + d.length):=by
 have hta:(cs.take p ++ d).length = p + d.length:=by rw [List.length_append,List.length_take]; omega
 conv=>lhs; rw [show L = (cs.take p ++ d).length + (L - (p + d.length)) by rw [hta]; omega,jX0]
 rw [List.take_take,Nat.min_eq_left (by omega),List.drop_take]
theorem whole_rv {t:Ty} {z:t.den} {av:AV} {v:Value} (hd:asD h t av = some z) (hr:refs av = []) (hx:RelV Ψ β av v):reads Ψ t z v.cells.toList :=
 rv_cells (jKj (PLe.refl _) hd hx (by rw [hr]; exact Reading.nil))
theorem updD_rv {av:AV} {v:Value} (hrf:refs av = []) (hx:RelV Ψ β av v):∀ {t:Ty} {x z:t.den} {off sz:Nat} {cs:List Value},updD t x off sz h av = some z → reads Ψ t x cs →
 v.cells.toList.length = sz ∧ (∀ u ∈ v.cells.toList,u.oneCell' = true) ∧ off + sz ≤ cs.length ∧ reads Ψ t z (cs.take off ++ v.cells.toList ++ cs.drop (off + sz))
 | .pair a b,x,z,off,sz,cs,hs,hr=>by
  unfold updD at hs
  split at hs
  ·rename_i y hy
   simp only [Option.some.injEq] at hs
   subst hs
   split at hy
   ·rename_i hc
    simp only [Bool.and_eq_true,Nat.beq_eq] at hc
    exact updD_rv.whole hrf hx (hc.1) (by simp [Ty.cells,hc.2]) hy hr
   ·cases hy
  ·obtain ⟨u1,u2,rfl,h1,h2⟩:=hr
   have l1:=jQa a _ _ h1
   have l2:=jQa b _ _ h2
   split at hs
   ·rename_i hc
    simp only [Nat.ble_eq] at hc
    split at hs
    ·rename_i y hy
     simp only [Option.some.injEq] at hs
     subst hs
     obtain ⟨k1,k2,k3,k4⟩:=updD_rv hrf hx hy h1
     refine ⟨k1,k2,by simp; omega,_,u2,?_,k4,h2⟩
     rw [List.take_append_of_le_length (by omega),List.drop_append_of_le_length (by omega)]
     simp [List.append_assoc]
    ·cases hs
   ·split at hs
    ·rename_i hc
     simp only [Nat.ble_eq] at hc
     split at hs
     ·rename_i y hy
      simp only [Option.some.injEq] at hs
      subst hs
      obtain ⟨k1,k2,k3,k4⟩:=updD_rv hrf hx hy h2
      refine ⟨k1,k2,by simp; omega,u1,_,?_,h1,k4⟩
      have e2:off + sz = u1.length + (off - a.cells + sz):=by omega
      rw [e2,jXn]
      rw [List.take_append,List.take_of_length_le (by omega:u1.length ≤ off),l1]
      simp [List.append_assoc]
     ·cases hs
    ·cases hs
 | .vec n e,x,z,off,sz,cs,hs,hr=>by
  unfold updD at hs
  split at hs
  ·rename_i hc
   simp only [Bool.and_eq_true,Nat.beq_eq] at hc
   exact updD_rv.whole hrf hx (hc.1) (by simp [Ty.cells,hc.2]) hs hr
  ·split at hs
   ·rename_i hc
    simp only [Bool.and_eq_true,Nat.beq_eq,Nat.ble_eq] at hc
    obtain ⟨⟨hsm,rfl⟩,hle⟩:=hc
    obtain ⟨he1,he2⟩:=jZs hsm
    split at hs
    ·rename_i y hy
     simp only [Option.some.injEq] at hs
     subst hs
     have hw:=whole_rv hy hrf hx
     have hwl:=jQa e _ _ hw
     obtain ⟨hl,hd⟩:=hr
     have lc:=jZ2 (jQa e) _ _ hd
     rw [he1,Nat.mul_one] at lc
     have hset:=rdL_set (jQa e) y _ hw x _ hd off (by rw [hl]; omega)
     rw [he1,Nat.mul_one] at hset
     exact ⟨by rw [hwl,he1],jXp e _ _ hw,by omega,⟨by simpa using hl,hset⟩⟩
    ·cases hs
   ·cases hs
 | .rose _ _,x,z,off,sz,cs,hs,hr=>updD_rv.leaf hrf hx hs hr
 | .int _,x,z,off,sz,cs,hs,hr=>updD_rv.leaf hrf hx hs hr
 | .bool,x,z,off,sz,cs,hs,hr=>updD_rv.leaf hrf hx hs hr
 | .fnc,x,z,off,sz,cs,hs,hr=>updD_rv.leaf hrf hx hs hr
 | .any,x,z,off,sz,cs,hs,hr=>updD_rv.leaf hrf hx hs hr
 | .str,x,z,off,sz,cs,hs,hr=>updD_rv.leaf hrf hx hs hr
 | .arr _,x,z,off,sz,cs,hs,hr=>updD_rv.leaf hrf hx hs hr
 | .unit,x,z,off,sz,cs,hs,hr=>updD_rv.leaf hrf hx hs hr
where
 whole {av:AV} {v:Value} (hrf:refs av = []) (hx:RelV Ψ β av v) {t:Ty} {x z:t.den} {off sz:Nat} {cs:List Value} (h0:off = 0) (h1:t.cells = sz) (hs:asD h t av = some z) (hr:reads Ψ t x cs) :
  v.cells.toList.length = sz ∧ (∀ u ∈ v.cells.toList,u.oneCell' = true) ∧ off + sz ≤ cs.length ∧ reads Ψ t z (cs.take off ++ v.cells.toList ++ cs.drop (off + sz)):=by
  have hw:=whole_rv hs hrf hx
  have hwl:=jQa t _ _ hw
  have lc:=jQa t _ _ hr
  subst h0
  refine ⟨by omega,jXp t _ _ hw,by omega,?_⟩
  rw [List.take_zero,List.nil_append,List.drop_of_length_le (by omega),List.append_nil]
  exact hw
 leaf {av:AV} {v:Value} (hrf:refs av = []) (hx:RelV Ψ β av v) {t:Ty} {x z:t.den} {off sz:Nat} {cs:List Value} (hs:(if Nat.beq off 0 && Nat.beq t.cells sz then asD h t av else none) = some z) (hr:reads Ψ t x cs) :
  v.cells.toList.length = sz ∧ (∀ u ∈ v.cells.toList,u.oneCell' = true) ∧ off + sz ≤ cs.length ∧ reads Ψ t z (cs.take off ++ v.cells.toList ++ cs.drop (off + sz)):=by
  split at hs
  ·rename_i hc
   simp only [Bool.and_eq_true,Nat.beq_eq] at hc
   exact updD_rv.whole hrf hx hc.1 hc.2 hs hr
  ·cases hs
theorem updV_rv {e:Ty} {ys:List e.den} {us:List Value} {n:Nat} (hl:ys.length = n) (hd:rdL (reads Ψ e) ys us):∀ {t:Ty} {x z:t.den} {off:Nat} {cs:List Value},updV t x off n e ys = some z → reads Ψ t x cs →
 reads Ψ t z (cs.take off ++ us ++ cs.drop (off + n))
 | .pair a b,x,z,off,cs,hs,hr=>by
  obtain ⟨u1,u2,rfl,h1,h2⟩:=hr
  have l1:=jQa a _ _ h1
  have l2:=jQa b _ _ h2
  unfold updV at hs
  split at hs
  ·rename_i hc
   simp only [Nat.ble_eq] at hc
   split at hs
   ·rename_i y hy
    simp only [Option.some.injEq] at hs
    subst hs
    have k4:=updV_rv hl hd hy h1
    refine ⟨_,u2,?_,k4,h2⟩
    rw [List.take_append_of_le_length (by omega),List.drop_append_of_le_length (by omega)]
    simp [List.append_assoc]
   ·cases hs
  ·split at hs
   ·rename_i hc
    simp only [Nat.ble_eq] at hc
    split at hs
    ·rename_i y hy
     simp only [Option.some.injEq] at hs
     subst hs
     have k4:=updV_rv hl hd hy h2
     refine ⟨u1,_,?_,h1,k4⟩
     have e2:off + n = u1.length + (off - a.cells + n):=by omega
     rw [e2,jXn]
     rw [List.take_append,List.take_of_length_le (by omega:u1.length ≤ off),l1]
     simp [List.append_assoc]
    ·cases hs
   ·cases hs
 | .vec m e',x,z,off,cs,hs,hr=>by
  unfold updV at hs
  split at hs
  ·rename_i hc
   simp only [Bool.and_eq_true,Nat.beq_eq] at hc
   obtain ⟨⟨rfl,rfl⟩,hsm⟩:=hc
   obtain ⟨he,rfl⟩:=cast?_spec hs
   simp only [Ty.arr.injEq] at he
   subst he
   obtain ⟨hl',hd'⟩:=hr
   have lc:=jZ2 (jQa e) _ _ hd'
   rw [(jZs hsm).1,Nat.mul_one,hl'] at lc
   refine ⟨hl,?_⟩
   rw [List.take_zero,List.nil_append,List.drop_of_length_le (by omega),List.append_nil]
   exact hd
  ·cases hs
 | .rose _ _,x,z,off,cs,hs,hr=>by cases hs
 | .int _,x,z,off,cs,hs,hr=>by cases hs
 | .bool,x,z,off,cs,hs,hr=>by cases hs
 | .fnc,x,z,off,cs,hs,hr=>by cases hs
 | .any,x,z,off,cs,hs,hr=>by cases hs
 | .str,x,z,off,cs,hs,hr=>by cases hs
 | .arr _,x,z,off,cs,hs,hr=>by cases hs
 | .unit,x,z,off,cs,hs,hr=>by cases hs
theorem noRefs_one {av:AV} (hnr:jZx [av] = true):refs av = []:=by
 have:=jZ5 hnr
 simpa [refsA] using this
theorem store_same {t:TypeId} {av xv:AV} {ad v:Value} {r:Out} (hi:InvH C.P B w0 Ψ β h w) (ha:RelV Ψ β av ad) (hx:RelV Ψ β xv v)
 (hr:astore C h t av xv = some r):∃ w',(Instr.storeAt t ad v).run C.P w = .ok () w' ∧ r.kill = none ∧ r.v = .und ∧ InvH C.P B w0 Ψ β r.heap w':=by
 unfold astore at hr
 split at hr
 ·
  rename_i k off
  split at hr
  ·rename_i cs hg
   split at hr
   ·rename_i l sz hc hsz
    split at hr
    ·rename_i hb
     simp only [Bool.and_eq_true,Nat.beq_eq,Nat.ble_eq,jQ5] at hb
     simp at hr
     subst hr
     obtain ⟨g,c,e,hβ,rfl,hh,hB,hrel,h1⟩:=own_blk hi hg ha
     obtain ⟨hl,hl1⟩:=cellsOf'_rel hi.one hc hx
     have e1:=jXl _ _ hrel
     have e2:=jXl _ _ hl
     have hrun:=jJ3 (v:=v) hsz (by rw [← Array.length_toList]; omega) hh (off:=off) (by rw [← Array.length_toList]; omega) hl1
     refine ⟨_,hrun,rfl,rfl,?_⟩
     simp only [jQp]
     refine hi.rewrite (jQc hg (by simp)) rfl (g:=g) hβ hh (fun g' h'=>h') ⟨g,_,e,hβ,setRow_heap w g c _ e _ hh,hB,?_,?_⟩
     ·exact RelL_setCells hrel hl (by omega)
     ·intro u hu
      simp only [List.mem_append] at hu
      rcases hu with (hu | hu) | hu
      ·exact h1 u (List.mem_of_mem_take hu)
      ·exact hl1 u hu
      ·exact h1 u (List.mem_of_mem_drop hu)
    ·cases hr
   ·cases hr
  ·
   rename_i u y hg
   split at hr
   ·rename_i sz hsz
    split at hr
    ·rename_i hnr
     split at hr
     ·rename_i z hz
      simp at hr
      subst hr
      obtain ⟨g,c,e,hβ,rfl,hh,hB,hrd⟩:=dat_blk hi hg ha
      obtain ⟨k1,k2,k3,k4⟩:=updD_rv (noRefs_one hnr) hx hz hrd
      have hrun:=jJ3 (v:=v) hsz (by rw [← Array.length_toList]; exact k1) hh (off:=off) (by rw [← Array.length_toList]; exact k3) k2
      refine ⟨_,hrun,rfl,rfl,?_⟩
      simp only [jQp]
      refine hi.rewrite (jQc hg (by simp)) rfl (g:=g) hβ hh (fun g' h'=>h') ⟨g,_,e,hβ,setRow_heap w g c _ e _ hh,hB,?_⟩
      rw [k1]
      exact k4
     ·cases hr
    ·cases hr
   ·cases hr
  ·cases hr
 ·
  rename_i k off m i
  split at hr
  ·rename_i u y hg
   split at hr
   ·rename_i sz e xs hsz hv
    split at hr
    ·rename_i hc
     simp only [Bool.and_eq_true,Nat.beq_eq] at hc
     obtain ⟨rfl,hnr⟩:=hc
     split at hr
     ·rename_i z hz
      split at hr
      ·rename_i y' hy'
       simp at hr
       subst hr
       have hβ:∃ g,β[k]? = some (.pointer (some ⟨g,0,none⟩)) ∧ ad = .pointer (some ⟨g,off + i.toNat,none⟩):=by
        obtain ⟨g,h1,_,_,h2⟩:=ha; exact ⟨g,h1,h2⟩
       obtain ⟨g0,hβ,hg0⟩:=hβ
       obtain ⟨g,c,e',h0,h1,hag,hh,hB,hrd⟩:=oix_blk hi hg ha
       rw [hg0] at hag
       simp at hag
       subst hag
       subst hg0
       obtain ⟨hsm,hlen,hle,hd⟩:=vecAt_rv hv hrd
       obtain ⟨he1,he2⟩:=jZs hsm
       have hw:=whole_rv hz (noRefs_one hnr) hx
       have hwl:=jQa e _ _ hw
       rw [he1] at hwl
       have hlt:i.toNat < xs.length:=by omega
       have hset:=rdL_set (jQa e) z _ hw xs _ hd i.toNat hlt
       rw [he1,Nat.mul_one] at hset
       have k4:=updV_rv (by simpa using hlen) hset hy' hrd
       have hrun:=jJ3 (v:=v) hsz (by rw [← Array.length_toList]; exact hwl) hh (off:=off + i.toNat) (by rw [← Array.length_toList]; omega) (jXp e _ _ hw)
       refine ⟨_,hrun,rfl,rfl,?_⟩
       simp only [jQp]
       refine hi.rewrite (jQc hg (by simp)) rfl (g:=g0) hβ hh (fun g' h'=>h') ⟨g0,_,e',hβ,setRow_heap w g0 c _ e' _ hh,hB,?_⟩
       rw [splice _ _ off m i.toNat hle (by omega),hwl]
       exact k4
      ·cases hr
     ·cases hr
    ·cases hr
   ·cases hr
  ·cases hr
 ·
  rename_i k sz i off
  split at hr
  ·rename_i tid e xs hg
   split at hr
   ·rename_i n hsz
    split at hr
    ·rename_i hc
     simp only [Bool.and_eq_true,Nat.beq_eq] at hc
     obtain ⟨rfl,hnr⟩:=hc
     split at hr
     ·rename_i y hy
      simp at hr
      subst hr
      obtain ⟨g,c,cur,hβ,rfl,h0,hlt,hh,hlc,hcm,hcz,hB,hcs,hd⟩:=slpf_cells hi hg ha rfl
      have hD:xs.getD i.toNat (dflt e) = xs[i.toNat]:=by simp [List.getD_eq_getElem?_getD,List.getElem?_eq_getElem hlt]
      rw [hD] at hy
      have hcl:cur.toList.length = c * e.cells:=by rw [Array.length_toList]; exact hcs
      have hmul:i.toNat * e.cells + e.cells ≤ xs.length * e.cells:=by
       rw [← Nat.succ_mul]; exact Nat.mul_le_mul_right _ (by omega)
      have hmul2:xs.length * e.cells ≤ c * e.cells:=Nat.mul_le_mul_right _ hlc
      have hdr:=jJw (jQa e) _ _ i.toNat hd
      rw [List.drop_eq_getElem_cons hlt] at hdr
      obtain ⟨us,rest,hsp,hus,_⟩:=hdr
      have husl:=jQa e _ _ hus
      have hS:((cur.toList.take (xs.length * e.cells)).drop (i.toNat * e.cells)).take e.cells = us:=by
       rw [hsp,← husl,List.take_left]
      obtain ⟨k1,k2,k3,k4⟩:=updD_rv (noRefs_one hnr) hx hy hus
      have hrun:=jJ3 (v:=v) hsz (by rw [← Array.length_toList]; exact k1) hh (off:=i.toNat * e.cells + off) (by rw [← Array.length_toList]; omega) k2
      refine ⟨_,hrun,rfl,rfl,?_⟩
      simp only [jQp]
      refine hi.rewrite (jQc hg (by simp)) rfl (g:=g) ⟨_,_,hcz,hβ⟩ hh (fun g' h'=>h') (.inr ⟨g,c,_,by simpa using hβ,hcz,hB,setRow_heap w g cur _ tid _ hh,by simpa using hlc,hcm,?_,?_⟩)
      ·simp only [List.size_toArray,List.length_append,List.length_take,List.length_drop,hcl,k1]
       omega
      ·simp only [List.length_set]
       have hset:=rdL_set (jQa e) y _ k4 xs _ hd i.toNat hlt
       rw [take_splice _ _ _ _ (by omega) (by omega),splice _ _ (i.toNat * e.cells) e.cells off (by rw [List.length_take]; omega) (by omega),hS,k1]
       exact hset
     ·cases hr
    ·cases hr
   ·cases hr
  ·cases hr
 ·
  rename_i k sz i
  split at hr
  ·rename_i tid e xs hg
   split at hr
   ·rename_i y n hy hsz
    split at hr
    ·rename_i hb
     simp only [Bool.and_eq_true,Nat.beq_eq] at hb
     obtain ⟨⟨hn,hsz'⟩,hnr⟩:=hb
     simp at hr
     subst hr
     obtain ⟨g,c,cur,hβ,rfl,h0,hlt,hh,hlc,hcm,hcz,hB,hcs,hd⟩:=slp_cells hi hg ha (by omega)
     have hrefs:refs xv = []:=by
      have:=jZ5 hnr
      simpa [refsA] using this
     have hrv:=rv_cells (jKj (PLe.refl _) hy hx (by rw [hrefs]; exact Reading.nil))
     have hlv:=jQa e _ _ hrv
     have hmul:i.toNat * e.cells + e.cells ≤ xs.length * e.cells:=by
      rw [← Nat.succ_mul]; exact Nat.mul_le_mul_right _ (by omega)
     have hmul2:xs.length * e.cells ≤ c * e.cells:=Nat.mul_le_mul_right _ hlc
     have hsze:sz = e.cells:=by omega
     have hrun:=jJ3 (v:=v) hsz (by rw [← Array.length_toList]; omega) hh (off:=i.toNat * sz) (by rw [hsze]; omega) (jXp e _ _ hrv)
     refine ⟨_,hrun,rfl,rfl,?_⟩
     simp only [jQp]
     refine hi.rewrite (jQc hg (by simp)) rfl (g:=g) ⟨_,_,hcz,hβ⟩ hh (fun g' h'=>h') (.inr ⟨g,c,_,by simpa using hβ,hcz,hB,setRow_heap w g cur _ tid _ hh,by simpa using hlc,hcm,?_,?_⟩)
     ·have hvs:v.cells.size = e.cells:=by rw [← Array.length_toList]; exact hlv
      simp only [List.size_toArray,List.length_append,List.length_take,List.length_drop,Array.length_toList,hsze]
      omega
     ·simp only [List.length_set,hsze]
      have:=rdL_set (jQa e) y _ hrv xs _ hd i.toNat hlt
      have e1:(cur.toList.take (i.toNat * e.cells) ++ v.cells.toList ++ cur.toList.drop (i.toNat * e.cells + v.cells.toList.length)).take (xs.length * e.cells) =
       (cur.toList.take (xs.length * e.cells)).take (i.toNat * e.cells) ++ v.cells.toList ++ (cur.toList.take (xs.length * e.cells)).drop (i.toNat * e.cells + e.cells):=by
       have hcl:cur.toList.length = c * e.cells:=by rw [Array.length_toList]; exact hcs
       rw [List.take_take,Nat.min_eq_left (by omega),hlv]
       have hta:(cur.toList.take (i.toNat * e.cells)).length = i.toNat * e.cells:=by rw [List.length_take]; omega
       rw [List.append_assoc]
       have hsplit:xs.length * e.cells = (cur.toList.take (i.toNat * e.cells)).length + (v.cells.toList.length + (xs.length * e.cells - (i.toNat * e.cells + e.cells))):=by
        rw [hta,hlv]; omega
       conv=>lhs; rw [hsplit,jX0,jX0]
       rw [List.append_assoc,List.drop_take]
      rw [e1]
      exact this
    ·cases hr
   ·cases hr
  ·cases hr
 ·cases hr
theorem store_ok {t:TypeId} {av xv:AV} {ad v:Value} {r:Out} {fs:List (List AV)} {acts:List Act} (hi:InvH C.P B w0 Ψ β h w) (hf:RelF Ψ β fs acts) (ha:RelV Ψ β av ad) (hx:RelV Ψ β xv v)
 (hr:astore C h t av xv = some r):EOp C B w0 Ψ w (do Instr.storeAt t ad v; pure .skip) r fs acts:=by
 obtain ⟨w',hrun,hk,hv,hi'⟩:=store_same hi ha hx hr
 refine ⟨.skip,undef,β,w',then_skip hrun,.inr ⟨rfl,rfl⟩,?_,?_,?_⟩
 ·rw [hk]; exact hi'
 ·rw [hk]; exact hf
 ·rw [hv]; rfl
theorem src_ok {av:AV} {v:Value} {e:Ty} {ys:List e.den} (hi:InvH C.P B w0 Ψ β h w) (hx:RelV Ψ β av v) (hs:asSrc h av = some ⟨e,ys⟩) (hne:0 < ys.length) (he1:e.cells = 1) :
 ∃ g off cap cells,v = .slice (some ⟨g,off,none⟩) ys.length cap ∧ rdL (reads Ψ e) ys cells ∧ ∀ j u,cells[j]? = some u → w.cell? ⟨g,off + j,none⟩ = some u:=by
 unfold asSrc at hs
 split at hs
 ·rename_i k sz lo hi'
  split at hs
  ·rename_i tid e' xs hg
   split at hs
   case isFalse=>cases hs
   rename_i hsz
   simp only [Option.some.injEq,Sigma.mk.injEq] at hs
   obtain ⟨rfl,hs⟩:=hs
   have hs:=eq_of_heq hs
   subst hs
   obtain ⟨g,n,c,hβ,h0,h1,h2,rfl⟩:=hx
   have hsz:sz = 1:=by simpa [Nat.beq_eq] using hsz
   subst hsz
   rcases hi.blk k _ (jQc hg (by simp)) with ⟨ad,h3,hxs⟩ | ⟨g',cap,cur,hβ',hz,hB,hcell,hlc,hcm,hcs,hd⟩
   ·subst hxs
    simp at hne
   ·rw [hβ] at hβ'
    simp at hβ'
    obtain ⟨rfl,rfl,rfl⟩:=hβ'
    have hln:((xs.drop lo.toNat).take (hi'.toNat - lo.toNat)).length = hi'.toNat - lo.toNat:=by simp; omega
    refine ⟨g,lo.toNat * 1,_,_,by rw [hln],jJv (jQa e') _ _ (hi'.toNat - lo.toNat) (jJw (jQa e') _ _ lo.toNat hd),fun j u hj=>?_⟩
    have hj2:=jQs hj
    rw [he1,List.getElem?_take] at hj2
    split at hj2
    ·rw [jXe hcell]
     simpa using hj2
    ·cases hj2
  ·cases hs
 ·obtain ⟨ad,cap,rfl,_,_,h3⟩:=jKv hi hx hs
  rcases h3 with rfl | ⟨cells,g,off,hd,rfl,hc⟩
  ·simp at hne
  ·exact ⟨g,off,cap,cells,rfl,hd,hc⟩
theorem copy1_ok {t t' ty:TypeId} {xv yv:AV} {x y:Value} {r:Out} {fs:List (List AV)} {acts:List Act} (hi:InvH C.P B w0 Ψ β h w) (hf:RelF Ψ β fs acts) (hx:RelV Ψ β xv x) (hy:RelV Ψ β yv y)
 (hr:acopy1 C h t xv yv = some r) (hp:∀ p,r.need = some p → p):EOp C B w0 Ψ w (do pure (.value (← Builtin.copy_ #[t,t'] ty #[x,y]))) r fs acts:=by
 unfold acopy1 at hr
 split at hr
 ·rename_i tid k lo hi' u ys0 he hd hs
  split at hr
  ·rename_i sz tid' e xs hsz hg
   split at hr
   ·rename_i ys hcast
    split at hr
    ·rename_i hc
     simp only [Bool.and_eq_true,Nat.beq_eq] at hc
     obtain ⟨hs1,hc1⟩:=hc
     simp only [Option.some.injEq] at hr
     subst hr
     obtain ⟨p1,p2,p3,p5,p4⟩:=hp _ rfl
     have hue:Ty.arr u = Ty.arr e:=by
      unfold cast? at hcast
      split at hcast
      ·assumption
      ·cases hcast
     cases hue
     have hcast':ys0 = ys:=by
      unfold cast? at hcast
      split at hcast
      ·simpa using hcast
      ·cases hcast
     subst hcast'
     have hu:=jQ6 he
     rcases hi.blk k _ (jQc hg (by simp)) with ⟨ad,_,hxs⟩ | ⟨g,cap,cur,hβ,hz,hB,hcell,hlc,hcm,hcs,hrd⟩
     ·subst hxs
      simp at p1
     have hdst:∃ c,x = .slice (some ⟨g,lo.toNat,none⟩) (hi'.toNat - lo.toNat) c:=by
      unfold asDst at hd
      split at hd
      ·rename_i k'
       split at hd
       ·rename_i t1 e1 xs1 hg1
        simp only [Option.some.injEq,Prod.mk.injEq] at hd
        obtain ⟨rfl,rfl,rfl⟩:=hd
        rw [hg] at hg1
        cases hg1
        have hv:=hx.1
        rw [hβ] at hv
        simp only [Option.some.injEq] at hv
        exact ⟨cap,by rw [← hv]; simp⟩
       ·cases hd
      ·rename_i k' sz' a b
       split at hd
       ·rename_i hsz'
        simp only [Option.some.injEq,Prod.mk.injEq] at hd
        obtain ⟨rfl,rfl,rfl⟩:=hd
        obtain ⟨g',n,c,hβ',h0,h1,h2,rfl⟩:=hx
        rw [hβ] at hβ'
        simp only [Option.some.injEq,Value.slice.injEq,Addr.mk.injEq,and_true] at hβ'
        obtain ⟨rfl,rfl,rfl⟩:=hβ'
        have hsz':sz' = 1:=by simpa [Nat.beq_eq] using hsz'
        subst hsz'
        exact ⟨_,by rw [Nat.mul_one]⟩
       ·cases hd
      ·cases hd
     obtain ⟨c,rfl⟩:=hdst
     obtain ⟨g2,off2,cap2,cells,rfl,hsr,hcs2⟩:=src_ok hi hy hs p2 hc1
     have hcl:cells.length = ys0.length:=by
      have:=jZ2 (jQa u) _ _ hsr
      rw [this,hc1,Nat.mul_one]
     generalize hN:min (hi'.toNat - lo.toNat) ys0.length = N
     have hNl:N ≤ ys0.length:=by omega
     have hcur:cur.toList.length = cap:=by rw [Array.length_toList,hcs,hc1,Nat.mul_one]
     have hinfo:(C.P.info? tid).map (·.size) = some 1:=by
      obtain ⟨i,h1,h2⟩:=size_of hsz
      simp [h1,h2,hs1]
     have hfit:lo.toNat + N ≤ xs.length:=by omega
     have hrun:=run_copy_row C.P w t t' ty tid g lo.toNat (hi'.toNat - lo.toNat) c ⟨g2,off2,none⟩ ys0.length cap2 cur tid' (cells.take N) hu hinfo hcell
      (by rw [List.length_take,hcl,Nat.min_eq_left hNl,← hN]; exact Nat.min_comm _ _) (fun j v hj=>by
        rw [Addr.add_lit]
        rw [List.getElem?_take] at hj
        split at hj
        ·exact hcs2 j v hj
        ·cases hj) (by rw [List.length_take,hcl,← Array.length_toList,hcur]; omega) (fun v hv=>rdL_one (jXp u) _ _ hsr v (List.mem_of_mem_take hv))
     have htl:(cells.take N).length = N:=by rw [List.length_take,hcl]; omega
     rw [htl] at hrun
     refine ⟨.value (goInt N),goInt N,β,_,jXf hrun,.inl rfl,?_,hf,jQj.2 ⟨rfl,?_⟩⟩
     ·simp only [jQp]
      have hlen':(xs.take lo.toNat ++ ys0.take N ++ xs.drop (lo.toNat + N)).length = xs.length:=by
       simp only [List.length_append,List.length_take,List.length_drop]
       omega
      refine hi.rewrite (jQc hg (by simp)) rfl (g:=g) ⟨_,_,hz,hβ⟩ hcell (fun g' h'=>h') (.inr ⟨g,cap,_,by rw [hlen']; exact hβ,hz,hB,setRow_heap w g cur _ tid' _ hcell,by rw [hlen']; exact hlc,hcm,?_,?_⟩)
      ·simp only [List.size_toArray,List.length_append,List.length_take,List.length_drop,hcur,hc1]
       omega
      ·rw [hlen',hc1,Nat.mul_one]
       rw [hc1,Nat.mul_one] at hrd
       have e1:(cur.toList.take lo.toNat ++ cells.take N ++ cur.toList.drop (lo.toNat + N)).take xs.length = (cur.toList.take xs.length).take (lo.toNat * u.cells) ++ cells.take (N * u.cells) ++ (cur.toList.take xs.length).drop ((lo.toNat + N) * u.cells):=by
        rw [hc1,Nat.mul_one,Nat.mul_one,Nat.mul_one,List.take_take,Nat.min_eq_left (by omega),List.drop_take]
        have hta:(cur.toList.take lo.toNat ++ cells.take N).length = lo.toNat + N:=by rw [List.length_append,htl,List.length_take]; omega
        conv=>lhs; rw [show xs.length = (cur.toList.take lo.toNat ++ cells.take N).length + (xs.length - (lo.toNat + N)) by rw [hta]; omega,jX0]
       rw [e1]
       exact jZw _ _ _ _ (jZw _ _ _ _ (jJv (jQa u) _ _ _ hrd) (jJv (jQa u) _ _ _ hsr)) (jJw (jQa u) _ _ _ hrd)
     ·rw [jXr]
      unfold isI64
      simp only [maxLen] at hcm
      omega
    ·cases hr
   ·cases hr
  ·cases hr
 ·cases hr
theorem run_copy_str {P:Program} (w:World) (dT sT ty elem:TypeId) (g o dLen dCap:Nat) (s:ByteArray) (cur:Array Value) (t:TypeId)
 (hu:P.underlying dT = some (.slice elem)) (hs:(P.info? elem).map (·.size) = some 1) (hg:w.heap[g]? = some (.cells cur t (0,0))) (hfit:o + Nat.min s.size dLen ≤ cur.size) :
 (Builtin.copy_ #[dT,sT] ty #[.slice (some ⟨g,o,none⟩) dLen dCap,.string s]).run P w =
   .ok (goInt (Nat.min s.size dLen)) (w.setRow g (cur.toList.take o ++ (byteCells s).take (Nat.min s.size dLen) ++ cur.toList.drop (o + Nat.min s.size dLen)).toArray):=by
 have hlen:((byteCells s).take (Nat.min s.size dLen)).length = Nat.min s.size dLen:=by
  rw [List.length_take]
  have:(byteCells s).length = s.size:=by simp [byteCells]
  rw [this]
  exact Nat.min_eq_left (Nat.min_le_left _ _)
 have h1:∀ v ∈ (byteCells s).take (Nat.min s.size dLen),v.oneCell' = true:=by
  intro v hv
  have hv:=List.mem_of_mem_take hv
  simp only [byteCells,List.mem_map] at hv
  obtain ⟨b,_,rfl⟩:=hv
  rfl
 have hst:=run_storeCells_at P g o t ((byteCells s).take (Nat.min s.size dLen)) 0 cur w hg (by rw [hlen]; simpa using hfit) h1
 have htk:List.take (Nat.min s.size dLen) (List.map (fun b:UInt8=>Value.int IntKind.u8 (b.toNat:Int)) s.data.toList) = (byteCells s).take (Nat.min s.size dLen):=rfl
 rw [hlen] at hst
 simp only [Nat.add_zero] at hst
 cases hq:P.info? elem with
 | none=>simp [hq] at hs
 | some i =>
  simp [Builtin.copy_,run_underlying hu,Builtin.lenOf,Builtin.firstCells,sizeOf,typeInfo,hq]
  rw [htk,hst]
  simp [Result.andThen]
theorem copyS_ok {t t' ty:TypeId} {xv yv:AV} {x y:Value} {r:Out} {fs:List (List AV)} {acts:List Act} (hi:InvH C.P B w0 Ψ β h w) (hf:RelF Ψ β fs acts) (hx:RelV Ψ β xv x) (hy:RelV Ψ β yv y)
 (hr:acopyS C h t xv yv = some r):EOp C B w0 Ψ w (do pure (.value (← Builtin.copy_ #[t,t'] ty #[x,y]))) r fs acts:=by
 unfold acopyS at hr
 split at hr
 ·rename_i k off n lo hi' l
  split at hr
  ·rename_i tid he
   split at hr
   ·rename_i sz hsz
    split at hr
    ·rename_i hs1
     have hs1:sz = 1:=by simpa [Nat.beq_eq] using hs1
     subst hs1
     unfold acopyO at hr
     split at hr
     ·rename_i u z hg
      split at hr
      ·rename_i e xs hv
       split at hr
       ·rename_i ys hcast
        split at hr
        ·rename_i z' hz'
         simp only [Option.some.injEq] at hr
         subst hr
         obtain ⟨heq,hys⟩:=cast?_spec hcast
         simp only [Ty.arr.injEq] at heq
         subst heq
         have hys:ys = l:=hys
         subst hys
         obtain ⟨rfl,hl,hl'⟩:=jZt.1 hy
         obtain ⟨g,hβ,h0,h1,h2,h3,rfl⟩:=hx
         obtain ⟨g',c,e',hβ',rfl',hh,hB,hrd⟩:=dat_blk (off:=0) (v:=.pointer (some ⟨g,0,none⟩)) hi hg ⟨g,hβ,rfl⟩
         have hgg:g' = g:=by simpa using rfl'.symm
         subst hgg
         obtain ⟨hsm,hlen,hle,hd⟩:=vecAt_rv hv hrd
         have hmin:Nat.min (strOf ys).size (hi'.toNat - lo.toNat) = min (hi'.toNat - lo.toNat) ys.length:=by rw [jXg]; exact Nat.min_comm _ _
         generalize hN:min (hi'.toNat - lo.toNat) ys.length = N at *
         have hNl:N ≤ ys.length:=by omega
         have hinfo:(C.P.info? tid).map (·.size) = some 1:=by
          obtain ⟨i,k1,k2⟩:=size_of hsz
          simp [k1,k2]
         have hrun:=run_copy_str w t t' ty tid g' (off + lo.toNat) (hi'.toNat - lo.toNat) (n - lo.toNat) (strOf ys) c e' (jQ6 he) hinfo hh (by rw [hmin,← Array.length_toList]; omega)
         rw [hmin] at hrun
         have hbc:byteCells (strOf ys) = ys.map (Value.int .u8):=byteCells_strOf hl
         rw [hbc] at hrun
         have hcl:((ys.map (Value.int .u8)).take N).length = N:=by simp; omega
         have hcr:rdL (reads Ψ (.int .u8)) (ys.take N) ((ys.map (Value.int .u8)).take N):=by
          rw [← List.map_take]
          exact rdL_ints _ fun c hc=>has_u8 (hl c (List.mem_of_mem_take hc))
         have hus:rdL (reads Ψ (.int .u8)) (xs.take lo.toNat ++ ys.take N ++ xs.drop (lo.toNat + N)) (((c.toList.drop off).take n).take lo.toNat ++ (ys.map (Value.int .u8)).take N ++ ((c.toList.drop off).take n).drop (lo.toNat + N)):=by
          have k1:=jJv (jQa (.int .u8)) _ _ lo.toNat hd
          have k2:=jJw (jQa (.int .u8)) _ _ (lo.toNat + N) hd
          simp only [Ty.cells,Nat.mul_one] at k1 k2
          exact jZw _ _ _ _ (jZw _ _ _ _ k1 hcr) k2
         have k4:=updV_rv (by simp only [List.length_append,List.length_take,List.length_drop]; omega) hus hz' hrd
         refine ⟨.value (goInt N),goInt N,β,_,jXf hrun,.inl rfl,?_,hf,jQj.2 ⟨rfl,?_⟩⟩
         ·simp only [jQp]
          refine hi.rewrite (jQc hg (by simp)) rfl (g:=g') hβ hh (fun g' h'=>h') ⟨g',_,e',hβ,setRow_heap w g' c _ e' _ hh,hB,?_⟩
          have:=splice c.toList ((ys.map (Value.int .u8)).take N) off n lo.toNat hle (by omega)
          rw [hcl] at this
          rw [this]
          exact k4
         ·rw [jXr]
          unfold isI64
          simp only [maxLen] at hl'
          omega
        ·cases hr
       ·cases hr
      ·cases hr
     ·cases hr
    ·cases hr
   ·cases hr
  ·cases hr
 ·cases hr
theorem copy_ok {t t' ty:TypeId} {xv yv:AV} {x y:Value} {r:Out} {fs:List (List AV)} {acts:List Act} (hi:InvH C.P B w0 Ψ β h w) (hf:RelF Ψ β fs acts) (hx:RelV Ψ β xv x) (hy:RelV Ψ β yv y)
 (hr:acopy C h t xv yv = some r) (hp:∀ p,r.need = some p → p):EOp C B w0 Ψ w (do pure (.value (← Builtin.copy_ #[t,t'] ty #[x,y]))) r fs acts:=by
 unfold acopy at hr
 split at hr
 ·rename_i r' hs
  simp only [Option.some.injEq] at hr
  subst hr
  exact copyS_ok hi hf hx hy hs
 ·exact copy1_ok hi hf hx hy hr hp
theorem intMap_spec {t et:TypeId} (hm:intMap C t = some et):∃ kt,C.P.underlying t = some (.map kt et) ∧ C.P.underlying kt = some (.int .i64):=by
 unfold intMap at hm
 split at hm
 ·rename_i kt et' hu
  split at hm
  ·rename_i hk
   simp at hm
   subst hm
   exact ⟨kt,hu,hk⟩
  ·cases hm
 ·cases hm
theorem keyMap_spec {t et:TypeId} {b:Bool} (hm:keyMap C t = some (b,et)):∃ kt,C.P.underlying t = some (.map kt et) ∧ C.P.underlying kt = some (bif b then .int .i64 else .string):=by
 unfold keyMap at hm
 split at hm
 ·rename_i kt et' hu
  split at hm
  ·rename_i hk
   simp at hm
   obtain ⟨rfl,rfl⟩:=hm
   exact ⟨kt,hu,hk⟩
  ·rename_i hk
   simp at hm
   obtain ⟨rfl,rfl⟩:=hm
   exact ⟨kt,hu,hk⟩
  ·cases hm
 ·cases hm
theorem keyOf_rel {b:Bool} {av:AV} {x:KK} {v:Value} (hk:keyOf b av = some x) (hv:RelV Ψ β av v):v = x.v ∧ x.ok ∧ x.td = bif b then .int .i64 else .string:=by
 unfold keyOf at hk
 split at hk
 ·simp only [Option.some.injEq] at hk
  subst hk
  exact ⟨(jQj.1 hv).1,trivial,rfl⟩
 ·simp only [Option.some.injEq] at hk
  subst hk
  have:=jZt.1 hv
  exact ⟨this.1,this.2.1,rfl⟩
 ·cases hk
theorem same_i {a b:Int}:Instr.sameNow (.int .i64) (.int .i64 a) (.int .i64 b) = some (decide (a = b)):=by
 by_cases h:a = b
 ·subst h; simp [Instr.sameNow]
 ·simp [Instr.sameNow,h]
theorem same_s {a b:List Int} (ha:∀ c ∈ a,0 ≤ c ∧ c ≤ 255) (hb:∀ c ∈ b,0 ≤ c ∧ c ≤ 255):Instr.sameNow .string (.string (strOf a)) (.string (strOf b)) = some (decide (a = b)):=by
 show some (strOf a == strOf b) = some (decide (a = b))
 congr 1
 rw [Bool.eq_iff_iff,MapKept.bytes_beq,decide_eq_true_iff]
 exact ⟨strOf_inj ha hb,fun e=>by rw [e]⟩
theorem findNow_k {x:KK} (hx:x.ok):∀ (es:List (KK × AV)) (l:List MapEntry) (i:Nat),l.map (·.key) = es.map (fun p=>p.1.v) → RelL Ψ β (es.map Prod.snd) (l.map (·.val)) → (∀ p ∈ es,okE p.2 = true ∧ p.1.ok) →
 (notInK x es = true → Instr.findNow x.td x.v l i = some none) ∧
   ∀ (fo:Bool) (k:AV → Bool → Prop) (z:AV),forkK fo k z x es → ∃ r,Instr.findNow x.td x.v l i = some r ∧ match r with | none=>k z false | some (_,u)=>∃ v,RelV Ψ β v u ∧ k v true
 | [],l,i,h,_,_=>by
  simp only [List.map_nil,List.map_eq_nil_iff] at h
  subst h
  exact ⟨fun _=>rfl,fun fo k z hk=>⟨none,rfl,hk⟩⟩
 | (n,f) :: es,[],i,h,_,_=>by simp at h
 | (n,f) :: es,e :: l,i,h,hr,ho=>by
  simp only [List.map_cons,List.cons.injEq] at h
  obtain ⟨hk,hl⟩:=h
  obtain ⟨u,us,hu,hru,hrs⟩:=hr
  simp only [List.map_cons,List.cons.injEq] at hu
  obtain ⟨rfl,rfl⟩:=hu
  obtain ⟨ih1,ih2⟩:=findNow_k hx es l (i + 1) hl hrs fun p hp=>ho p (List.mem_cons_of_mem _ hp)
  have hn:=(ho (n,f) (List.mem_cons_self ..)).2
  have both:∀ c:Bool,Instr.sameNow x.td x.v n.v = some c → (Instr.findNow x.td x.v (e :: l) i = if c then some (some (i,e.val)) else Instr.findNow x.td x.v l (i + 1)):=fun c hc=>by
   simp only [Instr.findNow,hk,hc]
   cases c <;> rfl
  have fork:∀ (c:Bool) (p:Prop) (fo:Bool) (k:AV → Bool → Prop) (z:AV),(c = true ↔ p) → Instr.sameNow x.td x.v n.v = some c → forkP fo c p (k f true) (forkK fo k z x es) →
   ∃ r,Instr.findNow x.td x.v (e :: l) i = some r ∧ match r with | none=>k z false | some (_,u)=>∃ v,RelV Ψ β v u ∧ k v true:=fun c p fo k z hcp hc hf=>by
   rw [both c hc]
   cases c with
   | true =>
    refine ⟨_,rfl,f,hru,?_⟩
    cases fo with
    | true=>exact hf
    | false=>exact hf.1 (hcp.1 rfl)
   | false =>
    refine ih2 fo k z ?_
    cases fo with
    | true=>exact hf
    | false=>exact hf.2 fun g=>by cases hcp.2 g
  refine ⟨fun hno=>?_,fun fo k z hf=>?_⟩
  ·simp only [notInK,Bool.and_eq_true,Bool.not_eq_true'] at hno
   cases x <;> cases n <;> simp only [kkLike] at hno
   ·rw [both _ same_i,if_neg (by rw [show decide _ = false from hno.1.2]; decide)]
    exact ih1 hno.2
   ·exact absurd hno.1.1 (by decide)
   ·exact absurd hno.1.1 (by decide)
   ·rw [both _ (same_s hx hn),if_neg (by rw [show decide _ = false from hno.1.2]; decide)]
    exact ih1 hno.2
  ·unfold forkK at hf
   cases x <;> cases n
   ·exact fork _ _ fo k z (by simp) same_i hf
   ·exact hf.elim
   ·exact hf.elim
   ·exact fork _ _ fo k z (by simp) (same_s hx hn) hf
theorem kmap_at {k:Nat} {es:List (KK × AV)} {v:Value} (hi:InvH C.P B w0 Ψ β h w) (hg:hget h k = .kmap es) (hv:RelV Ψ β (.sl k) v) :
 ∃ g ms cl,v = .map (some g) ∧ β[k]? = some (.map (some g)) ∧ w.heap[g]? = some (.map ms cl) ∧ ¬ B g ∧ ms.toList.map (·.key) = es.map (fun p=>p.1.v) ∧ RelL Ψ β (es.map Prod.snd) (ms.toList.map (·.val)) ∧ ∀ p ∈ es,okE p.2 = true ∧ p.1.ok:=by
 obtain ⟨g,ms,cl,h1,h2,h3,h4⟩:=hi.blk k _ (jQc hg (by simp))
 have hv:β[k]? = some v:=hv.1
 rw [h1] at hv
 simp at hv
 exact ⟨g,ms,cl,hv.symm,h1,h2,h3,h4⟩
theorem makeMap_ok {t:TypeId} {fs:List (List AV)} {acts:List Act} (hi:InvH C.P B w0 Ψ β h w) (hf:RelF Ψ β fs acts) :
 EOp C B w0 Ψ w (do pure (.value (← Instr.makeMap t none))) ⟨none,.sl (hlen h),h ++ [.kmap []],none⟩ fs acts:=by
 have hn:(β ++ [Value.map (some w.heap.size)])[h.length]? = some (.map (some w.heap.size)):=by rw [← hi.len]; simp
 refine ⟨.value (.map (some w.heap.size)),_,β ++ [.map (some w.heap.size)],w.alloc (.map #[] 0),jXf rfl,.inl rfl,?_,jQq (PLe.refl _) (jQh _) _ _ hf,?_⟩
 ·refine hi.push ((Below.refl _ _).alloc (Nat.le_refl _) _) rfl ⟨w.heap.size,#[],0,hn,heap_alloc_new w _,jZ3 hi.size,rfl,rfl,fun p hp=>by simp at hp⟩ (fun g hc=>?_)
  simp only [jQb] at hc
  rw [hn] at hc
  simp at hc
  omega
 ·refine ⟨?_,by simp [hole]⟩
  rw [jQ1]; exact hn
theorem RelL_snoc {v:AV} {u:Value} (hv:RelV Ψ β v u):∀ {l:List AV} {us:List Value},RelL Ψ β l us → RelL Ψ β (l ++ [v]) (us ++ [u])
 | [],us,h=>by
  simp only [RelL] at h
  subst h
  exact ⟨u,[],rfl,hv,rfl⟩
 | _ :: _,_,⟨a,b,rfl,h1,h2⟩=>⟨a,b ++ [u],rfl,h1,RelL_snoc hv h2⟩
theorem insert_ok {t:TypeId} {m key v:AV} {mv kv vv:Value} {r:Out} {fs:List (List AV)} {acts:List Act} (hi:InvH C.P B w0 Ψ β h w) (hf:RelF Ψ β fs acts) (hm:RelV Ψ β m mv) (hk:RelV Ψ β key kv) (hv:RelV Ψ β v vv)
 (hr:ainsert C h t m key v = some r):EOp C B w0 Ψ w (do Instr.mapUpdate t mv kv vv; pure .skip) r fs acts:=by
 unfold ainsert at hr
 split at hr
 ·rename_i b et k him
  split at hr
  ·rename_i es x hg hx
   split at hr
   ·rename_i hnot
    simp only [Option.some.injEq] at hr
    subst hr
    rw [Bool.and_eq_true] at hnot
    obtain ⟨kt,hu,hku⟩:=keyMap_spec him
    obtain ⟨g,ms,cl,rfl,hβ,hh,hB,hes,hrs,hok⟩:=kmap_at hi hg hm
    obtain ⟨rfl,hxo,hxt⟩:=keyOf_rel hx hk
    rw [← hxt] at hku
    have hfind:=(findNow_k hxo es ms.toList 0 hes hrs hok).1 hnot.1
    refine ⟨.skip,undef,β,{ w with heap:=w.heap.setIfInBounds g (.map (ms.push { key:=x.v,val:=vv,born:=cl }) (cl + 1)) },?_,.inr ⟨rfl,rfl⟩,?_,hf,rfl⟩
    ·have hck:∀ e n,(Instr.checkKey e (n + 1) kt x.v).run C.P w = .ok () w:=fun e n=>run_checkKey hku (k:=x.v) (by cases x <;> exact (by first | rfl | trivial)) e n
     exact then_skip (by simp [Instr.mapUpdate,run_underlying hu,MapKept.run_getObj_map hh,hck,run_findKey hku hfind,MapKept.run_setObj_map _ hh,Result.andThen])
    ·simp only [jQp]
     have hlt:=jQm hh
     refine hi.rewriteG (jQc hg (by simp)) rfl (g:=g) hβ ⟨rfl,rfl,rfl,by simp,fun j _ hj=>(MapKept.heap_set (o':=_) hh).2 j (fun e=>hj (by rw [e]))⟩ (fun g' h'=>h') ⟨g,_,_,hβ,(MapKept.heap_set hh).1,hB,?_,?_,?_⟩
     ·simp [hes]
     ·rw [Array.toList_push,List.map_append,List.map_append]
      exact RelL_snoc hv hrs
     ·intro p hp
      rcases List.mem_append.1 hp with hp | hp
      ·exact hok p hp
      ·simp only [List.mem_singleton] at hp
       subst hp
       exact ⟨hnot.2,hxo⟩
   ·cases hr
  ·cases hr
 ·cases hr
theorem findNow_d {e:Ty} (x:Int):∀ (m:List (Int × e.den)) (l:List MapEntry) (i:Nat),mapR Ψ e m l →
 (mget m x = none ∧ Instr.findNow (.int .i64) (.int .i64 x) l i = some none ∧ ∀ y,mput m x y = m ++ [(x,y)]) ∨
 ∃ j y u,mget m x = some y ∧ Instr.findNow (.int .i64) (.int .i64 x) l i = some (some (i + j,u.val)) ∧ l[j]? = some u ∧ u.key = .int .i64 x ∧ rv Ψ e y u.val ∧
  ∀ (y':e.den) (v':Value),IntKind.i64.has x → rv Ψ e y' v' → mapR Ψ e (mput m x y') (l.set j { u with key:=.int .i64 x,val:=v' })
 | [],l,i,h=>.inl ⟨rfl,by
     have h:l = []:=h
     subst h
     rfl,fun _=>rfl⟩
 | p :: m,_,i,⟨u,l,rfl,hk,hh,hv,hl⟩=>by
  by_cases hx:p.1 = x
  ·refine .inr ⟨0,p.2,u,by simp [mget,hx],by simp [Instr.findNow,Instr.sameNow,hk,hx],rfl,by rw [hk,hx],hv,fun y' v' hn hv'=>?_⟩
   simp only [mput,hx,if_true,List.set_cons_zero]
   exact ⟨_,l,rfl,rfl,hn,hv',hl⟩
  ·have hb:(x == p.1) = false:=by simpa using fun h=>hx h.symm
   rcases findNow_d x m l (i + 1) hl with ⟨h1,h2,h3⟩ | ⟨j,y,u',h1,h2,h3,h4,h5,h6⟩
   ·exact .inl ⟨by simp only [mget,hx,if_false]; exact h1,by simp only [Instr.findNow,hk,Instr.sameNow,if_true,hb]; exact h2,fun y=>by simp only [mput,hx,if_false,h3 y,List.cons_append]⟩
   ·refine .inr ⟨j + 1,y,u',by simp only [mget,hx,if_false]; exact h1,?_,by simpa using h3,h4,h5,fun y' v' hn hv'=>?_⟩
    ·simp only [Instr.findNow,hk,Instr.sameNow,if_true,hb]
     rw [h2,show i + 1 + j = i + (j + 1) by omega]
    ·simp only [mput,hx,if_false,List.set_cons_succ]
     exact ⟨u,_,rfl,hk,hh,hv,h6 y' v' hn hv'⟩
theorem modify_set {α:Type} (f:α → α):∀ (l:List α) (j:Nat) (e:α),l[j]? = some e → l.modify j f = l.set j (f e)
 | [],_,_,h=>by simp at h
 | _ :: _,0,_,h=>by simp at h; simp [h]
 | _ :: l,j + 1,e,h=>by simp [modify_set f l j e (by simpa using h)]
theorem mapR_snoc {e:Ty} {x:Int} {y:e.den} {u:MapEntry} (hk:u.key = .int .i64 x) (hx:IntKind.i64.has x) (hv:rv Ψ e y u.val):∀ {m:List (Int × e.den)} {l:List MapEntry},mapR Ψ e m l → mapR Ψ e (m ++ [(x,y)]) (l ++ [u])
 | [],l,h=>by
  have h:l = []:=h
  subst h
  exact ⟨u,[],rfl,hk,hx,hv,rfl⟩
 | _ :: _,_,⟨u',l',rfl,h1,h2,h3,h4⟩=>⟨u',l' ++ [u],rfl,h1,h2,h3,mapR_snoc hk hx hv h4⟩
theorem mput_mem {α:Type} {n:Int} {x:α}:∀ {m:List (Int × α)} {k:Int},k ∈ (mput m n x).map Prod.fst → k ∈ m.map Prod.fst ∨ k = n
 | [],k,h=>.inr (by simpa [mput] using h)
 | p :: m,k,h=>by
  unfold mput at h
  split at h
  ·rename_i hp
   simp only [List.map_cons,List.mem_cons] at h ⊢
   rcases h with h | h
   ·exact .inr h
   ·exact .inl (.inr h)
  ·simp only [List.map_cons,List.mem_cons] at h ⊢
   rcases h with h | h
   ·exact .inl (.inl h)
   ·exact (mput_mem h).imp .inr id
theorem mput_nodup {α:Type} {n:Int} {x:α}:∀ {m:List (Int × α)},(m.map Prod.fst).Nodup → ((mput m n x).map Prod.fst).Nodup
 | [],_=>by simp [mput]
 | p :: m,h=>by
  simp only [List.map_cons,List.nodup_cons] at h
  unfold mput
  split
  ·rename_i hp
   simp only [List.map_cons,List.nodup_cons]
   rw [← hp]
   exact h
  ·rename_i hp
   simp only [List.map_cons,List.nodup_cons]
   exact ⟨fun hm=>(mput_mem hm).elim h.1 fun e=>hp e,mput_nodup h.2⟩
theorem dmap_at {k:Nat} {e:Ty} {m:List (Int × e.den)} {v:Value} (hi:InvH C.P B w0 Ψ β h w) (hg:hget h k = .dmap e m) (hv:RelV Ψ β (.sl k) v) :
 ∃ g ms cl,v = .map (some g) ∧ β[k]? = some (.map (some g)) ∧ w.heap[g]? = some (.map ms cl) ∧ ¬ B g ∧ mapR Ψ e m ms.toList ∧ (m.map Prod.fst).Nodup ∧ (ms.toList.map (·.born)).Nodup ∧ (∀ x ∈ ms.toList,x.born < cl):=by
 obtain ⟨g,ms,cl,h1,h2,h3,h4⟩:=hi.blk k _ (jQc hg (by simp))
 have hv:β[k]? = some v:=hv.1
 rw [h1] at hv
 simp at hv
 exact ⟨g,ms,cl,hv.symm,h1,h2,h3,h4⟩
theorem makeDmap_ok {t et:TypeId} {e:Ty} {fs:List (List AV)} {acts:List Act} (hi:InvH C.P B w0 Ψ β h w) (hf:RelF Ψ β fs acts) (hm:intMap C t = some et) :
 EOp C B w0 Ψ w (do pure (.value (← Instr.makeMap t none))) ⟨none,.sl (hlen h),h ++ [.dmap e []],none⟩ fs acts:=by
 have hn:(β ++ [Value.map (some w.heap.size)])[h.length]? = some (.map (some w.heap.size)):=by rw [← hi.len]; simp
 refine ⟨.value (.map (some w.heap.size)),_,β ++ [.map (some w.heap.size)],w.alloc (.map #[] 0),jXf rfl,.inl rfl,?_,jQq (PLe.refl _) (jQh _) _ _ hf,?_⟩
 ·refine hi.push ((Below.refl _ _).alloc (Nat.le_refl _) _) rfl ⟨w.heap.size,#[],0,hn,heap_alloc_new w _,jZ3 hi.size,rfl,List.nodup_nil,List.nodup_nil,fun x hx=>by simp at hx⟩ (fun g hc=>?_)
  simp only [jQb] at hc
  rw [hn] at hc
  simp at hc
  omega
 ·refine ⟨?_,by simp [hole]⟩
  rw [jQ1]; exact hn
theorem dinsert_ok {t:TypeId} {m key v:AV} {mv kv vv:Value} {r:Out} {fs:List (List AV)} {acts:List Act} (hi:InvH C.P B w0 Ψ β h w) (hf:RelF Ψ β fs acts) (hm:RelV Ψ β m mv) (hk:RelV Ψ β key kv) (hv:RelV Ψ β v vv)
 (hr:dinsert C h t m key v = some r):EOp C B w0 Ψ w (do Instr.mapUpdate t mv kv vv; pure .skip) r fs acts:=by
 unfold dinsert at hr
 split at hr
 ·rename_i et k n him
  split at hr
  ·rename_i e mm hg
   split at hr
   ·rename_i x hx
    split at hr
    ·rename_i hnr
     simp only [Option.some.injEq] at hr
     subst hr
     obtain ⟨kt,hu,hku⟩:=intMap_spec him
     obtain ⟨g,ms,cl,rfl,hβ,hh,hB,hmr,hnd,hbn,hbc⟩:=dmap_at hi hg hm
     obtain ⟨rfl,hn⟩:=jQj.1 hk
     have hnr0:refs v = []:=by
      have:=jZ5 hnr
      simpa [refsA] using this
     have hxv:rv Ψ e x vv:=jKj (PLe.refl Ψ) hx hv (by rw [hnr0]; exact Reading.nil)
     rcases findNow_d n mm ms.toList 0 hmr with ⟨h1,h2,h3⟩ | ⟨j,y,u,h1,h2,h3,h4,h5,h6⟩
     ·refine ⟨.skip,undef,β,{ w with heap:=w.heap.setIfInBounds g (.map (ms.push { key:=.int .i64 n,val:=vv,born:=cl }) (cl + 1)) },?_,.inr ⟨rfl,rfl⟩,?_,hf,rfl⟩
      ·exact then_skip (by simp [Instr.mapUpdate,run_underlying hu,MapKept.run_getObj_map hh,run_checkKey hku (k:=.int .i64 n) rfl,run_findKey hku h2,MapKept.run_setObj_map _ hh,Result.andThen])
      ·simp only [jQp]
       refine hi.rewriteG (jQc hg (by simp)) rfl (g:=g) hβ ⟨rfl,rfl,rfl,by simp,fun j _ hj=>(MapKept.heap_set (o':=_) hh).2 j (fun e=>hj (by rw [e]))⟩ (fun g' h'=>h') ⟨g,_,_,hβ,(MapKept.heap_set hh).1,hB,?_,mput_nodup hnd,?_,?_⟩
       ·rw [h3,Array.toList_push]
        exact mapR_snoc rfl hn hxv hmr
       ·rw [Array.toList_push,List.map_append,List.nodup_append]
        refine ⟨hbn,by simp,fun a ha b hb=>?_⟩
        simp only [List.map_cons,List.map_nil,List.mem_singleton] at hb
        obtain ⟨z,hz,rfl⟩:=List.mem_map.1 ha
        have:=hbc z hz
        omega
       ·intro z hz
        rw [Array.toList_push] at hz
        rcases List.mem_append.1 hz with hz | hz
        ·have:=hbc z hz; omega
        ·simp only [List.mem_singleton] at hz
         subst hz
         exact Nat.lt_succ_self _
     ·have hlt:j < ms.toList.length:=by
       rcases Nat.lt_or_ge j ms.toList.length with h' | h'
       ·exact h'
       ·rw [List.getElem?_eq_none h'] at h3; cases h3
      have hmj:ms[j]? = some u:=by simpa using h3
      have hlist:(ms.modify j (fun e'=>{ e' with key:=.int .i64 n,val:=vv })).toList = ms.toList.set j { u with key:=.int .i64 n,val:=vv }:=by
       rw [Array.toList_modify,modify_set _ _ _ _ h3]
      have hborn:(ms.toList.set j { u with key:=.int .i64 n,val:=vv }).map (·.born) = ms.toList.map (·.born):=by
       rw [List.map_set]
       refine List.ext_getElem? fun i=>?_
       rw [List.getElem?_set]
       split
       ·rename_i hij
        subst hij
        split
        ·rw [List.getElem?_map,h3]; rfl
        ·rename_i hc; exact absurd (by simpa using hlt) hc
       ·rfl
      refine ⟨.skip,undef,β,{ w with heap:=w.heap.setIfInBounds g (.map (ms.modify j (fun e'=>{ e' with key:=.int .i64 n,val:=vv })) cl) },?_,.inr ⟨rfl,rfl⟩,?_,hf,rfl⟩
      ·rw [Nat.zero_add] at h2
       exact then_skip (by simp [Instr.mapUpdate,run_underlying hu,MapKept.run_getObj_map hh,run_checkKey hku (k:=.int .i64 n) rfl,run_findKey hku h2,MapKept.run_setObj_map _ hh,Result.andThen,hmj,h4,Instr.keyThatStays,Instr.sameBits])
      ·simp only [jQp]
       refine hi.rewriteG (jQc hg (by simp)) rfl (g:=g) hβ ⟨rfl,rfl,rfl,by simp,fun j _ hj=>(MapKept.heap_set (o':=_) hh).2 j (fun e=>hj (by rw [e]))⟩ (fun g' h'=>h') ⟨g,_,_,hβ,(MapKept.heap_set hh).1,hB,?_,mput_nodup hnd,?_,?_⟩
       ·rw [hlist]
        exact h6 x vv hn hxv
       ·rw [hlist,hborn]; exact hbn
       ·intro z hz
        rw [hlist] at hz
        have hz':z.born ∈ (ms.toList.set j { u with key:=.int .i64 n,val:=vv }).map (·.born):=List.mem_map.2 ⟨z,hz,rfl⟩
        rw [hborn] at hz'
        obtain ⟨z',hz1,hz2⟩:=List.mem_map.1 hz'
        have:=hbc z' hz1
        omega
    ·cases hr
   ·cases hr
  ·cases hr
 ·cases hr
theorem dlookup_ok {t:TypeId} {m key:AV} {mv kv:Value} {ok:Bool} {r:Out} {fs:List (List AV)} {acts:List Act} (hi:InvH C.P B w0 Ψ β h w) (hf:RelF Ψ β fs acts) (hm:RelV Ψ β m mv) (hk:RelV Ψ β key kv)
 (hr:dlookup C h t m key ok = some r):EOp C B w0 Ψ w (do pure (.value (← Instr.lookup t mv kv ok))) r fs acts:=by
 unfold dlookup at hr
 split at hr
 ·rename_i et k n him
  split at hr
  ·rename_i e mm z hg hz
   split at hr
   ·rename_i x hx
    split at hr
    ·rename_i hnr
     have:=jQd hr; subst this
     obtain ⟨kt,hu,hku⟩:=intMap_spec him
     obtain ⟨g,ms,cl,rfl,hβ,hh,hB,hmr,hnd,hbn,hbc⟩:=dmap_at hi hg hm
     obtain ⟨rfl,hn⟩:=jQj.1 hk
     obtain ⟨ti,zv,hti,htz,rfl⟩:=jX5 hz
     have hnr0:refs (ofV zv) = []:=by
      have:=jZ5 hnr
      simpa [refsA] using this
     have hzv:rv Ψ e x zv:=jKj (β:=β) (h:=h) (PLe.refl Ψ) hx (jZ4 zv) (by rw [hnr0]; exact Reading.nil)
     have fin:∀ (vv:Value) (b:Bool) (y:e.den),(mget mm n).getD x = y → (mget mm n).isSome = b → rv Ψ e y vv → (do pure (.value (← Instr.lookup t (.map (some g)) (.int .i64 n) ok)):Sem Next).run C.P w = .ok (.value (if ok then .tuple #[vv,.bool b] else vv)) w →
      EOp C B w0 Ψ w (do pure (.value (← Instr.lookup t (.map (some g)) (.int .i64 n) ok))) ⟨none,if ok then .tup [.d e ((mget mm n).getD x),.d .bool (mget mm n).isSome] else .d e ((mget mm n).getD x),h,none⟩ fs acts:=fun vv b y e1 e2 hv hrun=>by
      refine ⟨_,_,β,w,hrun,.inl rfl,hi,hf,?_⟩
      rw [e1,e2]
      cases ok with
      | true=>exact ⟨[vv,.bool b],rfl,vv,_,rfl,hv,.bool b,[],rfl,jJd.2 rfl,rfl⟩
      | false=>exact hv
     rcases findNow_d n mm ms.toList 0 hmr with ⟨h1,h2,h3⟩ | ⟨j,y,u,h1,h2,h3,h4,h5,h6⟩
     ·refine fin zv false x (by rw [h1]; rfl) (by rw [h1]; rfl) hzv ?_
      cases ok <;> simp [Instr.lookup,run_underlying hu,MapKept.run_getObj_map hh,run_checkKey hku (k:=.int .i64 n) rfl,run_findKey hku h2,zeroValue,typeInfo,hti,htz,Result.andThen]
     ·refine fin u.val true y (by rw [h1]; rfl) (by rw [h1]; rfl) h5 ?_
      cases ok <;> simp [Instr.lookup,run_underlying hu,MapKept.run_getObj_map hh,run_checkKey hku (k:=.int .i64 n) rfl,run_findKey hku h2,Result.andThen]
    ·cases hr
   ·cases hr
  ·cases hr
 ·cases hr
theorem Ext.refl (B:Nat → Prop) (Ψ:Pr):Ext B Ψ Ψ:=⟨PLe.refl _,fun _ _ h=>.inl h⟩
theorem Ext.trans {B:Nat → Prop} {Ψ Ψ' Ψ'':Pr} (h:Ext B Ψ Ψ') (h':Ext B Ψ' Ψ''):Ext B Ψ Ψ'' :=
 ⟨fun a v hv=>h'.1 a v (h.1 a v hv),fun ad v hv=>(h'.2 ad v hv).elim (h.2 ad v) .inr⟩
theorem Step.ext {Ψ':Pr} (hs:Step Ψ w Ψ' w') (hB:(∀ k,B k → k < w.heap.size)):Ext B Ψ Ψ' :=
 ⟨hs.le,fun ad v hv=>(hs.new ad v hv).imp id fun h=>out_ge hB h.1⟩
theorem jKl {l:List Blk} {k:Nat} {b:Blk} (h:l[k]? = some b):k < l.length:=by
 rcases Nat.lt_or_ge k l.length with h' | h'
 ·exact h'
 ·rw [List.getElem?_eq_none h'] at h; cases h
theorem grow_reading {Ψ':Pr} (hi:InvH C.P B w0 Ψ β h w) (hle:PLe Ψ Ψ') {k:Nat} {tid:TypeId} {e:Ty} {xs:List e.den} (hg:hget h k = .grow tid e xs)
 (hp:∀ g n cap,cap ≠ 0 → β[k]? = some (.slice (some ⟨g,0,none⟩) n cap) → ∀ i v,w.cell? ⟨g,i,none⟩ = some v → Ψ' ⟨g,i,none⟩ = some v) {u:Value} (hu:β[k]? = some u):rv Ψ' (.arr e) xs u:=by
 rcases hi.blk k _ (jQc hg (by simp)) with ⟨ad,h1,rfl⟩ | ⟨g,cap,cur,h1,hz,hB,hh,hn,hcm,hcs,hd⟩
 ·rw [hu] at h1
  simp at h1
  subst h1
  exact ⟨_,⟨ad,0,rfl,Nat.le_refl _,by simp [maxLen],.inl rfl⟩,rfl⟩
 ·have hp':=hp g _ cap hz h1
  rw [hu] at h1
  simp at h1
  subst h1
  refine ⟨_,⟨_,cap,rfl,hn,hcm,.inr ⟨_,jX3 (jQg hle e) _ _ hd,g,0,rfl,fun j v hj=>hp' _ v ?_⟩⟩,rfl⟩
  rw [jXe hh,Nat.zero_add]
  rw [List.getElem?_take] at hj
  split at hj
  ·simpa using hj
  ·cases hj
open Classical in
noncomputable def given (Ψ:Pr) (β:List Value) (w:World) (k:Nat):Pr:=fun ad =>
 if (∃ n cap,cap ≠ 0 ∧ β[k]? = some (.slice (some ⟨ad.block,0,none⟩) n cap)) ∧ ad.spot = none then w.cell? ad else Ψ ad
theorem given_in {k g n cap:Nat} (hz:cap ≠ 0) (hβ:β[k]? = some (.slice (some ⟨g,0,none⟩) n cap)) (i:Nat):given Ψ β w k ⟨g,i,none⟩ = w.cell? ⟨g,i,none⟩:=by
 unfold given
 rw [if_pos ⟨⟨n,cap,hz,hβ⟩,rfl⟩]
theorem freeze_sound {s:St} (hi:InvH C.P B w0 Ψ β s.heap w) (hf:RelF Ψ β (s.top :: s.below) As) (k:Nat) :
 ∃ Ψ',Ext B Ψ Ψ' ∧ InvH C.P B w0 Ψ' β (s.freeze k).heap w ∧ RelF Ψ' β ((s.freeze k).top :: (s.freeze k).below) As ∧ Reading Ψ' β s.heap [k] ∧
  ∀ (j:Nat) (tid:TypeId) (e:Ty) (xs:List e.den),j ≠ k → hget s.heap j = .grow tid e xs → hget (s.freeze k).heap j = .grow tid e xs:=by
 unfold St.freeze
 split
 ·rename_i tid e xs hg
  have hk:=jQc hg (by simp)
  have hle:PLe Ψ (given Ψ β w k):=by
   intro ad v hv
   have h1:=hi.prom ad v hv
   unfold given
   split
   ·rename_i hc; exact Pm_plain hc.2 h1
   ·exact hv
  have hrd:∀ u:Value,β[k]? = some u → rv (given Ψ β w k) (.arr e) xs u:=fun u hu =>
   grow_reading hi hle hg (fun g n cap hz hβ i v hv=>by rw [given_in hz hβ]; exact hv) hu
  have hptr:∀ g:Nat,β[k]? = some (.pointer (some ⟨g,0,none⟩)) → β[k]? = some (.pointer (some ⟨g,0,none⟩)):=fun _ h=>h
  have hget':∀ {j:Nat} {b:Blk},((subH k (.d (.arr e) xs) s.heap).set k .gone)[j]? = some b → (j = k ∧ b = .gone) ∨ (j ≠ k ∧ ∃ b',s.heap[j]? = some b' ∧ b = (subB k (.d (.arr e) xs) b')):=by
   intro j b hb
   by_cases hjk:j = k
   ·subst hjk
    have hlt:j < (subH j (.d (.arr e) xs) s.heap).length:=by rw [subH_len]; exact jKl hk
    rw [List.getElem?_set_self hlt] at hb
    simp at hb
    exact .inl ⟨rfl,hb.symm⟩
   ·rw [List.getElem?_set_ne (Ne.symm hjk)] at hb
    exact .inr ⟨hjk,subH_get _ _ _ _ _ hb⟩
  have hcl:∀ {j g:Nat} {b b':Blk},b = (subB k (.d (.arr e) xs) b') → jQb β j g b → jQb β j g b':=by
   intro j g b b' hb hc
   subst hb
   cases b' <;> exact hc
  have hclk:∀ {g n cap:Nat},cap ≠ 0 → β[k]? = some (.slice (some ⟨g,0,none⟩) n cap) → jQb β k g (.grow tid e xs):=fun hz hβ=>⟨_,_,hz,hβ⟩
  refine ⟨given Ψ β w k,⟨hle,fun ad v hv=>?_⟩,?_,?_,?_,?_⟩
  ·unfold given at hv
   split at hv
   ·rename_i hc
    obtain ⟨⟨n,cap,hz,hβ⟩,_⟩:=hc
    exact .inr (jQx (hi.blk k _ hk) (hclk hz hβ)).1
   ·exact .inl hv
  ·show InvH C.P B w0 (given Ψ β w k) β (hset (subH k (.d (.arr e) xs) s.heap) k .gone) w
   rw [jQp]
   refine ⟨hi.low,hi.size,fun ad v hv=>?_,fun ad v hv hsp=>?_,by simp [subH_len,hi.len],hi.one,fun j b hb=>?_,fun j b g hb hc ad had hsp=>?_,fun i j bi bj g hij hbi hbj hci hcj=>?_,hi.glob.le hle⟩
   ·unfold given at hv
    split at hv
    ·rename_i hc
     exact Pm_mk hc.2 hv
    ·exact hi.prom ad v hv
   ·unfold given at hv
    split at hv
    ·rename_i hc
     rw [hc.2] at hsp; cases hsp
    ·exact hi.own ad v hv hsp
   ·rcases hget' hb with ⟨_,rfl⟩ | ⟨hjk,b',hb',rfl⟩
    ·trivial
    ·have hB:=hi.blk j _ hb'
     cases b' with
     | gone=>trivial
     | log ys Y own xs=>exact jJl hB (fun _ h=>h) hle.m (Nat.le_refl _) fun _ _=>rfl
     | lof ys Y own=>exact jJm hB (fun _ h=>h) hle.m (Nat.le_refl _) fun _ _=>rfl
     | cells cs =>
      obtain ⟨g,c,e',h1,h2,h3,h4,h5⟩:=hB
      exact ⟨g,c,e',h1,h2,h3,jZn k _ hle hrd (fun _ _ _ h=>h) hptr (fun _ h=>h) _ _ h4,h5⟩
     | grow tid' e' xs' =>
      refine hB.imp id ?_
      rintro ⟨g,cap,cur,h1,h2,h3,h4,h5,h6,h7,h8⟩
      exact ⟨g,cap,cur,h1,h2,h3,h4,h5,h6,h7,jX3 (jQg hle e') _ _ h8⟩
     | kmap es =>
      obtain ⟨g,ms,cl,h1,h2,h3,h4,h5,h6⟩:=hB
      refine ⟨g,ms,cl,h1,h2,h3,h4,?_,h6⟩
      have:RelL (given Ψ β w k) β (subL k (.d (.arr e) xs) (es.map Prod.snd)) _:=jZn k _ hle hrd (fun _ _ _ h=>h) hptr (fun _ h=>h) _ _ h5
      rwa [subL_okE k _ fun p hp=>(h6 p hp).1] at this
     | dmap e' m =>
      obtain ⟨g,ms,cl,h1,h2,h3,h4,h5⟩:=hB
      exact ⟨g,ms,cl,h1,h2,h3,jZj hle h4,h5⟩
     | diter e' last left =>
      obtain ⟨g,gm,ms,cl,seen,h1,h2,h3,h4,h5,h6⟩:=hB
      exact ⟨g,gm,ms,cl,seen,h1,h2,h3,hle _ _ h4,jZj hle h5,h6.1,h6.2.1,h6.2.2.imp id fun ⟨p,x,s',a1,a2,a3,a4,a5,a6⟩=>⟨p,x,s',a1,a2,a3,a4,a5,rv_le hle a6⟩⟩
     | loop f p ph ts =>
      obtain ⟨l,r,h1,h2,h3,h4,h5,h6,h7,h8⟩:=hB
      exact ⟨l,r,h1,h2,h3,h4,jZn k _ hle hrd (fun _ _ _ h=>h) hptr (fun _ h=>h) _ _ h5,hle _ _ h6,fun i v hv=>hle _ _ (h7 i v hv),h8⟩
     | dat t x =>
      obtain ⟨g,c,e',h1,h2,h3,h4⟩:=hB
      exact ⟨g,c,e',h1,h2,h3,jQg hle t x _ h4⟩
     | siter n rest=>exact hB
   ·rcases hget' hb with ⟨_,rfl⟩ | ⟨hjk,b',hb',hbe⟩
    ·exact hc.elim
    ·have hc':=hcl hbe hc
     unfold given
     split
     ·rename_i hcond
      obtain ⟨⟨n,cap,hz,hβ⟩,_⟩:=hcond
      rw [had] at hβ
      exact (hi.sep j k _ _ g hjk hb' hk hc' (hclk hz hβ)).elim
     ·exact hi.free j _ g hb' hc' ad had hsp
   ·rcases hget' hbi with ⟨_,rfl⟩ | ⟨_,bi',hbi',hbie⟩
    ·exact hci.elim
    ·rcases hget' hbj with ⟨_,rfl⟩ | ⟨_,bj',hbj',hbje⟩
     ·exact hcj.elim
     ·exact hi.sep i j _ _ g hij hbi' hbj' (hcl hbie hci) (hcl hbje hcj)
  ·exact subF_rel k _ hle hrd (fun _ _ _ h=>h) hptr (fun _ h=>h) (s.top :: s.below) As hf
  ·intro k' hk' tid' e' xs' hg' u hu
   simp only [List.mem_singleton] at hk'
   subst hk'
   rw [hg] at hg'
   cases hg'
   exact hrd u hu
  ·intro j tid' e' xs' hjk hg'
   show hget (hset (subH k (.d (.arr e) xs) s.heap) k .gone) j = _
   rw [jQp]
   have h1:=jQc hg' (by simp)
   have h2:(subH k (.d (.arr e) xs) s.heap)[j]? = some (.grow tid' e' xs'):=by
    have hlt:j < (subH k (.d (.arr e) xs) s.heap).length:=by rw [subH_len]; exact jKl h1
    have h3:=List.getElem?_eq_getElem hlt
    obtain ⟨b',hb',hbe⟩:=subH_get _ _ _ _ _ h3
    rw [h1] at hb'
    simp at hb'
    subst hb'
    rw [h3,hbe]
    rfl
   exact hget_of (by rw [List.getElem?_set_ne (Ne.symm hjk)]; exact h2)
 ·rename_i hng
  refine ⟨Ψ,Ext.refl _ _,hi,hf,fun k' hk' tid e xs hg u hu=>?_,fun _ _ _ _ _ h=>h⟩
  simp only [List.mem_singleton] at hk'
  subst hk'
  exact absurd hg (hng _ _ _)
where
 hget_of:∀ {h:List Blk} {j:Nat} {b:Blk},h[j]? = some b → hget h j = b
  | [],_,_,hb=>by simp at hb
  | b0 :: h,0,_,hb=>by simpa [hget] using hb
  | b0 :: h,j + 1,_,hb=>by
   simp only [hget]
   exact hget_of (by simpa using hb)
theorem op_sound {o:Oper} {r:Out} {fs:List (List AV)} {acts:List Act} (hi:InvH C.P B w0 Ψ β h w) (hf:RelF Ψ β fs acts) (hev:∀ x ∈ o.op.operands,RelV Ψ β (ev fr x) (a.eval x))
 (hr:aop C fr h o.op = some r) (hp:∀ p,r.need = some p → p) :
 ∃ n v Ψ' β' w',(execOp a.eval o).run C.P w = .ok n w' ∧ (n = .value v ∨ (n = .skip ∧ v = undef)) ∧ Ext B Ψ Ψ' ∧ InvH C.P B w0 Ψ' β' (match r.kill with | none=>r.heap | some k=>subH k .junk r.heap) w' ∧
  RelF Ψ' β' (match r.kill with | none=>fs | some k=>subF k .junk fs) acts ∧ RelV Ψ' β' r.v v:=by
 by_cases hn:neutral o.op = true
 ·obtain ⟨h1,h2,v,Ψ',w',e1,e2,e3⟩:=neutral_sound hi hev hn hr hp
  rw [h1,h2]
  exact ⟨.value v,v,Ψ',β,w',e1,.inl rfl,e2.ext hi.size,hi.step e2,jQq e2.le (fun _ _ h=>h) _ _ hf,e3⟩
 ·have key:EOp C B w0 Ψ w (execOp a.eval o) r fs acts → ∃ n v Ψ' β' w',(execOp a.eval o).run C.P w = .ok n w' ∧ (n = .value v ∨ (n = .skip ∧ v = undef)) ∧ Ext B Ψ Ψ' ∧ InvH C.P B w0 Ψ' β' (match r.kill with | none=>r.heap | some k=>subH k .junk r.heap) w' ∧
   RelF Ψ' β' (match r.kill with | none=>fs | some k=>subF k .junk fs) acts ∧ RelV Ψ' β' r.v v :=
   fun ⟨n,v,β',w',e1,e2,e3,e4,e5⟩=>⟨n,v,Ψ,β',w',e1,e2,Ext.refl _ _,e3,e4,e5⟩
  by_cases hbx:∃ bt y r',o.op = .box bt y ∧ abox' C h bt (ev fr y) = some r'
  ·obtain ⟨bt,y,r',ho,hb⟩:=hbx
   obtain ⟨dst,op,ty,pos,after,guard⟩:=o
   simp only at ho hev hr
   subst ho
   simp only [aop,hb,Option.some.injEq] at hr
   subst hr
   have hx:=hev y (by simp [Op.operands])
   cases had:C.asDatB bt with
   | true =>
    unfold abox' at hb
    rw [had,cond_true] at hb
    exact key (dat_box hi hf hx hb)
   | false =>
   generalize ev fr y = av at hb hx
   obtain ⟨u,z,hr',hz⟩:∃ (u:Ty) (z:u.den),ok0 h (.rp u z) = some r' ∧ rv Ψ u z (a.eval y):=by
    unfold abox' at hb
    rw [had,cond_false] at hb
    split at hb
    ·rename_i u z
     split at hb
     ·exact ⟨u,z,hb,hx⟩
     ·cases hb
    ·rename_i cs
     split at hb
     ·split at hb
      ·rename_i hrf
       split at hb
       ·rename_i u hu
        split at hb
        ·rename_i z hz
         exact ⟨u,z,hb,jKj (PLe.refl _) hz hx (by rw [hrf]; exact Reading.nil)⟩
        ·cases hb
       ·cases hb
      ·cases hb
     ·cases hb
    ·cases hb
   have:=jQd hr'; subst this
   obtain ⟨cs,hcs,hv⟩:=hz
   have hone:∀ v:Value,v.oneCell' = true → v.cells = #[v]:=by
    intro v h
    cases v <;> first | rfl | simp [Value.oneCell'] at h
   have hv:(a.eval y).cells = cs.toArray:=by
    cases ht:u.isAgg with
    | true=>rw [ht] at hv; simp at hv; rw [hv]; rfl
    | false =>
     rw [ht] at hv
     simp at hv
     have h1:=jXp u z cs hcs (a.eval y) (by simp [hv])
     rw [hone _ h1,hv]
   have hst:=step_block hi cs bt
   refine ⟨.value (.pointer (some ⟨w.heap.size,0,none⟩)),_,_,β,_,?_,.inl rfl,hst.ext hi.size,hi.step hst,jQq hst.le (fun _ _ h=>h) _ _ hf,⟨w.heap.size,0,cs,rfl,jQg hst.le u z cs hcs,fun j v' hj=>?_⟩⟩
   ·simp [execOp,Instr.box,newVar,newRow,hv]
   ·rw [withBlock_at]; simpa using hj
  apply key
  obtain ⟨dst,op,ty,pos,after,guard⟩:=o
  simp only at hev hn hr
  cases op <;> first | (simp [neutral] at hn; done) | (simp [aop] at hr; done) | skip
  case alloc t=>exact alloc_ok hi hf hr
  case box t x =>
   have hnone:abox' C h t (ev fr x) = none:=by
    cases hq:abox' C h t (ev fr x) with
    | none=>rfl
    | some r'=>exact absurd ⟨t,x,r',rfl,hq⟩ hbx
   simp only [aop,hnone] at hr
   exact box_ok hi hf (hev x (by simp [Op.operands])) hr
  case store t x y=>exact store_ok hi hf (hev x (by simp [Op.operands])) (hev y (by simp [Op.operands])) hr
  case makeMap t res =>
   cases res with
   | some _=>simp [aop] at hr
   | none =>
    simp only [aop] at hr
    split at hr
    ·rename_i et hm
     split at hr
     ·simp only [Option.some.injEq] at hr
      subst hr
      exact makeDmap_ok hi hf hm
     ·simp only [Option.some.injEq] at hr
      subst hr
      exact makeMap_ok hi hf
    ·split at hr
     ·simp only [Option.some.injEq] at hr
      subst hr
      exact makeMap_ok hi hf
     ·cases hr
  case insert t m kx v =>
   simp only [aop] at hr
   split at hr
   ·rename_i r' hr'
    simp only [Option.some.injEq] at hr
    subst hr
    exact insert_ok hi hf (hev m (by simp [Op.operands])) (hev kx (by simp [Op.operands])) (hev v (by simp [Op.operands])) hr'
   ·exact dinsert_ok hi hf (hev m (by simp [Op.operands])) (hev kx (by simp [Op.operands])) (hev v (by simp [Op.operands])) hr
  case mapUpdate t m kx v=>exact dinsert_ok hi hf (hev m (by simp [Op.operands])) (hev kx (by simp [Op.operands])) (hev v (by simp [Op.operands])) hr
  case lookup t m kx ok=>exact dlookup_ok hi hf (hev m (by simp [Op.operands])) (hev kx (by simp [Op.operands])) hr
  case makeSlice t x y=>exact make_ok hi hf (hev x (by simp [Op.operands])) (hev y (by simp [Op.operands])) hr hp
  case call c =>
   obtain ⟨callee,args,ats⟩:=c
   have hargs:∀ x ∈ args.toList,RelV Ψ β (ev fr x) (a.eval x):=fun x hx=>hev x (by simp only [Op.operands,Call.operands,Array.mem_append]; exact .inr (by simpa using hx))
   cases callee with
   | value f=>simp [aop] at hr
   | invoke r m=>simp [aop] at hr
   | builtin b =>
   have hrel:=jZg (Ψ:=Ψ) (β:=β) args.toList hargs
   have hmap:=map_list a.eval args
   have hr':jJy C h b ats.toList (evs fr args.toList) = some r:=hr
   generalize evs fr args.toList = l at *
   generalize args.toList.map a.eval = vs at *
   unfold jJy at hr'
   split at hr' <;> first | (simp [neutral] at hn; done) | (cases hr'; done) | skip
   ·rename_i x y
    split at hr'
    ·rename_i t tx hts
     obtain ⟨u,vs',rfl,hu,hl⟩:=hrel
     obtain ⟨v,vs'',rfl,hv,hl⟩:=hl
     simp only [RelL] at hl
     subst hl
     have hats:ats = #[t,tx]:=by rw [← Array.toArray_toList (xs:=ats),hts]
     subst hats
     obtain ⟨n,v',β',w',e1,e2,e3,e4,e5⟩:=append_ok (ty:=ty) hi hf hu hv hr' hp
     refine ⟨n,v',β',w',?_,e2,e3,e4,e5⟩
     rw [← e1]
     simp [execOp,resolve,invoke,builtin,hmap]
    ·cases hr'
   ·rename_i x y
    split at hr'
    ·rename_i t tx hts
     obtain ⟨u,vs',rfl,hu,hl⟩:=hrel
     obtain ⟨v,vs'',rfl,hv,hl⟩:=hl
     simp only [RelL] at hl
     subst hl
     have hats:ats = #[t,tx]:=by rw [← Array.toArray_toList (xs:=ats),hts]
     subst hats
     obtain ⟨n,v',β',w',e1,e2,e3,e4,e5⟩:=copy_ok (t':=tx) (ty:=ty) hi hf hu hv hr' hp
     refine ⟨n,v',β',w',?_,e2,e3,e4,e5⟩
     rw [← e1]
     simp [execOp,resolve,invoke,builtin,hmap]
    ·cases hr'
end Go.AM
namespace Go.AM
open Go.RowKit Go.MapKept
variable {B:Nat → Prop} {w0:World} {C:Ctx} {Ψ Ψ0:Pr} {β:List Value} {h:List Blk} {w w':World} {fr:List AV} {a a0:Act} {As:List Act} {W:List Nat}
def Same (Ψ0:Pr) (W:List Nat) (a0 a:Act):Prop :=
 (a.tmps.size = a0.tmps.size ∧ ∀ i,i ∉ W → a.tmps[i]? = a0.tmps[i]?) ∧ ∃ ds:List Nat,a.defers = ds.map mkD ++ a0.defers ∧ (ds ≠ [] → mkW ∈ W) ∧ ∀ D ∈ ds,Ψ0 (dAddr D) = none
theorem Same.refl (Ψ0:Pr) (W:List Nat) (a:Act):Same Ψ0 W a a:=⟨⟨rfl,fun _ _=>rfl⟩,[],rfl,fun h=>absurd rfl h,by simp⟩
theorem Same.trans {a b c:Act} {Ψ1:Pr} (hle:PLe Ψ0 Ψ1) (h:Same Ψ0 W a b) (h':Same Ψ1 W b c):Same Ψ0 W a c:=by
 obtain ⟨⟨h1,h2⟩,ds,h3,hm,h4⟩:=h
 obtain ⟨⟨g1,g2⟩,es,g3,gm,g4⟩:=h'
 refine ⟨⟨g1.trans h1,fun i hi=>(g2 i hi).trans (h2 i hi)⟩,es ++ ds,by rw [g3,h3]; simp,fun h=>?_,fun D hD=>?_⟩
 ·cases es with
  | nil=>exact hm h
  | cons x l=>exact gm (by simp)
 rcases List.mem_append.1 hD with hD | hD
 ·cases hp:Ψ0 (dAddr D) with
  | none=>rfl
  | some v=>have:=hle _ _ hp; rw [g4 D hD] at this; cases this
 ·exact h4 D hD
theorem Same.put {d:Option Tmp} {v:Value} (hs:Same Ψ0 W a0 a) (hd:∀ t,d = some t → t ∈ W):Same Ψ0 W a0 (a.put d v):=by
 cases d with
 | none=>exact hs
 | some t =>
  obtain ⟨⟨h1,h2⟩,h3⟩:=hs
  refine ⟨⟨by simpa [Act.put] using h1,fun i hi=>?_⟩,h3⟩
  have:t ≠ i:=fun e=>hi (e ▸ hd t rfl)
  simp only [Act.put]
  rw [Array.getElem?_setIfInBounds_ne this]
  exact h2 i hi
theorem Same.mono {ws:List Nat} (h:Same Ψ0 ws a0 a) (hw:∀ t ∈ ws,t ∈ W):Same Ψ0 W a0 a:=by
 obtain ⟨⟨h1,h2⟩,ds,h3,h4,h5⟩:=h
 exact ⟨⟨h1,fun i hi=>h2 i fun hm=>hi (hw i hm)⟩,ds,h3,fun hd=>hw _ (h4 hd),h5⟩
def Fw (ro:Option Nat):Fence:={ Fence.wide with round:=ro }
theorem jKu {P:Program} {f:FuncId} {args:Array Value} {R:Ending → World → Prop} (ro:Option Nat) (n:Nat) (h:Calls P f args w R):CallsIn (Fw ro) n P f args w R:=by
 cases ro with
 | none=>exact callsIn_wide.2 h
 | some l=>exact CallsIn.inRound l (callsIn_wide.2 h)
def PostC (C:Ctx) (B:Nat → Prop) (w0:World) (Ψ0:Pr) (As:List Act) (W:List Nat) (a0:Act) (k:St → Prop) (a:Act) (w:World):Prop :=
 ∃ Ψ β s,Ext B Ψ0 Ψ ∧ InvH C.P B w0 Ψ β s.heap w ∧ RelF Ψ β (s.top :: s.below) (a :: As) ∧ Same Ψ0 W a0 a ∧ k s
def DefQ (W:List Nat) (a0 a:Act):Prop:=∃ ds:List Nat,a.defers = ds.map mkD ++ a0.defers ∧ (ds ≠ [] → mkW ∈ W)
theorem Same.defs (h:Same Ψ0 W a0 a):DefQ W a0 a:=by
 obtain ⟨_,ds,h1,h2,_⟩:=h
 exact ⟨ds,h1,h2⟩
theorem DefQ.trans {ws:List Nat} {b:Act} (h:Same Ψ0 W a0 a) (h':DefQ ws a b) (hw:∀ t ∈ ws,t ∈ W):DefQ W a0 b:=by
 obtain ⟨_,ds,h1,h2,_⟩:=h
 obtain ⟨es,h3,h4⟩:=h'
 refine ⟨es ++ ds,by rw [h3,h1]; simp,fun h=>?_⟩
 cases es with
 | nil=>exact h2 h
 | cons x l=>exact hw _ (h4 (by simp))
theorem DefQ.put {d:Option Tmp} {v:Value}:DefQ W a0 (a.put d v) ↔ DefQ W a0 a:=by
 cases d <;> exact Iff.rfl
def PanP (C:Ctx) (B:Nat → Prop) (w0:World) (Ψ0:Pr) (ch:List PanicEntry) (w:World):Prop :=
 ∃ b,ch = panE C.panT b ∧ C.panOk b ∧ ∃ Ψ,Ext B Ψ0 Ψ ∧ InvH C.P B w0 Ψ [] [] w
def CallR (C:Ctx) (B:Nat → Prop) (w0:World) (Ψ:Pr) (As:List Act) (k:AV → St → Prop) (e:Ending) (w':World):Prop :=
 (∃ v Ψ' β' av s',e = .returned v ∧ Ext B Ψ Ψ' ∧ InvH C.P B w0 Ψ' β' s'.heap w' ∧ RelF Ψ' β' (s'.top :: s'.below) As ∧ RelV Ψ' β' av v ∧ k av s') ∨ ∃ ch,e = .panicked ch ∧ PanP C B w0 Ψ ch w'
theorem InvH.bare (hi:InvH C.P B w0 Ψ β h w):InvH C.P B w0 Ψ [] [] w where
 low:=hi.low
 size:=hi.size
 prom:=hi.prom
 own:=hi.own
 len:=rfl
 one:=fun k u hk=>by simp at hk
 blk:=fun k b hk=>by simp at hk
 free:=fun k b g hk=>by simp at hk
 sep:=fun i j bi bj g _ hk=>by simp at hk
 glob:=hi.glob
theorem PanP.anti {Ψ1:Pr} {ch:List PanicEntry} (hE:Ext B Ψ0 Ψ1) (h:PanP C B w0 Ψ1 ch w):PanP C B w0 Ψ0 ch w:=by
 obtain ⟨b,e,ho,Ψ2,h1,h2⟩:=h
 exact ⟨b,e,ho,Ψ2,hE.trans h1,h2⟩
theorem InvH.loose {B F:Nat → Prop} {w1:World} (hBF:∀ g,B g → F g) (hlow:BelowS B w0 w1) (hi:InvH C.P F w1 Ψ β h w):InvH C.P B w0 Ψ [] [] w where
 low:=hlow.trans ⟨hi.low.os,hi.low.tape,hi.low.output,hi.low.size,fun g hg=>hi.low.block g (hBF g hg)⟩
 size:=fun g hg=>hi.size g (hBF g hg)
 prom:=hi.prom
 own:=fun a v hv hs hb=>hi.own a v hv hs (hBF _ hb)
 len:=rfl
 one:=fun k u hk=>by simp at hk
 blk:=fun k b hk=>by simp at hk
 free:=fun k b g hk=>by simp at hk
 sep:=fun i j bi bj g _ hk=>by simp at hk
 glob:=hi.glob
theorem PanP.fence {B F:Nat → Prop} {w1:World} {ch:List PanicEntry} (hE:Ext B Ψ0 Ψ) (hBF:∀ g,B g → F g) (hlow:BelowS B w0 w1) (hanti:∀ {Ψ':Pr},Ext F Ψ Ψ' → Ext B Ψ Ψ') (h:PanP C F w1 Ψ ch w):PanP C B w0 Ψ0 ch w:=by
 obtain ⟨b,e,ho,Ψ2,h1,h2⟩:=h
 exact ⟨b,e,ho,Ψ2,hE.trans (hanti h1),h2.loose hBF hlow⟩
theorem panOk_no {b:Int × Int} (h:C.noPan = true) (hp:C.panOk b):False:=by
 unfold Ctx.panOk at hp
 rw [h] at hp
 exact hp
theorem PanP.no {ch:List PanicEntry} (h:C.noPan = true) (hp:PanP C B w0 Ψ ch w):False:=by
 obtain ⟨b,_,ho,_⟩:=hp
 exact panOk_no h ho
def jXu (C:Ctx) (call:CallT):Prop :=
 (∀ (j:Nat) (avs:List AV) (s:St) (k:AV → St → Prop),call (.yld j) avs s k → ∀ (B:Nat → Prop) (w0:World) (Ψ:Pr) (β:List Value) (As:List Act) (vs:List Value) (w:World),
   InvH C.P B w0 Ψ β s.heap w → RelF Ψ β (s.top :: s.below) As → RelL Ψ β avs vs →
   ∃ l r,β[j]? = some (yldV l) ∧ w.heap[l]? = some (.loop r) ∧ vs.length = r.params.size ∧
    RoundIn Fence.wide 0 C.P l r.fn ((r.params.zip vs.toArray).foldl (fun tmps (t,a)=>tmps.setIfInBounds t a) r.tmps) r.assign r.body w
     fun e w'=>∃ v Ψ' β' av s',e = .returned v ∧ Ext B Ψ Ψ' ∧ InvH C.P B w0 Ψ' β' s'.heap w' ∧ RelF Ψ' β' (s'.top :: s'.below) As ∧ RelV Ψ' β' av v ∧ k av s') ∧
 ∀ (f:FuncId) (avs:List AV) (s:St) (k:AV → St → Prop),call (.fn f) avs s k → jZh C f = true → ∀ (B:Nat → Prop) (w0:World) (Ψ:Pr) (β:List Value) (As:List Act) (vs:List Value) (w:World),
  InvH C.P B w0 Ψ β s.heap w → RelF Ψ β (s.top :: s.below) As → RelL Ψ β avs vs →
  Calls C.P f vs.toArray w (CallR C B w0 Ψ As k)
theorem jQ8 {Ψ':Pr} {β':List Value} {s:St} {d:Option Tmp} {av:AV} {v:Value} (hf:RelF Ψ' β' (s.top :: s.below) (a :: As)) (hv:RelV Ψ' β' av v) :
 RelF Ψ' β' ((s.put d av).top :: (s.put d av).below) (a.put d v :: As):=by
 obtain ⟨a1,as',e,⟨h1,h2⟩,h3⟩:=hf
 simp only [List.cons.injEq] at e
 obtain ⟨rfl,rfl⟩:=e
 cases d with
 | none=>exact ⟨_,_,rfl,⟨h1,h2⟩,h3⟩
 | some t =>
  refine ⟨_,_,rfl,⟨h1,?_⟩,h3⟩
  simp only [St.put,Act.put]
  have:=RelL_set hv _ _ t h2
  simpa using this
theorem jXb (s:St) (d:Option Tmp) (av:AV):(s.put d av).heap = s.heap:=by cases d <;> rfl
theorem jQk {s:St} (hf:RelF Ψ β (s.top :: s.below) (a :: As)):RelFr Ψ β s.top a:=by
 obtain ⟨a1,as',e,h1,h3⟩:=hf
 simp only [List.cons.injEq] at e
 obtain ⟨rfl,rfl⟩:=e
 exact h1
theorem jJ8 {g:FuncId} (hg:jZh C g = true) (args:Array Value) (w:World):(callFunc g args).run C.P w = .ok (.enter g args) w:=by
 unfold jZh at hg
 split at hg
 ·rename_i fn hfn
  simp only [Bool.and_eq_true,Bool.not_eq_true',beq_eq_false_iff_ne] at hg
  obtain ⟨h1,h2⟩:=hg
  simp [callFunc,hfn,h2]
  intro hn
  rw [hn] at h1
  simp at h1
 ·cases hg
theorem op_enter {o:Oper} {f:Operand} {args:Array Operand} {ats:Array TypeId} {g:FuncId} {vs:List Value} (ho:o.op = .call { callee:=.value f,args,argTypes:=ats }) (hf:a.eval f = .func (.func g) #[] vs.toArray) (hg:jZh C g = true) :
 (execOp a.eval o).run C.P w = .ok (.enter g (args.toList.map a.eval ++ vs).toArray) w:=by
 have e:(args.toList.map a.eval ++ vs).toArray = #[] ++ args.map a.eval ++ vs.toArray:=by
  apply Array.ext'
  simp
 have:=jJ8 hg (args.map a.eval ++ vs.toArray) w
 simp only [execOp,ho,resolve,hf,Deferred.ofValue]
 rw [e]
 simpa [invoke] using this
theorem op_enterB {o:Oper} {f:Operand} {args:Array Operand} {ats:Array TypeId} {g:FuncId} {vs:List Value} (ho:o.op = .call { callee:=.value f,args,argTypes:=ats }) (hf:a.eval f = .func (.func g) vs.toArray #[]) (hg:jZh C g = true) :
 (execOp a.eval o).run C.P w = .ok (.enter g (vs ++ args.toList.map a.eval).toArray) w:=by
 have e:(vs ++ args.toList.map a.eval).toArray = vs.toArray ++ args.map a.eval ++ #[]:=by
  apply Array.ext'
  simp
 have:=jJ8 hg (vs.toArray ++ args.map a.eval) w
 simp only [execOp,ho,resolve,hf,Deferred.ofValue]
 rw [e]
 simpa [invoke] using this
theorem op_yield {o:Oper} {f:Operand} {args:Array Operand} {ats:Array TypeId} {l:Nat} {r:Loop} (ho:o.op = .call { callee:=.value f,args,argTypes:=ats }) (hf:a.eval f = yldV l)
 (hh:w.heap[l]? = some (.loop r)) (hn:(args.toList.map a.eval).length = r.params.size) :
 (execOp a.eval o).run C.P w = .ok (.round l r.fn ((r.params.zip (args.toList.map a.eval).toArray).foldl (fun tmps (t,a)=>tmps.setIfInBounds t a) r.tmps) r.assign r.body) w:=by
 have e:(args.toList.map a.eval).toArray = #[] ++ args.map a.eval ++ #[]:=by
  apply Array.ext'
  simp
 have hs:(#[] ++ args.map a.eval ++ #[]).size = r.params.size:=by simpa using hn
 rw [e]
 simp only [execOp,ho,resolve,hf,Deferred.ofValue,yldV]
 have:=run_yield (P:=C.P) hh hs
 simpa [invoke] using this
theorem jJ1 {p:Option Prop} {q:Prop} (h:needs p q):(∀ p',p = some p' → p') ∧ q:=by
 cases p with
 | none=>exact ⟨fun _ e=>by simp at e,h⟩
 | some p=>exact ⟨fun p' e=>Option.some.inj e ▸ h.1,h.2⟩
theorem run_nilCmp {xt e:TypeId} (hu:C.P.underlying xt = some (.slice e)) (x y:Operand) (ad:Option Addr) (l c:Nat) :
 (do eqGuard .eql xt x y (.slice ad l c) (.slice none 0 0); binOp .eql xt (.slice ad l c) (.slice none 0 0):Sem Value).run C.P w = .ok (.bool ad.isNone) w ∧
 (do eqGuard .neq xt x y (.slice ad l c) (.slice none 0 0); binOp .neq xt (.slice ad l c) (.slice none 0 0):Sem Value).run C.P w = .ok (.bool (!ad.isNone)) w:=by
 constructor <;> simp [eqGuard,binOp,run_equal_slice_nil w xt e ad l c hu]
theorem nilCmp_sound {o:Oper} {s:St} {k:St → Prop} (hk:anilCmp C o s k) (hE:Ext B Ψ0 Ψ) (hi:InvH C.P B w0 Ψ β s.heap w) (hf:RelF Ψ β (s.top :: s.below) (a :: As))
 (hS:Same Ψ0 W a0 a) (hW:∀ t,o.dst = some t → t ∈ W):∃ v,(execOp a.eval o).run C.P w = .ok (.value v) w ∧ PostC C B w0 Ψ0 As W a0 k (a.put o.dst v) w:=by
 have hfr:=jQk hf
 obtain ⟨dst,op,ty,pos,after,guard⟩:=o
 unfold anilCmp at hk
 simp only at hk hW
 split at hk
 ·rename_i op xt x y yt
  split at hk
  ·rename_i tid he hy
   have hyv:a.eval y = .slice none 0 0:=by
    have:=jXs hfr y
    rw [hy] at this
    exact this
   split at hk
   ·rename_i e xs hl
    obtain ⟨ad,cap,hxv,_,_,h3⟩:=jKv hi (jXs hfr x) hl
    obtain ⟨r1,r2⟩:=run_nilCmp (C:=C) (w:=w) (jQ6 he) x y ad xs.length cap
    have hnil:ad.isNone = true → xs = []:=by
     intro h
     rcases h3 with h3 | ⟨_,g,off,_,rfl,_⟩
     ·exact h3
     ·cases h
    split at hk
    ·refine ⟨.bool ad.isNone,?_,Ψ,β,_,hE,by rw [jXb]; exact hi,jQ8 hf (jJd.2 rfl),hS.put hW,hk ad.isNone hnil⟩
     simp only [execOp,hxv,hyv]
     rw [jXf r1]
    ·refine ⟨.bool (!ad.isNone),?_,Ψ,β,_,hE,by rw [jXb]; exact hi,jQ8 hf (jJd.2 rfl),hS.put hW,hk ad.isNone hnil⟩
     simp only [execOp,hxv,hyv]
     rw [jXf r2]
    ·exact hk.elim
   ·exact hk.elim
  ·exact hk.elim
 ·exact hk.elim
theorem lookup_sound {o:Oper} {s:St} {k:St → Prop} (hk:alookup C o s k) (hE:Ext B Ψ0 Ψ) (hi:InvH C.P B w0 Ψ β s.heap w) (hf:RelF Ψ β (s.top :: s.below) (a :: As))
 (hS:Same Ψ0 W a0 a) (hW:∀ t,o.dst = some t → t ∈ W):∃ v,(execOp a.eval o).run C.P w = .ok (.value v) w ∧ PostC C B w0 Ψ0 As W a0 k (a.put o.dst v) w:=by
 have hfr:=jQk hf
 obtain ⟨dst,op,ty,pos,after,guard⟩:=o
 unfold alookup at hk
 simp only at hk hW
 split at hk
 ·rename_i t m i ok
  split at hk
  ·exact hk.elim
  ·rename_i b et him
   split at hk
   ·rename_i j x z hj hx hz
    split at hk
    ·rename_i es hg
     obtain ⟨kt,hu,hku⟩:=keyMap_spec him
     have hm:=jXs hfr m
     rw [hj] at hm
     obtain ⟨g,ms,cl,hmv,hβ,hh,hB,hes,hrs,hok⟩:=kmap_at hi hg hm
     obtain ⟨hiv,hxo,hxt⟩:=keyOf_rel hx (jXs hfr i)
     rw [← hxt] at hku
     obtain ⟨r,hfind,hr⟩:=(findNow_k hxo es ms.toList 0 hes hrs hok).2 _ _ _ hk
     obtain ⟨ti,zv,hti,htz,rfl⟩:=jX5 hz
     have hck:∀ e n,(Instr.checkKey e (n + 1) kt x.v).run C.P w = .ok () w:=fun e n=>run_checkKey hku (k:=x.v) (by cases x <;> exact (by first | rfl | trivial)) e n
     have fin:∀ (vv:Value) (v:AV) (is:Bool),RelV Ψ β v vv → k (s.put dst (pairV ok v is)) → (execOp a.eval { dst:=dst,op:=.lookup t m i ok,type:=ty,pos:=pos,after:=after,guard:=guard }).run C.P w = .ok (.value (if ok then .tuple #[vv,.bool is] else vv)) w →
      ∃ v,(execOp a.eval { dst:=dst,op:=.lookup t m i ok,type:=ty,pos:=pos,after:=after,guard:=guard }).run C.P w = .ok (.value v) w ∧ PostC C B w0 Ψ0 As W a0 k (a.put dst v) w:=fun vv v is hv hk hrun=>by
      refine ⟨_,hrun,Ψ,β,_,hE,by rw [jXb]; exact hi,jQ8 (av:=pairV ok v is) hf ?_,hS.put hW,hk⟩
      cases ok with
      | false=>exact hv
      | true=>exact ⟨[vv,.bool is],rfl,vv,_,rfl,hv,.bool is,[],rfl,by cases is <;> rfl,rfl⟩
     cases r with
     | none =>
      refine fin zv _ false (jZ4 zv) hr ?_
      cases ok <;> simp [execOp,Instr.lookup,hmv,hiv,run_underlying hu,MapKept.run_getObj_map hh,hck,run_findKey hku hfind,zeroValue,typeInfo,hti,htz,Result.andThen]
     | some p =>
      obtain ⟨i0,v⟩:=p
      obtain ⟨av,hav,hkf⟩:=hr
      refine fin v av true hav hkf ?_
      cases ok <;> simp [execOp,Instr.lookup,hmv,hiv,run_underlying hu,MapKept.run_getObj_map hh,hck,run_findKey hku hfind,Result.andThen]
    ·exact hk.elim
   ·exact hk.elim
 ·exact hk.elim
theorem encE_inj {x y:MapEntry} (h:encE x = encE y):x = y:=by
 obtain ⟨k,v,b⟩:=x
 obtain ⟨k',v',b'⟩:=y
 simp only [encE,Value.agg.injEq,Array.mk.injEq,List.cons.injEq,Value.int.injEq,and_true,true_and] at h
 obtain ⟨rfl,rfl,hb⟩:=h
 have:b = b':=by omega
 rw [this]
theorem encM_inj {ms ms':Array MapEntry} {cl cl':Nat} (h:encM ms cl = encM ms' cl'):ms = ms' ∧ cl = cl':=by
 simp only [encM,Value.tuple.injEq,Array.mk.injEq,List.cons.injEq,Value.agg.injEq,Value.int.injEq,and_true,true_and] at h
 obtain ⟨h1,h2⟩:=h
 refine ⟨?_,by omega⟩
 have h3:=congrArg Array.toList h1
 rw [Array.toList_map,Array.toList_map] at h3
 exact Array.toList_inj.1 ((List.map_inj_right fun x y=>encE_inj).1 h3)
theorem mapR_len {e:Ty}:∀ {m:List (Int × e.den)} {l:List MapEntry},mapR Ψ e m l → m.length = l.length
 | [],l,h=>by
  have h:l = []:=h
  subst h
  rfl
 | _ :: _,_,⟨_,l',rfl,_,_,_,h⟩=>by simp [mapR_len h]
theorem mapR_get {e:Ty}:∀ {m:List (Int × e.den)} {l:List MapEntry} {i:Nat} {x:MapEntry},mapR Ψ e m l → l[i]? = some x →
 i < m.length ∧ x.key = .int .i64 (m.getD i (0,dflt e)).1 ∧ IntKind.i64.has (m.getD i (0,dflt e)).1 ∧ rv Ψ e (m.getD i (0,dflt e)).2 x.val ∧ mapR Ψ e (m.eraseIdx i) (l.eraseIdx i)
 | [],l,i,x,h,hx=>by
  have h:l = []:=h
  subst h
  simp at hx
 | p :: m,_,0,x,⟨u,l,rfl,h1,h2,h3,h4⟩,hx=>by
  simp only [List.getElem?_cons_zero,Option.some.injEq] at hx
  subst hx
  exact ⟨by simp,h1,h2,h3,h4⟩
 | p :: m,_,i + 1,x,⟨u,l,rfl,h1,h2,h3,h4⟩,hx=>by
  obtain ⟨g1,g2,g3,g4,g5⟩:=mapR_get h4 (by simpa using hx)
  exact ⟨by simpa using g1,by simpa using g2,by simpa using g3,by simpa using g4,u,_,rfl,h1,h2,h3,g5⟩
theorem erase_born:∀ {l:List MapEntry} {i:Nat} {x:MapEntry},(l.map (·.born)).Nodup → l[i]? = some x → l.filter (fun e=>!(e.born == x.born)) = l.eraseIdx i
 | [],_,_,_,hx=>by simp at hx
 | a :: l,0,x,hn,hx=>by
  simp only [List.getElem?_cons_zero,Option.some.injEq] at hx
  subst hx
  simp only [List.map_cons,List.nodup_cons] at hn
  rw [List.filter_cons_of_neg (by simp),List.eraseIdx_cons_zero]
  refine List.filter_eq_self.2 fun y hy=>?_
  have:y.born ≠ a.born:=fun e=>hn.1 (by rw [← e]; exact List.mem_map.2 ⟨y,hy,rfl⟩)
  simpa using this
 | a :: l,i + 1,x,hn,hx=>by
  simp only [List.map_cons,List.nodup_cons] at hn
  have hx:l[i]? = some x:=by simpa using hx
  have hm:x ∈ l:=List.mem_of_getElem? hx
  have:a.born ≠ x.born:=fun e=>hn.1 (by rw [e]; exact List.mem_map.2 ⟨x,hm,rfl⟩)
  rw [List.filter_cons_of_pos (by simpa using this),List.eraseIdx_cons_succ,erase_born hn.2 hx]
theorem left_push {es:List MapEntry} {seen:Array Nat} {i:Nat} {x:MapEntry} (hn:(es.map (·.born)).Nodup) (hx:(leftL es seen)[i]? = some x):leftL es (seen.push x.born) = (leftL es seen).eraseIdx i:=by
 have h1:((leftL es seen).map (·.born)).Nodup:=(List.Sublist.map _ List.filter_sublist).nodup hn
 rw [← erase_born h1 hx]
 unfold leftL
 rw [List.filter_filter]
 refine List.filter_congr fun y _=>?_
 rw [Bool.eq_iff_iff]
 simp only [Bool.not_eq_true',Bool.and_eq_true,← Bool.not_eq_true,Array.contains_iff_mem,Array.mem_push,beq_iff_eq,not_or]
 exact ⟨fun h=>⟨h.2,h.1⟩,fun h=>⟨h.2,h.1⟩⟩
theorem left_array (es:Array MapEntry) (seen:Array Nat):(leftOf es seen).toList = leftL es.toList seen:=by
 unfold leftOf leftL
 rw [Array.toList_filter]
theorem BlkR_more {P:Program} {Ψ':Pr} (hle:PLe Ψ Ψ') {k:Nat} {b:Blk} (h:BlkR P B Ψ β w k b):BlkR P B Ψ' β w k b:=by
 cases b with
 | gone=>trivial
 | log ys Y own xs=>exact jJl h (fun _ h=>h) hle.m (Nat.le_refl _) fun _ _=>rfl
 | lof ys Y own=>exact jJm h (fun _ h=>h) hle.m (Nat.le_refl _) fun _ _=>rfl
 | cells cs =>
  obtain ⟨g,c,e,h1,h2,h3,h4,h5⟩:=h
  exact ⟨g,c,e,h1,h2,h3,jQl hle (fun _ _ h=>h) _ _ h4,h5⟩
 | grow tid e xs =>
  refine h.imp id ?_
  rintro ⟨g,cap,cur,h1,h2,h3,h4,h5,h6,h7,h8⟩
  exact ⟨g,cap,cur,h1,h2,h3,h4,h5,h6,h7,jX3 (jQg hle e) _ _ h8⟩
 | kmap es =>
  obtain ⟨g,ms,cl,h1,h2,h3,h4,h5,h6⟩:=h
  exact ⟨g,ms,cl,h1,h2,h3,h4,jQl hle (fun _ _ h=>h) _ _ h5,h6⟩
 | dmap e m =>
  obtain ⟨g,ms,cl,h1,h2,h3,h4,h5⟩:=h
  exact ⟨g,ms,cl,h1,h2,h3,jZj hle h4,h5⟩
 | diter e last left =>
  obtain ⟨g,gm,ms,cl,seen,h1,h2,h3,h4,h5,h6⟩:=h
  exact ⟨g,gm,ms,cl,seen,h1,h2,h3,hle _ _ h4,jZj hle h5,h6.1,h6.2.1,h6.2.2.imp id fun ⟨p,x,s',a1,a2,a3,a4,a5,a6⟩=>⟨p,x,s',a1,a2,a3,a4,a5,rv_le hle a6⟩⟩
 | loop f p ph ts =>
  obtain ⟨l,r,h1,h2,h3,h4,h5,h6,h7,h8⟩:=h
  exact ⟨l,r,h1,h2,h3,h4,jQl hle (fun _ _ h=>h) _ _ h5,hle _ _ h6,fun i v hv=>hle _ _ (h7 i v hv),h8⟩
 | dat t x =>
  obtain ⟨g,c,e,h1,h2,h3,h4⟩:=h
  exact ⟨g,c,e,h1,h2,h3,jQg hle t x _ h4⟩
 | siter n rest=>exact h
def giveM (Ψ:Pr) (gm:Nat) (v:Value):Pr:=fun ad=>if ad = mAddr gm then some v else Ψ ad
theorem InvH.giveMap {j gm cl:Nat} {ms:Array MapEntry} {e:Ty} {m:List (Int × e.den)} (hi:InvH C.P B w0 Ψ β h w) (hj:h[j]? = some (.dmap e m)) (hβ:β[j]? = some (.map (some gm))) (hm:w.heap[gm]? = some (.map ms cl)) (hB:¬ B gm) :
 PLe Ψ (giveM Ψ gm (encM ms cl)) ∧ InvH C.P B w0 (giveM Ψ gm (encM ms cl)) β (h.set j .gone) w:=by
 have hno:Ψ (mAddr gm) = none:=hi.free j _ gm hj hβ (mAddr gm) rfl (.inr (.inl rfl))
 have hle:PLe Ψ (giveM Ψ gm (encM ms cl)):=fun ad v hv=>by
  unfold giveM
  split
  ·rename_i e'; rw [e',hno] at hv; cases hv
  ·exact hv
 have at_:∀ {k:Nat} {b:Blk},(h.set j .gone)[k]? = some b → (b = .gone) ∨ (k ≠ j ∧ h[k]? = some b):=fun {k b} hk=>by
  by_cases hkj:k = j
  ·subst hkj
   rw [List.getElem?_set_self (jKl hj)] at hk
   simp at hk
   exact .inl hk.symm
  ·rw [List.getElem?_set_ne (Ne.symm hkj)] at hk
   exact .inr ⟨hkj,hk⟩
 refine ⟨hle,hi.low,hi.size,fun ad v hv=>?_,fun ad v hv hs=>?_,by simp [hi.len],hi.one,fun k b hk=>?_,fun k b g hk hc ad had hsp=>?_,fun i k bi bk g hik hbi hbk hci hck=>?_,hi.glob.le hle⟩
 ·unfold giveM at hv
  split at hv
  ·rename_i e'
   simp only [Option.some.injEq] at hv
   subst e' hv
   exact ⟨ms,cl,hm,rfl⟩
  ·exact hi.prom ad v hv
 ·unfold giveM at hv
  split at hv
  ·rename_i e'; subst e'; exact hB
  ·exact hi.own ad v hv hs
 ·rcases at_ hk with rfl | ⟨_,h1⟩
  ·trivial
  ·exact BlkR_more hle (hi.blk k b h1)
 ·rcases at_ hk with rfl | ⟨hkj,h1⟩
  ·exact hc.elim
  ·unfold giveM
   split
   ·rename_i e'
    subst e'
    have hg:gm = g:=had
    subst hg
    exact (hi.sep k j _ _ gm hkj h1 hj hc hβ).elim
   ·exact hi.free k b g h1 hc ad had hsp
 ·rcases at_ hbi with rfl | ⟨_,h1⟩
  ·exact hci.elim
  ·rcases at_ hbk with rfl | ⟨_,h2⟩
   ·exact hck.elim
   ·exact hi.sep i k bi bk g hik h1 h2 hci hck
theorem diter_at {j:Nat} {e:Ty} {last left:List (Int × e.den)} {v:Value} (hi:InvH C.P B w0 Ψ β h w) (hg:hget h j = .diter e last left) (hv:RelV Ψ β (.own j 0) v) :
 ∃ g gm ms cl seen,v = .pointer (some ⟨g,0,none⟩) ∧ β[j]? = some (.pointer (some ⟨g,0,none⟩)) ∧ w.heap[g]? = some (.mapIter (some gm) cl seen cl) ∧ ¬ B g ∧ Ψ (mAddr gm) = some (encM ms cl) ∧ w.heap[gm]? = some (.map ms cl) ∧ mapR Ψ e left (leftL ms.toList seen) ∧
  (ms.toList.map (·.born)).Nodup ∧ (∀ x ∈ ms.toList,x.born < cl) ∧ (last = [] ∨ ∃ (p:Int × e.den) (x:MapEntry) (seen':Array Nat),last = [p] ∧ seen = seen'.push x.born ∧ x ∈ ms.toList ∧ x.key = .int .i64 p.1 ∧ IntKind.i64.has p.1 ∧ rv Ψ e p.2 x.val):=by
 obtain ⟨g,gm,ms,cl,seen,h1,h2,h3,h4,h5⟩:=hi.blk j _ (jQc hg (by simp))
 obtain ⟨g',hv1,hv2⟩:=hv
 rw [h1] at hv1
 simp only [Option.some.injEq,Value.pointer.injEq,Addr.mk.injEq,and_true] at hv1
 subst hv1
 obtain ⟨ms',cl',hm1,hm2⟩:=hi.prom _ _ h4
 obtain ⟨rfl,rfl⟩:=encM_inj hm2
 exact ⟨g,gm,ms,cl,seen,hv2,h1,h2,h3,h4,hm1,h5⟩
theorem decode_spec (s:ByteArray) (i:Nat) (hi:i < s.size) :
 ((s.get! i).toNat < 128 → Utf8.decode s i = ((s.get! i).toNat,1)) ∧ (128 ≤ (s.get! i).toNat → 128 ≤ (Utf8.decode s i).1) ∧ 1 ≤ (Utf8.decode s i).2 ∧ (Utf8.decode s i).1 ≤ 1114111 ∧ i + (Utf8.decode s i).2 ≤ s.size:=by
 have hb:=(s.get! i).toNat_lt
 have h1:=(s.get! (i + 1)).toNat_lt
 have h2:=(s.get! (i + 2)).toNat_lt
 have h3:=(s.get! (i + 3)).toNat_lt
 have e0:(Utf8.runeError:Nat) = 65533:=rfl
 unfold Utf8.decode
 rw [e0]
 dsimp only [Nat.add_zero]
 by_cases c0:(s.get! i).toNat < 128
 ·rw [if_pos c0]
  exact ⟨fun _=>rfl,fun h=>by omega,Nat.le_refl _,by dsimp only; omega,by dsimp only; omega⟩
 rw [if_neg c0]
 have fin:∀ (x n:Nat),128 ≤ x → x ≤ 1114111 → 1 ≤ n → i + n ≤ s.size → ((s.get! i).toNat < 128 → (x,n) = ((s.get! i).toNat,1)) ∧ (128 ≤ (s.get! i).toNat → 128 ≤ (x,n).1) ∧ 1 ≤ (x,n).2 ∧ (x,n).1 ≤ 1114111 ∧ i + (x,n).2 ≤ s.size:=fun x n h1 h2 h3 h4=>⟨fun h=>absurd h c0,fun _=>h1,h3,h2,h4⟩
 split
 ·rename_i hc
  simp only [Bool.and_eq_true,beq_iff_eq,decide_eq_true_eq] at hc
  split
  ·exact fin _ _ (by omega) (by omega) (by omega) (by omega)
  ·exact fin _ _ (by omega) (by omega) (by omega) (by omega)
 ·split
  ·rename_i hc
   simp only [Bool.and_eq_true,beq_iff_eq,decide_eq_true_eq] at hc
   split
   ·rename_i hd
    simp only [Bool.and_eq_true,decide_eq_true_eq] at hd
    exact fin _ _ (by omega) (by omega) (by omega) (by omega)
   ·exact fin _ _ (by omega) (by omega) (by omega) (by omega)
  ·split
   ·rename_i hc
    simp only [Bool.and_eq_true,beq_iff_eq,decide_eq_true_eq] at hc
    split
    ·rename_i hd
     simp only [Bool.and_eq_true,decide_eq_true_eq,Utf8.valid,Bool.or_eq_true] at hd
     exact fin _ _ (by omega) (by omega) (by omega) (by omega)
    ·exact fin _ _ (by omega) (by omega) (by omega) (by omega)
   ·exact fin _ _ (by omega) (by omega) (by omega) (by omega)
theorem siter_at {j:Nat} {n:Int} {rest:List Int} {v:Value} (hi:InvH C.P B w0 Ψ β h w) (hg:hget h j = .siter n rest) (hv:RelV Ψ β (.own j 0) v) :
 ∃ g s pos,v = .pointer (some ⟨g,0,none⟩) ∧ β[j]? = some (.pointer (some ⟨g,0,none⟩)) ∧ w.heap[g]? = some (.stringIter s pos) ∧ ¬ B g ∧ n = (pos:Int) ∧ pos ≤ s.size ∧ s.size ≤ maxLen ∧ rest = (bytesOf s).drop pos:=by
 obtain ⟨g,s,pos,h1,h2,h3,h4⟩:=hi.blk j _ (jQc hg (by simp))
 obtain ⟨g',hv1,hv2⟩:=hv
 rw [h1] at hv1
 simp only [Option.some.injEq,Value.pointer.injEq,Addr.mk.injEq,and_true] at hv1
 subst hv1
 exact ⟨g,s,pos,hv2,h1,h2,h3,h4⟩
theorem bytes_drop {s:ByteArray} {pos:Nat} (h:pos < s.size):(bytesOf s).drop pos = ((s.get! pos).toNat:Int) :: (bytesOf s).drop (pos + 1):=by
 have hl:pos < (bytesOf s).length:=by rw [jK8]; exact h
 rw [List.drop_eq_getElem_cons hl]
 congr 1
 have h':pos < s.data.size:=h
 have h2:s.get! pos = s.data[pos]:=by
  show s.data[pos]! = _
  exact getElem!_pos s.data pos h'
 rw [h2]
 simp [bytesOf]
theorem run_next_str {g:Nat} {s:ByteArray} {pos:Nat} {ty:TypeId} (hh:w.heap[g]? = some (.stringIter s pos)) :
 (Instr.next (.pointer (some ⟨g,0,none⟩)) true ty).run C.P w = if pos < s.size then .ok (.tuple #[.bool true,goInt pos,.int .i32 ((Utf8.decode s pos).1:Nat)]) (ChangeMaps.setBlock w g (.stringIter s (pos + (Utf8.decode s pos).2))) else .ok (.tuple #[.bool false]) w:=by
 simp only [Instr.next,getObj,Sem.run_bind,Sem.run,hh,Result.andThen]
 split
 ·simp [setObj,Sem.run,hh,ChangeMaps.setBlock,Result.andThen]
 ·simp [Sem.run]
theorem arange_sound {o:Oper} {s:St} {k:St → Prop} (hk:arange C o s k) (hE:Ext B Ψ0 Ψ) (hi:InvH C.P B w0 Ψ β s.heap w) (hf:RelF Ψ β (s.top :: s.below) (a :: As))
 (hS:Same Ψ0 W a0 a) (hW:∀ t,o.dst = some t → t ∈ W):∃ v w',(execOp a.eval o).run C.P w = .ok (.value v) w' ∧ PostC C B w0 Ψ0 As W a0 k (a.put o.dst v) w':=by
 have hfr:=jQk hf
 obtain ⟨dst,op,ty,pos,after,guard⟩:=o
 unfold arange at hk
 simp only at hk hW
 split at hk
 ·rename_i t m
  split at hk
  ·rename_i et j him hmj
   split at hk
   ·rename_i e mm hg
    have hm:=jXs hfr m
    rw [hmj] at hm
    obtain ⟨kt,hu,hku⟩:=intMap_spec him
    obtain ⟨gm,ms,cl,hmv,hβ,hh,hB,hmr,hnd,hbn,hbc⟩:=dmap_at hi hg hm
    obtain ⟨hle,hi1⟩:=hi.giveMap (jQc hg (by simp)) hβ hh hB
    have hE1:Ext B Ψ (giveM Ψ gm (encM ms cl)):=⟨hle,fun ad v hv=>by
     unfold giveM at hv
     split at hv
     ·rename_i e'; subst e'; exact .inr hB
     ·exact .inl hv⟩
    have hn:(β ++ [Value.pointer (some ⟨w.heap.size,0,none⟩)])[(s.heap.set j .gone).length]? = some (.pointer (some ⟨w.heap.size,0,none⟩)):=by rw [List.length_set,← hi.len]; simp
    have hi2:=hi1.push (w':=w.alloc (.mapIter (some gm) cl #[] cl)) (b:=Blk.diter e [] mm) (u:=.pointer (some ⟨w.heap.size,0,none⟩)) ((Below.refl _ _).alloc (Nat.le_refl _) _) rfl
     ⟨w.heap.size,gm,ms,cl,#[],hn,heap_alloc_new w _,jZ3 hi.size,by unfold giveM; rw [if_pos rfl],by
       have e0:leftL ms.toList #[] = ms.toList:=List.filter_eq_self.2 fun x _=>by simp
       rw [e0]
       exact jZj hle hmr,hbn,hbc,.inl rfl⟩ (fun g hc=>by
       simp only [jQb] at hc
       rw [hn] at hc
       simp at hc
       omega)
    refine ⟨.pointer (some ⟨w.heap.size,0,none⟩),w.alloc (.mapIter (some gm) cl #[] cl),?_,giveM Ψ gm (encM ms cl),β ++ [.pointer (some ⟨w.heap.size,0,none⟩)],({ s with heap:=hset s.heap j .gone ++ [Blk.diter e [] mm] }:St).put dst (.own (hlen s.heap) 0),hE.trans hE1,?_,jQ8 (jQq hle (jQh _) _ _ hf) (av:=.own (hlen s.heap) 0) ?_,hS.put hW,hk⟩
    ·simp only [execOp,hmv]
     rw [jXf (run_range_map w t kt et gm ms cl hu hh)]
    ·rw [jXb]
     simp only [jQp]
     exact hi2
    ·refine ⟨w.heap.size,?_,rfl⟩
     rw [jQ1,← hi.len]
     simp
   ·exact hk.elim
  ·rename_i l him hml
   split at hk
   ·rename_i hu
    have hm:=jXs hfr m
    rw [hml] at hm
    obtain ⟨hmv,hl,hl'⟩:=jZt.1 hm
    have hn:(β ++ [Value.pointer (some ⟨w.heap.size,0,none⟩)])[s.heap.length]? = some (.pointer (some ⟨w.heap.size,0,none⟩)):=by rw [← hi.len]; simp
    have hi2:=hi.push (w':=w.alloc (.stringIter (strOf l) 0)) (b:=Blk.siter 0 l) (u:=.pointer (some ⟨w.heap.size,0,none⟩)) ((Below.refl _ _).alloc (Nat.le_refl _) _) rfl
     ⟨w.heap.size,strOf l,0,hn,heap_alloc_new w _,jZ3 hi.size,rfl,Nat.zero_le _,by rw [jXg]; exact hl',(strOf_inj (bytesOf_bd _) hl (strOf_bytesOf _)).symm⟩ (fun g hc=>by
       simp only [jQb] at hc
       rw [hn] at hc
       simp at hc
       omega)
    refine ⟨.pointer (some ⟨w.heap.size,0,none⟩),w.alloc (.stringIter (strOf l) 0),?_,Ψ,β ++ [.pointer (some ⟨w.heap.size,0,none⟩)],({ s with heap:=s.heap ++ [Blk.siter 0 l] }:St).put dst (.own (hlen s.heap) 0),hE,?_,jQ8 (jQq (PLe.refl _) (jQh _) _ _ hf) (av:=.own (hlen s.heap) 0) ?_,hS.put hW,hk⟩
    ·simp only [execOp,hmv]
     rw [jXf (v:=.pointer (some ⟨w.heap.size,0,none⟩)) (w':=w.alloc (.stringIter (strOf l) 0))]
     simp [Instr.range,run_underlying hu]
    ·rw [jXb]
     exact hi2
    ·refine ⟨w.heap.size,?_,rfl⟩
     rw [jQ1,← hi.len]
     simp
   ·exact hk.elim
  ·exact hk.elim
 ·rename_i it
  split at hk
  ·rename_i j hit
   split at hk
   ·rename_i n rest hg
    have hm:=jXs hfr it
    rw [hit] at hm
    obtain ⟨g,str,pos,hv,hβ,hh,hB,hn,hps,hsz,hrest⟩:=siter_at hi hg hm
    have hrun:=run_next_str (C:=C) (ty:=ty) hh
    have hlt:=jQm hh
    by_cases hp:pos < str.size
    ·rw [if_pos hp] at hrun
     obtain ⟨d1,d2,d3,d4,d5⟩:=decode_spec str pos hp
     generalize hr0:(Utf8.decode str pos).1 = r0 at *
     generalize hw0:(Utf8.decode str pos).2 = wd0 at *
     have hsetb:(ChangeMaps.setBlock w g (.stringIter str (pos + wd0))).heap[g]? = some (.stringIter str (pos + wd0)):=by
      show (w.heap.setIfInBounds g _)[g]? = _
      rw [Array.getElem?_setIfInBounds_self_of_lt hlt]
     have hoth:∀ i,i ≠ g → (ChangeMaps.setBlock w g (.stringIter str (pos + wd0))).heap[i]? = w.heap[i]?:=fun i hne=>by
      show (w.heap.setIfInBounds g _)[i]? = _
      rw [Array.getElem?_setIfInBounds_ne (Ne.symm hne)]
     have hi1:=hi.rewriteG (w':=ChangeMaps.setBlock w g (.stringIter str (pos + wd0))) (b':=Blk.siter (n + (wd0:Int)) (rest.drop (wd0:Int).toNat)) (jQc hg (by simp)) rfl (g:=g) hβ
      ⟨rfl,rfl,rfl,by
        show _ ≤ (w.heap.setIfInBounds g _).size
        rw [Array.size_setIfInBounds]
        exact Nat.le_refl _,fun i _ hne=>hoth i fun e=>hne (by rw [e])⟩ (fun g' h'=>h')
      ⟨g,str,pos + wd0,hβ,hsetb,hB,by omega,d5,hsz,by rw [hrest,List.drop_drop,Int.toNat_natCast]⟩
     have hbd:=(str.get! pos).toNat_lt
     have hk2:=hk.2 ((str.get! pos).toNat:Int) ((bytesOf str).drop (pos + 1)) (r0:Int) (wd0:Int) (by rw [hrest]; exact bytes_drop hp)
      (fun h=>by
        have h':=d1 (by omega)
        have e1:r0 = (str.get! pos).toNat:=by rw [← hr0,h']
        have e2:wd0 = 1:=by rw [← hw0,h']
        exact ⟨by omega,by omega⟩)
      (fun h=>⟨by have:=d2 (by omega); omega,by omega⟩)
      (by
        unfold IntKind.has
        simp [IntKind.min,IntKind.max,IntKind.bits,IntKind.signed]
        omega)
      (by rw [hrest,List.length_drop,jK8]; omega)
     refine ⟨.tuple #[.bool true,goInt pos,.int .i32 r0],ChangeMaps.setBlock w g (.stringIter str (pos + wd0)),?_,Ψ,β,({ s with heap:=hset s.heap j (Blk.siter (n + (wd0:Int)) (rest.drop (wd0:Int).toNat)) }:St).put dst (.tup [.tt,.d (.int .i64) n,.d (.int .i32) (r0:Int)]),hE,?_,jQ8 (av:=.tup [.tt,.d (.int .i64) n,.d (.int .i32) (r0:Int)]) hf ?_,hS.put hW,hk2⟩
     ·simp only [execOp,hv]
      rw [jXf hrun]
     ·rw [jXb]
      simp only [jQp]
      exact hi1
     ·refine ⟨[.bool true,goInt pos,.int .i32 r0],rfl,.bool true,_,rfl,rfl,goInt pos,_,rfl,?_,.int .i32 r0,_,rfl,jQj.2 ⟨rfl,?_⟩,rfl⟩
      ·refine jQj.2 ⟨by rw [hn]; rfl,?_⟩
       rw [jXr]
       unfold isI64
       simp only [maxLen] at hsz
       omega
      ·unfold IntKind.has
       simp [IntKind.min,IntKind.max,IntKind.bits,IntKind.signed]
       omega
    ·rw [if_neg hp] at hrun
     refine ⟨.tuple #[.bool false],w,?_,Ψ,β,_,hE,by rw [jXb]; exact hi,jQ8 (av:=.tup [.ff]) hf ⟨[.bool false],rfl,.bool false,[],rfl,rfl,rfl⟩,hS.put hW,hk.1 ?_⟩
     ·simp only [execOp,hv]
      rw [jXf hrun]
     ·rw [hrest]
      exact List.drop_of_length_le (by rw [jK8]; omega)
   ·exact hk.elim
  ·exact hk.elim
 ·rename_i it
  split at hk
  ·rename_i j hit
   split at hk
   ·rename_i e last left hg
    have hm:=jXs hfr it
    rw [hit] at hm
    obtain ⟨g,gm,ms,cl,seen,hv,hβ,hh,hB,hpr,hhm,hmr,hbn,hbc,_⟩:=diter_at hi hg hm
    have hlt:=jQm hh
    rcases run_next_at (P:=C.P) w ty g gm cl cl seen ms cl hh hhm hbc (Nat.le_refl _) with ⟨h0,hrun⟩ | ⟨x,hx,w1,hw1,hrun⟩
    ·refine ⟨.tuple #[.bool false],w,?_,Ψ,β,_,hE,by rw [jXb]; exact hi,jQ8 (av:=.tup [.ff]) hf ⟨[.bool false],rfl,.bool false,[],rfl,rfl,rfl⟩,hS.put hW,hk.1 ?_⟩
     ·simp only [execOp,hv]
      rw [jXf hrun]
     ·have h1:(leftL ms.toList seen).length = 0:=by rw [← left_array]; simpa using h0
      have:=mapR_len hmr
      exact List.length_eq_zero_iff.1 (by omega)
    ·rw [left_array] at hx
     obtain ⟨i,hil,hix⟩:=List.getElem_of_mem hx
     have hix:(leftL ms.toList seen)[i]? = some x:=by rw [List.getElem?_eq_getElem hil,hix]
     obtain ⟨g1,g2,g3,g4,g5⟩:=mapR_get hmr hix
     have hw1h:w1.heap = w.heap:=by rcases hw1 with rfl | rfl <;> rfl
     have hsetb:(ChangeMaps.setBlock w1 g (.mapIter (some gm) cl (seen.push x.born) cl)).heap[g]? = some (.mapIter (some gm) cl (seen.push x.born) cl):=by
      show (w1.heap.setIfInBounds g _)[g]? = _
      rw [hw1h,Array.getElem?_setIfInBounds_self_of_lt hlt]
     have hoth:∀ i,i ≠ g → (ChangeMaps.setBlock w1 g (.mapIter (some gm) cl (seen.push x.born) cl)).heap[i]? = w.heap[i]?:=fun i hne=>by
      show (w1.heap.setIfInBounds g _)[i]? = _
      rw [hw1h,Array.getElem?_setIfInBounds_ne (Ne.symm hne)]
     have hxm:x ∈ ms.toList:=(List.mem_filter.1 hx).1
     have hi1:=hi.rewriteG (w':=ChangeMaps.setBlock w1 g (.mapIter (some gm) cl (seen.push x.born) cl)) (b':=Blk.diter e [left.getD i (0,dflt e)] (left.eraseIdx i)) (jQc hg (by simp)) rfl (g:=g) hβ
      ⟨by rcases hw1 with rfl | rfl <;> rfl,by rcases hw1 with rfl | rfl <;> rfl,by rcases hw1 with rfl | rfl <;> rfl,by
        show _ ≤ (w1.heap.setIfInBounds g _).size
        rw [Array.size_setIfInBounds,hw1h]
        exact Nat.le_refl _,fun i _ hne=>hoth i fun e=>hne (by rw [e])⟩ (fun g' h'=>h')
      ⟨g,gm,ms,cl,seen.push x.born,hβ,hsetb,hB,hpr,by rw [left_push hbn hix]; exact g5,hbn,hbc,.inr ⟨_,x,seen,rfl,rfl,hxm,g2,g3,g4⟩⟩
     refine ⟨.tuple #[.bool true,x.key,x.val],ChangeMaps.setBlock w1 g (.mapIter (some gm) cl (seen.push x.born) cl),?_,Ψ,β,({ s with heap:=hset s.heap j (Blk.diter e [left.getD i (0,dflt e)] (left.eraseIdx i)) }:St).put dst (.tup [.tt,.d (.int .i64) (left.getD i (0,dflt e)).1,.d e (left.getD i (0,dflt e)).2]),hE,?_,jQ8 (av:=.tup [.tt,.d (.int .i64) (left.getD i (0,dflt e)).1,.d e (left.getD i (0,dflt e)).2]) hf ?_,hS.put hW,hk.2 i g1⟩
     ·simp only [execOp,hv]
      rw [jXf hrun]
     ·rw [jXb]
      simp only [jQp]
      exact hi1
     ·exact ⟨[.bool true,x.key,x.val],rfl,.bool true,_,rfl,rfl,x.key,_,rfl,by rw [g2]; exact jQj.2 ⟨rfl,g3⟩,x.val,_,rfl,g4,rfl⟩
   ·exact hk.elim
  ·exact hk.elim
 ·rename_i it
  split at hk
  ·rename_i j hit
   split at hk
   ·rename_i e p left hg
    have hm:=jXs hfr it
    rw [hit] at hm
    obtain ⟨g,gm,ms,cl,seen,hv,hβ,hh,hB,hpr,hhm,hmr,hbn,hbc,hla⟩:=diter_at hi hg hm
    rcases hla with hla | ⟨p',x,seen',hla,rfl,hxm,g2,g3,g4⟩
    ·cases hla
    ·simp only [List.cons.injEq,and_true] at hla
     subst hla
     refine ⟨.tuple #[x.key,x.val],w,?_,Ψ,β,_,hE,by rw [jXb]; exact hi,jQ8 (av:=.tup [.d (.int .i64) p.1,.d e p.2]) hf ⟨[x.key,x.val],rfl,x.key,_,rfl,by rw [g2]; exact jQj.2 ⟨rfl,g3⟩,x.val,_,rfl,g4,rfl⟩,hS.put hW,hk⟩
     simp only [execOp,hv]
     rw [jXf (run_entry_at w g gm cl seen' ms cl x hh hhm hxm hbn)]
   ·exact hk.elim
  ·exact hk.elim
 ·exact hk.elim
theorem jXd:∀ (ks:List Nat) {s:St} {Ψ:Pr},InvH C.P B w0 Ψ β s.heap w → RelF Ψ β (s.top :: s.below) As →
 ∃ Ψ',Ext B Ψ Ψ' ∧ InvH C.P B w0 Ψ' β (s.freezeAll ks).heap w ∧ RelF Ψ' β ((s.freezeAll ks).top :: (s.freezeAll ks).below) As ∧ Reading Ψ' β s.heap ks
 | [],s,Ψ,hi,hf=>⟨Ψ,Ext.refl _ _,hi,hf,Reading.nil⟩
 | k :: ks,s,Ψ,hi,hf=>by
  obtain ⟨Ψ1,hE1,hi1,hf1,hr1,hkeep⟩:=freeze_sound hi hf k
  obtain ⟨Ψ2,hE2,hi2,hf2,hr2⟩:=jXd ks hi1 hf1
  refine ⟨Ψ2,hE1.trans hE2,hi2,hf2,fun j hj tid e xs hg u hu=>?_⟩
  by_cases hjk:j = k
  ·exact rv_mono hE2.1 (hr1 j (by simp [hjk]) tid e xs hg u hu)
  ·rcases List.mem_cons.1 hj with h | h
   ·exact absurd h hjk
   ·exact hr2 j h tid e xs (hkeep j tid e xs hjk hg) u hu
theorem astep_sound {call:CallT} (hc:jXu C call) {o:Oper} {s:St} {k:St → Prop} (hk:astep C call o s k) (hE:Ext B Ψ0 Ψ) (hi:InvH C.P B w0 Ψ β s.heap w) (hf:RelF Ψ β (s.top :: s.below) (a :: As))
 (hS:Same Ψ0 W a0 a) (hW:∀ t,o.dst = some t → t ∈ W) {ro:Option Nat} {Q:Exit → Act → World → Prop} (hQP:∀ ch a w,PanP C B w0 Ψ0 ch w → DefQ W a0 a → Q (.panic ch) a w):o.wpIn (Fw ro) 0 C.P a w (PostC C B w0 Ψ0 As W a0 k) Q:=by
 have hfr:=jQk hf
 have hnd:∀ c,o.op ≠ .defer c:=fun c hc=>by
  unfold astep at hk
  rw [hc] at hk
  simp [aop,aext,anilCmp,isFrz,isLit,isClos,hc] at hk
 refine ⟨fun _ _=>trivial,?_⟩
 rw [Oper.semAt_eq _ _ _ hnd]
 unfold astep at hk
 split at hk
 ·unfold aclos at hk
  split at hk
  ·rename_i t len parts ho
   split at hk
   ·rename_i r hr
    obtain ⟨cs,us,tid,rfl,hrun,hrel,h1,hle⟩:=assl_run (C:=C) (a:=a) (fr:=s.top) (w:=w) (fun p _=>jXs hfr p.2) hr
    have hrun':(execOp a.eval o).run C.P w = .ok (.value (.slice (some ⟨w.heap.size,0,none⟩) len len)) (w.alloc (.cells us.toArray tid)):=by
     rw [execOp,ho]
     simp [hrun]
    rw [hrun']
    have hi':=alloc_own hi tid (c:=us.toArray) (cs:=cs) (by simpa using hrel) (by simpa using h1)
    refine ⟨Ψ,β ++ [.pointer (some ⟨w.heap.size,0,none⟩)],{ s with heap:=s.heap ++ [Blk.cells cs] }.put o.dst (.ssl (hlen s.heap) len),hE,?_,jQ8 (s:={ s with heap:=s.heap ++ [Blk.cells cs] }) (jQq (PLe.refl _) (jQh _) _ _ hf) ?_,hS.put hW,hk⟩
    ·rw [jXb]; exact hi'
    ·refine ⟨w.heap.size,?_,hle,rfl⟩
     rw [jQ1,← hi.len]; simp
   ·exact hk.elim
  ·exact hk.elim
 split at hk
 ·unfold alit at hk
  split at hk
  ·rename_i t len parts ho
   obtain ⟨Ψ1,hE1,hi1,hf1,_⟩:=jXd (refsA (evs s.top (jXz parts.toList))) hi hf
   replace hi1:InvH C.P B w0 Ψ1 β (litS s parts).heap w:=hi1
   replace hf1:RelF Ψ1 β ((litS s parts).top :: (litS s parts).below) (a :: As):=hf1
   replace hE:=hE.trans hE1
   have hfr1:=jQk hf1
   split at hk
   ·rename_i r tid hr he
    obtain ⟨e,xs,us,tid',rfl,he',hrun,h2,hxl,hus,hle⟩:=jJj (C:=C) (a:=a) (fr:=(litS s parts).top) hi1 (fun p _=>jXs hfr1 p.2) hr
    have e1:tid' = tid:=by rw [he'] at he; exact Option.some.inj he
    subst e1
    simp only at hk
    split at hk
    ·rename_i hl
     have hl:1 ≤ len:=Nat.le_of_ble_eq_true hl
     have hrun':(execOp a.eval o).run C.P w = .ok (.value (.slice (some ⟨w.heap.size,0,none⟩) len len)) (w.alloc (.cells us.toArray tid')):=by
      rw [execOp,ho]
      simp [hrun]
     rw [hrun']
     have hn:(β ++ [Value.slice (some ⟨w.heap.size,0,none⟩) len len])[(litS s parts).heap.length]? = some (.slice (some ⟨w.heap.size,0,none⟩) len len):=by
      rw [← hi1.len]; simp
     have hcl:∀ g,jQb (β ++ [Value.slice (some ⟨w.heap.size,0,none⟩) len len]) (litS s parts).heap.length g (.grow tid' e xs) → w.heap.size ≤ g:=by
      rintro g ⟨n,cap,_,hc⟩
      rw [hn] at hc
      simp at hc
      omega
     have hblk:BlkR C.P B Ψ1 (β ++ [Value.slice (some ⟨w.heap.size,0,none⟩) len len]) (w.alloc (.cells us.toArray tid')) (litS s parts).heap.length (.grow tid' e xs):=by
      refine .inr ⟨w.heap.size,len,us.toArray,by rw [hn,hxl],by omega,jZ3 hi1.size,heap_alloc_new w _,by omega,hle,by simp [hus],?_⟩
      rw [hxl,List.toList_toArray,List.take_of_length_le (by omega)]
      exact h2
     have hi':=hi1.push ((Below.refl _ _).alloc (Nat.le_refl _) _) rfl hblk hcl
     refine ⟨Ψ1,β ++ [Value.slice (some ⟨w.heap.size,0,none⟩) len len],{ litS s parts with heap:=(litS s parts).heap ++ [Blk.grow tid' e xs] }.put o.dst (.sl (hlen (litS s parts).heap)),hE,?_,jQ8 (s:={ litS s parts with heap:=(litS s parts).heap ++ [Blk.grow tid' e xs] }) (jQq (PLe.refl _) (jQh _) _ _ hf1) ?_,hS.put hW,hk⟩
     ·rw [jXb]; exact hi'
     ·refine ⟨?_,by simp [hole]⟩
      rw [jQ1]; exact hn
    ·exact hk.elim
   ·exact hk.elim
  ·exact hk.elim
 split at hk
 ·rename_i f args ats ho
  have hef:=jXs hfr f
  split at hk
  ·rename_i g cap hev
   split at hk
   ·rename_i hg
    rw [hev] at hef
    obtain ⟨vs,hfv,hcap⟩:=hef
    rw [op_enter ho hfv hg]
    have hargs:=jZg (Ψ:=Ψ) (β:=β) (fr:=s.top) (a:=a) args.toList fun x _=>jXs hfr x
    refine ⟨fun h=>(by cases ro <;> cases h),(jKu ro _ (hc.2 g _ s _ hk hg B w0 Ψ β (a :: As) _ w hi hf (jX4 _ _ _ _ hargs hcap))).mono ?_⟩
    rintro e w' (⟨v,Ψ',β',av,s',rfl,hE',hi',hf',hv,hk'⟩ | ⟨ch,rfl,hp⟩)
    ·exact ⟨Ψ',β',s'.put o.dst av,hE.trans hE',by rw [jXb]; exact hi',jQ8 hf' hv,hS.put hW,hk'⟩
    ·exact hQP ch a w' (hp.anti hE) hS.defs
   ·exact hk.elim
  ·rename_i j hev
   have hargs:=jZg (Ψ:=Ψ) (β:=β) (fr:=s.top) (a:=a) args.toList fun x _=>jXs hfr x
   obtain ⟨l,r,hβ,hh,hlen,hround⟩:=hc.1 j _ s _ hk B w0 Ψ β (a :: As) _ w hi hf hargs
   rw [hev] at hef
   obtain ⟨l',hβ',hfv⟩:=hef
   rw [hβ] at hβ'
   simp only [yldV,Option.some.injEq,Value.func.injEq,Fn.yield.injEq,and_true] at hβ'
   subst hβ'
   rw [op_yield ho hfv hh hlen]
   refine ⟨fun h=>(by cases ro <;> cases h),RoundIn.mono (F:=Fw ro) (n:=0) (by cases ro <;> exact hround) ?_⟩
   rintro e w' ⟨v,Ψ',β',av,s',rfl,hE',hi',hf',hv,hk'⟩
   exact ⟨Ψ',β',s'.put o.dst av,hE.trans hE',by rw [jXb]; exact hi',jQ8 hf' hv,hS.put hW,hk'⟩
  ·rename_i g first hev
   split at hk
   ·rename_i hg
    rw [hev] at hef
    obtain ⟨vs,hfv,hcap⟩:=hef
    rw [op_enterB ho hfv hg]
    have hargs:=jZg (Ψ:=Ψ) (β:=β) (fr:=s.top) (a:=a) args.toList fun x _=>jXs hfr x
    refine ⟨fun h=>(by cases ro <;> cases h),(jKu ro _ (hc.2 g _ s _ hk hg B w0 Ψ β (a :: As) _ w hi hf (jX4 _ _ _ _ hcap hargs))).mono ?_⟩
    rintro e w' (⟨v,Ψ',β',av,s',rfl,hE',hi',hf',hv,hk'⟩ | ⟨ch,rfl,hp⟩)
    ·exact ⟨Ψ',β',s'.put o.dst av,hE.trans hE',by rw [jXb]; exact hi',jQ8 hf' hv,hS.put hW,hk'⟩
    ·exact hQP ch a w' (hp.anti hE) hS.defs
   ·exact hk.elim
  ·exact hk.elim
 ·split at hk
  ·rename_i r hr
   obtain ⟨hp,hk'⟩:=jJ1 hk
   obtain ⟨n,v,Ψ',β',w',hrun,hn,hE',hi',hf',hv⟩:=op_sound hi hf (fun x _=>jXs hfr x) hr hp
   rw [hrun]
   have hpost:PostC C B w0 Ψ0 As W a0 k (a.put o.dst v) w':=by
    refine ⟨Ψ',β',(s.apply r).put o.dst r.v,hE.trans hE',?_,jQ8 ?_ hv,hS.put hW,hk'⟩
    ·rw [jXb]
     unfold St.apply
     cases hkl:r.kill with
     | none=>rw [hkl] at hi'; exact hi'
     | some j=>rw [hkl] at hi'; exact hi'
    ·unfold St.apply
     cases hkl:r.kill with
     | none=>rw [hkl] at hf'; exact hf'
     | some j=>rw [hkl] at hf'; exact hf'
   rcases hn with rfl | ⟨rfl,rfl⟩
   ·exact hpost
   ·exact hpost
  ·unfold aext at hk
   split at hk
   ·unfold afreeze at hk
    split at hk
    ·rename_i j hj
     split at hk
     ·rename_i r hr
      obtain ⟨hp,hk'⟩:=jJ1 hk
      obtain ⟨Ψ1,hE1,hi1,hf1,_,_⟩:=freeze_sound hi hf j
      obtain ⟨n,v,Ψ',β',w',hrun,hn,hE',hi',hf',hv⟩:=op_sound hi1 hf1 (fun x _=>jXs (jQk hf1) x) hr hp
      rw [hrun]
      have hpost:PostC C B w0 Ψ0 As W a0 k (a.put o.dst v) w':=by
       refine ⟨Ψ',β',((s.freeze j).apply r).put o.dst r.v,(hE.trans hE1).trans hE',?_,jQ8 ?_ hv,hS.put hW,hk'⟩
       ·rw [jXb]
        unfold St.apply
        cases hkl:r.kill with
        | none=>rw [hkl] at hi'; exact hi'
        | some j=>rw [hkl] at hi'; exact hi'
       ·unfold St.apply
        cases hkl:r.kill with
        | none=>rw [hkl] at hf'; exact hf'
        | some j=>rw [hkl] at hf'; exact hf'
      rcases hn with rfl | ⟨rfl,rfl⟩
      ·exact hpost
      ·exact hpost
     ·exact hk.elim
    ·exact hk.elim
   ·split at hk
    ·obtain ⟨v,hrun,hpost⟩:=lookup_sound hk hE hi hf hS hW
     rw [hrun]
     exact hpost
    ·obtain ⟨v,w',hrun,hpost⟩:=arange_sound hk hE hi hf hS hW
     rw [hrun]
     exact hpost
    ·obtain ⟨v,w',hrun,hpost⟩:=arange_sound hk hE hi hf hS hW
     rw [hrun]
     exact hpost
    ·obtain ⟨v,w',hrun,hpost⟩:=arange_sound hk hE hi hf hS hW
     rw [hrun]
     exact hpost
    ·obtain ⟨v,hrun,hpost⟩:=nilCmp_sound hk hE hi hf hS hW
     rw [hrun]
     exact hpost
theorem yielded_of {all:Array Oper} {j:Nat} {t:Tmp} (hg:guardTmp all j = some t) (tmps:Array Value):yielded all tmps j = (match tmps[t]? with | some (.bool b)=>some b | _=>none):=by
 unfold guardTmp at hg
 split at hg
 ·rename_i o ho
  simp [yielded,ho,hg]
  cases tmps[t]? with
  | none=>rfl
  | some x=>cases x <;> rfl
 ·cases hg
theorem jKm {t:Tmp} (tmps:Array Value):tmps.toList.getD t undef = (tmps[t]?).getD undef:=by
 simp [List.getD_eq_getElem?_getD]
theorem guard_bool {s:St} {t:Tmp} {b:Bool} (hfr:RelFr Ψ β s.top a) (hr:∀ v,RelV Ψ β (fget s.top t) v → v = .bool b):a.tmps[t]? = some (.bool b):=by
 have h1:=hr _ (jQ7 _ _ hfr.2 t)
 rw [jKm] at h1
 cases hx:a.tmps[t]? with
 | none=>rw [hx] at h1; simp [undef] at h1
 | some x=>rw [hx] at h1; simp at h1; rw [h1]
theorem put_some_rel {s:St} {t:Tmp} {av:AV} {v:Value} (hf:RelF Ψ β (s.top :: s.below) (a :: As)) (ht:a.tmps[t]? = some v) (hv:RelV Ψ β av v) :
 RelF Ψ β ((s.put (some t) av).top :: (s.put (some t) av).below) (a :: As):=by
 have:=jQ8 (d:=some t) hf hv
 have e:a.put (some t) v = a:=by
  simp only [Act.put]
  cases a with
  | mk tmps defers =>
   simp only [Act.mk.injEq,and_true]
   apply Array.ext'
   simp only [Array.toList_setIfInBounds]
   apply List.set_getElem?_self'
   simpa using ht
 rwa [e] at this
where
 List.set_getElem?_self' {l:List Value} {i:Nat} {v:Value} (h:l[i]? = some v):l.set i v = l:=by
  apply List.ext_getElem?
  intro j
  by_cases hj:i = j
  ·subst hj
   have hlt:i < l.length:=by
    rcases Nat.lt_or_ge i l.length with h' | h'
    ·exact h'
    ·rw [List.getElem?_eq_none h'] at h; cases h
   rw [List.getElem?_set_self hlt,h]
  ·rw [List.getElem?_set_ne hj]
theorem aops_tail {call:CallT} (hc:jXu C call) {m:Mode} {ro:Option Nat} (all:Array Oper) {Q:Exit → Act → World → Prop} (tl:List Oper):∀ (rest:List Oper) {s:St} {k:St → Prop} {Ψ:Pr} {β:List Value} {a:Act} {w:World},aops C call m all rest s k →
 Ext B Ψ0 Ψ → InvH C.P B w0 Ψ β s.heap w → RelF Ψ β (s.top :: s.below) (a :: As) → Same Ψ0 W a0 a → (∀ o ∈ rest,∀ t,o.dst = some t → t ∈ W) → (∀ a w,PostC C B w0 Ψ0 As W a0 k a w → wpListIn (Fw ro) 0 C.P all Q tl a w) → (∀ ch a w,PanP C B w0 Ψ0 ch w → DefQ W a0 a → Q (.panic ch) a w) → wpListIn (Fw ro) 0 C.P all Q (rest ++ tl) a w
 | [],s,k,Ψ,β,a,w,hk,hE,hi,hf,hS,hW,hQ,hQP=>hQ a w ⟨Ψ,β,s,hE,hi,hf,hS,hk⟩
 | o :: rest,s,k,Ψ,β,a,w,hk,hE,hi,hf,hS,hW,hQ,hQP=>by
  have hWo:=hW o (by simp)
  have hWr:∀ o ∈ rest,∀ t,o.dst = some t → t ∈ W:=fun o' ho'=>hW o' (by simp [ho'])
  have hfr:=jQk hf
  have run:∀ {s':St},astep C call o s' (fun s''=>aops C call m all rest s'' k) → s'.heap = s.heap → RelF Ψ β (s'.top :: s'.below) (a :: As) → o.wpIn (Fw ro) 0 C.P a w (wpListIn (Fw ro) 0 C.P all Q (rest ++ tl)) Q:=by
   intro s' hst hh hf'
   have hw:=astep_sound (Ψ0:=Ψ0) (W:=W) (a0:=a0) hc hst hE (by rw [hh]; exact hi) hf' hS hWo (ro:=ro) (Q:=Q) hQP
   refine Oper.wpIn_mono (fun a' w' hp=>?_) hw
   obtain ⟨Ψ',β',s'',hE',hi',hf'',hS',hk'⟩:=hp
   exact aops_tail hc all tl rest hk' hE' hi' hf'' hS' hWr hQ hQP
  have skip:∀ {s':St},aops C call m all rest (s'.put o.dst .und) k → s'.heap = s.heap → RelF Ψ β (s'.top :: s'.below) (a :: As) → (∀ f,o.about C.P w a.eval = some f → (Fw ro).fn f) ∧ wpListIn (Fw ro) 0 C.P all Q (rest ++ tl) (a.put o.dst undef) w:=by
   intro s' hst hh hf'
   exact ⟨fun _ _=>trivial,aops_tail hc all tl rest hst hE (by rw [jXb,hh]; exact hi) (jQ8 hf' rfl) (hS.put hWo) hWr hQ hQP⟩
  unfold aops at hk
  rw [List.cons_append]
  unfold wpListIn
  split at hk
  ·rename_i hgd
   rw [if_pos (by simp [Region.wanted,hgd])]
   exact run hk rfl hf
  ·rename_i j want hgd
   split at hk
   ·exact hk.elim
   ·rename_i t hgt
    have hwant:∀ b:Bool,a.tmps[t]? = some (.bool b) → Region.wanted o (yielded all a.tmps) = (b == want):=by
     intro b hb
     simp [Region.wanted,hgd,yielded_of hgt,hb]
    split at hk
    ·rename_i htt
     have hb:=guard_bool (t:=t) (b:=true) hfr (by rw [htt]; exact fun _ h=>h)
     split at hk
     ·rw [if_pos (by rw [hwant _ hb]; rfl)]; exact run hk rfl hf
     ·rw [if_neg (by rw [hwant _ hb]; simp)]; exact skip hk rfl hf
    ·rename_i hff
     have hb:=guard_bool (t:=t) (b:=false) hfr (by rw [hff]; exact fun _ h=>h)
     split at hk
     ·rw [if_pos (by rw [hwant _ hb]; rfl)]; exact run hk rfl hf
     ·rw [if_neg (by rw [hwant _ hb]; simp)]; exact skip hk rfl hf
    ·rename_i hu
     have hnw:Region.wanted o (yielded all a.tmps) = false:=by
      have h1:=jQ7 _ _ hfr.2 t
      rw [hu] at h1
      have h2:(a.tmps[t]?).getD undef = undef:=by rw [← jKm]; exact h1
      simp only [Region.wanted,hgd,yielded_of hgt]
      cases hx:a.tmps[t]? with
      | none=>simp
      | some x=>rw [hx] at h2; simp at h2; subst h2; simp [undef]
     rw [if_neg (by rw [hnw]; simp)]
     exact skip hk rfl hf
    ·rename_i b hbv
     have hb:=guard_bool (t:=t) (b:=b) hfr (by rw [hbv]; exact fun _ h=>jJd.1 h)
     split at hk
     ·cases b with
      | true =>
       rw [if_pos (by rw [hwant _ hb]; rfl)]
       exact run ((jXm hk).1 rfl) rfl (put_some_rel hf hb rfl)
      | false =>
       rw [if_neg (by rw [hwant _ hb]; simp)]
       exact skip ((jXm hk).2 rfl) rfl (put_some_rel hf hb rfl)
     ·cases b with
      | true =>
       rw [if_neg (by rw [hwant _ hb]; simp)]
       exact skip ((jXm hk).1 rfl) rfl (put_some_rel hf hb rfl)
      | false =>
       rw [if_pos (by rw [hwant _ hb]; rfl)]
       exact run ((jXm hk).2 rfl) rfl (put_some_rel hf hb rfl)
    ·exact hk.elim
theorem jJ2 {call:CallT} (hc:jXu C call) {m:Mode} {ro:Option Nat} (all:Array Oper) {Q:Exit → Act → World → Prop} (rest:List Oper) {s:St} {k:St → Prop} {Ψ:Pr} {β:List Value} {a:Act} {w:World} (hk:aops C call m all rest s k)
 (hE:Ext B Ψ0 Ψ) (hi:InvH C.P B w0 Ψ β s.heap w) (hf:RelF Ψ β (s.top :: s.below) (a :: As)) (hS:Same Ψ0 W a0 a) (hW:∀ o ∈ rest,∀ t,o.dst = some t → t ∈ W) (hQ:∀ a w,PostC C B w0 Ψ0 As W a0 k a w → Q .normal a w) (hQP:∀ ch a w,PanP C B w0 Ψ0 ch w → DefQ W a0 a → Q (.panic ch) a w):wpListIn (Fw ro) 0 C.P all Q rest a w:=by
 have h:=aops_tail (ro:=ro) (Q:=Q) hc all [] rest hk hE hi hf hS hW (fun a w hp=>hQ a w hp) hQP
 rwa [List.append_nil] at h
end Go.AM
namespace Go.AM
open Go.RowKit
variable {B:Nat → Prop} {w0:World} {C:Ctx} {Ψ Ψ0:Pr} {β:List Value} {h:List Blk} {w w':World} {fr:List AV} {a a0:Act} {As:List Act} {W:List Nat}
def putL (top:List AV) (d:Option Tmp) (v:AV):List AV :=
 match d with
 | some t=>fset top t v
 | none=>top
def jX8 (all:Array Oper) (o:Oper) (top top1:List AV) (b:Bool):Prop :=
 match o.guard with
 | none=>top1 = top ∧ b = true
 | some (j,want)=>∃ t,guardTmp all j = some t ∧
  ((fget top t = .tt ∧ top1 = top ∧ b = (true == want)) ∨ (fget top t = .ff ∧ top1 = top ∧ b = (false == want)) ∨ (fget top t = .und ∧ top1 = top ∧ b = false) ∨
    (fget top t = .d .bool true ∧ top1 = fset top t .tt ∧ b = (true == want)) ∨ (fget top t = .d .bool false ∧ top1 = fset top t .ff ∧ b = (false == want)))
def Yld (C:Ctx) (h:List Blk) (o:Oper) (top:List AV) (av:AV):Prop :=
 (∃ f args ats g sp x,o.op = .call { callee:=.value f,args,argTypes:=ats } ∧ ev top f = .fn g [] ∧ C.spec g = some sp ∧ (flats sp.rs = true ∨ jZx (maskAs sp.ps (evs top args.toList)) = true) ∧ jZh C g = true ∧
   asDs h sp.ps (bif flats sp.rs then lendVs h (maskAs sp.ps (evs top args.toList)) else maskAs sp.ps (evs top args.toList)) = some x ∧ sp.pre x ∧ av = outV sp.rs (sp.post x)) ∨
 (neutral o.op = true ∧ ∃ r,aop C top h o.op = some r ∧ (∀ p,r.need = some p → p) ∧ av = r.v)
theorem nstep_yld {o:Oper} {s:St} {k:St → Prop} (hk:nstep C o s k):∃ av,Yld C s.heap o s.top av ∧ k (s.put o.dst av):=by
 unfold nstep at hk
 split at hk
 ·rename_i f args ats ho
  split at hk
  ·rename_i g hev
   split at hk
   ·rename_i sp hsp
    split at hk
    ·rename_i hc
     simp only [Bool.and_eq_true,Bool.or_eq_true] at hc
     split at hk
     ·rename_i x hx
      exact ⟨_,.inl ⟨f,args,ats,g,sp,x,ho,hev,hsp,hc.1,hc.2,hx,hk.1,rfl⟩,hk.2⟩
     ·exact hk.elim
    ·exact hk.elim
   ·exact hk.elim
  ·exact hk.elim
 ·split at hk
  ·rename_i hn
   split at hk
   ·rename_i r hr
    obtain ⟨hp,hk'⟩:=jJ1 hk
    exact ⟨_,.inr ⟨hn,r,hr,hp,rfl⟩,hk'⟩
   ·exact hk.elim
  ·exact hk.elim
def YldG (C:Ctx) (h:List Blk) (o:Oper) (top:List AV) (b:Blk):Prop :=
 ∃ f args ats g gs x,o.op = .call { callee:=.value f,args,argTypes:=ats } ∧ ev top f = .fn g [] ∧ C.fresh g = some gs ∧ jZx (evs top args.toList) = true ∧ jZh C g = true ∧
  asDs h gs.ps (evs top args.toList) = some x ∧ gs.pre x ∧ b = .grow gs.tid gs.e (gs.post x)
def YldA (C:Ctx) (o:Oper) (b:Blk):Prop:=acell C o = some b
def YldP (C:Ctx) (h:List Blk) (o:Oper) (top:List AV) (b:Blk):Prop :=
 ∃ (args:Array Operand) (ats:Array TypeId) (e:Ty) (y:AV) (t tx tid:TypeId) (sz:Nat) (z:AV) (ys:List e.den),o.op = .call { callee:=.builtin .append,args,argTypes:=ats } ∧ evs top args.toList = [.fs e [],y] ∧ ats.toList = [t,tx] ∧ C.tailFirst = false ∧
  jJp C t = some tid ∧ C.size tid = some sz ∧ C.zero tid = some z ∧ asTail C h e tx y = some ys ∧ e.cells = sz ∧ zeroOk e z = true ∧ roomP C tid ys.length ∧ b = .grow tid e ys
def effs (n:Nat) (effi:Nat → Blk):List Blk:=(List.range n).map effi
theorem effs_succ (n:Nat) (e:Blk) (effi:Nat → Blk):effs (n + 1) (fun i=>match i with | 0=>e | i + 1=>effi i) = e :: effs n effi:=by
 unfold effs
 rw [List.range_succ_eq_map]
 simp
def rws (n:Nat) (rwi:Nat → Option (Nat × Blk)) (rw0:List (Nat × Blk)):List (Nat × Blk):=rw0 ++ (List.range n).filterMap rwi
theorem rws_succ (n:Nat) (r:Option (Nat × Blk)) (rwi:Nat → Option (Nat × Blk)) (rw0:List (Nat × Blk)):rws (n + 1) (fun i=>match i with | 0=>r | i + 1=>rwi i) rw0 = rws n rwi (upd rw0 r):=by
 unfold rws
 rw [List.range_succ_eq_map,List.filterMap_cons,List.filterMap_map]
 cases r with
 | none=>rfl
 | some p=>simp only [upd,List.append_assoc,List.singleton_append]; rfl
def YldE (C:Ctx) (H:HW) (i:Nat) (ex:List Blk) (rw0:List (Nat × Blk)) (o:Oper) (top:List AV) (av:AV) (b:Blk) (rw:Option (Nat × Blk)):Prop :=
 (isSt H.st i = true ∧ av = .und ∧ b = .gone ∧ o.dst = none ∧ ∃ r,rw = some r ∧ notKey r.1 rw0 = true ∧ scall C (hlen H.h0) ex o { top:=top,below:=[],heap:=H.heap i } = some r) ∨
 (isSt H.st i = false ∧ rw = none ∧ ((Yld C (H.heap i) o top av ∧ b = .gone) ∨ (YldG C (H.heap i) o top b ∧ av = .sl (hlen H.h0 + i)) ∨ (YldA C o b ∧ av = .own (hlen H.h0 + i) 0) ∨ (YldP C (H.heap i) o top b ∧ av = .sl (hlen H.h0 + i))))
theorem dstep_yld {H:HW} {i:Nat} {ex:List Blk} {rw0:List (Nat × Blk)} {o:Oper} {s:St} {k:Blk → Option (Nat × Blk) → St → Prop} (hk:dstep C (hlen H.h0) ex rw0 (isSt H.st i) o (hlen H.h0 + i) { s with heap:=H.heap i } k) :
 ∃ av b r,YldE C H i ex rw0 o s.top av b r ∧ k b r (({ s with heap:=H.heap i }:St).put o.dst av):=by
 unfold dstep at hk
 split at hk
 ·rename_i hS
  split at hk
  ·rename_i r hr
   have hdst:o.dst = none:=by
    unfold scall at hr
    split at hr
    ·assumption
    ·cases hr
   split at hk
   ·rename_i hnk
    refine ⟨.und,.gone,some r,.inl ⟨hS,rfl,rfl,hdst,r,rfl,hnk,hr⟩,?_⟩
    rw [hdst]
    exact hk
   ·exact hk.elim
  ·exact hk.elim
 ·rename_i hS
  have hS:isSt H.st i = false:=by simpa using hS
  split at hk
  ·rename_i g gs args hg
   split at hk
   ·rename_i hc
    simp only [Bool.and_eq_true] at hc
    obtain ⟨h1,h2⟩:=hc
    split at hk
    ·rename_i x hx
     unfold gcall at hg
     split at hg
     ·rename_i f args' ats ho
      split at hg
      ·rename_i g' hev
       split at hg
       ·cases hg
       ·split at hg
        ·rename_i gs' hgs
         simp only [Option.some.injEq,Prod.mk.injEq] at hg
         obtain ⟨rfl,rfl,rfl⟩:=hg
         exact ⟨_,_,none,.inr ⟨hS,rfl,.inr (.inl ⟨⟨f,args',ats,g',gs',x,ho,hev,hgs,h1,h2,hx,hk.1,rfl⟩,rfl⟩)⟩,hk.2⟩
        ·cases hg
      ·cases hg
     ·cases hg
    ·exact hk.elim
   ·exact hk.elim
  ·split at hk
   ·rename_i cs hcs
    exact ⟨_,_,none,.inr ⟨hS,rfl,.inr (.inr (.inl ⟨hcs,rfl⟩))⟩,hk⟩
   ·split at hk
    ·rename_i p b hp
     unfold pcall at hp
     split at hp
     ·rename_i args ats ho
      split at hp
      ·rename_i e y t tx hev hats
       split at hp
       ·rename_i tid htf hel
        split at hp
        ·rename_i sz z ys h1 h2 h3
         split at hp
         ·rename_i hc
          simp only [Bool.and_eq_true,Nat.beq_eq] at hc
          simp only [Option.some.injEq,Prod.mk.injEq] at hp
          obtain ⟨rfl,rfl⟩:=hp
          exact ⟨_,_,none,.inr ⟨hS,rfl,.inr (.inr (.inr ⟨⟨args,ats,e,y,t,tx,tid,sz,z,ys,ho,hev,hats,htf,hel,h1,h2,h3,hc.1,hc.2,hk.1,rfl⟩,rfl⟩))⟩,hk.2⟩
         ·cases hp
        ·cases hp
       ·cases hp
      ·cases hp
     ·cases hp
    ·obtain ⟨av,h1,h2⟩:=nstep_yld hk
     exact ⟨av,_,none,.inr ⟨hS,rfl,.inl ⟨h1,rfl⟩⟩,h2⟩
structure Trace (C:Ctx) (H:HW) (ex0:List Blk) (rw0:List (Nat × Blk)) (ops:List Oper) (i0:Nat) (top:List AV) (tops mids:Nat → List AV) (vals:Nat → AV) (wnt:Nat → Bool) (effi:Nat → Blk) (rwi:Nat → Option (Nat × Blk)):Prop where
 zero:tops 0 = top
 step:∀ i o,ops[i]? = some o → jX8 H.all o (tops i) (mids i) (wnt i) ∧ tops (i + 1) = putL (mids i) o.dst (vals i) ∧
  (wnt i = true → YldE C H (i0 + i) (ex0 ++ effs i effi) (rws i rwi rw0) o (mids i) (vals i) (effi i) (rwi i)) ∧ (wnt i = false → vals i = .und ∧ effi i = .gone ∧ rwi i = none)
theorem Trace.cons {H:HW} {ex0:List Blk} {rw0:List (Nat × Blk)} {o:Oper} {ops:List Oper} {i0:Nat} {top mid:List AV} {v:AV} {b:Bool} {e:Blk} {r:Option (Nat × Blk)} {tops mids:Nat → List AV} {vals:Nat → AV} {wnt:Nat → Bool} {effi:Nat → Blk} {rwi:Nat → Option (Nat × Blk)}
 (hg:jX8 H.all o top mid b) (hy:b = true → YldE C H i0 ex0 rw0 o mid v e r) (hn:b = false → v = .und ∧ e = .gone ∧ r = none) (ht:Trace C H (ex0 ++ [e]) (upd rw0 r) ops (i0 + 1) (putL mid o.dst v) tops mids vals wnt effi rwi) :
 Trace C H ex0 rw0 (o :: ops) i0 top (fun i=>match i with | 0=>top | i + 1=>tops i) (fun i=>match i with | 0=>mid | i + 1=>mids i) (fun i=>match i with | 0=>v | i + 1=>vals i) (fun i=>match i with | 0=>b | i + 1=>wnt i) (fun i=>match i with | 0=>e | i + 1=>effi i)
  (fun i=>match i with | 0=>r | i + 1=>rwi i) where
 zero:=rfl
 step:=fun i o' ho=>by
  cases i with
  | zero =>
   simp at ho
   subst ho
   exact ⟨hg,ht.zero,(by simpa [effs,rws] using hy),hn⟩
  | succ i =>
   have:=ht.step i o' (by simpa using ho)
   rw [effs_succ,rws_succ,show i0 + (i + 1) = i0 + 1 + i by omega,show ex0 ++ e :: effs i effi = (ex0 ++ [e]) ++ effs i effi by simp]
   exact this
theorem put_top (s:St) (d:Option Tmp) (v:AV):s.put d v = { s with top:=putL s.top d v }:=by cases d <;> rfl
theorem dops_trace {m:Mode} (H:HW) {k:St → Prop}:∀ (ops:List Oper) (i0:Nat) (ex:List Blk) (rw0:List (Nat × Blk)) (s:St),dops C m H ops i0 ex rw0 s k →
 ∃ tops mids vals wnt effi rwi,Trace C H ex rw0 ops i0 s.top tops mids vals wnt effi rwi ∧ k { s with top:=tops ops.length,heap:=wr (H.h0 ++ (ex ++ effs ops.length effi)) (rws ops.length rwi rw0) }
 | [],i0,ex,rw0,s,hk=>⟨fun _=>s.top,fun _=>s.top,fun _=>.und,fun _=>true,fun _=>.gone,fun _=>none,⟨rfl,fun i o ho=>by simp at ho⟩,(by have hk:k { s with heap:=wr (H.h0 ++ ex) rw0 }:=hk; simpa [effs,rws] using hk)⟩
 | o :: ops,i0,ex,rw0,s,hk=>by
  have go:∀ (s1:St) (v:AV) (e:Blk) (r:Option (Nat × Blk)) (b:Bool),jX8 H.all o s.top s1.top b → s1.below = s.below → (b = true → YldE C H i0 ex rw0 o s1.top v e r) → (b = false → v = .und ∧ e = .gone ∧ r = none) → dops C m H ops (i0 + 1) (ex ++ [e]) (upd rw0 r) (s1.put o.dst v) k →
   ∃ tops mids vals wnt effi rwi,Trace C H ex rw0 (o :: ops) i0 s.top tops mids vals wnt effi rwi ∧ k { s with top:=tops (o :: ops).length,heap:=wr (H.h0 ++ (ex ++ effs (o :: ops).length effi)) (rws (o :: ops).length rwi rw0) }:=by
   intro s1 v e r b hg hb hy hn hdo
   rw [put_top] at hdo
   obtain ⟨tops,mids,vals,wnt,effi,rwi,ht,hk'⟩:=dops_trace H ops _ _ _ _ hdo
   simp only [hb] at ht hk'
   refine ⟨_,_,_,_,_,_,ht.cons (e:=e) (r:=r) hg hy hn,?_⟩
   rw [List.length_cons,effs_succ,rws_succ]
   rw [List.append_assoc,List.singleton_append] at hk'
   exact hk'
  have yes:∀ (s1:St),jX8 H.all o s.top s1.top true → s1.below = s.below → dstep C (hlen H.h0) ex rw0 (isSt H.st i0) o (hlen H.h0 + i0) { s1 with heap:=H.heap i0 } (fun b r s'=>dops C m H ops (i0 + 1) (ex ++ [b]) (upd rw0 r) s' k) →
   ∃ tops mids vals wnt effi rwi,Trace C H ex rw0 (o :: ops) i0 s.top tops mids vals wnt effi rwi ∧ k { s with top:=tops (o :: ops).length,heap:=wr (H.h0 ++ (ex ++ effs (o :: ops).length effi)) (rws (o :: ops).length rwi rw0) }:=by
   intro s1 hg hb hst
   obtain ⟨av,e,r,hy,hdo⟩:=dstep_yld hst
   exact go { s1 with heap:=H.heap i0 } av e r true hg hb (fun _=>hy) (fun e=>by cases e) hdo
  have no:∀ (s1:St),jX8 H.all o s.top s1.top false → s1.below = s.below → dops C m H ops (i0 + 1) (ex ++ [.gone]) rw0 (s1.put o.dst .und) k →
   ∃ tops mids vals wnt effi rwi,Trace C H ex rw0 (o :: ops) i0 s.top tops mids vals wnt effi rwi ∧ k { s with top:=tops (o :: ops).length,heap:=wr (H.h0 ++ (ex ++ effs (o :: ops).length effi)) (rws (o :: ops).length rwi rw0) } :=
   fun s1 hg hb hdo=>go s1 .und .gone none false hg hb (fun e=>by cases e) (fun _=>⟨rfl,rfl,rfl⟩) hdo
  unfold dops at hk
  split at hk
  ·rename_i hgd
   exact yes s (by simp [jX8,hgd]) rfl hk
  ·rename_i g want hgd
   split at hk
   ·exact hk.elim
   ·rename_i t hgt
    split at hk
    ·rename_i htt
     split at hk
     ·exact yes s (by simp [jX8,hgd,hgt,htt]) rfl hk
     ·exact no s (by simp [jX8,hgd,hgt,htt]) rfl hk
    ·rename_i htt
     split at hk
     ·exact yes s (by simp [jX8,hgd,hgt,htt]) rfl hk
     ·exact no s (by simp [jX8,hgd,hgt,htt]) rfl hk
    ·rename_i htt
     exact no s (by simp [jX8,hgd,hgt,htt]) rfl hk
    ·rename_i b htt
     split at hk
     ·cases b with
      | true=>exact yes (s.put (some t) .tt) (by simp [jX8,hgd,hgt,htt,St.put]) rfl ((jXm hk).1 rfl)
      | false=>exact no (s.put (some t) .ff) (by simp [jX8,hgd,hgt,htt,St.put]) rfl ((jXm hk).2 rfl)
     ·cases b with
      | true=>exact no (s.put (some t) .tt) (by simp [jX8,hgd,hgt,htt,St.put]) rfl ((jXm hk).1 rfl)
      | false=>exact yes (s.put (some t) .ff) (by simp [jX8,hgd,hgt,htt,St.put]) rfl ((jXm hk).2 rfl)
    ·exact hk.elim
def baseL (ops:List Oper) (top:List AV) (vals:Nat → AV) (L:Nat → Bool) (t:Nat):AV :=
 match (List.range ops.length).find? (fun i=>L i && ((ops[i]?).bind (·.dst) == some t)) with
 | some i=>vals i
 | none=>fget top t
def Imp (b av:AV):Prop:=∀ Ψ β v,RelV Ψ β b v → RelV Ψ β av v
theorem Imp.refl (b:AV):Imp b b:=fun _ _ _ h=>h
theorem Imp.trans {a b c:AV} (h:Imp a b) (h':Imp b c):Imp a c:=fun Ψ β v hv=>h' Ψ β v (h Ψ β v hv)
theorem fget_fset {l:List AV} {i j:Nat} {v:AV}:fget (fset l i v) j = if i = j ∧ i < l.length then v else fget l j:=by
 induction l generalizing i j with
 | nil=>simp [fset]
 | cons x l ih=>cases i <;> cases j <;> simp [fset,fget,ih]
theorem fset_length (l:List AV) (i:Nat) (v:AV):(fset l i v).length = l.length:=by rw [fset_eq]; simp
def Distinct (ops:List Oper):Prop :=
 ∀ (i j:Nat) (oi oj:Oper) (t:Tmp),ops[i]? = some oi → ops[j]? = some oj → oi.dst = some t → oj.dst = some t → i = j
theorem jKi {ops:List Oper} {top:List AV} {vals:Nat → AV} {L:Nat → Bool} {t i:Nat} {o:Oper} (hd:Distinct ops) (hi:ops[i]? = some o) (ht:o.dst = some t) (hL:L i = true):baseL ops top vals L t = vals i:=by
 unfold baseL
 cases hf:(List.range ops.length).find? (fun i=>L i && ((ops[i]?).bind (·.dst) == some t)) with
 | none =>
  rw [List.find?_eq_none] at hf
  have hlt:i < ops.length:=by
   rcases Nat.lt_or_ge i ops.length with h' | h'
   ·exact h'
   ·rw [List.getElem?_eq_none h'] at hi; cases hi
  have:=hf i (List.mem_range.2 hlt)
  simp [hL,hi,ht] at this
 | some j =>
  have h1:=List.find?_some hf
  simp only [Bool.and_eq_true,beq_iff_eq] at h1
  obtain ⟨_,h2⟩:=h1
  cases hj:ops[j]? with
  | none=>rw [hj] at h2; simp at h2
  | some oj =>
   rw [hj] at h2
   simp at h2
   rw [hd i j o oj t hi hj ht h2]
theorem jX6 {ops:List Oper} {top:List AV} {vals:Nat → AV} {L:Nat → Bool} {t:Nat} (hn:∀ (i:Nat) (o:Oper),ops[i]? = some o → o.dst = some t → L i = false):baseL ops top vals L t = fget top t:=by
 unfold baseL
 cases hf:(List.range ops.length).find? (fun i=>L i && ((ops[i]?).bind (·.dst) == some t)) with
 | none=>rfl
 | some j =>
  have h1:=List.find?_some hf
  simp only [Bool.and_eq_true,beq_iff_eq] at h1
  obtain ⟨h0,h2⟩:=h1
  cases hj:ops[j]? with
  | none=>rw [hj] at h2; simp at h2
  | some oj =>
   rw [hj] at h2
   simp at h2
   rw [hn j oj hj h2] at h0
   cases h0
theorem guarded_imp {all:Array Oper} {o:Oper} {top top1:List AV} {b:Bool} (hg:jX8 all o top top1 b):top1.length = top.length ∧ ∀ t,Imp (fget top t) (fget top1 t):=by
 unfold jX8 at hg
 split at hg
 ·obtain ⟨rfl,_⟩:=hg
  exact ⟨rfl,fun t=>Imp.refl _⟩
 ·obtain ⟨t,_,h⟩:=hg
  rcases h with ⟨_,rfl,_⟩ | ⟨_,rfl,_⟩ | ⟨_,rfl,_⟩ | ⟨h1,rfl,_⟩ | ⟨h1,rfl,_⟩
  ·exact ⟨rfl,fun t=>Imp.refl _⟩
  ·exact ⟨rfl,fun t=>Imp.refl _⟩
  ·exact ⟨rfl,fun t=>Imp.refl _⟩
  ·refine ⟨fset_length _ _ _,fun t'=>?_⟩
   rw [fget_fset]
   split
   ·rename_i hc
    obtain ⟨rfl,_⟩:=hc
    rw [h1]
    exact fun Ψ β v hv=>jJd.1 hv
   ·exact Imp.refl _
  ·refine ⟨fset_length _ _ _,fun t'=>?_⟩
   rw [fget_fset]
   split
   ·rename_i hc
    obtain ⟨rfl,_⟩:=hc
    rw [h1]
    exact fun Ψ β v hv=>jJd.1 hv
   ·exact Imp.refl _
theorem Trace.chain {H:HW} {ex0:List Blk} {rw0:List (Nat × Blk)} {ops:List Oper} {top:List AV} {tops mids:Nat → List AV} {vals:Nat → AV} {wnt:Nat → Bool} {i0:Nat} {effi:Nat → Blk} {rwi:Nat → Option (Nat × Blk)} (ht:Trace C H ex0 rw0 ops i0 top tops mids vals wnt effi rwi) (hd:Distinct ops) :
 ∀ i,i ≤ ops.length → (tops i).length = top.length ∧ ∀ t,t < top.length → Imp (baseL ops top vals (fun j=>decide (j < i)) t) (fget (tops i) t)
 | 0,_=>by
  rw [ht.zero]
  refine ⟨rfl,fun t _=>?_⟩
  rw [jX6 (fun i o _ _=>by simp)]
  exact Imp.refl _
 | i + 1,hi=>by
  obtain ⟨hl,hc⟩:=ht.chain hd i (by omega)
  have ho:ops[i]? = some ops[i]:=List.getElem?_eq_getElem (by omega)
  obtain ⟨hg,he,_,_⟩:=ht.step i _ ho
  obtain ⟨hgl,hgi⟩:=guarded_imp hg
  have same:∀ t,ops[i].dst ≠ some t → baseL ops top vals (fun j=>decide (j < i + 1)) t = baseL ops top vals (fun j=>decide (j < i)) t:=by
   intro t hne
   by_cases hex:∃ j oj,ops[j]? = some oj ∧ oj.dst = some t ∧ j < i
   ·obtain ⟨j,oj,h1,h2,h3⟩:=hex
    rw [jKi hd h1 h2 (by simp; omega),jKi hd h1 h2 (by simp; omega)]
   ·rw [jX6 (fun j oj h1 h2=>?_),jX6 (fun j oj h1 h2=>?_)]
    ·simp only [decide_eq_false_iff_not]
     exact fun h3=>hex ⟨j,oj,h1,h2,h3⟩
    ·simp only [decide_eq_false_iff_not]
     intro h3
     have:j ≠ i:=by
      rintro rfl
      rw [h1] at ho
      simp at ho
      rw [← ho] at hne
      exact hne h2
     exact hex ⟨j,oj,h1,h2,by omega⟩
  rw [he]
  cases hdst:ops[i].dst with
  | none =>
   refine ⟨by simp only [putL]; omega,fun t ht'=>?_⟩
   rw [same t (by rw [hdst]; simp)]
   exact (hc t ht').trans (hgi t)
  | some d =>
   refine ⟨by simp only [putL]; rw [fset_length]; omega,fun t ht'=>?_⟩
   simp only [putL]
   rw [fget_fset]
   by_cases htd:d = t
   ·subst htd
    rw [if_pos ⟨rfl,by omega⟩,jKi hd ho hdst (by simp)]
    exact Imp.refl _
   ·rw [if_neg (fun hh=>htd hh.1),same t (by rw [hdst]; simpa using htd)]
    exact (hc t ht').trans (hgi t)
end Go.AM
