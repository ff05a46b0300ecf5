import Derived.Test.YtcnpblceamgfcaaGreatDoorKc8
import Derived.ProofKit
import Derived.OpenShut
import Derived.Carry
import Derived.Test.YtcnpblceamgfcaaGreatDoorRows
import Derived.Test.YtcnpblceamgfcaaGreatDoorProg
import Derived.KernelRfl
import Derived.Test.YtcnpblceamgfcaaGreatDoorKc1
import Derived.Shelf.Spec.SlicesGrow
import Derived.Shelf.SlGeneric
set_option linter.unusedSimpArgs false
set_option linter.unusedVariables false
namespace Go.AM
open Go.Proofs.YtcnpblceamgfcaaGreatDoor
open Go.ChangeShapes Go.WideShapes Go.ChangeAt Go.RowKit
def wt:(t:Ty) → t.den → Nat
 | .int _,_=>1
 | .bool,_=>1
 | .fnc,_=>1
 | .any,_=>1
 | .str,l=>(l:List Int).length + 1
 | .arr e,xs=>((xs:List e.den).map (wt e)).sum + 1
 | .vec _ e,xs=>((xs:List e.den).map (wt e)).sum
 | .unit,_=>0
 | .pair a b,x=>wt a x.1 + wt b x.2
 | .rose a b,x=>Rose.size (fun y=>wt a (Prod.fst y) + wt b (Prod.snd y)) x
theorem sizes_eq {α:Type} (f:α → Nat):∀ (l:List (Rose α)),Rose.sizes f l = (l.map (Rose.size f)).sum
 | []=>rfl
 | y :: l=>by simp only [Rose.sizes,List.map_cons,List.sum_cons,sizes_eq f l]
def wts:(ts:List Ty) → dens ts → Nat
 | [],_=>0
 | [t],x=>wt t x
 | t :: u :: ts,x=>wt t x.1 + wts (u :: ts) x.2
def jZ2 (w:World):Pr:=fun a=>w.cell? a
theorem cellsPr_prom (w:World) (a:Addr) (v:Value) (h:jZ2 w a = some v):a.spot = none ∧ w.cell? a = some v:=⟨World.cell?_spot h,h⟩
section
variable {H:Type} {enc:TypeId × Value → H} {P:Program} {w:World} {spare:Nat → Bool} {held:Bool}
theorem rows_read {α:Type} {R:α → List Value → Prop} {g off ce:Nat} {rd:List Value → Option (DataW H × List MemPlace)} {wf:α → Nat}
 (ih:∀ cs x,rd cs = some x → cs.length = ce → ∃ y,R y cs ∧ wf y ≤ Rows.uptoBulk x.1) :
 ∀ (n i0:Nat) (elems:List (DataW H × List MemPlace)),elems.length = n →
  (∀ i,i < n → (w.cells? 0 (Addr.add ⟨g,off,none⟩ ((i0 + i) * ce)) ce).bind rd = elems[i]?) →
  ∃ (ys:List α) (cells:List Value),ys.length = n ∧ rdL R ys cells ∧ cells.length = n * ce ∧ (∀ j u,cells[j]? = some u → w.cell? ⟨g,off + (i0 * ce + j),none⟩ = some u) ∧
   (ys.map wf).sum ≤ Rows.uptoBulkAll (elems.map (·.1)):=by
 intro n
 induction n with
 | zero=>intro i0 elems hl _; exact ⟨[],[],rfl,rfl,by simp,by simp,by simp⟩
 | succ n ihn =>
  intro i0 elems hl hel
  cases elems with
  | nil=>simp at hl
  | cons x xs =>
   have h0:=hel 0 (by omega)
   simp only [List.getElem?_cons_zero,Option.bind_eq_some_iff] at h0
   obtain ⟨cs,hc,hx⟩:=h0
   obtain ⟨_,hlen,hcell⟩:=World.cells?_some hc
   obtain ⟨y,hy,hw⟩:=ih cs x hx hlen
   obtain ⟨ys,cells,h1,h2,h3,h4,h5⟩:=ihn (i0 + 1) xs (by simpa using hl) (fun i hi=>by
    have:=hel (i + 1) (by omega)
    rw [show i0 + (i + 1) = i0 + 1 + i by omega] at this
    simpa using this)
   refine ⟨y :: ys,cs ++ cells,by simp [h1],⟨cs,cells,rfl,hy,h2⟩,by simp [h3,hlen,Nat.add_mul]; omega,fun j u hj=>?_,by simp only [List.map_cons,List.sum_cons,Rows.uptoBulkAll]; omega⟩
   by_cases hjc:j < ce
   ·rw [List.getElem?_append_left (by omega)] at hj
    have:=hcell j hjc
    rw [hj,add_plain,add_plain] at this
    simpa [Nat.add_assoc] using this
   ·rw [List.getElem?_append_right (by omega),hlen] at hj
    have:=h4 (j - ce) u hj
    rw [← this]
    congr 2
    rw [Nat.add_mul]
    omega
mutual
theorem jZ5:∀ (ty:Ty) {t:TypeId} {fuel:Nat} {cs:List Value} {x:DataW H × List MemPlace},okT P ty t = true →
 DataW.trod enc P w 0 spare held fuel t cs = some x → ∃ d:ty.den,reads (jZ2 w) ty d cs ∧ cs.length = ty.cells ∧ wt ty d ≤ Rows.uptoBulk x.1
 | .int k,t,fuel,cs,x,ht,h=>by
  unfold okT at ht
  split at ht
  ·rename_i k' hk
   have:k' = k:=by simpa using ht
   subst this
   obtain ⟨n,rfl,rfl,hw⟩:=DataW.trod_int hk h
   simp only [Lit.wf,Bool.and_eq_true,decide_eq_true_eq] at hw
   exact ⟨n,⟨rfl,by unfold IntKind.has; simpa using hw⟩,rfl,by simp [wt,Rows.uptoBulk]⟩
  ·cases ht
 | .bool,t,fuel,cs,x,ht,h=>by
  unfold okT at ht
  split at ht
  ·rename_i hk
   obtain ⟨b,rfl,rfl⟩:=DataW.trod_bool hk h
   exact ⟨b,rfl,rfl,by simp [wt,Rows.uptoBulk]⟩
  ·cases ht
 | .str,t,fuel,cs,x,ht,h=>by
  unfold okT at ht
  split at ht
  ·rename_i hk
   obtain ⟨s,rfl,rfl,hs⟩:=DataW.trod_string hk h
   refine ⟨bytesOf s,⟨?_,?_,?_⟩,rfl,by simp [wt,Rows.uptoBulk,bytesOf]⟩
   ·congr 2
    unfold strOf bytesOf
    cases s with | mk d=>simp [Function.comp_def]
   ·intro c hc
    simp only [bytesOf,List.mem_map] at hc
    obtain ⟨b,_,rfl⟩:=hc
    have:=b.toNat_lt
    omega
   ·simpa [bytesOf] using hs
  ·cases ht
 | .arr e,t,fuel,cs,x,ht,h=>by
  unfold okT at ht
  split at ht
  ·rename_i et hk
   simp only [Bool.and_eq_true] at ht
   obtain ⟨⟨hc,h1⟩,he⟩:=ht
   have hc:=Nat.eq_of_beq_eq_true hc
   have h1:=Nat.le_of_ble_eq_true h1
   rcases DataW.trod_slice hk h with ⟨rfl,rfl⟩ | ⟨a,len,cap,elems,rest,n,rfl,rfl,rfl,hb,hl,hm,hlen,hel,_,_⟩
   ·exact ⟨([]:List e.den),⟨none,0,rfl,Nat.le_refl _,Nat.zero_le _,.inl rfl⟩,rfl,by simp [wt,Rows.uptoBulk]⟩
   ·by_cases h0:len = 0
    ·subst h0
     exact ⟨([]:List e.den),⟨some a,cap,rfl,hl,hm,.inl rfl⟩,rfl,by simp [wt,Rows.uptoBulk]⟩
    ·have hsp:a.spot = none:=by
      have:=hel 0 (by omega)
      rw [List.getElem?_eq_getElem (by omega),Option.bind_eq_some_iff] at this
      obtain ⟨cs,hcs,_⟩:=this
      obtain ⟨_,hcl,hcell⟩:=World.cells?_some hcs
      have:=hcell 0 (by omega)
      rw [List.getElem?_eq_getElem (by omega)] at this
      have:=World.cell?_spot this
      unfold Addr.add at this
      split at this <;> simp_all
     obtain ⟨g,off,sp⟩:=a
     simp only at hsp
     subst hsp
     obtain ⟨ys,cells,y1,y2,y3,y4,y5⟩:=rows_read (wf:=wt e) (w:=w) (g:=g) (off:=off) (ce:=e.cells) (R:=reads (jZ2 w) e) (rd:=DataW.trod enc P w 0 spare held n et)
      (fun cs x hx _=>let ⟨d,hd,_,hw⟩:=jZ5 e he hx; ⟨d,hd,hw⟩) len 0 elems hlen (fun i hi=>by
        have:=hel i hi
        rw [hc] at this
        simpa using this)
     exact ⟨ys,⟨some ⟨g,off,none⟩,cap,by rw [y1],by omega,hm,.inr ⟨cells,y2,g,off,rfl,fun j u hj=>by simpa [jZ2] using y4 j u hj⟩⟩,rfl,by simp only [wt,Rows.uptoBulk]; omega⟩
  ·cases ht
 | .vec n e,t,fuel,cs,x,ht,h=>by
  unfold okT at ht
  split at ht
  ·rename_i m et hk
   simp only [Bool.and_eq_true] at ht
   obtain ⟨⟨⟨hm,hc⟩,hs⟩,he⟩:=ht
   have hc:=Nat.eq_of_beq_eq_true hc
   have hs:=Nat.eq_of_beq_eq_true hs
   have hm:=Nat.eq_of_beq_eq_true hm
   subst hm
   obtain ⟨xs,k,rfl,rfl,hl,hx,hel⟩:=DataW.trod_array hk h
   rw [hs] at hl
   have key:∀ (r i:Nat),i + r = m → ∃ ys:List e.den,ys.length = r ∧ rdL (reads (jZ2 w) e) ys (cs.drop (i * e.cells)) ∧ (ys.map (wt e)).sum ≤ Rows.uptoBulkAll ((xs.drop i).map (·.1)):=by
    intro r
    induction r with
    | zero =>
     intro i hi
     refine ⟨[],rfl,?_,by simp⟩
     show cs.drop (i * e.cells) = []
     rw [List.drop_eq_nil_iff,hl,← hi]
     simp
    | succ r ihr =>
     intro i hi
     obtain ⟨ys,h1,h2,h3⟩:=ihr (i + 1) (by omega)
     have:=hel i (by omega)
     rw [List.getElem?_eq_getElem (by omega),hc] at this
     obtain ⟨y,hy,_,hw⟩:=jZ5 e he this
     refine ⟨y :: ys,by simp [h1],⟨(cs.drop (i * e.cells)).take e.cells,cs.drop ((i + 1) * e.cells),?_,hy,h2⟩,by
      rw [List.drop_eq_getElem_cons (by omega)]
      simp only [List.map_cons,List.sum_cons,Rows.uptoBulkAll]
      omega⟩
     rw [Nat.add_mul,Nat.one_mul,← List.drop_drop,List.take_append_drop]
   obtain ⟨ys,h1,h2,h3⟩:=key m 0 (by omega)
   exact ⟨ys,⟨h1,by simpa using h2⟩,hl,by simp only [wt,Rows.uptoBulk]; simp only [List.drop_zero] at h3; omega⟩
  ·cases ht
 | .rose a b,t,fuel,cs,x,ht,h=>by
  unfold okT at ht
  split at ht
  ·rename_i fs hk
   simp only [Bool.and_eq_true] at ht
   obtain ⟨hs,hA⟩:=ht
   have hs:=Nat.eq_of_beq_eq_true hs
   have key:∀ (N:Nat) (fuel:Nat),fuel ≤ N → ∀ (cs:List Value) (x:DataW H × List MemPlace),DataW.trod enc P w 0 spare held fuel t cs = some x →
    ∃ d:Rose (a.den × b.den),reads (jZ2 w) (.rose a b) d cs ∧ cs.length = a.cells + 1 + b.cells ∧ wt (.rose a b) d ≤ Rows.uptoBulk x.1:=by
    intro N
    induction N with
    | zero =>
     intro fuel hf cs x h
     obtain ⟨xs,n,rfl,_⟩:=DataW.trod_struct hk h
     omega
    | succ N ihN =>
     intro fuel hf cs x h
     obtain ⟨xs,n,rfl,rfl,hl,hx,hel⟩:=DataW.trod_struct hk h
     rw [hs] at hl
     obtain ⟨da,fs',xs',h1,h2,h3,h4,h5⟩:=fieldsA_of_trod a (n:=n) (fs:=fs.toList) (xs:=xs) (cs:=cs) (off:=0) hA (fun i f hf=>hel i f (by simpa using hf)) (by simp [hx])
     cases fs' with
     | nil=>cases h2
     | cons f fs' =>
      simp only [Bool.and_eq_true] at h2
      obtain ⟨⟨⟨ho,hc⟩,he⟩,hb⟩:=h2
      have ho:=Nat.eq_of_beq_eq_true ho
      have hc:=Nat.eq_of_beq_eq_true hc
      split at he
      ·rename_i et hke
       have het:=Nat.eq_of_beq_eq_true he
       subst het
       cases xs' with
       | nil=>simp at h4
       | cons x0 xs' =>
        have h0:=h3 0 f rfl
        rw [ho,hc] at h0
        simp only [List.getElem?_cons_zero,Nat.zero_add] at h0
        obtain ⟨db,hdb,hwb⟩:=jYv b (n:=n) (fs:=fs') (xs:=xs') (cs:=cs) (off:=a.cells + 1) (by simpa using hb) (by omega) (fun i f' hf'=>by
         have:=h3 (i + 1) f' (by simpa using hf')
         rw [this]; rfl) (by simpa using h4)
        obtain ⟨v,hv⟩:∃ v,(cs.drop a.cells).take 1 = [v]:=by
         have:((cs.drop a.cells).take 1).length = 1:=by simp; omega
         exact List.length_eq_one_iff.1 this
        rw [hv] at h0
        have hsub:∃ ys:List (Rose (a.den × b.den)),reads (jZ2 w) (.arr (.rose a b)) ys [v] ∧ (ys.map (wt (.rose a b))).sum + 1 ≤ Rows.uptoBulk x0.1:=by
         rcases DataW.trod_slice hke h0 with ⟨e1,rfl⟩ | ⟨ad,len,cap,elems,rest,n',rfl,e1,rfl,hb',hl',hm,hlen,hel',_,_⟩
         ·exact ⟨[],⟨none,0,e1,Nat.le_refl _,Nat.zero_le _,.inl rfl⟩,by simp [Rows.uptoBulk]⟩
         ·by_cases hz:len = 0
          ·subst hz
           exact ⟨[],⟨some ad,cap,e1,hl',hm,.inl rfl⟩,by simp [Rows.uptoBulk]⟩
          ·have hce:P.cellsOf et = a.cells + 1 + b.cells:=hs
           have hsp:ad.spot = none:=by
            have:=hel' 0 (by omega)
            rw [List.getElem?_eq_getElem (by omega),Option.bind_eq_some_iff] at this
            obtain ⟨cs',hcs,_⟩:=this
            obtain ⟨_,hcl,hcell⟩:=World.cells?_some hcs
            have:=hcell 0 (by omega)
            rw [List.getElem?_eq_getElem (by omega)] at this
            have:=World.cell?_spot this
            unfold Addr.add at this
            split at this <;> simp_all
           obtain ⟨g,off,sp⟩:=ad
           simp only at hsp
           subst hsp
           obtain ⟨ys,cells,y1,y2,y3,y4,y5⟩:=rows_read (wf:=wt (.rose a b)) (w:=w) (g:=g) (off:=off) (ce:=a.cells + 1 + b.cells) (R:=reads (jZ2 w) (.rose a b)) (rd:=DataW.trod enc P w 0 spare held n' et)
            (fun cs x hx _=>let ⟨d,hd,_,hw⟩:=ihN n' (by omega) cs x hx; ⟨d,hd,hw⟩) len 0 elems hlen (fun i hi=>by
              have:=hel' i hi
              rw [hce] at this
              simpa using this)
           exact ⟨ys,⟨some ⟨g,off,none⟩,cap,by rw [y1]; exact e1,by rw [y1]; exact hl',hm,.inr ⟨cells,y2,g,off,rfl,fun j u hj=>by simpa [jZ2] using y4 j u hj⟩⟩,by simp only [Rows.uptoBulk]; omega⟩
        obtain ⟨ys,hys,hwy⟩:=hsub
        refine ⟨.node (da,db) ys,(reads_rose _ _).2 ⟨cs.take a.cells,v,cs.drop (a.cells + 1),?_,by rw [List.drop_zero] at h1; exact h1,hdb,hys⟩,hl,?_⟩
        ·rw [← List.singleton_append,← hv]
         have e2:cs.drop (a.cells + 1) = (cs.drop a.cells).drop 1:=by rw [List.drop_drop]
         rw [e2,List.take_append_drop,List.take_append_drop]
        ·show Rose.size _ _ ≤ _
         simp only [Rose.size,sizes_eq,Rows.uptoBulk]
         simp only [List.map_cons,Rows.uptoBulkAll] at h5
         have e3:(List.map (Rose.size fun y:a.den × b.den=>wt a y.1 + wt b y.2) ys).sum = (ys.map (wt (.rose a b))).sum:=rfl
         omega
      ·cases he
   exact key fuel fuel (Nat.le_refl _) cs x h
  ·cases ht
 | .unit,t,fuel,cs,x,ht,h=>by unfold okT at ht; cases ht
 | .fnc,t,fuel,cs,x,ht,h=>by unfold okT at ht; cases ht
 | .any,t,fuel,cs,x,ht,h=>by unfold okT at ht; cases ht
 | .pair a b,t,fuel,cs,x,ht,h=>by
  unfold okT at ht
  split at ht
  ·rename_i fs hk
   split at ht
   ·rename_i f fs' hfs
    simp only [Bool.and_eq_true] at ht
    obtain ⟨⟨⟨⟨hs,ho⟩,hc⟩,ha⟩,hb⟩:=ht
    have hs:=Nat.eq_of_beq_eq_true hs
    have ho:=Nat.eq_of_beq_eq_true ho
    have hc:=Nat.eq_of_beq_eq_true hc
    obtain ⟨xs,n,rfl,rfl,hl,hx,hel⟩:=DataW.trod_struct hk h
    have hfl:∀ i:Nat,fs[i]? = (f :: fs')[i]?:=fun i=>by rw [← hfs]; simp
    have hsz:fs.size = fs'.length + 1:=by rw [← Array.length_toList,hfs]; simp
    have h0:=hel 0 f (by rw [hfl]; rfl)
    rw [ho,hc,List.getElem?_eq_getElem (by omega)] at h0
    obtain ⟨da,hda,hla,hwa⟩:=jZ5 a ha h0
    have hF:=jYv b (n:=n) (fs:=fs') (xs:=xs.tail) (cs:=cs) (off:=a.cells) hb (by rw [hl,hs]) (fun i f' hf'=>by
     have:=hel (i + 1) f' (by rw [hfl]; exact hf')
     rw [this]
     cases xs with
     | nil=>simp
     | cons x xs=>rfl) (by simp; omega)
    obtain ⟨db,hdb,hwb⟩:=hF
    refine ⟨(da,db),⟨cs.take a.cells,cs.drop a.cells,(List.take_append_drop _ _).symm,by simpa using hda,hdb⟩,by rw [hl,hs]; rfl,?_⟩
    cases xs with
    | nil=>simp at hx; omega
    | cons x xs =>
     simp only [wt,Rows.uptoBulk,List.map_cons,Rows.uptoBulkAll]
     simp only [List.getElem_cons_zero,List.tail_cons] at hwa hwb
     omega
   ·cases ht
  ·cases ht
theorem fieldsA_of_trod:∀ (ty:Ty) {n:Nat} {fs:List Field} {xs:List (DataW H × List MemPlace)} {cs:List Value} {off:Nat} {k:List Field → Nat → Bool},okA P ty fs off k = true →
 (∀ (i:Nat) (f:Field),fs[i]? = some f → DataW.trod enc P w 0 spare held n f.type ((cs.drop f.offset).take (P.cellsOf f.type)) = xs[i]?) → xs.length = fs.length →
 ∃ (d:ty.den) (fs':List Field) (xs':List (DataW H × List MemPlace)),reads (jZ2 w) ty d ((cs.drop off).take ty.cells) ∧ k fs' (off + ty.cells) = true ∧
  (∀ (i:Nat) (f:Field),fs'[i]? = some f → DataW.trod enc P w 0 spare held n f.type ((cs.drop f.offset).take (P.cellsOf f.type)) = xs'[i]?) ∧ xs'.length = fs'.length ∧
  wt ty d + Rows.uptoBulkAll (xs'.map (·.1)) ≤ Rows.uptoBulkAll (xs.map (·.1))
 | .pair a b,n,fs,xs,cs,off,k,ht,hel,hx=>by
  cases fs with
  | nil=>simp [okA] at ht
  | cons f fs =>
   simp only [okA,Bool.and_eq_true] at ht
   obtain ⟨⟨⟨ho,hc⟩,ha⟩,hb⟩:=ht
   have ho:=Nat.eq_of_beq_eq_true ho
   have hc:=Nat.eq_of_beq_eq_true hc
   cases xs with
   | nil=>simp at hx
   | cons x xs =>
    have h0:=hel 0 f rfl
    rw [ho,hc] at h0
    obtain ⟨da,hda,_,hwa⟩:=jZ5 a ha (by simpa using h0)
    obtain ⟨db,fs',xs',h1,h2,h3,h4,h5⟩:=fieldsA_of_trod b (n:=n) (fs:=fs) (xs:=xs) (cs:=cs) (off:=off + a.cells) (k:=k) hb (fun i f' hf'=>by
     have:=hel (i + 1) f' (by simpa using hf')
     rw [this]; rfl) (by simpa using hx)
    refine ⟨(da,db),fs',xs',⟨(cs.drop off).take a.cells,(cs.drop (off + a.cells)).take b.cells,?_,hda,h1⟩,by rw [← h2]; congr 1; simp [Ty.cells]; omega,h3,h4,by simp only [wt,List.map_cons,Rows.uptoBulkAll]; omega⟩
    rw [← List.drop_drop,← List.take_add]
    rfl
 | .unit,n,fs,xs,cs,off,k,ht,hel,hx=>by
  simp only [okA] at ht
  exact ⟨(),fs,xs,by show (cs.drop off).take 0 = []; simp,by simpa [Ty.cells] using ht,hel,hx,by simp [wt]⟩
 | .int _,_,_,_,_,_,_,ht,_,_=>by simp [okA] at ht
 | .bool,_,_,_,_,_,_,ht,_,_=>by simp [okA] at ht
 | .fnc,_,_,_,_,_,_,ht,_,_=>by simp [okA] at ht
 | .any,_,_,_,_,_,_,ht,_,_=>by simp [okA] at ht
 | .str,_,_,_,_,_,_,ht,_,_=>by simp [okA] at ht
 | .arr _,_,_,_,_,_,_,ht,_,_=>by simp [okA] at ht
 | .rose _ _,_,_,_,_,_,_,ht,_,_=>by simp [okA] at ht
 | .vec _ _,_,_,_,_,_,_,ht,_,_=>by simp [okA] at ht
theorem jYv:∀ (ty:Ty) {n:Nat} {fs:List Field} {xs:List (DataW H × List MemPlace)} {cs:List Value} {off:Nat},okF P ty fs off = true → cs.length = off + ty.cells →
 (∀ (i:Nat) (f:Field),fs[i]? = some f → DataW.trod enc P w 0 spare held n f.type ((cs.drop f.offset).take (P.cellsOf f.type)) = xs[i]?) → xs.length = fs.length →
 ∃ d:ty.den,reads (jZ2 w) ty d (cs.drop off) ∧ wt ty d ≤ Rows.uptoBulkAll (xs.map (·.1))
 | .pair a b,n,fs,xs,cs,off,ht,hl,hel,hx=>by
  cases fs with
  | nil=>simp [okF] at ht
  | cons f fs =>
   simp only [okF,Bool.and_eq_true] at ht
   obtain ⟨⟨⟨ho,hc⟩,ha⟩,hb⟩:=ht
   have ho:=Nat.eq_of_beq_eq_true ho
   have hc:=Nat.eq_of_beq_eq_true hc
   cases xs with
   | nil=>simp at hx
   | cons x xs =>
    have h0:=hel 0 f rfl
    rw [ho,hc] at h0
    obtain ⟨da,hda,_,hwa⟩:=jZ5 a ha (by simpa using h0)
    obtain ⟨db,hdb,hwb⟩:=jYv b (n:=n) (fs:=fs) (xs:=xs) (cs:=cs) (off:=off + a.cells) hb (by rw [hl]; simp [Ty.cells]; omega) (fun i f' hf'=>by
     have:=hel (i + 1) f' (by simpa using hf')
     rw [this]; rfl) (by simpa using hx)
    refine ⟨(da,db),⟨(cs.drop off).take a.cells,cs.drop (off + a.cells),?_,hda,hdb⟩,by simp only [wt,List.map_cons,Rows.uptoBulkAll]; omega⟩
    rw [← List.drop_drop,List.take_append_drop]
 | .unit,n,fs,xs,cs,off,ht,hl,hel,hx=>⟨(),by
  show cs.drop off = []
  rw [List.drop_eq_nil_iff,hl]
  simp [Ty.cells],by simp [wt]⟩
 | .int _,_,_,_,_,_,ht,_,_,_=>by simp [okF] at ht
 | .bool,_,_,_,_,_,ht,_,_,_=>by simp [okF] at ht
 | .fnc,_,_,_,_,_,ht,_,_,_=>by simp [okF] at ht
 | .rose _ _,_,_,_,_,_,ht,_,_,_=>by simp [okF] at ht
 | .any,_,_,_,_,_,ht,_,_,_=>by simp [okF] at ht
 | .str,_,_,_,_,_,ht,_,_,_=>by simp [okF] at ht
 | .arr _,_,_,_,_,_,ht,_,_,_=>by simp [okF] at ht
 | .vec _ _,_,_,_,_,_,ht,_,_,_=>by simp [okF] at ht
end
theorem rv_of_trod (ty:Ty) {r:Reach} {b0:Nat} {t:TypeId} {v:Value} {d:DataW H} {ps:List MemPlace} (ht:okT P ty t = true) (hval:Value.okWide P w r b0 t v)
 (h:DataW.Trod enc P w 0 spare held t v d ps):∃ x:ty.den,rv (jZ2 w) ty x v ∧ wt ty x ≤ Rows.uptoBulk d:=by
 obtain ⟨fuel,h⟩:=h
 obtain ⟨x,hx,_,hwt⟩:=jZ5 ty ht h
 refine ⟨x,⟨v.cells.toList,hx,?_⟩,hwt⟩
 unfold Value.okWide at hval
 cases ty with
 | int k =>
  unfold okT at ht
  split at ht
  ·rename_i k' hk
   obtain ⟨n,rfl⟩:=okWide_int hk (by unfold Value.okWide; rw [hk] at hval ⊢; exact hval)
   rfl
  ·cases ht
 | fnc=>unfold okT at ht; cases ht
 | any=>unfold okT at ht; cases ht
 | rose a b =>
  unfold okT at ht
  split at ht
  ·rename_i hk
   rw [hk] at hval
   obtain ⟨cs,rfl,_⟩:=hval
   simp [Ty.isAgg,Value.cells]
  ·cases ht
 | bool =>
  unfold okT at ht
  split at ht
  ·rename_i hk
   obtain ⟨n,rfl⟩:=okWide_bool hk (by unfold Value.okWide; rw [hk] at hval ⊢; exact hval)
   rfl
  ·cases ht
 | str =>
  unfold okT at ht
  split at ht
  ·rename_i hk
   obtain ⟨n,rfl⟩:=okWide_string hk (by unfold Value.okWide; rw [hk] at hval ⊢; exact hval)
   rfl
  ·cases ht
 | arr e =>
  unfold okT at ht
  split at ht
  ·rename_i hk
   obtain ⟨a,l,c,rfl⟩:=okWide_slice hk (by unfold Value.okWide; rw [hk] at hval ⊢; exact hval)
   rfl
  ·cases ht
 | vec n e =>
  unfold okT at ht
  split at ht
  ·rename_i hk
   rw [hk] at hval
   obtain ⟨cs,rfl,_⟩:=hval
   simp [Ty.isAgg,Value.cells]
  ·cases ht
 | unit=>unfold okT at ht; cases ht
 | pair a b =>
  unfold okT at ht
  split at ht
  ·rename_i hk
   rw [hk] at hval
   obtain ⟨cs,rfl,_⟩:=hval
   simp [Ty.isAgg,Value.cells]
  ·cases ht
theorem rels_of_trod:∀ (tys:List Ty) {r:Reach} {b0:Nat} {ts:List TypeId} {vs:List Value} {ds:List (DataW H)} {ps:List MemPlace},okTs P tys ts = true →
 (∀ (j:Nat) t v,ts[j]? = some t → vs[j]? = some v → Value.okWide P w r b0 t v) → DataW.TrodAll enc P w 0 spare held ts vs ds ps →
 ∃ x:dens tys,RelL (jZ2 w) [] (outs tys x) vs ∧ wts tys x ≤ Rows.uptoBulkAll ds
 | [],_,_,ts,vs,ds,ps,ht,hval,h=>by
  cases ts with
  | cons t ts=>simp [okTs] at ht
  | nil =>
   obtain ⟨rfl,_,_⟩:=trodAll_nil h
   exact ⟨(),rfl,by simp [wts]⟩
 | ty :: tys,_,_,ts,vs,ds,ps,ht,hval,h=>by
  cases ts with
  | nil=>simp [okTs] at ht
  | cons t ts =>
   simp only [okTs,Bool.and_eq_true] at ht
   obtain ⟨v,vs,d,ds,p,q,rfl,rfl,rfl,h1,h2⟩:=trodAll_cons h
   obtain ⟨x,hx,hwx⟩:=rv_of_trod ty ht.1 (hval 0 t v rfl rfl) h1
   obtain ⟨y,hy,hwy⟩:=rels_of_trod tys ht.2 (fun j t v hj hv=>hval (j + 1) t v (by simpa using hj) (by simpa using hv)) h2
   cases tys with
   | nil=>exact ⟨x,⟨v,vs,rfl,hx,hy⟩,by simp only [wts,Rows.uptoBulkAll]; omega⟩
   | cons u us=>exact ⟨(x,y),⟨v,vs,rfl,hx,hy⟩,by simp only [wts,Rows.uptoBulkAll]; omega⟩
theorem trodAll_below {ts:List TypeId} (hl:laidOutB P = true) (hr:∀ t ∈ ts,P.readableRec t = true ∧ t < P.types.size) {W W':World} {sp:Nat → Bool} (hb:Below W.heap.size W W') :
 ∀ {ts':List TypeId} {vs:List Value} {ds:List (DataW H)} {ps:List MemPlace},(∀ t ∈ ts',t ∈ ts) → DataW.TrodAll enc P W 0 (fun _=>true) true ts' vs ds ps →
  (∀ x ∈ ps,x.block < W.heap.size) → (∀ x ∈ ps,sp x.block = true) → DataW.TrodAll enc P W' 0 sp true ts' vs ds ps
 | [],[],[],_,_,h,_,_=>h
 | t :: ts',_ :: _,_ :: _,_,hm,⟨p,q,h1,h2,e⟩,hlt,hsp =>
  ⟨p,q,WideElems.Trod_stays hl (hr t (hm t (by simp))).1 (hr t (hm t (by simp))).2 h1 (fun x hx=>hb.same (hlt x (by rw [e]; simp [hx]))) (fun x hx=>hsp x (by rw [e]; simp [hx])),
    trodAll_below hl hr hb (fun t ht=>hm t (by simp [ht])) h2 (fun x hx=>hlt x (by rw [e]; simp [hx])) (fun x hx=>hsp x (by rw [e]; simp [hx])),e⟩
theorem post_below {f:Func} {s:ChangeSpec} {apart fresh handsOn again:Bool} {W W':World} {args:Array Value} {v:Value} {ds gs:List (DataW H)} {jZh pa pv:List MemPlace}
 (hW:DataW.Whole enc P f.params.toList s.vars apart W args.toList ds gs jZh)
 (hres:∀ (b:Nat) (sp:Nat → Bool) (hd:Bool),DataW.TrodAll enc P W' b sp hd f.resultTypes.toList (v.resultList f.resultTypes.size) (s.fn H (ds ++ gs)).results [])
 (hargs:∀ sp:Nat → Bool,(∀ p ∈ jZh,sp p.block = true) → DataW.TrodAll enc P W' 0 sp true f.params.toList args.toList (s.fn H (ds ++ gs)).args pa)
 (hvars:∀ sp:Nat → Bool,(∀ p ∈ jZh,sp p.block = true) → DataW.TrodVars enc P W' sp s.vars (s.fn H (ds ++ gs)).vars pv)
 (hps:jZh = pa ++ pv) (hb:Below W.heap.size W W')
 (hok:∀ (j:Nat) (t:TypeId) (r:Value),f.resultTypes[j]? = some t → (v.resultList f.resultTypes.size)[j]? = some r → Value.okWide P W' .any 0 t r) :
 s.post enc P f apart fresh handsOn again W args v W':=by
 have hlt:∀ p ∈ jZh,p.block < W.heap.size:=fun p hp=>by simpa using hW.lt p hp
 have hold:∀ p ∈ jZh,(fun b=>decide (b < W.heap.size)) p.block = true:=fun p hp=>by simpa using hW.lt p hp
 refine ⟨ds,gs,jZh,[],pa,pv,hW,hres _ _ _,hargs _ hold,hvars _ hold,hb.frame _,fun _=>?_⟩
 obtain ⟨_,_,_,_,_,hz,hn⟩:=hW
 refine ⟨hok,_,_,([] ++ pa) ++ pv,⟨[] ++ pa,pv,trodAll_append (hargs _ (fun _ _=>rfl)) (hres _ _ _),hvars _ (fun _ _=>rfl),rfl,?_,?_⟩,?_⟩
 ·intro b off hp
  have hp':MemPlace.cell b off ∈ jZh:=by rw [hps]; simpa using hp
  rw [hb.frozen (p:=⟨b,off,none⟩) (hlt _ hp')]
  exact hz b off hp'
 ·intro ha
  have:=hn ha
  rw [hps] at this
  simpa using this
 ·intro p hp _
  rw [hps]
  simpa using hp
def look:List (FuncId × FSpec) → FuncId → Option FSpec
 | [],_=>none
 | p :: l,f=>if Nat.beq f p.1 then some p.2 else look l f
def AllSat (P:Program):List (FuncId × FSpec) → Prop
 | []=>True
 | p :: l=>Sat P p.1 p.2 ∧ AllSat P l
def lookG:List (FuncId × GSpec) → FuncId → Option GSpec
 | [],_=>none
 | p :: l,f=>if Nat.beq f p.1 then some p.2 else lookG l f
def AllSatG (P:Program):List (FuncId × GSpec) → Prop
 | []=>True
 | p :: l=>SatG P p.1 p.2 ∧ AllSatG P l
theorem jV1 {P:Program}:∀ (l:List (FuncId × GSpec)),AllSatG P l → ∀ g sp,lookG l g = some sp → SatG P g sp
 | [],_,g,sp,h=>by simp [lookG] at h
 | p :: l,hl,g,sp,h=>by
  unfold lookG at h
  split at h
  ·rename_i hb
   have:=Nat.eq_of_beq_eq_true hb
   simp at h
   subst this; subst h
   exact hl.1
  ·exact jV1 l hl.2 g sp h
def lookS:List (FuncId × SSpec) → FuncId → Option SSpec
 | [],_=>none
 | p :: l,f=>if Nat.beq f p.1 then some p.2 else lookS l f
def AllSatS (P:Program):List (FuncId × SSpec) → Prop
 | []=>True
 | p :: l=>SatS P p.1 p.2 ∧ AllSatS P l
def AllSatN (P:Program):List (FuncId × GSpec) → Prop
 | []=>True
 | p :: l=>SatN P p.1 p.2 ∧ AllSatN P l
theorem lookN_sound {P:Program}:∀ (l:List (FuncId × GSpec)),AllSatN P l → ∀ g sp,lookG l g = some sp → SatN P g sp
 | [],_,g,sp,h=>by simp [lookG] at h
 | p :: l,hl,g,sp,h=>by
  unfold lookG at h
  split at h
  ·rename_i hb
   have:=Nat.eq_of_beq_eq_true hb
   simp at h
   subst this; subst h
   exact hl.1
  ·exact lookN_sound l hl.2 g sp h
theorem lookS_sound {P:Program}:∀ (l:List (FuncId × SSpec)),AllSatS P l → ∀ g sp,lookS l g = some sp → SatS P g sp
 | [],_,g,sp,h=>by simp [lookS] at h
 | p :: l,hl,g,sp,h=>by
  unfold lookS at h
  split at h
  ·rename_i hb
   have:=Nat.eq_of_beq_eq_true hb
   simp at h
   subst this; subst h
   exact hl.1
  ·exact lookS_sound l hl.2 g sp h
theorem jY3 {P:Program}:∀ (l:List (FuncId × FSpec)),AllSat P l → ∀ g sp,look l g = some sp → Sat P g sp
 | [],_,g,sp,h=>by simp [look] at h
 | p :: l,hl,g,sp,h=>by
  unfold look at h
  split at h
  ·rename_i hb
   have:=Nat.eq_of_beq_eq_true hb
   simp at h
   subst this; subst h
   exact hl.1
  ·exact jY3 l hl.2 g sp h
structure Base where
 P:Program
 ty:TypeId → Option Ty
 ro:TypeId → Bool
def hint0 (loops:FuncId → Nat → List LA) (f:FuncId):Hint:=⟨loops f,fun _=>.split,fun _=>.split,fun _=>0⟩
def mkctx (b:Base) (l:List (FuncId × FSpec)) (g:List (FuncId × GSpec)) (hint:FuncId → Hint):Ctx:=⟨b.P,look l,hint,b.ty,lookG g,b.ro,fun _=>none,fun _=>none,fun _=>none,fun _=>none,fun _=>none,fun _=>none⟩
def mkctxS (b:Base) (l:List (FuncId × FSpec)) (g:List (FuncId × GSpec)) (so:List (FuncId × SSpec)) (ns:List (FuncId × GSpec)) (hint:FuncId → Hint):Ctx:=⟨b.P,look l,hint,b.ty,lookG g,b.ro,lookS so,lookG ns,fun _=>none,fun _=>none,fun _=>none,fun _=>none⟩
theorem jQd {b:Base} {l:List (FuncId × FSpec)} {g:List (FuncId × GSpec)} {hint:FuncId → Hint} (h:AllSat b.P l) (h':AllSatG b.P g):jQa (mkctx b l g hint) :=
 ⟨fun f sp hg=>jY3 l h f sp hg,fun f sp hg=>jV1 g h' f sp hg,(fun f sp hg=>by cases hg),(fun f sp hg=>by cases hg),(fun f sp hg=>by cases hg),(fun f sp hg=>by cases hg),(fun f sp hg=>by cases hg),fun f sp hg=>by cases hg⟩
theorem mkctxS_sound {b:Base} {l:List (FuncId × FSpec)} {g:List (FuncId × GSpec)} {so:List (FuncId × SSpec)} {ns:List (FuncId × GSpec)} {hint:FuncId → Hint} (h:AllSat b.P l) (h':AllSatG b.P g) (h'':AllSatS b.P so) (h3:AllSatN b.P ns):jQa (mkctxS b l g so ns hint) :=
 ⟨fun f sp hg=>jY3 l h f sp hg,fun f sp hg=>jV1 g h' f sp hg,fun f sp hg=>lookS_sound so h'' f sp hg,(fun f sp hg=>lookN_sound ns h3 f sp hg),(fun f sp hg=>by cases hg),(fun f sp hg=>by cases hg),(fun f sp hg=>by cases hg),fun f sp hg=>by cases hg⟩
def lookI:List (FuncId × ISpec) → FuncId → Option ISpec
 | [],_=>none
 | p :: l,g=>if Nat.beq p.1 g then some p.2 else lookI l g
def AllSatI (P:Program):List (FuncId × ISpec) → Prop
 | []=>True
 | p :: l=>SatI P p.1 p.2 ∧ AllSatI P l
theorem lookI_sound {P:Program}:∀ (l:List (FuncId × ISpec)),AllSatI P l → ∀ g sp,lookI l g = some sp → SatI P g sp
 | [],_,g,sp,h=>by simp [lookI] at h
 | p :: l,hl,g,sp,h=>by
  unfold lookI at h
  split at h
  ·rename_i hb
   have:=Nat.eq_of_beq_eq_true hb
   simp at h
   subst this; subst h
   exact hl.1
  ·exact lookI_sound l hl.2 g sp h
def lookP:List (FuncId × HSpec) → FuncId → Option HSpec
 | [],_=>none
 | p :: l,f=>if Nat.beq f p.1 then some p.2 else lookP l f
def AllSatH (P:Program):List (FuncId × HSpec) → Prop
 | []=>True
 | p :: l=>SatH P p.1 p.2 ∧ AllSatH P l
theorem lookP_sound {P:Program}:∀ (l:List (FuncId × HSpec)),AllSatH P l → ∀ g sp,lookP l g = some sp → SatH P g sp
 | [],_,g,sp,h=>by simp [lookP] at h
 | p :: l,hl,g,sp,h=>by
  unfold lookP at h
  split at h
  ·rename_i hb
   have:=Nat.eq_of_beq_eq_true hb
   simp at h
   subst this; subst h
   exact hl.1
  ·exact lookP_sound l hl.2 g sp h
def mkctxH (b:Base) (l:List (FuncId × FSpec)) (g:List (FuncId × GSpec)) (it:List (FuncId × ISpec)) (pr:List (FuncId × HSpec)) (hint:FuncId → Hint):Ctx:={ mkctx b l g hint with iters:=lookI it,procs:=lookP pr }
theorem mkctxH_sound {b:Base} {l:List (FuncId × FSpec)} {g:List (FuncId × GSpec)} {it:List (FuncId × ISpec)} {pr:List (FuncId × HSpec)} {hint:FuncId → Hint} (h:AllSat b.P l) (h':AllSatG b.P g) (h'':AllSatI b.P it) (h3:AllSatH b.P pr):jQa (mkctxH b l g it pr hint) :=
 ⟨fun f sp hg=>jY3 l h f sp hg,fun f sp hg=>jV1 g h' f sp hg,(fun f sp hg=>by cases hg),(fun f sp hg=>by cases hg),(fun f sp hg=>lookI_sound it h'' f sp hg),(fun f sp hg=>by cases hg),(fun f sp hg=>lookP_sound pr h3 f sp hg),fun f sp hg=>by cases hg⟩
def lookO:List (FuncId × OSpec) → FuncId → Option OSpec
 | [],_=>none
 | p :: l,f=>if Nat.beq f p.1 then some p.2 else lookO l f
def AllSatO (P:Program):List (FuncId × OSpec) → Prop
 | []=>True
 | p :: l=>SatO P p.1 p.2 ∧ AllSatO P l
theorem lookO_sound {P:Program}:∀ (l:List (FuncId × OSpec)),AllSatO P l → ∀ g sp,lookO l g = some sp → SatO P g sp
 | [],_,g,sp,h=>by simp [lookO] at h
 | p :: l,hl,g,sp,h=>by
  unfold lookO at h
  split at h
  ·rename_i hb
   have:=Nat.eq_of_beq_eq_true hb
   simp at h
   subst this; subst h
   exact hl.1
  ·exact lookO_sound l hl.2 g sp h
def mkctxO (b:Base) (l:List (FuncId × FSpec)) (g:List (FuncId × GSpec)) (so:List (FuncId × SSpec)) (ns:List (FuncId × GSpec)) (it:List (FuncId × ISpec)) (mu:List (FuncId × OSpec)) (hint:FuncId → Hint):Ctx :=
 { mkctxS b l g so ns hint with iters:=lookI it,muts:=lookO mu }
theorem jQ9 {b:Base} {l:List (FuncId × FSpec)} {g:List (FuncId × GSpec)} {so:List (FuncId × SSpec)} {ns:List (FuncId × GSpec)} {it:List (FuncId × ISpec)} {mu:List (FuncId × OSpec)} {hint:FuncId → Hint} (h:AllSat b.P l) (h':AllSatG b.P g)
 (h'':AllSatS b.P so) (h3:AllSatN b.P ns) (h4:AllSatI b.P it) (h5:AllSatO b.P mu):jQa (mkctxO b l g so ns it mu hint) :=
 ⟨fun f sp hg=>jY3 l h f sp hg,fun f sp hg=>jV1 g h' f sp hg,fun f sp hg=>lookS_sound so h'' f sp hg,(fun f sp hg=>lookN_sound ns h3 f sp hg),(fun f sp hg=>lookI_sound it h4 f sp hg),(fun f sp hg=>by cases hg),(fun f sp hg=>by cases hg),fun f sp hg=>lookO_sound mu h5 f sp hg⟩
def lawSp (ps:List Ty):FSpec:=⟨ps,[.bool],fun _=>True,fun _=>true⟩
theorem law_contract0 {f:FuncId} {fn:Func} {s:ChangeSpec} {tys:List Ty} {pre:dens tys → Prop} {bt:TypeId} {W:World} {r:Reach} {base:Nat} {args:Array Value} {ds gs:List (DataW H)} {jZh:List MemPlace}
 (hsat:Sat P f ⟨tys,[.bool],pre,fun _=>true⟩) (hpre:∀ x,wts tys x ≤ Rows.uptoBulkAll ds → pre x) (hl:laidOutB P = true)
 (hr:(fn.params.toList.all fun t=>P.readableRec t && decide (t < P.types.size)) = true) (hty:okTs P tys fn.params.toList = true)
 (hvars:s.vars = []) (hs:∀ ds:List (DataW H),ds.length = fn.params.size → s.fn H (ds ++ []) = { results:=[.lit (.bool true)],args:=ds })
 (hres:fn.resultTypes = #[bt]) (hbt:P.underlying bt = some .bool)
 (hval:∀ (j:Nat) t v,fn.params[j]? = some t → args[j]? = some v → Value.okWide P W r base t v)
 (hW:DataW.Whole enc P fn.params.toList s.vars false W args.toList ds gs jZh) (hgl:Gl P (jZ2 W)) :
 Calls P f args W fun e W'=>∃ v,e = .returned v ∧ s.post enc P fn false true false false W args v W':=by
 have hW':=hW
 obtain ⟨p,q,hA,hV,rfl,hfz,hnd⟩:=hW
 rw [hvars] at hV
 obtain ⟨rfl,rfl⟩:=trodVars_none hV
 obtain ⟨x,hx,hwx⟩:=rels_of_trod tys hty (fun j t v hj hv=>hval j t v (by simpa using hj) (by simpa using hv)) hA
 have hds:ds.length = fn.params.size:=by
  have:∀ {ts:List TypeId} {vs:List Value} {ds:List (DataW H)} {ps:List MemPlace},DataW.TrodAll enc P W 0 (fun _=>true) true ts vs ds ps → ds.length = ts.length:=by
   intro ts
   induction ts with
   | nil=>intro vs ds ps h; obtain ⟨_,rfl,_⟩:=trodAll_nil h; rfl
   | cons t ts ih=>intro vs ds ps h; obtain ⟨v,vs,d,ds,p,q,rfl,rfl,rfl,h1,h2⟩:=trodAll_cons h; simp [ih h2]
  simpa using this hA
 have hlt:∀ y ∈ p,y.block < W.heap.size:=fun y hy=>by simpa using hW'.lt y (by simpa using hy)
 refine (hsat (jZ2 W) W x args.toList (cellsPr_prom W) hgl hx (hpre x hwx)).mono fun e W' ⟨v,Ψ',he,hb,_,_,hv⟩=>?_
 have hv:rv Ψ' .bool true v:=hv
 obtain ⟨cs,hcs,hcv⟩:=hv
 have hcs:cs = [.bool true]:=hcs
 have hcv:cs = [v]:=hcv
 have e2:v = .bool true:=by rw [hcs] at hcv; simpa using hcv.symm
 subst e2
 have hr':∀ t ∈ fn.params.toList,P.readableRec t = true ∧ t < P.types.size:=fun t ht=>by
  have:=List.all_eq_true.1 hr t ht
  simpa using this
 refine ⟨_,he,post_below (pa:=p) (pv:=[]) hW' (fun b sp hd=>?_) (fun sp hsp=>?_) (fun sp _=>?_) (by simp) hb (ok_one hres rfl (okWide_bool_mk hbt _))⟩
 ·rw [hs ds hds,hres]
  exact trodAll_cons_mk (shut_bool hbt _) trodAll_mk0
 ·rw [hs ds hds]
  exact trodAll_below hl hr' hb (fun t ht=>ht) hA hlt (fun y hy=>hsp y (by simpa using hy))
 ·rw [hs ds hds,hvars]
  rfl
theorem law_contract {f:FuncId} {fn:Func} {s:ChangeSpec} {tys:List Ty} {bt:TypeId} {W:World} {r:Reach} {base:Nat} {args:Array Value} {ds gs:List (DataW H)} {jZh:List MemPlace}
 (hsat:Sat P f (lawSp tys)) (hl:laidOutB P = true) (hr:(fn.params.toList.all fun t=>P.readableRec t && decide (t < P.types.size)) = true) (hty:okTs P tys fn.params.toList = true)
 (hvars:s.vars = []) (hs:∀ ds:List (DataW H),ds.length = fn.params.size → s.fn H (ds ++ []) = { results:=[.lit (.bool true)],args:=ds })
 (hres:fn.resultTypes = #[bt]) (hbt:P.underlying bt = some .bool)
 (hval:∀ (j:Nat) t v,fn.params[j]? = some t → args[j]? = some v → Value.okWide P W r base t v)
 (hW:DataW.Whole enc P fn.params.toList s.vars false W args.toList ds gs jZh) (hgl:Gl P (jZ2 W)) :
 Calls P f args W fun e W'=>∃ v,e = .returned v ∧ s.post enc P fn false true false false W args v W' :=
 law_contract0 hsat (fun _ _=>trivial) hl hr hty hvars hs hres hbt hval hW hgl
end
end Go.AM
namespace Go.PL
open Go.AM
theorem i64_iff {n:Int}:isI64 n ↔ -9223372036854775808 ≤ n ∧ n ≤ 9223372036854775807:=Iff.rfl
theorem drop_step {α:Type} (v:List α) (d:α) {i:Int} (h0:0 ≤ i) (h1:i < v.length):v.drop i.toNat = v.getD i.toNat d :: v.drop (i + 1).toNat:=by
 have e:(i + 1).toNat = i.toNat + 1:=by omega
 have h:i.toNat < v.length:=by omega
 rw [e,List.drop_eq_getElem_cons h,List.getD_eq_getElem?_getD,List.getElem?_eq_getElem h]
 rfl
theorem drop_end {α:Type} (v:List α) {i:Int} (h:¬ i < (v.length:Int)):v.drop i.toNat = []:=by
 rw [List.drop_eq_nil_iff]
 omega
end Go.PL
namespace Go.Proofs.YtcnpblceamgfcaaGreatDoor
open Go.AM Go.PL
abbrev I:Ty:=.int .i64
abbrev U8:Ty:=.int .u8
abbrev U32:Ty:=.int .u32
abbrev U64:Ty:=.int .u64
abbrev L:Ty:=.arr I
abbrev BY:Ty:=.arr U8
abbrev SS:Ty:=.arr .str
abbrev DG:Ty:=.vec 16 U8
abbrev DL:Ty:=.arr DG
abbrev W8:Ty:=.vec 8 U32
abbrev W4:Ty:=.vec 4 U32
abbrev W64:Ty:=.vec 64 U32
abbrev B64:Ty:=.vec 64 U8
abbrev B32:Ty:=.vec 32 U8
abbrev SM:Ty:=.pair W8 (.pair B64 (.pair U64 .unit))
abbrev AT:Ty:=.pair .str (.pair I (.pair I (.pair .str .unit)))
abbrev AL:Ty:=.arr AT
abbrev EN:Ty:=.pair I (.pair I (.pair I (.pair I (.pair I (.pair I (.pair I (.pair L (.pair AL .unit))))))))
abbrev RW:Ty:=.pair EN (.pair I .unit)
abbrev RL:Ty:=.arr RW
abbrev DF:Ty:=.pair .str (.pair I (.pair I (.pair I (.pair SS .unit))))
abbrev SC:Ty:=.pair I (.pair I (.pair (.arr DF) .unit))
abbrev EV:Ty:=.pair I (.pair I (.pair I (.pair I (.pair I (.pair I (.pair I (.pair L (.pair AL (.pair DG .unit)))))))))
abbrev BO:Ty:=.pair SC (.pair I (.pair I (.pair L (.pair RL .unit))))
abbrev FC:Ty:=.pair I (.pair I (.pair I (.pair I (.pair I (.pair I (.pair I (.pair DG .unit)))))))
abbrev GO:Ty:=.pair I (.pair I (.pair I (.pair I (.pair DG .unit))))
abbrev MK:Ty:=.pair DG (.pair DG (.pair I .unit))
abbrev RT:Ty:=.pair I (.pair I (.pair I (.pair I (.pair DG (.pair DG (.pair (.arr MK) (.pair DG (.pair I (.pair DG (.pair I (.pair I (.pair DG .unit))))))))))))
abbrev DY:Ty:=.pair I (.pair I .unit)
abbrev BK:Ty:=.pair BO (.pair I .unit)
abbrev FO:Ty:=.pair BO (.pair I (.pair I .unit))
def tyB (t:TypeId):Option Ty :=
 if Nat.beq t 3 then some I else
 if Nat.beq t 4 then some .bool else
 if Nat.beq t 5 then some U8 else
 if Nat.beq t 147 then some U32 else
 if Nat.beq t 130 then some U64 else
 if Nat.beq t 9 then some .str else
 if Nat.beq t 31 then some DG else
 if Nat.beq t 30 then some DG else
 if Nat.beq t 148 then some W8 else
 if Nat.beq t 212 then some W4 else
 if Nat.beq t 210 then some W64 else
 if Nat.beq t 149 then some B64 else
 if Nat.beq t 155 then some B32 else
 if Nat.beq t 151 then some SM else
 if Nat.beq t 79 then some BY else
 if Nat.beq t 26 then some L else
 if Nat.beq t 80 then some SS else
 if Nat.beq t 111 then some AT else
 if Nat.beq t 27 then some AL else
 if Nat.beq t 56 then some EN else
 if Nat.beq t 58 then some RW else
 if Nat.beq t 37 then some RL else
 if Nat.beq t 101 then some DF else
 if Nat.beq t 22 then some (.arr DF) else
 if Nat.beq t 24 then some SC else
 if Nat.beq t 33 then some EV else
 if Nat.beq t 25 then some (.arr EV) else
 if Nat.beq t 39 then some BO else
 if Nat.beq t 35 then some FC else
 if Nat.beq t 52 then some GO else
 if Nat.beq t 48 then some (.arr GO) else
 if Nat.beq t 46 then some DL else
 if Nat.beq t 105 then some BK else
 if Nat.beq t 69 then some RT else
 if Nat.beq t 244 then some MK else
 if Nat.beq t 66 then some (.arr MK) else
 if Nat.beq t 67 then some DG else
 if Nat.beq t 75 then some FO else
 if Nat.beq t 193 then some DY else
 if Nat.beq t 191 then some (.arr DY) else
 none
noncomputable def bs:Base:=⟨Tryz.prog,tyB,fun t =>
 Nat.beq t 31 || Nat.beq t 3 || Nat.beq t 56 || Nat.beq t 33 || Nat.beq t 58 || Nat.beq t 39 || Nat.beq t 101 || Nat.beq t 24 || Nat.beq t 111 || Nat.beq t 69⟩
end Go.Proofs.YtcnpblceamgfcaaGreatDoor
namespace Go.PL
open Go.AM
def w32 (n:Int):Int:=IntKind.u32.wrap n
def or32 (a b:Int):Int:=jQ7 .or .u32 a b
def xor32 (a b:Int):Int:=jQ7 .xor .u32 a b
def and32 (a b:Int):Int:=jQ7 .and .u32 a b
def rotr (x:Int) (i:Nat):Int:=or32 (w32 (x * 2 ^ (32 - i))) (x / 2 ^ i)
def mix3 (x:Int) (i j k:Nat):Int:=xor32 (xor32 (rotr x i) (rotr x j)) (rotr x k)
def wfold (l:List Int):Int:=l.foldl (fun z c=>or32 (w32 (z * 256)) (w32 c)) 0
def sword (w:List Int) (t:Nat):Int :=
 w32 (w32 (w32 (w.getD (t - 16) 0 + xor32 (xor32 (rotr (w.getD (t - 15) 0) 7) (rotr (w.getD (t - 15) 0) 18)) (w.getD (t - 15) 0 / 2 ^ 3)) + w.getD (t - 7) 0)
  + xor32 (xor32 (rotr (w.getD (t - 2) 0) 17) (rotr (w.getD (t - 2) 0) 19)) (w.getD (t - 2) 0 / 2 ^ 10))
def sched (b:List Int):Nat → List Int
 | 0=>List.replicate 64 0
 | t + 1=>(sched b t).set t (if t < 16 then wfold ((b.drop (4 * t)).take 4) else sword (sched b t) t)
theorem sched_len (b:List Int):∀ t,(sched b t).length = 64
 | 0=>by simp [sched]
 | t + 1=>by simp [sched,sched_len b t]
theorem sched_zero (b:List Int):∀ (t j:Nat),t ≤ j → (sched b t).getD j 0 = 0
 | 0,j,_=>by
  simp only [sched,List.getD_eq_getElem?_getD,List.getElem?_replicate]
  split <;> rfl
 | t + 1,j,h=>by
  have:=sched_zero b t j (by omega)
  simp only [sched,List.getD_eq_getElem?_getD] at *
  rw [List.getElem?_set_ne (by omega)]
  exact this
theorem wfold_step (l:List Int) (n:Nat) (h:n < l.length):wfold (l.take (n + 1)) = or32 (w32 (wfold (l.take n) * 256)) (w32 (l.getD n 0)):=by
 have e:l.take (n + 1) = l.take n ++ [l.getD n 0]:=by
  rw [List.take_add_one,List.getElem?_eq_getElem h,List.getD_eq_getElem?_getD,List.getElem?_eq_getElem h]
  rfl
 unfold wfold
 rw [e,List.foldl_append]
 rfl
theorem and31:∀ n ∈ List.range 31,jQ7 .and .u64 (IntKind.u64.wrap (-((n:Int) + 1))) 31 = 31 - (n:Int):=by decide +kernel
theorem sub31:∀ n ∈ List.range 31,IntKind.u64.wrap (32 - (31 - (n:Int))) = (n:Int) + 1:=by decide +kernel
theorem rot_and {s:Int} (h0:-31 ≤ s) (h1:s ≤ -1):jQ7 .and .u64 (IntKind.u64.wrap s) 31 = 32 + s:=by
 have:=and31 (-s - 1).toNat (List.mem_range.2 (by omega))
 rw [show -(((-s - 1).toNat:Int) + 1) = s by omega] at this
 rw [this]
 omega
theorem rot_sub {s:Int} (h0:-31 ≤ s) (h1:s ≤ -1):IntKind.u64.wrap (32 - (32 + s)) = -s:=by
 have:=sub31 (-s - 1).toNat (List.mem_range.2 (by omega))
 rw [show 32 - (31 - ((-s - 1).toNat:Int)) = 32 - (32 + s) by omega] at this
 rw [this]
 omega
end Go.PL
namespace Go.Proofs.YtcnpblceamgfcaaGreatDoor
open Go.AM Go.PL
def hD (f:FuncId):Hint:=⟨fun _=>[],fun _=>.split,fun _=>.split,fun _=>0⟩
def rotSp:FSpec:=⟨[U32,I],[U32],fun x=>-31 ≤ (x.2:Int) ∧ (x.2:Int) ≤ -1,fun x=>rotr x.1 (-(x.2:Int)).toNat⟩
def mixSp:FSpec:=⟨[U32,I,I,I],[U32],fun x=>(1 ≤ (x.2.1:Int) ∧ (x.2.1:Int) ≤ 31) ∧ (1 ≤ (x.2.2.1:Int) ∧ (x.2.2.1:Int) ≤ 31) ∧ (1 ≤ (x.2.2.2:Int) ∧ (x.2.2.2:Int) ≤ 31),fun x=>mix3 x.1 (x.2.1:Int).toNat (x.2.2.1:Int).toNat (x.2.2.2:Int).toNat⟩
noncomputable def A0:Ctx:=mkctx bs [] [] hD
def tA1:List (FuncId × FSpec):=[(183,rotSp)]
noncomputable def A1:Ctx:=mkctx bs tA1 [] hD
abbrev rotq0 (s:Int):=z32 - jQ7 BinOp.and IntKind.u64 (IntKind.u64.wrap s) z31
theorem rot_nf (x s:Int):fnwp A0 6 183 rotSp (x,s) = ((z0 ≤ jQ7 BinOp.and IntKind.u64 (IntKind.u64.wrap s) z31 ∧ jQ7 BinOp.and IntKind.u64 (IntKind.u64.wrap s) z31 ≤
 z32) ∧ (z0 ≤ IntKind.u64.wrap (rotq0 s) ∧ IntKind.u64.wrap (rotq0 s) ≤ z32) ∧ jQ7 BinOp.or IntKind.u32 (IntKind.u32.wrap (x * z2 ^ (jQ7 BinOp.and IntKind.u64
 (IntKind.u64.wrap s) z31).toNat)) (x / z2 ^ (IntKind.u64.wrap (rotq0 s)).toNat) = rotr x (-s).toNat):=by kernel_rfl
theorem mix_nf (x i j k:Int):fnwp A1 6 166 mixSp (x,i,j,k) = (isI64 (z0 - i) ∧ ((-31:Int) ≤ z0 - i ∧ z0 - i ≤ (-1:Int)) ∧ isI64 (z0 - j) ∧ ((-31:Int) ≤ z0 - j ∧ z0 -
 j ≤ (-1:Int)) ∧ isI64 (z0 - k) ∧ ((-31:Int) ≤ z0 - k ∧ z0 - k ≤ (-1:Int)) ∧ jQ7 BinOp.xor IntKind.u32 (jQ7 BinOp.xor IntKind.u32 (rotr x (-(z0 - i)).toNat) (rotr x
 (-(z0 - j)).toNat)) (rotr x (-(z0 - k)).toNat) = mix3 x i.toNat j.toNat k.toNat):=by kernel_rfl
attribute [local irreducible] fnwp fnwpG
theorem A0_sound:jQa A0:=jQd trivial trivial
theorem sat_rot:Sat bs.P 183 rotSp:=jQe A0_sound 6 _ rotSp fun x _ hp=>by
 obtain ⟨x,s,rfl⟩:∃ x0 s0:Int,x = (x0,s0):=⟨x.1,x.2,rfl⟩
 obtain ⟨h0,h1⟩:-31 ≤ s ∧ s ≤ -1:=hp
 rw [rot_nf]; delta rotq0 z0 z2 z31 z32; rw [rot_and h0 h1,rot_sub h0 h1]
 refine ⟨⟨by omega,by omega⟩,⟨by omega,by omega⟩,?_⟩
 show _ = or32 (w32 (x * 2 ^ (32 - (-s).toNat))) (x / 2 ^ (-s).toNat)
 have e:(32 + s).toNat = 32 - (-s).toNat:=by omega
 rw [e]
 rfl
theorem A1_sound:jQa A1:=jQd ⟨sat_rot,trivial⟩ trivial
theorem sat_mix:Sat bs.P 166 mixSp:=jQe A1_sound 6 _ mixSp fun x _ hp=>by
 obtain ⟨x,i,j,k,rfl⟩:∃ x0 i0 j0 k0:Int,x = (x0,i0,j0,k0):=⟨x.1,x.2.1,x.2.2.1,x.2.2.2,rfl⟩
 obtain ⟨⟨h1,h2⟩,⟨h3,h4⟩,h5,h6⟩:(1 ≤ i ∧ i ≤ 31) ∧ (1 ≤ j ∧ j ≤ 31) ∧ (1 ≤ k ∧ k ≤ 31):=hp
 rw [mix_nf]; delta z0
 refine ⟨by unfold isI64; omega,⟨by omega,by omega⟩,by unfold isI64; omega,⟨by omega,by omega⟩,by unfold isI64; omega,⟨by omega,by omega⟩,?_⟩
 rw [show (-(0 - i)) = i by omega,show (-(0 - j)) = j by omega,show (-(0 - k)) = k by omega]
 rfl
end Go.Proofs.YtcnpblceamgfcaaGreatDoor
namespace Go.Proofs.YtcnpblceamgfcaaGreatDoor
open Go.AM Go.PL
def loopsA (f:FuncId) (r:Nat):List LA :=
 if Nat.beq f 165 then bif Nat.beq r 3 then [.slot 11 I,.kdat 0 W64,.kdat 1 W64] else [.slot 24 I,.kdat 0 W64,.kdat 1 W64] else
 if Nat.beq f 133 then [] else
 []
def datA (t:TypeId):Nat:=bif Nat.beq t 210 || Nat.beq t 148 || Nat.beq t 212 || Nat.beq t 155 || Nat.beq t 149 || Nat.beq t 151 || Nat.beq t 31 then 1 else 0
def hintA (f:FuncId):Hint:=if Nat.beq f 999999995 then ⟨fun _=>[],fun _=>.split,fun _=>.split,datA⟩ else ⟨loopsA f,fun _=>.split,fun _=>.split,fun _=>0⟩
def tA2:List (FuncId × FSpec):=[(183,rotSp),(166,mixSp)]
noncomputable def A2:Ctx:=mkctx bs tA2 [] hintA
def schSp:FSpec:=⟨[BY],[W64],fun b=>(b:List Int).length = 64,fun b=>sched b 64⟩
abbrev schq0 (x:Int × List Int × List Int) (b:List Int):=List.take ((z4 * x.1 + z4).toNat - (z4 * x.1).toNat) (List.drop (z4 * x.1).toNat b)
theorem sch_nf (b:List Int):fnwp A2 6 165 schSp b = (LP (z0,[z0,z0,z0,z0,z0,z0,z0,z0,z0,z0,z0,z0,z0,z0,z0,z0,z0,z0,z0,z0,z0,z0,z0,z0,z0,z0,z0,z0,
 z0,z0,z0,z0,z0,z0,z0,z0,z0,z0,z0,z0,z0,z0,z0,z0,z0,z0,z0,z0,z0,z0,z0,z0,z0,z0,z0,z0,z0,z0,z0,z0,z0,z0,z0,z0],[z0,z0,z0,z0,z0,z0,z0,z0,
 z0,z0,z0,z0,z0,z0,z0,z0,z0,z0,z0,z0,z0,z0,z0,z0,z0,z0,z0,z0,z0,z0,z0,z0,z0,z0,z0,z0,z0,z0,z0,z0,z0,z0,z0,z0,z0,z0,z0,z0,z0,z0,z0,z0,
 z0,z0,z0,z0,z0,z0,z0,z0,z0,z0,z0,z0]) fun I μ x=>SD (x.1 < z64) (SD (x.1 < z16) (isI64 (z4 * x.1) ∧ isI64 (z4 * x.1) ∧ isI64 (z4 * x.1 + z4) ∧ (z0 ≤ z4 * x.1 ∧ z4 *
 x.1 ≤ z4 * x.1 + z4 ∧ z4 * x.1 + z4 ≤ (ln b)) ∧ LP (z0,x.2) fun I_1 μ_1 x_1=>SD (x_1.1 < (ln (schq0 x b))) ((IR x_1.1 (schq0 x b)) ∧ (z0 ≤ x.1 ∧ x.1 < z64) ∧ (z0 ≤ z8 ∧ z8 ≤
 z32) ∧ (z0 ≤ x.1 ∧ x.1 < z64) ∧ isI64 (x_1.1 + z1) ∧ NX I_1 μ_1 x_1 (x_1.1 + z1,x_1.2.1,x_1.2.2.set x.1.toNat (jQ7 BinOp.or IntKind.u32 (IntKind.u32.wrap (x_1.2.2.getD
 x.1.toNat z0 * (256:Int))) (IntKind.u32.wrap ((schq0 x b).getD x_1.1.toNat z0))))) (isI64 (x.1 + z1) ∧ NX I μ x (x.1 + z1,x_1.2))) (isI64 (x.1 - z15) ∧ (z0 ≤ x.1 - z15 ∧ x.1
 - z15 < z64) ∧ isI64 (x.1 - z2) ∧ (z0 ≤ x.1 - z2 ∧ x.1 - z2 < z64) ∧ ((-31:Int) ≤ (-7:Int) ∧ (-7:Int) ≤ (-1:Int)) ∧ ((-31:Int) ≤ (-18:Int) ∧ (-18:Int) ≤ (-1 :
 Int)) ∧ (z0 ≤ z3 ∧ z3 ≤ z32) ∧ ((-31:Int) ≤ (-17:Int) ∧ (-17:Int) ≤ (-1:Int)) ∧ ((-31:Int) ≤ (-19:Int) ∧ (-19:Int) ≤ (-1:Int)) ∧ (z0 ≤ z10 ∧ z10 ≤ z32) ∧ isI64
 (x.1 - z16) ∧ (z0 ≤ x.1 - z16 ∧ x.1 - z16 < z64) ∧ isI64 (x.1 - z7) ∧ (z0 ≤ x.1 - z7 ∧ x.1 - z7 < z64) ∧ (z0 ≤ x.1 ∧ x.1 < z64) ∧ isI64 (x.1 + z1) ∧ NX I μ x (x.1 + z1,x.2.1,
 x.2.2.set x.1.toNat (IntKind.u32.wrap (IntKind.u32.wrap (IntKind.u32.wrap (x.2.2.getD (x.1 - z16).toNat z0 + jQ7 BinOp.xor IntKind.u32 (jQ7 BinOp.xor IntKind.u32 (rotr
 (x.2.2.getD (x.1 - z15).toNat z0) (-(-7:Int)).toNat) (rotr (x.2.2.getD (x.1 - z15).toNat z0) (-(-18:Int)).toNat)) (x.2.2.getD (x.1 - z15).toNat z0 / z2 ^ y3)) + x.2.2.getD
 (x.1 - z7).toNat z0) + jQ7 BinOp.xor IntKind.u32 (jQ7 BinOp.xor IntKind.u32 (rotr (x.2.2.getD (x.1 - z2).toNat z0) (-(-17:Int)).toNat) (rotr (x.2.2.getD (x.1 - z2).toNat
 z0) (-(-19:Int)).toNat)) (x.2.2.getD (x.1 - z2).toNat z0 / z2 ^ y10)))))) (x.2.2 = sched b y64)):=by kernel_rfl
attribute [local irreducible] fnwp fnwpG
theorem A2_sound:jQa A2:=jQd ⟨sat_rot,sat_mix,trivial⟩ trivial
theorem sat_sch:Sat bs.P 165 schSp:=jQe A2_sound 6 _ schSp fun x _ hp=>by
 obtain ⟨b,rfl⟩:∃ b:List Int,b = x:=⟨x,rfl⟩
 have hp:b.length = 64:=hp
 rw [sch_nf]; delta schq0 IR LP NX SD ln y10 y3 y64 z0 z1 z10 z15 z16 z2 z3 z32 z4 z64 z7 z8; dsimp only
 refine ⟨fun v=>∃ t:Nat,t ≤ 64 ∧ v.1 = (t:Int) ∧ v.2.2 = sched b t,fun v=>(64 - v.1).toNat,⟨0,by omega,rfl,rfl⟩,?_⟩
 rintro ⟨i,z,w⟩ ⟨t,ht,hi,hw⟩
 simp only at hi hw ⊢
 subst hi hw
 have hT:((t:Int)).toNat = t:=by omega
 refine ⟨fun h=>?_,fun h=>?_⟩
 ·have h:(t:Int) < 64:=of_decide_eq_true h
  refine ⟨fun h16=>?_,fun h16=>?_⟩
  ·have h16:(t:Int) < 16:=of_decide_eq_true h16
   have e1:((4:Int) * (t:Int)).toNat = 4 * t:=by omega
   have e2:((4:Int) * (t:Int) + 4).toNat - (4 * t) = 4:=by omega
   simp only [e1,e2,hT]
   have hl:((b.drop (4 * t)).take 4).length = 4:=by simp; omega
   refine ⟨by unfold isI64; omega,by unfold isI64; omega,by unfold isI64; omega,⟨by omega,by omega,by omega⟩,?_⟩
   refine ⟨fun v=>∃ n:Nat,n ≤ 4 ∧ v.1 = (n:Int) ∧ v.2.2 = (sched b t).set t (wfold (((b.drop (4 * t)).take 4).take n)),fun v=>(4 - v.1).toNat,⟨0,by omega,rfl,?_⟩,?_⟩
   ·show sched b t = (sched b t).set t (wfold [])
    have:=sched_zero b t t (Nat.le_refl _)
    rw [List.getD_eq_getElem?_getD,List.getElem?_eq_getElem (by rw [sched_len]; omega)] at this
    have h0:(sched b t)[t]'(by rw [sched_len]; omega) = wfold []:=this
    rw [← h0,List.set_getElem_self]
   ·rintro ⟨j,z',w'⟩ ⟨n,hn,hj,hw'⟩
    simp only at hj hw' ⊢
    subst hj hw'
    rw [hl]
    have hN:((n:Int)).toNat = n:=by omega
    refine ⟨fun h4=>?_,fun h4=>?_⟩
    ·have h4:(n:Int) < 4:=of_decide_eq_true h4
     have hg:((sched b t).set t (wfold (((b.drop (4 * t)).take 4).take n))).getD t 0 = wfold (((b.drop (4 * t)).take 4).take n):=by
      rw [List.getD_eq_getElem?_getD,List.getElem?_set_self (by rw [sched_len]; omega)]
      rfl
     rw [hg,hN]
     refine ⟨⟨by omega,by omega⟩,⟨by omega,by omega⟩,⟨by omega,by omega⟩,⟨by omega,by omega⟩,by unfold isI64; omega,⟨n + 1,by omega,by omega,?_⟩,by omega⟩
     rw [wfold_step _ n (by rw [hl]; omega),List.set_set]
     rfl
    ·have h4:¬ (n:Int) < 4:=of_decide_eq_false h4
     have:n = 4:=by omega
     subst this
     refine ⟨by unfold isI64; omega,⟨t + 1,by omega,by omega,?_⟩,by omega⟩
     rw [sched,if_pos (by omega),List.take_of_length_le (by rw [hl]; omega)]
  ·have h16:¬ (t:Int) < 16:=of_decide_eq_false h16
   have e1:((t:Int) - 16).toNat = t - 16:=by omega
   have e2:((t:Int) - 15).toNat = t - 15:=by omega
   have e3:((t:Int) - 7).toNat = t - 7:=by omega
   have e4:((t:Int) - 2).toNat = t - 2:=by omega
   simp only [e1,e2,e3,e4,hT]
   refine ⟨by unfold isI64; omega,⟨by omega,by omega⟩,by unfold isI64; omega,⟨by omega,by omega⟩,⟨by omega,by omega⟩,⟨by omega,by omega⟩,⟨by omega,by omega⟩,⟨by omega,by omega⟩,⟨by omega,by omega⟩,⟨by omega,by omega⟩,by unfold isI64; omega,⟨by omega,by omega⟩,
    by unfold isI64; omega,⟨by omega,by omega⟩,⟨by omega,by omega⟩,by unfold isI64; omega,⟨t + 1,by omega,by omega,?_⟩,by omega⟩
   rw [sched,if_neg (by omega)]
   rfl
 ·have h:¬ (t:Int) < 64:=of_decide_eq_false h
  have:t = 64:=by omega
  subst this
  rfl
end Go.Proofs.YtcnpblceamgfcaaGreatDoor
namespace Go.PL
open Go.AM
def rx (w e:List Int) (t:Nat):Int :=
 w32 (w32 (w32 (w32 (e.getD 3 0 + mix3 (e.getD 0 0) 6 11 25) + xor32 (and32 (e.getD 0 0) (e.getD 1 0)) (and32 (xor32 4294967295 (e.getD 0 0)) (e.getD 2 0))) + gdatL.getD t 0) + w.getD t 0)
def ry (v:List Int):Int :=
 w32 (mix3 (v.getD 0 0) 2 13 22 + xor32 (xor32 (and32 (v.getD 0 0) (v.getD 1 0)) (and32 (v.getD 0 0) (v.getD 2 0))) (and32 (v.getD 1 0) (v.getD 2 0)))
def jXo (s w:List Int):Nat → List Int × List Int
 | 0=>((s.drop 0).take 4,(s.drop 4).take 4)
 | t + 1=>([w32 (rx w (jXo s w t).2 t + ry (jXo s w t).1),(jXo s w t).1.getD 0 0,(jXo s w t).1.getD 1 0,(jXo s w t).1.getD 2 0],
  [w32 ((jXo s w t).1.getD 3 0 + rx w (jXo s w t).2 t),(jXo s w t).2.getD 0 0,(jXo s w t).2.getD 1 0,(jXo s w t).2.getD 2 0])
def addS (s v e:List Int):Nat → List Int
 | 0=>s
 | n + 1=>((addS s v e n).set n (w32 ((addS s v e n).getD n 0 + v.getD n 0))).set (n + 4) (w32 (((addS s v e n).set n (w32 ((addS s v e n).getD n 0 + v.getD n 0))).getD (n + 4) 0 + e.getD n 0))
theorem rounds_zero (s w:List Int):jXo s w 0 = ((s.drop 0).take 4,(s.drop 4).take 4):=rfl
theorem rounds_succ (s w:List Int) (t:Nat):jXo s w (t + 1) = ([w32 (rx w (jXo s w t).2 t + ry (jXo s w t).1),(jXo s w t).1.getD 0 0,(jXo s w t).1.getD 1 0,(jXo s w t).1.getD 2 0],
 [w32 ((jXo s w t).1.getD 3 0 + rx w (jXo s w t).2 t),(jXo s w t).2.getD 0 0,(jXo s w t).2.getD 1 0,(jXo s w t).2.getD 2 0]):=rfl
theorem addS_zero (s v e:List Int):addS s v e 0 = s:=rfl
theorem addS_succ (s v e:List Int) (n:Nat):addS s v e (n + 1) = ((addS s v e n).set n (w32 ((addS s v e n).getD n 0 + v.getD n 0))).set (n + 4) (w32 (((addS s v e n).set n (w32 ((addS s v e n).getD n 0 + v.getD n 0))).getD (n + 4) 0 + e.getD n 0)):=rfl
def comp (s b:List Int):List Int:=addS s (jXo s (sched b 64) 64).1 (jXo s (sched b 64) 64).2 4
end Go.PL
namespace Go.Proofs.YtcnpblceamgfcaaGreatDoor
open Go.AM Go.PL
def loopsB (f:FuncId) (r:Nat):List LA :=
 if Nat.beq f 133 then bif Nat.beq r 4 then [.slot 22 I,.kdat 0 W8,.kdat 1 W8,.kdat 2 W64,.kdat 9 W4,.kdat 10 W4] else [.slot 94 I,.kdat 0 W8,.kdat 1 W8,.kdat 9 W4,.kdat 10 W4] else
 []
def hintB (f:FuncId):Hint:=if Nat.beq f 999999995 then ⟨fun _=>[],fun _=>.split,fun _=>.split,datA⟩ else ⟨loopsB f,fun _=>.split,fun _=>.split,fun _=>0⟩
def tA3:List (FuncId × FSpec):=[(183,rotSp),(166,mixSp),(165,schSp)]
noncomputable def A3:Ctx:=mkctx bs tA3 [] hintB
def comSp:FSpec:=⟨[W8,BY],[W8],fun x=>(x.2:List Int).length = 64,fun x=>comp x.1 x.2⟩
abbrev com_nf_t0:Type:=Int × List Int × List Int × List Int × List Int × List Int
abbrev com_nf_t1:Type:=Int × List Int × List Int × List Int × List Int
abbrev comq0 (x:com_nf_t0):=IntKind.u32.wrap (IntKind.u32.wrap (IntKind.u32.wrap (x.2.2.2.2.2.getD y3 z0 + mix3 (x.2.2.2.2.2.getD y0 z0) (Int.toNat z6) (Int.toNat z11)
 (Int.toNat z25)) + jQ7 BinOp.xor IntKind.u32 (jQ7 BinOp.and IntKind.u32 (x.2.2.2.2.2.getD y0 z0) (x.2.2.2.2.2.getD y1 z0)) (jQ7 BinOp.and IntKind.u32 (jQ7 BinOp.xor
 IntKind.u32 (4294967295:Int) (x.2.2.2.2.2.getD y0 z0)) (x.2.2.2.2.2.getD y2 z0))) + gdatL.getD x.1.toNat z0) + x.2.2.2.1.getD x.1.toNat z0
abbrev comq1 (x:com_nf_t1):=x.2.1.set x.1.toNat (IntKind.u32.wrap (x.2.1.getD x.1.toNat z0 + x.2.2.2.1.getD x.1.toNat z0))
theorem com_nf (s b:List Int):fnwp A3 6 133 comSp (s,b) = (b.length = y64 ∧ (z0 ≤ z0 ∧ z0 ≤ z4 ∧ z4 ≤ z8 ∧ z0 < z8) ∧ z4 ≤ z4 ∧ (z0 ≤ z4 ∧ z4 ≤ z8 ∧ z8 ≤ z8 ∧ z4 < z8) ∧ z8
 ≤ z8 ∧ LP (z0,s,[z0,z0,z0,z0,z0,z0,z0,z0],sched b y64,List.take y4 (List.drop y0 s),List.take y4 (List.drop y4 s)) fun I μ x=>SD (x.1 < z64) ((z0 ≤ x.1 ∧ x.1 <
 z64) ∧ (z0 ≤ z3 ∧ z3 < z4) ∧ (z0 ≤ z0 ∧ z0 < z4) ∧ ((z1 ≤ z6 ∧ z6 ≤ z31) ∧ (z1 ≤ z11 ∧ z11 ≤ z31) ∧ z1 ≤ z25 ∧ z25 ≤ z31) ∧ (z0 ≤ z0 ∧ z0 < z4) ∧ (z0 ≤ z1 ∧ z1 < z4) ∧ (z0 ≤ z0
 ∧ z0 < z4) ∧ (z0 ≤ z2 ∧ z2 < z4) ∧ (z0 ≤ x.1 ∧ x.1 < z64) ∧ (z0 ≤ z0 ∧ z0 < z4) ∧ ((z1 ≤ z2 ∧ z2 ≤ z31) ∧ (z1 ≤ z13 ∧ z13 ≤ z31) ∧ z1 ≤ z22 ∧ z22 ≤ z31) ∧ (z0 ≤ z0 ∧ z0 < z4) ∧
 (z0 ≤ z1 ∧ z1 < z4) ∧ (z0 ≤ z0 ∧ z0 < z4) ∧ (z0 ≤ z2 ∧ z2 < z4) ∧ (z0 ≤ z1 ∧ z1 < z4) ∧ (z0 ≤ z2 ∧ z2 < z4) ∧ (z0 ≤ z3 ∧ z3 < z4) ∧ (z0 ≤ z0 ∧ z0 < z4) ∧ (z0 ≤ z1 ∧ z1 < z4) ∧
 (z0 ≤ z2 ∧ z2 < z4) ∧ (z0 ≤ z0 ∧ z0 < z4) ∧ (z0 ≤ z1 ∧ z1 < z4) ∧ (z0 ≤ z2 ∧ z2 < z4) ∧ isI64 (x.1 + z1) ∧ NX I μ x (x.1 + z1,x.2.1,x.2.2.1,x.2.2.2.1,[IntKind.u32.wrap
 (IntKind.u32.wrap (comq0 x) + IntKind.u32.wrap (mix3 (x.2.2.2.2.1.getD y0 z0) (Int.toNat z2) (Int.toNat z13) (Int.toNat z22) + jQ7 BinOp.xor IntKind.u32 (jQ7 BinOp.xor
 IntKind.u32 (jQ7 BinOp.and IntKind.u32 (x.2.2.2.2.1.getD y0 z0) (x.2.2.2.2.1.getD y1 z0)) (jQ7 BinOp.and IntKind.u32 (x.2.2.2.2.1.getD y0 z0) (x.2.2.2.2.1.getD y2 z0)))
 (jQ7 BinOp.and IntKind.u32 (x.2.2.2.2.1.getD y1 z0) (x.2.2.2.2.1.getD y2 z0)))),x.2.2.2.2.1.getD y0 z0,x.2.2.2.2.1.getD y1 z0,x.2.2.2.2.1.getD y2 z0],[IntKind.u32.wrap
 (x.2.2.2.2.1.getD y3 z0 + IntKind.u32.wrap (comq0 x)),x.2.2.2.2.2.getD y0 z0,x.2.2.2.2.2.getD y1 z0,x.2.2.2.2.2.getD y2 z0])) (LP (z0,x.2.1,x.2.2.1,x.2.2.2.2) fun I μ x =>
 SD (x.1 < z4) ((z0 ≤ x.1 ∧ x.1 < z8) ∧ (z0 ≤ x.1 ∧ x.1 < z4) ∧ (z0 ≤ x.1 ∧ x.1 < z8) ∧ isI64 (x.1 + z4) ∧ (z0 ≤ x.1 + z4 ∧ x.1 + z4 < z8) ∧ (z0 ≤ x.1 ∧ x.1 < z4) ∧ (z0 ≤ x.1 +
 z4 ∧ x.1 + z4 < z8) ∧ isI64 (x.1 + z1) ∧ NX I μ x (x.1 + z1,(comq1 x).set (x.1 + z4).toNat (IntKind.u32.wrap ((comq1 x).getD (x.1 + z4).toNat z0 + x.2.2.2.2.getD x.1.toNat
 z0)),x.2.2)) (x.2.1 = comp s b))):=by kernel_rfl
theorem comp_eq (s b:List Int):comp s b = addS s (jXo s (sched b 64) 64).1 (jXo s (sched b 64) 64).2 4:=rfl
attribute [local irreducible] fnwp fnwpG sched jXo addS comp
theorem A3_sound:jQa A3:=jQd ⟨sat_rot,sat_mix,sat_sch,trivial⟩ trivial
theorem sat_com:Sat bs.P 133 comSp:=jQe A3_sound 6 _ comSp fun x _ hp=>by
 obtain ⟨s,b,rfl⟩:∃ s b:List Int,x = (s,b):=⟨x.1,x.2,rfl⟩
 have hp:b.length = 64:=hp
 rw [com_nf]; delta com_nf_t0 com_nf_t1 comq0 comq1 LP NX SD y0 y1 y2 y3 y4 y64 z0 z1 z11 z13 z2 z22 z25 z3 z31 z4 z6 z64 z8; dsimp only
 refine ⟨hp,⟨by omega,by omega,by omega,by omega⟩,by omega,⟨by omega,by omega,by omega,by omega⟩,by omega,?_⟩
 refine ⟨fun x=>∃ t:Nat,t ≤ 64 ∧ x.1 = (t:Int) ∧ x.2.1 = s ∧ x.2.2.2.1 = sched b 64 ∧ x.2.2.2.2.1 = (jXo s (sched b 64) t).1 ∧ x.2.2.2.2.2 = (jXo s (sched b 64) t).2,fun x=>(64 - x.1).toNat,⟨0,by omega,rfl,rfl,rfl,by rw [Go.PL.rounds_zero],by rw [Go.PL.rounds_zero]⟩,?_⟩
 rintro ⟨i,s',z,w,v,e⟩ ⟨t,ht,hi,hs,hw,hv,he⟩
 simp only at hi hs hw hv he ⊢
 subst hi hs hw hv he
 have hT:((t:Int)).toNat = t:=by omega
 simp only [hT]
 refine ⟨fun h=>?_,fun h=>?_⟩
 ·have h:(t:Int) < 64:=of_decide_eq_true h
  repeat' apply And.intro
  all_goals first | omega | (unfold isI64; omega) | skip
  refine ⟨t + 1,by omega,by omega,by first | trivial | rfl,by first | trivial | rfl,?_,?_⟩ <;> rw [Go.PL.rounds_succ] <;> rfl
 ·have h:¬ (t:Int) < 64:=of_decide_eq_false h
  have:t = 64:=by omega
  subst this
  refine ⟨fun x=>∃ n:Nat,n ≤ 4 ∧ x.1 = (n:Int) ∧ x.2.1 = addS s' (jXo s' (sched b 64) 64).1 (jXo s' (sched b 64) 64).2 n ∧ x.2.2.2.1 = (jXo s' (sched b 64) 64).1 ∧ x.2.2.2.2 = (jXo s' (sched b 64) 64).2,fun x=>(4 - x.1).toNat,⟨0,by omega,rfl,by rw [Go.PL.addS_zero],rfl,rfl⟩,?_⟩
  rintro ⟨j,s2,z2,v2,e2⟩ ⟨n,hn,hj,hs2,hv2,he2⟩
  simp only at hj hs2 hv2 he2 ⊢
  subst hj hs2 hv2 he2
  have hN:((n:Int)).toNat = n:=by omega
  have hN4:((n:Int) + 4).toNat = n + 4:=by omega
  simp only [hN,hN4]
  refine ⟨fun h=>?_,fun h=>?_⟩
  ·have h:(n:Int) < 4:=of_decide_eq_true h
   repeat' apply And.intro
   all_goals first | omega | (unfold isI64; omega) | skip
   refine ⟨n + 1,by omega,by omega,?_,by first | trivial | rfl,by first | trivial | rfl⟩
   rw [Go.PL.addS_succ]
   rfl
  ·have h:¬ (n:Int) < 4:=of_decide_eq_false h
   have:n = 4:=by omega
   subst this
   exact (comp_eq _ _).symm
end Go.Proofs.YtcnpblceamgfcaaGreatDoor
namespace Go.Proofs.YtcnpblceamgfcaaGreatDoor
open Go.AM Go.PL
def loopsC (f:FuncId) (r:Nat):List LA :=
 if Nat.beq f 92 then [.slot 1 .str,.kdat 0 SM,.kdat 1 SM] else
 []
def hintCh (f:FuncId):Hint:=if Nat.beq f 999999995 then ⟨fun _=>[],fun _=>.split,fun _=>.split,datA⟩ else ⟨loopsC f,fun _=>.split,fun _=>.split,fun _=>0⟩
def tA4:List (FuncId × FSpec):=[(133,comSp)]
noncomputable def A4:Ctx:=mkctx bs tA4 [] hintCh
end Go.Proofs.YtcnpblceamgfcaaGreatDoor
namespace Go.PL
open Go.AM
abbrev Sm:=List Int × List Int × Int × Unit
def atM (s:Sm):Nat:=(IntKind.i64.wrap (s.2.2.1.tmod 64)).toNat
def kM (s:Sm) (l:List Int):Nat:=min (64 - atM s) l.length
def blkM (s:Sm) (l:List Int):List Int:=s.2.1.take (atM s) ++ l.take (kM s l) ++ s.2.1.drop (atM s + kM s l)
def add1 (s:Sm) (l:List Int):Sm :=
 (if IntKind.i64.wrap (s.2.2.1.tmod 64) + (kM s l:Int) = 64 then comp s.1 (((blkM s l).drop 0).take 64) else s.1,blkM s l,IntKind.u64.wrap (s.2.2.1 + IntKind.u64.wrap (kM s l:Int)),())
def addN:Nat → Sm → List Int → Sm
 | 0,s,_=>s
 | f + 1,s,l=>match l with
  | []=>s
  | c :: l=>addN f (add1 s (c :: l)) ((c :: l).drop (kM s (c :: l)))
def addM (s:Sm) (l:List Int):Sm:=addN l.length s l
theorem addN_nil:∀ (f:Nat) (s:Sm),addN f s [] = s
 | 0,_=>rfl
 | _ + 1,_=>rfl
theorem addN_step (f:Nat) (s:Sm) {l:List Int} (h:l ≠ []):addN (f + 1) s l = addN f (add1 s l) (l.drop (kM s l)):=by
 cases l with
 | nil=>exact absurd rfl h
 | cons c l=>rfl
def okM (s:Sm):Prop:=s.2.1.length = 64 ∧ 0 ≤ s.2.2.1 ∧ s.2.2.1 < 18446744073709551616
theorem at_lt {s:Sm} (h:okM s):IntKind.i64.wrap (s.2.2.1.tmod 64) = s.2.2.1 % 64 ∧ atM s < 64 ∧ (atM s:Int) = s.2.2.1 % 64:=by
 obtain ⟨_,h1,h2⟩:=h
 have e:s.2.2.1.tmod 64 = s.2.2.1 % 64:=Int.tmod_eq_emod_of_nonneg h1
 have h3:=Int.emod_nonneg s.2.2.1 (show (64:Int) ≠ 0 by decide)
 have h4:=Int.emod_lt_of_pos s.2.2.1 (show (0:Int) < 64 by decide)
 have e2:IntKind.i64.wrap (s.2.2.1 % 64) = s.2.2.1 % 64:=by
  unfold IntKind.wrap
  simp [IntKind.bits,IntKind.signed]
  omega
 unfold atM
 rw [e,e2]
 omega
theorem blkM_len {s:Sm} (h:okM s) (l:List Int):(blkM s l).length = 64:=by
 obtain ⟨_,h2,_⟩:=at_lt h
 have h1:=h.1
 have h3:kM s l ≤ l.length:=Nat.min_le_right _ _
 have h4:kM s l ≤ 64 - atM s:=Nat.min_le_left _ _
 unfold blkM
 simp only [List.length_append,List.length_take,List.length_drop,h1]
 omega
theorem wrap64_has (x:Int):0 ≤ IntKind.u64.wrap x ∧ IntKind.u64.wrap x < 18446744073709551616:=by
 unfold IntKind.wrap
 simp [IntKind.bits,IntKind.signed]
 omega
theorem add1_ok {s:Sm} (h:okM s) (l:List Int):okM (add1 s l):=⟨blkM_len h l,wrap64_has _⟩
theorem kM_pos {s:Sm} (h:okM s) {l:List Int} (hl:l ≠ []):1 ≤ kM s l:=by
 obtain ⟨_,h2,_⟩:=at_lt h
 have:0 < l.length:=List.length_pos_iff.2 hl
 unfold kM
 omega
theorem addN_ok:∀ (f:Nat) {s:Sm} (l:List Int),okM s → okM (addN f s l)
 | 0,_,_,h=>h
 | f + 1,s,l,h=>by
  cases l with
  | nil=>exact h
  | cons c l=>exact addN_ok f _ (add1_ok h _)
theorem addM_ok {s:Sm} (l:List Int) (h:okM s):okM (addM s l):=addN_ok _ l h
theorem addN_n:∀ (f:Nat) {s:Sm} (l:List Int),okM s → l.length ≤ f → s.2.2.1 + l.length < 18446744073709551616 → (addN f s l).2.2.1 = s.2.2.1 + l.length
 | 0,s,l,h,hf,hb=>by
  have:l = []:=List.eq_nil_of_length_eq_zero (by omega)
  subst this
  simp [addN]
 | f + 1,s,l,h,hf,hb=>by
  by_cases hl:l = []
  ·subst hl
   simp [addN]
  ·have hk:=kM_pos h hl
   have hk2:kM s l ≤ l.length:=Nat.min_le_right _ _
   have e1:(add1 s l).2.2.1 = s.2.2.1 + kM s l:=by
    have h1:=h.2.1
    show IntKind.u64.wrap (s.2.2.1 + IntKind.u64.wrap (kM s l:Int)) = _
    unfold IntKind.wrap
    simp [IntKind.bits,IntKind.signed]
    omega
   rw [addN_step f s hl,addN_n f _ (add1_ok h l) (by rw [List.length_drop]; omega) (by rw [e1,List.length_drop]; omega),e1,List.length_drop]
   omega
theorem addM_n {s:Sm} (l:List Int) (h:okM s) (hb:s.2.2.1 + l.length < 18446744073709551616):(addM s l).2.2.1 = s.2.2.1 + l.length:=addN_n _ l h (Nat.le_refl _) hb
end Go.PL
namespace Go.Proofs.YtcnpblceamgfcaaGreatDoor
open Go.AM Go.PL
def addSp:FSpec:=⟨[SM,.str],[SM],fun x=>True,fun x=>addM x.1 x.2⟩
abbrev kQl:Type:=List Int × (List Int × List Int × Int × Unit) × List Int × List Int × Int × Unit
abbrev add2q0 (x:kQl):=IntKind.i64.wrap (x.2.1.2.2.1.tmod z64)
abbrev add2q1 (x:kQl):=min (y64 - (add2q0 x).toNat) x.1.length
abbrev add2q3 (x:kQl):=(add2q0 x).toNat + min (y64 - (add2q0 x).toNat) x.1.length
abbrev add2q2 (x:kQl):=List.take y64 (List.drop y0 (List.take (add2q0 x).toNat x.2.1.2.1 ++ List.take (add2q1 x) x.1 ++ List.drop (add2q3 x) x.2.1.2.1))
theorem add_nf2 (st bl:List Int) (n:Int) (l:List Int):fnwp A4 6 92 addSp ((st,bl,n,()),l) = (LP (l,(st,bl,n,()),[z0,z0,z0,z0,z0,z0,z0,z0],[z0,z0,z0,
 z0,z0,z0,z0,z0,z0,z0,z0,z0,z0,z0,z0,z0,z0,z0,z0,z0,z0,z0,z0,z0,z0,z0,z0,z0,z0,z0,z0,z0,z0,z0,z0,z0,z0,z0,z0,z0,z0,z0,z0,z0,z0,z0,z0,
 z0,z0,z0,z0,z0,z0,z0,z0,z0,z0,z0,z0,z0,z0,z0,z0,z0],z0,()) fun I μ x=>SP (!decide (x.1 = bytesOf { data:=#[] })) (z64 ≠ z0 ∧ (z0 ≤ IntKind.i64.wrap
 (x.2.1.2.2.1.tmod z64) ∧ IntKind.i64.wrap (x.2.1.2.2.1.tmod z64) ≤ z64 ∧ z64 ≤ z64 ∧ IntKind.i64.wrap (x.2.1.2.2.1.tmod z64) < z64) ∧ (z0 ≤ (↑(add2q1 x):Int) ∧ (↑(add2q1 x) :
 Int) ≤ (ln x.1)) ∧ isI64 (IntKind.i64.wrap (x.2.1.2.2.1.tmod z64) + (↑(add2q1 x):Int)) ∧ SD (IntKind.i64.wrap (x.2.1.2.2.1.tmod z64) + (↑(add2q1 x):Int) = z64) ((z0 ≤ z0 ∧
 z0 ≤ z64 ∧ z64 ≤ z64 ∧ z0 < z64) ∧ (add2q2 x).length = y64 ∧ NX I μ x (List.drop (↑(add2q1 x):Int).toNat x.1,(comp x.2.1.1 (add2q2 x),List.take (add2q0 x).toNat x.2.1.2.1 ++
 List.take (add2q1 x) x.1 ++ List.drop (add2q3 x) x.2.1.2.1,IntKind.u64.wrap (x.2.1.2.2.1 + IntKind.u64.wrap (↑(add2q1 x):Int)),x.2.1.2.2.2),x.2.2)) (NX I μ x (List.drop
 (↑(add2q1 x):Int).toNat x.1,(x.2.1.1,List.take (add2q0 x).toNat x.2.1.2.1 ++ List.take (add2q1 x) x.1 ++ List.drop (add2q3 x) x.2.1.2.1,IntKind.u64.wrap (x.2.1.2.2.1 +
 IntKind.u64.wrap (↑(add2q1 x):Int)),x.2.1.2.2.2),x.2.2))) (x.2.1 = addM (st,bl,n,()) l)):=by kernel_rfl
attribute [local irreducible] fnwp fnwpG sched jXo addS comp addM addN
theorem A4_sound:jQa A4:=jQd ⟨sat_com,trivial⟩ trivial
theorem has_u64 {n:Int} (h:IntKind.u64.has n):0 ≤ n ∧ n < 18446744073709551616:=by
 unfold IntKind.has at h
 simp [IntKind.min,IntKind.max,IntKind.bits,IntKind.signed] at h
 omega
theorem sat_add:Sat bs.P 92 addSp:=jQe A4_sound 6 _ addSp fun x hok _=>by
 obtain ⟨st,bl,n,l,rfl⟩:∃ (st bl:List Int) (n:Int) (l:List Int),x = ((st,bl,n,()),l):=⟨x.1.1,x.1.2.1,x.1.2.2.1,x.2,rfl⟩
 have hm:okM (st,bl,n,()):=⟨hok.1.2.1.1,has_u64 hok.1.2.2.1⟩
 rw [add_nf2]; delta kQl add2q0 add2q1 add2q3 add2q2 LP NX SD SP ln y0 y64 z0 z64; dsimp only
 obtain ⟨R,hR⟩:∃ R,R = addM (st,bl,n,()) l:=⟨_,rfl⟩
 refine ⟨fun x=>∃ f,x.1.length ≤ f ∧ okM x.2.1 ∧ addN f x.2.1 x.1 = R,fun x=>x.1.length,⟨l.length,Nat.le_refl _,hm,by rw [hR]; unfold addM; rfl⟩,?_⟩
 rintro ⟨l,s,z⟩ ⟨f,hf,hs,he⟩
 simp only at hf hs he ⊢
 obtain ⟨a1,a2,a3⟩:=at_lt hs
 have hbl:=blkM_len hs l
 refine ⟨fun h=>?_,fun h=>?_⟩
 ·have hl:l ≠ []:=by
   intro e
   subst e
   have h:(!decide (([]:List Int) = [])) = true:=h
   simp at h
  have hlp:=List.length_pos_iff.2 hl
  have hk:=kM_pos hs hl
  have hk2:kM s l ≤ l.length:=Nat.min_le_right _ _
  have hk3:kM s l ≤ 64 - atM s:=Nat.min_le_left _ _
  have eT:(((kM s l:Nat):Int)).toNat = kM s l:=Int.toNat_natCast _
  obtain ⟨f',rfl⟩:∃ f',f = f' + 1:=⟨f - 1,by omega⟩
  rw [addN_step f' s hl] at he
  have hI:∀ s',s' = add1 s l → ∃ f,(l.drop (((kM s l:Nat):Int)).toNat).length ≤ f ∧ okM s' ∧ addN f s' (l.drop (((kM s l:Nat):Int)).toNat) = R:=fun s' h'=>by
   subst h'
   rw [eT]
   exact ⟨f',by rw [List.length_drop]; omega,add1_ok hs l,he⟩
  have hmu:(l.drop (((kM s l:Nat):Int)).toNat).length < l.length:=by rw [eT,List.length_drop]; omega
  have hat:0 ≤ IntKind.i64.wrap (s.2.2.1.tmod 64) ∧ IntKind.i64.wrap (s.2.2.1.tmod 64) < 64:=by rw [a1]; omega
  refine ⟨by decide,⟨hat.1,Int.le_of_lt hat.2,by decide,hat.2⟩,⟨Int.natCast_nonneg _,Int.ofNat_le.2 hk2⟩,?_,fun hc=>⟨by decide,?_,hI _ ?_,hmu⟩,fun hc=>⟨hI _ ?_,hmu⟩⟩
  ·show isI64 (IntKind.i64.wrap (s.2.2.1.tmod 64) + ((kM s l:Nat):Int))
   unfold isI64
   omega
  ·show (((blkM s l).drop 0).take 64).length = 64
   rw [List.length_take,List.length_drop,hbl]
   rfl
  ·have hc:IntKind.i64.wrap (s.2.2.1.tmod 64) + ((kM s l:Nat):Int) = 64:=of_decide_eq_true hc
   unfold add1
   rw [if_pos hc]
   rfl
  ·have hc:¬ IntKind.i64.wrap (s.2.2.1.tmod 64) + ((kM s l:Nat):Int) = 64:=of_decide_eq_false hc
   unfold add1
   rw [if_neg hc]
   rfl
 ·have hl:l = []:=by
   have h:(!decide (l = [])) = false:=h
   simpa using h
  subst hl
  rw [addN_nil] at he
  rw [he,hR]
end Go.Proofs.YtcnpblceamgfcaaGreatDoor
namespace Go.PL
open Go.AM
def zz (n:Int):Int:=if n < 0 then 2 * (-1 - n) + 1 else 2 * n
def jK2:Nat → Int → List Int
 | 0,z=>[z]
 | k + 1,z=>if z < 128 then [z] else (z % 128 + 128) :: jK2 k (z / 128)
def encI (n:Int):List Int:=jK2 9 (zz n)
theorem zz_nonneg (n:Int):0 ≤ zz n:=by unfold zz; split <;> omega
theorem zz_lt {n:Int} (h:isI64 n):zz n < 18446744073709551616:=by
 unfold isI64 at h
 unfold zz
 split <;> omega
theorem digits_len:∀ (k:Nat) (z:Int),1 ≤ (jK2 k z).length ∧ (jK2 k z).length ≤ k + 1
 | 0,z=>by simp [jK2]
 | k + 1,z=>by
  unfold jK2
  split
  ·simp
  ·have:=digits_len k (z / 128)
   simp; omega
end Go.PL
namespace Go.Proofs.YtcnpblceamgfcaaGreatDoor
open Go.AM Go.PL
def intG:GSpec:=⟨[I],5,U8,fun _=>True,fun n=>encI n⟩
def loopsW (f:FuncId) (r:Nat):List LA :=
 if Nat.beq f 41 || Nat.beq f 125 then [.gslot 4 5 U8,.slot 3 (.int .u64)]
 else []
noncomputable def W0:Ctx:=mkctx bs [] [] (hint0 loopsW)
theorem int_nf (n:Int):fnwpG W0 5 41 intG n = ((z0 ≤ z1 ∧ z1 ≤ z64) ∧ (z0 ≤ z63 ∧ z63 ≤ z64) ∧ LP (eI,jQ7 BinOp.xor IntKind.u64 (IntKind.u64.wrap (IntKind.u64.wrap n *
 z2)) (IntKind.u64.wrap (n / z2 ^ y63))) fun I μ x=>SD ((127:Int) < x.2) (roomP W0 y5 (x.1.length + [jQ7 BinOp.or IntKind.u8 (IntKind.u8.wrap x.2) (128:Int)].length) ∧
 (z0 ≤ z7 ∧ z7 ≤ z64) ∧ NX I μ x (x.1 ++ [jQ7 BinOp.or IntKind.u8 (IntKind.u8.wrap x.2) (128:Int)],x.2 / z2 ^ y7)) (roomP W0 y5 (x.1.length + [IntKind.u8.wrap x.2].length)
 ∧ x.1 ++ [IntKind.u8.wrap x.2] = encI n)):=by kernel_rfl
abbrev rIntq0 (x:List Int × Int) (I:List Int × Int → Prop) (μ:List Int × Int → Nat):=(128:Int) ≠ z0 ∧ roomP W0 y5 (x.1.length + [IntKind.u8.wrap (IntKind.u8.wrap
 (x.2.tmod (128:Int)) + (128:Int))].length) ∧ (128:Int) ≠ z0 ∧ NX I μ x (x.1 ++ [IntKind.u8.wrap (IntKind.u8.wrap (x.2.tmod (128:Int)) + (128:Int))],IntKind.u64.wrap
 (x.2.tdiv (128:Int)))
theorem rInt_nf (n:Int):fnwpG W0 5 125 intG n = (SD (n < z0) (isI64 ((-1:Int) - n) ∧ LP (eI,IntKind.u64.wrap (IntKind.u64.wrap (IntKind.u64.wrap ((-1:Int) - n) * z2) +
 z1)) fun I μ x=>SD ((128:Int) ≤ x.2) (rIntq0 x I μ) (roomP W0 y5 (x.1.length + [IntKind.u8.wrap x.2].length) ∧ x.1 ++ [IntKind.u8.wrap x.2] = encI n)) (LP (eI,
 IntKind.u64.wrap (IntKind.u64.wrap n * z2)) fun I μ x=>SD ((128:Int) ≤ x.2) (rIntq0 x I μ) (roomP W0 y5 (x.1.length + [IntKind.u8.wrap x.2].length) ∧ x.1 ++ [IntKind.u8.wrap
 x.2] = encI n))):=by kernel_rfl
end Go.Proofs.YtcnpblceamgfcaaGreatDoor
namespace Go.Proofs.YtcnpblceamgfcaaGreatDoor
open Go.AM Go.PL
theorem wrap_u {k:IntKind} (hs:k.signed = false) (x:Int):k.wrap x = x % 2 ^ k.bits:=by
 unfold IntKind.wrap
 simp [hs]
theorem u8w (x:Int):IntKind.u8.wrap x = x % 256:=by rw [wrap_u rfl]; rfl
theorem u64w (x:Int):IntKind.u64.wrap x = x % 18446744073709551616:=by rw [wrap_u rfl]; rfl
theorem i64w {x:Int} (h:isI64 x):IntKind.i64.wrap x = x:=by
 unfold isI64 at h
 unfold IntKind.wrap
 simp [IntKind.bits,IntKind.signed]
 omega
theorem or_128:∀ i:Fin 256,jQ7 .or .u8 (i.1:Int) 128 = (i.1:Int) % 128 + 128:=by decide +kernel
theorem or128 {x:Int} (h0:0 ≤ x) (h1:x < 256):jQ7 .or .u8 x 128 = x % 128 + 128:=by
 obtain ⟨m,rfl⟩:=Int.eq_ofNat_of_zero_le h0
 exact or_128 ⟨m,by omega⟩
theorem toNat_ofInt {x:Int} (h0:0 ≤ x) (h1:x < 18446744073709551616):(BitVec.ofInt 64 x).toNat = x.toNat:=by
 rw [BitVec.toNat_ofInt]
 congr 1
 exact Int.emod_eq_of_lt h0 (by simpa using h1)
theorem uxor_zero {a:Int} (h0:0 ≤ a) (h1:a < 18446744073709551616):jQ7 .xor .u64 a 0 = a:=by
 unfold jQ7
 show IntKind.u64.wrap (((BitVec.ofInt 64 a ^^^ BitVec.ofInt 64 0).toNat:Nat):Int) = _
 have:BitVec.ofInt 64 a ^^^ BitVec.ofInt 64 0 = BitVec.ofInt 64 a:=by simp
 rw [this,toNat_ofInt h0 h1,u64w]
 omega
theorem uxor_max {a:Int} (h0:0 ≤ a) (h1:a < 18446744073709551616):jQ7 .xor .u64 a 18446744073709551615 = 18446744073709551615 - a:=by
 unfold jQ7
 show IntKind.u64.wrap (((BitVec.ofInt 64 a ^^^ BitVec.ofInt 64 18446744073709551615).toNat:Nat):Int) = _
 have e:BitVec.ofInt 64 18446744073709551615 = BitVec.allOnes 64:=by decide
 rw [e,BitVec.xor_allOnes,BitVec.toNat_not,toNat_ofInt h0 h1,u64w]
 omega
theorem zz_bits {n:Int} (h:isI64 n):jQ7 .xor .u64 (IntKind.u64.wrap (IntKind.u64.wrap n * 2)) (IntKind.u64.wrap (n / 2 ^ 63)) = zz n:=by
 unfold isI64 at h
 have e63:((2:Int) ^ 63) = 9223372036854775808:=by decide
 rw [e63]
 unfold zz
 rcases Int.lt_or_le n 0 with hn | hn
 ·have e:n / 9223372036854775808 = -1:=by omega
  rw [e,show IntKind.u64.wrap (-1) = 18446744073709551615 by decide,if_pos hn]
  simp only [u64w]
  rw [uxor_max (by omega) (by omega)]
  omega
 ·have e:n / 9223372036854775808 = 0:=by omega
  rw [e,show IntKind.u64.wrap 0 = 0 by decide,if_neg (by omega)]
  simp only [u64w]
  rw [uxor_zero (by omega) (by omega)]
  omega
theorem bytesU:Tryz.prog.bytesOf 5 = 1:=by kernel_rfl
theorem roomU {C:Ctx} {t:TypeId} {n:Nat} (hb:C.P.bytesOf t = 1) (h:n ≤ 140737488355328):roomP C t n:=by
 unfold roomP
 rw [hb]
 omega
theorem digits_go (m:Nat) (z:Int):jK2 (m + 1) z = if z < 128 then [z] else (z % 128 + 128) :: jK2 m (z / 128):=rfl
theorem sat_int:SatG Tryz.prog 41 intG:=by
 refine jJ2 (C:=W0) (jQd trivial trivial) 5 41 intG fun (n:Int) hk _=>?_
 rw [int_nf]; delta LP NX SD eI y5 y63 y7 z0 z1 z2 z63 z64 z7; dsimp only
 have hk:isI64 n:=jV6.1 hk
 rw [zz_bits hk]
 have hz:=zz_lt hk
 have hz0:=zz_nonneg n
 simp only [decide_eq_true_eq,decide_eq_false_iff_not]
 refine ⟨by omega,by omega,fun x=>∃ m:Nat,0 ≤ x.2 ∧ x.2 < 2 * 128 ^ m ∧ x.1.length + m = 9 ∧ encI n = x.1 ++ jK2 m x.2,fun x=>x.2.toNat,⟨9,hz0,?_,rfl,rfl⟩,fun ⟨o,z⟩ hI=>?_⟩
 ·show zz n < 2 * 128 ^ 9
  omega
 obtain ⟨m,h0,h1,h2,h3⟩:=hI
 simp only at h0 h1 h2 h3 ⊢
 refine ⟨fun hc=>?_,fun hc=>?_⟩
 ·cases m with
  | zero=>simp at h1; omega
  | succ m =>
   rw [u8w,or128 (by omega) (by omega)]
   have e7:((2:Int) ^ 7) = 128:=by decide
   rw [e7]
   have e:z % 256 % 128 + 128 = z % 128 + 128:=by omega
   rw [e]
   rw [Int.pow_succ] at h1
   refine ⟨roomU bytesU (by simp; omega),by omega,⟨m,by omega,by omega,by simp; omega,?_⟩,by omega⟩
   rw [h3,digits_go,if_neg (by omega)]
   simp
 ·have e:z % 256 = z:=by omega
  rw [u8w,e]
  refine ⟨roomU bytesU (by simp; omega),?_⟩
  rw [h3]
  cases m with
  | zero=>rfl
  | succ m=>rw [digits_go,if_pos (by omega)]
theorem pow128:∀ i:Fin 9,(128:Int) ^ i.1 ≤ 72057594037927936:=by decide
theorem rInt_loop {n z0:Int} (hz:zz n = z0) (hk:isI64 n) :
 ∃ (I:List Int × Int → Prop),∃ (μ:List Int × Int → Nat),I ([],z0) ∧ ∀ (x:List Int × Int),I x → (decide ((128:Int) ≤ x.snd) = true → (128:Int) ≠ (0:Int) ∧ roomP W0 (5:Nat)
 (x.fst.length + [IntKind.u8.wrap (IntKind.u8.wrap (x.snd.tmod (128:Int)) + (128:Int))].length) ∧ (128:Int) ≠ (0:Int) ∧ I (x.fst ++ [IntKind.u8.wrap (IntKind.u8.wrap
 (x.snd.tmod (128:Int)) + (128:Int))],IntKind.u64.wrap (x.snd.tdiv (128:Int))) ∧ μ (x.fst ++ [IntKind.u8.wrap (IntKind.u8.wrap (x.snd.tmod (128:Int)) + (128:Int))],
 IntKind.u64.wrap (x.snd.tdiv (128:Int))) < μ x) ∧ (decide ((128:Int) ≤ x.snd) = false → roomP W0 (5:Nat) (x.fst.length + [IntKind.u8.wrap x.snd].length) ∧ x.fst ++
 [IntKind.u8.wrap x.snd] = encI n):=by
 have hz1:=zz_lt hk
 have hz0:=zz_nonneg n
 simp only [decide_eq_true_eq,decide_eq_false_iff_not]
 refine ⟨fun x=>∃ m:Nat,0 ≤ x.2 ∧ x.2 < 2 * 128 ^ m ∧ x.1.length + m = 9 ∧ encI n = x.1 ++ jK2 m x.2,fun x=>x.2.toNat,⟨9,by dsimp only; omega,?_,rfl,by subst hz; rfl⟩,fun ⟨o,z⟩ hI=>?_⟩
 ·show z0 < 2 * 128 ^ 9
  omega
 obtain ⟨m,h0,h1,h2,h3⟩:=hI
 simp only at h0 h1 h2 h3 ⊢
 rw [Int.tmod_eq_emod_of_nonneg h0,Int.tdiv_eq_ediv_of_nonneg h0]
 refine ⟨fun hc=>?_,fun hc=>?_⟩
 ·cases m with
  | zero=>simp at h1; omega
  | succ m =>
   have e:(z % 128 % 256 + 128) % 256 = z % 128 + 128:=by omega
   have hb2:z / 128 < 18446744073709551616:=by
    rw [Int.pow_succ] at h1
    have h4:=pow128 ⟨m,by omega⟩
    simp only at h4
    omega
   simp only [u8w,u64w]
   rw [e,Int.emod_eq_of_lt (by omega) hb2]
   rw [Int.pow_succ] at h1
   refine ⟨by decide,roomU bytesU (by simp; omega),by decide,⟨m,by omega,by omega,by simp; omega,?_⟩,by omega⟩
   rw [h3,digits_go,if_neg (by omega)]
   simp
 ·have e:z % 256 = z:=by omega
  rw [u8w,e]
  refine ⟨roomU bytesU (by simp; omega),?_⟩
  rw [h3]
  cases m with
  | zero=>rfl
  | succ m=>rw [digits_go,if_pos (by omega)]
theorem sat_rInt:SatG Tryz.prog 125 intG:=by
 refine jJ2 (C:=W0) (jQd trivial trivial) 5 125 intG fun (n:Int) hk _=>?_
 rw [rInt_nf]; delta rIntq0 LP NX SD eI y5 z0 z1 z2; dsimp only
 have hk:isI64 n:=jV6.1 hk
 have hk':=hk
 unfold isI64 at hk'
 refine ⟨fun hc=>⟨?_,rInt_loop ?_ hk⟩,fun hc=>rInt_loop ?_ hk⟩
 ·unfold isI64
  have:n < 0:=by simpa using hc
  omega
 ·have:n < 0:=by simpa using hc
  simp only [u64w]
  unfold zz
  rw [if_pos this]
  omega
 ·have:¬ n < 0:=by simpa using hc
  simp only [u64w]
  unfold zz
  rw [if_neg this]
  omega
end Go.Proofs.YtcnpblceamgfcaaGreatDoor
namespace Go.PL
open Go.AM
def jQv (s:List Int):List Int:=encI s.length ++ s
def jQs {α:Type} (one:α → List Int) (l:List α):List Int:=encI l.length ++ l.flatMap one
end Go.PL
namespace Go.Proofs.YtcnpblceamgfcaaGreatDoor
open Go.AM Go.PL
def bytesG:GSpec:=⟨[.str],5,U8,fun s=>(s:List Int).length ≤ 100000,fun s=>jQv s⟩
def jK9 {α:Type} (l:List α):Prop:=l.length ≤ 100000
def intsSp:FSpec:=⟨[L],[BY],fun l=>jK9 (l:List Int),fun l=>jQs encI l⟩
def jKx:FSpec:=⟨[.arr .str],[BY],fun l=>(∀ s ∈ (l:List (List Int)),s.length ≤ 100000) ∧ jK9 (l:List (List Int)),fun l=>jQs jQv l⟩
def loopsX (f:FuncId) (r:Nat):List LA :=
 if Nat.beq f 96 then [.gslot 5 5 U8,.slot 13 I] else
 if Nat.beq f 97 then [.gslot 5 5 U8,.slot 13 I] else
 if Nat.beq f 76 then [.gslot 3 5 U8,.slot 4 I] else
 if Nat.beq f 77 then [.gslot 3 5 U8,.slot 4 I] else
 loopsW f r
def isRGD (f:FuncId):Bool :=
 false
def hintX (f:FuncId):Hint:=⟨loopsX f,fun _=>.split,fun t=>bif isRGD f && Nat.beq t 27 then .force else .split,
 fun r=>bif isRGD f && Nat.beq r 10 then 20 else 0⟩
noncomputable def X0:Ctx:=mkctx bs [(41,intG.data),(125,intG.data)] [(41,intG),(125,intG)] hintX
theorem bytes_nf (s:List Int):fnwpG X0 5 93 bytesG s = (True ∧ roomP X0 y5 ((encI (ln s)).length + s.length) ∧ encI (ln s) ++ s = jQv s):=by kernel_rfl
theorem rBytes_nf (s:List Int):fnwpG X0 5 126 bytesG s = (True ∧ roomP X0 y5 ((encI (ln s)).length + s.length) ∧ encI (ln s) ++ s = jQv s):=by kernel_rfl
theorem ints_nf (l:List Int):fnwp X0 5 55 intsSp l = (True ∧ LP (encI (ln l),z0) fun I μ x=>SD (x.2 < (ln l)) ((IR x.2 l) ∧ True ∧ roomP X0 y5 (x.1.length + (encI (l.getD
 x.2.toNat z0)).length) ∧ isI64 (x.2 + z1) ∧ NX I μ x (x.1 ++ encI (l.getD x.2.toNat z0),x.2 + z1)) (x.1 = jQs encI l)):=by kernel_rfl
theorem rInts_nf (l:List Int):fnwp X0 5 76 intsSp l = (True ∧ LP (encI (ln l),z0) fun I μ x=>SD (x.2 < (ln l)) ((IR x.2 l) ∧ True ∧ roomP X0 y5 (x.1.length + (encI (l.getD
 x.2.toNat z0)).length) ∧ isI64 (x.2 + z1) ∧ NX I μ x (x.1 ++ encI (l.getD x.2.toNat z0),x.2 + z1)) (x.1 = jQs encI l)):=by kernel_rfl
end Go.Proofs.YtcnpblceamgfcaaGreatDoor
namespace Go.PL
open Go.AM
def listI {α:Type} (one:α → List Int) (l:List α) (x:List Int × Int):Prop:=0 ≤ x.2 ∧ x.2 ≤ l.length ∧ jQs one l = x.1 ++ (l.drop x.2.toNat).flatMap one
theorem listI_zero {α:Type} (one:α → List Int) (l:List α):listI one l (encI l.length,0):=⟨Int.le_refl _,by simp,by simp [jQs]⟩
theorem listI_step {α:Type} {one:α → List Int} {l:List α} {x:List Int × Int} (d:α) (h:listI one l x) (hc:x.2 < l.length) :
 listI one l (x.1 ++ one (l.getD x.2.toNat d),x.2 + 1) ∧ x.1.length + (one (l.getD x.2.toNat d)).length ≤ (jQs one l).length:=by
 obtain ⟨h0,h1,h2⟩:=h
 rw [drop_step l d h0 hc,List.flatMap_cons] at h2
 refine ⟨⟨by dsimp only; omega,by dsimp only; omega,by rw [h2,List.append_assoc]⟩,?_⟩
 rw [h2]
 simp only [List.length_append]
 omega
theorem listI_end {α:Type} {one:α → List Int} {l:List α} {x:List Int × Int} (h:listI one l x) (hc:¬ x.2 < l.length):x.1 = jQs one l:=by
 obtain ⟨h0,h1,h2⟩:=h
 rw [drop_end l hc] at h2
 simpa using h2.symm
theorem jJ3 (n:Int):1 ≤ (encI n).length ∧ (encI n).length ≤ 10:=digits_len 9 (zz n)
theorem flat_len {α:Type} {one:α → List Int} {k:Nat}:∀ (l:List α),(∀ x ∈ l,(one x).length ≤ k) → (l.flatMap one).length ≤ k * l.length
 | [],_=>by simp
 | x :: l,h=>by
  have h1:=flat_len l (fun y hy=>h y (by simp [hy]))
  have h2:=h x (by simp)
  simp only [List.flatMap_cons,List.length_append,List.length_cons]
  rw [Nat.mul_add]
  omega
end Go.PL
namespace Go.Proofs.YtcnpblceamgfcaaGreatDoor
open Go.AM Go.PL
theorem satX0:AllSat bs.P [(41,intG.data),(125,intG.data)]:=⟨sat_int.toData,sat_rInt.toData,trivial⟩
theorem satX0G:AllSatG bs.P [(41,intG),(125,intG)]:=⟨sat_int,sat_rInt,trivial⟩
theorem ssX0:jQa X0:=jQd satX0 satX0G
theorem sat_bytes:SatG Tryz.prog 93 bytesG:=by
 refine jJ2 (C:=X0) ssX0 5 93 bytesG fun (s:List Int) hk hp=>?_
 rw [bytes_nf]; delta ln y5
 refine ⟨trivial,?_,rfl⟩
 have hl:s.length ≤ 100000:=hp
 have:=jJ3 (s.length:Int)
 exact roomU bytesU (by omega)
theorem sat_rBytes:SatG Tryz.prog 126 bytesG:=by
 refine jJ2 (C:=X0) ssX0 5 126 bytesG fun (s:List Int) hk hp=>?_
 rw [rBytes_nf]; delta ln y5
 refine ⟨trivial,?_,rfl⟩
 have hl:s.length ≤ 100000:=hp
 have:=jJ3 (s.length:Int)
 exact roomU bytesU (by omega)
theorem ints_room {l:List Int} (h:jK9 l):(jQs encI l).length ≤ 10000000:=by
 unfold jK9 at h
 have h1:=flat_len (one:=encI) (k:=10) l (fun x _=>(jJ3 x).2)
 have h2:=jJ3 (l.length:Int)
 unfold jQs
 rw [List.length_append]
 omega
theorem sat_ints:Sat Tryz.prog 55 intsSp:=by
 refine jQe (C:=X0) ssX0 5 55 intsSp fun (l:List Int) hk hp=>?_
 rw [ints_nf]; delta IR LP NX SD ln y5 z0 z1; dsimp only
 have hr:=ints_room hp
 have hp:l.length ≤ 100000:=hp
 simp only [decide_eq_true_eq,decide_eq_false_iff_not,i64_iff]
 refine ⟨trivial,listI encI l,fun x=>((l.length:Int) - x.2).toNat,listI_zero _ _,fun x hI=>⟨fun hc=>?_,fun hc=>listI_end hI hc⟩⟩
 obtain ⟨h1,h2⟩:=listI_step 0 hI hc
 have h0:=hI.1
 exact ⟨⟨h0,hc⟩,trivial,roomU bytesU (by omega),by omega,h1,by dsimp only; omega⟩
theorem sat_rInts:Sat Tryz.prog 76 intsSp:=by
 refine jQe (C:=X0) ssX0 5 76 intsSp fun (l:List Int) hk hp=>?_
 rw [rInts_nf]; delta IR LP NX SD ln y5 z0 z1; dsimp only
 have hr:=ints_room hp
 have hp:l.length ≤ 100000:=hp
 simp only [decide_eq_true_eq,decide_eq_false_iff_not,i64_iff]
 refine ⟨trivial,listI encI l,fun x=>((l.length:Int) - x.2).toNat,listI_zero _ _,fun x hI=>⟨fun hc=>?_,fun hc=>listI_end hI hc⟩⟩
 obtain ⟨h1,h2⟩:=listI_step 0 hI hc
 have h0:=hI.1
 exact ⟨⟨h0,hc⟩,trivial,roomU bytesU (by omega),by omega,h1,by dsimp only; omega⟩
end Go.Proofs.YtcnpblceamgfcaaGreatDoor
namespace Go.PL
open Go.AM
def begin0:Sm:=([1779033703,3144134277,1013904242,2773480762,1359893119,2600822924,528734635,1541459225],List.replicate 64 0,0,())
def zerosN (n:Int):Nat:=((55 - n) % 64).toNat
def lenB (m:Int) (i:Nat):Int:=IntKind.u8.wrap (m / 2 ^ (56 - 8 * i))
def padL (n:Int):List Int:=(128 :: List.replicate (zerosN n) 0) ++ (List.range 8).map (lenB (IntKind.u64.wrap (8 * n)))
def outB (st:List Int) (i:Nat):Int:=IntKind.u8.wrap (st.getD (i / 4) 0 / 2 ^ (24 - 8 * (i % 4)))
def sumM (s:Sm):List Int:=(List.range 32).map (outB (addM s (padL s.2.2.1)).1)
def hof (tag:Int) (parts:List (List Int)):List Int :=
 (sumM (parts.foldl (fun s p=>addM s (jQv p)) (addM begin0 [IntKind.u8.wrap tag]))).take 16
end Go.PL
namespace Go.Proofs.YtcnpblceamgfcaaGreatDoor
open Go.AM Go.PL
def beginSp:FSpec:=⟨[],[SM],fun _=>True,fun _=>begin0⟩
def sumSp:FSpec:=⟨[SM],[B32],fun s=>(s:Sm).2.2.1 ≤ 1000000000,fun s=>sumM s⟩
def jVy (l:List (List Int)):Prop:=l.length ≤ 1000 ∧ ∀ p ∈ l,p.length ≤ 100000
def ofSp:FSpec:=⟨[I,SS],[DG],fun x=>jVy x.2,fun x=>hof x.1 x.2⟩
def loopsD (f:FuncId) (r:Nat):List LA :=
 if Nat.beq f 94 then (bif Nat.beq r 3 then [.gslot 4 5 U8,.kdat 0 SM,.kdat 1 B32] else bif Nat.beq r 6 then [.slot 23 I,.gslot 4 5 U8,.kdat 0 SM,.kdat 1 B32] else [.slot 40 I,.kdat 0 SM,.kdat 1 B32,.kdat 3 B32]) else
 if Nat.beq f 52 then [.slot 17 I,.kdat 0 DG,.kdat 7 SM] else
 []
def hintDh (f:FuncId):Hint:=if Nat.beq f 999999995 then ⟨fun _=>[],fun _=>.split,fun _=>.split,datA⟩ else if Nat.beq f 999999996 then ⟨fun _=>[],fun _=>.split,fun _=>.split,fun _=>1⟩ else ⟨loopsD f,fun _=>.split,fun _=>.split,fun _=>0⟩
def tA5:List (FuncId × FSpec):=[(92,addSp)]
noncomputable def A5:Ctx:=mkctx bs tA5 [] hintDh
def tA6:List (FuncId × FSpec):=[(92,addSp),(91,beginSp),(94,sumSp),(93,bytesG.data)]
def hintDi (f:FuncId):Hint:=if Nat.beq f 999999995 then ⟨fun _=>[],fun _=>.split,fun _=>.split,datA⟩ else ⟨loopsD f,fun _=>.split,fun _=>.split,fun _=>0⟩
noncomputable def A6:Ctx:=mkctx bs tA6 [] hintDi
theorem begin_nf  : fnwp A5 6 91 beginSp () = (([(1779033703:Int),(3144134277:Int),(1013904242:Int),(2773480762:Int),(1359893119:Int),(2600822924:Int),
 (528734635:Int),(1541459225:Int)],[z0,z0,z0,z0,z0,z0,z0,z0,z0,z0,z0,z0,z0,z0,z0,z0,z0,z0,z0,z0,z0,z0,z0,z0,z0,z0,z0,z0,z0,z0,z0,z0,z0,z0,
 z0,z0,z0,z0,z0,z0,z0,z0,z0,z0,z0,z0,z0,z0,z0,z0,z0,z0,z0,z0,z0,z0,z0,z0,z0,z0,z0,z0,z0,z0],z0,()) = begin0):=by kernel_rfl
theorem sum_nf (st bl:List Int) (n:Int):fnwp A5 6 94 sumSp (st,bl,n,()) = (LP ([(128:Int)],(st,bl,n,()),[z0,z0,z0,z0,z0,z0,z0,z0,z0,z0,z0,z0,z0,z0,
 z0,z0,z0,z0,z0,z0,z0,z0,z0,z0,z0,z0,z0,z0,z0,z0,z0,z0]) fun I μ x=>isI64 (IntKind.i64.wrap x.2.1.2.2.1 + (ln x.1)) ∧ z64 ≠ z0 ∧ SP (!decide ((IntKind.i64.wrap
 x.2.1.2.2.1 + (ln x.1)).tmod z64 = z56)) (roomP A5 y5 (x.1.length + y1) ∧ NX I μ x (x.1 ++ [z0],x.2)) (LP (z0,x) fun I μ x=>SD (x.1 < z8) (isI64 (z8 * x.1) ∧ isI64 (z56 - z8
 * x.1) ∧ (z0 ≤ z56 - z8 * x.1 ∧ z56 - z8 * x.1 ≤ z64) ∧ roomP A5 y5 (x.2.1.length + [IntKind.u8.wrap (IntKind.u64.wrap (z8 * n) / z2 ^ (z56 - z8 * x.1).toNat)].length) ∧ isI64
 (x.1 + z1) ∧ NX I μ x (x.1 + z1,x.2.1 ++ [IntKind.u8.wrap (IntKind.u64.wrap (z8 * n) / z2 ^ (z56 - z8 * x.1).toNat)],x.2.2)) (True ∧ LP (z0,addM x.2.2.1 x.2.1,x.2.2.2,[z0,
 z0,z0,z0,z0,z0,z0,z0,z0,z0,z0,z0,z0,z0,z0,z0,z0,z0,z0,z0,z0,z0,z0,z0,z0,z0,z0,z0,z0,z0,z0,z0]) fun I μ x=>SD (x.1 < z32) ((z4 ≠ z0 ∧ isI64
 (x.1.tdiv z4)) ∧ (z0 ≤ x.1.tdiv z4 ∧ x.1.tdiv z4 < z8) ∧ z4 ≠ z0 ∧ isI64 (z8 * x.1.tmod z4) ∧ isI64 (z24 - z8 * x.1.tmod z4) ∧ (z0 ≤ z24 - z8 * x.1.tmod z4 ∧ z24 - z8 * x.1.tmod
 z4 ≤ z32) ∧ (z0 ≤ x.1 ∧ x.1 < z32) ∧ isI64 (x.1 + z1) ∧ NX I μ x (x.1 + z1,x.2.1,x.2.2.1,x.2.2.2.set x.1.toNat (IntKind.u8.wrap (x.2.1.1.getD (x.1.tdiv z4).toNat z0 / z2 ^
 (z24 - z8 * x.1.tmod z4).toNat)))) (x.2.2.2 = sumM (st,bl,n,()))))):=by kernel_rfl
theorem of_nf (tag:Int) (l:List (List Int)):fnwp A6 6 52 ofSp (tag,l) = (True ∧ True ∧ LP (z0,[z0,z0,z0,z0,z0,z0,z0,z0,z0,z0,z0,z0,z0,z0,z0,z0],addM
 begin0 [IntKind.u8.wrap tag]) fun I μ x=>SD (x.1 < (ln l)) ((IR x.1 l) ∧ (l.getD x.1.toNat eI).length ≤ (100000:Nat) ∧ True ∧ isI64 (x.1 + z1) ∧ NX I μ x (x.1 + z1,x.2.1,
 addM x.2.2 (jQv (l.getD x.1.toNat eI)))) (x.2.2.2.2.1 ≤ (1000000000:Int) ∧ (z0 ≤ z0 ∧ z0 ≤ z16 ∧ z16 ≤ z32 ∧ z0 < z32) ∧ z16 ≤ z16 ∧ List.take y16 (List.drop y0 (sumM
 x.2.2)) = hof tag l)):=by kernel_rfl
end Go.Proofs.YtcnpblceamgfcaaGreatDoor
namespace Go.PL
open Go.AM
theorem range_snoc {α:Type} (f:Nat → α) (n:Nat):(List.range (n + 1)).map f = (List.range n).map f ++ [f n]:=by
 rw [List.range_succ,List.map_append]
 rfl
theorem set_range {α:Type} (f:Nat → α) (z:α) (N n:Nat) (h:n < N):((List.range n).map f ++ List.replicate (N - n) z).set n (f n) = (List.range (n + 1)).map f ++ List.replicate (N - (n + 1)) z:=by
 rw [range_snoc,List.set_append_right _ _ (by simp)]
 simp only [List.length_map,List.length_range,Nat.sub_self]
 rw [show N - n = (N - (n + 1)) + 1 by omega,List.replicate_succ]
 simp
theorem begin_ok:okM begin0:=by unfold okM begin0; decide
theorem encBytes_len {s:List Int} (h:s.length ≤ 100000):(jQv s).length ≤ 100010:=by
 unfold jQv
 have:=jJ3 (s.length:Int)
 simp only [List.length_append]
 omega
theorem foldl_snoc {α β:Type} [Inhabited β] (f:α → β → α) (z:α) (l:List β) (d:β) (n:Nat) (h:n < l.length):(l.take (n + 1)).foldl f z = f ((l.take n).foldl f z) (l.getD n d):=by
 have e:l.take (n + 1) = l.take n ++ [l.getD n d]:=by
  rw [List.take_add_one,List.getElem?_eq_getElem h,List.getD_eq_getElem?_getD,List.getElem?_eq_getElem h]
  rfl
 rw [e,List.foldl_append]
 rfl
end Go.PL
namespace Go.Proofs.YtcnpblceamgfcaaGreatDoor
open Go.AM Go.PL
attribute [local irreducible] fnwp fnwpG sched jXo addS comp addM addN
theorem A5_sound:jQa A5:=jQd ⟨sat_add,trivial⟩ trivial
theorem sat_begin:Sat bs.P 91 beginSp:=jQe A5_sound 6 _ beginSp fun x _ _=>by
 cases x
 rw [begin_nf]; delta z0
 rfl
theorem roomA5 {n:Nat} (h:n ≤ 100000):roomP A5 5 n:=by
 unfold roomP
 have:A5.P.bytesOf 5 = 1:=by kernel_rfl
 rw [this]
 omega
theorem sat_sum:Sat bs.P 94 sumSp:=jQe A5_sound 6 _ sumSp fun x hok hp=>by
 obtain ⟨st,bl,n,rfl⟩:∃ (st bl:List Int) (n:Int),x = (st,bl,n,()):=⟨x.1,x.2.1,x.2.2.1,rfl⟩
 have hp:n ≤ 1000000000:=hp
 have hn:0 ≤ n ∧ n < 18446744073709551616:=has_u64 hok.2.2.1
 have hm:okM (st,bl,n,()):=⟨hok.2.1.1,hn⟩
 have ew:IntKind.i64.wrap n = n:=i64w (by unfold isI64; omega)
 rw [sum_nf]; delta LP NX SD SP ln y1 y5 z0 z1 z2 z24 z32 z4 z56 z64 z8; dsimp only
 have hz:zerosN n < 64 ∧ (zerosN n:Int) = (55 - n) % 64:=by unfold zerosN; omega
 refine ⟨fun x=>∃ t,t ≤ zerosN n ∧ x.1 = 128 :: List.replicate t 0 ∧ x.2.1 = (st,bl,n,()),fun x=>100 - x.1.length,⟨0,by omega,rfl,rfl⟩,?_⟩
 rintro ⟨pad,s,z⟩ ⟨t,ht,hpad,hs⟩
 simp only at hpad hs ⊢
 subst hpad hs
 simp only [ew,List.length_cons,List.length_replicate]
 have et:(n + ((t + 1:Nat):Int)).tmod 64 = (n + (t + 1:Nat)) % 64:=Int.tmod_eq_emod_of_nonneg (by omega)
 rw [et]
 refine ⟨by unfold isI64; omega,by decide,fun h=>?_,fun h=>?_⟩
 ·have h:¬ (n + ((t + 1:Nat):Int)) % 64 = 56:=by simpa using h
  refine ⟨roomA5 (by omega),⟨t + 1,?_,?_,by first | trivial | rfl⟩,?_⟩
  ·omega
  ·rw [List.cons_append,← List.replicate_succ']
  ·simp only [List.length_append,List.length_cons,List.length_replicate,List.length_nil]
   omega
 ·have h:(n + ((t + 1:Nat):Int)) % 64 = 56:=by simpa using h
  have htz:t = zerosN n:=by omega
  subst htz
  refine ⟨fun x=>∃ i:Nat,i ≤ 8 ∧ x.1 = (i:Int) ∧ x.2.1 = (128 :: List.replicate (zerosN n) 0) ++ (List.range i).map (lenB (IntKind.u64.wrap (8 * n))) ∧ x.2.2.1 = (st,bl,n,()),fun x=>(8 - x.1).toNat,⟨0,by omega,rfl,by simp,rfl⟩,?_⟩
  rintro ⟨j,pad,s,z'⟩ ⟨i,hi,hj,hpad,hs⟩
  simp only at hj hpad hs ⊢
  subst hj hpad hs
  refine ⟨fun h=>?_,fun h=>?_⟩
  ·have h:(i:Int) < 8:=of_decide_eq_true h
   have e1:((56:Int) - 8 * (i:Int)).toNat = 56 - 8 * i:=by omega
   rw [e1]
   refine ⟨by unfold isI64; omega,by unfold isI64; omega,⟨by omega,by omega⟩,roomA5 (by simp; omega),by unfold isI64; omega,⟨i + 1,by omega,by omega,?_,by first | trivial | rfl⟩,by omega⟩
   rw [range_snoc,← List.append_assoc]
   rfl
  ·have h:¬ (i:Int) < 8:=of_decide_eq_false h
   have hi8:i = 8:=by omega
   subst hi8
   refine ⟨trivial,fun x=>∃ i:Nat,i ≤ 32 ∧ x.1 = (i:Int) ∧ x.2.1 = addM (st,bl,n,()) (padL n) ∧ x.2.2.2 = (List.range i).map (outB (addM (st,bl,n,()) (padL n)).1) ++ List.replicate (32 - i) 0,fun x=>(32 - x.1).toNat,⟨0,by omega,rfl,rfl,rfl⟩,?_⟩
   rintro ⟨j,s,z2,out⟩ ⟨i,hi,hj,hs,hout⟩
   simp only at hj hs hout ⊢
   subst hj hs hout
   have e2:((i:Int)).tdiv 4 = ((i / 4:Nat):Int):=by
    rw [Int.tdiv_eq_ediv_of_nonneg (by omega)]
    omega
   have e3:((i:Int)).tmod 4 = ((i % 4:Nat):Int):=by
    rw [Int.tmod_eq_emod_of_nonneg (by omega)]
    omega
   have e4:((24:Int) - 8 * ((i % 4:Nat):Int)).toNat = 24 - 8 * (i % 4):=by omega
   simp only [e2,e3,e4,Int.toNat_natCast]
   refine ⟨fun h=>?_,fun h=>?_⟩
   ·have h:(i:Int) < 32:=of_decide_eq_true h
    refine ⟨⟨by decide,by unfold isI64; omega⟩,⟨by omega,by omega⟩,by decide,by unfold isI64; omega,by unfold isI64; omega,⟨by omega,by omega⟩,⟨by omega,by omega⟩,by unfold isI64; omega,⟨i + 1,by omega,by omega,by first | trivial | rfl,?_⟩,by omega⟩
    exact set_range (outB (addM (st,bl,n,()) (padL n)).1) 0 32 i (by omega)
   ·have h:¬ (i:Int) < 32:=of_decide_eq_false h
    have hi8:i = 32:=by omega
    subst hi8
    show _ = sumM (st,bl,n,())
    unfold sumM
    simp
theorem A6_sound:jQa A6:=jQd ⟨sat_add,sat_begin,sat_sum,sat_bytes.toData,trivial⟩ trivial
theorem sat_of:Sat bs.P 52 ofSp:=jQe A6_sound 6 _ ofSp fun x hok hp=>by
 obtain ⟨tag,l,rfl⟩:∃ (tag:Int) (l:List (List Int)),x = (tag,l):=⟨x.1,x.2,rfl⟩
 obtain ⟨hp1,hp2⟩:l.length ≤ 1000 ∧ ∀ p ∈ l,p.length ≤ 100000:=hp
 rw [of_nf]; delta IR LP NX SD eI ln y0 y16 z0 z1 z16 z32; dsimp only
 have hb0:okM (addM begin0 [IntKind.u8.wrap tag]):=addM_ok _ begin_ok
 have hb1:(addM begin0 [IntKind.u8.wrap tag]).2.2.1 = 1:=by
  rw [addM_n _ begin_ok (by show (0:Int) + _ < _; simp)]
  rfl
 refine ⟨trivial,trivial,fun x=>∃ i:Nat,i ≤ l.length ∧ x.1 = (i:Int) ∧ x.2.2 = (l.take i).foldl (fun s p=>addM s (jQv p)) (addM begin0 [IntKind.u8.wrap tag]) ∧ okM x.2.2 ∧ x.2.2.2.2.1 ≤ 1 + 100010 * i,fun x=>(l.length - x.1).toNat,⟨0,by omega,rfl,by simp,hb0,by rw [hb1]; omega⟩,?_⟩
 rintro ⟨j,z,s⟩ ⟨i,hi,hj,hs,hok',hn⟩
 simp only at hj hs hok' hn ⊢
 subst hj
 simp only [Int.toNat_natCast]
 refine ⟨fun h=>?_,fun h=>?_⟩
 ·have h:(i:Int) < l.length:=of_decide_eq_true h
  have hm:l.getD i [] ∈ l:=by
   rw [List.getD_eq_getElem?_getD,List.getElem?_eq_getElem (by omega)]
   exact List.getElem_mem _
  have hl:=hp2 _ hm
  have hle:=encBytes_len hl
  have hn0:=hok'.2.1
  refine ⟨⟨by omega,by omega⟩,hl,trivial,by unfold isI64; omega,⟨i + 1,by omega,by omega,?_,addM_ok _ hok',?_⟩,by omega⟩
  ·rw [foldl_snoc _ _ l [] i (by omega),← hs]
  ·rw [addM_n _ hok' (by omega)]
   omega
 ·have h:¬ (i:Int) < l.length:=of_decide_eq_false h
  have hi8:i = l.length:=by omega
  subst hi8
  refine ⟨by omega,⟨by decide,by decide,by decide,by decide⟩,by decide,?_⟩
  rw [hs,List.take_length]
  rfl
end Go.Proofs.YtcnpblceamgfcaaGreatDoor
namespace Go.Proofs
open Go.Shelf
def Tryz.growS_ren:Go.Shelf.Ren:=⟨fun | 4=>95 | n=>n,fun | 22=>80 | 25=>9 | 3=>3 | 4=>4 | 9=>9 | 20=>20 | 0=>0 | n=>n,fun | n=>n⟩
theorem Tryz.growS:Go.Proofs.Lays8.n4 Tryz.prog Tryz.growS_ren:={
 mixed:=by kernel_rfl
 f4:=⟨Tryz.f95.name,by decide,Tryz.func95.trans (congrArg some (by kernel_rfl))⟩
 t0:=Tryz.underlying0
 a0:=Tryz.isAgg0
 z0:=Tryz.sizeOf0
 v0:=Tryz.zeroValue0
 t3:=Tryz.underlying3
 a3:=Tryz.isAgg3
 z3:=Tryz.sizeOf3
 v3:=Tryz.zeroValue3
 t4:=Tryz.underlying4
 a4:=Tryz.isAgg4
 z4:=Tryz.sizeOf4
 v4:=Tryz.zeroValue4
 t9:=Tryz.underlying9
 a9:=Tryz.isAgg9
 z9:=Tryz.sizeOf9
 v9:=Tryz.zeroValue9
 t20:=Tryz.underlying20
 a20:=Tryz.isAgg20
 z20:=Tryz.sizeOf20
 v20:=Tryz.zeroValue20
 t22:=Tryz.underlying80
 a22:=Tryz.isAgg80
 z22:=Tryz.sizeOf80
 v22:=Tryz.zeroValue80 }
def Tryz.growI_ren:Go.Shelf.Ren:=⟨fun | 4=>123 | n=>n,fun | 22=>26 | 25=>3 | 3=>3 | 4=>4 | 9=>9 | 20=>20 | 0=>0 | n=>n,fun | n=>n⟩
theorem Tryz.growI:Go.Proofs.Lays8.n4 Tryz.prog Tryz.growI_ren:={
 mixed:=by kernel_rfl
 f4:=⟨Tryz.f123.name,by decide,Tryz.func123.trans (congrArg some (by kernel_rfl))⟩
 t0:=Tryz.underlying0
 a0:=Tryz.isAgg0
 z0:=Tryz.sizeOf0
 v0:=Tryz.zeroValue0
 t3:=Tryz.underlying3
 a3:=Tryz.isAgg3
 z3:=Tryz.sizeOf3
 v3:=Tryz.zeroValue3
 t4:=Tryz.underlying4
 a4:=Tryz.isAgg4
 z4:=Tryz.sizeOf4
 v4:=Tryz.zeroValue4
 t9:=Tryz.underlying9
 a9:=Tryz.isAgg9
 z9:=Tryz.sizeOf9
 v9:=Tryz.zeroValue9
 t20:=Tryz.underlying20
 a20:=Tryz.isAgg20
 z20:=Tryz.sizeOf20
 v20:=Tryz.zeroValue20
 t22:=Tryz.underlying26
 a22:=Tryz.isAgg26
 z22:=Tryz.sizeOf26
 v22:=Tryz.zeroValue26 }
def Tryz.growB_ren:Go.Shelf.Ren:=⟨fun | 4=>124 | n=>n,fun | 22=>79 | 25=>5 | 3=>3 | 4=>4 | 9=>9 | 20=>20 | 0=>0 | n=>n,fun | n=>n⟩
theorem Tryz.growB:Go.Proofs.Lays8.n4 Tryz.prog Tryz.growB_ren:={
 mixed:=by kernel_rfl
 f4:=⟨Tryz.f124.name,by decide,Tryz.func124.trans (congrArg some (by kernel_rfl))⟩
 t0:=Tryz.underlying0
 a0:=Tryz.isAgg0
 z0:=Tryz.sizeOf0
 v0:=Tryz.zeroValue0
 t3:=Tryz.underlying3
 a3:=Tryz.isAgg3
 z3:=Tryz.sizeOf3
 v3:=Tryz.zeroValue3
 t4:=Tryz.underlying4
 a4:=Tryz.isAgg4
 z4:=Tryz.sizeOf4
 v4:=Tryz.zeroValue4
 t9:=Tryz.underlying9
 a9:=Tryz.isAgg9
 z9:=Tryz.sizeOf9
 v9:=Tryz.zeroValue9
 t20:=Tryz.underlying20
 a20:=Tryz.isAgg20
 z20:=Tryz.sizeOf20
 v20:=Tryz.zeroValue20
 t22:=Tryz.underlying79
 a22:=Tryz.isAgg79
 z22:=Tryz.sizeOf79
 v22:=Tryz.zeroValue79 }
end Go.Proofs
namespace Go.Proofs.YtcnpblceamgfcaaGreatDoor
open Go.AM Go.PL Go.RowKit
theorem satN_growG {P:Program} {ρ:Go.Shelf.Ren} (L:Lays8.n4 P ρ) (tid:TypeId) (e:Ty) (i0:TypeInfo) (z:Value) (ht:ρ.t 25 = tid) (hi0:P.info? (ρ.t 25) = some i0) (hz0:i0.zero = some z) (hs0:i0.size = e.cells) (hs1:z.cells.size = e.cells) (he:0 < e.cells) (hb:i0.bytes ≤ 16) :
 SatN P (ρ.f 4) ⟨[I],tid,e,fun n=>0 ≤ (n:Int) ∧ (n:Int) ≤ 1000000,fun _=>[]⟩:=by
 subst ht
 intro Ψ w (x:Int) args hprom _ hrel hpre
 obtain ⟨h0,h1⟩:0 ≤ x ∧ x ≤ 1000000:=hpre
 obtain ⟨v,vs',rfl,hv,hl⟩:=hrel
 simp only [RelL] at hl
 subst hl
 obtain ⟨rfl,hh⟩:=jQm.1 hv
 obtain ⟨n,rfl⟩:=Int.eq_ofNat_of_zero_le h0
 have hn:n ≤ 1000000:=by omega
 rcases Nat.eq_zero_or_pos n with e0 | e0
 ·subst e0
  refine (Any8.slices_Grow_room L none 0 0 0 w (by omega) (by omega) (by omega) (by omega)).mono ?_
  rintro e w' ⟨rfl,rfl⟩
  exact ⟨_,Ψ,rfl,Below.refl _ _,fun _ _ h=>h,fun _ _ h=>.inl h,rfl,.inl ⟨none,rfl,rfl⟩,by
   rintro g ⟨m,cap,h1,h2⟩
   simp at h2⟩
 ·have hbig:(0 + n) * i0.bytes ≤ 140737488355328:=by
   have:=Nat.mul_le_mul (show 0 + n ≤ 1000000 by omega) hb
   omega
  refine (Any8.slices_Grow_grow L i0 z hi0 hz0 (by omega) none 0 0 n [] w (by omega) (by omega) hbig (by omega) (by simp) (fun _=>rfl) (by simp)).mono ?_
  rintro e' w' ⟨rfl,rfl⟩
  have hG1:=grownCap_ge w (0 + n) 0 (ρ.t 25)
  have hG2:=grownCap_le_maxLen w (0 + n) 0 (ρ.t 25) (by unfold maxLen; omega)
  generalize grownCap w (0 + n) 0 (ρ.t 25) = G at hG1 hG2 ⊢
  obtain ⟨cur,hcur⟩:∃ cur:Array Value,cur = ([]:List Value).toArray ++ Builtin.zeroCells z.cells (0 + n - 0) ++ Builtin.zeroCells z.cells (G - (0 + n)):=⟨_,rfl⟩
  rw [← hcur]
  refine ⟨_,Ψ,rfl,⟨rfl,rfl,rfl,?_,fun k hk=>?_⟩,fun _ _ h=>h,fun _ _ h=>.inl h,rfl,.inr ⟨w.heap.size,G,cur,rfl,by omega,Nat.lt_irrefl _,?_,Nat.zero_le _,hG2,?_,?_⟩,?_⟩
  ·show _ ≤ (w.heap.push _).size
   simp
  ·show (w.heap.push _)[k]? = _
   rw [Array.getElem?_push,if_neg (by omega)]
  ·show (w.heap.push _)[w.heap.size]? = _
   simp
  ·rw [hcur,Array.size_append,Array.size_append,size_zeroCells,size_zeroCells,hs1]
   show 0 + (0 + n - 0) * e.cells + (G - (0 + n)) * e.cells = G * e.cells
   rw [Nat.zero_add,← Nat.add_mul]
   congr 1
   omega
  ·show cur.toList.take (([]:List e.den).length * e.cells) = ([]:List Value)
   simp
  ·rintro g ⟨m,cap,h1,h2⟩ a ha
   have hg:g = w.heap.size:=by
    simp at h2
    exact h2.1.symm
   cases hp:Ψ a with
   | none=>rfl
   | some u =>
    have h3:=(hprom a u hp).2
    have h4:a.block < w.heap.size:=by
     rcases Nat.lt_or_ge a.block w.heap.size with h5 | h5
     ·exact h5
     ·simp [World.cell?,h5] at h3
    omega
def growSSp:GSpec:=⟨[I],9,.str,fun n=>0 ≤ (n:Int) ∧ (n:Int) ≤ 1000000,fun _=>[]⟩
def growISp:GSpec:=⟨[I],3,I,fun n=>0 ≤ (n:Int) ∧ (n:Int) ≤ 1000000,fun _=>[]⟩
def growBSp:GSpec:=⟨[I],5,U8,fun n=>0 ≤ (n:Int) ∧ (n:Int) ≤ 1000000,fun _=>[]⟩
theorem satN_growS:SatN bs.P 95 growSSp :=
 satN_growG Tryz.growS 9 .str Tryz.t9 (.string ⟨#[]⟩) rfl (by kernel_rfl) rfl rfl rfl (by decide) (by decide)
theorem satN_growI:SatN bs.P 123 growISp :=
 satN_growG Tryz.growI 3 I Tryz.t3 (.int .i64 0) rfl (by kernel_rfl) rfl rfl rfl (by decide) (by decide)
theorem satN_growB:SatN bs.P 124 growBSp :=
 satN_growG Tryz.growB 5 U8 Tryz.t5 (.int .u8 0) rfl (by kernel_rfl) rfl rfl rfl (by decide) (by decide)
def flatOk {α:Type} (ll:List (List α)):Prop:=ll.length ≤ 1000 ∧ ll.flatten.length ≤ 400000
def concatSSp:GSpec:=⟨[.arr SS],9,.str,fun ll=>flatOk (ll:List (List (List Int))),fun ll=>(ll:List (List (List Int))).flatten⟩
def concatISp:GSpec:=⟨[.arr L],3,I,fun ll=>flatOk (ll:List (List Int)),fun ll=>(ll:List (List Int)).flatten⟩
def concatBSp:GSpec:=⟨[.arr BY],5,U8,fun ll=>flatOk (ll:List (List Int)),fun ll=>(ll:List (List Int)).flatten⟩
def loopsCc (f:FuncId) (r:Nat):List LA :=
 if Nat.beq f 53 then (if Nat.beq r 3 then [.slot 11 I,.slot 3 I] else [.slot 27 I,.gslot 6 9 .str]) else
 if Nat.beq f 72 then (if Nat.beq r 3 then [.slot 11 I,.slot 3 I] else [.slot 27 I,.gslot 6 3 I]) else
 if Nat.beq f 73 then (if Nat.beq r 3 then [.slot 11 I,.slot 3 I] else [.slot 27 I,.gslot 6 5 U8]) else
 []
def hintCc (f:FuncId):Hint:=⟨loopsCc f,fun _=>.split,fun _=>.split,fun _=>0⟩
noncomputable def AC:Ctx:=mkctxS bs [] [] [] [(95,growSSp),(123,growISp),(124,growBSp)] hintCc
theorem concatS_nf (ll:List (List (List Int))):fnwpG AC 6 53 concatSSp ll = (LP (z0,z0) fun I μ x=>SD (x.1 < (ln ll)) ((IR x.1 ll) ∧ isI64 (x.2 + (ln (ll.getD x.1.toNat
 eL))) ∧ SD (x.2 + (ln (ll.getD x.1.toNat eL)) < z0) False (isI64 (x.1 + z1) ∧ NX I μ x (x.1 + z1,x.2 + (ln (ll.getD x.1.toNat eL))))) ((z0 ≤ x.2 ∧ x.2 ≤ (1000000:Int)) ∧ LP
 (z0,eL) fun I μ x=>SD (x.1 < (ln ll)) ((IR x.1 ll) ∧ roomP AC y9 (x.2.length + (ll.getD x.1.toNat eL).length) ∧ isI64 (x.1 + z1) ∧ NX I μ x (x.1 + z1,x.2 ++ ll.getD
 x.1.toNat eL)) (x.2 = ll.flatten))):=by kernel_rfl
theorem concatI_nf (ll:List (List Int)):fnwpG AC 6 72 concatISp ll = (LP (z0,z0) fun I μ x=>SD (x.1 < (ln ll)) ((IR x.1 ll) ∧ isI64 (x.2 + (ln (ll.getD x.1.toNat eI))) ∧
 SD (x.2 + (ln (ll.getD x.1.toNat eI)) < z0) False (isI64 (x.1 + z1) ∧ NX I μ x (x.1 + z1,x.2 + (ln (ll.getD x.1.toNat eI))))) ((z0 ≤ x.2 ∧ x.2 ≤ (1000000:Int)) ∧ LP (z0,eI)
 fun I μ x=>SD (x.1 < (ln ll)) ((IR x.1 ll) ∧ roomP AC y3 (x.2.length + (ll.getD x.1.toNat eI).length) ∧ isI64 (x.1 + z1) ∧ NX I μ x (x.1 + z1,x.2 ++ ll.getD x.1.toNat eI))
 (x.2 = ll.flatten))):=by kernel_rfl
theorem concatB_nf (ll:List (List Int)):fnwpG AC 6 73 concatBSp ll = (LP (z0,z0) fun I μ x=>SD (x.1 < (ln ll)) ((IR x.1 ll) ∧ isI64 (x.2 + (ln (ll.getD x.1.toNat eI))) ∧
 SD (x.2 + (ln (ll.getD x.1.toNat eI)) < z0) False (isI64 (x.1 + z1) ∧ NX I μ x (x.1 + z1,x.2 + (ln (ll.getD x.1.toNat eI))))) ((z0 ≤ x.2 ∧ x.2 ≤ (1000000:Int)) ∧ LP (z0,eI)
 fun I μ x=>SD (x.1 < (ln ll)) ((IR x.1 ll) ∧ roomP AC y5 (x.2.length + (ll.getD x.1.toNat eI).length) ∧ isI64 (x.1 + z1) ∧ NX I μ x (x.1 + z1,x.2 ++ ll.getD x.1.toNat eI))
 (x.2 = ll.flatten))):=by kernel_rfl
end Go.Proofs.YtcnpblceamgfcaaGreatDoor
namespace Go.PL
open Go.AM
theorem kQ4 {α:Type} (ll:List (List α)) (n:Nat):(ll.take n).flatten.length ≤ ll.flatten.length:=by
 have h:=congrArg List.length (congrArg List.flatten (List.take_append_drop n ll))
 rw [List.flatten_append,List.length_append] at h
 omega
theorem jY7 {α:Type} (ll:List (List α)) {i:Int} (h0:0 ≤ i) (h:i < ll.length):(ll.take i.toNat).flatten ++ ll.getD i.toNat [] = (ll.take (i + 1).toNat).flatten:=by
 have e:(i + 1).toNat = i.toNat + 1:=by omega
 have hl:i.toNat < ll.length:=by omega
 rw [e,List.take_add_one,List.getElem?_eq_getElem hl,List.getD_eq_getElem?_getD,List.getElem?_eq_getElem hl,List.flatten_append]
 simp
theorem i64s' {n:Int} (h0:-1000000000000 ≤ n) (h1:n ≤ 1000000000000):isI64 n:=by unfold isI64; omega
theorem dt {p:Prop} [Decidable p] (h:decide p = true):p:=of_decide_eq_true h
theorem df {p:Prop} [Decidable p] (h:decide p = false):¬ p:=of_decide_eq_false h
theorem ndt {p:Prop} [Decidable p] (h:(!decide p) = true):¬ p:=by simpa using h
theorem ndf {p:Prop} [Decidable p] (h:(!decide p) = false):p:=by simpa using h
end Go.PL
namespace Go.Proofs.YtcnpblceamgfcaaGreatDoor
open Go.AM Go.PL
theorem roomB {C:Ctx} {t:TypeId} {n:Nat} (k:Nat) (hk:C.P.bytesOf t = k) (hk1:k ≤ 1000) (h:n ≤ 1000000):roomP C t n:=by
 unfold roomP
 rw [hk]
 have:=Nat.mul_le_mul h hk1
 omega
theorem AC_sound:jQa AC:=mkctxS_sound trivial trivial trivial ⟨satN_growS,satN_growI,satN_growB,trivial⟩
theorem sat_concatS:SatG bs.P 53 concatSSp:=jJ2 (C:=AC) AC_sound 6 _ concatSSp fun (ll:List (List (List Int))) hk hp=>by
 rw [concatS_nf]; delta IR LP NX SD eL ln y9 z0 z1; dsimp only
 obtain ⟨hp1,hp2⟩:ll.length ≤ 1000 ∧ ll.flatten.length ≤ 400000:=hp
 refine ⟨fun x=>0 ≤ x.1 ∧ x.1 ≤ ll.length ∧ x.2 = ((ll.take x.1.toNat).flatten.length:Int),fun x=>(ll.length - x.1).toNat,⟨by omega,by omega,rfl⟩,?_⟩
 rintro ⟨i,n⟩ ⟨h0,h1,h2⟩
 dsimp only at h0 h1 h2 ⊢
 have hle:=kQ4 ll i.toNat
 refine ⟨fun hlt=>?_,fun hlt=>⟨⟨by omega,by omega⟩,?_⟩⟩
 ·have hlt:=dt hlt
  have hst:=jY7 ll h0 hlt
  have hle':=kQ4 ll (i + 1).toNat
  have hsl:=congrArg List.length hst
  rw [List.length_append] at hsl
  exact ⟨⟨h0,hlt⟩,i64s' (by omega) (by omega),fun h=>by have:=dt h; omega,fun _=>⟨i64s' (by omega) (by omega),⟨by omega,by omega,by omega⟩,by omega⟩⟩
 ·refine ⟨fun x=>0 ≤ x.1 ∧ x.1 ≤ ll.length ∧ x.2 = (ll.take x.1.toNat).flatten,fun x=>(ll.length - x.1).toNat,⟨by omega,by omega,rfl⟩,?_⟩
  rintro ⟨j,out⟩ ⟨h3,h4,h5⟩
  dsimp only at h3 h4 h5 ⊢
  subst h5
  refine ⟨fun hlt=>?_,fun hlt=>?_⟩
  ·have hlt:=dt hlt
   have hst:=jY7 ll h3 hlt
   have hle':=kQ4 ll (j + 1).toNat
   have hsl:=congrArg List.length hst
   rw [List.length_append] at hsl
   exact ⟨⟨h3,hlt⟩,roomB 16 (by kernel_rfl) (by omega) (by omega),i64s' (by omega) (by omega),⟨by omega,by omega,hst⟩,by omega⟩
  ·have hlt:=df hlt
   rw [List.take_of_length_le (by omega)]
theorem sat_concatI:SatG bs.P 72 concatISp:=jJ2 (C:=AC) AC_sound 6 _ concatISp fun (ll:List (List Int)) hk hp=>by
 rw [concatI_nf]; delta IR LP NX SD eI ln y3 z0 z1; dsimp only
 obtain ⟨hp1,hp2⟩:ll.length ≤ 1000 ∧ ll.flatten.length ≤ 400000:=hp
 refine ⟨fun x=>0 ≤ x.1 ∧ x.1 ≤ ll.length ∧ x.2 = ((ll.take x.1.toNat).flatten.length:Int),fun x=>(ll.length - x.1).toNat,⟨by omega,by omega,rfl⟩,?_⟩
 rintro ⟨i,n⟩ ⟨h0,h1,h2⟩
 dsimp only at h0 h1 h2 ⊢
 have hle:=kQ4 ll i.toNat
 refine ⟨fun hlt=>?_,fun hlt=>⟨⟨by omega,by omega⟩,?_⟩⟩
 ·have hlt:=dt hlt
  have hst:=jY7 ll h0 hlt
  have hle':=kQ4 ll (i + 1).toNat
  have hsl:=congrArg List.length hst
  rw [List.length_append] at hsl
  exact ⟨⟨h0,hlt⟩,i64s' (by omega) (by omega),fun h=>by have:=dt h; omega,fun _=>⟨i64s' (by omega) (by omega),⟨by omega,by omega,by omega⟩,by omega⟩⟩
 ·refine ⟨fun x=>0 ≤ x.1 ∧ x.1 ≤ ll.length ∧ x.2 = (ll.take x.1.toNat).flatten,fun x=>(ll.length - x.1).toNat,⟨by omega,by omega,rfl⟩,?_⟩
  rintro ⟨j,out⟩ ⟨h3,h4,h5⟩
  dsimp only at h3 h4 h5 ⊢
  subst h5
  refine ⟨fun hlt=>?_,fun hlt=>?_⟩
  ·have hlt:=dt hlt
   have hst:=jY7 ll h3 hlt
   have hle':=kQ4 ll (j + 1).toNat
   have hsl:=congrArg List.length hst
   rw [List.length_append] at hsl
   exact ⟨⟨h3,hlt⟩,roomB 8 (by kernel_rfl) (by omega) (by omega),i64s' (by omega) (by omega),⟨by omega,by omega,hst⟩,by omega⟩
  ·have hlt:=df hlt
   rw [List.take_of_length_le (by omega)]
theorem sat_concatB:SatG bs.P 73 concatBSp:=jJ2 (C:=AC) AC_sound 6 _ concatBSp fun (ll:List (List Int)) hk hp=>by
 rw [concatB_nf]; delta IR LP NX SD eI ln y5 z0 z1; dsimp only
 obtain ⟨hp1,hp2⟩:ll.length ≤ 1000 ∧ ll.flatten.length ≤ 400000:=hp
 refine ⟨fun x=>0 ≤ x.1 ∧ x.1 ≤ ll.length ∧ x.2 = ((ll.take x.1.toNat).flatten.length:Int),fun x=>(ll.length - x.1).toNat,⟨by omega,by omega,rfl⟩,?_⟩
 rintro ⟨i,n⟩ ⟨h0,h1,h2⟩
 dsimp only at h0 h1 h2 ⊢
 have hle:=kQ4 ll i.toNat
 refine ⟨fun hlt=>?_,fun hlt=>⟨⟨by omega,by omega⟩,?_⟩⟩
 ·have hlt:=dt hlt
  have hst:=jY7 ll h0 hlt
  have hle':=kQ4 ll (i + 1).toNat
  have hsl:=congrArg List.length hst
  rw [List.length_append] at hsl
  exact ⟨⟨h0,hlt⟩,i64s' (by omega) (by omega),fun h=>by have:=dt h; omega,fun _=>⟨i64s' (by omega) (by omega),⟨by omega,by omega,by omega⟩,by omega⟩⟩
 ·refine ⟨fun x=>0 ≤ x.1 ∧ x.1 ≤ ll.length ∧ x.2 = (ll.take x.1.toNat).flatten,fun x=>(ll.length - x.1).toNat,⟨by omega,by omega,rfl⟩,?_⟩
  rintro ⟨j,out⟩ ⟨h3,h4,h5⟩
  dsimp only at h3 h4 h5 ⊢
  subst h5
  refine ⟨fun hlt=>?_,fun hlt=>?_⟩
  ·have hlt:=dt hlt
   have hst:=jY7 ll h3 hlt
   have hle':=kQ4 ll (j + 1).toNat
   have hsl:=congrArg List.length hst
   rw [List.length_append] at hsl
   exact ⟨⟨h3,hlt⟩,roomB 1 (by kernel_rfl) (by omega) (by omega),i64s' (by omega) (by omega),⟨by omega,by omega,hst⟩,by omega⟩
  ·have hlt:=df hlt
   rw [List.take_of_length_le (by omega)]
end Go.Proofs.YtcnpblceamgfcaaGreatDoor
namespace Go.PL
open Go.AM
def jJq (nonce:List Int) (parts:List (List Int)):List Int:=hof 121 (nonce :: parts)
end Go.PL
namespace Go.Proofs.YtcnpblceamgfcaaGreatDoor
open Go.AM Go.PL
def blindSp:FSpec:=⟨[.str,SS],[DG],fun x=>(x.1:List Int).length ≤ 100000 ∧ (x.2:List (List Int)).length ≤ 900 ∧ ∀ p ∈ (x.2:List (List Int)),p.length ≤ 100000,fun x=>jJq x.1 x.2⟩
noncomputable def AB0:Ctx:=mkctx bs [(52,ofSp)] [(53,concatSSp)] hintA
theorem blind_nf (s:List Int) (l:List (List Int)):fnwp AB0 6 26 blindSp (s,l) = (flatOk [[s],l] ∧ jVy [[s],l].flatten ∧ hof (121:Int) [[s],l].flatten = jJq s
 l):=by kernel_rfl
attribute [local irreducible] fnwp fnwpG hof
theorem AB0_sound:jQa AB0:=jQd ⟨sat_of,trivial⟩ ⟨sat_concatS,trivial⟩
theorem sat_blind:Sat bs.P 26 blindSp:=jQe AB0_sound 6 _ blindSp fun x hok hp=>by
 obtain ⟨s,l,rfl⟩:∃ (s:List Int) (l:List (List Int)),x = (s,l):=⟨x.1,x.2,rfl⟩
 obtain ⟨h1,h2,h3⟩:s.length ≤ 100000 ∧ l.length ≤ 900 ∧ ∀ p ∈ l,p.length ≤ 100000:=hp
 rw [blind_nf]
 have e:[[s],l].flatten = s :: l:=by simp
 rw [e]
 refine ⟨⟨by simp,by simp; omega⟩,⟨by simp; omega,?_⟩,rfl⟩
 intro p hp
 rcases List.mem_cons.1 hp with rfl | hp
 ·exact h1
 ·exact h3 p hp
end Go.Proofs.YtcnpblceamgfcaaGreatDoor
namespace Go.PL
open Go.AM
abbrev At:=List Int × Int × Int × List Int × Unit
abbrev En:=Int × Int × Int × Int × Int × Int × Int × List Int × List At × Unit
abbrev Ev:=Int × Int × Int × Int × Int × Int × Int × List Int × List At × List Int × Unit
abbrev Fa:=Int × Int × Int × Int × Int × Int × Int × List Int × Unit
def aNums (l:List At):List Int:=l.flatMap fun a=>[a.2.1,a.2.2.1]
def jKa (l:List At):List (List Int):=l.flatMap fun a=>[a.1,a.2.2.2.1]
def numsE (e:En):List Int :=
 [e.1,e.2.1,e.2.2.1,e.2.2.2.1,e.2.2.2.2.1,e.2.2.2.2.2.1,e.2.2.2.2.2.2.1,(e.2.2.2.2.2.2.2.1.length:Int)] ++ e.2.2.2.2.2.2.2.1 ++ [(e.2.2.2.2.2.2.2.2.1.length:Int)] ++ aNums e.2.2.2.2.2.2.2.2.1
def encE (e:En):List Int:=jQs encI (numsE e) ++ jQs jQv (jKa e.2.2.2.2.2.2.2.2.1)
def fewA (l:List At):Prop:=l.length ≤ 20 ∧ ∀ a ∈ l,a.1.length ≤ 300 ∧ a.2.2.2.1.length ≤ 300
def fewE (e:En):Prop:=e.2.2.2.2.2.2.2.1.length ≤ 40 ∧ fewA e.2.2.2.2.2.2.2.2.1
def fewV (e:Ev):Prop:=e.2.2.2.2.2.2.2.1.length ≤ 40 ∧ fewA e.2.2.2.2.2.2.2.2.1
def jXm (e:Ev):List (List Int):=[jQs encI e.2.2.2.2.2.2.2.1,jQs encI (aNums e.2.2.2.2.2.2.2.2.1),jQs jQv (jKa e.2.2.2.2.2.2.2.2.1)]
def faceS (e:Ev):Fa :=
 (e.1,e.2.1,e.2.2.1,if e.1 = 5 then 0 else e.2.2.2.1,if e.1 = 1 then e.2.2.2.2.1 else 0,if e.1 = 1 ∨ e.1 = 4 then e.2.2.2.2.2.1 else 0,if e.1 = 2 ∨ e.1 = 3 then e.2.2.2.2.2.2.1 else 0,
   if e.1 = 1 ∨ e.1 = 2 then jJq e.2.2.2.2.2.2.2.2.2.1 (jXm e) else List.replicate 16 0,())
def jJi (nonce:List Int) (e:En):List Int:=jJq nonce [encI 363,encE e]
theorem encList_len {α:Type} (one:α → List Int) {k:Nat} (l:List α) (h:∀ x ∈ l,(one x).length ≤ k):(jQs one l).length ≤ 10 + k * l.length:=by
 unfold jQs
 have:=jJ3 (l.length:Int)
 have:=flat_len (one:=one) l h
 simp only [List.length_append]
 omega
theorem aNums_len (l:List At):(aNums l).length = 2 * l.length:=by
 induction l with
 | nil=>rfl
 | cons a l ih=>simp only [aNums,List.flatMap_cons,List.length_append,List.length_cons,List.length_nil] at *; omega
theorem aTexts_len (l:List At):(jKa l).length = 2 * l.length:=by
 induction l with
 | nil=>rfl
 | cons a l ih=>simp only [jKa,List.flatMap_cons,List.length_append,List.length_cons,List.length_nil] at *; omega
theorem aTexts_mem {l:List At} (h:fewA l):∀ s ∈ jKa l,s.length ≤ 300:=by
 intro s hs
 obtain ⟨a,ha,h2⟩:=List.mem_flatMap.1 hs
 have:=h.2 a ha
 simp only [List.mem_cons,List.not_mem_nil,or_false] at h2
 rcases h2 with rfl | rfl
 ·exact this.1
 ·exact this.2
theorem jKl (l:List Int):(jQs encI l).length ≤ 10 + 10 * l.length:=encList_len encI l fun x _=>(jJ3 x).2
theorem jK0 {l:List At} (h:fewA l):(jQs jQv (jKa l)).length ≤ 13000:=by
 have h1:=encList_len jQv (k:=310) (jKa l) (fun s hs=>by
  have:=aTexts_mem h s hs
  have:=jJ3 (s.length:Int)
  unfold jQv
  simp only [List.length_append]
  omega)
 rw [aTexts_len] at h1
 have:=h.1
 omega
theorem numsE_len {e:En} (h:fewE e):(numsE e).length ≤ 100:=by
 obtain ⟨h1,h2,_⟩:=h
 unfold numsE
 simp only [List.length_append,List.length_cons,List.length_nil,aNums_len]
 omega
theorem encE_len {e:En} (h:fewE e):(encE e).length ≤ 20000:=by
 have h1:=jKl (numsE e)
 have h2:=numsE_len h
 have h3:=jK0 h.2
 unfold encE
 simp only [List.length_append]
 omega
end Go.PL
namespace Go.Proofs.YtcnpblceamgfcaaGreatDoor
open Go.AM Go.PL
def encESp:FSpec:=⟨[EN],[BY],fun e=>fewE e,fun e=>encE e⟩
def sameESp:FSpec:=⟨[EN,EN],[.bool],fun x=>fewE x.1 ∧ fewE x.2,fun x=>decide (encE x.1 = encE x.2)⟩
def vencSp:FSpec:=⟨[L],[BY],fun l=>jK9 (l:List Int),fun l=>jQs encI l⟩
def contentSp:FSpec:=⟨[EV],[SS],fun e=>fewV e,fun e=>jXm e⟩
def faceSp:FSpec:=⟨[EV],[FC],fun e=>fewV e,fun e=>faceS e⟩
def kQp:FSpec:=⟨[DG,EN],[DG],fun x=>fewE x.2,fun x=>jJi x.1 x.2⟩
def loopsE (f:FuncId) (r:Nat):List LA :=
 if Nat.beq f 42 then [.slot 36 I,.gslot 3 3 I,.gslot 4 9 .str] else
 if Nat.beq f 44 then [.slot 5 I,.gslot 3 3 I,.gslot 4 9 .str] else
 if Nat.beq f 27 then [.slot 10 I,.gslot 3 3 I,.gslot 4 9 .str] else
 []
def datD (t:TypeId):Nat:=bif Nat.beq t 31 || Nat.beq t 30 then 2 else bif Nat.beq t 35 then 1 else 0
def allE (f:FuncId) (r:Nat):Bool:=(Nat.beq f 42 || Nat.beq f 27) && Nat.beq r 6 || Nat.beq f 8
def hintE (f:FuncId):Hint:=if Nat.beq f 999999995 then ⟨fun _=>[],fun _=>.split,fun _=>.split,datD⟩ else ⟨loopsE f,fun r=>bif allE f r then .all else .split,fun _=>.split,fun r=>bif Nat.beq f 27 && Nat.beq r 8 then 500 else 0⟩
def hintEo (f:FuncId):Hint:=if Nat.beq f 999999996 then ⟨fun _=>[],fun _=>.split,fun _=>.split,fun _=>1⟩ else hintE f
def tE0:List (FuncId × FSpec):=[(55,intsSp),(56,jKx),(76,intsSp),(77,jKx),(41,intG.data),(52,ofSp),(26,blindSp)]
def tEG:List (FuncId × GSpec):=[(72,concatISp),(73,concatBSp)]
noncomputable def AE0:Ctx:=mkctx bs tE0 tEG hintE
noncomputable def AE0o:Ctx:=mkctx bs tE0 tEG hintEo
def tE1:List (FuncId × FSpec):=(42,encESp) :: (44,encESp) :: (54,vencSp) :: tE0
noncomputable def AE1:Ctx:=mkctx bs tE1 tEG hintE
noncomputable def AE2:Ctx:=mkctx bs ((27,contentSp) :: tE1) tEG hintE
abbrev jKm:Type:=Int × List Int × List (List Int)
abbrev encE_nf_t1:Type:=Int × List Int × List (List Int) → Prop
abbrev encE_nf_t2:Type:=Int × List Int × List (List Int) → Nat
abbrev encEq0 (l:List At) (x:jKm):=l.getD x.1.toNat (eI,z0,z0,eI,())
abbrev encEq2 (x:jKm) (l:List At):=(x.1 + z1,x.2.1 ++ [(encEq0 l x).2.1,(encEq0 l x).2.2.1],x.2.2 ++ [(encEq0 l x).1,(encEq0 l x).2.2.2.1])
abbrev encEq4 (x:jKm) (l:List At):=x.2.1.length + [(encEq0 l x).2.1,(encEq0 l x).2.2.1].length
abbrev encEq5 (x:jKm) (l:List At):=x.2.2.length + [(encEq0 l x).1,(encEq0 l x).2.2.2.1].length
abbrev encEq3 (x:jKm) (l:List At) (I:encE_nf_t1) (μ:encE_nf_t2):=roomP AE0 y3 (encEq4 x l) ∧ roomP AE0 y9 (encEq5 x l) ∧ isI64 (x.1 + z1) ∧ NX I μ x (encEq2 x l)
abbrev encEq1 (x:jKm) (l:List At) (I:encE_nf_t1) (μ:encE_nf_t2):=(encEq3 x l I μ) ∧ roomP AE0 y3 (encEq4 x l) ∧ roomP AE0 y9 (encEq5 x l) ∧ isI64 (x.1 + z1) ∧ NX
 I μ x (encEq2 x l)
theorem encE_nf (id ver ow fi fr to bo:Int) (v:List Int) (l:List At):fnwp AE0 6 42 encESp (id,ver,ow,fi,fr,to,bo,v,l,()) = (flatOk [[id,ver,ow,fi,fr,to,bo,
 (ln v)],v,[(ln l)]] ∧ LP (z0,[[id,ver,ow,fi,fr,to,bo,(ln v)],v,[(ln l)]].flatten,eL) fun I μ x=>SD (x.1 < (ln l)) ((IR x.1 l) ∧ ((encEq3 x l I μ) ∧ (encEq1 x l I
 μ) ∧ (encEq3 x l I μ) ∧ roomP AE0 y3 (encEq4 x l) ∧ roomP AE0 y9 (encEq5 x l) ∧ isI64 (x.1 + z1) ∧ NX I μ x (encEq2 x l)) ∧ ((encEq1 x l I μ) ∧ roomP AE0 y3 (encEq4 x l) ∧ roomP
 AE0 y9 (encEq5 x l) ∧ isI64 (x.1 + z1) ∧ NX I μ x (encEq2 x l)) ∧ (encEq1 x l I μ) ∧ roomP AE0 y3 (encEq4 x l) ∧ roomP AE0 y9 (encEq5 x l) ∧ isI64 (x.1 + z1) ∧ NX I μ x (encEq2
 x l)) (jK9 x.2.1 ∧ ((∀ (s:List Int),s ∈ x.2.2 → s.length ≤ (100000:Nat)) ∧ jK9 x.2.2) ∧ flatOk [jQs encI x.2.1,jQs jQv x.2.2] ∧ [jQs encI x.2.1,
 jQs jQv x.2.2].flatten = PL.encE (id,ver,ow,fi,fr,to,bo,v,l,()))):=by kernel_rfl
abbrev rEncE_nf_t0:Type:=Int × List Int × List (List Int)
abbrev kQz (l:List At) (x:rEncE_nf_t0):=l.getD x.1.toNat (eI,z0,z0,eI,())
theorem rEncE_nf (id ver ow fi fr to bo:Int) (v:List Int) (l:List At):fnwp AE0o 6 44 encESp (id,ver,ow,fi,fr,to,bo,v,l,()) = (roomP AE0o y3 ([id,ver,ow,fi,
 fr,to,bo,(ln v)].length + v.length) ∧ roomP AE0o y3 (([id,ver,ow,fi,fr,to,bo,(ln v)] ++ v).length + [(ln l)].length) ∧ LP (z0,[id,ver,ow,fi,fr,to,bo,(ln v)] ++
 v ++ [(ln l)],eL) fun I μ x=>SD (x.1 < (ln l)) ((IR x.1 l) ∧ (IR x.1 l) ∧ roomP AE0o y3 (x.2.1.length + [(kQz l x).2.1,(kQz l x).2.2.1].length) ∧ (IR x.1 l) ∧ (IR
 x.1 l) ∧ roomP AE0o y9 (x.2.2.length + [(kQz l x).1,(kQz l x).2.2.2.1].length) ∧ isI64 (x.1 + z1) ∧ NX I μ x (x.1 + z1,x.2.1 ++ [(kQz l x).2.1,(kQz l
 x).2.2.1],x.2.2 ++ [(kQz l x).1,(kQz l x).2.2.2.1])) (jK9 x.2.1 ∧ roomP AE0o y5 (jQs encI x.2.1).length ∧ ((∀ (s:List Int),s ∈ x.2.2 → s.length ≤ (100000 :
 Nat)) ∧ jK9 x.2.2) ∧ roomP AE0o y5 ((jQs encI x.2.1).length + (jQs jQv x.2.2).length) ∧ jQs encI x.2.1 ++ jQs jQv x.2.2 = PL.encE (id,ver,ow,fi,
 fr,to,bo,v,l,()))):=by kernel_rfl
theorem venc_nf (v:List Int):fnwp AE0 6 54 vencSp v = (jK9 v ∧ jQs encI v = jQs encI v):=by kernel_rfl
theorem sameE_nf (a b:En):fnwp AE1 6 18 sameESp (a,b) = (fewE a ∧ fewE b ∧ decide (PL.encE a = PL.encE b) = decide (PL.encE a = PL.encE b)):=by kernel_rfl
abbrev jZl:Type:=Int × List Int × List (List Int)
abbrev kQ8:Type:=Int × List Int × List (List Int) → Prop
abbrev kQ7:Type:=Int × List Int × List (List Int) → Nat
abbrev jJ6 (l:List At) (x:jZl):=l.getD x.1.toNat (eI,z0,z0,eI,())
abbrev kQe (x:jZl) (l:List At):=(x.1 + z1,x.2.1 ++ [(jJ6 l x).2.1,(jJ6 l x).2.2.1],x.2.2 ++ [(jJ6 l x).1,(jJ6 l x).2.2.2.1])
abbrev kQd (x:jZl) (l:List At):=x.2.1.length + [(jJ6 l x).2.1,(jJ6 l x).2.2.1].length
abbrev kQc (x:jZl) (l:List At):=x.2.2.length + [(jJ6 l x).1,(jJ6 l x).2.2.2.1].length
abbrev contentq3 (x:jZl) (l:List At) (I:kQ8) (μ:kQ7):=roomP AE1 y3 (kQd x l) ∧ roomP AE1 y9 (kQc x l) ∧ isI64 (x.1 + z1) ∧ NX
 I μ x (kQe x l)
abbrev contentq1 (x:jZl) (l:List At) (I:kQ8) (μ:kQ7):=(contentq3 x l I μ) ∧ roomP AE1 y3 (kQd x l) ∧ roomP AE1 y9 (kQc x l) ∧
 isI64 (x.1 + z1) ∧ NX I μ x (kQe x l)
theorem content_nf (k c d id ow un fr:Int) (v:List Int) (l:List At) (n:List Int):fnwp AE1 6 27 contentSp (k,c,d,id,ow,un,fr,v,l,n,()) = (LP (z0,eI,eL) fun I
 μ x=>SD (x.1 < (ln l)) ((IR x.1 l) ∧ ((contentq3 x l I μ) ∧ (contentq1 x l I μ) ∧ (contentq3 x l I μ) ∧ roomP AE1 y3 (kQd x l) ∧ roomP AE1 y9 (kQc x l) ∧ isI64
 (x.1 + z1) ∧ NX I μ x (kQe x l)) ∧ ((contentq1 x l I μ) ∧ roomP AE1 y3 (kQd x l) ∧ roomP AE1 y9 (kQc x l) ∧ isI64 (x.1 + z1) ∧ NX I μ x (kQe x l)) ∧
 (contentq1 x l I μ) ∧ roomP AE1 y3 (kQd x l) ∧ roomP AE1 y9 (kQc x l) ∧ isI64 (x.1 + z1) ∧ NX I μ x (kQe x l)) (jK9 v ∧ jK9 x.2.1 ∧ ((∀ (s:List Int),s
 ∈ x.2.2 → s.length ≤ (100000:Nat)) ∧ jK9 x.2.2) ∧ [jQs encI v,jQs encI x.2.1,jQs jQv x.2.2] = jXm (k,c,d,id,ow,un,fr,v,l,n,()))):=by
 kernel_rfl
theorem vblind_nf (n:List Int) (e:En):fnwp AE1 6 16 kQp (n,e) = (True ∧ fewE e ∧ (n.length ≤ (100000:Nat) ∧ [encI (363:Int),PL.encE e].length ≤ (900:Nat) ∧ ∀
 (p:List Int),p ∈ [encI (363:Int),PL.encE e] → p.length ≤ (100000:Nat)) ∧ jJq n [encI (363:Int),PL.encE e] = jJi n e):=by kernel_rfl
abbrev jQu (k c d id ow un fr:Int) (v:List Int) (l:List At) (n:List Int):=(k,c,d,id,ow,un,fr,v,l,n,())
abbrev jVb (n:List Int) (k c d id ow un fr:Int) (v:List Int) (l:List At):=(n.length ≤ (100000:Nat) ∧ (jXm (jQu k c d id ow un fr v l n)).length ≤ (900 :
 Nat) ∧ ∀ (p:List Int),p ∈ jXm (jQu k c d id ow un fr v l n) → p.length ≤ (100000:Nat))
abbrev faceq1 (k c d id ow un fr:Int) (v:List Int) (l:List At) (n:List Int):=((fewV (jQu k c d id ow un fr v l n) ∧ (jVb n k c d id ow un fr v l) ∧ (k,c,d,id,
 z0,z0,fr,jJq n (jXm (jQu k c d id ow un fr v l n)),()) = faceS (jQu k c d id ow un fr v l n)) ∧ fewV (jQu k c d id ow un fr v l n) ∧ (jVb n k c d id ow un
 fr v l) ∧ (k,c,d,id,z0,z0,fr,jJq n (jXm (jQu k c d id ow un fr v l n)),()) = faceS (jQu k c d id ow un fr v l n)) ∧ fewV (jQu k c d id ow un fr v l n) ∧
 (jVb n k c d id ow un fr v l) ∧ (k,c,d,id,z0,z0,fr,jJq n (jXm (jQu k c d id ow un fr v l n)),()) = faceS (jQu k c d id ow un fr v l n)
abbrev faceq2 (k c d id ow un fr:Int) (v:List Int) (l:List At) (n:List Int):=((fewV (jQu k c d id ow un fr v l n) ∧ (jVb n k c d id ow un fr v l) ∧ (k,c,d,id,
 ow,un,z0,jJq n (jXm (jQu k c d id ow un fr v l n)),()) = faceS (jQu k c d id ow un fr v l n)) ∧ fewV (jQu k c d id ow un fr v l n) ∧ (jVb n k c d id ow un
 fr v l) ∧ (k,c,d,id,ow,un,z0,jJq n (jXm (jQu k c d id ow un fr v l n)),()) = faceS (jQu k c d id ow un fr v l n)) ∧ fewV (jQu k c d id ow un fr v l n) ∧
 (jVb n k c d id ow un fr v l) ∧ (k,c,d,id,ow,un,z0,jJq n (jXm (jQu k c d id ow un fr v l n)),()) = faceS (jQu k c d id ow un fr v l n)
abbrev faceq3 (k c d id ow un fr:Int) (v:List Int) (l:List At) (n:List Int):=((fewV (jQu k c d id ow un fr v l n) ∧ (jVb n k c d id ow un fr v l) ∧ (k,c,d,id,
 z0,un,z0,jJq n (jXm (jQu k c d id ow un fr v l n)),()) = faceS (jQu k c d id ow un fr v l n)) ∧ fewV (jQu k c d id ow un fr v l n) ∧ (jVb n k c d id ow un
 fr v l) ∧ (k,c,d,id,z0,un,z0,jJq n (jXm (jQu k c d id ow un fr v l n)),()) = faceS (jQu k c d id ow un fr v l n)) ∧ fewV (jQu k c d id ow un fr v l n) ∧
 (jVb n k c d id ow un fr v l) ∧ (k,c,d,id,z0,un,z0,jJq n (jXm (jQu k c d id ow un fr v l n)),()) = faceS (jQu k c d id ow un fr v l n)
abbrev faceq4 (k c d id ow un fr:Int) (v:List Int) (l:List At) (n:List Int):=((fewV (jQu k c d id ow un fr v l n) ∧ (jVb n k c d id ow un fr v l) ∧ (k,c,d,z0,
 z0,z0,z0,jJq n (jXm (jQu k c d id ow un fr v l n)),()) = faceS (jQu k c d id ow un fr v l n)) ∧ fewV (jQu k c d id ow un fr v l n) ∧ (jVb n k c d id ow un
 fr v l) ∧ (k,c,d,z0,z0,z0,z0,jJq n (jXm (jQu k c d id ow un fr v l n)),()) = faceS (jQu k c d id ow un fr v l n)) ∧ fewV (jQu k c d id ow un fr v l n) ∧
 (jVb n k c d id ow un fr v l) ∧ (k,c,d,z0,z0,z0,z0,jJq n (jXm (jQu k c d id ow un fr v l n)),()) = faceS (jQu k c d id ow un fr v l n)
abbrev faceq5 (k c d id ow un fr:Int) (v:List Int) (l:List At) (n:List Int):=((fewV (jQu k c d id ow un fr v l n) ∧ (jVb n k c d id ow un fr v l) ∧ (k,c,d,id,
 z0,z0,z0,jJq n (jXm (jQu k c d id ow un fr v l n)),()) = faceS (jQu k c d id ow un fr v l n)) ∧ fewV (jQu k c d id ow un fr v l n) ∧ (jVb n k c d id ow un
 fr v l) ∧ (k,c,d,id,z0,z0,z0,jJq n (jXm (jQu k c d id ow un fr v l n)),()) = faceS (jQu k c d id ow un fr v l n)) ∧ fewV (jQu k c d id ow un fr v l n) ∧
 (jVb n k c d id ow un fr v l) ∧ (k,c,d,id,z0,z0,z0,jJq n (jXm (jQu k c d id ow un fr v l n)),()) = faceS (jQu k c d id ow un fr v l n)
abbrev faceq7 (k c d id ow un fr:Int) (v:List Int) (l:List At) (n:List Int):=SD (k = z1) (faceq1 k c d id ow un fr v l n) (SD (k = z2) (faceq1 k c d id ow un fr v l n)
 ((k,c,d,id,z0,z0,fr,[z0,z0,z0,z0,z0,z0,z0,z0,z0,z0,z0,z0,z0,z0,z0,z0],()) = faceS (jQu k c d id ow un fr v l n)))
theorem face_nf (k c d id ow un fr:Int) (v:List Int) (l:List At) (n:List Int):fnwp AE2 6 8 faceSp (k,c,d,id,ow,un,fr,v,l,n,()) = (SD (k = z1) (SD (k = z1)
 (faceq2 k c d id ow un fr v l n) (SD (k = z2) (faceq2 k c d id ow un fr v l n) ((k,c,d,id,ow,un,z0,[z0,z0,z0,z0,z0,z0,z0,z0,z0,z0,z0,z0,z0,z0,z0,z0],()) =
 faceS (jQu k c d id ow un fr v l n)))) (SD (k = z4) (SD (k = z1) (faceq3 k c d id ow un fr v l n) (SD (k = z2) (faceq3 k c d id ow un fr v l n) ((k,c,d,id,z0,un,z0,
 [z0,z0,z0,z0,z0,z0,z0,z0,z0,z0,z0,z0,z0,z0,z0,z0],()) = faceS (jQu k c d id ow un fr v l n)))) (SD (k = z2) (faceq7 k c d id ow un fr v l n) (SD (k = z3)
 (faceq7 k c d id ow un fr v l n) (SD (k = z5) (SD (k = z1) (faceq4 k c d id ow un fr v l n) (SD (k = z2) (faceq4 k c d id ow un fr v l n) ((k,c,d,z0,z0,z0,z0,[z0,z0,z0,
 z0,z0,z0,z0,z0,z0,z0,z0,z0,z0,z0,z0,z0],()) = faceS (jQu k c d id ow un fr v l n)))) (SD (k = z1) (faceq5 k c d id ow un fr v l n) (SD (k = z2) (faceq5 k c d id
 ow un fr v l n) ((k,c,d,id,z0,z0,z0,[z0,z0,z0,z0,z0,z0,z0,z0,z0,z0,z0,z0,z0,z0,z0,z0],()) = faceS (jQu k c d id ow un fr v l n))))))))):=by
 kernel_rfl
end Go.Proofs.YtcnpblceamgfcaaGreatDoor
namespace Go.PL
open Go.AM
theorem getD_mem' {α:Type} (l:List α) (d:α) {i:Int} (h0:0 ≤ i) (h:i < l.length):l.getD i.toNat d ∈ l:=by
 rw [List.getD,List.getElem?_eq_getElem (by omega)]
 exact List.getElem_mem (by omega)
end Go.PL
namespace Go.Proofs.YtcnpblceamgfcaaGreatDoor
open Go.AM Go.PL
noncomputable def X4:Ctx:=mkctx bs [(41,intG.data),(125,intG.data),(93,bytesG.data),(126,bytesG.data)]
 [(41,intG),(125,intG),(93,bytesG),(126,bytesG)] hintX
theorem ssX4:jQa X4:=jQd ⟨sat_int.toData,sat_rInt.toData,sat_bytes.toData,sat_rBytes.toData,trivial⟩ ⟨sat_int,sat_rInt,sat_bytes,sat_rBytes,trivial⟩
theorem strings_nf (l:List (List Int)):fnwp X4 5 56 jKx l = (True ∧ LP (encI (ln l),z0) fun I μ x=>SD (x.2 < (ln l)) ((IR x.2 l) ∧ (l.getD x.2.toNat eI).length ≤
 (100000:Nat) ∧ roomP X4 y5 (x.1.length + (jQv (l.getD x.2.toNat eI)).length) ∧ isI64 (x.2 + z1) ∧ NX I μ x (x.1 ++ jQv (l.getD x.2.toNat eI),x.2 + z1)) (x.1 =
 jQs jQv l)):=by kernel_rfl
theorem rStrings_nf (l:List (List Int)):fnwp X4 5 77 jKx l = (True ∧ LP (encI (ln l),z0) fun I μ x=>SD (x.2 < (ln l)) ((IR x.2 l) ∧ (l.getD x.2.toNat eI).length ≤
 (100000:Nat) ∧ roomP X4 y5 (x.1.length + (jQv (l.getD x.2.toNat eI)).length) ∧ isI64 (x.2 + z1) ∧ NX I μ x (x.1 ++ jQv (l.getD x.2.toNat eI),x.2 + z1)) (x.1 =
 jQs jQv l)):=by kernel_rfl
theorem strings_room {l:List (List Int)} (h:(∀ s ∈ l,s.length ≤ 100000) ∧ jK9 l):(jQs jQv l).length ≤ 100000000000:=by
 have h2:=h.2
 unfold jK9 at h2
 have h1:=flat_len (one:=jQv) (k:=100010) l (fun x hx=>by
  have:=jJ3 (x.length:Int)
  have:=h.1 x hx
  unfold jQv; rw [List.length_append]; omega)
 have h3:=jJ3 (l.length:Int)
 unfold jQs
 rw [List.length_append]
 omega
theorem sat_strings:Sat Tryz.prog 56 jKx:=by
 refine jQe (C:=X4) ssX4 5 56 jKx fun (l:List (List Int)) hk hp=>?_
 rw [strings_nf]; delta IR LP NX SD eI ln y5 z0 z1; dsimp only
 have hr:=strings_room hp
 have hl:l.length ≤ 100000:=hp.2
 simp only [decide_eq_true_eq,decide_eq_false_iff_not,i64_iff]
 refine ⟨trivial,listI jQv l,fun x=>((l.length:Int) - x.2).toNat,listI_zero _ _,fun x hI=>⟨fun hc=>?_,fun hc=>listI_end hI hc⟩⟩
 obtain ⟨h1,h2⟩:=listI_step [] hI hc
 have h0:=hI.1
 exact ⟨⟨h0,hc⟩,hp.1 _ (getD_mem' l [] h0 hc),roomU bytesU (by omega),by omega,h1,by dsimp only; omega⟩
theorem sat_rStrings:Sat Tryz.prog 77 jKx:=by
 refine jQe (C:=X4) ssX4 5 77 jKx fun (l:List (List Int)) hk hp=>?_
 rw [rStrings_nf]; delta IR LP NX SD eI ln y5 z0 z1; dsimp only
 have hr:=strings_room hp
 have hl:l.length ≤ 100000:=hp.2
 simp only [decide_eq_true_eq,decide_eq_false_iff_not,i64_iff]
 refine ⟨trivial,listI jQv l,fun x=>((l.length:Int) - x.2).toNat,listI_zero _ _,fun x hI=>⟨fun hc=>?_,fun hc=>listI_end hI hc⟩⟩
 obtain ⟨h1,h2⟩:=listI_step [] hI hc
 have h0:=hI.1
 exact ⟨⟨h0,hc⟩,hp.1 _ (getD_mem' l [] h0 hc),roomU bytesU (by omega),by omega,h1,by dsimp only; omega⟩
end Go.Proofs.YtcnpblceamgfcaaGreatDoor
namespace Go.PL
open Go.AM
theorem flatMap_snoc {α β:Type} (f:α → List β) (l:List α) (d:α) (n:Nat) (h:n < l.length):(l.take (n + 1)).flatMap f = (l.take n).flatMap f ++ f (l.getD n d):=by
 have e:l.take (n + 1) = l.take n ++ [l.getD n d]:=by
  rw [List.take_add_one,List.getElem?_eq_getElem h,List.getD_eq_getElem?_getD,List.getElem?_eq_getElem h]
  rfl
 rw [e,List.flatMap_append]
 simp
theorem aNums_snoc (l:List At) (n:Nat) (h:n < l.length):aNums (l.take (n + 1)) = aNums (l.take n) ++ [(l.getD n ([],0,0,[],())).2.1,(l.getD n ([],0,0,[],())).2.2.1]:=flatMap_snoc _ l _ n h
theorem aTexts_snoc (l:List At) (n:Nat) (h:n < l.length):jKa (l.take (n + 1)) = jKa (l.take n) ++ [(l.getD n ([],0,0,[],())).1,(l.getD n ([],0,0,[],())).2.2.2.1]:=flatMap_snoc _ l _ n h
theorem content_ok {e:Ev} (h:fewV e):(jXm e).length ≤ 900 ∧ ∀ p ∈ jXm e,p.length ≤ 100000:=by
 obtain ⟨k,c,d,id,ow,un,fr,v,l,nn,u⟩:=e
 obtain ⟨h1,h2⟩:v.length ≤ 40 ∧ fewA l:=h
 have h3:=h2.1
 have h9:(jXm (k,c,d,id,ow,un,fr,v,l,nn,u)).length = 3:=by simp only [jXm,List.length_cons,List.length_nil]
 refine ⟨Nat.le_trans (Nat.le_of_eq h9) (by omega),fun p hp=>?_⟩
 simp only [jXm,List.mem_cons,List.not_mem_nil,or_false] at hp
 rcases hp with hp | hp | hp <;> rw [hp]
 ·have:=jKl v
  show (jQs encI v).length ≤ 100000
  omega
 ·have:=jKl (aNums l)
  rw [aNums_len] at this
  show (jQs encI (aNums l)).length ≤ 100000
  omega
 ·have:=jK0 h2
  show (jQs jQv (jKa l)).length ≤ 100000
  omega
end Go.PL
namespace Go.Proofs.YtcnpblceamgfcaaGreatDoor
open Go.AM Go.PL
attribute [local irreducible] fnwp fnwpG hof
theorem satE0:AllSat bs.P tE0:=⟨sat_ints,sat_strings,sat_rInts,sat_rStrings,sat_int.toData,sat_of,sat_blind,trivial⟩
theorem satEG:AllSatG bs.P tEG:=⟨sat_concatI,sat_concatB,trivial⟩
theorem AE0_sound:jQa AE0:=jQd satE0 satEG
theorem AE0o_sound:jQa AE0o:=jQd satE0 satEG
theorem bytesI3 {C:Ctx} (h:C.P = bs.P):C.P.bytesOf 3 = 8:=by rw [h]; kernel_rfl
theorem bytesS9 {C:Ctx} (h:C.P = bs.P):C.P.bytesOf 9 = 16:=by rw [h]; kernel_rfl
theorem bytesU5 {C:Ctx} (h:C.P = bs.P):C.P.bytesOf 5 = 1:=by rw [h]; kernel_rfl
theorem jVu {α:Type} {l:List α} (h:l.length ≤ 100000):jK9 l:=h
theorem sat_encE:Sat bs.P 42 encESp:=jQe AE0_sound 6 _ encESp fun x hok hp=>by
 obtain ⟨id,ver,ow,fi,fr,to,bo,v,l,rfl⟩:∃ (id ver ow fi fr to bo:Int) (v:List Int) (l:List At),x = (id,ver,ow,fi,fr,to,bo,v,l,()):=⟨x.1,x.2.1,x.2.2.1,x.2.2.2.1,x.2.2.2.2.1,x.2.2.2.2.2.1,x.2.2.2.2.2.2.1,x.2.2.2.2.2.2.2.1,x.2.2.2.2.2.2.2.2.1,rfl⟩
 have hp:fewE (id,ver,ow,fi,fr,to,bo,v,l,()):=hp
 have hnl:=numsE_len hp
 obtain ⟨h1,h2,h3⟩:v.length ≤ 40 ∧ l.length ≤ 20 ∧ ∀ a ∈ l,a.1.length ≤ 300 ∧ a.2.2.2.1.length ≤ 300:=hp
 have hfew:fewA l:=⟨h2,h3⟩
 rw [encE_nf]; delta jKm encE_nf_t1 encE_nf_t2 encEq0 encEq2 encEq4 encEq5 encEq3 encEq1 IR LP NX SD eI eL ln y3 y9 z0 z1; dsimp only
 refine ⟨⟨by simp,by simp; omega⟩,fun x=>∃ i:Nat,i ≤ l.length ∧ x.1 = (i:Int) ∧ x.2.1 = [[id,ver,ow,fi,fr,to,bo,(v.length:Int)],v,[(l.length:Int)]].flatten ++ aNums (l.take i) ∧ x.2.2 = jKa (l.take i),fun x=>(l.length - x.1).toNat,⟨0,by omega,rfl,by simp [aNums],by simp [jKa]⟩,?_⟩
 rintro ⟨j,n,t⟩ ⟨i,hi,hj,hn,ht⟩
 simp only at hj hn ht ⊢
 subst hj
 simp only [Int.toNat_natCast]
 have hnn:n.length ≤ 1000:=by rw [hn]; simp only [List.length_append,aNums_len,List.length_take]; simp; omega
 have htt:t.length ≤ 1000:=by rw [ht]; simp only [aTexts_len,List.length_take]; omega
 refine ⟨fun h=>?_,fun h=>?_⟩
 ·have h:(i:Int) < l.length:=of_decide_eq_true h
  have r1:roomP AE0 3 (n.length + [(l.getD i ([],(0:Int),(0:Int),[],())).2.1,(l.getD i ([],(0:Int),(0:Int),[],())).2.2.1].length):=roomB 8 (bytesI3 rfl) (by omega) (by simp; omega)
  have r2:roomP AE0 9 (t.length + [(l.getD i ([],(0:Int),(0:Int),[],())).1,(l.getD i ([],(0:Int),(0:Int),[],())).2.2.2.1].length):=roomB 16 (bytesS9 rfl) (by omega) (by simp; omega)
  have r3:isI64 ((i:Int) + 1):=by unfold isI64; omega
  have r4:∃ i':Nat,i' ≤ l.length ∧ ((i:Int) + 1) = (i':Int) ∧ n ++ [(l.getD i ([],(0:Int),(0:Int),[],())).2.1,(l.getD i ([],(0:Int),(0:Int),[],())).2.2.1] = [[id,ver,ow,fi,fr,to,bo,(v.length:Int)],v,[(l.length:Int)]].flatten ++ aNums (l.take i') ∧
   t ++ [(l.getD i ([],(0:Int),(0:Int),[],())).1,(l.getD i ([],(0:Int),(0:Int),[],())).2.2.2.1] = jKa (l.take i') :=
   ⟨i + 1,by omega,by omega,by rw [aNums_snoc l i (by omega),hn,List.append_assoc],by rw [aTexts_snoc l i (by omega),ht]⟩
  have r5:((l.length:Int) - ((i:Int) + 1)).toNat < ((l.length:Int) - (i:Int)).toNat:=by omega
  simp only [r1,r2,r3,r5,and_true,true_and]
  repeat' apply And.intro
  all_goals first | exact r4 | omega
 ·have h:¬ (i:Int) < l.length:=of_decide_eq_false h
  have hil:i = l.length:=by omega
  subst hil
  rw [List.take_length] at hn ht
  have hn':n = numsE (id,ver,ow,fi,fr,to,bo,v,l,()):=by rw [hn]; simp [numsE]
  subst hn' ht
  have l1:=jKl (numsE (id,ver,ow,fi,fr,to,bo,v,l,()))
  have l2:=jK0 hfew
  refine ⟨jVu (by omega),⟨fun s hs=>by have:=aTexts_mem hfew s hs; omega,jVu (by omega)⟩,⟨by simp,by simp; omega⟩,?_⟩
  simp [PL.encE]
theorem sat_rEncE:Sat bs.P 44 encESp:=jQe AE0o_sound 6 _ encESp fun x hok hp=>by
 obtain ⟨id,ver,ow,fi,fr,to,bo,v,l,rfl⟩:∃ (id ver ow fi fr to bo:Int) (v:List Int) (l:List At),x = (id,ver,ow,fi,fr,to,bo,v,l,()):=⟨x.1,x.2.1,x.2.2.1,x.2.2.2.1,x.2.2.2.2.1,x.2.2.2.2.2.1,x.2.2.2.2.2.2.1,x.2.2.2.2.2.2.2.1,x.2.2.2.2.2.2.2.2.1,rfl⟩
 have hp:fewE (id,ver,ow,fi,fr,to,bo,v,l,()):=hp
 have hnl:=numsE_len hp
 obtain ⟨h1,h2,h3⟩:v.length ≤ 40 ∧ l.length ≤ 20 ∧ ∀ a ∈ l,a.1.length ≤ 300 ∧ a.2.2.2.1.length ≤ 300:=hp
 have hfew:fewA l:=⟨h2,h3⟩
 rw [rEncE_nf]; delta rEncE_nf_t0 kQz IR LP NX SD eI eL ln y3 y5 y9 z0 z1; dsimp only
 refine ⟨roomB 8 (bytesI3 rfl) (by omega) (by simp; omega),roomB 8 (bytesI3 rfl) (by omega) (by simp; omega),fun x=>∃ i:Nat,i ≤ l.length ∧ x.1 = (i:Int) ∧ x.2.1 = [id,ver,ow,fi,fr,to,bo,(v.length:Int)] ++ v ++ [(l.length:Int)] ++ aNums (l.take i) ∧ x.2.2 = jKa (l.take i),fun x=>(l.length - x.1).toNat,⟨0,by omega,rfl,by simp [aNums],by simp [jKa]⟩,?_⟩
 rintro ⟨j,n,t⟩ ⟨i,hi,hj,hn,ht⟩
 simp only at hj hn ht ⊢
 subst hj
 simp only [Int.toNat_natCast]
 have hnn:n.length ≤ 1000:=by rw [hn]; simp only [List.length_append,aNums_len,List.length_take]; simp; omega
 have htt:t.length ≤ 1000:=by rw [ht]; simp only [aTexts_len,List.length_take]; omega
 refine ⟨fun h=>?_,fun h=>?_⟩
 ·have h:(i:Int) < l.length:=of_decide_eq_true h
  exact ⟨⟨by omega,h⟩,⟨by omega,h⟩,roomB 8 (bytesI3 rfl) (by omega) (by simp; omega),⟨by omega,h⟩,⟨by omega,h⟩,roomB 16 (bytesS9 rfl) (by omega) (by simp; omega),by unfold isI64; omega,
   ⟨i + 1,by omega,by omega,by rw [aNums_snoc l i (by omega),hn,List.append_assoc],by rw [aTexts_snoc l i (by omega),ht]⟩,by omega⟩
 ·have h:¬ (i:Int) < l.length:=of_decide_eq_false h
  have hil:i = l.length:=by omega
  subst hil
  rw [List.take_length] at hn ht
  have hn':n = numsE (id,ver,ow,fi,fr,to,bo,v,l,()):=hn
  subst hn' ht
  have l1:=jKl (numsE (id,ver,ow,fi,fr,to,bo,v,l,()))
  have l2:=jK0 hfew
  exact ⟨jVu (by omega),roomB 1 (bytesU5 rfl) (by omega) (by omega),⟨fun s hs=>by have:=aTexts_mem hfew s hs; omega,jVu (by omega)⟩,roomB 1 (bytesU5 rfl) (by omega) (by omega),rfl⟩
theorem sat_venc:Sat bs.P 54 vencSp:=jQe AE0_sound 6 _ vencSp fun (v:List Int) hok hp=>by
 rw [venc_nf]
 exact ⟨hp,rfl⟩
theorem satE1:AllSat bs.P tE1:=⟨sat_encE,sat_rEncE,sat_venc,satE0⟩
theorem AE1_sound:jQa AE1:=jQd satE1 satEG
theorem sat_sameE:Sat bs.P 18 sameESp:=jQe AE1_sound 6 _ sameESp fun (⟨a,b⟩:En × En) hok hp=>by
 rw [sameE_nf]
 exact ⟨hp.1,hp.2,rfl⟩
set_option maxRecDepth 100000 in
theorem sat_vblind:Sat bs.P 16 kQp:=jQe AE1_sound 6 _ kQp fun (⟨n,e⟩:List Int × En) hok hp=>by
 rw [vblind_nf]
 have hl:(encE e).length ≤ 20000:=encE_len hp
 have hn:n.length = 16:=hok.1.1
 have h3:=(jJ3 363).2
 refine ⟨trivial,hp,⟨by omega,by simp,fun p hp=>?_⟩,rfl⟩
 simp only [List.mem_cons,List.not_mem_nil,or_false] at hp
 rcases hp with rfl | rfl <;> omega
theorem sat_content:Sat bs.P 27 contentSp:=jQe AE1_sound 6 _ contentSp fun x hok hp=>by
 obtain ⟨k,c,d,id,ow,un,fr,v,l,nn,rfl⟩:∃ (k c d id ow un fr:Int) (v:List Int) (l:List At) (nn:List Int),x = (k,c,d,id,ow,un,fr,v,l,nn,()):=⟨x.1,x.2.1,x.2.2.1,x.2.2.2.1,x.2.2.2.2.1,x.2.2.2.2.2.1,x.2.2.2.2.2.2.1,x.2.2.2.2.2.2.2.1,x.2.2.2.2.2.2.2.2.1,x.2.2.2.2.2.2.2.2.2.1,rfl⟩
 obtain ⟨h1,h2,h3⟩:v.length ≤ 40 ∧ l.length ≤ 20 ∧ ∀ a ∈ l,a.1.length ≤ 300 ∧ a.2.2.2.1.length ≤ 300:=hp
 have hfew:fewA l:=⟨h2,h3⟩
 rw [content_nf]; delta jZl kQ8 kQ7 jJ6 kQe kQd kQc contentq3 contentq1 IR LP NX SD eI eL ln y3 y9 z0 z1; dsimp only
 refine ⟨fun x=>∃ i:Nat,i ≤ l.length ∧ x.1 = (i:Int) ∧ x.2.1 = aNums (l.take i) ∧ x.2.2 = jKa (l.take i),fun x=>(l.length - x.1).toNat,⟨0,by omega,rfl,by simp [aNums],by simp [jKa]⟩,?_⟩
 rintro ⟨j,n,t⟩ ⟨i,hi,hj,hn,ht⟩
 simp only at hj hn ht ⊢
 subst hj
 simp only [Int.toNat_natCast]
 have hnn:n.length ≤ 1000:=by rw [hn]; simp only [aNums_len,List.length_take]; omega
 have htt:t.length ≤ 1000:=by rw [ht]; simp only [aTexts_len,List.length_take]; omega
 refine ⟨fun h=>?_,fun h=>?_⟩
 ·have h:(i:Int) < l.length:=of_decide_eq_true h
  have r1:roomP AE1 3 (n.length + [(l.getD i ([],(0:Int),(0:Int),[],())).2.1,(l.getD i ([],(0:Int),(0:Int),[],())).2.2.1].length):=roomB 8 (bytesI3 rfl) (by omega) (by simp; omega)
  have r2:roomP AE1 9 (t.length + [(l.getD i ([],(0:Int),(0:Int),[],())).1,(l.getD i ([],(0:Int),(0:Int),[],())).2.2.2.1].length):=roomB 16 (bytesS9 rfl) (by omega) (by simp; omega)
  have r3:isI64 ((i:Int) + 1):=by unfold isI64; omega
  have r4:∃ i':Nat,i' ≤ l.length ∧ ((i:Int) + 1) = (i':Int) ∧ n ++ [(l.getD i ([],(0:Int),(0:Int),[],())).2.1,(l.getD i ([],(0:Int),(0:Int),[],())).2.2.1] = aNums (l.take i') ∧
   t ++ [(l.getD i ([],(0:Int),(0:Int),[],())).1,(l.getD i ([],(0:Int),(0:Int),[],())).2.2.2.1] = jKa (l.take i') :=
   ⟨i + 1,by omega,by omega,by rw [aNums_snoc l i (by omega),hn],by rw [aTexts_snoc l i (by omega),ht]⟩
  have r5:((l.length:Int) - ((i:Int) + 1)).toNat < ((l.length:Int) - (i:Int)).toNat:=by omega
  simp only [r1,r2,r3,r5,and_true,true_and]
  repeat' apply And.intro
  all_goals first | exact r4 | omega
 ·have h:¬ (i:Int) < l.length:=of_decide_eq_false h
  have hil:i = l.length:=by omega
  subst hil
  rw [List.take_length] at hn ht
  subst hn ht
  have l1:=jKl (aNums l)
  have l2:=jK0 hfew
  exact ⟨jVu (by omega),jVu (by omega),⟨fun s hs=>by have:=aTexts_mem hfew s hs; omega,jVu (by omega)⟩,rfl⟩
theorem AE2_sound:jQa AE2:=jQd ⟨sat_content,satE1⟩ satEG
theorem sat_face:Sat bs.P 8 faceSp:=jQe AE2_sound 6 _ faceSp fun x hok hp=>by
 obtain ⟨k,c,d,id,ow,un,fr,v,l,nn,rfl⟩:∃ (k c d id ow un fr:Int) (v:List Int) (l:List At) (nn:List Int),x = (k,c,d,id,ow,un,fr,v,l,nn,()):=⟨x.1,x.2.1,x.2.2.1,x.2.2.2.1,x.2.2.2.2.1,x.2.2.2.2.2.1,x.2.2.2.2.2.2.1,x.2.2.2.2.2.2.2.1,x.2.2.2.2.2.2.2.2.1,x.2.2.2.2.2.2.2.2.2.1,rfl⟩
 have hn:nn.length = 16:=hok.2.2.2.2.2.2.2.2.2.1.1
 have hfew:fewV (k,c,d,id,ow,un,fr,v,l,nn,()):=hp
 obtain ⟨c1,c2⟩:=content_ok hfew
 have hpre:fewV (k,c,d,id,ow,un,fr,v,l,nn,()) ∧ (nn.length ≤ 100000 ∧ (jXm (k,c,d,id,ow,un,fr,v,l,nn,())).length ≤ 900 ∧ ∀ p ∈ jXm (k,c,d,id,ow,un,fr,v,l,nn,()),p.length ≤ 100000):=⟨hfew,by omega,c1,c2⟩
 rw [face_nf]; delta jQu jVb faceq1 faceq2 faceq3 faceq4 faceq5 faceq7 SD z0 z1 z2 z3 z4 z5
 have hz:List.replicate 16 (0:Int) = [0,0,0,0,0,0,0,0,0,0,0,0,0,0,0,0]:=rfl
 simp only [hpre.1,hpre.2,true_and,and_self,faceS,hz]
 by_cases e1:k = 1
 ·subst e1; simp <;> exact c2
 by_cases e2:k = 2
 ·subst e2; simp <;> exact c2
 by_cases e3:k = 3
 ·subst e3; simp
 by_cases e4:k = 4
 ·subst e4; simp
 by_cases e5:k = 5
 ·subst e5; simp
 simp [e1,e2,e3,e4,e5]
end Go.Proofs.YtcnpblceamgfcaaGreatDoor
namespace Go.PL
open Go.AM
def upto (n:Nat) (p:Nat → Bool):Bool:=(List.range n).all p
def tabL {α:Type} (n:Nat) (f:Nat → α):List α:=(List.range n).map f
theorem upto_iff {n:Nat} {p:Nat → Bool}:upto n p = true ↔ ∀ i,i < n → p i = true:=by
 unfold upto
 rw [List.all_eq_true]
 exact ⟨fun h i hi=>h i (List.mem_range.2 hi),fun h i hi=>h i (List.mem_range.1 hi)⟩
theorem is_no {b:Bool} (h:b = true → False):false = b:=by cases b <;> simp_all
theorem eq_no {b:Bool} (h:b = true → False):b = false:=by cases b <;> simp_all
theorem dec_is {p:Prop} [Decidable p] {b:Bool} (h:p ↔ b = true):decide p = b:=by
 by_cases hp:p
 ·rw [decide_eq_true hp,h.1 hp]
 ·rw [decide_eq_false hp]; exact is_no fun hb=>hp (h.2 hb)
theorem bool_is {a b:Bool} (h:a = true ↔ b = true):a = b:=by cases a <;> cases b <;> simp_all
theorem jK7 {P:Nat → Prop} {x:Int} (h0:0 ≤ x) (h:∀ j:Nat,(j:Int) < x → P j) (hx:P x.toNat):∀ j:Nat,(j:Int) < x + 1 → P j:=fun j hj=>by
 by_cases h':(j:Int) < x
 ·exact h j h'
 ·rw [show j = x.toNat by omega]; exact hx
theorem jZv {x:Int} {n:Nat} (h0:0 ≤ x) (h:x < n) (hn:n ≤ 9223372036854775807):isI64 (x + 1):=by unfold isI64; omega
theorem tabL_length {α:Type} (n:Nat) (f:Nat → α):(tabL n f).length = n:=by simp [tabL]
theorem tabL_getD {α:Type} {n i:Nat} (f:Nat → α) (d:α) (h:i < n):(tabL n f).getD i d = f i:=by
 rw [List.getD_eq_getElem?_getD,List.getElem?_eq_getElem (by rw [tabL_length]; exact h)]
 simp [tabL]
theorem listL_ext {α:Type} {a b:List α} (d:α) (hl:a.length = b.length) (h:∀ i,i < a.length → a.getD i d = b.getD i d):a = b:=by
 apply List.ext_getElem hl
 intro i h1 h2
 have:=h i h1
 rw [List.getD_eq_getElem?_getD,List.getD_eq_getElem?_getD,List.getElem?_eq_getElem h1,List.getElem?_eq_getElem h2] at this
 exact this
theorem tabL_self {α:Type} (v:List α) (d:α):tabL v.length (fun i=>v.getD i d) = v :=
 listL_ext d (tabL_length _ _) fun i hi=>by rw [tabL_length] at hi; rw [tabL_getD _ _ hi]
end Go.PL
