import Derived.Test.YtbjjaaimhleedaaGreatDoorKt8
import Derived.ProofKit
import Derived.OpenShut
import Derived.Carry
import Derived.Test.YtbjjaaimhleedaaGreatDoorRows
import Derived.Shelf.Strings.Fields
import Derived.Shelf.Small.Strs
import Derived.Shelf.Strconv.Atoi
import Derived.Shelf.SlGeneric
import Derived.Test.YtbjjaaimhleedaaGreatDoorProg
import Derived.KernelRfl
import Derived.Tactics
import Derived.Tactics2
import Derived.TacticsIn
import Derived.TacticsInMore
import Derived.WalkKit
import Derived.WalkSmall
import Derived.WalkSpells
import Derived.Recover
import Derived.RecoverIn
set_option linter.unusedSimpArgs false
set_option linter.unusedVariables false
namespace Go.AM
open Go.Proofs.YtbjjaaimhleedaaGreatDoor
open Go.ChangeShapes Go.WideShapes Go.ChangeAt Go.RowKit
def wt:(t:Ty) → t.den → Nat
 | .int _,_=>1
 | .bool,_=>1
 | .fnc,_=>1
 | .any,_=>1
 | .str,l=>(l:List Int).length + 1
 | .arr e,xs=>((xs:List e.den).map (wt e)).sum + 1
 | .vec _ e,xs=>((xs:List e.den).map (wt e)).sum
 | .unit,_=>0
 | .pair a b,x=>wt a x.1 + wt b x.2
 | .rose a b,x=>Rose.size (fun y=>wt a (Prod.fst y) + wt b (Prod.snd y)) x
theorem sizes_eq {α:Type} (f:α → Nat):∀ (l:List (Rose α)),Rose.sizes f l = (l.map (Rose.size f)).sum
 | []=>rfl
 | y :: l=>by simp only [Rose.sizes,List.map_cons,List.sum_cons,sizes_eq f l]
def wts:(ts:List Ty) → dens ts → Nat
 | [],_=>0
 | [t],x=>wt t x
 | t :: u :: ts,x=>wt t x.1 + wts (u :: ts) x.2
def jZc (w:World):Pr:=fun a=>w.cell? a
theorem cellsPr_prom (w:World) (a:Addr) (v:Value) (h:jZc w a = some v):a.spot = none ∧ w.cell? a = some v:=⟨World.cell?_spot h,h⟩
section
variable {H:Type} {enc:TypeId × Value → H} {P:Program} {w:World} {spare:Nat → Bool} {held:Bool}
theorem rows_read {α:Type} {R:α → List Value → Prop} {g off ce:Nat} {rd:List Value → Option (DataW H × List MemPlace)} {wf:α → Nat}
 (ih:∀ cs x,rd cs = some x → cs.length = ce → ∃ y,R y cs ∧ wf y ≤ Rows.uptoBulk x.1) :
 ∀ (n i0:Nat) (elems:List (DataW H × List MemPlace)),elems.length = n →
  (∀ i,i < n → (w.cells? 0 (Addr.add ⟨g,off,none⟩ ((i0 + i) * ce)) ce).bind rd = elems[i]?) →
  ∃ (ys:List α) (cells:List Value),ys.length = n ∧ rdL R ys cells ∧ cells.length = n * ce ∧ (∀ j u,cells[j]? = some u → w.cell? ⟨g,off + (i0 * ce + j),none⟩ = some u) ∧
   (ys.map wf).sum ≤ Rows.uptoBulkAll (elems.map (·.1)):=by
 intro n
 induction n with
 | zero=>intro i0 elems hl _; exact ⟨[],[],rfl,rfl,by simp,by simp,by simp⟩
 | succ n ihn =>
  intro i0 elems hl hel
  cases elems with
  | nil=>simp at hl
  | cons x xs =>
   have h0:=hel 0 (by omega)
   simp only [List.getElem?_cons_zero,Option.bind_eq_some_iff] at h0
   obtain ⟨cs,hc,hx⟩:=h0
   obtain ⟨_,hlen,hcell⟩:=World.cells?_some hc
   obtain ⟨y,hy,hw⟩:=ih cs x hx hlen
   obtain ⟨ys,cells,h1,h2,h3,h4,h5⟩:=ihn (i0 + 1) xs (by simpa using hl) (fun i hi=>by
    have:=hel (i + 1) (by omega)
    rw [show i0 + (i + 1) = i0 + 1 + i by omega] at this
    simpa using this)
   refine ⟨y :: ys,cs ++ cells,by simp [h1],⟨cs,cells,rfl,hy,h2⟩,by simp [h3,hlen,Nat.add_mul]; omega,fun j u hj=>?_,by simp only [List.map_cons,List.sum_cons,Rows.uptoBulkAll]; omega⟩
   by_cases hjc:j < ce
   ·rw [List.getElem?_append_left (by omega)] at hj
    have:=hcell j hjc
    rw [hj,add_plain,add_plain] at this
    simpa [Nat.add_assoc] using this
   ·rw [List.getElem?_append_right (by omega),hlen] at hj
    have:=h4 (j - ce) u hj
    rw [← this]
    congr 2
    rw [Nat.add_mul]
    omega
mutual
theorem jZf:∀ (ty:Ty) {t:TypeId} {fuel:Nat} {cs:List Value} {x:DataW H × List MemPlace},okT P ty t = true →
 DataW.trod enc P w 0 spare held fuel t cs = some x → ∃ d:ty.den,reads (jZc w) ty d cs ∧ cs.length = ty.cells ∧ wt ty d ≤ Rows.uptoBulk x.1
 | .int k,t,fuel,cs,x,ht,h=>by
  unfold okT at ht
  split at ht
  ·rename_i k' hk
   have:k' = k:=by simpa using ht
   subst this
   obtain ⟨n,rfl,rfl,hw⟩:=DataW.trod_int hk h
   simp only [Lit.wf,Bool.and_eq_true,decide_eq_true_eq] at hw
   exact ⟨n,⟨rfl,by unfold IntKind.has; simpa using hw⟩,rfl,by simp [wt,Rows.uptoBulk]⟩
  ·cases ht
 | .bool,t,fuel,cs,x,ht,h=>by
  unfold okT at ht
  split at ht
  ·rename_i hk
   obtain ⟨b,rfl,rfl⟩:=DataW.trod_bool hk h
   exact ⟨b,rfl,rfl,by simp [wt,Rows.uptoBulk]⟩
  ·cases ht
 | .str,t,fuel,cs,x,ht,h=>by
  unfold okT at ht
  split at ht
  ·rename_i hk
   obtain ⟨s,rfl,rfl,hs⟩:=DataW.trod_string hk h
   refine ⟨bytesOf s,⟨?_,?_,?_⟩,rfl,by simp [wt,Rows.uptoBulk,bytesOf]⟩
   ·congr 2
    unfold strOf bytesOf
    cases s with | mk d=>simp [Function.comp_def]
   ·intro c hc
    simp only [bytesOf,List.mem_map] at hc
    obtain ⟨b,_,rfl⟩:=hc
    have:=b.toNat_lt
    omega
   ·simpa [bytesOf] using hs
  ·cases ht
 | .arr e,t,fuel,cs,x,ht,h=>by
  unfold okT at ht
  split at ht
  ·rename_i et hk
   simp only [Bool.and_eq_true] at ht
   obtain ⟨⟨hc,h1⟩,he⟩:=ht
   have hc:=Nat.eq_of_beq_eq_true hc
   have h1:=Nat.le_of_ble_eq_true h1
   rcases DataW.trod_slice hk h with ⟨rfl,rfl⟩ | ⟨a,len,cap,elems,rest,n,rfl,rfl,rfl,hb,hl,hm,hlen,hel,_,_⟩
   ·exact ⟨([]:List e.den),⟨none,0,rfl,Nat.le_refl _,Nat.zero_le _,.inl rfl⟩,rfl,by simp [wt,Rows.uptoBulk]⟩
   ·by_cases h0:len = 0
    ·subst h0
     exact ⟨([]:List e.den),⟨some a,cap,rfl,hl,hm,.inl rfl⟩,rfl,by simp [wt,Rows.uptoBulk]⟩
    ·have hsp:a.spot = none:=by
      have:=hel 0 (by omega)
      rw [List.getElem?_eq_getElem (by omega),Option.bind_eq_some_iff] at this
      obtain ⟨cs,hcs,_⟩:=this
      obtain ⟨_,hcl,hcell⟩:=World.cells?_some hcs
      have:=hcell 0 (by omega)
      rw [List.getElem?_eq_getElem (by omega)] at this
      have:=World.cell?_spot this
      unfold Addr.add at this
      split at this <;> simp_all
     obtain ⟨g,off,sp⟩:=a
     simp only at hsp
     subst hsp
     obtain ⟨ys,cells,y1,y2,y3,y4,y5⟩:=rows_read (wf:=wt e) (w:=w) (g:=g) (off:=off) (ce:=e.cells) (R:=reads (jZc w) e) (rd:=DataW.trod enc P w 0 spare held n et)
      (fun cs x hx _=>let ⟨d,hd,_,hw⟩:=jZf e he hx; ⟨d,hd,hw⟩) len 0 elems hlen (fun i hi=>by
        have:=hel i hi
        rw [hc] at this
        simpa using this)
     exact ⟨ys,⟨some ⟨g,off,none⟩,cap,by rw [y1],by omega,hm,.inr ⟨cells,y2,g,off,rfl,fun j u hj=>by simpa [jZc] using y4 j u hj⟩⟩,rfl,by simp only [wt,Rows.uptoBulk]; omega⟩
  ·cases ht
 | .vec n e,t,fuel,cs,x,ht,h=>by
  unfold okT at ht
  split at ht
  ·rename_i m et hk
   simp only [Bool.and_eq_true] at ht
   obtain ⟨⟨⟨hm,hc⟩,hs⟩,he⟩:=ht
   have hc:=Nat.eq_of_beq_eq_true hc
   have hs:=Nat.eq_of_beq_eq_true hs
   have hm:=Nat.eq_of_beq_eq_true hm
   subst hm
   obtain ⟨xs,k,rfl,rfl,hl,hx,hel⟩:=DataW.trod_array hk h
   rw [hs] at hl
   have key:∀ (r i:Nat),i + r = m → ∃ ys:List e.den,ys.length = r ∧ rdL (reads (jZc w) e) ys (cs.drop (i * e.cells)) ∧ (ys.map (wt e)).sum ≤ Rows.uptoBulkAll ((xs.drop i).map (·.1)):=by
    intro r
    induction r with
    | zero =>
     intro i hi
     refine ⟨[],rfl,?_,by simp⟩
     show cs.drop (i * e.cells) = []
     rw [List.drop_eq_nil_iff,hl,← hi]
     simp
    | succ r ihr =>
     intro i hi
     obtain ⟨ys,h1,h2,h3⟩:=ihr (i + 1) (by omega)
     have:=hel i (by omega)
     rw [List.getElem?_eq_getElem (by omega),hc] at this
     obtain ⟨y,hy,_,hw⟩:=jZf e he this
     refine ⟨y :: ys,by simp [h1],⟨(cs.drop (i * e.cells)).take e.cells,cs.drop ((i + 1) * e.cells),?_,hy,h2⟩,by
      rw [List.drop_eq_getElem_cons (by omega)]
      simp only [List.map_cons,List.sum_cons,Rows.uptoBulkAll]
      omega⟩
     rw [Nat.add_mul,Nat.one_mul,← List.drop_drop,List.take_append_drop]
   obtain ⟨ys,h1,h2,h3⟩:=key m 0 (by omega)
   exact ⟨ys,⟨h1,by simpa using h2⟩,hl,by simp only [wt,Rows.uptoBulk]; simp only [List.drop_zero] at h3; omega⟩
  ·cases ht
 | .rose a b,t,fuel,cs,x,ht,h=>by
  unfold okT at ht
  split at ht
  ·rename_i fs hk
   simp only [Bool.and_eq_true] at ht
   obtain ⟨hs,hA⟩:=ht
   have hs:=Nat.eq_of_beq_eq_true hs
   have key:∀ (N:Nat) (fuel:Nat),fuel ≤ N → ∀ (cs:List Value) (x:DataW H × List MemPlace),DataW.trod enc P w 0 spare held fuel t cs = some x →
    ∃ d:Rose (a.den × b.den),reads (jZc w) (.rose a b) d cs ∧ cs.length = a.cells + 1 + b.cells ∧ wt (.rose a b) d ≤ Rows.uptoBulk x.1:=by
    intro N
    induction N with
    | zero =>
     intro fuel hf cs x h
     obtain ⟨xs,n,rfl,_⟩:=DataW.trod_struct hk h
     omega
    | succ N ihN =>
     intro fuel hf cs x h
     obtain ⟨xs,n,rfl,rfl,hl,hx,hel⟩:=DataW.trod_struct hk h
     rw [hs] at hl
     obtain ⟨da,fs',xs',h1,h2,h3,h4,h5⟩:=fieldsA_of_trod a (n:=n) (fs:=fs.toList) (xs:=xs) (cs:=cs) (off:=0) hA (fun i f hf=>hel i f (by simpa using hf)) (by simp [hx])
     cases fs' with
     | nil=>cases h2
     | cons f fs' =>
      simp only [Bool.and_eq_true] at h2
      obtain ⟨⟨⟨ho,hc⟩,he⟩,hb⟩:=h2
      have ho:=Nat.eq_of_beq_eq_true ho
      have hc:=Nat.eq_of_beq_eq_true hc
      split at he
      ·rename_i et hke
       have het:=Nat.eq_of_beq_eq_true he
       subst het
       cases xs' with
       | nil=>simp at h4
       | cons x0 xs' =>
        have h0:=h3 0 f rfl
        rw [ho,hc] at h0
        simp only [List.getElem?_cons_zero,Nat.zero_add] at h0
        obtain ⟨db,hdb,hwb⟩:=jKn b (n:=n) (fs:=fs') (xs:=xs') (cs:=cs) (off:=a.cells + 1) (by simpa using hb) (by omega) (fun i f' hf'=>by
         have:=h3 (i + 1) f' (by simpa using hf')
         rw [this]; rfl) (by simpa using h4)
        obtain ⟨v,hv⟩:∃ v,(cs.drop a.cells).take 1 = [v]:=by
         have:((cs.drop a.cells).take 1).length = 1:=by simp; omega
         exact List.length_eq_one_iff.1 this
        rw [hv] at h0
        have hsub:∃ ys:List (Rose (a.den × b.den)),reads (jZc w) (.arr (.rose a b)) ys [v] ∧ (ys.map (wt (.rose a b))).sum + 1 ≤ Rows.uptoBulk x0.1:=by
         rcases DataW.trod_slice hke h0 with ⟨e1,rfl⟩ | ⟨ad,len,cap,elems,rest,n',rfl,e1,rfl,hb',hl',hm,hlen,hel',_,_⟩
         ·exact ⟨[],⟨none,0,e1,Nat.le_refl _,Nat.zero_le _,.inl rfl⟩,by simp [Rows.uptoBulk]⟩
         ·by_cases hz:len = 0
          ·subst hz
           exact ⟨[],⟨some ad,cap,e1,hl',hm,.inl rfl⟩,by simp [Rows.uptoBulk]⟩
          ·have hce:P.cellsOf et = a.cells + 1 + b.cells:=hs
           have hsp:ad.spot = none:=by
            have:=hel' 0 (by omega)
            rw [List.getElem?_eq_getElem (by omega),Option.bind_eq_some_iff] at this
            obtain ⟨cs',hcs,_⟩:=this
            obtain ⟨_,hcl,hcell⟩:=World.cells?_some hcs
            have:=hcell 0 (by omega)
            rw [List.getElem?_eq_getElem (by omega)] at this
            have:=World.cell?_spot this
            unfold Addr.add at this
            split at this <;> simp_all
           obtain ⟨g,off,sp⟩:=ad
           simp only at hsp
           subst hsp
           obtain ⟨ys,cells,y1,y2,y3,y4,y5⟩:=rows_read (wf:=wt (.rose a b)) (w:=w) (g:=g) (off:=off) (ce:=a.cells + 1 + b.cells) (R:=reads (jZc w) (.rose a b)) (rd:=DataW.trod enc P w 0 spare held n' et)
            (fun cs x hx _=>let ⟨d,hd,_,hw⟩:=ihN n' (by omega) cs x hx; ⟨d,hd,hw⟩) len 0 elems hlen (fun i hi=>by
              have:=hel' i hi
              rw [hce] at this
              simpa using this)
           exact ⟨ys,⟨some ⟨g,off,none⟩,cap,by rw [y1]; exact e1,by rw [y1]; exact hl',hm,.inr ⟨cells,y2,g,off,rfl,fun j u hj=>by simpa [jZc] using y4 j u hj⟩⟩,by simp only [Rows.uptoBulk]; omega⟩
        obtain ⟨ys,hys,hwy⟩:=hsub
        refine ⟨.node (da,db) ys,(jZv _ _).2 ⟨cs.take a.cells,v,cs.drop (a.cells + 1),?_,by rw [List.drop_zero] at h1; exact h1,hdb,hys⟩,hl,?_⟩
        ·rw [← List.singleton_append,← hv]
         have e2:cs.drop (a.cells + 1) = (cs.drop a.cells).drop 1:=by rw [List.drop_drop]
         rw [e2,List.take_append_drop,List.take_append_drop]
        ·show Rose.size _ _ ≤ _
         simp only [Rose.size,sizes_eq,Rows.uptoBulk]
         simp only [List.map_cons,Rows.uptoBulkAll] at h5
         have e3:(List.map (Rose.size fun y:a.den × b.den=>wt a y.1 + wt b y.2) ys).sum = (ys.map (wt (.rose a b))).sum:=rfl
         omega
      ·cases he
   exact key fuel fuel (Nat.le_refl _) cs x h
  ·cases ht
 | .unit,t,fuel,cs,x,ht,h=>by unfold okT at ht; cases ht
 | .fnc,t,fuel,cs,x,ht,h=>by unfold okT at ht; cases ht
 | .any,t,fuel,cs,x,ht,h=>by unfold okT at ht; cases ht
 | .pair a b,t,fuel,cs,x,ht,h=>by
  unfold okT at ht
  split at ht
  ·rename_i fs hk
   split at ht
   ·rename_i f fs' hfs
    simp only [Bool.and_eq_true] at ht
    obtain ⟨⟨⟨⟨hs,ho⟩,hc⟩,ha⟩,hb⟩:=ht
    have hs:=Nat.eq_of_beq_eq_true hs
    have ho:=Nat.eq_of_beq_eq_true ho
    have hc:=Nat.eq_of_beq_eq_true hc
    obtain ⟨xs,n,rfl,rfl,hl,hx,hel⟩:=DataW.trod_struct hk h
    have hfl:∀ i:Nat,fs[i]? = (f :: fs')[i]?:=fun i=>by rw [← hfs]; simp
    have hsz:fs.size = fs'.length + 1:=by rw [← Array.length_toList,hfs]; simp
    have h0:=hel 0 f (by rw [hfl]; rfl)
    rw [ho,hc,List.getElem?_eq_getElem (by omega)] at h0
    obtain ⟨da,hda,hla,hwa⟩:=jZf a ha h0
    have hF:=jKn b (n:=n) (fs:=fs') (xs:=xs.tail) (cs:=cs) (off:=a.cells) hb (by rw [hl,hs]) (fun i f' hf'=>by
     have:=hel (i + 1) f' (by rw [hfl]; exact hf')
     rw [this]
     cases xs with
     | nil=>simp
     | cons x xs=>rfl) (by simp; omega)
    obtain ⟨db,hdb,hwb⟩:=hF
    refine ⟨(da,db),⟨cs.take a.cells,cs.drop a.cells,(List.take_append_drop _ _).symm,by simpa using hda,hdb⟩,by rw [hl,hs]; rfl,?_⟩
    cases xs with
    | nil=>simp at hx; omega
    | cons x xs =>
     simp only [wt,Rows.uptoBulk,List.map_cons,Rows.uptoBulkAll]
     simp only [List.getElem_cons_zero,List.tail_cons] at hwa hwb
     omega
   ·cases ht
  ·cases ht
theorem fieldsA_of_trod:∀ (ty:Ty) {n:Nat} {fs:List Field} {xs:List (DataW H × List MemPlace)} {cs:List Value} {off:Nat} {k:List Field → Nat → Bool},okA P ty fs off k = true →
 (∀ (i:Nat) (f:Field),fs[i]? = some f → DataW.trod enc P w 0 spare held n f.type ((cs.drop f.offset).take (P.cellsOf f.type)) = xs[i]?) → xs.length = fs.length →
 ∃ (d:ty.den) (fs':List Field) (xs':List (DataW H × List MemPlace)),reads (jZc w) ty d ((cs.drop off).take ty.cells) ∧ k fs' (off + ty.cells) = true ∧
  (∀ (i:Nat) (f:Field),fs'[i]? = some f → DataW.trod enc P w 0 spare held n f.type ((cs.drop f.offset).take (P.cellsOf f.type)) = xs'[i]?) ∧ xs'.length = fs'.length ∧
  wt ty d + Rows.uptoBulkAll (xs'.map (·.1)) ≤ Rows.uptoBulkAll (xs.map (·.1))
 | .pair a b,n,fs,xs,cs,off,k,ht,hel,hx=>by
  cases fs with
  | nil=>simp [okA] at ht
  | cons f fs =>
   simp only [okA,Bool.and_eq_true] at ht
   obtain ⟨⟨⟨ho,hc⟩,ha⟩,hb⟩:=ht
   have ho:=Nat.eq_of_beq_eq_true ho
   have hc:=Nat.eq_of_beq_eq_true hc
   cases xs with
   | nil=>simp at hx
   | cons x xs =>
    have h0:=hel 0 f rfl
    rw [ho,hc] at h0
    obtain ⟨da,hda,_,hwa⟩:=jZf a ha (by simpa using h0)
    obtain ⟨db,fs',xs',h1,h2,h3,h4,h5⟩:=fieldsA_of_trod b (n:=n) (fs:=fs) (xs:=xs) (cs:=cs) (off:=off + a.cells) (k:=k) hb (fun i f' hf'=>by
     have:=hel (i + 1) f' (by simpa using hf')
     rw [this]; rfl) (by simpa using hx)
    refine ⟨(da,db),fs',xs',⟨(cs.drop off).take a.cells,(cs.drop (off + a.cells)).take b.cells,?_,hda,h1⟩,by rw [← h2]; congr 1; simp [Ty.cells]; omega,h3,h4,by simp only [wt,List.map_cons,Rows.uptoBulkAll]; omega⟩
    rw [← List.drop_drop,← List.take_add]
    rfl
 | .unit,n,fs,xs,cs,off,k,ht,hel,hx=>by
  simp only [okA] at ht
  exact ⟨(),fs,xs,by show (cs.drop off).take 0 = []; simp,by simpa [Ty.cells] using ht,hel,hx,by simp [wt]⟩
 | .int _,_,_,_,_,_,_,ht,_,_=>by simp [okA] at ht
 | .bool,_,_,_,_,_,_,ht,_,_=>by simp [okA] at ht
 | .fnc,_,_,_,_,_,_,ht,_,_=>by simp [okA] at ht
 | .any,_,_,_,_,_,_,ht,_,_=>by simp [okA] at ht
 | .str,_,_,_,_,_,_,ht,_,_=>by simp [okA] at ht
 | .arr _,_,_,_,_,_,_,ht,_,_=>by simp [okA] at ht
 | .rose _ _,_,_,_,_,_,_,ht,_,_=>by simp [okA] at ht
 | .vec _ _,_,_,_,_,_,_,ht,_,_=>by simp [okA] at ht
theorem jKn:∀ (ty:Ty) {n:Nat} {fs:List Field} {xs:List (DataW H × List MemPlace)} {cs:List Value} {off:Nat},okF P ty fs off = true → cs.length = off + ty.cells →
 (∀ (i:Nat) (f:Field),fs[i]? = some f → DataW.trod enc P w 0 spare held n f.type ((cs.drop f.offset).take (P.cellsOf f.type)) = xs[i]?) → xs.length = fs.length →
 ∃ d:ty.den,reads (jZc w) ty d (cs.drop off) ∧ wt ty d ≤ Rows.uptoBulkAll (xs.map (·.1))
 | .pair a b,n,fs,xs,cs,off,ht,hl,hel,hx=>by
  cases fs with
  | nil=>simp [okF] at ht
  | cons f fs =>
   simp only [okF,Bool.and_eq_true] at ht
   obtain ⟨⟨⟨ho,hc⟩,ha⟩,hb⟩:=ht
   have ho:=Nat.eq_of_beq_eq_true ho
   have hc:=Nat.eq_of_beq_eq_true hc
   cases xs with
   | nil=>simp at hx
   | cons x xs =>
    have h0:=hel 0 f rfl
    rw [ho,hc] at h0
    obtain ⟨da,hda,_,hwa⟩:=jZf a ha (by simpa using h0)
    obtain ⟨db,hdb,hwb⟩:=jKn b (n:=n) (fs:=fs) (xs:=xs) (cs:=cs) (off:=off + a.cells) hb (by rw [hl]; simp [Ty.cells]; omega) (fun i f' hf'=>by
     have:=hel (i + 1) f' (by simpa using hf')
     rw [this]; rfl) (by simpa using hx)
    refine ⟨(da,db),⟨(cs.drop off).take a.cells,cs.drop (off + a.cells),?_,hda,hdb⟩,by simp only [wt,List.map_cons,Rows.uptoBulkAll]; omega⟩
    rw [← List.drop_drop,List.take_append_drop]
 | .unit,n,fs,xs,cs,off,ht,hl,hel,hx=>⟨(),by
  show cs.drop off = []
  rw [List.drop_eq_nil_iff,hl]
  simp [Ty.cells],by simp [wt]⟩
 | .int _,_,_,_,_,_,ht,_,_,_=>by simp [okF] at ht
 | .bool,_,_,_,_,_,ht,_,_,_=>by simp [okF] at ht
 | .fnc,_,_,_,_,_,ht,_,_,_=>by simp [okF] at ht
 | .rose _ _,_,_,_,_,_,ht,_,_,_=>by simp [okF] at ht
 | .any,_,_,_,_,_,ht,_,_,_=>by simp [okF] at ht
 | .str,_,_,_,_,_,ht,_,_,_=>by simp [okF] at ht
 | .arr _,_,_,_,_,_,ht,_,_,_=>by simp [okF] at ht
 | .vec _ _,_,_,_,_,_,ht,_,_,_=>by simp [okF] at ht
end
theorem rv_of_trod (ty:Ty) {r:Reach} {b0:Nat} {t:TypeId} {v:Value} {d:DataW H} {ps:List MemPlace} (ht:okT P ty t = true) (hval:Value.okWide P w r b0 t v)
 (h:DataW.Trod enc P w 0 spare held t v d ps):∃ x:ty.den,rv (jZc w) ty x v ∧ wt ty x ≤ Rows.uptoBulk d:=by
 obtain ⟨fuel,h⟩:=h
 obtain ⟨x,hx,_,hwt⟩:=jZf ty ht h
 refine ⟨x,⟨v.cells.toList,hx,?_⟩,hwt⟩
 unfold Value.okWide at hval
 cases ty with
 | int k =>
  unfold okT at ht
  split at ht
  ·rename_i k' hk
   obtain ⟨n,rfl⟩:=okWide_int hk (by unfold Value.okWide; rw [hk] at hval ⊢; exact hval)
   rfl
  ·cases ht
 | fnc=>unfold okT at ht; cases ht
 | any=>unfold okT at ht; cases ht
 | rose a b =>
  unfold okT at ht
  split at ht
  ·rename_i hk
   rw [hk] at hval
   obtain ⟨cs,rfl,_⟩:=hval
   simp [Ty.isAgg,Value.cells]
  ·cases ht
 | bool =>
  unfold okT at ht
  split at ht
  ·rename_i hk
   obtain ⟨n,rfl⟩:=okWide_bool hk (by unfold Value.okWide; rw [hk] at hval ⊢; exact hval)
   rfl
  ·cases ht
 | str =>
  unfold okT at ht
  split at ht
  ·rename_i hk
   obtain ⟨n,rfl⟩:=okWide_string hk (by unfold Value.okWide; rw [hk] at hval ⊢; exact hval)
   rfl
  ·cases ht
 | arr e =>
  unfold okT at ht
  split at ht
  ·rename_i hk
   obtain ⟨a,l,c,rfl⟩:=okWide_slice hk (by unfold Value.okWide; rw [hk] at hval ⊢; exact hval)
   rfl
  ·cases ht
 | vec n e =>
  unfold okT at ht
  split at ht
  ·rename_i hk
   rw [hk] at hval
   obtain ⟨cs,rfl,_⟩:=hval
   simp [Ty.isAgg,Value.cells]
  ·cases ht
 | unit=>unfold okT at ht; cases ht
 | pair a b =>
  unfold okT at ht
  split at ht
  ·rename_i hk
   rw [hk] at hval
   obtain ⟨cs,rfl,_⟩:=hval
   simp [Ty.isAgg,Value.cells]
  ·cases ht
theorem rels_of_trod:∀ (tys:List Ty) {r:Reach} {b0:Nat} {ts:List TypeId} {vs:List Value} {ds:List (DataW H)} {ps:List MemPlace},okTs P tys ts = true →
 (∀ (j:Nat) t v,ts[j]? = some t → vs[j]? = some v → Value.okWide P w r b0 t v) → DataW.TrodAll enc P w 0 spare held ts vs ds ps →
 ∃ x:dens tys,RelL (jZc w) [] (outs tys x) vs ∧ wts tys x ≤ Rows.uptoBulkAll ds
 | [],_,_,ts,vs,ds,ps,ht,hval,h=>by
  cases ts with
  | cons t ts=>simp [okTs] at ht
  | nil =>
   obtain ⟨rfl,_,_⟩:=trodAll_nil h
   exact ⟨(),rfl,by simp [wts]⟩
 | ty :: tys,_,_,ts,vs,ds,ps,ht,hval,h=>by
  cases ts with
  | nil=>simp [okTs] at ht
  | cons t ts =>
   simp only [okTs,Bool.and_eq_true] at ht
   obtain ⟨v,vs,d,ds,p,q,rfl,rfl,rfl,h1,h2⟩:=trodAll_cons h
   obtain ⟨x,hx,hwx⟩:=rv_of_trod ty ht.1 (hval 0 t v rfl rfl) h1
   obtain ⟨y,hy,hwy⟩:=rels_of_trod tys ht.2 (fun j t v hj hv=>hval (j + 1) t v (by simpa using hj) (by simpa using hv)) h2
   cases tys with
   | nil=>exact ⟨x,⟨v,vs,rfl,hx,hy⟩,by simp only [wts,Rows.uptoBulkAll]; omega⟩
   | cons u us=>exact ⟨(x,y),⟨v,vs,rfl,hx,hy⟩,by simp only [wts,Rows.uptoBulkAll]; omega⟩
theorem trodAll_below {ts:List TypeId} (hl:laidOutB P = true) (hr:∀ t ∈ ts,P.readableRec t = true ∧ t < P.types.size) {W W':World} {sp:Nat → Bool} (hb:Below W.heap.size W W') :
 ∀ {ts':List TypeId} {vs:List Value} {ds:List (DataW H)} {ps:List MemPlace},(∀ t ∈ ts',t ∈ ts) → DataW.TrodAll enc P W 0 (fun _=>true) true ts' vs ds ps →
  (∀ x ∈ ps,x.block < W.heap.size) → (∀ x ∈ ps,sp x.block = true) → DataW.TrodAll enc P W' 0 sp true ts' vs ds ps
 | [],[],[],_,_,h,_,_=>h
 | t :: ts',_ :: _,_ :: _,_,hm,⟨p,q,h1,h2,e⟩,hlt,hsp =>
  ⟨p,q,WideElems.Trod_stays hl (hr t (hm t (by simp))).1 (hr t (hm t (by simp))).2 h1 (fun x hx=>hb.same (hlt x (by rw [e]; simp [hx]))) (fun x hx=>hsp x (by rw [e]; simp [hx])),
    trodAll_below hl hr hb (fun t ht=>hm t (by simp [ht])) h2 (fun x hx=>hlt x (by rw [e]; simp [hx])) (fun x hx=>hsp x (by rw [e]; simp [hx])),e⟩
theorem post_below {f:Func} {s:ChangeSpec} {apart fresh handsOn again:Bool} {W W':World} {args:Array Value} {v:Value} {ds gs:List (DataW H)} {jX2 pa pv:List MemPlace}
 (hW:DataW.Whole enc P f.params.toList s.vars apart W args.toList ds gs jX2)
 (hres:∀ (b:Nat) (sp:Nat → Bool) (hd:Bool),DataW.TrodAll enc P W' b sp hd f.resultTypes.toList (v.resultList f.resultTypes.size) (s.fn H (ds ++ gs)).results [])
 (hargs:∀ sp:Nat → Bool,(∀ p ∈ jX2,sp p.block = true) → DataW.TrodAll enc P W' 0 sp true f.params.toList args.toList (s.fn H (ds ++ gs)).args pa)
 (hvars:∀ sp:Nat → Bool,(∀ p ∈ jX2,sp p.block = true) → DataW.TrodVars enc P W' sp s.vars (s.fn H (ds ++ gs)).vars pv)
 (hps:jX2 = pa ++ pv) (hb:Below W.heap.size W W')
 (hok:∀ (j:Nat) (t:TypeId) (r:Value),f.resultTypes[j]? = some t → (v.resultList f.resultTypes.size)[j]? = some r → Value.okWide P W' .any 0 t r) :
 s.post enc P f apart fresh handsOn again W args v W':=by
 have hlt:∀ p ∈ jX2,p.block < W.heap.size:=fun p hp=>by simpa using hW.lt p hp
 have hold:∀ p ∈ jX2,(fun b=>decide (b < W.heap.size)) p.block = true:=fun p hp=>by simpa using hW.lt p hp
 refine ⟨ds,gs,jX2,[],pa,pv,hW,hres _ _ _,hargs _ hold,hvars _ hold,hb.frame _,fun _=>?_⟩
 obtain ⟨_,_,_,_,_,hz,hn⟩:=hW
 refine ⟨hok,_,_,([] ++ pa) ++ pv,⟨[] ++ pa,pv,trodAll_append (hargs _ (fun _ _=>rfl)) (hres _ _ _),hvars _ (fun _ _=>rfl),rfl,?_,?_⟩,?_⟩
 ·intro b off hp
  have hp':MemPlace.cell b off ∈ jX2:=by rw [hps]; simpa using hp
  rw [hb.frozen (p:=⟨b,off,none⟩) (hlt _ hp')]
  exact hz b off hp'
 ·intro ha
  have:=hn ha
  rw [hps] at this
  simpa using this
 ·intro p hp _
  rw [hps]
  simpa using hp
def look:List (FuncId × FSpec) → FuncId → Option FSpec
 | [],_=>none
 | p :: l,f=>if Nat.beq f p.1 then some p.2 else look l f
def AllSat (P:Program):List (FuncId × FSpec) → Prop
 | []=>True
 | p :: l=>Sat P p.1 p.2 ∧ AllSat P l
def lookG:List (FuncId × GSpec) → FuncId → Option GSpec
 | [],_=>none
 | p :: l,f=>if Nat.beq f p.1 then some p.2 else lookG l f
def AllSatG (P:Program):List (FuncId × GSpec) → Prop
 | []=>True
 | p :: l=>SatG P p.1 p.2 ∧ AllSatG P l
theorem lookG_sound {P:Program}:∀ (l:List (FuncId × GSpec)),AllSatG P l → ∀ g sp,lookG l g = some sp → SatG P g sp
 | [],_,g,sp,h=>by simp [lookG] at h
 | p :: l,hl,g,sp,h=>by
  unfold lookG at h
  split at h
  ·rename_i hb
   have:=Nat.eq_of_beq_eq_true hb
   simp at h
   subst this; subst h
   exact hl.1
  ·exact lookG_sound l hl.2 g sp h
theorem look_sound {P:Program}:∀ (l:List (FuncId × FSpec)),AllSat P l → ∀ g sp,look l g = some sp → Sat P g sp
 | [],_,g,sp,h=>by simp [look] at h
 | p :: l,hl,g,sp,h=>by
  unfold look at h
  split at h
  ·rename_i hb
   have:=Nat.eq_of_beq_eq_true hb
   simp at h
   subst this; subst h
   exact hl.1
  ·exact look_sound l hl.2 g sp h
structure Base where
 P:Program
 ty:TypeId → Option Ty
 ro:TypeId → Bool
def mkctx (b:Base) (l:List (FuncId × FSpec)) (g:List (FuncId × GSpec)) (hint:FuncId → Hint):Ctx:=⟨b.P,look l,hint,b.ty,lookG g,b.ro,fun _=>none,fun _=>none,fun _=>none,fun _=>none,fun _=>none,fun _=>none,fun _=>none,true,fun _=>False,0,fun _=>false⟩
theorem jQi {b:Base} {l:List (FuncId × FSpec)} {g:List (FuncId × GSpec)} {hint:FuncId → Hint} (h:AllSat b.P l) (h':AllSatG b.P g):jQe (mkctx b l g hint) :=
 ⟨fun f sp hg=>look_sound l h f sp hg,fun f sp hg=>lookG_sound g h' f sp hg,(fun f sp hg=>by cases hg),(fun f sp hg=>by cases hg),(fun f sp hg=>by cases hg),(fun f sp hg=>by cases hg),(fun f sp hg=>by cases hg),(fun f sp hg=>by cases hg),(fun f sp hg=>by cases hg),fun f hg=>by cases hg⟩
def lookPn:List (FuncId × PSpec) → FuncId → Option PSpec
 | [],_=>none
 | p :: l,f=>if Nat.beq f p.1 then some p.2 else lookPn l f
def AllSatP (P:Program) (pT:TypeId):List (FuncId × PSpec) → Prop
 | []=>True
 | p :: l=>SatP P pT p.1 p.2 ∧ AllSatP P pT l
theorem lookPn_sound {P:Program} {pT:TypeId}:∀ (l:List (FuncId × PSpec)),AllSatP P pT l → ∀ f sp,lookPn l f = some sp → SatP P pT f sp
 | [],_,f,sp,hg=>by cases hg
 | p :: l,h,f,sp,hg=>by
  unfold lookPn at hg
  split at hg
  ·rename_i e
   simp only [Option.some.injEq] at hg
   subst hg
   rw [Nat.eq_of_beq_eq_true e]
   exact h.1
  ·exact lookPn_sound l h.2 f sp hg
def mkctxP (b:Base) (l:List (FuncId × FSpec)) (g:List (FuncId × GSpec)) (pT:TypeId) (pn:List (FuncId × PSpec)) (pan:Int × Int → Prop) (hint:FuncId → Hint):Ctx :=
 { mkctx b l g hint with pans:=fun f=>lookPn pn f,noPan:=false,pan:=pan,panT:=pT }
theorem mkctxP_sound {b:Base} {l:List (FuncId × FSpec)} {g:List (FuncId × GSpec)} {pT:TypeId} {pn:List (FuncId × PSpec)} {pan:Int × Int → Prop} {hint:FuncId → Hint} (h:AllSat b.P l) (h':AllSatG b.P g) (h'':AllSatP b.P pT pn):jQe (mkctxP b l g pT pn pan hint) :=
 ⟨fun f sp hg=>look_sound l h f sp hg,fun f sp hg=>lookG_sound g h' f sp hg,(fun f sp hg=>by cases hg),(fun f sp hg=>by cases hg),(fun f sp hg=>by cases hg),(fun f sp hg=>by cases hg),(fun f sp hg=>by cases hg),(fun f sp hg=>by cases hg),(fun f sp hg=>lookPn_sound pn h'' f sp hg),fun f hg=>by cases hg⟩
def lawSp (ps:List Ty):FSpec:=⟨ps,[.bool],fun _=>True,fun _=>true⟩
theorem law_contract0 {f:FuncId} {fn:Func} {s:ChangeSpec} {tys:List Ty} {pre:dens tys → Prop} {bt:TypeId} {W:World} {r:Reach} {base:Nat} {args:Array Value} {ds gs:List (DataW H)} {jX2:List MemPlace}
 (hsat:Sat P f ⟨tys,[.bool],pre,fun _=>true⟩) (hpre:∀ x,wts tys x ≤ Rows.uptoBulkAll ds → pre x) (hl:laidOutB P = true)
 (hr:(fn.params.toList.all fun t=>P.readableRec t && decide (t < P.types.size)) = true) (hty:okTs P tys fn.params.toList = true)
 (hvars:s.vars = []) (hs:∀ ds:List (DataW H),ds.length = fn.params.size → s.fn H (ds ++ []) = { results:=[.lit (.bool true)],args:=ds })
 (hres:fn.resultTypes = #[bt]) (hbt:P.underlying bt = some .bool)
 (hval:∀ (j:Nat) t v,fn.params[j]? = some t → args[j]? = some v → Value.okWide P W r base t v)
 (hW:DataW.Whole enc P fn.params.toList s.vars false W args.toList ds gs jX2) (hgl:Gl P (jZc W)) :
 Calls P f args W fun e W'=>∃ v,e = .returned v ∧ s.post enc P fn false true false false W args v W':=by
 have hW':=hW
 obtain ⟨p,q,hA,hV,rfl,hfz,hnd⟩:=hW
 rw [hvars] at hV
 obtain ⟨rfl,rfl⟩:=trodVars_none hV
 obtain ⟨x,hx,hwx⟩:=rels_of_trod tys hty (fun j t v hj hv=>hval j t v (by simpa using hj) (by simpa using hv)) hA
 have hds:ds.length = fn.params.size:=by
  have:∀ {ts:List TypeId} {vs:List Value} {ds:List (DataW H)} {ps:List MemPlace},DataW.TrodAll enc P W 0 (fun _=>true) true ts vs ds ps → ds.length = ts.length:=by
   intro ts
   induction ts with
   | nil=>intro vs ds ps h; obtain ⟨_,rfl,_⟩:=trodAll_nil h; rfl
   | cons t ts ih=>intro vs ds ps h; obtain ⟨v,vs,d,ds,p,q,rfl,rfl,rfl,h1,h2⟩:=trodAll_cons h; simp [ih h2]
  simpa using this hA
 have hlt:∀ y ∈ p,y.block < W.heap.size:=fun y hy=>by simpa using hW'.lt y (by simpa using hy)
 refine (hsat (jZc W) W x args.toList (cellsPr_prom W) hgl hx (hpre x hwx)).mono fun e W' ⟨v,Ψ',he,hb,_,_,hv⟩=>?_
 have hv:rv Ψ' .bool true v:=hv
 obtain ⟨cs,hcs,hcv⟩:=hv
 have hcs:cs = [.bool true]:=hcs
 have hcv:cs = [v]:=hcv
 have e2:v = .bool true:=by rw [hcs] at hcv; simpa using hcv.symm
 subst e2
 have hr':∀ t ∈ fn.params.toList,P.readableRec t = true ∧ t < P.types.size:=fun t ht=>by
  have:=List.all_eq_true.1 hr t ht
  simpa using this
 refine ⟨_,he,post_below (pa:=p) (pv:=[]) hW' (fun b sp hd=>?_) (fun sp hsp=>?_) (fun sp _=>?_) (by simp) hb (ok_one hres rfl (okWide_bool_mk hbt _))⟩
 ·rw [hs ds hds,hres]
  exact trodAll_cons_mk (shut_bool hbt _) trodAll_mk0
 ·rw [hs ds hds]
  exact trodAll_below hl hr' hb (fun t ht=>ht) hA hlt (fun y hy=>hsp y (by simpa using hy))
 ·rw [hs ds hds,hvars]
  rfl
theorem law_contract {f:FuncId} {fn:Func} {s:ChangeSpec} {tys:List Ty} {bt:TypeId} {W:World} {r:Reach} {base:Nat} {args:Array Value} {ds gs:List (DataW H)} {jX2:List MemPlace}
 (hsat:Sat P f (lawSp tys)) (hl:laidOutB P = true) (hr:(fn.params.toList.all fun t=>P.readableRec t && decide (t < P.types.size)) = true) (hty:okTs P tys fn.params.toList = true)
 (hvars:s.vars = []) (hs:∀ ds:List (DataW H),ds.length = fn.params.size → s.fn H (ds ++ []) = { results:=[.lit (.bool true)],args:=ds })
 (hres:fn.resultTypes = #[bt]) (hbt:P.underlying bt = some .bool)
 (hval:∀ (j:Nat) t v,fn.params[j]? = some t → args[j]? = some v → Value.okWide P W r base t v)
 (hW:DataW.Whole enc P fn.params.toList s.vars false W args.toList ds gs jX2) (hgl:Gl P (jZc W)) :
 Calls P f args W fun e W'=>∃ v,e = .returned v ∧ s.post enc P fn false true false false W args v W' :=
 law_contract0 hsat (fun _ _=>trivial) hl hr hty hvars hs hres hbt hval hW hgl
end
end Go.AM
namespace Go.Proofs
open Go.Shelf
def Tryz.lays157_ren:Go.Shelf.Ren:=⟨fun | 157=>114 | 229=>125 | 199=>126 | 261=>130 | 311=>133 | 312=>134 | n=>n,fun | 9=>9 | 31=>53 | 3=>3 | 5=>5 | 4=>4 | 119=>155 | 0=>0 | 40=>157 | 152=>160 | 21=>21 | 154=>162 | 51=>163 | 141=>165 | 196=>173 | 193=>170 | 198=>176 | 49=>174 | 194=>171 | 201=>179 | 226=>182 | 46=>183 | 227=>184 | n=>n,fun | 0=>0 | 6=>1 | n=>n⟩
theorem Tryz.lays157:Go.Proofs.Lays.n157 Tryz.prog Tryz.lays157_ren:={
 mixed:=by kernel_rfl
 f157:=Tryz.func114.trans (congrArg some (by kernel_rfl))
 f199:=Tryz.func126.trans (congrArg some (by kernel_rfl))
 f229:=Tryz.func125.trans (congrArg some (by kernel_rfl))
 f261:=Tryz.func130.trans (congrArg some (by kernel_rfl))
 f311:=Tryz.func133.trans (congrArg some (by kernel_rfl))
 f312:=Tryz.func134.trans (congrArg some (by kernel_rfl))
 t0:=Tryz.underlying0
 a0:=Tryz.isAgg0
 z0:=Tryz.sizeOf0
 v0:=Tryz.zeroValue0
 t3:=Tryz.underlying3
 a3:=Tryz.isAgg3
 z3:=Tryz.sizeOf3
 v3:=Tryz.zeroValue3
 t4:=Tryz.underlying4
 a4:=Tryz.isAgg4
 z4:=Tryz.sizeOf4
 v4:=Tryz.zeroValue4
 t5:=Tryz.underlying5
 a5:=Tryz.isAgg5
 z5:=Tryz.sizeOf5
 v5:=Tryz.zeroValue5
 t9:=Tryz.underlying9
 a9:=Tryz.isAgg9
 z9:=Tryz.sizeOf9
 v9:=Tryz.zeroValue9
 t21:=Tryz.underlying21
 a21:=Tryz.isAgg21
 z21:=Tryz.sizeOf21
 v21:=Tryz.zeroValue21
 t31:=Tryz.underlying53
 a31:=Tryz.isAgg53
 z31:=Tryz.sizeOf53
 v31:=Tryz.zeroValue53
 t40:=Tryz.underlying157
 a40:=Tryz.isAgg157
 z40:=Tryz.sizeOf157
 v40:=Tryz.zeroValue157
 t46:=Tryz.underlying183
 a46:=Tryz.isAgg183
 z46:=Tryz.sizeOf183
 v46:=Tryz.zeroValue183
 t49:=Tryz.underlying174
 a49:=Tryz.isAgg174
 z49:=Tryz.sizeOf174
 v49:=Tryz.zeroValue174
 t51:=Tryz.underlying163
 a51:=Tryz.isAgg163
 z51:=Tryz.sizeOf163
 v51:=Tryz.zeroValue163
 t119:=Tryz.underlying155
 a119:=Tryz.isAgg155
 z119:=Tryz.sizeOf155
 t141:=Tryz.underlying165
 a141:=Tryz.isAgg165
 z141:=Tryz.sizeOf165
 v141:=Tryz.zeroValue165
 t152:=Tryz.underlying160
 a152:=Tryz.isAgg160
 z152:=Tryz.sizeOf160
 v152:=Tryz.zeroValue160
 t154:=Tryz.underlying162
 a154:=Tryz.isAgg162
 z154:=Tryz.sizeOf162
 v154:=Tryz.zeroValue162
 t193:=Tryz.underlying170
 a193:=Tryz.isAgg170
 z193:=Tryz.sizeOf170
 v193:=Tryz.zeroValue170
 t194:=Tryz.underlying171
 a194:=Tryz.isAgg171
 z194:=Tryz.sizeOf171
 v194:=Tryz.zeroValue171
 t196:=Tryz.underlying173
 a196:=Tryz.isAgg173
 z196:=Tryz.sizeOf173
 v196:=Tryz.zeroValue173
 t198:=Tryz.underlying176
 a198:=Tryz.isAgg176
 z198:=Tryz.sizeOf176
 v198:=Tryz.zeroValue176
 t201:=Tryz.underlying179
 a201:=Tryz.isAgg179
 z201:=Tryz.sizeOf179
 v201:=Tryz.zeroValue179
 t226:=Tryz.underlying182
 a226:=Tryz.isAgg182
 z226:=Tryz.sizeOf182
 v226:=Tryz.zeroValue182
 t227:=Tryz.underlying184
 a227:=Tryz.isAgg184
 z227:=Tryz.sizeOf184
 v227:=Tryz.zeroValue184
 g0:=by kernel_rfl
 g6:=by kernel_rfl }
def Tryz.lays137_ren:Go.Shelf.Ren:=⟨fun | 137=>113 | 217=>124 | 266=>129 | n=>n,fun | 9=>9 | 5=>5 | 3=>3 | n=>n,fun | n=>n⟩
theorem Tryz.lays137:Go.Proofs.Lays.n137 Tryz.prog Tryz.lays137_ren:={
 mixed:=by kernel_rfl
 f137:=Tryz.func113.trans (congrArg some (by kernel_rfl))
 f217:=Tryz.func124.trans (congrArg some (by kernel_rfl))
 f266:=Tryz.func129.trans (congrArg some (by kernel_rfl))
 t3:=Tryz.underlying3
 a3:=Tryz.isAgg3
 z3:=Tryz.sizeOf3
 v3:=Tryz.zeroValue3
 t5:=Tryz.underlying5
 a5:=Tryz.isAgg5
 z5:=Tryz.sizeOf5
 v5:=Tryz.zeroValue5
 t9:=Tryz.underlying9
 a9:=Tryz.isAgg9
 z9:=Tryz.sizeOf9
 v9:=Tryz.zeroValue9 }
def Tryz.lays172_ren:Go.Shelf.Ren:=⟨fun | 172=>132 | 244=>136 | 245=>137 | 247=>140 | 279=>141 | 280=>142 | 281=>143 | 282=>144 | 287=>147 | 316=>148 | 171=>150 | 205=>149 | 321=>154 | 322=>155 | 243=>156 | 246=>163 | 283=>170 | 284=>171 | 285=>172 | 286=>173 | 129=>185 | 317=>184 | 318=>186 | 319=>187 | 320=>188 | 337=>197 | 338=>198 | n=>n,fun | 9=>9 | 3=>3 | 75=>167 | 76=>168 | 4=>4 | 5=>5 | 167=>188 | 37=>141 | 0=>0 | 85=>189 | 2=>2 | 168=>191 | 53=>209 | 175=>210 | 46=>183 | 210=>213 | 127=>219 | 145=>222 | 143=>220 | 21=>21 | 171=>252 | 173=>255 | 212=>272 | 51=>163 | 20=>20 | 213=>273 | 232=>279 | 233=>280 | 80=>281 | n=>n,fun | 15=>3 | 16=>4 | 17=>5 | 18=>6 | 19=>7 | n=>n⟩
theorem Tryz.lays172:Go.Proofs.Lays.n172 Tryz.prog Tryz.lays172_ren:={
 mixed:=by kernel_rfl
 f129:=Tryz.func185.trans (congrArg some (by kernel_rfl))
 f171:=Tryz.func150.trans (congrArg some (by kernel_rfl))
 f172:=Tryz.func132.trans (congrArg some (by kernel_rfl))
 f205:=Tryz.func149.trans (congrArg some (by kernel_rfl))
 f243:=Tryz.func156.trans (congrArg some (by kernel_rfl))
 f244:=Tryz.func136.trans (congrArg some (by kernel_rfl))
 f245:=Tryz.func137.trans (congrArg some (by kernel_rfl))
 f246:=Tryz.func163.trans (congrArg some (by kernel_rfl))
 f247:=Tryz.func140.trans (congrArg some (by kernel_rfl))
 f279:=Tryz.func141.trans (congrArg some (by kernel_rfl))
 f280:=Tryz.func142.trans (congrArg some (by kernel_rfl))
 f281:=Tryz.func143.trans (congrArg some (by kernel_rfl))
 f282:=Tryz.func144.trans (congrArg some (by kernel_rfl))
 f283:=Tryz.func170.trans (congrArg some (by kernel_rfl))
 f284:=Tryz.func171.trans (congrArg some (by kernel_rfl))
 f285:=Tryz.func172.trans (congrArg some (by kernel_rfl))
 f286:=Tryz.func173.trans (congrArg some (by kernel_rfl))
 f287:=Tryz.func147.trans (congrArg some (by kernel_rfl))
 f316:=Tryz.func148.trans (congrArg some (by kernel_rfl))
 f317:=Tryz.func184.trans (congrArg some (by kernel_rfl))
 f318:=Tryz.func186.trans (congrArg some (by kernel_rfl))
 f319:=Tryz.func187.trans (congrArg some (by kernel_rfl))
 f320:=Tryz.func188.trans (congrArg some (by kernel_rfl))
 f321:=Tryz.func154.trans (congrArg some (by kernel_rfl))
 f322:=Tryz.func155.trans (congrArg some (by kernel_rfl))
 f337:=Tryz.func197.trans (congrArg some (by kernel_rfl))
 f338:=Tryz.func198.trans (congrArg some (by kernel_rfl))
 t0:=Tryz.underlying0
 a0:=Tryz.isAgg0
 z0:=Tryz.sizeOf0
 v0:=Tryz.zeroValue0
 t2:=Tryz.underlying2
 a2:=Tryz.isAgg2
 z2:=Tryz.sizeOf2
 v2:=Tryz.zeroValue2
 t3:=Tryz.underlying3
 a3:=Tryz.isAgg3
 z3:=Tryz.sizeOf3
 v3:=Tryz.zeroValue3
 t4:=Tryz.underlying4
 a4:=Tryz.isAgg4
 z4:=Tryz.sizeOf4
 v4:=Tryz.zeroValue4
 t5:=Tryz.underlying5
 a5:=Tryz.isAgg5
 z5:=Tryz.sizeOf5
 v5:=Tryz.zeroValue5
 t9:=Tryz.underlying9
 a9:=Tryz.isAgg9
 z9:=Tryz.sizeOf9
 v9:=Tryz.zeroValue9
 t20:=Tryz.underlying20
 a20:=Tryz.isAgg20
 z20:=Tryz.sizeOf20
 v20:=Tryz.zeroValue20
 t21:=Tryz.underlying21
 a21:=Tryz.isAgg21
 z21:=Tryz.sizeOf21
 v21:=Tryz.zeroValue21
 t37:=Tryz.underlying141
 a37:=Tryz.isAgg141
 z37:=Tryz.sizeOf141
 v37:=Tryz.zeroValue141
 t46:=Tryz.underlying183
 a46:=Tryz.isAgg183
 z46:=Tryz.sizeOf183
 v46:=Tryz.zeroValue183
 t51:=Tryz.underlying163
 a51:=Tryz.isAgg163
 z51:=Tryz.sizeOf163
 v51:=Tryz.zeroValue163
 t53:=Tryz.underlying209
 a53:=Tryz.isAgg209
 z53:=Tryz.sizeOf209
 v53:=Tryz.zeroValue209
 t75:=Tryz.underlying167
 a75:=Tryz.isAgg167
 z75:=Tryz.sizeOf167
 v75:=Tryz.zeroValue167
 t76:=Tryz.underlying168
 a76:=Tryz.isAgg168
 z76:=Tryz.sizeOf168
 v76:=Tryz.zeroValue168
 t85:=Tryz.underlying189
 a85:=Tryz.isAgg189
 z85:=Tryz.sizeOf189
 v85:=Tryz.zeroValue189
 t127:=Tryz.underlying219
 a127:=Tryz.isAgg219
 z127:=Tryz.sizeOf219
 v127:=Tryz.zeroValue219
 t143:=Tryz.underlying220
 a143:=Tryz.isAgg220
 z143:=Tryz.sizeOf220
 v143:=Tryz.zeroValue220
 t145:=Tryz.underlying222
 a145:=Tryz.isAgg222
 z145:=Tryz.sizeOf222
 v145:=Tryz.zeroValue222
 t167:=Tryz.underlying188
 a167:=Tryz.isAgg188
 z167:=Tryz.sizeOf188
 v167:=Tryz.zeroValue188
 t168:=Tryz.underlying191
 a168:=Tryz.isAgg191
 z168:=Tryz.sizeOf191
 v168:=Tryz.zeroValue191
 t171:=Tryz.underlying252
 a171:=Tryz.isAgg252
 z171:=Tryz.sizeOf252
 v171:=Tryz.zeroValue252
 t173:=Tryz.underlying255
 a173:=Tryz.isAgg255
 z173:=Tryz.sizeOf255
 v173:=Tryz.zeroValue255
 t175:=Tryz.underlying210
 a175:=Tryz.isAgg210
 z175:=Tryz.sizeOf210
 v175:=Tryz.zeroValue210
 t210:=Tryz.underlying213
 a210:=Tryz.isAgg213
 z210:=Tryz.sizeOf213
 v210:=Tryz.zeroValue213
 t212:=Tryz.underlying272
 a212:=Tryz.isAgg272
 z212:=Tryz.sizeOf272
 v212:=Tryz.zeroValue272
 t213:=Tryz.underlying273
 a213:=Tryz.isAgg273
 z213:=Tryz.sizeOf273
 t232:=Tryz.underlying279
 a232:=Tryz.isAgg279
 z232:=Tryz.sizeOf279
 v232:=Tryz.zeroValue279
 t233:=Tryz.underlying280
 a233:=Tryz.isAgg280
 z233:=Tryz.sizeOf280
 v233:=Tryz.zeroValue280
 g15:=by kernel_rfl
 g16:=by kernel_rfl
 g17:=by kernel_rfl
 g18:=by kernel_rfl
 g19:=by kernel_rfl }
end Go.Proofs
namespace Go.PL
open Go.AM
end Go.PL
namespace Go.Proofs.YtbjjaaimhleedaaGreatDoor
open Go.AM Go.PL
abbrev I:Ty:=.int .i64
abbrev U8:Ty:=.int .u8
abbrev L:Ty:=.arr I
abbrev BY:Ty:=.arr U8
abbrev SS:Ty:=.arr .str
abbrev AT:Ty:=.pair .str (.pair I (.pair I (.pair .str .unit)))
abbrev AL:Ty:=.arr AT
abbrev DF:Ty:=.pair .str (.pair I (.pair I (.pair I (.pair SS .unit))))
abbrev SC:Ty:=.pair I (.pair I (.pair (.arr DF) .unit))
abbrev LT:Ty:=.pair I (.pair I (.pair I (.pair .str .unit)))
abbrev TR:Ty:=.rose (.pair I (.pair I (.pair .str (.pair (.arr LT) .unit)))) .unit
abbrev PR:Ty:=.rose (.pair I (.pair .str (.pair I (.pair I (.pair .str .unit))))) .unit
abbrev PB:Ty:=.pair I (.pair I .unit)
abbrev LX:Ty:=.pair I (.pair I (.pair .str .unit))
abbrev GT:Ty:=.pair AT (.pair .bool .unit)
abbrev GO:Ty:=.pair LX (.pair I (.pair I .unit))
abbrev RD:Ty:=.pair (.arr LX) (.pair PB .unit)
def tyB (t:TypeId):Option Ty :=
 if Nat.beq t 3 then some I else
 if Nat.beq t 4 then some .bool else
 if Nat.beq t 5 then some U8 else
 if Nat.beq t 9 then some .str else
 if Nat.beq t 141 then some BY else
 if Nat.beq t 264 then some L else
 if Nat.beq t 53 then some SS else
 if Nat.beq t 32 then some I else
 if Nat.beq t 51 then some AT else
 if Nat.beq t 29 then some AL else
 if Nat.beq t 61 then some AL else
 if Nat.beq t 55 then some DF else
 if Nat.beq t 22 then some (.arr DF) else
 if Nat.beq t 24 then some SC else
 if Nat.beq t 70 then some LT else
 if Nat.beq t 25 then some (.arr LT) else
 if Nat.beq t 28 then some TR else
 if Nat.beq t 26 then some (.arr TR) else
 if Nat.beq t 37 then some PR else
 if Nat.beq t 35 then some (.arr PR) else
 if Nat.beq t 39 then some PB else
 if Nat.beq t 107 then some LX else
 if Nat.beq t 108 then some (.arr LX) else
 if Nat.beq t 64 then some GT else
 if Nat.beq t 139 then some GO else
 if Nat.beq t 122 then some RD else
 none
noncomputable def bs:Base:=⟨Tryz.prog,tyB,fun t =>
 Nat.beq t 3 || Nat.beq t 9 || Nat.beq t 55 || Nat.beq t 24 || Nat.beq t 51 || Nat.beq t 70 || Nat.beq t 28 || Nat.beq t 37 || Nat.beq t 61 || Nat.beq t 107⟩
end Go.Proofs.YtbjjaaimhleedaaGreatDoor
namespace Go.Proofs.YtbjjaaimhleedaaGreatDoor
open Go.AM Go.PL Go.RowKit
theorem split10 {T:Array Value} (h:10 ≤ T.size):∃ x0 x1 x2 x3 x4 x5 x6 x7 x8 x9 l,T = (x0 :: x1 :: x2 :: x3 :: x4 :: x5 :: x6 :: x7 :: x8 :: x9 :: l).toArray:=by
 obtain ⟨L⟩:=T
 match L,h with
 | x0 :: x1 :: x2 :: x3 :: x4 :: x5 :: x6 :: x7 :: x8 :: x9 :: l,_=>exact ⟨x0,x1,x2,x3,x4,x5,x6,x7,x8,x9,l,rfl⟩
set_option maxHeartbeats 4000000 in
set_option maxRecDepth 100000 in
theorem quiet_lex:SatQ bs.P 80:=by
 intro args w
 have heq:∀ w:World,(binOp BinOp.eql 20 .nilIface .nilIface).run Tryz.prog w = .ok (.bool true) w:=fun _=>by kernel_rfl
 have hne:∀ w:World,(binOp BinOp.neq 20 .nilIface .nilIface).run Tryz.prog w = .ok (.bool false) w:=fun _=>by kernel_rfl
 refine callsDIn_of_wpSIn Tryz.func80 rfl trivial fun c₀ cs hu=>?_
 have hn:(Tryz.f80).ntmps = 20:=rfl
 rw [hn]
 generalize hT:args ++ Array.replicate (20 - args.size) undef = T
 have hs:10 ≤ T.size:=by
  rw [← hT]
  simp
  omega
 obtain ⟨x0,x1,x2,x3,x4,x5,x6,x7,x8,x9,l,rfl⟩:=split10 hs
 clear hT hs
 apply wpSIn_seq
 apply wpSIn_region
 simp [wpOpsSIn,go_sem,recoverD,hu,Exit.thenS]
 refine wpSIn_of_wpIn rfl (wpIn_wide.2 ?_)
 show Code.wp Tryz.prog _ _ _ _
 go_wp2
 cases c₀
 simp only at hu
 subst hu
 exact ⟨rfl,_,rfl,.tuple #[],by simp [results,Tryz.results80],rfl,rfl,_,rfl⟩
theorem split11 {T:Array Value} (h:11 ≤ T.size):∃ x0 x1 x2 x3 x4 x5 x6 x7 x8 x9 x10 l,T = (x0 :: x1 :: x2 :: x3 :: x4 :: x5 :: x6 :: x7 :: x8 :: x9 :: x10 :: l).toArray:=by
 obtain ⟨L⟩:=T
 match L,h with
 | x0 :: x1 :: x2 :: x3 :: x4 :: x5 :: x6 :: x7 :: x8 :: x9 :: x10 :: l,_=>exact ⟨x0,x1,x2,x3,x4,x5,x6,x7,x8,x9,x10,l,rfl⟩
set_option maxHeartbeats 4000000 in
set_option maxRecDepth 100000 in
theorem quiet_read:SatQ bs.P 69:=by
 intro args w
 have heq:∀ w:World,(binOp BinOp.eql 20 .nilIface .nilIface).run Tryz.prog w = .ok (.bool true) w:=fun _=>by kernel_rfl
 have hne:∀ w:World,(binOp BinOp.neq 20 .nilIface .nilIface).run Tryz.prog w = .ok (.bool false) w:=fun _=>by kernel_rfl
 refine callsDIn_of_wpSIn Tryz.func69 rfl trivial fun c₀ cs hu=>?_
 have hn:(Tryz.f69).ntmps = 32:=rfl
 rw [hn]
 generalize hT:args ++ Array.replicate (32 - args.size) undef = T
 have hs:11 ≤ T.size:=by
  rw [← hT]
  simp
  omega
 obtain ⟨x0,x1,x2,x3,x4,x5,x6,x7,x8,x9,x10,l,rfl⟩:=split11 hs
 clear hT hs
 apply wpSIn_seq
 apply wpSIn_region
 simp [wpOpsSIn,go_sem,recoverD,hu,Exit.thenS]
 refine wpSIn_of_wpIn rfl (wpIn_wide.2 ?_)
 show Code.wp Tryz.prog _ _ _ _
 go_wp2
 cases c₀
 simp only at hu
 subst hu
 exact ⟨rfl,_,rfl,.tuple #[],by simp [results,Tryz.results69],rfl,rfl,_,rfl⟩
end Go.Proofs.YtbjjaaimhleedaaGreatDoor
namespace Go.PL
open Go.AM
def rsvL:List Int:=[97,108,108,32,97,110,100,32,104,97,115,32,105,110,32,110,111,116,32,111,114]
def lngL:List Int:=[61,61,32,33,61,32,60,61,32,62,61,32,46,46]
def shtL:List Int:=[123,125,40,41,91,93,44,59,58,61,60,62,43,45,42,47,37]
def fldL (s:List Int):List (List Int):=if s = rsvL then [[97,108,108],[97,110,100],[104,97,115],[105,110],[110,111,116],[111,114]] else [[61,61],[33,61],[60,61],[62,61],[46,46]]
end Go.PL
namespace Go.Proofs.YtbjjaaimhleedaaGreatDoor
open Go.AM Go.PL Go.RowKit Go.Shelf
def fieldsSp:FSpec:=⟨[.str],[.arr .str],fun s=>s = rsvL ∨ s = lngL,fun s=>fldL s⟩
def ixbSp:FSpec:=⟨[.str,.int .u8],[I],fun x=>x = (shtL,60),fun _=>10⟩
def atoiSp:FSpec:=⟨[.str],[I,.any],fun s=>s = [52],fun _=>(4,())⟩
theorem wsAt:∀ c:Nat,c < 256 → wsL[c]? = some (if Lib.isSp (UInt8.ofNat c) then 1 else 0):=by decide +kernel
theorem wsG:wsIs bs.P (Tryz.lays157_ren.g 0) = true:=by kernel_rfl
theorem hi9:(bs.P.info? (Tryz.lays157_ren.t 9)).map (fun i=>(i.zero,i.size,i.bytes)) = some (some (.string ByteArray.empty),1,16):=by kernel_rfl
theorem rdL_strs {Ψ:AM.Pr}:∀ {l:List (List Int)},(∀ x ∈ l,(∀ c ∈ x,0 ≤ c ∧ c ≤ 255) ∧ x.length ≤ maxLen) → rdL (reads Ψ .str) l (l.map fun x=>Value.string (strOf x))
 | [],_=>rfl
 | x :: l,h=>⟨[_],_,rfl,⟨rfl,h x List.mem_cons_self⟩,rdL_strs fun y hy=>h y (List.mem_cons_of_mem _ hy)⟩
def newPr (Ψ:AM.Pr) (w:World) (n:Nat):AM.Pr:=fun a=>if a.block = n ∧ a.spot = none then w.cell? a else Ψ a
theorem sat_fields_at {Ψ:AM.Pr} {w:World} {l:List (List Int)} {tid:TypeId} (hprom:∀ a v,Ψ a = some v → a.spot = none ∧ w.cell? a = some v) (hl:∀ x ∈ l,(∀ c ∈ x,0 ≤ c ∧ c ≤ 255) ∧ x.length ≤ maxLen) (hm:l.length ≤ maxLen) {k:Nat} (hk:k = l.length) {cs:Array Value} (hcs:cs.toList = l.map fun x=>Value.string (strOf x)) :
 ∃ v Ψ',Ending.returned (.slice (some ⟨w.heap.size,0,none⟩) k k) = .returned v ∧ Below w.heap.size w (w.alloc (.cells cs tid)) ∧ (∀ a u,Ψ a = some u → Ψ' a = some u) ∧
  (∀ a u,Ψ' a = some u → Ψ a = some u ∨ (w.heap.size ≤ a.block ∧ a.spot = none ∧ (w.alloc (.cells cs tid)).cell? a = some u)) ∧ RelV Ψ' [] (.d (.arr .str) l) v:=by
 refine ⟨_,newPr Ψ (w.alloc (.cells cs tid)) w.heap.size,rfl,Below.alloc (Below.refl _ _) (Nat.le_refl _) _,fun a u hu=>?_,fun a u hu=>?_,?_⟩
 ·unfold newPr
  have:=World.block_lt_of_cell? _ _ (hprom a u hu).2
  rw [if_neg (by omega)]
  exact hu
 ·unfold newPr at hu
  split at hu
  ·rename_i h
   exact .inr ⟨Nat.le_of_eq h.1.symm,h.2,hu⟩
  ·exact .inl hu
 ·subst hk
  refine rv_arr.2 ⟨_,_,rfl,Nat.le_refl _,hm,.inr ⟨_,rdL_strs hl,_,_,rfl,fun j u hj=>?_⟩⟩
  unfold newPr
  rw [if_pos ⟨rfl,rfl⟩]
  rw [World.cell?_alloc_new,Nat.zero_add,← Array.getElem?_toList,hcs]
  exact hj
theorem ascii_of {l:List UInt8} (h:∀ b ∈ l,b.toNat < 128):∀ (j:Nat) b,l[j]? = some b → b.toNat < 128:=fun j b hb=>h b (List.mem_of_getElem? hb)
theorem i64_lit {n:Int} (h:isI64 n):IntKind.i64.has n:=jXr.2 h
theorem sat_fields:Sat bs.P 114 fieldsSp:=by
 intro Ψ w s args hprom hgl hrel hpre
 obtain ⟨v1,vs1,rfl,h1,h3⟩:=hrel
 simp only [RelL] at h3
 subst h3
 obtain ⟨rfl,hb,_⟩:=jZt.1 h1
 have hT:∀ c:Nat,c < 256 → w.cell? ⟨Tryz.lays157_ren.g 0,c,none⟩ = some (.int .u8 (if Lib.isSp (UInt8.ofNat c) then 1 else 0)):=fun c hc=>(hprom _ _ (hgl.2 _ wsG c _ (wsAt c hc))).2
 rcases hpre with rfl | rfl
 ·refine (Any.strings_Fields_core Tryz.lays157 hi9 (strOf rsvL) w (by decide +kernel) (ascii_of (by decide +kernel)) hT).mono ?_
  rintro e w' ⟨rfl,rfl⟩
  exact sat_fields_at (l:=fldL rsvL) hprom (by decide +kernel) (by decide +kernel) (by kernel_rfl) (by kernel_rfl)
 ·refine (Any.strings_Fields_core Tryz.lays157 hi9 (strOf lngL) w (by decide +kernel) (ascii_of (by decide +kernel)) hT).mono ?_
  rintro e w' ⟨rfl,rfl⟩
  exact sat_fields_at (l:=fldL lngL) hprom (by decide +kernel) (by decide +kernel) (by kernel_rfl) (by kernel_rfl)
theorem sat_ixb:Sat bs.P 113 ixbSp:=by
 rintro Ψ w x args hprom hgl hrel rfl
 obtain ⟨v1,vs1,rfl,h1,v2,vs2,rfl,h2,h3⟩:=hrel
 simp only [RelL] at h3
 subst h3
 obtain ⟨rfl,_⟩:=jZt.1 h1
 obtain ⟨rfl,_⟩:=jQj.1 h2
 refine (Any.strings_IndexByte Tryz.lays137 (strOf shtL) 60 w).mono ?_
 rintro e w' ⟨rfl,rfl⟩
 exact ⟨_,Ψ,rfl,Below.refl _ _,fun _ _ h=>h,fun _ _ h=>.inl h,jQj.2 ⟨by kernel_rfl,i64_lit (n:=10) (by unfold isI64; omega)⟩⟩
theorem below_bytes (w:World) (e:TypeId) (s:ByteArray):Below w.heap.size w (Lib.bytesWorld w e s):=by
 refine ⟨rfl,rfl,rfl,?_,fun k hk=>?_⟩
 ·unfold Lib.bytesWorld World.freeze
  split <;> simp
 ·unfold Lib.bytesWorld World.freeze
  split
  ·show (w.heap.push _)[k]? = _
   rw [Array.getElem?_push,if_neg (by omega)]
  ·show ((w.heap.push _).modify _ _)[k]? = _
   rw [Array.getElem?_modify,if_neg (by simp; omega),Array.getElem?_push,if_neg (by omega)]
theorem sat_atoi:Sat bs.P 132 atoiSp:=by
 rintro Ψ w x args hprom hgl hrel rfl
 obtain ⟨v1,vs1,rfl,h1,h3⟩:=hrel
 simp only [RelL] at h3
 subst h3
 obtain ⟨rfl,_⟩:=jZt.1 h1
 refine (Any.strconv_Atoi Tryz.lays172 (strOf [52]) 4 (by decide +kernel) (by kernel_rfl) w).mono ?_
 rintro e w' ⟨rfl,t,rfl⟩
 exact ⟨_,Ψ,rfl,below_bytes _ _ _,fun _ _ h=>h,fun _ _ h=>.inl h,_,rfl,_,_,rfl,jQj.2 ⟨rfl,i64_lit (n:=4) (by unfold isI64; omega)⟩,_,_,rfl,⟨_,⟨_,rfl,rfl⟩,rfl⟩,rfl⟩
end Go.Proofs.YtbjjaaimhleedaaGreatDoor
namespace Go.PL
open Go.AM
abbrev Lxm:=Int × Int × List Int × Unit
def txtL:List Int:=[99,111,108,111,117,114,32,33,61,32,114,101,100,32,97,110,100,32,119,101,105,103,104,116,32,60,32,52]
def tokA:List Lxm:=[(1,0,[99,111,108,111,117,114],()),(5,7,[33,61],()),(1,10,[114,101,100],()),(2,14,[97,110,100],()),(1,18,[119,101,105,103,104,116],()),(5,25,[60],()),(3,27,[52],())]
def tokB:List Lxm:=[(3,0,[52],())]
end Go.PL
namespace Go.Proofs.YtbjjaaimhleedaaGreatDoor
open Go.AM Go.PL
def tokSp:FSpec:=⟨[.str],[.arr LX,PB],fun s=>s = txtL ∨ s = [52],fun s=>bif Nat.beq (List.length (s:List Int)) 1 then (tokB,(0,0,())) else (tokA,(0,0,()))⟩
def valLSp:FSpec:=⟨[LX],[I,I],fun x=>x = (3,27,[52],()),fun _=>(4,0)⟩
end Go.Proofs.YtbjjaaimhleedaaGreatDoor
namespace Go.PL
open Go.AM
def upto (n:Nat) (p:Nat → Bool):Bool:=(List.range n).all p
theorem upto_iff {n:Nat} {p:Nat → Bool}:upto n p = true ↔ ∀ i,i < n → p i = true:=by
 unfold upto
 rw [List.all_eq_true]
 exact ⟨fun h i hi=>h i (List.mem_range.2 hi),fun h i hi=>h i (List.mem_range.1 hi)⟩
theorem nt {b:Bool} (h:(!b) = true):b = false:=by simpa using h
theorem nf {b:Bool} (h:(!b) = false):b = true:=by simpa using h
theorem ndt {p:Prop} [Decidable p] (h:(!decide p) = true):¬ p:=by simpa using h
theorem ndf {p:Prop} [Decidable p] (h:(!decide p) = false):p:=by simpa using h
theorem dt {p:Prop} [Decidable p] (h:decide p = true):p:=of_decide_eq_true h
theorem df {p:Prop} [Decidable p] (h:decide p = false):¬ p:=of_decide_eq_false h
theorem is_no {b:Bool} (h:b = true → False):false = b:=by cases b <;> simp_all
theorem eq_no {b:Bool} (h:b = true → False):b = false:=by cases b <;> simp_all
theorem dec_is {p:Prop} [Decidable p] {b:Bool} (h:p ↔ b = true):decide p = b:=by
 by_cases hp:p
 ·rw [decide_eq_true hp,h.1 hp]
 ·rw [decide_eq_false hp]; exact is_no fun hb=>hp (h.2 hb)
theorem bool_is {a b:Bool} (h:a = true ↔ b = true):a = b:=by cases a <;> cases b <;> simp_all
theorem jZp {P:Nat → Prop} {x:Int} (h0:0 ≤ x) (h:∀ j:Nat,(j:Int) < x → P j) (hx:P x.toNat):∀ j:Nat,(j:Int) < x + 1 → P j:=fun j hj=>by
 by_cases h':(j:Int) < x
 ·exact h j h'
 ·rw [show j = x.toNat by omega]; exact hx
theorem jZk {x:Int} {n:Nat} (h0:0 ≤ x) (h:x < n) (hn:n ≤ 9223372036854775807):isI64 (x + 1):=by unfold isI64; omega
end Go.PL
namespace Go.PL
open Go.AM
abbrev At:=List Int × Int × Int × List Int × Unit
def gotA (l:List At) (n:List Int):At × Bool × Unit:=match l.find? (fun a=>decide (a.1 = n)) with | some a=>(a,true,()) | none=>(([],0,0,[],()),false,())
end Go.PL
namespace Go.Proofs.YtbjjaaimhleedaaGreatDoor
open Go.AM Go.PL
def getSp:FSpec:=⟨[AL,.str],[GT],fun _=>True,fun x=>gotA x.1 x.2⟩
def loopsA (f:FuncId) (r:Nat):List LA:=if Nat.beq f 24 then [.slot 5 I] else []
def hintA (f:FuncId):Hint:=⟨loopsA f,fun _=>.split,fun _=>.split,fun _=>0⟩
noncomputable def A0:Ctx:=mkctx bs [] [] hintA
theorem get_nf (l:List At) (n:List Int):fnwp A0 6 24 getSp (l,n) = (∃ (I:Int → Prop),∃ (μ:Int → Nat),I (0:Int) ∧ ∀ (x:Int),I x → (decide (x < (↑l.length:Int)) =
 true → ((0:Int) ≤ x ∧ x < (↑l.length:Int)) ∧ (decide ((l.getD x.toNat ([],(0:Int),(0:Int),[],())).fst = n) = true → ((0:Int) ≤ x ∧ x < (↑l.length:Int)) ∧
 (((l.getD x.toNat ([],(0:Int),(0:Int),[],())).fst,(l.getD x.toNat ([],(0:Int),(0:Int),[],())).snd.fst,(l.getD x.toNat ([],(0:Int),(0:Int),[],
 ())).snd.snd.fst,(l.getD x.toNat ([],(0:Int),(0:Int),[],())).snd.snd.snd.fst,()),true,()) = gotA l n) ∧ (decide ((l.getD x.toNat ([],(0:Int),(0:Int),[],
 ())).fst = n) = false → isI64 (x + (1:Int)) ∧ I (x + (1:Int)) ∧ μ (x + (1:Int)) < μ x)) ∧ (decide (x < (↑l.length:Int)) = false → ((bytesOf { data:=#[] },(0:Int),(0
 : Int),bytesOf { data:=#[] },()),false,()) = gotA l n)):=by kernel_rfl
end Go.Proofs.YtbjjaaimhleedaaGreatDoor
namespace Go.PL
open Go.AM
def dAt:At:=([],0,0,[],())
theorem drop1 {l:List At} {k:Int} (h0:0 ≤ k) (h:k < l.length):l.drop k.toNat = l.getD k.toNat dAt :: l.drop (k + 1).toNat:=by
 rw [List.getD_eq_getElem?_getD,List.getElem?_eq_getElem (by omega),show (k + 1).toNat = k.toNat + 1 by omega]
 exact List.drop_eq_getElem_cons (by omega)
theorem got_step {l:List At} {n:List Int} {k:Int} (h0:0 ≤ k) (h:k < l.length):gotA (l.drop k.toNat) n = if (l.getD k.toNat dAt).1 = n then (l.getD k.toNat dAt,true,()) else gotA (l.drop (k + 1).toNat) n:=by
 rw [drop1 h0 h]
 unfold gotA
 rw [List.find?_cons]
 by_cases c:(l.getD k.toNat dAt).1 = n
 ·rw [if_pos c,decide_eq_true c]
 ·rw [if_neg c,decide_eq_false c]
end Go.PL
namespace Go.Proofs.YtbjjaaimhleedaaGreatDoor
open Go.AM Go.PL
attribute [local irreducible] fnwp
theorem A0_sound:jQe A0:=jQi trivial trivial
theorem sat_get:Sat bs.P 24 getSp:=jQn A0_sound 6 _ getSp fun (⟨l,n⟩:List At × List Int) hok _=>by
 have hm:l.length ≤ 9223372036854775807:=hok.1.1
 rw [get_nf]
 refine ⟨fun k=>0 ≤ k ∧ k ≤ l.length ∧ gotA l n = gotA (l.drop k.toNat) n,fun k=>(l.length - k).toNat,⟨by omega,by omega,rfl⟩,?_⟩
 rintro k ⟨h0,h1,h2⟩
 refine ⟨fun h=>?_,fun h=>?_⟩
 ·have h:=dt h
  have hs:=got_step (n:=n) h0 h
  refine ⟨⟨h0,h⟩,fun c=>⟨⟨h0,h⟩,?_⟩,fun c=>⟨by unfold isI64; omega,⟨by omega,by omega,?_⟩,by dsimp only; omega⟩⟩
  ·rw [if_pos (show (l.getD k.toNat dAt).1 = n from dt c)] at hs
   exact (h2.trans hs).symm
  ·rw [if_neg (show ¬ (l.getD k.toNat dAt).1 = n from df c)] at hs
   exact h2.trans hs
 ·have h:=df h
  rw [List.drop_of_length_le (by omega)] at h2
  exact h2.symm
end Go.Proofs.YtbjjaaimhleedaaGreatDoor
namespace Go.PL
open Go.AM
abbrev Df:=List Int × Int × Int × Int × List (List Int) × Unit
abbrev Sc:=Int × Int × List Df × Unit
def letB (c:Int):Bool:=decide (97 ≤ c) && decide (c ≤ 122)
def digB (c:Int):Bool:=(decide (48 ≤ c) && decide (c ≤ 57)) || decide (c = 95)
def kws:List (List Int):=[[97,108,108],[97,110,100],[104,97,115],[105,110],[110,111,116],[111,114]]
def chB (s:List Int) (i:Nat):Bool:=letB (s.getD i 0) || (!decide (i = 0) && digB (s.getD i 0))
def nameB (s:List Int):Bool:=upto s.length (chB s) && (decide (1 ≤ s.length) && (decide (s.length ≤ 40) && !decide (s ∈ kws)))
def leS (a b:List Int):Bool:=strLt a b || decide (a = b)
def risingB (l:List (List Int)):Bool:=upto (l.length - 1) fun i=>!leS (l.getD (i + 1) []) (l.getD i [])
def jKp (l:List (List Int)):Int :=
 if l.length < 1 ∨ 50 < l.length then 2 else if (!upto l.length fun i=>nameB (l.getD i [])) = true then 5 else if (!risingB l) = true then 6 else 0
def defS (d:Df) (jX2:List Int):Int :=
 if (!nameB d.1) = true then 5 else if leS d.1 jX2 = true then 6 else
 if d.2.1 = 1 then (if d.2.2.1 < -1099511627776 ∨ 1099511627776 < d.2.2.2.1 ∨ d.2.2.2.1 < d.2.2.1 then 131 else if 0 < d.2.2.2.2.1.length then 3 else 0) else
 if d.2.1 = 2 then (if d.2.2.1 ≠ 0 ∨ d.2.2.2.1 ≠ 0 then 3 else jKp d.2.2.2.2.1) else 130
def chkL:List Df → List Int → Int
 | [],_=>0
 | d :: l,b=>if defS d b ≠ 0 then defS d b else chkL l d.1
def chkS (s:Sc):Int:=if s.1 < 1 ∨ 32 < s.1 ∨ s.2.1 < 1 ∨ 3 < s.2.1 then 1 else if 16 < s.2.2.1.length then 2 else chkL s.2.2.1 []
end Go.PL
namespace Go.Proofs.YtbjjaaimhleedaaGreatDoor
open Go.AM Go.PL
def nameSp:FSpec:=⟨[.str],[.bool],fun _=>True,fun s=>nameB s⟩
def hasSp:FSpec:=⟨[SS,.str],[.bool],fun _=>True,fun x=>decide ((x.2:List Int) ∈ (x.1:List (List Int)))⟩
def wordsSp:FSpec:=⟨[SS],[I],fun _=>True,fun l=>jKp l⟩
def defSp:FSpec:=⟨[DF,.str],[I],fun _=>True,fun x=>defS x.1 x.2⟩
def chkSp:FSpec:=⟨[SC],[I],fun _=>True,fun s=>chkS s⟩
def metricSp:FSpec:=⟨[I],[.bool],fun _=>True,fun m=>decide (1 ≤ (m:Int)) && decide ((m:Int) ≤ 3)⟩
def loopsF (f:FuncId) (r:Nat):List LA :=
 if Nat.beq f 44 then [.slot 3 I] else
 if Nat.beq f 85 then [.slot 8 I] else
 if Nat.beq f 29 then [.slot 5 I] else
 if Nat.beq f 45 then (bif Nat.beq r 4 then [.slot 3 I] else [.slot 4 I]) else
 if Nat.beq f 12 then [.slot 4 I,.slot 3 .str] else
 []
def datN (t:TypeId):Nat:=bif Nat.beq t 1000000 then 1 else 0
def hintF (f:FuncId):Hint:=if Nat.beq f 999999995 then ⟨fun _=>[],fun _=>.split,fun _=>.split,datN⟩ else
 ⟨loopsF f,fun _=>.split,fun _=>.split,fun _=>0⟩
noncomputable def AF0:Ctx:=mkctx bs [] [] hintF
theorem has_nf (l:List (List Int)) (s:List Int):fnwp AF0 6 73 hasSp (l,s) = (∃ (I:Int → Prop),∃ (μ:Int → Nat),I (0:Int) ∧ ∀ (x:Int),I x → (decide (x < (↑l.length
 : Int)) = true → ((0:Int) ≤ x ∧ x < (↑l.length:Int)) ∧ (decide (s = l.getD x.toNat []) = true → decide ((0:Int) ≤ x) = decide (s ∈ l)) ∧ (decide (s = l.getD x.toNat []) =
 false → isI64 (x + (1:Int)) ∧ I (x + (1:Int)) ∧ μ (x + (1:Int)) < μ x)) ∧ (decide (x < (↑l.length:Int)) = false → false = decide (s ∈ l))):=by kernel_rfl
theorem rHas_nf (l:List (List Int)) (s:List Int):fnwp AF0 6 29 hasSp (l,s) = (∃ (I:Int → Prop),∃ (μ:Int → Nat),I (0:Int) ∧ ∀ (x:Int),I x → (decide (x < (↑l.length
 : Int)) = true → ((0:Int) ≤ x ∧ x < (↑l.length:Int)) ∧ (decide (l.getD x.toNat [] = s) = true → true = decide (s ∈ l)) ∧ (decide (l.getD x.toNat [] = s) = false → isI64 (x +
 (1:Int)) ∧ I (x + (1:Int)) ∧ μ (x + (1:Int)) < μ x)) ∧ (decide (x < (↑l.length:Int)) = false → false = decide (s ∈ l))):=by kernel_rfl
theorem metric_nf (m:Int):fnwp AF0 6 26 metricSp m = ((decide ((1:Int) ≤ m) = true → decide (m ≤ (3:Int)) = (decide ((1:Int) ≤ m) && decide (m ≤ (3:Int)))) ∧ (decide
 ((1:Int) ≤ m) = false → false = (decide ((1:Int) ≤ m) && decide (m ≤ (3:Int))))):=by kernel_rfl
def tF1:List (FuncId × FSpec):=[(73,hasSp),(29,hasSp)]
noncomputable def AF1:Ctx:=mkctx bs tF1 [] hintF
theorem rName_nf (s:List Int):fnwp AF1 6 44 nameSp s = (∃ (I:Int → Prop),∃ (μ:Int → Nat),I (0:Int) ∧ ∀ (x:Int),I x → (decide (x < (↑s.length:Int)) = true → ((0 :
 Int) ≤ x ∧ x < (↑s.length:Int)) ∧ (decide ((97:Int) ≤ s.getD x.toNat (0:Int)) = true → (decide ((48:Int) ≤ s.getD x.toNat (0:Int)) = true → (decide (s.getD x.toNat (0 :
 Int) ≤ (57:Int)) = true → ((!decide (s.getD x.toNat (0:Int) ≤ (122:Int))) = true → (decide (x = (0:Int)) = true → false = nameB s) ∧ (decide (x = (0:Int)) = false →
 isI64 (x + (1:Int)) ∧ I (x + (1:Int)) ∧ μ (x + (1:Int)) < μ x)) ∧ ((!decide (s.getD x.toNat (0:Int) ≤ (122:Int))) = false → isI64 (x + (1:Int)) ∧ I (x + (1:Int)) ∧
 μ (x + (1:Int)) < μ x)) ∧ (decide (s.getD x.toNat (0:Int) ≤ (57:Int)) = false → ((!decide (s.getD x.toNat (0:Int) ≤ (122:Int))) = true → (decide (x = (0:Int)) = true
 → false = nameB s) ∧ (decide (x = (0:Int)) = false → ((!decide (s.getD x.toNat (0:Int) = (95:Int))) = true → false = nameB s) ∧ ((!decide (s.getD x.toNat (0:Int) = (95 :
 Int))) = false → isI64 (x + (1:Int)) ∧ I (x + (1:Int)) ∧ μ (x + (1:Int)) < μ x))) ∧ ((!decide (s.getD x.toNat (0:Int) ≤ (122:Int))) = false → isI64 (x + (1:Int)) ∧ I
 (x + (1:Int)) ∧ μ (x + (1:Int)) < μ x))) ∧ (decide ((48:Int) ≤ s.getD x.toNat (0:Int)) = false → ((!decide (s.getD x.toNat (0:Int) ≤ (122:Int))) = true → (decide (x =
 (0:Int)) = true → false = nameB s) ∧ (decide (x = (0:Int)) = false → ((!decide (s.getD x.toNat (0:Int) = (95:Int))) = true → false = nameB s) ∧ ((!decide (s.getD x.toNat
 (0:Int) = (95:Int))) = false → isI64 (x + (1:Int)) ∧ I (x + (1:Int)) ∧ μ (x + (1:Int)) < μ x))) ∧ ((!decide (s.getD x.toNat (0:Int) ≤ (122:Int))) = false → isI64 (x
 + (1:Int)) ∧ I (x + (1:Int)) ∧ μ (x + (1:Int)) < μ x))) ∧ (decide ((97:Int) ≤ s.getD x.toNat (0:Int)) = false → (decide ((48:Int) ≤ s.getD x.toNat (0:Int)) = true →
 (decide (s.getD x.toNat (0:Int) ≤ (57:Int)) = true → (decide (x = (0:Int)) = true → false = nameB s) ∧ (decide (x = (0:Int)) = false → isI64 (x + (1:Int)) ∧ I (x + (1 :
 Int)) ∧ μ (x + (1:Int)) < μ x)) ∧ (decide (s.getD x.toNat (0:Int) ≤ (57:Int)) = false → (decide (x = (0:Int)) = true → false = nameB s) ∧ (decide (x = (0:Int)) = false
 → ((!decide (s.getD x.toNat (0:Int) = (95:Int))) = true → false = nameB s) ∧ ((!decide (s.getD x.toNat (0:Int) = (95:Int))) = false → isI64 (x + (1:Int)) ∧ I (x + (1 :
 Int)) ∧ μ (x + (1:Int)) < μ x)))) ∧ (decide ((48:Int) ≤ s.getD x.toNat (0:Int)) = false → (decide (x = (0:Int)) = true → false = nameB s) ∧ (decide (x = (0:Int)) =
 false → ((!decide (s.getD x.toNat (0:Int) = (95:Int))) = true → false = nameB s) ∧ ((!decide (s.getD x.toNat (0:Int) = (95:Int))) = false → isI64 (x + (1:Int)) ∧ I (x +
 (1:Int)) ∧ μ (x + (1:Int)) < μ x))))) ∧ (decide (x < (↑s.length:Int)) = false → (decide ((1:Int) ≤ (↑s.length:Int)) = true → (decide ((↑s.length:Int) ≤ (40:Int)) =
 true → True ∧ (!decide (s ∈ [bytesOf { data:=#[(97:UInt8),(108:UInt8),(108:UInt8)] },bytesOf { data:=#[(97:UInt8),(110:UInt8),(100:UInt8)] },bytesOf { data
 := #[(104:UInt8),(97:UInt8),(115:UInt8)] },bytesOf { data:=#[(105:UInt8),(110:UInt8)] },bytesOf { data:=#[(110:UInt8),(111:UInt8),(116:UInt8)] },
 bytesOf { data:=#[(111:UInt8),(114:UInt8)] }])) = nameB s) ∧ (decide ((↑s.length:Int) ≤ (40:Int)) = false → false = nameB s)) ∧ (decide ((1:Int) ≤ (↑s.length:Int))
 = false → false = nameB s))):=by kernel_rfl
def tF2:List (FuncId × FSpec):=[(44,nameSp),(26,metricSp)]
noncomputable def AF2:Ctx:=mkctx bs tF2 [] hintF
theorem words_nf (l:List (List Int)):fnwp AF2 6 45 wordsSp l = ((decide ((↑l.length:Int) < (1:Int)) = true → (2:Int) = jKp l) ∧ (decide ((↑l.length:Int) < (1:Int))
 = false → (decide ((50:Int) < (↑l.length:Int)) = true → (2:Int) = jKp l) ∧ (decide ((50:Int) < (↑l.length:Int)) = false → ∃ (I:Int → Prop),∃ (μ:Int → Nat),I (0
 : Int) ∧ ∀ (x:Int),I x → (decide (x < (↑l.length:Int)) = true → ((0:Int) ≤ x ∧ x < (↑l.length:Int)) ∧ True ∧ ((!nameB (l.getD x.toNat [])) = true → (5:Int) = jKp l)
 ∧ ((!nameB (l.getD x.toNat [])) = false → isI64 (x + (1:Int)) ∧ I (x + (1:Int)) ∧ μ (x + (1:Int)) < μ x)) ∧ (decide (x < (↑l.length:Int)) = false → ∃ (I:Int → Prop),∃
 (μ:Int → Nat),I (1:Int) ∧ ∀ (x:Int),I x → (decide (x < (↑l.length:Int)) = true → ((0:Int) ≤ x ∧ x < (↑l.length:Int)) ∧ isI64 (x - (1:Int)) ∧ ((0:Int) ≤ x - (1 :
 Int) ∧ x - (1:Int) < (↑l.length:Int)) ∧ ((strLt (l.getD x.toNat []) (l.getD (x - (1:Int)).toNat []) || decide (l.getD x.toNat [] = l.getD (x - (1:Int)).toNat [])) = true
 → (6:Int) = jKp l) ∧ ((strLt (l.getD x.toNat []) (l.getD (x - (1:Int)).toNat []) || decide (l.getD x.toNat [] = l.getD (x - (1:Int)).toNat [])) = false → isI64 (x + (1 :
 Int)) ∧ I (x + (1:Int)) ∧ μ (x + (1:Int)) < μ x)) ∧ (decide (x < (↑l.length:Int)) = false → (0:Int) = jKp l))))):=by kernel_rfl
noncomputable def AF3:Ctx:=mkctx bs ((45,wordsSp) :: tF2) [] hintF
theorem rDef_nf (n:List Int) (k lo hi:Int) (w:List (List Int)) (b:List Int):fnwp AF3 6 27 defSp ((n,k,lo,hi,w,()),b) = (True ∧ ((!nameB n) = true → (5:Int) = defS
 (n,k,lo,hi,w,()) b) ∧ ((!nameB n) = false → ((strLt n b || decide (n = b)) = true → (6:Int) = defS (n,k,lo,hi,w,()) b) ∧ ((strLt n b || decide (n = b)) = false →
 (decide (k = (1:Int)) = true → (decide (lo < (-1099511627776:Int)) = true → (131:Int) = defS (n,k,lo,hi,w,()) b) ∧ (decide (lo < (-1099511627776:Int)) = false →
 (decide ((1099511627776:Int) < hi) = true → (131:Int) = defS (n,k,lo,hi,w,()) b) ∧ (decide ((1099511627776:Int) < hi) = false → (decide (hi < lo) = true → (131:Int)
 = defS (n,k,lo,hi,w,()) b) ∧ (decide (hi < lo) = false → (decide ((0:Int) < (↑w.length:Int)) = true → (3:Int) = defS (n,k,lo,hi,w,()) b) ∧ (decide ((0:Int) <
 (↑w.length:Int)) = false → (0:Int) = defS (n,k,lo,hi,w,()) b))))) ∧ (decide (k = (1:Int)) = false → (decide (k = (2:Int)) = true → ((!decide (lo = (0:Int))) = true
 → (3:Int) = defS (n,k,lo,hi,w,()) b) ∧ ((!decide (lo = (0:Int))) = false → ((!decide (hi = (0:Int))) = true → (3:Int) = defS (n,k,lo,hi,w,()) b) ∧ ((!decide (hi
 = (0:Int))) = false → True ∧ jKp w = defS (n,k,lo,hi,w,()) b))) ∧ (decide (k = (2:Int)) = false → (130:Int) = defS (n,k,lo,hi,w,()) b))))):=by kernel_rfl
noncomputable def AF4:Ctx:=mkctx bs ((27,defSp) :: tF2) [] hintF
theorem rChk_nf (d m:Int) (l:List Df):fnwp AF4 6 12 chkSp (d,m,l,()) = ((decide (d < (1:Int)) = true → (1:Int) = chkS (d,m,l,())) ∧ (decide (d < (1:Int)) = false
 → (decide ((32:Int) < d) = true → (1:Int) = chkS (d,m,l,())) ∧ (decide ((32:Int) < d) = false → True ∧ ((!(decide ((1:Int) ≤ m) && decide (m ≤ (3:Int)))) = true → (1
 : Int) = chkS (d,m,l,())) ∧ ((!(decide ((1:Int) ≤ m) && decide (m ≤ (3:Int)))) = false → (decide ((16:Int) < (↑l.length:Int)) = true → (2:Int) = chkS (d,m,l,()))
 ∧ (decide ((16:Int) < (↑l.length:Int)) = false → ∃ (I:Int × List Int → Prop),∃ (μ:Int × List Int → Nat),I ((0:Int),bytesOf { data:=#[] }) ∧ ∀ (x:Int × List Int),
 I x → (decide (x.fst < (↑l.length:Int)) = true → ((0:Int) ≤ x.fst ∧ x.fst < (↑l.length:Int)) ∧ True ∧ ((!decide (defS (l.getD x.fst.toNat ([],(0:Int),(0:Int),(0 :
 Int),[],())) x.snd = (0:Int))) = true → defS (l.getD x.fst.toNat ([],(0:Int),(0:Int),(0:Int),[],())) x.snd = chkS (d,m,l,())) ∧ ((!decide (defS (l.getD
 x.fst.toNat ([],(0:Int),(0:Int),(0:Int),[],())) x.snd = (0:Int))) = false → ((0:Int) ≤ x.fst ∧ x.fst < (↑l.length:Int)) ∧ isI64 (x.fst + (1:Int)) ∧ I (x.fst +
 (1:Int),(l.getD x.fst.toNat ([],(0:Int),(0:Int),(0:Int),[],())).fst) ∧ μ (x.fst + (1:Int),(l.getD x.fst.toNat ([],(0:Int),(0:Int),(0:Int),[],())).fst)
 < μ x)) ∧ (decide (x.fst < (↑l.length:Int)) = false → (0:Int) = chkS (d,m,l,()))))))):=by kernel_rfl
end Go.Proofs.YtbjjaaimhleedaaGreatDoor
namespace Go.PL
open Go.AM
theorem kws_eq:[bytesOf { data:=#[(97:UInt8),(108:UInt8),(108:UInt8)] },bytesOf { data:=#[(97:UInt8),(110:UInt8),(100:UInt8)] },bytesOf { data:=#[(104:UInt8),(97:UInt8),(115:UInt8)] },bytesOf { data:=#[(105:UInt8),(110:UInt8)] },bytesOf { data:=#[(110:UInt8),(111:UInt8),(116:UInt8)] },bytesOf { data:=#[(111:UInt8),(114:UInt8)] }] = kws:=by decide +kernel
theorem jQ9 {α:Type} {l:List α} {d:α} {i:Nat} (h:i < l.length):l.getD i d ∈ l:=by
 rw [List.getD_eq_getElem?_getD,List.getElem?_eq_getElem h]
 exact List.getElem_mem _
theorem jKe {α:Type} {l:List α} (d:α) {x:α} (h:x ∈ l):∃ i,i < l.length ∧ l.getD i d = x:=by
 obtain ⟨i,hi,e⟩:=List.getElem_of_mem h
 exact ⟨i,hi,by rw [List.getD_eq_getElem?_getD,List.getElem?_eq_getElem hi]; exact e⟩
theorem upto_no {n:Nat} {p:Nat → Bool} {i:Nat} (hi:i < n) (h:p i = false):upto n p = false:=eq_no fun hu=>by
 have:=upto_iff.1 hu i hi
 rw [h] at this; cases this
theorem nameB_no {s:List Int} {i:Nat} (hi:i < s.length) (h:chB s i = false):false = nameB s:=by
 unfold nameB
 rw [upto_no hi h]
 rfl
theorem nameB_end {s:List Int} (h:∀ j,j < s.length → chB s j = true):nameB s = (decide (1 ≤ s.length) && (decide (s.length ≤ 40) && !decide (s ∈ kws))):=by
 unfold nameB
 rw [upto_iff.2 h]
 rfl
theorem chB_iff {s:List Int} {i:Nat}:chB s i = true ↔ (97 ≤ s.getD i 0 ∧ s.getD i 0 ≤ 122) ∨ (i ≠ 0 ∧ ((48 ≤ s.getD i 0 ∧ s.getD i 0 ≤ 57) ∨ s.getD i 0 = 95)):=by
 unfold chB letB digB
 simp only [Bool.or_eq_true,Bool.and_eq_true,decide_eq_true_eq,Bool.not_eq_true',decide_eq_false_iff_not,ne_eq]
theorem chB_no {s:List Int} {i:Nat} (h:¬ ((97 ≤ s.getD i 0 ∧ s.getD i 0 ≤ 122) ∨ (i ≠ 0 ∧ ((48 ≤ s.getD i 0 ∧ s.getD i 0 ≤ 57) ∨ s.getD i 0 = 95)))):chB s i = false:=eq_no fun hc=>h (chB_iff.1 hc)
end Go.PL
namespace Go.Proofs.YtbjjaaimhleedaaGreatDoor
open Go.AM Go.PL
attribute [local irreducible] fnwp
theorem AF0_sound:jQe AF0:=jQi trivial trivial
theorem sat_has:Sat bs.P 73 hasSp:=jQn AF0_sound 6 _ hasSp fun (⟨l,s⟩:List (List Int) × List Int) hok _=>by
 rw [has_nf]
 have hm:l.length ≤ 9223372036854775807:=hok.1.1
 refine ⟨fun x=>0 ≤ x ∧ x ≤ l.length ∧ ∀ j:Nat,(j:Int) < x → l.getD j [] ≠ s,fun x=>(l.length - x).toNat,⟨by omega,by omega,fun j hj=>by omega⟩,?_⟩
 rintro x ⟨h0,h1,h2⟩
 refine ⟨fun h=>?_,fun h=>?_⟩
 ·have h:=dt h
  refine ⟨⟨h0,h⟩,fun he=>?_,fun he=>⟨jZk h0 h hm,⟨by omega,by omega,jZp h0 h2 fun e=>df he e.symm⟩,by dsimp only; omega⟩⟩
  rw [decide_eq_true h0,decide_eq_true]
  rw [dt he]
  exact jQ9 (by omega)
 ·have h:=df h
  rw [decide_eq_false]
  intro hm'
  obtain ⟨i,hi,e⟩:=jKe [] hm'
  exact h2 i (by omega) e
theorem sat_rHas:Sat bs.P 29 hasSp:=jQn AF0_sound 6 _ hasSp fun (⟨l,s⟩:List (List Int) × List Int) hok _=>by
 rw [rHas_nf]
 have hm:l.length ≤ 9223372036854775807:=hok.1.1
 refine ⟨fun x=>0 ≤ x ∧ x ≤ l.length ∧ ∀ j:Nat,(j:Int) < x → l.getD j [] ≠ s,fun x=>(l.length - x).toNat,⟨by omega,by omega,fun j hj=>by omega⟩,?_⟩
 rintro x ⟨h0,h1,h2⟩
 refine ⟨fun h=>?_,fun h=>?_⟩
 ·have h:=dt h
  refine ⟨⟨h0,h⟩,fun he=>?_,fun he=>⟨jZk h0 h hm,⟨by omega,by omega,jZp h0 h2 (df he)⟩,by dsimp only; omega⟩⟩
  rw [decide_eq_true]
  rw [← dt he]
  exact jQ9 (by omega)
 ·have h:=df h
  rw [decide_eq_false]
  intro hm'
  obtain ⟨i,hi,e⟩:=jKe [] hm'
  exact h2 i (by omega) e
theorem sat_metric:Sat bs.P 26 metricSp:=jQn AF0_sound 6 _ metricSp fun (m:Int) hok _=>by
 rw [metric_nf]
 refine ⟨fun h=>?_,fun h=>?_⟩
 ·rw [h]; rfl
 ·rw [h]; rfl
theorem AF1_sound:jQe AF1:=jQi ⟨sat_has,sat_rHas,trivial⟩ trivial
theorem sat_rName:Sat bs.P 44 nameSp:=jQn AF1_sound 6 _ nameSp fun (s:List Int) hok _=>by
 rw [rName_nf,kws_eq]
 have hm:s.length ≤ 9223372036854775807:=hok.2
 refine ⟨fun x=>0 ≤ x ∧ x ≤ s.length ∧ ∀ j:Nat,(j:Int) < x → chB s j = true,fun x=>(s.length - x).toNat,⟨by omega,by omega,fun j hj=>by omega⟩,?_⟩
 rintro x ⟨h0,h1,h2⟩
 refine ⟨fun h=>?_,fun h=>?_⟩
 ·have h:=dt h
  have hi:isI64 (x + 1):=jZk h0 h hm
  have go:chB s x.toNat = true → isI64 (x + 1) ∧ (0 ≤ x + 1 ∧ x + 1 ≤ s.length ∧ ∀ j:Nat,(j:Int) < x + 1 → chB s j = true) ∧ ((s.length:Int) - (x + 1)).toNat < ((s.length:Int) - x).toNat:=fun hc=>⟨hi,⟨by omega,by omega,jZp h0 h2 hc⟩,by omega⟩
  have no:chB s x.toNat = false → false = nameB s:=fun hc=>nameB_no (by omega) hc
  have hx0:x = 0 ↔ x.toNat = 0:=by omega
  refine ⟨⟨h0,h⟩,?_⟩
  repeat' apply And.intro
  all_goals (repeat' (first | (intro hh; first | (replace hh:=dt hh) | (replace hh:=df hh) | (replace hh:=ndt hh) | (replace hh:=ndf hh)) | apply And.intro))
  all_goals first
   | exact no (chB_no (by omega))
   | exact hi
   | omega
   | (dsimp only; omega)
   | exact jZp h0 h2 (chB_iff.2 (by omega))
 ·have h:=df h
  rw [nameB_end fun j hj=>h2 j (by omega)]
  refine ⟨fun hc=>⟨fun hd=>⟨trivial,?_⟩,fun hd=>?_⟩,fun hc=>?_⟩
  ·have hc:=dt hc
   have hd:=dt hd
   rw [decide_eq_true (show 1 ≤ s.length by omega),decide_eq_true (show s.length ≤ 40 by omega)]
   rfl
  ·have hd:=df hd
   rw [decide_eq_false (show ¬ s.length ≤ 40 by omega)]
   simp
  ·have hc:=df hc
   rw [decide_eq_false (show ¬ 1 ≤ s.length by omega)]
   rfl
end Go.Proofs.YtbjjaaimhleedaaGreatDoor
namespace Go.PL
open Go.AM
theorem chkL_drop {l:List Df} {x:Int} (h0:0 ≤ x) (h:x < l.length) (b:List Int):chkL (l.drop x.toNat) b = if defS (l.getD x.toNat ([],0,0,0,[],())) b ≠ 0 then defS (l.getD x.toNat ([],0,0,0,[],())) b else chkL (l.drop (x + 1).toNat) (l.getD x.toNat ([],0,0,0,[],())).1:=by
 have hlt:x.toNat < l.length:=by omega
 rw [List.drop_eq_getElem_cons hlt,show (x + 1).toNat = x.toNat + 1 by omega,List.getD_eq_getElem?_getD,List.getElem?_eq_getElem hlt]
 rfl
theorem chkL_end {l:List Df} {x:Int} (h:¬ x < l.length) (b:List Int):chkL (l.drop x.toNat) b = 0:=by
 rw [List.drop_of_length_le (by omega)]
 rfl
theorem chkS_err {d m:Int} {l:List Df} (h:d < 1 ∨ 32 < d ∨ m < 1 ∨ 3 < m):chkS (d,m,l,()) = 1:=by
 unfold chkS
 rw [if_pos h]
theorem chkS_lim {d m:Int} {l:List Df} (h:¬ (d < 1 ∨ 32 < d ∨ m < 1 ∨ 3 < m)) (hl:16 < l.length):chkS (d,m,l,()) = 2:=by
 unfold chkS
 rw [if_neg h,if_pos hl]
theorem chkS_run {d m:Int} {l:List Df} (h:¬ (d < 1 ∨ 32 < d ∨ m < 1 ∨ 3 < m)) (hl:¬ 16 < l.length):chkS (d,m,l,()) = chkL l []:=by
 unfold chkS
 rw [if_neg h,if_neg hl]
end Go.PL
namespace Go.Proofs.YtbjjaaimhleedaaGreatDoor
open Go.AM Go.PL
attribute [local irreducible] fnwp
theorem AF2_sound:jQe AF2:=jQi ⟨sat_rName,sat_metric,trivial⟩ trivial
theorem sat_words:Sat bs.P 45 wordsSp:=jQn AF2_sound 6 _ wordsSp fun (l:List (List Int)) hok _=>by
 rw [words_nf]
 have hm:l.length ≤ 9223372036854775807:=hok.1
 refine ⟨fun h=>?_,fun h=>⟨fun g=>?_,fun g=>?_⟩⟩
 ·have h:=dt h
  unfold jKp
  rw [if_pos (by omega)]
 ·have g:=dt g
  unfold jKp
  rw [if_pos (by omega)]
 have h:=df h
 have g:=df g
 have hn:¬ (l.length < 1 ∨ 50 < l.length):=by omega
 refine ⟨fun x=>0 ≤ x ∧ x ≤ l.length ∧ ∀ j:Nat,(j:Int) < x → nameB (l.getD j []) = true,fun x=>(l.length - x).toNat,⟨by omega,by omega,fun j hj=>by omega⟩,?_⟩
 rintro x ⟨h0,h1,h2⟩
 refine ⟨fun h=>?_,fun h=>?_⟩
 ·have h:=dt h
  refine ⟨⟨h0,h⟩,trivial,fun he=>?_,fun he=>⟨jZk h0 h hm,⟨by omega,by omega,jZp h0 h2 (by simpa using he)⟩,by dsimp only; omega⟩⟩
  unfold jKp
  rw [if_neg hn,upto_no (i:=x.toNat) (by omega) (by simpa using he)]
  rfl
 ·have h:=df h
  have hu:(upto l.length fun i=>nameB (l.getD i [])) = true:=upto_iff.2 fun j hj=>h2 j (by omega)
  refine ⟨fun x=>1 ≤ x ∧ ∀ j:Nat,(j:Int) + 1 < x → leS (l.getD (j + 1) []) (l.getD j []) = false,fun x=>(l.length - x).toNat,⟨by omega,fun j hj=>by omega⟩,?_⟩
  rintro x ⟨h0,h2⟩
  have e1:x.toNat = (x - 1).toNat + 1:=by omega
  refine ⟨fun h=>?_,fun h=>?_⟩
  ·have h:=dt h
   refine ⟨⟨by omega,h⟩,by unfold isI64; omega,⟨by omega,by omega⟩,fun hc=>?_,fun hc=>⟨by unfold isI64; omega,⟨by omega,fun j hj=>?_⟩,by dsimp only; omega⟩⟩
   ·unfold jKp risingB
    rw [if_neg hn,hu,upto_no (i:=(x - 1).toNat) (by omega)]
    ·rfl
    ·rw [← e1]
     have:leS (l.getD x.toNat []) (l.getD (x - 1).toNat []) = true:=hc
     rw [this]
     rfl
   ·by_cases hj':(j:Int) + 1 < x
    ·exact h2 j hj'
    ·have hjx:j = (x - 1).toNat:=by omega
     subst hjx
     rw [← e1]
     exact hc
  ·have h:=df h
   have hr:risingB l = true:=upto_iff.2 fun j hj=>by
    rw [h2 j (by omega)]
    rfl
   unfold jKp
   rw [if_neg hn,hu,hr]
   rfl
theorem AF3_sound:jQe AF3:=jQi ⟨sat_words,sat_rName,sat_metric,trivial⟩ trivial
theorem sat_rDef:Sat bs.P 27 defSp:=jQn AF3_sound 6 _ defSp fun (⟨⟨n,k,lo,hi,w,⟨⟩⟩,b⟩:Df × List Int) hok _=>by
 rw [rDef_nf]
 simp only [defS,leS]
 refine ⟨trivial,?_⟩
 repeat' (first | apply And.intro | (intro hh; first | (replace hh:=dt hh) | (replace hh:=df hh) | (replace hh:=ndt hh) | (replace hh:=ndf hh)) | intro hh)
 all_goals simp_all
 all_goals (split <;> first | omega | rfl | (split <;> first | omega | rfl))
theorem AF4_sound:jQe AF4:=jQi ⟨sat_rDef,sat_rName,sat_metric,trivial⟩ trivial
theorem sat_rChk:Sat bs.P 12 chkSp:=jQn AF4_sound 6 _ chkSp fun (⟨d,m,l,⟨⟩⟩:Int × Int × List Df × Unit) hok _=>by
 rw [rChk_nf]
 have hm:l.length ≤ 9223372036854775807:=hok.2.2.1.1
 refine ⟨fun h=>?_,fun h1=>⟨fun h=>?_,fun h2=>⟨trivial,fun h=>?_,fun h3=>⟨fun h=>?_,fun h4=>?_⟩⟩⟩⟩
 ·rw [chkS_err (by have:=dt h; omega)]
 ·rw [chkS_err (by have:=dt h; omega)]
 ·rw [chkS_err (by simp at h; omega)]
 ·rw [chkS_lim (by have:=df h1; have:=df h2; simp at h3; omega) (by have:=dt h; omega)]
 have hr:chkS (d,m,l,()) = chkL l []:=chkS_run (by have:=df h1; have:=df h2; simp at h3; omega) (by have:=df h4; omega)
 rw [hr]
 refine ⟨fun x=>0 ≤ x.1 ∧ x.1 ≤ l.length ∧ chkL (l.drop x.1.toNat) x.2 = chkL l [],fun x=>(l.length - x.1).toNat,⟨by omega,by omega,rfl⟩,?_⟩
 rintro ⟨x,b⟩ ⟨h0,h1,h2⟩
 dsimp only at h0 h1 h2 ⊢
 refine ⟨fun h=>?_,fun h=>?_⟩
 ·have h:=dt h
  rw [chkL_drop h0 h] at h2
  refine ⟨⟨h0,h⟩,trivial,fun hd=>?_,fun hd=>⟨⟨h0,h⟩,jZk h0 h hm,⟨by omega,by omega,?_⟩,by omega⟩⟩
  ·rw [if_pos (ndt hd)] at h2
   exact h2
  ·rw [if_neg (fun g=>g (ndf hd))] at h2
   exact h2
 ·have h:=df h
  rw [chkL_end h] at h2
  exact h2
end Go.Proofs.YtbjjaaimhleedaaGreatDoor
namespace Go.PL
open Go.AM
def fndN:List Df → List Int → Int → Int
 | [],_,_=>-1
 | d :: l,n,k=>if d.1 = n then k else fndN l n (k + 1)
def valS (d:Df) (a:At):Int :=
 if a.2.1 ≠ d.2.1 then 130 else if a.2.1 = 1 then (if a.2.2.2.1 ≠ [] then 3 else if a.2.2.1 < d.2.2.1 ∨ d.2.2.2.1 < a.2.2.1 then 131 else 0) else
 if a.2.2.1 ≠ 0 then 3 else if a.2.2.2.1 ∉ d.2.2.2.2.1 then 131 else 0
def fitsL (ds:List Df):List At → List Int → Int
 | [],_=>0
 | a :: l,b=>if fndN ds a.1 0 < 0 then 5 else if leS a.1 b = true then 6 else
  if valS (ds.getD (fndN ds a.1 0).toNat ([],0,0,0,[],())) a ≠ 0 then valS (ds.getD (fndN ds a.1 0).toNat ([],0,0,0,[],())) a else fitsL ds l a.1
def fitsS (s:Sc) (l:List At):Int:=fitsL s.2.2.1 l []
def namesOk (s:Sc):Prop:=∀ d ∈ s.2.2.1,d.1 ≠ []
end Go.PL
namespace Go.Proofs.YtbjjaaimhleedaaGreatDoor
open Go.AM Go.PL
def findSp:FSpec:=⟨[SC,.str],[I],fun _=>True,fun x=>fndN (x.1:Sc).2.2.1 x.2 0⟩
def valSp:FSpec:=⟨[DF,AT],[I],fun _=>True,fun x=>valS x.1 x.2⟩
def fitsSp:FSpec:=⟨[SC,AL],[I],fun x=>namesOk x.1,fun x=>fitsS x.1 x.2⟩
def loopsP (f:FuncId) (r:Nat):List LA :=
 if Nat.beq f 15 then [.slot 5 I] else
 if Nat.beq f 6 then [.slot 5 I] else
 []
def hintP (f:FuncId):Hint:=if Nat.beq f 999999995 then ⟨fun _=>[],fun _=>.split,fun _=>.split,datN⟩ else
 ⟨loopsP f,fun _=>.split,fun _=>.split,fun _=>0⟩
noncomputable def AP0:Ctx:=mkctx bs [(73,hasSp),(29,hasSp)] [] hintP
theorem find_nf (d m:Int) (l:List Df) (s:List Int):fnwp AP0 6 15 findSp ((d,m,l,()),s) = (∃ (I:Int → Prop),∃ (μ:Int → Nat),I (0:Int) ∧ ∀ (x:Int),I x →
 (decide (x < (↑l.length:Int)) = true → ((0:Int) ≤ x ∧ x < (↑l.length:Int)) ∧ (decide ((l.getD x.toNat ([],(0:Int),(0:Int),(0:Int),[],())).fst = s) = true → x =
 fndN l s (0:Int)) ∧ (decide ((l.getD x.toNat ([],(0:Int),(0:Int),(0:Int),[],())).fst = s) = false → isI64 (x + (1:Int)) ∧ I (x + (1:Int)) ∧ μ (x + (1:Int)) < μ
 x)) ∧ (decide (x < (↑l.length:Int)) = false → (-1:Int) = fndN l s (0:Int))):=by kernel_rfl
theorem val_nf (n:List Int) (k lo hi:Int) (w:List (List Int)) (an:List Int) (ak av:Int) (sv:List Int):fnwp AP0 6 16 valSp ((n,k,lo,hi,w,()),(an,ak,av,sv,
 ())) = (((!decide (ak = k)) = true → (130:Int) = valS (n,k,lo,hi,w,()) (an,ak,av,sv,())) ∧ ((!decide (ak = k)) = false → (decide (ak = (1:Int)) = true → ((!decide
 (sv = bytesOf { data:=#[] })) = true → (3:Int) = valS (n,k,lo,hi,w,()) (an,ak,av,sv,())) ∧ ((!decide (sv = bytesOf { data:=#[] })) = false → (decide (av < lo) =
 true → (131:Int) = valS (n,k,lo,hi,w,()) (an,ak,av,sv,())) ∧ (decide (av < lo) = false → (decide (hi < av) = true → (131:Int) = valS (n,k,lo,hi,w,()) (an,ak,
 av,sv,())) ∧ (decide (hi < av) = false → (0:Int) = valS (n,k,lo,hi,w,()) (an,ak,av,sv,()))))) ∧ (decide (ak = (1:Int)) = false → ((!decide (av = (0:Int))) = true
 → (3:Int) = valS (n,k,lo,hi,w,()) (an,ak,av,sv,())) ∧ ((!decide (av = (0:Int))) = false → True ∧ ((!decide (sv ∈ w)) = true → (131:Int) = valS (n,k,lo,hi,w,
 ()) (an,ak,av,sv,())) ∧ ((!decide (sv ∈ w)) = false → (0:Int) = valS (n,k,lo,hi,w,()) (an,ak,av,sv,())))))):=by kernel_rfl
def tP1:List (FuncId × FSpec):=[(15,findSp),(16,valSp),(73,hasSp),(29,hasSp)]
noncomputable def AP1:Ctx:=mkctx bs tP1 [] hintP
theorem rFits_nf (d m:Int) (l:List Df) (a:List At):fnwp AP1 6 6 fitsSp ((d,m,l,()),a) = (∃ (I:Int → Prop),∃ (μ:Int → Nat),I (0:Int) ∧ ∀ (x:Int),I x → (decide
 (x < (↑a.length:Int)) = true → ((0:Int) ≤ x ∧ x < (↑a.length:Int)) ∧ True ∧ (decide (fndN l (a.getD x.toNat ([],(0:Int),(0:Int),[],())).fst (0:Int) < (0:Int)) =
 true → (5:Int) = fitsS (d,m,l,()) a) ∧ (decide (fndN l (a.getD x.toNat ([],(0:Int),(0:Int),[],())).fst (0:Int) < (0:Int)) = false → (decide ((0:Int) < x) =
 true → ((0:Int) ≤ x ∧ x < (↑a.length:Int)) ∧ isI64 (x - (1:Int)) ∧ ((0:Int) ≤ x - (1:Int) ∧ x - (1:Int) < (↑a.length:Int)) ∧ ((strLt (a.getD x.toNat ([],(0:Int),
 (0:Int),[],())).fst (a.getD (x - (1:Int)).toNat ([],(0:Int),(0:Int),[],())).fst || decide ((a.getD x.toNat ([],(0:Int),(0:Int),[],())).fst = (a.getD (x - (1
 : Int)).toNat ([],(0:Int),(0:Int),[],())).fst)) = true → (6:Int) = fitsS (d,m,l,()) a) ∧ ((strLt (a.getD x.toNat ([],(0:Int),(0:Int),[],())).fst (a.getD (x -
 (1:Int)).toNat ([],(0:Int),(0:Int),[],())).fst || decide ((a.getD x.toNat ([],(0:Int),(0:Int),[],())).fst = (a.getD (x - (1:Int)).toNat ([],(0:Int),(0 :
 Int),[],())).fst)) = false → ((0:Int) ≤ fndN l (a.getD x.toNat ([],(0:Int),(0:Int),[],())).fst (0:Int) ∧ fndN l (a.getD x.toNat ([],(0:Int),(0:Int),[],
 ())).fst (0:Int) < (↑l.length:Int)) ∧ ((0:Int) ≤ x ∧ x < (↑a.length:Int)) ∧ True ∧ ((!decide (valS (l.getD (fndN l (a.getD x.toNat ([],(0:Int),(0:Int),[],())).fst
 (0:Int)).toNat ([],(0:Int),(0:Int),(0:Int),[],())) (a.getD x.toNat ([],(0:Int),(0:Int),[],())) = (0:Int))) = true → valS (l.getD (fndN l (a.getD x.toNat
 ([],(0:Int),(0:Int),[],())).fst (0:Int)).toNat ([],(0:Int),(0:Int),(0:Int),[],())) (a.getD x.toNat ([],(0:Int),(0:Int),[],())) = fitsS (d,m,l,())
 a) ∧ ((!decide (valS (l.getD (fndN l (a.getD x.toNat ([],(0:Int),(0:Int),[],())).fst (0:Int)).toNat ([],(0:Int),(0:Int),(0:Int),[],())) (a.getD x.toNat ([],
 (0:Int),(0:Int),[],())) = (0:Int))) = false → isI64 (x + (1:Int)) ∧ I (x + (1:Int)) ∧ μ (x + (1:Int)) < μ x))) ∧ (decide ((0:Int) < x) = false → ((0:Int) ≤
 fndN l (a.getD x.toNat ([],(0:Int),(0:Int),[],())).fst (0:Int) ∧ fndN l (a.getD x.toNat ([],(0:Int),(0:Int),[],())).fst (0:Int) < (↑l.length:Int)) ∧ ((0 :
 Int) ≤ x ∧ x < (↑a.length:Int)) ∧ True ∧ ((!decide (valS (l.getD (fndN l (a.getD x.toNat ([],(0:Int),(0:Int),[],())).fst (0:Int)).toNat ([],(0:Int),(0:Int),(0
 : Int),[],())) (a.getD x.toNat ([],(0:Int),(0:Int),[],())) = (0:Int))) = true → valS (l.getD (fndN l (a.getD x.toNat ([],(0:Int),(0:Int),[],())).fst (0 :
 Int)).toNat ([],(0:Int),(0:Int),(0:Int),[],())) (a.getD x.toNat ([],(0:Int),(0:Int),[],())) = fitsS (d,m,l,()) a) ∧ ((!decide (valS (l.getD (fndN l (a.getD
 x.toNat ([],(0:Int),(0:Int),[],())).fst (0:Int)).toNat ([],(0:Int),(0:Int),(0:Int),[],())) (a.getD x.toNat ([],(0:Int),(0:Int),[],())) = (0:Int)))
 = false → isI64 (x + (1:Int)) ∧ I (x + (1:Int)) ∧ μ (x + (1:Int)) < μ x)))) ∧ (decide (x < (↑a.length:Int)) = false → (0:Int) = fitsS (d,m,l,()) a)):=by kernel_rfl
end Go.Proofs.YtbjjaaimhleedaaGreatDoor
namespace Go.PL
open Go.AM
abbrev Lt:=Int × Int × Int × List Int × Unit
abbrev Tr:=Rose ((Int × Int × List Int × List Lt × Unit) × Unit)
abbrev Pr:=Rose ((Int × List Int × Int × Int × List Int × Unit) × Unit)
def opT (t:Tr):Int:=t.val.1.1
def atT (t:Tr):Int:=t.val.1.2.1
def nameT (t:Tr):List Int:=t.val.1.2.2.1
def argsT (t:Tr):List Lt:=t.val.1.2.2.2.1
def opP (p:Pr):Int:=p.val.1.1
def nameP (p:Pr):List Int:=p.val.1.2.1
def nP (p:Pr):Int:=p.val.1.2.2.1
def mP (p:Pr):Int:=p.val.1.2.2.2.1
def sP (p:Pr):List Int:=p.val.1.2.2.2.2.1
def mkP (op:Int) (name:List Int) (n m:Int) (s:List Int) (subs:List Pr):Pr:=.node ((op,name,n,m,s,()),()) subs
def getA (l:List At) (n:List Int):Option At:=l.find? fun a=>decide (a.1 = n)
def jQf:Nat → Pr → List At → Bool
 | 0,_,_=>false
 | f + 1,p,l=>if opP p = 1 then true else if opP p = 2 then p.subs.all (fun x=>jQf f x l) else if opP p = 3 then p.subs.any (fun x=>jQf f x l) else if opP p = 4 then !p.subs.any (fun x=>jQf f x l) else
  if opP p = 5 then (getA l (nameP p)).isSome else
  if opP p = 6 then (match getA l (nameP p) with | some a=>decide (a.2.1 = 1) && (decide (nP p ≤ a.2.2.1) && decide (a.2.2.1 ≤ mP p)) | none=>false) else
  if opP p = 7 then (match getA l (nameP p) with | some a=>decide (a.2.1 = 2) && decide (a.2.2.2.1 = sP p) | none=>false) else false
def relA (t:Tr) (a:At):Bool :=
 let one:=(argsT t).any fun x=>(decide (a.2.1 = 1) && decide (x.2.2.1 = a.2.2.1)) || (decide (a.2.1 = 2) && decide (x.2.2.2.1 = a.2.2.2.1))
 let m:=((argsT t).getD 0 (0,0,0,[],())).2.2.1
 if opT t = 6 ∨ opT t = 13 then one else if opT t = 7 then !one else if opT t = 8 then decide (a.2.2.1 < m) else if opT t = 9 then decide (a.2.2.1 ≤ m) else if opT t = 10 then decide (m < a.2.2.1) else
 if opT t = 11 then decide (m ≤ a.2.2.1) else decide (m ≤ a.2.2.1) && decide (a.2.2.1 ≤ ((argsT t).getD 1 (0,0,0,[],())).2.2.1)
def fulN:Nat → Tr → List At → Bool
 | 0,_,_=>false
 | f + 1,t,l=>if opT t = 1 then true else if opT t = 4 then !fulN f (t.subs.getD 0 t) l else if opT t = 2 then t.subs.all (fun x=>fulN f x l) else if opT t = 3 then t.subs.any (fun x=>fulN f x l) else
  match getA l (nameT t) with
  | none=>false
  | some a=>if opT t = 5 then true else relA t a
def neverP:Pr:=mkP 4 [] 0 0 [] [mkP 1 [] 0 0 [] []]
def numP (d:Df) (a b:Int):Pr:=if min b d.2.2.2.1 < max a d.2.2.1 then neverP else mkP 6 d.1 (max a d.2.2.1) (min b d.2.2.2.1) [] []
def eqP (d:Df) (x:Lt):Pr:=if d.2.1 = 2 then mkP 7 d.1 0 0 x.2.2.2.1 [] else numP d x.2.2.1 x.2.2.1
def litE (d:Df) (x:Lt):Int:=if decide (x.1 = 1) ≠ decide (d.2.1 = 1) then 130 else if x.1 ≠ 1 ∧ x.2.2.2.1 ∉ d.2.2.2.2.1 then 131 else 0
def litsE (d:Df):List Lt → Option (Int × Int)
 | []=>none
 | x :: l=>if litE d x ≠ 0 then some (x.2.1,litE d x) else litsE d l
def minI:Int:=-9223372036854775808
def maxI:Int:=9223372036854775807
def relP (s:Sc) (t:Tr):Pr ⊕ (Int × Int) :=
 let k:=fndN s.2.2.1 (nameT t) 0
 if k < 0 then .inr (atT t,5) else
 let d:=s.2.2.1.getD k.toNat ([],0,0,0,[],())
 let x:=((argsT t).getD 0 (0,0,0,[],())).2.2.1
 let y:=((argsT t).getD 1 (0,0,0,[],())).2.2.1
 let is:=decide (8 ≤ opT t) && decide (opT t ≤ 12)
 if is && decide (d.2.1 = 2) then .inr (atT t,130) else
 match litsE d (argsT t) with
 | some b=>.inr b
 | none =>
  if is then
   if opT t = 12 ∧ y < x then .inr (((argsT t).getD 0 (0,0,0,[],())).2.1,131) else
   .inl (if opT t = 8 then numP d minI (x - 1) else if opT t = 9 then numP d minI x else if opT t = 10 then numP d (x + 1) maxI else if opT t = 11 then numP d x maxI else numP d x y)
  else if opT t = 7 then .inl (mkP 2 [] 0 0 [] [mkP 5 d.1 0 0 [] [],mkP 4 [] 0 0 [] ((argsT t).map (eqP d))])
  else if (argsT t).length = 1 then .inl (eqP d ((argsT t).getD 0 (0,0,0,[],())))
  else .inl (mkP 3 [] 0 0 [] ((argsT t).map (eqP d)))
def typL (g:Tr → Pr ⊕ (Int × Int)):List Tr → List Pr ⊕ (Int × Int)
 | []=>.inl []
 | t :: l=>match g t with
  | .inr b=>.inr b
  | .inl p=>match typL g l with
   | .inr b=>.inr b
   | .inl ps=>.inl (p :: ps)
def typN:Nat → Sc → Tr → Pr ⊕ (Int × Int)
 | 0,_,t=>.inr (atT t,1)
 | f + 1,s,t=>if 5 < opT t then relP s t else
  if opT t = 5 then (if fndN s.2.2.1 (nameT t) 0 < 0 then .inr (atT t,5) else .inl (mkP 5 (nameT t) 0 0 [] [])) else
  match typL (typN f s) t.subs with
  | .inr b=>.inr b
  | .inl ps=>.inl (mkP (opT t) [] 0 0 [] ps)
def wellN:Nat → Tr → Prop
 | 0,_=>False
 | f + 1,t=>(1 ≤ opT t ∧ opT t ≤ 13) ∧ (opT t = 4 → t.subs.length = 1) ∧ (∀ x ∈ t.subs,wellN f x) ∧ (6 ≤ opT t → opT t ≤ 11 → (argsT t).length = 1) ∧ (opT t = 12 → (argsT t).length = 2) ∧ (opT t = 13 → 1 ≤ (argsT t).length) ∧
  ∀ x ∈ argsT t,(x.1 = 1 ∨ x.1 = 2) ∧ -1000000000000000000 < x.2.2.1 ∧ x.2.2.1 < 1000000000000000000
end Go.PL
namespace Go.PL
open Go.AM
def treeA:Tr:=.node ((2,14,[],[],()),()) [.node ((7,0,[99,111,108,111,117,114],[(2,10,0,[114,101,100],())],()),()) [],.node ((8,18,[119,101,105,103,104,116],[(1,27,4,[],())],()),()) []]
end Go.PL
namespace Go.Proofs.YtbjjaaimhleedaaGreatDoor
open Go.AM Go.PL
def condSp:FSpec:=⟨[.str],[TR,PB],fun s=>s = txtL,fun _=>(treeA,(0,0,()))⟩
end Go.Proofs.YtbjjaaimhleedaaGreatDoor
namespace Go.Proofs.YtbjjaaimhleedaaGreatDoor
open Go.AM Go.PL
def modeHf (f:FuncId) (r:Nat):AM.Mode:=bif (Nat.beq f 103 && Nat.beq r 3) || (Nat.beq f 70 && Nat.beq r 6) || (Nat.beq f 84 && Nat.beq r 20) then .all else .force
def hintHf (f:FuncId):Hint:=if Nat.beq f 999999995 then ⟨fun _=>[],fun _=>.force,fun _=>.force,fun t=>bif Nat.beq t 1000000 then 1 else 0⟩ else if Nat.beq f 999999996 then ⟨fun _=>[],fun _=>.force,fun _=>.force,fun t=>bif Nat.beq t 26 then 1 else 0⟩ else ⟨fun _=>[],modeHf f,fun _=>.force,fun _=>200⟩
noncomputable def HF0:Ctx:={ mkctx bs [(68,tokSp),(127,valLSp)] [] hintHf with quiet:=fun f=>Nat.beq f 69 }
theorem cond_nf:fnwp HF0 30 30 condSp txtL = ((txtL = txtL ∨ txtL = [(52:Int)]) ∧ ((0:Int) ≤ (0:Int) ∧ (0:Int) < (↑(7:Nat):Int)) ∧ ((0:Int) ≤ (0:Int) ∧ (0:Int)
 < (↑(7:Nat):Int)) ∧ ((0:Int) ≤ (0:Int) ∧ (0:Int) < (↑(7:Nat):Int)) ∧ isI64 (1:Int) ∧ isI64 (0:Int) ∧ ((0:Int) ≤ (0:Int) ∧ (0:Int) < (↑(7:Nat):Int)) ∧
 ((0:Int) ≤ (1:Int) ∧ (1:Int) < (↑(7:Nat):Int)) ∧ ((0:Int) ≤ (0:Int) ∧ (0:Int) < (↑(7:Nat):Int)) ∧ ((0:Int) ≤ (1:Int) ∧ (1:Int) < (↑(7:Nat):Int)) ∧
 isI64 (1:Int) ∧ ((0:Int) ≤ (1:Int) ∧ (1:Int) < (↑(7:Nat):Int)) ∧ ((0:Int) ≤ (1:Int) ∧ (1:Int) < (↑(7:Nat):Int)) ∧ isI64 (2:Int) ∧ ((0:Int) ≤ (2:Int) ∧
 (2:Int) < (↑(7:Nat):Int)) ∧ ((0:Int) ≤ (1:Int) ∧ (1:Int) < (↑(7:Nat):Int)) ∧ isI64 (2:Int) ∧ isI64 (1:Int) ∧ ((0:Int) ≤ (1:Int) ∧ (1:Int) < (↑(7:Nat)
 : Int)) ∧ ((0:Int) ≤ (2:Int) ∧ (2:Int) < (↑(7:Nat):Int)) ∧ isI64 (3:Int) ∧ isI64 (2:Int) ∧ ((0:Int) ≤ (2:Int) ∧ (2:Int) < (↑(7:Nat):Int)) ∧ ((0:Int) ≤
 (3:Int) ∧ (3:Int) < (↑(7:Nat):Int)) ∧ ((0:Int) ≤ (0:Int) ∧ (0:Int) < (↑(1:Nat):Int)) ∧ ((0:Int) ≤ (3:Int) ∧ (3:Int) < (↑(7:Nat):Int)) ∧ isI64 (4 :
 Int) ∧ isI64 (3:Int) ∧ ((0:Int) ≤ (3:Int) ∧ (3:Int) < (↑(7:Nat):Int)) ∧ ((0:Int) ≤ (4:Int) ∧ (4:Int) < (↑(7:Nat):Int)) ∧ ((0:Int) ≤ (4:Int) ∧ (4:Int)
 < (↑(7:Nat):Int)) ∧ ((0:Int) ≤ (4:Int) ∧ (4:Int) < (↑(7:Nat):Int)) ∧ isI64 (5:Int) ∧ isI64 (4:Int) ∧ ((0:Int) ≤ (4:Int) ∧ (4:Int) < (↑(7:Nat):Int)) ∧
 ((0:Int) ≤ (5:Int) ∧ (5:Int) < (↑(7:Nat):Int)) ∧ ((0:Int) ≤ (0:Int) ∧ (0:Int) < (↑(7:Nat):Int)) ∧ ((0:Int) ≤ (5:Int) ∧ (5:Int) < (↑(7:Nat):Int)) ∧
 isI64 (1:Int) ∧ ((0:Int) ≤ (1:Int) ∧ (1:Int) < (↑(7:Nat):Int)) ∧ ((0:Int) ≤ (5:Int) ∧ (5:Int) < (↑(7:Nat):Int)) ∧ isI64 (2:Int) ∧ ((0:Int) ≤ (2:Int) ∧
 (2:Int) < (↑(7:Nat):Int)) ∧ ((0:Int) ≤ (5:Int) ∧ (5:Int) < (↑(7:Nat):Int)) ∧ isI64 (3:Int) ∧ ((0:Int) ≤ (3:Int) ∧ (3:Int) < (↑(7:Nat):Int)) ∧ ((0 :
 Int) ≤ (5:Int) ∧ (5:Int) < (↑(7:Nat):Int)) ∧ isI64 (6:Int) ∧ isI64 (5:Int) ∧ ((0:Int) ≤ (5:Int) ∧ (5:Int) < (↑(7:Nat):Int)) ∧ ((0:Int) ≤ (6:Int) ∧ (6 :
 Int) < (↑(7:Nat):Int)) ∧ ((0:Int) ≤ (6:Int) ∧ (6:Int) < (↑(7:Nat):Int)) ∧ isI64 (7:Int) ∧ isI64 (6:Int) ∧ ((0:Int) ≤ (6:Int) ∧ (6:Int) < (↑(7:Nat) :
 Int)) ∧ ((tokA.getD (6:Nat) ((0:Int),(0:Int),[],())).fst,(tokA.getD (6:Nat) ((0:Int),(0:Int),[],())).snd.fst,(tokA.getD (6:Nat) ((0:Int),(0:Int),[],
 ())).snd.snd.fst,()) = ((3:Int),(27:Int),[(52:Int)],()) ∧ roomP HF0 (28:Nat) (2:Nat) ∧ ((0:Int) ≤ (0:Int) ∧ (0:Int) < (↑(1:Nat):Int)) ∧ ((0:Int) ≤ (0 :
 Int) ∧ (0:Int) < (↑(2:Nat):Int)) ∧ isI64 (2:Int) ∧ isI64 (1:Int) ∧ ((0:Int) ≤ (1:Int) ∧ (1:Int) < (↑(2:Nat):Int)) ∧ isI64 (2:Int) ∧ isI64 (2:Int) ∧
 (Rose.node ((([Rose.node (((2:Int),(tokA.getD (3:Nat) ((0:Int),(0:Int),[],())).snd.fst,bytesOf { data:=#[] },[],()),()) ([Rose.node (((7:Int),(tokA.getD (0 :
 Nat) ((0:Int),(0:Int),[],())).snd.fst,(tokA.getD (0:Nat) ((0:Int),(0:Int),[],())).snd.snd.fst,[((2:Int),(tokA.getD (2:Nat) ((0:Int),(0:Int),[],
 ())).snd.fst,(0:Int),(tokA.getD (2:Nat) ((0:Int),(0:Int),[],())).snd.snd.fst,())],()),()) []] ++ [Rose.node (((8:Int),(tokA.getD (4:Nat) ((0:Int),(0 :
 Int),[],())).snd.fst,(tokA.getD (4:Nat) ((0:Int),(0:Int),[],())).snd.snd.fst,[((1:Int),(tokA.getD (6:Nat) ((0:Int),(0:Int),[],())).snd.fst,(4:Int),
 bytesOf { data:=#[] },())],()),()) []])].getD (0:Nat) (Rose.node (((0:Int),(0:Int),[],[],()),()) [])).val.fst.fst,([Rose.node (((2:Int),(tokA.getD (3:Nat)
 ((0:Int),(0:Int),[],())).snd.fst,bytesOf { data:=#[] },[],()),()) ([Rose.node (((7:Int),(tokA.getD (0:Nat) ((0:Int),(0:Int),[],())).snd.fst,(tokA.getD
 (0:Nat) ((0:Int),(0:Int),[],())).snd.snd.fst,[((2:Int),(tokA.getD (2:Nat) ((0:Int),(0:Int),[],())).snd.fst,(0:Int),(tokA.getD (2:Nat) ((0:Int),(0 :
 Int),[],())).snd.snd.fst,())],()),()) []] ++ [Rose.node (((8:Int),(tokA.getD (4:Nat) ((0:Int),(0:Int),[],())).snd.fst,(tokA.getD (4:Nat) ((0:Int),(0 :
 Int),[],())).snd.snd.fst,[((1:Int),(tokA.getD (6:Nat) ((0:Int),(0:Int),[],())).snd.fst,(4:Int),bytesOf { data:=#[] },())],()),()) []])].getD (0:Nat)
 (Rose.node (((0:Int),(0:Int),[],[],()),()) [])).val.fst.snd.fst,([Rose.node (((2:Int),(tokA.getD (3:Nat) ((0:Int),(0:Int),[],())).snd.fst,bytesOf { data :=
 #[] },[],()),()) ([Rose.node (((7:Int),(tokA.getD (0:Nat) ((0:Int),(0:Int),[],())).snd.fst,(tokA.getD (0:Nat) ((0:Int),(0:Int),[],())).snd.snd.fst,[((2
 : Int),(tokA.getD (2:Nat) ((0:Int),(0:Int),[],())).snd.fst,(0:Int),(tokA.getD (2:Nat) ((0:Int),(0:Int),[],())).snd.snd.fst,())],()),()) []] ++
 [Rose.node (((8:Int),(tokA.getD (4:Nat) ((0:Int),(0:Int),[],())).snd.fst,(tokA.getD (4:Nat) ((0:Int),(0:Int),[],())).snd.snd.fst,[((1:Int),(tokA.getD (6
 : Nat) ((0:Int),(0:Int),[],())).snd.fst,(4:Int),bytesOf { data:=#[] },())],()),()) []])].getD (0:Nat) (Rose.node (((0:Int),(0:Int),[],[],()),())
 [])).val.fst.snd.snd.fst,([Rose.node (((2:Int),(tokA.getD (3:Nat) ((0:Int),(0:Int),[],())).snd.fst,bytesOf { data:=#[] },[],()),()) ([Rose.node (((7:Int),
 (tokA.getD (0:Nat) ((0:Int),(0:Int),[],())).snd.fst,(tokA.getD (0:Nat) ((0:Int),(0:Int),[],())).snd.snd.fst,[((2:Int),(tokA.getD (2:Nat) ((0:Int),(0 :
 Int),[],())).snd.fst,(0:Int),(tokA.getD (2:Nat) ((0:Int),(0:Int),[],())).snd.snd.fst,())],()),()) []] ++ [Rose.node (((8:Int),(tokA.getD (4:Nat) ((0 :
 Int),(0:Int),[],())).snd.fst,(tokA.getD (4:Nat) ((0:Int),(0:Int),[],())).snd.snd.fst,[((1:Int),(tokA.getD (6:Nat) ((0:Int),(0:Int),[],())).snd.fst,(4
 : Int),bytesOf { data:=#[] },())],()),()) []])].getD (0:Nat) (Rose.node (((0:Int),(0:Int),[],[],()),()) [])).val.fst.snd.snd.snd.fst,()),()) ([Rose.node (((2 :
 Int),(tokA.getD (3:Nat) ((0:Int),(0:Int),[],())).snd.fst,bytesOf { data:=#[] },[],()),()) ([Rose.node (((7:Int),(tokA.getD (0:Nat) ((0:Int),(0:Int),[],
 ())).snd.fst,(tokA.getD (0:Nat) ((0:Int),(0:Int),[],())).snd.snd.fst,[((2:Int),(tokA.getD (2:Nat) ((0:Int),(0:Int),[],())).snd.fst,(0:Int),(tokA.getD
 (2:Nat) ((0:Int),(0:Int),[],())).snd.snd.fst,())],()),()) []] ++ [Rose.node (((8:Int),(tokA.getD (4:Nat) ((0:Int),(0:Int),[],())).snd.fst,(tokA.getD (4 :
 Nat) ((0:Int),(0:Int),[],())).snd.snd.fst,[((1:Int),(tokA.getD (6:Nat) ((0:Int),(0:Int),[],())).snd.fst,(4:Int),bytesOf { data:=#[] },())],()),())
 []])].getD (0:Nat) (Rose.node (((0:Int),(0:Int),[],[],()),()) [])).subs,(0:Int),(0:Int),()) = (treeA,(0:Int),(0:Int),())):=by kernel_rfl
end Go.Proofs.YtbjjaaimhleedaaGreatDoor
namespace Go.Proofs.YtbjjaaimhleedaaGreatDoor
open Go.AM Go.PL
def hintT (f:FuncId):Hint:=if Nat.beq f 999999995 then ⟨fun _=>[],fun _=>.force,fun _=>.force,fun t=>bif Nat.beq t 1000000 then 1 else 0⟩ else ⟨fun _=>[],fun _=>.force,fun _=>.force,fun _=>200⟩
noncomputable def HC0:Ctx:={ mkctx bs [(114,fieldsSp),(113,ixbSp)] [] hintT with quiet:=fun f=>Nat.beq f 80 }
theorem tok4_nf:fnwp HC0 8 68 tokSp [52] = (((0:Int) ≤ (0:Int) ∧ (0:Int) < (↑(1:Nat):Int)) ∧ ((0:Int) ≤ (0:Int) ∧ (0:Int) ≤ (0:Int) ∧ (0:Int) ≤ (1:Int)) ∧
 ((0:Int) ≤ (0:Int) ∧ (0:Int) < (↑(1:Nat):Int)) ∧ ((0:Int) ≤ (0:Int) ∧ (0:Int) < (4:Int)) ∧ ((0:Int) ≤ (0:Int) ∧ (0:Int) < (↑(1:Nat):Int)) ∧ isI64 (1 :
 Int) ∧ ((0:Int) ≤ (1:Int) ∧ (1:Int) < (4:Int)) ∧ ((0:Int) ≤ (0:Int) ∧ (0:Int) < (↑(1:Nat):Int)) ∧ ((0:Int) ≤ (0:Int) ∧ (0:Int) < (↑(1:Nat):Int)) ∧
 isI64 (1:Int) ∧ ((0:Int) ≤ (0:Int) ∧ (0:Int) ≤ (1:Int) ∧ (1:Int) ≤ (1:Int)) ∧ ((0:Int) ≤ (0:Int) ∧ (0:Int) < (↑(1:Nat):Int)) ∧ roomP HC0 (107:Nat) (1 :
 Nat) ∧ ((0:Int) ≤ (1:Int) ∧ (1:Int) ≤ (1:Int) ∧ (1:Int) ≤ (1:Int)) ∧ ([((3:Int),(0:Int),List.take (1:Nat) (List.drop (0:Nat) [(52:Int)]),())],(0:Int),
 (0:Int),()) = (tokB,(0:Int),(0:Int),())):=by kernel_rfl
theorem tokA_nf:fnwp HC0 8 68 tokSp txtL = (((0:Int) ≤ (0:Int) ∧ (0:Int) < (↑(28:Nat):Int)) ∧ ((0:Int) ≤ (0:Int) ∧ (0:Int) ≤ (0:Int) ∧ (0:Int) ≤ (28:Int)) ∧
 ((0:Int) ≤ (0:Int) ∧ (0:Int) < (↑(28:Nat):Int)) ∧ ((0:Int) ≤ (0:Int) ∧ (0:Int) < (4:Int)) ∧ ((0:Int) ≤ (0:Int) ∧ (0:Int) < (↑(28:Nat):Int)) ∧ ((0 :
 Int) ≤ (0:Int) ∧ (0:Int) < (↑(28:Nat):Int)) ∧ isI64 (1:Int) ∧ ((0:Int) ≤ (1:Int) ∧ (1:Int) < (↑(28:Nat):Int)) ∧ isI64 (2:Int) ∧ ((0:Int) ≤ (2:Int) ∧ (2
 : Int) < (↑(28:Nat):Int)) ∧ isI64 (3:Int) ∧ ((0:Int) ≤ (3:Int) ∧ (3:Int) < (↑(28:Nat):Int)) ∧ isI64 (4:Int) ∧ ((0:Int) ≤ (4:Int) ∧ (4:Int) < (↑(28:Nat)
 : Int)) ∧ isI64 (5:Int) ∧ ((0:Int) ≤ (5:Int) ∧ (5:Int) < (↑(28:Nat):Int)) ∧ isI64 (6:Int) ∧ ((0:Int) ≤ (6:Int) ∧ (6:Int) < (↑(28:Nat):Int)) ∧ ((0:Int) ≤
 (0:Int) ∧ (0:Int) ≤ (6:Int) ∧ (6:Int) ≤ (28:Int)) ∧ (bytesOf { data:=#[(97:UInt8),(108:UInt8),(108:UInt8),(32:UInt8),(97:UInt8),(110:UInt8),(100 :
 UInt8),(32:UInt8),(104:UInt8),(97:UInt8),(115:UInt8),(32:UInt8),(105:UInt8),(110:UInt8),(32:UInt8),(110:UInt8),(111:UInt8),(116:UInt8),(32 :
 UInt8),(111:UInt8),(114:UInt8)] } = rsvL ∨ bytesOf { data:=#[(97:UInt8),(108:UInt8),(108:UInt8),(32:UInt8),(97:UInt8),(110:UInt8),(100:UInt8),(32 :
 UInt8),(104:UInt8),(97:UInt8),(115:UInt8),(32:UInt8),(105:UInt8),(110:UInt8),(32:UInt8),(110:UInt8),(111:UInt8),(116:UInt8),(32:UInt8),(111 :
 UInt8),(114:UInt8)] } = lngL) ∧ ((0:Int) ≤ (0:Int) ∧ (0:Int) < (↑(6:Nat):Int)) ∧ isI64 (1:Int) ∧ ((0:Int) ≤ (1:Int) ∧ (1:Int) < (↑(6:Nat):Int)) ∧ isI64
 (2:Int) ∧ ((0:Int) ≤ (2:Int) ∧ (2:Int) < (↑(6:Nat):Int)) ∧ isI64 (3:Int) ∧ ((0:Int) ≤ (3:Int) ∧ (3:Int) < (↑(6:Nat):Int)) ∧ isI64 (4:Int) ∧ ((0:Int) ≤
 (4:Int) ∧ (4:Int) < (↑(6:Nat):Int)) ∧ isI64 (5:Int) ∧ ((0:Int) ≤ (5:Int) ∧ (5:Int) < (↑(6:Nat):Int)) ∧ isI64 (6:Int) ∧ roomP HC0 (107:Nat) (1:Nat) ∧ ((0
 : Int) ≤ (6:Int) ∧ (6:Int) < (↑(28:Nat):Int)) ∧ isI64 (7:Int) ∧ ((0:Int) ≤ (7:Int) ∧ (7:Int) < (↑(28:Nat):Int)) ∧ ((0:Int) ≤ (6:Int) ∧ (6:Int) ≤ (7 :
 Int) ∧ (7:Int) ≤ (28:Int)) ∧ ((0:Int) ≤ (7:Int) ∧ (7:Int) < (↑(28:Nat):Int)) ∧ ((0:Int) ≤ (0:Int) ∧ (0:Int) < (4:Int)) ∧ ((0:Int) ≤ (7:Int) ∧ (7:Int)
 < (↑(28:Nat):Int)) ∧ isI64 (1:Int) ∧ ((0:Int) ≤ (1:Int) ∧ (1:Int) < (4:Int)) ∧ ((0:Int) ≤ (7:Int) ∧ (7:Int) < (↑(28:Nat):Int)) ∧ isI64 (2:Int) ∧ ((0 :
 Int) ≤ (2:Int) ∧ (2:Int) < (4:Int)) ∧ ((0:Int) ≤ (7:Int) ∧ (7:Int) < (↑(28:Nat):Int)) ∧ isI64 (3:Int) ∧ ((0:Int) ≤ (3:Int) ∧ (3:Int) < (4:Int)) ∧ ((0 :
 Int) ≤ (7:Int) ∧ (7:Int) < (↑(28:Nat):Int)) ∧ isI64 (9:Int) ∧ ((0:Int) ≤ (7:Int) ∧ (7:Int) ≤ (9:Int) ∧ (9:Int) ≤ (28:Int)) ∧ (bytesOf { data:=#[(61 :
 UInt8),(61:UInt8),(32:UInt8),(33:UInt8),(61:UInt8),(32:UInt8),(60:UInt8),(61:UInt8),(32:UInt8),(62:UInt8),(61:UInt8),(32:UInt8),(46:UInt8),
 (46:UInt8)] } = rsvL ∨ bytesOf { data:=#[(61:UInt8),(61:UInt8),(32:UInt8),(33:UInt8),(61:UInt8),(32:UInt8),(60:UInt8),(61:UInt8),(32:UInt8),(62 :
 UInt8),(61:UInt8),(32:UInt8),(46:UInt8),(46:UInt8)] } = lngL) ∧ ((0:Int) ≤ (0:Int) ∧ (0:Int) < (↑(5:Nat):Int)) ∧ isI64 (1:Int) ∧ ((0:Int) ≤ (1:Int) ∧
 (1:Int) < (↑(5:Nat):Int)) ∧ isI64 (9:Int) ∧ ((0:Int) ≤ (7:Int) ∧ (7:Int) ≤ (9:Int) ∧ (9:Int) ≤ (28:Int)) ∧ isI64 (9:Int) ∧ roomP HC0 (107:Nat) (2:Nat) ∧
 ((0:Int) ≤ (9:Int) ∧ (9:Int) < (↑(28:Nat):Int)) ∧ isI64 (10:Int) ∧ ((0:Int) ≤ (10:Int) ∧ (10:Int) < (↑(28:Nat):Int)) ∧ ((0:Int) ≤ (9:Int) ∧ (9:Int) ≤
 (10:Int) ∧ (10:Int) ≤ (28:Int)) ∧ ((0:Int) ≤ (10:Int) ∧ (10:Int) < (↑(28:Nat):Int)) ∧ ((0:Int) ≤ (0:Int) ∧ (0:Int) < (4:Int)) ∧ ((0:Int) ≤ (10:Int) ∧
 (10:Int) < (↑(28:Nat):Int)) ∧ ((0:Int) ≤ (10:Int) ∧ (10:Int) < (↑(28:Nat):Int)) ∧ isI64 (11:Int) ∧ ((0:Int) ≤ (11:Int) ∧ (11:Int) < (↑(28:Nat):Int)) ∧
 isI64 (12:Int) ∧ ((0:Int) ≤ (12:Int) ∧ (12:Int) < (↑(28:Nat):Int)) ∧ isI64 (13:Int) ∧ ((0:Int) ≤ (13:Int) ∧ (13:Int) < (↑(28:Nat):Int)) ∧ ((0:Int) ≤ (10
 : Int) ∧ (10:Int) ≤ (13:Int) ∧ (13:Int) ≤ (28:Int)) ∧ (bytesOf { data:=#[(97:UInt8),(108:UInt8),(108:UInt8),(32:UInt8),(97:UInt8),(110:UInt8),(100 :
 UInt8),(32:UInt8),(104:UInt8),(97:UInt8),(115:UInt8),(32:UInt8),(105:UInt8),(110:UInt8),(32:UInt8),(110:UInt8),(111:UInt8),(116:UInt8),(32 :
 UInt8),(111:UInt8),(114:UInt8)] } = rsvL ∨ bytesOf { data:=#[(97:UInt8),(108:UInt8),(108:UInt8),(32:UInt8),(97:UInt8),(110:UInt8),(100:UInt8),(32 :
 UInt8),(104:UInt8),(97:UInt8),(115:UInt8),(32:UInt8),(105:UInt8),(110:UInt8),(32:UInt8),(110:UInt8),(111:UInt8),(116:UInt8),(32:UInt8),(111 :
 UInt8),(114:UInt8)] } = lngL) ∧ ((0:Int) ≤ (0:Int) ∧ (0:Int) < (↑(6:Nat):Int)) ∧ isI64 (1:Int) ∧ ((0:Int) ≤ (1:Int) ∧ (1:Int) < (↑(6:Nat):Int)) ∧ isI64
 (2:Int) ∧ ((0:Int) ≤ (2:Int) ∧ (2:Int) < (↑(6:Nat):Int)) ∧ isI64 (3:Int) ∧ ((0:Int) ≤ (3:Int) ∧ (3:Int) < (↑(6:Nat):Int)) ∧ isI64 (4:Int) ∧ ((0:Int) ≤
 (4:Int) ∧ (4:Int) < (↑(6:Nat):Int)) ∧ isI64 (5:Int) ∧ ((0:Int) ≤ (5:Int) ∧ (5:Int) < (↑(6:Nat):Int)) ∧ isI64 (6:Int) ∧ roomP HC0 (107:Nat) (3:Nat) ∧ ((0
 : Int) ≤ (13:Int) ∧ (13:Int) < (↑(28:Nat):Int)) ∧ isI64 (14:Int) ∧ ((0:Int) ≤ (14:Int) ∧ (14:Int) < (↑(28:Nat):Int)) ∧ ((0:Int) ≤ (13:Int) ∧ (13:Int) ≤
 (14:Int) ∧ (14:Int) ≤ (28:Int)) ∧ ((0:Int) ≤ (14:Int) ∧ (14:Int) < (↑(28:Nat):Int)) ∧ ((0:Int) ≤ (0:Int) ∧ (0:Int) < (4:Int)) ∧ ((0:Int) ≤ (14:Int) ∧
 (14:Int) < (↑(28:Nat):Int)) ∧ ((0:Int) ≤ (14:Int) ∧ (14:Int) < (↑(28:Nat):Int)) ∧ isI64 (15:Int) ∧ ((0:Int) ≤ (15:Int) ∧ (15:Int) < (↑(28:Nat):Int)) ∧
 isI64 (16:Int) ∧ ((0:Int) ≤ (16:Int) ∧ (16:Int) < (↑(28:Nat):Int)) ∧ isI64 (17:Int) ∧ ((0:Int) ≤ (17:Int) ∧ (17:Int) < (↑(28:Nat):Int)) ∧ ((0:Int) ≤ (14
 : Int) ∧ (14:Int) ≤ (17:Int) ∧ (17:Int) ≤ (28:Int)) ∧ (bytesOf { data:=#[(97:UInt8),(108:UInt8),(108:UInt8),(32:UInt8),(97:UInt8),(110:UInt8),(100 :
 UInt8),(32:UInt8),(104:UInt8),(97:UInt8),(115:UInt8),(32:UInt8),(105:UInt8),(110:UInt8),(32:UInt8),(110:UInt8),(111:UInt8),(116:UInt8),(32 :
 UInt8),(111:UInt8),(114:UInt8)] } = rsvL ∨ bytesOf { data:=#[(97:UInt8),(108:UInt8),(108:UInt8),(32:UInt8),(97:UInt8),(110:UInt8),(100:UInt8),(32 :
 UInt8),(104:UInt8),(97:UInt8),(115:UInt8),(32:UInt8),(105:UInt8),(110:UInt8),(32:UInt8),(110:UInt8),(111:UInt8),(116:UInt8),(32:UInt8),(111 :
 UInt8),(114:UInt8)] } = lngL) ∧ ((0:Int) ≤ (0:Int) ∧ (0:Int) < (↑(6:Nat):Int)) ∧ isI64 (1:Int) ∧ ((0:Int) ≤ (1:Int) ∧ (1:Int) < (↑(6:Nat):Int)) ∧ roomP
 HC0 (107:Nat) (4:Nat) ∧ ((0:Int) ≤ (17:Int) ∧ (17:Int) < (↑(28:Nat):Int)) ∧ isI64 (18:Int) ∧ ((0:Int) ≤ (18:Int) ∧ (18:Int) < (↑(28:Nat):Int)) ∧ ((0 :
 Int) ≤ (17:Int) ∧ (17:Int) ≤ (18:Int) ∧ (18:Int) ≤ (28:Int)) ∧ ((0:Int) ≤ (18:Int) ∧ (18:Int) < (↑(28:Nat):Int)) ∧ ((0:Int) ≤ (0:Int) ∧ (0:Int) < (4 :
 Int)) ∧ ((0:Int) ≤ (18:Int) ∧ (18:Int) < (↑(28:Nat):Int)) ∧ ((0:Int) ≤ (18:Int) ∧ (18:Int) < (↑(28:Nat):Int)) ∧ isI64 (19:Int) ∧ ((0:Int) ≤ (19:Int) ∧
 (19:Int) < (↑(28:Nat):Int)) ∧ isI64 (20:Int) ∧ ((0:Int) ≤ (20:Int) ∧ (20:Int) < (↑(28:Nat):Int)) ∧ isI64 (21:Int) ∧ ((0:Int) ≤ (21:Int) ∧ (21:Int) <
 (↑(28:Nat):Int)) ∧ isI64 (22:Int) ∧ ((0:Int) ≤ (22:Int) ∧ (22:Int) < (↑(28:Nat):Int)) ∧ isI64 (23:Int) ∧ ((0:Int) ≤ (23:Int) ∧ (23:Int) < (↑(28:Nat) :
 Int)) ∧ isI64 (24:Int) ∧ ((0:Int) ≤ (24:Int) ∧ (24:Int) < (↑(28:Nat):Int)) ∧ ((0:Int) ≤ (18:Int) ∧ (18:Int) ≤ (24:Int) ∧ (24:Int) ≤ (28:Int)) ∧ (bytesOf {
 data:=#[(97:UInt8),(108:UInt8),(108:UInt8),(32:UInt8),(97:UInt8),(110:UInt8),(100:UInt8),(32:UInt8),(104:UInt8),(97:UInt8),(115:UInt8),(32 :
 UInt8),(105:UInt8),(110:UInt8),(32:UInt8),(110:UInt8),(111:UInt8),(116:UInt8),(32:UInt8),(111:UInt8),(114:UInt8)] } = rsvL ∨ bytesOf { data:=#[(97 :
 UInt8),(108:UInt8),(108:UInt8),(32:UInt8),(97:UInt8),(110:UInt8),(100:UInt8),(32:UInt8),(104:UInt8),(97:UInt8),(115:UInt8),(32:UInt8),(105 :
 UInt8),(110:UInt8),(32:UInt8),(110:UInt8),(111:UInt8),(116:UInt8),(32:UInt8),(111:UInt8),(114:UInt8)] } = lngL) ∧ ((0:Int) ≤ (0:Int) ∧ (0:Int) <
 (↑(6:Nat):Int)) ∧ isI64 (1:Int) ∧ ((0:Int) ≤ (1:Int) ∧ (1:Int) < (↑(6:Nat):Int)) ∧ isI64 (2:Int) ∧ ((0:Int) ≤ (2:Int) ∧ (2:Int) < (↑(6:Nat):Int)) ∧
 isI64 (3:Int) ∧ ((0:Int) ≤ (3:Int) ∧ (3:Int) < (↑(6:Nat):Int)) ∧ isI64 (4:Int) ∧ ((0:Int) ≤ (4:Int) ∧ (4:Int) < (↑(6:Nat):Int)) ∧ isI64 (5:Int) ∧ ((0 :
 Int) ≤ (5:Int) ∧ (5:Int) < (↑(6:Nat):Int)) ∧ isI64 (6:Int) ∧ roomP HC0 (107:Nat) (5:Nat) ∧ ((0:Int) ≤ (24:Int) ∧ (24:Int) < (↑(28:Nat):Int)) ∧ isI64 (25 :
 Int) ∧ ((0:Int) ≤ (25:Int) ∧ (25:Int) < (↑(28:Nat):Int)) ∧ ((0:Int) ≤ (24:Int) ∧ (24:Int) ≤ (25:Int) ∧ (25:Int) ≤ (28:Int)) ∧ ((0:Int) ≤ (25:Int) ∧ (25
 : Int) < (↑(28:Nat):Int)) ∧ ((0:Int) ≤ (0:Int) ∧ (0:Int) < (4:Int)) ∧ ((0:Int) ≤ (25:Int) ∧ (25:Int) < (↑(28:Nat):Int)) ∧ isI64 (1:Int) ∧ ((0:Int) ≤ (1
 : Int) ∧ (1:Int) < (4:Int)) ∧ ((0:Int) ≤ (25:Int) ∧ (25:Int) < (↑(28:Nat):Int)) ∧ isI64 (2:Int) ∧ ((0:Int) ≤ (2:Int) ∧ (2:Int) < (4:Int)) ∧ ((0:Int) ≤
 (25:Int) ∧ (25:Int) < (↑(28:Nat):Int)) ∧ isI64 (3:Int) ∧ ((0:Int) ≤ (3:Int) ∧ (3:Int) < (4:Int)) ∧ ((0:Int) ≤ (25:Int) ∧ (25:Int) < (↑(28:Nat):Int)) ∧
 isI64 (27:Int) ∧ ((0:Int) ≤ (25:Int) ∧ (25:Int) ≤ (27:Int) ∧ (27:Int) ≤ (28:Int)) ∧ (bytesOf { data:=#[(61:UInt8),(61:UInt8),(32:UInt8),(33:UInt8),(61
 : UInt8),(32:UInt8),(60:UInt8),(61:UInt8),(32:UInt8),(62:UInt8),(61:UInt8),(32:UInt8),(46:UInt8),(46:UInt8)] } = rsvL ∨ bytesOf { data:=#[(61 :
 UInt8),(61:UInt8),(32:UInt8),(33:UInt8),(61:UInt8),(32:UInt8),(60:UInt8),(61:UInt8),(32:UInt8),(62:UInt8),(61:UInt8),(32:UInt8),(46:UInt8),
 (46:UInt8)] } = lngL) ∧ ((0:Int) ≤ (0:Int) ∧ (0:Int) < (↑(5:Nat):Int)) ∧ isI64 (1:Int) ∧ ((0:Int) ≤ (1:Int) ∧ (1:Int) < (↑(5:Nat):Int)) ∧ isI64 (2:Int)
 ∧ ((0:Int) ≤ (2:Int) ∧ (2:Int) < (↑(5:Nat):Int)) ∧ isI64 (3:Int) ∧ ((0:Int) ≤ (3:Int) ∧ (3:Int) < (↑(5:Nat):Int)) ∧ isI64 (4:Int) ∧ ((0:Int) ≤ (4:Int)
 ∧ (4:Int) < (↑(5:Nat):Int)) ∧ isI64 (5:Int) ∧ isI64 (26:Int) ∧ ((0:Int) ≤ (25:Int) ∧ (25:Int) ≤ (26:Int) ∧ (26:Int) ≤ (28:Int)) ∧ ((0:Int) ≤ (0:Int) ∧
 (0:Int) < (↑(1:Nat):Int)) ∧ (bytesOf { data:=#[(123:UInt8),(125:UInt8),(40:UInt8),(41:UInt8),(91:UInt8),(93:UInt8),(44:UInt8),(59:UInt8),(58 :
 UInt8),(61:UInt8),(60:UInt8),(62:UInt8),(43:UInt8),(45:UInt8),(42:UInt8),(47:UInt8),(37:UInt8)] },(60:Int)) = (shtL,(60:Int)) ∧ isI64 (26:Int) ∧
 roomP HC0 (107:Nat) (6:Nat) ∧ ((0:Int) ≤ (26:Int) ∧ (26:Int) < (↑(28:Nat):Int)) ∧ isI64 (27:Int) ∧ ((0:Int) ≤ (27:Int) ∧ (27:Int) < (↑(28:Nat):Int)) ∧
 ((0:Int) ≤ (26:Int) ∧ (26:Int) ≤ (27:Int) ∧ (27:Int) ≤ (28:Int)) ∧ ((0:Int) ≤ (27:Int) ∧ (27:Int) < (↑(28:Nat):Int)) ∧ ((0:Int) ≤ (0:Int) ∧ (0:Int) <
 (4:Int)) ∧ ((0:Int) ≤ (27:Int) ∧ (27:Int) < (↑(28:Nat):Int)) ∧ isI64 (1:Int) ∧ ((0:Int) ≤ (1:Int) ∧ (1:Int) < (4:Int)) ∧ ((0:Int) ≤ (27:Int) ∧ (27 :
 Int) < (↑(28:Nat):Int)) ∧ ((0:Int) ≤ (27:Int) ∧ (27:Int) < (↑(28:Nat):Int)) ∧ isI64 (28:Int) ∧ ((0:Int) ≤ (27:Int) ∧ (27:Int) ≤ (28:Int) ∧ (28:Int) ≤
 (28:Int)) ∧ ((0:Int) ≤ (0:Int) ∧ (0:Int) < (↑(1:Nat):Int)) ∧ roomP HC0 (107:Nat) (7:Nat) ∧ ((0:Int) ≤ (28:Int) ∧ (28:Int) ≤ (28:Int) ∧ (28:Int) ≤ (28 :
 Int)) ∧ ([((1:Int),(0:Int),List.take (6:Nat) (List.drop (0:Nat) txtL),())] ++ [((5:Int),(7:Int),List.take (2:Nat) (List.drop (7:Nat) txtL),())] ++ [((1 :
 Int),(10:Int),List.take (3:Nat) (List.drop (10:Nat) txtL),())] ++ [((2:Int),(14:Int),List.take (3:Nat) (List.drop (14:Nat) txtL),())] ++ [((1:Int),(18 :
 Int),List.take (6:Nat) (List.drop (18:Nat) txtL),())] ++ [((5:Int),(25:Int),List.take (1:Nat) (List.drop (25:Nat) txtL),())] ++ [((3:Int),(27:Int),
 List.take (1:Nat) (List.drop (27:Nat) txtL),())],(0:Int),(0:Int),()) = (tokA,(0:Int),(0:Int),())):=by kernel_rfl
end Go.Proofs.YtbjjaaimhleedaaGreatDoor
namespace Go.PL
open Go.AM
theorem fndN_lt (n:List Int):∀ (l:List Df) (k:Int),fndN l n k = -1 ∨ (k ≤ fndN l n k ∧ fndN l n k < k + l.length)
 | [],k=>.inl rfl
 | d :: l,k=>by
  unfold fndN
  have:=fndN_lt n l (k + 1)
  simp only [List.length_cons]
  split <;> omega
theorem fndN_drop {l:List Df} {x:Int} (h0:0 ≤ x) (h:x < l.length) (n:List Int):fndN (l.drop x.toNat) n x = if (l.getD x.toNat ([],0,0,0,[],())).1 = n then x else fndN (l.drop (x + 1).toNat) n (x + 1):=by
 have hlt:x.toNat < l.length:=by omega
 rw [List.drop_eq_getElem_cons hlt,show (x + 1).toNat = x.toNat + 1 by omega,List.getD_eq_getElem?_getD,List.getElem?_eq_getElem hlt]
 rfl
theorem fndN_end {l:List Df} {x:Int} (h:¬ x < l.length) (n:List Int):fndN (l.drop x.toNat) n x = -1:=by
 rw [List.drop_of_length_le (by omega)]
 rfl
theorem fitsL_drop (ds:List Df) {l:List At} {x:Int} (h0:0 ≤ x) (h:x < l.length) (b:List Int):fitsL ds (l.drop x.toNat) b =
 if fndN ds (l.getD x.toNat ([],0,0,[],())).1 0 < 0 then 5 else if leS (l.getD x.toNat ([],0,0,[],())).1 b = true then 6 else
 if valS (ds.getD (fndN ds (l.getD x.toNat ([],0,0,[],())).1 0).toNat ([],0,0,0,[],())) (l.getD x.toNat ([],0,0,[],())) ≠ 0 then valS (ds.getD (fndN ds (l.getD x.toNat ([],0,0,[],())).1 0).toNat ([],0,0,0,[],())) (l.getD x.toNat ([],0,0,[],())) else
 fitsL ds (l.drop (x + 1).toNat) (l.getD x.toNat ([],0,0,[],())).1:=by
 have hlt:x.toNat < l.length:=by omega
 rw [List.drop_eq_getElem_cons hlt,show (x + 1).toNat = x.toNat + 1 by omega,List.getD_eq_getElem?_getD,List.getElem?_eq_getElem hlt]
 rfl
theorem fitsL_end (ds:List Df) {l:List At} {x:Int} (h:¬ x < l.length) (b:List Int):fitsL ds (l.drop x.toNat) b = 0:=by
 rw [List.drop_of_length_le (by omega)]
 rfl
theorem fndN_ne {ds:List Df} (hd:∀ d ∈ ds,d.1 ≠ []):∀ k,0 ≤ k → fndN ds [] k = -1:=by
 induction ds with
 | nil=>intro k _; rfl
 | cons d l ih =>
  intro k hk
  unfold fndN
  rw [if_neg (hd d (List.mem_cons_self ..))]
  exact ih (fun x hx=>hd x (List.mem_cons_of_mem _ hx)) (k + 1) (by omega)
theorem leS_nil {a:List Int} (h:a ≠ []):leS a [] = false:=by
 cases a with
 | nil=>exact absurd rfl h
 | cons x l=>rfl
end Go.PL
namespace Go.Proofs.YtbjjaaimhleedaaGreatDoor
open Go.AM Go.PL
attribute [local irreducible] fnwp
theorem AP0_sound:jQe AP0:=jQi ⟨sat_has,sat_rHas,trivial⟩ trivial
theorem sat_find:Sat bs.P 15 findSp:=jQn AP0_sound 6 _ findSp fun (⟨⟨d,m,l,⟨⟩⟩,s⟩:Sc × List Int) hok _=>by
 rw [find_nf]
 have hm:l.length ≤ 9223372036854775807:=hok.1.2.2.1.1
 refine ⟨fun x=>0 ≤ x ∧ x ≤ l.length ∧ fndN (l.drop x.toNat) s x = fndN l s 0,fun x=>(l.length - x).toNat,⟨by omega,by omega,rfl⟩,?_⟩
 rintro x ⟨h0,h1,h2⟩
 refine ⟨fun h=>?_,fun h=>?_⟩
 ·have h:=dt h
  rw [fndN_drop h0 h] at h2
  refine ⟨⟨h0,h⟩,fun hd=>?_,fun hd=>⟨jZk h0 h hm,⟨by omega,by omega,?_⟩,by dsimp only; omega⟩⟩
  ·rw [if_pos (dt hd)] at h2
   exact h2
  ·rw [if_neg (df hd)] at h2
   exact h2
 ·rw [fndN_end (df h)] at h2
  exact h2
theorem sat_val:Sat bs.P 16 valSp:=jQn AP0_sound 6 _ valSp fun (⟨⟨n,k,lo,hi,w,⟨⟩⟩,⟨an,ak,av,sv,⟨⟩⟩⟩:Df × At) hok _=>by
 rw [val_nf]
 simp only [valS]
 repeat' (first | apply And.intro | (intro hh; first | (replace hh:=dt hh) | (replace hh:=df hh) | (replace hh:=ndt hh) | (replace hh:=ndf hh)) | intro hh)
 all_goals simp_all [bytesOf]
 all_goals (repeat' split) <;> first | omega | rfl | simp_all
theorem AP1_sound:jQe AP1:=jQi ⟨sat_find,sat_val,sat_has,sat_rHas,trivial⟩ trivial
theorem sat_rFits:Sat bs.P 6 fitsSp:=jQn AP1_sound 6 _ fitsSp fun (⟨⟨d,m,ds,⟨⟩⟩,l⟩:Sc × List At) hok hp=>by
 rw [rFits_nf]
 have hm:l.length ≤ 9223372036854775807:=hok.2.1
 have hp:∀ d ∈ ds,d.1 ≠ []:=hp
 refine ⟨fun x=>0 ≤ x ∧ x ≤ l.length ∧ fitsL ds (l.drop x.toNat) (if x = 0 then [] else (l.getD (x - 1).toNat ([],0,0,[],())).1) = fitsS (d,m,ds,()) l,fun x=>(l.length - x).toNat,⟨by omega,by omega,rfl⟩,?_⟩
 rintro x ⟨h0,h1,h2⟩
 refine ⟨fun h=>?_,fun h=>?_⟩
 ·have h:=dt h
  rw [fitsL_drop ds h0 h] at h2
  refine ⟨⟨h0,h⟩,trivial,fun hd=>?_,fun hd=>?_⟩
  ·rw [if_pos (dt hd)] at h2
   exact h2
  have hd:=df hd
  rw [if_neg hd] at h2
  have hr:=fndN_lt (l.getD x.toNat ([],0,0,[],())).1 ds 0
  have hfr:0 ≤ fndN ds (l.getD x.toNat ([],0,0,[],())).1 0 ∧ fndN ds (l.getD x.toNat ([],0,0,[],())).1 0 < (ds.length:Int):=by omega
  have hx1:¬ x + 1 = 0:=by omega
  have last:leS (l.getD x.toNat ([],0,0,[],())).1 (if x = 0 then [] else (l.getD (x - 1).toNat ([],0,0,[],())).1) = false →
   (((!decide (valS (ds.getD (fndN ds (l.getD x.toNat ([],0,0,[],())).1 0).toNat ([],0,0,0,[],())) (l.getD x.toNat ([],0,0,[],())) = 0)) = true →
     valS (ds.getD (fndN ds (l.getD x.toNat ([],0,0,[],())).1 0).toNat ([],0,0,0,[],())) (l.getD x.toNat ([],0,0,[],())) = fitsS (d,m,ds,()) l) ∧
   ((!decide (valS (ds.getD (fndN ds (l.getD x.toNat ([],0,0,[],())).1 0).toNat ([],0,0,0,[],())) (l.getD x.toNat ([],0,0,[],())) = 0)) = false →
     isI64 (x + 1) ∧ (0 ≤ x + 1 ∧ x + 1 ≤ l.length ∧ fitsL ds (l.drop (x + 1).toNat) (if x + 1 = 0 then [] else (l.getD (x + 1 - 1).toNat ([],0,0,[],())).1) = fitsS (d,m,ds,()) l) ∧ ((l.length:Int) - (x + 1)).toNat < ((l.length:Int) - x).toNat)):=fun hle=>by
   rw [hle,if_neg (by decide)] at h2
   refine ⟨fun hv=>?_,fun hv=>⟨jZk h0 h hm,⟨by omega,by omega,?_⟩,by omega⟩⟩
   ·rw [if_pos (ndt hv)] at h2
    exact h2
   ·rw [if_neg (fun g=>g (ndf hv))] at h2
    rw [if_neg hx1,show x + 1 - 1 = x by omega]
    exact h2
  refine ⟨fun hx=>?_,fun hx=>?_⟩
  ·have hx:=dt hx
   rw [if_neg (by omega:¬ x = 0)] at h2 last
   refine ⟨⟨h0,h⟩,by unfold isI64; omega,⟨by omega,by omega⟩,fun hle=>?_,fun hle=>⟨hfr,⟨h0,h⟩,trivial,last hle⟩⟩
   have hle:leS (l.getD x.toNat ([],0,0,[],())).1 (l.getD (x - 1).toNat ([],0,0,[],())).1 = true:=hle
   rw [if_pos hle] at h2
   exact h2
  ·have hx:=df hx
   have hx0:x = 0:=by omega
   refine ⟨hfr,⟨h0,h⟩,trivial,last ?_⟩
   rw [if_pos hx0]
   apply leS_nil
   intro he
   rw [he,fndN_ne hp 0 (by omega)] at hd
   exact hd (by decide)
 ·rw [fitsL_end ds (df h)] at h2
  exact h2
end Go.Proofs.YtbjjaaimhleedaaGreatDoor
namespace Go.PL
open Go.AM
def shortD (d:Df):Bool:=decide (d.2.2.2.2.1.length ≤ 60) && (decide (d.1.length ≤ 100) && d.2.2.2.2.1.all fun w=>decide (w.length ≤ 100))
def fewDB (s:Sc) (most:Int):Bool:=decide ((s.2.2.1.length:Int) ≤ most) && s.2.2.1.all shortD
end Go.PL
namespace Go.Proofs.YtbjjaaimhleedaaGreatDoor
open Go.AM Go.PL
def fewDSp:FSpec:=⟨[SC,I],[.bool],fun _=>True,fun x=>fewDB x.1 x.2⟩
def loopsBl (f:FuncId) (r:Nat):List LA :=
 if Nat.beq f 11 then (bif Nat.beq r 2 then [.slot 5 I] else [.slot 5 I,.slot 7 I,.cell 0 4 SS]) else []
def hintBl (f:FuncId):Hint:=if Nat.beq f 999999995 then ⟨fun _=>[],fun _=>.split,fun _=>.split,datN⟩ else ⟨loopsBl f,fun _=>.split,fun _=>.split,fun _=>0⟩
noncomputable def BL0:Ctx:=mkctx bs [] [] hintBl
theorem fewD_nf (d m:Int) (l:List Df) (most:Int):fnwp BL0 6 11 fewDSp ((d,m,l,()),most) = (∃ (I:Int → Prop),∃ (μ:Int → Nat),I (0:Int) ∧ ∀ (x:Int),I x →
 (decide (x < (↑l.length:Int)) = true → (decide (x ≤ most) = true → ((0:Int) ≤ x ∧ x < (↑l.length:Int)) ∧ (decide ((60:Int) < (↑(l.getD x.toNat ([],(0:Int),(0:Int),
 (0:Int),[],())).snd.snd.snd.snd.fst.length:Int)) = true → false = fewDB (d,m,l,()) most) ∧ (decide ((60:Int) < (↑(l.getD x.toNat ([],(0:Int),(0:Int),(0:Int),
 [],())).snd.snd.snd.snd.fst.length:Int)) = false → (decide ((100:Int) < (↑(l.getD x.toNat ([],(0:Int),(0:Int),(0:Int),[],())).fst.length:Int)) = true → false =
 fewDB (d,m,l,()) most) ∧ (decide ((100:Int) < (↑(l.getD x.toNat ([],(0:Int),(0:Int),(0:Int),[],())).fst.length:Int)) = false → ∃ (I_1:Int × Int × List (List
 Int) → Prop),∃ (μ_1:Int × Int × List (List Int) → Nat),I_1 (x,(0:Int),(l.getD x.toNat ([],(0:Int),(0:Int),(0:Int),[],())).snd.snd.snd.snd.fst) ∧ ∀ (x_1:Int ×
 Int × List (List Int)),I_1 x_1 → (decide (x_1.snd.fst < (↑x_1.snd.snd.length:Int)) = true → ((0:Int) ≤ x_1.snd.fst ∧ x_1.snd.fst < (↑x_1.snd.snd.length:Int)) ∧ (decide
 ((100:Int) < (↑(x_1.snd.snd.getD x_1.snd.fst.toNat []).length:Int)) = true → false = fewDB (d,m,l,()) most) ∧ (decide ((100:Int) < (↑(x_1.snd.snd.getD x_1.snd.fst.toNat
 []).length:Int)) = false → isI64 (x_1.snd.fst + (1:Int)) ∧ I_1 (x_1.fst,x_1.snd.fst + (1:Int),x_1.snd.snd) ∧ μ_1 (x_1.fst,x_1.snd.fst + (1:Int),x_1.snd.snd) < μ_1
 x_1)) ∧ (decide (x_1.snd.fst < (↑x_1.snd.snd.length:Int)) = false → isI64 (x_1.fst + (1:Int)) ∧ I (x_1.fst + (1:Int)) ∧ μ (x_1.fst + (1:Int)) < μ x)))) ∧ (decide (x ≤
 most) = false → decide ((↑l.length:Int) ≤ most) = fewDB (d,m,l,()) most)) ∧ (decide (x < (↑l.length:Int)) = false → decide ((↑l.length:Int) ≤ most) = fewDB (d,m,l,())
 most)):=by kernel_rfl
end Go.Proofs.YtbjjaaimhleedaaGreatDoor
namespace Go.PL
open Go.AM
theorem fewDB_iff {d m:Int} {l:List Df} {most:Int}:fewDB (d,m,l,()) most = true ↔ (l.length:Int) ≤ most ∧ ∀ j:Nat,(j:Int) < l.length → shortD (l.getD j ([],0,0,0,[],())) = true:=by
 unfold fewDB
 simp only [Bool.and_eq_true,decide_eq_true_eq,List.all_eq_true]
 refine ⟨fun ⟨a,c⟩=>⟨a,fun j hj=>c _ (jQ9 (by omega))⟩,fun ⟨a,c⟩=>⟨a,fun x hx=>?_⟩⟩
 obtain ⟨j,hj,rfl⟩:=jKe ([],0,0,0,[],()) hx
 exact c j (by omega)
theorem shortD_iff {d:Df}:shortD d = true ↔ d.2.2.2.2.1.length ≤ 60 ∧ d.1.length ≤ 100 ∧ ∀ j:Nat,(j:Int) < d.2.2.2.2.1.length → (d.2.2.2.2.1.getD j []).length ≤ 100:=by
 unfold shortD
 simp only [Bool.and_eq_true,decide_eq_true_eq,List.all_eq_true]
 refine ⟨fun ⟨a,b,c⟩=>⟨a,b,fun j hj=>c _ (jQ9 (by omega))⟩,fun ⟨a,b,c⟩=>⟨a,b,fun x hx=>?_⟩⟩
 obtain ⟨j,hj,rfl⟩:=jKe [] hx
 exact c j (by omega)
end Go.PL
namespace Go.Proofs.YtbjjaaimhleedaaGreatDoor
open Go.AM Go.PL
attribute [local irreducible] fnwp
theorem BL0_sound:jQe BL0:=jQi trivial trivial
theorem sat_fewD:Sat bs.P 11 fewDSp:=jQn BL0_sound 6 _ fewDSp fun (⟨⟨d,m,l,⟨⟩⟩,most⟩:Sc × Int) hok hp=>by
 rw [fewD_nf]
 have hm:l.length ≤ 9223372036854775807:=hok.1.2.2.1.1
 refine ⟨fun x=>0 ≤ x ∧ x ≤ l.length ∧ ∀ j:Nat,(j:Int) < x → shortD (l.getD j ([],0,0,0,[],())) = true,fun x=>(l.length - x).toNat,⟨by omega,by omega,fun j hj=>by omega⟩,?_⟩
 rintro x ⟨h0,h1,h2⟩
 refine ⟨fun h=>⟨fun c=>?_,fun c=>?_⟩,fun h=>?_⟩
 ·have h:=dt h
  obtain ⟨q,hq⟩:∃ q,q = l.getD x.toNat ([],0,0,0,[],()):=⟨_,rfl⟩
  have hno:shortD q = false → false = fewDB (d,m,l,()) most:=fun g=>is_no fun k=>by
   have:=(fewDB_iff.1 k).2 x.toNat (by omega)
   rw [← hq,g] at this
   cases this
  rw [← hq]
  refine ⟨⟨h0,h⟩,fun c1=>hno (eq_no fun k=>?_),fun c1=>⟨fun c2=>hno (eq_no fun k=>?_),fun c2=>⟨fun y=>y.1 = x ∧ y.2.2 = q.2.2.2.2.1 ∧ 0 ≤ y.2.1 ∧ y.2.1 ≤ q.2.2.2.2.1.length ∧ ∀ j:Nat,(j:Int) < y.2.1 → (q.2.2.2.2.1.getD j []).length ≤ 100,fun y=>(q.2.2.2.2.1.length - y.2.1).toNat,⟨rfl,rfl,by dsimp only; omega,by dsimp only; omega,fun j hj=>by dsimp only at hj; omega⟩,?_⟩⟩⟩
  ·have:=(shortD_iff.1 k).1
   have:=dt c1
   omega
  ·have:=(shortD_iff.1 k).2.1
   have:=dt c2
   omega
  ·have c1:=df c1
   have c2:=df c2
   rintro ⟨x',k,w⟩ ⟨e1,e2,k0,k1,k2⟩
   dsimp only at e1 e2 k0 k1 k2 ⊢
   subst e1 e2
   refine ⟨fun hk=>?_,fun hk=>⟨jZk h0 h hm,⟨by omega,by omega,jZp h0 h2 ?_⟩,by omega⟩⟩
   ·have hk:=dt hk
    refine ⟨⟨k0,hk⟩,fun c3=>hno (eq_no fun g=>?_),fun c3=>⟨by unfold isI64; omega,⟨rfl,rfl,by omega,by omega,jZp k0 k2 ?_⟩,by omega⟩⟩
    ·have:=(shortD_iff.1 g).2.2 k.toNat (by omega)
     have:=dt c3
     omega
    ·have:=df c3
     omega
   ·rw [← hq]
    exact shortD_iff.2 ⟨by omega,by omega,fun j hj=>k2 j (by have:=df hk; omega)⟩
 ·have h:=dt h
  have c:=df c
  rw [decide_eq_false (by omega)]
  exact is_no fun g=>by have:=(fewDB_iff.1 g).1; omega
 ·have h:=df h
  refine bool_is ?_
  rw [decide_eq_true_eq,fewDB_iff]
  exact ⟨fun g=>⟨g,fun j hj=>h2 j (by omega)⟩,fun g=>g.1⟩
end Go.Proofs.YtbjjaaimhleedaaGreatDoor
namespace Go.PL
open Go.AM
abbrev Lx:=Int × Int × List Int × Unit
abbrev G14:=Lx × Int × Int × Unit
abbrev Rd:=List Lx × (Int × Int × Unit) × Unit
def badT:G14:=((0,0,[],()),0,142,())
def finT (a:Int) (out:List Int) (i:Int):G14:=if 200 < out.length then badT else ((4,a,out,()),i + 1,0,())
def txt (a:Int):List Int → List Int → Int → G14
 | [],_,_=>badT
 | [c],out,i=>if c = 34 then finT a out i else badT
 | c :: d :: m,out,i=>if c = 34 then finT a out i else if c < 32 ∨ 126 < c then badT else
  if c = 92 then (if d ≠ 34 ∧ d ≠ 92 then badT else txt a m (out ++ [d]) (i + 2)) else txt a (d :: m) (out ++ [c]) (i + 1)
def esc:List Int → List Int
 | []=>[]
 | c :: l=>if c = 34 ∨ c = 92 then 92 :: c :: esc l else c :: esc l
def wrT (l:List Int):List Int:=34 :: (esc l ++ [34])
def isWr (s:List Int):Prop:=∃ l,s = wrT l
def okTx (l:List Int):Bool:=l.all (fun c=>decide (32 ≤ c) && decide (c ≤ 126)) && decide (l.length ≤ 200)
def possB (l:List Int):Bool:=decide (l.length ≤ 32768) && okTx l
def toksR (g:G14):Rd:=if g.2.2.1 ≠ 0 then ([],(0,g.2.2.1,()),()) else ([g.1],(0,0,()),())
def toksW (s:List Int):Rd:=if 65536 < s.length then ([],(0,2,()),()) else toksR (txt 0 (s.drop 1) [] 1)
def atQ (s:List Int) (a:Int):Prop:=0 ≤ a ∧ a < s.length ∧ s.getD a.toNat 0 = 34
end Go.PL
namespace Go.Proofs.YtbjjaaimhleedaaGreatDoor
open Go.AM Go.PL
def skipSp:FSpec:=⟨[.str,I],[I],fun x=>(x.2:Int) = (x.1:List Int).length ∨ atQ x.1 x.2,fun x=>x.2⟩
def textSp:FSpec:=⟨[.str,I],[GO],fun x=>0 ≤ (x.2:Int) ∧ (x.2:Int) < (x.1:List Int).length ∧ (x.1:List Int).length ≤ 65536,fun x=>txt x.2 ((x.1:List Int).drop ((x.2:Int) + 1).toNat) [] ((x.2:Int) + 1)⟩
def nextSp:FSpec:=⟨[.str,I],[GO],fun x=>atQ x.1 x.2 ∧ (x.1:List Int).length ≤ 65536,fun x=>txt x.2 ((x.1:List Int).drop ((x.2:Int) + 1).toNat) [] ((x.2:Int) + 1)⟩
def toksSp:FSpec:=⟨[.str],[RD],fun s=>isWr s,fun s=>toksW s⟩
def writtenSp:FSpec:=⟨[LX],[.str],fun x=>(x.1:Int) = 4 ∧ (x.2.2.1:List Int).length ≤ 32768,fun x=>wrT x.2.2.1⟩
def possSp:FSpec:=⟨[LX],[.bool],fun x=>(x.1:Int) = 4,fun x=>possB x.2.2.1⟩
def textedSp:FSpec:=⟨[.str],[.bool],fun _=>True,fun s=>possB s⟩
def loopsFa (f:FuncId) (r:Nat):List LA :=
 if Nat.beq f 86 then [.slot 1 I] else
 if Nat.beq f 108 then [.slot 6 I,.gslot 5 5 U8] else
 if Nat.beq f 79 then [.slot 4 I,.gslot 3 5 U8] else
 if Nat.beq f 78 then [.slot 4 I,.gslot 3 107 LX] else
 []
def hintFa (f:FuncId):Hint:=⟨loopsFa f,fun _=>.split,fun _=>.split,fun _=>0⟩
noncomputable def FA0:Ctx:=mkctx bs [] [] hintFa
theorem skip_nf (s:List Int) (a:Int):fnwp FA0 6 86 skipSp (s,a) = (∃ (I:Int → Prop),∃ (μ:Int → Nat),I a ∧ ∀ (x:Int),I x → (decide (x < (↑s.length:Int)) = true →
 ((0:Int) ≤ x ∧ x < (↑s.length:Int)) ∧ (decide (s.getD x.toNat (0:Int) = (35:Int)) = true → ∃ (I_1:Int → Prop),∃ (μ_1:Int → Nat),I_1 x ∧ ∀ (x_1:Int),I_1 x_1 →
 (decide (x_1 < (↑s.length:Int)) = true → ((0:Int) ≤ x_1 ∧ x_1 < (↑s.length:Int)) ∧ ((!decide (s.getD x_1.toNat (0:Int) = (10:Int))) = true → isI64 (x_1 + (1:Int)) ∧
 I_1 (x_1 + (1:Int)) ∧ μ_1 (x_1 + (1:Int)) < μ_1 x_1) ∧ ((!decide (s.getD x_1.toNat (0:Int) = (10:Int))) = false → I x_1 ∧ μ x_1 < μ x)) ∧ (decide (x_1 < (↑s.length :
 Int)) = false → I x_1 ∧ μ x_1 < μ x)) ∧ (decide (s.getD x.toNat (0:Int) = (35:Int)) = false → ((0:Int) ≤ x ∧ x < (↑s.length:Int)) ∧ ((!decide (s.getD x.toNat (0:Int) =
 (32:Int))) = true → ((0:Int) ≤ x ∧ x < (↑s.length:Int)) ∧ ((!decide (s.getD x.toNat (0:Int) = (9:Int))) = true → ((0:Int) ≤ x ∧ x < (↑s.length:Int)) ∧ ((!decide
 (s.getD x.toNat (0:Int) = (10:Int))) = true → ((0:Int) ≤ x ∧ x < (↑s.length:Int)) ∧ ((!decide (s.getD x.toNat (0:Int) = (13:Int))) = true → x = a) ∧ ((!decide (s.getD
 x.toNat (0:Int) = (13:Int))) = false → isI64 (x + (1:Int)) ∧ I (x + (1:Int)) ∧ μ (x + (1:Int)) < μ x)) ∧ ((!decide (s.getD x.toNat (0:Int) = (10:Int))) = false →
 isI64 (x + (1:Int)) ∧ I (x + (1:Int)) ∧ μ (x + (1:Int)) < μ x)) ∧ ((!decide (s.getD x.toNat (0:Int) = (9:Int))) = false → isI64 (x + (1:Int)) ∧ I (x + (1:Int)) ∧ μ
 (x + (1:Int)) < μ x)) ∧ ((!decide (s.getD x.toNat (0:Int) = (32:Int))) = false → isI64 (x + (1:Int)) ∧ I (x + (1:Int)) ∧ μ (x + (1:Int)) < μ x))) ∧ (decide (x <
 (↑s.length:Int)) = false → x = a)):=by kernel_rfl
theorem text_nf (s:List Int) (a:Int):fnwp FA0 6 108 textSp (s,a) = (isI64 (a + (1:Int)) ∧ ∃ (I:Int × List Int → Prop),∃ (μ:Int × List Int → Nat),I (a + (1:Int),
 []) ∧ ∀ (x:Int × List Int),I x → (decide (x.fst < (↑s.length:Int)) = true → ((0:Int) ≤ x.fst ∧ x.fst < (↑s.length:Int)) ∧ (decide (s.getD x.fst.toNat (0:Int) = (34 :
 Int)) = true → (decide ((200:Int) < (↑x.snd.length:Int)) = true → (((0:Int),(0:Int),bytesOf { data:=#[] },()),(0:Int),(142:Int),()) = txt a (List.drop (a + (1
 : Int)).toNat s) [] (a + (1:Int))) ∧ (decide ((200:Int) < (↑x.snd.length:Int)) = false → isI64 (x.fst + (1:Int)) ∧ (((4:Int),a,x.snd,()),x.fst + (1:Int),(0 :
 Int),()) = txt a (List.drop (a + (1:Int)).toNat s) [] (a + (1:Int)))) ∧ (decide (s.getD x.fst.toNat (0:Int) = (34:Int)) = false → (decide (s.getD x.fst.toNat (0:Int) <
 (32:Int)) = true → (((0:Int),(0:Int),bytesOf { data:=#[] },()),(0:Int),(142:Int),()) = txt a (List.drop (a + (1:Int)).toNat s) [] (a + (1:Int))) ∧ (decide
 (s.getD x.fst.toNat (0:Int) < (32:Int)) = false → (decide ((126:Int) < s.getD x.fst.toNat (0:Int)) = true → (((0:Int),(0:Int),bytesOf { data:=#[] },()),(0 :
 Int),(142:Int),()) = txt a (List.drop (a + (1:Int)).toNat s) [] (a + (1:Int))) ∧ (decide ((126:Int) < s.getD x.fst.toNat (0:Int)) = false → (decide (s.getD
 x.fst.toNat (0:Int) = (92:Int)) = true → isI64 (x.fst + (1:Int)) ∧ (decide (x.fst + (1:Int) = (↑s.length:Int)) = true → (((0:Int),(0:Int),bytesOf { data:=#[] },
 ()),(0:Int),(142:Int),()) = txt a (List.drop (a + (1:Int)).toNat s) [] (a + (1:Int))) ∧ (decide (x.fst + (1:Int) = (↑s.length:Int)) = false → ((0:Int) ≤ x.fst +
 (1:Int) ∧ x.fst + (1:Int) < (↑s.length:Int)) ∧ ((!decide (s.getD (x.fst + (1:Int)).toNat (0:Int) = (34:Int))) = true → ((0:Int) ≤ x.fst + (1:Int) ∧ x.fst + (1 :
 Int) < (↑s.length:Int)) ∧ ((!decide (s.getD (x.fst + (1:Int)).toNat (0:Int) = (92:Int))) = true → (((0:Int),(0:Int),bytesOf { data:=#[] },()),(0:Int),(142 :
 Int),()) = txt a (List.drop (a + (1:Int)).toNat s) [] (a + (1:Int))) ∧ ((!decide (s.getD (x.fst + (1:Int)).toNat (0:Int) = (92:Int))) = false → ((0:Int) ≤ x.fst + (1
 : Int) ∧ x.fst + (1:Int) < (↑s.length:Int)) ∧ roomP FA0 (5:Nat) (x.snd.length + [s.getD (x.fst + (1:Int)).toNat (0:Int)].length) ∧ isI64 (x.fst + (1:Int) + (1:Int))
 ∧ I (x.fst + (1:Int) + (1:Int),x.snd ++ [s.getD (x.fst + (1:Int)).toNat (0:Int)]) ∧ μ (x.fst + (1:Int) + (1:Int),x.snd ++ [s.getD (x.fst + (1:Int)).toNat (0 :
 Int)]) < μ x)) ∧ ((!decide (s.getD (x.fst + (1:Int)).toNat (0:Int) = (34:Int))) = false → ((0:Int) ≤ x.fst + (1:Int) ∧ x.fst + (1:Int) < (↑s.length:Int)) ∧ roomP
 FA0 (5:Nat) (x.snd.length + [s.getD (x.fst + (1:Int)).toNat (0:Int)].length) ∧ isI64 (x.fst + (1:Int) + (1:Int)) ∧ I (x.fst + (1:Int) + (1:Int),x.snd ++ [s.getD
 (x.fst + (1:Int)).toNat (0:Int)]) ∧ μ (x.fst + (1:Int) + (1:Int),x.snd ++ [s.getD (x.fst + (1:Int)).toNat (0:Int)]) < μ x))) ∧ (decide (s.getD x.fst.toNat (0:Int)
 = (92:Int)) = false → roomP FA0 (5:Nat) (x.snd.length + [s.getD x.fst.toNat (0:Int)].length) ∧ isI64 (x.fst + (1:Int)) ∧ I (x.fst + (1:Int),x.snd ++ [s.getD
 x.fst.toNat (0:Int)]) ∧ μ (x.fst + (1:Int),x.snd ++ [s.getD x.fst.toNat (0:Int)]) < μ x))))) ∧ (decide (x.fst < (↑s.length:Int)) = false → (((0:Int),(0:Int),
 bytesOf { data:=#[] },()),(0:Int),(142:Int),()) = txt a (List.drop (a + (1:Int)).toNat s) [] (a + (1:Int)))):=by kernel_rfl
def neverSp:FSpec:=⟨[.str,I],[GO],fun _=>False,fun _=>badT⟩
noncomputable def FA1:Ctx:=mkctx bs [(108,textSp),(105,neverSp),(107,neverSp),(109,neverSp)] [] hintFa
theorem next_nf (s:List Int) (a:Int):fnwp FA1 6 87 nextSp (s,a) = (((0:Int) ≤ a ∧ a < (↑s.length:Int)) ∧ (decide ((97:Int) ≤ s.getD a.toNat (0:Int)) = true → (decide
 (s.getD a.toNat (0:Int) ≤ (122:Int)) = true → False ∧ ((badT.fst.fst,badT.fst.snd.fst,badT.fst.snd.snd.fst,()),badT.snd.fst,badT.snd.snd.fst,()) = txt a (List.drop (a +
 (1:Int)).toNat s) [] (a + (1:Int))) ∧ (decide (s.getD a.toNat (0:Int) ≤ (122:Int)) = false → ((0:Int) ≤ a ∧ a < (↑s.length:Int)) ∧ (decide ((48:Int) ≤ s.getD
 a.toNat (0:Int)) = true → (decide (s.getD a.toNat (0:Int) ≤ (57:Int)) = true → False ∧ ((badT.fst.fst,badT.fst.snd.fst,badT.fst.snd.snd.fst,()),badT.snd.fst,
 badT.snd.snd.fst,()) = txt a (List.drop (a + (1:Int)).toNat s) [] (a + (1:Int))) ∧ (decide (s.getD a.toNat (0:Int) ≤ (57:Int)) = false → ((0:Int) ≤ a ∧ a < (↑s.length
 : Int)) ∧ (decide (s.getD a.toNat (0:Int) = (34:Int)) = true → ((0:Int) ≤ a ∧ a < (↑s.length:Int) ∧ s.length ≤ (65536:Nat)) ∧ (((txt a (List.drop (a + (1:Int)).toNat
 s) [] (a + (1:Int))).fst.fst,(txt a (List.drop (a + (1:Int)).toNat s) [] (a + (1:Int))).fst.snd.fst,(txt a (List.drop (a + (1:Int)).toNat s) [] (a + (1 :
 Int))).fst.snd.snd.fst,()),(txt a (List.drop (a + (1:Int)).toNat s) [] (a + (1:Int))).snd.fst,(txt a (List.drop (a + (1:Int)).toNat s) [] (a + (1:Int))).snd.snd.fst,
 ()) = txt a (List.drop (a + (1:Int)).toNat s) [] (a + (1:Int))) ∧ (decide (s.getD a.toNat (0:Int) = (34:Int)) = false → False ∧ ((badT.fst.fst,badT.fst.snd.fst,
 badT.fst.snd.snd.fst,()),badT.snd.fst,badT.snd.snd.fst,()) = txt a (List.drop (a + (1:Int)).toNat s) [] (a + (1:Int))))) ∧ (decide ((48:Int) ≤ s.getD a.toNat (0:Int))
 = false → ((0:Int) ≤ a ∧ a < (↑s.length:Int)) ∧ (decide (s.getD a.toNat (0:Int) = (34:Int)) = true → ((0:Int) ≤ a ∧ a < (↑s.length:Int) ∧ s.length ≤ (65536:Nat)) ∧
 (((txt a (List.drop (a + (1:Int)).toNat s) [] (a + (1:Int))).fst.fst,(txt a (List.drop (a + (1:Int)).toNat s) [] (a + (1:Int))).fst.snd.fst,(txt a (List.drop (a + (1 :
 Int)).toNat s) [] (a + (1:Int))).fst.snd.snd.fst,()),(txt a (List.drop (a + (1:Int)).toNat s) [] (a + (1:Int))).snd.fst,(txt a (List.drop (a + (1:Int)).toNat s) [] (a
 + (1:Int))).snd.snd.fst,()) = txt a (List.drop (a + (1:Int)).toNat s) [] (a + (1:Int))) ∧ (decide (s.getD a.toNat (0:Int) = (34:Int)) = false → False ∧ ((badT.fst.fst,
 badT.fst.snd.fst,badT.fst.snd.snd.fst,()),badT.snd.fst,badT.snd.snd.fst,()) = txt a (List.drop (a + (1:Int)).toNat s) [] (a + (1:Int)))))) ∧ (decide ((97:Int) ≤ s.getD
 a.toNat (0:Int)) = false → ((0:Int) ≤ a ∧ a < (↑s.length:Int)) ∧ (decide ((48:Int) ≤ s.getD a.toNat (0:Int)) = true → (decide (s.getD a.toNat (0:Int) ≤ (57:Int)) =
 true → False ∧ ((badT.fst.fst,badT.fst.snd.fst,badT.fst.snd.snd.fst,()),badT.snd.fst,badT.snd.snd.fst,()) = txt a (List.drop (a + (1:Int)).toNat s) [] (a + (1:Int))) ∧
 (decide (s.getD a.toNat (0:Int) ≤ (57:Int)) = false → ((0:Int) ≤ a ∧ a < (↑s.length:Int)) ∧ (decide (s.getD a.toNat (0:Int) = (34:Int)) = true → ((0:Int) ≤ a ∧ a <
 (↑s.length:Int) ∧ s.length ≤ (65536:Nat)) ∧ (((txt a (List.drop (a + (1:Int)).toNat s) [] (a + (1:Int))).fst.fst,(txt a (List.drop (a + (1:Int)).toNat s) [] (a + (1 :
 Int))).fst.snd.fst,(txt a (List.drop (a + (1:Int)).toNat s) [] (a + (1:Int))).fst.snd.snd.fst,()),(txt a (List.drop (a + (1:Int)).toNat s) [] (a + (1:Int))).snd.fst,
 (txt a (List.drop (a + (1:Int)).toNat s) [] (a + (1:Int))).snd.snd.fst,()) = txt a (List.drop (a + (1:Int)).toNat s) [] (a + (1:Int))) ∧ (decide (s.getD a.toNat (0 :
 Int) = (34:Int)) = false → False ∧ ((badT.fst.fst,badT.fst.snd.fst,badT.fst.snd.snd.fst,()),badT.snd.fst,badT.snd.snd.fst,()) = txt a (List.drop (a + (1:Int)).toNat s)
 [] (a + (1:Int))))) ∧ (decide ((48:Int) ≤ s.getD a.toNat (0:Int)) = false → ((0:Int) ≤ a ∧ a < (↑s.length:Int)) ∧ (decide (s.getD a.toNat (0:Int) = (34:Int)) = true
 → ((0:Int) ≤ a ∧ a < (↑s.length:Int) ∧ s.length ≤ (65536:Nat)) ∧ (((txt a (List.drop (a + (1:Int)).toNat s) [] (a + (1:Int))).fst.fst,(txt a (List.drop (a + (1 :
 Int)).toNat s) [] (a + (1:Int))).fst.snd.fst,(txt a (List.drop (a + (1:Int)).toNat s) [] (a + (1:Int))).fst.snd.snd.fst,()),(txt a (List.drop (a + (1:Int)).toNat s) []
 (a + (1:Int))).snd.fst,(txt a (List.drop (a + (1:Int)).toNat s) [] (a + (1:Int))).snd.snd.fst,()) = txt a (List.drop (a + (1:Int)).toNat s) [] (a + (1:Int))) ∧
 (decide (s.getD a.toNat (0:Int) = (34:Int)) = false → False ∧ ((badT.fst.fst,badT.fst.snd.fst,badT.fst.snd.snd.fst,()),badT.snd.fst,badT.snd.snd.fst,()) = txt a
 (List.drop (a + (1:Int)).toNat s) [] (a + (1:Int)))))):=by kernel_rfl
theorem written_nf (k a:Int) (s:List Int):fnwp FA0 6 79 writtenSp (k,a,s,()) = (((!decide (k = (4:Int))) = true → s = wrT s) ∧ ((!decide (k = (4:Int))) = false → ∃ (I
 : Int × List Int → Prop),∃ (μ:Int × List Int → Nat),I ((0:Int),[]) ∧ ∀ (x:Int × List Int),I x → (decide (x.fst < (↑s.length:Int)) = true → ((0:Int) ≤ x.fst ∧ x.fst
 < (↑s.length:Int)) ∧ (decide (s.getD x.fst.toNat (0:Int) = (34:Int)) = true → roomP FA0 (5:Nat) (x.snd.length + (1:Nat)) ∧ ((0:Int) ≤ x.fst ∧ x.fst < (↑s.length :
 Int)) ∧ roomP FA0 (5:Nat) ((x.snd ++ [(92:Int)]).length + [s.getD x.fst.toNat (0:Int)].length) ∧ isI64 (x.fst + (1:Int)) ∧ I (x.fst + (1:Int),x.snd ++ [(92:Int)] ++
 [s.getD x.fst.toNat (0:Int)]) ∧ μ (x.fst + (1:Int),x.snd ++ [(92:Int)] ++ [s.getD x.fst.toNat (0:Int)]) < μ x) ∧ (decide (s.getD x.fst.toNat (0:Int) = (34:Int)) =
 false → ((0:Int) ≤ x.fst ∧ x.fst < (↑s.length:Int)) ∧ (decide (s.getD x.fst.toNat (0:Int) = (92:Int)) = true → roomP FA0 (5:Nat) (x.snd.length + (1:Nat)) ∧ ((0:Int)
 ≤ x.fst ∧ x.fst < (↑s.length:Int)) ∧ roomP FA0 (5:Nat) ((x.snd ++ [(92:Int)]).length + [s.getD x.fst.toNat (0:Int)].length) ∧ isI64 (x.fst + (1:Int)) ∧ I (x.fst + (1 :
 Int),x.snd ++ [(92:Int)] ++ [s.getD x.fst.toNat (0:Int)]) ∧ μ (x.fst + (1:Int),x.snd ++ [(92:Int)] ++ [s.getD x.fst.toNat (0:Int)]) < μ x) ∧ (decide (s.getD
 x.fst.toNat (0:Int) = (92:Int)) = false → ((0:Int) ≤ x.fst ∧ x.fst < (↑s.length:Int)) ∧ roomP FA0 (5:Nat) (x.snd.length + [s.getD x.fst.toNat (0:Int)].length) ∧ isI64
 (x.fst + (1:Int)) ∧ I (x.fst + (1:Int),x.snd ++ [s.getD x.fst.toNat (0:Int)]) ∧ μ (x.fst + (1:Int),x.snd ++ [s.getD x.fst.toNat (0:Int)]) < μ x))) ∧ (decide (x.fst <
 (↑s.length:Int)) = false → (1:Nat) + x.snd.length ≤ (9223372036854775807:Nat) ∧ (bytesOf { data:=#[(34:UInt8)] } ++ x.snd).length + (1:Nat) ≤ (9223372036854775807 :
 Nat) ∧ bytesOf { data:=#[(34:UInt8)] } ++ x.snd ++ bytesOf { data:=#[(34:UInt8)] } = wrT s))):=by kernel_rfl
noncomputable def FA2:Ctx:=mkctx bs [(87,nextSp),(86,skipSp)] [] hintFa
theorem toks_nf (s:List Int):fnwp FA2 6 78 toksSp s = ((decide ((65536:Int) < (↑s.length:Int)) = true → ([],((0:Int),(2:Int),()),()) = toksW s) ∧ (decide ((65536 :
 Int) < (↑s.length:Int)) = false → ((0:Int) = (↑s.length:Int) ∨ atQ s (0:Int)) ∧ ∃ (I:Int × List (Int × Int × List Int × PUnit) → Prop),∃ (μ:Int × List (Int × Int ×
 List Int × PUnit) → Nat),I ((0:Int),[]) ∧ ∀ (x:Int × List (Int × Int × List Int × PUnit)),I x → (decide (x.fst < (↑s.length:Int)) = true → (atQ s x.fst ∧ s.length ≤
 (65536:Nat)) ∧ ((!decide ((txt x.fst (List.drop (x.fst + (1:Int)).toNat s) [] (x.fst + (1:Int))).snd.snd.fst = (0:Int))) = true → ([],(x.fst,(txt x.fst (List.drop
 (x.fst + (1:Int)).toNat s) [] (x.fst + (1:Int))).snd.snd.fst,()),()) = toksW s) ∧ ((!decide ((txt x.fst (List.drop (x.fst + (1:Int)).toNat s) [] (x.fst + (1 :
 Int))).snd.snd.fst = (0:Int))) = false → roomP FA2 (107:Nat) (x.snd.length + [((txt x.fst (List.drop (x.fst + (1:Int)).toNat s) [] (x.fst + (1:Int))).fst.fst,(txt x.fst
 (List.drop (x.fst + (1:Int)).toNat s) [] (x.fst + (1:Int))).fst.snd.fst,(txt x.fst (List.drop (x.fst + (1:Int)).toNat s) [] (x.fst + (1:Int))).fst.snd.snd.fst,
 ())].length) ∧ ((txt x.fst (List.drop (x.fst + (1:Int)).toNat s) [] (x.fst + (1:Int))).snd.fst = (↑s.length:Int) ∨ atQ s (txt x.fst (List.drop (x.fst + (1:Int)).toNat s)
 [] (x.fst + (1:Int))).snd.fst) ∧ I ((txt x.fst (List.drop (x.fst + (1:Int)).toNat s) [] (x.fst + (1:Int))).snd.fst,x.snd ++ [((txt x.fst (List.drop (x.fst + (1 :
 Int)).toNat s) [] (x.fst + (1:Int))).fst.fst,(txt x.fst (List.drop (x.fst + (1:Int)).toNat s) [] (x.fst + (1:Int))).fst.snd.fst,(txt x.fst (List.drop (x.fst + (1 :
 Int)).toNat s) [] (x.fst + (1:Int))).fst.snd.snd.fst,())]) ∧ μ ((txt x.fst (List.drop (x.fst + (1:Int)).toNat s) [] (x.fst + (1:Int))).snd.fst,x.snd ++ [((txt x.fst
 (List.drop (x.fst + (1:Int)).toNat s) [] (x.fst + (1:Int))).fst.fst,(txt x.fst (List.drop (x.fst + (1:Int)).toNat s) [] (x.fst + (1:Int))).fst.snd.fst,(txt x.fst
 (List.drop (x.fst + (1:Int)).toNat s) [] (x.fst + (1:Int))).fst.snd.snd.fst,())]) < μ x)) ∧ (decide (x.fst < (↑s.length:Int)) = false → (x.snd,((0:Int),(0:Int),()),
 ()) = toksW s))):=by kernel_rfl
noncomputable def FA3:Ctx:=mkctx bs [(78,toksSp),(79,writtenSp)] [] hintFa
theorem poss_nf (k a:Int) (s:List Int):fnwp FA3 6 67 possSp (k,a,s,()) = ((decide ((32768:Int) < (↑s.length:Int)) = true → false = possB s) ∧ (decide ((32768:Int) <
 (↑s.length:Int)) = false → (k = (4:Int) ∧ s.length ≤ (32768:Nat)) ∧ isWr (wrT s) ∧ (decide ((toksW (wrT s)).snd.fst.snd.fst = (0:Int)) = true → (decide ((↑(toksW (wrT
 s)).fst.length:Int) = (1:Int)) = true → ((0:Int) ≤ (0:Int) ∧ (0:Int) < (↑(toksW (wrT s)).fst.length:Int)) ∧ (decide (((toksW (wrT s)).fst.getD (0:Nat) ((0:Int),
 (0:Int),[],())).fst = k) = true → ((0:Int) ≤ (0:Int) ∧ (0:Int) < (↑(toksW (wrT s)).fst.length:Int)) ∧ (decide (((toksW (wrT s)).fst.getD (0:Nat) ((0:Int),(0 :
 Int),[],())).snd.snd.fst = s) = true → ((0:Int) ≤ (0:Int) ∧ (0:Int) < (↑(toksW (wrT s)).fst.length:Int)) ∧ decide (((toksW (wrT s)).fst.getD (0:Nat) ((0:Int),(0 :
 Int),[],())).snd.fst = (0:Int)) = possB s) ∧ (decide (((toksW (wrT s)).fst.getD (0:Nat) ((0:Int),(0:Int),[],())).snd.snd.fst = s) = false → false = possB s)) ∧
 (decide (((toksW (wrT s)).fst.getD (0:Nat) ((0:Int),(0:Int),[],())).fst = k) = false → false = possB s)) ∧ (decide ((↑(toksW (wrT s)).fst.length:Int) = (1:Int)) =
 false → false = possB s)) ∧ (decide ((toksW (wrT s)).snd.fst.snd.fst = (0:Int)) = false → false = possB s))):=by kernel_rfl
noncomputable def FA4:Ctx:=mkctx bs [(67,possSp)] [] hintFa
theorem texted_nf (s:List Int):fnwp FA4 6 47 textedSp s = ((4:Int) = (4:Int) ∧ possB s = possB s):=by kernel_rfl
end Go.Proofs.YtbjjaaimhleedaaGreatDoor
