import Derived.Test.YtbjjaaimhleedaaGreatDoorKt5
set_option linter.unusedSimpArgs false
set_option linter.unusedVariables false
namespace Go.AM
open Go.RowKit
variable {B:Nat → Prop} {w0:World} {C:Ctx} {Ψ Ψ0:Pr} {β:List Value} {h:List Blk} {w w':World} {fr:List AV} {a a0:Act} {As:List Act} {W:List Nat}
theorem jZ7 {listed:Array Bool} {i:Nat} (h:listed.getD i true = false):listed.getD i false = false:=by
 rw [Array.getD_eq_getD_getElem?] at *
 cases hx:listed[i]? with
 | none=>rw [hx] at h; simp at h
 | some b=>rw [hx] at h; simpa using h
theorem getD_in {listed:Array Bool} {i:Nat} (hi:i < listed.size) (h:listed.getD i false = false):listed.getD i true = false:=by
 rw [Array.getD_eq_getD_getElem?] at *
 rw [Array.getElem?_eq_getElem hi] at *
 simpa using h
theorem memN'_iff {t:Nat}:∀ {l:List Nat},memN' t l = true ↔ t ∈ l
 | []=>by simp [memN']
 | u :: l=>by simp [memN',memN'_iff (l:=l),Nat.beq_eq]
theorem memN_iff {t:Nat}:∀ {l:List Nat},memN t l = true ↔ t ∈ l
 | []=>by simp [memN]
 | u :: l=>by simp [memN,memN_iff (l:=l),Nat.beq_eq]
theorem hasEdge_spec {o:Oper} {j:Nat} (he:hasEdge o j = true):∃ e ∈ o.after,Region.binds .any e = true ∧ e.on = j:=by
 unfold hasEdge at he
 rw [Array.any_eq_true'] at he
 obtain ⟨e,hm,hc⟩:=he
 simp only [Bool.and_eq_true,Nat.beq_eq] at hc
 exact ⟨e,hm,hc⟩
theorem backEdges_spec {i:Nat} {o:Oper} (hb:backEdges i o = true):∀ e ∈ o.after,Region.binds .any e = true → e.on < i:=by
 intro e hm hbd
 unfold backEdges at hb
 rw [Array.all_eq_true'] at hb
 have:=hb e hm
 simp only [hbd,Bool.not_true,Bool.false_or,Nat.blt_eq] at this
 exact this
theorem jXk {t:Nat}:∀ {l:List Nat},memS t l = true ↔ t ∈ l
 | []=>by simp [memS]
 | u :: l=>by simp [memS,jXk (l:=l),Nat.beq_eq]
theorem jKh {o:Oper} {j:Nat} (h:j ∈ jZa o):∃ e ∈ o.after,Region.binds .any e = true ∧ e.on = j:=by
 simp only [jZa,List.mem_map,List.mem_filter] at h
 obtain ⟨e,⟨h1,h2⟩,h3⟩:=h
 exact ⟨e,by simpa using h1,h2,h3⟩
def EdgeClosed (all:Array Oper) (listed:Array Bool):Prop :=
 ∀ i o,all[i]? = some o → listed.getD i false = true → ∀ e ∈ o.after,Region.binds .any e = true → listed.getD e.on false = true
theorem jJn {all:Array Oper} {listed:Array Bool} (hc:EdgeClosed all listed):∀ (k:Nat) (S:List Nat),(∀ j ∈ S,listed.getD j false = true) → ∀ j ∈ sweep all k S,listed.getD j false = true
 | 0,S,hS=>hS
 | k + 1,S,hS=>by
  unfold sweep
  split
  ·rename_i hk
   split
   ·rename_i o ho
    refine jJn hc k _ (fun j hj=>?_)
    rcases List.mem_append.1 hj with h | h
    ·obtain ⟨e,he,hb,rfl⟩:=jKh h
     exact hc k o ho (hS k (jXk.1 hk)) e he hb
    ·exact hS j h
   ·exact jJn hc k S hS
  ·exact jJn hc k S hS
theorem allIn_spec {S:List Nat}:∀ {i:Nat},allIn S i = true → ∀ j,j < i → j ∈ S
 | 0,_,j,hj=>by omega
 | i + 1,hd,j,hj=>by
  simp only [allIn,Bool.and_eq_true] at hd
  rcases Nat.lt_or_ge j i with h | h
  ·exact allIn_spec hd.2 j h
  ·have:j = i:=by omega
   subst this
   exact jXk.1 hd.1
theorem depAll_spec {all:Array Oper} {listed:Array Bool} {o:Oper} {i:Nat} (hc:EdgeClosed all listed) (hd:depAll all o i = true) (hr:∀ e ∈ o.after,Region.binds .any e = true → listed.getD e.on false = true) :
 ∀ j,j < i → listed.getD j false = true:=fun j hj =>
 jJn hc i _ (fun k hk=>let ⟨e,he,hb,hk⟩:=jKh hk; hk ▸ hr e he hb) j (allIn_spec hd j hj)
theorem EdgeClosed.set {all:Array Oper} {listed:Array Bool} {i:Nat} {o:Oper} (hc:EdgeClosed all listed) (ho:all[i]? = some o) (hr:∀ e ∈ o.after,Region.binds .any e = true → listed.getD e.on false = true) :
 EdgeClosed all (listed.setIfInBounds i true):=by
 have up:∀ j,listed.getD j false = true → (listed.setIfInBounds i true).getD j false = true:=by
  intro j hj
  rw [Array.getD_eq_getD_getElem?] at hj ⊢
  by_cases hji:j = i
  ·subst hji
   have hlt:j < listed.size:=by
    rcases Nat.lt_or_ge j listed.size with h | h
    ·exact h
    ·rw [Array.getElem?_eq_none h] at hj; simp at hj
   rw [Array.getElem?_setIfInBounds_self_of_lt hlt]
   rfl
  ·rw [Array.getElem?_setIfInBounds_ne (Ne.symm hji)]
   exact hj
 intro j oj hoj hl e he hb
 apply up
 by_cases hji:j = i
 ·subst hji
  rw [ho] at hoj
  simp at hoj
  subst hoj
  exact hr e he hb
 ·refine hc j oj hoj ?_ e he hb
  rw [Array.getD_eq_getD_getElem?,Array.getElem?_setIfInBounds_ne (Ne.symm hji)] at hl
  rw [Array.getD_eq_getD_getElem?]
  exact hl
theorem jK3 {all:Array Oper}:∀ {l:List Oper} {i0:Nat},tailOk all i0 l = true → ∀ j o,l[j]? = some o → depAll all o (i0 + j) = true ∧ backEdges (i0 + j) o = true
 | [],_,_,j,o,hj=>by simp at hj
 | o' :: l,i0,ht,0,o,hj=>by
  simp at hj
  subst hj
  simp only [tailOk,Bool.and_eq_true] at ht
  exact ht.1
 | o' :: l,i0,ht,j + 1,o,hj=>by
  simp only [tailOk,Bool.and_eq_true] at ht
  have:=jK3 ht.2 j o (by simpa using hj)
  rwa [show i0 + 1 + j = i0 + (j + 1) by omega] at this
theorem jZ1 {ops:Array Oper} {listed:Array Bool} {i:Nat}:i ∈ Region.ready .any ops listed ↔ listed.getD i true = false ∧ ∃ o,ops[i]? = some o ∧ ∀ e ∈ o.after,Region.binds .any e = true → listed.getD e.on false = true:=mem_ready
theorem wpOp_at {ops:Array Oper} {i:Nat} {o:Oper} {K:Act → World → Prop} {Q:Exit → Act → World → Prop} (ho:ops[i]? = some o)
 {ro:Option Nat} (h:if Region.wanted o (yielded ops a.tmps) then o.wpIn (Fw ro) 0 C.P a w K Q else K (a.put o.dst undef) w):wpOpIn (Fw ro) 0 C.P ops Q i K a w:=by
 unfold wpOpIn
 simp only [ho]
 split
 ·rename_i hw; rw [if_pos hw] at h; exact h
 ·rename_i hw; rw [if_neg hw] at h; exact ⟨fun _ _=>trivial,h⟩
theorem seq_any {ro:Option Nat} (ops:Array Oper) (Q:Exit → Act → World → Prop):∀ (rest:List Oper) (i0 fuel:Nat) (listed:Array Bool) (a:Act) (w:World),rest = ops.toList.drop i0 → i0 ≤ ops.size → tailOk ops i0 rest = true → listed.size = ops.size → EdgeClosed ops listed →
 (∀ j,j < ops.size → listed.getD j false = decide (j < i0)) → rest.length ≤ fuel → wpListIn (Fw ro) 0 C.P ops Q rest a w → wpAnyIn (Fw ro) 0 C.P .any ops Q fuel listed a w
 | [],i0,fuel,listed,a,w,hrest,hi0,_,hsz,_,hl,_,hw=>by
  have hsize:ops.size ≤ i0:=by
   have:=congrArg List.length hrest
   simp at this
   omega
  have hnone:Region.ready .any ops listed = []:=by
   cases hr:Region.ready .any ops listed with
   | nil=>rfl
   | cons i l =>
    obtain ⟨h1,o,h2,_⟩:=jZ1.1 (show i ∈ Region.ready .any ops listed by rw [hr]; simp)
    have hlt:i < ops.size:=by
     rcases Nat.lt_or_ge i ops.size with h' | h'
     ·exact h'
     ·rw [Array.getElem?_eq_none h'] at h2; cases h2
    have h3:=hl i hlt
    rw [jZ7 h1] at h3
    simp at h3
    omega
  cases fuel with
  | zero=>exact ⟨hnone,hw⟩
  | succ n=>exact ⟨fun _=>hw,fun i hi=>by rw [hnone] at hi; cases hi⟩
 | o :: rest,i0,0,listed,a,w,_,_,_,_,_,_,hf,_=>by simp at hf
 | o :: rest,i0,fuel + 1,listed,a,w,hrest,hi0,ht,hsz,hcl,hl,hf,hw=>by
  have hlt:i0 < ops.size:=by
   have:=congrArg List.length hrest
   simp at this
   omega
  have ho:ops[i0]? = some o:=by
   have:(ops.toList.drop i0)[0]? = some o:=by rw [← hrest]; rfl
   rw [List.getElem?_drop] at this
   simpa using this
  have hrest':rest = ops.toList.drop (i0 + 1):=by
   have:=congrArg List.tail hrest
   simpa [List.tail_drop] using this
  have hready:i0 ∈ Region.ready .any ops listed:=by
   rw [jZ1]
   refine ⟨getD_in (by omega) (by rw [hl i0 hlt]; simp),o,ho,fun e he hb=>?_⟩
   have h1:=backEdges_spec (jK3 ht 0 o rfl).2 e he hb
   rw [hl e.on (by omega)]
   simp only [decide_eq_true_eq]
   omega
  refine ⟨fun hr=>(by rw [hr] at hready; cases hready),fun i hi=>?_⟩
  obtain ⟨h1,oi,h2,h3⟩:=jZ1.1 hi
  have hilt:i < ops.size:=by
   rcases Nat.lt_or_ge i ops.size with h' | h'
   ·exact h'
   ·rw [Array.getElem?_eq_none h'] at h2; cases h2
  have hge:i0 ≤ i:=by
   have:=hl i hilt
   rw [jZ7 h1] at this
   simp at this
   exact this
  have hii:i = i0:=by
   rcases Nat.lt_or_ge i0 i with hgt | hle
   ·exfalso
    have hoi:(o :: rest)[i - i0]? = some oi:=by
     rw [hrest,List.getElem?_drop,show i0 + (i - i0) = i by omega]
     simpa using h2
    have hd:=(jK3 ht _ _ hoi).1
    rw [show i0 + (i - i0) = i by omega] at hd
    have:=depAll_spec hcl hd h3 i0 hgt
    rw [hl i0 hlt] at this
    simp at this
   ·omega
  subst hii
  rw [ho] at h2
  simp at h2
  subst h2
  have K:∀ a' w',wpListIn (Fw ro) 0 C.P ops Q rest a' w' → wpAnyIn (Fw ro) 0 C.P .any ops Q fuel (listed.setIfInBounds i true) a' w':=fun a' w' hw' =>
   seq_any ops Q rest (i + 1) fuel _ a' w' hrest' (by omega) (by simp only [tailOk,Bool.and_eq_true] at ht; exact ht.2) (by simpa using hsz) (hcl.set ho h3) (fun j hj=>by
    by_cases hji:j = i
    ·subst hji
     rw [Array.getD_eq_getD_getElem?,Array.getElem?_setIfInBounds_self_of_lt (by omega)]
     simp
    ·rw [Array.getD_eq_getD_getElem?,Array.getElem?_setIfInBounds_ne (Ne.symm hji),← Array.getD_eq_getD_getElem?,hl j hj]
     simp only [decide_eq_decide]
     omega) (by simpa using hf) hw'
  refine wpOp_at ho ?_
  unfold wpListIn at hw
  split
  ·rename_i hwant
   rw [if_pos hwant] at hw
   exact Oper.wpIn_mono K hw
  ·rename_i hwant
   rw [if_neg hwant] at hw
   exact K _ _ hw.2
def unl (l:List Bool):Nat:=l.countP (!·)
theorem unl_set:∀ {l:List Bool} {i:Nat},l[i]? = some false → unl (l.set i true) + 1 = unl l
 | [],i,h=>by simp at h
 | b :: l,0,h=>by
  simp at h
  subst h
  simp [unl]
 | b :: l,i + 1,h=>by
  have:=unl_set (l:=l) (i:=i) (by simpa using h)
  simp only [unl,List.set_cons_succ,List.countP_cons] at *
  omega
theorem unl_false:∀ {l:List Bool} {m:Nat},m ≤ l.length → (∀ j,m ≤ j → j < l.length → l[j]? = some false) → l.length - m ≤ unl l
 | [],m,_,_=>by simp
 | b :: l,0,_,h=>by
  have h0:=h 0 (Nat.le_refl _) (by simp)
  simp at h0
  subst h0
  have:=unl_false (l:=l) (m:=0) (by omega) (fun j _ hj=>by simpa using h (j + 1) (by omega) (by simpa using hj))
  simp only [unl,List.countP_cons,List.length_cons] at *
  simp
  omega
 | b :: l,m + 1,hm,h=>by
  have:=unl_false (l:=l) (m:=m) (by simpa using hm) (fun j hj hjl=>by simpa using h (j + 1) (by omega) (by simpa using hjl))
  simp only [unl,List.countP_cons,List.length_cons] at *
  omega
structure Head (all:Array Oper) (head:List Oper):Prop where
 self:∀ (i:Nat) (o:Oper),head[i]? = some o → ∀ t,o.dst = some t → t ∉ looks all o
 back:∀ (i:Nat) (o:Oper),head[i]? = some o → ∀ e ∈ o.after,Region.binds .any e = true → e.on < i
 pair:∀ (i j:Nat) (oi oj:Oper),head[i]? = some oi → head[j]? = some oj → i ≠ j → ∀ t,oj.dst = some t → oi.dst ≠ some t ∧ (t ∈ looks all oi → (j < i ∧ hasEdge oi j = true) ∨ (i < j ∧ hasEdge oj i = true))
theorem head_spec {all:Array Oper} {head:List Oper} (hk:headOk all head.zipIdx = true):Head all head:=by
 unfold headOk at hk
 rw [List.all_eq_true] at hk
 have at_:∀ {i:Nat} {o:Oper},head[i]? = some o → (o,i) ∈ head.zipIdx:=fun h=>by
  rw [List.mem_zipIdx_iff_getElem?]; exact h
 refine ⟨fun i o hi t ht hm=>?_,fun i o hi=>?_,fun i j oi oj hi hj hij t ht=>?_⟩
 ·have:=hk _ (at_ hi)
  simp only [Bool.and_eq_true] at this
  have h1:=this.1.1
  unfold selfOk at h1
  rw [ht] at h1
  simp only [Bool.not_eq_true'] at h1
  rw [memN'_iff.2 hm] at h1
  cases h1
 ·have:=hk _ (at_ hi)
  simp only [Bool.and_eq_true] at this
  exact backEdges_spec this.1.2
 ·have:=hk _ (at_ hi)
  simp only [Bool.and_eq_true,List.all_eq_true] at this
  have h1:=this.2 _ (at_ hj)
  unfold pairOk at h1
  rw [ht] at h1
  simp only [Bool.or_eq_true,Nat.beq_eq,Bool.and_eq_true,Bool.not_eq_true',beq_eq_false_iff_ne] at h1
  rcases h1 with h1 | ⟨h1,h2⟩
  ·exact absurd h1 hij
  ·refine ⟨h1,fun hm=>?_⟩
   rcases h2 with (h2 | h2) | h2
   ·rw [memN'_iff.2 hm] at h2; cases h2
   ·exact .inl (by simpa [Nat.blt_eq] using h2)
   ·exact .inr (by simpa [Nat.blt_eq] using h2)
theorem Head.distinct {all:Array Oper} {head:List Oper} (hh:Head all head):Distinct head:=fun i j oi oj t hi hj hti htj=>by
 rcases Nat.decEq i j with h | h
 ·exact absurd hti (hh.pair i j oi oj hi hj h t htj).1
 ·exact h
theorem take_at {all:Array Oper} {m i:Nat} {o:Oper} (h:(all.toList.take m)[i]? = some o):i < m ∧ all[i]? = some o:=by
 rw [List.getElem?_take] at h
 split at h
 ·rename_i hlt; exact ⟨hlt,by simpa using h⟩
 ·cases h
theorem at_take {all:Array Oper} {m i:Nat} {o:Oper} (hm:i < m) (h:all[i]? = some o):(all.toList.take m)[i]? = some o:=by
 rw [List.getElem?_take,if_pos hm]
 simpa using h
theorem InvH.weaken {β':List Value} {h':List Blk} (hi:InvH C.P B w0 Ψ β h w) (hl:β'.length = h'.length) (hb:∀ (k:Nat) (v:Value),β'[k]? = some v → β[k]? = some v)
 (hw:∀ k b,h'[k]? = some b → BlkR C.P B Ψ β' w k b ∧ ∀ g,jQb β' k g b → ∃ b'',h[k]? = some b'' ∧ jQb β k g b''):InvH C.P B w0 Ψ β' h' w where
 low:=hi.low
 size:=hi.size
 prom:=hi.prom
 own:=hi.own
 len:=hl
 one:=fun k u hk=>hi.one k u (hb k u hk)
 blk:=fun k b hk=>(hw k b hk).1
 free:=fun k b g hk hc ad had hsp=>by
  obtain ⟨b'',h1,h2⟩:=(hw k b hk).2 g hc
  exact hi.free k b'' g h1 h2 ad had hsp
 sep:=fun i j bi bj g hij hbi hbj hci hcj=>by
  obtain ⟨bi',h1,h2⟩:=(hw i bi hbi).2 g hci
  obtain ⟨bj',h3,h4⟩:=(hw j bj hbj).2 g hcj
  exact hi.sep i j bi' bj' g hij h1 h3 h2 h4
 glob:=hi.glob
def ExOk (m:Nat) (effi:Nat → Blk) (listed:Array Bool) (us:List Value) (exl:List Blk):Prop :=
 us.length = m ∧ exl.length = m ∧ ∀ i,i < m → exl[i]? = some (if listed.getD i false then effi i else .gone) ∧ (listed.getD i false = false → us[i]? = some hole)
def rwNow (n:Nat) (rwi:Nat → Option (Nat × Blk)) (listed:Array Bool):List (Nat × Blk):=(List.range n).filterMap fun i=>if listed.getD i false then rwi i else none
def JInv (B:Nat → Prop) (w0:World) (Ψ0:Pr) (β:List Value) (H:HW) (below:List (List AV)) (As:List Act) (W:List Nat) (a0:Act) (head:List Oper) (top:List AV) (vals:Nat → AV) (effi:Nat → Blk) (rwi:Nat → Option (Nat × Blk)) (listed:Array Bool) (a:Act) (w:World):Prop :=
 ∃ Ψ us exl,Ext B Ψ0 Ψ ∧ InvH C.P B w0 Ψ (β ++ us) (wr (H.h0 ++ exl) (rwNow head.length rwi listed)) w ∧ ExOk head.length effi listed us exl ∧ RelF Ψ (β ++ us) below As ∧ Dok Ψ a ∧ a.tmps.size = top.length ∧
  (∀ t,t < top.length → RelV Ψ (β ++ us) (baseL head top vals (fun i=>listed.getD i false) t) (a.tmps.toList.getD t undef)) ∧ Same Ψ0 W a0 a
theorem wr_len:∀ (h:List Blk) (rw:List (Nat × Blk)),(wr h rw).length = h.length
 | h,[]=>rfl
 | h,(k,b) :: l=>by
  show (wr (hset h k b) l).length = _
  rw [wr_len,jQp,List.length_set]
theorem wr_get:∀ {h:List Blk} {rw:List (Nat × Blk)} {k:Nat},(∀ p ∈ rw,p.1 ≠ k) → (wr h rw)[k]? = h[k]?
 | h,[],k,_=>rfl
 | h,(j,b) :: l,k,hk=>by
  show (wr (hset h j b) l)[k]? = _
  rw [wr_get fun p hp=>hk p (List.mem_cons_of_mem _ hp),jQp,List.getElem?_set_ne (hk (j,b) (by simp))]
theorem wr_set:∀ {h:List Blk} {rw:List (Nat × Blk)} {k:Nat} {b:Blk},(∀ p ∈ rw,p.1 ≠ k) → wr (h.set k b) rw = (wr h rw).set k b
 | h,[],k,b,_=>rfl
 | h,(j,c) :: l,k,b,hk=>by
  show wr (hset (h.set k b) j c) l = (wr (hset h j c) l).set k b
  rw [jQp,jQp,List.set_comm _ _ (hk (j,c) (by simp)).symm,wr_set fun p hp=>hk p (List.mem_cons_of_mem _ hp)]
theorem wr_append:∀ (h:List Blk) (a b:List (Nat × Blk)),wr h (a ++ b) = wr (wr h a) b
 | h,[],b=>rfl
 | h,(j,c) :: l,b=>wr_append (hset h j c) l b
theorem wr_mid {h:List Blk} {A B:List (Nat × Blk)} {k:Nat} {b:Blk} (hk:∀ p ∈ A ++ B,p.1 ≠ k):wr h (A ++ (k,b) :: B) = hset (wr h (A ++ B)) k b:=by
 rw [wr_append,wr_append]
 show wr (hset (wr h A) k b) B = _
 rw [jQp,jQp,wr_set fun p hp=>hk p (List.mem_append_right _ hp)]
theorem wr_at:∀ {h:List Blk} {rw:List (Nat × Blk)} {k:Nat} {b:Blk},(k,b) ∈ rw → rw.Pairwise (fun p q=>p.1 ≠ q.1) → k < h.length → (wr h rw)[k]? = some b
 | h,[],k,b,hm,_,_=>by simp at hm
 | h,(j,c) :: l,k,b,hm,hd,hk=>by
  have hd':=List.pairwise_cons.1 hd
  show (wr (hset h j c) l)[k]? = some b
  rcases List.mem_cons.1 hm with e | hm
  ·simp only [Prod.mk.injEq] at e
   obtain ⟨rfl,rfl⟩:=e
   rw [wr_get fun p hp=>(hd'.1 p hp).symm,jQp,List.getElem?_set_self hk]
  ·exact wr_at hm hd'.2 (by rw [jQp,List.length_set]; exact hk)
theorem notKey_iff {k:Nat}:∀ {l:List (Nat × Blk)},notKey k l = true → ∀ p ∈ l,p.1 ≠ k
 | [],_,p,hp=>by simp at hp
 | (j,b) :: l,h,p,hp=>by
  simp only [notKey,Bool.and_eq_true,Bool.not_eq_true'] at h
  rcases List.mem_cons.1 hp with rfl | hp
  ·intro e
   rw [show Nat.beq j k = true from by rw [show j = k from e]; simp] at h
   cases h.1
  ·exact notKey_iff h.2 p hp
theorem fm_congr {f g:Nat → Option (Nat × Blk)}:∀ {l:List Nat},(∀ x ∈ l,f x = g x) → l.filterMap f = l.filterMap g
 | [],_=>rfl
 | x :: l,h=>by
  rw [List.filterMap_cons,List.filterMap_cons,h x (by simp),fm_congr fun y hy=>h y (List.mem_cons_of_mem x hy)]
theorem rw_mem {n:Nat} {rwi:Nat → Option (Nat × Blk)} {listed:Array Bool} {p:Nat × Blk} (h:p ∈ rwNow n rwi listed):∃ j,j < n ∧ listed.getD j false = true ∧ rwi j = some p:=by
 unfold rwNow at h
 obtain ⟨j,hj,he⟩:=List.mem_filterMap.1 h
 split at he
 ·rename_i hl
  exact ⟨j,List.mem_range.1 hj,hl,he⟩
 ·cases he
theorem rw_ins {L L':Nat → Bool} {rwi:Nat → Option (Nat × Blk)} {i:Nat} {p:Nat × Blk} (hr:rwi i = some p) (hi0:L i = false) (hi1:L' i = true) (hL:∀ j,j ≠ i → L' j = L j) :
 ∀ (l:List Nat),l.Nodup → i ∈ l → ∃ A B,l.filterMap (fun j=>if L j then rwi j else none) = A ++ B ∧ l.filterMap (fun j=>if L' j then rwi j else none) = A ++ p :: B ∧ ∀ q ∈ A ++ B,∃ j,j ∈ l ∧ j ≠ i ∧ rwi j = some q
 | [],_,h=>by simp at h
 | x :: l,hn,h=>by
  have hn':=List.nodup_cons.1 hn
  have tail:∀ (M:List Nat),i ∉ M → M.filterMap (fun j=>if L' j then rwi j else none) = M.filterMap (fun j=>if L j then rwi j else none):=by
   intro M hM
   apply fm_congr
   intro j hj
   rw [hL j (fun e=>hM (e ▸ hj))]
  have mem:∀ (M:List Nat),i ∉ M → ∀ q ∈ M.filterMap (fun j=>if L j then rwi j else none),∃ j,j ∈ M ∧ j ≠ i ∧ rwi j = some q:=by
   intro M hM q hq
   obtain ⟨j,hj,he⟩:=List.mem_filterMap.1 hq
   split at he
   ·exact ⟨j,hj,fun e=>hM (e ▸ hj),he⟩
   ·cases he
  by_cases hx:x = i
  ·subst hx
   refine ⟨[],l.filterMap (fun j=>if L j then rwi j else none),?_,?_,fun q hq=>?_⟩
   ·rw [List.filterMap_cons,hi0]; rfl
   ·rw [List.filterMap_cons,hi1]
    simp only [if_true,hr]
    rw [tail l hn'.1]
    rfl
   ·obtain ⟨j,hj,h1,h2⟩:=mem l hn'.1 q hq
    exact ⟨j,List.mem_cons_of_mem _ hj,h1,h2⟩
  ·have hil:i ∈ l:=by
    rcases List.mem_cons.1 h with e | h
    ·exact absurd e.symm hx
    ·exact h
   obtain ⟨A,B,e1,e2,e3⟩:=rw_ins hr hi0 hi1 hL l hn'.2 hil
   refine ⟨(if L x then rwi x else none).toList ++ A,B,?_,?_,fun q hq=>?_⟩
   ·rw [List.filterMap_cons,e1]
    cases (if L x then rwi x else none) <;> rfl
   ·rw [List.filterMap_cons,e2,hL x hx]
    cases (if L x then rwi x else none) <;> rfl
   ·rw [List.append_assoc] at hq
    rcases List.mem_append.1 hq with hq | hq
    ·refine ⟨x,by simp,hx,?_⟩
     split at hq
     ·simpa using hq
     ·simp at hq
    ·obtain ⟨j,hj,h1,h2⟩:=e3 q hq
     exact ⟨j,List.mem_cons_of_mem _ hj,h1,h2⟩
theorem maskG_get:∀ {h:List Blk} {i:Nat} {b:Blk},(maskG h)[i]? = some b → ∃ b0,h[i]? = some b0 ∧ b = maskB b0
 | [],_,_,h=>by simp [maskG] at h
 | b0 :: h,0,b,hb=>⟨b0,rfl,by simpa [maskG] using hb.symm⟩
 | b0 :: h,i + 1,b,hb=>by
  obtain ⟨b1,h1,h2⟩:=maskG_get (h:=h) (i:=i) (by simpa [maskG] using hb)
  exact ⟨b1,by simpa using h1,h2⟩
theorem maskG_len:∀ h:List Blk,(maskG h).length = h.length
 | []=>rfl
 | _ :: h=>by simp [maskG,maskG_len h]
theorem set_same {α:Type}:∀ {l:List α} {i:Nat} {x:α},l[i]? = some x → l.set i x = l
 | [],_,_,h=>by simp at h
 | _ :: l,0,_,h=>by simp at h; subst h; rfl
 | _ :: l,i + 1,_,h=>by rw [List.set_cons_succ,set_same (l:=l) (by simpa using h)]
theorem gones_len:∀ l:List Oper,(gones l).length = l.length
 | []=>rfl
 | _ :: l=>by simp [gones,gones_len l]
theorem gones_get:∀ {l:List Oper} {i:Nat},i < l.length → (gones l)[i]? = some .gone
 | [],_,h=>by simp at h
 | _ :: l,0,_=>rfl
 | _ :: l,i + 1,h=>by simpa [gones] using gones_get (l:=l) (i:=i) (by simpa using h)
theorem gones_all:∀ {l:List Oper} {i:Nat} {b:Blk},(gones l)[i]? = some b → b = .gone
 | [],_,_,h=>by simp [gones] at h
 | _ :: l,0,_,h=>by simpa [gones] using h.symm
 | _ :: l,i + 1,_,h=>gones_all (l:=l) (i:=i) (by simpa [gones] using h)
theorem jXy (us:List Value):∀ (k:Nat) (v:Value),β[k]? = some v → (β ++ us)[k]? = some v:=fun k v hk=>by
 have hlt:k < β.length:=by
  rcases Nat.lt_or_ge k β.length with h' | h'
  ·exact h'
  ·rw [List.getElem?_eq_none h'] at hk; cases hk
 rw [List.getElem?_append_left hlt]
 exact hk
theorem getD_put {a:Act} {d t:Nat} {v:Value}:(a.put (some d) v).tmps.toList.getD t undef = if d = t ∧ t < a.tmps.size then v else a.tmps.toList.getD t undef:=by
 simp only [Act.put,Array.toList_setIfInBounds,List.getD_eq_getElem?_getD]
 by_cases h:d = t
 ·subst h
  by_cases hlt:d < a.tmps.size
  ·rw [List.getElem?_set_self (by simpa using hlt),if_pos ⟨rfl,hlt⟩]; rfl
  ·rw [if_neg (fun hh=>hlt hh.2),List.getElem?_eq_none (by simpa using hlt),List.getElem?_eq_none (by simpa using hlt)]
 ·rw [List.getElem?_set_ne h,if_neg (fun hh=>h hh.1)]
theorem jJi {listed:Array Bool} {i j:Nat} (hi:i < listed.size):(listed.setIfInBounds i true).getD j false = if i = j then true else listed.getD j false:=by
 by_cases h:i = j
 ·subst h
  rw [if_pos rfl,Array.getD_eq_getD_getElem?,Array.getElem?_setIfInBounds_self_of_lt hi]; rfl
 ·rw [if_neg h,Array.getD_eq_getD_getElem?,Array.getElem?_setIfInBounds_ne h,← Array.getD_eq_getD_getElem?]
theorem isVar_ptr {P:Program} {b:Blk} {k:Nat} (hv:isVar b) (hb:BlkR P B Ψ β w k b):∃ g,β[k]? = some (.pointer (some ⟨g,0,none⟩)):=by
 cases b <;> first | exact hv.elim | skip
 ·obtain ⟨g,c,e,h1,_⟩:=hb; exact ⟨g,h1⟩
 ·obtain ⟨g,c,e,h1,_⟩:=hb; exact ⟨g,h1⟩
theorem updD_d {h h':List Blk}:∀ (t:Ty) (x:t.den) (off sz:Nat) (v:Ty) (z:v.den),updD t x off sz h (.d v z) = updD t x off sz h' (.d v z)
 | .pair a b,x,off,sz,v,z=>by
  unfold updD
  rw [updD_d a x.1 off sz v z,updD_d b x.2 (off - a.cells) sz v z]
  rfl
 | .vec n e,x,off,sz,v,z=>rfl
 | .rose _ _,x,off,sz,v,z=>rfl
 | .int _,x,off,sz,v,z=>rfl
 | .bool,x,off,sz,v,z=>rfl
 | .fnc,x,off,sz,v,z=>rfl
 | .any,x,off,sz,v,z=>rfl
 | .str,x,off,sz,v,z=>rfl
 | .arr _,x,off,sz,v,z=>rfl
 | .unit,x,off,sz,v,z=>rfl
theorem scall_spec {n k:Nat} {ex:List Blk} {o:Oper} {top:List AV} {h:List Blk} {b':Blk} (hs:scall C n ex o { top:=top,below:=[],heap:=h } = some (k,b')) :
 (∃ t a x sz i u y tid e xs,o.op = .store t a x ∧ o.dst = none ∧ ev top a = .slp k sz i ∧ ev top x = .d u y ∧ k < n ∧ hget h k = .grow tid e xs ∧
   ∀ h2,hget h2 k = .grow tid e xs → ∃ r2,astore C h2 t (.slp k sz i) (.d u y) = some r2 ∧ r2.heap = hset h2 k b') ∨
 (∃ t a x off c,o.op = .store t a x ∧ o.dst = none ∧ ev top a = .own k off ∧ n ≤ k ∧ hget ex (k - n) = c ∧ isVar c ∧ isVar b' ∧
   ∀ h2,hget h2 k = c → ∃ r2,astore C h2 t (.own k off) (ev top x) = some r2 ∧ r2.heap = hset h2 k b'):=by
 unfold scall at hs
 split at hs
 ·rename_i t a x ho hdst
  split at hs
  ·rename_i k' sz i hea
   split at hs
   ·rename_i u y hex
    split at hs
    ·rename_i hk
     split at hs
     ·rename_i r hr
      simp only [Option.some.injEq,Prod.mk.injEq] at hs
      obtain ⟨rfl,rfl⟩:=hs
      have hr0:=hr
      unfold astore at hr
      simp only at hr
      split at hr
      ·rename_i tid e xs hg
       refine .inl ⟨t,a,x,sz,i,u,y,tid,e,xs,ho,hdst,hea,hex,(by have:=Nat.le_of_ble_eq_true hk; omega),hg,fun h2 hg2=>?_⟩
       have hgl:k' < h.length:=jKl (jQc hg (by simp))
       split at hr
       ·rename_i y' n' hy' hn'
        split at hr
        ·rename_i hc
         simp only [Option.some.injEq] at hr
         subst hr
         have hy2:asD h2 e (.d u y) = some y':=hy'
         refine ⟨⟨none,.und,hset h2 k' (.grow tid e (xs.set i.toNat y')),none⟩,?_,?_⟩
         ·unfold astore
          simp only [hg2,hy2,hn',hc,if_true]
         ·show hset h2 k' _ = hset h2 k' (hget (hset h k' (.grow tid e (xs.set i.toNat y'))) k')
          congr 1
          rw [jQp]
          exact (hget_of' (by rw [List.getElem?_set_self hgl])).symm
        ·cases hr
       ·cases hr
      ·cases hr
     ·cases hs
    ·cases hs
   ·cases hs
  ·rename_i k' off hea
   split at hs
   ·rename_i hk
    split at hs
    ·rename_i cs hg
     split at hs
     ·rename_i l sz hl hsz
      split at hs
      ·rename_i hc
       simp only [Option.some.injEq,Prod.mk.injEq] at hs
       obtain ⟨rfl,rfl⟩:=hs
       refine .inr ⟨t,a,x,off,.cells cs,ho,hdst,hea,Nat.le_of_ble_eq_true hk,hg,trivial,trivial,fun h2 hg2=>⟨⟨none,.und,hset h2 k' (.cells (jJu cs off l)),none⟩,?_,rfl⟩⟩
       unfold astore
       simp only at hl
       simp only [hg2,hl,hsz,hc,if_true]
      ·cases hs
     ·cases hs
    ·rename_i u y hg
     split at hs
     ·rename_i sz v z hsz hex
      split at hs
      ·rename_i z' hz
       simp only [Option.some.injEq,Prod.mk.injEq] at hs
       obtain ⟨rfl,rfl⟩:=hs
       refine .inr ⟨t,a,x,off,.dat u y,ho,hdst,hea,Nat.le_of_ble_eq_true hk,hg,trivial,trivial,fun h2 hg2=>⟨⟨none,.und,hset h2 k' (.dat u z'),none⟩,?_,rfl⟩⟩
       have hz2:updD u y off sz h2 (.d v z) = some z':=(updD_d (h:=h2) (h':=[]) u y off sz v z).trans hz
       simp only at hex
       have hnr:jZx [AV.d v z] = true:=rfl
       unfold astore
       simp only [hg2,hsz,hex,hz2,hnr,if_true]
      ·cases hs
     ·cases hs
    ·cases hs
   ·cases hs
  ·cases hs
 ·cases hs
where
 hget_of':∀ {h:List Blk} {j:Nat} {b:Blk},h[j]? = some b → hget h j = b
  | [],_,_,hb=>by simp at hb
  | b0 :: h,0,_,hb=>by simpa [hget] using hb
  | b0 :: h,j + 1,_,hb=>by simpa [hget] using hget_of' (h:=h) (j:=j) (by simpa using hb)
theorem base_inv {H:HW} {head:List Oper} (hU:H.hU = H.h0 ++ gones head) (hM:H.hM = maskG H.h0 ++ gones head) {rw:List (Nat × Blk)} {us:List Value} {exl:List Blk} (hl:exl.length = head.length)
 (hi:InvH C.P B w0 Ψ (β ++ us) (wr (H.h0 ++ exl) rw) w) (i:Nat) (hb:jX2 H.all H.st i = true → rw = []) (hrw:∀ k b,(k,b) ∈ rw → (∃ tid e xs,H.h0[k]? = some (.grow tid e xs)) ∨ (H.h0.length ≤ k ∧ isVar b)):InvH C.P B w0 Ψ (β ++ us) (H.heap i) w:=by
 have hlen:=hi.len
 rw [wr_len,List.length_append (as:=H.h0),hl] at hlen
 refine hi.weaken ?_ (fun _ _ h=>h) (fun k b hk=>?_)
 ·rw [hlen]
  unfold HW.heap
  split
  ·rw [hU,List.length_append,gones_len]
  ·rw [hM,List.length_append,gones_len,maskG_len]
 ·unfold HW.heap at hk
  have triv:b = .gone → BlkR C.P B Ψ (β ++ us) w k b ∧ ∀ g,jQb (β ++ us) k g b → ∃ b'',(wr (H.h0 ++ exl) rw)[k]? = some b'' ∧ jQb (β ++ us) k g b'':=by
   rintro rfl
   exact ⟨trivial,fun g hc=>hc.elim⟩
  have same:(wr (H.h0 ++ exl) rw)[k]? = some b → BlkR C.P B Ψ (β ++ us) w k b ∧ ∀ g,jQb (β ++ us) k g b → ∃ b'',(wr (H.h0 ++ exl) rw)[k]? = some b'' ∧ jQb (β ++ us) k g b'' :=
   fun he=>⟨hi.blk k b he,fun g hc=>⟨b,he,hc⟩⟩
  split at hk
  ·rename_i hbf
   have hrn:=hb hbf
   subst hrn
   rw [hU] at hk
   rcases Nat.lt_or_ge k H.h0.length with h' | h'
   ·rw [List.getElem?_append_left h'] at hk
    exact same (by show (H.h0 ++ exl)[k]? = _; rw [List.getElem?_append_left h']; exact hk)
   ·rw [List.getElem?_append_right h'] at hk
    exact triv (gones_all hk)
  ·rw [hM] at hk
   rcases Nat.lt_or_ge k H.h0.length with h' | h'
   ·rw [List.getElem?_append_left (by rw [maskG_len]; exact h')] at hk
    obtain ⟨b0,h0,rfl⟩:=maskG_get hk
    by_cases hgr:∃ tid e xs,b0 = .grow tid e xs
    ·obtain ⟨tid,e,xs,rfl⟩:=hgr
     exact triv rfl
    ·have hmb:maskB b0 = b0:=by
      cases b0 with
      | grow tid e xs=>exact absurd ⟨tid,e,xs,rfl⟩ hgr
      | _=>rfl
     rw [hmb] at same ⊢
     apply same
     rw [wr_get,List.getElem?_append_left h']
     ·exact h0
     ·rintro ⟨k',b'⟩ hr
      rcases hrw k' b' hr with ⟨tid,e,xs,hk'⟩ | ⟨hk',_⟩
      ·rintro rfl
       rw [h0] at hk'
       simp only [Option.some.injEq] at hk'
       exact hgr ⟨tid,e,xs,hk'⟩
      ·show k' ≠ k
       omega
   ·rw [List.getElem?_append_right (by rw [maskG_len]; exact h')] at hk
    exact triv (gones_all hk)
theorem JInv.put {H:HW} {rwi:Nat → Option (Nat × Blk)} {below:List (List AV)} {head:List Oper} {top:List AV} {vals:Nat → AV} {effi:Nat → Blk} {listed:Array Bool} {i:Nat} {o:Oper} {v:Value} {Ψ':Pr} {us:List Value} {exl:List Blk} (hd:Distinct head) (hi:head[i]? = some o) (hil:i < listed.size)
 (hE:Ext B Ψ0 Ψ') (hH2:InvH C.P B w0 Ψ' (β ++ us) (wr (H.h0 ++ exl) (rwNow head.length rwi (listed.setIfInBounds i true))) w) (hx:ExOk head.length effi (listed.setIfInBounds i true) us exl) (hF:RelF Ψ' (β ++ us) below As) (hdf:Dok Ψ' a) (hsz:a.tmps.size = top.length)
 (hb:∀ t,t < top.length → RelV Ψ' (β ++ us) (baseL head top vals (fun i=>listed.getD i false) t) (a.tmps.toList.getD t undef))
 (hS:Same Ψ0 W a0 a) (hW:∀ t,o.dst = some t → t ∈ W) (hv:RelV Ψ' (β ++ us) (vals i) v) :
 JInv (C:=C) B w0 Ψ0 β H below As W a0 head top vals effi rwi (listed.setIfInBounds i true) (a.put o.dst v) w:=by
 have same:∀ t,o.dst ≠ some t → baseL head top vals (fun j=>(listed.setIfInBounds i true).getD j false) t = baseL head top vals (fun j=>listed.getD j false) t:=by
  intro t hne
  by_cases hex:∃ (j:Nat) (oj:Oper),head[j]? = some oj ∧ oj.dst = some t ∧ listed.getD j false = true
  ·obtain ⟨j,oj,h1,h2,h3⟩:=hex
   rw [jKi hd h1 h2 (by rw [jJi hil]; split <;> first | rfl | exact h3),jKi hd h1 h2 h3]
  ·rw [jX6 (fun j oj h1 h2=>?_),jX6 (fun j oj h1 h2=>?_)]
   ·cases hx:listed.getD j false with
    | false=>rfl
    | true=>exact absurd ⟨j,oj,h1,h2,hx⟩ hex
   ·rw [jJi hil]
    split
    ·rename_i hij
     subst hij
     rw [hi] at h1
     simp at h1
     subst h1
     exact absurd h2 hne
    ·cases hx:listed.getD j false with
     | false=>rfl
     | true=>exact absurd ⟨j,oj,h1,h2,hx⟩ hex
 refine ⟨Ψ',us,exl,hE,hH2,hx,hF,?_,?_,fun t ht=>?_,hS.put hW⟩
 ·cases o.dst <;> exact hdf
 ·cases o.dst with
  | none=>exact hsz
  | some d=>simpa [Act.put] using hsz
 ·cases hdst:o.dst with
  | none =>
   rw [same t (by rw [hdst]; simp)]
   exact hb t ht
  | some d =>
   rw [getD_put]
   by_cases htd:d = t
   ·subst htd
    rw [if_pos ⟨rfl,by omega⟩,jKi hd hi hdst (by rw [jJi hil,if_pos rfl])]
    exact hv
   ·rw [if_neg (fun hh=>htd hh.1),same t (by rw [hdst]; simpa using htd)]
    exact hb t ht
theorem JInv.mono {Ψ Ψ':Pr} {head:List Oper} {top:List AV} {vals:Nat → AV} {listed:Array Bool} (hle:PLe Ψ Ψ')
 (hb:∀ t,t < top.length → RelV Ψ β (baseL head top vals (fun i=>listed.getD i false) t) (a.tmps.toList.getD t undef)) :
 ∀ t,t < top.length → RelV Ψ' β (baseL head top vals (fun i=>listed.getD i false) t) (a.tmps.toList.getD t undef) :=
 fun t ht=>jZm hle (fun _ _ h=>h) _ _ (hb t ht)
theorem ExOk.set {m i:Nat} {effi:Nat → Blk} {listed:Array Bool} {us:List Value} {exl:List Blk} (hil:i < listed.size) (hul:listed.getD i false = false) (him:i < m) (hx:ExOk m effi listed us exl) (he:effi i = .gone):ExOk m effi (listed.setIfInBounds i true) us exl:=by
 obtain ⟨h1,h2,h3⟩:=hx
 refine ⟨h1,h2,fun j hj=>?_⟩
 obtain ⟨h4,h5⟩:=h3 j hj
 rw [jJi hil]
 by_cases hij:i = j
 ·subst hij
  rw [if_pos rfl]
  rw [hul] at h4
  refine ⟨by rw [if_pos rfl,he]; simpa using h4,fun e=>by cases e⟩
 ·rw [if_neg hij]
  exact ⟨h4,h5⟩
theorem ExOk.fill {m i:Nat} {effi:Nat → Blk} {listed:Array Bool} {us:List Value} {exl:List Blk} (hil:i < listed.size) (him:i < m) (hx:ExOk m effi listed us exl) (v:Value):ExOk m effi (listed.setIfInBounds i true) (us.set i v) (exl.set i (effi i)):=by
 obtain ⟨h1,h2,h3⟩:=hx
 refine ⟨by simpa using h1,by simpa using h2,fun j hj=>?_⟩
 obtain ⟨h4,h5⟩:=h3 j hj
 rw [jJi hil]
 by_cases hij:i = j
 ·subst hij
  rw [if_pos rfl]
  exact ⟨by rw [List.getElem?_set_self (by omega)]; simp,fun e=>by cases e⟩
 ·rw [if_neg hij,List.getElem?_set_ne hij,List.getElem?_set_ne hij]
  exact ⟨h4,h5⟩
theorem RelL_of {Ψ:Pr} {β:List Value}:∀ (top:List AV) (vs:List Value),vs.length = top.length → (∀ t,t < top.length → RelV Ψ β (fget top t) (vs.getD t undef)) → RelL Ψ β top vs
 | [],[],_,_=>rfl
 | [],_ :: _,h,_=>by simp at h
 | _ :: _,[],h,_=>by simp at h
 | c :: top,v :: vs,h,hr=>⟨v,vs,rfl,by simpa [fget] using hr 0 (by simp),RelL_of top vs (by simpa using h) fun t ht=>by simpa [fget] using hr (t + 1) (by simpa using ht)⟩
theorem find_congr {α:Type} {p q:α → Bool}:∀ {l:List α},(∀ x ∈ l,p x = q x) → l.find? p = l.find? q
 | [],_=>rfl
 | x :: l,h=>by
  have ih:=find_congr (l:=l) fun y hy=>h y (List.mem_cons_of_mem x hy)
  simp only [List.find?_cons,h x (by simp),ih]
theorem fget_out:∀ {l:List AV} {t:Nat},l.length ≤ t → fget l t = .junk
 | [],_,_=>rfl
 | _ :: l,0,h=>by simp at h
 | _ :: l,t + 1,h=>fget_out (l:=l) (by simpa using h)
theorem storesOf_spec:∀ {l:List Oper} {i0 s:Nat} {o:Oper},(s,o) ∈ jKb l i0 → i0 ≤ s ∧ l[s - i0]? = some o
 | [],_,_,_,h=>by simp [jKb] at h
 | o' :: l,i0,s,o,h=>by
  have step:(s,o) ∈ jKb l (i0 + 1) → i0 ≤ s ∧ (o' :: l)[s - i0]? = some o:=by
   intro h
   obtain ⟨h1,h2⟩:=storesOf_spec h
   refine ⟨by omega,?_⟩
   rw [show s - i0 = (s - (i0 + 1)) + 1 by omega]
   simpa using h2
  unfold jKb at h
  split at h
  ·rcases List.mem_cons.1 h with h | h
   ·simp only [Prod.mk.injEq] at h
    obtain ⟨rfl,rfl⟩:=h
    exact ⟨Nat.le_refl _,by simp⟩
   ·exact step h
  ·exact step h
theorem isSt_spec:∀ {st:List (Nat × Oper)} {i:Nat},isSt st i = true → ∃ o,(i,o) ∈ st
 | [],_,h=>by simp [isSt] at h
 | (s,o) :: l,i,h=>by
  simp only [isSt,Bool.or_eq_true,Nat.beq_eq] at h
  rcases h with rfl | h
  ·exact ⟨o,by simp⟩
  ·obtain ⟨o',ho⟩:=isSt_spec h
   exact ⟨o',List.mem_cons_of_mem _ ho⟩
theorem before_spec {all:Array Oper}:∀ {st:List (Nat × Oper)} {i:Nat},jX2 all st i = true → ∀ s o,(s,o) ∈ st → i = s ∨ i ∈ sweep all s (jZa o)
 | [],_,_,s,o,h=>by simp at h
 | (s',o') :: l,i,h,s,o,hm=>by
  simp only [jX2,Bool.and_eq_true,Bool.or_eq_true,Nat.beq_eq] at h
  rcases List.mem_cons.1 hm with e | hm
  ·simp only [Prod.mk.injEq] at e
   obtain ⟨rfl,rfl⟩:=e
   exact h.1.imp id jXk.1
  ·exact before_spec h.2 s o hm
theorem rwNow_set {n:Nat} {rwi:Nat → Option (Nat × Blk)} {listed:Array Bool} {i:Nat} (hil:i < listed.size) (hn:rwi i = none):rwNow n rwi (listed.setIfInBounds i true) = rwNow n rwi listed:=by
 unfold rwNow
 apply fm_congr
 intro j _
 rw [jJi hil]
 by_cases hij:i = j
 ·subst hij
  rw [if_pos rfl,hn]
  simp
 ·rw [if_neg hij]
theorem head_any {ro:Option Nat} (hsp:jQe C) {all:Array Oper} {m:Nat} {below:List (List AV)} {top:List AV} {tops mids:Nat → List AV} {vals:Nat → AV} {wnt:Nat → Bool} {effi:Nat → Blk} {H:HW} {rwi:Nat → Option (Nat × Blk)} {Q:Exit → Act → World → Prop} (hm:m ≤ all.size)
 (hh:Head all (all.toList.take m)) (hH:H = HW.mk' all h (all.toList.take m)) (hβl:β.length = h.length) (ht:Trace C H [] [] (all.toList.take m) 0 top tops mids vals wnt effi rwi) (htail:tailOk all m (all.toList.drop m) = true) (hW:∀ o ∈ all.toList,∀ t,o.dst = some t → t ∈ W)
 (hfin:∀ Ψ us a w,Ext B Ψ0 Ψ → InvH C.P B w0 Ψ (β ++ us) (wr (h ++ effs m effi) (rws m rwi [])) w → RelF Ψ (β ++ us) (tops m :: below) (a :: As) → Same Ψ0 W a0 a → wpListIn (Fw ro) 0 C.P all Q (all.toList.drop m) a w) :
 ∀ (fuel:Nat) (listed:Array Bool) (a:Act) (w:World),listed.size = all.size → (∀ i,m ≤ i → i < all.size → listed.getD i false = false) → EdgeClosed all listed → unl listed.toList ≤ fuel →
  JInv (C:=C) B w0 Ψ0 β H below As W a0 (all.toList.take m) top vals effi rwi listed a w → wpAnyIn (Fw ro) 0 C.P .any all Q fuel listed a w:=by
 have hd:=hh.distinct
 have hml:(all.toList.take m).length = m:=by simp; omega
 have hall':H.all = all:=by rw [hH]; rfl
 have hh0:H.h0 = h:=by rw [hH]; rfl
 have hst:H.st = jKb (all.toList.take m) 0:=by rw [hH]; rfl
 have hU:H.hU = H.h0 ++ gones (all.toList.take m):=by rw [hH]; rfl
 have hM:H.hM = maskG H.h0 ++ gones (all.toList.take m):=by rw [hH]; rfl
 have hsr:∀ s q,s < m → rwi s = some q → ∃ o,(all.toList.take m)[s]? = some o ∧ isSt H.st s = true ∧ notKey q.1 (rws s rwi []) = true ∧ scall C (hlen H.h0) (effs s effi) o { top:=mids s,below:=[],heap:=H.heap s } = some q:=by
  intro s q hs hr
  have ho:(all.toList.take m)[s]? = some ((all.toList.take m)[s]'(by rw [hml]; exact hs)):=List.getElem?_eq_getElem _
  obtain ⟨_,_,hy,hn⟩:=ht.step s _ ho
  cases hw:wnt s with
  | false=>rw [(hn hw).2.2] at hr; cases hr
  | true =>
   rcases hy hw with ⟨h1,_,_,_,r,hr',hnk,hsc⟩ | ⟨_,hr',_⟩
   ·rw [hr] at hr'
    simp only [Option.some.injEq] at hr'
    subst hr'
    rw [Nat.zero_add] at h1 hsc
    rw [List.nil_append] at hsc
    exact ⟨_,ho,h1,hnk,hsc⟩
   ·rw [hr] at hr'; cases hr'
 have hgr0:∀ (i k:Nat) tid e xs,(H.heap i)[k]? = some (.grow tid e xs) → k < H.h0.length → jX2 H.all H.st i = true ∧ H.h0[k]? = some (.grow tid e xs):=by
  intro i k tid e xs hk hlt
  unfold HW.heap at hk
  split at hk
  ·rename_i hb
   rw [hU,List.getElem?_append_left hlt] at hk
   exact ⟨hb,hk⟩
  ·rw [hM,List.getElem?_append_left (by rw [maskG_len]; exact hlt)] at hk
   obtain ⟨b0,_,hb0⟩:=maskG_get hk
   cases b0 <;> simp [maskB] at hb0
 have hkind:∀ s k b,s < m → rwi s = some (k,b) → (∃ tid e xs,H.h0[k]? = some (.grow tid e xs)) ∨ (H.h0.length ≤ k ∧ isVar b):=by
  intro s k b hs hr
  obtain ⟨o,_,_,_,hsc⟩:=hsr s _ hs hr
  rcases scall_spec hsc with ⟨t,a,x,sz,i,u,y,tid,e,xs,_,_,_,_,hk,hg,_⟩ | ⟨_,_,_,_,_,_,_,_,hk,_,_,hb,_⟩
  ·exact .inl ⟨tid,e,xs,(hgr0 s k tid e xs (jQc hg (by simp)) (by rw [← jQ1]; exact hk)).2⟩
  ·exact .inr ⟨by rw [← jQ1]; exact hk,hb⟩
 have hrw:∀ listed k b,(k,b) ∈ rwNow (all.toList.take m).length rwi listed → (∃ tid e xs,H.h0[k]? = some (.grow tid e xs)) ∨ (H.h0.length ≤ k ∧ isVar b):=by
  intro listed k b hr
  obtain ⟨s,hs,_,he⟩:=rw_mem hr
  rw [hml] at hs
  exact hkind s k b hs he
 have hdk:∀ i j q q',i < m → j < m → i ≠ j → rwi i = some q → rwi j = some q' → q.1 ≠ q'.1:=by
  have lt:∀ i j q q',i < j → j < m → rwi i = some q → rwi j = some q' → q.1 ≠ q'.1:=by
   intro i j q q' hij hj hq hq'
   obtain ⟨_,_,_,hnk,_⟩:=hsr j q' hj hq'
   refine notKey_iff hnk q ?_
   unfold rws
   rw [List.nil_append,List.mem_filterMap]
   exact ⟨i,List.mem_range.2 hij,hq⟩
  intro i j q q' hi hj hij hq hq'
  rcases Nat.lt_or_ge i j with h' | h'
  ·exact lt i j q q' h' hj hq hq'
  ·exact (lt j i q' q (by omega) hi hq' hq).symm
 have hpw:∀ listed,(rwNow (all.toList.take m).length rwi listed).Pairwise (fun p q=>p.1 ≠ q.1):=by
  intro listed
  unfold rwNow
  rw [hml,List.pairwise_filterMap]
  refine (List.pairwise_lt_range (n:=m)).imp_of_mem fun ha hb hlt q hq q' hq'=>?_
  split at hq
  ·split at hq'
   ·exact hdk _ _ q q' (List.mem_range.1 ha) (List.mem_range.1 hb) (by omega) hq hq'
   ·cases hq'
  ·cases hq
 have hbf0:∀ (listed:Array Bool) (i:Nat),EdgeClosed all listed → listed.getD i false = false → jX2 H.all H.st i = true → rwNow (all.toList.take m).length rwi listed = []:=by
  intro listed i hcd hul hbf
  rw [List.eq_nil_iff_forall_not_mem]
  intro q hq
  obtain ⟨s,hs,hls,he⟩:=rw_mem hq
  rw [hml] at hs
  obtain ⟨_,_,hsi,_,_⟩:=hsr s q hs he
  obtain ⟨o',hm'⟩:=isSt_spec hsi
  have hso:=hm'
  rw [hst] at hso
  obtain ⟨_,hso⟩:=storesOf_spec hso
  obtain ⟨_,hso⟩:=take_at (show (all.toList.take m)[s]? = some o' by simpa using hso)
  rw [hall'] at hbf
  rcases before_spec hbf s o' hm' with rfl | hsw
  ·rw [hul] at hls; cases hls
  ·have:=jJn hcd s _ (fun j hj=>by
    obtain ⟨e,he,hbd,rfl⟩:=jKh hj
    exact hcd s o' hso hls e he hbd) i hsw
   rw [hul] at this
   cases this
 intro fuel
 induction fuel with
 | zero =>
  intro listed a w hsz htl hcd hu hJ
  have hall:∀ i,i < m → listed.getD i false = true:=by
   intro i hi
   cases hx:listed.getD i false with
   | true=>rfl
   | false =>
    exfalso
    have:listed.toList[i]? = some false:=by
     rw [Array.getD_eq_getD_getElem?,Array.getElem?_eq_getElem (by omega)] at hx
     simp at hx
     rw [List.getElem?_eq_getElem (by simp; omega)]
     simp [hx]
    have:=unl_set this
    omega
  exact headDone hm hml hd hH hβl ht htail hfin 0 listed a w hsz htl hcd hu hall hJ
 | succ fuel ih =>
  intro listed a w hsz htl hcd hu hJ
  by_cases hall:∀ i,i < m → listed.getD i false = true
  ·exact headDone hm hml hd hH hβl ht htail hfin (fuel + 1) listed a w hsz htl hcd hu hall hJ
  ·
   have hex:∃ i,i < m ∧ listed.getD i false = false ∧ ∀ j,j < i → listed.getD j false = true:=by
    have hne:∃ i,i < m ∧ listed.getD i false = false:=by
     apply Classical.byContradiction
     intro hn
     apply hall
     intro i hi
     cases hx:listed.getD i false with
     | true=>rfl
     | false=>exact absurd ⟨i,hi,hx⟩ hn
    obtain ⟨i,hi⟩:=hne
    induction i using Nat.strongRecOn with
    | _ i ih' =>
     by_cases hall':∀ j,j < i → listed.getD j false = true
     ·exact ⟨i,hi.1,hi.2,hall'⟩
     ·have:∃ j,j < i ∧ listed.getD j false = false:=by
       apply Classical.byContradiction
       intro hn
       apply hall'
       intro j hj
       cases hx:listed.getD j false with
       | true=>rfl
       | false=>exact absurd ⟨j,hj,hx⟩ hn
      obtain ⟨j,hj,hx⟩:=this
      exact ih' j hj ⟨by omega,hx⟩
   refine ⟨fun hr=>?_,fun i hi=>?_⟩
   ·exfalso
    obtain ⟨i,hi,hx,hbef⟩:=hex
    have ho:all[i]? = some all[i]:=Array.getElem?_eq_getElem (by omega)
    have:i ∈ Region.ready .any all listed:=by
     rw [jZ1]
     exact ⟨getD_in (by omega) hx,_,ho,fun e he hb=>hbef _ (hh.back i _ (at_take hi ho) e he hb)⟩
    rw [hr] at this
    cases this
   ·obtain ⟨h1,o,h2,h3⟩:=jZ1.1 hi
    have hilt:i < all.size:=by
     rcases Nat.lt_or_ge i all.size with h' | h'
     ·exact h'
     ·rw [Array.getElem?_eq_none h'] at h2; cases h2
    have him:i < m:=by
     rcases Nat.lt_or_ge i m with h' | h'
     ·exact h'
     ·exfalso
      apply hall
      intro j hj
      have hoi:(all.toList.drop m)[i - m]? = some o:=by
       rw [List.getElem?_drop,show m + (i - m) = i by omega]
       simpa using h2
      have hdep:=(jK3 htail _ _ hoi).1
      rw [show m + (i - m) = i by omega] at hdep
      exact depAll_spec hcd hdep h3 j (by omega)
    have hoh:=at_take him h2
    obtain ⟨hg,he,hy,hn⟩:=ht.step i o hoh
    obtain ⟨hcl,hci⟩:=ht.chain hd i (by omega)
    obtain ⟨hgl,hgi⟩:=guarded_imp hg
    obtain ⟨Ψ,us,exl,hE,hH2,hx,hF,hdf,hasz,hb,hS⟩:=hJ
    have look:∀ t,t ∈ looks all o → RelV Ψ (β ++ us) (fget (tops i) t) (a.tmps.toList.getD t undef):=by
     intro t htl
     by_cases htr:t < top.length
     ·have h4:baseL (all.toList.take m) top vals (fun j=>decide (j < i)) t = baseL (all.toList.take m) top vals (fun j=>listed.getD j false) t:=by
       by_cases hex:∃ (j:Nat) (oj:Oper),(all.toList.take m)[j]? = some oj ∧ oj.dst = some t
       ·obtain ⟨j,oj,hj1,hj2⟩:=hex
        have hji:i ≠ j:=by
         rintro rfl
         rw [hoh] at hj1
         simp at hj1
         subst hj1
         exact hh.self _ _ hoh t hj2 htl
        rcases (hh.pair i j o oj hoh hj1 hji t hj2).2 htl with ⟨hlt,hedge⟩ | ⟨hlt,hedge⟩
        ·obtain ⟨e,he',hb',hon⟩:=hasEdge_spec hedge
         have:=h3 e he' hb'
         rw [hon] at this
         rw [jKi hd hj1 hj2 (by simpa using hlt),jKi hd hj1 hj2 this]
        ·have hjl:listed.getD j false = false:=by
          cases hx':listed.getD j false with
          | false=>rfl
          | true =>
           obtain ⟨e,he',hb',hon⟩:=hasEdge_spec hedge
           have:=hcd j oj (take_at hj1).2 hx' e he' hb'
           rw [hon,jZ7 h1] at this
           cases this
         rw [jX6 (fun j' oj' hj1' hj2'=>?_),jX6 (fun j' oj' hj1' hj2'=>?_)]
         ·have:=hd j' j oj' oj t hj1' hj1 hj2' hj2
          rw [this]; exact hjl
         ·have:=hd j' j oj' oj t hj1' hj1 hj2' hj2
          rw [this]; simpa using Nat.le_of_lt hlt
       ·rw [jX6 (fun j oj hj1 hj2=>absurd ⟨j,oj,hj1,hj2⟩ hex),jX6 (fun j oj hj1 hj2=>absurd ⟨j,oj,hj1,hj2⟩ hex)]
      have h5:=hb t htr
      rw [← h4] at h5
      exact hci t htr _ _ _ h5
     ·have:fget (tops i) t = .junk:=by
       exact fget_out (by omega)
      rw [this]
      trivial
    have hil:i < listed.size:=by omega
    have hnext:∀ a' w',JInv (C:=C) B w0 Ψ0 β H below As W a0 (all.toList.take m) top vals effi rwi (listed.setIfInBounds i true) a' w' → wpAnyIn (Fw ro) 0 C.P .any all Q fuel (listed.setIfInBounds i true) a' w':=fun a' w' hJ' =>
     ih _ a' w' (by simpa using hsz) (fun j hj hjs=>by rw [jJi hil,if_neg (by omega)]; exact htl j hj hjs) (hcd.set h2 h3) (by
      have hx:=jZ7 h1
      have:listed.toList[i]? = some false:=by
       rw [Array.getD_eq_getD_getElem?,Array.getElem?_eq_getElem hil] at hx
       simp at hx
       rw [List.getElem?_eq_getElem (by simpa using hil)]
       simp [hx]
      have:=unl_set this
      rw [Array.toList_setIfInBounds]
      omega) hJ'
    have hWo:∀ t,o.dst = some t → t ∈ W:=hW o (by
     have:=List.mem_of_getElem? (l:=all.toList) (i:=i) (by simpa using h2)
     exact this)
    refine wpOp_at h2 ?_
    have hwanted:Region.wanted o (yielded all a.tmps) = wnt i:=by
     rw [hall'] at hg
     unfold jX8 at hg
     unfold Region.wanted
     split at hg
     ·rename_i hgd
      rw [hgd,hg.2]
     ·rename_i j want hgd
      obtain ⟨t,hgt,hcase⟩:=hg
      have hl:=look t (by simp [looks,hgd,hgt])
      rw [hgd]
      simp only [yielded_of hgt]
      have cell:∀ b:Bool,a.tmps.toList.getD t undef = .bool b → a.tmps[t]? = some (.bool b):=by
       intro b hb
       rw [jKm] at hb
       cases hx:a.tmps[t]? with
       | none=>rw [hx] at hb; simp [undef] at hb
       | some x=>rw [hx] at hb; simp at hb; rw [hb]
      rcases hcase with ⟨hf,_,hb⟩ | ⟨hf,_,hb⟩ | ⟨hf,_,hb⟩ | ⟨hf,_,hb⟩ | ⟨hf,_,hb⟩ <;> rw [hf] at hl <;> rw [hb]
      ·rw [cell true hl]; cases want <;> rfl
      ·rw [cell false hl]; cases want <;> rfl
      ·rw [jKm] at hl
       have hl':(a.tmps[t]?).getD undef = undef:=hl
       cases hx:a.tmps[t]? with
       | none=>simp
       | some x=>rw [hx] at hl'; simp at hl'; subst hl'; simp [undef]
      ·rw [cell true (jJd.1 hl)]; cases want <;> rfl
      ·rw [cell false (jJd.1 hl)]; cases want <;> rfl
    rw [hwanted]
    split
    ·rename_i hw1
     have hev:∀ x ∈ o.op.operands,RelV Ψ (β ++ us) (ev (mids i) x) (a.eval x):=by
      intro x hx
      cases x with
      | tmp t =>
       have hlt:t ∈ looks all o:=by
        simp only [looks,List.mem_append,List.mem_filterMap]
        exact .inl ⟨.tmp t,by simpa using hx,rfl⟩
       have:=hgi t _ _ _ (look t hlt)
       simpa [ev,Act.eval,Array.getD_eq_getD_getElem?,List.getD_eq_getElem?_getD] using this
      | const v=>exact jZ4 v
      | global g=>trivial
      | func f=>exact ⟨[],rfl,rfl⟩
     have hul:=jZ7 h1
     have him':i < (all.toList.take m).length:=by rw [hml]; exact him
     have hBi:InvH C.P B w0 Ψ (β ++ us) (H.heap i) w:=base_inv hU hM hx.2.1 hH2 i (fun hbf=>hbf0 listed i hcd hul hbf) (hrw listed)
     have hev':=hev
     have filled:rwi i = none → ∀ (v:Value) (Ψ':Pr) (w':World),Step Ψ w Ψ' w' → NewB C B Ψ' w w' (hlen H.h0 + i) v (effi i) (vals i) → JInv (C:=C) B w0 Ψ0 β H below As W a0 (all.toList.take m) top vals effi rwi (listed.setIfInBounds i true) (a.put o.dst v) w':=by
      intro hni v Ψ' w' hst' ⟨hone,hnew⟩
      have hxi:=hx
      obtain ⟨x1,x2,x3⟩:=hx
      obtain ⟨x4,x5⟩:=x3 i him'
      rw [hul] at x4
      have x4:exl[i]? = some .gone:=by simpa using x4
      have hk:hlen H.h0 + i = β.length + i:=by rw [jQ1,hβl,hh0]
      have hβk:(β ++ us)[hlen H.h0 + i]? = some hole:=by
       rw [hk,List.getElem?_append_right (by omega),Nat.add_sub_cancel_left]
       exact x5 hul
      have hne:∀ q ∈ rwNow (all.toList.take m).length rwi listed,q.1 ≠ hlen H.h0 + i:=by
       rintro ⟨k,b⟩ hr rfl
       rcases hrw listed _ _ hr with ⟨tid,e,xs,hg⟩ | ⟨_,hvar⟩
       ·rw [jQ1,List.getElem?_eq_none (by omega)] at hg
        cases hg
       ·have hlt:hlen H.h0 + i < (H.h0 ++ exl).length:=by rw [jQ1,List.length_append]; omega
        have hb:=hH2.blk (hlen H.h0 + i) _ (wr_at hr (hpw listed) hlt)
        obtain ⟨g,h1⟩:=isVar_ptr hvar hb
        rw [hβk] at h1
        simp [hole] at h1
      have hhk:(wr (H.h0 ++ exl) (rwNow (all.toList.take m).length rwi listed))[hlen H.h0 + i]? = some .gone:=by
       rw [wr_get hne,jQ1,List.getElem?_append_right (by omega),Nat.add_sub_cancel_left]
       exact x4
      have e1:(β ++ us).set (hlen H.h0 + i) v = β ++ us.set i v:=by
       rw [hk,List.set_append_right _ _ (by omega),Nat.add_sub_cancel_left]
      have e2:(wr (H.h0 ++ exl) (rwNow (all.toList.take m).length rwi listed)).set (hlen H.h0 + i) (effi i) = wr (H.h0 ++ exl.set i (effi i)) (rwNow (all.toList.take m).length rwi listed):=by
       rw [← wr_set hne,jQ1,List.set_append_right _ _ (by omega),Nat.add_sub_cancel_left]
      have hget:((β ++ us).set (hlen H.h0 + i) v)[hlen H.h0 + i]? = some v:=by
       rw [List.getElem?_set_self]
       rcases Nat.lt_or_ge (hlen H.h0 + i) (β ++ us).length with h' | h'
       ·exact h'
       ·rw [List.getElem?_eq_none h'] at hβk; cases hβk
      obtain ⟨n1,n2,n3,n4⟩:=hnew _ hget
      have f2:=hH2.fill hst' hhk hβk hone n1 n2 n3
      have f3:=RelF_fill (u:=v) hst'.le hβk _ _ hF
      rw [e1] at f2 f3 n4
      rw [e2] at f2
      refine JInv.put hd hoh hil (hE.trans (hst'.ext hH2.size)) (by rw [rwNow_set hil hni]; exact f2) (hxi.fill hil him' v) f3 (jVb hst'.le hdf) hasz (fun t ht=>?_) hS hWo n4
      have:=RelV_fill (u:=v) hst'.le hβk _ _ (hb t ht)
      rwa [e1] at this
     have hy1:=hy hw1
     rw [Nat.zero_add] at hy1
     rcases hy1 with ⟨hsi,hvi,hei,hdn,r,hri,hnk,hsc⟩ | ⟨hni,hri,hy⟩
     ·obtain ⟨k,b'⟩:=r
      obtain ⟨A,Bq,r1,r2',r3⟩:=rw_ins (L:=fun j=>listed.getD j false) (L':=fun j=>(listed.setIfInBounds i true).getD j false) hri hul (by rw [jJi hil,if_pos rfl]) (fun j hj=>by rw [jJi hil,if_neg (Ne.symm hj)])
       (List.range (all.toList.take m).length) List.nodup_range (List.mem_range.2 (by rw [hml]; exact him))
      have r1:rwNow (all.toList.take m).length rwi listed = A ++ Bq:=r1
      have r2':rwNow (all.toList.take m).length rwi (listed.setIfInBounds i true) = A ++ (k,b') :: Bq:=r2'
      have hkeys:∀ q ∈ A ++ Bq,q.1 ≠ k:=fun q hq=>by
       obtain ⟨j,hj,hne,he⟩:=r3 q hq
       rw [List.mem_range,hml] at hj
       exact hdk j i q (k,b') hj him hne he hri
      have hst3:∃ t av xv avv xvv r2,o.op = .store t av xv ∧ RelV Ψ (β ++ us) avv (a.eval av) ∧ RelV Ψ (β ++ us) xvv (a.eval xv) ∧ astore C (wr (H.h0 ++ exl) (rwNow (all.toList.take m).length rwi listed)) t avv xvv = some r2 ∧ r2.heap = hset (wr (H.h0 ++ exl) (rwNow (all.toList.take m).length rwi listed)) k b':=by
       rcases scall_spec hsc with ⟨t,av,xv,sz,ix,u,y,tid,e,xs,hop,_,hea,hex,hk,hg,hst2⟩ | ⟨t,av,xv,off,cb,hop,_,hea,hk,hg,hvar,_,hst2⟩
       ·have hkl:k < H.h0.length:=by rw [← jQ1]; exact hk
        obtain ⟨hbf,hgk⟩:=hgr0 i k tid e xs (jQc hg (by simp)) hkl
        obtain ⟨r2,hr2,hr2h⟩:=hst2 (wr (H.h0 ++ exl) (rwNow (all.toList.take m).length rwi listed)) (scall_spec.hget_of' (by rw [hbf0 listed i hcd hul hbf]; show (H.h0 ++ exl)[k]? = _; rw [List.getElem?_append_left hkl]; exact hgk))
        exact ⟨t,av,xv,_,_,r2,hop,by rw [← hea]; exact hev av (by rw [hop]; simp [Op.operands]),by rw [← hex]; exact hev xv (by rw [hop]; simp [Op.operands]),hr2,hr2h⟩
       ·have ha:RelV Ψ (β ++ us) (.own k off) (a.eval av):=by rw [← hea]; exact hev av (by rw [hop]; simp [Op.operands])
        have hgk:=jQc hg (by rintro rfl; exact hvar)
        rw [List.nil_append] at hgk
        have hji:k - hlen H.h0 < i:=by
         rcases Nat.lt_or_ge (k - hlen H.h0) i with h' | h'
         ·exact h'
         ·rw [List.getElem?_eq_none (by simp [effs]; exact h')] at hgk; cases hgk
        have hgj:effi (k - hlen H.h0) = cb:=by
         simp only [effs,List.getElem?_map,List.getElem?_range hji,Option.map_some,Option.some.injEq] at hgk
         exact hgk
        obtain ⟨x1,x2,x3⟩:=hx
        rw [hml] at x1 x2 x3
        obtain ⟨x4,x5⟩:=x3 (k - hlen H.h0) (by omega)
        have hkb:k = β.length + (k - hlen H.h0):=by rw [hβl,← hh0,← jQ1]; omega
        have hlj:listed.getD (k - hlen H.h0) false = true:=by
         cases hl:listed.getD (k - hlen H.h0) false with
         | true=>rfl
         | false =>
          exfalso
          obtain ⟨g,h1,_⟩:=ha
          rw [hkb,List.getElem?_append_right (by omega),Nat.add_sub_cancel_left,x5 hl] at h1
          simp [hole] at h1
        rw [hlj] at x4
        have hgk2:(wr (H.h0 ++ exl) (rwNow (all.toList.take m).length rwi listed))[k]? = some cb:=by
         rw [r1,wr_get hkeys,List.getElem?_append_right (by rw [← jQ1]; exact hk),← jQ1,x4,if_pos rfl,hgj]
        obtain ⟨r2,hr2,hr2h⟩:=hst2 _ (scall_spec.hget_of' hgk2)
        exact ⟨t,av,xv,_,_,r2,hop,ha,hev xv (by rw [hop]; simp [Op.operands]),hr2,hr2h⟩
      obtain ⟨t,av,xv,avv,xvv,r2,hop,ha,hxv,hr2,hr2h⟩:=hst3
      obtain ⟨w',hrun,_,_,hi'⟩:=store_same hH2 ha hxv hr2
      have hnd:∀ c,o.op ≠ .defer c:=fun c hc=>by rw [hop] at hc; cases hc
      refine ⟨fun _ _=>trivial,?_⟩
      rw [Oper.semAt_eq _ _ _ hnd]
      have hrun':(execOp a.eval o).run C.P w = .ok .skip w':=by
       obtain ⟨dst,op,ty,pos,after,guard⟩:=o
       simp only at hop
       subst hop
       simp [execOp,hrun]
      rw [hrun']
      refine hnext _ _ (JInv.put hd hoh hil hE (by
       rw [r2',wr_mid hkeys,← r1,← hr2h]
       exact hi') (hx.set hil hul him' hei) hF hdf hasz hb hS hWo (by rw [hvi]; rfl))
     ·rcases hy with ⟨hy,hei⟩ | ⟨hy,hvi⟩ | ⟨hy,hvi⟩ | ⟨hy,hvi⟩
      ·refine Oper.wpIn_mono (fun a' w' hp=>?_) (yld_wp hsp hy hBi hev)
       obtain ⟨v,Ψ',rfl,hst',hv⟩:=hp
       exact hnext _ _ (JInv.put hd hoh hil (hE.trans (hst'.ext hH2.size)) (by rw [rwNow_set hil hri]; exact hH2.step hst') (hx.set hil hul him' hei) (jQq hst'.le (fun _ _ h=>h) _ _ hF) (jVb hst'.le hdf) hasz (JInv.mono hst'.le hb) hS hWo hv)
      ·refine Oper.wpIn_mono (fun a' w' hp=>?_) (yldG_wp (j:=hlen H.h0 + i) hsp hy hBi hev)
       obtain ⟨v,Ψ',rfl,hst',hn⟩:=hp
       exact hnext _ _ (filled hri v Ψ' w' hst' (by rw [hvi]; exact hn))
      ·refine Oper.wpIn_mono (fun a' w' hp=>?_) (yldA_wp (j:=hlen H.h0 + i) hy hBi)
       obtain ⟨v,Ψ',rfl,hst',hn⟩:=hp
       exact hnext _ _ (filled hri v Ψ' w' hst' (by rw [hvi]; exact hn))
      ·refine Oper.wpIn_mono (fun a' w' hp=>?_) (yldP_wp (j:=hlen H.h0 + i) hy hBi hev)
       obtain ⟨v,Ψ',rfl,hst',hn⟩:=hp
       exact hnext _ _ (filled hri v Ψ' w' hst' (by rw [hvi]; exact hn))
    ·rename_i hw1
     obtain ⟨hvi,hei,hri⟩:=hn (by simpa using hw1)
     exact hnext _ _ (JInv.put hd hoh hil hE (by rw [rwNow_set hil hri]; exact hH2) (hx.set hil (jZ7 h1) (by rw [hml]; exact him) hei) hF hdf hasz hb hS hWo (by rw [hvi]; rfl))
where
 headDone {ro:Option Nat} {all:Array Oper} {m:Nat} {below:List (List AV)} {top:List AV} {tops mids:Nat → List AV} {vals:Nat → AV} {wnt:Nat → Bool} {effi:Nat → Blk} {H:HW} {rwi:Nat → Option (Nat × Blk)} {Q:Exit → Act → World → Prop} (hm:m ≤ all.size) (hml:(all.toList.take m).length = m) (hd:Distinct (all.toList.take m))
  (hH:H = HW.mk' all h (all.toList.take m)) (hβl:β.length = h.length) (ht:Trace C H [] [] (all.toList.take m) 0 top tops mids vals wnt effi rwi) (htail:tailOk all m (all.toList.drop m) = true)
  (hfin:∀ Ψ us a w,Ext B Ψ0 Ψ → InvH C.P B w0 Ψ (β ++ us) (wr (h ++ effs m effi) (rws m rwi [])) w → RelF Ψ (β ++ us) (tops m :: below) (a :: As) → Same Ψ0 W a0 a → wpListIn (Fw ro) 0 C.P all Q (all.toList.drop m) a w)
  (fuel:Nat) (listed:Array Bool) (a:Act) (w:World) (hsz:listed.size = all.size) (htl:∀ i,m ≤ i → i < all.size → listed.getD i false = false) (hcd:EdgeClosed all listed) (hu:unl listed.toList ≤ fuel) (hall:∀ i,i < m → listed.getD i false = true)
  (hJ:JInv (C:=C) B w0 Ψ0 β H below As W a0 (all.toList.take m) top vals effi rwi listed a w):wpAnyIn (Fw ro) 0 C.P .any all Q fuel listed a w:=by
  obtain ⟨Ψ,us,exl,hE,hH2,hx,hF,hdf,hasz,hb,hS⟩:=hJ
  have hexl:exl = effs m effi:=by
   obtain ⟨x1,x2,x3⟩:=hx
   rw [hml] at x2 x3
   apply List.ext_getElem?
   intro i
   rcases Nat.lt_or_ge i m with h' | h'
   ·have x4:=(x3 i h').1
    rw [hall i h'] at x4
    rw [x4]
    simp [effs,h']
   ·rw [List.getElem?_eq_none (by omega),List.getElem?_eq_none (by simp [effs]; omega)]
  subst hexl
  have hh0:H.h0 = h:=by rw [hH]; rfl
  have hrws:rws m rwi [] = rwNow (all.toList.take m).length rwi listed:=by
   unfold rws rwNow
   rw [hml,List.nil_append]
   apply fm_congr
   intro j hj
   rw [hall j (List.mem_range.1 hj),if_pos rfl]
  rw [hh0,← hrws] at hH2
  obtain ⟨hcl,hci⟩:=ht.chain hd m (by omega)
  have hbase:∀ t,baseL (all.toList.take m) top vals (fun j=>decide (j < m)) t = baseL (all.toList.take m) top vals (fun j=>listed.getD j false) t:=by
   intro t
   unfold baseL
   rw [find_congr (q:=fun i=>listed.getD i false && ((all.toList.take m)[i]?.bind (·.dst) == some t)) (fun j hj=>?_)]
   have:j < m:=by rw [List.mem_range,hml] at hj; exact hj
   simp [this,hall j this]
  refine seq_any all Q _ m fuel listed a w rfl hm htail hsz hcd (fun j hj=>?_) ?_ (hfin Ψ us a w hE hH2 ⟨a,As,rfl,⟨hdf,RelL_of _ _ (by simp; omega) (fun t ht'=>?_)⟩,hF⟩ hS)
  ·rcases Nat.lt_or_ge j m with h' | h'
   ·rw [hall j h']; simpa using h'
   ·rw [htl j h' hj]; simp; omega
  ·have:=unl_false (l:=listed.toList) (m:=m) (by simp; omega) (fun j hj hjl=>by
    have hx:=htl j hj (by simp at hjl; omega)
    rw [Array.getD_eq_getD_getElem?,Array.getElem?_eq_getElem (by simpa using hjl)] at hx
    simp at hx
    rw [List.getElem?_eq_getElem hjl]
    simp [hx])
   simp only [List.length_drop,Array.length_toList] at *
   omega
  ·have:=hb t (by omega)
   rw [← hbase t] at this
   exact hci t (by omega) _ _ _ this
theorem InvH.places (hi:InvH C.P B w0 Ψ β h w) (n:Nat) (gs:List Blk) (hl:n = gs.length) (hg:∀ b ∈ gs,b = .gone):InvH C.P B w0 Ψ (β ++ List.replicate n hole) (h ++ gs) w:=by
 have at_:∀ {j:Nat} {b:Blk},(h ++ gs)[j]? = some b → h[j]? = some b ∨ b = .gone:=by
  intro j b hj
  rcases Nat.lt_or_ge j h.length with h' | h'
  ·rw [List.getElem?_append_left h'] at hj; exact .inl hj
  ·rw [List.getElem?_append_right h'] at hj; exact .inr (hg b (List.mem_of_getElem? hj))
 have cl:∀ {j g:Nat} {b:Blk},h[j]? = some b → jQb (β ++ List.replicate n hole) j g b → jQb β j g b:=by
  intro j g b hj hc
  have e:(β ++ List.replicate n hole)[j]? = β[j]?:=List.getElem?_append_left (by
   rw [hi.len]
   rcases Nat.lt_or_ge j h.length with h' | h'
   ·exact h'
   ·rw [List.getElem?_eq_none h'] at hj; cases hj)
  cases b with
  | gone=>exact hc
  | log ys Y own xs=>exact hc
  | lof ys Y own=>exact hc
  | cells cs=>simp only [jQb] at *; rwa [e] at hc
  | grow tid e' xs=>obtain ⟨m,cap,h1,h2⟩:=hc; rw [e] at h2; exact ⟨m,cap,h1,h2⟩
  | kmap es=>simp only [jQb] at *; rwa [e] at hc
  | dmap e' m=>simp only [jQb] at *; rwa [e] at hc
  | diter e' last left=>simp only [jQb] at *; rwa [e] at hc
  | loop f p ph ts=>simp only [jQb] at *; rwa [e] at hc
  | dat t x=>simp only [jQb] at *; rwa [e] at hc
  | siter n rest=>simp only [jQb] at *; rwa [e] at hc
 refine ⟨hi.low,hi.size,hi.prom,hi.own,by simp [hi.len,hl],fun j u hj=>?_,fun j b hj=>?_,fun j b g hj hc a ha hs=>?_,fun i j bi bj g hij hbi hbj hci hcj=>?_,hi.glob⟩
 ·rcases Nat.lt_or_ge j β.length with h' | h'
  ·rw [List.getElem?_append_left h'] at hj; exact hi.one j u hj
  ·rw [List.getElem?_append_right h',List.getElem?_replicate] at hj
   split at hj
   ·simp at hj; subst hj; rfl
   ·cases hj
 ·rcases at_ hj with h1 | rfl
  ·have hb:=hi.blk j b h1
   cases b with
   | gone=>trivial
   | log ys Y own xs=>exact jJl hb (fun _ h=>jXy _ _ _ h) (PLe.refl _).m (Nat.le_refl _) fun _ _=>rfl
   | lof ys Y own=>exact jJm hb (fun _ h=>jXy _ _ _ h) (PLe.refl _).m (Nat.le_refl _) fun _ _=>rfl
   | cells cs =>
    obtain ⟨g,c,e,h1,h2,h3,h4,h5⟩:=hb
    exact ⟨g,c,e,jXy _ _ _ h1,h2,h3,jQl (PLe.refl _) (jXy _) _ _ h4,h5⟩
   | grow tid e xs =>
    rcases hb with ⟨ad,h1,h2⟩ | ⟨g,cap,cur,h1,r⟩
    ·exact .inl ⟨ad,jXy _ _ _ h1,h2⟩
    ·exact .inr ⟨g,cap,cur,jXy _ _ _ h1,r⟩
   | kmap es =>
    obtain ⟨g,ms,cl,h1,h2,h3,h4,h5,h6⟩:=hb
    exact ⟨g,ms,cl,jXy _ _ _ h1,h2,h3,h4,jQl (PLe.refl _) (jXy _) _ _ h5,h6⟩
   | dmap e m =>
    obtain ⟨g,ms,cl,h1,r⟩:=hb
    exact ⟨g,ms,cl,jXy _ _ _ h1,r⟩
   | diter e last left =>
    obtain ⟨g,gm,ms,cl,seen,h1,r⟩:=hb
    exact ⟨g,gm,ms,cl,seen,jXy _ _ _ h1,r⟩
   | dat t x =>
    obtain ⟨g,c,e,h1,r⟩:=hb
    exact ⟨g,c,e,jXy _ _ _ h1,r⟩
   | siter n rest =>
    obtain ⟨g,s,pos,h1,r⟩:=hb
    exact ⟨g,s,pos,jXy _ _ _ h1,r⟩
   | loop f p ph ts =>
    obtain ⟨l,r,h1,h2,h3,h4,h5,h6⟩:=hb
    exact ⟨l,r,jXy _ _ _ h1,h2,h3,h4,jQl (PLe.refl _) (jXy _) _ _ h5,h6⟩
  ·trivial
 ·rcases at_ hj with h1 | rfl
  ·exact hi.free j b g h1 (cl h1 hc) a ha hs
  ·exact hc.elim
 ·rcases at_ hbi with h1 | rfl
  ·rcases at_ hbj with h2 | rfl
   ·exact hi.sep i j bi bj g hij h1 h2 (cl h1 hci) (cl h2 hcj)
   ·exact hcj.elim
  ·exact hci.elim
theorem jJ6 {n:Nat} (i:Nat):(Array.replicate n false).getD i false = false:=by
 simp [Array.getD_eq_getD_getElem?,Array.getElem?_replicate]; split <;> rfl
theorem jQy {all:Array Oper} {L:List Nat} {i:Nat}:∀ {n:Nat},i ∈ jXw all L n ↔ i < n ∧ ∃ o,all[i]? = some o ∧ memS i L = false ∧ (jZa o).all (fun j=>memS j L) = true
 | 0=>by simp [jXw]
 | n + 1=>by
  unfold jXw
  have ih:=jQy (all:=all) (L:=L) (i:=i) (n:=n)
  split
  ·rename_i o ho
   split
   ·rename_i hc
    simp only [Bool.and_eq_true,Bool.not_eq_true'] at hc
    rw [List.mem_append,ih,List.mem_singleton]
    constructor
    ·rintro (⟨h1,h2⟩ | rfl)
     ·exact ⟨by omega,h2⟩
     ·exact ⟨by omega,o,ho,hc.1,hc.2⟩
    ·rintro ⟨h1,o',ho',h2⟩
     by_cases hin:i = n
     ·exact .inr hin
     ·exact .inl ⟨by omega,o',ho',h2⟩
   ·rename_i hc
    rw [ih]
    constructor
    ·rintro ⟨h1,h2⟩; exact ⟨by omega,h2⟩
    ·rintro ⟨h1,o',ho',h2,h3⟩
     by_cases hin:i = n
     ·subst hin
      rw [ho] at ho'
      simp only [Option.some.injEq] at ho'
      subst ho'
      exact absurd (by rw [h2,h3]; rfl) hc
     ·exact ⟨by omega,o',ho',h2,h3⟩
  ·rename_i ho
   rw [ih]
   constructor
   ·rintro ⟨h1,h2⟩; exact ⟨by omega,h2⟩
   ·rintro ⟨h1,o',ho',h2⟩
    by_cases hin:i = n
    ·subst hin; rw [ho] at ho'; cases ho'
    ·exact ⟨by omega,o',ho',h2⟩
theorem aeach_mem {p:Nat → Prop}:∀ {l:List Nat},aeach p l → ∀ i ∈ l,p i
 | [],_,i,hi=>by simp at hi
 | [j],h,i,hi=>by simp at hi; subst hi; exact h
 | j :: j' :: l,h,i,hi=>by
  rcases List.mem_cons.1 hi with rfl | hi
  ·exact h.1
  ·exact aeach_mem h.2 i hi
theorem isNilL_iff:∀ {l:List Nat},isNilL l = true ↔ l = []
 | []=>by simp [isNilL]
 | _ :: _=>by simp [isNilL]
theorem jKo {F:Fence} {n:Nat} {P:Program} {o:Oper} {K:Act → World → Prop} {Q Q':Exit → Act → World → Prop} (h:∀ e a w,e ≠ .normal → Q e a w → Q' e a w) (hh:o.wpIn F n P a w K Q):o.wpIn F n P a w K Q':=by
 unfold Oper.wpIn at *
 refine ⟨hh.1,?_⟩
 have hh:=hh.2
 generalize (o.semAt F.round a.eval).run P w = r at *
 have out:LetsOut Q → LetsOut Q':=fun ⟨a,w,hq⟩=>⟨a,w,h _ _ _ (by simp) hq⟩
 cases r with
 | ok x w' =>
  cases x <;> simp only [Oper.uponIn] at hh ⊢ <;>
   first
    | exact hh
    | exact ⟨hh.1,CallsIn.mono hh.2 (fun e w'' he=>by cases e <;> first | exact he | exact h _ _ _ (by simp) he | exact out he)⟩
    | exact ⟨hh.1,RoundIn.mono hh.2 (fun e w'' he=>by cases e <;> first | exact he | exact h _ _ _ (by simp) he | exact out he)⟩
 | halt x w'=>cases x <;> simp only [Oper.uponIn] at hh ⊢ <;> first | exact hh | exact h _ _ _ (by simp) hh
theorem tkOf_spec {all:Array Oper} {L:List Nat}:∀ {l:List Nat} {i:Nat},tkOf fr all L l = some i → i ∈ l ∧ freeL fr all L i = true
 | [],_,h=>by simp [tkOf] at h
 | j :: l,i,h=>by
  unfold tkOf at h
  split at h
  ·rename_i hf
   simp only [Option.some.injEq] at h
   subst h
   exact ⟨by simp,hf⟩
  ·obtain ⟨h1,h2⟩:=tkOf_spec h
   exact ⟨List.mem_cons_of_mem _ h1,h2⟩
def Keeps (Ψ:Pr) (w:World):Prop:=∀ ad v,Ψ ad = some v → Pm w ad v
def Pure1 (P:Program) (R:World → Prop) (o:Oper) (v:Value) (a:Act):Prop:=∀ a':Act,(∀ x ∈ o.op.operands,a'.eval x = a.eval x) → ∀ w,R w → (execOp a'.eval o).run P w = .ok (.value v) w
theorem run_val {P:Program} {s:Sem Value} {v:Value} {w:World} (hr:s.run P w = .ok v w):(do pure (Next.value (← s)):Sem Next).run P w = .ok (.value v) w:=by
 rw [Sem.run_bind,hr]
 rfl
theorem arith_pure {wr:Bool} {k:IntKind} {n:Int} {r:Out} (hr:arith wr h k n = some r) (hp:∀ p,r.need = some p → p):RelV Ψ β r.v (.int k (k.wrap n)):=(arith_inv (Ψ:=Ψ) (β:=β) hr hp).2.2
theorem ibin_pure {wr:Bool} {op:BinOp} {xt:TypeId} {k k':IntKind} {m n:Int} {r:Out} (hm:k.has m) (hn:k'.has n)
 (hr:ibin wr h op k k' m n = some r) (hp:∀ p,r.need = some p → p):∃ v,(∀ w,(binOp op xt (.int k m) (.int k' n)).run C.P w = .ok v w) ∧ RelV Ψ β r.v v:=by
 unfold ibin at hr
 split at hr
 ·split at hr
  ·have:=jQv hr; subst this
   obtain ⟨h0,h1,h2⟩:=hp _ rfl
   refine ⟨.int .i64 (m * 2 ^ n.toNat),fun w=>?_,jQj.2 ⟨rfl,jXr.2 h2⟩⟩
   rw [binOp_shl,shl_ok _ _ _ _ h0 (by simp [IntKind.bits]; omega),wrap_i64 h2]
  ·have:=jQv hr; subst this
   obtain ⟨h0,h1⟩:=hp _ rfl
   refine ⟨.int k (k.wrap (m * 2 ^ n.toNat)),fun w=>?_,jQj.2 ⟨rfl,jXx _ _⟩⟩
   rw [binOp_shl,shl_ok _ _ _ _ h0 h1]
 ·have:=jQv hr; subst this
  obtain ⟨h0,h1⟩:=hp _ rfl
  refine ⟨.int k (m / 2 ^ n.toNat),fun w=>?_,jQj.2 ⟨rfl,has_div hm _⟩⟩
  rw [binOp_shr,shr_ok _ _ _ _ h0 h1]
 ·split at hr
  ·rename_i hk
   subst hk
   have hboo:∀ b:Bool,ok0 h (jZl b) = some r → (∀ w,(binOp op xt (.int k m) (.int k n)).run C.P w = .ok (.bool b) w) →
    ∃ v,(∀ w,(binOp op xt (.int k m) (.int k n)).run C.P w = .ok v w) ∧ RelV Ψ β r.v v:=by
    intro b e hb
    have:=jQd e; subst this
    exact ⟨_,hb,jXh b⟩
   split at hr
   ·exact ⟨_,fun w=>by rw [binOp_add]; rfl,arith_pure hr hp⟩
   ·exact ⟨_,fun w=>by rw [binOp_sub]; rfl,arith_pure hr hp⟩
   ·exact ⟨_,fun w=>by rw [binOp_mul]; rfl,arith_pure hr hp⟩
   ·split at hr
    ·have:=jQv hr; subst this
     obtain ⟨h0,h1⟩:=hp _ rfl
     refine ⟨.int .i64 (m.tdiv n),fun w=>?_,jQj.2 ⟨rfl,jXr.2 h1⟩⟩
     rw [binOp_quo]; simp [Op.intDiv,h0,wrap_i64 h1]
    ·have:=jQv hr; subst this
     have h0:=hp _ rfl
     refine ⟨.int k (k.wrap (m.tdiv n)),fun w=>?_,jQj.2 ⟨rfl,jXx _ _⟩⟩
     rw [binOp_quo]; simp [Op.intDiv,h0]
   ·have:=jQv hr; subst this
    have h0:=hp _ rfl
    refine ⟨.int k (m.tmod n),fun w=>?_,jQj.2 ⟨rfl,has_tmod hm hn⟩⟩
    rw [binOp_rem]; simp [Op.intDiv,h0]
   ·have:=jQd hr; subst this
    exact ⟨_,fun w=>by rw [binOp_and]; exact jK9 _ _ _ _ (.inl rfl),jQj.2 ⟨rfl,jXx _ _⟩⟩
   ·have:=jQd hr; subst this
    exact ⟨_,fun w=>by rw [binOp_or]; exact jK9 _ _ _ _ (.inr (.inl rfl)),jQj.2 ⟨rfl,jXx _ _⟩⟩
   ·have:=jQd hr; subst this
    exact ⟨_,fun w=>by rw [binOp_xor]; exact jK9 _ _ _ _ (.inr (.inr (.inl rfl))),jQj.2 ⟨rfl,jXx _ _⟩⟩
   ·have:=jQd hr; subst this
    exact ⟨_,fun w=>by rw [binOp_andNot]; exact jK9 _ _ _ _ (.inr (.inr (.inr rfl))),jQj.2 ⟨rfl,jXx _ _⟩⟩
   ·exact hboo _ hr (fun w=>by rw [binOp_eql]; rfl)
   ·exact hboo _ hr (fun w=>by rw [binOp_neq]; rfl)
   ·exact hboo _ hr (fun w=>by rw [binOp_lss]; rfl)
   ·exact hboo _ hr (fun w=>by rw [binOp_leq]; rfl)
   ·exact hboo _ hr (fun w=>by rw [binOp_gtr]; rfl)
   ·exact hboo _ hr (fun w=>by rw [binOp_geq]; rfl)
   ·cases hr
  ·cases hr
theorem slice_pure {t:TypeId} {e0:Ty} {xs0:List e0.den} {v:Value} {lo hi mx:Option AV} {l h' m:Option Value} {r:Out} (hx:RelV Ψ β (.d (.arr e0) xs0) v) (hl:RelO Ψ β lo l) (hh:RelO Ψ β hi h') (hm:RelO Ψ β mx m)
 (hr:aslice C h t (.d (.arr e0) xs0) lo hi mx = some r) (hp:∀ p,r.need = some p → p):∃ u,(∀ w,(Instr.sliceAt t v l h' m).run C.P w = .ok u w) ∧ RelV Ψ β r.v u:=by
 have hr:aslice0 C h t (.d (.arr e0) xs0) lo hi mx = some r:=hr
 generalize hX:AV.d (.arr e0) xs0 = X at hr hx
 unfold aslice0 at hr
 split at hr
 ·cases hr
 ·rename_i x y z he
  split at hr
  ·cases hX
  ·cases hX
  ·rename_i tid hu hnsl
   split at hr
   ·rename_i e xs sz hl' hsz
    split at hr
    ·rename_i hc
     have hc':sz = e.cells:=by simpa [Nat.beq_eq] using hc
     have hrv:=asList_rv hx hl' (by intro k e; subst e; cases hX)
     have hat:∀ v' w,(Instr.sliceAt t v' l h' m).run C.P w = (Instr.slice t v' l h' m).run C.P w:=by
      intro v' w; simp [Instr.sliceAt,run_underlying hu]
     split at hr
     ·have:=jQv hr; subst this
      obtain ⟨h0,h1⟩:=hp _ rfl
      obtain ⟨ad,cap,rfl,hlc,hcm,hout⟩:=jZz hrv hc' (l:=x.toNat) (n:=xs.length) (by omega) (Nat.le_refl _)
      refine ⟨_,fun w=>?_,hout cap hlc (Nat.le_refl _)⟩
      obtain ⟨hb,_⟩:=jQ2 (C:=C) (w:=w) (isSlice:=true) (len:=xs.length) (cap:=cap) hl hh hm he h0 (by simpa using h1) (by simp) (by simp) hlc
      simp only [Option.map_none,Option.getD_none] at hb
      rw [hat]
      simp [Instr.slice,run_underlying hu,hb,jQo hsz]
     ·rename_i n
      have:=jQv hr; subst this
      obtain ⟨h0,h1,h2⟩:=hp _ rfl
      have hn0:0 ≤ n:=Int.le_trans h0 h1
      obtain ⟨ad,cap,rfl,hlc,hcm,hout⟩:=jZz hrv hc' (l:=x.toNat) (n:=n.toNat) (by omega) (by omega)
      refine ⟨_,fun w=>?_,hout cap (by omega) (Nat.le_refl _)⟩
      obtain ⟨hb,_⟩:=jQ2 (C:=C) (w:=w) (isSlice:=true) (len:=xs.length) (cap:=cap) hl hh hm he h0 (by simpa using h1) (by simp; omega) (by simp) hlc
      simp only [Option.map_none,Option.getD_none,Option.map_some,Option.getD_some] at hb
      rw [hat]
      simp [Instr.slice,run_underlying hu,hb,jQo hsz]
     ·rename_i n m'
      have:=jQv hr; subst this
      obtain ⟨h0,h1,h2,h3⟩:=hp _ rfl
      subst h3
      have hn0:0 ≤ m':=Int.le_trans h0 h1
      obtain ⟨ad,cap,rfl,hlc,hcm,hout⟩:=jZz hrv hc' (l:=x.toNat) (n:=m'.toNat) (by omega) (by omega)
      have hlen:((xs.drop x.toNat).take (m'.toNat - x.toNat)).length = m'.toNat - x.toNat:=by simp; omega
      refine ⟨_,fun w=>?_,⟨_,by rw [hlen],hout m'.toNat (Nat.le_refl _) (by omega)⟩⟩
      obtain ⟨hb,_⟩:=jQ2 (C:=C) (w:=w) (isSlice:=true) (len:=xs.length) (cap:=cap) hl hh hm he h0 (by simpa using h1) (by simp) (by simp; omega) hlc
      simp only [Option.map_some,Option.getD_some] at hb
      rw [hat]
      simp [Instr.slice,run_underlying hu,hb,jQo hsz]
     ·cases hr
    ·cases hr
   ·cases hr
  ·cases hr
theorem tk_yields {o:Oper} {r:Out} (htk:isTk fr o.op = true) (hev:∀ x ∈ o.op.operands,RelV Ψ β (ev fr x) (a.eval x)) (hr:aop C fr h o.op = some r) (hp:∀ p,r.need = some p → p) :
 ∃ v,Pure1 C.P (Keeps Ψ) o v a ∧ RelV Ψ β r.v v:=by
 obtain ⟨dst,op,ty,pos,after,guard⟩:=o
 simp only at htk hev hr
 cases op with
 | move x =>
  have:=jQd hr; subst this
  exact ⟨a.eval x,fun a' he w _=>by simp [execOp,he x (by simp [Op.operands])],hev x (by simp [Op.operands])⟩
 | assign x =>
  have:=jQd hr; subst this
  exact ⟨a.eval x,fun a' he w _=>by simp [execOp,he x (by simp [Op.operands])],hev x (by simp [Op.operands])⟩
 | fieldAddr t x f =>
  obtain ⟨v,h1,h2⟩:=fieldAddr_pure (hev x (by simp [Op.operands])) hr
  exact ⟨v,fun a' he w _=>by simp [execOp,he x (by simp [Op.operands]),h1 w],h2⟩
 | load t x =>
  have hx:=hev x (by simp [Op.operands])
  have hr:aload C h t (ev fr x) = some r:=hr
  unfold isTk at htk
  simp only at htk
  split at htk
  ·rename_i u y hu
   rw [hu] at hr hx
   unfold aload at hr
   simp only at hr
   split at hr
   ·rename_i ag n hlay
    split at hr
    ·rename_i hc
     simp only [Bool.and_eq_true,Nat.beq_eq,beq_iff_eq] at hc
     obtain ⟨hn,hag⟩:=hc
     have:=jQd hr; subst this
     obtain ⟨g,off,us,hv,hus,hpr⟩:=hx
     refine ⟨_,fun a' he w hR=>?_,jJh hus hag (fun hf=>by rw [jQa u _ _ hus]; have:=(jXc hlay).2.2 hf; omega)⟩
     have hrun:=jQt (w:=w) (us:=us) (g:=g) (off:=off) hlay (by rw [jQa u _ _ hus]; omega) (fun j u' hj=>hR _ _ (hpr j u' hj))
     simp [execOp,he x (by simp [Op.operands]),hv,jZu,hrun]
    ·cases hr
   ·cases hr
  ·cases htk
 | indexAddr t x ix =>
  have hx:=hev x (by simp [Op.operands])
  have hu:=hev ix (by simp [Op.operands])
  have hr:jKx C h t (ev fr x) (ev fr ix) = some r:=hr
  have hns:∀ k,ev fr x ≠ .sl k:=fun k e=>by unfold isTk at htk; simp [e] at htk
  have hnr:∀ u y,ev fr x ≠ .rp u y:=fun u y e=>by unfold isTk at htk; simp [e] at htk
  have hnz:∀ k n,ev fr x ≠ .ssl k n:=fun k o e=>by unfold isTk at htk; simp [e] at htk
  generalize hX:ev fr x = X at *
  generalize hV:a.eval x = V at *
  generalize hY:ev fr ix = Y at *
  generalize hU:a.eval ix = U at *
  unfold jKx at hr
  split at hr
  ·rename_i tid kd i0 he
   obtain ⟨i,rfl⟩:∃ i:Int,i = i0:=⟨i0,rfl⟩
   obtain ⟨rfl,hik⟩:=jQj.1 hu
   split at hr
   ·rename_i sz hs
    split at hr
    ·rename_i k
     exact absurd rfl (hns k)
    ·exact absurd rfl (hnz _ _)
    ·split at hr
     ·rename_i e xs hl
      split at hr
      ·rename_i hc
       have hsz:e.cells = sz:=by simpa [Nat.beq_eq] using hc
       have:=jQv hr; subst this
       obtain ⟨h0,h1⟩:(0:Int) ≤ i ∧ i < (xs.length:Int):=hp _ rfl
       obtain ⟨ad,cap,rfl,_,_,h3⟩:=rv_arr.1 (asList_rv hx hl (fun k e=>hns k e))
       have hlt:i.toNat < xs.length:=by omega
       rcases h3 with rfl | ⟨cells,hd,g,off,rfl,hc'⟩
       ·simp at hlt
       ·obtain ⟨us,hus,hget⟩:=rdL_get (jQa e) _ _ hd i.toNat xs[i.toNat] (List.getElem?_eq_getElem hlt)
        have hD:xs.getD i.toNat (dflt e) = xs[i.toNat]:=by simp [List.getD_eq_getElem?_getD,List.getElem?_eq_getElem hlt]
        refine ⟨.pointer (some ⟨g,off + i.toNat * sz,none⟩),fun a' he' w _=>?_,⟨g,off + i.toNat * sz,us,rfl,by rw [hD]; exact hus,fun j u hj=>?_⟩⟩
        ·have e1:=he' x (by simp [Op.operands])
         have e2:=he' ix (by simp [Op.operands])
         rw [hV] at e1
         rw [hU] at e2
         have hrun:=jK5 (w:=w) he hs h0 h1 (cap:=cap) (k:=kd) (ad:=⟨g,off,none⟩)
         rw [Addr.add_lit] at hrun
         simp [execOp,e1,e2,hrun]
        ·have:=hc' _ _ (hget j u hj)
         rw [← hsz]
         rwa [← Nat.add_assoc] at this
      ·cases hr
     ·cases hr
   ·cases hr
  ·rename_i kd i0 he
   obtain ⟨i,rfl⟩:∃ i:Int,i = i0:=⟨i0,rfl⟩
   obtain ⟨rfl,hik⟩:=jQj.1 hu
   unfold aindexArr at hr
   split at hr
   ·rename_i n et ha
    split at hr
    ·rename_i sz hs
     split at hr
     ·rename_i k off
      obtain ⟨g,hβ,rfl⟩:=hx
      have hpure:(0:Int) ≤ i ∧ i < (n:Int) → ∀ a':Act,(∀ y ∈ (Op.indexAddr t x ix).operands,a'.eval y = a.eval y) → ∀ w:World,(execOp a'.eval { dst:=dst,op:=.indexAddr t x ix,type:=ty,pos:=pos,after:=after,guard:=guard }).run C.P w = .ok (.value (.pointer (some ⟨g,off + i.toNat * sz,none⟩))) w:=fun hb a' he' w=>by
       have e1:=he' x (by simp [Op.operands])
       have e2:=he' ix (by simp [Op.operands])
       rw [hV] at e1
       rw [hU] at e2
       have hrun:=jKc (w:=w) ha hs hb.1 hb.2 (k:=kd) (ad:=⟨g,off,none⟩)
       rw [Addr.add_lit] at hrun
       simp [execOp,e1,e2,hrun]
      cases hd:(C.asDat t && Nat.beq sz 1) with
      | true =>
       rw [hd,cond_true] at hr
       simp only [Bool.and_eq_true,Nat.beq_eq] at hd
       obtain ⟨_,rfl⟩:=hd
       have:=jQv hr; subst this
       have hb:(0:Int) ≤ i ∧ i < (n:Int):=hp _ rfl
       exact ⟨_,fun a' he' w _=>hpure hb a' he' w,⟨g,hβ,hb.1,hb.2,by rw [Nat.mul_one]⟩⟩
      | false =>
       rw [hd,cond_false] at hr
       have:=jQv hr; subst this
       have hb:(0:Int) ≤ i ∧ i < (n:Int):=hp _ rfl
       exact ⟨_,fun a' he' w _=>hpure hb a' he' w,⟨g,hβ,rfl⟩⟩
     ·exact absurd rfl (hnr _ _)
     ·cases hr
    ·cases hr
   ·cases hr
  ·cases hr
 | binOp bop xt x y yt =>
  have hx:=hev x (by simp [Op.operands])
  have hy:=hev y (by simp [Op.operands])
  simp only [isTk] at htk
  simp only [aop] at hr
  split at htk
  ·rename_i k m k' n hX hY
   rw [hX] at hr hx
   rw [hY] at hr hy
   have hno:abinAgg C h bop xt (.d (.int k) m) (.d (.int k') n) = none:=by
    unfold abinAgg
    split
    ·rename_i ty hty
     split
     ·rename_i hc
      simp only [Bool.and_eq_true] at hc
      have hag:=hc.1.1.1.1.1
      split
      ·rename_i a' b' ha' hb'
       exfalso
       have hn:∀ ty:Ty,ty.isAgg = true → Ty.int k ≠ ty:=fun ty h1 h2=>by subst h2; cases h1
       have:asD h ty (.d (.int k) m) = none:=by
        show cast? (.int k) ty m = none
        unfold cast?
        split
        ·rename_i h1 _
         exact absurd h1 (hn ty hag)
        ·rfl
       rw [this] at ha'
       cases ha'
      ·rfl
     ·rfl
    ·rfl
   rw [hno] at hr
   have hr:ibin C.wraps h bop k k' m n = some r:=hr
   obtain ⟨hx1,hm⟩:=jQj.1 hx
   obtain ⟨hy1,hn⟩:=jQj.1 hy
   obtain ⟨v,h1,h2⟩:=ibin_pure (C:=C) (Ψ:=Ψ) (β:=β) (xt:=xt) hm hn hr hp
   refine ⟨v,fun a' he w _=>?_,h2⟩
   have e1:=he x (by simp [Op.operands])
   have e2:=he y (by simp [Op.operands])
   rw [hx1] at e1
   rw [hy1] at e2
   have hrun:∀ s:Sem Value,((pure ():Sem Unit) >>= fun _=>s) = s:=fun _=>rfl
   have h3:(do eqGuard bop xt x y (.int k m) (.int k' n); Go.binOp bop xt (.int k m) (.int k' n)).run C.P w = .ok v w:=by
    rw [eqGuard_at_int,hrun]
    exact h1 w
   simp only [execOp,e1,e2]
   exact run_val h3
  ·cases htk
 | slice t x lo hi' mx =>
  have hx:=hev x (by simp [Op.operands])
  simp only [isTk] at htk
  have hr:aslice C h t (ev fr x) (optEv fr lo) (optEv fr hi') (optEv fr mx) = some r:=hr
  split at htk
  ·rename_i e0 xs0 hX
   rw [hX] at hr hx
   obtain ⟨u,h1,h2⟩:=slice_pure hx (RelO_of lo fun y hy=>hev y (by simp only [Op.operands,Array.mem_append]; exact .inl (.inl (.inr hy))))
    (RelO_of hi' fun y hy=>hev y (by simp only [Op.operands,Array.mem_append]; exact .inl (.inr hy))) (RelO_of mx fun y hy=>hev y (by simp only [Op.operands,Array.mem_append]; exact .inr hy)) hr hp
   refine ⟨u,fun a' he w _=>?_,h2⟩
   have opt:∀ o:Option Operand,(∀ y ∈ o.toArray,a'.eval y = a.eval y) → o.map a'.eval = o.map a.eval:=fun o ho=>by
    cases o with
    | none=>rfl
    | some y=>simp [ho y (by simp)]
   have e1:=he x (by simp [Op.operands])
   have e2:=opt lo fun y hy=>he y (by simp only [Op.operands,Array.mem_append]; exact .inl (.inl (.inr hy)))
   have e3:=opt hi' fun y hy=>he y (by simp only [Op.operands,Array.mem_append]; exact .inl (.inr hy))
   have e4:=opt mx fun y hy=>he y (by simp only [Op.operands,Array.mem_append]; exact .inr hy)
   simp only [execOp,e1,e2,e3,e4]
   exact run_val (h1 w)
  ·cases htk
 | extract x i =>
  have hx:=hev x (by simp [Op.operands])
  have hr:aextract h (ev fr x) i = some r:=hr
  unfold aextract at hr
  split at hr
  ·rename_i cs hX
   rw [hX] at hx
   split at hr
   ·rename_i hc
    have:=jQd hr; subst this
    obtain ⟨vs,hvs,hl⟩:=hx
    obtain ⟨u,hu,hrel⟩:=jQ7? _ _ hl i (by simp only [Nat.ble_eq,jQ5] at hc; omega)
    refine ⟨u,fun a' he w _=>?_,hrel⟩
    have e1:=he x (by simp [Op.operands])
    rw [hvs] at e1
    simp [execOp,e1,Instr.extract,hu]
   ·cases hr
  ·cases hr
 | _=>cases htk
theorem other_op {ro:Option Nat} {P:Program} {all:Array Oper} {oi oj:Oper} {v:Value} {j:Nat} {K:Act → World → Prop} {Q:Exit → Act → World → Prop} (hP:∀ c (a:Act) d v w,Q (.panic c) (a.put d v) w ↔ Q (.panic c) a w) (hap:oi.apart all oj = true)
 (hj:all[j]? = some oj) (hnd:∀ c,oj.op ≠ .defer c) (hns:∀ cs b,oj.op ≠ .select cs b) (hh:wpOpIn (Fw ro) 0 P all Q j K (a.put oi.dst v) w) :
 wpOpIn (Fw ro) 0 P all Q j (fun a' w'=>(∀ x ∈ oi.op.operands,a'.eval x = a.eval x) ∧ K (a'.put oi.dst v) w') a w:=by
 obtain ⟨h1,h2,h3⟩:=Oper.apart_spec hap
 have keep:∀ u,∀ x ∈ oi.op.operands,(a.put oj.dst u).eval x = a.eval x:=fun u x hx=>by
  refine Act.eval_put fun d hd hxd=>h3 d hd ?_
  subst hxd
  exact List.mem_append_left _ (List.mem_filterMap.2 ⟨.tmp d,by simpa using hx,rfl⟩)
 have both:∀ u w',K ((a.put oi.dst v).put oj.dst u) w' → (∀ x ∈ oi.op.operands,(a.put oj.dst u).eval x = a.eval x) ∧ K ((a.put oj.dst u).put oi.dst v) w':=fun u w' hk =>
  ⟨keep u,by rw [← Act.put_comm a v u h2]; exact hk⟩
 have hwd:=wanted_put oj a oi.dst v h1
 unfold wpOpIn at hh ⊢
 rw [hj] at hh ⊢
 simp only at hh ⊢
 rw [hwd] at hh
 by_cases hw:Region.wanted oj (yielded all a.tmps) = true
 ·rw [if_pos hw] at hh ⊢
  refine ⟨fun _ _=>trivial,?_⟩
  have hh:=hh.2
  rw [Oper.semAt_eq _ _ _ hnd] at hh ⊢
  rw [execOp_put oj hns a oi.dst v h1] at hh
  generalize (execOp a.eval oj).run P w = res at hh ⊢
  rcases res with ⟨nx,w'⟩ | ⟨st,w'⟩
  ·cases nx <;> simp only [Oper.uponIn] at hh ⊢
   case value u=>exact both u w' hh
   case skip=>exact both undef w' hh
   case defer d =>
    refine ⟨fun x hx=>by rw [show (({ a with defers:=d :: a.defers }:Act).put oj.dst undef).eval x = (a.put oj.dst undef).eval x by cases oj.dst <;> cases x <;> rfl]; exact keep undef x hx,?_⟩
    rw [← Act.put_comm _ v undef h2,← Act.put_defers]
    exact hh
   case enter f args =>
    exact ⟨hh.1,CallsIn.mono hh.2 fun e w'' he=>by
     cases e with
     | returned u=>exact both u w'' he
     | panicked c=>first | exact (hP _ _ _ _ _).2 he | exact (hP _ _ _ _ _).1 he | exact he
     | outgrown=>exact he⟩
   case row r args=>exact ⟨hh.1,RowsIn.mono hh.2 fun u w'' he=>both u w'' he⟩
   case round l f tmps assign body =>
    exact ⟨hh.1,RoundIn.mono hh.2 fun e w'' he=>by
     cases e with
     | returned u=>exact both u w'' he
     | panicked c=>first | exact (hP _ _ _ _ _).2 he | exact (hP _ _ _ _ _).1 he | exact he
     | outgrown=>exact he⟩
  ·cases st <;> simp only [Oper.uponIn] at hh ⊢
   case panic u=>first | exact (hP _ _ _ _ _).2 hh | exact (hP _ _ _ _ _).1 hh | exact hh
 ·rw [if_neg hw] at hh ⊢
  exact ⟨fun _ _=>trivial,both undef w hh.2⟩
def wpAnyR (ro:Option Nat) (P:Program) (all:Array Oper) (Q:Exit → Act → World → Prop) (R:World → Prop):Nat → Array Bool → Act → World → Prop
 | 0,listed,a,w=>R w ∧ Region.ready .any all listed = [] ∧ Q .normal a w
 | fuel + 1,listed,a,w=>R w ∧ (Region.ready .any all listed = [] → Q .normal a w) ∧
  ∀ i ∈ Region.ready .any all listed,wpOpIn (Fw ro) 0 P all Q i (wpAnyR ro P all Q R fuel (listed.setIfInBounds i true)) a w
theorem wpAnyR.mono {ro:Option Nat} {P:Program} {all:Array Oper} {Q:Exit → Act → World → Prop} {R R':World → Prop} (h:∀ w,R w → R' w):∀ (fuel:Nat) (listed:Array Bool) (a:Act) (w:World),wpAnyR ro P all Q R fuel listed a w → wpAnyR ro P all Q R' fuel listed a w
 | 0,_,_,_,hk=>⟨h _ hk.1,hk.2⟩
 | fuel + 1,_,_,_,hk=>⟨h _ hk.1,hk.2.1,fun i hi=>wpOpIn_mono (fun a w=>wpAnyR.mono h fuel _ a w) (hk.2.2 i hi)⟩
theorem wpAnyR.any {ro:Option Nat} {P:Program} {all:Array Oper} {Q:Exit → Act → World → Prop} {R:World → Prop}:∀ (fuel:Nat) (listed:Array Bool) (a:Act) (w:World),wpAnyR ro P all Q R fuel listed a w → wpAnyIn (Fw ro) 0 P .any all Q fuel listed a w
 | 0,_,_,_,hk=>hk.2
 | fuel + 1,_,_,_,hk=>⟨hk.2.1,fun i hi=>wpOpIn_mono (fun a w=>wpAnyR.any fuel _ a w) (hk.2.2 i hi)⟩
theorem take_first {ro:Option Nat} {P:Program} {all:Array Oper} {i:Nat} {oi:Oper} {v:Value} {R:World → Prop} {Q:Exit → Act → World → Prop} (hP:∀ c (a:Act) d v w,Q (.panic c) (a.put d v) w ↔ Q (.panic c) a w) (hi:all[i]? = some oi) (hg:oi.guard = none)
 (hndi:∀ c,oi.op ≠ .defer c) (hnd:∀ (j:Nat) (o:Oper) (c:Call),all[j]? = some o → o.op ≠ .defer c) (hns:∀ (j:Nat) (o:Oper) cs b,all[j]? = some o → o.op ≠ .select cs b) :
 ∀ (fuel:Nat) (listed:Array Bool) (a:Act) (w:World),
  (∀ j oj,all[j]? = some oj → j ≠ i → listed.getD j true = false → (∀ e ∈ oj.after,Region.binds .any e = true → e.on ≠ i) → oi.apart all oj = true) → i ∈ Region.ready .any all listed → Pure1 P R oi v a →
  wpAnyR ro P all Q R fuel (listed.setIfInBounds i true) (a.put oi.dst v) w → wpAnyR ro P all Q R (fuel + 1) listed a w:=by
 have own:∀ (K:Act → World → Prop) (a:Act) (w:World),Pure1 P R oi v a → R w → K (a.put oi.dst v) w → wpOpIn (Fw ro) 0 P all Q i K a w:=by
  intro K a w hp hR hk
  unfold wpOpIn
  rw [hi]
  simp only
  rw [if_pos (by simp [Region.wanted,hg])]
  refine ⟨fun _ _=>trivial,?_⟩
  rw [Oper.semAt_eq _ _ _ hndi,hp a (fun _ _=>rfl) w hR]
  exact hk
 intro fuel
 induction fuel with
 | zero =>
  intro listed a w _ hr hp hk
  refine ⟨hk.1,fun he=>(by rw [he] at hr; cases hr),fun j hj=>?_⟩
  by_cases hji:j = i
  ·subst hji; exact own _ a w hp hk.1 hk
  ·have:=ready_mono hj hji
   rw [hk.2.1] at this
   cases this
 | succ fuel ih =>
  intro listed a w hfree hr hp hk
  refine ⟨hk.1,fun he=>(by rw [he] at hr; cases hr),fun j hj=>?_⟩
  by_cases hji:j = i
  ·subst hji; exact own _ a w hp hk.1 hk
  ·obtain ⟨hun,oj,hoj,hall⟩:=jZ1.1 hj
   have hni:∀ e ∈ oj.after,Region.binds .any e = true → e.on ≠ i:=fun e he hb heq=>by
    have h1:=hall e he hb
    rw [heq,jZ7 (jZ1.1 hr).1] at h1
    cases h1
   have h2:=other_op hP (hfree j oj hoj hji hun hni) hoj (fun c=>hnd j oj c hoj) (fun cs b=>hns j oj cs b hoj) (hk.2.2 j (ready_mono hj hji))
   refine wpOpIn_mono (fun a' w' h3=>ih (listed.setIfInBounds j true) a' w' (fun k ok hk' hki hunk hno=>hfree k ok hk' hki ?_ hno) (ready_mono hr (Ne.symm hji)) (fun a'' he w'' hR=>hp a'' (fun x hx=>by rw [he x hx,h3.1 x hx]) w'' hR) ?_) h2
   ·by_cases hjk:j = k
    ·subst hjk; exact hun
    ·rw [Array.getD_eq_getD_getElem?,Array.getElem?_setIfInBounds_ne hjk,← Array.getD_eq_getD_getElem?] at hunk
     exact hunk
   ·rw [Array.setIfInBounds_comm _ _ hji]
    exact h3.2
def Still (P:Program) {α:Type} (s:Sem α):Prop:=∀ w v w',s.run P w = .ok v w' → w' = w
theorem Still.pure {P:Program} {α:Type} (a:α):Still P (pure a:Sem α):=fun w v w' h=>by
 simp only [Sem.run_pure] at h
 cases h
 rfl
theorem Still.bind {P:Program} {α β:Type} {s:Sem α} {f:α → Sem β} (h:Still P s) (h':∀ a,Still P (f a)):Still P (s >>= f):=fun w v w' hr=>by
 rw [Sem.run_bind] at hr
 cases hs:s.run P w with
 | ok a w1 =>
  rw [hs] at hr
  have:=h _ _ _ hs
  subst this
  exact h' a _ _ _ hr
 | halt _ _=>rw [hs] at hr; cases hr
theorem Still.load1 {P:Program} (a:Addr):Still P (Go.load a):=fun w v w' h=>by
 unfold Go.load at h
 simp only [Sem.run] at h
 repeat' split at h
 all_goals first | (cases h; rfl) | (cases h)
theorem Still.program {P:Program}:Still P Go.program:=fun w v w' h=>by
 unfold Go.program at h
 simp only [Sem.run] at h
 cases h; rfl
theorem Still.halt {P:Program} {α:Type} (x):Still P (Sem.halt x:Sem α):=fun w v w' h=>by
 simp only [Sem.run] at h
 cases h
theorem Still.loadCells {P:Program} (a:Addr):∀ (n i:Nat) (acc:Array Value),Still P (loadCellsFrom a i n acc)
 | 0,i,acc=>Still.pure _
 | n + 1,i,acc=>Still.bind (Still.load1 _) fun v=>Still.loadCells a n (i + 1) _
theorem Still.typeInfo {P:Program} (t:TypeId):Still P (typeInfo t):=Still.bind Still.program fun p=>by
 split
 ·exact Still.pure _
 ·exact Still.halt _
theorem Still.underlying {P:Program} (t:TypeId):Still P (underlying t):=Still.bind Still.program fun p=>by
 split
 ·exact Still.pure _
 ·exact Still.halt _
theorem Still.loadVar {P:Program} (t:TypeId) (a:Addr):Still P (loadVar t a):=by
 unfold Go.loadVar
 refine Still.bind (Still.bind (Still.underlying t) fun d=>?_) fun b=>?_
 ·split <;> exact Still.pure _
 ·split
  ·exact Still.bind (Still.bind (Still.typeInfo t) fun i=>Still.pure _) fun n=>Still.bind (Still.loadCells a _ _ _) fun v=>Still.pure _
  ·exact Still.load1 _
theorem Still.loadAt {P:Program} (t:TypeId) (v:Value):Still P (Instr.loadAt t v):=by
 unfold Instr.loadAt
 refine Still.bind ?_ fun ad=>Still.loadVar t ad
 unfold Instr.sureAddr
 split
 ·exact Still.pure _
 ·exact Still.halt _
theorem Still.execLoad {P:Program} {o:Oper} {ρ:Operand → Value} (h:isLoad o.op = true) {w w':World} {nx:Next} (hr:(execOp ρ o).run P w = .ok nx w'):w' = w ∧ ∃ u,nx = .value u:=by
 unfold isLoad at h
 split at h
 ·rename_i t x hop
  simp only [execOp,hop] at hr
  rw [Sem.run_bind] at hr
  cases hs:(Instr.loadAt t (ρ x)).run P w with
  | ok u w1 =>
   rw [hs] at hr
   have:=Still.loadAt t (ρ x) _ _ _ hs
   subst this
   have hr:(Result.ok (Next.value u) w1:Result Next) = .ok nx w':=hr
   cases hr
   exact ⟨rfl,u,rfl⟩
  | halt _ _=>rw [hs] at hr; cases hr
 ·cases h
def Pre (w w':World):Prop:=∀ k,k < w.heap.size → w'.heap[k]? = w.heap[k]?
theorem Pre.refl (w:World):Pre w w:=fun _ _=>rfl
theorem Pre.lt {w w':World} (h:Pre w w') {k:Nat} (hk:k < w.heap.size):k < w'.heap.size:=by
 have:=h k hk
 rw [Array.getElem?_eq_getElem hk] at this
 exact jQm this
theorem Pre.trans {w w' w'':World} (h:Pre w w') (h':Pre w' w''):Pre w w'':=fun k hk=>(h' k (h.lt hk)).trans (h k hk)
def Quiet (P:Program) {α:Type} (s:Sem α):Prop:=∀ w v w',s.run P w = .ok v w' → Pre w w'
theorem Still.quiet {P:Program} {α:Type} {s:Sem α} (h:Still P s):Quiet P s:=fun w v w' hr=>by
 rw [h w v w' hr]
 exact Pre.refl w
theorem Quiet.bind {P:Program} {α β:Type} {s:Sem α} {f:α → Sem β} (h:Quiet P s) (h':∀ a,Quiet P (f a)):Quiet P (s >>= f):=fun w v w' hr=>by
 rw [Sem.run_bind] at hr
 cases hs:s.run P w with
 | ok a w1 =>
  rw [hs] at hr
  exact (h _ _ _ hs).trans (h' a _ _ _ hr)
 | halt _ _=>rw [hs] at hr; cases hr
theorem Quiet.pure {P:Program} {α:Type} (a:α):Quiet P (pure a:Sem α):=(Still.pure a).quiet
theorem Quiet.halt {P:Program} {α:Type} (x):Quiet P (Sem.halt x:Sem α):=(Still.halt x).quiet
theorem Quiet.newRow {P:Program} (t:TypeId) (cs:Array Value):Quiet P (newRow t cs):=fun w v w' hr=>by
 simp [Go.newRow] at hr
 obtain ⟨_,rfl⟩:=hr
 intro k hk
 show (w.heap.push _)[k]? = _
 rw [Array.getElem?_push,if_neg (by omega)]
theorem Still.zeroValue {P:Program} (t:TypeId):Still P (zeroValue t):=Still.bind (Still.typeInfo t) fun i=>by
 split
 ·exact Still.pure _
 ·exact Still.halt _
theorem Still.sizeOf {P:Program} (t:TypeId):Still P (Go.sizeOf t):=Still.bind (Still.typeInfo t) fun i=>Still.pure _
theorem Quiet.alloc {P:Program} (t:TypeId):Quiet P (Instr.alloc t true (.tuple #[])):=by
 unfold Instr.alloc
 exact Quiet.bind (Still.zeroValue t).quiet fun z=>Quiet.bind (Quiet.newRow _ _) fun a=>Quiet.pure _
theorem Quiet.buildSlice {P:Program} (t:TypeId) (len:Nat) (parts:Array (Nat × Value)):Quiet P (Instr.buildSlice t len parts):=by
 unfold Instr.buildSlice
 repeat' (first | exact Quiet.halt _ | exact Quiet.pure _ | exact (Still.zeroValue _).quiet | exact (Still.sizeOf _).quiet | exact (Still.underlying _).quiet | exact Quiet.newRow _ _ | (refine Quiet.bind ?_ fun _=>?_) | split | (dsimp only; split))
theorem quiet_val {P:Program} {s:Sem Value} {nx:Next} {w w':World} (h:Quiet P s) (hr:(do pure (Next.value (← s)):Sem Next).run P w = .ok nx w'):Pre w w' ∧ ∃ u,nx = .value u:=by
 rw [Sem.run_bind] at hr
 cases hs:s.run P w with
 | ok u w1 =>
  rw [hs] at hr
  have hr:(Result.ok (Next.value u) w1:Result Next) = .ok nx w':=hr
  cases hr
  exact ⟨h _ _ _ hs,u,rfl⟩
 | halt _ _=>rw [hs] at hr; cases hr
def isQuiet (C:Ctx) (o:Oper):Bool:=isLoad o.op || jX7 C o
theorem quiet_run {o:Oper} {ρ:Operand → Value} (h:isQuiet C o = true) {P:Program} {w w':World} {nx:Next} (hr:(execOp ρ o).run P w = .ok nx w'):Pre w w' ∧ ∃ u,nx = .value u:=by
 unfold isQuiet at h
 rw [Bool.or_eq_true] at h
 rcases h with h | h
 ·obtain ⟨e,hu⟩:=Still.execLoad h hr
  subst e
  exact ⟨Pre.refl _,hu⟩
 ·unfold jX7 at h
  rw [Bool.and_eq_true] at h
  have h:=h.2
  split at h
  ·rename_i t ht
   simp only [execOp,ht] at hr
   exact quiet_val (Quiet.alloc t) hr
  ·rename_i t len parts ht
   simp only [execOp,ht] at hr
   exact quiet_val (Quiet.buildSlice _ _ _) hr
  ·cases h
def Pref (P:Program) (b:Nat) {α:Type} (s:Sem α):Prop:=∀ w w' v w1,(∃ (c:Array Value) (e:TypeId) (f:Nat × Nat),w.heap[b]? = some (.cells c e f) ∧ w'.heap[b]? = some (.cells c e f)) → s.run P w = .ok v w1 → w1 = w ∧ s.run P w' = .ok v w'
theorem Pref.pure {P:Program} {b:Nat} {α:Type} (a:α):Pref P b (pure a:Sem α):=fun w w' v w1 _ h=>by
 simp only [Sem.run_pure] at h
 cases h
 exact ⟨rfl,by simp⟩
theorem Pref.bind {P:Program} {b:Nat} {α β:Type} {s:Sem α} {f:α → Sem β} (h:Pref P b s) (h':∀ a,Pref P b (f a)):Pref P b (s >>= f):=fun w w' v w1 hb hr=>by
 rw [Sem.run_bind] at hr
 cases hs:s.run P w with
 | ok a w2 =>
  rw [hs] at hr
  obtain ⟨rfl,h1⟩:=h _ _ _ _ hb hs
  obtain ⟨rfl,h2⟩:=h' a _ _ _ _ hb hr
  refine ⟨rfl,?_⟩
  rw [Sem.run_bind,h1]
  exact h2
 | halt _ _=>rw [hs] at hr; cases hr
theorem Pref.halt {P:Program} {b:Nat} {α:Type} (x):Pref P b (Sem.halt x:Sem α):=fun w w' v w1 _ h=>by
 simp only [Sem.run] at h
 cases h
theorem Pref.program {P:Program} {b:Nat}:Pref P b Go.program:=fun w w' v w1 _ h=>by
 unfold Go.program at h ⊢
 simp only [Sem.run] at h ⊢
 cases h
 exact ⟨rfl,rfl⟩
theorem Pref.typeInfo {P:Program} {b:Nat} (t:TypeId):Pref P b (typeInfo t):=Pref.bind Pref.program fun p=>by
 split
 ·exact Pref.pure _
 ·exact Pref.halt _
theorem Pref.underlying {P:Program} {b:Nat} (t:TypeId):Pref P b (underlying t):=Pref.bind Pref.program fun p=>by
 split
 ·exact Pref.pure _
 ·exact Pref.halt _
theorem Pref.load1 {P:Program} {b:Nat} (ad:Addr) (hb:ad.block = b):Pref P b (Go.load ad):=fun w w' v w1 ⟨c,e,f,h1,h2⟩ hr=>by
 subst hb
 refine ⟨Still.load1 _ _ _ _ hr,?_⟩
 have e1:∀ at',w.farLoad P ad at' = .error (w.noCell ad "load: no such cell"):=fun at'=>by unfold World.farLoad; rw [h1]
 have ec:w'.cell? ad = w.cell? ad:=by unfold World.cell?; rw [h1,h2]
 unfold Go.load at hr ⊢
 simp only [Sem.run,e1] at hr
 simp only [Sem.run,ec]
 split at hr
 ·rename_i u hu
  cases hr
  first | rfl | rw [hu]
 ·cases hr
theorem Pref.loadCells {P:Program} {b:Nat} (ad:Addr) (hb:ad.block = b):∀ (n i:Nat) (acc:Array Value),Pref P b (loadCellsFrom ad i n acc)
 | 0,i,acc=>Pref.pure _
 | n + 1,i,acc=>Pref.bind (Pref.load1 _ (by rw [← hb]; unfold Addr.add; split <;> rfl)) fun v=>Pref.loadCells ad hb n (i + 1) _
theorem Pref.loadVar {P:Program} {b:Nat} (t:TypeId) (ad:Addr) (hb:ad.block = b):Pref P b (Go.loadVar t ad):=by
 unfold Go.loadVar
 refine Pref.bind (Pref.bind (Pref.underlying t) fun d=>?_) fun b'=>?_
 ·split <;> exact Pref.pure _
 ·split
  ·exact Pref.bind (Pref.bind (Pref.typeInfo t) fun i=>Pref.pure _) fun n=>Pref.bind (Pref.loadCells ad hb _ _ _) fun v=>Pref.pure _
  ·exact Pref.load1 _ hb
def Kept (g:Nat) (w w':World):Prop:=w'.heap[g]? = w.heap[g]? ∧ w.heap.size ≤ w'.heap.size ∧ ∀ (b:Nat) (c:Array Value) (e:TypeId) (f:Nat × Nat),w.heap[b]? = some (.cells c e f) → ∃ c':Array Value,w'.heap[b]? = some (.cells c' e f)
theorem Kept.refl (g:Nat) (w:World):Kept g w w:=⟨rfl,Nat.le_refl _,fun _ c _ _ h=>⟨c,h⟩⟩
theorem Kept.trans {g:Nat} {w w' w'':World} (h:Kept g w w') (h':Kept g w' w''):Kept g w w'' :=
 ⟨h'.1.trans h.1,Nat.le_trans h.2.1 h'.2.1,fun b c e f hb=>by
   obtain ⟨c1,h1⟩:=h.2.2 b c e f hb
   exact h'.2.2 b c1 e f h1⟩
theorem Pre.kept {g:Nat} {w w':World} (h:Pre w w') (hg:g < w.heap.size):Kept g w w':=⟨h g hg,by
 rcases Nat.lt_or_ge w'.heap.size w.heap.size with h1 | h1
 ·have:=h.lt h1
  omega
 ·exact h1,fun b c e f hb=>⟨c,(h b (jQm hb)).trans hb⟩⟩
def Away (g:Nat) (w:World) (v:Value):Prop:=∀ ad,v = .pointer (some ad) → ad.block ≠ g ∧ ∃ (c:Array Value) (e:TypeId) (f:Nat × Nat),w.heap[ad.block]? = some (.cells c e f)
theorem Away.mono {g:Nat} {w w':World} {v:Value} (h:Away g w v) (hk:Kept g w w'):Away g w' v:=fun ad had=>by
 obtain ⟨h1,c,e,f,h2⟩:=h ad had
 obtain ⟨c',h3⟩:=hk.2.2 _ _ _ _ h2
 exact ⟨h1,c',e,f,h3⟩
theorem store1_kept {P:Program} {g:Nat} {ad:Addr} {v:Value} {w w':World} {u:Unit} (hb:ad.block ≠ g) (hc:∃ (c:Array Value) (e:TypeId) (f:Nat × Nat),w.heap[ad.block]? = some (.cells c e f)) (hr:(Go.store ad v).run P w = .ok u w'):Kept g w w':=by
 obtain ⟨c,e,f,hc⟩:=hc
 have far:∀ x,w.farStore P ad x false = .error (w.noCell ad "store: no such cell"):=fun x=>by unfold World.farStore; rw [hc]
 have keep:Kept g w (w.setCell ad v):=by
  refine ⟨?_,?_,fun b c1 e1 f1 h1=>?_⟩
  ·unfold World.setCell
   simp only [Array.getElem?_modify]
   rw [if_neg hb]
  ·unfold World.setCell
   simp
  ·unfold World.setCell
   simp only [Array.getElem?_modify]
   by_cases hbb:ad.block = b
   ·subst hbb
    rw [if_pos rfl,h1]
    exact ⟨_,rfl⟩
   ·rw [if_neg hbb]
    exact ⟨c1,h1⟩
 unfold Go.store at hr
 cases v <;> simp only [Sem.run] at hr <;> first
  | (cases hr; done)
  | (split at hr
     ·split at hr
      ·cases hr
      ·simp only [Result.ok.injEq] at hr
       rw [← hr.2]
       exact keep
     ·split at hr
      ·rename_i hfs
       first
        | (rw [far] at hfs; cases hfs)
        | (rw [show (Go.Mode.plain == Go.Mode.atomic) = false from rfl,far] at hfs; cases hfs)
      ·cases hr)
theorem storeCells_kept {P:Program} {g:Nat} {ad:Addr} (hb:ad.block ≠ g):∀ (vs:List Value) (i:Nat) {w w':World} {u:Unit},(∃ (c:Array Value) (e:TypeId) (f:Nat × Nat),w.heap[ad.block]? = some (.cells c e f)) → (storeCells ad vs i).run P w = .ok u w' → Kept g w w'
 | [],i,w,w',u,_,hr=>by
  unfold storeCells at hr
  simp only [Sem.run_pure] at hr
  cases hr
  exact Kept.refl g w
 | v :: vs,i,w,w',u,hc,hr=>by
  unfold storeCells at hr
  rw [Sem.run_bind] at hr
  cases hs:(Go.store (ad.add i) v).run P w with
  | ok u1 w1 =>
   rw [hs] at hr
   have hab:(ad.add i).block = ad.block:=by unfold Addr.add; split <;> rfl
   have h1:=store1_kept (g:=g) (by rw [hab]; exact hb) (by rw [hab]; exact hc) hs
   obtain ⟨c,e,f,hc⟩:=hc
   obtain ⟨c1,hc1⟩:=h1.2.2 _ _ _ _ hc
   exact h1.trans (storeCells_kept hb vs (i + 1) ⟨c1,e,f,hc1⟩ hr)
  | halt _ _=>rw [hs] at hr; cases hr
theorem storeAt_kept {P:Program} {g:Nat} {t:TypeId} {ad v:Value} {w w':World} {u:Unit} (ha:Away g w ad) (hr:(Instr.storeAt t ad v).run P w = .ok u w'):Kept g w w':=by
 unfold Instr.storeAt at hr
 cases ad with
 | pointer o =>
  cases o with
  | none=>simp [Instr.sureAddr,stuck,Sem.run_bind,Sem.run] at hr
  | some ad =>
   obtain ⟨hb,hc⟩:=ha ad rfl
   simp only [Instr.sureAddr,Sem.run_bind,Sem.run_pure,Result.andThen_ok] at hr
   unfold storeVar at hr
   rw [Sem.run_bind] at hr
   cases hs:(Go.sizeOf t).run P w with
   | ok n w1 =>
    rw [hs] at hr
    have hw1:w1 = w:=Still.sizeOf t _ _ _ hs
    subst hw1
    simp only [Result.andThen_ok] at hr
    split at hr
    ·simp [stuck,Sem.run_bind,Sem.run] at hr
    ·exact storeCells_kept hb _ _ hc hr
   | halt _ _=>rw [hs] at hr; cases hr
 | _=>simp [Instr.sureAddr,stuck,Sem.run_bind,Sem.run] at hr
def LayV (all:Array Oper) (q p:Nat):Prop:=∃ oq c,all[q]? = some oq ∧ oq.op = .alloc c ∧ oq.guard = none ∧ oq.dst = some p ∧ ∀ r o,all[r]? = some o → r ≠ q → o.dst ≠ some p
def FreshSt (SP:Nat → Nat → Prop) (oj:Oper):Prop:=∃ t p v q,oj.op = .store t (.tmp p) v ∧ SP q p ∧ oj.after.any (fun e=>Region.binds .any e && e.on == q) = true
theorem layVar_spec {all:Array Oper} {L:List Nat} {q p:Nat} (h:layVar all L q p = true):memS q L = false ∧ LayV all q p:=by
 unfold layVar at h
 rw [Bool.and_eq_true] at h
 obtain ⟨h0,h⟩:=h
 refine ⟨by simpa using h0,?_⟩
 split at h
 ·rename_i oq hoq
  simp only [Bool.and_eq_true,List.all_eq_true,List.mem_range,Option.isNone_iff_eq_none,beq_iff_eq] at h
  obtain ⟨⟨⟨h1,h2⟩,h3⟩,h4⟩:=h
  split at h1
  ·rename_i c hc
   refine ⟨oq,c,hoq,hc,h2,h3,fun r o hr hne hd=>?_⟩
   have hlt:r < all.size:=by
    rcases Nat.lt_or_ge r all.size with h' | h'
    ·exact h'
    ·rw [Array.getElem?_eq_none h'] at hr; cases hr
   have:=h4 r hlt
   rw [hr] at this
   simp only [hd,beq_self_eq_true,Bool.not_true,Bool.or_false,beq_iff_eq] at this
   exact hne this
  ·cases h1
 ·cases h
theorem freshSt_spec {all:Array Oper} {L:List Nat} {o:Oper} (h:freshSt all L o = true):FreshSt (fun q p=>layVar all L q p = true) o:=by
 unfold freshSt at h
 split at h
 ·rename_i t p v hop
  rw [List.any_eq_true] at h
  obtain ⟨q,_,h⟩:=h
  rw [Bool.and_eq_true] at h
  exact ⟨t,p,v,q,hop,h.1,h.2⟩
 ·cases h
theorem alloc_away {P:Program} {g:Nat} {oj:Oper} {c:TypeId} {ρ:Operand → Value} {u:Value} {w w':World} (hop:oj.op = .alloc c) (hg:g < w.heap.size) (hr:(execOp ρ oj).run P w = .ok (.value u) w'):Away g w' u:=by
 simp only [execOp,hop] at hr
 rw [Sem.run_bind] at hr
 cases hs:(Instr.alloc c true (.tuple #[])).run P w with
 | ok x w1 =>
  rw [hs] at hr
  have hr:(Result.ok (Next.value x) w1:Result Next) = .ok (.value u) w':=hr
  cases hr
  unfold Instr.alloc at hs
  rw [Sem.run_bind] at hs
  cases hz:(Go.zeroValue c).run P w with
  | ok z w2 =>
   rw [hz] at hs
   have hw2:w2 = w:=Still.zeroValue c _ _ _ hz
   subst hw2
   simp [Go.newVar,Go.newRow] at hs
   obtain ⟨rfl,rfl⟩:=hs
   intro ad had
   simp only [Value.pointer.injEq,Option.some.injEq] at had
   subst had
   refine ⟨by show w2.heap.size ≠ g; omega,z.cells,c,(0,0),?_⟩
   show (w2.heap.push _)[w2.heap.size]? = _
   simp
  | halt _ _=>rw [hz] at hs; cases hs
 | halt _ _=>rw [hs] at hr; cases hr
theorem away_undef (g:Nat) (w:World):Away g w undef:=fun ad h=>by cases h
theorem away_put {all:Array Oper} {SP:Nat → Nat → Prop} (hSP:∀ q p,SP q p → LayV all q p) {g j:Nat} {oj:Oper} (hj:all[j]? = some oj) {a:Act} {u:Value} {w w':World} {P0:Nat → Prop} (hk:Kept g w w') (hu:∀ p,SP j p → Away g w' u) (haw:∀ q p,SP q p → P0 q → Away g w (a.eval (.tmp p))) :
 ∀ q p,SP q p → (P0 q ∨ q = j) → Away g w' ((a.put oj.dst u).eval (.tmp p)):=by
 intro q p hqp hq
 obtain ⟨oq,c,h1,h2,h3,h4,h5⟩:=hSP q p hqp
 by_cases hqj:q = j
 ·subst hqj
  rw [hj] at h1
  simp only [Option.some.injEq] at h1
  subst h1
  rw [h4]
  by_cases hlt:p < a.tmps.size
  ·have:(a.put (some p) u).eval (.tmp p) = u:=by simp [Act.put,Act.eval,Array.getD,hlt]
   rw [this]
   exact hu p hqp
  ·have:(a.put (some p) u).eval (.tmp p) = undef:=by
    simp only [Act.put,Act.eval]
    rw [Array.getD_eq_getD_getElem?,Array.getElem?_eq_none (by simp; omega)]
    rfl
   rw [this]
   exact away_undef g w'
 ·have hq':=hq.resolve_right hqj
  rw [Act.eval_put (fun d hd hx=>by
   simp only [Operand.tmp.injEq] at hx
   subst hx
   exact h5 j oj hj (Ne.symm hqj) hd)]
  exact (haw q p hqp hq').mono hk
theorem chain_op {ro:Option Nat} {P:Program} {all:Array Oper} {SP:Nat → Nat → Prop} (hSP:∀ q p,SP q p → LayV all q p) {g:Nat} {oj:Oper} {j:Nat} {K:Act → World → Prop} {Q:Exit → Act → World → Prop} (hP:∀ c (a:Act) d v w,Q (.panic c) (a.put d v) w ↔ Q (.panic c) a w)
 (hj:all[j]? = some oj) (hnd:∀ c,oj.op ≠ .defer c) {P0:Nat → Prop} (hl:isQuiet C oj = true ∨ ∃ t p v q,oj.op = .store t (.tmp p) v ∧ SP q p ∧ P0 q) (hg:g < w.heap.size) (haw:∀ q p,SP q p → P0 q → Away g w (a.eval (.tmp p)))
 (hh:wpOpIn (Fw ro) 0 P all Q j K a w):wpOpIn (Fw ro) 0 P all Q j (fun a' w'=>(Kept g w w' ∧ ∀ q p,SP q p → (P0 q ∨ q = j) → Away g w' (a'.eval (.tmp p))) ∧ K a' w') a w:=by
 unfold wpOpIn at hh ⊢
 rw [hj] at hh ⊢
 simp only at hh ⊢
 split
 ·rename_i hw
  rw [if_pos hw] at hh
  refine ⟨fun _ _=>trivial,?_⟩
  have hh:=hh.2
  rw [Oper.semAt_eq _ _ _ hnd] at hh ⊢
  cases hr:(execOp a.eval oj).run P w with
  | ok nx w' =>
   rw [hr] at hh
   rcases hl with hl | ⟨t,p,v,q,hop,hqp,hq⟩
   ·obtain ⟨e,u,rfl⟩:=quiet_run hl hr
    have hk:=e.kept hg
    refine ⟨⟨hk,away_put hSP hj hk (fun p hp=>?_) haw⟩,hh⟩
    obtain ⟨oq,c,h1,h2,_⟩:=hSP j p hp
    rw [hj] at h1
    simp only [Option.some.injEq] at h1
    subst h1
    exact alloc_away h2 hg hr
   ·have hs:∃ u0:Unit,(Instr.storeAt t (a.eval (.tmp p)) (a.eval v)).run P w = .ok u0 w' ∧ nx = .skip:=by
     simp only [execOp,hop] at hr
     rw [Sem.run_bind] at hr
     cases hs:(Instr.storeAt t (a.eval (.tmp p)) (a.eval v)).run P w with
     | ok x w1 =>
      rw [hs] at hr
      have hr:(Result.ok Next.skip w1:Result Next) = .ok nx w':=hr
      cases hr
      exact ⟨x,rfl,rfl⟩
     | halt _ _=>rw [hs] at hr; cases hr
    obtain ⟨u0,hs,rfl⟩:=hs
    have hk:=storeAt_kept (haw q p hqp hq) hs
    refine ⟨⟨hk,away_put hSP hj hk (fun p hp=>?_) haw⟩,hh⟩
    exact away_undef g w'
  | halt st w' =>
   rw [hr] at hh
   cases st <;> simp only [Oper.uponIn] at hh ⊢
   case panic u=>first | exact (hP _ _ _ _ _).2 hh | exact (hP _ _ _ _ _).1 hh | exact hh
 ·rename_i hw
  rw [if_neg hw] at hh
  have hk:=Kept.refl g w
  exact ⟨fun _ _=>trivial,⟨hk,away_put hSP hj hk (fun p _=>away_undef g w) haw⟩,hh.2⟩
theorem load_kept {P:Program} {o:Oper} {t:TypeId} {x:Operand} {ρ:Operand → Value} {g off:Nat} {u:Value} {w w1 w':World} {c:Array Value} {e:TypeId} {f:Nat × Nat} (hop:o.op = .load t x) (hx:ρ x = .pointer (some ⟨g,off,none⟩)) (hb:w.heap[g]? = some (.cells c e f)) (hp:Kept g w w')
 (hr:(execOp ρ o).run P w = .ok (.value u) w1):(execOp ρ o).run P w' = .ok (.value u) w':=by
 have hb':w'.heap[g]? = some (.cells c e f):=hp.1.trans hb
 have hP:Pref P g (do pure (Next.value (← Instr.loadAt t (.pointer (some ⟨g,off,none⟩)))):Sem Next):=Pref.bind (Pref.loadVar t ⟨g,off,none⟩ rfl) fun v=>Pref.pure _
 simp only [execOp,hop,hx] at hr ⊢
 exact (hP _ _ _ _ ⟨c,e,f,hb,hb'⟩ hr).2
theorem freeLdD_spec {all:Array Oper} {L D:List Nat} {i:Nat} {oi:Oper} (h:freeLdD C all L D i oi = true) :
 (∀ d ∈ D,memS d L = false ∧ (d = i ∨ hasDep all D d = true)) ∧ ∀ j oj,all[j]? = some oj → j ≠ i → memS j L = false → memS j D = false → (isQuiet C oj = true ∨ FreshSt (fun q p=>layVar all L q p = true) oj) ∧ oi.apart all oj = true:=by
 unfold freeLdD at h
 simp only [Bool.and_eq_true,List.all_eq_true,List.mem_range] at h
 obtain ⟨h1,h2⟩:=h
 refine ⟨fun d hd=>?_,fun j oj hj hji hL hD=>?_⟩
 ·have:=h1 d hd
  simp only [Bool.or_eq_true,beq_iff_eq,Bool.not_eq_true'] at this
  exact this
 ·have hlt:j < all.size:=by
   rcases Nat.lt_or_ge j all.size with h' | h'
   ·exact h'
   ·rw [Array.getElem?_eq_none h'] at hj; cases hj
  have:=h2 j hlt
  rw [hj] at this
  simp only [hL,hD,Bool.or_false,Bool.or_eq_true,beq_iff_eq,Bool.and_eq_true] at this
  rcases this with h | h
  ·exact absurd h hji
  ·refine ⟨?_,h.2⟩
   rcases h.1 with h' | h'
   ·exact .inl (by unfold isQuiet; rw [Bool.or_eq_true]; exact h')
   ·exact .inr (freshSt_spec h')
theorem ld_first {ro:Option Nat} {P:Program} {all:Array Oper} {i:Nat} {oi:Oper} {v:Value} {R:World → Prop} {Q:Exit → Act → World → Prop} (hP:∀ c (a:Act) d v w,Q (.panic c) (a.put d v) w ↔ Q (.panic c) a w) (hi:all[i]? = some oi) (hg:oi.guard = none)
 (hndi:∀ c,oi.op ≠ .defer c) (hnd:∀ (j:Nat) (o:Oper) (c:Call),all[j]? = some o → o.op ≠ .defer c) (hns:∀ (j:Nat) (o:Oper) cs b,all[j]? = some o → o.op ≠ .select cs b) {D:List Nat} (hD:∀ d ∈ D,d = i ∨ hasDep all D d = true)
 {SP:Nat → Nat → Prop} (hSP:∀ q p,SP q p → LayV all q p) {g:Nat} :
 ∀ (fuel:Nat) (listed:Array Bool) (a:Act) (w:World),(∀ d ∈ D,listed.getD d false = false) →
  (∀ j oj,all[j]? = some oj → j ≠ i → listed.getD j true = false → memS j D = false → (isQuiet C oj = true ∨ FreshSt SP oj) ∧ oi.apart all oj = true) → i ∈ Region.ready .any all listed →
  g < w.heap.size → (∀ q p,SP q p → listed.getD q false = true → Away g w (a.eval (.tmp p))) →
  (∀ a':Act,(∀ x ∈ oi.op.operands,a'.eval x = a.eval x) → ∀ w',Kept g w w' → (execOp a'.eval oi).run P w' = .ok (.value v) w') →
  wpAnyR ro P all Q R fuel (listed.setIfInBounds i true) (a.put oi.dst v) w → wpAnyR ro P all Q R (fuel + 1) listed a w:=by
 have own:∀ (K:Act → World → Prop) (a:Act) (w:World),(execOp a.eval oi).run P w = .ok (.value v) w → K (a.put oi.dst v) w → wpOpIn (Fw ro) 0 P all Q i K a w:=by
  intro K a w hp hk
  unfold wpOpIn
  rw [hi]
  simp only
  rw [if_pos (by simp [Region.wanted,hg])]
  refine ⟨fun _ _=>trivial,?_⟩
  rw [Oper.semAt_eq _ _ _ hndi,hp]
  exact hk
 intro fuel
 induction fuel with
 | zero =>
  intro listed a w _ _ hr _ _ hp hk
  refine ⟨hk.1,fun he=>(by rw [he] at hr; cases hr),fun j hj=>?_⟩
  by_cases hji:j = i
  ·subst hji; exact own _ a w (hp a (fun _ _=>rfl) w (Kept.refl g w)) hk
  ·have:=ready_mono hj hji
   rw [hk.2.1] at this
   cases this
 | succ fuel ih =>
  intro listed a w hdl hfree hr hgw haw hp hk
  refine ⟨hk.1,fun he=>(by rw [he] at hr; cases hr),fun j hj=>?_⟩
  by_cases hji:j = i
  ·subst hji; exact own _ a w (hp a (fun _ _=>rfl) w (Kept.refl g w)) hk
  ·obtain ⟨hun,oj,hoj,hall⟩:=jZ1.1 hj
   have hjD:memS j D = false:=by
    cases hm:memS j D with
    | false=>rfl
    | true =>
     exfalso
     rcases hD j (jXk.1 hm) with h | h
     ·exact hji h
     ·unfold hasDep at h
      rw [hoj] at h
      simp only [Array.any_eq_true',Bool.and_eq_true] at h
      obtain ⟨e,he,hb,hd⟩:=h
      have h1:=hall e he hb
      rw [hdl e.on (jXk.1 hd)] at h1
      cases h1
   obtain ⟨hq,hap⟩:=hfree j oj hoj hji hun hjD
   have hq':isQuiet C oj = true ∨ ∃ t p v q,oj.op = .store t (.tmp p) v ∧ SP q p ∧ listed.getD q false = true:=by
    rcases hq with hq | ⟨t,p,v,q,h1,h2,h3⟩
    ·exact .inl hq
    ·refine .inr ⟨t,p,v,q,h1,h2,?_⟩
     simp only [Array.any_eq_true',Bool.and_eq_true,beq_iff_eq] at h3
     obtain ⟨e,he,hb,rfl⟩:=h3
     exact hall e he hb
   have h2:=chain_op (P0:=fun q=>listed.getD q false = true) hSP hP hoj (fun c=>hnd j oj c hoj) hq' hgw haw (other_op hP hap hoj (fun c=>hnd j oj c hoj) (fun cs b=>hns j oj cs b hoj) (hk.2.2 j (ready_mono hj hji)))
   refine wpOpIn_mono (fun a' w' h3=>?_) h2
   obtain ⟨⟨hpre,haw'⟩,h3⟩:=h3
   refine ih (listed.setIfInBounds j true) a' w' (fun d hd=>?_) (fun k ok hk' hki hunk hno=>hfree k ok hk' hki ?_ hno) (ready_mono hr (Ne.symm hji)) (Nat.lt_of_lt_of_le hgw hpre.2.1) (fun q p hqp hlq=>haw' q p hqp ?_) (fun a'' he w'' hw''=>hp a'' (fun x hx=>by rw [he x hx,h3.1 x hx]) w'' (hpre.trans hw'')) ?_
   ·have hne:j ≠ d:=fun e=>by subst e; rw [jXk.2 hd] at hjD; cases hjD
    rw [Array.getD_eq_getD_getElem?,Array.getElem?_setIfInBounds_ne hne,← Array.getD_eq_getD_getElem?]
    exact hdl d hd
   ·by_cases hjk:j = k
    ·subst hjk; exact hun
    ·rw [Array.getD_eq_getD_getElem?,Array.getElem?_setIfInBounds_ne hjk,← Array.getD_eq_getD_getElem?] at hunk
     exact hunk
   ·by_cases hjq:j = q
    ·exact .inr hjq.symm
    ·rw [Array.getD_eq_getD_getElem?,Array.getElem?_setIfInBounds_ne hjq,← Array.getD_eq_getD_getElem?] at hlq
     exact .inl hlq
   ·rw [Array.setIfInBounds_comm _ _ hji]
    exact h3.2
theorem ldFree_spec {s:St} {all:Array Oper} {L:List Nat} {i:Nat}:∀ {l:List Nat},ldFree C s all L l = some i → i ∈ l ∧ freeLd C s all L i = true
 | [],h=>by cases h
 | j :: l,h=>by
  unfold ldFree at h
  split at h
  ·rename_i hf
   simp only [Option.some.injEq] at h
   subst h
   exact ⟨List.mem_cons_self,hf⟩
  ·obtain ⟨h1,h2⟩:=ldFree_spec h
   exact ⟨List.mem_cons_of_mem _ h1,h2⟩
theorem freeLd_spec {s:St} {all:Array Oper} {L:List Nat} {i:Nat} {o:Oper} (ho:all[i]? = some o) (h:freeLd C s all L i = true) (hi:InvH C.P B w0 Ψ β s.heap w) (hf:RelFr Ψ β s.top a) :
 o.guard = none ∧ isLoad o.op = true ∧ freeLdD C all L (descs all L all.size [i]) i o = true ∧ ∃ u g,g < w.heap.size ∧ ¬ B g ∧ (execOp a.eval o).run C.P w = .ok (.value u) w ∧ ∀ a':Act,(∀ x ∈ o.op.operands,a'.eval x = a.eval x) → ∀ w',Kept g w w' → (execOp a'.eval o).run C.P w' = .ok (.value u) w':=by
 unfold freeLd at h
 rw [ho] at h
 simp only [Bool.and_eq_true,Option.isNone_iff_eq_none] at h
 obtain ⟨⟨⟨hld,hg⟩,hav⟩,hfd⟩:=h
 unfold isLd at hld
 split at hld
 ·rename_i t x hop
  split at hld
  ·rename_i k off hev
   unfold loadAV at hav
   rw [hop] at hav
   simp only at hav
   split at hav
   ·rename_i v0 hv0
    split at hv0
    ·rename_i r hr
     have hx:RelV Ψ β (ev s.top x) (a.eval x):=jXs hf x
     obtain ⟨_,_,_,v,Ψ1,w1,hrun,_,_⟩:=load_ok hi hx hr
     have hw1:=Still.loadAt t _ _ _ _ hrun
     subst hw1
     have hload:(execOp a.eval o).run C.P w1 = .ok (.value v) w1:=by
      simp only [execOp,hop]
      exact run_val hrun
     rw [hev] at hx hr
     obtain ⟨g,hβ,hxe⟩:=hx
     have hblk:∃ (c:Array Value) (e:TypeId) (f:Nat × Nat),w1.heap[g]? = some (.cells c e f) ∧ ¬ B g:=by
      unfold aload at hr
      simp only at hr
      split at hr
      ·rename_i cs hg'
       obtain ⟨g',c,e,b1,b2,b3,_⟩:=hi.blk k _ (jQc hg' (by simp))
       rw [hβ] at b1
       simp at b1
       subst b1
       exact ⟨_,_,_,b2,b3⟩
      ·rename_i u' y hg'
       obtain ⟨g',c,e,b1,b2,b3,_⟩:=hi.blk k _ (jQc hg' (by simp))
       rw [hβ] at b1
       simp at b1
       subst b1
       exact ⟨_,_,_,b2,b3⟩
      ·cases hr
     obtain ⟨c,e,f,hb,hnB⟩:=hblk
     refine ⟨hg,by unfold isLoad; rw [hop],hfd,v,g,jQm hb,hnB,hload,fun a' he w' hp=>?_⟩
     have hx':a'.eval x = .pointer (some ⟨g,off,none⟩):=by rw [he x (by rw [hop]; simp [Op.operands]),hxe]
     have hl2:(execOp a'.eval o).run C.P w1 = .ok (.value v) w1:=by
      rw [← hload]
      simp only [execOp,hop,hx',hxe]
     exact load_kept hop hx' hb hp hl2
    ·cases hv0
   ·cases hav
  ·cases hld
 ·cases hld
theorem rev_op {ro:Option Nat} {P:Program} {all:Array Oper} {oi oj:Oper} {v:Value} {j:Nat} {K:Act → World → Prop} {Q:Exit → Act → World → Prop} (hP:∀ c (a:Act) d v w,Q (.panic c) (a.put d v) w ↔ Q (.panic c) a w) (hap:oi.apart all oj = true)
 (hj:all[j]? = some oj) (hnd:∀ c,oj.op ≠ .defer c) (hns:∀ cs b,oj.op ≠ .select cs b) (hh:wpOpIn (Fw ro) 0 P all Q j (fun a' w'=>K (a'.put oi.dst v) w') a w) :
 wpOpIn (Fw ro) 0 P all Q j K (a.put oi.dst v) w:=by
 obtain ⟨h1,h2,h3⟩:=Oper.apart_spec hap
 have both:∀ u w',K ((a.put oj.dst u).put oi.dst v) w' → K ((a.put oi.dst v).put oj.dst u) w':=fun u w' hk=>by rw [Act.put_comm a v u h2]; exact hk
 have hwd:=wanted_put oj a oi.dst v h1
 unfold wpOpIn at hh ⊢
 rw [hj] at hh ⊢
 simp only at hh ⊢
 rw [hwd]
 by_cases hw:Region.wanted oj (yielded all a.tmps) = true
 ·rw [if_pos hw] at hh ⊢
  refine ⟨fun _ _=>trivial,?_⟩
  have hh:=hh.2
  rw [Oper.semAt_eq _ _ _ hnd] at hh ⊢
  rw [execOp_put oj hns a oi.dst v h1]
  generalize (execOp a.eval oj).run P w = res at hh ⊢
  rcases res with ⟨nx,w'⟩ | ⟨st,w'⟩
  ·cases nx <;> simp only [Oper.uponIn] at hh ⊢
   case value u=>exact both u w' hh
   case skip=>exact both undef w' hh
   case defer d =>
    rw [← Act.put_comm _ v undef h2,← Act.put_defers] at hh
    exact hh
   case enter f args =>
    exact ⟨hh.1,CallsIn.mono hh.2 fun e w'' he=>by
     cases e with
     | returned u=>exact both u w'' he
     | panicked c=>first | exact (hP _ _ _ _ _).2 he | exact (hP _ _ _ _ _).1 he | exact he
     | outgrown=>exact he⟩
   case row r args=>exact ⟨hh.1,RowsIn.mono hh.2 fun u w'' he=>both u w'' he⟩
   case round l f tmps assign body =>
    exact ⟨hh.1,RoundIn.mono hh.2 fun e w'' he=>by
     cases e with
     | returned u=>exact both u w'' he
     | panicked c=>first | exact (hP _ _ _ _ _).2 he | exact (hP _ _ _ _ _).1 he | exact he
     | outgrown=>exact he⟩
  ·cases st <;> simp only [Oper.uponIn] at hh ⊢
   case panic u=>first | exact (hP _ _ _ _ _).2 hh | exact (hP _ _ _ _ _).1 hh | exact hh
 ·rw [if_neg hw] at hh ⊢
  exact ⟨fun _ _=>trivial,both undef w hh.2⟩
theorem dia_first {ro:Option Nat} {P:Program} {all:Array Oper} {i f:Nat} {oi o:Oper} {v0:Value} {R:World → Prop} {Q:Exit → Act → World → Prop} (hP:∀ c (a:Act) d v w,Q (.panic c) (a.put d v) w ↔ Q (.panic c) a w) (hN:∀ c a w,¬ Q (.panic c) a w) (hi:all[i]? = some oi) (hfo:all[f]? = some o) (hg:oi.guard = none)
 (hlo:isLoad oi.op = true) (hnd:∀ (j:Nat) (o:Oper) (c:Call),all[j]? = some o → o.op ≠ .defer c) (hns:∀ (j:Nat) (o:Oper) cs b,all[j]? = some o → o.op ≠ .select cs b) (hap:oi.apart all o = true) (hif:i ≠ f)
 {listed:Array Bool} {n:Nat} (hri:i ∈ Region.ready .any all listed) (hrf:f ∈ Region.ready .any all listed) (hall:∀ k ∈ Region.ready .any all listed,k = i ∨ k = f) (hafter:∀ k ∈ Region.ready .any all (listed.setIfInBounds i true),k = f)
 (hload:(execOp a.eval oi).run P w = .ok (.value v0) w) (hR:R w)
 (h:wpOpIn (Fw ro) 0 P all Q f (fun a1 w1=>wpAnyR ro P all Q R (n + 1) (listed.setIfInBounds f true) a1 w1 ∧ ∀ v1 w2,(execOp a1.eval oi).run P w1 = .ok (.value v1) w2 → v1 = v0) a w):wpAnyR ro P all Q R (n + 2) listed a w:=by
 refine ⟨hR,fun he=>(by rw [he] at hri; cases hri),fun k hk=>?_⟩
 rcases hall k hk with e | e
 ·subst e
  unfold wpOpIn
  rw [hi]
  simp only
  rw [if_pos (by simp [Region.wanted,hg])]
  refine ⟨fun _ _=>trivial,?_⟩
  rw [Oper.semAt_eq _ _ _ (fun c=>hnd _ _ c hi),hload]
  show wpAnyR ro P all Q R (n + 1) (listed.setIfInBounds k true) (a.put oi.dst v0) w
  have hf':=ready_mono hrf (Ne.symm hif)
  refine ⟨hR,fun he=>(by rw [he] at hf'; cases hf'),fun q hq=>?_⟩
  have hqf:=hafter q hq
  subst hqf
  refine rev_op hP hap hfo (fun c=>hnd _ _ c hfo) (fun cs b=>hns _ _ cs b hfo) (wpOpIn_mono (fun a1 w1 hh=>?_) h)
  obtain ⟨hA,hv⟩:=hh
  have hc:=hA.2.2 k (ready_mono hri hif)
  unfold wpOpIn at hc
  rw [hi] at hc
  simp only at hc
  rw [if_pos (by simp [Region.wanted,hg])] at hc
  have hc2:=hc.2
  clear hc
  rw [Oper.semAt_eq _ _ _ (fun c=>hnd _ _ c hi)] at hc2
  cases hr:(execOp a1.eval oi).run P w1 with
  | ok nx w' =>
   rw [hr] at hc2
   obtain ⟨e,u,rfl⟩:=Still.execLoad hlo hr
   subst e
   have:=hv _ _ hr
   subst this
   rw [Array.setIfInBounds_comm _ _ hif]
   exact hc2
  | halt st w' =>
   rw [hr] at hc2
   exfalso
   cases st <;> simp only [Oper.uponIn] at hc2
   case panic u=>exact (hN _ _ _ hc2).elim
 ·subst e
  exact wpOpIn_mono (fun a1 w1 hh=>hh.1) h
theorem slotS_spec {j:Nat} {fr fr1:List AV} {d:Option Tmp}:∀ n,slotS j fr fr1 d n = true → ∃ q,d ≠ some q ∧ fget fr q = .sl j ∧ fget fr1 q = .sl j
 | 0,h=>by cases h
 | q + 1,h=>by
  simp only [slotS,Bool.or_eq_true,Bool.and_eq_true] at h
  rcases h with ⟨⟨h1,h2⟩,h3⟩ | h
  ·have hs:∀ x:AV,isSl j x = true → x = .sl j:=fun x hx=>by
    unfold isSl at hx
    split at hx
    ·rw [Nat.eq_of_beq_eq_true hx]
    ·cases hx
   refine ⟨q,fun e=>?_,hs _ h2,hs _ h3⟩
   subst e
   simp [notDst] at h1
  ·exact slotS_spec q h
theorem sameD_val {t u:Ty} {x:t.den} {y:u.den} {Ψ2 Ψ3:Pr} {β1:List Value} {v0 v1:Value} (h:sameD t x u y = true) (h0:RelV Ψ2 β (.d t x) v0) (h1:RelV Ψ3 β1 (.d u y) v1):v1 = v0:=by
 unfold sameD at h
 split at h
 ·have e:=of_decide_eq_true h
  have a:=(jZt.1 h0).1
  have b:=(jZt.1 h1).1
  rw [a,b,e]
 ·rw [Bool.and_eq_true] at h
  have e1:=of_decide_eq_true h.1
  have e2:=of_decide_eq_true h.2
  have a:=(jQj.1 h0).1
  have b:=(jQj.1 h1).1
  rw [a,b,e1,e2]
 ·cases h
theorem sameAV_val {fr fr1:List AV} {d:Option Tmp} {x y:AV} {a1:Act} {Ψ1 Ψ2 Ψ3:Pr} {β1:List Value} {v0 v1:Value} (h:sameAV fr fr1 d x y = true) (hf:RelFr Ψ β fr a) (hf1:RelFr Ψ1 β1 fr1 a1) (hs:∀ q,d ≠ some q → a1.tmps[q]? = a.tmps[q]?)
 (h0:RelV Ψ2 β x v0) (h1:RelV Ψ3 β1 y v1):v1 = v0:=by
 unfold sameAV at h
 split at h
 ·have e0:v0 = .slice none 0 0:=h0
  have e1:v1 = .slice none 0 0:=h1
  rw [e0,e1]
 ·exact sameD_val h h0 h1
 ·rename_i j k
  simp only [Bool.and_eq_true,Nat.beq_eq] at h
  obtain ⟨rfl,h⟩:=h
  obtain ⟨q,hq,g0,g1⟩:=slotS_spec _ h
  have r0:=jXs hf (.tmp q)
  have r1:=jXs hf1 (.tmp q)
  have r0:RelV Ψ β (fget fr q) (a.eval (.tmp q)):=r0
  have r1:RelV Ψ1 β1 (fget fr1 q) (a1.eval (.tmp q)):=r1
  rw [g0] at r0
  rw [g1] at r1
  have ee:a1.eval (.tmp q) = a.eval (.tmp q):=by
   have:=hs q hq
   simp only [Act.eval,Array.getD_eq_getD_getElem?,this]
  have e1:β1[j]? = some (a1.eval (.tmp q)):=r1.1
  have e0:β[j]? = some (a.eval (.tmp q)):=r0.1
  have f0:β[j]? = some v0:=h0.1
  have f1:β1[j]? = some v1:=h1.1
  rw [e0] at f0
  rw [e1,ee] at f1
  simp only [Option.some.injEq] at f0 f1
  rw [← f0,← f1]
 ·cases h
theorem diaOf_spec {L:List Nat} {all:Array Oper} {s:St} {n:Nat} {R:List Nat} {i f:Nat} (h:diaOf C all L s n R = some (i,f)):(R = [i,f] ∨ R = [f,i]) ∧ diaOk C all L s i f = true ∧ (∃ m,n = m + 1) ∧ C.noPan = true:=by
 unfold diaOf at h
 split at h
 ·split at h
  ·cases h
  ·split at h
   ·cases h
   ·split at h
    ·rename_i hnp
     split at h
     ·rename_i hd
      simp only [Option.some.injEq,Prod.mk.injEq] at h
      obtain ⟨rfl,rfl⟩:=h
      exact ⟨.inl rfl,hd,⟨_,rfl⟩,hnp⟩
     ·split at h
      ·rename_i hd
       simp only [Option.some.injEq,Prod.mk.injEq] at h
       obtain ⟨rfl,rfl⟩:=h
       exact ⟨.inr rfl,hd,⟨_,rfl⟩,hnp⟩
      ·cases h
    ·cases h
 ·cases h
theorem diaOk_spec {L:List Nat} {all:Array Oper} {s:St} {i f:Nat} (h:diaOk C all L s i f = true):∃ oi o,all[i]? = some oi ∧ all[f]? = some o ∧ isLoad oi.op = true ∧ oi.guard = none ∧ (∃ t x r,oi.op = .load t x ∧ aload C s.heap t (ev s.top x) = some r) ∧ oi.apart all o = true ∧ i ≠ f ∧ jXw all (i :: L) all.size = [f]:=by
 unfold diaOk at h
 split at h
 ·rename_i oi o hi hf
  simp only [Bool.and_eq_true,Option.isNone_iff_eq_none] at h
  obtain ⟨⟨⟨⟨⟨h1,h2⟩,h3⟩,h4⟩,h5⟩,h6⟩:=h
  have hn:i ≠ f:=fun e=>by subst e; simp at h5
  refine ⟨oi,o,hi,hf,?_,h2,?_,h4,hn,?_⟩
  ·unfold isLd at h1
   split at h1
   ·rename_i t x hop; rw [hop]; rfl
   ·cases h1
  ·unfold loadAV at h3
   split at h3
   ·rename_i t x hop
    split at h3
    ·rename_i r hr
     exact ⟨t,x,r,hop,hr⟩
    ·cases h3
   ·cases h3
  ·split at h6
   ·rename_i g hg
    rw [hg,Nat.eq_of_beq_eq_true h6]
   ·cases h6
 ·cases h
theorem wpAnyIn_monoQ {F:Fence} {n:Nat} {P:Program} {md:Region.Mode} {ops:Array Oper} {Q Q':Exit → Act → World → Prop} (hq:∀ e a w,Q e a w → Q' e a w) :
 ∀ (fuel:Nat) (listed:Array Bool) (a:Act) (w:World),wpAnyIn F n P md ops Q fuel listed a w → wpAnyIn F n P md ops Q' fuel listed a w:=by
 intro fuel
 induction fuel with
 | zero=>intro listed a w h; exact ⟨h.1,hq _ _ _ h.2⟩
 | succ fuel ih =>
  intro listed a w h
  refine ⟨fun hr=>hq _ _ _ (h.1 hr),fun i hi=>?_⟩
  have h2:=wpOpIn_mono (fun a w=>ih (listed.setIfInBounds i true) a w) (h.2 i hi)
  unfold wpOpIn at h2 ⊢
  split
  ·rename_i hn; rw [hn] at h2; exact h2
  ·rename_i o ho
   rw [ho] at h2
   simp only at h2
   split
   ·rename_i hw
    rw [if_pos hw] at h2
    exact jKo (fun e a w _=>hq e a w) h2
   ·rename_i hw
    rw [if_neg hw] at h2
    exact h2
theorem BlkR_anti {P:Program} {F:Nat → Prop} {k:Nat} {b:Blk} (hF:∀ g,B g → F g) (hb:BlkR P F Ψ β w k b):BlkR P B Ψ β w k b:=by
 cases b with
 | gone=>trivial
 | log ys Y own xs=>exact ⟨hb.1,hb.2.1,fun g hg=>⟨fun h=>(hb.2.2.1 g hg).1 (hF g h),(hb.2.2.1 g hg).2⟩,hb.2.2.2⟩
 | lof ys Y own=>exact ⟨hb.1,hb.2.1,fun g hg=>⟨fun h=>(hb.2.2.1 g hg).1 (hF g h),(hb.2.2.1 g hg).2⟩,hb.2.2.2⟩
 | cells cs =>
  obtain ⟨g,c,e,h1,h2,h3,h4⟩:=hb
  exact ⟨g,c,e,h1,h2,fun h=>h3 (hF g h),h4⟩
 | grow tid e xs =>
  rcases hb with hb | ⟨g,cap,cur,h1,h2,h3,h4⟩
  ·exact .inl hb
  ·exact .inr ⟨g,cap,cur,h1,h2,fun h=>h3 (hF g h),h4⟩
 | kmap es =>
  obtain ⟨g,ms,cl,h1,h2,h3,h4⟩:=hb
  exact ⟨g,ms,cl,h1,h2,fun h=>h3 (hF g h),h4⟩
 | dmap e m =>
  obtain ⟨g,ms,cl,h1,h2,h3,h4⟩:=hb
  exact ⟨g,ms,cl,h1,h2,fun h=>h3 (hF g h),h4⟩
 | diter e last left =>
  obtain ⟨g,gm,ms,cl,seen,h1,h2,h3,h4⟩:=hb
  exact ⟨g,gm,ms,cl,seen,h1,h2,fun h=>h3 (hF g h),h4⟩
 | loop f p ph ts =>
  obtain ⟨l,r,h1,h2,h3,h4⟩:=hb
  exact ⟨l,r,h1,h2,fun h=>h3 (hF l h),h4⟩
 | dat t x =>
  obtain ⟨g,c,e,h1,h2,h3,h4⟩:=hb
  exact ⟨g,c,e,h1,h2,fun h=>h3 (hF g h),h4⟩
 | siter n rest =>
  obtain ⟨g,s,pos,h1,h2,h3,h4⟩:=hb
  exact ⟨g,s,pos,h1,h2,fun h=>h3 (hF g h),h4⟩
theorem InvH.anti {F:Nat → Prop} {w1:World} (hF:∀ g,B g → F g) (hlow:BelowS B w0 w1) (hi:InvH C.P F w1 Ψ β h w):InvH C.P B w0 Ψ β h w :=
 ⟨hlow.trans ⟨hi.low.os,hi.low.tape,hi.low.output,hi.low.size,fun g hg=>hi.low.block g (hF g hg)⟩,fun g hg=>hi.size g (hF g hg),hi.prom,fun a v hv hs hg=>hi.own a v hv hs (hF _ hg),hi.len,hi.one,
   fun k b hb=>BlkR_anti hF (hi.blk k b hb),hi.free,hi.sep,hi.glob⟩
theorem Ext.anti {F:Nat → Prop} {Ψ':Pr} (hF:∀ g,B g → F g) (h:Ext F Ψ Ψ'):Ext B Ψ Ψ':=⟨h.1,fun a v hv=>(h.2 a v hv).imp id fun h' hb=>h' (hF _ hb)⟩
theorem InvH.fence {F:Nat → Prop} {c:Array Value} {t:TypeId} (hi:InvH C.P F w0 Ψ β h w):InvH C.P (fun g=>F g ∨ g = w.heap.size) (w.alloc (.cells c t)) Ψ β h (w.alloc (.cells c t)):=by
 have hb:Below w.heap.size w (w.alloc (.cells c t)):=(Below.refl _ _).alloc (Nat.le_refl _) _
 have hi':InvH C.P F w0 Ψ β h (w.alloc (.cells c t)):=hi.step ⟨hb,PLe.refl _,fun _ _ h=>.inl h⟩
 refine ⟨BelowS.refl _ _,?_,hi'.prom,?_,hi.len,hi.one,?_,hi.free,hi.sep,hi.glob⟩
 ·rintro g (hg | rfl)
  ·exact hi'.size g hg
  ·have:=heap_alloc_new w (.cells c t)
   exact (Array.getElem?_eq_some_iff.1 this).1
 ·rintro a v hv hs (hg | hg)
  ·exact hi.own a v hv hs hg
  ·have:=Pm_lt (hi.prom a v hv)
   omega
 ·intro k b hk
  have hbk:=hi'.blk k b hk
  have hlt:∀ g,jQb β k g b → g < w.heap.size:=fun g hc=>(jQx (hi.blk k b hk) hc).2
  have no:∀ g,jQb β k g b → ¬ (F g ∨ g = w.heap.size):=fun g hc=>by
   rintro (hg | hg)
   ·exact (jQx hbk hc).1 hg
   ·have:=hlt g hc; omega
  cases b with
  | gone=>trivial
  | log ys Y own xs=>exact ⟨hbk.1,hbk.2.1,fun g hg=>⟨no g hg,(hbk.2.2.1 g hg).2⟩,hbk.2.2.2⟩
  | lof ys Y own=>exact ⟨hbk.1,hbk.2.1,fun g hg=>⟨no g hg,(hbk.2.2.1 g hg).2⟩,hbk.2.2.2⟩
  | cells cs =>
   obtain ⟨g,c,e,h1,h2,h3,h4⟩:=hbk
   exact ⟨g,c,e,h1,h2,no g h1,h4⟩
  | grow tid e xs =>
   rcases hbk with hbk | ⟨g,cap,cur,h1,h2,h3,h4⟩
   ·exact .inl hbk
   ·exact .inr ⟨g,cap,cur,h1,h2,no g ⟨_,_,h2,h1⟩,h4⟩
  | kmap es =>
   obtain ⟨g,ms,cl,h1,h2,h3,h4⟩:=hbk
   exact ⟨g,ms,cl,h1,h2,no g h1,h4⟩
  | dmap e m =>
   obtain ⟨g,ms,cl,h1,h2,h3,h4⟩:=hbk
   exact ⟨g,ms,cl,h1,h2,no g h1,h4⟩
  | diter e last left =>
   obtain ⟨g,gm,ms,cl,seen,h1,h2,h3,h4⟩:=hbk
   exact ⟨g,gm,ms,cl,seen,h1,h2,no g h1,h4⟩
  | loop f p ph ts =>
   obtain ⟨l,r,h1,h2,h3,h4⟩:=hbk
   exact ⟨l,r,h1,h2,no l h1,h4⟩
  | dat t x =>
   obtain ⟨g,c,e,h1,h2,h3,h4⟩:=hbk
   exact ⟨g,c,e,h1,h2,no g h1,h4⟩
  | siter n rest =>
   obtain ⟨g,s,pos,h1,h2,h3,h4⟩:=hbk
   exact ⟨g,s,pos,h1,h2,no g h1,h4⟩
theorem InvH.claim {F:Nat → Prop} {g:Nat} {b:Blk} {u:Value} (hi:InvH C.P F w0 Ψ β h w) (hF:F g) (hn:∀ a,a.block = g → Ψ a = none) (hone:u.oneCell' = true) (hnew:BlkR C.P (fun q=>F q ∧ q ≠ g) Ψ (β ++ [u]) w h.length b)
 (hcl:∀ q,jQb (β ++ [u]) h.length q b → q = g):InvH C.P (fun q=>F q ∧ q ≠ g) w0 Ψ (β ++ [u]) (h ++ [b]) w:=by
 have hi':InvH C.P (fun q=>F q ∧ q ≠ g) w0 Ψ β h w:=hi.anti (fun q hq=>hq.1) (BelowS.refl _ _)
 have lt:∀ {k:Nat} {b:Blk},h[k]? = some b → k < β.length:=fun {k b} hk=>by
  rw [hi.len]
  rcases Nat.lt_or_ge k h.length with h' | h'
  ·exact h'
  ·rw [List.getElem?_eq_none h'] at hk; cases hk
 have old:∀ {k q:Nat} {b:Blk},h[k]? = some b → jQb β k q b → q ≠ g:=fun hk hc e=>(jQx (hi.blk _ _ hk) hc).1 (e ▸ hF)
 refine ⟨hi'.low,hi'.size,hi'.prom,hi'.own,by simp [hi.len],?_,?_,?_,?_,hi'.glob⟩
 ·intro k v hk
  rcases getElem?_snoc hk with h1 | ⟨_,rfl⟩
  ·exact hi.one k v h1
  ·exact hone
 ·intro k b' hk
  rcases getElem?_snoc hk with h1 | ⟨rfl,rfl⟩
  ·exact BlkR_snoc u (hi'.blk k b' h1)
  ·exact hnew
 ·intro k b' q hk hc ad had hsp
  rcases getElem?_snoc hk with h1 | ⟨rfl,rfl⟩
  ·exact hi'.free k b' q h1 (jQr (lt h1) hc) ad had hsp
  ·exact hn ad (by rw [had,hcl q hc])
 ·intro j k bj bk q hjk hj hk hcj hck
  rcases getElem?_snoc hj with h1 | ⟨e1,rfl⟩ <;> rcases getElem?_snoc hk with h2 | ⟨e2,rfl⟩
  ·exact hi.sep j k bj bk q hjk h1 h2 (jQr (lt h1) hcj) (jQr (lt h2) hck)
  ·subst e2
   exact old h1 (jQr (lt h1) hcj) (hcl q hck)
  ·subst e1
   exact old h2 (jQr (lt h2) hck) (hcl q hcj)
  ·omega
theorem InvH.promise {F:Nat → Prop} {g:Nat} {us:List Value} {t:TypeId} (hi:InvH C.P F w0 Ψ β h w) (hF:F g) (hn:∀ a,a.block = g → Ψ a = none) (hg:w.heap[g]? = some (.cells us.toArray t (0,0))):PLe Ψ (jXo Ψ g us) ∧
 (∀ a v,jXo Ψ g us a = some v → Ψ a = some v ∨ a.block = g) ∧ InvH C.P (fun q=>F q ∧ q ≠ g) w0 (jXo Ψ g us) β h w:=by
 have hi':InvH C.P (fun q=>F q ∧ q ≠ g) w0 Ψ β h w:=hi.anti (fun q hq=>hq.1) (BelowS.refl _ _)
 have hle:PLe Ψ (jXo Ψ g us):=fun a v hv=>by
  unfold jXo
  rw [if_neg]
  ·exact hv
  ·rintro ⟨hb,_⟩
   rw [hn a hb] at hv; cases hv
 have hnw:∀ a v,jXo Ψ g us a = some v → Ψ a = some v ∨ (a.block = g ∧ a.spot = none ∧ us[a.off]? = some v):=fun a v hv=>by
  unfold jXo at hv
  split at hv
  ·rename_i hc; exact .inr ⟨hc.1,hc.2,hv⟩
  ·exact .inl hv
 refine ⟨hle,fun a v hv=>(hnw a v hv).imp id fun h=>h.1,hi'.low,hi'.size,fun a v hv=>?_,fun a v hv hs=>?_,hi.len,hi.one,fun k b hk=>?_,fun k b q hk hc a ha hs=>?_,hi.sep,hi.glob.le hle⟩
 ·rcases hnw a v hv with h' | ⟨h1,h2,h3⟩
  ·exact hi.prom a v h'
  ·refine Pm_mk h2 ?_
   obtain ⟨b,o,s⟩:=a
   simp only at h1 h2 h3
   subst h1 h2
   simp [World.cell?,hg,h3]
 ·rcases hnw a v hv with h' | ⟨h1,h2,h3⟩
  ·exact hi'.own a v h' hs
  ·rw [h2] at hs; cases hs
 ·exact BlkR_more hle (hi'.blk k b hk)
 ·cases hp:jXo Ψ g us a with
  | none=>rfl
  | some v =>
   rcases hnw a v hp with h' | ⟨h1,_⟩
   ·rw [hi.free k b q hk hc a ha hs] at h'; cases h'
   ·exact absurd hF (by rw [← h1,ha]; exact (jQx (hi.blk k b hk) hc).1)
def layV (o:Oper) (n:Nat):Value:=match o.op with
 | .buildSlice _ len _=>.slice (some ⟨n,0,none⟩) len len
 | _=>.pointer (some ⟨n,0,none⟩)
def Lays (P:Program) (o:Oper) (a:Act) (c:Array Value) (t:TypeId):Prop :=
 ∀ a':Act,(∀ x ∈ o.op.operands,a'.eval x = a.eval x) → ∀ w:World,(execOp a'.eval o).run P w = .ok (.value (layV o w.heap.size)) (w.alloc (.cells c t))
theorem alloc_inj {w:World} {c c':Array Value} {t t':TypeId} (h:w.alloc (.cells c t) = w.alloc (.cells c' t')):c = c' ∧ t = t':=by
 have h1:=heap_alloc_new w (.cells c t)
 rw [h] at h1
 have h2:=heap_alloc_new w (.cells c' t')
 rw [h2] at h1
 simp only [Option.some.injEq,Obj.cells.injEq] at h1
 exact ⟨h1.1.symm,h1.2.1.symm⟩
theorem put_self {a:Act} {t:Tmp} {v:Value} (h:t < a.tmps.size → a.tmps[t]? = some v):a.put (some t) v = a:=by
 have:a.tmps.setIfInBounds t v = a.tmps:=by
  apply Array.ext'
  rw [Array.toList_setIfInBounds]
  apply List.ext_getElem?
  intro j
  rw [List.getElem?_set]
  split
  ·rename_i e
   subst e
   split
   ·rename_i hlt
    have:=h (by simpa using hlt)
    rw [← this]; simp
   ·rename_i hlt
    rw [List.getElem?_eq_none (by simpa using hlt)]
  ·rfl
 show ({ a with tmps:=a.tmps.setIfInBounds t v }:Act) = a
 rw [this]
theorem jX9 {o:Oper} (h:jX7 C o = true):o.guard = none ∧ (∃ t,o.dst = some t ∧ ∀ x ∈ o.op.operands,x ≠ .tmp t) ∧ ((∃ t,o.op = .alloc t) ∨ (∃ t len parts,o.op = .buildSlice t len parts ∧ C.ownLit t = false ∧ isClos C o.op = false)):=by
 unfold jX7 at h
 simp only [Bool.and_eq_true] at h
 obtain ⟨⟨h1,h2⟩,h3⟩:=h
 refine ⟨by simpa using h1,?_,?_⟩
 ·split at h2
  ·rename_i t ht
   refine ⟨t,ht,fun x hx e=>?_⟩
   subst e
   have hm:t ∈ o.op.operands.toList.filterMap tmpOf:=List.mem_filterMap.2 ⟨.tmp t,by simpa using hx,rfl⟩
   have:memN' t (o.op.operands.toList.filterMap tmpOf) = true:=by
    revert hm
    generalize o.op.operands.toList.filterMap tmpOf = l
    intro hm
    induction l with
    | nil=>cases hm
    | cons y l ih =>
     rcases List.mem_cons.1 hm with rfl | hm
     ·simp [memN']
     ·simp [memN',ih hm]
   rw [this] at h2
   cases h2
  ·cases h2
 split at h3
 ·rename_i t ht; exact .inl ⟨t,ht⟩
 ·rename_i t len parts ht
  simp only [Bool.and_eq_true,Bool.not_eq_true'] at h3
  exact .inr ⟨t,len,parts,ht,h3.1,h3.2⟩
 ·cases h3
theorem lays_of {s:St} {o:Oper} {r:Out} (hlay:jX7 C o = true) (hi:InvH C.P B w0 Ψ β s.heap w) (hf:RelFr Ψ β s.top a) (hr:aop C s.top s.heap o.op = some r):∃ c t,Lays C.P o a c t:=by
 obtain ⟨_,_,hop⟩:=jX9 hlay
 rcases hop with ⟨t,hop⟩ | ⟨t,len,parts,hop,_,_⟩
 ·rw [hop] at hr
  have hr:aalloc C s.heap t = some r:=hr
  unfold aalloc at hr
  split at hr
  ·rename_i z hz
   obtain ⟨i,v,hii,hiz,rfl⟩:=jX5 hz
   refine ⟨v.cells,t,fun a' _ w=>?_⟩
   simp [execOp,layV,hop,Instr.alloc,zeroValue,typeInfo,hii,hiz,newVar,newRow]
  ·cases hr
 ·rw [hop] at hr
  have hr:jZr C s.heap t len parts.toList (evs s.top (jXz parts.toList)) = some r:=hr
  obtain ⟨e,xs,us,tid,_,_,hrun,_⟩:=jJj (C:=C) (a:=a) (fr:=s.top) hi (fun p _=>jXs hf p.2) hr
  refine ⟨us.toArray,tid,fun a' he w=>?_⟩
  have hp:(parts.map fun (i,x)=>(i,a'.eval x)) = parts.map fun (i,x)=>(i,a.eval x):=by
   apply Array.map_congr_left
   rintro ⟨i,x⟩ hx
   have:=he x (by rw [hop]; simp only [Op.operands,List.mem_toArray]; exact List.mem_map_of_mem (f:=fun p:Nat × Operand=>p.2) (Array.mem_toList_iff.2 hx))
   simp [this]
  have:=hrun w
  rw [← hp] at this
  simp [execOp,layV,hop,this]
theorem claim_sound {o:Oper} {t:Tmp} {g:Nat} {c:Array Value} {tid:TypeId} {F:Nat → Prop} {s:St} {r:Out} (hra:aop C s.top s.heap o.op = some r) (hlay:jX7 C o = true) (hdst:o.dst = some t) (hl:Lays C.P o a c tid)
 (hi:InvH C.P F w0 Ψ β s.heap w) (hf:RelF Ψ β (s.top :: s.below) (a :: As)) (hg:w.heap[g]? = some (.cells c tid (0,0))) (hF:F g) (hn:∀ ad,ad.block = g → Ψ ad = none) (hv:t < a.tmps.size → a.tmps[t]? = some (layV o g)) :
 ∃ Ψ' β',PLe Ψ Ψ' ∧ (∀ ad v,Ψ' ad = some v → Ψ ad = some v ∨ ad.block = g) ∧ InvH C.P (fun q=>F q ∧ q ≠ g) w0 Ψ' β' ((s.apply r).put o.dst r.v).heap w ∧ RelF Ψ' β' (((s.apply r).put o.dst r.v).top :: ((s.apply r).put o.dst r.v).below) (a :: As):=by
 obtain ⟨hgd,_,hop⟩:=jX9 hlay
 have hfr:=jQk hf
 have hfin:∀ {Ψ' β'} {h':List Blk} {av:AV},PLe Ψ Ψ' → (∀ (k:Nat) (v:Value),β[k]? = some v → β'[k]? = some v) → RelV Ψ' β' av (layV o g) → RelF Ψ' β' ((({ s with heap:=h' }:St).put o.dst av).top :: (({ s with heap:=h' }:St).put o.dst av).below) (a :: As):=by
  intro Ψ' β' h' av hle hβ hav
  have h1:=jQ8 (s:={ s with heap:=h' }) (d:=o.dst) (jQq hle hβ _ _ hf) hav
  rw [hdst,put_self hv,← hdst] at h1
  exact h1
 rcases hop with ⟨t',hop⟩ | ⟨t',len,parts,hop,hown,hclos⟩
 ·rw [hop] at hra
  have hr:aalloc C s.heap t' = some r:=hra
  have hrun:=hl a (fun _ _=>rfl) w
  unfold aalloc at hr
  split at hr
  ·rename_i z hz
   obtain ⟨i,v,hii,hiz,rfl⟩:=jX5 hz
   have hrun':(execOp a.eval o).run C.P w = .ok (.value (.pointer (some ⟨w.heap.size,0,none⟩))) (w.alloc (.cells v.cells t')):=by
    simp [execOp,hop,Instr.alloc,zeroValue,typeInfo,hii,hiz,newVar,newRow]
   rw [hrun] at hrun'
   obtain ⟨rfl,rfl⟩:c = v.cells ∧ tid = t':=alloc_inj (by injection hrun')
   have hlv:∀ n,layV o n = .pointer (some ⟨n,0,none⟩):=fun n=>by unfold layV; rw [hop]
   rw [hlv] at hfin
   have hnw:(β ++ [Value.pointer (some ⟨g,0,none⟩)])[s.heap.length]? = some (.pointer (some ⟨g,0,none⟩)):=by rw [← hi.len]; simp
   have fin:∀ b:Blk,r = ⟨none,.own (hlen s.heap) 0,s.heap ++ [b],none⟩ → (∀ q,jQb (β ++ [Value.pointer (some ⟨g,0,none⟩)]) s.heap.length q b → q = g) → BlkR C.P (fun q=>F q ∧ q ≠ g) Ψ (β ++ [Value.pointer (some ⟨g,0,none⟩)]) w s.heap.length b →
    ∃ Ψ' β',PLe Ψ Ψ' ∧ (∀ ad v,Ψ' ad = some v → Ψ ad = some v ∨ ad.block = g) ∧ InvH C.P (fun q=>F q ∧ q ≠ g) w0 Ψ' β' ((s.apply r).put o.dst r.v).heap w ∧ RelF Ψ' β' (((s.apply r).put o.dst r.v).top :: ((s.apply r).put o.dst r.v).below) (a :: As):=fun b h0 h1 h2=>by
    subst h0
    exact ⟨Ψ,β ++ [Value.pointer (some ⟨g,0,none⟩)],PLe.refl _,fun _ _ h=>.inl h,by rw [jXb]; exact hi.claim hF hn rfl h2 h1,hfin (h':=s.heap ++ [b]) (PLe.refl _) (jQh _) (by
     rw [jQ1]
     exact ⟨g,hnw,rfl⟩)⟩
   cases had:C.asDat tid with
   | true =>
    rw [had,cond_true] at hr
    obtain ⟨u,x,rfl,hrd⟩:=adat_spec hr (jZ4 (Ψ:=Ψ) (β:=β) v)
    exact fin (.dat u x) rfl (fun q hc=>by simp only [jQb] at hc; rw [hnw] at hc; simp at hc; exact hc.symm) ⟨g,v.cells,tid,hnw,hg,fun h=>h.2 rfl,hrd⟩
   | false =>
    rw [had,cond_false] at hr
    split at hr
    ·rename_i cs hc
     simp at hr
     obtain ⟨hl',h1⟩:=cellsOf'_rel hi.one hc (jZ4 v)
     exact fin (.cells cs) hr.symm (fun q hc=>by simp only [jQb] at hc; rw [hnw] at hc; simp at hc; exact hc.symm) ⟨g,v.cells,tid,hnw,hg,fun h=>h.2 rfl,jQl (PLe.refl _) (jQh _) _ _ hl',h1⟩
    ·split at hr
     ·rename_i hz1
      simp at hr
      have h1':v.oneCell' = true:=by
       unfold zeroOne at hz1
       rw [hii] at hz1
       simp only [hiz] at hz1
       exact hz1
      have hcl:v.cells = #[v]:=by cases v <;> first | rfl | (simp [Value.oneCell'] at h1')
      have hl':RelL Ψ (β ++ [Value.pointer (some ⟨g,0,none⟩)]) [.junk] v.cells.toList:=by rw [hcl]; exact ⟨v,[],rfl,trivial,rfl⟩
      have h1:∀ u ∈ v.cells.toList,u.oneCell' = true:=by rw [hcl]; intro u hu; simp at hu; rw [hu]; exact h1'
      exact fin (.cells [.junk]) hr.symm (fun q hc=>by simp only [jQb] at hc; rw [hnw] at hc; simp at hc; exact hc.symm) ⟨g,v.cells,tid,hnw,hg,fun h=>h.2 rfl,hl',h1⟩
     ·cases hr
  ·cases hr
 ·rw [hop] at hra
  have hr:jZr C s.heap t' len parts.toList (evs s.top (jXz parts.toList)) = some r:=hra
  obtain ⟨e,xs,us,tid',rfl,_,hrun',h2,hxl,hus,hle⟩:=jJj (C:=C) (a:=a) (fr:=s.top) hi (fun p _=>jXs hfr p.2) hr
  have hrun:=hl a (fun _ _=>rfl) w
  have hrun2:(execOp a.eval o).run C.P w = .ok (.value (.slice (some ⟨w.heap.size,0,none⟩) len len)) (w.alloc (.cells us.toArray tid')):=by
   simp [execOp,hop,hrun' w]
  rw [hrun] at hrun2
  obtain ⟨rfl,rfl⟩:c = us.toArray ∧ tid = tid':=alloc_inj (by injection hrun2)
  obtain ⟨p1,p2,p3⟩:=hi.promise hF hn hg
  have hlv:layV o g = .slice (some ⟨g,0,none⟩) len len:=by unfold layV; rw [hop]
  refine ⟨jXo Ψ g us,β,p1,p2,?_,hfin (h':=s.heap) p1 (fun _ _ h=>h) ?_⟩
  ·rw [jXb]; exact p3
  ·rw [hlv]
   refine ⟨_,by rw [hxl],?_⟩
   exact rv_arr (β:=β).2 ⟨_,_,by rw [hxl],by rw [hxl]; exact Nat.le_refl _,hle,.inr ⟨us,jX3 (jQg p1 e) _ _ h2,g,0,rfl,fun j u hj=>by rw [withBlock_at,Nat.zero_add]; exact hj⟩⟩
theorem nodup_lt:∀ (N:Nat) (l:List Nat),l.Nodup → (∀ x ∈ l,x < N) → l.length ≤ N
 | 0,l,_,h=>by
  cases l with
  | nil=>simp
  | cons x l=>exact absurd (h x (by simp)) (by omega)
 | N + 1,l,hn,h=>by
  have h1:=nodup_lt N (l.filter fun x=>x != N) (hn.filter _) (fun x hx=>by
   have h2:=List.mem_filter.1 hx
   have:=h x h2.1
   have h3:x ≠ N:=by simpa using h2.2
   omega)
  have h2:l.length ≤ (l.filter fun x=>x != N).length + 1:=by
   clear h h1
   induction l with
   | nil=>simp
   | cons x l ih =>
    have hn':=List.nodup_cons.1 hn
    by_cases hx:x = N
    ·subst hx
     have:l.filter (fun y=>y != x) = l:=by
      rw [List.filter_eq_self]
      intro y hy
      have:y ≠ x:=fun e=>hn'.1 (e ▸ hy)
      simpa using this
     simp [this]
    ·have:=ih hn'.2
     simp [hx]
     omega
  omega
theorem fset_comm (v:AV):∀ (l:List AV) (i j:Nat),fset (fset l i v) j v = fset (fset l j v) i v
 | [],_,_=>rfl
 | _ :: _,0,0=>rfl
 | _ :: _,0,_ + 1=>rfl
 | _ :: _,_ + 1,0=>rfl
 | a :: l,i + 1,j + 1=>by simp only [fset,fset_comm v l i j]
theorem fset_idem (v:AV):∀ (l:List AV) (i:Nat),fset (fset l i v) i v = fset l i v
 | [],_=>rfl
 | _ :: _,0=>rfl
 | a :: l,i + 1=>by simp only [fset,fset_idem v l i]
theorem junkT_keep {L:List Nat} {t:Nat}:∀ (os:List Oper) (i:Nat) (fr:List AV),fset fr t .junk = fr → fset (junkT C L os i fr) t .junk = junkT C L os i fr
 | [],_,_,h=>h
 | o :: os,i,fr,h=>by
  unfold junkT
  refine junkT_keep os (i + 1) _ ?_
  split
  ·split
   ·rw [fset_comm,h]
   ·exact h
  ·exact h
theorem junkT_fix {L:List Nat} {t d:Nat} {o:Oper} (hlay:jX7 C o = true) (hdst:o.dst = some t) (hL:memS d L = false):∀ (os:List Oper) (i:Nat) (fr:List AV),i ≤ d → os[d - i]? = some o → fset (junkT C L os i fr) t .junk = junkT C L os i fr
 | [],_,_,_,h=>by simp at h
 | o' :: os,i,fr,hi,h=>by
  unfold junkT
  by_cases hid:i = d
  ·subst hid
   simp only [Nat.sub_self,List.getElem?_cons_zero,Option.some.injEq] at h
   subst h
   refine junkT_keep os (i + 1) _ ?_
   rw [hlay,hL,hdst]
   exact fset_idem _ _ _
  ·refine junkT_fix hlay hdst hL os (i + 1) _ (by omega) ?_
   rw [show d - i = (d - (i + 1)) + 1 by omega,List.getElem?_cons_succ] at h
   exact h
theorem RelL_junk {L:List Nat}:∀ (os:List Oper) (i:Nat) (fr:List AV) {vs:List Value},RelL Ψ β fr vs → RelL Ψ β (junkT C L os i fr) vs
 | [],_,_,_,h=>h
 | o :: os,i,fr,vs,h=>by
  unfold junkT
  refine RelL_junk os (i + 1) _ ?_
  split
  ·split
   ·exact set_junk _ _ h
   ·exact h
  ·exact h
where
 set_junk:∀ (fr:List AV) (t:Nat) {vs:List Value},RelL Ψ β fr vs → RelL Ψ β (fset fr t .junk) vs
  | [],_,_,h=>h
  | _ :: _,0,_,⟨v,vs',e,_,h2⟩=>⟨v,vs',e,trivial,h2⟩
  | _ :: l,t + 1,_,⟨v,vs',e,h1,h2⟩=>⟨v,vs',e,h1,set_junk l t h2⟩
theorem jK2 {s:St} {all:Array Oper} {L:List Nat} (h:RelF Ψ β (s.top :: s.below) (a :: As)):RelF Ψ β ((s.junk C all L).top :: (s.junk C all L).below) (a :: As):=by
 obtain ⟨a1,as',e,⟨h1,h2⟩,h3⟩:=h
 exact ⟨a1,as',e,⟨h1,RelL_junk _ _ _ h2⟩,h3⟩
def Pend (C:Ctx) (B F:Nat → Prop) (Ψ:Pr) (all:Array Oper) (L:List Nat) (a:Act) (w:World) (p:Nat × Nat):Prop :=
 ∃ o t c tid,all[p.1]? = some o ∧ jX7 C o = true ∧ o.dst = some t ∧ Lays C.P o a c tid ∧ (t < a.tmps.size → a.tmps[t]? = some (layV o p.2)) ∧ w.heap[p.2]? = some (.cells c tid (0,0)) ∧ F p.2 ∧ ¬ B p.2 ∧ (∀ ad,ad.block = p.2 → Ψ ad = none) ∧
  (jZa o).all (fun j=>memS j L) = true ∧ ∀ j oj,all[j]? = some oj → j ≠ p.1 → memS j L = false → (oj.after.any (fun e=>Region.binds .any e && e.on == p.1) = true) ∨ o.apart all oj = true
theorem eval_at {a a':Act} {x:Operand} (h:∀ t,x = .tmp t → a'.tmps[t]? = a.tmps[t]?):a'.eval x = a.eval x:=by
 cases x with
 | tmp t =>
  have:=h t rfl
  simp only [Act.eval,Array.getD_eq_getD_getElem?,this]
 | _=>rfl
theorem Pend.step {F F':Nat → Prop} {all:Array Oper} {L L':List Nat} {a':Act} {w':World} {Ψ':Pr} {p:Nat × Nat} {o':Oper} (h:Pend C B F Ψ all L a w p) (hsz:a'.tmps.size = a.tmps.size) (hs:∀ q,o'.dst ≠ some q → a'.tmps[q]? = a.tmps[q]?)
 (hap:∀ o,all[p.1]? = some o → o.apart all o' = true) (hw:w'.heap[p.2]? = w.heap[p.2]?) (hF:F' p.2) (hΨ:∀ ad,ad.block = p.2 → Ψ' ad = none) (hL:∀ j,memS j L = true → memS j L' = true):Pend C B F' Ψ' all L' a' w' p:=by
 obtain ⟨o,t,c,tid,h1,h2,h3,h4,h5,h6,h7,h8,h9,h10,h11⟩:=h
 obtain ⟨g1,g2,g3⟩:=Oper.apart_spec (hap o h1)
 have hlk:∀ x ∈ o.op.operands,a'.eval x = a.eval x:=fun x hx=>eval_at fun q hq=>hs q fun hd=>g3 q hd (by
  subst hq
  exact List.mem_append_left _ (List.mem_filterMap.2 ⟨.tmp q,by simpa using hx,rfl⟩))
 refine ⟨o,t,c,tid,h1,h2,h3,fun a2 he w2=>h4 a2 (fun x hx=>by rw [he x hx,hlk x hx]) w2,fun ht=>?_,hw.trans h6,hF,h8,hΨ,?_,fun j oj hj hne hm=>h11 j oj hj hne ?_⟩
 ·rw [hs t (fun hd=>g2 t h3 hd)]
  exact h5 (by rw [← hsz]; exact ht)
 ·rw [List.all_eq_true] at h10 ⊢
  exact fun j hj=>hL j (h10 j hj)
 ·cases hm':memS j L with
  | false=>rfl
  | true=>rw [hL j hm'] at hm; cases hm
theorem freeL_spec' {all:Array Oper} {L:List Nat} {listed:Array Bool} {i:Nat} {o:Oper} (hl:∀ i,memS i L = true → listed.getD i false = true) (ho:all[i]? = some o) (h:freeL fr all L i = true) :
 isTk fr o.op = true ∧ o.guard = none ∧ Region.free .any all listed i = true:=by
 unfold freeL at h
 rw [ho] at h
 simp only [Bool.and_eq_true,List.all_eq_true,List.mem_range] at h
 obtain ⟨⟨h1,h2⟩,h3⟩:=h
 refine ⟨h1,by simpa using h2,?_⟩
 unfold Region.free
 rw [ho]
 simp only [List.all_eq_true,List.mem_range]
 intro j hj
 have h4:=h3 j hj
 by_cases hm:memS j L = true
 ·have e:listed.getD j true = true:=by
   have:=hl j hm
   rw [Array.getD_eq_getD_getElem?] at this ⊢
   cases hg:listed[j]? with
   | none=>rfl
   | some b=>rw [hg] at this; exact this
  rw [e]
  simp
 ·have hm':memS j L = false:=by simpa using hm
  rw [hm',Bool.or_false] at h4
  cases hji:(j == i) with
  | true=>simp
  | false =>
   rw [hji,Bool.false_or] at h4
   rw [Bool.false_or]
   exact Bool.or_eq_true_iff.2 (.inr h4)
theorem isLayAt_spec {all:Array Oper} {i:Nat} {o:Oper} (ho:all[i]? = some o):isLayAt C all i = jX7 C o:=by unfold isLayAt; rw [ho]
theorem notLay_mem {all:Array Oper} {i:Nat}:∀ {l:List Nat},i ∈ notLay C all l ↔ i ∈ l ∧ isLayAt C all i = false
 | []=>by simp [notLay]
 | j :: l=>by
  unfold notLay
  split
  ·rename_i h
   rw [notLay_mem,List.mem_cons]
   constructor
   ·rintro ⟨h1,h2⟩; exact ⟨.inr h1,h2⟩
   ·rintro ⟨rfl | h1,h2⟩
    ·rw [h2] at h; cases h
    ·exact ⟨h1,h2⟩
  ·rename_i h
   rw [List.mem_cons,notLay_mem,List.mem_cons]
   constructor
   ·rintro (rfl | ⟨h1,h2⟩)
    ·exact ⟨.inl rfl,by simpa using h⟩
    ·exact ⟨.inr h1,h2⟩
   ·rintro ⟨rfl | h1,h2⟩
    ·exact .inl rfl
    ·exact .inr ⟨h1,h2⟩
theorem minus_mem {M:List Nat} {i:Nat}:∀ {l:List Nat},i ∈ minus M l ↔ i ∈ l ∧ i ∉ M
 | []=>by simp [minus]
 | j :: l=>by
  unfold minus
  split
  ·rename_i h
   have h:=jXk.1 h
   rw [minus_mem,List.mem_cons]
   constructor
   ·rintro ⟨h1,h2⟩; exact ⟨.inr h1,h2⟩
   ·rintro ⟨rfl | h1,h2⟩
    ·exact absurd h h2
    ·exact ⟨h1,h2⟩
  ·rename_i h
   have h:j ∉ M:=fun hm=>h (jXk.2 hm)
   rw [List.mem_cons,minus_mem,List.mem_cons]
   constructor
   ·rintro (rfl | ⟨h1,h2⟩)
    ·exact ⟨.inl rfl,h⟩
    ·exact ⟨.inr h1,h2⟩
   ·rintro ⟨rfl | h1,h2⟩
    ·exact .inl rfl
    ·exact .inr ⟨h1,h2⟩
theorem chooseL_sub {all:Array Oper} {R:List Nat} {i:Nat} (h:i ∈ chooseL C all R):i ∈ R:=by
 unfold chooseL at h
 split at h
 ·split at h
  ·simp at h; subst h; simp
  ·cases h
 ·exact (notLay_mem.1 h).1
theorem chooseL_ne {all:Array Oper} {R:List Nat} (h:R ≠ []):∃ i,i ∈ chooseL C all R:=by
 unfold chooseL
 split
 ·cases R with
  | nil=>exact absurd rfl h
  | cons r R=>exact ⟨r,by simp⟩
 ·rename_i l hl
  cases hn:notLay C all R with
  | nil=>exact absurd hn hl
  | cons x y=>exact ⟨x,by simp⟩
theorem jQw {i:Nat} {l:List Nat}:memS i l = false ↔ i ∉ l:=by
 rw [← Bool.not_eq_true,jXk]
theorem layOf_some {all:Array Oper} {L R R2:List Nat} {s:St} (h:layOf C all L R s = some R2):R2 = R ∨ (R2 = chooseL C all R ∧ putOff C all L R (minus (chooseL C all R) R) s = true):=by
 unfold layOf at h
 split at h
 ·split at h
  ·rename_i hp
   simp only [Option.some.injEq] at h
   exact .inr ⟨h.symm,hp⟩
  ·simp only [Option.some.injEq] at h
   exact .inl h.symm
 ·cases h
theorem layOf_none {all:Array Oper} {L R:List Nat} {s:St} (h:layOf C all L R s = none):∀ i ∈ R,isLayAt C all i = false:=by
 unfold layOf at h
 split at h
 ·split at h <;> cases h
 ·rename_i hn
  intro i hi
  cases hl:isLayAt C all i with
  | false=>rfl
  | true=>exact absurd (List.any_eq_true.2 ⟨i,hi,hl⟩) hn
theorem putOff_spec {all:Array Oper} {L R D:List Nat} {s:St} (h:putOff C all L R D s = true):(∀ p ∈ D,∃ o r,all[p]? = some o ∧ jX7 C o = true ∧ aop C s.top s.heap o.op = some r ∧ ∀ j oj,all[j]? = some oj → j ≠ p → memS j L = false → (oj.after.any (fun e=>Region.binds .any e && e.on == p) = true) ∨ o.apart all oj = true) ∧
 ∀ x o,all[x]? = some o → memS x L = false → memS x R = false → ∃ e ∈ jZa o,memS e L = false ∧ memS e D = false:=by
 unfold putOff at h
 simp only [Bool.and_eq_true,List.all_eq_true,List.mem_range] at h
 obtain ⟨h1,h2⟩:=h
 have lt_all:∀ {i:Nat} {o:Oper},all[i]? = some o → i < all.size:=fun {i o} ho=>by
  rcases Nat.lt_or_ge i all.size with h' | h'
  ·exact h'
  ·rw [Array.getElem?_eq_none h'] at ho; cases ho
 refine ⟨fun p hp=>?_,fun x o ho hL hR=>?_⟩
 ·have h3:=h1 p hp
  unfold layD at h3
  split at h3
  ·rename_i o ho
   simp only [Bool.and_eq_true,List.all_eq_true,List.mem_range] at h3
   obtain ⟨⟨h4,h5⟩,h6⟩:=h3
   split at h5
   ·rename_i r hr
    refine ⟨o,r,ho,h4,hr,fun j oj hj hne hm=>?_⟩
    have h7:=h6 j (lt_all hj)
    rw [hj] at h7
    simp only [hm,Bool.or_false,Bool.or_eq_true,beq_iff_eq,hne,false_or] at h7
    exact h7
   ·cases h5
  ·cases h3
 ·have h3:=h2 x (lt_all ho)
  rw [ho,hL,hR] at h3
  simp only [Bool.false_or,List.any_eq_true,Bool.and_eq_true,Bool.not_eq_true'] at h3
  obtain ⟨e,he,h4,h5⟩:=h3
  exact ⟨e,he,h4,h5⟩
theorem memS_congr {i:Nat} {l l':List Nat} (h:∀ x,x ∈ l ↔ x ∈ l'):memS i l = memS i l':=by
 cases h1:memS i l' with
 | true=>exact jXk.2 ((h i).2 (jXk.1 h1))
 | false=>exact jQw.2 (fun hm=>jQw.1 h1 ((h i).1 hm))
theorem lay_eval {o:Oper} {t:Tmp} {v:Value} (hlay:jX7 C o = true) (hdst:o.dst = some t):∀ x ∈ o.op.operands,(a.put (some t) v).eval x = a.eval x:=fun x hx=>by
 obtain ⟨_,⟨t',h1,h2⟩,_⟩:=jX9 hlay
 rw [hdst] at h1
 simp only [Option.some.injEq] at h1
 subst h1
 exact Act.eval_put fun d hd=>by
  simp only [Option.some.injEq] at hd
  subst hd
  exact h2 x hx
theorem lay_op {ro:Option Nat} {P:Program} {all:Array Oper} {i:Nat} {o:Oper} {c:Array Value} {tid:TypeId} {K:Act → World → Prop} {Q:Exit → Act → World → Prop} (ho:all[i]? = some o) (hg:o.guard = none) (hnd:∀ c,o.op ≠ .defer c) (hl:Lays P o a c tid)
 (hk:K (a.put o.dst (layV o w.heap.size)) (w.alloc (.cells c tid))):wpOpIn (Fw ro) 0 P all Q i K a w:=by
 unfold wpOpIn
 rw [ho]
 simp only
 rw [if_pos (by simp [Region.wanted,hg])]
 refine ⟨fun _ _=>trivial,?_⟩
 rw [Oper.semAt_eq _ _ _ hnd,hl a (fun _ _=>rfl) w]
 exact hk
theorem aall_sound {call:CallT} (hc:jXu C call) {ro:Option Nat} {all:Array Oper} {Q:Exit → Act → World → Prop} {k:St → Prop} (hW:∀ o ∈ all.toList,∀ t,o.dst = some t → t ∈ W) (hQ:∀ a w,PostC C B w0 Ψ0 As W a0 k a w → Q .normal a w) (hns:Region.noSelect all = true) (hnd:noDefer all = true) (hP:∀ c (a:Act) d v w,Q (.panic c) (a.put d v) w ↔ Q (.panic c) a w) (hP0:C.noPan = true → ∀ c a w,¬ Q (.panic c) a w) (hQP:∀ ch a w,PanP C B w0 Ψ0 ch w → DefQ W a0 a → Q (.panic ch) a w) :
 ∀ (n m:Nat) (D:List (Nat × Nat)) {L:List Nat} {listed:Array Bool} {s0:St} {Ψ:Pr} {β:List Value} {a:Act} {w w1:World} {F:Nat → Prop},n + L.length = all.size → m + D.length = n → (L ++ D.map Prod.fst).Nodup → (∀ i ∈ L ++ D.map Prod.fst,i < all.size) → (∀ i,listed.getD i false = memS i (L ++ D.map Prod.fst)) → listed.size = all.size → aall C call all n L s0 k →
 Ext B Ψ0 Ψ → (∀ g,B g → F g) → BelowS B w0 w1 → InvH C.P F w1 Ψ β s0.heap w → RelF Ψ β ((s0.junk C all L).top :: s0.below) (a :: As) → Same Ψ0 W a0 a → (∀ p ∈ D,Pend C B F Ψ all L a w p) → (D.map Prod.snd).Nodup → ∀ R:World → Prop,(∀ Ψ' w',PLe Ψ Ψ' → Keeps Ψ' w' → R w') → wpAnyR ro C.P all Q R m listed a w:=by
 have hnd':∀ (j:Nat) (o:Oper) (c:Call),all[j]? = some o → o.op ≠ .defer c:=fun j o c hj e=>by
  have:=Array.all_eq_true_iff_forall_mem.1 hnd o (Array.mem_of_getElem? hj)
  simp [e] at this
 have lt_all:∀ {i:Nat} {o:Oper},all[i]? = some o → i < all.size:=fun {i o} ho=>by
  rcases Nat.lt_or_ge i all.size with h' | h'
  ·exact h'
  ·rw [Array.getElem?_eq_none h'] at ho; cases ho
 have fwd:∀ {M:List Nat} {listed:Array Bool},(∀ i,listed.getD i false = memS i M) → listed.size = all.size → ∀ i,i ∈ Region.ready .any all listed ↔ i ∈ jXw all M all.size:=by
  intro M listed hl hs i
  rw [jZ1,jQy]
  constructor
  ·rintro ⟨h1,o,ho,h2⟩
   refine ⟨lt_all ho,o,ho,by rw [← hl]; exact jZ7 h1,?_⟩
   rw [List.all_eq_true]
   intro j hj
   obtain ⟨e,he,hb,rfl⟩:=jKh hj
   rw [← hl]
   exact h2 e he hb
  ·rintro ⟨hlt,o,ho,h1,h2⟩
   refine ⟨getD_in (by omega) (by rw [hl]; exact h1),o,ho,fun e he hb=>?_⟩
   rw [List.all_eq_true] at h2
   rw [hl]
   refine h2 e.on ?_
   simp only [jZa,List.mem_map,List.mem_filter]
   exact ⟨e,⟨by simpa using he,hb⟩,rfl⟩
 have app:∀ (i:Nat) (M N:List Nat),memS i (M ++ N) = (memS i M || memS i N):=fun i M N=>by
  induction M with
  | nil=>rfl
  | cons x M ih=>simp only [List.cons_append,memS,ih,Bool.or_assoc]
 have hset:∀ {M:List Nat} {listed:Array Bool},(∀ i,listed.getD i false = memS i M) → listed.size = all.size → ∀ {N:List Nat} (i:Nat),i < all.size → (∀ j,memS j N = (memS j M || Nat.beq j i)) → (∀ j,(listed.setIfInBounds i true).getD j false = memS j N):=fun {M listed} hl hs N i hi hN j=>by
  rw [jJi (by omega),hN]
  by_cases hij:i = j
  ·subst hij; simp
  ·rw [if_neg hij,hl,show Nat.beq j i = false from by
    cases hb:Nat.beq j i with
    | false=>rfl
    | true=>exact absurd (Nat.eq_of_beq_eq_true hb).symm hij]
   simp
 intro n
 induction n with
 | zero =>
  intro m D L listed s0 Ψ β a w w1 F hnL hmD hnodup hlt hl hs hk hE hBF hlow hi hf hS hpend hsn R hR
  have hm:m = 0:=by omega
  have hD:D = []:=List.eq_nil_of_length_eq_zero (by omega)
  subst hm hD
  unfold aall at hk
  split at hk
  ·rename_i hn
   have hl':∀ i,listed.getD i false = memS i L:=fun i=>by rw [hl]; simp
   refine ⟨hR _ _ (PLe.refl _) hi.prom,?_,hQ a w ⟨Ψ,β,s0.junk C all L,hE,hi.anti hBF hlow,hf,hS,hk⟩⟩
   cases hr:Region.ready .any all listed with
   | nil=>rfl
   | cons i l =>
    have:=(fwd hl' hs i).1 (by rw [hr]; simp)
    rw [isNilL_iff.1 hn] at this
    cases this
  ·exact hk.elim
 | succ n ih =>
  intro m
  induction m using Nat.strongRecOn with
  | _ m ihm =>
  intro D L listed s0 Ψ β a w w1 F hnL hmD hnodup hlt hl hs hk hE hBF hlow hi hf hS hpend hsn R hR
  have hpig:∀ i,i < all.size → i ∉ L ++ D.map Prod.fst → ∃ m',m = m' + 1:=fun i hi hni=>by
   have:=nodup_lt all.size (i :: (L ++ D.map Prod.fst)) (List.nodup_cons.2 ⟨hni,hnodup⟩) (fun x hx=>by
    rcases List.mem_cons.1 hx with rfl | hx
    ·exact hi
    ·exact hlt x hx)
   simp only [List.length_cons,List.length_append,List.length_map] at this
   exact ⟨m - 1,by omega⟩
  have hl1:∀ i,memS i L = true → listed.getD i false = true:=fun i h=>by rw [hl,app,h]; rfl
  have hDL:∀ p ∈ D,p.1 ∉ L:=fun p hp hpl=>(List.nodup_append.1 hnodup).2.2 p.1 hpl p.1 (List.mem_map_of_mem hp) rfl
  have hdr:∀ p ∈ D,p.1 ∈ jXw all L all.size:=fun p hp=>by
   obtain ⟨o,t,c,tid,h1,h2,h3,h4,h5,h6,h7,h8,h9,h10,h11⟩:=hpend p hp
   exact jQy.2 ⟨lt_all h1,o,h1,jQw.2 (hDL p hp),h10⟩
  have hk0:=hk
  unfold aall at hk
  rw [forceS_eq] at hk
  obtain ⟨s,hse⟩:∃ s,s = s0.junk C all L:=⟨_,rfl⟩
  have hsh:s.heap = s0.heap:=by rw [hse]; rfl
  have hsb:s.below = s0.below:=by rw [hse]; rfl
  rw [← hse] at hk
  have hfs:RelF Ψ β (s.top :: s.below) (a :: As):=by rw [hsb,hse]; exact hf
  have his:InvH C.P F w1 Ψ β s.heap w:=by rw [hsh]; exact hi
  have hkeep:Keeps Ψ w:=hi.prom
  unfold aallB at hk
  split at hk
  ·rename_i hn
   have hn:=isNilL_iff.1 hn
   have hD:D = []:=by
    cases D with
    | nil=>rfl
    | cons p D=>have:=hdr p (by simp); rw [hn] at this; cases this
   subst hD
   have hm:m = n + 1:=by simpa using hmD
   subst hm
   have hl':∀ i,listed.getD i false = memS i L:=fun i=>by rw [hl]; simp
   refine ⟨hR _ _ (PLe.refl _) hkeep,fun _=>hQ a w ⟨Ψ,β,s,hE,his.anti hBF hlow,hfs,hS,hk⟩,fun i hir=>?_⟩
   have:=(fwd hl' hs i).1 hir
   rw [hn] at this
   cases this
  rename_i hnn
  split at hk
  ·rename_i i' htk
   obtain ⟨hmem,hfr⟩:=tkOf_spec htk
   obtain ⟨hlt',o',ho',hun',hed'⟩:=jQy.1 hmem
   unfold oneAt at hk
   rw [ho'] at hk
   simp only at hk
   split at hk
   ·rename_i r hr
    obtain ⟨h1,h2,h3⟩:=freeL_spec' hl1 ho' hfr
    have hkn:=jJ1 hk
    obtain ⟨v,hy,hv⟩:=tk_yields (a:=a) h1 (fun x _=>jXs (jQk hfs) x) hr hkn.1
    have hiD:i' ∉ D.map Prod.fst:=fun hm=>by
     obtain ⟨p,hp,e⟩:=List.mem_map.1 hm
     obtain ⟨o,t,c,tid,g1,g2,_⟩:=hpend p hp
     rw [e,ho'] at g1
     simp only [Option.some.injEq] at g1
     subst g1
     obtain ⟨_,_,hop⟩:=jX9 g2
     rcases hop with ⟨t,hop⟩ | ⟨t,len,parts,hop,_⟩ <;> rw [hop] at h1 <;> cases h1
    have hnm:i' ∉ L ++ D.map Prod.fst:=fun hm=>by
     rcases List.mem_append.1 hm with hm | hm
     ·exact jQw.1 hun' hm
     ·exact hiD hm
    obtain ⟨m',rfl⟩:=hpig i' hlt' hnm
    have hsz:(a.put o'.dst v).tmps.size = a.tmps.size:=by
     cases o'.dst with
     | none=>rfl
     | some d=>simp [Act.put]
    have hrest:=ih m' D (L:=i' :: L) (listed:=listed.setIfInBounds i' true) (by simp only [List.length_cons]; omega) (by omega) (by rw [List.cons_append]; exact List.nodup_cons.2 ⟨hnm,hnodup⟩) (fun x hx=>by
     rw [List.cons_append] at hx
     rcases List.mem_cons.1 hx with rfl | hx
     ·exact hlt'
     ·exact hlt x hx) (hset hl hs i' hlt' (fun j=>by rw [List.cons_append]; simp only [memS,Bool.or_comm])) (by simpa using hs) hkn.2 hE hBF hlow (by rw [jXb]; exact his) (jK2 (jQ8 hfs hv)) (hS.put (hW o' (List.mem_of_getElem? (l:=all.toList) (i:=i') (by simpa using ho'))))
     (fun p hp=>(hpend p hp).step (o':=o') hsz (fun q hq=>by
       cases hd:o'.dst with
       | none=>rfl
       | some d =>
        have:d ≠ q:=fun e=>hq (by rw [hd,e])
        simp only [Act.put]
        rw [Array.getElem?_setIfInBounds_ne this]) (fun o ho=>by
       obtain ⟨o2,_,_,_,g1,_,_,_,_,_,_,_,_,_,g11⟩:=hpend p hp
       rw [g1] at ho
       simp only [Option.some.injEq] at ho
       subst ho
       rcases g11 i' o' ho' (fun e=>hiD (by rw [e]; exact List.mem_map_of_mem hp)) hun' with hw | hw
       ·exfalso
        simp only [Array.any_eq_true',Bool.and_eq_true,beq_iff_eq] at hw
        obtain ⟨e,he,hb,heq⟩:=hw
        rw [List.all_eq_true] at hed'
        have:=hed' e.on (by simp only [jZa,List.mem_map,List.mem_filter]; exact ⟨e,⟨by simpa using he,hb⟩,rfl⟩)
        rw [heq] at this
        exact hDL p hp (jXk.1 this)
       ·exact hw) rfl (by obtain ⟨_,_,_,_,_,_,_,_,_,_,g7,_⟩:=hpend p hp; exact g7) (by obtain ⟨_,_,_,_,_,_,_,_,_,_,_,_,g9,_⟩:=hpend p hp; exact g9) (fun j hj=>by simp only [memS,hj,Bool.or_true])) hsn
     (fun w=>R w ∧ Keeps Ψ w) (fun Ψ' w' he hk'=>⟨hR _ _ he hk',fun ad u hu=>hk' ad u (he ad u hu)⟩)
    have hrdy:i' ∈ Region.ready .any all listed:=(fwd hl hs i').2 (jQy.2 ⟨hlt',o',ho',jQw.2 hnm,by
     rw [List.all_eq_true] at hed' ⊢
     exact fun j hj=>by rw [app,hed' j hj]; rfl⟩)
    have:=take_first (ro:=ro) (P:=C.P) hP ho' h2 (fun c=>hnd' i' o' c ho') hnd' (Region.noSelect_spec hns) m' listed a w (Region.free_spec ho' h3) hrdy (fun a' he w hw=>hy a' he w hw.2) hrest
    exact wpAnyR.mono (fun w hw=>hw.1) _ _ _ _ this
   ·exact hk.elim
  rename_i htkn
  split at hk
  ·rename_i i' hldf
   obtain ⟨hmem,hfr⟩:=ldFree_spec hldf
   obtain ⟨hlt',o',ho',hun',hed'⟩:=jQy.1 hmem
   obtain ⟨hg,hisl,hfd,u,gl,hgl,hgF,hload,hall⟩:=freeLd_spec ho' hfr his (jQk hfs)
   obtain ⟨d1,d2⟩:=freeLdD_spec hfd
   unfold oneAt at hk
   rw [ho'] at hk
   simp only at hk
   have hiD:i' ∉ D.map Prod.fst:=fun hm=>by
    obtain ⟨p,hp,e⟩:=List.mem_map.1 hm
    obtain ⟨o,t,c,tid,g1,g2,_⟩:=hpend p hp
    rw [e,ho'] at g1
    simp only [Option.some.injEq] at g1
    subst g1
    obtain ⟨_,_,hop⟩:=jX9 g2
    rcases hop with ⟨t,hop⟩ | ⟨t,len,parts,hop,_⟩ <;> rw [hop] at hisl <;> cases hisl
   have hnm:i' ∉ L ++ D.map Prod.fst:=fun hm=>by
    rcases List.mem_append.1 hm with hm | hm
    ·exact jQw.1 hun' hm
    ·exact hiD hm
   obtain ⟨m',rfl⟩:=hpig i' hlt' hnm
   have hom:o' ∈ all.toList:=List.mem_of_getElem? (l:=all.toList) (i:=i') (by simpa using ho')
   have hrdy:i' ∈ Region.ready .any all listed:=(fwd hl hs i').2 (jQy.2 ⟨hlt',o',ho',jQw.2 hnm,by
    rw [List.all_eq_true] at hed' ⊢
    exact fun j hj=>by rw [app,hed' j hj]; rfl⟩)
   have hap:∀ p ∈ D,∀ o,all[p.1]? = some o → o.apart all o' = true:=fun p hp o ho=>by
    obtain ⟨o2,_,_,_,g1,_,_,_,_,_,_,_,_,_,g11⟩:=hpend p hp
    rw [g1] at ho
    simp only [Option.some.injEq] at ho
    subst ho
    rcases g11 i' o' ho' (fun e=>hiD (by rw [e]; exact List.mem_map_of_mem hp)) hun' with hw | hw
    ·exfalso
     simp only [Array.any_eq_true',Bool.and_eq_true,beq_iff_eq] at hw
     obtain ⟨e,he,hb,heq⟩:=hw
     rw [List.all_eq_true] at hed'
     have:=hed' e.on (by simp only [jZa,List.mem_map,List.mem_filter]; exact ⟨e,⟨by simpa using he,hb⟩,rfl⟩)
     rw [heq] at this
     exact hDL p hp (jXk.1 this)
    ·exact hw
   have hw:=jJ2 (hQP:=fun ch a2 w2 hp hd=>hQP ch a2 w2 (hp.fence hE hBF hlow fun h=>h.anti hBF) (DefQ.trans hS hd (fun t hm=>hW o' hom t (by simpa using hm)))) (B:=F) (w0:=w1) (Ψ0:=Ψ) (As:=As) (W:=o'.dst.toList) (a0:=a) (ro:=ro) hc all [o'] (Q:=fun e a' w'=>match e with
    | .normal=>wpAnyR ro C.P all Q R m' (listed.setIfInBounds i' true) a' w'
    | e=>Q e a' w') hk (Ext.refl F Ψ) his hfs (Same.refl Ψ _ a) (fun o2 ho2 t ht=>by simp at ho2; subst ho2; simp [ht]) (fun a' w' hp=>by
     obtain ⟨Ψ',β',s',hE',hi',hf',hS',hk'⟩:=hp
     refine ih m' D (L:=i' :: L) (by simp only [List.length_cons]; omega) (by omega) (by rw [List.cons_append]; exact List.nodup_cons.2 ⟨hnm,hnodup⟩) (fun x hx=>by
      rw [List.cons_append] at hx
      rcases List.mem_cons.1 hx with rfl | hx
      ·exact hlt'
      ·exact hlt x hx) (hset hl hs i' hlt' (fun j=>by rw [List.cons_append]; simp only [memS,Bool.or_comm])) (by simpa using hs) hk' (hE.trans (hE'.anti hBF)) hBF hlow hi' (jK2 hf')
      (hS.trans hE.1 (hS'.mono fun t hm=>hW o' hom t (by simpa using hm))) ?_ hsn R (fun Ψ2 w2 he hk2=>hR _ _ (fun ad u hu=>he ad u (hE'.1 ad u hu)) hk2)
     intro p hp
     have hpF:F p.2:=by obtain ⟨_,_,_,_,_,_,_,_,_,_,g7,_⟩:=hpend p hp; exact g7
     refine (hpend p hp).step (o':=o') hS'.1.1 (fun q hq=>hS'.1.2 q fun hm=>hq (by simpa using hm)) (hap p hp) ((hi'.low.block p.2 hpF).trans (his.low.block p.2 hpF).symm) hpF (fun ad had=>?_) (fun j hj=>by simp only [memS,hj,Bool.or_true])
     cases hp':Ψ' ad with
     | none=>rfl
     | some u =>
      rcases hE'.2 ad u hp' with h | h
      ·obtain ⟨_,_,_,_,_,_,_,_,_,_,_,_,g9,_⟩:=hpend p hp
       rw [g9 ad had] at h; cases h
      ·exact absurd hpF (by rw [← had]; exact h))
   have hop':wpOpIn (Fw ro) 0 C.P all Q i' (wpAnyR ro C.P all Q R m' (listed.setIfInBounds i' true)) a w:=by
    refine wpOp_at ho' ?_
    unfold wpListIn at hw
    split
    ·rename_i hwant
     rw [if_pos hwant] at hw
     exact jKo (fun e a w hne h=>by cases e <;> first | exact absurd rfl hne | exact h) hw
    ·rename_i hwant
     rw [if_neg hwant] at hw
     exact hw.2
   have hrest:wpAnyR ro C.P all Q R m' (listed.setIfInBounds i' true) (a.put o'.dst u) w:=by
    unfold wpOpIn at hop'
    rw [ho'] at hop'
    simp only at hop'
    rw [if_pos (by simp [Region.wanted,hg])] at hop'
    have hc2:=hop'.2
    rw [Oper.semAt_eq _ _ _ (fun c=>hnd' i' o' c ho'),hload] at hc2
    exact hc2
   exact ld_first (C:=C) hP ho' hg (fun c=>hnd' i' o' c ho') hnd' (Region.noSelect_spec hns) (D:=descs all L all.size [i']) (fun d hd=>(d1 d hd).2) (SP:=fun q p=>layVar all L q p = true) (fun q p h=>(layVar_spec h).2) m' listed a w (fun d hd=>by
    have hdd:d ∉ L:=jQw.1 (d1 d hd).1
    have hdD:d ∉ D.map Prod.fst:=fun hm=>by
     obtain ⟨p,hp,e⟩:=List.mem_map.1 hm
     rcases (d1 d hd).2 with h | h
     ·exact hiD (by rw [← h,← e]; exact List.mem_map_of_mem hp)
     ·obtain ⟨o2,_,_,_,g1,_,_,_,_,_,_,_,_,g10,_⟩:=hpend p hp
      unfold hasDep at h
      rw [← e,g1] at h
      simp only [Array.any_eq_true',Bool.and_eq_true] at h
      obtain ⟨e2,he2,hb2,hd2⟩:=h
      rw [List.all_eq_true] at g10
      have h3:=g10 e2.on (by simp only [jZa,List.mem_map,List.mem_filter]; exact ⟨e2,⟨by simpa using he2,hb2⟩,rfl⟩)
      have h4:=(d1 e2.on (jXk.1 hd2)).1
      rw [h3] at h4
      cases h4
    rw [hl,app,jQw.2 hdd,jQw.2 hdD]; rfl) (fun j oj hj hji hun hjD=>d2 j oj hj hji (by
    have:=jZ7 hun
    rw [hl,app,Bool.or_eq_false_iff] at this
    exact this.1) hjD) hrdy hgl (fun q p hqp hlq=>by
    obtain ⟨hqL,oq,c,k1,k2,k3,k4,k5⟩:=layVar_spec hqp
    rw [hl,app,hqL,Bool.false_or] at hlq
    obtain ⟨p',hp',rfl⟩:=List.mem_map.1 (jXk.1 hlq)
    obtain ⟨o2,t2,c2,tid2,g1,g2,g3,g4,g5,g6,g7,g8,g9,_⟩:=hpend p' hp'
    rw [k1] at g1
    simp only [Option.some.injEq] at g1
    subst g1
    rw [k4] at g3
    simp only [Option.some.injEq] at g3
    subst g3
    by_cases hlt:p < a.tmps.size
    ·have hev:a.eval (.tmp p) = .pointer (some ⟨p'.2,0,none⟩):=by
      simp only [Act.eval]
      rw [Array.getD_eq_getD_getElem?,g5 hlt]
      unfold layV
      rw [k2]
      rfl
     rw [hev]
     intro ad had
     simp only [Value.pointer.injEq,Option.some.injEq] at had
     subst had
     exact ⟨fun e=>hgF (by rw [← e]; exact g7),c2,tid2,(0,0),g6⟩
    ·have hev:a.eval (.tmp p) = undef:=by
      simp only [Act.eval]
      rw [Array.getD_eq_getD_getElem?,Array.getElem?_eq_none (by omega)]
      rfl
     rw [hev]
     exact away_undef _ _) hall hrest
  rename_i hldn
  split at hk
  ·rename_i R2 hlay
   have hsub:∀ i ∈ R2,i ∈ jXw all L all.size:=fun i hi=>by
    rcases layOf_some hlay with h | ⟨h,_⟩
    ·rw [← h]; exact hi
    ·rw [h] at hi; exact chooseL_sub hi
   have hRne:jXw all L all.size ≠ []:=fun h=>hnn (isNilL_iff.2 h)
   have hne:∃ i,i ∈ R2:=by
    rcases layOf_some hlay with h | ⟨h,_⟩
    ·rw [h]
     cases hr:jXw all L all.size with
     | nil=>exact absurd hr hRne
     | cons x y=>exact ⟨x,by simp⟩
    ·rw [h]; exact chooseL_ne hRne
   have hed:∀ {i:Nat} {o:Oper} (q:Nat),all[i]? = some o → i ∈ jXw all L all.size → q ∉ L → ¬ (o.after.any (fun e=>Region.binds .any e && e.on == q) = true):=fun {i o} q ho hi hq hw=>by
    obtain ⟨_,o',ho',_,hed'⟩:=jQy.1 hi
    rw [ho] at ho'
    simp only [Option.some.injEq] at ho'
    subst ho'
    simp only [Array.any_eq_true',Bool.and_eq_true,beq_iff_eq] at hw
    obtain ⟨e,he,hb,heq⟩:=hw
    rw [List.all_eq_true] at hed'
    have:=hed' e.on (by simp only [jZa,List.mem_map,List.mem_filter]; exact ⟨e,⟨by simpa using he,hb⟩,rfl⟩)
    rw [heq] at this
    exact hq (jXk.1 this)
   by_cases hA:∃ p ∈ D,p.1 ∈ R2
   ·obtain ⟨p,hp,hpR⟩:=hA
    obtain ⟨D1,D2,rfl⟩:=List.append_of_mem hp
    obtain ⟨o,t,c,tid,g1,g2,g3,g4,g5,g6,g7,g8,g9,g10,g11⟩:=hpend p hp
    have hone:=aeach_mem hk p.1 hpR
    unfold oneAt at hone
    rw [g1] at hone
    simp only at hone
    rw [if_pos g2] at hone
    split at hone
    ·rename_i r hr
     have hkn:=jJ1 hone
     obtain ⟨Ψ',β',hle,hnew,hi',hf'⟩:=claim_sound hr g2 g3 g4 his hfs g6 g7 g9 g5
     have hperm:(L ++ (D1 ++ p :: D2).map Prod.fst).Perm (p.1 :: L ++ (D1 ++ D2).map Prod.fst):=by
      rw [List.map_append,List.map_cons,List.map_append,← List.append_assoc,List.cons_append,← List.append_assoc]
      exact List.perm_middle
     have hsn':(D1.map Prod.snd ++ p.2 :: D2.map Prod.snd).Nodup:=by rw [List.map_append,List.map_cons] at hsn; exact hsn
     have hsn2:=(List.perm_middle.nodup_iff).1 hsn'
     refine ih m (D1 ++ D2) (L:=p.1 :: L) (listed:=listed) (F:=fun q=>F q ∧ q ≠ p.2) (by simp only [List.length_cons]; omega) (by simp only [List.length_append,List.length_cons] at hmD ⊢; omega) (hperm.nodup_iff.1 hnodup) (fun x hx=>hlt x (hperm.mem_iff.2 hx))
      (fun i=>by rw [hl]; exact memS_congr fun x=>hperm.mem_iff) hs hkn.2 (hE.trans ⟨hle,fun ad v hv=>(hnew ad v hv).imp id fun e=>by rw [e]; exact g8⟩) (fun q hq=>⟨hBF q hq,fun e=>g8 (e ▸ hq)⟩) hlow hi' (jK2 hf') hS ?_ ?_ R (fun Ψ2 w2 he hk2=>hR _ _ (fun ad u hu=>he ad u (hle ad u hu)) hk2)
     ·intro q hq
      have hqD:q ∈ D1 ++ p :: D2:=by
       rcases List.mem_append.1 hq with h | h
       ·exact List.mem_append_left _ h
       ·exact List.mem_append_right _ (List.mem_cons_of_mem _ h)
      have hqne:q.2 ≠ p.2:=fun e=>(List.nodup_cons.1 hsn2).1 (by
       rw [← e,← List.map_append]; exact List.mem_map_of_mem hq)
      obtain ⟨o',t',c',tid',k1,k2,k3,k4,k5,k6,k7,k8,k9,k10,k11⟩:=hpend q hqD
      refine ⟨o',t',c',tid',k1,k2,k3,k4,k5,k6,⟨k7,hqne⟩,k8,fun ad had=>?_,?_,fun j oj hj hjn hm=>k11 j oj hj hjn ?_⟩
      ·cases hp':Ψ' ad with
       | none=>rfl
       | some u =>
        rcases hnew ad u hp' with h | h
        ·rw [k9 ad had] at h; cases h
        ·exact absurd (had.symm.trans h) hqne
      ·rw [List.all_eq_true] at k10 ⊢
       exact fun j hj=>by simp only [memS,k10 j hj,Bool.or_true]
      ·cases hm':memS j L with
       | false=>rfl
       | true=>simp only [memS,hm',Bool.or_true,reduceCtorEq] at hm
     ·rw [List.map_append]
      exact (List.nodup_cons.1 hsn2).2
    ·exact hone.elim
   ·have hnR:∀ p ∈ D,p.1 ∉ R2:=fun p hp h=>hA ⟨p,hp,h⟩
    obtain ⟨r0,hr0⟩:=hne
    obtain ⟨hlt0,o0,ho0,hun0,hed0⟩:=jQy.1 (hsub r0 hr0)
    have hnm0:r0 ∉ L ++ D.map Prod.fst:=fun hm=>by
     rcases List.mem_append.1 hm with hm | hm
     ·exact jQw.1 hun0 hm
     ·obtain ⟨p,hp,e⟩:=List.mem_map.1 hm
      exact hnR p hp (by rw [e]; exact hr0)
    obtain ⟨m',rfl⟩:=hpig r0 hlt0 hnm0
    have hrdy0:r0 ∈ Region.ready .any all listed:=(fwd hl hs r0).2 (jQy.2 ⟨hlt0,o0,ho0,jQw.2 hnm0,by
     rw [List.all_eq_true] at hed0 ⊢
     exact fun j hj=>by rw [app,hed0 j hj]; rfl⟩)
    refine ⟨hR _ _ (PLe.refl _) hkeep,fun hr=>(by rw [hr] at hrdy0; cases hrdy0),fun i hir=>?_⟩
    obtain ⟨hlti,o,ho,huni,hedi⟩:=jQy.1 ((fwd hl hs i).1 hir)
    have hnmi:i ∉ L ++ D.map Prod.fst:=jQw.1 huni
    have hiL:i ∉ L:=fun h=>hnmi (List.mem_append_left _ h)
    have hiD:i ∉ D.map Prod.fst:=fun h=>hnmi (List.mem_append_right _ h)
    have hom:o ∈ all.toList:=List.mem_of_getElem? (l:=all.toList) (i:=i) (by simpa using ho)
    have hplt:∀ p ∈ D,p.2 < w.heap.size:=fun p hp=>by
     obtain ⟨_,_,_,_,_,_,_,_,_,g6,_⟩:=hpend p hp
     exact jQm g6
    have hapart:i ∈ jXw all L all.size → ∀ p ∈ D,∀ o',all[p.1]? = some o' → o'.apart all o = true:=fun hiR p hp o' ho'=>by
     obtain ⟨o2,_,_,_,g1,_,_,_,_,_,_,_,_,_,g11⟩:=hpend p hp
     rw [g1] at ho'
     simp only [Option.some.injEq] at ho'
     subst ho'
     rcases g11 i o ho (fun e=>hiD (by rw [e]; exact List.mem_map_of_mem hp)) (jQw.2 hiL) with hw | hw
     ·exact absurd hw (hed p.1 ho hiR (hDL p hp))
     ·exact hw
    have hstep:∀ {Ψ':Pr} {β':List Value} {s':St} {a':Act} {w' w1':World} {F':Nat → Prop},aall C call all n (i :: L) s' k → Ext B Ψ Ψ' → (∀ g,B g → F' g) → BelowS B w0 w1' → InvH C.P F' w1' Ψ' β' s'.heap w' → RelF Ψ' β' (s'.top :: s'.below) (a' :: As) → Same Ψ0 W a0 a' →
     (∀ p ∈ D,Pend C B F' Ψ' all (i :: L) a' w' p) → wpAnyR ro C.P all Q R m' (listed.setIfInBounds i true) a' w':=by
     intro Ψ' β' s' a' w' w1' F' hk' hE' hBF' hlow' hi' hf' hS' hpend'
     refine ih m' D (L:=i :: L) (by simp only [List.length_cons]; omega) (by omega) (by rw [List.cons_append]; exact List.nodup_cons.2 ⟨hnmi,hnodup⟩) (fun x hx=>by
      rw [List.cons_append] at hx
      rcases List.mem_cons.1 hx with rfl | hx
      ·exact hlti
      ·exact hlt x hx) (hset hl hs i hlti (fun j=>by rw [List.cons_append]; simp only [memS,Bool.or_comm])) (by simpa using hs) hk' (hE.trans hE') hBF' hlow' hi' (jK2 hf') hS' hpend' hsn R (fun Ψ2 w2 he hk2=>hR _ _ (fun ad u hu=>he ad u (hE'.1 ad u hu)) hk2)
    have hLs:∀ j,memS j L = true → memS j (i :: L) = true:=fun j hj=>by simp only [memS,hj,Bool.or_true]
    have hlow2:∀ {c:Array Value} {tid:TypeId},BelowS B w0 (w.alloc (.cells c tid)):=fun {c tid}=>by
     refine (hlow.trans ⟨his.low.os,his.low.tape,his.low.output,his.low.size,fun g hg=>his.low.block g (hBF g hg)⟩).trans ?_
     exact below_S ((Below.refl _ _).alloc (Nat.le_refl _) _) fun g hg=>his.size g (hBF g hg)
    have hlayput:jX7 C o = true → ∀ (t:Tmp) (v:Value),o.dst = some t → RelF Ψ β (s.top :: s.below) (a.put (some t) v :: As) ∧ (a.put (some t) v).tmps.size = a.tmps.size ∧ (∀ q,o.dst ≠ some q → (a.put (some t) v).tmps[q]? = a.tmps[q]?) ∧ (t < (a.put (some t) v).tmps.size → (a.put (some t) v).tmps[t]? = some v):=fun hly t v hdst=>by
     have h1:=jQ8 (d:=some t) (av:=.junk) (v:=v) hfs trivial
     have h2:fset s.top t .junk = s.top:=by
      rw [hse]
      exact junkT_fix hly hdst (jQw.2 hiL) all.toList 0 s0.top (Nat.zero_le _) (by simpa using ho)
     have h1:RelF Ψ β (fset s.top t .junk :: s.below) (a.put (some t) v :: As):=h1
     rw [h2] at h1
     refine ⟨h1,by simp [Act.put],fun q hq=>?_,fun ht=>?_⟩
     ·have:t ≠ q:=fun e=>hq (by rw [hdst,e])
      simp only [Act.put]
      rw [Array.getElem?_setIfInBounds_ne this]
     ·have ht':t < a.tmps.size:=by simpa [Act.put] using ht
      simp only [Act.put]
      rw [Array.getElem?_setIfInBounds_self_of_lt ht']
    by_cases hiR:i ∈ R2
    ·have hone:=aeach_mem hk i hiR
     unfold oneAt at hone
     rw [ho] at hone
     simp only at hone
     by_cases hly:jX7 C o = true
     ·rw [if_pos hly] at hone
      split at hone
      ·rename_i r hr
       have hkn:=jJ1 hone
       obtain ⟨hgd,⟨t,hdst,_⟩,_⟩:=jX9 hly
       obtain ⟨c,tid,hlays⟩:=lays_of hly his (jQk hfs) hr
       refine lay_op ho hgd (fun c=>hnd' i o c ho) hlays ?_
       rw [hdst]
       obtain ⟨q1,q2,q3,q4⟩:=hlayput hly t (layV o w.heap.size) hdst
       have hfen:=his.fence (c:=c) (t:=tid)
       have hlays':Lays C.P o (a.put (some t) (layV o w.heap.size)) c tid:=fun a2 he w2=>hlays a2 (fun x hx=>by rw [he x hx,lay_eval hly hdst x hx]) w2
       have hnone:∀ ad,ad.block = w.heap.size → Ψ ad = none:=fun ad had=>by
        cases hp:Ψ ad with
        | none=>rfl
        | some u=>have:=Pm_lt (hi.prom ad u hp); omega
       obtain ⟨Ψ',β',hle,hnew,hi',hf'⟩:=claim_sound hr hly hdst hlays' hfen q1 (heap_alloc_new w _) (.inr rfl) hnone q4
       have hnB:¬ B w.heap.size:=fun hb=>Nat.lt_irrefl _ (his.size _ (hBF _ hb))
       refine hstep hkn.2 ⟨hle,fun ad v hv=>(hnew ad v hv).imp id fun e=>by rw [e]; exact hnB⟩ (fun g hg=>⟨.inl (hBF g hg),fun e=>hnB (e ▸ hg)⟩) hlow2 hi' hf' (hS.put (d:=some t) (fun t' ht'=>hW o hom t' (by rw [hdst]; exact ht'))) ?_
       intro p hp
       have hpn:p.2 ≠ w.heap.size:=Nat.ne_of_lt (hplt p hp)
       refine (hpend p hp).step (o':=o) q2 q3 (hapart (hsub i hiR) p hp) ?_ ⟨.inl ?_,hpn⟩ (fun ad had=>?_) hLs
       ·exact ((Below.refl w.heap.size w).alloc (Nat.le_refl _) (.cells c tid)).block p.2 (hplt p hp)
       ·obtain ⟨_,_,_,_,_,_,_,_,_,_,g7,_⟩:=hpend p hp; exact g7
       ·cases hp':Ψ' ad with
        | none=>rfl
        | some u =>
         rcases hnew ad u hp' with h | h
         ·obtain ⟨_,_,_,_,_,_,_,_,_,_,_,_,g9,_⟩:=hpend p hp
          rw [g9 ad had] at h; cases h
         ·exact absurd (had.symm.trans h) hpn
      ·exact hone.elim
     ·rw [if_neg hly] at hone
      have hw:=jJ2 (hQP:=fun ch a2 w2 hp hd=>hQP ch a2 w2 (hp.fence hE hBF hlow fun h=>h.anti hBF) (DefQ.trans hS hd (fun t hm=>hW o hom t (by simpa using hm)))) (B:=F) (w0:=w1) (Ψ0:=Ψ) (As:=As) (W:=o.dst.toList) (a0:=a) (ro:=ro) hc all [o] (Q:=fun e a' w'=>match e with
       | .normal=>wpAnyR ro C.P all Q R m' (listed.setIfInBounds i true) a' w'
       | e=>Q e a' w') hone (Ext.refl F Ψ) his hfs (Same.refl Ψ _ a) (fun o' ho' t ht=>by simp at ho'; subst ho'; simp [ht]) (fun a' w' hp=>by
        obtain ⟨Ψ',β',s',hE',hi',hf',hS',hk'⟩:=hp
        refine hstep hk' (hE'.anti hBF) hBF hlow hi' hf' (hS.trans hE.1 (hS'.mono fun t hm=>hW o hom t (by simpa using hm))) ?_
        intro p hp
        have hpF:F p.2:=by obtain ⟨_,_,_,_,_,_,_,_,_,_,g7,_⟩:=hpend p hp; exact g7
        refine (hpend p hp).step (o':=o) hS'.1.1 (fun q hq=>hS'.1.2 q fun hm=>hq (by simpa using hm)) (hapart (hsub i hiR) p hp) ((hi'.low.block p.2 hpF).trans (his.low.block p.2 hpF).symm) hpF (fun ad had=>?_) hLs
        cases hp':Ψ' ad with
        | none=>rfl
        | some u =>
         rcases hE'.2 ad u hp' with h | h
         ·obtain ⟨_,_,_,_,_,_,_,_,_,_,_,_,g9,_⟩:=hpend p hp
          rw [g9 ad had] at h; cases h
         ·exact absurd hpF (by rw [← had]; exact h))
      refine wpOp_at ho ?_
      unfold wpListIn at hw
      split
      ·rename_i hwant
       rw [if_pos hwant] at hw
       exact jKo (fun e a w hne h=>by cases e <;> first | exact absurd rfl hne | exact h) hw
      ·rename_i hwant
       rw [if_neg hwant] at hw
       exact hw.2
    ·
     rcases layOf_some hlay with hR2 | ⟨hR2,hput⟩
     ·exfalso
      have hD:D = []:=by
       cases D with
       | nil=>rfl
       | cons p D=>exact absurd (by rw [hR2]; exact hdr p (by simp)) (hnR p (by simp))
      subst hD
      refine hiR ?_
      rw [hR2]
      exact jQy.2 ⟨hlti,o,ho,jQw.2 hiL,by simpa using hedi⟩
     ·obtain ⟨p1,p2⟩:=putOff_spec hput
      rw [← hR2] at p1 p2
      have hiRR:i ∈ jXw all L all.size:=by
       cases hm:memS i (jXw all L all.size) with
       | true=>exact jXk.1 hm
       | false =>
        exfalso
        obtain ⟨e,he,h1,h2⟩:=p2 i o ho (jQw.2 hiL) hm
        rw [List.all_eq_true] at hedi
        have h3:=hedi e he
        rw [app,h1,Bool.false_or] at h3
        obtain ⟨p,hp,e'⟩:=List.mem_map.1 (jXk.1 h3)
        exact jQw.1 h2 (by rw [← e']; exact minus_mem.2 ⟨hdr p hp,hnR p hp⟩)
      obtain ⟨o',r,ho',hly,hr,hap⟩:=p1 i (minus_mem.2 ⟨hiRR,hiR⟩)
      rw [ho] at ho'
      simp only [Option.some.injEq] at ho'
      subst ho'
      obtain ⟨hgd,⟨t,hdst,_⟩,_⟩:=jX9 hly
      obtain ⟨c,tid,hlays⟩:=lays_of hly his (jQk hfs) hr
      refine lay_op ho hgd (fun c=>hnd' i o c ho) hlays ?_
      rw [hdst]
      obtain ⟨q1,q2,q3,q4⟩:=hlayput hly t (layV o w.heap.size) hdst
      have hfen:=his.fence (c:=c) (t:=tid)
      have hlays':Lays C.P o (a.put (some t) (layV o w.heap.size)) c tid:=fun a2 he w2=>hlays a2 (fun x hx=>by rw [he x hx,lay_eval hly hdst x hx]) w2
      have hnone:∀ ad,ad.block = w.heap.size → Ψ ad = none:=fun ad had=>by
       cases hp:Ψ ad with
       | none=>rfl
       | some u=>have:=Pm_lt (hi.prom ad u hp); omega
      have hnB:¬ B w.heap.size:=fun hb=>Nat.lt_irrefl _ (his.size _ (hBF _ hb))
      have hperm:(i :: (L ++ D.map Prod.fst)).Perm (L ++ ((i,w.heap.size) :: D).map Prod.fst):=List.perm_middle.symm
      have hedL:(jZa o).all (fun j=>memS j L) = true:=by
       obtain ⟨_,o2,ho2,_,h2⟩:=jQy.1 hiRR
       rw [ho] at ho2
       simp only [Option.some.injEq] at ho2
       subst ho2
       exact h2
      refine ihm m' (by omega) ((i,w.heap.size) :: D) (L:=L) (s0:=s0) (F:=fun g=>F g ∨ g = w.heap.size) hnL (by simp only [List.length_cons]; omega) (hperm.nodup_iff.1 (List.nodup_cons.2 ⟨hnmi,hnodup⟩)) (fun x hx=>by
       rcases List.mem_cons.1 (hperm.mem_iff.2 hx) with rfl | hx
       ·exact hlti
       ·exact hlt x hx) (hset hl hs i hlti (fun j=>by
       rw [memS_congr (fun x=>hperm.mem_iff.symm)]
       simp only [memS,Bool.or_comm])) (by simpa using hs) hk0 hE (fun g hg=>.inl (hBF g hg)) hlow2 (by rw [hsh] at hfen; exact hfen) (by rw [hsb,hse] at q1; exact q1) (hS.put (d:=some t) (fun t' ht'=>hW o hom t' (by rw [hdst]; exact ht'))) ?_ ?_ R hR
      ·intro p hp
       rcases List.mem_cons.1 hp with rfl | hp
       ·exact ⟨o,t,c,tid,ho,hly,hdst,hlays',q4,heap_alloc_new w _,.inr rfl,hnB,hnone,hedL,hap⟩
       ·refine (hpend p hp).step (o':=o) q2 q3 (hapart hiRR p hp) ?_ (.inl ?_) ?_ (fun _ h=>h)
        ·exact ((Below.refl w.heap.size w).alloc (Nat.le_refl _) (.cells c tid)).block p.2 (hplt p hp)
        ·obtain ⟨_,_,_,_,_,_,_,_,_,_,g7,_⟩:=hpend p hp; exact g7
        ·obtain ⟨_,_,_,_,_,_,_,_,_,_,_,_,g9,_⟩:=hpend p hp; exact g9
      ·rw [List.map_cons]
       refine List.nodup_cons.2 ⟨fun hm=>?_,hsn⟩
       obtain ⟨p,hp,e⟩:=List.mem_map.1 hm
       have:=hplt p hp
       simp only at e
       omega
  ·rename_i hlay
   have hno:=layOf_none hlay
   have hD:D = []:=by
    cases D with
    | nil=>rfl
    | cons p D =>
     exfalso
     obtain ⟨o,t,c,tid,g1,g2,_⟩:=hpend p (by simp)
     have:=hno p.1 (hdr p (by simp))
     rw [isLayAt_spec g1,g2] at this
     cases this
   subst hD
   have hm:m = n + 1:=by simpa using hmD
   subst hm
   have hl':∀ i,listed.getD i false = memS i L:=fun i=>by rw [hl]; simp
   have stepIH:∀ (i:Nat) {Ψ':Pr} {β':List Value} {s':St} {a':Act} {w':World},i < all.size → i ∉ L → aall C call all n (i :: L) s' k → Ext F Ψ Ψ' → InvH C.P F w1 Ψ' β' s'.heap w' → RelF Ψ' β' (s'.top :: s'.below) (a' :: As) → Same Ψ0 W a0 a' →
    ∀ R':World → Prop,(∀ Ψ'' w'',PLe Ψ' Ψ'' → Keeps Ψ'' w'' → R' w'') → wpAnyR ro C.P all Q R' n (listed.setIfInBounds i true) a' w':=by
    intro i Ψ' β' s' a' w' hi1 hi2 hk' hE' hi' hf' hS' R' hR'
    refine ih n [] (L:=i :: L) (by simp only [List.length_cons]; omega) (by simp) (by simpa using ⟨hi2,by simpa using hnodup⟩) (fun x hx=>by
     simp only [List.map_nil,List.append_nil] at hx
     rcases List.mem_cons.1 hx with rfl | hx
     ·exact hi1
     ·exact hlt x (by simpa using hx)) (hset hl hs i hi1 (fun j=>by simp only [List.map_nil,List.append_nil,memS,Bool.or_comm])) (by simpa using hs) hk' (hE.trans (hE'.anti hBF)) hBF hlow hi' (jK2 hf') hS' (fun p hp=>by cases hp) (by simp) R' hR'
   refine ⟨hR _ _ (PLe.refl _) hkeep,fun hr=>?_,fun i hir=>?_⟩
   ·exfalso
    apply hnn
    rw [isNilL_iff]
    cases hrl:jXw all L all.size with
    | nil=>rfl
    | cons i l =>
     have:=(fwd hl' hs i).2 (by rw [hrl]; simp)
     rw [hr] at this
     cases this
   have him:=(fwd hl' hs i).1 hir
   have hkI:=hi.prom
   split at hk
   ·rename_i i' f' hdia
    obtain ⟨hrl,hok,⟨m,rfl⟩,hnp⟩:=diaOf_spec hdia
    obtain ⟨oi,o,hoi,hof,hlo,hgn,⟨t,x,r0,hop,hr0⟩,hap,hne,haft⟩:=diaOk_spec hok
    have hnd':∀ (j:Nat) (o:Oper) (c:Call),all[j]? = some o → o.op ≠ .defer c:=fun j o c hj e=>by
     have:=Array.all_eq_true_iff_forall_mem.1 hnd o (Array.mem_of_getElem? hj)
     simp [e] at this
    have mi:i' ∈ jXw all L all.size:=by rcases hrl with h | h <;> rw [h] <;> simp
    have mf:f' ∈ jXw all L all.size:=by rcases hrl with h | h <;> rw [h] <;> simp
    have hi1:=(jQy.1 mi).1
    have hf1:=(jQy.1 mf).1
    unfold oneAt at hk
    rw [hoi,hof] at hk
    simp only at hk
    obtain ⟨_,_,_,v0,Ψ0',w0',hrun,_,hv0⟩:=load_ok his (jXs (jQk hfs) x) hr0
    have hw0:=Still.loadAt t _ _ _ _ hrun
    subst hw0
    have hload:(execOp a.eval oi).run C.P w0' = .ok (.value v0) w0':=by
     simp only [execOp,hop]
     exact run_val hrun
    have hom:o ∈ all.toList:=List.mem_of_getElem? (l:=all.toList) (i:=f') (by simpa using hof)
    have hw:=jJ2 (hQP:=fun ch a2 w2 hp hd=>hQP ch a2 w2 (hp.fence hE hBF hlow fun h=>h.anti hBF) (DefQ.trans hS hd (fun t hm=>hW o hom t (by simpa using hm)))) (B:=F) (w0:=w1) (Ψ0:=Ψ) (As:=As) (W:=o.dst.toList) (a0:=a) (ro:=ro) hc all [o] (Q:=fun e a' w'=>match e with
     | .normal=>wpAnyR ro C.P all Q R (m + 1) (listed.setIfInBounds f' true) a' w' ∧ ∀ v1 w2,(execOp a'.eval oi).run C.P w' = .ok (.value v1) w2 → v1 = v0
     | e=>Q e a' w') hk (Ext.refl F Ψ) his hfs (Same.refl Ψ _ a) (fun o' ho' t ht=>by simp at ho'; subst ho'; simp [ht]) (fun a' w' hp=>by
      obtain ⟨Ψ',β',s',hE',hi',hf',hS',hk'⟩:=hp
      have hld0:loadAV C s.top s.heap oi.op = some r0.v:=by unfold loadAV; rw [hop]; simp only [hr0]
      rw [hld0] at hk'
      cases hld1:loadAV C s'.top s'.heap oi.op with
      | none=>rw [hld1] at hk'; exact hk'.elim
      | some y =>
       rw [hld1] at hk'
       have hk':if sameAV s.top s'.top o.dst r0.v y = true then aall C call all (m + 1) (f' :: L) s' k else False:=hk'
       by_cases hsm:sameAV s.top s'.top o.dst r0.v y = true
       ·rw [if_pos hsm] at hk'
        refine ⟨stepIH f' hf1 (jQw.1 (jQy.1 mf).2.choose_spec.2.1) hk' hE' hi' hf' (hS.trans hE.1 (hS'.mono fun t hm=>hW o hom t (by simpa using hm))) R (fun Ψ2 w2 he hk2=>hR _ _ (fun ad u hu=>he ad u (hE'.1 ad u hu)) hk2),fun v1 w2 hr1=>?_⟩
        unfold loadAV at hld1
        rw [hop] at hld1
        simp only at hld1
        split at hld1
        ·rename_i r1 hr1'
         simp only [Option.some.injEq] at hld1
         subst hld1
         obtain ⟨_,_,_,v1',Ψ1',w1',hrun1,_,hv1⟩:=load_ok hi' (jXs (jQk hf') x) hr1'
         have hw1:=Still.loadAt t _ _ _ _ hrun1
         subst hw1
         have hx1:(execOp a'.eval oi).run C.P w1' = .ok (.value v1') w1':=by
          simp only [execOp,hop]
          exact run_val hrun1
         rw [hx1] at hr1
         have e1:v1' = v1:=by cases hr1; rfl
         subst e1
         exact sameAV_val hsm (jQk hfs) (jQk hf') (fun q hq=>hS'.1.2 q fun hm=>hq (by simpa using hm)) hv0 hv1
        ·cases hld1
       ·rw [if_neg hsm] at hk'
        exact hk'.elim)
    have hop':wpOpIn (Fw ro) 0 C.P all Q f' (fun a1 w1=>wpAnyR ro C.P all Q R (m + 1) (listed.setIfInBounds f' true) a1 w1 ∧ ∀ v1 w2,(execOp a1.eval oi).run C.P w1 = .ok (.value v1) w2 → v1 = v0) a w0':=by
     refine wpOp_at hof ?_
     unfold wpListIn at hw
     split
     ·rename_i hwant
      rw [if_pos hwant] at hw
      exact jKo (fun e a w hne h=>by cases e <;> first | exact absurd rfl hne | exact h) hw
     ·rename_i hwant
      rw [if_neg hwant] at hw
      exact hw.2
    exact (dia_first hP (hP0 hnp) hoi hof hgn hlo hnd' (Region.noSelect_spec hns) hap hne ((fwd hl' hs i').2 mi) ((fwd hl' hs f').2 mf) (fun k hk=>by
     have:=(fwd hl' hs k).1 hk
     rcases hrl with h | h <;> rw [h] at this <;> simp at this <;> omega) (fun k hk=>by
     have:=(fwd (hset hl' hs i' hi1 (N:=i' :: L) (fun j=>by simp only [memS,Bool.or_comm])) (by simpa using hs) k).1 hk
     rw [haft] at this
     simpa using this) hload (hR _ _ (PLe.refl _) hkeep) hop').2.2 i hir
   ·have core:∀ i,i ∈ jXw all L all.size → wpOpIn (Fw ro) 0 C.P all Q i (wpAnyR ro C.P all Q R n (listed.setIfInBounds i true)) a w:=by
     intro i him
     obtain ⟨hlt,o,ho,_,_⟩:=jQy.1 him
     have hone:=aeach_mem hk i him
     unfold oneAt at hone
     rw [ho] at hone
     simp only at hone
     have hom:o ∈ all.toList:=List.mem_of_getElem? (l:=all.toList) (i:=i) (by simpa using ho)
     have hw:=jJ2 (hQP:=fun ch a2 w2 hp hd=>hQP ch a2 w2 (hp.fence hE hBF hlow fun h=>h.anti hBF) (DefQ.trans hS hd (fun t hm=>hm))) (B:=F) (w0:=w1) (Ψ0:=Ψ) (As:=As) (W:=W) (a0:=a) (ro:=ro) hc all [o] (Q:=fun e a' w'=>match e with
      | .normal=>wpAnyR ro C.P all Q R n (listed.setIfInBounds i true) a' w'
      | e=>Q e a' w') hone (Ext.refl F Ψ) his hfs (Same.refl Ψ W a) (fun o' ho'=>by simp at ho'; subst ho'; exact hW _ hom) (fun a' w' hp=>by
       obtain ⟨Ψ',β',s',hE',hi',hf',hS',hk'⟩:=hp
       exact stepIH i hlt (jQw.1 (jQy.1 him).2.choose_spec.2.1) hk' hE' hi' hf' (hS.trans hE.1 hS') R (fun Ψ2 w2 he hk2=>hR _ _ (fun ad u hu=>he ad u (hE'.1 ad u hu)) hk2))
     refine wpOp_at ho ?_
     unfold wpListIn at hw
     split
     ·rename_i hwant
      rw [if_pos hwant] at hw
      exact jKo (fun e a w hne h=>by cases e <;> first | exact absurd rfl hne | exact h) hw
     ·rename_i hwant
      rw [if_neg hwant] at hw
      exact hw.2
    exact core i him
theorem adraw_sound (hsp:jQe C) {call:CallT} (hc:jXu C call) {all:Array Oper} {id:Nat} {s:St} {k:St → Prop} {md:Mode} (hk:adraw C call md all s k) (hE:Ext B Ψ0 Ψ) (hi:InvH C.P B w0 Ψ β s.heap w) (hf:RelF Ψ β (s.top :: s.below) (a :: As))
 (hS:Same Ψ0 W a0 a) (hW:∀ o ∈ all.toList,∀ t,o.dst = some t → t ∈ W) {Q:Exit → Act → World → Prop} {ro:Option Nat} (hQ:∀ a w,PostC C B w0 Ψ0 As W a0 k a w → Q .normal a w) (hQP:∀ ch a w,PanP C B w0 Ψ0 ch w → DefQ W a0 a → Q (.panic ch) a w):(Code.region id all true).wpIn (Fw ro) 0 C.P Q a w:=by
 unfold adraw at hk
 split at hk
 ·split at hk
  ·rename_i hmix
   simp only [Bool.and_eq_true] at hmix
   refine wpIn_region_any hmix.1 ?_
   have hwd:{ w with drawn:=w.drawn + 1 } = w.drew:=rfl
   rw [hwd]
   have hH:InvH C.P B w0 Ψ β s.heap w.drew:=hi.step ⟨(Below.refl _ w).drew,PLe.refl _,fun _ _ h=>.inl h⟩
   refine wpAnyIn_monoQ (Q:=fun e a w=>match e with | .normal=>Q .normal a w | .panic ch=>PanP C B w0 Ψ0 ch w ∧ DefQ W a0 a | _=>False) (fun e a w h=>by cases e <;> first | exact h | exact hQP _ _ _ h.1 h.2 | exact h.elim) _ _ _ _ ?_
   exact (aall_sound (Q:=fun e a w=>match e with | .normal=>Q .normal a w | .panic ch=>PanP C B w0 Ψ0 ch w ∧ DefQ W a0 a | _=>False) hc hW (fun a w hp=>hQ a w hp) hmix.2.1 hmix.2.2 (fun _ _ _ _ _=>and_congr Iff.rfl DefQ.put) (fun hn _ _ _ h=>h.1.no hn) (fun _ _ _ h h'=>⟨h,h'⟩) all.size all.size [] (L:=[]) (by simp) (by simp) (by simp) (by simp) (fun i=>(jJ6 i).trans rfl) (by simp) hk hE (fun _ h=>h) (BelowS.refl _ _) hH (jK2 hf) hS (by simp) (by simp) (fun _=>True) (fun _ _ _ _=>trivial)).any
  ·exact hk.elim
 split at hk
 ·rename_i hok
  simp only [Bool.and_eq_true] at hok
  obtain ⟨hok,hmix⟩:=hok
  unfold drawOk at hok
  simp only [Bool.and_eq_true] at hok
  obtain ⟨hhead,htail⟩:=hok
  obtain ⟨tops,mids,vals,wnt,effi,rwi,ht,hk'⟩:=dops_trace _ _ _ _ _ _ hk
  have hm:jJf all ≤ all.size:=by unfold jJf; omega
  have hml:(all.toList.take (jJf all)).length = jJf all:=by simp; omega
  rw [hml] at hk'
  simp only [List.nil_append] at hk' ht
  refine wpIn_region_any hmix ?_
  have hwd:{ w with drawn:=w.drawn + 1 } = w.drew:=rfl
  rw [hwd]
  obtain ⟨a1,as',e,⟨hdf,hrel⟩,hF⟩:=hf
  simp only [List.cons.injEq] at e
  obtain ⟨rfl,rfl⟩:=e
  have hH:InvH C.P B w0 Ψ β s.heap w.drew:=hi.step ⟨(Below.refl _ w).drew,PLe.refl _,fun _ _ h=>.inl h⟩
  refine head_any (B:=B) (w0:=w0) (h:=s.heap) (Ψ0:=Ψ0) (β:=β) (As:=As) (W:=W) (a0:=a0) (below:=s.below) hsp hm (head_spec hhead) rfl hi.len ht htail hW ?_ all.size _ a w.drew (by simp) (fun i _ _=>jJ6 i) (fun i o _ hl=>by rw [jJ6 i] at hl; cases hl) ?_ ?_
  ·intro Ψ1 us a' w' hE' hH' hF' hS'
   exact jJ2 hc all _ hk' hE' hH' hF' hS' (fun o ho=>hW o (List.mem_of_mem_drop ho)) hQ hQP
  ·unfold unl
   have:=List.countP_le_length (p:=(! ·)) (l:=(Array.replicate all.size false).toList)
   simpa using this
  ·have hg:InvH C.P B w0 Ψ (β ++ List.replicate (all.toList.take (jJf all)).length hole) (s.heap ++ gones (all.toList.take (jJf all))) w.drew:=hH.places _ _ (by simp [gones_len]) (fun b hb=>by
    obtain ⟨i,hi⟩:=List.getElem?_of_mem hb
    exact gones_all hi)
   have hrn:rwNow (all.toList.take (jJf all)).length rwi (Array.replicate all.size false) = []:=by
    rw [List.eq_nil_iff_forall_not_mem]
    intro q hq
    obtain ⟨j,_,hl,_⟩:=rw_mem hq
    rw [jJ6] at hl
    cases hl
   refine ⟨Ψ,List.replicate (all.toList.take (jJf all)).length hole,gones (all.toList.take (jJf all)),hE,(by rw [hrn]; exact hg),⟨by simp,gones_len _,fun i him=>⟨?_,fun _=>?_⟩⟩,jQq (PLe.refl _) (jXy _) _ _ hF,hdf,by simpa using jXl _ _ hrel,fun t ht'=>?_,hS⟩
   ·rw [jJ6 i]
    exact gones_get him
   ·rw [List.getElem?_replicate,if_pos him]
   rw [jX6 (fun i o _ _=>by simp [Array.getD_eq_getD_getElem?,Array.getElem?_replicate]; split <;> rfl)]
   exact jZm (PLe.refl _) (jXy _) _ _ (jQ7 _ _ hrel t)
 ·exact hk.elim
end Go.AM
