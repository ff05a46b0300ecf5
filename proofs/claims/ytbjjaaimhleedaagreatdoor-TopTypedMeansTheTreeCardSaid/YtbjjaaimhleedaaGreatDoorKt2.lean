import Derived.Test.YtbjjaaimhleedaaGreatDoorKt1
set_option linter.unusedSimpArgs false
set_option linter.unusedVariables false
namespace Go.AM
open Go.RowKit
variable {C:Ctx}
def PLe (Ψ Ψ':Pr):Prop:=∀ a v,Ψ a = some v → Ψ' a = some v
theorem PLe.refl (Ψ:Pr):PLe Ψ Ψ:=fun _ _ h=>h
theorem jX3 {α:Type} {R R':α → List Value → Prop} (h:∀ x vs,R x vs → R' x vs):∀ (xs:List α) (vs:List Value),rdL R xs vs → rdL R' xs vs
 | [],_,hv=>hv
 | _ :: xs,_,⟨c,vs',e,hc,hr⟩=>⟨c,vs',e,h _ _ hc,jX3 h xs vs' hr⟩
theorem rowAt_mono {Ψ Ψ':Pr} (h:PLe Ψ Ψ') {a:Option Addr} {vs:List Value}:rowAt Ψ a vs → rowAt Ψ' a vs
 | ⟨g,off,e,hc⟩=>⟨g,off,e,fun j u hj=>h _ _ (hc j u hj)⟩
theorem rdL_mono' {α:Type} {R R':α → List Value → Prop}:∀ (xs:List α) (vs:List Value),(∀ x ∈ xs,∀ vs,R x vs → R' x vs) → rdL R xs vs → rdL R' xs vs
 | [],_,_,hv=>hv
 | x :: xs,_,h,⟨c,vs',e,hc,hr⟩=>⟨c,vs',e,h x (by simp) _ hc,rdL_mono' xs vs' (fun y hy=>h y (by simp [hy])) hr⟩
theorem rdRs_iff {Ψ:Pr} {α β:Type} {Ra:α → List Value → Prop} {Rb:β → List Value → Prop}:∀ (ys:List (Rose (α × β))) (vs:List Value),rdRs Ψ Ra Rb ys vs ↔ rdL (rdR Ψ Ra Rb) ys vs
 | [],vs=>by simp [rdRs,rdL]
 | y :: ys,vs=>by simp only [rdRs,rdL,rdRs_iff ys]
theorem rdR_iff {Ψ:Pr} {α β:Type} {Ra:α → List Value → Prop} {Rb:β → List Value → Prop} (r:Rose (α × β)) (vs:List Value) :
 rdR Ψ Ra Rb r vs ↔ ∃ u s w,vs = u ++ s :: w ∧ Ra r.val.1 u ∧ Rb r.val.2 w ∧ ∃ a cap,s = .slice a r.subs.length cap ∧ r.subs.length ≤ cap ∧ cap ≤ maxLen ∧ (r.subs = [] ∨ ∃ cells,rdL (rdR Ψ Ra Rb) r.subs cells ∧ rowAt Ψ a cells):=by
 cases r with
 | node x ys=>simp only [rdR,Rose.val,Rose.subs,rdRs_iff]
theorem jZv {Ψ:Pr} {a b:Ty} (r:Rose (a.den × b.den)) (vs:List Value) :
 reads Ψ (.rose a b) r vs ↔ ∃ u s w,vs = u ++ s :: w ∧ reads Ψ a r.val.1 u ∧ reads Ψ b r.val.2 w ∧ reads Ψ (.arr (.rose a b)) r.subs [s]:=by
 constructor
 ·intro h
  obtain ⟨u,s,w,h1,h2,h3,a',cap,h4,h5,h6,h7⟩:=(rdR_iff r vs).1 h
  exact ⟨u,s,w,h1,h2,h3,a',cap,by rw [h4],h5,h6,h7⟩
 ·rintro ⟨u,s,w,h1,h2,h3,a',cap,h4,h5,h6,h7⟩
  exact (rdR_iff r vs).2 ⟨u,s,w,h1,h2,h3,a',cap,by simpa using h4,h5,h6,h7⟩
theorem rdR_mono {Ψ Ψ':Pr} (h:∀ a vs,rowAt Ψ a vs → rowAt Ψ' a vs) {α β:Type} {Ra Ra':α → List Value → Prop} {Rb Rb':β → List Value → Prop} (ha:∀ x vs,Ra x vs → Ra' x vs) (hb:∀ x vs,Rb x vs → Rb' x vs) :
 ∀ (r:Rose (α × β)) (vs:List Value),rdR Ψ Ra Rb r vs → rdR Ψ' Ra' Rb' r vs :=
 Rose.ind fun x l ih vs hr=>by
  obtain ⟨u,s,w,h1,h2,h3,a',cap,h4,h5,h6,h7⟩:=(rdR_iff _ vs).1 hr
  exact (rdR_iff _ vs).2 ⟨u,s,w,h1,ha _ _ h2,hb _ _ h3,a',cap,h4,h5,h6,h7.imp id fun ⟨cells,hd,hrow⟩=>⟨cells,rdL_mono' _ _ ih hd,h _ _ hrow⟩⟩
theorem jQg {Ψ Ψ':Pr} (h:PLe Ψ Ψ'):∀ (t:Ty) (x:t.den) (cs:List Value),reads Ψ t x cs → reads Ψ' t x cs
 | .int _,_,_,hr=>hr
 | .bool,_,_,hr=>hr
 | .fnc,_,_,hr=>hr
 | .any,_,_,hr=>hr
 | .str,_,_,hr=>hr
 | .unit,_,_,hr=>hr
 | .arr e,_,_,⟨a,cap,e1,h1,h2,h3⟩=>⟨a,cap,e1,h1,h2,h3.imp id fun ⟨cells,hd,hrow⟩=>⟨cells,jX3 (jQg h e) _ _ hd,rowAt_mono h hrow⟩⟩
 | .vec _ e,_,_,⟨h1,h2⟩=>⟨h1,jX3 (jQg h e) _ _ h2⟩
 | .pair a b,_,_,⟨u,v,e,h1,h2⟩=>⟨u,v,e,jQg h a _ _ h1,jQg h b _ _ h2⟩
 | .rose a b,r,vs,hr=>rdR_mono (fun _ _=>rowAt_mono h) (jQg h a) (jQg h b) r vs hr
theorem reads_flat {Ψ Ψ':Pr}:∀ (t:Ty) (x:t.den) (cs:List Value),t.flat = true → reads Ψ t x cs → reads Ψ' t x cs
 | .int _,_,_,_,hr=>hr
 | .bool,_,_,_,hr=>hr
 | .fnc,_,_,_,hr=>hr
 | .any,_,_,_,hr=>hr
 | .str,_,_,_,hr=>hr
 | .unit,_,_,_,hr=>hr
 | .arr e,_,_,hf,_=>by simp [Ty.flat] at hf
 | .vec _ e,_,_,hf,⟨h1,h2⟩=>⟨h1,jX3 (fun x vs=>reads_flat e x vs (by simpa [Ty.flat] using hf)) _ _ h2⟩
 | .pair a b,_,_,hf,⟨u,v,e,h1,h2⟩=>by
  simp only [Ty.flat,Bool.and_eq_true] at hf
  exact ⟨u,v,e,reads_flat a _ _ hf.1 h1,reads_flat b _ _ hf.2 h2⟩
 | .rose _ _,_,_,hf,_=>by simp [Ty.flat] at hf
theorem jZ2 {α:Type} {R:α → List Value → Prop} {n:Nat} (h:∀ x vs,R x vs → vs.length = n):∀ (xs:List α) (vs:List Value),rdL R xs vs → vs.length = xs.length * n
 | [],_,hv=>by simp [rdL] at hv; simp [hv]
 | _ :: xs,_,⟨c,vs',e,hc,hr⟩=>by
  rw [e,List.length_append,h _ _ hc,jZ2 h xs vs' hr,List.length_cons,Nat.succ_mul,Nat.add_comm]
theorem jQa {Ψ:Pr}:∀ (t:Ty) (x:t.den) (cs:List Value),reads Ψ t x cs → cs.length = t.cells
 | .int _,_,_,hr=>by simp [reads] at hr; simp [hr.1,Ty.cells]
 | .bool,_,_,hr=>by simp [reads] at hr; simp [hr,Ty.cells]
 | .fnc,_,_,hr=>by simp [reads] at hr; simp [hr,Ty.cells]
 | .any,_,_,⟨_,hr,_⟩=>by simp [hr,Ty.cells]
 | .str,_,_,hr=>by simp [reads] at hr; simp [hr.1,Ty.cells]
 | .unit,_,_,hr=>by simp [reads] at hr; simp [hr,Ty.cells]
 | .arr e,_,_,⟨a,cap,e1,_⟩=>by simp [e1,Ty.cells]
 | .vec n e,_,_,⟨h1,h2⟩=>by rw [jZ2 (jQa e) _ _ h2,h1,Ty.cells]
 | .pair a b,_,_,⟨u,v,e,h1,h2⟩=>by rw [e,List.length_append,jQa a _ _ h1,jQa b _ _ h2,Ty.cells]
 | .rose a b,r,vs,hr=>by
  obtain ⟨u,s,w,e,h1,h2,_⟩:=(rdR_iff r vs).1 hr
  rw [e,List.length_append,List.length_cons,jQa a _ _ h1,jQa b _ _ h2,Ty.cells]
  omega
theorem rdL_one {α:Type} {R:α → List Value → Prop} (h:∀ x vs,R x vs → ∀ u ∈ vs,u.oneCell' = true):∀ (xs:List α) (vs:List Value),rdL R xs vs → ∀ u ∈ vs,u.oneCell' = true
 | [],_,hv=>by simp [rdL] at hv; simp [hv]
 | _ :: xs,_,⟨c,vs',e,hc,hr⟩=>by
  subst e
  intro u hu
  rcases List.mem_append.1 hu with hu | hu
  ·exact h _ _ hc u hu
  ·exact rdL_one h xs vs' hr u hu
theorem jXp {Ψ:Pr}:∀ (t:Ty) (x:t.den) (cs:List Value),reads Ψ t x cs → ∀ u ∈ cs,u.oneCell' = true
 | .int _,_,_,hr=>by simp [reads] at hr; simp [hr.1,Value.oneCell']
 | .bool,_,_,hr=>by simp [reads] at hr; simp [hr,Value.oneCell']
 | .fnc,_,_,hr=>by simp [reads] at hr; simp [hr,Value.oneCell']
 | .any,_,_,⟨_,hr,h1⟩=>by simp [hr,h1]
 | .str,_,_,hr=>by simp [reads] at hr; simp [hr.1,Value.oneCell']
 | .unit,_,_,hr=>by simp [reads] at hr; simp [hr]
 | .arr e,_,_,⟨a,cap,e1,_⟩=>by simp [e1,Value.oneCell']
 | .vec n e,_,_,⟨h1,h2⟩=>rdL_one (jXp e) _ _ h2
 | .pair a b,_,_,⟨u,v,e,h1,h2⟩=>by
  subst e
  intro w hw
  rcases List.mem_append.1 hw with hw | hw
  ·exact jXp a _ _ h1 w hw
  ·exact jXp b _ _ h2 w hw
 | .rose a b,r,vs,hr=>by
  obtain ⟨u,s,w,e,h1,h2,a',cap,h3,_⟩:=(rdR_iff r vs).1 hr
  subst e
  intro x hx
  rcases List.mem_append.1 hx with hx | hx
  ·exact jXp a _ _ h1 x hx
  ·rcases List.mem_cons.1 hx with hx | hx
   ·rw [hx,h3]; rfl
   ·exact jXp b _ _ h2 x hx
theorem rdL_get {α:Type} {R:α → List Value → Prop} {n:Nat} (h:∀ x vs,R x vs → vs.length = n):∀ (xs:List α) (vs:List Value),rdL R xs vs →
 ∀ (i:Nat) (x:α),xs[i]? = some x → ∃ c,R x c ∧ ∀ j u,c[j]? = some u → vs[i * n + j]? = some u
 | [],_,_,i,x,hx=>by simp at hx
 | y :: xs,_,⟨c,vs',e,hc,hr⟩,0,x,hx=>by
  simp at hx
  subst hx
  subst e
  exact ⟨c,hc,fun j u hj=>by
   have hlt:j < c.length:=by
    rcases Nat.lt_or_ge j c.length with h' | h'
    ·exact h'
    ·rw [List.getElem?_eq_none h'] at hj; cases hj
   simp [List.getElem?_append_left hlt,hj]⟩
 | y :: xs,_,⟨c,vs',e,hc,hr⟩,i + 1,x,hx=>by
  obtain ⟨d,hd,hget⟩:=rdL_get h xs vs' hr i x (by simpa using hx)
  subst e
  refine ⟨d,hd,fun j u hj=>?_⟩
  have hl:=h _ _ hc
  rw [List.getElem?_append_right (by rw [hl,Nat.succ_mul]; omega)]
  rw [← hget j u hj]
  congr 1
  rw [hl,Nat.succ_mul]
  omega
theorem jXn {α:Type} (c vs:List α) (m:Nat):(c ++ vs).drop (c.length + m) = vs.drop m:=by
 rw [← List.drop_drop]; simp
theorem jX0 {α:Type} (c vs:List α) (m:Nat):(c ++ vs).take (c.length + m) = c ++ vs.take m:=by
 simp [List.take_append,List.take_of_length_le]
theorem jZw {α:Type} {R:α → List Value → Prop}:∀ (xs ys:List α) (us vs:List Value),rdL R xs us → rdL R ys vs → rdL R (xs ++ ys) (us ++ vs)
 | [],_,_,_,hu,hv=>by simp only [rdL] at hu; subst hu; simpa using hv
 | _ :: xs,ys,_,vs,⟨c,us',e,hc,hr⟩,hv=>⟨c,us' ++ vs,by rw [e,List.append_assoc],hc,jZw xs ys us' vs hr hv⟩
theorem rdL_set {α:Type} {R:α → List Value → Prop} {n:Nat} (h:∀ x vs,R x vs → vs.length = n) (y:α) (d:List Value) (hd:R y d):∀ (xs:List α) (vs:List Value),rdL R xs vs →
 ∀ (i:Nat),i < xs.length → rdL R (xs.set i y) (vs.take (i * n) ++ d ++ vs.drop (i * n + n))
 | [],_,_,i,hi=>by simp at hi
 | x :: xs,_,⟨c,vs',e,hc,hr⟩,0,_=>by
  subst e
  have hl:=h _ _ hc
  refine ⟨d,vs',?_,hd,hr⟩
  simp [← hl]
 | x :: xs,_,⟨c,vs',e,hc,hr⟩,i + 1,hi=>by
  subst e
  have hl:=h _ _ hc
  refine ⟨c,vs'.take (i * n) ++ d ++ vs'.drop (i * n + n),?_,hc,rdL_set h y d hd xs vs' hr i (by simpa using hi)⟩
  have e1:(i + 1) * n = c.length + i * n:=by rw [hl,Nat.succ_mul,Nat.add_comm]
  rw [e1,jX0,Nat.add_assoc,jXn]
  simp [List.append_assoc]
theorem rdL_replicate {α:Type} {R:α → List Value → Prop} (x:α) (c:List Value) (hc:R x c):∀ n,rdL R (List.replicate n x) ((List.replicate n c).flatten)
 | 0=>by simp [rdL]
 | n + 1=>⟨c,(List.replicate n c).flatten,by simp [List.replicate_succ],hc,rdL_replicate x c hc n⟩
theorem jJw {α:Type} {R:α → List Value → Prop} {n:Nat} (h:∀ x vs,R x vs → vs.length = n):∀ (xs:List α) (vs:List Value) (i:Nat),rdL R xs vs → rdL R (xs.drop i) (vs.drop (i * n))
 | xs,vs,0,hr=>by simpa using hr
 | [],vs,i + 1,hr=>by simp only [rdL] at hr; subst hr; simp [rdL]
 | x :: xs,_,i + 1,⟨c,vs',e,hc,hr⟩=>by
  subst e
  have hl:=h _ _ hc
  have e1:(i + 1) * n = c.length + i * n:=by rw [hl,Nat.succ_mul,Nat.add_comm]
  rw [e1,jXn]
  simpa using jJw h xs vs' i hr
theorem jJv {α:Type} {R:α → List Value → Prop} {n:Nat} (h:∀ x vs,R x vs → vs.length = n):∀ (xs:List α) (vs:List Value) (i:Nat),rdL R xs vs → rdL R (xs.take i) (vs.take (i * n))
 | xs,vs,0,_=>by simp [rdL]
 | [],vs,i + 1,hr=>by simp only [rdL] at hr; subst hr; simp [rdL]
 | x :: xs,_,i + 1,⟨c,vs',e,hc,hr⟩=>by
  subst e
  have hl:=h _ _ hc
  have e1:(i + 1) * n = c.length + i * n:=by rw [hl,Nat.succ_mul,Nat.add_comm]
  rw [e1,jX0]
  exact ⟨c,vs'.take (i * n),rfl,hc,jJv h xs vs' i hr⟩
mutual
theorem jZm {Ψ Ψ':Pr} {β β':List Value} (h:PLe Ψ Ψ') (hb:∀ (k:Nat) (v:Value),β[k]? = some v → β'[k]? = some v):∀ (av:AV) (v:Value),RelV Ψ β av v → RelV Ψ' β' av v
 | .junk,_,_=>trivial
 | .und,_,hr=>hr
 | .tt,_,hr=>hr
 | .ff,_,hr=>hr
 | .d t x,_,⟨cs,hc,e⟩=>⟨cs,jQg h t x cs hc,e⟩
 | .fs e xs,_,⟨a,ea,cs,hc,e'⟩=>⟨a,ea,cs,jQg h (.arr e) xs cs hc,e'⟩
 | .nils,_,hr=>hr
 | .agg cs,_,⟨vs,e,hl,h1⟩=>⟨vs,e,jQl h hb cs vs hl,h1⟩
 | .tup cs,_,⟨vs,e,hl⟩=>⟨vs,e,jQl h hb cs vs hl⟩
 | .fn _ cs,_,⟨vs,e,hl⟩=>⟨vs,e,jQl h hb cs vs hl⟩
 | .bnd _ cs,_,⟨vs,e,hl⟩=>⟨vs,e,jQl h hb cs vs hl⟩
 | .sv _ _ _ _,_,⟨g,n,c,hg,r⟩=>⟨g,n,c,hb _ _ hg,r⟩
 | .nilf,_,hr=>hr
 | .nilp,_,hr=>hr
 | .own _ _,_,⟨g,hg,e⟩=>⟨g,hb _ _ hg,e⟩
 | .sl _,_,hr=>⟨hb _ _ hr.1,hr.2⟩
 | .slp _ _ _,_,⟨g,n,c,hg,r⟩=>⟨g,n,c,hb _ _ hg,r⟩
 | .rp t x,_,⟨g,off,cs,e,hc,hp⟩=>⟨g,off,cs,e,jQg h t x cs hc,fun j u hj=>h _ _ (hp j u hj)⟩
 | .yld _,_,⟨l,hg,e⟩=>⟨l,hb _ _ hg,e⟩
 | .glb _,_,hr=>hr
 | .oix _ _ _ _,_,⟨g,hg,r⟩=>⟨g,hb _ _ hg,r⟩
 | .osl _ _ _ _ _,_,⟨g,hg,r⟩=>⟨g,hb _ _ hg,r⟩
 | .slpf _ _ _ _,_,⟨g,n,c,hg,r⟩=>⟨g,n,c,hb _ _ hg,r⟩
 | .ssl _ _,_,⟨g,hg,r⟩=>⟨g,hb _ _ hg,r⟩
theorem jQl {Ψ Ψ':Pr} {β β':List Value} (h:PLe Ψ Ψ') (hb:∀ (k:Nat) (v:Value),β[k]? = some v → β'[k]? = some v):∀ (cs:List AV) (vs:List Value),RelL Ψ β cs vs → RelL Ψ' β' cs vs
 | [],_,hr=>hr
 | c :: cs,_,⟨v,vs',e,hv,hl⟩=>⟨v,vs',e,jZm h hb c v hv,jQl h hb cs vs' hl⟩
end
mutual
theorem sub_rel {Ψ Ψ':Pr} {β β':List Value} (k:Nat) (r:AV) (h:PLe Ψ Ψ') (hr:∀ v:Value,β[k]? = some v → RelV Ψ' β' r v) (hb:∀ (j:Nat) (v:Value),j ≠ k → β[j]? = some v → β'[j]? = some v)
 (hp:∀ g:Nat,β[k]? = some (.pointer (some ⟨g,0,none⟩)) → β'[k]? = some (.pointer (some ⟨g,0,none⟩))) (hy:∀ l:Nat,β[k]? = some (yldV l) → β'[k]? = some (yldV l)) :
 ∀ (av:AV) (v:Value),RelV Ψ β av v → RelV Ψ' β' (sub k r av) v
 | .junk,_,_=>trivial
 | .und,_,hv=>hv
 | .tt,_,hv=>hv
 | .ff,_,hv=>hv
 | .d t x,_,⟨cs,hc,e⟩=>⟨cs,jQg h t x cs hc,e⟩
 | .fs e xs,_,⟨a,ea,cs,hc,e'⟩=>⟨a,ea,cs,jQg h (.arr e) xs cs hc,e'⟩
 | .nils,_,hv=>hv
 | .agg cs,_,⟨vs,e,hl,h1⟩=>⟨vs,e,jZn k r h hr hb hp hy cs vs hl,h1⟩
 | .tup cs,_,⟨vs,e,hl⟩=>⟨vs,e,jZn k r h hr hb hp hy cs vs hl⟩
 | .fn _ cs,_,⟨vs,e,hl⟩=>⟨vs,e,jZn k r h hr hb hp hy cs vs hl⟩
 | .bnd _ cs,_,⟨vs,e,hl⟩=>⟨vs,e,jZn k r h hr hb hp hy cs vs hl⟩
 | .sv j sz a b,v,⟨g,n,c,hg,rest⟩=>by
  simp only [sub]
  by_cases hj:j = k
  ·subst hj; simp only [Nat.beq_refl,if_true]; trivial
  ·rw [if_neg (by simpa [Nat.beq_eq] using hj)]; exact ⟨g,n,c,hb j _ hj hg,rest⟩
 | .nilf,_,hv=>hv
 | .nilp,_,hv=>hv
 | .own j _,_,⟨g,hg,e⟩=>⟨g,(by
  by_cases hj:j = k
  ·subst hj; exact hp g hg
  ·exact hb j _ hj hg),e⟩
 | .sl j,v,hv=>by
  simp only [sub]
  by_cases hj:j = k
  ·subst hj; simp only [Nat.beq_refl,if_true]; exact hr v hv.1
  ·rw [if_neg (by simpa [Nat.beq_eq] using hj)]; exact ⟨hb j v hj hv.1,hv.2⟩
 | .slp j sz i,v,⟨g,n,c,hg,rest⟩=>by
  simp only [sub]
  by_cases hj:j = k
  ·subst hj; simp only [Nat.beq_refl,if_true]; trivial
  ·rw [if_neg (by simpa [Nat.beq_eq] using hj)]; exact ⟨g,n,c,hb j _ hj hg,rest⟩
 | .rp t x,_,⟨g,off,cs,e,hc,hq⟩=>⟨g,off,cs,e,jQg h t x cs hc,fun j u hj=>h _ _ (hq j u hj)⟩
 | .yld j,_,⟨l,hg,e⟩=>⟨l,(by
  by_cases hj:j = k
  ·subst hj; exact hy l hg
  ·exact hb j _ hj hg),e⟩
 | .glb _,_,hv=>hv
 | .oix j _ _ _,_,⟨g,hg,e⟩=>⟨g,(by
  by_cases hj:j = k
  ·subst hj; exact hp g hg
  ·exact hb j _ hj hg),e⟩
 | .osl j _ _ _ _,_,⟨g,hg,e⟩=>⟨g,(by
  by_cases hj:j = k
  ·subst hj; exact hp g hg
  ·exact hb j _ hj hg),e⟩
 | .slpf j sz i off,v,⟨g,n,c,hg,rest⟩=>by
  simp only [sub]
  by_cases hj:j = k
  ·subst hj; simp only [Nat.beq_refl,if_true]; trivial
  ·rw [if_neg (by simpa [Nat.beq_eq] using hj)]; exact ⟨g,n,c,hb j _ hj hg,rest⟩
 | .ssl j _,_,⟨g,hg,e⟩=>⟨g,(by
  by_cases hj:j = k
  ·subst hj; exact hp g hg
  ·exact hb j _ hj hg),e⟩
theorem jZn {Ψ Ψ':Pr} {β β':List Value} (k:Nat) (r:AV) (h:PLe Ψ Ψ') (hr:∀ v:Value,β[k]? = some v → RelV Ψ' β' r v) (hb:∀ (j:Nat) (v:Value),j ≠ k → β[j]? = some v → β'[j]? = some v)
 (hp:∀ g:Nat,β[k]? = some (.pointer (some ⟨g,0,none⟩)) → β'[k]? = some (.pointer (some ⟨g,0,none⟩))) (hy:∀ l:Nat,β[k]? = some (yldV l) → β'[k]? = some (yldV l)) :
 ∀ (cs:List AV) (vs:List Value),RelL Ψ β cs vs → RelL Ψ' β' (subL k r cs) vs
 | [],_,hl=>hl
 | c :: cs,_,⟨v,vs',e,hv,hl⟩=>⟨v,vs',e,sub_rel k r h hr hb hp hy c v hv,jZn k r h hr hb hp hy cs vs' hl⟩
end
theorem jXl {Ψ:Pr} {β:List Value}:∀ (cs:List AV) (vs:List Value),RelL Ψ β cs vs → vs.length = cs.length
 | [],_,hr=>by simp only [RelL] at hr; simp [hr]
 | _ :: cs,_,⟨v,vs',e,_,hl⟩=>by simp [e,jXl cs vs' hl]
theorem jQ7 {Ψ:Pr} {β:List Value}:∀ (cs:List AV) (vs:List Value),RelL Ψ β cs vs → ∀ i,RelV Ψ β (fget cs i) (vs.getD i undef)
 | [],_,_,_=>trivial
 | c :: cs,_,⟨v,vs',e,hv,_⟩,0=>by subst e; simpa [fget] using hv
 | c :: cs,_,⟨v,vs',e,_,hl⟩,i + 1=>by subst e; simpa [fget] using jQ7 cs vs' hl i
theorem jQ7? {Ψ:Pr} {β:List Value} (cs:List AV) (vs:List Value) (h:RelL Ψ β cs vs) (i:Nat) (hi:i < cs.length):∃ v,vs[i]? = some v ∧ RelV Ψ β (fget cs i) v:=by
 have hl:=jXl cs vs h
 refine ⟨vs[i],List.getElem?_eq_getElem (by omega),?_⟩
 have:=jQ7 cs vs h i
 rwa [List.getD_eq_getElem?_getD,List.getElem?_eq_getElem (by omega),Option.getD_some] at this
theorem RelL_set {Ψ:Pr} {β:List Value} {av:AV} {u:Value} (hu:RelV Ψ β av u):∀ (cs:List AV) (vs:List Value) (i:Nat),RelL Ψ β cs vs → RelL Ψ β (fset cs i av) (vs.set i u)
 | [],_,_,hl=>by simp only [RelL] at hl; subst hl; simp [fset,RelL]
 | _ :: cs,_,0,⟨v,vs',e,_,hl⟩=>by subst e; exact ⟨u,vs',by simp,hu,hl⟩
 | _ :: cs,_,i + 1,⟨v,vs',e,hv,hl⟩=>by subst e; exact ⟨v,vs'.set i u,by simp,hv,RelL_set hu cs vs' i hl⟩
theorem jX4 {Ψ:Pr} {β:List Value}:∀ (cs ds:List AV) (vs us:List Value),RelL Ψ β cs vs → RelL Ψ β ds us → RelL Ψ β (cs ++ ds) (vs ++ us)
 | [],_,_,_,h,h'=>by simp only [RelL] at h; subst h; simpa using h'
 | _ :: cs,ds,_,us,⟨v,vs',e,hv,hl⟩,h'=>⟨v,vs' ++ us,by simp [e],hv,jX4 cs ds vs' us hl h'⟩
theorem takeN_eq (n:Nat) (l:List AV):takeN n l = l.take n:=by
 induction n generalizing l with
 | zero=>simp [takeN]
 | succ n ih=>cases l <;> simp [takeN,ih]
theorem dropN_eq (n:Nat) (l:List AV):dropN n l = l.drop n:=by
 induction n generalizing l with
 | zero=>simp [dropN]
 | succ n ih=>cases l <;> simp [dropN,ih]
theorem jQ5 (l:List AV):jXi l = l.length:=by induction l <;> simp [jXi, *]
theorem jQ1 (l:List Blk):hlen l = l.length:=by induction l <;> simp [hlen, *]
theorem jK0 {Ψ:Pr} {β:List Value}:∀ (n:Nat) (cs:List AV) (vs:List Value),RelL Ψ β cs vs → RelL Ψ β (cs.take n) (vs.take n)
 | 0,_,_,_=>by simp [RelL]
 | n + 1,[],_,h=>by simp only [RelL] at h; subst h; simp [RelL]
 | n + 1,_ :: cs,_,⟨v,vs',e,hv,hl⟩=>by subst e; exact ⟨v,vs'.take n,by simp,hv,jK0 n cs vs' hl⟩
theorem jK1 {Ψ:Pr} {β:List Value}:∀ (n:Nat) (cs:List AV) (vs:List Value),RelL Ψ β cs vs → RelL Ψ β (cs.drop n) (vs.drop n)
 | 0,_,_,h=>by simpa using h
 | n + 1,[],_,h=>by simp only [RelL] at h; subst h; simp [RelL]
 | n + 1,_ :: cs,_,⟨v,vs',e,hv,hl⟩=>by subst e; simpa using jK1 n cs vs' hl
theorem jQc {h:List Blk} {k:Nat} {b:Blk} (e:hget h k = b) (hb:b ≠ .gone):h[k]? = some b:=by
 induction h generalizing k with
 | nil=>simp [hget] at e; exact absurd e.symm hb
 | cons a l ih=>cases k with
  | zero=>simp [hget] at e; simp [e]
  | succ k=>simp [hget] at e; simpa using ih e
theorem jQp (h:List Blk) (k:Nat) (b:Blk):hset h k b = h.set k b:=by
 induction h generalizing k with
 | nil=>simp [hset]
 | cons a l ih=>cases k <;> simp [hset,ih]
theorem fset_eq (h:List AV) (k:Nat) (b:AV):fset h k b = h.set k b:=by
 induction h generalizing k with
 | nil=>simp [fset]
 | cons a l ih=>cases k <;> simp [fset,ih]
theorem jKa {w w':World} {a:Addr} {v:Value} (h:w'.heap[a.block]? = w.heap[a.block]?) (hp:Pm w a v):Pm w' a v:=by
 unfold Pm at *
 rw [h,World.cell?_of_block h]
 exact hp
theorem Pm_lt {w:World} {a:Addr} {v:Value} (hp:Pm w a v):a.block < w.heap.size:=by
 have lt:∀ {o:Obj},w.heap[a.block]? = some o → a.block < w.heap.size:=fun h=>by
  rcases Nat.lt_or_ge a.block w.heap.size with h' | h'
  ·exact h'
  ·rw [Array.getElem?_eq_none h'] at h; cases h
 unfold Pm at hp
 split at hp
 ·exact World.block_lt_of_cell? w a hp
 ·exact lt hp.2
 ·obtain ⟨r,hr⟩:=hp; exact lt hr
 ·obtain ⟨r,hr,_⟩:=hp; exact lt hr
 ·obtain ⟨ms,cl,hr,_⟩:=hp; exact lt hr
 ·exact hp.elim
theorem Pm_plain {w:World} {a:Addr} {v:Value} (hs:a.spot = none) (hp:Pm w a v):w.cell? a = some v:=by
 unfold Pm at hp
 rw [hs] at hp
 exact hp
theorem Pm_mk {w:World} {a:Addr} {v:Value} (hs:a.spot = none) (hp:w.cell? a = some v):Pm w a v:=by
 unfold Pm
 rw [hs]
 exact hp
theorem Pm_spot {w:World} {a:Addr} {v:Value} (hs:¬ pl a) (hp:Pm w a v):∃ r,w.heap[a.block]? = some (.loop r):=by
 unfold Pm at hp
 split at hp
 ·rename_i h; exact absurd (.inl h) hs
 ·rename_i h; exact absurd (.inr (.inr h)) hs
 ·exact hp
 ·obtain ⟨r,hr,_⟩:=hp; exact ⟨r,hr⟩
 ·rename_i h; exact absurd (.inr (.inl h)) hs
 ·exact hp.elim
theorem rv_le {Ψ Ψ':Pr} (h:PLe Ψ Ψ') {t:Ty} {x:t.den} {v:Value}:rv Ψ t x v → rv Ψ' t x v
 | ⟨cs,hc,e⟩=>⟨cs,jQg h t x cs hc,e⟩
theorem jZj {Ψ Ψ':Pr} (h:PLe Ψ Ψ') {e:Ty}:∀ {m:List (Int × e.den)} {es:List MapEntry},mapR Ψ e m es → mapR Ψ' e m es
 | [],_,hr=>hr
 | _ :: _,_,⟨x,es',h1,h2,h3,h4,h5⟩=>⟨x,es',h1,h2,h3,rv_le h h4,jZj h h5⟩
structure Step (Ψ:Pr) (w:World) (Ψ':Pr) (w':World):Prop where
 below:Below w.heap.size w w'
 le:PLe Ψ Ψ'
 new:∀ a v,Ψ' a = some v → Ψ a = some v ∨ (w.heap.size ≤ a.block ∧ a.spot = none ∧ w'.cell? a = some v)
theorem Step.refl (Ψ:Pr) (w:World):Step Ψ w Ψ w:=⟨Below.refl _ _,PLe.refl _,fun _ _ h=>.inl h⟩
theorem jQm {w:World} {g:Nat} {o:Obj} (h:w.heap[g]? = some o):g < w.heap.size:=by
 rcases Nat.lt_or_ge g w.heap.size with h' | h'
 ·exact h'
 ·rw [Array.getElem?_eq_none h'] at h; cases h
theorem PLe.m {Ψ Ψ':Pr} (h:PLe Ψ Ψ'):PLm Ψ Ψ':=fun a v _ hv=>h a v hv
theorem Mine.keep {B own:Nat → Prop} {w w':World} (h:Mine B own w) (hz:w.heap.size ≤ w'.heap.size):Mine B own w' :=
 fun g hg=>⟨(h g hg).1,Nat.lt_of_lt_of_le (h g hg).2 hz⟩
theorem jJl {P:Program} {B:Nat → Prop} {Ψ Ψ':Pr} {β β':List Value} {w w':World} {k k':Nat} {ys:List Ty} {Y:Proto ys} {own:Nat → Prop} {xs:List (tyOf ys).den} (h:BlkR P B Ψ β w k (.log ys Y own xs)) (he:∀ u,β[k]? = some u → β'[k']? = some u) (hl:PLm Ψ Ψ') (hz:w.heap.size ≤ w'.heap.size) (hb:∀ g,own g → w'.heap[g]? = w.heap[g]?):BlkR P B Ψ' β' w' k' (.log ys Y own xs) :=
 ⟨he _ h.1,h.2.2.2.1.1 _ _ _ _ _ _ h.2.1 hl hb,h.2.2.1.keep hz,h.2.2.2.1,h.2.2.2.2⟩
theorem jJm {P:Program} {B:Nat → Prop} {Ψ Ψ':Pr} {β β':List Value} {w w':World} {k k':Nat} {ys:List Ty} {Y:Proto ys} {own:Nat → Prop} (h:BlkR P B Ψ β w k (.lof ys Y own)) (he:∀ u,β[k]? = some u → β'[k']? = some u) (hl:PLm Ψ Ψ') (hz:w.heap.size ≤ w'.heap.size) (hb:∀ g,own g → w'.heap[g]? = w.heap[g]?):BlkR P B Ψ' β' w' k' (.lof ys Y own) :=
 ⟨he _ h.1,h.2.2.2.2 _ _ _ _ _ h.2.1 hl hb,h.2.2.1.keep hz,h.2.2.2⟩
theorem Gl.mono {P:Program} {Ψ Ψ':Pr} (h:Gl P Ψ) (hl:PLm Ψ Ψ'):Gl P Ψ':=⟨fun g hg j n hn=>hl _ _ (by simp) (h.1 g hg j n hn),fun g hg j n hn=>hl _ _ (by simp) (h.2 g hg j n hn)⟩
theorem Gl.le {P:Program} {Ψ Ψ':Pr} (h:Gl P Ψ) (hl:PLe Ψ Ψ'):Gl P Ψ':=⟨fun g hg j n hn=>hl _ _ (h.1 g hg j n hn),fun g hg j n hn=>hl _ _ (h.2 g hg j n hn)⟩
theorem sub_okE1 {k:Nat} {r v:AV} (h:okE1 v = true):sub k r v = v:=by
 cases v <;> first | rfl | simp [okE1] at h
theorem subL_okE1 {k:Nat} {r:AV}:∀ {l:List AV},okE1s l = true → subL k r l = l
 | [],_=>rfl
 | v :: l,h=>by
  simp only [okE1s,Bool.and_eq_true] at h
  simp only [subL,sub_okE1 h.1,subL_okE1 h.2]
theorem sub_okE {k:Nat} {r v:AV} (h:okE v = true):sub k r v = v:=by
 cases v <;> first
  | rfl
  | (simp only [okE] at h; simp only [sub,subL_okE1 h])
  | simp [okE,okE1] at h
theorem subL_okE (k:Nat) (r:AV):∀ {es:List (KK × AV)},(∀ p ∈ es,okE p.2 = true) → subL k r (es.map Prod.snd) = es.map Prod.snd
 | [],_=>rfl
 | p :: es,h=>by
  simp only [List.map_cons,subL,sub_okE (h p (List.mem_cons_self ..)),subL_okE k r fun q hq=>h q (List.mem_cons_of_mem _ hq)]
theorem BlkR_step {B:Nat → Prop} {Ψ Ψ':Pr} {β:List Value} {w w':World} (hs:Step Ψ w Ψ' w') {k:Nat} {b:Blk} (h:BlkR C.P B Ψ β w k b):BlkR C.P B Ψ' β w' k b:=by
 cases b with
 | gone=>trivial
 | log ys Y own xs=>exact jJl h (fun _ h=>h) hs.le.m hs.below.size fun g hg=>hs.below.block g (h.2.2.1 g hg).2
 | lof ys Y own=>exact jJm h (fun _ h=>h) hs.le.m hs.below.size fun g hg=>hs.below.block g (h.2.2.1 g hg).2
 | cells cs =>
  obtain ⟨g,c,e,h1,h2,h3,h4,h5⟩:=h
  exact ⟨g,c,e,h1,(hs.below.block g (jQm h2)).trans h2,h3,jQl hs.le (fun _ _ h=>h) _ _ h4,h5⟩
 | grow tid e xs =>
  refine h.imp id ?_
  rintro ⟨g,cap,cur,h1,h2,h3,h4,h5,h6,h7,h8⟩
  exact ⟨g,cap,cur,h1,h2,h3,(hs.below.block g (jQm h4)).trans h4,h5,h6,h7,jX3 (jQg hs.le e) _ _ h8⟩
 | kmap es =>
  obtain ⟨g,ms,cl,h1,h2,h3,h4,h5,h6⟩:=h
  exact ⟨g,ms,cl,h1,(hs.below.block g (jQm h2)).trans h2,h3,h4,jQl hs.le (fun _ _ h=>h) _ _ h5,h6⟩
 | dmap e m =>
  obtain ⟨g,ms,cl,h1,h2,h3,h4,h5⟩:=h
  exact ⟨g,ms,cl,h1,(hs.below.block g (jQm h2)).trans h2,h3,jZj hs.le h4,h5⟩
 | diter e last left =>
  obtain ⟨g,gm,ms,cl,seen,h1,h2,h3,h4,h5,h6⟩:=h
  exact ⟨g,gm,ms,cl,seen,h1,(hs.below.block g (jQm h2)).trans h2,h3,hs.le _ _ h4,jZj hs.le h5,h6.1,h6.2.1,h6.2.2.imp id fun ⟨p,x,s',a1,a2,a3,a4,a5,a6⟩=>⟨p,x,s',a1,a2,a3,a4,a5,rv_le hs.le a6⟩⟩
 | loop f p ph ts =>
  obtain ⟨l,r,h1,h2,h3,h4,h5,h6,h7,h8⟩:=h
  exact ⟨l,r,h1,(hs.below.block l (jQm h2)).trans h2,h3,h4,jQl hs.le (fun _ _ h=>h) _ _ h5,hs.le _ _ h6,fun i v hv=>hs.le _ _ (h7 i v hv),h8⟩
 | dat t x =>
  obtain ⟨g,c,e,h1,h2,h3,h4⟩:=h
  exact ⟨g,c,e,h1,(hs.below.block g (jQm h2)).trans h2,h3,jQg hs.le t x _ h4⟩
 | siter n rest =>
  obtain ⟨g,s,pos,h1,h2,h3⟩:=h
  exact ⟨g,s,pos,h1,(hs.below.block g (jQm h2)).trans h2,h3⟩
theorem jQx {B:Nat → Prop} {Ψ:Pr} {β:List Value} {w:World} {k g:Nat} {b:Blk} (h:BlkR C.P B Ψ β w k b) (hc:jQb β k g b):¬ B g ∧ g < w.heap.size:=by
 cases b with
 | gone=>exact hc.elim
 | log ys Y own xs=>exact h.2.2.1 g hc
 | lof ys Y own=>exact h.2.2.1 g hc
 | cells cs =>
  obtain ⟨g',c,e,h1,h2,h3,_⟩:=h
  simp only [jQb] at hc
  rw [h1] at hc
  simp at hc
  subst hc
  exact ⟨h3,jQm h2⟩
 | grow tid e xs =>
  obtain ⟨n,cap',hz,hc⟩:=hc
  rcases h with ⟨ad,h1,_⟩ | ⟨g',cap,cur,h1,h2,h3,h4,_⟩
  ·rw [h1] at hc
   simp at hc
   exact absurd hc.2.2.symm hz
  ·rw [h1] at hc
   simp at hc
   obtain ⟨rfl,_,_⟩:=hc
   exact ⟨h3,jQm h4⟩
 | kmap es =>
  obtain ⟨g',ms,cl,h1,h2,h3,_⟩:=h
  simp only [jQb] at hc
  rw [h1] at hc
  simp at hc
  subst hc
  exact ⟨h3,jQm h2⟩
 | dmap e m =>
  obtain ⟨g',ms,cl,h1,h2,h3,_⟩:=h
  simp only [jQb] at hc
  rw [h1] at hc
  simp at hc
  subst hc
  exact ⟨h3,jQm h2⟩
 | diter e last left =>
  obtain ⟨g',gm,ms,cl,seen,h1,h2,h3,_⟩:=h
  simp only [jQb] at hc
  rw [h1] at hc
  simp at hc
  subst hc
  exact ⟨h3,jQm h2⟩
 | loop f p ph ts =>
  obtain ⟨l,r,h1,h2,h3,_⟩:=h
  simp only [jQb,yldV] at hc h1
  rw [h1] at hc
  simp at hc
  subst hc
  exact ⟨h3,jQm h2⟩
 | dat t x =>
  obtain ⟨g',c,e,h1,h2,h3,_⟩:=h
  simp only [jQb] at hc
  rw [h1] at hc
  simp at hc
  subst hc
  exact ⟨h3,jQm h2⟩
 | siter n rest =>
  obtain ⟨g',s,pos,h1,h2,h3,_⟩:=h
  simp only [jQb] at hc
  rw [h1] at hc
  simp at hc
  subst hc
  exact ⟨h3,jQm h2⟩
theorem jJx {P:Program} {B:Nat → Prop} {Ψ:Pr} {β:List Value} {w:World} {k:Nat} {tid:TypeId} {e:Ty} {xs:List e.den} {u:Value} (h:BlkR P B Ψ β w k (.grow tid e xs)) (hu:β[k]? = some u):u ≠ hole:=by
 intro e0
 subst e0
 rcases h with ⟨ad,h1,_⟩ | ⟨g,cap,cur,h1,_⟩
 ·rw [hu] at h1; simp [hole] at h1
 ·rw [hu] at h1; simp [hole] at h1
def Blk.isLoop:Blk → Bool
 | .loop _ _ _ _=>true
 | .log _ _ _ _=>true
 | .lof _ _ _=>true
 | _=>false
theorem claims_obj {B:Nat → Prop} {Ψ:Pr} {β:List Value} {w:World} {k g:Nat} {b:Blk} (h:BlkR C.P B Ψ β w k b) (hc:jQb β k g b) :
 (∃ c e s,w.heap[g]? = some (.cells c e s)) ∨ (∃ ms cl,w.heap[g]? = some (.map ms cl)) ∨ ((∃ m s seen c,w.heap[g]? = some (.mapIter m s seen c)) ∨ ∃ s pos,w.heap[g]? = some (.stringIter s pos)) ∨ b.isLoop = true:=by
 cases b with
 | gone=>exact hc.elim
 | log ys Y own xs=>exact .inr (.inr (.inr rfl))
 | lof ys Y own=>exact .inr (.inr (.inr rfl))
 | cells cs =>
  obtain ⟨g',c,e,h1,h2,h3,_⟩:=h
  simp only [jQb] at hc
  rw [h1] at hc
  simp at hc
  subst hc
  exact .inl ⟨_,_,_,h2⟩
 | grow tid e xs =>
  obtain ⟨n,cap',hz,hc⟩:=hc
  rcases h with ⟨ad,h1,_⟩ | ⟨g',cap,cur,h1,h2,h3,h4,_⟩
  ·rw [h1] at hc
   simp at hc
   exact absurd hc.2.2.symm hz
  ·rw [h1] at hc
   simp at hc
   obtain ⟨rfl,_,_⟩:=hc
   exact .inl ⟨_,_,_,h4⟩
 | kmap es =>
  obtain ⟨g',ms,cl,h1,h2,h3,_⟩:=h
  simp only [jQb] at hc
  rw [h1] at hc
  simp at hc
  subst hc
  exact .inr (.inl ⟨_,_,h2⟩)
 | dmap e m =>
  obtain ⟨g',ms,cl,h1,h2,h3,_⟩:=h
  simp only [jQb] at hc
  rw [h1] at hc
  simp at hc
  subst hc
  exact .inr (.inl ⟨_,_,h2⟩)
 | diter e last left =>
  obtain ⟨g',gm,ms,cl,seen,h1,h2,h3,_⟩:=h
  simp only [jQb] at hc
  rw [h1] at hc
  simp at hc
  subst hc
  exact .inr (.inr (.inl (.inl ⟨_,_,_,_,h2⟩)))
 | loop f p ph ts=>exact .inr (.inr (.inr rfl))
 | dat t x =>
  obtain ⟨g',c,e,h1,h2,h3,_⟩:=h
  simp only [jQb] at hc
  rw [h1] at hc
  simp at hc
  subst hc
  exact .inl ⟨_,_,_,h2⟩
 | siter n rest =>
  obtain ⟨g',s,pos,h1,h2,h3,_⟩:=h
  simp only [jQb] at hc
  rw [h1] at hc
  simp at hc
  subst hc
  exact .inr (.inr (.inl (.inr ⟨_,_,h2⟩)))
theorem InvH.free' {B:Nat → Prop} {w0:World} {Ψ:Pr} {β:List Value} {h:List Blk} {w:World} (hi:InvH C.P B w0 Ψ β h w) {k g:Nat} {b:Blk} (hk:h[k]? = some b) (hc:jQb β k g b) (hn:b.isLoop = false) (a:Addr) (ha:a.block = g):Ψ a = none:=by
 cases hp:Ψ a with
 | none=>rfl
 | some v =>
  exfalso
  by_cases hs:pl a
  ·rw [hi.free k b g hk hc a ha hs] at hp; cases hp
  ·have h1:=Pm_spot hs (hi.prom a v hp)
   rw [ha] at h1
   rcases claims_obj (hi.blk k b hk) hc with ⟨c,e,s,h2⟩ | ⟨ms,cl,h2⟩ | (⟨m,s,seen,c,h2⟩ | ⟨s,pos,h2⟩) | hl
   ·obtain ⟨r,h1⟩:=h1; rw [h2] at h1; cases h1
   ·obtain ⟨r,h1⟩:=h1; rw [h2] at h1; cases h1
   ·obtain ⟨r,h1⟩:=h1; rw [h2] at h1; cases h1
   ·obtain ⟨r,h1⟩:=h1; rw [h2] at h1; cases h1
   ·rw [hl] at hn; cases hn
theorem InvH.step {B:Nat → Prop} {w0:World} {Ψ Ψ':Pr} {β:List Value} {h:List Blk} {w w':World} (hi:InvH C.P B w0 Ψ β h w) (hs:Step Ψ w Ψ' w'):InvH C.P B w0 Ψ' β h w' where
 low:=hi.low.trans (below_S hs.below hi.size)
 size:=fun k hk=>Nat.lt_of_lt_of_le (hi.size k hk) hs.below.size
 prom:=fun a v hv=>by
  rcases hs.new a v hv with h' | ⟨_,h1,h2⟩
  ·have h1:=hi.prom a v h'
   exact jKa (hs.below.block a.block (Pm_lt h1)) h1
  ·exact Pm_mk h1 h2
 own:=fun a v hv hsp=>by
  rcases hs.new a v hv with h' | ⟨_,h1,h2⟩
  ·exact hi.own a v h' hsp
  ·rw [h1] at hsp; cases hsp
 len:=hi.len
 one:=hi.one
 blk:=fun k b hb=>BlkR_step hs (hi.blk k b hb)
 free:=fun k b g hb hc a ha hsp=>by
  cases hp:Ψ' a with
  | none=>rfl
  | some v =>
   rcases hs.new a v hp with h' | ⟨h1,_⟩
   ·rw [hi.free k b g hb hc a ha hsp] at h'; cases h'
   ·have:=(jQx (hi.blk k b hb) hc).2
    omega
 sep:=hi.sep
 glob:=hi.glob.le hs.le
theorem jVb {Ψ Ψ':Pr} (h:PLe Ψ Ψ') {a:Act}:Dok Ψ a → Dok Ψ' a
 | ⟨ds,r,e,hr,hn,hd⟩=>⟨ds,r,e,hr,hn,fun D hD=>h _ _ (hd D hD)⟩
theorem jQq {Ψ Ψ':Pr} {β β':List Value} (h:PLe Ψ Ψ') (hb:∀ (k:Nat) (v:Value),β[k]? = some v → β'[k]? = some v):∀ (fs:List (List AV)) (as:List Act),RelF Ψ β fs as → RelF Ψ' β' fs as
 | [],_,hr=>hr
 | _ :: fs,_,⟨a,as',e,⟨h1,h2⟩,hr⟩=>⟨a,as',e,⟨jVb h h1,jQl h hb _ _ h2⟩,jQq h hb fs as' hr⟩
end Go.AM
namespace Go.AM
open Go.RowKit
variable {B:Nat → Prop} {w0:World} {C:Ctx} {Ψ:Pr} {β:List Value} {h:List Blk} {w:World} {fr:List AV} {a:Act}
theorem jQj {k:IntKind} {n:Int} {v:Value}:RelV Ψ β (.d (.int k) n) v ↔ v = .int k n ∧ k.has n:=by
 constructor
 ·rintro ⟨cs,⟨h1,h2⟩,e⟩
  subst h1
  simp [Ty.isAgg] at e
  exact ⟨e.symm,h2⟩
 ·rintro ⟨rfl,h2⟩
  exact ⟨_,⟨rfl,h2⟩,rfl⟩
theorem jJd {b:Bool} {v:Value}:RelV Ψ β (.d .bool b) v ↔ v = .bool b:=by
 constructor
 ·rintro ⟨cs,h1,e⟩
  simp only [reads] at h1
  subst h1
  simp [Ty.isAgg] at e
  exact e.symm
 ·rintro rfl
  exact ⟨_,rfl,rfl⟩
theorem jZt {l:List Int} {v:Value}:RelV Ψ β (.d .str l) v ↔ v = .string (strOf l) ∧ (∀ c ∈ l,0 ≤ c ∧ c ≤ 255) ∧ l.length ≤ maxLen:=by
 constructor
 ·rintro ⟨cs,⟨h1,h2⟩,e⟩
  subst h1
  simp [Ty.isAgg] at e
  exact ⟨e.symm,h2⟩
 ·rintro ⟨rfl,h2⟩
  exact ⟨_,⟨rfl,h2⟩,rfl⟩
theorem rv_arr {e:Ty} {xs:List e.den} {v:Value}:RelV Ψ β (.d (.arr e) xs) v ↔ ∃ ad cap,v = .slice ad xs.length cap ∧ xs.length ≤ cap ∧ cap ≤ maxLen ∧ (xs = [] ∨ ∃ cells,rdL (reads Ψ e) xs cells ∧ rowAt Ψ ad cells):=by
 constructor
 ·rintro ⟨cs,⟨ad,cap,h1,h2⟩,e⟩
  subst h1
  simp [Ty.isAgg] at e
  exact ⟨ad,cap,e.symm,h2⟩
 ·rintro ⟨ad,cap,rfl,h2⟩
  exact ⟨_,⟨ad,cap,rfl,h2⟩,rfl⟩
theorem jKz {av:AV} {v:Value} {b:Bool} (hr:RelV Ψ β av v) (hb:asB av = some b):v = .bool b:=by
 unfold asB at hb
 split at hb <;> simp at hb
 ·subst hb; exact hr
 ·subst hb; exact hr
 ·subst hb; exact jJd.1 hr
theorem jXh (b:Bool):RelV Ψ β (jZl b) (.bool b):=jJd.2 rfl
theorem strOf_bytesOf (s:ByteArray):strOf (bytesOf s) = s:=by
 unfold strOf bytesOf
 have:((s.data.toList.map fun b=>(b.toNat:Int)).map fun n=>UInt8.ofNat n.toNat) = s.data.toList:=by
  rw [List.map_map]
  conv=>rhs; rw [← List.map_id s.data.toList]
  apply List.map_congr_left
  intro b _
  simp
 rw [this]
theorem bytesOf_bd (s:ByteArray):∀ c ∈ bytesOf s,0 ≤ c ∧ c ≤ 255:=by
 intro c hc
 obtain ⟨b,_,rfl⟩:=List.mem_map.1 hc
 have:=b.toNat_lt
 omega
theorem jK8 (s:ByteArray):(bytesOf s).length = s.size:=by
 simp [bytesOf]
theorem ofV1_rel (v:Value):RelV Ψ β (ofV1 v) v:=by
 unfold ofV1
 split
 ·rfl
 ·rfl
 ·split
  ·rename_i hk; exact jQj.2 ⟨rfl,by simpa [inKind,IntKind.has] using hk⟩
  ·trivial
 ·split
  ·rename_i hs; exact jZt.2 ⟨by rw [strOf_bytesOf],bytesOf_bd _,by rw [jK8]; exact hs⟩
  ·trivial
 ·rfl
 ·rfl
 ·rfl
 ·trivial
theorem ofVs_rel:∀ vs:List Value,RelL Ψ β (ofVs vs) vs
 | []=>rfl
 | v :: vs=>⟨v,vs,rfl,ofV1_rel v,ofVs_rel vs⟩
theorem jZ4 (v:Value):RelV Ψ β (ofV v) v:=by
 unfold ofV
 split
 ·split
  ·rename_i cs hc
   exact ⟨cs.toList,by simp,ofVs_rel _,fun u hu=>List.all_eq_true.1 hc u hu⟩
  ·trivial
 ·exact ofV1_rel v
theorem jXs (hf:RelFr Ψ β fr a) (x:Operand):RelV Ψ β (ev fr x) (a.eval x):=by
 cases x with
 | tmp t =>
  have:=jQ7 _ _ hf.2 t
  simpa [ev,Act.eval,Array.getD_eq_getD_getElem?,List.getD_eq_getElem?_getD] using this
 | const v=>exact jZ4 v
 | global g=>rfl
 | func f=>exact ⟨[],rfl,rfl⟩
def NOk (C:Ctx) (Ψ:Pr) (β:List Value) (w:World) (s:Sem Value) (av:AV):Prop :=
 ∃ v Ψ' w',s.run C.P w = .ok v w' ∧ Step Ψ w Ψ' w' ∧ RelV Ψ' β av v
theorem NOk.of_run {s:Sem Value} {av:AV} {v:Value} (hr:s.run C.P w = .ok v w) (hv:RelV Ψ β av v):NOk C Ψ β w s av :=
 ⟨v,Ψ,w,hr,Step.refl _ _,hv⟩
theorem jXx (k:IntKind) (n:Int):k.has (k.wrap n):=by
 unfold IntKind.has
 cases k <;> simp [IntKind.wrap,IntKind.min,IntKind.max,IntKind.bits,IntKind.signed] <;> omega
theorem wrap_i64 {n:Int} (h:isI64 n):IntKind.i64.wrap n = n:=by
 unfold isI64 at h
 simp [IntKind.wrap,IntKind.bits,IntKind.signed]
 omega
theorem jXr {n:Int}:IntKind.i64.has n ↔ isI64 n:=by
 unfold IntKind.has isI64
 simp [IntKind.min,IntKind.max,IntKind.bits,IntKind.signed]
theorem wrap_has {k:IntKind} {n:Int} (h:k.has n):k.wrap n = n:=by
 unfold IntKind.has at h
 cases k <;> simp [IntKind.wrap,IntKind.min,IntKind.max,IntKind.bits,IntKind.signed] at * <;> omega
theorem jQd {h:List Blk} {v:AV} {r:Out} (e:ok0 h v = some r):r = ⟨none,v,h,none⟩:=by simpa [ok0] using e.symm
theorem jQv {h:List Blk} {p:Prop} {v:AV} {r:Out} (e:okP h p v = some r):r = ⟨some p,v,h,none⟩:=by simpa [okP] using e.symm
theorem arith_inv {wr:Bool} {k:IntKind} {n:Int} {r:Out} (e:arith wr h k n = some r) (hp:∀ p,r.need = some p → p) :
 r.heap = h ∧ r.kill = none ∧ RelV Ψ β r.v (.int k (k.wrap n)):=by
 unfold arith at e
 split at e
 ·cases wr with
  | true =>
   have:=jQd e; subst this
   exact ⟨rfl,rfl,jQj.2 ⟨rfl,jXx _ _⟩⟩
  | false =>
  have:=jQv e; subst this
  have hn:isI64 n:=hp _ rfl
  exact ⟨rfl,rfl,jQj.2 ⟨by rw [wrap_i64 hn],jXr.2 hn⟩⟩
 ·have:=jQd e; subst this
  exact ⟨rfl,rfl,jQj.2 ⟨rfl,jXx _ _⟩⟩
theorem strOf_toList (l:List Int):(strOf l).data.toList = l.map fun n=>UInt8.ofNat n.toNat:=by simp [strOf]
theorem strOf_inj {l m:List Int} (hl:∀ c ∈ l,0 ≤ c ∧ c ≤ 255) (hm:∀ c ∈ m,0 ≤ c ∧ c ≤ 255) (e:strOf l = strOf m):l = m:=by
 have h1:=congrArg (fun s=>bytesOf s) e
 have key:∀ l:List Int,(∀ c ∈ l,0 ≤ c ∧ c ≤ 255) → bytesOf (strOf l) = l:=by
  intro l hl
  unfold bytesOf
  rw [strOf_toList,List.map_map]
  conv=>rhs; rw [← List.map_id l]
  apply List.map_congr_left
  intro c hc
  have:=hl c hc
  simp
  omega
 simp only [key l hl,key m hm] at h1
 exact h1
theorem jXg (l:List Int):(strOf l).size = l.length:=by
 show (strOf l).data.size = _
 simp [strOf]
theorem shl_ok (k yk:IntKind) (x y:Int) (h0:0 ≤ y) (h1:y ≤ k.bits):(Op.shift .shl k x yk y).run C.P w = .ok (.int k (k.wrap (x * 2 ^ y.toNat))) w:=by
 rw [shift_shl k yk x y h0 h1]; rfl
theorem shr_ok (k yk:IntKind) (x y:Int) (h0:0 ≤ y) (h1:y ≤ k.bits):(Op.shift .shr k x yk y).run C.P w = .ok (.int k (x / 2 ^ y.toNat)) w:=by
 rw [shift_shr k yk x y h0 h1]; rfl
theorem has_div {k:IntKind} {x:Int} (h:k.has x) (n:Nat):k.has (x / 2 ^ n):=by
 have hpos:(0:Int) < 2 ^ n:=Int.pow_pos (by decide)
 unfold IntKind.has at *
 have hmin:k.min ≤ 0:=by cases k <;> simp [IntKind.min,IntKind.bits,IntKind.signed]
 have hmax:0 ≤ k.max:=by cases k <;> simp [IntKind.max,IntKind.bits,IntKind.signed]
 constructor
 ·rcases Int.lt_or_le x 0 with hx | hx
  ·have:x ≤ x / 2 ^ n:=by
    have h1:x * 2 ^ n ≤ x:=by
     have:x * 2 ^ n ≤ x * 1:=Int.mul_le_mul_of_nonpos_left (by omega) (by omega)
     omega
    exact (Int.le_ediv_iff_mul_le hpos).2 h1
   omega
  ·have:=Int.ediv_nonneg hx (Int.le_of_lt hpos); omega
 ·rcases Int.lt_or_le x 0 with hx | hx
  ·have:=Int.ediv_neg_of_neg_of_pos hx hpos; omega
  ·have:=Int.ediv_le_self (2 ^ n) hx; omega
theorem emod_le_self {x y:Int} (h:0 ≤ x):x % y ≤ x:=by
 obtain ⟨n,rfl⟩:=Int.eq_ofNat_of_zero_le h
 rcases Int.natAbs_eq y with hy | hy
 ·rw [hy,← Int.natCast_emod]
  have:=Nat.mod_le n y.natAbs
  omega
 ·rw [hy,Int.emod_neg,← Int.natCast_emod]
  have:=Nat.mod_le n y.natAbs
  omega
theorem has_tmod {k:IntKind} {x y:Int} (hx:k.has x) (_hy:k.has y):k.has (x.tmod y):=by
 unfold IntKind.has at *
 have hmin:k.min ≤ 0:=by cases k <;> simp [IntKind.min,IntKind.bits,IntKind.signed]
 have hmax:0 ≤ k.max:=by cases k <;> simp [IntKind.max,IntKind.bits,IntKind.signed]
 rcases Int.lt_or_le x 0 with h | h
 ·have e:x.tmod y = -((-x).tmod y):=by rw [Int.neg_tmod]; omega
  have h1:0 ≤ (-x).tmod y:=Int.tmod_nonneg _ (by omega)
  have h2:(-x).tmod y ≤ -x:=by rw [Int.tmod_eq_emod_of_nonneg (by omega)]; exact emod_le_self (by omega)
  omega
 ·have h1:0 ≤ x.tmod y:=Int.tmod_nonneg _ h
  have h2:x.tmod y ≤ x:=by rw [Int.tmod_eq_emod_of_nonneg h]; exact emod_le_self h
  omega
theorem jK9 (op:BinOp) (k:IntKind) (x y:Int) (ho:op = .and ∨ op = .or ∨ op = .xor ∨ op = .andNot):(Op.intBits op k x y).run C.P w = .ok (.int k (bitsOp op k x y)) w:=by
 rcases ho with rfl | rfl | rfl | rfl <;> rfl
theorem ibin_ok {wr:Bool} {op:BinOp} {xt:TypeId} {k k':IntKind} {m n:Int} {r:Out} (hm:k.has m) (hn:k'.has n)
 (hr:ibin wr h op k k' m n = some r) (hp:∀ p,r.need = some p → p) :
 r.heap = h ∧ r.kill = none ∧ NOk C Ψ β w (binOp op xt (.int k m) (.int k' n)) r.v:=by
 unfold ibin at hr
 split at hr
 ·
  split at hr
  ·have:=jQv hr; subst this
   obtain ⟨h0,h1,h2⟩:=hp _ rfl
   refine ⟨rfl,rfl,NOk.of_run (v:=.int .i64 (m * 2 ^ n.toNat)) ?_ (jQj.2 ⟨rfl,jXr.2 h2⟩)⟩
   rw [binOp_shl,shl_ok _ _ _ _ h0 (by simp [IntKind.bits]; omega),wrap_i64 h2]
  ·have:=jQv hr; subst this
   obtain ⟨h0,h1⟩:=hp _ rfl
   refine ⟨rfl,rfl,NOk.of_run (v:=.int k (k.wrap (m * 2 ^ n.toNat))) ?_ (jQj.2 ⟨rfl,jXx _ _⟩)⟩
   rw [binOp_shl,shl_ok _ _ _ _ h0 h1]
 ·
  have:=jQv hr; subst this
  obtain ⟨h0,h1⟩:=hp _ rfl
  refine ⟨rfl,rfl,NOk.of_run (v:=.int k (m / 2 ^ n.toNat)) ?_ (jQj.2 ⟨rfl,has_div hm _⟩)⟩
  rw [binOp_shr,shr_ok _ _ _ _ h0 h1]
 ·split at hr
  ·rename_i hk
   subst hk
   have hboo:∀ b:Bool,ok0 h (jZl b) = some r → (binOp op xt (.int k m) (.int k n)).run C.P w = .ok (.bool b) w →
    r.heap = h ∧ r.kill = none ∧ NOk C Ψ β w (binOp op xt (.int k m) (.int k n)) r.v:=by
    intro b e hb
    have:=jQd e; subst this
    exact ⟨rfl,rfl,NOk.of_run hb (jXh b)⟩
   split at hr
   ·obtain ⟨h1,h2,h3⟩:=arith_inv (Ψ:=Ψ) (β:=β) hr hp
    exact ⟨h1,h2,NOk.of_run (by rw [binOp_add]; rfl) h3⟩
   ·obtain ⟨h1,h2,h3⟩:=arith_inv (Ψ:=Ψ) (β:=β) hr hp
    exact ⟨h1,h2,NOk.of_run (by rw [binOp_sub]; rfl) h3⟩
   ·obtain ⟨h1,h2,h3⟩:=arith_inv (Ψ:=Ψ) (β:=β) hr hp
    exact ⟨h1,h2,NOk.of_run (by rw [binOp_mul]; rfl) h3⟩
   ·
    split at hr
    ·have:=jQv hr; subst this
     obtain ⟨h0,h1⟩:=hp _ rfl
     refine ⟨rfl,rfl,NOk.of_run (v:=.int .i64 (m.tdiv n)) ?_ (jQj.2 ⟨rfl,jXr.2 h1⟩)⟩
     rw [binOp_quo]; simp [Op.intDiv,h0,wrap_i64 h1]
    ·have:=jQv hr; subst this
     have h0:=hp _ rfl
     refine ⟨rfl,rfl,NOk.of_run (v:=.int k (k.wrap (m.tdiv n))) ?_ (jQj.2 ⟨rfl,jXx _ _⟩)⟩
     rw [binOp_quo]; simp [Op.intDiv,h0]
   ·have:=jQv hr; subst this
    have h0:=hp _ rfl
    refine ⟨rfl,rfl,NOk.of_run (v:=.int k (m.tmod n)) ?_ (jQj.2 ⟨rfl,has_tmod hm hn⟩)⟩
    rw [binOp_rem]; simp [Op.intDiv,h0]
   ·have:=jQd hr; subst this
    exact ⟨rfl,rfl,NOk.of_run (by rw [binOp_and]; exact jK9 _ _ _ _ (.inl rfl)) (jQj.2 ⟨rfl,jXx _ _⟩)⟩
   ·have:=jQd hr; subst this
    exact ⟨rfl,rfl,NOk.of_run (by rw [binOp_or]; exact jK9 _ _ _ _ (.inr (.inl rfl))) (jQj.2 ⟨rfl,jXx _ _⟩)⟩
   ·have:=jQd hr; subst this
    exact ⟨rfl,rfl,NOk.of_run (by rw [binOp_xor]; exact jK9 _ _ _ _ (.inr (.inr (.inl rfl)))) (jQj.2 ⟨rfl,jXx _ _⟩)⟩
   ·have:=jQd hr; subst this
    exact ⟨rfl,rfl,NOk.of_run (by rw [binOp_andNot]; exact jK9 _ _ _ _ (.inr (.inr (.inr rfl)))) (jQj.2 ⟨rfl,jXx _ _⟩)⟩
   ·exact hboo _ hr (by rw [binOp_eql]; rfl)
   ·exact hboo _ hr (by rw [binOp_neq]; rfl)
   ·exact hboo _ hr (by rw [binOp_lss]; rfl)
   ·exact hboo _ hr (by rw [binOp_leq]; rfl)
   ·exact hboo _ hr (by rw [binOp_gtr]; rfl)
   ·exact hboo _ hr (by rw [binOp_geq]; rfl)
   ·cases hr
  ·cases hr
theorem equalIn_bool {xt:TypeId} (hu:C.P.underlying xt = some .bool) (b c:Bool) (d:Nat):(Op.equalIn (d + 1) xt (.bool b) (.bool c)).run C.P w = .ok (b == c) w:=by
 simp [Op.equalIn,run_underlying hu]
theorem equal_bool {xt:TypeId} (hb:isBoolT C xt = true) (b c:Bool):(Op.equal xt (.bool b) (.bool c)).run C.P w = .ok (b == c) w:=by
 unfold isBoolT at hb
 split at hb
 ·rename_i hu
  exact equalIn_bool hu b c 9999
 ·cases hb
theorem equalIn_fn {xt:TypeId} {p q r:_} (hu:C.P.underlying xt = some (.func p q r)) (f:_) (us vs:Array Value) (d:Nat):(Op.equalIn (d + 1) xt (.func f us vs) .nilFunc).run C.P w = .ok false w:=by
 simp [Op.equalIn,run_underlying hu]
theorem equalIn_fn0 {xt:TypeId} {p q r:_} (hu:C.P.underlying xt = some (.func p q r)) (d:Nat):(Op.equalIn (d + 1) xt .nilFunc .nilFunc).run C.P w = .ok true w:=by
 simp [Op.equalIn,run_underlying hu]
theorem equalIn_ptr {xt e:TypeId} (hu:C.P.underlying xt = some (.pointer e)) (a:Addr) (d:Nat):(Op.equalIn (d + 1) xt (.pointer (some a)) (.pointer none)).run C.P w = .ok false w:=by
 simp [Op.equalIn,run_underlying hu]
theorem equalIn_ptr0 {xt e:TypeId} (hu:C.P.underlying xt = some (.pointer e)) (d:Nat):(Op.equalIn (d + 1) xt (.pointer none) (.pointer none)).run C.P w = .ok true w:=by
 simp [Op.equalIn,run_underlying hu]
theorem bytesLess_str:∀ {l m:List Int},(∀ c ∈ l,0 ≤ c ∧ c ≤ 255) → (∀ c ∈ m,0 ≤ c ∧ c ≤ 255) → Op.bytesLess (l.map fun n=>UInt8.ofNat n.toNat) (m.map fun n=>UInt8.ofNat n.toNat) = strLt l m
 | [],[],_,_=>rfl
 | _ :: _,[],_,_=>rfl
 | [],_ :: _,_,_=>rfl
 | a :: l,b :: m,hl,hm=>by
  simp only [List.map_cons,Op.bytesLess,strLt]
  have ha:=hl a (List.mem_cons_self ..)
  have hb:=hm b (List.mem_cons_self ..)
  rw [bytesLess_str (fun c hc=>hl c (List.mem_cons_of_mem _ hc)) (fun c hc=>hm c (List.mem_cons_of_mem _ hc))]
  have e1:(UInt8.ofNat a.toNat < UInt8.ofNat b.toNat) ↔ a < b:=by
   rw [UInt8.lt_iff_toNat_lt,UInt8.toNat_ofNat',UInt8.toNat_ofNat']
   omega
  have e2:(UInt8.ofNat a.toNat = UInt8.ofNat b.toNat) ↔ a = b:=by
   rw [← UInt8.toNat_inj,UInt8.toNat_ofNat',UInt8.toNat_ofNat']
   omega
  have e3:(UInt8.ofNat a.toNat == UInt8.ofNat b.toNat) = decide (a = b):=by
   rw [Bool.eq_iff_iff]; simp only [beq_iff_eq,decide_eq_true_eq]; exact e2
  rw [e3,decide_eq_decide.2 e1]
theorem strLt_ok {l m:List Int} (hl:∀ c ∈ l,0 ≤ c ∧ c ≤ 255) (hm:∀ c ∈ m,0 ≤ c ∧ c ≤ 255):Op.bytesLess (strOf l).toList (strOf m).toList = strLt l m:=by
 have e1:(strOf l).toList = (strOf l).data.toList:=ByteArray.toList_eq _
 have e2:(strOf m).toList = (strOf m).data.toList:=ByteArray.toList_eq _
 rw [e1,e2]
 simpa [strOf] using bytesLess_str hl hm
theorem strOf_append (l m:List Int):strOf (l ++ m) = strOf l ++ strOf m:=by
 apply ByteArray.ext
 rw [ByteArray.data_append]
 simp [strOf]
theorem nilB_ok {op:BinOp} {xt:TypeId} {x y:Operand} {u v:Value} {b:Bool} {r:Out} (hr:nilB h op b = some r) (hg:eqGuard op xt x y u v = pure ()) (hs1:binOp .eql xt u v = do pure (.bool (← Op.equal xt u v))) (hs2:binOp .neq xt u v = do pure (.bool (!(← Op.equal xt u v))))
 (he:(Op.equal xt u v).run C.P w = .ok b w):r.heap = h ∧ r.kill = none ∧ NOk C Ψ β w (do eqGuard op xt x y u v; binOp op xt u v) r.v:=by
 have hrun:∀ s:Sem Value,((pure ():Sem Unit) >>= fun _=>s) = s:=fun _=>rfl
 rw [hg,hrun]
 unfold nilB at hr
 split at hr
 ·have:=jQd hr; subst this
  refine ⟨rfl,rfl,NOk.of_run (v:=.bool b) ?_ (by cases b <;> rfl)⟩
  rw [hs1]
  simp [he]
 ·have:=jQd hr; subst this
  refine ⟨rfl,rfl,NOk.of_run (v:=.bool (!b)) ?_ (by cases b <;> rfl)⟩
  rw [hs2]
  simp [he]
 ·cases hr
theorem binop_ok {op:BinOp} {xt:TypeId} {x y:Operand} {av bv:AV} {u v:Value} {r:Out} (hx:RelV Ψ β av u) (hy:RelV Ψ β bv v)
 (hr:abin C h op xt av bv = some r) (hp:∀ p,r.need = some p → p) :
 r.heap = h ∧ r.kill = none ∧ NOk C Ψ β w (do eqGuard op xt x y u v; binOp op xt u v) r.v:=by
 have hrun:∀ s:Sem Value,((pure ():Sem Unit) >>= fun _=>s) = s:=fun _=>rfl
 unfold abin at hr
 split at hr
 ·
  rename_i k m k' n
  obtain ⟨rfl,hm⟩:=jQj.1 hx
  obtain ⟨rfl,hn⟩:=jQj.1 hy
  rw [eqGuard_at_int,hrun]
  exact ibin_ok hm hn hr hp
 ·
  rename_i l m
  obtain ⟨rfl,hl,hl'⟩:=jZt.1 hx
  obtain ⟨rfl,hm,hm'⟩:=jZt.1 hy
  rw [eqGuard_at_string,hrun]
  have heq:((strOf l).toList == (strOf m).toList) = decide (l = m):=by
   rw [Bool.eq_iff_iff]
   simp only [beq_iff_eq,decide_eq_true_eq]
   constructor
   ·intro e
    refine strOf_inj hl hm ?_
    have e1:(strOf l).toList = (strOf l).data.toList:=ByteArray.toList_eq _
    have e2:(strOf m).toList = (strOf m).data.toList:=ByteArray.toList_eq _
    rw [e1,e2] at e
    exact ByteArray.ext (Array.ext' e)
   ·rintro rfl; rfl
  split at hr
  ·have:=jQd hr; subst this
   refine ⟨rfl,rfl,NOk.of_run (v:=.bool (decide (l = m))) ?_ (jXh _)⟩
   show (Op.stringOp .eql _ _).run C.P w = _
   simp [Op.stringOp,heq]
  ·have:=jQd hr; subst this
   refine ⟨rfl,rfl,NOk.of_run (v:=.bool (!decide (l = m))) ?_ (jXh _)⟩
   show (Op.stringOp .neq _ _).run C.P w = _
   simp [Op.stringOp,heq]
  ·have:=jQd hr; subst this
   refine ⟨rfl,rfl,NOk.of_run (v:=.bool (strLt l m)) ?_ (jXh _)⟩
   show (Op.stringOp .lss _ _).run C.P w = _
   simp [Op.stringOp,strLt_ok hl hm]
  ·have:=jQd hr; subst this
   refine ⟨rfl,rfl,NOk.of_run (v:=.bool (!(strLt l m || decide (l = m)))) ?_ (jXh _)⟩
   show (Op.stringOp .gtr _ _).run C.P w = _
   simp [Op.stringOp,strLt_ok hl hm,heq]
  ·have:=jQd hr; subst this
   refine ⟨rfl,rfl,NOk.of_run (v:=.bool (strLt l m || decide (l = m))) ?_ (jXh _)⟩
   show (Op.stringOp .leq _ _).run C.P w = _
   simp [Op.stringOp,strLt_ok hl hm,heq]
  ·have:=jQd hr; subst this
   refine ⟨rfl,rfl,NOk.of_run (v:=.bool (!strLt l m)) ?_ (jXh _)⟩
   show (Op.stringOp .geq _ _).run C.P w = _
   simp [Op.stringOp,strLt_ok hl hm]
  ·have:=jQv hr; subst this
   have hq:l.length + m.length ≤ 9223372036854775807:=hp _ rfl
   refine ⟨rfl,rfl,NOk.of_run (v:=.string (strOf (l ++ m))) ?_ (jZt.2 ⟨rfl,fun c hc=>(List.mem_append.1 hc).elim (hl c) (hm c),by rw [List.length_append]; exact hq⟩)⟩
   show (Op.stringOp .add _ _).run C.P w = _
   have e:¬ (((strOf l).size + (strOf m).size:Nat):Int) > IntKind.i64.max:=by
    rw [jXg,jXg]
    simp only [IntKind.max,IntKind.bits,IntKind.signed]
    omega
   simp only [Op.stringOp,e,if_false,strOf_append]
   rfl
  ·cases hr
 ·split at hr
  ·rename_i ht
   obtain ⟨us,rfl,_⟩:=hx
   have hv:v = .nilFunc:=hy
   subst hv
   refine nilB_ok hr (by cases op <;> rfl) rfl rfl ?_
   unfold isFuncT at ht
   split at ht
   ·rename_i hu; exact equalIn_fn hu _ _ _ 9999
   ·cases ht
  ·cases hr
 ·split at hr
  ·rename_i ht
   have hu':u = .nilFunc:=hx
   have hv:v = .nilFunc:=hy
   subst hu' hv
   refine nilB_ok hr (by cases op <;> rfl) rfl rfl ?_
   unfold isFuncT at ht
   split at ht
   ·rename_i hu; exact equalIn_fn0 hu 9999
   ·cases ht
  ·cases hr
 ·split at hr
  ·rename_i ht
   obtain ⟨g,_,rfl⟩:=hx
   have hv:v = .pointer none:=hy
   subst hv
   refine nilB_ok hr (by cases op <;> rfl) rfl rfl ?_
   unfold isPtrT at ht
   split at ht
   ·rename_i hu; exact equalIn_ptr hu _ 9999
   ·cases ht
  ·cases hr
 ·split at hr
  ·rename_i ht
   have hu':u = .pointer none:=hx
   have hv:v = .pointer none:=hy
   subst hu' hv
   refine nilB_ok hr (by cases op <;> rfl) rfl rfl ?_
   unfold isPtrT at ht
   split at ht
   ·rename_i hu; exact equalIn_ptr0 hu 9999
   ·cases ht
  ·cases hr
 ·split at hr
  ·rename_i hbt
   split at hr
   ·rename_i b c hb hc
    have e1:=jKz hx hb; have e2:=jKz hy hc
    subst e1 e2
    rw [eqGuard_at_bool,hrun]
    have:=jQd hr; subst this
    refine ⟨rfl,rfl,NOk.of_run (v:=.bool (b == c)) ?_ (jXh _)⟩
    simp [binOp,equal_bool hbt]
   ·rename_i b c hb hc
    have e1:=jKz hx hb; have e2:=jKz hy hc
    subst e1 e2
    rw [eqGuard_at_bool,hrun]
    have:=jQd hr; subst this
    refine ⟨rfl,rfl,NOk.of_run (v:=.bool (b != c)) ?_ (jXh _)⟩
    simp [binOp,equal_bool hbt,bne]
   ·cases hr
  ·cases hr
theorem unop_ok {op:UnOp} {av:AV} {u:Value} {r:Out} (hx:RelV Ψ β av u) (hr:aun h op av = some r) (hp:∀ p,r.need = some p → p) :
 r.heap = h ∧ r.kill = none ∧ NOk C Ψ β w (Op.unary op u) r.v:=by
 unfold aun at hr
 split at hr
 ·have:=jQd hr; subst this
  have:u = .bool true:=hx
  subst this
  exact ⟨rfl,rfl,NOk.of_run (v:=.bool false) rfl rfl⟩
 ·have:=jQd hr; subst this
  have:u = .bool false:=hx
  subst this
  exact ⟨rfl,rfl,NOk.of_run (v:=.bool true) rfl rfl⟩
 ·have:=jQd hr; subst this
  rw [jJd.1 hx]
  exact ⟨rfl,rfl,NOk.of_run rfl (jXh _)⟩
 ·obtain ⟨rfl,hm⟩:=jQj.1 hx
  obtain ⟨h1,h2,h3⟩:=arith_inv (Ψ:=Ψ) (β:=β) hr hp
  exact ⟨h1,h2,NOk.of_run rfl h3⟩
 ·rename_i k n
  obtain ⟨rfl,hm⟩:=jQj.1 hx
  have:=jQd hr; subst this
  exact ⟨rfl,rfl,NOk.of_run (jK9 _ _ _ _ (.inr (.inr (.inl rfl)))) (jQj.2 ⟨rfl,jXx _ _⟩)⟩
 ·cases hr
theorem jKv {av:AV} {v:Value} {e:Ty} {xs:List e.den} (hi:InvH C.P B w0 Ψ β h w) (hr:RelV Ψ β av v) (hl:asList h av = some ⟨e,xs⟩) :
 ∃ ad cap,v = .slice ad xs.length cap ∧ xs.length ≤ cap ∧ cap ≤ maxLen ∧ (xs = [] ∨ ∃ cells g off,rdL (reads Ψ e) xs cells ∧ ad = some ⟨g,off,none⟩ ∧ ∀ j u,cells[j]? = some u → w.cell? ⟨g,off + j,none⟩ = some u):=by
 have key:∀ {e:Ty} {xs:List e.den} {v:Value},rv Ψ (.arr e) xs v → ∃ ad cap,v = .slice ad xs.length cap ∧ xs.length ≤ cap ∧ cap ≤ maxLen ∧ (xs = [] ∨ ∃ cells g off,rdL (reads Ψ e) xs cells ∧ ad = some ⟨g,off,none⟩ ∧ ∀ j u,cells[j]? = some u → w.cell? ⟨g,off + j,none⟩ = some u):=by
  intro e xs v hv
  obtain ⟨ad,cap,e1,h1,h2,h3⟩:=rv_arr (β:=β).1 hv
  refine ⟨ad,cap,e1,h1,h2,h3.imp id ?_⟩
  rintro ⟨cells,hd,g,off,e2,hc⟩
  exact ⟨cells,g,off,hd,e2,fun j u hj=>hi.prom _ _ (hc j u hj)⟩
 unfold asList at hl
 split at hl
 ·simp at hl
  obtain ⟨rfl,hl⟩:=hl
  simp at hl
  subst hl
  exact key hr
 ·simp at hl
  obtain ⟨rfl,hl⟩:=hl
  simp at hl
  subst hl
  exact key hr.choose_spec.2
 ·rename_i k
  split at hl
  ·rename_i tid e' xs' hg
   simp at hl
   obtain ⟨rfl,hl⟩:=hl
   simp at hl
   subst hl
   have h4:β[k]? = some v:=hr.1
   rcases hi.blk k _ (jQc hg (by simp)) with ⟨ad,h1,rfl⟩ | ⟨g,cap,cur,h1,_,hB,hh,hn,hcap,hsz,hd⟩
   ·rw [h1] at h4
    simp at h4
    subst h4
    exact ⟨ad,0,rfl,Nat.le_refl _,by simp [maxLen],.inl rfl⟩
   ·rw [h1] at h4
    simp at h4
    subst h4
    refine ⟨_,cap,rfl,hn,hcap,.inr ⟨_,g,0,hd,rfl,fun j u hj=>?_⟩⟩
    have hcell:w.cell? ⟨g,0 + j,none⟩ = cur[0 + j]?:=by simp [World.cell?,hh]
    rw [hcell,Nat.zero_add]
    rw [List.getElem?_take] at hj
    split at hj
    ·simpa using hj
    ·cases hj
  ·cases hl
 ·cases hl
theorem jQ6 {t tid:TypeId} (he:jJp C t = some tid):C.P.underlying t = some (.slice tid):=by
 unfold jJp at he
 split at he
 ·rename_i hu; simp at he; subst he; exact hu
 ·cases he
theorem has_len {n:Nat} (hn:n ≤ maxLen):IntKind.i64.has (n:Int):=by
 rw [jXr]
 unfold isI64
 simp [maxLen] at hn
 omega
theorem mapR_len' {e:Ty}:∀ {m:List (Int × e.den)} {l:List MapEntry},mapR Ψ e m l → m.length = l.length
 | [],l,h=>by
  have h:l = []:=h
  subst h
  rfl
 | p :: m,l,⟨x,es',h1,_,_,_,h5⟩=>by subst h1; simp [mapR_len' h5]
theorem len_ok {av:AV} {v:Value} {r:Out} {t ty:TypeId} (hi:InvH C.P B w0 Ψ β h w) (hx:RelV Ψ β av v) (hr:alen C h t av = some r) (hp:∀ p,r.need = some p → p) :
 r.heap = h ∧ r.kill = none ∧ NOk C Ψ β w (Builtin.len_ #[t] ty #[v]) r.v:=by
 unfold alen at hr
 split at hr
 ·rename_i l hu
  obtain ⟨rfl,hl,hl'⟩:=jZt.1 hx
  have:=jQd hr; subst this
  refine ⟨rfl,rfl,NOk.of_run (v:=.int .i64 l.length) ?_ (jQj.2 ⟨rfl,has_len hl'⟩)⟩
  simp [Builtin.len_,run_underlying hu,goInt,jXg]
 ·rename_i hu
  have:v = .slice none 0 0:=hx
  subst this
  have:=jQd hr; subst this
  refine ⟨rfl,rfl,NOk.of_run (v:=.int .i64 0) ?_ (jQj.2 ⟨rfl,has_len (n:=0) (by simp [maxLen])⟩)⟩
  simp [Builtin.len_,run_underlying hu,goInt]
 ·rename_i e k n hu
  obtain ⟨g,_,hn,rfl⟩:=hx
  have:=jQd hr; subst this
  refine ⟨rfl,rfl,NOk.of_run (v:=.int .i64 n) ?_ (jQj.2 ⟨rfl,has_len (n:=n) (by simp [maxLen]; omega)⟩)⟩
  simp [Builtin.len_,run_underlying hu,goInt]
 ·rename_i e k off n lo hi' hu
  obtain ⟨g,_,h1,h2,h3,h4,rfl⟩:=hx
  have:=jQd hr; subst this
  have e1:hi' - lo = ((hi'.toNat - lo.toNat:Nat):Int):=by omega
  refine ⟨rfl,rfl,NOk.of_run (v:=.int .i64 ((hi'.toNat - lo.toNat:Nat):Int)) ?_ (jQj.2 ⟨by rw [e1],by rw [e1]; exact has_len (by omega)⟩)⟩
  simp [Builtin.len_,run_underlying hu,goInt]
 ·rename_i e hu _ _ _
  split at hr
  ·rename_i e' xs hl
   obtain ⟨ad,cap,rfl,h1,h2,_⟩:=jKv hi hx hl
   have:=jQd hr; subst this
   refine ⟨rfl,rfl,NOk.of_run (v:=.int .i64 xs.length) ?_ (jQj.2 ⟨rfl,has_len (by omega)⟩)⟩
   simp [Builtin.len_,run_underlying hu,goInt]
  ·cases hr
 ·rename_i kt et j hu
  split at hr
  ·rename_i e m hg
   simp at hr
   subst hr
   obtain ⟨g,ms,cl,hβ,hh,_,hm,_⟩:=hi.blk j _ (jQc hg (by simp))
   have hv:v = .map (some g):=by
    have h1:β[j]? = some v:=hx.1
    rw [hβ] at h1
    simpa using h1.symm
   subst hv
   have hlen:m.length = ms.size:=by rw [mapR_len' hm,Array.length_toList]
   have hb:(m.length:Int) ≤ 9223372036854775807:=hp _ rfl
   have hhas:IntKind.i64.has (m.length:Int):=by
    have h1:IntKind.i64.min = -9223372036854775808:=by decide
    have h2:IntKind.i64.max = 9223372036854775807:=by decide
    unfold IntKind.has
    omega
   refine ⟨rfl,rfl,NOk.of_run (v:=.int .i64 m.length) ?_ (jQj.2 ⟨rfl,hhas⟩)⟩
   simp [Builtin.len_,run_underlying hu,goInt,MapKept.run_getObj_map hh,Result.andThen,hlen]
  ·cases hr
 ·cases hr
end Go.AM
namespace Go.AM
open Go.RowKit
variable {B:Nat → Prop} {w0:World} {C:Ctx} {Ψ:Pr} {β:List Value} {h:List Blk} {w:World} {fr:List AV} {a:Act}
theorem foldMin_cons {kd:IntKind} {c:AV} {l:List AV} {n m:Int} (hf:foldMin kd (c :: l) n = some m):∃ k:Int,c = .d (.int kd) k ∧ foldMin kd l (min n k) = some m:=by
 unfold foldMin at hf
 split at hf
 ·rename_i he; cases he
 ·rename_i he
  simp only [List.cons.injEq] at he
  obtain ⟨rfl,rfl⟩:=he
  split at hf
  ·rename_i hk; subst hk; exact ⟨_,rfl,hf⟩
  ·cases hf
 ·cases hf
theorem foldMin_ok {kd:IntKind}:∀ (l:List AV) (n m:Int) (vs:List Value),foldMin kd l n = some m → RelL Ψ β l vs → kd.has n →
 (vs.foldlM Builtin.min2 (.int kd n)).run C.P w = .ok (.int kd m) w ∧ kd.has m
 | [],n,m,vs,hf,hl,hn=>by
  simp only [foldMin,Option.some.injEq] at hf
  simp only [RelL] at hl
  subst hf hl
  exact ⟨rfl,hn⟩
 | c :: l,n,m,vs,hf,⟨v,vs',e,hv,hl⟩,hn=>by
  obtain ⟨k,rfl,hf'⟩:=foldMin_cons hf
  obtain ⟨rfl,hk⟩:=jQj.1 hv
  subst e
  have hm:kd.has (min n k):=by unfold IntKind.has at *; omega
  obtain ⟨h1,h2⟩:=foldMin_ok l _ m vs' hf' hl hm
  refine ⟨?_,h2⟩
  have e1:Builtin.min2 (.int kd n) (.int kd k) = pure (.int kd (min n k)):=by
   simp only [Builtin.min2]
   congr 2
   split <;> omega
  rw [List.foldlM_cons,e1]
  exact h1
theorem foldMax_cons {kd:IntKind} {c:AV} {l:List AV} {n m:Int} (hf:foldMax kd (c :: l) n = some m):∃ k:Int,c = .d (.int kd) k ∧ foldMax kd l (max n k) = some m:=by
 unfold foldMax at hf
 split at hf
 ·rename_i he; cases he
 ·rename_i he
  simp only [List.cons.injEq] at he
  obtain ⟨rfl,rfl⟩:=he
  split at hf
  ·rename_i hk; subst hk; exact ⟨_,rfl,hf⟩
  ·cases hf
 ·cases hf
theorem foldMax_ok {kd:IntKind}:∀ (l:List AV) (n m:Int) (vs:List Value),foldMax kd l n = some m → RelL Ψ β l vs → kd.has n →
 (vs.foldlM Builtin.max2 (.int kd n)).run C.P w = .ok (.int kd m) w ∧ kd.has m
 | [],n,m,vs,hf,hl,hn=>by
  simp only [foldMax,Option.some.injEq] at hf
  simp only [RelL] at hl
  subst hf hl
  exact ⟨rfl,hn⟩
 | c :: l,n,m,vs,hf,⟨v,vs',e,hv,hl⟩,hn=>by
  obtain ⟨k,rfl,hf'⟩:=foldMax_cons hf
  obtain ⟨rfl,hk⟩:=jQj.1 hv
  subst e
  have hm:kd.has (max n k):=by unfold IntKind.has at *; omega
  obtain ⟨h1,h2⟩:=foldMax_ok l _ m vs' hf' hl hm
  refine ⟨?_,h2⟩
  have e1:Builtin.max2 (.int kd n) (.int kd k) = pure (.int kd (max n k)):=by
   simp only [Builtin.max2]
   congr 2
   split <;> omega
  rw [List.foldlM_cons,e1]
  exact h1
theorem jXj {k:IntKind} {i:Int} {y:Nat} {code:BoundsCode} (h0:0 ≤ i) (h1:i ≤ y) :
 (Instr.sliceBound (.int k i) y code).run C.P w = .ok i.toNat w:=by
 simp [Instr.sliceBound,asIntOf,h0,h1]
def RelO (Ψ:Pr) (β:List Value):Option AV → Option Value → Prop
 | none,v=>v = none
 | some av,v=>∃ u,v = some u ∧ RelV Ψ β av u
theorem RelO.int {Ψ:Pr} {β:List Value} {k:IntKind} {n:Int} {v:Option Value} (hr:RelO Ψ β (some (.d (.int k) n)) v):v = some (.int k n):=by
 obtain ⟨u,rfl,hu⟩:=hr
 rw [(jQj.1 hu).1]
theorem jQ2 {isSlice:Bool} {len cap:Nat} {lo hi mx:Option AV} {l h' m:Option Value} (hl:RelO Ψ β lo l) (hh:RelO Ψ β hi h') (hm:RelO Ψ β mx m)
 {x:Int} {y z:Option Int} (he:ainterp lo hi mx = some (x,y,z)) (hx:0 ≤ x) (hxy:x ≤ y.getD len) (hyz:∀ n,y = some n → n ≤ z.getD cap) (hz:∀ n,z = some n → n ≤ cap) (_hlc:len ≤ cap) :
 (Instr.sliceBounds isSlice len cap l h' m).run C.P w = .ok (x.toNat,(y.map Int.toNat).getD len,(z.map Int.toNat).getD cap) w ∧ (z.isSome → y.isSome):=by
 unfold ainterp at he
 split at he <;> simp only [Option.some.injEq,Prod.mk.injEq,reduceCtorEq] at he
 ·obtain ⟨rfl,rfl,rfl⟩:=he
  simp only [RelO] at hl hh hm
  subst hl hh hm
  simp [Instr.sliceBounds]
 ·obtain ⟨rfl,rfl,rfl⟩:=he
  simp only [RelO] at hh hm
  subst hh hm
  rw [hl.int]
  simp only [Option.getD_none] at hxy
  simp [Instr.sliceBounds,jXj hx hxy]
 ·obtain ⟨rfl,rfl,rfl⟩:=he
  simp only [RelO] at hl hm
  subst hl hm
  rw [hh.int]
  simp only [Option.getD_some] at hxy
  have:=hyz _ rfl
  simp only [Option.getD_none] at this
  simp [Instr.sliceBounds,jXj hxy this]
 ·obtain ⟨rfl,rfl,rfl⟩:=he
  simp only [RelO] at hm
  subst hm
  rw [hh.int,hl.int]
  simp only [Option.getD_some] at hxy
  have h1:=hyz _ rfl
  simp only [Option.getD_none] at h1
  rename_i k n k' n'
  have hn':0 ≤ n':=Int.le_trans hx hxy
  have h2:n ≤ ((n'.toNat:Nat):Int):=by rw [Int.toNat_of_nonneg hn']; exact hxy
  simp [Instr.sliceBounds,jXj hn' h1,jXj hx h2]
 ·obtain ⟨rfl,rfl,rfl⟩:=he
  simp only [RelO] at hl
  subst hl
  rw [hh.int,hm.int]
  simp only [Option.getD_some] at hxy
  have h1:=hyz _ rfl
  have h3:=hz _ rfl
  simp only [Option.getD_some] at h1
  rename_i k n k' n'
  have h0:0 ≤ n':=Int.le_trans hxy h1
  have h2:n ≤ ((n'.toNat:Nat):Int):=by rw [Int.toNat_of_nonneg h0]; exact h1
  simp [Instr.sliceBounds,jXj h0 h3,jXj hxy h2]
 ·obtain ⟨rfl,rfl,rfl⟩:=he
  rw [hh.int,hm.int,hl.int]
  simp only [Option.getD_some] at hxy
  have h1:=hyz _ rfl
  have h3:=hz _ rfl
  simp only [Option.getD_some] at h1
  rename_i k n k' n' k'' n''
  have h00:0 ≤ n':=Int.le_trans hx hxy
  have h0:0 ≤ n'':=Int.le_trans h00 h1
  have h2:n' ≤ ((n''.toNat:Nat):Int):=by rw [Int.toNat_of_nonneg h0]; exact h1
  have h4:n ≤ ((n'.toNat:Nat):Int):=by rw [Int.toNat_of_nonneg h00]; exact hxy
  simp [Instr.sliceBounds,jXj h0 h3,jXj h00 h2,jXj hx h4]
theorem jQs {l:List Value} {i n j:Nat} {u:Value} (hj:((l.drop i).take n)[j]? = some u):l[i + j]? = some u:=by
 rw [List.getElem?_take] at hj
 split at hj
 ·rwa [List.getElem?_drop] at hj
 ·cases hj
theorem part_row {e:Ty} {xs:List e.den} {cells:List Value} {g off sz:Nat} (hd:rdL (reads Ψ e) xs cells) (hc:∀ j u,cells[j]? = some u → Ψ ⟨g,off + j,none⟩ = some u) (hsz:sz = e.cells) (i n:Nat) :
 (xs.drop i).take n = [] ∨ ∃ cells',rdL (reads Ψ e) ((xs.drop i).take n) cells' ∧ rowAt Ψ (some ((⟨g,off,none⟩:Addr).add (i * sz))) cells':=by
 subst hsz
 refine .inr ⟨(cells.drop (i * e.cells)).take (n * e.cells),jJv (jQa e) _ _ n (jJw (jQa e) _ _ i hd),g,off + i * e.cells,?_,?_⟩
 ·rw [Addr.add_lit]
 ·intro j u hj
  have:=hc _ _ (jQs hj)
  rwa [← Nat.add_assoc] at this
theorem jZz {e:Ty} {xs:List e.den} {v:Value} (hx:RelV Ψ β (.d (.arr e) xs) v) {sz:Nat} (hsz:sz = e.cells) {l n:Nat} (hln:l ≤ n) (hn:n ≤ xs.length) :
 ∃ ad cap,v = .slice ad xs.length cap ∧ xs.length ≤ cap ∧ cap ≤ maxLen ∧ (∀ m,n ≤ m → m ≤ cap → RelV Ψ β (.d (.arr e) ((xs.drop l).take (n - l))) (.slice (if m = l then ad else ad.map (·.add (l * sz))) (n - l) (m - l))):=by
 obtain ⟨ad,cap,e1,h1,h2,h3⟩:=rv_arr.1 hx
 refine ⟨ad,cap,e1,h1,h2,fun m hnm hmc=>?_⟩
 have hlen:((xs.drop l).take (n - l)).length = n - l:=by simp; omega
 rw [rv_arr]
 refine ⟨_,_,by rw [hlen],by rw [hlen]; omega,by omega,?_⟩
 by_cases hml:m = l
 ·left
  have:n - l = 0:=by omega
  rw [this]; rfl
 ·rw [if_neg hml]
  rcases h3 with rfl | ⟨cells,hd,g,off,rfl,hc⟩
  ·left; simp
  ·exact part_row hd hc hsz l (n - l)
theorem RelO_of {fr:List AV} {a:Act} (o:Option Operand) (hev:∀ x ∈ o.toArray,RelV Ψ β (ev fr x) (a.eval x)):RelO Ψ β (optEv fr o) (o.map a.eval):=by
 cases o with
 | none=>rfl
 | some x=>exact ⟨_,rfl,hev x (by simp)⟩
theorem strOf_extract {l:List Int} (i n:Nat):(strOf l).extract i n = strOf ((l.drop i).take (n - i)):=by
 apply ByteArray.ext
 apply Array.ext'
 simp [strOf,ByteArray.data_extract,List.map_drop,List.map_take]
theorem str_part {l:List Int} (hx:(∀ c ∈ l,0 ≤ c ∧ c ≤ 255) ∧ l.length ≤ maxLen) (i n:Nat):RelV Ψ β (.d .str ((l.drop i).take n)) (.string (strOf ((l.drop i).take n))):=by
 refine jZt.2 ⟨rfl,fun c hc=>hx.1 c (List.mem_of_mem_drop (List.mem_of_mem_take hc)),?_⟩
 have:=hx.2
 rw [List.length_take,List.length_drop]
 omega
theorem asList_rv {av:AV} {v:Value} {e:Ty} {xs:List e.den} (hr:RelV Ψ β av v) (hl:asList h av = some ⟨e,xs⟩) (hn:∀ k,av ≠ .sl k):RelV Ψ β (.d (.arr e) xs) v:=by
 unfold asList at hl
 split at hl
 ·simp at hl
  obtain ⟨rfl,hl⟩:=hl
  simp at hl
  subst hl
  exact hr
 ·simp at hl
  obtain ⟨rfl,hl⟩:=hl
  simp at hl
  subst hl
  exact hr.choose_spec.2
 ·exact absurd rfl (hn _)
 ·cases hl
theorem size_of {t:TypeId} {n:Nat} (hs:C.size t = some n):∃ i,C.P.info? t = some i ∧ i.size = n:=by
 unfold Ctx.size at hs
 split at hs
 ·rename_i i hi
  exact ⟨i,hi,by simpa using hs⟩
 ·cases hs
theorem jQo {t:TypeId} {n:Nat} (hs:C.size t = some n) (w:World):(sizeOf t).run C.P w = .ok n w:=by
 obtain ⟨i,hi,rfl⟩:=size_of hs
 simp [sizeOf,typeInfo,hi]
theorem jJq {t e:TypeId} {n:Nat} (h:arrayOf C t = some (n,e)):C.P.underlying t = some (.array n e):=by
 unfold arrayOf at h
 split at h
 ·rename_i n' e' hu
  simp at h
  obtain ⟨rfl,rfl⟩:=h
  exact hu
 ·cases h
theorem sliceArr_ok {t:TypeId} {av:AV} {v:Value} {lo hi mx:Option AV} {l h' m:Option Value} {r:Out} (hx:RelV Ψ β av v) (hl:RelO Ψ β lo l) (hh:RelO Ψ β hi h') (hm:RelO Ψ β mx m)
 (hr:asliceArr C h t av lo hi mx = some r):r.heap = h ∧ r.kill = none ∧ NOk C Ψ β w (Instr.sliceAt t v l h' m) r.v:=by
 unfold asliceArr at hr
 split at hr
 ·rename_i n et ha
  simp only [RelO] at hl hh hm
  subst hl hh hm
  split at hr
  ·rename_i sz k e xs hs
   split at hr
   ·rename_i hc
    simp only [Bool.and_eq_true,Nat.beq_eq,Nat.ble_eq] at hc
    obtain ⟨⟨hsz,rfl⟩,hn⟩:=hc
    have:=jQd hr; subst this
    obtain ⟨g,off,cs,rfl,⟨hlen,hd⟩,hp⟩:=hx
    refine ⟨rfl,rfl,NOk.of_run (v:=.slice (some ⟨g,off,none⟩) k k) ?_ ⟨_,by rw [hlen],⟨_,⟨some ⟨g,off,none⟩,k,by rw [hlen],by omega,by simp [maxLen]; omega,.inr ⟨cs,hd,g,off,rfl,hp⟩⟩,rfl⟩⟩⟩
    simp [Instr.sliceAt,run_underlying (jJq ha),Instr.sureAddr,Instr.sliceBounds,jQo hs]
    try (intro _; simp [Addr.add])
   ·cases hr
  ·cases hr
 ·cases hr
theorem slice_ok0 {t:TypeId} {av:AV} {v:Value} {lo hi mx:Option AV} {l h' m:Option Value} {r:Out} (hx:RelV Ψ β av v) (hl:RelO Ψ β lo l) (hh:RelO Ψ β hi h') (hm:RelO Ψ β mx m)
 (hr:aslice0 C h t av lo hi mx = some r) (hp:∀ p,r.need = some p → p) :
 r.heap = h ∧ r.kill = none ∧ NOk C Ψ β w (Instr.sliceAt t v l h' m) r.v:=by
 unfold aslice0 at hr
 split at hr
 ·cases hr
 ·rename_i x y z he
  split at hr
  ·
   rename_i s hu
   obtain ⟨rfl,hs1,hs2⟩:=jZt.1 hx
   have hat:∀ w,(Instr.sliceAt t (.string (strOf s)) l h' m).run C.P w = (Instr.slice t (.string (strOf s)) l h' m).run C.P w:=by
    intro w; simp [Instr.sliceAt,run_underlying hu]
   split at hr
   ·have:=jQv hr; subst this
    obtain ⟨h0,h1⟩:=hp _ rfl
    have hmn:m = none:=by
     unfold ainterp at he
     split at he <;> simp_all [RelO]
    subst hmn
    obtain ⟨hb,_⟩:=jQ2 (C:=C) (w:=w) (isSlice:=false) (len:=(strOf s).size) (cap:=(strOf s).size) hl hh hm he h0 (by simp [jXg]; exact h1) (by simp) (by simp) (Nat.le_refl _)
    refine ⟨rfl,rfl,NOk.of_run (v:=.string (strOf (s.drop x.toNat))) ?_ ?_⟩
    ·rw [hat]
     simp only [Option.map_none,Option.getD_none,jXg] at hb
     simp [Instr.slice,run_underlying hu,jXg,hb,strOf_extract,← List.length_drop,List.take_length]
    ·have:=str_part (Ψ:=Ψ) (β:=β) ⟨hs1,hs2⟩ x.toNat s.length
     rwa [List.take_of_length_le (by simp)] at this
   ·rename_i n
    have:=jQv hr; subst this
    obtain ⟨h0,h1,h2⟩:=hp _ rfl
    have hmn:m = none:=by
     unfold ainterp at he
     split at he <;> simp_all [RelO]
    subst hmn
    obtain ⟨hb,_⟩:=jQ2 (C:=C) (w:=w) (isSlice:=false) (len:=(strOf s).size) (cap:=(strOf s).size) hl hh hm he h0 (by simpa using h1) (by simp [jXg]; exact h2) (by simp) (Nat.le_refl _)
    refine ⟨rfl,rfl,NOk.of_run (v:=.string (strOf ((s.drop x.toNat).take (n.toNat - x.toNat)))) ?_ (str_part ⟨hs1,hs2⟩ _ _)⟩
    rw [hat]
    simp only [Option.map_none,Option.getD_none,Option.map_some,Option.getD_some,jXg] at hb
    simp [Instr.slice,run_underlying hu,jXg,hb,strOf_extract]
   ·cases hr
  ·cases hr
  ·
   rename_i tid hu hnsl
   split at hr
   ·rename_i e xs sz hl' hsz
    split at hr
    ·rename_i hc
     have hc':sz = e.cells:=by simpa [Nat.beq_eq] using hc
     have hrv:=asList_rv hx hl' (by intro k e; subst e; simp at hnsl)
     have hat:∀ v' w,(Instr.sliceAt t v' l h' m).run C.P w = (Instr.slice t v' l h' m).run C.P w:=by
      intro v' w; simp [Instr.sliceAt,run_underlying hu]
     split at hr
     ·have:=jQv hr; subst this
      obtain ⟨h0,h1⟩:=hp _ rfl
      obtain ⟨ad,cap,rfl,hlc,hcm,hout⟩:=jZz hrv hc' (l:=x.toNat) (n:=xs.length) (by omega) (Nat.le_refl _)
      obtain ⟨hb,_⟩:=jQ2 (C:=C) (w:=w) (isSlice:=true) (len:=xs.length) (cap:=cap) hl hh hm he h0 (by simpa using h1) (by simp) (by simp) hlc
      simp only [Option.map_none,Option.getD_none] at hb
      refine ⟨rfl,rfl,NOk.of_run (v:=_) ?_ (hout cap hlc (Nat.le_refl _))⟩
      rw [hat]
      simp [Instr.slice,run_underlying hu,hb,jQo hsz]
     ·rename_i n
      have:=jQv hr; subst this
      obtain ⟨h0,h1,h2⟩:=hp _ rfl
      have hn0:0 ≤ n:=Int.le_trans h0 h1
      obtain ⟨ad,cap,rfl,hlc,hcm,hout⟩:=jZz hrv hc' (l:=x.toNat) (n:=n.toNat) (by omega) (by omega)
      obtain ⟨hb,_⟩:=jQ2 (C:=C) (w:=w) (isSlice:=true) (len:=xs.length) (cap:=cap) hl hh hm he h0 (by simpa using h1) (by simp; omega) (by simp) hlc
      simp only [Option.map_none,Option.getD_none,Option.map_some,Option.getD_some] at hb
      refine ⟨rfl,rfl,NOk.of_run (v:=_) ?_ (hout cap (by omega) (Nat.le_refl _))⟩
      rw [hat]
      simp [Instr.slice,run_underlying hu,hb,jQo hsz]
     ·rename_i n m'
      have:=jQv hr; subst this
      obtain ⟨h0,h1,h2,h3⟩:=hp _ rfl
      subst h3
      have hn0:0 ≤ m':=Int.le_trans h0 h1
      obtain ⟨ad,cap,rfl,hlc,hcm,hout⟩:=jZz hrv hc' (l:=x.toNat) (n:=m'.toNat) (by omega) (by omega)
      obtain ⟨hb,_⟩:=jQ2 (C:=C) (w:=w) (isSlice:=true) (len:=xs.length) (cap:=cap) hl hh hm he h0 (by simpa using h1) (by simp) (by simp; omega) hlc
      simp only [Option.map_some,Option.getD_some] at hb
      have hlen:((xs.drop x.toNat).take (m'.toNat - x.toNat)).length = m'.toNat - x.toNat:=by simp; omega
      refine ⟨rfl,rfl,NOk.of_run (v:=_) ?_ ⟨_,by rw [hlen],hout m'.toNat (Nat.le_refl _) (by omega)⟩⟩
      rw [hat]
      simp [Instr.slice,run_underlying hu,hb,jQo hsz]
     ·cases hr
    ·cases hr
   ·cases hr
  ·cases hr
theorem sliceV_ok {t:TypeId} {k:Nat} {v:Value} {lo hi mx:Option AV} {l h' m:Option Value} {r:Out} (hI:InvH C.P B w0 Ψ β h w) (hx:RelV Ψ β (.sl k) v) (hl:RelO Ψ β lo l) (hh:RelO Ψ β hi h') (hm:RelO Ψ β mx m)
 (hr:asliceV C h t k lo hi mx = some r) (hp:∀ p,r.need = some p → p) :
 r.heap = h ∧ r.kill = none ∧ NOk C Ψ β w (Instr.sliceAt t v l h' m) r.v:=by
 unfold asliceV at hr
 split at hr
 ·rename_i x y he
  split at hr
  ·rename_i tid tid' e xs hu hg
   split at hr
   ·rename_i sz hsz
    split at hr
    ·have:=jQv hr; subst this
     obtain ⟨h0,h1,h2,h3⟩:=hp _ rfl
     rcases hI.blk k _ (jQc hg (by simp)) with ⟨ad,_,hxs⟩ | ⟨g,cap,cur,hβ,hz,hB,hcell,hlc,hcm,hcs,hd⟩
     ·subst hxs
      simp at h3
      omega
     ·have hv:=hx.1
      rw [hβ] at hv
      simp only [Option.some.injEq] at hv
      subst hv
      obtain ⟨hb,_⟩:=jQ2 (C:=C) (w:=w) (isSlice:=true) (len:=xs.length) (cap:=cap) hl hh hm he h0 (by cases y <;> simpa [endOf] using h1) (by
       intro n hn; subst hn; simp [endOf] at h2; simp; omega) (by simp) hlc
      simp only [Option.map_none,Option.getD_none] at hb
      have hat:∀ v' w,(Instr.sliceAt t v' l h' m).run C.P w = (Instr.slice t v' l h' m).run C.P w:=by
       intro v' w; simp [Instr.sliceAt,run_underlying hu]
      have hend:(y.map Int.toNat).getD xs.length = (endOf xs.length y).toNat:=by cases y <;> simp [endOf]
      rw [hend] at hb
      refine ⟨rfl,rfl,NOk.of_run (v:=.slice (some ⟨g,x.toNat * sz,none⟩) ((endOf xs.length y).toNat - x.toNat) (cap - x.toNat)) ?_ ⟨g,xs.length,cap,hβ,h0,h1,h2,rfl⟩⟩
      rw [hat]
      have hne:¬ cap = x.toNat:=by omega
      simp [Instr.slice,run_underlying hu,hb,jQo hsz,hne,Addr.add_lit]
    ·cases hr
   ·cases hr
  ·cases hr
 ·cases hr
theorem sliceO_ok {t:TypeId} {k off:Nat} {v:Value} {lo hi mx:Option AV} {l h' m:Option Value} {r:Out} (hx:RelV Ψ β (.own k off) v) (hl:RelO Ψ β lo l) (hh:RelO Ψ β hi h') (hm:RelO Ψ β mx m)
 (hr:asliceO C h t k off lo hi mx = some r) (hp:∀ p,r.need = some p → p) :
 r.heap = h ∧ r.kill = none ∧ NOk C Ψ β w (Instr.sliceAt t v l h' m) r.v:=by
 unfold asliceO at hr
 split at hr
 ·rename_i n et x y ha he
  split at hr
  ·rename_i sz hsz
   split at hr
   ·rename_i hc
    simp only [Bool.and_eq_true,Nat.beq_eq,Nat.ble_eq] at hc
    obtain ⟨⟨_,rfl⟩,hn⟩:=hc
    have:=jQv hr; subst this
    obtain ⟨h0,h1,h2,h3⟩:=hp _ rfl
    obtain ⟨g,hβ,rfl⟩:=hx
    obtain ⟨hb,_⟩:=jQ2 (C:=C) (w:=w) (isSlice:=false) (len:=n) (cap:=n) hl hh hm he h0 (by cases y <;> simpa [endOf] using h1) (by
     intro n' hn'; subst hn'; simp [endOf] at h2; simp; omega) (by simp) (Nat.le_refl _)
    simp only [Option.map_none,Option.getD_none] at hb
    have hend:(y.map Int.toNat).getD n = (endOf n y).toNat:=by cases y <;> simp [endOf]
    rw [hend] at hb
    have hne:¬ n = x.toNat:=by omega
    refine ⟨rfl,rfl,NOk.of_run (v:=.slice (some ⟨g,off + x.toNat,none⟩) ((endOf n y).toNat - x.toNat) (n - x.toNat)) ?_ ⟨g,hβ,h0,h1,h2,by simp [maxLen]; omega,rfl⟩⟩
    simp [Instr.sliceAt,run_underlying (jJq ha),Instr.sureAddr,hb,jQo hsz,hne,Addr.add]
   ·cases hr
  ·cases hr
 ·cases hr
theorem slice_ok {t:TypeId} {av:AV} {v:Value} {lo hi mx:Option AV} {l h' m:Option Value} {r:Out} (hI:InvH C.P B w0 Ψ β h w) (hx:RelV Ψ β av v) (hl:RelO Ψ β lo l) (hh:RelO Ψ β hi h') (hm:RelO Ψ β mx m)
 (hr:aslice C h t av lo hi mx = some r) (hp:∀ p,r.need = some p → p) :
 r.heap = h ∧ r.kill = none ∧ NOk C Ψ β w (Instr.sliceAt t v l h' m) r.v:=by
 unfold aslice at hr
 split at hr
 ·exact sliceO_ok hx hl hh hm hr hp
 ·exact sliceArr_ok hx hl hh hm hr
 ·rename_i k
  cases hv:C.views with
  | true=>rw [hv] at hr; exact sliceV_ok hI hx hl hh hm hr hp
  | false=>rw [hv] at hr; exact slice_ok0 hx hl hh hm hr hp
 ·exact slice_ok0 hx hl hh hm hr hp
end Go.AM
namespace Go.AM
open Go.RowKit
variable {B:Nat → Prop} {w0:World} {C:Ctx} {Ψ:Pr} {β:List Value} {h:List Blk} {w:World} {fr:List AV} {a:Act}
theorem jXc {t:TypeId} {ag:Bool} {n:Nat} (hl:C.lay t = some (ag,n)):C.size t = some n ∧ (∀ w,(isAgg t).run C.P w = .ok ag w) ∧ (ag = false → n = 1):=by
 unfold Ctx.lay at hl
 split at hl
 ·cases hl
 ·rename_i i hi
  have hs:C.size t = some i.size:=by simp [Ctx.size,hi]
  split at hl
  ·rename_i hu
   simp at hl
   obtain ⟨rfl,rfl⟩:=hl
   exact ⟨hs,fun w=>by simp [isAgg,run_underlying hu],by simp⟩
  ·rename_i hu
   simp at hl
   obtain ⟨rfl,rfl⟩:=hl
   exact ⟨hs,fun w=>by simp [isAgg,run_underlying hu],by simp⟩
  ·rename_i d h1 h2 hu
   split at hl
   ·rename_i hsz
    simp at hl
    obtain ⟨rfl,rfl⟩:=hl
    have hsz':i.size = 1:=by simpa [Nat.beq_eq] using hsz
    refine ⟨by rw [hs,hsz'],fun w=>?_,fun _=>rfl⟩
    cases d <;> simp [isAgg,run_underlying hu] <;> first | exact absurd rfl (h1 _) | exact absurd rfl (h2 _ _)
   ·cases hl
  ·cases hl
def valOf (ag:Bool) (us:List Value):Value:=if ag then .agg us.toArray else us.getD 0 undef
theorem jQt {t:TypeId} {ag:Bool} {n g off:Nat} {us:List Value} (hl:C.lay t = some (ag,n)) (hn:us.length = n)
 (hc:∀ j u,us[j]? = some u → w.cell? ⟨g,off + j,none⟩ = some u):(loadVar t ⟨g,off,none⟩).run C.P w = .ok (valOf ag us) w:=by
 obtain ⟨hs,ha,h1⟩:=jXc hl
 cases ag with
 | true =>
  have hlc:(loadCells ⟨g,off,none⟩ n).run C.P w = .ok us.toArray w:=by
   rw [← hn]
   exact run_loadCells_list w _ us (fun j u hj=>by rw [Addr.add_lit]; exact hc j u hj)
  simp [loadVar,ha,jQo hs,hlc,valOf]
 | false =>
  have:=h1 rfl
  subst this
  match us,hn with
  | [u],_ =>
   have h0:=hc 0 u rfl
   simp [loadVar,ha,valOf]
   rw [Nat.add_zero] at h0
   simp [h0]
theorem jZu {t:TypeId} {ad:Addr}:(Instr.loadAt t (.pointer (some ad))).run C.P w = (loadVar t ad).run C.P w:=by
 simp [Instr.loadAt,Instr.sureAddr]
theorem loadOwn_ok {t:TypeId} {cs:List AV} {off:Nat} {av:AV} {vs:List Value} (hl:loadOwn C t cs off = some av) (hr:RelL Ψ β cs vs) (h1:∀ u ∈ vs,u.oneCell' = true) :
 ∃ ag n,C.lay t = some (ag,n) ∧ off + n ≤ vs.length ∧ RelV Ψ β av (valOf ag ((vs.drop off).take n)):=by
 unfold loadOwn at hl
 split at hl
 ·rename_i sz hlay
  split at hl
  ·rename_i hle
   simp at hl
   subst hl
   have hle':off + sz ≤ vs.length:=by rw [jXl _ _ hr,← jQ5]; simpa [Nat.ble_eq] using hle
   refine ⟨true,sz,hlay,hle',⟨(vs.drop off).take sz,rfl,?_,fun u hu=>h1 u (List.mem_of_mem_drop (List.mem_of_mem_take hu))⟩⟩
   rw [takeN_eq,dropN_eq]
   exact jK0 _ _ _ (jK1 _ _ _ hr)
  ·cases hl
 ·rename_i sz hlay
  split at hl
  ·rename_i hle
   simp at hl
   subst hl
   have:=(jXc hlay).2.2 rfl
   subst this
   have hle':off + 1 ≤ vs.length:=by rw [jXl _ _ hr,← jQ5]; simpa [Nat.ble_eq] using hle
   refine ⟨false,1,hlay,hle',?_⟩
   have:=jQ7 _ _ hr off
   have e:valOf false ((vs.drop off).take 1) = vs.getD off undef:=by
    simp [valOf,List.getD_eq_getElem?_getD,List.getElem?_drop]
   rw [e]
   exact this
  ·cases hl
 ·cases hl
theorem jJh {t:Ty} {x:t.den} {us:List Value} (hr:reads Ψ t x us) {ag:Bool} (ha:ag = t.isAgg) (h1:ag = false → us.length = 1):RelV Ψ β (.d t x) (valOf ag us):=by
 refine ⟨us,hr,?_⟩
 subst ha
 cases hb:t.isAgg with
 | true=>simp [valOf]
 | false =>
  have:=h1 hb
  match us,this with
  | [u],_=>simp [valOf]
theorem own_blk {k:Nat} {cs:List AV} (hi:InvH C.P B w0 Ψ β h w) (hg:hget h k = .cells cs) {off:Nat} {v:Value} (hv:RelV Ψ β (.own k off) v) :
 ∃ g c e,β[k]? = some (.pointer (some ⟨g,0,none⟩)) ∧ v = .pointer (some ⟨g,off,none⟩) ∧ w.heap[g]? = some (.cells c e (0,0)) ∧ ¬ B g ∧ RelL Ψ β cs c.toList ∧ (∀ u ∈ c.toList,u.oneCell' = true):=by
 obtain ⟨g,hβ,rfl⟩:=hv
 obtain ⟨g',c,e,h1,h2,h3,h4,h5⟩:=hi.blk k _ (jQc hg (by simp))
 rw [hβ] at h1
 simp at h1
 subst h1
 exact ⟨g,c,e,hβ,rfl,h2,h3,h4,h5⟩
theorem jXe {g:Nat} {c:Array Value} {e:TypeId} {fz:Nat × Nat} (hh:w.heap[g]? = some (.cells c e fz)) (i:Nat):w.cell? ⟨g,i,none⟩ = c[i]?:=by
 simp [World.cell?,hh]
theorem slp_cells {k sz:Nat} {i:Int} {tid:TypeId} {e:Ty} {xs:List e.den} {v:Value} (hi:InvH C.P B w0 Ψ β h w) (hg:hget h k = .grow tid e xs) (hv:RelV Ψ β (.slp k sz i) v) (hsz:sz = e.cells) :
 ∃ g c cur,β[k]? = some (.slice (some ⟨g,0,none⟩) xs.length c) ∧ v = .pointer (some ⟨g,i.toNat * sz,none⟩) ∧ 0 ≤ i ∧ i.toNat < xs.length ∧ w.heap[g]? = some (.cells cur tid (0,0)) ∧
  xs.length ≤ c ∧ c ≤ maxLen ∧ c ≠ 0 ∧ ¬ B g ∧ cur.size = c * e.cells ∧ rdL (reads Ψ e) xs (cur.toList.take (xs.length * e.cells)):=by
 subst hsz
 obtain ⟨g,n,c,hβ,h0,h1,rfl⟩:=hv
 rcases hi.blk k _ (jQc hg (by simp)) with ⟨ad,hβ',_⟩ | ⟨g',cap,cur,hβ',hz,hB,hh,hn,hcm,hcs,hd⟩
 ·rw [hβ] at hβ'
  simp at hβ'
  omega
 ·rw [hβ] at hβ'
  simp at hβ'
  obtain ⟨rfl,rfl,rfl⟩:=hβ'
  exact ⟨g,c,cur,hβ,rfl,h0,by omega,hh,hn,hcm,hz,hB,hcs,hd⟩
theorem cast?_spec {t u:Ty} {x:t.den} {y:u.den} (hc:cast? t u x = some y):∃ e:t = u,y = e ▸ x:=by
 unfold cast? at hc
 split at hc
 ·rename_i e _
  exact ⟨e,by simpa using hc.symm⟩
 ·cases hc
def Reading (Ψ':Pr) (β:List Value) (h:List Blk) (ks:List Nat):Prop :=
 ∀ k ∈ ks,∀ (tid:TypeId) (e:Ty) (xs:List e.den),hget h k = .grow tid e xs → ∀ u:Value,β[k]? = some u → rv Ψ' (.arr e) xs u
theorem rv_mono {Ψ Ψ':Pr} (hle:PLe Ψ Ψ') {t:Ty} {x:t.den} {v:Value}:rv Ψ t x v → rv Ψ' t x v
 | ⟨cs,hc,e⟩=>⟨cs,jQg hle t x cs hc,e⟩
theorem asD1_rv {Ψ':Pr} (hle:PLe Ψ Ψ') {t:Ty} {x:t.den} {av:AV} {v:Value} (hd:asD1 h t av = some x) (hr:RelV Ψ β av v) (hk:Reading Ψ' β h (refs1 av)):rv Ψ' t x v:=by
 unfold asD1 at hd
 split at hd
 ·obtain ⟨rfl,rfl⟩:=cast?_spec hd
  exact rv_mono hle hr
 ·split at hd
  ·simp at hd; subst hd
   have:v = .bool true:=hr
   subst this
   exact ⟨_,rfl,rfl⟩
  ·cases hd
 ·split at hd
  ·simp at hd; subst hd
   have:v = .bool false:=hr
   subst this
   exact ⟨_,rfl,rfl⟩
  ·cases hd
 ·obtain ⟨rfl,rfl⟩:=cast?_spec hd
  exact rv_mono hle hr.choose_spec.2
 ·split at hd
  ·simp at hd; subst hd
   have:v = .slice none 0 0:=hr
   subst this
   exact ⟨_,⟨none,0,rfl,Nat.le_refl _,by simp [maxLen],.inl rfl⟩,rfl⟩
  ·cases hd
 ·rename_i k
  split at hd
  ·rename_i tid e xs hg
   obtain ⟨rfl,rfl⟩:=cast?_spec hd
   exact hk k (by simp [refs1]) _ _ _ hg v hr.1
  ·cases hd
 ·split at hd
  ·simp at hd; subst hd
   obtain ⟨vs,rfl,hl⟩:=hr
   simp only [RelL] at hl
   subst hl
   exact ⟨_,rfl,rfl⟩
  ·cases hd
 ·cases hd
theorem Reading.sub {Ψ':Pr} {ks ls:List Nat} (hk:Reading Ψ' β h ls) (hs:∀ k ∈ ks,k ∈ ls):Reading Ψ' β h ks:=fun k hm=>hk k (hs k hm)
theorem rv_one {Ψ':Pr} {t:Ty} {x:t.den} {v:Value} (hr:rv Ψ' t x v) (h1:v.oneCell' = true):reads Ψ' t x [v]:=by
 obtain ⟨cs,hc,e⟩:=hr
 cases ht:t.isAgg with
 | true=>rw [ht] at e; simp at e; subst e; simp [Value.oneCell'] at h1
 | false=>rw [ht] at e; simp at e; subst e; exact hc
theorem lenAV_eq (l:List AV):lenAV l = l.length:=by induction l <;> simp [lenAV, *]
theorem jZs {e:Ty} (hs:e.small = true):e.cells = 1 ∧ e.isAgg = false:=by
 unfold Ty.small at hs
 simpa [Nat.beq_eq] using hs
theorem asVec_rv {Ψ':Pr} (hle:PLe Ψ Ψ') {e:Ty}:∀ {xs:List e.den} {cs:List AV} {vs:List Value},asVec h e cs = some xs → RelL Ψ β cs vs → (∀ u ∈ vs,u.oneCell' = true) → Reading Ψ' β h (refsL cs) → xs.length = cs.length ∧ rdL (reads Ψ' e) xs vs
 | xs,[],vs,hd,hr,_,_=>by
  simp only [asVec,Option.some.injEq] at hd
  subst hd
  simp only [RelL] at hr
  subst hr
  exact ⟨rfl,rfl⟩
 | xs,c :: cs,vs,hd,hr,h1,hk=>by
  unfold asVec at hd
  split at hd
  ·rename_i y hy
   split at hd
   ·rename_i ys hys
    simp at hd
    subst hd
    obtain ⟨v,vs',rfl,hv,hl⟩:=hr
    obtain ⟨h2,h3⟩:=asVec_rv hle hys hl (fun u hu=>h1 u (by simp [hu])) (hk.sub fun k hm=>by simp [refsL]; exact .inr hm)
    exact ⟨by simp [h2],[v],vs',rfl,rv_one (asD1_rv hle hy hv (hk.sub fun k hm=>by simp [refsL,hm])) (h1 v (by simp)),h3⟩
   ·cases hd
  ·cases hd
theorem jKw {Ψ':Pr} (hle:PLe Ψ Ψ'):∀ {t:Ty} {x:t.den} {cs:List AV} {vs:List Value},jZi h t cs = some x → RelL Ψ β cs vs → (∀ u ∈ vs,u.oneCell' = true) → Reading Ψ' β h (refsL cs) → reads Ψ' t x vs
 | .pair ta tb,x,cs,vs,hd,hr,h1,hk=>by
  unfold jZi at hd
  split at hd
  ·rename_i y hy
   split at hd
   ·rename_i z hz
    simp at hd
    subst hd
    refine ⟨vs.take ta.cells,vs.drop ta.cells,(List.take_append_drop _ _).symm,?_,?_⟩
    ·refine jKw hle hy (by rw [takeN_eq]; exact jK0 _ _ _ hr) (fun u hu=>h1 u (List.mem_of_mem_take hu)) (hk.sub fun k hm=>?_)
     rw [takeN_eq] at hm
     exact refsL_take _ _ _ hm
    ·refine jKw hle hz (by rw [dropN_eq]; exact jK1 _ _ _ hr) (fun u hu=>h1 u (List.mem_of_mem_drop hu)) (hk.sub fun k hm=>?_)
     rw [dropN_eq] at hm
     exact refsL_drop _ _ _ hm
   ·cases hd
  ·cases hd
 | .rose ta tb,x,cs,vs,hd,hr,h1,hk=>by
  unfold jZi at hd
  split at hd
  ·rename_i y hy
   split at hd
   ·rename_i c rest hc
    split at hd
    ·rename_i ys hys
     split at hd
     ·rename_i z hz
      simp only [Option.some.injEq] at hd
      subst hd
      have hdrop:=jK1 ta.cells cs vs hr
      rw [dropN_eq] at hc
      rw [hc] at hdrop
      obtain ⟨v,vs',e,hv,hl⟩:=hdrop
      have hin:∀ k,k ∈ refsL (c :: rest) → k ∈ refsL cs:=fun k hm=>refsL_drop ta.cells cs k (by rw [hc]; exact hm)
      have hmem:∀ u,u ∈ v :: vs' → u ∈ vs:=fun u hu=>List.mem_of_mem_drop (by rw [e]; exact hu)
      refine (jZv _ _).2 ⟨vs.take ta.cells,v,vs',by rw [← e,List.take_append_drop],?_,?_,?_⟩
      ·refine jKw hle hy (by rw [takeN_eq]; exact jK0 _ _ _ hr) (fun u hu=>h1 u (List.mem_of_mem_take hu)) (hk.sub fun k hm=>?_)
       rw [takeN_eq] at hm
       exact refsL_take _ _ _ hm
      ·exact jKw hle hz hl (fun u hu=>h1 u (hmem u (List.mem_cons_of_mem _ hu))) (hk.sub fun k hm=>hin k (by simp [refsL,hm]))
      ·exact rv_one (asD1_rv hle hys hv (hk.sub fun k hm=>hin k (by simp [refsL,hm]))) (h1 v (hmem v List.mem_cons_self))
     ·cases hd
    ·cases hd
   ·cases hd
  ·cases hd
 | .unit,x,cs,vs,hd,hr,h1,hk=>by
  unfold jZi at hd
  split at hd
  ·simp only [RelL] at hr
   subst hr
   rfl
  ·cases hd
 | .vec n e,x,cs,vs,hd,hr,h1,hk=>by
  unfold jZi at hd
  split at hd
  ·rename_i hc
   simp only [Bool.and_eq_true,Nat.beq_eq,lenAV_eq] at hc
   obtain ⟨h2,h3⟩:=asVec_rv hle hd hr h1 hk
   exact ⟨by rw [h2]; exact hc.2,h3⟩
  ·cases hd
 | .int k,x,cs,vs,hd,hr,h1,hk=>one hle (by unfold jZi at hd; exact hd) hr h1 hk
 | .bool,x,cs,vs,hd,hr,h1,hk=>one hle (by unfold jZi at hd; exact hd) hr h1 hk
 | .fnc,x,cs,vs,hd,hr,h1,hk=>one hle (by unfold jZi at hd; exact hd) hr h1 hk
 | .any,x,cs,vs,hd,hr,h1,hk=>one hle (by unfold jZi at hd; exact hd) hr h1 hk
 | .str,x,cs,vs,hd,hr,h1,hk=>one hle (by unfold jZi at hd; exact hd) hr h1 hk
 | .arr e,x,cs,vs,hd,hr,h1,hk=>one hle (by unfold jZi at hd; exact hd) hr h1 hk
where
 one {Ψ':Pr} (hle:PLe Ψ Ψ') {t:Ty} {x:t.den} {cs:List AV} {vs:List Value} (hd:jXv h t cs = some x) (hr:RelL Ψ β cs vs) (h1:∀ u ∈ vs,u.oneCell' = true) (hk:Reading Ψ' β h (refsL cs)):reads Ψ' t x vs:=by
  unfold jXv at hd
  split at hd
  ·obtain ⟨v,vs',e,hv,hl⟩:=hr
   simp only [RelL] at hl
   subst hl e
   exact rv_one (asD1_rv hle hd hv (hk.sub fun k hm=>by simp [refsL,hm])) (h1 _ (by simp))
  ·cases hd
 refsL_take:∀ (n:Nat) (cs:List AV) (k:Nat),k ∈ refsL (cs.take n) → k ∈ refsL cs
  | 0,_,_,hm=>by simp [refsL] at hm
  | n + 1,[],_,hm=>by simpa using hm
  | n + 1,c :: cs,k,hm=>by
   simp only [List.take_succ_cons,refsL,List.mem_append] at hm ⊢
   exact hm.imp id (refsL_take n cs k)
 refsL_drop:∀ (n:Nat) (cs:List AV) (k:Nat),k ∈ refsL (cs.drop n) → k ∈ refsL cs
  | 0,_,_,hm=>by simpa using hm
  | n + 1,[],_,hm=>by simpa using hm
  | n + 1,c :: cs,k,hm=>by
   simp only [List.drop_succ_cons] at hm
   simp only [refsL,List.mem_append]
   exact .inr (refsL_drop n cs k hm)
theorem jKj {Ψ':Pr} (hle:PLe Ψ Ψ') {t:Ty} {x:t.den} {av:AV} {v:Value} (hd:asD h t av = some x) (hr:RelV Ψ β av v) (hk:Reading Ψ' β h (refs av)):rv Ψ' t x v:=by
 unfold asD at hd
 split at hd
 ·rename_i cs
  split at hd
  ·rename_i ha
   obtain ⟨vs,rfl,hl,h1⟩:=hr
   exact ⟨vs,jKw hle hd hl h1 hk,by rw [ha]; rfl⟩
  ·cases hd
 ·rename_i hn
  exact asD1_rv hle hd hr (by
   have:refs av = refs1 av:=by cases av <;> first | rfl | exact absurd rfl (hn _)
   rwa [this] at hk)
theorem Reading.nil {Ψ':Pr}:Reading Ψ' β h []:=fun _ hm=>by cases hm
theorem fieldOf_spec {t:TypeId} {f:Nat} {fd:Field} (hf:fieldOf C t f = some fd):∃ fs,C.P.underlying t = some (.struct fs) ∧ fs[f]? = some fd:=by
 unfold fieldOf at hf
 split at hf
 ·rename_i fs hu; exact ⟨fs,hu,hf⟩
 ·cases hf
theorem subD_rv:∀ {t:Ty} {x:t.den} {off sz:Nat} {ag:Bool} {av:AV} {cs:List Value},subD t x off sz ag = some av → reads Ψ t x cs →
 ∃ t' x',av = .d t' x' ∧ t'.isAgg = ag ∧ t'.cells = sz ∧ off + sz ≤ cs.length ∧ reads Ψ t' x' ((cs.drop off).take sz)
 | .pair a b,x,off,sz,ag,av,cs,hs,hr=>by
  obtain ⟨u,v,rfl,hu,hv⟩:=hr
  have lu:=jQa a _ _ hu
  have lv:=jQa b _ _ hv
  unfold subD at hs
  split at hs
  ·rename_i hc
   simp only [Bool.and_eq_true,Nat.beq_eq] at hc
   obtain ⟨⟨rfl,h2⟩,rfl⟩:=hc
   simp at hs
   subst hs
   refine ⟨_,_,rfl,rfl,by simp [Ty.cells,h2],by simp; omega,?_⟩
   rw [List.drop_zero,List.take_of_length_le (by simp; omega)]
   exact ⟨u,v,rfl,hu,hv⟩
  ·split at hs
   ·rename_i hc
    simp only [Nat.ble_eq] at hc
    obtain ⟨t',x',e,h1,h2,h3,h4⟩:=subD_rv hs hu
    refine ⟨t',x',e,h1,h2,by simp; omega,?_⟩
    rw [List.drop_append_of_le_length (by omega),List.take_append_of_le_length (by simp; omega)]
    exact h4
   ·split at hs
    ·rename_i hc
     simp only [Nat.ble_eq] at hc
     obtain ⟨t',x',e,h1,h2,h3,h4⟩:=subD_rv hs hv
     refine ⟨t',x',e,h1,h2,by simp; omega,?_⟩
     have:off = u.length + (off - a.cells):=by omega
     rw [this,jXn]
     exact h4
    ·cases hs
 | .rose a b,x,off,sz,ag,av,cs,hs,hr=>by
  obtain ⟨u,s,v,rfl,hu,hv,hy⟩:=(jZv x cs).1 hr
  have lu:=jQa a _ _ hu
  have lv:=jQa b _ _ hv
  unfold subD at hs
  split at hs
  ·rename_i hc
   simp only [Bool.and_eq_true,Nat.beq_eq] at hc
   obtain ⟨⟨rfl,h2⟩,rfl⟩:=hc
   simp at hs
   subst hs
   refine ⟨_,_,rfl,rfl,by simp [Ty.cells,h2],by simp; omega,?_⟩
   rw [List.drop_zero,List.take_of_length_le (by simp; omega)]
   exact hr
  ·split at hs
   ·rename_i hc
    simp only [Nat.ble_eq] at hc
    obtain ⟨t',x',e,h1,h2,h3,h4⟩:=subD_rv hs hu
    refine ⟨t',x',e,h1,h2,by simp; omega,?_⟩
    rw [List.drop_append_of_le_length (by omega),List.take_append_of_le_length (by simp; omega)]
    exact h4
   ·split at hs
    ·rename_i hc
     simp only [Bool.and_eq_true,Nat.beq_eq,Bool.not_eq_true'] at hc
     obtain ⟨⟨rfl,rfl⟩,rfl⟩:=hc
     simp at hs
     subst hs
     refine ⟨_,_,rfl,rfl,rfl,by simp; omega,?_⟩
     rw [← lu,List.drop_left]
     exact hy
    ·split at hs
     ·rename_i hc
      simp only [Nat.ble_eq] at hc
      obtain ⟨t',x',e,h1,h2,h3,h4⟩:=subD_rv hs hv
      refine ⟨t',x',e,h1,h2,by simp; omega,?_⟩
      have:off = u.length + ((off - (a.cells + 1)) + 1):=by omega
      rw [this,jXn,List.drop_succ_cons]
      exact h4
     ·cases hs
 | .int k,x,off,sz,ag,av,cs,hs,hr=>subD_rv.leaf hs hr
 | .bool,x,off,sz,ag,av,cs,hs,hr=>subD_rv.leaf hs hr
 | .fnc,x,off,sz,ag,av,cs,hs,hr=>subD_rv.leaf hs hr
 | .any,x,off,sz,ag,av,cs,hs,hr=>subD_rv.leaf hs hr
 | .str,x,off,sz,ag,av,cs,hs,hr=>subD_rv.leaf hs hr
 | .arr _,x,off,sz,ag,av,cs,hs,hr=>subD_rv.leaf hs hr
 | .vec _ _,x,off,sz,ag,av,cs,hs,hr=>subD_rv.leaf hs hr
 | .unit,x,off,sz,ag,av,cs,hs,hr=>subD_rv.leaf hs hr
where
 leaf {t:Ty} {x:t.den} {off sz:Nat} {ag:Bool} {av:AV} {cs:List Value} (hs:(if Nat.beq off 0 && Nat.beq t.cells sz && (t.isAgg == ag) then some (AV.d t x) else none) = some av) (hr:reads Ψ t x cs) :
  ∃ t' x',av = .d t' x' ∧ t'.isAgg = ag ∧ t'.cells = sz ∧ off + sz ≤ cs.length ∧ reads Ψ t' x' ((cs.drop off).take sz):=by
  have lc:=jQa t _ _ hr
  split at hs
  ·rename_i hc
   simp only [Bool.and_eq_true,Nat.beq_eq,beq_iff_eq] at hc
   obtain ⟨⟨rfl,h2⟩,h3⟩:=hc
   simp at hs
   subst hs
   refine ⟨t,x,rfl,h3,h2,by omega,?_⟩
   rw [List.drop_zero,List.take_of_length_le (by omega)]
   exact hr
  ·cases hs
theorem peel_rv (off:Nat) {t:Ty} {x:t.den} {cs:List Value} (hr:reads Ψ t x cs):∃ t' x',peel off (.d t x) = .d t' x' ∧ t'.isAgg = t.isAgg ∧ t'.cells = t.cells ∧ reads Ψ t' x' cs:=by
 unfold peel
 split
 ·rename_i a y heq
  simp only [AV.d.injEq] at heq
  obtain ⟨rfl,heq⟩:=heq
  cases heq
  cases hc:(Nat.ble 1 off && a.isAgg)
  ·exact ⟨_,_,rfl,rfl,rfl,hr⟩
  ·simp only [Bool.and_eq_true] at hc
   obtain ⟨u,v,rfl,hu,hv⟩:=hr
   have hv:v = []:=hv
   subst hv
   refine ⟨a,_,rfl,hc.2,by simp [Ty.cells],?_⟩
   rw [List.append_nil]
   exact hu
 ·exact ⟨_,_,rfl,rfl,rfl,hr⟩
theorem jZ9 {t:Ty} {x:t.den} {off sz:Nat} {ag:Bool} {av:AV} {cs:List Value} (hs:subP t x off sz ag = some av) (hr:reads Ψ t x cs) :
 ∃ t' x',av = .d t' x' ∧ t'.isAgg = ag ∧ t'.cells = sz ∧ off + sz ≤ cs.length ∧ reads Ψ t' x' ((cs.drop off).take sz):=by
 unfold subP at hs
 split at hs
 ·rename_i v hv
  obtain ⟨t',x',rfl,h1,h2,h3,h4⟩:=subD_rv hv hr
  obtain ⟨t2,x2,e,k1,k2,k4⟩:=peel_rv off h4
  simp only [Option.some.injEq] at hs
  rw [e] at hs
  exact ⟨t2,x2,hs.symm,k1.trans h1,k2.trans h2,h3,k4⟩
 ·cases hs
theorem run_part {t:TypeId} {ag:Bool} {n off:Nat} {vs:List Value} (hl:C.lay t = some (ag,n)) (hle:off + n ≤ vs.length) :
 (part t vs.toArray off).run C.P w = .ok (valOf ag ((vs.drop off).take n)) w:=by
 obtain ⟨hs,ha,h1⟩:=jXc hl
 cases ag with
 | true =>
  simp [part,ha,jQo hs,valOf]
 | false =>
  have:=h1 rfl
  subst this
  have hlt:off < vs.length:=by omega
  simp [part,ha,valOf,List.getElem?_eq_getElem hlt,List.getD_eq_getElem?_getD,List.getElem?_drop]
theorem field_ok {t:TypeId} {f:Nat} {av:AV} {v:Value} {r:Out} (hx:RelV Ψ β av v) (hr:afield C h t av f = some r) :
 r.heap = h ∧ r.kill = none ∧ r.need = none ∧ NOk C Ψ β w (Instr.field t v f) r.v:=by
 unfold afield at hr
 split at hr
 ·rename_i fd hfd
  obtain ⟨fs,hu,hfs⟩:=fieldOf_spec hfd
  split at hr
  ·rename_i ag sz hlay
   split at hr
   ·rename_i cs
    split at hr
    ·rename_i v' hl
     have:=jQd hr; subst this
     obtain ⟨vs,rfl,hrel,h1⟩:=hx
     obtain ⟨ag',n,hlay',hle,hrv⟩:=loadOwn_ok hl hrel h1
     refine ⟨rfl,rfl,rfl,NOk.of_run ?_ hrv⟩
     have hp:=run_part (w:=w) hlay' hle
     simp [Instr.field,run_underlying hu,hfs,asAgg,hp]
    ·cases hr
   ·rename_i u y
    split at hr
    ·rename_i hag
     split at hr
     ·rename_i v' hsub
      have:=jQd hr; subst this
      obtain ⟨cs,hcs,e⟩:=hx
      rw [hag] at e
      simp at e
      subst e
      obtain ⟨t',x',rfl,h1,h2,h3,h4⟩:=jZ9 hsub hcs
      refine ⟨rfl,rfl,rfl,NOk.of_run ?_ (jJh h4 h1.symm (fun hf=>?_))⟩
      ·have hp:=run_part (w:=w) hlay h3
       simp [Instr.field,run_underlying hu,hfs,asAgg,hp]
      ·have:=(jXc hlay).2.2 hf
       rw [jQa t' _ _ h4]
       omega
     ·cases hr
    ·cases hr
   ·cases hr
  ·cases hr
 ·cases hr
theorem fieldAddr_ok {t:TypeId} {f:Nat} {av:AV} {v:Value} {r:Out} (hx:RelV Ψ β av v) (hr:jKy C h t av f = some r) :
 r.heap = h ∧ r.kill = none ∧ r.need = none ∧ NOk C Ψ β w (Instr.fieldAt t v f) r.v:=by
 unfold jKy at hr
 split at hr
 ·rename_i fd hfd
  obtain ⟨fs,hu,hfs⟩:=fieldOf_spec hfd
  split at hr
  ·rename_i ag sz hlay
   split at hr
   ·rename_i k off
    split at hr
    ·rename_i hsz
     have hs:=jQo (jXc hlay).1
     have hsz':sz ≠ 0:=by simp only [Nat.ble_eq] at hsz; omega
     have:=jQd hr; subst this
     obtain ⟨g,hβ,rfl⟩:=hx
     refine ⟨rfl,rfl,rfl,NOk.of_run (v:=.pointer (some ⟨g,off + fd.offset,none⟩)) ?_ ⟨g,hβ,rfl⟩⟩
     simp [Instr.fieldAt,run_underlying hu,hfs,Instr.sureAddr,fieldPlace,Addr.add_lit,hs,hsz']
    ·cases hr
   ·rename_i k z i
    split at hr
    ·rename_i hc
     simp only [Bool.and_eq_true,Nat.ble_eq] at hc
     have hs:=jQo (w:=w) (jXc hlay).1
     have hsz':sz ≠ 0:=by omega
     have:=jQd hr; subst this
     obtain ⟨g,n,c,hβ,h0,h1,rfl⟩:=hx
     refine ⟨rfl,rfl,rfl,NOk.of_run (v:=.pointer (some ⟨g,i.toNat * z + fd.offset,none⟩)) ?_ ⟨g,n,c,hβ,h0,h1,by omega,rfl⟩⟩
     simp [Instr.fieldAt,run_underlying hu,hfs,Instr.sureAddr,fieldPlace,Addr.add_lit,hs,hsz']
    ·cases hr
   ·rename_i k z i off
    split at hr
    ·rename_i hc
     simp only [Bool.and_eq_true,Nat.ble_eq] at hc
     have hs:=jQo (w:=w) (jXc hlay).1
     have hsz':sz ≠ 0:=by omega
     have:=jQd hr; subst this
     obtain ⟨g,n,c,hβ,h0,h1,h2,rfl⟩:=hx
     refine ⟨rfl,rfl,rfl,NOk.of_run (v:=.pointer (some ⟨g,i.toNat * z + (off + fd.offset),none⟩)) ?_ ⟨g,n,c,hβ,h0,h1,by omega,rfl⟩⟩
     simp [Instr.fieldAt,run_underlying hu,hfs,Instr.sureAddr,fieldPlace,Addr.add_lit,hs,hsz',Nat.add_assoc]
    ·cases hr
   ·rename_i u y
    split at hr
    ·rename_i hsz
     have hs:=jQo (jXc hlay).1
     have hsz':sz ≠ 0:=by simp only [Nat.ble_eq] at hsz; omega
     split at hr
     ·rename_i u' y' hsub
      have:=jQd hr; subst this
      obtain ⟨g,off,cs,rfl,hcs,hp⟩:=hx
      obtain ⟨t',x',e,h1,h2,h3,h4⟩:=jZ9 hsub hcs
      simp only [AV.d.injEq] at e
      obtain ⟨rfl,e⟩:=e
      cases e
      refine ⟨rfl,rfl,rfl,NOk.of_run (v:=.pointer (some ⟨g,off + fd.offset,none⟩)) ?_ ⟨g,off + fd.offset,_,rfl,h4,fun j u hj=>?_⟩⟩
      ·simp [Instr.fieldAt,run_underlying hu,hfs,Instr.sureAddr,fieldPlace,Addr.add_lit,hs,hsz']
      ·have:=hp _ _ (jQs hj)
       rwa [← Nat.add_assoc] at this
     ·cases hr
    ·cases hr
   ·cases hr
  ·cases hr
 ·cases hr
theorem fieldAddr_pure {t:TypeId} {f:Nat} {av:AV} {v:Value} {r:Out} (hx:RelV Ψ β av v) (hr:jKy C h t av f = some r) :
 ∃ v',(∀ w,(Instr.fieldAt t v f).run C.P w = .ok v' w) ∧ RelV Ψ β r.v v':=by
 unfold jKy at hr
 split at hr
 ·rename_i fd hfd
  obtain ⟨fs,hu,hfs⟩:=fieldOf_spec hfd
  split at hr
  ·rename_i ag sz hlay
   split at hr
   ·rename_i k off
    split at hr
    ·rename_i hsz
     have hsz':sz ≠ 0:=by simp only [Nat.ble_eq] at hsz; omega
     have:=jQd hr; subst this
     obtain ⟨g,hβ,rfl⟩:=hx
     refine ⟨.pointer (some ⟨g,off + fd.offset,none⟩),fun w=>?_,⟨g,hβ,rfl⟩⟩
     have hs:=jQo (w:=w) (jXc hlay).1
     simp [Instr.fieldAt,run_underlying hu,hfs,Instr.sureAddr,fieldPlace,Addr.add_lit,hs,hsz']
    ·cases hr
   ·rename_i k z i
    split at hr
    ·rename_i hc
     simp only [Bool.and_eq_true,Nat.ble_eq] at hc
     have hsz':sz ≠ 0:=by omega
     have:=jQd hr; subst this
     obtain ⟨g,n,c,hβ,h0,h1,rfl⟩:=hx
     refine ⟨.pointer (some ⟨g,i.toNat * z + fd.offset,none⟩),fun w=>?_,⟨g,n,c,hβ,h0,h1,by omega,rfl⟩⟩
     have hs:=jQo (w:=w) (jXc hlay).1
     simp [Instr.fieldAt,run_underlying hu,hfs,Instr.sureAddr,fieldPlace,Addr.add_lit,hs,hsz']
    ·cases hr
   ·rename_i k z i off
    split at hr
    ·rename_i hc
     simp only [Bool.and_eq_true,Nat.ble_eq] at hc
     have hsz':sz ≠ 0:=by omega
     have:=jQd hr; subst this
     obtain ⟨g,n,c,hβ,h0,h1,h2,rfl⟩:=hx
     refine ⟨.pointer (some ⟨g,i.toNat * z + (off + fd.offset),none⟩),fun w=>?_,⟨g,n,c,hβ,h0,h1,by omega,rfl⟩⟩
     have hs:=jQo (w:=w) (jXc hlay).1
     simp [Instr.fieldAt,run_underlying hu,hfs,Instr.sureAddr,fieldPlace,Addr.add_lit,hs,hsz',Nat.add_assoc]
    ·cases hr
   ·rename_i u y
    split at hr
    ·rename_i hsz
     have hsz':sz ≠ 0:=by simp only [Nat.ble_eq] at hsz; omega
     split at hr
     ·rename_i u' y' hsub
      have:=jQd hr; subst this
      obtain ⟨g,off,cs,rfl,hcs,hp⟩:=hx
      obtain ⟨t',x',e,h1,h2,h3,h4⟩:=jZ9 hsub hcs
      simp only [AV.d.injEq] at e
      obtain ⟨rfl,e⟩:=e
      cases e
      refine ⟨.pointer (some ⟨g,off + fd.offset,none⟩),fun w=>?_,⟨g,off + fd.offset,_,rfl,h4,fun j u hj=>?_⟩⟩
      ·have hs:=jQo (w:=w) (jXc hlay).1
       simp [Instr.fieldAt,run_underlying hu,hfs,Instr.sureAddr,fieldPlace,Addr.add_lit,hs,hsz']
      ·have:=hp _ _ (jQs hj)
       rwa [← Nat.add_assoc] at this
     ·cases hr
    ·cases hr
   ·cases hr
  ·cases hr
 ·cases hr
theorem subX_rv:∀ {t:Ty} {x:t.den} {off sz:Nat} {ag:Bool} {av:AV} {cs:List Value},subX t x off sz ag = some av → reads Ψ t x cs →
 ∃ t' x',av = .d t' x' ∧ t'.isAgg = ag ∧ t'.cells = sz ∧ off + sz ≤ cs.length ∧ reads Ψ t' x' ((cs.drop off).take sz)
 | .pair a b,x,off,sz,ag,av,cs,hs,hr=>by
  unfold subX at hs
  split at hs
  ·rename_i v hv
   simp only [Option.some.injEq] at hs
   subst hs
   exact jZ9 hv hr
  ·obtain ⟨u,v,rfl,hu,hv⟩:=hr
   have lu:=jQa a _ _ hu
   have lv:=jQa b _ _ hv
   split at hs
   ·rename_i hc
    simp only [Nat.ble_eq] at hc
    obtain ⟨t',x',e,h1,h2,h3,h4⟩:=subX_rv hs hu
    refine ⟨t',x',e,h1,h2,by simp; omega,?_⟩
    rw [List.drop_append_of_le_length (by omega),List.take_append_of_le_length (by simp; omega)]
    exact h4
   ·split at hs
    ·rename_i hc
     simp only [Nat.ble_eq] at hc
     obtain ⟨t',x',e,h1,h2,h3,h4⟩:=subX_rv hs hv
     refine ⟨t',x',e,h1,h2,by simp; omega,?_⟩
     have:off = u.length + (off - a.cells):=by omega
     rw [this,jXn]
     exact h4
    ·cases hs
 | .vec n e,x,off,sz,ag,av,cs,hs,hr=>by
  unfold subX at hs
  split at hs
  ·rename_i v hv
   simp only [Option.some.injEq] at hs
   subst hs
   exact jZ9 hv hr
  ·split at hs
   ·rename_i hc
    simp only [Bool.and_eq_true,Nat.ble_eq] at hc
    obtain ⟨hsm,hle⟩:=hc
    obtain ⟨he1,he2⟩:=jZs hsm
    obtain ⟨hl,hd⟩:=hr
    have lc:=jZ2 (jQa e) _ _ hd
    rw [he1,Nat.mul_one] at lc
    have hd':=jJv (jQa e) _ _ sz (jJw (jQa e) _ _ off hd)
    rw [he1,Nat.mul_one,Nat.mul_one] at hd'
    cases ag with
    | true =>
     simp only [cond_true,Option.some.injEq] at hs
     subst hs
     refine ⟨_,_,rfl,rfl,by simp [Ty.cells,he1],by omega,⟨?_,hd'⟩⟩
     simp; omega
    | false =>
     simp only [cond_false] at hs
     cases hb:Nat.beq sz 1 with
     | false=>rw [hb] at hs; cases hs
     | true =>
      rw [hb] at hs
      simp only [cond_true,Option.some.injEq] at hs
      subst hs
      have hsz:sz = 1:=by simpa [Nat.beq_eq] using hb
      subst hsz
      have hlt:off < List.length (α:=e.den) x:=by rw [hl]; omega
      obtain ⟨us,hus,hget⟩:=rdL_get (jQa e) _ _ hd off _ (List.getElem?_eq_getElem hlt)
      have hul:us.length = 1:=by rw [jQa e _ _ hus,he1]
      refine ⟨e,_,rfl,he2,he1,by omega,?_⟩
      rw [List.getD_eq_getElem?_getD,List.getElem?_eq_getElem hlt,Option.getD_some]
      match us,hul with
      | [u],_ =>
       have h0:=hget 0 u rfl
       rw [he1,Nat.mul_one,Nat.add_zero] at h0
       have:(cs.drop off).take 1 = [u]:=by
        rw [List.take_one]
        simp [List.head?_drop,h0]
       rw [this]
       exact hus
   ·cases hs
 | .rose _ _,x,off,sz,ag,av,cs,hs,hr=>jZ9 hs hr
 | .int k,x,off,sz,ag,av,cs,hs,hr=>jZ9 hs hr
 | .bool,x,off,sz,ag,av,cs,hs,hr=>jZ9 hs hr
 | .fnc,x,off,sz,ag,av,cs,hs,hr=>jZ9 hs hr
 | .any,x,off,sz,ag,av,cs,hs,hr=>jZ9 hs hr
 | .str,x,off,sz,ag,av,cs,hs,hr=>jZ9 hs hr
 | .arr _,x,off,sz,ag,av,cs,hs,hr=>jZ9 hs hr
 | .unit,x,off,sz,ag,av,cs,hs,hr=>jZ9 hs hr
theorem vecAt_rv:∀ {t:Ty} {x:t.den} {off n:Nat} {e:Ty} {xs:List e.den} {cs:List Value},vecAt t x off n = some ⟨e,xs⟩ → reads Ψ t x cs →
 e.small = true ∧ xs.length = n ∧ off + n ≤ cs.length ∧ rdL (reads Ψ e) xs ((cs.drop off).take n)
 | .pair a b,x,off,n,e,xs,cs,hs,hr=>by
  obtain ⟨u,v,rfl,hu,hv⟩:=hr
  have lu:=jQa a _ _ hu
  have lv:=jQa b _ _ hv
  unfold vecAt at hs
  split at hs
  ·rename_i hc
   simp only [Nat.ble_eq] at hc
   obtain ⟨h1,h2,h3,h4⟩:=vecAt_rv hs hu
   refine ⟨h1,h2,by simp; omega,?_⟩
   rw [List.drop_append_of_le_length (by omega),List.take_append_of_le_length (by simp; omega)]
   exact h4
  ·split at hs
   ·rename_i hc
    simp only [Nat.ble_eq] at hc
    obtain ⟨h1,h2,h3,h4⟩:=vecAt_rv hs hv
    refine ⟨h1,h2,by simp; omega,?_⟩
    have:off = u.length + (off - a.cells):=by omega
    rw [this,jXn]
    exact h4
   ·cases hs
 | .vec m e',x,off,n,e,xs,cs,hs,hr=>by
  unfold vecAt at hs
  split at hs
  ·rename_i hc
   simp only [Bool.and_eq_true,Nat.beq_eq] at hc
   obtain ⟨⟨rfl,rfl⟩,hsm⟩:=hc
   simp only [Option.some.injEq,Sigma.mk.injEq] at hs
   obtain ⟨rfl,hs⟩:=hs
   cases hs
   obtain ⟨hl,hd⟩:=hr
   have lc:=jZ2 (jQa e') _ _ hd
   rw [(jZs hsm).1,Nat.mul_one,hl] at lc
   refine ⟨hsm,hl,by omega,?_⟩
   rw [List.drop_zero,List.take_of_length_le (by omega)]
   exact hd
  ·cases hs
 | .rose _ _,x,off,sz,ag,av,cs,hs,hr=>by cases hs
 | .int k,x,off,sz,ag,av,cs,hs,hr=>by cases hs
 | .bool,x,off,sz,ag,av,cs,hs,hr=>by cases hs
 | .fnc,x,off,sz,ag,av,cs,hs,hr=>by cases hs
 | .any,x,off,sz,ag,av,cs,hs,hr=>by cases hs
 | .str,x,off,sz,ag,av,cs,hs,hr=>by cases hs
 | .arr _,x,off,sz,ag,av,cs,hs,hr=>by cases hs
 | .unit,x,off,sz,ag,av,cs,hs,hr=>by cases hs
theorem rdL_intsI {k:IntKind}:∀ {l:List Int},(∀ c ∈ l,k.has c) → rdL (reads Ψ (.int k)) l (l.map (Value.int k))
 | [],_=>rfl
 | c :: l,h=>⟨[.int k c],l.map (Value.int k),rfl,⟨rfl,h c (List.mem_cons_self ..)⟩,rdL_intsI fun d hd=>h d (List.mem_cons_of_mem _ hd)⟩
theorem gdatL_has:∀ c ∈ gdatL,IntKind.u32.has c:=by
 have h:(gdatL.all fun c=>decide (0 ≤ c ∧ c ≤ 4294967295)) = true:=by decide +kernel
 intro c hc
 have:=List.all_eq_true.1 h c hc
 have:=of_decide_eq_true this
 unfold IntKind.has
 simp [IntKind.min,IntKind.max,IntKind.bits,IntKind.signed]
 omega
theorem dat_blk {k:Nat} {t:Ty} {x:t.den} (hi:InvH C.P B w0 Ψ β h w) (hg:hget h k = .dat t x) {off:Nat} {v:Value} (hv:RelV Ψ β (.own k off) v) :
 ∃ g c e,β[k]? = some (.pointer (some ⟨g,0,none⟩)) ∧ v = .pointer (some ⟨g,off,none⟩) ∧ w.heap[g]? = some (.cells c e (0,0)) ∧ ¬ B g ∧ reads Ψ t x c.toList:=by
 obtain ⟨g,hβ,rfl⟩:=hv
 obtain ⟨g',c,e,h1,h2,h3,h4⟩:=hi.blk k _ (jQc hg (by simp))
 rw [hβ] at h1
 simp at h1
 subst h1
 exact ⟨g,c,e,hβ,rfl,h2,h3,h4⟩
theorem oix_blk {k off n:Nat} {i:Int} {t:Ty} {x:t.den} (hi:InvH C.P B w0 Ψ β h w) (hg:hget h k = .dat t x) {v:Value} (hv:RelV Ψ β (.oix k off n i) v) :
 ∃ g c e,0 ≤ i ∧ i < (n:Int) ∧ v = .pointer (some ⟨g,off + i.toNat,none⟩) ∧ w.heap[g]? = some (.cells c e (0,0)) ∧ ¬ B g ∧ reads Ψ t x c.toList:=by
 obtain ⟨g,hβ,h0,h1,rfl⟩:=hv
 obtain ⟨g',c,e,h1',h2,h3,h4⟩:=hi.blk k _ (jQc hg (by simp))
 rw [hβ] at h1'
 simp at h1'
 subst h1'
 exact ⟨g,c,e,h0,h1,rfl,h2,h3,h4⟩
theorem slpf_cells {k sz:Nat} {i:Int} {off:Nat} {tid:TypeId} {e:Ty} {xs:List e.den} {v:Value} (hi:InvH C.P B w0 Ψ β h w) (hg:hget h k = .grow tid e xs) (hv:RelV Ψ β (.slpf k sz i off) v) (hsz:sz = e.cells) :
 ∃ g c cur,β[k]? = some (.slice (some ⟨g,0,none⟩) xs.length c) ∧ v = .pointer (some ⟨g,i.toNat * sz + off,none⟩) ∧ 0 ≤ i ∧ i.toNat < xs.length ∧ w.heap[g]? = some (.cells cur tid (0,0)) ∧
  xs.length ≤ c ∧ c ≤ maxLen ∧ c ≠ 0 ∧ ¬ B g ∧ cur.size = c * e.cells ∧ rdL (reads Ψ e) xs (cur.toList.take (xs.length * e.cells)):=by
 obtain ⟨g,n,c,hβ,h0,h1,_,rfl⟩:=hv
 obtain ⟨g',c',cur,k1,k2,k3,k4,k5⟩:=slp_cells (v:=.pointer (some ⟨g,i.toNat * sz,none⟩)) hi hg ⟨g,n,c,hβ,h0,h1,rfl⟩ hsz
 have k1':=k1
 rw [hβ] at k1'
 simp at k1'
 obtain ⟨rfl,_,rfl⟩:=k1'
 exact ⟨g,c,cur,k1,rfl,k3,k4,k5⟩
theorem load_ok {t:TypeId} {av:AV} {v:Value} {r:Out} (hi:InvH C.P B w0 Ψ β h w) (hx:RelV Ψ β av v) (hr:aload C h t av = some r) :
 r.heap = h ∧ r.kill = none ∧ r.need = none ∧ NOk C Ψ β w (Instr.loadAt t v) r.v:=by
 unfold aload at hr
 split at hr
 ·
  rename_i k off
  split at hr
  ·rename_i cs hg
   split at hr
   ·rename_i av' hl
    have:=jQd hr; subst this
    obtain ⟨g,c,e,hβ,rfl,hh,hB,hrel,h1⟩:=own_blk hi hg hx
    obtain ⟨ag,n,hlay,hle,hrv⟩:=loadOwn_ok hl hrel h1
    refine ⟨rfl,rfl,rfl,NOk.of_run ?_ hrv⟩
    rw [jZu]
    refine jQt hlay (by simp; simp at hle; omega) (fun j u hj=>?_)
    rw [jXe hh]
    have:=jQs hj
    simpa using this
   ·cases hr
  ·
   rename_i u x hg
   split at hr
   ·rename_i ag n hlay
    split at hr
    ·rename_i v' hsub
     have:=jQd hr; subst this
     obtain ⟨g,c,e,hβ,rfl,hh,hB,hrd⟩:=dat_blk hi hg hx
     obtain ⟨t',x',rfl,h1,h2,h3,h4⟩:=subX_rv hsub hrd
     refine ⟨rfl,rfl,rfl,NOk.of_run ?_ (jJh h4 h1.symm (fun hf=>?_))⟩
     ·rw [jZu]
      refine jQt hlay (by simp; simp at h3; omega) (fun j u hj=>?_)
      rw [jXe hh]
      have:=jQs hj
      simpa using this
     ·have:=(jXc hlay).2.2 hf
      rw [jQa t' _ _ h4]
      omega
    ·cases hr
   ·cases hr
  ·cases hr
 ·
  rename_i k off m i
  split at hr
  ·rename_i u x sz hg hlay
   split at hr
   ·rename_i e xs hv
    have:=jQd hr; subst this
    obtain ⟨g,c,e',h0,h1,rfl,hh,hB,hrd⟩:=oix_blk hi hg hx
    obtain ⟨hsm,hlen,hle,hd⟩:=vecAt_rv hv hrd
    obtain ⟨he1,he2⟩:=jZs hsm
    have hlt:i.toNat < xs.length:=by omega
    obtain ⟨us,hus,hget⟩:=rdL_get (jQa e) _ _ hd i.toNat xs[i.toNat] (List.getElem?_eq_getElem hlt)
    have hD:xs.getD i.toNat (dflt e) = xs[i.toNat]:=by simp [List.getD_eq_getElem?_getD,List.getElem?_eq_getElem hlt]
    have hul:us.length = 1:=by rw [jQa e _ _ hus,he1]
    have hs1:=(jXc hlay).2.2 rfl
    refine ⟨rfl,rfl,rfl,NOk.of_run ?_ (by rw [hD]; exact jJh hus he2.symm (fun _=>hul))⟩
    rw [jZu]
    refine jQt hlay (by omega) (fun j u hj=>?_)
    rw [jXe hh]
    have:=hget j u hj
    rw [he1,Nat.mul_one] at this
    have:=jQs this
    rw [← Nat.add_assoc] at this
    simpa using this
   ·cases hr
  ·cases hr
 ·
  rename_i g
  split at hr
  ·rename_i n hlay
   split at hr
   ·rename_i hc
    simp only [Bool.and_eq_true,Nat.beq_eq] at hc
    obtain ⟨rfl,hg⟩:=hc
    have:=jQd hr; subst this
    have hv:v = .pointer (some ⟨g,0,none⟩):=hx
    subst hv
    refine ⟨rfl,rfl,rfl,NOk.of_run ?_ (jJh (us:=gdatL.map (Value.int .u32)) (show reads Ψ (.vec 64 (.int .u32)) gdatL _ from ⟨by decide,rdL_intsI gdatL_has⟩) rfl (fun hf=>by cases hf))⟩
    rw [jZu]
    refine jQt hlay (by decide) (fun j u hj=>?_)
    rw [List.getElem?_map] at hj
    cases hn:gdatL[j]? with
    | none=>rw [hn] at hj; cases hj
    | some n =>
     rw [hn] at hj
     simp only [Option.map_some,Option.some.injEq] at hj
     subst hj
     have:=Pm_plain (a:=⟨g,j,none⟩) rfl (hi.prom _ _ (hi.glob.1 g hg j n hn))
     rwa [Nat.zero_add]
   ·cases hr
  ·cases hr
 ·
  rename_i k sz i off
  split at hr
  ·rename_i tid e xs hg
   split at hr
   ·rename_i ag n hlay
    split at hr
    ·rename_i hc
     simp only [Nat.beq_eq] at hc
     split at hr
     ·rename_i v' hsub
      have:=jQd hr; subst this
      obtain ⟨g,c,cur,hβ,rfl,h0,hlt,hh,_,_,_,_,_,hd⟩:=slpf_cells hi hg hx hc
      obtain ⟨us,hus,hget⟩:=rdL_get (jQa e) _ _ hd i.toNat xs[i.toNat] (List.getElem?_eq_getElem hlt)
      have hD:xs.getD i.toNat (dflt e) = xs[i.toNat]:=by simp [List.getD_eq_getElem?_getD,List.getElem?_eq_getElem hlt]
      rw [hD] at hsub
      obtain ⟨t',x',rfl,h1,h2,h3,h4⟩:=subX_rv hsub hus
      refine ⟨rfl,rfl,rfl,NOk.of_run ?_ (jJh h4 h1.symm (fun hf=>?_))⟩
      ·rw [jZu]
       refine jQt hlay (by simp; omega) (fun j u hj=>?_)
       rw [jXe hh]
       have:=hget _ u (jQs hj)
       rw [List.getElem?_take] at this
       split at this
       ·rw [hc,Nat.add_assoc]
        simpa using this
       ·cases this
      ·have:=(jXc hlay).2.2 hf
       rw [jQa t' _ _ h4]
       omega
     ·cases hr
    ·cases hr
   ·cases hr
  ·cases hr
 ·
  rename_i k sz i
  split at hr
  ·rename_i tid e xs hg
   split at hr
   ·rename_i ag n hlay
    split at hr
    ·rename_i hc
     simp only [Bool.and_eq_true,Nat.beq_eq,beq_iff_eq] at hc
     obtain ⟨⟨hn,hsz⟩,hag⟩:=hc
     have:=jQd hr; subst this
     obtain ⟨g,c,cur,hβ,rfl,h0,hlt,hh,_,_,_,_,_,hd⟩:=slp_cells hi hg hx (by omega)
     obtain ⟨us,hus,hget⟩:=rdL_get (jQa e) _ _ hd i.toNat xs[i.toNat] (List.getElem?_eq_getElem hlt)
     have hD:xs.getD i.toNat (dflt e) = xs[i.toNat]:=by simp [List.getD_eq_getElem?_getD,List.getElem?_eq_getElem hlt]
     refine ⟨rfl,rfl,rfl,NOk.of_run ?_ (by rw [hD]; exact jJh hus hag (fun hf=>by rw [jQa e _ _ hus]; have:=(jXc hlay).2.2 hf; omega))⟩
     rw [jZu]
     refine jQt hlay (by rw [jQa e _ _ hus]; omega) (fun j u hj=>?_)
     rw [jXe hh]
     have:=hget j u hj
     rw [List.getElem?_take] at this
     split at this
     ·rw [show i.toNat * sz = i.toNat * e.cells by rw [← hsz,hn]]
      simpa using this
     ·cases this
    ·cases hr
   ·cases hr
  ·cases hr
 ·
  rename_i u x
  split at hr
  ·rename_i ag n hlay
   split at hr
   ·rename_i hc
    simp only [Bool.and_eq_true,Nat.beq_eq,beq_iff_eq] at hc
    obtain ⟨hn,hag⟩:=hc
    have:=jQd hr; subst this
    obtain ⟨g,off,us,rfl,hus,hp⟩:=hx
    refine ⟨rfl,rfl,rfl,NOk.of_run ?_ (jJh hus hag (fun hf=>by rw [jQa u _ _ hus]; have:=(jXc hlay).2.2 hf; omega))⟩
    rw [jZu]
    exact jQt hlay (by rw [jQa u _ _ hus]; omega) (fun j u' hj=>hi.prom _ _ (hp j u' hj))
   ·cases hr
  ·cases hr
 ·cases hr
def litsD:(t:Ty) → t.den → List Lit
 | .int k,x=>[.int k x]
 | .bool,x=>[.bool x]
 | .str,x=>[.string (strOf x).data.toList]
 | .vec _ (.int k),x=>List.map (fun n:Int=>Lit.int k n) x
 | .pair a b,x=>litsD a x.1 ++ litsD b x.2
 | _,_=>[]
theorem rdL_ints' {k:IntKind}:∀ (l:List Int) (cs:List Value),rdL (reads Ψ (.int k)) l cs → cs = l.map (Value.int k) ∧ ∀ c ∈ l,k.has c
 | [],cs,h=>by simp only [rdL] at h; subst h; simp
 | x :: l,cs,⟨c,vs',e,⟨hc,hk⟩,hl⟩=>by
  obtain ⟨h1,h2⟩:=rdL_ints' l vs' hl
  subst e hc h1
  refine ⟨rfl,fun c hm=>?_⟩
  rcases List.mem_cons.1 hm with rfl | hm
  ·exact hk
  ·exact h2 c hm
theorem has_wf {k:IntKind} {n:Int} (h:k.has n):(Lit.int k n).wf = true:=by
 unfold IntKind.has at h
 simpa [Lit.wf] using h
theorem mapM_some_of {α β':Type} {f:α → Option β'} {g:α → β'}:∀ (l:List α),(∀ x ∈ l,f x = some (g x)) → l.mapM f = some (l.map g)
 | [],_=>rfl
 | x :: l,h=>by
  rw [List.mapM_cons,h x (by simp),mapM_some_of l (fun y hy=>h y (by simp [hy]))]
  rfl
mutual
theorem jKt {P:Program}:∀ (ty:Ty) {D:Nat} {t:TypeId} {x:ty.den} {cs:List Value},eqOk ty = true → okT P ty t = true → P.keyTypeAt D t = true → reads Ψ ty x cs → P.keyLits D t cs = some (litsD ty x)
 | ty,0,t,x,cs,_,_,hk,_=>by simp [Program.keyTypeAt] at hk
 | .int k,D + 1,t,x,cs,_,ht,hk,hr=>by
  unfold okT at ht
  split at ht
  ·rename_i k' hu
   have:k' = k:=by simpa using ht
   subst this
   obtain ⟨rfl,hh⟩:=hr
   simp [Program.keyLits,hu,has_wf hh,litsD]
  ·cases ht
 | .bool,D + 1,t,x,cs,_,ht,hk,hr=>by
  unfold okT at ht
  split at ht
  ·rename_i hu
   simp only [reads] at hr
   subst hr
   simp [Program.keyLits,hu,litsD]
  ·cases ht
 | .str,D + 1,t,x,cs,_,ht,hk,hr=>by
  unfold okT at ht
  split at ht
  ·rename_i hu
   obtain ⟨rfl,_,hl⟩:=hr
   simp [Program.keyLits,hu,litsD,jXg,hl]
  ·cases ht
 | .arr e,D + 1,t,x,cs,he,ht,hk,hr=>by simp [eqOk] at he
 | .unit,D + 1,t,x,cs,he,ht,hk,hr=>by simp [okT] at ht
 | .fnc,D + 1,t,x,cs,he,ht,hk,hr=>by simp [okT] at ht
 | .rose _ _,D + 1,t,x,cs,he,ht,hk,hr=>by simp [eqOk] at he
 | .any,D + 1,t,x,cs,he,ht,hk,hr=>by simp [okT] at ht
 | .vec n e,D + 1,t,x,cs,he,ht,hk,hr=>by
  cases e with
  | fnc=>simp [eqOk] at he
  | rose _ _=>simp [eqOk] at he
  | any=>simp [eqOk] at he
  | int k =>
   unfold okT at ht
   split at ht
   ·rename_i m et hu
    simp only [Bool.and_eq_true] at ht
    obtain ⟨⟨⟨hm,hc⟩,hs⟩,hoe⟩:=ht
    have hm:=Nat.eq_of_beq_eq_true hm
    have hc:=Nat.eq_of_beq_eq_true hc
    have hs:=Nat.eq_of_beq_eq_true hs
    subst hm
    obtain ⟨hlen,hd⟩:=hr
    obtain ⟨rfl,hh⟩:=rdL_ints' (Ψ:=Ψ) x cs hd
    simp only [Ty.cells] at hc hs
    have hke:P.keyTypeAt D et = true:=by simpa [Program.keyTypeAt,hu] using hk
    have hl:(List.map (Value.int k) x).length = P.cellsOf t:=by rw [List.length_map,hs,Nat.mul_one]; exact hlen
    have hone:∀ i ∈ List.range m,P.keyLits D et (((List.map (Value.int k) x).drop (i * P.cellsOf et)).take (P.cellsOf et)) = some [.int k (List.getD x i 0)]:=by
     intro i hi
     have hi:i < List.length x:=by rw [hlen]; simpa using hi
     have h2:=jKt (.int k) (D:=D) (t:=et) (x:=(List.getD x i 0:Int)) (cs:=[.int k (List.getD x i 0)]) (by rfl) hoe hke ⟨rfl,by
      have:=hh x[i] (List.getElem_mem hi)
      simpa [List.getD_eq_getElem?_getD,List.getElem?_eq_getElem hi] using this⟩
     rw [hc,Nat.mul_one]
     have e1:((List.map (Value.int k) x).drop i).take 1 = [.int k (List.getD x i 0)]:=by
      rw [List.drop_eq_getElem_cons (by simpa using hi)]
      simp [List.getD_eq_getElem?_getD,List.getElem?_eq_getElem hi]
     rw [e1]
     exact h2
    simp only [Program.keyLits,hu,if_pos hl,mapM_some_of _ hone,Option.map_some,litsD]
    congr 1
    rw [← hlen]
    clear hone hl hd hh hlen hke hs hc hoe hu hk he
    have key:∀ (l:List Int),((List.range l.length).map fun i=>[Lit.int k (l.getD i 0)]).flatten = l.map fun n=>Lit.int k n:=by
     intro l
     induction l with
     | nil=>rfl
     | cons a l ih =>
      rw [List.length_cons,List.range_succ_eq_map]
      simp only [List.map_cons,List.map_map,List.flatten_cons,Function.comp_def,List.getD_cons_succ,List.getD_cons_zero]
      rw [← ih]
      rfl
    exact key x
   ·cases ht
  | bool=>simp [eqOk] at he
  | str=>simp [eqOk] at he
  | arr _=>simp [eqOk] at he
  | vec _ _=>simp [eqOk] at he
  | unit=>simp [eqOk] at he
  | pair _ _=>simp [eqOk] at he
 | .pair a b,D + 1,t,x,cs,he,ht,hk,hr=>by
  unfold okT at ht
  split at ht
  ·rename_i fs hu
   split at ht
   ·rename_i f fs' hfs
    simp only [Bool.and_eq_true] at ht
    obtain ⟨⟨⟨⟨hs,ho⟩,hc⟩,ha⟩,hb⟩:=ht
    have hs:=Nat.eq_of_beq_eq_true hs
    have ho:=Nat.eq_of_beq_eq_true ho
    have hc:=Nat.eq_of_beq_eq_true hc
    simp only [eqOk,Bool.and_eq_true] at he
    have hl:=jQa (.pair a b) _ _ hr
    simp only [Program.keyTypeAt,hu,Bool.and_eq_true,Array.all_eq_true'] at hk
    have hkf:∀ f ∈ fs.toList,f.name ≠ "_" ∧ P.keyTypeAt D f.type = true:=fun f hf=>by
     have:=hk.1.1 f (by simpa using hf)
     simpa using this
    obtain ⟨u,v,rfl,hu1,hv1⟩:=hr
    have hul:=jQa a _ _ hu1
    have h1:=jKt a (D:=D) he.1 ha (hkf f (by rw [hfs]; simp)).2 hu1
    obtain ⟨ls,h2,h3⟩:=keyFields_rd (P:=P) b (D:=D) (fs:=fs') (off:=a.cells) (cs:=u ++ v) he.2 hb (fun g hg=>(hkf g (by rw [hfs]; simp [hg])).2) (x:=x.2) (by rw [← hul]; simpa using hv1)
    have hall:fs.all (fun f=>f.name != "_") = true:=by
     rw [Array.all_eq_true']
     intro f hf
     simpa using (hkf f (by simpa using hf)).1
    simp only [Program.keyLits,hu]
    rw [if_pos ⟨by rw [hl,hs]; rfl,hall⟩,hfs,List.mapM_cons,ho,hc,List.drop_zero,← hul,List.take_left,h1,h2]
    simp [h3,litsD]
   ·cases ht
  ·cases ht
theorem keyFields_rd {P:Program}:∀ (ty:Ty) {D:Nat} {fs:List Field} {off:Nat} {cs:List Value} {x:ty.den},eqOk ty = true → okF P ty fs off = true → (∀ f ∈ fs,P.keyTypeAt D f.type = true) → reads Ψ ty x (cs.drop off) →
 ∃ ls,fs.mapM (fun f=>P.keyLits D f.type ((cs.drop f.offset).take (P.cellsOf f.type))) = some ls ∧ ls.flatten = litsD ty x
 | .pair a b,D,fs,off,cs,x,he,ho,hk,hr=>by
  cases fs with
  | nil=>simp [okF] at ho
  | cons f fs =>
   simp only [okF,Bool.and_eq_true] at ho
   obtain ⟨⟨⟨hf,hc⟩,ha⟩,hb⟩:=ho
   have hf:=Nat.eq_of_beq_eq_true hf
   have hc:=Nat.eq_of_beq_eq_true hc
   simp only [eqOk,Bool.and_eq_true] at he
   obtain ⟨u,v,hcs,hu1,hv1⟩:=hr
   have hul:=jQa a _ _ hu1
   have h1:=jKt a (D:=D) he.1 ha (hk f (by simp)) hu1
   have hv':cs.drop (off + a.cells) = v:=by rw [← List.drop_drop,hcs,← hul,List.drop_left]
   obtain ⟨ls,h2,h3⟩:=keyFields_rd (P:=P) b (D:=D) (fs:=fs) (off:=off + a.cells) (cs:=cs) he.2 hb (fun g hg=>hk g (by simp [hg])) (x:=x.2) (by rw [hv']; exact hv1)
   refine ⟨litsD a x.1 :: ls,?_,by simp [h3,litsD]⟩
   rw [List.mapM_cons,hf,hc,hcs,← hul,List.take_left,h1,h2]
   rfl
 | .unit,D,fs,off,cs,x,he,ho,hk,hr=>by
  cases fs with
  | nil=>exact ⟨[],rfl,rfl⟩
  | cons f fs=>simp [okF] at ho
 | .int _,_,_,_,_,_,_,ho,_,_=>by simp [okF] at ho
 | .bool,_,_,_,_,_,_,ho,_,_=>by simp [okF] at ho
 | .fnc,_,_,_,_,_,_,ho,_,_=>by simp [okF] at ho
 | .rose _ _,_,_,_,_,_,_,ho,_,_=>by simp [okF] at ho
 | .any,_,_,_,_,_,_,ho,_,_=>by simp [okF] at ho
 | .str,_,_,_,_,_,_,ho,_,_=>by simp [okF] at ho
 | .arr _,_,_,_,_,_,_,ho,_,_=>by simp [okF] at ho
 | .vec _ _,_,_,_,_,_,_,ho,_,_=>by simp [okF] at ho
end
theorem litsD_len:∀ (ty:Ty) (x y:ty.den) (cs ds:List Value),eqOk ty = true → reads Ψ ty x cs → reads Ψ ty y ds → (litsD ty x).length = (litsD ty y).length
 | .int _,_,_,_,_,_,_,_=>rfl
 | .bool,_,_,_,_,_,_,_=>rfl
 | .str,_,_,_,_,_,_,_=>rfl
 | .unit,_,_,_,_,_,_,_=>rfl
 | .arr _,_,_,_,_,he,_,_=>by simp [eqOk] at he
 | .fnc,_,_,_,_,he,_,_=>by simp [eqOk] at he
 | .rose _ _,_,_,_,_,he,_,_=>by simp [eqOk] at he
 | .any,_,_,_,_,he,_,_=>by simp [eqOk] at he
 | .vec n e,x,y,cs,ds,he,hx,hy=>by
  cases e with
  | fnc=>simp [eqOk] at he
  | rose _ _=>simp [eqOk] at he
  | any=>simp [eqOk] at he
  | int k =>
   show (List.map _ x).length = (List.map _ y).length
   rw [List.length_map,List.length_map,hx.1,hy.1]
  | bool=>simp [eqOk] at he
  | str=>simp [eqOk] at he
  | arr _=>simp [eqOk] at he
  | vec _ _=>simp [eqOk] at he
  | unit=>simp [eqOk] at he
  | pair _ _=>simp [eqOk] at he
 | .pair a b,x,y,_,_,he,⟨_,_,_,h1,h2⟩,⟨_,_,_,h3,h4⟩=>by
  simp only [eqOk,Bool.and_eq_true] at he
  simp only [litsD,List.length_append]
  rw [litsD_len a _ _ _ _ he.1 h1 h3,litsD_len b _ _ _ _ he.2 h2 h4]
theorem litsD_inj:∀ (ty:Ty) (x y:ty.den) (cs ds:List Value),eqOk ty = true → reads Ψ ty x cs → reads Ψ ty y ds → (litsD ty x = litsD ty y ↔ eqD ty x y = true)
 | .int k,x,y,_,_,_,_,_=>by simp [litsD,eqD]
 | .bool,x,y,_,_,_,_,_=>by simp [litsD,eqD]
 | .str,x,y,_,_,_,hx,hy=>by
  simp only [litsD,eqD,decide_eq_true_eq]
  constructor
  ·intro h
   simp only [List.cons.injEq,Lit.string.injEq,and_true] at h
   refine strOf_inj hx.2.1 hy.2.1 ?_
   have:(strOf x).data = (strOf y).data:=Array.toList_inj.1 h
   cases hs:strOf x
   cases ht:strOf y
   rw [hs,ht] at this
   simp only at this
   rw [this]
  ·intro h; rw [h]
 | .unit,x,y,_,_,_,_,_=>by simp [litsD,eqD]
 | .arr _,_,_,_,_,he,_,_=>by simp [eqOk] at he
 | .fnc,_,_,_,_,he,_,_=>by simp [eqOk] at he
 | .rose _ _,_,_,_,_,he,_,_=>by simp [eqOk] at he
 | .any,_,_,_,_,he,_,_=>by simp [eqOk] at he
 | .vec n e,x,y,cs,ds,he,hx,hy=>by
  cases e with
  | fnc=>simp [eqOk] at he
  | rose _ _=>simp [eqOk] at he
  | any=>simp [eqOk] at he
  | int k =>
   simp only [litsD,eqD,decide_eq_true_eq]
   constructor
   ·intro h
    have hinj:Function.Injective (fun n:Int=>Lit.int k n):=fun a b hab=>by simpa using hab
    exact (List.map_inj_right (fun a b hab=>hinj hab)).1 h
   ·intro h; rw [h]
  | bool=>simp [eqOk] at he
  | str=>simp [eqOk] at he
  | arr _=>simp [eqOk] at he
  | vec _ _=>simp [eqOk] at he
  | unit=>simp [eqOk] at he
  | pair _ _=>simp [eqOk] at he
 | .pair a b,x,y,_,_,he,⟨_,_,_,h1,h2⟩,⟨_,_,_,h3,h4⟩=>by
  simp only [eqOk,Bool.and_eq_true] at he
  simp only [litsD,eqD,Bool.and_eq_true]
  rw [← litsD_inj a _ _ _ _ he.1 h1 h3,← litsD_inj b _ _ _ _ he.2 h2 h4]
  constructor
  ·intro h
   exact List.append_inj h (litsD_len a _ _ _ _ he.1 h1 h3)
  ·rintro ⟨e1,e2⟩
   rw [e1,e2]
theorem okT_formed {P:Program} {ty:Ty} {t:TypeId} {x:ty.den} {v:Value} (ha:ty.isAgg = true) (ht:okT P ty t = true) (hr:rv Ψ ty x v):∃ cs,v = .agg cs.toArray ∧ reads Ψ ty x cs ∧ v.formed P t = true:=by
 obtain ⟨cs,hc,hv⟩:=hr
 rw [ha] at hv
 simp only [if_true] at hv
 have hl:=jQa ty _ _ hc
 refine ⟨cs,hv,hc,?_⟩
 subst hv
 cases ty with
 | vec n e =>
  unfold okT at ht
  split at ht
  ·rename_i m et hu
   simp only [Bool.and_eq_true] at ht
   have hs:=Nat.eq_of_beq_eq_true ht.1.2
   simp [Value.formed,hu,hl,hs,Ty.cells]
  ·cases ht
 | pair a b =>
  unfold okT at ht
  split at ht
  ·rename_i fs hu
   split at ht
   ·simp only [Bool.and_eq_true] at ht
    have hs:=Nat.eq_of_beq_eq_true ht.1.1.1.1
    simp [Value.formed,hu,hl,hs,Ty.cells]
   ·cases ht
  ·cases ht
 | rose a b =>
  unfold okT at ht
  split at ht
  ·rename_i fs hu
   simp only [Bool.and_eq_true] at ht
   have hs:=Nat.eq_of_beq_eq_true ht.1
   simp [Value.formed,hu,hl,hs,Ty.cells]
  ·cases ht
 | unit=>simp [okT] at ht
 | fnc=>simp [Ty.isAgg] at ha
 | any=>simp [Ty.isAgg] at ha
 | int _=>simp [Ty.isAgg] at ha
 | bool=>simp [Ty.isAgg] at ha
 | str=>simp [Ty.isAgg] at ha
 | arr _=>simp [Ty.isAgg] at ha
theorem binAgg_ok {op:BinOp} {xt:TypeId} {x y:Operand} {av bv:AV} {u v:Value} {r:Out} (hx:RelV Ψ β av u) (hy:RelV Ψ β bv v) (hr:abinAgg C h op xt av bv = some r) :
 r.heap = h ∧ r.kill = none ∧ r.need = none ∧ NOk C Ψ β w (do eqGuard op xt x y u v; binOp op xt u v) r.v:=by
 unfold abinAgg at hr
 split at hr
 ·rename_i ty hty
  split at hr
  ·rename_i hc
   simp only [Bool.and_eq_true] at hc
   obtain ⟨⟨⟨⟨⟨hagg,heq⟩,hok⟩,hkt⟩,hgd⟩,hnr⟩:=hc
   have hgd:C.P.eqGuardType C.P.depth xt = false:=by simpa using hgd
   have hrefs:refsA [av,bv] = []:=by
    unfold noRefs' at hnr
    split at hnr
    ·assumption
    ·cases hnr
   simp only [refsA,List.append_eq_nil_iff] at hrefs
   split at hr
   ·rename_i a b hda hdb
    have ra:rv Ψ ty a u:=jKj (PLe.refl _) hda hx (by rw [hrefs.1]; exact Reading.nil)
    have rb:rv Ψ ty b v:=jKj (PLe.refl _) hdb hy (by rw [hrefs.2.1]; exact Reading.nil)
    obtain ⟨cs,rfl,hcs,hfa⟩:=okT_formed hagg hok ra
    obtain ⟨ds,rfl,hds,hfb⟩:=okT_formed hagg hok rb
    have ka:=jKt (P:=C.P) ty (D:=100) heq hok hkt hcs
    have kb:=jKt (P:=C.P) ty (D:=100) heq hok hkt hds
    obtain ⟨q,hq,hiff⟩:=run_equalIn_deep (P:=C.P) 9900 100 xt hkt w 100 100 _ _ _ _ hfa hfb (by simpa [Value.cells] using ka) (by simpa [Value.cells] using kb)
    have hqe:q = eqD ty a b:=by
     rw [litsD_inj ty a b cs ds heq hcs hds] at hiff
     cases q <;> cases hqq:eqD ty a b <;> simp_all
    subst hqe
    split at hr
    ·have:=jQd hr; subst this
     exact ⟨rfl,rfl,rfl,NOk.of_run (v:=.bool (eqD ty a b)) (by simp only [Sem.run_bind,run_eqGuard_agg (P:=C.P) w _ xt x y cs.toArray ds.toArray hgd,Result.andThen_ok]; rw [run_eql_struct,hq]; rfl) (jXh _)⟩
    ·have:=jQd hr; subst this
     exact ⟨rfl,rfl,rfl,NOk.of_run (v:=.bool (!eqD ty a b)) (by simp only [Sem.run_bind,run_eqGuard_agg (P:=C.P) w _ xt x y cs.toArray ds.toArray hgd,Result.andThen_ok]; rw [run_neq_struct,hq]; rfl) (jXh _)⟩
    ·cases hr
   ·cases hr
  ·cases hr
 ·cases hr
end Go.AM
