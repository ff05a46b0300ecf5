import Derived.Test.YtbjjaaimhleedaaGreatDoorKt6
set_option linter.unusedSimpArgs false
set_option linter.unusedVariables false
namespace Go.AM
open Go.RowKit
variable {B:Nat → Prop} {w0:World} {C:Ctx} {Ψ Ψ0:Pr} {β:List Value} {h:List Blk} {w w':World} {fr:List AV} {a a0:Act} {As:List Act} {W:List Nat}
def LoopAt (F:Fence) (n:Nat) (P:Program) (c:Code) (Q:Exit → Act → World → Prop) (a:Act) (w:World):Prop :=
 ∀ (b:Frame) (k:List Item) (cs:List Frame),b.roundOf = F.round → F.fn b.fn → F.room (cs.length + 1 + n) →
  ∃ e a' w',Q e a' w' ∧ ArrivesIn (Machine.fenced P F) P (lone (b.atR a (.code c :: .inLoop c :: k)) cs w) b k cs e a' w'
theorem LoopAt.wpIn {F:Fence} {n:Nat} {P:Program} {c:Code} {Q:Exit → Act → World → Prop} (h:LoopAt F n P c Q a w):(Code.loop c).wpIn F n P Q a w:=by
 intro b k cs hro hb hr
 obtain ⟨e,a',w',hq,harr⟩:=h b k cs hro hb hr
 exact ⟨e,a',w',hq,.of_steps (.one (fenced_calm hb hr rfl) stepR_loop) harr⟩
theorem LoopAt.peel {F:Fence} {n:Nat} {P:Program} {c:Code} {Q:Exit → Act → World → Prop} (h:c.wpIn F n P (Exit.then (LoopAt F n P c Q) Q) a w):LoopAt F n P c Q a w:=by
 intro b k cs hro hb hr
 obtain ⟨e,a₁,w₁,hq,harr⟩:=h b (.inLoop c :: k) cs hro hb hr
 cases e with
 | normal =>
  obtain ⟨e₂,a₂,w₂,hq₂,harr₂⟩:=hq b k cs hro hb hr
  exact ⟨e₂,a₂,w₂,hq₂,.of_steps (StepsIn.trans harr (.one (fenced_calm hb hr rfl) stepR_inLoop)) harr₂⟩
 | exit id=>exact ⟨_,a₁,w₁,hq,.pass (x:=.inLoop c) rfl (fun _ _=>.inl (by simp)) harr⟩
 | goto l=>exact ⟨_,a₁,w₁,hq,.pass (x:=.inLoop c) rfl (fun _ _=>.inl (by simp)) harr⟩
 | ret=>exact ⟨_,a₁,w₁,hq,.pass (x:=.inLoop c) rfl (fun _ _=>.inl (by simp)) harr⟩
 | panic ch=>exact ⟨_,a₁,w₁,hq,.pass (x:=.inLoop c) rfl (fun _ _=>.inl (by simp)) harr⟩
 | outgrown=>exact ⟨_,a₁,w₁,hq,.pass (x:=.inLoop c) rfl (fun _ _=>.inl (by simp)) harr⟩
theorem loopAt_ghost {F:Fence} {n:Nat} {P:Program} {τ:Type} {c:Code} {Q:Exit → Act → World → Prop} (H:τ → Act → World → Prop) (μ:τ → Nat) (x0:τ) (h0:H x0 a w)
 (round:∀ x a w,H x a w → c.wpIn F n P (Exit.then (fun a' w'=>∃ x',H x' a' w' ∧ μ x' < μ x) Q) a w):LoopAt F n P c Q a w:=by
 intro b k cs hro hb hr
 have key:∀ j x a w,μ x = j → H x a w →
  ∃ e a' w',Q e a' w' ∧ ArrivesIn (Machine.fenced P F) P (lone (b.atR a (.code c :: .inLoop c :: k)) cs w) b k cs e a' w':=by
  intro j
  induction j using Nat.strongRecOn with
  | _ j ih =>
   intro x a w hn hI
   obtain ⟨e,a₁,w₁,hq,harr⟩:=round x a w hI b (.inLoop c :: k) cs hro hb hr
   cases e with
   | normal =>
    obtain ⟨x',hI₁,hlt⟩:=hq
    obtain ⟨e₂,a₂,w₂,hq₂,harr₂⟩:=ih (μ x') (hn ▸ hlt) x' a₁ w₁ rfl hI₁
    exact ⟨e₂,a₂,w₂,hq₂,.of_steps (StepsIn.trans harr (.one (fenced_calm hb hr rfl) stepR_inLoop)) harr₂⟩
   | exit id=>exact ⟨_,a₁,w₁,hq,.pass (x:=.inLoop c) rfl (fun _ _=>.inl (by simp)) harr⟩
   | goto l=>exact ⟨_,a₁,w₁,hq,.pass (x:=.inLoop c) rfl (fun _ _=>.inl (by simp)) harr⟩
   | ret=>exact ⟨_,a₁,w₁,hq,.pass (x:=.inLoop c) rfl (fun _ _=>.inl (by simp)) harr⟩
   | panic ch=>exact ⟨_,a₁,w₁,hq,.pass (x:=.inLoop c) rfl (fun _ _=>.inl (by simp)) harr⟩
   | outgrown=>exact ⟨_,a₁,w₁,hq,.pass (x:=.inLoop c) rfl (fun _ _=>.inl (by simp)) harr⟩
 exact key _ x0 a w rfl h0
theorem wpIn_loop_ghost {F:Fence} {n:Nat} {P:Program} {τ:Type} {c:Code} {Q:Exit → Act → World → Prop} (H:τ → Act → World → Prop) (μ:τ → Nat) (x0:τ) (h0:H x0 a w)
 (round:∀ x a w,H x a w → c.wpIn F n P (Exit.then (fun a' w'=>∃ x',H x' a' w' ∧ μ x' < μ x) Q) a w):(Code.loop c).wpIn F n P Q a w:=(loopAt_ghost H μ x0 h0 round).wpIn
theorem prepLA_sound {s:St} (la:LA) (hi:InvH C.P B w0 Ψ β s.heap w) (hf:RelF Ψ β (s.top :: s.below) (a :: As)) :
 ∃ β',InvH C.P B w0 Ψ β' (prepLA s la).heap w ∧ RelF Ψ β' ((prepLA s la).top :: (prepLA s la).below) (a :: As):=by
 unfold prepLA
 split
 ·rename_i i tid e
  split
  ·rename_i hn
   have hv:a.tmps[i]? = some (.slice none 0 0):=by
    have h1:=jQ7 _ _ (jQk hf).2 i
    rw [hn,jKm] at h1
    have h2:(a.tmps[i]?).getD undef = .slice none 0 0:=h1
    cases hx:a.tmps[i]? with
    | none=>rw [hx] at h2; simp [undef] at h2
    | some x=>rw [hx] at h2; simp at h2; rw [h2]
   have hk:(β ++ [Value.slice none 0 0])[s.heap.length]? = some (.slice none 0 0):=by rw [← hi.len]; simp
   refine ⟨β ++ [.slice none 0 0],hi.push (Below.refl _ _) rfl (.inl ⟨none,hk,rfl⟩) (fun g hc=>?_),?_⟩
   ·obtain ⟨n,cap,hz,hc⟩:=hc
    rw [hk] at hc
    simp at hc
   ·have hf':=jQq (PLe.refl _) (jQh (.slice none 0 0)) _ _ hf
    have:=put_some_rel (s:=s) (t:=i) (av:=.sl (hlen s.heap)) hf' hv (by rw [jQ1]; exact ⟨hk,by simp [hole]⟩)
    exact this
  ·exact ⟨β,hi,hf⟩
 ·rename_i k off tid e
  split
  ·rename_i cs hcs
   split
   ·rename_i hn
    have hk:=jQc hcs (by simp)
    obtain ⟨g,c,e',h1,h2,h3,h4,h5⟩:=hi.blk k _ hk
    have hoff:off < cs.length:=by
     rcases Nat.lt_or_ge off cs.length with h' | h'
     ·exact h'
     ·rw [fget_out h'] at hn; cases hn
    obtain ⟨u,hu,hrel⟩:=jQ7? _ _ h4 off hoff
    rw [hn] at hrel
    have hrel:u = .slice none 0 0:=hrel
    subst hrel
    have hkn:(β ++ [Value.slice none 0 0])[s.heap.length]? = some (.slice none 0 0):=by rw [← hi.len]; simp
    have hi1:InvH C.P B w0 Ψ (β ++ [.slice none 0 0]) (s.heap ++ [.grow tid e []]) w:=hi.push (Below.refl _ _) rfl (.inl ⟨none,hkn,rfl⟩) (fun g hc=>by
     obtain ⟨n,cap,hz,hc⟩:=hc
     rw [hkn] at hc
     simp at hc)
    have hlt:=jKl hk
    have hk1:(s.heap ++ [Blk.grow tid e []])[k]? = some (.cells cs):=by rw [List.getElem?_append_left hlt]; exact hk
    have hβ1:(β ++ [Value.slice none 0 0])[k]? = some (.pointer (some ⟨g,0,none⟩)):=jQh _ _ _ h1
    refine ⟨β ++ [.slice none 0 0],?_,jQq (PLe.refl _) (jQh _) _ _ hf⟩
    show InvH C.P B w0 Ψ _ (hset (s.heap ++ [Blk.grow tid e []]) k (.cells (fset cs off (.sl (hlen s.heap))))) w
    rw [jQp]
    refine hi1.rewriteG (g:=g) hk1 rfl hβ1 (World.grownBy.refl w (some g)) (fun _ hc=>hc) ⟨g,c,e',hβ1,h2,h3,?_,h5⟩
    have:=RelL_set (Ψ:=Ψ) (β:=β ++ [Value.slice none 0 0]) (u:=.slice none 0 0) (av:=.sl (hlen s.heap)) (by rw [jQ1]; exact ⟨hkn,by simp [hole]⟩) cs c.toList off (jQl (PLe.refl _) (jQh _) _ _ h4)
    have hcu:c.toList.set off (.slice none 0 0) = c.toList:=put_some_rel.List.set_getElem?_self' hu
    rwa [hcu] at this
   ·exact ⟨β,hi,hf⟩
  ·exact ⟨β,hi,hf⟩
 ·exact ⟨β,hi,hf⟩
theorem prepLAs_sound:∀ (as:List LA) {s:St} {β:List Value},InvH C.P B w0 Ψ β s.heap w → RelF Ψ β (s.top :: s.below) (a :: As) →
 ∃ β',InvH C.P B w0 Ψ β' (jJ4 s as).heap w ∧ RelF Ψ β' ((jJ4 s as).top :: (jJ4 s as).below) (a :: As)
 | [],_,β,hi,hf=>⟨β,hi,hf⟩
 | la :: as,s,β,hi,hf=>by
  obtain ⟨β',h1,h2⟩:=prepLA_sound la hi hf
  exact prepLAs_sound as h1 h2
mutual
theorem still_rel {Ψ':Pr} {β1 β':List Value} (hle:PLe Ψ Ψ') (hb:∀ (k:Nat) (v u:Value),β[k]? = some u → β1[k]? = some v → β'[k]? = some v):∀ (t s:AV) (v:Value),RelV Ψ β t v → RelV Ψ' β1 s v → still t s = true → RelV Ψ' β' t v
 | .junk,_,_,_,_,_=>trivial
 | .und,_,_,h,_,_=>h
 | .tt,_,_,h,_,_=>h
 | .ff,_,_,h,_,_=>h
 | .d t x,_,_,⟨cs,hc,e⟩,_,_=>⟨cs,jQg hle t x cs hc,e⟩
 | .fs e xs,_,_,⟨ad,ea,cs,hc,e'⟩,_,_=>⟨ad,ea,cs,jQg hle (.arr e) xs cs hc,e'⟩
 | .nils,_,_,h,_,_=>h
 | .nilf,_,_,h,_,_=>h
 | .nilp,_,_,h,_,_=>h
 | .rp t x,_,_,⟨g,off,cs,e,hc,hp⟩,_,_=>⟨g,off,cs,e,jQg hle t x cs hc,fun j u hj=>hle _ _ (hp j u hj)⟩
 | .slp _ _ _,_,_,_,_,hs=>by simp [still] at hs
 | .own k o,s,v,⟨g,hg,e⟩,hr,hs=>by
  unfold still at hs
  split at hs
  ·rename_i k' o'
   simp only [Bool.and_eq_true,Nat.beq_eq] at hs
   obtain ⟨rfl,rfl⟩:=hs
   obtain ⟨g',hg',e'⟩:=hr
   exact ⟨g',hb k _ _ hg hg',e'⟩
  ·cases hs
 | .sl k,s,v,h,hr,hs=>by
  unfold still at hs
  split at hs
  ·rename_i k'
   simp only [Nat.beq_eq] at hs
   subst hs
   exact ⟨hb k _ _ h.1 hr.1,hr.2⟩
  ·cases hs
 | .yld k,s,v,⟨l,h,e⟩,hr,hs=>by
  unfold still at hs
  split at hs
  ·rename_i k'
   simp only [Nat.beq_eq] at hs
   subst hs
   obtain ⟨l',h',e'⟩:=hr
   exact ⟨l',hb k _ _ h h',e'⟩
  ·cases hs
 | .agg cs,s,v,⟨vs,e,hl,h1⟩,hr,hs=>by
  unfold still at hs
  split at hs
  ·rename_i cs'
   obtain ⟨vs',e',hl',_⟩:=hr
   rw [e] at e'
   simp at e'
   subst e'
   exact ⟨vs,e,jJa hle hb cs cs' vs hl hl' hs,h1⟩
  ·cases hs
 | .tup cs,s,v,⟨vs,e,hl⟩,hr,hs=>by
  unfold still at hs
  split at hs
  ·rename_i cs'
   obtain ⟨vs',e',hl'⟩:=hr
   rw [e] at e'
   simp at e'
   subst e'
   exact ⟨vs,e,jJa hle hb cs cs' vs hl hl' hs⟩
  ·cases hs
 | .fn f cs,s,v,⟨vs,e,hl⟩,hr,hs=>by
  unfold still at hs
  split at hs
  ·rename_i f' cs'
   obtain ⟨vs',e',hl'⟩:=hr
   rw [e] at e'
   simp at e'
   obtain ⟨_,e'⟩:=e'
   subst e'
   exact ⟨vs,e,jJa hle hb cs cs' vs hl hl' hs⟩
  ·cases hs
 | .bnd f cs,s,v,⟨vs,e,hl⟩,hr,hs=>by
  unfold still at hs
  split at hs
  ·rename_i f' cs'
   obtain ⟨vs',e',hl'⟩:=hr
   rw [e] at e'
   simp at e'
   obtain ⟨_,e'⟩:=e'
   subst e'
   exact ⟨vs,e,jJa hle hb cs cs' vs hl hl' hs⟩
  ·cases hs
 | .sv _ _ _ _,_,_,_,_,hs=>by simp [still] at hs
 | .glb _,_,_,h,_,_=>h
 | .oix _ _ _ _,_,_,_,_,hs=>by simp [still] at hs
 | .osl _ _ _ _ _,_,_,_,_,hs=>by simp [still] at hs
 | .slpf _ _ _ _,_,_,_,_,hs=>by simp [still] at hs
 | .ssl _ _,_,_,_,_,hs=>by simp [still] at hs
theorem jJa {Ψ':Pr} {β1 β':List Value} (hle:PLe Ψ Ψ') (hb:∀ (k:Nat) (v u:Value),β[k]? = some u → β1[k]? = some v → β'[k]? = some v):∀ (ts ss:List AV) (vs:List Value),RelL Ψ β ts vs → RelL Ψ' β1 ss vs → stillL ts ss = true → RelL Ψ' β' ts vs
 | [],_,_,h,_,_=>h
 | t :: ts,ss,_,⟨v,vs',e,hv,hl⟩,hr,hs=>by
  unfold stillL at hs
  split at hs
  ·rename_i s ss'
   simp only [Bool.and_eq_true] at hs
   obtain ⟨v',vs'',e',hv',hl'⟩:=hr
   rw [e] at e'
   simp at e'
   obtain ⟨rfl,rfl⟩:=e'
   exact ⟨v,vs',e,still_rel hle hb t s v hv hv' hs.1,jJa hle hb ts ss' vs' hl hl' hs.2⟩
  ·cases hs
end
theorem noSlp_rel {ks:List Nat} {av:AV} {v:Value} (h:RelV Ψ β av v):RelV Ψ β (noSlp ks av) v:=by
 unfold noSlp
 split
 ·trivial
 ·trivial
 ·trivial
 ·trivial
 ·trivial
 ·trivial
 ·split
  ·trivial
  ·exact h
 ·exact h
theorem noSlps_rel {ks:List Nat}:∀ {l:List AV} {vs:List Value},RelL Ψ β l vs → RelL Ψ β (noSlps ks l) vs
 | [],_,h=>h
 | _ :: _,_,⟨v,vs',e,hv,hl⟩=>⟨v,vs',e,noSlp_rel hv,noSlps_rel hl⟩
theorem noSlpF_rel {ks:List Nat}:∀ {fs:List (List AV)} {as:List Act},RelF Ψ β fs as → RelF Ψ β (noSlpF ks fs) as
 | [],_,h=>h
 | _ :: _,_,⟨a,as',e,⟨h1,h2⟩,h3⟩=>⟨a,as',e,⟨h1,noSlps_rel h2⟩,noSlpF_rel h3⟩
theorem stillF_rel {Ψ':Pr} {β1 β':List Value} (hle:PLe Ψ Ψ') (hb:∀ (k:Nat) (v u:Value),β[k]? = some u → β1[k]? = some v → β'[k]? = some v):∀ (ts ss:List (List AV)) (as:List Act),RelF Ψ β ts as → RelF Ψ' β1 ss as → stillF ts ss = true → RelF Ψ' β' ts as
 | [],_,_,h,_,_=>h
 | t :: ts,ss,_,⟨a,as',e,⟨h1,h2⟩,hl⟩,hr,hs=>by
  unfold stillF at hs
  split at hs
  ·rename_i s ss'
   simp only [Bool.and_eq_true] at hs
   obtain ⟨a',as'',e',⟨h1',h2'⟩,hl'⟩:=hr
   rw [e] at e'
   simp at e'
   obtain ⟨rfl,rfl⟩:=e'
   exact ⟨a,as',e,⟨h1',jJa hle hb t s _ h2 h2' hs.1⟩,stillF_rel hle hb ts ss' as' hl hl' hs.2⟩
  ·cases hs
theorem stillT_rel {Ψ':Pr} {β1 β':List Value} {ks ws:List Nat} (hle:PLe Ψ Ψ') (hb:∀ (k:Nat) (v u:Value),β[k]? = some u → β1[k]? = some v → β'[k]? = some v) :
 ∀ (ts ss:List AV) (i:Nat) (vs vs1:List Value),RelL Ψ β (jZy ks ws i ts) vs → RelL Ψ' β1 ss vs1 → vs.length = vs1.length → (∀ j,j < vs.length → i + j ∉ ws → vs[j]? = vs1[j]?) → stillT ws i (jZy ks ws i ts) ss = true → RelL Ψ' β' (jZy ks ws i ts) vs1
 | [],_,_,_,vs1,h,_,hlen,_,_=>by
  simp only [jZy,RelL] at h
  subst h
  have:vs1 = []:=List.eq_nil_of_length_eq_zero (by simpa using hlen.symm)
  subst this
  rfl
 | t :: ts,ss,i,_,vs1,⟨v,vs',e,hv,hl⟩,hr,hlen,hsame,hs=>by
  subst e
  unfold jZy stillT at hs
  split at hs
  ·rename_i s ss'
   simp only [Bool.and_eq_true,Bool.or_eq_true] at hs
   obtain ⟨v1,vs1',e1,hv1,hl1⟩:=hr
   subst e1
   simp only [List.length_cons,Nat.add_right_cancel_iff] at hlen
   refine ⟨v1,vs1',rfl,?_,stillT_rel hle hb ts ss' (i + 1) vs' vs1' hl hl1 hlen (fun j hj hn=>?_) hs.2⟩
   ·by_cases hm:memN i ws = true
    ·rw [if_pos hm]; trivial
    ·rw [if_neg hm] at hs hv ⊢
     have hvv:v = v1:=by
      have:=hsame 0 (by simp) (by
       intro hmem
       exact hm (memN_iff.2 (by simpa using hmem)))
      simpa using this
     subst hvv
     exact still_rel hle hb _ s v hv hv1 (hs.1.resolve_left hm)
   ·have:=hsame (j + 1) (by simpa using hj) (by rw [show i + (j + 1) = i + 1 + j by omega]; exact hn)
    simpa using this
  ·cases hs
theorem forget_rel {ks ws:List Nat}:∀ {ts:List AV} {i:Nat} {vs:List Value},RelL Ψ β ts vs → RelL Ψ β (jZy ks ws i ts) vs
 | [],_,_,h=>h
 | t :: ts,i,_,⟨v,vs',e,hv,hl⟩=>⟨v,vs',e,(by
  by_cases hm:memN i ws = true
  ·rw [if_pos hm]; trivial
  ·rw [if_neg hm]; exact noSlp_rel hv),forget_rel hl⟩
mutual
theorem keepC_rel {Ψ:Pr} {β:List Value} {ks:List Nat}:∀ (av:AV) (v:Value),RelV Ψ β av v → RelV Ψ β (keepC ks av) v
 | .own _ _,_,h=>h
 | .sl k,v,h=>by
  unfold keepC
  split
  ·trivial
  ·exact h
 | .fn f cs,v,⟨vs,e,hl⟩=>⟨vs,e,keepCs_rel cs vs hl⟩
 | .bnd f cs,v,⟨vs,e,hl⟩=>⟨vs,e,keepCs_rel cs vs hl⟩
 | .sv _ _ _ _,_,_=>trivial
 | .glb _,_,_=>trivial
 | .oix _ _ _ _,_,_=>trivial
 | .osl _ _ _ _ _,_,_=>trivial
 | .slpf _ _ _ _,_,_=>trivial
 | .ssl _ _,_,_=>trivial
 | .yld _,_,h=>h
 | .nils,_,h=>h
 | .nilf,_,h=>h
 | .nilp,_,h=>h
 | .junk,_,_=>trivial
 | .und,_,_=>trivial
 | .tt,_,_=>trivial
 | .ff,_,_=>trivial
 | .d _ _,_,_=>trivial
 | .fs _ _,_,_=>trivial
 | .agg _,_,_=>trivial
 | .tup _,_,_=>trivial
 | .slp _ _ _,_,_=>trivial
 | .rp _ _,v,h=>by
  unfold keepC
  split
  ·exact h
  ·trivial
theorem keepCs_rel {Ψ:Pr} {β:List Value} {ks:List Nat}:∀ (l:List AV) (vs:List Value),RelL Ψ β l vs → RelL Ψ β (keepCs ks l) vs
 | [],_,h=>h
 | c :: cs,_,⟨v,vs',e,hv,hl⟩=>⟨v,vs',e,keepC_rel c v hv,keepCs_rel cs vs' hl⟩
end
mutual
theorem jZ0:∀ (t s:AV) {q:Prop},sameP t s q ↔ sameP t s True ∧ q
 | .rp t x,s,q=>by
  unfold sameP
  split
  ·split
   ·exact ⟨fun h=>⟨⟨h.1,trivial⟩,h.2⟩,fun h=>⟨h.1.1,h.2⟩⟩
   ·exact ⟨fun h=>h.elim,fun h=>h.1.elim⟩
  ·exact ⟨fun h=>h.elim,fun h=>h.1.elim⟩
 | .fn _ cs,s,q=>by
  unfold sameP
  split
  ·exact jJc cs _
  ·exact ⟨fun h=>⟨trivial,h⟩,fun h=>h.2⟩
 | .bnd _ cs,s,q=>by
  unfold sameP
  split
  ·exact jJc cs _
  ·exact ⟨fun h=>⟨trivial,h⟩,fun h=>h.2⟩
 | .own _ _,_,_ | .sl _,_,_ | .sv _ _ _ _,_,_ | .glb _,_,_ | .oix _ _ _ _,_,_ | .osl _ _ _ _ _,_,_ | .slpf _ _ _ _,_,_ | .ssl _ _,_,_ | .yld _,_,_ | .nils,_,_ | .nilf,_,_ | .nilp,_,_ | .junk,_,_ | .und,_,_
 | .tt,_,_ | .ff,_,_ | .d _ _,_,_ | .fs _ _,_,_ | .agg _,_,_ | .tup _,_,_ | .slp _ _ _,_,_=>⟨fun h=>⟨trivial,h⟩,fun h=>h.2⟩
theorem jJc:∀ (ts ss:List AV) {q:Prop},samePs ts ss q ↔ samePs ts ss True ∧ q
 | [],_,q=>⟨fun h=>⟨trivial,h⟩,fun h=>h.2⟩
 | c :: cs,ss,q=>by
  unfold samePs
  split
  ·rename_i d ds
   exact ⟨fun h=>⟨(jZ0 c d).2 ⟨((jZ0 c d).1 h).1,((jJc cs ds).1 ((jZ0 c d).1 h).2).1⟩,((jJc cs ds).1 ((jZ0 c d).1 h).2).2⟩,
    fun h=>(jZ0 c d).2 ⟨((jZ0 c d).1 h.1).1,(jJc cs ds).2 ⟨((jZ0 c d).1 h.1).2,h.2⟩⟩⟩
  ·exact ⟨fun h=>⟨trivial,h⟩,fun h=>h.2⟩
end
theorem jZe (b c:Blk) {q:Prop}:samePB b c q ↔ samePB b c True ∧ q:=by
 cases b with
 | cells cs =>
  cases c with
  | cells ds=>exact jJc cs ds
  | _=>exact ⟨fun h=>⟨trivial,h⟩,fun h=>h.2⟩
 | _=>exact ⟨fun h=>⟨trivial,h⟩,fun h=>h.2⟩
theorem samePH_iff:∀ (h h':List Blk) {q:Prop},samePH h h' q ↔ samePH h h' True ∧ q
 | [],_,q=>⟨fun h=>⟨trivial,h⟩,fun h=>h.2⟩
 | b :: h,l,q=>by
  unfold samePH
  split
  ·rename_i c h'
   exact ⟨fun k=>⟨(jZe b c).2 ⟨((jZe b c).1 k).1,((samePH_iff h h').1 ((jZe b c).1 k).2).1⟩,((samePH_iff h h').1 ((jZe b c).1 k).2).2⟩,
    fun k=>(jZe b c).2 ⟨((jZe b c).1 k.1).1,(samePH_iff h h').2 ⟨((jZe b c).1 k.1).2,k.2⟩⟩⟩
  ·exact ⟨fun h=>⟨trivial,h⟩,fun h=>h.2⟩
theorem samePH_get:∀ {h h':List Blk} {k:Nat} {b c:Blk},samePH h h' True → h[k]? = some b → h'[k]? = some c → samePB b c True
 | [],_,_,_,_,_,hb,_=>by simp at hb
 | _ :: _,[],_,_,_,_,_,hc=>by simp at hc
 | b0 :: h,c0 :: h',0,b,c,hs,hb,hc=>by
  simp only [List.getElem?_cons_zero,Option.some.injEq] at hb hc
  subst hb hc
  exact ((jZe b0 c0).1 hs).1
 | b0 :: h,c0 :: h',k + 1,b,c,hs,hb,hc=>samePH_get ((jZe b0 c0).1 hs).2 (by simpa using hb) (by simpa using hc)
theorem cast?_self:∀ (t:Ty) (x:t.den),∃ z,cast? t t x = some z:=by
 intro t x
 unfold cast?
 generalize decEq t t = d
 cases d with
 | isTrue h=>exact ⟨_,rfl⟩
 | isFalse h=>exact absurd rfl h
mutual
theorem sameP_refl {ks:List Nat}:∀ (v:AV),sameP (keepC ks v) v True
 | .rp t x=>by
  unfold keepC
  split
  case isFalse=>trivial
  unfold sameP
  simp only
  obtain ⟨z,hz⟩:=cast?_self t x
  rw [hz]
  obtain ⟨e,ez⟩:=cast?_spec hz
  exact ⟨ez,trivial⟩
 | .fn f cs=>by
  unfold keepC sameP
  exact jK4 cs
 | .bnd f cs=>by
  unfold keepC sameP
  exact jK4 cs
 | .sl k=>by
  unfold keepC
  split <;> trivial
 | .own _ _ | .sv _ _ _ _ | .glb _ | .oix _ _ _ _ | .osl _ _ _ _ _ | .slpf _ _ _ _ | .ssl _ _ | .yld _ | .nils | .nilf | .nilp | .junk | .und
 | .tt | .ff | .d _ _ | .fs _ _ | .agg _ | .tup _ | .slp _ _ _=>trivial
theorem jK4 {ks:List Nat}:∀ (l:List AV),samePs (keepCs ks l) l True
 | []=>trivial
 | v :: l=>by
  unfold keepCs samePs
  exact (jZ0 _ _).2 ⟨sameP_refl v,jK4 l⟩
end
theorem samePH_refl {ks:List Nat} {fs:List (List AV)}:∀ {i:Nat} (h:List Blk),samePH (jJt ks fs i h) h True
 | _,[]=>trivial
 | i,b :: h=>by
  have ih:=samePH_refl (ks:=ks) (fs:=fs) (i:=i + 1) h
  cases b with
  | cells cs=>exact (jJc _ _).2 ⟨jK4 cs,ih⟩
  | loop f p ph ts =>
   unfold jJt
   split <;> exact ih
  | kmap es =>
   unfold jJt
   split <;> exact ih
  | _=>exact ih
mutual
theorem sameC_rel {Ψ:Pr} {β:List Value} {Ψ':Pr} {β1 β':List Value} (hb:∀ (k:Nat) (v u:Value),β[k]? = some u → β1[k]? = some v → β'[k]? = some v):∀ (t s:AV) (u v:Value),RelV Ψ β t u → RelV Ψ' β1 s v → sameC t s = true → sameP t s True → RelV Ψ' β' t v
 | .own _ _,s,u,v,ht,hr,hs,_=>by
  unfold sameC at hs
  split at hs
  ·simp only [Bool.and_eq_true,Nat.beq_eq] at hs
   obtain ⟨rfl,rfl⟩:=hs
   obtain ⟨g,hg,_⟩:=ht
   obtain ⟨g',hg',e'⟩:=hr
   exact ⟨g',hb _ _ _ hg hg',e'⟩
  ·cases hs
 | .sl _,s,u,v,ht,hr,hs,_=>by
  unfold sameC at hs
  split at hs
  ·simp only [Nat.beq_eq] at hs
   subst hs
   exact ⟨hb _ _ _ ht.1 hr.1,hr.2⟩
  ·cases hs
 | .fn f cs,s,u,v,⟨us,_,hl⟩,hr,hs,hp=>by
  unfold sameC at hs
  split at hs
  ·simp only [Bool.and_eq_true,Nat.beq_eq] at hs
   obtain ⟨rfl,hs⟩:=hs
   obtain ⟨vs,e',hl'⟩:=hr
   exact ⟨vs,e',sameCs_rel hb cs _ us vs hl hl' hs hp⟩
  ·cases hs
 | .bnd f cs,s,u,v,⟨us,_,hl⟩,hr,hs,hp=>by
  unfold sameC at hs
  split at hs
  ·simp only [Bool.and_eq_true,Nat.beq_eq] at hs
   obtain ⟨rfl,hs⟩:=hs
   obtain ⟨vs,e',hl'⟩:=hr
   exact ⟨vs,e',sameCs_rel hb cs _ us vs hl hl' hs hp⟩
  ·cases hs
 | .sv _ _ _ _,_,_,_,_,_,hs,_=>by simp [sameC] at hs
 | .glb _,_,_,_,_,_,hs,_=>by simp [sameC] at hs
 | .oix _ _ _ _,_,_,_,_,_,hs,_=>by simp [sameC] at hs
 | .osl _ _ _ _ _,_,_,_,_,_,hs,_=>by simp [sameC] at hs
 | .slpf _ _ _ _,_,_,_,_,_,hs,_=>by simp [sameC] at hs
 | .ssl _ _,_,_,_,_,_,hs,_=>by simp [sameC] at hs
 | .yld _,s,u,v,ht,hr,hs,_=>by
  unfold sameC at hs
  split at hs
  ·simp only [Nat.beq_eq] at hs
   subst hs
   obtain ⟨l,h,_⟩:=ht
   obtain ⟨l',h',e'⟩:=hr
   exact ⟨l',hb _ _ _ h h',e'⟩
  ·cases hs
 | .nils,s,u,v,ht,hr,hs,_=>by
  unfold sameC at hs
  split at hs
  ·exact hr
  ·cases hs
 | .nilf,s,u,v,ht,hr,hs,_=>by
  unfold sameC at hs
  split at hs
  ·exact hr
  ·cases hs
 | .nilp,s,u,v,ht,hr,hs,_=>by
  unfold sameC at hs
  split at hs
  ·exact hr
  ·cases hs
 | .junk,_,_,_,_,_,_,_=>trivial
 | .und,_,_,_,_,_,hs,_=>by simp [sameC] at hs
 | .tt,_,_,_,_,_,hs,_=>by simp [sameC] at hs
 | .ff,_,_,_,_,_,hs,_=>by simp [sameC] at hs
 | .d _ _,_,_,_,_,_,hs,_=>by simp [sameC] at hs
 | .fs _ _,_,_,_,_,_,hs,_=>by simp [sameC] at hs
 | .agg _,_,_,_,_,_,hs,_=>by simp [sameC] at hs
 | .tup _,_,_,_,_,_,hs,_=>by simp [sameC] at hs
 | .slp _ _ _,_,_,_,_,_,hs,_=>by simp [sameC] at hs
 | .rp t x,s,u,v,ht,hr,hs,hp=>by
  unfold sameC at hs
  split at hs
  ·unfold sameP at hp
   simp only at hp
   split at hp
   ·rename_i hc
    obtain ⟨e,ez⟩:=cast?_spec hc
    subst e
    rw [hp.1] at ez
    rw [← show _ = x from ez]
    exact hr
   ·exact hp.elim
  ·cases hs
theorem sameCs_rel {Ψ:Pr} {β:List Value} {Ψ':Pr} {β1 β':List Value} (hb:∀ (k:Nat) (v u:Value),β[k]? = some u → β1[k]? = some v → β'[k]? = some v):∀ (ts ss:List AV) (us vs:List Value),RelL Ψ β ts us → RelL Ψ' β1 ss vs → sameCs ts ss = true → samePs ts ss True → RelL Ψ' β' ts vs
 | [],ss,_,_,_,hr,hs,_=>by
  unfold sameCs at hs
  split at hs
  ·exact hr
  ·cases hs
 | t :: ts,ss,us0,vs0,⟨u,us,_,hu,hus⟩,hr,hs,hp=>by
  unfold sameCs at hs
  split at hs
  ·simp only [Bool.and_eq_true] at hs
   obtain ⟨v,vs,e,hv,hvs⟩:=hr
   have hp:=(jZ0 t _).1 hp
   exact ⟨v,vs,e,sameC_rel hb t _ u v hu hv hs.1 hp.1,sameCs_rel hb ts _ us vs hus hvs hs.2 hp.2⟩
  ·cases hs
end
theorem kkEq_eq {a b:KK} (h:kkEq a b = true):a = b:=by
 cases a <;> cases b <;> simp only [kkEq,decide_eq_true_eq] at h
 ·rw [h]
 ·cases h
 ·cases h
 ·rw [h]
theorem fnBeq_eq {a b:AV} (h:fnBeq a b = true):a = b:=by
 unfold fnBeq at h
 split at h
 ·rw [Nat.eq_of_beq_eq_true h]
 ·cases h
theorem kmBeq_eq:∀ {l m:List (KK × AV)},kmBeq l m = true → l = m
 | [],[],_=>rfl
 | (n,f) :: l,(m,g) :: k,h=>by
  simp only [kmBeq,Bool.and_eq_true] at h
  rw [kkEq_eq h.1.1,fnBeq_eq h.1.2,kmBeq_eq h.2]
 | [],_ :: _,h=>by simp [kmBeq] at h
 | _ :: _,[],h=>by simp [kmBeq] at h
theorem kmBeq_plain:∀ {l m:List (KK × AV)},kmBeq l m = true → ∀ {Ψ Ψ':Pr} {β β':List Value} {us:List Value},RelL Ψ β (l.map Prod.snd) us → RelL Ψ' β' (l.map Prod.snd) us
 | [],_,_,_,_,_,_,us,hr=>hr
 | (n,f) :: l,[],h,_,_,_,_,_,_=>by simp [kmBeq] at h
 | (n,f) :: l,(m,g) :: k,h,_,_,_,_,us,hr=>by
  simp only [kmBeq,Bool.and_eq_true] at h
  obtain ⟨u,us,rfl,h1,h2⟩:=hr
  refine ⟨u,us,rfl,?_,kmBeq_plain h.2 h2⟩
  have hf:=h.1.2
  unfold fnBeq at hf
  split at hf
  ·exact h1
  ·cases hf
theorem natsBeq_eq:∀ {l m:List Nat},natsBeq l m = true → l = m
 | [],[],_=>rfl
 | n :: l,m :: k,h=>by
  simp only [natsBeq,Bool.and_eq_true,Nat.beq_eq] at h
  obtain ⟨rfl,h⟩:=h
  rw [natsBeq_eq h]
 | [],_ :: _,h=>by simp [natsBeq] at h
 | _ :: _,[],h=>by simp [natsBeq] at h
theorem phBeq_eq {p q:Ph} (h:phBeq p q = true):p = q:=by
 unfold phBeq at h
 split at h
 ·rfl
 ·rfl
 ·rename_i e e'
  unfold exBeq at h
  split at h
  ·rfl
  ·simp only [Nat.beq_eq] at h; subst h; rfl
  ·rfl
  ·cases h
 ·rfl
 ·cases h
theorem yldIn_get {k:Nat}:∀ {l:List AV},yldIn k l = true → ∃ i:Nat,l[i]? = some (.yld k)
 | [],h=>by simp [yldIn] at h
 | x :: l,h=>by
  unfold yldIn at h
  split at h
  ·rename_i e; cases e
  ·rename_i j l' e
   simp only [List.cons.injEq] at e
   obtain ⟨rfl,rfl⟩:=e
   simp only [Bool.or_eq_true,Nat.beq_eq] at h
   rcases h with rfl | h
   ·exact ⟨0,rfl⟩
   ·obtain ⟨i,hi⟩:=yldIn_get h
    exact ⟨i + 1,by simpa using hi⟩
  ·rename_i e
   simp only [List.cons.injEq] at e
   obtain ⟨rfl,rfl⟩:=e
   obtain ⟨i,hi⟩:=yldIn_get h
   exact ⟨i + 1,by simpa using hi⟩
theorem fget_some:∀ {l:List AV} {i:Nat} {v:AV},l[i]? = some v → fget l i = v
 | [],_,_,h=>by simp at h
 | x :: l,0,v,h=>by simpa [fget] using h
 | x :: l,i + 1,v,h=>by simpa [fget] using fget_some (l:=l) (i:=i) (by simpa using h)
theorem RelL_yld {k i:Nat} {l:List AV} {vs:List Value} (h:RelL Ψ β l vs) (hi:l[i]? = some (.yld k)):∃ n,β[k]? = some (yldV n) ∧ vs[i]? = some (yldV n):=by
 have hlt:i < l.length:=by
  rcases Nat.lt_or_ge i l.length with h' | h'
  ·exact h'
  ·rw [List.getElem?_eq_none h'] at hi; cases hi
 obtain ⟨u,hu,hr⟩:=jQ7? _ _ h i hlt
 have:fget l i = .yld k:=fget_some hi
 rw [this] at hr
 obtain ⟨n,h1,rfl⟩:=hr
 exact ⟨n,h1,hu⟩
theorem yldF_same {Ψ':Pr} {β':List Value} {k:Nat}:∀ {fs:List (List AV)} {as:List Act},yldInF k fs = true → RelF Ψ β fs as → RelF Ψ' β' fs as → ∃ n,β[k]? = some (yldV n) ∧ β'[k]? = some (yldV n)
 | [],_,h,_,_=>by simp [yldInF] at h
 | f :: fs,_,h,⟨a,as,e,⟨_,hl⟩,hr⟩,⟨a',as',e',⟨_,hl'⟩,hr'⟩=>by
  rw [e] at e'
  simp only [List.cons.injEq] at e'
  obtain ⟨rfl,rfl⟩:=e'
  simp only [yldInF,Bool.or_eq_true] at h
  rcases h with h | h
  ·obtain ⟨i,hi⟩:=yldIn_get h
   obtain ⟨n,h1,h2⟩:=RelL_yld hl hi
   obtain ⟨n',h1',h2'⟩:=RelL_yld hl' hi
   rw [h2] at h2'
   simp only [Option.some.injEq] at h2'
   exact ⟨n,h1,by rw [h1',← h2']⟩
  ·exact yldF_same h hr hr'
theorem forget_yld {ks ws:List Nat} {k:Nat}:∀ {l:List AV} {i j:Nat},(jZy ks ws i l)[j]? = some (.yld k) → i + j ∉ ws
 | [],_,_,h=>by simp [jZy] at h
 | v :: vs,i,0,h=>by
  simp only [jZy,List.getElem?_cons_zero,Option.some.injEq] at h
  intro hm
  rw [if_pos (memN_iff.2 (by simpa using hm))] at h
  cases h
 | v :: vs,i,j + 1,h=>by
  simp only [jZy,List.getElem?_cons_succ] at h
  have:=forget_yld h
  rwa [show i + (j + 1) = i + 1 + j by omega]
theorem yldT_same {Ψ':Pr} {β':List Value} {k:Nat} {ks ws:List Nat} {top:List AV} {fs:List (List AV)} {ah:Act} (h:yldInF k (jZy ks ws 0 top :: fs) = true) (hh:RelF Ψ β (jZy ks ws 0 top :: fs) (ah :: As)) (hn:RelF Ψ' β' (jZy ks ws 0 top :: fs) (a :: As))
 (hs:∀ t,t ∉ ws → a.tmps[t]? = ah.tmps[t]?):∃ n,β[k]? = some (yldV n) ∧ β'[k]? = some (yldV n):=by
 obtain ⟨a1,as1,e1,⟨_,hl⟩,hr⟩:=hh
 obtain ⟨a2,as2,e2,⟨_,hl'⟩,hr'⟩:=hn
 simp only [List.cons.injEq] at e1 e2
 obtain ⟨rfl,rfl⟩:=e1
 obtain ⟨rfl,rfl⟩:=e2
 simp only [yldInF,Bool.or_eq_true] at h
 rcases h with h | h
 ·obtain ⟨i,hi⟩:=yldIn_get h
  obtain ⟨n,h1,h2⟩:=RelL_yld hl hi
  obtain ⟨n',h1',h2'⟩:=RelL_yld hl' hi
  have hw:=hs i (by have:=forget_yld hi; simpa using this)
  simp only [Array.getElem?_toList] at h2 h2'
  rw [hw,h2] at h2'
  simp only [Option.some.injEq] at h2'
  exact ⟨n,h1,by rw [h1',← h2']⟩
 ·exact yldF_same h hr hr'
theorem havocH_len {ks:List Nat} {fs:List (List AV)}:∀ {h:List Blk} {i:Nat},(jJt ks fs i h).length = h.length
 | [],_=>rfl
 | b0 :: h,i=>by cases b0 <;> simp [jJt,havocH_len (h:=h)]
def havB (ks:List Nat) (fs:List (List AV)) (i:Nat):Blk → Blk
 | .cells cs=>.cells (keepCs ks cs)
 | .kmap es=>if plainK es then .kmap es else .gone
 | .loop f p ph ts=>if yldInF i fs then .loop f p ph (noSlps ks ts) else .gone
 | _=>.gone
theorem havocH_get {ks:List Nat} {fs:List (List AV)}:∀ {h:List Blk} {i k:Nat} {b:Blk},(jJt ks fs i h)[k]? = some b → ∃ b0,h[k]? = some b0 ∧ b = havB ks fs (i + k) b0
 | [],_,_,_,hb=>by simp [jJt] at hb
 | b0 :: h,i,0,b,hb=>by
  refine ⟨b0,rfl,?_⟩
  cases b0 <;> simpa [jJt,havB] using hb.symm
 | b0 :: h,i,k + 1,b,hb=>by
  have:(jJt ks fs i (b0 :: h))[k + 1]? = (jJt ks fs (i + 1) h)[k]?:=by cases b0 <;> simp [jJt]
  rw [this] at hb
  obtain ⟨b1,h1,h2⟩:=havocH_get hb
  exact ⟨b1,by simpa using h1,by rwa [show i + (k + 1) = i + 1 + k by omega]⟩
theorem havB_rel {P:Program} {ks:List Nat} {fs:List (List AV)} {i k:Nat} {b:Blk} (h:BlkR P B Ψ β w k b):BlkR P B Ψ β w k (havB ks fs i b):=by
 cases b with
 | gone=>trivial
 | cells cs =>
  obtain ⟨g,c,e,h1,h2,h3,h4,h5⟩:=h
  exact ⟨g,c,e,h1,h2,h3,keepCs_rel _ _ h4,h5⟩
 | log _ _ _ _=>trivial
 | lof _ _ _=>trivial
 | grow _ _ _=>trivial
 | kmap es =>
  unfold havB
  simp only
  split
  ·exact h
  ·trivial
 | dmap _ _=>trivial
 | diter _ _ _=>trivial
 | dat _ _=>trivial
 | siter _ _=>trivial
 | loop f p ph ts =>
  unfold havB
  simp only
  split
  ·obtain ⟨l,r,h1,h2,h3,h4,h5,h6⟩:=h
   exact ⟨l,r,h1,h2,h3,h4,noSlps_rel h5,h6⟩
  ·trivial
theorem sameBs_get:∀ {h h':List Blk} {k:Nat} {b:Blk},sameBs h h' = true → h[k]? = some b → ∃ c,h'[k]? = some c ∧ sameB b c = true
 | [],_,_,_,_,hb=>by simp at hb
 | _ :: _,[],_,_,h,_=>by simp [sameBs] at h
 | b0 :: h,c0 :: h',0,b,hs,hb=>by
  simp only [sameBs,Bool.and_eq_true] at hs
  simp only [List.getElem?_cons_zero,Option.some.injEq] at hb
  subst hb
  exact ⟨c0,rfl,hs.1⟩
 | b0 :: h,c0 :: h',k + 1,b,hs,hb=>by
  simp only [sameBs,Bool.and_eq_true] at hs
  obtain ⟨c,h1,h2⟩:=sameBs_get hs.2 (by simpa using hb)
  exact ⟨c,by simpa using h1,h2⟩
theorem sameBs_len:∀ {h h':List Blk},sameBs h h' = true → h.length ≤ h'.length
 | [],_,_=>Nat.zero_le _
 | _ :: _,[],h=>by simp [sameBs] at h
 | b0 :: h,c0 :: h',hs=>by
  simp only [sameBs,Bool.and_eq_true] at hs
  have:=sameBs_len hs.2
  simp
  omega
theorem sameB_rel {P:Program} {Ψ':Pr} {β1 β':List Value} {wh:World} {k:Nat} {b c:Blk} (hle:PLe Ψ Ψ') (hb:∀ (k:Nat) (v u:Value),β[k]? = some u → β1[k]? = some v → β'[k]? = some v) (hl:∀ (j:Nat) (v:Value),β'[j]? = some v → β1[j]? = some v)
 (hy:∀ f p ph ts,b = .loop f p ph ts → ∃ n,β[k]? = some (yldV n) ∧ β'[k]? = some (yldV n)) {Bh:Nat → Prop} (h0:BlkR P Bh Ψ β wh k b) (h1:BlkR P B Ψ' β1 w k c) (hs:sameB b c = true) (hsp:samePB b c True) :
 BlkR P B Ψ' β' w k b ∧ ∀ g,jQb β' k g b → jQb β1 k g c:=by
 cases b with
 | gone=>exact ⟨trivial,fun g hc=>hc.elim⟩
 | cells cs =>
  cases c with
  | cells ds =>
   obtain ⟨g,c,e,a1,a2,a3,a4,a5⟩:=h0
   obtain ⟨g',c',e',b1,b2,b3,b4,b5⟩:=h1
   exact ⟨⟨g',c',e',hb k _ _ a1 b1,b2,b3,sameCs_rel hb cs ds _ _ a4 b4 hs hsp,b5⟩,fun g hc=>hl _ _ hc⟩
  | _=>simp [sameB] at hs
 | log _ _ _ _=>simp [sameB] at hs
 | lof _ _ _=>simp [sameB] at hs
 | grow _ _ _=>simp [sameB] at hs
 | dmap _ _=>simp [sameB] at hs
 | diter _ _ _=>simp [sameB] at hs
 | dat _ _=>simp [sameB] at hs
 | siter _ _=>simp [sameB] at hs
 | kmap es =>
  cases c with
  | kmap fs =>
   have hs:=hs
   have he:=kmBeq_eq hs
   subst he
   obtain ⟨g,ms,cl,a1,a2,a3,a4⟩:=h0
   obtain ⟨g',ms',cl',b1,b2,b3,b4⟩:=h1
   exact ⟨⟨g',ms',cl',hb k _ _ a1 b1,b2,b3,b4.1,kmBeq_plain hs b4.2.1,b4.2.2⟩,fun g hc=>hl _ _ hc⟩
  | _=>simp [sameB] at hs
 | loop f p ph ts =>
  cases c with
  | loop f' p' ph' ts' =>
   simp only [sameB,Bool.and_eq_true,Nat.beq_eq,jQ5] at hs
   obtain ⟨⟨⟨⟨rfl,hp⟩,hph⟩,hst⟩,hlen⟩:=hs
   have hp:=natsBeq_eq hp
   subst hp
   have hph:=phBeq_eq hph
   subst hph
   obtain ⟨n,y1,y2⟩:=hy f p ph ts rfl
   obtain ⟨l,r,a1,a2,a3,a4,a5,a6,a7,a8⟩:=h0
   obtain ⟨l',r',b1,b2,b3,b4,b5,b6,b7,b8⟩:=h1
   have e1:l = n:=by rw [a1] at y1; simpa [yldV] using y1
   have e2:l' = n:=by rw [hl _ _ y2] at b1; simpa [yldV] using b1.symm
   subst e1
   subst e2
   have hts:r.tmps = r'.tmps:=by
    have s1:=jXl _ _ a5
    have s2:=jXl _ _ b5
    simp only [Array.length_toList] at s1 s2
    apply Array.ext
    ·omega
    ·intro i h1 h2
     have e3:=hle _ _ (a7 i _ (Array.getElem?_eq_getElem h1))
     have e4:=b7 i _ (Array.getElem?_eq_getElem h2)
     rw [e3] at e4
     simpa using e4
   rw [hts] at a5
   exact ⟨⟨l',r',y2,b2,b3,b4,jJa hle hb ts ts' _ a5 b5 hst,b6,b7,b8⟩,fun g hc=>hl _ _ hc⟩
  | _=>simp [sameB] at hs
structure Good (C:Ctx) (B:Nat → Prop) (Ψ:Pr) (β β':List Value) (s σ:St) (n:Nat) (a:Act) (As:List Act) (w:World):Prop where
 len:σ.heap.length = n
 fr:RelF Ψ β' (σ.top :: σ.below) (a :: As)
 blk:∀ k b,σ.heap[k]? = some b → BlkR C.P B Ψ β' w k b ∧ ∀ g,jQb β' k g b → ∃ b'',s.heap[k]? = some b'' ∧ jQb β k g b''
theorem jQ0 {l:List Value} {n k:Nat} (h:k < n):(l.take n)[k]? = l[k]?:=by rw [List.getElem?_take,if_pos h]
theorem Good.setBlk {s σ:St} {n k:Nat} {b b0:Blk} {β':List Value} (hg:Good C B Ψ β β' s σ n a As w) (_hk:σ.heap[k]? = some b0) (hb:BlkR C.P B Ψ β' w k b) (hc:∀ g,jQb β' k g b → ∃ b'',s.heap[k]? = some b'' ∧ jQb β k g b'') :
 Good C B Ψ β β' s { σ with heap:=σ.heap.set k b } n a As w where
 len:=by simpa using hg.len
 fr:=hg.fr
 blk:=fun j b1 hj=>by
  by_cases hjk:j = k
  ·subst hjk
   simp only at hj
   rw [List.getElem?_set_self (jKl _hk)] at hj
   simp at hj
   subst hj
   exact ⟨hb,hc⟩
  ·simp only at hj
   rw [List.getElem?_set_ne (Ne.symm hjk)] at hj
   exact hg.blk j b1 hj
theorem Good.setTop {s σ:St} {n i:Nat} {av:AV} {β':List Value} {v:Value} (hg:Good C B Ψ β β' s σ n a As w) (ht:a.tmps[i]? = some v) (hv:RelV Ψ β' av v):Good C B Ψ β β' s { σ with top:=fset σ.top i av } n a As w where
 len:=hg.len
 fr:=put_some_rel (s:=σ) hg.fr ht hv
 blk:=hg.blk
theorem Good.setTop' {s σ:St} {n i:Nat} {av:AV} {β':List Value} (hg:Good C B Ψ β β' s σ n a As w) (hv:∀ v,a.tmps[i]? = some v → RelV Ψ β' av v):Good C B Ψ β β' s { σ with top:=fset σ.top i av } n a As w:=by
 cases hx:a.tmps[i]? with
 | some v=>exact hg.setTop hx (hv v hx)
 | none =>
  have:fset σ.top i av = σ.top:=by
   rw [fset_eq]
   apply List.set_eq_of_length_le
   have:=jXl _ _ (jQk hg.fr).2
   have h2:a.tmps.size ≤ i:=by simpa using hx
   rw [Array.length_toList] at this
   omega
  rw [this]
  exact hg
def LaOk (s0 s:St) (n:Nat):LA → Prop
 | .gslot i tid e=>laSl s0 (.gslot i tid e) = none ∨ ∃ j,laSl s0 (.gslot i tid e) = some j ∧ laSl s (.gslot i tid e) = some j ∧ j < n
 | .gcell k off tid e=>laSl s0 (.gcell k off tid e) = none ∨ ∃ j,laSl s0 (.gcell k off tid e) = some j ∧ laSl s (.gcell k off tid e) = some j ∧ j < n
 | _=>True
theorem setLA_good {s s0 σ:St} {n:Nat} (la:LA) {x:la.ty.den} (hi:InvH C.P B w0 Ψ β s.heap w) (hf:RelF Ψ β (s.top :: s.below) (a :: As)) (hn:n ≤ s.heap.length) (hx:getLA s la = some x)
 (hA:LaOk s0 s n la) (hg:Good C B Ψ β (β.take n) s σ n a As w):Good C B Ψ β (β.take n) s (setLA s0 σ la x) n a As w:=by
 cases la with
 | slot i t =>
  have hx:(if jZx [fget s.top i] = true then asD s.heap t (fget s.top i) else none) = some (x:t.den):=hx
  split at hx
  ·rename_i hnr
   have hrefs:refs (fget s.top i) = []:=by
    have:=jZ5 hnr
    simpa [refsA] using this
   refine hg.setTop' fun v hv=>?_
   have h1:=jQ7 _ _ (jQk hf).2 i
   rw [jKm,hv] at h1
   exact jKj (PLe.refl _) hx h1 (by rw [hrefs]; exact Reading.nil)
  ·cases hx
 | cell k off t =>
  simp only [setLA]
  split
  ·rename_i cs hcs
   have hx:(match hget s.heap k with | .cells cs=>if !t.isAgg && jZx [fget cs off] && Nat.ble (off + 1) (jXi cs) then asD1 s.heap t (fget cs off) else none | _=>none) = some (x:t.den):=hx
   split at hx
   ·rename_i cs1 hcs1
    have hx:(if (!t.isAgg && jZx [fget cs1 off] && Nat.ble (off + 1) (jXi cs1)) = true then asD1 s.heap t (fget cs1 off) else none) = some (x:t.den):=hx
    split at hx
    ·rename_i hc
     simp only [Bool.and_eq_true,Bool.not_eq_true',Nat.ble_eq,jQ5] at hc
     obtain ⟨⟨hag,hnr⟩,hle⟩:=hc
     have hσk:=jQc hcs (by simp)
     obtain ⟨hB,hC⟩:=hg.blk k _ hσk
     obtain ⟨g,c,e,h1,h2,h3,h4,h5⟩:=hB
     have hkn:k < n:=by rw [← hg.len]; exact jKl hσk
     rw [jQ0 hkn] at h1
     obtain ⟨g1,c1,e1,h1',h2',h3',h4',h5'⟩:=hi.blk k _ (jQc hcs1 (by simp))
     rw [h1] at h1'
     simp at h1'
     subst h1'
     rw [h2] at h2'
     simp at h2'
     obtain ⟨rfl,rfl⟩:=h2'
     obtain ⟨u,hu,hrel⟩:=jQ7? _ _ h4' off (by omega)
     have hrefs:refs1 (fget cs1 off) = []:=by
      have:=jZ5 hnr
      simp only [refsA,List.append_nil] at this
      cases hfx:fget cs1 off <;> simp_all [refs,refs1]
     have hrv:=asD1_rv (PLe.refl Ψ) hx hrel (by rw [hrefs]; exact Reading.nil)
     rw [jQp]
     refine hg.setBlk hσk ⟨g,c,e,by rw [jQ0 hkn]; exact h1,h2,h3,?_,h5⟩ (fun g' hc'=>hC g' hc')
     have:=RelL_set (β:=β.take n) (u:=u) (av:=.d t x) hrv cs c.toList off h4
     have hcu:c.toList.set off u = c.toList:=put_some_rel.List.set_getElem?_self' hu
     rwa [hcu] at this
    ·cases hx
   ·cases hx
  ·exact hg
 | gslot i tid e =>
  rcases hA with hA | hA
  ·simp only [setLA]
   rw [hA]
   exact hg
  obtain ⟨j,hj0,hj,hjn⟩:=hA
  simp only [setLA]
  rw [hj0]
  simp only
  simp only [laSl] at hj
  simp only [getLA] at hx
  split at hj
  ·rename_i k hk
   simp at hj
   subst hj
   simp only [hk] at hx
   have hx:(match hget s.heap k with | .grow tid' e' xs=>if Nat.beq tid tid' then cast? (.arr e') (.arr e) xs else none | _=>none) = some (x:List e.den):=hx
   split at hx
   ·rename_i tid' e' xs hgr
    have hx:(if Nat.beq tid tid' = true then cast? (.arr e') (.arr e) xs else none) = some (x:(Ty.arr e).den):=hx
    by_cases htid:Nat.beq tid tid' = true
    ·have htid':tid = tid':=by simpa [Nat.beq_eq] using htid
     subst htid'
     have hx:cast? (.arr e') (.arr e) xs = some x:=(if_pos htid).symm.trans hx
     obtain ⟨he,rfl⟩:=cast?_spec hx
     simp only [Ty.arr.injEq] at he
     subst he
     have hsk:=jQc hgr (by simp)
     have hB:=hi.blk k _ hsk
     have hσk:∃ b0,σ.heap[k]? = some b0:=⟨σ.heap[k]'(by rw [hg.len]; exact hjn),List.getElem?_eq_getElem _⟩
     obtain ⟨b0,hσk⟩:=hσk
     have g1:=hg.setTop' (i:=i) (av:=.sl k) (fun v hv=>by
      have h1:=jQ7 _ _ (jQk hf).2 i
      rw [jKm,hv,hk] at h1
      refine ⟨?_,h1.2⟩
      rw [jQ0 hjn]
      exact h1.1)
     have g2:=g1.setBlk (b:=.grow tid e' xs) hσk (by
      rcases hB with ⟨ad,h1,h2⟩ | ⟨g,cap,cur,h1,r⟩
      ·exact .inl ⟨ad,by rw [jQ0 hjn]; exact h1,h2⟩
      ·exact .inr ⟨g,cap,cur,by rw [jQ0 hjn]; exact h1,r⟩) (fun g hc=>⟨_,hsk,by
       obtain ⟨m,cap,h1,h2⟩:=hc
       rw [jQ0 hjn] at h2
       exact ⟨m,cap,h1,h2⟩⟩)
     rw [jQp]
     exact g2
    ·have hx:none = some x:=(if_neg htid).symm.trans hx
     cases hx
   ·cases hx
  ·cases hj
 | gcell k off tid e =>
  rcases hA with hA | hA
  ·simp only [setLA]
   rw [hA]
   exact hg
  obtain ⟨j,hj0,hj,hjn⟩:=hA
  simp only [setLA]
  rw [hj0]
  simp only
  simp only [laSl] at hj
  simp only [getLA] at hx
  split at hj
  ·rename_i cs1 hcs1
   split at hj
   ·rename_i j' hjc
    simp at hj
    subst hj
    have hx:(match hget s.heap k with | .cells cs=>(match fget cs off with | .sl j=>(match hget s.heap j with | .grow tid' e' xs=>if Nat.beq tid tid' then cast? (.arr e') (.arr e) xs else none | _=>none) | _=>none) | _=>none) = some (x:List e.den):=hx
    simp only [hcs1,hjc] at hx
    split at hx
    ·rename_i tid' e' xs hgr
     have hx:(if Nat.beq tid tid' = true then cast? (.arr e') (.arr e) xs else none) = some (x:(Ty.arr e).den):=hx
     by_cases htid:Nat.beq tid tid' = true
     ·have htid':tid = tid':=by simpa [Nat.beq_eq] using htid
      subst htid'
      have hx:cast? (.arr e') (.arr e) xs = some x:=(if_pos htid).symm.trans hx
      obtain ⟨he,rfl⟩:=cast?_spec hx
      simp only [Ty.arr.injEq] at he
      subst he
      split
      ·rename_i cs hcs
       have hσk:=jQc hcs (by simp)
       obtain ⟨hB,hC⟩:=hg.blk k _ hσk
       obtain ⟨g,c,e1,h1,h2,h3,h4,h5⟩:=hB
       have hkn:k < n:=by rw [← hg.len]; exact jKl hσk
       rw [jQ0 hkn] at h1
       obtain ⟨g1,c1,e1',h1',h2',h3',h4',h5'⟩:=hi.blk k _ (jQc hcs1 (by simp))
       rw [h1] at h1'
       simp at h1'
       subst h1'
       rw [h2] at h2'
       simp at h2'
       obtain ⟨rfl,rfl⟩:=h2'
       have hoff:off < cs1.length:=by
        rcases Nat.lt_or_ge off cs1.length with h' | h'
        ·exact h'
        ·rw [fget_out h'] at hjc; cases hjc
       obtain ⟨u,hu,hrel⟩:=jQ7? _ _ h4' off hoff
       rw [hjc] at hrel
       have hrel':RelV Ψ (β.take n) (.sl j') u:=⟨by rw [jQ0 hjn]; exact hrel.1,hrel.2⟩
       have g1:=hg.setBlk (b:=.cells (fset cs off (.sl j'))) hσk ⟨g,c,e1,by rw [jQ0 hkn]; exact h1,h2,h3,(by
        have:=RelL_set (Ψ:=Ψ) (β:=β.take n) (u:=u) (av:=.sl j') hrel' cs c.toList off h4
        have hcu:c.toList.set off u = c.toList:=put_some_rel.List.set_getElem?_self' hu
        rwa [hcu] at this),h5⟩ (fun g' hc'=>hC g' hc')
       have hsk:=jQc hgr (by simp)
       have hB:=hi.blk j' _ hsk
       have hσj:∃ b0,(σ.heap.set k (.cells (fset cs off (.sl j'))))[j']? = some b0:=⟨(σ.heap.set k (.cells (fset cs off (.sl j'))))[j']'(by rw [List.length_set,hg.len]; exact hjn),List.getElem?_eq_getElem _⟩
       obtain ⟨b0,hσj⟩:=hσj
       have g2:=g1.setBlk (b:=.grow tid e' xs) hσj (by
        rcases hB with ⟨ad,h1,h2⟩ | ⟨g,cap,cur,h1,r⟩
        ·exact .inl ⟨ad,by rw [jQ0 hjn]; exact h1,h2⟩
        ·exact .inr ⟨g,cap,cur,by rw [jQ0 hjn]; exact h1,r⟩) (fun g hc=>⟨_,hsk,by
         obtain ⟨m,cap,h1,h2⟩:=hc
         rw [jQ0 hjn] at h2
         exact ⟨m,cap,h1,h2⟩⟩)
       rw [jQp,jQp]
       exact g2
      ·exact hg
     ·have hx:none = some x:=(if_neg htid).symm.trans hx
      cases hx
    ·cases hx
   ·cases hj
  ·cases hj
 | keep k tid e =>
  simp only [getLA] at hx
  have hx:(match hget s.heap k with | .grow tid' e' xs=>if Nat.beq tid tid' then cast? (.arr e') (.arr e) xs else none | _=>none) = some (x:List e.den):=hx
  split at hx
  ·rename_i tid' e' xs hgr
   have hx:(if Nat.beq tid tid' = true then cast? (.arr e') (.arr e) xs else none) = some (x:(Ty.arr e).den):=hx
   by_cases htid:Nat.beq tid tid' = true
   ·have htid':tid = tid':=by simpa [Nat.beq_eq] using htid
    subst htid'
    have hx:cast? (.arr e') (.arr e) xs = some x:=(if_pos htid).symm.trans hx
    obtain ⟨he,rfl⟩:=cast?_spec hx
    simp only [Ty.arr.injEq] at he
    subst he
    have hsk:=jQc hgr (by simp)
    have hB:=hi.blk k _ hsk
    rcases Nat.lt_or_ge k n with hkn | hkn
    ·have hσk:∃ b0,σ.heap[k]? = some b0:=⟨σ.heap[k]'(by rw [hg.len]; exact hkn),List.getElem?_eq_getElem _⟩
     obtain ⟨b0,hσk⟩:=hσk
     have g2:=hg.setBlk (b:=.grow tid e' xs) hσk (by
      rcases hB with ⟨ad,h1,h2⟩ | ⟨g,cap,cur,h1,r⟩
      ·exact .inl ⟨ad,by rw [jQ0 hkn]; exact h1,h2⟩
      ·exact .inr ⟨g,cap,cur,by rw [jQ0 hkn]; exact h1,r⟩) (fun g hc=>⟨_,hsk,by
       obtain ⟨m,cap,h1,h2⟩:=hc
       rw [jQ0 hkn] at h2
       exact ⟨m,cap,h1,h2⟩⟩)
     simp only [setLA]
     rw [jQp]
     exact g2
    ·have hno:hset σ.heap k (.grow tid e' xs) = σ.heap:=by
      rw [jQp]
      exact List.set_eq_of_length_le (by rw [hg.len]; exact hkn)
     have:setLA s0 σ (.keep k tid e') xs = σ:=by
      show ({ σ with heap:=hset σ.heap k (.grow tid e' xs) }:St) = σ
      rw [hno]
     have hres:Good C B Ψ β (β.take n) s (setLA s0 σ (.keep k tid e') xs) n a As w:=by rw [this]; exact hg
     exact hres
   ·have hx:none = some x:=(if_neg htid).symm.trans hx
    cases hx
  ·cases hx
 | kmp k e =>
  simp only [getLA] at hx
  have hx:(match hget s.heap k with | .dmap e' xs=>cast? (.arr (.pair (.int .i64) e')) (.arr (.pair (.int .i64) e)) xs | _=>none) = some (x:List (Int × e.den)):=hx
  cases hgr:hget s.heap k with
  | dmap e0 xs =>
   rw [hgr] at hx
   have hx:cast? (.arr (.pair (.int .i64) e0)) (.arr (.pair (.int .i64) e)) xs = some (x:(Ty.arr (.pair (.int .i64) e)).den):=hx
   obtain ⟨he,rfl⟩:=cast?_spec hx
   simp only [Ty.arr.injEq,Ty.pair.injEq,true_and] at he
   subst he
   have hsk:=jQc hgr (by simp)
   have hB:=hi.blk k _ hsk
   rcases Nat.lt_or_ge k n with hkn | hkn
   ·have hσk:∃ b0,σ.heap[k]? = some b0:=⟨σ.heap[k]'(by rw [hg.len]; exact hkn),List.getElem?_eq_getElem _⟩
    obtain ⟨b0,hσk⟩:=hσk
    have g2:=hg.setBlk (b:=Blk.dmap e0 xs) hσk (by
     obtain ⟨g,ms,cl,h1,r⟩:=hB
     exact ⟨g,ms,cl,by rw [jQ0 hkn]; exact h1,r⟩) (fun g hc=>⟨_,hsk,by
      simp only [jQb] at hc ⊢
      rw [jQ0 hkn] at hc
      exact hc⟩)
    simp only [setLA]
    rw [jQp]
    exact g2
   ·have hno:hset σ.heap k (Blk.dmap e0 xs) = σ.heap:=by
     rw [jQp]
     exact List.set_eq_of_length_le (by rw [hg.len]; exact hkn)
    have:setLA s0 σ (.kmp k e0) xs = σ:=by
     show ({ σ with heap:=hset σ.heap k (Blk.dmap e0 xs) }:St) = σ
     rw [hno]
    have hres:Good C B Ψ β (β.take n) s (setLA s0 σ (.kmp k e0) xs) n a As w:=by rw [this]; exact hg
    exact hres
  | _=>rw [hgr] at hx; cases hx
 | kit k e =>
  simp only [getLA] at hx
  have hx:(match hget s.heap k with | .diter e' _ xs=>cast? (.arr (.pair (.int .i64) e')) (.arr (.pair (.int .i64) e)) xs | _=>none) = some (x:List (Int × e.den)):=hx
  cases hgr:hget s.heap k with
  | diter e0 last xs =>
   rw [hgr] at hx
   have hx:cast? (.arr (.pair (.int .i64) e0)) (.arr (.pair (.int .i64) e)) xs = some (x:(Ty.arr (.pair (.int .i64) e)).den):=hx
   obtain ⟨he,rfl⟩:=cast?_spec hx
   simp only [Ty.arr.injEq,Ty.pair.injEq,true_and] at he
   subst he
   have hsk:=jQc hgr (by simp)
   have hB:=hi.blk k _ hsk
   rcases Nat.lt_or_ge k n with hkn | hkn
   ·have hσk:∃ b0,σ.heap[k]? = some b0:=⟨σ.heap[k]'(by rw [hg.len]; exact hkn),List.getElem?_eq_getElem _⟩
    obtain ⟨b0,hσk⟩:=hσk
    have g2:=hg.setBlk (b:=Blk.diter e0 [] xs) hσk (by
     obtain ⟨g,gm,ms,cl,seen,h1,h2,h3,h4,h5,h6,h7,_⟩:=hB
     exact ⟨g,gm,ms,cl,seen,by rw [jQ0 hkn]; exact h1,h2,h3,h4,h5,h6,h7,.inl rfl⟩) (fun g hc=>⟨_,hsk,by
      simp only [jQb] at hc ⊢
      rw [jQ0 hkn] at hc
      exact hc⟩)
    simp only [setLA]
    rw [jQp]
    exact g2
   ·have hno:hset σ.heap k (Blk.diter e0 [] xs) = σ.heap:=by
     rw [jQp]
     exact List.set_eq_of_length_le (by rw [hg.len]; exact hkn)
    have:setLA s0 σ (.kit k e0) xs = σ:=by
     show ({ σ with heap:=hset σ.heap k (Blk.diter e0 [] xs) }:St) = σ
     rw [hno]
    have hres:Good C B Ψ β (β.take n) s (setLA s0 σ (.kit k e0) xs) n a As w:=by rw [this]; exact hg
    exact hres
  | _=>rw [hgr] at hx; cases hx
 | kdat k t =>
  simp only [getLA] at hx
  have hx:(match hget s.heap k with | .dat u y=>cast? u t y | _=>none) = some (x:t.den):=hx
  cases hgr:hget s.heap k with
  | dat u y =>
   rw [hgr] at hx
   have hx:cast? u t y = some (x:t.den):=hx
   obtain ⟨he,rfl⟩:=cast?_spec hx
   subst he
   have hsk:=jQc hgr (by simp)
   have hB:=hi.blk k _ hsk
   rcases Nat.lt_or_ge k n with hkn | hkn
   ·have hσk:∃ b0,σ.heap[k]? = some b0:=⟨σ.heap[k]'(by rw [hg.len]; exact hkn),List.getElem?_eq_getElem _⟩
    obtain ⟨b0,hσk⟩:=hσk
    have g2:=hg.setBlk (b:=Blk.dat u y) hσk (by
     obtain ⟨g,c,e,h1,r⟩:=hB
     exact ⟨g,c,e,by rw [jQ0 hkn]; exact h1,r⟩) (fun g hc=>⟨_,hsk,by
      simp only [jQb] at hc ⊢
      rw [jQ0 hkn] at hc
      exact hc⟩)
    simp only [setLA]
    rw [jQp]
    exact g2
   ·have hno:hset σ.heap k (Blk.dat u y) = σ.heap:=by
     rw [jQp]
     exact List.set_eq_of_length_le (by rw [hg.len]; exact hkn)
    have:setLA s0 σ (.kdat k u) y = σ:=by
     show ({ σ with heap:=hset σ.heap k (Blk.dat u y) }:St) = σ
     rw [hno]
    have hres:Good C B Ψ β (β.take n) s (setLA s0 σ (.kdat k u) y) n a As w:=by rw [this]; exact hg
    exact hres
  | _=>rw [hgr] at hx; cases hx
 | ksit k =>
  simp only [getLA] at hx
  have hx:(match hget s.heap k with | .siter m rest=>some (m,rest) | _=>none) = some (x:Int × List Int):=hx
  cases hgr:hget s.heap k with
  | siter m rest =>
   rw [hgr] at hx
   have hx:(m,rest) = x:=Option.some.inj hx
   subst hx
   have hsk:=jQc hgr (by simp)
   have hB:=hi.blk k _ hsk
   rcases Nat.lt_or_ge k n with hkn | hkn
   ·have hσk:∃ b0,σ.heap[k]? = some b0:=⟨σ.heap[k]'(by rw [hg.len]; exact hkn),List.getElem?_eq_getElem _⟩
    obtain ⟨b0,hσk⟩:=hσk
    have g2:=hg.setBlk (b:=Blk.siter m rest) hσk (by
     obtain ⟨g,c,e,h1,r⟩:=hB
     exact ⟨g,c,e,by rw [jQ0 hkn]; exact h1,r⟩) (fun g hc=>⟨_,hsk,by
      simp only [jQb] at hc ⊢
      rw [jQ0 hkn] at hc
      exact hc⟩)
    simp only [setLA]
    rw [jQp]
    exact g2
   ·have hno:hset σ.heap k (Blk.siter m rest) = σ.heap:=by
     rw [jQp]
     exact List.set_eq_of_length_le (by rw [hg.len]; exact hkn)
    have:setLA s0 σ (.ksit k) (m,rest) = σ:=by
     show ({ σ with heap:=hset σ.heap k (Blk.siter m rest) }:St) = σ
     rw [hno]
    have hres:Good C B Ψ β (β.take n) s (setLA s0 σ (.ksit k) (m,rest)) n a As w:=by rw [this]; exact hg
    exact hres
  | _=>rw [hgr] at hx; cases hx
theorem setLAs_good {s s0:St} {n:Nat} (hi:InvH C.P B w0 Ψ β s.heap w) (hf:RelF Ψ β (s.top :: s.below) (a :: As)) (hn:n ≤ s.heap.length):∀ (as:List LA) {σ:St} {x:dens (laTys as)},getLAs s as = some x →
 (∀ la ∈ as,LaOk s0 s n la) → Good C B Ψ β (β.take n) s σ n a As w → Good C B Ψ β (β.take n) s (setLAs s0 σ as x) n a As w
 | [],σ,x,_,_,hg=>hg
 | [la],σ,x,hx,hA,hg=>setLA_good la hi hf hn hx (hA la (by simp)) hg
 | la :: lb :: as,σ,x,hx,hA,hg=>by
  unfold getLAs at hx
  split at hx
  ·rename_i y hy
   split at hx
   ·rename_i z hz
    have hx:(y,z) = x:=Option.some.inj hx
    subst hx
    exact setLAs_good hi hf hn (lb :: as) hz (fun la' h'=>hA la' (by simp at h' ⊢; exact .inr h')) (setLA_good la hi hf hn hy (hA la (by simp)) hg)
   ·cases hx
  ·cases hx
end Go.AM
namespace Go.AM
open Go.RowKit
variable {B:Nat → Prop} {w0:World} {C:Ctx} {Ψ Ψ0:Pr} {β:List Value} {h:List Blk} {w w':World} {fr:List AV} {a a0:Act} {As:List Act} {W:List Nat}
theorem BlkR_le {P:Program} {Ψ':Pr} (hb:Below w.heap.size w w') (hle:PLe Ψ Ψ') {k:Nat} {b:Blk} (h:BlkR P B Ψ β w k b):BlkR P B Ψ' β w' k b:=by
 cases b with
 | gone=>trivial
 | log ys Y own xs=>exact jJl h (fun _ h=>h) hle.m hb.size fun g ho=>hb.block g (h.2.2.1 g ho).2
 | lof ys Y own=>exact jJm h (fun _ h=>h) hle.m hb.size fun g ho=>hb.block g (h.2.2.1 g ho).2
 | cells cs =>
  obtain ⟨g,c,e,h1,h2,h3,h4,h5⟩:=h
  exact ⟨g,c,e,h1,(hb.block g (jQm h2)).trans h2,h3,jQl hle (fun _ _ h=>h) _ _ h4,h5⟩
 | grow tid e xs =>
  refine h.imp id ?_
  rintro ⟨g,cap,cur,h1,h2,h3,h4,h5,h6,h7,h8⟩
  exact ⟨g,cap,cur,h1,h2,h3,(hb.block g (jQm h4)).trans h4,h5,h6,h7,jX3 (jQg hle e) _ _ h8⟩
 | kmap es =>
  obtain ⟨g,ms,cl,h1,h2,h3,h4,h5,h6⟩:=h
  exact ⟨g,ms,cl,h1,(hb.block g (jQm h2)).trans h2,h3,h4,jQl hle (fun _ _ h=>h) _ _ h5,h6⟩
 | dmap e m =>
  obtain ⟨g,ms,cl,h1,h2,h3,h4,h5⟩:=h
  exact ⟨g,ms,cl,h1,(hb.block g (jQm h2)).trans h2,h3,jZj hle h4,h5⟩
 | diter e last left =>
  obtain ⟨g,gm,ms,cl,seen,h1,h2,h3,h4,h5,h6⟩:=h
  exact ⟨g,gm,ms,cl,seen,h1,(hb.block g (jQm h2)).trans h2,h3,hle _ _ h4,jZj hle h5,h6.1,h6.2.1,h6.2.2.imp id fun ⟨p,x,s',a1,a2,a3,a4,a5,a6⟩=>⟨p,x,s',a1,a2,a3,a4,a5,rv_le hle a6⟩⟩
 | loop f p ph ts =>
  obtain ⟨l,r,h1,h2,h3,h4,h5,h6,h7,h8⟩:=h
  exact ⟨l,r,h1,(hb.block l (jQm h2)).trans h2,h3,h4,jQl hle (fun _ _ h=>h) _ _ h5,hle _ _ h6,fun i v hv=>hle _ _ (h7 i v hv),h8⟩
 | dat t x =>
  obtain ⟨g,c,e,h1,h2,h3,h4⟩:=h
  exact ⟨g,c,e,h1,(hb.block g (jQm h2)).trans h2,h3,jQg hle t x _ h4⟩
 | siter n rest =>
  obtain ⟨g,s,pos,h1,h2,h3⟩:=h
  exact ⟨g,s,pos,h1,(hb.block g (jQm h2)).trans h2,h3⟩
theorem InvH.stepP {Ψ':Pr} (hi:InvH C.P B w0 Ψ β h w) (hb:Below w.heap.size w w') (hle:PLe Ψ Ψ') (hnew:∀ a v,Ψ' a = some v → Ψ a = some v ∨ (w.heap.size ≤ a.block ∧ Pm w' a v)):InvH C.P B w0 Ψ' β h w' where
 low:=hi.low.trans (below_S hb hi.size)
 size:=fun k hk=>Nat.lt_of_lt_of_le (hi.size k hk) hb.size
 prom:=fun a v hv=>by
  rcases hnew a v hv with h' | ⟨_,h1⟩
  ·have h1:=hi.prom a v h'
   exact jKa (hb.block a.block (Pm_lt h1)) h1
  ·exact h1
 own:=fun a v hv hsp=>by
  rcases hnew a v hv with h' | ⟨h1,h2⟩
  ·exact hi.own a v h' hsp
  ·exact out_ge hi.size h1
 len:=hi.len
 one:=hi.one
 blk:=fun k b hk=>BlkR_le hb hle (hi.blk k b hk)
 free:=fun k b g hk hc a ha hsp=>by
  cases hp:Ψ' a with
  | none=>rfl
  | some v =>
   rcases hnew a v hp with h' | ⟨h1,_⟩
   ·rw [hi.free k b g hk hc a ha hsp] at h'; cases h'
   ·have:=(jQx (hi.blk k b hk) hc).2
    omega
 sep:=hi.sep
 glob:=hi.glob.le hle
theorem InvH.pushG {b:Blk} {u:Value} (hi:InvH C.P B w0 Ψ β h w) (hone:u.oneCell' = true) (hnew:BlkR C.P B Ψ (β ++ [u]) w h.length b)
 (hfree:∀ g,jQb (β ++ [u]) h.length g b → ∀ a,a.block = g → pl a → Ψ a = none) (hsep:∀ g,jQb (β ++ [u]) h.length g b → ∀ j bj,h[j]? = some bj → jQb β j g bj → False) :
 InvH C.P B w0 Ψ (β ++ [u]) (h ++ [b]) w:=by
 have lt:∀ {k:Nat} {b:Blk},h[k]? = some b → k < β.length:=fun {k b} hk=>by rw [hi.len]; exact jKl hk
 refine ⟨hi.low,hi.size,hi.prom,hi.own,by simp [hi.len],?_,?_,?_,?_,hi.glob⟩
 ·intro k v hk
  rcases getElem?_snoc hk with h1 | ⟨_,rfl⟩
  ·exact hi.one k v h1
  ·exact hone
 ·intro k b' hk
  rcases getElem?_snoc hk with h1 | ⟨rfl,rfl⟩
  ·exact BlkR_snoc u (hi.blk k b' h1)
  ·exact hnew
 ·intro k b' g hk hc ad had hsp
  rcases getElem?_snoc hk with h1 | ⟨rfl,rfl⟩
  ·exact hi.free k b' g h1 (jQr (lt h1) hc) ad had hsp
  ·exact hfree g hc ad had hsp
 ·intro j k bj bk g hjk hj hk hcj hck
  rcases getElem?_snoc hj with h1 | ⟨e1,rfl⟩ <;> rcases getElem?_snoc hk with h2 | ⟨e2,rfl⟩
  ·exact hi.sep j k bj bk g hjk h1 h2 (jQr (lt h1) hcj) (jQr (lt h2) hck)
  ·subst e2
   exact hsep g hck j bj h1 (jQr (lt h1) hcj)
  ·subst e1
   exact hsep g hcj k bk h2 (jQr (lt h2) hck)
  ·omega
def jKs (Ψ:Pr) (l:Nat) (tmps:Array Value):Pr:=fun a=>if a.block = l then (if a = lAddr l then some undef else if a.spot = some 2 then tmps[a.off]? else none) else Ψ a
def markPr (Ψ:Pr) (D:Nat):Pr:=fun a=>if a = dAddr D then some undef else Ψ a
theorem prom_lt (hi:InvH C.P B w0 Ψ β h w) {a:Addr} {v:Value} (hv:Ψ a = some v):a.block < w.heap.size:=Pm_lt (hi.prom a v hv)
theorem jJ7 (w:World) (o:Obj):(w.alloc o).heap[w.heap.size]? = some o:=World.alloc_heap_new w o
theorem enter_mark (hi:InvH C.P B w0 Ψ β h w):Ext B Ψ (markPr Ψ w.heap.size) ∧ markPr Ψ w.heap.size (dAddr w.heap.size) = some undef ∧ InvH C.P B w0 (markPr Ψ w.heap.size) β h (w.alloc (.deferred (some []))):=by
 have hle:PLe Ψ (markPr Ψ w.heap.size):=fun ad v hv=>by
  unfold markPr
  rw [if_neg]
  ·exact hv
  ·rintro rfl
   have:=prom_lt hi hv
   simp [dAddr] at this
 refine ⟨⟨hle,fun ad v hv=>?_⟩,by simp [markPr],hi.stepP ((Below.refl _ w).alloc (Nat.le_refl _) _) hle fun ad v hv=>?_⟩
 ·unfold markPr at hv
  split at hv
  ·rename_i e; subst e; exact .inr (jZ3 hi.size)
  ·exact .inl hv
 ·unfold markPr at hv
  split at hv
  ·rename_i e
   subst e
   exact .inr ⟨Nat.le_refl _,rfl,jJ7 w _⟩
  ·exact .inl hv
theorem enter_loop {f:FuncId} {p:List Nat} {ts:List AV} {r:Loop} {g:Operand} (hi:InvH C.P B w0 Ψ β h w) (hl:RelL Ψ β ts r.tmps.toList) (hph:r.state = .ready ∧ r.pending = none) (hcode:jZb C.P f p = some (.rangeFunc g r.params r.assign r.body)) :
 Ext B Ψ (jKs Ψ w.heap.size r.tmps) ∧ jKs Ψ w.heap.size r.tmps (lAddr w.heap.size) = some undef ∧
  InvH C.P B w0 (jKs Ψ w.heap.size r.tmps) (β ++ [yldV w.heap.size]) (h ++ [.loop f p .ready ts]) (w.alloc (.loop r)):=by
 have hle:PLe Ψ (jKs Ψ w.heap.size r.tmps):=fun ad v hv=>by
  unfold jKs
  rw [if_neg]
  ·exact hv
  ·intro e
   have:=prom_lt hi hv
   omega
 have hla:jKs Ψ w.heap.size r.tmps (lAddr w.heap.size) = some undef:=by simp [jKs,lAddr]
 have hi1:InvH C.P B w0 (jKs Ψ w.heap.size r.tmps) β h (w.alloc (.loop r)):=hi.stepP ((Below.refl _ w).alloc (Nat.le_refl _) _) hle fun ad v hv=>by
  unfold jKs at hv
  split at hv
  ·rename_i e
   refine .inr ⟨by omega,?_⟩
   have hh:(w.alloc (.loop r)).heap[ad.block]? = some (.loop r):=by rw [e]; exact jJ7 w _
   split at hv
   ·rename_i e2
    subst e2
    exact ⟨r,hh⟩
   ·split at hv
    ·rename_i e2
     unfold Pm
     rw [e2]
     exact ⟨r,hh,hv⟩
    ·cases hv
  ·exact .inl hv
 refine ⟨⟨hle,fun ad v hv=>?_⟩,hla,?_⟩
 ·unfold jKs at hv
  split at hv
  ·rename_i e; exact .inr (by rw [e]; exact jZ3 hi.size)
  ·exact .inl hv
 have hn:(β ++ [yldV w.heap.size])[h.length]? = some (yldV w.heap.size):=by rw [← hi.len]; simp
 refine hi1.pushG rfl ⟨w.heap.size,r,hn,jJ7 w _,jZ3 hi.size,hph,jQl hle (jQh _) _ _ hl,hla,fun i v hv=>?_,g,hcode⟩ (fun g' hc ad had hsp=>?_) (fun g' hc j bj hj hcj=>?_)
 ·have:tAddr w.heap.size i ≠ lAddr w.heap.size:=by simp [tAddr,lAddr]
  simp [jKs,this]
  simp [tAddr]
  exact hv
 ·simp only [jQb] at hc
  rw [hn] at hc
  simp only [yldV,Option.some.injEq,Value.func.injEq,Fn.yield.injEq,and_true] at hc
  subst hc
  unfold jKs
  rw [if_pos had,if_neg,if_neg]
  ·rcases hsp with hsp | hsp | hsp <;> rw [hsp] <;> simp
  ·rintro rfl; rcases hsp with hsp | hsp | hsp <;> simp [lAddr] at hsp
 ·simp only [jQb] at hc
  rw [hn] at hc
  simp only [yldV,Option.some.injEq,Value.func.injEq,Fn.yield.injEq,and_true] at hc
  subst hc
  have:=(jQx (hi.blk j bj hj) hcj).2
  omega
theorem hget_of:∀ {h:List Blk} {j:Nat} {b:Blk},h[j]? = some b → hget h j = b
 | [],_,_,hb=>by simp at hb
 | b0 :: h,0,_,hb=>by simpa [hget] using hb
 | b0 :: h,j + 1,_,hb=>by simpa [hget] using hget_of (h:=h) (j:=j) (by simpa using hb)
theorem InvH.setPh {k l:Nat} {f:FuncId} {p:List Nat} {ph ph':Ph} {ts:List AV} {r r':Loop} (hi:InvH C.P B w0 Ψ β h w) (hk:h[k]? = some (.loop f p ph ts)) (hβ:β[k]? = some (yldV l)) (hh:w.heap[l]? = some (.loop r))
 (h1:r'.tmps = r.tmps) (h2:r'.params = r.params) (h3:r'.assign = r.assign) (h4:r'.body = r.body) (hph:phOk ph' r'):InvH C.P B w0 Ψ β (setPh h k ph') (w.putObj l (.loop r')):=by
 have e:Go.AM.setPh h k ph' = h.set k (.loop f p ph' ts):=by
  unfold Go.AM.setPh
  rw [hget_of hk]
  exact jQp _ _ _
 rw [e]
 have hlt:=jQm hh
 refine hi.rewriteL (g:=l) hk hβ ⟨rfl,rfl,rfl,by simp,fun i _ hne=>World.putObj_heap_other (fun e=>hne (by rw [e]))⟩ (fun ad v hv hb=>?_) (fun _ hc=>hc) ?_
 ·have hp:=hi.prom ad v hv
  have hn:ad.spot ≠ none:=fun hs=>by rw [hi.free k _ l hk hβ ad hb (.inl hs)] at hv; cases hv
  have hnew:(w.putObj l (.loop r')).heap[ad.block]? = some (.loop r'):=by rw [hb]; exact World.putObj_heap_same hlt
  have hold:w.heap[ad.block]? = some (.loop r):=by rw [hb]; exact hh
  unfold Pm at hp ⊢
  split
  ·rename_i h0; exact absurd h0 hn
  ·rename_i h0; rw [h0] at hp; simp only at hp; rw [hold] at hp; cases hp.2
  ·exact ⟨r',hnew⟩
  ·rename_i h0
   rw [h0] at hp
   obtain ⟨r1,g1,g2⟩:=hp
   rw [hold] at g1
   simp only [Option.some.injEq,Obj.loop.injEq] at g1
   subst g1
   exact ⟨r',hnew,by rw [h1]; exact g2⟩
  ·rename_i h0; rw [h0] at hp; obtain ⟨ms,cl,g1,_⟩:=hp; rw [hold] at g1; cases g1
  ·rename_i q1 q2 q3 q4 q5
   rcases hsx:ad.spot with _ | n
   ·exact hn hsx
   ·rw [hsx] at hp
    match n,hp,hsx with
    | 0,_,hsx=>exact q2 hsx
    | 1,_,hsx=>exact q3 hsx
    | 2,_,hsx=>exact q4 hsx
    | 3,_,hsx=>exact q5 hsx
    | n + 4,hp,_=>exact hp
 ·obtain ⟨l1,r1,g1,g2,g3,g4,g5,g6,g7,g8⟩:=hi.blk k _ hk
  rw [hβ] at g1
  simp only [yldV,Option.some.injEq,Value.func.injEq,Fn.yield.injEq,and_true] at g1
  subst g1
  rw [hh] at g2
  simp only [Option.some.injEq,Obj.loop.injEq] at g2
  subst g2
  exact ⟨l,r',hβ,World.putObj_heap_same hlt,g3,hph,by rw [h1]; exact g5,g6,fun i v hv=>g7 i v (by rw [← h1]; exact hv),by rw [h2,h3,h4]; exact g8⟩
theorem named_sound {j l:Nat} {s s1:St} {x:Act} {As:List Act} (hn:named j s = some s1) (hf:RelF Ψ β (s.top :: s.below) (x :: As)) (hx:x.tmps = #[yldV l]):β[j]? = some (yldV l) ∧ s1.heap = s.heap ∧ RelF Ψ β (s1.top :: s1.below) As:=by
 unfold named at hn
 split at hn
 ·rename_i i hi
  split at hn
  ·rename_i hij
   simp only [Nat.beq_eq] at hij
   subst hij
   unfold popped at hn
   split at hn
   ·rename_i f fs hb
    simp only [Option.some.injEq] at hn
    subst hn
    obtain ⟨a1,as',e,⟨_,hl⟩,h3⟩:=hf
    simp only [List.cons.injEq] at e
    obtain ⟨rfl,rfl⟩:=e
    rw [hi,hx] at hl
    obtain ⟨v,vs,e,⟨l',hv,rfl⟩,_⟩:=hl
    simp only [List.cons.injEq] at e
    obtain ⟨e,_⟩:=e
    simp only [yldV,Value.func.injEq,Fn.yield.injEq,and_true] at e
    subst e
    rw [hb] at h3
    exact ⟨hv,rfl,h3⟩
   ·cases hn
  ·cases hn
 ·cases hn
theorem namedB_sound {j l:Nat} {s:St} {x y:Act} {As:List Act} (hn:namedB j s = true) (hf:RelF Ψ β (s.top :: s.below) (y :: x :: As)) (hx:x.tmps = #[yldV l]):β[j]? = some (yldV l):=by
 unfold namedB at hn
 split at hn
 ·rename_i i fs hb
  simp only [Nat.beq_eq] at hn
  subst hn
  rw [hb] at hf
  obtain ⟨a1,as',e,_,a2,as'',e2,⟨_,hl⟩,_⟩:=hf
  simp only [List.cons.injEq] at e
  obtain ⟨rfl,rfl⟩:=e
  simp only [List.cons.injEq] at e2
  obtain ⟨rfl,rfl⟩:=e2
  rw [hx] at hl
  obtain ⟨v,vs,e,⟨l',hv,rfl⟩,_⟩:=hl
  simp only [List.cons.injEq] at e
  obtain ⟨e,_⟩:=e
  simp only [yldV,Value.func.injEq,Fn.yield.injEq,and_true] at e
  subst e
  exact hv
 ·cases hn
theorem popped_sound {s s1:St} {x:Act} {As:List Act} (hn:popped s = some s1) (hf:RelF Ψ β (s.top :: s.below) (x :: As)):s1.heap = s.heap ∧ RelF Ψ β (s1.top :: s1.below) As:=by
 unfold popped at hn
 split at hn
 ·rename_i f fs hb
  simp only [Option.some.injEq] at hn
  subst hn
  obtain ⟨a1,as',e,_,h3⟩:=hf
  simp only [List.cons.injEq] at e
  obtain ⟨rfl,rfl⟩:=e
  rw [hb] at h3
  exact ⟨rfl,h3⟩
 ·cases hn
def nameAct (l:Nat):Act:={ tmps:=#[yldV l],defers:=[] }
theorem nameFr {j l:Nat} (hβ:β[j]? = some (yldV l)):RelFr Ψ β [.yld j] (nameAct l):=⟨⟨[],[],rfl,by simp,List.nodup_nil,by simp⟩,_,[],rfl,⟨l,hβ,rfl⟩,rfl⟩
theorem jJb {P:Program} {b:Frame} {k:List Item} {cs:List Frame} {c:Code}:step P (lone (b.atR a (.code (.scope c) :: k)) cs w) = .next (lone (b.atR a (.code c :: .inScope c :: k)) cs w) :=
 step_lone_go (by simp [stepG,stepG.exec,Frame.atR])
theorem stepR_inScope {P:Program} {b:Frame} {k:List Item} {cs:List Frame} {c:Code}:step P (lone (b.atR a (.inScope c :: k)) cs w) = .next (lone (b.atR a k) cs w) :=
 step_lone_go (by simp [stepG,stepG.exec,Frame.atR])
theorem wpIn_scope_straight {F:Fence} {n:Nat} {P:Program} {Q:Exit → Act → World → Prop} {c:Code} (h:c.wpIn F n P (Exit.noGoto Q) a w):(Code.scope c).wpIn F n P Q a w:=by
 intro b k cs hro hb hr
 have h0:(lone (b.atR a (.code (.scope c) :: k)) cs w).fenced P F:=fenced_calm hb hr rfl
 obtain ⟨e,a₁,w₁,hq,harr⟩:=h b (.inScope c :: k) cs hro hb hr
 cases e with
 | normal=>exact ⟨.normal,a₁,w₁,hq,.head h0 jJb (StepsIn.trans harr (.one (fenced_calm hb hr rfl) stepR_inScope))⟩
 | exit id =>
  have hx:exitTo id (.inScope c :: k) = exitTo id k:=by simp [exitTo]
  exact ⟨.exit id,a₁,w₁,hq,fun k' hk=>.head h0 jJb (harr.1 k' (by rw [hx]; exact hk)),
   fun hr' hk=>let ⟨k₁,h1,h2⟩:=harr.2 hr' (by rw [hx]; exact hk); ⟨k₁,h1,.head h0 jJb h2⟩⟩
 | goto l=>exact hq.elim
 | ret=>exact ⟨_,a₁,w₁,hq,.of_steps (.one h0 jJb) harr⟩
 | panic ch=>exact ⟨_,a₁,w₁,hq,.of_steps (.one h0 jJb) harr⟩
 | outgrown=>exact ⟨_,a₁,w₁,hq,.of_steps (.one h0 jJb) harr⟩
end Go.AM
namespace Go.AM
open Go.RowKit
variable {B:Nat → Prop} {w0:World} {C:Ctx} {Ψ Ψ0:Pr} {β:List Value} {h:List Blk} {w w':World} {fr:List AV} {a a0:Act} {As:List Act} {W:List Nat}
structure HeadR (C:Ctx) (B:Nat → Prop) (s0:St) (ws:List Nat) (as:List LA) (Ψ:Pr) (β:List Value) (a:Act) (As:List Act):Prop where
 len:β.length = s0.heap.length
 fr:RelF Ψ β (jZy (laKs s0 as) ws 0 s0.top :: noSlpF (laKs s0 as) s0.below) (a :: As)
 blk:∃ wh,∀ k b,(head0 s0 ws as).heap[k]? = some b → BlkR C.P B Ψ β wh k b
theorem stillA_spec {s0 s:St} (hsl:∀ i j,fget s0.top i = .sl j → j < s0.heap.length) (hsc:∀ k cs i j,hget s0.heap k = .cells cs → fget cs i = .sl j → j < s0.heap.length):∀ {as:List LA},stillA s0 s as = true → ∀ la ∈ as,LaOk s0 s s0.heap.length la
 | [],_,la,hm=>by simp at hm
 | la0 :: as,h,la,hm=>by
  unfold stillA at h
  simp only [Bool.and_eq_true] at h
  rcases List.mem_cons.1 hm with rfl | hm
  ·have h1:=h.1
   cases la with
   | slot _ _=>trivial
   | cell _ _ _=>trivial
   | keep _ _ _=>trivial
   | kmp _ _=>trivial
   | kit _ _=>trivial
   | kdat _ _=>trivial
   | ksit _=>trivial
   | gslot i tid e =>
    simp only at h1
    split at h1
    ·rename_i j k hj hk
     simp only [Nat.beq_eq] at h1
     subst h1
     refine .inr ⟨j,hj,hk,?_⟩
     simp only [laSl] at hj
     split at hj
     ·rename_i k' hk'
      simp at hj
      subst hj
      exact hsl i _ hk'
     ·cases hj
    ·rename_i hj; exact .inl hj
    ·cases h1
   | gcell k off tid e =>
    simp only at h1
    split at h1
    ·rename_i j k2 hj hk
     simp only [Nat.beq_eq] at h1
     subst h1
     refine .inr ⟨j,hj,hk,?_⟩
     simp only [laSl] at hj
     split at hj
     ·rename_i cs hcs
      split at hj
      ·rename_i k' hk'
       simp at hj
       subst hj
       exact hsc k cs off _ hcs hk'
      ·cases hj
     ·cases hj
    ·rename_i hj; exact .inl hj
    ·cases h1
  ·exact stillA_spec hsl hsc h.2 la hm
theorem jZd {f:List AV} {fs:List (List AV)} (h1:RelFr Ψ β f a) (h2:RelF Ψ β fs As):RelF Ψ β (f :: fs) (a :: As):=⟨a,As,rfl,h1,h2⟩
theorem jZo {fs:List (List AV)} (hf:RelF Ψ β (fr :: fs) (a :: As)):RelF Ψ β fs As:=by
 obtain ⟨a1,as',e,h1,h3⟩:=hf
 simp only [List.cons.injEq] at e
 obtain ⟨rfl,rfl⟩:=e
 exact h3
theorem havB_loop {ks:List Nat} {fs:List (List AV)} {i:Nat} {b0:Blk} {f:FuncId} {p:List Nat} {ph:Ph} {ts:List AV} (h:havB ks fs i b0 = .loop f p ph ts):yldInF i fs = true:=by
 cases b0 with
 | loop f' p' ph' ts' =>
  unfold havB at h
  simp only at h
  split at h
  ·assumption
  ·cases h
 | kmap es =>
  unfold havB at h
  simp only at h
  split at h <;> cases h
 | _=>simp [havB] at h
theorem fits_good {s0 s:St} {ws:List Nat} {as:List LA} {Ψh:Pr} {βh:List Value} {ah:Act} {x:dens (laTys as)} {Bh:Nat → Prop} (hh:HeadR C Bh s0 ws as Ψh βh ah As) (hsl:∀ i j,fget s0.top i = .sl j → j < s0.heap.length) (hsc:∀ k cs i j,hget s0.heap k = .cells cs → fget cs i = .sl j → j < s0.heap.length) (hle:PLe Ψh Ψ)
 (hi:InvH C.P B w0 Ψ β s.heap w) (hf:RelF Ψ β (s.top :: s.below) (a :: As)) (hS:a.tmps.size = ah.tmps.size ∧ ∀ i,i ∉ ws → a.tmps[i]? = ah.tmps[i]?) (hfit:fits as ws s0 s = true) (hP:samePH (head0 s0 ws as).heap s.heap True) (hx:getLAs s as = some x) :
 s0.heap.length ≤ β.length ∧ Good C B Ψ β (β.take s0.heap.length) s (tmpl s0 ws as x) s0.heap.length a As w ∧ HeadR C B s0 ws as Ψ (β.take s0.heap.length) a As:=by
 unfold fits at hfit
 simp only [Bool.and_eq_true] at hfit
 obtain ⟨⟨⟨hT,hF⟩,hA⟩,hB⟩:=hfit
 have hlen0:(head0 s0 ws as).heap.length = s0.heap.length:=havocH_len
 have hn:s0.heap.length ≤ s.heap.length:=by rw [← hlen0]; exact sameBs_len hB
 have hn':s0.heap.length ≤ β.length:=by rw [hi.len]; exact hn
 have hbb:∀ (k:Nat) (v u:Value),βh[k]? = some u → β[k]? = some v → (β.take s0.heap.length)[k]? = some v:=by
  intro k v u hu hv
  have hk:k < s0.heap.length:=by
   rw [← hh.len]
   rcases Nat.lt_or_ge k βh.length with h' | h'
   ·exact h'
   ·rw [List.getElem?_eq_none h'] at hu; cases hu
  rw [jQ0 hk]
  exact hv
 have htk:∀ (j:Nat) (v:Value),(β.take s0.heap.length)[j]? = some v → β[j]? = some v:=by
  intro k v hk
  rw [List.getElem?_take] at hk
  split at hk
  ·exact hk
  ·cases hk
 have hfr1:=jQk (s:={ top:=jZy (laKs s0 as) ws 0 s0.top,below:=noSlpF (laKs s0 as) s0.below,heap:=[] }) hh.fr
 have hfr2:=jQk hf
 have hF2:RelF Ψ (β.take s0.heap.length) (jZy (laKs s0 as) ws 0 s0.top :: noSlpF (laKs s0 as) s0.below) (a :: As):=by
  refine jZd ⟨hfr2.1,?_⟩ (stillF_rel hle hbb _ _ _ (jZo hh.fr) (jZo hf) hF)
  refine stillT_rel (Ψ:=Ψh) (β:=βh) hle hbb s0.top s.top 0 _ _ hfr1.2 hfr2.2 (by simpa using hS.1.symm) (fun j hj hm=>?_) hT
  have:=hS.2 j (by simpa using hm)
  simpa using this.symm
 have hG:Good C B Ψ β (β.take s0.heap.length) s (head0 s0 ws as) s0.heap.length a As w:=by
  refine ⟨hlen0,hF2,fun k b hb=>?_⟩
  obtain ⟨wh,hwh⟩:=hh.blk
  obtain ⟨c,hc,hsame⟩:=sameBs_get hB hb
  have hy:∀ f p ph ts,b = .loop f p ph ts → ∃ n,βh[k]? = some (yldV n) ∧ (β.take s0.heap.length)[k]? = some (yldV n):=by
   intro f p ph ts e
   obtain ⟨b0,h1,h2⟩:=havocH_get (ks:=laKs s0 as) hb
   rw [Nat.zero_add] at h2
   rw [h2] at e
   exact yldT_same (havB_loop e) hh.fr hF2 (fun t ht=>hS.2 t ht)
  obtain ⟨g1,g2⟩:=sameB_rel hle hbb htk hy (hwh k b hb) (hi.blk k c hc) hsame (samePH_get hP hb hc)
  exact ⟨g1,fun g hcl=>⟨c,hc,g2 g hcl⟩⟩
 have hG2:=setLAs_good hi hf hn as hx (stillA_spec hsl hsc hA) hG
 exact ⟨hn',hG2,⟨by simp; omega,hF2,w,fun k b hb=>(hG.blk k b hb).1⟩⟩
theorem take_sub {n k:Nat} {v:Value} (hk:(β.take n)[k]? = some v):β[k]? = some v:=by
 rw [List.getElem?_take] at hk
 split at hk
 ·exact hk
 ·cases hk
theorem fits_sound {s0 s:St} {ws:List Nat} {as:List LA} {Ψh:Pr} {βh:List Value} {ah:Act} {x:dens (laTys as)} {Bh:Nat → Prop} (hh:HeadR C Bh s0 ws as Ψh βh ah As) (hsl:∀ i j,fget s0.top i = .sl j → j < s0.heap.length) (hsc:∀ k cs i j,hget s0.heap k = .cells cs → fget cs i = .sl j → j < s0.heap.length) (hle:PLe Ψh Ψ)
 (hi:InvH C.P B w0 Ψ β s.heap w) (hf:RelF Ψ β (s.top :: s.below) (a :: As)) (hS:a.tmps.size = ah.tmps.size ∧ ∀ i,i ∉ ws → a.tmps[i]? = ah.tmps[i]?) (hfit:fits as ws s0 s = true) (hP:samePH (head0 s0 ws as).heap s.heap True) (hx:getLAs s as = some x) :
 ∃ β',InvH C.P B w0 Ψ β' (tmpl s0 ws as x).heap w ∧ RelF Ψ β' ((tmpl s0 ws as x).top :: (tmpl s0 ws as x).below) (a :: As) ∧ HeadR C B s0 ws as Ψ β' a As:=by
 obtain ⟨hn',hG2,hH⟩:=fits_good hh hsl hsc hle hi hf hS hfit hP hx
 refine ⟨β.take s0.heap.length,?_,hG2.fr,hH⟩
 refine hi.weaken ?_ (fun j v=>take_sub) ?_
 ·rw [hG2.len]
  simp
  omega
 ·exact hG2.blk
def QOf (C:Ctx) (B:Nat → Prop) (w0:World) (Ψ0:Pr) (As:List Act) (W:List Nat) (a0:Act) (k:Ex → St → Prop):Exit → Act → World → Prop
 | .normal,a,w=>PostC C B w0 Ψ0 As W a0 (k .normal) a w
 | .exit i,a,w=>PostC C B w0 Ψ0 As W a0 (k (.exit i)) a w
 | .ret,a,w=>PostC C B w0 Ψ0 As W a0 (k .ret) a w
 | .panic ch,a,w=>PanP C B w0 Ψ0 ch w ∧ DefQ W a0 a
 | _,_,_=>False
theorem dstsOps_mem:∀ {l:List Oper} {o:Oper} {t:Tmp},o ∈ l → o.dst = some t → t ∈ dstsOps l
 | [],_,_,h,_=>by simp at h
 | o' :: l,o,t,h,ht=>by
  unfold dstsOps
  rcases List.mem_cons.1 h with rfl | h
  ·rw [ht]; simp
  ·have:=dstsOps_mem h ht
   split
   ·exact List.mem_cons_of_mem _ this
   ·exact this
theorem eval_tmp {t:Tmp} {b:Bool} (h:a.eval (.tmp t) = .bool b):a.tmps[t]? = some (.bool b):=by
 have h:a.tmps.getD t undef = .bool b:=h
 rw [Array.getD_eq_getD_getElem?] at h
 cases hx:a.tmps[t]? with
 | none=>rw [hx] at h; simp [undef] at h
 | some x=>rw [hx] at h; simp at h; rw [h]
theorem setTmp_rel {s:St} {c:Operand} {b:Bool} (hf:RelF Ψ β (s.top :: s.below) (a :: As)) (hc:a.eval c = .bool b) {av:AV} (hv:RelV Ψ β av (.bool b)) :
 RelF Ψ β ((setTmp c av s).top :: (setTmp c av s).below) (a :: As) ∧ (setTmp c av s).heap = s.heap:=by
 cases c with
 | tmp t=>exact ⟨put_some_rel hf (eval_tmp hc) hv,rfl⟩
 | const v=>exact ⟨hf,rfl⟩
 | global g=>exact ⟨hf,rfl⟩
 | func f=>exact ⟨hf,rfl⟩
def exitOf:Ex → Exit
 | .normal=>.normal
 | .exit i=>.exit i
 | .ret=>.ret
theorem exCode_wp {F:Fence} {n:Nat} {P:Program} {Q:Exit → Act → World → Prop} {e:Ex} {c:Code} (hc:exCode e = some c) (hk:Q (exitOf e) a w):c.wpIn F n P Q a w:=by
 cases e with
 | normal=>cases hc
 | exit i=>simp only [exCode,Option.some.injEq] at hc; subst hc; exact wpIn_exit hk
 | ret=>simp only [exCode,Option.some.injEq] at hc; subst hc; exact wpIn_ret hk
theorem QOf_ex {e:Ex} {k:Ex → St → Prop} (h:PostC C B w0 Ψ0 As W a0 (k e) a w):QOf C B w0 Ψ0 As W a0 k (exitOf e) a w:=by
 cases e <;> exact h
theorem range_end {ro:Option Nat} {l:Nat} {k:Ex → St → Prop} {s':St} {Ψ':Pr} {β':List Value} {w3:World} {j:Nat} {v:Value}
 (hk:match named j s' with
   | none=>False
   | some s1=>match hget s1.heap j with
    | .loop _ _ .ready _=>k .normal { s1 with heap:=setPh s1.heap j .exhausted }
    | .loop _ _ (.done e) _=>k e { s1 with heap:=setPh s1.heap j .exhausted }
    | _=>False)
 (hE:Ext B Ψ0 Ψ') (hi:InvH C.P B w0 Ψ' β' s'.heap w3) (hf:RelF Ψ' β' (s'.top :: s'.below) (nameAct l :: a :: As)) (hS:Same Ψ0 W a0 a) :
 rangePost (Fw ro) 0 C.P l (QOf C B w0 Ψ0 As W a0 k) a (.returned v) w3:=by
 split at hk
 ·exact hk.elim
 ·rename_i s1 hn
  obtain ⟨hβ,hheap,hf1⟩:=named_sound hn hf rfl
  rw [← hheap] at hi
  split at hk
  ·rename_i f p ts hg
   have hkk:=jQc hg (by simp)
   obtain ⟨l1,r,g1,g2,g3,g4,g5,g6⟩:=hi.blk _ _ hkk
   rw [hβ] at g1
   simp only [yldV,Option.some.injEq,Value.func.injEq,Fn.yield.injEq,and_true] at g1
   subst g1
   have hi2:=hi.setPh (ph':=.exhausted) (r':={ r with state:=.exhausted }) hkk hβ g2 rfl rfl rfl rfl rfl
   refine ⟨r.pending,_,run_endLoop g2 (by rw [g4.1]; simp),?_⟩
   rw [g4.2]
   exact ⟨Ψ',β',{ s1 with heap:=setPh s1.heap j .exhausted },hE,(by rw [← g4.2]; exact hi2),hf1,hS,hk⟩
  ·rename_i f p e ts hg
   have hkk:=jQc hg (by simp)
   obtain ⟨l1,r,g1,g2,g3,g4,g5,g6⟩:=hi.blk _ _ hkk
   rw [hβ] at g1
   simp only [yldV,Option.some.injEq,Value.func.injEq,Fn.yield.injEq,and_true] at g1
   subst g1
   have hi2:=hi.setPh (ph':=.exhausted) (r':={ r with state:=.exhausted }) hkk hβ g2 rfl rfl rfl rfl rfl
   have hpost:PostC C B w0 Ψ0 As W a0 (k e) a (w3.putObj l (.loop { r with state:=.exhausted })):=⟨Ψ',β',{ s1 with heap:=setPh s1.heap j .exhausted },hE,hi2,hf1,hS,hk⟩
   refine ⟨r.pending,_,run_endLoop g2 (by rw [g4.1]; simp),?_⟩
   generalize w3.putObj l (.loop { r with state:=.exhausted }) = w4 at hpost ⊢
   rw [g4.2]
   cases hc:exCode e with
   | none =>
    have he:e = .normal:=by cases e <;> simp [exCode] at hc ⊢
    subst he
    exact hpost
   | some c=>exact exCode_wp hc (QOf_ex hpost)
  ·exact hk.elim
theorem run_enterLoop_inner {P:Program} {l:Nat} {r:Loop} (h:w.heap[l]? = some (.loop r)) (fn:FuncId) (tmps:Array Value) (ps:Array Tmp) (assign body:Code) :
 (Instr.enterLoop fn tmps ps assign body (some l)).run P w = .ok (w.heap.size,[]) (w.alloc (.loop { state:=.ready,pending:=none,fn,tmps,params:=ps,assign,body,defers:=r.defers })):=by
 unfold Instr.enterLoop
 simp only [Sem.run_bind,run_getLoop h,run_newObj_alloc,Result.andThen,Sem.run_pure]
theorem run_rangeCall {g:Operand} {l:Nat} {f:FuncId} {vs:List Value} (hf:a.eval g = .func (.func f) #[] vs.toArray) (hg:jZh C f = true) :
 ∃ d:Deferred,(resolve a.eval (rangeCall g l) 0).run C.P w = .ok d w ∧ (invoke d.target d.args).run C.P w = .ok (.enter f (yldV l :: vs).toArray) w:=by
 refine ⟨{ target:=.fn (.func f) vs.toArray,args:=#[] ++ #[yldV l] },?_,?_⟩
 ·simp only [resolve,hf,Deferred.ofValue]
  simp [Act.eval,yldV]
 ·have:=jJ8 hg ((yldV l :: vs).toArray) w
  have e:#[] ++ #[yldV l] ++ vs.toArray = (yldV l :: vs).toArray:=by
   apply Array.ext'
   simp
  simp only [invoke]
  rw [e]
  exact this
theorem ahead_sound (fid:FuncId) (id:Nat) {s:St} (hi:InvH C.P B w0 Ψ β s.heap w) (hf:RelF Ψ β (s.top :: s.below) As) :
 ∃ Ψ',Ext B Ψ Ψ' ∧ InvH C.P B w0 Ψ' β (C.ahead fid id s).heap w ∧ RelF Ψ' β ((C.ahead fid id s).top :: (C.ahead fid id s).below) As:=by
 unfold Ctx.ahead
 cases Nat.beq ((C.hint fid).unr id) 500 with
 | true =>
  obtain ⟨Ψ',h1,h2,h3,_⟩:=jXd (refsA s.top) hi hf
  exact ⟨Ψ',h1,h2,h3⟩
 | false =>
  cases Nat.beq ((C.hint fid).unr id) 501 with
  | true =>
   obtain ⟨Ψ',h1,h2,h3,_⟩:=jXd (refsH s.heap) hi hf
   exact ⟨Ψ',h1,h2,h3⟩
  | false=>exact ⟨Ψ,Ext.refl _ _,hi,hf⟩
theorem fset_self:∀ (fr:List AV) (i:Nat),fset fr i (fget fr i) = fr
 | [],i=>by cases i <;> rfl
 | a :: fr,0=>rfl
 | a :: fr,i + 1=>by
  show a :: fset fr i (fget fr i) = a :: fr
  rw [fset_self fr i]
theorem forkN_sound {x:Int} {i:Nat} {s:St} {k:St → Prop} (hx:fget s.top i = .d (.int .i64) x) (h0:0 ≤ x):∀ n:Nat,x < n → forkN x i s k n → k s
 | 0,h,_=>by omega
 | n + 1,h,hk=>by
  by_cases e:x = n
  ·have h1:=hk.1 e
   rw [← e,← hx,fset_self] at h1
   exact h1
  ·exact forkN_sound hx h0 n (by omega) hk.2
theorem forkW_sound {m i:Nat} {s:St} {k:St → Prop} (hk:forkW m i s k):k s:=by
 unfold forkW at hk
 split at hk
 ·rename_i x hx
  exact forkN_sound hx hk.1.1 m hk.1.2 hk.2
 ·exact hk.elim
theorem fork_sound {f:FuncId} {id:Nat} {s:St} {k:St → Prop} (hk:C.fork f id s k):k s:=by
 unfold Ctx.fork at hk
 split at hk
 ·exact forkW_sound hk
 ·exact hk
theorem jXq (hsp:jQe C) {call:CallT} (hc:jXu C call) (fid:FuncId) {ro:Option Nat}:∀ (c:Code) {p:List Nat} {k:Ex → St → Prop} {s:St} {Ψ0 Ψ:Pr} {β:List Value} {a0 a:Act} {w:World} {W:List Nat},jZb C.P fid p = some c → awp C call fid p c k s → (∀ l,ro = some l → Ψ0 (lAddr l) = some undef) →
 Ext B Ψ0 Ψ → InvH C.P B w0 Ψ β s.heap w → RelF Ψ β (s.top :: s.below) (a :: As) → Same Ψ0 W a0 a → (∀ t ∈ dsts c,t ∈ W) → c.wpIn (Fw ro) 0 C.P (QOf C B w0 Ψ0 As W a0 k) a w
 | .skip,p,k,s,Ψ0,Ψ,β,a0,a,w,W,hp,hk,hro,hE,hi,hf,hS,hW=>wpIn_skip ⟨Ψ,β,s,hE,hi,hf,hS,by simpa [awp] using hk⟩
 | .label _,p,k,s,Ψ0,Ψ,β,a0,a,w,W,hp,hk,hro,hE,hi,hf,hS,hW=>wpIn_label ⟨Ψ,β,s,hE,hi,hf,hS,by simpa [awp] using hk⟩
 | .exit id,p,k,s,Ψ0,Ψ,β,a0,a,w,W,hp,hk,hro,hE,hi,hf,hS,hW=>wpIn_exit ⟨Ψ,β,s,hE,hi,hf,hS,by simpa [awp] using hk⟩
 | .ret,p,k,s,Ψ0,Ψ,β,a0,a,w,W,hp,hk,hro,hE,hi,hf,hS,hW=>wpIn_ret ⟨Ψ,β,s,hE,hi,hf,hS,by simpa [awp] using hk⟩
 | .region id ops draw,p,k,s,Ψ0,Ψ,β,a0,a,w,W,hp,hk,hro,hE,hi,hf,hS,hW=>by
  have hWo:∀ o ∈ ops.toList,∀ t,o.dst = some t → t ∈ W:=fun o ho t ht=>hW t (dstsOps_mem ho ht)
  cases draw with
  | true =>
   simp only [awp] at hk
   have hk:=fork_sound hk
   rw [forceC_eq] at hk
   simp only [if_true] at hk
   obtain ⟨Ψ1,hE1,hi1,hf1⟩:=ahead_sound fid id hi hf
   exact adraw_sound hsp hc hk (hE.trans hE1) hi1 hf1 hS hWo (fun _ _ hp=>hp) fun _ _ _ hp hd=>⟨hp,hd⟩
  | false =>
   simp only [awp] at hk
   have hk:=fork_sound hk
   rw [forceC_eq] at hk
   simp only [Bool.false_eq_true,if_false] at hk
   obtain ⟨Ψ1,hE1,hi1,hf1⟩:=ahead_sound fid id hi hf
   exact wpIn_region_list (jJ2 hc ops ops.toList hk (hE.trans hE1) hi1 hf1 hS hWo (fun _ _ hp=>hp) fun _ _ _ hp hd=>⟨hp,hd⟩)
 | .seq x y,p,k,s,Ψ0,Ψ,β,a0,a,w,W,hp,hk,hro,hE,hi,hf,hS,hW=>by
  simp only [awp] at hk
  refine wpIn_seq (wpIn_mono (jXq hsp hc fid x (by simp [jZb,hp,jZq]) hk hro hE hi hf hS fun t ht=>hW t (by simp [dsts,ht])) ?_)
  intro e a' w' hq
  cases e with
  | normal =>
   obtain ⟨Ψ',β',s',hE',hi',hf',hS',hk'⟩:=hq
   exact jXq hsp hc fid y (by simp [jZb,hp,jZq]) hk' hro hE' hi' hf' hS' fun t ht=>hW t (by simp [dsts,ht])
  | exit _=>exact hq
  | ret=>exact hq
  | goto _=>exact hq
  | panic _=>exact hq
  | outgrown=>exact hq
 | .cond c x y,p,k,s,Ψ0,Ψ,β,a0,a,w,W,hp,hk,hro,hE,hi,hf,hS,hW=>by
  have hx:=fun {s'} hk (hf':RelF Ψ β (s'.top :: s'.below) (a :: As)) (hh:s'.heap = s.heap)=>jXq hsp hc fid (ro:=ro) x (p:=0 :: p) (k:=k) (s:=s') (by simp [jZb,hp,jZq]) hk hro hE (hh ▸ hi) hf' hS fun t ht=>hW t (by simp [dsts,ht])
  have hy:=fun {s'} hk (hf':RelF Ψ β (s'.top :: s'.below) (a :: As)) (hh:s'.heap = s.heap)=>jXq hsp hc fid (ro:=ro) y (p:=1 :: p) (k:=k) (s:=s') (by simp [jZb,hp,jZq]) hk hro hE (hh ▸ hi) hf' hS fun t ht=>hW t (by simp [dsts,ht])
  have hev:=jXs (jQk hf) c
  simp only [awp] at hk
  split at hk
  ·rename_i he
   rw [he] at hev
   exact wpIn_cond_true hev (hx hk hf rfl)
  ·rename_i he
   rw [he] at hev
   exact wpIn_cond_false hev (hy hk hf rfl)
  ·rename_i b he
   rw [he] at hev
   have hev:a.eval c = .bool b:=by
    obtain ⟨cs,h1,h2⟩:=hev
    simp only [reads] at h1
    subst h1
    simp [Ty.isAgg] at h2
    exact h2.symm
   cases b with
   | true =>
    obtain ⟨h1,h2⟩:=setTmp_rel hf hev (av:=.tt) rfl
    exact wpIn_cond_true hev (hx ((jXm hk).1 rfl) h1 h2)
   | false =>
    obtain ⟨h1,h2⟩:=setTmp_rel hf hev (av:=.ff) rfl
    exact wpIn_cond_false hev (hy ((jXm hk).2 rfl) h1 h2)
  ·exact hk.elim
 | .block id c,p,k,s,Ψ0,Ψ,β,a0,a,w,W,hp,hk,hro,hE,hi,hf,hS,hW=>by
  simp only [awp] at hk
  refine wpIn_block (wpIn_mono (jXq hsp hc fid c (by simp [jZb,hp,jZq]) hk hro hE hi hf hS fun t ht=>hW t (by simpa [dsts] using ht)) ?_)
  intro e a' w' hq
  cases e with
  | exit i =>
   obtain ⟨Ψ',β',s',hE',hi',hf',hS',hk'⟩:=hq
   simp only at hk'
   simp only [Exit.inBlock]
   split at hk'
   ·rename_i hid
    rw [if_pos (by simpa [Nat.beq_eq] using hid)]
    exact ⟨Ψ',β',s',hE',hi',hf',hS',hk'⟩
   ·rename_i hid
    rw [if_neg (by simpa [Nat.beq_eq] using hid)]
    exact ⟨Ψ',β',s',hE',hi',hf',hS',hk'⟩
  | normal=>exact hq
  | ret=>exact hq
  | goto _=>exact hq
  | panic _=>exact hq
  | outgrown=>exact hq
 | .scope c,p,k,s,Ψ0,Ψ,β,a0,a,w,W,hp,hk,hro,hE,hi,hf,hS,hW=>by
  simp only [awp] at hk
  refine wpIn_scope_straight (wpIn_mono (jXq hsp hc fid c (by simp [jZb,hp,jZq]) hk hro hE hi hf hS fun t ht=>hW t (by simpa [dsts] using ht)) ?_)
  intro e a' w' hq
  cases e <;> exact hq
 | .rangeFunc g ps as bd,p,k,s,Ψ0,Ψ,β,a0,a,w,W,hp,hk,hro,hE,hi,hf,hS,hW=>by
  have hev:=jXs (jQk hf) g
  simp only [awp] at hk
  split at hk
  ·rename_i fh cap he
   rw [he] at hev
   obtain ⟨vs,hfv,hcap⟩:=hev
   split at hk
   ·rename_i hok
    simp only [Bool.and_eq_true] at hok
    obtain ⟨hok,hnp⟩:=hok
    refine wpIn_rangeFunc fun fn _=>?_
    have hDok:=(jQk hf).1
    cases ro with
    | none =>
     obtain ⟨hE1,hD1,hi1⟩:=enter_mark hi
     have hlen1:(w.alloc (.deferred (some []))).heap.size = w.heap.size + 1:=by simp
     obtain ⟨hE2,hL2,hi2⟩:=enter_loop (r:={ state:=.ready,pending:=none,fn,tmps:=a.tmps,params:=ps,assign:=as,body:=bd,defers:=w.heap.size }) hi1 (jQl hE1.1 (fun _ _ h=>h) _ _ (jQk hf).2) ⟨rfl,rfl⟩ hp
     obtain ⟨d,hd1,hd2⟩:=run_rangeCall (w:=(w.alloc (.deferred (some []))).alloc (.loop { state:=.ready,pending:=none,fn,tmps:=a.tmps,params:=ps,assign:=as,body:=bd,defers:=w.heap.size })) (l:=w.heap.size + 1) hfv hok
     rw [hlen1] at hE2 hL2 hi2
     refine ⟨w.heap.size + 1,[mkD w.heap.size],_,d,_,fh,_,_,run_enterLoop_outer fn a.tmps ps as bd,hd1,fun _ _=>trivial,hd2,fun h=>(by cases h),?_⟩
     have hE3:=hE1.trans hE2
     have hβj:(β ++ [yldV (w.heap.size + 1)])[hlen s.heap]? = some (yldV (w.heap.size + 1)):=by rw [jQ1,← hi.len]; simp
     have hmark:Dok (jKs (markPr Ψ w.heap.size) (w.heap.size + 1) a.tmps) { a with defers:=[mkD w.heap.size] ++ a.defers }:=by
      obtain ⟨ds,r,e,hr,hn,hds⟩:=hDok
      refine ⟨w.heap.size :: ds,r,by simp [e],hr,List.nodup_cons.2 ⟨fun hm=>?_,hn⟩,fun D hD=>?_⟩
      ·have:=prom_lt hi (hds _ hm)
       simp [dAddr] at this
      ·rcases List.mem_cons.1 hD with rfl | hD
       ·exact hE2.1 _ _ hD1
       ·exact hE3.1 _ _ (hds D hD)
     have hS':Same Ψ0 W a0 { a with defers:=[mkD w.heap.size] ++ a.defers }:=by
      obtain ⟨h1,ds,e,_,hds⟩:=hS
      refine ⟨h1,w.heap.size :: ds,by simp [e],fun _=>hW mkW (by simp [dsts]),fun D hD=>?_⟩
      rcases List.mem_cons.1 hD with rfl | hD
      ·cases hx:Ψ0 (dAddr w.heap.size) with
       | none=>rfl
       | some v =>
        have:=prom_lt hi (hE.1 _ _ hx)
        simp [dAddr] at this
      ·exact hds D hD
     refine jKu none _ ((hc.2 fh _ _ _ hk hok B w0 _ _ (nameAct (w.heap.size + 1) :: { a with defers:=[mkD w.heap.size] ++ a.defers } :: As) _ _ hi2 ?_ ⟨_,_,rfl,⟨_,hβj,rfl⟩,jQl hE3.1 (jQh _) _ _ hcap⟩).mono ?_)
     ·refine jZd (nameFr hβj) (jZd ⟨hmark,jQl hE3.1 (jQh _) _ _ (jQk hf).2⟩ (jQq hE3.1 (jQh _) _ _ (jZo hf)))
     ·rintro e w3 (⟨v,Ψ',β',av,s',rfl,hE',hi',hf',hv,hk'⟩ | ⟨_,_,hp⟩)
      ·exact range_end hk' ((hE.trans hE3).trans hE') hi' hf' hS'
      ·exact (hp.no hnp).elim
    | some l0 =>
     have hpl:=hi.prom _ _ (hE.1 _ _ (hro l0 rfl))
     obtain ⟨r0,hr0⟩:∃ r,w.heap[l0]? = some (.loop r):=hpl
     obtain ⟨hE2,hL2,hi2⟩:=enter_loop (r:={ state:=.ready,pending:=none,fn,tmps:=a.tmps,params:=ps,assign:=as,body:=bd,defers:=r0.defers }) hi (jQk hf).2 ⟨rfl,rfl⟩ hp
     obtain ⟨d,hd1,hd2⟩:=run_rangeCall (w:=w.alloc (.loop { state:=.ready,pending:=none,fn,tmps:=a.tmps,params:=ps,assign:=as,body:=bd,defers:=r0.defers })) (l:=w.heap.size) hfv hok
     refine ⟨w.heap.size,[],_,d,_,fh,_,_,run_enterLoop_inner hr0 fn a.tmps ps as bd,hd1,fun _ _=>trivial,hd2,fun h=>(by cases h),?_⟩
     have hβj:(β ++ [yldV w.heap.size])[hlen s.heap]? = some (yldV w.heap.size):=by rw [jQ1,← hi.len]; simp
     refine jKu (some l0) _ ((hc.2 fh _ _ _ hk hok B w0 _ _ (nameAct w.heap.size :: a :: As) _ _ hi2 ?_ ⟨_,_,rfl,⟨_,hβj,rfl⟩,jQl hE2.1 (jQh _) _ _ hcap⟩).mono ?_)
     ·refine jZd (nameFr hβj) (jZd ⟨jVb hE2.1 hDok,jQl hE2.1 (jQh _) _ _ (jQk hf).2⟩ (jQq hE2.1 (jQh _) _ _ (jZo hf)))
     ·rintro e w3 (⟨v,Ψ',β',av,s',rfl,hE',hi',hf',hv,hk'⟩ | ⟨_,_,hp⟩)
      ·exact range_end (a:=a) hk' ((hE.trans hE2).trans hE') hi' hf' hS
      ·exact (hp.no hnp).elim
   ·exact hk.elim
  ·exact hk.elim
 | .loop body,p,k,s,Ψ0,Ψ,β,a0,a,w,W,hp,hk,hro,hE,hi,hf,hS,hW=>by
  simp only [awp] at hk
  split at hk
  ·rename_i r hr
   have tail:∀ (as:List LA) {s:St} {Ψ:Pr} {β:List Value} {a:Act} {w:World},aloop as (dsts body) (awp C call fid (0 :: p) body) k s → Ext B Ψ0 Ψ → InvH C.P B w0 Ψ β s.heap w → RelF Ψ β (s.top :: s.below) (a :: As) → Same Ψ0 W a0 a →
    LoopAt (Fw ro) 0 C.P body (QOf C B w0 Ψ0 As W a0 k) a w:=by
    intro as s Ψ β a w hk hE hi hf hS
    unfold aloop at hk
    split at hk
    ·exact hk.elim
    ·rename_i x0 hx0
     split at hk
     ·rename_i hfit
      obtain ⟨I,μ,hI0,hround⟩:=hk
      obtain ⟨β1,hi1,hf1⟩:=prepLAs_sound as hi hf
      generalize hs0:jJ4 s as = s0 at *
      have hsl:∀ i j,fget s0.top i = .sl j → j < s0.heap.length:=by
       intro i j hij
       have h1:=jQ7 _ _ (jQk hf1).2 i
       rw [hij] at h1
       rw [← hi1.len]
       rcases Nat.lt_or_ge j β1.length with h' | h'
       ·exact h'
       ·have h1:β1[j]? = _:=h1.1
        rw [List.getElem?_eq_none h'] at h1; cases h1
      have hsc:∀ k cs i j,hget s0.heap k = .cells cs → fget cs i = .sl j → j < s0.heap.length:=by
       intro k cs i j hk hij
       obtain ⟨g,c,e,_,_,_,h4,_⟩:=hi1.blk k _ (jQc hk (by simp))
       have h1:=jQ7 _ _ h4 i
       rw [hij] at h1
       rw [← hi1.len]
       rcases Nat.lt_or_ge j β1.length with h' | h'
       ·exact h'
       ·have h1:β1[j]? = _:=h1.1
        rw [List.getElem?_eq_none h'] at h1; cases h1
      have hh0:HeadR C B s0 (dsts body) as Ψ β1 a As:=⟨hi1.len,jZd ⟨(jQk hf1).1,forget_rel (jQk hf1).2⟩ (noSlpF_rel (jZo hf1)),w,fun k b hb=>by
       obtain ⟨b0,h1,h2⟩:=havocH_get hb
       rw [h2]
       exact havB_rel (hi1.blk k b0 h1)⟩
      obtain ⟨β2,hi2,hf2,hh2⟩:=fits_sound hh0 hsl hsc (PLe.refl _) hi1 hf1 ⟨rfl,fun _ _=>rfl⟩ hfit (samePH_refl _) hx0
      refine loopAt_ghost (τ:=dens (laTys as)) (fun x a w=>I x ∧ ∃ Ψ β,Ext B Ψ0 Ψ ∧ InvH C.P B w0 Ψ β (tmpl s0 (dsts body) as x).heap w ∧ RelF Ψ β ((tmpl s0 (dsts body) as x).top :: (tmpl s0 (dsts body) as x).below) (a :: As) ∧ HeadR C B s0 (dsts body) as Ψ β a As ∧ Same Ψ0 W a0 a) μ x0
       ⟨hI0,Ψ,β2,hE,hi2,hf2,hh2,hS⟩ ?_
      rintro x ah wh ⟨hI,Ψh,βh,hEh,hih,hfh,hhh,hSh⟩
      refine wpIn_mono (jXq hsp hc fid body (by simp [jZb,hp,jZq]) (hround x hI) (fun l hl=>hEh.1 _ _ (hro l hl)) (Ext.refl B Ψh) hih hfh (Same.refl Ψh (dsts body) ah) fun t ht=>ht) ?_
      have hWb:∀ t ∈ dsts body,t ∈ W:=fun t ht=>hW t (by simpa [dsts] using ht)
      intro e a' w' hq
      cases e with
      | normal =>
       obtain ⟨Ψ',β',s',hE',hi',hf',hS',hk'⟩:=hq
       simp only at hk'
       split at hk'
       ·rename_i x' hx'
        split at hk'
        ·rename_i hfit'
         obtain ⟨hP',hI',hμ⟩:=(samePH_iff _ _).1 hk'
         obtain ⟨β3,hi3,hf3,hh3⟩:=fits_sound hhh hsl hsc hE'.1 hi' hf' hS'.1 hfit' hP' hx'
         exact ⟨x',⟨hI',Ψ',β3,hEh.trans hE',hi3,hf3,hh3,hSh.trans hEh.1 (hS'.mono hWb)⟩,hμ⟩
        ·exact hk'.elim
       ·exact hk'.elim
      | exit _ =>
       obtain ⟨Ψ',β',s',hE',hi',hf',hS',hk'⟩:=hq
       exact ⟨Ψ',β',s',hEh.trans hE',hi',hf',hSh.trans hEh.1 (hS'.mono hWb),hk'⟩
      | ret =>
       obtain ⟨Ψ',β',s',hE',hi',hf',hS',hk'⟩:=hq
       exact ⟨Ψ',β',s',hEh.trans hE',hi',hf',hSh.trans hEh.1 (hS'.mono hWb),hk'⟩
      | goto _=>exact hq
      | panic _=>exact ⟨hq.1.anti hEh,DefQ.trans hSh hq.2 hWb⟩
      | outgrown=>exact hq
     ·exact hk.elim
   split at hk
   ·obtain ⟨as,hk⟩:=jQu hk
    exact (tail as hk hE hi hf hS).wpIn
   ·rename_i n
    split at hk
    ·refine LoopAt.wpIn (LoopAt.peel (wpIn_mono (jXq hsp hc fid body (by simp [jZb,hp,jZq]) hk hro hE hi hf hS fun t ht=>hW t (by simpa [dsts] using ht)) ?_))
     intro e a' w' hq
     cases e with
     | normal =>
      obtain ⟨Ψ',β',s',hE',hi',hf',hS',hk'⟩:=hq
      obtain ⟨as,hk'⟩:=jQu hk'
      exact tail as hk' hE' hi' hf' hS'
     | exit _=>exact hq
     | ret=>exact hq
     | goto _=>exact hq
     | panic _=>exact hq
     | outgrown=>exact hq
    refine wpIn_loop_ghost (τ:=Nat) (fun n a w=>∃ Ψ β s,Ext B Ψ0 Ψ ∧ InvH C.P B w0 Ψ β s.heap w ∧ RelF Ψ β (s.top :: s.below) (a :: As) ∧ Same Ψ0 W a0 a ∧ aunroll (awp C call fid (0 :: p) body) k n s) id _ ⟨Ψ,β,s,hE,hi,hf,hS,hk⟩ ?_
    rintro n ah wh ⟨Ψh,βh,sh,hEh,hih,hfh,hSh,hkh⟩
    cases n with
    | zero=>exact hkh.elim
    | succ n =>
     refine wpIn_mono (jXq hsp hc fid body (by simp [jZb,hp,jZq]) hkh hro hEh hih hfh hSh fun t ht=>hW t (by simpa [dsts] using ht)) ?_
     intro e a' w' hq
     cases e with
     | normal =>
      obtain ⟨Ψ',β',s',hE',hi',hf',hS',hk'⟩:=hq
      exact ⟨n,⟨Ψ',β',s',hE',hi',hf',hS',hk'⟩,Nat.lt_succ_self n⟩
     | exit _=>exact hq
     | ret=>exact hq
     | goto _=>exact hq
     | panic _=>exact hq
     | outgrown=>exact hq
  ·exact hk.elim
 | .goto _,p,k,s,Ψ0,Ψ,β,a0,a,w,W,hp,hk,hro,hE,hi,hf,hS,hW=>by simp [awp] at hk
end Go.AM
namespace Go.AM
open Go.RowKit
variable {B:Nat → Prop} {w0:World} {C:Ctx} {Ψ Ψ0:Pr} {β:List Value} {h:List Blk} {w w':World} {fr:List AV} {a a0:Act} {As:List Act} {W:List Nat}
mutual
theorem RelV_pl {Ψ:Pr} {β:List Value}:∀ (av:AV) (v:Value),RelV Ψ β av v → RelV (plain Ψ) β av v
 | .junk,_,_=>trivial
 | .und,_,hr=>hr
 | .tt,_,hr=>hr
 | .ff,_,hr=>hr
 | .d t x,_,⟨cs,hc,e⟩=>⟨cs,jQ3 t x cs hc,e⟩
 | .fs e xs,_,⟨a,ea,cs,hc,e'⟩=>⟨a,ea,cs,jQ3 (.arr e) xs cs hc,e'⟩
 | .nils,_,hr=>hr
 | .agg cs,_,⟨vs,e,hl,h1⟩=>⟨vs,e,RelL_pl cs vs hl,h1⟩
 | .tup cs,_,⟨vs,e,hl⟩=>⟨vs,e,RelL_pl cs vs hl⟩
 | .fn _ cs,_,⟨vs,e,hl⟩=>⟨vs,e,RelL_pl cs vs hl⟩
 | .bnd _ cs,_,⟨vs,e,hl⟩=>⟨vs,e,RelL_pl cs vs hl⟩
 | .sv _ _ _ _,_,hr=>hr
 | .nilf,_,hr=>hr
 | .nilp,_,hr=>hr
 | .own _ _,_,hr=>hr
 | .sl _,_,hr=>hr
 | .slp _ _ _,_,hr=>hr
 | .rp t x,_,⟨g,off,cs,e,hc,hp⟩=>⟨g,off,cs,e,jQ3 t x cs hc,fun j u hj=>jQ4.2 ⟨rfl,hp j u hj⟩⟩
 | .yld _,_,hr=>hr
 | .glb _,_,hr=>hr
 | .oix _ _ _ _,_,hr=>hr
 | .osl _ _ _ _ _,_,hr=>hr
 | .slpf _ _ _ _,_,hr=>hr
 | .ssl _ _,_,hr=>hr
theorem RelL_pl {Ψ:Pr} {β:List Value}:∀ (cs:List AV) (vs:List Value),RelL Ψ β cs vs → RelL (plain Ψ) β cs vs
 | [],_,hr=>hr
 | c :: cs,_,⟨v,vs',e,hv,hl⟩=>⟨v,vs',e,RelV_pl c v hv,RelL_pl cs vs' hl⟩
end
theorem jXt {Ψ':Pr} (hp:PLe (plain Ψ) Ψ') {cs:List AV} {vs:List Value} (hr:RelL Ψ β cs vs):RelL Ψ' β cs vs:=jQl hp (fun _ _ h=>h) _ _ (RelL_pl _ _ hr)
theorem RelF_keep {Ψ1 Ψ':Pr} {β0 β1:List Value} (hle:PLe Ψ Ψ') (hp:PLe (plain Ψ1) Ψ'):∀ {fs fs1:List (List AV)} {as:List Act},RelF Ψ β0 fs as → RelF Ψ1 β1 fs1 as → RelF Ψ' β1 fs1 as
 | [],[],_,h,h1=>h1
 | [],_ :: _,_,h,⟨a,as',e,_⟩=>by
  have h:_ = []:=h
  rw [h] at e
  cases e
 | _ :: _,[],_,⟨a,as',e,_⟩,h1=>by
  have h1:_ = []:=h1
  rw [h1] at e
  cases e
 | f :: fs,f1 :: fs1,_,⟨a,as',e,⟨hd,_⟩,h3⟩,⟨a1,as1,e1,⟨_,hl⟩,h4⟩=>by
  rw [e] at e1
  simp only [List.cons.injEq] at e1
  obtain ⟨rfl,rfl⟩:=e1
  exact ⟨a,as',e,⟨jVb hle hd,jXt hp hl⟩,RelF_keep hle hp h3 h4⟩
def jKk (w:World):List Nat → World
 | []=>w
 | D :: ds=>jKk (w.putObj D (.deferred none)) ds
theorem takeAll_spec:∀ (ds:List Nat) (w:World),(jKk w ds).os = w.os ∧ (jKk w ds).tape = w.tape ∧ (jKk w ds).output = w.output ∧ (jKk w ds).heap.size = w.heap.size ∧ ∀ k,k ∉ ds → (jKk w ds).heap[k]? = w.heap[k]?
 | [],w=>⟨rfl,rfl,rfl,rfl,fun _ _=>rfl⟩
 | D :: ds,w=>by
  obtain ⟨h1,h2,h3,h4,h5⟩:=takeAll_spec ds (w.putObj D (.deferred none))
  refine ⟨h1,h2,h3,by rw [jKk,h4]; simp,fun k hk=>?_⟩
  simp only [List.mem_cons,not_or] at hk
  rw [jKk,h5 k hk.2,World.putObj_heap_other hk.1]
theorem leaves_marks {P:Program} {fn:Func} {tmps:Array Value} {R:Ending → World → Prop}:∀ (ds:List Nat) {w:World},(∀ D ∈ ds,w.heap[D]? = some (.deferred (some []))) → ds.Nodup →
 LeavesIn Fence.wide 0 P fn tmps R [] .returning (jKk w ds) → LeavesInM Fence.wide 0 P fn tmps R (ds.map mkD) .returning w
 | [],w,_,_,hL=>hL
 | D :: ds,w,hd,hn,hL=>by
  obtain ⟨hD,hn⟩:=List.nodup_cons.1 hn
  refine ⟨by simp,.inl ⟨D,_,rfl,run_takeDeferred (hd D (by simp)),leaves_marks ds (fun D' hm=>?_) hn hL⟩⟩
  have hne:D' ≠ D:=fun e=>hD (by rw [← e]; exact hm)
  rw [World.putObj_heap_other hne]
  exact hd D' (by simp [hm])
def unPr (Ψ:Pr) (ds:List Nat):Pr:=fun a=>if a.spot = some 0 ∧ a.block ∈ ds then none else Ψ a
theorem unPr_le (Ψ:Pr) (ds:List Nat) {a:Addr} {v:Value} (h:unPr Ψ ds a = some v):Ψ a = some v:=by
 unfold unPr at h
 split at h
 ·cases h
 ·exact h
theorem cell?_deferred {a:Addr} {v:Value} {o:Option (List Deferred)} (h:w.heap[a.block]? = some (.deferred o)) (hc:w.cell? a = some v):False:=by
 unfold World.cell? at hc
 rw [h] at hc
 cases hc
theorem unmark {s:St} {x:Act} {ds:List Nat} {Ψ1:Pr} {β0:List Value} {fs0:List (List AV)} (h0:∀ a v,Ψ a = some v → a.spot = some 0 → a.off = 0) (hi:InvH C.P B w0 Ψ1 β s.heap w) (hf:RelF Ψ1 β (s.top :: s.below) (x :: As)) (hf0:RelF Ψ β0 fs0 As) (hE:Ext B Ψ Ψ1)
 (hd:x.defers = ds.map mkD) (hnew:∀ D ∈ ds,Ψ (dAddr D) = none) :
 ∃ w2 Ψ2,(∀ fn tmps R,LeavesIn Fence.wide 0 C.P fn tmps R [] .returning w2 → LeavesInM Fence.wide 0 C.P fn tmps R x.defers .returning w) ∧ Ext B Ψ Ψ2 ∧ InvH C.P B w0 Ψ2 β s.heap w2 ∧ RelL Ψ2 β s.top x.tmps.toList ∧ RelF Ψ2 β s.below As:=by
 obtain ⟨ds',r',hd',hr',hnd,hprom⟩:=(jQk hf).1
 have hds:ds = ds':=by
  have hr0:r' = []:=by
   cases r' with
   | nil=>rfl
   | cons d l =>
    have hm:d ∈ ds.map mkD:=by rw [← hd,hd']; simp
    obtain ⟨D,_,e⟩:=List.mem_map.1 hm
    exact absurd e.symm (hr' d (by simp) D)
  rw [hd,hr0,List.append_nil] at hd'
  exact (List.map_inj_right fun D D' e=>by simpa [mkD] using e).1 hd'
 subst hds
 have hheap:∀ D ∈ ds,w.heap[D]? = some (.deferred (some [])):=fun D hD=>(hi.prom _ _ (hprom D hD)).2
 obtain ⟨s1,s2,s3,s4,s5⟩:=takeAll_spec ds w
 have hB:∀ D ∈ ds,¬ B D:=fun D hD=>hi.own _ _ (hprom D hD) (by simp [dAddr])
 have hpl:PLe (plain Ψ1) (unPr Ψ1 ds):=fun ad v hv=>by
  obtain ⟨h1,h2⟩:=jQ4.1 hv
  unfold unPr
  rw [if_neg (by rw [h1]; simp)]
  exact h2
 have hplm:PLm Ψ1 (unPr Ψ1 ds):=fun ad v hs hv=>by
  unfold unPr
  rw [if_neg (fun e=>hs e.1)]
  exact hv
 have hle:PLe Ψ (unPr Ψ1 ds):=fun ad v hv=>by
  unfold unPr
  rw [if_neg]
  ·exact hE.1 _ _ hv
  ·rintro ⟨e1,e2⟩
   have e3:=h0 ad v hv e1
   have:ad = dAddr ad.block:=by
    obtain ⟨b,o,sp⟩:=ad
    simp only at e1 e3
    subst e1
    subst e3
    rfl
   rw [this,hnew _ e2] at hv
   cases hv
 have hobj:∀ {k:Nat} {b:Blk} {g:Nat},s.heap[k]? = some b → jQb β k g b → g ∉ ds:=fun {k b g} hk hc hm=>by
  have h1:=hprom g hm
  rw [hi.free k b g hk hc (dAddr g) rfl (.inr (.inr rfl))] at h1
  cases h1
 refine ⟨jKk w ds,unPr Ψ1 ds,fun fn tmps R hL=>by rw [hd]; exact leaves_marks ds hheap hnd hL,⟨hle,fun ad v hv=>hE.2 ad v (unPr_le _ _ hv)⟩,⟨?_,?_,?_,?_,hi.len,hi.one,?_,?_,hi.sep,hi.glob.mono hplm⟩,jXt hpl (jQk hf).2,RelF_keep hle hpl hf0 (jZo hf)⟩
 ·exact hi.low.trans ⟨s1,s2,s3,Nat.le_of_eq s4.symm,fun k hk=>s5 k fun hm=>hB k hm hk⟩
 ·rw [s4]; exact hi.size
 ·intro ad v hv
  have h1:=hi.prom _ _ (unPr_le _ _ hv)
  have hnm:ad.block ∉ ds:=fun hm=>by
   have h2:=hheap _ hm
   by_cases hs:ad.spot = none
   ·exact cell?_deferred h2 (Pm_plain hs h1)
   ·unfold unPr at hv
    split at hv
    ·cases hv
    ·rename_i hns
     unfold Pm at h1
     split at h1
     ·rename_i e; exact hs e
     ·rename_i e; exact hns ⟨e,hm⟩
     ·obtain ⟨r,hr⟩:=h1; rw [h2] at hr; cases hr
     ·obtain ⟨r,hr,_⟩:=h1; rw [h2] at hr; cases hr
     ·obtain ⟨ms,cl,hr,_⟩:=h1; rw [h2] at hr; cases hr
     ·exact h1
  exact jKa (s5 _ hnm) h1
 ·exact fun ad v hv hs=>hi.own ad v (unPr_le _ _ hv) hs
 ·intro k b hk
  have hb:=hi.blk k b hk
  cases b with
  | gone=>trivial
  | log ys Y own xs=>exact jJl hb (fun _ h=>h) hplm (Nat.le_of_eq s4.symm) fun g ho=>s5 g (hobj hk ho)
  | lof ys Y own=>exact jJm hb (fun _ h=>h) hplm (Nat.le_of_eq s4.symm) fun g ho=>s5 g (hobj hk ho)
  | cells cs =>
   obtain ⟨g,c,e,h1,h2,h3,h4,h5⟩:=hb
   exact ⟨g,c,e,h1,(s5 g (hobj hk h1)).trans h2,h3,jXt hpl h4,h5⟩
  | grow tid e xs =>
   refine hb.imp id ?_
   rintro ⟨g,cap,cur,h1,h2,h3,h4,h5,h6,h7,h8⟩
   exact ⟨g,cap,cur,h1,h2,h3,(s5 g (hobj hk ⟨_,_,h2,h1⟩)).trans h4,h5,h6,h7,rdL_of_plain hpl h8⟩
  | kmap es =>
   obtain ⟨g,ms,cl,h1,h2,h3,h4,h5,h6⟩:=hb
   exact ⟨g,ms,cl,h1,(s5 g (hobj hk h1)).trans h2,h3,h4,jXt hpl h5,h6⟩
  | dmap e m =>
   obtain ⟨g,ms,cl,h1,h2,h3,h4,h5⟩:=hb
   exact ⟨g,ms,cl,h1,(s5 g (hobj hk h1)).trans h2,h3,jZ6 hpl h4,h5⟩
  | dat t x =>
   obtain ⟨g,c,e,h1,h2,h3,h4⟩:=hb
   exact ⟨g,c,e,h1,(s5 g (hobj hk h1)).trans h2,h3,jQg hpl t x _ (jQ3 t x _ h4)⟩
  | siter n rest =>
   obtain ⟨g,s,pos,h1,h2,h3⟩:=hb
   exact ⟨g,s,pos,h1,(s5 g (hobj hk h1)).trans h2,h3⟩
  | diter e last left =>
   obtain ⟨g,gm,ms,cl,seen,h1,h2,h3,h4,h5,h6⟩:=hb
   refine ⟨g,gm,ms,cl,seen,h1,(s5 g (hobj hk h1)).trans h2,h3,?_,jZ6 hpl h5,h6.1,h6.2.1,h6.2.2.imp id fun ⟨p,x,s',a1,a2,a3,a4,a5,a6⟩=>⟨p,x,s',a1,a2,a3,a4,a5,rv_of_plain hpl a6⟩⟩
   unfold unPr
   rw [if_neg (fun e=>by have:=e.1; simp [mAddr] at this)]
   exact h4
  | loop f p ph ts =>
   obtain ⟨l,r,h1,h2,h3,h4,h5,h6,h7,h8⟩:=hb
   have hn:∀ ad v,ad.spot ≠ some 0 → Ψ1 ad = some v → unPr Ψ1 ds ad = some v:=fun ad v hs hv=>by
    unfold unPr
    rw [if_neg (fun e=>hs e.1)]
    exact hv
   exact ⟨l,r,h1,(s5 l (hobj hk h1)).trans h2,h3,h4,jXt hpl h5,hn _ _ (by simp [lAddr]) h6,fun i v hv=>hn _ _ (by simp [tAddr]) (h7 i v hv),h8⟩
 ·intro k b g hk hc ad had hsp
  cases hp:unPr Ψ1 ds ad with
  | none=>rfl
  | some v=>have:=unPr_le _ _ hp; rw [hi.free k b g hk hc ad had hsp] at this; cases this
theorem setPs_rel:∀ {ps:List Nat} {ts avs:List AV} {tmps:Array Value} {vs:List Value},RelL Ψ β ts tmps.toList → RelL Ψ β avs vs → ps.length = vs.length →
 RelL Ψ β (setPs ts ps avs) ((ps.zip vs).foldl (fun tmps (p:Nat × Value)=>tmps.setIfInBounds p.1 p.2) tmps).toList
 | [],ts,avs,tmps,vs,ht,_,_=>by simpa [setPs] using ht
 | p :: ps,ts,[],tmps,vs,ht,hv,hl=>by
  simp only [RelL] at hv
  subst hv
  simp at hl
 | p :: ps,ts,av :: avs,tmps,_,ht,⟨v,vs',e,hv,hvs⟩,hl=>by
  subst e
  simp only [setPs,List.zip_cons_cons,List.foldl_cons]
  refine setPs_rel ?_ hvs (by simpa using hl)
  have:=RelL_set hv _ _ p ht
  simpa using this
theorem round_end {e:Ex} {l j:Nat} {k:AV → St → Prop} {s2:St} {x:Act} {Ψ2:Pr} {β2:List Value}
 (hk:match popped s2 with
   | none=>False
   | some s3=>match named j s3 with
    | none=>False
    | some s4=>match hget s4.heap j with
     | .loop _ _ .busy _=>match e with
      | .normal=>k .tt { s4 with heap:=setPh s4.heap j .ready }
      | e=>k .ff { s4 with heap:=setPh s4.heap j (.done e) }
     | _=>False)
 (hE:Ext B Ψ Ψ2) (hi:InvH C.P B w0 Ψ2 β2 s2.heap w) (hf:RelF Ψ2 β2 (s2.top :: s2.below) (x :: nameAct l :: As)) :
 ∃ v w',(Instr.endRound l (exCode e)).run C.P w = .ok v w' ∧ ∃ v' Ψ' β' av s',Ending.returned v = .returned v' ∧ Ext B Ψ Ψ' ∧ InvH C.P B w0 Ψ' β' s'.heap w' ∧ RelF Ψ' β' (s'.top :: s'.below) As ∧ RelV Ψ' β' av v' ∧ k av s':=by
 split at hk
 ·exact hk.elim
 ·rename_i s3 hpop
  obtain ⟨hh3,hf3⟩:=popped_sound hpop hf
  split at hk
  ·exact hk.elim
  ·rename_i s4 hn
   obtain ⟨hβ,hh4,hf4⟩:=named_sound hn hf3 rfl
   rw [← hh3,← hh4] at hi
   split at hk
   ·rename_i f p ts hg
    have hkk:=jQc hg (by simp)
    obtain ⟨l1,r,g1,g2,g3,g4,g5,g6⟩:=hi.blk _ _ hkk
    rw [hβ] at g1
    simp only [yldV,Option.some.injEq,Value.func.injEq,Fn.yield.injEq,and_true] at g1
    subst g1
    refine ⟨_,_,run_endRound (exCode e) g2,?_⟩
    cases e with
    | normal=>exact ⟨_,Ψ2,β2,.tt,{ s4 with heap:=setPh s4.heap j .ready },rfl,hE,hi.setPh hkk hβ g2 rfl rfl rfl rfl ⟨rfl,rfl⟩,hf4,rfl,hk⟩
    | exit i=>exact ⟨_,Ψ2,β2,.ff,{ s4 with heap:=setPh s4.heap j (.done (.exit i)) },rfl,hE,hi.setPh hkk hβ g2 rfl rfl rfl rfl ⟨rfl,rfl⟩,hf4,rfl,hk⟩
    | ret=>exact ⟨_,Ψ2,β2,.ff,{ s4 with heap:=setPh s4.heap j (.done .ret) },rfl,hE,hi.setPh hkk hβ g2 rfl rfl rfl rfl ⟨rfl,rfl⟩,hf4,rfl,hk⟩
   ·exact hk.elim
theorem listLen'_eq:∀ l:List Nat,around.listLen' l = l.length
 | []=>rfl
 | _ :: l=>by simp [around.listLen',listLen'_eq l]
theorem around_sound (hsp:jQe C) {call:CallT} (hc:jXu C call) {j:Nat} {avs:List AV} {vs:List Value} {s:St} {k:AV → St → Prop} (hk:around C call j avs s k) (hi:InvH C.P B w0 Ψ β s.heap w) (hf:RelF Ψ β (s.top :: s.below) As) (hr:RelL Ψ β avs vs) :
 ∃ l r,β[j]? = some (yldV l) ∧ w.heap[l]? = some (.loop r) ∧ vs.length = r.params.size ∧
  RoundIn Fence.wide 0 C.P l r.fn ((r.params.zip vs.toArray).foldl (fun tmps (t,a)=>tmps.setIfInBounds t a) r.tmps) r.assign r.body w
   fun e w'=>∃ v Ψ' β' av s',e = .returned v ∧ Ext B Ψ Ψ' ∧ InvH C.P B w0 Ψ' β' s'.heap w' ∧ RelF Ψ' β' (s'.top :: s'.below) As ∧ RelV Ψ' β' av v ∧ k av s':=by
 unfold around at hk
 split at hk
 case isFalse=>exact hk.elim
 rename_i hnp
 split at hk
 ·rename_i f p ts hg
  have hkk:=jQc hg (by simp)
  obtain ⟨l,r,g1,g2,g3,g4,g5,g6,g7,g,g8⟩:=hi.blk _ _ hkk
  split at hk
  ·rename_i g' ps as bd hcode
   rw [g8] at hcode
   simp only [Option.some.injEq,Code.rangeFunc.injEq] at hcode
   obtain ⟨rfl,rfl,rfl,rfl⟩:=hcode
   split at hk
   ·rename_i hlen
    simp only [Nat.beq_eq,jQ5,listLen'_eq] at hlen
    have hvl:vs.length = r.params.size:=by rw [jXl _ _ hr,hlen]; simp
    refine ⟨l,r,g1,g2,hvl,roundIn_of_wpIn trivial ?_⟩
    have hzip:((r.params.zip vs.toArray).foldl (fun tmps (t,a)=>tmps.setIfInBounds t a) r.tmps) = (r.params.toList.zip vs).foldl (fun tmps (p:Nat × Value)=>tmps.setIfInBounds p.1 p.2) r.tmps:=by
     rw [← Array.foldl_toList,Array.toList_zip]
    rw [hzip]
    have hfr:RelF Ψ β (setPs ts r.params.toList avs :: [.yld j] :: s.top :: s.below) ({ tmps:=(r.params.toList.zip vs).foldl (fun tmps (p:Nat × Value)=>tmps.setIfInBounds p.1 p.2) r.tmps,defers:=[] } :: nameAct l :: As) :=
     jZd ⟨⟨[],[],rfl,by simp,List.nodup_nil,by simp⟩,setPs_rel g5 hr (by simpa using hvl.symm)⟩ (jZd (nameFr g1) hf)
    refine wpIn_mono (jXq (ro:=some l) (Ψ0:=Ψ) (W:=dsts r.assign) hsp hc f r.assign (p:=0 :: p) (by simp [jZb,g8,jZq]) hk (fun l' hl=>by cases hl; exact g6) (Ext.refl B Ψ) hi hfr (Same.refl _ _ _) fun _ h=>h) ?_
    intro e a1 w1 hq
    cases e with
    | normal =>
     obtain ⟨Ψ1,β1,s1,hE1,hi1,hf1,hS1,hk1⟩:=hq
     simp only at hk1
     split at hk1
     ·rename_i hnb
      have hβ1:=namedB_sound hnb hf1 rfl
      split at hk1
      ·rename_i f' p' ts' hg1
       have hkk1:=jQc hg1 (by simp)
       obtain ⟨l1,r1,b1,b2,b3,b4,b5⟩:=hi1.blk _ _ hkk1
       rw [hβ1] at b1
       simp only [yldV,Option.some.injEq,Value.func.injEq,Fn.yield.injEq,and_true] at b1
       subst b1
       refine ⟨_,run_beginRound b2 b4.1,?_⟩
       have hi2:=hi1.setPh (ph':=.busy) (r':={ r1 with state:=.busy }) hkk1 hβ1 b2 rfl rfl rfl rfl rfl
       refine wpIn_mono (jXq (ro:=some l) (Ψ0:=Ψ1) (W:=dsts r.body) (a0:=a1) hsp hc f r.body (p:=1 :: p) (s:={ s1 with heap:=setPh s1.heap j .busy }) (by simp [jZb,g8,jZq]) hk1 (fun l' hl=>by cases hl; exact hE1.1 _ _ g6) (Ext.refl B Ψ1) hi2 hf1 (Same.refl _ _ _) fun _ h=>h) ?_
       intro e a2 w2 hq2
       cases e with
       | normal =>
        obtain ⟨Ψ2,β2,s2,hE2,hi3,hf2,_,hk2⟩:=hq2
        exact round_end (e:=.normal) hk2 (hE1.trans hE2) hi3 hf2
       | exit i =>
        obtain ⟨Ψ2,β2,s2,hE2,hi3,hf2,_,hk2⟩:=hq2
        exact round_end (e:=.exit i) hk2 (hE1.trans hE2) hi3 hf2
       | ret =>
        obtain ⟨Ψ2,β2,s2,hE2,hi3,hf2,_,hk2⟩:=hq2
        exact round_end (e:=.ret) hk2 (hE1.trans hE2) hi3 hf2
       | goto _=>exact hq2.elim
       | panic _=>exact (hq2.1.no hnp).elim
       | outgrown=>exact hq2.elim
      ·exact hk1.elim
     ·exact hk1.elim
    | exit _=>obtain ⟨_,_,_,_,_,_,_,hk'⟩:=hq; exact hk'
    | ret=>obtain ⟨_,_,_,_,_,_,_,hk'⟩:=hq; exact hk'
    | goto _=>exact hq
    | panic _=>exact (hq.1.no hnp).elim
    | outgrown=>exact hq
   ·exact hk.elim
  ·exact hk.elim
 ·exact hk.elim
end Go.AM
namespace Go.AM
open Go.RowKit
variable {B:Nat → Prop} {w0:World} {C:Ctx} {Ψ Ψ0:Pr} {β:List Value} {h:List Blk} {w w':World} {fr:List AV} {a a0:Act} {As:List Act} {W:List Nat}
theorem PLm.plain {Ψ Ψ':Pr} (h:PLm Ψ Ψ'):PLe (plain Ψ) Ψ':=fun a v hv=>by
 obtain ⟨h1,h2⟩:=jQ4.1 hv
 exact h a v (by rw [h1]; simp) h2
theorem lt_same {g:Nat} (h:g < w.heap.size) (e:w'.heap[g]? = w.heap[g]?):g < w'.heap.size:=by
 rcases Nat.lt_or_ge g w'.heap.size with h' | h'
 ·exact h'
 ·rw [Array.getElem?_eq_none h',Array.getElem?_eq_getElem h] at e; cases e
theorem BlkR_keep {P:Program} {B':Nat → Prop} {Ψ':Pr} {k:Nat} {b:Blk} (hl:PLm Ψ Ψ') (hc:∀ g,jQb β k g b → w'.heap[g]? = w.heap[g]? ∧ ¬ B' g) (hb:BlkR P B Ψ β w k b):BlkR P B' Ψ' β w' k b:=by
 have hpl:=hl.plain
 cases b with
 | gone=>trivial
 | log ys Y own xs=>exact ⟨hb.1,hb.2.2.2.1.1 _ _ _ _ _ _ hb.2.1 hl (fun g hg=>(hc g hg).1),fun g hg=>⟨(hc g hg).2,lt_same (hb.2.2.1 g hg).2 (hc g hg).1⟩,hb.2.2.2⟩
 | lof ys Y own=>exact ⟨hb.1,hb.2.2.2.2 _ _ _ _ _ hb.2.1 hl (fun g hg=>(hc g hg).1),fun g hg=>⟨(hc g hg).2,lt_same (hb.2.2.1 g hg).2 (hc g hg).1⟩,hb.2.2.2⟩
 | cells cs =>
  obtain ⟨g,c,e,h1,h2,h3,h4,h5⟩:=hb
  exact ⟨g,c,e,h1,(hc g h1).1.trans h2,(hc g h1).2,jXt hpl h4,h5⟩
 | grow tid e xs =>
  refine hb.imp id ?_
  rintro ⟨g,cap,cur,h1,h2,h3,h4,h5,h6,h7,h8⟩
  have hg:=hc g ⟨_,_,h2,h1⟩
  exact ⟨g,cap,cur,h1,h2,hg.2,hg.1.trans h4,h5,h6,h7,rdL_of_plain hpl h8⟩
 | kmap es =>
  obtain ⟨g,ms,cl,h1,h2,h3,h4,h5,h6⟩:=hb
  exact ⟨g,ms,cl,h1,(hc g h1).1.trans h2,(hc g h1).2,h4,jXt hpl h5,h6⟩
 | dmap e m =>
  obtain ⟨g,ms,cl,h1,h2,h3,h4,h5⟩:=hb
  exact ⟨g,ms,cl,h1,(hc g h1).1.trans h2,(hc g h1).2,jZ6 hpl h4,h5⟩
 | diter e last left =>
  obtain ⟨g,gm,ms,cl,seen,h1,h2,h3,h4,h5,h6⟩:=hb
  exact ⟨g,gm,ms,cl,seen,h1,(hc g h1).1.trans h2,(hc g h1).2,hl _ _ (by simp [mAddr]) h4,jZ6 hpl h5,h6.1,h6.2.1,h6.2.2.imp id fun ⟨p,x,s',a1,a2,a3,a4,a5,a6⟩=>⟨p,x,s',a1,a2,a3,a4,a5,rv_of_plain hpl a6⟩⟩
 | loop f p ph ts =>
  obtain ⟨l,r,h1,h2,h3,h4,h5,h6,h7,h8⟩:=hb
  exact ⟨l,r,h1,(hc l h1).1.trans h2,(hc l h1).2,h4,jXt hpl h5,hl _ _ (by simp [lAddr]) h6,fun i v hv=>hl _ _ (by simp [tAddr]) (h7 i v hv),h8⟩
 | dat t x =>
  obtain ⟨g,c,e,h1,h2,h3,h4⟩:=hb
  exact ⟨g,c,e,h1,(hc g h1).1.trans h2,(hc g h1).2,jQg hpl t x _ (jQ3 t x _ h4)⟩
 | siter n rest =>
  obtain ⟨g,s,pos,h1,h2,h3,h4⟩:=hb
  exact ⟨g,s,pos,h1,(hc g h1).1.trans h2,(hc g h1).2,h4⟩
end Go.AM
namespace Go.AM
open Go.RowKit
variable {B:Nat → Prop} {w0:World} {C:Ctx} {Ψ Ψ0:Pr} {β:List Value} {h:List Blk} {w w':World} {fr:List AV} {a a0:Act} {As:List Act} {W:List Nat}
end Go.AM
namespace Go.AM
open Go.RowKit
variable {B:Nat → Prop} {w0:World} {C:Ctx} {Ψ Ψ0:Pr} {β:List Value} {h:List Blk} {w w':World} {fr:List AV} {a a0:Act} {As:List Act} {W:List Nat}
theorem grow1 {P:Program} {tid:TypeId} {e:Ty} {xs:List e.den} {j:Nat} {v:Value} (hβ:β[j]? = some v) (hb:BlkR P B Ψ β w j (.grow tid e xs)):BlkR P B Ψ [v] w 0 (.grow tid e xs):=by
 unfold BlkR at *
 rw [hβ] at hb
 exact hb
theorem grow1_back {P:Program} {tid:TypeId} {e:Ty} {xs:List e.den} {j:Nat} {v:Value} (hβ:β[j]? = some v) (hb:BlkR P B Ψ [v] w 0 (.grow tid e xs)):BlkR P B Ψ β w j (.grow tid e xs):=by
 unfold BlkR at *
 rw [hβ]
 exact hb
theorem amut_sound {g:OSpec} {f:FuncId} {avs:List AV} {vs:List Value} {s:St} {k:AV → St → Prop} (hS:SatO C.P f g) (hk:amut g avs s k) (hi:InvH C.P B w0 Ψ β s.heap w) (hf:RelF Ψ β (s.top :: s.below) As) (hr:RelL Ψ β avs vs) :
 Calls C.P f vs.toArray w fun e w'=>∃ v Ψ' β' av s',e = .returned v ∧ Ext B Ψ Ψ' ∧ InvH C.P B w0 Ψ' β' s'.heap w' ∧ RelF Ψ' β' (s'.top :: s'.below) As ∧ RelV Ψ' β' av v ∧ k av s':=by
 unfold amut at hk
 split at hk
 ·rename_i j rest
  obtain ⟨v1,vs1,rfl,hv1,hr1⟩:=hr
  split at hk
  ·rename_i tid e xs hg
   split at hk
   ·rename_i ht
    have ht:=Nat.eq_of_beq_eq_true ht
    subst ht
    split at hk
    ·rename_i ys hc
     obtain ⟨he,rfl⟩:=cast?_spec hc
     simp only [Ty.arr.injEq] at he
     subst he
     split at hk
     ·rename_i x hx
      split at hk
      ·rename_i hn
       obtain ⟨hpre,hk⟩:=hk
       have hnr:refsA rest = []:=noRefs'_eq hn
       have hget:=jQc hg (by simp)
       have hβ:β[j]? = some v1:=hv1.1
       have hargs:RelL Ψ [] (outs g.ps x) vs1:=jJk (PLe.refl _) hx hr1 (by rw [hnr]; exact Reading.nil)
       have clf:∀ {gb:Nat} {zs:List g.e.den},jQb [v1] 0 gb (.grow g.tid g.e zs) → jQb β j gb (.grow g.tid g.e zs):=fun hc=>by
        obtain ⟨n,cap,h1,h2⟩:=hc
        exact ⟨n,cap,h1,hβ.trans h2⟩
       have clb:∀ {gb:Nat} {zs:List g.e.den},jQb β j gb (.grow g.tid g.e zs) → jQb [v1] 0 gb (.grow g.tid g.e zs):=fun hc=>by
        obtain ⟨n,cap,h1,h2⟩:=hc
        exact ⟨n,cap,h1,by rw [hβ] at h2; exact h2⟩
       have clany:∀ {gb:Nat} {zs zs':List g.e.den},jQb β j gb (.grow g.tid g.e zs) → jQb β j gb (.grow g.tid g.e zs'):=fun hc=>hc
       obtain ⟨B',hB'⟩:∃ B':Nat → Prop,B' = fun q=>B q ∨ ∃ k b,k ≠ j ∧ s.heap[k]? = some b ∧ jQb β k q b:=⟨_,rfl⟩
       have hB1:∀ q,B q → B' q:=fun q hq=>by rw [hB']; exact .inl hq
       have hb0:=hi.blk j _ hget
       have hi1:InvH C.P B' w Ψ [v1] [.grow g.tid g.e xs] w:=by
        refine ⟨BelowS.refl _ _,?_,hi.prom,?_,rfl,?_,?_,?_,?_,hi.glob⟩
        ·intro q hq
         rw [hB'] at hq
         rcases hq with hq | ⟨k,b,_,h1,h2⟩
         ·exact hi.size q hq
         ·exact (jQx (hi.blk k b h1) h2).2
        ·intro ad v hv hs hq
         rw [hB'] at hq
         rcases hq with hq | ⟨k,b,_,h1,h2⟩
         ·exact hi.own ad v hv hs hq
         ·rw [hi.free k b _ h1 h2 ad rfl (.inr (.inr hs))] at hv; cases hv
        ·intro k u hu
         cases k with
         | zero=>simp at hu; subst hu; exact hi.one j _ hβ
         | succ k=>simp at hu
        ·intro k b hkb
         cases k with
         | zero =>
          simp at hkb
          subst hkb
          refine BlkR_keep (PLe.m (PLe.refl Ψ)) (fun q hc=>⟨rfl,?_⟩) (grow1 hβ hb0)
          rw [hB']
          rintro (hq | ⟨k',b',h0,h1,h2⟩)
          ·exact (jQx hb0 (clf hc)).1 hq
          ·exact hi.sep k' j b' _ q h0 h1 hget h2 (clf hc)
         | succ k=>simp at hkb
        ·intro k b q hkb hc ad ha hs
         cases k with
         | zero=>simp at hkb; subst hkb; exact hi.free j _ q hget (clf hc) ad ha hs
         | succ k=>simp at hkb
        ·intro i i' bi bj q hij hbi hbj
         cases i with
         | zero=>cases i' with
          | zero=>exact absurd rfl hij
          | succ i'=>simp at hbj
         | succ i=>simp at hbi
       refine (hS B' w Ψ v1 w x xs vs1 hi1 hargs hpre).mono ?_
       rintro e' w' ⟨u,Ψ',rfl,hE,hi2,hu⟩
       have hExt:Ext B Ψ Ψ':=⟨hE.1,fun ad u hu=>(hE.2 ad u hu).imp id fun h hb=>h (hB1 _ hb)⟩
       refine ⟨u,Ψ',β,_,{ s with heap:=hset s.heap j (.grow g.tid g.e (g.aft x xs)) },rfl,hExt,?_,jQq hE.1 (fun _ _ h=>h) _ _ hf,jZm (PLe.refl _) (fun k v h=>by simp at h) _ _ hu,hk⟩
       show InvH C.P B w0 Ψ' β (hset s.heap j (.grow g.tid g.e (g.aft x xs))) w'
       rw [jQp]
       have hjl:j < s.heap.length:=jKl hget
       have at_:∀ {k:Nat} {b:Blk},(s.heap.set j (.grow g.tid g.e (g.aft x xs)))[k]? = some b → (k = j ∧ b = .grow g.tid g.e (g.aft x xs)) ∨ (k ≠ j ∧ s.heap[k]? = some b):=fun {k b} hkb=>by
        by_cases hkj:k = j
        ·subst hkj
         rw [List.getElem?_set_self hjl] at hkb
         simp at hkb
         exact .inl ⟨rfl,hkb.symm⟩
        ·rw [List.getElem?_set_ne (Ne.symm hkj)] at hkb
         exact .inr ⟨hkj,hkb⟩
       have hb2:=hi2.blk 0 _ rfl
       refine ⟨hi.low.trans ⟨hi2.low.os,hi2.low.tape,hi2.low.output,hi2.low.size,fun q hq=>hi2.low.block q (hB1 q hq)⟩,fun q hq=>hi2.size q (hB1 q hq),hi2.prom,fun ad u hu hs hb=>hi2.own ad u hu hs (hB1 _ hb),by rw [hi.len]; simp,hi.one,?_,?_,?_,hi2.glob⟩
       ·intro k b hkb
        rcases at_ hkb with ⟨rfl,rfl⟩ | ⟨hkj,h1⟩
        ·exact BlkR_keep (PLe.m (PLe.refl Ψ')) (fun q hc=>⟨rfl,(fun hq=>(jQx hb2 (clb hc)).1 (hB1 q hq))⟩) (grow1_back hβ hb2)
        ·have hb:=hi.blk k b h1
         exact BlkR_keep (PLe.m hE.1) (fun q hc=>⟨hi2.low.block q (by rw [hB']; exact .inr ⟨k,b,hkj,h1,hc⟩),(jQx hb hc).1⟩) hb
       ·intro k b q hkb hc ad ha hs
        rcases at_ hkb with ⟨rfl,rfl⟩ | ⟨hkj,h1⟩
        ·exact hi2.free 0 _ q rfl (clb hc) ad ha hs
        ·cases hp:Ψ' ad with
         | none=>rfl
         | some u =>
          exfalso
          rcases hE.2 ad u hp with h' | h'
          ·rw [hi.free k b q h1 hc ad ha hs] at h'; cases h'
          ·exact h' (by rw [ha,hB']; exact .inr ⟨k,b,hkj,h1,hc⟩)
       ·intro i i' bi bj q hij hbi hbj hci hcj
        rcases at_ hbi with ⟨rfl,rfl⟩ | ⟨hi',h1⟩ <;> rcases at_ hbj with ⟨rfl,rfl⟩ | ⟨hj',h2⟩
        ·exact hij rfl
        ·have:=(jQx hb2 (clb hci)).1
         exact this (by rw [hB']; exact .inr ⟨i',bj,hj',h2,hcj⟩)
        ·have:=(jQx hb2 (clb hcj)).1
         exact this (by rw [hB']; exact .inr ⟨i,bi,hi',h1,hci⟩)
        ·exact hi.sep i i' bi bj q hij h1 h2 hci hcj
      ·exact hk.elim
     ·exact hk.elim
    ·exact hk.elim
   ·exact hk.elim
  ·exact hk.elim
 ·exact hk.elim
end Go.AM
