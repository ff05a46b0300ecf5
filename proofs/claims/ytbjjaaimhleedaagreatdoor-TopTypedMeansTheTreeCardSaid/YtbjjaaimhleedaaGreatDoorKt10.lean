import Derived.Test.YtbjjaaimhleedaaGreatDoorKt9
set_option linter.unusedSimpArgs false
set_option linter.unusedVariables false
namespace Go.PL
open Go.AM
theorem drop1i {s:List Int} {k:Int} (h0:0 ≤ k) (h:k < s.length):s.drop k.toNat = s.getD k.toNat 0 :: s.drop (k + 1).toNat:=by
 rw [List.getD_eq_getElem?_getD,List.getElem?_eq_getElem (by omega),show (k + 1).toNat = k.toNat + 1 by omega]
 exact List.drop_eq_getElem_cons (by omega)
theorem txt_step (a:Int) (c:Int) (m out:List Int) (i:Int):txt a (c :: m) out i = if c = 34 then finT a out i else if c < 32 ∨ 126 < c then badT else
 if c = 92 then (match m with | []=>badT | d :: m'=>if d ≠ 34 ∧ d ≠ 92 then badT else txt a m' (out ++ [d]) (i + 2)) else txt a m (out ++ [c]) (i + 1):=by
 cases m with
 | nil =>
  unfold txt
  split
  ·rfl
  ·split
   ·rfl
   ·split <;> rfl
 | cons d m=>rfl
theorem esc_cons (c:Int) (l:List Int):esc (c :: l) = if c = 34 ∨ c = 92 then 92 :: c :: esc l else c :: esc l:=rfl
theorem esc_len:∀ l:List Int,l.length ≤ (esc l).length ∧ (esc l).length ≤ 2 * l.length
 | []=>⟨Nat.le_refl _,Nat.le_refl _⟩
 | c :: l=>by
  have:=esc_len l
  unfold esc
  split <;> simp only [List.length_cons] <;> omega
theorem esc_snoc:∀ (l:List Int) (c:Int),esc (l ++ [c]) = esc l ++ (if c = 34 ∨ c = 92 then [92,c] else [c])
 | [],c=>by
  show esc [c] = [] ++ _
  unfold esc
  split <;> rfl
 | d :: l,c=>by
  rw [List.cons_append]
  unfold esc
  rw [esc_snoc l c]
  split <;> rfl
theorem wrT_len (l:List Int):(wrT l).length = (esc l).length + 2:=by
 unfold wrT
 simp
theorem txt_esc (a:Int):∀ (l out:List Int) (i:Int),txt a (esc l ++ [34]) out i = if (l.all (fun c=>decide (32 ≤ c) && decide (c ≤ 126)) && decide (out.length + l.length ≤ 200)) = true then ((4,a,out ++ l,()),i + (esc l).length + 1,0,()) else badT
 | [],out,i=>by
  show finT a out i = _
  unfold finT
  simp only [List.all_nil,Bool.true_and,decide_eq_true_eq,List.length_nil,esc,List.append_nil]
  split
  ·rw [if_neg (by omega)]
  ·rw [if_pos (by omega)]
   simp
 | c :: l,out,i=>by
  have ih:=txt_esc a l (out ++ [c])
  simp only [List.length_append,List.length_singleton,List.append_assoc,List.singleton_append] at ih
  by_cases hc:c = 34 ∨ c = 92
  ·have e:esc (c :: l) = 92 :: c :: esc l:=by rw [esc_cons,if_pos hc]
   rw [e,List.cons_append,List.cons_append,txt_step]
   rw [if_neg (by decide),if_neg (by decide),if_pos rfl]
   dsimp only
   rw [if_neg (by omega),ih]
   have h1:(decide (32 ≤ c) && decide (c ≤ 126)) = true:=by rcases hc with rfl | rfl <;> rfl
   simp only [List.all_cons,h1,Bool.true_and,List.length_cons]
   rw [show out.length + 1 + l.length = out.length + (l.length + 1) by omega,show i + 2 + ((esc l).length:Int) + 1 = i + (((esc l).length + 1 + 1:Nat):Int) + 1 by omega]
  ·have e:esc (c :: l) = c :: esc l:=by rw [esc_cons,if_neg hc]
   rw [e,List.cons_append,txt_step]
   rw [if_neg (by omega)]
   by_cases hb:c < 32 ∨ 126 < c
   ·rw [if_pos hb]
    have h1:(decide (32 ≤ c) && decide (c ≤ 126)) = false:=by
     rw [Bool.and_eq_false_iff,decide_eq_false_iff_not,decide_eq_false_iff_not]
     omega
    simp only [List.all_cons,h1,Bool.false_and]
    rw [if_neg (by decide)]
   ·rw [if_neg hb,if_neg (by omega),ih]
    have h1:(decide (32 ≤ c) && decide (c ≤ 126)) = true:=by
     rw [Bool.and_eq_true,decide_eq_true_iff,decide_eq_true_iff]
     omega
    simp only [List.all_cons,h1,Bool.true_and,List.length_cons]
    rw [show out.length + 1 + l.length = out.length + (l.length + 1) by omega,show i + 1 + ((esc l).length:Int) + 1 = i + (((esc l).length + 1:Nat):Int) + 1 by omega]
theorem txt_wr (l:List Int):txt 0 ((wrT l).drop 1) [] 1 = if okTx l = true then (((4:Int),(0:Int),l,()),(((wrT l).length:Nat):Int),(0:Int),()) else badT:=by
 show txt 0 (esc l ++ [34]) [] 1 = _
 rw [txt_esc,wrT_len]
 unfold okTx
 simp only [List.length_nil,Nat.zero_add,List.nil_append]
 rw [show (1:Int) + ((esc l).length:Int) + 1 = (((esc l).length + 2:Nat):Int) by omega]
theorem okTx_len {l:List Int} (h:okTx l = true):l.length ≤ 200:=by
 unfold okTx at h
 rw [Bool.and_eq_true,decide_eq_true_iff] at h
 exact h.2
theorem toks_ok {l:List Int} (h:okTx l = true):toksW (wrT l) = ([(4,0,l,())],(0,0,()),()):=by
 have:=okTx_len h
 have:=esc_len l
 unfold toksW
 rw [if_neg (by rw [wrT_len]; omega),txt_wr,if_pos h]
 rfl
theorem toks_bad {l:List Int} (h:okTx l = false):(toksW (wrT l)).2.1.2.1 ≠ 0:=by
 unfold toksW
 split
 ·decide
 ·rw [txt_wr,if_neg (by rw [h]; decide)]
  decide
theorem wr_q (l:List Int):atQ (wrT l) 0:=⟨by omega,by rw [wrT_len]; omega,rfl⟩
end Go.PL
namespace Go.Proofs.YtbjjaaimhleedaaGreatDoor
open Go.AM Go.PL
theorem roomB {C:Ctx} {t:TypeId} {n:Nat} (k:Nat) (hk:C.P.bytesOf t = k) (hk1:k ≤ 1000) (h:n ≤ 1000000):roomP C t n:=by
 unfold roomP
 rw [hk]
 refine ⟨Nat.le_trans (Nat.mul_le_mul h hk1) (by decide),by omega⟩
attribute [local irreducible] fnwp
theorem FA0_sound:jQe FA0:=jQi trivial trivial
theorem sat_skip:Sat bs.P 86 skipSp:=jQn FA0_sound 6 _ skipSp fun (⟨s,a⟩:List Int × Int) hok hp=>by
 have hp:(a:Int) = s.length ∨ atQ s a:=hp
 rw [skip_nf]
 refine ⟨fun x=>x = a,fun _=>0,rfl,?_⟩
 rintro x rfl
 refine ⟨fun h=>?_,fun h=>rfl⟩
 have h:=dt h
 have hq:atQ s x:=hp.resolve_left (by omega)
 obtain ⟨q0,q1,q2⟩:=hq
 refine ⟨⟨q0,q1⟩,fun c=>?_,fun c=>⟨⟨q0,q1⟩,fun c=>⟨⟨q0,q1⟩,fun c=>⟨⟨q0,q1⟩,fun c=>⟨⟨q0,q1⟩,fun c=>rfl,fun c=>?_⟩,fun c=>?_⟩,fun c=>?_⟩,fun c=>?_⟩⟩
 ·have c:=dt c; omega
 all_goals (have c:=ndf c; omega)
theorem sat_text:Sat bs.P 108 textSp:=jQn FA0_sound 6 _ textSp fun (⟨s,a⟩:List Int × Int) hok hp=>by
 have hp:0 ≤ a ∧ a < s.length ∧ s.length ≤ 65536:=hp
 rw [text_nf]
 obtain ⟨p0,p1,p2⟩:=hp
 refine ⟨by unfold isI64; omega,fun x=>a < x.1 ∧ x.1 ≤ s.length ∧ x.2.length ≤ x.1.toNat ∧ txt a (s.drop x.1.toNat) x.2 x.1 = txt a (s.drop (a + 1).toNat) [] (a + 1),fun x=>(s.length - x.1).toNat,⟨by dsimp only; omega,by dsimp only; omega,Nat.zero_le _,rfl⟩,?_⟩
 rintro ⟨i,out⟩ ⟨h0,h1,h2,h3⟩
 dsimp only at h0 h1 h2 h3 ⊢
 refine ⟨fun h=>?_,fun h=>?_⟩
 ·have h:=dt h
  have hi:(0:Int) ≤ i:=by omega
  rw [drop1i hi h,txt_step] at h3
  obtain ⟨c,hc⟩:∃ c,c = s.getD i.toNat 0:=⟨_,rfl⟩
  rw [← hc] at h3 ⊢
  have room:∀ n,n ≤ 200000 → roomP FA0 5 n:=fun n hn=>roomB 1 (by kernel_rfl) (by omega) (by omega)
  refine ⟨⟨hi,h⟩,fun c1=>?_,fun c1=>⟨fun c2=>?_,fun c2=>⟨fun c3=>?_,fun c3=>⟨fun c4=>⟨by unfold isI64; omega,fun c5=>?_,fun c5=>⟨⟨by omega,by have:=df c5; omega⟩,?_⟩⟩,fun c4=>?_⟩⟩⟩⟩
  ·rw [if_pos (dt c1)] at h3
   unfold finT at h3
   refine ⟨fun c6=>?_,fun c6=>⟨by unfold isI64; omega,?_⟩⟩
   ·have c6:=dt c6
    rw [if_pos (by omega)] at h3
    exact h3
   ·have c6:=df c6
    rw [if_neg (by omega)] at h3
    exact h3
  ·rw [if_neg (df c1),if_pos (.inl (dt c2))] at h3
   exact h3
  ·rw [if_neg (df c1),if_pos (.inr (dt c3))] at h3
   exact h3
  ·have e:=dt c5
   rw [if_neg (df c1),if_neg (by have:=df c2; have:=df c3; omega),if_pos (dt c4),List.drop_of_length_le (by omega)] at h3
   exact h3
  ·have hl:i + 1 < s.length:=by have:=df c5; omega
   rw [if_neg (df c1),if_neg (by have:=df c2; have:=df c3; omega),if_pos (dt c4),drop1i (by omega) hl] at h3
   dsimp only at h3
   obtain ⟨d,hd⟩:∃ d,d = s.getD (i + 1).toNat 0:=⟨_,rfl⟩
   rw [← hd] at h3 ⊢
   have nxt:(d = 34 ∨ d = 92) → ((0:Int) ≤ i + 1 ∧ i + 1 < s.length) ∧ roomP FA0 5 (out.length + [d].length) ∧ isI64 (i + 1 + 1) ∧ (a < i + 1 + 1 ∧ i + 1 + 1 ≤ s.length ∧ (out ++ [d]).length ≤ (i + 1 + 1).toNat ∧ txt a (s.drop (i + 1 + 1).toNat) (out ++ [d]) (i + 1 + 1) = txt a (s.drop (a + 1).toNat) [] (a + 1)) ∧ ((s.length:Int) - (i + 1 + 1)).toNat < ((s.length:Int) - i).toNat:=fun hdd=>by
    rw [if_neg (by omega)] at h3
    refine ⟨⟨by omega,hl⟩,room _ (by simp; omega),by unfold isI64; omega,⟨by omega,by omega,by rw [List.length_append,List.length_singleton]; omega,?_⟩,by omega⟩
    rw [← h3,show i + 1 + 1 = i + 2 by omega]
   refine ⟨fun c6=>⟨⟨by omega,hl⟩,fun c7=>?_,fun c7=>nxt (.inr (ndf c7))⟩,fun c6=>nxt (.inl (ndf c6))⟩
   rw [if_pos ⟨ndt c6,ndt c7⟩] at h3
   exact h3
  ·rw [if_neg (df c1),if_neg (by have:=df c2; have:=df c3; omega),if_neg (df c4)] at h3
   exact ⟨room _ (by simp; omega),by unfold isI64; omega,⟨by omega,by omega,by rw [List.length_append,List.length_singleton]; omega,h3⟩,by omega⟩
 ·have h:=df h
  rw [List.drop_of_length_le (by omega)] at h3
  exact h3
theorem sat_never (f:FuncId):Sat bs.P f neverSp:=fun _ _ _ _ _ _ _ h=>h.elim
theorem FA1_sound:jQe FA1:=jQi ⟨sat_text,sat_never _,sat_never _,sat_never _,trivial⟩ trivial
theorem sat_next:Sat bs.P 87 nextSp:=jQn FA1_sound 6 _ nextSp fun (⟨s,a⟩:List Int × Int) hok hp=>by
 have hp:atQ s a ∧ s.length ≤ 65536:=hp
 rw [next_nf]
 obtain ⟨⟨p0,p1,p2⟩,p3⟩:=hp
 simp only [p2]
 simp [p0,p1,p3]
theorem sat_written:Sat bs.P 79 writtenSp:=jQn FA0_sound 6 _ writtenSp fun (⟨k,a,s,⟨⟩⟩:Lx) hok hp=>by
 have hp:(k:Int) = 4 ∧ s.length ≤ 32768:=hp
 rw [written_nf]
 obtain ⟨p0,p1⟩:=hp
 refine ⟨fun c=>absurd p0 (ndt c),fun _=>⟨fun x=>0 ≤ x.1 ∧ x.1 ≤ s.length ∧ x.2 = esc (s.take x.1.toNat),fun x=>(s.length - x.1).toNat,⟨by dsimp only; omega,by dsimp only; omega,rfl⟩,?_⟩⟩
 rintro ⟨i,out⟩ ⟨h0,h1,h2⟩
 dsimp only at h0 h1 h2 ⊢
 have hlo:out.length ≤ 2 * i.toNat:=by
  rw [h2]
  have:=(esc_len (s.take i.toNat)).2
  rw [List.length_take] at this
  omega
 have room:∀ n,n ≤ 200000 → roomP FA0 5 n:=fun n hn=>roomB 1 (by kernel_rfl) (by omega) (by omega)
 refine ⟨fun h=>?_,fun h=>?_⟩
 ·have h:=dt h
  have ht:s.take (i + 1).toNat = s.take i.toNat ++ [s.getD i.toNat 0]:=by
   rw [show (i + 1).toNat = i.toNat + 1 by omega,List.take_add_one,List.getD_eq_getElem?_getD,List.getElem?_eq_getElem (by omega)]
   rfl
  have he:=esc_snoc (s.take i.toNat) (s.getD i.toNat 0)
  rw [← ht,← h2] at he
  obtain ⟨c,hc⟩:∃ c,c = s.getD i.toNat 0:=⟨_,rfl⟩
  rw [← hc] at he ⊢
  have two:(c = 34 ∨ c = 92) → roomP FA0 5 (out.length + 1) ∧ ((0:Int) ≤ i ∧ i < s.length) ∧ roomP FA0 5 ((out ++ [(92:Int)]).length + [c].length) ∧ isI64 (i + 1) ∧ (0 ≤ i + 1 ∧ i + 1 ≤ s.length ∧ out ++ [(92:Int)] ++ [c] = esc (s.take (i + 1).toNat)) ∧ ((s.length:Int) - (i + 1)).toNat < ((s.length:Int) - i).toNat:=fun hcc=>by
   rw [if_pos hcc] at he
   exact ⟨room _ (by omega),⟨h0,h⟩,room _ (by simp; omega),by unfold isI64; omega,⟨by omega,by omega,by rw [he,List.append_assoc]; rfl⟩,by omega⟩
  refine ⟨⟨h0,h⟩,fun c1=>two (.inl (dt c1)),fun c1=>⟨⟨h0,h⟩,fun c2=>two (.inr (dt c2)),fun c2=>⟨⟨h0,h⟩,room _ (by simp; omega),by unfold isI64; omega,⟨by omega,by omega,?_⟩,by omega⟩⟩⟩
  rw [he,if_neg (fun g=>g.elim (df c1) (df c2))]
 ·have h:=df h
  have hs:s.take i.toNat = s:=List.take_of_length_le (by omega)
  rw [hs] at h2
  subst h2
  have hb:bytesOf { data:=#[(34:UInt8)] } = [34]:=rfl
  rw [hb]
  exact ⟨by omega,by simp; omega,rfl⟩
theorem FA2_sound:jQe FA2:=jQi ⟨sat_next,sat_skip,trivial⟩ trivial
theorem sat_toks:Sat bs.P 78 toksSp:=jQn FA2_sound 6 _ toksSp fun (s:List Int) hok hp=>by
 have hp:isWr s:=hp
 rw [toks_nf]
 obtain ⟨l,rfl⟩:=hp
 refine ⟨fun c=>?_,fun c=>⟨.inr (wr_q l),?_⟩⟩
 ·unfold toksW
  rw [if_pos (by have:=dt c; omega)]
 have hl:(wrT l).length ≤ 65536:=by have:=df c; omega
 have hw:toksW (wrT l) = toksR (txt 0 ((wrT l).drop 1) [] 1):=by
  unfold toksW
  rw [if_neg (by omega)]
 refine ⟨fun x=>(x.1 = 0 ∧ x.2 = []) ∨ (x.1 = (wrT l).length ∧ toksW (wrT l) = (x.2,(0,0,()),())),fun x=>((wrT l).length - x.1).toNat,.inl ⟨rfl,rfl⟩,?_⟩
 rintro ⟨i,o⟩ hI
 dsimp only at hI ⊢
 refine ⟨fun h=>?_,fun h=>?_⟩
 ·have h:=dt h
  obtain ⟨rfl,rfl⟩:i = 0 ∧ o = []:=hI.resolve_right (fun g=>by omega)
  have hG:txt 0 ((wrT l).drop ((0:Int) + 1).toNat) [] ((0:Int) + 1) = txt 0 ((wrT l).drop 1) [] 1:=rfl
  rw [hG,txt_wr] at *
  refine ⟨⟨wr_q l,hl⟩,fun c=>?_,fun c=>?_⟩
  ·rw [hw]
   unfold toksR
   rw [if_pos (ndt c)]
  ·have c:=ndf c
   by_cases ho:okTx l = true
   ·rw [if_pos ho] at *
    refine ⟨roomB 32 (by kernel_rfl) (by omega) (by simp),.inl rfl,.inr ⟨rfl,hw⟩,?_⟩
    have:=wrT_len l
    dsimp only
    omega
   ·rw [if_neg ho] at c
    exact absurd c (by decide)
 ·have h:=df h
  obtain ⟨h1,h2⟩:=hI.resolve_left (fun g=>by have:=wrT_len l; omega)
  exact h2.symm
theorem FA3_sound:jQe FA3:=jQi ⟨sat_toks,sat_written,trivial⟩ trivial
theorem sat_poss:Sat bs.P 67 possSp:=jQn FA3_sound 6 _ possSp fun (⟨k,a,s,⟨⟩⟩:Lx) hok hp=>by
 have hp:(k:Int) = 4:=hp
 rw [poss_nf]
 refine ⟨fun c=>?_,fun c=>?_⟩
 ·unfold possB
  rw [decide_eq_false (by have:=dt c; omega)]
  rfl
 have hl:s.length ≤ 32768:=by have:=df c; omega
 have hb:possB s = okTx s:=by
  unfold possB
  rw [decide_eq_true hl,Bool.true_and]
 rw [hb]
 refine ⟨⟨hp,hl⟩,⟨s,rfl⟩,?_⟩
 cases ho:okTx s with
 | true =>
  rw [toks_ok ho]
  subst hp
  simp
 | false =>
  have:=toks_bad ho
  rw [decide_eq_false this]
  exact ⟨fun g=>(by cases g),fun _=>rfl⟩
theorem FA4_sound:jQe FA4:=jQi ⟨sat_poss,trivial⟩ trivial
theorem sat_texted:Sat bs.P 47 textedSp:=jQn FA4_sound 6 _ textedSp fun (s:List Int) hok hp=>by
 rw [texted_nf]
 exact ⟨rfl,rfl⟩
end Go.Proofs.YtbjjaaimhleedaaGreatDoor
namespace Go.PL
open Go.AM
def dep {α:Type} (t:Rose α):Nat:=t.size (fun _=>0)
def litB (x:Lt):Bool:=if x.1 = 1 then decide (x.2.2.2.1 = []) && (decide (-1000000000000000000 < x.2.2.1) && decide (x.2.2.1 < 1000000000000000000)) else decide (x.1 = 2) && (decide (x.2.2.1 = 0) && possB x.2.2.2.1)
def litOk (op:Int) (x:Lt):Bool:=litB x && (!(decide (8 ≤ op) && decide (op ≤ 12)) || decide (x.1 = 1))
def lensB (op:Int) (n:Nat):Bool:=if 6 ≤ op ∧ op ≤ 11 then decide (n = 1) else if op = 12 then decide (n = 2) else if op = 13 then decide (1 ≤ n) && decide (n ≤ 100) else decide (n = 0)
def ctB (t:Tr):Bool:=(argsT t).all (litOk (opT t)) && lensB (opT t) (argsT t).length
def nmB (op:Int) (nm:List Int):Bool:=if op < 5 then decide (nm = []) else possB nm
def arB (op:Int) (n:Nat):Bool:=if op = 2 ∨ op = 3 then decide (2 ≤ n) else if op = 4 then decide (n = 1) else decide (n = 0)
def topB (t:Tr) (lev:Int):Bool:=decide (1 ≤ opT t) && (decide (opT t ≤ 13) && (decide (lev ≤ 60) && (ctB t && (nmB (opT t) (nameT t) && arB (opT t) t.subs.length))))
def frmN:Nat → Tr → Int → Bool
 | 0,_,_=>false
 | n + 1,t,lev=>topB t lev && t.subs.all fun s=>frmN n s (lev + 1)
def w64 (n:Int):Int:=IntKind.i64.wrap n
def szA:List Lt → Int → Int
 | [],n=>n
 | x :: l,n=>szA l (w64 (n + (x.2.2.2.1.length:Int).tdiv 50))
def sz0 (t:Tr):Int:=szA (argsT t) (w64 (w64 (1 + ((argsT t).length:Int)) + ((nameT t).length:Int).tdiv 50))
def szL (g:Tr → Int → Int) (most:Int):List Tr → Int → Int
 | [],n=>n
 | t :: l,n=>if n ≤ most then szL g most l (w64 (n + g t (w64 (most - n)))) else n
def szN:Nat → Tr → Int → Int
 | 0,_,_=>0
 | n + 1,t,most=>szL (szN n) most t.subs (sz0 t)
end Go.PL
namespace Go.Proofs.YtbjjaaimhleedaaGreatDoor
open Go.AM Go.PL
def litSp:FSpec:=⟨[LT],[.bool],fun _=>True,fun x=>litB x⟩
def ctSp:FSpec:=⟨[TR],[.bool],fun _=>True,fun t=>ctB t⟩
def frmSp (n:Nat):FSpec:=⟨[TR,I],[.bool],fun x=>dep (x.1:Tr) ≤ n ∧ 0 ≤ (x.2:Int),fun x=>frmN n x.1 x.2⟩
def szSp (n:Nat):FSpec:=⟨[TR,I],[I],fun x=>dep (x.1:Tr) ≤ n,fun x=>szN n x.1 x.2⟩
def loopsFc (f:FuncId) (r:Nat):List LA :=
 if Nat.beq f 46 then [.slot 4 I] else
 if Nat.beq f 28 then [.slot 7 I] else
 if Nat.beq f 13 then (bif Nat.beq r 3 then [.slot 6 I,.slot 5 I] else [.slot 7 I,.slot 5 I]) else
 []
def hintFc (f:FuncId):Hint:=⟨loopsFc f,fun _=>.split,fun _=>.split,fun _=>0⟩
def hintFcW (f:FuncId):Hint:=if Nat.beq f 999999994 then ⟨fun _=>[],fun _=>.split,fun _=>.split,fun _=>1⟩ else hintFc f
noncomputable def FC0:Ctx:=mkctx bs [(47,textedSp)] [] hintFc
theorem lit_nf (k p n:Int) (s:List Int):fnwp FC0 6 66 litSp (k,p,n,s,()) = ((decide (k = (1:Int)) = true → (decide (s = bytesOf { data:=#[] }) = true → (decide
 ((-1000000000000000000:Int) < n) = true → decide (n < (1000000000000000000:Int)) = litB (k,p,n,s,())) ∧ (decide ((-1000000000000000000:Int) < n) = false → false = litB
 (k,p,n,s,()))) ∧ (decide (s = bytesOf { data:=#[] }) = false → false = litB (k,p,n,s,()))) ∧ (decide (k = (1:Int)) = false → (decide (k = (2:Int)) = true → (decide
 (n = (0:Int)) = true → True ∧ possB s = litB (k,p,n,s,())) ∧ (decide (n = (0:Int)) = false → false = litB (k,p,n,s,()))) ∧ (decide (k = (2:Int)) = false → false =
 litB (k,p,n,s,())))):=by kernel_rfl
noncomputable def FC1:Ctx:=mkctx bs [(66,litSp)] [] hintFc
theorem ct_nf (op pos:Int) (nm:List Int) (ar:List Lt) (sb:List Tr):fnwp FC1 6 46 ctSp (Rose.node ((op,pos,nm,ar,()),()) sb:Tr) = ((decide ((8:Int) ≤ (Rose.node
 ((op,pos,nm,ar,()),()) sb).val.fst.fst) = true → ∃ (I:Int → Prop),∃ (μ:Int → Nat),I (0:Int) ∧ ∀ (x:Int),I x → (decide (x < (↑(Rose.node ((op,pos,nm,ar,()),
 ()) sb).val.fst.snd.snd.snd.fst.length:Int)) = true → ((0:Int) ≤ x ∧ x < (↑(Rose.node ((op,pos,nm,ar,()),()) sb).val.fst.snd.snd.snd.fst.length:Int)) ∧ True ∧ ((!litB
 ((Rose.node ((op,pos,nm,ar,()),()) sb).val.fst.snd.snd.snd.fst.getD x.toNat ((0:Int),(0:Int),(0:Int),[],()))) = true → false = ctB (Rose.node ((op,pos,nm,ar,
 ()),()) sb)) ∧ ((!litB ((Rose.node ((op,pos,nm,ar,()),()) sb).val.fst.snd.snd.snd.fst.getD x.toNat ((0:Int),(0:Int),(0:Int),[],()))) = false → (decide ((Rose.node
 ((op,pos,nm,ar,()),()) sb).val.fst.fst ≤ (12:Int)) = true → ((0:Int) ≤ x ∧ x < (↑(Rose.node ((op,pos,nm,ar,()),()) sb).val.fst.snd.snd.snd.fst.length:Int)) ∧
 ((!decide (((Rose.node ((op,pos,nm,ar,()),()) sb).val.fst.snd.snd.snd.fst.getD x.toNat ((0:Int),(0:Int),(0:Int),[],())).fst = (1:Int))) = true → false = ctB
 (Rose.node ((op,pos,nm,ar,()),()) sb)) ∧ ((!decide (((Rose.node ((op,pos,nm,ar,()),()) sb).val.fst.snd.snd.snd.fst.getD x.toNat ((0:Int),(0:Int),(0:Int),[],
 ())).fst = (1:Int))) = false → isI64 (x + (1:Int)) ∧ I (x + (1:Int)) ∧ μ (x + (1:Int)) < μ x)) ∧ (decide ((Rose.node ((op,pos,nm,ar,()),()) sb).val.fst.fst ≤ (12 :
 Int)) = false → isI64 (x + (1:Int)) ∧ I (x + (1:Int)) ∧ μ (x + (1:Int)) < μ x))) ∧ (decide (x < (↑(Rose.node ((op,pos,nm,ar,()),()) sb).val.fst.snd.snd.snd.fst.length
 : Int)) = false → (decide ((6:Int) ≤ (Rose.node ((op,pos,nm,ar,()),()) sb).val.fst.fst) = true → (decide ((Rose.node ((op,pos,nm,ar,()),()) sb).val.fst.fst ≤ (11 :
 Int)) = true → decide ((↑(Rose.node ((op,pos,nm,ar,()),()) sb).val.fst.snd.snd.snd.fst.length:Int) = (1:Int)) = ctB (Rose.node ((op,pos,nm,ar,()),()) sb)) ∧ (decide
 ((Rose.node ((op,pos,nm,ar,()),()) sb).val.fst.fst ≤ (11:Int)) = false → (decide ((Rose.node ((op,pos,nm,ar,()),()) sb).val.fst.fst = (12:Int)) = true → decide
 ((↑(Rose.node ((op,pos,nm,ar,()),()) sb).val.fst.snd.snd.snd.fst.length:Int) = (2:Int)) = ctB (Rose.node ((op,pos,nm,ar,()),()) sb)) ∧ (decide ((Rose.node ((op,
 pos,nm,ar,()),()) sb).val.fst.fst = (12:Int)) = false → (decide ((Rose.node ((op,pos,nm,ar,()),()) sb).val.fst.fst = (13:Int)) = true → (decide ((1:Int) ≤
 (↑(Rose.node ((op,pos,nm,ar,()),()) sb).val.fst.snd.snd.snd.fst.length:Int)) = true → decide ((↑(Rose.node ((op,pos,nm,ar,()),()) sb).val.fst.snd.snd.snd.fst.length :
 Int) ≤ (100:Int)) = ctB (Rose.node ((op,pos,nm,ar,()),()) sb)) ∧ (decide ((1:Int) ≤ (↑(Rose.node ((op,pos,nm,ar,()),()) sb).val.fst.snd.snd.snd.fst.length:Int)) =
 false → false = ctB (Rose.node ((op,pos,nm,ar,()),()) sb))) ∧ (decide ((Rose.node ((op,pos,nm,ar,()),()) sb).val.fst.fst = (13:Int)) = false → decide ((↑(Rose.node
 ((op,pos,nm,ar,()),()) sb).val.fst.snd.snd.snd.fst.length:Int) = (0:Int)) = ctB (Rose.node ((op,pos,nm,ar,()),()) sb))))) ∧ (decide ((6:Int) ≤ (Rose.node ((op,
 pos,nm,ar,()),()) sb).val.fst.fst) = false → (decide ((Rose.node ((op,pos,nm,ar,()),()) sb).val.fst.fst = (12:Int)) = true → decide ((↑(Rose.node ((op,pos,nm,ar,
 ()),()) sb).val.fst.snd.snd.snd.fst.length:Int) = (2:Int)) = ctB (Rose.node ((op,pos,nm,ar,()),()) sb)) ∧ (decide ((Rose.node ((op,pos,nm,ar,()),())
 sb).val.fst.fst = (12:Int)) = false → (decide ((Rose.node ((op,pos,nm,ar,()),()) sb).val.fst.fst = (13:Int)) = true → (decide ((1:Int) ≤ (↑(Rose.node ((op,pos,nm,
 ar,()),()) sb).val.fst.snd.snd.snd.fst.length:Int)) = true → decide ((↑(Rose.node ((op,pos,nm,ar,()),()) sb).val.fst.snd.snd.snd.fst.length:Int) ≤ (100:Int)) = ctB
 (Rose.node ((op,pos,nm,ar,()),()) sb)) ∧ (decide ((1:Int) ≤ (↑(Rose.node ((op,pos,nm,ar,()),()) sb).val.fst.snd.snd.snd.fst.length:Int)) = false → false = ctB
 (Rose.node ((op,pos,nm,ar,()),()) sb))) ∧ (decide ((Rose.node ((op,pos,nm,ar,()),()) sb).val.fst.fst = (13:Int)) = false → decide ((↑(Rose.node ((op,pos,nm,ar,
 ()),()) sb).val.fst.snd.snd.snd.fst.length:Int) = (0:Int)) = ctB (Rose.node ((op,pos,nm,ar,()),()) sb)))))) ∧ (decide ((8:Int) ≤ (Rose.node ((op,pos,nm,ar,()),
 ()) sb).val.fst.fst) = false → ∃ (I:Int → Prop),∃ (μ:Int → Nat),I (0:Int) ∧ ∀ (x:Int),I x → (decide (x < (↑(Rose.node ((op,pos,nm,ar,()),())
 sb).val.fst.snd.snd.snd.fst.length:Int)) = true → ((0:Int) ≤ x ∧ x < (↑(Rose.node ((op,pos,nm,ar,()),()) sb).val.fst.snd.snd.snd.fst.length:Int)) ∧ True ∧ ((!litB
 ((Rose.node ((op,pos,nm,ar,()),()) sb).val.fst.snd.snd.snd.fst.getD x.toNat ((0:Int),(0:Int),(0:Int),[],()))) = true → false = ctB (Rose.node ((op,pos,nm,ar,
 ()),()) sb)) ∧ ((!litB ((Rose.node ((op,pos,nm,ar,()),()) sb).val.fst.snd.snd.snd.fst.getD x.toNat ((0:Int),(0:Int),(0:Int),[],()))) = false → isI64 (x + (1 :
 Int)) ∧ I (x + (1:Int)) ∧ μ (x + (1:Int)) < μ x)) ∧ (decide (x < (↑(Rose.node ((op,pos,nm,ar,()),()) sb).val.fst.snd.snd.snd.fst.length:Int)) = false → (decide ((6 :
 Int) ≤ (Rose.node ((op,pos,nm,ar,()),()) sb).val.fst.fst) = true → (decide ((Rose.node ((op,pos,nm,ar,()),()) sb).val.fst.fst ≤ (11:Int)) = true → decide
 ((↑(Rose.node ((op,pos,nm,ar,()),()) sb).val.fst.snd.snd.snd.fst.length:Int) = (1:Int)) = ctB (Rose.node ((op,pos,nm,ar,()),()) sb)) ∧ (decide ((Rose.node ((op,
 pos,nm,ar,()),()) sb).val.fst.fst ≤ (11:Int)) = false → (decide ((Rose.node ((op,pos,nm,ar,()),()) sb).val.fst.fst = (12:Int)) = true → decide ((↑(Rose.node ((op,
 pos,nm,ar,()),()) sb).val.fst.snd.snd.snd.fst.length:Int) = (2:Int)) = ctB (Rose.node ((op,pos,nm,ar,()),()) sb)) ∧ (decide ((Rose.node ((op,pos,nm,ar,()),())
 sb).val.fst.fst = (12:Int)) = false → (decide ((Rose.node ((op,pos,nm,ar,()),()) sb).val.fst.fst = (13:Int)) = true → (decide ((1:Int) ≤ (↑(Rose.node ((op,pos,nm,
 ar,()),()) sb).val.fst.snd.snd.snd.fst.length:Int)) = true → decide ((↑(Rose.node ((op,pos,nm,ar,()),()) sb).val.fst.snd.snd.snd.fst.length:Int) ≤ (100:Int)) = ctB
 (Rose.node ((op,pos,nm,ar,()),()) sb)) ∧ (decide ((1:Int) ≤ (↑(Rose.node ((op,pos,nm,ar,()),()) sb).val.fst.snd.snd.snd.fst.length:Int)) = false → false = ctB
 (Rose.node ((op,pos,nm,ar,()),()) sb))) ∧ (decide ((Rose.node ((op,pos,nm,ar,()),()) sb).val.fst.fst = (13:Int)) = false → decide ((↑(Rose.node ((op,pos,nm,ar,
 ()),()) sb).val.fst.snd.snd.snd.fst.length:Int) = (0:Int)) = ctB (Rose.node ((op,pos,nm,ar,()),()) sb))))) ∧ (decide ((6:Int) ≤ (Rose.node ((op,pos,nm,ar,()),())
 sb).val.fst.fst) = false → (decide ((Rose.node ((op,pos,nm,ar,()),()) sb).val.fst.fst = (12:Int)) = true → decide ((↑(Rose.node ((op,pos,nm,ar,()),())
 sb).val.fst.snd.snd.snd.fst.length:Int) = (2:Int)) = ctB (Rose.node ((op,pos,nm,ar,()),()) sb)) ∧ (decide ((Rose.node ((op,pos,nm,ar,()),()) sb).val.fst.fst = (12 :
 Int)) = false → (decide ((Rose.node ((op,pos,nm,ar,()),()) sb).val.fst.fst = (13:Int)) = true → (decide ((1:Int) ≤ (↑(Rose.node ((op,pos,nm,ar,()),())
 sb).val.fst.snd.snd.snd.fst.length:Int)) = true → decide ((↑(Rose.node ((op,pos,nm,ar,()),()) sb).val.fst.snd.snd.snd.fst.length:Int) ≤ (100:Int)) = ctB (Rose.node
 ((op,pos,nm,ar,()),()) sb)) ∧ (decide ((1:Int) ≤ (↑(Rose.node ((op,pos,nm,ar,()),()) sb).val.fst.snd.snd.snd.fst.length:Int)) = false → false = ctB (Rose.node ((op,
 pos,nm,ar,()),()) sb))) ∧ (decide ((Rose.node ((op,pos,nm,ar,()),()) sb).val.fst.fst = (13:Int)) = false → decide ((↑(Rose.node ((op,pos,nm,ar,()),())
 sb).val.fst.snd.snd.snd.fst.length:Int) = (0:Int)) = ctB (Rose.node ((op,pos,nm,ar,()),()) sb))))))):=by kernel_rfl
noncomputable def FC2 (n:Nat):Ctx:=mkctx bs [(46,ctSp),(47,textedSp),(28,frmSp n)] [] hintFc
noncomputable def FC3 (n:Nat):Ctx:=mkctx bs [(13,szSp n)] [] hintFcW
theorem sz_nf (n:Nat) (op pos:Int) (nm:List Int) (ar:List Lt) (sb:List Tr) (most:Int):fnwp (FC3 n) 6 13 (szSp (n + 1)) ((Rose.node ((op,pos,nm,ar,()),()) sb :
 Tr),most) = (((50:Int) ≠ (0:Int) ∧ isI64 ((↑(Rose.node ((op,pos,nm,ar,()),()) sb).val.fst.snd.snd.fst.length:Int).tdiv (50:Int))) ∧ ∃ (I:Int × Int → Prop),∃ (μ :
 Int × Int → Nat),I ((0:Int),IntKind.i64.wrap (IntKind.i64.wrap ((1:Int) + (↑(Rose.node ((op,pos,nm,ar,()),()) sb).val.fst.snd.snd.snd.fst.length:Int)) + (↑(Rose.node
 ((op,pos,nm,ar,()),()) sb).val.fst.snd.snd.fst.length:Int).tdiv (50:Int))) ∧ ∀ (x:Int × Int),I x → (decide (x.fst < (↑(Rose.node ((op,pos,nm,ar,()),())
 sb).val.fst.snd.snd.snd.fst.length:Int)) = true → ((0:Int) ≤ x.fst ∧ x.fst < (↑(Rose.node ((op,pos,nm,ar,()),()) sb).val.fst.snd.snd.snd.fst.length:Int)) ∧ ((50:Int)
 ≠ (0:Int) ∧ isI64 ((↑((Rose.node ((op,pos,nm,ar,()),()) sb).val.fst.snd.snd.snd.fst.getD x.fst.toNat ((0:Int),(0:Int),(0:Int),[],())).snd.snd.snd.fst.length :
 Int).tdiv (50:Int))) ∧ I (IntKind.i64.wrap (x.fst + (1:Int)),IntKind.i64.wrap (x.snd + (↑((Rose.node ((op,pos,nm,ar,()),()) sb).val.fst.snd.snd.snd.fst.getD x.fst.toNat
 ((0:Int),(0:Int),(0:Int),[],())).snd.snd.snd.fst.length:Int).tdiv (50:Int))) ∧ μ (IntKind.i64.wrap (x.fst + (1:Int)),IntKind.i64.wrap (x.snd + (↑((Rose.node
 ((op,pos,nm,ar,()),()) sb).val.fst.snd.snd.snd.fst.getD x.fst.toNat ((0:Int),(0:Int),(0:Int),[],())).snd.snd.snd.fst.length:Int).tdiv (50:Int))) < μ x) ∧
 (decide (x.fst < (↑(Rose.node ((op,pos,nm,ar,()),()) sb).val.fst.snd.snd.snd.fst.length:Int)) = false → ∃ (I:Int × Int → Prop),∃ (μ:Int × Int → Nat),I ((0:Int),
 x.snd) ∧ ∀ (x:Int × Int),I x → (decide (x.fst < (↑(Rose.node ((op,pos,nm,ar,()),()) sb).subs.length:Int)) = true → (decide (x.snd ≤ most) = true → ((0:Int) ≤ x.fst ∧
 x.fst < (↑(Rose.node ((op,pos,nm,ar,()),()) sb).subs.length:Int)) ∧ dep ((Rose.node ((op,pos,nm,ar,()),()) sb).subs.getD x.fst.toNat (Rose.node (((0:Int),(0 :
 Int),[],[],()),()) [])) ≤ n ∧ I (IntKind.i64.wrap (x.fst + (1:Int)),IntKind.i64.wrap (x.snd + szN n ((Rose.node ((op,pos,nm,ar,()),()) sb).subs.getD x.fst.toNat
 (Rose.node (((0:Int),(0:Int),[],[],()),()) [])) (IntKind.i64.wrap (most - x.snd)))) ∧ μ (IntKind.i64.wrap (x.fst + (1:Int)),IntKind.i64.wrap (x.snd + szN n
 ((Rose.node ((op,pos,nm,ar,()),()) sb).subs.getD x.fst.toNat (Rose.node (((0:Int),(0:Int),[],[],()),()) [])) (IntKind.i64.wrap (most - x.snd)))) < μ x) ∧ (decide
 (x.snd ≤ most) = false → x.snd = szN (n + (1:Nat)) (Rose.node ((op,pos,nm,ar,()),()) sb) most)) ∧ (decide (x.fst < (↑(Rose.node ((op,pos,nm,ar,()),()) sb).subs.length
 : Int)) = false → x.snd = szN (n + (1:Nat)) (Rose.node ((op,pos,nm,ar,()),()) sb) most))):=by kernel_rfl
end Go.Proofs.YtbjjaaimhleedaaGreatDoor
namespace Go.Proofs.YtbjjaaimhleedaaGreatDoor
open Go.AM Go.PL
def agetSp:FSpec:=⟨[AL,.str],[AT,.bool],fun _=>True,fun x=>((gotA x.1 x.2).1,(gotA x.1 x.2).2.1)⟩
def relSp:FSpec:=⟨[TR,AT],[.bool],fun x=>1 ≤ (argsT x.1).length ∧ (opT x.1 ≠ 6 ∧ opT x.1 ≠ 13 ∧ opT x.1 ≠ 7 ∧ opT x.1 ≠ 8 ∧ opT x.1 ≠ 9 ∧ opT x.1 ≠ 10 ∧ opT x.1 ≠ 11 → 2 ≤ (argsT x.1).length),fun x=>relA x.1 x.2⟩
def fulSp (n:Nat):FSpec:=⟨[TR,AL],[.bool],fun x=>dep (x.1:Tr) ≤ n ∧ wellN n x.1,fun x=>fulN n x.1 x.2⟩
def hldSp (n:Nat):FSpec:=⟨[AL,PR],[.bool],fun x=>dep (x.2:PL.Pr) ≤ n,fun x=>jQf n x.2 x.1⟩
def loopsFe (f:FuncId) (r:Nat):List LA :=
 if Nat.beq f 75 then [.slot 8 I] else
 if Nat.beq f 74 then [.slot 8 I] else
 if Nat.beq f 38 then [.slot 10 I] else
 if Nat.beq f 25 then [.slot 8 I,.slot 7 .bool] else
 if Nat.beq f 10 then [.slot 5 I] else
 []
def hintFe (f:FuncId):Hint:=⟨loopsFe f,fun _=>.split,fun _=>.split,fun _=>0⟩
noncomputable def FE0:Ctx:=mkctx bs [] [] hintFe
theorem aget_nf (l:List At) (n:List Int):fnwp FE0 6 65 agetSp (l,n) = (∃ (I:Int → Prop),∃ (μ:Int → Nat),I (0:Int) ∧ ∀ (x:Int),I x → (decide (x < (↑l.length :
 Int)) = true → ((0:Int) ≤ x ∧ x < (↑l.length:Int)) ∧ (decide ((l.getD x.toNat ([],(0:Int),(0:Int),[],())).fst = n) = true → (decide (x < (0:Int)) = true → ((bytesOf
 { data:=#[] },(0:Int),(0:Int),bytesOf { data:=#[] },()),false) = ((gotA l n).fst,(gotA l n).snd.fst)) ∧ (decide (x < (0:Int)) = false → ((0:Int) ≤ x ∧ x <
 (↑l.length:Int)) ∧ (((l.getD x.toNat ([],(0:Int),(0:Int),[],())).fst,(l.getD x.toNat ([],(0:Int),(0:Int),[],())).snd.fst,(l.getD x.toNat ([],(0:Int),(0 :
 Int),[],())).snd.snd.fst,(l.getD x.toNat ([],(0:Int),(0:Int),[],())).snd.snd.snd.fst,()),true) = ((gotA l n).fst,(gotA l n).snd.fst))) ∧ (decide ((l.getD x.toNat
 ([],(0:Int),(0:Int),[],())).fst = n) = false → isI64 (x + (1:Int)) ∧ I (x + (1:Int)) ∧ μ (x + (1:Int)) < μ x)) ∧ (decide (x < (↑l.length:Int)) = false → (true =
 true → ((bytesOf { data:=#[] },(0:Int),(0:Int),bytesOf { data:=#[] },()),false) = ((gotA l n).fst,(gotA l n).snd.fst)) ∧ (true = false → ((0:Int) ≤ (-1:Int) ∧
 (-1:Int) < (↑l.length:Int)) ∧ (((l.getD (0:Nat) ([],(0:Int),(0:Int),[],())).fst,(l.getD (0:Nat) ([],(0:Int),(0:Int),[],())).snd.fst,(l.getD (0:Nat)
 ([],(0:Int),(0:Int),[],())).snd.snd.fst,(l.getD (0:Nat) ([],(0:Int),(0:Int),[],())).snd.snd.snd.fst,()),true) = ((gotA l n).fst,(gotA l n).snd.fst)))):=by
 kernel_rfl
theorem rel_nf (op pos:Int) (nm:List Int) (ar:List Lt) (sb:List Tr) (an:List Int) (ak av:Int) (sv:List Int):fnwp FE0 6 25 relSp ((Rose.node ((op,pos,nm,ar,()),
 ()) sb:Tr),(an,ak,av,sv,())) = (((0:Int) ≤ (0:Int) ∧ (0:Int) < (↑(Rose.node ((op,pos,nm,ar,()),()) sb).val.fst.snd.snd.snd.fst.length:Int)) ∧ ∃ (I:Int ×
 Bool → Prop),∃ (μ:Int × Bool → Nat),I ((0:Int),false) ∧ ∀ (x:Int × Bool),I x → (decide (x.fst < (↑(Rose.node ((op,pos,nm,ar,()),())
 sb).val.fst.snd.snd.snd.fst.length:Int)) = true → (x.snd = true → isI64 (x.fst + (1:Int)) ∧ I (x.fst + (1:Int),true) ∧ μ (x.fst + (1:Int),true) < μ x) ∧ (x.snd = false
 → (decide (ak = (1:Int)) = true → ((0:Int) ≤ x.fst ∧ x.fst < (↑(Rose.node ((op,pos,nm,ar,()),()) sb).val.fst.snd.snd.snd.fst.length:Int)) ∧ (decide (((Rose.node ((op,
 pos,nm,ar,()),()) sb).val.fst.snd.snd.snd.fst.getD x.fst.toNat ((0:Int),(0:Int),(0:Int),[],())).snd.snd.fst = av) = true → isI64 (x.fst + (1:Int)) ∧ I (x.fst + (1
 : Int),true) ∧ μ (x.fst + (1:Int),true) < μ x) ∧ (decide (((Rose.node ((op,pos,nm,ar,()),()) sb).val.fst.snd.snd.snd.fst.getD x.fst.toNat ((0:Int),(0:Int),(0 :
 Int),[],())).snd.snd.fst = av) = false → (decide (ak = (2:Int)) = true → ((0:Int) ≤ x.fst ∧ x.fst < (↑(Rose.node ((op,pos,nm,ar,()),())
 sb).val.fst.snd.snd.snd.fst.length:Int)) ∧ isI64 (x.fst + (1:Int)) ∧ I (x.fst + (1:Int),decide (((Rose.node ((op,pos,nm,ar,()),()) sb).val.fst.snd.snd.snd.fst.getD
 x.fst.toNat ((0:Int),(0:Int),(0:Int),[],())).snd.snd.snd.fst = sv)) ∧ μ (x.fst + (1:Int),decide (((Rose.node ((op,pos,nm,ar,()),())
 sb).val.fst.snd.snd.snd.fst.getD x.fst.toNat ((0:Int),(0:Int),(0:Int),[],())).snd.snd.snd.fst = sv)) < μ x) ∧ (decide (ak = (2:Int)) = false → isI64 (x.fst + (1 :
 Int)) ∧ I (x.fst + (1:Int),false) ∧ μ (x.fst + (1:Int),false) < μ x))) ∧ (decide (ak = (1:Int)) = false → (decide (ak = (2:Int)) = true → ((0:Int) ≤ x.fst ∧ x.fst <
 (↑(Rose.node ((op,pos,nm,ar,()),()) sb).val.fst.snd.snd.snd.fst.length:Int)) ∧ isI64 (x.fst + (1:Int)) ∧ I (x.fst + (1:Int),decide (((Rose.node ((op,pos,nm,ar,
 ()),()) sb).val.fst.snd.snd.snd.fst.getD x.fst.toNat ((0:Int),(0:Int),(0:Int),[],())).snd.snd.snd.fst = sv)) ∧ μ (x.fst + (1:Int),decide (((Rose.node ((op,pos,nm,
 ar,()),()) sb).val.fst.snd.snd.snd.fst.getD x.fst.toNat ((0:Int),(0:Int),(0:Int),[],())).snd.snd.snd.fst = sv)) < μ x) ∧ (decide (ak = (2:Int)) = false → isI64
 (x.fst + (1:Int)) ∧ I (x.fst + (1:Int),false) ∧ μ (x.fst + (1:Int),false) < μ x)))) ∧ (decide (x.fst < (↑(Rose.node ((op,pos,nm,ar,()),())
 sb).val.fst.snd.snd.snd.fst.length:Int)) = false → (decide ((Rose.node ((op,pos,nm,ar,()),()) sb).val.fst.fst = (6:Int)) = true → x.snd = relA (Rose.node ((op,pos,nm,
 ar,()),()) sb) (an,ak,av,sv,())) ∧ (decide ((Rose.node ((op,pos,nm,ar,()),()) sb).val.fst.fst = (6:Int)) = false → (decide ((Rose.node ((op,pos,nm,ar,()),())
 sb).val.fst.fst = (13:Int)) = true → x.snd = relA (Rose.node ((op,pos,nm,ar,()),()) sb) (an,ak,av,sv,())) ∧ (decide ((Rose.node ((op,pos,nm,ar,()),())
 sb).val.fst.fst = (13:Int)) = false → (decide ((Rose.node ((op,pos,nm,ar,()),()) sb).val.fst.fst = (7:Int)) = true → (!x.snd) = relA (Rose.node ((op,pos,nm,ar,()),
 ()) sb) (an,ak,av,sv,())) ∧ (decide ((Rose.node ((op,pos,nm,ar,()),()) sb).val.fst.fst = (7:Int)) = false → (decide ((Rose.node ((op,pos,nm,ar,()),())
 sb).val.fst.fst = (8:Int)) = true → decide (av < ((Rose.node ((op,pos,nm,ar,()),()) sb).val.fst.snd.snd.snd.fst.getD (0:Nat) ((0:Int),(0:Int),(0:Int),[],
 ())).snd.snd.fst) = relA (Rose.node ((op,pos,nm,ar,()),()) sb) (an,ak,av,sv,())) ∧ (decide ((Rose.node ((op,pos,nm,ar,()),()) sb).val.fst.fst = (8:Int)) = false →
 (decide ((Rose.node ((op,pos,nm,ar,()),()) sb).val.fst.fst = (9:Int)) = true → decide (av ≤ ((Rose.node ((op,pos,nm,ar,()),()) sb).val.fst.snd.snd.snd.fst.getD (0 :
 Nat) ((0:Int),(0:Int),(0:Int),[],())).snd.snd.fst) = relA (Rose.node ((op,pos,nm,ar,()),()) sb) (an,ak,av,sv,())) ∧ (decide ((Rose.node ((op,pos,nm,ar,()),
 ()) sb).val.fst.fst = (9:Int)) = false → (decide ((Rose.node ((op,pos,nm,ar,()),()) sb).val.fst.fst = (10:Int)) = true → decide (((Rose.node ((op,pos,nm,ar,()),())
 sb).val.fst.snd.snd.snd.fst.getD (0:Nat) ((0:Int),(0:Int),(0:Int),[],())).snd.snd.fst < av) = relA (Rose.node ((op,pos,nm,ar,()),()) sb) (an,ak,av,sv,())) ∧
 (decide ((Rose.node ((op,pos,nm,ar,()),()) sb).val.fst.fst = (10:Int)) = false → (decide ((Rose.node ((op,pos,nm,ar,()),()) sb).val.fst.fst = (11:Int)) = true →
 decide (((Rose.node ((op,pos,nm,ar,()),()) sb).val.fst.snd.snd.snd.fst.getD (0:Nat) ((0:Int),(0:Int),(0:Int),[],())).snd.snd.fst ≤ av) = relA (Rose.node ((op,
 pos,nm,ar,()),()) sb) (an,ak,av,sv,())) ∧ (decide ((Rose.node ((op,pos,nm,ar,()),()) sb).val.fst.fst = (11:Int)) = false → (decide (((Rose.node ((op,pos,nm,ar,
 ()),()) sb).val.fst.snd.snd.snd.fst.getD (0:Nat) ((0:Int),(0:Int),(0:Int),[],())).snd.snd.fst ≤ av) = true → ((0:Int) ≤ (1:Int) ∧ (1:Int) < (↑(Rose.node ((op,
 pos,nm,ar,()),()) sb).val.fst.snd.snd.snd.fst.length:Int)) ∧ decide (av ≤ ((Rose.node ((op,pos,nm,ar,()),()) sb).val.fst.snd.snd.snd.fst.getD (1:Nat) ((0:Int),(0
 : Int),(0:Int),[],())).snd.snd.fst) = relA (Rose.node ((op,pos,nm,ar,()),()) sb) (an,ak,av,sv,())) ∧ (decide (((Rose.node ((op,pos,nm,ar,()),())
 sb).val.fst.snd.snd.snd.fst.getD (0:Nat) ((0:Int),(0:Int),(0:Int),[],())).snd.snd.fst ≤ av) = false → false = relA (Rose.node ((op,pos,nm,ar,()),()) sb) (an,ak,
 av,sv,()))))))))))):=by kernel_rfl
noncomputable def FE1 (n:Nat):Ctx:=mkctx bs [(24,getSp),(25,relSp),(10,fulSp n)] [] hintFe
theorem ful_nf (n:Nat) (op pos:Int) (nm:List Int) (ar:List Lt) (sb:List Tr) (l:List At):fnwp (FE1 n) 6 10 (fulSp (n + 1)) ((Rose.node ((op,pos,nm,ar,()),()) sb :
 Tr),l) = ((decide ((Rose.node ((op,pos,nm,ar,()),()) sb).val.fst.fst = (1:Int)) = true → true = fulN (n + (1:Nat)) (Rose.node ((op,pos,nm,ar,()),()) sb) l) ∧
 (decide ((Rose.node ((op,pos,nm,ar,()),()) sb).val.fst.fst = (1:Int)) = false → (decide ((Rose.node ((op,pos,nm,ar,()),()) sb).val.fst.fst = (4:Int)) = true → ((0 :
 Int) ≤ (0:Int) ∧ (0:Int) < (↑(Rose.node ((op,pos,nm,ar,()),()) sb).subs.length:Int)) ∧ (dep ((Rose.node ((op,pos,nm,ar,()),()) sb).subs.getD (0:Nat) (Rose.node
 (((0:Int),(0:Int),[],[],()),()) [])) ≤ n ∧ wellN n ((Rose.node ((op,pos,nm,ar,()),()) sb).subs.getD (0:Nat) (Rose.node (((0:Int),(0:Int),[],[],()),())
 []))) ∧ (!fulN n ((Rose.node ((op,pos,nm,ar,()),()) sb).subs.getD (0:Nat) (Rose.node (((0:Int),(0:Int),[],[],()),()) [])) l) = fulN (n + (1:Nat)) (Rose.node
 ((op,pos,nm,ar,()),()) sb) l) ∧ (decide ((Rose.node ((op,pos,nm,ar,()),()) sb).val.fst.fst = (4:Int)) = false → (decide ((Rose.node ((op,pos,nm,ar,()),())
 sb).val.fst.fst = (2:Int)) = true → ∃ (I:Int → Prop),∃ (μ:Int → Nat),I (0:Int) ∧ ∀ (x:Int),I x → (decide (x < (↑(Rose.node ((op,pos,nm,ar,()),())
 sb).subs.length:Int)) = true → ((0:Int) ≤ x ∧ x < (↑(Rose.node ((op,pos,nm,ar,()),()) sb).subs.length:Int)) ∧ (dep ((Rose.node ((op,pos,nm,ar,()),())
 sb).subs.getD x.toNat (Rose.node (((0:Int),(0:Int),[],[],()),()) [])) ≤ n ∧ wellN n ((Rose.node ((op,pos,nm,ar,()),()) sb).subs.getD x.toNat (Rose.node (((0:Int),
 (0:Int),[],[],()),()) []))) ∧ ((fulN n ((Rose.node ((op,pos,nm,ar,()),()) sb).subs.getD x.toNat (Rose.node (((0:Int),(0:Int),[],[],()),()) [])) l != decide
 ((Rose.node ((op,pos,nm,ar,()),()) sb).val.fst.fst = (2:Int))) = true → fulN n ((Rose.node ((op,pos,nm,ar,()),()) sb).subs.getD x.toNat (Rose.node (((0:Int),(0 :
 Int),[],[],()),()) [])) l = fulN (n + (1:Nat)) (Rose.node ((op,pos,nm,ar,()),()) sb) l) ∧ ((fulN n ((Rose.node ((op,pos,nm,ar,()),()) sb).subs.getD x.toNat
 (Rose.node (((0:Int),(0:Int),[],[],()),()) [])) l != decide ((Rose.node ((op,pos,nm,ar,()),()) sb).val.fst.fst = (2:Int))) = false → isI64 (x + (1:Int)) ∧ I (x
 + (1:Int)) ∧ μ (x + (1:Int)) < μ x)) ∧ (decide (x < (↑(Rose.node ((op,pos,nm,ar,()),()) sb).subs.length:Int)) = false → decide ((Rose.node ((op,pos,nm,ar,()),())
 sb).val.fst.fst = (2:Int)) = fulN (n + (1:Nat)) (Rose.node ((op,pos,nm,ar,()),()) sb) l)) ∧ (decide ((Rose.node ((op,pos,nm,ar,()),()) sb).val.fst.fst = (2:Int))
 = false → (decide ((Rose.node ((op,pos,nm,ar,()),()) sb).val.fst.fst = (3:Int)) = true → ∃ (I:Int → Prop),∃ (μ:Int → Nat),I (0:Int) ∧ ∀ (x:Int),I x → (decide (x
 < (↑(Rose.node ((op,pos,nm,ar,()),()) sb).subs.length:Int)) = true → ((0:Int) ≤ x ∧ x < (↑(Rose.node ((op,pos,nm,ar,()),()) sb).subs.length:Int)) ∧ (dep
 ((Rose.node ((op,pos,nm,ar,()),()) sb).subs.getD x.toNat (Rose.node (((0:Int),(0:Int),[],[],()),()) [])) ≤ n ∧ wellN n ((Rose.node ((op,pos,nm,ar,()),())
 sb).subs.getD x.toNat (Rose.node (((0:Int),(0:Int),[],[],()),()) []))) ∧ ((fulN n ((Rose.node ((op,pos,nm,ar,()),()) sb).subs.getD x.toNat (Rose.node (((0:Int),
 (0:Int),[],[],()),()) [])) l != decide ((Rose.node ((op,pos,nm,ar,()),()) sb).val.fst.fst = (2:Int))) = true → fulN n ((Rose.node ((op,pos,nm,ar,()),())
 sb).subs.getD x.toNat (Rose.node (((0:Int),(0:Int),[],[],()),()) [])) l = fulN (n + (1:Nat)) (Rose.node ((op,pos,nm,ar,()),()) sb) l) ∧ ((fulN n ((Rose.node ((op,
 pos,nm,ar,()),()) sb).subs.getD x.toNat (Rose.node (((0:Int),(0:Int),[],[],()),()) [])) l != decide ((Rose.node ((op,pos,nm,ar,()),()) sb).val.fst.fst = (2 :
 Int))) = false → isI64 (x + (1:Int)) ∧ I (x + (1:Int)) ∧ μ (x + (1:Int)) < μ x)) ∧ (decide (x < (↑(Rose.node ((op,pos,nm,ar,()),()) sb).subs.length:Int)) = false →
 decide ((Rose.node ((op,pos,nm,ar,()),()) sb).val.fst.fst = (2:Int)) = fulN (n + (1:Nat)) (Rose.node ((op,pos,nm,ar,()),()) sb) l)) ∧ (decide ((Rose.node ((op,pos,
 nm,ar,()),()) sb).val.fst.fst = (3:Int)) = false → True ∧ ((!(gotA l (Rose.node ((op,pos,nm,ar,()),()) sb).val.fst.snd.snd.fst).snd.fst) = true → (gotA l (Rose.node
 ((op,pos,nm,ar,()),()) sb).val.fst.snd.snd.fst).snd.fst = fulN (n + (1:Nat)) (Rose.node ((op,pos,nm,ar,()),()) sb) l) ∧ ((!(gotA l (Rose.node ((op,pos,nm,ar,()),
 ()) sb).val.fst.snd.snd.fst).snd.fst) = false → (decide ((Rose.node ((op,pos,nm,ar,()),()) sb).val.fst.fst = (5:Int)) = true → (gotA l (Rose.node ((op,pos,nm,ar,()),
 ()) sb).val.fst.snd.snd.fst).snd.fst = fulN (n + (1:Nat)) (Rose.node ((op,pos,nm,ar,()),()) sb) l) ∧ (decide ((Rose.node ((op,pos,nm,ar,()),()) sb).val.fst.fst = (5 :
 Int)) = false → ((1:Nat) ≤ (argsT (Rose.node ((op,pos,nm,ar,()),()) sb)).length ∧ (opT (Rose.node ((op,pos,nm,ar,()),()) sb) ≠ (6:Int) ∧ opT (Rose.node ((op,pos,
 nm,ar,()),()) sb) ≠ (13:Int) ∧ opT (Rose.node ((op,pos,nm,ar,()),()) sb) ≠ (7:Int) ∧ opT (Rose.node ((op,pos,nm,ar,()),()) sb) ≠ (8:Int) ∧ opT (Rose.node ((op,
 pos,nm,ar,()),()) sb) ≠ (9:Int) ∧ opT (Rose.node ((op,pos,nm,ar,()),()) sb) ≠ (10:Int) ∧ opT (Rose.node ((op,pos,nm,ar,()),()) sb) ≠ (11:Int) → (2:Nat) ≤
 (argsT (Rose.node ((op,pos,nm,ar,()),()) sb)).length)) ∧ relA (Rose.node ((op,pos,nm,ar,()),()) sb) ((gotA l (Rose.node ((op,pos,nm,ar,()),())
 sb).val.fst.snd.snd.fst).fst.fst,(gotA l (Rose.node ((op,pos,nm,ar,()),()) sb).val.fst.snd.snd.fst).fst.snd.fst,(gotA l (Rose.node ((op,pos,nm,ar,()),())
 sb).val.fst.snd.snd.fst).fst.snd.snd.fst,(gotA l (Rose.node ((op,pos,nm,ar,()),()) sb).val.fst.snd.snd.fst).fst.snd.snd.snd.fst,()) = fulN (n + (1:Nat)) (Rose.node ((op,
 pos,nm,ar,()),()) sb) l))))))):=by kernel_rfl
noncomputable def FE2 (n:Nat):Ctx:=mkctx bs [(65,agetSp),(23,hldSp n)] [] hintFe
theorem hld_nf (n:Nat) (op:Int) (nm:List Int) (a b:Int) (s:List Int) (sb:List PL.Pr) (l:List At):fnwp (FE2 n) 8 23 (hldSp (n + 1)) (l,(Rose.node ((op,nm,a,b,s,
 ()),()) sb:PL.Pr)) = (((Rose.node ((op,nm,a,b,s,()),()) sb).val.fst.fst = (1:Int) → true = jQf (n + (1:Nat)) (Rose.node ((op,nm,a,b,s,()),()) sb) l) ∧
 (¬(Rose.node ((op,nm,a,b,s,()),()) sb).val.fst.fst = (1:Int) → ((Rose.node ((op,nm,a,b,s,()),()) sb).val.fst.fst = (2:Int) → ∃ (I:Int → Prop),∃ (μ:Int →
 Nat),I (0:Int) ∧ ∀ (x:Int),I x → (decide (x < (↑(Rose.node ((op,nm,a,b,s,()),()) sb).subs.length:Int)) = true → ((0:Int) ≤ x ∧ x < (↑(Rose.node ((op,nm,a,b,s,
 ()),()) sb).subs.length:Int)) ∧ dep (Rose.node ((((Rose.node ((op,nm,a,b,s,()),()) sb).subs.getD x.toNat (Rose.node (((0:Int),[],(0:Int),(0:Int),[],()),())
 [])).val.fst.fst,((Rose.node ((op,nm,a,b,s,()),()) sb).subs.getD x.toNat (Rose.node (((0:Int),[],(0:Int),(0:Int),[],()),()) [])).val.fst.snd.fst,((Rose.node
 ((op,nm,a,b,s,()),()) sb).subs.getD x.toNat (Rose.node (((0:Int),[],(0:Int),(0:Int),[],()),()) [])).val.fst.snd.snd.fst,((Rose.node ((op,nm,a,b,s,()),())
 sb).subs.getD x.toNat (Rose.node (((0:Int),[],(0:Int),(0:Int),[],()),()) [])).val.fst.snd.snd.snd.fst,((Rose.node ((op,nm,a,b,s,()),()) sb).subs.getD x.toNat
 (Rose.node (((0:Int),[],(0:Int),(0:Int),[],()),()) [])).val.fst.snd.snd.snd.snd.fst,()),()) ((Rose.node ((op,nm,a,b,s,()),()) sb).subs.getD x.toNat (Rose.node
 (((0:Int),[],(0:Int),(0:Int),[],()),()) [])).subs) ≤ n ∧ ((!jQf n (Rose.node ((((Rose.node ((op,nm,a,b,s,()),()) sb).subs.getD x.toNat (Rose.node (((0 :
 Int),[],(0:Int),(0:Int),[],()),()) [])).val.fst.fst,((Rose.node ((op,nm,a,b,s,()),()) sb).subs.getD x.toNat (Rose.node (((0:Int),[],(0:Int),(0:Int),[],
 ()),()) [])).val.fst.snd.fst,((Rose.node ((op,nm,a,b,s,()),()) sb).subs.getD x.toNat (Rose.node (((0:Int),[],(0:Int),(0:Int),[],()),())
 [])).val.fst.snd.snd.fst,((Rose.node ((op,nm,a,b,s,()),()) sb).subs.getD x.toNat (Rose.node (((0:Int),[],(0:Int),(0:Int),[],()),())
 [])).val.fst.snd.snd.snd.fst,((Rose.node ((op,nm,a,b,s,()),()) sb).subs.getD x.toNat (Rose.node (((0:Int),[],(0:Int),(0:Int),[],()),())
 [])).val.fst.snd.snd.snd.snd.fst,()),()) ((Rose.node ((op,nm,a,b,s,()),()) sb).subs.getD x.toNat (Rose.node (((0:Int),[],(0:Int),(0:Int),[],()),()) [])).subs)
 l) = true → false = jQf (n + (1:Nat)) (Rose.node ((op,nm,a,b,s,()),()) sb) l) ∧ ((!jQf n (Rose.node ((((Rose.node ((op,nm,a,b,s,()),()) sb).subs.getD x.toNat
 (Rose.node (((0:Int),[],(0:Int),(0:Int),[],()),()) [])).val.fst.fst,((Rose.node ((op,nm,a,b,s,()),()) sb).subs.getD x.toNat (Rose.node (((0:Int),[],(0 :
 Int),(0:Int),[],()),()) [])).val.fst.snd.fst,((Rose.node ((op,nm,a,b,s,()),()) sb).subs.getD x.toNat (Rose.node (((0:Int),[],(0:Int),(0:Int),[],()),())
 [])).val.fst.snd.snd.fst,((Rose.node ((op,nm,a,b,s,()),()) sb).subs.getD x.toNat (Rose.node (((0:Int),[],(0:Int),(0:Int),[],()),())
 [])).val.fst.snd.snd.snd.fst,((Rose.node ((op,nm,a,b,s,()),()) sb).subs.getD x.toNat (Rose.node (((0:Int),[],(0:Int),(0:Int),[],()),())
 [])).val.fst.snd.snd.snd.snd.fst,()),()) ((Rose.node ((op,nm,a,b,s,()),()) sb).subs.getD x.toNat (Rose.node (((0:Int),[],(0:Int),(0:Int),[],()),()) [])).subs)
 l) = false → isI64 (x + (1:Int)) ∧ I (x + (1:Int)) ∧ μ (x + (1:Int)) < μ x)) ∧ (decide (x < (↑(Rose.node ((op,nm,a,b,s,()),()) sb).subs.length:Int)) = false → true
 = jQf (n + (1:Nat)) (Rose.node ((op,nm,a,b,s,()),()) sb) l)) ∧ (¬(Rose.node ((op,nm,a,b,s,()),()) sb).val.fst.fst = (2:Int) → ((Rose.node ((op,nm,a,b,s,
 ()),()) sb).val.fst.fst = (3:Int) → ∃ (I:Int → Prop),∃ (μ:Int → Nat),I (0:Int) ∧ ∀ (x:Int),I x → (decide (x < (↑(Rose.node ((op,nm,a,b,s,()),())
 sb).subs.length:Int)) = true → ((0:Int) ≤ x ∧ x < (↑(Rose.node ((op,nm,a,b,s,()),()) sb).subs.length:Int)) ∧ dep ((Rose.node ((op,nm,a,b,s,()),()) sb).subs.getD
 x.toNat (Rose.node (((0:Int),[],(0:Int),(0:Int),[],()),()) [])) ≤ n ∧ (jQf n ((Rose.node ((op,nm,a,b,s,()),()) sb).subs.getD x.toNat (Rose.node (((0:Int),
 [],(0:Int),(0:Int),[],()),()) [])) l = true → decide ((0:Int) ≤ x) = jQf (n + (1:Nat)) (Rose.node ((op,nm,a,b,s,()),()) sb) l) ∧ (jQf n ((Rose.node ((op,
 nm,a,b,s,()),()) sb).subs.getD x.toNat (Rose.node (((0:Int),[],(0:Int),(0:Int),[],()),()) [])) l = false → isI64 (x + (1:Int)) ∧ I (x + (1:Int)) ∧ μ (x + (1
 : Int)) < μ x)) ∧ (decide (x < (↑(Rose.node ((op,nm,a,b,s,()),()) sb).subs.length:Int)) = false → false = jQf (n + (1:Nat)) (Rose.node ((op,nm,a,b,s,()),())
 sb) l)) ∧ (¬(Rose.node ((op,nm,a,b,s,()),()) sb).val.fst.fst = (3:Int) → ((Rose.node ((op,nm,a,b,s,()),()) sb).val.fst.fst = (4:Int) → ∃ (I:Int → Prop),∃ (μ :
 Int → Nat),I (0:Int) ∧ ∀ (x:Int),I x → (decide (x < (↑(Rose.node ((op,nm,a,b,s,()),()) sb).subs.length:Int)) = true → ((0:Int) ≤ x ∧ x < (↑(Rose.node ((op,nm,a,
 b,s,()),()) sb).subs.length:Int)) ∧ dep ((Rose.node ((op,nm,a,b,s,()),()) sb).subs.getD x.toNat (Rose.node (((0:Int),[],(0:Int),(0:Int),[],()),()) [])) ≤ n
 ∧ (jQf n ((Rose.node ((op,nm,a,b,s,()),()) sb).subs.getD x.toNat (Rose.node (((0:Int),[],(0:Int),(0:Int),[],()),()) [])) l = true → (!decide ((0:Int) ≤ x))
 = jQf (n + (1:Nat)) (Rose.node ((op,nm,a,b,s,()),()) sb) l) ∧ (jQf n ((Rose.node ((op,nm,a,b,s,()),()) sb).subs.getD x.toNat (Rose.node (((0:Int),[],(0 :
 Int),(0:Int),[],()),()) [])) l = false → isI64 (x + (1:Int)) ∧ I (x + (1:Int)) ∧ μ (x + (1:Int)) < μ x)) ∧ (decide (x < (↑(Rose.node ((op,nm,a,b,s,()),())
 sb).subs.length:Int)) = false → true = jQf (n + (1:Nat)) (Rose.node ((op,nm,a,b,s,()),()) sb) l)) ∧ (¬(Rose.node ((op,nm,a,b,s,()),()) sb).val.fst.fst = (4 :
 Int) → ((Rose.node ((op,nm,a,b,s,()),()) sb).val.fst.fst = (5:Int) → True ∧ (gotA l (Rose.node ((op,nm,a,b,s,()),()) sb).val.fst.snd.fst).snd.fst = jQf (n + (1 :
 Nat)) (Rose.node ((op,nm,a,b,s,()),()) sb) l) ∧ (¬(Rose.node ((op,nm,a,b,s,()),()) sb).val.fst.fst = (5:Int) → ((Rose.node ((op,nm,a,b,s,()),())
 sb).val.fst.fst = (6:Int) → True ∧ ((gotA l (Rose.node ((op,nm,a,b,s,()),()) sb).val.fst.snd.fst).snd.fst = true → (decide ((gotA l (Rose.node ((op,nm,a,b,s,()),())
 sb).val.fst.snd.fst).fst.snd.fst = (1:Int)) = true → (decide ((Rose.node ((op,nm,a,b,s,()),()) sb).val.fst.snd.snd.fst ≤ (gotA l (Rose.node ((op,nm,a,b,s,()),())
 sb).val.fst.snd.fst).fst.snd.snd.fst) = true → decide ((gotA l (Rose.node ((op,nm,a,b,s,()),()) sb).val.fst.snd.fst).fst.snd.snd.fst ≤ (Rose.node ((op,nm,a,b,s,()),
 ()) sb).val.fst.snd.snd.snd.fst) = jQf (n + (1:Nat)) (Rose.node ((op,nm,a,b,s,()),()) sb) l) ∧ (decide ((Rose.node ((op,nm,a,b,s,()),()) sb).val.fst.snd.snd.fst
 ≤ (gotA l (Rose.node ((op,nm,a,b,s,()),()) sb).val.fst.snd.fst).fst.snd.snd.fst) = false → false = jQf (n + (1:Nat)) (Rose.node ((op,nm,a,b,s,()),()) sb) l)) ∧
 (decide ((gotA l (Rose.node ((op,nm,a,b,s,()),()) sb).val.fst.snd.fst).fst.snd.fst = (1:Int)) = false → false = jQf (n + (1:Nat)) (Rose.node ((op,nm,a,b,s,()),
 ()) sb) l)) ∧ ((gotA l (Rose.node ((op,nm,a,b,s,()),()) sb).val.fst.snd.fst).snd.fst = false → false = jQf (n + (1:Nat)) (Rose.node ((op,nm,a,b,s,()),()) sb) l))
 ∧ (¬(Rose.node ((op,nm,a,b,s,()),()) sb).val.fst.fst = (6:Int) → ((Rose.node ((op,nm,a,b,s,()),()) sb).val.fst.fst = (7:Int) → True ∧ ((gotA l (Rose.node ((op,
 nm,a,b,s,()),()) sb).val.fst.snd.fst).snd.fst = true → (decide ((gotA l (Rose.node ((op,nm,a,b,s,()),()) sb).val.fst.snd.fst).fst.snd.fst = (2:Int)) = true → decide
 ((gotA l (Rose.node ((op,nm,a,b,s,()),()) sb).val.fst.snd.fst).fst.snd.snd.snd.fst = (Rose.node ((op,nm,a,b,s,()),()) sb).val.fst.snd.snd.snd.snd.fst) = jQf (n +
 (1:Nat)) (Rose.node ((op,nm,a,b,s,()),()) sb) l) ∧ (decide ((gotA l (Rose.node ((op,nm,a,b,s,()),()) sb).val.fst.snd.fst).fst.snd.fst = (2:Int)) = false → false =
 jQf (n + (1:Nat)) (Rose.node ((op,nm,a,b,s,()),()) sb) l)) ∧ ((gotA l (Rose.node ((op,nm,a,b,s,()),()) sb).val.fst.snd.fst).snd.fst = false → false = jQf (n +
 (1:Nat)) (Rose.node ((op,nm,a,b,s,()),()) sb) l)) ∧ (¬(Rose.node ((op,nm,a,b,s,()),()) sb).val.fst.fst = (7:Int) → false = jQf (n + (1:Nat)) (Rose.node ((op,
 nm,a,b,s,()),()) sb) l)))))))):=by kernel_rfl
end Go.Proofs.YtbjjaaimhleedaaGreatDoor
namespace Go.PL
open Go.AM
def dLt:Lt:=(0,0,0,[],())
def dTr:Tr:=.node ((0,0,[],[],()),()) []
theorem all_getD {α:Type} {l:List α} {d:α} {p:α → Bool}:l.all p = true ↔ ∀ j:Nat,(j:Int) < l.length → p (l.getD j d) = true:=by
 rw [List.all_eq_true]
 refine ⟨fun h j hj=>h _ (jQ9 (by omega)),fun h x hx=>?_⟩
 obtain ⟨j,hj,rfl⟩:=jKe d hx
 exact h j (by omega)
theorem all_no {α:Type} {l:List α} {d:α} {p:α → Bool} {j:Nat} (hj:j < l.length) (h:p (l.getD j d) = false):l.all p = false:=eq_no fun g=>by
 have:=(all_getD (d:=d)).1 g j (by omega)
 rw [h] at this
 cases this
theorem sizes_mem {α:Type} {y:Rose α}:∀ {l:List (Rose α)},y ∈ l → dep y ≤ Rose.sizes (fun _=>0) l
 | [],h=>absurd h List.not_mem_nil
 | z :: l,h=>by
  show _ ≤ Rose.size (fun _=>0) z + Rose.sizes (fun _=>0) l
  rcases List.mem_cons.1 h with rfl | h
  ·exact Nat.le_add_right _ _
  ·exact Nat.le_trans (sizes_mem h) (Nat.le_add_left _ _)
theorem dep_node {α:Type} (x:α) (l:List (Rose α)):dep (.node x l) = 0 + Rose.sizes (fun _=>0) l + 1:=rfl
theorem dep_sub {α:Type} {x:α} {l:List (Rose α)} {y:Rose α} (h:y ∈ l):dep y < dep (.node x l):=by
 have:=sizes_mem h
 rw [dep_node]
 omega
theorem dep_pos {α:Type}:∀ t:Rose α,1 ≤ dep t
 | .node x l=>by rw [dep_node]; omega
theorem sub_le {α:Type} {x:α} {l:List (Rose α)} {n:Nat} (h:dep (.node x l) ≤ n + 1):∀ y ∈ l,dep y ≤ n:=fun y hy=>by
 have:=dep_sub (x:=x) hy
 omega
theorem ct_no {op pos:Int} {nm:List Int} {ar:List Lt} {sb:List Tr} {j:Nat} (hj:j < ar.length) (h:litOk op (ar.getD j (0,0,0,[],())) = false):false = ctB (.node ((op,pos,nm,ar,()),()) sb):=by
 show false = (ar.all (litOk op) && lensB op ar.length)
 rw [all_no hj h,Bool.false_and]
theorem ct_run {op pos:Int} {nm:List Int} {ar:List Lt} {sb:List Tr} (h:∀ j:Nat,(j:Int) < ar.length → litOk op (ar.getD j (0,0,0,[],())) = true):ctB (.node ((op,pos,nm,ar,()),()) sb) = lensB op ar.length:=by
 show (ar.all (litOk op) && lensB op ar.length) = _
 rw [all_getD.2 h,Bool.true_and]
theorem top_iff {op pos:Int} {nm:List Int} {ar:List Lt} {sb:List Tr} {lev:Int}:topB (.node ((op,pos,nm,ar,()),()) sb) lev = true ↔
 1 ≤ op ∧ op ≤ 13 ∧ lev ≤ 60 ∧ ctB (.node ((op,pos,nm,ar,()),()) sb) = true ∧ (op < 5 → nm = []) ∧ (¬ op < 5 → possB nm = true) ∧ ((op = 2 ∨ op = 3) → 2 ≤ sb.length) ∧ (op = 4 → sb.length = 1) ∧ (op ≠ 2 → op ≠ 3 → op ≠ 4 → sb.length = 0):=by
 show (decide (1 ≤ op) && (decide (op ≤ 13) && (decide (lev ≤ 60) && (ctB _ && (nmB op nm && arB op sb.length))))) = true ↔ _
 simp only [Bool.and_eq_true,decide_eq_true_iff,nmB,arB]
 refine ⟨fun ⟨a,b,c,d,e,f⟩=>⟨a,b,c,d,fun g=>?_,fun g=>?_,fun g=>?_,fun g=>?_,fun g1 g2 g3=>?_⟩,fun ⟨a,b,c,d,e,f,g,h,i⟩=>⟨a,b,c,d,?_,?_⟩⟩
 ·rw [if_pos g,decide_eq_true_iff] at e; exact e
 ·rw [if_neg g] at e; exact e
 ·rw [if_pos g,decide_eq_true_iff] at f; exact f
 ·rw [if_neg (by omega),if_pos g,decide_eq_true_iff] at f; exact f
 ·rw [if_neg (by omega),if_neg g3,decide_eq_true_iff] at f; exact f
 ·by_cases q:op < 5
  ·rw [if_pos q,decide_eq_true_iff]; exact e q
  ·rw [if_neg q]; exact f q
 ·by_cases q:op = 2 ∨ op = 3
  ·rw [if_pos q,decide_eq_true_iff]; exact g q
  ·rw [if_neg q]
   by_cases r:op = 4
   ·rw [if_pos r,decide_eq_true_iff]; exact h r
   ·rw [if_neg r,decide_eq_true_iff]; exact i (by omega) (by omega) r
theorem frm_no {n:Nat} {t:Tr} {lev:Int} (h:topB t lev = true → False):false = frmN (n + 1) t lev:=by
 show false = (topB t lev && _)
 rw [eq_no h,Bool.false_and]
theorem frm_run {n:Nat} {x:(Int × Int × List Int × List Lt × Unit) × Unit} {sb:List Tr} {lev:Int} (h:topB (.node x sb) lev = true):frmN (n + 1) (.node x sb) lev = sb.all fun s=>frmN n s (lev + 1):=by
 show (topB (.node x sb) lev && sb.all _) = _
 rw [h,Bool.true_and]
theorem frm_loop {n:Nat} {sb:List Tr} {lev:Int} {R:Bool} (hl:sb.length ≤ 9223372036854775807) (h0:0 ≤ lev) (h60:lev ≤ 60) (hd:∀ y ∈ sb,dep y ≤ n) (hR:R = sb.all fun s=>frmN n s (lev + 1)) :
 ∃ (I:Int → Prop) (μ:Int → Nat),I 0 ∧ ∀ (x:Int),I x → (decide (x < (sb.length:Int)) = true → (0 ≤ x ∧ x < (sb.length:Int)) ∧ isI64 (lev + 1) ∧ (dep (sb.getD x.toNat (Rose.node ((0,0,[],[],()),()) [])) ≤ n ∧ 0 ≤ lev + 1) ∧
  ((!frmN n (sb.getD x.toNat (Rose.node ((0,0,[],[],()),()) [])) (lev + 1)) = true → false = R) ∧ ((!frmN n (sb.getD x.toNat (Rose.node ((0,0,[],[],()),()) [])) (lev + 1)) = false → isI64 (x + 1) ∧ I (x + 1) ∧ μ (x + 1) < μ x)) ∧
  (decide (x < (sb.length:Int)) = false → true = R):=by
 refine ⟨fun x=>0 ≤ x ∧ x ≤ sb.length ∧ ∀ j:Nat,(j:Int) < x → frmN n (sb.getD j dTr) (lev + 1) = true,fun x=>(sb.length - x).toNat,⟨by omega,by omega,fun j hj=>by omega⟩,?_⟩
 rintro x ⟨h1,h2,h3⟩
 refine ⟨fun h=>?_,fun h=>?_⟩
 ·have h:=dt h
  refine ⟨⟨h1,h⟩,by unfold isI64; omega,⟨hd _ (jQ9 (by omega)),by omega⟩,fun c=>?_,fun c=>⟨jZk h1 h hl,⟨by omega,by omega,jZp h1 h3 (nf c)⟩,by dsimp only; omega⟩⟩
  rw [hR]
  exact (all_no (d:=dTr) (j:=x.toNat) (by omega) (nt c)).symm
 ·rw [hR]
  exact (all_getD.2 fun j hj=>h3 j (by have:=df h; omega)).symm
theorem szA_drop {l:List Lt} {i:Int} (h0:0 ≤ i) (h:i < l.length) (n:Int):szA (l.drop i.toNat) n = szA (l.drop (i + 1).toNat) (w64 (n + ((l.getD i.toNat (0,0,0,[],())).2.2.2.1.length:Int).tdiv 50)):=by
 have hlt:i.toNat < l.length:=by omega
 rw [List.drop_eq_getElem_cons hlt,show (i + 1).toNat = i.toNat + 1 by omega,List.getD_eq_getElem?_getD,List.getElem?_eq_getElem hlt]
 rfl
theorem szL_drop {g:Tr → Int → Int} {most:Int} {l:List Tr} {i:Int} (h0:0 ≤ i) (h:i < l.length) (n:Int):szL g most (l.drop i.toNat) n = if n ≤ most then szL g most (l.drop (i + 1).toNat) (w64 (n + g (l.getD i.toNat dTr) (w64 (most - n)))) else n:=by
 have hlt:i.toNat < l.length:=by omega
 rw [List.drop_eq_getElem_cons hlt,show (i + 1).toNat = i.toNat + 1 by omega,List.getD_eq_getElem?_getD,List.getElem?_eq_getElem hlt]
 rfl
theorem w64_id {n:Int} (h:isI64 n):IntKind.i64.wrap n = n:=by
 unfold isI64 at h
 simp only [IntKind.wrap,IntKind.bits,IntKind.signed]
 simp
 omega
theorem tdiv_i64 {n:Nat}:isI64 ((n:Int).tdiv 50) ∨ 9223372036854775807 < n:=by
 by_cases h:9223372036854775807 < n
 ·exact .inr h
 ·refine .inl ?_
  rw [Int.tdiv_eq_ediv_of_nonneg (by omega)]
  unfold isI64
  omega
end Go.PL
namespace Go.Proofs.YtbjjaaimhleedaaGreatDoor
open Go.AM Go.PL
theorem tr_ok {op pos:Int} {nm:List Int} {ar:List Lt} {sb:List Tr} (h:okd TR (Rose.node ((op,pos,nm,ar,()),()) sb:Tr)):nm.length ≤ 9223372036854775807 ∧ ar.length ≤ 9223372036854775807 ∧ sb.length ≤ 9223372036854775807 ∧ ∀ x ∈ ar,x.2.2.2.1.length ≤ 9223372036854775807:=by
 have h:Rose.all (fun y n=>okd (.pair I (.pair I (.pair .str (.pair (.arr LT) .unit)))) (Prod.fst y) ∧ okd .unit (Prod.snd y) ∧ n ≤ maxLen) (Rose.node ((op,pos,nm,ar,()),()) sb):=h
 exact ⟨h.1.1.2.2.1.2,h.1.1.2.2.2.1.1,h.1.2.2,fun x hx=>(h.1.1.2.2.2.1.2 x hx).2.2.2.1.2⟩
attribute [local irreducible] fnwp
theorem FC0_sound:jQe FC0:=jQi ⟨sat_texted,trivial⟩ trivial
theorem sat_lit:Sat bs.P 66 litSp:=jQn FC0_sound 6 _ litSp fun (⟨k,p,n,s,⟨⟩⟩:Lt) hok hp=>by
 rw [lit_nf]
 simp only [litB]
 repeat' (first | apply And.intro | (intro hh; first | (replace hh:=dt hh) | (replace hh:=df hh)) | intro hh)
 all_goals simp_all [bytesOf]
 all_goals (intros; omega)
theorem FC1_sound:jQe FC1:=jQi ⟨sat_lit,trivial⟩ trivial
theorem sat_ct:Sat bs.P 46 ctSp:=jQn FC1_sound 6 _ ctSp fun (.node ⟨⟨op,pos,nm,ar,⟨⟩⟩,⟨⟩⟩ sb:Tr) hok hp=>by
 rw [ct_nf]
 have hm:=(tr_ok hok).2.1
 have fin:(∀ j:Nat,(j:Int) < ar.length → litOk op (ar.getD j (0,0,0,[],())) = true) →
  (decide ((6:Int) ≤ op) = true → (decide (op ≤ (11:Int)) = true → decide ((ar.length:Int) = 1) = ctB (.node ((op,pos,nm,ar,()),()) sb)) ∧ (decide (op ≤ (11:Int)) = false →
    (decide (op = (12:Int)) = true → decide ((ar.length:Int) = 2) = ctB (.node ((op,pos,nm,ar,()),()) sb)) ∧ (decide (op = (12:Int)) = false →
      (decide (op = (13:Int)) = true → (decide ((1:Int) ≤ (ar.length:Int)) = true → decide ((ar.length:Int) ≤ 100) = ctB (.node ((op,pos,nm,ar,()),()) sb)) ∧ (decide ((1:Int) ≤ (ar.length:Int)) = false → false = ctB (.node ((op,pos,nm,ar,()),()) sb))) ∧
      (decide (op = (13:Int)) = false → decide ((ar.length:Int) = 0) = ctB (.node ((op,pos,nm,ar,()),()) sb))))) ∧
  (decide ((6:Int) ≤ op) = false →
    (decide (op = (12:Int)) = true → decide ((ar.length:Int) = 2) = ctB (.node ((op,pos,nm,ar,()),()) sb)) ∧ (decide (op = (12:Int)) = false →
      (decide (op = (13:Int)) = true → (decide ((1:Int) ≤ (ar.length:Int)) = true → decide ((ar.length:Int) ≤ 100) = ctB (.node ((op,pos,nm,ar,()),()) sb)) ∧ (decide ((1:Int) ≤ (ar.length:Int)) = false → false = ctB (.node ((op,pos,nm,ar,()),()) sb))) ∧
      (decide (op = (13:Int)) = false → decide ((ar.length:Int) = 0) = ctB (.node ((op,pos,nm,ar,()),()) sb)))):=fun hall=>by
  rw [ct_run hall]
  unfold lensB
  repeat' (first | apply And.intro | (intro hh; first | (replace hh:=dt hh) | (replace hh:=df hh)))
  all_goals (repeat' split)
  all_goals first
   | omega
   | (apply dec_is; rw [decide_eq_true_iff]; omega)
   | (apply dec_is; rw [Bool.and_eq_true,decide_eq_true_iff,decide_eq_true_iff]; omega)
   | (apply is_no; rw [Bool.and_eq_true,decide_eq_true_iff,decide_eq_true_iff]; omega)
 have no:∀ x:Int,0 ≤ x → x < ar.length → litOk op (ar.getD x.toNat (0,0,0,[],())) = false → false = ctB (.node ((op,pos,nm,ar,()),()) sb):=fun x h0 h1 h=>ct_no (j:=x.toNat) (by omega) h
 refine ⟨fun c8=>?_,fun c8=>?_⟩
 ·have c8:8 ≤ op:=dt c8
  refine ⟨fun x=>0 ≤ x ∧ x ≤ ar.length ∧ ∀ j:Nat,(j:Int) < x → litOk op (ar.getD j (0,0,0,[],())) = true,fun x=>(ar.length - x).toNat,⟨by omega,by omega,fun j hj=>by omega⟩,?_⟩
  rintro x ⟨h0,h1,h2⟩
  refine ⟨fun h=>?_,fun h=>?_⟩
  ·have h:x < ar.length:=dt h
   refine ⟨⟨h0,h⟩,trivial,fun c=>no x h0 h ?_,fun c=>⟨fun c12=>⟨⟨h0,h⟩,fun ck=>no x h0 h ?_,fun ck=>⟨jZk h0 h hm,⟨by omega,by omega,jZp h0 h2 ?_⟩,by dsimp only; omega⟩⟩,fun c12=>⟨jZk h0 h hm,⟨by omega,by omega,jZp h0 h2 ?_⟩,by dsimp only; omega⟩⟩⟩
   ·have c:litB (ar.getD x.toNat (0,0,0,[],())) = false:=nt c
    unfold litOk
    rw [c]; rfl
   ·have c12:op ≤ 12:=dt c12
    have ck:¬ (ar.getD x.toNat (0,0,0,[],())).1 = 1:=ndt ck
    exact Bool.and_eq_false_iff.2 (.inr (Bool.or_eq_false_iff.2 ⟨by rw [decide_eq_true c8,decide_eq_true c12]; rfl,decide_eq_false ck⟩))
   ·have c:litB (ar.getD x.toNat (0,0,0,[],())) = true:=nf c
    have ck:(ar.getD x.toNat (0,0,0,[],())).1 = 1:=ndf ck
    unfold litOk
    rw [c,ck]
    simp
   ·have c:litB (ar.getD x.toNat (0,0,0,[],())) = true:=nf c
    have c12:¬ op ≤ 12:=df c12
    unfold litOk
    rw [c,decide_eq_false c12]
    simp
  ·have h:¬ x < ar.length:=df h
   exact fin fun j hj=>h2 j (by omega)
 ·have c8:¬ 8 ≤ op:=df c8
  refine ⟨fun x=>0 ≤ x ∧ x ≤ ar.length ∧ ∀ j:Nat,(j:Int) < x → litOk op (ar.getD j (0,0,0,[],())) = true,fun x=>(ar.length - x).toNat,⟨by omega,by omega,fun j hj=>by omega⟩,?_⟩
  rintro x ⟨h0,h1,h2⟩
  refine ⟨fun h=>?_,fun h=>?_⟩
  ·have h:x < ar.length:=dt h
   refine ⟨⟨h0,h⟩,trivial,fun c=>no x h0 h ?_,fun c=>⟨jZk h0 h hm,⟨by omega,by omega,jZp h0 h2 ?_⟩,by dsimp only; omega⟩⟩
   ·have c:litB (ar.getD x.toNat (0,0,0,[],())) = false:=nt c
    unfold litOk
    rw [c]; rfl
   ·have c:litB (ar.getD x.toNat (0,0,0,[],())) = true:=nf c
    unfold litOk
    rw [c,decide_eq_false c8]
    simp
  ·have h:¬ x < ar.length:=df h
   exact fin fun j hj=>h2 j (by omega)
theorem FC3_sound {n:Nat} (h:Sat bs.P 13 (szSp n)):jQe (FC3 n):=jQi ⟨h,trivial⟩ trivial
theorem sat_szN:∀ n,Sat bs.P 13 (szSp n)
 | 0=>fun _ _ x _ _ _ _ h=>by
  have h:dep x.1 ≤ 0:=h
  have:=dep_pos x.1
  omega
 | n + 1=>jQn (FC3_sound (sat_szN n)) 6 _ (szSp (n + 1)) fun (⟨.node ⟨⟨op,pos,nm,ar,⟨⟩⟩,⟨⟩⟩ sb,most⟩:Tr × Int) hok hp=>by
  have hp:dep (Rose.node ((op,pos,nm,ar,()),()) sb:Tr) ≤ n + 1:=hp
  obtain ⟨k1,k2,k3,k4⟩:=tr_ok hok.1
  have hd:=sub_le hp
  rw [sz_nf]
  simp only [Rose.val,Rose.subs]
  have T:szN (n + 1) (Rose.node ((op,pos,nm,ar,()),()) sb) most = szL (szN n) most sb (szA ar (w64 (w64 (1 + (ar.length:Int)) + (nm.length:Int).tdiv 50))):=rfl
  refine ⟨⟨by decide,tdiv_i64.resolve_right (by omega)⟩,fun x=>0 ≤ x.1 ∧ x.1 ≤ ar.length ∧ szA (ar.drop x.1.toNat) x.2 = szA ar (w64 (w64 (1 + (ar.length:Int)) + (nm.length:Int).tdiv 50)),fun x=>(ar.length - x.1).toNat,⟨by dsimp only; omega,by dsimp only; omega,rfl⟩,?_⟩
  rintro ⟨i,z⟩ ⟨h0,h1,h2⟩
  dsimp only at h0 h1 h2 ⊢
  refine ⟨fun h=>?_,fun h=>?_⟩
  ·have h:=dt h
   rw [w64_id (jZk h0 h k2)]
   refine ⟨⟨h0,h⟩,⟨by decide,tdiv_i64.resolve_right ?_⟩,⟨by omega,by omega,?_⟩,by omega⟩
   ·have:=k4 _ (jQ9 (d:=(0,0,0,[],())) (show i.toNat < ar.length by omega))
    omega
   ·rw [← h2,szA_drop h0 h]
    rfl
  ·have h:=df h
   rw [List.drop_of_length_le (by omega)] at h2
   have h2:z = szA ar (w64 (w64 (1 + (ar.length:Int)) + (nm.length:Int).tdiv 50)):=h2
   rw [T,← h2]
   refine ⟨fun x=>0 ≤ x.1 ∧ x.1 ≤ sb.length ∧ szL (szN n) most (sb.drop x.1.toNat) x.2 = szL (szN n) most sb z,fun x=>(sb.length - x.1).toNat,⟨by dsimp only; omega,by dsimp only; omega,rfl⟩,?_⟩
   rintro ⟨i,y⟩ ⟨g0,g1,g2⟩
   dsimp only at g0 g1 g2 ⊢
   refine ⟨fun h=>⟨fun c=>?_,fun c=>?_⟩,fun h=>?_⟩
   ·have h:=dt h
    rw [szL_drop g0 h,if_pos (dt c)] at g2
    rw [w64_id (jZk g0 h k3)]
    exact ⟨⟨g0,h⟩,hd _ (jQ9 (by omega)),⟨by omega,by omega,g2⟩,by omega⟩
   ·have h:=dt h
    rw [szL_drop g0 h,if_neg (df c)] at g2
    exact g2
   ·have h:=df h
    rw [List.drop_of_length_le (by omega)] at g2
    exact g2
end Go.Proofs.YtbjjaaimhleedaaGreatDoor
namespace Go.PL
open Go.AM
theorem gotA_eq (l:List At) (n:List Int):gotA l n = match getA l n with | some a=>(a,true,()) | none=>(([],0,0,[],()),false,()):=rfl
theorem got_none {l:List At} {n:List Int} (h:∀ j:Nat,(j:Int) < l.length → (l.getD j dAt).1 ≠ n):gotA l n = (([],0,0,[],()),false,()):=by
 rw [gotA_eq]
 have:getA l n = none:=by
  unfold getA
  rw [List.find?_eq_none]
  intro a ha
  obtain ⟨j,hj,rfl⟩:=jKe dAt ha
  simpa using h j (by omega)
 rw [this]
theorem got_at {l:List At} {n:List Int} {k:Int} (h0:0 ≤ k) (hk:k < l.length) (hb:∀ j:Nat,(j:Int) < k → (l.getD j dAt).1 ≠ n) (h:(l.getD k.toNat dAt).1 = n):gotA l n = (l.getD k.toNat dAt,true,()):=by
 rw [gotA_eq]
 have:getA l n = some (l.getD k.toNat dAt):=by
  unfold getA
  rw [List.find?_eq_some_iff_getElem]
  refine ⟨by simpa using h,k.toNat,by omega,?_,fun j hj=>?_⟩
  ·rw [List.getD_eq_getElem?_getD,List.getElem?_eq_getElem (by omega)]
   rfl
  ·have:=hb j (by omega)
   rw [List.getD_eq_getElem?_getD,List.getElem?_eq_getElem (by omega)] at this
   simpa using this
 rw [this]
def dPr:PL.Pr:=.node ((0,[],0,0,[],()),()) []
theorem pr_eta (x:PL.Pr):(Rose.node ((x.val.fst.fst,x.val.fst.snd.fst,x.val.fst.snd.snd.fst,x.val.fst.snd.snd.snd.fst,x.val.fst.snd.snd.snd.snd.fst,()),()) x.subs:PL.Pr) = x:=by cases x; rfl
theorem hld_eq (n:Nat) (op:Int) (nm:List Int) (a b:Int) (s:List Int) (sb:List PL.Pr) (l:List At):jQf (n + 1) (.node ((op,nm,a,b,s,()),()) sb) l =
 if op = 1 then true else if op = 2 then sb.all (fun x=>jQf n x l) else if op = 3 then sb.any (fun x=>jQf n x l) else if op = 4 then !sb.any (fun x=>jQf n x l) else
 if op = 5 then (getA l nm).isSome else if op = 6 then (match getA l nm with | some c=>decide (c.2.1 = 1) && (decide (a ≤ c.2.2.1) && decide (c.2.2.1 ≤ b)) | none=>false) else
 if op = 7 then (match getA l nm with | some c=>decide (c.2.1 = 2) && decide (c.2.2.2.1 = s) | none=>false) else false:=rfl
theorem ful_eq (n:Nat) (op pos:Int) (nm:List Int) (ar:List Lt) (sb:List Tr) (l:List At):fulN (n + 1) (.node ((op,pos,nm,ar,()),()) sb) l =
 if op = 1 then true else if op = 4 then !fulN n (sb.getD 0 (.node ((op,pos,nm,ar,()),()) sb)) l else if op = 2 then sb.all (fun x=>fulN n x l) else if op = 3 then sb.any (fun x=>fulN n x l) else
 match getA l nm with | none=>false | some a=>if op = 5 then true else relA (.node ((op,pos,nm,ar,()),()) sb) a:=rfl
def oneL (ak av:Int) (sv:List Int) (x:Lt):Bool:=(decide (ak = 1) && decide (x.2.2.1 = av)) || (decide (ak = 2) && decide (x.2.2.2.1 = sv))
theorem rel_eq (op pos:Int) (nm:List Int) (ar:List Lt) (sb:List Tr) (an:List Int) (ak av:Int) (sv:List Int):relA (.node ((op,pos,nm,ar,()),()) sb) (an,ak,av,sv,()) =
 if op = 6 ∨ op = 13 then ar.any (oneL ak av sv) else if op = 7 then !ar.any (oneL ak av sv) else if op = 8 then decide (av < (ar.getD 0 dLt).2.2.1) else if op = 9 then decide (av ≤ (ar.getD 0 dLt).2.2.1) else
 if op = 10 then decide ((ar.getD 0 dLt).2.2.1 < av) else if op = 11 then decide ((ar.getD 0 dLt).2.2.1 ≤ av) else decide ((ar.getD 0 dLt).2.2.1 ≤ av) && decide (av ≤ (ar.getD 1 dLt).2.2.1):=rfl
theorem ne_tt {a:Bool} (h:(a != true) = true):a = false:=by cases a <;> simp_all
theorem ne_ff {a:Bool} (h:(a != false) = true):a = true:=by cases a <;> simp_all
theorem ne_no {a q:Bool} (h:(a != q) = false):a = q:=by cases a <;> cases q <;> simp_all
theorem any_no {α:Type} {l:List α} {d:α} {p:α → Bool} (h:∀ j:Nat,(j:Int) < l.length → p (l.getD j d) = false):l.any p = false:=eq_no fun g=>by
 obtain ⟨x,hx,hp⟩:=List.any_eq_true.1 g
 obtain ⟨j,hj,rfl⟩:=jKe d hx
 rw [h j (by omega)] at hp
 cases hp
theorem any_yes {α:Type} {l:List α} {d:α} {p:α → Bool} {j:Nat} (hj:j < l.length) (h:p (l.getD j d) = true):l.any p = true:=List.any_eq_true.2 ⟨_,jQ9 hj,h⟩
theorem lit_range {op:Int} {x:Lt} (h:litOk op x = true):(x.1 = 1 ∨ x.1 = 2) ∧ -1000000000000000000 < x.2.2.1 ∧ x.2.2.1 < 1000000000000000000:=by
 unfold litOk litB at h
 rw [Bool.and_eq_true] at h
 have h:=h.1
 split at h
 ·rename_i c
  simp only [Bool.and_eq_true,decide_eq_true_iff] at h
  exact ⟨.inl c,h.2.1,h.2.2⟩
 ·simp only [Bool.and_eq_true,decide_eq_true_iff] at h
  exact ⟨.inr h.1,by omega,by omega⟩
theorem frm_well:∀ (n:Nat) {t:Tr} {lev:Int},frmN n t lev = true → wellN n t
 | 0,_,_,h=>by cases h
 | n + 1,.node ⟨⟨op,pos,nm,ar,⟨⟩⟩,⟨⟩⟩ sb,lev,h=>by
  have h:(topB (.node ((op,pos,nm,ar,()),()) sb) lev && sb.all fun s=>frmN n s (lev + 1)) = true:=h
  rw [Bool.and_eq_true,List.all_eq_true] at h
  obtain ⟨h1,h2⟩:=h
  obtain ⟨a1,a2,a3,a4,a5,a6,a7,a8,a9⟩:=top_iff.1 h1
  have hc:(ar.all (litOk op) && lensB op ar.length) = true:=a4
  rw [Bool.and_eq_true,List.all_eq_true] at hc
  obtain ⟨c1,c2⟩:=hc
  unfold lensB at c2
  refine ⟨⟨a1,a2⟩,a8,fun x hx=>frm_well n (h2 x hx),fun e1 e2=>?_,fun e=>?_,fun e=>?_,fun x hx=>lit_range (c1 x hx)⟩
  ·rw [if_pos ⟨e1,e2⟩,decide_eq_true_iff] at c2; exact c2
  ·have e:op = 12:=e
   rw [if_neg (by omega),if_pos e,decide_eq_true_iff] at c2; exact c2
  ·have e:op = 13:=e
   rw [if_neg (by omega),if_neg (by omega),if_pos e,Bool.and_eq_true,decide_eq_true_iff] at c2; exact c2.1
end Go.PL
namespace Go.Proofs.YtbjjaaimhleedaaGreatDoor
open Go.AM Go.PL
attribute [local irreducible] fnwp
theorem FE0_sound:jQe FE0:=jQi trivial trivial
theorem sat_aget:Sat bs.P 65 agetSp:=jQn FE0_sound 6 _ agetSp fun (⟨l,n⟩:List At × List Int) hok hp=>by
 have hm:l.length ≤ 9223372036854775807:=hok.1.1
 rw [aget_nf]
 refine ⟨fun x=>0 ≤ x ∧ x ≤ l.length ∧ ∀ j:Nat,(j:Int) < x → (l.getD j dAt).1 ≠ n,fun x=>(l.length - x).toNat,⟨by omega,by omega,fun j hj=>by omega⟩,?_⟩
 rintro x ⟨h0,h1,h2⟩
 refine ⟨fun h=>?_,fun h=>⟨fun _=>?_,fun c=>by cases c⟩⟩
 ·have h:=dt h
  refine ⟨⟨h0,h⟩,fun c=>⟨fun c2=>absurd (dt c2) (by omega),fun c2=>⟨⟨h0,h⟩,?_⟩⟩,fun c=>⟨jZk h0 h hm,⟨by omega,by omega,jZp h0 h2 (df c)⟩,by dsimp only; omega⟩⟩
  rw [got_at h0 h h2 (dt c)]
  rfl
 ·rw [got_none fun j hj=>h2 j (by have:=df h; omega)]
  rfl
theorem sat_rel:Sat bs.P 25 relSp:=jQn FE0_sound 6 _ relSp fun (⟨.node ⟨⟨op,pos,nm,ar,⟨⟩⟩,⟨⟩⟩ sb,an,ak,av,sv,⟨⟩⟩:Tr × At) hok hp=>by
 have hp:1 ≤ ar.length ∧ (op ≠ 6 ∧ op ≠ 13 ∧ op ≠ 7 ∧ op ≠ 8 ∧ op ≠ 9 ∧ op ≠ 10 ∧ op ≠ 11 → 2 ≤ ar.length):=hp
 have hm:=(tr_ok hok.1).2.1
 rw [rel_nf]
 simp only [Rose.val]
 refine ⟨⟨by omega,by omega⟩,fun x=>0 ≤ x.1 ∧ x.1 ≤ ar.length ∧ (x.2 = true ↔ ∃ j:Nat,(j:Int) < x.1 ∧ oneL ak av sv (ar.getD j dLt) = true),fun x=>(ar.length - x.1).toNat,⟨by dsimp only; omega,by dsimp only; omega,⟨fun c=>(by cases c),fun ⟨j,hj,_⟩=>(by dsimp only at hj; omega)⟩⟩,?_⟩
 rintro ⟨i,b⟩ ⟨h0,h1,h2⟩
 dsimp only at h0 h1 h2 ⊢
 have step:∀ b':Bool,(b' = true ↔ b = true ∨ oneL ak av sv (ar.getD i.toNat dLt) = true) → (b' = true ↔ ∃ j:Nat,(j:Int) < i + 1 ∧ oneL ak av sv (ar.getD j dLt) = true):=fun b' hb=>by
  rw [hb,h2]
  constructor
  ·rintro (⟨j,g1,g2⟩ | g)
   ·exact ⟨j,by omega,g2⟩
   ·exact ⟨i.toNat,by omega,g⟩
  ·rintro ⟨j,g1,g2⟩
   by_cases q:(j:Int) < i
   ·exact .inl ⟨j,q,g2⟩
   ·rw [show j = i.toNat by omega] at g2
    exact .inr g2
 refine ⟨fun h=>?_,fun h=>?_⟩
 ·have h:=dt h
  have hi:isI64 (i + 1):=jZk h0 h hm
  have one:oneL ak av sv (ar.getD i.toNat dLt) = ((decide (ak = 1) && decide ((ar.getD i.toNat dLt).2.2.1 = av)) || (decide (ak = 2) && decide ((ar.getD i.toNat dLt).2.2.2.1 = sv))):=rfl
  refine ⟨fun c=>⟨hi,⟨by omega,by omega,step true ?_⟩,by omega⟩,fun c=>⟨fun c1=>⟨⟨h0,h⟩,fun c2=>⟨hi,⟨by omega,by omega,step true ?_⟩,by omega⟩,fun c2=>⟨fun c3=>⟨⟨h0,h⟩,hi,⟨by omega,by omega,step _ ?_⟩,by omega⟩,fun c3=>⟨hi,⟨by omega,by omega,step false ?_⟩,by omega⟩⟩⟩,fun c1=>⟨fun c3=>⟨⟨h0,h⟩,hi,⟨by omega,by omega,step _ ?_⟩,by omega⟩,fun c3=>⟨hi,⟨by omega,by omega,step false ?_⟩,by omega⟩⟩⟩⟩
  ·rw [c]; simp
  ·rw [one,c1]
   have c2:decide ((ar.getD i.toNat dLt).2.2.1 = av) = true:=c2
   rw [c2]; simp
  ·rw [one,c,c1,c3]
   have c2:decide ((ar.getD i.toNat dLt).2.2.1 = av) = false:=c2
   rw [c2]
   simp only [Bool.and_false,Bool.false_or,Bool.true_and,Bool.false_eq_true,false_or]
   exact Iff.rfl
  ·rw [one,c,c1,c3]
   have c2:decide ((ar.getD i.toNat dLt).2.2.1 = av) = false:=c2
   rw [c2]; simp
  ·rw [one,c,c1,c3]
   simp only [Bool.false_and,Bool.false_or,Bool.true_and,Bool.false_eq_true,false_or]
   exact Iff.rfl
  ·rw [one,c,c1,c3]; simp
 ·have h:=df h
  have hb:b = ar.any (oneL ak av sv):=by
   apply bool_is
   rw [h2,List.any_eq_true]
   constructor
   ·rintro ⟨j,g1,g2⟩
    exact ⟨_,jQ9 (by omega),g2⟩
   ·rintro ⟨x,hx,hp⟩
    obtain ⟨j,hj,rfl⟩:=jKe dLt hx
    exact ⟨j,by omega,hp⟩
  rw [rel_eq]
  refine ⟨fun c=>?_,fun c6=>⟨fun c=>?_,fun c13=>⟨fun c=>?_,fun c7=>⟨fun c=>?_,fun c8=>⟨fun c=>?_,fun c9=>⟨fun c=>?_,fun c10=>⟨fun c=>?_,fun c11=>⟨fun c=>⟨⟨by omega,?_⟩,?_⟩,fun c=>?_⟩⟩⟩⟩⟩⟩⟩⟩
  ·rw [if_pos (.inl (dt c))]; exact hb
  ·rw [if_pos (.inr (dt c))]; exact hb
  all_goals have c6:=df c6
  all_goals have c13:=df c13
  ·have c:=dt c
   rw [if_neg (by omega),if_pos c,hb]
  all_goals have c7:=df c7
  ·have c:=dt c
   rw [if_neg (by omega),if_neg (by omega),if_pos c]
   rfl
  all_goals have c8:=df c8
  ·have c:=dt c
   rw [if_neg (by omega),if_neg (by omega),if_neg (by omega),if_pos c]
   rfl
  all_goals have c9:=df c9
  ·have c:=dt c
   rw [if_neg (by omega),if_neg (by omega),if_neg (by omega),if_neg (by omega),if_pos c]
   rfl
  all_goals have c10:=df c10
  ·have c:=dt c
   rw [if_neg (by omega),if_neg (by omega),if_neg (by omega),if_neg (by omega),if_neg (by omega),if_pos c]
   rfl
  all_goals have c11:=df c11
  ·have:=hp.2 ⟨c6,c13,c7,c8,c9,c10,c11⟩
   omega
  all_goals rw [if_neg (by omega),if_neg (by omega),if_neg (by omega),if_neg (by omega),if_neg (by omega),if_neg (by omega)]
  ·have c:decide ((ar.getD 0 dLt).2.2.1 ≤ av) = true:=c
   rw [c]
   rfl
  ·have c:decide ((ar.getD 0 dLt).2.2.1 ≤ av) = false:=c
   rw [c]
   rfl
theorem FE1_sound {n:Nat} (h:Sat bs.P 10 (fulSp n)):jQe (FE1 n):=jQi ⟨sat_get,sat_rel,h,trivial⟩ trivial
theorem sat_fulN:∀ n,Sat bs.P 10 (fulSp n)
 | 0=>fun _ _ x _ _ _ _ h=>by
  have h:dep x.1 ≤ 0 ∧ _:=h
  have:=dep_pos x.1
  omega
 | n + 1=>jQn (FE1_sound (sat_fulN n)) 6 _ (fulSp (n + 1)) fun (⟨.node ⟨⟨op,pos,nm,ar,⟨⟩⟩,⟨⟩⟩ sb,l⟩:Tr × List At) hok hp=>by
  have hp:dep (Rose.node ((op,pos,nm,ar,()),()) sb:Tr) ≤ n + 1 ∧ wellN (n + 1) (Rose.node ((op,pos,nm,ar,()),()) sb:Tr):=hp
  have hm:=(tr_ok hok.1).2.2.1
  have hd:=sub_le hp.1
  obtain ⟨w1,w4,ws,wa,w12,w13,_⟩:=hp.2
  have w1:1 ≤ op ∧ op ≤ 13:=w1
  have w4:op = 4 → sb.length = 1:=w4
  have ws:∀ x ∈ sb,wellN n x:=ws
  have wa:6 ≤ op → op ≤ 11 → ar.length = 1:=wa
  have w12:op = 12 → ar.length = 2:=w12
  have w13:op = 13 → 1 ≤ ar.length:=w13
  rw [ful_nf]
  simp only [Rose.val,Rose.subs]
  rw [ful_eq]
  have loop:∀ (q:Bool) (R:Bool),(q = true → R = sb.all fun x=>fulN n x l) → (q = false → R = sb.any fun x=>fulN n x l) → ∀ q':Bool,q' = q →
   ∃ (I:Int → Prop),∃ (μ:Int → Nat),I 0 ∧ ∀ (x:Int),I x → (decide (x < (sb.length:Int)) = true → (0 ≤ x ∧ x < (sb.length:Int)) ∧ (dep (sb.getD x.toNat (Rose.node ((0,0,[],[],()),()) [])) ≤ n ∧ wellN n (sb.getD x.toNat (Rose.node ((0,0,[],[],()),()) []))) ∧
    ((fulN n (sb.getD x.toNat (Rose.node ((0,0,[],[],()),()) [])) l != q') = true → fulN n (sb.getD x.toNat (Rose.node ((0,0,[],[],()),()) [])) l = R) ∧ ((fulN n (sb.getD x.toNat (Rose.node ((0,0,[],[],()),()) [])) l != q') = false → isI64 (x + 1) ∧ I (x + 1) ∧ μ (x + 1) < μ x)) ∧
    (decide (x < (sb.length:Int)) = false → q' = R):=by
   intro q R ht hf q' hq
   have hq:=hq.symm
   subst hq
   refine ⟨fun x=>0 ≤ x ∧ x ≤ sb.length ∧ ∀ j:Nat,(j:Int) < x → fulN n (sb.getD j dTr) l = q,fun x=>(sb.length - x).toNat,⟨by omega,by omega,fun j hj=>by omega⟩,?_⟩
   rintro x ⟨h0,h1,h2⟩
   refine ⟨fun h=>?_,fun h=>?_⟩
   ·have h:=dt h
    have hmem:sb.getD x.toNat dTr ∈ sb:=jQ9 (by omega)
    refine ⟨⟨h0,h⟩,⟨hd _ hmem,ws _ hmem⟩,fun c=>?_,fun c=>⟨jZk h0 h hm,⟨by omega,by omega,jZp h0 h2 ?_⟩,by dsimp only; omega⟩⟩
    ·cases q with
     | true =>
      rw [ht rfl]
      have c:fulN n (sb.getD x.toNat dTr) l = false:=ne_tt c
      rw [all_no (d:=dTr) (j:=x.toNat) (by omega) c]
      exact c
     | false =>
      rw [hf rfl]
      have c:fulN n (sb.getD x.toNat dTr) l = true:=ne_ff c
      rw [any_yes (d:=dTr) (j:=x.toNat) (by omega) c]
      exact c
    ·exact ne_no c
   ·have h:=df h
    cases q with
    | true =>
     rw [ht rfl]
     exact (all_getD.2 fun j hj=>h2 j (by omega)).symm
    | false =>
     rw [hf rfl]
     exact (any_no fun j hj=>h2 j (by omega)).symm
  refine ⟨fun c1=>?_,fun c1=>⟨fun c4=>?_,fun c4=>⟨fun c2=>?_,fun c2=>⟨fun c3=>?_,fun c3=>⟨trivial,?_⟩⟩⟩⟩⟩
  ·rw [if_pos (dt c1)]
  all_goals have c1:=df c1
  ·have c4:=dt c4
   have h1:=w4 c4
   rw [if_neg c1,if_pos c4]
   have hmem:sb.getD 0 dTr ∈ sb:=jQ9 (by omega)
   have hg:sb.getD 0 dTr = sb.getD 0 (.node ((op,pos,nm,ar,()),()) sb):=by
    rw [List.getD_eq_getElem?_getD,List.getD_eq_getElem?_getD,List.getElem?_eq_getElem (by omega)]
    rfl
   refine ⟨⟨by omega,by omega⟩,⟨hd _ hmem,ws _ hmem⟩,?_⟩
   rw [← hg]
   rfl
  all_goals have c4:=df c4
  ·have c2:=dt c2
   rw [if_neg c1,if_neg c4,if_pos c2]
   exact loop true _ (fun _=>rfl) (fun g=>by cases g) _ (decide_eq_true c2)
  all_goals have c2:=df c2
  ·rw [if_neg c1,if_neg c4,if_neg c2,if_pos (dt c3)]
   exact loop false _ (fun g=>by cases g) (fun _=>rfl) _ (decide_eq_false c2)
  have c3:=df c3
  rw [if_neg c1,if_neg c4,if_neg c2,if_neg c3,gotA_eq]
  cases hg:getA l nm with
  | none=>exact ⟨fun _=>rfl,fun c=>(by cases c)⟩
  | some a =>
   refine ⟨fun c=>(by cases c),fun _=>⟨fun c5=>?_,fun c5=>⟨⟨?_,fun ⟨e1,e2,e3,e4,e5,e6,e7⟩=>?_⟩,?_⟩⟩⟩
   ·dsimp only
    rw [if_pos (dt c5)]
   all_goals have c5:=df c5
   ·show 1 ≤ ar.length
    by_cases e:op = 12
    ·have:=w12 e; omega
    ·by_cases e':op = 13
     ·exact w13 e'
     ·have:=wa (by omega) (by omega); omega
   ·show 2 ≤ ar.length
    have e1:op ≠ 6:=e1
    have e2:op ≠ 13:=e2
    have e3:op ≠ 7:=e3
    have e4:op ≠ 8:=e4
    have e5:op ≠ 9:=e5
    have e6:op ≠ 10:=e6
    have e7:op ≠ 11:=e7
    have:=w12 (by omega)
    omega
   ·dsimp only
    rw [if_neg c5]
theorem FE2_sound {n:Nat} (h:Sat bs.P 23 (hldSp n)):jQe (FE2 n):=jQi ⟨sat_aget,h,trivial⟩ trivial
theorem pr_ok {op:Int} {nm:List Int} {a b:Int} {s:List Int} {sb:List PL.Pr} (h:okd PR (Rose.node ((op,nm,a,b,s,()),()) sb:PL.Pr)):sb.length ≤ 9223372036854775807:=by
 have h:Rose.all (fun y n=>okd (.pair I (.pair .str (.pair I (.pair I (.pair .str .unit))))) (Prod.fst y) ∧ okd .unit (Prod.snd y) ∧ n ≤ maxLen) (Rose.node ((op,nm,a,b,s,()),()) sb):=h
 exact h.1.2.2
theorem sat_hldN:∀ n,Sat bs.P 23 (hldSp n)
 | 0=>fun _ _ x _ _ _ _ h=>by
  have h:dep x.2 ≤ 0:=h
  have:=dep_pos x.2
  omega
 | n + 1=>jQn (FE2_sound (sat_hldN n)) 8 _ (hldSp (n + 1)) fun (⟨l,.node ⟨⟨op,nm,a,b,s,⟨⟩⟩,⟨⟩⟩ sb⟩:List At × PL.Pr) hok hp=>by
  have hp:dep (Rose.node ((op,nm,a,b,s,()),()) sb:PL.Pr) ≤ n + 1:=hp
  have hm:=pr_ok hok.2
  have hd:=sub_le hp
  rw [hld_nf]
  simp only [Rose.val,Rose.subs]
  have any:∀ (R:Bool) (neg:Bool),R = (if neg then !sb.any (fun x=>jQf n x l) else sb.any (fun x=>jQf n x l)) → ∃ (I:Int → Prop),∃ (μ:Int → Nat),I 0 ∧ ∀ (x:Int),I x →
   (decide (x < (sb.length:Int)) = true → (0 ≤ x ∧ x < (sb.length:Int)) ∧ dep (sb.getD x.toNat (Rose.node ((0,[],0,0,[],()),()) [])) ≤ n ∧ (jQf n (sb.getD x.toNat (Rose.node ((0,[],0,0,[],()),()) [])) l = true → (if neg then !decide (0 ≤ x) else decide (0 ≤ x)) = R) ∧
     (jQf n (sb.getD x.toNat (Rose.node ((0,[],0,0,[],()),()) [])) l = false → isI64 (x + 1) ∧ I (x + 1) ∧ μ (x + 1) < μ x)) ∧ (decide (x < (sb.length:Int)) = false → neg = R):=by
   rintro R neg rfl
   refine ⟨fun x=>0 ≤ x ∧ x ≤ sb.length ∧ ∀ j:Nat,(j:Int) < x → jQf n (sb.getD j dPr) l = false,fun x=>(sb.length - x).toNat,⟨by omega,by omega,fun j hj=>by omega⟩,?_⟩
   rintro x ⟨h0,h1,h2⟩
   refine ⟨fun h=>?_,fun h=>?_⟩
   ·have h:=dt h
    refine ⟨⟨h0,h⟩,hd _ (jQ9 (by omega)),fun c=>?_,fun c=>⟨jZk h0 h hm,⟨by omega,by omega,jZp h0 h2 c⟩,by dsimp only; omega⟩⟩
    rw [any_yes (d:=dPr) (j:=x.toNat) (by omega) c,decide_eq_true h0]
   ·have h:=df h
    rw [any_no (d:=dPr) fun j hj=>h2 j (by omega)]
    cases neg <;> rfl
  refine ⟨fun c1=>?_,fun c1=>⟨fun c2=>?_,fun c2=>⟨fun c3=>?_,fun c3=>⟨fun c4=>?_,fun c4=>⟨fun c5=>⟨trivial,?_⟩,fun c5=>⟨fun c6=>⟨trivial,?_⟩,fun c6=>⟨fun c7=>⟨trivial,?_⟩,fun c7=>?_⟩⟩⟩⟩⟩⟩⟩
  ·rw [hld_eq,if_pos c1]
  ·rw [hld_eq,if_neg c1,if_pos c2]
   refine ⟨fun x=>0 ≤ x ∧ x ≤ sb.length ∧ ∀ j:Nat,(j:Int) < x → jQf n (sb.getD j dPr) l = true,fun x=>(sb.length - x).toNat,⟨by omega,by omega,fun j hj=>by omega⟩,?_⟩
   rintro x ⟨h0,h1,h2⟩
   refine ⟨fun h=>?_,fun h=>?_⟩
   ·have h:=dt h
    refine ⟨⟨h0,h⟩,?_⟩
    have e:=pr_eta (sb.getD x.toNat dPr)
    have hmem:sb.getD x.toNat dPr ∈ sb:=jQ9 (by omega)
    show dep (Rose.node (((sb.getD x.toNat dPr).val.fst.fst,(sb.getD x.toNat dPr).val.fst.snd.fst,(sb.getD x.toNat dPr).val.fst.snd.snd.fst,(sb.getD x.toNat dPr).val.fst.snd.snd.snd.fst,(sb.getD x.toNat dPr).val.fst.snd.snd.snd.snd.fst,()),()) (sb.getD x.toNat dPr).subs:PL.Pr) ≤ n ∧
     ((!jQf n (Rose.node (((sb.getD x.toNat dPr).val.fst.fst,(sb.getD x.toNat dPr).val.fst.snd.fst,(sb.getD x.toNat dPr).val.fst.snd.snd.fst,(sb.getD x.toNat dPr).val.fst.snd.snd.snd.fst,(sb.getD x.toNat dPr).val.fst.snd.snd.snd.snd.fst,()),()) (sb.getD x.toNat dPr).subs:PL.Pr) l) = true → _) ∧
     ((!jQf n (Rose.node (((sb.getD x.toNat dPr).val.fst.fst,(sb.getD x.toNat dPr).val.fst.snd.fst,(sb.getD x.toNat dPr).val.fst.snd.snd.fst,(sb.getD x.toNat dPr).val.fst.snd.snd.snd.fst,(sb.getD x.toNat dPr).val.fst.snd.snd.snd.snd.fst,()),()) (sb.getD x.toNat dPr).subs:PL.Pr) l) = false → _)
    rw [e]
    refine ⟨hd _ hmem,fun c=>?_,fun c=>⟨jZk h0 h hm,⟨by omega,by omega,jZp h0 h2 (nf c)⟩,by dsimp only; omega⟩⟩
    exact (all_no (d:=dPr) (j:=x.toNat) (by omega) (nt c)).symm
   ·have h:=df h
    exact (all_getD (d:=dPr).2 fun j hj=>h2 j (by omega)).symm
  ·rw [hld_eq,if_neg c1,if_neg c2,if_pos c3]
   exact any _ false rfl
  ·rw [hld_eq,if_neg c1,if_neg c2,if_neg c3,if_pos c4]
   exact any _ true rfl
  ·rw [hld_eq,if_neg c1,if_neg c2,if_neg c3,if_neg c4,if_pos c5,gotA_eq]
   cases getA l nm <;> rfl
  ·have hR:jQf (n + 1) (Rose.node ((op,nm,a,b,s,()),()) sb:PL.Pr) l = ((gotA l nm).2.1 && (decide ((gotA l nm).1.2.1 = 1) && (decide (a ≤ (gotA l nm).1.2.2.1) && decide ((gotA l nm).1.2.2.1 ≤ b)))):=by
    rw [hld_eq,if_neg c1,if_neg c2,if_neg c3,if_neg c4,if_neg c5,if_pos c6]
    cases hg:getA l nm with
    | none =>
     have q:gotA l nm = (([],0,0,[],()),false,()):=by rw [gotA_eq,hg]
     simp [q]
    | some v =>
     have q:gotA l nm = (v,true,()):=by rw [gotA_eq,hg]
     simp [q]
   rw [hR]
   exact ⟨fun g0=>⟨fun g1=>⟨fun g2=>(by rw [g0,decide_eq_true (dt g1),decide_eq_true (dt g2)]; rfl),fun g2=>(by rw [g0,decide_eq_true (dt g1),decide_eq_false (df g2)]; rfl)⟩,fun g1=>(by rw [g0,decide_eq_false (df g1)]; rfl)⟩,fun g0=>(by rw [g0]; rfl)⟩
  ·have hR:jQf (n + 1) (Rose.node ((op,nm,a,b,s,()),()) sb:PL.Pr) l = ((gotA l nm).2.1 && (decide ((gotA l nm).1.2.1 = 2) && decide ((gotA l nm).1.2.2.2.1 = s))):=by
    rw [hld_eq,if_neg c1,if_neg c2,if_neg c3,if_neg c4,if_neg c5,if_neg c6,if_pos c7]
    cases hg:getA l nm with
    | none =>
     have q:gotA l nm = (([],0,0,[],()),false,()):=by rw [gotA_eq,hg]
     simp [q]
    | some v =>
     have q:gotA l nm = (v,true,()):=by rw [gotA_eq,hg]
     simp [q]
   rw [hR]
   exact ⟨fun g0=>⟨fun g1=>(by rw [g0,decide_eq_true (dt g1)]; rfl),fun g1=>(by rw [g0,decide_eq_false (df g1)]; rfl)⟩,fun g0=>(by rw [g0]; rfl)⟩
  ·rw [hld_eq,if_neg c1,if_neg c2,if_neg c3,if_neg c4,if_neg c5,if_neg c6,if_neg c7]
end Go.Proofs.YtbjjaaimhleedaaGreatDoor
namespace Go.PL
open Go.AM
def chkP (d:Df) (x:Lt):Unit ⊕ (Int × Int):=if litE d x ≠ 0 then .inr (x.2.1,litE d x) else .inl ()
def fndP (s:Sc) (t:Tr):Df ⊕ (Int × Int):=if fndN s.2.2.1 (nameT t) 0 < 0 then .inr (atT t,5) else .inl (s.2.2.1.getD (fndN s.2.2.1 (nameT t) 0).toNat ([],0,0,0,[],()))
def relOk (t:Tr):Prop:=(argsT t).length ≤ 200 ∧ (8 ≤ opT t → opT t ≤ 12 → 1 ≤ (argsT t).length) ∧ (opT t = 12 → 2 ≤ (argsT t).length) ∧ ∀ x ∈ argsT t,-1000000000000000000 < x.2.2.1 ∧ x.2.2.1 < 1000000000000000000
def smallN:Nat → Tr → Prop
 | 0,_=>False
 | n + 1,t=>(argsT t).length ≤ 200 ∧ t.subs.length ≤ 200 ∧ ∀ x ∈ t.subs,smallN n x
def psz (g:Pr → Int):List Pr → Int → Int
 | [],n=>n
 | p :: l,n=>psz g l (w64 (n + g p))
def pszN:Nat → Pr → Int
 | 0,_=>0
 | n + 1,p=>psz (pszN n) p.subs 1
end Go.PL
namespace Go.Proofs.YtbjjaaimhleedaaGreatDoor
open Go.AM Go.PL
abbrev pT:TypeId:=39
def numSp:FSpec:=⟨[DF,I,I],[PR],fun _=>True,fun x=>numP x.1 x.2.1 x.2.2⟩
def equSp:FSpec:=⟨[DF,LT],[PR],fun _=>True,fun x=>eqP x.1 x.2⟩
def failSp:PSpec:=⟨[I,I],[],fun _=>True,fun x=>.inr (x.1,x.2),some fun x=>(x.1,x.2)⟩
def chkPSp:PSpec:=⟨[DF,LT],[],fun _=>True,fun x=>chkP x.1 x.2,none⟩
def fndPSp:PSpec:=⟨[SC,TR],[DF],fun _=>True,fun x=>fndP x.1 x.2,none⟩
def relPSp:PSpec:=⟨[SC,TR],[PR],fun x=>relOk x.2,fun x=>relP x.1 x.2,none⟩
def typPSp (n:Nat):PSpec:=⟨[SC,TR],[PR],fun x=>dep (x.2:Tr) ≤ n ∧ wellN n x.2 ∧ smallN n x.2,fun x=>typN n x.1 x.2,none⟩
def pszSp (n:Nat):FSpec:=⟨[PR],[I],fun p=>dep (p:PL.Pr) ≤ n,fun p=>pszN n p⟩
def loopsGa (f:FuncId) (r:Nat):List LA :=
 if Nat.beq f 53 then [.slot 8 I] else
 if Nat.beq f 21 then [.slot 9 I,.slot 3 I] else
 []
def hintGa (f:FuncId):Hint:=⟨loopsGa f,fun _=>.split,fun _=>.split,fun _=>0⟩
def hintGaW (f:FuncId):Hint:=if Nat.beq f 999999994 then ⟨fun _=>[],fun _=>.split,fun _=>.split,fun _=>1⟩ else hintGa f
noncomputable def GA0:Ctx:=mkctx bs [] [] hintGa
theorem num_nf (n:List Int) (k lo hi:Int) (w:List (List Int)) (a b:Int):fnwp GA0 6 62 numSp ((n,k,lo,hi,w,()),a,b) = ((decide (min b hi < max a lo) = true →
 Rose.node (((4:Int),bytesOf { data:=#[] },(0:Int),(0:Int),bytesOf { data:=#[] },()),()) [Rose.node (((1:Int),bytesOf { data:=#[] },(0:Int),(0:Int),
 bytesOf { data:=#[] },()),()) []] = numP (n,k,lo,hi,w,()) a b) ∧ (decide (min b hi < max a lo) = false → Rose.node (((6:Int),n,max a lo,min b hi,bytesOf { data :=
 #[] },()),()) [] = numP (n,k,lo,hi,w,()) a b)):=by kernel_rfl
noncomputable def GA1:Ctx:=mkctx bs [(62,numSp)] [] hintGa
theorem equ_nf (n:List Int) (k lo hi:Int) (w:List (List Int)) (xk xp xn:Int) (xs:List Int):fnwp GA1 6 61 equSp ((n,k,lo,hi,w,()),(xk,xp,xn,xs,())) = ((decide
 (k = (2:Int)) = true → Rose.node (((7:Int),n,(0:Int),(0:Int),xs,()),()) [] = eqP (n,k,lo,hi,w,()) (xk,xp,xn,xs,())) ∧ (decide (k = (2:Int)) = false →
 True ∧ Rose.node (((Rose.val (numP (n,k,lo,hi,w,()) xn xn)).fst.fst,(Rose.val (numP (n,k,lo,hi,w,()) xn xn)).fst.snd.fst,(Rose.val (numP (n,k,lo,hi,w,()) xn
 xn)).fst.snd.snd.fst,(Rose.val (numP (n,k,lo,hi,w,()) xn xn)).fst.snd.snd.snd.fst,(Rose.val (numP (n,k,lo,hi,w,()) xn xn)).fst.snd.snd.snd.snd.fst,()),())
 (Rose.subs (numP (n,k,lo,hi,w,()) xn xn)) = eqP (n,k,lo,hi,w,()) (xk,xp,xn,xs,()))):=by kernel_rfl
noncomputable def GA2 (pan:Int × Int → Prop):Ctx:=mkctxP bs [(73,hasSp)] [] pT [(22,failSp)] pan hintGa
theorem chk_nf (pan:Int × Int → Prop) (n:List Int) (k lo hi:Int) (w:List (List Int)) (xk xp xn:Int) (xs:List Int):fnwpP (GA2 pan) 6 60 chkPSp ((n,k,lo,hi,w,()),
 (xk,xp,xn,xs,())) = (((decide (xk = (1:Int)) != decide (k = (1:Int))) = true → True ∧ pan (xp,(130:Int))) ∧ ((decide (xk = (1:Int)) != decide (k = (1:Int))) =
 false → ((!decide (xk = (1:Int))) = true → True ∧ ((!decide (xs ∈ w)) = true → True ∧ pan (xp,(131:Int))) ∧ ((!decide (xs ∈ w)) = false → chkP (n,k,lo,hi,w,()) (xk,xp,
 xn,xs,()) = Sum.inl ())) ∧ ((!decide (xk = (1:Int))) = false → chkP (n,k,lo,hi,w,()) (xk,xp,xn,xs,()) = Sum.inl ()))):=by kernel_rfl
theorem fnd_nf (pan:Int × Int → Prop) (d m:Int) (l:List Df) (op pos:Int) (nm:List Int) (ar:List Lt) (sb:List Tr):fnwpP (GA2 pan) 6 36 fndPSp ((d,m,l,()),
 (Rose.node ((op,pos,nm,ar,()),()) sb:Tr)) = (∃ (I:Int → Prop),∃ (μ:Int → Nat),I (0:Int) ∧ ∀ (x:Int),I x → (decide (x < (↑l.length:Int)) = true → ((0:Int) ≤
 x ∧ x < (↑l.length:Int)) ∧ (decide ((l.getD x.toNat ([],(0:Int),(0:Int),(0:Int),[],())).fst = (Rose.node ((op,pos,nm,ar,()),()) sb).val.fst.snd.snd.fst) = true
 → (decide (x < (0:Int)) = true → True ∧ pan ((Rose.node ((op,pos,nm,ar,()),()) sb).val.fst.snd.fst,(5:Int))) ∧ (decide (x < (0:Int)) = false → ((0:Int) ≤ x ∧ x <
 (↑l.length:Int)) ∧ fndP (d,m,l,()) (Rose.node ((op,pos,nm,ar,()),()) sb) = Sum.inl ((l.getD x.toNat ([],(0:Int),(0:Int),(0:Int),[],())).fst,(l.getD x.toNat
 ([],(0:Int),(0:Int),(0:Int),[],())).snd.fst,(l.getD x.toNat ([],(0:Int),(0:Int),(0:Int),[],())).snd.snd.fst,(l.getD x.toNat ([],(0:Int),(0:Int),(0
 : Int),[],())).snd.snd.snd.fst,(l.getD x.toNat ([],(0:Int),(0:Int),(0:Int),[],())).snd.snd.snd.snd.fst,()))) ∧ (decide ((l.getD x.toNat ([],(0:Int),(0:Int),
 (0:Int),[],())).fst = (Rose.node ((op,pos,nm,ar,()),()) sb).val.fst.snd.snd.fst) = false → isI64 (x + (1:Int)) ∧ I (x + (1:Int)) ∧ μ (x + (1:Int)) < μ x)) ∧
 (decide (x < (↑l.length:Int)) = false → (true = true → True ∧ pan ((Rose.node ((op,pos,nm,ar,()),()) sb).val.fst.snd.fst,(5:Int))) ∧ (true = false → ((0:Int) ≤ (-1 :
 Int) ∧ (-1:Int) < (↑l.length:Int)) ∧ fndP (d,m,l,()) (Rose.node ((op,pos,nm,ar,()),()) sb) = Sum.inl ((l.getD (0:Nat) ([],(0:Int),(0:Int),(0:Int),[],
 ())).fst,(l.getD (0:Nat) ([],(0:Int),(0:Int),(0:Int),[],())).snd.fst,(l.getD (0:Nat) ([],(0:Int),(0:Int),(0:Int),[],())).snd.snd.fst,(l.getD (0 :
 Nat) ([],(0:Int),(0:Int),(0:Int),[],())).snd.snd.snd.fst,(l.getD (0:Nat) ([],(0:Int),(0:Int),(0:Int),[],())).snd.snd.snd.snd.fst,())))):=by kernel_rfl
noncomputable def GA3 (n:Nat):Ctx:=mkctx bs [(21,pszSp n)] [] hintGaW
theorem psz_nf (n:Nat) (op:Int) (nm:List Int) (a b:Int) (s:List Int) (sb:List PL.Pr):fnwp (GA3 n) 6 21 (pszSp (n + 1)) (Rose.node ((op,nm,a,b,s,()),()) sb :
 PL.Pr) = (∃ (I:Int × Int → Prop),∃ (μ:Int × Int → Nat),I ((0:Int),(1:Int)) ∧ ∀ (x:Int × Int),I x → (decide (x.fst < (↑(Rose.node ((op,nm,a,b,s,()),())
 sb).subs.length:Int)) = true → ((0:Int) ≤ x.fst ∧ x.fst < (↑(Rose.node ((op,nm,a,b,s,()),()) sb).subs.length:Int)) ∧ dep (Rose.node ((((Rose.node ((op,nm,a,b,s,
 ()),()) sb).subs.getD x.fst.toNat (Rose.node (((0:Int),[],(0:Int),(0:Int),[],()),()) [])).val.fst.fst,((Rose.node ((op,nm,a,b,s,()),()) sb).subs.getD
 x.fst.toNat (Rose.node (((0:Int),[],(0:Int),(0:Int),[],()),()) [])).val.fst.snd.fst,((Rose.node ((op,nm,a,b,s,()),()) sb).subs.getD x.fst.toNat (Rose.node (((0
 : Int),[],(0:Int),(0:Int),[],()),()) [])).val.fst.snd.snd.fst,((Rose.node ((op,nm,a,b,s,()),()) sb).subs.getD x.fst.toNat (Rose.node (((0:Int),[],(0:Int),
 (0:Int),[],()),()) [])).val.fst.snd.snd.snd.fst,((Rose.node ((op,nm,a,b,s,()),()) sb).subs.getD x.fst.toNat (Rose.node (((0:Int),[],(0:Int),(0:Int),[],()),
 ()) [])).val.fst.snd.snd.snd.snd.fst,()),()) ((Rose.node ((op,nm,a,b,s,()),()) sb).subs.getD x.fst.toNat (Rose.node (((0:Int),[],(0:Int),(0:Int),[],()),())
 [])).subs) ≤ n ∧ I (IntKind.i64.wrap (x.fst + (1:Int)),IntKind.i64.wrap (x.snd + pszN n (Rose.node ((((Rose.node ((op,nm,a,b,s,()),()) sb).subs.getD x.fst.toNat
 (Rose.node (((0:Int),[],(0:Int),(0:Int),[],()),()) [])).val.fst.fst,((Rose.node ((op,nm,a,b,s,()),()) sb).subs.getD x.fst.toNat (Rose.node (((0:Int),[],(0
 : Int),(0:Int),[],()),()) [])).val.fst.snd.fst,((Rose.node ((op,nm,a,b,s,()),()) sb).subs.getD x.fst.toNat (Rose.node (((0:Int),[],(0:Int),(0:Int),[],()),
 ()) [])).val.fst.snd.snd.fst,((Rose.node ((op,nm,a,b,s,()),()) sb).subs.getD x.fst.toNat (Rose.node (((0:Int),[],(0:Int),(0:Int),[],()),())
 [])).val.fst.snd.snd.snd.fst,((Rose.node ((op,nm,a,b,s,()),()) sb).subs.getD x.fst.toNat (Rose.node (((0:Int),[],(0:Int),(0:Int),[],()),())
 [])).val.fst.snd.snd.snd.snd.fst,()),()) ((Rose.node ((op,nm,a,b,s,()),()) sb).subs.getD x.fst.toNat (Rose.node (((0:Int),[],(0:Int),(0:Int),[],()),())
 [])).subs))) ∧ μ (IntKind.i64.wrap (x.fst + (1:Int)),IntKind.i64.wrap (x.snd + pszN n (Rose.node ((((Rose.node ((op,nm,a,b,s,()),()) sb).subs.getD x.fst.toNat (Rose.node
 (((0:Int),[],(0:Int),(0:Int),[],()),()) [])).val.fst.fst,((Rose.node ((op,nm,a,b,s,()),()) sb).subs.getD x.fst.toNat (Rose.node (((0:Int),[],(0:Int),(0
 : Int),[],()),()) [])).val.fst.snd.fst,((Rose.node ((op,nm,a,b,s,()),()) sb).subs.getD x.fst.toNat (Rose.node (((0:Int),[],(0:Int),(0:Int),[],()),())
 [])).val.fst.snd.snd.fst,((Rose.node ((op,nm,a,b,s,()),()) sb).subs.getD x.fst.toNat (Rose.node (((0:Int),[],(0:Int),(0:Int),[],()),())
 [])).val.fst.snd.snd.snd.fst,((Rose.node ((op,nm,a,b,s,()),()) sb).subs.getD x.fst.toNat (Rose.node (((0:Int),[],(0:Int),(0:Int),[],()),())
 [])).val.fst.snd.snd.snd.snd.fst,()),()) ((Rose.node ((op,nm,a,b,s,()),()) sb).subs.getD x.fst.toNat (Rose.node (((0:Int),[],(0:Int),(0:Int),[],()),())
 [])).subs))) < μ x) ∧ (decide (x.fst < (↑(Rose.node ((op,nm,a,b,s,()),()) sb).subs.length:Int)) = false → x.snd = pszN (n + (1:Nat)) (Rose.node ((op,nm,a,b,s,()),
 ()) sb))):=by kernel_rfl
end Go.Proofs.YtbjjaaimhleedaaGreatDoor
