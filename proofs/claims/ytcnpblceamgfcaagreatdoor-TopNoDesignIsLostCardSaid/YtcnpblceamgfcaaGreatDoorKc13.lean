import Derived.Test.YtcnpblceamgfcaaGreatDoorKc12
import Derived.Test.YtcnpblceamgfcaaGreatDoorKc9
import Derived.Test.YtcnpblceamgfcaaGreatDoorRows
import Derived.WalkKit
import Derived.ProofKit
import Derived.LaidMore
import Derived.OpenShut
import Derived.LaidLaws
set_option linter.unusedSimpArgs false
set_option linter.unusedVariables false
namespace Go.PL
open Go.AM
attribute [local irreducible] hof
theorem rootD_fuel:∀ (f g:Nat) {l:List (List Int)},l.length < f → l.length < g → l.length ≤ 20 → rootD f l = rootD g l
 | 0,_,_,h,_,_=>absurd h (Nat.not_lt_zero _)
 | _ + 1,0,_,_,h,_=>absurd h (Nat.not_lt_zero _)
 | f + 1,g + 1,l,h,h',h20=>by
  unfold rootD
  by_cases h0:l.length = 0
  ·rw [if_pos h0,if_pos h0]
  ·rw [if_neg h0,if_neg h0]
   by_cases h1:l.length = 1
   ·rw [if_pos h1,if_pos h1]
   ·rw [if_neg h1,if_neg h1]
    have hs:=jYx (n:=l.length) (by omega) h20
    rw [rootD_fuel f g (by rw [List.length_take]; omega) (by rw [List.length_take]; omega) (by rw [List.length_take]; omega),rootD_fuel f g (by rw [List.length_drop]; omega) (by rw [List.length_drop]; omega) (by rw [List.length_drop]; omega)]
theorem rootD_node {l:List (List Int)} (h:2 ≤ l.length) (h20:l.length ≤ 20):rootD 21 l = nodeD (rootD 21 (l.take (splitD l.length))) (rootD 21 (l.drop (splitD l.length))):=by
 have hs:=jYx h h20
 conv=>lhs; unfold rootD
 rw [if_neg (by omega),if_neg (by omega),rootD_fuel 20 21 (by rw [List.length_take]; omega) (by rw [List.length_take]; omega) (by rw [List.length_take]; omega),rootD_fuel 20 21 (by rw [List.length_drop]; omega) (by rw [List.length_drop]; omega) (by rw [List.length_drop]; omega)]
theorem lastP_snoc (a:List (List Int)) (y:List Int):lastP (a ++ [y]) = y:=by
 unfold lastP
 rw [List.length_append,List.length_singleton,Nat.add_sub_cancel,List.getD_eq_getElem?_getD,List.getElem?_append_right (Nat.le_refl _),Nat.sub_self]
 rfl
theorem jVp (a:List (List Int)) (y:List Int):restP (a ++ [y]) = a:=by
 unfold restP
 rw [List.length_append,List.length_singleton,Nat.add_sub_cancel,List.take_left]
theorem climb_ok:∀ (f:Nat),f ≤ 5 → ∀ {L q:List (List Int)} {i m:Nat},digs L → i < L.length → L.length ≤ lvI f → f ≤ m →
 climbOk (f + 1) (L.getD i (List.replicate 16 0)) i L.length (q ++ inclD (m + 1) L i) ∧ jZd (f + 1) (L.getD i (List.replicate 16 0)) i L.length (q ++ inclD (m + 1) L i) = rootD 21 L ∧ jJp (f + 1) i L.length (q ++ inclD (m + 1) L i) = q:=by
 have one:∀ {L q:List (List Int)} {i m:Nat},i < L.length → L.length = 1 → (L.getD i (List.replicate 16 0)) = rootD 21 L ∧ q ++ inclD (m + 1) L i = q:=by
  intro L q i m hi h1
  have hi0:i = 0:=by omega
  subst hi0
  constructor
  ·unfold rootD
   rw [if_neg (by omega),if_pos h1]
  ·unfold inclD
   rw [if_pos h1,List.append_nil]
 have base:∀ {f:Nat} {L q:List (List Int)} {i m:Nat},i < L.length → L.length = 1 → climbOk (f + 1) (L.getD i (List.replicate 16 0)) i L.length (q ++ inclD (m + 1) L i) ∧ jZd (f + 1) (L.getD i (List.replicate 16 0)) i L.length (q ++ inclD (m + 1) L i) = rootD 21 L ∧ jJp (f + 1) i L.length (q ++ inclD (m + 1) L i) = q:=by
  intro f L q i m hi h1
  obtain ⟨e1,e2⟩:=one (q:=q) (m:=m) hi h1
  have hn:(L.length:Int) = 1:=by omega
  refine ⟨.inl hn,?_,?_⟩
  ·unfold jZd
   rw [if_pos hn]
   exact e1
  ·unfold jJp
   rw [if_pos hn]
   exact e2
 intro f
 induction f with
 | zero =>
  intro _ L q i m hd hi hl hm
  have hl:L.length ≤ 1:=hl
  exact base hi (by omega)
 | succ f ih =>
  intro hf L q i m hd hi hl hm
  by_cases h1:L.length = 1
  ·exact base hi h1
  ·obtain ⟨m,rfl⟩:∃ t,m = t + 1:=⟨m - 1,by omega⟩
   have hn:¬ (L.length:Int) = 1:=by omega
   have h20:=hd.1
   have h2:2 ≤ L.length:=by omega
   have hs:=jYx h2 h20
   have hlv:=lv_step (f:=f) (by omega) h2 hl
   have dF:=jY9 hd (splitD L.length)
   have dS:=kQa hd (splitD L.length)
   have lF:(L.take (splitD L.length)).length = splitD L.length:=by rw [List.length_take]; omega
   have lS:(L.drop (splitD L.length)).length = L.length - splitD L.length:=List.length_drop
   have e:inclD (m + 1 + 1) L i = if i < splitD L.length then inclD (m + 1) (L.take (splitD L.length)) i ++ [rootD 21 (L.drop (splitD L.length))] else inclD (m + 1) (L.drop (splitD L.length)) (i - splitD L.length) ++ [rootD 21 (L.take (splitD L.length))]:=by
    conv=>lhs; unfold inclD
    rw [if_neg h1]
   rw [e]
   have rt:=rootD_node h2 h20
   by_cases c:i < splitD L.length
   ·have ci:(i:Int) < (splitD L.length:Int):=by omega
    rw [if_pos c,← List.append_assoc]
    obtain ⟨a1,a2,a3⟩:=ih (by omega) (q:=q) (i:=i) (m:=m) dF (by omega) (by rw [lF]; exact hlv.1) (by omega)
    have g:(L.take (splitD L.length)).getD i (List.replicate 16 0) = L.getD i (List.replicate 16 0):=by
     rw [List.getD_eq_getElem?_getD,List.getD_eq_getElem?_getD,List.getElem?_take,if_pos c]
    rw [g,lF] at a1 a2
    rw [lF] at a3
    refine ⟨.inr ⟨by omega,by omega,by omega,by omega,by simp only [List.length_append,List.length_singleton]; omega,fun _=>?_,fun z=>absurd ?_ z⟩,?_,?_⟩
    ·rw [jVp,Int.toNat_natCast]; exact a1
    ·rw [Int.toNat_natCast]; exact ci
    ·unfold jZd
     rw [if_neg hn,Int.toNat_natCast,if_pos ci,jVp,lastP_snoc,a2,rt]
    ·unfold jJp
     rw [if_neg hn,Int.toNat_natCast,if_pos ci,jVp,a3]
   ·have ci:¬ (i:Int) < (splitD L.length:Int):=by omega
    rw [if_neg c,← List.append_assoc]
    obtain ⟨a1,a2,a3⟩:=ih (by omega) (q:=q) (i:=i - splitD L.length) (m:=m) dS (by omega) (by rw [lS]; exact hlv.2) (by omega)
    have g:(L.drop (splitD L.length)).getD (i - splitD L.length) (List.replicate 16 0) = L.getD i (List.replicate 16 0):=by
     rw [List.getD_eq_getElem?_getD,List.getD_eq_getElem?_getD,List.getElem?_drop,show splitD L.length + (i - splitD L.length) = i by omega]
    have c1:((i - splitD L.length:Nat):Int) = (i:Int) - (splitD L.length:Int):=by omega
    have c2:((L.length - splitD L.length:Nat):Int) = (L.length:Int) - (splitD L.length:Int):=by omega
    rw [g,lS,c1,c2] at a1 a2
    rw [lS,c1,c2] at a3
    refine ⟨.inr ⟨by omega,by omega,by omega,by omega,by simp only [List.length_append,List.length_singleton]; omega,fun z=>absurd z ?_,fun _=>?_⟩,?_,?_⟩
    ·rw [Int.toNat_natCast]; exact ci
    ·rw [jVp,Int.toNat_natCast]; exact a1
    ·unfold jZd
     rw [if_neg hn,Int.toNat_natCast,if_neg ci,jVp,lastP_snoc,a2,rt]
    ·unfold jJp
     rw [if_neg hn,Int.toNat_natCast,if_neg ci,jVp,a3]
end Go.PL
namespace Go.PL
open Go.AM
theorem inclD_16:∀ (m:Nat) {l:List (List Int)} {i:Nat},digs l → ∀ x ∈ inclD m l i,len16 x
 | 0,l,i,_,x,hx=>absurd hx List.not_mem_nil
 | m + 1,l,i,hd,x,hx=>by
  unfold inclD at hx
  split at hx
  ·cases hx
  ·split at hx
   ·rcases List.mem_append.1 hx with h | h
    ·exact inclD_16 m (jY9 hd _) x h
    ·rw [List.mem_singleton] at h
     subst h
     exact rootD_len _ (kQa hd _)
   ·rcases List.mem_append.1 hx with h | h
    ·exact inclD_16 m (kQa hd _) x h
    ·rw [List.mem_singleton] at h
     subst h
     exact rootD_len _ (jY9 hd _)
theorem lastP_16 {p:List (List Int)} (h:∀ x ∈ p,len16 x) (h1:1 ≤ p.length):len16 (lastP p):=h _ (by
 unfold lastP
 rw [List.getD_eq_getElem?_getD,List.getElem?_eq_getElem (by omega)]
 exact List.getElem_mem _)
theorem climbD_16:∀ (f:Nat) {d:List Int} {i n:Int} {p:List (List Int)},len16 d → len16 (jZd f d i n p)
 | 0,_,_,_,_,h=>h
 | f + 1,_,_,_,_,h=>by
  unfold jZd
  split
  ·exact h
  ·split
   ·exact hof_len2 _ _
   ·exact hof_len2 _ _
end Go.PL
namespace Go.Proofs.YtcnpblceamgfcaaGreatDoor
open Go.AM Go.PL
attribute [local irreducible] fnwp fnwpG fnwpO fnwpH hof rootD
theorem sat_last (d:List Int):SatH bs.P 82 (lastH d):=fnwpH_sat (C:=CM0) (mkctxH_sound trivial trivial trivial trivial) 8 _ _ fun x (⟨p,b⟩:List (List Int) × Bool) _ hp=>by
 obtain ⟨h1,h2⟩:1 ≤ p.length ∧ p.length ≤ 100:=hp
 refine (lastW_nf d p b).mpr ?_; delta IR SD ln y0 y16 z0 z1
 have e:((p.length:Int) - 1).toNat = p.length - 1:=by omega
 refine ⟨fun h=>absurd (dt h) (by omega),fun _=>⟨by unfold isI64; omega,⟨by omega,by omega⟩,by unfold isI64; omega,by unfold isI64; omega,⟨by omega,by omega,by omega,rfl⟩,?_,⟨trivial,⟨?_,rfl,trivial⟩,⟨trivial,trivial⟩,⟨⟨rfl,trivial,trivial,trivial⟩,trivial⟩,trivial⟩,trivial⟩⟩
 ·rw [e]
  rfl
 ·rw [e]
  rfl
theorem sat_climb:∀ (f:Nat) (d:List Int),SatH bs.P 81 (climbH f d)
 | 0,d=>fun B w0 Ψ β w x y args caps hsh hi ha hcp hp=>hp.2.2.elim
 | f + 1,d=>by
  have ss:jQa (CM f d):=mkctxH_sound ⟨sat_splitD,sat_node,trivial⟩ trivial trivial ⟨sat_last d,sat_climb f d,trivial⟩
  have h:SatH bs.P 81 (climb1H f d):=fnwpH_sat ss 8 _ _ fun (⟨i,n⟩:Int × Int) (⟨p,b⟩:List (List Int) × Bool) _ hp=>by
   obtain ⟨hd,⟨hl,h16⟩,hok⟩:preM (f + 1) d i n p:=hp
   refine (climbW_nf f d i n p b).mpr ?_; delta jQ3 climbWq5 jVl climbWq4 climbWq0 climbWq1 SD z1 z2 z20
   have eD:jV9 f d i n p = if n = 1 then d else if i < splitD n.toNat then nodeD (jZd f d i (splitD n.toNat) (restP p)) (lastP p) else nodeD (lastP p) (jZd f d (i - splitD n.toNat) (n - splitD n.toNat) (restP p)):=rfl
   have eR:jV8 f i n p = if n = 1 then p else if i < splitD n.toNat then jJp f i (splitD n.toNat) (restP p) else jJp f (i - splitD n.toNat) (n - splitD n.toNat) (restP p):=rfl
   refine ⟨fun c=>?_,fun c=>?_⟩
   ·have c:=dt c
    rw [eD,eR,if_pos c,if_pos c]
    exact ⟨rfl,⟨trivial,⟨rfl,rfl,trivial⟩,⟨trivial,trivial⟩,⟨⟨rfl,trivial,trivial,trivial⟩,trivial⟩,trivial⟩,trivial⟩
   ·have c:=df c
    rcases hok with z | ⟨n2,n20,i0,i1,p1,k1,k2⟩
    ·exact absurd z c
    have hr16:(restP p).length ≤ 100 ∧ ∀ x ∈ restP p,len16 x:=⟨by unfold restP; rw [List.length_take]; omega,fun x hx=>h16 x (List.mem_of_mem_take hx)⟩
    have hs:=jYx (n:=n.toNat) (by omega) (by omega)
    have A:∀ (q:decide (i < (splitD n.toNat:Int)) = true),nodeD (jZd f d i (splitD n.toNat) (restP p)) (lastP p) = jV9 f d i n p ∧ jJp f i (splitD n.toNat) (restP p) = jV8 f i n p:=fun q=>by
     rw [eD,eR,if_neg c,if_neg c,if_pos (dt q),if_pos (dt q)]
     exact ⟨rfl,rfl⟩
    have B:∀ (q:decide (i < (splitD n.toNat:Int)) = false),nodeD (lastP p) (jZd f d (i - splitD n.toNat) (n - splitD n.toNat) (restP p)) = jV9 f d i n p ∧ jJp f (i - splitD n.toNat) (n - splitD n.toNat) (restP p) = jV8 f i n p:=fun q=>by
     rw [eD,eR,if_neg c,if_neg c,if_neg (df q),if_neg (df q)]
     exact ⟨rfl,rfl⟩
    have E:(d = d ∧ True ∧ True ∧ True):=⟨rfl,trivial,trivial,trivial⟩
    have T:(True ∧ True) ∧ ((d = d ∧ True ∧ True ∧ True) ∧ True) ∧ True:=⟨⟨trivial,trivial⟩,⟨E,trivial⟩,trivial⟩
    have l16:=lastP_16 h16 p1
    have goA:=fun (q:decide (i < (splitD n.toNat:Int)) = true)=>(⟨E,⟨trivial,⟨rfl,rfl,trivial⟩,T⟩,⟨hd,hr16,k1 (dt q)⟩,⟨climbD_16 f hd,l16⟩,(A q).1,⟨trivial,⟨(A q).2,rfl,trivial⟩,T⟩,trivial⟩ :
     (d = d ∧ True ∧ True ∧ True) ∧ (True ∧ (restP p = restP p ∧ b = b ∧ True) ∧ (True ∧ True) ∧ ((d = d ∧ True ∧ True ∧ True) ∧ True) ∧ True) ∧ preM f d i (splitD n.toNat) (restP p) ∧ (len16 (jZd f d i (splitD n.toNat) (restP p)) ∧ len16 (lastP p)) ∧ nodeD (jZd f d i (splitD n.toNat) (restP p)) (lastP p) = jV9 f d i n p ∧ (True ∧ (jJp f i (splitD n.toNat) (restP p) = jV8 f i n p ∧ b = b ∧ True) ∧ (True ∧ True) ∧ ((d = d ∧ True ∧ True ∧ True) ∧ True) ∧ True) ∧ True)
    have goB:=fun (q:decide (i < (splitD n.toNat:Int)) = false)=>(⟨E,⟨trivial,⟨rfl,rfl,trivial⟩,T⟩,⟨hd,hr16,k2 (df q)⟩,⟨l16,climbD_16 f hd⟩,(B q).1,⟨trivial,⟨(B q).2,rfl,trivial⟩,T⟩,trivial⟩ :
     (d = d ∧ True ∧ True ∧ True) ∧ (True ∧ (restP p = restP p ∧ b = b ∧ True) ∧ (True ∧ True) ∧ ((d = d ∧ True ∧ True ∧ True) ∧ True) ∧ True) ∧ preM f d (i - splitD n.toNat) (n - splitD n.toNat) (restP p) ∧ (len16 (lastP p) ∧ len16 (jZd f d (i - splitD n.toNat) (n - splitD n.toNat) (restP p))) ∧ nodeD (lastP p) (jZd f d (i - splitD n.toNat) (n - splitD n.toNat) (restP p)) = jV9 f d i n p ∧ (True ∧ (jJp f (i - splitD n.toNat) (n - splitD n.toNat) (restP p) = jV8 f i n p ∧ b = b ∧ True) ∧ (True ∧ True) ∧ ((d = d ∧ True ∧ True ∧ True) ∧ True) ∧ True) ∧ True)
    have gi:isI64 (i - splitD n.toNat) ∧ isI64 (n - splitD n.toNat):=by unfold isI64; omega
    have P0:(2 ≤ n ∧ n ≤ 20) ∧ (True ∧ True) ∧ (True ∧ (p = p ∧ b = b ∧ True) ∧ (True ∧ True) ∧ ((d = d ∧ True ∧ True ∧ True) ∧ True) ∧ True) ∧ lastPre p:=⟨⟨n2,n20⟩,⟨trivial,trivial⟩,⟨trivial,⟨rfl,rfl,trivial⟩,T⟩,p1,hl⟩
    exact ⟨⟨P0.1,P0.2.1,P0.2.2.1,P0.2.2.2,fun q=>⟨goA q,goA q⟩,fun q=>⟨gi.1,gi.2,goB q,goB q⟩⟩,P0.1,P0.2.1,P0.2.2.1,P0.2.2.2,fun q=>⟨goA q,goA q⟩,fun q=>⟨gi.1,gi.2,goB q,goB q⟩⟩
  exact h
theorem sat_cinc:Sat bs.P 46 cincSp:=sat_each (m:=4) fun (⟨d,i,n,p,r⟩:List Int × Int × Int × List (List Int) × List Int) _ hp=>by
 refine ⟨CM 6 d,rfl,mkctxH_sound ⟨sat_splitD,sat_node,trivial⟩ trivial trivial ⟨sat_last d,sat_climb 6 d,trivial⟩,?_⟩
 refine (cinc_nf 6 d i n p r).mpr ?_; delta SD SP ln z0 z1
 obtain ⟨L,hd,h0,h1,e1,e2,e3,e4⟩:cincP d i n p r:=hp
 have h20:=hd.1
 obtain ⟨a1,a2,a3⟩:=climb_ok 5 (by omega) (q:=[]) (i:=i.toNat) (m:=19) hd (by omega) h20 (by omega)
 rw [List.nil_append,Int.toNat_of_nonneg h0] at a1 a2 a3
 have ep:inclD (19 + 1) L i.toNat = p:=e3.symm
 rw [ep] at a1 a2 a3
 rw [← e2,← e1] at a1 a2
 rw [← e1] at a3
 have d16:len16 d:=by
  rw [e2,List.getD_eq_getElem?_getD,List.getElem?_eq_getElem (by omega)]
  exact hd.2 _ (List.getElem_mem _)
 have hpre:preM 6 d i n p:=⟨d16,⟨by rw [← ep]; have:=inclD_len (19 + 1) L i.toNat; omega,fun x hx=>by rw [← ep] at hx; exact inclD_16 _ hd x hx⟩,a1⟩
 have E:(d = d ∧ True ∧ True ∧ True):=⟨rfl,trivial,trivial,trivial⟩
 refine ⟨fun z=>absurd (dt z) (by omega),fun _=>⟨fun z=>absurd (dt z) (by omega),fun _=>⟨fun z=>absurd (dt z) (by omega),fun _=>⟨fun z=>absurd (dt z) (by omega),fun _=>⟨E,⟨trivial,⟨rfl,rfl,trivial⟩,⟨trivial,trivial⟩,⟨E,trivial⟩,trivial⟩,hpre,fun _=>⟨fun _=>?_,fun z=>?_⟩,fun z=>absurd (a2.trans e4.symm) (df z)⟩⟩⟩⟩⟩
 ·rw [a3]
  rfl
 ·cases z
end Go.Proofs.YtcnpblceamgfcaaGreatDoor
namespace Go.Proofs.YtcnpblceamgfcaaGreatDoor
open Go.AM Go.PL
attribute [local irreducible] fnwp fnwpG fnwpO fnwpH hof rootD
theorem EOr_sound:jQa EOr:=jQd ⟨sat_root 21,sat_vblind,sat_cinc,trivial⟩ trivial
theorem sat_vsum:Sat bs.P 19 vsumSp:=jQe EOr_sound 8 _ vsumSp fun (l:List (List Int)) _ hp=>by
 have hd:digs l:=hp
 rw [vsum_nf]; delta y21
 exact ⟨⟨by have:=hd.1; omega,hd⟩,rfl⟩
theorem sat_opens:Sat bs.P 20 opensSp:=jQe EOr_sound 8 _ opensSp fun (⟨r,nonce,e,i,p⟩:Rt × List Int × En × Int × List (List Int)) _ hp=>by
 obtain ⟨he,hc⟩:opensP r nonce e i p:=hp
 rw [opens_nf]
 exact ⟨he,hc,rfl⟩
end Go.Proofs.YtcnpblceamgfcaaGreatDoor
namespace Go.PL
open Go.AM Go.Proofs.YtcnpblceamgfcaaGreatDoor
attribute [local irreducible] hof rootD
def isV (b:Bo) (r:Rw):Bool:=jZo r && !pubS b r
def cntV (b:Bo) (k:Nat):Nat:=((b.2.2.2.2.1.take k).filter (isV b)).length
theorem cntV_all {b:Bo} {k:Nat} (h:b.2.2.2.2.1.length ≤ k):cntV b k = (vltL b).length:=by
 unfold cntV vltL restL
 rw [List.take_of_length_le h,List.filter_filter]
 rfl
theorem cntV_le (b:Bo) (k:Nat):cntV b k ≤ k:=by
 unfold cntV
 refine Nat.le_trans (List.length_filter_le _ _) ?_
 rw [List.length_take]
 omega
theorem cntV_step {b:Bo} {k:Int} (h0:0 ≤ k) (h:k < b.2.2.2.2.1.length):cntV b (k + 1).toNat = cntV b k.toNat + (if isV b (b.2.2.2.2.1.getD k.toNat dRw) = true then 1 else 0):=by
 unfold cntV
 rw [jXd (d:=dRw) h0 h,List.filter_append,List.length_append,List.filter_cons,List.filter_nil]
 split <;> rfl
theorem idxD_spec {d:List Int}:∀ {l:List (List Int)} {k:Int},0 ≤ k → 0 ≤ idxD d l k → k ≤ idxD d l k ∧ idxD d l k < k + l.length ∧ l.getD (idxD d l k - k).toNat (List.replicate 16 0) = d
 | [],k,_,h=>by
  have h:(0:Int) ≤ -1:=h
  omega
 | x :: l,k,h0,h=>by
  unfold idxD at h ⊢
  rw [List.length_cons]
  by_cases c:x = d
  ·rw [if_pos c]
   refine ⟨Int.le_refl _,by omega,?_⟩
   rw [Int.sub_self]
   exact c
  ·rw [if_neg c] at h ⊢
   obtain ⟨a1,a2,a3⟩:=idxD_spec (k:=k + 1) (by omega) h
   refine ⟨by omega,by omega,?_⟩
   rw [show (idxD d l (k + 1) - k).toNat = (idxD d l (k + 1) - (k + 1)).toNat + 1 by omega,List.getD_cons_succ]
   exact a3
theorem prove_opens {L:List (List Int)} {d nonce:List Int} {e:En} {r:Rt} (hd:digs L) (hm:jJi nonce e ∈ L) (he:fewE e) (h1:vaultedR r = L.length) (h2:vaultR r = rootD 21 L) (hq:jJi nonce e = d) :
 opensP r nonce e (jY0 L d).1 (jY0 L d).2.1:=by
 subst hq
 have h0:=idxD_mem (Int.le_refl 0) hm
 obtain ⟨a1,a2,a3⟩:=idxD_spec (Int.le_refl 0) h0
 rw [Int.sub_zero] at a3
 unfold jY0
 rw [if_neg (by omega)]
 exact ⟨he,L,hd,a1,by omega,h1,a3.symm,rfl,h2⟩
section
variable {s:Sc} {l:List Ev}
theorem vltU_full (h:accB l (newB s)) (hl:l.length ≤ 20) {i:Nat} (hi:i ≤ l.length):(sortD (vltU (l.take i) (bk s l i))).length = (vltL (bk s l i)).length:=by
 rw [(jYy _).length_eq]
 have go:∀ V:List Rw,(∀ r ∈ V,r ∈ (bk s l i).2.2.2.2.1) → (V.flatMap (vltD (l.take i))).length = V.length:=by
  intro V
  induction V with
  | nil=>intro _; rfl
  | cons r V ih =>
   intro hV
   rw [List.flatMap_cons,List.length_append,List.length_cons,ih fun x hx=>hV x (List.mem_cons_of_mem _ hx)]
   have hf:=(filed_lt h hl hi (hV r (List.mem_cons_self ..))).1
   unfold vltD
   rw [if_neg (by omega),List.length_singleton]
   omega
 exact go _ fun r hr=>(mem_vltL.1 hr).1
theorem live_open (h:accB l (newB s)) (hl:l.length ≤ 20) (hf:∀ e ∈ l,fewEB (evE e) = true) {i:Nat} (hi:i ≤ l.length) {r:Rw} (hr:r ∈ (bk s l i).2.2.2.2.1) (h0:r.2.1 = 0) :
 (hasEn (pubL (bk s l i)) r.1 = true ↔ r.1.2.2.2.2.1 ≤ (bk s l i).2.2.1) ∧ (isV (bk s l i) r = !hasEn (pubL (bk s l i)) r.1):=by
 have hp:=live_pub h hl hf hi hr h0
 have e:hasEn (pubL (bk s l i)) r.1 = true ↔ pubS (bk s l i) r = true:=⟨fun o=>hp.2 (open_le h hl hf hi o),fun o=>hasEn_iff.2 ⟨r,mem_pubL.2 ⟨hr,o⟩,rfl⟩⟩
 refine ⟨e.trans hp,?_⟩
 unfold isV jZo
 rw [decide_eq_true h0,Bool.true_and]
 cases hx:pubS (bk s l i) r with
 | true=>rw [e.2 hx]
 | false =>
  cases hy:hasEn (pubL (bk s l i)) r.1 with
  | true=>rw [e.1 hy] at hx; cases hx
  | false=>rfl
theorem dead_not {b:Bo} {r:Rw} (h:0 < r.2.1):isV b r = false:=by
 unfold isV jZo
 rw [decide_eq_false (by omega),Bool.false_and]
end
end Go.PL
namespace Go.PL
open Go.AM
end Go.PL
namespace Go.Proofs.YtcnpblceamgfcaaGreatDoor
open Go.AM Go.PL
attribute [local irreducible] fnwp fnwpG fnwpO fnwpH hof PL.encE foldD bk pubL vltL rootD sortD
theorem EP0_sound:jQa EP0:=jQd ⟨sat_fine,sat_awake,sat_foldD,sat_split,sat_vault,sat_vsum,sat_hasEn,sat_filing,sat_vblind,sat_prove,sat_opens,trivial⟩ trivial
theorem sat_law3:Sat bs.P 5 law3Sp:=jQe EP0_sound 8 _ law3Sp fun (⟨⟨d,m,dl,⟨⟩⟩,l⟩:Sc × List Ev) hok _=>by
 rw [law3_nf]; delta law3_nf_t0 law3_nf_e0 law3_nf_e1 law3q2 law3q5 law3q0 jV2 law3q3 jKz IR LP NX SD SP eI ln y0 y1 y10 y11 y12 y13 y14 y15 y16 y2 y21 y3 y4 y5 y6 y7 y8 y9 z0 z1; dsimp only
 have ys:∀ {b:Bool},(!b) = false → b = true:=fun {b} h=>by cases b <;> simp_all
 refine ⟨trivial,fun _=>⟨trivial,by trivial⟩,fun c1=>?_⟩
 obtain ⟨hs,hl20,hfew,hacc⟩:=fine_acc (ys c1)
 refine ⟨fun x=>0 ≤ x ∧ x ≤ l.length + 1,fun x=>(l.length + 1 - x).toNat,⟨by omega,by omega⟩,?_⟩
 rintro x ⟨x0,x1⟩
 refine ⟨fun hx=>?_,fun _=>⟨trivial,by trivial⟩⟩
 have hx:=dt hx
 simp only [List.drop_zero,Nat.sub_zero]
 rw [foldD_bk hs hacc x.toNat]
 dsimp only
 have hi:x.toNat ≤ l.length:=by omega
 have g:=good_bk hacc hl20 x.toNat hi
 have mm:=more_bk hacc hl20 hfew x.toNat hi
 have dd:=days_ok g.1 g.2.1 mm
 have rr:=rows_few g.1 g.2.1 mm
 have cut:(0:Int) ≤ 0 ∧ 0 ≤ x ∧ x ≤ (l.length:Int):=⟨Int.le_refl 0,x0,hx⟩
 have ePub:rowsE (pubL (bk (d,m,dl,()) l x.toNat)):=fun r hr=>rr.1 r (mem_pubL.1 hr).1
 have dg:=digs_vlt hacc hl20 hi (l.take x.toNat)
 have hfull:=vltU_full hacc hl20 hi
 have hmem0:=fun {r:Rw} (h1:r ∈ (bk (d,m,dl,()) l x.toNat).2.2.2.2.1) (h2:r ∈ vltL (bk (d,m,dl,()) l x.toNat))=>vlt_mem hacc hl20 (Nat.le_refl _) hi h1 h2 rfl
 refine ⟨cut,okD_take hs hl20 _,fun z=>absurd rfl (ndt z),fun _=>⟨⟨dd,rr.2⟩,cut,⟨dd,rr⟩,dg,?_⟩⟩
 generalize sortD (vltU (l.take x.toNat) (bk (d,m,dl,()) l x.toNat)) = LL at *
 have hrl:=rr.2
 have hr16:(rootD 21 LL).length = 16:=rootD_len 21 dg
 refine ⟨fun y=>(0 ≤ y.1 ∧ y.1 ≤ (bk (d,m,dl,()) l x.toNat).2.2.2.2.1.length) ∧ y.2.1 = cntV (bk (d,m,dl,()) l x.toNat) y.1.toNat ∧ y.2.2.1 = bk (d,m,dl,()) l x.toNat ∧ vaultR y.2.2.2 = rootD 21 LL ∧ vaultedR y.2.2.2 = LL.length,fun y=>((bk (d,m,dl,()) l x.toNat).2.2.2.2.1.length - y.1).toNat,⟨⟨by dsimp only; omega,by dsimp only; omega⟩,by simp [cntV],rfl,list16 hr16,rfl⟩,?_⟩
 rintro ⟨k,n,b',rt⟩ ⟨⟨k0,k1⟩,n1,e1,e2,e3⟩
 dsimp only at k0 k1 n1 e1 e2 e3
 subst e1
 dsimp only
 have hnk:=cntV_le (bk (d,m,dl,()) l x.toNat) k.toNat
 have e0:(((0:Int),(0:Int),(0:Int),(0:Int),(0:Int),(0:Int),(0:Int),([]:List Int),([]:List At),()),(0:Int),()) = dRw:=rfl
 refine ⟨fun h=>?_,fun h=>?_⟩
 ·have h:=dt h
  have hm:=jX5 (d:=dRw) (show k.toNat < (bk (d,m,dl,()) l x.toNat).2.2.2.2.1.length by omega)
  have hst:=cntV_step k0 h
  rw [e0]
  generalize (bk (d,m,dl,()) l x.toNat).2.2.2.2.1.getD k.toNat dRw = r at hm hst
  have fr:=rr.1 r hm
  have q0:=(mm.1 r hm).1
  have ki:isI64 (k + 1):=by unfold isI64; omega
  have km:(((bk (d,m,dl,()) l x.toNat).2.2.2.2.1.length:Int) - (k + 1)).toNat < (((bk (d,m,dl,()) l x.toNat).2.2.2.2.1.length:Int) - k).toNat:=by omega
  have same:isV (bk (d,m,dl,()) l x.toNat) r = false → isI64 (k + 1) ∧ ((0 ≤ k + 1 ∧ k + 1 ≤ ((bk (d,m,dl,()) l x.toNat).2.2.2.2.1.length:Int)) ∧ n = (cntV (bk (d,m,dl,()) l x.toNat) (k + 1).toNat:Int) ∧ bk (d,m,dl,()) l x.toNat = bk (d,m,dl,()) l x.toNat ∧ vaultR rt = rootD 21 LL ∧ vaultedR rt = LL.length) ∧ (((bk (d,m,dl,()) l x.toNat).2.2.2.2.1.length:Int) - (k + 1)).toNat < (((bk (d,m,dl,()) l x.toNat).2.2.2.2.1.length:Int) - k).toNat:=fun hv=>by
   rw [hv,if_neg Bool.false_ne_true,Nat.add_zero] at hst
   exact ⟨ki,⟨⟨by omega,by omega⟩,by rw [hst]; exact n1,rfl,e2,e3⟩,km⟩
  refine ⟨⟨k0,h⟩,⟨ePub,fr⟩,fun c=>same (dead_not (dt c)),fun c=>?_⟩
  have z:r.2.1 = 0:=by have:=df c; omega
  obtain ⟨o1,o2⟩:=live_open hacc hl20 hfew hi hm z
  refine ⟨fun w=>?_,fun _=>⟨fun o=>same (by rw [o2,o]; rfl),fun o=>?_⟩⟩
  ·have:hasEn (pubL (bk (d,m,dl,()) l x.toNat)) r.1 = decide (r.1.2.2.2.2.1 ≤ (bk (d,m,dl,()) l x.toNat).2.2.1):=by
    rw [Bool.eq_iff_iff,decide_eq_true_iff]
    exact o1
   rw [this,bne_self_eq_false] at w
   cases w
  ·rw [o2,o] at hst
   have hst:cntV (bk (d,m,dl,()) l x.toNat) (k + 1).toNat = cntV (bk (d,m,dl,()) l x.toNat) k.toNat + 1:=hst
   obtain ⟨f0,f1⟩:=filed_lt hacc hl20 hi hm
   have hpf:pubS (bk (d,m,dl,()) l x.toNat) r = false:=by
    cases hp:pubS (bk (d,m,dl,()) l x.toNat) r with
    | false=>rfl
    | true =>
     have:=hasEn_iff.2 ⟨r,mem_pubL.2 ⟨hm,hp⟩,rfl⟩
     rw [this] at o
     cases o
   have hmem:=hmem0 hm (mem_vltL.2 ⟨hm,hpf,z⟩)
   exact ⟨by unfold isI64; omega,cut,trivial,fun w=>absurd (dt w) (by omega),fun _=>⟨⟨f0,by omega⟩,fr,dg,fun w=>absurd (prove_ok hmem) (ndt w),fun _=>⟨⟨f0,by omega⟩,prove_opens dg hmem fr e3 e2 rfl,fun w=>by simp at w,fun _=>⟨ki,⟨⟨by omega,by omega⟩,by omega,rfl,e2,e3⟩,km⟩⟩⟩⟩
 ·have h:=df h
  have hall:=cntV_all (b:=bk (d,m,dl,()) l x.toNat) (k:=k.toNat) (by omega)
  exact ⟨fun w=>absurd (by rw [n1,hall,← hfull]) (ndt w),fun _=>⟨by unfold isI64; omega,⟨by omega,by omega⟩,by omega⟩⟩
end Go.Proofs.YtcnpblceamgfcaaGreatDoor
namespace Go.Proofs.YtcnpblceamgfcaaGreatDoor
open Go.ChangeShapes Go.WideShapes Go.ChangeAt Go.RowKit Go.AM
abbrev laidC:List (String × DataW Unit):=[("antiquary/hash.constants",Rows.laid_antiquary_hash_constants)]
theorem gcN:Tryz.prog.globalNamed "antiquary/hash.constants" = some 1:=by kernel_rfl
theorem gcT:(Tryz.prog.globals[1]?).map (·.type) = some 210:=by kernel_rfl
theorem gcW:Rows.laid_antiquary_hash_constants (H:=Unit) = .agg (gdatL.map fun n=>.lit (.int .u32 n)):=by kernel_rfl
theorem gcC:Tryz.prog.cellsOf 147 = 1:=by kernel_rfl
theorem gl_laid {W:World} (h:laidMetH Tryz.prog laidC W):Gl Tryz.prog (jZ2 W):=by
 rw [MakeChecks.laidMetH_plain _ _ _ (by kernel_rfl)] at h
 obtain ⟨ps,⟨g0,t0,cs0,f0,p0,q0,hg0,ht0,hv0,hd0,_,_⟩,_,_⟩:=h
 obtain rfl:=Option.some.inj (gcN.symm.trans hg0)
 obtain rfl:=Option.some.inj (gcT.symm.trans ht0)
 obtain ⟨xs,m,rfl,hx,hlen,hn,hel⟩:=DataW.trod_array Tryz.underlying210 hd0
 rw [gcW] at hx
 simp only [Prod.mk.injEq,DataW.agg.injEq] at hx
 intro g hg j n hj
 have hg:Tryz.prog.globalNamed "antiquary/hash.constants" = some g:=by
  unfold gIs at hg
  exact beq_iff_eq.1 hg
 obtain rfl:=Option.some.inj (gcN.symm.trans hg)
 have hj64:j < 64:=by
  have:=(List.getElem?_eq_some_iff.1 hj).1
  have e:gdatL.length = 64:=by kernel_rfl
  omega
 show W.cell? ⟨1,j,none⟩ = some (.int .u32 n)
 rw [World.var?_cell gcN hv0 j]
 have h0:=hel j hj64
 rw [gcC,Nat.mul_one] at h0
 have hxj:xs[j]? = some (xs[j]'(by omega)):=List.getElem?_eq_getElem (by omega)
 rw [hxj] at h0
 obtain ⟨k,e1,e2,_⟩:=DataW.trod_int Tryz.underlying147 h0
 have h1:=congrArg (fun z=>z[j]?) hx.1
 simp only [List.getElem?_map,hj,hxj,Option.map_some,Option.some.injEq] at h1
 rw [e2] at h1
 simp only [DataW.lit.injEq,Lit.int.injEq,true_and] at h1
 subst h1
 have h2:=congrArg (fun z=>z[0]?) e1
 simpa using h2
theorem door_met (os:Os) (args:Array Value):laidMetH Tryz.prog laidC ((World.doorLaid Tryz.prog 400 os).forCall (fun _ _=>0) ⟨#[],args,[]⟩).memory:=by
 rw [MakeChecks.laidMetH_plain _ _ _ (by kernel_rfl)]
 exact laidMet_of_run' 8 (by kernel_rfl) (by kernel_rfl)
end Go.Proofs.YtcnpblceamgfcaaGreatDoor
