import Derived.Test.YtbjjaaimhleedaaGreatDoorKt10
import Derived.Test.YtbjjaaimhleedaaGreatDoorKt11
import Derived.Test.YtbjjaaimhleedaaGreatDoorKt9
set_option linter.unusedSimpArgs false
set_option linter.unusedVariables false
namespace Go.Proofs.YtbjjaaimhleedaaGreatDoor
open Go.AM Go.PL
theorem frm_nf (n:Nat) (op pos:Int) (nm:List Int) (ar:List Lt) (sb:List Tr) (lev:Int):fnwp (FC2 n) 6 28 (frmSp (n + 1)) ((Rose.node ((op,pos,nm,ar,()),()) sb :
 Tr),lev) = ((decide ((Rose.node ((op,pos,nm,ar,()),()) sb).val.fst.fst < (1:Int)) = true → false = frmN (n + (1:Nat)) (Rose.node ((op,pos,nm,ar,()),()) sb) lev) ∧
 (decide ((Rose.node ((op,pos,nm,ar,()),()) sb).val.fst.fst < (1:Int)) = false → (decide ((13:Int) < (Rose.node ((op,pos,nm,ar,()),()) sb).val.fst.fst) = true →
 false = frmN (n + (1:Nat)) (Rose.node ((op,pos,nm,ar,()),()) sb) lev) ∧ (decide ((13:Int) < (Rose.node ((op,pos,nm,ar,()),()) sb).val.fst.fst) = false → (decide
 ((60:Int) < lev) = true → false = frmN (n + (1:Nat)) (Rose.node ((op,pos,nm,ar,()),()) sb) lev) ∧ (decide ((60:Int) < lev) = false → True ∧ ((!ctB (Rose.node ((op,
 pos,nm,ar,()),()) sb)) = true → false = frmN (n + (1:Nat)) (Rose.node ((op,pos,nm,ar,()),()) sb) lev) ∧ ((!ctB (Rose.node ((op,pos,nm,ar,()),()) sb)) = false →
 (decide ((Rose.node ((op,pos,nm,ar,()),()) sb).val.fst.fst < (5:Int)) = true → ((!decide ((Rose.node ((op,pos,nm,ar,()),()) sb).val.fst.snd.snd.fst = bytesOf { data
 := #[] })) = true → false = frmN (n + (1:Nat)) (Rose.node ((op,pos,nm,ar,()),()) sb) lev) ∧ ((!decide ((Rose.node ((op,pos,nm,ar,()),()) sb).val.fst.snd.snd.fst =
 bytesOf { data:=#[] })) = false → (decide ((5:Int) ≤ (Rose.node ((op,pos,nm,ar,()),()) sb).val.fst.fst) = true → True ∧ ((!possB (Rose.node ((op,pos,nm,ar,()),())
 sb).val.fst.snd.snd.fst) = true → false = frmN (n + (1:Nat)) (Rose.node ((op,pos,nm,ar,()),()) sb) lev) ∧ ((!possB (Rose.node ((op,pos,nm,ar,()),())
 sb).val.fst.snd.snd.fst) = false → (decide ((Rose.node ((op,pos,nm,ar,()),()) sb).val.fst.fst = (2:Int)) = true → (decide ((↑(Rose.node ((op,pos,nm,ar,()),())
 sb).subs.length:Int) < (2:Int)) = true → false = frmN (n + (1:Nat)) (Rose.node ((op,pos,nm,ar,()),()) sb) lev) ∧ (decide ((↑(Rose.node ((op,pos,nm,ar,()),())
 sb).subs.length:Int) < (2:Int)) = false → (decide ((Rose.node ((op,pos,nm,ar,()),()) sb).val.fst.fst = (4:Int)) = true → ((!decide ((↑(Rose.node ((op,pos,nm,ar,
 ()),()) sb).subs.length:Int) = (1:Int))) = true → false = frmN (n + (1:Nat)) (Rose.node ((op,pos,nm,ar,()),()) sb) lev) ∧ ((!decide ((↑(Rose.node ((op,pos,nm,ar,
 ()),()) sb).subs.length:Int) = (1:Int))) = false → ∃ (I:Int → Prop),∃ (μ:Int → Nat),I (0:Int) ∧ ∀ (x:Int),I x → (decide (x < (↑(Rose.node ((op,pos,nm,ar,()),
 ()) sb).subs.length:Int)) = true → ((0:Int) ≤ x ∧ x < (↑(Rose.node ((op,pos,nm,ar,()),()) sb).subs.length:Int)) ∧ isI64 (lev + (1:Int)) ∧ (dep ((Rose.node ((op,pos,
 nm,ar,()),()) sb).subs.getD x.toNat (Rose.node (((0:Int),(0:Int),[],[],()),()) [])) ≤ n ∧ (0:Int) ≤ lev + (1:Int)) ∧ ((!frmN n ((Rose.node ((op,pos,nm,ar,()),
 ()) sb).subs.getD x.toNat (Rose.node (((0:Int),(0:Int),[],[],()),()) [])) (lev + (1:Int))) = true → false = frmN (n + (1:Nat)) (Rose.node ((op,pos,nm,ar,()),())
 sb) lev) ∧ ((!frmN n ((Rose.node ((op,pos,nm,ar,()),()) sb).subs.getD x.toNat (Rose.node (((0:Int),(0:Int),[],[],()),()) [])) (lev + (1:Int))) = false → isI64 (x
 + (1:Int)) ∧ I (x + (1:Int)) ∧ μ (x + (1:Int)) < μ x)) ∧ (decide (x < (↑(Rose.node ((op,pos,nm,ar,()),()) sb).subs.length:Int)) = false → true = frmN (n + (1:Nat))
 (Rose.node ((op,pos,nm,ar,()),()) sb) lev))) ∧ (decide ((Rose.node ((op,pos,nm,ar,()),()) sb).val.fst.fst = (4:Int)) = false → ∃ (I:Int → Prop),∃ (μ:Int → Nat),
 I (0:Int) ∧ ∀ (x:Int),I x → (decide (x < (↑(Rose.node ((op,pos,nm,ar,()),()) sb).subs.length:Int)) = true → ((0:Int) ≤ x ∧ x < (↑(Rose.node ((op,pos,nm,ar,()),
 ()) sb).subs.length:Int)) ∧ isI64 (lev + (1:Int)) ∧ (dep ((Rose.node ((op,pos,nm,ar,()),()) sb).subs.getD x.toNat (Rose.node (((0:Int),(0:Int),[],[],()),())
 [])) ≤ n ∧ (0:Int) ≤ lev + (1:Int)) ∧ ((!frmN n ((Rose.node ((op,pos,nm,ar,()),()) sb).subs.getD x.toNat (Rose.node (((0:Int),(0:Int),[],[],()),()) [])) (lev +
 (1:Int))) = true → false = frmN (n + (1:Nat)) (Rose.node ((op,pos,nm,ar,()),()) sb) lev) ∧ ((!frmN n ((Rose.node ((op,pos,nm,ar,()),()) sb).subs.getD x.toNat
 (Rose.node (((0:Int),(0:Int),[],[],()),()) [])) (lev + (1:Int))) = false → isI64 (x + (1:Int)) ∧ I (x + (1:Int)) ∧ μ (x + (1:Int)) < μ x)) ∧ (decide (x <
 (↑(Rose.node ((op,pos,nm,ar,()),()) sb).subs.length:Int)) = false → true = frmN (n + (1:Nat)) (Rose.node ((op,pos,nm,ar,()),()) sb) lev)))) ∧ (decide ((Rose.node
 ((op,pos,nm,ar,()),()) sb).val.fst.fst = (2:Int)) = false → (decide ((Rose.node ((op,pos,nm,ar,()),()) sb).val.fst.fst = (3:Int)) = true → (decide ((↑(Rose.node
 ((op,pos,nm,ar,()),()) sb).subs.length:Int) < (2:Int)) = true → false = frmN (n + (1:Nat)) (Rose.node ((op,pos,nm,ar,()),()) sb) lev) ∧ (decide ((↑(Rose.node
 ((op,pos,nm,ar,()),()) sb).subs.length:Int) < (2:Int)) = false → (decide ((Rose.node ((op,pos,nm,ar,()),()) sb).val.fst.fst = (4:Int)) = true → ((!decide
 ((↑(Rose.node ((op,pos,nm,ar,()),()) sb).subs.length:Int) = (1:Int))) = true → false = frmN (n + (1:Nat)) (Rose.node ((op,pos,nm,ar,()),()) sb) lev) ∧ ((!decide
 ((↑(Rose.node ((op,pos,nm,ar,()),()) sb).subs.length:Int) = (1:Int))) = false → ((!decide ((Rose.node ((op,pos,nm,ar,()),()) sb).val.fst.fst = (3:Int))) = true →
 ((!decide ((Rose.node ((op,pos,nm,ar,()),()) sb).val.fst.fst = (4:Int))) = true → ((!decide ((↑(Rose.node ((op,pos,nm,ar,()),()) sb).subs.length:Int) = (0:Int)))
 = true → false = frmN (n + (1:Nat)) (Rose.node ((op,pos,nm,ar,()),()) sb) lev) ∧ ((!decide ((↑(Rose.node ((op,pos,nm,ar,()),()) sb).subs.length:Int) = (0:Int))) =
 false → ∃ (I:Int → Prop),∃ (μ:Int → Nat),I (0:Int) ∧ ∀ (x:Int),I x → (decide (x < (↑(Rose.node ((op,pos,nm,ar,()),()) sb).subs.length:Int)) = true → ((0:Int)
 ≤ x ∧ x < (↑(Rose.node ((op,pos,nm,ar,()),()) sb).subs.length:Int)) ∧ isI64 (lev + (1:Int)) ∧ (dep ((Rose.node ((op,pos,nm,ar,()),()) sb).subs.getD x.toNat
 (Rose.node (((0:Int),(0:Int),[],[],()),()) [])) ≤ n ∧ (0:Int) ≤ lev + (1:Int)) ∧ ((!frmN n ((Rose.node ((op,pos,nm,ar,()),()) sb).subs.getD x.toNat (Rose.node
 (((0:Int),(0:Int),[],[],()),()) [])) (lev + (1:Int))) = true → false = frmN (n + (1:Nat)) (Rose.node ((op,pos,nm,ar,()),()) sb) lev) ∧ ((!frmN n ((Rose.node
 ((op,pos,nm,ar,()),()) sb).subs.getD x.toNat (Rose.node (((0:Int),(0:Int),[],[],()),()) [])) (lev + (1:Int))) = false → isI64 (x + (1:Int)) ∧ I (x + (1:Int))
 ∧ μ (x + (1:Int)) < μ x)) ∧ (decide (x < (↑(Rose.node ((op,pos,nm,ar,()),()) sb).subs.length:Int)) = false → true = frmN (n + (1:Nat)) (Rose.node ((op,pos,nm,ar,
 ()),()) sb) lev))) ∧ ((!decide ((Rose.node ((op,pos,nm,ar,()),()) sb).val.fst.fst = (4:Int))) = false → ∃ (I:Int → Prop),∃ (μ:Int → Nat),I (0:Int) ∧ ∀ (x:Int),
 I x → (decide (x < (↑(Rose.node ((op,pos,nm,ar,()),()) sb).subs.length:Int)) = true → ((0:Int) ≤ x ∧ x < (↑(Rose.node ((op,pos,nm,ar,()),()) sb).subs.length:Int))
 ∧ isI64 (lev + (1:Int)) ∧ (dep ((Rose.node ((op,pos,nm,ar,()),()) sb).subs.getD x.toNat (Rose.node (((0:Int),(0:Int),[],[],()),()) [])) ≤ n ∧ (0:Int) ≤ lev + (1
 : Int)) ∧ ((!frmN n ((Rose.node ((op,pos,nm,ar,()),()) sb).subs.getD x.toNat (Rose.node (((0:Int),(0:Int),[],[],()),()) [])) (lev + (1:Int))) = true → false =
 frmN (n + (1:Nat)) (Rose.node ((op,pos,nm,ar,()),()) sb) lev) ∧ ((!frmN n ((Rose.node ((op,pos,nm,ar,()),()) sb).subs.getD x.toNat (Rose.node (((0:Int),(0:Int),
 [],[],()),()) [])) (lev + (1:Int))) = false → isI64 (x + (1:Int)) ∧ I (x + (1:Int)) ∧ μ (x + (1:Int)) < μ x)) ∧ (decide (x < (↑(Rose.node ((op,pos,nm,ar,()),())
 sb).subs.length:Int)) = false → true = frmN (n + (1:Nat)) (Rose.node ((op,pos,nm,ar,()),()) sb) lev))) ∧ ((!decide ((Rose.node ((op,pos,nm,ar,()),())
 sb).val.fst.fst = (3:Int))) = false → ∃ (I:Int → Prop),∃ (μ:Int → Nat),I (0:Int) ∧ ∀ (x:Int),I x → (decide (x < (↑(Rose.node ((op,pos,nm,ar,()),())
 sb).subs.length:Int)) = true → ((0:Int) ≤ x ∧ x < (↑(Rose.node ((op,pos,nm,ar,()),()) sb).subs.length:Int)) ∧ isI64 (lev + (1:Int)) ∧ (dep ((Rose.node ((op,pos,nm,
 ar,()),()) sb).subs.getD x.toNat (Rose.node (((0:Int),(0:Int),[],[],()),()) [])) ≤ n ∧ (0:Int) ≤ lev + (1:Int)) ∧ ((!frmN n ((Rose.node ((op,pos,nm,ar,()),())
 sb).subs.getD x.toNat (Rose.node (((0:Int),(0:Int),[],[],()),()) [])) (lev + (1:Int))) = true → false = frmN (n + (1:Nat)) (Rose.node ((op,pos,nm,ar,()),()) sb)
 lev) ∧ ((!frmN n ((Rose.node ((op,pos,nm,ar,()),()) sb).subs.getD x.toNat (Rose.node (((0:Int),(0:Int),[],[],()),()) [])) (lev + (1:Int))) = false → isI64 (x + (1
 : Int)) ∧ I (x + (1:Int)) ∧ μ (x + (1:Int)) < μ x)) ∧ (decide (x < (↑(Rose.node ((op,pos,nm,ar,()),()) sb).subs.length:Int)) = false → true = frmN (n + (1:Nat))
 (Rose.node ((op,pos,nm,ar,()),()) sb) lev)))) ∧ (decide ((Rose.node ((op,pos,nm,ar,()),()) sb).val.fst.fst = (4:Int)) = false → ((!decide ((Rose.node ((op,pos,nm,
 ar,()),()) sb).val.fst.fst = (3:Int))) = true → ((!decide ((Rose.node ((op,pos,nm,ar,()),()) sb).val.fst.fst = (4:Int))) = true → ((!decide ((↑(Rose.node ((op,pos,
 nm,ar,()),()) sb).subs.length:Int) = (0:Int))) = true → false = frmN (n + (1:Nat)) (Rose.node ((op,pos,nm,ar,()),()) sb) lev) ∧ ((!decide ((↑(Rose.node ((op,pos,
 nm,ar,()),()) sb).subs.length:Int) = (0:Int))) = false → ∃ (I:Int → Prop),∃ (μ:Int → Nat),I (0:Int) ∧ ∀ (x:Int),I x → (decide (x < (↑(Rose.node ((op,pos,nm,
 ar,()),()) sb).subs.length:Int)) = true → ((0:Int) ≤ x ∧ x < (↑(Rose.node ((op,pos,nm,ar,()),()) sb).subs.length:Int)) ∧ isI64 (lev + (1:Int)) ∧ (dep ((Rose.node
 ((op,pos,nm,ar,()),()) sb).subs.getD x.toNat (Rose.node (((0:Int),(0:Int),[],[],()),()) [])) ≤ n ∧ (0:Int) ≤ lev + (1:Int)) ∧ ((!frmN n ((Rose.node ((op,pos,
 nm,ar,()),()) sb).subs.getD x.toNat (Rose.node (((0:Int),(0:Int),[],[],()),()) [])) (lev + (1:Int))) = true → false = frmN (n + (1:Nat)) (Rose.node ((op,pos,nm,
 ar,()),()) sb) lev) ∧ ((!frmN n ((Rose.node ((op,pos,nm,ar,()),()) sb).subs.getD x.toNat (Rose.node (((0:Int),(0:Int),[],[],()),()) [])) (lev + (1:Int))) =
 false → isI64 (x + (1:Int)) ∧ I (x + (1:Int)) ∧ μ (x + (1:Int)) < μ x)) ∧ (decide (x < (↑(Rose.node ((op,pos,nm,ar,()),()) sb).subs.length:Int)) = false → true =
 frmN (n + (1:Nat)) (Rose.node ((op,pos,nm,ar,()),()) sb) lev))) ∧ ((!decide ((Rose.node ((op,pos,nm,ar,()),()) sb).val.fst.fst = (4:Int))) = false → ∃ (I:Int →
 Prop),∃ (μ:Int → Nat),I (0:Int) ∧ ∀ (x:Int),I x → (decide (x < (↑(Rose.node ((op,pos,nm,ar,()),()) sb).subs.length:Int)) = true → ((0:Int) ≤ x ∧ x <
 (↑(Rose.node ((op,pos,nm,ar,()),()) sb).subs.length:Int)) ∧ isI64 (lev + (1:Int)) ∧ (dep ((Rose.node ((op,pos,nm,ar,()),()) sb).subs.getD x.toNat (Rose.node (((0 :
 Int),(0:Int),[],[],()),()) [])) ≤ n ∧ (0:Int) ≤ lev + (1:Int)) ∧ ((!frmN n ((Rose.node ((op,pos,nm,ar,()),()) sb).subs.getD x.toNat (Rose.node (((0:Int),(0 :
 Int),[],[],()),()) [])) (lev + (1:Int))) = true → false = frmN (n + (1:Nat)) (Rose.node ((op,pos,nm,ar,()),()) sb) lev) ∧ ((!frmN n ((Rose.node ((op,pos,nm,ar,
 ()),()) sb).subs.getD x.toNat (Rose.node (((0:Int),(0:Int),[],[],()),()) [])) (lev + (1:Int))) = false → isI64 (x + (1:Int)) ∧ I (x + (1:Int)) ∧ μ (x + (1:Int))
 < μ x)) ∧ (decide (x < (↑(Rose.node ((op,pos,nm,ar,()),()) sb).subs.length:Int)) = false → true = frmN (n + (1:Nat)) (Rose.node ((op,pos,nm,ar,()),()) sb) lev))) ∧
 ((!decide ((Rose.node ((op,pos,nm,ar,()),()) sb).val.fst.fst = (3:Int))) = false → ∃ (I:Int → Prop),∃ (μ:Int → Nat),I (0:Int) ∧ ∀ (x:Int),I x → (decide (x <
 (↑(Rose.node ((op,pos,nm,ar,()),()) sb).subs.length:Int)) = true → ((0:Int) ≤ x ∧ x < (↑(Rose.node ((op,pos,nm,ar,()),()) sb).subs.length:Int)) ∧ isI64 (lev + (1
 : Int)) ∧ (dep ((Rose.node ((op,pos,nm,ar,()),()) sb).subs.getD x.toNat (Rose.node (((0:Int),(0:Int),[],[],()),()) [])) ≤ n ∧ (0:Int) ≤ lev + (1:Int)) ∧ ((!frmN
 n ((Rose.node ((op,pos,nm,ar,()),()) sb).subs.getD x.toNat (Rose.node (((0:Int),(0:Int),[],[],()),()) [])) (lev + (1:Int))) = true → false = frmN (n + (1:Nat))
 (Rose.node ((op,pos,nm,ar,()),()) sb) lev) ∧ ((!frmN n ((Rose.node ((op,pos,nm,ar,()),()) sb).subs.getD x.toNat (Rose.node (((0:Int),(0:Int),[],[],()),()) []))
 (lev + (1:Int))) = false → isI64 (x + (1:Int)) ∧ I (x + (1:Int)) ∧ μ (x + (1:Int)) < μ x)) ∧ (decide (x < (↑(Rose.node ((op,pos,nm,ar,()),()) sb).subs.length:Int))
 = false → true = frmN (n + (1:Nat)) (Rose.node ((op,pos,nm,ar,()),()) sb) lev))))) ∧ (decide ((Rose.node ((op,pos,nm,ar,()),()) sb).val.fst.fst = (3:Int)) = false →
 (decide ((Rose.node ((op,pos,nm,ar,()),()) sb).val.fst.fst = (4:Int)) = true → ((!decide ((↑(Rose.node ((op,pos,nm,ar,()),()) sb).subs.length:Int) = (1:Int))) =
 true → false = frmN (n + (1:Nat)) (Rose.node ((op,pos,nm,ar,()),()) sb) lev) ∧ ((!decide ((↑(Rose.node ((op,pos,nm,ar,()),()) sb).subs.length:Int) = (1:Int))) =
 false → ((!decide ((Rose.node ((op,pos,nm,ar,()),()) sb).val.fst.fst = (3:Int))) = true → ((!decide ((Rose.node ((op,pos,nm,ar,()),()) sb).val.fst.fst = (4:Int))) =
 true → ((!decide ((↑(Rose.node ((op,pos,nm,ar,()),()) sb).subs.length:Int) = (0:Int))) = true → false = frmN (n + (1:Nat)) (Rose.node ((op,pos,nm,ar,()),()) sb)
 lev) ∧ ((!decide ((↑(Rose.node ((op,pos,nm,ar,()),()) sb).subs.length:Int) = (0:Int))) = false → ∃ (I:Int → Prop),∃ (μ:Int → Nat),I (0:Int) ∧ ∀ (x:Int),I x →
 (decide (x < (↑(Rose.node ((op,pos,nm,ar,()),()) sb).subs.length:Int)) = true → ((0:Int) ≤ x ∧ x < (↑(Rose.node ((op,pos,nm,ar,()),()) sb).subs.length:Int)) ∧
 isI64 (lev + (1:Int)) ∧ (dep ((Rose.node ((op,pos,nm,ar,()),()) sb).subs.getD x.toNat (Rose.node (((0:Int),(0:Int),[],[],()),()) [])) ≤ n ∧ (0:Int) ≤ lev + (1 :
 Int)) ∧ ((!frmN n ((Rose.node ((op,pos,nm,ar,()),()) sb).subs.getD x.toNat (Rose.node (((0:Int),(0:Int),[],[],()),()) [])) (lev + (1:Int))) = true → false = frmN
 (n + (1:Nat)) (Rose.node ((op,pos,nm,ar,()),()) sb) lev) ∧ ((!frmN n ((Rose.node ((op,pos,nm,ar,()),()) sb).subs.getD x.toNat (Rose.node (((0:Int),(0:Int),[],
 [],()),()) [])) (lev + (1:Int))) = false → isI64 (x + (1:Int)) ∧ I (x + (1:Int)) ∧ μ (x + (1:Int)) < μ x)) ∧ (decide (x < (↑(Rose.node ((op,pos,nm,ar,()),())
 sb).subs.length:Int)) = false → true = frmN (n + (1:Nat)) (Rose.node ((op,pos,nm,ar,()),()) sb) lev))) ∧ ((!decide ((Rose.node ((op,pos,nm,ar,()),())
 sb).val.fst.fst = (4:Int))) = false → ∃ (I:Int → Prop),∃ (μ:Int → Nat),I (0:Int) ∧ ∀ (x:Int),I x → (decide (x < (↑(Rose.node ((op,pos,nm,ar,()),())
 sb).subs.length:Int)) = true → ((0:Int) ≤ x ∧ x < (↑(Rose.node ((op,pos,nm,ar,()),()) sb).subs.length:Int)) ∧ isI64 (lev + (1:Int)) ∧ (dep ((Rose.node ((op,pos,nm,
 ar,()),()) sb).subs.getD x.toNat (Rose.node (((0:Int),(0:Int),[],[],()),()) [])) ≤ n ∧ (0:Int) ≤ lev + (1:Int)) ∧ ((!frmN n ((Rose.node ((op,pos,nm,ar,()),())
 sb).subs.getD x.toNat (Rose.node (((0:Int),(0:Int),[],[],()),()) [])) (lev + (1:Int))) = true → false = frmN (n + (1:Nat)) (Rose.node ((op,pos,nm,ar,()),()) sb)
 lev) ∧ ((!frmN n ((Rose.node ((op,pos,nm,ar,()),()) sb).subs.getD x.toNat (Rose.node (((0:Int),(0:Int),[],[],()),()) [])) (lev + (1:Int))) = false → isI64 (x + (1
 : Int)) ∧ I (x + (1:Int)) ∧ μ (x + (1:Int)) < μ x)) ∧ (decide (x < (↑(Rose.node ((op,pos,nm,ar,()),()) sb).subs.length:Int)) = false → true = frmN (n + (1:Nat))
 (Rose.node ((op,pos,nm,ar,()),()) sb) lev))) ∧ ((!decide ((Rose.node ((op,pos,nm,ar,()),()) sb).val.fst.fst = (3:Int))) = false → ∃ (I:Int → Prop),∃ (μ:Int →
 Nat),I (0:Int) ∧ ∀ (x:Int),I x → (decide (x < (↑(Rose.node ((op,pos,nm,ar,()),()) sb).subs.length:Int)) = true → ((0:Int) ≤ x ∧ x < (↑(Rose.node ((op,pos,nm,ar,
 ()),()) sb).subs.length:Int)) ∧ isI64 (lev + (1:Int)) ∧ (dep ((Rose.node ((op,pos,nm,ar,()),()) sb).subs.getD x.toNat (Rose.node (((0:Int),(0:Int),[],[],()),
 ()) [])) ≤ n ∧ (0:Int) ≤ lev + (1:Int)) ∧ ((!frmN n ((Rose.node ((op,pos,nm,ar,()),()) sb).subs.getD x.toNat (Rose.node (((0:Int),(0:Int),[],[],()),()) []))
 (lev + (1:Int))) = true → false = frmN (n + (1:Nat)) (Rose.node ((op,pos,nm,ar,()),()) sb) lev) ∧ ((!frmN n ((Rose.node ((op,pos,nm,ar,()),()) sb).subs.getD x.toNat
 (Rose.node (((0:Int),(0:Int),[],[],()),()) [])) (lev + (1:Int))) = false → isI64 (x + (1:Int)) ∧ I (x + (1:Int)) ∧ μ (x + (1:Int)) < μ x)) ∧ (decide (x <
 (↑(Rose.node ((op,pos,nm,ar,()),()) sb).subs.length:Int)) = false → true = frmN (n + (1:Nat)) (Rose.node ((op,pos,nm,ar,()),()) sb) lev)))) ∧ (decide ((Rose.node
 ((op,pos,nm,ar,()),()) sb).val.fst.fst = (4:Int)) = false → ((!decide ((Rose.node ((op,pos,nm,ar,()),()) sb).val.fst.fst = (3:Int))) = true → ((!decide ((Rose.node
 ((op,pos,nm,ar,()),()) sb).val.fst.fst = (4:Int))) = true → ((!decide ((↑(Rose.node ((op,pos,nm,ar,()),()) sb).subs.length:Int) = (0:Int))) = true → false = frmN
 (n + (1:Nat)) (Rose.node ((op,pos,nm,ar,()),()) sb) lev) ∧ ((!decide ((↑(Rose.node ((op,pos,nm,ar,()),()) sb).subs.length:Int) = (0:Int))) = false → ∃ (I:Int →
 Prop),∃ (μ:Int → Nat),I (0:Int) ∧ ∀ (x:Int),I x → (decide (x < (↑(Rose.node ((op,pos,nm,ar,()),()) sb).subs.length:Int)) = true → ((0:Int) ≤ x ∧ x <
 (↑(Rose.node ((op,pos,nm,ar,()),()) sb).subs.length:Int)) ∧ isI64 (lev + (1:Int)) ∧ (dep ((Rose.node ((op,pos,nm,ar,()),()) sb).subs.getD x.toNat (Rose.node (((0 :
 Int),(0:Int),[],[],()),()) [])) ≤ n ∧ (0:Int) ≤ lev + (1:Int)) ∧ ((!frmN n ((Rose.node ((op,pos,nm,ar,()),()) sb).subs.getD x.toNat (Rose.node (((0:Int),(0 :
 Int),[],[],()),()) [])) (lev + (1:Int))) = true → false = frmN (n + (1:Nat)) (Rose.node ((op,pos,nm,ar,()),()) sb) lev) ∧ ((!frmN n ((Rose.node ((op,pos,nm,ar,
 ()),()) sb).subs.getD x.toNat (Rose.node (((0:Int),(0:Int),[],[],()),()) [])) (lev + (1:Int))) = false → isI64 (x + (1:Int)) ∧ I (x + (1:Int)) ∧ μ (x + (1:Int))
 < μ x)) ∧ (decide (x < (↑(Rose.node ((op,pos,nm,ar,()),()) sb).subs.length:Int)) = false → true = frmN (n + (1:Nat)) (Rose.node ((op,pos,nm,ar,()),()) sb) lev))) ∧
 ((!decide ((Rose.node ((op,pos,nm,ar,()),()) sb).val.fst.fst = (4:Int))) = false → ∃ (I:Int → Prop),∃ (μ:Int → Nat),I (0:Int) ∧ ∀ (x:Int),I x → (decide (x <
 (↑(Rose.node ((op,pos,nm,ar,()),()) sb).subs.length:Int)) = true → ((0:Int) ≤ x ∧ x < (↑(Rose.node ((op,pos,nm,ar,()),()) sb).subs.length:Int)) ∧ isI64 (lev + (1
 : Int)) ∧ (dep ((Rose.node ((op,pos,nm,ar,()),()) sb).subs.getD x.toNat (Rose.node (((0:Int),(0:Int),[],[],()),()) [])) ≤ n ∧ (0:Int) ≤ lev + (1:Int)) ∧ ((!frmN
 n ((Rose.node ((op,pos,nm,ar,()),()) sb).subs.getD x.toNat (Rose.node (((0:Int),(0:Int),[],[],()),()) [])) (lev + (1:Int))) = true → false = frmN (n + (1:Nat))
 (Rose.node ((op,pos,nm,ar,()),()) sb) lev) ∧ ((!frmN n ((Rose.node ((op,pos,nm,ar,()),()) sb).subs.getD x.toNat (Rose.node (((0:Int),(0:Int),[],[],()),()) []))
 (lev + (1:Int))) = false → isI64 (x + (1:Int)) ∧ I (x + (1:Int)) ∧ μ (x + (1:Int)) < μ x)) ∧ (decide (x < (↑(Rose.node ((op,pos,nm,ar,()),()) sb).subs.length:Int))
 = false → true = frmN (n + (1:Nat)) (Rose.node ((op,pos,nm,ar,()),()) sb) lev))) ∧ ((!decide ((Rose.node ((op,pos,nm,ar,()),()) sb).val.fst.fst = (3:Int))) = false
 → ∃ (I:Int → Prop),∃ (μ:Int → Nat),I (0:Int) ∧ ∀ (x:Int),I x → (decide (x < (↑(Rose.node ((op,pos,nm,ar,()),()) sb).subs.length:Int)) = true → ((0:Int) ≤ x ∧
 x < (↑(Rose.node ((op,pos,nm,ar,()),()) sb).subs.length:Int)) ∧ isI64 (lev + (1:Int)) ∧ (dep ((Rose.node ((op,pos,nm,ar,()),()) sb).subs.getD x.toNat (Rose.node
 (((0:Int),(0:Int),[],[],()),()) [])) ≤ n ∧ (0:Int) ≤ lev + (1:Int)) ∧ ((!frmN n ((Rose.node ((op,pos,nm,ar,()),()) sb).subs.getD x.toNat (Rose.node (((0:Int),
 (0:Int),[],[],()),()) [])) (lev + (1:Int))) = true → false = frmN (n + (1:Nat)) (Rose.node ((op,pos,nm,ar,()),()) sb) lev) ∧ ((!frmN n ((Rose.node ((op,pos,nm,
 ar,()),()) sb).subs.getD x.toNat (Rose.node (((0:Int),(0:Int),[],[],()),()) [])) (lev + (1:Int))) = false → isI64 (x + (1:Int)) ∧ I (x + (1:Int)) ∧ μ (x + (1 :
 Int)) < μ x)) ∧ (decide (x < (↑(Rose.node ((op,pos,nm,ar,()),()) sb).subs.length:Int)) = false → true = frmN (n + (1:Nat)) (Rose.node ((op,pos,nm,ar,()),()) sb)
 lev))))))) ∧ (decide ((5:Int) ≤ (Rose.node ((op,pos,nm,ar,()),()) sb).val.fst.fst) = false → (decide ((Rose.node ((op,pos,nm,ar,()),()) sb).val.fst.fst = (2:Int)) =
 true → (decide ((↑(Rose.node ((op,pos,nm,ar,()),()) sb).subs.length:Int) < (2:Int)) = true → false = frmN (n + (1:Nat)) (Rose.node ((op,pos,nm,ar,()),()) sb) lev)
 ∧ (decide ((↑(Rose.node ((op,pos,nm,ar,()),()) sb).subs.length:Int) < (2:Int)) = false → (decide ((Rose.node ((op,pos,nm,ar,()),()) sb).val.fst.fst = (4:Int)) =
 true → ((!decide ((↑(Rose.node ((op,pos,nm,ar,()),()) sb).subs.length:Int) = (1:Int))) = true → false = frmN (n + (1:Nat)) (Rose.node ((op,pos,nm,ar,()),()) sb)
 lev) ∧ ((!decide ((↑(Rose.node ((op,pos,nm,ar,()),()) sb).subs.length:Int) = (1:Int))) = false → ∃ (I:Int → Prop),∃ (μ:Int → Nat),I (0:Int) ∧ ∀ (x:Int),I x →
 (decide (x < (↑(Rose.node ((op,pos,nm,ar,()),()) sb).subs.length:Int)) = true → ((0:Int) ≤ x ∧ x < (↑(Rose.node ((op,pos,nm,ar,()),()) sb).subs.length:Int)) ∧
 isI64 (lev + (1:Int)) ∧ (dep ((Rose.node ((op,pos,nm,ar,()),()) sb).subs.getD x.toNat (Rose.node (((0:Int),(0:Int),[],[],()),()) [])) ≤ n ∧ (0:Int) ≤ lev + (1 :
 Int)) ∧ ((!frmN n ((Rose.node ((op,pos,nm,ar,()),()) sb).subs.getD x.toNat (Rose.node (((0:Int),(0:Int),[],[],()),()) [])) (lev + (1:Int))) = true → false = frmN
 (n + (1:Nat)) (Rose.node ((op,pos,nm,ar,()),()) sb) lev) ∧ ((!frmN n ((Rose.node ((op,pos,nm,ar,()),()) sb).subs.getD x.toNat (Rose.node (((0:Int),(0:Int),[],
 [],()),()) [])) (lev + (1:Int))) = false → isI64 (x + (1:Int)) ∧ I (x + (1:Int)) ∧ μ (x + (1:Int)) < μ x)) ∧ (decide (x < (↑(Rose.node ((op,pos,nm,ar,()),())
 sb).subs.length:Int)) = false → true = frmN (n + (1:Nat)) (Rose.node ((op,pos,nm,ar,()),()) sb) lev))) ∧ (decide ((Rose.node ((op,pos,nm,ar,()),()) sb).val.fst.fst
 = (4:Int)) = false → ∃ (I:Int → Prop),∃ (μ:Int → Nat),I (0:Int) ∧ ∀ (x:Int),I x → (decide (x < (↑(Rose.node ((op,pos,nm,ar,()),()) sb).subs.length:Int)) =
 true → ((0:Int) ≤ x ∧ x < (↑(Rose.node ((op,pos,nm,ar,()),()) sb).subs.length:Int)) ∧ isI64 (lev + (1:Int)) ∧ (dep ((Rose.node ((op,pos,nm,ar,()),())
 sb).subs.getD x.toNat (Rose.node (((0:Int),(0:Int),[],[],()),()) [])) ≤ n ∧ (0:Int) ≤ lev + (1:Int)) ∧ ((!frmN n ((Rose.node ((op,pos,nm,ar,()),())
 sb).subs.getD x.toNat (Rose.node (((0:Int),(0:Int),[],[],()),()) [])) (lev + (1:Int))) = true → false = frmN (n + (1:Nat)) (Rose.node ((op,pos,nm,ar,()),()) sb)
 lev) ∧ ((!frmN n ((Rose.node ((op,pos,nm,ar,()),()) sb).subs.getD x.toNat (Rose.node (((0:Int),(0:Int),[],[],()),()) [])) (lev + (1:Int))) = false → isI64 (x + (1
 : Int)) ∧ I (x + (1:Int)) ∧ μ (x + (1:Int)) < μ x)) ∧ (decide (x < (↑(Rose.node ((op,pos,nm,ar,()),()) sb).subs.length:Int)) = false → true = frmN (n + (1:Nat))
 (Rose.node ((op,pos,nm,ar,()),()) sb) lev)))) ∧ (decide ((Rose.node ((op,pos,nm,ar,()),()) sb).val.fst.fst = (2:Int)) = false → (decide ((Rose.node ((op,pos,nm,ar,
 ()),()) sb).val.fst.fst = (3:Int)) = true → (decide ((↑(Rose.node ((op,pos,nm,ar,()),()) sb).subs.length:Int) < (2:Int)) = true → false = frmN (n + (1:Nat))
 (Rose.node ((op,pos,nm,ar,()),()) sb) lev) ∧ (decide ((↑(Rose.node ((op,pos,nm,ar,()),()) sb).subs.length:Int) < (2:Int)) = false → (decide ((Rose.node ((op,pos,
 nm,ar,()),()) sb).val.fst.fst = (4:Int)) = true → ((!decide ((↑(Rose.node ((op,pos,nm,ar,()),()) sb).subs.length:Int) = (1:Int))) = true → false = frmN (n + (1 :
 Nat)) (Rose.node ((op,pos,nm,ar,()),()) sb) lev) ∧ ((!decide ((↑(Rose.node ((op,pos,nm,ar,()),()) sb).subs.length:Int) = (1:Int))) = false → ((!decide ((Rose.node
 ((op,pos,nm,ar,()),()) sb).val.fst.fst = (3:Int))) = true → ((!decide ((Rose.node ((op,pos,nm,ar,()),()) sb).val.fst.fst = (4:Int))) = true → ((!decide
 ((↑(Rose.node ((op,pos,nm,ar,()),()) sb).subs.length:Int) = (0:Int))) = true → false = frmN (n + (1:Nat)) (Rose.node ((op,pos,nm,ar,()),()) sb) lev) ∧ ((!decide
 ((↑(Rose.node ((op,pos,nm,ar,()),()) sb).subs.length:Int) = (0:Int))) = false → ∃ (I:Int → Prop),∃ (μ:Int → Nat),I (0:Int) ∧ ∀ (x:Int),I x → (decide (x <
 (↑(Rose.node ((op,pos,nm,ar,()),()) sb).subs.length:Int)) = true → ((0:Int) ≤ x ∧ x < (↑(Rose.node ((op,pos,nm,ar,()),()) sb).subs.length:Int)) ∧ isI64 (lev + (1
 : Int)) ∧ (dep ((Rose.node ((op,pos,nm,ar,()),()) sb).subs.getD x.toNat (Rose.node (((0:Int),(0:Int),[],[],()),()) [])) ≤ n ∧ (0:Int) ≤ lev + (1:Int)) ∧ ((!frmN
 n ((Rose.node ((op,pos,nm,ar,()),()) sb).subs.getD x.toNat (Rose.node (((0:Int),(0:Int),[],[],()),()) [])) (lev + (1:Int))) = true → false = frmN (n + (1:Nat))
 (Rose.node ((op,pos,nm,ar,()),()) sb) lev) ∧ ((!frmN n ((Rose.node ((op,pos,nm,ar,()),()) sb).subs.getD x.toNat (Rose.node (((0:Int),(0:Int),[],[],()),()) []))
 (lev + (1:Int))) = false → isI64 (x + (1:Int)) ∧ I (x + (1:Int)) ∧ μ (x + (1:Int)) < μ x)) ∧ (decide (x < (↑(Rose.node ((op,pos,nm,ar,()),()) sb).subs.length:Int))
 = false → true = frmN (n + (1:Nat)) (Rose.node ((op,pos,nm,ar,()),()) sb) lev))) ∧ ((!decide ((Rose.node ((op,pos,nm,ar,()),()) sb).val.fst.fst = (4:Int))) = false
 → ∃ (I:Int → Prop),∃ (μ:Int → Nat),I (0:Int) ∧ ∀ (x:Int),I x → (decide (x < (↑(Rose.node ((op,pos,nm,ar,()),()) sb).subs.length:Int)) = true → ((0:Int) ≤ x ∧
 x < (↑(Rose.node ((op,pos,nm,ar,()),()) sb).subs.length:Int)) ∧ isI64 (lev + (1:Int)) ∧ (dep ((Rose.node ((op,pos,nm,ar,()),()) sb).subs.getD x.toNat (Rose.node
 (((0:Int),(0:Int),[],[],()),()) [])) ≤ n ∧ (0:Int) ≤ lev + (1:Int)) ∧ ((!frmN n ((Rose.node ((op,pos,nm,ar,()),()) sb).subs.getD x.toNat (Rose.node (((0:Int),
 (0:Int),[],[],()),()) [])) (lev + (1:Int))) = true → false = frmN (n + (1:Nat)) (Rose.node ((op,pos,nm,ar,()),()) sb) lev) ∧ ((!frmN n ((Rose.node ((op,pos,nm,
 ar,()),()) sb).subs.getD x.toNat (Rose.node (((0:Int),(0:Int),[],[],()),()) [])) (lev + (1:Int))) = false → isI64 (x + (1:Int)) ∧ I (x + (1:Int)) ∧ μ (x + (1 :
 Int)) < μ x)) ∧ (decide (x < (↑(Rose.node ((op,pos,nm,ar,()),()) sb).subs.length:Int)) = false → true = frmN (n + (1:Nat)) (Rose.node ((op,pos,nm,ar,()),()) sb)
 lev))) ∧ ((!decide ((Rose.node ((op,pos,nm,ar,()),()) sb).val.fst.fst = (3:Int))) = false → ∃ (I:Int → Prop),∃ (μ:Int → Nat),I (0:Int) ∧ ∀ (x:Int),I x → (decide
 (x < (↑(Rose.node ((op,pos,nm,ar,()),()) sb).subs.length:Int)) = true → ((0:Int) ≤ x ∧ x < (↑(Rose.node ((op,pos,nm,ar,()),()) sb).subs.length:Int)) ∧ isI64 (lev
 + (1:Int)) ∧ (dep ((Rose.node ((op,pos,nm,ar,()),()) sb).subs.getD x.toNat (Rose.node (((0:Int),(0:Int),[],[],()),()) [])) ≤ n ∧ (0:Int) ≤ lev + (1:Int)) ∧
 ((!frmN n ((Rose.node ((op,pos,nm,ar,()),()) sb).subs.getD x.toNat (Rose.node (((0:Int),(0:Int),[],[],()),()) [])) (lev + (1:Int))) = true → false = frmN (n + (1
 : Nat)) (Rose.node ((op,pos,nm,ar,()),()) sb) lev) ∧ ((!frmN n ((Rose.node ((op,pos,nm,ar,()),()) sb).subs.getD x.toNat (Rose.node (((0:Int),(0:Int),[],[],()),
 ()) [])) (lev + (1:Int))) = false → isI64 (x + (1:Int)) ∧ I (x + (1:Int)) ∧ μ (x + (1:Int)) < μ x)) ∧ (decide (x < (↑(Rose.node ((op,pos,nm,ar,()),())
 sb).subs.length:Int)) = false → true = frmN (n + (1:Nat)) (Rose.node ((op,pos,nm,ar,()),()) sb) lev)))) ∧ (decide ((Rose.node ((op,pos,nm,ar,()),()) sb).val.fst.fst
 = (4:Int)) = false → ((!decide ((Rose.node ((op,pos,nm,ar,()),()) sb).val.fst.fst = (3:Int))) = true → ((!decide ((Rose.node ((op,pos,nm,ar,()),()) sb).val.fst.fst
 = (4:Int))) = true → ((!decide ((↑(Rose.node ((op,pos,nm,ar,()),()) sb).subs.length:Int) = (0:Int))) = true → false = frmN (n + (1:Nat)) (Rose.node ((op,pos,nm,
 ar,()),()) sb) lev) ∧ ((!decide ((↑(Rose.node ((op,pos,nm,ar,()),()) sb).subs.length:Int) = (0:Int))) = false → ∃ (I:Int → Prop),∃ (μ:Int → Nat),I (0:Int) ∧ ∀
 (x:Int),I x → (decide (x < (↑(Rose.node ((op,pos,nm,ar,()),()) sb).subs.length:Int)) = true → ((0:Int) ≤ x ∧ x < (↑(Rose.node ((op,pos,nm,ar,()),())
 sb).subs.length:Int)) ∧ isI64 (lev + (1:Int)) ∧ (dep ((Rose.node ((op,pos,nm,ar,()),()) sb).subs.getD x.toNat (Rose.node (((0:Int),(0:Int),[],[],()),()) [])) ≤
 n ∧ (0:Int) ≤ lev + (1:Int)) ∧ ((!frmN n ((Rose.node ((op,pos,nm,ar,()),()) sb).subs.getD x.toNat (Rose.node (((0:Int),(0:Int),[],[],()),()) [])) (lev + (1 :
 Int))) = true → false = frmN (n + (1:Nat)) (Rose.node ((op,pos,nm,ar,()),()) sb) lev) ∧ ((!frmN n ((Rose.node ((op,pos,nm,ar,()),()) sb).subs.getD x.toNat (Rose.node
 (((0:Int),(0:Int),[],[],()),()) [])) (lev + (1:Int))) = false → isI64 (x + (1:Int)) ∧ I (x + (1:Int)) ∧ μ (x + (1:Int)) < μ x)) ∧ (decide (x < (↑(Rose.node ((op,
 pos,nm,ar,()),()) sb).subs.length:Int)) = false → true = frmN (n + (1:Nat)) (Rose.node ((op,pos,nm,ar,()),()) sb) lev))) ∧ ((!decide ((Rose.node ((op,pos,nm,ar,
 ()),()) sb).val.fst.fst = (4:Int))) = false → ∃ (I:Int → Prop),∃ (μ:Int → Nat),I (0:Int) ∧ ∀ (x:Int),I x → (decide (x < (↑(Rose.node ((op,pos,nm,ar,()),())
 sb).subs.length:Int)) = true → ((0:Int) ≤ x ∧ x < (↑(Rose.node ((op,pos,nm,ar,()),()) sb).subs.length:Int)) ∧ isI64 (lev + (1:Int)) ∧ (dep ((Rose.node ((op,pos,nm,
 ar,()),()) sb).subs.getD x.toNat (Rose.node (((0:Int),(0:Int),[],[],()),()) [])) ≤ n ∧ (0:Int) ≤ lev + (1:Int)) ∧ ((!frmN n ((Rose.node ((op,pos,nm,ar,()),())
 sb).subs.getD x.toNat (Rose.node (((0:Int),(0:Int),[],[],()),()) [])) (lev + (1:Int))) = true → false = frmN (n + (1:Nat)) (Rose.node ((op,pos,nm,ar,()),()) sb)
 lev) ∧ ((!frmN n ((Rose.node ((op,pos,nm,ar,()),()) sb).subs.getD x.toNat (Rose.node (((0:Int),(0:Int),[],[],()),()) [])) (lev + (1:Int))) = false → isI64 (x + (1
 : Int)) ∧ I (x + (1:Int)) ∧ μ (x + (1:Int)) < μ x)) ∧ (decide (x < (↑(Rose.node ((op,pos,nm,ar,()),()) sb).subs.length:Int)) = false → true = frmN (n + (1:Nat))
 (Rose.node ((op,pos,nm,ar,()),()) sb) lev))) ∧ ((!decide ((Rose.node ((op,pos,nm,ar,()),()) sb).val.fst.fst = (3:Int))) = false → ∃ (I:Int → Prop),∃ (μ:Int →
 Nat),I (0:Int) ∧ ∀ (x:Int),I x → (decide (x < (↑(Rose.node ((op,pos,nm,ar,()),()) sb).subs.length:Int)) = true → ((0:Int) ≤ x ∧ x < (↑(Rose.node ((op,pos,nm,ar,
 ()),()) sb).subs.length:Int)) ∧ isI64 (lev + (1:Int)) ∧ (dep ((Rose.node ((op,pos,nm,ar,()),()) sb).subs.getD x.toNat (Rose.node (((0:Int),(0:Int),[],[],()),
 ()) [])) ≤ n ∧ (0:Int) ≤ lev + (1:Int)) ∧ ((!frmN n ((Rose.node ((op,pos,nm,ar,()),()) sb).subs.getD x.toNat (Rose.node (((0:Int),(0:Int),[],[],()),()) []))
 (lev + (1:Int))) = true → false = frmN (n + (1:Nat)) (Rose.node ((op,pos,nm,ar,()),()) sb) lev) ∧ ((!frmN n ((Rose.node ((op,pos,nm,ar,()),()) sb).subs.getD x.toNat
 (Rose.node (((0:Int),(0:Int),[],[],()),()) [])) (lev + (1:Int))) = false → isI64 (x + (1:Int)) ∧ I (x + (1:Int)) ∧ μ (x + (1:Int)) < μ x)) ∧ (decide (x <
 (↑(Rose.node ((op,pos,nm,ar,()),()) sb).subs.length:Int)) = false → true = frmN (n + (1:Nat)) (Rose.node ((op,pos,nm,ar,()),()) sb) lev))))) ∧ (decide ((Rose.node
 ((op,pos,nm,ar,()),()) sb).val.fst.fst = (3:Int)) = false → (decide ((Rose.node ((op,pos,nm,ar,()),()) sb).val.fst.fst = (4:Int)) = true → ((!decide ((↑(Rose.node
 ((op,pos,nm,ar,()),()) sb).subs.length:Int) = (1:Int))) = true → false = frmN (n + (1:Nat)) (Rose.node ((op,pos,nm,ar,()),()) sb) lev) ∧ ((!decide ((↑(Rose.node
 ((op,pos,nm,ar,()),()) sb).subs.length:Int) = (1:Int))) = false → ((!decide ((Rose.node ((op,pos,nm,ar,()),()) sb).val.fst.fst = (3:Int))) = true → ((!decide
 ((Rose.node ((op,pos,nm,ar,()),()) sb).val.fst.fst = (4:Int))) = true → ((!decide ((↑(Rose.node ((op,pos,nm,ar,()),()) sb).subs.length:Int) = (0:Int))) = true →
 false = frmN (n + (1:Nat)) (Rose.node ((op,pos,nm,ar,()),()) sb) lev) ∧ ((!decide ((↑(Rose.node ((op,pos,nm,ar,()),()) sb).subs.length:Int) = (0:Int))) = false →
 ∃ (I:Int → Prop),∃ (μ:Int → Nat),I (0:Int) ∧ ∀ (x:Int),I x → (decide (x < (↑(Rose.node ((op,pos,nm,ar,()),()) sb).subs.length:Int)) = true → ((0:Int) ≤ x ∧ x
 < (↑(Rose.node ((op,pos,nm,ar,()),()) sb).subs.length:Int)) ∧ isI64 (lev + (1:Int)) ∧ (dep ((Rose.node ((op,pos,nm,ar,()),()) sb).subs.getD x.toNat (Rose.node (((0
 : Int),(0:Int),[],[],()),()) [])) ≤ n ∧ (0:Int) ≤ lev + (1:Int)) ∧ ((!frmN n ((Rose.node ((op,pos,nm,ar,()),()) sb).subs.getD x.toNat (Rose.node (((0:Int),(0 :
 Int),[],[],()),()) [])) (lev + (1:Int))) = true → false = frmN (n + (1:Nat)) (Rose.node ((op,pos,nm,ar,()),()) sb) lev) ∧ ((!frmN n ((Rose.node ((op,pos,nm,ar,
 ()),()) sb).subs.getD x.toNat (Rose.node (((0:Int),(0:Int),[],[],()),()) [])) (lev + (1:Int))) = false → isI64 (x + (1:Int)) ∧ I (x + (1:Int)) ∧ μ (x + (1:Int))
 < μ x)) ∧ (decide (x < (↑(Rose.node ((op,pos,nm,ar,()),()) sb).subs.length:Int)) = false → true = frmN (n + (1:Nat)) (Rose.node ((op,pos,nm,ar,()),()) sb) lev))) ∧
 ((!decide ((Rose.node ((op,pos,nm,ar,()),()) sb).val.fst.fst = (4:Int))) = false → ∃ (I:Int → Prop),∃ (μ:Int → Nat),I (0:Int) ∧ ∀ (x:Int),I x → (decide (x <
 (↑(Rose.node ((op,pos,nm,ar,()),()) sb).subs.length:Int)) = true → ((0:Int) ≤ x ∧ x < (↑(Rose.node ((op,pos,nm,ar,()),()) sb).subs.length:Int)) ∧ isI64 (lev + (1
 : Int)) ∧ (dep ((Rose.node ((op,pos,nm,ar,()),()) sb).subs.getD x.toNat (Rose.node (((0:Int),(0:Int),[],[],()),()) [])) ≤ n ∧ (0:Int) ≤ lev + (1:Int)) ∧ ((!frmN
 n ((Rose.node ((op,pos,nm,ar,()),()) sb).subs.getD x.toNat (Rose.node (((0:Int),(0:Int),[],[],()),()) [])) (lev + (1:Int))) = true → false = frmN (n + (1:Nat))
 (Rose.node ((op,pos,nm,ar,()),()) sb) lev) ∧ ((!frmN n ((Rose.node ((op,pos,nm,ar,()),()) sb).subs.getD x.toNat (Rose.node (((0:Int),(0:Int),[],[],()),()) []))
 (lev + (1:Int))) = false → isI64 (x + (1:Int)) ∧ I (x + (1:Int)) ∧ μ (x + (1:Int)) < μ x)) ∧ (decide (x < (↑(Rose.node ((op,pos,nm,ar,()),()) sb).subs.length:Int))
 = false → true = frmN (n + (1:Nat)) (Rose.node ((op,pos,nm,ar,()),()) sb) lev))) ∧ ((!decide ((Rose.node ((op,pos,nm,ar,()),()) sb).val.fst.fst = (3:Int))) = false
 → ∃ (I:Int → Prop),∃ (μ:Int → Nat),I (0:Int) ∧ ∀ (x:Int),I x → (decide (x < (↑(Rose.node ((op,pos,nm,ar,()),()) sb).subs.length:Int)) = true → ((0:Int) ≤ x ∧
 x < (↑(Rose.node ((op,pos,nm,ar,()),()) sb).subs.length:Int)) ∧ isI64 (lev + (1:Int)) ∧ (dep ((Rose.node ((op,pos,nm,ar,()),()) sb).subs.getD x.toNat (Rose.node
 (((0:Int),(0:Int),[],[],()),()) [])) ≤ n ∧ (0:Int) ≤ lev + (1:Int)) ∧ ((!frmN n ((Rose.node ((op,pos,nm,ar,()),()) sb).subs.getD x.toNat (Rose.node (((0:Int),
 (0:Int),[],[],()),()) [])) (lev + (1:Int))) = true → false = frmN (n + (1:Nat)) (Rose.node ((op,pos,nm,ar,()),()) sb) lev) ∧ ((!frmN n ((Rose.node ((op,pos,nm,
 ar,()),()) sb).subs.getD x.toNat (Rose.node (((0:Int),(0:Int),[],[],()),()) [])) (lev + (1:Int))) = false → isI64 (x + (1:Int)) ∧ I (x + (1:Int)) ∧ μ (x + (1 :
 Int)) < μ x)) ∧ (decide (x < (↑(Rose.node ((op,pos,nm,ar,()),()) sb).subs.length:Int)) = false → true = frmN (n + (1:Nat)) (Rose.node ((op,pos,nm,ar,()),()) sb)
 lev)))) ∧ (decide ((Rose.node ((op,pos,nm,ar,()),()) sb).val.fst.fst = (4:Int)) = false → ((!decide ((Rose.node ((op,pos,nm,ar,()),()) sb).val.fst.fst = (3:Int))) =
 true → ((!decide ((Rose.node ((op,pos,nm,ar,()),()) sb).val.fst.fst = (4:Int))) = true → ((!decide ((↑(Rose.node ((op,pos,nm,ar,()),()) sb).subs.length:Int) = (0 :
 Int))) = true → false = frmN (n + (1:Nat)) (Rose.node ((op,pos,nm,ar,()),()) sb) lev) ∧ ((!decide ((↑(Rose.node ((op,pos,nm,ar,()),()) sb).subs.length:Int) = (0 :
 Int))) = false → ∃ (I:Int → Prop),∃ (μ:Int → Nat),I (0:Int) ∧ ∀ (x:Int),I x → (decide (x < (↑(Rose.node ((op,pos,nm,ar,()),()) sb).subs.length:Int)) = true →
 ((0:Int) ≤ x ∧ x < (↑(Rose.node ((op,pos,nm,ar,()),()) sb).subs.length:Int)) ∧ isI64 (lev + (1:Int)) ∧ (dep ((Rose.node ((op,pos,nm,ar,()),()) sb).subs.getD
 x.toNat (Rose.node (((0:Int),(0:Int),[],[],()),()) [])) ≤ n ∧ (0:Int) ≤ lev + (1:Int)) ∧ ((!frmN n ((Rose.node ((op,pos,nm,ar,()),()) sb).subs.getD x.toNat
 (Rose.node (((0:Int),(0:Int),[],[],()),()) [])) (lev + (1:Int))) = true → false = frmN (n + (1:Nat)) (Rose.node ((op,pos,nm,ar,()),()) sb) lev) ∧ ((!frmN n
 ((Rose.node ((op,pos,nm,ar,()),()) sb).subs.getD x.toNat (Rose.node (((0:Int),(0:Int),[],[],()),()) [])) (lev + (1:Int))) = false → isI64 (x + (1:Int)) ∧ I (x +
 (1:Int)) ∧ μ (x + (1:Int)) < μ x)) ∧ (decide (x < (↑(Rose.node ((op,pos,nm,ar,()),()) sb).subs.length:Int)) = false → true = frmN (n + (1:Nat)) (Rose.node ((op,pos,
 nm,ar,()),()) sb) lev))) ∧ ((!decide ((Rose.node ((op,pos,nm,ar,()),()) sb).val.fst.fst = (4:Int))) = false → ∃ (I:Int → Prop),∃ (μ:Int → Nat),I (0:Int) ∧ ∀ (x
 : Int),I x → (decide (x < (↑(Rose.node ((op,pos,nm,ar,()),()) sb).subs.length:Int)) = true → ((0:Int) ≤ x ∧ x < (↑(Rose.node ((op,pos,nm,ar,()),()) sb).subs.length
 : Int)) ∧ isI64 (lev + (1:Int)) ∧ (dep ((Rose.node ((op,pos,nm,ar,()),()) sb).subs.getD x.toNat (Rose.node (((0:Int),(0:Int),[],[],()),()) [])) ≤ n ∧ (0:Int) ≤
 lev + (1:Int)) ∧ ((!frmN n ((Rose.node ((op,pos,nm,ar,()),()) sb).subs.getD x.toNat (Rose.node (((0:Int),(0:Int),[],[],()),()) [])) (lev + (1:Int))) = true →
 false = frmN (n + (1:Nat)) (Rose.node ((op,pos,nm,ar,()),()) sb) lev) ∧ ((!frmN n ((Rose.node ((op,pos,nm,ar,()),()) sb).subs.getD x.toNat (Rose.node (((0:Int),(0
 : Int),[],[],()),()) [])) (lev + (1:Int))) = false → isI64 (x + (1:Int)) ∧ I (x + (1:Int)) ∧ μ (x + (1:Int)) < μ x)) ∧ (decide (x < (↑(Rose.node ((op,pos,nm,ar,
 ()),()) sb).subs.length:Int)) = false → true = frmN (n + (1:Nat)) (Rose.node ((op,pos,nm,ar,()),()) sb) lev))) ∧ ((!decide ((Rose.node ((op,pos,nm,ar,()),())
 sb).val.fst.fst = (3:Int))) = false → ∃ (I:Int → Prop),∃ (μ:Int → Nat),I (0:Int) ∧ ∀ (x:Int),I x → (decide (x < (↑(Rose.node ((op,pos,nm,ar,()),())
 sb).subs.length:Int)) = true → ((0:Int) ≤ x ∧ x < (↑(Rose.node ((op,pos,nm,ar,()),()) sb).subs.length:Int)) ∧ isI64 (lev + (1:Int)) ∧ (dep ((Rose.node ((op,pos,nm,
 ar,()),()) sb).subs.getD x.toNat (Rose.node (((0:Int),(0:Int),[],[],()),()) [])) ≤ n ∧ (0:Int) ≤ lev + (1:Int)) ∧ ((!frmN n ((Rose.node ((op,pos,nm,ar,()),())
 sb).subs.getD x.toNat (Rose.node (((0:Int),(0:Int),[],[],()),()) [])) (lev + (1:Int))) = true → false = frmN (n + (1:Nat)) (Rose.node ((op,pos,nm,ar,()),()) sb)
 lev) ∧ ((!frmN n ((Rose.node ((op,pos,nm,ar,()),()) sb).subs.getD x.toNat (Rose.node (((0:Int),(0:Int),[],[],()),()) [])) (lev + (1:Int))) = false → isI64 (x + (1
 : Int)) ∧ I (x + (1:Int)) ∧ μ (x + (1:Int)) < μ x)) ∧ (decide (x < (↑(Rose.node ((op,pos,nm,ar,()),()) sb).subs.length:Int)) = false → true = frmN (n + (1:Nat))
 (Rose.node ((op,pos,nm,ar,()),()) sb) lev)))))))) ∧ (decide ((Rose.node ((op,pos,nm,ar,()),()) sb).val.fst.fst < (5:Int)) = false → (decide ((5:Int) ≤ (Rose.node
 ((op,pos,nm,ar,()),()) sb).val.fst.fst) = true → True ∧ ((!possB (Rose.node ((op,pos,nm,ar,()),()) sb).val.fst.snd.snd.fst) = true → false = frmN (n + (1:Nat))
 (Rose.node ((op,pos,nm,ar,()),()) sb) lev) ∧ ((!possB (Rose.node ((op,pos,nm,ar,()),()) sb).val.fst.snd.snd.fst) = false → (decide ((Rose.node ((op,pos,nm,ar,()),
 ()) sb).val.fst.fst = (2:Int)) = true → (decide ((↑(Rose.node ((op,pos,nm,ar,()),()) sb).subs.length:Int) < (2:Int)) = true → false = frmN (n + (1:Nat)) (Rose.node
 ((op,pos,nm,ar,()),()) sb) lev) ∧ (decide ((↑(Rose.node ((op,pos,nm,ar,()),()) sb).subs.length:Int) < (2:Int)) = false → (decide ((Rose.node ((op,pos,nm,ar,()),
 ()) sb).val.fst.fst = (4:Int)) = true → ((!decide ((↑(Rose.node ((op,pos,nm,ar,()),()) sb).subs.length:Int) = (1:Int))) = true → false = frmN (n + (1:Nat))
 (Rose.node ((op,pos,nm,ar,()),()) sb) lev) ∧ ((!decide ((↑(Rose.node ((op,pos,nm,ar,()),()) sb).subs.length:Int) = (1:Int))) = false → ∃ (I:Int → Prop),∃ (μ :
 Int → Nat),I (0:Int) ∧ ∀ (x:Int),I x → (decide (x < (↑(Rose.node ((op,pos,nm,ar,()),()) sb).subs.length:Int)) = true → ((0:Int) ≤ x ∧ x < (↑(Rose.node ((op,pos,
 nm,ar,()),()) sb).subs.length:Int)) ∧ isI64 (lev + (1:Int)) ∧ (dep ((Rose.node ((op,pos,nm,ar,()),()) sb).subs.getD x.toNat (Rose.node (((0:Int),(0:Int),[],[],
 ()),()) [])) ≤ n ∧ (0:Int) ≤ lev + (1:Int)) ∧ ((!frmN n ((Rose.node ((op,pos,nm,ar,()),()) sb).subs.getD x.toNat (Rose.node (((0:Int),(0:Int),[],[],()),())
 [])) (lev + (1:Int))) = true → false = frmN (n + (1:Nat)) (Rose.node ((op,pos,nm,ar,()),()) sb) lev) ∧ ((!frmN n ((Rose.node ((op,pos,nm,ar,()),()) sb).subs.getD
 x.toNat (Rose.node (((0:Int),(0:Int),[],[],()),()) [])) (lev + (1:Int))) = false → isI64 (x + (1:Int)) ∧ I (x + (1:Int)) ∧ μ (x + (1:Int)) < μ x)) ∧ (decide (x <
 (↑(Rose.node ((op,pos,nm,ar,()),()) sb).subs.length:Int)) = false → true = frmN (n + (1:Nat)) (Rose.node ((op,pos,nm,ar,()),()) sb) lev))) ∧ (decide ((Rose.node
 ((op,pos,nm,ar,()),()) sb).val.fst.fst = (4:Int)) = false → ∃ (I:Int → Prop),∃ (μ:Int → Nat),I (0:Int) ∧ ∀ (x:Int),I x → (decide (x < (↑(Rose.node ((op,pos,
 nm,ar,()),()) sb).subs.length:Int)) = true → ((0:Int) ≤ x ∧ x < (↑(Rose.node ((op,pos,nm,ar,()),()) sb).subs.length:Int)) ∧ isI64 (lev + (1:Int)) ∧ (dep
 ((Rose.node ((op,pos,nm,ar,()),()) sb).subs.getD x.toNat (Rose.node (((0:Int),(0:Int),[],[],()),()) [])) ≤ n ∧ (0:Int) ≤ lev + (1:Int)) ∧ ((!frmN n ((Rose.node
 ((op,pos,nm,ar,()),()) sb).subs.getD x.toNat (Rose.node (((0:Int),(0:Int),[],[],()),()) [])) (lev + (1:Int))) = true → false = frmN (n + (1:Nat)) (Rose.node
 ((op,pos,nm,ar,()),()) sb) lev) ∧ ((!frmN n ((Rose.node ((op,pos,nm,ar,()),()) sb).subs.getD x.toNat (Rose.node (((0:Int),(0:Int),[],[],()),()) [])) (lev + (1
 : Int))) = false → isI64 (x + (1:Int)) ∧ I (x + (1:Int)) ∧ μ (x + (1:Int)) < μ x)) ∧ (decide (x < (↑(Rose.node ((op,pos,nm,ar,()),()) sb).subs.length:Int)) = false →
 true = frmN (n + (1:Nat)) (Rose.node ((op,pos,nm,ar,()),()) sb) lev)))) ∧ (decide ((Rose.node ((op,pos,nm,ar,()),()) sb).val.fst.fst = (2:Int)) = false → (decide
 ((Rose.node ((op,pos,nm,ar,()),()) sb).val.fst.fst = (3:Int)) = true → (decide ((↑(Rose.node ((op,pos,nm,ar,()),()) sb).subs.length:Int) < (2:Int)) = true → false
 = frmN (n + (1:Nat)) (Rose.node ((op,pos,nm,ar,()),()) sb) lev) ∧ (decide ((↑(Rose.node ((op,pos,nm,ar,()),()) sb).subs.length:Int) < (2:Int)) = false → (decide
 ((Rose.node ((op,pos,nm,ar,()),()) sb).val.fst.fst = (4:Int)) = true → ((!decide ((↑(Rose.node ((op,pos,nm,ar,()),()) sb).subs.length:Int) = (1:Int))) = true →
 false = frmN (n + (1:Nat)) (Rose.node ((op,pos,nm,ar,()),()) sb) lev) ∧ ((!decide ((↑(Rose.node ((op,pos,nm,ar,()),()) sb).subs.length:Int) = (1:Int))) = false →
 ((!decide ((Rose.node ((op,pos,nm,ar,()),()) sb).val.fst.fst = (3:Int))) = true → ((!decide ((Rose.node ((op,pos,nm,ar,()),()) sb).val.fst.fst = (4:Int))) = true →
 ((!decide ((↑(Rose.node ((op,pos,nm,ar,()),()) sb).subs.length:Int) = (0:Int))) = true → false = frmN (n + (1:Nat)) (Rose.node ((op,pos,nm,ar,()),()) sb) lev) ∧
 ((!decide ((↑(Rose.node ((op,pos,nm,ar,()),()) sb).subs.length:Int) = (0:Int))) = false → ∃ (I:Int → Prop),∃ (μ:Int → Nat),I (0:Int) ∧ ∀ (x:Int),I x → (decide
 (x < (↑(Rose.node ((op,pos,nm,ar,()),()) sb).subs.length:Int)) = true → ((0:Int) ≤ x ∧ x < (↑(Rose.node ((op,pos,nm,ar,()),()) sb).subs.length:Int)) ∧ isI64 (lev
 + (1:Int)) ∧ (dep ((Rose.node ((op,pos,nm,ar,()),()) sb).subs.getD x.toNat (Rose.node (((0:Int),(0:Int),[],[],()),()) [])) ≤ n ∧ (0:Int) ≤ lev + (1:Int)) ∧
 ((!frmN n ((Rose.node ((op,pos,nm,ar,()),()) sb).subs.getD x.toNat (Rose.node (((0:Int),(0:Int),[],[],()),()) [])) (lev + (1:Int))) = true → false = frmN (n + (1
 : Nat)) (Rose.node ((op,pos,nm,ar,()),()) sb) lev) ∧ ((!frmN n ((Rose.node ((op,pos,nm,ar,()),()) sb).subs.getD x.toNat (Rose.node (((0:Int),(0:Int),[],[],()),
 ()) [])) (lev + (1:Int))) = false → isI64 (x + (1:Int)) ∧ I (x + (1:Int)) ∧ μ (x + (1:Int)) < μ x)) ∧ (decide (x < (↑(Rose.node ((op,pos,nm,ar,()),())
 sb).subs.length:Int)) = false → true = frmN (n + (1:Nat)) (Rose.node ((op,pos,nm,ar,()),()) sb) lev))) ∧ ((!decide ((Rose.node ((op,pos,nm,ar,()),())
 sb).val.fst.fst = (4:Int))) = false → ∃ (I:Int → Prop),∃ (μ:Int → Nat),I (0:Int) ∧ ∀ (x:Int),I x → (decide (x < (↑(Rose.node ((op,pos,nm,ar,()),())
 sb).subs.length:Int)) = true → ((0:Int) ≤ x ∧ x < (↑(Rose.node ((op,pos,nm,ar,()),()) sb).subs.length:Int)) ∧ isI64 (lev + (1:Int)) ∧ (dep ((Rose.node ((op,pos,nm,
 ar,()),()) sb).subs.getD x.toNat (Rose.node (((0:Int),(0:Int),[],[],()),()) [])) ≤ n ∧ (0:Int) ≤ lev + (1:Int)) ∧ ((!frmN n ((Rose.node ((op,pos,nm,ar,()),())
 sb).subs.getD x.toNat (Rose.node (((0:Int),(0:Int),[],[],()),()) [])) (lev + (1:Int))) = true → false = frmN (n + (1:Nat)) (Rose.node ((op,pos,nm,ar,()),()) sb)
 lev) ∧ ((!frmN n ((Rose.node ((op,pos,nm,ar,()),()) sb).subs.getD x.toNat (Rose.node (((0:Int),(0:Int),[],[],()),()) [])) (lev + (1:Int))) = false → isI64 (x + (1
 : Int)) ∧ I (x + (1:Int)) ∧ μ (x + (1:Int)) < μ x)) ∧ (decide (x < (↑(Rose.node ((op,pos,nm,ar,()),()) sb).subs.length:Int)) = false → true = frmN (n + (1:Nat))
 (Rose.node ((op,pos,nm,ar,()),()) sb) lev))) ∧ ((!decide ((Rose.node ((op,pos,nm,ar,()),()) sb).val.fst.fst = (3:Int))) = false → ∃ (I:Int → Prop),∃ (μ:Int →
 Nat),I (0:Int) ∧ ∀ (x:Int),I x → (decide (x < (↑(Rose.node ((op,pos,nm,ar,()),()) sb).subs.length:Int)) = true → ((0:Int) ≤ x ∧ x < (↑(Rose.node ((op,pos,nm,ar,
 ()),()) sb).subs.length:Int)) ∧ isI64 (lev + (1:Int)) ∧ (dep ((Rose.node ((op,pos,nm,ar,()),()) sb).subs.getD x.toNat (Rose.node (((0:Int),(0:Int),[],[],()),
 ()) [])) ≤ n ∧ (0:Int) ≤ lev + (1:Int)) ∧ ((!frmN n ((Rose.node ((op,pos,nm,ar,()),()) sb).subs.getD x.toNat (Rose.node (((0:Int),(0:Int),[],[],()),()) []))
 (lev + (1:Int))) = true → false = frmN (n + (1:Nat)) (Rose.node ((op,pos,nm,ar,()),()) sb) lev) ∧ ((!frmN n ((Rose.node ((op,pos,nm,ar,()),()) sb).subs.getD x.toNat
 (Rose.node (((0:Int),(0:Int),[],[],()),()) [])) (lev + (1:Int))) = false → isI64 (x + (1:Int)) ∧ I (x + (1:Int)) ∧ μ (x + (1:Int)) < μ x)) ∧ (decide (x <
 (↑(Rose.node ((op,pos,nm,ar,()),()) sb).subs.length:Int)) = false → true = frmN (n + (1:Nat)) (Rose.node ((op,pos,nm,ar,()),()) sb) lev)))) ∧ (decide ((Rose.node
 ((op,pos,nm,ar,()),()) sb).val.fst.fst = (4:Int)) = false → ((!decide ((Rose.node ((op,pos,nm,ar,()),()) sb).val.fst.fst = (3:Int))) = true → ((!decide ((Rose.node
 ((op,pos,nm,ar,()),()) sb).val.fst.fst = (4:Int))) = true → ((!decide ((↑(Rose.node ((op,pos,nm,ar,()),()) sb).subs.length:Int) = (0:Int))) = true → false = frmN
 (n + (1:Nat)) (Rose.node ((op,pos,nm,ar,()),()) sb) lev) ∧ ((!decide ((↑(Rose.node ((op,pos,nm,ar,()),()) sb).subs.length:Int) = (0:Int))) = false → ∃ (I:Int →
 Prop),∃ (μ:Int → Nat),I (0:Int) ∧ ∀ (x:Int),I x → (decide (x < (↑(Rose.node ((op,pos,nm,ar,()),()) sb).subs.length:Int)) = true → ((0:Int) ≤ x ∧ x <
 (↑(Rose.node ((op,pos,nm,ar,()),()) sb).subs.length:Int)) ∧ isI64 (lev + (1:Int)) ∧ (dep ((Rose.node ((op,pos,nm,ar,()),()) sb).subs.getD x.toNat (Rose.node (((0 :
 Int),(0:Int),[],[],()),()) [])) ≤ n ∧ (0:Int) ≤ lev + (1:Int)) ∧ ((!frmN n ((Rose.node ((op,pos,nm,ar,()),()) sb).subs.getD x.toNat (Rose.node (((0:Int),(0 :
 Int),[],[],()),()) [])) (lev + (1:Int))) = true → false = frmN (n + (1:Nat)) (Rose.node ((op,pos,nm,ar,()),()) sb) lev) ∧ ((!frmN n ((Rose.node ((op,pos,nm,ar,
 ()),()) sb).subs.getD x.toNat (Rose.node (((0:Int),(0:Int),[],[],()),()) [])) (lev + (1:Int))) = false → isI64 (x + (1:Int)) ∧ I (x + (1:Int)) ∧ μ (x + (1:Int))
 < μ x)) ∧ (decide (x < (↑(Rose.node ((op,pos,nm,ar,()),()) sb).subs.length:Int)) = false → true = frmN (n + (1:Nat)) (Rose.node ((op,pos,nm,ar,()),()) sb) lev))) ∧
 ((!decide ((Rose.node ((op,pos,nm,ar,()),()) sb).val.fst.fst = (4:Int))) = false → ∃ (I:Int → Prop),∃ (μ:Int → Nat),I (0:Int) ∧ ∀ (x:Int),I x → (decide (x <
 (↑(Rose.node ((op,pos,nm,ar,()),()) sb).subs.length:Int)) = true → ((0:Int) ≤ x ∧ x < (↑(Rose.node ((op,pos,nm,ar,()),()) sb).subs.length:Int)) ∧ isI64 (lev + (1
 : Int)) ∧ (dep ((Rose.node ((op,pos,nm,ar,()),()) sb).subs.getD x.toNat (Rose.node (((0:Int),(0:Int),[],[],()),()) [])) ≤ n ∧ (0:Int) ≤ lev + (1:Int)) ∧ ((!frmN
 n ((Rose.node ((op,pos,nm,ar,()),()) sb).subs.getD x.toNat (Rose.node (((0:Int),(0:Int),[],[],()),()) [])) (lev + (1:Int))) = true → false = frmN (n + (1:Nat))
 (Rose.node ((op,pos,nm,ar,()),()) sb) lev) ∧ ((!frmN n ((Rose.node ((op,pos,nm,ar,()),()) sb).subs.getD x.toNat (Rose.node (((0:Int),(0:Int),[],[],()),()) []))
 (lev + (1:Int))) = false → isI64 (x + (1:Int)) ∧ I (x + (1:Int)) ∧ μ (x + (1:Int)) < μ x)) ∧ (decide (x < (↑(Rose.node ((op,pos,nm,ar,()),()) sb).subs.length:Int))
 = false → true = frmN (n + (1:Nat)) (Rose.node ((op,pos,nm,ar,()),()) sb) lev))) ∧ ((!decide ((Rose.node ((op,pos,nm,ar,()),()) sb).val.fst.fst = (3:Int))) = false
 → ∃ (I:Int → Prop),∃ (μ:Int → Nat),I (0:Int) ∧ ∀ (x:Int),I x → (decide (x < (↑(Rose.node ((op,pos,nm,ar,()),()) sb).subs.length:Int)) = true → ((0:Int) ≤ x ∧
 x < (↑(Rose.node ((op,pos,nm,ar,()),()) sb).subs.length:Int)) ∧ isI64 (lev + (1:Int)) ∧ (dep ((Rose.node ((op,pos,nm,ar,()),()) sb).subs.getD x.toNat (Rose.node
 (((0:Int),(0:Int),[],[],()),()) [])) ≤ n ∧ (0:Int) ≤ lev + (1:Int)) ∧ ((!frmN n ((Rose.node ((op,pos,nm,ar,()),()) sb).subs.getD x.toNat (Rose.node (((0:Int),
 (0:Int),[],[],()),()) [])) (lev + (1:Int))) = true → false = frmN (n + (1:Nat)) (Rose.node ((op,pos,nm,ar,()),()) sb) lev) ∧ ((!frmN n ((Rose.node ((op,pos,nm,
 ar,()),()) sb).subs.getD x.toNat (Rose.node (((0:Int),(0:Int),[],[],()),()) [])) (lev + (1:Int))) = false → isI64 (x + (1:Int)) ∧ I (x + (1:Int)) ∧ μ (x + (1 :
 Int)) < μ x)) ∧ (decide (x < (↑(Rose.node ((op,pos,nm,ar,()),()) sb).subs.length:Int)) = false → true = frmN (n + (1:Nat)) (Rose.node ((op,pos,nm,ar,()),()) sb)
 lev))))) ∧ (decide ((Rose.node ((op,pos,nm,ar,()),()) sb).val.fst.fst = (3:Int)) = false → (decide ((Rose.node ((op,pos,nm,ar,()),()) sb).val.fst.fst = (4:Int)) =
 true → ((!decide ((↑(Rose.node ((op,pos,nm,ar,()),()) sb).subs.length:Int) = (1:Int))) = true → false = frmN (n + (1:Nat)) (Rose.node ((op,pos,nm,ar,()),()) sb)
 lev) ∧ ((!decide ((↑(Rose.node ((op,pos,nm,ar,()),()) sb).subs.length:Int) = (1:Int))) = false → ((!decide ((Rose.node ((op,pos,nm,ar,()),()) sb).val.fst.fst = (3 :
 Int))) = true → ((!decide ((Rose.node ((op,pos,nm,ar,()),()) sb).val.fst.fst = (4:Int))) = true → ((!decide ((↑(Rose.node ((op,pos,nm,ar,()),()) sb).subs.length :
 Int) = (0:Int))) = true → false = frmN (n + (1:Nat)) (Rose.node ((op,pos,nm,ar,()),()) sb) lev) ∧ ((!decide ((↑(Rose.node ((op,pos,nm,ar,()),()) sb).subs.length :
 Int) = (0:Int))) = false → ∃ (I:Int → Prop),∃ (μ:Int → Nat),I (0:Int) ∧ ∀ (x:Int),I x → (decide (x < (↑(Rose.node ((op,pos,nm,ar,()),()) sb).subs.length:Int))
 = true → ((0:Int) ≤ x ∧ x < (↑(Rose.node ((op,pos,nm,ar,()),()) sb).subs.length:Int)) ∧ isI64 (lev + (1:Int)) ∧ (dep ((Rose.node ((op,pos,nm,ar,()),())
 sb).subs.getD x.toNat (Rose.node (((0:Int),(0:Int),[],[],()),()) [])) ≤ n ∧ (0:Int) ≤ lev + (1:Int)) ∧ ((!frmN n ((Rose.node ((op,pos,nm,ar,()),())
 sb).subs.getD x.toNat (Rose.node (((0:Int),(0:Int),[],[],()),()) [])) (lev + (1:Int))) = true → false = frmN (n + (1:Nat)) (Rose.node ((op,pos,nm,ar,()),()) sb)
 lev) ∧ ((!frmN n ((Rose.node ((op,pos,nm,ar,()),()) sb).subs.getD x.toNat (Rose.node (((0:Int),(0:Int),[],[],()),()) [])) (lev + (1:Int))) = false → isI64 (x + (1
 : Int)) ∧ I (x + (1:Int)) ∧ μ (x + (1:Int)) < μ x)) ∧ (decide (x < (↑(Rose.node ((op,pos,nm,ar,()),()) sb).subs.length:Int)) = false → true = frmN (n + (1:Nat))
 (Rose.node ((op,pos,nm,ar,()),()) sb) lev))) ∧ ((!decide ((Rose.node ((op,pos,nm,ar,()),()) sb).val.fst.fst = (4:Int))) = false → ∃ (I:Int → Prop),∃ (μ:Int →
 Nat),I (0:Int) ∧ ∀ (x:Int),I x → (decide (x < (↑(Rose.node ((op,pos,nm,ar,()),()) sb).subs.length:Int)) = true → ((0:Int) ≤ x ∧ x < (↑(Rose.node ((op,pos,nm,ar,
 ()),()) sb).subs.length:Int)) ∧ isI64 (lev + (1:Int)) ∧ (dep ((Rose.node ((op,pos,nm,ar,()),()) sb).subs.getD x.toNat (Rose.node (((0:Int),(0:Int),[],[],()),
 ()) [])) ≤ n ∧ (0:Int) ≤ lev + (1:Int)) ∧ ((!frmN n ((Rose.node ((op,pos,nm,ar,()),()) sb).subs.getD x.toNat (Rose.node (((0:Int),(0:Int),[],[],()),()) []))
 (lev + (1:Int))) = true → false = frmN (n + (1:Nat)) (Rose.node ((op,pos,nm,ar,()),()) sb) lev) ∧ ((!frmN n ((Rose.node ((op,pos,nm,ar,()),()) sb).subs.getD x.toNat
 (Rose.node (((0:Int),(0:Int),[],[],()),()) [])) (lev + (1:Int))) = false → isI64 (x + (1:Int)) ∧ I (x + (1:Int)) ∧ μ (x + (1:Int)) < μ x)) ∧ (decide (x <
 (↑(Rose.node ((op,pos,nm,ar,()),()) sb).subs.length:Int)) = false → true = frmN (n + (1:Nat)) (Rose.node ((op,pos,nm,ar,()),()) sb) lev))) ∧ ((!decide ((Rose.node
 ((op,pos,nm,ar,()),()) sb).val.fst.fst = (3:Int))) = false → ∃ (I:Int → Prop),∃ (μ:Int → Nat),I (0:Int) ∧ ∀ (x:Int),I x → (decide (x < (↑(Rose.node ((op,pos,
 nm,ar,()),()) sb).subs.length:Int)) = true → ((0:Int) ≤ x ∧ x < (↑(Rose.node ((op,pos,nm,ar,()),()) sb).subs.length:Int)) ∧ isI64 (lev + (1:Int)) ∧ (dep
 ((Rose.node ((op,pos,nm,ar,()),()) sb).subs.getD x.toNat (Rose.node (((0:Int),(0:Int),[],[],()),()) [])) ≤ n ∧ (0:Int) ≤ lev + (1:Int)) ∧ ((!frmN n ((Rose.node
 ((op,pos,nm,ar,()),()) sb).subs.getD x.toNat (Rose.node (((0:Int),(0:Int),[],[],()),()) [])) (lev + (1:Int))) = true → false = frmN (n + (1:Nat)) (Rose.node
 ((op,pos,nm,ar,()),()) sb) lev) ∧ ((!frmN n ((Rose.node ((op,pos,nm,ar,()),()) sb).subs.getD x.toNat (Rose.node (((0:Int),(0:Int),[],[],()),()) [])) (lev + (1
 : Int))) = false → isI64 (x + (1:Int)) ∧ I (x + (1:Int)) ∧ μ (x + (1:Int)) < μ x)) ∧ (decide (x < (↑(Rose.node ((op,pos,nm,ar,()),()) sb).subs.length:Int)) = false →
 true = frmN (n + (1:Nat)) (Rose.node ((op,pos,nm,ar,()),()) sb) lev)))) ∧ (decide ((Rose.node ((op,pos,nm,ar,()),()) sb).val.fst.fst = (4:Int)) = false → ((!decide
 ((Rose.node ((op,pos,nm,ar,()),()) sb).val.fst.fst = (3:Int))) = true → ((!decide ((Rose.node ((op,pos,nm,ar,()),()) sb).val.fst.fst = (4:Int))) = true → ((!decide
 ((↑(Rose.node ((op,pos,nm,ar,()),()) sb).subs.length:Int) = (0:Int))) = true → false = frmN (n + (1:Nat)) (Rose.node ((op,pos,nm,ar,()),()) sb) lev) ∧ ((!decide
 ((↑(Rose.node ((op,pos,nm,ar,()),()) sb).subs.length:Int) = (0:Int))) = false → ∃ (I:Int → Prop),∃ (μ:Int → Nat),I (0:Int) ∧ ∀ (x:Int),I x → (decide (x <
 (↑(Rose.node ((op,pos,nm,ar,()),()) sb).subs.length:Int)) = true → ((0:Int) ≤ x ∧ x < (↑(Rose.node ((op,pos,nm,ar,()),()) sb).subs.length:Int)) ∧ isI64 (lev + (1
 : Int)) ∧ (dep ((Rose.node ((op,pos,nm,ar,()),()) sb).subs.getD x.toNat (Rose.node (((0:Int),(0:Int),[],[],()),()) [])) ≤ n ∧ (0:Int) ≤ lev + (1:Int)) ∧ ((!frmN
 n ((Rose.node ((op,pos,nm,ar,()),()) sb).subs.getD x.toNat (Rose.node (((0:Int),(0:Int),[],[],()),()) [])) (lev + (1:Int))) = true → false = frmN (n + (1:Nat))
 (Rose.node ((op,pos,nm,ar,()),()) sb) lev) ∧ ((!frmN n ((Rose.node ((op,pos,nm,ar,()),()) sb).subs.getD x.toNat (Rose.node (((0:Int),(0:Int),[],[],()),()) []))
 (lev + (1:Int))) = false → isI64 (x + (1:Int)) ∧ I (x + (1:Int)) ∧ μ (x + (1:Int)) < μ x)) ∧ (decide (x < (↑(Rose.node ((op,pos,nm,ar,()),()) sb).subs.length:Int))
 = false → true = frmN (n + (1:Nat)) (Rose.node ((op,pos,nm,ar,()),()) sb) lev))) ∧ ((!decide ((Rose.node ((op,pos,nm,ar,()),()) sb).val.fst.fst = (4:Int))) = false
 → ∃ (I:Int → Prop),∃ (μ:Int → Nat),I (0:Int) ∧ ∀ (x:Int),I x → (decide (x < (↑(Rose.node ((op,pos,nm,ar,()),()) sb).subs.length:Int)) = true → ((0:Int) ≤ x ∧
 x < (↑(Rose.node ((op,pos,nm,ar,()),()) sb).subs.length:Int)) ∧ isI64 (lev + (1:Int)) ∧ (dep ((Rose.node ((op,pos,nm,ar,()),()) sb).subs.getD x.toNat (Rose.node
 (((0:Int),(0:Int),[],[],()),()) [])) ≤ n ∧ (0:Int) ≤ lev + (1:Int)) ∧ ((!frmN n ((Rose.node ((op,pos,nm,ar,()),()) sb).subs.getD x.toNat (Rose.node (((0:Int),
 (0:Int),[],[],()),()) [])) (lev + (1:Int))) = true → false = frmN (n + (1:Nat)) (Rose.node ((op,pos,nm,ar,()),()) sb) lev) ∧ ((!frmN n ((Rose.node ((op,pos,nm,
 ar,()),()) sb).subs.getD x.toNat (Rose.node (((0:Int),(0:Int),[],[],()),()) [])) (lev + (1:Int))) = false → isI64 (x + (1:Int)) ∧ I (x + (1:Int)) ∧ μ (x + (1 :
 Int)) < μ x)) ∧ (decide (x < (↑(Rose.node ((op,pos,nm,ar,()),()) sb).subs.length:Int)) = false → true = frmN (n + (1:Nat)) (Rose.node ((op,pos,nm,ar,()),()) sb)
 lev))) ∧ ((!decide ((Rose.node ((op,pos,nm,ar,()),()) sb).val.fst.fst = (3:Int))) = false → ∃ (I:Int → Prop),∃ (μ:Int → Nat),I (0:Int) ∧ ∀ (x:Int),I x → (decide
 (x < (↑(Rose.node ((op,pos,nm,ar,()),()) sb).subs.length:Int)) = true → ((0:Int) ≤ x ∧ x < (↑(Rose.node ((op,pos,nm,ar,()),()) sb).subs.length:Int)) ∧ isI64 (lev
 + (1:Int)) ∧ (dep ((Rose.node ((op,pos,nm,ar,()),()) sb).subs.getD x.toNat (Rose.node (((0:Int),(0:Int),[],[],()),()) [])) ≤ n ∧ (0:Int) ≤ lev + (1:Int)) ∧
 ((!frmN n ((Rose.node ((op,pos,nm,ar,()),()) sb).subs.getD x.toNat (Rose.node (((0:Int),(0:Int),[],[],()),()) [])) (lev + (1:Int))) = true → false = frmN (n + (1
 : Nat)) (Rose.node ((op,pos,nm,ar,()),()) sb) lev) ∧ ((!frmN n ((Rose.node ((op,pos,nm,ar,()),()) sb).subs.getD x.toNat (Rose.node (((0:Int),(0:Int),[],[],()),
 ()) [])) (lev + (1:Int))) = false → isI64 (x + (1:Int)) ∧ I (x + (1:Int)) ∧ μ (x + (1:Int)) < μ x)) ∧ (decide (x < (↑(Rose.node ((op,pos,nm,ar,()),())
 sb).subs.length:Int)) = false → true = frmN (n + (1:Nat)) (Rose.node ((op,pos,nm,ar,()),()) sb) lev))))))) ∧ (decide ((5:Int) ≤ (Rose.node ((op,pos,nm,ar,()),())
 sb).val.fst.fst) = false → (decide ((Rose.node ((op,pos,nm,ar,()),()) sb).val.fst.fst = (2:Int)) = true → (decide ((↑(Rose.node ((op,pos,nm,ar,()),()) sb).subs.length
 : Int) < (2:Int)) = true → false = frmN (n + (1:Nat)) (Rose.node ((op,pos,nm,ar,()),()) sb) lev) ∧ (decide ((↑(Rose.node ((op,pos,nm,ar,()),()) sb).subs.length :
 Int) < (2:Int)) = false → (decide ((Rose.node ((op,pos,nm,ar,()),()) sb).val.fst.fst = (4:Int)) = true → ((!decide ((↑(Rose.node ((op,pos,nm,ar,()),())
 sb).subs.length:Int) = (1:Int))) = true → false = frmN (n + (1:Nat)) (Rose.node ((op,pos,nm,ar,()),()) sb) lev) ∧ ((!decide ((↑(Rose.node ((op,pos,nm,ar,()),())
 sb).subs.length:Int) = (1:Int))) = false → ∃ (I:Int → Prop),∃ (μ:Int → Nat),I (0:Int) ∧ ∀ (x:Int),I x → (decide (x < (↑(Rose.node ((op,pos,nm,ar,()),())
 sb).subs.length:Int)) = true → ((0:Int) ≤ x ∧ x < (↑(Rose.node ((op,pos,nm,ar,()),()) sb).subs.length:Int)) ∧ isI64 (lev + (1:Int)) ∧ (dep ((Rose.node ((op,pos,nm,
 ar,()),()) sb).subs.getD x.toNat (Rose.node (((0:Int),(0:Int),[],[],()),()) [])) ≤ n ∧ (0:Int) ≤ lev + (1:Int)) ∧ ((!frmN n ((Rose.node ((op,pos,nm,ar,()),())
 sb).subs.getD x.toNat (Rose.node (((0:Int),(0:Int),[],[],()),()) [])) (lev + (1:Int))) = true → false = frmN (n + (1:Nat)) (Rose.node ((op,pos,nm,ar,()),()) sb)
 lev) ∧ ((!frmN n ((Rose.node ((op,pos,nm,ar,()),()) sb).subs.getD x.toNat (Rose.node (((0:Int),(0:Int),[],[],()),()) [])) (lev + (1:Int))) = false → isI64 (x + (1
 : Int)) ∧ I (x + (1:Int)) ∧ μ (x + (1:Int)) < μ x)) ∧ (decide (x < (↑(Rose.node ((op,pos,nm,ar,()),()) sb).subs.length:Int)) = false → true = frmN (n + (1:Nat))
 (Rose.node ((op,pos,nm,ar,()),()) sb) lev))) ∧ (decide ((Rose.node ((op,pos,nm,ar,()),()) sb).val.fst.fst = (4:Int)) = false → ∃ (I:Int → Prop),∃ (μ:Int → Nat),
 I (0:Int) ∧ ∀ (x:Int),I x → (decide (x < (↑(Rose.node ((op,pos,nm,ar,()),()) sb).subs.length:Int)) = true → ((0:Int) ≤ x ∧ x < (↑(Rose.node ((op,pos,nm,ar,()),
 ()) sb).subs.length:Int)) ∧ isI64 (lev + (1:Int)) ∧ (dep ((Rose.node ((op,pos,nm,ar,()),()) sb).subs.getD x.toNat (Rose.node (((0:Int),(0:Int),[],[],()),())
 [])) ≤ n ∧ (0:Int) ≤ lev + (1:Int)) ∧ ((!frmN n ((Rose.node ((op,pos,nm,ar,()),()) sb).subs.getD x.toNat (Rose.node (((0:Int),(0:Int),[],[],()),()) [])) (lev +
 (1:Int))) = true → false = frmN (n + (1:Nat)) (Rose.node ((op,pos,nm,ar,()),()) sb) lev) ∧ ((!frmN n ((Rose.node ((op,pos,nm,ar,()),()) sb).subs.getD x.toNat
 (Rose.node (((0:Int),(0:Int),[],[],()),()) [])) (lev + (1:Int))) = false → isI64 (x + (1:Int)) ∧ I (x + (1:Int)) ∧ μ (x + (1:Int)) < μ x)) ∧ (decide (x <
 (↑(Rose.node ((op,pos,nm,ar,()),()) sb).subs.length:Int)) = false → true = frmN (n + (1:Nat)) (Rose.node ((op,pos,nm,ar,()),()) sb) lev)))) ∧ (decide ((Rose.node
 ((op,pos,nm,ar,()),()) sb).val.fst.fst = (2:Int)) = false → (decide ((Rose.node ((op,pos,nm,ar,()),()) sb).val.fst.fst = (3:Int)) = true → (decide ((↑(Rose.node
 ((op,pos,nm,ar,()),()) sb).subs.length:Int) < (2:Int)) = true → false = frmN (n + (1:Nat)) (Rose.node ((op,pos,nm,ar,()),()) sb) lev) ∧ (decide ((↑(Rose.node
 ((op,pos,nm,ar,()),()) sb).subs.length:Int) < (2:Int)) = false → (decide ((Rose.node ((op,pos,nm,ar,()),()) sb).val.fst.fst = (4:Int)) = true → ((!decide
 ((↑(Rose.node ((op,pos,nm,ar,()),()) sb).subs.length:Int) = (1:Int))) = true → false = frmN (n + (1:Nat)) (Rose.node ((op,pos,nm,ar,()),()) sb) lev) ∧ ((!decide
 ((↑(Rose.node ((op,pos,nm,ar,()),()) sb).subs.length:Int) = (1:Int))) = false → ((!decide ((Rose.node ((op,pos,nm,ar,()),()) sb).val.fst.fst = (3:Int))) = true →
 ((!decide ((Rose.node ((op,pos,nm,ar,()),()) sb).val.fst.fst = (4:Int))) = true → ((!decide ((↑(Rose.node ((op,pos,nm,ar,()),()) sb).subs.length:Int) = (0:Int)))
 = true → false = frmN (n + (1:Nat)) (Rose.node ((op,pos,nm,ar,()),()) sb) lev) ∧ ((!decide ((↑(Rose.node ((op,pos,nm,ar,()),()) sb).subs.length:Int) = (0:Int))) =
 false → ∃ (I:Int → Prop),∃ (μ:Int → Nat),I (0:Int) ∧ ∀ (x:Int),I x → (decide (x < (↑(Rose.node ((op,pos,nm,ar,()),()) sb).subs.length:Int)) = true → ((0:Int)
 ≤ x ∧ x < (↑(Rose.node ((op,pos,nm,ar,()),()) sb).subs.length:Int)) ∧ isI64 (lev + (1:Int)) ∧ (dep ((Rose.node ((op,pos,nm,ar,()),()) sb).subs.getD x.toNat
 (Rose.node (((0:Int),(0:Int),[],[],()),()) [])) ≤ n ∧ (0:Int) ≤ lev + (1:Int)) ∧ ((!frmN n ((Rose.node ((op,pos,nm,ar,()),()) sb).subs.getD x.toNat (Rose.node
 (((0:Int),(0:Int),[],[],()),()) [])) (lev + (1:Int))) = true → false = frmN (n + (1:Nat)) (Rose.node ((op,pos,nm,ar,()),()) sb) lev) ∧ ((!frmN n ((Rose.node
 ((op,pos,nm,ar,()),()) sb).subs.getD x.toNat (Rose.node (((0:Int),(0:Int),[],[],()),()) [])) (lev + (1:Int))) = false → isI64 (x + (1:Int)) ∧ I (x + (1:Int))
 ∧ μ (x + (1:Int)) < μ x)) ∧ (decide (x < (↑(Rose.node ((op,pos,nm,ar,()),()) sb).subs.length:Int)) = false → true = frmN (n + (1:Nat)) (Rose.node ((op,pos,nm,ar,
 ()),()) sb) lev))) ∧ ((!decide ((Rose.node ((op,pos,nm,ar,()),()) sb).val.fst.fst = (4:Int))) = false → ∃ (I:Int → Prop),∃ (μ:Int → Nat),I (0:Int) ∧ ∀ (x:Int),
 I x → (decide (x < (↑(Rose.node ((op,pos,nm,ar,()),()) sb).subs.length:Int)) = true → ((0:Int) ≤ x ∧ x < (↑(Rose.node ((op,pos,nm,ar,()),()) sb).subs.length:Int))
 ∧ isI64 (lev + (1:Int)) ∧ (dep ((Rose.node ((op,pos,nm,ar,()),()) sb).subs.getD x.toNat (Rose.node (((0:Int),(0:Int),[],[],()),()) [])) ≤ n ∧ (0:Int) ≤ lev + (1
 : Int)) ∧ ((!frmN n ((Rose.node ((op,pos,nm,ar,()),()) sb).subs.getD x.toNat (Rose.node (((0:Int),(0:Int),[],[],()),()) [])) (lev + (1:Int))) = true → false =
 frmN (n + (1:Nat)) (Rose.node ((op,pos,nm,ar,()),()) sb) lev) ∧ ((!frmN n ((Rose.node ((op,pos,nm,ar,()),()) sb).subs.getD x.toNat (Rose.node (((0:Int),(0:Int),
 [],[],()),()) [])) (lev + (1:Int))) = false → isI64 (x + (1:Int)) ∧ I (x + (1:Int)) ∧ μ (x + (1:Int)) < μ x)) ∧ (decide (x < (↑(Rose.node ((op,pos,nm,ar,()),())
 sb).subs.length:Int)) = false → true = frmN (n + (1:Nat)) (Rose.node ((op,pos,nm,ar,()),()) sb) lev))) ∧ ((!decide ((Rose.node ((op,pos,nm,ar,()),())
 sb).val.fst.fst = (3:Int))) = false → ∃ (I:Int → Prop),∃ (μ:Int → Nat),I (0:Int) ∧ ∀ (x:Int),I x → (decide (x < (↑(Rose.node ((op,pos,nm,ar,()),())
 sb).subs.length:Int)) = true → ((0:Int) ≤ x ∧ x < (↑(Rose.node ((op,pos,nm,ar,()),()) sb).subs.length:Int)) ∧ isI64 (lev + (1:Int)) ∧ (dep ((Rose.node ((op,pos,nm,
 ar,()),()) sb).subs.getD x.toNat (Rose.node (((0:Int),(0:Int),[],[],()),()) [])) ≤ n ∧ (0:Int) ≤ lev + (1:Int)) ∧ ((!frmN n ((Rose.node ((op,pos,nm,ar,()),())
 sb).subs.getD x.toNat (Rose.node (((0:Int),(0:Int),[],[],()),()) [])) (lev + (1:Int))) = true → false = frmN (n + (1:Nat)) (Rose.node ((op,pos,nm,ar,()),()) sb)
 lev) ∧ ((!frmN n ((Rose.node ((op,pos,nm,ar,()),()) sb).subs.getD x.toNat (Rose.node (((0:Int),(0:Int),[],[],()),()) [])) (lev + (1:Int))) = false → isI64 (x + (1
 : Int)) ∧ I (x + (1:Int)) ∧ μ (x + (1:Int)) < μ x)) ∧ (decide (x < (↑(Rose.node ((op,pos,nm,ar,()),()) sb).subs.length:Int)) = false → true = frmN (n + (1:Nat))
 (Rose.node ((op,pos,nm,ar,()),()) sb) lev)))) ∧ (decide ((Rose.node ((op,pos,nm,ar,()),()) sb).val.fst.fst = (4:Int)) = false → ((!decide ((Rose.node ((op,pos,nm,
 ar,()),()) sb).val.fst.fst = (3:Int))) = true → ((!decide ((Rose.node ((op,pos,nm,ar,()),()) sb).val.fst.fst = (4:Int))) = true → ((!decide ((↑(Rose.node ((op,pos,
 nm,ar,()),()) sb).subs.length:Int) = (0:Int))) = true → false = frmN (n + (1:Nat)) (Rose.node ((op,pos,nm,ar,()),()) sb) lev) ∧ ((!decide ((↑(Rose.node ((op,pos,
 nm,ar,()),()) sb).subs.length:Int) = (0:Int))) = false → ∃ (I:Int → Prop),∃ (μ:Int → Nat),I (0:Int) ∧ ∀ (x:Int),I x → (decide (x < (↑(Rose.node ((op,pos,nm,
 ar,()),()) sb).subs.length:Int)) = true → ((0:Int) ≤ x ∧ x < (↑(Rose.node ((op,pos,nm,ar,()),()) sb).subs.length:Int)) ∧ isI64 (lev + (1:Int)) ∧ (dep ((Rose.node
 ((op,pos,nm,ar,()),()) sb).subs.getD x.toNat (Rose.node (((0:Int),(0:Int),[],[],()),()) [])) ≤ n ∧ (0:Int) ≤ lev + (1:Int)) ∧ ((!frmN n ((Rose.node ((op,pos,
 nm,ar,()),()) sb).subs.getD x.toNat (Rose.node (((0:Int),(0:Int),[],[],()),()) [])) (lev + (1:Int))) = true → false = frmN (n + (1:Nat)) (Rose.node ((op,pos,nm,
 ar,()),()) sb) lev) ∧ ((!frmN n ((Rose.node ((op,pos,nm,ar,()),()) sb).subs.getD x.toNat (Rose.node (((0:Int),(0:Int),[],[],()),()) [])) (lev + (1:Int))) =
 false → isI64 (x + (1:Int)) ∧ I (x + (1:Int)) ∧ μ (x + (1:Int)) < μ x)) ∧ (decide (x < (↑(Rose.node ((op,pos,nm,ar,()),()) sb).subs.length:Int)) = false → true =
 frmN (n + (1:Nat)) (Rose.node ((op,pos,nm,ar,()),()) sb) lev))) ∧ ((!decide ((Rose.node ((op,pos,nm,ar,()),()) sb).val.fst.fst = (4:Int))) = false → ∃ (I:Int →
 Prop),∃ (μ:Int → Nat),I (0:Int) ∧ ∀ (x:Int),I x → (decide (x < (↑(Rose.node ((op,pos,nm,ar,()),()) sb).subs.length:Int)) = true → ((0:Int) ≤ x ∧ x <
 (↑(Rose.node ((op,pos,nm,ar,()),()) sb).subs.length:Int)) ∧ isI64 (lev + (1:Int)) ∧ (dep ((Rose.node ((op,pos,nm,ar,()),()) sb).subs.getD x.toNat (Rose.node (((0 :
 Int),(0:Int),[],[],()),()) [])) ≤ n ∧ (0:Int) ≤ lev + (1:Int)) ∧ ((!frmN n ((Rose.node ((op,pos,nm,ar,()),()) sb).subs.getD x.toNat (Rose.node (((0:Int),(0 :
 Int),[],[],()),()) [])) (lev + (1:Int))) = true → false = frmN (n + (1:Nat)) (Rose.node ((op,pos,nm,ar,()),()) sb) lev) ∧ ((!frmN n ((Rose.node ((op,pos,nm,ar,
 ()),()) sb).subs.getD x.toNat (Rose.node (((0:Int),(0:Int),[],[],()),()) [])) (lev + (1:Int))) = false → isI64 (x + (1:Int)) ∧ I (x + (1:Int)) ∧ μ (x + (1:Int))
 < μ x)) ∧ (decide (x < (↑(Rose.node ((op,pos,nm,ar,()),()) sb).subs.length:Int)) = false → true = frmN (n + (1:Nat)) (Rose.node ((op,pos,nm,ar,()),()) sb) lev))) ∧
 ((!decide ((Rose.node ((op,pos,nm,ar,()),()) sb).val.fst.fst = (3:Int))) = false → ∃ (I:Int → Prop),∃ (μ:Int → Nat),I (0:Int) ∧ ∀ (x:Int),I x → (decide (x <
 (↑(Rose.node ((op,pos,nm,ar,()),()) sb).subs.length:Int)) = true → ((0:Int) ≤ x ∧ x < (↑(Rose.node ((op,pos,nm,ar,()),()) sb).subs.length:Int)) ∧ isI64 (lev + (1
 : Int)) ∧ (dep ((Rose.node ((op,pos,nm,ar,()),()) sb).subs.getD x.toNat (Rose.node (((0:Int),(0:Int),[],[],()),()) [])) ≤ n ∧ (0:Int) ≤ lev + (1:Int)) ∧ ((!frmN
 n ((Rose.node ((op,pos,nm,ar,()),()) sb).subs.getD x.toNat (Rose.node (((0:Int),(0:Int),[],[],()),()) [])) (lev + (1:Int))) = true → false = frmN (n + (1:Nat))
 (Rose.node ((op,pos,nm,ar,()),()) sb) lev) ∧ ((!frmN n ((Rose.node ((op,pos,nm,ar,()),()) sb).subs.getD x.toNat (Rose.node (((0:Int),(0:Int),[],[],()),()) []))
 (lev + (1:Int))) = false → isI64 (x + (1:Int)) ∧ I (x + (1:Int)) ∧ μ (x + (1:Int)) < μ x)) ∧ (decide (x < (↑(Rose.node ((op,pos,nm,ar,()),()) sb).subs.length:Int))
 = false → true = frmN (n + (1:Nat)) (Rose.node ((op,pos,nm,ar,()),()) sb) lev))))) ∧ (decide ((Rose.node ((op,pos,nm,ar,()),()) sb).val.fst.fst = (3:Int)) = false →
 (decide ((Rose.node ((op,pos,nm,ar,()),()) sb).val.fst.fst = (4:Int)) = true → ((!decide ((↑(Rose.node ((op,pos,nm,ar,()),()) sb).subs.length:Int) = (1:Int))) =
 true → false = frmN (n + (1:Nat)) (Rose.node ((op,pos,nm,ar,()),()) sb) lev) ∧ ((!decide ((↑(Rose.node ((op,pos,nm,ar,()),()) sb).subs.length:Int) = (1:Int))) =
 false → ((!decide ((Rose.node ((op,pos,nm,ar,()),()) sb).val.fst.fst = (3:Int))) = true → ((!decide ((Rose.node ((op,pos,nm,ar,()),()) sb).val.fst.fst = (4:Int))) =
 true → ((!decide ((↑(Rose.node ((op,pos,nm,ar,()),()) sb).subs.length:Int) = (0:Int))) = true → false = frmN (n + (1:Nat)) (Rose.node ((op,pos,nm,ar,()),()) sb)
 lev) ∧ ((!decide ((↑(Rose.node ((op,pos,nm,ar,()),()) sb).subs.length:Int) = (0:Int))) = false → ∃ (I:Int → Prop),∃ (μ:Int → Nat),I (0:Int) ∧ ∀ (x:Int),I x →
 (decide (x < (↑(Rose.node ((op,pos,nm,ar,()),()) sb).subs.length:Int)) = true → ((0:Int) ≤ x ∧ x < (↑(Rose.node ((op,pos,nm,ar,()),()) sb).subs.length:Int)) ∧
 isI64 (lev + (1:Int)) ∧ (dep ((Rose.node ((op,pos,nm,ar,()),()) sb).subs.getD x.toNat (Rose.node (((0:Int),(0:Int),[],[],()),()) [])) ≤ n ∧ (0:Int) ≤ lev + (1 :
 Int)) ∧ ((!frmN n ((Rose.node ((op,pos,nm,ar,()),()) sb).subs.getD x.toNat (Rose.node (((0:Int),(0:Int),[],[],()),()) [])) (lev + (1:Int))) = true → false = frmN
 (n + (1:Nat)) (Rose.node ((op,pos,nm,ar,()),()) sb) lev) ∧ ((!frmN n ((Rose.node ((op,pos,nm,ar,()),()) sb).subs.getD x.toNat (Rose.node (((0:Int),(0:Int),[],
 [],()),()) [])) (lev + (1:Int))) = false → isI64 (x + (1:Int)) ∧ I (x + (1:Int)) ∧ μ (x + (1:Int)) < μ x)) ∧ (decide (x < (↑(Rose.node ((op,pos,nm,ar,()),())
 sb).subs.length:Int)) = false → true = frmN (n + (1:Nat)) (Rose.node ((op,pos,nm,ar,()),()) sb) lev))) ∧ ((!decide ((Rose.node ((op,pos,nm,ar,()),())
 sb).val.fst.fst = (4:Int))) = false → ∃ (I:Int → Prop),∃ (μ:Int → Nat),I (0:Int) ∧ ∀ (x:Int),I x → (decide (x < (↑(Rose.node ((op,pos,nm,ar,()),())
 sb).subs.length:Int)) = true → ((0:Int) ≤ x ∧ x < (↑(Rose.node ((op,pos,nm,ar,()),()) sb).subs.length:Int)) ∧ isI64 (lev + (1:Int)) ∧ (dep ((Rose.node ((op,pos,nm,
 ar,()),()) sb).subs.getD x.toNat (Rose.node (((0:Int),(0:Int),[],[],()),()) [])) ≤ n ∧ (0:Int) ≤ lev + (1:Int)) ∧ ((!frmN n ((Rose.node ((op,pos,nm,ar,()),())
 sb).subs.getD x.toNat (Rose.node (((0:Int),(0:Int),[],[],()),()) [])) (lev + (1:Int))) = true → false = frmN (n + (1:Nat)) (Rose.node ((op,pos,nm,ar,()),()) sb)
 lev) ∧ ((!frmN n ((Rose.node ((op,pos,nm,ar,()),()) sb).subs.getD x.toNat (Rose.node (((0:Int),(0:Int),[],[],()),()) [])) (lev + (1:Int))) = false → isI64 (x + (1
 : Int)) ∧ I (x + (1:Int)) ∧ μ (x + (1:Int)) < μ x)) ∧ (decide (x < (↑(Rose.node ((op,pos,nm,ar,()),()) sb).subs.length:Int)) = false → true = frmN (n + (1:Nat))
 (Rose.node ((op,pos,nm,ar,()),()) sb) lev))) ∧ ((!decide ((Rose.node ((op,pos,nm,ar,()),()) sb).val.fst.fst = (3:Int))) = false → ∃ (I:Int → Prop),∃ (μ:Int →
 Nat),I (0:Int) ∧ ∀ (x:Int),I x → (decide (x < (↑(Rose.node ((op,pos,nm,ar,()),()) sb).subs.length:Int)) = true → ((0:Int) ≤ x ∧ x < (↑(Rose.node ((op,pos,nm,ar,
 ()),()) sb).subs.length:Int)) ∧ isI64 (lev + (1:Int)) ∧ (dep ((Rose.node ((op,pos,nm,ar,()),()) sb).subs.getD x.toNat (Rose.node (((0:Int),(0:Int),[],[],()),
 ()) [])) ≤ n ∧ (0:Int) ≤ lev + (1:Int)) ∧ ((!frmN n ((Rose.node ((op,pos,nm,ar,()),()) sb).subs.getD x.toNat (Rose.node (((0:Int),(0:Int),[],[],()),()) []))
 (lev + (1:Int))) = true → false = frmN (n + (1:Nat)) (Rose.node ((op,pos,nm,ar,()),()) sb) lev) ∧ ((!frmN n ((Rose.node ((op,pos,nm,ar,()),()) sb).subs.getD x.toNat
 (Rose.node (((0:Int),(0:Int),[],[],()),()) [])) (lev + (1:Int))) = false → isI64 (x + (1:Int)) ∧ I (x + (1:Int)) ∧ μ (x + (1:Int)) < μ x)) ∧ (decide (x <
 (↑(Rose.node ((op,pos,nm,ar,()),()) sb).subs.length:Int)) = false → true = frmN (n + (1:Nat)) (Rose.node ((op,pos,nm,ar,()),()) sb) lev)))) ∧ (decide ((Rose.node
 ((op,pos,nm,ar,()),()) sb).val.fst.fst = (4:Int)) = false → ((!decide ((Rose.node ((op,pos,nm,ar,()),()) sb).val.fst.fst = (3:Int))) = true → ((!decide ((Rose.node
 ((op,pos,nm,ar,()),()) sb).val.fst.fst = (4:Int))) = true → ((!decide ((↑(Rose.node ((op,pos,nm,ar,()),()) sb).subs.length:Int) = (0:Int))) = true → false = frmN
 (n + (1:Nat)) (Rose.node ((op,pos,nm,ar,()),()) sb) lev) ∧ ((!decide ((↑(Rose.node ((op,pos,nm,ar,()),()) sb).subs.length:Int) = (0:Int))) = false → ∃ (I:Int →
 Prop),∃ (μ:Int → Nat),I (0:Int) ∧ ∀ (x:Int),I x → (decide (x < (↑(Rose.node ((op,pos,nm,ar,()),()) sb).subs.length:Int)) = true → ((0:Int) ≤ x ∧ x <
 (↑(Rose.node ((op,pos,nm,ar,()),()) sb).subs.length:Int)) ∧ isI64 (lev + (1:Int)) ∧ (dep ((Rose.node ((op,pos,nm,ar,()),()) sb).subs.getD x.toNat (Rose.node (((0 :
 Int),(0:Int),[],[],()),()) [])) ≤ n ∧ (0:Int) ≤ lev + (1:Int)) ∧ ((!frmN n ((Rose.node ((op,pos,nm,ar,()),()) sb).subs.getD x.toNat (Rose.node (((0:Int),(0 :
 Int),[],[],()),()) [])) (lev + (1:Int))) = true → false = frmN (n + (1:Nat)) (Rose.node ((op,pos,nm,ar,()),()) sb) lev) ∧ ((!frmN n ((Rose.node ((op,pos,nm,ar,
 ()),()) sb).subs.getD x.toNat (Rose.node (((0:Int),(0:Int),[],[],()),()) [])) (lev + (1:Int))) = false → isI64 (x + (1:Int)) ∧ I (x + (1:Int)) ∧ μ (x + (1:Int))
 < μ x)) ∧ (decide (x < (↑(Rose.node ((op,pos,nm,ar,()),()) sb).subs.length:Int)) = false → true = frmN (n + (1:Nat)) (Rose.node ((op,pos,nm,ar,()),()) sb) lev))) ∧
 ((!decide ((Rose.node ((op,pos,nm,ar,()),()) sb).val.fst.fst = (4:Int))) = false → ∃ (I:Int → Prop),∃ (μ:Int → Nat),I (0:Int) ∧ ∀ (x:Int),I x → (decide (x <
 (↑(Rose.node ((op,pos,nm,ar,()),()) sb).subs.length:Int)) = true → ((0:Int) ≤ x ∧ x < (↑(Rose.node ((op,pos,nm,ar,()),()) sb).subs.length:Int)) ∧ isI64 (lev + (1
 : Int)) ∧ (dep ((Rose.node ((op,pos,nm,ar,()),()) sb).subs.getD x.toNat (Rose.node (((0:Int),(0:Int),[],[],()),()) [])) ≤ n ∧ (0:Int) ≤ lev + (1:Int)) ∧ ((!frmN
 n ((Rose.node ((op,pos,nm,ar,()),()) sb).subs.getD x.toNat (Rose.node (((0:Int),(0:Int),[],[],()),()) [])) (lev + (1:Int))) = true → false = frmN (n + (1:Nat))
 (Rose.node ((op,pos,nm,ar,()),()) sb) lev) ∧ ((!frmN n ((Rose.node ((op,pos,nm,ar,()),()) sb).subs.getD x.toNat (Rose.node (((0:Int),(0:Int),[],[],()),()) []))
 (lev + (1:Int))) = false → isI64 (x + (1:Int)) ∧ I (x + (1:Int)) ∧ μ (x + (1:Int)) < μ x)) ∧ (decide (x < (↑(Rose.node ((op,pos,nm,ar,()),()) sb).subs.length:Int))
 = false → true = frmN (n + (1:Nat)) (Rose.node ((op,pos,nm,ar,()),()) sb) lev))) ∧ ((!decide ((Rose.node ((op,pos,nm,ar,()),()) sb).val.fst.fst = (3:Int))) = false
 → ∃ (I:Int → Prop),∃ (μ:Int → Nat),I (0:Int) ∧ ∀ (x:Int),I x → (decide (x < (↑(Rose.node ((op,pos,nm,ar,()),()) sb).subs.length:Int)) = true → ((0:Int) ≤ x ∧
 x < (↑(Rose.node ((op,pos,nm,ar,()),()) sb).subs.length:Int)) ∧ isI64 (lev + (1:Int)) ∧ (dep ((Rose.node ((op,pos,nm,ar,()),()) sb).subs.getD x.toNat (Rose.node
 (((0:Int),(0:Int),[],[],()),()) [])) ≤ n ∧ (0:Int) ≤ lev + (1:Int)) ∧ ((!frmN n ((Rose.node ((op,pos,nm,ar,()),()) sb).subs.getD x.toNat (Rose.node (((0:Int),
 (0:Int),[],[],()),()) [])) (lev + (1:Int))) = true → false = frmN (n + (1:Nat)) (Rose.node ((op,pos,nm,ar,()),()) sb) lev) ∧ ((!frmN n ((Rose.node ((op,pos,nm,
 ar,()),()) sb).subs.getD x.toNat (Rose.node (((0:Int),(0:Int),[],[],()),()) [])) (lev + (1:Int))) = false → isI64 (x + (1:Int)) ∧ I (x + (1:Int)) ∧ μ (x + (1 :
 Int)) < μ x)) ∧ (decide (x < (↑(Rose.node ((op,pos,nm,ar,()),()) sb).subs.length:Int)) = false → true = frmN (n + (1:Nat)) (Rose.node ((op,pos,nm,ar,()),()) sb)
 lev)))))))))))):=by kernel_rfl
end Go.Proofs.YtbjjaaimhleedaaGreatDoor
namespace Go.Proofs.YtbjjaaimhleedaaGreatDoor
open Go.AM Go.PL
attribute [local irreducible] fnwp
theorem FC2_sound {n:Nat} (h:Sat bs.P 28 (frmSp n)):jQe (FC2 n):=jQi ⟨sat_ct,sat_texted,h,trivial⟩ trivial
set_option maxHeartbeats 8000000 in
theorem sat_frmN:∀ n,Sat bs.P 28 (frmSp n)
 | 0=>fun _ _ x _ _ _ _ h=>by
  have h:dep x.1 ≤ 0 ∧ _:=h
  have:=dep_pos x.1
  omega
 | n + 1=>jQn (FC2_sound (sat_frmN n)) 6 _ (frmSp (n + 1)) fun (⟨.node ⟨⟨op,pos,nm,ar,⟨⟩⟩,⟨⟩⟩ sb,lev⟩:Tr × Int) hok hp=>by
  have hp:dep (Rose.node ((op,pos,nm,ar,()),()) sb:Tr) ≤ n + 1 ∧ 0 ≤ lev:=hp
  have hm:=(tr_ok hok.1).2.2.1
  have hd:=sub_le hp.1
  rw [frm_nf]
  have he:bytesOf { data:=#[] } = []:=rfl
  simp only [Rose.val,Rose.subs,he]
  repeat' (first | exact trivial | (refine frm_loop hm hp.2 ?_ hd (frm_run (top_iff.2 ?_))) | apply And.intro | (intro hh; first | (replace hh:=dt hh) | (replace hh:=df hh) | (replace hh:=ndt hh) | (replace hh:=ndf hh) | (replace hh:=nt hh) | (replace hh:=nf hh)))
  all_goals first
   | omega
   | assumption
   | (intro _; first | omega | assumption)
   | (intro _ _ _; omega)
   | (refine frm_no fun hh=>?_; obtain ⟨a1,a2,a3,a4,a5,a6,a7,a8,a9⟩:=top_iff.1 hh; first | omega | exact absurd (Eq.trans (Eq.symm a4) (by assumption):true = false) (by decide) | exact absurd (a5 (by omega)) (by assumption) | exact absurd (Eq.trans (Eq.symm (a6 (by omega))) (by assumption):true = false) (by decide))
end Go.Proofs.YtbjjaaimhleedaaGreatDoor
namespace Go.PL
open Go.AM
theorem tdiv50 {n:Nat} (h:n ≤ 32768):0 ≤ (n:Int).tdiv 50 ∧ (n:Int).tdiv 50 ≤ 655:=by
 rw [Int.tdiv_eq_ediv_of_nonneg (by omega)]
 omega
theorem w64_at {n:Int} (h0:0 ≤ n) (h1:n ≤ 1000000000000):w64 n = n:=w64_id (by unfold isI64; omega)
theorem szA_b:∀ (ar:List Lt) (n:Int),(∀ x ∈ ar,x.2.2.2.1.length ≤ 32768) → 0 ≤ n → n + 656 * ar.length ≤ 1000000000 → n ≤ szA ar n ∧ szA ar n ≤ n + 656 * ar.length
 | [],n,_,_,_=>⟨Int.le_refl _,by show n ≤ _; omega⟩
 | x :: l,n,hx,h0,h1=>by
  have hq:=tdiv50 (hx x List.mem_cons_self)
  rw [List.length_cons] at h1 ⊢
  have hw:w64 (n + (x.2.2.2.1.length:Int).tdiv 50) = n + (x.2.2.2.1.length:Int).tdiv 50:=w64_at (by omega) (by omega)
  unfold szA
  rw [hw]
  obtain ⟨a,b⟩:=szA_b l (n + (x.2.2.2.1.length:Int).tdiv 50) (fun y hy=>hx y (List.mem_cons_of_mem _ hy)) (by omega) (by omega)
  omega
theorem lit_len {op:Int} {x:Lt} (h:litOk op x = true):x.2.2.2.1.length ≤ 32768:=by
 unfold litOk litB at h
 rw [Bool.and_eq_true] at h
 have h:=h.1
 split at h
 ·simp only [Bool.and_eq_true,decide_eq_true_iff] at h
  rw [h.1]
  exact Nat.zero_le _
 ·simp only [Bool.and_eq_true,decide_eq_true_iff] at h
  have h:=h.2.2
  unfold possB at h
  rw [Bool.and_eq_true,decide_eq_true_iff] at h
  exact h.1
theorem lens_le {op:Int} {n:Nat} (h:lensB op n = true):n ≤ 100:=by
 unfold lensB at h
 split at h
 ·rw [decide_eq_true_iff] at h; omega
 ·split at h
  ·rw [decide_eq_true_iff] at h; omega
  ·split at h
   ·rw [Bool.and_eq_true,decide_eq_true_iff,decide_eq_true_iff] at h; omega
   ·rw [decide_eq_true_iff] at h; omega
theorem nm_len {op:Int} {nm:List Int} (h:nmB op nm = true):nm.length ≤ 32768:=by
 unfold nmB at h
 split at h
 ·rw [decide_eq_true_iff] at h
  rw [h]
  exact Nat.zero_le _
 ·unfold possB at h
  rw [Bool.and_eq_true,decide_eq_true_iff] at h
  exact h.1
theorem top_of {t:Tr} {lev:Int} (h:topB t lev = true):(argsT t).length ≤ 100 ∧ (nameT t).length ≤ 32768 ∧ ∀ x ∈ argsT t,x.2.2.2.1.length ≤ 32768:=by
 unfold topB at h
 simp only [Bool.and_eq_true] at h
 obtain ⟨_,_,_,h1,h2,_⟩:=h
 unfold ctB at h1
 rw [Bool.and_eq_true,List.all_eq_true] at h1
 exact ⟨lens_le h1.2,nm_len h2,fun x hx=>lit_len (h1.1 x hx)⟩
theorem sz0_b {t:Tr} {lev:Int} (h:topB t lev = true):1 ≤ sz0 t ∧ sz0 t ≤ 66400:=by
 obtain ⟨h1,h2,h3⟩:=top_of h
 have hq:=tdiv50 h2
 unfold sz0
 rw [w64_at (n:=1 + ((argsT t).length:Int)) (by omega) (by omega),w64_at (by omega) (by omega)]
 have:=szA_b (argsT t) (1 + ((argsT t).length:Int) + ((nameT t).length:Int).tdiv 50) h3 (by omega) (by omega)
 omega
theorem szL_b {g:Tr → Int → Int} {most:Int} (h0:0 ≤ most) (h1:most ≤ 200):∀ (l:List Tr) (n:Int),(∀ x ∈ l,∀ m,0 ≤ m → m ≤ 200 → 1 ≤ g x m ∧ g x m ≤ m + 66400) → 1 ≤ n → n ≤ most + 66400 →
 n ≤ szL g most l n ∧ szL g most l n ≤ most + 66400 ∧ (szL g most l n ≤ most → n + l.length ≤ szL g most l n ∧ ∀ x ∈ l,∃ m,0 ≤ m ∧ m ≤ 200 ∧ g x m ≤ m)
 | [],n,_,_,h3=>⟨Int.le_refl _,h3,fun _=>⟨by show n + ((0:Nat):Int) ≤ n; omega,fun x hx=>absurd hx List.not_mem_nil⟩⟩
 | x :: l,n,hg,h2,h3=>by
  unfold szL
  by_cases c:n ≤ most
  ·rw [if_pos c]
   have hm:w64 (most - n) = most - n:=w64_at (by omega) (by omega)
   obtain ⟨a,b⟩:=hg x List.mem_cons_self (most - n) (by omega) (by omega)
   rw [hm,w64_at (by omega) (by omega)]
   obtain ⟨k1,k2,k3⟩:=szL_b h0 h1 l (n + g x (most - n)) (fun y hy=>hg y (List.mem_cons_of_mem _ hy)) (by omega) (by omega)
   refine ⟨by omega,k2,fun hle=>?_⟩
   obtain ⟨q1,q2⟩:=k3 hle
   refine ⟨by rw [List.length_cons]; omega,fun y hy=>?_⟩
   rcases List.mem_cons.1 hy with rfl | hy
   ·exact ⟨most - n,by omega,by omega,by omega⟩
   ·exact q2 y hy
  ·rw [if_neg c]
   exact ⟨Int.le_refl _,h3,fun hle=>absurd hle c⟩
theorem sz_small:∀ (n:Nat) {t:Tr} {lev most:Int},frmN n t lev = true → 0 ≤ most → most ≤ 200 → (1 ≤ szN n t most ∧ szN n t most ≤ most + 66400) ∧ (szN n t most ≤ most → smallN n t)
 | 0,_,_,_,h,_,_=>by cases h
 | n + 1,t,lev,most,h,h0,h1=>by
  have h:(topB t lev && t.subs.all fun s=>frmN n s (lev + 1)) = true:=h
  rw [Bool.and_eq_true,List.all_eq_true] at h
  obtain ⟨k1,k2⟩:=sz0_b h.1
  show (1 ≤ szL (szN n) most t.subs (sz0 t) ∧ szL (szN n) most t.subs (sz0 t) ≤ most + 66400) ∧ (szL (szN n) most t.subs (sz0 t) ≤ most → _)
  obtain ⟨q1,q2,q3⟩:=szL_b (g:=szN n) h0 h1 t.subs (sz0 t) (fun x hx m g0 g1=>(sz_small n (h.2 x hx) g0 g1).1) k1 (by omega)
  refine ⟨⟨by omega,q2⟩,fun hle=>?_⟩
  obtain ⟨r1,r2⟩:=q3 hle
  refine ⟨by have:=(top_of h.1).1; omega,by omega,fun x hx=>?_⟩
  obtain ⟨m,g0,g1,g2⟩:=r2 x hx
  exact (sz_small n (h.2 x hx) g0 g1).2 g2
theorem all_cg {α:Type} {l:List α} {p q:α → Bool} (h:∀ x ∈ l,p x = q x):l.all p = l.all q:=by
 induction l with
 | nil=>rfl
 | cons a l ih=>rw [List.all_cons,List.all_cons,h a List.mem_cons_self,ih fun x hx=>h x (List.mem_cons_of_mem _ hx)]
theorem any_cg {α:Type} {l:List α} {p q:α → Bool} (h:∀ x ∈ l,p x = q x):l.any p = l.any q:=by
 induction l with
 | nil=>rfl
 | cons a l ih=>rw [List.any_cons,List.any_cons,h a List.mem_cons_self,ih fun x hx=>h x (List.mem_cons_of_mem _ hx)]
theorem holds_fuel (l:List At):∀ (m k:Nat) (p:Pr),dep p ≤ m → dep p ≤ k → jQf m p l = jQf k p l
 | 0,_,p,h,_=>by have:=dep_pos p; omega
 | _ + 1,0,p,_,h=>by have:=dep_pos p; omega
 | m + 1,k + 1,.node ⟨⟨op,nm,a,b,s,⟨⟩⟩,⟨⟩⟩ sb,h1,h2=>by
  have hx:∀ x ∈ sb,jQf m x l = jQf k x l:=fun x hx=>holds_fuel l m k x (sub_le h1 x hx) (sub_le h2 x hx)
  rw [hld_eq,hld_eq,all_cg hx,any_cg hx]
theorem chk_defs:∀ {l:List Df} {b:List Int},chkL l b = 0 → ∀ d ∈ l,∃ b,defS d b = 0
 | [],_,_,d,hd=>absurd hd List.not_mem_nil
 | x :: l,b,h,d,hd=>by
  unfold chkL at h
  by_cases c:defS x b ≠ 0
  ·rw [if_pos c] at h
   exact absurd h c
  ·rw [if_neg c] at h
   rcases List.mem_cons.1 hd with rfl | hd
   ·exact ⟨b,Classical.not_not.1 c⟩
   ·exact chk_defs h d hd
theorem name_ne {n:List Int} (h:nameB n = true):n ≠ []:=by
 unfold nameB at h
 simp only [Bool.and_eq_true,decide_eq_true_iff] at h
 intro e
 have:=h.2.1
 rw [e] at this
 exact absurd this (by decide)
theorem def_ok {d:Df} {b:List Int} (h:defS d b = 0):d.1 ≠ [] ∧ (d.2.1 = 1 ∨ d.2.1 = 2):=by
 unfold defS at h
 split at h
 ·cases h
 ·rename_i c
  refine ⟨name_ne (by cases q:nameB d.1 <;> simp_all),?_⟩
  split at h
  ·cases h
  ·split at h
   ·rename_i k; exact .inl k
   ·split at h
    ·rename_i k; exact .inr k
    ·cases h
theorem chk_ok {s:Sc} (h:chkS s = 0):∀ d ∈ s.2.2.1,d.1 ≠ [] ∧ (d.2.1 = 1 ∨ d.2.1 = 2):=by
 unfold chkS at h
 split at h
 ·cases h
 ·split at h
  ·cases h
  ·exact fun d hd=>let ⟨b,hb⟩:=chk_defs h d hd; def_ok hb
theorem names_ok {s:Sc} (h:chkS s = 0):namesOk s:=fun d hd=>(chk_ok h d hd).1
theorem fits_each {ds:List Df}:∀ {l:List At} {b:List Int},fitsL ds l b = 0 → ∀ a ∈ l,0 ≤ fndN ds a.1 0 ∧ valS (ds.getD (fndN ds a.1 0).toNat dDf) a = 0
 | [],_,_,a,ha=>absurd ha List.not_mem_nil
 | x :: l,b,h,a,ha=>by
  unfold fitsL at h
  split at h
  ·cases h
  ·rename_i c1
   split at h
   ·cases h
   ·split at h
    ·rename_i c; exact absurd h c
    ·rename_i c
     rcases List.mem_cons.1 ha with rfl | ha
     ·exact ⟨by omega,Classical.not_not.1 c⟩
     ·exact fits_each h a ha
theorem fit_of {s:Sc} {l:List At} (h1:chkS s = 0) (h2:fitsS s l = 0) (h3:∀ a ∈ l,minI ≤ a.2.2.1 ∧ a.2.2.1 ≤ maxI):FitL s l:=⟨fits_each h2,fun d hd=>(chk_ok h1 d hd).2,h3⟩
theorem lits_ne {d:Df} {b:Int × Int}:∀ {ar:List Lt},litsE d ar = some b → b.2 ≠ 0
 | [],h=>by cases h
 | x :: l,h=>by
  unfold litsE at h
  split at h
  ·rename_i c
   cases h
   exact c
  ·exact lits_ne h
theorem rel_ne {s:Sc} {t:Tr} {b:Int × Int} (h:relP s t = .inr b):b.2 ≠ 0:=by
 unfold relP at h
 dsimp only at h
 split at h
 ·cases h; simp
 ·split at h
  ·cases h; simp
  ·split at h
   ·cases h; exact lits_ne (by assumption)
   ·split at h
    ·split at h
     ·cases h; simp
     ·cases h
    ·split at h
     ·cases h
     ·split at h <;> cases h
theorem typL_ne {g:Tr → Pr ⊕ (Int × Int)} {b:Int × Int}:∀ {l:List Tr},(∀ x ∈ l,∀ b,g x = .inr b → b.2 ≠ 0) → typL g l = .inr b → b.2 ≠ 0
 | [],_,h=>by cases h
 | t :: l,hg,h=>by
  unfold typL at h
  split at h
  ·rename_i c
   cases h
   exact hg t List.mem_cons_self _ c
  ·split at h
   ·rename_i c
    cases h
    exact typL_ne (fun x hx=>hg x (List.mem_cons_of_mem _ hx)) c
   ·cases h
theorem typ_ne {s:Sc}:∀ (n:Nat) (t:Tr) {b:Int × Int},typN n s t = .inr b → b.2 ≠ 0
 | 0,t,b,h=>by cases h; simp
 | n + 1,t,b,h=>by
  unfold typN at h
  split at h
  ·exact rel_ne h
  ·split at h
   ·split at h
    ·cases h; simp
    ·cases h
   ·split at h
    ·rename_i c
     cases h
     exact typL_ne (fun x hx b hb=>typ_ne n x hb) c
    ·cases h
end Go.PL
namespace Go.Proofs.YtbjjaaimhleedaaGreatDoor
open Go.AM Go.PL
def szDSp:FSpec:=⟨[TR,I],[I],fun _=>True,fun x=>szN (dep (x.1:Tr)) x.1 x.2⟩
def frmDSp:FSpec:=⟨[TR,I],[.bool],fun x=>0 ≤ (x.2:Int),fun x=>frmN (dep (x.1:Tr)) x.1 x.2⟩
def fulDSp:FSpec:=⟨[TR,AL],[.bool],fun x=>wellN (dep (x.1:Tr)) x.1,fun x=>fulN (dep (x.1:Tr)) x.1 x.2⟩
def hldDSp:FSpec:=⟨[AL,PR],[.bool],fun _=>True,fun x=>jQf (dep (x.2:PL.Pr)) x.2 x.1⟩
theorem sat_szD:Sat bs.P 13 szDSp:=fun Ψ w x args hprom hgl hrel _=>sat_szN (dep (x.1:Tr)) Ψ w x args hprom hgl hrel (Nat.le_refl _)
theorem sat_frmD:Sat bs.P 28 frmDSp:=fun Ψ w x args hprom hgl hrel hp=>sat_frmN (dep (x.1:Tr)) Ψ w x args hprom hgl hrel ⟨Nat.le_refl _,hp⟩
theorem sat_fulD:Sat bs.P 10 fulDSp:=fun Ψ w x args hprom hgl hrel hp=>sat_fulN (dep (x.1:Tr)) Ψ w x args hprom hgl hrel ⟨Nat.le_refl _,hp⟩
theorem sat_hldD:Sat bs.P 23 hldDSp:=fun Ψ w x args hprom hgl hrel _=>sat_hldN (dep (x.2:PL.Pr)) Ψ w x args hprom hgl hrel (Nat.le_refl _)
end Go.Proofs.YtbjjaaimhleedaaGreatDoor
namespace Go.Proofs.YtbjjaaimhleedaaGreatDoor
open Go.AM Go.PL
def awSp:FSpec:=⟨[],[.bool],fun _=>True,fun _=>true⟩
def lawTSp:FSpec:=⟨[SC,TR,AL],[.bool],fun _=>True,fun _=>true⟩
def modeGk (f:FuncId) (r:Nat):AM.Mode:=bif Nat.beq f 3 && Nat.beq r 6 then .all else .split
def hintGk (f:FuncId):Hint:=⟨fun _=>[],modeGk f,fun _=>.split,fun _=>0⟩
noncomputable def tGk:List (FuncId × FSpec):=[(11,fewDSp),(12,chkSp),(6,fitsSp),(13,szDSp),(28,frmDSp),
 (10,fulDSp),(23,hldDSp),(8,tySp),(7,awSp)]
noncomputable def GK0:Ctx:=mkctx bs tGk [] hintGk
theorem lawT_nf (d m:Int) (dl:List Df) (op pos:Int) (nm:List Int) (ar:List Lt) (sb:List Tr) (l:List At):fnwp GK0 8 3 lawTSp ((d,m,dl,()),(Rose.node ((op,pos,
 nm,ar,()),()) sb:Tr),l) = (True ∧ (fewDB (d,m,dl,()) (20:Int) = true → True ∧ ((!decide (chkS (d,m,dl,()) = (0:Int))) = true → True ∧ true = true) ∧ ((!decide
 (chkS (d,m,dl,()) = (0:Int))) = false → True ∧ (decide ((200:Int) < szN (dep (Rose.node ((op,pos,nm,ar,()),()) sb)) (Rose.node ((op,pos,nm,ar,()),()) sb) (200 :
 Int)) = true → True ∧ true = true) ∧ (decide ((200:Int) < szN (dep (Rose.node ((op,pos,nm,ar,()),()) sb)) (Rose.node ((op,pos,nm,ar,()),()) sb) (200:Int)) = false →
 (0:Int) ≤ (1:Int) ∧ ((!frmN (dep (Rose.node ((op,pos,nm,ar,()),()) sb)) (Rose.node ((op,pos,nm,ar,()),()) sb) (1:Int)) = true → True ∧ true = true) ∧ ((!frmN (dep
 (Rose.node ((op,pos,nm,ar,()),()) sb)) (Rose.node ((op,pos,nm,ar,()),()) sb) (1:Int)) = false → (decide ((20:Int) < (↑l.length:Int)) = true → True ∧ true = true)
 ∧ (decide ((20:Int) < (↑l.length:Int)) = false → namesOk (d,m,dl,()) ∧ ((!decide (fitsS (d,m,dl,()) l = (0:Int))) = true → True ∧ true = true) ∧ ((!decide (fitsS (d,
 m,dl,()) l = (0:Int))) = false → (wellN (dep (Rose.node ((op,pos,nm,ar,()),()) sb)) (Rose.node ((op,pos,nm,ar,()),()) sb) ∧ smallN (dep (Rose.node ((op,pos,nm,
 ar,()),()) sb)) (Rose.node ((op,pos,nm,ar,()),()) sb)) ∧ ((!decide ((tyP (d,m,dl,()) (Rose.node ((op,pos,nm,ar,()),()) sb)).snd.snd.fst = (0:Int))) = true → True
 ∧ true = true) ∧ ((!decide ((tyP (d,m,dl,()) (Rose.node ((op,pos,nm,ar,()),()) sb)).snd.snd.fst = (0:Int))) = false → True ∧ ((true = true → ((True ∧ (wellN (dep
 (Rose.node ((op,pos,nm,ar,()),()) sb)) (Rose.node ((op,pos,nm,ar,()),()) sb) ∧ (jQf (dep (Rose.node (((tyP (d,m,dl,()) (Rose.node ((op,pos,nm,ar,()),())
 sb)).fst.val.fst.fst,(tyP (d,m,dl,()) (Rose.node ((op,pos,nm,ar,()),()) sb)).fst.val.fst.snd.fst,(tyP (d,m,dl,()) (Rose.node ((op,pos,nm,ar,()),())
 sb)).fst.val.fst.snd.snd.fst,(tyP (d,m,dl,()) (Rose.node ((op,pos,nm,ar,()),()) sb)).fst.val.fst.snd.snd.snd.fst,(tyP (d,m,dl,()) (Rose.node ((op,pos,nm,ar,()),
 ()) sb)).fst.val.fst.snd.snd.snd.snd.fst,()),()) (tyP (d,m,dl,()) (Rose.node ((op,pos,nm,ar,()),()) sb)).fst.subs)) (Rose.node (((tyP (d,m,dl,()) (Rose.node ((op,
 pos,nm,ar,()),()) sb)).fst.val.fst.fst,(tyP (d,m,dl,()) (Rose.node ((op,pos,nm,ar,()),()) sb)).fst.val.fst.snd.fst,(tyP (d,m,dl,()) (Rose.node ((op,pos,nm,ar,
 ()),()) sb)).fst.val.fst.snd.snd.fst,(tyP (d,m,dl,()) (Rose.node ((op,pos,nm,ar,()),()) sb)).fst.val.fst.snd.snd.snd.fst,(tyP (d,m,dl,()) (Rose.node ((op,pos,nm,
 ar,()),()) sb)).fst.val.fst.snd.snd.snd.snd.fst,()),()) (tyP (d,m,dl,()) (Rose.node ((op,pos,nm,ar,()),()) sb)).fst.subs) l == fulN (dep (Rose.node ((op,pos,nm,ar,
 ()),()) sb)) (Rose.node ((op,pos,nm,ar,()),()) sb) l) = true) ∧ wellN (dep (Rose.node ((op,pos,nm,ar,()),()) sb)) (Rose.node ((op,pos,nm,ar,()),()) sb) ∧ (jQf
 (dep (Rose.node (((tyP (d,m,dl,()) (Rose.node ((op,pos,nm,ar,()),()) sb)).fst.val.fst.fst,(tyP (d,m,dl,()) (Rose.node ((op,pos,nm,ar,()),())
 sb)).fst.val.fst.snd.fst,(tyP (d,m,dl,()) (Rose.node ((op,pos,nm,ar,()),()) sb)).fst.val.fst.snd.snd.fst,(tyP (d,m,dl,()) (Rose.node ((op,pos,nm,ar,()),())
 sb)).fst.val.fst.snd.snd.snd.fst,(tyP (d,m,dl,()) (Rose.node ((op,pos,nm,ar,()),()) sb)).fst.val.fst.snd.snd.snd.snd.fst,()),()) (tyP (d,m,dl,()) (Rose.node ((op,
 pos,nm,ar,()),()) sb)).fst.subs)) (Rose.node (((tyP (d,m,dl,()) (Rose.node ((op,pos,nm,ar,()),()) sb)).fst.val.fst.fst,(tyP (d,m,dl,()) (Rose.node ((op,pos,nm,
 ar,()),()) sb)).fst.val.fst.snd.fst,(tyP (d,m,dl,()) (Rose.node ((op,pos,nm,ar,()),()) sb)).fst.val.fst.snd.snd.fst,(tyP (d,m,dl,()) (Rose.node ((op,pos,nm,ar,
 ()),()) sb)).fst.val.fst.snd.snd.snd.fst,(tyP (d,m,dl,()) (Rose.node ((op,pos,nm,ar,()),()) sb)).fst.val.fst.snd.snd.snd.snd.fst,()),()) (tyP (d,m,dl,())
 (Rose.node ((op,pos,nm,ar,()),()) sb)).fst.subs) l == fulN (dep (Rose.node ((op,pos,nm,ar,()),()) sb)) (Rose.node ((op,pos,nm,ar,()),()) sb) l) = true) ∧ ((True ∧
 wellN (dep (Rose.node ((op,pos,nm,ar,()),()) sb)) (Rose.node ((op,pos,nm,ar,()),()) sb) ∧ (jQf (dep (Rose.node (((tyP (d,m,dl,()) (Rose.node ((op,pos,nm,ar,
 ()),()) sb)).fst.val.fst.fst,(tyP (d,m,dl,()) (Rose.node ((op,pos,nm,ar,()),()) sb)).fst.val.fst.snd.fst,(tyP (d,m,dl,()) (Rose.node ((op,pos,nm,ar,()),())
 sb)).fst.val.fst.snd.snd.fst,(tyP (d,m,dl,()) (Rose.node ((op,pos,nm,ar,()),()) sb)).fst.val.fst.snd.snd.snd.fst,(tyP (d,m,dl,()) (Rose.node ((op,pos,nm,ar,()),
 ()) sb)).fst.val.fst.snd.snd.snd.snd.fst,()),()) (tyP (d,m,dl,()) (Rose.node ((op,pos,nm,ar,()),()) sb)).fst.subs)) (Rose.node (((tyP (d,m,dl,()) (Rose.node ((op,
 pos,nm,ar,()),()) sb)).fst.val.fst.fst,(tyP (d,m,dl,()) (Rose.node ((op,pos,nm,ar,()),()) sb)).fst.val.fst.snd.fst,(tyP (d,m,dl,()) (Rose.node ((op,pos,nm,ar,
 ()),()) sb)).fst.val.fst.snd.snd.fst,(tyP (d,m,dl,()) (Rose.node ((op,pos,nm,ar,()),()) sb)).fst.val.fst.snd.snd.snd.fst,(tyP (d,m,dl,()) (Rose.node ((op,pos,nm,
 ar,()),()) sb)).fst.val.fst.snd.snd.snd.snd.fst,()),()) (tyP (d,m,dl,()) (Rose.node ((op,pos,nm,ar,()),()) sb)).fst.subs) l == fulN (dep (Rose.node ((op,pos,nm,ar,
 ()),()) sb)) (Rose.node ((op,pos,nm,ar,()),()) sb) l) = true) ∧ True ∧ wellN (dep (Rose.node ((op,pos,nm,ar,()),()) sb)) (Rose.node ((op,pos,nm,ar,()),()) sb) ∧
 (jQf (dep (Rose.node (((tyP (d,m,dl,()) (Rose.node ((op,pos,nm,ar,()),()) sb)).fst.val.fst.fst,(tyP (d,m,dl,()) (Rose.node ((op,pos,nm,ar,()),())
 sb)).fst.val.fst.snd.fst,(tyP (d,m,dl,()) (Rose.node ((op,pos,nm,ar,()),()) sb)).fst.val.fst.snd.snd.fst,(tyP (d,m,dl,()) (Rose.node ((op,pos,nm,ar,()),())
 sb)).fst.val.fst.snd.snd.snd.fst,(tyP (d,m,dl,()) (Rose.node ((op,pos,nm,ar,()),()) sb)).fst.val.fst.snd.snd.snd.snd.fst,()),()) (tyP (d,m,dl,()) (Rose.node ((op,
 pos,nm,ar,()),()) sb)).fst.subs)) (Rose.node (((tyP (d,m,dl,()) (Rose.node ((op,pos,nm,ar,()),()) sb)).fst.val.fst.fst,(tyP (d,m,dl,()) (Rose.node ((op,pos,nm,
 ar,()),()) sb)).fst.val.fst.snd.fst,(tyP (d,m,dl,()) (Rose.node ((op,pos,nm,ar,()),()) sb)).fst.val.fst.snd.snd.fst,(tyP (d,m,dl,()) (Rose.node ((op,pos,nm,ar,
 ()),()) sb)).fst.val.fst.snd.snd.snd.fst,(tyP (d,m,dl,()) (Rose.node ((op,pos,nm,ar,()),()) sb)).fst.val.fst.snd.snd.snd.snd.fst,()),()) (tyP (d,m,dl,())
 (Rose.node ((op,pos,nm,ar,()),()) sb)).fst.subs) l == fulN (dep (Rose.node ((op,pos,nm,ar,()),()) sb)) (Rose.node ((op,pos,nm,ar,()),()) sb) l) = true) ∧ (True ∧
 wellN (dep (Rose.node ((op,pos,nm,ar,()),()) sb)) (Rose.node ((op,pos,nm,ar,()),()) sb) ∧ (jQf (dep (Rose.node (((tyP (d,m,dl,()) (Rose.node ((op,pos,nm,ar,
 ()),()) sb)).fst.val.fst.fst,(tyP (d,m,dl,()) (Rose.node ((op,pos,nm,ar,()),()) sb)).fst.val.fst.snd.fst,(tyP (d,m,dl,()) (Rose.node ((op,pos,nm,ar,()),())
 sb)).fst.val.fst.snd.snd.fst,(tyP (d,m,dl,()) (Rose.node ((op,pos,nm,ar,()),()) sb)).fst.val.fst.snd.snd.snd.fst,(tyP (d,m,dl,()) (Rose.node ((op,pos,nm,ar,()),
 ()) sb)).fst.val.fst.snd.snd.snd.snd.fst,()),()) (tyP (d,m,dl,()) (Rose.node ((op,pos,nm,ar,()),()) sb)).fst.subs)) (Rose.node (((tyP (d,m,dl,()) (Rose.node ((op,
 pos,nm,ar,()),()) sb)).fst.val.fst.fst,(tyP (d,m,dl,()) (Rose.node ((op,pos,nm,ar,()),()) sb)).fst.val.fst.snd.fst,(tyP (d,m,dl,()) (Rose.node ((op,pos,nm,ar,
 ()),()) sb)).fst.val.fst.snd.snd.fst,(tyP (d,m,dl,()) (Rose.node ((op,pos,nm,ar,()),()) sb)).fst.val.fst.snd.snd.snd.fst,(tyP (d,m,dl,()) (Rose.node ((op,pos,nm,
 ar,()),()) sb)).fst.val.fst.snd.snd.snd.snd.fst,()),()) (tyP (d,m,dl,()) (Rose.node ((op,pos,nm,ar,()),()) sb)).fst.subs) l == fulN (dep (Rose.node ((op,pos,nm,ar,
 ()),()) sb)) (Rose.node ((op,pos,nm,ar,()),()) sb) l) = true) ∧ True ∧ wellN (dep (Rose.node ((op,pos,nm,ar,()),()) sb)) (Rose.node ((op,pos,nm,ar,()),()) sb) ∧
 (jQf (dep (Rose.node (((tyP (d,m,dl,()) (Rose.node ((op,pos,nm,ar,()),()) sb)).fst.val.fst.fst,(tyP (d,m,dl,()) (Rose.node ((op,pos,nm,ar,()),())
 sb)).fst.val.fst.snd.fst,(tyP (d,m,dl,()) (Rose.node ((op,pos,nm,ar,()),()) sb)).fst.val.fst.snd.snd.fst,(tyP (d,m,dl,()) (Rose.node ((op,pos,nm,ar,()),())
 sb)).fst.val.fst.snd.snd.snd.fst,(tyP (d,m,dl,()) (Rose.node ((op,pos,nm,ar,()),()) sb)).fst.val.fst.snd.snd.snd.snd.fst,()),()) (tyP (d,m,dl,()) (Rose.node ((op,
 pos,nm,ar,()),()) sb)).fst.subs)) (Rose.node (((tyP (d,m,dl,()) (Rose.node ((op,pos,nm,ar,()),()) sb)).fst.val.fst.fst,(tyP (d,m,dl,()) (Rose.node ((op,pos,nm,
 ar,()),()) sb)).fst.val.fst.snd.fst,(tyP (d,m,dl,()) (Rose.node ((op,pos,nm,ar,()),()) sb)).fst.val.fst.snd.snd.fst,(tyP (d,m,dl,()) (Rose.node ((op,pos,nm,ar,
 ()),()) sb)).fst.val.fst.snd.snd.snd.fst,(tyP (d,m,dl,()) (Rose.node ((op,pos,nm,ar,()),()) sb)).fst.val.fst.snd.snd.snd.snd.fst,()),()) (tyP (d,m,dl,())
 (Rose.node ((op,pos,nm,ar,()),()) sb)).fst.subs) l == fulN (dep (Rose.node ((op,pos,nm,ar,()),()) sb)) (Rose.node ((op,pos,nm,ar,()),()) sb) l) = true) ∧ (((True ∧
 wellN (dep (Rose.node ((op,pos,nm,ar,()),()) sb)) (Rose.node ((op,pos,nm,ar,()),()) sb) ∧ (jQf (dep (Rose.node (((tyP (d,m,dl,()) (Rose.node ((op,pos,nm,ar,
 ()),()) sb)).fst.val.fst.fst,(tyP (d,m,dl,()) (Rose.node ((op,pos,nm,ar,()),()) sb)).fst.val.fst.snd.fst,(tyP (d,m,dl,()) (Rose.node ((op,pos,nm,ar,()),())
 sb)).fst.val.fst.snd.snd.fst,(tyP (d,m,dl,()) (Rose.node ((op,pos,nm,ar,()),()) sb)).fst.val.fst.snd.snd.snd.fst,(tyP (d,m,dl,()) (Rose.node ((op,pos,nm,ar,()),
 ()) sb)).fst.val.fst.snd.snd.snd.snd.fst,()),()) (tyP (d,m,dl,()) (Rose.node ((op,pos,nm,ar,()),()) sb)).fst.subs)) (Rose.node (((tyP (d,m,dl,()) (Rose.node ((op,
 pos,nm,ar,()),()) sb)).fst.val.fst.fst,(tyP (d,m,dl,()) (Rose.node ((op,pos,nm,ar,()),()) sb)).fst.val.fst.snd.fst,(tyP (d,m,dl,()) (Rose.node ((op,pos,nm,ar,
 ()),()) sb)).fst.val.fst.snd.snd.fst,(tyP (d,m,dl,()) (Rose.node ((op,pos,nm,ar,()),()) sb)).fst.val.fst.snd.snd.snd.fst,(tyP (d,m,dl,()) (Rose.node ((op,pos,nm,
 ar,()),()) sb)).fst.val.fst.snd.snd.snd.snd.fst,()),()) (tyP (d,m,dl,()) (Rose.node ((op,pos,nm,ar,()),()) sb)).fst.subs) l == fulN (dep (Rose.node ((op,pos,nm,ar,
 ()),()) sb)) (Rose.node ((op,pos,nm,ar,()),()) sb) l) = true) ∧ True ∧ wellN (dep (Rose.node ((op,pos,nm,ar,()),()) sb)) (Rose.node ((op,pos,nm,ar,()),()) sb) ∧
 (jQf (dep (Rose.node (((tyP (d,m,dl,()) (Rose.node ((op,pos,nm,ar,()),()) sb)).fst.val.fst.fst,(tyP (d,m,dl,()) (Rose.node ((op,pos,nm,ar,()),())
 sb)).fst.val.fst.snd.fst,(tyP (d,m,dl,()) (Rose.node ((op,pos,nm,ar,()),()) sb)).fst.val.fst.snd.snd.fst,(tyP (d,m,dl,()) (Rose.node ((op,pos,nm,ar,()),())
 sb)).fst.val.fst.snd.snd.snd.fst,(tyP (d,m,dl,()) (Rose.node ((op,pos,nm,ar,()),()) sb)).fst.val.fst.snd.snd.snd.snd.fst,()),()) (tyP (d,m,dl,()) (Rose.node ((op,
 pos,nm,ar,()),()) sb)).fst.subs)) (Rose.node (((tyP (d,m,dl,()) (Rose.node ((op,pos,nm,ar,()),()) sb)).fst.val.fst.fst,(tyP (d,m,dl,()) (Rose.node ((op,pos,nm,
 ar,()),()) sb)).fst.val.fst.snd.fst,(tyP (d,m,dl,()) (Rose.node ((op,pos,nm,ar,()),()) sb)).fst.val.fst.snd.snd.fst,(tyP (d,m,dl,()) (Rose.node ((op,pos,nm,ar,
 ()),()) sb)).fst.val.fst.snd.snd.snd.fst,(tyP (d,m,dl,()) (Rose.node ((op,pos,nm,ar,()),()) sb)).fst.val.fst.snd.snd.snd.snd.fst,()),()) (tyP (d,m,dl,())
 (Rose.node ((op,pos,nm,ar,()),()) sb)).fst.subs) l == fulN (dep (Rose.node ((op,pos,nm,ar,()),()) sb)) (Rose.node ((op,pos,nm,ar,()),()) sb) l) = true) ∧ True ∧
 wellN (dep (Rose.node ((op,pos,nm,ar,()),()) sb)) (Rose.node ((op,pos,nm,ar,()),()) sb) ∧ (jQf (dep (Rose.node (((tyP (d,m,dl,()) (Rose.node ((op,pos,nm,ar,
 ()),()) sb)).fst.val.fst.fst,(tyP (d,m,dl,()) (Rose.node ((op,pos,nm,ar,()),()) sb)).fst.val.fst.snd.fst,(tyP (d,m,dl,()) (Rose.node ((op,pos,nm,ar,()),())
 sb)).fst.val.fst.snd.snd.fst,(tyP (d,m,dl,()) (Rose.node ((op,pos,nm,ar,()),()) sb)).fst.val.fst.snd.snd.snd.fst,(tyP (d,m,dl,()) (Rose.node ((op,pos,nm,ar,()),
 ()) sb)).fst.val.fst.snd.snd.snd.snd.fst,()),()) (tyP (d,m,dl,()) (Rose.node ((op,pos,nm,ar,()),()) sb)).fst.subs)) (Rose.node (((tyP (d,m,dl,()) (Rose.node ((op,
 pos,nm,ar,()),()) sb)).fst.val.fst.fst,(tyP (d,m,dl,()) (Rose.node ((op,pos,nm,ar,()),()) sb)).fst.val.fst.snd.fst,(tyP (d,m,dl,()) (Rose.node ((op,pos,nm,ar,
 ()),()) sb)).fst.val.fst.snd.snd.fst,(tyP (d,m,dl,()) (Rose.node ((op,pos,nm,ar,()),()) sb)).fst.val.fst.snd.snd.snd.fst,(tyP (d,m,dl,()) (Rose.node ((op,pos,nm,
 ar,()),()) sb)).fst.val.fst.snd.snd.snd.snd.fst,()),()) (tyP (d,m,dl,()) (Rose.node ((op,pos,nm,ar,()),()) sb)).fst.subs) l == fulN (dep (Rose.node ((op,pos,nm,ar,
 ()),()) sb)) (Rose.node ((op,pos,nm,ar,()),()) sb) l) = true) ∧ ((True ∧ wellN (dep (Rose.node ((op,pos,nm,ar,()),()) sb)) (Rose.node ((op,pos,nm,ar,()),()) sb) ∧
 (jQf (dep (Rose.node (((tyP (d,m,dl,()) (Rose.node ((op,pos,nm,ar,()),()) sb)).fst.val.fst.fst,(tyP (d,m,dl,()) (Rose.node ((op,pos,nm,ar,()),())
 sb)).fst.val.fst.snd.fst,(tyP (d,m,dl,()) (Rose.node ((op,pos,nm,ar,()),()) sb)).fst.val.fst.snd.snd.fst,(tyP (d,m,dl,()) (Rose.node ((op,pos,nm,ar,()),())
 sb)).fst.val.fst.snd.snd.snd.fst,(tyP (d,m,dl,()) (Rose.node ((op,pos,nm,ar,()),()) sb)).fst.val.fst.snd.snd.snd.snd.fst,()),()) (tyP (d,m,dl,()) (Rose.node ((op,
 pos,nm,ar,()),()) sb)).fst.subs)) (Rose.node (((tyP (d,m,dl,()) (Rose.node ((op,pos,nm,ar,()),()) sb)).fst.val.fst.fst,(tyP (d,m,dl,()) (Rose.node ((op,pos,nm,
 ar,()),()) sb)).fst.val.fst.snd.fst,(tyP (d,m,dl,()) (Rose.node ((op,pos,nm,ar,()),()) sb)).fst.val.fst.snd.snd.fst,(tyP (d,m,dl,()) (Rose.node ((op,pos,nm,ar,
 ()),()) sb)).fst.val.fst.snd.snd.snd.fst,(tyP (d,m,dl,()) (Rose.node ((op,pos,nm,ar,()),()) sb)).fst.val.fst.snd.snd.snd.snd.fst,()),()) (tyP (d,m,dl,())
 (Rose.node ((op,pos,nm,ar,()),()) sb)).fst.subs) l == fulN (dep (Rose.node ((op,pos,nm,ar,()),()) sb)) (Rose.node ((op,pos,nm,ar,()),()) sb) l) = true) ∧ True ∧
 wellN (dep (Rose.node ((op,pos,nm,ar,()),()) sb)) (Rose.node ((op,pos,nm,ar,()),()) sb) ∧ (jQf (dep (Rose.node (((tyP (d,m,dl,()) (Rose.node ((op,pos,nm,ar,
 ()),()) sb)).fst.val.fst.fst,(tyP (d,m,dl,()) (Rose.node ((op,pos,nm,ar,()),()) sb)).fst.val.fst.snd.fst,(tyP (d,m,dl,()) (Rose.node ((op,pos,nm,ar,()),())
 sb)).fst.val.fst.snd.snd.fst,(tyP (d,m,dl,()) (Rose.node ((op,pos,nm,ar,()),()) sb)).fst.val.fst.snd.snd.snd.fst,(tyP (d,m,dl,()) (Rose.node ((op,pos,nm,ar,()),
 ()) sb)).fst.val.fst.snd.snd.snd.snd.fst,()),()) (tyP (d,m,dl,()) (Rose.node ((op,pos,nm,ar,()),()) sb)).fst.subs)) (Rose.node (((tyP (d,m,dl,()) (Rose.node ((op,
 pos,nm,ar,()),()) sb)).fst.val.fst.fst,(tyP (d,m,dl,()) (Rose.node ((op,pos,nm,ar,()),()) sb)).fst.val.fst.snd.fst,(tyP (d,m,dl,()) (Rose.node ((op,pos,nm,ar,
 ()),()) sb)).fst.val.fst.snd.snd.fst,(tyP (d,m,dl,()) (Rose.node ((op,pos,nm,ar,()),()) sb)).fst.val.fst.snd.snd.snd.fst,(tyP (d,m,dl,()) (Rose.node ((op,pos,nm,
 ar,()),()) sb)).fst.val.fst.snd.snd.snd.snd.fst,()),()) (tyP (d,m,dl,()) (Rose.node ((op,pos,nm,ar,()),()) sb)).fst.subs) l == fulN (dep (Rose.node ((op,pos,nm,ar,
 ()),()) sb)) (Rose.node ((op,pos,nm,ar,()),()) sb) l) = true) ∧ True ∧ wellN (dep (Rose.node ((op,pos,nm,ar,()),()) sb)) (Rose.node ((op,pos,nm,ar,()),()) sb) ∧
 (jQf (dep (Rose.node (((tyP (d,m,dl,()) (Rose.node ((op,pos,nm,ar,()),()) sb)).fst.val.fst.fst,(tyP (d,m,dl,()) (Rose.node ((op,pos,nm,ar,()),())
 sb)).fst.val.fst.snd.fst,(tyP (d,m,dl,()) (Rose.node ((op,pos,nm,ar,()),()) sb)).fst.val.fst.snd.snd.fst,(tyP (d,m,dl,()) (Rose.node ((op,pos,nm,ar,()),())
 sb)).fst.val.fst.snd.snd.snd.fst,(tyP (d,m,dl,()) (Rose.node ((op,pos,nm,ar,()),()) sb)).fst.val.fst.snd.snd.snd.snd.fst,()),()) (tyP (d,m,dl,()) (Rose.node ((op,
 pos,nm,ar,()),()) sb)).fst.subs)) (Rose.node (((tyP (d,m,dl,()) (Rose.node ((op,pos,nm,ar,()),()) sb)).fst.val.fst.fst,(tyP (d,m,dl,()) (Rose.node ((op,pos,nm,
 ar,()),()) sb)).fst.val.fst.snd.fst,(tyP (d,m,dl,()) (Rose.node ((op,pos,nm,ar,()),()) sb)).fst.val.fst.snd.snd.fst,(tyP (d,m,dl,()) (Rose.node ((op,pos,nm,ar,
 ()),()) sb)).fst.val.fst.snd.snd.snd.fst,(tyP (d,m,dl,()) (Rose.node ((op,pos,nm,ar,()),()) sb)).fst.val.fst.snd.snd.snd.snd.fst,()),()) (tyP (d,m,dl,())
 (Rose.node ((op,pos,nm,ar,()),()) sb)).fst.subs) l == fulN (dep (Rose.node ((op,pos,nm,ar,()),()) sb)) (Rose.node ((op,pos,nm,ar,()),()) sb) l) = true) ∧ (true =
 false → ((false = true ∧ false = true) ∧ (false = true ∧ false = true) ∧ false = true ∧ false = true) ∧ ((false = true ∧ false = true) ∧ false = true) ∧ (false = true ∧ false =
 true) ∧ false = true)) ∧ ((true = true → ((True ∧ (wellN (dep (Rose.node ((op,pos,nm,ar,()),()) sb)) (Rose.node ((op,pos,nm,ar,()),()) sb) ∧ (jQf (dep (Rose.node
 (((tyP (d,m,dl,()) (Rose.node ((op,pos,nm,ar,()),()) sb)).fst.val.fst.fst,(tyP (d,m,dl,()) (Rose.node ((op,pos,nm,ar,()),()) sb)).fst.val.fst.snd.fst,(tyP (d,
 m,dl,()) (Rose.node ((op,pos,nm,ar,()),()) sb)).fst.val.fst.snd.snd.fst,(tyP (d,m,dl,()) (Rose.node ((op,pos,nm,ar,()),()) sb)).fst.val.fst.snd.snd.snd.fst,(tyP
 (d,m,dl,()) (Rose.node ((op,pos,nm,ar,()),()) sb)).fst.val.fst.snd.snd.snd.snd.fst,()),()) (tyP (d,m,dl,()) (Rose.node ((op,pos,nm,ar,()),()) sb)).fst.subs))
 (Rose.node (((tyP (d,m,dl,()) (Rose.node ((op,pos,nm,ar,()),()) sb)).fst.val.fst.fst,(tyP (d,m,dl,()) (Rose.node ((op,pos,nm,ar,()),()) sb)).fst.val.fst.snd.fst,
 (tyP (d,m,dl,()) (Rose.node ((op,pos,nm,ar,()),()) sb)).fst.val.fst.snd.snd.fst,(tyP (d,m,dl,()) (Rose.node ((op,pos,nm,ar,()),())
 sb)).fst.val.fst.snd.snd.snd.fst,(tyP (d,m,dl,()) (Rose.node ((op,pos,nm,ar,()),()) sb)).fst.val.fst.snd.snd.snd.snd.fst,()),()) (tyP (d,m,dl,()) (Rose.node ((op,
 pos,nm,ar,()),()) sb)).fst.subs) l == fulN (dep (Rose.node ((op,pos,nm,ar,()),()) sb)) (Rose.node ((op,pos,nm,ar,()),()) sb) l) = true) ∧ wellN (dep (Rose.node
 ((op,pos,nm,ar,()),()) sb)) (Rose.node ((op,pos,nm,ar,()),()) sb) ∧ (jQf (dep (Rose.node (((tyP (d,m,dl,()) (Rose.node ((op,pos,nm,ar,()),())
 sb)).fst.val.fst.fst,(tyP (d,m,dl,()) (Rose.node ((op,pos,nm,ar,()),()) sb)).fst.val.fst.snd.fst,(tyP (d,m,dl,()) (Rose.node ((op,pos,nm,ar,()),())
 sb)).fst.val.fst.snd.snd.fst,(tyP (d,m,dl,()) (Rose.node ((op,pos,nm,ar,()),()) sb)).fst.val.fst.snd.snd.snd.fst,(tyP (d,m,dl,()) (Rose.node ((op,pos,nm,ar,()),
 ()) sb)).fst.val.fst.snd.snd.snd.snd.fst,()),()) (tyP (d,m,dl,()) (Rose.node ((op,pos,nm,ar,()),()) sb)).fst.subs)) (Rose.node (((tyP (d,m,dl,()) (Rose.node ((op,
 pos,nm,ar,()),()) sb)).fst.val.fst.fst,(tyP (d,m,dl,()) (Rose.node ((op,pos,nm,ar,()),()) sb)).fst.val.fst.snd.fst,(tyP (d,m,dl,()) (Rose.node ((op,pos,nm,ar,
 ()),()) sb)).fst.val.fst.snd.snd.fst,(tyP (d,m,dl,()) (Rose.node ((op,pos,nm,ar,()),()) sb)).fst.val.fst.snd.snd.snd.fst,(tyP (d,m,dl,()) (Rose.node ((op,pos,nm,
 ar,()),()) sb)).fst.val.fst.snd.snd.snd.snd.fst,()),()) (tyP (d,m,dl,()) (Rose.node ((op,pos,nm,ar,()),()) sb)).fst.subs) l == fulN (dep (Rose.node ((op,pos,nm,ar,
 ()),()) sb)) (Rose.node ((op,pos,nm,ar,()),()) sb) l) = true) ∧ ((True ∧ wellN (dep (Rose.node ((op,pos,nm,ar,()),()) sb)) (Rose.node ((op,pos,nm,ar,()),()) sb) ∧
 (jQf (dep (Rose.node (((tyP (d,m,dl,()) (Rose.node ((op,pos,nm,ar,()),()) sb)).fst.val.fst.fst,(tyP (d,m,dl,()) (Rose.node ((op,pos,nm,ar,()),())
 sb)).fst.val.fst.snd.fst,(tyP (d,m,dl,()) (Rose.node ((op,pos,nm,ar,()),()) sb)).fst.val.fst.snd.snd.fst,(tyP (d,m,dl,()) (Rose.node ((op,pos,nm,ar,()),())
 sb)).fst.val.fst.snd.snd.snd.fst,(tyP (d,m,dl,()) (Rose.node ((op,pos,nm,ar,()),()) sb)).fst.val.fst.snd.snd.snd.snd.fst,()),()) (tyP (d,m,dl,()) (Rose.node ((op,
 pos,nm,ar,()),()) sb)).fst.subs)) (Rose.node (((tyP (d,m,dl,()) (Rose.node ((op,pos,nm,ar,()),()) sb)).fst.val.fst.fst,(tyP (d,m,dl,()) (Rose.node ((op,pos,nm,
 ar,()),()) sb)).fst.val.fst.snd.fst,(tyP (d,m,dl,()) (Rose.node ((op,pos,nm,ar,()),()) sb)).fst.val.fst.snd.snd.fst,(tyP (d,m,dl,()) (Rose.node ((op,pos,nm,ar,
 ()),()) sb)).fst.val.fst.snd.snd.snd.fst,(tyP (d,m,dl,()) (Rose.node ((op,pos,nm,ar,()),()) sb)).fst.val.fst.snd.snd.snd.snd.fst,()),()) (tyP (d,m,dl,())
 (Rose.node ((op,pos,nm,ar,()),()) sb)).fst.subs) l == fulN (dep (Rose.node ((op,pos,nm,ar,()),()) sb)) (Rose.node ((op,pos,nm,ar,()),()) sb) l) = true) ∧ True ∧
 wellN (dep (Rose.node ((op,pos,nm,ar,()),()) sb)) (Rose.node ((op,pos,nm,ar,()),()) sb) ∧ (jQf (dep (Rose.node (((tyP (d,m,dl,()) (Rose.node ((op,pos,nm,ar,
 ()),()) sb)).fst.val.fst.fst,(tyP (d,m,dl,()) (Rose.node ((op,pos,nm,ar,()),()) sb)).fst.val.fst.snd.fst,(tyP (d,m,dl,()) (Rose.node ((op,pos,nm,ar,()),())
 sb)).fst.val.fst.snd.snd.fst,(tyP (d,m,dl,()) (Rose.node ((op,pos,nm,ar,()),()) sb)).fst.val.fst.snd.snd.snd.fst,(tyP (d,m,dl,()) (Rose.node ((op,pos,nm,ar,()),
 ()) sb)).fst.val.fst.snd.snd.snd.snd.fst,()),()) (tyP (d,m,dl,()) (Rose.node ((op,pos,nm,ar,()),()) sb)).fst.subs)) (Rose.node (((tyP (d,m,dl,()) (Rose.node ((op,
 pos,nm,ar,()),()) sb)).fst.val.fst.fst,(tyP (d,m,dl,()) (Rose.node ((op,pos,nm,ar,()),()) sb)).fst.val.fst.snd.fst,(tyP (d,m,dl,()) (Rose.node ((op,pos,nm,ar,
 ()),()) sb)).fst.val.fst.snd.snd.fst,(tyP (d,m,dl,()) (Rose.node ((op,pos,nm,ar,()),()) sb)).fst.val.fst.snd.snd.snd.fst,(tyP (d,m,dl,()) (Rose.node ((op,pos,nm,
 ar,()),()) sb)).fst.val.fst.snd.snd.snd.snd.fst,()),()) (tyP (d,m,dl,()) (Rose.node ((op,pos,nm,ar,()),()) sb)).fst.subs) l == fulN (dep (Rose.node ((op,pos,nm,ar,
 ()),()) sb)) (Rose.node ((op,pos,nm,ar,()),()) sb) l) = true) ∧ (True ∧ wellN (dep (Rose.node ((op,pos,nm,ar,()),()) sb)) (Rose.node ((op,pos,nm,ar,()),()) sb) ∧
 (jQf (dep (Rose.node (((tyP (d,m,dl,()) (Rose.node ((op,pos,nm,ar,()),()) sb)).fst.val.fst.fst,(tyP (d,m,dl,()) (Rose.node ((op,pos,nm,ar,()),())
 sb)).fst.val.fst.snd.fst,(tyP (d,m,dl,()) (Rose.node ((op,pos,nm,ar,()),()) sb)).fst.val.fst.snd.snd.fst,(tyP (d,m,dl,()) (Rose.node ((op,pos,nm,ar,()),())
 sb)).fst.val.fst.snd.snd.snd.fst,(tyP (d,m,dl,()) (Rose.node ((op,pos,nm,ar,()),()) sb)).fst.val.fst.snd.snd.snd.snd.fst,()),()) (tyP (d,m,dl,()) (Rose.node ((op,
 pos,nm,ar,()),()) sb)).fst.subs)) (Rose.node (((tyP (d,m,dl,()) (Rose.node ((op,pos,nm,ar,()),()) sb)).fst.val.fst.fst,(tyP (d,m,dl,()) (Rose.node ((op,pos,nm,
 ar,()),()) sb)).fst.val.fst.snd.fst,(tyP (d,m,dl,()) (Rose.node ((op,pos,nm,ar,()),()) sb)).fst.val.fst.snd.snd.fst,(tyP (d,m,dl,()) (Rose.node ((op,pos,nm,ar,
 ()),()) sb)).fst.val.fst.snd.snd.snd.fst,(tyP (d,m,dl,()) (Rose.node ((op,pos,nm,ar,()),()) sb)).fst.val.fst.snd.snd.snd.snd.fst,()),()) (tyP (d,m,dl,())
 (Rose.node ((op,pos,nm,ar,()),()) sb)).fst.subs) l == fulN (dep (Rose.node ((op,pos,nm,ar,()),()) sb)) (Rose.node ((op,pos,nm,ar,()),()) sb) l) = true) ∧ True ∧
 wellN (dep (Rose.node ((op,pos,nm,ar,()),()) sb)) (Rose.node ((op,pos,nm,ar,()),()) sb) ∧ (jQf (dep (Rose.node (((tyP (d,m,dl,()) (Rose.node ((op,pos,nm,ar,
 ()),()) sb)).fst.val.fst.fst,(tyP (d,m,dl,()) (Rose.node ((op,pos,nm,ar,()),()) sb)).fst.val.fst.snd.fst,(tyP (d,m,dl,()) (Rose.node ((op,pos,nm,ar,()),())
 sb)).fst.val.fst.snd.snd.fst,(tyP (d,m,dl,()) (Rose.node ((op,pos,nm,ar,()),()) sb)).fst.val.fst.snd.snd.snd.fst,(tyP (d,m,dl,()) (Rose.node ((op,pos,nm,ar,()),
 ()) sb)).fst.val.fst.snd.snd.snd.snd.fst,()),()) (tyP (d,m,dl,()) (Rose.node ((op,pos,nm,ar,()),()) sb)).fst.subs)) (Rose.node (((tyP (d,m,dl,()) (Rose.node ((op,
 pos,nm,ar,()),()) sb)).fst.val.fst.fst,(tyP (d,m,dl,()) (Rose.node ((op,pos,nm,ar,()),()) sb)).fst.val.fst.snd.fst,(tyP (d,m,dl,()) (Rose.node ((op,pos,nm,ar,
 ()),()) sb)).fst.val.fst.snd.snd.fst,(tyP (d,m,dl,()) (Rose.node ((op,pos,nm,ar,()),()) sb)).fst.val.fst.snd.snd.snd.fst,(tyP (d,m,dl,()) (Rose.node ((op,pos,nm,
 ar,()),()) sb)).fst.val.fst.snd.snd.snd.snd.fst,()),()) (tyP (d,m,dl,()) (Rose.node ((op,pos,nm,ar,()),()) sb)).fst.subs) l == fulN (dep (Rose.node ((op,pos,nm,ar,
 ()),()) sb)) (Rose.node ((op,pos,nm,ar,()),()) sb) l) = true) ∧ (((True ∧ wellN (dep (Rose.node ((op,pos,nm,ar,()),()) sb)) (Rose.node ((op,pos,nm,ar,()),()) sb)
 ∧ (jQf (dep (Rose.node (((tyP (d,m,dl,()) (Rose.node ((op,pos,nm,ar,()),()) sb)).fst.val.fst.fst,(tyP (d,m,dl,()) (Rose.node ((op,pos,nm,ar,()),())
 sb)).fst.val.fst.snd.fst,(tyP (d,m,dl,()) (Rose.node ((op,pos,nm,ar,()),()) sb)).fst.val.fst.snd.snd.fst,(tyP (d,m,dl,()) (Rose.node ((op,pos,nm,ar,()),())
 sb)).fst.val.fst.snd.snd.snd.fst,(tyP (d,m,dl,()) (Rose.node ((op,pos,nm,ar,()),()) sb)).fst.val.fst.snd.snd.snd.snd.fst,()),()) (tyP (d,m,dl,()) (Rose.node ((op,
 pos,nm,ar,()),()) sb)).fst.subs)) (Rose.node (((tyP (d,m,dl,()) (Rose.node ((op,pos,nm,ar,()),()) sb)).fst.val.fst.fst,(tyP (d,m,dl,()) (Rose.node ((op,pos,nm,
 ar,()),()) sb)).fst.val.fst.snd.fst,(tyP (d,m,dl,()) (Rose.node ((op,pos,nm,ar,()),()) sb)).fst.val.fst.snd.snd.fst,(tyP (d,m,dl,()) (Rose.node ((op,pos,nm,ar,
 ()),()) sb)).fst.val.fst.snd.snd.snd.fst,(tyP (d,m,dl,()) (Rose.node ((op,pos,nm,ar,()),()) sb)).fst.val.fst.snd.snd.snd.snd.fst,()),()) (tyP (d,m,dl,())
 (Rose.node ((op,pos,nm,ar,()),()) sb)).fst.subs) l == fulN (dep (Rose.node ((op,pos,nm,ar,()),()) sb)) (Rose.node ((op,pos,nm,ar,()),()) sb) l) = true) ∧ True ∧
 wellN (dep (Rose.node ((op,pos,nm,ar,()),()) sb)) (Rose.node ((op,pos,nm,ar,()),()) sb) ∧ (jQf (dep (Rose.node (((tyP (d,m,dl,()) (Rose.node ((op,pos,nm,ar,
 ()),()) sb)).fst.val.fst.fst,(tyP (d,m,dl,()) (Rose.node ((op,pos,nm,ar,()),()) sb)).fst.val.fst.snd.fst,(tyP (d,m,dl,()) (Rose.node ((op,pos,nm,ar,()),())
 sb)).fst.val.fst.snd.snd.fst,(tyP (d,m,dl,()) (Rose.node ((op,pos,nm,ar,()),()) sb)).fst.val.fst.snd.snd.snd.fst,(tyP (d,m,dl,()) (Rose.node ((op,pos,nm,ar,()),
 ()) sb)).fst.val.fst.snd.snd.snd.snd.fst,()),()) (tyP (d,m,dl,()) (Rose.node ((op,pos,nm,ar,()),()) sb)).fst.subs)) (Rose.node (((tyP (d,m,dl,()) (Rose.node ((op,
 pos,nm,ar,()),()) sb)).fst.val.fst.fst,(tyP (d,m,dl,()) (Rose.node ((op,pos,nm,ar,()),()) sb)).fst.val.fst.snd.fst,(tyP (d,m,dl,()) (Rose.node ((op,pos,nm,ar,
 ()),()) sb)).fst.val.fst.snd.snd.fst,(tyP (d,m,dl,()) (Rose.node ((op,pos,nm,ar,()),()) sb)).fst.val.fst.snd.snd.snd.fst,(tyP (d,m,dl,()) (Rose.node ((op,pos,nm,
 ar,()),()) sb)).fst.val.fst.snd.snd.snd.snd.fst,()),()) (tyP (d,m,dl,()) (Rose.node ((op,pos,nm,ar,()),()) sb)).fst.subs) l == fulN (dep (Rose.node ((op,pos,nm,ar,
 ()),()) sb)) (Rose.node ((op,pos,nm,ar,()),()) sb) l) = true) ∧ True ∧ wellN (dep (Rose.node ((op,pos,nm,ar,()),()) sb)) (Rose.node ((op,pos,nm,ar,()),()) sb) ∧
 (jQf (dep (Rose.node (((tyP (d,m,dl,()) (Rose.node ((op,pos,nm,ar,()),()) sb)).fst.val.fst.fst,(tyP (d,m,dl,()) (Rose.node ((op,pos,nm,ar,()),())
 sb)).fst.val.fst.snd.fst,(tyP (d,m,dl,()) (Rose.node ((op,pos,nm,ar,()),()) sb)).fst.val.fst.snd.snd.fst,(tyP (d,m,dl,()) (Rose.node ((op,pos,nm,ar,()),())
 sb)).fst.val.fst.snd.snd.snd.fst,(tyP (d,m,dl,()) (Rose.node ((op,pos,nm,ar,()),()) sb)).fst.val.fst.snd.snd.snd.snd.fst,()),()) (tyP (d,m,dl,()) (Rose.node ((op,
 pos,nm,ar,()),()) sb)).fst.subs)) (Rose.node (((tyP (d,m,dl,()) (Rose.node ((op,pos,nm,ar,()),()) sb)).fst.val.fst.fst,(tyP (d,m,dl,()) (Rose.node ((op,pos,nm,
 ar,()),()) sb)).fst.val.fst.snd.fst,(tyP (d,m,dl,()) (Rose.node ((op,pos,nm,ar,()),()) sb)).fst.val.fst.snd.snd.fst,(tyP (d,m,dl,()) (Rose.node ((op,pos,nm,ar,
 ()),()) sb)).fst.val.fst.snd.snd.snd.fst,(tyP (d,m,dl,()) (Rose.node ((op,pos,nm,ar,()),()) sb)).fst.val.fst.snd.snd.snd.snd.fst,()),()) (tyP (d,m,dl,())
 (Rose.node ((op,pos,nm,ar,()),()) sb)).fst.subs) l == fulN (dep (Rose.node ((op,pos,nm,ar,()),()) sb)) (Rose.node ((op,pos,nm,ar,()),()) sb) l) = true) ∧ ((True ∧
 wellN (dep (Rose.node ((op,pos,nm,ar,()),()) sb)) (Rose.node ((op,pos,nm,ar,()),()) sb) ∧ (jQf (dep (Rose.node (((tyP (d,m,dl,()) (Rose.node ((op,pos,nm,ar,
 ()),()) sb)).fst.val.fst.fst,(tyP (d,m,dl,()) (Rose.node ((op,pos,nm,ar,()),()) sb)).fst.val.fst.snd.fst,(tyP (d,m,dl,()) (Rose.node ((op,pos,nm,ar,()),())
 sb)).fst.val.fst.snd.snd.fst,(tyP (d,m,dl,()) (Rose.node ((op,pos,nm,ar,()),()) sb)).fst.val.fst.snd.snd.snd.fst,(tyP (d,m,dl,()) (Rose.node ((op,pos,nm,ar,()),
 ()) sb)).fst.val.fst.snd.snd.snd.snd.fst,()),()) (tyP (d,m,dl,()) (Rose.node ((op,pos,nm,ar,()),()) sb)).fst.subs)) (Rose.node (((tyP (d,m,dl,()) (Rose.node ((op,
 pos,nm,ar,()),()) sb)).fst.val.fst.fst,(tyP (d,m,dl,()) (Rose.node ((op,pos,nm,ar,()),()) sb)).fst.val.fst.snd.fst,(tyP (d,m,dl,()) (Rose.node ((op,pos,nm,ar,
 ()),()) sb)).fst.val.fst.snd.snd.fst,(tyP (d,m,dl,()) (Rose.node ((op,pos,nm,ar,()),()) sb)).fst.val.fst.snd.snd.snd.fst,(tyP (d,m,dl,()) (Rose.node ((op,pos,nm,
 ar,()),()) sb)).fst.val.fst.snd.snd.snd.snd.fst,()),()) (tyP (d,m,dl,()) (Rose.node ((op,pos,nm,ar,()),()) sb)).fst.subs) l == fulN (dep (Rose.node ((op,pos,nm,ar,
 ()),()) sb)) (Rose.node ((op,pos,nm,ar,()),()) sb) l) = true) ∧ True ∧ wellN (dep (Rose.node ((op,pos,nm,ar,()),()) sb)) (Rose.node ((op,pos,nm,ar,()),()) sb) ∧
 (jQf (dep (Rose.node (((tyP (d,m,dl,()) (Rose.node ((op,pos,nm,ar,()),()) sb)).fst.val.fst.fst,(tyP (d,m,dl,()) (Rose.node ((op,pos,nm,ar,()),())
 sb)).fst.val.fst.snd.fst,(tyP (d,m,dl,()) (Rose.node ((op,pos,nm,ar,()),()) sb)).fst.val.fst.snd.snd.fst,(tyP (d,m,dl,()) (Rose.node ((op,pos,nm,ar,()),())
 sb)).fst.val.fst.snd.snd.snd.fst,(tyP (d,m,dl,()) (Rose.node ((op,pos,nm,ar,()),()) sb)).fst.val.fst.snd.snd.snd.snd.fst,()),()) (tyP (d,m,dl,()) (Rose.node ((op,
 pos,nm,ar,()),()) sb)).fst.subs)) (Rose.node (((tyP (d,m,dl,()) (Rose.node ((op,pos,nm,ar,()),()) sb)).fst.val.fst.fst,(tyP (d,m,dl,()) (Rose.node ((op,pos,nm,
 ar,()),()) sb)).fst.val.fst.snd.fst,(tyP (d,m,dl,()) (Rose.node ((op,pos,nm,ar,()),()) sb)).fst.val.fst.snd.snd.fst,(tyP (d,m,dl,()) (Rose.node ((op,pos,nm,ar,
 ()),()) sb)).fst.val.fst.snd.snd.snd.fst,(tyP (d,m,dl,()) (Rose.node ((op,pos,nm,ar,()),()) sb)).fst.val.fst.snd.snd.snd.snd.fst,()),()) (tyP (d,m,dl,())
 (Rose.node ((op,pos,nm,ar,()),()) sb)).fst.subs) l == fulN (dep (Rose.node ((op,pos,nm,ar,()),()) sb)) (Rose.node ((op,pos,nm,ar,()),()) sb) l) = true) ∧ True ∧
 wellN (dep (Rose.node ((op,pos,nm,ar,()),()) sb)) (Rose.node ((op,pos,nm,ar,()),()) sb) ∧ (jQf (dep (Rose.node (((tyP (d,m,dl,()) (Rose.node ((op,pos,nm,ar,
 ()),()) sb)).fst.val.fst.fst,(tyP (d,m,dl,()) (Rose.node ((op,pos,nm,ar,()),()) sb)).fst.val.fst.snd.fst,(tyP (d,m,dl,()) (Rose.node ((op,pos,nm,ar,()),())
 sb)).fst.val.fst.snd.snd.fst,(tyP (d,m,dl,()) (Rose.node ((op,pos,nm,ar,()),()) sb)).fst.val.fst.snd.snd.snd.fst,(tyP (d,m,dl,()) (Rose.node ((op,pos,nm,ar,()),
 ()) sb)).fst.val.fst.snd.snd.snd.snd.fst,()),()) (tyP (d,m,dl,()) (Rose.node ((op,pos,nm,ar,()),()) sb)).fst.subs)) (Rose.node (((tyP (d,m,dl,()) (Rose.node ((op,
 pos,nm,ar,()),()) sb)).fst.val.fst.fst,(tyP (d,m,dl,()) (Rose.node ((op,pos,nm,ar,()),()) sb)).fst.val.fst.snd.fst,(tyP (d,m,dl,()) (Rose.node ((op,pos,nm,ar,
 ()),()) sb)).fst.val.fst.snd.snd.fst,(tyP (d,m,dl,()) (Rose.node ((op,pos,nm,ar,()),()) sb)).fst.val.fst.snd.snd.snd.fst,(tyP (d,m,dl,()) (Rose.node ((op,pos,nm,
 ar,()),()) sb)).fst.val.fst.snd.snd.snd.snd.fst,()),()) (tyP (d,m,dl,()) (Rose.node ((op,pos,nm,ar,()),()) sb)).fst.subs) l == fulN (dep (Rose.node ((op,pos,nm,ar,
 ()),()) sb)) (Rose.node ((op,pos,nm,ar,()),()) sb) l) = true) ∧ (true = false → ((false = true ∧ false = true) ∧ (false = true ∧ false = true) ∧ false = true ∧ false =
 true) ∧ ((false = true ∧ false = true) ∧ false = true) ∧ (false = true ∧ false = true) ∧ false = true)) ∧ ((true = true → (((True ∧ wellN (dep (Rose.node ((op,pos,nm,ar,()),
 ()) sb)) (Rose.node ((op,pos,nm,ar,()),()) sb) ∧ (jQf (dep (Rose.node (((tyP (d,m,dl,()) (Rose.node ((op,pos,nm,ar,()),()) sb)).fst.val.fst.fst,(tyP (d,m,dl,
 ()) (Rose.node ((op,pos,nm,ar,()),()) sb)).fst.val.fst.snd.fst,(tyP (d,m,dl,()) (Rose.node ((op,pos,nm,ar,()),()) sb)).fst.val.fst.snd.snd.fst,(tyP (d,m,dl,())
 (Rose.node ((op,pos,nm,ar,()),()) sb)).fst.val.fst.snd.snd.snd.fst,(tyP (d,m,dl,()) (Rose.node ((op,pos,nm,ar,()),()) sb)).fst.val.fst.snd.snd.snd.snd.fst,()),())
 (tyP (d,m,dl,()) (Rose.node ((op,pos,nm,ar,()),()) sb)).fst.subs)) (Rose.node (((tyP (d,m,dl,()) (Rose.node ((op,pos,nm,ar,()),()) sb)).fst.val.fst.fst,(tyP (d,
 m,dl,()) (Rose.node ((op,pos,nm,ar,()),()) sb)).fst.val.fst.snd.fst,(tyP (d,m,dl,()) (Rose.node ((op,pos,nm,ar,()),()) sb)).fst.val.fst.snd.snd.fst,(tyP (d,m,
 dl,()) (Rose.node ((op,pos,nm,ar,()),()) sb)).fst.val.fst.snd.snd.snd.fst,(tyP (d,m,dl,()) (Rose.node ((op,pos,nm,ar,()),()) sb)).fst.val.fst.snd.snd.snd.snd.fst,
 ()),()) (tyP (d,m,dl,()) (Rose.node ((op,pos,nm,ar,()),()) sb)).fst.subs) l == fulN (dep (Rose.node ((op,pos,nm,ar,()),()) sb)) (Rose.node ((op,pos,nm,ar,()),
 ()) sb) l) = true) ∧ True ∧ wellN (dep (Rose.node ((op,pos,nm,ar,()),()) sb)) (Rose.node ((op,pos,nm,ar,()),()) sb) ∧ (jQf (dep (Rose.node (((tyP (d,m,dl,())
 (Rose.node ((op,pos,nm,ar,()),()) sb)).fst.val.fst.fst,(tyP (d,m,dl,()) (Rose.node ((op,pos,nm,ar,()),()) sb)).fst.val.fst.snd.fst,(tyP (d,m,dl,()) (Rose.node
 ((op,pos,nm,ar,()),()) sb)).fst.val.fst.snd.snd.fst,(tyP (d,m,dl,()) (Rose.node ((op,pos,nm,ar,()),()) sb)).fst.val.fst.snd.snd.snd.fst,(tyP (d,m,dl,())
 (Rose.node ((op,pos,nm,ar,()),()) sb)).fst.val.fst.snd.snd.snd.snd.fst,()),()) (tyP (d,m,dl,()) (Rose.node ((op,pos,nm,ar,()),()) sb)).fst.subs)) (Rose.node (((tyP
 (d,m,dl,()) (Rose.node ((op,pos,nm,ar,()),()) sb)).fst.val.fst.fst,(tyP (d,m,dl,()) (Rose.node ((op,pos,nm,ar,()),()) sb)).fst.val.fst.snd.fst,(tyP (d,m,dl,
 ()) (Rose.node ((op,pos,nm,ar,()),()) sb)).fst.val.fst.snd.snd.fst,(tyP (d,m,dl,()) (Rose.node ((op,pos,nm,ar,()),()) sb)).fst.val.fst.snd.snd.snd.fst,(tyP (d,m,
 dl,()) (Rose.node ((op,pos,nm,ar,()),()) sb)).fst.val.fst.snd.snd.snd.snd.fst,()),()) (tyP (d,m,dl,()) (Rose.node ((op,pos,nm,ar,()),()) sb)).fst.subs) l == fulN
 (dep (Rose.node ((op,pos,nm,ar,()),()) sb)) (Rose.node ((op,pos,nm,ar,()),()) sb) l) = true) ∧ True ∧ wellN (dep (Rose.node ((op,pos,nm,ar,()),()) sb)) (Rose.node
 ((op,pos,nm,ar,()),()) sb) ∧ (jQf (dep (Rose.node (((tyP (d,m,dl,()) (Rose.node ((op,pos,nm,ar,()),()) sb)).fst.val.fst.fst,(tyP (d,m,dl,()) (Rose.node ((op,
 pos,nm,ar,()),()) sb)).fst.val.fst.snd.fst,(tyP (d,m,dl,()) (Rose.node ((op,pos,nm,ar,()),()) sb)).fst.val.fst.snd.snd.fst,(tyP (d,m,dl,()) (Rose.node ((op,pos,
 nm,ar,()),()) sb)).fst.val.fst.snd.snd.snd.fst,(tyP (d,m,dl,()) (Rose.node ((op,pos,nm,ar,()),()) sb)).fst.val.fst.snd.snd.snd.snd.fst,()),()) (tyP (d,m,dl,())
 (Rose.node ((op,pos,nm,ar,()),()) sb)).fst.subs)) (Rose.node (((tyP (d,m,dl,()) (Rose.node ((op,pos,nm,ar,()),()) sb)).fst.val.fst.fst,(tyP (d,m,dl,())
 (Rose.node ((op,pos,nm,ar,()),()) sb)).fst.val.fst.snd.fst,(tyP (d,m,dl,()) (Rose.node ((op,pos,nm,ar,()),()) sb)).fst.val.fst.snd.snd.fst,(tyP (d,m,dl,())
 (Rose.node ((op,pos,nm,ar,()),()) sb)).fst.val.fst.snd.snd.snd.fst,(tyP (d,m,dl,()) (Rose.node ((op,pos,nm,ar,()),()) sb)).fst.val.fst.snd.snd.snd.snd.fst,()),())
 (tyP (d,m,dl,()) (Rose.node ((op,pos,nm,ar,()),()) sb)).fst.subs) l == fulN (dep (Rose.node ((op,pos,nm,ar,()),()) sb)) (Rose.node ((op,pos,nm,ar,()),()) sb) l)
 = true) ∧ (((True ∧ wellN (dep (Rose.node ((op,pos,nm,ar,()),()) sb)) (Rose.node ((op,pos,nm,ar,()),()) sb) ∧ (jQf (dep (Rose.node (((tyP (d,m,dl,()) (Rose.node
 ((op,pos,nm,ar,()),()) sb)).fst.val.fst.fst,(tyP (d,m,dl,()) (Rose.node ((op,pos,nm,ar,()),()) sb)).fst.val.fst.snd.fst,(tyP (d,m,dl,()) (Rose.node ((op,pos,
 nm,ar,()),()) sb)).fst.val.fst.snd.snd.fst,(tyP (d,m,dl,()) (Rose.node ((op,pos,nm,ar,()),()) sb)).fst.val.fst.snd.snd.snd.fst,(tyP (d,m,dl,()) (Rose.node ((op,
 pos,nm,ar,()),()) sb)).fst.val.fst.snd.snd.snd.snd.fst,()),()) (tyP (d,m,dl,()) (Rose.node ((op,pos,nm,ar,()),()) sb)).fst.subs)) (Rose.node (((tyP (d,m,dl,())
 (Rose.node ((op,pos,nm,ar,()),()) sb)).fst.val.fst.fst,(tyP (d,m,dl,()) (Rose.node ((op,pos,nm,ar,()),()) sb)).fst.val.fst.snd.fst,(tyP (d,m,dl,()) (Rose.node
 ((op,pos,nm,ar,()),()) sb)).fst.val.fst.snd.snd.fst,(tyP (d,m,dl,()) (Rose.node ((op,pos,nm,ar,()),()) sb)).fst.val.fst.snd.snd.snd.fst,(tyP (d,m,dl,())
 (Rose.node ((op,pos,nm,ar,()),()) sb)).fst.val.fst.snd.snd.snd.snd.fst,()),()) (tyP (d,m,dl,()) (Rose.node ((op,pos,nm,ar,()),()) sb)).fst.subs) l == fulN (dep
 (Rose.node ((op,pos,nm,ar,()),()) sb)) (Rose.node ((op,pos,nm,ar,()),()) sb) l) = true) ∧ True ∧ wellN (dep (Rose.node ((op,pos,nm,ar,()),()) sb)) (Rose.node ((op,
 pos,nm,ar,()),()) sb) ∧ (jQf (dep (Rose.node (((tyP (d,m,dl,()) (Rose.node ((op,pos,nm,ar,()),()) sb)).fst.val.fst.fst,(tyP (d,m,dl,()) (Rose.node ((op,pos,
 nm,ar,()),()) sb)).fst.val.fst.snd.fst,(tyP (d,m,dl,()) (Rose.node ((op,pos,nm,ar,()),()) sb)).fst.val.fst.snd.snd.fst,(tyP (d,m,dl,()) (Rose.node ((op,pos,nm,
 ar,()),()) sb)).fst.val.fst.snd.snd.snd.fst,(tyP (d,m,dl,()) (Rose.node ((op,pos,nm,ar,()),()) sb)).fst.val.fst.snd.snd.snd.snd.fst,()),()) (tyP (d,m,dl,())
 (Rose.node ((op,pos,nm,ar,()),()) sb)).fst.subs)) (Rose.node (((tyP (d,m,dl,()) (Rose.node ((op,pos,nm,ar,()),()) sb)).fst.val.fst.fst,(tyP (d,m,dl,())
 (Rose.node ((op,pos,nm,ar,()),()) sb)).fst.val.fst.snd.fst,(tyP (d,m,dl,()) (Rose.node ((op,pos,nm,ar,()),()) sb)).fst.val.fst.snd.snd.fst,(tyP (d,m,dl,())
 (Rose.node ((op,pos,nm,ar,()),()) sb)).fst.val.fst.snd.snd.snd.fst,(tyP (d,m,dl,()) (Rose.node ((op,pos,nm,ar,()),()) sb)).fst.val.fst.snd.snd.snd.snd.fst,()),())
 (tyP (d,m,dl,()) (Rose.node ((op,pos,nm,ar,()),()) sb)).fst.subs) l == fulN (dep (Rose.node ((op,pos,nm,ar,()),()) sb)) (Rose.node ((op,pos,nm,ar,()),()) sb) l)
 = true) ∧ True ∧ wellN (dep (Rose.node ((op,pos,nm,ar,()),()) sb)) (Rose.node ((op,pos,nm,ar,()),()) sb) ∧ (jQf (dep (Rose.node (((tyP (d,m,dl,()) (Rose.node
 ((op,pos,nm,ar,()),()) sb)).fst.val.fst.fst,(tyP (d,m,dl,()) (Rose.node ((op,pos,nm,ar,()),()) sb)).fst.val.fst.snd.fst,(tyP (d,m,dl,()) (Rose.node ((op,pos,
 nm,ar,()),()) sb)).fst.val.fst.snd.snd.fst,(tyP (d,m,dl,()) (Rose.node ((op,pos,nm,ar,()),()) sb)).fst.val.fst.snd.snd.snd.fst,(tyP (d,m,dl,()) (Rose.node ((op,
 pos,nm,ar,()),()) sb)).fst.val.fst.snd.snd.snd.snd.fst,()),()) (tyP (d,m,dl,()) (Rose.node ((op,pos,nm,ar,()),()) sb)).fst.subs)) (Rose.node (((tyP (d,m,dl,())
 (Rose.node ((op,pos,nm,ar,()),()) sb)).fst.val.fst.fst,(tyP (d,m,dl,()) (Rose.node ((op,pos,nm,ar,()),()) sb)).fst.val.fst.snd.fst,(tyP (d,m,dl,()) (Rose.node
 ((op,pos,nm,ar,()),()) sb)).fst.val.fst.snd.snd.fst,(tyP (d,m,dl,()) (Rose.node ((op,pos,nm,ar,()),()) sb)).fst.val.fst.snd.snd.snd.fst,(tyP (d,m,dl,())
 (Rose.node ((op,pos,nm,ar,()),()) sb)).fst.val.fst.snd.snd.snd.snd.fst,()),()) (tyP (d,m,dl,()) (Rose.node ((op,pos,nm,ar,()),()) sb)).fst.subs) l == fulN (dep
 (Rose.node ((op,pos,nm,ar,()),()) sb)) (Rose.node ((op,pos,nm,ar,()),()) sb) l) = true) ∧ (True ∧ wellN (dep (Rose.node ((op,pos,nm,ar,()),()) sb)) (Rose.node
 ((op,pos,nm,ar,()),()) sb) ∧ (jQf (dep (Rose.node (((tyP (d,m,dl,()) (Rose.node ((op,pos,nm,ar,()),()) sb)).fst.val.fst.fst,(tyP (d,m,dl,()) (Rose.node ((op,
 pos,nm,ar,()),()) sb)).fst.val.fst.snd.fst,(tyP (d,m,dl,()) (Rose.node ((op,pos,nm,ar,()),()) sb)).fst.val.fst.snd.snd.fst,(tyP (d,m,dl,()) (Rose.node ((op,pos,
 nm,ar,()),()) sb)).fst.val.fst.snd.snd.snd.fst,(tyP (d,m,dl,()) (Rose.node ((op,pos,nm,ar,()),()) sb)).fst.val.fst.snd.snd.snd.snd.fst,()),()) (tyP (d,m,dl,())
 (Rose.node ((op,pos,nm,ar,()),()) sb)).fst.subs)) (Rose.node (((tyP (d,m,dl,()) (Rose.node ((op,pos,nm,ar,()),()) sb)).fst.val.fst.fst,(tyP (d,m,dl,())
 (Rose.node ((op,pos,nm,ar,()),()) sb)).fst.val.fst.snd.fst,(tyP (d,m,dl,()) (Rose.node ((op,pos,nm,ar,()),()) sb)).fst.val.fst.snd.snd.fst,(tyP (d,m,dl,())
 (Rose.node ((op,pos,nm,ar,()),()) sb)).fst.val.fst.snd.snd.snd.fst,(tyP (d,m,dl,()) (Rose.node ((op,pos,nm,ar,()),()) sb)).fst.val.fst.snd.snd.snd.snd.fst,()),())
 (tyP (d,m,dl,()) (Rose.node ((op,pos,nm,ar,()),()) sb)).fst.subs) l == fulN (dep (Rose.node ((op,pos,nm,ar,()),()) sb)) (Rose.node ((op,pos,nm,ar,()),()) sb) l)
 = true) ∧ True ∧ wellN (dep (Rose.node ((op,pos,nm,ar,()),()) sb)) (Rose.node ((op,pos,nm,ar,()),()) sb) ∧ (jQf (dep (Rose.node (((tyP (d,m,dl,()) (Rose.node
 ((op,pos,nm,ar,()),()) sb)).fst.val.fst.fst,(tyP (d,m,dl,()) (Rose.node ((op,pos,nm,ar,()),()) sb)).fst.val.fst.snd.fst,(tyP (d,m,dl,()) (Rose.node ((op,pos,
 nm,ar,()),()) sb)).fst.val.fst.snd.snd.fst,(tyP (d,m,dl,()) (Rose.node ((op,pos,nm,ar,()),()) sb)).fst.val.fst.snd.snd.snd.fst,(tyP (d,m,dl,()) (Rose.node ((op,
 pos,nm,ar,()),()) sb)).fst.val.fst.snd.snd.snd.snd.fst,()),()) (tyP (d,m,dl,()) (Rose.node ((op,pos,nm,ar,()),()) sb)).fst.subs)) (Rose.node (((tyP (d,m,dl,())
 (Rose.node ((op,pos,nm,ar,()),()) sb)).fst.val.fst.fst,(tyP (d,m,dl,()) (Rose.node ((op,pos,nm,ar,()),()) sb)).fst.val.fst.snd.fst,(tyP (d,m,dl,()) (Rose.node
 ((op,pos,nm,ar,()),()) sb)).fst.val.fst.snd.snd.fst,(tyP (d,m,dl,()) (Rose.node ((op,pos,nm,ar,()),()) sb)).fst.val.fst.snd.snd.snd.fst,(tyP (d,m,dl,())
 (Rose.node ((op,pos,nm,ar,()),()) sb)).fst.val.fst.snd.snd.snd.snd.fst,()),()) (tyP (d,m,dl,()) (Rose.node ((op,pos,nm,ar,()),()) sb)).fst.subs) l == fulN (dep
 (Rose.node ((op,pos,nm,ar,()),()) sb)) (Rose.node ((op,pos,nm,ar,()),()) sb) l) = true) ∧ (true = false → ((false = true ∧ false = true) ∧ false = true) ∧ ((false =
 true ∧ false = true) ∧ false = true) ∧ false = true ∧ false = true)) ∧ (true = true → (((True ∧ wellN (dep (Rose.node ((op,pos,nm,ar,()),()) sb)) (Rose.node ((op,pos,nm,
 ar,()),()) sb) ∧ (jQf (dep (Rose.node (((tyP (d,m,dl,()) (Rose.node ((op,pos,nm,ar,()),()) sb)).fst.val.fst.fst,(tyP (d,m,dl,()) (Rose.node ((op,pos,nm,ar,
 ()),()) sb)).fst.val.fst.snd.fst,(tyP (d,m,dl,()) (Rose.node ((op,pos,nm,ar,()),()) sb)).fst.val.fst.snd.snd.fst,(tyP (d,m,dl,()) (Rose.node ((op,pos,nm,ar,()),
 ()) sb)).fst.val.fst.snd.snd.snd.fst,(tyP (d,m,dl,()) (Rose.node ((op,pos,nm,ar,()),()) sb)).fst.val.fst.snd.snd.snd.snd.fst,()),()) (tyP (d,m,dl,()) (Rose.node
 ((op,pos,nm,ar,()),()) sb)).fst.subs)) (Rose.node (((tyP (d,m,dl,()) (Rose.node ((op,pos,nm,ar,()),()) sb)).fst.val.fst.fst,(tyP (d,m,dl,()) (Rose.node ((op,
 pos,nm,ar,()),()) sb)).fst.val.fst.snd.fst,(tyP (d,m,dl,()) (Rose.node ((op,pos,nm,ar,()),()) sb)).fst.val.fst.snd.snd.fst,(tyP (d,m,dl,()) (Rose.node ((op,pos,
 nm,ar,()),()) sb)).fst.val.fst.snd.snd.snd.fst,(tyP (d,m,dl,()) (Rose.node ((op,pos,nm,ar,()),()) sb)).fst.val.fst.snd.snd.snd.snd.fst,()),()) (tyP (d,m,dl,())
 (Rose.node ((op,pos,nm,ar,()),()) sb)).fst.subs) l == fulN (dep (Rose.node ((op,pos,nm,ar,()),()) sb)) (Rose.node ((op,pos,nm,ar,()),()) sb) l) = true) ∧ True ∧
 wellN (dep (Rose.node ((op,pos,nm,ar,()),()) sb)) (Rose.node ((op,pos,nm,ar,()),()) sb) ∧ (jQf (dep (Rose.node (((tyP (d,m,dl,()) (Rose.node ((op,pos,nm,ar,
 ()),()) sb)).fst.val.fst.fst,(tyP (d,m,dl,()) (Rose.node ((op,pos,nm,ar,()),()) sb)).fst.val.fst.snd.fst,(tyP (d,m,dl,()) (Rose.node ((op,pos,nm,ar,()),())
 sb)).fst.val.fst.snd.snd.fst,(tyP (d,m,dl,()) (Rose.node ((op,pos,nm,ar,()),()) sb)).fst.val.fst.snd.snd.snd.fst,(tyP (d,m,dl,()) (Rose.node ((op,pos,nm,ar,()),
 ()) sb)).fst.val.fst.snd.snd.snd.snd.fst,()),()) (tyP (d,m,dl,()) (Rose.node ((op,pos,nm,ar,()),()) sb)).fst.subs)) (Rose.node (((tyP (d,m,dl,()) (Rose.node ((op,
 pos,nm,ar,()),()) sb)).fst.val.fst.fst,(tyP (d,m,dl,()) (Rose.node ((op,pos,nm,ar,()),()) sb)).fst.val.fst.snd.fst,(tyP (d,m,dl,()) (Rose.node ((op,pos,nm,ar,
 ()),()) sb)).fst.val.fst.snd.snd.fst,(tyP (d,m,dl,()) (Rose.node ((op,pos,nm,ar,()),()) sb)).fst.val.fst.snd.snd.snd.fst,(tyP (d,m,dl,()) (Rose.node ((op,pos,nm,
 ar,()),()) sb)).fst.val.fst.snd.snd.snd.snd.fst,()),()) (tyP (d,m,dl,()) (Rose.node ((op,pos,nm,ar,()),()) sb)).fst.subs) l == fulN (dep (Rose.node ((op,pos,nm,ar,
 ()),()) sb)) (Rose.node ((op,pos,nm,ar,()),()) sb) l) = true) ∧ True ∧ wellN (dep (Rose.node ((op,pos,nm,ar,()),()) sb)) (Rose.node ((op,pos,nm,ar,()),()) sb) ∧
 (jQf (dep (Rose.node (((tyP (d,m,dl,()) (Rose.node ((op,pos,nm,ar,()),()) sb)).fst.val.fst.fst,(tyP (d,m,dl,()) (Rose.node ((op,pos,nm,ar,()),())
 sb)).fst.val.fst.snd.fst,(tyP (d,m,dl,()) (Rose.node ((op,pos,nm,ar,()),()) sb)).fst.val.fst.snd.snd.fst,(tyP (d,m,dl,()) (Rose.node ((op,pos,nm,ar,()),())
 sb)).fst.val.fst.snd.snd.snd.fst,(tyP (d,m,dl,()) (Rose.node ((op,pos,nm,ar,()),()) sb)).fst.val.fst.snd.snd.snd.snd.fst,()),()) (tyP (d,m,dl,()) (Rose.node ((op,
 pos,nm,ar,()),()) sb)).fst.subs)) (Rose.node (((tyP (d,m,dl,()) (Rose.node ((op,pos,nm,ar,()),()) sb)).fst.val.fst.fst,(tyP (d,m,dl,()) (Rose.node ((op,pos,nm,
 ar,()),()) sb)).fst.val.fst.snd.fst,(tyP (d,m,dl,()) (Rose.node ((op,pos,nm,ar,()),()) sb)).fst.val.fst.snd.snd.fst,(tyP (d,m,dl,()) (Rose.node ((op,pos,nm,ar,
 ()),()) sb)).fst.val.fst.snd.snd.snd.fst,(tyP (d,m,dl,()) (Rose.node ((op,pos,nm,ar,()),()) sb)).fst.val.fst.snd.snd.snd.snd.fst,()),()) (tyP (d,m,dl,())
 (Rose.node ((op,pos,nm,ar,()),()) sb)).fst.subs) l == fulN (dep (Rose.node ((op,pos,nm,ar,()),()) sb)) (Rose.node ((op,pos,nm,ar,()),()) sb) l) = true) ∧ (((True ∧
 wellN (dep (Rose.node ((op,pos,nm,ar,()),()) sb)) (Rose.node ((op,pos,nm,ar,()),()) sb) ∧ (jQf (dep (Rose.node (((tyP (d,m,dl,()) (Rose.node ((op,pos,nm,ar,
 ()),()) sb)).fst.val.fst.fst,(tyP (d,m,dl,()) (Rose.node ((op,pos,nm,ar,()),()) sb)).fst.val.fst.snd.fst,(tyP (d,m,dl,()) (Rose.node ((op,pos,nm,ar,()),())
 sb)).fst.val.fst.snd.snd.fst,(tyP (d,m,dl,()) (Rose.node ((op,pos,nm,ar,()),()) sb)).fst.val.fst.snd.snd.snd.fst,(tyP (d,m,dl,()) (Rose.node ((op,pos,nm,ar,()),
 ()) sb)).fst.val.fst.snd.snd.snd.snd.fst,()),()) (tyP (d,m,dl,()) (Rose.node ((op,pos,nm,ar,()),()) sb)).fst.subs)) (Rose.node (((tyP (d,m,dl,()) (Rose.node ((op,
 pos,nm,ar,()),()) sb)).fst.val.fst.fst,(tyP (d,m,dl,()) (Rose.node ((op,pos,nm,ar,()),()) sb)).fst.val.fst.snd.fst,(tyP (d,m,dl,()) (Rose.node ((op,pos,nm,ar,
 ()),()) sb)).fst.val.fst.snd.snd.fst,(tyP (d,m,dl,()) (Rose.node ((op,pos,nm,ar,()),()) sb)).fst.val.fst.snd.snd.snd.fst,(tyP (d,m,dl,()) (Rose.node ((op,pos,nm,
 ar,()),()) sb)).fst.val.fst.snd.snd.snd.snd.fst,()),()) (tyP (d,m,dl,()) (Rose.node ((op,pos,nm,ar,()),()) sb)).fst.subs) l == fulN (dep (Rose.node ((op,pos,nm,ar,
 ()),()) sb)) (Rose.node ((op,pos,nm,ar,()),()) sb) l) = true) ∧ True ∧ wellN (dep (Rose.node ((op,pos,nm,ar,()),()) sb)) (Rose.node ((op,pos,nm,ar,()),()) sb) ∧
 (jQf (dep (Rose.node (((tyP (d,m,dl,()) (Rose.node ((op,pos,nm,ar,()),()) sb)).fst.val.fst.fst,(tyP (d,m,dl,()) (Rose.node ((op,pos,nm,ar,()),())
 sb)).fst.val.fst.snd.fst,(tyP (d,m,dl,()) (Rose.node ((op,pos,nm,ar,()),()) sb)).fst.val.fst.snd.snd.fst,(tyP (d,m,dl,()) (Rose.node ((op,pos,nm,ar,()),())
 sb)).fst.val.fst.snd.snd.snd.fst,(tyP (d,m,dl,()) (Rose.node ((op,pos,nm,ar,()),()) sb)).fst.val.fst.snd.snd.snd.snd.fst,()),()) (tyP (d,m,dl,()) (Rose.node ((op,
 pos,nm,ar,()),()) sb)).fst.subs)) (Rose.node (((tyP (d,m,dl,()) (Rose.node ((op,pos,nm,ar,()),()) sb)).fst.val.fst.fst,(tyP (d,m,dl,()) (Rose.node ((op,pos,nm,
 ar,()),()) sb)).fst.val.fst.snd.fst,(tyP (d,m,dl,()) (Rose.node ((op,pos,nm,ar,()),()) sb)).fst.val.fst.snd.snd.fst,(tyP (d,m,dl,()) (Rose.node ((op,pos,nm,ar,
 ()),()) sb)).fst.val.fst.snd.snd.snd.fst,(tyP (d,m,dl,()) (Rose.node ((op,pos,nm,ar,()),()) sb)).fst.val.fst.snd.snd.snd.snd.fst,()),()) (tyP (d,m,dl,())
 (Rose.node ((op,pos,nm,ar,()),()) sb)).fst.subs) l == fulN (dep (Rose.node ((op,pos,nm,ar,()),()) sb)) (Rose.node ((op,pos,nm,ar,()),()) sb) l) = true) ∧ True ∧
 wellN (dep (Rose.node ((op,pos,nm,ar,()),()) sb)) (Rose.node ((op,pos,nm,ar,()),()) sb) ∧ (jQf (dep (Rose.node (((tyP (d,m,dl,()) (Rose.node ((op,pos,nm,ar,
 ()),()) sb)).fst.val.fst.fst,(tyP (d,m,dl,()) (Rose.node ((op,pos,nm,ar,()),()) sb)).fst.val.fst.snd.fst,(tyP (d,m,dl,()) (Rose.node ((op,pos,nm,ar,()),())
 sb)).fst.val.fst.snd.snd.fst,(tyP (d,m,dl,()) (Rose.node ((op,pos,nm,ar,()),()) sb)).fst.val.fst.snd.snd.snd.fst,(tyP (d,m,dl,()) (Rose.node ((op,pos,nm,ar,()),
 ()) sb)).fst.val.fst.snd.snd.snd.snd.fst,()),()) (tyP (d,m,dl,()) (Rose.node ((op,pos,nm,ar,()),()) sb)).fst.subs)) (Rose.node (((tyP (d,m,dl,()) (Rose.node ((op,
 pos,nm,ar,()),()) sb)).fst.val.fst.fst,(tyP (d,m,dl,()) (Rose.node ((op,pos,nm,ar,()),()) sb)).fst.val.fst.snd.fst,(tyP (d,m,dl,()) (Rose.node ((op,pos,nm,ar,
 ()),()) sb)).fst.val.fst.snd.snd.fst,(tyP (d,m,dl,()) (Rose.node ((op,pos,nm,ar,()),()) sb)).fst.val.fst.snd.snd.snd.fst,(tyP (d,m,dl,()) (Rose.node ((op,pos,nm,
 ar,()),()) sb)).fst.val.fst.snd.snd.snd.snd.fst,()),()) (tyP (d,m,dl,()) (Rose.node ((op,pos,nm,ar,()),()) sb)).fst.subs) l == fulN (dep (Rose.node ((op,pos,nm,ar,
 ()),()) sb)) (Rose.node ((op,pos,nm,ar,()),()) sb) l) = true) ∧ (True ∧ wellN (dep (Rose.node ((op,pos,nm,ar,()),()) sb)) (Rose.node ((op,pos,nm,ar,()),()) sb) ∧
 (jQf (dep (Rose.node (((tyP (d,m,dl,()) (Rose.node ((op,pos,nm,ar,()),()) sb)).fst.val.fst.fst,(tyP (d,m,dl,()) (Rose.node ((op,pos,nm,ar,()),())
 sb)).fst.val.fst.snd.fst,(tyP (d,m,dl,()) (Rose.node ((op,pos,nm,ar,()),()) sb)).fst.val.fst.snd.snd.fst,(tyP (d,m,dl,()) (Rose.node ((op,pos,nm,ar,()),())
 sb)).fst.val.fst.snd.snd.snd.fst,(tyP (d,m,dl,()) (Rose.node ((op,pos,nm,ar,()),()) sb)).fst.val.fst.snd.snd.snd.snd.fst,()),()) (tyP (d,m,dl,()) (Rose.node ((op,
 pos,nm,ar,()),()) sb)).fst.subs)) (Rose.node (((tyP (d,m,dl,()) (Rose.node ((op,pos,nm,ar,()),()) sb)).fst.val.fst.fst,(tyP (d,m,dl,()) (Rose.node ((op,pos,nm,
 ar,()),()) sb)).fst.val.fst.snd.fst,(tyP (d,m,dl,()) (Rose.node ((op,pos,nm,ar,()),()) sb)).fst.val.fst.snd.snd.fst,(tyP (d,m,dl,()) (Rose.node ((op,pos,nm,ar,
 ()),()) sb)).fst.val.fst.snd.snd.snd.fst,(tyP (d,m,dl,()) (Rose.node ((op,pos,nm,ar,()),()) sb)).fst.val.fst.snd.snd.snd.snd.fst,()),()) (tyP (d,m,dl,())
 (Rose.node ((op,pos,nm,ar,()),()) sb)).fst.subs) l == fulN (dep (Rose.node ((op,pos,nm,ar,()),()) sb)) (Rose.node ((op,pos,nm,ar,()),()) sb) l) = true) ∧ True ∧
 wellN (dep (Rose.node ((op,pos,nm,ar,()),()) sb)) (Rose.node ((op,pos,nm,ar,()),()) sb) ∧ (jQf (dep (Rose.node (((tyP (d,m,dl,()) (Rose.node ((op,pos,nm,ar,
 ()),()) sb)).fst.val.fst.fst,(tyP (d,m,dl,()) (Rose.node ((op,pos,nm,ar,()),()) sb)).fst.val.fst.snd.fst,(tyP (d,m,dl,()) (Rose.node ((op,pos,nm,ar,()),())
 sb)).fst.val.fst.snd.snd.fst,(tyP (d,m,dl,()) (Rose.node ((op,pos,nm,ar,()),()) sb)).fst.val.fst.snd.snd.snd.fst,(tyP (d,m,dl,()) (Rose.node ((op,pos,nm,ar,()),
 ()) sb)).fst.val.fst.snd.snd.snd.snd.fst,()),()) (tyP (d,m,dl,()) (Rose.node ((op,pos,nm,ar,()),()) sb)).fst.subs)) (Rose.node (((tyP (d,m,dl,()) (Rose.node ((op,
 pos,nm,ar,()),()) sb)).fst.val.fst.fst,(tyP (d,m,dl,()) (Rose.node ((op,pos,nm,ar,()),()) sb)).fst.val.fst.snd.fst,(tyP (d,m,dl,()) (Rose.node ((op,pos,nm,ar,
 ()),()) sb)).fst.val.fst.snd.snd.fst,(tyP (d,m,dl,()) (Rose.node ((op,pos,nm,ar,()),()) sb)).fst.val.fst.snd.snd.snd.fst,(tyP (d,m,dl,()) (Rose.node ((op,pos,nm,
 ar,()),()) sb)).fst.val.fst.snd.snd.snd.snd.fst,()),()) (tyP (d,m,dl,()) (Rose.node ((op,pos,nm,ar,()),()) sb)).fst.subs) l == fulN (dep (Rose.node ((op,pos,nm,ar,
 ()),()) sb)) (Rose.node ((op,pos,nm,ar,()),()) sb) l) = true) ∧ (true = false → ((false = true ∧ false = true) ∧ false = true) ∧ ((false = true ∧ false = true) ∧ false =
 true) ∧ false = true ∧ false = true)))))))) ∧ (fewDB (d,m,dl,()) (20:Int) = false → True ∧ true = true)):=by kernel_rfl
end Go.Proofs.YtbjjaaimhleedaaGreatDoor
namespace Go.PL
open Go.AM
def schA:Sc:=(2,1,[([99,111,108,111,117,114],2,0,0,[[98,108,117,101],[114,101,100]],()),([119,101,105,103,104,116],1,0,9,[],())],())
def predA:Pr:=mkP 2 [] 0 0 [] [mkP 2 [] 0 0 [] [mkP 5 [99,111,108,111,117,114] 0 0 [] [],mkP 4 [] 0 0 [] [mkP 7 [99,111,108,111,117,114] 0 0 [114,101,100] []]],mkP 6 [119,101,105,103,104,116] 0 3 [] []]
end Go.PL
namespace Go.Proofs.YtbjjaaimhleedaaGreatDoor
open Go.AM Go.PL
def fchSp:FSpec:=⟨[SC,PR],[I],fun x=>x = (schA,predA),fun _=>0⟩
def hintHt (f:FuncId):Hint:=⟨fun _=>[],fun _=>.force,fun _=>.force,fun _=>200⟩
noncomputable def HT0:Ctx:=mkctx bs [] [] hintHt
theorem fch_nf:fnwp HT0 20 18 fchSp (schA,predA) = (isI64 (1:Int) ∧ ((0:Int) ≤ (0:Int) ∧ (0:Int) < (↑(2:Nat):Int)) ∧ isI64 (2:Int) ∧ ((0:Int) ≤ (0:Int) ∧ (0 :
 Int) < (↑(2:Nat):Int)) ∧ isI64 (3:Int) ∧ isI64 (1:Int) ∧ ((0:Int) ≤ (1:Int) ∧ (1:Int) < (↑(2:Nat):Int)) ∧ isI64 (4:Int) ∧ ((0:Int) ≤ (0:Int) ∧ (0:Int) <
 (↑(1:Nat):Int)) ∧ isI64 (5:Int) ∧ isI64 (1:Int) ∧ isI64 (2:Int) ∧ isI64 (1:Int) ∧ ((0:Int) ≤ (1:Int) ∧ (1:Int) < (↑(2:Nat):Int)) ∧ isI64 (6:Int) ∧ isI64
 (2:Int) ∧ ((0:Int) ≤ (0:Int) ∧ (0:Int) < (↑(2:Nat):Int)) ∧ ((0:Int) ≤ (0:Int) ∧ (0:Int) < (↑(2:Nat):Int)) ∧ ((0:Int) ≤ (0:Int) ∧ (0:Int) < (↑(2:Nat)
 : Int)) ∧ ((0:Int) ≤ (0:Int) ∧ (0:Int) < (↑(2:Nat):Int)) ∧ isI64 (1:Int) ∧ ((0:Int) ≤ (1:Int) ∧ (1:Int) < (↑(2:Nat):Int)) ∧ ((0:Int) ≤ (0:Int) ∧ (0 :
 Int) < (↑(1:Nat):Int)) ∧ ((0:Int) ≤ (0:Int) ∧ (0:Int) < (↑(2:Nat):Int)) ∧ ((0:Int) ≤ (0:Int) ∧ (0:Int) < (↑(2:Nat):Int)) ∧ isI64 (1:Int) ∧ isI64 (2 :
 Int) ∧ isI64 (1:Int) ∧ ((0:Int) ≤ (1:Int) ∧ (1:Int) < (↑(2:Nat):Int)) ∧ ((0:Int) ≤ (0:Int) ∧ (0:Int) < (↑(2:Nat):Int)) ∧ isI64 (1:Int) ∧ ((0:Int) ≤ (1 :
 Int) ∧ (1:Int) < (↑(2:Nat):Int)) ∧ ((0:Int) ≤ (1:Int) ∧ (1:Int) < (↑(2:Nat):Int)) ∧ isI64 (2:Int) ∧ (0:Int) = (0:Int)):=by kernel_rfl
end Go.Proofs.YtbjjaaimhleedaaGreatDoor
