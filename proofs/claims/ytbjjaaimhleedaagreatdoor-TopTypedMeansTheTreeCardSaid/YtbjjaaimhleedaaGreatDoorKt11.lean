import Derived.Test.YtbjjaaimhleedaaGreatDoorKt10
import Derived.Tactics
import Derived.Tactics2
import Derived.WalkKit
import Derived.WalkSmall
import Derived.WalkSpells
import Derived.Test.YtbjjaaimhleedaaGreatDoorKt9
import Derived.Test.YtbjjaaimhleedaaGreatDoorProg
import Derived.StillTactics
import Derived.Laws.Pointers
import Derived.LoopN
import Derived.Handy
import Derived.Defers
import Derived.Recover
import Derived.Deep.RegionHeld3
import Derived.KernelRfl
set_option linter.unusedSimpArgs false
set_option linter.unusedVariables false
namespace Go.Proofs.YtbjjaaimhleedaaGreatDoor
open Go.AM Go.PL
def loopsGb (f:FuncId) (r:Nat):List LA :=
 if Nat.beq f 35 then [.slot 38 I,.gslot 9 37 PR,.cell 1 0 .str,.cell 1 1 I,.cell 1 2 I,.cell 1 3 I,.cell 1 4 SS] else
 if Nat.beq f 20 then [.slot 31 I,.cell 2 0 I,.cell 2 1 .str,.cell 2 2 I,.cell 2 3 I,.cell 2 4 .str,.gcell 2 5 37 PR] else
 []
def hintGb (f:FuncId):Hint:=⟨loopsGb f,fun r=>bif Nat.beq f 20 && Nat.beq r 9 then .all else .split,fun _=>.split,fun _=>0⟩
def tGb:List (FuncId × FSpec):=[(62,numSp),(61,equSp)]
noncomputable def GB0 (pan:Int × Int → Prop):Ctx:=mkctxP bs tGb [] pT [(22,failSp),(60,chkPSp),(36,fndPSp)] pan hintGb
theorem rlt_nf (pan:Int × Int → Prop) (d m:Int) (l:List Df) (op pos:Int) (nm:List Int) (ar:List Lt) (sb:List Tr):fnwpP (GB0 pan) 6 35 relPSp ((d,m,l,()),
 (Rose.node ((op,pos,nm,ar,()),()) sb:Tr)) = (True ∧ (∀ (y:List Int × Int × Int × Int × List (List Int) × PUnit),fndP (d,m,l,()) (Rose.node ((op,pos,nm,ar,()),
 ()) sb) = Sum.inl y → ((Rose.node ((op,pos,nm,ar,()),()) sb).val.fst.fst = (8:Int) → (decide (y.snd.fst = (2:Int)) = true → True ∧ pan ((Rose.node ((op,pos,nm,ar,
 ()),()) sb).val.fst.snd.fst,(130:Int))) ∧ (decide (y.snd.fst = (2:Int)) = false → ∃ (I:Int × List (Rose ((I.pair (Ty.str.pair (I.pair (I.pair (Ty.str.pair
 Ty.unit))))).den × Ty.unit.den)) × List Int × Int × Int × Int × List (List Int) → Prop),∃ (μ:Int × List (Rose ((YtbjjaaimhleedaaGreatDoor.I.pair (Ty.str.pair
 (YtbjjaaimhleedaaGreatDoor.I.pair (YtbjjaaimhleedaaGreatDoor.I.pair (Ty.str.pair Ty.unit))))).den × Ty.unit.den)) × List Int × Int × Int × Int × List (List Int) → Nat),I ((0 :
 Int),[],y.fst,y.snd.fst,y.snd.snd.fst,y.snd.snd.snd.fst,y.snd.snd.snd.snd.fst) ∧ ∀ (x:Int × List (Rose ((YtbjjaaimhleedaaGreatDoor.I.pair (Ty.str.pair
 (YtbjjaaimhleedaaGreatDoor.I.pair (YtbjjaaimhleedaaGreatDoor.I.pair (Ty.str.pair Ty.unit))))).den × Ty.unit.den)) × List Int × Int × Int × Int × List (List Int)),I x → (decide
 (x.fst < (↑(Rose.node ((op,pos,nm,ar,()),()) sb).val.fst.snd.snd.snd.fst.length:Int)) = true → ((0:Int) ≤ x.fst ∧ x.fst < (↑(Rose.node ((op,pos,nm,ar,()),())
 sb).val.fst.snd.snd.snd.fst.length:Int)) ∧ True ∧ (∀ (y:PUnit),chkP (x.snd.snd.fst,x.snd.snd.snd.fst,x.snd.snd.snd.snd.fst,x.snd.snd.snd.snd.snd.fst,
 x.snd.snd.snd.snd.snd.snd,()) (((Rose.node ((op,pos,nm,ar,()),()) sb).val.fst.snd.snd.snd.fst.getD x.fst.toNat ((0:Int),(0:Int),(0:Int),[],())).fst,((Rose.node
 ((op,pos,nm,ar,()),()) sb).val.fst.snd.snd.snd.fst.getD x.fst.toNat ((0:Int),(0:Int),(0:Int),[],())).snd.fst,((Rose.node ((op,pos,nm,ar,()),())
 sb).val.fst.snd.snd.snd.fst.getD x.fst.toNat ((0:Int),(0:Int),(0:Int),[],())).snd.snd.fst,((Rose.node ((op,pos,nm,ar,()),()) sb).val.fst.snd.snd.snd.fst.getD
 x.fst.toNat ((0:Int),(0:Int),(0:Int),[],())).snd.snd.snd.fst,()) = Sum.inl y → True ∧ roomP (GB0 pan) (37:Nat) (x.snd.fst.length + [eqP (x.snd.snd.fst,
 x.snd.snd.snd.fst,x.snd.snd.snd.snd.fst,x.snd.snd.snd.snd.snd.fst,x.snd.snd.snd.snd.snd.snd,()) (((Rose.node ((op,pos,nm,ar,()),()) sb).val.fst.snd.snd.snd.fst.getD
 x.fst.toNat ((0:Int),(0:Int),(0:Int),[],())).fst,((Rose.node ((op,pos,nm,ar,()),()) sb).val.fst.snd.snd.snd.fst.getD x.fst.toNat ((0:Int),(0:Int),(0:Int),
 [],())).snd.fst,((Rose.node ((op,pos,nm,ar,()),()) sb).val.fst.snd.snd.snd.fst.getD x.fst.toNat ((0:Int),(0:Int),(0:Int),[],())).snd.snd.fst,((Rose.node ((op,
 pos,nm,ar,()),()) sb).val.fst.snd.snd.snd.fst.getD x.fst.toNat ((0:Int),(0:Int),(0:Int),[],())).snd.snd.snd.fst,())].length) ∧ isI64 (x.fst + (1:Int)) ∧ I (x.fst
 + (1:Int),x.snd.fst ++ [eqP (x.snd.snd.fst,x.snd.snd.snd.fst,x.snd.snd.snd.snd.fst,x.snd.snd.snd.snd.snd.fst,x.snd.snd.snd.snd.snd.snd,()) (((Rose.node ((op,pos,nm,ar,
 ()),()) sb).val.fst.snd.snd.snd.fst.getD x.fst.toNat ((0:Int),(0:Int),(0:Int),[],())).fst,((Rose.node ((op,pos,nm,ar,()),()) sb).val.fst.snd.snd.snd.fst.getD
 x.fst.toNat ((0:Int),(0:Int),(0:Int),[],())).snd.fst,((Rose.node ((op,pos,nm,ar,()),()) sb).val.fst.snd.snd.snd.fst.getD x.fst.toNat ((0:Int),(0:Int),(0 :
 Int),[],())).snd.snd.fst,((Rose.node ((op,pos,nm,ar,()),()) sb).val.fst.snd.snd.snd.fst.getD x.fst.toNat ((0:Int),(0:Int),(0:Int),[],())).snd.snd.snd.fst,())],
 x.snd.snd.fst,x.snd.snd.snd.fst,x.snd.snd.snd.snd.fst,x.snd.snd.snd.snd.snd.fst,x.snd.snd.snd.snd.snd.snd) ∧ μ (x.fst + (1:Int),x.snd.fst ++ [eqP (x.snd.snd.fst,
 x.snd.snd.snd.fst,x.snd.snd.snd.snd.fst,x.snd.snd.snd.snd.snd.fst,x.snd.snd.snd.snd.snd.snd,()) (((Rose.node ((op,pos,nm,ar,()),()) sb).val.fst.snd.snd.snd.fst.getD
 x.fst.toNat ((0:Int),(0:Int),(0:Int),[],())).fst,((Rose.node ((op,pos,nm,ar,()),()) sb).val.fst.snd.snd.snd.fst.getD x.fst.toNat ((0:Int),(0:Int),(0:Int),
 [],())).snd.fst,((Rose.node ((op,pos,nm,ar,()),()) sb).val.fst.snd.snd.snd.fst.getD x.fst.toNat ((0:Int),(0:Int),(0:Int),[],())).snd.snd.fst,((Rose.node ((op,
 pos,nm,ar,()),()) sb).val.fst.snd.snd.snd.fst.getD x.fst.toNat ((0:Int),(0:Int),(0:Int),[],())).snd.snd.snd.fst,())],x.snd.snd.fst,x.snd.snd.snd.fst,
 x.snd.snd.snd.snd.fst,x.snd.snd.snd.snd.snd.fst,x.snd.snd.snd.snd.snd.snd) < μ x) ∧ ∀ (b:Int × Int),chkP (x.snd.snd.fst,x.snd.snd.snd.fst,x.snd.snd.snd.snd.fst,
 x.snd.snd.snd.snd.snd.fst,x.snd.snd.snd.snd.snd.snd,()) (((Rose.node ((op,pos,nm,ar,()),()) sb).val.fst.snd.snd.snd.fst.getD x.fst.toNat ((0:Int),(0:Int),(0:Int),
 [],())).fst,((Rose.node ((op,pos,nm,ar,()),()) sb).val.fst.snd.snd.snd.fst.getD x.fst.toNat ((0:Int),(0:Int),(0:Int),[],())).snd.fst,((Rose.node ((op,pos,nm,
 ar,()),()) sb).val.fst.snd.snd.snd.fst.getD x.fst.toNat ((0:Int),(0:Int),(0:Int),[],())).snd.snd.fst,((Rose.node ((op,pos,nm,ar,()),())
 sb).val.fst.snd.snd.snd.fst.getD x.fst.toNat ((0:Int),(0:Int),(0:Int),[],())).snd.snd.snd.fst,()) = Sum.inr b → pan b) ∧ (decide (x.fst < (↑(Rose.node ((op,pos,nm,
 ar,()),()) sb).val.fst.snd.snd.snd.fst.length:Int)) = false → ((0:Int) ≤ (0:Int) ∧ (0:Int) < (↑(Rose.node ((op,pos,nm,ar,()),()) sb).val.fst.snd.snd.snd.fst.length
 : Int)) ∧ isI64 (((Rose.node ((op,pos,nm,ar,()),()) sb).val.fst.snd.snd.snd.fst.getD (0:Nat) ((0:Int),(0:Int),(0:Int),[],())).snd.snd.fst - (1:Int)) ∧ (decide
 ((Rose.node ((op,pos,nm,ar,()),()) sb).val.fst.fst = (12:Int)) = true → (decide (((Rose.node ((op,pos,nm,ar,()),()) sb).val.fst.snd.snd.snd.fst.getD (0:Nat) ((0 :
 Int),(0:Int),(0:Int),[],())).snd.snd.fst - (1:Int) < (-9223372036854775808:Int)) = true → ((0:Int) ≤ (0:Int) ∧ (0:Int) < (↑(Rose.node ((op,pos,nm,ar,()),
 ()) sb).val.fst.snd.snd.snd.fst.length:Int)) ∧ True ∧ pan (((Rose.node ((op,pos,nm,ar,()),()) sb).val.fst.snd.snd.snd.fst.getD (0:Nat) ((0:Int),(0:Int),(0:Int),
 [],())).snd.fst,(131:Int))) ∧ (decide (((Rose.node ((op,pos,nm,ar,()),()) sb).val.fst.snd.snd.snd.fst.getD (0:Nat) ((0:Int),(0:Int),(0:Int),[],
 ())).snd.snd.fst - (1:Int) < (-9223372036854775808:Int)) = false → True ∧ relP (d,m,l,()) (Rose.node ((op,pos,nm,ar,()),()) sb) = Sum.inl (Rose.node (((Rose.val (numP
 (x.snd.snd.fst,x.snd.snd.snd.fst,x.snd.snd.snd.snd.fst,x.snd.snd.snd.snd.snd.fst,x.snd.snd.snd.snd.snd.snd,()) (-9223372036854775808:Int) (((Rose.node ((op,pos,nm,ar,
 ()),()) sb).val.fst.snd.snd.snd.fst.getD (0:Nat) ((0:Int),(0:Int),(0:Int),[],())).snd.snd.fst - (1:Int)))).fst.fst,(Rose.val (numP (x.snd.snd.fst,
 x.snd.snd.snd.fst,x.snd.snd.snd.snd.fst,x.snd.snd.snd.snd.snd.fst,x.snd.snd.snd.snd.snd.snd,()) (-9223372036854775808:Int) (((Rose.node ((op,pos,nm,ar,()),())
 sb).val.fst.snd.snd.snd.fst.getD (0:Nat) ((0:Int),(0:Int),(0:Int),[],())).snd.snd.fst - (1:Int)))).fst.snd.fst,(Rose.val (numP (x.snd.snd.fst,x.snd.snd.snd.fst,
 x.snd.snd.snd.snd.fst,x.snd.snd.snd.snd.snd.fst,x.snd.snd.snd.snd.snd.snd,()) (-9223372036854775808:Int) (((Rose.node ((op,pos,nm,ar,()),())
 sb).val.fst.snd.snd.snd.fst.getD (0:Nat) ((0:Int),(0:Int),(0:Int),[],())).snd.snd.fst - (1:Int)))).fst.snd.snd.fst,(Rose.val (numP (x.snd.snd.fst,
 x.snd.snd.snd.fst,x.snd.snd.snd.snd.fst,x.snd.snd.snd.snd.snd.fst,x.snd.snd.snd.snd.snd.snd,()) (-9223372036854775808:Int) (((Rose.node ((op,pos,nm,ar,()),())
 sb).val.fst.snd.snd.snd.fst.getD (0:Nat) ((0:Int),(0:Int),(0:Int),[],())).snd.snd.fst - (1:Int)))).fst.snd.snd.snd.fst,(Rose.val (numP (x.snd.snd.fst,
 x.snd.snd.snd.fst,x.snd.snd.snd.snd.fst,x.snd.snd.snd.snd.snd.fst,x.snd.snd.snd.snd.snd.snd,()) (-9223372036854775808:Int) (((Rose.node ((op,pos,nm,ar,()),())
 sb).val.fst.snd.snd.snd.fst.getD (0:Nat) ((0:Int),(0:Int),(0:Int),[],())).snd.snd.fst - (1:Int)))).fst.snd.snd.snd.snd.fst,()),()) (Rose.subs (numP
 (x.snd.snd.fst,x.snd.snd.snd.fst,x.snd.snd.snd.snd.fst,x.snd.snd.snd.snd.snd.fst,x.snd.snd.snd.snd.snd.snd,()) (-9223372036854775808:Int) (((Rose.node ((op,pos,nm,ar,
 ()),()) sb).val.fst.snd.snd.snd.fst.getD (0:Nat) ((0:Int),(0:Int),(0:Int),[],())).snd.snd.fst - (1:Int))))))) ∧ (decide ((Rose.node ((op,pos,nm,ar,()),())
 sb).val.fst.fst = (12:Int)) = false → True ∧ relP (d,m,l,()) (Rose.node ((op,pos,nm,ar,()),()) sb) = Sum.inl (Rose.node (((Rose.val (numP (x.snd.snd.fst,
 x.snd.snd.snd.fst,x.snd.snd.snd.snd.fst,x.snd.snd.snd.snd.snd.fst,x.snd.snd.snd.snd.snd.snd,()) (-9223372036854775808:Int) (((Rose.node ((op,pos,nm,ar,()),())
 sb).val.fst.snd.snd.snd.fst.getD (0:Nat) ((0:Int),(0:Int),(0:Int),[],())).snd.snd.fst - (1:Int)))).fst.fst,(Rose.val (numP (x.snd.snd.fst,x.snd.snd.snd.fst,
 x.snd.snd.snd.snd.fst,x.snd.snd.snd.snd.snd.fst,x.snd.snd.snd.snd.snd.snd,()) (-9223372036854775808:Int) (((Rose.node ((op,pos,nm,ar,()),())
 sb).val.fst.snd.snd.snd.fst.getD (0:Nat) ((0:Int),(0:Int),(0:Int),[],())).snd.snd.fst - (1:Int)))).fst.snd.fst,(Rose.val (numP (x.snd.snd.fst,x.snd.snd.snd.fst,
 x.snd.snd.snd.snd.fst,x.snd.snd.snd.snd.snd.fst,x.snd.snd.snd.snd.snd.snd,()) (-9223372036854775808:Int) (((Rose.node ((op,pos,nm,ar,()),())
 sb).val.fst.snd.snd.snd.fst.getD (0:Nat) ((0:Int),(0:Int),(0:Int),[],())).snd.snd.fst - (1:Int)))).fst.snd.snd.fst,(Rose.val (numP (x.snd.snd.fst,
 x.snd.snd.snd.fst,x.snd.snd.snd.snd.fst,x.snd.snd.snd.snd.snd.fst,x.snd.snd.snd.snd.snd.snd,()) (-9223372036854775808:Int) (((Rose.node ((op,pos,nm,ar,()),())
 sb).val.fst.snd.snd.snd.fst.getD (0:Nat) ((0:Int),(0:Int),(0:Int),[],())).snd.snd.fst - (1:Int)))).fst.snd.snd.snd.fst,(Rose.val (numP (x.snd.snd.fst,
 x.snd.snd.snd.fst,x.snd.snd.snd.snd.fst,x.snd.snd.snd.snd.snd.fst,x.snd.snd.snd.snd.snd.snd,()) (-9223372036854775808:Int) (((Rose.node ((op,pos,nm,ar,()),())
 sb).val.fst.snd.snd.snd.fst.getD (0:Nat) ((0:Int),(0:Int),(0:Int),[],())).snd.snd.fst - (1:Int)))).fst.snd.snd.snd.snd.fst,()),()) (Rose.subs (numP
 (x.snd.snd.fst,x.snd.snd.snd.fst,x.snd.snd.snd.snd.fst,x.snd.snd.snd.snd.snd.fst,x.snd.snd.snd.snd.snd.snd,()) (-9223372036854775808:Int) (((Rose.node ((op,pos,nm,ar,
 ()),()) sb).val.fst.snd.snd.snd.fst.getD (0:Nat) ((0:Int),(0:Int),(0:Int),[],())).snd.snd.fst - (1:Int))))))))) ∧ (¬(Rose.node ((op,pos,nm,ar,()),())
 sb).val.fst.fst = (8:Int) → ((Rose.node ((op,pos,nm,ar,()),()) sb).val.fst.fst = (9:Int) → (decide (y.snd.fst = (2:Int)) = true → True ∧ pan ((Rose.node ((op,pos,nm,
 ar,()),()) sb).val.fst.snd.fst,(130:Int))) ∧ (decide (y.snd.fst = (2:Int)) = false → ∃ (I:Int × List (Rose ((I.pair (Ty.str.pair (I.pair (I.pair (Ty.str.pair
 Ty.unit))))).den × Ty.unit.den)) × List Int × Int × Int × Int × List (List Int) → Prop),∃ (μ:Int × List (Rose ((YtbjjaaimhleedaaGreatDoor.I.pair (Ty.str.pair
 (YtbjjaaimhleedaaGreatDoor.I.pair (YtbjjaaimhleedaaGreatDoor.I.pair (Ty.str.pair Ty.unit))))).den × Ty.unit.den)) × List Int × Int × Int × Int × List (List Int) → Nat),I ((0 :
 Int),[],y.fst,y.snd.fst,y.snd.snd.fst,y.snd.snd.snd.fst,y.snd.snd.snd.snd.fst) ∧ ∀ (x:Int × List (Rose ((YtbjjaaimhleedaaGreatDoor.I.pair (Ty.str.pair
 (YtbjjaaimhleedaaGreatDoor.I.pair (YtbjjaaimhleedaaGreatDoor.I.pair (Ty.str.pair Ty.unit))))).den × Ty.unit.den)) × List Int × Int × Int × Int × List (List Int)),I x → (decide
 (x.fst < (↑(Rose.node ((op,pos,nm,ar,()),()) sb).val.fst.snd.snd.snd.fst.length:Int)) = true → ((0:Int) ≤ x.fst ∧ x.fst < (↑(Rose.node ((op,pos,nm,ar,()),())
 sb).val.fst.snd.snd.snd.fst.length:Int)) ∧ True ∧ (∀ (y:PUnit),chkP (x.snd.snd.fst,x.snd.snd.snd.fst,x.snd.snd.snd.snd.fst,x.snd.snd.snd.snd.snd.fst,
 x.snd.snd.snd.snd.snd.snd,()) (((Rose.node ((op,pos,nm,ar,()),()) sb).val.fst.snd.snd.snd.fst.getD x.fst.toNat ((0:Int),(0:Int),(0:Int),[],())).fst,((Rose.node
 ((op,pos,nm,ar,()),()) sb).val.fst.snd.snd.snd.fst.getD x.fst.toNat ((0:Int),(0:Int),(0:Int),[],())).snd.fst,((Rose.node ((op,pos,nm,ar,()),())
 sb).val.fst.snd.snd.snd.fst.getD x.fst.toNat ((0:Int),(0:Int),(0:Int),[],())).snd.snd.fst,((Rose.node ((op,pos,nm,ar,()),()) sb).val.fst.snd.snd.snd.fst.getD
 x.fst.toNat ((0:Int),(0:Int),(0:Int),[],())).snd.snd.snd.fst,()) = Sum.inl y → True ∧ roomP (GB0 pan) (37:Nat) (x.snd.fst.length + [eqP (x.snd.snd.fst,
 x.snd.snd.snd.fst,x.snd.snd.snd.snd.fst,x.snd.snd.snd.snd.snd.fst,x.snd.snd.snd.snd.snd.snd,()) (((Rose.node ((op,pos,nm,ar,()),()) sb).val.fst.snd.snd.snd.fst.getD
 x.fst.toNat ((0:Int),(0:Int),(0:Int),[],())).fst,((Rose.node ((op,pos,nm,ar,()),()) sb).val.fst.snd.snd.snd.fst.getD x.fst.toNat ((0:Int),(0:Int),(0:Int),
 [],())).snd.fst,((Rose.node ((op,pos,nm,ar,()),()) sb).val.fst.snd.snd.snd.fst.getD x.fst.toNat ((0:Int),(0:Int),(0:Int),[],())).snd.snd.fst,((Rose.node ((op,
 pos,nm,ar,()),()) sb).val.fst.snd.snd.snd.fst.getD x.fst.toNat ((0:Int),(0:Int),(0:Int),[],())).snd.snd.snd.fst,())].length) ∧ isI64 (x.fst + (1:Int)) ∧ I (x.fst
 + (1:Int),x.snd.fst ++ [eqP (x.snd.snd.fst,x.snd.snd.snd.fst,x.snd.snd.snd.snd.fst,x.snd.snd.snd.snd.snd.fst,x.snd.snd.snd.snd.snd.snd,()) (((Rose.node ((op,pos,nm,ar,
 ()),()) sb).val.fst.snd.snd.snd.fst.getD x.fst.toNat ((0:Int),(0:Int),(0:Int),[],())).fst,((Rose.node ((op,pos,nm,ar,()),()) sb).val.fst.snd.snd.snd.fst.getD
 x.fst.toNat ((0:Int),(0:Int),(0:Int),[],())).snd.fst,((Rose.node ((op,pos,nm,ar,()),()) sb).val.fst.snd.snd.snd.fst.getD x.fst.toNat ((0:Int),(0:Int),(0 :
 Int),[],())).snd.snd.fst,((Rose.node ((op,pos,nm,ar,()),()) sb).val.fst.snd.snd.snd.fst.getD x.fst.toNat ((0:Int),(0:Int),(0:Int),[],())).snd.snd.snd.fst,())],
 x.snd.snd.fst,x.snd.snd.snd.fst,x.snd.snd.snd.snd.fst,x.snd.snd.snd.snd.snd.fst,x.snd.snd.snd.snd.snd.snd) ∧ μ (x.fst + (1:Int),x.snd.fst ++ [eqP (x.snd.snd.fst,
 x.snd.snd.snd.fst,x.snd.snd.snd.snd.fst,x.snd.snd.snd.snd.snd.fst,x.snd.snd.snd.snd.snd.snd,()) (((Rose.node ((op,pos,nm,ar,()),()) sb).val.fst.snd.snd.snd.fst.getD
 x.fst.toNat ((0:Int),(0:Int),(0:Int),[],())).fst,((Rose.node ((op,pos,nm,ar,()),()) sb).val.fst.snd.snd.snd.fst.getD x.fst.toNat ((0:Int),(0:Int),(0:Int),
 [],())).snd.fst,((Rose.node ((op,pos,nm,ar,()),()) sb).val.fst.snd.snd.snd.fst.getD x.fst.toNat ((0:Int),(0:Int),(0:Int),[],())).snd.snd.fst,((Rose.node ((op,
 pos,nm,ar,()),()) sb).val.fst.snd.snd.snd.fst.getD x.fst.toNat ((0:Int),(0:Int),(0:Int),[],())).snd.snd.snd.fst,())],x.snd.snd.fst,x.snd.snd.snd.fst,
 x.snd.snd.snd.snd.fst,x.snd.snd.snd.snd.snd.fst,x.snd.snd.snd.snd.snd.snd) < μ x) ∧ ∀ (b:Int × Int),chkP (x.snd.snd.fst,x.snd.snd.snd.fst,x.snd.snd.snd.snd.fst,
 x.snd.snd.snd.snd.snd.fst,x.snd.snd.snd.snd.snd.snd,()) (((Rose.node ((op,pos,nm,ar,()),()) sb).val.fst.snd.snd.snd.fst.getD x.fst.toNat ((0:Int),(0:Int),(0:Int),
 [],())).fst,((Rose.node ((op,pos,nm,ar,()),()) sb).val.fst.snd.snd.snd.fst.getD x.fst.toNat ((0:Int),(0:Int),(0:Int),[],())).snd.fst,((Rose.node ((op,pos,nm,
 ar,()),()) sb).val.fst.snd.snd.snd.fst.getD x.fst.toNat ((0:Int),(0:Int),(0:Int),[],())).snd.snd.fst,((Rose.node ((op,pos,nm,ar,()),())
 sb).val.fst.snd.snd.snd.fst.getD x.fst.toNat ((0:Int),(0:Int),(0:Int),[],())).snd.snd.snd.fst,()) = Sum.inr b → pan b) ∧ (decide (x.fst < (↑(Rose.node ((op,pos,nm,
 ar,()),()) sb).val.fst.snd.snd.snd.fst.length:Int)) = false → ((0:Int) ≤ (0:Int) ∧ (0:Int) < (↑(Rose.node ((op,pos,nm,ar,()),()) sb).val.fst.snd.snd.snd.fst.length
 : Int)) ∧ (decide ((Rose.node ((op,pos,nm,ar,()),()) sb).val.fst.fst = (12:Int)) = true → (decide (((Rose.node ((op,pos,nm,ar,()),()) sb).val.fst.snd.snd.snd.fst.getD
 (0:Nat) ((0:Int),(0:Int),(0:Int),[],())).snd.snd.fst < (-9223372036854775808:Int)) = true → ((0:Int) ≤ (0:Int) ∧ (0:Int) < (↑(Rose.node ((op,pos,nm,ar,
 ()),()) sb).val.fst.snd.snd.snd.fst.length:Int)) ∧ True ∧ pan (((Rose.node ((op,pos,nm,ar,()),()) sb).val.fst.snd.snd.snd.fst.getD (0:Nat) ((0:Int),(0:Int),(0 :
 Int),[],())).snd.fst,(131:Int))) ∧ (decide (((Rose.node ((op,pos,nm,ar,()),()) sb).val.fst.snd.snd.snd.fst.getD (0:Nat) ((0:Int),(0:Int),(0:Int),[],
 ())).snd.snd.fst < (-9223372036854775808:Int)) = false → True ∧ relP (d,m,l,()) (Rose.node ((op,pos,nm,ar,()),()) sb) = Sum.inl (Rose.node (((Rose.val (numP
 (x.snd.snd.fst,x.snd.snd.snd.fst,x.snd.snd.snd.snd.fst,x.snd.snd.snd.snd.snd.fst,x.snd.snd.snd.snd.snd.snd,()) (-9223372036854775808:Int) ((Rose.node ((op,pos,nm,ar,
 ()),()) sb).val.fst.snd.snd.snd.fst.getD (0:Nat) ((0:Int),(0:Int),(0:Int),[],())).snd.snd.fst)).fst.fst,(Rose.val (numP (x.snd.snd.fst,x.snd.snd.snd.fst,
 x.snd.snd.snd.snd.fst,x.snd.snd.snd.snd.snd.fst,x.snd.snd.snd.snd.snd.snd,()) (-9223372036854775808:Int) ((Rose.node ((op,pos,nm,ar,()),())
 sb).val.fst.snd.snd.snd.fst.getD (0:Nat) ((0:Int),(0:Int),(0:Int),[],())).snd.snd.fst)).fst.snd.fst,(Rose.val (numP (x.snd.snd.fst,x.snd.snd.snd.fst,
 x.snd.snd.snd.snd.fst,x.snd.snd.snd.snd.snd.fst,x.snd.snd.snd.snd.snd.snd,()) (-9223372036854775808:Int) ((Rose.node ((op,pos,nm,ar,()),())
 sb).val.fst.snd.snd.snd.fst.getD (0:Nat) ((0:Int),(0:Int),(0:Int),[],())).snd.snd.fst)).fst.snd.snd.fst,(Rose.val (numP (x.snd.snd.fst,x.snd.snd.snd.fst,
 x.snd.snd.snd.snd.fst,x.snd.snd.snd.snd.snd.fst,x.snd.snd.snd.snd.snd.snd,()) (-9223372036854775808:Int) ((Rose.node ((op,pos,nm,ar,()),())
 sb).val.fst.snd.snd.snd.fst.getD (0:Nat) ((0:Int),(0:Int),(0:Int),[],())).snd.snd.fst)).fst.snd.snd.snd.fst,(Rose.val (numP (x.snd.snd.fst,x.snd.snd.snd.fst,
 x.snd.snd.snd.snd.fst,x.snd.snd.snd.snd.snd.fst,x.snd.snd.snd.snd.snd.snd,()) (-9223372036854775808:Int) ((Rose.node ((op,pos,nm,ar,()),())
 sb).val.fst.snd.snd.snd.fst.getD (0:Nat) ((0:Int),(0:Int),(0:Int),[],())).snd.snd.fst)).fst.snd.snd.snd.snd.fst,()),()) (Rose.subs (numP (x.snd.snd.fst,
 x.snd.snd.snd.fst,x.snd.snd.snd.snd.fst,x.snd.snd.snd.snd.snd.fst,x.snd.snd.snd.snd.snd.snd,()) (-9223372036854775808:Int) ((Rose.node ((op,pos,nm,ar,()),())
 sb).val.fst.snd.snd.snd.fst.getD (0:Nat) ((0:Int),(0:Int),(0:Int),[],())).snd.snd.fst))))) ∧ (decide ((Rose.node ((op,pos,nm,ar,()),()) sb).val.fst.fst = (12 :
 Int)) = false → True ∧ relP (d,m,l,()) (Rose.node ((op,pos,nm,ar,()),()) sb) = Sum.inl (Rose.node (((Rose.val (numP (x.snd.snd.fst,x.snd.snd.snd.fst,
 x.snd.snd.snd.snd.fst,x.snd.snd.snd.snd.snd.fst,x.snd.snd.snd.snd.snd.snd,()) (-9223372036854775808:Int) ((Rose.node ((op,pos,nm,ar,()),())
 sb).val.fst.snd.snd.snd.fst.getD (0:Nat) ((0:Int),(0:Int),(0:Int),[],())).snd.snd.fst)).fst.fst,(Rose.val (numP (x.snd.snd.fst,x.snd.snd.snd.fst,
 x.snd.snd.snd.snd.fst,x.snd.snd.snd.snd.snd.fst,x.snd.snd.snd.snd.snd.snd,()) (-9223372036854775808:Int) ((Rose.node ((op,pos,nm,ar,()),())
 sb).val.fst.snd.snd.snd.fst.getD (0:Nat) ((0:Int),(0:Int),(0:Int),[],())).snd.snd.fst)).fst.snd.fst,(Rose.val (numP (x.snd.snd.fst,x.snd.snd.snd.fst,
 x.snd.snd.snd.snd.fst,x.snd.snd.snd.snd.snd.fst,x.snd.snd.snd.snd.snd.snd,()) (-9223372036854775808:Int) ((Rose.node ((op,pos,nm,ar,()),())
 sb).val.fst.snd.snd.snd.fst.getD (0:Nat) ((0:Int),(0:Int),(0:Int),[],())).snd.snd.fst)).fst.snd.snd.fst,(Rose.val (numP (x.snd.snd.fst,x.snd.snd.snd.fst,
 x.snd.snd.snd.snd.fst,x.snd.snd.snd.snd.snd.fst,x.snd.snd.snd.snd.snd.snd,()) (-9223372036854775808:Int) ((Rose.node ((op,pos,nm,ar,()),())
 sb).val.fst.snd.snd.snd.fst.getD (0:Nat) ((0:Int),(0:Int),(0:Int),[],())).snd.snd.fst)).fst.snd.snd.snd.fst,(Rose.val (numP (x.snd.snd.fst,x.snd.snd.snd.fst,
 x.snd.snd.snd.snd.fst,x.snd.snd.snd.snd.snd.fst,x.snd.snd.snd.snd.snd.snd,()) (-9223372036854775808:Int) ((Rose.node ((op,pos,nm,ar,()),())
 sb).val.fst.snd.snd.snd.fst.getD (0:Nat) ((0:Int),(0:Int),(0:Int),[],())).snd.snd.fst)).fst.snd.snd.snd.snd.fst,()),()) (Rose.subs (numP (x.snd.snd.fst,
 x.snd.snd.snd.fst,x.snd.snd.snd.snd.fst,x.snd.snd.snd.snd.snd.fst,x.snd.snd.snd.snd.snd.snd,()) (-9223372036854775808:Int) ((Rose.node ((op,pos,nm,ar,()),())
 sb).val.fst.snd.snd.snd.fst.getD (0:Nat) ((0:Int),(0:Int),(0:Int),[],())).snd.snd.fst))))))) ∧ (¬(Rose.node ((op,pos,nm,ar,()),()) sb).val.fst.fst = (9:Int) →
 ((Rose.node ((op,pos,nm,ar,()),()) sb).val.fst.fst = (10:Int) → (decide (y.snd.fst = (2:Int)) = true → True ∧ pan ((Rose.node ((op,pos,nm,ar,()),())
 sb).val.fst.snd.fst,(130:Int))) ∧ (decide (y.snd.fst = (2:Int)) = false → ∃ (I:Int × List (Rose ((I.pair (Ty.str.pair (I.pair (I.pair (Ty.str.pair Ty.unit))))).den ×
 Ty.unit.den)) × List Int × Int × Int × Int × List (List Int) → Prop),∃ (μ:Int × List (Rose ((YtbjjaaimhleedaaGreatDoor.I.pair (Ty.str.pair (YtbjjaaimhleedaaGreatDoor.I.pair
 (YtbjjaaimhleedaaGreatDoor.I.pair (Ty.str.pair Ty.unit))))).den × Ty.unit.den)) × List Int × Int × Int × Int × List (List Int) → Nat),I ((0:Int),[],y.fst,y.snd.fst,
 y.snd.snd.fst,y.snd.snd.snd.fst,y.snd.snd.snd.snd.fst) ∧ ∀ (x:Int × List (Rose ((YtbjjaaimhleedaaGreatDoor.I.pair (Ty.str.pair (YtbjjaaimhleedaaGreatDoor.I.pair
 (YtbjjaaimhleedaaGreatDoor.I.pair (Ty.str.pair Ty.unit))))).den × Ty.unit.den)) × List Int × Int × Int × Int × List (List Int)),I x → (decide (x.fst < (↑(Rose.node ((op,pos,
 nm,ar,()),()) sb).val.fst.snd.snd.snd.fst.length:Int)) = true → ((0:Int) ≤ x.fst ∧ x.fst < (↑(Rose.node ((op,pos,nm,ar,()),()) sb).val.fst.snd.snd.snd.fst.length :
 Int)) ∧ True ∧ (∀ (y:PUnit),chkP (x.snd.snd.fst,x.snd.snd.snd.fst,x.snd.snd.snd.snd.fst,x.snd.snd.snd.snd.snd.fst,x.snd.snd.snd.snd.snd.snd,()) (((Rose.node ((op,pos,
 nm,ar,()),()) sb).val.fst.snd.snd.snd.fst.getD x.fst.toNat ((0:Int),(0:Int),(0:Int),[],())).fst,((Rose.node ((op,pos,nm,ar,()),())
 sb).val.fst.snd.snd.snd.fst.getD x.fst.toNat ((0:Int),(0:Int),(0:Int),[],())).snd.fst,((Rose.node ((op,pos,nm,ar,()),()) sb).val.fst.snd.snd.snd.fst.getD
 x.fst.toNat ((0:Int),(0:Int),(0:Int),[],())).snd.snd.fst,((Rose.node ((op,pos,nm,ar,()),()) sb).val.fst.snd.snd.snd.fst.getD x.fst.toNat ((0:Int),(0:Int),(0
 : Int),[],())).snd.snd.snd.fst,()) = Sum.inl y → True ∧ roomP (GB0 pan) (37:Nat) (x.snd.fst.length + [eqP (x.snd.snd.fst,x.snd.snd.snd.fst,x.snd.snd.snd.snd.fst,
 x.snd.snd.snd.snd.snd.fst,x.snd.snd.snd.snd.snd.snd,()) (((Rose.node ((op,pos,nm,ar,()),()) sb).val.fst.snd.snd.snd.fst.getD x.fst.toNat ((0:Int),(0:Int),(0:Int),
 [],())).fst,((Rose.node ((op,pos,nm,ar,()),()) sb).val.fst.snd.snd.snd.fst.getD x.fst.toNat ((0:Int),(0:Int),(0:Int),[],())).snd.fst,((Rose.node ((op,pos,nm,
 ar,()),()) sb).val.fst.snd.snd.snd.fst.getD x.fst.toNat ((0:Int),(0:Int),(0:Int),[],())).snd.snd.fst,((Rose.node ((op,pos,nm,ar,()),())
 sb).val.fst.snd.snd.snd.fst.getD x.fst.toNat ((0:Int),(0:Int),(0:Int),[],())).snd.snd.snd.fst,())].length) ∧ isI64 (x.fst + (1:Int)) ∧ I (x.fst + (1:Int),
 x.snd.fst ++ [eqP (x.snd.snd.fst,x.snd.snd.snd.fst,x.snd.snd.snd.snd.fst,x.snd.snd.snd.snd.snd.fst,x.snd.snd.snd.snd.snd.snd,()) (((Rose.node ((op,pos,nm,ar,()),())
 sb).val.fst.snd.snd.snd.fst.getD x.fst.toNat ((0:Int),(0:Int),(0:Int),[],())).fst,((Rose.node ((op,pos,nm,ar,()),()) sb).val.fst.snd.snd.snd.fst.getD x.fst.toNat
 ((0:Int),(0:Int),(0:Int),[],())).snd.fst,((Rose.node ((op,pos,nm,ar,()),()) sb).val.fst.snd.snd.snd.fst.getD x.fst.toNat ((0:Int),(0:Int),(0:Int),[],
 ())).snd.snd.fst,((Rose.node ((op,pos,nm,ar,()),()) sb).val.fst.snd.snd.snd.fst.getD x.fst.toNat ((0:Int),(0:Int),(0:Int),[],())).snd.snd.snd.fst,())],
 x.snd.snd.fst,x.snd.snd.snd.fst,x.snd.snd.snd.snd.fst,x.snd.snd.snd.snd.snd.fst,x.snd.snd.snd.snd.snd.snd) ∧ μ (x.fst + (1:Int),x.snd.fst ++ [eqP (x.snd.snd.fst,
 x.snd.snd.snd.fst,x.snd.snd.snd.snd.fst,x.snd.snd.snd.snd.snd.fst,x.snd.snd.snd.snd.snd.snd,()) (((Rose.node ((op,pos,nm,ar,()),()) sb).val.fst.snd.snd.snd.fst.getD
 x.fst.toNat ((0:Int),(0:Int),(0:Int),[],())).fst,((Rose.node ((op,pos,nm,ar,()),()) sb).val.fst.snd.snd.snd.fst.getD x.fst.toNat ((0:Int),(0:Int),(0:Int),
 [],())).snd.fst,((Rose.node ((op,pos,nm,ar,()),()) sb).val.fst.snd.snd.snd.fst.getD x.fst.toNat ((0:Int),(0:Int),(0:Int),[],())).snd.snd.fst,((Rose.node ((op,
 pos,nm,ar,()),()) sb).val.fst.snd.snd.snd.fst.getD x.fst.toNat ((0:Int),(0:Int),(0:Int),[],())).snd.snd.snd.fst,())],x.snd.snd.fst,x.snd.snd.snd.fst,
 x.snd.snd.snd.snd.fst,x.snd.snd.snd.snd.snd.fst,x.snd.snd.snd.snd.snd.snd) < μ x) ∧ ∀ (b:Int × Int),chkP (x.snd.snd.fst,x.snd.snd.snd.fst,x.snd.snd.snd.snd.fst,
 x.snd.snd.snd.snd.snd.fst,x.snd.snd.snd.snd.snd.snd,()) (((Rose.node ((op,pos,nm,ar,()),()) sb).val.fst.snd.snd.snd.fst.getD x.fst.toNat ((0:Int),(0:Int),(0:Int),
 [],())).fst,((Rose.node ((op,pos,nm,ar,()),()) sb).val.fst.snd.snd.snd.fst.getD x.fst.toNat ((0:Int),(0:Int),(0:Int),[],())).snd.fst,((Rose.node ((op,pos,nm,
 ar,()),()) sb).val.fst.snd.snd.snd.fst.getD x.fst.toNat ((0:Int),(0:Int),(0:Int),[],())).snd.snd.fst,((Rose.node ((op,pos,nm,ar,()),())
 sb).val.fst.snd.snd.snd.fst.getD x.fst.toNat ((0:Int),(0:Int),(0:Int),[],())).snd.snd.snd.fst,()) = Sum.inr b → pan b) ∧ (decide (x.fst < (↑(Rose.node ((op,pos,nm,
 ar,()),()) sb).val.fst.snd.snd.snd.fst.length:Int)) = false → ((0:Int) ≤ (0:Int) ∧ (0:Int) < (↑(Rose.node ((op,pos,nm,ar,()),()) sb).val.fst.snd.snd.snd.fst.length
 : Int)) ∧ isI64 (((Rose.node ((op,pos,nm,ar,()),()) sb).val.fst.snd.snd.snd.fst.getD (0:Nat) ((0:Int),(0:Int),(0:Int),[],())).snd.snd.fst + (1:Int)) ∧ (decide
 ((Rose.node ((op,pos,nm,ar,()),()) sb).val.fst.fst = (12:Int)) = true → (decide ((9223372036854775807:Int) < ((Rose.node ((op,pos,nm,ar,()),())
 sb).val.fst.snd.snd.snd.fst.getD (0:Nat) ((0:Int),(0:Int),(0:Int),[],())).snd.snd.fst + (1:Int)) = true → ((0:Int) ≤ (0:Int) ∧ (0:Int) < (↑(Rose.node ((op,
 pos,nm,ar,()),()) sb).val.fst.snd.snd.snd.fst.length:Int)) ∧ True ∧ pan (((Rose.node ((op,pos,nm,ar,()),()) sb).val.fst.snd.snd.snd.fst.getD (0:Nat) ((0:Int),(0 :
 Int),(0:Int),[],())).snd.fst,(131:Int))) ∧ (decide ((9223372036854775807:Int) < ((Rose.node ((op,pos,nm,ar,()),()) sb).val.fst.snd.snd.snd.fst.getD (0:Nat) ((0 :
 Int),(0:Int),(0:Int),[],())).snd.snd.fst + (1:Int)) = false → True ∧ relP (d,m,l,()) (Rose.node ((op,pos,nm,ar,()),()) sb) = Sum.inl (Rose.node (((Rose.val
 (numP (x.snd.snd.fst,x.snd.snd.snd.fst,x.snd.snd.snd.snd.fst,x.snd.snd.snd.snd.snd.fst,x.snd.snd.snd.snd.snd.snd,()) (((Rose.node ((op,pos,nm,ar,()),())
 sb).val.fst.snd.snd.snd.fst.getD (0:Nat) ((0:Int),(0:Int),(0:Int),[],())).snd.snd.fst + (1:Int)) (9223372036854775807:Int))).fst.fst,(Rose.val (numP
 (x.snd.snd.fst,x.snd.snd.snd.fst,x.snd.snd.snd.snd.fst,x.snd.snd.snd.snd.snd.fst,x.snd.snd.snd.snd.snd.snd,()) (((Rose.node ((op,pos,nm,ar,()),())
 sb).val.fst.snd.snd.snd.fst.getD (0:Nat) ((0:Int),(0:Int),(0:Int),[],())).snd.snd.fst + (1:Int)) (9223372036854775807:Int))).fst.snd.fst,(Rose.val (numP
 (x.snd.snd.fst,x.snd.snd.snd.fst,x.snd.snd.snd.snd.fst,x.snd.snd.snd.snd.snd.fst,x.snd.snd.snd.snd.snd.snd,()) (((Rose.node ((op,pos,nm,ar,()),())
 sb).val.fst.snd.snd.snd.fst.getD (0:Nat) ((0:Int),(0:Int),(0:Int),[],())).snd.snd.fst + (1:Int)) (9223372036854775807:Int))).fst.snd.snd.fst,(Rose.val (numP
 (x.snd.snd.fst,x.snd.snd.snd.fst,x.snd.snd.snd.snd.fst,x.snd.snd.snd.snd.snd.fst,x.snd.snd.snd.snd.snd.snd,()) (((Rose.node ((op,pos,nm,ar,()),())
 sb).val.fst.snd.snd.snd.fst.getD (0:Nat) ((0:Int),(0:Int),(0:Int),[],())).snd.snd.fst + (1:Int)) (9223372036854775807:Int))).fst.snd.snd.snd.fst,(Rose.val (numP
 (x.snd.snd.fst,x.snd.snd.snd.fst,x.snd.snd.snd.snd.fst,x.snd.snd.snd.snd.snd.fst,x.snd.snd.snd.snd.snd.snd,()) (((Rose.node ((op,pos,nm,ar,()),())
 sb).val.fst.snd.snd.snd.fst.getD (0:Nat) ((0:Int),(0:Int),(0:Int),[],())).snd.snd.fst + (1:Int)) (9223372036854775807:Int))).fst.snd.snd.snd.snd.fst,()),())
 (Rose.subs (numP (x.snd.snd.fst,x.snd.snd.snd.fst,x.snd.snd.snd.snd.fst,x.snd.snd.snd.snd.snd.fst,x.snd.snd.snd.snd.snd.snd,()) (((Rose.node ((op,pos,nm,ar,()),())
 sb).val.fst.snd.snd.snd.fst.getD (0:Nat) ((0:Int),(0:Int),(0:Int),[],())).snd.snd.fst + (1:Int)) (9223372036854775807:Int)))))) ∧ (decide ((Rose.node ((op,pos,
 nm,ar,()),()) sb).val.fst.fst = (12:Int)) = false → True ∧ relP (d,m,l,()) (Rose.node ((op,pos,nm,ar,()),()) sb) = Sum.inl (Rose.node (((Rose.val (numP
 (x.snd.snd.fst,x.snd.snd.snd.fst,x.snd.snd.snd.snd.fst,x.snd.snd.snd.snd.snd.fst,x.snd.snd.snd.snd.snd.snd,()) (((Rose.node ((op,pos,nm,ar,()),())
 sb).val.fst.snd.snd.snd.fst.getD (0:Nat) ((0:Int),(0:Int),(0:Int),[],())).snd.snd.fst + (1:Int)) (9223372036854775807:Int))).fst.fst,(Rose.val (numP
 (x.snd.snd.fst,x.snd.snd.snd.fst,x.snd.snd.snd.snd.fst,x.snd.snd.snd.snd.snd.fst,x.snd.snd.snd.snd.snd.snd,()) (((Rose.node ((op,pos,nm,ar,()),())
 sb).val.fst.snd.snd.snd.fst.getD (0:Nat) ((0:Int),(0:Int),(0:Int),[],())).snd.snd.fst + (1:Int)) (9223372036854775807:Int))).fst.snd.fst,(Rose.val (numP
 (x.snd.snd.fst,x.snd.snd.snd.fst,x.snd.snd.snd.snd.fst,x.snd.snd.snd.snd.snd.fst,x.snd.snd.snd.snd.snd.snd,()) (((Rose.node ((op,pos,nm,ar,()),())
 sb).val.fst.snd.snd.snd.fst.getD (0:Nat) ((0:Int),(0:Int),(0:Int),[],())).snd.snd.fst + (1:Int)) (9223372036854775807:Int))).fst.snd.snd.fst,(Rose.val (numP
 (x.snd.snd.fst,x.snd.snd.snd.fst,x.snd.snd.snd.snd.fst,x.snd.snd.snd.snd.snd.fst,x.snd.snd.snd.snd.snd.snd,()) (((Rose.node ((op,pos,nm,ar,()),())
 sb).val.fst.snd.snd.snd.fst.getD (0:Nat) ((0:Int),(0:Int),(0:Int),[],())).snd.snd.fst + (1:Int)) (9223372036854775807:Int))).fst.snd.snd.snd.fst,(Rose.val (numP
 (x.snd.snd.fst,x.snd.snd.snd.fst,x.snd.snd.snd.snd.fst,x.snd.snd.snd.snd.snd.fst,x.snd.snd.snd.snd.snd.snd,()) (((Rose.node ((op,pos,nm,ar,()),())
 sb).val.fst.snd.snd.snd.fst.getD (0:Nat) ((0:Int),(0:Int),(0:Int),[],())).snd.snd.fst + (1:Int)) (9223372036854775807:Int))).fst.snd.snd.snd.snd.fst,()),())
 (Rose.subs (numP (x.snd.snd.fst,x.snd.snd.snd.fst,x.snd.snd.snd.snd.fst,x.snd.snd.snd.snd.snd.fst,x.snd.snd.snd.snd.snd.snd,()) (((Rose.node ((op,pos,nm,ar,()),())
 sb).val.fst.snd.snd.snd.fst.getD (0:Nat) ((0:Int),(0:Int),(0:Int),[],())).snd.snd.fst + (1:Int)) (9223372036854775807:Int)))))))) ∧ (¬(Rose.node ((op,pos,nm,
 ar,()),()) sb).val.fst.fst = (10:Int) → ((Rose.node ((op,pos,nm,ar,()),()) sb).val.fst.fst = (11:Int) → (decide (y.snd.fst = (2:Int)) = true → True ∧ pan ((Rose.node
 ((op,pos,nm,ar,()),()) sb).val.fst.snd.fst,(130:Int))) ∧ (decide (y.snd.fst = (2:Int)) = false → ∃ (I:Int × List (Rose ((I.pair (Ty.str.pair (I.pair (I.pair
 (Ty.str.pair Ty.unit))))).den × Ty.unit.den)) × List Int × Int × Int × Int × List (List Int) → Prop),∃ (μ:Int × List (Rose ((YtbjjaaimhleedaaGreatDoor.I.pair (Ty.str.pair
 (YtbjjaaimhleedaaGreatDoor.I.pair (YtbjjaaimhleedaaGreatDoor.I.pair (Ty.str.pair Ty.unit))))).den × Ty.unit.den)) × List Int × Int × Int × Int × List (List Int) → Nat),I ((0 :
 Int),[],y.fst,y.snd.fst,y.snd.snd.fst,y.snd.snd.snd.fst,y.snd.snd.snd.snd.fst) ∧ ∀ (x:Int × List (Rose ((YtbjjaaimhleedaaGreatDoor.I.pair (Ty.str.pair
 (YtbjjaaimhleedaaGreatDoor.I.pair (YtbjjaaimhleedaaGreatDoor.I.pair (Ty.str.pair Ty.unit))))).den × Ty.unit.den)) × List Int × Int × Int × Int × List (List Int)),I x → (decide
 (x.fst < (↑(Rose.node ((op,pos,nm,ar,()),()) sb).val.fst.snd.snd.snd.fst.length:Int)) = true → ((0:Int) ≤ x.fst ∧ x.fst < (↑(Rose.node ((op,pos,nm,ar,()),())
 sb).val.fst.snd.snd.snd.fst.length:Int)) ∧ True ∧ (∀ (y:PUnit),chkP (x.snd.snd.fst,x.snd.snd.snd.fst,x.snd.snd.snd.snd.fst,x.snd.snd.snd.snd.snd.fst,
 x.snd.snd.snd.snd.snd.snd,()) (((Rose.node ((op,pos,nm,ar,()),()) sb).val.fst.snd.snd.snd.fst.getD x.fst.toNat ((0:Int),(0:Int),(0:Int),[],())).fst,((Rose.node
 ((op,pos,nm,ar,()),()) sb).val.fst.snd.snd.snd.fst.getD x.fst.toNat ((0:Int),(0:Int),(0:Int),[],())).snd.fst,((Rose.node ((op,pos,nm,ar,()),())
 sb).val.fst.snd.snd.snd.fst.getD x.fst.toNat ((0:Int),(0:Int),(0:Int),[],())).snd.snd.fst,((Rose.node ((op,pos,nm,ar,()),()) sb).val.fst.snd.snd.snd.fst.getD
 x.fst.toNat ((0:Int),(0:Int),(0:Int),[],())).snd.snd.snd.fst,()) = Sum.inl y → True ∧ roomP (GB0 pan) (37:Nat) (x.snd.fst.length + [eqP (x.snd.snd.fst,
 x.snd.snd.snd.fst,x.snd.snd.snd.snd.fst,x.snd.snd.snd.snd.snd.fst,x.snd.snd.snd.snd.snd.snd,()) (((Rose.node ((op,pos,nm,ar,()),()) sb).val.fst.snd.snd.snd.fst.getD
 x.fst.toNat ((0:Int),(0:Int),(0:Int),[],())).fst,((Rose.node ((op,pos,nm,ar,()),()) sb).val.fst.snd.snd.snd.fst.getD x.fst.toNat ((0:Int),(0:Int),(0:Int),
 [],())).snd.fst,((Rose.node ((op,pos,nm,ar,()),()) sb).val.fst.snd.snd.snd.fst.getD x.fst.toNat ((0:Int),(0:Int),(0:Int),[],())).snd.snd.fst,((Rose.node ((op,
 pos,nm,ar,()),()) sb).val.fst.snd.snd.snd.fst.getD x.fst.toNat ((0:Int),(0:Int),(0:Int),[],())).snd.snd.snd.fst,())].length) ∧ isI64 (x.fst + (1:Int)) ∧ I (x.fst
 + (1:Int),x.snd.fst ++ [eqP (x.snd.snd.fst,x.snd.snd.snd.fst,x.snd.snd.snd.snd.fst,x.snd.snd.snd.snd.snd.fst,x.snd.snd.snd.snd.snd.snd,()) (((Rose.node ((op,pos,nm,ar,
 ()),()) sb).val.fst.snd.snd.snd.fst.getD x.fst.toNat ((0:Int),(0:Int),(0:Int),[],())).fst,((Rose.node ((op,pos,nm,ar,()),()) sb).val.fst.snd.snd.snd.fst.getD
 x.fst.toNat ((0:Int),(0:Int),(0:Int),[],())).snd.fst,((Rose.node ((op,pos,nm,ar,()),()) sb).val.fst.snd.snd.snd.fst.getD x.fst.toNat ((0:Int),(0:Int),(0 :
 Int),[],())).snd.snd.fst,((Rose.node ((op,pos,nm,ar,()),()) sb).val.fst.snd.snd.snd.fst.getD x.fst.toNat ((0:Int),(0:Int),(0:Int),[],())).snd.snd.snd.fst,())],
 x.snd.snd.fst,x.snd.snd.snd.fst,x.snd.snd.snd.snd.fst,x.snd.snd.snd.snd.snd.fst,x.snd.snd.snd.snd.snd.snd) ∧ μ (x.fst + (1:Int),x.snd.fst ++ [eqP (x.snd.snd.fst,
 x.snd.snd.snd.fst,x.snd.snd.snd.snd.fst,x.snd.snd.snd.snd.snd.fst,x.snd.snd.snd.snd.snd.snd,()) (((Rose.node ((op,pos,nm,ar,()),()) sb).val.fst.snd.snd.snd.fst.getD
 x.fst.toNat ((0:Int),(0:Int),(0:Int),[],())).fst,((Rose.node ((op,pos,nm,ar,()),()) sb).val.fst.snd.snd.snd.fst.getD x.fst.toNat ((0:Int),(0:Int),(0:Int),
 [],())).snd.fst,((Rose.node ((op,pos,nm,ar,()),()) sb).val.fst.snd.snd.snd.fst.getD x.fst.toNat ((0:Int),(0:Int),(0:Int),[],())).snd.snd.fst,((Rose.node ((op,
 pos,nm,ar,()),()) sb).val.fst.snd.snd.snd.fst.getD x.fst.toNat ((0:Int),(0:Int),(0:Int),[],())).snd.snd.snd.fst,())],x.snd.snd.fst,x.snd.snd.snd.fst,
 x.snd.snd.snd.snd.fst,x.snd.snd.snd.snd.snd.fst,x.snd.snd.snd.snd.snd.snd) < μ x) ∧ ∀ (b:Int × Int),chkP (x.snd.snd.fst,x.snd.snd.snd.fst,x.snd.snd.snd.snd.fst,
 x.snd.snd.snd.snd.snd.fst,x.snd.snd.snd.snd.snd.snd,()) (((Rose.node ((op,pos,nm,ar,()),()) sb).val.fst.snd.snd.snd.fst.getD x.fst.toNat ((0:Int),(0:Int),(0:Int),
 [],())).fst,((Rose.node ((op,pos,nm,ar,()),()) sb).val.fst.snd.snd.snd.fst.getD x.fst.toNat ((0:Int),(0:Int),(0:Int),[],())).snd.fst,((Rose.node ((op,pos,nm,
 ar,()),()) sb).val.fst.snd.snd.snd.fst.getD x.fst.toNat ((0:Int),(0:Int),(0:Int),[],())).snd.snd.fst,((Rose.node ((op,pos,nm,ar,()),())
 sb).val.fst.snd.snd.snd.fst.getD x.fst.toNat ((0:Int),(0:Int),(0:Int),[],())).snd.snd.snd.fst,()) = Sum.inr b → pan b) ∧ (decide (x.fst < (↑(Rose.node ((op,pos,nm,
 ar,()),()) sb).val.fst.snd.snd.snd.fst.length:Int)) = false → ((0:Int) ≤ (0:Int) ∧ (0:Int) < (↑(Rose.node ((op,pos,nm,ar,()),()) sb).val.fst.snd.snd.snd.fst.length
 : Int)) ∧ (decide ((Rose.node ((op,pos,nm,ar,()),()) sb).val.fst.fst = (12:Int)) = true → (decide ((9223372036854775807:Int) < ((Rose.node ((op,pos,nm,ar,()),())
 sb).val.fst.snd.snd.snd.fst.getD (0:Nat) ((0:Int),(0:Int),(0:Int),[],())).snd.snd.fst) = true → ((0:Int) ≤ (0:Int) ∧ (0:Int) < (↑(Rose.node ((op,pos,nm,ar,
 ()),()) sb).val.fst.snd.snd.snd.fst.length:Int)) ∧ True ∧ pan (((Rose.node ((op,pos,nm,ar,()),()) sb).val.fst.snd.snd.snd.fst.getD (0:Nat) ((0:Int),(0:Int),(0 :
 Int),[],())).snd.fst,(131:Int))) ∧ (decide ((9223372036854775807:Int) < ((Rose.node ((op,pos,nm,ar,()),()) sb).val.fst.snd.snd.snd.fst.getD (0:Nat) ((0:Int),(0 :
 Int),(0:Int),[],())).snd.snd.fst) = false → True ∧ relP (d,m,l,()) (Rose.node ((op,pos,nm,ar,()),()) sb) = Sum.inl (Rose.node (((Rose.val (numP (x.snd.snd.fst,
 x.snd.snd.snd.fst,x.snd.snd.snd.snd.fst,x.snd.snd.snd.snd.snd.fst,x.snd.snd.snd.snd.snd.snd,()) ((Rose.node ((op,pos,nm,ar,()),()) sb).val.fst.snd.snd.snd.fst.getD (0 :
 Nat) ((0:Int),(0:Int),(0:Int),[],())).snd.snd.fst (9223372036854775807:Int))).fst.fst,(Rose.val (numP (x.snd.snd.fst,x.snd.snd.snd.fst,x.snd.snd.snd.snd.fst,
 x.snd.snd.snd.snd.snd.fst,x.snd.snd.snd.snd.snd.snd,()) ((Rose.node ((op,pos,nm,ar,()),()) sb).val.fst.snd.snd.snd.fst.getD (0:Nat) ((0:Int),(0:Int),(0:Int),[],
 ())).snd.snd.fst (9223372036854775807:Int))).fst.snd.fst,(Rose.val (numP (x.snd.snd.fst,x.snd.snd.snd.fst,x.snd.snd.snd.snd.fst,x.snd.snd.snd.snd.snd.fst,
 x.snd.snd.snd.snd.snd.snd,()) ((Rose.node ((op,pos,nm,ar,()),()) sb).val.fst.snd.snd.snd.fst.getD (0:Nat) ((0:Int),(0:Int),(0:Int),[],())).snd.snd.fst
 (9223372036854775807:Int))).fst.snd.snd.fst,(Rose.val (numP (x.snd.snd.fst,x.snd.snd.snd.fst,x.snd.snd.snd.snd.fst,x.snd.snd.snd.snd.snd.fst,x.snd.snd.snd.snd.snd.snd,())
 ((Rose.node ((op,pos,nm,ar,()),()) sb).val.fst.snd.snd.snd.fst.getD (0:Nat) ((0:Int),(0:Int),(0:Int),[],())).snd.snd.fst (9223372036854775807 :
 Int))).fst.snd.snd.snd.fst,(Rose.val (numP (x.snd.snd.fst,x.snd.snd.snd.fst,x.snd.snd.snd.snd.fst,x.snd.snd.snd.snd.snd.fst,x.snd.snd.snd.snd.snd.snd,()) ((Rose.node ((op,
 pos,nm,ar,()),()) sb).val.fst.snd.snd.snd.fst.getD (0:Nat) ((0:Int),(0:Int),(0:Int),[],())).snd.snd.fst (9223372036854775807:Int))).fst.snd.snd.snd.snd.fst,
 ()),()) (Rose.subs (numP (x.snd.snd.fst,x.snd.snd.snd.fst,x.snd.snd.snd.snd.fst,x.snd.snd.snd.snd.snd.fst,x.snd.snd.snd.snd.snd.snd,()) ((Rose.node ((op,pos,nm,ar,()),
 ()) sb).val.fst.snd.snd.snd.fst.getD (0:Nat) ((0:Int),(0:Int),(0:Int),[],())).snd.snd.fst (9223372036854775807:Int)))))) ∧ (decide ((Rose.node ((op,pos,nm,ar,
 ()),()) sb).val.fst.fst = (12:Int)) = false → True ∧ relP (d,m,l,()) (Rose.node ((op,pos,nm,ar,()),()) sb) = Sum.inl (Rose.node (((Rose.val (numP (x.snd.snd.fst,
 x.snd.snd.snd.fst,x.snd.snd.snd.snd.fst,x.snd.snd.snd.snd.snd.fst,x.snd.snd.snd.snd.snd.snd,()) ((Rose.node ((op,pos,nm,ar,()),()) sb).val.fst.snd.snd.snd.fst.getD (0 :
 Nat) ((0:Int),(0:Int),(0:Int),[],())).snd.snd.fst (9223372036854775807:Int))).fst.fst,(Rose.val (numP (x.snd.snd.fst,x.snd.snd.snd.fst,x.snd.snd.snd.snd.fst,
 x.snd.snd.snd.snd.snd.fst,x.snd.snd.snd.snd.snd.snd,()) ((Rose.node ((op,pos,nm,ar,()),()) sb).val.fst.snd.snd.snd.fst.getD (0:Nat) ((0:Int),(0:Int),(0:Int),[],
 ())).snd.snd.fst (9223372036854775807:Int))).fst.snd.fst,(Rose.val (numP (x.snd.snd.fst,x.snd.snd.snd.fst,x.snd.snd.snd.snd.fst,x.snd.snd.snd.snd.snd.fst,
 x.snd.snd.snd.snd.snd.snd,()) ((Rose.node ((op,pos,nm,ar,()),()) sb).val.fst.snd.snd.snd.fst.getD (0:Nat) ((0:Int),(0:Int),(0:Int),[],())).snd.snd.fst
 (9223372036854775807:Int))).fst.snd.snd.fst,(Rose.val (numP (x.snd.snd.fst,x.snd.snd.snd.fst,x.snd.snd.snd.snd.fst,x.snd.snd.snd.snd.snd.fst,x.snd.snd.snd.snd.snd.snd,())
 ((Rose.node ((op,pos,nm,ar,()),()) sb).val.fst.snd.snd.snd.fst.getD (0:Nat) ((0:Int),(0:Int),(0:Int),[],())).snd.snd.fst (9223372036854775807 :
 Int))).fst.snd.snd.snd.fst,(Rose.val (numP (x.snd.snd.fst,x.snd.snd.snd.fst,x.snd.snd.snd.snd.fst,x.snd.snd.snd.snd.snd.fst,x.snd.snd.snd.snd.snd.snd,()) ((Rose.node ((op,
 pos,nm,ar,()),()) sb).val.fst.snd.snd.snd.fst.getD (0:Nat) ((0:Int),(0:Int),(0:Int),[],())).snd.snd.fst (9223372036854775807:Int))).fst.snd.snd.snd.snd.fst,
 ()),()) (Rose.subs (numP (x.snd.snd.fst,x.snd.snd.snd.fst,x.snd.snd.snd.snd.fst,x.snd.snd.snd.snd.snd.fst,x.snd.snd.snd.snd.snd.snd,()) ((Rose.node ((op,pos,nm,ar,()),
 ()) sb).val.fst.snd.snd.snd.fst.getD (0:Nat) ((0:Int),(0:Int),(0:Int),[],())).snd.snd.fst (9223372036854775807:Int)))))))) ∧ (¬(Rose.node ((op,pos,nm,ar,()),
 ()) sb).val.fst.fst = (11:Int) → ((Rose.node ((op,pos,nm,ar,()),()) sb).val.fst.fst = (12:Int) → (decide (y.snd.fst = (2:Int)) = true → True ∧ pan ((Rose.node ((op,
 pos,nm,ar,()),()) sb).val.fst.snd.fst,(130:Int))) ∧ (decide (y.snd.fst = (2:Int)) = false → ∃ (I:Int × List (Rose ((I.pair (Ty.str.pair (I.pair (I.pair (Ty.str.pair
 Ty.unit))))).den × Ty.unit.den)) × List Int × Int × Int × Int × List (List Int) → Prop),∃ (μ:Int × List (Rose ((YtbjjaaimhleedaaGreatDoor.I.pair (Ty.str.pair
 (YtbjjaaimhleedaaGreatDoor.I.pair (YtbjjaaimhleedaaGreatDoor.I.pair (Ty.str.pair Ty.unit))))).den × Ty.unit.den)) × List Int × Int × Int × Int × List (List Int) → Nat),I ((0 :
 Int),[],y.fst,y.snd.fst,y.snd.snd.fst,y.snd.snd.snd.fst,y.snd.snd.snd.snd.fst) ∧ ∀ (x:Int × List (Rose ((YtbjjaaimhleedaaGreatDoor.I.pair (Ty.str.pair
 (YtbjjaaimhleedaaGreatDoor.I.pair (YtbjjaaimhleedaaGreatDoor.I.pair (Ty.str.pair Ty.unit))))).den × Ty.unit.den)) × List Int × Int × Int × Int × List (List Int)),I x → (decide
 (x.fst < (↑(Rose.node ((op,pos,nm,ar,()),()) sb).val.fst.snd.snd.snd.fst.length:Int)) = true → ((0:Int) ≤ x.fst ∧ x.fst < (↑(Rose.node ((op,pos,nm,ar,()),())
 sb).val.fst.snd.snd.snd.fst.length:Int)) ∧ True ∧ (∀ (y:PUnit),chkP (x.snd.snd.fst,x.snd.snd.snd.fst,x.snd.snd.snd.snd.fst,x.snd.snd.snd.snd.snd.fst,
 x.snd.snd.snd.snd.snd.snd,()) (((Rose.node ((op,pos,nm,ar,()),()) sb).val.fst.snd.snd.snd.fst.getD x.fst.toNat ((0:Int),(0:Int),(0:Int),[],())).fst,((Rose.node
 ((op,pos,nm,ar,()),()) sb).val.fst.snd.snd.snd.fst.getD x.fst.toNat ((0:Int),(0:Int),(0:Int),[],())).snd.fst,((Rose.node ((op,pos,nm,ar,()),())
 sb).val.fst.snd.snd.snd.fst.getD x.fst.toNat ((0:Int),(0:Int),(0:Int),[],())).snd.snd.fst,((Rose.node ((op,pos,nm,ar,()),()) sb).val.fst.snd.snd.snd.fst.getD
 x.fst.toNat ((0:Int),(0:Int),(0:Int),[],())).snd.snd.snd.fst,()) = Sum.inl y → True ∧ roomP (GB0 pan) (37:Nat) (x.snd.fst.length + [eqP (x.snd.snd.fst,
 x.snd.snd.snd.fst,x.snd.snd.snd.snd.fst,x.snd.snd.snd.snd.snd.fst,x.snd.snd.snd.snd.snd.snd,()) (((Rose.node ((op,pos,nm,ar,()),()) sb).val.fst.snd.snd.snd.fst.getD
 x.fst.toNat ((0:Int),(0:Int),(0:Int),[],())).fst,((Rose.node ((op,pos,nm,ar,()),()) sb).val.fst.snd.snd.snd.fst.getD x.fst.toNat ((0:Int),(0:Int),(0:Int),
 [],())).snd.fst,((Rose.node ((op,pos,nm,ar,()),()) sb).val.fst.snd.snd.snd.fst.getD x.fst.toNat ((0:Int),(0:Int),(0:Int),[],())).snd.snd.fst,((Rose.node ((op,
 pos,nm,ar,()),()) sb).val.fst.snd.snd.snd.fst.getD x.fst.toNat ((0:Int),(0:Int),(0:Int),[],())).snd.snd.snd.fst,())].length) ∧ isI64 (x.fst + (1:Int)) ∧ I (x.fst
 + (1:Int),x.snd.fst ++ [eqP (x.snd.snd.fst,x.snd.snd.snd.fst,x.snd.snd.snd.snd.fst,x.snd.snd.snd.snd.snd.fst,x.snd.snd.snd.snd.snd.snd,()) (((Rose.node ((op,pos,nm,ar,
 ()),()) sb).val.fst.snd.snd.snd.fst.getD x.fst.toNat ((0:Int),(0:Int),(0:Int),[],())).fst,((Rose.node ((op,pos,nm,ar,()),()) sb).val.fst.snd.snd.snd.fst.getD
 x.fst.toNat ((0:Int),(0:Int),(0:Int),[],())).snd.fst,((Rose.node ((op,pos,nm,ar,()),()) sb).val.fst.snd.snd.snd.fst.getD x.fst.toNat ((0:Int),(0:Int),(0 :
 Int),[],())).snd.snd.fst,((Rose.node ((op,pos,nm,ar,()),()) sb).val.fst.snd.snd.snd.fst.getD x.fst.toNat ((0:Int),(0:Int),(0:Int),[],())).snd.snd.snd.fst,())],
 x.snd.snd.fst,x.snd.snd.snd.fst,x.snd.snd.snd.snd.fst,x.snd.snd.snd.snd.snd.fst,x.snd.snd.snd.snd.snd.snd) ∧ μ (x.fst + (1:Int),x.snd.fst ++ [eqP (x.snd.snd.fst,
 x.snd.snd.snd.fst,x.snd.snd.snd.snd.fst,x.snd.snd.snd.snd.snd.fst,x.snd.snd.snd.snd.snd.snd,()) (((Rose.node ((op,pos,nm,ar,()),()) sb).val.fst.snd.snd.snd.fst.getD
 x.fst.toNat ((0:Int),(0:Int),(0:Int),[],())).fst,((Rose.node ((op,pos,nm,ar,()),()) sb).val.fst.snd.snd.snd.fst.getD x.fst.toNat ((0:Int),(0:Int),(0:Int),
 [],())).snd.fst,((Rose.node ((op,pos,nm,ar,()),()) sb).val.fst.snd.snd.snd.fst.getD x.fst.toNat ((0:Int),(0:Int),(0:Int),[],())).snd.snd.fst,((Rose.node ((op,
 pos,nm,ar,()),()) sb).val.fst.snd.snd.snd.fst.getD x.fst.toNat ((0:Int),(0:Int),(0:Int),[],())).snd.snd.snd.fst,())],x.snd.snd.fst,x.snd.snd.snd.fst,
 x.snd.snd.snd.snd.fst,x.snd.snd.snd.snd.snd.fst,x.snd.snd.snd.snd.snd.snd) < μ x) ∧ ∀ (b:Int × Int),chkP (x.snd.snd.fst,x.snd.snd.snd.fst,x.snd.snd.snd.snd.fst,
 x.snd.snd.snd.snd.snd.fst,x.snd.snd.snd.snd.snd.snd,()) (((Rose.node ((op,pos,nm,ar,()),()) sb).val.fst.snd.snd.snd.fst.getD x.fst.toNat ((0:Int),(0:Int),(0:Int),
 [],())).fst,((Rose.node ((op,pos,nm,ar,()),()) sb).val.fst.snd.snd.snd.fst.getD x.fst.toNat ((0:Int),(0:Int),(0:Int),[],())).snd.fst,((Rose.node ((op,pos,nm,
 ar,()),()) sb).val.fst.snd.snd.snd.fst.getD x.fst.toNat ((0:Int),(0:Int),(0:Int),[],())).snd.snd.fst,((Rose.node ((op,pos,nm,ar,()),())
 sb).val.fst.snd.snd.snd.fst.getD x.fst.toNat ((0:Int),(0:Int),(0:Int),[],())).snd.snd.snd.fst,()) = Sum.inr b → pan b) ∧ (decide (x.fst < (↑(Rose.node ((op,pos,nm,
 ar,()),()) sb).val.fst.snd.snd.snd.fst.length:Int)) = false → ((0:Int) ≤ (0:Int) ∧ (0:Int) < (↑(Rose.node ((op,pos,nm,ar,()),()) sb).val.fst.snd.snd.snd.fst.length
 : Int)) ∧ ((0:Int) ≤ (1:Int) ∧ (1:Int) < (↑(Rose.node ((op,pos,nm,ar,()),()) sb).val.fst.snd.snd.snd.fst.length:Int)) ∧ (decide ((Rose.node ((op,pos,nm,ar,()),
 ()) sb).val.fst.fst = (12:Int)) = true → (decide (((Rose.node ((op,pos,nm,ar,()),()) sb).val.fst.snd.snd.snd.fst.getD (1:Nat) ((0:Int),(0:Int),(0:Int),[],
 ())).snd.snd.fst < ((Rose.node ((op,pos,nm,ar,()),()) sb).val.fst.snd.snd.snd.fst.getD (0:Nat) ((0:Int),(0:Int),(0:Int),[],())).snd.snd.fst) = true → ((0:Int)
 ≤ (0:Int) ∧ (0:Int) < (↑(Rose.node ((op,pos,nm,ar,()),()) sb).val.fst.snd.snd.snd.fst.length:Int)) ∧ True ∧ pan (((Rose.node ((op,pos,nm,ar,()),())
 sb).val.fst.snd.snd.snd.fst.getD (0:Nat) ((0:Int),(0:Int),(0:Int),[],())).snd.fst,(131:Int))) ∧ (decide (((Rose.node ((op,pos,nm,ar,()),())
 sb).val.fst.snd.snd.snd.fst.getD (1:Nat) ((0:Int),(0:Int),(0:Int),[],())).snd.snd.fst < ((Rose.node ((op,pos,nm,ar,()),()) sb).val.fst.snd.snd.snd.fst.getD (0 :
 Nat) ((0:Int),(0:Int),(0:Int),[],())).snd.snd.fst) = false → True ∧ relP (d,m,l,()) (Rose.node ((op,pos,nm,ar,()),()) sb) = Sum.inl (Rose.node (((Rose.val (numP
 (x.snd.snd.fst,x.snd.snd.snd.fst,x.snd.snd.snd.snd.fst,x.snd.snd.snd.snd.snd.fst,x.snd.snd.snd.snd.snd.snd,()) ((Rose.node ((op,pos,nm,ar,()),())
 sb).val.fst.snd.snd.snd.fst.getD (0:Nat) ((0:Int),(0:Int),(0:Int),[],())).snd.snd.fst ((Rose.node ((op,pos,nm,ar,()),()) sb).val.fst.snd.snd.snd.fst.getD (1 :
 Nat) ((0:Int),(0:Int),(0:Int),[],())).snd.snd.fst)).fst.fst,(Rose.val (numP (x.snd.snd.fst,x.snd.snd.snd.fst,x.snd.snd.snd.snd.fst,x.snd.snd.snd.snd.snd.fst,
 x.snd.snd.snd.snd.snd.snd,()) ((Rose.node ((op,pos,nm,ar,()),()) sb).val.fst.snd.snd.snd.fst.getD (0:Nat) ((0:Int),(0:Int),(0:Int),[],())).snd.snd.fst
 ((Rose.node ((op,pos,nm,ar,()),()) sb).val.fst.snd.snd.snd.fst.getD (1:Nat) ((0:Int),(0:Int),(0:Int),[],())).snd.snd.fst)).fst.snd.fst,(Rose.val (numP
 (x.snd.snd.fst,x.snd.snd.snd.fst,x.snd.snd.snd.snd.fst,x.snd.snd.snd.snd.snd.fst,x.snd.snd.snd.snd.snd.snd,()) ((Rose.node ((op,pos,nm,ar,()),())
 sb).val.fst.snd.snd.snd.fst.getD (0:Nat) ((0:Int),(0:Int),(0:Int),[],())).snd.snd.fst ((Rose.node ((op,pos,nm,ar,()),()) sb).val.fst.snd.snd.snd.fst.getD (1 :
 Nat) ((0:Int),(0:Int),(0:Int),[],())).snd.snd.fst)).fst.snd.snd.fst,(Rose.val (numP (x.snd.snd.fst,x.snd.snd.snd.fst,x.snd.snd.snd.snd.fst,
 x.snd.snd.snd.snd.snd.fst,x.snd.snd.snd.snd.snd.snd,()) ((Rose.node ((op,pos,nm,ar,()),()) sb).val.fst.snd.snd.snd.fst.getD (0:Nat) ((0:Int),(0:Int),(0:Int),[],
 ())).snd.snd.fst ((Rose.node ((op,pos,nm,ar,()),()) sb).val.fst.snd.snd.snd.fst.getD (1:Nat) ((0:Int),(0:Int),(0:Int),[],())).snd.snd.fst)).fst.snd.snd.snd.fst,
 (Rose.val (numP (x.snd.snd.fst,x.snd.snd.snd.fst,x.snd.snd.snd.snd.fst,x.snd.snd.snd.snd.snd.fst,x.snd.snd.snd.snd.snd.snd,()) ((Rose.node ((op,pos,nm,ar,()),())
 sb).val.fst.snd.snd.snd.fst.getD (0:Nat) ((0:Int),(0:Int),(0:Int),[],())).snd.snd.fst ((Rose.node ((op,pos,nm,ar,()),()) sb).val.fst.snd.snd.snd.fst.getD (1 :
 Nat) ((0:Int),(0:Int),(0:Int),[],())).snd.snd.fst)).fst.snd.snd.snd.snd.fst,()),()) (Rose.subs (numP (x.snd.snd.fst,x.snd.snd.snd.fst,x.snd.snd.snd.snd.fst,
 x.snd.snd.snd.snd.snd.fst,x.snd.snd.snd.snd.snd.snd,()) ((Rose.node ((op,pos,nm,ar,()),()) sb).val.fst.snd.snd.snd.fst.getD (0:Nat) ((0:Int),(0:Int),(0:Int),[],
 ())).snd.snd.fst ((Rose.node ((op,pos,nm,ar,()),()) sb).val.fst.snd.snd.snd.fst.getD (1:Nat) ((0:Int),(0:Int),(0:Int),[],())).snd.snd.fst))))) ∧ (decide
 ((Rose.node ((op,pos,nm,ar,()),()) sb).val.fst.fst = (12:Int)) = false → True ∧ relP (d,m,l,()) (Rose.node ((op,pos,nm,ar,()),()) sb) = Sum.inl (Rose.node
 (((Rose.val (numP (x.snd.snd.fst,x.snd.snd.snd.fst,x.snd.snd.snd.snd.fst,x.snd.snd.snd.snd.snd.fst,x.snd.snd.snd.snd.snd.snd,()) ((Rose.node ((op,pos,nm,ar,()),())
 sb).val.fst.snd.snd.snd.fst.getD (0:Nat) ((0:Int),(0:Int),(0:Int),[],())).snd.snd.fst ((Rose.node ((op,pos,nm,ar,()),()) sb).val.fst.snd.snd.snd.fst.getD (1 :
 Nat) ((0:Int),(0:Int),(0:Int),[],())).snd.snd.fst)).fst.fst,(Rose.val (numP (x.snd.snd.fst,x.snd.snd.snd.fst,x.snd.snd.snd.snd.fst,x.snd.snd.snd.snd.snd.fst,
 x.snd.snd.snd.snd.snd.snd,()) ((Rose.node ((op,pos,nm,ar,()),()) sb).val.fst.snd.snd.snd.fst.getD (0:Nat) ((0:Int),(0:Int),(0:Int),[],())).snd.snd.fst
 ((Rose.node ((op,pos,nm,ar,()),()) sb).val.fst.snd.snd.snd.fst.getD (1:Nat) ((0:Int),(0:Int),(0:Int),[],())).snd.snd.fst)).fst.snd.fst,(Rose.val (numP
 (x.snd.snd.fst,x.snd.snd.snd.fst,x.snd.snd.snd.snd.fst,x.snd.snd.snd.snd.snd.fst,x.snd.snd.snd.snd.snd.snd,()) ((Rose.node ((op,pos,nm,ar,()),())
 sb).val.fst.snd.snd.snd.fst.getD (0:Nat) ((0:Int),(0:Int),(0:Int),[],())).snd.snd.fst ((Rose.node ((op,pos,nm,ar,()),()) sb).val.fst.snd.snd.snd.fst.getD (1 :
 Nat) ((0:Int),(0:Int),(0:Int),[],())).snd.snd.fst)).fst.snd.snd.fst,(Rose.val (numP (x.snd.snd.fst,x.snd.snd.snd.fst,x.snd.snd.snd.snd.fst,
 x.snd.snd.snd.snd.snd.fst,x.snd.snd.snd.snd.snd.snd,()) ((Rose.node ((op,pos,nm,ar,()),()) sb).val.fst.snd.snd.snd.fst.getD (0:Nat) ((0:Int),(0:Int),(0:Int),[],
 ())).snd.snd.fst ((Rose.node ((op,pos,nm,ar,()),()) sb).val.fst.snd.snd.snd.fst.getD (1:Nat) ((0:Int),(0:Int),(0:Int),[],())).snd.snd.fst)).fst.snd.snd.snd.fst,
 (Rose.val (numP (x.snd.snd.fst,x.snd.snd.snd.fst,x.snd.snd.snd.snd.fst,x.snd.snd.snd.snd.snd.fst,x.snd.snd.snd.snd.snd.snd,()) ((Rose.node ((op,pos,nm,ar,()),())
 sb).val.fst.snd.snd.snd.fst.getD (0:Nat) ((0:Int),(0:Int),(0:Int),[],())).snd.snd.fst ((Rose.node ((op,pos,nm,ar,()),()) sb).val.fst.snd.snd.snd.fst.getD (1 :
 Nat) ((0:Int),(0:Int),(0:Int),[],())).snd.snd.fst)).fst.snd.snd.snd.snd.fst,()),()) (Rose.subs (numP (x.snd.snd.fst,x.snd.snd.snd.fst,x.snd.snd.snd.snd.fst,
 x.snd.snd.snd.snd.snd.fst,x.snd.snd.snd.snd.snd.snd,()) ((Rose.node ((op,pos,nm,ar,()),()) sb).val.fst.snd.snd.snd.fst.getD (0:Nat) ((0:Int),(0:Int),(0:Int),[],
 ())).snd.snd.fst ((Rose.node ((op,pos,nm,ar,()),()) sb).val.fst.snd.snd.snd.fst.getD (1:Nat) ((0:Int),(0:Int),(0:Int),[],())).snd.snd.fst))))))) ∧ (¬(Rose.node
 ((op,pos,nm,ar,()),()) sb).val.fst.fst = (12:Int) → ∃ (I:Int × List (Rose ((I.pair (Ty.str.pair (I.pair (I.pair (Ty.str.pair Ty.unit))))).den × Ty.unit.den)) × List Int
 × Int × Int × Int × List (List Int) → Prop),∃ (μ:Int × List (Rose ((YtbjjaaimhleedaaGreatDoor.I.pair (Ty.str.pair (YtbjjaaimhleedaaGreatDoor.I.pair
 (YtbjjaaimhleedaaGreatDoor.I.pair (Ty.str.pair Ty.unit))))).den × Ty.unit.den)) × List Int × Int × Int × Int × List (List Int) → Nat),I ((0:Int),[],y.fst,y.snd.fst,
 y.snd.snd.fst,y.snd.snd.snd.fst,y.snd.snd.snd.snd.fst) ∧ ∀ (x:Int × List (Rose ((YtbjjaaimhleedaaGreatDoor.I.pair (Ty.str.pair (YtbjjaaimhleedaaGreatDoor.I.pair
 (YtbjjaaimhleedaaGreatDoor.I.pair (Ty.str.pair Ty.unit))))).den × Ty.unit.den)) × List Int × Int × Int × Int × List (List Int)),I x → (decide (x.fst < (↑(Rose.node ((op,pos,
 nm,ar,()),()) sb).val.fst.snd.snd.snd.fst.length:Int)) = true → ((0:Int) ≤ x.fst ∧ x.fst < (↑(Rose.node ((op,pos,nm,ar,()),()) sb).val.fst.snd.snd.snd.fst.length :
 Int)) ∧ True ∧ (∀ (y:PUnit),chkP (x.snd.snd.fst,x.snd.snd.snd.fst,x.snd.snd.snd.snd.fst,x.snd.snd.snd.snd.snd.fst,x.snd.snd.snd.snd.snd.snd,()) (((Rose.node ((op,pos,
 nm,ar,()),()) sb).val.fst.snd.snd.snd.fst.getD x.fst.toNat ((0:Int),(0:Int),(0:Int),[],())).fst,((Rose.node ((op,pos,nm,ar,()),())
 sb).val.fst.snd.snd.snd.fst.getD x.fst.toNat ((0:Int),(0:Int),(0:Int),[],())).snd.fst,((Rose.node ((op,pos,nm,ar,()),()) sb).val.fst.snd.snd.snd.fst.getD
 x.fst.toNat ((0:Int),(0:Int),(0:Int),[],())).snd.snd.fst,((Rose.node ((op,pos,nm,ar,()),()) sb).val.fst.snd.snd.snd.fst.getD x.fst.toNat ((0:Int),(0:Int),(0
 : Int),[],())).snd.snd.snd.fst,()) = Sum.inl y → True ∧ roomP (GB0 pan) (37:Nat) (x.snd.fst.length + [eqP (x.snd.snd.fst,x.snd.snd.snd.fst,x.snd.snd.snd.snd.fst,
 x.snd.snd.snd.snd.snd.fst,x.snd.snd.snd.snd.snd.snd,()) (((Rose.node ((op,pos,nm,ar,()),()) sb).val.fst.snd.snd.snd.fst.getD x.fst.toNat ((0:Int),(0:Int),(0:Int),
 [],())).fst,((Rose.node ((op,pos,nm,ar,()),()) sb).val.fst.snd.snd.snd.fst.getD x.fst.toNat ((0:Int),(0:Int),(0:Int),[],())).snd.fst,((Rose.node ((op,pos,nm,
 ar,()),()) sb).val.fst.snd.snd.snd.fst.getD x.fst.toNat ((0:Int),(0:Int),(0:Int),[],())).snd.snd.fst,((Rose.node ((op,pos,nm,ar,()),())
 sb).val.fst.snd.snd.snd.fst.getD x.fst.toNat ((0:Int),(0:Int),(0:Int),[],())).snd.snd.snd.fst,())].length) ∧ isI64 (x.fst + (1:Int)) ∧ I (x.fst + (1:Int),
 x.snd.fst ++ [eqP (x.snd.snd.fst,x.snd.snd.snd.fst,x.snd.snd.snd.snd.fst,x.snd.snd.snd.snd.snd.fst,x.snd.snd.snd.snd.snd.snd,()) (((Rose.node ((op,pos,nm,ar,()),())
 sb).val.fst.snd.snd.snd.fst.getD x.fst.toNat ((0:Int),(0:Int),(0:Int),[],())).fst,((Rose.node ((op,pos,nm,ar,()),()) sb).val.fst.snd.snd.snd.fst.getD x.fst.toNat
 ((0:Int),(0:Int),(0:Int),[],())).snd.fst,((Rose.node ((op,pos,nm,ar,()),()) sb).val.fst.snd.snd.snd.fst.getD x.fst.toNat ((0:Int),(0:Int),(0:Int),[],
 ())).snd.snd.fst,((Rose.node ((op,pos,nm,ar,()),()) sb).val.fst.snd.snd.snd.fst.getD x.fst.toNat ((0:Int),(0:Int),(0:Int),[],())).snd.snd.snd.fst,())],
 x.snd.snd.fst,x.snd.snd.snd.fst,x.snd.snd.snd.snd.fst,x.snd.snd.snd.snd.snd.fst,x.snd.snd.snd.snd.snd.snd) ∧ μ (x.fst + (1:Int),x.snd.fst ++ [eqP (x.snd.snd.fst,
 x.snd.snd.snd.fst,x.snd.snd.snd.snd.fst,x.snd.snd.snd.snd.snd.fst,x.snd.snd.snd.snd.snd.snd,()) (((Rose.node ((op,pos,nm,ar,()),()) sb).val.fst.snd.snd.snd.fst.getD
 x.fst.toNat ((0:Int),(0:Int),(0:Int),[],())).fst,((Rose.node ((op,pos,nm,ar,()),()) sb).val.fst.snd.snd.snd.fst.getD x.fst.toNat ((0:Int),(0:Int),(0:Int),
 [],())).snd.fst,((Rose.node ((op,pos,nm,ar,()),()) sb).val.fst.snd.snd.snd.fst.getD x.fst.toNat ((0:Int),(0:Int),(0:Int),[],())).snd.snd.fst,((Rose.node ((op,
 pos,nm,ar,()),()) sb).val.fst.snd.snd.snd.fst.getD x.fst.toNat ((0:Int),(0:Int),(0:Int),[],())).snd.snd.snd.fst,())],x.snd.snd.fst,x.snd.snd.snd.fst,
 x.snd.snd.snd.snd.fst,x.snd.snd.snd.snd.snd.fst,x.snd.snd.snd.snd.snd.snd) < μ x) ∧ ∀ (b:Int × Int),chkP (x.snd.snd.fst,x.snd.snd.snd.fst,x.snd.snd.snd.snd.fst,
 x.snd.snd.snd.snd.snd.fst,x.snd.snd.snd.snd.snd.snd,()) (((Rose.node ((op,pos,nm,ar,()),()) sb).val.fst.snd.snd.snd.fst.getD x.fst.toNat ((0:Int),(0:Int),(0:Int),
 [],())).fst,((Rose.node ((op,pos,nm,ar,()),()) sb).val.fst.snd.snd.snd.fst.getD x.fst.toNat ((0:Int),(0:Int),(0:Int),[],())).snd.fst,((Rose.node ((op,pos,nm,
 ar,()),()) sb).val.fst.snd.snd.snd.fst.getD x.fst.toNat ((0:Int),(0:Int),(0:Int),[],())).snd.snd.fst,((Rose.node ((op,pos,nm,ar,()),())
 sb).val.fst.snd.snd.snd.fst.getD x.fst.toNat ((0:Int),(0:Int),(0:Int),[],())).snd.snd.snd.fst,()) = Sum.inr b → pan b) ∧ (decide (x.fst < (↑(Rose.node ((op,pos,nm,
 ar,()),()) sb).val.fst.snd.snd.snd.fst.length:Int)) = false → (decide ((Rose.node ((op,pos,nm,ar,()),()) sb).val.fst.fst = (7:Int)) = true → relP (d,m,l,())
 (Rose.node ((op,pos,nm,ar,()),()) sb) = Sum.inl (Rose.node (((2:Int),bytesOf { data:=#[] },(0:Int),(0:Int),bytesOf { data:=#[] },()),()) [Rose.node (((5 :
 Int),x.snd.snd.fst,(0:Int),(0:Int),bytesOf { data:=#[] },()),()) [],Rose.node (((4:Int),bytesOf { data:=#[] },(0:Int),(0:Int),bytesOf { data:=#[] },
 ()),()) x.snd.fst])) ∧ (decide ((Rose.node ((op,pos,nm,ar,()),()) sb).val.fst.fst = (7:Int)) = false → (decide ((↑x.snd.fst.length:Int) = (1:Int)) = true → ((0:Int)
 ≤ (0:Int) ∧ (0:Int) < (↑x.snd.fst.length:Int)) ∧ relP (d,m,l,()) (Rose.node ((op,pos,nm,ar,()),()) sb) = Sum.inl (Rose.node (((x.snd.fst.getD (0:Nat) (Rose.node
 (((0:Int),[],(0:Int),(0:Int),[],()),()) [])).val.fst.fst,(x.snd.fst.getD (0:Nat) (Rose.node (((0:Int),[],(0:Int),(0:Int),[],()),())
 [])).val.fst.snd.fst,(x.snd.fst.getD (0:Nat) (Rose.node (((0:Int),[],(0:Int),(0:Int),[],()),()) [])).val.fst.snd.snd.fst,(x.snd.fst.getD (0:Nat) (Rose.node (((0
 : Int),[],(0:Int),(0:Int),[],()),()) [])).val.fst.snd.snd.snd.fst,(x.snd.fst.getD (0:Nat) (Rose.node (((0:Int),[],(0:Int),(0:Int),[],()),())
 [])).val.fst.snd.snd.snd.snd.fst,()),()) (x.snd.fst.getD (0:Nat) (Rose.node (((0:Int),[],(0:Int),(0:Int),[],()),()) [])).subs)) ∧ (decide ((↑x.snd.fst.length :
 Int) = (1:Int)) = false → relP (d,m,l,()) (Rose.node ((op,pos,nm,ar,()),()) sb) = Sum.inl (Rose.node (((3:Int),bytesOf { data:=#[] },(0:Int),(0:Int),bytesOf
 { data:=#[] },()),()) x.snd.fst)))))))))) ∧ ∀ (b:Int × Int),fndP (d,m,l,()) (Rose.node ((op,pos,nm,ar,()),()) sb) = Sum.inr b → pan b):=by kernel_rfl
end Go.Proofs.YtbjjaaimhleedaaGreatDoor
namespace Go.Proofs.YtbjjaaimhleedaaGreatDoor
open Go.AM Go.PL
noncomputable def GC0 (n:Nat) (pan:Int × Int → Prop):Ctx:=mkctxP bs tGb [] pT [(35,relPSp),(36,fndPSp),(20,typPSp n)] pan hintGb
theorem typ_nf (n:Nat) (pan:Int × Int → Prop) (d m:Int) (l:List Df) (op pos:Int) (nm:List Int) (ar:List Lt) (sb:List Tr):fnwpP (GC0 n pan) 6 20 (typPSp (n + 1))
 ((d,m,l,()),(Rose.node ((op,pos,nm,ar,()),()) sb:Tr)) = ((decide ((5:Int) < (Rose.node ((op,pos,nm,ar,()),()) sb).val.fst.fst) = true → relOk (Rose.node ((op,
 pos,nm,ar,()),()) sb) ∧ (∀ (y:Rose ((I.pair (Ty.str.pair (I.pair (I.pair (Ty.str.pair Ty.unit))))).den × Ty.unit.den)),relP (d,m,l,()) (Rose.node ((op,pos,nm,ar,
 ()),()) sb) = Sum.inl y → typN (n + (1:Nat)) (d,m,l,()) (Rose.node ((op,pos,nm,ar,()),()) sb) = Sum.inl (Rose.node ((y.val.fst.fst,y.val.fst.snd.fst,
 y.val.fst.snd.snd.fst,y.val.fst.snd.snd.snd.fst,y.val.fst.snd.snd.snd.snd.fst,()),()) y.subs)) ∧ ∀ (b:Int × Int),relP (d,m,l,()) (Rose.node ((op,pos,nm,ar,()),())
 sb) = Sum.inr b → pan b) ∧ (decide ((5:Int) < (Rose.node ((op,pos,nm,ar,()),()) sb).val.fst.fst) = false → (decide ((Rose.node ((op,pos,nm,ar,()),()) sb).val.fst.fst
 = (5:Int)) = true → True ∧ (∀ (y:List Int × Int × Int × Int × List (List Int) × PUnit),fndP (d,m,l,()) (Rose.node ((op,pos,nm,ar,()),()) sb) = Sum.inl y → typN (n +
 (1:Nat)) (d,m,l,()) (Rose.node ((op,pos,nm,ar,()),()) sb) = Sum.inl (Rose.node (((5:Int),y.fst,(0:Int),(0:Int),bytesOf { data:=#[] },()),()) [])) ∧ ∀ (b :
 Int × Int),fndP (d,m,l,()) (Rose.node ((op,pos,nm,ar,()),()) sb) = Sum.inr b → pan b) ∧ (decide ((Rose.node ((op,pos,nm,ar,()),()) sb).val.fst.fst = (5:Int)) =
 false → ∃ (I:Int × Int × List Int × Int × Int × List Int × List (Rose ((I.pair (Ty.str.pair (I.pair (I.pair (Ty.str.pair Ty.unit))))).den × Ty.unit.den)) → Prop),∃ (μ:Int ×
 Int × List Int × Int × Int × List Int × List (Rose ((YtbjjaaimhleedaaGreatDoor.I.pair (Ty.str.pair (YtbjjaaimhleedaaGreatDoor.I.pair (YtbjjaaimhleedaaGreatDoor.I.pair
 (Ty.str.pair Ty.unit))))).den × Ty.unit.den)) → Nat),I ((0:Int),(mget (mput (mput (mput (mput [] (1:Int) (1:Int)) (2:Int) (2:Int)) (3:Int) (3:Int)) (4:Int) (4 :
 Int)) (Rose.node ((op,pos,nm,ar,()),()) sb).val.fst.fst).getD (0:Int),bytesOf { data:=#[] },(0:Int),(0:Int),bytesOf { data:=#[] },[]) ∧ ∀ (x:Int × Int ×
 List Int × Int × Int × List Int × List (Rose ((YtbjjaaimhleedaaGreatDoor.I.pair (Ty.str.pair (YtbjjaaimhleedaaGreatDoor.I.pair (YtbjjaaimhleedaaGreatDoor.I.pair (Ty.str.pair
 Ty.unit))))).den × Ty.unit.den))),I x → (decide (x.fst < (↑(Rose.node ((op,pos,nm,ar,()),()) sb).subs.length:Int)) = true → ((0:Int) ≤ x.fst ∧ x.fst < (↑(Rose.node
 ((op,pos,nm,ar,()),()) sb).subs.length:Int)) ∧ ((dep (Rose.node ((((Rose.node ((op,pos,nm,ar,()),()) sb).subs.getD x.fst.toNat (Rose.node (((0:Int),(0:Int),[],
 [],()),()) [])).val.fst.fst,((Rose.node ((op,pos,nm,ar,()),()) sb).subs.getD x.fst.toNat (Rose.node (((0:Int),(0:Int),[],[],()),()) [])).val.fst.snd.fst,
 ((Rose.node ((op,pos,nm,ar,()),()) sb).subs.getD x.fst.toNat (Rose.node (((0:Int),(0:Int),[],[],()),()) [])).val.fst.snd.snd.fst,((Rose.node ((op,pos,nm,ar,
 ()),()) sb).subs.getD x.fst.toNat (Rose.node (((0:Int),(0:Int),[],[],()),()) [])).val.fst.snd.snd.snd.fst,()),()) ((Rose.node ((op,pos,nm,ar,()),())
 sb).subs.getD x.fst.toNat (Rose.node (((0:Int),(0:Int),[],[],()),()) [])).subs) ≤ n ∧ wellN n (Rose.node ((((Rose.node ((op,pos,nm,ar,()),()) sb).subs.getD
 x.fst.toNat (Rose.node (((0:Int),(0:Int),[],[],()),()) [])).val.fst.fst,((Rose.node ((op,pos,nm,ar,()),()) sb).subs.getD x.fst.toNat (Rose.node (((0:Int),(0 :
 Int),[],[],()),()) [])).val.fst.snd.fst,((Rose.node ((op,pos,nm,ar,()),()) sb).subs.getD x.fst.toNat (Rose.node (((0:Int),(0:Int),[],[],()),())
 [])).val.fst.snd.snd.fst,((Rose.node ((op,pos,nm,ar,()),()) sb).subs.getD x.fst.toNat (Rose.node (((0:Int),(0:Int),[],[],()),()) [])).val.fst.snd.snd.snd.fst,()),
 ()) ((Rose.node ((op,pos,nm,ar,()),()) sb).subs.getD x.fst.toNat (Rose.node (((0:Int),(0:Int),[],[],()),()) [])).subs) ∧ smallN n (Rose.node ((((Rose.node ((op,
 pos,nm,ar,()),()) sb).subs.getD x.fst.toNat (Rose.node (((0:Int),(0:Int),[],[],()),()) [])).val.fst.fst,((Rose.node ((op,pos,nm,ar,()),()) sb).subs.getD
 x.fst.toNat (Rose.node (((0:Int),(0:Int),[],[],()),()) [])).val.fst.snd.fst,((Rose.node ((op,pos,nm,ar,()),()) sb).subs.getD x.fst.toNat (Rose.node (((0:Int),(0
 : Int),[],[],()),()) [])).val.fst.snd.snd.fst,((Rose.node ((op,pos,nm,ar,()),()) sb).subs.getD x.fst.toNat (Rose.node (((0:Int),(0:Int),[],[],()),())
 [])).val.fst.snd.snd.snd.fst,()),()) ((Rose.node ((op,pos,nm,ar,()),()) sb).subs.getD x.fst.toNat (Rose.node (((0:Int),(0:Int),[],[],()),()) [])).subs)) ∧ (∀ (y :
 Rose ((YtbjjaaimhleedaaGreatDoor.I.pair (Ty.str.pair (YtbjjaaimhleedaaGreatDoor.I.pair (YtbjjaaimhleedaaGreatDoor.I.pair (Ty.str.pair Ty.unit))))).den × Ty.unit.den)),typN n (d,
 m,l,()) (Rose.node ((((Rose.node ((op,pos,nm,ar,()),()) sb).subs.getD x.fst.toNat (Rose.node (((0:Int),(0:Int),[],[],()),()) [])).val.fst.fst,((Rose.node ((op,
 pos,nm,ar,()),()) sb).subs.getD x.fst.toNat (Rose.node (((0:Int),(0:Int),[],[],()),()) [])).val.fst.snd.fst,((Rose.node ((op,pos,nm,ar,()),()) sb).subs.getD
 x.fst.toNat (Rose.node (((0:Int),(0:Int),[],[],()),()) [])).val.fst.snd.snd.fst,((Rose.node ((op,pos,nm,ar,()),()) sb).subs.getD x.fst.toNat (Rose.node (((0 :
 Int),(0:Int),[],[],()),()) [])).val.fst.snd.snd.snd.fst,()),()) ((Rose.node ((op,pos,nm,ar,()),()) sb).subs.getD x.fst.toNat (Rose.node (((0:Int),(0:Int),[],
 [],()),()) [])).subs) = Sum.inl y → roomP (GC0 n pan) (37:Nat) (x.snd.snd.snd.snd.snd.snd.length + [y].length) ∧ isI64 (x.fst + (1:Int)) ∧ I (x.fst + (1:Int),x.snd.fst,
 x.snd.snd.fst,x.snd.snd.snd.fst,x.snd.snd.snd.snd.fst,x.snd.snd.snd.snd.snd.fst,x.snd.snd.snd.snd.snd.snd ++ [y]) ∧ μ (x.fst + (1:Int),x.snd.fst,x.snd.snd.fst,
 x.snd.snd.snd.fst,x.snd.snd.snd.snd.fst,x.snd.snd.snd.snd.snd.fst,x.snd.snd.snd.snd.snd.snd ++ [y]) < μ x) ∧ ∀ (b:Int × Int),typN n (d,m,l,()) (Rose.node ((((Rose.node
 ((op,pos,nm,ar,()),()) sb).subs.getD x.fst.toNat (Rose.node (((0:Int),(0:Int),[],[],()),()) [])).val.fst.fst,((Rose.node ((op,pos,nm,ar,()),()) sb).subs.getD
 x.fst.toNat (Rose.node (((0:Int),(0:Int),[],[],()),()) [])).val.fst.snd.fst,((Rose.node ((op,pos,nm,ar,()),()) sb).subs.getD x.fst.toNat (Rose.node (((0:Int),(0
 : Int),[],[],()),()) [])).val.fst.snd.snd.fst,((Rose.node ((op,pos,nm,ar,()),()) sb).subs.getD x.fst.toNat (Rose.node (((0:Int),(0:Int),[],[],()),())
 [])).val.fst.snd.snd.snd.fst,()),()) ((Rose.node ((op,pos,nm,ar,()),()) sb).subs.getD x.fst.toNat (Rose.node (((0:Int),(0:Int),[],[],()),()) [])).subs) = Sum.inr
 b → pan b) ∧ (dep (Rose.node ((((Rose.node ((op,pos,nm,ar,()),()) sb).subs.getD x.fst.toNat (Rose.node (((0:Int),(0:Int),[],[],()),()) [])).val.fst.fst,((Rose.node
 ((op,pos,nm,ar,()),()) sb).subs.getD x.fst.toNat (Rose.node (((0:Int),(0:Int),[],[],()),()) [])).val.fst.snd.fst,((Rose.node ((op,pos,nm,ar,()),())
 sb).subs.getD x.fst.toNat (Rose.node (((0:Int),(0:Int),[],[],()),()) [])).val.fst.snd.snd.fst,((Rose.node ((op,pos,nm,ar,()),()) sb).subs.getD x.fst.toNat
 (Rose.node (((0:Int),(0:Int),[],[],()),()) [])).val.fst.snd.snd.snd.fst,()),()) ((Rose.node ((op,pos,nm,ar,()),()) sb).subs.getD x.fst.toNat (Rose.node (((0 :
 Int),(0:Int),[],[],()),()) [])).subs) ≤ n ∧ wellN n (Rose.node ((((Rose.node ((op,pos,nm,ar,()),()) sb).subs.getD x.fst.toNat (Rose.node (((0:Int),(0:Int),[],
 [],()),()) [])).val.fst.fst,((Rose.node ((op,pos,nm,ar,()),()) sb).subs.getD x.fst.toNat (Rose.node (((0:Int),(0:Int),[],[],()),()) [])).val.fst.snd.fst,
 ((Rose.node ((op,pos,nm,ar,()),()) sb).subs.getD x.fst.toNat (Rose.node (((0:Int),(0:Int),[],[],()),()) [])).val.fst.snd.snd.fst,((Rose.node ((op,pos,nm,ar,
 ()),()) sb).subs.getD x.fst.toNat (Rose.node (((0:Int),(0:Int),[],[],()),()) [])).val.fst.snd.snd.snd.fst,()),()) ((Rose.node ((op,pos,nm,ar,()),())
 sb).subs.getD x.fst.toNat (Rose.node (((0:Int),(0:Int),[],[],()),()) [])).subs) ∧ smallN n (Rose.node ((((Rose.node ((op,pos,nm,ar,()),()) sb).subs.getD x.fst.toNat
 (Rose.node (((0:Int),(0:Int),[],[],()),()) [])).val.fst.fst,((Rose.node ((op,pos,nm,ar,()),()) sb).subs.getD x.fst.toNat (Rose.node (((0:Int),(0:Int),[],[],
 ()),()) [])).val.fst.snd.fst,((Rose.node ((op,pos,nm,ar,()),()) sb).subs.getD x.fst.toNat (Rose.node (((0:Int),(0:Int),[],[],()),()) [])).val.fst.snd.snd.fst,
 ((Rose.node ((op,pos,nm,ar,()),()) sb).subs.getD x.fst.toNat (Rose.node (((0:Int),(0:Int),[],[],()),()) [])).val.fst.snd.snd.snd.fst,()),()) ((Rose.node ((op,
 pos,nm,ar,()),()) sb).subs.getD x.fst.toNat (Rose.node (((0:Int),(0:Int),[],[],()),()) [])).subs)) ∧ (∀ (y:Rose ((YtbjjaaimhleedaaGreatDoor.I.pair (Ty.str.pair
 (YtbjjaaimhleedaaGreatDoor.I.pair (YtbjjaaimhleedaaGreatDoor.I.pair (Ty.str.pair Ty.unit))))).den × Ty.unit.den)),typN n (d,m,l,()) (Rose.node ((((Rose.node ((op,pos,nm,
 ar,()),()) sb).subs.getD x.fst.toNat (Rose.node (((0:Int),(0:Int),[],[],()),()) [])).val.fst.fst,((Rose.node ((op,pos,nm,ar,()),()) sb).subs.getD x.fst.toNat
 (Rose.node (((0:Int),(0:Int),[],[],()),()) [])).val.fst.snd.fst,((Rose.node ((op,pos,nm,ar,()),()) sb).subs.getD x.fst.toNat (Rose.node (((0:Int),(0:Int),[],
 [],()),()) [])).val.fst.snd.snd.fst,((Rose.node ((op,pos,nm,ar,()),()) sb).subs.getD x.fst.toNat (Rose.node (((0:Int),(0:Int),[],[],()),())
 [])).val.fst.snd.snd.snd.fst,()),()) ((Rose.node ((op,pos,nm,ar,()),()) sb).subs.getD x.fst.toNat (Rose.node (((0:Int),(0:Int),[],[],()),()) [])).subs) = Sum.inl
 y → roomP (GC0 n pan) (37:Nat) (x.snd.snd.snd.snd.snd.snd.length + [y].length) ∧ isI64 (x.fst + (1:Int)) ∧ I (x.fst + (1:Int),x.snd.fst,x.snd.snd.fst,x.snd.snd.snd.fst,
 x.snd.snd.snd.snd.fst,x.snd.snd.snd.snd.snd.fst,x.snd.snd.snd.snd.snd.snd ++ [y]) ∧ μ (x.fst + (1:Int),x.snd.fst,x.snd.snd.fst,x.snd.snd.snd.fst,x.snd.snd.snd.snd.fst,
 x.snd.snd.snd.snd.snd.fst,x.snd.snd.snd.snd.snd.snd ++ [y]) < μ x) ∧ ∀ (b:Int × Int),typN n (d,m,l,()) (Rose.node ((((Rose.node ((op,pos,nm,ar,()),()) sb).subs.getD
 x.fst.toNat (Rose.node (((0:Int),(0:Int),[],[],()),()) [])).val.fst.fst,((Rose.node ((op,pos,nm,ar,()),()) sb).subs.getD x.fst.toNat (Rose.node (((0:Int),(0 :
 Int),[],[],()),()) [])).val.fst.snd.fst,((Rose.node ((op,pos,nm,ar,()),()) sb).subs.getD x.fst.toNat (Rose.node (((0:Int),(0:Int),[],[],()),())
 [])).val.fst.snd.snd.fst,((Rose.node ((op,pos,nm,ar,()),()) sb).subs.getD x.fst.toNat (Rose.node (((0:Int),(0:Int),[],[],()),()) [])).val.fst.snd.snd.snd.fst,()),
 ()) ((Rose.node ((op,pos,nm,ar,()),()) sb).subs.getD x.fst.toNat (Rose.node (((0:Int),(0:Int),[],[],()),()) [])).subs) = Sum.inr b → pan b) ∧ (decide (x.fst <
 (↑(Rose.node ((op,pos,nm,ar,()),()) sb).subs.length:Int)) = false → typN (n + (1:Nat)) (d,m,l,()) (Rose.node ((op,pos,nm,ar,()),()) sb) = Sum.inl (Rose.node
 ((x.snd.fst,x.snd.snd.fst,x.snd.snd.snd.fst,x.snd.snd.snd.snd.fst,x.snd.snd.snd.snd.snd.fst,()),()) x.snd.snd.snd.snd.snd.snd))))):=by kernel_rfl
end Go.Proofs.YtbjjaaimhleedaaGreatDoor
namespace Go.PL
open Go.AM
def relQ (d:Df) (op pos:Int) (ar:List Lt):PL.Pr ⊕ (Int × Int) :=
 let x:=(ar.getD 0 (0,0,0,[],())).2.2.1
 let y:=(ar.getD 1 (0,0,0,[],())).2.2.1
 let is:=decide (8 ≤ op) && decide (op ≤ 12)
 if is && decide (d.2.1 = 2) then .inr (pos,130) else
 match litsE d ar with
 | some b=>.inr b
 | none =>
  if is then
   if op = 12 ∧ y < x then .inr ((ar.getD 0 (0,0,0,[],())).2.1,131) else
   .inl (if op = 8 then numP d minI (x - 1) else if op = 9 then numP d minI x else if op = 10 then numP d (x + 1) maxI else if op = 11 then numP d x maxI else numP d x y)
  else if op = 7 then .inl (mkP 2 [] 0 0 [] [mkP 5 d.1 0 0 [] [],mkP 4 [] 0 0 [] (ar.map (eqP d))])
  else if ar.length = 1 then .inl (eqP d (ar.getD 0 (0,0,0,[],())))
  else .inl (mkP 3 [] 0 0 [] (ar.map (eqP d)))
theorem relP_eq (s:Sc) (op pos:Int) (nm:List Int) (ar:List Lt) (sb:List Tr):relP s (.node ((op,pos,nm,ar,()),()) sb) =
 if fndN s.2.2.1 nm 0 < 0 then .inr (pos,5) else relQ (s.2.2.1.getD (fndN s.2.2.1 nm 0).toNat ([],0,0,0,[],())) op pos ar:=rfl
theorem fndP_eq (s:Sc) (op pos:Int) (nm:List Int) (ar:List Lt) (sb:List Tr):fndP s (.node ((op,pos,nm,ar,()),()) sb) =
 if fndN s.2.2.1 nm 0 < 0 then .inr (pos,5) else .inl (s.2.2.1.getD (fndN s.2.2.1 nm 0).toNat ([],0,0,0,[],())):=rfl
theorem relP_inl {s:Sc} {op pos:Int} {nm:List Int} {ar:List Lt} {sb:List Tr} {y:Df} (h:fndP s (.node ((op,pos,nm,ar,()),()) sb) = .inl y):relP s (.node ((op,pos,nm,ar,()),()) sb) = relQ y op pos ar:=by
 rw [fndP_eq] at h
 rw [relP_eq]
 split at h
 ·cases h
 ·rename_i c
  rw [if_neg c]
  cases h
  rfl
theorem relP_inr {s:Sc} {op pos:Int} {nm:List Int} {ar:List Lt} {sb:List Tr} {b:Int × Int} (h:fndP s (.node ((op,pos,nm,ar,()),()) sb) = .inr b):relP s (.node ((op,pos,nm,ar,()),()) sb) = .inr b:=by
 rw [fndP_eq] at h
 rw [relP_eq]
 split at h
 ·rename_i c
  rw [if_pos c]
  cases h
  rfl
 ·cases h
theorem rq_kind {d:Df} {op pos:Int} {ar:List Lt} (h1:8 ≤ op) (h2:op ≤ 12) (h:d.2.1 = 2):relQ d op pos ar = .inr (pos,130):=by
 unfold relQ
 simp [h1,h2,h]
theorem rq_is {d:Df} {op pos:Int} {ar:List Lt} (h1:8 ≤ op) (h2:op ≤ 12) (h:¬ d.2.1 = 2):relQ d op pos ar = match litsE d ar with
 | some b=>.inr b
 | none=>if op = 12 ∧ (ar.getD 1 (0,0,0,[],())).2.2.1 < (ar.getD 0 (0,0,0,[],())).2.2.1 then .inr ((ar.getD 0 (0,0,0,[],())).2.1,131) else
  .inl (if op = 8 then numP d minI ((ar.getD 0 (0,0,0,[],())).2.2.1 - 1) else if op = 9 then numP d minI (ar.getD 0 (0,0,0,[],())).2.2.1 else if op = 10 then numP d ((ar.getD 0 (0,0,0,[],())).2.2.1 + 1) maxI else if op = 11 then numP d (ar.getD 0 (0,0,0,[],())).2.2.1 maxI else
   numP d (ar.getD 0 (0,0,0,[],())).2.2.1 (ar.getD 1 (0,0,0,[],())).2.2.1):=by
 unfold relQ
 have e1:decide (d.2.1 = 2) = false:=decide_eq_false h
 have e2:(decide (8 ≤ op) && decide (op ≤ 12)) = true:=by rw [decide_eq_true h1,decide_eq_true h2]; rfl
 simp only [e1,e2,Bool.and_false,if_true]
 rfl
theorem rq_no {d:Df} {op pos:Int} {ar:List Lt} (h:¬ (8 ≤ op ∧ op ≤ 12)):relQ d op pos ar = match litsE d ar with
 | some b=>.inr b
 | none=>if op = 7 then .inl (mkP 2 [] 0 0 [] [mkP 5 d.1 0 0 [] [],mkP 4 [] 0 0 [] (ar.map (eqP d))])
  else if ar.length = 1 then .inl (eqP d (ar.getD 0 (0,0,0,[],())))
  else .inl (mkP 3 [] 0 0 [] (ar.map (eqP d))):=by
 unfold relQ
 have e2:(decide (8 ≤ op) && decide (op ≤ 12)) = false:=by
  rw [Bool.and_eq_false_iff,decide_eq_false_iff_not,decide_eq_false_iff_not]
  omega
 simp only [e2,Bool.false_and]
 rfl
theorem litsE_drop {d:Df} {l:List Lt} {i:Int} (h0:0 ≤ i) (h:i < l.length):litsE d (l.drop i.toNat) = if litE d (l.getD i.toNat (0,0,0,[],())) ≠ 0 then some ((l.getD i.toNat (0,0,0,[],())).2.1,litE d (l.getD i.toNat (0,0,0,[],()))) else litsE d (l.drop (i + 1).toNat):=by
 have hlt:i.toNat < l.length:=by omega
 rw [List.drop_eq_getElem_cons hlt,show (i + 1).toNat = i.toNat + 1 by omega,List.getD_eq_getElem?_getD,List.getElem?_eq_getElem hlt]
 rfl
theorem take_map {α β:Type} {l:List α} {f:α → β} {d:α} {i:Int} (h0:0 ≤ i) (h:i < l.length):(l.take (i + 1).toNat).map f = (l.take i.toNat).map f ++ [f (l.getD i.toNat d)]:=by
 rw [show (i + 1).toNat = i.toNat + 1 by omega,List.take_add_one,List.map_append,List.getD_eq_getElem?_getD,List.getElem?_eq_getElem (by omega)]
 rfl
abbrev RX:=Int × List PL.Pr × List Int × Int × Int × Int × List (List Int)
theorem rel_loop {C:Ctx} {t:TypeId} {pan:Int × Int → Prop} {d:Df} {ar:List Lt} (hroom:∀ n:Nat,n ≤ 1000 → roomP C t n) (hl:ar.length ≤ 200) (E:RX → Prop) (hpan:∀ b,litsE d ar = some b → pan b)
 (hfin:litsE d ar = none → E ((ar.length:Int),ar.map (eqP d),d.1,d.2.1,d.2.2.1,d.2.2.2.1,d.2.2.2.2.1)) :
 ∃ (I:RX → Prop) (μ:RX → Nat),I (0,[],d.1,d.2.1,d.2.2.1,d.2.2.2.1,d.2.2.2.2.1) ∧ ∀ (x:RX),I x →
  (decide (x.1 < (ar.length:Int)) = true → (0 ≤ x.1 ∧ x.1 < (ar.length:Int)) ∧ True ∧
    (∀ (y:Unit),chkP (x.2.2.1,x.2.2.2.1,x.2.2.2.2.1,x.2.2.2.2.2.1,x.2.2.2.2.2.2,()) (ar.getD x.1.toNat (0,0,0,[],())) = .inl y → True ∧
      roomP C t (x.2.1.length + [eqP (x.2.2.1,x.2.2.2.1,x.2.2.2.2.1,x.2.2.2.2.2.1,x.2.2.2.2.2.2,()) (ar.getD x.1.toNat (0,0,0,[],()))].length) ∧ isI64 (x.1 + 1) ∧
      I (x.1 + 1,x.2.1 ++ [eqP (x.2.2.1,x.2.2.2.1,x.2.2.2.2.1,x.2.2.2.2.2.1,x.2.2.2.2.2.2,()) (ar.getD x.1.toNat (0,0,0,[],()))],x.2.2.1,x.2.2.2.1,x.2.2.2.2.1,x.2.2.2.2.2.1,x.2.2.2.2.2.2) ∧
      μ (x.1 + 1,x.2.1 ++ [eqP (x.2.2.1,x.2.2.2.1,x.2.2.2.2.1,x.2.2.2.2.2.1,x.2.2.2.2.2.2,()) (ar.getD x.1.toNat (0,0,0,[],()))],x.2.2.1,x.2.2.2.1,x.2.2.2.2.1,x.2.2.2.2.2.1,x.2.2.2.2.2.2) < μ x) ∧
    ∀ (b:Int × Int),chkP (x.2.2.1,x.2.2.2.1,x.2.2.2.2.1,x.2.2.2.2.2.1,x.2.2.2.2.2.2,()) (ar.getD x.1.toNat (0,0,0,[],())) = .inr b → pan b) ∧
  (decide (x.1 < (ar.length:Int)) = false → E x):=by
 refine ⟨fun x=>0 ≤ x.1 ∧ x.1 ≤ ar.length ∧ x.2.1 = (ar.take x.1.toNat).map (eqP d) ∧ (x.2.2.1,x.2.2.2.1,x.2.2.2.2.1,x.2.2.2.2.2.1,x.2.2.2.2.2.2,()) = d ∧ litsE d (ar.drop x.1.toNat) = litsE d ar,fun x=>(ar.length - x.1).toNat,⟨by dsimp only; omega,by dsimp only; omega,rfl,rfl,rfl⟩,?_⟩
 rintro ⟨i,ps,a1,a2,a3,a4,a5⟩ ⟨h0,h1,h2,h3,h4⟩
 dsimp only at h0 h1 h2 h3 h4 ⊢
 rw [h3]
 refine ⟨fun h=>?_,fun h=>?_⟩
 ·have h:=dt h
  rw [litsE_drop h0 h] at h4
  have hlen:ps.length = i.toNat:=by rw [h2,List.length_map,List.length_take]; omega
  refine ⟨⟨h0,h⟩,trivial,fun y hy=>?_,fun b hb=>?_⟩
  ·unfold chkP at hy
   split at hy
   ·cases hy
   ·rename_i c
    rw [if_neg c] at h4
    refine ⟨trivial,hroom _ (by rw [List.length_singleton]; omega),by unfold isI64; omega,⟨by omega,by omega,?_,rfl,h4⟩,by omega⟩
    rw [take_map (d:=(0,0,0,[],())) h0 h,← h2]
  ·unfold chkP at hb
   split at hb
   ·rename_i c
    rw [if_pos c] at h4
    cases hb
    exact hpan _ h4.symm
   ·cases hb
 ·have h:=df h
  rw [List.drop_of_length_le (by omega)] at h4
  have e:i = ar.length:=by omega
  subst e
  have e2:ps = ar.map (eqP d):=by rw [h2,List.take_of_length_le (by omega)]
  have:=hfin h4.symm
  subst e2
  subst h3
  exact this
theorem psz_drop {g:PL.Pr → Int} {l:List PL.Pr} {i:Int} (h0:0 ≤ i) (h:i < l.length) (n:Int):psz g (l.drop i.toNat) n = psz g (l.drop (i + 1).toNat) (w64 (n + g (l.getD i.toNat dPr))):=by
 have hlt:i.toNat < l.length:=by omega
 rw [List.drop_eq_getElem_cons hlt,show (i + 1).toNat = i.toNat + 1 by omega,List.getD_eq_getElem?_getD,List.getElem?_eq_getElem hlt]
 rfl
theorem tr_eta (x:Tr):(Rose.node ((x.val.fst.fst,x.val.fst.snd.fst,x.val.fst.snd.snd.fst,x.val.fst.snd.snd.snd.fst,()),()) x.subs:Tr) = x:=by cases x; rfl
theorem typN_eq (n:Nat) (s:Sc) (op pos:Int) (nm:List Int) (ar:List Lt) (sb:List Tr):typN (n + 1) s (.node ((op,pos,nm,ar,()),()) sb) = if 5 < op then relP s (.node ((op,pos,nm,ar,()),()) sb) else
 if op = 5 then (if fndN s.2.2.1 nm 0 < 0 then .inr (pos,5) else .inl (mkP 5 nm 0 0 [] [])) else
 match typL (typN n s) sb with
 | .inr b=>.inr b
 | .inl ps=>.inl (mkP op [] 0 0 [] ps):=rfl
theorem typL_drop {g:Tr → PL.Pr ⊕ (Int × Int)} {l:List Tr} {i:Int} (h0:0 ≤ i) (h:i < l.length):typL g (l.drop i.toNat) = match g (l.getD i.toNat dTr) with
 | .inr b=>.inr b
 | .inl p=>match typL g (l.drop (i + 1).toNat) with
  | .inr b=>.inr b
  | .inl ps=>.inl (p :: ps):=by
 have hlt:i.toNat < l.length:=by omega
 rw [List.drop_eq_getElem_cons hlt,show (i + 1).toNat = i.toNat + 1 by omega,List.getD_eq_getElem?_getD,List.getElem?_eq_getElem hlt]
 rfl
def joinT (ps:List PL.Pr):List PL.Pr ⊕ (Int × Int) → List PL.Pr ⊕ (Int × Int)
 | .inr b=>.inr b
 | .inl qs=>.inl (ps ++ qs)
end Go.PL
namespace Go.Proofs.YtbjjaaimhleedaaGreatDoor
open Go.AM Go.PL
attribute [local irreducible] fnwp fnwpP
theorem GA0_sound:jQe GA0:=jQi trivial trivial
theorem sat_num:Sat bs.P 62 numSp:=jQn GA0_sound 6 _ numSp fun (⟨⟨n,k,lo,hi,w,⟨⟩⟩,a,b⟩:Df × Int × Int) hok hp=>by
 rw [num_nf]
 refine ⟨fun h=>?_,fun h=>?_⟩
 ·unfold numP
  rw [if_pos (dt h)]
  rfl
 ·unfold numP
  rw [if_neg (df h)]
  rfl
theorem GA1_sound:jQe GA1:=jQi ⟨sat_num,trivial⟩ trivial
theorem sat_equ:Sat bs.P 61 equSp:=jQn GA1_sound 6 _ equSp fun (⟨⟨n,k,lo,hi,w,⟨⟩⟩,xk,xp,xn,xs,⟨⟩⟩:Df × Lt) hok hp=>by
 rw [equ_nf]
 refine ⟨fun h=>?_,fun h=>⟨trivial,?_⟩⟩
 ·unfold eqP
  rw [if_pos (dt h)]
  rfl
 ·unfold eqP
  rw [if_neg (df h)]
  exact pr_eta _
theorem GA3_sound {n:Nat} (h:Sat bs.P 21 (pszSp n)):jQe (GA3 n):=jQi ⟨h,trivial⟩ trivial
theorem sat_pszN:∀ n,Sat bs.P 21 (pszSp n)
 | 0=>fun _ _ x _ _ _ _ h=>by
  have h:dep x ≤ 0:=h
  have:=dep_pos x
  omega
 | n + 1=>jQn (GA3_sound (sat_pszN n)) 6 _ (pszSp (n + 1)) fun (.node ⟨⟨op,nm,a,b,s,⟨⟩⟩,⟨⟩⟩ sb:PL.Pr) hok hp=>by
  have hp:dep (Rose.node ((op,nm,a,b,s,()),()) sb:PL.Pr) ≤ n + 1:=hp
  have hm:=pr_ok hok
  have hd:=sub_le hp
  rw [psz_nf]
  have T:pszN (n + 1) (Rose.node ((op,nm,a,b,s,()),()) sb:PL.Pr) = psz (pszN n) sb 1:=rfl
  rw [T]
  refine ⟨fun x=>0 ≤ x.1 ∧ x.1 ≤ sb.length ∧ psz (pszN n) (sb.drop x.1.toNat) x.2 = psz (pszN n) sb 1,fun x=>(sb.length - x.1).toNat,⟨by dsimp only; omega,by dsimp only; omega,rfl⟩,?_⟩
  rintro ⟨i,z⟩ ⟨h0,h1,h2⟩
  dsimp only at h0 h1 h2
  refine ⟨fun h=>?_,fun h=>?_⟩
  ·have h:i < (sb.length:Int):=dt h
   have e:=pr_eta (sb.getD i.toNat dPr)
   rw [psz_drop h0 h,← e] at h2
   have hw:=w64_id (jZk h0 h hm)
   have hdd:=hd _ (jQ9 (d:=dPr) (show i.toNat < sb.length by omega))
   rw [← e] at hdd
   refine ⟨⟨h0,h⟩,hdd,?_⟩
   show (0 ≤ IntKind.i64.wrap (i + 1) ∧ IntKind.i64.wrap (i + 1) ≤ sb.length ∧ psz (pszN n) (sb.drop (IntKind.i64.wrap (i + 1)).toNat) _ = _) ∧ ((sb.length:Int) - IntKind.i64.wrap (i + 1)).toNat < ((sb.length:Int) - i).toNat
   rw [hw]
   exact ⟨⟨by omega,by omega,h2⟩,by omega⟩
  ·have h:¬ i < (sb.length:Int):=df h
   rw [List.drop_of_length_le (by omega)] at h2
   exact h2
end Go.Proofs.YtbjjaaimhleedaaGreatDoor
namespace Go.Proofs
open Go.RowKit
theorem KYtbjjaaimhleedaaGreatDoor.fail (a e:Int) (w:World):Calls Tryz.prog 22 #[.int .i64 a,.int .i64 e] w fun r w'=>r = .panicked [{ v:=.iface 39 (.agg #[.int .i64 a,.int .i64 e]),recovered:=false }] ∧ w' = w:=by
 go_enter Tryz.func22,Tryz.ntmps22
 go_wp2
 exact ⟨rfl,rfl,rfl⟩
end Go.Proofs
namespace Go.Proofs.YtbjjaaimhleedaaGreatDoor
open Go.AM Go.PL Go.RowKit
attribute [local irreducible] fnwp fnwpP
theorem sat_fail:SatP bs.P pT 22 failSp:=by
 refine ⟨fun g hg x=>by cases hg; rfl,?_⟩
 rintro Ψ w ⟨a,e⟩ args hprom hgl hrel hpre
 obtain ⟨v1,vs1,rfl,h1,v2,vs2,rfl,h2,h3⟩:=hrel
 simp only [RelL] at h3
 subst h3
 obtain ⟨rfl,_⟩:=jQj.1 h1
 obtain ⟨rfl,_⟩:=jQj.1 h2
 refine (KYtbjjaaimhleedaaGreatDoor.fail a e w).mono ?_
 rintro r w' ⟨rfl,rfl⟩
 exact ⟨Ψ,Below.refl _ _,fun _ _ h=>h,fun _ _ h=>.inl h,.inr ⟨(a,e),rfl,rfl⟩⟩
theorem map_getD {α β:Type} {l:List α} {f:α → β} {d:α} {d':β} {i:Nat} (h:i < l.length):(l.map f).getD i d' = f (l.getD i d):=by
 rw [List.getD_eq_getElem?_getD,List.getD_eq_getElem?_getD,List.getElem?_map,List.getElem?_eq_getElem h]
 rfl
theorem GA2_sound (pan:Int × Int → Prop):jQe (GA2 pan):=mkctxP_sound ⟨sat_has,trivial⟩ trivial ⟨sat_fail,trivial⟩
theorem satP_chk:SatP bs.P pT 60 chkPSp:=satP_each (m:=6) fun (⟨⟨n,k,lo,hi,w,⟨⟩⟩,xk,xp,xn,xs,⟨⟩⟩:Df × Lt) hok hp=>⟨GA2 fun b=>chkPSp.post ((n,k,lo,hi,w,()),(xk,xp,xn,xs,())) = .inr b,rfl,rfl,GA2_sound _,fun b hb=>hb,by
 rw [chk_nf]
 show ((decide (xk = 1) != decide (k = 1)) = true → True ∧ chkP (n,k,lo,hi,w,()) (xk,xp,xn,xs,()) = .inr (xp,130)) ∧ ((decide (xk = 1) != decide (k = 1)) = false →
  ((!decide (xk = 1)) = true → True ∧ ((!decide (xs ∈ w)) = true → True ∧ chkP (n,k,lo,hi,w,()) (xk,xp,xn,xs,()) = .inr (xp,131)) ∧ ((!decide (xs ∈ w)) = false → chkP (n,k,lo,hi,w,()) (xk,xp,xn,xs,()) = .inl ())) ∧ ((!decide (xk = 1)) = false → chkP (n,k,lo,hi,w,()) (xk,xp,xn,xs,()) = .inl ()))
 have e1:(decide (xk = 1) != decide (k = 1)) = true → litE (n,k,lo,hi,w,()) (xk,xp,xn,xs,()) = 130:=fun c=>by
  unfold litE
  rw [if_pos (by simpa using c)]
 have e2:(decide (xk = 1) != decide (k = 1)) = false → litE (n,k,lo,hi,w,()) (xk,xp,xn,xs,()) = if xk ≠ 1 ∧ xs ∉ w then 131 else 0:=fun c=>by
  unfold litE
  rw [if_neg (by simpa using c)]
 refine ⟨fun c=>⟨trivial,?_⟩,fun c=>⟨fun c1=>⟨trivial,fun c2=>⟨trivial,?_⟩,fun c2=>?_⟩,fun c1=>?_⟩⟩
 ·unfold chkP
  rw [e1 c]
  rfl
 ·unfold chkP
  have e:=e2 c
  rw [if_pos ⟨ndt c1,ndt c2⟩] at e
  rw [e]
  rfl
 ·unfold chkP
  have e:=e2 c
  rw [if_neg (fun g=>g.2 (ndf c2))] at e
  rw [e]
  rfl
 ·unfold chkP
  have e:=e2 c
  rw [if_neg (fun g=>g.1 (ndf c1))] at e
  rw [e]
  rfl⟩
theorem satP_fnd:SatP bs.P pT 36 fndPSp:=satP_each (m:=6) fun (⟨⟨d,m,l,⟨⟩⟩,.node ⟨⟨op,pos,nm,ar,⟨⟩⟩,⟨⟩⟩ sb⟩:Sc × Tr) hok hp=>⟨GA2 fun b=>fndPSp.post ((d,m,l,()),(Rose.node ((op,pos,nm,ar,()),()) sb:Tr)) = .inr b,rfl,rfl,GA2_sound _,fun b hb=>hb,by
 have hm:l.length ≤ 9223372036854775807:=hok.1.2.2.1.1
 rw [fnd_nf]
 have post:∀ b,fndPSp.post ((d,m,l,()),(Rose.node ((op,pos,nm,ar,()),()) sb:Tr)) = .inr b ↔ (if fndN l nm 0 < 0 then (.inr (pos,5):Df ⊕ (Int × Int)) else .inl (l.getD (fndN l nm 0).toNat ([],0,0,0,[],()))) = .inr b:=fun b=>Iff.rfl
 simp only [Rose.val,fndP_eq,post]
 refine ⟨fun x=>0 ≤ x ∧ x ≤ l.length ∧ fndN (l.drop x.toNat) nm x = fndN l nm 0,fun x=>(l.length - x).toNat,⟨by omega,by omega,rfl⟩,?_⟩
 rintro x ⟨h0,h1,h2⟩
 refine ⟨fun h=>?_,fun h=>⟨fun _=>⟨trivial,?_⟩,fun c=>by cases c⟩⟩
 ·have h:=dt h
  rw [fndN_drop h0 h] at h2
  refine ⟨⟨h0,h⟩,fun c=>⟨fun c2=>absurd (dt c2) (by omega),fun c2=>⟨⟨h0,h⟩,?_⟩⟩,fun c=>⟨jZk h0 h hm,⟨by omega,by omega,?_⟩,by dsimp only; omega⟩⟩
  ·rw [if_pos (dt c)] at h2
   rw [if_neg (by omega),← h2]
  ·rw [if_neg (df c)] at h2
   exact h2
 ·rw [fndN_end (df h)] at h2
  rw [if_pos (by omega)]⟩
theorem GB0_sound (pan:Int × Int → Prop):jQe (GB0 pan):=mkctxP_sound ⟨sat_num,sat_equ,trivial⟩ trivial ⟨sat_fail,satP_chk,satP_fnd,trivial⟩
set_option maxHeartbeats 4000000 in
theorem satP_rel:SatP bs.P pT 35 relPSp:=satP_each (m:=6) fun (⟨⟨d,m,l,⟨⟩⟩,.node ⟨⟨op,pos,nm,ar,⟨⟩⟩,⟨⟩⟩ sb⟩:Sc × Tr) hok hp=>⟨GB0 fun b=>relPSp.post ((d,m,l,()),(Rose.node ((op,pos,nm,ar,()),()) sb:Tr)) = .inr b,rfl,rfl,GB0_sound _,fun b hb=>hb,by
 have hp:ar.length ≤ 200 ∧ (8 ≤ op → op ≤ 12 → 1 ≤ ar.length) ∧ (op = 12 → 2 ≤ ar.length) ∧ ∀ x ∈ ar,-1000000000000000000 < x.2.2.1 ∧ x.2.2.1 < 1000000000000000000:=hp
 obtain ⟨p1,p2,p3,p4⟩:=hp
 rw [rlt_nf]
 have room:∀ pan:Int × Int → Prop,∀ n:Nat,n ≤ 1000 → roomP (GB0 pan) 37 n:=fun pan n hn=>roomB 80 (by kernel_rfl) (by omega) (by omega)
 have r0:1 ≤ ar.length → -1000000000000000000 < (ar.getD 0 (0,0,0,[],())).2.2.1 ∧ (ar.getD 0 (0,0,0,[],())).2.2.1 < 1000000000000000000:=fun h=>p4 _ (jQ9 (by omega))
 have r1:2 ≤ ar.length → -1000000000000000000 < (ar.getD 1 (0,0,0,[],())).2.2.1 ∧ (ar.getD 1 (0,0,0,[],())).2.2.1 < 1000000000000000000:=fun h=>p4 _ (jQ9 (by omega))
 have he:bytesOf { data:=#[] } = []:=rfl
 simp only [pr_eta]
 simp only [Rose.val,he]
 refine ⟨trivial,fun y hy=>?_,fun b hb=>relP_inr hb⟩
 have hR:relP (d,m,l,()) (Rose.node ((op,pos,nm,ar,()),()) sb) = relQ y op pos ar:=relP_inl hy
 have hQ:∀ b,relPSp.post ((d,m,l,()),(Rose.node ((op,pos,nm,ar,()),()) sb:Tr)) = .inr b ↔ relQ y op pos ar = .inr b:=fun b=>by
  rw [← hR]
  exact Iff.rfl
 simp only [hR,hQ]
 have kind:8 ≤ op → op ≤ 12 → (decide (y.2.1 = 2) = true → True ∧ relQ y op pos ar = .inr (pos,130)):=fun g1 g2 c=>⟨trivial,rq_kind g1 g2 (dt c)⟩
 have hpan:∀ b,(8 ≤ op → op ≤ 12 → ¬ y.2.1 = 2) → litsE y ar = some b → relQ y op pos ar = .inr b:=fun b hk hb=>by
  by_cases g:8 ≤ op ∧ op ≤ 12
  ·rw [rq_is g.1 g.2 (hk g.1 g.2),hb]
  ·rw [rq_no g,hb]
 refine ⟨fun c8=>⟨kind (by omega) (by omega),fun ck=>rel_loop (room _) p1 _ (fun b=>hpan b fun _ _=>df ck) fun hn=>?_⟩,fun c8=>⟨fun c9=>⟨kind (by omega) (by omega),fun ck=>rel_loop (room _) p1 _ (fun b=>hpan b fun _ _=>df ck) fun hn=>?_⟩,
  fun c9=>⟨fun c10=>⟨kind (by omega) (by omega),fun ck=>rel_loop (room _) p1 _ (fun b=>hpan b fun _ _=>df ck) fun hn=>?_⟩,fun c10=>⟨fun c11=>⟨kind (by omega) (by omega),fun ck=>rel_loop (room _) p1 _ (fun b=>hpan b fun _ _=>df ck) fun hn=>?_⟩,
  fun c11=>⟨fun c12=>⟨kind (by omega) (by omega),fun ck=>rel_loop (room _) p1 _ (fun b=>hpan b fun _ _=>df ck) fun hn=>?_⟩,fun c12=>rel_loop (room _) p1 _ (fun b=>hpan b fun _ _=>by omega) fun hn=>?_⟩⟩⟩⟩⟩
 ·have g:=p2 (by omega) (by omega)
  have:=r0 g
  rw [rq_is (by omega) (by omega) (df ck),hn]
  exact ⟨⟨by omega,by omega⟩,by unfold isI64; omega,fun c=>absurd (dt c) (by omega),fun _=>⟨trivial,by rw [if_neg (by omega),if_pos c8]; rfl⟩⟩
 ·have g:=p2 (by omega) (by omega)
  have:=r0 g
  rw [rq_is (by omega) (by omega) (df ck),hn]
  exact ⟨⟨by omega,by omega⟩,fun c=>absurd (dt c) (by omega),fun _=>⟨trivial,by rw [if_neg (by omega),if_neg c8,if_pos c9]; rfl⟩⟩
 ·have g:=p2 (by omega) (by omega)
  have:=r0 g
  rw [rq_is (by omega) (by omega) (df ck),hn]
  exact ⟨⟨by omega,by omega⟩,by unfold isI64; omega,fun c=>absurd (dt c) (by omega),fun _=>⟨trivial,by rw [if_neg (by omega),if_neg c8,if_neg c9,if_pos c10]; rfl⟩⟩
 ·have g:=p2 (by omega) (by omega)
  have:=r0 g
  rw [rq_is (by omega) (by omega) (df ck),hn]
  exact ⟨⟨by omega,by omega⟩,fun c=>absurd (dt c) (by omega),fun _=>⟨trivial,by rw [if_neg (by omega),if_neg c8,if_neg c9,if_neg c10,if_pos c11]; rfl⟩⟩
 ·have g:=p3 c12
  rw [rq_is (by omega) (by omega) (df ck),hn]
  refine ⟨⟨by omega,by omega⟩,⟨by omega,by omega⟩,fun _=>⟨fun c=>⟨⟨by omega,by omega⟩,trivial,?_⟩,fun c=>⟨trivial,?_⟩⟩,fun c=>absurd c12 (df c)⟩
  ·dsimp only
   rw [if_pos ⟨c12,dt c⟩]
  ·dsimp only
   rw [if_neg (fun q=>df c q.2),if_neg c8,if_neg c9,if_neg c10,if_neg c11]
 ·rw [rq_no (by omega),hn]
  refine ⟨fun c=>?_,fun c=>⟨fun c1=>⟨⟨by omega,?_⟩,?_⟩,fun c1=>?_⟩⟩
  ·dsimp only
   rw [if_pos (dt c)]
   rfl
  ·have:=dt c1
   omega
  ·have c1:((ar.map (eqP y)).length:Int) = 1:=dt c1
   rw [List.length_map] at c1
   dsimp only
   rw [if_neg (df c),if_pos (by omega),map_getD (d:=(0,0,0,[],())) (by omega)]
  ·have c1:¬ ((ar.map (eqP y)).length:Int) = 1:=df c1
   rw [List.length_map] at c1
   dsimp only
   rw [if_neg (df c),if_neg (by omega)]
   rfl⟩
end Go.Proofs.YtbjjaaimhleedaaGreatDoor
namespace Go.PL
open Go.AM
def dDf:Df:=([],0,0,0,[],())
theorem fnd_name:∀ {ds:List Df} {n:List Int} {k:Int},0 ≤ k → 0 ≤ fndN ds n k → k ≤ fndN ds n k ∧ (ds.getD (fndN ds n k - k).toNat dDf).1 = n ∧ ds.getD (fndN ds n k - k).toNat dDf ∈ ds
 | [],_,_,_,h=>by
  have h:(0:Int) ≤ -1:=h
  omega
 | d :: ds,n,k,h0,h=>by
  unfold fndN at h ⊢
  by_cases c:d.1 = n
  ·rw [if_pos c,Int.sub_self]
   exact ⟨Int.le_refl _,c,List.mem_cons_self ..⟩
  ·rw [if_neg c] at h ⊢
   obtain ⟨a1,a2,a3⟩:=fnd_name (k:=k + 1) (by omega) h
   rw [show (fndN ds n (k + 1) - k).toNat = (fndN ds n (k + 1) - (k + 1)).toNat + 1 by omega,List.getD_cons_succ]
   exact ⟨by omega,a2,List.mem_cons_of_mem _ a3⟩
theorem val_ok {d:Df} {a:At} (h:valS d a = 0):a.2.1 = d.2.1 ∧ (a.2.1 = 1 → d.2.2.1 ≤ a.2.2.1 ∧ a.2.2.1 ≤ d.2.2.2.1):=by
 unfold valS at h
 by_cases c:a.2.1 ≠ d.2.1
 ·rw [if_pos c] at h; exact absurd h (by decide)
 ·rw [if_neg c] at h
  refine ⟨Classical.byContradiction c,fun e=>?_⟩
  rw [if_pos e] at h
  split at h
  ·exact absurd h (by decide)
  ·split at h
   ·exact absurd h (by decide)
   ·rename_i z; omega
theorem get_some {l:List At} {n:List Int} {a:At} (h:getA l n = some a):a ∈ l ∧ a.1 = n:=by
 unfold getA at h
 have e:decide (a.1 = n) = true:=List.find?_some (p:=fun a:At=>decide (a.1 = n)) h
 exact ⟨List.mem_of_find?_eq_some h,of_decide_eq_true e⟩
theorem never_f {m:Nat} (l:List At):jQf (m + 2) neverP l = false:=rfl
theorem int_hold {m:Nat} {d:Df} {x y:Int} {l:List At}:jQf (m + 1) (mkP 6 d.1 x y [] []) l = (match getA l d.1 with | some a=>decide (a.2.1 = 1) && (decide (x ≤ a.2.2.1) && decide (a.2.2.1 ≤ y)) | none=>false):=rfl
theorem num_none {m:Nat} {d:Df} {a b:Int} {l:List At} (h:getA l d.1 = none):jQf (m + 2) (numP d a b) l = false:=by
 unfold numP
 split
 ·rfl
 ·rw [int_hold,h]
theorem num_some {m:Nat} {d:Df} {a b:Int} {l:List At} {x:At} (h:getA l d.1 = some x) (hk:x.2.1 = 1) (h1:d.2.2.1 ≤ x.2.2.1) (h2:x.2.2.1 ≤ d.2.2.2.1):jQf (m + 2) (numP d a b) l = (decide (a ≤ x.2.2.1) && decide (x.2.2.1 ≤ b)):=by
 unfold numP
 split
 ·rename_i c
  rw [never_f]
  symm
  rw [Bool.and_eq_false_iff,decide_eq_false_iff_not,decide_eq_false_iff_not]
  omega
 ·rename_i c
  rw [int_hold,h]
  dsimp only
  rw [decide_eq_true hk,Bool.true_and,Bool.eq_iff_iff,Bool.and_eq_true,Bool.and_eq_true,decide_eq_true_iff,decide_eq_true_iff,decide_eq_true_iff,decide_eq_true_iff]
  omega
theorem eq_none {m:Nat} {d:Df} {x:Lt} {l:List At} (h:getA l d.1 = none):jQf (m + 2) (eqP d x) l = false:=by
 unfold eqP
 split
 ·show (match getA l d.1 with | some a=>_ | none=>false) = false
  rw [h]
 ·exact num_none h
def oneA (a:At) (x:Lt):Bool:=(decide (a.2.1 = 1) && decide (x.2.2.1 = a.2.2.1)) || (decide (a.2.1 = 2) && decide (x.2.2.2.1 = a.2.2.2.1))
theorem eq_some {m:Nat} {d:Df} {x:Lt} {l:List At} {a:At} (h:getA l d.1 = some a) (hv:valS d a = 0) (hk:d.2.1 = 1 ∨ d.2.1 = 2):jQf (m + 2) (eqP d x) l = oneA a x:=by
 obtain ⟨v1,v2⟩:=val_ok hv
 unfold eqP oneA
 by_cases c:d.2.1 = 2
 ·rw [if_pos c]
  show (match getA l d.1 with | some a=>decide (a.2.1 = 2) && decide (a.2.2.2.1 = x.2.2.2.1) | none=>false) = _
  rw [h]
  dsimp only
  rw [v1,c]
  simp only [decide_true,Bool.true_and,show decide ((2:Int) = 1) = false from rfl,Bool.false_and,Bool.false_or]
  exact decide_eq_decide.2 ⟨Eq.symm,Eq.symm⟩
 ·rw [if_neg c]
  have c1:d.2.1 = 1:=by omega
  have ha:a.2.1 = 1:=v1.trans c1
  obtain ⟨w1,w2⟩:=v2 ha
  rw [num_some h ha w1 w2,ha]
  simp only [decide_true,Bool.true_and,show decide ((1:Int) = 2) = false from rfl,Bool.false_and,Bool.or_false]
  rw [Bool.eq_iff_iff,Bool.and_eq_true,decide_eq_true_iff,decide_eq_true_iff,decide_eq_true_iff]
  omega
theorem any_map {α β:Type} {g:α → β} {p:β → Bool} {q:α → Bool}:∀ {l:List α},(∀ x ∈ l,p (g x) = q x) → (l.map g).any p = l.any q
 | [],_=>rfl
 | x :: l,h=>by
  rw [List.map_cons,List.any_cons,List.any_cons,h x (List.mem_cons_self ..),any_map fun y hy=>h y (List.mem_cons_of_mem _ hy)]
theorem subs_same {g:Tr → Pr ⊕ (Int × Int)} {p:Pr → Bool} {q:Tr → Bool}:∀ {ts:List Tr} {ps:List Pr},typL g ts = .inl ps → (∀ t ∈ ts,∀ y,g t = .inl y → p y = q t) → ps.all p = ts.all q ∧ ps.any p = ts.any q ∧ ps.length = ts.length
 | [],ps,h,_=>by
  have h:(.inl []:List Pr ⊕ (Int × Int)) = .inl ps:=h
  cases h
  exact ⟨rfl,rfl,rfl⟩
 | t :: ts,ps,h,hq=>by
  unfold typL at h
  split at h
  ·cases h
  ·rename_i y hy
   split at h
   ·cases h
   ·rename_i qs hqs
    cases h
    obtain ⟨a1,a2,a3⟩:=subs_same hqs fun x hx=>hq x (List.mem_cons_of_mem _ hx)
    have e:=hq t (List.mem_cons_self ..) y hy
    exact ⟨by rw [List.all_cons,List.all_cons,e,a1],by rw [List.any_cons,List.any_cons,e,a2],by rw [List.length_cons,List.length_cons,a3]⟩
structure FitL (s:Sc) (l:List At):Prop where
 fit:∀ a ∈ l,0 ≤ fndN s.2.2.1 a.1 0 ∧ valS (s.2.2.1.getD (fndN s.2.2.1 a.1 0).toNat dDf) a = 0
 kind:∀ d ∈ s.2.2.1,d.2.1 = 1 ∨ d.2.1 = 2
 size:∀ a ∈ l,minI ≤ a.2.2.1 ∧ a.2.2.1 ≤ maxI
theorem FitL.at {s:Sc} {l:List At} (h:FitL s l) {n:List Int} (hk:0 ≤ fndN s.2.2.1 n 0):(s.2.2.1.getD (fndN s.2.2.1 n 0).toNat dDf).1 = n ∧ ((s.2.2.1.getD (fndN s.2.2.1 n 0).toNat dDf).2.1 = 1 ∨ (s.2.2.1.getD (fndN s.2.2.1 n 0).toNat dDf).2.1 = 2) ∧
 ∀ a,getA l n = some a → valS (s.2.2.1.getD (fndN s.2.2.1 n 0).toNat dDf) a = 0 ∧ minI ≤ a.2.2.1 ∧ a.2.2.1 ≤ maxI:=by
 obtain ⟨_,h1,h2⟩:=fnd_name (Int.le_refl 0) hk
 rw [Int.sub_zero] at h1 h2
 refine ⟨h1,h.kind _ h2,fun a ha=>?_⟩
 obtain ⟨m,e⟩:=get_some ha
 subst e
 exact ⟨(h.fit a m).2,h.size a m⟩
theorem one_args {a:At} {l:List Lt} (h:l.length = 1):l.any (oneA a) = oneA a (l.getD 0 (0,0,0,[],())):=by
 match l,h with
 | [x],_=>simp
end Go.PL
namespace Go.PL
open Go.AM
theorem relA_one {t:Tr} {a:At} (h:opT t = 6 ∨ opT t = 13):relA t a = (argsT t).any (oneA a):=by
 unfold relA
 dsimp only
 rw [if_pos h]
 rfl
theorem relA_not {t:Tr} {a:At} (h:opT t = 7):relA t a = !(argsT t).any (oneA a):=by
 unfold relA
 dsimp only
 rw [if_neg (by omega),if_pos h]
 rfl
theorem relA_num {t:Tr} {a:At} {x y:Int} (hx:((argsT t).getD 0 (0,0,0,[],())).2.2.1 = x) (hy:((argsT t).getD 1 (0,0,0,[],())).2.2.1 = y) (h:8 ≤ opT t ∧ opT t ≤ 12) :
 relA t a = if opT t = 8 then decide (a.2.2.1 < x) else if opT t = 9 then decide (a.2.2.1 ≤ x) else if opT t = 10 then decide (x < a.2.2.1) else if opT t = 11 then decide (x ≤ a.2.2.1) else decide (x ≤ a.2.2.1) && decide (a.2.2.1 ≤ y):=by
 unfold relA
 dsimp only
 rw [hx,hy,if_neg (by omega),if_neg (by omega)]
theorem rel_mean {s:Sc} {l:List At} {t:Tr} {p:Pr} {m:Nat} (F:FitL s l) (hop:6 ≤ opT t ∧ opT t ≤ 13) (ha:∀ x ∈ argsT t,-1000000000000000000 < x.2.2.1 ∧ x.2.2.1 < 1000000000000000000) (hl:8 ≤ opT t → opT t ≤ 12 → 1 ≤ (argsT t).length) (h:relP s t = .inl p) :
 jQf (m + 4) p l = (match getA l (nameT t) with | none=>false | some a=>relA t a):=by
 unfold relP at h
 dsimp only at h
 split at h
 ·cases h
 ·rename_i hk
  have hk:0 ≤ fndN s.2.2.1 (nameT t) 0:=by omega
  obtain ⟨d1,d2,d3⟩:=F.at hk
  have ed:s.2.2.1.getD (fndN s.2.2.1 (nameT t) 0).toNat ([],0,0,0,[],()) = s.2.2.1.getD (fndN s.2.2.1 (nameT t) 0).toNat dDf:=rfl
  rw [ed] at h
  generalize s.2.2.1.getD (fndN s.2.2.1 (nameT t) 0).toNat dDf = d at h d1 d2 d3
  generalize hx:((argsT t).getD 0 (0,0,0,[],())).2.2.1 = x at h
  generalize hy:((argsT t).getD 1 (0,0,0,[],())).2.2.1 = y at h
  split at h
  ·cases h
  ·rename_i hw
   split at h
   ·cases h
   ·rename_i hlit
    rw [← d1] at d3 ⊢
    split at h
    ·rename_i his
     rw [Bool.and_eq_true,decide_eq_true_iff,decide_eq_true_iff] at his
     have dk:d.2.1 = 1:=by
      rcases d2 with e | e
      ·exact e
      ·exact absurd (by rw [Bool.and_eq_true,Bool.and_eq_true,decide_eq_true_iff,decide_eq_true_iff,decide_eq_true_iff]; exact ⟨his,e⟩) hw
     have hx0:-1000000000000000000 < x ∧ x < 1000000000000000000:=by
      have hlen:=hl his.1 his.2
      have:=ha _ (show (argsT t).getD 0 (0,0,0,[],()) ∈ argsT t by
       rw [List.getD_eq_getElem?_getD,List.getElem?_eq_getElem (by omega)]
       exact List.getElem_mem _)
      rw [hx] at this
      exact this
     split at h
     ·cases h
     ·rename_i hyx
      have h:=Sum.inl.inj h
      subst h
      cases hg:getA l d.1 with
      | none =>
       dsimp only
       repeat' split
       all_goals exact num_none hg
      | some a =>
       dsimp only
       obtain ⟨v,z1,z2⟩:=d3 a hg
       obtain ⟨v1,v2⟩:=val_ok v
       have ak:a.2.1 = 1:=v1.trans dk
       obtain ⟨w1,w2⟩:=v2 ak
       unfold minI at z1
       unfold maxI at z2
       rw [relA_num hx hy his]
       have go:∀ {A B:Int} {b:Bool},(b = true ↔ A ≤ a.2.2.1 ∧ a.2.2.1 ≤ B) → jQf (m + 4) (numP d A B) l = b:=fun {A B b} e=>by
        rw [num_some (m:=m + 2) hg ak w1 w2,Bool.eq_iff_iff,Bool.and_eq_true,decide_eq_true_iff,decide_eq_true_iff]
        exact e.symm
       by_cases c8:opT t = 8
       ·rw [if_pos c8,if_pos c8]
        exact go (by rw [decide_eq_true_iff]; unfold minI; omega)
       ·rw [if_neg c8,if_neg c8]
        by_cases c9:opT t = 9
        ·rw [if_pos c9,if_pos c9]
         exact go (by rw [decide_eq_true_iff]; unfold minI; omega)
        ·rw [if_neg c9,if_neg c9]
         by_cases c10:opT t = 10
         ·rw [if_pos c10,if_pos c10]
          exact go (by rw [decide_eq_true_iff]; unfold maxI; omega)
         ·rw [if_neg c10,if_neg c10]
          by_cases c11:opT t = 11
          ·rw [if_pos c11,if_pos c11]
           exact go (by rw [decide_eq_true_iff]; unfold maxI; omega)
          ·rw [if_neg c11,if_neg c11]
           exact go (by rw [Bool.and_eq_true,decide_eq_true_iff,decide_eq_true_iff])
    ·rename_i his
     have his:¬ (8 ≤ opT t ∧ opT t ≤ 12):=fun g=>his (by rw [Bool.and_eq_true,decide_eq_true_iff,decide_eq_true_iff]; exact g)
     split at h
     ·rename_i c7
      have h:=Sum.inl.inj h
      subst h
      show ((getA l d.1).isSome && (!((argsT t).map (eqP d)).any (fun x=>jQf (m + 2) x l) && true)) = _
      cases hg:getA l d.1 with
      | none=>rfl
      | some a =>
       dsimp only
       rw [relA_not c7,any_map (q:=oneA a) fun x _=>eq_some hg (d3 a hg).1 d2]
       simp
     ·rename_i c7
      have c613:opT t = 6 ∨ opT t = 13:=by omega
      split at h
      ·rename_i c1
       have h:=Sum.inl.inj h
       subst h
       cases hg:getA l d.1 with
       | none=>exact eq_none hg
       | some a =>
        dsimp only
        rw [relA_one c613,one_args c1]
        exact eq_some hg (d3 a hg).1 d2
      ·have h:=Sum.inl.inj h
       subst h
       show ((argsT t).map (eqP d)).any (fun x=>jQf (m + 3) x l) = _
       cases hg:getA l d.1 with
       | none =>
        dsimp only
        rw [any_map (p:=fun x=>jQf (m + 3) x l) (q:=fun _=>false) fun x _=>eq_none (m:=m + 1) hg]
        simp
       | some a =>
        dsimp only
        rw [relA_one c613]
        exact any_map fun x _=>eq_some hg (d3 a hg).1 d2
theorem typed_means {s:Sc} {l:List At} (F:FitL s l):∀ (f:Nat) {t:Tr},wellN f t → ∀ {p:Pr},typN f s t = .inl p → ∀ {m:Nat},f + 3 ≤ m → jQf m p l = fulN f t l
 | 0,t,hw,_,_,_,_=>hw.elim
 | f + 1,t,hw,p,h,m,hm=>by
  obtain ⟨h1,h4,hs,ha1,ha2,_,hx⟩:=hw
  obtain ⟨m,rfl⟩:∃ q,m = q + 4:=⟨m - 4,by omega⟩
  unfold typN at h
  split at h
  ·rename_i c
   rw [rel_mean F ⟨by omega,h1.2⟩ (fun x hx'=>(hx x hx').2) (fun a b=>by
    by_cases e:opT t = 12
    ·have:=ha2 e; omega
    ·have:=ha1 (by omega) (by omega); omega) h]
   unfold fulN
   rw [if_neg (by omega),if_neg (by omega),if_neg (by omega),if_neg (by omega)]
   cases getA l (nameT t) with
   | none=>rfl
   | some a =>
    dsimp only
    rw [if_neg (by omega)]
  ·split at h
   ·rename_i c5
    split at h
    ·cases h
    ·have h:=Sum.inl.inj h
     subst h
     unfold fulN
     rw [if_neg (by omega),if_neg (by omega),if_neg (by omega),if_neg (by omega)]
     show (getA l (nameT t)).isSome = _
     cases getA l (nameT t) with
     | none=>rfl
     | some a =>
      dsimp only
      rw [if_pos c5]
      rfl
   ·rename_i c c5
    split at h
    ·cases h
    ·rename_i ps hps
     have h:=Sum.inl.inj h
     subst h
     obtain ⟨a1,a2,a3⟩:=subs_same (p:=fun x=>jQf (m + 3) x l) (q:=fun x=>fulN f x l) hps fun x hx' y hy=>typed_means F f (hs x hx') hy (by omega)
     have hc:opT t = 1 ∨ opT t = 2 ∨ opT t = 3 ∨ opT t = 4:=by omega
     unfold fulN jQf
     show (if opT t = 1 then true else if opT t = 2 then ps.all (fun x=>jQf (m + 3) x l) else if opT t = 3 then ps.any (fun x=>jQf (m + 3) x l) else if opT t = 4 then !ps.any (fun x=>jQf (m + 3) x l) else _) = _
     rcases hc with e | e | e | e
     ·rw [if_pos e,if_pos e]
     ·rw [if_neg (by omega),if_pos e,if_neg (by omega),if_neg (by omega),if_pos e,a1]
     ·rw [if_neg (by omega),if_neg (by omega),if_pos e,if_neg (by omega),if_neg (by omega),if_neg (by omega),if_pos e,a2]
     ·rw [if_neg (by omega),if_neg (by omega),if_neg (by omega),if_pos e,if_neg (by omega),if_pos e,a2]
      have h4:=h4 e
      match hts:t.subs,h4 with
      | [x],_=>simp
end Go.PL
namespace Go.PL
open Go.AM
theorem joinT_nil (r:List PL.Pr ⊕ (Int × Int)):joinT [] r = r:=by cases r <;> rfl
theorem four_id {op:Int} (h:1 ≤ op) (h':op ≤ 4):(mget (mput (mput (mput (mput [] (1:Int) (1:Int)) (2:Int) (2:Int)) (3:Int) (3:Int)) (4:Int) (4:Int)) op).getD (0:Int) = op:=by
 have:op = 1 ∨ op = 2 ∨ op = 3 ∨ op = 4:=by omega
 rcases this with rfl | rfl | rfl | rfl <;> rfl
end Go.PL
namespace Go.Proofs.YtbjjaaimhleedaaGreatDoor
open Go.AM Go.PL Go.RowKit
attribute [local irreducible] fnwp fnwpP
theorem GC0_sound {n:Nat} (h:SatP bs.P pT 20 (typPSp n)) (pan:Int × Int → Prop):jQe (GC0 n pan):=mkctxP_sound ⟨sat_num,sat_equ,trivial⟩ trivial ⟨satP_rel,satP_fnd,h,trivial⟩
set_option maxHeartbeats 4000000 in
theorem satP_typN:∀ n,SatP bs.P pT 20 (typPSp n)
 | 0=>⟨fun g hg=>(by cases hg),fun _ _ x _ _ _ _ h=>by
  have h:dep x.2 ≤ 0 ∧ _:=h
  have:=dep_pos x.2
  omega⟩
 | n + 1=>satP_each (m:=6) fun (⟨⟨d,m,l,⟨⟩⟩,.node ⟨⟨op,pos,nm,ar,⟨⟩⟩,⟨⟩⟩ sb⟩:Sc × Tr) hok hp=>⟨GC0 n fun b=>(typPSp (n + 1)).post ((d,m,l,()),(Rose.node ((op,pos,nm,ar,()),()) sb:Tr)) = .inr b,rfl,rfl,GC0_sound (satP_typN n) _,fun b hb=>hb,by
  have hp:dep (Rose.node ((op,pos,nm,ar,()),()) sb:Tr) ≤ n + 1 ∧ wellN (n + 1) (Rose.node ((op,pos,nm,ar,()),()) sb:Tr) ∧ smallN (n + 1) (Rose.node ((op,pos,nm,ar,()),()) sb:Tr):=hp
  obtain ⟨hdp,⟨w1,w4,ws,wa,w12,w13,wr⟩,q1,q2,q3⟩:=hp
  have w1:1 ≤ op ∧ op ≤ 13:=w1
  have ws:∀ x ∈ sb,wellN n x:=ws
  have wa:6 ≤ op → op ≤ 11 → ar.length = 1:=wa
  have w12:op = 12 → ar.length = 2:=w12
  have wr:∀ x ∈ ar,(x.1 = 1 ∨ x.1 = 2) ∧ -1000000000000000000 < x.2.2.1 ∧ x.2.2.1 < 1000000000000000000:=wr
  have q1:ar.length ≤ 200:=q1
  have q2:sb.length ≤ 200:=q2
  have q3:∀ x ∈ sb,smallN n x:=q3
  have hd:=sub_le hdp
  have hpost:∀ b,(typPSp (n + 1)).post ((d,m,l,()),(Rose.node ((op,pos,nm,ar,()),()) sb:Tr)) = .inr b ↔ typN (n + 1) (d,m,l,()) (Rose.node ((op,pos,nm,ar,()),()) sb) = .inr b:=fun b=>Iff.rfl
  rw [typ_nf]
  have he:bytesOf { data:=#[] } = []:=rfl
  simp only [tr_eta,pr_eta]
  simp only [Rose.val,Rose.subs,he,hpost,typN_eq]
  refine ⟨fun c=>⟨⟨q1,fun g1 g2=>?_,fun g=>?_,fun x hx=>(wr x hx).2⟩,fun y hy=>?_,fun b hb=>?_⟩,fun c=>⟨fun c5=>⟨trivial,fun y hy=>?_,fun b hb=>?_⟩,fun c5=>?_⟩⟩
  ·show 1 ≤ ar.length
   have g1:8 ≤ op:=g1
   have g2:op ≤ 12:=g2
   by_cases e:op = 12
   ·have:=w12 e; omega
   ·have:=wa (by omega) (by omega); omega
  ·show 2 ≤ ar.length
   have:=w12 g; omega
  ·rw [if_pos (dt c)]
   exact hy
  ·rw [if_pos (dt c)]
   exact hb
  ·rw [if_neg (df c),if_pos (dt c5)]
   rw [fndP_eq] at hy
   split at hy
   ·cases hy
   ·rename_i k
    rw [if_neg k]
    have hk:=(fnd_name (ds:=l) (n:=nm) (k:=0) (by omega) (by have k:¬ fndN l nm 0 < 0:=k; omega)).2.1
    rw [Int.sub_zero] at hk
    cases hy
    show Sum.inl (mkP 5 nm 0 0 [] []) = Sum.inl (mkP 5 (l.getD (fndN l nm 0).toNat ([],0,0,0,[],())).1 0 0 [] [])
    have hk:(l.getD (fndN l nm 0).toNat ([],0,0,0,[],())).1 = nm:=hk
    rw [hk]
  ·rw [if_neg (df c),if_pos (dt c5)]
   rw [fndP_eq] at hb
   split at hb
   ·rename_i k
    rw [if_pos k]
    cases hb
    rfl
   ·cases hb
  ·have c:=df c
   have c5:=df c5
   rw [if_neg c,if_neg c5,four_id w1.1 (by omega)]
   refine ⟨fun x=>0 ≤ x.1 ∧ x.1 ≤ sb.length ∧ (x.2.1 = op ∧ x.2.2.1 = [] ∧ x.2.2.2.1 = 0 ∧ x.2.2.2.2.1 = 0 ∧ x.2.2.2.2.2.1 = []) ∧ x.2.2.2.2.2.2.length = x.1.toNat ∧ typL (typN n (d,m,l,())) sb = joinT x.2.2.2.2.2.2 (typL (typN n (d,m,l,())) (sb.drop x.1.toNat)),fun x=>(sb.length - x.1).toNat,⟨by dsimp only; omega,by dsimp only; omega,⟨rfl,rfl,rfl,rfl,rfl⟩,rfl,(joinT_nil _).symm⟩,?_⟩
   rintro ⟨i,o,nm',a',b',s',ps⟩ ⟨h0,h1,⟨e1,e2,e3,e4,e5⟩,h2,h3⟩
   dsimp only at h0 h1 e1 e2 e3 e4 e5 h2 h3 ⊢
   subst e1 e2 e3 e4 e5
   refine ⟨fun h=>?_,fun h=>?_⟩
   ·have h:=dt h
    have hmem:sb.getD i.toNat dTr ∈ sb:=jQ9 (by omega)
    rw [typL_drop h0 h] at h3
    refine ⟨⟨h0,h⟩,?_,?_⟩
    all_goals
     refine ⟨⟨hd _ hmem,ws _ hmem,q3 _ hmem⟩,fun y hy=>⟨roomB 80 (by kernel_rfl) (by omega) (by rw [List.length_singleton]; omega),by unfold isI64; omega,⟨by omega,by omega,⟨rfl,rfl,rfl,rfl,rfl⟩,?_,?_⟩,by omega⟩,fun b hb=>?_⟩
     ·rw [List.length_append,List.length_singleton]; omega
     ·rw [h3]
      have hy:typN n (d,m,l,()) (sb.getD i.toNat dTr) = .inl y:=hy
      rw [hy]
      dsimp only
      cases typL (typN n (d,m,l,())) (sb.drop (i + 1).toNat) with
      | inl qs=>simp [joinT]
      | inr b=>rfl
     ·have hb:typN n (d,m,l,()) (sb.getD i.toNat dTr) = .inr b:=hb
      rw [hb] at h3
      rw [h3]
      rfl
   ·have h:=df h
    rw [List.drop_of_length_le (by omega)] at h3
    rw [h3]
    show Sum.inl (mkP o [] 0 0 [] (ps ++ [])) = Sum.inl (mkP o [] 0 0 [] ps)
    rw [List.append_nil]⟩
end Go.Proofs.YtbjjaaimhleedaaGreatDoor
namespace Go.Proofs
open Go.RowKit
theorem KYtbjjaaimhleedaaGreatDoor.assert (a e:Int) (w:World):(Instr.typeAssert (.iface 39 (.agg #[.int .i64 a,.int .i64 e])) 20 39 true).run Tryz.prog w = .ok (.tuple #[.agg #[.int .i64 a,.int .i64 e],.bool true]) w:=by kernel_rfl
theorem KYtbjjaaimhleedaaGreatDoor.keep {n:Nat} (W:World) (h:n = W.heap.size) (c:Array Value) (t:TypeId) (j:Nat) {v:Value} (hv:c[j]? = some v):(W.alloc (.cells c t)).drew.cell? ⟨n,j,none⟩ = some v:=by
 rw [World.cell?_drew,World.cell?_alloc_at _ _ _ _ h]
 exact hv
structure KYtbjjaaimhleedaaGreatDoor.Left (gp gb:Nat) (a e:Int) (w w':World):Prop where
 p:w'.heap[gp]? = some (.cells #[.int .i64 0,.string ByteArray.empty,.int .i64 0,.int .i64 0,.string ByteArray.empty,.slice none 0 0] 37 (0,0))
 b:w'.heap[gb]? = some (.cells #[.int .i64 a,.int .i64 e] 39 (0,0))
 low:∀ g,g < w.heap.size → g ≠ gp → g ≠ gb → w'.heap[g]? = w.heap[g]?
 size:w.heap.size ≤ w'.heap.size
 os:w'.os = w.os
 tape:w'.tape = w.tape
 output:w'.output = w.output
theorem KYtbjjaaimhleedaaGreatDoor.s1 {w:World} {g j:Nat} {v:Value} {c:Array Value} {t:TypeId} {k:Nat × Nat} (h:w.heap[g]? = some (.cells c t k)):(w.setCell ⟨g,j,none⟩ v).heap[g]? = some (.cells (c.setIfInBounds j v) t k):=by
 simp [World.setCell,Array.getElem?_modify,h]
theorem KYtbjjaaimhleedaaGreatDoor.s2 {w:World} {g g' j:Nat} {v:Value} {o:Option Obj} (hne:g ≠ g') (h:w.heap[g']? = o):(w.setCell ⟨g,j,none⟩ v).heap[g']? = o:=by
 simp [World.setCell,Array.getElem?_modify,hne,h]
theorem KYtbjjaaimhleedaaGreatDoor.s3 {w:World} {g:Nat} {o:Obj} {r:Option Obj} (hg:g < w.heap.size) (h:w.heap[g]? = r):(w.alloc o).drew.heap[g]? = r:=by
 show (w.heap.push o)[g]? = r
 rw [Array.getElem?_push,if_neg (Nat.ne_of_lt hg),h]
def KYtbjjaaimhleedaaGreatDoor.setL (w:World):List (Nat × Nat × Value) → World
 | []=>w
 | (g,j,v) :: r=>KYtbjjaaimhleedaaGreatDoor.setL (w.setCell ⟨g,j,none⟩ v) r
theorem KYtbjjaaimhleedaaGreatDoor.setL_size (l:List (Nat × Nat × Value)):∀ w:World,(KYtbjjaaimhleedaaGreatDoor.setL w l).heap.size = w.heap.size:=by
 induction l with
 | nil=>intro w; rfl
 | cons x r ih=>intro w; exact (ih _).trans (World.size_setCell _ _ _)
theorem KYtbjjaaimhleedaaGreatDoor.setL_os (l:List (Nat × Nat × Value)):∀ w:World,(KYtbjjaaimhleedaaGreatDoor.setL w l).os = w.os ∧ (KYtbjjaaimhleedaaGreatDoor.setL w l).tape = w.tape ∧ (KYtbjjaaimhleedaaGreatDoor.setL w l).output = w.output:=by
 induction l with
 | nil=>intro w; exact ⟨rfl,rfl,rfl⟩
 | cons x r ih=>intro w; exact ih _
theorem KYtbjjaaimhleedaaGreatDoor.setL_other (l:List (Nat × Nat × Value)):∀ (w:World) (g:Nat),(∀ x ∈ l,x.1 ≠ g) → (KYtbjjaaimhleedaaGreatDoor.setL w l).heap[g]? = w.heap[g]?:=by
 induction l with
 | nil=>intro w g _; rfl
 | cons x r ih=>intro w g h; exact (ih _ g fun y hy=>h y (List.mem_cons_of_mem _ hy)).trans (KYtbjjaaimhleedaaGreatDoor.s2 (h x List.mem_cons_self) rfl)
def KYtbjjaaimhleedaaGreatDoor.setC (g:Nat) (c:Array Value):List (Nat × Nat × Value) → Array Value
 | []=>c
 | (g',j,v) :: r=>KYtbjjaaimhleedaaGreatDoor.setC g (if g' = g then c.setIfInBounds j v else c) r
theorem KYtbjjaaimhleedaaGreatDoor.setL_at (g:Nat) (t:TypeId) (k:Nat × Nat) (l:List (Nat × Nat × Value)):∀ (w:World) (c:Array Value),w.heap[g]? = some (.cells c t k) → (KYtbjjaaimhleedaaGreatDoor.setL w l).heap[g]? = some (.cells (KYtbjjaaimhleedaaGreatDoor.setC g c l) t k):=by
 induction l with
 | nil=>intro w c h; exact h
 | cons x r ih =>
  intro w c h
  refine ih _ _ ?_
  by_cases hx:x.1 = g
  ·subst hx; rw [if_pos rfl]; exact KYtbjjaaimhleedaaGreatDoor.s1 h
  ·rw [if_neg hx]; exact KYtbjjaaimhleedaaGreatDoor.s2 hx h
theorem KYtbjjaaimhleedaaGreatDoor.left {gp gb:Nat} {cp cb:Array Value} {a e:Int} {w:World} {o:Obj} {l:List (Nat × Nat × Value)} (hp:w.heap[gp]? = some (.cells cp 37 (0,0))) (hb:w.heap[gb]? = some (.cells cb 39 (0,0)))
 (h1:KYtbjjaaimhleedaaGreatDoor.setC gp cp l = #[.int .i64 0,.string ByteArray.empty,.int .i64 0,.int .i64 0,.string ByteArray.empty,.slice none 0 0]) (h2:KYtbjjaaimhleedaaGreatDoor.setC gb cb l = #[.int .i64 a,.int .i64 e]) (hl:∀ x ∈ l,x.1 = gp ∨ x.1 = gb) :
 KYtbjjaaimhleedaaGreatDoor.Left gp gb a e w (((KYtbjjaaimhleedaaGreatDoor.setL w l).alloc o).drew):=by
 have np:gp < w.heap.size:=(Array.getElem?_eq_some_iff.1 hp).1
 have nb:gb < w.heap.size:=(Array.getElem?_eq_some_iff.1 hb).1
 have hs:=KYtbjjaaimhleedaaGreatDoor.setL_size l w
 refine ⟨?_,?_,fun g hg g1 g2=>?_,?_,(KYtbjjaaimhleedaaGreatDoor.setL_os l w).1,(KYtbjjaaimhleedaaGreatDoor.setL_os l w).2.1,(KYtbjjaaimhleedaaGreatDoor.setL_os l w).2.2⟩
 ·exact KYtbjjaaimhleedaaGreatDoor.s3 (by omega) (h1 ▸ KYtbjjaaimhleedaaGreatDoor.setL_at gp _ _ l w _ hp)
 ·exact KYtbjjaaimhleedaaGreatDoor.s3 (by omega) (h2 ▸ KYtbjjaaimhleedaaGreatDoor.setL_at gb _ _ l w _ hb)
 ·refine KYtbjjaaimhleedaaGreatDoor.s3 (by omega) (KYtbjjaaimhleedaaGreatDoor.setL_other l w g fun x hx hxg=>?_)
  rcases hl x hx with h | h
  ·exact g1 (hxg ▸ h)
  ·exact g2 (hxg ▸ h)
 ·show w.heap.size ≤ ((KYtbjjaaimhleedaaGreatDoor.setL w l).heap.push o).size
  rw [Array.size_push,hs]; omega
theorem KYtbjjaaimhleedaaGreatDoor.left1 {gp gb:Nat} {p0 p1 p2 p3 p4 p5 b0 b1:Value} {a e:Int} {w:World} {o:Obj} (hne:gp ≠ gb) (hp:w.heap[gp]? = some (.cells #[p0,p1,p2,p3,p4,p5] 37 (0,0))) (hb:w.heap[gb]? = some (.cells #[b0,b1] 39 (0,0))):KYtbjjaaimhleedaaGreatDoor.Left gp gb a e w ((((((((((w.setCell ⟨gp,0,none⟩ (.int .i64 0)).setCell ⟨gp,1,none⟩ (.string ⟨#[]⟩)).setCell ⟨gp,2,none⟩ (.int .i64 0)).setCell ⟨gp,3,none⟩ (.int .i64 0)).setCell ⟨gp,4,none⟩ (.string ⟨#[]⟩)).setCell ⟨gp,5,none⟩ (.slice none 0 0)).setCell ⟨gb,0,none⟩ (.int .i64 a)).setCell ⟨gb,1,none⟩ (.int .i64 e))).alloc o).drew :=
 KYtbjjaaimhleedaaGreatDoor.left (l:=[(gp,0,.int .i64 0),(gp,1,.string ⟨#[]⟩),(gp,2,.int .i64 0),(gp,3,.int .i64 0),(gp,4,.string ⟨#[]⟩),(gp,5,.slice none 0 0),(gb,0,.int .i64 a),(gb,1,.int .i64 e)]) hp hb
  (by simp only [KYtbjjaaimhleedaaGreatDoor.setC,if_true,if_neg hne.symm]; rfl) (by simp only [KYtbjjaaimhleedaaGreatDoor.setC,if_true,if_neg hne]; rfl) (by simp)
set_option maxHeartbeats 40000000 in
set_option maxRecDepth 100000 in
theorem KYtbjjaaimhleedaaGreatDoor.catch (gp gb:Nat) (p0 p1 p2 p3 p4 p5 b0 b1:Value) (a e:Int) (w:World) (hne:gp ≠ gb)
 (hp:w.heap[gp]? = some (.cells #[p0,p1,p2,p3,p4,p5] 37 (0,0))) (hb:w.heap[gb]? = some (.cells #[b0,b1] 39 (0,0))) :
 CallsD Tryz.prog 19 #[.pointer (some ⟨gp,0,none⟩),.pointer (some ⟨gb,0,none⟩)] (.panicking [{ v:=.iface 39 (.agg #[.int .i64 a,.int .i64 e]),recovered:=false }]) w fun r u' w' =>
  r = .returned (.tuple #[]) ∧ u' = .panicking [{ v:=.iface 39 (.agg #[.int .i64 a,.int .i64 e]),recovered:=true }] ∧ KYtbjjaaimhleedaaGreatDoor.Left gp gb a e w w':=by
 have hta:=KYtbjjaaimhleedaaGreatDoor.assert a e
 have cp0:w.cell? ⟨gp,0,none⟩ = some p0:=by simp [World.cell?,hp]
 have cp1:w.cell? ⟨gp,1,none⟩ = some p1:=by simp [World.cell?,hp]
 have cp2:w.cell? ⟨gp,2,none⟩ = some p2:=by simp [World.cell?,hp]
 have cp3:w.cell? ⟨gp,3,none⟩ = some p3:=by simp [World.cell?,hp]
 have cp4:w.cell? ⟨gp,4,none⟩ = some p4:=by simp [World.cell?,hp]
 have cp5:w.cell? ⟨gp,5,none⟩ = some p5:=by simp [World.cell?,hp]
 have cb0:w.cell? ⟨gb,0,none⟩ = some b0:=by simp [World.cell?,hb]
 have cb1:w.cell? ⟨gb,1,none⟩ = some b1:=by simp [World.cell?,hb]
 have fp:∀ j,w.frozen? ⟨gp,j,none⟩ = false:=fun j=>by simp [World.frozen?,hp]
 have fb:∀ j,w.frozen? ⟨gb,j,none⟩ = false:=fun j=>by simp [World.frozen?,hb]
 have np:gp < w.heap.size:=World.block_lt_of_cell? _ _ cp0
 have nb:gb < w.heap.size:=World.block_lt_of_cell? _ _ cb0
 have ep:=World.new_ne w _ cp0
 have eb:=World.new_ne w _ cb0
 refine callsD_of_wpS Tryz.func19 rfl fun c₀ cs hu=>?_
 apply wpS_seq
 apply wpS_region
 simp [wpOpsS,go_sem,recoverD,hu,Tryz.ntmps19,Exit.thenS]
 refine wpS_of_wp ?_
 go_wp2
 go_region_held3 (fun w'=>w'.cell? ⟨w.heap.size,0,none⟩ = some (.int .i64 a) ∧ w'.cell? ⟨w.heap.size,1,none⟩ = some (.int .i64 e)) (first | exact ⟨KYtbjjaaimhleedaaGreatDoor.keep _ (by simp) _ _ _ rfl,KYtbjjaaimhleedaaGreatDoor.keep _ (by simp) _ _ _ rfl⟩ | go_keep) (fail)
 all_goals go_wp2
 all_goals exact ⟨rfl,_,rfl,.tuple #[],by simp [results,Tryz.results19],rfl,rfl,by first | exact KYtbjjaaimhleedaaGreatDoor.left1 hne hp hb | exact KYtbjjaaimhleedaaGreatDoor.left2 hne hp hb⟩
set_option maxHeartbeats 40000000 in
set_option maxRecDepth 100000 in
theorem KYtbjjaaimhleedaaGreatDoor.idle (x y:Value) (w:World):CallsD Tryz.prog 19 #[x,y] .returning w fun r u' w'=>r = .returned (.tuple #[]) ∧ u' = .returning ∧ w' = w:=by
 have heq:∀ w:World,(binOp BinOp.eql 20 .nilIface .nilIface).run Tryz.prog w = .ok (.bool true) w:=fun _=>by kernel_rfl
 refine callsD_of_wpS Tryz.func19 rfl fun c₀ cs hu=>?_
 apply wpS_seq
 apply wpS_region
 simp [wpOpsS,go_sem,recoverD,hu,Tryz.ntmps19,Exit.thenS]
 refine wpS_of_wp ?_
 go_wp2
 cases c₀
 simp only at hu
 subst hu
 exact ⟨rfl,_,rfl,.tuple #[],by simp [results,Tryz.results19],rfl,rfl,rfl⟩
end Go.Proofs
namespace Go.Proofs
open Go.RowKit
structure KYtbjjaaimhleedaaGreatDoor.But (gp gb:Nat) (w w':World):Prop where
 low:∀ g,g < w.heap.size → g ≠ gp → g ≠ gb → w'.heap[g]? = w.heap[g]?
 size:w.heap.size ≤ w'.heap.size
 os:w'.os = w.os
 tape:w'.tape = w.tape
 output:w'.output = w.output
theorem KYtbjjaaimhleedaaGreatDoor.b4 (w:World) (a b c d:Obj):Below w.heap.size w ((((w.alloc a).alloc b).alloc c).alloc d):=by
 refine Below.alloc (Below.alloc (Below.alloc (Below.alloc (Below.refl _ _) ?_ a) ?_ b) ?_ c) ?_ d <;> simp <;> omega
theorem KYtbjjaaimhleedaaGreatDoor.p4 (w:World) (a b c d:Obj):((((w.alloc a).alloc b).alloc c).alloc d).heap[w.heap.size + 1 + 1]? = some c:=by
 show ((((w.heap.push a).push b).push c).push d)[w.heap.size + 1 + 1]? = some c
 rw [Array.getElem?_push,if_neg (by simp),Array.getElem?_push,if_pos (by simp)]
theorem KYtbjjaaimhleedaaGreatDoor.q4 (w:World) (a b c d:Obj):((((w.alloc a).alloc b).alloc c).alloc d).heap[w.heap.size + 1 + 1 + 1]? = some d:=by
 show ((((w.heap.push a).push b).push c).push d)[w.heap.size + 1 + 1 + 1]? = some d
 rw [Array.getElem?_push,if_pos (by simp)]
theorem KYtbjjaaimhleedaaGreatDoor.self {w:World} {g j:Nat} {v:Value} (h:w.cell? ⟨g,j,none⟩ = some v):w.setCell ⟨g,j,none⟩ v = w:=by
 have:(w.setCell ⟨g,j,none⟩ v).heap = w.heap:=by
  apply Array.ext_getElem?
  intro i
  by_cases hi:g = i
  ·subst hi
   unfold World.cell? at h
   split at h
   ·rename_i c t k hc
    rw [KYtbjjaaimhleedaaGreatDoor.s1 hc,hc]
    have h:c[j]? = some v:=by simpa using h
    have:c.setIfInBounds j v = c:=by
     apply Array.ext_getElem?
     intro i
     rw [Array.getElem?_setIfInBounds]
     split
     ·rename_i e
      subst e
      have hj:=(Array.getElem?_eq_some_iff.1 h).1
      rw [if_pos hj,h]
     ·rfl
    rw [this]
   ·cases h
  ·exact KYtbjjaaimhleedaaGreatDoor.s2 hi rfl
 cases w
 simp only [World.setCell] at this ⊢
 rw [this]
theorem KYtbjjaaimhleedaaGreatDoor.t4 (w:World) (a b c d:Obj):((((w.alloc a).alloc b).alloc c).alloc d).heap[w.heap.size + 1]? = some b:=by
 show ((((w.heap.push a).push b).push c).push d)[w.heap.size + 1]? = some b
 rw [Array.getElem?_push,if_neg (by simp),Array.getElem?_push,if_neg (by simp),Array.getElem?_push,if_pos (by simp)]
theorem KYtbjjaaimhleedaaGreatDoor.n4 (w:World) (a b c d:Obj):((((w.alloc a).alloc b).alloc c).alloc d).heap.size = w.heap.size + 4:=by
 show ((((w.heap.push a).push b).push c).push d).size = w.heap.size + 4
 simp
theorem KYtbjjaaimhleedaaGreatDoor.but (gp gb:Nat) (w:World) (l:List (Nat × Nat × Value)) (hl:∀ x ∈ l,x.1 = gp ∨ x.1 = gb):KYtbjjaaimhleedaaGreatDoor.But gp gb w (KYtbjjaaimhleedaaGreatDoor.setL w l) where
 low:=fun g _ g1 g2=>KYtbjjaaimhleedaaGreatDoor.setL_other l w g fun x hx hxg=>by
  rcases hl x hx with h | h
  ·exact g1 (hxg ▸ h)
  ·exact g2 (hxg ▸ h)
 size:=by rw [KYtbjjaaimhleedaaGreatDoor.setL_size]; exact Nat.le_refl _
 os:=(KYtbjjaaimhleedaaGreatDoor.setL_os l w).1
 tape:=(KYtbjjaaimhleedaaGreatDoor.setL_os l w).2.1
 output:=(KYtbjjaaimhleedaaGreatDoor.setL_os l w).2.2
theorem KYtbjjaaimhleedaaGreatDoor.But.trans {gp gb:Nat} {a b c:World} (h:KYtbjjaaimhleedaaGreatDoor.But gp gb a b) (k:KYtbjjaaimhleedaaGreatDoor.But gp gb b c):KYtbjjaaimhleedaaGreatDoor.But gp gb a c where
 low:=fun g hg h1 h2=>(k.low g (Nat.lt_of_lt_of_le hg h.size) h1 h2).trans (h.low g hg h1 h2)
 size:=Nat.le_trans h.size k.size
 os:=k.os.trans h.os
 tape:=k.tape.trans h.tape
 output:=k.output.trans h.output
theorem KYtbjjaaimhleedaaGreatDoor.But.of {gp gb:Nat} {a b:World} (h:Below a.heap.size a b):KYtbjjaaimhleedaaGreatDoor.But gp gb a b:=⟨fun g hg _ _=>h.block g hg,h.size,h.os,h.tape,h.output⟩
theorem KYtbjjaaimhleedaaGreatDoor.Left.but {gp gb:Nat} {a e:Int} {w w':World} (h:KYtbjjaaimhleedaaGreatDoor.Left gp gb a e w w'):KYtbjjaaimhleedaaGreatDoor.But gp gb w w':=⟨h.low,h.size,h.os,h.tape,h.output⟩
theorem KYtbjjaaimhleedaaGreatDoor.But.below {gp gb:Nat} {B:Nat} {a b c:World} (h:Below B a b) (k:KYtbjjaaimhleedaaGreatDoor.But gp gb b c) (hB:B ≤ b.heap.size) (h1:B ≤ gp) (h2:B ≤ gb):Below B a c where
 os:=k.os.trans h.os
 tape:=k.tape.trans h.tape
 output:=k.output.trans h.output
 size:=Nat.le_trans h.size k.size
 block:=fun g hg=>(k.low g (by omega) (by omega) (by omega)).trans (h.block g hg)
theorem KYtbjjaaimhleedaaGreatDoor.cof {w:World} {g j:Nat} {c:Array Value} {t:TypeId} {k:Nat × Nat} (h:w.heap[g]? = some (.cells c t k)):w.cell? ⟨g,j,none⟩ = c[j]?:=by
 simp [World.cell?,h]
theorem KYtbjjaaimhleedaaGreatDoor.fof {w:World} {g j:Nat} {c:Array Value} {t:TypeId} (h:w.heap[g]? = some (.cells c t (0,0))):w.frozen? ⟨g,j,none⟩ = false:=by
 simp [World.frozen?,h]
set_option maxHeartbeats 40000000 in
set_option maxRecDepth 100000 in
theorem KYtbjjaaimhleedaaGreatDoor.typ (d m:Int) (sa:Option Addr) (sn sc:Nat) (op pos:Int) (nm:ByteArray) (aa:Option Addr) (an ac:Nat) (ba:Option Addr) (bn bc:Nat) (w:World)
 (R:Int → ByteArray → Int → Int → ByteArray → Option Addr → Nat → Nat → World → Prop) (X:Int → Int → Prop) (z:Int)
 (hT:∀ w1,Below w.heap.size w w1 → w.heap.size + 4 ≤ w1.heap.size → Calls Tryz.prog 20 #[.agg #[.int .i64 d,.int .i64 m,.slice sa sn sc],.agg #[.int .i64 op,.int .i64 pos,.string nm,.slice aa an ac,.slice ba bn bc]] w1 fun e w'=>Below w1.heap.size w1 w' ∧
   ((∃ o n a b s ad k c,e = .returned (.agg #[.int .i64 o,.string n,.int .i64 a,.int .i64 b,.string s,.slice ad k c]) ∧ R o n a b s ad k c w') ∨ ∃ a b,e = .panicked [{ v:=.iface 39 (.agg #[.int .i64 a,.int .i64 b]),recovered:=false }] ∧ X a b))
 (hS:∀ o n a b s ad k c w2 w3,R o n a b s ad k c w2 → KYtbjjaaimhleedaaGreatDoor.But (w.heap.size + 1 + 1) (w.heap.size + 1 + 1 + 1) w2 w3 → Calls Tryz.prog 21 #[.agg #[.int .i64 o,.string n,.int .i64 a,.int .i64 b,.string s,.slice ad k c]] w3 fun e w'=>Below w3.heap.size w3 w' ∧ e = .returned (.int .i64 z)) :
 Calls Tryz.prog 8 #[.agg #[.int .i64 d,.int .i64 m,.slice sa sn sc],.agg #[.int .i64 op,.int .i64 pos,.string nm,.slice aa an ac,.slice ba bn bc]] w fun e w'=>Below w.heap.size w w' ∧
  ((∃ o n a b s ad k c w2,e = .returned (.tuple #[.agg #[.int .i64 o,.string n,.int .i64 a,.int .i64 b,.string s,.slice ad k c],.agg #[.int .i64 0,.int .i64 0]]) ∧ R o n a b s ad k c w2 ∧ z ≤ 64 ∧ KYtbjjaaimhleedaaGreatDoor.But (w.heap.size + 1 + 1) (w.heap.size + 1 + 1 + 1) w2 w') ∨
   ∃ a e',e = .returned (.tuple #[.agg #[.int .i64 0,.string ByteArray.empty,.int .i64 0,.int .i64 0,.string ByteArray.empty,.slice none 0 0],.agg #[.int .i64 a,.int .i64 e']]) ∧ (X a e' ∨ ∃ o n x y s ad k c w2,R o n x y s ad k c w2 ∧ 64 < z ∧ a = pos ∧ e' = 2)):=by
 go_enter_defers Tryz.func8,Tryz.ntmps8
 go_wp2_with fail
 refine (hT _ (KYtbjjaaimhleedaaGreatDoor.b4 w _ _ _ _) (by rw [KYtbjjaaimhleedaaGreatDoor.n4]; exact Nat.le_refl _)).mono ?_
 rintro e w2 ⟨hb2,⟨o,n,a,b,s,ad,k,c,rfl,hR⟩ | ⟨a,b,rfl,hX⟩⟩
 ·have hp:=(hb2.block _ (by simp)).trans (KYtbjjaaimhleedaaGreatDoor.p4 w _ _ _ _)
  have hq:=(hb2.block _ (by simp)).trans (KYtbjjaaimhleedaaGreatDoor.q4 w _ _ _ _)
  have ht:=(hb2.block _ (by simp)).trans (KYtbjjaaimhleedaaGreatDoor.t4 w _ _ _ _)
  have n2:w.heap.size + 4 ≤ w2.heap.size:=by
   have:=hb2.size
   rwa [KYtbjjaaimhleedaaGreatDoor.n4] at this
  have cp0:=KYtbjjaaimhleedaaGreatDoor.cof (j:=0) hp
  have cp1:=KYtbjjaaimhleedaaGreatDoor.cof (j:=1) hp
  have cp2:=KYtbjjaaimhleedaaGreatDoor.cof (j:=2) hp
  have cp3:=KYtbjjaaimhleedaaGreatDoor.cof (j:=3) hp
  have cp4:=KYtbjjaaimhleedaaGreatDoor.cof (j:=4) hp
  have cp5:=KYtbjjaaimhleedaaGreatDoor.cof (j:=5) hp
  have fp:=fun j=>KYtbjjaaimhleedaaGreatDoor.fof (j:=j) hp
  have fq:=fun j=>KYtbjjaaimhleedaaGreatDoor.fof (j:=j) hq
  simp at cp0 cp1 cp2 cp3 cp4 cp5
  go_wp2_with fail
  have hB:KYtbjjaaimhleedaaGreatDoor.But (w.heap.size + 1 + 1) (w.heap.size + 1 + 1 + 1) w2 (KYtbjjaaimhleedaaGreatDoor.setL w2 [(w.heap.size + 1 + 1,0,.int .i64 o),(w.heap.size + 1 + 1,1,.string n),(w.heap.size + 1 + 1,2,.int .i64 a),(w.heap.size + 1 + 1,3,.int .i64 b),(w.heap.size + 1 + 1,4,.string s),(w.heap.size + 1 + 1,5,.slice ad k c)]):=KYtbjjaaimhleedaaGreatDoor.but _ _ _ _ (by simp)
  refine (hS _ _ _ _ _ _ _ _ w2 _ hR hB).mono ?_
  rintro e w3 ⟨hb3,rfl⟩
  replace hp:w3.heap[w.heap.size + 1 + 1]? = some (.cells #[.int .i64 o,.string n,.int .i64 a,.int .i64 b,.string s,.slice ad k c] 37 (0,0)):=(hb3.block _ (by rw [KYtbjjaaimhleedaaGreatDoor.setL_size]; omega)).trans ((KYtbjjaaimhleedaaGreatDoor.setL_at _ _ _ _ _ _ hp).trans (by simp only [KYtbjjaaimhleedaaGreatDoor.setC,if_true]; rfl))
  replace hq:=(hb3.block _ (by rw [KYtbjjaaimhleedaaGreatDoor.setL_size]; omega)).trans ((KYtbjjaaimhleedaaGreatDoor.setL_other _ _ _ (by simp)).trans hq)
  replace ht:=(hb3.block _ (by rw [KYtbjjaaimhleedaaGreatDoor.setL_size]; omega)).trans ((KYtbjjaaimhleedaaGreatDoor.setL_other _ _ _ (by simp)).trans ht)
  have hB3:=hB.trans (.of hb3)
  have hbb:=KYtbjjaaimhleedaaGreatDoor.But.below ((KYtbjjaaimhleedaaGreatDoor.b4 w _ _ _ _).trans (hb2.mono (by simp <;> omega))) hB3 (by omega) (by omega) (by omega)
  clear cp0 cp1 cp2 cp3 cp4 cp5 fp fq hB hb3 hb2
  have cp0:=KYtbjjaaimhleedaaGreatDoor.cof (j:=0) hp
  have cp1:=KYtbjjaaimhleedaaGreatDoor.cof (j:=1) hp
  have cp2:=KYtbjjaaimhleedaaGreatDoor.cof (j:=2) hp
  have cp3:=KYtbjjaaimhleedaaGreatDoor.cof (j:=3) hp
  have cp4:=KYtbjjaaimhleedaaGreatDoor.cof (j:=4) hp
  have cp5:=KYtbjjaaimhleedaaGreatDoor.cof (j:=5) hp
  have cq0:=KYtbjjaaimhleedaaGreatDoor.cof (j:=0) hq
  have cq1:=KYtbjjaaimhleedaaGreatDoor.cof (j:=1) hq
  have ct:=KYtbjjaaimhleedaaGreatDoor.cof (j:=1) ht
  have fp:=fun j=>KYtbjjaaimhleedaaGreatDoor.fof (j:=j) hp
  have fq:=fun j=>KYtbjjaaimhleedaaGreatDoor.fof (j:=j) hq
  simp at cp0 cp1 cp2 cp3 cp4 cp5 cq0 cq1 ct
  have hz:=Int.lt_or_le 64 z
  go_wp2_with fail
  ·replace hz:64 < z:=by first | assumption | exact hz.resolve_right (by omega)
   refine (KYtbjjaaimhleedaaGreatDoor.fail _ _ _).mono ?_
   rintro e w' ⟨rfl,rfl⟩
   go_wp2_with fail
   refine leaves_cons (f:=19) (args:=#[.pointer (some ⟨w.heap.size + 1 + 1,0,none⟩),.pointer (some ⟨w.heap.size + 1 + 1 + 1,0,none⟩)]) (by simp) (by simp [go_sem]) ?_
   refine (KYtbjjaaimhleedaaGreatDoor.catch _ _ _ _ _ _ _ _ _ _ pos 2 _ (by omega) hp hq).mono ?_
   rintro e u' w4 ⟨rfl,rfl,hL⟩
   have dp0:=KYtbjjaaimhleedaaGreatDoor.cof (j:=0) hL.p
   have dp1:=KYtbjjaaimhleedaaGreatDoor.cof (j:=1) hL.p
   have dp2:=KYtbjjaaimhleedaaGreatDoor.cof (j:=2) hL.p
   have dp3:=KYtbjjaaimhleedaaGreatDoor.cof (j:=3) hL.p
   have dp4:=KYtbjjaaimhleedaaGreatDoor.cof (j:=4) hL.p
   have dp5:=KYtbjjaaimhleedaaGreatDoor.cof (j:=5) hL.p
   have dq0:=KYtbjjaaimhleedaaGreatDoor.cof (j:=0) hL.b
   have dq1:=KYtbjjaaimhleedaaGreatDoor.cof (j:=1) hL.b
   simp at dp0 dp1 dp2 dp3 dp4 dp5 dq0 dq1
   simp [Leaves,settle,results,Tryz.results8,go_sem,dp0,dp1,dp2,dp3,dp4,dp5,dq0,dq1]
   exact ⟨KYtbjjaaimhleedaaGreatDoor.But.below hbb hL.but (by have:=hbb.size; omega) (by omega) (by omega),⟨pos,2,⟨rfl,rfl⟩,.inr ⟨⟨o,n,a,b,s,ad,k,c,w2,hR⟩,hz,rfl,rfl⟩⟩⟩
  ·replace hz:z ≤ 64:=by omega
   go_region_held3 (fun w'=>w'.cell? ⟨w.heap.size + 1 + 1,0,none⟩ = some (.int .i64 o) ∧ w'.cell? ⟨w.heap.size + 1 + 1,1,none⟩ = some (.string n) ∧ w'.cell? ⟨w.heap.size + 1 + 1,2,none⟩ = some (.int .i64 a) ∧ w'.cell? ⟨w.heap.size + 1 + 1,3,none⟩ = some (.int .i64 b) ∧ w'.cell? ⟨w.heap.size + 1 + 1,4,none⟩ = some (.string s) ∧ w'.cell? ⟨w.heap.size + 1 + 1,5,none⟩ = some (.slice ad k c) ∧ w'.cell? ⟨w.heap.size + 1 + 1 + 1,0,none⟩ = some (.int .i64 0) ∧ w'.cell? ⟨w.heap.size + 1 + 1 + 1,1,none⟩ = some (.int .i64 0)) (first | (with_reducible exact ⟨cp0,cp1,cp2,cp3,cp4,cp5,cq0,cq1⟩) | (simp only [KYtbjjaaimhleedaaGreatDoor.self cp0,KYtbjjaaimhleedaaGreatDoor.self cp1,KYtbjjaaimhleedaaGreatDoor.self cp2,KYtbjjaaimhleedaaGreatDoor.self cp3,KYtbjjaaimhleedaaGreatDoor.self cp4,KYtbjjaaimhleedaaGreatDoor.self cp5,KYtbjjaaimhleedaaGreatDoor.self cq0,KYtbjjaaimhleedaaGreatDoor.self cq1,World.cell?_drew]; exact ⟨cp0,cp1,cp2,cp3,cp4,cp5,cq0,cq1⟩)) (fail)
   all_goals simp only [KYtbjjaaimhleedaaGreatDoor.self cp0,KYtbjjaaimhleedaaGreatDoor.self cp1,KYtbjjaaimhleedaaGreatDoor.self cp2,KYtbjjaaimhleedaaGreatDoor.self cp3,KYtbjjaaimhleedaaGreatDoor.self cp4,KYtbjjaaimhleedaaGreatDoor.self cp5,KYtbjjaaimhleedaaGreatDoor.self cq0,KYtbjjaaimhleedaaGreatDoor.self cq1]
   go_wp2_with fail
   refine leaves_cons (f:=19) (args:=#[.pointer (some ⟨w.heap.size + 1 + 1,0,none⟩),.pointer (some ⟨w.heap.size + 1 + 1 + 1,0,none⟩)]) (by simp) (by simp [go_sem]) ?_
   refine (KYtbjjaaimhleedaaGreatDoor.idle _ _ _).mono ?_
   rintro e u' w4 ⟨rfl,rfl,rfl⟩
   simp [Leaves,settle,results,Tryz.results8,go_sem,cp0,cp1,cp2,cp3,cp4,cp5,cq0,cq1]
   exact ⟨hbb.drew,.inl ⟨o,n,a,b,s,ad,k,c,⟨rfl,rfl,rfl,rfl,rfl,rfl,rfl,rfl⟩,w2,hR,hz,hB3.trans ⟨fun _ _ _ _=>rfl,Nat.le_refl _,rfl,rfl,rfl⟩⟩⟩
 ·have hp:=(hb2.block _ (by simp)).trans (KYtbjjaaimhleedaaGreatDoor.p4 w _ _ _ _)
  have hq:=(hb2.block _ (by simp)).trans (KYtbjjaaimhleedaaGreatDoor.q4 w _ _ _ _)
  go_wp2_with fail
  refine leaves_cons (f:=19) (args:=#[.pointer (some ⟨w.heap.size + 1 + 1,0,none⟩),.pointer (some ⟨w.heap.size + 1 + 1 + 1,0,none⟩)]) (by simp) (by simp [go_sem]) ?_
  refine (KYtbjjaaimhleedaaGreatDoor.catch _ _ _ _ _ _ _ _ _ _ a b _ (by omega) hp hq).mono ?_
  rintro e u' w3 ⟨rfl,rfl,hL⟩
  have cp0:=KYtbjjaaimhleedaaGreatDoor.cof (j:=0) hL.p
  have cp1:=KYtbjjaaimhleedaaGreatDoor.cof (j:=1) hL.p
  have cp2:=KYtbjjaaimhleedaaGreatDoor.cof (j:=2) hL.p
  have cp3:=KYtbjjaaimhleedaaGreatDoor.cof (j:=3) hL.p
  have cp4:=KYtbjjaaimhleedaaGreatDoor.cof (j:=4) hL.p
  have cp5:=KYtbjjaaimhleedaaGreatDoor.cof (j:=5) hL.p
  have cq0:=KYtbjjaaimhleedaaGreatDoor.cof (j:=0) hL.b
  have cq1:=KYtbjjaaimhleedaaGreatDoor.cof (j:=1) hL.b
  simp at cp0 cp1 cp2 cp3 cp4 cp5 cq0 cq1
  simp [Leaves,settle,results,Tryz.results8,go_sem,cp0,cp1,cp2,cp3,cp4,cp5,cq0,cq1]
  have n2:w.heap.size + 4 ≤ w2.heap.size:=by
   have:=hb2.size
   rwa [KYtbjjaaimhleedaaGreatDoor.n4] at this
  exact ⟨KYtbjjaaimhleedaaGreatDoor.But.below ((KYtbjjaaimhleedaaGreatDoor.b4 w _ _ _ _).trans (hb2.mono (by simp <;> omega))) hL.but (by omega) (by omega) (by omega),.inr ⟨a,b,⟨rfl,rfl⟩,.inl hX⟩⟩
end Go.Proofs
namespace Go.Proofs.YtbjjaaimhleedaaGreatDoor
open Go.AM Go.PL Go.RowKit
attribute [local irreducible] fnwp fnwpP
def zeroP:PL.Pr:=mkP 0 [] 0 0 [] []
def tyP (s:Sc) (t:Tr):PL.Pr × Int × Int × Unit:=match typN (dep t) s t with
 | .inl p=>if 64 < pszN (dep p) p then (zeroP,atT t,2,()) else (p,0,0,())
 | .inr b=>(zeroP,b.1,b.2,())
def tySp:FSpec:=⟨[SC,TR],[PR,PB],fun x=>wellN (dep (x.2:Tr)) x.2 ∧ smallN (dep (x.2:Tr)) x.2,fun x=>tyP x.1 x.2⟩
section
variable {Ψ:AM.Pr} {β:List Value}
theorem rvSC {x:Sc} {v:Value} (h:RelV Ψ β (.d SC x) v):∃ sa sn sc,v = .agg #[.int .i64 x.1,.int .i64 x.2.1,.slice sa sn sc]:=by
 obtain ⟨cs,⟨u1,r1,rfl,⟨rfl,_⟩,u2,r2,rfl,⟨rfl,_⟩,u3,r3,rfl,⟨a,cap,rfl,_⟩,h4⟩,e⟩:=h
 obtain rfl:r3 = []:=h4
 exact ⟨_,_,_,e⟩
theorem rvTR {x:Tr} {v:Value} (h:RelV Ψ β (.d TR x) v):∃ nm aa an ac ba bn bc,v = .agg #[.int .i64 (opT x),.int .i64 (atT x),.string nm,.slice aa an ac,.slice ba bn bc]:=by
 obtain ⟨cs,hc,e⟩:=h
 obtain ⟨u,s,w,rfl,⟨u1,r1,rfl,⟨rfl,_⟩,u2,r2,rfl,⟨rfl,_⟩,u3,r3,rfl,⟨rfl,_⟩,u4,r4,rfl,⟨a,cap,rfl,_⟩,h4⟩,h5,h6⟩:=(jZv _ _).1 hc
 obtain rfl:r4 = []:=h4
 obtain rfl:w = []:=h5
 obtain ⟨a',cap',h7,_⟩:=h6
 obtain rfl:=(List.cons.inj h7).1
 exact ⟨_,_,_,_,_,_,_,e⟩
theorem rvPR {x:PL.Pr} {v:Value} (h:RelV Ψ β (.d PR x) v):∃ o n a b s ad k c,v = .agg #[.int .i64 o,.string n,.int .i64 a,.int .i64 b,.string s,.slice ad k c]:=by
 obtain ⟨cs,hc,e⟩:=h
 obtain ⟨u,s,w,rfl,⟨u1,r1,rfl,⟨rfl,_⟩,u2,r2,rfl,⟨rfl,_⟩,u3,r3,rfl,⟨rfl,_⟩,u4,r4,rfl,⟨rfl,_⟩,u5,r5,rfl,⟨rfl,_⟩,h4⟩,h5,h6⟩:=(jZv _ _).1 hc
 obtain rfl:r5 = []:=h4
 obtain rfl:w = []:=h5
 obtain ⟨a',cap',h7,_⟩:=h6
 obtain rfl:=(List.cons.inj h7).1
 exact ⟨_,_,_,_,_,_,_,_,e⟩
theorem rvZ:RelV Ψ β (.d PR zeroP) (.agg #[.int .i64 0,.string ByteArray.empty,.int .i64 0,.int .i64 0,.string ByteArray.empty,.slice none 0 0]):=by
 have i0:IntKind.i64.has 0:=jXr.2 (by unfold isI64; omega)
 refine ⟨[.int .i64 0,.string ByteArray.empty,.int .i64 0,.int .i64 0,.string ByteArray.empty,.slice none 0 0],?_,rfl⟩
 refine (jZv _ _).2 ⟨[.int .i64 0,.string ByteArray.empty,.int .i64 0,.int .i64 0,.string ByteArray.empty],.slice none 0 0,[],rfl,?_,rfl,none,0,rfl,Nat.le_refl _,Nat.zero_le _,.inl rfl⟩
 exact ⟨[_],_,rfl,⟨rfl,i0⟩,[_],_,rfl,⟨rfl,fun _ h=>absurd h List.not_mem_nil,Nat.zero_le _⟩,[_],_,rfl,⟨rfl,i0⟩,[_],_,rfl,⟨rfl,i0⟩,[_],[],rfl,⟨rfl,fun _ h=>absurd h List.not_mem_nil,Nat.zero_le _⟩,rfl⟩
theorem rvB {a e:Int} (ha:IntKind.i64.has a) (he:IntKind.i64.has e):RelV Ψ β (.d PB (a,e,())) (.agg #[.int .i64 a,.int .i64 e]) :=
 ⟨[.int .i64 a,.int .i64 e],⟨[_],[_],rfl,⟨rfl,ha⟩,[_],[],rfl,⟨rfl,he⟩,rfl⟩,rfl⟩
theorem rvAt {x:Tr} {v:Value} (h:RelV Ψ β (.d TR x) v):IntKind.i64.has (atT x):=by
 obtain ⟨cs,hc,e⟩:=h
 obtain ⟨u,s,w,rfl,⟨u1,r1,rfl,⟨rfl,_⟩,u2,r2,rfl,⟨rfl,h2⟩,_⟩,_⟩:=(jZv _ _).1 hc
 exact h2
end
theorem lits_has {d:Df} {b:Int × Int}:∀ {ar:List Lt},(∀ x ∈ ar,IntKind.i64.has x.2.1) → litsE d ar = some b → IntKind.i64.has b.1 ∧ IntKind.i64.has b.2
 | [],_,h=>by cases h
 | x :: l,hp,h=>by
  unfold litsE at h
  split at h
  ·cases h
   refine ⟨hp x List.mem_cons_self,jXr.2 ?_⟩
   dsimp only
   unfold litE isI64
   split
   ·omega
   ·split <;> omega
  ·exact lits_has (fun y hy=>hp y (List.mem_cons_of_mem _ hy)) h
theorem rel_has {s:Sc} {t:Tr} {b:Int × Int} (hat:IntKind.i64.has (atT t)) (har:∀ x ∈ argsT t,IntKind.i64.has x.2.1) (h:relP s t = .inr b):IntKind.i64.has b.1 ∧ IntKind.i64.has b.2:=by
 unfold relP at h
 have k5:IntKind.i64.has 5:=jXr.2 (by unfold isI64; omega)
 have k130:IntKind.i64.has 130:=jXr.2 (by unfold isI64; omega)
 have k131:IntKind.i64.has 131:=jXr.2 (by unfold isI64; omega)
 dsimp only at h
 split at h
 ·cases h; exact ⟨hat,k5⟩
 ·split at h
  ·cases h; exact ⟨hat,k130⟩
  ·split at h
   ·cases h; exact lits_has har (by assumption)
   ·split at h
    ·split at h
     ·rename_i c
      cases h
      refine ⟨?_,k131⟩
      cases ha:argsT t with
      | nil=>exact jXr.2 (by dsimp [List.getD]; unfold isI64; omega)
      | cons x l=>exact har x (by rw [ha]; exact List.mem_cons_self)
     ·cases h
    ·split at h
     ·cases h
     ·split at h <;> cases h
theorem typL_has {g:Tr → PL.Pr ⊕ (Int × Int)} {b:Int × Int}:∀ {l:List Tr},(∀ x ∈ l,∀ b,g x = .inr b → IntKind.i64.has b.1 ∧ IntKind.i64.has b.2) → typL g l = .inr b → IntKind.i64.has b.1 ∧ IntKind.i64.has b.2
 | [],_,h=>by cases h
 | t :: l,hg,h=>by
  unfold typL at h
  split at h
  ·rename_i c
   cases h
   exact hg t List.mem_cons_self _ c
  ·split at h
   ·rename_i c
    cases h
    exact typL_has (fun x hx=>hg x (List.mem_cons_of_mem _ hx)) c
   ·cases h
theorem typ_has {s:Sc}:∀ (n:Nat) (t:Tr) {b:Int × Int},okd TR t → typN n s t = .inr b → IntKind.i64.has b.1 ∧ IntKind.i64.has b.2
 | 0,.node ⟨⟨op,pos,nm,ar,⟨⟩⟩,⟨⟩⟩ sb,b,ht,h=>by
  have ht:Rose.all (fun y n=>okd (.pair I (.pair I (.pair .str (.pair (.arr LT) .unit)))) (Prod.fst y) ∧ okd .unit (Prod.snd y) ∧ n ≤ maxLen) (Rose.node ((op,pos,nm,ar,()),()) sb):=ht
  cases h
  exact ⟨ht.1.1.2.1,jXr.2 (by unfold isI64; omega)⟩
 | n + 1,.node ⟨⟨op,pos,nm,ar,⟨⟩⟩,⟨⟩⟩ sb,b,ht,h=>by
  have ht:Rose.all (fun y n=>okd (.pair I (.pair I (.pair .str (.pair (.arr LT) .unit)))) (Prod.fst y) ∧ okd .unit (Prod.snd y) ∧ n ≤ maxLen) (Rose.node ((op,pos,nm,ar,()),()) sb):=ht
  have hat:IntKind.i64.has pos:=ht.1.1.2.1
  have har:∀ x ∈ ar,IntKind.i64.has x.2.1:=fun x hx=>(ht.1.1.2.2.2.1.2 x hx).2.1
  unfold typN at h
  split at h
  ·exact rel_has (t:=Rose.node ((op,pos,nm,ar,()),()) sb) hat har h
  ·split at h
   ·split at h
    ·cases h
     exact ⟨hat,jXr.2 (by unfold isI64; omega)⟩
    ·cases h
   ·split at h
    ·rename_i c
     cases h
     exact typL_has (fun x hx b hb=>typ_has n x ((Rose.alls_iff sb).1 ht.2 x hx) hb) c
    ·cases h
theorem cell_lt {w:World} {a:Addr} {v:Value} (h:w.cell? a = some v):a.block < w.heap.size:=by
 unfold World.cell? at h
 split at h
 ·rename_i c t k hc
  exact (Array.getElem?_eq_some_iff.1 hc).1
 ·cases h
theorem cell_eq {w w':World} {a:Addr} (h:w'.heap[a.block]? = w.heap[a.block]?):w'.cell? a = w.cell? a:=by
 unfold World.cell?
 rw [h]
theorem sat_type:Sat bs.P 8 tySp:=by
 rintro Ψ w ⟨s,t⟩ args hprom hgl hrel ⟨hw,hs⟩
 obtain ⟨v1,vs1,rfl,h1,v2,vs2,rfl,h2,h3⟩:=hrel
 simp only [RelL] at h3
 subst h3
 have hat:=rvAt h2
 have htr:okd TR t:=rel_okds (ts:=[TR]) ⟨_,_,rfl,h2,rfl⟩
 obtain ⟨sa,sn,sc,e1⟩:=rvSC h1
 obtain ⟨nm,aa,an,ac,ba,bn,bc,e2⟩:=rvTR h2
 have hT:=(satP_typN (dep (t:Tr))).2
 have post:tySp.post (s,t) = tyP s t:=rfl
 rw [post]
 subst e1 e2
 have promW:∀ w1,Below w.heap.size w w1 → ∀ a v,Ψ a = some v → a.spot = none ∧ w1.cell? a = some v:=fun w1 hb a v hv =>
  ⟨(hprom a v hv).1,(cell_eq (hb.block _ (cell_lt (hprom a v hv).2))).trans (hprom a v hv).2⟩
 have hT1:=fun w1 hb=>hT Ψ w1 ((s,t):Sc × Tr) _ (promW w1 hb) hgl ⟨_,_,rfl,h1,_,_,rfl,h2,rfl⟩ ⟨Nat.le_refl _,hw,hs⟩
 rcases hx:typN (dep t) s t with p | b
 ·have hpost:(typPSp (dep (t:Tr))).post (s,t) = .inl p:=hx
  simp only [hpost] at hT1
  refine (KYtbjjaaimhleedaaGreatDoor.typ s.1 s.2.1 sa sn sc (opT t) (atT t) nm aa an ac ba bn bc w (fun o n a b s' ad k c w2=>∃ Ψ',Below w.heap.size w w2 ∧ (∀ a u,Ψ a = some u → Ψ' a = some u) ∧
   (∀ a u,Ψ' a = some u → Ψ a = some u ∨ (w.heap.size + 4 ≤ a.block ∧ a.spot = none ∧ w2.cell? a = some u)) ∧ RelV Ψ' [] (.d PR p) (.agg #[.int .i64 o,.string n,.int .i64 a,.int .i64 b,.string s',.slice ad k c])) (fun _ _=>False) (pszN (dep p) p) ?_ ?_).mono ?_
  ·intro w1 hb hn
   refine (hT1 w1 hb).mono ?_
   rintro e w2 ⟨Ψ',g1,g2,g3,⟨v,y,rfl,hy,hv⟩ | ⟨b,hb',_⟩⟩
   ·cases hy
    obtain ⟨o,n,a,b,s',ad,k,c,rfl⟩:=rvPR hv
    exact ⟨g1,.inl ⟨o,n,a,b,s',ad,k,c,rfl,Ψ',hb.trans (g1.mono hb.size),g2,fun a u hu=>(g3 a u hu).imp id fun ⟨q1,q2,q3⟩=>⟨Nat.le_trans hn q1,q2,q3⟩,hv⟩⟩
   ·cases hb'
  ·rintro o n a b s' ad k c w2 w3 ⟨Ψ',g1,g2,g3,hv⟩ hbut
   have prom:∀ a v,Ψ' a = some v → a.spot = none ∧ w3.cell? a = some v:=fun a v hv=>by
    rcases g3 a v hv with hq | ⟨q1,q2,q3⟩
    ·have q:=hprom a v hq
     have hl:=cell_lt q.2
     exact ⟨q.1,(cell_eq ((hbut.low _ (Nat.lt_of_lt_of_le hl g1.size) (by omega) (by omega)).trans (g1.block _ hl))).trans q.2⟩
    ·exact ⟨q2,(cell_eq (hbut.low _ (cell_lt q3) (by omega) (by omega))).trans q3⟩
   refine ((sat_pszN (dep (p:PL.Pr))) Ψ' w3 p _ prom (hgl.le g2) ⟨_,_,rfl,hv,rfl⟩ (Nat.le_refl _)).mono ?_
   rintro e w4 ⟨v,Ψ'',rfl,q1,_,_,q4⟩
   obtain ⟨rfl,_⟩:=jQj.1 q4
   exact ⟨q1,rfl⟩
  ·rintro e w' ⟨hb,⟨o,n,a,b,s',ad,k,c,w2,rfl,⟨Ψ',g1,g2,g3,hv⟩,hz,hbut⟩ | ⟨a,e',rfl,hF | ⟨o,n,x,y,s',ad,k,c,w2,_,hz,rfl,rfl⟩⟩⟩
   ·refine ⟨_,Ψ',rfl,hb,g2,fun a u hu=>(g3 a u hu).imp id fun ⟨q1,q2,q3⟩=>⟨by omega,q2,(cell_eq (hbut.low _ (cell_lt q3) (by omega) (by omega))).trans q3⟩,?_⟩
    have:tyP s t = (p,0,0,()):=by
     unfold tyP
     rw [hx]
     exact if_neg (by omega)
    rw [this]
    exact ⟨_,rfl,_,_,rfl,hv,_,_,rfl,rvB (jXr.2 (by unfold isI64; omega)) (jXr.2 (by unfold isI64; omega)),rfl⟩
   ·exact hF.elim
   ·refine ⟨_,Ψ,rfl,hb,fun _ _ h=>h,fun _ _ h=>.inl h,?_⟩
    have:tyP s t = (zeroP,atT t,2,()):=by
     unfold tyP
     rw [hx]
     exact if_pos hz
    rw [this]
    exact ⟨_,rfl,_,_,rfl,rvZ,_,_,rfl,rvB hat (jXr.2 (by unfold isI64; omega)),rfl⟩
 ·have hpost:(typPSp (dep (t:Tr))).post (s,t) = .inr b:=hx
  simp only [hpost] at hT1
  refine (KYtbjjaaimhleedaaGreatDoor.typ s.1 s.2.1 sa sn sc (opT t) (atT t) nm aa an ac ba bn bc w (fun _ _ _ _ _ _ _ _ _=>False) (fun a e=>b = (a,e)) 0 ?_ ?_).mono ?_
  ·intro w1 hb hn
   refine (hT1 w1 hb).mono ?_
   rintro e w2 ⟨Ψ',g1,g2,g3,⟨v,y,rfl,hy,hv⟩ | ⟨b',hb',rfl⟩⟩
   ·cases hy
   ·cases hb'
    exact ⟨g1,.inr ⟨b.1,b.2,rfl,rfl⟩⟩
  ·rintro o n a b s' ad k c w2 w3 ⟨⟩
  ·rintro e w' ⟨hb,⟨o,n,a,b,s',ad,k,c,w2,rfl,⟨⟩,hz,hbut⟩ | ⟨a,e',rfl,rfl | ⟨o,n,x,y,s',ad,k,c,w2,⟨⟩,hz,rfl,rfl⟩⟩⟩
   refine ⟨_,Ψ,rfl,hb,fun _ _ h=>h,fun _ _ h=>.inl h,?_⟩
   have:tyP s t = (zeroP,a,e',()):=by
    unfold tyP
    rw [hx]
   rw [this]
   have q:=typ_has _ t htr hx
   exact ⟨_,rfl,_,_,rfl,rvZ,_,_,rfl,rvB q.1 q.2,rfl⟩
end Go.Proofs.YtbjjaaimhleedaaGreatDoor
namespace Go.Proofs.YtbjjaaimhleedaaGreatDoor
open Go.AM Go.PL
attribute [local irreducible] fnwp fnwpP
theorem HC0_sound:jQe HC0:=by
 have h:jQe (mkctx bs [(114,fieldsSp),(113,ixbSp)] [] hintT):=jQi ⟨sat_fields,sat_ixb,trivial⟩ trivial
 obtain ⟨h1,h2,h3,h4,h5,h6,h7,h8,h9,_⟩:=h
 exact ⟨h1,h2,h3,h4,h5,h6,h7,h8,h9,fun g hg=>by
  rw [Nat.eq_of_beq_eq_true hg]
  exact quiet_lex⟩
theorem hb32:HC0.P.bytesOf 107 = 32:=by kernel_rfl
theorem sat_tok:Sat bs.P 68 tokSp:=jQn HC0_sound 8 _ tokSp fun s hok hp=>by
 rcases hp with rfl | rfl
 ·rw [tokA_nf]
  repeat' apply And.intro
  all_goals first | exact trivial | kernel_rfl | exact .inl (by decide +kernel) | exact .inr (by decide +kernel) | omega | (unfold isI64; omega) | (rw [hb32]; omega)
 ·rw [tok4_nf]
  repeat' apply And.intro
  all_goals first | exact trivial | kernel_rfl | exact .inl (by decide +kernel) | exact .inr (by decide +kernel) | omega | (unfold isI64; omega) | (rw [hb32]; omega)
end Go.Proofs.YtbjjaaimhleedaaGreatDoor
namespace Go.Proofs.YtbjjaaimhleedaaGreatDoor
open Go.AM Go.PL
noncomputable def HE0:Ctx:=mkctx bs [(68,tokSp),(132,atoiSp)] [] hintT
theorem valL_nf:fnwp HE0 8 127 valLSp (3,27,[52],()) = (([(52:Int)] = txtL ∨ [(52:Int)] = [(52:Int)]) ∧ ((0:Int) ≤ (0:Int) ∧ (0:Int) < (↑(1:Nat):Int)) ∧ [(52 :
 Int)] = [(52:Int)] ∧ ((4:Int),(0:Int)) = ((4:Int),(0:Int))):=by kernel_rfl
end Go.Proofs.YtbjjaaimhleedaaGreatDoor
namespace Go.Proofs.YtbjjaaimhleedaaGreatDoor
open Go.AM Go.PL
attribute [local irreducible] fnwp fnwpP
theorem HE0_sound:jQe HE0:=jQi ⟨sat_tok,sat_atoi,trivial⟩ trivial
theorem sat_valL:Sat bs.P 127 valLSp:=jQn HE0_sound 8 _ valLSp fun s hok hp=>by
 subst hp
 rw [valL_nf]
 exact ⟨.inr rfl,⟨by omega,by omega⟩,rfl,rfl⟩
end Go.Proofs.YtbjjaaimhleedaaGreatDoor
