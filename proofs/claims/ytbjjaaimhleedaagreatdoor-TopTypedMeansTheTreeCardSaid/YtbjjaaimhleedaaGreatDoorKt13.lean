import Derived.Test.YtbjjaaimhleedaaGreatDoorKt12
import Derived.Test.YtbjjaaimhleedaaGreatDoorKt9
import Derived.Test.YtbjjaaimhleedaaGreatDoorKt11
import Derived.Test.YtbjjaaimhleedaaGreatDoorRows
import Derived.WalkKit
import Derived.ProofKit
import Derived.LaidMore
import Derived.OpenShut
import Derived.LaidLaws
import Derived.LaidSub
set_option linter.unusedSimpArgs false
set_option linter.unusedVariables false
namespace Go.PL
open Go.AM
def ligA:List At:=[([99,111,108,111,117,114],2,0,[98,108,117,101],()),([119,101,105,103,104,116],1,3,[],())]
end Go.PL
namespace Go.Proofs.YtbjjaaimhleedaaGreatDoor
open Go.AM Go.PL
def whereSp:FSpec:=⟨[SC,.str],[PR,PB],fun x=>x = (schA,txtL),fun _=>(predA,(0,0,()))⟩
def hldASp:FSpec:=⟨[AL,PR],[.bool],fun x=>x = (ligA,predA) ∨ x = (ligA.drop 1,predA),fun x=>bif Nat.beq (List.length (x.1:List At)) 2 then true else false⟩
def modeHk (f:FuncId) (r:Nat):AM.Mode:=bif Nat.beq f 7 && Nat.beq r 4 then .all else .force
def hintHk (f:FuncId):Hint:=⟨fun _=>[],modeHk f,fun _=>.force,fun _=>200⟩
noncomputable def HK0:Ctx:=mkctx bs [(17,whereSp),(18,fchSp),(23,hldASp)] [] hintHk
theorem awk_nf:fnwp HK0 8 7 awSp () = ((((2:Int),(1:Int),[(bytesOf { data:=#[(99:UInt8),(111:UInt8),(108:UInt8),(111:UInt8),(117:UInt8),(114:UInt8)] },
 (2:Int),(0:Int),(0:Int),[bytesOf { data:=#[(98:UInt8),(108:UInt8),(117:UInt8),(101:UInt8)] },bytesOf { data:=#[(114:UInt8),(101:UInt8),(100 :
 UInt8)] }],()),(bytesOf { data:=#[(119:UInt8),(101:UInt8),(105:UInt8),(103:UInt8),(104:UInt8),(116:UInt8)] },(1:Int),(0:Int),(9:Int),[],())],()),
 bytesOf { data:=#[(99:UInt8),(111:UInt8),(108:UInt8),(111:UInt8),(117:UInt8),(114:UInt8),(32:UInt8),(33:UInt8),(61:UInt8),(32:UInt8),(114 :
 UInt8),(101:UInt8),(100:UInt8),(32:UInt8),(97:UInt8),(110:UInt8),(100:UInt8),(32:UInt8),(119:UInt8),(101:UInt8),(105:UInt8),(103:UInt8),(104 :
 UInt8),(116:UInt8),(32:UInt8),(60:UInt8),(32:UInt8),(52:UInt8)] }) = (schA,txtL) ∧ ((((2:Int),(1:Int),[(bytesOf { data:=#[(99:UInt8),(111:UInt8),
 (108:UInt8),(111:UInt8),(117:UInt8),(114:UInt8)] },(2:Int),(0:Int),(0:Int),[bytesOf { data:=#[(98:UInt8),(108:UInt8),(117:UInt8),(101:UInt8)] },
 bytesOf { data:=#[(114:UInt8),(101:UInt8),(100:UInt8)] }],()),(bytesOf { data:=#[(119:UInt8),(101:UInt8),(105:UInt8),(103:UInt8),(104:UInt8),(116 :
 UInt8)] },(1:Int),(0:Int),(9:Int),[],())],()),predA) = (schA,predA) ∧ ((([(bytesOf { data:=#[(99:UInt8),(111:UInt8),(108:UInt8),(111:UInt8),(117 :
 UInt8),(114:UInt8)] },(2:Int),(0:Int),bytesOf { data:=#[(98:UInt8),(108:UInt8),(117:UInt8),(101:UInt8)] },()),(bytesOf { data:=#[(119:UInt8),(101 :
 UInt8),(105:UInt8),(103:UInt8),(104:UInt8),(116:UInt8)] },(1:Int),(3:Int),bytesOf { data:=#[] },())],predA) = (ligA,predA) ∨ ([(bytesOf { data:=#[(99 :
 UInt8),(111:UInt8),(108:UInt8),(111:UInt8),(117:UInt8),(114:UInt8)] },(2:Int),(0:Int),bytesOf { data:=#[(98:UInt8),(108:UInt8),(117:UInt8),(101 :
 UInt8)] },()),(bytesOf { data:=#[(119:UInt8),(101:UInt8),(105:UInt8),(103:UInt8),(104:UInt8),(116:UInt8)] },(1:Int),(3:Int),bytesOf { data:=#[] },
 ())],predA) = (List.drop (1:Nat) ligA,predA)) ∧ (((0:Int) ≤ (1:Int) ∧ (1:Int) ≤ (2:Int)) ∧ ((List.take (1:Nat) (List.drop (1:Nat) [(bytesOf { data:=#[(99 :
 UInt8),(111:UInt8),(108:UInt8),(111:UInt8),(117:UInt8),(114:UInt8)] },(2:Int),(0:Int),bytesOf { data:=#[(98:UInt8),(108:UInt8),(117:UInt8),(101 :
 UInt8)] },()),(bytesOf { data:=#[(119:UInt8),(101:UInt8),(105:UInt8),(103:UInt8),(104:UInt8),(116:UInt8)] },(1:Int),(3:Int),bytesOf { data:=#[] },
 ())]),predA) = (ligA,predA) ∨ (List.take (1:Nat) (List.drop (1:Nat) [(bytesOf { data:=#[(99:UInt8),(111:UInt8),(108:UInt8),(111:UInt8),(117:UInt8),(114 :
 UInt8)] },(2:Int),(0:Int),bytesOf { data:=#[(98:UInt8),(108:UInt8),(117:UInt8),(101:UInt8)] },()),(bytesOf { data:=#[(119:UInt8),(101:UInt8),(105 :
 UInt8),(103:UInt8),(104:UInt8),(116:UInt8)] },(1:Int),(3:Int),bytesOf { data:=#[] },())]),predA) = (List.drop (1:Nat) ligA,predA)) ∧ true = true) ∧ (((0 :
 Int) ≤ (1:Int) ∧ (1:Int) ≤ (2:Int)) ∧ ((List.take (1:Nat) (List.drop (1:Nat) [(bytesOf { data:=#[(99:UInt8),(111:UInt8),(108:UInt8),(111:UInt8),(117 :
 UInt8),(114:UInt8)] },(2:Int),(0:Int),bytesOf { data:=#[(98:UInt8),(108:UInt8),(117:UInt8),(101:UInt8)] },()),(bytesOf { data:=#[(119:UInt8),(101 :
 UInt8),(105:UInt8),(103:UInt8),(104:UInt8),(116:UInt8)] },(1:Int),(3:Int),bytesOf { data:=#[] },())]),predA) = (ligA,predA) ∨ (List.take (1:Nat)
 (List.drop (1:Nat) [(bytesOf { data:=#[(99:UInt8),(111:UInt8),(108:UInt8),(111:UInt8),(117:UInt8),(114:UInt8)] },(2:Int),(0:Int),bytesOf { data :=
 #[(98:UInt8),(108:UInt8),(117:UInt8),(101:UInt8)] },()),(bytesOf { data:=#[(119:UInt8),(101:UInt8),(105:UInt8),(103:UInt8),(104:UInt8),(116 :
 UInt8)] },(1:Int),(3:Int),bytesOf { data:=#[] },())]),predA) = (List.drop (1:Nat) ligA,predA)) ∧ true = true) ∧ ((0:Int) ≤ (1:Int) ∧ (1:Int) ≤ (2:Int)) ∧
 ((List.take (1:Nat) (List.drop (1:Nat) [(bytesOf { data:=#[(99:UInt8),(111:UInt8),(108:UInt8),(111:UInt8),(117:UInt8),(114:UInt8)] },(2:Int),(0:Int),
 bytesOf { data:=#[(98:UInt8),(108:UInt8),(117:UInt8),(101:UInt8)] },()),(bytesOf { data:=#[(119:UInt8),(101:UInt8),(105:UInt8),(103:UInt8),(104 :
 UInt8),(116:UInt8)] },(1:Int),(3:Int),bytesOf { data:=#[] },())]),predA) = (ligA,predA) ∨ (List.take (1:Nat) (List.drop (1:Nat) [(bytesOf { data:=#[(99 :
 UInt8),(111:UInt8),(108:UInt8),(111:UInt8),(117:UInt8),(114:UInt8)] },(2:Int),(0:Int),bytesOf { data:=#[(98:UInt8),(108:UInt8),(117:UInt8),(101 :
 UInt8)] },()),(bytesOf { data:=#[(119:UInt8),(101:UInt8),(105:UInt8),(103:UInt8),(104:UInt8),(116:UInt8)] },(1:Int),(3:Int),bytesOf { data:=#[] },
 ())]),predA) = (List.drop (1:Nat) ligA,predA)) ∧ true = true) ∧ (([(bytesOf { data:=#[(99:UInt8),(111:UInt8),(108:UInt8),(111:UInt8),(117:UInt8),(114 :
 UInt8)] },(2:Int),(0:Int),bytesOf { data:=#[(98:UInt8),(108:UInt8),(117:UInt8),(101:UInt8)] },()),(bytesOf { data:=#[(119:UInt8),(101:UInt8),(105 :
 UInt8),(103:UInt8),(104:UInt8),(116:UInt8)] },(1:Int),(3:Int),bytesOf { data:=#[] },())],predA) = (ligA,predA) ∨ ([(bytesOf { data:=#[(99:UInt8),(111 :
 UInt8),(108:UInt8),(111:UInt8),(117:UInt8),(114:UInt8)] },(2:Int),(0:Int),bytesOf { data:=#[(98:UInt8),(108:UInt8),(117:UInt8),(101:UInt8)] },
 ()),(bytesOf { data:=#[(119:UInt8),(101:UInt8),(105:UInt8),(103:UInt8),(104:UInt8),(116:UInt8)] },(1:Int),(3:Int),bytesOf { data:=#[] },())],predA)
 = (List.drop (1:Nat) ligA,predA)) ∧ (((0:Int) ≤ (1:Int) ∧ (1:Int) ≤ (2:Int)) ∧ ((List.take (1:Nat) (List.drop (1:Nat) [(bytesOf { data:=#[(99:UInt8),(111 :
 UInt8),(108:UInt8),(111:UInt8),(117:UInt8),(114:UInt8)] },(2:Int),(0:Int),bytesOf { data:=#[(98:UInt8),(108:UInt8),(117:UInt8),(101:UInt8)] },
 ()),(bytesOf { data:=#[(119:UInt8),(101:UInt8),(105:UInt8),(103:UInt8),(104:UInt8),(116:UInt8)] },(1:Int),(3:Int),bytesOf { data:=#[] },())]),
 predA) = (ligA,predA) ∨ (List.take (1:Nat) (List.drop (1:Nat) [(bytesOf { data:=#[(99:UInt8),(111:UInt8),(108:UInt8),(111:UInt8),(117:UInt8),(114:UInt8)]
 },(2:Int),(0:Int),bytesOf { data:=#[(98:UInt8),(108:UInt8),(117:UInt8),(101:UInt8)] },()),(bytesOf { data:=#[(119:UInt8),(101:UInt8),(105:UInt8),
 (103:UInt8),(104:UInt8),(116:UInt8)] },(1:Int),(3:Int),bytesOf { data:=#[] },())]),predA) = (List.drop (1:Nat) ligA,predA)) ∧ true = true) ∧ (((0:Int) ≤
 (1:Int) ∧ (1:Int) ≤ (2:Int)) ∧ ((List.take (1:Nat) (List.drop (1:Nat) [(bytesOf { data:=#[(99:UInt8),(111:UInt8),(108:UInt8),(111:UInt8),(117:UInt8),
 (114:UInt8)] },(2:Int),(0:Int),bytesOf { data:=#[(98:UInt8),(108:UInt8),(117:UInt8),(101:UInt8)] },()),(bytesOf { data:=#[(119:UInt8),(101:UInt8),
 (105:UInt8),(103:UInt8),(104:UInt8),(116:UInt8)] },(1:Int),(3:Int),bytesOf { data:=#[] },())]),predA) = (ligA,predA) ∨ (List.take (1:Nat) (List.drop (1 :
 Nat) [(bytesOf { data:=#[(99:UInt8),(111:UInt8),(108:UInt8),(111:UInt8),(117:UInt8),(114:UInt8)] },(2:Int),(0:Int),bytesOf { data:=#[(98:UInt8),
 (108:UInt8),(117:UInt8),(101:UInt8)] },()),(bytesOf { data:=#[(119:UInt8),(101:UInt8),(105:UInt8),(103:UInt8),(104:UInt8),(116:UInt8)] },(1:Int),
 (3:Int),bytesOf { data:=#[] },())]),predA) = (List.drop (1:Nat) ligA,predA)) ∧ true = true) ∧ ((0:Int) ≤ (1:Int) ∧ (1:Int) ≤ (2:Int)) ∧ ((List.take (1:Nat)
 (List.drop (1:Nat) [(bytesOf { data:=#[(99:UInt8),(111:UInt8),(108:UInt8),(111:UInt8),(117:UInt8),(114:UInt8)] },(2:Int),(0:Int),bytesOf { data :=
 #[(98:UInt8),(108:UInt8),(117:UInt8),(101:UInt8)] },()),(bytesOf { data:=#[(119:UInt8),(101:UInt8),(105:UInt8),(103:UInt8),(104:UInt8),(116 :
 UInt8)] },(1:Int),(3:Int),bytesOf { data:=#[] },())]),predA) = (ligA,predA) ∨ (List.take (1:Nat) (List.drop (1:Nat) [(bytesOf { data:=#[(99:UInt8),(111 :
 UInt8),(108:UInt8),(111:UInt8),(117:UInt8),(114:UInt8)] },(2:Int),(0:Int),bytesOf { data:=#[(98:UInt8),(108:UInt8),(117:UInt8),(101:UInt8)] },
 ()),(bytesOf { data:=#[(119:UInt8),(101:UInt8),(105:UInt8),(103:UInt8),(104:UInt8),(116:UInt8)] },(1:Int),(3:Int),bytesOf { data:=#[] },())]),
 predA) = (List.drop (1:Nat) ligA,predA)) ∧ true = true) ∧ (((2:Int),(1:Int),[(bytesOf { data:=#[(99:UInt8),(111:UInt8),(108:UInt8),(111:UInt8),(117 :
 UInt8),(114:UInt8)] },(2:Int),(0:Int),(0:Int),[bytesOf { data:=#[(98:UInt8),(108:UInt8),(117:UInt8),(101:UInt8)] },bytesOf { data:=#[(114:UInt8),
 (101:UInt8),(100:UInt8)] }],()),(bytesOf { data:=#[(119:UInt8),(101:UInt8),(105:UInt8),(103:UInt8),(104:UInt8),(116:UInt8)] },(1:Int),(0:Int),(9
 : Int),[],())],()),predA) = (schA,predA) ∧ ((([(bytesOf { data:=#[(99:UInt8),(111:UInt8),(108:UInt8),(111:UInt8),(117:UInt8),(114:UInt8)] },(2:Int),(0
 : Int),bytesOf { data:=#[(98:UInt8),(108:UInt8),(117:UInt8),(101:UInt8)] },()),(bytesOf { data:=#[(119:UInt8),(101:UInt8),(105:UInt8),(103:UInt8),
 (104:UInt8),(116:UInt8)] },(1:Int),(3:Int),bytesOf { data:=#[] },())],predA) = (ligA,predA) ∨ ([(bytesOf { data:=#[(99:UInt8),(111:UInt8),(108:UInt8),
 (111:UInt8),(117:UInt8),(114:UInt8)] },(2:Int),(0:Int),bytesOf { data:=#[(98:UInt8),(108:UInt8),(117:UInt8),(101:UInt8)] },()),(bytesOf { data :=
 #[(119:UInt8),(101:UInt8),(105:UInt8),(103:UInt8),(104:UInt8),(116:UInt8)] },(1:Int),(3:Int),bytesOf { data:=#[] },())],predA) = (List.drop (1:Nat)
 ligA,predA)) ∧ (((0:Int) ≤ (1:Int) ∧ (1:Int) ≤ (2:Int)) ∧ ((List.take (1:Nat) (List.drop (1:Nat) [(bytesOf { data:=#[(99:UInt8),(111:UInt8),(108:UInt8),
 (111:UInt8),(117:UInt8),(114:UInt8)] },(2:Int),(0:Int),bytesOf { data:=#[(98:UInt8),(108:UInt8),(117:UInt8),(101:UInt8)] },()),(bytesOf { data :=
 #[(119:UInt8),(101:UInt8),(105:UInt8),(103:UInt8),(104:UInt8),(116:UInt8)] },(1:Int),(3:Int),bytesOf { data:=#[] },())]),predA) = (ligA,predA) ∨
 (List.take (1:Nat) (List.drop (1:Nat) [(bytesOf { data:=#[(99:UInt8),(111:UInt8),(108:UInt8),(111:UInt8),(117:UInt8),(114:UInt8)] },(2:Int),(0:Int),
 bytesOf { data:=#[(98:UInt8),(108:UInt8),(117:UInt8),(101:UInt8)] },()),(bytesOf { data:=#[(119:UInt8),(101:UInt8),(105:UInt8),(103:UInt8),(104 :
 UInt8),(116:UInt8)] },(1:Int),(3:Int),bytesOf { data:=#[] },())]),predA) = (List.drop (1:Nat) ligA,predA)) ∧ true = true) ∧ (((0:Int) ≤ (1:Int) ∧ (1:Int) ≤
 (2:Int)) ∧ ((List.take (1:Nat) (List.drop (1:Nat) [(bytesOf { data:=#[(99:UInt8),(111:UInt8),(108:UInt8),(111:UInt8),(117:UInt8),(114:UInt8)] },(2 :
 Int),(0:Int),bytesOf { data:=#[(98:UInt8),(108:UInt8),(117:UInt8),(101:UInt8)] },()),(bytesOf { data:=#[(119:UInt8),(101:UInt8),(105:UInt8),(103 :
 UInt8),(104:UInt8),(116:UInt8)] },(1:Int),(3:Int),bytesOf { data:=#[] },())]),predA) = (ligA,predA) ∨ (List.take (1:Nat) (List.drop (1:Nat) [(bytesOf { data
 := #[(99:UInt8),(111:UInt8),(108:UInt8),(111:UInt8),(117:UInt8),(114:UInt8)] },(2:Int),(0:Int),bytesOf { data:=#[(98:UInt8),(108:UInt8),(117 :
 UInt8),(101:UInt8)] },()),(bytesOf { data:=#[(119:UInt8),(101:UInt8),(105:UInt8),(103:UInt8),(104:UInt8),(116:UInt8)] },(1:Int),(3:Int),bytesOf {
 data:=#[] },())]),predA) = (List.drop (1:Nat) ligA,predA)) ∧ true = true) ∧ ((0:Int) ≤ (1:Int) ∧ (1:Int) ≤ (2:Int)) ∧ ((List.take (1:Nat) (List.drop (1:Nat)
 [(bytesOf { data:=#[(99:UInt8),(111:UInt8),(108:UInt8),(111:UInt8),(117:UInt8),(114:UInt8)] },(2:Int),(0:Int),bytesOf { data:=#[(98:UInt8),(108 :
 UInt8),(117:UInt8),(101:UInt8)] },()),(bytesOf { data:=#[(119:UInt8),(101:UInt8),(105:UInt8),(103:UInt8),(104:UInt8),(116:UInt8)] },(1:Int),(3 :
 Int),bytesOf { data:=#[] },())]),predA) = (ligA,predA) ∨ (List.take (1:Nat) (List.drop (1:Nat) [(bytesOf { data:=#[(99:UInt8),(111:UInt8),(108:UInt8),(111 :
 UInt8),(117:UInt8),(114:UInt8)] },(2:Int),(0:Int),bytesOf { data:=#[(98:UInt8),(108:UInt8),(117:UInt8),(101:UInt8)] },()),(bytesOf { data:=#[(119 :
 UInt8),(101:UInt8),(105:UInt8),(103:UInt8),(104:UInt8),(116:UInt8)] },(1:Int),(3:Int),bytesOf { data:=#[] },())]),predA) = (List.drop (1:Nat) ligA,
 predA)) ∧ true = true) ∧ (([(bytesOf { data:=#[(99:UInt8),(111:UInt8),(108:UInt8),(111:UInt8),(117:UInt8),(114:UInt8)] },(2:Int),(0:Int),bytesOf { data
 := #[(98:UInt8),(108:UInt8),(117:UInt8),(101:UInt8)] },()),(bytesOf { data:=#[(119:UInt8),(101:UInt8),(105:UInt8),(103:UInt8),(104:UInt8),(116 :
 UInt8)] },(1:Int),(3:Int),bytesOf { data:=#[] },())],predA) = (ligA,predA) ∨ ([(bytesOf { data:=#[(99:UInt8),(111:UInt8),(108:UInt8),(111:UInt8),(117 :
 UInt8),(114:UInt8)] },(2:Int),(0:Int),bytesOf { data:=#[(98:UInt8),(108:UInt8),(117:UInt8),(101:UInt8)] },()),(bytesOf { data:=#[(119:UInt8),(101 :
 UInt8),(105:UInt8),(103:UInt8),(104:UInt8),(116:UInt8)] },(1:Int),(3:Int),bytesOf { data:=#[] },())],predA) = (List.drop (1:Nat) ligA,predA)) ∧ (((0 :
 Int) ≤ (1:Int) ∧ (1:Int) ≤ (2:Int)) ∧ ((List.take (1:Nat) (List.drop (1:Nat) [(bytesOf { data:=#[(99:UInt8),(111:UInt8),(108:UInt8),(111:UInt8),(117 :
 UInt8),(114:UInt8)] },(2:Int),(0:Int),bytesOf { data:=#[(98:UInt8),(108:UInt8),(117:UInt8),(101:UInt8)] },()),(bytesOf { data:=#[(119:UInt8),(101 :
 UInt8),(105:UInt8),(103:UInt8),(104:UInt8),(116:UInt8)] },(1:Int),(3:Int),bytesOf { data:=#[] },())]),predA) = (ligA,predA) ∨ (List.take (1:Nat)
 (List.drop (1:Nat) [(bytesOf { data:=#[(99:UInt8),(111:UInt8),(108:UInt8),(111:UInt8),(117:UInt8),(114:UInt8)] },(2:Int),(0:Int),bytesOf { data :=
 #[(98:UInt8),(108:UInt8),(117:UInt8),(101:UInt8)] },()),(bytesOf { data:=#[(119:UInt8),(101:UInt8),(105:UInt8),(103:UInt8),(104:UInt8),(116 :
 UInt8)] },(1:Int),(3:Int),bytesOf { data:=#[] },())]),predA) = (List.drop (1:Nat) ligA,predA)) ∧ true = true) ∧ (((0:Int) ≤ (1:Int) ∧ (1:Int) ≤ (2:Int)) ∧
 ((List.take (1:Nat) (List.drop (1:Nat) [(bytesOf { data:=#[(99:UInt8),(111:UInt8),(108:UInt8),(111:UInt8),(117:UInt8),(114:UInt8)] },(2:Int),(0:Int),
 bytesOf { data:=#[(98:UInt8),(108:UInt8),(117:UInt8),(101:UInt8)] },()),(bytesOf { data:=#[(119:UInt8),(101:UInt8),(105:UInt8),(103:UInt8),(104 :
 UInt8),(116:UInt8)] },(1:Int),(3:Int),bytesOf { data:=#[] },())]),predA) = (ligA,predA) ∨ (List.take (1:Nat) (List.drop (1:Nat) [(bytesOf { data:=#[(99 :
 UInt8),(111:UInt8),(108:UInt8),(111:UInt8),(117:UInt8),(114:UInt8)] },(2:Int),(0:Int),bytesOf { data:=#[(98:UInt8),(108:UInt8),(117:UInt8),(101 :
 UInt8)] },()),(bytesOf { data:=#[(119:UInt8),(101:UInt8),(105:UInt8),(103:UInt8),(104:UInt8),(116:UInt8)] },(1:Int),(3:Int),bytesOf { data:=#[] },
 ())]),predA) = (List.drop (1:Nat) ligA,predA)) ∧ true = true) ∧ ((0:Int) ≤ (1:Int) ∧ (1:Int) ≤ (2:Int)) ∧ ((List.take (1:Nat) (List.drop (1:Nat) [(bytesOf { data
 := #[(99:UInt8),(111:UInt8),(108:UInt8),(111:UInt8),(117:UInt8),(114:UInt8)] },(2:Int),(0:Int),bytesOf { data:=#[(98:UInt8),(108:UInt8),(117 :
 UInt8),(101:UInt8)] },()),(bytesOf { data:=#[(119:UInt8),(101:UInt8),(105:UInt8),(103:UInt8),(104:UInt8),(116:UInt8)] },(1:Int),(3:Int),bytesOf {
 data:=#[] },())]),predA) = (ligA,predA) ∨ (List.take (1:Nat) (List.drop (1:Nat) [(bytesOf { data:=#[(99:UInt8),(111:UInt8),(108:UInt8),(111:UInt8),(117 :
 UInt8),(114:UInt8)] },(2:Int),(0:Int),bytesOf { data:=#[(98:UInt8),(108:UInt8),(117:UInt8),(101:UInt8)] },()),(bytesOf { data:=#[(119:UInt8),(101 :
 UInt8),(105:UInt8),(103:UInt8),(104:UInt8),(116:UInt8)] },(1:Int),(3:Int),bytesOf { data:=#[] },())]),predA) = (List.drop (1:Nat) ligA,predA)) ∧ true =
 true):=by kernel_rfl
end Go.Proofs.YtbjjaaimhleedaaGreatDoor
namespace Go.Proofs.YtbjjaaimhleedaaGreatDoor
open Go.AM Go.PL
noncomputable def HI0:Ctx:=mkctx bs [(30,condSp),(8,tySp)] [] hintHt
theorem tyA:tyP schA treeA = (predA,0,0,()):=by kernel_rfl
theorem where_nf:fnwp HI0 8 17 whereSp (schA,txtL) = (txtL = txtL ∧ (wellN (3:Nat) treeA ∧ smallN (3:Nat) treeA) ∧ ((tyP schA treeA).fst,(tyP schA treeA).snd) = (predA,(0
 : Int),(0:Int),())):=by kernel_rfl
end Go.Proofs.YtbjjaaimhleedaaGreatDoor
namespace Go.Proofs.YtbjjaaimhleedaaGreatDoor
open Go.AM Go.PL
attribute [local irreducible] fnwp fnwpP
theorem means {s:Sc} {t:Tr} {l:List At} (h1:chkS s = 0) (h2:fitsS s l = 0) (h3:∀ a ∈ l,minI ≤ a.2.2.1 ∧ a.2.2.1 ≤ maxI) (hw:wellN (dep t) t) (h:(tyP s t).2.2.1 = 0):(jQf (dep (tyP s t).1) (tyP s t).1 l == fulN (dep t) t l) = true:=by
 unfold tyP at h ⊢
 split at h
 ·rename_i p hp
  by_cases c:64 < pszN (dep p) p
  ·rw [if_pos c] at h
   cases h
  ·rw [if_neg c]
   have e:=typed_means (fit_of h1 h2 h3) (dep t) hw hp (m:=dep t + 3 + dep p) (by omega)
   have e2:=holds_fuel l (dep p) (dep t + 3 + dep p) p (Nat.le_refl _) (by omega)
   dsimp only
   rw [e2,e]
   exact beq_self_eq_true _
 ·rename_i b hb
  exact absurd h (typ_ne _ _ hb)
theorem al_ok {l:List At} (h:okd AL l):∀ a ∈ l,minI ≤ a.2.2.1 ∧ a.2.2.1 ≤ maxI:=fun a ha=>by
 have:=jXr.1 (h.2 a ha).2.2.1
 unfold isI64 at this
 unfold minI maxI
 omega
theorem GK0_sound (haw:Sat bs.P 7 awSp):jQe GK0:=jQi ⟨sat_fewD,sat_rChk,sat_rFits,sat_szD,sat_frmD,sat_fulD,sat_hldD,sat_type,haw,trivial⟩ trivial
theorem law_sat (haw:Sat bs.P 7 awSp):Sat bs.P 3 lawTSp:=jQn (GK0_sound haw) 8 _ lawTSp fun (⟨⟨d,m,dl,⟨⟩⟩,.node ⟨⟨op,pos,nm,ar,⟨⟩⟩,⟨⟩⟩ sb,l⟩:Sc × Tr × List At) hok _=>by
 have hl:=al_ok hok.2.2
 rw [lawT_nf]
 simp only [pr_eta]
 refine ⟨trivial,fun c1=>⟨trivial,fun _=>⟨trivial,by first | trivial | rfl⟩,fun c2=>⟨trivial,fun _=>⟨trivial,by first | trivial | rfl⟩,fun c3=>⟨by omega,fun _=>⟨trivial,by first | trivial | rfl⟩,fun c4=>⟨fun _=>⟨trivial,by first | trivial | rfl⟩,fun c5=>?_⟩⟩⟩⟩,fun _=>⟨trivial,by first | trivial | rfl⟩⟩
 have k2:chkS (d,m,dl,()) = 0:=ndf c2
 have k4:frmN (dep (Rose.node ((op,pos,nm,ar,()),()) sb:Tr)) (Rose.node ((op,pos,nm,ar,()),()) sb) 1 = true:=by revert c4; cases frmN (dep (Rose.node ((op,pos,nm,ar,()),()) sb:Tr)) (Rose.node ((op,pos,nm,ar,()),()) sb) 1 <;> simp
 have hw:=frm_well _ k4
 refine ⟨names_ok k2,fun _=>⟨trivial,by first | trivial | rfl⟩,fun c6=>⟨⟨hw,(sz_small _ (most:=200) k4 (by omega) (by omega)).2 (by have:=df c3; omega)⟩,fun _=>⟨trivial,by first | trivial | rfl⟩,fun c7=>⟨trivial,?_⟩⟩⟩
 have he:=means k2 (ndf c6) hl hw (ndf c7)
 repeat' (first | exact trivial | exact hw | exact he | (intro hx; cases hx; done) | (intro _) | apply And.intro)
end Go.Proofs.YtbjjaaimhleedaaGreatDoor
namespace Go.Proofs.YtbjjaaimhleedaaGreatDoor
open Go.AM Go.PL
attribute [local irreducible] fnwp fnwpP
theorem HT0_sound:jQe HT0:=jQi trivial trivial
theorem sat_fch:Sat bs.P 18 fchSp:=jQn HT0_sound 20 _ fchSp fun x hok hp=>by
 subst hp
 rw [fch_nf]
 repeat' apply And.intro
 all_goals first | exact trivial | kernel_rfl | omega | (unfold isI64; omega)
theorem frmA:frmN 3 treeA 1 = true:=by kernel_rfl
theorem sat_where (hc:Sat bs.P 30 condSp):Sat bs.P 17 whereSp:=jQn (C:=HI0) (jQi ⟨hc,sat_type,trivial⟩ trivial) 8 _ whereSp fun x hok hp=>by
 subst hp
 rw [where_nf]
 refine ⟨rfl,⟨frm_well 3 frmA,(sz_small 3 (most:=200) frmA (by omega) (by omega)).2 ?_⟩,tyA⟩
 have:szN 3 treeA 200 = 5:=by kernel_rfl
 omega
theorem sat_hldA:Sat bs.P 23 hldASp:=fun Ψ w x args hprom hgl hrel hp=>by
 have h:=sat_hldD Ψ w x args hprom hgl hrel trivial
 have e:hldASp.post x = hldDSp.post x:=by
  rcases hp with rfl | rfl
  ·kernel_rfl
  ·kernel_rfl
 rw [e]
 exact h
theorem pairA {a b:List At} {p:PL.Pr} (h:a = b):(a,p) = (b,p):=by rw [h]
theorem sat_awH (hc:Sat bs.P 30 condSp):Sat bs.P 7 awSp:=jQn (C:=HK0) (jQi ⟨sat_where hc,sat_fch,sat_hldA,trivial⟩ trivial) 8 _ awSp fun x hok hp=>by
 obtain ⟨⟩:=x
 rw [awk_nf]
 repeat' apply And.intro
 all_goals first | exact trivial | kernel_rfl | exact .inl (pairA (by decide +kernel)) | exact .inr (pairA (by decide +kernel)) | omega
end Go.Proofs.YtbjjaaimhleedaaGreatDoor
namespace Go.Proofs.YtbjjaaimhleedaaGreatDoor
open Go.AM Go.PL
attribute [local irreducible] fnwp fnwpP
theorem HF0_sound:jQe HF0:=by
 have h:jQe (mkctx bs [(68,tokSp),(127,valLSp)] [] hintHf):=jQi ⟨sat_tok,sat_valL,trivial⟩ trivial
 obtain ⟨h1,h2,h3,h4,h5,h6,h7,h8,h9,_⟩:=h
 exact ⟨h1,h2,h3,h4,h5,h6,h7,h8,h9,fun g hg=>by
  rw [Nat.eq_of_beq_eq_true hg]
  exact quiet_read⟩
theorem hbT:HF0.P.bytesOf 28 = 80:=by kernel_rfl
theorem sat_cond:Sat bs.P 30 condSp:=jQn HF0_sound 30 _ condSp fun s hok hp=>by
 subst hp
 rw [cond_nf]
 repeat' apply And.intro
 all_goals first | exact trivial | kernel_rfl | exact .inl rfl | omega | (unfold isI64; omega) | (rw [hbT]; omega)
theorem sat_lawT:Sat bs.P 3 lawTSp:=law_sat (sat_awH sat_cond)
end Go.Proofs.YtbjjaaimhleedaaGreatDoor
namespace Go.Proofs.YtbjjaaimhleedaaGreatDoor
open Go.ChangeShapes Go.WideShapes Go.ChangeAt Go.RowKit Go.AM
abbrev laidC:List (String × DataW Unit):=[("math/bits.deBruijn32tab",Rows.laid_math_bits_deBruijn32tab),("math/bits.deBruijn64tab",Rows.laid_math_bits_deBruijn64tab),("internal/strconv.uint64pow10",Rows.laid_internal_strconv_uint64pow10),("strconv.ErrRange",Rows.laid_strconv_ErrRange),("strconv.ErrSyntax",Rows.laid_strconv_ErrSyntax),("unicode.White_Space",Rows.laid_unicode_White_Space),("strings.asciiSpace",Rows.laid_strings_asciiSpace)]
abbrev laidD:List (String × DataW Unit):=[("strings.asciiSpace",Rows.laid_strings_asciiSpace)]
theorem gcX:(Tryz.prog.globalNamed "antiquary/hash.constants").isNone = true:=by kernel_rfl
theorem gcN:Tryz.prog.globalNamed "strings.asciiSpace" = some 0:=by kernel_rfl
theorem gcT:(Tryz.prog.globals[0]?).map (·.type) = some 155:=by kernel_rfl
theorem gcW:Rows.laid_strings_asciiSpace (H:=Unit) = .agg (wsL.map fun n=>.lit (.int .u8 n)):=by kernel_rfl
theorem gcC:Tryz.prog.cellsOf 5 = 1:=by kernel_rfl
theorem laidF:(laidC.filter fun x=>x.1 == "strings.asciiSpace") = laidD:=by kernel_rfl
theorem gl_laid {W:World} (h:laidMetH Tryz.prog laidC W):Gl Tryz.prog (jZc W):=by
 have h:=h.filter fun x=>x.1 == "strings.asciiSpace"
 rw [laidF] at h
 rw [MakeChecks.laidMetH_plain _ _ _ (by kernel_rfl)] at h
 obtain ⟨ps,⟨g0,t0,cs0,f0,p0,q0,hg0,ht0,hv0,hd0,_,_⟩,_,_⟩:=h
 obtain rfl:=Option.some.inj (gcN.symm.trans hg0)
 obtain rfl:=Option.some.inj (gcT.symm.trans ht0)
 obtain ⟨xs,m,rfl,hx,hlen,hn,hel⟩:=DataW.trod_array Tryz.underlying155 hd0
 rw [gcW] at hx
 simp only [Prod.mk.injEq,DataW.agg.injEq] at hx
 refine ⟨fun g hg=>?_,?_⟩
 ·unfold gIs at hg
  have:=gcX
  rw [beq_iff_eq.1 hg] at this
  cases this
 intro g hg j n hj
 have hg:Tryz.prog.globalNamed "strings.asciiSpace" = some g:=by
  unfold wsIs at hg
  exact beq_iff_eq.1 hg
 obtain rfl:=Option.some.inj (gcN.symm.trans hg)
 have hj64:j < 256:=by
  have:=(List.getElem?_eq_some_iff.1 hj).1
  have e:wsL.length = 256:=by kernel_rfl
  omega
 show W.cell? ⟨0,j,none⟩ = some (.int .u8 n)
 rw [World.var?_cell gcN hv0 j]
 have h0:=hel j hj64
 rw [gcC,Nat.mul_one] at h0
 have hxj:xs[j]? = some (xs[j]'(by omega)):=List.getElem?_eq_getElem (by omega)
 rw [hxj] at h0
 obtain ⟨k,e1,e2,_⟩:=DataW.trod_int Tryz.underlying5 h0
 have h1:=congrArg (fun z=>z[j]?) hx.1
 simp only [List.getElem?_map,hj,hxj,Option.map_some,Option.some.injEq] at h1
 rw [e2] at h1
 simp only [DataW.lit.injEq,Lit.int.injEq,true_and] at h1
 subst h1
 have h2:=congrArg (fun z=>z[0]?) e1
 simpa using h2
theorem door_met (os:Os) (args:Array Value):laidMetH Tryz.prog laidC ((World.doorLaid Tryz.prog 4000 os).forCall (fun _ _=>0) ⟨#[],args,[]⟩).memory:=by
 rw [MakeChecks.laidMetH_plain _ _ _ (by kernel_rfl)]
 exact laidMet_of_run' 8 (by kernel_rfl) (by kernel_rfl)
end Go.Proofs.YtbjjaaimhleedaaGreatDoor
