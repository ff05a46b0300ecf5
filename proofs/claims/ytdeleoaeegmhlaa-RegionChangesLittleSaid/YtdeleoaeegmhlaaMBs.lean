import Derived.Test.YtdeleoaeegmhlaaProg
import Derived.Test.YtdeleoaeegmhlaaMPl
import Derived.KernelRfl
namespace Go.Proofs.Ytdeleoaeegmhlaa
open Go.AM Go.PL
set_option linter.unusedVariables false

abbrev I : Ty := .int .i64
abbrev U8 : Ty := .int .u8
abbrev L : Ty := .arr I
abbrev BY : Ty := .arr U8
abbrev DG : Ty := .vec 16 U8
abbrev LL : Ty := .arr L
abbrev BX : Ty := .pair L (.pair L .unit)
abbrev ST : Ty := .rose (.pair I (.pair I .unit)) (.pair L .unit)
abbrev AR : Ty := .pair BX (.pair L .unit)
abbrev MV : Ty := .pair BX (.pair L (.pair I .unit))
abbrev DV : Ty := .pair I (.pair I (.pair ST .unit))

/-- What types' values are as data. -/
def tyB (t : TypeId) : Option Ty :=
  if Nat.beq t 3 then some I else
  if Nat.beq t 4 then some .bool else
  if Nat.beq t 23 then some L else
  if Nat.beq t 34 then some BX else
  if Nat.beq t 25 then some ST else
  if Nat.beq t 22 then some (.arr ST) else
  if Nat.beq t 36 then some AR else
  if Nat.beq t 31 then some (.arr AR) else
  if Nat.beq t 47 then some MV else
  if Nat.beq t 44 then some (.arr MV) else
  if Nat.beq t 27 then some DV else
  none
noncomputable def bs : Base := ⟨Try.prog, tyB, fun t =>
  Nat.beq t 34 || Nat.beq t 23 || Nat.beq t 25 || Nat.beq t 27 || Nat.beq t 36 || false⟩
end Go.Proofs.Ytdeleoaeegmhlaa
