import Derived.Test.YtmimchmdikjilaaProg
import Derived.Test.YtmimchmdikjilaaPl
import Derived.KernelRfl
namespace Go.Proofs.Ytmimchmdikjilaa
open Go.AM Go.PL
set_option linter.unusedVariables false

abbrev I : Ty := .int .i64
abbrev U8 : Ty := .int .u8
abbrev L : Ty := .arr I
abbrev BY : Ty := .arr U8
abbrev DG : Ty := .vec 16 U8
abbrev LL : Ty := .arr L
abbrev BX : Ty := .pair L (.pair L .unit)
abbrev LLL : Ty := .arr LL
abbrev BK : Ty := .pair I (.pair L (.pair LLL .unit))
abbrev PT : Ty := .pair I (.pair I (.pair I .unit))
abbrev SH : Ty := .pair I (.pair I .unit)
abbrev SL : Ty := .arr SH
abbrev PC : Ty := .pair (.arr PT) (.pair SL .unit)
abbrev U16 : Ty := .int .u16

/-- What types' values are as data. -/
def tyB (t : TypeId) : Option Ty :=
  if Nat.beq t 3 then some I else
  if Nat.beq t 5 then some U8 else
  if Nat.beq t 9 then some .str else
  if Nat.beq t 88 then some L else
  if Nat.beq t 37 then some PT else
  if Nat.beq t 22 then some (.arr PT) else
  if Nat.beq t 4 then some .bool else
  if Nat.beq t 44 then some SH else
  if Nat.beq t 23 then some SL else
  if Nat.beq t 25 then some PC else
  none
noncomputable def bs : Base := ⟨Try.prog, tyB, fun t =>
  Nat.beq t 25 || Nat.beq t 44 || Nat.beq t 37 || Nat.beq t 3 ||
  Nat.beq t 37 || Nat.beq t 3 || Nat.beq t 88 ||
  false⟩
end Go.Proofs.Ytmimchmdikjilaa
