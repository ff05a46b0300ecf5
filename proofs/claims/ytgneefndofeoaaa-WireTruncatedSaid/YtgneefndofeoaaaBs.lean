import Derived.Test.YtgneefndofeoaaaProg
import Derived.Test.YtgneefndofeoaaaPl
import Derived.KernelRfl
namespace Go.Proofs.Ytgneefndofeoaaa
open Go.AM Go.PL
set_option linter.unusedVariables false

abbrev I : Ty := .int .i64
abbrev U8 : Ty := .int .u8
abbrev L : Ty := .arr I
abbrev BY : Ty := .arr U8
abbrev DG : Ty := .vec 16 U8

/-- What types' values are as data. -/
def tyB (t : TypeId) : Option Ty :=
  if Nat.beq t 3 then some I else
  if Nat.beq t 5 then some U8 else
  if Nat.beq t 9 then some .str else
  if Nat.beq t 57 then some DG else
  if Nat.beq t 56 then some DG else
  if Nat.beq t 28 then some BY else
  if Nat.beq t 22 then some L else
  none
noncomputable def bs : Base := ⟨Try.prog, tyB, fun t =>
  Nat.beq t 57 ||
  false⟩
end Go.Proofs.Ytgneefndofeoaaa
