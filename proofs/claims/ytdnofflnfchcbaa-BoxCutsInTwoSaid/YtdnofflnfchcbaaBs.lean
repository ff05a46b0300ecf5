import Derived.Test.YtdnofflnfchcbaaProg
import Derived.Test.YtdnofflnfchcbaaPl
import Derived.KernelRfl
namespace Go.Proofs.Ytdnofflnfchcbaa
open Go.AM Go.PL
set_option linter.unusedVariables false

abbrev I : Ty := .int .i64
abbrev U8 : Ty := .int .u8
abbrev L : Ty := .arr I
abbrev BY : Ty := .arr U8
abbrev DG : Ty := .vec 16 U8
abbrev LL : Ty := .arr L
abbrev BX : Ty := .pair L (.pair L .unit)

/-- What types' values are as data. -/
def tyB (t : TypeId) : Option Ty :=
  if Nat.beq t 3 then some I else
  if Nat.beq t 5 then some U8 else
  if Nat.beq t 9 then some .str else
  if Nat.beq t 22 then some L else
  if Nat.beq t 59 then some LL else
  if Nat.beq t 24 then some BX else
  none
noncomputable def bs : Base := ⟨Try.prog, tyB, fun t =>
  Nat.beq t 24 || Nat.beq t 22 || Nat.beq t 59 ||
  false⟩
end Go.Proofs.Ytdnofflnfchcbaa
