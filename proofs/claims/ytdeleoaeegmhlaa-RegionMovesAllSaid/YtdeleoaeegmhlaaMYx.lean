import Derived.Test.YtdeleoaeegmhlaaMYw
import Derived.Test.YtdeleoaeegmhlaaMYt
namespace Go.Proofs.Ytdeleoaeegmhlaa
open Go.AM Go.PL
theorem sat_covers : Sat Try.prog 3 (lawSp [DV, L]) := covers_ok sat_sanity
theorem sat_movesAll : Sat Try.prog 4 (lawSp [DV, DV, L, I]) := movesAll_ok sat_sanity
end Go.Proofs.Ytdeleoaeegmhlaa
