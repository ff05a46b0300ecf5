import Derived.Test.YtdeleoaeegmhlaaMZc
import Derived.Test.YtdeleoaeegmhlaaMYw
namespace Go.Proofs.Ytdeleoaeegmhlaa
open Go.AM Go.PL
theorem sat_routesAll : Sat Try.prog 6 (lawSp [DV, I, L, L, I]) := routesAll_ok sat_sanity
end Go.Proofs.Ytdeleoaeegmhlaa
