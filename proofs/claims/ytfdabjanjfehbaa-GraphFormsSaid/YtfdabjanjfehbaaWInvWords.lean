/- Words of the walks, of what this seat's texts name. Written by a program for this claim. -/
import Derived.Test.YtfdabjanjfehbaaWInv
import Derived.Test.YtfdabjanjfehbaaWFootNe
namespace Go.Proofs.YtfdabjanjfehbaaW.PrintWords
open Go.RowKit
end Go.Proofs.YtfdabjanjfehbaaW.PrintWords
namespace Go.Proofs.YtfdabjanjfehbaaW.PrintLast
end Go.Proofs.YtfdabjanjfehbaaW.PrintLast
