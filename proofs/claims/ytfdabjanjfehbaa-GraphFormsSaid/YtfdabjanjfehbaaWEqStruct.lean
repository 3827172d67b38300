/- Words of the walks, of what this seat's texts name. Written by a program for this claim. -/
import Derived.Test.YtfdabjanjfehbaaWWords
import Derived.Laws.StructEq
namespace Go.Proofs.YtfdabjanjfehbaaW.PrintWords
open Go.RowKit
end Go.Proofs.YtfdabjanjfehbaaW.PrintWords
