/- Words of the walks, of what this seat's texts name. Written by a program for this claim. -/
import Derived.Test.YtfdabjanjfehbaaWWords
import Derived.Test.YtfdabjanjfehbaaWLast
namespace Go.Proofs.YtfdabjanjfehbaaW.PrintWords
open Go.RowKit
namespace Kd
end Kd
end Go.Proofs.YtfdabjanjfehbaaW.PrintWords
