/- Words of the walks, of what this seat's texts name. Written by a program for this claim. -/
import Derived.Test.YtfdabjanjfehbaaWTab
namespace Go.Proofs.YtfdabjanjfehbaaW.PrintLast
end Go.Proofs.YtfdabjanjfehbaaW.PrintLast
