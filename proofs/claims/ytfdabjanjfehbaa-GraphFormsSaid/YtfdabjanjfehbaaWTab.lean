/- Words of the walks, of what this seat's texts name. Written by a program for this claim. -/
import Derived.Test.YtfdabjanjfehbaaWLast
import Derived.Test.YtfdabjanjfehbaaWWords
namespace Go.Proofs.YtfdabjanjfehbaaW.PrintLast
open Go.Proofs.YtfdabjanjfehbaaW.PrintWords (Aside0)
end Go.Proofs.YtfdabjanjfehbaaW.PrintLast
