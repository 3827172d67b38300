/- Words of the walks, of what this seat's texts name. Written by a program for this claim. -/
import Derived.Test.YtbbdbnikogmidaaWInv
import Derived.Test.YtbbdbnikogmidaaWFootNe
namespace Go.Proofs.YtbbdbnikogmidaaW.PrintWords
open Go.RowKit
end Go.Proofs.YtbbdbnikogmidaaW.PrintWords
namespace Go.Proofs.YtbbdbnikogmidaaW.PrintLast
end Go.Proofs.YtbbdbnikogmidaaW.PrintLast
