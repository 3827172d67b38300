/- Words of the walks, of what this seat's texts name. Written by a program for this claim. -/
import Derived.Test.YtbbdbnikogmidabWInv
import Derived.Test.YtbbdbnikogmidabWFootNe
namespace Go.Proofs.YtbbdbnikogmidabW.PrintWords
open Go.RowKit
end Go.Proofs.YtbbdbnikogmidabW.PrintWords
namespace Go.Proofs.YtbbdbnikogmidabW.PrintLast
end Go.Proofs.YtbbdbnikogmidabW.PrintLast
