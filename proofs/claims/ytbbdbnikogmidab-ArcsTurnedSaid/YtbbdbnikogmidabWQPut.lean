/- Words of the walks, of what this seat's texts name. Written by a program for this claim. -/
import Derived.Test.YtbbdbnikogmidabWWords
import Derived.Test.YtbbdbnikogmidabWLast
namespace Go.Proofs.YtbbdbnikogmidabW.PrintWords
open Go.RowKit
namespace Kd
end Kd
end Go.Proofs.YtbbdbnikogmidabW.PrintWords
