/- Words of the walks, of what this seat's texts name. Written by a program for this claim. -/
import Derived.Test.YtbbdbnikogmidabWTab
namespace Go.Proofs.YtbbdbnikogmidabW.PrintLast
end Go.Proofs.YtbbdbnikogmidabW.PrintLast
