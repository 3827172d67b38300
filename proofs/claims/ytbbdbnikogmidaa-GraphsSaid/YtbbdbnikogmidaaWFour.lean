/- Words of the walks, of what this seat's texts name. Written by a program for this claim. -/
import Derived.Test.YtbbdbnikogmidaaWTab
namespace Go.Proofs.YtbbdbnikogmidaaW.PrintLast
end Go.Proofs.YtbbdbnikogmidaaW.PrintLast
