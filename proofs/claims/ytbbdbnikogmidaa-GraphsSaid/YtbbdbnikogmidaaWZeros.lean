/- Words of the walks, of what this seat's texts name. Written by a program for this claim. -/
import Derived.Test.YtbbdbnikogmidaaWApart
import Derived.Test.YtbbdbnikogmidaaWArr
namespace Go.Proofs.YtbbdbnikogmidaaW.PrintWords
open Go.RowKit
namespace Kd
end Kd
end Go.Proofs.YtbbdbnikogmidaaW.PrintWords
