/- Words of the walks, of what this seat's texts name. Written by a program for this claim. -/
import Derived.Test.YtjpgnmbocklenaaWWords
import Derived.Test.YtjpgnmbocklenaaWLast
namespace Go.Proofs.YtjpgnmbocklenaaW.PrintWords
open Go.RowKit
namespace Kd
end Kd
end Go.Proofs.YtjpgnmbocklenaaW.PrintWords
