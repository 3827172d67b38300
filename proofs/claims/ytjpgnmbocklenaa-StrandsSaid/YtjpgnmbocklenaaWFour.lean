/- Words of the walks, of what this seat's texts name. Written by a program for this claim. -/
import Derived.Test.YtjpgnmbocklenaaWTab
namespace Go.Proofs.YtjpgnmbocklenaaW.PrintLast
end Go.Proofs.YtjpgnmbocklenaaW.PrintLast
