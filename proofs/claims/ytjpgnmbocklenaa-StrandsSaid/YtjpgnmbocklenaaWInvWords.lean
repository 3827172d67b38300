/- Words of the walks, of what this seat's texts name. Written by a program for this claim. -/
import Derived.Test.YtjpgnmbocklenaaWInv
import Derived.Test.YtjpgnmbocklenaaWFootNe
namespace Go.Proofs.YtjpgnmbocklenaaW.PrintWords
open Go.RowKit
end Go.Proofs.YtjpgnmbocklenaaW.PrintWords
namespace Go.Proofs.YtjpgnmbocklenaaW.PrintLast
end Go.Proofs.YtjpgnmbocklenaaW.PrintLast
