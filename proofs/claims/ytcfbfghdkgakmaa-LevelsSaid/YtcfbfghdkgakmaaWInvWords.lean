/- Words of the walks, of what this seat's texts name. Written by a program for this claim. -/
import Derived.Test.YtcfbfghdkgakmaaWInv
import Derived.Test.YtcfbfghdkgakmaaWFootNe
namespace Go.Proofs.YtcfbfghdkgakmaaW.PrintWords
open Go.RowKit
end Go.Proofs.YtcfbfghdkgakmaaW.PrintWords
namespace Go.Proofs.YtcfbfghdkgakmaaW.PrintLast
end Go.Proofs.YtcfbfghdkgakmaaW.PrintLast
