/- Words of the walks, of what this seat's texts name. Written by a program for this claim. -/
import Derived.Test.YtcfbfghdkgakmaaWTab
namespace Go.Proofs.YtcfbfghdkgakmaaW.PrintLast
end Go.Proofs.YtcfbfghdkgakmaaW.PrintLast
