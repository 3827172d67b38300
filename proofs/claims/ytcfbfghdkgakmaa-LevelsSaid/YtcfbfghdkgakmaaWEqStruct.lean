/- Words of the walks, of what this seat's texts name. Written by a program for this claim. -/
import Derived.Test.YtcfbfghdkgakmaaWWords
import Derived.Laws.StructEq
namespace Go.Proofs.YtcfbfghdkgakmaaW.PrintWords
open Go.RowKit
end Go.Proofs.YtcfbfghdkgakmaaW.PrintWords
