/- Words of the walks, of what this seat's texts name. Written by a program for this claim. -/
import Derived.Test.YtdobgcjkamgpmaaWInv
import Derived.Test.YtdobgcjkamgpmaaWFootNe
namespace Go.Proofs.YtdobgcjkamgpmaaW.PrintWords
open Go.RowKit
end Go.Proofs.YtdobgcjkamgpmaaW.PrintWords
namespace Go.Proofs.YtdobgcjkamgpmaaW.PrintLast
end Go.Proofs.YtdobgcjkamgpmaaW.PrintLast
