/- Words of the walks, of what this seat's texts name. Written by a program for this claim. -/
import Derived.Test.YtdobgcjkamgpmaaWTab
namespace Go.Proofs.YtdobgcjkamgpmaaW.PrintLast
end Go.Proofs.YtdobgcjkamgpmaaW.PrintLast
