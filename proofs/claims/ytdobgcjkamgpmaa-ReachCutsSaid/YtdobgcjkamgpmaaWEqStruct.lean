/- Words of the walks, of what this seat's texts name. Written by a program for this claim. -/
import Derived.Test.YtdobgcjkamgpmaaWWords
import Derived.Laws.StructEq
namespace Go.Proofs.YtdobgcjkamgpmaaW.PrintWords
open Go.RowKit
end Go.Proofs.YtdobgcjkamgpmaaW.PrintWords
