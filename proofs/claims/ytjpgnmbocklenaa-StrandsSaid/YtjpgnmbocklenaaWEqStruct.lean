/- Words of the walks, of what this seat's texts name. Written by a program for this claim. -/
import Derived.Test.YtjpgnmbocklenaaWWords
import Derived.Laws.StructEq
namespace Go.Proofs.YtjpgnmbocklenaaW.PrintWords
open Go.RowKit
end Go.Proofs.YtjpgnmbocklenaaW.PrintWords
