/- Words of the walks, of what this seat's texts name. Written by a program for this claim. -/
import Derived.Test.YtbbdbnikogmidabWWords
import Derived.Laws.StructEq
namespace Go.Proofs.YtbbdbnikogmidabW.PrintWords
open Go.RowKit
end Go.Proofs.YtbbdbnikogmidabW.PrintWords
