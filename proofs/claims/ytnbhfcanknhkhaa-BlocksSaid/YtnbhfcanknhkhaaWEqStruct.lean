/- Words of the walks, of what this seat's texts name. Written by a program for this claim. -/
import Derived.Test.YtnbhfcanknhkhaaWWords
import Derived.Laws.StructEq
namespace Go.Proofs.YtnbhfcanknhkhaaW.PrintWords
open Go.RowKit
end Go.Proofs.YtnbhfcanknhkhaaW.PrintWords
