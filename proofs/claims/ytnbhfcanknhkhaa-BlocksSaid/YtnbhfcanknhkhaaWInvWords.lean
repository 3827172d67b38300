/- Words of the walks, of what this seat's texts name. Written by a program for this claim. -/
import Derived.Test.YtnbhfcanknhkhaaWInv
import Derived.Test.YtnbhfcanknhkhaaWFootNe
namespace Go.Proofs.YtnbhfcanknhkhaaW.PrintWords
open Go.RowKit
end Go.Proofs.YtnbhfcanknhkhaaW.PrintWords
namespace Go.Proofs.YtnbhfcanknhkhaaW.PrintLast
end Go.Proofs.YtnbhfcanknhkhaaW.PrintLast
