/- Words of the walks, of what this seat's texts name. Written by a program for this claim. -/
import Derived.Test.YtnbhfcanknhkhaaWTab
namespace Go.Proofs.YtnbhfcanknhkhaaW.PrintLast
end Go.Proofs.YtnbhfcanknhkhaaW.PrintLast
