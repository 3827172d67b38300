/- Words of the walks, of what this seat's texts name. Written by a program for this claim. -/
import Derived.Test.YtjjfpkfpmpeikaaWInv
import Derived.Test.YtjjfpkfpmpeikaaWFootNe
namespace Go.Proofs.YtjjfpkfpmpeikaaW.PrintWords
open Go.RowKit
end Go.Proofs.YtjjfpkfpmpeikaaW.PrintWords
namespace Go.Proofs.YtjjfpkfpmpeikaaW.PrintLast
end Go.Proofs.YtjjfpkfpmpeikaaW.PrintLast
