/- Words of the walks, of what this seat's texts name. Written by a program for this claim. -/
import Derived.Test.YtjjfpkfpmpeikaaWTab
namespace Go.Proofs.YtjjfpkfpmpeikaaW.PrintLast
end Go.Proofs.YtjjfpkfpmpeikaaW.PrintLast
