/- Words of the walks, of what this seat's texts name. Written by a program for this claim. -/
import Derived.Test.YtjpgnmbocklenaaWTab
namespace Go.Proofs.YtjpgnmbocklenaaW.PrintLast
def up (b : Nat → Bool) (i : Nat) : Nat → Bool := fun j => if j = i then true else b j
end Go.Proofs.YtjpgnmbocklenaaW.PrintLast
