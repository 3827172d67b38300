/- Words of the walks, of what this seat's texts name. Written by a program for this claim. -/
import Derived.Test.YtjpgnmbocklenaaWFootNe
namespace Go.Proofs.YtjpgnmbocklenaaW.PrintWords
open Go.RowKit
section
variable {w w' u : World} {m B g : Nat} {o : Obj} {row : Option Nat} {S : Nat → Prop} {a : Addr} {v : Value}
theorem blk_at (hq : w.drewN m = w') (h : w.heap[g]? = some o) : w'.heap[g]? = some o := by subst hq; exact h
end
namespace Kd
end Kd
end Go.Proofs.YtjpgnmbocklenaaW.PrintWords
