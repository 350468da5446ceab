/- Words that the printed proofs of this claim use: those of the kit's print, as far as they are named here. Plain theorems and definitions. No condition. -/
import Derived.Test.YtapckgibbhijeaaDoorWTab
namespace Go.Proofs.YtapckgibbhijeaaDoorW.PrintLast
def up (b : Nat → Bool) (i : Nat) : Nat → Bool := fun j => if j = i then true else b j
end Go.Proofs.YtapckgibbhijeaaDoorW.PrintLast
