/- Words that the printed proofs of this claim use: those of the kit's print, as far as they are named here. Plain theorems and definitions. No condition. -/
import Derived.Test.YtipppogkphenpaaWTab
namespace Go.Proofs.YtipppogkphenpaaW.PrintLast
def up (b : Nat → Bool) (i : Nat) : Nat → Bool := fun j => if j = i then true else b j
end Go.Proofs.YtipppogkphenpaaW.PrintLast
