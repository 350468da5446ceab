/- Words that the printed proofs of this claim use: those of the kit's print, as far as they are named here. Plain theorems and definitions. No condition. -/
import Derived.Test.YtidkiabehmdofaaGreatDoorWWords
import Derived.Laws.StructEq
