/- Words that the printed proofs of this claim use: those of the kit's print, as far as they are named here. Plain theorems and definitions. No condition. -/
import Derived.Test.YtidkiabehmdofaaGreatDoorWInv
import Derived.Test.YtidkiabehmdofaaGreatDoorWFootNe
namespace Go.Proofs.YtidkiabehmdofaaGreatDoorW.PrintLast
section
variable {ops : Array Oper} {a : Act} {o og : Oper} {g : Nat} {t : Tmp} {u : Bool}
theorem wanted_on (hg : o.guard = some (g, u)) (ho : ops[g]? = some og) (hd : og.dst = some t) (hv : a.tmps[t]? = some (.bool u)) : Region.wanted o (yielded ops a.tmps) = true := by
  simp [Region.wanted, hg, yielded, ho, hd, hv]
theorem wanted_off (hg : o.guard = some (g, u)) (ho : ops[g]? = some og) (hd : og.dst = some t) (hv : a.tmps[t]? = some (.bool (!u))) : Region.wanted o (yielded ops a.tmps) = false := by
  cases u <;> simp_all [Region.wanted, yielded]
end
end Go.Proofs.YtidkiabehmdofaaGreatDoorW.PrintLast
