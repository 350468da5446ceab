/- Of each loop of the printed functions: what its body answers from some number of rounds on, the loop answers. No condition. Written by a program of ours out of the printed functions. -/
import Derived.Test.YtipppogkphenpaaAid
import Derived.Test.YtipppogkphenpaaPAx5
namespace Go.Proofs.Ytipppogkphenpaa.PA
open Go.RowKit Go.Proofs.YtipppogkphenpaaW.PrintWords Go.Proofs.YtipppogkphenpaaW.PrintLast Go.Proofs.YtipppogkphenpaaW.PrintMore Go.Proofs.Ytipppogkphenpaa.Aid
set_option linter.unusedVariables false
theorem laws_FnExactNeedOf.j0.st {x0 : List (S39)} {x6 : List (S43)} {x34 : Bool} {r : (Bool)} (H : Ev (fun k => if x34 = true then (some false) else ((laws_toClaimS.f k x0).bind fun t196 => ((laws_eqClaimS.f k x6 t196).bind fun t199 => (if t199 = true then (some true) else (some false))))) r) : Ev (fun k => laws_FnExactNeedOf.j0 k x0 x6 x34) r := ev_step (fun k => laws_FnExactNeedOf.j0.eq_2 x0 x6 x34 k) H
end Go.Proofs.Ytipppogkphenpaa.PA
