/- Functions of the program, of the reference and of the statements: each as a plain Lean function, and a proof that the machine's call answers what that one answers. Written by a program: the kit's print, with contracts of our own for what it does not take. No condition. -/
import Derived.Test.YtipppogkphenpaaDoorProg
import Derived.Below
import Derived.Deep.Draws
import Derived.Deep.AppendLies
import Derived.Maps.AppendAt
import Derived.OwnWalk
import Derived.Laws.BytesArg
import Derived.Laws.MakeOwn
import Derived.Laws.OwnMore
import Derived.Deep.OwnRows
import Derived.Tactics
import Derived.Lib.ConvBytes
import Derived.Laws.Slices
import Derived.WalkKit
import Derived.KernelRfl
import Derived.RowKit3
import Derived.Deep.LoopGhost
import Derived.Deep.QuietTactic
import Derived.BigQuiet
import Derived.WideLaws
import Derived.Deep.DeepCutAuto
import Derived.Deep.CutBlock
import Derived.Deep.RegionHeld3
import Derived.Laws.Rows
import Derived.Lib.AppendStr
import Derived.ArgAppend
import Derived.Laws.IdiomCopy
import Derived.OrdersHeld
import Derived.Laws.BitsLemmas
import Derived.RowKit
import Derived.Shelf.Abstract
import Derived.Lib.SliceRun
import Derived.Lib.AppendIntMem
import Derived.Test.YtipppogkphenpaaDoorShelf
import Derived.Test.YtipppogkphenpaaDoorPst
import Derived.Test.YtipppogkphenpaaDoorWWords
import Derived.Test.YtipppogkphenpaaDoorWLast
import Derived.Test.YtipppogkphenpaaDoorWTab
import Derived.Test.YtipppogkphenpaaDoorWFour
import Derived.Test.YtipppogkphenpaaDoorWQPut
import Derived.Test.YtipppogkphenpaaDoorWApart
import Derived.Test.YtipppogkphenpaaDoorWArr
import Derived.Test.YtipppogkphenpaaDoorWZeros
import Derived.Test.YtipppogkphenpaaDoorWFoot
import Derived.Test.YtipppogkphenpaaDoorWKept
import Derived.Test.YtipppogkphenpaaDoorWShare
import Derived.Test.YtipppogkphenpaaDoorWN
import Derived.Test.YtipppogkphenpaaDoorWFootNe
import Derived.Test.YtipppogkphenpaaDoorWAt
import Derived.Test.YtipppogkphenpaaDoorWEqStruct
import Derived.Test.YtipppogkphenpaaDoorWRepsOne
import Derived.Test.YtipppogkphenpaaDoorWInv
import Derived.Test.YtipppogkphenpaaDoorWInvWords
import Derived.Test.YtipppogkphenpaaDoorWGuard
import Derived.Test.YtipppogkphenpaaDoorWNEv
import Derived.Test.YtipppogkphenpaaDoorWMore
namespace Go.Proofs.YtipppogkphenpaaDoor.PA
open Go.RowKit Go.Proofs.YtipppogkphenpaaDoorW.PrintWords Go.Proofs.YtipppogkphenpaaDoorW.PrintLast Go.Proofs.YtipppogkphenpaaDoorW.PrintMore
attribute [local go_sem] max2_int min2_int max_two min_two max_three min_three max_four min_four   -- for this text's walks alone
set_option linter.unusedVariables false
set_option linter.unusedSimpArgs false



def errW : Option Int → Value
  | none => .nilIface
  | some c => .iface 0 (.int .i64 c)
theorem errW_none : errW none = .nilIface := rfl
theorem errW_some (c : Int) : errW (some c) = .iface 0 (.int .i64 c) := rfl

theorem info5 : (Tryd.prog.info? 5).map (fun i => (i.zero, i.size, i.bytes)) = some (some (.int .u8 0), 1, 1) := by kernel_rfl
-- the values' own types

end Go.Proofs.YtipppogkphenpaaDoor.PA
