/- Functions of the program, of the reference and of the statements: each as a plain Lean function, and a proof that the machine's call answers what that one answers. Written by a program: the kit's print, with contracts of our own for what it does not take. No condition. -/
import Derived.Test.YtecjingcnaopdaaPSx0
import Derived.Test.YtecjingcnaopdaaPSx1
namespace Go.Proofs.Ytecjingcnaopdaa.PS
open Go.RowKit Go.Proofs.YtecjingcnaopdaaW.PrintWords Go.Proofs.YtecjingcnaopdaaW.PrintLast Go.Proofs.YtecjingcnaopdaaW.PrintMore
attribute [local go_sem] max2_int min2_int max_two min_two max_three min_three max_four min_four   -- for this text's walks alone
set_option linter.unusedVariables false
set_option linter.unusedSimpArgs false

/-! ### spec_StoreOk: function 9 -/
abbrev q0_9 : Array Bool := #[false, false, false, false, false, false, false, false, false, false, false, false, false, false, false, false, false, false, false, false, false, false, false, false, false, false, false, false, false, false, false, false, false, false, false, false, false, false, false, false, false]
abbrev q1_9 : Array Bool := #[true, false, false, false, false, false, false, false, false, false, false, false, false, false, false, false, false, false, false, false, false, false, false, false, false, false, false, false, false, false, false, false, false, false, false, false, false, false, false, false, false]
abbrev q2_9 : Array Bool := #[true, true, false, false, false, false, false, false, false, false, false, false, false, false, false, false, false, false, false, false, false, false, false, false, false, false, false, false, false, false, false, false, false, false, false, false, false, false, false, false, false]
abbrev q3_9 : Array Bool := #[true, true, true, false, false, false, false, false, false, false, false, false, false, false, false, false, false, false, false, false, false, false, false, false, false, false, false, false, false, false, false, false, false, false, false, false, false, false, false, false, false]
abbrev q4_9 : Array Bool := #[true, true, true, true, false, false, false, false, false, false, false, false, false, false, false, false, false, false, false, false, false, false, false, false, false, false, false, false, false, false, false, false, false, false, false, false, false, false, false, false, false]
abbrev q5_9 : Array Bool := #[true, true, true, true, true, false, false, false, false, false, false, false, false, false, false, false, false, false, false, false, false, false, false, false, false, false, false, false, false, false, false, false, false, false, false, false, false, false, false, false, false]
abbrev q6_9 : Array Bool := #[true, true, true, true, true, true, false, false, false, false, false, false, false, false, false, false, false, false, false, false, false, false, false, false, false, false, false, false, false, false, false, false, false, false, false, false, false, false, false, false, false]
abbrev q7_9 : Array Bool := #[true, true, true, true, true, true, true, false, false, false, false, false, false, false, false, false, false, false, false, false, false, false, false, false, false, false, false, false, false, false, false, false, false, false, false, false, false, false, false, false, false]
abbrev q8_9 : Array Bool := #[true, true, true, true, true, true, true, true, false, false, false, false, false, false, false, false, false, false, false, false, false, false, false, false, false, false, false, false, false, false, false, false, false, false, false, false, false, false, false, false, false]
abbrev q9_9 : Array Bool := #[true, true, true, true, true, true, true, true, true, false, false, false, false, false, false, false, false, false, false, false, false, false, false, false, false, false, false, false, false, false, false, false, false, false, false, false, false, false, false, false, false]
abbrev q10_9 : Array Bool := #[true, true, true, true, true, true, true, true, true, true, false, false, false, false, false, false, false, false, false, false, false, false, false, false, false, false, false, false, false, false, false, false, false, false, false, false, false, false, false, false, false]
abbrev q11_9 : Array Bool := #[true, true, true, true, true, true, true, true, true, true, true, false, false, false, false, false, false, false, false, false, false, false, false, false, false, false, false, false, false, false, false, false, false, false, false, false, false, false, false, false, false]
abbrev q12_9 : Array Bool := #[true, true, true, true, true, true, true, true, true, true, true, true, false, false, false, false, false, false, false, false, false, false, false, false, false, false, false, false, false, false, false, false, false, false, false, false, false, false, false, false, false]
abbrev q13_9 : Array Bool := #[true, true, true, true, true, true, true, true, true, true, true, true, true, false, false, false, false, false, false, false, false, false, false, false, false, false, false, false, false, false, false, false, false, false, false, false, false, false, false, false, false]
abbrev q14_9 : Array Bool := #[true, true, true, true, true, true, true, true, true, true, true, true, true, true, false, false, false, false, false, false, false, false, false, false, false, false, false, false, false, false, false, false, false, false, false, false, false, false, false, false, false]
abbrev q15_9 : Array Bool := #[true, true, true, true, true, true, true, true, true, true, true, true, true, true, true, false, false, false, false, false, false, false, false, false, false, false, false, false, false, false, false, false, false, false, false, false, false, false, false, false, false]
abbrev q16_9 : Array Bool := #[true, true, true, true, true, true, true, true, true, true, true, true, true, true, true, true, false, false, false, false, false, false, false, false, false, false, false, false, false, false, false, false, false, false, false, false, false, false, false, false, false]
abbrev q17_9 : Array Bool := #[true, true, true, true, true, true, true, true, true, true, true, true, true, true, true, true, true, false, false, false, false, false, false, false, false, false, false, false, false, false, false, false, false, false, false, false, false, false, false, false, false]
abbrev q18_9 : Array Bool := #[true, true, true, true, true, true, true, true, true, true, true, true, true, true, true, true, true, true, false, false, false, false, false, false, false, false, false, false, false, false, false, false, false, false, false, false, false, false, false, false, false]
abbrev q19_9 : Array Bool := #[true, true, true, true, true, true, true, true, true, true, true, true, true, true, true, true, true, true, true, false, false, false, false, false, false, false, false, false, false, false, false, false, false, false, false, false, false, false, false, false, false]
abbrev q20_9 : Array Bool := #[true, true, true, true, true, true, true, true, true, true, true, true, true, true, true, true, true, true, true, true, false, false, false, false, false, false, false, false, false, false, false, false, false, false, false, false, false, false, false, false, false]
abbrev q21_9 : Array Bool := #[true, true, true, true, true, true, true, true, true, true, true, true, true, true, true, true, true, true, true, true, true, false, false, false, false, false, false, false, false, false, false, false, false, false, false, false, false, false, false, false, false]
abbrev q22_9 : Array Bool := #[true, true, true, true, true, true, true, true, true, true, true, true, true, true, true, true, true, true, true, true, true, true, false, false, false, false, false, false, false, false, false, false, false, false, false, false, false, false, false, false, false]
abbrev q23_9 : Array Bool := #[true, true, true, true, true, true, true, true, true, true, true, true, true, true, true, true, true, true, true, true, true, true, true, false, false, false, false, false, false, false, false, false, false, false, false, false, false, false, false, false, false]
abbrev q24_9 : Array Bool := #[true, true, true, true, true, true, true, true, true, true, true, true, true, true, true, true, true, true, true, true, true, true, true, true, false, false, false, false, false, false, false, false, false, false, false, false, false, false, false, false, false]
abbrev q25_9 : Array Bool := #[true, true, true, true, true, true, true, true, true, true, true, true, true, true, true, true, true, true, true, true, true, true, true, true, true, false, false, false, false, false, false, false, false, false, false, false, false, false, false, false, false]
abbrev q26_9 : Array Bool := #[true, true, true, true, true, true, true, true, true, true, true, true, true, true, true, true, true, true, true, true, true, true, true, true, true, true, false, false, false, false, false, false, false, false, false, false, false, false, false, false, false]
abbrev q27_9 : Array Bool := #[true, true, true, true, true, true, true, true, true, true, true, true, true, true, true, true, true, true, true, true, true, true, true, true, true, true, false, true, false, false, false, false, false, false, false, false, false, false, false, false, false]
abbrev q28_9 : Array Bool := #[true, true, true, true, true, true, true, true, true, true, true, true, true, true, true, true, true, true, true, true, true, true, true, true, true, true, false, true, true, false, false, false, false, false, false, false, false, false, false, false, false]
abbrev q29_9 : Array Bool := #[true, true, true, true, true, true, true, true, true, true, true, true, true, true, true, true, true, true, true, true, true, true, true, true, true, true, false, true, true, true, false, false, false, false, false, false, false, false, false, false, false]
abbrev q30_9 : Array Bool := #[true, true, true, true, true, true, true, true, true, true, true, true, true, true, true, true, true, true, true, true, true, true, true, true, true, true, false, true, true, true, true, false, false, false, false, false, false, false, false, false, false]
abbrev q31_9 : Array Bool := #[true, true, true, true, true, true, true, true, true, true, true, true, true, true, true, true, true, true, true, true, true, true, true, true, true, true, false, true, true, true, true, true, false, false, false, false, false, false, false, false, false]
abbrev q32_9 : Array Bool := #[true, true, true, true, true, true, true, true, true, true, true, true, true, true, true, true, true, true, true, true, true, true, true, true, true, true, false, true, true, true, true, true, false, true, false, false, false, false, false, false, false]
abbrev q33_9 : Array Bool := #[true, true, true, true, true, true, true, true, true, true, true, true, true, true, true, true, true, true, true, true, true, true, true, true, true, true, false, true, true, true, true, true, false, true, false, true, false, false, false, false, false]
abbrev q34_9 : Array Bool := #[true, true, true, true, true, true, true, true, true, true, true, true, true, true, true, true, true, true, true, true, true, true, true, true, true, true, true, true, true, true, true, true, false, true, false, true, false, false, false, false, false]
abbrev q35_9 : Array Bool := #[true, true, true, true, true, true, true, true, true, true, true, true, true, true, true, true, true, true, true, true, true, true, true, true, true, true, true, true, true, true, true, true, true, true, false, true, false, false, false, false, false]
abbrev q36_9 : Array Bool := #[true, true, true, true, true, true, true, true, true, true, true, true, true, true, true, true, true, true, true, true, true, true, true, true, true, true, true, true, true, true, true, true, true, true, true, true, false, false, false, false, false]
abbrev q37_9 : Array Bool := #[true, true, true, true, true, true, true, true, true, true, true, true, true, true, true, true, true, true, true, true, true, true, true, true, true, true, true, true, true, true, true, true, true, true, true, true, true, false, false, false, false]
abbrev q38_9 : Array Bool := #[true, true, true, true, true, true, true, true, true, true, true, true, true, true, true, true, true, true, true, true, true, true, true, true, true, true, true, true, true, true, true, true, true, true, true, true, true, true, false, false, false]
abbrev q39_9 : Array Bool := #[true, true, true, true, true, true, true, true, true, true, true, true, true, true, true, true, true, true, true, true, true, true, true, true, true, true, true, true, true, true, true, true, true, true, true, true, true, true, true, false, false]
abbrev q40_9 : Array Bool := #[true, true, true, true, true, true, true, true, true, true, true, true, true, true, true, true, true, true, true, true, true, true, true, true, true, true, true, true, true, true, true, true, true, true, true, true, true, true, true, true, false]
abbrev q41_9 : Array Bool := #[true, true, true, true, true, true, true, true, true, true, true, true, true, true, true, true, true, true, true, true, true, true, true, true, true, true, true, true, true, true, true, true, true, true, true, true, true, true, true, true, true]
abbrev q42_9 : Array Bool := #[true, true, true, true, true, true, true, true, true, true, true, true, true, true, true, true, true, true, true, true, true, true, true, true, true, true, true, false, false, false, false, false, false, false, false, false, false, false, false, false, false]
abbrev q43_9 : Array Bool := #[true, true, true, true, true, true, true, true, true, true, true, true, true, true, true, true, true, true, true, true, true, true, true, true, true, true, true, true, false, false, false, false, false, false, false, false, false, false, false, false, false]
abbrev q44_9 : Array Bool := #[true, true, true, true, true, true, true, true, true, true, true, true, true, true, true, true, true, true, true, true, true, true, true, true, true, true, true, true, true, false, false, false, false, false, false, false, false, false, false, false, false]
abbrev q45_9 : Array Bool := #[true, true, true, true, true, true, true, true, true, true, true, true, true, true, true, true, true, true, true, true, true, true, true, true, true, true, true, true, true, true, false, false, false, false, false, false, false, false, false, false, false]
abbrev q46_9 : Array Bool := #[true, true, true, true, true, true, true, true, true, true, true, true, true, true, true, true, true, true, true, true, true, true, true, true, true, true, true, true, true, true, true, false, false, false, false, false, false, false, false, false, false]
abbrev q47_9 : Array Bool := #[true, true, true, true, true, true, true, true, true, true, true, true, true, true, true, true, true, true, true, true, true, true, true, true, true, true, true, true, true, true, true, true, false, false, false, false, false, false, false, false, false]
abbrev q48_9 : Array Bool := #[true, true, true, true, true, true, true, true, true, true, true, true, true, true, true, true, true, true, true, true, true, true, true, true, true, true, true, true, true, true, true, true, true, false, false, false, false, false, false, false, false]
abbrev q49_9 : Array Bool := #[true, true, true, true, true, true, true, true, true, true, true, true, true, true, true, true, true, true, true, true, true, true, true, true, true, true, true, true, true, true, true, true, true, true, false, false, false, false, false, false, false]
abbrev q50_9 : Array Bool := #[true, true, true, true, true, true, true, true, true, true, true, true, true, true, true, true, true, true, true, true, true, true, true, true, true, true, true, true, true, true, true, true, true, true, true, false, false, false, false, false, false]
abbrev q51_9 : Array Bool := #[false, false, false, false, false, false, false, false, false, false, false, false, false, false, false, false, false, false, false, false, false, false, false, false, false, false, false, false, false, false, false, false, false, false, false, false, false, false]
abbrev q52_9 : Array Bool := #[true, false, false, false, false, false, false, false, false, false, false, false, false, false, false, false, false, false, false, false, false, false, false, false, false, false, false, false, false, false, false, false, false, false, false, false, false, false]
abbrev q53_9 : Array Bool := #[true, false, true, false, false, false, false, false, false, false, false, false, false, false, false, false, false, false, false, false, false, false, false, false, false, false, false, false, false, false, false, false, false, false, false, false, false, false]
abbrev q54_9 : Array Bool := #[true, true, true, false, false, false, false, false, false, false, false, false, false, false, false, false, false, false, false, false, false, false, false, false, false, false, false, false, false, false, false, false, false, false, false, false, false, false]
abbrev q55_9 : Array Bool := #[true, true, true, true, false, false, false, false, false, false, false, false, false, false, false, false, false, false, false, false, false, false, false, false, false, false, false, false, false, false, false, false, false, false, false, false, false, false]
abbrev q56_9 : Array Bool := #[true, true, true, true, true, false, false, false, false, false, false, false, false, false, false, false, false, false, false, false, false, false, false, false, false, false, false, false, false, false, false, false, false, false, false, false, false, false]
abbrev q57_9 : Array Bool := #[true, true, true, true, true, true, false, false, false, false, false, false, false, false, false, false, false, false, false, false, false, false, false, false, false, false, false, false, false, false, false, false, false, false, false, false, false, false]
abbrev q58_9 : Array Bool := #[true, true, true, true, true, true, true, false, false, false, false, false, false, false, false, false, false, false, false, false, false, false, false, false, false, false, false, false, false, false, false, false, false, false, false, false, false, false]
abbrev q59_9 : Array Bool := #[true, true, true, true, true, true, true, true, false, false, false, false, false, false, false, false, false, false, false, false, false, false, false, false, false, false, false, false, false, false, false, false, false, false, false, false, false, false]
abbrev q60_9 : Array Bool := #[true, true, true, true, true, true, true, true, true, false, false, false, false, false, false, false, false, false, false, false, false, false, false, false, false, false, false, false, false, false, false, false, false, false, false, false, false, false]
abbrev q61_9 : Array Bool := #[true, true, true, true, true, true, true, true, true, true, false, false, false, false, false, false, false, false, false, false, false, false, false, false, false, false, false, false, false, false, false, false, false, false, false, false, false, false]
abbrev q62_9 : Array Bool := #[true, true, true, true, true, true, true, true, true, true, false, true, false, false, false, false, false, false, false, false, false, false, false, false, false, false, false, false, false, false, false, false, false, false, false, false, false, false]
abbrev q63_9 : Array Bool := #[true, true, true, true, true, true, true, true, true, true, true, true, false, false, false, false, false, false, false, false, false, false, false, false, false, false, false, false, false, false, false, false, false, false, false, false, false, false]
abbrev q64_9 : Array Bool := #[true, true, true, true, true, true, true, true, true, true, true, true, true, false, false, false, false, false, false, false, false, false, false, false, false, false, false, false, false, false, false, false, false, false, false, false, false, false]
abbrev q65_9 : Array Bool := #[true, true, true, true, true, true, true, true, true, true, true, true, true, true, false, false, false, false, false, false, false, false, false, false, false, false, false, false, false, false, false, false, false, false, false, false, false, false]
abbrev q66_9 : Array Bool := #[true, true, true, true, true, true, true, true, true, true, true, true, true, true, true, false, false, false, false, false, false, false, false, false, false, false, false, false, false, false, false, false, false, false, false, false, false, false]
abbrev q67_9 : Array Bool := #[true, true, true, true, true, true, true, true, true, true, true, true, true, true, true, true, false, false, false, false, false, false, false, false, false, false, false, false, false, false, false, false, false, false, false, false, false, false]
abbrev q68_9 : Array Bool := #[true, true, true, true, true, true, true, true, true, true, true, true, true, true, true, true, true, false, false, false, false, false, false, false, false, false, false, false, false, false, false, false, false, false, false, false, false, false]
abbrev q69_9 : Array Bool := #[true, true, true, true, true, true, true, true, true, true, true, true, true, true, true, true, true, true, false, false, false, false, false, false, false, false, false, false, false, false, false, false, false, false, false, false, false, false]
abbrev q70_9 : Array Bool := #[true, true, true, true, true, true, true, true, true, true, true, true, true, true, true, true, true, true, true, false, false, false, false, false, false, false, false, false, false, false, false, false, false, false, false, false, false, false]
abbrev q71_9 : Array Bool := #[true, true, true, true, true, true, true, true, true, true, true, true, true, true, true, true, true, true, true, true, false, false, false, false, false, false, false, false, false, false, false, false, false, false, false, false, false, false]
abbrev q72_9 : Array Bool := #[true, true, true, true, true, true, true, true, true, true, true, true, true, true, true, true, true, true, true, true, true, false, false, false, false, false, false, false, false, false, false, false, false, false, false, false, false, false]
abbrev q73_9 : Array Bool := #[true, true, true, true, true, true, true, true, true, true, true, true, true, true, true, true, true, true, true, true, true, true, false, false, false, false, false, false, false, false, false, false, false, false, false, false, false, false]
abbrev q74_9 : Array Bool := #[true, true, true, true, true, true, true, true, true, true, true, true, true, true, true, true, true, true, true, true, true, true, true, false, false, false, false, false, false, false, false, false, false, false, false, false, false, false]
abbrev q75_9 : Array Bool := #[true, true, true, true, true, true, true, true, true, true, true, true, true, true, true, true, true, true, true, true, true, true, true, false, true, false, false, false, false, false, false, false, false, false, false, false, false, false]
abbrev q76_9 : Array Bool := #[true, true, true, true, true, true, true, true, true, true, true, true, true, true, true, true, true, true, true, true, true, true, true, false, true, true, false, false, false, false, false, false, false, false, false, false, false, false]
abbrev q77_9 : Array Bool := #[true, true, true, true, true, true, true, true, true, true, true, true, true, true, true, true, true, true, true, true, true, true, true, false, true, true, false, false, false, true, false, false, false, false, false, false, false, false]
abbrev q78_9 : Array Bool := #[true, true, true, true, true, true, true, true, true, true, true, true, true, true, true, true, true, true, true, true, true, true, true, false, true, true, false, false, false, true, false, true, false, false, false, false, false, false]
abbrev q79_9 : Array Bool := #[true, true, true, true, true, true, true, true, true, true, true, true, true, true, true, true, true, true, true, true, true, true, true, true, true, true, false, false, false, true, false, true, false, false, false, false, false, false]
abbrev q80_9 : Array Bool := #[true, true, true, true, true, true, true, true, true, true, true, true, true, true, true, true, true, true, true, true, true, true, true, true, true, true, true, false, false, true, false, true, false, false, false, false, false, false]
abbrev q81_9 : Array Bool := #[true, true, true, true, true, true, true, true, true, true, true, true, true, true, true, true, true, true, true, true, true, true, true, true, true, true, true, true, false, true, false, true, false, false, false, false, false, false]
abbrev q82_9 : Array Bool := #[true, true, true, true, true, true, true, true, true, true, true, true, true, true, true, true, true, true, true, true, true, true, true, true, true, true, true, true, true, true, false, true, false, false, false, false, false, false]
abbrev q83_9 : Array Bool := #[true, true, true, true, true, true, true, true, true, true, true, true, true, true, true, true, true, true, true, true, true, true, true, true, true, true, true, true, true, true, true, true, false, false, false, false, false, false]
abbrev q84_9 : Array Bool := #[true, true, true, true, true, true, true, true, true, true, true, true, true, true, true, true, true, true, true, true, true, true, true, true, true, true, true, true, true, true, true, true, true, false, false, false, false, false]
abbrev q85_9 : Array Bool := #[true, true, true, true, true, true, true, true, true, true, true, true, true, true, true, true, true, true, true, true, true, true, true, true, true, true, true, true, true, true, true, true, true, true, false, false, false, false]
abbrev q86_9 : Array Bool := #[true, true, true, true, true, true, true, true, true, true, true, true, true, true, true, true, true, true, true, true, true, true, true, true, true, true, true, true, true, true, true, true, true, true, true, false, false, false]
abbrev q87_9 : Array Bool := #[true, true, true, true, true, true, true, true, true, true, true, true, true, true, true, true, true, true, true, true, true, true, true, true, true, true, true, true, true, true, true, true, true, true, true, true, false, false]
abbrev q88_9 : Array Bool := #[true, true, true, true, true, true, true, true, true, true, true, true, true, true, true, true, true, true, true, true, true, true, true, true, true, true, true, true, true, true, true, true, true, true, true, true, true, false]
abbrev q89_9 : Array Bool := #[true, true, true, true, true, true, true, true, true, true, true, true, true, true, true, true, true, true, true, true, true, true, true, true, true, true, true, true, true, true, true, true, true, true, true, true, true, true]
abbrev q90_9 : Array Bool := #[true, true, true, true, true, true, true, true, true, true, true, true, true, true, true, true, true, true, true, true, true, true, true, true, false, false, false, false, false, false, false, false, false, false, false, false, false, false]
abbrev q91_9 : Array Bool := #[true, true, true, true, true, true, true, true, true, true, true, true, true, true, true, true, true, true, true, true, true, true, true, true, true, false, false, false, false, false, false, false, false, false, false, false, false, false]
abbrev q92_9 : Array Bool := #[true, true, true, true, true, true, true, true, true, true, true, true, true, true, true, true, true, true, true, true, true, true, true, true, true, true, false, false, false, false, false, false, false, false, false, false, false, false]
abbrev q93_9 : Array Bool := #[true, true, true, true, true, true, true, true, true, true, true, true, true, true, true, true, true, true, true, true, true, true, true, true, true, true, true, false, false, false, false, false, false, false, false, false, false, false]
abbrev q94_9 : Array Bool := #[true, true, true, true, true, true, true, true, true, true, true, true, true, true, true, true, true, true, true, true, true, true, true, true, true, true, true, true, false, false, false, false, false, false, false, false, false, false]
abbrev q95_9 : Array Bool := #[true, true, true, true, true, true, true, true, true, true, true, true, true, true, true, true, true, true, true, true, true, true, true, true, true, true, true, true, true, false, false, false, false, false, false, false, false, false]
abbrev q96_9 : Array Bool := #[true, true, true, true, true, true, true, true, true, true, true, true, true, true, true, true, true, true, true, true, true, true, true, true, true, true, true, true, true, true, false, false, false, false, false, false, false, false]
abbrev q97_9 : Array Bool := #[true, true, true, true, true, true, true, true, true, true, true, true, true, true, true, true, true, true, true, true, true, true, true, true, true, true, true, true, true, true, true, false, false, false, false, false, false, false]
abbrev q98_9 : Array Bool := #[true, true, true, true, true, true, true, true, true, true, true, false, false, false, false, false, false, false, false, false, false, false, false, false, false, false, false, false, false, false, false, false, false, false, false, false, false, false]
mutual
def spec_StoreOk.l0 : Nat → List (S58) → Int → Option (Bool)
 | 0, _, _ => none
 | k + 1, x0, x3 => if x3 < (x0.length : Int) then (if 0 ≤ x3 then ((spec_NameOk.f k ((rd_T58 x0 x3).f0)).bind fun t149 => (if t149 = true then ((spec_NameOk.f k ((rd_T58 x0 x3).f1)).bind fun t150 => (if t150 = true then ((spec_l01In.f (((rd_T58 x0 x3).f2).length : Int) 1 12).bind fun t151 => (if t151 = true then (if x3 > 0 then (if 0 ≤ (wrap64 (x3 - 1)) then (if (wrap64 (x3 - 1)) < (x0.length : Int) then ((spec_l03Before.f k ((rd_T58 x0 (wrap64 (x3 - 1))).f0) ((rd_T58 x0 (wrap64 (x3 - 1))).f1) ((rd_T58 x0 x3).f0) ((rd_T58 x0 x3).f1)).bind fun t154 => (spec_StoreOk.j1 k x0 x3 (!t154) ((rd_T58 x0 x3).f0) ((rd_T58 x0 x3).f1) ((rd_T58 x0 x3).f2))) else (none)) else (none)) else (spec_StoreOk.j1 k x0 x3 false ((rd_T58 x0 x3).f0) ((rd_T58 x0 x3).f1) ((rd_T58 x0 x3).f2))) else (spec_StoreOk.j1 k x0 x3 true ((rd_T58 x0 x3).f0) ((rd_T58 x0 x3).f1) ((rd_T58 x0 x3).f2)))) else (spec_StoreOk.j1 k x0 x3 true ((rd_T58 x0 x3).f0) ((rd_T58 x0 x3).f1) ((rd_T58 x0 x3).f2)))) else (spec_StoreOk.j1 k x0 x3 true ((rd_T58 x0 x3).f0) ((rd_T58 x0 x3).f1) ((rd_T58 x0 x3).f2)))) else (none)) else (some true)
def spec_StoreOk.j1 : Nat → List (S58) → Int → Bool → ByteArray → ByteArray → List (S31) → Option (Bool)
 | 0, _, _, _, _, _, _ => none
 | k + 1, x0, x3, x59, x149000, x149001, x149002 => if x59 = true then (some false) else (spec_StoreOk.l1 k x0 x3 0 x149000 x149001 x149002)
def spec_StoreOk.l1 : Nat → List (S58) → Int → Int → ByteArray → ByteArray → List (S31) → Option (Bool)
 | 0, _, _, _, _, _, _ => none
 | k + 1, x0, x3, x5, x149000, x149001, x149002 => if x5 < (x149002.length : Int) then (if 0 ≤ x5 then ((spec_l02Tick.f ((rd_T31 x149002 x5).f0)).bind fun t156 => (if t156 = true then ((spec_l01Amt.f ((rd_T31 x149002 x5).f1)).bind fun t158 => (if t158 = true then (if x5 > 0 then (if 0 ≤ (wrap64 (x5 - 1)) then (if (wrap64 (x5 - 1)) < (x149002.length : Int) then (if ((rd_T31 x149002 (wrap64 (x5 - 1))).f0) ≥ ((rd_T31 x149002 x5).f0) then (some false) else (spec_StoreOk.l1 k x0 x3 (wrap64 (x5 + 1)) x149000 x149001 x149002)) else (none)) else (none)) else (spec_StoreOk.l1 k x0 x3 (wrap64 (x5 + 1)) x149000 x149001 x149002)) else (some false))) else (some false))) else (none)) else (spec_StoreOk.l0 k x0 (wrap64 (x3 + 1)))
end
def spec_StoreOk.f (k : Nat) (l0 : List (S58)) : Option (Bool) := if (l0.length : Int) > 24 then (some false) else (spec_StoreOk.l0 k l0 0)
theorem spec_StoreOk.mono_l : ∀ k, (∀ y0 y1, LeO (spec_StoreOk.l0 k y0 y1) (spec_StoreOk.l0 (k + 1) y0 y1)) ∧ (∀ y0 y1 y2 y3 y4 y5, LeO (spec_StoreOk.j1 k y0 y1 y2 y3 y4 y5) (spec_StoreOk.j1 (k + 1) y0 y1 y2 y3 y4 y5)) ∧ (∀ y0 y1 y2 y3 y4 y5, LeO (spec_StoreOk.l1 k y0 y1 y2 y3 y4 y5) (spec_StoreOk.l1 (k + 1) y0 y1 y2 y3 y4 y5))
 | 0 => ⟨fun _ _ r h => by simp [spec_StoreOk.l0] at h, fun _ _ _ _ _ _ r h => by simp [spec_StoreOk.j1] at h, fun _ _ _ _ _ _ r h => by simp [spec_StoreOk.l1] at h⟩
 | k + 1 => by
  obtain ⟨ih0, ih1, ih2⟩ := spec_StoreOk.mono_l k
  refine ⟨?_, ?_, ?_⟩
  ·
   intro y0 y1
   unfold spec_StoreOk.l0
   repeat' first
   | (with_reducible exact ih0 _ _)
   | (with_reducible exact ih1 _ _ _ _ _ _)
   | (with_reducible exact ih2 _ _ _ _ _ _)
   | (with_reducible exact spec_NameOk.mono _ _)
   | (with_reducible exact spec_l03Before.mono _ _ _ _ _)
   | (with_reducible exact LeO.refl _)
   | (with_reducible exact LeO.none _)
   | (with_reducible refine LeO.ite ?_ ?_)
   | (with_reducible refine LeO.bind ?_ (fun _ => ?_))
   | exact ih0 _ _
   | exact ih1 _ _ _ _ _ _
   | exact ih2 _ _ _ _ _ _
   | exact spec_NameOk.mono _ _
   | exact spec_l03Before.mono _ _ _ _ _
   | exact LeO.none _
   | refine LeO.ite ?_ ?_
   | refine LeO.bind ?_ (fun _ => ?_)
  ·
   intro y0 y1 y2 y3 y4 y5
   unfold spec_StoreOk.j1
   repeat' first
   | (with_reducible exact ih0 _ _)
   | (with_reducible exact ih1 _ _ _ _ _ _)
   | (with_reducible exact ih2 _ _ _ _ _ _)
   | (with_reducible exact spec_NameOk.mono _ _)
   | (with_reducible exact spec_l03Before.mono _ _ _ _ _)
   | (with_reducible exact LeO.refl _)
   | (with_reducible exact LeO.none _)
   | (with_reducible refine LeO.ite ?_ ?_)
   | (with_reducible refine LeO.bind ?_ (fun _ => ?_))
   | exact ih0 _ _
   | exact ih1 _ _ _ _ _ _
   | exact ih2 _ _ _ _ _ _
   | exact spec_NameOk.mono _ _
   | exact spec_l03Before.mono _ _ _ _ _
   | exact LeO.none _
   | refine LeO.ite ?_ ?_
   | refine LeO.bind ?_ (fun _ => ?_)
  ·
   intro y0 y1 y2 y3 y4 y5
   unfold spec_StoreOk.l1
   repeat' first
   | (with_reducible exact ih0 _ _)
   | (with_reducible exact ih1 _ _ _ _ _ _)
   | (with_reducible exact ih2 _ _ _ _ _ _)
   | (with_reducible exact spec_NameOk.mono _ _)
   | (with_reducible exact spec_l03Before.mono _ _ _ _ _)
   | (with_reducible exact LeO.refl _)
   | (with_reducible exact LeO.none _)
   | (with_reducible refine LeO.ite ?_ ?_)
   | (with_reducible refine LeO.bind ?_ (fun _ => ?_))
   | exact ih0 _ _
   | exact ih1 _ _ _ _ _ _
   | exact ih2 _ _ _ _ _ _
   | exact spec_NameOk.mono _ _
   | exact spec_l03Before.mono _ _ _ _ _
   | exact LeO.none _
   | refine LeO.ite ?_ ?_
   | refine LeO.bind ?_ (fun _ => ?_)
theorem spec_StoreOk.mono : ∀ a0 k, LeO (spec_StoreOk.f k a0) (spec_StoreOk.f (k + 1) a0) := by
 intro a0 k
 obtain ⟨ih0, ih1, ih2⟩ := spec_StoreOk.mono_l k
 unfold spec_StoreOk.f
 repeat' first
   | (with_reducible exact ih0 _ _)
   | (with_reducible exact ih1 _ _ _ _ _ _)
   | (with_reducible exact ih2 _ _ _ _ _ _)
   | (with_reducible exact spec_NameOk.mono _ _)
   | (with_reducible exact spec_l03Before.mono _ _ _ _ _)
   | (with_reducible exact LeO.refl _)
   | (with_reducible exact LeO.none _)
   | (with_reducible refine LeO.ite ?_ ?_)
   | (with_reducible refine LeO.bind ?_ (fun _ => ?_))
   | exact ih0 _ _
   | exact ih1 _ _ _ _ _ _
   | exact ih2 _ _ _ _ _ _
   | exact spec_NameOk.mono _ _
   | exact spec_l03Before.mono _ _ _ _ _
   | exact LeO.none _
   | refine LeO.ite ?_ ?_
   | refine LeO.bind ?_ (fun _ => ?_)
def spec_StoreOk.T7 : Bool × List (List Nat × List Nat) := (true, [([], []), ([0], [0]), ([1], [1]), ([2], [2]), ([3, 2], [3]), ([4], [4]), ([5, 4], [4, 5]), ([6, 4, 4], [4, 6]), ([7, 4], [4, 7]), ([4, 8], [4, 8]), ([9, 7], [9]), ([10], [10]), ([11, 10], [10, 11]), ([12, 10], [10, 12]), ([13, 10, 10], [10, 13]), ([14, 10], [10, 14]), ([10, 15], [10, 15]), ([16, 14], [16]), ([17], [17]), ([18, 17], [17, 18]), ([19, 17, 17], [17, 19]), ([20], [20]), ([20], [20]), ([22, 20], [20, 22]), ([21, 23, 20], [20, 21, 23]), ([24, 20], [20, 24]), ([25, 20], [20, 25]), ([20], [20]), ([20], [20]), ([28, 20], [20, 28]), ([27, 29, 20], [20, 27, 29]), ([30, 20], [20, 30]), ([31, 20], [20, 31]), ([20], [20]), ([33, 20], [20, 33]), ([20], [20]), ([35, 20], [20, 35]), ([26, 32, 34, 36, 20, 20], [20, 26, 32, 34, 36]), ([37, 20], [20, 37]), ([20, 38, 17], [17, 20, 38]), ([17, 39], [17, 39])])
def spec_StoreOk.B7 : List Nat := [0, 1, 3, 7, 15, 31, 63, 127, 255, 511, 1023, 2047, 4095, 8191, 16383, 32767, 65535, 131071, 262143, 524287, 1048575, 2097151, 2097151, 6291455, 16777215, 33554431, 67108863, 2097151, 2097151, 270532607, 941621247, 2015363071, 4162846719, 2097151, 8592031743, 2097151, 34361835519, 137438953471, 274877906943, 549755813887, 1099511627775]
theorem spec_StoreOk.tab7 : rtab .any (opsOf Try.f9 7) = spec_StoreOk.T7 := by kernel_rfl
theorem spec_StoreOk.bits7 : waitsOk spec_StoreOk.T7.2 spec_StoreOk.B7 = true := by kernel_rfl
def spec_StoreOk.T12 : Bool × List (List Nat × List Nat) := (true, [([], []), ([0], [0]), ([], []), ([1, 2], [1, 2]), ([3], [3]), ([4], [4]), ([5], [5]), ([6], [6]), ([7, 6], [7]), ([8], [8]), ([9, 8], [8, 9]), ([8], [8]), ([10, 11, 8], [8, 10, 11]), ([12, 8], [8, 12]), ([13, 8], [8, 13]), ([14, 8, 8], [8, 14]), ([15, 8], [8, 15]), ([8, 16], [8, 16]), ([17, 15], [17]), ([18], [18]), ([19, 18], [18, 19]), ([20, 18, 18], [18, 20]), ([21], [21]), ([22, 21], [21, 22]), ([21], [21]), ([24, 21], [21, 24]), ([23, 25, 21], [21, 23, 25]), ([26, 21], [21, 26]), ([27, 21], [21, 27]), ([21], [21]), ([29, 21], [21, 29]), ([21], [21]), ([30, 31, 21], [21, 30, 31]), ([32, 21], [21, 32]), ([33, 21], [21, 33]), ([28, 34, 21], [21, 28, 34]), ([21, 35, 18], [18, 21, 35]), ([18, 36], [18, 36])])
def spec_StoreOk.B12 : List Nat := [0, 1, 0, 7, 15, 31, 63, 127, 255, 511, 1023, 511, 4095, 8191, 16383, 32767, 65535, 131071, 262143, 524287, 1048575, 2097151, 4194303, 8388607, 4194303, 20971519, 67108863, 134217727, 268435455, 4194303, 541065215, 4194303, 3762290687, 8057257983, 16647192575, 34359738367, 68719476735, 137438953471]
theorem spec_StoreOk.tab12 : rtab .any (opsOf Try.f9 12) = spec_StoreOk.T12 := by kernel_rfl
theorem spec_StoreOk.bits12 : waitsOk spec_StoreOk.T12.2 spec_StoreOk.B12 = true := by kernel_rfl
set_option maxHeartbeats 8000000 in
set_option maxRecDepth 100000 in
theorem spec_StoreOk.calls (k : Nat) (A0 : Option Addr) (c0 : Nat) (l0 : List (S58)) (r : Bool) (w : World) (hr0 : Kd.C k58 w A0 l0.length l0) (hc0 : l0.length ≤ c0) (h : spec_StoreOk.f k l0 = some r) :
  Calls Try.prog 9 #[.slice A0 l0.length c0] w fun e w' => e = .returned (.bool r) ∧ Below w.heap.size w w' := by
 have hu58 := Try.underlying58
 have HR0 := Aside0.mk hr0
 have HC0 := Aside0.mk hc0
 clear hr0 hc0
 have HB := Aside0.mk (Below.refl w.heap.size w)
 have H : (if (l0.length : Int) > 24 then (some false) else (spec_StoreOk.l0 k l0 0)) = some r := h
 clear h
 by_cases c2 : (l0.length : Int) > 24
 ·
  rw [if_pos c2] at H
  have c2b0 : decide (24 < (l0.length : Int)) = true := decide_eq_true c2
  have c2b1 : decide (24 < l0.length) = true := decide_eq_true (by omega)
  clear c2
  obtain rfl := Option.some.inj H
  go_enter Try.func9, Try.ntmps9
  go_wp2
  go_ret
  exact ⟨by first | rfl | (simp [errW_none, errW_some] <;> rfl) | (simp [*, errW_none, errW_some] <;> rfl), by repeat (first | (with_reducible first | exact HB.out | apply below_alloc | apply pw_below_drewN | apply below_drew1) | exact HB.out)⟩
 ·
  rw [if_neg c2] at H
  have c2b0 : decide (24 < (l0.length : Int)) = false := decide_eq_false c2
  have c2b1 : decide (24 < l0.length) = false := decide_eq_false (by omega)
  clear c2
  have H' := Aside0.mk H
  clear H
  go_enter Try.func9, Try.ntmps9
  go_wp2
  go_loopg [3] k (fun kq v3 w' => ∃ (x3_1 : Int), v3 = .int .i64 x3_1 ∧ Aside0 (spec_StoreOk.l0 kq l0 x3_1 = some r) ∧ Aside0 (kq ≤ k) ∧ Aside0 (Below w.heap.size w w'))
  case atStart => exact ⟨(0), (by first | rfl | (simp; done) | (simp [*]; done)), H', ⟨Nat.le_refl _⟩, ⟨by repeat (first | (with_reducible first | exact HB.out | apply below_alloc | apply pw_below_drewN | apply below_drew1) | exact HB.out)⟩⟩
  case round =>
   clear H'
   try clear c2
   try clear c2b0
   try clear c2b1
   try clear p2
   obtain ⟨x3_1, rfl, HA, HK1, HB⟩ := hrel
   cases gk with
   | zero => exact absurd HA.out (by simp [spec_StoreOk.l0])
   | succ k1 =>
    have H := HA.out
    clear HA
    simp only [spec_StoreOk.l0] at H
    by_cases c3 : x3_1 < (l0.length : Int)
    ·
     rw [if_pos c3] at H
     have c3b0 : decide (x3_1 < (l0.length : Int)) = true := decide_eq_true c3
     clear c3
     by_cases c4 : 0 ≤ x3_1
     ·
      rw [if_pos c4] at H
      have c4b0 : decide (0 ≤ x3_1) = true := decide_eq_true c4
      clear c4
      have HC5 := Aside0.mk H
      clear H
      have p147 : 0 ≤ (x3_1 : Int) := of_decide_eq_true (by first | (with_reducible assumption) | assumption)
      have q147 : x3_1 < (l0.length : Int) := of_decide_eq_true (by first | (with_reducible assumption) | assumption)
      obtain ⟨ad147, A147_2, c147_2, e147, hx147_0, hx147_1, hx147_2, hl147_2, hi147_2⟩ := at_T58 HR0.out x3_1 p147 q147
      cases e147
      replace hx147_0 := (HB.out.cell (World.block_lt_of_cell? w _ hx147_0)).trans hx147_0
      replace hx147_1 := (HB.out.cell (World.block_lt_of_cell? w _ hx147_1)).trans hx147_1
      replace hx147_2 := (HB.out.cell (World.block_lt_of_cell? w _ hx147_2)).trans hx147_2
      have HR147_2 := Aside0.mk hi147_2
      have HC147_2 := Aside0.mk hl147_2
      clear hi147_2 hl147_2
      replace p147 := eq_true p147
      replace q147 := eq_true q147
      go_upto_region 7 with (first | ((with_reducible refine gate_dst (N := 4) rfl ?_); (try (refine gate_guard (by rfl) ?_; dsimp only)); refine box_event ?hg (N := 4) ?hd (cs := #[.string (⟨#[]⟩ : ByteArray), .string (⟨#[]⟩ : ByteArray), .slice none 0 0]) (t := 58) ?hr ?_; (case hd => rfl); (case hg => rfl); (case hr => first | (go_simp; done) | (go_simp; rfl)); intro gb148 hg w6 hbox hb; have n0_ := Aside0.mk (below_step Pst.bel hb); have n1_ := Aside0.mk (hbox); have n2_ := Aside0.mk ((by rw [hg]; exact (below_size Pst.bel) : w.heap.size ≤ gb148)); have n3_ := Aside0.mk ((by rw [hg]; exact (below_size Pst.bel) : w.heap.size ≤ gb148)); clear HB; have HB := n0_; have BK148 := n1_; have GW148 := n2_; have GE148 := n3_; clear n0_ n1_ n2_ n3_; clear hb hbox hg; obtain ⟨hcz7_0, hcz7_1, hcz7_2⟩ := Pst.c3 BK148.out; obtain ⟨hfz7_0, hfz7_1, hfz7_2⟩ := Pst.f3 BK148.out))
      (try simp only [Act.put, List.setIfInBounds_toArray, List.set_cons_zero, List.set_cons_succ])
      go_cut [59] (fun v59 wc => ∃ (kq : Nat) (x59_4 : Bool), v59 = .bool x59_4 ∧ Aside0 (spec_StoreOk.j1 kq l0 x3_1 x59_4 ((rd_T58 l0 x3_1).f0) ((rd_T58 l0 x3_1).f1) ((rd_T58 l0 x3_1).f2) = some r) ∧ Aside0 (kq ≤ k1) ∧ Aside0 (wc.heap[gb148]? = some (.cells #[.string ((rd_T58 l0 x3_1).f0), .string ((rd_T58 l0 x3_1).f1), (.slice A147_2 ((rd_T58 l0 x3_1).f2).length c147_2)] 58 (0, 0))) ∧ Aside0 (Below w.heap.size w wc))
      case first =>
       have H := HC5.out
       clear HC5
       replace H := Option.bind_eq_some_iff.mp H
       obtain ⟨t149, A80, H⟩ := H
       replace H : (if t149 = true then ((spec_NameOk.f k1 ((rd_T58 l0 x3_1).f1)).bind fun t150 => (if t150 = true then ((spec_l01In.f (((rd_T58 l0 x3_1).f2).length : Int) 1 12).bind fun t151 => (if t151 = true then (if x3_1 > 0 then (if 0 ≤ (wrap64 (x3_1 - 1)) then (if (wrap64 (x3_1 - 1)) < (l0.length : Int) then ((spec_l03Before.f k1 ((rd_T58 l0 (wrap64 (x3_1 - 1))).f0) ((rd_T58 l0 (wrap64 (x3_1 - 1))).f1) ((rd_T58 l0 x3_1).f0) ((rd_T58 l0 x3_1).f1)).bind fun t154 => (spec_StoreOk.j1 k1 l0 x3_1 (!t154) ((rd_T58 l0 x3_1).f0) ((rd_T58 l0 x3_1).f1) ((rd_T58 l0 x3_1).f2))) else (none)) else (none)) else (spec_StoreOk.j1 k1 l0 x3_1 false ((rd_T58 l0 x3_1).f0) ((rd_T58 l0 x3_1).f1) ((rd_T58 l0 x3_1).f2))) else (spec_StoreOk.j1 k1 l0 x3_1 true ((rd_T58 l0 x3_1).f0) ((rd_T58 l0 x3_1).f1) ((rd_T58 l0 x3_1).f2)))) else (spec_StoreOk.j1 k1 l0 x3_1 true ((rd_T58 l0 x3_1).f0) ((rd_T58 l0 x3_1).f1) ((rd_T58 l0 x3_1).f2)))) else (spec_StoreOk.j1 k1 l0 x3_1 true ((rd_T58 l0 x3_1).f0) ((rd_T58 l0 x3_1).f1) ((rd_T58 l0 x3_1).f2))) = some r := H
       have A8 := Aside0.mk A80
       clear A80
       by_cases c9 : t149 = true
       ·
        subst c9
        have H1 : ((spec_NameOk.f k1 ((rd_T58 l0 x3_1).f1)).bind fun t150 => (if t150 = true then ((spec_l01In.f (((rd_T58 l0 x3_1).f2).length : Int) 1 12).bind fun t151 => (if t151 = true then (if x3_1 > 0 then (if 0 ≤ (wrap64 (x3_1 - 1)) then (if (wrap64 (x3_1 - 1)) < (l0.length : Int) then ((spec_l03Before.f k1 ((rd_T58 l0 (wrap64 (x3_1 - 1))).f0) ((rd_T58 l0 (wrap64 (x3_1 - 1))).f1) ((rd_T58 l0 x3_1).f0) ((rd_T58 l0 x3_1).f1)).bind fun t154 => (spec_StoreOk.j1 k1 l0 x3_1 (!t154) ((rd_T58 l0 x3_1).f0) ((rd_T58 l0 x3_1).f1) ((rd_T58 l0 x3_1).f2))) else (none)) else (none)) else (spec_StoreOk.j1 k1 l0 x3_1 false ((rd_T58 l0 x3_1).f0) ((rd_T58 l0 x3_1).f1) ((rd_T58 l0 x3_1).f2))) else (spec_StoreOk.j1 k1 l0 x3_1 true ((rd_T58 l0 x3_1).f0) ((rd_T58 l0 x3_1).f1) ((rd_T58 l0 x3_1).f2)))) else (spec_StoreOk.j1 k1 l0 x3_1 true ((rd_T58 l0 x3_1).f0) ((rd_T58 l0 x3_1).f1) ((rd_T58 l0 x3_1).f2)))) = some r := by rw [if_pos rfl] at H; exact H
        clear H
        have H := H1
        clear H1
        replace H := Option.bind_eq_some_iff.mp H
        obtain ⟨t150, A100, H⟩ := H
        replace H : (if t150 = true then ((spec_l01In.f (((rd_T58 l0 x3_1).f2).length : Int) 1 12).bind fun t151 => (if t151 = true then (if x3_1 > 0 then (if 0 ≤ (wrap64 (x3_1 - 1)) then (if (wrap64 (x3_1 - 1)) < (l0.length : Int) then ((spec_l03Before.f k1 ((rd_T58 l0 (wrap64 (x3_1 - 1))).f0) ((rd_T58 l0 (wrap64 (x3_1 - 1))).f1) ((rd_T58 l0 x3_1).f0) ((rd_T58 l0 x3_1).f1)).bind fun t154 => (spec_StoreOk.j1 k1 l0 x3_1 (!t154) ((rd_T58 l0 x3_1).f0) ((rd_T58 l0 x3_1).f1) ((rd_T58 l0 x3_1).f2))) else (none)) else (none)) else (spec_StoreOk.j1 k1 l0 x3_1 false ((rd_T58 l0 x3_1).f0) ((rd_T58 l0 x3_1).f1) ((rd_T58 l0 x3_1).f2))) else (spec_StoreOk.j1 k1 l0 x3_1 true ((rd_T58 l0 x3_1).f0) ((rd_T58 l0 x3_1).f1) ((rd_T58 l0 x3_1).f2)))) else (spec_StoreOk.j1 k1 l0 x3_1 true ((rd_T58 l0 x3_1).f0) ((rd_T58 l0 x3_1).f1) ((rd_T58 l0 x3_1).f2))) = some r := H
        have A10 := Aside0.mk A100
        clear A100
        by_cases c11 : t150 = true
        ·
         subst c11
         have H1 : ((spec_l01In.f (((rd_T58 l0 x3_1).f2).length : Int) 1 12).bind fun t151 => (if t151 = true then (if x3_1 > 0 then (if 0 ≤ (wrap64 (x3_1 - 1)) then (if (wrap64 (x3_1 - 1)) < (l0.length : Int) then ((spec_l03Before.f k1 ((rd_T58 l0 (wrap64 (x3_1 - 1))).f0) ((rd_T58 l0 (wrap64 (x3_1 - 1))).f1) ((rd_T58 l0 x3_1).f0) ((rd_T58 l0 x3_1).f1)).bind fun t154 => (spec_StoreOk.j1 k1 l0 x3_1 (!t154) ((rd_T58 l0 x3_1).f0) ((rd_T58 l0 x3_1).f1) ((rd_T58 l0 x3_1).f2))) else (none)) else (none)) else (spec_StoreOk.j1 k1 l0 x3_1 false ((rd_T58 l0 x3_1).f0) ((rd_T58 l0 x3_1).f1) ((rd_T58 l0 x3_1).f2))) else (spec_StoreOk.j1 k1 l0 x3_1 true ((rd_T58 l0 x3_1).f0) ((rd_T58 l0 x3_1).f1) ((rd_T58 l0 x3_1).f2)))) = some r := by rw [if_pos rfl] at H; exact H
         clear H
         have H := H1
         clear H1
         replace H := Option.bind_eq_some_iff.mp H
         obtain ⟨t151, A120, H⟩ := H
         replace H : (if t151 = true then (if x3_1 > 0 then (if 0 ≤ (wrap64 (x3_1 - 1)) then (if (wrap64 (x3_1 - 1)) < (l0.length : Int) then ((spec_l03Before.f k1 ((rd_T58 l0 (wrap64 (x3_1 - 1))).f0) ((rd_T58 l0 (wrap64 (x3_1 - 1))).f1) ((rd_T58 l0 x3_1).f0) ((rd_T58 l0 x3_1).f1)).bind fun t154 => (spec_StoreOk.j1 k1 l0 x3_1 (!t154) ((rd_T58 l0 x3_1).f0) ((rd_T58 l0 x3_1).f1) ((rd_T58 l0 x3_1).f2))) else (none)) else (none)) else (spec_StoreOk.j1 k1 l0 x3_1 false ((rd_T58 l0 x3_1).f0) ((rd_T58 l0 x3_1).f1) ((rd_T58 l0 x3_1).f2))) else (spec_StoreOk.j1 k1 l0 x3_1 true ((rd_T58 l0 x3_1).f0) ((rd_T58 l0 x3_1).f1) ((rd_T58 l0 x3_1).f2))) = some r := H
         have A12 := Aside0.mk A120
         clear A120
         by_cases c13 : t151 = true
         ·
          subst c13
          have H1 : (if x3_1 > 0 then (if 0 ≤ (wrap64 (x3_1 - 1)) then (if (wrap64 (x3_1 - 1)) < (l0.length : Int) then ((spec_l03Before.f k1 ((rd_T58 l0 (wrap64 (x3_1 - 1))).f0) ((rd_T58 l0 (wrap64 (x3_1 - 1))).f1) ((rd_T58 l0 x3_1).f0) ((rd_T58 l0 x3_1).f1)).bind fun t154 => (spec_StoreOk.j1 k1 l0 x3_1 (!t154) ((rd_T58 l0 x3_1).f0) ((rd_T58 l0 x3_1).f1) ((rd_T58 l0 x3_1).f2))) else (none)) else (none)) else (spec_StoreOk.j1 k1 l0 x3_1 false ((rd_T58 l0 x3_1).f0) ((rd_T58 l0 x3_1).f1) ((rd_T58 l0 x3_1).f2))) = some r := by rw [if_pos rfl] at H; exact H
          clear H
          have H := H1
          clear H1
          by_cases c14 : x3_1 > 0
          ·
           rw [if_pos c14] at H
           have c14b0 : decide (0 < x3_1) = true := decide_eq_true c14
           clear c14
           (first | rw [c14b0] | (simp only [i64_w, i32_w]; rw [c14b0]) | skip)
           obtain ⟨ji15, hji15⟩ : ∃ j_ : Int, (wrap64 (x3_1 - 1)) = j_ := ⟨_, rfl⟩
           replace H : (if 0 ≤ (ji15) then (if (ji15) < (l0.length : Int) then ((spec_l03Before.f k1 ((rd_T58 l0 (ji15)).f0) ((rd_T58 l0 (ji15)).f1) ((rd_T58 l0 x3_1).f0) ((rd_T58 l0 x3_1).f1)).bind fun t154 => (spec_StoreOk.j1 k1 l0 x3_1 (!t154) ((rd_T58 l0 x3_1).f0) ((rd_T58 l0 x3_1).f1) ((rd_T58 l0 x3_1).f2))) else (none)) else (none)) = some r := by first | (rw [hji15] at H; exact H) | (simp only [hji15] at H ⊢; exact H)
           (try rw [hji15] at A8)
           (try rw [hji15] at A10)
           (try rw [hji15] at A12)
           have hji15w : (IntKind.i64.wrap (x3_1 - 1)) = ji15 := (i64_w _).trans hji15
           by_cases c16 : 0 ≤ (ji15)
           ·
            rw [if_pos c16] at H
            have c16b0 : decide (0 ≤ (ji15)) = true := decide_eq_true c16
            clear c16
            by_cases c17 : (ji15) < (l0.length : Int)
            ·
             rw [if_pos c17] at H
             have c17b0 : decide ((ji15) < (l0.length : Int)) = true := decide_eq_true c17
             clear c17
             replace H := Option.bind_eq_some_iff.mp H
             obtain ⟨t154, A180, H⟩ := H
             replace H : (spec_StoreOk.j1 k1 l0 x3_1 (!t154) ((rd_T58 l0 x3_1).f0) ((rd_T58 l0 x3_1).f1) ((rd_T58 l0 x3_1).f2)) = some r := H
             have A18 := Aside0.mk A180
             clear A180
             have H' := Aside0.mk H
             clear H
             try go_wp2
             have n0_ : Aside0 ((((w6.setCell ⟨gb148, 0, none⟩ (.string ((rd_T58 l0 x3_1).f0))).setCell ⟨gb148, 1, none⟩ (.string ((rd_T58 l0 x3_1).f1))).setCell ⟨gb148, 2, none⟩ (.slice A147_2 ((rd_T58 l0 x3_1).f2).length c147_2)).heap[gb148]? = some (.cells #[.string ((rd_T58 l0 x3_1).f0), .string ((rd_T58 l0 x3_1).f1), .slice A147_2 ((rd_T58 l0 x3_1).f2).length c147_2] 58 (0, 0))) := ⟨by (with_reducible repeat (first | refine blk_drewN ?_ _ | refine blk_drew ?_ | refine blk_alloc ?_ _)); refine blk_put (cs := #[.string ((rd_T58 l0 x3_1).f0), .string ((rd_T58 l0 x3_1).f1), .slice none 0 0]) ?_ 2 _ rfl; (with_reducible repeat (first | refine blk_drewN ?_ _ | refine blk_drew ?_ | refine blk_alloc ?_ _)); refine blk_put (cs := #[.string ((rd_T58 l0 x3_1).f0), .string (⟨#[]⟩ : ByteArray), .slice none 0 0]) ?_ 1 _ rfl; (with_reducible repeat (first | refine blk_drewN ?_ _ | refine blk_drew ?_ | refine blk_alloc ?_ _)); refine blk_put (cs := #[.string (⟨#[]⟩ : ByteArray), .string (⟨#[]⟩ : ByteArray), .slice none 0 0]) ?_ 0 _ rfl; (with_reducible repeat (first | refine blk_drewN ?_ _ | refine blk_drew ?_ | refine blk_alloc ?_ _)); exact BK148.out⟩
             have n1_ : Aside0 (Below w.heap.size w (((w6.setCell ⟨gb148, 0, none⟩ (.string ((rd_T58 l0 x3_1).f0))).setCell ⟨gb148, 1, none⟩ (.string ((rd_T58 l0 x3_1).f1))).setCell ⟨gb148, 2, none⟩ (.slice A147_2 ((rd_T58 l0 x3_1).f2).length c147_2))) := ⟨by repeat (first | (with_reducible first | exact HB.out | apply below_alloc | apply pw_below_drewN | apply below_drew1 | refine below_set ?_ GE148.out) | exact HB.out)⟩
             (try clear BK148)
             (try clear HB)
             generalize (((w6.setCell ⟨gb148, 0, none⟩ (.string ((rd_T58 l0 x3_1).f0))).setCell ⟨gb148, 1, none⟩ (.string ((rd_T58 l0 x3_1).f1))).setCell ⟨gb148, 2, none⟩ (.slice A147_2 ((rd_T58 l0 x3_1).f2).length c147_2)) = w19 at n0_ n1_ ⊢
             have BK148 := n0_
             have HB := n1_
             clear n0_ n1_
             have n0_ := Aside0.mk (blk_drew BK148.out)
             have n1_ := Aside0.mk (below_drew1 HB.out)
             clear BK148
             clear HB
             have BK148 := n0_
             have HB := n1_
             clear n0_ n1_
             have p152 : 0 ≤ ((ji15) : Int) := of_decide_eq_true (by first | (with_reducible assumption) | assumption)
             have q152 : (ji15) < (l0.length : Int) := of_decide_eq_true (by first | (with_reducible assumption) | assumption)
             obtain ⟨ad152, A152_2, c152_2, e152, hx152_0, hx152_1, hx152_2, hl152_2, hi152_2⟩ := at_T58 HR0.out (ji15) p152 q152
             have hw152_2 := hx152_2
             have hw152_1 := hx152_1
             have hw152_0 := hx152_0
             obtain rfl : ad147 = ad152 := (by injection e152)
             replace hx152_0 := (HB.out.cell (World.block_lt_of_cell? w _ hx152_0)).trans hx152_0
             replace hx152_1 := (HB.out.cell (World.block_lt_of_cell? w _ hx152_1)).trans hx152_1
             replace hx152_2 := (HB.out.cell (World.block_lt_of_cell? w _ hx152_2)).trans hx152_2
             have HR152_2 := Aside0.mk hi152_2
             have HC152_2 := Aside0.mk hl152_2
             clear hi152_2 hl152_2
             replace p152 := eq_true p152
             replace q152 := eq_true q152
             have p153 : 0 ≤ ((ji15) : Int) := of_decide_eq_true (by first | (with_reducible assumption) | assumption)
             have q153 : (ji15) < (l0.length : Int) := of_decide_eq_true (by first | (with_reducible assumption) | assumption)
             obtain ⟨ad153, A153_2, c153_2, e153, hx153_0, hx153_1, hx153_2, hl153_2, hi153_2⟩ := at_T58 HR0.out (ji15) p153 q153
             have hw153_2 := hx153_2
             have hw153_1 := hx153_1
             have hw153_0 := hx153_0
             obtain rfl : ad147 = ad153 := (by injection e153)
             replace hx153_0 := (HB.out.cell (World.block_lt_of_cell? w _ hx153_0)).trans hx153_0
             replace hx153_1 := (HB.out.cell (World.block_lt_of_cell? w _ hx153_1)).trans hx153_1
             replace hx153_2 := (HB.out.cell (World.block_lt_of_cell? w _ hx153_2)).trans hx153_2
             have HR153_2 := Aside0.mk hi153_2
             have HC153_2 := Aside0.mk hl153_2
             clear hi153_2 hl153_2
             replace p153 := eq_true p153
             replace q153 := eq_true q153
             have ea_ := Option.some.inj (hx152_2.symm.trans hx153_2)
             injection ea_ with ea_ en_ ec_
             subst ea_
             subst ec_
             clear en_
             refine start_ (n := 41) (S := fun w' => w'.cell? ⟨gb148, 0, none⟩ = some (.string ((rd_T58 l0 x3_1).f0)) ∧ w'.cell? ⟨gb148, 1, none⟩ = some (.string ((rd_T58 l0 x3_1).f1)) ∧ w'.cell? ⟨gb148, 2, none⟩ = some (.slice A147_2 ((rd_T58 l0 x3_1).f2).length c147_2) ∧ w'.cell? (ad147.add (((ji15)).toNat * 3)) = some (.string ((rd_T58 l0 (ji15)).f0)) ∧ w'.cell? ⟨(ad147.add (((ji15)).toNat * 3)).block, (ad147.add (((ji15)).toNat * 3)).off + 1, none⟩ = some (.string ((rd_T58 l0 (ji15)).f1)) ∧ w'.cell? ⟨(ad147.add (((ji15)).toNat * 3)).block, (ad147.add (((ji15)).toNat * 3)).off + 2, none⟩ = some (.slice A152_2 ((rd_T58 l0 (ji15)).f2).length c152_2) ∧ w'.cell? (ad147.add (((ji15)).toNat * 3)) = some (.string ((rd_T58 l0 (ji15)).f0)) ∧ w'.cell? ⟨(ad147.add (((ji15)).toNat * 3)).block, (ad147.add (((ji15)).toNat * 3)).off + 1, none⟩ = some (.string ((rd_T58 l0 (ji15)).f1)) ∧ w'.cell? ⟨(ad147.add (((ji15)).toNat * 3)).block, (ad147.add (((ji15)).toNat * 3)).off + 2, none⟩ = some (.slice A152_2 ((rd_T58 l0 (ji15)).f2).length c152_2)) (ds := []) q0_9 (by kernel_rfl) rfl rfl ⟨(blk_cell BK148.out 0).trans rfl, (blk_cell BK148.out 1).trans rfl, (blk_cell BK148.out 2).trans rfl, ((HB.out.cell (World.block_lt_of_cell? w _ hw152_0)).trans hw152_0), ((HB.out.cell (World.block_lt_of_cell? w _ hw152_1)).trans hw152_1), ((HB.out.cell (World.block_lt_of_cell? w _ hw152_2)).trans hw152_2), ((HB.out.cell (World.block_lt_of_cell? w _ hw153_0)).trans hw153_0), ((HB.out.cell (World.block_lt_of_cell? w _ hw153_1)).trans hw153_1), ((HB.out.cell (World.block_lt_of_cell? w _ hw153_2)).trans hw153_2)⟩ (fun hHeld => ?_); refine with_tabW spec_StoreOk.tab7 spec_StoreOk.bits7 (fun HT_ HW_ => ?_)
             generalize w19.drew = w20 at BK148 HB HR152_2 HR153_2 hx152_0 hx152_1 hx152_2 hx153_0 hx153_1 hx153_2 hHeld ⊢
             refine pure_ (i := 0) (N := some 19) (v := ?_) (a' := ?_) q1_9 rfl rfl (any_of HT_.out (by kernel_rfl)) (fun _ _ _ h => h) (Or.inl ⟨by rfl, ?_⟩) ?_ ?_
             rotate_left
             ·
              intro w'
              go_simp
              with_reducible rfl
             rotate_left
             ·
              simp only [Pst.all]
              rfl
             refine take_ (i := 1) (N := some 20) (v := ?_) (a' := ?_) q2_9 rfl rfl (take_ofW HT_.out HW_.out (by kernel_rfl)) (fun _ _ _ h => h) (Or.inl ⟨by rfl, ?_⟩) hHeld ?_ ?_
             rotate_left
             ·
              rintro w' ⟨s0, s1, s2, s3, s4, s5, s6, s7, s8⟩
              go_simp
              with_reducible rfl
             rotate_left
             ·
              simp only [Pst.all]
              rfl
             refine one_ (i := 2) (N := some 21) q3_9 rfl rfl (one_of HT_.out (by kernel_rfl)) (by decide) (fun K hK => ?_)
             refine goes_ Try.func30 (by kernel_rfl) rfl #[.string ((rd_T58 l0 x3_1).f0)] (by rfl) rfl rfl (by (try simp only [List.map_toArray, List.map_cons, List.map_nil]); first | done | rfl | (simp only [List.length_drop, List.length_take]; rfl)) ?_
             with_reducible refine (spec_NameOk.calls k1 ((rd_T58 l0 x3_1).f0) true _ A8.out).mono ?_
             rintro e w' ⟨rfl, ⟨nd, rfl⟩⟩
             refine ⟨_, rfl, ?_⟩
             refine hK.out _ _ ⟨(blk_cell BK148.out 0).trans rfl, (blk_cell BK148.out 1).trans rfl, (blk_cell BK148.out 2).trans rfl, ((HB.out.cell (World.block_lt_of_cell? w _ hw152_0)).trans hw152_0), ((HB.out.cell (World.block_lt_of_cell? w _ hw152_1)).trans hw152_1), ((HB.out.cell (World.block_lt_of_cell? w _ hw152_2)).trans hw152_2), ((HB.out.cell (World.block_lt_of_cell? w _ hw153_0)).trans hw153_0), ((HB.out.cell (World.block_lt_of_cell? w _ hw153_1)).trans hw153_1), ((HB.out.cell (World.block_lt_of_cell? w _ hw153_2)).trans hw153_2)⟩ (fun hHeld => ?_)
             clear hK K
             refine norm_ (a' := ?_) ?_ ?_
             rotate_left
             ·
              show Act.put _ (some 21) _ = _
              simp only [Pst.all]
              rfl
             refine pure_ (i := 3) (N := some 22) (v := ?_) (a' := ?_) q4_9 rfl rfl (any_of HT_.out (by kernel_rfl)) (fun _ _ _ h => h) (Or.inl ⟨by rfl, ?_⟩) ?_ ?_
             rotate_left
             ·
              intro w'
              go_simp
              with_reducible rfl
             rotate_left
             ·
              simp only [Pst.all]
              rfl
             refine pure_ (i := 4) (N := some 23) (v := ?_) (a' := ?_) q5_9 rfl rfl (any_of HT_.out (by kernel_rfl)) (fun _ _ _ h => h) (Or.inl ⟨by rfl, ?_⟩) ?_ ?_
             rotate_left
             ·
              intro w'
              go_simp
              with_reducible rfl
             rotate_left
             ·
              simp only [Pst.all]
              rfl
             refine pure_ (i := 5) (N := some 24) (v := ?_) (a' := ?_) q6_9 rfl rfl (any_of HT_.out (by kernel_rfl)) (fun _ _ _ h => h) (Or.inl ⟨by rfl, ?_⟩) ?_ ?_
             rotate_left
             ·
              intro w'
              go_simp
              with_reducible rfl
             rotate_left
             ·
              simp only [Pst.all]
              rfl
             refine take_ (i := 6) (N := some 25) (v := ?_) (a' := ?_) q7_9 rfl rfl (take_ofW HT_.out HW_.out (by kernel_rfl)) (fun _ _ _ h => h) (Or.inl ⟨by rfl, ?_⟩) hHeld ?_ ?_
             rotate_left
             ·
              rintro w' ⟨s0, s1, s2, s3, s4, s5, s6, s7, s8⟩
              go_simp
              with_reducible rfl
             rotate_left
             ·
              simp only [Pst.all]
              rfl
             refine one_ (i := 7) (N := some 26) q8_9 rfl rfl (one_of HT_.out (by kernel_rfl)) (by decide) (fun K hK => ?_)
             refine goes_ Try.func30 (by kernel_rfl) rfl #[.string ((rd_T58 l0 x3_1).f1)] (by rfl) rfl rfl (by (try simp only [List.map_toArray, List.map_cons, List.map_nil]); first | done | rfl | (simp only [List.length_drop, List.length_take]; rfl)) ?_
             with_reducible refine (spec_NameOk.calls k1 ((rd_T58 l0 x3_1).f1) true _ A10.out).mono ?_
             rintro e w' ⟨rfl, ⟨nd, rfl⟩⟩
             refine ⟨_, rfl, ?_⟩
             refine hK.out _ _ ⟨(blk_cell BK148.out 0).trans rfl, (blk_cell BK148.out 1).trans rfl, (blk_cell BK148.out 2).trans rfl, ((HB.out.cell (World.block_lt_of_cell? w _ hw152_0)).trans hw152_0), ((HB.out.cell (World.block_lt_of_cell? w _ hw152_1)).trans hw152_1), ((HB.out.cell (World.block_lt_of_cell? w _ hw152_2)).trans hw152_2), ((HB.out.cell (World.block_lt_of_cell? w _ hw153_0)).trans hw153_0), ((HB.out.cell (World.block_lt_of_cell? w _ hw153_1)).trans hw153_1), ((HB.out.cell (World.block_lt_of_cell? w _ hw153_2)).trans hw153_2)⟩ (fun hHeld => ?_)
             clear hK K
             refine norm_ (a' := ?_) ?_ ?_
             rotate_left
             ·
              show Act.put _ (some 26) _ = _
              simp only [Pst.all]
              rfl
             refine pure_ (i := 8) (N := some 27) (v := ?_) (a' := ?_) q9_9 rfl rfl (any_of HT_.out (by kernel_rfl)) (fun _ _ _ h => h) (Or.inl ⟨by rfl, ?_⟩) ?_ ?_
             rotate_left
             ·
              intro w'
              go_simp
              with_reducible rfl
             rotate_left
             ·
              simp only [Pst.all]
              rfl
             refine pure_ (i := 9) (N := some 28) (v := ?_) (a' := ?_) q10_9 rfl rfl (any_of HT_.out (by kernel_rfl)) (fun _ _ _ h => h) (Or.inl ⟨by rfl, ?_⟩) ?_ ?_
             rotate_left
             ·
              intro w'
              go_simp
              with_reducible rfl
             rotate_left
             ·
              simp only [Pst.all]
              rfl
             refine pure_ (i := 10) (N := some 29) (v := ?_) (a' := ?_) q11_9 rfl rfl (any_of HT_.out (by kernel_rfl)) (fun _ _ _ h => h) (Or.inl ⟨by rfl, ?_⟩) ?_ ?_
             rotate_left
             ·
              intro w'
              go_simp
              with_reducible rfl
             rotate_left
             ·
              simp only [Pst.all]
              rfl
             refine pure_ (i := 11) (N := some 30) (v := ?_) (a' := ?_) q12_9 rfl rfl (any_of HT_.out (by kernel_rfl)) (fun _ _ _ h => h) (Or.inl ⟨by rfl, ?_⟩) ?_ ?_
             rotate_left
             ·
              intro w'
              go_simp
              with_reducible rfl
             rotate_left
             ·
              simp only [Pst.all]
              rfl
             refine take_ (i := 12) (N := some 31) (v := ?_) (a' := ?_) q13_9 rfl rfl (take_ofW HT_.out HW_.out (by kernel_rfl)) (fun _ _ _ h => h) (Or.inl ⟨by rfl, ?_⟩) hHeld ?_ ?_
             rotate_left
             ·
              rintro w' ⟨s0, s1, s2, s3, s4, s5, s6, s7, s8⟩
              go_simp
              with_reducible rfl
             rotate_left
             ·
              simp only [Pst.all]
              rfl
             refine pure_ (i := 13) (N := some 32) (v := ?_) (a' := ?_) q14_9 rfl rfl (any_of HT_.out (by kernel_rfl)) (fun _ _ _ h => h) (Or.inl ⟨by rfl, ?_⟩) ?_ ?_
             rotate_left
             ·
              intro w'
              go_simp
              with_reducible rfl
             rotate_left
             ·
              simp only [Pst.all]
              rfl
             refine one_ (i := 14) (N := some 33) q15_9 rfl rfl (one_of HT_.out (by kernel_rfl)) (by decide) (fun K hK => ?_)
             refine goes_ Try.func31 (by kernel_rfl) rfl #[.int .i64 (((rd_T58 l0 x3_1).f2).length : Int), .int .i64 1, .int .i64 12] (by rfl) rfl rfl (by (try simp only [List.map_toArray, List.map_cons, List.map_nil]); first | done | rfl | (simp only [List.length_drop, List.length_take]; rfl)) ?_
             with_reducible refine (spec_l01In.calls (((rd_T58 l0 x3_1).f2).length : Int) 1 12 true _ A12.out).mono ?_
             rintro e w' ⟨rfl, ⟨nd, rfl⟩⟩
             refine ⟨_, rfl, ?_⟩
             refine hK.out _ _ ⟨(blk_cell BK148.out 0).trans rfl, (blk_cell BK148.out 1).trans rfl, (blk_cell BK148.out 2).trans rfl, ((HB.out.cell (World.block_lt_of_cell? w _ hw152_0)).trans hw152_0), ((HB.out.cell (World.block_lt_of_cell? w _ hw152_1)).trans hw152_1), ((HB.out.cell (World.block_lt_of_cell? w _ hw152_2)).trans hw152_2), ((HB.out.cell (World.block_lt_of_cell? w _ hw153_0)).trans hw153_0), ((HB.out.cell (World.block_lt_of_cell? w _ hw153_1)).trans hw153_1), ((HB.out.cell (World.block_lt_of_cell? w _ hw153_2)).trans hw153_2)⟩ (fun hHeld => ?_)
             clear hK K
             refine norm_ (a' := ?_) ?_ ?_
             rotate_left
             ·
              show Act.put _ (some 33) _ = _
              simp only [Pst.all]
              rfl
             refine pure_ (i := 15) (N := some 34) (v := ?_) (a' := ?_) q16_9 rfl rfl (any_of HT_.out (by kernel_rfl)) (fun _ _ _ h => h) (Or.inl ⟨by rfl, ?_⟩) ?_ ?_
             rotate_left
             ·
              intro w'
              go_simp
              with_reducible rfl
             rotate_left
             ·
              simp only [Pst.all]
              rfl
             refine pure_ (i := 16) (N := some 35) (v := ?_) (a' := ?_) q17_9 rfl rfl (any_of HT_.out (by kernel_rfl)) (fun _ _ _ h => h) (Or.inl ⟨by rfl, ?_⟩) ?_ ?_
             rotate_left
             ·
              intro w'
              go_simp
              with_reducible rfl
             rotate_left
             ·
              simp only [Pst.all]
              rfl
             refine pure_ (i := 17) (N := some 36) (v := ?_) (a' := ?_) q18_9 rfl rfl (any_of HT_.out (by kernel_rfl)) (fun _ _ _ h => h) (Or.inl ⟨by rfl, ?_⟩) ?_ ?_
             rotate_left
             ·
              intro w'
              go_simp
              with_reducible rfl
             rotate_left
             ·
              simp only [Pst.all]
              rfl
             refine pure_ (i := 18) (N := some 37) (v := ?_) (a' := ?_) q19_9 rfl rfl (any_of HT_.out (by kernel_rfl)) (fun _ _ _ h => h) (Or.inl ⟨by rfl, ?_⟩) ?_ ?_
             rotate_left
             ·
              intro w'
              go_simp
              with_reducible rfl
             rotate_left
             ·
              simp only [Pst.all]
              rfl
             refine pure_ (i := 19) (N := some 38) (v := ?_) (a' := ?_) q20_9 rfl rfl (any_of HT_.out (by kernel_rfl)) (fun _ _ _ h => h) (Or.inl ⟨by rfl, ?_⟩) ?_ ?_
             rotate_left
             ·
              intro w'
              go_simp
              with_reducible rfl
             rotate_left
             ·
              simp only [Pst.all]
              rfl
             refine pure_ (i := 20) (N := some 39) (v := ?_) (a' := ?_) q21_9 rfl rfl (any_of HT_.out (by kernel_rfl)) (fun _ _ _ h => h) (Or.inl ⟨by rfl, ?_⟩) ?_ ?_
             rotate_left
             ·
              intro w'
              go_simp
              with_reducible rfl
             rotate_left
             ·
              simp only [Pst.all]
              rfl
             refine pure_ (i := 21) (N := some 40) (v := ?_) (a' := ?_) q22_9 rfl rfl (any_of HT_.out (by kernel_rfl)) (fun _ _ _ h => h) (Or.inl ⟨by rfl, ?_⟩) ?_ ?_
             rotate_left
             ·
              intro w'
              go_simp
              with_reducible rfl
             rotate_left
             ·
              simp only [Pst.all]
              rfl
             refine pure_ (i := 22) (N := some 41) (v := ?_) (a' := ?_) q23_9 rfl rfl (any_of HT_.out (by kernel_rfl)) (fun _ _ _ h => h) (Or.inl ⟨by rfl, ?_⟩) ?_ ?_
             rotate_left
             ·
              intro w'
              go_simp
              with_reducible rfl
             rotate_left
             ·
              simp only [Pst.all]
              rfl
             refine pure_ (i := 23) (N := some 42) (v := ?_) (a' := ?_) q24_9 rfl rfl (any_of HT_.out (by kernel_rfl)) (fun _ _ _ h => h) (Or.inl ⟨by rfl, ?_⟩) ?_ ?_
             rotate_left
             ·
              intro w'
              go_simp
              with_reducible rfl
             rotate_left
             ·
              simp only [Pst.all]
              rfl
             refine pure_ (i := 24) (N := some 43) (v := ?_) (a' := ?_) q25_9 rfl rfl (any_of HT_.out (by kernel_rfl)) (fun _ _ _ h => h) (Or.inl ⟨by rfl, ?_⟩) ?_ ?_
             rotate_left
             ·
              intro w'
              go_simp
              with_reducible rfl
             rotate_left
             ·
              simp only [Pst.all]
              rfl
             refine pure_ (i := 25) (N := some 44) (v := ?_) (a' := ?_) q26_9 rfl rfl (any_of HT_.out (by kernel_rfl)) (fun _ _ _ h => h) (Or.inl ⟨by rfl, ?_⟩) ?_ ?_
             rotate_left
             ·
              intro w'
              go_simp
              with_reducible rfl
             rotate_left
             ·
              simp only [Pst.all]
              rfl
             refine pure_ (i := 27) (N := some 46) (v := ?_) (a' := ?_) q27_9 rfl rfl (any_of HT_.out (by kernel_rfl)) (fun _ _ _ h => h) (Or.inl ⟨by rfl, ?_⟩) ?_ ?_
             rotate_left
             ·
              intro w'
              go_simp
              with_reducible rfl
             rotate_left
             ·
              simp only [Pst.all]
              rfl
             refine pure_ (i := 28) (N := some 47) (v := ?_) (a' := ?_) q28_9 rfl rfl (any_of HT_.out (by kernel_rfl)) (fun _ _ _ h => h) (Or.inl ⟨by rfl, ?_⟩) ?_ ?_
             rotate_left
             ·
              intro w'
              go_simp
              with_reducible rfl
             rotate_left
             ·
              simp only [Pst.all]
              rfl
             refine pure_ (i := 29) (N := some 48) (v := ?_) (a' := ?_) q29_9 rfl rfl (any_of HT_.out (by kernel_rfl)) (fun _ _ _ h => h) (Or.inl ⟨by rfl, ?_⟩) ?_ ?_
             rotate_left
             ·
              intro w'
              go_simp
              with_reducible rfl
             rotate_left
             ·
              simp only [Pst.all]
              rfl
             refine pure_ (i := 30) (N := some 49) (v := ?_) (a' := ?_) q30_9 rfl rfl (any_of HT_.out (by kernel_rfl)) (fun _ _ _ h => h) (Or.inl ⟨by rfl, ?_⟩) ?_ ?_
             rotate_left
             ·
              intro w'
              go_simp
              with_reducible rfl
             rotate_left
             ·
              simp only [Pst.all]
              rfl
             refine pure_ (i := 31) (N := some 50) (v := ?_) (a' := ?_) q31_9 rfl rfl (any_of HT_.out (by kernel_rfl)) (fun _ _ _ h => h) (Or.inl ⟨by rfl, ?_⟩) ?_ ?_
             rotate_left
             ·
              intro w'
              go_simp
              with_reducible rfl
             rotate_left
             ·
              simp only [Pst.all]
              rfl
             refine pure_ (i := 33) (N := some 52) (v := ?_) (a' := ?_) q32_9 rfl rfl (any_of HT_.out (by kernel_rfl)) (fun _ _ _ h => h) (Or.inl ⟨by rfl, ?_⟩) ?_ ?_
             rotate_left
             ·
              intro w'
              go_simp
              with_reducible rfl
             rotate_left
             ·
              simp only [Pst.all]
              rfl
             refine pure_ (i := 35) (N := some 54) (v := ?_) (a' := ?_) q33_9 rfl rfl (any_of HT_.out (by kernel_rfl)) (fun _ _ _ h => h) (Or.inl ⟨by rfl, ?_⟩) ?_ ?_
             rotate_left
             ·
              intro w'
              go_simp
              with_reducible rfl
             rotate_left
             ·
              simp only [Pst.all]
              rfl
             refine take_ (i := 26) (N := some 45) (v := ?_) (a' := ?_) q34_9 rfl rfl (take_ofW HT_.out HW_.out (by kernel_rfl)) (fun _ _ _ h => h) (Or.inl ⟨by rfl, ?_⟩) hHeld ?_ ?_
             rotate_left
             ·
              rintro w' ⟨s0, s1, s2, s3, s4, s5, s6, s7, s8⟩
              go_simp
              with_reducible rfl
             rotate_left
             ·
              simp only [Pst.all]
              rfl
             refine take_ (i := 32) (N := some 51) (v := ?_) (a' := ?_) q35_9 rfl rfl (take_ofW HT_.out HW_.out (by kernel_rfl)) (fun _ _ _ h => h) (Or.inl ⟨by rfl, ?_⟩) hHeld ?_ ?_
             rotate_left
             ·
              rintro w' ⟨s0, s1, s2, s3, s4, s5, s6, s7, s8⟩
              go_simp
              with_reducible rfl
             rotate_left
             ·
              simp only [Pst.all]
              rfl
             refine take_ (i := 34) (N := some 53) (v := ?_) (a' := ?_) q36_9 rfl rfl (take_ofW HT_.out HW_.out (by kernel_rfl)) (fun _ _ _ h => h) (Or.inl ⟨by rfl, ?_⟩) hHeld ?_ ?_
             rotate_left
             ·
              rintro w' ⟨s0, s1, s2, s3, s4, s5, s6, s7, s8⟩
              go_simp
              with_reducible rfl
             rotate_left
             ·
              simp only [Pst.all]
              rfl
             refine take_ (i := 36) (N := some 55) (v := ?_) (a' := ?_) q37_9 rfl rfl (take_ofW HT_.out HW_.out (by kernel_rfl)) (fun _ _ _ h => h) (Or.inl ⟨by rfl, ?_⟩) hHeld ?_ ?_
             rotate_left
             ·
              rintro w' ⟨s0, s1, s2, s3, s4, s5, s6, s7, s8⟩
              go_simp
              with_reducible rfl
             rotate_left
             ·
              simp only [Pst.all]
              rfl
             refine one_ (i := 37) (N := some 56) q38_9 rfl rfl (one_of HT_.out (by kernel_rfl)) (by decide) (fun K hK => ?_)
             refine goes_ Try.func32 (by kernel_rfl) rfl #[.string ((rd_T58 l0 (ji15)).f0), .string ((rd_T58 l0 (ji15)).f1), .string ((rd_T58 l0 x3_1).f0), .string ((rd_T58 l0 x3_1).f1)] (by rfl) rfl rfl (by (try simp only [List.map_toArray, List.map_cons, List.map_nil]); first | done | (simp only [hji15]; rfl) | rfl | (simp only [List.length_drop, List.length_take]; rfl)) ?_
             with_reducible refine (spec_l03Before.calls k1 ((rd_T58 l0 (ji15)).f0) ((rd_T58 l0 (ji15)).f1) ((rd_T58 l0 x3_1).f0) ((rd_T58 l0 x3_1).f1) t154 _ A18.out).mono ?_
             rintro e w' ⟨rfl, ⟨nd, rfl⟩⟩
             refine ⟨_, rfl, ?_⟩
             refine hK.out _ _ ⟨(blk_cell BK148.out 0).trans rfl, (blk_cell BK148.out 1).trans rfl, (blk_cell BK148.out 2).trans rfl, ((HB.out.cell (World.block_lt_of_cell? w _ hw152_0)).trans hw152_0), ((HB.out.cell (World.block_lt_of_cell? w _ hw152_1)).trans hw152_1), ((HB.out.cell (World.block_lt_of_cell? w _ hw152_2)).trans hw152_2), ((HB.out.cell (World.block_lt_of_cell? w _ hw153_0)).trans hw153_0), ((HB.out.cell (World.block_lt_of_cell? w _ hw153_1)).trans hw153_1), ((HB.out.cell (World.block_lt_of_cell? w _ hw153_2)).trans hw153_2)⟩ (fun hHeld => ?_)
             clear hK K
             refine norm_ (a' := ?_) ?_ ?_
             rotate_left
             ·
              show Act.put _ (some 56) _ = _
              simp only [Pst.all]
              rfl
             refine pure_ (i := 38) (N := some 57) (v := ?_) (a' := ?_) q39_9 rfl rfl (any_of HT_.out (by kernel_rfl)) (fun _ _ _ h => h) (Or.inl ⟨by rfl, ?_⟩) ?_ ?_
             rotate_left
             ·
              intro w'
              go_simp
              with_reducible rfl
             rotate_left
             ·
              simp only [Pst.all]
              rfl
             refine pure_ (i := 39) (N := some 58) (v := ?_) (a' := ?_) q40_9 rfl rfl (any_of HT_.out (by kernel_rfl)) (fun _ _ _ h => h) (Or.inl ⟨by rfl, ?_⟩) ?_ ?_
             rotate_left
             ·
              intro w'
              go_simp
              with_reducible rfl
             rotate_left
             ·
              simp only [Pst.all]
              rfl
             refine pure_ (i := 40) (N := some 59) (v := ?_) (a' := ?_) q41_9 rfl rfl (any_of HT_.out (by kernel_rfl)) (fun _ _ _ h => h) (Or.inl ⟨by rfl, ?_⟩) ?_ ?_
             rotate_left
             ·
              intro w'
              go_simp
              with_reducible rfl
             rotate_left
             ·
              simp only [Pst.all]
              rfl
             refine done_ (done_of HT_.out (by kernel_rfl)) ?_
             try go_wp2
             go_meet
             case rel => exact ⟨_, (!t154), (by first | rfl | (simp; done) | (simp [*]; done)), H', ⟨by have := HK1.out; first | omega | exact Nat.le_refl _⟩, ⟨by (with_reducible repeat (first | refine blk_drewN ?_ _ | refine blk_drew ?_ | refine blk_alloc ?_ _)); exact BK148.out⟩, ⟨by repeat (first | (with_reducible first | exact HB.out | apply below_alloc | apply pw_below_drewN | apply below_drew1 | refine below_set ?_ GE148.out) | exact HB.out)⟩⟩
            ·
             rw [if_neg c17] at H
             exact absurd H (by simp)
           ·
            rw [if_neg c16] at H
            exact absurd H (by simp)
          ·
           rw [if_neg c14] at H
           have c14b0 : decide (0 < x3_1) = false := decide_eq_false c14
           clear c14
           (first | rw [c14b0] | (simp only [i64_w, i32_w]; rw [c14b0]) | skip)
           have H' := Aside0.mk H
           clear H
           try go_wp2
           have n0_ : Aside0 ((((w6.setCell ⟨gb148, 0, none⟩ (.string ((rd_T58 l0 x3_1).f0))).setCell ⟨gb148, 1, none⟩ (.string ((rd_T58 l0 x3_1).f1))).setCell ⟨gb148, 2, none⟩ (.slice A147_2 ((rd_T58 l0 x3_1).f2).length c147_2)).heap[gb148]? = some (.cells #[.string ((rd_T58 l0 x3_1).f0), .string ((rd_T58 l0 x3_1).f1), .slice A147_2 ((rd_T58 l0 x3_1).f2).length c147_2] 58 (0, 0))) := ⟨by (with_reducible repeat (first | refine blk_drewN ?_ _ | refine blk_drew ?_ | refine blk_alloc ?_ _)); refine blk_put (cs := #[.string ((rd_T58 l0 x3_1).f0), .string ((rd_T58 l0 x3_1).f1), .slice none 0 0]) ?_ 2 _ rfl; (with_reducible repeat (first | refine blk_drewN ?_ _ | refine blk_drew ?_ | refine blk_alloc ?_ _)); refine blk_put (cs := #[.string ((rd_T58 l0 x3_1).f0), .string (⟨#[]⟩ : ByteArray), .slice none 0 0]) ?_ 1 _ rfl; (with_reducible repeat (first | refine blk_drewN ?_ _ | refine blk_drew ?_ | refine blk_alloc ?_ _)); refine blk_put (cs := #[.string (⟨#[]⟩ : ByteArray), .string (⟨#[]⟩ : ByteArray), .slice none 0 0]) ?_ 0 _ rfl; (with_reducible repeat (first | refine blk_drewN ?_ _ | refine blk_drew ?_ | refine blk_alloc ?_ _)); exact BK148.out⟩
           have n1_ : Aside0 (Below w.heap.size w (((w6.setCell ⟨gb148, 0, none⟩ (.string ((rd_T58 l0 x3_1).f0))).setCell ⟨gb148, 1, none⟩ (.string ((rd_T58 l0 x3_1).f1))).setCell ⟨gb148, 2, none⟩ (.slice A147_2 ((rd_T58 l0 x3_1).f2).length c147_2))) := ⟨by repeat (first | (with_reducible first | exact HB.out | apply below_alloc | apply pw_below_drewN | apply below_drew1 | refine below_set ?_ GE148.out) | exact HB.out)⟩
           (try clear BK148)
           (try clear HB)
           generalize (((w6.setCell ⟨gb148, 0, none⟩ (.string ((rd_T58 l0 x3_1).f0))).setCell ⟨gb148, 1, none⟩ (.string ((rd_T58 l0 x3_1).f1))).setCell ⟨gb148, 2, none⟩ (.slice A147_2 ((rd_T58 l0 x3_1).f2).length c147_2)) = w21 at n0_ n1_ ⊢
           have BK148 := n0_
           have HB := n1_
           clear n0_ n1_
           have n0_ := Aside0.mk (blk_drew BK148.out)
           have n1_ := Aside0.mk (below_drew1 HB.out)
           clear BK148
           clear HB
           have BK148 := n0_
           have HB := n1_
           clear n0_ n1_
           refine start_ (n := 41) (S := fun w' => w'.cell? ⟨gb148, 0, none⟩ = some (.string ((rd_T58 l0 x3_1).f0)) ∧ w'.cell? ⟨gb148, 1, none⟩ = some (.string ((rd_T58 l0 x3_1).f1)) ∧ w'.cell? ⟨gb148, 2, none⟩ = some (.slice A147_2 ((rd_T58 l0 x3_1).f2).length c147_2)) (ds := []) q0_9 (by kernel_rfl) rfl rfl ⟨(blk_cell BK148.out 0).trans rfl, (blk_cell BK148.out 1).trans rfl, (blk_cell BK148.out 2).trans rfl⟩ (fun hHeld => ?_); refine with_tabW spec_StoreOk.tab7 spec_StoreOk.bits7 (fun HT_ HW_ => ?_)
           generalize w21.drew = w22 at BK148 HB hHeld ⊢
           refine pure_ (i := 0) (N := some 19) (v := ?_) (a' := ?_) q1_9 rfl rfl (any_of HT_.out (by kernel_rfl)) (fun _ _ _ h => h) (Or.inl ⟨by rfl, ?_⟩) ?_ ?_
           rotate_left
           ·
            intro w'
            go_simp
            with_reducible rfl
           rotate_left
           ·
            simp only [Pst.all]
            rfl
           refine take_ (i := 1) (N := some 20) (v := ?_) (a' := ?_) q2_9 rfl rfl (take_ofW HT_.out HW_.out (by kernel_rfl)) (fun _ _ _ h => h) (Or.inl ⟨by rfl, ?_⟩) hHeld ?_ ?_
           rotate_left
           ·
            rintro w' ⟨s0, s1, s2⟩
            go_simp
            with_reducible rfl
           rotate_left
           ·
            simp only [Pst.all]
            rfl
           refine one_ (i := 2) (N := some 21) q3_9 rfl rfl (one_of HT_.out (by kernel_rfl)) (by decide) (fun K hK => ?_)
           refine goes_ Try.func30 (by kernel_rfl) rfl #[.string ((rd_T58 l0 x3_1).f0)] (by rfl) rfl rfl (by (try simp only [List.map_toArray, List.map_cons, List.map_nil]); first | done | rfl | (simp only [List.length_drop, List.length_take]; rfl)) ?_
           with_reducible refine (spec_NameOk.calls k1 ((rd_T58 l0 x3_1).f0) true _ A8.out).mono ?_
           rintro e w' ⟨rfl, ⟨nd, rfl⟩⟩
           refine ⟨_, rfl, ?_⟩
           refine hK.out _ _ ⟨(blk_cell BK148.out 0).trans rfl, (blk_cell BK148.out 1).trans rfl, (blk_cell BK148.out 2).trans rfl⟩ (fun hHeld => ?_)
           clear hK K
           refine norm_ (a' := ?_) ?_ ?_
           rotate_left
           ·
            show Act.put _ (some 21) _ = _
            simp only [Pst.all]
            rfl
           refine pure_ (i := 3) (N := some 22) (v := ?_) (a' := ?_) q4_9 rfl rfl (any_of HT_.out (by kernel_rfl)) (fun _ _ _ h => h) (Or.inl ⟨by rfl, ?_⟩) ?_ ?_
           rotate_left
           ·
            intro w'
            go_simp
            with_reducible rfl
           rotate_left
           ·
            simp only [Pst.all]
            rfl
           refine pure_ (i := 4) (N := some 23) (v := ?_) (a' := ?_) q5_9 rfl rfl (any_of HT_.out (by kernel_rfl)) (fun _ _ _ h => h) (Or.inl ⟨by rfl, ?_⟩) ?_ ?_
           rotate_left
           ·
            intro w'
            go_simp
            with_reducible rfl
           rotate_left
           ·
            simp only [Pst.all]
            rfl
           refine pure_ (i := 5) (N := some 24) (v := ?_) (a' := ?_) q6_9 rfl rfl (any_of HT_.out (by kernel_rfl)) (fun _ _ _ h => h) (Or.inl ⟨by rfl, ?_⟩) ?_ ?_
           rotate_left
           ·
            intro w'
            go_simp
            with_reducible rfl
           rotate_left
           ·
            simp only [Pst.all]
            rfl
           refine take_ (i := 6) (N := some 25) (v := ?_) (a' := ?_) q7_9 rfl rfl (take_ofW HT_.out HW_.out (by kernel_rfl)) (fun _ _ _ h => h) (Or.inl ⟨by rfl, ?_⟩) hHeld ?_ ?_
           rotate_left
           ·
            rintro w' ⟨s0, s1, s2⟩
            go_simp
            with_reducible rfl
           rotate_left
           ·
            simp only [Pst.all]
            rfl
           refine one_ (i := 7) (N := some 26) q8_9 rfl rfl (one_of HT_.out (by kernel_rfl)) (by decide) (fun K hK => ?_)
           refine goes_ Try.func30 (by kernel_rfl) rfl #[.string ((rd_T58 l0 x3_1).f1)] (by rfl) rfl rfl (by (try simp only [List.map_toArray, List.map_cons, List.map_nil]); first | done | rfl | (simp only [List.length_drop, List.length_take]; rfl)) ?_
           with_reducible refine (spec_NameOk.calls k1 ((rd_T58 l0 x3_1).f1) true _ A10.out).mono ?_
           rintro e w' ⟨rfl, ⟨nd, rfl⟩⟩
           refine ⟨_, rfl, ?_⟩
           refine hK.out _ _ ⟨(blk_cell BK148.out 0).trans rfl, (blk_cell BK148.out 1).trans rfl, (blk_cell BK148.out 2).trans rfl⟩ (fun hHeld => ?_)
           clear hK K
           refine norm_ (a' := ?_) ?_ ?_
           rotate_left
           ·
            show Act.put _ (some 26) _ = _
            simp only [Pst.all]
            rfl
           refine pure_ (i := 8) (N := some 27) (v := ?_) (a' := ?_) q9_9 rfl rfl (any_of HT_.out (by kernel_rfl)) (fun _ _ _ h => h) (Or.inl ⟨by rfl, ?_⟩) ?_ ?_
           rotate_left
           ·
            intro w'
            go_simp
            with_reducible rfl
           rotate_left
           ·
            simp only [Pst.all]
            rfl
           refine pure_ (i := 9) (N := some 28) (v := ?_) (a' := ?_) q10_9 rfl rfl (any_of HT_.out (by kernel_rfl)) (fun _ _ _ h => h) (Or.inl ⟨by rfl, ?_⟩) ?_ ?_
           rotate_left
           ·
            intro w'
            go_simp
            with_reducible rfl
           rotate_left
           ·
            simp only [Pst.all]
            rfl
           refine pure_ (i := 10) (N := some 29) (v := ?_) (a' := ?_) q11_9 rfl rfl (any_of HT_.out (by kernel_rfl)) (fun _ _ _ h => h) (Or.inl ⟨by rfl, ?_⟩) ?_ ?_
           rotate_left
           ·
            intro w'
            go_simp
            with_reducible rfl
           rotate_left
           ·
            simp only [Pst.all]
            rfl
           refine pure_ (i := 11) (N := some 30) (v := ?_) (a' := ?_) q12_9 rfl rfl (any_of HT_.out (by kernel_rfl)) (fun _ _ _ h => h) (Or.inl ⟨by rfl, ?_⟩) ?_ ?_
           rotate_left
           ·
            intro w'
            go_simp
            with_reducible rfl
           rotate_left
           ·
            simp only [Pst.all]
            rfl
           refine take_ (i := 12) (N := some 31) (v := ?_) (a' := ?_) q13_9 rfl rfl (take_ofW HT_.out HW_.out (by kernel_rfl)) (fun _ _ _ h => h) (Or.inl ⟨by rfl, ?_⟩) hHeld ?_ ?_
           rotate_left
           ·
            rintro w' ⟨s0, s1, s2⟩
            go_simp
            with_reducible rfl
           rotate_left
           ·
            simp only [Pst.all]
            rfl
           refine pure_ (i := 13) (N := some 32) (v := ?_) (a' := ?_) q14_9 rfl rfl (any_of HT_.out (by kernel_rfl)) (fun _ _ _ h => h) (Or.inl ⟨by rfl, ?_⟩) ?_ ?_
           rotate_left
           ·
            intro w'
            go_simp
            with_reducible rfl
           rotate_left
           ·
            simp only [Pst.all]
            rfl
           refine one_ (i := 14) (N := some 33) q15_9 rfl rfl (one_of HT_.out (by kernel_rfl)) (by decide) (fun K hK => ?_)
           refine goes_ Try.func31 (by kernel_rfl) rfl #[.int .i64 (((rd_T58 l0 x3_1).f2).length : Int), .int .i64 1, .int .i64 12] (by rfl) rfl rfl (by (try simp only [List.map_toArray, List.map_cons, List.map_nil]); first | done | rfl | (simp only [List.length_drop, List.length_take]; rfl)) ?_
           with_reducible refine (spec_l01In.calls (((rd_T58 l0 x3_1).f2).length : Int) 1 12 true _ A12.out).mono ?_
           rintro e w' ⟨rfl, ⟨nd, rfl⟩⟩
           refine ⟨_, rfl, ?_⟩
           refine hK.out _ _ ⟨(blk_cell BK148.out 0).trans rfl, (blk_cell BK148.out 1).trans rfl, (blk_cell BK148.out 2).trans rfl⟩ (fun hHeld => ?_)
           clear hK K
           refine norm_ (a' := ?_) ?_ ?_
           rotate_left
           ·
            show Act.put _ (some 33) _ = _
            simp only [Pst.all]
            rfl
           refine pure_ (i := 15) (N := some 34) (v := ?_) (a' := ?_) q16_9 rfl rfl (any_of HT_.out (by kernel_rfl)) (fun _ _ _ h => h) (Or.inl ⟨by rfl, ?_⟩) ?_ ?_
           rotate_left
           ·
            intro w'
            go_simp
            with_reducible rfl
           rotate_left
           ·
            simp only [Pst.all]
            rfl
           refine pure_ (i := 16) (N := some 35) (v := ?_) (a' := ?_) q17_9 rfl rfl (any_of HT_.out (by kernel_rfl)) (fun _ _ _ h => h) (Or.inl ⟨by rfl, ?_⟩) ?_ ?_
           rotate_left
           ·
            intro w'
            go_simp
            with_reducible rfl
           rotate_left
           ·
            simp only [Pst.all]
            rfl
           refine pure_ (i := 17) (N := some 36) (v := ?_) (a' := ?_) q18_9 rfl rfl (any_of HT_.out (by kernel_rfl)) (fun _ _ _ h => h) (Or.inl ⟨by rfl, ?_⟩) ?_ ?_
           rotate_left
           ·
            intro w'
            go_simp
            with_reducible rfl
           rotate_left
           ·
            simp only [Pst.all]
            rfl
           refine pure_ (i := 18) (N := some 37) (v := ?_) (a' := ?_) q19_9 rfl rfl (any_of HT_.out (by kernel_rfl)) (fun _ _ _ h => h) (Or.inl ⟨by rfl, ?_⟩) ?_ ?_
           rotate_left
           ·
            intro w'
            go_simp
            with_reducible rfl
           rotate_left
           ·
            simp only [Pst.all]
            rfl
           refine pure_ (i := 19) (N := some 38) (v := ?_) (a' := ?_) q20_9 rfl rfl (any_of HT_.out (by kernel_rfl)) (fun _ _ _ h => h) (Or.inl ⟨by rfl, ?_⟩) ?_ ?_
           rotate_left
           ·
            intro w'
            go_simp
            with_reducible rfl
           rotate_left
           ·
            simp only [Pst.all]
            rfl
           refine pure_ (i := 20) (N := some 39) (v := ?_) (a' := ?_) q21_9 rfl rfl (any_of HT_.out (by kernel_rfl)) (fun _ _ _ h => h) (Or.inl ⟨by rfl, ?_⟩) ?_ ?_
           rotate_left
           ·
            intro w'
            go_simp
            with_reducible rfl
           rotate_left
           ·
            simp only [Pst.all]
            rfl
           refine pure_ (i := 21) (N := some 40) (v := undef) (a' := ?_) q22_9 rfl rfl (any_of HT_.out (by kernel_rfl)) (fun _ _ _ h => h) (Or.inr ⟨by rfl, rfl⟩) ?_ ?_
           rotate_left
           ·
            simp only [Pst.all]
            rfl
           refine pure_ (i := 22) (N := some 41) (v := undef) (a' := ?_) q23_9 rfl rfl (any_of HT_.out (by kernel_rfl)) (fun _ _ _ h => h) (Or.inr ⟨by rfl, rfl⟩) ?_ ?_
           rotate_left
           ·
            simp only [Pst.all]
            rfl
           refine pure_ (i := 23) (N := some 42) (v := undef) (a' := ?_) q24_9 rfl rfl (any_of HT_.out (by kernel_rfl)) (fun _ _ _ h => h) (Or.inr ⟨by rfl, rfl⟩) ?_ ?_
           rotate_left
           ·
            simp only [Pst.all]
            rfl
           refine pure_ (i := 24) (N := some 43) (v := undef) (a' := ?_) q25_9 rfl rfl (any_of HT_.out (by kernel_rfl)) (fun _ _ _ h => h) (Or.inr ⟨by rfl, rfl⟩) ?_ ?_
           rotate_left
           ·
            simp only [Pst.all]
            rfl
           refine pure_ (i := 25) (N := some 44) (v := undef) (a' := ?_) q26_9 rfl rfl (any_of HT_.out (by kernel_rfl)) (fun _ _ _ h => h) (Or.inr ⟨by rfl, rfl⟩) ?_ ?_
           rotate_left
           ·
            simp only [Pst.all]
            rfl
           refine pure_ (i := 26) (N := some 45) (v := undef) (a' := ?_) q42_9 rfl rfl (any_of HT_.out (by kernel_rfl)) (fun _ _ _ h => h) (Or.inr ⟨by rfl, rfl⟩) ?_ ?_
           rotate_left
           ·
            simp only [Pst.all]
            rfl
           refine pure_ (i := 27) (N := some 46) (v := undef) (a' := ?_) q43_9 rfl rfl (any_of HT_.out (by kernel_rfl)) (fun _ _ _ h => h) (Or.inr ⟨by rfl, rfl⟩) ?_ ?_
           rotate_left
           ·
            simp only [Pst.all]
            rfl
           refine pure_ (i := 28) (N := some 47) (v := undef) (a' := ?_) q44_9 rfl rfl (any_of HT_.out (by kernel_rfl)) (fun _ _ _ h => h) (Or.inr ⟨by rfl, rfl⟩) ?_ ?_
           rotate_left
           ·
            simp only [Pst.all]
            rfl
           refine pure_ (i := 29) (N := some 48) (v := undef) (a' := ?_) q45_9 rfl rfl (any_of HT_.out (by kernel_rfl)) (fun _ _ _ h => h) (Or.inr ⟨by rfl, rfl⟩) ?_ ?_
           rotate_left
           ·
            simp only [Pst.all]
            rfl
           refine pure_ (i := 30) (N := some 49) (v := undef) (a' := ?_) q46_9 rfl rfl (any_of HT_.out (by kernel_rfl)) (fun _ _ _ h => h) (Or.inr ⟨by rfl, rfl⟩) ?_ ?_
           rotate_left
           ·
            simp only [Pst.all]
            rfl
           refine pure_ (i := 31) (N := some 50) (v := undef) (a' := ?_) q47_9 rfl rfl (any_of HT_.out (by kernel_rfl)) (fun _ _ _ h => h) (Or.inr ⟨by rfl, rfl⟩) ?_ ?_
           rotate_left
           ·
            simp only [Pst.all]
            rfl
           refine pure_ (i := 32) (N := some 51) (v := undef) (a' := ?_) q48_9 rfl rfl (any_of HT_.out (by kernel_rfl)) (fun _ _ _ h => h) (Or.inr ⟨by rfl, rfl⟩) ?_ ?_
           rotate_left
           ·
            simp only [Pst.all]
            rfl
           refine pure_ (i := 33) (N := some 52) (v := undef) (a' := ?_) q49_9 rfl rfl (any_of HT_.out (by kernel_rfl)) (fun _ _ _ h => h) (Or.inr ⟨by rfl, rfl⟩) ?_ ?_
           rotate_left
           ·
            simp only [Pst.all]
            rfl
           refine pure_ (i := 34) (N := some 53) (v := undef) (a' := ?_) q50_9 rfl rfl (any_of HT_.out (by kernel_rfl)) (fun _ _ _ h => h) (Or.inr ⟨by rfl, rfl⟩) ?_ ?_
           rotate_left
           ·
            simp only [Pst.all]
            rfl
           refine pure_ (i := 35) (N := some 54) (v := undef) (a' := ?_) q36_9 rfl rfl (any_of HT_.out (by kernel_rfl)) (fun _ _ _ h => h) (Or.inr ⟨by rfl, rfl⟩) ?_ ?_
           rotate_left
           ·
            simp only [Pst.all]
            rfl
           refine pure_ (i := 36) (N := some 55) (v := undef) (a' := ?_) q37_9 rfl rfl (any_of HT_.out (by kernel_rfl)) (fun _ _ _ h => h) (Or.inr ⟨by rfl, rfl⟩) ?_ ?_
           rotate_left
           ·
            simp only [Pst.all]
            rfl
           refine pure_ (i := 37) (N := some 56) (v := undef) (a' := ?_) q38_9 rfl rfl (any_of HT_.out (by kernel_rfl)) (fun _ _ _ h => h) (Or.inr ⟨by rfl, rfl⟩) ?_ ?_
           rotate_left
           ·
            simp only [Pst.all]
            rfl
           refine pure_ (i := 38) (N := some 57) (v := undef) (a' := ?_) q39_9 rfl rfl (any_of HT_.out (by kernel_rfl)) (fun _ _ _ h => h) (Or.inr ⟨by rfl, rfl⟩) ?_ ?_
           rotate_left
           ·
            simp only [Pst.all]
            rfl
           refine pure_ (i := 39) (N := some 58) (v := ?_) (a' := ?_) q40_9 rfl rfl (any_of HT_.out (by kernel_rfl)) (fun _ _ _ h => h) (Or.inl ⟨by rfl, ?_⟩) ?_ ?_
           rotate_left
           ·
            intro w'
            go_simp
            with_reducible rfl
           rotate_left
           ·
            simp only [Pst.all]
            rfl
           refine pure_ (i := 40) (N := some 59) (v := ?_) (a' := ?_) q41_9 rfl rfl (any_of HT_.out (by kernel_rfl)) (fun _ _ _ h => h) (Or.inl ⟨by rfl, ?_⟩) ?_ ?_
           rotate_left
           ·
            intro w'
            go_simp
            with_reducible rfl
           rotate_left
           ·
            simp only [Pst.all]
            rfl
           refine done_ (done_of HT_.out (by kernel_rfl)) ?_
           try go_wp2
           go_meet
           case rel => exact ⟨_, (false), (by first | rfl | (simp; done) | (simp [*]; done)), H', ⟨by have := HK1.out; first | omega | exact Nat.le_refl _⟩, ⟨by (with_reducible repeat (first | refine blk_drewN ?_ _ | refine blk_drew ?_ | refine blk_alloc ?_ _)); exact BK148.out⟩, ⟨by repeat (first | (with_reducible first | exact HB.out | apply below_alloc | apply pw_below_drewN | apply below_drew1 | refine below_set ?_ GE148.out) | exact HB.out)⟩⟩
         ·
          replace c13 := Bool.eq_false_iff.mpr c13
          subst c13
          have H1 : (spec_StoreOk.j1 k1 l0 x3_1 true ((rd_T58 l0 x3_1).f0) ((rd_T58 l0 x3_1).f1) ((rd_T58 l0 x3_1).f2)) = some r := by rw [if_neg (show ¬ (false = true) by decide)] at H; exact H
          clear H
          have H := H1
          clear H1
          have H' := Aside0.mk H
          clear H
          try go_wp2
          have n0_ : Aside0 ((((w6.setCell ⟨gb148, 0, none⟩ (.string ((rd_T58 l0 x3_1).f0))).setCell ⟨gb148, 1, none⟩ (.string ((rd_T58 l0 x3_1).f1))).setCell ⟨gb148, 2, none⟩ (.slice A147_2 ((rd_T58 l0 x3_1).f2).length c147_2)).heap[gb148]? = some (.cells #[.string ((rd_T58 l0 x3_1).f0), .string ((rd_T58 l0 x3_1).f1), .slice A147_2 ((rd_T58 l0 x3_1).f2).length c147_2] 58 (0, 0))) := ⟨by (with_reducible repeat (first | refine blk_drewN ?_ _ | refine blk_drew ?_ | refine blk_alloc ?_ _)); refine blk_put (cs := #[.string ((rd_T58 l0 x3_1).f0), .string ((rd_T58 l0 x3_1).f1), .slice none 0 0]) ?_ 2 _ rfl; (with_reducible repeat (first | refine blk_drewN ?_ _ | refine blk_drew ?_ | refine blk_alloc ?_ _)); refine blk_put (cs := #[.string ((rd_T58 l0 x3_1).f0), .string (⟨#[]⟩ : ByteArray), .slice none 0 0]) ?_ 1 _ rfl; (with_reducible repeat (first | refine blk_drewN ?_ _ | refine blk_drew ?_ | refine blk_alloc ?_ _)); refine blk_put (cs := #[.string (⟨#[]⟩ : ByteArray), .string (⟨#[]⟩ : ByteArray), .slice none 0 0]) ?_ 0 _ rfl; (with_reducible repeat (first | refine blk_drewN ?_ _ | refine blk_drew ?_ | refine blk_alloc ?_ _)); exact BK148.out⟩
          have n1_ : Aside0 (Below w.heap.size w (((w6.setCell ⟨gb148, 0, none⟩ (.string ((rd_T58 l0 x3_1).f0))).setCell ⟨gb148, 1, none⟩ (.string ((rd_T58 l0 x3_1).f1))).setCell ⟨gb148, 2, none⟩ (.slice A147_2 ((rd_T58 l0 x3_1).f2).length c147_2))) := ⟨by repeat (first | (with_reducible first | exact HB.out | apply below_alloc | apply pw_below_drewN | apply below_drew1 | refine below_set ?_ GE148.out) | exact HB.out)⟩
          (try clear BK148)
          (try clear HB)
          generalize (((w6.setCell ⟨gb148, 0, none⟩ (.string ((rd_T58 l0 x3_1).f0))).setCell ⟨gb148, 1, none⟩ (.string ((rd_T58 l0 x3_1).f1))).setCell ⟨gb148, 2, none⟩ (.slice A147_2 ((rd_T58 l0 x3_1).f2).length c147_2)) = w23 at n0_ n1_ ⊢
          have BK148 := n0_
          have HB := n1_
          clear n0_ n1_
          have n0_ := Aside0.mk (blk_drew BK148.out)
          have n1_ := Aside0.mk (below_drew1 HB.out)
          clear BK148
          clear HB
          have BK148 := n0_
          have HB := n1_
          clear n0_ n1_
          refine start_ (n := 41) (S := fun w' => w'.cell? ⟨gb148, 0, none⟩ = some (.string ((rd_T58 l0 x3_1).f0)) ∧ w'.cell? ⟨gb148, 1, none⟩ = some (.string ((rd_T58 l0 x3_1).f1)) ∧ w'.cell? ⟨gb148, 2, none⟩ = some (.slice A147_2 ((rd_T58 l0 x3_1).f2).length c147_2)) (ds := []) q0_9 (by kernel_rfl) rfl rfl ⟨(blk_cell BK148.out 0).trans rfl, (blk_cell BK148.out 1).trans rfl, (blk_cell BK148.out 2).trans rfl⟩ (fun hHeld => ?_); refine with_tabW spec_StoreOk.tab7 spec_StoreOk.bits7 (fun HT_ HW_ => ?_)
          generalize w23.drew = w24 at BK148 HB hHeld ⊢
          refine pure_ (i := 0) (N := some 19) (v := ?_) (a' := ?_) q1_9 rfl rfl (any_of HT_.out (by kernel_rfl)) (fun _ _ _ h => h) (Or.inl ⟨by rfl, ?_⟩) ?_ ?_
          rotate_left
          ·
           intro w'
           go_simp
           with_reducible rfl
          rotate_left
          ·
           simp only [Pst.all]
           rfl
          refine take_ (i := 1) (N := some 20) (v := ?_) (a' := ?_) q2_9 rfl rfl (take_ofW HT_.out HW_.out (by kernel_rfl)) (fun _ _ _ h => h) (Or.inl ⟨by rfl, ?_⟩) hHeld ?_ ?_
          rotate_left
          ·
           rintro w' ⟨s0, s1, s2⟩
           go_simp
           with_reducible rfl
          rotate_left
          ·
           simp only [Pst.all]
           rfl
          refine one_ (i := 2) (N := some 21) q3_9 rfl rfl (one_of HT_.out (by kernel_rfl)) (by decide) (fun K hK => ?_)
          refine goes_ Try.func30 (by kernel_rfl) rfl #[.string ((rd_T58 l0 x3_1).f0)] (by rfl) rfl rfl (by (try simp only [List.map_toArray, List.map_cons, List.map_nil]); first | done | rfl | (simp only [List.length_drop, List.length_take]; rfl)) ?_
          with_reducible refine (spec_NameOk.calls k1 ((rd_T58 l0 x3_1).f0) true _ A8.out).mono ?_
          rintro e w' ⟨rfl, ⟨nd, rfl⟩⟩
          refine ⟨_, rfl, ?_⟩
          refine hK.out _ _ ⟨(blk_cell BK148.out 0).trans rfl, (blk_cell BK148.out 1).trans rfl, (blk_cell BK148.out 2).trans rfl⟩ (fun hHeld => ?_)
          clear hK K
          refine norm_ (a' := ?_) ?_ ?_
          rotate_left
          ·
           show Act.put _ (some 21) _ = _
           simp only [Pst.all]
           rfl
          refine pure_ (i := 3) (N := some 22) (v := ?_) (a' := ?_) q4_9 rfl rfl (any_of HT_.out (by kernel_rfl)) (fun _ _ _ h => h) (Or.inl ⟨by rfl, ?_⟩) ?_ ?_
          rotate_left
          ·
           intro w'
           go_simp
           with_reducible rfl
          rotate_left
          ·
           simp only [Pst.all]
           rfl
          refine pure_ (i := 4) (N := some 23) (v := ?_) (a' := ?_) q5_9 rfl rfl (any_of HT_.out (by kernel_rfl)) (fun _ _ _ h => h) (Or.inl ⟨by rfl, ?_⟩) ?_ ?_
          rotate_left
          ·
           intro w'
           go_simp
           with_reducible rfl
          rotate_left
          ·
           simp only [Pst.all]
           rfl
          refine pure_ (i := 5) (N := some 24) (v := ?_) (a' := ?_) q6_9 rfl rfl (any_of HT_.out (by kernel_rfl)) (fun _ _ _ h => h) (Or.inl ⟨by rfl, ?_⟩) ?_ ?_
          rotate_left
          ·
           intro w'
           go_simp
           with_reducible rfl
          rotate_left
          ·
           simp only [Pst.all]
           rfl
          refine take_ (i := 6) (N := some 25) (v := ?_) (a' := ?_) q7_9 rfl rfl (take_ofW HT_.out HW_.out (by kernel_rfl)) (fun _ _ _ h => h) (Or.inl ⟨by rfl, ?_⟩) hHeld ?_ ?_
          rotate_left
          ·
           rintro w' ⟨s0, s1, s2⟩
           go_simp
           with_reducible rfl
          rotate_left
          ·
           simp only [Pst.all]
           rfl
          refine one_ (i := 7) (N := some 26) q8_9 rfl rfl (one_of HT_.out (by kernel_rfl)) (by decide) (fun K hK => ?_)
          refine goes_ Try.func30 (by kernel_rfl) rfl #[.string ((rd_T58 l0 x3_1).f1)] (by rfl) rfl rfl (by (try simp only [List.map_toArray, List.map_cons, List.map_nil]); first | done | rfl | (simp only [List.length_drop, List.length_take]; rfl)) ?_
          with_reducible refine (spec_NameOk.calls k1 ((rd_T58 l0 x3_1).f1) true _ A10.out).mono ?_
          rintro e w' ⟨rfl, ⟨nd, rfl⟩⟩
          refine ⟨_, rfl, ?_⟩
          refine hK.out _ _ ⟨(blk_cell BK148.out 0).trans rfl, (blk_cell BK148.out 1).trans rfl, (blk_cell BK148.out 2).trans rfl⟩ (fun hHeld => ?_)
          clear hK K
          refine norm_ (a' := ?_) ?_ ?_
          rotate_left
          ·
           show Act.put _ (some 26) _ = _
           simp only [Pst.all]
           rfl
          refine pure_ (i := 8) (N := some 27) (v := ?_) (a' := ?_) q9_9 rfl rfl (any_of HT_.out (by kernel_rfl)) (fun _ _ _ h => h) (Or.inl ⟨by rfl, ?_⟩) ?_ ?_
          rotate_left
          ·
           intro w'
           go_simp
           with_reducible rfl
          rotate_left
          ·
           simp only [Pst.all]
           rfl
          refine pure_ (i := 9) (N := some 28) (v := ?_) (a' := ?_) q10_9 rfl rfl (any_of HT_.out (by kernel_rfl)) (fun _ _ _ h => h) (Or.inl ⟨by rfl, ?_⟩) ?_ ?_
          rotate_left
          ·
           intro w'
           go_simp
           with_reducible rfl
          rotate_left
          ·
           simp only [Pst.all]
           rfl
          refine pure_ (i := 10) (N := some 29) (v := ?_) (a' := ?_) q11_9 rfl rfl (any_of HT_.out (by kernel_rfl)) (fun _ _ _ h => h) (Or.inl ⟨by rfl, ?_⟩) ?_ ?_
          rotate_left
          ·
           intro w'
           go_simp
           with_reducible rfl
          rotate_left
          ·
           simp only [Pst.all]
           rfl
          refine pure_ (i := 11) (N := some 30) (v := ?_) (a' := ?_) q12_9 rfl rfl (any_of HT_.out (by kernel_rfl)) (fun _ _ _ h => h) (Or.inl ⟨by rfl, ?_⟩) ?_ ?_
          rotate_left
          ·
           intro w'
           go_simp
           with_reducible rfl
          rotate_left
          ·
           simp only [Pst.all]
           rfl
          refine take_ (i := 12) (N := some 31) (v := ?_) (a' := ?_) q13_9 rfl rfl (take_ofW HT_.out HW_.out (by kernel_rfl)) (fun _ _ _ h => h) (Or.inl ⟨by rfl, ?_⟩) hHeld ?_ ?_
          rotate_left
          ·
           rintro w' ⟨s0, s1, s2⟩
           go_simp
           with_reducible rfl
          rotate_left
          ·
           simp only [Pst.all]
           rfl
          refine pure_ (i := 13) (N := some 32) (v := ?_) (a' := ?_) q14_9 rfl rfl (any_of HT_.out (by kernel_rfl)) (fun _ _ _ h => h) (Or.inl ⟨by rfl, ?_⟩) ?_ ?_
          rotate_left
          ·
           intro w'
           go_simp
           with_reducible rfl
          rotate_left
          ·
           simp only [Pst.all]
           rfl
          refine one_ (i := 14) (N := some 33) q15_9 rfl rfl (one_of HT_.out (by kernel_rfl)) (by decide) (fun K hK => ?_)
          refine goes_ Try.func31 (by kernel_rfl) rfl #[.int .i64 (((rd_T58 l0 x3_1).f2).length : Int), .int .i64 1, .int .i64 12] (by rfl) rfl rfl (by (try simp only [List.map_toArray, List.map_cons, List.map_nil]); first | done | rfl | (simp only [List.length_drop, List.length_take]; rfl)) ?_
          with_reducible refine (spec_l01In.calls (((rd_T58 l0 x3_1).f2).length : Int) 1 12 false _ A12.out).mono ?_
          rintro e w' ⟨rfl, ⟨nd, rfl⟩⟩
          refine ⟨_, rfl, ?_⟩
          refine hK.out _ _ ⟨(blk_cell BK148.out 0).trans rfl, (blk_cell BK148.out 1).trans rfl, (blk_cell BK148.out 2).trans rfl⟩ (fun hHeld => ?_)
          clear hK K
          refine norm_ (a' := ?_) ?_ ?_
          rotate_left
          ·
           show Act.put _ (some 33) _ = _
           simp only [Pst.all]
           rfl
          refine pure_ (i := 15) (N := some 34) (v := ?_) (a' := ?_) q16_9 rfl rfl (any_of HT_.out (by kernel_rfl)) (fun _ _ _ h => h) (Or.inl ⟨by rfl, ?_⟩) ?_ ?_
          rotate_left
          ·
           intro w'
           go_simp
           with_reducible rfl
          rotate_left
          ·
           simp only [Pst.all]
           rfl
          refine pure_ (i := 16) (N := some 35) (v := ?_) (a' := ?_) q17_9 rfl rfl (any_of HT_.out (by kernel_rfl)) (fun _ _ _ h => h) (Or.inl ⟨by rfl, ?_⟩) ?_ ?_
          rotate_left
          ·
           intro w'
           go_simp
           with_reducible rfl
          rotate_left
          ·
           simp only [Pst.all]
           rfl
          refine pure_ (i := 17) (N := some 36) (v := ?_) (a' := ?_) q18_9 rfl rfl (any_of HT_.out (by kernel_rfl)) (fun _ _ _ h => h) (Or.inl ⟨by rfl, ?_⟩) ?_ ?_
          rotate_left
          ·
           intro w'
           go_simp
           with_reducible rfl
          rotate_left
          ·
           simp only [Pst.all]
           rfl
          refine pure_ (i := 18) (N := some 37) (v := undef) (a' := ?_) q19_9 rfl rfl (any_of HT_.out (by kernel_rfl)) (fun _ _ _ h => h) (Or.inr ⟨by rfl, rfl⟩) ?_ ?_
          rotate_left
          ·
           simp only [Pst.all]
           rfl
          refine pure_ (i := 19) (N := some 38) (v := undef) (a' := ?_) q20_9 rfl rfl (any_of HT_.out (by kernel_rfl)) (fun _ _ _ h => h) (Or.inr ⟨by rfl, rfl⟩) ?_ ?_
          rotate_left
          ·
           simp only [Pst.all]
           rfl
          refine pure_ (i := 20) (N := some 39) (v := undef) (a' := ?_) q21_9 rfl rfl (any_of HT_.out (by kernel_rfl)) (fun _ _ _ h => h) (Or.inr ⟨by rfl, rfl⟩) ?_ ?_
          rotate_left
          ·
           simp only [Pst.all]
           rfl
          refine pure_ (i := 21) (N := some 40) (v := undef) (a' := ?_) q22_9 rfl rfl (any_of HT_.out (by kernel_rfl)) (fun _ _ _ h => h) (Or.inr ⟨by rfl, rfl⟩) ?_ ?_
          rotate_left
          ·
           simp only [Pst.all]
           rfl
          refine pure_ (i := 22) (N := some 41) (v := undef) (a' := ?_) q23_9 rfl rfl (any_of HT_.out (by kernel_rfl)) (fun _ _ _ h => h) (Or.inr ⟨by rfl, rfl⟩) ?_ ?_
          rotate_left
          ·
           simp only [Pst.all]
           rfl
          refine pure_ (i := 23) (N := some 42) (v := undef) (a' := ?_) q24_9 rfl rfl (any_of HT_.out (by kernel_rfl)) (fun _ _ _ h => h) (Or.inr ⟨by rfl, rfl⟩) ?_ ?_
          rotate_left
          ·
           simp only [Pst.all]
           rfl
          refine pure_ (i := 24) (N := some 43) (v := undef) (a' := ?_) q25_9 rfl rfl (any_of HT_.out (by kernel_rfl)) (fun _ _ _ h => h) (Or.inr ⟨by rfl, rfl⟩) ?_ ?_
          rotate_left
          ·
           simp only [Pst.all]
           rfl
          refine pure_ (i := 25) (N := some 44) (v := undef) (a' := ?_) q26_9 rfl rfl (any_of HT_.out (by kernel_rfl)) (fun _ _ _ h => h) (Or.inr ⟨by rfl, rfl⟩) ?_ ?_
          rotate_left
          ·
           simp only [Pst.all]
           rfl
          refine pure_ (i := 26) (N := some 45) (v := undef) (a' := ?_) q42_9 rfl rfl (any_of HT_.out (by kernel_rfl)) (fun _ _ _ h => h) (Or.inr ⟨by rfl, rfl⟩) ?_ ?_
          rotate_left
          ·
           simp only [Pst.all]
           rfl
          refine pure_ (i := 27) (N := some 46) (v := undef) (a' := ?_) q43_9 rfl rfl (any_of HT_.out (by kernel_rfl)) (fun _ _ _ h => h) (Or.inr ⟨by rfl, rfl⟩) ?_ ?_
          rotate_left
          ·
           simp only [Pst.all]
           rfl
          refine pure_ (i := 28) (N := some 47) (v := undef) (a' := ?_) q44_9 rfl rfl (any_of HT_.out (by kernel_rfl)) (fun _ _ _ h => h) (Or.inr ⟨by rfl, rfl⟩) ?_ ?_
          rotate_left
          ·
           simp only [Pst.all]
           rfl
          refine pure_ (i := 29) (N := some 48) (v := undef) (a' := ?_) q45_9 rfl rfl (any_of HT_.out (by kernel_rfl)) (fun _ _ _ h => h) (Or.inr ⟨by rfl, rfl⟩) ?_ ?_
          rotate_left
          ·
           simp only [Pst.all]
           rfl
          refine pure_ (i := 30) (N := some 49) (v := undef) (a' := ?_) q46_9 rfl rfl (any_of HT_.out (by kernel_rfl)) (fun _ _ _ h => h) (Or.inr ⟨by rfl, rfl⟩) ?_ ?_
          rotate_left
          ·
           simp only [Pst.all]
           rfl
          refine pure_ (i := 31) (N := some 50) (v := undef) (a' := ?_) q47_9 rfl rfl (any_of HT_.out (by kernel_rfl)) (fun _ _ _ h => h) (Or.inr ⟨by rfl, rfl⟩) ?_ ?_
          rotate_left
          ·
           simp only [Pst.all]
           rfl
          refine pure_ (i := 32) (N := some 51) (v := undef) (a' := ?_) q48_9 rfl rfl (any_of HT_.out (by kernel_rfl)) (fun _ _ _ h => h) (Or.inr ⟨by rfl, rfl⟩) ?_ ?_
          rotate_left
          ·
           simp only [Pst.all]
           rfl
          refine pure_ (i := 33) (N := some 52) (v := undef) (a' := ?_) q49_9 rfl rfl (any_of HT_.out (by kernel_rfl)) (fun _ _ _ h => h) (Or.inr ⟨by rfl, rfl⟩) ?_ ?_
          rotate_left
          ·
           simp only [Pst.all]
           rfl
          refine pure_ (i := 34) (N := some 53) (v := undef) (a' := ?_) q50_9 rfl rfl (any_of HT_.out (by kernel_rfl)) (fun _ _ _ h => h) (Or.inr ⟨by rfl, rfl⟩) ?_ ?_
          rotate_left
          ·
           simp only [Pst.all]
           rfl
          refine pure_ (i := 35) (N := some 54) (v := undef) (a' := ?_) q36_9 rfl rfl (any_of HT_.out (by kernel_rfl)) (fun _ _ _ h => h) (Or.inr ⟨by rfl, rfl⟩) ?_ ?_
          rotate_left
          ·
           simp only [Pst.all]
           rfl
          refine pure_ (i := 36) (N := some 55) (v := undef) (a' := ?_) q37_9 rfl rfl (any_of HT_.out (by kernel_rfl)) (fun _ _ _ h => h) (Or.inr ⟨by rfl, rfl⟩) ?_ ?_
          rotate_left
          ·
           simp only [Pst.all]
           rfl
          refine pure_ (i := 37) (N := some 56) (v := undef) (a' := ?_) q38_9 rfl rfl (any_of HT_.out (by kernel_rfl)) (fun _ _ _ h => h) (Or.inr ⟨by rfl, rfl⟩) ?_ ?_
          rotate_left
          ·
           simp only [Pst.all]
           rfl
          refine pure_ (i := 38) (N := some 57) (v := undef) (a' := ?_) q39_9 rfl rfl (any_of HT_.out (by kernel_rfl)) (fun _ _ _ h => h) (Or.inr ⟨by rfl, rfl⟩) ?_ ?_
          rotate_left
          ·
           simp only [Pst.all]
           rfl
          refine pure_ (i := 39) (N := some 58) (v := undef) (a' := ?_) q40_9 rfl rfl (any_of HT_.out (by kernel_rfl)) (fun _ _ _ h => h) (Or.inr ⟨by rfl, rfl⟩) ?_ ?_
          rotate_left
          ·
           simp only [Pst.all]
           rfl
          refine pure_ (i := 40) (N := some 59) (v := ?_) (a' := ?_) q41_9 rfl rfl (any_of HT_.out (by kernel_rfl)) (fun _ _ _ h => h) (Or.inl ⟨by rfl, ?_⟩) ?_ ?_
          rotate_left
          ·
           intro w'
           go_simp
           with_reducible rfl
          rotate_left
          ·
           simp only [Pst.all]
           rfl
          refine done_ (done_of HT_.out (by kernel_rfl)) ?_
          try go_wp2
          go_meet
          case rel => exact ⟨_, (true), (by first | rfl | (simp; done) | (simp [*]; done)), H', ⟨by have := HK1.out; first | omega | exact Nat.le_refl _⟩, ⟨by (with_reducible repeat (first | refine blk_drewN ?_ _ | refine blk_drew ?_ | refine blk_alloc ?_ _)); exact BK148.out⟩, ⟨by repeat (first | (with_reducible first | exact HB.out | apply below_alloc | apply pw_below_drewN | apply below_drew1 | refine below_set ?_ GE148.out) | exact HB.out)⟩⟩
        ·
         replace c11 := Bool.eq_false_iff.mpr c11
         subst c11
         have H1 : (spec_StoreOk.j1 k1 l0 x3_1 true ((rd_T58 l0 x3_1).f0) ((rd_T58 l0 x3_1).f1) ((rd_T58 l0 x3_1).f2)) = some r := by rw [if_neg (show ¬ (false = true) by decide)] at H; exact H
         clear H
         have H := H1
         clear H1
         have H' := Aside0.mk H
         clear H
         try go_wp2
         have n0_ : Aside0 ((((w6.setCell ⟨gb148, 0, none⟩ (.string ((rd_T58 l0 x3_1).f0))).setCell ⟨gb148, 1, none⟩ (.string ((rd_T58 l0 x3_1).f1))).setCell ⟨gb148, 2, none⟩ (.slice A147_2 ((rd_T58 l0 x3_1).f2).length c147_2)).heap[gb148]? = some (.cells #[.string ((rd_T58 l0 x3_1).f0), .string ((rd_T58 l0 x3_1).f1), .slice A147_2 ((rd_T58 l0 x3_1).f2).length c147_2] 58 (0, 0))) := ⟨by (with_reducible repeat (first | refine blk_drewN ?_ _ | refine blk_drew ?_ | refine blk_alloc ?_ _)); refine blk_put (cs := #[.string ((rd_T58 l0 x3_1).f0), .string ((rd_T58 l0 x3_1).f1), .slice none 0 0]) ?_ 2 _ rfl; (with_reducible repeat (first | refine blk_drewN ?_ _ | refine blk_drew ?_ | refine blk_alloc ?_ _)); refine blk_put (cs := #[.string ((rd_T58 l0 x3_1).f0), .string (⟨#[]⟩ : ByteArray), .slice none 0 0]) ?_ 1 _ rfl; (with_reducible repeat (first | refine blk_drewN ?_ _ | refine blk_drew ?_ | refine blk_alloc ?_ _)); refine blk_put (cs := #[.string (⟨#[]⟩ : ByteArray), .string (⟨#[]⟩ : ByteArray), .slice none 0 0]) ?_ 0 _ rfl; (with_reducible repeat (first | refine blk_drewN ?_ _ | refine blk_drew ?_ | refine blk_alloc ?_ _)); exact BK148.out⟩
         have n1_ : Aside0 (Below w.heap.size w (((w6.setCell ⟨gb148, 0, none⟩ (.string ((rd_T58 l0 x3_1).f0))).setCell ⟨gb148, 1, none⟩ (.string ((rd_T58 l0 x3_1).f1))).setCell ⟨gb148, 2, none⟩ (.slice A147_2 ((rd_T58 l0 x3_1).f2).length c147_2))) := ⟨by repeat (first | (with_reducible first | exact HB.out | apply below_alloc | apply pw_below_drewN | apply below_drew1 | refine below_set ?_ GE148.out) | exact HB.out)⟩
         (try clear BK148)
         (try clear HB)
         generalize (((w6.setCell ⟨gb148, 0, none⟩ (.string ((rd_T58 l0 x3_1).f0))).setCell ⟨gb148, 1, none⟩ (.string ((rd_T58 l0 x3_1).f1))).setCell ⟨gb148, 2, none⟩ (.slice A147_2 ((rd_T58 l0 x3_1).f2).length c147_2)) = w25 at n0_ n1_ ⊢
         have BK148 := n0_
         have HB := n1_
         clear n0_ n1_
         have n0_ := Aside0.mk (blk_drew BK148.out)
         have n1_ := Aside0.mk (below_drew1 HB.out)
         clear BK148
         clear HB
         have BK148 := n0_
         have HB := n1_
         clear n0_ n1_
         refine start_ (n := 41) (S := fun w' => w'.cell? ⟨gb148, 0, none⟩ = some (.string ((rd_T58 l0 x3_1).f0)) ∧ w'.cell? ⟨gb148, 1, none⟩ = some (.string ((rd_T58 l0 x3_1).f1)) ∧ w'.cell? ⟨gb148, 2, none⟩ = some (.slice A147_2 ((rd_T58 l0 x3_1).f2).length c147_2)) (ds := []) q0_9 (by kernel_rfl) rfl rfl ⟨(blk_cell BK148.out 0).trans rfl, (blk_cell BK148.out 1).trans rfl, (blk_cell BK148.out 2).trans rfl⟩ (fun hHeld => ?_); refine with_tabW spec_StoreOk.tab7 spec_StoreOk.bits7 (fun HT_ HW_ => ?_)
         generalize w25.drew = w26 at BK148 HB hHeld ⊢
         refine pure_ (i := 0) (N := some 19) (v := ?_) (a' := ?_) q1_9 rfl rfl (any_of HT_.out (by kernel_rfl)) (fun _ _ _ h => h) (Or.inl ⟨by rfl, ?_⟩) ?_ ?_
         rotate_left
         ·
          intro w'
          go_simp
          with_reducible rfl
         rotate_left
         ·
          simp only [Pst.all]
          rfl
         refine take_ (i := 1) (N := some 20) (v := ?_) (a' := ?_) q2_9 rfl rfl (take_ofW HT_.out HW_.out (by kernel_rfl)) (fun _ _ _ h => h) (Or.inl ⟨by rfl, ?_⟩) hHeld ?_ ?_
         rotate_left
         ·
          rintro w' ⟨s0, s1, s2⟩
          go_simp
          with_reducible rfl
         rotate_left
         ·
          simp only [Pst.all]
          rfl
         refine one_ (i := 2) (N := some 21) q3_9 rfl rfl (one_of HT_.out (by kernel_rfl)) (by decide) (fun K hK => ?_)
         refine goes_ Try.func30 (by kernel_rfl) rfl #[.string ((rd_T58 l0 x3_1).f0)] (by rfl) rfl rfl (by (try simp only [List.map_toArray, List.map_cons, List.map_nil]); first | done | rfl | (simp only [List.length_drop, List.length_take]; rfl)) ?_
         with_reducible refine (spec_NameOk.calls k1 ((rd_T58 l0 x3_1).f0) true _ A8.out).mono ?_
         rintro e w' ⟨rfl, ⟨nd, rfl⟩⟩
         refine ⟨_, rfl, ?_⟩
         refine hK.out _ _ ⟨(blk_cell BK148.out 0).trans rfl, (blk_cell BK148.out 1).trans rfl, (blk_cell BK148.out 2).trans rfl⟩ (fun hHeld => ?_)
         clear hK K
         refine norm_ (a' := ?_) ?_ ?_
         rotate_left
         ·
          show Act.put _ (some 21) _ = _
          simp only [Pst.all]
          rfl
         refine pure_ (i := 3) (N := some 22) (v := ?_) (a' := ?_) q4_9 rfl rfl (any_of HT_.out (by kernel_rfl)) (fun _ _ _ h => h) (Or.inl ⟨by rfl, ?_⟩) ?_ ?_
         rotate_left
         ·
          intro w'
          go_simp
          with_reducible rfl
         rotate_left
         ·
          simp only [Pst.all]
          rfl
         refine pure_ (i := 4) (N := some 23) (v := ?_) (a' := ?_) q5_9 rfl rfl (any_of HT_.out (by kernel_rfl)) (fun _ _ _ h => h) (Or.inl ⟨by rfl, ?_⟩) ?_ ?_
         rotate_left
         ·
          intro w'
          go_simp
          with_reducible rfl
         rotate_left
         ·
          simp only [Pst.all]
          rfl
         refine pure_ (i := 5) (N := some 24) (v := ?_) (a' := ?_) q6_9 rfl rfl (any_of HT_.out (by kernel_rfl)) (fun _ _ _ h => h) (Or.inl ⟨by rfl, ?_⟩) ?_ ?_
         rotate_left
         ·
          intro w'
          go_simp
          with_reducible rfl
         rotate_left
         ·
          simp only [Pst.all]
          rfl
         refine take_ (i := 6) (N := some 25) (v := ?_) (a' := ?_) q7_9 rfl rfl (take_ofW HT_.out HW_.out (by kernel_rfl)) (fun _ _ _ h => h) (Or.inl ⟨by rfl, ?_⟩) hHeld ?_ ?_
         rotate_left
         ·
          rintro w' ⟨s0, s1, s2⟩
          go_simp
          with_reducible rfl
         rotate_left
         ·
          simp only [Pst.all]
          rfl
         refine one_ (i := 7) (N := some 26) q8_9 rfl rfl (one_of HT_.out (by kernel_rfl)) (by decide) (fun K hK => ?_)
         refine goes_ Try.func30 (by kernel_rfl) rfl #[.string ((rd_T58 l0 x3_1).f1)] (by rfl) rfl rfl (by (try simp only [List.map_toArray, List.map_cons, List.map_nil]); first | done | rfl | (simp only [List.length_drop, List.length_take]; rfl)) ?_
         with_reducible refine (spec_NameOk.calls k1 ((rd_T58 l0 x3_1).f1) false _ A10.out).mono ?_
         rintro e w' ⟨rfl, ⟨nd, rfl⟩⟩
         refine ⟨_, rfl, ?_⟩
         refine hK.out _ _ ⟨(blk_cell BK148.out 0).trans rfl, (blk_cell BK148.out 1).trans rfl, (blk_cell BK148.out 2).trans rfl⟩ (fun hHeld => ?_)
         clear hK K
         refine norm_ (a' := ?_) ?_ ?_
         rotate_left
         ·
          show Act.put _ (some 26) _ = _
          simp only [Pst.all]
          rfl
         refine pure_ (i := 8) (N := some 27) (v := ?_) (a' := ?_) q9_9 rfl rfl (any_of HT_.out (by kernel_rfl)) (fun _ _ _ h => h) (Or.inl ⟨by rfl, ?_⟩) ?_ ?_
         rotate_left
         ·
          intro w'
          go_simp
          with_reducible rfl
         rotate_left
         ·
          simp only [Pst.all]
          rfl
         refine pure_ (i := 9) (N := some 28) (v := ?_) (a' := ?_) q10_9 rfl rfl (any_of HT_.out (by kernel_rfl)) (fun _ _ _ h => h) (Or.inl ⟨by rfl, ?_⟩) ?_ ?_
         rotate_left
         ·
          intro w'
          go_simp
          with_reducible rfl
         rotate_left
         ·
          simp only [Pst.all]
          rfl
         refine pure_ (i := 10) (N := some 29) (v := ?_) (a' := ?_) q11_9 rfl rfl (any_of HT_.out (by kernel_rfl)) (fun _ _ _ h => h) (Or.inl ⟨by rfl, ?_⟩) ?_ ?_
         rotate_left
         ·
          intro w'
          go_simp
          with_reducible rfl
         rotate_left
         ·
          simp only [Pst.all]
          rfl
         refine pure_ (i := 11) (N := some 30) (v := undef) (a' := ?_) q12_9 rfl rfl (any_of HT_.out (by kernel_rfl)) (fun _ _ _ h => h) (Or.inr ⟨by rfl, rfl⟩) ?_ ?_
         rotate_left
         ·
          simp only [Pst.all]
          rfl
         refine pure_ (i := 12) (N := some 31) (v := undef) (a' := ?_) q13_9 rfl rfl (any_of HT_.out (by kernel_rfl)) (fun _ _ _ h => h) (Or.inr ⟨by rfl, rfl⟩) ?_ ?_
         rotate_left
         ·
          simp only [Pst.all]
          rfl
         refine pure_ (i := 13) (N := some 32) (v := undef) (a' := ?_) q14_9 rfl rfl (any_of HT_.out (by kernel_rfl)) (fun _ _ _ h => h) (Or.inr ⟨by rfl, rfl⟩) ?_ ?_
         rotate_left
         ·
          simp only [Pst.all]
          rfl
         refine pure_ (i := 14) (N := some 33) (v := undef) (a' := ?_) q15_9 rfl rfl (any_of HT_.out (by kernel_rfl)) (fun _ _ _ h => h) (Or.inr ⟨by rfl, rfl⟩) ?_ ?_
         rotate_left
         ·
          simp only [Pst.all]
          rfl
         refine pure_ (i := 15) (N := some 34) (v := undef) (a' := ?_) q16_9 rfl rfl (any_of HT_.out (by kernel_rfl)) (fun _ _ _ h => h) (Or.inr ⟨by rfl, rfl⟩) ?_ ?_
         rotate_left
         ·
          simp only [Pst.all]
          rfl
         refine pure_ (i := 16) (N := some 35) (v := ?_) (a' := ?_) q17_9 rfl rfl (any_of HT_.out (by kernel_rfl)) (fun _ _ _ h => h) (Or.inl ⟨by rfl, ?_⟩) ?_ ?_
         rotate_left
         ·
          intro w'
          go_simp
          with_reducible rfl
         rotate_left
         ·
          simp only [Pst.all]
          rfl
         refine pure_ (i := 17) (N := some 36) (v := ?_) (a' := ?_) q18_9 rfl rfl (any_of HT_.out (by kernel_rfl)) (fun _ _ _ h => h) (Or.inl ⟨by rfl, ?_⟩) ?_ ?_
         rotate_left
         ·
          intro w'
          go_simp
          with_reducible rfl
         rotate_left
         ·
          simp only [Pst.all]
          rfl
         refine pure_ (i := 18) (N := some 37) (v := undef) (a' := ?_) q19_9 rfl rfl (any_of HT_.out (by kernel_rfl)) (fun _ _ _ h => h) (Or.inr ⟨by rfl, rfl⟩) ?_ ?_
         rotate_left
         ·
          simp only [Pst.all]
          rfl
         refine pure_ (i := 19) (N := some 38) (v := undef) (a' := ?_) q20_9 rfl rfl (any_of HT_.out (by kernel_rfl)) (fun _ _ _ h => h) (Or.inr ⟨by rfl, rfl⟩) ?_ ?_
         rotate_left
         ·
          simp only [Pst.all]
          rfl
         refine pure_ (i := 20) (N := some 39) (v := undef) (a' := ?_) q21_9 rfl rfl (any_of HT_.out (by kernel_rfl)) (fun _ _ _ h => h) (Or.inr ⟨by rfl, rfl⟩) ?_ ?_
         rotate_left
         ·
          simp only [Pst.all]
          rfl
         refine pure_ (i := 21) (N := some 40) (v := undef) (a' := ?_) q22_9 rfl rfl (any_of HT_.out (by kernel_rfl)) (fun _ _ _ h => h) (Or.inr ⟨by rfl, rfl⟩) ?_ ?_
         rotate_left
         ·
          simp only [Pst.all]
          rfl
         refine pure_ (i := 22) (N := some 41) (v := undef) (a' := ?_) q23_9 rfl rfl (any_of HT_.out (by kernel_rfl)) (fun _ _ _ h => h) (Or.inr ⟨by rfl, rfl⟩) ?_ ?_
         rotate_left
         ·
          simp only [Pst.all]
          rfl
         refine pure_ (i := 23) (N := some 42) (v := undef) (a' := ?_) q24_9 rfl rfl (any_of HT_.out (by kernel_rfl)) (fun _ _ _ h => h) (Or.inr ⟨by rfl, rfl⟩) ?_ ?_
         rotate_left
         ·
          simp only [Pst.all]
          rfl
         refine pure_ (i := 24) (N := some 43) (v := undef) (a' := ?_) q25_9 rfl rfl (any_of HT_.out (by kernel_rfl)) (fun _ _ _ h => h) (Or.inr ⟨by rfl, rfl⟩) ?_ ?_
         rotate_left
         ·
          simp only [Pst.all]
          rfl
         refine pure_ (i := 25) (N := some 44) (v := undef) (a' := ?_) q26_9 rfl rfl (any_of HT_.out (by kernel_rfl)) (fun _ _ _ h => h) (Or.inr ⟨by rfl, rfl⟩) ?_ ?_
         rotate_left
         ·
          simp only [Pst.all]
          rfl
         refine pure_ (i := 26) (N := some 45) (v := undef) (a' := ?_) q42_9 rfl rfl (any_of HT_.out (by kernel_rfl)) (fun _ _ _ h => h) (Or.inr ⟨by rfl, rfl⟩) ?_ ?_
         rotate_left
         ·
          simp only [Pst.all]
          rfl
         refine pure_ (i := 27) (N := some 46) (v := undef) (a' := ?_) q43_9 rfl rfl (any_of HT_.out (by kernel_rfl)) (fun _ _ _ h => h) (Or.inr ⟨by rfl, rfl⟩) ?_ ?_
         rotate_left
         ·
          simp only [Pst.all]
          rfl
         refine pure_ (i := 28) (N := some 47) (v := undef) (a' := ?_) q44_9 rfl rfl (any_of HT_.out (by kernel_rfl)) (fun _ _ _ h => h) (Or.inr ⟨by rfl, rfl⟩) ?_ ?_
         rotate_left
         ·
          simp only [Pst.all]
          rfl
         refine pure_ (i := 29) (N := some 48) (v := undef) (a' := ?_) q45_9 rfl rfl (any_of HT_.out (by kernel_rfl)) (fun _ _ _ h => h) (Or.inr ⟨by rfl, rfl⟩) ?_ ?_
         rotate_left
         ·
          simp only [Pst.all]
          rfl
         refine pure_ (i := 30) (N := some 49) (v := undef) (a' := ?_) q46_9 rfl rfl (any_of HT_.out (by kernel_rfl)) (fun _ _ _ h => h) (Or.inr ⟨by rfl, rfl⟩) ?_ ?_
         rotate_left
         ·
          simp only [Pst.all]
          rfl
         refine pure_ (i := 31) (N := some 50) (v := undef) (a' := ?_) q47_9 rfl rfl (any_of HT_.out (by kernel_rfl)) (fun _ _ _ h => h) (Or.inr ⟨by rfl, rfl⟩) ?_ ?_
         rotate_left
         ·
          simp only [Pst.all]
          rfl
         refine pure_ (i := 32) (N := some 51) (v := undef) (a' := ?_) q48_9 rfl rfl (any_of HT_.out (by kernel_rfl)) (fun _ _ _ h => h) (Or.inr ⟨by rfl, rfl⟩) ?_ ?_
         rotate_left
         ·
          simp only [Pst.all]
          rfl
         refine pure_ (i := 33) (N := some 52) (v := undef) (a' := ?_) q49_9 rfl rfl (any_of HT_.out (by kernel_rfl)) (fun _ _ _ h => h) (Or.inr ⟨by rfl, rfl⟩) ?_ ?_
         rotate_left
         ·
          simp only [Pst.all]
          rfl
         refine pure_ (i := 34) (N := some 53) (v := undef) (a' := ?_) q50_9 rfl rfl (any_of HT_.out (by kernel_rfl)) (fun _ _ _ h => h) (Or.inr ⟨by rfl, rfl⟩) ?_ ?_
         rotate_left
         ·
          simp only [Pst.all]
          rfl
         refine pure_ (i := 35) (N := some 54) (v := undef) (a' := ?_) q36_9 rfl rfl (any_of HT_.out (by kernel_rfl)) (fun _ _ _ h => h) (Or.inr ⟨by rfl, rfl⟩) ?_ ?_
         rotate_left
         ·
          simp only [Pst.all]
          rfl
         refine pure_ (i := 36) (N := some 55) (v := undef) (a' := ?_) q37_9 rfl rfl (any_of HT_.out (by kernel_rfl)) (fun _ _ _ h => h) (Or.inr ⟨by rfl, rfl⟩) ?_ ?_
         rotate_left
         ·
          simp only [Pst.all]
          rfl
         refine pure_ (i := 37) (N := some 56) (v := undef) (a' := ?_) q38_9 rfl rfl (any_of HT_.out (by kernel_rfl)) (fun _ _ _ h => h) (Or.inr ⟨by rfl, rfl⟩) ?_ ?_
         rotate_left
         ·
          simp only [Pst.all]
          rfl
         refine pure_ (i := 38) (N := some 57) (v := undef) (a' := ?_) q39_9 rfl rfl (any_of HT_.out (by kernel_rfl)) (fun _ _ _ h => h) (Or.inr ⟨by rfl, rfl⟩) ?_ ?_
         rotate_left
         ·
          simp only [Pst.all]
          rfl
         refine pure_ (i := 39) (N := some 58) (v := undef) (a' := ?_) q40_9 rfl rfl (any_of HT_.out (by kernel_rfl)) (fun _ _ _ h => h) (Or.inr ⟨by rfl, rfl⟩) ?_ ?_
         rotate_left
         ·
          simp only [Pst.all]
          rfl
         refine pure_ (i := 40) (N := some 59) (v := ?_) (a' := ?_) q41_9 rfl rfl (any_of HT_.out (by kernel_rfl)) (fun _ _ _ h => h) (Or.inl ⟨by rfl, ?_⟩) ?_ ?_
         rotate_left
         ·
          intro w'
          go_simp
          with_reducible rfl
         rotate_left
         ·
          simp only [Pst.all]
          rfl
         refine done_ (done_of HT_.out (by kernel_rfl)) ?_
         try go_wp2
         go_meet
         case rel => exact ⟨_, (true), (by first | rfl | (simp; done) | (simp [*]; done)), H', ⟨by have := HK1.out; first | omega | exact Nat.le_refl _⟩, ⟨by (with_reducible repeat (first | refine blk_drewN ?_ _ | refine blk_drew ?_ | refine blk_alloc ?_ _)); exact BK148.out⟩, ⟨by repeat (first | (with_reducible first | exact HB.out | apply below_alloc | apply pw_below_drewN | apply below_drew1 | refine below_set ?_ GE148.out) | exact HB.out)⟩⟩
       ·
        replace c9 := Bool.eq_false_iff.mpr c9
        subst c9
        have H1 : (spec_StoreOk.j1 k1 l0 x3_1 true ((rd_T58 l0 x3_1).f0) ((rd_T58 l0 x3_1).f1) ((rd_T58 l0 x3_1).f2)) = some r := by rw [if_neg (show ¬ (false = true) by decide)] at H; exact H
        clear H
        have H := H1
        clear H1
        have H' := Aside0.mk H
        clear H
        try go_wp2
        have n0_ : Aside0 ((((w6.setCell ⟨gb148, 0, none⟩ (.string ((rd_T58 l0 x3_1).f0))).setCell ⟨gb148, 1, none⟩ (.string ((rd_T58 l0 x3_1).f1))).setCell ⟨gb148, 2, none⟩ (.slice A147_2 ((rd_T58 l0 x3_1).f2).length c147_2)).heap[gb148]? = some (.cells #[.string ((rd_T58 l0 x3_1).f0), .string ((rd_T58 l0 x3_1).f1), .slice A147_2 ((rd_T58 l0 x3_1).f2).length c147_2] 58 (0, 0))) := ⟨by (with_reducible repeat (first | refine blk_drewN ?_ _ | refine blk_drew ?_ | refine blk_alloc ?_ _)); refine blk_put (cs := #[.string ((rd_T58 l0 x3_1).f0), .string ((rd_T58 l0 x3_1).f1), .slice none 0 0]) ?_ 2 _ rfl; (with_reducible repeat (first | refine blk_drewN ?_ _ | refine blk_drew ?_ | refine blk_alloc ?_ _)); refine blk_put (cs := #[.string ((rd_T58 l0 x3_1).f0), .string (⟨#[]⟩ : ByteArray), .slice none 0 0]) ?_ 1 _ rfl; (with_reducible repeat (first | refine blk_drewN ?_ _ | refine blk_drew ?_ | refine blk_alloc ?_ _)); refine blk_put (cs := #[.string (⟨#[]⟩ : ByteArray), .string (⟨#[]⟩ : ByteArray), .slice none 0 0]) ?_ 0 _ rfl; (with_reducible repeat (first | refine blk_drewN ?_ _ | refine blk_drew ?_ | refine blk_alloc ?_ _)); exact BK148.out⟩
        have n1_ : Aside0 (Below w.heap.size w (((w6.setCell ⟨gb148, 0, none⟩ (.string ((rd_T58 l0 x3_1).f0))).setCell ⟨gb148, 1, none⟩ (.string ((rd_T58 l0 x3_1).f1))).setCell ⟨gb148, 2, none⟩ (.slice A147_2 ((rd_T58 l0 x3_1).f2).length c147_2))) := ⟨by repeat (first | (with_reducible first | exact HB.out | apply below_alloc | apply pw_below_drewN | apply below_drew1 | refine below_set ?_ GE148.out) | exact HB.out)⟩
        (try clear BK148)
        (try clear HB)
        generalize (((w6.setCell ⟨gb148, 0, none⟩ (.string ((rd_T58 l0 x3_1).f0))).setCell ⟨gb148, 1, none⟩ (.string ((rd_T58 l0 x3_1).f1))).setCell ⟨gb148, 2, none⟩ (.slice A147_2 ((rd_T58 l0 x3_1).f2).length c147_2)) = w27 at n0_ n1_ ⊢
        have BK148 := n0_
        have HB := n1_
        clear n0_ n1_
        have n0_ := Aside0.mk (blk_drew BK148.out)
        have n1_ := Aside0.mk (below_drew1 HB.out)
        clear BK148
        clear HB
        have BK148 := n0_
        have HB := n1_
        clear n0_ n1_
        refine start_ (n := 41) (S := fun w' => w'.cell? ⟨gb148, 0, none⟩ = some (.string ((rd_T58 l0 x3_1).f0)) ∧ w'.cell? ⟨gb148, 1, none⟩ = some (.string ((rd_T58 l0 x3_1).f1)) ∧ w'.cell? ⟨gb148, 2, none⟩ = some (.slice A147_2 ((rd_T58 l0 x3_1).f2).length c147_2)) (ds := []) q0_9 (by kernel_rfl) rfl rfl ⟨(blk_cell BK148.out 0).trans rfl, (blk_cell BK148.out 1).trans rfl, (blk_cell BK148.out 2).trans rfl⟩ (fun hHeld => ?_); refine with_tabW spec_StoreOk.tab7 spec_StoreOk.bits7 (fun HT_ HW_ => ?_)
        generalize w27.drew = w28 at BK148 HB hHeld ⊢
        refine pure_ (i := 0) (N := some 19) (v := ?_) (a' := ?_) q1_9 rfl rfl (any_of HT_.out (by kernel_rfl)) (fun _ _ _ h => h) (Or.inl ⟨by rfl, ?_⟩) ?_ ?_
        rotate_left
        ·
         intro w'
         go_simp
         with_reducible rfl
        rotate_left
        ·
         simp only [Pst.all]
         rfl
        refine take_ (i := 1) (N := some 20) (v := ?_) (a' := ?_) q2_9 rfl rfl (take_ofW HT_.out HW_.out (by kernel_rfl)) (fun _ _ _ h => h) (Or.inl ⟨by rfl, ?_⟩) hHeld ?_ ?_
        rotate_left
        ·
         rintro w' ⟨s0, s1, s2⟩
         go_simp
         with_reducible rfl
        rotate_left
        ·
         simp only [Pst.all]
         rfl
        refine one_ (i := 2) (N := some 21) q3_9 rfl rfl (one_of HT_.out (by kernel_rfl)) (by decide) (fun K hK => ?_)
        refine goes_ Try.func30 (by kernel_rfl) rfl #[.string ((rd_T58 l0 x3_1).f0)] (by rfl) rfl rfl (by (try simp only [List.map_toArray, List.map_cons, List.map_nil]); first | done | rfl | (simp only [List.length_drop, List.length_take]; rfl)) ?_
        with_reducible refine (spec_NameOk.calls k1 ((rd_T58 l0 x3_1).f0) false _ A8.out).mono ?_
        rintro e w' ⟨rfl, ⟨nd, rfl⟩⟩
        refine ⟨_, rfl, ?_⟩
        refine hK.out _ _ ⟨(blk_cell BK148.out 0).trans rfl, (blk_cell BK148.out 1).trans rfl, (blk_cell BK148.out 2).trans rfl⟩ (fun hHeld => ?_)
        clear hK K
        refine norm_ (a' := ?_) ?_ ?_
        rotate_left
        ·
         show Act.put _ (some 21) _ = _
         simp only [Pst.all]
         rfl
        refine pure_ (i := 3) (N := some 22) (v := ?_) (a' := ?_) q4_9 rfl rfl (any_of HT_.out (by kernel_rfl)) (fun _ _ _ h => h) (Or.inl ⟨by rfl, ?_⟩) ?_ ?_
        rotate_left
        ·
         intro w'
         go_simp
         with_reducible rfl
        rotate_left
        ·
         simp only [Pst.all]
         rfl
        refine pure_ (i := 4) (N := some 23) (v := ?_) (a' := ?_) q5_9 rfl rfl (any_of HT_.out (by kernel_rfl)) (fun _ _ _ h => h) (Or.inl ⟨by rfl, ?_⟩) ?_ ?_
        rotate_left
        ·
         intro w'
         go_simp
         with_reducible rfl
        rotate_left
        ·
         simp only [Pst.all]
         rfl
        refine pure_ (i := 5) (N := some 24) (v := undef) (a' := ?_) q6_9 rfl rfl (any_of HT_.out (by kernel_rfl)) (fun _ _ _ h => h) (Or.inr ⟨by rfl, rfl⟩) ?_ ?_
        rotate_left
        ·
         simp only [Pst.all]
         rfl
        refine pure_ (i := 6) (N := some 25) (v := undef) (a' := ?_) q7_9 rfl rfl (any_of HT_.out (by kernel_rfl)) (fun _ _ _ h => h) (Or.inr ⟨by rfl, rfl⟩) ?_ ?_
        rotate_left
        ·
         simp only [Pst.all]
         rfl
        refine pure_ (i := 7) (N := some 26) (v := undef) (a' := ?_) q8_9 rfl rfl (any_of HT_.out (by kernel_rfl)) (fun _ _ _ h => h) (Or.inr ⟨by rfl, rfl⟩) ?_ ?_
        rotate_left
        ·
         simp only [Pst.all]
         rfl
        refine pure_ (i := 8) (N := some 27) (v := undef) (a' := ?_) q9_9 rfl rfl (any_of HT_.out (by kernel_rfl)) (fun _ _ _ h => h) (Or.inr ⟨by rfl, rfl⟩) ?_ ?_
        rotate_left
        ·
         simp only [Pst.all]
         rfl
        refine pure_ (i := 9) (N := some 28) (v := ?_) (a' := ?_) q10_9 rfl rfl (any_of HT_.out (by kernel_rfl)) (fun _ _ _ h => h) (Or.inl ⟨by rfl, ?_⟩) ?_ ?_
        rotate_left
        ·
         intro w'
         go_simp
         with_reducible rfl
        rotate_left
        ·
         simp only [Pst.all]
         rfl
        refine pure_ (i := 10) (N := some 29) (v := ?_) (a' := ?_) q11_9 rfl rfl (any_of HT_.out (by kernel_rfl)) (fun _ _ _ h => h) (Or.inl ⟨by rfl, ?_⟩) ?_ ?_
        rotate_left
        ·
         intro w'
         go_simp
         with_reducible rfl
        rotate_left
        ·
         simp only [Pst.all]
         rfl
        refine pure_ (i := 11) (N := some 30) (v := undef) (a' := ?_) q12_9 rfl rfl (any_of HT_.out (by kernel_rfl)) (fun _ _ _ h => h) (Or.inr ⟨by rfl, rfl⟩) ?_ ?_
        rotate_left
        ·
         simp only [Pst.all]
         rfl
        refine pure_ (i := 12) (N := some 31) (v := undef) (a' := ?_) q13_9 rfl rfl (any_of HT_.out (by kernel_rfl)) (fun _ _ _ h => h) (Or.inr ⟨by rfl, rfl⟩) ?_ ?_
        rotate_left
        ·
         simp only [Pst.all]
         rfl
        refine pure_ (i := 13) (N := some 32) (v := undef) (a' := ?_) q14_9 rfl rfl (any_of HT_.out (by kernel_rfl)) (fun _ _ _ h => h) (Or.inr ⟨by rfl, rfl⟩) ?_ ?_
        rotate_left
        ·
         simp only [Pst.all]
         rfl
        refine pure_ (i := 14) (N := some 33) (v := undef) (a' := ?_) q15_9 rfl rfl (any_of HT_.out (by kernel_rfl)) (fun _ _ _ h => h) (Or.inr ⟨by rfl, rfl⟩) ?_ ?_
        rotate_left
        ·
         simp only [Pst.all]
         rfl
        refine pure_ (i := 15) (N := some 34) (v := undef) (a' := ?_) q16_9 rfl rfl (any_of HT_.out (by kernel_rfl)) (fun _ _ _ h => h) (Or.inr ⟨by rfl, rfl⟩) ?_ ?_
        rotate_left
        ·
         simp only [Pst.all]
         rfl
        refine pure_ (i := 16) (N := some 35) (v := ?_) (a' := ?_) q17_9 rfl rfl (any_of HT_.out (by kernel_rfl)) (fun _ _ _ h => h) (Or.inl ⟨by rfl, ?_⟩) ?_ ?_
        rotate_left
        ·
         intro w'
         go_simp
         with_reducible rfl
        rotate_left
        ·
         simp only [Pst.all]
         rfl
        refine pure_ (i := 17) (N := some 36) (v := ?_) (a' := ?_) q18_9 rfl rfl (any_of HT_.out (by kernel_rfl)) (fun _ _ _ h => h) (Or.inl ⟨by rfl, ?_⟩) ?_ ?_
        rotate_left
        ·
         intro w'
         go_simp
         with_reducible rfl
        rotate_left
        ·
         simp only [Pst.all]
         rfl
        refine pure_ (i := 18) (N := some 37) (v := undef) (a' := ?_) q19_9 rfl rfl (any_of HT_.out (by kernel_rfl)) (fun _ _ _ h => h) (Or.inr ⟨by rfl, rfl⟩) ?_ ?_
        rotate_left
        ·
         simp only [Pst.all]
         rfl
        refine pure_ (i := 19) (N := some 38) (v := undef) (a' := ?_) q20_9 rfl rfl (any_of HT_.out (by kernel_rfl)) (fun _ _ _ h => h) (Or.inr ⟨by rfl, rfl⟩) ?_ ?_
        rotate_left
        ·
         simp only [Pst.all]
         rfl
        refine pure_ (i := 20) (N := some 39) (v := undef) (a' := ?_) q21_9 rfl rfl (any_of HT_.out (by kernel_rfl)) (fun _ _ _ h => h) (Or.inr ⟨by rfl, rfl⟩) ?_ ?_
        rotate_left
        ·
         simp only [Pst.all]
         rfl
        refine pure_ (i := 21) (N := some 40) (v := undef) (a' := ?_) q22_9 rfl rfl (any_of HT_.out (by kernel_rfl)) (fun _ _ _ h => h) (Or.inr ⟨by rfl, rfl⟩) ?_ ?_
        rotate_left
        ·
         simp only [Pst.all]
         rfl
        refine pure_ (i := 22) (N := some 41) (v := undef) (a' := ?_) q23_9 rfl rfl (any_of HT_.out (by kernel_rfl)) (fun _ _ _ h => h) (Or.inr ⟨by rfl, rfl⟩) ?_ ?_
        rotate_left
        ·
         simp only [Pst.all]
         rfl
        refine pure_ (i := 23) (N := some 42) (v := undef) (a' := ?_) q24_9 rfl rfl (any_of HT_.out (by kernel_rfl)) (fun _ _ _ h => h) (Or.inr ⟨by rfl, rfl⟩) ?_ ?_
        rotate_left
        ·
         simp only [Pst.all]
         rfl
        refine pure_ (i := 24) (N := some 43) (v := undef) (a' := ?_) q25_9 rfl rfl (any_of HT_.out (by kernel_rfl)) (fun _ _ _ h => h) (Or.inr ⟨by rfl, rfl⟩) ?_ ?_
        rotate_left
        ·
         simp only [Pst.all]
         rfl
        refine pure_ (i := 25) (N := some 44) (v := undef) (a' := ?_) q26_9 rfl rfl (any_of HT_.out (by kernel_rfl)) (fun _ _ _ h => h) (Or.inr ⟨by rfl, rfl⟩) ?_ ?_
        rotate_left
        ·
         simp only [Pst.all]
         rfl
        refine pure_ (i := 26) (N := some 45) (v := undef) (a' := ?_) q42_9 rfl rfl (any_of HT_.out (by kernel_rfl)) (fun _ _ _ h => h) (Or.inr ⟨by rfl, rfl⟩) ?_ ?_
        rotate_left
        ·
         simp only [Pst.all]
         rfl
        refine pure_ (i := 27) (N := some 46) (v := undef) (a' := ?_) q43_9 rfl rfl (any_of HT_.out (by kernel_rfl)) (fun _ _ _ h => h) (Or.inr ⟨by rfl, rfl⟩) ?_ ?_
        rotate_left
        ·
         simp only [Pst.all]
         rfl
        refine pure_ (i := 28) (N := some 47) (v := undef) (a' := ?_) q44_9 rfl rfl (any_of HT_.out (by kernel_rfl)) (fun _ _ _ h => h) (Or.inr ⟨by rfl, rfl⟩) ?_ ?_
        rotate_left
        ·
         simp only [Pst.all]
         rfl
        refine pure_ (i := 29) (N := some 48) (v := undef) (a' := ?_) q45_9 rfl rfl (any_of HT_.out (by kernel_rfl)) (fun _ _ _ h => h) (Or.inr ⟨by rfl, rfl⟩) ?_ ?_
        rotate_left
        ·
         simp only [Pst.all]
         rfl
        refine pure_ (i := 30) (N := some 49) (v := undef) (a' := ?_) q46_9 rfl rfl (any_of HT_.out (by kernel_rfl)) (fun _ _ _ h => h) (Or.inr ⟨by rfl, rfl⟩) ?_ ?_
        rotate_left
        ·
         simp only [Pst.all]
         rfl
        refine pure_ (i := 31) (N := some 50) (v := undef) (a' := ?_) q47_9 rfl rfl (any_of HT_.out (by kernel_rfl)) (fun _ _ _ h => h) (Or.inr ⟨by rfl, rfl⟩) ?_ ?_
        rotate_left
        ·
         simp only [Pst.all]
         rfl
        refine pure_ (i := 32) (N := some 51) (v := undef) (a' := ?_) q48_9 rfl rfl (any_of HT_.out (by kernel_rfl)) (fun _ _ _ h => h) (Or.inr ⟨by rfl, rfl⟩) ?_ ?_
        rotate_left
        ·
         simp only [Pst.all]
         rfl
        refine pure_ (i := 33) (N := some 52) (v := undef) (a' := ?_) q49_9 rfl rfl (any_of HT_.out (by kernel_rfl)) (fun _ _ _ h => h) (Or.inr ⟨by rfl, rfl⟩) ?_ ?_
        rotate_left
        ·
         simp only [Pst.all]
         rfl
        refine pure_ (i := 34) (N := some 53) (v := undef) (a' := ?_) q50_9 rfl rfl (any_of HT_.out (by kernel_rfl)) (fun _ _ _ h => h) (Or.inr ⟨by rfl, rfl⟩) ?_ ?_
        rotate_left
        ·
         simp only [Pst.all]
         rfl
        refine pure_ (i := 35) (N := some 54) (v := undef) (a' := ?_) q36_9 rfl rfl (any_of HT_.out (by kernel_rfl)) (fun _ _ _ h => h) (Or.inr ⟨by rfl, rfl⟩) ?_ ?_
        rotate_left
        ·
         simp only [Pst.all]
         rfl
        refine pure_ (i := 36) (N := some 55) (v := undef) (a' := ?_) q37_9 rfl rfl (any_of HT_.out (by kernel_rfl)) (fun _ _ _ h => h) (Or.inr ⟨by rfl, rfl⟩) ?_ ?_
        rotate_left
        ·
         simp only [Pst.all]
         rfl
        refine pure_ (i := 37) (N := some 56) (v := undef) (a' := ?_) q38_9 rfl rfl (any_of HT_.out (by kernel_rfl)) (fun _ _ _ h => h) (Or.inr ⟨by rfl, rfl⟩) ?_ ?_
        rotate_left
        ·
         simp only [Pst.all]
         rfl
        refine pure_ (i := 38) (N := some 57) (v := undef) (a' := ?_) q39_9 rfl rfl (any_of HT_.out (by kernel_rfl)) (fun _ _ _ h => h) (Or.inr ⟨by rfl, rfl⟩) ?_ ?_
        rotate_left
        ·
         simp only [Pst.all]
         rfl
        refine pure_ (i := 39) (N := some 58) (v := undef) (a' := ?_) q40_9 rfl rfl (any_of HT_.out (by kernel_rfl)) (fun _ _ _ h => h) (Or.inr ⟨by rfl, rfl⟩) ?_ ?_
        rotate_left
        ·
         simp only [Pst.all]
         rfl
        refine pure_ (i := 40) (N := some 59) (v := ?_) (a' := ?_) q41_9 rfl rfl (any_of HT_.out (by kernel_rfl)) (fun _ _ _ h => h) (Or.inl ⟨by rfl, ?_⟩) ?_ ?_
        rotate_left
        ·
         intro w'
         go_simp
         with_reducible rfl
        rotate_left
        ·
         simp only [Pst.all]
         rfl
        refine done_ (done_of HT_.out (by kernel_rfl)) ?_
        try go_wp2
        go_meet
        case rel => exact ⟨_, (true), (by first | rfl | (simp; done) | (simp [*]; done)), H', ⟨by have := HK1.out; first | omega | exact Nat.le_refl _⟩, ⟨by (with_reducible repeat (first | refine blk_drewN ?_ _ | refine blk_drew ?_ | refine blk_alloc ?_ _)); exact BK148.out⟩, ⟨by repeat (first | (with_reducible first | exact HB.out | apply below_alloc | apply pw_below_drewN | apply below_drew1 | refine below_set ?_ GE148.out) | exact HB.out)⟩⟩
      case rest =>
       clear HC5
       try clear c1
       try clear p2
       try clear c3
       try clear c9
       try clear c11
       try clear c14
       obtain ⟨kq, x59_4, rfl, HA, HJ4, BK148, HB⟩ := hcut
       cases kq with
       | zero => exact absurd HA.out (by simp [spec_StoreOk.j1])
       | succ kj4 =>
        have H := HA.out
        clear HA
        simp only [spec_StoreOk.j1] at H
        by_cases c29 : x59_4 = true
        ·
         subst c29
         have H1 : (some false) = some r := by rw [if_pos rfl] at H; exact H
         clear H
         have H := H1
         clear H1
         obtain rfl := Option.some.inj H
         go_wp2
         go_ret
         exact ⟨by first | rfl | (simp [errW_none, errW_some] <;> rfl) | (simp [*, errW_none, errW_some] <;> rfl), by repeat (first | (with_reducible first | exact HB.out | apply below_alloc | apply pw_below_drewN | apply below_drew1 | refine below_set ?_ GE148.out) | exact HB.out)⟩
        ·
         replace c29 := Bool.eq_false_iff.mpr c29
         subst c29
         have H1 : (spec_StoreOk.l1 kj4 l0 x3_1 0 ((rd_T58 l0 x3_1).f0) ((rd_T58 l0 x3_1).f1) ((rd_T58 l0 x3_1).f2)) = some r := by rw [if_neg (show ¬ (false = true) by decide)] at H; exact H
         clear H
         have H := H1
         clear H1
         have H' := Aside0.mk H
         clear H
         go_wp2
         go_loopg [5] kj4 (fun kq v5 w' => ∃ (x5_3 : Int), v5 = .int .i64 x5_3 ∧ Aside0 (spec_StoreOk.l1 kq l0 x3_1 x5_3 ((rd_T58 l0 x3_1).f0) ((rd_T58 l0 x3_1).f1) ((rd_T58 l0 x3_1).f2) = some r) ∧ Aside0 (kq ≤ kj4) ∧ Aside0 (w'.heap[gb148]? = some (.cells #[.string ((rd_T58 l0 x3_1).f0), .string ((rd_T58 l0 x3_1).f1), (.slice A147_2 ((rd_T58 l0 x3_1).f2).length c147_2)] 58 (0, 0))) ∧ Aside0 (Below w.heap.size w w'))
         case atStart => exact ⟨(0), (by first | rfl | (simp; done) | (simp [*]; done)), H', ⟨Nat.le_refl _⟩, ⟨by (with_reducible repeat (first | refine blk_drewN ?_ _ | refine blk_drew ?_ | refine blk_alloc ?_ _)); exact BK148.out⟩, ⟨by repeat (first | (with_reducible first | exact HB.out | apply below_alloc | apply pw_below_drewN | apply below_drew1 | refine below_set ?_ GE148.out) | exact HB.out)⟩⟩
         case round =>
          clear H'
          try clear c1
          try clear c2
          try clear p2
          try clear c3
          try clear c9
          try clear c11
          try clear c14
          try clear c29
          try clear p2
          obtain ⟨x5_3, rfl, HA, HK3, BK148, HB⟩ := hrel
          cases gk with
          | zero => exact absurd HA.out (by simp [spec_StoreOk.l1])
          | succ k3 =>
           have H := HA.out
           clear HA
           simp only [spec_StoreOk.l1] at H
           by_cases c30 : x5_3 < (((rd_T58 l0 x3_1).f2).length : Int)
           ·
            rw [if_pos c30] at H
            have c30b0 : decide (x5_3 < (((rd_T58 l0 x3_1).f2).length : Int)) = true := decide_eq_true c30
            clear c30
            by_cases c31 : 0 ≤ x5_3
            ·
             rw [if_pos c31] at H
             have c31b0 : decide (0 ≤ x5_3) = true := decide_eq_true c31
             clear c31
             replace H := Option.bind_eq_some_iff.mp H
             obtain ⟨t156, A320, H⟩ := H
             replace H : (if t156 = true then ((spec_l01Amt.f ((rd_T31 ((rd_T58 l0 x3_1).f2) x5_3).f1)).bind fun t158 => (if t158 = true then (if x5_3 > 0 then (if 0 ≤ (wrap64 (x5_3 - 1)) then (if (wrap64 (x5_3 - 1)) < (((rd_T58 l0 x3_1).f2).length : Int) then (if ((rd_T31 ((rd_T58 l0 x3_1).f2) (wrap64 (x5_3 - 1))).f0) ≥ ((rd_T31 ((rd_T58 l0 x3_1).f2) x5_3).f0) then (some false) else (spec_StoreOk.l1 k3 l0 x3_1 (wrap64 (x5_3 + 1)) ((rd_T58 l0 x3_1).f0) ((rd_T58 l0 x3_1).f1) ((rd_T58 l0 x3_1).f2))) else (none)) else (none)) else (spec_StoreOk.l1 k3 l0 x3_1 (wrap64 (x5_3 + 1)) ((rd_T58 l0 x3_1).f0) ((rd_T58 l0 x3_1).f1) ((rd_T58 l0 x3_1).f2))) else (some false))) else (some false)) = some r := H
             have A32 := Aside0.mk A320
             clear A320
             by_cases c33 : t156 = true
             ·
              subst c33
              have H1 : ((spec_l01Amt.f ((rd_T31 ((rd_T58 l0 x3_1).f2) x5_3).f1)).bind fun t158 => (if t158 = true then (if x5_3 > 0 then (if 0 ≤ (wrap64 (x5_3 - 1)) then (if (wrap64 (x5_3 - 1)) < (((rd_T58 l0 x3_1).f2).length : Int) then (if ((rd_T31 ((rd_T58 l0 x3_1).f2) (wrap64 (x5_3 - 1))).f0) ≥ ((rd_T31 ((rd_T58 l0 x3_1).f2) x5_3).f0) then (some false) else (spec_StoreOk.l1 k3 l0 x3_1 (wrap64 (x5_3 + 1)) ((rd_T58 l0 x3_1).f0) ((rd_T58 l0 x3_1).f1) ((rd_T58 l0 x3_1).f2))) else (none)) else (none)) else (spec_StoreOk.l1 k3 l0 x3_1 (wrap64 (x5_3 + 1)) ((rd_T58 l0 x3_1).f0) ((rd_T58 l0 x3_1).f1) ((rd_T58 l0 x3_1).f2))) else (some false))) = some r := by rw [if_pos rfl] at H; exact H
              clear H
              have H := H1
              clear H1
              replace H := Option.bind_eq_some_iff.mp H
              obtain ⟨t158, A340, H⟩ := H
              replace H : (if t158 = true then (if x5_3 > 0 then (if 0 ≤ (wrap64 (x5_3 - 1)) then (if (wrap64 (x5_3 - 1)) < (((rd_T58 l0 x3_1).f2).length : Int) then (if ((rd_T31 ((rd_T58 l0 x3_1).f2) (wrap64 (x5_3 - 1))).f0) ≥ ((rd_T31 ((rd_T58 l0 x3_1).f2) x5_3).f0) then (some false) else (spec_StoreOk.l1 k3 l0 x3_1 (wrap64 (x5_3 + 1)) ((rd_T58 l0 x3_1).f0) ((rd_T58 l0 x3_1).f1) ((rd_T58 l0 x3_1).f2))) else (none)) else (none)) else (spec_StoreOk.l1 k3 l0 x3_1 (wrap64 (x5_3 + 1)) ((rd_T58 l0 x3_1).f0) ((rd_T58 l0 x3_1).f1) ((rd_T58 l0 x3_1).f2))) else (some false)) = some r := H
              have A34 := Aside0.mk A340
              clear A340
              by_cases c35 : t158 = true
              ·
               subst c35
               have H1 : (if x5_3 > 0 then (if 0 ≤ (wrap64 (x5_3 - 1)) then (if (wrap64 (x5_3 - 1)) < (((rd_T58 l0 x3_1).f2).length : Int) then (if ((rd_T31 ((rd_T58 l0 x3_1).f2) (wrap64 (x5_3 - 1))).f0) ≥ ((rd_T31 ((rd_T58 l0 x3_1).f2) x5_3).f0) then (some false) else (spec_StoreOk.l1 k3 l0 x3_1 (wrap64 (x5_3 + 1)) ((rd_T58 l0 x3_1).f0) ((rd_T58 l0 x3_1).f1) ((rd_T58 l0 x3_1).f2))) else (none)) else (none)) else (spec_StoreOk.l1 k3 l0 x3_1 (wrap64 (x5_3 + 1)) ((rd_T58 l0 x3_1).f0) ((rd_T58 l0 x3_1).f1) ((rd_T58 l0 x3_1).f2))) = some r := by rw [if_pos rfl] at H; exact H
               clear H
               have H := H1
               clear H1
               by_cases c36 : x5_3 > 0
               ·
                rw [if_pos c36] at H
                have c36b0 : decide (0 < x5_3) = true := decide_eq_true c36
                clear c36
                obtain ⟨ji37, hji37⟩ : ∃ j_ : Int, (wrap64 (x5_3 - 1)) = j_ := ⟨_, rfl⟩
                replace H : (if 0 ≤ (ji37) then (if (ji37) < (((rd_T58 l0 x3_1).f2).length : Int) then (if ((rd_T31 ((rd_T58 l0 x3_1).f2) (ji37)).f0) ≥ ((rd_T31 ((rd_T58 l0 x3_1).f2) x5_3).f0) then (some false) else (spec_StoreOk.l1 k3 l0 x3_1 (wrap64 (x5_3 + 1)) ((rd_T58 l0 x3_1).f0) ((rd_T58 l0 x3_1).f1) ((rd_T58 l0 x3_1).f2))) else (none)) else (none)) = some r := by first | (rw [hji37] at H; exact H) | (simp only [hji37] at H ⊢; exact H)
                (try rw [hji37] at A32)
                (try rw [hji37] at A34)
                have hji37w : (IntKind.i64.wrap (x5_3 - 1)) = ji37 := (i64_w _).trans hji37
                by_cases c38 : 0 ≤ (ji37)
                ·
                 rw [if_pos c38] at H
                 have c38b0 : decide (0 ≤ (ji37)) = true := decide_eq_true c38
                 clear c38
                 by_cases c39 : (ji37) < (((rd_T58 l0 x3_1).f2).length : Int)
                 ·
                  rw [if_pos c39] at H
                  have c39b0 : decide ((ji37) < (((rd_T58 l0 x3_1).f2).length : Int)) = true := decide_eq_true c39
                  clear c39
                  by_cases c40 : ((rd_T31 ((rd_T58 l0 x3_1).f2) (ji37)).f0) ≥ ((rd_T31 ((rd_T58 l0 x3_1).f2) x5_3).f0)
                  ·
                   rw [if_pos c40] at H
                   have c40b0 : decide (((rd_T31 ((rd_T58 l0 x3_1).f2) x5_3).f0) ≤ ((rd_T31 ((rd_T58 l0 x3_1).f2) (ji37)).f0)) = true := decide_eq_true c40
                   clear c40
                   obtain rfl := Option.some.inj H
                   obtain ⟨hcz41_0, hcz41_1, hcz41_2⟩ := Pst.c3 BK148.out
                   obtain ⟨hfz41_0, hfz41_1, hfz41_2⟩ := Pst.f3 BK148.out
                   try go_wp2
                   have n0_ := Aside0.mk (blk_drew BK148.out)
                   have n1_ := Aside0.mk (below_drew1 HB.out)
                   clear BK148
                   clear HB
                   have BK148 := n0_
                   have HB := n1_
                   clear n0_ n1_
                   have p155 : 0 ≤ (x5_3 : Int) := of_decide_eq_true (by first | (with_reducible assumption) | assumption)
                   have q155 : x5_3 < (((rd_T58 l0 x3_1).f2).length : Int) := of_decide_eq_true (by first | (with_reducible assumption) | assumption)
                   obtain ⟨ad155, e155, hx155_0, hx155_1⟩ := at_T31 HR147_2.out x5_3 p155 q155
                   have hw155_1 := hx155_1
                   have hw155_0 := hx155_0
                   cases e155
                   replace hx155_0 := (HB.out.cell (World.block_lt_of_cell? w _ hx155_0)).trans hx155_0
                   replace hx155_1 := (HB.out.cell (World.block_lt_of_cell? w _ hx155_1)).trans hx155_1
                   replace p155 := eq_true p155
                   replace q155 := eq_true q155
                   have p157 : 0 ≤ (x5_3 : Int) := of_decide_eq_true (by first | (with_reducible assumption) | assumption)
                   have q157 : x5_3 < (((rd_T58 l0 x3_1).f2).length : Int) := of_decide_eq_true (by first | (with_reducible assumption) | assumption)
                   obtain ⟨ad157, e157, hx157_0, hx157_1⟩ := at_T31 HR147_2.out x5_3 p157 q157
                   have hw157_1 := hx157_1
                   have hw157_0 := hx157_0
                   obtain rfl : ad155 = ad157 := (by injection e157)
                   replace hx157_0 := (HB.out.cell (World.block_lt_of_cell? w _ hx157_0)).trans hx157_0
                   replace hx157_1 := (HB.out.cell (World.block_lt_of_cell? w _ hx157_1)).trans hx157_1
                   replace p157 := eq_true p157
                   replace q157 := eq_true q157
                   have p159 : 0 ≤ ((ji37) : Int) := of_decide_eq_true (by first | (with_reducible assumption) | assumption)
                   have q159 : (ji37) < (((rd_T58 l0 x3_1).f2).length : Int) := of_decide_eq_true (by first | (with_reducible assumption) | assumption)
                   obtain ⟨ad159, e159, hx159_0, hx159_1⟩ := at_T31 HR147_2.out (ji37) p159 q159
                   have hw159_1 := hx159_1
                   have hw159_0 := hx159_0
                   obtain rfl : ad155 = ad159 := (by injection e159)
                   replace hx159_0 := (HB.out.cell (World.block_lt_of_cell? w _ hx159_0)).trans hx159_0
                   replace hx159_1 := (HB.out.cell (World.block_lt_of_cell? w _ hx159_1)).trans hx159_1
                   replace p159 := eq_true p159
                   replace q159 := eq_true q159
                   have p160 : 0 ≤ (x5_3 : Int) := of_decide_eq_true (by first | (with_reducible assumption) | assumption)
                   have q160 : x5_3 < (((rd_T58 l0 x3_1).f2).length : Int) := of_decide_eq_true (by first | (with_reducible assumption) | assumption)
                   obtain ⟨ad160, e160, hx160_0, hx160_1⟩ := at_T31 HR147_2.out x5_3 p160 q160
                   have hw160_1 := hx160_1
                   have hw160_0 := hx160_0
                   obtain rfl : ad155 = ad160 := (by injection e160)
                   replace hx160_0 := (HB.out.cell (World.block_lt_of_cell? w _ hx160_0)).trans hx160_0
                   replace hx160_1 := (HB.out.cell (World.block_lt_of_cell? w _ hx160_1)).trans hx160_1
                   replace p160 := eq_true p160
                   replace q160 := eq_true q160
                   refine start_ (n := 38) (S := fun w' => w'.cell? ⟨gb148, 0, none⟩ = some (.string ((rd_T58 l0 x3_1).f0)) ∧ w'.cell? ⟨gb148, 1, none⟩ = some (.string ((rd_T58 l0 x3_1).f1)) ∧ w'.cell? ⟨gb148, 2, none⟩ = some (.slice (some ad155) ((rd_T58 l0 x3_1).f2).length c147_2) ∧ w'.cell? (ad155.add ((x5_3).toNat * 2)) = some (.int .i64 ((rd_T31 ((rd_T58 l0 x3_1).f2) x5_3).f0)) ∧ w'.cell? ⟨(ad155.add ((x5_3).toNat * 2)).block, (ad155.add ((x5_3).toNat * 2)).off + 1, none⟩ = some (.int .i64 ((rd_T31 ((rd_T58 l0 x3_1).f2) x5_3).f1)) ∧ w'.cell? (ad155.add ((x5_3).toNat * 2)) = some (.int .i64 ((rd_T31 ((rd_T58 l0 x3_1).f2) x5_3).f0)) ∧ w'.cell? ⟨(ad155.add ((x5_3).toNat * 2)).block, (ad155.add ((x5_3).toNat * 2)).off + 1, none⟩ = some (.int .i64 ((rd_T31 ((rd_T58 l0 x3_1).f2) x5_3).f1)) ∧ w'.cell? (ad155.add (((ji37)).toNat * 2)) = some (.int .i64 ((rd_T31 ((rd_T58 l0 x3_1).f2) (ji37)).f0)) ∧ w'.cell? ⟨(ad155.add (((ji37)).toNat * 2)).block, (ad155.add (((ji37)).toNat * 2)).off + 1, none⟩ = some (.int .i64 ((rd_T31 ((rd_T58 l0 x3_1).f2) (ji37)).f1)) ∧ w'.cell? (ad155.add ((x5_3).toNat * 2)) = some (.int .i64 ((rd_T31 ((rd_T58 l0 x3_1).f2) x5_3).f0)) ∧ w'.cell? ⟨(ad155.add ((x5_3).toNat * 2)).block, (ad155.add ((x5_3).toNat * 2)).off + 1, none⟩ = some (.int .i64 ((rd_T31 ((rd_T58 l0 x3_1).f2) x5_3).f1))) (ds := []) q51_9 (by kernel_rfl) rfl rfl ⟨(blk_cell BK148.out 0).trans rfl, (blk_cell BK148.out 1).trans rfl, (blk_cell BK148.out 2).trans rfl, ((HB.out.cell (World.block_lt_of_cell? w _ hw155_0)).trans hw155_0), ((HB.out.cell (World.block_lt_of_cell? w _ hw155_1)).trans hw155_1), ((HB.out.cell (World.block_lt_of_cell? w _ hw157_0)).trans hw157_0), ((HB.out.cell (World.block_lt_of_cell? w _ hw157_1)).trans hw157_1), ((HB.out.cell (World.block_lt_of_cell? w _ hw159_0)).trans hw159_0), ((HB.out.cell (World.block_lt_of_cell? w _ hw159_1)).trans hw159_1), ((HB.out.cell (World.block_lt_of_cell? w _ hw160_0)).trans hw160_0), ((HB.out.cell (World.block_lt_of_cell? w _ hw160_1)).trans hw160_1)⟩ (fun hHeld => ?_); refine with_tabW spec_StoreOk.tab12 spec_StoreOk.bits12 (fun HT_ HW_ => ?_)
                   generalize wr.drew = w42 at BK148 HB hx155_0 hx155_1 hx157_0 hx157_1 hx159_0 hx159_1 hx160_0 hx160_1 hHeld ⊢
                   refine pure_ (i := 0) (N := some 67) (v := ?_) (a' := ?_) q52_9 rfl rfl (any_of HT_.out (by kernel_rfl)) (fun _ _ _ h => h) (Or.inl ⟨by rfl, ?_⟩) ?_ ?_
                   rotate_left
                   ·
                    intro w'
                    go_simp
                    with_reducible rfl
                   rotate_left
                   ·
                    simp only [Pst.all]
                    rfl
                   refine pure_ (i := 2) (N := some 69) (v := ?_) (a' := ?_) q53_9 rfl rfl (any_of HT_.out (by kernel_rfl)) (fun _ _ _ h => h) (Or.inl ⟨by rfl, ?_⟩) ?_ ?_
                   rotate_left
                   ·
                    intro w'
                    go_simp
                    with_reducible rfl
                   rotate_left
                   ·
                    simp only [Pst.all]
                    rfl
                   refine take_ (i := 1) (N := some 68) (v := ?_) (a' := ?_) q54_9 rfl rfl (take_ofW HT_.out HW_.out (by kernel_rfl)) (fun _ _ _ h => h) (Or.inl ⟨by rfl, ?_⟩) hHeld ?_ ?_
                   rotate_left
                   ·
                    rintro w' ⟨s0, s1, s2, s3, s4, s5, s6, s7, s8, s9, s10⟩
                    go_simp
                    with_reducible rfl
                   rotate_left
                   ·
                    simp only [Pst.all]
                    rfl
                   refine pure_ (i := 3) (N := some 70) (v := ?_) (a' := ?_) q55_9 rfl rfl (any_of HT_.out (by kernel_rfl)) (fun _ _ _ h => h) (Or.inl ⟨by rfl, ?_⟩) ?_ ?_
                   rotate_left
                   ·
                    intro w'
                    go_simp
                    with_reducible rfl
                   rotate_left
                   ·
                    simp only [Pst.all]
                    rfl
                   refine pure_ (i := 4) (N := some 71) (v := ?_) (a' := ?_) q56_9 rfl rfl (any_of HT_.out (by kernel_rfl)) (fun _ _ _ h => h) (Or.inl ⟨by rfl, ?_⟩) ?_ ?_
                   rotate_left
                   ·
                    intro w'
                    go_simp
                    with_reducible rfl
                   rotate_left
                   ·
                    simp only [Pst.all]
                    rfl
                   refine take_ (i := 5) (N := some 72) (v := ?_) (a' := ?_) q57_9 rfl rfl (take_ofW HT_.out HW_.out (by kernel_rfl)) (fun _ _ _ h => h) (Or.inl ⟨by rfl, ?_⟩) hHeld ?_ ?_
                   rotate_left
                   ·
                    rintro w' ⟨s0, s1, s2, s3, s4, s5, s6, s7, s8, s9, s10⟩
                    go_simp
                    with_reducible rfl
                   rotate_left
                   ·
                    simp only [Pst.all]
                    rfl
                   refine one_ (i := 6) (N := some 73) q58_9 rfl rfl (one_of HT_.out (by kernel_rfl)) (by decide) (fun K hK => ?_)
                   refine goes_ Try.func33 (by kernel_rfl) rfl #[.int .i64 ((rd_T31 ((rd_T58 l0 x3_1).f2) x5_3).f0)] (by rfl) rfl rfl (by (try simp only [List.map_toArray, List.map_cons, List.map_nil]); first | done | rfl | (simp only [List.length_drop, List.length_take]; rfl)) ?_
                   with_reducible refine (spec_l02Tick.calls ((rd_T31 ((rd_T58 l0 x3_1).f2) x5_3).f0) true _ A32.out).mono ?_
                   rintro e w' ⟨rfl, ⟨nd, rfl⟩⟩
                   refine ⟨_, rfl, ?_⟩
                   refine hK.out _ _ ⟨(blk_cell BK148.out 0).trans rfl, (blk_cell BK148.out 1).trans rfl, (blk_cell BK148.out 2).trans rfl, ((HB.out.cell (World.block_lt_of_cell? w _ hw155_0)).trans hw155_0), ((HB.out.cell (World.block_lt_of_cell? w _ hw155_1)).trans hw155_1), ((HB.out.cell (World.block_lt_of_cell? w _ hw157_0)).trans hw157_0), ((HB.out.cell (World.block_lt_of_cell? w _ hw157_1)).trans hw157_1), ((HB.out.cell (World.block_lt_of_cell? w _ hw159_0)).trans hw159_0), ((HB.out.cell (World.block_lt_of_cell? w _ hw159_1)).trans hw159_1), ((HB.out.cell (World.block_lt_of_cell? w _ hw160_0)).trans hw160_0), ((HB.out.cell (World.block_lt_of_cell? w _ hw160_1)).trans hw160_1)⟩ (fun hHeld => ?_)
                   clear hK K
                   refine norm_ (a' := ?_) ?_ ?_
                   rotate_left
                   ·
                    show Act.put _ (some 73) _ = _
                    simp only [Pst.all]
                    rfl
                   refine pure_ (i := 7) (N := some 74) (v := ?_) (a' := ?_) q59_9 rfl rfl (any_of HT_.out (by kernel_rfl)) (fun _ _ _ h => h) (Or.inl ⟨by rfl, ?_⟩) ?_ ?_
                   rotate_left
                   ·
                    intro w'
                    go_simp
                    with_reducible rfl
                   rotate_left
                   ·
                    simp only [Pst.all]
                    rfl
                   refine pure_ (i := 8) (N := some 75) (v := ?_) (a' := ?_) q60_9 rfl rfl (any_of HT_.out (by kernel_rfl)) (fun _ _ _ h => h) (Or.inl ⟨by rfl, ?_⟩) ?_ ?_
                   rotate_left
                   ·
                    intro w'
                    go_simp
                    with_reducible rfl
                   rotate_left
                   ·
                    simp only [Pst.all]
                    rfl
                   refine pure_ (i := 9) (N := some 76) (v := ?_) (a' := ?_) q61_9 rfl rfl (any_of HT_.out (by kernel_rfl)) (fun _ _ _ h => h) (Or.inl ⟨by rfl, ?_⟩) ?_ ?_
                   rotate_left
                   ·
                    intro w'
                    go_simp
                    with_reducible rfl
                   rotate_left
                   ·
                    simp only [Pst.all]
                    rfl
                   refine pure_ (i := 11) (N := some 78) (v := ?_) (a' := ?_) q62_9 rfl rfl (any_of HT_.out (by kernel_rfl)) (fun _ _ _ h => h) (Or.inl ⟨by rfl, ?_⟩) ?_ ?_
                   rotate_left
                   ·
                    intro w'
                    go_simp
                    with_reducible rfl
                   rotate_left
                   ·
                    simp only [Pst.all]
                    rfl
                   refine take_ (i := 10) (N := some 77) (v := ?_) (a' := ?_) q63_9 rfl rfl (take_ofW HT_.out HW_.out (by kernel_rfl)) (fun _ _ _ h => h) (Or.inl ⟨by rfl, ?_⟩) hHeld ?_ ?_
                   rotate_left
                   ·
                    rintro w' ⟨s0, s1, s2, s3, s4, s5, s6, s7, s8, s9, s10⟩
                    go_simp
                    with_reducible rfl
                   rotate_left
                   ·
                    simp only [Pst.all]
                    rfl
                   refine pure_ (i := 12) (N := some 79) (v := ?_) (a' := ?_) q64_9 rfl rfl (any_of HT_.out (by kernel_rfl)) (fun _ _ _ h => h) (Or.inl ⟨by rfl, ?_⟩) ?_ ?_
                   rotate_left
                   ·
                    intro w'
                    go_simp
                    with_reducible rfl
                   rotate_left
                   ·
                    simp only [Pst.all]
                    rfl
                   refine pure_ (i := 13) (N := some 80) (v := ?_) (a' := ?_) q65_9 rfl rfl (any_of HT_.out (by kernel_rfl)) (fun _ _ _ h => h) (Or.inl ⟨by rfl, ?_⟩) ?_ ?_
                   rotate_left
                   ·
                    intro w'
                    go_simp
                    with_reducible rfl
                   rotate_left
                   ·
                    simp only [Pst.all]
                    rfl
                   refine take_ (i := 14) (N := some 81) (v := ?_) (a' := ?_) q66_9 rfl rfl (take_ofW HT_.out HW_.out (by kernel_rfl)) (fun _ _ _ h => h) (Or.inl ⟨by rfl, ?_⟩) hHeld ?_ ?_
                   rotate_left
                   ·
                    rintro w' ⟨s0, s1, s2, s3, s4, s5, s6, s7, s8, s9, s10⟩
                    go_simp
                    with_reducible rfl
                   rotate_left
                   ·
                    simp only [Pst.all]
                    rfl
                   refine one_ (i := 15) (N := some 82) q67_9 rfl rfl (one_of HT_.out (by kernel_rfl)) (by decide) (fun K hK => ?_)
                   refine goes_ Try.func34 (by kernel_rfl) rfl #[.int .i64 ((rd_T31 ((rd_T58 l0 x3_1).f2) x5_3).f1)] (by rfl) rfl rfl (by (try simp only [List.map_toArray, List.map_cons, List.map_nil]); first | done | rfl | (simp only [List.length_drop, List.length_take]; rfl)) ?_
                   with_reducible refine (spec_l01Amt.calls ((rd_T31 ((rd_T58 l0 x3_1).f2) x5_3).f1) true _ A34.out).mono ?_
                   rintro e w' ⟨rfl, ⟨nd, rfl⟩⟩
                   refine ⟨_, rfl, ?_⟩
                   refine hK.out _ _ ⟨(blk_cell BK148.out 0).trans rfl, (blk_cell BK148.out 1).trans rfl, (blk_cell BK148.out 2).trans rfl, ((HB.out.cell (World.block_lt_of_cell? w _ hw155_0)).trans hw155_0), ((HB.out.cell (World.block_lt_of_cell? w _ hw155_1)).trans hw155_1), ((HB.out.cell (World.block_lt_of_cell? w _ hw157_0)).trans hw157_0), ((HB.out.cell (World.block_lt_of_cell? w _ hw157_1)).trans hw157_1), ((HB.out.cell (World.block_lt_of_cell? w _ hw159_0)).trans hw159_0), ((HB.out.cell (World.block_lt_of_cell? w _ hw159_1)).trans hw159_1), ((HB.out.cell (World.block_lt_of_cell? w _ hw160_0)).trans hw160_0), ((HB.out.cell (World.block_lt_of_cell? w _ hw160_1)).trans hw160_1)⟩ (fun hHeld => ?_)
                   clear hK K
                   refine norm_ (a' := ?_) ?_ ?_
                   rotate_left
                   ·
                    show Act.put _ (some 82) _ = _
                    simp only [Pst.all]
                    rfl
                   refine pure_ (i := 16) (N := some 83) (v := ?_) (a' := ?_) q68_9 rfl rfl (any_of HT_.out (by kernel_rfl)) (fun _ _ _ h => h) (Or.inl ⟨by rfl, ?_⟩) ?_ ?_
                   rotate_left
                   ·
                    intro w'
                    go_simp
                    with_reducible rfl
                   rotate_left
                   ·
                    simp only [Pst.all]
                    rfl
                   refine pure_ (i := 17) (N := some 84) (v := ?_) (a' := ?_) q69_9 rfl rfl (any_of HT_.out (by kernel_rfl)) (fun _ _ _ h => h) (Or.inl ⟨by rfl, ?_⟩) ?_ ?_
                   rotate_left
                   ·
                    intro w'
                    go_simp
                    with_reducible rfl
                   rotate_left
                   ·
                    simp only [Pst.all]
                    rfl
                   refine pure_ (i := 18) (N := some 85) (v := ?_) (a' := ?_) q70_9 rfl rfl (any_of HT_.out (by kernel_rfl)) (fun _ _ _ h => h) (Or.inl ⟨by rfl, ?_⟩) ?_ ?_
                   rotate_left
                   ·
                    intro w'
                    go_simp
                    with_reducible rfl
                   rotate_left
                   ·
                    simp only [Pst.all]
                    rfl
                   refine pure_ (i := 19) (N := some 86) (v := ?_) (a' := ?_) q71_9 rfl rfl (any_of HT_.out (by kernel_rfl)) (fun _ _ _ h => h) (Or.inl ⟨by rfl, ?_⟩) ?_ ?_
                   rotate_left
                   ·
                    intro w'
                    go_simp
                    with_reducible rfl
                   rotate_left
                   ·
                    simp only [Pst.all]
                    rfl
                   refine pure_ (i := 20) (N := some 87) (v := ?_) (a' := ?_) q72_9 rfl rfl (any_of HT_.out (by kernel_rfl)) (fun _ _ _ h => h) (Or.inl ⟨by rfl, ?_⟩) ?_ ?_
                   rotate_left
                   ·
                    intro w'
                    go_simp
                    with_reducible rfl
                   rotate_left
                   ·
                    simp only [Pst.all]
                    rfl
                   refine pure_ (i := 21) (N := some 88) (v := ?_) (a' := ?_) q73_9 rfl rfl (any_of HT_.out (by kernel_rfl)) (fun _ _ _ h => h) (Or.inl ⟨by rfl, ?_⟩) ?_ ?_
                   rotate_left
                   ·
                    intro w'
                    go_simp
                    with_reducible rfl
                   rotate_left
                   ·
                    simp only [Pst.all]
                    rfl
                   refine pure_ (i := 22) (N := some 89) (v := ?_) (a' := ?_) q74_9 rfl rfl (any_of HT_.out (by kernel_rfl)) (fun _ _ _ h => h) (Or.inl ⟨by rfl, ?_⟩) ?_ ?_
                   rotate_left
                   ·
                    intro w'
                    go_simp
                    with_reducible rfl
                   rotate_left
                   ·
                    simp only [Pst.all]
                    rfl
                   refine pure_ (i := 24) (N := some 91) (v := ?_) (a' := ?_) q75_9 rfl rfl (any_of HT_.out (by kernel_rfl)) (fun _ _ _ h => h) (Or.inl ⟨by rfl, ?_⟩) ?_ ?_
                   rotate_left
                   ·
                    intro w'
                    go_simp
                    with_reducible rfl
                   rotate_left
                   ·
                    simp only [Pst.all]
                    rfl
                   refine pure_ (i := 25) (N := some 92) (v := ?_) (a' := ?_) q76_9 rfl rfl (any_of HT_.out (by kernel_rfl)) (fun _ _ _ h => h) (Or.inl ⟨by rfl, ?_⟩) ?_ ?_
                   rotate_left
                   ·
                    intro w'
                    go_simp
                    with_reducible rfl
                   rotate_left
                   ·
                    simp only [Pst.all]
                    rfl
                   refine pure_ (i := 29) (N := some 96) (v := ?_) (a' := ?_) q77_9 rfl rfl (any_of HT_.out (by kernel_rfl)) (fun _ _ _ h => h) (Or.inl ⟨by rfl, ?_⟩) ?_ ?_
                   rotate_left
                   ·
                    intro w'
                    go_simp
                    with_reducible rfl
                   rotate_left
                   ·
                    simp only [Pst.all]
                    rfl
                   refine pure_ (i := 31) (N := some 98) (v := ?_) (a' := ?_) q78_9 rfl rfl (any_of HT_.out (by kernel_rfl)) (fun _ _ _ h => h) (Or.inl ⟨by rfl, ?_⟩) ?_ ?_
                   rotate_left
                   ·
                    intro w'
                    go_simp
                    with_reducible rfl
                   rotate_left
                   ·
                    simp only [Pst.all]
                    rfl
                   refine take_ (i := 23) (N := some 90) (v := ?_) (a' := ?_) q79_9 rfl rfl (take_ofW HT_.out HW_.out (by kernel_rfl)) (fun _ _ _ h => h) (Or.inl ⟨by rfl, ?_⟩) hHeld ?_ ?_
                   rotate_left
                   ·
                    rintro w' ⟨s0, s1, s2, s3, s4, s5, s6, s7, s8, s9, s10⟩
                    go_simp
                    with_reducible rfl
                   rotate_left
                   ·
                    simp only [Pst.all]
                    rfl
                   refine pure_ (i := 26) (N := some 93) (v := ?_) (a' := ?_) q80_9 rfl rfl (any_of HT_.out (by kernel_rfl)) (fun _ _ _ h => h) (Or.inl ⟨by rfl, ?_⟩) ?_ ?_
                   rotate_left
                   ·
                    intro w'
                    go_simp
                    with_reducible rfl
                   rotate_left
                   ·
                    simp only [Pst.all]
                    rfl
                   refine pure_ (i := 27) (N := some 94) (v := ?_) (a' := ?_) q81_9 rfl rfl (any_of HT_.out (by kernel_rfl)) (fun _ _ _ h => h) (Or.inl ⟨by rfl, ?_⟩) ?_ ?_
                   rotate_left
                   ·
                    intro w'
                    go_simp
                    with_reducible rfl
                   rotate_left
                   ·
                    simp only [Pst.all]
                    rfl
                   refine take_ (i := 28) (N := some 95) (v := ?_) (a' := ?_) q82_9 rfl rfl (take_ofW HT_.out HW_.out (by kernel_rfl)) (fun _ _ _ h => h) (Or.inl ⟨by rfl, ?_⟩) hHeld ?_ ?_
                   rotate_left
                   ·
                    rintro w' ⟨s0, s1, s2, s3, s4, s5, s6, s7, s8, s9, s10⟩
                    go_simp
                    with_reducible rfl
                   rotate_left
                   ·
                    simp only [Pst.all]
                    rfl
                   refine take_ (i := 30) (N := some 97) (v := ?_) (a' := ?_) q83_9 rfl rfl (take_ofW HT_.out HW_.out (by kernel_rfl)) (fun _ _ _ h => h) (Or.inl ⟨by rfl, ?_⟩) hHeld ?_ ?_
                   rotate_left
                   ·
                    rintro w' ⟨s0, s1, s2, s3, s4, s5, s6, s7, s8, s9, s10⟩
                    go_simp
                    with_reducible rfl
                   rotate_left
                   ·
                    simp only [Pst.all]
                    rfl
                   refine pure_ (i := 32) (N := some 99) (v := ?_) (a' := ?_) q84_9 rfl rfl (any_of HT_.out (by kernel_rfl)) (fun _ _ _ h => h) (Or.inl ⟨by rfl, ?_⟩) ?_ ?_
                   rotate_left
                   ·
                    intro w'
                    go_simp
                    with_reducible rfl
                   rotate_left
                   ·
                    simp only [Pst.all]
                    rfl
                   refine pure_ (i := 33) (N := some 100) (v := ?_) (a' := ?_) q85_9 rfl rfl (any_of HT_.out (by kernel_rfl)) (fun _ _ _ h => h) (Or.inl ⟨by rfl, ?_⟩) ?_ ?_
                   rotate_left
                   ·
                    intro w'
                    go_simp
                    with_reducible rfl
                   rotate_left
                   ·
                    simp only [Pst.all]
                    rfl
                   refine take_ (i := 34) (N := some 101) (v := ?_) (a' := ?_) q86_9 rfl rfl (take_ofW HT_.out HW_.out (by kernel_rfl)) (fun _ _ _ h => h) (Or.inl ⟨by rfl, ?_⟩) hHeld ?_ ?_
                   rotate_left
                   ·
                    rintro w' ⟨s0, s1, s2, s3, s4, s5, s6, s7, s8, s9, s10⟩
                    go_simp
                    with_reducible rfl
                   rotate_left
                   ·
                    simp only [Pst.all]
                    rfl
                   refine pure_ (i := 35) (N := some 102) (v := ?_) (a' := ?_) q87_9 rfl rfl (any_of HT_.out (by kernel_rfl)) (fun _ _ _ h => h) (Or.inl ⟨by rfl, ?_⟩) ?_ ?_
                   rotate_left
                   ·
                    intro w'
                    go_simp
                    with_reducible rfl
                   rotate_left
                   ·
                    simp only [Pst.all]
                    rfl
                   refine pure_ (i := 36) (N := some 103) (v := ?_) (a' := ?_) q88_9 rfl rfl (any_of HT_.out (by kernel_rfl)) (fun _ _ _ h => h) (Or.inl ⟨by rfl, ?_⟩) ?_ ?_
                   rotate_left
                   ·
                    intro w'
                    go_simp
                    with_reducible rfl
                   rotate_left
                   ·
                    simp only [Pst.all]
                    rfl
                   refine pure_ (i := 37) (N := some 104) (v := ?_) (a' := ?_) q89_9 rfl rfl (any_of HT_.out (by kernel_rfl)) (fun _ _ _ h => h) (Or.inl ⟨by rfl, ?_⟩) ?_ ?_
                   rotate_left
                   ·
                    intro w'
                    go_simp
                    with_reducible rfl
                   rotate_left
                   ·
                    simp only [Pst.all]
                    rfl
                   refine done_ (done_of HT_.out (by kernel_rfl)) ?_
                   try go_wp2
                   go_ret
                   exact ⟨by first | rfl | (simp [errW_none, errW_some] <;> rfl) | (simp only [← hji37]; first | rfl | (simp [errW_none, errW_some] <;> rfl)) | (simp [*, errW_none, errW_some] <;> rfl), by repeat (first | (with_reducible first | exact HB.out | apply below_alloc | apply pw_below_drewN | apply below_drew1 | refine below_set ?_ GE148.out) | exact HB.out)⟩
                  ·
                   rw [if_neg c40] at H
                   have c40b0 : decide (((rd_T31 ((rd_T58 l0 x3_1).f2) x5_3).f0) ≤ ((rd_T31 ((rd_T58 l0 x3_1).f2) (ji37)).f0)) = false := decide_eq_false c40
                   clear c40
                   have H' := Aside0.mk H
                   clear H
                   obtain ⟨hcz43_0, hcz43_1, hcz43_2⟩ := Pst.c3 BK148.out
                   obtain ⟨hfz43_0, hfz43_1, hfz43_2⟩ := Pst.f3 BK148.out
                   try go_wp2
                   have n0_ := Aside0.mk (blk_drew BK148.out)
                   have n1_ := Aside0.mk (below_drew1 HB.out)
                   clear BK148
                   clear HB
                   have BK148 := n0_
                   have HB := n1_
                   clear n0_ n1_
                   have p155 : 0 ≤ (x5_3 : Int) := of_decide_eq_true (by first | (with_reducible assumption) | assumption)
                   have q155 : x5_3 < (((rd_T58 l0 x3_1).f2).length : Int) := of_decide_eq_true (by first | (with_reducible assumption) | assumption)
                   obtain ⟨ad155, e155, hx155_0, hx155_1⟩ := at_T31 HR147_2.out x5_3 p155 q155
                   have hw155_1 := hx155_1
                   have hw155_0 := hx155_0
                   cases e155
                   replace hx155_0 := (HB.out.cell (World.block_lt_of_cell? w _ hx155_0)).trans hx155_0
                   replace hx155_1 := (HB.out.cell (World.block_lt_of_cell? w _ hx155_1)).trans hx155_1
                   replace p155 := eq_true p155
                   replace q155 := eq_true q155
                   have p157 : 0 ≤ (x5_3 : Int) := of_decide_eq_true (by first | (with_reducible assumption) | assumption)
                   have q157 : x5_3 < (((rd_T58 l0 x3_1).f2).length : Int) := of_decide_eq_true (by first | (with_reducible assumption) | assumption)
                   obtain ⟨ad157, e157, hx157_0, hx157_1⟩ := at_T31 HR147_2.out x5_3 p157 q157
                   have hw157_1 := hx157_1
                   have hw157_0 := hx157_0
                   obtain rfl : ad155 = ad157 := (by injection e157)
                   replace hx157_0 := (HB.out.cell (World.block_lt_of_cell? w _ hx157_0)).trans hx157_0
                   replace hx157_1 := (HB.out.cell (World.block_lt_of_cell? w _ hx157_1)).trans hx157_1
                   replace p157 := eq_true p157
                   replace q157 := eq_true q157
                   have p159 : 0 ≤ ((ji37) : Int) := of_decide_eq_true (by first | (with_reducible assumption) | assumption)
                   have q159 : (ji37) < (((rd_T58 l0 x3_1).f2).length : Int) := of_decide_eq_true (by first | (with_reducible assumption) | assumption)
                   obtain ⟨ad159, e159, hx159_0, hx159_1⟩ := at_T31 HR147_2.out (ji37) p159 q159
                   have hw159_1 := hx159_1
                   have hw159_0 := hx159_0
                   obtain rfl : ad155 = ad159 := (by injection e159)
                   replace hx159_0 := (HB.out.cell (World.block_lt_of_cell? w _ hx159_0)).trans hx159_0
                   replace hx159_1 := (HB.out.cell (World.block_lt_of_cell? w _ hx159_1)).trans hx159_1
                   replace p159 := eq_true p159
                   replace q159 := eq_true q159
                   have p160 : 0 ≤ (x5_3 : Int) := of_decide_eq_true (by first | (with_reducible assumption) | assumption)
                   have q160 : x5_3 < (((rd_T58 l0 x3_1).f2).length : Int) := of_decide_eq_true (by first | (with_reducible assumption) | assumption)
                   obtain ⟨ad160, e160, hx160_0, hx160_1⟩ := at_T31 HR147_2.out x5_3 p160 q160
                   have hw160_1 := hx160_1
                   have hw160_0 := hx160_0
                   obtain rfl : ad155 = ad160 := (by injection e160)
                   replace hx160_0 := (HB.out.cell (World.block_lt_of_cell? w _ hx160_0)).trans hx160_0
                   replace hx160_1 := (HB.out.cell (World.block_lt_of_cell? w _ hx160_1)).trans hx160_1
                   replace p160 := eq_true p160
                   replace q160 := eq_true q160
                   refine start_ (n := 38) (S := fun w' => w'.cell? ⟨gb148, 0, none⟩ = some (.string ((rd_T58 l0 x3_1).f0)) ∧ w'.cell? ⟨gb148, 1, none⟩ = some (.string ((rd_T58 l0 x3_1).f1)) ∧ w'.cell? ⟨gb148, 2, none⟩ = some (.slice (some ad155) ((rd_T58 l0 x3_1).f2).length c147_2) ∧ w'.cell? (ad155.add ((x5_3).toNat * 2)) = some (.int .i64 ((rd_T31 ((rd_T58 l0 x3_1).f2) x5_3).f0)) ∧ w'.cell? ⟨(ad155.add ((x5_3).toNat * 2)).block, (ad155.add ((x5_3).toNat * 2)).off + 1, none⟩ = some (.int .i64 ((rd_T31 ((rd_T58 l0 x3_1).f2) x5_3).f1)) ∧ w'.cell? (ad155.add ((x5_3).toNat * 2)) = some (.int .i64 ((rd_T31 ((rd_T58 l0 x3_1).f2) x5_3).f0)) ∧ w'.cell? ⟨(ad155.add ((x5_3).toNat * 2)).block, (ad155.add ((x5_3).toNat * 2)).off + 1, none⟩ = some (.int .i64 ((rd_T31 ((rd_T58 l0 x3_1).f2) x5_3).f1)) ∧ w'.cell? (ad155.add (((ji37)).toNat * 2)) = some (.int .i64 ((rd_T31 ((rd_T58 l0 x3_1).f2) (ji37)).f0)) ∧ w'.cell? ⟨(ad155.add (((ji37)).toNat * 2)).block, (ad155.add (((ji37)).toNat * 2)).off + 1, none⟩ = some (.int .i64 ((rd_T31 ((rd_T58 l0 x3_1).f2) (ji37)).f1)) ∧ w'.cell? (ad155.add ((x5_3).toNat * 2)) = some (.int .i64 ((rd_T31 ((rd_T58 l0 x3_1).f2) x5_3).f0)) ∧ w'.cell? ⟨(ad155.add ((x5_3).toNat * 2)).block, (ad155.add ((x5_3).toNat * 2)).off + 1, none⟩ = some (.int .i64 ((rd_T31 ((rd_T58 l0 x3_1).f2) x5_3).f1))) (ds := []) q51_9 (by kernel_rfl) rfl rfl ⟨(blk_cell BK148.out 0).trans rfl, (blk_cell BK148.out 1).trans rfl, (blk_cell BK148.out 2).trans rfl, ((HB.out.cell (World.block_lt_of_cell? w _ hw155_0)).trans hw155_0), ((HB.out.cell (World.block_lt_of_cell? w _ hw155_1)).trans hw155_1), ((HB.out.cell (World.block_lt_of_cell? w _ hw157_0)).trans hw157_0), ((HB.out.cell (World.block_lt_of_cell? w _ hw157_1)).trans hw157_1), ((HB.out.cell (World.block_lt_of_cell? w _ hw159_0)).trans hw159_0), ((HB.out.cell (World.block_lt_of_cell? w _ hw159_1)).trans hw159_1), ((HB.out.cell (World.block_lt_of_cell? w _ hw160_0)).trans hw160_0), ((HB.out.cell (World.block_lt_of_cell? w _ hw160_1)).trans hw160_1)⟩ (fun hHeld => ?_); refine with_tabW spec_StoreOk.tab12 spec_StoreOk.bits12 (fun HT_ HW_ => ?_)
                   generalize wr.drew = w44 at BK148 HB hx155_0 hx155_1 hx157_0 hx157_1 hx159_0 hx159_1 hx160_0 hx160_1 hHeld ⊢
                   refine pure_ (i := 0) (N := some 67) (v := ?_) (a' := ?_) q52_9 rfl rfl (any_of HT_.out (by kernel_rfl)) (fun _ _ _ h => h) (Or.inl ⟨by rfl, ?_⟩) ?_ ?_
                   rotate_left
                   ·
                    intro w'
                    go_simp
                    with_reducible rfl
                   rotate_left
                   ·
                    simp only [Pst.all]
                    rfl
                   refine pure_ (i := 2) (N := some 69) (v := ?_) (a' := ?_) q53_9 rfl rfl (any_of HT_.out (by kernel_rfl)) (fun _ _ _ h => h) (Or.inl ⟨by rfl, ?_⟩) ?_ ?_
                   rotate_left
                   ·
                    intro w'
                    go_simp
                    with_reducible rfl
                   rotate_left
                   ·
                    simp only [Pst.all]
                    rfl
                   refine take_ (i := 1) (N := some 68) (v := ?_) (a' := ?_) q54_9 rfl rfl (take_ofW HT_.out HW_.out (by kernel_rfl)) (fun _ _ _ h => h) (Or.inl ⟨by rfl, ?_⟩) hHeld ?_ ?_
                   rotate_left
                   ·
                    rintro w' ⟨s0, s1, s2, s3, s4, s5, s6, s7, s8, s9, s10⟩
                    go_simp
                    with_reducible rfl
                   rotate_left
                   ·
                    simp only [Pst.all]
                    rfl
                   refine pure_ (i := 3) (N := some 70) (v := ?_) (a' := ?_) q55_9 rfl rfl (any_of HT_.out (by kernel_rfl)) (fun _ _ _ h => h) (Or.inl ⟨by rfl, ?_⟩) ?_ ?_
                   rotate_left
                   ·
                    intro w'
                    go_simp
                    with_reducible rfl
                   rotate_left
                   ·
                    simp only [Pst.all]
                    rfl
                   refine pure_ (i := 4) (N := some 71) (v := ?_) (a' := ?_) q56_9 rfl rfl (any_of HT_.out (by kernel_rfl)) (fun _ _ _ h => h) (Or.inl ⟨by rfl, ?_⟩) ?_ ?_
                   rotate_left
                   ·
                    intro w'
                    go_simp
                    with_reducible rfl
                   rotate_left
                   ·
                    simp only [Pst.all]
                    rfl
                   refine take_ (i := 5) (N := some 72) (v := ?_) (a' := ?_) q57_9 rfl rfl (take_ofW HT_.out HW_.out (by kernel_rfl)) (fun _ _ _ h => h) (Or.inl ⟨by rfl, ?_⟩) hHeld ?_ ?_
                   rotate_left
                   ·
                    rintro w' ⟨s0, s1, s2, s3, s4, s5, s6, s7, s8, s9, s10⟩
                    go_simp
                    with_reducible rfl
                   rotate_left
                   ·
                    simp only [Pst.all]
                    rfl
                   refine one_ (i := 6) (N := some 73) q58_9 rfl rfl (one_of HT_.out (by kernel_rfl)) (by decide) (fun K hK => ?_)
                   refine goes_ Try.func33 (by kernel_rfl) rfl #[.int .i64 ((rd_T31 ((rd_T58 l0 x3_1).f2) x5_3).f0)] (by rfl) rfl rfl (by (try simp only [List.map_toArray, List.map_cons, List.map_nil]); first | done | rfl | (simp only [List.length_drop, List.length_take]; rfl)) ?_
                   with_reducible refine (spec_l02Tick.calls ((rd_T31 ((rd_T58 l0 x3_1).f2) x5_3).f0) true _ A32.out).mono ?_
                   rintro e w' ⟨rfl, ⟨nd, rfl⟩⟩
                   refine ⟨_, rfl, ?_⟩
                   refine hK.out _ _ ⟨(blk_cell BK148.out 0).trans rfl, (blk_cell BK148.out 1).trans rfl, (blk_cell BK148.out 2).trans rfl, ((HB.out.cell (World.block_lt_of_cell? w _ hw155_0)).trans hw155_0), ((HB.out.cell (World.block_lt_of_cell? w _ hw155_1)).trans hw155_1), ((HB.out.cell (World.block_lt_of_cell? w _ hw157_0)).trans hw157_0), ((HB.out.cell (World.block_lt_of_cell? w _ hw157_1)).trans hw157_1), ((HB.out.cell (World.block_lt_of_cell? w _ hw159_0)).trans hw159_0), ((HB.out.cell (World.block_lt_of_cell? w _ hw159_1)).trans hw159_1), ((HB.out.cell (World.block_lt_of_cell? w _ hw160_0)).trans hw160_0), ((HB.out.cell (World.block_lt_of_cell? w _ hw160_1)).trans hw160_1)⟩ (fun hHeld => ?_)
                   clear hK K
                   refine norm_ (a' := ?_) ?_ ?_
                   rotate_left
                   ·
                    show Act.put _ (some 73) _ = _
                    simp only [Pst.all]
                    rfl
                   refine pure_ (i := 7) (N := some 74) (v := ?_) (a' := ?_) q59_9 rfl rfl (any_of HT_.out (by kernel_rfl)) (fun _ _ _ h => h) (Or.inl ⟨by rfl, ?_⟩) ?_ ?_
                   rotate_left
                   ·
                    intro w'
                    go_simp
                    with_reducible rfl
                   rotate_left
                   ·
                    simp only [Pst.all]
                    rfl
                   refine pure_ (i := 8) (N := some 75) (v := ?_) (a' := ?_) q60_9 rfl rfl (any_of HT_.out (by kernel_rfl)) (fun _ _ _ h => h) (Or.inl ⟨by rfl, ?_⟩) ?_ ?_
                   rotate_left
                   ·
                    intro w'
                    go_simp
                    with_reducible rfl
                   rotate_left
                   ·
                    simp only [Pst.all]
                    rfl
                   refine pure_ (i := 9) (N := some 76) (v := ?_) (a' := ?_) q61_9 rfl rfl (any_of HT_.out (by kernel_rfl)) (fun _ _ _ h => h) (Or.inl ⟨by rfl, ?_⟩) ?_ ?_
                   rotate_left
                   ·
                    intro w'
                    go_simp
                    with_reducible rfl
                   rotate_left
                   ·
                    simp only [Pst.all]
                    rfl
                   refine pure_ (i := 11) (N := some 78) (v := ?_) (a' := ?_) q62_9 rfl rfl (any_of HT_.out (by kernel_rfl)) (fun _ _ _ h => h) (Or.inl ⟨by rfl, ?_⟩) ?_ ?_
                   rotate_left
                   ·
                    intro w'
                    go_simp
                    with_reducible rfl
                   rotate_left
                   ·
                    simp only [Pst.all]
                    rfl
                   refine take_ (i := 10) (N := some 77) (v := ?_) (a' := ?_) q63_9 rfl rfl (take_ofW HT_.out HW_.out (by kernel_rfl)) (fun _ _ _ h => h) (Or.inl ⟨by rfl, ?_⟩) hHeld ?_ ?_
                   rotate_left
                   ·
                    rintro w' ⟨s0, s1, s2, s3, s4, s5, s6, s7, s8, s9, s10⟩
                    go_simp
                    with_reducible rfl
                   rotate_left
                   ·
                    simp only [Pst.all]
                    rfl
                   refine pure_ (i := 12) (N := some 79) (v := ?_) (a' := ?_) q64_9 rfl rfl (any_of HT_.out (by kernel_rfl)) (fun _ _ _ h => h) (Or.inl ⟨by rfl, ?_⟩) ?_ ?_
                   rotate_left
                   ·
                    intro w'
                    go_simp
                    with_reducible rfl
                   rotate_left
                   ·
                    simp only [Pst.all]
                    rfl
                   refine pure_ (i := 13) (N := some 80) (v := ?_) (a' := ?_) q65_9 rfl rfl (any_of HT_.out (by kernel_rfl)) (fun _ _ _ h => h) (Or.inl ⟨by rfl, ?_⟩) ?_ ?_
                   rotate_left
                   ·
                    intro w'
                    go_simp
                    with_reducible rfl
                   rotate_left
                   ·
                    simp only [Pst.all]
                    rfl
                   refine take_ (i := 14) (N := some 81) (v := ?_) (a' := ?_) q66_9 rfl rfl (take_ofW HT_.out HW_.out (by kernel_rfl)) (fun _ _ _ h => h) (Or.inl ⟨by rfl, ?_⟩) hHeld ?_ ?_
                   rotate_left
                   ·
                    rintro w' ⟨s0, s1, s2, s3, s4, s5, s6, s7, s8, s9, s10⟩
                    go_simp
                    with_reducible rfl
                   rotate_left
                   ·
                    simp only [Pst.all]
                    rfl
                   refine one_ (i := 15) (N := some 82) q67_9 rfl rfl (one_of HT_.out (by kernel_rfl)) (by decide) (fun K hK => ?_)
                   refine goes_ Try.func34 (by kernel_rfl) rfl #[.int .i64 ((rd_T31 ((rd_T58 l0 x3_1).f2) x5_3).f1)] (by rfl) rfl rfl (by (try simp only [List.map_toArray, List.map_cons, List.map_nil]); first | done | rfl | (simp only [List.length_drop, List.length_take]; rfl)) ?_
                   with_reducible refine (spec_l01Amt.calls ((rd_T31 ((rd_T58 l0 x3_1).f2) x5_3).f1) true _ A34.out).mono ?_
                   rintro e w' ⟨rfl, ⟨nd, rfl⟩⟩
                   refine ⟨_, rfl, ?_⟩
                   refine hK.out _ _ ⟨(blk_cell BK148.out 0).trans rfl, (blk_cell BK148.out 1).trans rfl, (blk_cell BK148.out 2).trans rfl, ((HB.out.cell (World.block_lt_of_cell? w _ hw155_0)).trans hw155_0), ((HB.out.cell (World.block_lt_of_cell? w _ hw155_1)).trans hw155_1), ((HB.out.cell (World.block_lt_of_cell? w _ hw157_0)).trans hw157_0), ((HB.out.cell (World.block_lt_of_cell? w _ hw157_1)).trans hw157_1), ((HB.out.cell (World.block_lt_of_cell? w _ hw159_0)).trans hw159_0), ((HB.out.cell (World.block_lt_of_cell? w _ hw159_1)).trans hw159_1), ((HB.out.cell (World.block_lt_of_cell? w _ hw160_0)).trans hw160_0), ((HB.out.cell (World.block_lt_of_cell? w _ hw160_1)).trans hw160_1)⟩ (fun hHeld => ?_)
                   clear hK K
                   refine norm_ (a' := ?_) ?_ ?_
                   rotate_left
                   ·
                    show Act.put _ (some 82) _ = _
                    simp only [Pst.all]
                    rfl
                   refine pure_ (i := 16) (N := some 83) (v := ?_) (a' := ?_) q68_9 rfl rfl (any_of HT_.out (by kernel_rfl)) (fun _ _ _ h => h) (Or.inl ⟨by rfl, ?_⟩) ?_ ?_
                   rotate_left
                   ·
                    intro w'
                    go_simp
                    with_reducible rfl
                   rotate_left
                   ·
                    simp only [Pst.all]
                    rfl
                   refine pure_ (i := 17) (N := some 84) (v := ?_) (a' := ?_) q69_9 rfl rfl (any_of HT_.out (by kernel_rfl)) (fun _ _ _ h => h) (Or.inl ⟨by rfl, ?_⟩) ?_ ?_
                   rotate_left
                   ·
                    intro w'
                    go_simp
                    with_reducible rfl
                   rotate_left
                   ·
                    simp only [Pst.all]
                    rfl
                   refine pure_ (i := 18) (N := some 85) (v := ?_) (a' := ?_) q70_9 rfl rfl (any_of HT_.out (by kernel_rfl)) (fun _ _ _ h => h) (Or.inl ⟨by rfl, ?_⟩) ?_ ?_
                   rotate_left
                   ·
                    intro w'
                    go_simp
                    with_reducible rfl
                   rotate_left
                   ·
                    simp only [Pst.all]
                    rfl
                   refine pure_ (i := 19) (N := some 86) (v := ?_) (a' := ?_) q71_9 rfl rfl (any_of HT_.out (by kernel_rfl)) (fun _ _ _ h => h) (Or.inl ⟨by rfl, ?_⟩) ?_ ?_
                   rotate_left
                   ·
                    intro w'
                    go_simp
                    with_reducible rfl
                   rotate_left
                   ·
                    simp only [Pst.all]
                    rfl
                   refine pure_ (i := 20) (N := some 87) (v := ?_) (a' := ?_) q72_9 rfl rfl (any_of HT_.out (by kernel_rfl)) (fun _ _ _ h => h) (Or.inl ⟨by rfl, ?_⟩) ?_ ?_
                   rotate_left
                   ·
                    intro w'
                    go_simp
                    with_reducible rfl
                   rotate_left
                   ·
                    simp only [Pst.all]
                    rfl
                   refine pure_ (i := 21) (N := some 88) (v := ?_) (a' := ?_) q73_9 rfl rfl (any_of HT_.out (by kernel_rfl)) (fun _ _ _ h => h) (Or.inl ⟨by rfl, ?_⟩) ?_ ?_
                   rotate_left
                   ·
                    intro w'
                    go_simp
                    with_reducible rfl
                   rotate_left
                   ·
                    simp only [Pst.all]
                    rfl
                   refine pure_ (i := 22) (N := some 89) (v := ?_) (a' := ?_) q74_9 rfl rfl (any_of HT_.out (by kernel_rfl)) (fun _ _ _ h => h) (Or.inl ⟨by rfl, ?_⟩) ?_ ?_
                   rotate_left
                   ·
                    intro w'
                    go_simp
                    with_reducible rfl
                   rotate_left
                   ·
                    simp only [Pst.all]
                    rfl
                   refine pure_ (i := 24) (N := some 91) (v := ?_) (a' := ?_) q75_9 rfl rfl (any_of HT_.out (by kernel_rfl)) (fun _ _ _ h => h) (Or.inl ⟨by rfl, ?_⟩) ?_ ?_
                   rotate_left
                   ·
                    intro w'
                    go_simp
                    with_reducible rfl
                   rotate_left
                   ·
                    simp only [Pst.all]
                    rfl
                   refine pure_ (i := 25) (N := some 92) (v := ?_) (a' := ?_) q76_9 rfl rfl (any_of HT_.out (by kernel_rfl)) (fun _ _ _ h => h) (Or.inl ⟨by rfl, ?_⟩) ?_ ?_
                   rotate_left
                   ·
                    intro w'
                    go_simp
                    with_reducible rfl
                   rotate_left
                   ·
                    simp only [Pst.all]
                    rfl
                   refine pure_ (i := 29) (N := some 96) (v := ?_) (a' := ?_) q77_9 rfl rfl (any_of HT_.out (by kernel_rfl)) (fun _ _ _ h => h) (Or.inl ⟨by rfl, ?_⟩) ?_ ?_
                   rotate_left
                   ·
                    intro w'
                    go_simp
                    with_reducible rfl
                   rotate_left
                   ·
                    simp only [Pst.all]
                    rfl
                   refine pure_ (i := 31) (N := some 98) (v := ?_) (a' := ?_) q78_9 rfl rfl (any_of HT_.out (by kernel_rfl)) (fun _ _ _ h => h) (Or.inl ⟨by rfl, ?_⟩) ?_ ?_
                   rotate_left
                   ·
                    intro w'
                    go_simp
                    with_reducible rfl
                   rotate_left
                   ·
                    simp only [Pst.all]
                    rfl
                   refine take_ (i := 23) (N := some 90) (v := ?_) (a' := ?_) q79_9 rfl rfl (take_ofW HT_.out HW_.out (by kernel_rfl)) (fun _ _ _ h => h) (Or.inl ⟨by rfl, ?_⟩) hHeld ?_ ?_
                   rotate_left
                   ·
                    rintro w' ⟨s0, s1, s2, s3, s4, s5, s6, s7, s8, s9, s10⟩
                    go_simp
                    with_reducible rfl
                   rotate_left
                   ·
                    simp only [Pst.all]
                    rfl
                   refine pure_ (i := 26) (N := some 93) (v := ?_) (a' := ?_) q80_9 rfl rfl (any_of HT_.out (by kernel_rfl)) (fun _ _ _ h => h) (Or.inl ⟨by rfl, ?_⟩) ?_ ?_
                   rotate_left
                   ·
                    intro w'
                    go_simp
                    with_reducible rfl
                   rotate_left
                   ·
                    simp only [Pst.all]
                    rfl
                   refine pure_ (i := 27) (N := some 94) (v := ?_) (a' := ?_) q81_9 rfl rfl (any_of HT_.out (by kernel_rfl)) (fun _ _ _ h => h) (Or.inl ⟨by rfl, ?_⟩) ?_ ?_
                   rotate_left
                   ·
                    intro w'
                    go_simp
                    with_reducible rfl
                   rotate_left
                   ·
                    simp only [Pst.all]
                    rfl
                   refine take_ (i := 28) (N := some 95) (v := ?_) (a' := ?_) q82_9 rfl rfl (take_ofW HT_.out HW_.out (by kernel_rfl)) (fun _ _ _ h => h) (Or.inl ⟨by rfl, ?_⟩) hHeld ?_ ?_
                   rotate_left
                   ·
                    rintro w' ⟨s0, s1, s2, s3, s4, s5, s6, s7, s8, s9, s10⟩
                    go_simp
                    with_reducible rfl
                   rotate_left
                   ·
                    simp only [Pst.all]
                    rfl
                   refine take_ (i := 30) (N := some 97) (v := ?_) (a' := ?_) q83_9 rfl rfl (take_ofW HT_.out HW_.out (by kernel_rfl)) (fun _ _ _ h => h) (Or.inl ⟨by rfl, ?_⟩) hHeld ?_ ?_
                   rotate_left
                   ·
                    rintro w' ⟨s0, s1, s2, s3, s4, s5, s6, s7, s8, s9, s10⟩
                    go_simp
                    with_reducible rfl
                   rotate_left
                   ·
                    simp only [Pst.all]
                    rfl
                   refine pure_ (i := 32) (N := some 99) (v := ?_) (a' := ?_) q84_9 rfl rfl (any_of HT_.out (by kernel_rfl)) (fun _ _ _ h => h) (Or.inl ⟨by rfl, ?_⟩) ?_ ?_
                   rotate_left
                   ·
                    intro w'
                    go_simp
                    with_reducible rfl
                   rotate_left
                   ·
                    simp only [Pst.all]
                    rfl
                   refine pure_ (i := 33) (N := some 100) (v := ?_) (a' := ?_) q85_9 rfl rfl (any_of HT_.out (by kernel_rfl)) (fun _ _ _ h => h) (Or.inl ⟨by rfl, ?_⟩) ?_ ?_
                   rotate_left
                   ·
                    intro w'
                    go_simp
                    with_reducible rfl
                   rotate_left
                   ·
                    simp only [Pst.all]
                    rfl
                   refine take_ (i := 34) (N := some 101) (v := ?_) (a' := ?_) q86_9 rfl rfl (take_ofW HT_.out HW_.out (by kernel_rfl)) (fun _ _ _ h => h) (Or.inl ⟨by rfl, ?_⟩) hHeld ?_ ?_
                   rotate_left
                   ·
                    rintro w' ⟨s0, s1, s2, s3, s4, s5, s6, s7, s8, s9, s10⟩
                    go_simp
                    with_reducible rfl
                   rotate_left
                   ·
                    simp only [Pst.all]
                    rfl
                   refine pure_ (i := 35) (N := some 102) (v := ?_) (a' := ?_) q87_9 rfl rfl (any_of HT_.out (by kernel_rfl)) (fun _ _ _ h => h) (Or.inl ⟨by rfl, ?_⟩) ?_ ?_
                   rotate_left
                   ·
                    intro w'
                    go_simp
                    with_reducible rfl
                   rotate_left
                   ·
                    simp only [Pst.all]
                    rfl
                   refine pure_ (i := 36) (N := some 103) (v := ?_) (a' := ?_) q88_9 rfl rfl (any_of HT_.out (by kernel_rfl)) (fun _ _ _ h => h) (Or.inl ⟨by rfl, ?_⟩) ?_ ?_
                   rotate_left
                   ·
                    intro w'
                    go_simp
                    with_reducible rfl
                   rotate_left
                   ·
                    simp only [Pst.all]
                    rfl
                   refine pure_ (i := 37) (N := some 104) (v := ?_) (a' := ?_) q89_9 rfl rfl (any_of HT_.out (by kernel_rfl)) (fun _ _ _ h => h) (Or.inl ⟨by rfl, ?_⟩) ?_ ?_
                   rotate_left
                   ·
                    intro w'
                    go_simp
                    with_reducible rfl
                   rotate_left
                   ·
                    simp only [Pst.all]
                    rfl
                   refine done_ (done_of HT_.out (by kernel_rfl)) ?_
                   try go_wp2
                   go_roundg k3
                   case measure => have := HK1.out; have := HJ4.out; have := HK3.out; omega
                   case rel => exact ⟨(wrap64 (x5_3 + 1)), (by first | rfl | (simp; done) | (simp [*]; done)), H', ⟨by have := HK1.out; have := HJ4.out; have := HK3.out; omega⟩, ⟨by (with_reducible repeat (first | refine blk_drewN ?_ _ | refine blk_drew ?_ | refine blk_alloc ?_ _)); exact BK148.out⟩, ⟨by repeat (first | (with_reducible first | exact HB.out | apply below_alloc | apply pw_below_drewN | apply below_drew1 | refine below_set ?_ GE148.out) | exact HB.out)⟩⟩
                 ·
                  rw [if_neg c39] at H
                  exact absurd H (by simp)
                ·
                 rw [if_neg c38] at H
                 exact absurd H (by simp)
               ·
                rw [if_neg c36] at H
                have c36b0 : decide (0 < x5_3) = false := decide_eq_false c36
                clear c36
                have H' := Aside0.mk H
                clear H
                obtain ⟨hcz45_0, hcz45_1, hcz45_2⟩ := Pst.c3 BK148.out
                obtain ⟨hfz45_0, hfz45_1, hfz45_2⟩ := Pst.f3 BK148.out
                try go_wp2
                have n0_ := Aside0.mk (blk_drew BK148.out)
                have n1_ := Aside0.mk (below_drew1 HB.out)
                clear BK148
                clear HB
                have BK148 := n0_
                have HB := n1_
                clear n0_ n1_
                have p155 : 0 ≤ (x5_3 : Int) := of_decide_eq_true (by first | (with_reducible assumption) | assumption)
                have q155 : x5_3 < (((rd_T58 l0 x3_1).f2).length : Int) := of_decide_eq_true (by first | (with_reducible assumption) | assumption)
                obtain ⟨ad155, e155, hx155_0, hx155_1⟩ := at_T31 HR147_2.out x5_3 p155 q155
                have hw155_1 := hx155_1
                have hw155_0 := hx155_0
                cases e155
                replace hx155_0 := (HB.out.cell (World.block_lt_of_cell? w _ hx155_0)).trans hx155_0
                replace hx155_1 := (HB.out.cell (World.block_lt_of_cell? w _ hx155_1)).trans hx155_1
                replace p155 := eq_true p155
                replace q155 := eq_true q155
                have p157 : 0 ≤ (x5_3 : Int) := of_decide_eq_true (by first | (with_reducible assumption) | assumption)
                have q157 : x5_3 < (((rd_T58 l0 x3_1).f2).length : Int) := of_decide_eq_true (by first | (with_reducible assumption) | assumption)
                obtain ⟨ad157, e157, hx157_0, hx157_1⟩ := at_T31 HR147_2.out x5_3 p157 q157
                have hw157_1 := hx157_1
                have hw157_0 := hx157_0
                obtain rfl : ad155 = ad157 := (by injection e157)
                replace hx157_0 := (HB.out.cell (World.block_lt_of_cell? w _ hx157_0)).trans hx157_0
                replace hx157_1 := (HB.out.cell (World.block_lt_of_cell? w _ hx157_1)).trans hx157_1
                replace p157 := eq_true p157
                replace q157 := eq_true q157
                refine start_ (n := 38) (S := fun w' => w'.cell? ⟨gb148, 0, none⟩ = some (.string ((rd_T58 l0 x3_1).f0)) ∧ w'.cell? ⟨gb148, 1, none⟩ = some (.string ((rd_T58 l0 x3_1).f1)) ∧ w'.cell? ⟨gb148, 2, none⟩ = some (.slice (some ad155) ((rd_T58 l0 x3_1).f2).length c147_2) ∧ w'.cell? (ad155.add ((x5_3).toNat * 2)) = some (.int .i64 ((rd_T31 ((rd_T58 l0 x3_1).f2) x5_3).f0)) ∧ w'.cell? ⟨(ad155.add ((x5_3).toNat * 2)).block, (ad155.add ((x5_3).toNat * 2)).off + 1, none⟩ = some (.int .i64 ((rd_T31 ((rd_T58 l0 x3_1).f2) x5_3).f1)) ∧ w'.cell? (ad155.add ((x5_3).toNat * 2)) = some (.int .i64 ((rd_T31 ((rd_T58 l0 x3_1).f2) x5_3).f0)) ∧ w'.cell? ⟨(ad155.add ((x5_3).toNat * 2)).block, (ad155.add ((x5_3).toNat * 2)).off + 1, none⟩ = some (.int .i64 ((rd_T31 ((rd_T58 l0 x3_1).f2) x5_3).f1))) (ds := []) q51_9 (by kernel_rfl) rfl rfl ⟨(blk_cell BK148.out 0).trans rfl, (blk_cell BK148.out 1).trans rfl, (blk_cell BK148.out 2).trans rfl, ((HB.out.cell (World.block_lt_of_cell? w _ hw155_0)).trans hw155_0), ((HB.out.cell (World.block_lt_of_cell? w _ hw155_1)).trans hw155_1), ((HB.out.cell (World.block_lt_of_cell? w _ hw157_0)).trans hw157_0), ((HB.out.cell (World.block_lt_of_cell? w _ hw157_1)).trans hw157_1)⟩ (fun hHeld => ?_); refine with_tabW spec_StoreOk.tab12 spec_StoreOk.bits12 (fun HT_ HW_ => ?_)
                generalize wr.drew = w46 at BK148 HB hx155_0 hx155_1 hx157_0 hx157_1 hHeld ⊢
                refine pure_ (i := 0) (N := some 67) (v := ?_) (a' := ?_) q52_9 rfl rfl (any_of HT_.out (by kernel_rfl)) (fun _ _ _ h => h) (Or.inl ⟨by rfl, ?_⟩) ?_ ?_
                rotate_left
                ·
                 intro w'
                 go_simp
                 with_reducible rfl
                rotate_left
                ·
                 simp only [Pst.all]
                 rfl
                refine pure_ (i := 2) (N := some 69) (v := ?_) (a' := ?_) q53_9 rfl rfl (any_of HT_.out (by kernel_rfl)) (fun _ _ _ h => h) (Or.inl ⟨by rfl, ?_⟩) ?_ ?_
                rotate_left
                ·
                 intro w'
                 go_simp
                 with_reducible rfl
                rotate_left
                ·
                 simp only [Pst.all]
                 rfl
                refine take_ (i := 1) (N := some 68) (v := ?_) (a' := ?_) q54_9 rfl rfl (take_ofW HT_.out HW_.out (by kernel_rfl)) (fun _ _ _ h => h) (Or.inl ⟨by rfl, ?_⟩) hHeld ?_ ?_
                rotate_left
                ·
                 rintro w' ⟨s0, s1, s2, s3, s4, s5, s6⟩
                 go_simp
                 with_reducible rfl
                rotate_left
                ·
                 simp only [Pst.all]
                 rfl
                refine pure_ (i := 3) (N := some 70) (v := ?_) (a' := ?_) q55_9 rfl rfl (any_of HT_.out (by kernel_rfl)) (fun _ _ _ h => h) (Or.inl ⟨by rfl, ?_⟩) ?_ ?_
                rotate_left
                ·
                 intro w'
                 go_simp
                 with_reducible rfl
                rotate_left
                ·
                 simp only [Pst.all]
                 rfl
                refine pure_ (i := 4) (N := some 71) (v := ?_) (a' := ?_) q56_9 rfl rfl (any_of HT_.out (by kernel_rfl)) (fun _ _ _ h => h) (Or.inl ⟨by rfl, ?_⟩) ?_ ?_
                rotate_left
                ·
                 intro w'
                 go_simp
                 with_reducible rfl
                rotate_left
                ·
                 simp only [Pst.all]
                 rfl
                refine take_ (i := 5) (N := some 72) (v := ?_) (a' := ?_) q57_9 rfl rfl (take_ofW HT_.out HW_.out (by kernel_rfl)) (fun _ _ _ h => h) (Or.inl ⟨by rfl, ?_⟩) hHeld ?_ ?_
                rotate_left
                ·
                 rintro w' ⟨s0, s1, s2, s3, s4, s5, s6⟩
                 go_simp
                 with_reducible rfl
                rotate_left
                ·
                 simp only [Pst.all]
                 rfl
                refine one_ (i := 6) (N := some 73) q58_9 rfl rfl (one_of HT_.out (by kernel_rfl)) (by decide) (fun K hK => ?_)
                refine goes_ Try.func33 (by kernel_rfl) rfl #[.int .i64 ((rd_T31 ((rd_T58 l0 x3_1).f2) x5_3).f0)] (by rfl) rfl rfl (by (try simp only [List.map_toArray, List.map_cons, List.map_nil]); first | done | rfl | (simp only [List.length_drop, List.length_take]; rfl)) ?_
                with_reducible refine (spec_l02Tick.calls ((rd_T31 ((rd_T58 l0 x3_1).f2) x5_3).f0) true _ A32.out).mono ?_
                rintro e w' ⟨rfl, ⟨nd, rfl⟩⟩
                refine ⟨_, rfl, ?_⟩
                refine hK.out _ _ ⟨(blk_cell BK148.out 0).trans rfl, (blk_cell BK148.out 1).trans rfl, (blk_cell BK148.out 2).trans rfl, ((HB.out.cell (World.block_lt_of_cell? w _ hw155_0)).trans hw155_0), ((HB.out.cell (World.block_lt_of_cell? w _ hw155_1)).trans hw155_1), ((HB.out.cell (World.block_lt_of_cell? w _ hw157_0)).trans hw157_0), ((HB.out.cell (World.block_lt_of_cell? w _ hw157_1)).trans hw157_1)⟩ (fun hHeld => ?_)
                clear hK K
                refine norm_ (a' := ?_) ?_ ?_
                rotate_left
                ·
                 show Act.put _ (some 73) _ = _
                 simp only [Pst.all]
                 rfl
                refine pure_ (i := 7) (N := some 74) (v := ?_) (a' := ?_) q59_9 rfl rfl (any_of HT_.out (by kernel_rfl)) (fun _ _ _ h => h) (Or.inl ⟨by rfl, ?_⟩) ?_ ?_
                rotate_left
                ·
                 intro w'
                 go_simp
                 with_reducible rfl
                rotate_left
                ·
                 simp only [Pst.all]
                 rfl
                refine pure_ (i := 8) (N := some 75) (v := ?_) (a' := ?_) q60_9 rfl rfl (any_of HT_.out (by kernel_rfl)) (fun _ _ _ h => h) (Or.inl ⟨by rfl, ?_⟩) ?_ ?_
                rotate_left
                ·
                 intro w'
                 go_simp
                 with_reducible rfl
                rotate_left
                ·
                 simp only [Pst.all]
                 rfl
                refine pure_ (i := 9) (N := some 76) (v := ?_) (a' := ?_) q61_9 rfl rfl (any_of HT_.out (by kernel_rfl)) (fun _ _ _ h => h) (Or.inl ⟨by rfl, ?_⟩) ?_ ?_
                rotate_left
                ·
                 intro w'
                 go_simp
                 with_reducible rfl
                rotate_left
                ·
                 simp only [Pst.all]
                 rfl
                refine pure_ (i := 11) (N := some 78) (v := ?_) (a' := ?_) q62_9 rfl rfl (any_of HT_.out (by kernel_rfl)) (fun _ _ _ h => h) (Or.inl ⟨by rfl, ?_⟩) ?_ ?_
                rotate_left
                ·
                 intro w'
                 go_simp
                 with_reducible rfl
                rotate_left
                ·
                 simp only [Pst.all]
                 rfl
                refine take_ (i := 10) (N := some 77) (v := ?_) (a' := ?_) q63_9 rfl rfl (take_ofW HT_.out HW_.out (by kernel_rfl)) (fun _ _ _ h => h) (Or.inl ⟨by rfl, ?_⟩) hHeld ?_ ?_
                rotate_left
                ·
                 rintro w' ⟨s0, s1, s2, s3, s4, s5, s6⟩
                 go_simp
                 with_reducible rfl
                rotate_left
                ·
                 simp only [Pst.all]
                 rfl
                refine pure_ (i := 12) (N := some 79) (v := ?_) (a' := ?_) q64_9 rfl rfl (any_of HT_.out (by kernel_rfl)) (fun _ _ _ h => h) (Or.inl ⟨by rfl, ?_⟩) ?_ ?_
                rotate_left
                ·
                 intro w'
                 go_simp
                 with_reducible rfl
                rotate_left
                ·
                 simp only [Pst.all]
                 rfl
                refine pure_ (i := 13) (N := some 80) (v := ?_) (a' := ?_) q65_9 rfl rfl (any_of HT_.out (by kernel_rfl)) (fun _ _ _ h => h) (Or.inl ⟨by rfl, ?_⟩) ?_ ?_
                rotate_left
                ·
                 intro w'
                 go_simp
                 with_reducible rfl
                rotate_left
                ·
                 simp only [Pst.all]
                 rfl
                refine take_ (i := 14) (N := some 81) (v := ?_) (a' := ?_) q66_9 rfl rfl (take_ofW HT_.out HW_.out (by kernel_rfl)) (fun _ _ _ h => h) (Or.inl ⟨by rfl, ?_⟩) hHeld ?_ ?_
                rotate_left
                ·
                 rintro w' ⟨s0, s1, s2, s3, s4, s5, s6⟩
                 go_simp
                 with_reducible rfl
                rotate_left
                ·
                 simp only [Pst.all]
                 rfl
                refine one_ (i := 15) (N := some 82) q67_9 rfl rfl (one_of HT_.out (by kernel_rfl)) (by decide) (fun K hK => ?_)
                refine goes_ Try.func34 (by kernel_rfl) rfl #[.int .i64 ((rd_T31 ((rd_T58 l0 x3_1).f2) x5_3).f1)] (by rfl) rfl rfl (by (try simp only [List.map_toArray, List.map_cons, List.map_nil]); first | done | rfl | (simp only [List.length_drop, List.length_take]; rfl)) ?_
                with_reducible refine (spec_l01Amt.calls ((rd_T31 ((rd_T58 l0 x3_1).f2) x5_3).f1) true _ A34.out).mono ?_
                rintro e w' ⟨rfl, ⟨nd, rfl⟩⟩
                refine ⟨_, rfl, ?_⟩
                refine hK.out _ _ ⟨(blk_cell BK148.out 0).trans rfl, (blk_cell BK148.out 1).trans rfl, (blk_cell BK148.out 2).trans rfl, ((HB.out.cell (World.block_lt_of_cell? w _ hw155_0)).trans hw155_0), ((HB.out.cell (World.block_lt_of_cell? w _ hw155_1)).trans hw155_1), ((HB.out.cell (World.block_lt_of_cell? w _ hw157_0)).trans hw157_0), ((HB.out.cell (World.block_lt_of_cell? w _ hw157_1)).trans hw157_1)⟩ (fun hHeld => ?_)
                clear hK K
                refine norm_ (a' := ?_) ?_ ?_
                rotate_left
                ·
                 show Act.put _ (some 82) _ = _
                 simp only [Pst.all]
                 rfl
                refine pure_ (i := 16) (N := some 83) (v := ?_) (a' := ?_) q68_9 rfl rfl (any_of HT_.out (by kernel_rfl)) (fun _ _ _ h => h) (Or.inl ⟨by rfl, ?_⟩) ?_ ?_
                rotate_left
                ·
                 intro w'
                 go_simp
                 with_reducible rfl
                rotate_left
                ·
                 simp only [Pst.all]
                 rfl
                refine pure_ (i := 17) (N := some 84) (v := ?_) (a' := ?_) q69_9 rfl rfl (any_of HT_.out (by kernel_rfl)) (fun _ _ _ h => h) (Or.inl ⟨by rfl, ?_⟩) ?_ ?_
                rotate_left
                ·
                 intro w'
                 go_simp
                 with_reducible rfl
                rotate_left
                ·
                 simp only [Pst.all]
                 rfl
                refine pure_ (i := 18) (N := some 85) (v := ?_) (a' := ?_) q70_9 rfl rfl (any_of HT_.out (by kernel_rfl)) (fun _ _ _ h => h) (Or.inl ⟨by rfl, ?_⟩) ?_ ?_
                rotate_left
                ·
                 intro w'
                 go_simp
                 with_reducible rfl
                rotate_left
                ·
                 simp only [Pst.all]
                 rfl
                refine pure_ (i := 19) (N := some 86) (v := ?_) (a' := ?_) q71_9 rfl rfl (any_of HT_.out (by kernel_rfl)) (fun _ _ _ h => h) (Or.inl ⟨by rfl, ?_⟩) ?_ ?_
                rotate_left
                ·
                 intro w'
                 go_simp
                 with_reducible rfl
                rotate_left
                ·
                 simp only [Pst.all]
                 rfl
                refine pure_ (i := 20) (N := some 87) (v := ?_) (a' := ?_) q72_9 rfl rfl (any_of HT_.out (by kernel_rfl)) (fun _ _ _ h => h) (Or.inl ⟨by rfl, ?_⟩) ?_ ?_
                rotate_left
                ·
                 intro w'
                 go_simp
                 with_reducible rfl
                rotate_left
                ·
                 simp only [Pst.all]
                 rfl
                refine pure_ (i := 21) (N := some 88) (v := ?_) (a' := ?_) q73_9 rfl rfl (any_of HT_.out (by kernel_rfl)) (fun _ _ _ h => h) (Or.inl ⟨by rfl, ?_⟩) ?_ ?_
                rotate_left
                ·
                 intro w'
                 go_simp
                 with_reducible rfl
                rotate_left
                ·
                 simp only [Pst.all]
                 rfl
                refine pure_ (i := 22) (N := some 89) (v := undef) (a' := ?_) q74_9 rfl rfl (any_of HT_.out (by kernel_rfl)) (fun _ _ _ h => h) (Or.inr ⟨by rfl, rfl⟩) ?_ ?_
                rotate_left
                ·
                 simp only [Pst.all]
                 rfl
                refine pure_ (i := 23) (N := some 90) (v := undef) (a' := ?_) q90_9 rfl rfl (any_of HT_.out (by kernel_rfl)) (fun _ _ _ h => h) (Or.inr ⟨by rfl, rfl⟩) ?_ ?_
                rotate_left
                ·
                 simp only [Pst.all]
                 rfl
                refine pure_ (i := 24) (N := some 91) (v := undef) (a' := ?_) q91_9 rfl rfl (any_of HT_.out (by kernel_rfl)) (fun _ _ _ h => h) (Or.inr ⟨by rfl, rfl⟩) ?_ ?_
                rotate_left
                ·
                 simp only [Pst.all]
                 rfl
                refine pure_ (i := 25) (N := some 92) (v := undef) (a' := ?_) q92_9 rfl rfl (any_of HT_.out (by kernel_rfl)) (fun _ _ _ h => h) (Or.inr ⟨by rfl, rfl⟩) ?_ ?_
                rotate_left
                ·
                 simp only [Pst.all]
                 rfl
                refine pure_ (i := 26) (N := some 93) (v := undef) (a' := ?_) q93_9 rfl rfl (any_of HT_.out (by kernel_rfl)) (fun _ _ _ h => h) (Or.inr ⟨by rfl, rfl⟩) ?_ ?_
                rotate_left
                ·
                 simp only [Pst.all]
                 rfl
                refine pure_ (i := 27) (N := some 94) (v := undef) (a' := ?_) q94_9 rfl rfl (any_of HT_.out (by kernel_rfl)) (fun _ _ _ h => h) (Or.inr ⟨by rfl, rfl⟩) ?_ ?_
                rotate_left
                ·
                 simp only [Pst.all]
                 rfl
                refine pure_ (i := 28) (N := some 95) (v := undef) (a' := ?_) q95_9 rfl rfl (any_of HT_.out (by kernel_rfl)) (fun _ _ _ h => h) (Or.inr ⟨by rfl, rfl⟩) ?_ ?_
                rotate_left
                ·
                 simp only [Pst.all]
                 rfl
                refine pure_ (i := 29) (N := some 96) (v := undef) (a' := ?_) q96_9 rfl rfl (any_of HT_.out (by kernel_rfl)) (fun _ _ _ h => h) (Or.inr ⟨by rfl, rfl⟩) ?_ ?_
                rotate_left
                ·
                 simp only [Pst.all]
                 rfl
                refine pure_ (i := 30) (N := some 97) (v := undef) (a' := ?_) q97_9 rfl rfl (any_of HT_.out (by kernel_rfl)) (fun _ _ _ h => h) (Or.inr ⟨by rfl, rfl⟩) ?_ ?_
                rotate_left
                ·
                 simp only [Pst.all]
                 rfl
                refine pure_ (i := 31) (N := some 98) (v := undef) (a' := ?_) q83_9 rfl rfl (any_of HT_.out (by kernel_rfl)) (fun _ _ _ h => h) (Or.inr ⟨by rfl, rfl⟩) ?_ ?_
                rotate_left
                ·
                 simp only [Pst.all]
                 rfl
                refine pure_ (i := 32) (N := some 99) (v := undef) (a' := ?_) q84_9 rfl rfl (any_of HT_.out (by kernel_rfl)) (fun _ _ _ h => h) (Or.inr ⟨by rfl, rfl⟩) ?_ ?_
                rotate_left
                ·
                 simp only [Pst.all]
                 rfl
                refine pure_ (i := 33) (N := some 100) (v := undef) (a' := ?_) q85_9 rfl rfl (any_of HT_.out (by kernel_rfl)) (fun _ _ _ h => h) (Or.inr ⟨by rfl, rfl⟩) ?_ ?_
                rotate_left
                ·
                 simp only [Pst.all]
                 rfl
                refine pure_ (i := 34) (N := some 101) (v := undef) (a' := ?_) q86_9 rfl rfl (any_of HT_.out (by kernel_rfl)) (fun _ _ _ h => h) (Or.inr ⟨by rfl, rfl⟩) ?_ ?_
                rotate_left
                ·
                 simp only [Pst.all]
                 rfl
                refine pure_ (i := 35) (N := some 102) (v := undef) (a' := ?_) q87_9 rfl rfl (any_of HT_.out (by kernel_rfl)) (fun _ _ _ h => h) (Or.inr ⟨by rfl, rfl⟩) ?_ ?_
                rotate_left
                ·
                 simp only [Pst.all]
                 rfl
                refine pure_ (i := 36) (N := some 103) (v := ?_) (a' := ?_) q88_9 rfl rfl (any_of HT_.out (by kernel_rfl)) (fun _ _ _ h => h) (Or.inl ⟨by rfl, ?_⟩) ?_ ?_
                rotate_left
                ·
                 intro w'
                 go_simp
                 with_reducible rfl
                rotate_left
                ·
                 simp only [Pst.all]
                 rfl
                refine pure_ (i := 37) (N := some 104) (v := ?_) (a' := ?_) q89_9 rfl rfl (any_of HT_.out (by kernel_rfl)) (fun _ _ _ h => h) (Or.inl ⟨by rfl, ?_⟩) ?_ ?_
                rotate_left
                ·
                 intro w'
                 go_simp
                 with_reducible rfl
                rotate_left
                ·
                 simp only [Pst.all]
                 rfl
                refine done_ (done_of HT_.out (by kernel_rfl)) ?_
                try go_wp2
                go_roundg k3
                case measure => have := HK1.out; have := HJ4.out; have := HK3.out; omega
                case rel => exact ⟨(wrap64 (x5_3 + 1)), (by first | rfl | (simp; done) | (simp [*]; done)), H', ⟨by have := HK1.out; have := HJ4.out; have := HK3.out; omega⟩, ⟨by (with_reducible repeat (first | refine blk_drewN ?_ _ | refine blk_drew ?_ | refine blk_alloc ?_ _)); exact BK148.out⟩, ⟨by repeat (first | (with_reducible first | exact HB.out | apply below_alloc | apply pw_below_drewN | apply below_drew1 | refine below_set ?_ GE148.out) | exact HB.out)⟩⟩
              ·
               replace c35 := Bool.eq_false_iff.mpr c35
               subst c35
               have H1 : (some false) = some r := by rw [if_neg (show ¬ (false = true) by decide)] at H; exact H
               clear H
               have H := H1
               clear H1
               obtain rfl := Option.some.inj H
               obtain ⟨hcz47_0, hcz47_1, hcz47_2⟩ := Pst.c3 BK148.out
               obtain ⟨hfz47_0, hfz47_1, hfz47_2⟩ := Pst.f3 BK148.out
               try go_wp2
               have n0_ := Aside0.mk (blk_drew BK148.out)
               have n1_ := Aside0.mk (below_drew1 HB.out)
               clear BK148
               clear HB
               have BK148 := n0_
               have HB := n1_
               clear n0_ n1_
               have p155 : 0 ≤ (x5_3 : Int) := of_decide_eq_true (by first | (with_reducible assumption) | assumption)
               have q155 : x5_3 < (((rd_T58 l0 x3_1).f2).length : Int) := of_decide_eq_true (by first | (with_reducible assumption) | assumption)
               obtain ⟨ad155, e155, hx155_0, hx155_1⟩ := at_T31 HR147_2.out x5_3 p155 q155
               have hw155_1 := hx155_1
               have hw155_0 := hx155_0
               cases e155
               replace hx155_0 := (HB.out.cell (World.block_lt_of_cell? w _ hx155_0)).trans hx155_0
               replace hx155_1 := (HB.out.cell (World.block_lt_of_cell? w _ hx155_1)).trans hx155_1
               replace p155 := eq_true p155
               replace q155 := eq_true q155
               have p157 : 0 ≤ (x5_3 : Int) := of_decide_eq_true (by first | (with_reducible assumption) | assumption)
               have q157 : x5_3 < (((rd_T58 l0 x3_1).f2).length : Int) := of_decide_eq_true (by first | (with_reducible assumption) | assumption)
               obtain ⟨ad157, e157, hx157_0, hx157_1⟩ := at_T31 HR147_2.out x5_3 p157 q157
               have hw157_1 := hx157_1
               have hw157_0 := hx157_0
               obtain rfl : ad155 = ad157 := (by injection e157)
               replace hx157_0 := (HB.out.cell (World.block_lt_of_cell? w _ hx157_0)).trans hx157_0
               replace hx157_1 := (HB.out.cell (World.block_lt_of_cell? w _ hx157_1)).trans hx157_1
               replace p157 := eq_true p157
               replace q157 := eq_true q157
               refine start_ (n := 38) (S := fun w' => w'.cell? ⟨gb148, 0, none⟩ = some (.string ((rd_T58 l0 x3_1).f0)) ∧ w'.cell? ⟨gb148, 1, none⟩ = some (.string ((rd_T58 l0 x3_1).f1)) ∧ w'.cell? ⟨gb148, 2, none⟩ = some (.slice (some ad155) ((rd_T58 l0 x3_1).f2).length c147_2) ∧ w'.cell? (ad155.add ((x5_3).toNat * 2)) = some (.int .i64 ((rd_T31 ((rd_T58 l0 x3_1).f2) x5_3).f0)) ∧ w'.cell? ⟨(ad155.add ((x5_3).toNat * 2)).block, (ad155.add ((x5_3).toNat * 2)).off + 1, none⟩ = some (.int .i64 ((rd_T31 ((rd_T58 l0 x3_1).f2) x5_3).f1)) ∧ w'.cell? (ad155.add ((x5_3).toNat * 2)) = some (.int .i64 ((rd_T31 ((rd_T58 l0 x3_1).f2) x5_3).f0)) ∧ w'.cell? ⟨(ad155.add ((x5_3).toNat * 2)).block, (ad155.add ((x5_3).toNat * 2)).off + 1, none⟩ = some (.int .i64 ((rd_T31 ((rd_T58 l0 x3_1).f2) x5_3).f1))) (ds := []) q51_9 (by kernel_rfl) rfl rfl ⟨(blk_cell BK148.out 0).trans rfl, (blk_cell BK148.out 1).trans rfl, (blk_cell BK148.out 2).trans rfl, ((HB.out.cell (World.block_lt_of_cell? w _ hw155_0)).trans hw155_0), ((HB.out.cell (World.block_lt_of_cell? w _ hw155_1)).trans hw155_1), ((HB.out.cell (World.block_lt_of_cell? w _ hw157_0)).trans hw157_0), ((HB.out.cell (World.block_lt_of_cell? w _ hw157_1)).trans hw157_1)⟩ (fun hHeld => ?_); refine with_tabW spec_StoreOk.tab12 spec_StoreOk.bits12 (fun HT_ HW_ => ?_)
               generalize wr.drew = w48 at BK148 HB hx155_0 hx155_1 hx157_0 hx157_1 hHeld ⊢
               refine pure_ (i := 0) (N := some 67) (v := ?_) (a' := ?_) q52_9 rfl rfl (any_of HT_.out (by kernel_rfl)) (fun _ _ _ h => h) (Or.inl ⟨by rfl, ?_⟩) ?_ ?_
               rotate_left
               ·
                intro w'
                go_simp
                with_reducible rfl
               rotate_left
               ·
                simp only [Pst.all]
                rfl
               refine pure_ (i := 2) (N := some 69) (v := ?_) (a' := ?_) q53_9 rfl rfl (any_of HT_.out (by kernel_rfl)) (fun _ _ _ h => h) (Or.inl ⟨by rfl, ?_⟩) ?_ ?_
               rotate_left
               ·
                intro w'
                go_simp
                with_reducible rfl
               rotate_left
               ·
                simp only [Pst.all]
                rfl
               refine take_ (i := 1) (N := some 68) (v := ?_) (a' := ?_) q54_9 rfl rfl (take_ofW HT_.out HW_.out (by kernel_rfl)) (fun _ _ _ h => h) (Or.inl ⟨by rfl, ?_⟩) hHeld ?_ ?_
               rotate_left
               ·
                rintro w' ⟨s0, s1, s2, s3, s4, s5, s6⟩
                go_simp
                with_reducible rfl
               rotate_left
               ·
                simp only [Pst.all]
                rfl
               refine pure_ (i := 3) (N := some 70) (v := ?_) (a' := ?_) q55_9 rfl rfl (any_of HT_.out (by kernel_rfl)) (fun _ _ _ h => h) (Or.inl ⟨by rfl, ?_⟩) ?_ ?_
               rotate_left
               ·
                intro w'
                go_simp
                with_reducible rfl
               rotate_left
               ·
                simp only [Pst.all]
                rfl
               refine pure_ (i := 4) (N := some 71) (v := ?_) (a' := ?_) q56_9 rfl rfl (any_of HT_.out (by kernel_rfl)) (fun _ _ _ h => h) (Or.inl ⟨by rfl, ?_⟩) ?_ ?_
               rotate_left
               ·
                intro w'
                go_simp
                with_reducible rfl
               rotate_left
               ·
                simp only [Pst.all]
                rfl
               refine take_ (i := 5) (N := some 72) (v := ?_) (a' := ?_) q57_9 rfl rfl (take_ofW HT_.out HW_.out (by kernel_rfl)) (fun _ _ _ h => h) (Or.inl ⟨by rfl, ?_⟩) hHeld ?_ ?_
               rotate_left
               ·
                rintro w' ⟨s0, s1, s2, s3, s4, s5, s6⟩
                go_simp
                with_reducible rfl
               rotate_left
               ·
                simp only [Pst.all]
                rfl
               refine one_ (i := 6) (N := some 73) q58_9 rfl rfl (one_of HT_.out (by kernel_rfl)) (by decide) (fun K hK => ?_)
               refine goes_ Try.func33 (by kernel_rfl) rfl #[.int .i64 ((rd_T31 ((rd_T58 l0 x3_1).f2) x5_3).f0)] (by rfl) rfl rfl (by (try simp only [List.map_toArray, List.map_cons, List.map_nil]); first | done | rfl | (simp only [List.length_drop, List.length_take]; rfl)) ?_
               with_reducible refine (spec_l02Tick.calls ((rd_T31 ((rd_T58 l0 x3_1).f2) x5_3).f0) true _ A32.out).mono ?_
               rintro e w' ⟨rfl, ⟨nd, rfl⟩⟩
               refine ⟨_, rfl, ?_⟩
               refine hK.out _ _ ⟨(blk_cell BK148.out 0).trans rfl, (blk_cell BK148.out 1).trans rfl, (blk_cell BK148.out 2).trans rfl, ((HB.out.cell (World.block_lt_of_cell? w _ hw155_0)).trans hw155_0), ((HB.out.cell (World.block_lt_of_cell? w _ hw155_1)).trans hw155_1), ((HB.out.cell (World.block_lt_of_cell? w _ hw157_0)).trans hw157_0), ((HB.out.cell (World.block_lt_of_cell? w _ hw157_1)).trans hw157_1)⟩ (fun hHeld => ?_)
               clear hK K
               refine norm_ (a' := ?_) ?_ ?_
               rotate_left
               ·
                show Act.put _ (some 73) _ = _
                simp only [Pst.all]
                rfl
               refine pure_ (i := 7) (N := some 74) (v := ?_) (a' := ?_) q59_9 rfl rfl (any_of HT_.out (by kernel_rfl)) (fun _ _ _ h => h) (Or.inl ⟨by rfl, ?_⟩) ?_ ?_
               rotate_left
               ·
                intro w'
                go_simp
                with_reducible rfl
               rotate_left
               ·
                simp only [Pst.all]
                rfl
               refine pure_ (i := 8) (N := some 75) (v := ?_) (a' := ?_) q60_9 rfl rfl (any_of HT_.out (by kernel_rfl)) (fun _ _ _ h => h) (Or.inl ⟨by rfl, ?_⟩) ?_ ?_
               rotate_left
               ·
                intro w'
                go_simp
                with_reducible rfl
               rotate_left
               ·
                simp only [Pst.all]
                rfl
               refine pure_ (i := 9) (N := some 76) (v := ?_) (a' := ?_) q61_9 rfl rfl (any_of HT_.out (by kernel_rfl)) (fun _ _ _ h => h) (Or.inl ⟨by rfl, ?_⟩) ?_ ?_
               rotate_left
               ·
                intro w'
                go_simp
                with_reducible rfl
               rotate_left
               ·
                simp only [Pst.all]
                rfl
               refine pure_ (i := 11) (N := some 78) (v := ?_) (a' := ?_) q62_9 rfl rfl (any_of HT_.out (by kernel_rfl)) (fun _ _ _ h => h) (Or.inl ⟨by rfl, ?_⟩) ?_ ?_
               rotate_left
               ·
                intro w'
                go_simp
                with_reducible rfl
               rotate_left
               ·
                simp only [Pst.all]
                rfl
               refine take_ (i := 10) (N := some 77) (v := ?_) (a' := ?_) q63_9 rfl rfl (take_ofW HT_.out HW_.out (by kernel_rfl)) (fun _ _ _ h => h) (Or.inl ⟨by rfl, ?_⟩) hHeld ?_ ?_
               rotate_left
               ·
                rintro w' ⟨s0, s1, s2, s3, s4, s5, s6⟩
                go_simp
                with_reducible rfl
               rotate_left
               ·
                simp only [Pst.all]
                rfl
               refine pure_ (i := 12) (N := some 79) (v := ?_) (a' := ?_) q64_9 rfl rfl (any_of HT_.out (by kernel_rfl)) (fun _ _ _ h => h) (Or.inl ⟨by rfl, ?_⟩) ?_ ?_
               rotate_left
               ·
                intro w'
                go_simp
                with_reducible rfl
               rotate_left
               ·
                simp only [Pst.all]
                rfl
               refine pure_ (i := 13) (N := some 80) (v := ?_) (a' := ?_) q65_9 rfl rfl (any_of HT_.out (by kernel_rfl)) (fun _ _ _ h => h) (Or.inl ⟨by rfl, ?_⟩) ?_ ?_
               rotate_left
               ·
                intro w'
                go_simp
                with_reducible rfl
               rotate_left
               ·
                simp only [Pst.all]
                rfl
               refine take_ (i := 14) (N := some 81) (v := ?_) (a' := ?_) q66_9 rfl rfl (take_ofW HT_.out HW_.out (by kernel_rfl)) (fun _ _ _ h => h) (Or.inl ⟨by rfl, ?_⟩) hHeld ?_ ?_
               rotate_left
               ·
                rintro w' ⟨s0, s1, s2, s3, s4, s5, s6⟩
                go_simp
                with_reducible rfl
               rotate_left
               ·
                simp only [Pst.all]
                rfl
               refine one_ (i := 15) (N := some 82) q67_9 rfl rfl (one_of HT_.out (by kernel_rfl)) (by decide) (fun K hK => ?_)
               refine goes_ Try.func34 (by kernel_rfl) rfl #[.int .i64 ((rd_T31 ((rd_T58 l0 x3_1).f2) x5_3).f1)] (by rfl) rfl rfl (by (try simp only [List.map_toArray, List.map_cons, List.map_nil]); first | done | rfl | (simp only [List.length_drop, List.length_take]; rfl)) ?_
               with_reducible refine (spec_l01Amt.calls ((rd_T31 ((rd_T58 l0 x3_1).f2) x5_3).f1) false _ A34.out).mono ?_
               rintro e w' ⟨rfl, ⟨nd, rfl⟩⟩
               refine ⟨_, rfl, ?_⟩
               refine hK.out _ _ ⟨(blk_cell BK148.out 0).trans rfl, (blk_cell BK148.out 1).trans rfl, (blk_cell BK148.out 2).trans rfl, ((HB.out.cell (World.block_lt_of_cell? w _ hw155_0)).trans hw155_0), ((HB.out.cell (World.block_lt_of_cell? w _ hw155_1)).trans hw155_1), ((HB.out.cell (World.block_lt_of_cell? w _ hw157_0)).trans hw157_0), ((HB.out.cell (World.block_lt_of_cell? w _ hw157_1)).trans hw157_1)⟩ (fun hHeld => ?_)
               clear hK K
               refine norm_ (a' := ?_) ?_ ?_
               rotate_left
               ·
                show Act.put _ (some 82) _ = _
                simp only [Pst.all]
                rfl
               refine pure_ (i := 16) (N := some 83) (v := ?_) (a' := ?_) q68_9 rfl rfl (any_of HT_.out (by kernel_rfl)) (fun _ _ _ h => h) (Or.inl ⟨by rfl, ?_⟩) ?_ ?_
               rotate_left
               ·
                intro w'
                go_simp
                with_reducible rfl
               rotate_left
               ·
                simp only [Pst.all]
                rfl
               refine pure_ (i := 17) (N := some 84) (v := ?_) (a' := ?_) q69_9 rfl rfl (any_of HT_.out (by kernel_rfl)) (fun _ _ _ h => h) (Or.inl ⟨by rfl, ?_⟩) ?_ ?_
               rotate_left
               ·
                intro w'
                go_simp
                with_reducible rfl
               rotate_left
               ·
                simp only [Pst.all]
                rfl
               refine pure_ (i := 18) (N := some 85) (v := ?_) (a' := ?_) q70_9 rfl rfl (any_of HT_.out (by kernel_rfl)) (fun _ _ _ h => h) (Or.inl ⟨by rfl, ?_⟩) ?_ ?_
               rotate_left
               ·
                intro w'
                go_simp
                with_reducible rfl
               rotate_left
               ·
                simp only [Pst.all]
                rfl
               refine pure_ (i := 19) (N := some 86) (v := undef) (a' := ?_) q71_9 rfl rfl (any_of HT_.out (by kernel_rfl)) (fun _ _ _ h => h) (Or.inr ⟨by rfl, rfl⟩) ?_ ?_
               rotate_left
               ·
                simp only [Pst.all]
                rfl
               refine pure_ (i := 20) (N := some 87) (v := undef) (a' := ?_) q72_9 rfl rfl (any_of HT_.out (by kernel_rfl)) (fun _ _ _ h => h) (Or.inr ⟨by rfl, rfl⟩) ?_ ?_
               rotate_left
               ·
                simp only [Pst.all]
                rfl
               refine pure_ (i := 21) (N := some 88) (v := undef) (a' := ?_) q73_9 rfl rfl (any_of HT_.out (by kernel_rfl)) (fun _ _ _ h => h) (Or.inr ⟨by rfl, rfl⟩) ?_ ?_
               rotate_left
               ·
                simp only [Pst.all]
                rfl
               refine pure_ (i := 22) (N := some 89) (v := undef) (a' := ?_) q74_9 rfl rfl (any_of HT_.out (by kernel_rfl)) (fun _ _ _ h => h) (Or.inr ⟨by rfl, rfl⟩) ?_ ?_
               rotate_left
               ·
                simp only [Pst.all]
                rfl
               refine pure_ (i := 23) (N := some 90) (v := undef) (a' := ?_) q90_9 rfl rfl (any_of HT_.out (by kernel_rfl)) (fun _ _ _ h => h) (Or.inr ⟨by rfl, rfl⟩) ?_ ?_
               rotate_left
               ·
                simp only [Pst.all]
                rfl
               refine pure_ (i := 24) (N := some 91) (v := undef) (a' := ?_) q91_9 rfl rfl (any_of HT_.out (by kernel_rfl)) (fun _ _ _ h => h) (Or.inr ⟨by rfl, rfl⟩) ?_ ?_
               rotate_left
               ·
                simp only [Pst.all]
                rfl
               refine pure_ (i := 25) (N := some 92) (v := undef) (a' := ?_) q92_9 rfl rfl (any_of HT_.out (by kernel_rfl)) (fun _ _ _ h => h) (Or.inr ⟨by rfl, rfl⟩) ?_ ?_
               rotate_left
               ·
                simp only [Pst.all]
                rfl
               refine pure_ (i := 26) (N := some 93) (v := undef) (a' := ?_) q93_9 rfl rfl (any_of HT_.out (by kernel_rfl)) (fun _ _ _ h => h) (Or.inr ⟨by rfl, rfl⟩) ?_ ?_
               rotate_left
               ·
                simp only [Pst.all]
                rfl
               refine pure_ (i := 27) (N := some 94) (v := undef) (a' := ?_) q94_9 rfl rfl (any_of HT_.out (by kernel_rfl)) (fun _ _ _ h => h) (Or.inr ⟨by rfl, rfl⟩) ?_ ?_
               rotate_left
               ·
                simp only [Pst.all]
                rfl
               refine pure_ (i := 28) (N := some 95) (v := undef) (a' := ?_) q95_9 rfl rfl (any_of HT_.out (by kernel_rfl)) (fun _ _ _ h => h) (Or.inr ⟨by rfl, rfl⟩) ?_ ?_
               rotate_left
               ·
                simp only [Pst.all]
                rfl
               refine pure_ (i := 29) (N := some 96) (v := undef) (a' := ?_) q96_9 rfl rfl (any_of HT_.out (by kernel_rfl)) (fun _ _ _ h => h) (Or.inr ⟨by rfl, rfl⟩) ?_ ?_
               rotate_left
               ·
                simp only [Pst.all]
                rfl
               refine pure_ (i := 30) (N := some 97) (v := undef) (a' := ?_) q97_9 rfl rfl (any_of HT_.out (by kernel_rfl)) (fun _ _ _ h => h) (Or.inr ⟨by rfl, rfl⟩) ?_ ?_
               rotate_left
               ·
                simp only [Pst.all]
                rfl
               refine pure_ (i := 31) (N := some 98) (v := undef) (a' := ?_) q83_9 rfl rfl (any_of HT_.out (by kernel_rfl)) (fun _ _ _ h => h) (Or.inr ⟨by rfl, rfl⟩) ?_ ?_
               rotate_left
               ·
                simp only [Pst.all]
                rfl
               refine pure_ (i := 32) (N := some 99) (v := undef) (a' := ?_) q84_9 rfl rfl (any_of HT_.out (by kernel_rfl)) (fun _ _ _ h => h) (Or.inr ⟨by rfl, rfl⟩) ?_ ?_
               rotate_left
               ·
                simp only [Pst.all]
                rfl
               refine pure_ (i := 33) (N := some 100) (v := undef) (a' := ?_) q85_9 rfl rfl (any_of HT_.out (by kernel_rfl)) (fun _ _ _ h => h) (Or.inr ⟨by rfl, rfl⟩) ?_ ?_
               rotate_left
               ·
                simp only [Pst.all]
                rfl
               refine pure_ (i := 34) (N := some 101) (v := undef) (a' := ?_) q86_9 rfl rfl (any_of HT_.out (by kernel_rfl)) (fun _ _ _ h => h) (Or.inr ⟨by rfl, rfl⟩) ?_ ?_
               rotate_left
               ·
                simp only [Pst.all]
                rfl
               refine pure_ (i := 35) (N := some 102) (v := undef) (a' := ?_) q87_9 rfl rfl (any_of HT_.out (by kernel_rfl)) (fun _ _ _ h => h) (Or.inr ⟨by rfl, rfl⟩) ?_ ?_
               rotate_left
               ·
                simp only [Pst.all]
                rfl
               refine pure_ (i := 36) (N := some 103) (v := undef) (a' := ?_) q88_9 rfl rfl (any_of HT_.out (by kernel_rfl)) (fun _ _ _ h => h) (Or.inr ⟨by rfl, rfl⟩) ?_ ?_
               rotate_left
               ·
                simp only [Pst.all]
                rfl
               refine pure_ (i := 37) (N := some 104) (v := ?_) (a' := ?_) q89_9 rfl rfl (any_of HT_.out (by kernel_rfl)) (fun _ _ _ h => h) (Or.inl ⟨by rfl, ?_⟩) ?_ ?_
               rotate_left
               ·
                intro w'
                go_simp
                with_reducible rfl
               rotate_left
               ·
                simp only [Pst.all]
                rfl
               refine done_ (done_of HT_.out (by kernel_rfl)) ?_
               try go_wp2
               go_ret
               exact ⟨by first | rfl | (simp [errW_none, errW_some] <;> rfl) | (simp [*, errW_none, errW_some] <;> rfl), by repeat (first | (with_reducible first | exact HB.out | apply below_alloc | apply pw_below_drewN | apply below_drew1 | refine below_set ?_ GE148.out) | exact HB.out)⟩
             ·
              replace c33 := Bool.eq_false_iff.mpr c33
              subst c33
              have H1 : (some false) = some r := by rw [if_neg (show ¬ (false = true) by decide)] at H; exact H
              clear H
              have H := H1
              clear H1
              obtain rfl := Option.some.inj H
              obtain ⟨hcz49_0, hcz49_1, hcz49_2⟩ := Pst.c3 BK148.out
              obtain ⟨hfz49_0, hfz49_1, hfz49_2⟩ := Pst.f3 BK148.out
              try go_wp2
              have n0_ := Aside0.mk (blk_drew BK148.out)
              have n1_ := Aside0.mk (below_drew1 HB.out)
              clear BK148
              clear HB
              have BK148 := n0_
              have HB := n1_
              clear n0_ n1_
              have p155 : 0 ≤ (x5_3 : Int) := of_decide_eq_true (by first | (with_reducible assumption) | assumption)
              have q155 : x5_3 < (((rd_T58 l0 x3_1).f2).length : Int) := of_decide_eq_true (by first | (with_reducible assumption) | assumption)
              obtain ⟨ad155, e155, hx155_0, hx155_1⟩ := at_T31 HR147_2.out x5_3 p155 q155
              have hw155_1 := hx155_1
              have hw155_0 := hx155_0
              cases e155
              replace hx155_0 := (HB.out.cell (World.block_lt_of_cell? w _ hx155_0)).trans hx155_0
              replace hx155_1 := (HB.out.cell (World.block_lt_of_cell? w _ hx155_1)).trans hx155_1
              replace p155 := eq_true p155
              replace q155 := eq_true q155
              refine start_ (n := 38) (S := fun w' => w'.cell? ⟨gb148, 0, none⟩ = some (.string ((rd_T58 l0 x3_1).f0)) ∧ w'.cell? ⟨gb148, 1, none⟩ = some (.string ((rd_T58 l0 x3_1).f1)) ∧ w'.cell? ⟨gb148, 2, none⟩ = some (.slice (some ad155) ((rd_T58 l0 x3_1).f2).length c147_2) ∧ w'.cell? (ad155.add ((x5_3).toNat * 2)) = some (.int .i64 ((rd_T31 ((rd_T58 l0 x3_1).f2) x5_3).f0)) ∧ w'.cell? ⟨(ad155.add ((x5_3).toNat * 2)).block, (ad155.add ((x5_3).toNat * 2)).off + 1, none⟩ = some (.int .i64 ((rd_T31 ((rd_T58 l0 x3_1).f2) x5_3).f1))) (ds := []) q51_9 (by kernel_rfl) rfl rfl ⟨(blk_cell BK148.out 0).trans rfl, (blk_cell BK148.out 1).trans rfl, (blk_cell BK148.out 2).trans rfl, ((HB.out.cell (World.block_lt_of_cell? w _ hw155_0)).trans hw155_0), ((HB.out.cell (World.block_lt_of_cell? w _ hw155_1)).trans hw155_1)⟩ (fun hHeld => ?_); refine with_tabW spec_StoreOk.tab12 spec_StoreOk.bits12 (fun HT_ HW_ => ?_)
              generalize wr.drew = w50 at BK148 HB hx155_0 hx155_1 hHeld ⊢
              refine pure_ (i := 0) (N := some 67) (v := ?_) (a' := ?_) q52_9 rfl rfl (any_of HT_.out (by kernel_rfl)) (fun _ _ _ h => h) (Or.inl ⟨by rfl, ?_⟩) ?_ ?_
              rotate_left
              ·
               intro w'
               go_simp
               with_reducible rfl
              rotate_left
              ·
               simp only [Pst.all]
               rfl
              refine pure_ (i := 2) (N := some 69) (v := ?_) (a' := ?_) q53_9 rfl rfl (any_of HT_.out (by kernel_rfl)) (fun _ _ _ h => h) (Or.inl ⟨by rfl, ?_⟩) ?_ ?_
              rotate_left
              ·
               intro w'
               go_simp
               with_reducible rfl
              rotate_left
              ·
               simp only [Pst.all]
               rfl
              refine take_ (i := 1) (N := some 68) (v := ?_) (a' := ?_) q54_9 rfl rfl (take_ofW HT_.out HW_.out (by kernel_rfl)) (fun _ _ _ h => h) (Or.inl ⟨by rfl, ?_⟩) hHeld ?_ ?_
              rotate_left
              ·
               rintro w' ⟨s0, s1, s2, s3, s4⟩
               go_simp
               with_reducible rfl
              rotate_left
              ·
               simp only [Pst.all]
               rfl
              refine pure_ (i := 3) (N := some 70) (v := ?_) (a' := ?_) q55_9 rfl rfl (any_of HT_.out (by kernel_rfl)) (fun _ _ _ h => h) (Or.inl ⟨by rfl, ?_⟩) ?_ ?_
              rotate_left
              ·
               intro w'
               go_simp
               with_reducible rfl
              rotate_left
              ·
               simp only [Pst.all]
               rfl
              refine pure_ (i := 4) (N := some 71) (v := ?_) (a' := ?_) q56_9 rfl rfl (any_of HT_.out (by kernel_rfl)) (fun _ _ _ h => h) (Or.inl ⟨by rfl, ?_⟩) ?_ ?_
              rotate_left
              ·
               intro w'
               go_simp
               with_reducible rfl
              rotate_left
              ·
               simp only [Pst.all]
               rfl
              refine take_ (i := 5) (N := some 72) (v := ?_) (a' := ?_) q57_9 rfl rfl (take_ofW HT_.out HW_.out (by kernel_rfl)) (fun _ _ _ h => h) (Or.inl ⟨by rfl, ?_⟩) hHeld ?_ ?_
              rotate_left
              ·
               rintro w' ⟨s0, s1, s2, s3, s4⟩
               go_simp
               with_reducible rfl
              rotate_left
              ·
               simp only [Pst.all]
               rfl
              refine one_ (i := 6) (N := some 73) q58_9 rfl rfl (one_of HT_.out (by kernel_rfl)) (by decide) (fun K hK => ?_)
              refine goes_ Try.func33 (by kernel_rfl) rfl #[.int .i64 ((rd_T31 ((rd_T58 l0 x3_1).f2) x5_3).f0)] (by rfl) rfl rfl (by (try simp only [List.map_toArray, List.map_cons, List.map_nil]); first | done | rfl | (simp only [List.length_drop, List.length_take]; rfl)) ?_
              with_reducible refine (spec_l02Tick.calls ((rd_T31 ((rd_T58 l0 x3_1).f2) x5_3).f0) false _ A32.out).mono ?_
              rintro e w' ⟨rfl, ⟨nd, rfl⟩⟩
              refine ⟨_, rfl, ?_⟩
              refine hK.out _ _ ⟨(blk_cell BK148.out 0).trans rfl, (blk_cell BK148.out 1).trans rfl, (blk_cell BK148.out 2).trans rfl, ((HB.out.cell (World.block_lt_of_cell? w _ hw155_0)).trans hw155_0), ((HB.out.cell (World.block_lt_of_cell? w _ hw155_1)).trans hw155_1)⟩ (fun hHeld => ?_)
              clear hK K
              refine norm_ (a' := ?_) ?_ ?_
              rotate_left
              ·
               show Act.put _ (some 73) _ = _
               simp only [Pst.all]
               rfl
              refine pure_ (i := 7) (N := some 74) (v := ?_) (a' := ?_) q59_9 rfl rfl (any_of HT_.out (by kernel_rfl)) (fun _ _ _ h => h) (Or.inl ⟨by rfl, ?_⟩) ?_ ?_
              rotate_left
              ·
               intro w'
               go_simp
               with_reducible rfl
              rotate_left
              ·
               simp only [Pst.all]
               rfl
              refine pure_ (i := 8) (N := some 75) (v := ?_) (a' := ?_) q60_9 rfl rfl (any_of HT_.out (by kernel_rfl)) (fun _ _ _ h => h) (Or.inl ⟨by rfl, ?_⟩) ?_ ?_
              rotate_left
              ·
               intro w'
               go_simp
               with_reducible rfl
              rotate_left
              ·
               simp only [Pst.all]
               rfl
              refine pure_ (i := 9) (N := some 76) (v := undef) (a' := ?_) q61_9 rfl rfl (any_of HT_.out (by kernel_rfl)) (fun _ _ _ h => h) (Or.inr ⟨by rfl, rfl⟩) ?_ ?_
              rotate_left
              ·
               simp only [Pst.all]
               rfl
              refine pure_ (i := 10) (N := some 77) (v := undef) (a' := ?_) q98_9 rfl rfl (any_of HT_.out (by kernel_rfl)) (fun _ _ _ h => h) (Or.inr ⟨by rfl, rfl⟩) ?_ ?_
              rotate_left
              ·
               simp only [Pst.all]
               rfl
              refine pure_ (i := 11) (N := some 78) (v := undef) (a' := ?_) q63_9 rfl rfl (any_of HT_.out (by kernel_rfl)) (fun _ _ _ h => h) (Or.inr ⟨by rfl, rfl⟩) ?_ ?_
              rotate_left
              ·
               simp only [Pst.all]
               rfl
              refine pure_ (i := 12) (N := some 79) (v := undef) (a' := ?_) q64_9 rfl rfl (any_of HT_.out (by kernel_rfl)) (fun _ _ _ h => h) (Or.inr ⟨by rfl, rfl⟩) ?_ ?_
              rotate_left
              ·
               simp only [Pst.all]
               rfl
              refine pure_ (i := 13) (N := some 80) (v := undef) (a' := ?_) q65_9 rfl rfl (any_of HT_.out (by kernel_rfl)) (fun _ _ _ h => h) (Or.inr ⟨by rfl, rfl⟩) ?_ ?_
              rotate_left
              ·
               simp only [Pst.all]
               rfl
              refine pure_ (i := 14) (N := some 81) (v := undef) (a' := ?_) q66_9 rfl rfl (any_of HT_.out (by kernel_rfl)) (fun _ _ _ h => h) (Or.inr ⟨by rfl, rfl⟩) ?_ ?_
              rotate_left
              ·
               simp only [Pst.all]
               rfl
              refine pure_ (i := 15) (N := some 82) (v := undef) (a' := ?_) q67_9 rfl rfl (any_of HT_.out (by kernel_rfl)) (fun _ _ _ h => h) (Or.inr ⟨by rfl, rfl⟩) ?_ ?_
              rotate_left
              ·
               simp only [Pst.all]
               rfl
              refine pure_ (i := 16) (N := some 83) (v := undef) (a' := ?_) q68_9 rfl rfl (any_of HT_.out (by kernel_rfl)) (fun _ _ _ h => h) (Or.inr ⟨by rfl, rfl⟩) ?_ ?_
              rotate_left
              ·
               simp only [Pst.all]
               rfl
              refine pure_ (i := 17) (N := some 84) (v := ?_) (a' := ?_) q69_9 rfl rfl (any_of HT_.out (by kernel_rfl)) (fun _ _ _ h => h) (Or.inl ⟨by rfl, ?_⟩) ?_ ?_
              rotate_left
              ·
               intro w'
               go_simp
               with_reducible rfl
              rotate_left
              ·
               simp only [Pst.all]
               rfl
              refine pure_ (i := 18) (N := some 85) (v := ?_) (a' := ?_) q70_9 rfl rfl (any_of HT_.out (by kernel_rfl)) (fun _ _ _ h => h) (Or.inl ⟨by rfl, ?_⟩) ?_ ?_
              rotate_left
              ·
               intro w'
               go_simp
               with_reducible rfl
              rotate_left
              ·
               simp only [Pst.all]
               rfl
              refine pure_ (i := 19) (N := some 86) (v := undef) (a' := ?_) q71_9 rfl rfl (any_of HT_.out (by kernel_rfl)) (fun _ _ _ h => h) (Or.inr ⟨by rfl, rfl⟩) ?_ ?_
              rotate_left
              ·
               simp only [Pst.all]
               rfl
              refine pure_ (i := 20) (N := some 87) (v := undef) (a' := ?_) q72_9 rfl rfl (any_of HT_.out (by kernel_rfl)) (fun _ _ _ h => h) (Or.inr ⟨by rfl, rfl⟩) ?_ ?_
              rotate_left
              ·
               simp only [Pst.all]
               rfl
              refine pure_ (i := 21) (N := some 88) (v := undef) (a' := ?_) q73_9 rfl rfl (any_of HT_.out (by kernel_rfl)) (fun _ _ _ h => h) (Or.inr ⟨by rfl, rfl⟩) ?_ ?_
              rotate_left
              ·
               simp only [Pst.all]
               rfl
              refine pure_ (i := 22) (N := some 89) (v := undef) (a' := ?_) q74_9 rfl rfl (any_of HT_.out (by kernel_rfl)) (fun _ _ _ h => h) (Or.inr ⟨by rfl, rfl⟩) ?_ ?_
              rotate_left
              ·
               simp only [Pst.all]
               rfl
              refine pure_ (i := 23) (N := some 90) (v := undef) (a' := ?_) q90_9 rfl rfl (any_of HT_.out (by kernel_rfl)) (fun _ _ _ h => h) (Or.inr ⟨by rfl, rfl⟩) ?_ ?_
              rotate_left
              ·
               simp only [Pst.all]
               rfl
              refine pure_ (i := 24) (N := some 91) (v := undef) (a' := ?_) q91_9 rfl rfl (any_of HT_.out (by kernel_rfl)) (fun _ _ _ h => h) (Or.inr ⟨by rfl, rfl⟩) ?_ ?_
              rotate_left
              ·
               simp only [Pst.all]
               rfl
              refine pure_ (i := 25) (N := some 92) (v := undef) (a' := ?_) q92_9 rfl rfl (any_of HT_.out (by kernel_rfl)) (fun _ _ _ h => h) (Or.inr ⟨by rfl, rfl⟩) ?_ ?_
              rotate_left
              ·
               simp only [Pst.all]
               rfl
              refine pure_ (i := 26) (N := some 93) (v := undef) (a' := ?_) q93_9 rfl rfl (any_of HT_.out (by kernel_rfl)) (fun _ _ _ h => h) (Or.inr ⟨by rfl, rfl⟩) ?_ ?_
              rotate_left
              ·
               simp only [Pst.all]
               rfl
              refine pure_ (i := 27) (N := some 94) (v := undef) (a' := ?_) q94_9 rfl rfl (any_of HT_.out (by kernel_rfl)) (fun _ _ _ h => h) (Or.inr ⟨by rfl, rfl⟩) ?_ ?_
              rotate_left
              ·
               simp only [Pst.all]
               rfl
              refine pure_ (i := 28) (N := some 95) (v := undef) (a' := ?_) q95_9 rfl rfl (any_of HT_.out (by kernel_rfl)) (fun _ _ _ h => h) (Or.inr ⟨by rfl, rfl⟩) ?_ ?_
              rotate_left
              ·
               simp only [Pst.all]
               rfl
              refine pure_ (i := 29) (N := some 96) (v := undef) (a' := ?_) q96_9 rfl rfl (any_of HT_.out (by kernel_rfl)) (fun _ _ _ h => h) (Or.inr ⟨by rfl, rfl⟩) ?_ ?_
              rotate_left
              ·
               simp only [Pst.all]
               rfl
              refine pure_ (i := 30) (N := some 97) (v := undef) (a' := ?_) q97_9 rfl rfl (any_of HT_.out (by kernel_rfl)) (fun _ _ _ h => h) (Or.inr ⟨by rfl, rfl⟩) ?_ ?_
              rotate_left
              ·
               simp only [Pst.all]
               rfl
              refine pure_ (i := 31) (N := some 98) (v := undef) (a' := ?_) q83_9 rfl rfl (any_of HT_.out (by kernel_rfl)) (fun _ _ _ h => h) (Or.inr ⟨by rfl, rfl⟩) ?_ ?_
              rotate_left
              ·
               simp only [Pst.all]
               rfl
              refine pure_ (i := 32) (N := some 99) (v := undef) (a' := ?_) q84_9 rfl rfl (any_of HT_.out (by kernel_rfl)) (fun _ _ _ h => h) (Or.inr ⟨by rfl, rfl⟩) ?_ ?_
              rotate_left
              ·
               simp only [Pst.all]
               rfl
              refine pure_ (i := 33) (N := some 100) (v := undef) (a' := ?_) q85_9 rfl rfl (any_of HT_.out (by kernel_rfl)) (fun _ _ _ h => h) (Or.inr ⟨by rfl, rfl⟩) ?_ ?_
              rotate_left
              ·
               simp only [Pst.all]
               rfl
              refine pure_ (i := 34) (N := some 101) (v := undef) (a' := ?_) q86_9 rfl rfl (any_of HT_.out (by kernel_rfl)) (fun _ _ _ h => h) (Or.inr ⟨by rfl, rfl⟩) ?_ ?_
              rotate_left
              ·
               simp only [Pst.all]
               rfl
              refine pure_ (i := 35) (N := some 102) (v := undef) (a' := ?_) q87_9 rfl rfl (any_of HT_.out (by kernel_rfl)) (fun _ _ _ h => h) (Or.inr ⟨by rfl, rfl⟩) ?_ ?_
              rotate_left
              ·
               simp only [Pst.all]
               rfl
              refine pure_ (i := 36) (N := some 103) (v := undef) (a' := ?_) q88_9 rfl rfl (any_of HT_.out (by kernel_rfl)) (fun _ _ _ h => h) (Or.inr ⟨by rfl, rfl⟩) ?_ ?_
              rotate_left
              ·
               simp only [Pst.all]
               rfl
              refine pure_ (i := 37) (N := some 104) (v := ?_) (a' := ?_) q89_9 rfl rfl (any_of HT_.out (by kernel_rfl)) (fun _ _ _ h => h) (Or.inl ⟨by rfl, ?_⟩) ?_ ?_
              rotate_left
              ·
               intro w'
               go_simp
               with_reducible rfl
              rotate_left
              ·
               simp only [Pst.all]
               rfl
              refine done_ (done_of HT_.out (by kernel_rfl)) ?_
              try go_wp2
              go_ret
              exact ⟨by first | rfl | (simp [errW_none, errW_some] <;> rfl) | (simp [*, errW_none, errW_some] <;> rfl), by repeat (first | (with_reducible first | exact HB.out | apply below_alloc | apply pw_below_drewN | apply below_drew1 | refine below_set ?_ GE148.out) | exact HB.out)⟩
            ·
             rw [if_neg c31] at H
             exact absurd H (by simp)
           ·
            rw [if_neg c30] at H
            have c30b0 : decide (x5_3 < (((rd_T58 l0 x3_1).f2).length : Int)) = false := decide_eq_false c30
            clear c30
            have H' := Aside0.mk H
            clear H
            obtain ⟨hcz51_0, hcz51_1, hcz51_2⟩ := Pst.c3 BK148.out
            obtain ⟨hfz51_0, hfz51_1, hfz51_2⟩ := Pst.f3 BK148.out
            go_wp2
            go_roundg k3
            case measure => have := HK1.out; have := HJ4.out; have := HK3.out; omega
            case rel => exact ⟨(wrap64 (x3_1 + 1)), (by first | rfl | (simp; done) | (simp [*]; done)), H', ⟨by have := HK1.out; have := HJ4.out; have := HK3.out; omega⟩, ⟨by repeat (first | (with_reducible first | exact HB.out | apply below_alloc | apply pw_below_drewN | apply below_drew1 | refine below_set ?_ GE148.out) | exact HB.out)⟩⟩
     ·
      rw [if_neg c4] at H
      exact absurd H (by simp)
    ·
     rw [if_neg c3] at H
     have c3b0 : decide (x3_1 < (l0.length : Int)) = false := decide_eq_false c3
     clear c3
     obtain rfl := Option.some.inj H
     go_wp2
     go_ret
     exact ⟨by first | rfl | (simp [errW_none, errW_some] <;> rfl) | (simp [*, errW_none, errW_some] <;> rfl), by repeat (first | (with_reducible first | exact HB.out | apply below_alloc | apply pw_below_drewN | apply below_drew1) | exact HB.out)⟩
theorem spec_StoreOk.l0.st {x0 : List (S58)} {x3 : Int} {r : (Bool)} (H : Ev (fun k => if x3 < (x0.length : Int) then (if 0 ≤ x3 then ((spec_NameOk.f k ((rd_T58 x0 x3).f0)).bind fun t149 => (if t149 = true then ((spec_NameOk.f k ((rd_T58 x0 x3).f1)).bind fun t150 => (if t150 = true then ((spec_l01In.f (((rd_T58 x0 x3).f2).length : Int) 1 12).bind fun t151 => (if t151 = true then (if x3 > 0 then (if 0 ≤ (wrap64 (x3 - 1)) then (if (wrap64 (x3 - 1)) < (x0.length : Int) then ((spec_l03Before.f k ((rd_T58 x0 (wrap64 (x3 - 1))).f0) ((rd_T58 x0 (wrap64 (x3 - 1))).f1) ((rd_T58 x0 x3).f0) ((rd_T58 x0 x3).f1)).bind fun t154 => (spec_StoreOk.j1 k x0 x3 (!t154) ((rd_T58 x0 x3).f0) ((rd_T58 x0 x3).f1) ((rd_T58 x0 x3).f2))) else (none)) else (none)) else (spec_StoreOk.j1 k x0 x3 false ((rd_T58 x0 x3).f0) ((rd_T58 x0 x3).f1) ((rd_T58 x0 x3).f2))) else (spec_StoreOk.j1 k x0 x3 true ((rd_T58 x0 x3).f0) ((rd_T58 x0 x3).f1) ((rd_T58 x0 x3).f2)))) else (spec_StoreOk.j1 k x0 x3 true ((rd_T58 x0 x3).f0) ((rd_T58 x0 x3).f1) ((rd_T58 x0 x3).f2)))) else (spec_StoreOk.j1 k x0 x3 true ((rd_T58 x0 x3).f0) ((rd_T58 x0 x3).f1) ((rd_T58 x0 x3).f2)))) else (none)) else (some true)) r) : Ev (fun k => spec_StoreOk.l0 k x0 x3) r := Ev.step (fun k => spec_StoreOk.l0.eq_2 x0 x3 k) H
theorem spec_StoreOk.j1.st {x0 : List (S58)} {x3 : Int} {x59 : Bool} {x149000 : ByteArray} {x149001 : ByteArray} {x149002 : List (S31)} {r : (Bool)} (H : Ev (fun k => if x59 = true then (some false) else (spec_StoreOk.l1 k x0 x3 0 x149000 x149001 x149002)) r) : Ev (fun k => spec_StoreOk.j1 k x0 x3 x59 x149000 x149001 x149002) r := Ev.step (fun k => spec_StoreOk.j1.eq_2 x0 x3 x59 x149000 x149001 x149002 k) H
theorem spec_StoreOk.l1.st {x0 : List (S58)} {x3 : Int} {x5 : Int} {x149000 : ByteArray} {x149001 : ByteArray} {x149002 : List (S31)} {r : (Bool)} (H : Ev (fun k => if x5 < (x149002.length : Int) then (if 0 ≤ x5 then ((spec_l02Tick.f ((rd_T31 x149002 x5).f0)).bind fun t156 => (if t156 = true then ((spec_l01Amt.f ((rd_T31 x149002 x5).f1)).bind fun t158 => (if t158 = true then (if x5 > 0 then (if 0 ≤ (wrap64 (x5 - 1)) then (if (wrap64 (x5 - 1)) < (x149002.length : Int) then (if ((rd_T31 x149002 (wrap64 (x5 - 1))).f0) ≥ ((rd_T31 x149002 x5).f0) then (some false) else (spec_StoreOk.l1 k x0 x3 (wrap64 (x5 + 1)) x149000 x149001 x149002)) else (none)) else (none)) else (spec_StoreOk.l1 k x0 x3 (wrap64 (x5 + 1)) x149000 x149001 x149002)) else (some false))) else (some false))) else (none)) else (spec_StoreOk.l0 k x0 (wrap64 (x3 + 1)))) r) : Ev (fun k => spec_StoreOk.l1 k x0 x3 x5 x149000 x149001 x149002) r := Ev.step (fun k => spec_StoreOk.l1.eq_2 x0 x3 x5 x149000 x149001 x149002 k) H

end Go.Proofs.Ytecjingcnaopdaa.PS
