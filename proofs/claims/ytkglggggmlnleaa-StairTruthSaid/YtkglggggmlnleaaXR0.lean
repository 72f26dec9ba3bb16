/- Written by a program of this claim: functions of the program and of the laws, and what they compute. -/
import Derived.Test.YtkglggggmlnleaaX0
namespace Go.Proofs.Ytkglggggmlnleaa.Print
open Go.RowKit Go.Proofs.YtkglggggmlnleaaW.PrintWords Go.Proofs.YtkglggggmlnleaaW.PrintLast Go.Proofs.YtkglggggmlnleaaW.PrintMore
attribute [local go_sem] max2_int min2_int max_two min_two max_three min_three max_four min_four   -- for this text's walks alone
set_option linter.unusedVariables false
set_option linter.unusedSimpArgs false

/-! ### tensilelaw04_Thin: function 16 -/

/-! ### tensileref04_In: function 27 -/

end Go.Proofs.Ytkglggggmlnleaa.Print
