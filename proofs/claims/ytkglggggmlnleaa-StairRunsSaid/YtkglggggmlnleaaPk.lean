/- Plain laws of the spans: what becomes of them with more histories; their ends. -/
import Derived.Test.YtkglggggmlnleaaHm
import Derived.Test.YtkglggggmlnleaaRk
namespace Go.Proofs.Ytkglggggmlnleaa.Print
open Go.RowKit Go.Proofs.YtkglggggmlnleaaW.PrintWords Go.Proofs.YtkglggggmlnleaaW.PrintLast Go.Proofs.YtkglggggmlnleaaW.PrintMore
set_option linter.unusedVariables false
set_option linter.unusedSimpArgs false
theorem poss_0 {L st : Int} {l : List S67} (h : possI L st l = 0) : checkI L st l = 0 ∧ hists L st l ≠ [] := poss_ok h
end Go.Proofs.Ytkglggggmlnleaa.Print
