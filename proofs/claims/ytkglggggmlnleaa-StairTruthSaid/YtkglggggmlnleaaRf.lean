/- The fault of a staircase as the document says it, and whether it is ready, by hand. -/
import Derived.Test.YtkglggggmlnleaaXR0
import Derived.Test.YtkglggggmlnleaaCk
import Derived.Deep.QuietTactic
import Derived.BigQuiet
namespace Go.Proofs.Ytkglggggmlnleaa.Print
open Go.RowKit Go.Proofs.YtkglggggmlnleaaW.PrintWords Go.Proofs.YtkglggggmlnleaaW.PrintLast Go.Proofs.YtkglggggmlnleaaW.PrintMore
set_option linter.unusedVariables false
set_option linter.unusedSimpArgs false
/-- A run, for the program. -/
def up (x : S43) : S67 := ⟨x.f0, x.f1⟩
theorem cell43 {w : World} {A : Option Addr} {l : List S43} (h : Kd.C k43 w A l.length l) (j : Nat) (hj : j < l.length) : ∃ ad, A = some ad ∧ w.cell? (ad.add (j * 2)) = some (.int .i64 l[j].f0) ∧ w.cell? ⟨(ad.add (j * 2)).block, (ad.add (j * 2)).off + 1, none⟩ = some (.int .u8 l[j].f1) := by
  obtain ⟨ad, rfl, g0, g1⟩ := at_T43 h j (by omega) (by omega)
  have hx : rd_T43 l j = l[j] := by unfold rd_T43; simp [List.getD_eq_getElem?_getD, hj]
  rw [hx] at g0 g1
  exact ⟨ad, rfl, g0, g1⟩
end Go.Proofs.Ytkglggggmlnleaa.Print
