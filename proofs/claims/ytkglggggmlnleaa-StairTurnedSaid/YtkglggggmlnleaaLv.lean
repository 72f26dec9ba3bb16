/- The document's levels and histories: what its functions Next, Levels and IsHistory compute, by hand. -/
import Derived.Test.YtkglggggmlnleaaRf
import Derived.Test.YtkglggggmlnleaaPr
namespace Go.Proofs.Ytkglggggmlnleaa.Print
open Go.RowKit Go.Proofs.YtkglggggmlnleaaW.PrintWords Go.Proofs.YtkglggggmlnleaaW.PrintLast Go.Proofs.YtkglggggmlnleaaW.PrintMore
set_option linter.unusedVariables false
set_option linter.unusedSimpArgs false
section
attribute [local go_sem] max2_int min2_int max_two min_two
end
theorem cellU {w : World} {k : IntKind} {A : Option Addr} {rs : List Int} (h : Kd.C (Kd.int k) w A rs.length rs) (j : Nat) (hj : j < rs.length) : ∃ ad, A = some ad ∧ w.cell? (ad.add j) = some (.int k rs[j]) := by
  obtain ⟨ad, rfl, g0⟩ := Kd.at_int h (j : Int) (by omega) (by omega)
  have hrd : rd rs (j : Int) = rs[j] := by unfold rd; simp [List.getD_eq_getElem?_getD, hj]
  rw [hrd] at g0
  exact ⟨ad, rfl, g0⟩
end Go.Proofs.Ytkglggggmlnleaa.Print
