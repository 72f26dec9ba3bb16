/- Stairs and Thin, as contracts without rounds. -/
import Derived.Test.YtkglggggmlnleaaXS1
import Derived.Test.YtkglggggmlnleaaXR0
import Derived.Test.YtkglggggmlnleaaHr
import Derived.Test.YtkglggggmlnleaaAw
namespace Go.Proofs.Ytkglggggmlnleaa.Print
open Go.RowKit Go.Proofs.YtkglggggmlnleaaW.PrintWords Go.Proofs.YtkglggggmlnleaaW.PrintLast Go.Proofs.YtkglggggmlnleaaW.PrintMore
set_option linter.unusedVariables false
set_option linter.unusedSimpArgs false
theorem stairs_l0 (a b : Int) (l : List S43) (hl : l.length < 8796093022208) : ∀ (d j : Nat), j + d = l.length → tensilelaw04_Stairs.l0 (d + 1) j a b l a b ((l.take j).map up) = some (a, b, l.map up)
  | 0, j, h => by
    unfold tensilelaw04_Stairs.l0
    rw [if_neg (by omega), List.take_of_length_le (by omega)]
  | d + 1, j, h => by
    have hj : j < l.length := by omega
    have hw : wrap64 ((j : Int) + 1) = ((j + 1 : Nat) : Int) := by unfold wrap64; omega
    have hx : rd_T43 l j = l[j] := by unfold rd_T43; simp [List.getD_eq_getElem?_getD, hj]
    unfold tensilelaw04_Stairs.l0
    rw [if_pos (by omega), if_pos (by omega), if_pos (by simp; omega), hw, hx]
    have := stairs_l0 a b l hl d (j + 1) (by omega)
    rw [List.take_add_one, List.getElem?_eq_getElem hj, List.map_append] at this
    exact this
theorem stairs_calls (L st : Int) (A : Option Addr) (c : Nat) (l : List S43) (w : World) (hr : Kd.C k43 w A l.length l) (hc : l.length ≤ c) (hl : l.length < 8796093022208) (xs : List S67) (hx : l.map up = xs) :
    Calls Try.prog 19 #[.agg #[.int .i64 L, .int .i64 st, .slice A l.length c]] w fun e w' => (∃ A' c', e = .returned (.agg #[.int .i64 L, .int .i64 st, .slice A' xs.length c']) ∧ Aside0 (Kd.C k67 w' A' xs.length xs ∧ xs.length ≤ c')) ∧ Below w.heap.size w w' := by
  subst hx
  refine (tensilelaw04_Stairs.calls (l.length + 1) L st A c l L st (l.map up) w hr hc (by have := stairs_l0 L st l hl l.length 0 (by omega); unfold tensilelaw04_Stairs.f; simpa using this)).mono ?_
  rintro e w' ⟨v, rfl, hR, hb⟩
  obtain ⟨A', c', rfl, hl', hC⟩ := Kd.R_reads hR
  exact ⟨⟨A', c', rfl, ⟨hC, hl'⟩⟩, hb⟩
theorem u8_range {x : Int} (h : (Lit.int .u8 x).wf = true) : 0 ≤ x ∧ x < 256 := by
  simp [Lit.wf, IntKind.min, IntKind.max, IntKind.signed, IntKind.bits] at h
  omega
end Go.Proofs.Ytkglggggmlnleaa.Print
