/- Plain laws of the spans: what becomes of them with more histories; their ends. -/
import Derived.Test.YtkglggggmlnleaaHm
import Derived.Test.YtkglggggmlnleaaRk
namespace Go.Proofs.Ytkglggggmlnleaa.Print
open Go.RowKit Go.Proofs.YtkglggggmlnleaaW.PrintWords Go.Proofs.YtkglggggmlnleaaW.PrintLast Go.Proofs.YtkglggggmlnleaaW.PrintMore
set_option linter.unusedVariables false
set_option linter.unusedSimpArgs false
theorem endN_spec (L st : Int) (l : List S67) (k : Int) (high : Bool) (hn : hists L st l ≠ []) : ∃ b, bestOf L high k (hists L st l) = some b ∧ b ∈ hists L st l ∧ endN L st l k high = keyOf L high k b ∧ ∀ h ∈ hists L st l, better high (keyOf L high k h) (keyOf L high k b) = false := by
  obtain ⟨b, h1, h2, h3⟩ := best_spec L high k (hists L st l) hn
  exact ⟨b, h1, h2, by unfold endN; rw [h1], h3⟩
theorem endN_lo {L st : Int} {l : List S67} {k : Int} {h : List (Int × Int)} (hh : h ∈ hists L st l) : endN L st l k false ≤ keyOf L false k h := by
  obtain ⟨b, _, _, h2, h3⟩ := endN_spec L st l k false (List.ne_nil_of_mem hh)
  have := h3 h hh
  rw [h2]
  unfold better at this
  simp at this
  omega
theorem endN_hi {L st : Int} {l : List S67} {k : Int} {h : List (Int × Int)} (hh : h ∈ hists L st l) : keyOf L true k h ≤ endN L st l k true := by
  obtain ⟨b, _, _, h2, h3⟩ := endN_spec L st l k true (List.ne_nil_of_mem hh)
  have := h3 h hh
  rw [h2]
  unfold better at this
  simp at this
  omega
theorem poss_mk {L st : Int} {l : List S67} (h : checkI L st l = 0) (h2 : hists L st l ≠ []) : possI L st l = 0 := by unfold possI; rw [if_pos h, if_neg h2]
theorem ask_0 {L st : Int} {l : List S67} {k : Int} (h : possI L st l = 0) (h0 : 0 ≤ k) (h1 : k < l.length) : askE L st l k = 0 := by unfold askE; rw [if_pos h, if_pos ⟨h0, h1⟩]
theorem rank_0 {L st : Int} {l : List S67} {k : Int} (h : askE L st l k = 0) : rankR L st l k = (endN L st l k false, endN L st l k true) := by unfold rankR; rw [if_pos h]
theorem mid_0 {L st : Int} {l : List S67} (h : possI L st l = 0) : midE L st l = (if mids (hists L st l) = [] then 7 else 0) := by unfold midE; rw [if_pos h]
end Go.Proofs.Ytkglggggmlnleaa.Print
