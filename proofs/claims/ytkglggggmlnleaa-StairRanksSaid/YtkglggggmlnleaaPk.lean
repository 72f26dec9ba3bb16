/- Plain laws of the spans: what becomes of them with more histories; their ends. -/
import Derived.Test.YtkglggggmlnleaaHm
import Derived.Test.YtkglggggmlnleaaRk
namespace Go.Proofs.Ytkglggggmlnleaa.Print
open Go.RowKit Go.Proofs.YtkglggggmlnleaaW.PrintWords Go.Proofs.YtkglggggmlnleaaW.PrintLast Go.Proofs.YtkglggggmlnleaaW.PrintMore
set_option linter.unusedVariables false
set_option linter.unusedSimpArgs false
theorem endN_spec (L st : Int) (l : List S67) (k : Int) (high : Bool) (hn : hists L st l ≠ []) : ∃ b, bestOf L high k (hists L st l) = some b ∧ b ∈ hists L st l ∧ endN L st l k high = keyOf L high k b ∧ ∀ h ∈ hists L st l, better high (keyOf L high k h) (keyOf L high k b) = false := by
  obtain ⟨b, h1, h2, h3⟩ := best_spec L high k (hists L st l) hn
  exact ⟨b, h1, h2, by unfold endN; rw [h1], h3⟩
theorem endN_lo {L st : Int} {l : List S67} {k : Int} {h : List (Int × Int)} (hh : h ∈ hists L st l) : endN L st l k false ≤ keyOf L false k h := by
  obtain ⟨b, _, _, h2, h3⟩ := endN_spec L st l k false (List.ne_nil_of_mem hh)
  have := h3 h hh
  rw [h2]
  unfold better at this
  simp at this
  omega
theorem endN_hi {L st : Int} {l : List S67} {k : Int} {h : List (Int × Int)} (hh : h ∈ hists L st l) : keyOf L true k h ≤ endN L st l k true := by
  obtain ⟨b, _, _, h2, h3⟩ := endN_spec L st l k true (List.ne_nil_of_mem hh)
  have := h3 h hh
  rw [h2]
  unfold better at this
  simp at this
  omega
theorem poss_0 {L st : Int} {l : List S67} (h : possI L st l = 0) : checkI L st l = 0 ∧ hists L st l ≠ [] := poss_ok h
theorem poss_mk {L st : Int} {l : List S67} (h : checkI L st l = 0) (h2 : hists L st l ≠ []) : possI L st l = 0 := by unfold possI; rw [if_pos h, if_neg h2]
theorem poss_09 {L st : Int} {l : List S67} (h : checkI L st l = 0) : possI L st l = 0 ∨ possI L st l = 9 := by
  unfold possI; rw [if_pos h]; split
  · exact .inr rfl
  · exact .inl rfl
theorem ask_0 {L st : Int} {l : List S67} {k : Int} (h : possI L st l = 0) (h0 : 0 ≤ k) (h1 : k < l.length) : askE L st l k = 0 := by unfold askE; rw [if_pos h, if_pos ⟨h0, h1⟩]
theorem ask_n {L st : Int} {l : List S67} {k : Int} (h : possI L st l ≠ 0) : askE L st l k = possI L st l := by unfold askE; rw [if_neg h]
theorem rank_0 {L st : Int} {l : List S67} {k : Int} (h : askE L st l k = 0) : rankR L st l k = (endN L st l k false, endN L st l k true) := by unfold rankR; rw [if_pos h]
theorem many_0 {L st : Int} {l : List S67} (h : possI L st l = 0) : manyI L st l = (hists L st l).length := by unfold manyI; rw [if_pos h]
theorem many_n {L st : Int} {l : List S67} (h : possI L st l ≠ 0) : manyI L st l = 0 := by unfold manyI; rw [if_neg h]
theorem mid_0 {L st : Int} {l : List S67} (h : possI L st l = 0) : midE L st l = (if mids (hists L st l) = [] then 7 else 0) := by unfold midE; rw [if_pos h]
theorem mid_n {L st : Int} {l : List S67} (h : possI L st l ≠ 0) : midE L st l = possI L st l := by unfold midE; rw [if_neg h]
theorem mids_sub {a b : List (List (Int × Int))} (h : a.Sublist b) : (mids a).Sublist (mids b) := h.filterMap _
/-- With more histories. -/
theorem more_law {L st : Int} {xs ys : List S67} (hsub : (hists L st xs).Sublist (hists L st ys)) (hl : xs.length = ys.length) (hx : possI L st xs = 0) (hy : checkI L st ys = 0) :
    possI L st ys = 0 ∧ manyI L st xs ≤ manyI L st ys ∧ (∀ k : Int, 0 ≤ k → k < xs.length → (rankR L st ys k).1 ≤ (rankR L st xs k).1 ∧ (rankR L st xs k).2 ≤ (rankR L st ys k).2) ∧ (midE L st xs = 0 → midE L st ys = 0 ∧ (midR L st ys).1 ≤ (midR L st xs).1 ∧ (midR L st xs).2 ≤ (midR L st ys).2) := by
  obtain ⟨h1, h2⟩ := poss_0 hx
  have h3 : hists L st ys ≠ [] := fun e => by rw [e] at hsub; exact h2 (List.sublist_nil.1 hsub)
  have hy0 := poss_mk hy h3
  refine ⟨hy0, ?_, fun k k0 k1 => ?_, fun hm => ?_⟩
  · rw [many_0 hx, many_0 hy0]
    have := hsub.length_le
    omega
  · rw [rank_0 (ask_0 hx k0 k1), rank_0 (ask_0 hy0 k0 (by omega))]
    constructor
    · obtain ⟨b, _, hb, e, _⟩ := endN_spec L st xs k false h2
      show endN L st ys k false ≤ endN L st xs k false
      rw [e]
      exact endN_lo (hsub.subset hb)
    · obtain ⟨b, _, hb, e, _⟩ := endN_spec L st xs k true h2
      show endN L st xs k true ≤ endN L st ys k true
      rw [e]
      exact endN_hi (hsub.subset hb)
  · rw [mid_0 hx] at hm
    have hn : mids (hists L st xs) ≠ [] := fun e => by rw [if_pos e] at hm; cases hm
    have hs := mids_sub hsub
    have hn2 : mids (hists L st ys) ≠ [] := fun e => by rw [e] at hs; exact hn (List.sublist_nil.1 hs)
    have e1 : midE L st xs = 0 := by rw [mid_0 hx, if_neg hn]
    have e2 : midE L st ys = 0 := by rw [mid_0 hy0, if_neg hn2]
    refine ⟨e2, ?_⟩
    unfold midR
    rw [if_pos e1, if_pos e2]
    exact sp_sub (fun m hm => hs.subset hm) hn
theorem one_law {L st : Int} {xs : List S67} (h3 : ∀ x ∈ xs, x.f1 ≠ 3) : manyI L st xs ≤ 1 ∧ (possI L st xs = 0 → manyI L st xs = 1) := by
  have hle := hists_le1 L xs st h3
  by_cases h : possI L st xs = 0
  · have hn := (poss_0 h).2
    have : (hists L st xs).length ≠ 0 := fun e => hn (List.eq_nil_of_length_eq_zero e)
    rw [many_0 h]
    exact ⟨by omega, fun _ => by omega⟩
  · rw [many_n h]
    exact ⟨by omega, fun e => absurd e h⟩
end Go.Proofs.Ytkglggggmlnleaa.Print
