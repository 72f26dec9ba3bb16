/- The law: one more lost run. -/
import Derived.Test.YtkglggggmlnleaaPu0
import Derived.Test.YtkglggggmlnleaaXStairMoreL
namespace Go.Proofs.Ytkglggggmlnleaa.Print
open Go.RowKit Go.Proofs.YtkglggggmlnleaaW.PrintWords Go.Proofs.YtkglggggmlnleaaW.PrintLast Go.Proofs.YtkglggggmlnleaaW.PrintMore
set_option linter.unusedVariables false
set_option linter.unusedSimpArgs false
theorem hists_one (L l : Int) (y : S67) (hy : ∀ r : Int, mayB y l r = true) : (hists L l [y]).length = 3 := by
  simp [hists, hy]
theorem hists_lost (L : Int) (y : S67) (hy : ∀ l r : Int, mayB y l r = true) : ∀ (xs : List S67) (l : Int), (hists L l (xs ++ [y])).length = 3 * (hists L l xs).length
  | [], l => by
    have : hists L l [] = [[]] := rfl
    rw [List.nil_append, hists_one L l y (hy l), this]; rfl
  | x :: xs, l => by
    rw [List.cons_append]
    simp only [hists, List.flatMap_cons, List.flatMap_nil, List.append_nil, List.length_append]
    have h : ∀ r : Int, (if mayB x l r then (hists L (nxt L l r) (xs ++ [y])).map fun h => (r, l) :: h else []).length = 3 * (if mayB x l r then (hists L (nxt L l r) xs).map fun h => (r, l) :: h else []).length := fun r => by
      split
      · simpa using hists_lost L y hy xs _
      · simp
    rw [h, h, h]
    omega
theorem stairMore_pure (a b : Int) (l : List S43) (wa : (Lit.int .i64 a).wf = true) (wb : (Lit.int .i64 b).wf = true) (wl : ∀ x ∈ l, okRun x) (hm : l.length * 16 ≤ 140737488351232) : ∃ k, tensilelaw04_StairMore.f k a b l = some true := by
  refine ⟨2 * l.length + 10, ?_⟩
  have hx : (([] : List S43) ++ l ++ [(⟨-1, 3⟩ : S43)]).map up = l.map up ++ [⟨-1, 3⟩] := by simp [up]
  have hxl : (([] : List S43) ++ l ++ [(⟨-1, 3⟩ : S43)]).length = l.length + 1 := by simp
  unfold tensilelaw04_StairMore.f
  simp only [Option.bind_some]
  rw [if_pos (by simp; omega), if_pos (by simp; omega), ready_f a b l (by omega) wa _ (by omega)]
  have hj0 : ∀ c, (c = false → checkI a b (l.map up) = 0 ∧ checkI a b (l.map up ++ [⟨-1, 3⟩]) = 0) → tensilelaw04_StairMore.j0 (2 * l.length + 10) c a b l a b (([] : List S43) ++ l ++ [(⟨-1, 3⟩ : S43)]) = some true := by
    intro c hc
    rw [show 2 * l.length + 10 = (2 * l.length + 9) + 1 by omega]
    rw [tensilelaw04_StairMore.j0]
    by_cases hct : c = true
    · rw [if_pos hct, awake_f]; rfl
    · rw [if_neg hct]
      obtain ⟨h1, h2⟩ := hc (by simpa using hct)
      rw [stairs_f a b l (by omega) _ (by omega)]
      simp only [Option.bind_some]
      rw [stairs_f a b _ (by omega) _ (by omega), hx]
      unfold stair_Histories.f
      simp only [Option.bind_some, awake_f]
      have hlen := hists_lost a ⟨-1, 3⟩ (fun l r => by simp [mayB]) (l.map up) b
      have k5 := (check_ok h1).2.2.2.2
      have hmany : (hists a b (l.map up)).length ≤ 4782969 := Nat.le_trans (hists_many a _ b) (Nat.le_trans (Nat.pow_le_pow_right (by omega) k5) (by decide))
      by_cases hn : hists a b (l.map up) = []
      · have hn2 : hists a b (l.map up ++ [⟨-1, 3⟩]) = [] := by
          apply List.eq_nil_of_length_eq_zero
          rw [hlen, hn]; rfl
        have p1 : possI a b (l.map up) = 9 := by unfold possI; rw [if_pos h1, if_pos hn]
        have p2 : possI a b (l.map up ++ [⟨-1, 3⟩]) = 9 := by unfold possI; rw [if_pos h2, if_pos hn2]
        have m1 : manyI a b (l.map up) = 0 := by unfold manyI; rw [p1]; rfl
        have m2 : manyI a b (l.map up ++ [⟨-1, 3⟩]) = 0 := by unfold manyI; rw [p2]; rfl
        rw [p1, p2, m1, m2]
        decide +kernel
      · have hn2 : hists a b (l.map up ++ [⟨-1, 3⟩]) ≠ [] := fun e => by
          have := congrArg List.length e
          rw [hlen] at this
          have h0 : (hists a b (l.map up)).length ≠ 0 := fun e => hn (List.eq_nil_of_length_eq_zero e)
          simp only [List.length_nil] at this
          omega
        have p1 : possI a b (l.map up) = 0 := by unfold possI; rw [if_pos h1, if_neg hn]
        have p2 : possI a b (l.map up ++ [⟨-1, 3⟩]) = 0 := by unfold possI; rw [if_pos h2, if_neg hn2]
        have m1 : manyI a b (l.map up) = (hists a b (l.map up)).length := by unfold manyI; rw [if_pos p1]
        have m2 : manyI a b (l.map up ++ [⟨-1, 3⟩]) = 3 * (hists a b (l.map up)).length := by unfold manyI; rw [if_pos p2, hlen]; push_cast; rfl
        have e : wrap64 (3 * ((hists a b (l.map up)).length : Int)) = 3 * ((hists a b (l.map up)).length : Int) := by unfold wrap64; omega
        rw [p1, p2, m1, m2, e, if_pos rfl, if_pos rfl, if_pos rfl]
  simp only [Option.bind_some]
  by_cases h1 : checkI a b (l.map up) = 0
  · rw [if_pos (by simpa using h1), ready_f a b _ (by omega) wa _ (by omega), hx]
    simp only [Option.bind_some]
    exact hj0 _ (fun h => ⟨h1, by simpa using h⟩)
  · rw [if_neg (by simpa using h1)]
    exact hj0 _ (fun h => by cases h)
theorem stairMore_walk (a b : Int) (A : Option Addr) (c : Nat) (l : List S43) (w : World) (hr : Kd.C k43 w A l.length l) (hc : l.length ≤ c) (wa : (Lit.int .i64 a).wf = true) (wb : (Lit.int .i64 b).wf = true) (wl : ∀ x ∈ l, okRun x) (hm : l.length * 16 ≤ 140737488351232) :
    Calls Try.prog 6 #[.agg #[.int .i64 a, .int .i64 b, .slice A l.length c]] w fun e w' => e = .returned (.bool true) ∧ Below w.heap.size w w' := by
  obtain ⟨k, hk⟩ := stairMore_pure a b l wa wb wl hm
  exact tensilelaw04_StairMore.calls k a b A c l true w hr hc hk
end Go.Proofs.Ytkglggggmlnleaa.Print
