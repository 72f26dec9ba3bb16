/- What a truth is, and sorted numbers, as the document says it. -/
import Derived.Test.YtkglggggmlnleaaHm
import Derived.Test.YtkglggggmlnleaaLv
namespace Go.Proofs.Ytkglggggmlnleaa.Print
open Go.RowKit Go.Proofs.YtkglggggmlnleaaW.PrintWords Go.Proofs.YtkglggggmlnleaaW.PrintLast Go.Proofs.YtkglggggmlnleaaW.PrintMore
set_option linter.unusedVariables false
set_option linter.unusedSimpArgs false
/-! ### Sorting by insertion, as a loop does it: rp: what stands before x, backwards -/
def sinkF : List Int → Int → List Int → List Int
  | [], x, s => x :: s
  | y :: rp, x, s => if x < y then sinkF rp x (y :: s) else (y :: rp).reverse ++ x :: s
/-- From place k on. -/
def insF : Nat → List Int → List Int → List Int
  | 0, a, _ => a
  | n + 1, a, [] => a
  | n + 1, a, x :: s => insF n (sinkF a.reverse x []) s
theorem sinkF_perm : ∀ (rp : List Int) (x : Int) (s : List Int), (sinkF rp x s).Perm (rp.reverse ++ x :: s)
  | [], x, s => by simp [sinkF]
  | y :: rp, x, s => by
    unfold sinkF
    split
    · refine (sinkF_perm rp x (y :: s)).trans ?_
      simp only [List.reverse_cons, List.append_assoc, List.singleton_append]
      exact (List.Perm.swap y x s).append_left _
    · exact List.Perm.refl _
theorem sinkF_tail : ∀ (rp : List Int) (x : Int) (s t : List Int), sinkF rp x (s ++ t) = sinkF rp x s ++ t
  | [], x, s, t => rfl
  | y :: rp, x, s, t => by
    unfold sinkF
    split
    · rw [← List.cons_append]; exact sinkF_tail rp x (y :: s) t
    · simp
theorem sinkF_sorted : ∀ (rp : List Int) (x : Int) (s : List Int), (rp.reverse ++ s).Pairwise (· ≤ ·) → (∀ z ∈ s, x ≤ z) → (sinkF rp x s).Pairwise (· ≤ ·)
  | [], x, s, h, hx => by
    unfold sinkF
    exact List.pairwise_cons.2 ⟨hx, by simpa using h⟩
  | y :: rp, x, s, h, hx => by
    unfold sinkF
    have h2 : (rp.reverse ++ y :: s).Pairwise (· ≤ ·) := by simpa using h
    split
    · rename_i hlt
      refine sinkF_sorted rp x (y :: s) h2 ?_
      intro z hz
      rcases List.mem_cons.1 hz with rfl | hz
      · omega
      · exact hx z hz
    · rename_i hlt
      rw [List.pairwise_append] at h ⊢
      refine ⟨h.1, List.pairwise_cons.2 ⟨hx, h.2.1⟩, ?_⟩
      intro a ha b hb
      rcases List.mem_cons.1 hb with rfl | hb
      · have : a ≤ y := by
          rw [List.pairwise_append] at h2
          rcases List.mem_cons.1 (List.mem_reverse.1 ha) with rfl | ha
          · omega
          · exact h2.2.2 a (List.mem_reverse.2 ha) y (by simp)
        omega
      · exact h.2.2 a ha b hb
theorem insF_spec : ∀ (n : Nat) (a s : List Int), a.Pairwise (· ≤ ·) → s.length ≤ n → (insF n a s).Pairwise (· ≤ ·) ∧ (insF n a s).Perm (a ++ s)
  | 0, a, s, h, hn => by
    obtain rfl : s = [] := List.eq_nil_of_length_eq_zero (by omega)
    simp [insF, h]
  | n + 1, a, [], h, hn => by simp [insF, h]
  | n + 1, a, x :: s, h, hn => by
    have h1 := sinkF_sorted a.reverse x [] (by simpa using h) (by simp)
    have h2 := sinkF_perm a.reverse x []
    rw [List.reverse_reverse] at h2
    obtain ⟨h3, h4⟩ := insF_spec n (sinkF a.reverse x []) s h1 (by simpa using hn)
    refine ⟨h3, h4.trans ?_⟩
    have := h2.append_right s
    simpa using this
theorem insF_rising (l : List Int) : insF l.length [] l = rising l := by
  obtain ⟨h1, h2⟩ := insF_spec l.length [] l (by simp) (Nat.le_refl _)
  exact sorted_eq h1 (rs_sorted l) (h2.trans (rs_perm l).symm)

theorem swap_list (rp t : List Int) (x y : Int) : ((rp.reverse ++ y :: x :: t).set (rp.length + 1) y).set rp.length x = rp.reverse ++ x :: y :: t := by
  have e1 : (rp.reverse ++ y :: x :: t).set (rp.length + 1) y = rp.reverse ++ y :: y :: t := by
    rw [List.set_append_right _ _ (by simp)]
    simp
  rw [e1, List.set_append_right _ _ (by simp)]
  simp
theorem get_mid (rp t : List Int) (x : Int) : rdOf 0 (rp.reverse ++ x :: t) (rp.length : Int) = x := by
  unfold rdOf
  rw [Int.toNat_natCast, List.getD_eq_getElem?_getD, List.getElem?_append_right (by simp)]
  simp
end Go.Proofs.Ytkglggggmlnleaa.Print
