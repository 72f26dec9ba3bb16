/- Plain laws of histories: what becomes of them where runs become lost, are stopped, or all is turned round; ranks of lists; spans. -/
import Derived.Test.YtkglggggmlnleaaEn
import Derived.Test.YtkglggggmlnleaaMi
import Derived.Test.YtkglggggmlnleaaPr
namespace Go.Proofs.Ytkglggggmlnleaa.Print
open Go.RowKit Go.Proofs.YtkglggggmlnleaaW.PrintWords Go.Proofs.YtkglggggmlnleaaW.PrintLast Go.Proofs.YtkglggggmlnleaaW.PrintMore
set_option linter.unusedVariables false
set_option linter.unusedSimpArgs false
/-! ### Weaker runs have more histories -/
/-! ### What all histories have -/
theorem hists_all (L : Int) : ∀ (xs : List S67) (l : Int), 0 ≤ l → l < L → ∀ h ∈ hists L l xs, ∀ p ∈ h, 0 ≤ p.1 ∧ p.1 < 3 ∧ 0 ≤ p.2 ∧ p.2 < L
  | [], l, h0, h1, h, hh, p, hp => by simp [hists] at hh; subst hh; simp at hp
  | x :: xs, l, h0, h1, h, hh, p, hp => by
    have hn : ∀ r : Int, 0 ≤ nxt L l r ∧ nxt L l r < L := fun r => by unfold nxt; split; omega; split; omega; omega
    simp only [hists, List.mem_flatMap] at hh
    obtain ⟨r, hr, hh⟩ := hh
    have hr3 : 0 ≤ r ∧ r < 3 := by simp at hr; omega
    split at hh
    · obtain ⟨g, hg, rfl⟩ := List.mem_map.1 hh
      rcases List.mem_cons.1 hp with rfl | hp
      · exact ⟨hr3.1, hr3.2, h0, h1⟩
      · exact hists_all L xs _ (hn r).1 (hn r).2 g hg p hp
    · simp at hh
/-- The history of some results. -/
def histOf (L : Int) : Int → List Int → List (Int × Int)
  | _, [] => []
  | l, r :: rs => (r, l) :: histOf L (nxt L l r) rs
theorem hists_iff (L : Int) : ∀ (xs : List S67) (l : Int) (h : List (Int × Int)), h ∈ hists L l xs ↔ h.length = xs.length ∧ h = histOf L l (h.map (·.1)) ∧ (∀ p ∈ h, 0 ≤ p.1 ∧ p.1 < 3) ∧ walkB L l xs (h.map (·.1)) = true
  | [], l, h => by
    simp only [hists, List.mem_singleton, List.length_nil]
    constructor
    · rintro rfl; simp [histOf, walkB]
    · rintro ⟨h0, _⟩; exact List.eq_nil_of_length_eq_zero h0
  | x :: xs, l, h => by
    simp only [hists, List.mem_flatMap]
    constructor
    · rintro ⟨r, hr, hh⟩
      have hr3 : 0 ≤ r ∧ r < 3 := by simp at hr; omega
      split at hh
      · rename_i hm
        obtain ⟨g, hg, rfl⟩ := List.mem_map.1 hh
        obtain ⟨a1, a2, a3, a4⟩ := (hists_iff L xs _ g).1 hg
        refine ⟨by simp [a1], ?_, ?_, ?_⟩
        · simp only [List.map_cons, histOf]
          rw [← a2]
        · intro p hp
          rcases List.mem_cons.1 hp with rfl | hp
          · exact hr3
          · exact a3 p hp
        · simp [walkB, hm, a4, hr3.2]
      · simp at hh
    · rintro ⟨a1, a2, a3, a4⟩
      match h, a1 with
      | p :: g, a1 =>
        have hp := a3 p (by simp)
        simp only [List.map_cons, histOf, List.cons.injEq] at a2
        simp only [List.map_cons, walkB, Bool.and_eq_true] at a4
        refine ⟨p.1, by simp; omega, ?_⟩
        rw [a2.1] at *
        rw [if_pos a4.1.2]
        refine List.mem_map.2 ⟨g, (hists_iff L xs _ g).2 ⟨by simpa using a1, a2.2, fun q hq => a3 q (by simp [hq]), a4.2⟩, rfl⟩
/-! ### Ranks -/
theorem rs_sorted (l : List Int) : (rising l).Pairwise (· ≤ ·) := by
  have := List.pairwise_mergeSort (le := fun x y : Int => decide (x ≤ y)) (fun a b c => by simp; omega) (fun a b => by simp; omega) l
  exact this.imp (fun h => by simpa using h)
theorem rs_perm (l : List Int) : (rising l).Perm l := List.mergeSort_perm l _
theorem sorted_eq {l m : List Int} (hl : l.Pairwise (· ≤ ·)) (hm : m.Pairwise (· ≤ ·)) (hp : l.Perm m) : l = m :=
  List.Perm.eq_of_pairwise (fun a b _ _ h1 h2 => by omega) hl hm hp
/-! ### The best history -/
/-! ### The span of some numbers -/
theorem sp_mem : ∀ (ms : List Int), ms ≠ [] → (sp ms).1 ∈ ms ∧ (sp ms).2 ∈ ms ∧ ∀ m ∈ ms, (sp ms).1 ≤ m ∧ m ≤ (sp ms).2 := by
  suffices ∀ (r : List Int) (a b : Int), a ≤ b → let q := r.foldl (fun p n => ((min p.1 n, max p.2 n) : Int × Int)) (a, b); (q.1 = a ∨ q.1 ∈ r) ∧ (q.2 = b ∨ q.2 ∈ r) ∧ q.1 ≤ a ∧ b ≤ q.2 ∧ ∀ m ∈ r, q.1 ≤ m ∧ m ≤ q.2 by
    intro ms hn
    match ms, hn with
    | m :: r, _ =>
      obtain ⟨h1, h2, h3, h4, h5⟩ := this r m m (Int.le_refl _)
      refine ⟨?_, ?_, ?_⟩
      · rcases h1 with h1 | h1
        · show (r.foldl _ (m, m)).1 ∈ _; rw [h1]; simp
        · exact List.mem_cons_of_mem _ h1
      · rcases h2 with h2 | h2
        · show (r.foldl _ (m, m)).2 ∈ _; rw [h2]; simp
        · exact List.mem_cons_of_mem _ h2
      · intro n hm
        rcases List.mem_cons.1 hm with rfl | hm
        · exact ⟨h3, h4⟩
        · exact h5 n hm
  intro r
  induction r with
  | nil => intro a b hab; exact ⟨.inl rfl, .inl rfl, Int.le_refl _, Int.le_refl _, by simp⟩
  | cons n r ih =>
    intro a b hab
    obtain ⟨h1, h2, h3, h4, h5⟩ := ih (min a n) (max b n) (by omega)
    simp only [List.foldl_cons]
    refine ⟨?_, ?_, by omega, by omega, ?_⟩
    · rcases h1 with h1 | h1
      · rcases (show min a n = a ∨ min a n = n by omega) with e | e
        · exact .inl (h1.trans e)
        · exact .inr (by rw [h1, e]; simp)
      · exact .inr (by simp [h1])
    · rcases h2 with h2 | h2
      · rcases (show max b n = b ∨ max b n = n by omega) with e | e
        · exact .inl (h2.trans e)
        · exact .inr (by rw [h2, e]; simp)
      · exact .inr (by simp [h2])
    · intro m hm
      rcases List.mem_cons.1 hm with rfl | hm
      · constructor <;> omega
      · exact h5 m hm
/-! ### A stopped run is put in -/
/-! ### All turned round -/
/-! ### Bounds and truths -/
end Go.Proofs.Ytkglggggmlnleaa.Print
