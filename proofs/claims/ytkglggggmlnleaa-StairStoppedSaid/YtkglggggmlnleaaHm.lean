/- Plain laws of histories: what becomes of them where runs become lost, are stopped, or all is turned round; ranks of lists; spans. -/
import Derived.Test.YtkglggggmlnleaaEn
import Derived.Test.YtkglggggmlnleaaMi
import Derived.Test.YtkglggggmlnleaaPr
namespace Go.Proofs.Ytkglggggmlnleaa.Print
open Go.RowKit Go.Proofs.YtkglggggmlnleaaW.PrintWords Go.Proofs.YtkglggggmlnleaaW.PrintLast Go.Proofs.YtkglggggmlnleaaW.PrintMore
set_option linter.unusedVariables false
set_option linter.unusedSimpArgs false
/-! ### Weaker runs have more histories -/
/-! ### What all histories have -/
theorem hists_all (L : Int) : ∀ (xs : List S67) (l : Int), 0 ≤ l → l < L → ∀ h ∈ hists L l xs, ∀ p ∈ h, 0 ≤ p.1 ∧ p.1 < 3 ∧ 0 ≤ p.2 ∧ p.2 < L
  | [], l, h0, h1, h, hh, p, hp => by simp [hists] at hh; subst hh; simp at hp
  | x :: xs, l, h0, h1, h, hh, p, hp => by
    have hn : ∀ r : Int, 0 ≤ nxt L l r ∧ nxt L l r < L := fun r => by unfold nxt; split; omega; split; omega; omega
    simp only [hists, List.mem_flatMap] at hh
    obtain ⟨r, hr, hh⟩ := hh
    have hr3 : 0 ≤ r ∧ r < 3 := by simp at hr; omega
    split at hh
    · obtain ⟨g, hg, rfl⟩ := List.mem_map.1 hh
      rcases List.mem_cons.1 hp with rfl | hp
      · exact ⟨hr3.1, hr3.2, h0, h1⟩
      · exact hists_all L xs _ (hn r).1 (hn r).2 g hg p hp
    · simp at hh
/-! ### Ranks -/
theorem rs_sorted (l : List Int) : (rising l).Pairwise (· ≤ ·) := by
  have := List.pairwise_mergeSort (le := fun x y : Int => decide (x ≤ y)) (fun a b c => by simp; omega) (fun a b => by simp; omega) l
  exact this.imp (fun h => by simpa using h)
theorem rs_perm (l : List Int) : (rising l).Perm l := List.mergeSort_perm l _
theorem sorted_eq {l m : List Int} (hl : l.Pairwise (· ≤ ·)) (hm : m.Pairwise (· ≤ ·)) (hp : l.Perm m) : l = m :=
  List.Perm.eq_of_pairwise (fun a b _ _ h1 h2 => by omega) hl hm hp
/-! ### The best history -/
/-! ### The span of some numbers -/
/-! ### A stopped run is put in -/
/-- The history with a stopped run, behind k others. -/
def insP (L : Int) : Nat → Int → List (Int × Int) → List (Int × Int)
  | 0, l, h => (2, l) :: h
  | _ + 1, _, [] => []
  | k + 1, l, p :: h => p :: insP L k (nxt L l p.1) h
/-- The runs with one more. -/
def putAt {α : Type} : Nat → α → List α → List α
  | 0, x, xs => x :: xs
  | _ + 1, _, [] => []
  | k + 1, x, y :: xs => y :: putAt k x xs
theorem putAt_eq {α : Type} (x : α) : ∀ (k : Nat) (xs : List α), k ≤ xs.length → putAt k x xs = xs.take k ++ x :: xs.drop k
  | 0, xs, h => rfl
  | k + 1, [], h => by simp at h
  | k + 1, y :: xs, h => by simp [putAt, putAt_eq x k xs (by simpa using h)]
theorem hists_stop (L : Int) : ∀ (k : Nat) (xs : List S67) (l f : Int), k ≤ xs.length → (∀ x, xs[k]? = some x → f = x.f0) → (k = xs.length → f = -1) → hists L l (putAt k ⟨f, 2⟩ xs) = (hists L l xs).map (insP L k l)
  | 0, [], l, f, hk, h1, h2 => by
    have := h2 rfl
    subst this
    simp [putAt, hists, mayB, insP]
  | 0, x :: xs, l, f, hk, h1, h2 => by
    have := h1 x rfl
    subst this
    have hn : nxt L l 2 = l := by unfold nxt; simp
    have m0 : mayB ⟨x.f0, 2⟩ l 0 = false := by simp [mayB]
    have m1 : mayB ⟨x.f0, 2⟩ l 1 = false := by simp [mayB]
    have m2 : mayB ⟨x.f0, 2⟩ l 2 = (x.f0 == -1 || x.f0 == l) := by simp [mayB]
    have hl : hists L l (putAt 0 ⟨x.f0, 2⟩ (x :: xs)) = if (x.f0 == -1 || x.f0 == l) = true then (hists L l (x :: xs)).map ((2, l) :: ·) else [] := by
      show hists L l ((⟨x.f0, 2⟩ : S67) :: x :: xs) = _
      rw [hists]
      simp only [List.flatMap_cons, List.flatMap_nil, List.append_nil, m0, m1, m2, hn]
      simp
    rw [hl]
    by_cases h : (x.f0 == -1 || x.f0 == l) = true
    · rw [if_pos h]; rfl
    · have hm : ∀ r : Int, mayB x l r = false := fun r => by unfold mayB; rw [Bool.eq_false_iff.2 h]; rfl
      rw [if_neg h]
      simp [hists, hm]
  | k + 1, [], l, f, hk, h1, h2 => by simp at hk
  | k + 1, x :: xs, l, f, hk, h1, h2 => by
    have ih := fun l => hists_stop L k xs l f (by simpa using hk) (fun y hy => h1 y (by simpa using hy)) (fun e => h2 (by simp [e]))
    simp only [putAt, hists, List.flatMap_cons, List.flatMap_nil, List.append_nil, List.map_append]
    have hp : ∀ r : Int, (if mayB x l r = true then (hists L (nxt L l r) (putAt k ⟨f, 2⟩ xs)).map ((r, l) :: ·) else []) = (if mayB x l r = true then (hists L (nxt L l r) xs).map ((r, l) :: ·) else []).map (insP L (k + 1) l) := fun r => by
      split
      · rw [ih, List.map_map, List.map_map]
        rfl
      · rfl
    rw [hp, hp, hp]
theorem insP_lo (L : Int) : ∀ (k : Nat) (l : Int) (h : List (Int × Int)) (i : Nat), k ≤ h.length → i < k → (insP L k l h)[i]? = h[i]?
  | k + 1, l, p :: h, 0, hk, hi => rfl
  | k + 1, l, p :: h, i + 1, hk, hi => by
    simp only [insP, List.getElem?_cons_succ]
    exact insP_lo L k _ h i (by simpa using hk) (by omega)
  | k + 1, l, [], i, hk, hi => by simp at hk
theorem insP_hi (L : Int) : ∀ (k : Nat) (l : Int) (h : List (Int × Int)) (i : Nat), k ≤ h.length → k ≤ i → (insP L k l h)[i + 1]? = h[i]?
  | 0, l, h, i, hk, hi => by simp [insP]
  | k + 1, l, p :: h, 0, hk, hi => by omega
  | k + 1, l, p :: h, i + 1, hk, hi => by
    simp only [insP, List.getElem?_cons_succ]
    exact insP_hi L k _ h i (by simpa using hk) (by omega)
  | k + 1, l, [], i, hk, hi => by simp at hk
theorem insP_filter (L : Int) (r : Nat) (hr : r < 2) : ∀ (k : Nat) (l : Int) (h : List (Int × Int)), k ≤ h.length → (insP L k l h).filter (fun p => decide (p.1 = (r : Int))) = h.filter fun p => decide (p.1 = (r : Int))
  | 0, l, h, hk => by
    have : decide ((2 : Int) = (r : Int)) = false := by simp; omega
    simp [insP, this]
  | k + 1, l, p :: h, hk => by simp only [insP, List.filter_cons, insP_filter L r hr k _ h (by simpa using hk)]
  | k + 1, l, [], hk => by simp at hk
/-! ### All turned round -/
/-! ### Bounds and truths -/
end Go.Proofs.Ytkglggggmlnleaa.Print
