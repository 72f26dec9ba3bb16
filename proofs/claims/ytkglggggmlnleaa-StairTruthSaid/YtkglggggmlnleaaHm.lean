/- Plain laws of histories: what becomes of them where runs become lost, are stopped, or all is turned round; ranks of lists; spans. -/
import Derived.Test.YtkglggggmlnleaaEn
import Derived.Test.YtkglggggmlnleaaMi
import Derived.Test.YtkglggggmlnleaaPr
namespace Go.Proofs.Ytkglggggmlnleaa.Print
open Go.RowKit Go.Proofs.YtkglggggmlnleaaW.PrintWords Go.Proofs.YtkglggggmlnleaaW.PrintLast Go.Proofs.YtkglggggmlnleaaW.PrintMore
set_option linter.unusedVariables false
set_option linter.unusedSimpArgs false
/-! ### Weaker runs have more histories -/
/-! ### What all histories have -/
theorem hists_all (L : Int) : ∀ (xs : List S67) (l : Int), 0 ≤ l → l < L → ∀ h ∈ hists L l xs, ∀ p ∈ h, 0 ≤ p.1 ∧ p.1 < 3 ∧ 0 ≤ p.2 ∧ p.2 < L
  | [], l, h0, h1, h, hh, p, hp => by simp [hists] at hh; subst hh; simp at hp
  | x :: xs, l, h0, h1, h, hh, p, hp => by
    have hn : ∀ r : Int, 0 ≤ nxt L l r ∧ nxt L l r < L := fun r => by unfold nxt; split; omega; split; omega; omega
    simp only [hists, List.mem_flatMap] at hh
    obtain ⟨r, hr, hh⟩ := hh
    have hr3 : 0 ≤ r ∧ r < 3 := by simp at hr; omega
    split at hh
    · obtain ⟨g, hg, rfl⟩ := List.mem_map.1 hh
      rcases List.mem_cons.1 hp with rfl | hp
      · exact ⟨hr3.1, hr3.2, h0, h1⟩
      · exact hists_all L xs _ (hn r).1 (hn r).2 g hg p hp
    · simp at hh
/-- The history of some results. -/
def histOf (L : Int) : Int → List Int → List (Int × Int)
  | _, [] => []
  | l, r :: rs => (r, l) :: histOf L (nxt L l r) rs
theorem histOf_fst (L : Int) : ∀ (rs : List Int) (l : Int), (histOf L l rs).map (·.1) = rs
  | [], _ => rfl
  | r :: rs, l => by simp [histOf, histOf_fst L rs]
theorem histOf_length (L : Int) : ∀ (rs : List Int) (l : Int), (histOf L l rs).length = rs.length
  | [], _ => rfl
  | r :: rs, l => by simp [histOf, histOf_length L rs]
theorem hists_iff (L : Int) : ∀ (xs : List S67) (l : Int) (h : List (Int × Int)), h ∈ hists L l xs ↔ h.length = xs.length ∧ h = histOf L l (h.map (·.1)) ∧ (∀ p ∈ h, 0 ≤ p.1 ∧ p.1 < 3) ∧ walkB L l xs (h.map (·.1)) = true
  | [], l, h => by
    simp only [hists, List.mem_singleton, List.length_nil]
    constructor
    · rintro rfl; simp [histOf, walkB]
    · rintro ⟨h0, _⟩; exact List.eq_nil_of_length_eq_zero h0
  | x :: xs, l, h => by
    simp only [hists, List.mem_flatMap]
    constructor
    · rintro ⟨r, hr, hh⟩
      have hr3 : 0 ≤ r ∧ r < 3 := by simp at hr; omega
      split at hh
      · rename_i hm
        obtain ⟨g, hg, rfl⟩ := List.mem_map.1 hh
        obtain ⟨a1, a2, a3, a4⟩ := (hists_iff L xs _ g).1 hg
        refine ⟨by simp [a1], ?_, ?_, ?_⟩
        · simp only [List.map_cons, histOf]
          rw [← a2]
        · intro p hp
          rcases List.mem_cons.1 hp with rfl | hp
          · exact hr3
          · exact a3 p hp
        · simp [walkB, hm, a4, hr3.2]
      · simp at hh
    · rintro ⟨a1, a2, a3, a4⟩
      match h, a1 with
      | p :: g, a1 =>
        have hp := a3 p (by simp)
        simp only [List.map_cons, histOf, List.cons.injEq] at a2
        simp only [List.map_cons, walkB, Bool.and_eq_true] at a4
        refine ⟨p.1, by simp; omega, ?_⟩
        rw [a2.1] at *
        rw [if_pos a4.1.2]
        refine List.mem_map.2 ⟨g, (hists_iff L xs _ g).2 ⟨by simpa using a1, a2.2, fun q hq => a3 q (by simp [hq]), a4.2⟩, rfl⟩
theorem walk_hist (L l : Int) (xs : List S67) (rs : List Int) (hl : rs.length = xs.length) (hr : ∀ r ∈ rs, 0 ≤ r ∧ r < 3) (hw : walkB L l xs rs = true) : histOf L l rs ∈ hists L l xs := by
  refine (hists_iff L xs l _).2 ⟨by rw [histOf_length, hl], by rw [histOf_fst], fun p hp => ?_, by rw [histOf_fst]; exact hw⟩
  have : p.1 ∈ (histOf L l rs).map (·.1) := List.mem_map_of_mem hp
  rw [histOf_fst] at this
  exact hr _ this
/-! ### Ranks -/
theorem rs_sorted (l : List Int) : (rising l).Pairwise (· ≤ ·) := by
  have := List.pairwise_mergeSort (le := fun x y : Int => decide (x ≤ y)) (fun a b c => by simp; omega) (fun a b => by simp; omega) l
  exact this.imp (fun h => by simpa using h)
theorem rs_perm (l : List Int) : (rising l).Perm l := List.mergeSort_perm l _
theorem rs_len (l : List Int) : (rising l).length = l.length := (rs_perm l).length_eq
theorem sorted_eq {l m : List Int} (hl : l.Pairwise (· ≤ ·)) (hm : m.Pairwise (· ≤ ·)) (hp : l.Perm m) : l = m :=
  List.Perm.eq_of_pairwise (fun a b _ _ h1 h2 => by omega) hl hm hp
def cntLe (v : Int) (l : List Int) : Nat := l.countP fun x => decide (x ≤ v)
theorem sorted_rank (v : Int) : ∀ (s : List Int), s.Pairwise (· ≤ ·) → ∀ k, k < s.length → (s.getD k 0 ≤ v ↔ k < cntLe v s)
  | [], _, k, hk => by simp at hk
  | x :: t, hs, k, hk => by
    obtain ⟨h1, h2⟩ := List.pairwise_cons.1 hs
    have hz : ¬ x ≤ v → cntLe v t = 0 := fun hx => by
      unfold cntLe
      rw [List.countP_eq_zero]
      intro y hy
      have := h1 y hy
      simp; omega
    have hc : cntLe v (x :: t) = cntLe v t + if x ≤ v then 1 else 0 := by
      unfold cntLe; rw [List.countP_cons]; simp
    match k, hk with
    | 0, _ =>
      rw [hc]
      simp only [List.getD_cons_zero]
      constructor
      · intro h; rw [if_pos h]; omega
      · intro h
        apply Classical.byContradiction
        intro hx
        rw [hz hx, if_neg hx] at h
        omega
    | k + 1, hk =>
      have ih := sorted_rank v t h2 k (by simpa using hk)
      rw [hc]
      simp only [List.getD_cons_succ]
      by_cases hx : x ≤ v
      · rw [if_pos hx, ih]; omega
      · rw [if_neg hx, ih, hz hx]; omega
theorem rank_iff (v : Int) (l : List Int) (k : Nat) (hk : k < l.length) : (rising l).getD k 0 ≤ v ↔ k < cntLe v l := by
  rw [sorted_rank v _ (rs_sorted l) k (by rw [rs_len]; exact hk)]
  unfold cntLe
  rw [(rs_perm l).countP_eq]
theorem cnt_mono (v : Int) : ∀ (a b : List Int), a.length = b.length → (∀ (i : Nat) (x y : Int), a[i]? = some x → b[i]? = some y → x ≤ y) → cntLe v b ≤ cntLe v a
  | [], [], _, _ => Nat.le_refl _
  | x :: a, y :: b, hl, h => by
    have h0 := h 0 x y rfl rfl
    have ih := cnt_mono v a b (by simpa using hl) (fun i x' y' hx hy => h (i + 1) x' y' (by simpa using hx) (by simpa using hy))
    unfold cntLe at *
    rw [List.countP_cons, List.countP_cons]
    by_cases h1 : y ≤ v
    · have h2 : x ≤ v := by omega
      simp only [h1, h2, decide_true, if_true]; omega
    · simp only [h1, decide_false, if_false, Bool.false_eq_true]; omega
  | [], _ :: _, hl, _ => by simp at hl
  | _ :: _, [], hl, _ => by simp at hl
/-- Lists that are less, place by place, are so when sorted. -/
theorem rank_mono {a b : List Int} (hl : a.length = b.length) (h : ∀ (i : Nat) (x y : Int), a[i]? = some x → b[i]? = some y → x ≤ y) (k : Nat) (hk : k < a.length) : (rising a).getD k 0 ≤ (rising b).getD k 0 := by
  rw [rank_iff _ a k hk]
  exact Nat.lt_of_lt_of_le ((rank_iff _ b k (by omega)).1 (Int.le_refl _)) (cnt_mono _ a b hl h)
/-! ### The best history -/
theorem best_spec (L : Int) (high : Bool) (k : Int) (hs : List (List (Int × Int))) : hs ≠ [] → ∃ b, bestOf L high k hs = some b ∧ b ∈ hs ∧ ∀ h ∈ hs, better high (keyOf L high k h) (keyOf L high k b) = false := by
  suffices ∀ (l : List (List (Int × Int))) (o : List (Int × Int)), ∃ b, l.foldl (bestStep L high k) (some o) = some b ∧ (b = o ∨ b ∈ l) ∧ better high (keyOf L high k o) (keyOf L high k b) = false ∧ ∀ h ∈ l, better high (keyOf L high k h) (keyOf L high k b) = false by
    intro hn
    match hs, hn with
    | o :: l, _ =>
      obtain ⟨b, h1, h2, h3, h4⟩ := this l o
      refine ⟨b, h1, ?_, ?_⟩
      · rcases h2 with rfl | h2
        · simp
        · simp [h2]
      · intro h hh
        rcases List.mem_cons.1 hh with rfl | hh
        · exact h3
        · exact h4 h hh
  have refl : ∀ n, better high n n = false := fun n => by unfold better; split <;> simp
  have trans : ∀ a b c, better high b a = true → better high a c = true → better high b c = true := fun a b c => by
    unfold better; split <;> simp <;> omega
  have tot : ∀ a b c, better high a b = false → better high b c = false → better high a c = false := fun a b c => by
    unfold better; split <;> simp <;> omega
  have asym : ∀ a b, better high a b = true → better high b a = false := fun a b => by
    unfold better; split <;> simp <;> omega
  intro l
  induction l with
  | nil => intro o; exact ⟨o, rfl, .inl rfl, refl _, by simp⟩
  | cons g l ih =>
    intro o
    have hstep : bestStep L high k (some o) g = if better high (keyOf L high k g) (keyOf L high k o) then some g else some o := rfl
    rw [List.foldl_cons, hstep]
    by_cases hb : better high (keyOf L high k g) (keyOf L high k o) = true
    · rw [if_pos hb]
      obtain ⟨b, h1, h2, h3, h4⟩ := ih g
      refine ⟨b, h1, ?_, tot _ _ _ (asym _ _ hb) h3, ?_⟩
      · rcases h2 with rfl | h2
        · simp
        · simp [h2]
      · intro h hh
        rcases List.mem_cons.1 hh with rfl | hh
        · exact h3
        · exact h4 h hh
    · rw [if_neg hb]
      obtain ⟨b, h1, h2, h3, h4⟩ := ih o
      refine ⟨b, h1, ?_, h3, ?_⟩
      · rcases h2 with rfl | h2
        · simp
        · simp [h2]
      · intro h hh
        rcases List.mem_cons.1 hh with rfl | hh
        · exact tot _ _ _ (Bool.eq_false_iff.2 hb) h3
        · exact h4 h hh
/-! ### The span of some numbers -/
theorem sp_mem : ∀ (ms : List Int), ms ≠ [] → (sp ms).1 ∈ ms ∧ (sp ms).2 ∈ ms ∧ ∀ m ∈ ms, (sp ms).1 ≤ m ∧ m ≤ (sp ms).2 := by
  suffices ∀ (r : List Int) (a b : Int), a ≤ b → let q := r.foldl (fun p n => ((min p.1 n, max p.2 n) : Int × Int)) (a, b); (q.1 = a ∨ q.1 ∈ r) ∧ (q.2 = b ∨ q.2 ∈ r) ∧ q.1 ≤ a ∧ b ≤ q.2 ∧ ∀ m ∈ r, q.1 ≤ m ∧ m ≤ q.2 by
    intro ms hn
    match ms, hn with
    | m :: r, _ =>
      obtain ⟨h1, h2, h3, h4, h5⟩ := this r m m (Int.le_refl _)
      refine ⟨?_, ?_, ?_⟩
      · rcases h1 with h1 | h1
        · show (r.foldl _ (m, m)).1 ∈ _; rw [h1]; simp
        · exact List.mem_cons_of_mem _ h1
      · rcases h2 with h2 | h2
        · show (r.foldl _ (m, m)).2 ∈ _; rw [h2]; simp
        · exact List.mem_cons_of_mem _ h2
      · intro n hm
        rcases List.mem_cons.1 hm with rfl | hm
        · exact ⟨h3, h4⟩
        · exact h5 n hm
  intro r
  induction r with
  | nil => intro a b hab; exact ⟨.inl rfl, .inl rfl, Int.le_refl _, Int.le_refl _, by simp⟩
  | cons n r ih =>
    intro a b hab
    obtain ⟨h1, h2, h3, h4, h5⟩ := ih (min a n) (max b n) (by omega)
    simp only [List.foldl_cons]
    refine ⟨?_, ?_, by omega, by omega, ?_⟩
    · rcases h1 with h1 | h1
      · rcases (show min a n = a ∨ min a n = n by omega) with e | e
        · exact .inl (h1.trans e)
        · exact .inr (by rw [h1, e]; simp)
      · exact .inr (by simp [h1])
    · rcases h2 with h2 | h2
      · rcases (show max b n = b ∨ max b n = n by omega) with e | e
        · exact .inl (h2.trans e)
        · exact .inr (by rw [h2, e]; simp)
      · exact .inr (by simp [h2])
    · intro m hm
      rcases List.mem_cons.1 hm with rfl | hm
      · constructor <;> omega
      · exact h5 m hm
/-! ### A stopped run is put in -/
/-! ### All turned round -/
/-! ### Bounds and truths -/
theorem key_between (L : Int) (h : List (Int × Int)) (t : List Int) (ht : t.length = h.length) (hb : ∀ (i : Nat) (x : Int) (p : Int × Int), t[i]? = some x → h[i]? = some p → limit L false p ≤ x ∧ x ≤ limit L true p) (k : Nat) (hk : k < h.length) :
    keyOf L false k h ≤ (rising t).getD k 0 ∧ (rising t).getD k 0 ≤ keyOf L true k h := by
  unfold keyOf
  constructor
  · refine rank_mono (by simp [ht]) (fun i x y hx hy => ?_) k (by simpa using hk)
    rw [List.getElem?_map] at hx
    obtain ⟨p, hp, rfl⟩ := Option.map_eq_some_iff.1 hx
    exact (hb i y p hy hp).1
  · refine rank_mono (by simp [ht]) (fun i x y hx hy => ?_) k (by simpa [ht] using hk)
    rw [List.getElem?_map] at hy
    obtain ⟨p, hp, rfl⟩ := Option.map_eq_some_iff.1 hy
    exact (hb i x p hx hp).2
end Go.Proofs.Ytkglggggmlnleaa.Print
