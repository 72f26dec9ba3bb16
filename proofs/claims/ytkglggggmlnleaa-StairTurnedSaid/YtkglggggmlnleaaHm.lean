/- Plain laws of histories: what becomes of them where runs become lost, are stopped, or all is turned round; ranks of lists; spans. -/
import Derived.Test.YtkglggggmlnleaaEn
import Derived.Test.YtkglggggmlnleaaMi
import Derived.Test.YtkglggggmlnleaaPr
namespace Go.Proofs.Ytkglggggmlnleaa.Print
open Go.RowKit Go.Proofs.YtkglggggmlnleaaW.PrintWords Go.Proofs.YtkglggggmlnleaaW.PrintLast Go.Proofs.YtkglggggmlnleaaW.PrintMore
set_option linter.unusedVariables false
set_option linter.unusedSimpArgs false
/-! ### Weaker runs have more histories -/
/-! ### What all histories have -/
theorem hists_all (L : Int) : ∀ (xs : List S67) (l : Int), 0 ≤ l → l < L → ∀ h ∈ hists L l xs, ∀ p ∈ h, 0 ≤ p.1 ∧ p.1 < 3 ∧ 0 ≤ p.2 ∧ p.2 < L
  | [], l, h0, h1, h, hh, p, hp => by simp [hists] at hh; subst hh; simp at hp
  | x :: xs, l, h0, h1, h, hh, p, hp => by
    have hn : ∀ r : Int, 0 ≤ nxt L l r ∧ nxt L l r < L := fun r => by unfold nxt; split; omega; split; omega; omega
    simp only [hists, List.mem_flatMap] at hh
    obtain ⟨r, hr, hh⟩ := hh
    have hr3 : 0 ≤ r ∧ r < 3 := by simp at hr; omega
    split at hh
    · obtain ⟨g, hg, rfl⟩ := List.mem_map.1 hh
      rcases List.mem_cons.1 hp with rfl | hp
      · exact ⟨hr3.1, hr3.2, h0, h1⟩
      · exact hists_all L xs _ (hn r).1 (hn r).2 g hg p hp
    · simp at hh
/-- The history of some results. -/
def histOf (L : Int) : Int → List Int → List (Int × Int)
  | _, [] => []
  | l, r :: rs => (r, l) :: histOf L (nxt L l r) rs
theorem hists_iff (L : Int) : ∀ (xs : List S67) (l : Int) (h : List (Int × Int)), h ∈ hists L l xs ↔ h.length = xs.length ∧ h = histOf L l (h.map (·.1)) ∧ (∀ p ∈ h, 0 ≤ p.1 ∧ p.1 < 3) ∧ walkB L l xs (h.map (·.1)) = true
  | [], l, h => by
    simp only [hists, List.mem_singleton, List.length_nil]
    constructor
    · rintro rfl; simp [histOf, walkB]
    · rintro ⟨h0, _⟩; exact List.eq_nil_of_length_eq_zero h0
  | x :: xs, l, h => by
    simp only [hists, List.mem_flatMap]
    constructor
    · rintro ⟨r, hr, hh⟩
      have hr3 : 0 ≤ r ∧ r < 3 := by simp at hr; omega
      split at hh
      · rename_i hm
        obtain ⟨g, hg, rfl⟩ := List.mem_map.1 hh
        obtain ⟨a1, a2, a3, a4⟩ := (hists_iff L xs _ g).1 hg
        refine ⟨by simp [a1], ?_, ?_, ?_⟩
        · simp only [List.map_cons, histOf]
          rw [← a2]
        · intro p hp
          rcases List.mem_cons.1 hp with rfl | hp
          · exact hr3
          · exact a3 p hp
        · simp [walkB, hm, a4, hr3.2]
      · simp at hh
    · rintro ⟨a1, a2, a3, a4⟩
      match h, a1 with
      | p :: g, a1 =>
        have hp := a3 p (by simp)
        simp only [List.map_cons, histOf, List.cons.injEq] at a2
        simp only [List.map_cons, walkB, Bool.and_eq_true] at a4
        refine ⟨p.1, by simp; omega, ?_⟩
        rw [a2.1] at *
        rw [if_pos a4.1.2]
        refine List.mem_map.2 ⟨g, (hists_iff L xs _ g).2 ⟨by simpa using a1, a2.2, fun q hq => a3 q (by simp [hq]), a4.2⟩, rfl⟩
/-! ### Ranks -/
theorem rs_sorted (l : List Int) : (rising l).Pairwise (· ≤ ·) := by
  have := List.pairwise_mergeSort (le := fun x y : Int => decide (x ≤ y)) (fun a b c => by simp; omega) (fun a b => by simp; omega) l
  exact this.imp (fun h => by simpa using h)
theorem rs_perm (l : List Int) : (rising l).Perm l := List.mergeSort_perm l _
theorem rs_len (l : List Int) : (rising l).length = l.length := (rs_perm l).length_eq
theorem sorted_eq {l m : List Int} (hl : l.Pairwise (· ≤ ·)) (hm : m.Pairwise (· ≤ ·)) (hp : l.Perm m) : l = m :=
  List.Perm.eq_of_pairwise (fun a b _ _ h1 h2 => by omega) hl hm hp
def cntLe (v : Int) (l : List Int) : Nat := l.countP fun x => decide (x ≤ v)
theorem sorted_rank (v : Int) : ∀ (s : List Int), s.Pairwise (· ≤ ·) → ∀ k, k < s.length → (s.getD k 0 ≤ v ↔ k < cntLe v s)
  | [], _, k, hk => by simp at hk
  | x :: t, hs, k, hk => by
    obtain ⟨h1, h2⟩ := List.pairwise_cons.1 hs
    have hz : ¬ x ≤ v → cntLe v t = 0 := fun hx => by
      unfold cntLe
      rw [List.countP_eq_zero]
      intro y hy
      have := h1 y hy
      simp; omega
    have hc : cntLe v (x :: t) = cntLe v t + if x ≤ v then 1 else 0 := by
      unfold cntLe; rw [List.countP_cons]; simp
    match k, hk with
    | 0, _ =>
      rw [hc]
      simp only [List.getD_cons_zero]
      constructor
      · intro h; rw [if_pos h]; omega
      · intro h
        apply Classical.byContradiction
        intro hx
        rw [hz hx, if_neg hx] at h
        omega
    | k + 1, hk =>
      have ih := sorted_rank v t h2 k (by simpa using hk)
      rw [hc]
      simp only [List.getD_cons_succ]
      by_cases hx : x ≤ v
      · rw [if_pos hx, ih]; omega
      · rw [if_neg hx, ih, hz hx]; omega
theorem rank_iff (v : Int) (l : List Int) (k : Nat) (hk : k < l.length) : (rising l).getD k 0 ≤ v ↔ k < cntLe v l := by
  rw [sorted_rank v _ (rs_sorted l) k (by rw [rs_len]; exact hk)]
  unfold cntLe
  rw [(rs_perm l).countP_eq]
theorem cnt_mono (v : Int) : ∀ (a b : List Int), a.length = b.length → (∀ (i : Nat) (x y : Int), a[i]? = some x → b[i]? = some y → x ≤ y) → cntLe v b ≤ cntLe v a
  | [], [], _, _ => Nat.le_refl _
  | x :: a, y :: b, hl, h => by
    have h0 := h 0 x y rfl rfl
    have ih := cnt_mono v a b (by simpa using hl) (fun i x' y' hx hy => h (i + 1) x' y' (by simpa using hx) (by simpa using hy))
    unfold cntLe at *
    rw [List.countP_cons, List.countP_cons]
    by_cases h1 : y ≤ v
    · have h2 : x ≤ v := by omega
      simp only [h1, h2, decide_true, if_true]; omega
    · simp only [h1, decide_false, if_false, Bool.false_eq_true]; omega
  | [], _ :: _, hl, _ => by simp at hl
  | _ :: _, [], hl, _ => by simp at hl
/-- Lists that are less, place by place, are so when sorted. -/
theorem rank_mono {a b : List Int} (hl : a.length = b.length) (h : ∀ (i : Nat) (x y : Int), a[i]? = some x → b[i]? = some y → x ≤ y) (k : Nat) (hk : k < a.length) : (rising a).getD k 0 ≤ (rising b).getD k 0 := by
  rw [rank_iff _ a k hk]
  exact Nat.lt_of_lt_of_le ((rank_iff _ b k (by omega)).1 (Int.le_refl _)) (cnt_mono _ a b hl h)
theorem rank_up (l : List Int) (k : Nat) (hk : k + 1 < l.length) : (rising l).getD k 0 ≤ (rising l).getD (k + 1) 0 := by
  rw [rank_iff _ l k (by omega)]
  have := (rank_iff _ l (k + 1) hk).1 (Int.le_refl _)
  omega
theorem rank_mem (l : List Int) (k : Nat) (hk : k < l.length) : (rising l).getD k 0 ∈ l := by
  have : k < (rising l).length := by rw [rs_len]; exact hk
  rw [List.getD_eq_getElem?_getD, List.getElem?_eq_getElem this]
  exact (rs_perm l).subset (List.getElem_mem this)
/-- The other end. -/
theorem rs_turn (L : Int) (l : List Int) : rising (l.map fun x => L - x) = ((rising l).map fun x => L - x).reverse := by
  refine sorted_eq (rs_sorted _) ?_ ?_
  · rw [List.pairwise_reverse, List.pairwise_map]
    exact (rs_sorted l).imp (fun h => by omega)
  · exact (rs_perm _).trans (((rs_perm l).symm.map _).trans (List.reverse_perm _).symm)
theorem rank_turn (L : Int) (l : List Int) (k : Nat) (hk : k < l.length) : (rising (l.map fun x => L - x)).getD (l.length - 1 - k) 0 = L - (rising l).getD k 0 := by
  rw [rs_turn]
  have h1 : k < (rising l).length := by rw [rs_len]; exact hk
  have h2 : l.length - 1 - k < ((rising l).map fun x => L - x).reverse.length := by simp [rs_len]; omega
  rw [List.getD_eq_getElem?_getD, List.getD_eq_getElem?_getD, List.getElem?_eq_getElem h2, List.getElem?_eq_getElem h1]
  simp only [Option.getD_some, List.getElem_reverse, List.getElem_map]
  congr 2
  simp only [List.length_map, rs_len]
  omega
/-! ### The best history -/
theorem best_spec (L : Int) (high : Bool) (k : Int) (hs : List (List (Int × Int))) : hs ≠ [] → ∃ b, bestOf L high k hs = some b ∧ b ∈ hs ∧ ∀ h ∈ hs, better high (keyOf L high k h) (keyOf L high k b) = false := by
  suffices ∀ (l : List (List (Int × Int))) (o : List (Int × Int)), ∃ b, l.foldl (bestStep L high k) (some o) = some b ∧ (b = o ∨ b ∈ l) ∧ better high (keyOf L high k o) (keyOf L high k b) = false ∧ ∀ h ∈ l, better high (keyOf L high k h) (keyOf L high k b) = false by
    intro hn
    match hs, hn with
    | o :: l, _ =>
      obtain ⟨b, h1, h2, h3, h4⟩ := this l o
      refine ⟨b, h1, ?_, ?_⟩
      · rcases h2 with rfl | h2
        · simp
        · simp [h2]
      · intro h hh
        rcases List.mem_cons.1 hh with rfl | hh
        · exact h3
        · exact h4 h hh
  have refl : ∀ n, better high n n = false := fun n => by unfold better; split <;> simp
  have trans : ∀ a b c, better high b a = true → better high a c = true → better high b c = true := fun a b c => by
    unfold better; split <;> simp <;> omega
  have tot : ∀ a b c, better high a b = false → better high b c = false → better high a c = false := fun a b c => by
    unfold better; split <;> simp <;> omega
  have asym : ∀ a b, better high a b = true → better high b a = false := fun a b => by
    unfold better; split <;> simp <;> omega
  intro l
  induction l with
  | nil => intro o; exact ⟨o, rfl, .inl rfl, refl _, by simp⟩
  | cons g l ih =>
    intro o
    have hstep : bestStep L high k (some o) g = if better high (keyOf L high k g) (keyOf L high k o) then some g else some o := rfl
    rw [List.foldl_cons, hstep]
    by_cases hb : better high (keyOf L high k g) (keyOf L high k o) = true
    · rw [if_pos hb]
      obtain ⟨b, h1, h2, h3, h4⟩ := ih g
      refine ⟨b, h1, ?_, tot _ _ _ (asym _ _ hb) h3, ?_⟩
      · rcases h2 with rfl | h2
        · simp
        · simp [h2]
      · intro h hh
        rcases List.mem_cons.1 hh with rfl | hh
        · exact h3
        · exact h4 h hh
    · rw [if_neg hb]
      obtain ⟨b, h1, h2, h3, h4⟩ := ih o
      refine ⟨b, h1, ?_, h3, ?_⟩
      · rcases h2 with rfl | h2
        · simp
        · simp [h2]
      · intro h hh
        rcases List.mem_cons.1 hh with rfl | hh
        · exact tot _ _ _ (Bool.eq_false_iff.2 hb) h3
        · exact h4 h hh
/-! ### The span of some numbers -/
theorem sp_mem : ∀ (ms : List Int), ms ≠ [] → (sp ms).1 ∈ ms ∧ (sp ms).2 ∈ ms ∧ ∀ m ∈ ms, (sp ms).1 ≤ m ∧ m ≤ (sp ms).2 := by
  suffices ∀ (r : List Int) (a b : Int), a ≤ b → let q := r.foldl (fun p n => ((min p.1 n, max p.2 n) : Int × Int)) (a, b); (q.1 = a ∨ q.1 ∈ r) ∧ (q.2 = b ∨ q.2 ∈ r) ∧ q.1 ≤ a ∧ b ≤ q.2 ∧ ∀ m ∈ r, q.1 ≤ m ∧ m ≤ q.2 by
    intro ms hn
    match ms, hn with
    | m :: r, _ =>
      obtain ⟨h1, h2, h3, h4, h5⟩ := this r m m (Int.le_refl _)
      refine ⟨?_, ?_, ?_⟩
      · rcases h1 with h1 | h1
        · show (r.foldl _ (m, m)).1 ∈ _; rw [h1]; simp
        · exact List.mem_cons_of_mem _ h1
      · rcases h2 with h2 | h2
        · show (r.foldl _ (m, m)).2 ∈ _; rw [h2]; simp
        · exact List.mem_cons_of_mem _ h2
      · intro n hm
        rcases List.mem_cons.1 hm with rfl | hm
        · exact ⟨h3, h4⟩
        · exact h5 n hm
  intro r
  induction r with
  | nil => intro a b hab; exact ⟨.inl rfl, .inl rfl, Int.le_refl _, Int.le_refl _, by simp⟩
  | cons n r ih =>
    intro a b hab
    obtain ⟨h1, h2, h3, h4, h5⟩ := ih (min a n) (max b n) (by omega)
    simp only [List.foldl_cons]
    refine ⟨?_, ?_, by omega, by omega, ?_⟩
    · rcases h1 with h1 | h1
      · rcases (show min a n = a ∨ min a n = n by omega) with e | e
        · exact .inl (h1.trans e)
        · exact .inr (by rw [h1, e]; simp)
      · exact .inr (by simp [h1])
    · rcases h2 with h2 | h2
      · rcases (show max b n = b ∨ max b n = n by omega) with e | e
        · exact .inl (h2.trans e)
        · exact .inr (by rw [h2, e]; simp)
      · exact .inr (by simp [h2])
    · intro m hm
      rcases List.mem_cons.1 hm with rfl | hm
      · constructor <;> omega
      · exact h5 m hm
/-- The span hangs on the numbers alone. -/
theorem sp_unique {ms : List Int} {a b : Int} (ha : a ∈ ms) (hb : b ∈ ms) (h : ∀ m ∈ ms, a ≤ m ∧ m ≤ b) : sp ms = (a, b) := by
  obtain ⟨h1, h2, h3⟩ := sp_mem ms (fun e => by subst e; simp at ha)
  have e1 := (h _ h1).1
  have e2 := (h3 _ ha).1
  have e3 := (h _ h2).2
  have e4 := (h3 _ hb).2
  exact Prod.ext (by simp; omega) (by simp; omega)
theorem sp_perm {a b : List Int} (h : a.Perm b) : sp a = sp b := by
  by_cases hn : b = []
  · subst hn; rw [List.Perm.eq_nil h]
  · obtain ⟨h1, h2, h3⟩ := sp_mem b hn
    exact sp_unique (h.symm.subset h1) (h.symm.subset h2) (fun m hm => h3 m (h.subset hm))
/-! ### A stopped run is put in -/
/-! ### All turned round -/
def turnR (r : Int) : Int := if r < 2 then 1 - r else r
def turnP (L : Int) (p : Int × Int) : Int × Int := (turnR p.1, L - 1 - p.2)
def turnS (L : Int) (x : S67) : S67 := ⟨if 0 ≤ x.f0 then L - 1 - x.f0 else x.f0, turnR x.f1⟩
theorem nxt_turn (L l r : Int) (hr : 0 ≤ r ∧ r < 3) : nxt L (L - 1 - l) (turnR r) = L - 1 - nxt L l r := by
  unfold nxt turnR
  rcases (show r = 0 ∨ r = 1 ∨ r = 2 by omega) with rfl | rfl | rfl <;> simp <;> omega
theorem may_turn (L l r : Int) (x : S67) (hx : -1 ≤ x.f0 ∧ x.f0 ≤ L - 1 ∧ 0 ≤ x.f1 ∧ x.f1 ≤ 3) (hl : 0 ≤ l ∧ l < L) (hr : 0 ≤ r ∧ r < 3) : mayB (turnS L x) (L - 1 - l) (turnR r) = mayB x l r := by
  have h1 : ((if 0 ≤ x.f0 then L - 1 - x.f0 else x.f0) == -1 || (if 0 ≤ x.f0 then L - 1 - x.f0 else x.f0) == L - 1 - l) = (x.f0 == -1 || x.f0 == l) := by
    rw [Bool.eq_iff_iff]
    simp only [Bool.or_eq_true, beq_iff_eq]
    split <;> omega
  have h2 : (turnR x.f1 == 3 || turnR x.f1 == turnR r) = (x.f1 == 3 || x.f1 == r) := by
    rw [Bool.eq_iff_iff]
    simp only [Bool.or_eq_true, beq_iff_eq]
    unfold turnR
    split <;> split <;> omega
  unfold mayB turnS
  simp only [h1, h2]
theorem hists_turn (L : Int) : ∀ (xs : List S67) (l : Int), 0 ≤ l → l < L → (∀ x ∈ xs, -1 ≤ x.f0 ∧ x.f0 ≤ L - 1 ∧ 0 ≤ x.f1 ∧ x.f1 ≤ 3) → (hists L (L - 1 - l) (xs.map (turnS L))).Perm ((hists L l xs).map (List.map (turnP L)))
  | [], l, h0, h1, hx => by simp [hists]
  | x :: xs, l, h0, h1, hx => by
    have hn : ∀ r : Int, 0 ≤ nxt L l r ∧ nxt L l r < L := fun r => by unfold nxt; split; omega; split; omega; omega
    have hx0 := hx x (by simp)
    simp only [List.map_cons, hists, List.flatMap_cons, List.flatMap_nil, List.append_nil, List.map_append]
    have hp : ∀ r : Int, 0 ≤ r ∧ r < 3 → (if mayB (turnS L x) (L - 1 - l) (turnR r) = true then (hists L (nxt L (L - 1 - l) (turnR r)) (xs.map (turnS L))).map ((turnR r, L - 1 - l) :: ·) else []).Perm ((if mayB x l r = true then (hists L (nxt L l r) xs).map ((r, l) :: ·) else []).map (List.map (turnP L))) := fun r hr => by
      rw [may_turn L l r x hx0 ⟨h0, h1⟩ hr, nxt_turn L l r hr]
      split
      · have ih := (hists_turn L xs _ (hn r).1 (hn r).2 (fun y hy => hx y (by simp [hy]))).map ((turnR r, L - 1 - l) :: ·)
        refine ih.trans ?_
        rw [List.map_map, List.map_map]
        exact List.Perm.of_eq rfl
      · exact List.Perm.refl _
    have p0 := hp 0 (by omega)
    have p1 := hp 1 (by omega)
    have p2 := hp 2 (by omega)
    rw [show turnR 0 = 1 from rfl] at p0
    rw [show turnR 1 = 0 from rfl] at p1
    rw [show turnR 2 = 2 from rfl] at p2
    exact ((p1.append (p0.append p2)).trans (by
      rw [← List.append_assoc, ← List.append_assoc]
      exact List.perm_append_comm.append_right _))
theorem bnd_turn (L : Int) (p : Int × Int) (hp : 0 ≤ p.1 ∧ p.1 < 3) (high : Bool) : limit L high (turnP L p) = L - limit L (!high) p := by
  obtain ⟨r, l⟩ := p
  simp only at hp
  unfold limit bnd turnP turnR
  rcases (show r = 0 ∨ r = 1 ∨ r = 2 by omega) with rfl | rfl | rfl <;> cases high <;> simp <;> omega
theorem key_turn (L : Int) (high : Bool) (h : List (Int × Int)) (hh : ∀ p ∈ h, 0 ≤ p.1 ∧ p.1 < 3) (k : Nat) (hk : k < h.length) : keyOf L high ((h.length - 1 - k : Nat) : Int) (h.map (turnP L)) = L - keyOf L (!high) (k : Int) h := by
  unfold keyOf
  have e : (h.map (turnP L)).map (limit L high) = (h.map (limit L (!high))).map fun x => L - x := by
    rw [List.map_map, List.map_map]
    exact List.map_congr_left (fun p hp => bnd_turn L p (hh p hp) high)
  rw [e]
  have := rank_turn L (h.map (limit L (!high))) k (by simpa using hk)
  simpa using this
/-! ### Bounds and truths -/
theorem bnd_le (L : Int) (p : Int × Int) (hp : 0 ≤ p.1 ∧ p.1 < 3 ∧ 0 ≤ p.2 ∧ p.2 < L) : limit L false p ≤ limit L true p ∧ 0 ≤ limit L false p ∧ limit L true p ≤ L := by
  unfold limit bnd
  obtain ⟨r, l⟩ := p
  simp only at hp
  rcases (show r = 0 ∨ r = 1 ∨ r = 2 by omega) with rfl | rfl | rfl <;> simp <;> omega
theorem key_between (L : Int) (h : List (Int × Int)) (t : List Int) (ht : t.length = h.length) (hb : ∀ (i : Nat) (x : Int) (p : Int × Int), t[i]? = some x → h[i]? = some p → limit L false p ≤ x ∧ x ≤ limit L true p) (k : Nat) (hk : k < h.length) :
    keyOf L false k h ≤ (rising t).getD k 0 ∧ (rising t).getD k 0 ≤ keyOf L true k h := by
  unfold keyOf
  constructor
  · refine rank_mono (by simp [ht]) (fun i x y hx hy => ?_) k (by simpa using hk)
    rw [List.getElem?_map] at hx
    obtain ⟨p, hp, rfl⟩ := Option.map_eq_some_iff.1 hx
    exact (hb i y p hy hp).1
  · refine rank_mono (by simp [ht]) (fun i x y hx hy => ?_) k (by simpa [ht] using hk)
    rw [List.getElem?_map] at hy
    obtain ⟨p, hp, rfl⟩ := Option.map_eq_some_iff.1 hy
    exact (hb i x p hx hp).2
theorem key_lohi (L : Int) (h : List (Int × Int)) (hh : ∀ p ∈ h, 0 ≤ p.1 ∧ p.1 < 3 ∧ 0 ≤ p.2 ∧ p.2 < L) (k : Nat) (hk : k < h.length) : keyOf L false k h ≤ keyOf L true k h := by
  have := key_between L h (h.map (limit L false)) (by simp) (fun i x p hx hp => by
    rw [List.getElem?_map, hp] at hx
    have e : limit L false p = x := by simpa using hx
    have := (bnd_le L p (hh p (List.mem_of_getElem? hp))).1
    exact ⟨by omega, by omega⟩) k hk
  exact Int.le_trans this.1 this.2
end Go.Proofs.Ytkglggggmlnleaa.Print
