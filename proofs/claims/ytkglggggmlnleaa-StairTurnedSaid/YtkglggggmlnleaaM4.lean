/- Words shared by the laws of the runs. Plain laws of the runs: a stopped run put in; all turned round. -/
import Derived.Test.YtkglggggmlnleaaSc
import Derived.Test.YtkglggggmlnleaaRu
import Derived.Test.YtkglggggmlnleaaMi
import Derived.Test.YtkglggggmlnleaaHr
import Derived.Test.YtkglggggmlnleaaM1
import Derived.Test.YtkglggggmlnleaaPk
import Derived.Test.YtkglggggmlnleaaMr
namespace Go.Proofs.Ytkglggggmlnleaa.Print
open Go.RowKit Go.Proofs.YtkglggggmlnleaaW.PrintWords Go.Proofs.YtkglggggmlnleaaW.PrintLast Go.Proofs.YtkglggggmlnleaaW.PrintMore
set_option linter.unusedVariables false
set_option linter.unusedSimpArgs false
/-- A row of rows, element by element. -/
theorem cellRow {w : World} {A : Option Addr} {xss : List (List Int)} {n : Nat} (h : Kd.C sl8 w A n xss) (j : Nat) (hj : j < n) (xs : List Int) (hx : xss[j]? = some xs) : ∃ ad A0 c0, A = some ad ∧ w.cell? (ad.add j) = some (.slice A0 xs.length c0) ∧ xs.length ≤ c0 ∧ Kd.C (Kd.int .u8) w A0 xs.length xs := by
  obtain ⟨ad, cs, e, hs, hK, hcell⟩ := ReadsRow.get_ h [] (j : Int) (by omega) (by omega)
  rw [Int.toNat_natCast, List.getD_eq_getElem?_getD, hx] at hK
  obtain ⟨A0, c0, rfl, hl, hC⟩ := hK
  refine ⟨ad, A0, c0, e, ?_, hl, hC⟩
  have := hcell 0 _ rfl
  rw [Int.toNat_natCast] at this
  have e2 : j * sl8.sz + 0 = j := by show j * 1 + 0 = j; omega
  rw [e2] at this
  exact this
theorem RunsOut.below {L st : Int} {l : List S67} {w w1 : World} {vs vr : Value} (h : RunsOut L st l w vs vr) (hb : Below w.heap.size w w1) : RunsOut L st l w1 vs vr := by
  unfold RunsOut at *
  split
  · rename_i h0
    rw [if_pos h0] at h
    obtain ⟨gl, gr, h1, h2, h3, h4⟩ := h
    exact ⟨gl, gr, h1, h2, Kd.C_below h3 hb, Kd.C_below h4 hb⟩
  · rename_i h0
    rwa [if_neg h0] at h
theorem RunsOut.ok {L st : Int} {l : List S67} {w : World} {vs vr : Value} (h : RunsOut L st l w vs vr) (h0 : possI L st l = 0) (n : Nat) (hn : l.length = n) : ∃ Al Ar, vs = .slice Al n n ∧ vr = .slice Ar n n ∧
    Kd.C k28 w Al n ((List.range n).map fun i => (⟨(sp (lvAt (hists L st l) i)).1, (sp (lvAt (hists L st l) i)).2⟩ : S28)) ∧ Kd.C sl8 w Ar n ((List.range n).map fun i => rowR (rsAt (hists L st l) i)) := by
  subst hn
  unfold RunsOut at h
  rw [if_pos h0] at h
  obtain ⟨gl, gr, h1, h2, h3, h4⟩ := h
  exact ⟨_, _, h1, h2, h3, h4⟩
theorem RunsOut.no {L st : Int} {l : List S67} {w : World} {vs vr : Value} (h : RunsOut L st l w vs vr) (h0 : possI L st l ≠ 0) : vs = .slice none 0 0 ∧ vr = .slice none 0 0 := by
  unfold RunsOut at h
  rwa [if_neg h0] at h
theorem stairs_n (L st : Int) (A : Option Addr) (c : Nat) (l : List S43) (w : World) (n : Nat) (hn : l.length = n) (hr : Kd.C k43 w A n l) (hc : n ≤ c) (hl : n < 8796093022208) (xs : List S67) (hx : l.map up = xs) (m : Nat) (hm : xs.length = m) :
    Calls Try.prog 19 #[.agg #[.int .i64 L, .int .i64 st, .slice A n c]] w fun e w' => (∃ A' c', e = .returned (.agg #[.int .i64 L, .int .i64 st, .slice A' m c']) ∧ Aside0 (Kd.C k67 w' A' m xs ∧ m ≤ c')) ∧ Below w.heap.size w w' := by
  subst hn; subst hm; exact stairs_calls L st A c l w hr hc hl xs hx
theorem rowC43 {w : World} {base n c : Nat} {ok : Nat → Prop} {A : Option Addr} {ys : List S43} (h : k43.R 43 w base ok (.slice A n c) ys) (hn : ys.length = n) : Kd.C k43 w A n ys ∧ n ≤ c := by
  obtain ⟨A', c', he, hl, hC⟩ := Kd.R_reads h
  injection he with h1 h2 h3
  subst h1 h3 hn
  exact ⟨hC, hl⟩
theorem cell28 {w : World} {A : Option Addr} {n : Nat} {xs : List S28} (h : Kd.C k28 w A n xs) (j : Nat) (hj : j < n) {a b : Int} (hx : xs[j]? = some ⟨a, b⟩) : ∃ ad, A = some ad ∧ w.cell? (ad.add (j * 2)) = some (.int .i64 a) ∧ w.cell? ⟨(ad.add (j * 2)).block, (ad.add (j * 2)).off + 1, none⟩ = some (.int .i64 b) := by
  obtain ⟨ad, e, g1, g2⟩ := at_T28 h (j : Int) (by omega) (by omega)
  have hrd : rd_T28 xs j = ⟨a, b⟩ := by
    unfold rd_T28
    simp [List.getD_eq_getElem?_getD, hx]
  rw [hrd] at g1 g2
  exact ⟨ad, e, g1, g2⟩
theorem rowR_len (rs : List Int) : (rowR rs).length ≤ 3 := List.length_filter_le _ _
end Go.Proofs.Ytkglggggmlnleaa.Print
namespace Go.Proofs.Ytkglggggmlnleaa.Print
open Go.RowKit Go.Proofs.YtkglggggmlnleaaW.PrintWords Go.Proofs.YtkglggggmlnleaaW.PrintLast Go.Proofs.YtkglggggmlnleaaW.PrintMore
set_option linter.unusedVariables false
set_option linter.unusedSimpArgs false

/-! ### A stopped run is put in -/
/-! ### All turned round -/
theorem sp_neg (c : Int) (ms : List Int) (hn : ms ≠ []) : sp (ms.map fun m => c - m) = (c - (sp ms).2, c - (sp ms).1) := by
  obtain ⟨h1, h2, h3⟩ := sp_mem ms hn
  refine sp_unique (List.mem_map.2 ⟨_, h2, rfl⟩) (List.mem_map.2 ⟨_, h1, rfl⟩) fun m hm => ?_
  obtain ⟨x, hx, rfl⟩ := List.mem_map.1 hm
  have := h3 x hx
  omega
theorem turn_at (L : Int) (h : List (Int × Int)) (i : Nat) (hi : i < h.length) : (h.map (turnP L)).getD i (0, 0) = turnP L (h.getD i (0, 0)) := by
  rw [List.getD_eq_getElem?_getD, List.getD_eq_getElem?_getD, List.getElem?_map, List.getElem?_eq_getElem hi]; rfl
theorem rowR_turn (rs rs' : List Int) (hb : ∀ r ∈ rs, 0 ≤ r ∧ r < 3) (hp : rs'.Perm (rs.map turnR)) : (rowR rs').length = (rowR rs).length := by
  have h0 : (0 : Int) ∈ rs' ↔ (1 : Int) ∈ rs := by
    rw [hp.mem_iff, List.mem_map]
    constructor
    · rintro ⟨r, hr, e⟩
      have := hb r hr
      unfold turnR at e
      split at e
      · have : r = 1 := by omega
        exact this ▸ hr
      · omega
    · exact fun h => ⟨1, h, rfl⟩
  have h1 : (1 : Int) ∈ rs' ↔ (0 : Int) ∈ rs := by
    rw [hp.mem_iff, List.mem_map]
    constructor
    · rintro ⟨r, hr, e⟩
      have := hb r hr
      unfold turnR at e
      split at e
      · have : r = 0 := by omega
        exact this ▸ hr
      · omega
    · exact fun h => ⟨0, h, rfl⟩
  have h2 : (2 : Int) ∈ rs' ↔ (2 : Int) ∈ rs := by
    rw [hp.mem_iff, List.mem_map]
    constructor
    · rintro ⟨r, hr, e⟩
      have := hb r hr
      unfold turnR at e
      split at e
      · omega
      · exact e ▸ hr
    · exact fun h => ⟨2, h, rfl⟩
  unfold rowR
  simp only [List.filter_cons, List.filter_nil, h0, h1, h2]
  by_cases c0 : (0 : Int) ∈ rs <;> by_cases c1 : (1 : Int) ∈ rs <;> by_cases c2 : (2 : Int) ∈ rs <;> simp [c0, c1, c2]
theorem check_all {L st : Int} {xs : List S67} (h : checkI L st xs = 0) : xs.all (runB L) = true := by
  unfold checkI at h
  split at h
  · cases h
  · split at h
    · cases h
    · rename_i h2
      cases e : xs.all (runB L) with
      | true => rfl
      | false => exact absurd (.inr e) h2
theorem check_turn {L st : Int} {xs : List S67} (h : checkI L st xs = 0) (hr : ∀ x ∈ xs, 0 ≤ x.f1) : checkI L (L - 1 - st) (xs.map (turnS L)) = 0 := by
  obtain ⟨k1, k2, k3, k4, k5⟩ := check_ok h
  have hall := List.all_eq_true.1 (check_all h)
  have hf : ((xs.map (turnS L)).filter fun x => decide (x.f1 = 3)).length = (xs.filter fun x => decide (x.f1 = 3)).length := by
    rw [List.filter_map, List.length_map]
    congr 1
    refine List.filter_congr fun x hx => ?_
    show decide ((turnS L x).f1 = 3) = decide (x.f1 = 3)
    have := hr x hx
    unfold turnS turnR
    simp only
    rw [decide_eq_decide]
    split <;> omega
  have h6 : ¬ (14 < xs.length ∨ 6 < (xs.filter fun x => decide (x.f1 = 3)).length) := by
    intro h7
    unfold checkI at h
    rw [if_pos h7] at h
    cases h
  have ha : (xs.map (turnS L)).all (runB L) = true := by
    rw [List.all_eq_true]
    intro y hy
    obtain ⟨x, hx, rfl⟩ := List.mem_map.1 hy
    have h1 := hall x hx
    have h2 := hr x hx
    unfold runB at h1 ⊢
    unfold turnS turnR
    simp only [Bool.and_eq_true, decide_eq_true_eq] at h1 ⊢
    refine ⟨⟨?_, ?_⟩, ?_⟩
    · split <;> omega
    · split <;> omega
    · split <;> omega
  unfold checkI
  rw [List.length_map, hf, if_neg h6, if_neg]
  rintro (h7 | h7)
  · exact h7 ⟨k1, k2, by omega, by omega⟩
  · rw [ha] at h7; cases h7
theorem turn_law {L st : Int} {xs zs : List S67} (hz : zs = xs.map (turnS L)) (hx : checkI L st xs = 0) (hr : ∀ x ∈ xs, 0 ≤ x.f1) :
    possI L (L - 1 - st) zs = possI L st xs ∧ manyI L (L - 1 - st) zs = manyI L st xs ∧ (possI L st xs = 0 → ∀ i, i < xs.length →
      sp (lvAt (hists L (L - 1 - st) zs) i) = (L - 1 - (sp (lvAt (hists L st xs) i)).2, L - 1 - (sp (lvAt (hists L st xs) i)).1) ∧
      (rowR (rsAt (hists L (L - 1 - st) zs) i)).length = (rowR (rsAt (hists L st xs) i)).length ∧
      rankR L (L - 1 - st) zs ((xs.length - 1 - i : Nat) : Int) = (L - (rankR L st xs i).2, L - (rankR L st xs i).1) ∧ askE L (L - 1 - st) zs ((xs.length - 1 - i : Nat) : Int) = 0 ∧ askE L st xs i = 0) := by
  subst hz
  obtain ⟨k1, k2, k3, k4, k5⟩ := check_ok hx
  have hc := check_turn hx hr
  have hall := List.all_eq_true.1 (check_all hx)
  have hperm := hists_turn L xs st k3 k4 (fun x hm => by
    have h1 := hall x hm
    have h2 := hr x hm
    unfold runB at h1
    simp only [Bool.and_eq_true, decide_eq_true_eq] at h1
    omega)
  have hlen : (hists L (L - 1 - st) (xs.map (turnS L))).length = (hists L st xs).length := by rw [hperm.length_eq, List.length_map]
  have hp : possI L (L - 1 - st) (xs.map (turnS L)) = possI L st xs := by
    unfold possI
    rw [hx, hc, if_pos rfl, if_pos rfl]
    have : hists L (L - 1 - st) (xs.map (turnS L)) = [] ↔ hists L st xs = [] := by rw [← List.length_eq_zero_iff, hlen, List.length_eq_zero_iff]
    by_cases e : hists L st xs = []
    · rw [if_pos e, if_pos (this.2 e)]
    · rw [if_neg e, if_neg (fun e2 => e (this.1 e2))]
  refine ⟨hp, ?_, fun h0 i hi => ?_⟩
  · unfold manyI
    rw [hp, hlen]
  · obtain ⟨_, hne⟩ := poss_ok h0
    have hne2 : hists L (L - 1 - st) (xs.map (turnS L)) ≠ [] := fun e => by rw [e] at hlen; exact hne (List.length_eq_zero_iff.1 hlen.symm)
    have hl : ∀ h ∈ hists L st xs, h.length = xs.length := fun h hm => hists_len L xs st h hm
    have hin : ∀ h ∈ hists L st xs, ∀ p ∈ h, 0 ≤ p.1 ∧ p.1 < 3 := fun h hm p hq => ⟨(hists_all L xs st k3 k4 h hm p hq).1, (hists_all L xs st k3 k4 h hm p hq).2.1⟩
    have lvp : (lvAt (hists L (L - 1 - st) (xs.map (turnS L))) i).Perm ((lvAt (hists L st xs) i).map fun m => (L - 1) - m) := by
      refine (hperm.map _).trans ?_
      rw [List.map_map]
      unfold lvAt
      rw [List.map_map]
      exact List.Perm.of_eq (List.map_congr_left fun h hm => by show ((h.map (turnP L)).getD i (0, 0)).2 = _; rw [turn_at L h i (by rw [hl h hm]; exact hi)]; rfl)
    have rsp : (rsAt (hists L (L - 1 - st) (xs.map (turnS L))) i).Perm ((rsAt (hists L st xs) i).map turnR) := by
      refine (hperm.map _).trans ?_
      rw [List.map_map]
      unfold rsAt
      rw [List.map_map]
      exact List.Perm.of_eq (List.map_congr_left fun h hm => by show ((h.map (turnP L)).getD i (0, 0)).1 = _; rw [turn_at L h i (by rw [hl h hm]; exact hi)]; rfl)
    have hlv : lvAt (hists L st xs) i ≠ [] := fun e => hne (List.map_eq_nil_iff.1 e)
    have hask : askE L st xs i = 0 := ask_0 h0 (by omega) (by omega)
    have hask2 : askE L (L - 1 - st) (xs.map (turnS L)) ((xs.length - 1 - i : Nat) : Int) = 0 := ask_0 (hp.trans h0) (by omega) (by simp; omega)
    refine ⟨?_, ?_, ?_, hask2, hask⟩
    · rw [sp_perm lvp, sp_neg _ _ hlv]
    · refine rowR_turn _ _ (fun r hm => ?_) rsp
      obtain ⟨h, hh, rfl⟩ := List.mem_map.1 hm
      rw [List.getD_eq_getElem?_getD, List.getElem?_eq_getElem (by rw [hl h hh]; exact hi)]
      exact hin h hh _ (List.getElem_mem _)
    · rw [rank_0 hask, rank_0 hask2]
      have key : ∀ high h, h ∈ hists L st xs → keyOf L high ((xs.length - 1 - i : Nat) : Int) (h.map (turnP L)) = L - keyOf L (!high) (i : Int) h := fun high h hm => by
        have := key_turn L high h (hin h hm) i (by rw [hl h hm]; exact hi)
        rwa [hl h hm] at this
      have en : ∀ high, endN L (L - 1 - st) (xs.map (turnS L)) ((xs.length - 1 - i : Nat) : Int) high = L - endN L st xs i (!high) := fun high => by
        obtain ⟨b, _, hb, e1, _⟩ := endN_spec L (L - 1 - st) (xs.map (turnS L)) ((xs.length - 1 - i : Nat) : Int) high hne2
        obtain ⟨b2, _, hb2, e2, _⟩ := endN_spec L st xs i (!high) hne
        obtain ⟨h, hh, rfl⟩ := List.mem_map.1 (hperm.subset hb)
        have hb2' : b2.map (turnP L) ∈ hists L (L - 1 - st) (xs.map (turnS L)) := hperm.symm.subset (List.mem_map.2 ⟨b2, hb2, rfl⟩)
        have q1 := key high h hh
        have q2 := key high b2 hb2
        cases high with
        | false =>
          have r1 := endN_lo (k := ((xs.length - 1 - i : Nat) : Int)) hb2'
          have r2 := endN_hi (k := (i : Int)) hh
          simp only [Bool.not_false] at *
          omega
        | true =>
          have r1 := endN_hi (k := ((xs.length - 1 - i : Nat) : Int)) hb2'
          have r2 := endN_lo (k := (i : Int)) hh
          simp only [Bool.not_true] at *
          omega
      rw [en false, en true]; rfl
end Go.Proofs.Ytkglggggmlnleaa.Print
