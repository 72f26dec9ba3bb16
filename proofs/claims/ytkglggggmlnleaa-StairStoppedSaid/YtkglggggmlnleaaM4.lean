/- Words shared by the laws of the runs. Plain laws of the runs: a stopped run put in; all turned round. -/
import Derived.Test.YtkglggggmlnleaaSc
import Derived.Test.YtkglggggmlnleaaRu
import Derived.Test.YtkglggggmlnleaaMi
import Derived.Test.YtkglggggmlnleaaHr
import Derived.Test.YtkglggggmlnleaaM1
import Derived.Test.YtkglggggmlnleaaPk
import Derived.Test.YtkglggggmlnleaaMr
namespace Go.Proofs.Ytkglggggmlnleaa.Print
open Go.RowKit Go.Proofs.YtkglggggmlnleaaW.PrintWords Go.Proofs.YtkglggggmlnleaaW.PrintLast Go.Proofs.YtkglggggmlnleaaW.PrintMore
set_option linter.unusedVariables false
set_option linter.unusedSimpArgs false
/-- A row of rows, element by element. -/
theorem cellRow {w : World} {A : Option Addr} {xss : List (List Int)} {n : Nat} (h : Kd.C sl8 w A n xss) (j : Nat) (hj : j < n) (xs : List Int) (hx : xss[j]? = some xs) : ∃ ad A0 c0, A = some ad ∧ w.cell? (ad.add j) = some (.slice A0 xs.length c0) ∧ xs.length ≤ c0 ∧ Kd.C (Kd.int .u8) w A0 xs.length xs := by
  obtain ⟨ad, cs, e, hs, hK, hcell⟩ := ReadsRow.get_ h [] (j : Int) (by omega) (by omega)
  rw [Int.toNat_natCast, List.getD_eq_getElem?_getD, hx] at hK
  obtain ⟨A0, c0, rfl, hl, hC⟩ := hK
  refine ⟨ad, A0, c0, e, ?_, hl, hC⟩
  have := hcell 0 _ rfl
  rw [Int.toNat_natCast] at this
  have e2 : j * sl8.sz + 0 = j := by show j * 1 + 0 = j; omega
  rw [e2] at this
  exact this
theorem RunsOut.below {L st : Int} {l : List S67} {w w1 : World} {vs vr : Value} (h : RunsOut L st l w vs vr) (hb : Below w.heap.size w w1) : RunsOut L st l w1 vs vr := by
  unfold RunsOut at *
  split
  · rename_i h0
    rw [if_pos h0] at h
    obtain ⟨gl, gr, h1, h2, h3, h4⟩ := h
    exact ⟨gl, gr, h1, h2, Kd.C_below h3 hb, Kd.C_below h4 hb⟩
  · rename_i h0
    rwa [if_neg h0] at h
theorem same_n (A : Option Addr) (c : Nat) (l : List Int) (A1 : Option Addr) (c1 n : Nat) (hn : l.length = n) (w : World) (hl : n ≤ 1000) (hr : Kd.C (Kd.int .u8) w A n l) (hr1 : Kd.C (Kd.int .u8) w A1 n l) :
    Calls Try.prog 42 #[.slice A n c, .slice A1 n c1] w fun e w' => e = .returned (.bool true) ∧ Below w.heap.size w w' := by
  subst hn
  exact same_calls A c l A1 c1 w hl hr hr1 _ rfl
theorem RunsOut.ok {L st : Int} {l : List S67} {w : World} {vs vr : Value} (h : RunsOut L st l w vs vr) (h0 : possI L st l = 0) (n : Nat) (hn : l.length = n) : ∃ Al Ar, vs = .slice Al n n ∧ vr = .slice Ar n n ∧
    Kd.C k28 w Al n ((List.range n).map fun i => (⟨(sp (lvAt (hists L st l) i)).1, (sp (lvAt (hists L st l) i)).2⟩ : S28)) ∧ Kd.C sl8 w Ar n ((List.range n).map fun i => rowR (rsAt (hists L st l) i)) := by
  subst hn
  unfold RunsOut at h
  rw [if_pos h0] at h
  obtain ⟨gl, gr, h1, h2, h3, h4⟩ := h
  exact ⟨_, _, h1, h2, h3, h4⟩
theorem RunsOut.no {L st : Int} {l : List S67} {w : World} {vs vr : Value} (h : RunsOut L st l w vs vr) (h0 : possI L st l ≠ 0) : vs = .slice none 0 0 ∧ vr = .slice none 0 0 := by
  unfold RunsOut at h
  rwa [if_neg h0] at h
theorem ready_n (L st : Int) (A : Option Addr) (c : Nat) (l : List S43) (w : World) (n : Nat) (hn : l.length = n) (hr : Kd.C k43 w A n l) (hc : n ≤ c) (hm : n ≤ 9000000000000000000) (b : Bool) (hb : decide (checkI L st (l.map up) = 0) = b) :
    Calls Try.prog 23 #[.agg #[.int .i64 L, .int .i64 st, .slice A n c]] w fun e w' => e = .returned (.bool b) ∧ Below w.heap.size w w' := by
  subst hn; exact ready_calls L st A c l w hr hc hm b hb
theorem stairs_n (L st : Int) (A : Option Addr) (c : Nat) (l : List S43) (w : World) (n : Nat) (hn : l.length = n) (hr : Kd.C k43 w A n l) (hc : n ≤ c) (hl : n < 8796093022208) (xs : List S67) (hx : l.map up = xs) (m : Nat) (hm : xs.length = m) :
    Calls Try.prog 19 #[.agg #[.int .i64 L, .int .i64 st, .slice A n c]] w fun e w' => (∃ A' c', e = .returned (.agg #[.int .i64 L, .int .i64 st, .slice A' m c']) ∧ Aside0 (Kd.C k67 w' A' m xs ∧ m ≤ c')) ∧ Below w.heap.size w w' := by
  subst hn; subst hm; exact stairs_calls L st A c l w hr hc hl xs hx
theorem middle_n (L st : Int) (A : Option Addr) (c : Nat) (l : List S67) (w : World) (n : Nat) (hn : l.length = n) (hr : Kd.C k67 w A n l) (hc : n ≤ c) :
    Calls Try.prog 18 #[.agg #[.int .i64 L, .int .i64 st, .slice A n c]] w fun e w' => e = .returned (.tuple #[.agg #[.int .i64 (midR L st l).1, .int .i64 (midR L st l).2], .int .i64 (midE L st l)]) ∧ Below w.heap.size w w' := by
  subst hn; exact middle_calls L st A c l w hr hc
theorem k43_mkM' {w : World} {base : Nat} {ok ok' : Nat → Prop} {x : S43} {cs : List Value} (h : k43.M w base ok x cs) : k43.M w base ok' x cs := by
  obtain rfl := k43_openM h
  exact k43_mkM _ _ _ x
theorem R43_grown {w w1 : World} {base : Nat} {ok : Nat → Prop} {v : Value} {xs : List S43} {row : Option Nat} (h : Kd.R k43 43 w base ok v xs) (hg : w.grownBy w1 row) (hne : ∀ q, v.ownBlock = some q → some q ≠ row) : Kd.R k43 43 w1 base (fun _ => True) v xs :=
  Kd.R_mono (Kd.R_grown (ok := fun q => v.ownBlock = some q) ⟨fun _ hk => hk, h.2.imp_ (fun _ _ hp => k43_mkM' hp)⟩ hg hne) (fun _ _ => trivial)
theorem rowC43 {w : World} {base n c : Nat} {ok : Nat → Prop} {A : Option Addr} {ys : List S43} (h : k43.R 43 w base ok (.slice A n c) ys) (hn : ys.length = n) : Kd.C k43 w A n ys ∧ n ≤ c := by
  obtain ⟨A', c', he, hl, hC⟩ := Kd.R_reads h
  injection he with h1 h2 h3
  subst h1 h3 hn
  exact ⟨hC, hl⟩
theorem cell28 {w : World} {A : Option Addr} {n : Nat} {xs : List S28} (h : Kd.C k28 w A n xs) (j : Nat) (hj : j < n) {a b : Int} (hx : xs[j]? = some ⟨a, b⟩) : ∃ ad, A = some ad ∧ w.cell? (ad.add (j * 2)) = some (.int .i64 a) ∧ w.cell? ⟨(ad.add (j * 2)).block, (ad.add (j * 2)).off + 1, none⟩ = some (.int .i64 b) := by
  obtain ⟨ad, e, g1, g2⟩ := at_T28 h (j : Int) (by omega) (by omega)
  have hrd : rd_T28 xs j = ⟨a, b⟩ := by
    unfold rd_T28
    simp [List.getD_eq_getElem?_getD, hx]
  rw [hrd] at g1 g2
  exact ⟨ad, e, g1, g2⟩
theorem rowR_len (rs : List Int) : (rowR rs).length ≤ 3 := List.length_filter_le _ _
end Go.Proofs.Ytkglggggmlnleaa.Print
namespace Go.Proofs.Ytkglggggmlnleaa.Print
open Go.RowKit Go.Proofs.YtkglggggmlnleaaW.PrintWords Go.Proofs.YtkglggggmlnleaaW.PrintLast Go.Proofs.YtkglggggmlnleaaW.PrintMore
set_option linter.unusedVariables false
set_option linter.unusedSimpArgs false

/-! ### A stopped run is put in -/
theorem midI_ins (L : Int) (k : Nat) (l : Int) (h : List (Int × Int)) (hk : k ≤ h.length) : midI (insP L k l h) = midI h := by
  have h0 := insP_filter L 0 (by decide) k l h hk
  have h1 := insP_filter L 1 (by decide) k l h hk
  have c0 : cntR 0 (insP L k l h) = cntR 0 h := by unfold cntR; rw [h0]
  have c1 : cntR 1 (insP L k l h) = cntR 1 h := by unfold cntR; rw [h1]
  have s0 : sumR 0 (insP L k l h) = sumR 0 h := by unfold sumR; rw [h0]
  have s1 : sumR 1 (insP L k l h) = sumR 1 h := by unfold sumR; rw [h1]
  have m : ∀ ev : Nat, ev < 2 → midOf (insP L k l h) ev = midOf h ev := fun ev he => by
    unfold midOf
    match ev, he with
    | 0, _ => simp only [c0, s0]
    | 1, _ => simp only [c1, s1]
  by_cases hl : cntR 1 h < cntR 0 h
  · rw [midI_1 hl, midI_1 (by rw [c0, c1]; exact hl), c1, m 1 (by decide)]
  · rw [midI_0 hl, midI_0 (by rw [c0, c1]; exact hl), c0, m 0 (by decide)]
theorem fm_congr {α β : Type} {f g : α → Option β} : ∀ l : List α, (∀ x ∈ l, f x = g x) → l.filterMap f = l.filterMap g
  | [], _ => rfl
  | x :: l, h => by
    rw [List.filterMap_cons, List.filterMap_cons, h x (by simp), fm_congr l fun y hy => h y (by simp [hy])]
/-- The place of a run behind the new one. -/
def pl (k i : Nat) : Nat := if k ≤ i then i + 1 else i
theorem ins_at (L : Int) (k : Nat) (l : Int) (h : List (Int × Int)) (hk : k ≤ h.length) (i : Nat) : (insP L k l h).getD (pl k i) (0, 0) = h.getD i (0, 0) := by
  rw [List.getD_eq_getElem?_getD, List.getD_eq_getElem?_getD]
  unfold pl
  by_cases hi : k ≤ i
  · rw [if_pos hi, insP_hi L k l h i hk hi]
  · rw [if_neg hi, insP_lo L k l h i hk (by omega)]
theorem stop_law {L st : Int} {xs zs : List S67} {k : Nat} {f : Int} (hz : zs = xs.take k ++ (⟨f, 2⟩ : S67) :: xs.drop k) (hk : k ≤ xs.length) (h1 : ∀ x, xs[k]? = some x → f = x.f0) (h2 : k = xs.length → f = -1) (hx : checkI L st xs = 0) (hc : checkI L st zs = 0) :
    possI L st zs = possI L st xs ∧ midE L st zs = midE L st xs ∧ midR L st zs = midR L st xs ∧ (∀ i, lvAt (hists L st zs) (pl k i) = lvAt (hists L st xs) i) ∧ (∀ i, rsAt (hists L st zs) (pl k i) = rsAt (hists L st xs) i) := by
  rw [← putAt_eq _ k xs hk] at hz
  have hh : hists L st zs = (hists L st xs).map (insP L k st) := by rw [hz]; exact hists_stop L k xs st f hk h1 h2
  have hl : ∀ h ∈ hists L st xs, k ≤ h.length := fun h hm => by rw [hists_len L xs st h hm]; exact hk
  have hp : possI L st zs = possI L st xs := by
    unfold possI
    rw [hx, hc, if_pos rfl, if_pos rfl, hh]
    simp only [List.map_eq_nil_iff]
  have hm : mids (hists L st zs) = mids (hists L st xs) := by
    unfold mids
    rw [hh, List.filterMap_map]
    refine fm_congr _ fun h hm => ?_
    show (if (midI (insP L k st h)).2 then some (midI (insP L k st h)).1 else none) = _
    rw [midI_ins L k st h (hl h hm)]
  have he : midE L st zs = midE L st xs := by unfold midE; rw [hp, hm]
  refine ⟨hp, he, by unfold midR; rw [he, hm], fun i => ?_, fun i => ?_⟩
  · unfold lvAt
    rw [hh, List.map_map]
    exact List.map_congr_left fun h hm => by show ((insP L k st h).getD (pl k i) (0, 0)).2 = _; rw [ins_at L k st h (hl h hm) i]
  · unfold rsAt
    rw [hh, List.map_map]
    exact List.map_congr_left fun h hm => by show ((insP L k st h).getD (pl k i) (0, 0)).1 = _; rw [ins_at L k st h (hl h hm) i]
/-! ### All turned round -/
end Go.Proofs.Ytkglggggmlnleaa.Print
