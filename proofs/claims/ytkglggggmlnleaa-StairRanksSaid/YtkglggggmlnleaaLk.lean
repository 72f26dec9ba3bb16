/- The law's rank: the least and the greatest limit at a place. -/
import Derived.Test.YtkglggggmlnleaaSd
import Derived.Test.YtkglggggmlnleaaPq
import Derived.Test.YtkglggggmlnleaaRr
namespace Go.Proofs.Ytkglggggmlnleaa.Print
open Go.RowKit Go.Proofs.YtkglggggmlnleaaW.PrintWords Go.Proofs.YtkglggggmlnleaaW.PrintLast Go.Proofs.YtkglggggmlnleaaW.PrintMore
set_option linter.unusedVariables false
set_option linter.unusedSimpArgs false
def f28.T6 : Bool × List (List Nat × List Nat) := (true, [([], []), ([], []), ([], []), ([1, 2], [1, 2]), ([3], [3]), ([], []), ([0, 4, 5], [0, 4, 5]), ([], []), ([7, 6, 6, 0, 1, 2, 3, 4, 5, 6, 7], [6, 7])])
def f28.B6 : List Nat := [0, 0, 0, 6, 14, 0, 63, 0, 255]
theorem f28.tab6 : rtab .any (opsOf Try.f28 6) = f28.T6 := by kernel_rfl
theorem f28.bits6 : waitsOk f28.T6.2 f28.B6 = true := by kernel_rfl
/-- A row of rows, element by element. -/
theorem cellRow {w : World} {A : Option Addr} {xss : List (List Int)} {n : Nat} (h : Kd.C sl8 w A n xss) (j : Nat) (hj : j < n) (xs : List Int) (hx : xss[j]? = some xs) : ∃ ad A0 c0, A = some ad ∧ w.cell? (ad.add j) = some (.slice A0 xs.length c0) ∧ xs.length ≤ c0 ∧ Kd.C (Kd.int .u8) w A0 xs.length xs := by
  obtain ⟨ad, cs, e, hs, hK, hcell⟩ := ReadsRow.get_ h [] (j : Int) (by omega) (by omega)
  rw [Int.toNat_natCast, List.getD_eq_getElem?_getD, hx] at hK
  obtain ⟨A0, c0, rfl, hl, hC⟩ := hK
  refine ⟨ad, A0, c0, e, ?_, hl, hC⟩
  have := hcell 0 _ rfl
  rw [Int.toNat_natCast] at this
  have e2 : j * sl8.sz + 0 = j := by show j * 1 + 0 = j; omega
  rw [e2] at this
  exact this
theorem refH_get (L st : Int) (l : List S43) (j : Nat) (h : List (Int × Int)) (hh : (hists L st (l.map up))[j]? = some h) : (refH L st l)[j]? = some (h.map (·.1)) := by
  unfold refH
  rw [List.getElem?_map, hh]; rfl
theorem hist_facts {L st : Int} {xs : List S67} (hck : checkI L st xs = 0) {h : List (Int × Int)} (hh : h ∈ hists L st xs) : histOf L st (h.map (·.1)) = h ∧ (h.map (·.1)).length = xs.length ∧ xs.length ≤ 14 ∧ (∀ r ∈ h.map (·.1), 0 ≤ r ∧ r < 3) ∧ walkB L st xs (h.map (·.1)) = true := by
  obtain ⟨k1, k2, k3, k4, k5⟩ := check_ok hck
  obtain ⟨a1, a2, a3, a4⟩ := (hists_iff L xs st h).1 hh
  refine ⟨a2.symm, by simp [a1], k5, ?_, a4⟩
  intro r hr
  obtain ⟨p, hp, rfl⟩ := List.mem_map.1 hr
  exact a3 p hp

theorem rowsC {w : World} {A : Option Addr} {n c : Nat} {ok : Nat → Prop} {xss : List (List Int)} (h : Kd.R sl8 41 w 0 ok (.slice A n c) xss) : Kd.C sl8 w A n xss := by
  obtain ⟨A', c', he, hl, hC⟩ := Kd.R_reads h
  injection he with h1 h2 h3
  subst h1 h2
  exact hC
theorem set2 {w : World} {g t : Nat} {a b x y : Value} (h : w.heap[g]? = some (.cells #[a, b] t (0, 0))) : ((w.setCell ⟨g, 0, none⟩ x).setCell ⟨g, 1, none⟩ y).heap[g]? = some (.cells #[x, y] t (0, 0)) ∧ (∀ i, i ≠ g → ((w.setCell ⟨g, 0, none⟩ x).setCell ⟨g, 1, none⟩ y).heap[i]? = w.heap[i]?) ∧ ∀ (w0 : World), Below w0.heap.size w0 w → w0.heap.size ≤ g → Below w0.heap.size w0 ((w.setCell ⟨g, 0, none⟩ x).setCell ⟨g, 1, none⟩ y) :=
  ⟨blk_put (blk_put h 0 x rfl) 1 y rfl, fun i hi => (Below.heap_setCell _ ⟨g, 1, none⟩ y i hi).trans (Below.heap_setCell _ ⟨g, 0, none⟩ x i hi), fun w0 hb hg => below_set (below_set hb hg) hg⟩
theorem R_keepB {α : Type} {d : Kd α} {e : Nat} {w w1 : World} {base : Nat} {v : Value} {xs : List α} {g t : Nat} {cells : Array Value} (h : d.R e w base (fun _ => True) v xs) (hb : w.heap[g]? = some (.cells cells t (0, 0))) (ht : ∀ q, q ∈ e :: d.E → q ≠ t) (hs : ∀ i, i ≠ g → w1.heap[i]? = w.heap[i]?) : d.R e w1 base (fun _ => True) v xs :=
  Kd.R_mono (Kd.R_step (Kd.R_types h hb ht) (fun k hk _ => hs k hk.2)) (fun _ _ => trivial)
theorem fold_min : ∀ (xs : List Int) (a m : Int), (∀ x ∈ xs, m ≤ x) → m ≤ a → (m ∈ xs ∨ m = a) → xs.foldl min a = m
  | [], a, m, _, _, h => by rcases h with h | h; · cases h
                            · exact h.symm
  | x :: xs, a, m, h1, h2, h3 => by
    rw [List.foldl_cons]
    have hx := h1 x (by simp)
    refine fold_min xs (min a x) m (fun y hy => h1 y (by simp [hy])) (by omega) ?_
    rcases h3 with h3 | h3
    · rcases List.mem_cons.1 h3 with h3 | h3
      · right; omega
      · exact .inl h3
    · right; omega
theorem fold_max : ∀ (xs : List Int) (a m : Int), (∀ x ∈ xs, x ≤ m) → a ≤ m → (m ∈ xs ∨ m = a) → xs.foldl max a = m
  | [], a, m, _, _, h => by rcases h with h | h; · cases h
                            · exact h.symm
  | x :: xs, a, m, h1, h2, h3 => by
    rw [List.foldl_cons]
    have hx := h1 x (by simp)
    refine fold_max xs (max a x) m (fun y hy => h1 y (by simp [hy])) (by omega) ?_
    rcases h3 with h3 | h3
    · rcases List.mem_cons.1 h3 with h3 | h3
      · right; omega
      · exact .inl h3
    · right; omega
theorem endN_fold {L st : Int} {xs : List S67} (hck : checkI L st xs = 0) (hn : hists L st xs ≠ []) (k : Nat) (hk : k < xs.length) :
    ((hists L st xs).map (keyOf L false k)).foldl min L = endN L st xs k false ∧ ((hists L st xs).map (keyOf L true k)).foldl max 0 = endN L st xs k true := by
  obtain ⟨k1, k2, k3, k4, _⟩ := check_ok hck
  have hr : ∀ high h, h ∈ hists L st xs → 0 ≤ keyOf L high (k : Int) h ∧ keyOf L high (k : Int) h ≤ L := fun high h hh =>
    key_range L high h (hists_all L xs st k3 k4 h hh) k (by rw [((hists_iff L xs st h).1 hh).1]; exact hk)
  constructor
  · obtain ⟨b, _, hm, e, _⟩ := endN_spec L st xs k false hn
    refine fold_min _ _ _ (fun x hx => ?_) (by rw [e]; exact (hr _ b hm).2) (.inl (by rw [e]; exact List.mem_map.2 ⟨b, hm, rfl⟩))
    obtain ⟨h, hh, rfl⟩ := List.mem_map.1 hx
    exact endN_lo hh
  · obtain ⟨b, _, hm, e, _⟩ := endN_spec L st xs k true hn
    refine fold_max _ _ _ (fun x hx => ?_) (by rw [e]; exact (hr _ b hm).1) (.inl (by rw [e]; exact List.mem_map.2 ⟨b, hm, rfl⟩))
    obtain ⟨h, hh, rfl⟩ := List.mem_map.1 hx
    exact endN_hi hh
theorem refrank_n (L st : Int) (A : Option Addr) (c : Nat) (l : List S43) (A1 : Option Addr) (c1 : Nat) (rs : List Int) (k : Nat) (w : World) (hr1 : Kd.C (Kd.int .u8) w A1 rs.length rs)
    (hL : L ≤ 8) (h0 : 0 ≤ st) (h1 : st < L) (hl : rs.length ≤ 14) (n : Nat) (hn : rs.length = n) (hk : k < n) :
    Calls Try.prog 55 #[.agg #[.int .i64 L, .int .i64 st, .slice A l.length c], .slice A1 n c1, .int .i64 k] w fun e w' => e = .returned (.agg #[.int .i64 (keyOf L false (k : Int) (histOf L st rs)), .int .i64 (keyOf L true (k : Int) (histOf L st rs))]) ∧ Below w.heap.size w w' := by
  subst hn
  exact refrank_calls L st A c l A1 c1 rs k w hr1 hL h0 h1 (by omega) hk
section
attribute [local go_sem] max2_int min2_int max_two min_two
set_option maxHeartbeats 4000000 in
set_option maxRecDepth 100000 in
theorem lawrank_calls (L st : Int) (A : Option Addr) (c : Nat) (l : List S43) (k : Nat) (w : World) (hck : checkI L st (l.map up) = 0) (hne : hists L st (l.map up) ≠ []) (hk : k < l.length) (hr : Kd.C k43 w A l.length l) (hc : l.length ≤ c) :
    Calls Try.prog 28 #[.agg #[.int .i64 L, .int .i64 st, .slice A l.length c], .int .i64 k] w fun e w' => e = .returned (.agg #[.int .i64 (endN L st (l.map up) k false), .int .i64 (endN L st (l.map up) k true)]) ∧ Below w.heap.size w w' := by
  have hu24 := Try.underlying24
  have hu28 := Try.underlying28
  have hu97 := Try.underlying97
  have HR := Aside0.mk hr
  have HC := Aside0.mk hc
  have HCK := Aside0.mk hck
  have HNE := Aside0.mk hne
  obtain ⟨k1, k2, k3, k4, k5⟩ := check_ok hck
  rw [List.length_map] at k5
  have HKL : Aside0 (k < l.length ∧ l.length ≤ 14) := ⟨⟨hk, k5⟩⟩
  have KB : Aside0 (Below w.heap.size w ((w.alloc (.cells #[.int .i64 L, .int .i64 st, .slice A l.length c] 24)).alloc (.cells #[.int .i64 0, .int .i64 0] 28))) := ⟨((Below.refl _ w).alloc (by simp) _).alloc (by simp) _⟩
  have X : Aside0 (((w.alloc (.cells #[.int .i64 L, .int .i64 st, .slice A l.length c] 24)).alloc (.cells #[.int .i64 0, .int .i64 0] 28)).heap[w.heap.size]? = some (.cells #[.int .i64 L, .int .i64 st, .slice A l.length c] 24 (0, 0))) := ⟨blk_alloc (new_at rfl) _⟩
  have RC : Aside0 (((w.alloc (.cells #[.int .i64 L, .int .i64 st, .slice A l.length c] 24)).alloc (.cells #[.int .i64 0, .int .i64 0] 28)).heap[w.heap.size + 1]? = some (.cells #[.int .i64 0, .int .i64 0] 28 (0, 0))) := ⟨new_at (by simp)⟩
  clear hr hc hck hne hk k1 k5
  go_enter Try.func28, Try.ntmps28
  go_wp2_with fail
  generalize (w.alloc (.cells #[.int .i64 L, .int .i64 st, .slice A l.length c] 24)).alloc (.cells #[.int .i64 0, .int .i64 0] 28) = w0 at KB X RC ⊢
  have qX0 : w0.cell? ⟨w.heap.size, 0, none⟩ = some (.int .i64 L) := (blk_cell X.out 0).trans rfl
  have qX1 : w0.cell? ⟨w.heap.size, 1, none⟩ = some (.int .i64 st) := (blk_cell X.out 1).trans rfl
  have qX2 : w0.cell? ⟨w.heap.size, 2, none⟩ = some (.slice A l.length c) := (blk_cell X.out 2).trans rfl
  have lX := blk_lt X.out
  have qRC0 : w0.cell? ⟨w.heap.size + 1, 0, none⟩ = some (.int .i64 0) := (blk_cell RC.out 0).trans rfl
  have qRC1 : w0.cell? ⟨w.heap.size + 1, 1, none⟩ = some (.int .i64 0) := (blk_cell RC.out 1).trans rfl
  have lRC := blk_lt RC.out
  refine (allhist_calls L st A c l _ HCK.out (Kd.C_below HR.out KB.out) HC.out).mono ?_
  rintro e w1 ⟨v9, rfl, hR9, hb1⟩
  clear qX0 qX1 qX2 qRC0 qRC1 lX lRC
  replace KB := Aside0.mk (KB.out.trans (hb1.mono KB.out.size))
  replace X := Aside0.mk (blk_below X.out hb1)
  replace RC := Aside0.mk (blk_below RC.out hb1)
  obtain ⟨A9, c9, rfl, hc9, hC9⟩ := Kd.R_reads hR9
  have HA := Aside0.mk (Kd.R_lower hR9 (Nat.zero_le _))
  clear hC9 hc9 hR9
  clear hb1
  have qX0 : w1.cell? ⟨w.heap.size, 0, none⟩ = some (.int .i64 L) := (blk_cell X.out 0).trans rfl
  have qX1 : w1.cell? ⟨w.heap.size, 1, none⟩ = some (.int .i64 st) := (blk_cell X.out 1).trans rfl
  have qX2 : w1.cell? ⟨w.heap.size, 2, none⟩ = some (.slice A l.length c) := (blk_cell X.out 2).trans rfl
  have lX := blk_lt X.out
  have qRC0 : w1.cell? ⟨w.heap.size + 1, 0, none⟩ = some (.int .i64 0) := (blk_cell RC.out 0).trans rfl
  have qRC1 : w1.cell? ⟨w.heap.size + 1, 1, none⟩ = some (.int .i64 0) := (blk_cell RC.out 1).trans rfl
  have lRC := blk_lt RC.out
  have HHL : Aside0 ((refH L st l).length = (hists L st (l.map up)).length) := ⟨by unfold refH; simp⟩
  obtain ⟨nh, hnh⟩ : ∃ nh, (refH L st l).length = nh := ⟨_, rfl⟩
  rw [hnh] at HA HHL ⊢
  have HBD : Aside0 (nh ≤ 4782969) := ⟨by rw [← hnh]; exact refH_len L st l HKL.out.2⟩
  clear hnh
  go_wp2_with fail
  have NBO_X := Aside0.mk lX
  have NBO_RC := Aside0.mk lRC
  clear qX0 qX1 qX2 qRC0 qRC1 lX lRC
  have BO := Aside0.mk (blk_new w1 (.cells #[.int .i64 L, .int .i64 0] 28))
  have hb2 : Below w1.heap.size w1 (w1.alloc (.cells #[.int .i64 L, .int .i64 0] 28)) := (Below.refl _ _).alloc (Nat.le_refl _) _
  replace KB := Aside0.mk (KB.out.trans (hb2.mono KB.out.size))
  replace X := Aside0.mk (blk_below X.out hb2)
  replace RC := Aside0.mk (blk_below RC.out hb2)
  replace HA := Aside0.mk (Kd.R_below HA.out hb2)
  clear hb2
  obtain ⟨gBO, hgBO⟩ : ∃ g, w1.heap.size = g := ⟨_, rfl⟩
  rw [hgBO] at BO NBO_X NBO_RC ⊢
  clear hgBO
  generalize w1.alloc (.cells #[.int .i64 L, .int .i64 0] 28) = w2 at BO KB X RC HA ⊢
  have qX0 : w2.cell? ⟨w.heap.size, 0, none⟩ = some (.int .i64 L) := (blk_cell X.out 0).trans rfl
  have qX1 : w2.cell? ⟨w.heap.size, 1, none⟩ = some (.int .i64 st) := (blk_cell X.out 1).trans rfl
  have qX2 : w2.cell? ⟨w.heap.size, 2, none⟩ = some (.slice A l.length c) := (blk_cell X.out 2).trans rfl
  have lX := blk_lt X.out
  have qRC0 : w2.cell? ⟨w.heap.size + 1, 0, none⟩ = some (.int .i64 0) := (blk_cell RC.out 0).trans rfl
  have qRC1 : w2.cell? ⟨w.heap.size + 1, 1, none⟩ = some (.int .i64 0) := (blk_cell RC.out 1).trans rfl
  have lRC := blk_lt RC.out
  have qBO0 : w2.cell? ⟨gBO, 0, none⟩ = some (.int .i64 L) := (blk_cell BO.out 0).trans rfl
  have qBO1 : w2.cell? ⟨gBO, 1, none⟩ = some (.int .i64 0) := (blk_cell BO.out 1).trans rfl
  have lBO := blk_lt BO.out
  go_wp2_with fail
  clear qX0 qX1 qX2 qRC0 qRC1 qBO0 qBO1 lX lRC lBO
  have hb0 := HBD.out
  go_loopw [7] (fun i wr => ∃ (jn : Nat) (a b : Int), jn ≤ nh ∧ i = .int .i64 jn ∧ Aside0 (a = (((hists L st (l.map up)).take jn).map (keyOf L false k)).foldl min L ∧ b = (((hists L st (l.map up)).take jn).map (keyOf L true k)).foldl max 0) ∧ Aside0 (wr.heap[gBO]? = some (.cells #[.int .i64 a, .int .i64 b] 28 (0, 0))) ∧ Aside0 (Below w.heap.size w wr) ∧ Aside0 (wr.heap[w.heap.size]? = some (.cells #[.int .i64 L, .int .i64 st, .slice A l.length c] 24 (0, 0))) ∧ Aside0 (wr.heap[w.heap.size + 1]? = some (.cells #[.int .i64 0, .int .i64 0] 28 (0, 0))) ∧ Aside0 (Kd.R sl8 41 wr 0 (fun _ => True) (.slice A9 nh c9) (refH L st l))) (fun i _ => nh - (intOf i).toNat)
  case atStart => exact ⟨0, L, 0, by omega, rfl, ⟨rfl, rfl⟩, BO, KB, X, RC, HA⟩
  case round =>
    clear KB X RC BO HA
    obtain ⟨jn, a, b, hj, rfl, hms, BO, KB, X, RC, HA⟩ := hrel
    by_cases hj3 : jn < nh
    · have hj6 : decide ((jn : Int) < (nh : Int)) = true := decide_eq_true (by omega)
      have hj7 : (jn : Int) < (nh : Int) := by omega
      obtain ⟨h, hh⟩ : ∃ h, (hists L st (l.map up))[jn]? = some h := ⟨_, List.getElem?_eq_getElem (by rw [← HHL.out]; exact hj3)⟩
      obtain ⟨f1, f2, f3, f4, f5⟩ := hist_facts HCK.out (List.mem_of_getElem? hh)
      obtain ⟨rs, hrs⟩ : ∃ rs, h.map (·.1) = rs := ⟨_, rfl⟩
      have hg := refH_get L st l jn h hh
      rw [hrs] at f1 f2 f4 hg
      rw [List.length_map] at f2
      obtain ⟨ad, A0, c0, rfl, g0, g1, g2⟩ := cellRow (rowsC HA.out) jn hj3 rs hg
      obtain ⟨n0, hn0⟩ : ∃ n0, rs.length = n0 := ⟨_, rfl⟩
      have HC0 := Aside0.mk g2
      rw [hn0] at g0
      have HN0 := Aside0.mk hn0
      have HF := Aside0.mk (And.intro (show rs.length ≤ 14 by have := HKL.out; omega) (show k < n0 by have := HKL.out; omega))
      obtain ⟨lo, hlo⟩ : ∃ lo, keyOf L false (k : Int) h = lo := ⟨_, rfl⟩
      obtain ⟨hi, hhi⟩ : ∃ hi, keyOf L true (k : Int) h = hi := ⟨_, rfl⟩
      have HLH : Aside0 (keyOf L false (k : Int) (histOf L st rs) = lo ∧ keyOf L true (k : Int) (histOf L st rs) = hi) := ⟨by rw [f1]; exact ⟨hlo, hhi⟩⟩
      have HT : Aside0 ((hists L st (l.map up)).take (jn + 1) = (hists L st (l.map up)).take jn ++ [h]) := ⟨by rw [List.take_add_one, hh]; rfl⟩
      have HLK := Aside0.mk (And.intro hlo hhi)
      have QX := Aside0.mk (And.intro ((blk_cell X.out 0).trans rfl : wr.cell? ⟨w.heap.size, 0, none⟩ = some (.int .i64 L)) (And.intro ((blk_cell X.out 1).trans rfl : wr.cell? ⟨w.heap.size, 1, none⟩ = some (.int .i64 st)) (And.intro ((blk_cell X.out 2).trans rfl : wr.cell? ⟨w.heap.size, 2, none⟩ = some (.slice A l.length c)) g0)))
      have LX := Aside0.mk (And.intro (blk_lt X.out) (World.block_lt_of_cell? _ _ g0))
      clear hh f1 f2 f3 f4 f5 hrs hg g0 g1 g2 hn0 hlo hhi
      go_wp2_with fail
      refine start_ (n := 9) (S := (Below wr.heap.size wr)) (ds := [8]) #[false, false, false, false, false, false, false, false, false] (by kernel_rfl) rfl rfl ((Below.refl _ _).drew) (fun hHeld => ?_)
      refine with_tabW f28.tab6 f28.bits6 (fun HT_ HW_ => ?_)
      refine take_ (i := 0) (N := some 20) (v := ?_) (a' := ?_) #[true, false, false, false, false, false, false, false, false] rfl rfl (take_ofW HT_.out HW_.out (by kernel_rfl)) (fun _ _ _ h => h) (Or.inl ⟨by rfl, ?_⟩) hHeld ?_ ?_
      rotate_left
      · rintro w' hS
        have s0 := (hS.cell (p := ⟨w.heap.size, 0, none⟩) LX.out.1).trans QX.out.1
        have s1 := (hS.cell (p := ⟨w.heap.size, 1, none⟩) LX.out.1).trans QX.out.2.1
        have s2 := (hS.cell (p := ⟨w.heap.size, 2, none⟩) LX.out.1).trans QX.out.2.2.1
        have s3 := (hS.cell LX.out.2).trans QX.out.2.2.2
        clear hS
        go_simp
        with_reducible rfl
      rotate_left
      · simp only [Act.put, List.setIfInBounds_toArray, List.set_cons_zero, List.set_cons_succ, i64_w, i32_w]
        rfl
      refine take_ (i := 1) (N := some 21) (v := ?_) (a' := ?_) #[true, true, false, false, false, false, false, false, false] rfl rfl (take_ofW HT_.out HW_.out (by kernel_rfl)) (fun _ _ _ h => h) (Or.inl ⟨by rfl, ?_⟩) hHeld ?_ ?_
      rotate_left
      · rintro w' hS
        have s0 := (hS.cell (p := ⟨w.heap.size, 0, none⟩) LX.out.1).trans QX.out.1
        have s1 := (hS.cell (p := ⟨w.heap.size, 1, none⟩) LX.out.1).trans QX.out.2.1
        have s2 := (hS.cell (p := ⟨w.heap.size, 2, none⟩) LX.out.1).trans QX.out.2.2.1
        have s3 := (hS.cell LX.out.2).trans QX.out.2.2.2
        clear hS
        go_simp
        with_reducible rfl
      rotate_left
      · simp only [Act.put, List.setIfInBounds_toArray, List.set_cons_zero, List.set_cons_succ, i64_w, i32_w]
        rfl
      refine take_ (i := 2) (N := some 22) (v := ?_) (a' := ?_) #[true, true, true, false, false, false, false, false, false] rfl rfl (take_ofW HT_.out HW_.out (by kernel_rfl)) (fun _ _ _ h => h) (Or.inl ⟨by rfl, ?_⟩) hHeld ?_ ?_
      rotate_left
      · rintro w' hS
        have s0 := (hS.cell (p := ⟨w.heap.size, 0, none⟩) LX.out.1).trans QX.out.1
        have s1 := (hS.cell (p := ⟨w.heap.size, 1, none⟩) LX.out.1).trans QX.out.2.1
        have s2 := (hS.cell (p := ⟨w.heap.size, 2, none⟩) LX.out.1).trans QX.out.2.2.1
        have s3 := (hS.cell LX.out.2).trans QX.out.2.2.2
        clear hS
        go_simp
        with_reducible rfl
      rotate_left
      · simp only [Act.put, List.setIfInBounds_toArray, List.set_cons_zero, List.set_cons_succ, i64_w, i32_w]
        rfl
      refine take_ (i := 3) (N := some 23) (v := ?_) (a' := ?_) #[true, true, true, true, false, false, false, false, false] rfl rfl (take_ofW HT_.out HW_.out (by kernel_rfl)) (fun _ _ _ h => h) (Or.inl ⟨by rfl, ?_⟩) hHeld ?_ ?_
      rotate_left
      · rintro w' hS
        have s0 := (hS.cell (p := ⟨w.heap.size, 0, none⟩) LX.out.1).trans QX.out.1
        have s1 := (hS.cell (p := ⟨w.heap.size, 1, none⟩) LX.out.1).trans QX.out.2.1
        have s2 := (hS.cell (p := ⟨w.heap.size, 2, none⟩) LX.out.1).trans QX.out.2.2.1
        have s3 := (hS.cell LX.out.2).trans QX.out.2.2.2
        clear hS
        go_simp
        with_reducible rfl
      rotate_left
      · simp only [Act.put, List.setIfInBounds_toArray, List.set_cons_zero, List.set_cons_succ, i64_w, i32_w]
        rfl
      refine take_ (i := 4) (N := some 24) (v := ?_) (a' := ?_) #[true, true, true, true, true, false, false, false, false] rfl rfl (take_ofW HT_.out HW_.out (by kernel_rfl)) (fun _ _ _ h => h) (Or.inl ⟨by rfl, ?_⟩) hHeld ?_ ?_
      rotate_left
      · rintro w' hS
        have s0 := (hS.cell (p := ⟨w.heap.size, 0, none⟩) LX.out.1).trans QX.out.1
        have s1 := (hS.cell (p := ⟨w.heap.size, 1, none⟩) LX.out.1).trans QX.out.2.1
        have s2 := (hS.cell (p := ⟨w.heap.size, 2, none⟩) LX.out.1).trans QX.out.2.2.1
        have s3 := (hS.cell LX.out.2).trans QX.out.2.2.2
        clear hS
        go_simp
        with_reducible rfl
      rotate_left
      · simp only [Act.put, List.setIfInBounds_toArray, List.set_cons_zero, List.set_cons_succ, i64_w, i32_w]
        rfl
      refine take_ (i := 5) (N := some 25) (v := ?_) (a' := ?_) #[true, true, true, true, true, true, false, false, false] rfl rfl (take_ofW HT_.out HW_.out (by kernel_rfl)) (fun _ _ _ h => h) (Or.inl ⟨by rfl, ?_⟩) hHeld ?_ ?_
      rotate_left
      · rintro w' hS
        have s0 := (hS.cell (p := ⟨w.heap.size, 0, none⟩) LX.out.1).trans QX.out.1
        have s1 := (hS.cell (p := ⟨w.heap.size, 1, none⟩) LX.out.1).trans QX.out.2.1
        have s2 := (hS.cell (p := ⟨w.heap.size, 2, none⟩) LX.out.1).trans QX.out.2.2.1
        have s3 := (hS.cell LX.out.2).trans QX.out.2.2.2
        clear hS
        go_simp
        with_reducible rfl
      rotate_left
      · simp only [Act.put, List.setIfInBounds_toArray, List.set_cons_zero, List.set_cons_succ, i64_w, i32_w]
        rfl
      refine join_ (σ := Nat) 1 #[true, true, true, true, true, true, true, true, false] (fun s_ => [(26, .agg #[.int .i64 lo, .int .i64 hi]), (8, .pointer (some ⟨s_, 0, none⟩))]) (fun s_ w' => Below wr.heap.size wr w' ∧ w'.heap[s_]? = some (.cells #[.int .i64 0, .int .i64 0] 97 (0, 0)) ∧ wr.heap.size ≤ s_) ?_ ?_
      rotate_left
      · intro hCont
        refine two_ (i := 6) (j := 7) (Ni := some 26) (Nj := some 8) #[true, true, true, true, true, true, true, false, false] #[true, true, true, true, true, true, false, true, false] rfl rfl rfl rfl (two_of HT_.out (by kernel_rfl)) (by decide) (by decide) (fun K hK => ?_) (fun K hK => ?_)
        · refine goes_ Try.func55 (by kernel_rfl) rfl #[.agg #[.int .i64 L, .int .i64 st, .slice A l.length c], .slice A0 n0 c0, .int .i64 k] (by rfl) rfl rfl (by (try simp only [List.map_toArray, List.map_cons, List.map_nil]); first | done | rfl) ?_
          refine (refrank_n L st A c l A0 c0 rs k _ (Kd.C_below HC0.out hHeld) k2 k3 k4 HF.out.1 n0 HN0.out HF.out.2).mono ?_
          rintro e w6 ⟨rfl, hb6⟩
          rw [HLH.out.1, HLH.out.2]
          refine ⟨_, rfl, hK.out _ _ (hHeld.trans (hb6.mono hHeld.size)) ?_⟩
          clear hHeld hb6
          intro hHeld
          clear hK K
          refine norm_ (a' := ?_) ?_ ?_
          rotate_left
          · show Act.put _ (some 26) _ = _
            simp only [Act.put, List.setIfInBounds_toArray, List.set_cons_zero, List.set_cons_succ, i64_w, i32_w]
            rfl
          refine one_ (i := 7) (N := some 8) #[true, true, true, true, true, true, true, true, false] rfl rfl (one_of HT_.out (by kernel_rfl)) (by decide) (fun K hK => ?_)
          refine box_step ?hg (N := 8) ?hd (cs := #[.int .i64 0, .int .i64 0]) (t := 97) ?hr ?_; (case hd => rfl); (case hg => rfl); (case hr => first | (go_simp; done) | (go_simp; rfl))
          intro gb hgb w7 hbox hb7
          have GB := Aside0.mk (And.intro hbox (show wr.heap.size ≤ gb by rw [hgb]; exact hHeld.size))
          refine hK.out _ _ (hHeld.trans (hb7.mono hHeld.size)) ?_
          clear hHeld hbox hb7 hgb
          intro hHeld
          clear hK K
          refine norm_ (a' := ?_) ?_ ?_
          rotate_left
          · show Act.put _ (some 8) _ = _
            simp only [Act.put, List.setIfInBounds_toArray, List.set_cons_zero, List.set_cons_succ, i64_w, i32_w]
            rfl
          exact norm_ (by simp only [putAll, Act.put, List.setIfInBounds_toArray, List.set_cons_zero, List.set_cons_succ]) (hCont gb _ ⟨hHeld, GB.out.1, GB.out.2⟩)
        · refine box_step ?hg (N := 8) ?hd (cs := #[.int .i64 0, .int .i64 0]) (t := 97) ?hr ?_; (case hd => rfl); (case hg => rfl); (case hr => first | (go_simp; done) | (go_simp; rfl))
          intro gb hgb w7 hbox hb7
          have GB := Aside0.mk (And.intro hbox (show wr.heap.size ≤ gb by rw [hgb]; exact hHeld.size))
          refine hK.out _ _ (hHeld.trans (hb7.mono hHeld.size)) ?_
          clear hHeld hbox hb7 hgb
          intro hHeld
          clear hK K
          refine norm_ (a' := ?_) ?_ ?_
          rotate_left
          · show Act.put _ (some 8) _ = _
            simp only [Act.put, List.setIfInBounds_toArray, List.set_cons_zero, List.set_cons_succ, i64_w, i32_w]
            rfl
          refine one_ (i := 6) (N := some 26) #[true, true, true, true, true, true, true, true, false] rfl rfl (one_of HT_.out (by kernel_rfl)) (by decide) (fun K hK => ?_)
          refine goes_ Try.func55 (by kernel_rfl) rfl #[.agg #[.int .i64 L, .int .i64 st, .slice A l.length c], .slice A0 n0 c0, .int .i64 k] (by rfl) rfl rfl (by (try simp only [List.map_toArray, List.map_cons, List.map_nil]); first | done | rfl) ?_
          refine (refrank_n L st A c l A0 c0 rs k _ (Kd.C_below HC0.out hHeld) k2 k3 k4 HF.out.1 n0 HN0.out HF.out.2).mono ?_
          rintro e w6 ⟨rfl, hb6⟩
          rw [HLH.out.1, HLH.out.2]
          replace GB := Aside0.mk (And.intro (blk_below GB.out.1 hb6) GB.out.2)
          refine ⟨_, rfl, hK.out _ _ (hHeld.trans (hb6.mono hHeld.size)) ?_⟩
          clear hHeld hb6
          intro hHeld
          clear hK K
          refine norm_ (a' := ?_) ?_ ?_
          rotate_left
          · show Act.put _ (some 26) _ = _
            simp only [Act.put, List.setIfInBounds_toArray, List.set_cons_zero, List.set_cons_succ, i64_w, i32_w]
            rfl
          exact norm_ (by simp only [putAll, Act.put, List.setIfInBounds_toArray, List.set_cons_zero, List.set_cons_succ]) (hCont gb _ ⟨hHeld, GB.out.1, GB.out.2⟩)
      rintro gb w30 ⟨hHeld, hgb, hgl⟩
      have GB := Aside0.mk (And.intro hgb hgl)
      have HBG := Aside0.mk hHeld
      have t0 := (blk_cell hgb 0).trans rfl
      have t1 := (blk_cell hgb 1).trans rfl
      have t2 := blk_frozen hgb 0
      have t3 := blk_frozen hgb 1
      clear hgb hgl
      refine norm_ (a' := ?_) ?_ ?_
      rotate_left
      · simp only [putAll, Act.put, List.setIfInBounds_toArray, List.set_cons_zero, List.set_cons_succ]
        rfl
      refine last_ (i := 8) (N := none) #[true, true, true, true, true, true, true, true, true] rfl rfl (one_of HT_.out (by kernel_rfl)) (by decide) (fun K hK => ?_)
      refine skip_ (w1 := ?_) (by rfl) rfl ?_ ?_
      rotate_left
      · go_simp
        rfl
      refine hK.out _ _ ?_
      clear hK K
      refine done_ (done_of HT_.out (by kernel_rfl)) ?_
      have hbg : Below wr.heap.size wr ((w30.setCell ⟨gb, 0, none⟩ (.int .i64 lo)).setCell ⟨gb, 1, none⟩ (.int .i64 hi)) := below_set (below_set HBG.out GB.out.2) GB.out.2
      have HGB := Aside0.mk (blk_put (blk_put GB.out.1 0 (.int .i64 lo) rfl) 1 (.int .i64 hi) rfl)
      replace KB := Aside0.mk (KB.out.trans (hbg.mono KB.out.size))
      replace X := Aside0.mk (blk_below X.out hbg)
      replace RC := Aside0.mk (blk_below RC.out hbg)
      have HNG : Aside0 (gb ≠ gBO) := ⟨by have := blk_lt BO.out; have := GB.out.2; omega⟩
      replace BO := Aside0.mk (blk_below BO.out hbg)
      replace HA := Aside0.mk (Kd.R_below HA.out hbg)
      clear t0 t1 t2 t3 hbg
      generalize ((w30.setCell ⟨gb, 0, none⟩ (.int .i64 lo)).setCell ⟨gb, 1, none⟩ (.int .i64 hi)) = W at KB X RC BO HA HGB ⊢
      have u0 := (blk_cell HGB.out 0).trans rfl
      have u1 := (blk_cell HGB.out 1).trans rfl
      have f0 := blk_frozen BO.out 0
      have f1 := blk_frozen BO.out 1
      have qBO0 : W.cell? ⟨gBO, 0, none⟩ = some (.int .i64 a) := (blk_cell BO.out 0).trans rfl
      have qBO1 : W.cell? ⟨gBO, 1, none⟩ = some (.int .i64 b) := (blk_cell BO.out 1).trans rfl
      have lBO := blk_lt BO.out
      go_wp2_with fail
      go_roundw
      case rel =>
        have z1 := set2 (x := .int .i64 (if lo < a then lo else a)) (y := .int .i64 (if b < hi then hi else b)) BO.out
        refine ⟨jn + 1, (if lo < a then lo else a), (if b < hi then hi else b), by omega, by go_num, ⟨?_, ?_⟩, ⟨z1.1⟩, ⟨z1.2.2 _ KB.out (Nat.le_of_lt NBO_X.out)⟩, ⟨(z1.2.1 _ (Nat.ne_of_lt NBO_X.out)).trans X.out⟩, ⟨(z1.2.1 _ (Nat.ne_of_lt NBO_RC.out)).trans RC.out⟩, ⟨R_keepB HA.out BO.out (by decide) z1.2.1⟩⟩
        · rw [HT.out, List.map_append, List.foldl_append, ← hms.out.1, List.map_cons, List.map_nil, HLK.out.1]
          show _ = min a lo
          split <;> omega
        · rw [HT.out, List.map_append, List.foldl_append, ← hms.out.2, List.map_cons, List.map_nil, HLK.out.2]
          show _ = max b hi
          split <;> omega
      case measure => simp [intOf]; omega
    · have hj6 : decide ((jn : Int) < (nh : Int)) = false := decide_eq_false (by omega)
      have htk : (hists L st (l.map up)).take jn = hists L st (l.map up) := List.take_of_length_le (by rw [← HHL.out]; omega)
      rw [htk] at hms
      have hef := endN_fold HCK.out HNE.out k (by rw [List.length_map]; exact HKL.out.1)
      rw [← hms.out.1, ← hms.out.2] at hef
      have HEF := Aside0.mk hef
      clear htk hms hef
      have r0 : wr.cell? ⟨w.heap.size + 1, 0, none⟩ = some (.int .i64 0) := (blk_cell RC.out 0).trans rfl
      have r1 : wr.cell? ⟨w.heap.size + 1, 1, none⟩ = some (.int .i64 0) := (blk_cell RC.out 1).trans rfl
      have r2 := blk_frozen RC.out 0
      have r3 := blk_frozen RC.out 1
      have qBO0 : wr.cell? ⟨gBO, 0, none⟩ = some (.int .i64 a) := (blk_cell BO.out 0).trans rfl
      have qBO1 : wr.cell? ⟨gBO, 1, none⟩ = some (.int .i64 b) := (blk_cell BO.out 1).trans rfl
      have lBO := blk_lt BO.out
      go_wp2_with fail
      have HYe := blk_put (cs := #[.int .i64 a, .int .i64 0]) (blk_put RC.out 0 (.int .i64 a) rfl) 1 (.int .i64 b) rfl
      have y4 := (blk_cell HYe 0).trans rfl
      have y5 := (blk_cell HYe 1).trans rfl
      refine bodyPost_ret (v := .agg #[.int .i64 a, .int .i64 b]) (by simp [results, Try.f28, go_sem, y4, y5]) rfl ⟨by rw [← HEF.out.1, ← HEF.out.2], ?_⟩
      exact below_set (below_set KB.out (by simp)) (by simp)
end
end Go.Proofs.Ytkglggggmlnleaa.Print
