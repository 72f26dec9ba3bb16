/- The law of the runs, walked by hand. -/
import Derived.Test.YtkglggggmlnleaaSd
import Derived.Test.YtkglggggmlnleaaPq
import Derived.Test.YtkglggggmlnleaaHr
import Derived.Test.YtkglggggmlnleaaRu
namespace Go.Proofs.Ytkglggggmlnleaa.Print
open Go.RowKit Go.Proofs.YtkglggggmlnleaaW.PrintWords Go.Proofs.YtkglggggmlnleaaW.PrintLast Go.Proofs.YtkglggggmlnleaaW.PrintMore
set_option linter.unusedVariables false
set_option linter.unusedSimpArgs false
def f11.T18 : Bool × List (List Nat × List Nat) := (true, [([], []), ([0], [0]), ([], []), ([2], [2]), ([], []), ([], []), ([4, 5], [4, 5]), ([6], [6]), ([1, 3, 7], [1, 3, 7]), ([], []), ([8, 9], [8, 9]), ([10], [10]), ([11, 8, 0, 1, 2, 3, 4, 5, 6, 7, 8, 9, 10, 11], [11])])
def f11.B18 : List Nat := [0, 1, 0, 4, 0, 0, 48, 112, 255, 0, 1023, 2047, 4095]
theorem f11.tab18 : rtab .any (opsOf Try.f11 18) = f11.T18 := by kernel_rfl
theorem f11.bits18 : waitsOk f11.T18.2 f11.B18 = true := by kernel_rfl
/-- A row of rows, element by element. -/
theorem cellRow {w : World} {A : Option Addr} {xss : List (List Int)} {n : Nat} (h : Kd.C sl8 w A n xss) (j : Nat) (hj : j < n) (xs : List Int) (hx : xss[j]? = some xs) : ∃ ad A0 c0, A = some ad ∧ w.cell? (ad.add j) = some (.slice A0 xs.length c0) ∧ xs.length ≤ c0 ∧ Kd.C (Kd.int .u8) w A0 xs.length xs := by
  obtain ⟨ad, cs, e, hs, hK, hcell⟩ := ReadsRow.get_ h [] (j : Int) (by omega) (by omega)
  rw [Int.toNat_natCast, List.getD_eq_getElem?_getD, hx] at hK
  obtain ⟨A0, c0, rfl, hl, hC⟩ := hK
  refine ⟨ad, A0, c0, e, ?_, hl, hC⟩
  have := hcell 0 _ rfl
  rw [Int.toNat_natCast] at this
  have e2 : j * sl8.sz + 0 = j := by show j * 1 + 0 = j; omega
  rw [e2] at this
  exact this
theorem refH_get (L st : Int) (l : List S43) (j : Nat) (h : List (Int × Int)) (hh : (hists L st (l.map up))[j]? = some h) : (refH L st l)[j]? = some (h.map (·.1)) := by
  unfold refH
  rw [List.getElem?_map, hh]; rfl
theorem hist_facts {L st : Int} {xs : List S67} (hck : checkI L st xs = 0) {h : List (Int × Int)} (hh : h ∈ hists L st xs) : histOf L st (h.map (·.1)) = h ∧ (h.map (·.1)).length = xs.length ∧ xs.length ≤ 14 ∧ (∀ r ∈ h.map (·.1), 0 ≤ r ∧ r < 3) ∧ walkB L st xs (h.map (·.1)) = true := by
  obtain ⟨k1, k2, k3, k4, k5⟩ := check_ok hck
  obtain ⟨a1, a2, a3, a4⟩ := (hists_iff L xs st h).1 hh
  refine ⟨a2.symm, by simp [a1], k5, ?_, a4⟩
  intro r hr
  obtain ⟨p, hp, rfl⟩ := List.mem_map.1 hr
  exact a3 p hp

theorem rowsC {w : World} {A : Option Addr} {n c : Nat} {ok : Nat → Prop} {xss : List (List Int)} (h : Kd.R sl8 41 w 0 ok (.slice A n c) xss) : Kd.C sl8 w A n xss := by
  obtain ⟨A', c', he, hl, hC⟩ := Kd.R_reads h
  injection he with h1 h2 h3
  subst h1 h2
  exact hC
theorem histOf_at (L : Int) : ∀ (rs : List Int) (l : Int) (j : Nat) (hj : j < rs.length), (histOf L l rs)[j]? = some (rs[j], aft L l (rs.take j))
  | [], l, j, h => by simp at h
  | r :: rs, l, 0, h => by simp [histOf, aft]
  | r :: rs, l, j + 1, h => by
    simp only [histOf, List.getElem?_cons_succ, List.take_succ_cons, aft, List.getElem_cons_succ]
    exact histOf_at L rs _ j (by simpa using h)
theorem RunsOut.below {L st : Int} {l : List S67} {w w1 : World} {vs vr : Value} (h : RunsOut L st l w vs vr) (hb : Below w.heap.size w w1) : RunsOut L st l w1 vs vr := by
  unfold RunsOut at *
  split
  · rename_i h0
    rw [if_pos h0] at h
    obtain ⟨gl, gr, h1, h2, h3, h4⟩ := h
    exact ⟨gl, gr, h1, h2, Kd.C_below h3 hb, Kd.C_below h4 hb⟩
  · rename_i h0
    rwa [if_neg h0] at h
/-- Three Bools. -/
def threeB (m : Nat → Bool) : Array Value := #[.bool (m 0), .bool (m 1), .bool (m 2)]
theorem threeB_get (m : Nat → Bool) (d : Nat) (hd : d < 3) : (threeB m)[d]? = some (.bool (m d)) := by
  match d, hd with
  | 0, _ => rfl
  | 1, _ => rfl
  | 2, _ => rfl
theorem threeB_set (m m' : Nat → Bool) (d : Nat) (hd : d < 3) (h : ∀ r, r < 3 → m' r = (m r || decide (r = d))) : (threeB m).setIfInBounds d (.bool true) = threeB m' := by
  match d, hd with
  | 0, _ => simp [threeB, h 0, h 1, h 2]
  | 1, _ => simp [threeB, h 0, h 1, h 2]
  | 2, _ => simp [threeB, h 0, h 1, h 2]
/-- Which results have been met. -/
def seenB (H : List (List (Int × Int))) (i : Nat) (r : Nat) : Bool := decide ((r : Int) ∈ rsAt H i)
theorem lvAt_take (H : List (List (Int × Int))) (j i : Nat) (h : List (Int × Int)) (hh : H[j]? = some h) (m : Int) (hm : (h.getD i (0, 0)).2 = m) : lvAt (H.take (j + 1)) i = lvAt (H.take j) i ++ [m] := by
  rw [List.take_add_one, hh, ← hm]
  simp [lvAt]
theorem rsAt_take (H : List (List (Int × Int))) (j i : Nat) (h : List (Int × Int)) (hh : H[j]? = some h) : rsAt (H.take (j + 1)) i = rsAt (H.take j) i ++ [(h.getD i (0, 0)).1] := by
  rw [List.take_add_one, hh]
  simp [rsAt]
theorem seenB_take (H : List (List (Int × Int))) (j i : Nat) (h : List (Int × Int)) (hh : H[j]? = some h) (d : Nat) (hd : (h.getD i (0, 0)).1 = d) (r : Nat) : seenB (H.take (j + 1)) i r = (seenB (H.take j) i r || decide (r = d)) := by
  unfold seenB
  rw [rsAt_take H j i h hh, hd, Bool.eq_iff_iff, Bool.or_eq_true, decide_eq_true_eq, decide_eq_true_eq, decide_eq_true_eq, List.mem_append, List.mem_singleton, show ((r : Int) = (d : Int)) ↔ r = d by omega]
theorem same_n (A : Option Addr) (c : Nat) (l : List Int) (A1 : Option Addr) (c1 n : Nat) (hn : l.length = n) (w : World) (hl : n ≤ 1000) (hr : Kd.C (Kd.int .u8) w A n l) (hr1 : Kd.C (Kd.int .u8) w A1 n l) :
    Calls Try.prog 42 #[.slice A n c, .slice A1 n c1] w fun e w' => e = .returned (.bool true) ∧ Below w.heap.size w w' := by
  subst hn
  exact same_calls A c l A1 c1 w hl hr hr1 _ rfl
theorem RunsOut.ok {L st : Int} {l : List S67} {w : World} {vs vr : Value} (h : RunsOut L st l w vs vr) (h0 : possI L st l = 0) (n : Nat) (hn : l.length = n) : ∃ Al Ar, vs = .slice Al n n ∧ vr = .slice Ar n n ∧
    Kd.C k28 w Al n ((List.range n).map fun i => (⟨(sp (lvAt (hists L st l) i)).1, (sp (lvAt (hists L st l) i)).2⟩ : S28)) ∧ Kd.C sl8 w Ar n ((List.range n).map fun i => rowR (rsAt (hists L st l) i)) := by
  subst hn
  unfold RunsOut at h
  rw [if_pos h0] at h
  obtain ⟨gl, gr, h1, h2, h3, h4⟩ := h
  exact ⟨_, _, h1, h2, h3, h4⟩
theorem RunsOut.no {L st : Int} {l : List S67} {w : World} {vs vr : Value} (h : RunsOut L st l w vs vr) (h0 : possI L st l ≠ 0) : vs = .slice none 0 0 ∧ vr = .slice none 0 0 := by
  unfold RunsOut at h
  rwa [if_neg h0] at h
theorem levels_n (L st : Int) (A : Option Addr) (c : Nat) (rs : List Int) (n : Nat) (hn0 : rs.length = n) (w : World) (hr : Kd.C (Kd.int .u8) w A n rs) (hL : L ≤ 8) (h0 : 0 ≤ st) (h1 : st < L) (hn : n ≤ 1000) :
    Calls Try.prog 41 #[.int .i64 L, .int .i64 st, .slice A n c] w fun e w' => ∃ A' c', e = .returned (.slice A' n c') ∧ Kd.C (Kd.int .i64) w' A' n (lvls L st rs) ∧ Below w.heap.size w w' := by
  subst hn0
  refine (levels_calls L st A c rs w hr hL h0 h1 hn).mono ?_
  rintro e w' ⟨v, rfl, hR, hb⟩
  obtain ⟨A', c', rfl, _, hC⟩ := Kd.R_reads hR
  rw [lvls_len] at hC ⊢
  exact ⟨A', c', rfl, hC, hb⟩
theorem lvls_cell {w : World} {A : Option Addr} {n : Nat} {L st : Int} {rs : List Int} (hn : rs.length = n) (h : Kd.C (Kd.int .i64) w A n (lvls L st rs)) (j : Nat) (hj : j < n) (m : Int) (hm : aft L st (rs.take j) = m) : ∃ ad, A = some ad ∧ w.cell? (ad.add j) = some (.int .i64 m) := by
  subst hn
  have hl : (lvls L st rs).length = rs.length := lvls_len L rs st
  rw [← hl] at h
  obtain ⟨ad, rfl, g⟩ := cellU h j (by rw [hl]; exact hj)
  refine ⟨ad, rfl, g.trans ?_⟩
  have h2 := lvls_get L rs st j hj
  rw [List.getElem?_eq_getElem (by rw [hl]; exact hj)] at h2
  injection h2 with h2
  rw [h2, hm]
theorem rowR_take (rs : List Int) (j : Nat) (hj : j < 3) : ([0, 1, 2].take (j + 1)).filter (fun r : Int => decide (r ∈ rs)) = ([0, 1, 2].take j).filter (fun r : Int => decide (r ∈ rs)) ++ if decide ((j : Int) ∈ rs) = true then [(j : Int)] else [] := by
  match j, hj with
  | 0, _ => by_cases h : (0 : Int) ∈ rs <;> simp [h]
  | 1, _ => by_cases h : (0 : Int) ∈ rs <;> by_cases h1 : (1 : Int) ∈ rs <;> simp [h, h1]
  | 2, _ => by_cases h : (0 : Int) ∈ rs <;> by_cases h1 : (1 : Int) ∈ rs <;> by_cases h2 : (2 : Int) ∈ rs <;> simp [h, h1, h2]
section
attribute [local go_sem] max2_int min2_int max_two min_two
set_option maxHeartbeats 4000000 in
set_option maxRecDepth 100000 in
theorem law_runs (L st : Int) (A : Option Addr) (c : Nat) (l : List S43) (w : World) (hr : Kd.C k43 w A l.length l) (hc : l.length ≤ c) (hl : l.length < 8796093022208) :
    Calls Try.prog 11 #[.agg #[.int .i64 L, .int .i64 st, .slice A l.length c]] w fun e w' => e = .returned (.bool true) ∧ Below w.heap.size w w' := by
  have hu24 := Try.underlying24
  have HR := Aside0.mk hr
  have HC := Aside0.mk hc
  clear hr hc
  have KB : Aside0 (Below w.heap.size w (w.alloc (.cells #[.int .i64 L, .int .i64 st, .slice A l.length c] 24))) := ⟨(Below.refl _ w).alloc (by simp) _⟩
  have X := Aside0.mk (blk_new w (.cells #[.int .i64 L, .int .i64 st, .slice A l.length c] 24))
  obtain ⟨xs, hxs⟩ : ∃ xs, l.map up = xs := ⟨_, rfl⟩
  have HX := Aside0.mk hxs
  clear hxs
  have HLT : Aside0 (w.heap.size < (w.alloc (.cells #[.int .i64 L, .int .i64 st, .slice A l.length c] 24)).heap.size) := ⟨by simp⟩
  go_enter Try.func11, Try.ntmps11
  go_wp2_with fail
  generalize w.alloc (.cells #[.int .i64 L, .int .i64 st, .slice A l.length c] 24) = w0 at KB X HLT ⊢
  have qX0 : w0.cell? ⟨w.heap.size, 0, none⟩ = some (.int .i64 L) := (blk_cell X.out 0).trans rfl
  have qX1 : w0.cell? ⟨w.heap.size, 1, none⟩ = some (.int .i64 st) := (blk_cell X.out 1).trans rfl
  have qX2 : w0.cell? ⟨w.heap.size, 2, none⟩ = some (.slice A l.length c) := (blk_cell X.out 2).trans rfl
  have lX := blk_lt X.out
  have hu28 := Try.underlying28
  obtain ⟨tb, htb⟩ : ∃ tb, decide (l.length ≤ 20) = tb := ⟨_, rfl⟩
  have HTB := Aside0.mk htb
  clear htb
  refine (thin_calls L st A c l _ (Kd.C_below HR.out KB.out) HC.out tb HTB.out).mono ?_
  rintro e w1 ⟨rfl, hb1⟩
  clear qX0 qX1 qX2 lX
  replace KB := Aside0.mk (KB.out.trans (hb1.mono KB.out.size))
  replace X := Aside0.mk (blk_below X.out hb1)
  clear hb1
  have qX0 : w1.cell? ⟨w.heap.size, 0, none⟩ = some (.int .i64 L) := (blk_cell X.out 0).trans rfl
  have qX1 : w1.cell? ⟨w.heap.size, 1, none⟩ = some (.int .i64 st) := (blk_cell X.out 1).trans rfl
  have qX2 : w1.cell? ⟨w.heap.size, 2, none⟩ = some (.slice A l.length c) := (blk_cell X.out 2).trans rfl
  have lX := blk_lt X.out
  cases tb with
  | false =>
    go_wp2_with fail
    refine (awake_calls _).mono ?_
    rintro e w2 ⟨rfl, hb2⟩
    clear qX0 qX1 qX2 lX
    replace KB := Aside0.mk (KB.out.trans (hb2.mono KB.out.size))
    replace X := Aside0.mk (blk_below X.out hb2)
    clear hb2
    have qX0 : w2.cell? ⟨w.heap.size, 0, none⟩ = some (.int .i64 L) := (blk_cell X.out 0).trans rfl
    have qX1 : w2.cell? ⟨w.heap.size, 1, none⟩ = some (.int .i64 st) := (blk_cell X.out 1).trans rfl
    have qX2 : w2.cell? ⟨w.heap.size, 2, none⟩ = some (.slice A l.length c) := (blk_cell X.out 2).trans rfl
    have lX := blk_lt X.out
    go_wp2_with fail
    go_ret
    exact ⟨rfl, KB.out⟩
  | true =>
    have hl20 : l.length ≤ 20 := of_decide_eq_true HTB.out
    have HXL : Aside0 (xs.length = l.length) := ⟨by rw [← HX.out]; simp⟩
    obtain ⟨pv, hpv⟩ : ∃ pv, possI L st xs = pv := ⟨_, rfl⟩
    have HPV := Aside0.mk hpv
    clear hpv
    go_wp2_with fail
    refine (stairs_calls L st A c l _ (Kd.C_below HR.out KB.out) HC.out (by omega) xs HX.out).mono ?_
    rintro e w3 ⟨⟨A1, c1, rfl, HC1⟩, hb3⟩
    clear qX0 qX1 qX2 lX
    replace KB := Aside0.mk (KB.out.trans (hb3.mono KB.out.size))
    replace X := Aside0.mk (blk_below X.out hb3)
    clear hb3
    have qX0 : w3.cell? ⟨w.heap.size, 0, none⟩ = some (.int .i64 L) := (blk_cell X.out 0).trans rfl
    have qX1 : w3.cell? ⟨w.heap.size, 1, none⟩ = some (.int .i64 st) := (blk_cell X.out 1).trans rfl
    have qX2 : w3.cell? ⟨w.heap.size, 2, none⟩ = some (.slice A l.length c) := (blk_cell X.out 2).trans rfl
    have lX := blk_lt X.out
    go_wp2_with fail
    refine (runs_n L st A1 c1 xs xs.length _ rfl HC1.out.1 HC1.out.2).mono ?_
    rintro e w4 ⟨vs, vr, rfl, hO, hb4⟩
    clear qX0 qX1 qX2 lX
    replace KB := Aside0.mk (KB.out.trans (hb4.mono KB.out.size))
    replace X := Aside0.mk (blk_below X.out hb4)
    rw [HPV.out]
    have HO := Aside0.mk hO
    clear hO
    clear hb4
    have qX0 : w4.cell? ⟨w.heap.size, 0, none⟩ = some (.int .i64 L) := (blk_cell X.out 0).trans rfl
    have qX1 : w4.cell? ⟨w.heap.size, 1, none⟩ = some (.int .i64 st) := (blk_cell X.out 1).trans rfl
    have qX2 : w4.cell? ⟨w.heap.size, 2, none⟩ = some (.slice A l.length c) := (blk_cell X.out 2).trans rfl
    have lX := blk_lt X.out
    go_wp2_with fail
    refine (law_asked_calls L st A c l _ (Kd.C_below HR.out KB.out) HC.out (by omega)).mono ?_
    rintro e w5 ⟨rfl, hb5⟩
    clear qX0 qX1 qX2 lX
    replace KB := Aside0.mk (KB.out.trans (hb5.mono KB.out.size))
    replace X := Aside0.mk (blk_below X.out hb5)
    replace HO := Aside0.mk (RunsOut.below HO.out hb5)
    rw [HX.out, HPV.out]
    clear hb5
    have qX0 : w5.cell? ⟨w.heap.size, 0, none⟩ = some (.int .i64 L) := (blk_cell X.out 0).trans rfl
    have qX1 : w5.cell? ⟨w.heap.size, 1, none⟩ = some (.int .i64 st) := (blk_cell X.out 1).trans rfl
    have qX2 : w5.cell? ⟨w.heap.size, 2, none⟩ = some (.slice A l.length c) := (blk_cell X.out 2).trans rfl
    have lX := blk_lt X.out
    by_cases hp : pv = 0
    · subst hp
      obtain ⟨hck, hne⟩ := poss_0 HPV.out
      have HCK := Aside0.mk hck
      have HNE := Aside0.mk hne
      have HCKL : Aside0 (checkI L st (l.map up) = 0) := ⟨by rw [HX.out]; exact hck⟩
      obtain ⟨k1, k2, k3, k4, k5⟩ := check_ok hck
      have HN14 : Aside0 (l.length ≤ 14) := ⟨by have := HXL.out; omega⟩
      clear hck hne k1 k5
      obtain ⟨Al, Ar, rfl, rfl, hCl, hCr⟩ := HO.out.ok HPV.out l.length HXL.out
      have HL := Aside0.mk hCl
      have HRR := Aside0.mk hCr
      clear hCl hCr HO
      have n1 : ((l.length : Int) == (l.length : Int)) = true := beq_iff_eq.2 rfl
      have n2 : ((l.length : Int) != (l.length : Int)) = false := bne_eq_false_iff_eq.2 rfl
      have n3 : (l.length == l.length) = true := beq_iff_eq.2 rfl
      go_wp2_with fail
      refine (allhist_calls L st A c l _ HCKL.out (Kd.C_below HR.out KB.out) HC.out).mono ?_
      rintro e w6 ⟨v9, rfl, hR9, hb6⟩
      clear qX0 qX1 qX2 lX
      replace KB := Aside0.mk (KB.out.trans (hb6.mono KB.out.size))
      replace X := Aside0.mk (blk_below X.out hb6)
      replace HL := Aside0.mk (Kd.C_below HL.out hb6)
      replace HRR := Aside0.mk (Kd.C_below HRR.out hb6)
      obtain ⟨A9, c9, rfl, hc9, hC9⟩ := Kd.R_reads hR9
      have HA := Aside0.mk (Kd.R_lower hR9 (Nat.zero_le _))
      clear hC9 hc9 hR9
      clear hb6
      have qX0 : w6.cell? ⟨w.heap.size, 0, none⟩ = some (.int .i64 L) := (blk_cell X.out 0).trans rfl
      have qX1 : w6.cell? ⟨w.heap.size, 1, none⟩ = some (.int .i64 st) := (blk_cell X.out 1).trans rfl
      have qX2 : w6.cell? ⟨w.heap.size, 2, none⟩ = some (.slice A l.length c) := (blk_cell X.out 2).trans rfl
      have lX := blk_lt X.out
      clear n1 n2 n3
      have HHL : Aside0 ((refH L st l).length = (hists L st xs).length) := ⟨by unfold refH; rw [HX.out]; simp⟩
      obtain ⟨nh, hnh⟩ : ∃ nh, (refH L st l).length = nh := ⟨_, rfl⟩
      rw [hnh] at HA HHL ⊢
      have HBD : Aside0 (nh ≤ 4782969) := ⟨by rw [← hnh]; exact refH_len L st l (by have := (check_ok HCKL.out).2.2.2.2; simpa using this)⟩
      clear hnh
      go_wp2_with fail
      clear qX0 qX1 qX2 lX
      have hb0 := HBD.out
      go_loopw [8] (fun i wr => ∃ jn : Nat, jn ≤ l.length ∧ i = .int .i64 jn ∧ Aside0 (Below w.heap.size w wr) ∧ Aside0 (wr.heap[w.heap.size]? = some (.cells #[.int .i64 L, .int .i64 st, .slice A l.length c] 24 (0, 0))) ∧ Aside0 (Kd.C k28 wr Al l.length ((List.range l.length).map fun i => (⟨(sp (lvAt (hists L st xs) i)).1, (sp (lvAt (hists L st xs) i)).2⟩ : S28))) ∧ Aside0 (Kd.C sl8 wr Ar l.length ((List.range l.length).map fun i => rowR (rsAt (hists L st xs) i))) ∧ Aside0 (Kd.R sl8 41 wr 0 (fun _ => True) (.slice A9 nh c9) (refH L st l))) (fun i _ => l.length - (intOf i).toNat)
      case atStart => exact ⟨0, by omega, rfl, KB, X, HL, HRR, HA⟩
      case round =>
        clear KB X HL HRR HA
        obtain ⟨jn, hj, rfl, KB, X, HL, HRR, HA⟩ := hrel
        have qX0 : wr.cell? ⟨w.heap.size, 0, none⟩ = some (.int .i64 L) := (blk_cell X.out 0).trans rfl
        have qX1 : wr.cell? ⟨w.heap.size, 1, none⟩ = some (.int .i64 st) := (blk_cell X.out 1).trans rfl
        have qX2 : wr.cell? ⟨w.heap.size, 2, none⟩ = some (.slice A l.length c) := (blk_cell X.out 2).trans rfl
        have lX := blk_lt X.out
        by_cases hj3 : jn < l.length
        · obtain ⟨wo, hwo⟩ : ∃ W : World, W = wr := ⟨_, rfl⟩
          subst hwo
          have hj6 : decide ((jn : Int) < (l.length : Int)) = true := decide_eq_true (by omega)
          have hj7 : (jn : Int) < (l.length : Int) := by omega
          have hj8 : (l.length : Int) ≤ 14 := by have := HN14.out; omega
          have HJ0 : Aside0 (jn < l.length) := ⟨hj3⟩
          go_wp2_with fail
          clear qX0 qX1 qX2 lX
          have NX := Aside0.mk (blk_lt X.out)
          have SE : Aside0 ((wo.alloc (.cells #[.bool false, .bool false, .bool false] 72)).heap[wo.heap.size]? = some (.cells (threeB (seenB ((hists L st xs).take 0) jn)) 72 (0, 0))) := ⟨blk_new wo _⟩
          have hbS : Below wo.heap.size wo (wo.alloc (.cells #[.bool false, .bool false, .bool false] 72)) := (Below.refl _ _).alloc (Nat.le_refl _) _
          have HBS := Aside0.mk hbS
          obtain ⟨gS, hgS⟩ : ∃ g, wo.heap.size = g := ⟨_, rfl⟩
          have HGS : Aside0 (gS = wo.heap.size) := ⟨hgS.symm⟩
          rw [hgS] at SE NX ⊢
          clear hgS hbS
          generalize wo.alloc (.cells #[.bool false, .bool false, .bool false] 72) = w4 at SE HBS ⊢
          go_loopw [9, 10, 12] (fun lo hi k wq => ∃ (kn : Nat) (a b : Int), kn ≤ nh ∧ k = .int .i64 kn ∧ lo = .int .i64 a ∧ hi = .int .i64 b ∧ Aside0 (a = (lvAt ((hists L st xs).take kn) jn).foldl min L ∧ b = (lvAt ((hists L st xs).take kn) jn).foldl max (-1)) ∧ Aside0 (wq.heap[gS]? = some (.cells (threeB (seenB ((hists L st xs).take kn) jn)) 72 (0, 0))) ∧ Aside0 (Below wo.heap.size wo wq)) (fun _ _ k _ => nh - (intOf k).toNat)
          case atStart => exact ⟨0, L, -1, by omega, rfl, rfl, rfl, ⟨by simp [lvAt]⟩, SE, HBS⟩
          case round =>
            clear SE HBS
            obtain ⟨kn, a, b, hk, rfl, rfl, rfl, HAB, SE, HBQ⟩ := hrel
            by_cases hk3 : kn < nh
            · have hk6 : decide ((kn : Int) < (nh : Int)) = true := decide_eq_true (by omega)
              have hk7 : (kn : Int) < (nh : Int) := by omega
              obtain ⟨h, hh⟩ : ∃ h, (hists L st xs)[kn]? = some h := ⟨_, List.getElem?_eq_getElem (by rw [← HHL.out]; exact hk3)⟩
              obtain ⟨f1, f2, f3, f4, f5⟩ := hist_facts HCK.out (List.mem_of_getElem? hh)
              obtain ⟨rs, hrs⟩ : ∃ rs, h.map (·.1) = rs := ⟨_, rfl⟩
              have hg := refH_get L st l kn h (by rw [HX.out]; exact hh)
              rw [hrs] at f1 f2 f4 hg
              obtain ⟨ad, A0, c0, rfl, g0, g1, g2⟩ := cellRow (Kd.C_below (rowsC HA.out) HBQ.out) kn hk3 rs hg
              have hn0 : rs.length = l.length := by rw [f2, HXL.out]
              rw [hn0] at g0 g1 g2
              have HN0 := Aside0.mk hn0
              have HC0 := Aside0.mk g2
              have HF := Aside0.mk (And.intro f4 (show rs.length ≤ 14 by omega))
              obtain ⟨m, hm⟩ : ∃ m, aft L st (rs.take jn) = m := ⟨_, rfl⟩
              have HMM := Aside0.mk hm
              have hat := histOf_at L rs st jn (by omega)
              rw [f1, hm] at hat
              obtain ⟨rn, hrn⟩ : ∃ rn : Nat, rs[jn]'(by omega) = (rn : Int) := ⟨(rs[jn]'(by omega)).toNat, by have := (f4 _ (List.getElem_mem (by omega : jn < rs.length))).1; omega⟩
              have hr3 : rn < 3 := by have := (f4 _ (List.getElem_mem (by omega : jn < rs.length))).2; omega
              rw [hrn] at hat
              have hgd : h.getD jn (0, 0) = ((rn : Int), m) := by rw [List.getD_eq_getElem?_getD, hat]; rfl
              have HT1 := Aside0.mk (lvAt_take (hists L st xs) kn jn h hh m (by rw [hgd]))
              have HT2 := Aside0.mk (seenB_take (hists L st xs) kn jn h hh rn (by rw [hgd]))
              obtain ⟨ad0, hA0, g3⟩ := cellU (show Kd.C (Kd.int .u8) _ A0 rs.length rs by rw [hn0]; exact HC0.out) jn (by omega)
              subst hA0
              rw [hrn] at g3
              have qx0 := (blk_cell (blk_below X.out HBQ.out) 0).trans (rfl : _ = some (Value.int .i64 L))
              have qx1 := (blk_cell (blk_below X.out HBQ.out) 1).trans (rfl : _ = some (Value.int .i64 st))
              have QX := Aside0.mk (And.intro qx0 (And.intro qx1 g0))
              have LX := Aside0.mk (And.intro (blk_lt (blk_below X.out HBQ.out)) (World.block_lt_of_cell? _ _ g0))
              have G3 := Aside0.mk (And.intro g0 g3)
              have LG := Aside0.mk (And.intro (World.block_lt_of_cell? _ _ g0) (World.block_lt_of_cell? _ _ g3))
              clear hh f1 f2 f3 f4 f5 hrs hg g0 g1 g2 hn0 hm hat hrn hgd g3 qx0 qx1
              go_wp2_with fail
              refine start_ (n := 13) (S := (Below wr.heap.size wr)) (ds := []) #[false, false, false, false, false, false, false, false, false, false, false, false, false] (by kernel_rfl) rfl rfl ((Below.refl _ _).drew) (fun hHeld => ?_)
              refine with_tabW f11.tab18 f11.bits18 (fun HT_ HW_ => ?_)
              refine take_ (i := 0) (N := some 80) (v := ?_) (a' := ?_) #[true, false, false, false, false, false, false, false, false, false, false, false, false] rfl rfl (take_ofW HT_.out HW_.out (by kernel_rfl)) (fun _ _ _ h => h) (Or.inl ⟨by rfl, ?_⟩) hHeld ?_ ?_
              rotate_left
              · rintro w' hS
                have s0 := (hS.cell (p := ⟨w.heap.size, 0, none⟩) LX.out.1).trans QX.out.1
                have s1 := (hS.cell (p := ⟨w.heap.size, 1, none⟩) LX.out.1).trans QX.out.2.1
                have s3 := (hS.cell LX.out.2).trans QX.out.2.2
                clear hS
                go_simp
                with_reducible rfl
              rotate_left
              · simp only [Act.put, List.setIfInBounds_toArray, List.set_cons_zero, List.set_cons_succ, i64_w, i32_w]
                rfl
              refine take_ (i := 1) (N := some 81) (v := ?_) (a' := ?_) #[true, true, false, false, false, false, false, false, false, false, false, false, false] rfl rfl (take_ofW HT_.out HW_.out (by kernel_rfl)) (fun _ _ _ h => h) (Or.inl ⟨by rfl, ?_⟩) hHeld ?_ ?_
              rotate_left
              · rintro w' hS
                have s0 := (hS.cell (p := ⟨w.heap.size, 0, none⟩) LX.out.1).trans QX.out.1
                have s1 := (hS.cell (p := ⟨w.heap.size, 1, none⟩) LX.out.1).trans QX.out.2.1
                have s3 := (hS.cell LX.out.2).trans QX.out.2.2
                clear hS
                go_simp
                with_reducible rfl
              rotate_left
              · simp only [Act.put, List.setIfInBounds_toArray, List.set_cons_zero, List.set_cons_succ, i64_w, i32_w]
                rfl
              refine take_ (i := 2) (N := some 82) (v := ?_) (a' := ?_) #[true, true, true, false, false, false, false, false, false, false, false, false, false] rfl rfl (take_ofW HT_.out HW_.out (by kernel_rfl)) (fun _ _ _ h => h) (Or.inl ⟨by rfl, ?_⟩) hHeld ?_ ?_
              rotate_left
              · rintro w' hS
                have s0 := (hS.cell (p := ⟨w.heap.size, 0, none⟩) LX.out.1).trans QX.out.1
                have s1 := (hS.cell (p := ⟨w.heap.size, 1, none⟩) LX.out.1).trans QX.out.2.1
                have s3 := (hS.cell LX.out.2).trans QX.out.2.2
                clear hS
                go_simp
                with_reducible rfl
              rotate_left
              · simp only [Act.put, List.setIfInBounds_toArray, List.set_cons_zero, List.set_cons_succ, i64_w, i32_w]
                rfl
              refine take_ (i := 3) (N := some 83) (v := ?_) (a' := ?_) #[true, true, true, true, false, false, false, false, false, false, false, false, false] rfl rfl (take_ofW HT_.out HW_.out (by kernel_rfl)) (fun _ _ _ h => h) (Or.inl ⟨by rfl, ?_⟩) hHeld ?_ ?_
              rotate_left
              · rintro w' hS
                have s0 := (hS.cell (p := ⟨w.heap.size, 0, none⟩) LX.out.1).trans QX.out.1
                have s1 := (hS.cell (p := ⟨w.heap.size, 1, none⟩) LX.out.1).trans QX.out.2.1
                have s3 := (hS.cell LX.out.2).trans QX.out.2.2
                clear hS
                go_simp
                with_reducible rfl
              rotate_left
              · simp only [Act.put, List.setIfInBounds_toArray, List.set_cons_zero, List.set_cons_succ, i64_w, i32_w]
                rfl
              refine take_ (i := 4) (N := some 84) (v := ?_) (a' := ?_) #[true, true, true, true, true, false, false, false, false, false, false, false, false] rfl rfl (take_ofW HT_.out HW_.out (by kernel_rfl)) (fun _ _ _ h => h) (Or.inl ⟨by rfl, ?_⟩) hHeld ?_ ?_
              rotate_left
              · rintro w' hS
                have s0 := (hS.cell (p := ⟨w.heap.size, 0, none⟩) LX.out.1).trans QX.out.1
                have s1 := (hS.cell (p := ⟨w.heap.size, 1, none⟩) LX.out.1).trans QX.out.2.1
                have s3 := (hS.cell LX.out.2).trans QX.out.2.2
                clear hS
                go_simp
                with_reducible rfl
              rotate_left
              · simp only [Act.put, List.setIfInBounds_toArray, List.set_cons_zero, List.set_cons_succ, i64_w, i32_w]
                rfl
              refine take_ (i := 5) (N := some 85) (v := ?_) (a' := ?_) #[true, true, true, true, true, true, false, false, false, false, false, false, false] rfl rfl (take_ofW HT_.out HW_.out (by kernel_rfl)) (fun _ _ _ h => h) (Or.inl ⟨by rfl, ?_⟩) hHeld ?_ ?_
              rotate_left
              · rintro w' hS
                have s0 := (hS.cell (p := ⟨w.heap.size, 0, none⟩) LX.out.1).trans QX.out.1
                have s1 := (hS.cell (p := ⟨w.heap.size, 1, none⟩) LX.out.1).trans QX.out.2.1
                have s3 := (hS.cell LX.out.2).trans QX.out.2.2
                clear hS
                go_simp
                with_reducible rfl
              rotate_left
              · simp only [Act.put, List.setIfInBounds_toArray, List.set_cons_zero, List.set_cons_succ, i64_w, i32_w]
                rfl
              refine take_ (i := 6) (N := some 86) (v := ?_) (a' := ?_) #[true, true, true, true, true, true, true, false, false, false, false, false, false] rfl rfl (take_ofW HT_.out HW_.out (by kernel_rfl)) (fun _ _ _ h => h) (Or.inl ⟨by rfl, ?_⟩) hHeld ?_ ?_
              rotate_left
              · rintro w' hS
                have s0 := (hS.cell (p := ⟨w.heap.size, 0, none⟩) LX.out.1).trans QX.out.1
                have s1 := (hS.cell (p := ⟨w.heap.size, 1, none⟩) LX.out.1).trans QX.out.2.1
                have s3 := (hS.cell LX.out.2).trans QX.out.2.2
                clear hS
                go_simp
                with_reducible rfl
              rotate_left
              · simp only [Act.put, List.setIfInBounds_toArray, List.set_cons_zero, List.set_cons_succ, i64_w, i32_w]
                rfl
              refine take_ (i := 7) (N := some 87) (v := ?_) (a' := ?_) #[true, true, true, true, true, true, true, true, false, false, false, false, false] rfl rfl (take_ofW HT_.out HW_.out (by kernel_rfl)) (fun _ _ _ h => h) (Or.inl ⟨by rfl, ?_⟩) hHeld ?_ ?_
              rotate_left
              · rintro w' hS
                have s0 := (hS.cell (p := ⟨w.heap.size, 0, none⟩) LX.out.1).trans QX.out.1
                have s1 := (hS.cell (p := ⟨w.heap.size, 1, none⟩) LX.out.1).trans QX.out.2.1
                have s3 := (hS.cell LX.out.2).trans QX.out.2.2
                clear hS
                go_simp
                with_reducible rfl
              rotate_left
              · simp only [Act.put, List.setIfInBounds_toArray, List.set_cons_zero, List.set_cons_succ, i64_w, i32_w]
                rfl
              refine take_ (i := 9) (N := some 89) (v := ?_) (a' := ?_) #[true, true, true, true, true, true, true, true, false, true, false, false, false] rfl rfl (take_ofW HT_.out HW_.out (by kernel_rfl)) (fun _ _ _ h => h) (Or.inl ⟨by rfl, ?_⟩) hHeld ?_ ?_
              rotate_left
              · rintro w' hS
                have s0 := (hS.cell (p := ⟨w.heap.size, 0, none⟩) LX.out.1).trans QX.out.1
                have s1 := (hS.cell (p := ⟨w.heap.size, 1, none⟩) LX.out.1).trans QX.out.2.1
                have s3 := (hS.cell LX.out.2).trans QX.out.2.2
                clear hS
                go_simp
                with_reducible rfl
              rotate_left
              · simp only [Act.put, List.setIfInBounds_toArray, List.set_cons_zero, List.set_cons_succ, i64_w, i32_w]
                rfl
              refine one_ (i := 8) (N := some 88) #[true, true, true, true, true, true, true, true, true, true, false, false, false] rfl rfl (one_of HT_.out (by kernel_rfl)) (by decide) (fun K hK => ?_)
              refine goes_ Try.func41 (by kernel_rfl) rfl #[.int .i64 L, .int .i64 st, .slice (some ad0) l.length c0] (by rfl) rfl rfl (by (try simp only [List.map_toArray, List.map_cons, List.map_nil]); first | done | rfl) ?_
              refine (levels_n L st (some ad0) c0 rs l.length HN0.out _ (Kd.C_below HC0.out hHeld) k2 k3 k4 (by omega)).mono ?_
              rintro e w8 ⟨A8, c8, rfl, hC8, hb8⟩
              obtain ⟨ad8, rfl, g8⟩ := lvls_cell HN0.out hC8 jn HJ0.out m HMM.out
              have HG8 := Aside0.mk g8
              refine ⟨_, rfl, hK.out _ _ (hHeld.trans (hb8.mono hHeld.size)) ?_⟩
              clear hHeld hb8 hC8 g8
              intro hHeld
              clear hK K
              refine norm_ (a' := ?_) ?_ ?_
              rotate_left
              · show Act.put _ (some 88) _ = _
                simp only [Act.put, List.setIfInBounds_toArray, List.set_cons_zero, List.set_cons_succ, i64_w, i32_w]
                rfl
              refine take_ (i := 10) (N := some 90) (v := ?_) (a' := ?_) #[true, true, true, true, true, true, true, true, true, true, true, false, false] rfl rfl (take_ofW HT_.out HW_.out (by kernel_rfl)) (fun _ _ _ h => h) (Or.inl ⟨by rfl, ?_⟩) hHeld ?_ ?_
              rotate_left
              · rintro w' hS
                have s0 := (hS.cell (p := ⟨w.heap.size, 0, none⟩) LX.out.1).trans QX.out.1
                have s1 := (hS.cell (p := ⟨w.heap.size, 1, none⟩) LX.out.1).trans QX.out.2.1
                have s3 := (hS.cell LX.out.2).trans QX.out.2.2
                clear hS
                go_simp
                with_reducible rfl
              rotate_left
              · simp only [Act.put, List.setIfInBounds_toArray, List.set_cons_zero, List.set_cons_succ, i64_w, i32_w]
                rfl
              refine one_ (i := 11) (N := some 91) #[true, true, true, true, true, true, true, true, true, true, true, true, false] rfl rfl (one_of HT_.out (by kernel_rfl)) (by decide) (fun K hK => ?_)
              have g9 := HG8.out
              refine value_ (v := .int .i64 m) (w1 := w8) (by rfl) rfl (by go_simp) ?_
              refine hK.out _ _ hHeld ?_
              clear hHeld g9
              intro hHeld
              clear hK K
              refine norm_ (a' := ?_) ?_ ?_
              rotate_left
              · show Act.put _ (some 91) _ = _
                simp only [Act.put, List.setIfInBounds_toArray, List.set_cons_zero, List.set_cons_succ, i64_w, i32_w]
                rfl
              refine take_ (i := 12) (N := some 13) (v := ?_) (a' := ?_) #[true, true, true, true, true, true, true, true, true, true, true, true, true] rfl rfl (take_ofW HT_.out HW_.out (by kernel_rfl)) (fun _ _ _ h => h) (Or.inl ⟨by rfl, ?_⟩) hHeld ?_ ?_
              rotate_left
              · rintro w' hS
                have s0 := (hS.cell (p := ⟨w.heap.size, 0, none⟩) LX.out.1).trans QX.out.1
                have s1 := (hS.cell (p := ⟨w.heap.size, 1, none⟩) LX.out.1).trans QX.out.2.1
                have s3 := (hS.cell LX.out.2).trans QX.out.2.2
                clear hS
                go_simp
                with_reducible rfl
              rotate_left
              · simp only [Act.put, List.setIfInBounds_toArray, List.set_cons_zero, List.set_cons_succ, i64_w, i32_w]
                rfl
              refine done_ (done_of HT_.out (by kernel_rfl)) ?_
              have g0 := (hHeld.cell LG.out.1).trans G3.out.1
              have g3 := (hHeld.cell LG.out.2).trans G3.out.2
              have SE8 := Aside0.mk (blk_below SE.out hHeld)
              have p3 := (blk_cell SE8.out rn).trans (threeB_get _ rn hr3)
              have p4 := blk_frozen SE8.out rn
              have hr4 : (rn : Int) < 3 := by omega
              have HB8 := Aside0.mk (HBQ.out.trans (hHeld.mono HBQ.out.size))
              clear hHeld
              go_wp2_with fail
              go_roundw
              case rel =>
                refine ⟨kn + 1, (if m < a then m else a), (if b < m then m else b), by omega, by go_num, rfl, rfl, ⟨?_⟩, ⟨?_⟩, ⟨below_set HB8.out (by have := HGS.out; show wo.heap.size ≤ gS; omega)⟩⟩
                · rw [HT1.out, List.foldl_append, List.foldl_append, ← HAB.out.1, ← HAB.out.2]
                  constructor
                  · show _ = min a m
                    split <;> omega
                  · show _ = max b m
                    split <;> omega
                · exact blk_put SE8.out rn _ (threeB_set _ _ rn hr3 (fun r _ => HT2.out r))
              case measure => simp [intOf]; omega
            · have hk6 : decide ((kn : Int) < (nh : Int)) = false := decide_eq_false (by omega)
              have htk : (hists L st xs).take kn = hists L st xs := List.take_of_length_le (by rw [← HHL.out]; omega)
              rw [htk] at SE HAB
              clear htk
              have HBDS : Aside0 (∀ m ∈ lvAt (hists L st xs) jn, 0 ≤ m ∧ m < L) := ⟨by
                intro m hm
                obtain ⟨h, hh, rfl⟩ := List.mem_map.1 hm
                have hl := hists_len L xs st h hh
                rw [List.getD_eq_getElem?_getD, List.getElem?_eq_getElem (by have := HXL.out; omega)]
                exact (hists_all L xs st k3 k4 h hh _ (List.getElem_mem (by have := HXL.out; omega : jn < h.length))).2.2⟩
              have hsp := sp_folds L (lvAt (hists L st xs) jn) (by unfold lvAt; intro e; exact HNE.out (List.map_eq_nil_iff.1 e)) HBDS.out
              have ha : a = (sp (lvAt (hists L st xs) jn)).1 := HAB.out.1.trans hsp.1
              have hb : b = (sp (lvAt (hists L st xs) jn)).2 := HAB.out.2.trans hsp.2
              have HA1 := Aside0.mk ha
              have HB1 := Aside0.mk hb
              clear HAB HBDS hsp ha hb
              go_wp2_with fail
              obtain ⟨w5, hw5⟩ : ∃ W : World, W = wr := ⟨_, rfl⟩
              subst hw5
              go_loopw [14, 15] (fun o r wr => ∃ rn : Nat, rn ≤ 3 ∧ r = .int .u8 rn ∧ Aside0 (Kd.R (Kd.int .u8) 5 wr wo.heap.size (fun _ => True) o (([0, 1, 2].take rn).filter fun r : Int => decide (r ∈ rsAt (hists L st xs) jn))) ∧ Aside0 (wr.heap[gS]? = some (.cells (threeB (seenB (hists L st xs) jn)) 72 (0, 0))) ∧ Aside0 (Below wo.heap.size wo wr)) (fun _ r _ => 3 - (intOf r).toNat)
              case atStart => exact ⟨0, by omega, rfl, ⟨Kd.R_nil _ _ _ _ _⟩, SE, HBQ⟩
              case round =>
                clear SE HBQ
                obtain ⟨rn, hr, rfl, HW, SE, HBQ⟩ := hrel
                by_cases hr3 : rn < 3
                · have hr6 : decide ((rn : Int) < 3) = true := decide_eq_true (by omega)
                  have hr7 : (rn : Int) < 3 := by omega
                  have hr8 : (0 : Int) ≤ (rn : Int) := by omega
                  obtain ⟨sb, hsb⟩ : ∃ sb, seenB (hists L st xs) jn rn = sb := ⟨_, rfl⟩
                  have p3 := (blk_cell SE.out rn).trans (threeB_get _ rn hr3)
                  rw [hsb] at p3
                  have HRT := Aside0.mk (rowR_take (rsAt (hists L st xs) jn) rn hr3)
                  rw [show decide ((rn : Int) ∈ rsAt (hists L st xs) jn) = sb from hsb] at HRT
                  have HWL : Aside0 ((([0, 1, 2].take rn).filter fun r : Int => decide (r ∈ rsAt (hists L st xs) jn)).length ≤ 3) := ⟨Nat.le_trans (List.length_filter_le _ _) (by simp; omega)⟩
                  obtain ⟨wl, hwl⟩ : ∃ wl, (([0, 1, 2].take rn).filter fun r : Int => decide (r ∈ rsAt (hists L st xs) jn)) = wl := ⟨_, rfl⟩
                  rw [hwl] at HW HRT HWL
                  have HU8 : Aside0 (IntKind.u8.wrap ((rn : Int) + 1) = (rn : Int) + 1) := ⟨by rw [show IntKind.u8.wrap ((rn : Int) + 1) = ((rn : Int) + 1) % 256 by simp [IntKind.wrap, IntKind.bits, IntKind.signed]]; omega⟩
                  clear hsb hwl
                  cases sb with
                  | false =>
                    go_wp2_with fail
                    go_roundw
                    case rel => exact ⟨rn + 1, by omega, by go_num, ⟨by rw [HRT.out]; simpa using HW.out⟩, SE, HBQ⟩
                    case measure => simp [intOf]; omega
                  | true =>
                    go_wp2_with (first | ((with_reducible refine gate_builtin (b := .append) (xs := #[.tmp 113, .tmp 115]) rfl ?_); at_builtin; go_loud (refine Kd.R_append (Kd.int .u8) (w0 := wo) wo.heap.size rfl (.tmp 113) (.tmp 115) 41 5 (.int .u8 0) 1 rfl Try.underlying41 info5 rfl (by decide) (by omega) _ wl (rn : Int) [.int .u8 rn] (fun _ => True) (fun _ => False) rfl (by simp [Act.eval]) rfl (fun _ hk => hk.elim) (fun _ _ => trivial) HW.out HBQ.out HBQ.out.size (by have := HWL.out; omega) ?_; intro v7 w8 ho2 hb2 hg2 hat2; have HO2 := Aside0.mk ho2; have HB8 := Aside0.mk hb2; have SE8 := Aside0.mk (blk_grown SE.out hg2 (Kd.R_ne HW.out SE.out (by decide))); clear ho2 hb2 hg2 hat2)))
                    go_roundw
                    case rel => exact ⟨rn + 1, by omega, by go_num, ⟨by rw [HRT.out, if_pos rfl]; exact HO2.out⟩, SE8, HB8⟩
                    case measure => simp [intOf]; omega
                · have hr6 : decide ((rn : Int) < 3) = false := decide_eq_false (by omega)
                  obtain rfl : rn = 3 := by omega
                  have hW : Kd.R (Kd.int .u8) 5 wr wo.heap.size (fun _ => True) _ (rowR (rsAt (hists L st xs) jn)) := HW.out
                  clear HW SE
                  obtain ⟨rw_, hrw⟩ : ∃ rw_, rowR (rsAt (hists L st xs) jn) = rw_ := ⟨_, rfl⟩
                  have HRW := Aside0.mk hrw
                  rw [hrw] at hW
                  obtain ⟨Aw, cw, rfl, _, hCw⟩ := Kd.R_reads hW
                  obtain ⟨nw, hnw⟩ : ∃ nw, rw_.length = nw := ⟨_, rfl⟩
                  rw [hnw] at hCw ⊢
                  have HNW := Aside0.mk hnw
                  have HNW3 : Aside0 (nw ≤ 3) := ⟨by rw [← hnw, ← hrw]; exact List.length_filter_le _ _⟩
                  have HCW := Aside0.mk hCw
                  clear hW hCw
                  obtain ⟨adl, rfl, g1, g2⟩ := at_T28 (Kd.C_below HL.out HBQ.out) (jn : Int) (by omega) hj7
                  have hrd : rd_T28 ((List.range l.length).map fun i => (⟨(sp (lvAt (hists L st xs) i)).1, (sp (lvAt (hists L st xs) i)).2⟩ : S28)) jn = ⟨a, b⟩ := by
                    unfold rd_T28
                    rw [HA1.out, HB1.out]
                    simp [List.getD_eq_getElem?_getD, hj3]
                  rw [hrd] at g1 g2
                  have g1 : wr.cell? (adl.add (jn * 2)) = some (.int .i64 a) := g1
                  have g2 : wr.cell? ⟨(adl.add (jn * 2)).block, (adl.add (jn * 2)).off + 1, none⟩ = some (.int .i64 b) := g2
                  obtain ⟨adr, A0, c0, rfl, g4, g5, g6⟩ := cellRow (Kd.C_below HRR.out HBQ.out) jn hj3 (rowR (rsAt (hists L st xs) jn)) (by simp [hj3])
                  rw [hrw, hnw] at g4 g6
                  have HC0 := Aside0.mk g6
                  clear hrd hrw hnw g5 g6
                  have KB5 := Aside0.mk (KB.out.trans (HBQ.out.mono KB.out.size))
                  go_wp2_with fail
                  refine (same_n A0 c0 rw_ Aw cw nw HNW.out _ (by have := HNW3.out; omega) HC0.out HCW.out).mono ?_
                  rintro e w9 ⟨rfl, hb9⟩
                  have HB9 := Aside0.mk (HBQ.out.trans (hb9.mono HBQ.out.size))
                  clear hb9 g1 g2 g4
                  go_wp2_with fail
                  go_roundw
                  case rel => exact ⟨jn + 1, by omega, by go_num, ⟨KB.out.trans (HB9.out.mono KB.out.size)⟩, ⟨blk_below X.out HB9.out⟩, ⟨Kd.C_below HL.out HB9.out⟩, ⟨Kd.C_below HRR.out HB9.out⟩, ⟨Kd.R_below HA.out HB9.out⟩⟩
                  case measure => simp [intOf]; omega
        · have hj6 : decide ((jn : Int) < (l.length : Int)) = false := decide_eq_false (by omega)
          go_wp2_with fail
          refine (awake_calls _).mono ?_
          rintro e w61 ⟨rfl, hb61⟩
          clear qX0 qX1 qX2 lX
          replace KB := Aside0.mk (KB.out.trans (hb61.mono KB.out.size))
          replace X := Aside0.mk (blk_below X.out hb61)
          replace HL := Aside0.mk (Kd.C_below HL.out hb61)
          replace HRR := Aside0.mk (Kd.C_below HRR.out hb61)
          replace HA := Aside0.mk (Kd.R_below HA.out hb61)
          clear hb61
          have qX0 : w61.cell? ⟨w.heap.size, 0, none⟩ = some (.int .i64 L) := (blk_cell X.out 0).trans rfl
          have qX1 : w61.cell? ⟨w.heap.size, 1, none⟩ = some (.int .i64 st) := (blk_cell X.out 1).trans rfl
          have qX2 : w61.cell? ⟨w.heap.size, 2, none⟩ = some (.slice A l.length c) := (blk_cell X.out 2).trans rfl
          have lX := blk_lt X.out
          go_wp2_with fail
          go_ret
          exact ⟨rfl, KB.out⟩
    · have e1 : (pv == 0) = false := beq_eq_false_iff_ne.2 hp
      have e2 : (pv != 0) = true := bne_iff_ne.2 hp
      have e3 : (pv == pv) = true := beq_iff_eq.2 rfl
      obtain ⟨rfl, rfl⟩ := HO.out.no (by rw [HPV.out]; exact hp)
      clear HO hp
      go_wp2_with fail
      refine (awake_calls _).mono ?_
      rintro e w62 ⟨rfl, hb62⟩
      clear qX0 qX1 qX2 lX
      replace KB := Aside0.mk (KB.out.trans (hb62.mono KB.out.size))
      replace X := Aside0.mk (blk_below X.out hb62)
      clear hb62
      have qX0 : w62.cell? ⟨w.heap.size, 0, none⟩ = some (.int .i64 L) := (blk_cell X.out 0).trans rfl
      have qX1 : w62.cell? ⟨w.heap.size, 1, none⟩ = some (.int .i64 st) := (blk_cell X.out 1).trans rfl
      have qX2 : w62.cell? ⟨w.heap.size, 2, none⟩ = some (.slice A l.length c) := (blk_cell X.out 2).trans rfl
      have lX := blk_lt X.out
      go_wp2_with fail
      go_ret
      exact ⟨rfl, KB.out⟩
end
end Go.Proofs.Ytkglggggmlnleaa.Print
