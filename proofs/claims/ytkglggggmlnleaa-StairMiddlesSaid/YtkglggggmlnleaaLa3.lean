/- The law of the middles, walked by hand. -/
import Derived.Test.YtkglggggmlnleaaSd
import Derived.Test.YtkglggggmlnleaaPq
import Derived.Test.YtkglggggmlnleaaMr
namespace Go.Proofs.Ytkglggggmlnleaa.Print
open Go.RowKit Go.Proofs.YtkglggggmlnleaaW.PrintWords Go.Proofs.YtkglggggmlnleaaW.PrintLast Go.Proofs.YtkglggggmlnleaaW.PrintMore
set_option linter.unusedVariables false
set_option linter.unusedSimpArgs false
def f3.T12 : Bool × List (List Nat × List Nat) := (true, [([], []), ([], []), ([], []), ([1, 2], [1, 2]), ([3], [3]), ([0, 4], [0, 4]), ([5], [5]), ([6], [6]), ([6], [6]), ([7, 5, 0, 1, 2, 3, 4, 5, 6, 7], [7]), ([8, 9, 0, 1, 2, 3, 4, 5, 6, 7, 8, 9], [8])])
def f3.B12 : List Nat := [0, 0, 0, 6, 14, 31, 63, 127, 127, 255, 1023]
theorem f3.tab12 : rtab .any (opsOf Try.f3 12) = f3.T12 := by kernel_rfl
theorem f3.bits12 : waitsOk f3.T12.2 f3.B12 = true := by kernel_rfl
/-- A row of rows, element by element. -/
theorem cellRow {w : World} {A : Option Addr} {xss : List (List Int)} {n : Nat} (h : Kd.C sl8 w A n xss) (j : Nat) (hj : j < n) (xs : List Int) (hx : xss[j]? = some xs) : ∃ ad A0 c0, A = some ad ∧ w.cell? (ad.add j) = some (.slice A0 xs.length c0) ∧ xs.length ≤ c0 ∧ Kd.C (Kd.int .u8) w A0 xs.length xs := by
  obtain ⟨ad, cs, e, hs, hK, hcell⟩ := ReadsRow.get_ h [] (j : Int) (by omega) (by omega)
  rw [Int.toNat_natCast, List.getD_eq_getElem?_getD, hx] at hK
  obtain ⟨A0, c0, rfl, hl, hC⟩ := hK
  refine ⟨ad, A0, c0, e, ?_, hl, hC⟩
  have := hcell 0 _ rfl
  rw [Int.toNat_natCast] at this
  have e2 : j * sl8.sz + 0 = j := by show j * 1 + 0 = j; omega
  rw [e2] at this
  exact this
theorem refH_get (L st : Int) (l : List S43) (j : Nat) (h : List (Int × Int)) (hh : (hists L st (l.map up))[j]? = some h) : (refH L st l)[j]? = some (h.map (·.1)) := by
  unfold refH
  rw [List.getElem?_map, hh]; rfl
theorem hist_facts {L st : Int} {xs : List S67} (hck : checkI L st xs = 0) {h : List (Int × Int)} (hh : h ∈ hists L st xs) : histOf L st (h.map (·.1)) = h ∧ (h.map (·.1)).length = xs.length ∧ xs.length ≤ 14 ∧ (∀ r ∈ h.map (·.1), 0 ≤ r ∧ r < 3) ∧ walkB L st xs (h.map (·.1)) = true := by
  obtain ⟨k1, k2, k3, k4, k5⟩ := check_ok hck
  obtain ⟨a1, a2, a3, a4⟩ := (hists_iff L xs st h).1 hh
  refine ⟨a2.symm, by simp [a1], k5, ?_, a4⟩
  intro r hr
  obtain ⟨p, hp, rfl⟩ := List.mem_map.1 hr
  exact a3 p hp
theorem refmiddle_n (L st : Int) (A : Option Addr) (c : Nat) (l : List S43) (A1 : Option Addr) (c1 : Nat) (rs : List Int) (w : World) (hr1 : Kd.C (Kd.int .u8) w A1 rs.length rs)
    (hL : L ≤ 8) (h0 : 0 ≤ st) (h1 : st < L) (hn : rs.length ≤ 14) (hrs : ∀ r ∈ rs, 0 ≤ r ∧ r < 3) (n : Nat) (hx : rs.length = n) :
    Calls Try.prog 22 #[.agg #[.int .i64 L, .int .i64 st, .slice A l.length c], .slice A1 n c1] w fun e w' => e = .returned (.tuple #[.int .i64 (midI (histOf L st rs)).1, .bool (midI (histOf L st rs)).2]) ∧ Below w.heap.size w w' := by
  subst hx; exact refmiddle_calls L st A c l A1 c1 rs w hr1 hL h0 h1 hn hrs
theorem rowsC {w : World} {A : Option Addr} {n c : Nat} {ok : Nat → Prop} {xss : List (List Int)} (h : Kd.R sl8 41 w 0 ok (.slice A n c) xss) : Kd.C sl8 w A n xss := by
  obtain ⟨A', c', he, hl, hC⟩ := Kd.R_reads h
  injection he with h1 h2 h3
  subst h1 h2
  exact hC
theorem set2 {w : World} {g t : Nat} {a b x y : Value} (h : w.heap[g]? = some (.cells #[a, b] t (0, 0))) : ((w.setCell ⟨g, 0, none⟩ x).setCell ⟨g, 1, none⟩ y).heap[g]? = some (.cells #[x, y] t (0, 0)) ∧ (∀ i, i ≠ g → ((w.setCell ⟨g, 0, none⟩ x).setCell ⟨g, 1, none⟩ y).heap[i]? = w.heap[i]?) ∧ ∀ (w0 : World), Below w0.heap.size w0 w → w0.heap.size ≤ g → Below w0.heap.size w0 ((w.setCell ⟨g, 0, none⟩ x).setCell ⟨g, 1, none⟩ y) :=
  ⟨blk_put (blk_put h 0 x rfl) 1 y rfl, fun i hi => (Below.heap_setCell _ ⟨g, 1, none⟩ y i hi).trans (Below.heap_setCell _ ⟨g, 0, none⟩ x i hi), fun w0 hb hg => below_set (below_set hb hg) hg⟩
theorem R_keepB {α : Type} {d : Kd α} {e : Nat} {w w1 : World} {base : Nat} {v : Value} {xs : List α} {g t : Nat} {cells : Array Value} (h : d.R e w base (fun _ => True) v xs) (hb : w.heap[g]? = some (.cells cells t (0, 0))) (ht : ∀ q, q ∈ e :: d.E → q ≠ t) (hs : ∀ i, i ≠ g → w1.heap[i]? = w.heap[i]?) : d.R e w1 base (fun _ => True) v xs :=
  Kd.R_mono (Kd.R_step (Kd.R_types h hb ht) (fun k hk _ => hs k hk.2)) (fun _ _ => trivial)
theorem mids_take (hs : List (List (Int × Int))) (j : Nat) (h : List (Int × Int)) (hh : hs[j]? = some h) : mids (hs.take (j + 1)) = mids (hs.take j) ++ if (midI h).2 then [(midI h).1] else [] := by
  unfold mids
  rw [List.take_add_one, hh, List.filterMap_append]
  cases e : (midI h).2 <;> simp [e]
section
attribute [local go_sem] max2_int min2_int max_two min_two
set_option maxHeartbeats 4000000 in
set_option maxRecDepth 100000 in
theorem law_middles (L st : Int) (A : Option Addr) (c : Nat) (l : List S43) (w : World) (hr : Kd.C k43 w A l.length l) (hc : l.length ≤ c) (hl : l.length < 8796093022208) :
    Calls Try.prog 3 #[.agg #[.int .i64 L, .int .i64 st, .slice A l.length c]] w fun e w' => e = .returned (.bool true) ∧ Below w.heap.size w w' := by
  have hu24 := Try.underlying24
  have HR := Aside0.mk hr
  have HC := Aside0.mk hc
  clear hr hc
  have KB : Aside0 (Below w.heap.size w (w.alloc (.cells #[.int .i64 L, .int .i64 st, .slice A l.length c] 24))) := ⟨(Below.refl _ w).alloc (by simp) _⟩
  have X := Aside0.mk (blk_new w (.cells #[.int .i64 L, .int .i64 st, .slice A l.length c] 24))
  obtain ⟨xs, hxs⟩ : ∃ xs, l.map up = xs := ⟨_, rfl⟩
  have HX := Aside0.mk hxs
  clear hxs
  have HLT : Aside0 (w.heap.size < (w.alloc (.cells #[.int .i64 L, .int .i64 st, .slice A l.length c] 24)).heap.size) := ⟨by simp⟩
  go_enter Try.func3, Try.ntmps3
  go_wp2_with fail
  generalize w.alloc (.cells #[.int .i64 L, .int .i64 st, .slice A l.length c] 24) = w0 at KB X HLT ⊢
  have qX0 : w0.cell? ⟨w.heap.size, 0, none⟩ = some (.int .i64 L) := (blk_cell X.out 0).trans rfl
  have qX1 : w0.cell? ⟨w.heap.size, 1, none⟩ = some (.int .i64 st) := (blk_cell X.out 1).trans rfl
  have qX2 : w0.cell? ⟨w.heap.size, 2, none⟩ = some (.slice A l.length c) := (blk_cell X.out 2).trans rfl
  have lX := blk_lt X.out
  obtain ⟨tb, htb⟩ : ∃ tb, decide (l.length ≤ 20) = tb := ⟨_, rfl⟩
  have HTB := Aside0.mk htb
  clear htb
  refine (thin_calls L st A c l _ (Kd.C_below HR.out KB.out) HC.out tb HTB.out).mono ?_
  rintro e w1 ⟨rfl, hb1⟩
  clear qX0 qX1 qX2 lX
  replace KB := Aside0.mk (KB.out.trans (hb1.mono KB.out.size))
  replace X := Aside0.mk (blk_below X.out hb1)
  clear hb1
  have qX0 : w1.cell? ⟨w.heap.size, 0, none⟩ = some (.int .i64 L) := (blk_cell X.out 0).trans rfl
  have qX1 : w1.cell? ⟨w.heap.size, 1, none⟩ = some (.int .i64 st) := (blk_cell X.out 1).trans rfl
  have qX2 : w1.cell? ⟨w.heap.size, 2, none⟩ = some (.slice A l.length c) := (blk_cell X.out 2).trans rfl
  have lX := blk_lt X.out
  cases tb with
  | false =>
    go_wp2_with fail
    refine (awake_calls _).mono ?_
    rintro e w2 ⟨rfl, hb2⟩
    clear qX0 qX1 qX2 lX
    replace KB := Aside0.mk (KB.out.trans (hb2.mono KB.out.size))
    replace X := Aside0.mk (blk_below X.out hb2)
    clear hb2
    have qX0 : w2.cell? ⟨w.heap.size, 0, none⟩ = some (.int .i64 L) := (blk_cell X.out 0).trans rfl
    have qX1 : w2.cell? ⟨w.heap.size, 1, none⟩ = some (.int .i64 st) := (blk_cell X.out 1).trans rfl
    have qX2 : w2.cell? ⟨w.heap.size, 2, none⟩ = some (.slice A l.length c) := (blk_cell X.out 2).trans rfl
    have lX := blk_lt X.out
    go_wp2_with fail
    go_ret
    exact ⟨rfl, KB.out⟩
  | true =>
    have hl20 : l.length ≤ 20 := of_decide_eq_true HTB.out
    obtain ⟨pv, hpv⟩ : ∃ pv, possI L st xs = pv := ⟨_, rfl⟩
    have HPV := Aside0.mk hpv
    clear hpv
    obtain ⟨ev, hev⟩ : ∃ ev, midE L st xs = ev := ⟨_, rfl⟩
    have HEV := Aside0.mk hev
    clear hev
    obtain ⟨m1, hm1⟩ : ∃ m1, (midR L st xs).1 = m1 := ⟨_, rfl⟩
    have HM1 := Aside0.mk hm1
    clear hm1
    obtain ⟨m2, hm2⟩ : ∃ m2, (midR L st xs).2 = m2 := ⟨_, rfl⟩
    have HM2 := Aside0.mk hm2
    clear hm2
    go_wp2_with fail
    refine (stairs_calls L st A c l _ (Kd.C_below HR.out KB.out) HC.out (by omega) xs HX.out).mono ?_
    rintro e w3 ⟨⟨A1, c1, rfl, HC1⟩, hb3⟩
    clear qX0 qX1 qX2 lX
    replace KB := Aside0.mk (KB.out.trans (hb3.mono KB.out.size))
    replace X := Aside0.mk (blk_below X.out hb3)
    clear hb3
    have qX0 : w3.cell? ⟨w.heap.size, 0, none⟩ = some (.int .i64 L) := (blk_cell X.out 0).trans rfl
    have qX1 : w3.cell? ⟨w.heap.size, 1, none⟩ = some (.int .i64 st) := (blk_cell X.out 1).trans rfl
    have qX2 : w3.cell? ⟨w.heap.size, 2, none⟩ = some (.slice A l.length c) := (blk_cell X.out 2).trans rfl
    have lX := blk_lt X.out
    go_wp2_with fail
    refine (middle_calls L st A1 c1 xs _ HC1.out.1 HC1.out.2).mono ?_
    rintro e w4 ⟨rfl, hb4⟩
    clear qX0 qX1 qX2 lX
    replace KB := Aside0.mk (KB.out.trans (hb4.mono KB.out.size))
    replace X := Aside0.mk (blk_below X.out hb4)
    rw [HM1.out, HM2.out, HEV.out]
    clear hb4
    have qX0 : w4.cell? ⟨w.heap.size, 0, none⟩ = some (.int .i64 L) := (blk_cell X.out 0).trans rfl
    have qX1 : w4.cell? ⟨w.heap.size, 1, none⟩ = some (.int .i64 st) := (blk_cell X.out 1).trans rfl
    have qX2 : w4.cell? ⟨w.heap.size, 2, none⟩ = some (.slice A l.length c) := (blk_cell X.out 2).trans rfl
    have lX := blk_lt X.out
    go_wp2_with fail
    have NBM_X := Aside0.mk lX
    clear qX0 qX1 qX2 lX
    have BM := Aside0.mk (blk_new w4 (.cells #[.int .i64 m1, .int .i64 m2] 28))
    have hb5 : Below w4.heap.size w4 (w4.alloc (.cells #[.int .i64 m1, .int .i64 m2] 28)) := (Below.refl _ _).alloc (Nat.le_refl _) _
    replace KB := Aside0.mk (KB.out.trans (hb5.mono KB.out.size))
    replace X := Aside0.mk (blk_below X.out hb5)
    clear hb5
    obtain ⟨gBM, hgBM⟩ : ∃ g, w4.heap.size = g := ⟨_, rfl⟩
    rw [hgBM] at BM NBM_X ⊢
    clear hgBM
    generalize w4.alloc (.cells #[.int .i64 m1, .int .i64 m2] 28) = w5 at BM KB X ⊢
    have qX0 : w5.cell? ⟨w.heap.size, 0, none⟩ = some (.int .i64 L) := (blk_cell X.out 0).trans rfl
    have qX1 : w5.cell? ⟨w.heap.size, 1, none⟩ = some (.int .i64 st) := (blk_cell X.out 1).trans rfl
    have qX2 : w5.cell? ⟨w.heap.size, 2, none⟩ = some (.slice A l.length c) := (blk_cell X.out 2).trans rfl
    have lX := blk_lt X.out
    have qBM0 : w5.cell? ⟨gBM, 0, none⟩ = some (.int .i64 m1) := (blk_cell BM.out 0).trans rfl
    have qBM1 : w5.cell? ⟨gBM, 1, none⟩ = some (.int .i64 m2) := (blk_cell BM.out 1).trans rfl
    have lBM := blk_lt BM.out
    refine (law_asked_calls L st A c l _ (Kd.C_below HR.out KB.out) HC.out (by omega)).mono ?_
    rintro e w6 ⟨rfl, hb6⟩
    clear qX0 qX1 qX2 qBM0 qBM1 lX lBM
    replace KB := Aside0.mk (KB.out.trans (hb6.mono KB.out.size))
    replace X := Aside0.mk (blk_below X.out hb6)
    replace BM := Aside0.mk (blk_below BM.out hb6)
    rw [HX.out, HPV.out]
    clear hb6
    have qX0 : w6.cell? ⟨w.heap.size, 0, none⟩ = some (.int .i64 L) := (blk_cell X.out 0).trans rfl
    have qX1 : w6.cell? ⟨w.heap.size, 1, none⟩ = some (.int .i64 st) := (blk_cell X.out 1).trans rfl
    have qX2 : w6.cell? ⟨w.heap.size, 2, none⟩ = some (.slice A l.length c) := (blk_cell X.out 2).trans rfl
    have lX := blk_lt X.out
    have qBM0 : w6.cell? ⟨gBM, 0, none⟩ = some (.int .i64 m1) := (blk_cell BM.out 0).trans rfl
    have qBM1 : w6.cell? ⟨gBM, 1, none⟩ = some (.int .i64 m2) := (blk_cell BM.out 1).trans rfl
    have lBM := blk_lt BM.out
    by_cases hp : pv = 0
    · subst hp
      obtain ⟨hck, hne⟩ := poss_0 HPV.out
      have HCK := Aside0.mk hck
      have HCKL : Aside0 (checkI L st (l.map up) = 0) := ⟨by rw [HX.out]; exact hck⟩
      obtain ⟨k1, k2, k3, k4, k5⟩ := check_ok hck
      clear hck hne k1
      go_wp2_with fail
      have NBX_X := Aside0.mk lX
      have NBX_BM := Aside0.mk lBM
      clear qX0 qX1 qX2 qBM0 qBM1 lX lBM
      have BX := Aside0.mk (blk_new w6 (.cells #[.int .i64 0, .int .i64 0] 28))
      have hb7 : Below w6.heap.size w6 (w6.alloc (.cells #[.int .i64 0, .int .i64 0] 28)) := (Below.refl _ _).alloc (Nat.le_refl _) _
      replace KB := Aside0.mk (KB.out.trans (hb7.mono KB.out.size))
      replace X := Aside0.mk (blk_below X.out hb7)
      replace BM := Aside0.mk (blk_below BM.out hb7)
      clear hb7
      obtain ⟨gBX, hgBX⟩ : ∃ g, w6.heap.size = g := ⟨_, rfl⟩
      rw [hgBX] at BX NBX_X NBX_BM ⊢
      clear hgBX
      generalize w6.alloc (.cells #[.int .i64 0, .int .i64 0] 28) = w7 at BX KB X BM ⊢
      have qX0 : w7.cell? ⟨w.heap.size, 0, none⟩ = some (.int .i64 L) := (blk_cell X.out 0).trans rfl
      have qX1 : w7.cell? ⟨w.heap.size, 1, none⟩ = some (.int .i64 st) := (blk_cell X.out 1).trans rfl
      have qX2 : w7.cell? ⟨w.heap.size, 2, none⟩ = some (.slice A l.length c) := (blk_cell X.out 2).trans rfl
      have lX := blk_lt X.out
      have qBM0 : w7.cell? ⟨gBM, 0, none⟩ = some (.int .i64 m1) := (blk_cell BM.out 0).trans rfl
      have qBM1 : w7.cell? ⟨gBM, 1, none⟩ = some (.int .i64 m2) := (blk_cell BM.out 1).trans rfl
      have lBM := blk_lt BM.out
      have qBX0 : w7.cell? ⟨gBX, 0, none⟩ = some (.int .i64 0) := (blk_cell BX.out 0).trans rfl
      have qBX1 : w7.cell? ⟨gBX, 1, none⟩ = some (.int .i64 0) := (blk_cell BX.out 1).trans rfl
      have lBX := blk_lt BX.out
      refine (allhist_calls L st A c l _ HCKL.out (Kd.C_below HR.out KB.out) HC.out).mono ?_
      rintro e w8 ⟨v9, rfl, hR9, hb8⟩
      clear qX0 qX1 qX2 qBM0 qBM1 qBX0 qBX1 lX lBM lBX
      replace KB := Aside0.mk (KB.out.trans (hb8.mono KB.out.size))
      replace X := Aside0.mk (blk_below X.out hb8)
      replace BM := Aside0.mk (blk_below BM.out hb8)
      replace BX := Aside0.mk (blk_below BX.out hb8)
      obtain ⟨A9, c9, rfl, hc9, hC9⟩ := Kd.R_reads hR9
      have HA := Aside0.mk (Kd.R_lower hR9 (Nat.zero_le _))
      clear hC9 hc9 hR9
      clear hb8
      have qX0 : w8.cell? ⟨w.heap.size, 0, none⟩ = some (.int .i64 L) := (blk_cell X.out 0).trans rfl
      have qX1 : w8.cell? ⟨w.heap.size, 1, none⟩ = some (.int .i64 st) := (blk_cell X.out 1).trans rfl
      have qX2 : w8.cell? ⟨w.heap.size, 2, none⟩ = some (.slice A l.length c) := (blk_cell X.out 2).trans rfl
      have lX := blk_lt X.out
      have qBM0 : w8.cell? ⟨gBM, 0, none⟩ = some (.int .i64 m1) := (blk_cell BM.out 0).trans rfl
      have qBM1 : w8.cell? ⟨gBM, 1, none⟩ = some (.int .i64 m2) := (blk_cell BM.out 1).trans rfl
      have lBM := blk_lt BM.out
      have qBX0 : w8.cell? ⟨gBX, 0, none⟩ = some (.int .i64 0) := (blk_cell BX.out 0).trans rfl
      have qBX1 : w8.cell? ⟨gBX, 1, none⟩ = some (.int .i64 0) := (blk_cell BX.out 1).trans rfl
      have lBX := blk_lt BX.out
      have HHL : Aside0 ((refH L st l).length = (hists L st xs).length) := ⟨by unfold refH; rw [HX.out]; simp⟩
      obtain ⟨nh, hnh⟩ : ∃ nh, (refH L st l).length = nh := ⟨_, rfl⟩
      rw [hnh] at HA HHL ⊢
      have HBD : Aside0 (nh ≤ 4782969) := ⟨by rw [← hnh]; exact refH_len L st l (by have := (check_ok HCKL.out).2.2.2.2; simpa using this)⟩
      clear hnh
      go_wp2_with fail
      clear qX0 qX1 qX2 qBM0 qBM1 qBX0 qBX1 lX lBM lBX
      have hb0 := HBD.out
      go_loopw [5, 8] (fun e i wr => ∃ jn : Nat, ∃ a b wv : Int, jn ≤ nh ∧ i = .int .i64 jn ∧ e = .int .i64 wv ∧ Aside0 ((mids ((hists L st xs).take jn) = [] ∧ wv = 7 ∧ a = 0 ∧ b = 0) ∨ (mids ((hists L st xs).take jn) ≠ [] ∧ wv = 0 ∧ a = (sp (mids ((hists L st xs).take jn))).1 ∧ b = (sp (mids ((hists L st xs).take jn))).2)) ∧ Aside0 (wr.heap[gBX]? = some (.cells #[.int .i64 a, .int .i64 b] 28 (0, 0))) ∧ Aside0 (Below w.heap.size w wr) ∧ Aside0 (wr.heap[w.heap.size]? = some (.cells #[.int .i64 L, .int .i64 st, .slice A l.length c] 24 (0, 0))) ∧ Aside0 (wr.heap[gBM]? = some (.cells #[.int .i64 m1, .int .i64 m2] 28 (0, 0))) ∧ Aside0 (Kd.R sl8 41 wr 0 (fun _ => True) (.slice A9 nh c9) (refH L st l))) (fun _ i _ => nh - (intOf i).toNat)
      case atStart => exact ⟨0, 0, 0, 7, by omega, rfl, rfl, ⟨.inl ⟨rfl, rfl, rfl, rfl⟩⟩, BX, KB, X, BM, HA⟩
      case round =>
        clear KB X BM BX HA
        obtain ⟨jn, a, b, wv, hj, rfl, rfl, hms, BX, KB, X, BM, HA⟩ := hrel
        by_cases hj3 : jn < nh
        · have hj6 : decide ((jn : Int) < (nh : Int)) = true := decide_eq_true (by omega)
          have hj7 : (jn : Int) < (nh : Int) := by omega
          obtain ⟨h, hh⟩ : ∃ h, (hists L st xs)[jn]? = some h := ⟨_, List.getElem?_eq_getElem (by rw [← HHL.out]; exact hj3)⟩
          obtain ⟨f1, f2, f3, f4, f5⟩ := hist_facts HCK.out (List.mem_of_getElem? hh)
          obtain ⟨rs, hrs⟩ : ∃ rs, h.map (·.1) = rs := ⟨_, rfl⟩
          have hg := refH_get L st l jn h (by rw [HX.out]; exact hh)
          rw [hrs] at f1 f2 f4 hg
          obtain ⟨ad, A0, c0, rfl, g0, g1, g2⟩ := cellRow (rowsC HA.out) jn hj3 rs hg
          obtain ⟨n0, hn0⟩ : ∃ n0, rs.length = n0 := ⟨_, rfl⟩
          have HC0 := Aside0.mk g2
          rw [hn0] at g0
          have HN0 := Aside0.mk hn0
          have HF := Aside0.mk (And.intro f4 (show rs.length ≤ 14 by omega))
          have HMT := Aside0.mk (mids_take (hists L st xs) jn h hh)
          obtain ⟨mn, hmn⟩ : ∃ mn, (midI h).1 = mn := ⟨_, rfl⟩
          obtain ⟨mb, hmb⟩ : ∃ mb, (midI h).2 = mb := ⟨_, rfl⟩
          have HMI : Aside0 ((midI (histOf L st rs)).1 = mn ∧ (midI (histOf L st rs)).2 = mb) := ⟨by rw [f1]; exact ⟨hmn, hmb⟩⟩
          rw [hmn, hmb] at HMT
          have QX := Aside0.mk (And.intro ((blk_cell X.out 0).trans rfl : wr.cell? ⟨w.heap.size, 0, none⟩ = some (.int .i64 L)) (And.intro ((blk_cell X.out 1).trans rfl : wr.cell? ⟨w.heap.size, 1, none⟩ = some (.int .i64 st)) (And.intro ((blk_cell X.out 2).trans rfl : wr.cell? ⟨w.heap.size, 2, none⟩ = some (.slice A l.length c)) g0)))
          have LX := Aside0.mk (And.intro (blk_lt X.out) (World.block_lt_of_cell? _ _ g0))
          clear hh f1 f2 f3 f4 f5 hrs hg g0 g1 g2 hn0 hmn hmb
          go_wp2_with fail
          refine start_ (n := 11) (S := (Below wr.heap.size wr)) (ds := []) #[false, false, false, false, false, false, false, false, false, false, false] (by kernel_rfl) rfl rfl ((Below.refl _ _).drew) (fun hHeld => ?_)
          refine with_tabW f3.tab12 f3.bits12 (fun HT_ HW_ => ?_)
          refine take_ (i := 0) (N := some 34) (v := ?_) (a' := ?_) #[true, false, false, false, false, false, false, false, false, false, false] rfl rfl (take_ofW HT_.out HW_.out (by kernel_rfl)) (fun _ _ _ h => h) (Or.inl ⟨by rfl, ?_⟩) hHeld ?_ ?_
          rotate_left
          · rintro w' hS
            have s0 := (hS.cell (p := ⟨w.heap.size, 0, none⟩) LX.out.1).trans QX.out.1
            have s1 := (hS.cell (p := ⟨w.heap.size, 1, none⟩) LX.out.1).trans QX.out.2.1
            have s2 := (hS.cell (p := ⟨w.heap.size, 2, none⟩) LX.out.1).trans QX.out.2.2.1
            have s3 := (hS.cell LX.out.2).trans QX.out.2.2.2
            clear hS
            go_simp
            with_reducible rfl
          rotate_left
          · simp only [Act.put, List.setIfInBounds_toArray, List.set_cons_zero, List.set_cons_succ, i64_w, i32_w]
            rfl
          refine take_ (i := 1) (N := some 35) (v := ?_) (a' := ?_) #[true, true, false, false, false, false, false, false, false, false, false] rfl rfl (take_ofW HT_.out HW_.out (by kernel_rfl)) (fun _ _ _ h => h) (Or.inl ⟨by rfl, ?_⟩) hHeld ?_ ?_
          rotate_left
          · rintro w' hS
            have s0 := (hS.cell (p := ⟨w.heap.size, 0, none⟩) LX.out.1).trans QX.out.1
            have s1 := (hS.cell (p := ⟨w.heap.size, 1, none⟩) LX.out.1).trans QX.out.2.1
            have s2 := (hS.cell (p := ⟨w.heap.size, 2, none⟩) LX.out.1).trans QX.out.2.2.1
            have s3 := (hS.cell LX.out.2).trans QX.out.2.2.2
            clear hS
            go_simp
            with_reducible rfl
          rotate_left
          · simp only [Act.put, List.setIfInBounds_toArray, List.set_cons_zero, List.set_cons_succ, i64_w, i32_w]
            rfl
          refine take_ (i := 2) (N := some 36) (v := ?_) (a' := ?_) #[true, true, true, false, false, false, false, false, false, false, false] rfl rfl (take_ofW HT_.out HW_.out (by kernel_rfl)) (fun _ _ _ h => h) (Or.inl ⟨by rfl, ?_⟩) hHeld ?_ ?_
          rotate_left
          · rintro w' hS
            have s0 := (hS.cell (p := ⟨w.heap.size, 0, none⟩) LX.out.1).trans QX.out.1
            have s1 := (hS.cell (p := ⟨w.heap.size, 1, none⟩) LX.out.1).trans QX.out.2.1
            have s2 := (hS.cell (p := ⟨w.heap.size, 2, none⟩) LX.out.1).trans QX.out.2.2.1
            have s3 := (hS.cell LX.out.2).trans QX.out.2.2.2
            clear hS
            go_simp
            with_reducible rfl
          rotate_left
          · simp only [Act.put, List.setIfInBounds_toArray, List.set_cons_zero, List.set_cons_succ, i64_w, i32_w]
            rfl
          refine take_ (i := 3) (N := some 37) (v := ?_) (a' := ?_) #[true, true, true, true, false, false, false, false, false, false, false] rfl rfl (take_ofW HT_.out HW_.out (by kernel_rfl)) (fun _ _ _ h => h) (Or.inl ⟨by rfl, ?_⟩) hHeld ?_ ?_
          rotate_left
          · rintro w' hS
            have s0 := (hS.cell (p := ⟨w.heap.size, 0, none⟩) LX.out.1).trans QX.out.1
            have s1 := (hS.cell (p := ⟨w.heap.size, 1, none⟩) LX.out.1).trans QX.out.2.1
            have s2 := (hS.cell (p := ⟨w.heap.size, 2, none⟩) LX.out.1).trans QX.out.2.2.1
            have s3 := (hS.cell LX.out.2).trans QX.out.2.2.2
            clear hS
            go_simp
            with_reducible rfl
          rotate_left
          · simp only [Act.put, List.setIfInBounds_toArray, List.set_cons_zero, List.set_cons_succ, i64_w, i32_w]
            rfl
          refine take_ (i := 4) (N := some 38) (v := ?_) (a' := ?_) #[true, true, true, true, true, false, false, false, false, false, false] rfl rfl (take_ofW HT_.out HW_.out (by kernel_rfl)) (fun _ _ _ h => h) (Or.inl ⟨by rfl, ?_⟩) hHeld ?_ ?_
          rotate_left
          · rintro w' hS
            have s0 := (hS.cell (p := ⟨w.heap.size, 0, none⟩) LX.out.1).trans QX.out.1
            have s1 := (hS.cell (p := ⟨w.heap.size, 1, none⟩) LX.out.1).trans QX.out.2.1
            have s2 := (hS.cell (p := ⟨w.heap.size, 2, none⟩) LX.out.1).trans QX.out.2.2.1
            have s3 := (hS.cell LX.out.2).trans QX.out.2.2.2
            clear hS
            go_simp
            with_reducible rfl
          rotate_left
          · simp only [Act.put, List.setIfInBounds_toArray, List.set_cons_zero, List.set_cons_succ, i64_w, i32_w]
            rfl
          refine one_ (i := 5) (N := some 39) #[true, true, true, true, true, true, false, false, false, false, false] rfl rfl (one_of HT_.out (by kernel_rfl)) (by decide) (fun K hK => ?_)
          refine goes_ Try.func22 (by kernel_rfl) rfl #[.agg #[.int .i64 L, .int .i64 st, .slice A l.length c], .slice A0 n0 c0] (by rfl) rfl rfl (by (try simp only [List.map_toArray, List.map_cons, List.map_nil]); first | done | rfl) ?_
          refine (refmiddle_n L st A c l A0 c0 rs _ (Kd.C_below HC0.out hHeld) k2 k3 k4 (by have := HF.out.2; omega) HF.out.1 n0 HN0.out).mono ?_
          rintro e w8 ⟨rfl, hb8⟩
          rw [HMI.out.1, HMI.out.2]
          refine ⟨_, rfl, hK.out _ _ (hHeld.trans (hb8.mono hHeld.size)) ?_⟩
          clear hHeld hb8
          intro hHeld
          clear hK K
          refine norm_ (a' := ?_) ?_ ?_
          rotate_left
          · show Act.put _ (some 39) _ = _
            simp only [Act.put, List.setIfInBounds_toArray, List.set_cons_zero, List.set_cons_succ, i64_w, i32_w]
            rfl
          refine take_ (i := 6) (N := some 33) (v := ?_) (a' := ?_) #[true, true, true, true, true, true, true, false, false, false, false] rfl rfl (take_ofW HT_.out HW_.out (by kernel_rfl)) (fun _ _ _ h => h) (Or.inl ⟨by rfl, ?_⟩) hHeld ?_ ?_
          rotate_left
          · rintro w' hS
            have s0 := (hS.cell (p := ⟨w.heap.size, 0, none⟩) LX.out.1).trans QX.out.1
            have s1 := (hS.cell (p := ⟨w.heap.size, 1, none⟩) LX.out.1).trans QX.out.2.1
            have s2 := (hS.cell (p := ⟨w.heap.size, 2, none⟩) LX.out.1).trans QX.out.2.2.1
            have s3 := (hS.cell LX.out.2).trans QX.out.2.2.2
            clear hS
            go_simp
            with_reducible rfl
          rotate_left
          · simp only [Act.put, List.setIfInBounds_toArray, List.set_cons_zero, List.set_cons_succ, i64_w, i32_w]
            rfl
          refine take_ (i := 7) (N := some 40) (v := ?_) (a' := ?_) #[true, true, true, true, true, true, true, true, false, false, false] rfl rfl (take_ofW HT_.out HW_.out (by kernel_rfl)) (fun _ _ _ h => h) (Or.inl ⟨by rfl, ?_⟩) hHeld ?_ ?_
          rotate_left
          · rintro w' hS
            have s0 := (hS.cell (p := ⟨w.heap.size, 0, none⟩) LX.out.1).trans QX.out.1
            have s1 := (hS.cell (p := ⟨w.heap.size, 1, none⟩) LX.out.1).trans QX.out.2.1
            have s2 := (hS.cell (p := ⟨w.heap.size, 2, none⟩) LX.out.1).trans QX.out.2.2.1
            have s3 := (hS.cell LX.out.2).trans QX.out.2.2.2
            clear hS
            go_simp
            with_reducible rfl
          rotate_left
          · simp only [Act.put, List.setIfInBounds_toArray, List.set_cons_zero, List.set_cons_succ, i64_w, i32_w]
            rfl
          refine take_ (i := 8) (N := some 41) (v := ?_) (a' := ?_) #[true, true, true, true, true, true, true, true, true, false, false] rfl rfl (take_ofW HT_.out HW_.out (by kernel_rfl)) (fun _ _ _ h => h) (Or.inl ⟨by rfl, ?_⟩) hHeld ?_ ?_
          rotate_left
          · rintro w' hS
            have s0 := (hS.cell (p := ⟨w.heap.size, 0, none⟩) LX.out.1).trans QX.out.1
            have s1 := (hS.cell (p := ⟨w.heap.size, 1, none⟩) LX.out.1).trans QX.out.2.1
            have s2 := (hS.cell (p := ⟨w.heap.size, 2, none⟩) LX.out.1).trans QX.out.2.2.1
            have s3 := (hS.cell LX.out.2).trans QX.out.2.2.2
            clear hS
            go_simp
            with_reducible rfl
          rotate_left
          · simp only [Act.put, List.setIfInBounds_toArray, List.set_cons_zero, List.set_cons_succ, i64_w, i32_w]
            rfl
          refine take_ (i := 9) (N := some 9) (v := ?_) (a' := ?_) #[true, true, true, true, true, true, true, true, true, true, false] rfl rfl (take_ofW HT_.out HW_.out (by kernel_rfl)) (fun _ _ _ h => h) (Or.inl ⟨by rfl, ?_⟩) hHeld ?_ ?_
          rotate_left
          · rintro w' hS
            have s0 := (hS.cell (p := ⟨w.heap.size, 0, none⟩) LX.out.1).trans QX.out.1
            have s1 := (hS.cell (p := ⟨w.heap.size, 1, none⟩) LX.out.1).trans QX.out.2.1
            have s2 := (hS.cell (p := ⟨w.heap.size, 2, none⟩) LX.out.1).trans QX.out.2.2.1
            have s3 := (hS.cell LX.out.2).trans QX.out.2.2.2
            clear hS
            go_simp
            with_reducible rfl
          rotate_left
          · simp only [Act.put, List.setIfInBounds_toArray, List.set_cons_zero, List.set_cons_succ, i64_w, i32_w]
            rfl
          refine take_ (i := 10) (N := some 10) (v := ?_) (a' := ?_) #[true, true, true, true, true, true, true, true, true, true, true] rfl rfl (take_ofW HT_.out HW_.out (by kernel_rfl)) (fun _ _ _ h => h) (Or.inl ⟨by rfl, ?_⟩) hHeld ?_ ?_
          rotate_left
          · rintro w' hS
            have s0 := (hS.cell (p := ⟨w.heap.size, 0, none⟩) LX.out.1).trans QX.out.1
            have s1 := (hS.cell (p := ⟨w.heap.size, 1, none⟩) LX.out.1).trans QX.out.2.1
            have s2 := (hS.cell (p := ⟨w.heap.size, 2, none⟩) LX.out.1).trans QX.out.2.2.1
            have s3 := (hS.cell LX.out.2).trans QX.out.2.2.2
            clear hS
            go_simp
            with_reducible rfl
          rotate_left
          · simp only [Act.put, List.setIfInBounds_toArray, List.set_cons_zero, List.set_cons_succ, i64_w, i32_w]
            rfl
          refine done_ (done_of HT_.out (by kernel_rfl)) ?_
          replace KB := Aside0.mk (KB.out.trans (hHeld.mono KB.out.size))
          replace X := Aside0.mk (blk_below X.out hHeld)
          replace BM := Aside0.mk (blk_below BM.out hHeld)
          replace BX := Aside0.mk (blk_below BX.out hHeld)
          replace HA := Aside0.mk (Kd.R_below HA.out hHeld)
          clear hHeld
          have f0 := blk_frozen BX.out 0
          have f1 := blk_frozen BX.out 1
          have qBX0 : w8.cell? ⟨gBX, 0, none⟩ = some (.int .i64 a) := (blk_cell BX.out 0).trans rfl
          have qBX1 : w8.cell? ⟨gBX, 1, none⟩ = some (.int .i64 b) := (blk_cell BX.out 1).trans rfl
          have lBX := blk_lt BX.out
          cases mb with
          | false =>
            go_wp2_with fail
            go_roundw
            case rel =>
              refine ⟨jn + 1, a, b, wv, by omega, by go_num, rfl, ⟨?_⟩, BX, KB, X, BM, HA⟩
              rw [HMT.out]
              simpa using hms.out
            case measure => simp [intOf]; omega
          | true =>
            have hms2 := hms.out
            rcases hms2 with ⟨s1, rfl, rfl, rfl⟩ | ⟨s1, rfl, s2, s3⟩
            · have S1 := Aside0.mk s1
              clear s1 hms
              go_wp2_with fail
              go_roundw
              case rel =>
                have z1 := set2 (x := .int .i64 mn) (y := .int .i64 mn) (set2 (x := .int .i64 mn) (y := .int .i64 mn) BX.out).1
                refine ⟨jn + 1, mn, mn, 0, by omega, by go_num, rfl, ⟨.inr ⟨by rw [HMT.out]; simp, rfl, ?_, ?_⟩⟩, ⟨z1.1⟩, ⟨z1.2.2 _ ((set2 BX.out).2.2 _ KB.out (Nat.le_of_lt NBX_X.out)) (Nat.le_of_lt NBX_X.out)⟩, ⟨(z1.2.1 _ (Nat.ne_of_lt NBX_X.out)).trans (((set2 BX.out).2.1 _ (Nat.ne_of_lt NBX_X.out)).trans X.out)⟩, ⟨(z1.2.1 _ (Nat.ne_of_lt NBX_BM.out)).trans (((set2 BX.out).2.1 _ (Nat.ne_of_lt NBX_BM.out)).trans BM.out)⟩, ⟨R_keepB (R_keepB HA.out BX.out (by decide) (set2 BX.out).2.1) (set2 BX.out).1 (by decide) z1.2.1⟩⟩
                · rw [HMT.out, S1.out]; rfl
                · rw [HMT.out, S1.out]; rfl
              case measure => simp [intOf]; omega
            · have S1 := Aside0.mk (And.intro s1 (And.intro s2 s3))
              clear s1 s2 s3 hms
              go_wp2_with fail
              go_roundw
              case rel =>
                have z1 := set2 (x := .int .i64 (if mn < a then mn else a)) (y := .int .i64 (if b < mn then mn else b)) BX.out
                refine ⟨jn + 1, (if mn < a then mn else a), (if b < mn then mn else b), 0, by omega, by go_num, rfl, ⟨.inr ⟨by rw [HMT.out]; simp, rfl, ?_, ?_⟩⟩, ⟨z1.1⟩, ⟨z1.2.2 _ KB.out (Nat.le_of_lt NBX_X.out)⟩, ⟨(z1.2.1 _ (Nat.ne_of_lt NBX_X.out)).trans X.out⟩, ⟨(z1.2.1 _ (Nat.ne_of_lt NBX_BM.out)).trans BM.out⟩, ⟨R_keepB HA.out BX.out (by decide) z1.2.1⟩⟩
                · rw [HMT.out, if_pos rfl, sp_snoc S1.out.1, ← S1.out.2.1]
                  show _ = min a mn
                  split <;> omega
                · rw [HMT.out, if_pos rfl, sp_snoc S1.out.1, ← S1.out.2.2]
                  show _ = max b mn
                  split <;> omega
              case measure => simp [intOf]; omega
        · have hj6 : decide ((jn : Int) < (nh : Int)) = false := decide_eq_false (by omega)
          have htk : (hists L st xs).take jn = hists L st xs := List.take_of_length_le (by rw [← HHL.out]; omega)
          rw [htk] at hms
          clear htk
          have hmd := mid_0 HPV.out
          rw [HEV.out] at hmd
          have HMD := Aside0.mk hmd
          clear hmd
          have hms2 := hms.out
          rcases hms2 with ⟨s1, rfl, rfl, rfl⟩ | ⟨s1, rfl, s2, s3⟩
          · have he : ev = 7 := by rw [HMD.out, if_pos s1]
            subst he
            have HMR : Aside0 (midR L st xs = (0, 0)) := ⟨by unfold midR; rw [if_neg (by rw [HEV.out]; decide)]⟩
            have h1 : m1 = 0 := by rw [← HM1.out, HMR.out]
            have h2 : m2 = 0 := by rw [← HM2.out, HMR.out]
            subst h1 h2
            clear s1 hms
            have qX0 : wr.cell? ⟨w.heap.size, 0, none⟩ = some (.int .i64 L) := (blk_cell X.out 0).trans rfl
            have qX1 : wr.cell? ⟨w.heap.size, 1, none⟩ = some (.int .i64 st) := (blk_cell X.out 1).trans rfl
            have qX2 : wr.cell? ⟨w.heap.size, 2, none⟩ = some (.slice A l.length c) := (blk_cell X.out 2).trans rfl
            have lX := blk_lt X.out
            have qBM0 : wr.cell? ⟨gBM, 0, none⟩ = some (.int .i64 0) := (blk_cell BM.out 0).trans rfl
            have qBM1 : wr.cell? ⟨gBM, 1, none⟩ = some (.int .i64 0) := (blk_cell BM.out 1).trans rfl
            have lBM := blk_lt BM.out
            have qBX0 : wr.cell? ⟨gBX, 0, none⟩ = some (.int .i64 0) := (blk_cell BX.out 0).trans rfl
            have qBX1 : wr.cell? ⟨gBX, 1, none⟩ = some (.int .i64 0) := (blk_cell BX.out 1).trans rfl
            have lBX := blk_lt BX.out
            go_wp2_with fail
            refine (awake_calls _).mono ?_
            rintro e w61 ⟨rfl, hb61⟩
            clear qX0 qX1 qX2 qBM0 qBM1 qBX0 qBX1 lX lBM lBX
            replace KB := Aside0.mk (KB.out.trans (hb61.mono KB.out.size))
            replace X := Aside0.mk (blk_below X.out hb61)
            replace BM := Aside0.mk (blk_below BM.out hb61)
            replace BX := Aside0.mk (blk_below BX.out hb61)
            replace HA := Aside0.mk (Kd.R_below HA.out hb61)
            clear hb61
            have qX0 : w61.cell? ⟨w.heap.size, 0, none⟩ = some (.int .i64 L) := (blk_cell X.out 0).trans rfl
            have qX1 : w61.cell? ⟨w.heap.size, 1, none⟩ = some (.int .i64 st) := (blk_cell X.out 1).trans rfl
            have qX2 : w61.cell? ⟨w.heap.size, 2, none⟩ = some (.slice A l.length c) := (blk_cell X.out 2).trans rfl
            have lX := blk_lt X.out
            have qBM0 : w61.cell? ⟨gBM, 0, none⟩ = some (.int .i64 0) := (blk_cell BM.out 0).trans rfl
            have qBM1 : w61.cell? ⟨gBM, 1, none⟩ = some (.int .i64 0) := (blk_cell BM.out 1).trans rfl
            have lBM := blk_lt BM.out
            have qBX0 : w61.cell? ⟨gBX, 0, none⟩ = some (.int .i64 0) := (blk_cell BX.out 0).trans rfl
            have qBX1 : w61.cell? ⟨gBX, 1, none⟩ = some (.int .i64 0) := (blk_cell BX.out 1).trans rfl
            have lBX := blk_lt BX.out
            go_wp2_with fail
            go_ret
            exact ⟨rfl, KB.out⟩
          · have he : ev = 0 := by rw [HMD.out, if_neg s1]
            subst he
            have HMR : Aside0 (midR L st xs = sp (mids (hists L st xs))) := ⟨by unfold midR; rw [if_pos (by rw [HEV.out])]⟩
            have h1 : a = m1 := by rw [← HM1.out, HMR.out, s2]
            have h2 : b = m2 := by rw [← HM2.out, HMR.out, s3]
            subst h1 h2
            clear s1 s2 s3 hms
            have qX0 : wr.cell? ⟨w.heap.size, 0, none⟩ = some (.int .i64 L) := (blk_cell X.out 0).trans rfl
            have qX1 : wr.cell? ⟨w.heap.size, 1, none⟩ = some (.int .i64 st) := (blk_cell X.out 1).trans rfl
            have qX2 : wr.cell? ⟨w.heap.size, 2, none⟩ = some (.slice A l.length c) := (blk_cell X.out 2).trans rfl
            have lX := blk_lt X.out
            have qBM0 : wr.cell? ⟨gBM, 0, none⟩ = some (.int .i64 a) := (blk_cell BM.out 0).trans rfl
            have qBM1 : wr.cell? ⟨gBM, 1, none⟩ = some (.int .i64 b) := (blk_cell BM.out 1).trans rfl
            have lBM := blk_lt BM.out
            have qBX0 : wr.cell? ⟨gBX, 0, none⟩ = some (.int .i64 a) := (blk_cell BX.out 0).trans rfl
            have qBX1 : wr.cell? ⟨gBX, 1, none⟩ = some (.int .i64 b) := (blk_cell BX.out 1).trans rfl
            have lBX := blk_lt BX.out
            go_wp2_with fail
            refine (awake_calls _).mono ?_
            rintro e w62 ⟨rfl, hb62⟩
            clear qX0 qX1 qX2 qBM0 qBM1 qBX0 qBX1 lX lBM lBX
            replace KB := Aside0.mk (KB.out.trans (hb62.mono KB.out.size))
            replace X := Aside0.mk (blk_below X.out hb62)
            replace BM := Aside0.mk (blk_below BM.out hb62)
            replace BX := Aside0.mk (blk_below BX.out hb62)
            replace HA := Aside0.mk (Kd.R_below HA.out hb62)
            clear hb62
            have qX0 : w62.cell? ⟨w.heap.size, 0, none⟩ = some (.int .i64 L) := (blk_cell X.out 0).trans rfl
            have qX1 : w62.cell? ⟨w.heap.size, 1, none⟩ = some (.int .i64 st) := (blk_cell X.out 1).trans rfl
            have qX2 : w62.cell? ⟨w.heap.size, 2, none⟩ = some (.slice A l.length c) := (blk_cell X.out 2).trans rfl
            have lX := blk_lt X.out
            have qBM0 : w62.cell? ⟨gBM, 0, none⟩ = some (.int .i64 a) := (blk_cell BM.out 0).trans rfl
            have qBM1 : w62.cell? ⟨gBM, 1, none⟩ = some (.int .i64 b) := (blk_cell BM.out 1).trans rfl
            have lBM := blk_lt BM.out
            have qBX0 : w62.cell? ⟨gBX, 0, none⟩ = some (.int .i64 a) := (blk_cell BX.out 0).trans rfl
            have qBX1 : w62.cell? ⟨gBX, 1, none⟩ = some (.int .i64 b) := (blk_cell BX.out 1).trans rfl
            have lBX := blk_lt BX.out
            go_wp2_with fail
            go_ret
            exact ⟨rfl, KB.out⟩
    · have e1 : (pv == 0) = false := beq_eq_false_iff_ne.2 hp
      have e2 : (pv != 0) = true := bne_iff_ne.2 hp
      have HE9 : Aside0 (ev = pv) := ⟨by rw [← HEV.out, mid_n (by rw [HPV.out]; exact hp), HPV.out]⟩
      have HMM : Aside0 (m1 = 0 ∧ m2 = 0) := ⟨by rw [← HM1.out, ← HM2.out]; unfold midR; rw [if_neg (by rw [HEV.out, HE9.out]; exact hp)]; exact ⟨rfl, rfl⟩⟩
      obtain rfl := HE9.out
      obtain ⟨rfl, rfl⟩ := HMM.out
      clear HE9 HMM hp
      go_wp2_with fail
      have NBX_X := Aside0.mk lX
      have NBX_BM := Aside0.mk lBM
      clear qX0 qX1 qX2 qBM0 qBM1 lX lBM
      have BX := Aside0.mk (blk_new w6 (.cells #[.int .i64 0, .int .i64 0] 28))
      have hb63 : Below w6.heap.size w6 (w6.alloc (.cells #[.int .i64 0, .int .i64 0] 28)) := (Below.refl _ _).alloc (Nat.le_refl _) _
      replace KB := Aside0.mk (KB.out.trans (hb63.mono KB.out.size))
      replace X := Aside0.mk (blk_below X.out hb63)
      replace BM := Aside0.mk (blk_below BM.out hb63)
      clear hb63
      obtain ⟨gBX, hgBX⟩ : ∃ g, w6.heap.size = g := ⟨_, rfl⟩
      rw [hgBX] at BX NBX_X NBX_BM ⊢
      clear hgBX
      generalize w6.alloc (.cells #[.int .i64 0, .int .i64 0] 28) = w63 at BX KB X BM ⊢
      have qX0 : w63.cell? ⟨w.heap.size, 0, none⟩ = some (.int .i64 L) := (blk_cell X.out 0).trans rfl
      have qX1 : w63.cell? ⟨w.heap.size, 1, none⟩ = some (.int .i64 st) := (blk_cell X.out 1).trans rfl
      have qX2 : w63.cell? ⟨w.heap.size, 2, none⟩ = some (.slice A l.length c) := (blk_cell X.out 2).trans rfl
      have lX := blk_lt X.out
      have qBM0 : w63.cell? ⟨gBM, 0, none⟩ = some (.int .i64 0) := (blk_cell BM.out 0).trans rfl
      have qBM1 : w63.cell? ⟨gBM, 1, none⟩ = some (.int .i64 0) := (blk_cell BM.out 1).trans rfl
      have lBM := blk_lt BM.out
      have qBX0 : w63.cell? ⟨gBX, 0, none⟩ = some (.int .i64 0) := (blk_cell BX.out 0).trans rfl
      have qBX1 : w63.cell? ⟨gBX, 1, none⟩ = some (.int .i64 0) := (blk_cell BX.out 1).trans rfl
      have lBX := blk_lt BX.out
      refine (awake_calls _).mono ?_
      rintro e w64 ⟨rfl, hb64⟩
      clear qX0 qX1 qX2 qBM0 qBM1 qBX0 qBX1 lX lBM lBX
      replace KB := Aside0.mk (KB.out.trans (hb64.mono KB.out.size))
      replace X := Aside0.mk (blk_below X.out hb64)
      replace BM := Aside0.mk (blk_below BM.out hb64)
      replace BX := Aside0.mk (blk_below BX.out hb64)
      clear hb64
      have qX0 : w64.cell? ⟨w.heap.size, 0, none⟩ = some (.int .i64 L) := (blk_cell X.out 0).trans rfl
      have qX1 : w64.cell? ⟨w.heap.size, 1, none⟩ = some (.int .i64 st) := (blk_cell X.out 1).trans rfl
      have qX2 : w64.cell? ⟨w.heap.size, 2, none⟩ = some (.slice A l.length c) := (blk_cell X.out 2).trans rfl
      have lX := blk_lt X.out
      have qBM0 : w64.cell? ⟨gBM, 0, none⟩ = some (.int .i64 0) := (blk_cell BM.out 0).trans rfl
      have qBM1 : w64.cell? ⟨gBM, 1, none⟩ = some (.int .i64 0) := (blk_cell BM.out 1).trans rfl
      have lBM := blk_lt BM.out
      have qBX0 : w64.cell? ⟨gBX, 0, none⟩ = some (.int .i64 0) := (blk_cell BX.out 0).trans rfl
      have qBX1 : w64.cell? ⟨gBX, 1, none⟩ = some (.int .i64 0) := (blk_cell BX.out 1).trans rfl
      have lBX := blk_lt BX.out
      go_wp2_with fail
      go_ret
      exact ⟨rfl, KB.out⟩
end
end Go.Proofs.Ytkglggggmlnleaa.Print
