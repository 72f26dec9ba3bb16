/- The law of the ends, walked by hand. -/
import Derived.Test.YtkglggggmlnleaaSd
import Derived.Test.YtkglggggmlnleaaPq
import Derived.Test.YtkglggggmlnleaaSh
import Derived.Test.YtkglggggmlnleaaTi
namespace Go.Proofs.Ytkglggggmlnleaa.Print
open Go.RowKit Go.Proofs.YtkglggggmlnleaaW.PrintWords Go.Proofs.YtkglggggmlnleaaW.PrintLast Go.Proofs.YtkglggggmlnleaaW.PrintMore
set_option linter.unusedVariables false
set_option linter.unusedSimpArgs false
def f9.T9 : Bool × List (List Nat × List Nat) := (true, [([], []), ([0], [0]), ([1], [1]), ([2], [2]), ([3, 2], [2, 3]), ([2, 4], [2, 4]), ([5, 2], [5]), ([6], [6]), ([7, 6, 6], [6, 7]), ([6], [6]), ([9, 8, 6], [6, 9]), ([8, 10, 10, 6], [6, 8, 10]), ([6, 11], [6, 11]), ([12, 11], [12]), ([13], [13]), ([14, 13, 13], [13, 14]), ([13], [13]), ([16, 15, 13], [13, 16]), ([15, 17, 17, 13], [13, 15, 17]), ([13, 18], [13, 18]), ([19, 18], [19]), ([20], [20]), ([20], [20]), ([20], [20]), ([21, 22, 23, 20, 20], [20, 21, 22, 23]), ([20, 24], [20, 24]), ([25, 24], [25]), ([26], [26]), ([26], [26]), ([26], [26]), ([27, 28, 29, 26, 26], [26, 27, 28, 29]), ([26, 30], [26, 30]), ([31, 30], [31]), ([32], [32]), ([33, 32, 32], [32, 33]), ([32], [32]), ([34, 35, 32], [32, 34, 35]), ([36, 32], [32, 36]), ([32], [32]), ([38, 32], [32, 38]), ([37, 39, 32], [32, 37, 39]), ([32, 40], [32, 40]), ([41, 34], [41]), ([42], [42]), ([43, 42, 42], [42, 43]), ([42], [42]), ([44, 45, 42], [42, 44, 45]), ([46, 42], [42, 46]), ([42], [42]), ([48, 42], [42, 48]), ([47, 49, 42], [42, 47, 49]), ([42, 50], [42, 50]), ([51, 44], [51]), ([52, 52], [52]), ([52, 53], [52, 53]), ([54, 53, 0, 1, 2, 3, 4, 5, 6, 7, 8, 9, 10, 11, 12, 13, 14, 15, 16, 17, 18, 19, 20, 21, 22, 23, 24, 25, 26, 27, 28, 29, 30, 31, 32, 33, 34, 35, 36, 37, 38, 39, 40, 41, 42, 43, 44, 45, 46, 47, 48, 49, 50, 51, 52, 53, 54], [54])])
def f9.B9 : List Nat := [0, 1, 3, 7, 15, 31, 63, 127, 255, 127, 1023, 2047, 4095, 8191, 16383, 32767, 16383, 131071, 262143, 524287, 1048575, 2097151, 2097151, 2097151, 16777215, 33554431, 67108863, 134217727, 134217727, 134217727, 1073741823, 2147483647, 4294967295, 8589934591, 17179869183, 8589934591, 68719476735, 137438953471, 8589934591, 283467841535, 1099511627775, 2199023255551, 4398046511103, 8796093022207, 17592186044415, 8796093022207, 70368744177663, 140737488355327, 8796093022207, 290271069732863, 1125899906842623, 2251799813685247, 4503599627370495, 9007199254740991, 18014398509481983, 36028797018963967]
theorem f9.tab9 : rtab .any (opsOf Try.f9 9) = f9.T9 := by kernel_rfl
theorem f9.bits9 : waitsOk f9.T9.2 f9.B9 = true := by kernel_rfl
/-- What Shows shows. -/
theorem show_law {L st : Int} {xs : List S67} (h0 : possI L st xs = 0) (k : Int) (hk0 : 0 ≤ k) (hk : k < xs.length) (high : Bool) :
    (showR L st xs k high).length = xs.length ∧ (showL L st xs k high).length = xs.length ∧ (∀ r ∈ showR L st xs k high, 0 ≤ r) ∧ proveB L st xs (showR L st xs k high) = true ∧ walkB L st xs (showR L st xs k high) = true ∧
      (∀ (i : Nat) (p : Int × Int) (x : Int), (histOf L st (showR L st xs k high))[i]? = some p → (showL L st xs k high)[i]? = some x → limit L false p ≤ x ∧ x ≤ limit L true p) ∧ (rising (showL L st xs k high)).getD k.toNat 0 = endN L st xs k high := by
  obtain ⟨hck, hn⟩ := poss_0 h0
  obtain ⟨k1, k2, k3, k4, _⟩ := check_ok hck
  obtain ⟨b, hb, hm, e, _⟩ := endN_spec L st xs k high hn
  obtain ⟨a1, a2, a3, a4⟩ := (hists_iff L xs st b).1 hm
  have hall := hists_all L xs st k3 k4 b hm
  have hR : showR L st xs k high = b.map (·.1) := by unfold showR showH; rw [if_pos (ask_0 h0 hk0 hk), hb]; rfl
  have hL : showL L st xs k high = b.map (limit L high) := by unfold showL showH; rw [if_pos (ask_0 h0 hk0 hk), hb]; rfl
  rw [hR, hL]
  refine ⟨by simp [a1], by simp [a1], ?_, ?_, a4, ?_, by rw [e]; rfl⟩
  · intro r hr
    obtain ⟨p, hp, rfl⟩ := List.mem_map.1 hr
    exact (a3 p hp).1
  · unfold proveB
    rw [hck, a4]
    simp [a1]
  · intro i p x hp hx
    rw [← a2] at hp
    rw [List.getElem?_map, hp] at hx
    have hx : limit L high p = x := by simpa using hx
    have := (bnd_le L p (hall p (List.mem_of_getElem? hp))).1
    cases high <;> omega
theorem refsorted_n (A : Option Addr) (c : Nat) (xs : List Int) (w : World) (hr : Kd.C (Kd.int .i64) w A xs.length xs) (hn : xs.length ≤ 1000) (n : Nat) (hx : xs.length = n) (h0 : 0 < n) :
    Calls Try.prog 30 #[.slice A n c] w fun e w' => (∃ g cap, e = .returned (.slice (some ⟨g, 0, none⟩) n cap) ∧ Aside0 (∀ k : Nat, k < n → w'.cell? ⟨g, k, none⟩ = some (.int .i64 ((rising xs).getD k 0)))) ∧ Below w.heap.size w w' := by
  subst hx
  refine (refsorted_calls A c xs w hr hn).mono ?_
  rintro e w' ⟨v, rfl, hR, hb⟩
  have hl : (rising xs).length = xs.length := rs_len xs
  obtain ⟨g, cap, rfl, _, _, _⟩ := Kd.R_form hR (by omega)
  refine ⟨⟨g, cap, by rw [hl], ⟨fun k hk => ?_⟩⟩, hb⟩
  have := (Kd.R_celln (0 : Int) hR (k : Int) (by omega) (by omega)).1
  rw [Int.toNat_natCast] at this
  exact this
theorem C_len {α : Type} {d : Kd α} {w w1 : World} {A : Option Addr} {n c : Nat} {xs : List α} (h : Kd.C d w A n xs ∧ xs.length ≤ c) (hb : Below w.heap.size w w1) : Kd.C d w1 A n xs ∧ xs.length ≤ c := ⟨Kd.C_below h.1 hb, h.2⟩
/-- A row that was made, with its length told. -/
theorem row_n {α : Type} {d : Kd α} {e : Nat} {w : World} {base : Nat} {ok : Nat → Prop} {v : Value} {xs : List α} (h : d.R e w base ok v xs) (n : Nat) (hn : xs.length = n) : ∃ A c, v = .slice A n c ∧ Aside0 (Kd.C d w A xs.length xs ∧ xs.length ≤ c) := by
  subst hn
  obtain ⟨A, c, h1, h2, h3⟩ := Kd.R_reads h
  exact ⟨A, c, h1, ⟨h3, h2⟩⟩
theorem bytes_n (A : Option Addr) (c : Nat) (l : List Int) (w : World) (hr : Kd.C (Kd.int .u8) w A l.length l) (hc : l.length ≤ c) (hl : l.length ≤ 1000) (n : Nat) (hn : l.length = n) :
    Calls Try.prog 33 #[.slice A n c] w fun e w' => (∃ A' c', e = .returned (.slice A' n c') ∧ Aside0 (Kd.C (Kd.int .u8) w' A' l.length l ∧ l.length ≤ c')) ∧ Below w.heap.size w w' := by
  subst hn
  refine (bytes_calls A c l w hr hc hl).mono ?_
  rintro e w' ⟨v, rfl, hR, hb⟩
  obtain ⟨A', c', rfl, h2⟩ := row_n hR _ rfl
  exact ⟨⟨A', c', rfl, h2⟩, hb⟩
theorem prove_n (L st : Int) (A : Option Addr) (c : Nat) (l : List S67) (A1 : Option Addr) (c1 : Nat) (rs : List Int) (w : World) (hr : Kd.C k67 w A l.length l) (hc : l.length ≤ c) (hr1 : Kd.C (Kd.int .u8) w A1 rs.length rs) (hc1 : rs.length ≤ c1) (hu : ∀ r ∈ rs, 0 ≤ r) (n m : Nat) (hn : l.length = n) (hm : rs.length = m) :
    Calls Try.prog 32 #[.agg #[.int .i64 L, .int .i64 st, .slice A n c], .slice A1 m c1] w fun e w' => e = .returned (.bool (proveB L st l rs)) ∧ Below w.heap.size w w' := by
  subst hn hm; exact prove_calls L st A c l A1 c1 rs w hr hc hr1 hc1 hu
theorem istruth_n (L st : Int) (A : Option Addr) (c : Nat) (l : List S43) (A1 : Option Addr) (c1 : Nat) (rs : List Int) (A2 : Option Addr) (c2 : Nat) (ts : List Int) (w : World) (hr : Kd.C k43 w A l.length l) (hc : l.length ≤ c) (hr1 : Kd.C (Kd.int .u8) w A1 rs.length rs) (hr2 : Kd.C (Kd.int .i64) w A2 ts.length ts)
    (hck : checkI L st (l.map up) = 0) (hrs : rs.length = l.length) (hts : ts.length = l.length) (hw : walkB L st (l.map up) rs = true)
    (hb : ∀ (i : Nat) (p : Int × Int) (x : Int), (histOf L st rs)[i]? = some p → ts[i]? = some x → limit L false p ≤ x ∧ x ≤ limit L true p) :
    Calls Try.prog 29 #[.agg #[.int .i64 L, .int .i64 st, .slice A l.length c], .slice A1 l.length c1, .slice A2 l.length c2] w fun e w' => e = .returned (.bool true) ∧ Below w.heap.size w w' := by
  obtain ⟨k1, k2, k3, k4, k5⟩ := check_ok hck
  simp only [List.length_map] at k5
  have h := istruth_calls L st A c l A1 c1 rs A2 c2 ts w hr hc hr1 hr2 k2 k3 k4 (by omega) (fun x hx => (check_runs hck x hx).1) hrs hts hw hb
  rw [hrs, hts] at h
  exact h
set_option maxHeartbeats 4000000 in
set_option maxRecDepth 100000 in
theorem law_ends (L st : Int) (A : Option Addr) (c : Nat) (l : List S43) (which : Int) (w : World) (hr : Kd.C k43 w A l.length l) (hc : l.length ≤ c) (hl : l.length < 8796093022208) (hwf : 0 ≤ which ∧ which < 256) :
    Calls Try.prog 9 #[.agg #[.int .i64 L, .int .i64 st, .slice A l.length c], .int .u8 which] w fun e w' => e = .returned (.bool true) ∧ Below w.heap.size w w' := by
  have hu24 := Try.underlying24
  have HR := Aside0.mk hr
  have HC := Aside0.mk hc
  have HW := Aside0.mk hwf
  clear hr hc hwf
  have KB : Aside0 (Below w.heap.size w (w.alloc (.cells #[.int .i64 L, .int .i64 st, .slice A l.length c] 24))) := ⟨(Below.refl _ w).alloc (by simp) _⟩
  have X := Aside0.mk (blk_new w (.cells #[.int .i64 L, .int .i64 st, .slice A l.length c] 24))
  obtain ⟨xs, hxs⟩ : ∃ xs, l.map up = xs := ⟨_, rfl⟩
  have HX := Aside0.mk hxs
  clear hxs
  have HLT : Aside0 (w.heap.size < (w.alloc (.cells #[.int .i64 L, .int .i64 st, .slice A l.length c] 24)).heap.size) := ⟨by simp⟩
  go_enter Try.func9, Try.ntmps9
  go_wp2_with fail
  generalize w.alloc (.cells #[.int .i64 L, .int .i64 st, .slice A l.length c] 24) = w0 at KB X HLT ⊢
  have qX0 : w0.cell? ⟨w.heap.size, 0, none⟩ = some (.int .i64 L) := (blk_cell X.out 0).trans rfl
  have qX1 : w0.cell? ⟨w.heap.size, 1, none⟩ = some (.int .i64 st) := (blk_cell X.out 1).trans rfl
  have qX2 : w0.cell? ⟨w.heap.size, 2, none⟩ = some (.slice A l.length c) := (blk_cell X.out 2).trans rfl
  have lX := blk_lt X.out
  obtain ⟨rb, hrb⟩ : ∃ rb, decide (checkI L st (l.map up) = 0) = rb := ⟨_, rfl⟩
  have HRB := Aside0.mk hrb
  clear hrb
  refine (ready_calls L st A c l _ (Kd.C_below HR.out KB.out) HC.out (by omega) rb HRB.out).mono ?_
  rintro e w1 ⟨rfl, hb1⟩
  clear qX0 qX1 qX2 lX
  replace KB := Aside0.mk (KB.out.trans (hb1.mono KB.out.size))
  replace X := Aside0.mk (blk_below X.out hb1)
  clear hb1
  have qX0 : w1.cell? ⟨w.heap.size, 0, none⟩ = some (.int .i64 L) := (blk_cell X.out 0).trans rfl
  have qX1 : w1.cell? ⟨w.heap.size, 1, none⟩ = some (.int .i64 st) := (blk_cell X.out 1).trans rfl
  have qX2 : w1.cell? ⟨w.heap.size, 2, none⟩ = some (.slice A l.length c) := (blk_cell X.out 2).trans rfl
  have lX := blk_lt X.out
  cases rb with
  | false =>
    go_wp2_with fail
    refine (awake_calls _).mono ?_
    rintro e w2 ⟨rfl, hb2⟩
    clear qX0 qX1 qX2 lX
    replace KB := Aside0.mk (KB.out.trans (hb2.mono KB.out.size))
    replace X := Aside0.mk (blk_below X.out hb2)
    clear hb2
    have qX0 : w2.cell? ⟨w.heap.size, 0, none⟩ = some (.int .i64 L) := (blk_cell X.out 0).trans rfl
    have qX1 : w2.cell? ⟨w.heap.size, 1, none⟩ = some (.int .i64 st) := (blk_cell X.out 1).trans rfl
    have qX2 : w2.cell? ⟨w.heap.size, 2, none⟩ = some (.slice A l.length c) := (blk_cell X.out 2).trans rfl
    have lX := blk_lt X.out
    go_wp2_with fail
    go_ret
    exact ⟨rfl, KB.out⟩
  | true =>
    have HCK : Aside0 (checkI L st xs = 0) := ⟨by rw [← HX.out]; exact of_decide_eq_true HRB.out⟩
    have HXL : Aside0 (xs.length = l.length) := ⟨by rw [← HX.out]; simp⟩
    have H14 := (check_ok HCK.out).2.2.2.2
    rw [HXL.out] at H14
    by_cases hl0 : l.length = 0
    · have z1 : ((l.length : Int) == 0) = true := beq_iff_eq.2 (by omega)
      have z2 : (l.length == 0) = true := beq_iff_eq.2 hl0
      have z3 : l = [] := List.eq_nil_of_length_eq_zero hl0
      clear hl0
      go_wp2_with fail
      refine (awake_calls _).mono ?_
      rintro e w3 ⟨rfl, hb3⟩
      clear qX0 qX1 qX2 lX
      replace KB := Aside0.mk (KB.out.trans (hb3.mono KB.out.size))
      replace X := Aside0.mk (blk_below X.out hb3)
      clear hb3
      have qX0 : w3.cell? ⟨w.heap.size, 0, none⟩ = some (.int .i64 L) := (blk_cell X.out 0).trans rfl
      have qX1 : w3.cell? ⟨w.heap.size, 1, none⟩ = some (.int .i64 st) := (blk_cell X.out 1).trans rfl
      have qX2 : w3.cell? ⟨w.heap.size, 2, none⟩ = some (.slice A l.length c) := (blk_cell X.out 2).trans rfl
      have lX := blk_lt X.out
      go_wp2_with fail
      go_ret
      exact ⟨rfl, KB.out⟩
    · have z1 : ((l.length : Int) == 0) = false := beq_eq_false_iff_ne.2 (by omega)
      have z2 : (l.length == 0) = false := beq_eq_false_iff_ne.2 hl0
      have z4 : 0 < l.length := by omega
      have z5 : (0 : Int) < l.length := by omega
      have z6 : ¬ l = [] := fun e => hl0 (by rw [e]; rfl)
      obtain ⟨wn, rfl⟩ : ∃ wn : Nat, which = wn := ⟨which.toNat, by have := HW.out; omega⟩
      have I1 : Aside0 ((wrap64 (wn : Int)).tmod (l.length : Int) = ((wn % l.length : Nat) : Int)) := ⟨by rw [show wrap64 (wn : Int) = wn by unfold wrap64; have := HW.out; omega, Int.tmod_eq_emod_of_nonneg (by omega)]; rfl⟩
      have hk := Nat.mod_lt wn z4
      obtain ⟨kn, hkn⟩ : ∃ kn, wn % l.length = kn := ⟨_, rfl⟩
      rw [hkn] at hk I1
      clear hkn HW
      have HK := Aside0.mk hk
      have hk7 : (kn : Int) < l.length := by omega
      have hk8 : (0 : Int) ≤ (kn : Int) := by omega
      clear hk
      obtain ⟨pv, hpv⟩ : ∃ pv, possI L st xs = pv := ⟨_, rfl⟩
      have HPV := Aside0.mk hpv
      clear hpv
      obtain ⟨ev, hev⟩ : ∃ ev, askE L st xs kn = ev := ⟨_, rfl⟩
      have HEV := Aside0.mk hev
      clear hev
      obtain ⟨e1, he1⟩ : ∃ e1, (rankR L st xs kn).1 = e1 := ⟨_, rfl⟩
      have HE1 := Aside0.mk he1
      clear he1
      obtain ⟨e2, he2⟩ : ∃ e2, (rankR L st xs kn).2 = e2 := ⟨_, rfl⟩
      have HE2 := Aside0.mk he2
      clear he2
      obtain ⟨rs0, hrs0⟩ : ∃ rs0, showR L st xs kn false = rs0 := ⟨_, rfl⟩
      have HRS0 := Aside0.mk hrs0
      clear hrs0
      obtain ⟨ls0, hls0⟩ : ∃ ls0, showL L st xs kn false = ls0 := ⟨_, rfl⟩
      have HLS0 := Aside0.mk hls0
      clear hls0
      obtain ⟨rs1, hrs1⟩ : ∃ rs1, showR L st xs kn true = rs1 := ⟨_, rfl⟩
      have HRS1 := Aside0.mk hrs1
      clear hrs1
      obtain ⟨ls1, hls1⟩ : ∃ ls1, showL L st xs kn true = ls1 := ⟨_, rfl⟩
      have HLS1 := Aside0.mk hls1
      clear hls1
      go_wp2_with fail
      try simp only [I1.out]
      refine (stairs_calls L st A c l _ (Kd.C_below HR.out KB.out) HC.out (by omega) xs HX.out).mono ?_
      rintro e w4 ⟨⟨A1, c1, rfl, HC1⟩, hb4⟩
      clear qX0 qX1 qX2 lX
      replace KB := Aside0.mk (KB.out.trans (hb4.mono KB.out.size))
      replace X := Aside0.mk (blk_below X.out hb4)
      clear hb4
      have qX0 : w4.cell? ⟨w.heap.size, 0, none⟩ = some (.int .i64 L) := (blk_cell X.out 0).trans rfl
      have qX1 : w4.cell? ⟨w.heap.size, 1, none⟩ = some (.int .i64 st) := (blk_cell X.out 1).trans rfl
      have qX2 : w4.cell? ⟨w.heap.size, 2, none⟩ = some (.slice A l.length c) := (blk_cell X.out 2).trans rfl
      have lX := blk_lt X.out
      go_wp2_with fail
      try simp only [I1.out]
      refine (rank_calls L st A1 c1 xs (kn : Int) _ HC1.out.1 HC1.out.2).mono ?_
      rintro e w5 ⟨rfl, hb5⟩
      clear qX0 qX1 qX2 lX
      replace KB := Aside0.mk (KB.out.trans (hb5.mono KB.out.size))
      replace X := Aside0.mk (blk_below X.out hb5)
      rw [HE1.out, HE2.out, HEV.out]
      clear hb5
      have qX0 : w5.cell? ⟨w.heap.size, 0, none⟩ = some (.int .i64 L) := (blk_cell X.out 0).trans rfl
      have qX1 : w5.cell? ⟨w.heap.size, 1, none⟩ = some (.int .i64 st) := (blk_cell X.out 1).trans rfl
      have qX2 : w5.cell? ⟨w.heap.size, 2, none⟩ = some (.slice A l.length c) := (blk_cell X.out 2).trans rfl
      have lX := blk_lt X.out
      go_wp2_with fail
      clear qX0 qX1 qX2 lX
      have BE := Aside0.mk (blk_new w5 (.cells #[.int .i64 e1, .int .i64 e2] 28))
      have hb6 : Below w5.heap.size w5 (w5.alloc (.cells #[.int .i64 e1, .int .i64 e2] 28)) := (Below.refl _ _).alloc (Nat.le_refl _) _
      replace KB := Aside0.mk (KB.out.trans (hb6.mono KB.out.size))
      replace X := Aside0.mk (blk_below X.out hb6)
      clear hb6
      obtain ⟨gBE, hgBE⟩ : ∃ g, w5.heap.size = g := ⟨_, rfl⟩
      rw [hgBE] at BE ⊢
      clear hgBE
      generalize w5.alloc (.cells #[.int .i64 e1, .int .i64 e2] 28) = w6 at BE KB X ⊢
      have qX0 : w6.cell? ⟨w.heap.size, 0, none⟩ = some (.int .i64 L) := (blk_cell X.out 0).trans rfl
      have qX1 : w6.cell? ⟨w.heap.size, 1, none⟩ = some (.int .i64 st) := (blk_cell X.out 1).trans rfl
      have qX2 : w6.cell? ⟨w.heap.size, 2, none⟩ = some (.slice A l.length c) := (blk_cell X.out 2).trans rfl
      have lX := blk_lt X.out
      have qBE0 : w6.cell? ⟨gBE, 0, none⟩ = some (.int .i64 e1) := (blk_cell BE.out 0).trans rfl
      have qBE1 : w6.cell? ⟨gBE, 1, none⟩ = some (.int .i64 e2) := (blk_cell BE.out 1).trans rfl
      have lBE := blk_lt BE.out
      refine (stairs_calls L st A c l _ (Kd.C_below HR.out KB.out) HC.out (by omega) xs HX.out).mono ?_
      rintro e w7 ⟨⟨A2, c2, rfl, HC2⟩, hb7⟩
      clear qX0 qX1 qX2 qBE0 qBE1 lX lBE
      replace KB := Aside0.mk (KB.out.trans (hb7.mono KB.out.size))
      replace X := Aside0.mk (blk_below X.out hb7)
      replace BE := Aside0.mk (blk_below BE.out hb7)
      clear hb7
      have qX0 : w7.cell? ⟨w.heap.size, 0, none⟩ = some (.int .i64 L) := (blk_cell X.out 0).trans rfl
      have qX1 : w7.cell? ⟨w.heap.size, 1, none⟩ = some (.int .i64 st) := (blk_cell X.out 1).trans rfl
      have qX2 : w7.cell? ⟨w.heap.size, 2, none⟩ = some (.slice A l.length c) := (blk_cell X.out 2).trans rfl
      have lX := blk_lt X.out
      have qBE0 : w7.cell? ⟨gBE, 0, none⟩ = some (.int .i64 e1) := (blk_cell BE.out 0).trans rfl
      have qBE1 : w7.cell? ⟨gBE, 1, none⟩ = some (.int .i64 e2) := (blk_cell BE.out 1).trans rfl
      have lBE := blk_lt BE.out
      go_wp2_with fail
      refine (shows_calls L st A2 c2 xs (kn : Int) false _ HC2.out.1 HC2.out.2).mono ?_
      rintro e w8 ⟨v3, v4, rfl, hR3, hR4, hb8⟩
      clear qX0 qX1 qX2 qBE0 qBE1 lX lBE
      replace KB := Aside0.mk (KB.out.trans (hb8.mono KB.out.size))
      replace X := Aside0.mk (blk_below X.out hb8)
      replace BE := Aside0.mk (blk_below BE.out hb8)
      rw [HRS0.out] at hR3
      rw [HLS0.out] at hR4
      rw [HEV.out]
      clear hb8
      have qX0 : w8.cell? ⟨w.heap.size, 0, none⟩ = some (.int .i64 L) := (blk_cell X.out 0).trans rfl
      have qX1 : w8.cell? ⟨w.heap.size, 1, none⟩ = some (.int .i64 st) := (blk_cell X.out 1).trans rfl
      have qX2 : w8.cell? ⟨w.heap.size, 2, none⟩ = some (.slice A l.length c) := (blk_cell X.out 2).trans rfl
      have lX := blk_lt X.out
      have qBE0 : w8.cell? ⟨gBE, 0, none⟩ = some (.int .i64 e1) := (blk_cell BE.out 0).trans rfl
      have qBE1 : w8.cell? ⟨gBE, 1, none⟩ = some (.int .i64 e2) := (blk_cell BE.out 1).trans rfl
      have lBE := blk_lt BE.out
      have HR3 := Aside0.mk hR3
      have HR4 := Aside0.mk hR4
      clear hR3 hR4
      go_wp2_with fail
      refine (stairs_calls L st A c l _ (Kd.C_below HR.out KB.out) HC.out (by omega) xs HX.out).mono ?_
      rintro e w9 ⟨⟨A5, c5, rfl, HC5⟩, hb9⟩
      clear qX0 qX1 qX2 qBE0 qBE1 lX lBE
      replace KB := Aside0.mk (KB.out.trans (hb9.mono KB.out.size))
      replace X := Aside0.mk (blk_below X.out hb9)
      replace BE := Aside0.mk (blk_below BE.out hb9)
      replace HR3 := Aside0.mk (Kd.R_below HR3.out hb9)
      replace HR4 := Aside0.mk (Kd.R_below HR4.out hb9)
      clear hb9
      have qX0 : w9.cell? ⟨w.heap.size, 0, none⟩ = some (.int .i64 L) := (blk_cell X.out 0).trans rfl
      have qX1 : w9.cell? ⟨w.heap.size, 1, none⟩ = some (.int .i64 st) := (blk_cell X.out 1).trans rfl
      have qX2 : w9.cell? ⟨w.heap.size, 2, none⟩ = some (.slice A l.length c) := (blk_cell X.out 2).trans rfl
      have lX := blk_lt X.out
      have qBE0 : w9.cell? ⟨gBE, 0, none⟩ = some (.int .i64 e1) := (blk_cell BE.out 0).trans rfl
      have qBE1 : w9.cell? ⟨gBE, 1, none⟩ = some (.int .i64 e2) := (blk_cell BE.out 1).trans rfl
      have lBE := blk_lt BE.out
      go_wp2_with fail
      refine (shows_calls L st A5 c5 xs (kn : Int) true _ HC5.out.1 HC5.out.2).mono ?_
      rintro e w10 ⟨v6, v7, rfl, hR6, hR7, hb10⟩
      clear qX0 qX1 qX2 qBE0 qBE1 lX lBE
      replace KB := Aside0.mk (KB.out.trans (hb10.mono KB.out.size))
      replace X := Aside0.mk (blk_below X.out hb10)
      replace BE := Aside0.mk (blk_below BE.out hb10)
      replace HR3 := Aside0.mk (Kd.R_below HR3.out hb10)
      replace HR4 := Aside0.mk (Kd.R_below HR4.out hb10)
      rw [HRS1.out] at hR6
      rw [HLS1.out] at hR7
      rw [HEV.out]
      clear hb10
      have qX0 : w10.cell? ⟨w.heap.size, 0, none⟩ = some (.int .i64 L) := (blk_cell X.out 0).trans rfl
      have qX1 : w10.cell? ⟨w.heap.size, 1, none⟩ = some (.int .i64 st) := (blk_cell X.out 1).trans rfl
      have qX2 : w10.cell? ⟨w.heap.size, 2, none⟩ = some (.slice A l.length c) := (blk_cell X.out 2).trans rfl
      have lX := blk_lt X.out
      have qBE0 : w10.cell? ⟨gBE, 0, none⟩ = some (.int .i64 e1) := (blk_cell BE.out 0).trans rfl
      have qBE1 : w10.cell? ⟨gBE, 1, none⟩ = some (.int .i64 e2) := (blk_cell BE.out 1).trans rfl
      have lBE := blk_lt BE.out
      have HR6 := Aside0.mk hR6
      have HR7 := Aside0.mk hR7
      clear hR6 hR7
      by_cases hp : pv = 0
      · have H0 : Aside0 (possI L st xs = 0) := ⟨by rw [HPV.out]; exact hp⟩
        have hae : ev = 0 := by rw [← HEV.out]; exact ask_0 H0.out hk8 (by have := HXL.out; omega)
        subst hae
        clear hp
        have hrk := rank_0 HEV.out
        have HEE1 : Aside0 (endN L st xs kn false = e1) := ⟨by rw [← HE1.out, hrk]⟩
        have HEE2 : Aside0 (endN L st xs kn true = e2) := ⟨by rw [← HE2.out, hrk]⟩
        clear hrk
        have HS0 := Aside0.mk (show_law H0.out (kn : Int) hk8 (by have := HXL.out; omega) false)
        rw [HRS0.out, HLS0.out, HEE1.out, Int.toNat_natCast] at HS0
        have HS1 := Aside0.mk (show_law H0.out (kn : Int) hk8 (by have := HXL.out; omega) true)
        rw [HRS1.out, HLS1.out, HEE2.out, Int.toNat_natCast] at HS1
        obtain ⟨Ar0, cr0, rfl, CR0⟩ := row_n HR3.out l.length (by have := HS0.out.1; have := HXL.out; omega)
        obtain ⟨Al0, cl0, rfl, CL0⟩ := row_n HR4.out l.length (by have := HS0.out.2.1; have := HXL.out; omega)
        obtain ⟨Ar1, cr1, rfl, CR1⟩ := row_n HR6.out l.length (by have := HS1.out.1; have := HXL.out; omega)
        obtain ⟨Al1, cl1, rfl, CL1⟩ := row_n HR7.out l.length (by have := HS1.out.2.1; have := HXL.out; omega)
        have QX := Aside0.mk (And.intro qX0 (And.intro qX1 qX2))
        have LX := Aside0.mk lX
        have QE := Aside0.mk (And.intro qBE0 qBE1)
        have LE := Aside0.mk lBE
        go_wp2_with fail
        clear qX0 qX1 qX2 qBE0 qBE1 lX lBE
        clear HR3 HR4 HR6 HR7
        generalize w10 = W at KB X BE CR0 CL0 CR1 CL1 QX LX QE LE ⊢
        refine start_ (n := 56) (S := (Below W.heap.size W)) (ds := []) #[false, false, false, false, false, false, false, false, false, false, false, false, false, false, false, false, false, false, false, false, false, false, false, false, false, false, false, false, false, false, false, false, false, false, false, false, false, false, false, false, false, false, false, false, false, false, false, false, false, false, false, false, false, false, false, false] (by kernel_rfl) rfl rfl ((Below.refl _ _).drew) (fun hHeld => ?_)
        refine with_tabW f9.tab9 f9.bits9 (fun HT_ HW_ => ?_)
        refine take_ (i := 0) (N := some 70) (v := ?_) (a' := ?_) #[true, false, false, false, false, false, false, false, false, false, false, false, false, false, false, false, false, false, false, false, false, false, false, false, false, false, false, false, false, false, false, false, false, false, false, false, false, false, false, false, false, false, false, false, false, false, false, false, false, false, false, false, false, false, false, false] rfl rfl (take_ofW HT_.out HW_.out (by kernel_rfl)) (fun _ _ _ h => h) (Or.inl ⟨by rfl, ?_⟩) hHeld ?_ ?_
        rotate_left
        · rintro w' hS
          have s0 := (hS.cell (p := ⟨w.heap.size, 0, none⟩) LX.out).trans QX.out.1
          have s1 := (hS.cell (p := ⟨w.heap.size, 1, none⟩) LX.out).trans QX.out.2.1
          have s2 := (hS.cell (p := ⟨w.heap.size, 2, none⟩) LX.out).trans QX.out.2.2
          have s3 := (hS.cell (p := ⟨gBE, 0, none⟩) LE.out).trans QE.out.1
          have s4 := (hS.cell (p := ⟨gBE, 1, none⟩) LE.out).trans QE.out.2
          clear hS
          go_simp
          with_reducible rfl
        rotate_left
        · simp only [Act.put, List.setIfInBounds_toArray, List.set_cons_zero, List.set_cons_succ, i64_w, i32_w]
          rfl
        refine take_ (i := 1) (N := some 71) (v := ?_) (a' := ?_) #[true, true, false, false, false, false, false, false, false, false, false, false, false, false, false, false, false, false, false, false, false, false, false, false, false, false, false, false, false, false, false, false, false, false, false, false, false, false, false, false, false, false, false, false, false, false, false, false, false, false, false, false, false, false, false, false] rfl rfl (take_ofW HT_.out HW_.out (by kernel_rfl)) (fun _ _ _ h => h) (Or.inl ⟨by rfl, ?_⟩) hHeld ?_ ?_
        rotate_left
        · rintro w' hS
          have s0 := (hS.cell (p := ⟨w.heap.size, 0, none⟩) LX.out).trans QX.out.1
          have s1 := (hS.cell (p := ⟨w.heap.size, 1, none⟩) LX.out).trans QX.out.2.1
          have s2 := (hS.cell (p := ⟨w.heap.size, 2, none⟩) LX.out).trans QX.out.2.2
          have s3 := (hS.cell (p := ⟨gBE, 0, none⟩) LE.out).trans QE.out.1
          have s4 := (hS.cell (p := ⟨gBE, 1, none⟩) LE.out).trans QE.out.2
          clear hS
          go_simp
          with_reducible rfl
        rotate_left
        · simp only [Act.put, List.setIfInBounds_toArray, List.set_cons_zero, List.set_cons_succ, i64_w, i32_w]
          rfl
        refine take_ (i := 2) (N := some 72) (v := ?_) (a' := ?_) #[true, true, true, false, false, false, false, false, false, false, false, false, false, false, false, false, false, false, false, false, false, false, false, false, false, false, false, false, false, false, false, false, false, false, false, false, false, false, false, false, false, false, false, false, false, false, false, false, false, false, false, false, false, false, false, false] rfl rfl (take_ofW HT_.out HW_.out (by kernel_rfl)) (fun _ _ _ h => h) (Or.inl ⟨by rfl, ?_⟩) hHeld ?_ ?_
        rotate_left
        · rintro w' hS
          have s0 := (hS.cell (p := ⟨w.heap.size, 0, none⟩) LX.out).trans QX.out.1
          have s1 := (hS.cell (p := ⟨w.heap.size, 1, none⟩) LX.out).trans QX.out.2.1
          have s2 := (hS.cell (p := ⟨w.heap.size, 2, none⟩) LX.out).trans QX.out.2.2
          have s3 := (hS.cell (p := ⟨gBE, 0, none⟩) LE.out).trans QE.out.1
          have s4 := (hS.cell (p := ⟨gBE, 1, none⟩) LE.out).trans QE.out.2
          clear hS
          go_simp
          with_reducible rfl
        rotate_left
        · simp only [Act.put, List.setIfInBounds_toArray, List.set_cons_zero, List.set_cons_succ, i64_w, i32_w]
          rfl
        refine take_ (i := 3) (N := some 73) (v := ?_) (a' := ?_) #[true, true, true, true, false, false, false, false, false, false, false, false, false, false, false, false, false, false, false, false, false, false, false, false, false, false, false, false, false, false, false, false, false, false, false, false, false, false, false, false, false, false, false, false, false, false, false, false, false, false, false, false, false, false, false, false] rfl rfl (take_ofW HT_.out HW_.out (by kernel_rfl)) (fun _ _ _ h => h) (Or.inl ⟨by rfl, ?_⟩) hHeld ?_ ?_
        rotate_left
        · rintro w' hS
          have s0 := (hS.cell (p := ⟨w.heap.size, 0, none⟩) LX.out).trans QX.out.1
          have s1 := (hS.cell (p := ⟨w.heap.size, 1, none⟩) LX.out).trans QX.out.2.1
          have s2 := (hS.cell (p := ⟨w.heap.size, 2, none⟩) LX.out).trans QX.out.2.2
          have s3 := (hS.cell (p := ⟨gBE, 0, none⟩) LE.out).trans QE.out.1
          have s4 := (hS.cell (p := ⟨gBE, 1, none⟩) LE.out).trans QE.out.2
          clear hS
          go_simp
          with_reducible rfl
        rotate_left
        · simp only [Act.put, List.setIfInBounds_toArray, List.set_cons_zero, List.set_cons_succ, i64_w, i32_w]
          rfl
        refine take_ (i := 4) (N := some 74) (v := ?_) (a' := ?_) #[true, true, true, true, true, false, false, false, false, false, false, false, false, false, false, false, false, false, false, false, false, false, false, false, false, false, false, false, false, false, false, false, false, false, false, false, false, false, false, false, false, false, false, false, false, false, false, false, false, false, false, false, false, false, false, false] rfl rfl (take_ofW HT_.out HW_.out (by kernel_rfl)) (fun _ _ _ h => h) (Or.inl ⟨by rfl, ?_⟩) hHeld ?_ ?_
        rotate_left
        · rintro w' hS
          have s0 := (hS.cell (p := ⟨w.heap.size, 0, none⟩) LX.out).trans QX.out.1
          have s1 := (hS.cell (p := ⟨w.heap.size, 1, none⟩) LX.out).trans QX.out.2.1
          have s2 := (hS.cell (p := ⟨w.heap.size, 2, none⟩) LX.out).trans QX.out.2.2
          have s3 := (hS.cell (p := ⟨gBE, 0, none⟩) LE.out).trans QE.out.1
          have s4 := (hS.cell (p := ⟨gBE, 1, none⟩) LE.out).trans QE.out.2
          clear hS
          go_simp
          with_reducible rfl
        rotate_left
        · simp only [Act.put, List.setIfInBounds_toArray, List.set_cons_zero, List.set_cons_succ, i64_w, i32_w]
          rfl
        refine take_ (i := 5) (N := some 75) (v := ?_) (a' := ?_) #[true, true, true, true, true, true, false, false, false, false, false, false, false, false, false, false, false, false, false, false, false, false, false, false, false, false, false, false, false, false, false, false, false, false, false, false, false, false, false, false, false, false, false, false, false, false, false, false, false, false, false, false, false, false, false, false] rfl rfl (take_ofW HT_.out HW_.out (by kernel_rfl)) (fun _ _ _ h => h) (Or.inl ⟨by rfl, ?_⟩) hHeld ?_ ?_
        rotate_left
        · rintro w' hS
          have s0 := (hS.cell (p := ⟨w.heap.size, 0, none⟩) LX.out).trans QX.out.1
          have s1 := (hS.cell (p := ⟨w.heap.size, 1, none⟩) LX.out).trans QX.out.2.1
          have s2 := (hS.cell (p := ⟨w.heap.size, 2, none⟩) LX.out).trans QX.out.2.2
          have s3 := (hS.cell (p := ⟨gBE, 0, none⟩) LE.out).trans QE.out.1
          have s4 := (hS.cell (p := ⟨gBE, 1, none⟩) LE.out).trans QE.out.2
          clear hS
          go_simp
          with_reducible rfl
        rotate_left
        · simp only [Act.put, List.setIfInBounds_toArray, List.set_cons_zero, List.set_cons_succ, i64_w, i32_w]
          rfl
        refine take_ (i := 6) (N := some 76) (v := ?_) (a' := ?_) #[true, true, true, true, true, true, true, false, false, false, false, false, false, false, false, false, false, false, false, false, false, false, false, false, false, false, false, false, false, false, false, false, false, false, false, false, false, false, false, false, false, false, false, false, false, false, false, false, false, false, false, false, false, false, false, false] rfl rfl (take_ofW HT_.out HW_.out (by kernel_rfl)) (fun _ _ _ h => h) (Or.inl ⟨by rfl, ?_⟩) hHeld ?_ ?_
        rotate_left
        · rintro w' hS
          have s0 := (hS.cell (p := ⟨w.heap.size, 0, none⟩) LX.out).trans QX.out.1
          have s1 := (hS.cell (p := ⟨w.heap.size, 1, none⟩) LX.out).trans QX.out.2.1
          have s2 := (hS.cell (p := ⟨w.heap.size, 2, none⟩) LX.out).trans QX.out.2.2
          have s3 := (hS.cell (p := ⟨gBE, 0, none⟩) LE.out).trans QE.out.1
          have s4 := (hS.cell (p := ⟨gBE, 1, none⟩) LE.out).trans QE.out.2
          clear hS
          go_simp
          with_reducible rfl
        rotate_left
        · simp only [Act.put, List.setIfInBounds_toArray, List.set_cons_zero, List.set_cons_succ, i64_w, i32_w]
          rfl
        refine take_ (i := 7) (N := some 77) (v := ?_) (a' := ?_) #[true, true, true, true, true, true, true, true, false, false, false, false, false, false, false, false, false, false, false, false, false, false, false, false, false, false, false, false, false, false, false, false, false, false, false, false, false, false, false, false, false, false, false, false, false, false, false, false, false, false, false, false, false, false, false, false] rfl rfl (take_ofW HT_.out HW_.out (by kernel_rfl)) (fun _ _ _ h => h) (Or.inl ⟨by rfl, ?_⟩) hHeld ?_ ?_
        rotate_left
        · rintro w' hS
          have s0 := (hS.cell (p := ⟨w.heap.size, 0, none⟩) LX.out).trans QX.out.1
          have s1 := (hS.cell (p := ⟨w.heap.size, 1, none⟩) LX.out).trans QX.out.2.1
          have s2 := (hS.cell (p := ⟨w.heap.size, 2, none⟩) LX.out).trans QX.out.2.2
          have s3 := (hS.cell (p := ⟨gBE, 0, none⟩) LE.out).trans QE.out.1
          have s4 := (hS.cell (p := ⟨gBE, 1, none⟩) LE.out).trans QE.out.2
          clear hS
          go_simp
          with_reducible rfl
        rotate_left
        · simp only [Act.put, List.setIfInBounds_toArray, List.set_cons_zero, List.set_cons_succ, i64_w, i32_w]
          rfl
        refine take_ (i := 9) (N := some 79) (v := ?_) (a' := ?_) #[true, true, true, true, true, true, true, true, false, true, false, false, false, false, false, false, false, false, false, false, false, false, false, false, false, false, false, false, false, false, false, false, false, false, false, false, false, false, false, false, false, false, false, false, false, false, false, false, false, false, false, false, false, false, false, false] rfl rfl (take_ofW HT_.out HW_.out (by kernel_rfl)) (fun _ _ _ h => h) (Or.inl ⟨by rfl, ?_⟩) hHeld ?_ ?_
        rotate_left
        · rintro w' hS
          have s0 := (hS.cell (p := ⟨w.heap.size, 0, none⟩) LX.out).trans QX.out.1
          have s1 := (hS.cell (p := ⟨w.heap.size, 1, none⟩) LX.out).trans QX.out.2.1
          have s2 := (hS.cell (p := ⟨w.heap.size, 2, none⟩) LX.out).trans QX.out.2.2
          have s3 := (hS.cell (p := ⟨gBE, 0, none⟩) LE.out).trans QE.out.1
          have s4 := (hS.cell (p := ⟨gBE, 1, none⟩) LE.out).trans QE.out.2
          clear hS
          go_simp
          with_reducible rfl
        rotate_left
        · simp only [Act.put, List.setIfInBounds_toArray, List.set_cons_zero, List.set_cons_succ, i64_w, i32_w]
          rfl
        refine one_ (i := 8) (N := some 78) #[true, true, true, true, true, true, true, true, true, true, false, false, false, false, false, false, false, false, false, false, false, false, false, false, false, false, false, false, false, false, false, false, false, false, false, false, false, false, false, false, false, false, false, false, false, false, false, false, false, false, false, false, false, false, false, false] rfl rfl (one_of HT_.out (by kernel_rfl)) (by decide) (fun K hK => ?_)
        refine goes_ Try.func19 (by kernel_rfl) rfl #[.agg #[.int .i64 L, .int .i64 st, .slice A l.length c]] (by rfl) rfl rfl (by (try simp only [List.map_toArray, List.map_cons, List.map_nil]); first | done | rfl) ?_
        refine (stairs_n L st A c l _ (Kd.C_below HR.out (KB.out.trans (hHeld.mono KB.out.size))) HC.out (by omega) xs HX.out _ rfl).mono ?_
        rintro e w8 ⟨⟨A8, c8, rfl, HC8⟩, hb8⟩
        refine ⟨_, rfl, hK.out _ _ (hHeld.trans (hb8.mono hHeld.size)) ?_⟩
        clear hHeld hb8
        intro hHeld
        clear hK K
        refine norm_ (a' := ?_) ?_ ?_
        rotate_left
        · show Act.put _ (some 78) _ = _
          simp only [Act.put, List.setIfInBounds_toArray, List.set_cons_zero, List.set_cons_succ, i64_w, i32_w]
          rfl
        refine one_ (i := 10) (N := some 80) #[true, true, true, true, true, true, true, true, true, true, true, false, false, false, false, false, false, false, false, false, false, false, false, false, false, false, false, false, false, false, false, false, false, false, false, false, false, false, false, false, false, false, false, false, false, false, false, false, false, false, false, false, false, false, false, false] rfl rfl (one_of HT_.out (by kernel_rfl)) (by decide) (fun K hK => ?_)
        refine goes_ Try.func33 (by kernel_rfl) rfl #[.slice Ar0 l.length cr0] (by rfl) rfl rfl (by (try simp only [List.map_toArray, List.map_cons, List.map_nil]); first | done | rfl) ?_
        refine (bytes_n Ar0 cr0 rs0 _ (Kd.C_below CR0.out.1 hHeld) CR0.out.2 (by have := HS0.out.1; have := HXL.out; omega) _ (by have := HS0.out.1; have := HXL.out; omega)).mono ?_
        rintro e w8 ⟨⟨A10, c10, rfl, HC10⟩, hb8⟩
        replace HC8 := Aside0.mk (C_len HC8.out hb8)
        refine ⟨_, rfl, hK.out _ _ (hHeld.trans (hb8.mono hHeld.size)) ?_⟩
        clear hHeld hb8
        intro hHeld
        clear hK K
        refine norm_ (a' := ?_) ?_ ?_
        rotate_left
        · show Act.put _ (some 80) _ = _
          simp only [Act.put, List.setIfInBounds_toArray, List.set_cons_zero, List.set_cons_succ, i64_w, i32_w]
          rfl
        refine one_ (i := 11) (N := some 81) #[true, true, true, true, true, true, true, true, true, true, true, true, false, false, false, false, false, false, false, false, false, false, false, false, false, false, false, false, false, false, false, false, false, false, false, false, false, false, false, false, false, false, false, false, false, false, false, false, false, false, false, false, false, false, false, false] rfl rfl (one_of HT_.out (by kernel_rfl)) (by decide) (fun K hK => ?_)
        refine goes_ Try.func32 (by kernel_rfl) rfl #[.agg #[.int .i64 L, .int .i64 st, .slice A8 xs.length c8], .slice A10 l.length c10] (by rfl) rfl rfl (by (try simp only [List.map_toArray, List.map_cons, List.map_nil]); first | done | rfl) ?_
        refine (prove_n L st A8 c8 xs A10 c10 rs0 _ HC8.out.1 HC8.out.2 HC10.out.1 HC10.out.2 HS0.out.2.2.1 _ _ rfl (by have := HS0.out.1; have := HXL.out; omega)).mono ?_
        rintro e w8 ⟨rfl, hb8⟩
        rw [HS0.out.2.2.2.1]
        refine ⟨_, rfl, hK.out _ _ (hHeld.trans (hb8.mono hHeld.size)) ?_⟩
        clear hHeld hb8
        intro hHeld
        clear hK K
        refine norm_ (a' := ?_) ?_ ?_
        rotate_left
        · show Act.put _ (some 81) _ = _
          simp only [Act.put, List.setIfInBounds_toArray, List.set_cons_zero, List.set_cons_succ, i64_w, i32_w]
          rfl
        refine take_ (i := 12) (N := some 82) (v := ?_) (a' := ?_) #[true, true, true, true, true, true, true, true, true, true, true, true, true, false, false, false, false, false, false, false, false, false, false, false, false, false, false, false, false, false, false, false, false, false, false, false, false, false, false, false, false, false, false, false, false, false, false, false, false, false, false, false, false, false, false, false] rfl rfl (take_ofW HT_.out HW_.out (by kernel_rfl)) (fun _ _ _ h => h) (Or.inl ⟨by rfl, ?_⟩) hHeld ?_ ?_
        rotate_left
        · rintro w' hS
          have s0 := (hS.cell (p := ⟨w.heap.size, 0, none⟩) LX.out).trans QX.out.1
          have s1 := (hS.cell (p := ⟨w.heap.size, 1, none⟩) LX.out).trans QX.out.2.1
          have s2 := (hS.cell (p := ⟨w.heap.size, 2, none⟩) LX.out).trans QX.out.2.2
          have s3 := (hS.cell (p := ⟨gBE, 0, none⟩) LE.out).trans QE.out.1
          have s4 := (hS.cell (p := ⟨gBE, 1, none⟩) LE.out).trans QE.out.2
          clear hS
          go_simp
          with_reducible rfl
        rotate_left
        · simp only [Act.put, List.setIfInBounds_toArray, List.set_cons_zero, List.set_cons_succ, i64_w, i32_w]
          rfl
        refine take_ (i := 13) (N := some 83) (v := ?_) (a' := ?_) #[true, true, true, true, true, true, true, true, true, true, true, true, true, true, false, false, false, false, false, false, false, false, false, false, false, false, false, false, false, false, false, false, false, false, false, false, false, false, false, false, false, false, false, false, false, false, false, false, false, false, false, false, false, false, false, false] rfl rfl (take_ofW HT_.out HW_.out (by kernel_rfl)) (fun _ _ _ h => h) (Or.inl ⟨by rfl, ?_⟩) hHeld ?_ ?_
        rotate_left
        · rintro w' hS
          have s0 := (hS.cell (p := ⟨w.heap.size, 0, none⟩) LX.out).trans QX.out.1
          have s1 := (hS.cell (p := ⟨w.heap.size, 1, none⟩) LX.out).trans QX.out.2.1
          have s2 := (hS.cell (p := ⟨w.heap.size, 2, none⟩) LX.out).trans QX.out.2.2
          have s3 := (hS.cell (p := ⟨gBE, 0, none⟩) LE.out).trans QE.out.1
          have s4 := (hS.cell (p := ⟨gBE, 1, none⟩) LE.out).trans QE.out.2
          clear hS
          go_simp
          with_reducible rfl
        rotate_left
        · simp only [Act.put, List.setIfInBounds_toArray, List.set_cons_zero, List.set_cons_succ, i64_w, i32_w]
          rfl
        refine take_ (i := 14) (N := some 84) (v := ?_) (a' := ?_) #[true, true, true, true, true, true, true, true, true, true, true, true, true, true, true, false, false, false, false, false, false, false, false, false, false, false, false, false, false, false, false, false, false, false, false, false, false, false, false, false, false, false, false, false, false, false, false, false, false, false, false, false, false, false, false, false] rfl rfl (take_ofW HT_.out HW_.out (by kernel_rfl)) (fun _ _ _ h => h) (Or.inl ⟨by rfl, ?_⟩) hHeld ?_ ?_
        rotate_left
        · rintro w' hS
          have s0 := (hS.cell (p := ⟨w.heap.size, 0, none⟩) LX.out).trans QX.out.1
          have s1 := (hS.cell (p := ⟨w.heap.size, 1, none⟩) LX.out).trans QX.out.2.1
          have s2 := (hS.cell (p := ⟨w.heap.size, 2, none⟩) LX.out).trans QX.out.2.2
          have s3 := (hS.cell (p := ⟨gBE, 0, none⟩) LE.out).trans QE.out.1
          have s4 := (hS.cell (p := ⟨gBE, 1, none⟩) LE.out).trans QE.out.2
          clear hS
          go_simp
          with_reducible rfl
        rotate_left
        · simp only [Act.put, List.setIfInBounds_toArray, List.set_cons_zero, List.set_cons_succ, i64_w, i32_w]
          rfl
        refine take_ (i := 16) (N := some 86) (v := ?_) (a' := ?_) #[true, true, true, true, true, true, true, true, true, true, true, true, true, true, true, false, true, false, false, false, false, false, false, false, false, false, false, false, false, false, false, false, false, false, false, false, false, false, false, false, false, false, false, false, false, false, false, false, false, false, false, false, false, false, false, false] rfl rfl (take_ofW HT_.out HW_.out (by kernel_rfl)) (fun _ _ _ h => h) (Or.inl ⟨by rfl, ?_⟩) hHeld ?_ ?_
        rotate_left
        · rintro w' hS
          have s0 := (hS.cell (p := ⟨w.heap.size, 0, none⟩) LX.out).trans QX.out.1
          have s1 := (hS.cell (p := ⟨w.heap.size, 1, none⟩) LX.out).trans QX.out.2.1
          have s2 := (hS.cell (p := ⟨w.heap.size, 2, none⟩) LX.out).trans QX.out.2.2
          have s3 := (hS.cell (p := ⟨gBE, 0, none⟩) LE.out).trans QE.out.1
          have s4 := (hS.cell (p := ⟨gBE, 1, none⟩) LE.out).trans QE.out.2
          clear hS
          go_simp
          with_reducible rfl
        rotate_left
        · simp only [Act.put, List.setIfInBounds_toArray, List.set_cons_zero, List.set_cons_succ, i64_w, i32_w]
          rfl
        refine one_ (i := 15) (N := some 85) #[true, true, true, true, true, true, true, true, true, true, true, true, true, true, true, true, true, false, false, false, false, false, false, false, false, false, false, false, false, false, false, false, false, false, false, false, false, false, false, false, false, false, false, false, false, false, false, false, false, false, false, false, false, false, false, false] rfl rfl (one_of HT_.out (by kernel_rfl)) (by decide) (fun K hK => ?_)
        refine goes_ Try.func19 (by kernel_rfl) rfl #[.agg #[.int .i64 L, .int .i64 st, .slice A l.length c]] (by rfl) rfl rfl (by (try simp only [List.map_toArray, List.map_cons, List.map_nil]); first | done | rfl) ?_
        refine (stairs_n L st A c l _ (Kd.C_below HR.out (KB.out.trans (hHeld.mono KB.out.size))) HC.out (by omega) xs HX.out _ rfl).mono ?_
        rintro e w8 ⟨⟨A15, c15, rfl, HC15⟩, hb8⟩
        refine ⟨_, rfl, hK.out _ _ (hHeld.trans (hb8.mono hHeld.size)) ?_⟩
        clear hHeld hb8
        intro hHeld
        clear hK K
        refine norm_ (a' := ?_) ?_ ?_
        rotate_left
        · show Act.put _ (some 85) _ = _
          simp only [Act.put, List.setIfInBounds_toArray, List.set_cons_zero, List.set_cons_succ, i64_w, i32_w]
          rfl
        refine one_ (i := 17) (N := some 87) #[true, true, true, true, true, true, true, true, true, true, true, true, true, true, true, true, true, true, false, false, false, false, false, false, false, false, false, false, false, false, false, false, false, false, false, false, false, false, false, false, false, false, false, false, false, false, false, false, false, false, false, false, false, false, false, false] rfl rfl (one_of HT_.out (by kernel_rfl)) (by decide) (fun K hK => ?_)
        refine goes_ Try.func33 (by kernel_rfl) rfl #[.slice Ar1 l.length cr1] (by rfl) rfl rfl (by (try simp only [List.map_toArray, List.map_cons, List.map_nil]); first | done | rfl) ?_
        refine (bytes_n Ar1 cr1 rs1 _ (Kd.C_below CR1.out.1 hHeld) CR1.out.2 (by have := HS1.out.1; have := HXL.out; omega) _ (by have := HS1.out.1; have := HXL.out; omega)).mono ?_
        rintro e w8 ⟨⟨A17, c17, rfl, HC17⟩, hb8⟩
        replace HC15 := Aside0.mk (C_len HC15.out hb8)
        refine ⟨_, rfl, hK.out _ _ (hHeld.trans (hb8.mono hHeld.size)) ?_⟩
        clear hHeld hb8
        intro hHeld
        clear hK K
        refine norm_ (a' := ?_) ?_ ?_
        rotate_left
        · show Act.put _ (some 87) _ = _
          simp only [Act.put, List.setIfInBounds_toArray, List.set_cons_zero, List.set_cons_succ, i64_w, i32_w]
          rfl
        refine one_ (i := 18) (N := some 88) #[true, true, true, true, true, true, true, true, true, true, true, true, true, true, true, true, true, true, true, false, false, false, false, false, false, false, false, false, false, false, false, false, false, false, false, false, false, false, false, false, false, false, false, false, false, false, false, false, false, false, false, false, false, false, false, false] rfl rfl (one_of HT_.out (by kernel_rfl)) (by decide) (fun K hK => ?_)
        refine goes_ Try.func32 (by kernel_rfl) rfl #[.agg #[.int .i64 L, .int .i64 st, .slice A15 xs.length c15], .slice A17 l.length c17] (by rfl) rfl rfl (by (try simp only [List.map_toArray, List.map_cons, List.map_nil]); first | done | rfl) ?_
        refine (prove_n L st A15 c15 xs A17 c17 rs1 _ HC15.out.1 HC15.out.2 HC17.out.1 HC17.out.2 HS1.out.2.2.1 _ _ rfl (by have := HS1.out.1; have := HXL.out; omega)).mono ?_
        rintro e w8 ⟨rfl, hb8⟩
        rw [HS1.out.2.2.2.1]
        refine ⟨_, rfl, hK.out _ _ (hHeld.trans (hb8.mono hHeld.size)) ?_⟩
        clear hHeld hb8
        intro hHeld
        clear hK K
        refine norm_ (a' := ?_) ?_ ?_
        rotate_left
        · show Act.put _ (some 88) _ = _
          simp only [Act.put, List.setIfInBounds_toArray, List.set_cons_zero, List.set_cons_succ, i64_w, i32_w]
          rfl
        refine take_ (i := 19) (N := some 89) (v := ?_) (a' := ?_) #[true, true, true, true, true, true, true, true, true, true, true, true, true, true, true, true, true, true, true, true, false, false, false, false, false, false, false, false, false, false, false, false, false, false, false, false, false, false, false, false, false, false, false, false, false, false, false, false, false, false, false, false, false, false, false, false] rfl rfl (take_ofW HT_.out HW_.out (by kernel_rfl)) (fun _ _ _ h => h) (Or.inl ⟨by rfl, ?_⟩) hHeld ?_ ?_
        rotate_left
        · rintro w' hS
          have s0 := (hS.cell (p := ⟨w.heap.size, 0, none⟩) LX.out).trans QX.out.1
          have s1 := (hS.cell (p := ⟨w.heap.size, 1, none⟩) LX.out).trans QX.out.2.1
          have s2 := (hS.cell (p := ⟨w.heap.size, 2, none⟩) LX.out).trans QX.out.2.2
          have s3 := (hS.cell (p := ⟨gBE, 0, none⟩) LE.out).trans QE.out.1
          have s4 := (hS.cell (p := ⟨gBE, 1, none⟩) LE.out).trans QE.out.2
          clear hS
          go_simp
          with_reducible rfl
        rotate_left
        · simp only [Act.put, List.setIfInBounds_toArray, List.set_cons_zero, List.set_cons_succ, i64_w, i32_w]
          rfl
        refine take_ (i := 20) (N := some 90) (v := ?_) (a' := ?_) #[true, true, true, true, true, true, true, true, true, true, true, true, true, true, true, true, true, true, true, true, true, false, false, false, false, false, false, false, false, false, false, false, false, false, false, false, false, false, false, false, false, false, false, false, false, false, false, false, false, false, false, false, false, false, false, false] rfl rfl (take_ofW HT_.out HW_.out (by kernel_rfl)) (fun _ _ _ h => h) (Or.inl ⟨by rfl, ?_⟩) hHeld ?_ ?_
        rotate_left
        · rintro w' hS
          have s0 := (hS.cell (p := ⟨w.heap.size, 0, none⟩) LX.out).trans QX.out.1
          have s1 := (hS.cell (p := ⟨w.heap.size, 1, none⟩) LX.out).trans QX.out.2.1
          have s2 := (hS.cell (p := ⟨w.heap.size, 2, none⟩) LX.out).trans QX.out.2.2
          have s3 := (hS.cell (p := ⟨gBE, 0, none⟩) LE.out).trans QE.out.1
          have s4 := (hS.cell (p := ⟨gBE, 1, none⟩) LE.out).trans QE.out.2
          clear hS
          go_simp
          with_reducible rfl
        rotate_left
        · simp only [Act.put, List.setIfInBounds_toArray, List.set_cons_zero, List.set_cons_succ, i64_w, i32_w]
          rfl
        refine take_ (i := 21) (N := some 91) (v := ?_) (a' := ?_) #[true, true, true, true, true, true, true, true, true, true, true, true, true, true, true, true, true, true, true, true, true, true, false, false, false, false, false, false, false, false, false, false, false, false, false, false, false, false, false, false, false, false, false, false, false, false, false, false, false, false, false, false, false, false, false, false] rfl rfl (take_ofW HT_.out HW_.out (by kernel_rfl)) (fun _ _ _ h => h) (Or.inl ⟨by rfl, ?_⟩) hHeld ?_ ?_
        rotate_left
        · rintro w' hS
          have s0 := (hS.cell (p := ⟨w.heap.size, 0, none⟩) LX.out).trans QX.out.1
          have s1 := (hS.cell (p := ⟨w.heap.size, 1, none⟩) LX.out).trans QX.out.2.1
          have s2 := (hS.cell (p := ⟨w.heap.size, 2, none⟩) LX.out).trans QX.out.2.2
          have s3 := (hS.cell (p := ⟨gBE, 0, none⟩) LE.out).trans QE.out.1
          have s4 := (hS.cell (p := ⟨gBE, 1, none⟩) LE.out).trans QE.out.2
          clear hS
          go_simp
          with_reducible rfl
        rotate_left
        · simp only [Act.put, List.setIfInBounds_toArray, List.set_cons_zero, List.set_cons_succ, i64_w, i32_w]
          rfl
        refine take_ (i := 22) (N := some 92) (v := ?_) (a' := ?_) #[true, true, true, true, true, true, true, true, true, true, true, true, true, true, true, true, true, true, true, true, true, true, true, false, false, false, false, false, false, false, false, false, false, false, false, false, false, false, false, false, false, false, false, false, false, false, false, false, false, false, false, false, false, false, false, false] rfl rfl (take_ofW HT_.out HW_.out (by kernel_rfl)) (fun _ _ _ h => h) (Or.inl ⟨by rfl, ?_⟩) hHeld ?_ ?_
        rotate_left
        · rintro w' hS
          have s0 := (hS.cell (p := ⟨w.heap.size, 0, none⟩) LX.out).trans QX.out.1
          have s1 := (hS.cell (p := ⟨w.heap.size, 1, none⟩) LX.out).trans QX.out.2.1
          have s2 := (hS.cell (p := ⟨w.heap.size, 2, none⟩) LX.out).trans QX.out.2.2
          have s3 := (hS.cell (p := ⟨gBE, 0, none⟩) LE.out).trans QE.out.1
          have s4 := (hS.cell (p := ⟨gBE, 1, none⟩) LE.out).trans QE.out.2
          clear hS
          go_simp
          with_reducible rfl
        rotate_left
        · simp only [Act.put, List.setIfInBounds_toArray, List.set_cons_zero, List.set_cons_succ, i64_w, i32_w]
          rfl
        refine take_ (i := 23) (N := some 93) (v := ?_) (a' := ?_) #[true, true, true, true, true, true, true, true, true, true, true, true, true, true, true, true, true, true, true, true, true, true, true, true, false, false, false, false, false, false, false, false, false, false, false, false, false, false, false, false, false, false, false, false, false, false, false, false, false, false, false, false, false, false, false, false] rfl rfl (take_ofW HT_.out HW_.out (by kernel_rfl)) (fun _ _ _ h => h) (Or.inl ⟨by rfl, ?_⟩) hHeld ?_ ?_
        rotate_left
        · rintro w' hS
          have s0 := (hS.cell (p := ⟨w.heap.size, 0, none⟩) LX.out).trans QX.out.1
          have s1 := (hS.cell (p := ⟨w.heap.size, 1, none⟩) LX.out).trans QX.out.2.1
          have s2 := (hS.cell (p := ⟨w.heap.size, 2, none⟩) LX.out).trans QX.out.2.2
          have s3 := (hS.cell (p := ⟨gBE, 0, none⟩) LE.out).trans QE.out.1
          have s4 := (hS.cell (p := ⟨gBE, 1, none⟩) LE.out).trans QE.out.2
          clear hS
          go_simp
          with_reducible rfl
        rotate_left
        · simp only [Act.put, List.setIfInBounds_toArray, List.set_cons_zero, List.set_cons_succ, i64_w, i32_w]
          rfl
        refine one_ (i := 24) (N := some 94) #[true, true, true, true, true, true, true, true, true, true, true, true, true, true, true, true, true, true, true, true, true, true, true, true, true, false, false, false, false, false, false, false, false, false, false, false, false, false, false, false, false, false, false, false, false, false, false, false, false, false, false, false, false, false, false, false] rfl rfl (one_of HT_.out (by kernel_rfl)) (by decide) (fun K hK => ?_)
        refine goes_ Try.func29 (by kernel_rfl) rfl #[.agg #[.int .i64 L, .int .i64 st, .slice A l.length c], .slice Ar0 l.length cr0, .slice Al0 l.length cl0] (by rfl) rfl rfl (by (try simp only [List.map_toArray, List.map_cons, List.map_nil]); first | done | rfl) ?_
        refine (istruth_n L st A c l Ar0 cr0 rs0 Al0 cl0 ls0 _ (Kd.C_below HR.out (KB.out.trans (hHeld.mono KB.out.size))) HC.out (Kd.C_below CR0.out.1 hHeld) (Kd.C_below CL0.out.1 hHeld) (by rw [HX.out]; exact HCK.out) (by have := HS0.out.1; have := HXL.out; omega) (by have := HS0.out.2.1; have := HXL.out; omega) (by rw [HX.out]; exact HS0.out.2.2.2.2.1) HS0.out.2.2.2.2.2.1).mono ?_
        rintro e w8 ⟨rfl, hb8⟩
        refine ⟨_, rfl, hK.out _ _ (hHeld.trans (hb8.mono hHeld.size)) ?_⟩
        clear hHeld hb8
        intro hHeld
        clear hK K
        refine norm_ (a' := ?_) ?_ ?_
        rotate_left
        · show Act.put _ (some 94) _ = _
          simp only [Act.put, List.setIfInBounds_toArray, List.set_cons_zero, List.set_cons_succ, i64_w, i32_w]
          rfl
        refine take_ (i := 25) (N := some 95) (v := ?_) (a' := ?_) #[true, true, true, true, true, true, true, true, true, true, true, true, true, true, true, true, true, true, true, true, true, true, true, true, true, true, false, false, false, false, false, false, false, false, false, false, false, false, false, false, false, false, false, false, false, false, false, false, false, false, false, false, false, false, false, false] rfl rfl (take_ofW HT_.out HW_.out (by kernel_rfl)) (fun _ _ _ h => h) (Or.inl ⟨by rfl, ?_⟩) hHeld ?_ ?_
        rotate_left
        · rintro w' hS
          have s0 := (hS.cell (p := ⟨w.heap.size, 0, none⟩) LX.out).trans QX.out.1
          have s1 := (hS.cell (p := ⟨w.heap.size, 1, none⟩) LX.out).trans QX.out.2.1
          have s2 := (hS.cell (p := ⟨w.heap.size, 2, none⟩) LX.out).trans QX.out.2.2
          have s3 := (hS.cell (p := ⟨gBE, 0, none⟩) LE.out).trans QE.out.1
          have s4 := (hS.cell (p := ⟨gBE, 1, none⟩) LE.out).trans QE.out.2
          clear hS
          go_simp
          with_reducible rfl
        rotate_left
        · simp only [Act.put, List.setIfInBounds_toArray, List.set_cons_zero, List.set_cons_succ, i64_w, i32_w]
          rfl
        refine take_ (i := 26) (N := some 96) (v := ?_) (a' := ?_) #[true, true, true, true, true, true, true, true, true, true, true, true, true, true, true, true, true, true, true, true, true, true, true, true, true, true, true, false, false, false, false, false, false, false, false, false, false, false, false, false, false, false, false, false, false, false, false, false, false, false, false, false, false, false, false, false] rfl rfl (take_ofW HT_.out HW_.out (by kernel_rfl)) (fun _ _ _ h => h) (Or.inl ⟨by rfl, ?_⟩) hHeld ?_ ?_
        rotate_left
        · rintro w' hS
          have s0 := (hS.cell (p := ⟨w.heap.size, 0, none⟩) LX.out).trans QX.out.1
          have s1 := (hS.cell (p := ⟨w.heap.size, 1, none⟩) LX.out).trans QX.out.2.1
          have s2 := (hS.cell (p := ⟨w.heap.size, 2, none⟩) LX.out).trans QX.out.2.2
          have s3 := (hS.cell (p := ⟨gBE, 0, none⟩) LE.out).trans QE.out.1
          have s4 := (hS.cell (p := ⟨gBE, 1, none⟩) LE.out).trans QE.out.2
          clear hS
          go_simp
          with_reducible rfl
        rotate_left
        · simp only [Act.put, List.setIfInBounds_toArray, List.set_cons_zero, List.set_cons_succ, i64_w, i32_w]
          rfl
        refine take_ (i := 27) (N := some 97) (v := ?_) (a' := ?_) #[true, true, true, true, true, true, true, true, true, true, true, true, true, true, true, true, true, true, true, true, true, true, true, true, true, true, true, true, false, false, false, false, false, false, false, false, false, false, false, false, false, false, false, false, false, false, false, false, false, false, false, false, false, false, false, false] rfl rfl (take_ofW HT_.out HW_.out (by kernel_rfl)) (fun _ _ _ h => h) (Or.inl ⟨by rfl, ?_⟩) hHeld ?_ ?_
        rotate_left
        · rintro w' hS
          have s0 := (hS.cell (p := ⟨w.heap.size, 0, none⟩) LX.out).trans QX.out.1
          have s1 := (hS.cell (p := ⟨w.heap.size, 1, none⟩) LX.out).trans QX.out.2.1
          have s2 := (hS.cell (p := ⟨w.heap.size, 2, none⟩) LX.out).trans QX.out.2.2
          have s3 := (hS.cell (p := ⟨gBE, 0, none⟩) LE.out).trans QE.out.1
          have s4 := (hS.cell (p := ⟨gBE, 1, none⟩) LE.out).trans QE.out.2
          clear hS
          go_simp
          with_reducible rfl
        rotate_left
        · simp only [Act.put, List.setIfInBounds_toArray, List.set_cons_zero, List.set_cons_succ, i64_w, i32_w]
          rfl
        refine take_ (i := 28) (N := some 98) (v := ?_) (a' := ?_) #[true, true, true, true, true, true, true, true, true, true, true, true, true, true, true, true, true, true, true, true, true, true, true, true, true, true, true, true, true, false, false, false, false, false, false, false, false, false, false, false, false, false, false, false, false, false, false, false, false, false, false, false, false, false, false, false] rfl rfl (take_ofW HT_.out HW_.out (by kernel_rfl)) (fun _ _ _ h => h) (Or.inl ⟨by rfl, ?_⟩) hHeld ?_ ?_
        rotate_left
        · rintro w' hS
          have s0 := (hS.cell (p := ⟨w.heap.size, 0, none⟩) LX.out).trans QX.out.1
          have s1 := (hS.cell (p := ⟨w.heap.size, 1, none⟩) LX.out).trans QX.out.2.1
          have s2 := (hS.cell (p := ⟨w.heap.size, 2, none⟩) LX.out).trans QX.out.2.2
          have s3 := (hS.cell (p := ⟨gBE, 0, none⟩) LE.out).trans QE.out.1
          have s4 := (hS.cell (p := ⟨gBE, 1, none⟩) LE.out).trans QE.out.2
          clear hS
          go_simp
          with_reducible rfl
        rotate_left
        · simp only [Act.put, List.setIfInBounds_toArray, List.set_cons_zero, List.set_cons_succ, i64_w, i32_w]
          rfl
        refine take_ (i := 29) (N := some 99) (v := ?_) (a' := ?_) #[true, true, true, true, true, true, true, true, true, true, true, true, true, true, true, true, true, true, true, true, true, true, true, true, true, true, true, true, true, true, false, false, false, false, false, false, false, false, false, false, false, false, false, false, false, false, false, false, false, false, false, false, false, false, false, false] rfl rfl (take_ofW HT_.out HW_.out (by kernel_rfl)) (fun _ _ _ h => h) (Or.inl ⟨by rfl, ?_⟩) hHeld ?_ ?_
        rotate_left
        · rintro w' hS
          have s0 := (hS.cell (p := ⟨w.heap.size, 0, none⟩) LX.out).trans QX.out.1
          have s1 := (hS.cell (p := ⟨w.heap.size, 1, none⟩) LX.out).trans QX.out.2.1
          have s2 := (hS.cell (p := ⟨w.heap.size, 2, none⟩) LX.out).trans QX.out.2.2
          have s3 := (hS.cell (p := ⟨gBE, 0, none⟩) LE.out).trans QE.out.1
          have s4 := (hS.cell (p := ⟨gBE, 1, none⟩) LE.out).trans QE.out.2
          clear hS
          go_simp
          with_reducible rfl
        rotate_left
        · simp only [Act.put, List.setIfInBounds_toArray, List.set_cons_zero, List.set_cons_succ, i64_w, i32_w]
          rfl
        refine one_ (i := 30) (N := some 100) #[true, true, true, true, true, true, true, true, true, true, true, true, true, true, true, true, true, true, true, true, true, true, true, true, true, true, true, true, true, true, true, false, false, false, false, false, false, false, false, false, false, false, false, false, false, false, false, false, false, false, false, false, false, false, false, false] rfl rfl (one_of HT_.out (by kernel_rfl)) (by decide) (fun K hK => ?_)
        refine goes_ Try.func29 (by kernel_rfl) rfl #[.agg #[.int .i64 L, .int .i64 st, .slice A l.length c], .slice Ar1 l.length cr1, .slice Al1 l.length cl1] (by rfl) rfl rfl (by (try simp only [List.map_toArray, List.map_cons, List.map_nil]); first | done | rfl) ?_
        refine (istruth_n L st A c l Ar1 cr1 rs1 Al1 cl1 ls1 _ (Kd.C_below HR.out (KB.out.trans (hHeld.mono KB.out.size))) HC.out (Kd.C_below CR1.out.1 hHeld) (Kd.C_below CL1.out.1 hHeld) (by rw [HX.out]; exact HCK.out) (by have := HS1.out.1; have := HXL.out; omega) (by have := HS1.out.2.1; have := HXL.out; omega) (by rw [HX.out]; exact HS1.out.2.2.2.2.1) HS1.out.2.2.2.2.2.1).mono ?_
        rintro e w8 ⟨rfl, hb8⟩
        refine ⟨_, rfl, hK.out _ _ (hHeld.trans (hb8.mono hHeld.size)) ?_⟩
        clear hHeld hb8
        intro hHeld
        clear hK K
        refine norm_ (a' := ?_) ?_ ?_
        rotate_left
        · show Act.put _ (some 100) _ = _
          simp only [Act.put, List.setIfInBounds_toArray, List.set_cons_zero, List.set_cons_succ, i64_w, i32_w]
          rfl
        refine take_ (i := 31) (N := some 101) (v := ?_) (a' := ?_) #[true, true, true, true, true, true, true, true, true, true, true, true, true, true, true, true, true, true, true, true, true, true, true, true, true, true, true, true, true, true, true, true, false, false, false, false, false, false, false, false, false, false, false, false, false, false, false, false, false, false, false, false, false, false, false, false] rfl rfl (take_ofW HT_.out HW_.out (by kernel_rfl)) (fun _ _ _ h => h) (Or.inl ⟨by rfl, ?_⟩) hHeld ?_ ?_
        rotate_left
        · rintro w' hS
          have s0 := (hS.cell (p := ⟨w.heap.size, 0, none⟩) LX.out).trans QX.out.1
          have s1 := (hS.cell (p := ⟨w.heap.size, 1, none⟩) LX.out).trans QX.out.2.1
          have s2 := (hS.cell (p := ⟨w.heap.size, 2, none⟩) LX.out).trans QX.out.2.2
          have s3 := (hS.cell (p := ⟨gBE, 0, none⟩) LE.out).trans QE.out.1
          have s4 := (hS.cell (p := ⟨gBE, 1, none⟩) LE.out).trans QE.out.2
          clear hS
          go_simp
          with_reducible rfl
        rotate_left
        · simp only [Act.put, List.setIfInBounds_toArray, List.set_cons_zero, List.set_cons_succ, i64_w, i32_w]
          rfl
        refine take_ (i := 32) (N := some 102) (v := ?_) (a' := ?_) #[true, true, true, true, true, true, true, true, true, true, true, true, true, true, true, true, true, true, true, true, true, true, true, true, true, true, true, true, true, true, true, true, true, false, false, false, false, false, false, false, false, false, false, false, false, false, false, false, false, false, false, false, false, false, false, false] rfl rfl (take_ofW HT_.out HW_.out (by kernel_rfl)) (fun _ _ _ h => h) (Or.inl ⟨by rfl, ?_⟩) hHeld ?_ ?_
        rotate_left
        · rintro w' hS
          have s0 := (hS.cell (p := ⟨w.heap.size, 0, none⟩) LX.out).trans QX.out.1
          have s1 := (hS.cell (p := ⟨w.heap.size, 1, none⟩) LX.out).trans QX.out.2.1
          have s2 := (hS.cell (p := ⟨w.heap.size, 2, none⟩) LX.out).trans QX.out.2.2
          have s3 := (hS.cell (p := ⟨gBE, 0, none⟩) LE.out).trans QE.out.1
          have s4 := (hS.cell (p := ⟨gBE, 1, none⟩) LE.out).trans QE.out.2
          clear hS
          go_simp
          with_reducible rfl
        rotate_left
        · simp only [Act.put, List.setIfInBounds_toArray, List.set_cons_zero, List.set_cons_succ, i64_w, i32_w]
          rfl
        refine take_ (i := 33) (N := some 103) (v := ?_) (a' := ?_) #[true, true, true, true, true, true, true, true, true, true, true, true, true, true, true, true, true, true, true, true, true, true, true, true, true, true, true, true, true, true, true, true, true, true, false, false, false, false, false, false, false, false, false, false, false, false, false, false, false, false, false, false, false, false, false, false] rfl rfl (take_ofW HT_.out HW_.out (by kernel_rfl)) (fun _ _ _ h => h) (Or.inl ⟨by rfl, ?_⟩) hHeld ?_ ?_
        rotate_left
        · rintro w' hS
          have s0 := (hS.cell (p := ⟨w.heap.size, 0, none⟩) LX.out).trans QX.out.1
          have s1 := (hS.cell (p := ⟨w.heap.size, 1, none⟩) LX.out).trans QX.out.2.1
          have s2 := (hS.cell (p := ⟨w.heap.size, 2, none⟩) LX.out).trans QX.out.2.2
          have s3 := (hS.cell (p := ⟨gBE, 0, none⟩) LE.out).trans QE.out.1
          have s4 := (hS.cell (p := ⟨gBE, 1, none⟩) LE.out).trans QE.out.2
          clear hS
          go_simp
          with_reducible rfl
        rotate_left
        · simp only [Act.put, List.setIfInBounds_toArray, List.set_cons_zero, List.set_cons_succ, i64_w, i32_w]
          rfl
        refine take_ (i := 35) (N := some 105) (v := ?_) (a' := ?_) #[true, true, true, true, true, true, true, true, true, true, true, true, true, true, true, true, true, true, true, true, true, true, true, true, true, true, true, true, true, true, true, true, true, true, false, true, false, false, false, false, false, false, false, false, false, false, false, false, false, false, false, false, false, false, false, false] rfl rfl (take_ofW HT_.out HW_.out (by kernel_rfl)) (fun _ _ _ h => h) (Or.inl ⟨by rfl, ?_⟩) hHeld ?_ ?_
        rotate_left
        · rintro w' hS
          have s0 := (hS.cell (p := ⟨w.heap.size, 0, none⟩) LX.out).trans QX.out.1
          have s1 := (hS.cell (p := ⟨w.heap.size, 1, none⟩) LX.out).trans QX.out.2.1
          have s2 := (hS.cell (p := ⟨w.heap.size, 2, none⟩) LX.out).trans QX.out.2.2
          have s3 := (hS.cell (p := ⟨gBE, 0, none⟩) LE.out).trans QE.out.1
          have s4 := (hS.cell (p := ⟨gBE, 1, none⟩) LE.out).trans QE.out.2
          clear hS
          go_simp
          with_reducible rfl
        rotate_left
        · simp only [Act.put, List.setIfInBounds_toArray, List.set_cons_zero, List.set_cons_succ, i64_w, i32_w]
          rfl
        refine take_ (i := 38) (N := some 108) (v := ?_) (a' := ?_) #[true, true, true, true, true, true, true, true, true, true, true, true, true, true, true, true, true, true, true, true, true, true, true, true, true, true, true, true, true, true, true, true, true, true, false, true, false, false, true, false, false, false, false, false, false, false, false, false, false, false, false, false, false, false, false, false] rfl rfl (take_ofW HT_.out HW_.out (by kernel_rfl)) (fun _ _ _ h => h) (Or.inl ⟨by rfl, ?_⟩) hHeld ?_ ?_
        rotate_left
        · rintro w' hS
          have s0 := (hS.cell (p := ⟨w.heap.size, 0, none⟩) LX.out).trans QX.out.1
          have s1 := (hS.cell (p := ⟨w.heap.size, 1, none⟩) LX.out).trans QX.out.2.1
          have s2 := (hS.cell (p := ⟨w.heap.size, 2, none⟩) LX.out).trans QX.out.2.2
          have s3 := (hS.cell (p := ⟨gBE, 0, none⟩) LE.out).trans QE.out.1
          have s4 := (hS.cell (p := ⟨gBE, 1, none⟩) LE.out).trans QE.out.2
          clear hS
          go_simp
          with_reducible rfl
        rotate_left
        · simp only [Act.put, List.setIfInBounds_toArray, List.set_cons_zero, List.set_cons_succ, i64_w, i32_w]
          rfl
        refine take_ (i := 39) (N := some 109) (v := ?_) (a' := ?_) #[true, true, true, true, true, true, true, true, true, true, true, true, true, true, true, true, true, true, true, true, true, true, true, true, true, true, true, true, true, true, true, true, true, true, false, true, false, false, true, true, false, false, false, false, false, false, false, false, false, false, false, false, false, false, false, false] rfl rfl (take_ofW HT_.out HW_.out (by kernel_rfl)) (fun _ _ _ h => h) (Or.inl ⟨by rfl, ?_⟩) hHeld ?_ ?_
        rotate_left
        · rintro w' hS
          have s0 := (hS.cell (p := ⟨w.heap.size, 0, none⟩) LX.out).trans QX.out.1
          have s1 := (hS.cell (p := ⟨w.heap.size, 1, none⟩) LX.out).trans QX.out.2.1
          have s2 := (hS.cell (p := ⟨w.heap.size, 2, none⟩) LX.out).trans QX.out.2.2
          have s3 := (hS.cell (p := ⟨gBE, 0, none⟩) LE.out).trans QE.out.1
          have s4 := (hS.cell (p := ⟨gBE, 1, none⟩) LE.out).trans QE.out.2
          clear hS
          go_simp
          with_reducible rfl
        rotate_left
        · simp only [Act.put, List.setIfInBounds_toArray, List.set_cons_zero, List.set_cons_succ, i64_w, i32_w]
          rfl
        refine one_ (i := 34) (N := some 104) #[true, true, true, true, true, true, true, true, true, true, true, true, true, true, true, true, true, true, true, true, true, true, true, true, true, true, true, true, true, true, true, true, true, true, true, true, false, false, true, true, false, false, false, false, false, false, false, false, false, false, false, false, false, false, false, false] rfl rfl (one_of HT_.out (by kernel_rfl)) (by decide) (fun K hK => ?_)
        refine goes_ Try.func30 (by kernel_rfl) rfl #[.slice Al0 l.length cl0] (by rfl) rfl rfl (by (try simp only [List.map_toArray, List.map_cons, List.map_nil]); first | done | rfl) ?_
        refine (refsorted_n Al0 cl0 ls0 _ (Kd.C_below CL0.out.1 hHeld) (by have := HS0.out.2.1; have := HXL.out; omega) _ (by have := HS0.out.2.1; have := HXL.out; omega) z4).mono ?_
        rintro e w8 ⟨⟨g34, cap34, rfl, HG34⟩, hb8⟩
        refine ⟨_, rfl, hK.out _ _ (hHeld.trans (hb8.mono hHeld.size)) ?_⟩
        clear hHeld hb8
        intro hHeld
        have k34 := HG34.out kn HK.out
        rw [show (rising ls0).getD kn 0 = e1 from HS0.out.2.2.2.2.2.2] at k34
        clear hK K
        refine norm_ (a' := ?_) ?_ ?_
        rotate_left
        · show Act.put _ (some 104) _ = _
          simp only [Act.put, List.setIfInBounds_toArray, List.set_cons_zero, List.set_cons_succ, i64_w, i32_w]
          rfl
        refine take_ (i := 36) (N := some 106) (v := ?_) (a' := ?_) #[true, true, true, true, true, true, true, true, true, true, true, true, true, true, true, true, true, true, true, true, true, true, true, true, true, true, true, true, true, true, true, true, true, true, true, true, true, false, true, true, false, false, false, false, false, false, false, false, false, false, false, false, false, false, false, false] rfl rfl (take_ofW HT_.out HW_.out (by kernel_rfl)) (fun _ _ _ h => h) (Or.inl ⟨by rfl, ?_⟩) hHeld ?_ ?_
        rotate_left
        · rintro w' hS
          have s0 := (hS.cell (p := ⟨w.heap.size, 0, none⟩) LX.out).trans QX.out.1
          have s1 := (hS.cell (p := ⟨w.heap.size, 1, none⟩) LX.out).trans QX.out.2.1
          have s2 := (hS.cell (p := ⟨w.heap.size, 2, none⟩) LX.out).trans QX.out.2.2
          have s3 := (hS.cell (p := ⟨gBE, 0, none⟩) LE.out).trans QE.out.1
          have s4 := (hS.cell (p := ⟨gBE, 1, none⟩) LE.out).trans QE.out.2
          clear hS
          go_simp
          with_reducible rfl
        rotate_left
        · simp only [Act.put, List.setIfInBounds_toArray, List.set_cons_zero, List.set_cons_succ, i64_w, i32_w]
          rfl
        refine one_ (i := 37) (N := some 107) #[true, true, true, true, true, true, true, true, true, true, true, true, true, true, true, true, true, true, true, true, true, true, true, true, true, true, true, true, true, true, true, true, true, true, true, true, true, true, true, true, false, false, false, false, false, false, false, false, false, false, false, false, false, false, false, false] rfl rfl (one_of HT_.out (by kernel_rfl)) (by decide) (fun K hK => ?_)
        refine value_ (v := .int .i64 e1) (w1 := w8) (by rfl) rfl (by go_simp) ?_
        refine hK.out _ _ hHeld ?_
        clear hHeld
        intro hHeld
        clear k34
        clear hK K
        refine norm_ (a' := ?_) ?_ ?_
        rotate_left
        · show Act.put _ (some 107) _ = _
          simp only [Act.put, List.setIfInBounds_toArray, List.set_cons_zero, List.set_cons_succ, i64_w, i32_w]
          rfl
        refine take_ (i := 40) (N := some 110) (v := ?_) (a' := ?_) #[true, true, true, true, true, true, true, true, true, true, true, true, true, true, true, true, true, true, true, true, true, true, true, true, true, true, true, true, true, true, true, true, true, true, true, true, true, true, true, true, true, false, false, false, false, false, false, false, false, false, false, false, false, false, false, false] rfl rfl (take_ofW HT_.out HW_.out (by kernel_rfl)) (fun _ _ _ h => h) (Or.inl ⟨by rfl, ?_⟩) hHeld ?_ ?_
        rotate_left
        · rintro w' hS
          have s0 := (hS.cell (p := ⟨w.heap.size, 0, none⟩) LX.out).trans QX.out.1
          have s1 := (hS.cell (p := ⟨w.heap.size, 1, none⟩) LX.out).trans QX.out.2.1
          have s2 := (hS.cell (p := ⟨w.heap.size, 2, none⟩) LX.out).trans QX.out.2.2
          have s3 := (hS.cell (p := ⟨gBE, 0, none⟩) LE.out).trans QE.out.1
          have s4 := (hS.cell (p := ⟨gBE, 1, none⟩) LE.out).trans QE.out.2
          clear hS
          go_simp
          with_reducible rfl
        rotate_left
        · simp only [Act.put, List.setIfInBounds_toArray, List.set_cons_zero, List.set_cons_succ, i64_w, i32_w]
          rfl
        refine take_ (i := 41) (N := some 111) (v := ?_) (a' := ?_) #[true, true, true, true, true, true, true, true, true, true, true, true, true, true, true, true, true, true, true, true, true, true, true, true, true, true, true, true, true, true, true, true, true, true, true, true, true, true, true, true, true, true, false, false, false, false, false, false, false, false, false, false, false, false, false, false] rfl rfl (take_ofW HT_.out HW_.out (by kernel_rfl)) (fun _ _ _ h => h) (Or.inl ⟨by rfl, ?_⟩) hHeld ?_ ?_
        rotate_left
        · rintro w' hS
          have s0 := (hS.cell (p := ⟨w.heap.size, 0, none⟩) LX.out).trans QX.out.1
          have s1 := (hS.cell (p := ⟨w.heap.size, 1, none⟩) LX.out).trans QX.out.2.1
          have s2 := (hS.cell (p := ⟨w.heap.size, 2, none⟩) LX.out).trans QX.out.2.2
          have s3 := (hS.cell (p := ⟨gBE, 0, none⟩) LE.out).trans QE.out.1
          have s4 := (hS.cell (p := ⟨gBE, 1, none⟩) LE.out).trans QE.out.2
          clear hS
          go_simp
          with_reducible rfl
        rotate_left
        · simp only [Act.put, List.setIfInBounds_toArray, List.set_cons_zero, List.set_cons_succ, i64_w, i32_w]
          rfl
        refine take_ (i := 42) (N := some 112) (v := ?_) (a' := ?_) #[true, true, true, true, true, true, true, true, true, true, true, true, true, true, true, true, true, true, true, true, true, true, true, true, true, true, true, true, true, true, true, true, true, true, true, true, true, true, true, true, true, true, true, false, false, false, false, false, false, false, false, false, false, false, false, false] rfl rfl (take_ofW HT_.out HW_.out (by kernel_rfl)) (fun _ _ _ h => h) (Or.inl ⟨by rfl, ?_⟩) hHeld ?_ ?_
        rotate_left
        · rintro w' hS
          have s0 := (hS.cell (p := ⟨w.heap.size, 0, none⟩) LX.out).trans QX.out.1
          have s1 := (hS.cell (p := ⟨w.heap.size, 1, none⟩) LX.out).trans QX.out.2.1
          have s2 := (hS.cell (p := ⟨w.heap.size, 2, none⟩) LX.out).trans QX.out.2.2
          have s3 := (hS.cell (p := ⟨gBE, 0, none⟩) LE.out).trans QE.out.1
          have s4 := (hS.cell (p := ⟨gBE, 1, none⟩) LE.out).trans QE.out.2
          clear hS
          go_simp
          with_reducible rfl
        rotate_left
        · simp only [Act.put, List.setIfInBounds_toArray, List.set_cons_zero, List.set_cons_succ, i64_w, i32_w]
          rfl
        refine take_ (i := 43) (N := some 113) (v := ?_) (a' := ?_) #[true, true, true, true, true, true, true, true, true, true, true, true, true, true, true, true, true, true, true, true, true, true, true, true, true, true, true, true, true, true, true, true, true, true, true, true, true, true, true, true, true, true, true, true, false, false, false, false, false, false, false, false, false, false, false, false] rfl rfl (take_ofW HT_.out HW_.out (by kernel_rfl)) (fun _ _ _ h => h) (Or.inl ⟨by rfl, ?_⟩) hHeld ?_ ?_
        rotate_left
        · rintro w' hS
          have s0 := (hS.cell (p := ⟨w.heap.size, 0, none⟩) LX.out).trans QX.out.1
          have s1 := (hS.cell (p := ⟨w.heap.size, 1, none⟩) LX.out).trans QX.out.2.1
          have s2 := (hS.cell (p := ⟨w.heap.size, 2, none⟩) LX.out).trans QX.out.2.2
          have s3 := (hS.cell (p := ⟨gBE, 0, none⟩) LE.out).trans QE.out.1
          have s4 := (hS.cell (p := ⟨gBE, 1, none⟩) LE.out).trans QE.out.2
          clear hS
          go_simp
          with_reducible rfl
        rotate_left
        · simp only [Act.put, List.setIfInBounds_toArray, List.set_cons_zero, List.set_cons_succ, i64_w, i32_w]
          rfl
        refine take_ (i := 45) (N := some 115) (v := ?_) (a' := ?_) #[true, true, true, true, true, true, true, true, true, true, true, true, true, true, true, true, true, true, true, true, true, true, true, true, true, true, true, true, true, true, true, true, true, true, true, true, true, true, true, true, true, true, true, true, false, true, false, false, false, false, false, false, false, false, false, false] rfl rfl (take_ofW HT_.out HW_.out (by kernel_rfl)) (fun _ _ _ h => h) (Or.inl ⟨by rfl, ?_⟩) hHeld ?_ ?_
        rotate_left
        · rintro w' hS
          have s0 := (hS.cell (p := ⟨w.heap.size, 0, none⟩) LX.out).trans QX.out.1
          have s1 := (hS.cell (p := ⟨w.heap.size, 1, none⟩) LX.out).trans QX.out.2.1
          have s2 := (hS.cell (p := ⟨w.heap.size, 2, none⟩) LX.out).trans QX.out.2.2
          have s3 := (hS.cell (p := ⟨gBE, 0, none⟩) LE.out).trans QE.out.1
          have s4 := (hS.cell (p := ⟨gBE, 1, none⟩) LE.out).trans QE.out.2
          clear hS
          go_simp
          with_reducible rfl
        rotate_left
        · simp only [Act.put, List.setIfInBounds_toArray, List.set_cons_zero, List.set_cons_succ, i64_w, i32_w]
          rfl
        refine take_ (i := 48) (N := some 118) (v := ?_) (a' := ?_) #[true, true, true, true, true, true, true, true, true, true, true, true, true, true, true, true, true, true, true, true, true, true, true, true, true, true, true, true, true, true, true, true, true, true, true, true, true, true, true, true, true, true, true, true, false, true, false, false, true, false, false, false, false, false, false, false] rfl rfl (take_ofW HT_.out HW_.out (by kernel_rfl)) (fun _ _ _ h => h) (Or.inl ⟨by rfl, ?_⟩) hHeld ?_ ?_
        rotate_left
        · rintro w' hS
          have s0 := (hS.cell (p := ⟨w.heap.size, 0, none⟩) LX.out).trans QX.out.1
          have s1 := (hS.cell (p := ⟨w.heap.size, 1, none⟩) LX.out).trans QX.out.2.1
          have s2 := (hS.cell (p := ⟨w.heap.size, 2, none⟩) LX.out).trans QX.out.2.2
          have s3 := (hS.cell (p := ⟨gBE, 0, none⟩) LE.out).trans QE.out.1
          have s4 := (hS.cell (p := ⟨gBE, 1, none⟩) LE.out).trans QE.out.2
          clear hS
          go_simp
          with_reducible rfl
        rotate_left
        · simp only [Act.put, List.setIfInBounds_toArray, List.set_cons_zero, List.set_cons_succ, i64_w, i32_w]
          rfl
        refine take_ (i := 49) (N := some 119) (v := ?_) (a' := ?_) #[true, true, true, true, true, true, true, true, true, true, true, true, true, true, true, true, true, true, true, true, true, true, true, true, true, true, true, true, true, true, true, true, true, true, true, true, true, true, true, true, true, true, true, true, false, true, false, false, true, true, false, false, false, false, false, false] rfl rfl (take_ofW HT_.out HW_.out (by kernel_rfl)) (fun _ _ _ h => h) (Or.inl ⟨by rfl, ?_⟩) hHeld ?_ ?_
        rotate_left
        · rintro w' hS
          have s0 := (hS.cell (p := ⟨w.heap.size, 0, none⟩) LX.out).trans QX.out.1
          have s1 := (hS.cell (p := ⟨w.heap.size, 1, none⟩) LX.out).trans QX.out.2.1
          have s2 := (hS.cell (p := ⟨w.heap.size, 2, none⟩) LX.out).trans QX.out.2.2
          have s3 := (hS.cell (p := ⟨gBE, 0, none⟩) LE.out).trans QE.out.1
          have s4 := (hS.cell (p := ⟨gBE, 1, none⟩) LE.out).trans QE.out.2
          clear hS
          go_simp
          with_reducible rfl
        rotate_left
        · simp only [Act.put, List.setIfInBounds_toArray, List.set_cons_zero, List.set_cons_succ, i64_w, i32_w]
          rfl
        refine one_ (i := 44) (N := some 114) #[true, true, true, true, true, true, true, true, true, true, true, true, true, true, true, true, true, true, true, true, true, true, true, true, true, true, true, true, true, true, true, true, true, true, true, true, true, true, true, true, true, true, true, true, true, true, false, false, true, true, false, false, false, false, false, false] rfl rfl (one_of HT_.out (by kernel_rfl)) (by decide) (fun K hK => ?_)
        refine goes_ Try.func30 (by kernel_rfl) rfl #[.slice Al1 l.length cl1] (by rfl) rfl rfl (by (try simp only [List.map_toArray, List.map_cons, List.map_nil]); first | done | rfl) ?_
        refine (refsorted_n Al1 cl1 ls1 _ (Kd.C_below CL1.out.1 hHeld) (by have := HS1.out.2.1; have := HXL.out; omega) _ (by have := HS1.out.2.1; have := HXL.out; omega) z4).mono ?_
        rintro e w8 ⟨⟨g44, cap44, rfl, HG44⟩, hb8⟩
        refine ⟨_, rfl, hK.out _ _ (hHeld.trans (hb8.mono hHeld.size)) ?_⟩
        clear hHeld hb8
        intro hHeld
        have k44 := HG44.out kn HK.out
        rw [show (rising ls1).getD kn 0 = e2 from HS1.out.2.2.2.2.2.2] at k44
        clear hK K
        refine norm_ (a' := ?_) ?_ ?_
        rotate_left
        · show Act.put _ (some 114) _ = _
          simp only [Act.put, List.setIfInBounds_toArray, List.set_cons_zero, List.set_cons_succ, i64_w, i32_w]
          rfl
        refine take_ (i := 46) (N := some 116) (v := ?_) (a' := ?_) #[true, true, true, true, true, true, true, true, true, true, true, true, true, true, true, true, true, true, true, true, true, true, true, true, true, true, true, true, true, true, true, true, true, true, true, true, true, true, true, true, true, true, true, true, true, true, true, false, true, true, false, false, false, false, false, false] rfl rfl (take_ofW HT_.out HW_.out (by kernel_rfl)) (fun _ _ _ h => h) (Or.inl ⟨by rfl, ?_⟩) hHeld ?_ ?_
        rotate_left
        · rintro w' hS
          have s0 := (hS.cell (p := ⟨w.heap.size, 0, none⟩) LX.out).trans QX.out.1
          have s1 := (hS.cell (p := ⟨w.heap.size, 1, none⟩) LX.out).trans QX.out.2.1
          have s2 := (hS.cell (p := ⟨w.heap.size, 2, none⟩) LX.out).trans QX.out.2.2
          have s3 := (hS.cell (p := ⟨gBE, 0, none⟩) LE.out).trans QE.out.1
          have s4 := (hS.cell (p := ⟨gBE, 1, none⟩) LE.out).trans QE.out.2
          clear hS
          go_simp
          with_reducible rfl
        rotate_left
        · simp only [Act.put, List.setIfInBounds_toArray, List.set_cons_zero, List.set_cons_succ, i64_w, i32_w]
          rfl
        refine one_ (i := 47) (N := some 117) #[true, true, true, true, true, true, true, true, true, true, true, true, true, true, true, true, true, true, true, true, true, true, true, true, true, true, true, true, true, true, true, true, true, true, true, true, true, true, true, true, true, true, true, true, true, true, true, true, true, true, false, false, false, false, false, false] rfl rfl (one_of HT_.out (by kernel_rfl)) (by decide) (fun K hK => ?_)
        refine value_ (v := .int .i64 e2) (w1 := w8) (by rfl) rfl (by go_simp) ?_
        refine hK.out _ _ hHeld ?_
        clear hHeld
        intro hHeld
        clear k44
        clear hK K
        refine norm_ (a' := ?_) ?_ ?_
        rotate_left
        · show Act.put _ (some 117) _ = _
          simp only [Act.put, List.setIfInBounds_toArray, List.set_cons_zero, List.set_cons_succ, i64_w, i32_w]
          rfl
        refine take_ (i := 50) (N := some 120) (v := ?_) (a' := ?_) #[true, true, true, true, true, true, true, true, true, true, true, true, true, true, true, true, true, true, true, true, true, true, true, true, true, true, true, true, true, true, true, true, true, true, true, true, true, true, true, true, true, true, true, true, true, true, true, true, true, true, true, false, false, false, false, false] rfl rfl (take_ofW HT_.out HW_.out (by kernel_rfl)) (fun _ _ _ h => h) (Or.inl ⟨by rfl, ?_⟩) hHeld ?_ ?_
        rotate_left
        · rintro w' hS
          have s0 := (hS.cell (p := ⟨w.heap.size, 0, none⟩) LX.out).trans QX.out.1
          have s1 := (hS.cell (p := ⟨w.heap.size, 1, none⟩) LX.out).trans QX.out.2.1
          have s2 := (hS.cell (p := ⟨w.heap.size, 2, none⟩) LX.out).trans QX.out.2.2
          have s3 := (hS.cell (p := ⟨gBE, 0, none⟩) LE.out).trans QE.out.1
          have s4 := (hS.cell (p := ⟨gBE, 1, none⟩) LE.out).trans QE.out.2
          clear hS
          go_simp
          with_reducible rfl
        rotate_left
        · simp only [Act.put, List.setIfInBounds_toArray, List.set_cons_zero, List.set_cons_succ, i64_w, i32_w]
          rfl
        refine take_ (i := 51) (N := some 121) (v := ?_) (a' := ?_) #[true, true, true, true, true, true, true, true, true, true, true, true, true, true, true, true, true, true, true, true, true, true, true, true, true, true, true, true, true, true, true, true, true, true, true, true, true, true, true, true, true, true, true, true, true, true, true, true, true, true, true, true, false, false, false, false] rfl rfl (take_ofW HT_.out HW_.out (by kernel_rfl)) (fun _ _ _ h => h) (Or.inl ⟨by rfl, ?_⟩) hHeld ?_ ?_
        rotate_left
        · rintro w' hS
          have s0 := (hS.cell (p := ⟨w.heap.size, 0, none⟩) LX.out).trans QX.out.1
          have s1 := (hS.cell (p := ⟨w.heap.size, 1, none⟩) LX.out).trans QX.out.2.1
          have s2 := (hS.cell (p := ⟨w.heap.size, 2, none⟩) LX.out).trans QX.out.2.2
          have s3 := (hS.cell (p := ⟨gBE, 0, none⟩) LE.out).trans QE.out.1
          have s4 := (hS.cell (p := ⟨gBE, 1, none⟩) LE.out).trans QE.out.2
          clear hS
          go_simp
          with_reducible rfl
        rotate_left
        · simp only [Act.put, List.setIfInBounds_toArray, List.set_cons_zero, List.set_cons_succ, i64_w, i32_w]
          rfl
        refine take_ (i := 52) (N := some 122) (v := ?_) (a' := ?_) #[true, true, true, true, true, true, true, true, true, true, true, true, true, true, true, true, true, true, true, true, true, true, true, true, true, true, true, true, true, true, true, true, true, true, true, true, true, true, true, true, true, true, true, true, true, true, true, true, true, true, true, true, true, false, false, false] rfl rfl (take_ofW HT_.out HW_.out (by kernel_rfl)) (fun _ _ _ h => h) (Or.inl ⟨by rfl, ?_⟩) hHeld ?_ ?_
        rotate_left
        · rintro w' hS
          have s0 := (hS.cell (p := ⟨w.heap.size, 0, none⟩) LX.out).trans QX.out.1
          have s1 := (hS.cell (p := ⟨w.heap.size, 1, none⟩) LX.out).trans QX.out.2.1
          have s2 := (hS.cell (p := ⟨w.heap.size, 2, none⟩) LX.out).trans QX.out.2.2
          have s3 := (hS.cell (p := ⟨gBE, 0, none⟩) LE.out).trans QE.out.1
          have s4 := (hS.cell (p := ⟨gBE, 1, none⟩) LE.out).trans QE.out.2
          clear hS
          go_simp
          with_reducible rfl
        rotate_left
        · simp only [Act.put, List.setIfInBounds_toArray, List.set_cons_zero, List.set_cons_succ, i64_w, i32_w]
          rfl
        refine one_ (i := 53) (N := some 123) #[true, true, true, true, true, true, true, true, true, true, true, true, true, true, true, true, true, true, true, true, true, true, true, true, true, true, true, true, true, true, true, true, true, true, true, true, true, true, true, true, true, true, true, true, true, true, true, true, true, true, true, true, true, true, false, false] rfl rfl (one_of HT_.out (by kernel_rfl)) (by decide) (fun K hK => ?_)
        refine goes_ Try.func17 (by kernel_rfl) rfl #[] (by rfl) rfl rfl (by (try simp only [List.map_toArray, List.map_cons, List.map_nil]); first | done | rfl) ?_
        refine (awake_calls _).mono ?_
        rintro e w8 ⟨rfl, hb8⟩
        refine ⟨_, rfl, hK.out _ _ (hHeld.trans (hb8.mono hHeld.size)) ?_⟩
        clear hHeld hb8
        intro hHeld
        clear hK K
        refine norm_ (a' := ?_) ?_ ?_
        rotate_left
        · show Act.put _ (some 123) _ = _
          simp only [Act.put, List.setIfInBounds_toArray, List.set_cons_zero, List.set_cons_succ, i64_w, i32_w]
          rfl
        refine take_ (i := 54) (N := some 124) (v := ?_) (a' := ?_) #[true, true, true, true, true, true, true, true, true, true, true, true, true, true, true, true, true, true, true, true, true, true, true, true, true, true, true, true, true, true, true, true, true, true, true, true, true, true, true, true, true, true, true, true, true, true, true, true, true, true, true, true, true, true, true, false] rfl rfl (take_ofW HT_.out HW_.out (by kernel_rfl)) (fun _ _ _ h => h) (Or.inl ⟨by rfl, ?_⟩) hHeld ?_ ?_
        rotate_left
        · rintro w' hS
          have s0 := (hS.cell (p := ⟨w.heap.size, 0, none⟩) LX.out).trans QX.out.1
          have s1 := (hS.cell (p := ⟨w.heap.size, 1, none⟩) LX.out).trans QX.out.2.1
          have s2 := (hS.cell (p := ⟨w.heap.size, 2, none⟩) LX.out).trans QX.out.2.2
          have s3 := (hS.cell (p := ⟨gBE, 0, none⟩) LE.out).trans QE.out.1
          have s4 := (hS.cell (p := ⟨gBE, 1, none⟩) LE.out).trans QE.out.2
          clear hS
          go_simp
          with_reducible rfl
        rotate_left
        · simp only [Act.put, List.setIfInBounds_toArray, List.set_cons_zero, List.set_cons_succ, i64_w, i32_w]
          rfl
        refine take_ (i := 55) (N := some 4) (v := ?_) (a' := ?_) #[true, true, true, true, true, true, true, true, true, true, true, true, true, true, true, true, true, true, true, true, true, true, true, true, true, true, true, true, true, true, true, true, true, true, true, true, true, true, true, true, true, true, true, true, true, true, true, true, true, true, true, true, true, true, true, true] rfl rfl (take_ofW HT_.out HW_.out (by kernel_rfl)) (fun _ _ _ h => h) (Or.inl ⟨by rfl, ?_⟩) hHeld ?_ ?_
        rotate_left
        · rintro w' hS
          have s0 := (hS.cell (p := ⟨w.heap.size, 0, none⟩) LX.out).trans QX.out.1
          have s1 := (hS.cell (p := ⟨w.heap.size, 1, none⟩) LX.out).trans QX.out.2.1
          have s2 := (hS.cell (p := ⟨w.heap.size, 2, none⟩) LX.out).trans QX.out.2.2
          have s3 := (hS.cell (p := ⟨gBE, 0, none⟩) LE.out).trans QE.out.1
          have s4 := (hS.cell (p := ⟨gBE, 1, none⟩) LE.out).trans QE.out.2
          clear hS
          go_simp
          with_reducible rfl
        rotate_left
        · simp only [Act.put, List.setIfInBounds_toArray, List.set_cons_zero, List.set_cons_succ, i64_w, i32_w]
          rfl
        refine done_ (done_of HT_.out (by kernel_rfl)) ?_
        go_wp2_with fail
        go_ret
        exact ⟨rfl, KB.out.trans (hHeld.mono KB.out.size)⟩
      · have hpv : pv = 9 := by have := poss_09 HCK.out; rw [HPV.out] at this; exact this.resolve_left hp
        subst hpv
        have hae : ev = 9 := by rw [← HEV.out, ask_n (by rw [HPV.out]; exact hp), HPV.out]
        subst hae
        clear hp
        go_wp2_with fail
        refine (awake_calls _).mono ?_
        rintro e w11 ⟨rfl, hb11⟩
        clear qX0 qX1 qX2 qBE0 qBE1 lX lBE
        replace KB := Aside0.mk (KB.out.trans (hb11.mono KB.out.size))
        replace X := Aside0.mk (blk_below X.out hb11)
        replace BE := Aside0.mk (blk_below BE.out hb11)
        replace HR3 := Aside0.mk (Kd.R_below HR3.out hb11)
        replace HR4 := Aside0.mk (Kd.R_below HR4.out hb11)
        replace HR6 := Aside0.mk (Kd.R_below HR6.out hb11)
        replace HR7 := Aside0.mk (Kd.R_below HR7.out hb11)
        clear hb11
        have qX0 : w11.cell? ⟨w.heap.size, 0, none⟩ = some (.int .i64 L) := (blk_cell X.out 0).trans rfl
        have qX1 : w11.cell? ⟨w.heap.size, 1, none⟩ = some (.int .i64 st) := (blk_cell X.out 1).trans rfl
        have qX2 : w11.cell? ⟨w.heap.size, 2, none⟩ = some (.slice A l.length c) := (blk_cell X.out 2).trans rfl
        have lX := blk_lt X.out
        have qBE0 : w11.cell? ⟨gBE, 0, none⟩ = some (.int .i64 e1) := (blk_cell BE.out 0).trans rfl
        have qBE1 : w11.cell? ⟨gBE, 1, none⟩ = some (.int .i64 e2) := (blk_cell BE.out 1).trans rfl
        have lBE := blk_lt BE.out
        go_wp2_with fail
        go_ret
        exact ⟨rfl, KB.out⟩
end Go.Proofs.Ytkglggggmlnleaa.Print
