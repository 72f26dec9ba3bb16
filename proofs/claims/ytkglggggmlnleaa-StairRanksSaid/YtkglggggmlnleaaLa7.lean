/- The law of the ranks, walked by hand. -/
import Derived.Test.YtkglggggmlnleaaSd
import Derived.Test.YtkglggggmlnleaaPq
import Derived.Test.YtkglggggmlnleaaSh
import Derived.Test.YtkglggggmlnleaaLk
namespace Go.Proofs.Ytkglggggmlnleaa.Print
open Go.RowKit Go.Proofs.YtkglggggmlnleaaW.PrintWords Go.Proofs.YtkglggggmlnleaaW.PrintLast Go.Proofs.YtkglggggmlnleaaW.PrintMore
set_option linter.unusedVariables false
set_option linter.unusedSimpArgs false
/-- What Shows shows. -/
theorem show_law {L st : Int} {xs : List S67} (h0 : possI L st xs = 0) (k : Int) (hk0 : 0 ≤ k) (hk : k < xs.length) (high : Bool) :
    (showR L st xs k high).length = xs.length ∧ (showL L st xs k high).length = xs.length ∧ (∀ r ∈ showR L st xs k high, 0 ≤ r) ∧ proveB L st xs (showR L st xs k high) = true ∧ walkB L st xs (showR L st xs k high) = true ∧
      (∀ (i : Nat) (p : Int × Int) (x : Int), (histOf L st (showR L st xs k high))[i]? = some p → (showL L st xs k high)[i]? = some x → limit L false p ≤ x ∧ x ≤ limit L true p) ∧ (rising (showL L st xs k high)).getD k.toNat 0 = endN L st xs k high := by
  obtain ⟨hck, hn⟩ := poss_0 h0
  obtain ⟨k1, k2, k3, k4, _⟩ := check_ok hck
  obtain ⟨b, hb, hm, e, _⟩ := endN_spec L st xs k high hn
  obtain ⟨a1, a2, a3, a4⟩ := (hists_iff L xs st b).1 hm
  have hall := hists_all L xs st k3 k4 b hm
  have hR : showR L st xs k high = b.map (·.1) := by unfold showR showH; rw [if_pos (ask_0 h0 hk0 hk), hb]; rfl
  have hL : showL L st xs k high = b.map (limit L high) := by unfold showL showH; rw [if_pos (ask_0 h0 hk0 hk), hb]; rfl
  rw [hR, hL]
  refine ⟨by simp [a1], by simp [a1], ?_, ?_, a4, ?_, by rw [e]; rfl⟩
  · intro r hr
    obtain ⟨p, hp, rfl⟩ := List.mem_map.1 hr
    exact (a3 p hp).1
  · unfold proveB
    rw [hck, a4]
    simp [a1]
  · intro i p x hp hx
    rw [← a2] at hp
    rw [List.getElem?_map, hp] at hx
    have hx : limit L high p = x := by simpa using hx
    have := (bnd_le L p (hall p (List.mem_of_getElem? hp))).1
    cases high <;> omega
theorem C_len {α : Type} {d : Kd α} {w w1 : World} {A : Option Addr} {n c : Nat} {xs : List α} (h : Kd.C d w A n xs ∧ xs.length ≤ c) (hb : Below w.heap.size w w1) : Kd.C d w1 A n xs ∧ xs.length ≤ c := ⟨Kd.C_below h.1 hb, h.2⟩
/-- A row that was made, with its length told. -/
theorem row_n {α : Type} {d : Kd α} {e : Nat} {w : World} {base : Nat} {ok : Nat → Prop} {v : Value} {xs : List α} (h : d.R e w base ok v xs) (n : Nat) (hn : xs.length = n) : ∃ A c, v = .slice A n c ∧ Aside0 (Kd.C d w A xs.length xs ∧ xs.length ≤ c) := by
  subst hn
  obtain ⟨A, c, h1, h2, h3⟩ := Kd.R_reads h
  exact ⟨A, c, h1, ⟨h3, h2⟩⟩
theorem istruth_n (L st : Int) (A : Option Addr) (c : Nat) (l : List S43) (A1 : Option Addr) (c1 : Nat) (rs : List Int) (A2 : Option Addr) (c2 : Nat) (ts : List Int) (w : World) (hr : Kd.C k43 w A l.length l) (hc : l.length ≤ c) (hr1 : Kd.C (Kd.int .u8) w A1 rs.length rs) (hr2 : Kd.C (Kd.int .i64) w A2 ts.length ts)
    (hck : checkI L st (l.map up) = 0) (hrs : rs.length = l.length) (hts : ts.length = l.length) (hw : walkB L st (l.map up) rs = true)
    (hb : ∀ (i : Nat) (p : Int × Int) (x : Int), (histOf L st rs)[i]? = some p → ts[i]? = some x → limit L false p ≤ x ∧ x ≤ limit L true p) :
    Calls Try.prog 29 #[.agg #[.int .i64 L, .int .i64 st, .slice A l.length c], .slice A1 l.length c1, .slice A2 l.length c2] w fun e w' => e = .returned (.bool true) ∧ Below w.heap.size w w' := by
  obtain ⟨k1, k2, k3, k4, k5⟩ := check_ok hck
  simp only [List.length_map] at k5
  have h := istruth_calls L st A c l A1 c1 rs A2 c2 ts w hr hc hr1 hr2 k2 k3 k4 (by omega) (fun x hx => (check_runs hck x hx).1) hrs hts hw hb
  rw [hrs, hts] at h
  exact h

theorem in_below (n lo hi : Int) (b : Bool) (w : World) (h : (decide (lo ≤ n) && decide (n ≤ hi)) = b) : Calls Try.prog 27 #[.int .i64 n, .int .i64 lo, .int .i64 hi] w fun e w' => e = .returned (.bool b) ∧ Below w.heap.size w w' := by
  refine (in_callsq n lo hi b w h).mono ?_
  rintro e w' ⟨rfl, m, rfl⟩
  exact ⟨rfl, pw_below_drewN (Below.refl _ _) m⟩
theorem show_n {L st : Int} {xs : List S67} {k : Int} (high : Bool) (h : askE L st xs k ≠ 0) : showR L st xs k high = [] ∧ showL L st xs k high = [] ∧ rankR L st xs k = (0, 0) := by
  refine ⟨?_, ?_, ?_⟩
  · unfold showR showH; rw [if_neg h]
  · unfold showL showH; rw [if_neg h]
  · unfold rankR; rw [if_neg h]
theorem rank_n (L st : Int) (A : Option Addr) (c : Nat) (l : List S43) (k : Nat) (w : World) (xs : List S67) (hx : l.map up = xs) (hck : checkI L st xs = 0) (hne : hists L st xs ≠ []) (hk : k < l.length) (hr : Kd.C k43 w A l.length l) (hc : l.length ≤ c) :
    Calls Try.prog 28 #[.agg #[.int .i64 L, .int .i64 st, .slice A l.length c], .int .i64 k] w fun e w' => e = .returned (.agg #[.int .i64 (endN L st xs k false), .int .i64 (endN L st xs k true)]) ∧ Below w.heap.size w w' := by
  subst hx
  exact lawrank_calls L st A c l k w hck hne hk hr hc
set_option maxHeartbeats 4000000 in
set_option maxRecDepth 100000 in
theorem law_ranks (L st : Int) (A : Option Addr) (c : Nat) (l : List S43) (k : Int) (high : Bool) (w : World) (hr : Kd.C k43 w A l.length l) (hc : l.length ≤ c) (hl : l.length < 8796093022208) :
    Calls Try.prog 7 #[.agg #[.int .i64 L, .int .i64 st, .slice A l.length c], .int .i64 k, .bool high] w fun e w' => e = .returned (.bool true) ∧ Below w.heap.size w w' := by
  have hu24 := Try.underlying24
  have HR := Aside0.mk hr
  have HC := Aside0.mk hc
  clear hr hc
  have KB : Aside0 (Below w.heap.size w (w.alloc (.cells #[.int .i64 L, .int .i64 st, .slice A l.length c] 24))) := ⟨(Below.refl _ w).alloc (by simp) _⟩
  have X := Aside0.mk (blk_new w (.cells #[.int .i64 L, .int .i64 st, .slice A l.length c] 24))
  obtain ⟨xs, hxs⟩ : ∃ xs, l.map up = xs := ⟨_, rfl⟩
  have HX := Aside0.mk hxs
  clear hxs
  have HLT : Aside0 (w.heap.size < (w.alloc (.cells #[.int .i64 L, .int .i64 st, .slice A l.length c] 24)).heap.size) := ⟨by simp⟩
  go_enter Try.func7, Try.ntmps7
  go_wp2_with fail
  generalize w.alloc (.cells #[.int .i64 L, .int .i64 st, .slice A l.length c] 24) = w0 at KB X HLT ⊢
  have qX0 : w0.cell? ⟨w.heap.size, 0, none⟩ = some (.int .i64 L) := (blk_cell X.out 0).trans rfl
  have qX1 : w0.cell? ⟨w.heap.size, 1, none⟩ = some (.int .i64 st) := (blk_cell X.out 1).trans rfl
  have qX2 : w0.cell? ⟨w.heap.size, 2, none⟩ = some (.slice A l.length c) := (blk_cell X.out 2).trans rfl
  have lX := blk_lt X.out
  have hu28 := Try.underlying28
  obtain ⟨tb, htb⟩ : ∃ tb, decide (l.length ≤ 20) = tb := ⟨_, rfl⟩
  have HTB := Aside0.mk htb
  clear htb
  refine (thin_calls L st A c l _ (Kd.C_below HR.out KB.out) HC.out tb HTB.out).mono ?_
  rintro e w1 ⟨rfl, hb1⟩
  clear qX0 qX1 qX2 lX
  replace KB := Aside0.mk (KB.out.trans (hb1.mono KB.out.size))
  replace X := Aside0.mk (blk_below X.out hb1)
  clear hb1
  have qX0 : w1.cell? ⟨w.heap.size, 0, none⟩ = some (.int .i64 L) := (blk_cell X.out 0).trans rfl
  have qX1 : w1.cell? ⟨w.heap.size, 1, none⟩ = some (.int .i64 st) := (blk_cell X.out 1).trans rfl
  have qX2 : w1.cell? ⟨w.heap.size, 2, none⟩ = some (.slice A l.length c) := (blk_cell X.out 2).trans rfl
  have lX := blk_lt X.out
  cases tb with
  | false =>
    go_wp2_with fail
    refine (awake_calls _).mono ?_
    rintro e w2 ⟨rfl, hb2⟩
    clear qX0 qX1 qX2 lX
    replace KB := Aside0.mk (KB.out.trans (hb2.mono KB.out.size))
    replace X := Aside0.mk (blk_below X.out hb2)
    clear hb2
    have qX0 : w2.cell? ⟨w.heap.size, 0, none⟩ = some (.int .i64 L) := (blk_cell X.out 0).trans rfl
    have qX1 : w2.cell? ⟨w.heap.size, 1, none⟩ = some (.int .i64 st) := (blk_cell X.out 1).trans rfl
    have qX2 : w2.cell? ⟨w.heap.size, 2, none⟩ = some (.slice A l.length c) := (blk_cell X.out 2).trans rfl
    have lX := blk_lt X.out
    go_wp2_with fail
    go_ret
    exact ⟨rfl, KB.out⟩
  | true =>
    have hl20 : l.length ≤ 20 := of_decide_eq_true HTB.out
    have HXL : Aside0 (xs.length = l.length) := ⟨by rw [← HX.out]; simp⟩
    obtain ⟨pv, hpv⟩ : ∃ pv, possI L st xs = pv := ⟨_, rfl⟩
    have HPV := Aside0.mk hpv
    clear hpv
    obtain ⟨ev, hev⟩ : ∃ ev, askE L st xs k = ev := ⟨_, rfl⟩
    have HEV := Aside0.mk hev
    clear hev
    obtain ⟨e1, he1⟩ : ∃ e1, (rankR L st xs k).1 = e1 := ⟨_, rfl⟩
    have HE1 := Aside0.mk he1
    clear he1
    obtain ⟨e2, he2⟩ : ∃ e2, (rankR L st xs k).2 = e2 := ⟨_, rfl⟩
    have HE2 := Aside0.mk he2
    clear he2
    obtain ⟨rs, hrs⟩ : ∃ rs, showR L st xs k high = rs := ⟨_, rfl⟩
    have HRS := Aside0.mk hrs
    clear hrs
    obtain ⟨ls, hls⟩ : ∃ ls, showL L st xs k high = ls := ⟨_, rfl⟩
    have HLS := Aside0.mk hls
    clear hls
    go_wp2_with fail
    refine (stairs_calls L st A c l _ (Kd.C_below HR.out KB.out) HC.out (by omega) xs HX.out).mono ?_
    rintro e w3 ⟨⟨A1, c1, rfl, HC1⟩, hb3⟩
    clear qX0 qX1 qX2 lX
    replace KB := Aside0.mk (KB.out.trans (hb3.mono KB.out.size))
    replace X := Aside0.mk (blk_below X.out hb3)
    clear hb3
    have qX0 : w3.cell? ⟨w.heap.size, 0, none⟩ = some (.int .i64 L) := (blk_cell X.out 0).trans rfl
    have qX1 : w3.cell? ⟨w.heap.size, 1, none⟩ = some (.int .i64 st) := (blk_cell X.out 1).trans rfl
    have qX2 : w3.cell? ⟨w.heap.size, 2, none⟩ = some (.slice A l.length c) := (blk_cell X.out 2).trans rfl
    have lX := blk_lt X.out
    go_wp2_with fail
    refine (rank_calls L st A1 c1 xs k _ HC1.out.1 HC1.out.2).mono ?_
    rintro e w4 ⟨rfl, hb4⟩
    clear qX0 qX1 qX2 lX
    replace KB := Aside0.mk (KB.out.trans (hb4.mono KB.out.size))
    replace X := Aside0.mk (blk_below X.out hb4)
    rw [HE1.out, HE2.out, HEV.out]
    clear hb4
    have qX0 : w4.cell? ⟨w.heap.size, 0, none⟩ = some (.int .i64 L) := (blk_cell X.out 0).trans rfl
    have qX1 : w4.cell? ⟨w.heap.size, 1, none⟩ = some (.int .i64 st) := (blk_cell X.out 1).trans rfl
    have qX2 : w4.cell? ⟨w.heap.size, 2, none⟩ = some (.slice A l.length c) := (blk_cell X.out 2).trans rfl
    have lX := blk_lt X.out
    go_wp2_with fail
    have NBE_X := Aside0.mk lX
    clear qX0 qX1 qX2 lX
    have BE := Aside0.mk (blk_new w4 (.cells #[.int .i64 e1, .int .i64 e2] 28))
    have hb5 : Below w4.heap.size w4 (w4.alloc (.cells #[.int .i64 e1, .int .i64 e2] 28)) := (Below.refl _ _).alloc (Nat.le_refl _) _
    replace KB := Aside0.mk (KB.out.trans (hb5.mono KB.out.size))
    replace X := Aside0.mk (blk_below X.out hb5)
    clear hb5
    obtain ⟨gBE, hgBE⟩ : ∃ g, w4.heap.size = g := ⟨_, rfl⟩
    rw [hgBE] at BE NBE_X ⊢
    clear hgBE
    generalize w4.alloc (.cells #[.int .i64 e1, .int .i64 e2] 28) = w5 at BE KB X ⊢
    have qX0 : w5.cell? ⟨w.heap.size, 0, none⟩ = some (.int .i64 L) := (blk_cell X.out 0).trans rfl
    have qX1 : w5.cell? ⟨w.heap.size, 1, none⟩ = some (.int .i64 st) := (blk_cell X.out 1).trans rfl
    have qX2 : w5.cell? ⟨w.heap.size, 2, none⟩ = some (.slice A l.length c) := (blk_cell X.out 2).trans rfl
    have lX := blk_lt X.out
    have qBE0 : w5.cell? ⟨gBE, 0, none⟩ = some (.int .i64 e1) := (blk_cell BE.out 0).trans rfl
    have qBE1 : w5.cell? ⟨gBE, 1, none⟩ = some (.int .i64 e2) := (blk_cell BE.out 1).trans rfl
    have lBE := blk_lt BE.out
    refine (stairs_calls L st A c l _ (Kd.C_below HR.out KB.out) HC.out (by omega) xs HX.out).mono ?_
    rintro e w6 ⟨⟨A2, c2, rfl, HC2⟩, hb6⟩
    clear qX0 qX1 qX2 qBE0 qBE1 lX lBE
    replace KB := Aside0.mk (KB.out.trans (hb6.mono KB.out.size))
    replace X := Aside0.mk (blk_below X.out hb6)
    replace BE := Aside0.mk (blk_below BE.out hb6)
    clear hb6
    have qX0 : w6.cell? ⟨w.heap.size, 0, none⟩ = some (.int .i64 L) := (blk_cell X.out 0).trans rfl
    have qX1 : w6.cell? ⟨w.heap.size, 1, none⟩ = some (.int .i64 st) := (blk_cell X.out 1).trans rfl
    have qX2 : w6.cell? ⟨w.heap.size, 2, none⟩ = some (.slice A l.length c) := (blk_cell X.out 2).trans rfl
    have lX := blk_lt X.out
    have qBE0 : w6.cell? ⟨gBE, 0, none⟩ = some (.int .i64 e1) := (blk_cell BE.out 0).trans rfl
    have qBE1 : w6.cell? ⟨gBE, 1, none⟩ = some (.int .i64 e2) := (blk_cell BE.out 1).trans rfl
    have lBE := blk_lt BE.out
    go_wp2_with fail
    refine (shows_calls L st A2 c2 xs k high _ HC2.out.1 HC2.out.2).mono ?_
    rintro e w7 ⟨v3, v4, rfl, hR3, hR4, hb7⟩
    clear qX0 qX1 qX2 qBE0 qBE1 lX lBE
    replace KB := Aside0.mk (KB.out.trans (hb7.mono KB.out.size))
    replace X := Aside0.mk (blk_below X.out hb7)
    replace BE := Aside0.mk (blk_below BE.out hb7)
    rw [HRS.out] at hR3
    rw [HLS.out] at hR4
    rw [HEV.out]
    clear hb7
    have qX0 : w7.cell? ⟨w.heap.size, 0, none⟩ = some (.int .i64 L) := (blk_cell X.out 0).trans rfl
    have qX1 : w7.cell? ⟨w.heap.size, 1, none⟩ = some (.int .i64 st) := (blk_cell X.out 1).trans rfl
    have qX2 : w7.cell? ⟨w.heap.size, 2, none⟩ = some (.slice A l.length c) := (blk_cell X.out 2).trans rfl
    have lX := blk_lt X.out
    have qBE0 : w7.cell? ⟨gBE, 0, none⟩ = some (.int .i64 e1) := (blk_cell BE.out 0).trans rfl
    have qBE1 : w7.cell? ⟨gBE, 1, none⟩ = some (.int .i64 e2) := (blk_cell BE.out 1).trans rfl
    have lBE := blk_lt BE.out
    have HR3 := Aside0.mk hR3
    have HR4 := Aside0.mk hR4
    clear hR3 hR4
    go_wp2_with fail
    refine (law_asked_calls L st A c l _ (Kd.C_below HR.out KB.out) HC.out (by omega)).mono ?_
    rintro e w8 ⟨rfl, hb8⟩
    clear qX0 qX1 qX2 qBE0 qBE1 lX lBE
    replace KB := Aside0.mk (KB.out.trans (hb8.mono KB.out.size))
    replace X := Aside0.mk (blk_below X.out hb8)
    replace BE := Aside0.mk (blk_below BE.out hb8)
    replace HR3 := Aside0.mk (Kd.R_below HR3.out hb8)
    replace HR4 := Aside0.mk (Kd.R_below HR4.out hb8)
    rw [HX.out, HPV.out]
    clear hb8
    have qX0 : w8.cell? ⟨w.heap.size, 0, none⟩ = some (.int .i64 L) := (blk_cell X.out 0).trans rfl
    have qX1 : w8.cell? ⟨w.heap.size, 1, none⟩ = some (.int .i64 st) := (blk_cell X.out 1).trans rfl
    have qX2 : w8.cell? ⟨w.heap.size, 2, none⟩ = some (.slice A l.length c) := (blk_cell X.out 2).trans rfl
    have lX := blk_lt X.out
    have qBE0 : w8.cell? ⟨gBE, 0, none⟩ = some (.int .i64 e1) := (blk_cell BE.out 0).trans rfl
    have qBE1 : w8.cell? ⟨gBE, 1, none⟩ = some (.int .i64 e2) := (blk_cell BE.out 1).trans rfl
    have lBE := blk_lt BE.out
    by_cases hp : pv = 0
    · have H0 : Aside0 (possI L st xs = 0) := ⟨by rw [HPV.out]; exact hp⟩
      subst hp
      have I1 : wrap64 ((l.length : Int) - 1) = (l.length : Int) - 1 := by unfold wrap64; omega
      by_cases hin : 0 ≤ k ∧ k < l.length
      · have hae : ev = 0 := by rw [← HEV.out]; exact ask_0 H0.out hin.1 (by have := HXL.out; omega)
        subst hae
        obtain ⟨kn, rfl⟩ : ∃ kn : Nat, k = kn := ⟨k.toNat, by omega⟩
        have HK : Aside0 (kn < l.length) := ⟨by omega⟩
        have HIN : Aside0 ((decide ((0 : Int) ≤ (kn : Int)) && decide ((kn : Int) ≤ (l.length : Int) - 1)) = true) := ⟨by simp; omega⟩
        have hk7 : (kn : Int) < (l.length : Int) := by omega
        clear hin
        have hrk := rank_0 HEV.out
        have HEE1 : Aside0 (endN L st xs kn false = e1) := ⟨by rw [← HE1.out, hrk]⟩
        have HEE2 : Aside0 (endN L st xs kn true = e2) := ⟨by rw [← HE2.out, hrk]⟩
        clear hrk
        obtain ⟨hck, hne⟩ := poss_0 H0.out
        have HCK := Aside0.mk hck
        have HNE := Aside0.mk hne
        clear hck hne
        have HS := Aside0.mk (show_law H0.out (kn : Int) (by omega) (by have := HXL.out; omega) high)
        rw [HRS.out, HLS.out, Int.toNat_natCast] at HS
        obtain ⟨Ar, cr, rfl, CR⟩ := row_n HR3.out l.length (by have := HS.out.1; have := HXL.out; omega)
        obtain ⟨Al, cl, rfl, CL⟩ := row_n HR4.out l.length (by have := HS.out.2.1; have := HXL.out; omega)
        clear HR3 HR4
        cases high with
        | false =>
          go_wp2_with fail
          refine (in_below (kn : Int) 0 ((l.length : Int) - 1) true _ HIN.out).mono ?_
          rintro e w9 ⟨rfl, hb9⟩
          clear qX0 qX1 qX2 qBE0 qBE1 lX lBE
          replace KB := Aside0.mk (KB.out.trans (hb9.mono KB.out.size))
          replace X := Aside0.mk (blk_below X.out hb9)
          replace BE := Aside0.mk (blk_below BE.out hb9)
          replace CR := Aside0.mk (C_len CR.out hb9)
          replace CL := Aside0.mk (C_len CL.out hb9)
          clear hb9
          have qX0 : w9.cell? ⟨w.heap.size, 0, none⟩ = some (.int .i64 L) := (blk_cell X.out 0).trans rfl
          have qX1 : w9.cell? ⟨w.heap.size, 1, none⟩ = some (.int .i64 st) := (blk_cell X.out 1).trans rfl
          have qX2 : w9.cell? ⟨w.heap.size, 2, none⟩ = some (.slice A l.length c) := (blk_cell X.out 2).trans rfl
          have lX := blk_lt X.out
          have qBE0 : w9.cell? ⟨gBE, 0, none⟩ = some (.int .i64 e1) := (blk_cell BE.out 0).trans rfl
          have qBE1 : w9.cell? ⟨gBE, 1, none⟩ = some (.int .i64 e2) := (blk_cell BE.out 1).trans rfl
          have lBE := blk_lt BE.out
          go_wp2_with fail
          refine (rank_n L st A c l kn _ xs HX.out HCK.out HNE.out HK.out (Kd.C_below HR.out KB.out) HC.out).mono ?_
          rintro e w10 ⟨rfl, hb10⟩
          clear qX0 qX1 qX2 qBE0 qBE1 lX lBE
          replace KB := Aside0.mk (KB.out.trans (hb10.mono KB.out.size))
          replace X := Aside0.mk (blk_below X.out hb10)
          replace BE := Aside0.mk (blk_below BE.out hb10)
          replace CR := Aside0.mk (C_len CR.out hb10)
          replace CL := Aside0.mk (C_len CL.out hb10)
          rw [HEE1.out, HEE2.out]
          clear hb10
          have qX0 : w10.cell? ⟨w.heap.size, 0, none⟩ = some (.int .i64 L) := (blk_cell X.out 0).trans rfl
          have qX1 : w10.cell? ⟨w.heap.size, 1, none⟩ = some (.int .i64 st) := (blk_cell X.out 1).trans rfl
          have qX2 : w10.cell? ⟨w.heap.size, 2, none⟩ = some (.slice A l.length c) := (blk_cell X.out 2).trans rfl
          have lX := blk_lt X.out
          have qBE0 : w10.cell? ⟨gBE, 0, none⟩ = some (.int .i64 e1) := (blk_cell BE.out 0).trans rfl
          have qBE1 : w10.cell? ⟨gBE, 1, none⟩ = some (.int .i64 e2) := (blk_cell BE.out 1).trans rfl
          have lBE := blk_lt BE.out
          go_wp2_with fail
          have NBX_X := Aside0.mk lX
          have NBX_BE := Aside0.mk lBE
          clear qX0 qX1 qX2 qBE0 qBE1 lX lBE
          have BX := Aside0.mk (blk_new w10 (.cells #[.int .i64 e1, .int .i64 e2] 28))
          have hb11 : Below w10.heap.size w10 (w10.alloc (.cells #[.int .i64 e1, .int .i64 e2] 28)) := (Below.refl _ _).alloc (Nat.le_refl _) _
          replace KB := Aside0.mk (KB.out.trans (hb11.mono KB.out.size))
          replace X := Aside0.mk (blk_below X.out hb11)
          replace BE := Aside0.mk (blk_below BE.out hb11)
          replace CR := Aside0.mk (C_len CR.out hb11)
          replace CL := Aside0.mk (C_len CL.out hb11)
          clear hb11
          obtain ⟨gBX, hgBX⟩ : ∃ g, w10.heap.size = g := ⟨_, rfl⟩
          rw [hgBX] at BX NBX_X NBX_BE ⊢
          clear hgBX
          generalize w10.alloc (.cells #[.int .i64 e1, .int .i64 e2] 28) = w11 at BX KB X BE CR CL ⊢
          have qX0 : w11.cell? ⟨w.heap.size, 0, none⟩ = some (.int .i64 L) := (blk_cell X.out 0).trans rfl
          have qX1 : w11.cell? ⟨w.heap.size, 1, none⟩ = some (.int .i64 st) := (blk_cell X.out 1).trans rfl
          have qX2 : w11.cell? ⟨w.heap.size, 2, none⟩ = some (.slice A l.length c) := (blk_cell X.out 2).trans rfl
          have lX := blk_lt X.out
          have qBE0 : w11.cell? ⟨gBE, 0, none⟩ = some (.int .i64 e1) := (blk_cell BE.out 0).trans rfl
          have qBE1 : w11.cell? ⟨gBE, 1, none⟩ = some (.int .i64 e2) := (blk_cell BE.out 1).trans rfl
          have lBE := blk_lt BE.out
          have qBX0 : w11.cell? ⟨gBX, 0, none⟩ = some (.int .i64 e1) := (blk_cell BX.out 0).trans rfl
          have qBX1 : w11.cell? ⟨gBX, 1, none⟩ = some (.int .i64 e2) := (blk_cell BX.out 1).trans rfl
          have lBX := blk_lt BX.out
          go_wp2_with fail
          refine (istruth_n L st A c l Ar cr rs Al cl ls _ (Kd.C_below HR.out KB.out) HC.out CR.out.1 CL.out.1 (by rw [HX.out]; exact HCK.out) (by have := HS.out.1; have := HXL.out; omega) (by have := HS.out.2.1; have := HXL.out; omega) (by rw [HX.out]; exact HS.out.2.2.2.2.1) HS.out.2.2.2.2.2.1).mono ?_
          rintro e w12 ⟨rfl, hb12⟩
          clear qX0 qX1 qX2 qBE0 qBE1 qBX0 qBX1 lX lBE lBX
          replace KB := Aside0.mk (KB.out.trans (hb12.mono KB.out.size))
          replace X := Aside0.mk (blk_below X.out hb12)
          replace BE := Aside0.mk (blk_below BE.out hb12)
          replace CR := Aside0.mk (C_len CR.out hb12)
          replace CL := Aside0.mk (C_len CL.out hb12)
          replace BX := Aside0.mk (blk_below BX.out hb12)
          clear hb12
          have qX0 : w12.cell? ⟨w.heap.size, 0, none⟩ = some (.int .i64 L) := (blk_cell X.out 0).trans rfl
          have qX1 : w12.cell? ⟨w.heap.size, 1, none⟩ = some (.int .i64 st) := (blk_cell X.out 1).trans rfl
          have qX2 : w12.cell? ⟨w.heap.size, 2, none⟩ = some (.slice A l.length c) := (blk_cell X.out 2).trans rfl
          have lX := blk_lt X.out
          have qBE0 : w12.cell? ⟨gBE, 0, none⟩ = some (.int .i64 e1) := (blk_cell BE.out 0).trans rfl
          have qBE1 : w12.cell? ⟨gBE, 1, none⟩ = some (.int .i64 e2) := (blk_cell BE.out 1).trans rfl
          have lBE := blk_lt BE.out
          have qBX0 : w12.cell? ⟨gBX, 0, none⟩ = some (.int .i64 e1) := (blk_cell BX.out 0).trans rfl
          have qBX1 : w12.cell? ⟨gBX, 1, none⟩ = some (.int .i64 e2) := (blk_cell BX.out 1).trans rfl
          have lBX := blk_lt BX.out
          go_wp2_with fail
          refine (refsorted_n Al cl ls _ CL.out.1 (by have := HS.out.2.1; have := HXL.out; omega) _ (by have := HS.out.2.1; have := HXL.out; omega) (by have := HK.out; omega)).mono ?_
          rintro e w13 ⟨⟨g5, cap5, rfl, HG5⟩, hb13⟩
          clear qX0 qX1 qX2 qBE0 qBE1 qBX0 qBX1 lX lBE lBX
          replace KB := Aside0.mk (KB.out.trans (hb13.mono KB.out.size))
          replace X := Aside0.mk (blk_below X.out hb13)
          replace BE := Aside0.mk (blk_below BE.out hb13)
          replace CR := Aside0.mk (C_len CR.out hb13)
          replace CL := Aside0.mk (C_len CL.out hb13)
          replace BX := Aside0.mk (blk_below BX.out hb13)
          have k5 := HG5.out kn HK.out
          rw [show (rising ls).getD kn 0 = e1 from HS.out.2.2.2.2.2.2.trans HEE1.out] at k5
          clear hb13
          have qX0 : w13.cell? ⟨w.heap.size, 0, none⟩ = some (.int .i64 L) := (blk_cell X.out 0).trans rfl
          have qX1 : w13.cell? ⟨w.heap.size, 1, none⟩ = some (.int .i64 st) := (blk_cell X.out 1).trans rfl
          have qX2 : w13.cell? ⟨w.heap.size, 2, none⟩ = some (.slice A l.length c) := (blk_cell X.out 2).trans rfl
          have lX := blk_lt X.out
          have qBE0 : w13.cell? ⟨gBE, 0, none⟩ = some (.int .i64 e1) := (blk_cell BE.out 0).trans rfl
          have qBE1 : w13.cell? ⟨gBE, 1, none⟩ = some (.int .i64 e2) := (blk_cell BE.out 1).trans rfl
          have lBE := blk_lt BE.out
          have qBX0 : w13.cell? ⟨gBX, 0, none⟩ = some (.int .i64 e1) := (blk_cell BX.out 0).trans rfl
          have qBX1 : w13.cell? ⟨gBX, 1, none⟩ = some (.int .i64 e2) := (blk_cell BX.out 1).trans rfl
          have lBX := blk_lt BX.out
          go_wp2_with fail
          refine (awake_calls _).mono ?_
          rintro e w14 ⟨rfl, hb14⟩
          clear qX0 qX1 qX2 qBE0 qBE1 qBX0 qBX1 lX lBE lBX
          replace KB := Aside0.mk (KB.out.trans (hb14.mono KB.out.size))
          replace X := Aside0.mk (blk_below X.out hb14)
          replace BE := Aside0.mk (blk_below BE.out hb14)
          replace CR := Aside0.mk (C_len CR.out hb14)
          replace CL := Aside0.mk (C_len CL.out hb14)
          replace BX := Aside0.mk (blk_below BX.out hb14)
          clear hb14
          have qX0 : w14.cell? ⟨w.heap.size, 0, none⟩ = some (.int .i64 L) := (blk_cell X.out 0).trans rfl
          have qX1 : w14.cell? ⟨w.heap.size, 1, none⟩ = some (.int .i64 st) := (blk_cell X.out 1).trans rfl
          have qX2 : w14.cell? ⟨w.heap.size, 2, none⟩ = some (.slice A l.length c) := (blk_cell X.out 2).trans rfl
          have lX := blk_lt X.out
          have qBE0 : w14.cell? ⟨gBE, 0, none⟩ = some (.int .i64 e1) := (blk_cell BE.out 0).trans rfl
          have qBE1 : w14.cell? ⟨gBE, 1, none⟩ = some (.int .i64 e2) := (blk_cell BE.out 1).trans rfl
          have lBE := blk_lt BE.out
          have qBX0 : w14.cell? ⟨gBX, 0, none⟩ = some (.int .i64 e1) := (blk_cell BX.out 0).trans rfl
          have qBX1 : w14.cell? ⟨gBX, 1, none⟩ = some (.int .i64 e2) := (blk_cell BX.out 1).trans rfl
          have lBX := blk_lt BX.out
          go_wp2_with fail
          go_ret
          exact ⟨rfl, KB.out⟩
        | true =>
          go_wp2_with fail
          refine (in_below (kn : Int) 0 ((l.length : Int) - 1) true _ HIN.out).mono ?_
          rintro e w15 ⟨rfl, hb15⟩
          clear qX0 qX1 qX2 qBE0 qBE1 lX lBE
          replace KB := Aside0.mk (KB.out.trans (hb15.mono KB.out.size))
          replace X := Aside0.mk (blk_below X.out hb15)
          replace BE := Aside0.mk (blk_below BE.out hb15)
          replace CR := Aside0.mk (C_len CR.out hb15)
          replace CL := Aside0.mk (C_len CL.out hb15)
          clear hb15
          have qX0 : w15.cell? ⟨w.heap.size, 0, none⟩ = some (.int .i64 L) := (blk_cell X.out 0).trans rfl
          have qX1 : w15.cell? ⟨w.heap.size, 1, none⟩ = some (.int .i64 st) := (blk_cell X.out 1).trans rfl
          have qX2 : w15.cell? ⟨w.heap.size, 2, none⟩ = some (.slice A l.length c) := (blk_cell X.out 2).trans rfl
          have lX := blk_lt X.out
          have qBE0 : w15.cell? ⟨gBE, 0, none⟩ = some (.int .i64 e1) := (blk_cell BE.out 0).trans rfl
          have qBE1 : w15.cell? ⟨gBE, 1, none⟩ = some (.int .i64 e2) := (blk_cell BE.out 1).trans rfl
          have lBE := blk_lt BE.out
          go_wp2_with fail
          refine (rank_n L st A c l kn _ xs HX.out HCK.out HNE.out HK.out (Kd.C_below HR.out KB.out) HC.out).mono ?_
          rintro e w16 ⟨rfl, hb16⟩
          clear qX0 qX1 qX2 qBE0 qBE1 lX lBE
          replace KB := Aside0.mk (KB.out.trans (hb16.mono KB.out.size))
          replace X := Aside0.mk (blk_below X.out hb16)
          replace BE := Aside0.mk (blk_below BE.out hb16)
          replace CR := Aside0.mk (C_len CR.out hb16)
          replace CL := Aside0.mk (C_len CL.out hb16)
          rw [HEE1.out, HEE2.out]
          clear hb16
          have qX0 : w16.cell? ⟨w.heap.size, 0, none⟩ = some (.int .i64 L) := (blk_cell X.out 0).trans rfl
          have qX1 : w16.cell? ⟨w.heap.size, 1, none⟩ = some (.int .i64 st) := (blk_cell X.out 1).trans rfl
          have qX2 : w16.cell? ⟨w.heap.size, 2, none⟩ = some (.slice A l.length c) := (blk_cell X.out 2).trans rfl
          have lX := blk_lt X.out
          have qBE0 : w16.cell? ⟨gBE, 0, none⟩ = some (.int .i64 e1) := (blk_cell BE.out 0).trans rfl
          have qBE1 : w16.cell? ⟨gBE, 1, none⟩ = some (.int .i64 e2) := (blk_cell BE.out 1).trans rfl
          have lBE := blk_lt BE.out
          go_wp2_with fail
          have NBX_X := Aside0.mk lX
          have NBX_BE := Aside0.mk lBE
          clear qX0 qX1 qX2 qBE0 qBE1 lX lBE
          have BX := Aside0.mk (blk_new w16 (.cells #[.int .i64 e1, .int .i64 e2] 28))
          have hb17 : Below w16.heap.size w16 (w16.alloc (.cells #[.int .i64 e1, .int .i64 e2] 28)) := (Below.refl _ _).alloc (Nat.le_refl _) _
          replace KB := Aside0.mk (KB.out.trans (hb17.mono KB.out.size))
          replace X := Aside0.mk (blk_below X.out hb17)
          replace BE := Aside0.mk (blk_below BE.out hb17)
          replace CR := Aside0.mk (C_len CR.out hb17)
          replace CL := Aside0.mk (C_len CL.out hb17)
          clear hb17
          obtain ⟨gBX, hgBX⟩ : ∃ g, w16.heap.size = g := ⟨_, rfl⟩
          rw [hgBX] at BX NBX_X NBX_BE ⊢
          clear hgBX
          generalize w16.alloc (.cells #[.int .i64 e1, .int .i64 e2] 28) = w17 at BX KB X BE CR CL ⊢
          have qX0 : w17.cell? ⟨w.heap.size, 0, none⟩ = some (.int .i64 L) := (blk_cell X.out 0).trans rfl
          have qX1 : w17.cell? ⟨w.heap.size, 1, none⟩ = some (.int .i64 st) := (blk_cell X.out 1).trans rfl
          have qX2 : w17.cell? ⟨w.heap.size, 2, none⟩ = some (.slice A l.length c) := (blk_cell X.out 2).trans rfl
          have lX := blk_lt X.out
          have qBE0 : w17.cell? ⟨gBE, 0, none⟩ = some (.int .i64 e1) := (blk_cell BE.out 0).trans rfl
          have qBE1 : w17.cell? ⟨gBE, 1, none⟩ = some (.int .i64 e2) := (blk_cell BE.out 1).trans rfl
          have lBE := blk_lt BE.out
          have qBX0 : w17.cell? ⟨gBX, 0, none⟩ = some (.int .i64 e1) := (blk_cell BX.out 0).trans rfl
          have qBX1 : w17.cell? ⟨gBX, 1, none⟩ = some (.int .i64 e2) := (blk_cell BX.out 1).trans rfl
          have lBX := blk_lt BX.out
          go_wp2_with fail
          refine (istruth_n L st A c l Ar cr rs Al cl ls _ (Kd.C_below HR.out KB.out) HC.out CR.out.1 CL.out.1 (by rw [HX.out]; exact HCK.out) (by have := HS.out.1; have := HXL.out; omega) (by have := HS.out.2.1; have := HXL.out; omega) (by rw [HX.out]; exact HS.out.2.2.2.2.1) HS.out.2.2.2.2.2.1).mono ?_
          rintro e w18 ⟨rfl, hb18⟩
          clear qX0 qX1 qX2 qBE0 qBE1 qBX0 qBX1 lX lBE lBX
          replace KB := Aside0.mk (KB.out.trans (hb18.mono KB.out.size))
          replace X := Aside0.mk (blk_below X.out hb18)
          replace BE := Aside0.mk (blk_below BE.out hb18)
          replace CR := Aside0.mk (C_len CR.out hb18)
          replace CL := Aside0.mk (C_len CL.out hb18)
          replace BX := Aside0.mk (blk_below BX.out hb18)
          clear hb18
          have qX0 : w18.cell? ⟨w.heap.size, 0, none⟩ = some (.int .i64 L) := (blk_cell X.out 0).trans rfl
          have qX1 : w18.cell? ⟨w.heap.size, 1, none⟩ = some (.int .i64 st) := (blk_cell X.out 1).trans rfl
          have qX2 : w18.cell? ⟨w.heap.size, 2, none⟩ = some (.slice A l.length c) := (blk_cell X.out 2).trans rfl
          have lX := blk_lt X.out
          have qBE0 : w18.cell? ⟨gBE, 0, none⟩ = some (.int .i64 e1) := (blk_cell BE.out 0).trans rfl
          have qBE1 : w18.cell? ⟨gBE, 1, none⟩ = some (.int .i64 e2) := (blk_cell BE.out 1).trans rfl
          have lBE := blk_lt BE.out
          have qBX0 : w18.cell? ⟨gBX, 0, none⟩ = some (.int .i64 e1) := (blk_cell BX.out 0).trans rfl
          have qBX1 : w18.cell? ⟨gBX, 1, none⟩ = some (.int .i64 e2) := (blk_cell BX.out 1).trans rfl
          have lBX := blk_lt BX.out
          go_wp2_with fail
          refine (refsorted_n Al cl ls _ CL.out.1 (by have := HS.out.2.1; have := HXL.out; omega) _ (by have := HS.out.2.1; have := HXL.out; omega) (by have := HK.out; omega)).mono ?_
          rintro e w19 ⟨⟨g5, cap5, rfl, HG5⟩, hb19⟩
          clear qX0 qX1 qX2 qBE0 qBE1 qBX0 qBX1 lX lBE lBX
          replace KB := Aside0.mk (KB.out.trans (hb19.mono KB.out.size))
          replace X := Aside0.mk (blk_below X.out hb19)
          replace BE := Aside0.mk (blk_below BE.out hb19)
          replace CR := Aside0.mk (C_len CR.out hb19)
          replace CL := Aside0.mk (C_len CL.out hb19)
          replace BX := Aside0.mk (blk_below BX.out hb19)
          have k5 := HG5.out kn HK.out
          rw [show (rising ls).getD kn 0 = e2 from HS.out.2.2.2.2.2.2.trans HEE2.out] at k5
          clear hb19
          have qX0 : w19.cell? ⟨w.heap.size, 0, none⟩ = some (.int .i64 L) := (blk_cell X.out 0).trans rfl
          have qX1 : w19.cell? ⟨w.heap.size, 1, none⟩ = some (.int .i64 st) := (blk_cell X.out 1).trans rfl
          have qX2 : w19.cell? ⟨w.heap.size, 2, none⟩ = some (.slice A l.length c) := (blk_cell X.out 2).trans rfl
          have lX := blk_lt X.out
          have qBE0 : w19.cell? ⟨gBE, 0, none⟩ = some (.int .i64 e1) := (blk_cell BE.out 0).trans rfl
          have qBE1 : w19.cell? ⟨gBE, 1, none⟩ = some (.int .i64 e2) := (blk_cell BE.out 1).trans rfl
          have lBE := blk_lt BE.out
          have qBX0 : w19.cell? ⟨gBX, 0, none⟩ = some (.int .i64 e1) := (blk_cell BX.out 0).trans rfl
          have qBX1 : w19.cell? ⟨gBX, 1, none⟩ = some (.int .i64 e2) := (blk_cell BX.out 1).trans rfl
          have lBX := blk_lt BX.out
          go_wp2_with fail
          refine (awake_calls _).mono ?_
          rintro e w20 ⟨rfl, hb20⟩
          clear qX0 qX1 qX2 qBE0 qBE1 qBX0 qBX1 lX lBE lBX
          replace KB := Aside0.mk (KB.out.trans (hb20.mono KB.out.size))
          replace X := Aside0.mk (blk_below X.out hb20)
          replace BE := Aside0.mk (blk_below BE.out hb20)
          replace CR := Aside0.mk (C_len CR.out hb20)
          replace CL := Aside0.mk (C_len CL.out hb20)
          replace BX := Aside0.mk (blk_below BX.out hb20)
          clear hb20
          have qX0 : w20.cell? ⟨w.heap.size, 0, none⟩ = some (.int .i64 L) := (blk_cell X.out 0).trans rfl
          have qX1 : w20.cell? ⟨w.heap.size, 1, none⟩ = some (.int .i64 st) := (blk_cell X.out 1).trans rfl
          have qX2 : w20.cell? ⟨w.heap.size, 2, none⟩ = some (.slice A l.length c) := (blk_cell X.out 2).trans rfl
          have lX := blk_lt X.out
          have qBE0 : w20.cell? ⟨gBE, 0, none⟩ = some (.int .i64 e1) := (blk_cell BE.out 0).trans rfl
          have qBE1 : w20.cell? ⟨gBE, 1, none⟩ = some (.int .i64 e2) := (blk_cell BE.out 1).trans rfl
          have lBE := blk_lt BE.out
          have qBX0 : w20.cell? ⟨gBX, 0, none⟩ = some (.int .i64 e1) := (blk_cell BX.out 0).trans rfl
          have qBX1 : w20.cell? ⟨gBX, 1, none⟩ = some (.int .i64 e2) := (blk_cell BX.out 1).trans rfl
          have lBX := blk_lt BX.out
          go_wp2_with fail
          go_ret
          exact ⟨rfl, KB.out⟩
      · have hae : ev = 2 := by rw [← HEV.out]; unfold askE; rw [if_pos H0.out, if_neg (by rw [HXL.out]; exact hin)]
        subst hae
        have HWN : Aside0 ((2 : Int) ≠ 0) := ⟨by decide⟩
        have HIN : Aside0 ((decide ((0 : Int) ≤ k) && decide (k ≤ (l.length : Int) - 1)) = false) := ⟨by simp; omega⟩
        clear hin
        clear qBE0 qBE1 lBE
        obtain ⟨s1, s2, s3⟩ := show_n (L := L) (st := st) (xs := xs) (k := k) high (by rw [HEV.out]; exact HWN.out)
        rw [HRS.out] at s1
        rw [HLS.out] at s2
        subst s1 s2
        have z1 : e1 = 0 := by rw [← HE1.out, s3]
        have z2 : e2 = 0 := by rw [← HE2.out, s3]
        subst z1 z2
        clear s3
        obtain ⟨Ar, cr, rfl, CR⟩ := row_n HR3.out 0 rfl
        obtain ⟨Al, cl, rfl, CL⟩ := row_n HR4.out 0 rfl
        clear HR3 HR4
        have qBE0 : w8.cell? ⟨gBE, 0, none⟩ = some (.int .i64 0) := (blk_cell BE.out 0).trans rfl
        have qBE1 : w8.cell? ⟨gBE, 1, none⟩ = some (.int .i64 0) := (blk_cell BE.out 1).trans rfl
        have lBE := blk_lt BE.out
        go_wp2_with fail
        refine (in_below k 0 ((l.length : Int) - 1) false _ HIN.out).mono ?_
        rintro e w21 ⟨rfl, hb21⟩
        clear qX0 qX1 qX2 qBE0 qBE1 lX lBE
        replace KB := Aside0.mk (KB.out.trans (hb21.mono KB.out.size))
        replace X := Aside0.mk (blk_below X.out hb21)
        replace BE := Aside0.mk (blk_below BE.out hb21)
        clear hb21
        have qX0 : w21.cell? ⟨w.heap.size, 0, none⟩ = some (.int .i64 L) := (blk_cell X.out 0).trans rfl
        have qX1 : w21.cell? ⟨w.heap.size, 1, none⟩ = some (.int .i64 st) := (blk_cell X.out 1).trans rfl
        have qX2 : w21.cell? ⟨w.heap.size, 2, none⟩ = some (.slice A l.length c) := (blk_cell X.out 2).trans rfl
        have lX := blk_lt X.out
        have qBE0 : w21.cell? ⟨gBE, 0, none⟩ = some (.int .i64 0) := (blk_cell BE.out 0).trans rfl
        have qBE1 : w21.cell? ⟨gBE, 1, none⟩ = some (.int .i64 0) := (blk_cell BE.out 1).trans rfl
        have lBE := blk_lt BE.out
        go_wp2_with fail
        refine (awake_calls _).mono ?_
        rintro e w22 ⟨rfl, hb22⟩
        clear qX0 qX1 qX2 qBE0 qBE1 lX lBE
        replace KB := Aside0.mk (KB.out.trans (hb22.mono KB.out.size))
        replace X := Aside0.mk (blk_below X.out hb22)
        replace BE := Aside0.mk (blk_below BE.out hb22)
        clear hb22
        have qX0 : w22.cell? ⟨w.heap.size, 0, none⟩ = some (.int .i64 L) := (blk_cell X.out 0).trans rfl
        have qX1 : w22.cell? ⟨w.heap.size, 1, none⟩ = some (.int .i64 st) := (blk_cell X.out 1).trans rfl
        have qX2 : w22.cell? ⟨w.heap.size, 2, none⟩ = some (.slice A l.length c) := (blk_cell X.out 2).trans rfl
        have lX := blk_lt X.out
        have qBE0 : w22.cell? ⟨gBE, 0, none⟩ = some (.int .i64 0) := (blk_cell BE.out 0).trans rfl
        have qBE1 : w22.cell? ⟨gBE, 1, none⟩ = some (.int .i64 0) := (blk_cell BE.out 1).trans rfl
        have lBE := blk_lt BE.out
        go_wp2_with fail
        go_ret
        exact ⟨rfl, KB.out⟩
    · have z8 : (pv == 0) = false := beq_eq_false_iff_ne.2 hp
      have z9 : (pv != 0) = true := bne_iff_ne.2 hp
      have HE9 : Aside0 (ev = pv) := ⟨by rw [← HEV.out, ask_n (by rw [HPV.out]; exact hp), HPV.out]⟩
      obtain rfl := HE9.out
      have HWN := Aside0.mk hp
      clear HE9 hp
      clear qBE0 qBE1 lBE
      obtain ⟨s1, s2, s3⟩ := show_n (L := L) (st := st) (xs := xs) (k := k) high (by rw [HEV.out]; exact HWN.out)
      rw [HRS.out] at s1
      rw [HLS.out] at s2
      subst s1 s2
      have z1 : e1 = 0 := by rw [← HE1.out, s3]
      have z2 : e2 = 0 := by rw [← HE2.out, s3]
      subst z1 z2
      clear s3
      obtain ⟨Ar, cr, rfl, CR⟩ := row_n HR3.out 0 rfl
      obtain ⟨Al, cl, rfl, CL⟩ := row_n HR4.out 0 rfl
      clear HR3 HR4
      have qBE0 : w8.cell? ⟨gBE, 0, none⟩ = some (.int .i64 0) := (blk_cell BE.out 0).trans rfl
      have qBE1 : w8.cell? ⟨gBE, 1, none⟩ = some (.int .i64 0) := (blk_cell BE.out 1).trans rfl
      have lBE := blk_lt BE.out
      go_wp2_with fail
      refine (awake_calls _).mono ?_
      rintro e w23 ⟨rfl, hb23⟩
      clear qX0 qX1 qX2 qBE0 qBE1 lX lBE
      replace KB := Aside0.mk (KB.out.trans (hb23.mono KB.out.size))
      replace X := Aside0.mk (blk_below X.out hb23)
      replace BE := Aside0.mk (blk_below BE.out hb23)
      clear hb23
      have qX0 : w23.cell? ⟨w.heap.size, 0, none⟩ = some (.int .i64 L) := (blk_cell X.out 0).trans rfl
      have qX1 : w23.cell? ⟨w.heap.size, 1, none⟩ = some (.int .i64 st) := (blk_cell X.out 1).trans rfl
      have qX2 : w23.cell? ⟨w.heap.size, 2, none⟩ = some (.slice A l.length c) := (blk_cell X.out 2).trans rfl
      have lX := blk_lt X.out
      have qBE0 : w23.cell? ⟨gBE, 0, none⟩ = some (.int .i64 0) := (blk_cell BE.out 0).trans rfl
      have qBE1 : w23.cell? ⟨gBE, 1, none⟩ = some (.int .i64 0) := (blk_cell BE.out 1).trans rfl
      have lBE := blk_lt BE.out
      go_wp2_with fail
      go_ret
      exact ⟨rfl, KB.out⟩
end Go.Proofs.Ytkglggggmlnleaa.Print
