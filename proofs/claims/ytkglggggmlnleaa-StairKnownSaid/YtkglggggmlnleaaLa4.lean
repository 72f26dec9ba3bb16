/- The law of what is known, walked by hand. -/
import Derived.Test.YtkglggggmlnleaaSc
import Derived.Test.YtkglggggmlnleaaPk
namespace Go.Proofs.Ytkglggggmlnleaa.Print
open Go.RowKit Go.Proofs.YtkglggggmlnleaaW.PrintWords Go.Proofs.YtkglggggmlnleaaW.PrintLast Go.Proofs.YtkglggggmlnleaaW.PrintMore
set_option linter.unusedVariables false
set_option linter.unusedSimpArgs false
theorem elem43 {W : World} {base g n cap : Nat} {ok : Nat → Prop} {l : List S43} (h : k43.R 43 W base ok (.slice (some ⟨g, 0, none⟩) n cap) l) (k : Nat) (hk : k < n) {x0 x1 : Int} (hx : l[k]? = some ⟨x0, x1⟩) :
    ∀ (j : Nat) (u : Value), ([.int .i64 x0, .int .u8 x1] : List Value)[j]? = some u → W.cell? ⟨g, (k : Int).toNat * k43.sz + j, none⟩ = some u := by
  obtain ⟨c, hc, hM, hcell, _⟩ := Kd.R_elem h ⟨0, 0⟩ (k : Int) (by omega) (by omega)
  have hg : l.getD (k : Int).toNat ⟨0, 0⟩ = ⟨x0, x1⟩ := by rw [Int.toNat_natCast, List.getD_eq_getElem?_getD, hx]; rfl
  rw [hg] at hM
  obtain rfl := k43_openM hM
  exact hcell
theorem C_pair43 {w w1 : World} {A : Option Addr} {n c : Nat} {xs : List S43} (h : Kd.C k43 w A n xs ∧ xs.length ≤ c) (hb : Below w.heap.size w w1) : Kd.C k43 w1 A n xs ∧ xs.length ≤ c := ⟨Kd.C_below h.1 hb, h.2⟩
theorem row43 {w : World} {base g n cap : Nat} {ok : Nat → Prop} {ys : List S43} (h : k43.R 43 w base ok (.slice (some ⟨g, 0, none⟩) n cap) ys) (hn : ys.length = n) : Kd.C k43 w (some ⟨g, 0, none⟩) ys.length ys ∧ ys.length ≤ cap := by
  obtain ⟨A, c, he, hl, hC⟩ := Kd.R_reads h
  injection he with h1 h2 h3
  subst h1 h3
  exact ⟨hC, hl⟩
theorem ready_n (L st : Int) (A : Option Addr) (c : Nat) (l : List S43) (w : World) (hr : Kd.C k43 w A l.length l) (hc : l.length ≤ c) (hm : l.length ≤ 9000000000000000000) (b : Bool) (hb : decide (checkI L st (l.map up) = 0) = b) (n : Nat) (hn : l.length = n) :
    Calls Try.prog 23 #[.agg #[.int .i64 L, .int .i64 st, .slice A n c]] w fun e w' => e = .returned (.bool b) ∧ Below w.heap.size w w' := by
  subst hn; exact ready_calls L st A c l w hr hc hm b hb
theorem stairs_n (L st : Int) (A : Option Addr) (c : Nat) (l : List S43) (w : World) (hr : Kd.C k43 w A l.length l) (hc : l.length ≤ c) (hl : l.length < 8796093022208) (xs : List S67) (hx : l.map up = xs) (n : Nat) (hn : l.length = n) :
    Calls Try.prog 19 #[.agg #[.int .i64 L, .int .i64 st, .slice A n c]] w fun e w' => (∃ A' c', e = .returned (.agg #[.int .i64 L, .int .i64 st, .slice A' xs.length c']) ∧ Aside0 (Kd.C k67 w' A' xs.length xs ∧ xs.length ≤ c')) ∧ Below w.heap.size w w' := by
  subst hn; exact stairs_calls L st A c l w hr hc hl xs hx
theorem known_level {x : S67} {y0 y1 l r : Int} (hx : x = up ⟨y0, y1⟩) (h : mayB x l r = true) : mayB (up ⟨-1, y1⟩) l r = true := by
  subst hx
  unfold mayB up at *
  simp only [Bool.and_eq_true] at h ⊢
  exact ⟨by simp, h.2⟩
theorem known_result {x : S67} {y0 y1 l r : Int} (hx : x = up ⟨y0, y1⟩) (h : mayB x l r = true) : mayB (up ⟨y0, 3⟩) l r = true := by
  subst hx
  unfold mayB up at *
  simp only [Bool.and_eq_true] at h ⊢
  exact ⟨h.1, by simp⟩
theorem any_snoc (l : List S43) (j : Nat) (hj : j < l.length) : ((l.take (j + 1)).any fun x => decide (x.f1 = 3)) = (((l.take j).any fun x => decide (x.f1 = 3)) || decide (l[j].f1 = 3)) := by
  rw [List.take_add_one, List.getElem?_eq_getElem hj, List.any_append]
  simp
set_option maxHeartbeats 4000000 in
set_option maxRecDepth 100000 in
theorem law_known (L st : Int) (A : Option Addr) (c : Nat) (l : List S43) (which rank : Int) (level : Bool) (w : World) (hr : Kd.C k43 w A l.length l) (hc : l.length ≤ c) (hl : l.length < 8796093022208) (hwf : 0 ≤ which ∧ which < 256 ∧ 0 ≤ rank ∧ rank < 256) :
    Calls Try.prog 4 #[.agg #[.int .i64 L, .int .i64 st, .slice A l.length c], .int .u8 which, .int .u8 rank, .bool level] w fun e w' => e = .returned (.bool true) ∧ Below w.heap.size w w' := by
  have hu24 := Try.underlying24
  have HR := Aside0.mk hr
  have HC := Aside0.mk hc
  have HW := Aside0.mk hwf
  clear hr hc hwf
  have KB : Aside0 (Below w.heap.size w (w.alloc (.cells #[.int .i64 L, .int .i64 st, .slice A l.length c] 24))) := ⟨(Below.refl _ w).alloc (by simp) _⟩
  have X := Aside0.mk (blk_new w (.cells #[.int .i64 L, .int .i64 st, .slice A l.length c] 24))
  obtain ⟨xs, hxs⟩ : ∃ xs, l.map up = xs := ⟨_, rfl⟩
  have HX := Aside0.mk hxs
  clear hxs
  have HLT : Aside0 (w.heap.size < (w.alloc (.cells #[.int .i64 L, .int .i64 st, .slice A l.length c] 24)).heap.size) := ⟨by simp⟩
  go_enter Try.func4, Try.ntmps4
  go_wp2_with fail
  generalize w.alloc (.cells #[.int .i64 L, .int .i64 st, .slice A l.length c] 24) = w0 at KB X HLT ⊢
  have qX0 : w0.cell? ⟨w.heap.size, 0, none⟩ = some (.int .i64 L) := (blk_cell X.out 0).trans rfl
  have qX1 : w0.cell? ⟨w.heap.size, 1, none⟩ = some (.int .i64 st) := (blk_cell X.out 1).trans rfl
  have qX2 : w0.cell? ⟨w.heap.size, 2, none⟩ = some (.slice A l.length c) := (blk_cell X.out 2).trans rfl
  have lX := blk_lt X.out
  obtain ⟨rb, hrb⟩ : ∃ rb, decide (checkI L st (l.map up) = 0) = rb := ⟨_, rfl⟩
  have HRB := Aside0.mk hrb
  clear hrb
  refine (ready_calls L st A c l _ (Kd.C_below HR.out KB.out) HC.out (by omega) rb HRB.out).mono ?_
  rintro e w1 ⟨rfl, hb1⟩
  clear qX0 qX1 qX2 lX
  replace KB := Aside0.mk (KB.out.trans (hb1.mono KB.out.size))
  replace X := Aside0.mk (blk_below X.out hb1)
  clear hb1
  have qX0 : w1.cell? ⟨w.heap.size, 0, none⟩ = some (.int .i64 L) := (blk_cell X.out 0).trans rfl
  have qX1 : w1.cell? ⟨w.heap.size, 1, none⟩ = some (.int .i64 st) := (blk_cell X.out 1).trans rfl
  have qX2 : w1.cell? ⟨w.heap.size, 2, none⟩ = some (.slice A l.length c) := (blk_cell X.out 2).trans rfl
  have lX := blk_lt X.out
  cases rb with
  | false =>
    go_wp2_with fail
    refine (awake_calls _).mono ?_
    rintro e w2 ⟨rfl, hb2⟩
    clear qX0 qX1 qX2 lX
    replace KB := Aside0.mk (KB.out.trans (hb2.mono KB.out.size))
    replace X := Aside0.mk (blk_below X.out hb2)
    clear hb2
    have qX0 : w2.cell? ⟨w.heap.size, 0, none⟩ = some (.int .i64 L) := (blk_cell X.out 0).trans rfl
    have qX1 : w2.cell? ⟨w.heap.size, 1, none⟩ = some (.int .i64 st) := (blk_cell X.out 1).trans rfl
    have qX2 : w2.cell? ⟨w.heap.size, 2, none⟩ = some (.slice A l.length c) := (blk_cell X.out 2).trans rfl
    have lX := blk_lt X.out
    go_wp2_with fail
    go_ret
    exact ⟨rfl, KB.out⟩
  | true =>
    have HCK : Aside0 (checkI L st (l.map up) = 0) := ⟨of_decide_eq_true HRB.out⟩
    by_cases hl0 : l.length = 0
    · have z1 : ((l.length : Int) == 0) = true := beq_iff_eq.2 (by omega)
      have z2 : (l.length == 0) = true := beq_iff_eq.2 hl0
      have z3 : l = [] := List.eq_nil_of_length_eq_zero hl0
      clear hl0
      go_wp2_with fail
      refine (awake_calls _).mono ?_
      rintro e w3 ⟨rfl, hb3⟩
      clear qX0 qX1 qX2 lX
      replace KB := Aside0.mk (KB.out.trans (hb3.mono KB.out.size))
      replace X := Aside0.mk (blk_below X.out hb3)
      clear hb3
      have qX0 : w3.cell? ⟨w.heap.size, 0, none⟩ = some (.int .i64 L) := (blk_cell X.out 0).trans rfl
      have qX1 : w3.cell? ⟨w.heap.size, 1, none⟩ = some (.int .i64 st) := (blk_cell X.out 1).trans rfl
      have qX2 : w3.cell? ⟨w.heap.size, 2, none⟩ = some (.slice A l.length c) := (blk_cell X.out 2).trans rfl
      have lX := blk_lt X.out
      go_wp2_with fail
      go_ret
      exact ⟨rfl, KB.out⟩
    · have z1 : ((l.length : Int) == 0) = false := beq_eq_false_iff_ne.2 (by omega)
      have z2 : (l.length == 0) = false := beq_eq_false_iff_ne.2 hl0
      have z4 : 0 < l.length := by omega
      have z5 : (0 : Int) < l.length := by omega
      have z6 : ¬ l = [] := fun e => hl0 (by rw [e]; rfl)
      obtain ⟨wn, rfl⟩ : ∃ wn : Nat, which = wn := ⟨which.toNat, by have := HW.out; omega⟩
      obtain ⟨rn, rfl⟩ : ∃ rn : Nat, rank = rn := ⟨rank.toNat, by have := HW.out; omega⟩
      go_wp2_with fail
      have I1 : Aside0 ((wrap64 (wn : Int)).tmod (l.length : Int) = ((wn % l.length : Nat) : Int)) := ⟨by rw [show wrap64 (wn : Int) = wn by unfold wrap64; have := HW.out; omega, Int.tmod_eq_emod_of_nonneg (by omega)]; rfl⟩
      have I2 : Aside0 ((wrap64 (rn : Int)).tmod (l.length : Int) = ((rn % l.length : Nat) : Int)) := ⟨by rw [show wrap64 (rn : Int) = rn by unfold wrap64; have := HW.out; omega, Int.tmod_eq_emod_of_nonneg (by omega)]; rfl⟩
      go_quiet (fail)
      simp only [I1.out, I2.out]
      have hk := Nat.mod_lt wn z4
      have hn := Nat.mod_lt rn z4
      obtain ⟨kn, hkn⟩ : ∃ kn, wn % l.length = kn := ⟨_, rfl⟩
      obtain ⟨nn, hnn⟩ : ∃ nn, rn % l.length = nn := ⟨_, rfl⟩
      rw [hkn] at hk ⊢
      rw [hnn] at hn ⊢
      clear I1 I2 hkn hnn HW
      have KX := Aside0.mk (blk_drewN X.out nq)
      have KB2 := Aside0.mk (pw_below_drewN KB.out nq)
      clear qX0 qX1 qX2 lX
      clear KB X
      have KB := KB2
      have X := KX
      clear KB2 KX
      generalize w1.drewN nq = w2 at KB X ⊢
      have qX0 : w2.cell? ⟨w.heap.size, 0, none⟩ = some (.int .i64 L) := (blk_cell X.out 0).trans rfl
      have qX1 : w2.cell? ⟨w.heap.size, 1, none⟩ = some (.int .i64 st) := (blk_cell X.out 1).trans rfl
      have qX2 : w2.cell? ⟨w.heap.size, 2, none⟩ = some (.slice A l.length c) := (blk_cell X.out 2).trans rfl
      have lX := blk_lt X.out
      have HK := Aside0.mk (And.intro hk hn)
      have hk7 : (kn : Int) < l.length := by omega
      have hk8 : (0 : Int) ≤ (kn : Int) := by omega
      obtain ⟨⟨y0, y1⟩, hy⟩ : ∃ y, l[kn]? = some y := ⟨_, List.getElem?_eq_getElem hk⟩
      have HY := Aside0.mk hy
      clear hy hk hn
      cases level with
      | true =>
        go_wp2_with (first | ((with_reducible refine gate_dst (N := 49) rfl ?_); refine Kd.R_lit k43 (w0 := w2) w2.heap.size 43 ?hg (N := 49) ?hd (xs := []) (inner := []) (ok := fun _ => True) (okp := fun _ => True) ?hr ?hp (fun _ hk => hk) trivial ((Below.refl _ _).alloc (Nat.le_refl _) _) (by simp) (by simp) ?_; (case hd => rfl); (case hg => rfl); (case hr => first | (go_simp; done) | (go_simp; rfl)); (case hp => exact (Reps.none _ _)); intro v5 w5 hR hb hg hat; have GX := Aside0.mk (blk_grown (blk_new w2 (.cells #[.int .i64 L, .int .i64 st, .slice A l.length c] 24)) hg (by simp)); have HV5 := Aside0.mk hR; have HB5 := Aside0.mk hb; have x5 : w5.cell? ⟨w.heap.size, 2, none⟩ = some (.slice A l.length c) := (blk_cell (blk_below X.out hb) 2).trans rfl; clear hR hb hg hat) | ((with_reducible refine gate_builtin (b := .append) (xs := #[.tmp 49, .tmp 51]) rfl ?_); at_builtin; go_loud (refine Kd.R_append_rows k43 (w0 := w2) w2.heap.size rfl (.tmp 49) (.tmp 51) 22 43 (.agg #[(.int .i64 0), (.int .u8 0)]) 16 rfl Try.underlying22 info43 rfl (by decide) (by omega) v5 [] l _ _ _ (fun _ => True) (fun _ => False) rfl rfl HV5.out (Kd.C_below HR.out (KB.out.trans (HB5.out.mono KB.out.size))) (fun _ _ h => h) (fun _ h => h.elim) (fun _ _ => trivial) HB5.out HB5.out.size (by simp; omega) ?_; intro v6 w6 hR hb hg hat; rw [List.nil_append] at hR; replace GX := Aside0.mk (blk_grown GX.out hg (Kd.R_ne HV5.out GX.out (by decide))); obtain ⟨g6, cap6, rfl, hg6, hg7, _⟩ := Kd.R_form hR z4; have HV6 := Aside0.mk hR; have HB6 := Aside0.mk hb; clear hR hb hg hat hg6 hg7 x5; have x0 : w6.cell? ⟨w2.heap.size, 2, none⟩ = some (.slice A l.length c) := (blk_cell GX.out 2).trans rfl; have x1 := blk_frozen GX.out 2; have x2 := blk_lt GX.out)) | ((with_reducible refine gate_store (t := 3) (p := 59) (v := .const (.int .i64 (-1))) rfl ?_); go_loud (refine Kd.R_store k43 (w0 := w2) w2.heap.size rfl rfl 3 (.tmp 59) (.const (.int .i64 (-1))) rfl 43 (kn : Int) 0 l ⟨-1, y1⟩ (.int .i64 (-1)) [(.int .i64 (-1))] [.int .i64 y0, .int .u8 y1] (fun _ => True) (fun _ => False) rfl (by show _ = _; simp [k43, Kd.iso, Kd.pair, Kd.int, Kd.scalar]) rfl rfl (by kernel_rfl) (by simp; rfl) (Kd.R_set HV6.out GX.out (by decide) 2 _) (by omega) (by omega) rfl (elem43 (Kd.R_set HV6.out GX.out (by decide) 2 _) kn HK.out.1 HY.out) (by decide) (k43_mkM _ _ _ ⟨-1, y1⟩) (fun _ h => h.elim) (below_set HB6.out (Nat.le_refl _)) ?_; intro w8 hR hb hg; rw [Int.toNat_natCast] at hR; have HV8 := Aside0.mk hR; have HB8 := Aside0.mk hb; have GX8 := Aside0.mk (blk_grown (blk_put GX.out 2 (.slice (some ⟨g6, 0, none⟩) l.length cap6) rfl) hg (Kd.R_ne HV6.out GX.out (by decide))); have X8 := Aside0.mk (blk_below X.out hb); have KB8 := Aside0.mk (KB.out.trans (hb.mono KB.out.size)); have qX0 : w8.cell? ⟨w.heap.size, 0, none⟩ = some (.int .i64 L) := (blk_cell X8.out 0).trans rfl; have qX1 : w8.cell? ⟨w.heap.size, 1, none⟩ = some (.int .i64 st) := (blk_cell X8.out 1).trans rfl; have qX2 : w8.cell? ⟨w.heap.size, 2, none⟩ = some (.slice A l.length c) := (blk_cell X8.out 2).trans rfl; clear hR hb hg x0 x1 x2)))
        clear KB X GX HV5 HB5 HV6 HB6
        have KB := KB8
        have X := X8
        have XB := GX8
        clear KB8 X8 GX8
        obtain ⟨ys, hys⟩ : ∃ ys, l.set kn ⟨-1, y1⟩ = ys := ⟨_, rfl⟩
        rw [hys] at HV8
        have HYL : Aside0 (ys.length = l.length) := ⟨by rw [← hys]; simp⟩
        have HSUB : Aside0 ((hists L st xs).Sublist (hists L st (ys.map up))) := ⟨by rw [← hys, ← HX.out, List.map_set]; exact hists_set L _ kn _ st (fun x hx l' r hm => known_level (y0 := y0) (y1 := y1) (by rw [List.getElem?_map, HY.out] at hx; exact (Option.some.inj hx).symm) hm)⟩
        clear hys
        have RY : Aside0 (Kd.C k43 w8 (some ⟨g6, 0, none⟩) ys.length ys ∧ ys.length ≤ cap6) := ⟨row43 HV8.out HYL.out⟩
        clear HV8 HB8
        have qXB0 : True := trivial
        have qXB1 : True := trivial
        have qXB2 : True := trivial
        have lX : True := trivial
        have lXB : True := trivial
        obtain ⟨mv, hmv⟩ : ∃ mv, manyI L st xs = mv := ⟨_, rfl⟩
        have HMV := Aside0.mk hmv
        clear hmv
        obtain ⟨pv, hpv⟩ : ∃ pv, possI L st xs = pv := ⟨_, rfl⟩
        have HPV := Aside0.mk hpv
        clear hpv
        obtain ⟨lv, hlv⟩ : ∃ lv, (l.any fun x => decide (x.f1 = 3)) = lv := ⟨_, rfl⟩
        have HLV := Aside0.mk hlv
        clear hlv
        refine (stairs_calls L st A c l _ (Kd.C_below HR.out KB.out) HC.out (by omega) xs HX.out).mono ?_
        rintro e w21 ⟨⟨A1, c1, rfl, HC1⟩, hb21⟩
        clear qX0 qX1 qX2 qXB0 qXB1 qXB2 lX lXB
        replace KB := Aside0.mk (KB.out.trans (hb21.mono KB.out.size))
        replace X := Aside0.mk (blk_below X.out hb21)
        replace XB := Aside0.mk (blk_below XB.out hb21)
        replace RY := Aside0.mk (C_pair43 RY.out hb21)
        clear hb21
        have qX0 : w21.cell? ⟨w.heap.size, 0, none⟩ = some (.int .i64 L) := (blk_cell X.out 0).trans rfl
        have qX1 : w21.cell? ⟨w.heap.size, 1, none⟩ = some (.int .i64 st) := (blk_cell X.out 1).trans rfl
        have qX2 : w21.cell? ⟨w.heap.size, 2, none⟩ = some (.slice A l.length c) := (blk_cell X.out 2).trans rfl
        have lX := blk_lt X.out
        have qXB0 : w21.cell? ⟨w2.heap.size, 0, none⟩ = some (.int .i64 L) := (blk_cell XB.out 0).trans rfl
        have qXB1 : w21.cell? ⟨w2.heap.size, 1, none⟩ = some (.int .i64 st) := (blk_cell XB.out 1).trans rfl
        have qXB2 : w21.cell? ⟨w2.heap.size, 2, none⟩ = some (.slice (some ⟨g6, 0, none⟩) l.length cap6) := (blk_cell XB.out 2).trans rfl
        have lXB := blk_lt XB.out
        go_wp2_with fail
        refine (count_calls L st A1 c1 xs _ HC1.out.1 HC1.out.2).mono ?_
        rintro e w22 ⟨rfl, hb22⟩
        clear qX0 qX1 qX2 qXB0 qXB1 qXB2 lX lXB
        replace KB := Aside0.mk (KB.out.trans (hb22.mono KB.out.size))
        replace X := Aside0.mk (blk_below X.out hb22)
        replace XB := Aside0.mk (blk_below XB.out hb22)
        replace RY := Aside0.mk (C_pair43 RY.out hb22)
        rw [HMV.out, HPV.out]
        clear hb22
        have qX0 : w22.cell? ⟨w.heap.size, 0, none⟩ = some (.int .i64 L) := (blk_cell X.out 0).trans rfl
        have qX1 : w22.cell? ⟨w.heap.size, 1, none⟩ = some (.int .i64 st) := (blk_cell X.out 1).trans rfl
        have qX2 : w22.cell? ⟨w.heap.size, 2, none⟩ = some (.slice A l.length c) := (blk_cell X.out 2).trans rfl
        have lX := blk_lt X.out
        have qXB0 : w22.cell? ⟨w2.heap.size, 0, none⟩ = some (.int .i64 L) := (blk_cell XB.out 0).trans rfl
        have qXB1 : w22.cell? ⟨w2.heap.size, 1, none⟩ = some (.int .i64 st) := (blk_cell XB.out 1).trans rfl
        have qXB2 : w22.cell? ⟨w2.heap.size, 2, none⟩ = some (.slice (some ⟨g6, 0, none⟩) l.length cap6) := (blk_cell XB.out 2).trans rfl
        have lXB := blk_lt XB.out
        go_wp2_with fail
        go_loop [14, 15] (fun lo i => ∃ jn : Nat, jn ≤ l.length ∧ i = .int .i64 jn ∧ lo = .bool ((l.take jn).any fun x => decide (x.f1 = 3))) (fun _ i => l.length - (intOf i).toNat)
        case atStart => exact ⟨0, by omega, rfl, rfl⟩
        case round =>
          obtain ⟨jn, hj, rfl, rfl⟩ := hrel
          by_cases hj3 : jn < l.length
          · have hj6 : decide ((jn : Int) < (l.length : Int)) = true := decide_eq_true (by omega)
            have hj7 : (jn : Int) < (l.length : Int) := by omega
            obtain ⟨ad, rfl, g0, g1⟩ := cell43 (Kd.C_below HR.out KB.out) jn hj3
            have HT := Aside0.mk (any_snoc l jn hj3)
            obtain ⟨y3, hy3⟩ : ∃ y3, l[jn].f1 = y3 := ⟨_, rfl⟩
            rw [hy3] at g1 HT
            clear hy3
            obtain ⟨pb, hpb⟩ : ∃ pb, ((l.take jn).any fun x => decide (x.f1 = 3)) = pb := ⟨_, rfl⟩
            rw [hpb] at HT ⊢
            clear hpb
            cases pb with
            | true =>
              go_wp2_with fail
              go_round
              case rel => exact ⟨jn + 1, by omega, by go_num, by rw [HT.out]; rfl⟩
              case measure => simp [intOf]; omega
            | false =>
              by_cases h3 : y3 = 3
              · have h3b : (y3 == 3) = true := beq_iff_eq.2 h3
                have H3 := Aside0.mk h3
                clear h3
                go_wp2_with fail
                go_round
                case rel => exact ⟨jn + 1, by omega, by go_num, by rw [HT.out, decide_eq_true H3.out]; rfl⟩
                case measure => simp [intOf]; omega
              · have h3b : (y3 == 3) = false := beq_eq_false_iff_ne.2 h3
                have H3 := Aside0.mk h3
                clear h3
                go_wp2_with fail
                go_round
                case rel => exact ⟨jn + 1, by omega, by go_num, by rw [HT.out, decide_eq_false H3.out]; rfl⟩
                case measure => simp [intOf]; omega
          · have hj6 : decide ((jn : Int) < (l.length : Int)) = false := decide_eq_false (by omega)
            have htk : l.take jn = l := List.take_of_length_le (by omega)
            rw [htk, HLV.out]
            clear htk
            have hyl := HYL.out
            have P09 := poss_09 (show checkI L st xs = 0 by rw [← HX.out]; exact HCK.out)
            rw [HPV.out] at P09
            by_cases hp : pv = 0
            · subst hp
              clear P09
              obtain ⟨rb2, hrb2⟩ : ∃ rb2, decide (checkI L st (ys.map up) = 0) = rb2 := ⟨_, rfl⟩
              have HRB2 := Aside0.mk hrb2
              clear hrb2
              have h3n : lv = false → ∀ z ∈ xs, z.f1 ≠ 3 := by
                intro e z hz h3
                rw [← HX.out] at hz
                obtain ⟨z0, hz0, rfl⟩ := List.mem_map.1 hz
                have h4 : (l.any fun x => decide (x.f1 = 3)) = true := List.any_eq_true.2 ⟨z0, hz0, decide_eq_true (show z0.f1 = 3 from h3)⟩
                rw [HLV.out] at h4
                rw [h4] at e
                cases e
              have HONE : Aside0 (lv = false → mv = 1) := ⟨fun e => by rw [← HMV.out]; exact (one_law (L := L) (st := st) (xs := xs) (h3n e)).2 HPV.out⟩
              clear h3n
              go_wp2_with fail
              refine (ready_n L st (some ⟨g6, 0, none⟩) cap6 ys _ RY.out.1 RY.out.2 (by omega) rb2 HRB2.out _ HYL.out).mono ?_
              rintro e w23 ⟨rfl, hb23⟩
              clear qX0 qX1 qX2 qXB0 qXB1 qXB2 lX lXB
              replace KB := Aside0.mk (KB.out.trans (hb23.mono KB.out.size))
              replace X := Aside0.mk (blk_below X.out hb23)
              replace XB := Aside0.mk (blk_below XB.out hb23)
              replace RY := Aside0.mk (C_pair43 RY.out hb23)
              clear hb23
              have qX0 : w23.cell? ⟨w.heap.size, 0, none⟩ = some (.int .i64 L) := (blk_cell X.out 0).trans rfl
              have qX1 : w23.cell? ⟨w.heap.size, 1, none⟩ = some (.int .i64 st) := (blk_cell X.out 1).trans rfl
              have qX2 : w23.cell? ⟨w.heap.size, 2, none⟩ = some (.slice A l.length c) := (blk_cell X.out 2).trans rfl
              have lX := blk_lt X.out
              have qXB0 : w23.cell? ⟨w2.heap.size, 0, none⟩ = some (.int .i64 L) := (blk_cell XB.out 0).trans rfl
              have qXB1 : w23.cell? ⟨w2.heap.size, 1, none⟩ = some (.int .i64 st) := (blk_cell XB.out 1).trans rfl
              have qXB2 : w23.cell? ⟨w2.heap.size, 2, none⟩ = some (.slice (some ⟨g6, 0, none⟩) l.length cap6) := (blk_cell XB.out 2).trans rfl
              have lXB := blk_lt XB.out
              cases rb2 with
              | false =>
                cases lv with
                | false =>
                  obtain rfl := HONE.out rfl
                  go_wp2_with fail
                  refine (awake_calls _).mono ?_
                  rintro e w24 ⟨rfl, hb24⟩
                  clear qX0 qX1 qX2 qXB0 qXB1 qXB2 lX lXB
                  replace KB := Aside0.mk (KB.out.trans (hb24.mono KB.out.size))
                  replace X := Aside0.mk (blk_below X.out hb24)
                  replace XB := Aside0.mk (blk_below XB.out hb24)
                  replace RY := Aside0.mk (C_pair43 RY.out hb24)
                  clear hb24
                  have qX0 : w24.cell? ⟨w.heap.size, 0, none⟩ = some (.int .i64 L) := (blk_cell X.out 0).trans rfl
                  have qX1 : w24.cell? ⟨w.heap.size, 1, none⟩ = some (.int .i64 st) := (blk_cell X.out 1).trans rfl
                  have qX2 : w24.cell? ⟨w.heap.size, 2, none⟩ = some (.slice A l.length c) := (blk_cell X.out 2).trans rfl
                  have lX := blk_lt X.out
                  have qXB0 : w24.cell? ⟨w2.heap.size, 0, none⟩ = some (.int .i64 L) := (blk_cell XB.out 0).trans rfl
                  have qXB1 : w24.cell? ⟨w2.heap.size, 1, none⟩ = some (.int .i64 st) := (blk_cell XB.out 1).trans rfl
                  have qXB2 : w24.cell? ⟨w2.heap.size, 2, none⟩ = some (.slice (some ⟨g6, 0, none⟩) l.length cap6) := (blk_cell XB.out 2).trans rfl
                  have lXB := blk_lt XB.out
                  go_wp2_with fail
                  go_ret
                  exact ⟨rfl, KB.out⟩
                | true =>
                  go_wp2_with fail
                  refine (awake_calls _).mono ?_
                  rintro e w25 ⟨rfl, hb25⟩
                  clear qX0 qX1 qX2 qXB0 qXB1 qXB2 lX lXB
                  replace KB := Aside0.mk (KB.out.trans (hb25.mono KB.out.size))
                  replace X := Aside0.mk (blk_below X.out hb25)
                  replace XB := Aside0.mk (blk_below XB.out hb25)
                  replace RY := Aside0.mk (C_pair43 RY.out hb25)
                  clear hb25
                  have qX0 : w25.cell? ⟨w.heap.size, 0, none⟩ = some (.int .i64 L) := (blk_cell X.out 0).trans rfl
                  have qX1 : w25.cell? ⟨w.heap.size, 1, none⟩ = some (.int .i64 st) := (blk_cell X.out 1).trans rfl
                  have qX2 : w25.cell? ⟨w.heap.size, 2, none⟩ = some (.slice A l.length c) := (blk_cell X.out 2).trans rfl
                  have lX := blk_lt X.out
                  have qXB0 : w25.cell? ⟨w2.heap.size, 0, none⟩ = some (.int .i64 L) := (blk_cell XB.out 0).trans rfl
                  have qXB1 : w25.cell? ⟨w2.heap.size, 1, none⟩ = some (.int .i64 st) := (blk_cell XB.out 1).trans rfl
                  have qXB2 : w25.cell? ⟨w2.heap.size, 2, none⟩ = some (.slice (some ⟨g6, 0, none⟩) l.length cap6) := (blk_cell XB.out 2).trans rfl
                  have lXB := blk_lt XB.out
                  go_wp2_with fail
                  go_ret
                  exact ⟨rfl, KB.out⟩
              | true =>
                have HCK2 : Aside0 (checkI L st (ys.map up) = 0) := ⟨of_decide_eq_true HRB2.out⟩
                obtain ⟨zs, hzs⟩ : ∃ zs, ys.map up = zs := ⟨_, rfl⟩
                have HZ := Aside0.mk hzs
                clear hzs
                have ML := more_law (L := L) (st := st) (xs := xs) (ys := zs) (by rw [← HZ.out]; exact HSUB.out) (by rw [← HX.out, ← HZ.out]; simp [hyl]) HPV.out (by rw [← HZ.out]; exact HCK2.out)
                obtain ⟨m1, m2, m3, m4⟩ := ML
                have HPZ := Aside0.mk m1
                have m3 := m3 (nn : Int) (by omega) (by have := HK.out.2; rw [← HX.out]; simp; omega)
                have HA1 : Aside0 (askE L st xs nn = 0) := ⟨ask_0 HPV.out (by omega) (by have := HK.out.2; rw [← HX.out]; simp; omega)⟩
                have HA2 : Aside0 (askE L st zs nn = 0) := ⟨ask_0 HPZ.out (by omega) (by have := HK.out.2; rw [← HZ.out]; simp [hyl]; omega)⟩
                clear m1
                rw [HMV.out] at m2
                obtain ⟨mz, hmz⟩ : ∃ mz, manyI L st zs = mz := ⟨_, rfl⟩
                have HMZ := Aside0.mk hmz
                clear hmz
                rw [HMZ.out] at m2
                obtain ⟨e1, he1⟩ : ∃ e1, (rankR L st xs nn).1 = e1 := ⟨_, rfl⟩
                have HE1 := Aside0.mk he1
                clear he1
                rw [HE1.out] at m3
                obtain ⟨e2, he2⟩ : ∃ e2, (rankR L st xs nn).2 = e2 := ⟨_, rfl⟩
                have HE2 := Aside0.mk he2
                clear he2
                rw [HE2.out] at m3
                obtain ⟨d1, hd1⟩ : ∃ d1, (rankR L st zs nn).1 = d1 := ⟨_, rfl⟩
                have HD1 := Aside0.mk hd1
                clear hd1
                rw [HD1.out] at m3
                obtain ⟨d2, hd2⟩ : ∃ d2, (rankR L st zs nn).2 = d2 := ⟨_, rfl⟩
                have HD2 := Aside0.mk hd2
                clear hd2
                rw [HD2.out] at m3
                obtain ⟨i1, hi1⟩ : ∃ i1, midE L st xs = i1 := ⟨_, rfl⟩
                have HI1 := Aside0.mk hi1
                clear hi1
                rw [HI1.out] at m4
                obtain ⟨i2, hi2⟩ : ∃ i2, midE L st zs = i2 := ⟨_, rfl⟩
                have HI2 := Aside0.mk hi2
                clear hi2
                rw [HI2.out] at m4
                obtain ⟨o1, ho1⟩ : ∃ o1, (midR L st xs).1 = o1 := ⟨_, rfl⟩
                have HO1 := Aside0.mk ho1
                clear ho1
                rw [HO1.out] at m4
                obtain ⟨o2, ho2⟩ : ∃ o2, (midR L st xs).2 = o2 := ⟨_, rfl⟩
                have HO2 := Aside0.mk ho2
                clear ho2
                rw [HO2.out] at m4
                obtain ⟨p1, hp1⟩ : ∃ p1, (midR L st zs).1 = p1 := ⟨_, rfl⟩
                have HP1 := Aside0.mk hp1
                clear hp1
                rw [HP1.out] at m4
                obtain ⟨p2, hp2⟩ : ∃ p2, (midR L st zs).2 = p2 := ⟨_, rfl⟩
                have HP2 := Aside0.mk hp2
                clear hp2
                rw [HP2.out] at m4
                have M2 := Aside0.mk m2
                have M3 := Aside0.mk m3
                have M4 := Aside0.mk m4
                clear m2 m3 m4
                go_wp2_with fail
                refine (stairs_n L st (some ⟨g6, 0, none⟩) cap6 ys _ RY.out.1 RY.out.2 (by omega) zs HZ.out _ HYL.out).mono ?_
                rintro e w26 ⟨⟨A2, c2, rfl, HC2⟩, hb26⟩
                clear qX0 qX1 qX2 qXB0 qXB1 qXB2 lX lXB
                replace KB := Aside0.mk (KB.out.trans (hb26.mono KB.out.size))
                replace X := Aside0.mk (blk_below X.out hb26)
                replace XB := Aside0.mk (blk_below XB.out hb26)
                replace RY := Aside0.mk (C_pair43 RY.out hb26)
                clear hb26
                have qX0 : w26.cell? ⟨w.heap.size, 0, none⟩ = some (.int .i64 L) := (blk_cell X.out 0).trans rfl
                have qX1 : w26.cell? ⟨w.heap.size, 1, none⟩ = some (.int .i64 st) := (blk_cell X.out 1).trans rfl
                have qX2 : w26.cell? ⟨w.heap.size, 2, none⟩ = some (.slice A l.length c) := (blk_cell X.out 2).trans rfl
                have lX := blk_lt X.out
                have qXB0 : w26.cell? ⟨w2.heap.size, 0, none⟩ = some (.int .i64 L) := (blk_cell XB.out 0).trans rfl
                have qXB1 : w26.cell? ⟨w2.heap.size, 1, none⟩ = some (.int .i64 st) := (blk_cell XB.out 1).trans rfl
                have qXB2 : w26.cell? ⟨w2.heap.size, 2, none⟩ = some (.slice (some ⟨g6, 0, none⟩) l.length cap6) := (blk_cell XB.out 2).trans rfl
                have lXB := blk_lt XB.out
                go_wp2_with fail
                refine (count_calls L st A2 c2 zs _ HC2.out.1 HC2.out.2).mono ?_
                rintro e w27 ⟨rfl, hb27⟩
                clear qX0 qX1 qX2 qXB0 qXB1 qXB2 lX lXB
                replace KB := Aside0.mk (KB.out.trans (hb27.mono KB.out.size))
                replace X := Aside0.mk (blk_below X.out hb27)
                replace XB := Aside0.mk (blk_below XB.out hb27)
                replace RY := Aside0.mk (C_pair43 RY.out hb27)
                rw [HMZ.out, HPZ.out]
                clear hb27
                have qX0 : w27.cell? ⟨w.heap.size, 0, none⟩ = some (.int .i64 L) := (blk_cell X.out 0).trans rfl
                have qX1 : w27.cell? ⟨w.heap.size, 1, none⟩ = some (.int .i64 st) := (blk_cell X.out 1).trans rfl
                have qX2 : w27.cell? ⟨w.heap.size, 2, none⟩ = some (.slice A l.length c) := (blk_cell X.out 2).trans rfl
                have lX := blk_lt X.out
                have qXB0 : w27.cell? ⟨w2.heap.size, 0, none⟩ = some (.int .i64 L) := (blk_cell XB.out 0).trans rfl
                have qXB1 : w27.cell? ⟨w2.heap.size, 1, none⟩ = some (.int .i64 st) := (blk_cell XB.out 1).trans rfl
                have qXB2 : w27.cell? ⟨w2.heap.size, 2, none⟩ = some (.slice (some ⟨g6, 0, none⟩) l.length cap6) := (blk_cell XB.out 2).trans rfl
                have lXB := blk_lt XB.out
                go_wp2_with fail
                refine (stairs_calls L st A c l _ (Kd.C_below HR.out KB.out) HC.out (by omega) xs HX.out).mono ?_
                rintro e w28 ⟨⟨A3, c3, rfl, HC3⟩, hb28⟩
                clear qX0 qX1 qX2 qXB0 qXB1 qXB2 lX lXB
                replace KB := Aside0.mk (KB.out.trans (hb28.mono KB.out.size))
                replace X := Aside0.mk (blk_below X.out hb28)
                replace XB := Aside0.mk (blk_below XB.out hb28)
                replace RY := Aside0.mk (C_pair43 RY.out hb28)
                clear hb28
                have qX0 : w28.cell? ⟨w.heap.size, 0, none⟩ = some (.int .i64 L) := (blk_cell X.out 0).trans rfl
                have qX1 : w28.cell? ⟨w.heap.size, 1, none⟩ = some (.int .i64 st) := (blk_cell X.out 1).trans rfl
                have qX2 : w28.cell? ⟨w.heap.size, 2, none⟩ = some (.slice A l.length c) := (blk_cell X.out 2).trans rfl
                have lX := blk_lt X.out
                have qXB0 : w28.cell? ⟨w2.heap.size, 0, none⟩ = some (.int .i64 L) := (blk_cell XB.out 0).trans rfl
                have qXB1 : w28.cell? ⟨w2.heap.size, 1, none⟩ = some (.int .i64 st) := (blk_cell XB.out 1).trans rfl
                have qXB2 : w28.cell? ⟨w2.heap.size, 2, none⟩ = some (.slice (some ⟨g6, 0, none⟩) l.length cap6) := (blk_cell XB.out 2).trans rfl
                have lXB := blk_lt XB.out
                go_wp2_with fail
                refine (rank_calls L st A3 c3 xs (nn : Int) _ HC3.out.1 HC3.out.2).mono ?_
                rintro e w29 ⟨rfl, hb29⟩
                clear qX0 qX1 qX2 qXB0 qXB1 qXB2 lX lXB
                replace KB := Aside0.mk (KB.out.trans (hb29.mono KB.out.size))
                replace X := Aside0.mk (blk_below X.out hb29)
                replace XB := Aside0.mk (blk_below XB.out hb29)
                replace RY := Aside0.mk (C_pair43 RY.out hb29)
                rw [HE1.out, HE2.out, HA1.out]
                clear hb29
                have qX0 : w29.cell? ⟨w.heap.size, 0, none⟩ = some (.int .i64 L) := (blk_cell X.out 0).trans rfl
                have qX1 : w29.cell? ⟨w.heap.size, 1, none⟩ = some (.int .i64 st) := (blk_cell X.out 1).trans rfl
                have qX2 : w29.cell? ⟨w.heap.size, 2, none⟩ = some (.slice A l.length c) := (blk_cell X.out 2).trans rfl
                have lX := blk_lt X.out
                have qXB0 : w29.cell? ⟨w2.heap.size, 0, none⟩ = some (.int .i64 L) := (blk_cell XB.out 0).trans rfl
                have qXB1 : w29.cell? ⟨w2.heap.size, 1, none⟩ = some (.int .i64 st) := (blk_cell XB.out 1).trans rfl
                have qXB2 : w29.cell? ⟨w2.heap.size, 2, none⟩ = some (.slice (some ⟨g6, 0, none⟩) l.length cap6) := (blk_cell XB.out 2).trans rfl
                have lXB := blk_lt XB.out
                go_wp2_with fail
                clear qX0 qX1 qX2 qXB0 qXB1 qXB2 lX lXB
                have BE := Aside0.mk (blk_new w29 (.cells #[.int .i64 e1, .int .i64 e2] 28))
                have hb30 : Below w29.heap.size w29 (w29.alloc (.cells #[.int .i64 e1, .int .i64 e2] 28)) := (Below.refl _ _).alloc (Nat.le_refl _) _
                replace KB := Aside0.mk (KB.out.trans (hb30.mono KB.out.size))
                replace X := Aside0.mk (blk_below X.out hb30)
                replace XB := Aside0.mk (blk_below XB.out hb30)
                replace RY := Aside0.mk (C_pair43 RY.out hb30)
                clear hb30
                obtain ⟨gBE, hgBE⟩ : ∃ g, w29.heap.size = g := ⟨_, rfl⟩
                rw [hgBE] at BE ⊢
                clear hgBE
                generalize w29.alloc (.cells #[.int .i64 e1, .int .i64 e2] 28) = w30 at BE KB X XB RY ⊢
                have qX0 : w30.cell? ⟨w.heap.size, 0, none⟩ = some (.int .i64 L) := (blk_cell X.out 0).trans rfl
                have qX1 : w30.cell? ⟨w.heap.size, 1, none⟩ = some (.int .i64 st) := (blk_cell X.out 1).trans rfl
                have qX2 : w30.cell? ⟨w.heap.size, 2, none⟩ = some (.slice A l.length c) := (blk_cell X.out 2).trans rfl
                have lX := blk_lt X.out
                have qXB0 : w30.cell? ⟨w2.heap.size, 0, none⟩ = some (.int .i64 L) := (blk_cell XB.out 0).trans rfl
                have qXB1 : w30.cell? ⟨w2.heap.size, 1, none⟩ = some (.int .i64 st) := (blk_cell XB.out 1).trans rfl
                have qXB2 : w30.cell? ⟨w2.heap.size, 2, none⟩ = some (.slice (some ⟨g6, 0, none⟩) l.length cap6) := (blk_cell XB.out 2).trans rfl
                have lXB := blk_lt XB.out
                have qBE0 : w30.cell? ⟨gBE, 0, none⟩ = some (.int .i64 e1) := (blk_cell BE.out 0).trans rfl
                have qBE1 : w30.cell? ⟨gBE, 1, none⟩ = some (.int .i64 e2) := (blk_cell BE.out 1).trans rfl
                have lBE := blk_lt BE.out
                refine (stairs_n L st (some ⟨g6, 0, none⟩) cap6 ys _ RY.out.1 RY.out.2 (by omega) zs HZ.out _ HYL.out).mono ?_
                rintro e w31 ⟨⟨A4, c4, rfl, HC4⟩, hb31⟩
                clear qX0 qX1 qX2 qXB0 qXB1 qXB2 qBE0 qBE1 lX lXB lBE
                replace KB := Aside0.mk (KB.out.trans (hb31.mono KB.out.size))
                replace X := Aside0.mk (blk_below X.out hb31)
                replace XB := Aside0.mk (blk_below XB.out hb31)
                replace RY := Aside0.mk (C_pair43 RY.out hb31)
                replace BE := Aside0.mk (blk_below BE.out hb31)
                clear hb31
                have qX0 : w31.cell? ⟨w.heap.size, 0, none⟩ = some (.int .i64 L) := (blk_cell X.out 0).trans rfl
                have qX1 : w31.cell? ⟨w.heap.size, 1, none⟩ = some (.int .i64 st) := (blk_cell X.out 1).trans rfl
                have qX2 : w31.cell? ⟨w.heap.size, 2, none⟩ = some (.slice A l.length c) := (blk_cell X.out 2).trans rfl
                have lX := blk_lt X.out
                have qXB0 : w31.cell? ⟨w2.heap.size, 0, none⟩ = some (.int .i64 L) := (blk_cell XB.out 0).trans rfl
                have qXB1 : w31.cell? ⟨w2.heap.size, 1, none⟩ = some (.int .i64 st) := (blk_cell XB.out 1).trans rfl
                have qXB2 : w31.cell? ⟨w2.heap.size, 2, none⟩ = some (.slice (some ⟨g6, 0, none⟩) l.length cap6) := (blk_cell XB.out 2).trans rfl
                have lXB := blk_lt XB.out
                have qBE0 : w31.cell? ⟨gBE, 0, none⟩ = some (.int .i64 e1) := (blk_cell BE.out 0).trans rfl
                have qBE1 : w31.cell? ⟨gBE, 1, none⟩ = some (.int .i64 e2) := (blk_cell BE.out 1).trans rfl
                have lBE := blk_lt BE.out
                go_wp2_with fail
                refine (rank_calls L st A4 c4 zs (nn : Int) _ HC4.out.1 HC4.out.2).mono ?_
                rintro e w32 ⟨rfl, hb32⟩
                clear qX0 qX1 qX2 qXB0 qXB1 qXB2 qBE0 qBE1 lX lXB lBE
                replace KB := Aside0.mk (KB.out.trans (hb32.mono KB.out.size))
                replace X := Aside0.mk (blk_below X.out hb32)
                replace XB := Aside0.mk (blk_below XB.out hb32)
                replace RY := Aside0.mk (C_pair43 RY.out hb32)
                replace BE := Aside0.mk (blk_below BE.out hb32)
                rw [HD1.out, HD2.out, HA2.out]
                clear hb32
                have qX0 : w32.cell? ⟨w.heap.size, 0, none⟩ = some (.int .i64 L) := (blk_cell X.out 0).trans rfl
                have qX1 : w32.cell? ⟨w.heap.size, 1, none⟩ = some (.int .i64 st) := (blk_cell X.out 1).trans rfl
                have qX2 : w32.cell? ⟨w.heap.size, 2, none⟩ = some (.slice A l.length c) := (blk_cell X.out 2).trans rfl
                have lX := blk_lt X.out
                have qXB0 : w32.cell? ⟨w2.heap.size, 0, none⟩ = some (.int .i64 L) := (blk_cell XB.out 0).trans rfl
                have qXB1 : w32.cell? ⟨w2.heap.size, 1, none⟩ = some (.int .i64 st) := (blk_cell XB.out 1).trans rfl
                have qXB2 : w32.cell? ⟨w2.heap.size, 2, none⟩ = some (.slice (some ⟨g6, 0, none⟩) l.length cap6) := (blk_cell XB.out 2).trans rfl
                have lXB := blk_lt XB.out
                have qBE0 : w32.cell? ⟨gBE, 0, none⟩ = some (.int .i64 e1) := (blk_cell BE.out 0).trans rfl
                have qBE1 : w32.cell? ⟨gBE, 1, none⟩ = some (.int .i64 e2) := (blk_cell BE.out 1).trans rfl
                have lBE := blk_lt BE.out
                go_wp2_with fail
                clear qX0 qX1 qX2 qXB0 qXB1 qXB2 qBE0 qBE1 lX lXB lBE
                have BD := Aside0.mk (blk_new w32 (.cells #[.int .i64 d1, .int .i64 d2] 28))
                have hb33 : Below w32.heap.size w32 (w32.alloc (.cells #[.int .i64 d1, .int .i64 d2] 28)) := (Below.refl _ _).alloc (Nat.le_refl _) _
                replace KB := Aside0.mk (KB.out.trans (hb33.mono KB.out.size))
                replace X := Aside0.mk (blk_below X.out hb33)
                replace XB := Aside0.mk (blk_below XB.out hb33)
                replace RY := Aside0.mk (C_pair43 RY.out hb33)
                replace BE := Aside0.mk (blk_below BE.out hb33)
                clear hb33
                obtain ⟨gBD, hgBD⟩ : ∃ g, w32.heap.size = g := ⟨_, rfl⟩
                rw [hgBD] at BD ⊢
                clear hgBD
                generalize w32.alloc (.cells #[.int .i64 d1, .int .i64 d2] 28) = w33 at BD KB X XB RY BE ⊢
                have qX0 : w33.cell? ⟨w.heap.size, 0, none⟩ = some (.int .i64 L) := (blk_cell X.out 0).trans rfl
                have qX1 : w33.cell? ⟨w.heap.size, 1, none⟩ = some (.int .i64 st) := (blk_cell X.out 1).trans rfl
                have qX2 : w33.cell? ⟨w.heap.size, 2, none⟩ = some (.slice A l.length c) := (blk_cell X.out 2).trans rfl
                have lX := blk_lt X.out
                have qXB0 : w33.cell? ⟨w2.heap.size, 0, none⟩ = some (.int .i64 L) := (blk_cell XB.out 0).trans rfl
                have qXB1 : w33.cell? ⟨w2.heap.size, 1, none⟩ = some (.int .i64 st) := (blk_cell XB.out 1).trans rfl
                have qXB2 : w33.cell? ⟨w2.heap.size, 2, none⟩ = some (.slice (some ⟨g6, 0, none⟩) l.length cap6) := (blk_cell XB.out 2).trans rfl
                have lXB := blk_lt XB.out
                have qBE0 : w33.cell? ⟨gBE, 0, none⟩ = some (.int .i64 e1) := (blk_cell BE.out 0).trans rfl
                have qBE1 : w33.cell? ⟨gBE, 1, none⟩ = some (.int .i64 e2) := (blk_cell BE.out 1).trans rfl
                have lBE := blk_lt BE.out
                have qBD0 : w33.cell? ⟨gBD, 0, none⟩ = some (.int .i64 d1) := (blk_cell BD.out 0).trans rfl
                have qBD1 : w33.cell? ⟨gBD, 1, none⟩ = some (.int .i64 d2) := (blk_cell BD.out 1).trans rfl
                have lBD := blk_lt BD.out
                refine (stairs_calls L st A c l _ (Kd.C_below HR.out KB.out) HC.out (by omega) xs HX.out).mono ?_
                rintro e w34 ⟨⟨A5, c5, rfl, HC5⟩, hb34⟩
                clear qX0 qX1 qX2 qXB0 qXB1 qXB2 qBE0 qBE1 qBD0 qBD1 lX lXB lBE lBD
                replace KB := Aside0.mk (KB.out.trans (hb34.mono KB.out.size))
                replace X := Aside0.mk (blk_below X.out hb34)
                replace XB := Aside0.mk (blk_below XB.out hb34)
                replace RY := Aside0.mk (C_pair43 RY.out hb34)
                replace BE := Aside0.mk (blk_below BE.out hb34)
                replace BD := Aside0.mk (blk_below BD.out hb34)
                clear hb34
                have qX0 : w34.cell? ⟨w.heap.size, 0, none⟩ = some (.int .i64 L) := (blk_cell X.out 0).trans rfl
                have qX1 : w34.cell? ⟨w.heap.size, 1, none⟩ = some (.int .i64 st) := (blk_cell X.out 1).trans rfl
                have qX2 : w34.cell? ⟨w.heap.size, 2, none⟩ = some (.slice A l.length c) := (blk_cell X.out 2).trans rfl
                have lX := blk_lt X.out
                have qXB0 : w34.cell? ⟨w2.heap.size, 0, none⟩ = some (.int .i64 L) := (blk_cell XB.out 0).trans rfl
                have qXB1 : w34.cell? ⟨w2.heap.size, 1, none⟩ = some (.int .i64 st) := (blk_cell XB.out 1).trans rfl
                have qXB2 : w34.cell? ⟨w2.heap.size, 2, none⟩ = some (.slice (some ⟨g6, 0, none⟩) l.length cap6) := (blk_cell XB.out 2).trans rfl
                have lXB := blk_lt XB.out
                have qBE0 : w34.cell? ⟨gBE, 0, none⟩ = some (.int .i64 e1) := (blk_cell BE.out 0).trans rfl
                have qBE1 : w34.cell? ⟨gBE, 1, none⟩ = some (.int .i64 e2) := (blk_cell BE.out 1).trans rfl
                have lBE := blk_lt BE.out
                have qBD0 : w34.cell? ⟨gBD, 0, none⟩ = some (.int .i64 d1) := (blk_cell BD.out 0).trans rfl
                have qBD1 : w34.cell? ⟨gBD, 1, none⟩ = some (.int .i64 d2) := (blk_cell BD.out 1).trans rfl
                have lBD := blk_lt BD.out
                go_wp2_with fail
                refine (middle_calls L st A5 c5 xs _ HC5.out.1 HC5.out.2).mono ?_
                rintro e w35 ⟨rfl, hb35⟩
                clear qX0 qX1 qX2 qXB0 qXB1 qXB2 qBE0 qBE1 qBD0 qBD1 lX lXB lBE lBD
                replace KB := Aside0.mk (KB.out.trans (hb35.mono KB.out.size))
                replace X := Aside0.mk (blk_below X.out hb35)
                replace XB := Aside0.mk (blk_below XB.out hb35)
                replace RY := Aside0.mk (C_pair43 RY.out hb35)
                replace BE := Aside0.mk (blk_below BE.out hb35)
                replace BD := Aside0.mk (blk_below BD.out hb35)
                rw [HO1.out, HO2.out, HI1.out]
                clear hb35
                have qX0 : w35.cell? ⟨w.heap.size, 0, none⟩ = some (.int .i64 L) := (blk_cell X.out 0).trans rfl
                have qX1 : w35.cell? ⟨w.heap.size, 1, none⟩ = some (.int .i64 st) := (blk_cell X.out 1).trans rfl
                have qX2 : w35.cell? ⟨w.heap.size, 2, none⟩ = some (.slice A l.length c) := (blk_cell X.out 2).trans rfl
                have lX := blk_lt X.out
                have qXB0 : w35.cell? ⟨w2.heap.size, 0, none⟩ = some (.int .i64 L) := (blk_cell XB.out 0).trans rfl
                have qXB1 : w35.cell? ⟨w2.heap.size, 1, none⟩ = some (.int .i64 st) := (blk_cell XB.out 1).trans rfl
                have qXB2 : w35.cell? ⟨w2.heap.size, 2, none⟩ = some (.slice (some ⟨g6, 0, none⟩) l.length cap6) := (blk_cell XB.out 2).trans rfl
                have lXB := blk_lt XB.out
                have qBE0 : w35.cell? ⟨gBE, 0, none⟩ = some (.int .i64 e1) := (blk_cell BE.out 0).trans rfl
                have qBE1 : w35.cell? ⟨gBE, 1, none⟩ = some (.int .i64 e2) := (blk_cell BE.out 1).trans rfl
                have lBE := blk_lt BE.out
                have qBD0 : w35.cell? ⟨gBD, 0, none⟩ = some (.int .i64 d1) := (blk_cell BD.out 0).trans rfl
                have qBD1 : w35.cell? ⟨gBD, 1, none⟩ = some (.int .i64 d2) := (blk_cell BD.out 1).trans rfl
                have lBD := blk_lt BD.out
                go_wp2_with fail
                clear qX0 qX1 qX2 qXB0 qXB1 qXB2 qBE0 qBE1 qBD0 qBD1 lX lXB lBE lBD
                have BO := Aside0.mk (blk_new w35 (.cells #[.int .i64 o1, .int .i64 o2] 28))
                have hb36 : Below w35.heap.size w35 (w35.alloc (.cells #[.int .i64 o1, .int .i64 o2] 28)) := (Below.refl _ _).alloc (Nat.le_refl _) _
                replace KB := Aside0.mk (KB.out.trans (hb36.mono KB.out.size))
                replace X := Aside0.mk (blk_below X.out hb36)
                replace XB := Aside0.mk (blk_below XB.out hb36)
                replace RY := Aside0.mk (C_pair43 RY.out hb36)
                replace BE := Aside0.mk (blk_below BE.out hb36)
                replace BD := Aside0.mk (blk_below BD.out hb36)
                clear hb36
                obtain ⟨gBO, hgBO⟩ : ∃ g, w35.heap.size = g := ⟨_, rfl⟩
                rw [hgBO] at BO ⊢
                clear hgBO
                generalize w35.alloc (.cells #[.int .i64 o1, .int .i64 o2] 28) = w36 at BO KB X XB RY BE BD ⊢
                have qX0 : w36.cell? ⟨w.heap.size, 0, none⟩ = some (.int .i64 L) := (blk_cell X.out 0).trans rfl
                have qX1 : w36.cell? ⟨w.heap.size, 1, none⟩ = some (.int .i64 st) := (blk_cell X.out 1).trans rfl
                have qX2 : w36.cell? ⟨w.heap.size, 2, none⟩ = some (.slice A l.length c) := (blk_cell X.out 2).trans rfl
                have lX := blk_lt X.out
                have qXB0 : w36.cell? ⟨w2.heap.size, 0, none⟩ = some (.int .i64 L) := (blk_cell XB.out 0).trans rfl
                have qXB1 : w36.cell? ⟨w2.heap.size, 1, none⟩ = some (.int .i64 st) := (blk_cell XB.out 1).trans rfl
                have qXB2 : w36.cell? ⟨w2.heap.size, 2, none⟩ = some (.slice (some ⟨g6, 0, none⟩) l.length cap6) := (blk_cell XB.out 2).trans rfl
                have lXB := blk_lt XB.out
                have qBE0 : w36.cell? ⟨gBE, 0, none⟩ = some (.int .i64 e1) := (blk_cell BE.out 0).trans rfl
                have qBE1 : w36.cell? ⟨gBE, 1, none⟩ = some (.int .i64 e2) := (blk_cell BE.out 1).trans rfl
                have lBE := blk_lt BE.out
                have qBD0 : w36.cell? ⟨gBD, 0, none⟩ = some (.int .i64 d1) := (blk_cell BD.out 0).trans rfl
                have qBD1 : w36.cell? ⟨gBD, 1, none⟩ = some (.int .i64 d2) := (blk_cell BD.out 1).trans rfl
                have lBD := blk_lt BD.out
                have qBO0 : w36.cell? ⟨gBO, 0, none⟩ = some (.int .i64 o1) := (blk_cell BO.out 0).trans rfl
                have qBO1 : w36.cell? ⟨gBO, 1, none⟩ = some (.int .i64 o2) := (blk_cell BO.out 1).trans rfl
                have lBO := blk_lt BO.out
                refine (stairs_n L st (some ⟨g6, 0, none⟩) cap6 ys _ RY.out.1 RY.out.2 (by omega) zs HZ.out _ HYL.out).mono ?_
                rintro e w37 ⟨⟨A6, c6, rfl, HC6⟩, hb37⟩
                clear qX0 qX1 qX2 qXB0 qXB1 qXB2 qBE0 qBE1 qBD0 qBD1 qBO0 qBO1 lX lXB lBE lBD lBO
                replace KB := Aside0.mk (KB.out.trans (hb37.mono KB.out.size))
                replace X := Aside0.mk (blk_below X.out hb37)
                replace XB := Aside0.mk (blk_below XB.out hb37)
                replace RY := Aside0.mk (C_pair43 RY.out hb37)
                replace BE := Aside0.mk (blk_below BE.out hb37)
                replace BD := Aside0.mk (blk_below BD.out hb37)
                replace BO := Aside0.mk (blk_below BO.out hb37)
                clear hb37
                have qX0 : w37.cell? ⟨w.heap.size, 0, none⟩ = some (.int .i64 L) := (blk_cell X.out 0).trans rfl
                have qX1 : w37.cell? ⟨w.heap.size, 1, none⟩ = some (.int .i64 st) := (blk_cell X.out 1).trans rfl
                have qX2 : w37.cell? ⟨w.heap.size, 2, none⟩ = some (.slice A l.length c) := (blk_cell X.out 2).trans rfl
                have lX := blk_lt X.out
                have qXB0 : w37.cell? ⟨w2.heap.size, 0, none⟩ = some (.int .i64 L) := (blk_cell XB.out 0).trans rfl
                have qXB1 : w37.cell? ⟨w2.heap.size, 1, none⟩ = some (.int .i64 st) := (blk_cell XB.out 1).trans rfl
                have qXB2 : w37.cell? ⟨w2.heap.size, 2, none⟩ = some (.slice (some ⟨g6, 0, none⟩) l.length cap6) := (blk_cell XB.out 2).trans rfl
                have lXB := blk_lt XB.out
                have qBE0 : w37.cell? ⟨gBE, 0, none⟩ = some (.int .i64 e1) := (blk_cell BE.out 0).trans rfl
                have qBE1 : w37.cell? ⟨gBE, 1, none⟩ = some (.int .i64 e2) := (blk_cell BE.out 1).trans rfl
                have lBE := blk_lt BE.out
                have qBD0 : w37.cell? ⟨gBD, 0, none⟩ = some (.int .i64 d1) := (blk_cell BD.out 0).trans rfl
                have qBD1 : w37.cell? ⟨gBD, 1, none⟩ = some (.int .i64 d2) := (blk_cell BD.out 1).trans rfl
                have lBD := blk_lt BD.out
                have qBO0 : w37.cell? ⟨gBO, 0, none⟩ = some (.int .i64 o1) := (blk_cell BO.out 0).trans rfl
                have qBO1 : w37.cell? ⟨gBO, 1, none⟩ = some (.int .i64 o2) := (blk_cell BO.out 1).trans rfl
                have lBO := blk_lt BO.out
                go_wp2_with fail
                refine (middle_calls L st A6 c6 zs _ HC6.out.1 HC6.out.2).mono ?_
                rintro e w38 ⟨rfl, hb38⟩
                clear qX0 qX1 qX2 qXB0 qXB1 qXB2 qBE0 qBE1 qBD0 qBD1 qBO0 qBO1 lX lXB lBE lBD lBO
                replace KB := Aside0.mk (KB.out.trans (hb38.mono KB.out.size))
                replace X := Aside0.mk (blk_below X.out hb38)
                replace XB := Aside0.mk (blk_below XB.out hb38)
                replace RY := Aside0.mk (C_pair43 RY.out hb38)
                replace BE := Aside0.mk (blk_below BE.out hb38)
                replace BD := Aside0.mk (blk_below BD.out hb38)
                replace BO := Aside0.mk (blk_below BO.out hb38)
                rw [HP1.out, HP2.out, HI2.out]
                clear hb38
                have qX0 : w38.cell? ⟨w.heap.size, 0, none⟩ = some (.int .i64 L) := (blk_cell X.out 0).trans rfl
                have qX1 : w38.cell? ⟨w.heap.size, 1, none⟩ = some (.int .i64 st) := (blk_cell X.out 1).trans rfl
                have qX2 : w38.cell? ⟨w.heap.size, 2, none⟩ = some (.slice A l.length c) := (blk_cell X.out 2).trans rfl
                have lX := blk_lt X.out
                have qXB0 : w38.cell? ⟨w2.heap.size, 0, none⟩ = some (.int .i64 L) := (blk_cell XB.out 0).trans rfl
                have qXB1 : w38.cell? ⟨w2.heap.size, 1, none⟩ = some (.int .i64 st) := (blk_cell XB.out 1).trans rfl
                have qXB2 : w38.cell? ⟨w2.heap.size, 2, none⟩ = some (.slice (some ⟨g6, 0, none⟩) l.length cap6) := (blk_cell XB.out 2).trans rfl
                have lXB := blk_lt XB.out
                have qBE0 : w38.cell? ⟨gBE, 0, none⟩ = some (.int .i64 e1) := (blk_cell BE.out 0).trans rfl
                have qBE1 : w38.cell? ⟨gBE, 1, none⟩ = some (.int .i64 e2) := (blk_cell BE.out 1).trans rfl
                have lBE := blk_lt BE.out
                have qBD0 : w38.cell? ⟨gBD, 0, none⟩ = some (.int .i64 d1) := (blk_cell BD.out 0).trans rfl
                have qBD1 : w38.cell? ⟨gBD, 1, none⟩ = some (.int .i64 d2) := (blk_cell BD.out 1).trans rfl
                have lBD := blk_lt BD.out
                have qBO0 : w38.cell? ⟨gBO, 0, none⟩ = some (.int .i64 o1) := (blk_cell BO.out 0).trans rfl
                have qBO1 : w38.cell? ⟨gBO, 1, none⟩ = some (.int .i64 o2) := (blk_cell BO.out 1).trans rfl
                have lBO := blk_lt BO.out
                have M2 := M2.out
                have M3 := M3.out
                have M4 := M4.out
                have z7 : decide (mz < mv) = false := decide_eq_false (by omega)
                have z8 : decide (e1 < d1) = false := decide_eq_false (by omega)
                have z9 : decide (d2 < e2) = false := decide_eq_false (by omega)
                clear M2 M3
                cases lv with
                | false =>
                  obtain rfl := HONE.out rfl
                  by_cases hi1 : i1 = 0
                  · subst hi1
                    obtain ⟨n1, n2, n3⟩ := M4 rfl
                    obtain rfl := n1
                    have n4 : decide (p1 ≤ o1) = true := decide_eq_true n2
                    have n5 : decide (o2 ≤ p2) = true := decide_eq_true n3
                    clear M4 n2 n3
                    go_wp2_with fail
                    clear qX0 qX1 qX2 qXB0 qXB1 qXB2 qBE0 qBE1 qBD0 qBD1 qBO0 qBO1 lX lXB lBE lBD lBO
                    have BP := Aside0.mk (blk_new w38 (.cells #[.int .i64 p1, .int .i64 p2] 28))
                    have hb39 : Below w38.heap.size w38 (w38.alloc (.cells #[.int .i64 p1, .int .i64 p2] 28)) := (Below.refl _ _).alloc (Nat.le_refl _) _
                    replace KB := Aside0.mk (KB.out.trans (hb39.mono KB.out.size))
                    replace X := Aside0.mk (blk_below X.out hb39)
                    replace XB := Aside0.mk (blk_below XB.out hb39)
                    replace RY := Aside0.mk (C_pair43 RY.out hb39)
                    replace BE := Aside0.mk (blk_below BE.out hb39)
                    replace BD := Aside0.mk (blk_below BD.out hb39)
                    replace BO := Aside0.mk (blk_below BO.out hb39)
                    clear hb39
                    obtain ⟨gBP, hgBP⟩ : ∃ g, w38.heap.size = g := ⟨_, rfl⟩
                    rw [hgBP] at BP ⊢
                    clear hgBP
                    generalize w38.alloc (.cells #[.int .i64 p1, .int .i64 p2] 28) = w39 at BP KB X XB RY BE BD BO ⊢
                    have qX0 : w39.cell? ⟨w.heap.size, 0, none⟩ = some (.int .i64 L) := (blk_cell X.out 0).trans rfl
                    have qX1 : w39.cell? ⟨w.heap.size, 1, none⟩ = some (.int .i64 st) := (blk_cell X.out 1).trans rfl
                    have qX2 : w39.cell? ⟨w.heap.size, 2, none⟩ = some (.slice A l.length c) := (blk_cell X.out 2).trans rfl
                    have lX := blk_lt X.out
                    have qXB0 : w39.cell? ⟨w2.heap.size, 0, none⟩ = some (.int .i64 L) := (blk_cell XB.out 0).trans rfl
                    have qXB1 : w39.cell? ⟨w2.heap.size, 1, none⟩ = some (.int .i64 st) := (blk_cell XB.out 1).trans rfl
                    have qXB2 : w39.cell? ⟨w2.heap.size, 2, none⟩ = some (.slice (some ⟨g6, 0, none⟩) l.length cap6) := (blk_cell XB.out 2).trans rfl
                    have lXB := blk_lt XB.out
                    have qBE0 : w39.cell? ⟨gBE, 0, none⟩ = some (.int .i64 e1) := (blk_cell BE.out 0).trans rfl
                    have qBE1 : w39.cell? ⟨gBE, 1, none⟩ = some (.int .i64 e2) := (blk_cell BE.out 1).trans rfl
                    have lBE := blk_lt BE.out
                    have qBD0 : w39.cell? ⟨gBD, 0, none⟩ = some (.int .i64 d1) := (blk_cell BD.out 0).trans rfl
                    have qBD1 : w39.cell? ⟨gBD, 1, none⟩ = some (.int .i64 d2) := (blk_cell BD.out 1).trans rfl
                    have lBD := blk_lt BD.out
                    have qBO0 : w39.cell? ⟨gBO, 0, none⟩ = some (.int .i64 o1) := (blk_cell BO.out 0).trans rfl
                    have qBO1 : w39.cell? ⟨gBO, 1, none⟩ = some (.int .i64 o2) := (blk_cell BO.out 1).trans rfl
                    have lBO := blk_lt BO.out
                    have qBP0 : w39.cell? ⟨gBP, 0, none⟩ = some (.int .i64 p1) := (blk_cell BP.out 0).trans rfl
                    have qBP1 : w39.cell? ⟨gBP, 1, none⟩ = some (.int .i64 p2) := (blk_cell BP.out 1).trans rfl
                    have lBP := blk_lt BP.out
                    refine (awake_calls _).mono ?_
                    rintro e w40 ⟨rfl, hb40⟩
                    clear qX0 qX1 qX2 qXB0 qXB1 qXB2 qBE0 qBE1 qBD0 qBD1 qBO0 qBO1 qBP0 qBP1 lX lXB lBE lBD lBO lBP
                    replace KB := Aside0.mk (KB.out.trans (hb40.mono KB.out.size))
                    replace X := Aside0.mk (blk_below X.out hb40)
                    replace XB := Aside0.mk (blk_below XB.out hb40)
                    replace RY := Aside0.mk (C_pair43 RY.out hb40)
                    replace BE := Aside0.mk (blk_below BE.out hb40)
                    replace BD := Aside0.mk (blk_below BD.out hb40)
                    replace BO := Aside0.mk (blk_below BO.out hb40)
                    replace BP := Aside0.mk (blk_below BP.out hb40)
                    clear hb40
                    have qX0 : w40.cell? ⟨w.heap.size, 0, none⟩ = some (.int .i64 L) := (blk_cell X.out 0).trans rfl
                    have qX1 : w40.cell? ⟨w.heap.size, 1, none⟩ = some (.int .i64 st) := (blk_cell X.out 1).trans rfl
                    have qX2 : w40.cell? ⟨w.heap.size, 2, none⟩ = some (.slice A l.length c) := (blk_cell X.out 2).trans rfl
                    have lX := blk_lt X.out
                    have qXB0 : w40.cell? ⟨w2.heap.size, 0, none⟩ = some (.int .i64 L) := (blk_cell XB.out 0).trans rfl
                    have qXB1 : w40.cell? ⟨w2.heap.size, 1, none⟩ = some (.int .i64 st) := (blk_cell XB.out 1).trans rfl
                    have qXB2 : w40.cell? ⟨w2.heap.size, 2, none⟩ = some (.slice (some ⟨g6, 0, none⟩) l.length cap6) := (blk_cell XB.out 2).trans rfl
                    have lXB := blk_lt XB.out
                    have qBE0 : w40.cell? ⟨gBE, 0, none⟩ = some (.int .i64 e1) := (blk_cell BE.out 0).trans rfl
                    have qBE1 : w40.cell? ⟨gBE, 1, none⟩ = some (.int .i64 e2) := (blk_cell BE.out 1).trans rfl
                    have lBE := blk_lt BE.out
                    have qBD0 : w40.cell? ⟨gBD, 0, none⟩ = some (.int .i64 d1) := (blk_cell BD.out 0).trans rfl
                    have qBD1 : w40.cell? ⟨gBD, 1, none⟩ = some (.int .i64 d2) := (blk_cell BD.out 1).trans rfl
                    have lBD := blk_lt BD.out
                    have qBO0 : w40.cell? ⟨gBO, 0, none⟩ = some (.int .i64 o1) := (blk_cell BO.out 0).trans rfl
                    have qBO1 : w40.cell? ⟨gBO, 1, none⟩ = some (.int .i64 o2) := (blk_cell BO.out 1).trans rfl
                    have lBO := blk_lt BO.out
                    have qBP0 : w40.cell? ⟨gBP, 0, none⟩ = some (.int .i64 p1) := (blk_cell BP.out 0).trans rfl
                    have qBP1 : w40.cell? ⟨gBP, 1, none⟩ = some (.int .i64 p2) := (blk_cell BP.out 1).trans rfl
                    have lBP := blk_lt BP.out
                    go_wp2_with fail
                    go_ret
                    exact ⟨rfl, KB.out⟩
                  · have n1 : (i1 == 0) = false := beq_eq_false_iff_ne.2 hi1
                    have n2 : (i1 != 0) = true := bne_iff_ne.2 hi1
                    clear M4 hi1
                    go_wp2_with fail
                    clear qX0 qX1 qX2 qXB0 qXB1 qXB2 qBE0 qBE1 qBD0 qBD1 qBO0 qBO1 lX lXB lBE lBD lBO
                    have BP := Aside0.mk (blk_new w38 (.cells #[.int .i64 p1, .int .i64 p2] 28))
                    have hb41 : Below w38.heap.size w38 (w38.alloc (.cells #[.int .i64 p1, .int .i64 p2] 28)) := (Below.refl _ _).alloc (Nat.le_refl _) _
                    replace KB := Aside0.mk (KB.out.trans (hb41.mono KB.out.size))
                    replace X := Aside0.mk (blk_below X.out hb41)
                    replace XB := Aside0.mk (blk_below XB.out hb41)
                    replace RY := Aside0.mk (C_pair43 RY.out hb41)
                    replace BE := Aside0.mk (blk_below BE.out hb41)
                    replace BD := Aside0.mk (blk_below BD.out hb41)
                    replace BO := Aside0.mk (blk_below BO.out hb41)
                    clear hb41
                    obtain ⟨gBP, hgBP⟩ : ∃ g, w38.heap.size = g := ⟨_, rfl⟩
                    rw [hgBP] at BP ⊢
                    clear hgBP
                    generalize w38.alloc (.cells #[.int .i64 p1, .int .i64 p2] 28) = w41 at BP KB X XB RY BE BD BO ⊢
                    have qX0 : w41.cell? ⟨w.heap.size, 0, none⟩ = some (.int .i64 L) := (blk_cell X.out 0).trans rfl
                    have qX1 : w41.cell? ⟨w.heap.size, 1, none⟩ = some (.int .i64 st) := (blk_cell X.out 1).trans rfl
                    have qX2 : w41.cell? ⟨w.heap.size, 2, none⟩ = some (.slice A l.length c) := (blk_cell X.out 2).trans rfl
                    have lX := blk_lt X.out
                    have qXB0 : w41.cell? ⟨w2.heap.size, 0, none⟩ = some (.int .i64 L) := (blk_cell XB.out 0).trans rfl
                    have qXB1 : w41.cell? ⟨w2.heap.size, 1, none⟩ = some (.int .i64 st) := (blk_cell XB.out 1).trans rfl
                    have qXB2 : w41.cell? ⟨w2.heap.size, 2, none⟩ = some (.slice (some ⟨g6, 0, none⟩) l.length cap6) := (blk_cell XB.out 2).trans rfl
                    have lXB := blk_lt XB.out
                    have qBE0 : w41.cell? ⟨gBE, 0, none⟩ = some (.int .i64 e1) := (blk_cell BE.out 0).trans rfl
                    have qBE1 : w41.cell? ⟨gBE, 1, none⟩ = some (.int .i64 e2) := (blk_cell BE.out 1).trans rfl
                    have lBE := blk_lt BE.out
                    have qBD0 : w41.cell? ⟨gBD, 0, none⟩ = some (.int .i64 d1) := (blk_cell BD.out 0).trans rfl
                    have qBD1 : w41.cell? ⟨gBD, 1, none⟩ = some (.int .i64 d2) := (blk_cell BD.out 1).trans rfl
                    have lBD := blk_lt BD.out
                    have qBO0 : w41.cell? ⟨gBO, 0, none⟩ = some (.int .i64 o1) := (blk_cell BO.out 0).trans rfl
                    have qBO1 : w41.cell? ⟨gBO, 1, none⟩ = some (.int .i64 o2) := (blk_cell BO.out 1).trans rfl
                    have lBO := blk_lt BO.out
                    have qBP0 : w41.cell? ⟨gBP, 0, none⟩ = some (.int .i64 p1) := (blk_cell BP.out 0).trans rfl
                    have qBP1 : w41.cell? ⟨gBP, 1, none⟩ = some (.int .i64 p2) := (blk_cell BP.out 1).trans rfl
                    have lBP := blk_lt BP.out
                    refine (awake_calls _).mono ?_
                    rintro e w42 ⟨rfl, hb42⟩
                    clear qX0 qX1 qX2 qXB0 qXB1 qXB2 qBE0 qBE1 qBD0 qBD1 qBO0 qBO1 qBP0 qBP1 lX lXB lBE lBD lBO lBP
                    replace KB := Aside0.mk (KB.out.trans (hb42.mono KB.out.size))
                    replace X := Aside0.mk (blk_below X.out hb42)
                    replace XB := Aside0.mk (blk_below XB.out hb42)
                    replace RY := Aside0.mk (C_pair43 RY.out hb42)
                    replace BE := Aside0.mk (blk_below BE.out hb42)
                    replace BD := Aside0.mk (blk_below BD.out hb42)
                    replace BO := Aside0.mk (blk_below BO.out hb42)
                    replace BP := Aside0.mk (blk_below BP.out hb42)
                    clear hb42
                    have qX0 : w42.cell? ⟨w.heap.size, 0, none⟩ = some (.int .i64 L) := (blk_cell X.out 0).trans rfl
                    have qX1 : w42.cell? ⟨w.heap.size, 1, none⟩ = some (.int .i64 st) := (blk_cell X.out 1).trans rfl
                    have qX2 : w42.cell? ⟨w.heap.size, 2, none⟩ = some (.slice A l.length c) := (blk_cell X.out 2).trans rfl
                    have lX := blk_lt X.out
                    have qXB0 : w42.cell? ⟨w2.heap.size, 0, none⟩ = some (.int .i64 L) := (blk_cell XB.out 0).trans rfl
                    have qXB1 : w42.cell? ⟨w2.heap.size, 1, none⟩ = some (.int .i64 st) := (blk_cell XB.out 1).trans rfl
                    have qXB2 : w42.cell? ⟨w2.heap.size, 2, none⟩ = some (.slice (some ⟨g6, 0, none⟩) l.length cap6) := (blk_cell XB.out 2).trans rfl
                    have lXB := blk_lt XB.out
                    have qBE0 : w42.cell? ⟨gBE, 0, none⟩ = some (.int .i64 e1) := (blk_cell BE.out 0).trans rfl
                    have qBE1 : w42.cell? ⟨gBE, 1, none⟩ = some (.int .i64 e2) := (blk_cell BE.out 1).trans rfl
                    have lBE := blk_lt BE.out
                    have qBD0 : w42.cell? ⟨gBD, 0, none⟩ = some (.int .i64 d1) := (blk_cell BD.out 0).trans rfl
                    have qBD1 : w42.cell? ⟨gBD, 1, none⟩ = some (.int .i64 d2) := (blk_cell BD.out 1).trans rfl
                    have lBD := blk_lt BD.out
                    have qBO0 : w42.cell? ⟨gBO, 0, none⟩ = some (.int .i64 o1) := (blk_cell BO.out 0).trans rfl
                    have qBO1 : w42.cell? ⟨gBO, 1, none⟩ = some (.int .i64 o2) := (blk_cell BO.out 1).trans rfl
                    have lBO := blk_lt BO.out
                    have qBP0 : w42.cell? ⟨gBP, 0, none⟩ = some (.int .i64 p1) := (blk_cell BP.out 0).trans rfl
                    have qBP1 : w42.cell? ⟨gBP, 1, none⟩ = some (.int .i64 p2) := (blk_cell BP.out 1).trans rfl
                    have lBP := blk_lt BP.out
                    go_wp2_with fail
                    go_ret
                    exact ⟨rfl, KB.out⟩
                | true =>
                  by_cases hi1 : i1 = 0
                  · subst hi1
                    obtain ⟨n1, n2, n3⟩ := M4 rfl
                    obtain rfl := n1
                    have n4 : decide (p1 ≤ o1) = true := decide_eq_true n2
                    have n5 : decide (o2 ≤ p2) = true := decide_eq_true n3
                    clear M4 n2 n3
                    go_wp2_with fail
                    clear qX0 qX1 qX2 qXB0 qXB1 qXB2 qBE0 qBE1 qBD0 qBD1 qBO0 qBO1 lX lXB lBE lBD lBO
                    have BP := Aside0.mk (blk_new w38 (.cells #[.int .i64 p1, .int .i64 p2] 28))
                    have hb43 : Below w38.heap.size w38 (w38.alloc (.cells #[.int .i64 p1, .int .i64 p2] 28)) := (Below.refl _ _).alloc (Nat.le_refl _) _
                    replace KB := Aside0.mk (KB.out.trans (hb43.mono KB.out.size))
                    replace X := Aside0.mk (blk_below X.out hb43)
                    replace XB := Aside0.mk (blk_below XB.out hb43)
                    replace RY := Aside0.mk (C_pair43 RY.out hb43)
                    replace BE := Aside0.mk (blk_below BE.out hb43)
                    replace BD := Aside0.mk (blk_below BD.out hb43)
                    replace BO := Aside0.mk (blk_below BO.out hb43)
                    clear hb43
                    obtain ⟨gBP, hgBP⟩ : ∃ g, w38.heap.size = g := ⟨_, rfl⟩
                    rw [hgBP] at BP ⊢
                    clear hgBP
                    generalize w38.alloc (.cells #[.int .i64 p1, .int .i64 p2] 28) = w43 at BP KB X XB RY BE BD BO ⊢
                    have qX0 : w43.cell? ⟨w.heap.size, 0, none⟩ = some (.int .i64 L) := (blk_cell X.out 0).trans rfl
                    have qX1 : w43.cell? ⟨w.heap.size, 1, none⟩ = some (.int .i64 st) := (blk_cell X.out 1).trans rfl
                    have qX2 : w43.cell? ⟨w.heap.size, 2, none⟩ = some (.slice A l.length c) := (blk_cell X.out 2).trans rfl
                    have lX := blk_lt X.out
                    have qXB0 : w43.cell? ⟨w2.heap.size, 0, none⟩ = some (.int .i64 L) := (blk_cell XB.out 0).trans rfl
                    have qXB1 : w43.cell? ⟨w2.heap.size, 1, none⟩ = some (.int .i64 st) := (blk_cell XB.out 1).trans rfl
                    have qXB2 : w43.cell? ⟨w2.heap.size, 2, none⟩ = some (.slice (some ⟨g6, 0, none⟩) l.length cap6) := (blk_cell XB.out 2).trans rfl
                    have lXB := blk_lt XB.out
                    have qBE0 : w43.cell? ⟨gBE, 0, none⟩ = some (.int .i64 e1) := (blk_cell BE.out 0).trans rfl
                    have qBE1 : w43.cell? ⟨gBE, 1, none⟩ = some (.int .i64 e2) := (blk_cell BE.out 1).trans rfl
                    have lBE := blk_lt BE.out
                    have qBD0 : w43.cell? ⟨gBD, 0, none⟩ = some (.int .i64 d1) := (blk_cell BD.out 0).trans rfl
                    have qBD1 : w43.cell? ⟨gBD, 1, none⟩ = some (.int .i64 d2) := (blk_cell BD.out 1).trans rfl
                    have lBD := blk_lt BD.out
                    have qBO0 : w43.cell? ⟨gBO, 0, none⟩ = some (.int .i64 o1) := (blk_cell BO.out 0).trans rfl
                    have qBO1 : w43.cell? ⟨gBO, 1, none⟩ = some (.int .i64 o2) := (blk_cell BO.out 1).trans rfl
                    have lBO := blk_lt BO.out
                    have qBP0 : w43.cell? ⟨gBP, 0, none⟩ = some (.int .i64 p1) := (blk_cell BP.out 0).trans rfl
                    have qBP1 : w43.cell? ⟨gBP, 1, none⟩ = some (.int .i64 p2) := (blk_cell BP.out 1).trans rfl
                    have lBP := blk_lt BP.out
                    refine (awake_calls _).mono ?_
                    rintro e w44 ⟨rfl, hb44⟩
                    clear qX0 qX1 qX2 qXB0 qXB1 qXB2 qBE0 qBE1 qBD0 qBD1 qBO0 qBO1 qBP0 qBP1 lX lXB lBE lBD lBO lBP
                    replace KB := Aside0.mk (KB.out.trans (hb44.mono KB.out.size))
                    replace X := Aside0.mk (blk_below X.out hb44)
                    replace XB := Aside0.mk (blk_below XB.out hb44)
                    replace RY := Aside0.mk (C_pair43 RY.out hb44)
                    replace BE := Aside0.mk (blk_below BE.out hb44)
                    replace BD := Aside0.mk (blk_below BD.out hb44)
                    replace BO := Aside0.mk (blk_below BO.out hb44)
                    replace BP := Aside0.mk (blk_below BP.out hb44)
                    clear hb44
                    have qX0 : w44.cell? ⟨w.heap.size, 0, none⟩ = some (.int .i64 L) := (blk_cell X.out 0).trans rfl
                    have qX1 : w44.cell? ⟨w.heap.size, 1, none⟩ = some (.int .i64 st) := (blk_cell X.out 1).trans rfl
                    have qX2 : w44.cell? ⟨w.heap.size, 2, none⟩ = some (.slice A l.length c) := (blk_cell X.out 2).trans rfl
                    have lX := blk_lt X.out
                    have qXB0 : w44.cell? ⟨w2.heap.size, 0, none⟩ = some (.int .i64 L) := (blk_cell XB.out 0).trans rfl
                    have qXB1 : w44.cell? ⟨w2.heap.size, 1, none⟩ = some (.int .i64 st) := (blk_cell XB.out 1).trans rfl
                    have qXB2 : w44.cell? ⟨w2.heap.size, 2, none⟩ = some (.slice (some ⟨g6, 0, none⟩) l.length cap6) := (blk_cell XB.out 2).trans rfl
                    have lXB := blk_lt XB.out
                    have qBE0 : w44.cell? ⟨gBE, 0, none⟩ = some (.int .i64 e1) := (blk_cell BE.out 0).trans rfl
                    have qBE1 : w44.cell? ⟨gBE, 1, none⟩ = some (.int .i64 e2) := (blk_cell BE.out 1).trans rfl
                    have lBE := blk_lt BE.out
                    have qBD0 : w44.cell? ⟨gBD, 0, none⟩ = some (.int .i64 d1) := (blk_cell BD.out 0).trans rfl
                    have qBD1 : w44.cell? ⟨gBD, 1, none⟩ = some (.int .i64 d2) := (blk_cell BD.out 1).trans rfl
                    have lBD := blk_lt BD.out
                    have qBO0 : w44.cell? ⟨gBO, 0, none⟩ = some (.int .i64 o1) := (blk_cell BO.out 0).trans rfl
                    have qBO1 : w44.cell? ⟨gBO, 1, none⟩ = some (.int .i64 o2) := (blk_cell BO.out 1).trans rfl
                    have lBO := blk_lt BO.out
                    have qBP0 : w44.cell? ⟨gBP, 0, none⟩ = some (.int .i64 p1) := (blk_cell BP.out 0).trans rfl
                    have qBP1 : w44.cell? ⟨gBP, 1, none⟩ = some (.int .i64 p2) := (blk_cell BP.out 1).trans rfl
                    have lBP := blk_lt BP.out
                    go_wp2_with fail
                    go_ret
                    exact ⟨rfl, KB.out⟩
                  · have n1 : (i1 == 0) = false := beq_eq_false_iff_ne.2 hi1
                    have n2 : (i1 != 0) = true := bne_iff_ne.2 hi1
                    clear M4 hi1
                    go_wp2_with fail
                    clear qX0 qX1 qX2 qXB0 qXB1 qXB2 qBE0 qBE1 qBD0 qBD1 qBO0 qBO1 lX lXB lBE lBD lBO
                    have BP := Aside0.mk (blk_new w38 (.cells #[.int .i64 p1, .int .i64 p2] 28))
                    have hb45 : Below w38.heap.size w38 (w38.alloc (.cells #[.int .i64 p1, .int .i64 p2] 28)) := (Below.refl _ _).alloc (Nat.le_refl _) _
                    replace KB := Aside0.mk (KB.out.trans (hb45.mono KB.out.size))
                    replace X := Aside0.mk (blk_below X.out hb45)
                    replace XB := Aside0.mk (blk_below XB.out hb45)
                    replace RY := Aside0.mk (C_pair43 RY.out hb45)
                    replace BE := Aside0.mk (blk_below BE.out hb45)
                    replace BD := Aside0.mk (blk_below BD.out hb45)
                    replace BO := Aside0.mk (blk_below BO.out hb45)
                    clear hb45
                    obtain ⟨gBP, hgBP⟩ : ∃ g, w38.heap.size = g := ⟨_, rfl⟩
                    rw [hgBP] at BP ⊢
                    clear hgBP
                    generalize w38.alloc (.cells #[.int .i64 p1, .int .i64 p2] 28) = w45 at BP KB X XB RY BE BD BO ⊢
                    have qX0 : w45.cell? ⟨w.heap.size, 0, none⟩ = some (.int .i64 L) := (blk_cell X.out 0).trans rfl
                    have qX1 : w45.cell? ⟨w.heap.size, 1, none⟩ = some (.int .i64 st) := (blk_cell X.out 1).trans rfl
                    have qX2 : w45.cell? ⟨w.heap.size, 2, none⟩ = some (.slice A l.length c) := (blk_cell X.out 2).trans rfl
                    have lX := blk_lt X.out
                    have qXB0 : w45.cell? ⟨w2.heap.size, 0, none⟩ = some (.int .i64 L) := (blk_cell XB.out 0).trans rfl
                    have qXB1 : w45.cell? ⟨w2.heap.size, 1, none⟩ = some (.int .i64 st) := (blk_cell XB.out 1).trans rfl
                    have qXB2 : w45.cell? ⟨w2.heap.size, 2, none⟩ = some (.slice (some ⟨g6, 0, none⟩) l.length cap6) := (blk_cell XB.out 2).trans rfl
                    have lXB := blk_lt XB.out
                    have qBE0 : w45.cell? ⟨gBE, 0, none⟩ = some (.int .i64 e1) := (blk_cell BE.out 0).trans rfl
                    have qBE1 : w45.cell? ⟨gBE, 1, none⟩ = some (.int .i64 e2) := (blk_cell BE.out 1).trans rfl
                    have lBE := blk_lt BE.out
                    have qBD0 : w45.cell? ⟨gBD, 0, none⟩ = some (.int .i64 d1) := (blk_cell BD.out 0).trans rfl
                    have qBD1 : w45.cell? ⟨gBD, 1, none⟩ = some (.int .i64 d2) := (blk_cell BD.out 1).trans rfl
                    have lBD := blk_lt BD.out
                    have qBO0 : w45.cell? ⟨gBO, 0, none⟩ = some (.int .i64 o1) := (blk_cell BO.out 0).trans rfl
                    have qBO1 : w45.cell? ⟨gBO, 1, none⟩ = some (.int .i64 o2) := (blk_cell BO.out 1).trans rfl
                    have lBO := blk_lt BO.out
                    have qBP0 : w45.cell? ⟨gBP, 0, none⟩ = some (.int .i64 p1) := (blk_cell BP.out 0).trans rfl
                    have qBP1 : w45.cell? ⟨gBP, 1, none⟩ = some (.int .i64 p2) := (blk_cell BP.out 1).trans rfl
                    have lBP := blk_lt BP.out
                    refine (awake_calls _).mono ?_
                    rintro e w46 ⟨rfl, hb46⟩
                    clear qX0 qX1 qX2 qXB0 qXB1 qXB2 qBE0 qBE1 qBD0 qBD1 qBO0 qBO1 qBP0 qBP1 lX lXB lBE lBD lBO lBP
                    replace KB := Aside0.mk (KB.out.trans (hb46.mono KB.out.size))
                    replace X := Aside0.mk (blk_below X.out hb46)
                    replace XB := Aside0.mk (blk_below XB.out hb46)
                    replace RY := Aside0.mk (C_pair43 RY.out hb46)
                    replace BE := Aside0.mk (blk_below BE.out hb46)
                    replace BD := Aside0.mk (blk_below BD.out hb46)
                    replace BO := Aside0.mk (blk_below BO.out hb46)
                    replace BP := Aside0.mk (blk_below BP.out hb46)
                    clear hb46
                    have qX0 : w46.cell? ⟨w.heap.size, 0, none⟩ = some (.int .i64 L) := (blk_cell X.out 0).trans rfl
                    have qX1 : w46.cell? ⟨w.heap.size, 1, none⟩ = some (.int .i64 st) := (blk_cell X.out 1).trans rfl
                    have qX2 : w46.cell? ⟨w.heap.size, 2, none⟩ = some (.slice A l.length c) := (blk_cell X.out 2).trans rfl
                    have lX := blk_lt X.out
                    have qXB0 : w46.cell? ⟨w2.heap.size, 0, none⟩ = some (.int .i64 L) := (blk_cell XB.out 0).trans rfl
                    have qXB1 : w46.cell? ⟨w2.heap.size, 1, none⟩ = some (.int .i64 st) := (blk_cell XB.out 1).trans rfl
                    have qXB2 : w46.cell? ⟨w2.heap.size, 2, none⟩ = some (.slice (some ⟨g6, 0, none⟩) l.length cap6) := (blk_cell XB.out 2).trans rfl
                    have lXB := blk_lt XB.out
                    have qBE0 : w46.cell? ⟨gBE, 0, none⟩ = some (.int .i64 e1) := (blk_cell BE.out 0).trans rfl
                    have qBE1 : w46.cell? ⟨gBE, 1, none⟩ = some (.int .i64 e2) := (blk_cell BE.out 1).trans rfl
                    have lBE := blk_lt BE.out
                    have qBD0 : w46.cell? ⟨gBD, 0, none⟩ = some (.int .i64 d1) := (blk_cell BD.out 0).trans rfl
                    have qBD1 : w46.cell? ⟨gBD, 1, none⟩ = some (.int .i64 d2) := (blk_cell BD.out 1).trans rfl
                    have lBD := blk_lt BD.out
                    have qBO0 : w46.cell? ⟨gBO, 0, none⟩ = some (.int .i64 o1) := (blk_cell BO.out 0).trans rfl
                    have qBO1 : w46.cell? ⟨gBO, 1, none⟩ = some (.int .i64 o2) := (blk_cell BO.out 1).trans rfl
                    have lBO := blk_lt BO.out
                    have qBP0 : w46.cell? ⟨gBP, 0, none⟩ = some (.int .i64 p1) := (blk_cell BP.out 0).trans rfl
                    have qBP1 : w46.cell? ⟨gBP, 1, none⟩ = some (.int .i64 p2) := (blk_cell BP.out 1).trans rfl
                    have lBP := blk_lt BP.out
                    go_wp2_with fail
                    go_ret
                    exact ⟨rfl, KB.out⟩
            · obtain rfl : pv = 9 := P09.resolve_left hp
              have HMN : Aside0 (mv = 0) := ⟨by rw [← HMV.out]; exact many_n (by rw [HPV.out]; decide)⟩
              obtain rfl := HMN.out
              clear HMN P09 hp
              cases lv with
              | false =>
                go_wp2_with fail
                refine (awake_calls _).mono ?_
                rintro e w47 ⟨rfl, hb47⟩
                clear qX0 qX1 qX2 qXB0 qXB1 qXB2 lX lXB
                replace KB := Aside0.mk (KB.out.trans (hb47.mono KB.out.size))
                replace X := Aside0.mk (blk_below X.out hb47)
                replace XB := Aside0.mk (blk_below XB.out hb47)
                replace RY := Aside0.mk (C_pair43 RY.out hb47)
                clear hb47
                have qX0 : w47.cell? ⟨w.heap.size, 0, none⟩ = some (.int .i64 L) := (blk_cell X.out 0).trans rfl
                have qX1 : w47.cell? ⟨w.heap.size, 1, none⟩ = some (.int .i64 st) := (blk_cell X.out 1).trans rfl
                have qX2 : w47.cell? ⟨w.heap.size, 2, none⟩ = some (.slice A l.length c) := (blk_cell X.out 2).trans rfl
                have lX := blk_lt X.out
                have qXB0 : w47.cell? ⟨w2.heap.size, 0, none⟩ = some (.int .i64 L) := (blk_cell XB.out 0).trans rfl
                have qXB1 : w47.cell? ⟨w2.heap.size, 1, none⟩ = some (.int .i64 st) := (blk_cell XB.out 1).trans rfl
                have qXB2 : w47.cell? ⟨w2.heap.size, 2, none⟩ = some (.slice (some ⟨g6, 0, none⟩) l.length cap6) := (blk_cell XB.out 2).trans rfl
                have lXB := blk_lt XB.out
                go_wp2_with fail
                go_ret
                exact ⟨rfl, KB.out⟩
              | true =>
                go_wp2_with fail
                refine (awake_calls _).mono ?_
                rintro e w48 ⟨rfl, hb48⟩
                clear qX0 qX1 qX2 qXB0 qXB1 qXB2 lX lXB
                replace KB := Aside0.mk (KB.out.trans (hb48.mono KB.out.size))
                replace X := Aside0.mk (blk_below X.out hb48)
                replace XB := Aside0.mk (blk_below XB.out hb48)
                replace RY := Aside0.mk (C_pair43 RY.out hb48)
                clear hb48
                have qX0 : w48.cell? ⟨w.heap.size, 0, none⟩ = some (.int .i64 L) := (blk_cell X.out 0).trans rfl
                have qX1 : w48.cell? ⟨w.heap.size, 1, none⟩ = some (.int .i64 st) := (blk_cell X.out 1).trans rfl
                have qX2 : w48.cell? ⟨w.heap.size, 2, none⟩ = some (.slice A l.length c) := (blk_cell X.out 2).trans rfl
                have lX := blk_lt X.out
                have qXB0 : w48.cell? ⟨w2.heap.size, 0, none⟩ = some (.int .i64 L) := (blk_cell XB.out 0).trans rfl
                have qXB1 : w48.cell? ⟨w2.heap.size, 1, none⟩ = some (.int .i64 st) := (blk_cell XB.out 1).trans rfl
                have qXB2 : w48.cell? ⟨w2.heap.size, 2, none⟩ = some (.slice (some ⟨g6, 0, none⟩) l.length cap6) := (blk_cell XB.out 2).trans rfl
                have lXB := blk_lt XB.out
                go_wp2_with fail
                go_ret
                exact ⟨rfl, KB.out⟩
      | false =>
        go_wp2_with (first | ((with_reducible refine gate_dst (N := 49) rfl ?_); refine Kd.R_lit k43 (w0 := w2) w2.heap.size 43 ?hg (N := 49) ?hd (xs := []) (inner := []) (ok := fun _ => True) (okp := fun _ => True) ?hr ?hp (fun _ hk => hk) trivial ((Below.refl _ _).alloc (Nat.le_refl _) _) (by simp) (by simp) ?_; (case hd => rfl); (case hg => rfl); (case hr => first | (go_simp; done) | (go_simp; rfl)); (case hp => exact (Reps.none _ _)); intro v5 w5 hR hb hg hat; have GX := Aside0.mk (blk_grown (blk_new w2 (.cells #[.int .i64 L, .int .i64 st, .slice A l.length c] 24)) hg (by simp)); have HV5 := Aside0.mk hR; have HB5 := Aside0.mk hb; have x5 : w5.cell? ⟨w.heap.size, 2, none⟩ = some (.slice A l.length c) := (blk_cell (blk_below X.out hb) 2).trans rfl; clear hR hb hg hat) | ((with_reducible refine gate_builtin (b := .append) (xs := #[.tmp 49, .tmp 51]) rfl ?_); at_builtin; go_loud (refine Kd.R_append_rows k43 (w0 := w2) w2.heap.size rfl (.tmp 49) (.tmp 51) 22 43 (.agg #[(.int .i64 0), (.int .u8 0)]) 16 rfl Try.underlying22 info43 rfl (by decide) (by omega) v5 [] l _ _ _ (fun _ => True) (fun _ => False) rfl rfl HV5.out (Kd.C_below HR.out (KB.out.trans (HB5.out.mono KB.out.size))) (fun _ _ h => h) (fun _ h => h.elim) (fun _ _ => trivial) HB5.out HB5.out.size (by simp; omega) ?_; intro v6 w6 hR hb hg hat; rw [List.nil_append] at hR; replace GX := Aside0.mk (blk_grown GX.out hg (Kd.R_ne HV5.out GX.out (by decide))); obtain ⟨g6, cap6, rfl, hg6, hg7, _⟩ := Kd.R_form hR z4; have HV6 := Aside0.mk hR; have HB6 := Aside0.mk hb; clear hR hb hg hat hg6 hg7 x5; have x0 : w6.cell? ⟨w2.heap.size, 2, none⟩ = some (.slice A l.length c) := (blk_cell GX.out 2).trans rfl; have x1 := blk_frozen GX.out 2; have x2 := blk_lt GX.out)) | ((with_reducible refine gate_store (t := 5) (p := 64) (v := .const (.int .u8 3)) rfl ?_); go_loud (refine Kd.R_store k43 (w0 := w2) w2.heap.size rfl rfl 5 (.tmp 64) (.const (.int .u8 3)) rfl 43 (kn : Int) 1 l ⟨y0, 3⟩ (.int .u8 3) [(.int .u8 3)] [.int .i64 y0, .int .u8 y1] (fun _ => True) (fun _ => False) rfl (by show _ = _; simp [k43, Kd.iso, Kd.pair, Kd.int, Kd.scalar]) rfl rfl (by kernel_rfl) (by simp; rfl) (Kd.R_set HV6.out GX.out (by decide) 2 _) (by omega) (by omega) rfl (elem43 (Kd.R_set HV6.out GX.out (by decide) 2 _) kn HK.out.1 HY.out) (by decide) (k43_mkM _ _ _ ⟨y0, 3⟩) (fun _ h => h.elim) (below_set HB6.out (Nat.le_refl _)) ?_; intro w8 hR hb hg; rw [Int.toNat_natCast] at hR; have HV8 := Aside0.mk hR; have HB8 := Aside0.mk hb; have GX8 := Aside0.mk (blk_grown (blk_put GX.out 2 (.slice (some ⟨g6, 0, none⟩) l.length cap6) rfl) hg (Kd.R_ne HV6.out GX.out (by decide))); have X8 := Aside0.mk (blk_below X.out hb); have KB8 := Aside0.mk (KB.out.trans (hb.mono KB.out.size)); have qX0 : w8.cell? ⟨w.heap.size, 0, none⟩ = some (.int .i64 L) := (blk_cell X8.out 0).trans rfl; have qX1 : w8.cell? ⟨w.heap.size, 1, none⟩ = some (.int .i64 st) := (blk_cell X8.out 1).trans rfl; have qX2 : w8.cell? ⟨w.heap.size, 2, none⟩ = some (.slice A l.length c) := (blk_cell X8.out 2).trans rfl; clear hR hb hg x0 x1 x2)))
        clear KB X GX HV5 HB5 HV6 HB6
        have KB := KB8
        have X := X8
        have XB := GX8
        clear KB8 X8 GX8
        obtain ⟨ys, hys⟩ : ∃ ys, l.set kn ⟨y0, 3⟩ = ys := ⟨_, rfl⟩
        rw [hys] at HV8
        have HYL : Aside0 (ys.length = l.length) := ⟨by rw [← hys]; simp⟩
        have HSUB : Aside0 ((hists L st xs).Sublist (hists L st (ys.map up))) := ⟨by rw [← hys, ← HX.out, List.map_set]; exact hists_set L _ kn _ st (fun x hx l' r hm => known_result (y0 := y0) (y1 := y1) (by rw [List.getElem?_map, HY.out] at hx; exact (Option.some.inj hx).symm) hm)⟩
        clear hys
        have RY : Aside0 (Kd.C k43 w8 (some ⟨g6, 0, none⟩) ys.length ys ∧ ys.length ≤ cap6) := ⟨row43 HV8.out HYL.out⟩
        clear HV8 HB8
        have qXB0 : True := trivial
        have qXB1 : True := trivial
        have qXB2 : True := trivial
        have lX : True := trivial
        have lXB : True := trivial
        obtain ⟨mv, hmv⟩ : ∃ mv, manyI L st xs = mv := ⟨_, rfl⟩
        have HMV := Aside0.mk hmv
        clear hmv
        obtain ⟨pv, hpv⟩ : ∃ pv, possI L st xs = pv := ⟨_, rfl⟩
        have HPV := Aside0.mk hpv
        clear hpv
        obtain ⟨lv, hlv⟩ : ∃ lv, (l.any fun x => decide (x.f1 = 3)) = lv := ⟨_, rfl⟩
        have HLV := Aside0.mk hlv
        clear hlv
        refine (stairs_calls L st A c l _ (Kd.C_below HR.out KB.out) HC.out (by omega) xs HX.out).mono ?_
        rintro e w21 ⟨⟨A1, c1, rfl, HC1⟩, hb21⟩
        clear qX0 qX1 qX2 qXB0 qXB1 qXB2 lX lXB
        replace KB := Aside0.mk (KB.out.trans (hb21.mono KB.out.size))
        replace X := Aside0.mk (blk_below X.out hb21)
        replace XB := Aside0.mk (blk_below XB.out hb21)
        replace RY := Aside0.mk (C_pair43 RY.out hb21)
        clear hb21
        have qX0 : w21.cell? ⟨w.heap.size, 0, none⟩ = some (.int .i64 L) := (blk_cell X.out 0).trans rfl
        have qX1 : w21.cell? ⟨w.heap.size, 1, none⟩ = some (.int .i64 st) := (blk_cell X.out 1).trans rfl
        have qX2 : w21.cell? ⟨w.heap.size, 2, none⟩ = some (.slice A l.length c) := (blk_cell X.out 2).trans rfl
        have lX := blk_lt X.out
        have qXB0 : w21.cell? ⟨w2.heap.size, 0, none⟩ = some (.int .i64 L) := (blk_cell XB.out 0).trans rfl
        have qXB1 : w21.cell? ⟨w2.heap.size, 1, none⟩ = some (.int .i64 st) := (blk_cell XB.out 1).trans rfl
        have qXB2 : w21.cell? ⟨w2.heap.size, 2, none⟩ = some (.slice (some ⟨g6, 0, none⟩) l.length cap6) := (blk_cell XB.out 2).trans rfl
        have lXB := blk_lt XB.out
        go_wp2_with fail
        refine (count_calls L st A1 c1 xs _ HC1.out.1 HC1.out.2).mono ?_
        rintro e w22 ⟨rfl, hb22⟩
        clear qX0 qX1 qX2 qXB0 qXB1 qXB2 lX lXB
        replace KB := Aside0.mk (KB.out.trans (hb22.mono KB.out.size))
        replace X := Aside0.mk (blk_below X.out hb22)
        replace XB := Aside0.mk (blk_below XB.out hb22)
        replace RY := Aside0.mk (C_pair43 RY.out hb22)
        rw [HMV.out, HPV.out]
        clear hb22
        have qX0 : w22.cell? ⟨w.heap.size, 0, none⟩ = some (.int .i64 L) := (blk_cell X.out 0).trans rfl
        have qX1 : w22.cell? ⟨w.heap.size, 1, none⟩ = some (.int .i64 st) := (blk_cell X.out 1).trans rfl
        have qX2 : w22.cell? ⟨w.heap.size, 2, none⟩ = some (.slice A l.length c) := (blk_cell X.out 2).trans rfl
        have lX := blk_lt X.out
        have qXB0 : w22.cell? ⟨w2.heap.size, 0, none⟩ = some (.int .i64 L) := (blk_cell XB.out 0).trans rfl
        have qXB1 : w22.cell? ⟨w2.heap.size, 1, none⟩ = some (.int .i64 st) := (blk_cell XB.out 1).trans rfl
        have qXB2 : w22.cell? ⟨w2.heap.size, 2, none⟩ = some (.slice (some ⟨g6, 0, none⟩) l.length cap6) := (blk_cell XB.out 2).trans rfl
        have lXB := blk_lt XB.out
        go_wp2_with fail
        go_loop [14, 15] (fun lo i => ∃ jn : Nat, jn ≤ l.length ∧ i = .int .i64 jn ∧ lo = .bool ((l.take jn).any fun x => decide (x.f1 = 3))) (fun _ i => l.length - (intOf i).toNat)
        case atStart => exact ⟨0, by omega, rfl, rfl⟩
        case round =>
          obtain ⟨jn, hj, rfl, rfl⟩ := hrel
          by_cases hj3 : jn < l.length
          · have hj6 : decide ((jn : Int) < (l.length : Int)) = true := decide_eq_true (by omega)
            have hj7 : (jn : Int) < (l.length : Int) := by omega
            obtain ⟨ad, rfl, g0, g1⟩ := cell43 (Kd.C_below HR.out KB.out) jn hj3
            have HT := Aside0.mk (any_snoc l jn hj3)
            obtain ⟨y3, hy3⟩ : ∃ y3, l[jn].f1 = y3 := ⟨_, rfl⟩
            rw [hy3] at g1 HT
            clear hy3
            obtain ⟨pb, hpb⟩ : ∃ pb, ((l.take jn).any fun x => decide (x.f1 = 3)) = pb := ⟨_, rfl⟩
            rw [hpb] at HT ⊢
            clear hpb
            cases pb with
            | true =>
              go_wp2_with fail
              go_round
              case rel => exact ⟨jn + 1, by omega, by go_num, by rw [HT.out]; rfl⟩
              case measure => simp [intOf]; omega
            | false =>
              by_cases h3 : y3 = 3
              · have h3b : (y3 == 3) = true := beq_iff_eq.2 h3
                have H3 := Aside0.mk h3
                clear h3
                go_wp2_with fail
                go_round
                case rel => exact ⟨jn + 1, by omega, by go_num, by rw [HT.out, decide_eq_true H3.out]; rfl⟩
                case measure => simp [intOf]; omega
              · have h3b : (y3 == 3) = false := beq_eq_false_iff_ne.2 h3
                have H3 := Aside0.mk h3
                clear h3
                go_wp2_with fail
                go_round
                case rel => exact ⟨jn + 1, by omega, by go_num, by rw [HT.out, decide_eq_false H3.out]; rfl⟩
                case measure => simp [intOf]; omega
          · have hj6 : decide ((jn : Int) < (l.length : Int)) = false := decide_eq_false (by omega)
            have htk : l.take jn = l := List.take_of_length_le (by omega)
            rw [htk, HLV.out]
            clear htk
            have hyl := HYL.out
            have P09 := poss_09 (show checkI L st xs = 0 by rw [← HX.out]; exact HCK.out)
            rw [HPV.out] at P09
            by_cases hp : pv = 0
            · subst hp
              clear P09
              obtain ⟨rb2, hrb2⟩ : ∃ rb2, decide (checkI L st (ys.map up) = 0) = rb2 := ⟨_, rfl⟩
              have HRB2 := Aside0.mk hrb2
              clear hrb2
              have h3n : lv = false → ∀ z ∈ xs, z.f1 ≠ 3 := by
                intro e z hz h3
                rw [← HX.out] at hz
                obtain ⟨z0, hz0, rfl⟩ := List.mem_map.1 hz
                have h4 : (l.any fun x => decide (x.f1 = 3)) = true := List.any_eq_true.2 ⟨z0, hz0, decide_eq_true (show z0.f1 = 3 from h3)⟩
                rw [HLV.out] at h4
                rw [h4] at e
                cases e
              have HONE : Aside0 (lv = false → mv = 1) := ⟨fun e => by rw [← HMV.out]; exact (one_law (L := L) (st := st) (xs := xs) (h3n e)).2 HPV.out⟩
              clear h3n
              go_wp2_with fail
              refine (ready_n L st (some ⟨g6, 0, none⟩) cap6 ys _ RY.out.1 RY.out.2 (by omega) rb2 HRB2.out _ HYL.out).mono ?_
              rintro e w23 ⟨rfl, hb23⟩
              clear qX0 qX1 qX2 qXB0 qXB1 qXB2 lX lXB
              replace KB := Aside0.mk (KB.out.trans (hb23.mono KB.out.size))
              replace X := Aside0.mk (blk_below X.out hb23)
              replace XB := Aside0.mk (blk_below XB.out hb23)
              replace RY := Aside0.mk (C_pair43 RY.out hb23)
              clear hb23
              have qX0 : w23.cell? ⟨w.heap.size, 0, none⟩ = some (.int .i64 L) := (blk_cell X.out 0).trans rfl
              have qX1 : w23.cell? ⟨w.heap.size, 1, none⟩ = some (.int .i64 st) := (blk_cell X.out 1).trans rfl
              have qX2 : w23.cell? ⟨w.heap.size, 2, none⟩ = some (.slice A l.length c) := (blk_cell X.out 2).trans rfl
              have lX := blk_lt X.out
              have qXB0 : w23.cell? ⟨w2.heap.size, 0, none⟩ = some (.int .i64 L) := (blk_cell XB.out 0).trans rfl
              have qXB1 : w23.cell? ⟨w2.heap.size, 1, none⟩ = some (.int .i64 st) := (blk_cell XB.out 1).trans rfl
              have qXB2 : w23.cell? ⟨w2.heap.size, 2, none⟩ = some (.slice (some ⟨g6, 0, none⟩) l.length cap6) := (blk_cell XB.out 2).trans rfl
              have lXB := blk_lt XB.out
              cases rb2 with
              | false =>
                cases lv with
                | false =>
                  obtain rfl := HONE.out rfl
                  go_wp2_with fail
                  refine (awake_calls _).mono ?_
                  rintro e w24 ⟨rfl, hb24⟩
                  clear qX0 qX1 qX2 qXB0 qXB1 qXB2 lX lXB
                  replace KB := Aside0.mk (KB.out.trans (hb24.mono KB.out.size))
                  replace X := Aside0.mk (blk_below X.out hb24)
                  replace XB := Aside0.mk (blk_below XB.out hb24)
                  replace RY := Aside0.mk (C_pair43 RY.out hb24)
                  clear hb24
                  have qX0 : w24.cell? ⟨w.heap.size, 0, none⟩ = some (.int .i64 L) := (blk_cell X.out 0).trans rfl
                  have qX1 : w24.cell? ⟨w.heap.size, 1, none⟩ = some (.int .i64 st) := (blk_cell X.out 1).trans rfl
                  have qX2 : w24.cell? ⟨w.heap.size, 2, none⟩ = some (.slice A l.length c) := (blk_cell X.out 2).trans rfl
                  have lX := blk_lt X.out
                  have qXB0 : w24.cell? ⟨w2.heap.size, 0, none⟩ = some (.int .i64 L) := (blk_cell XB.out 0).trans rfl
                  have qXB1 : w24.cell? ⟨w2.heap.size, 1, none⟩ = some (.int .i64 st) := (blk_cell XB.out 1).trans rfl
                  have qXB2 : w24.cell? ⟨w2.heap.size, 2, none⟩ = some (.slice (some ⟨g6, 0, none⟩) l.length cap6) := (blk_cell XB.out 2).trans rfl
                  have lXB := blk_lt XB.out
                  go_wp2_with fail
                  go_ret
                  exact ⟨rfl, KB.out⟩
                | true =>
                  go_wp2_with fail
                  refine (awake_calls _).mono ?_
                  rintro e w25 ⟨rfl, hb25⟩
                  clear qX0 qX1 qX2 qXB0 qXB1 qXB2 lX lXB
                  replace KB := Aside0.mk (KB.out.trans (hb25.mono KB.out.size))
                  replace X := Aside0.mk (blk_below X.out hb25)
                  replace XB := Aside0.mk (blk_below XB.out hb25)
                  replace RY := Aside0.mk (C_pair43 RY.out hb25)
                  clear hb25
                  have qX0 : w25.cell? ⟨w.heap.size, 0, none⟩ = some (.int .i64 L) := (blk_cell X.out 0).trans rfl
                  have qX1 : w25.cell? ⟨w.heap.size, 1, none⟩ = some (.int .i64 st) := (blk_cell X.out 1).trans rfl
                  have qX2 : w25.cell? ⟨w.heap.size, 2, none⟩ = some (.slice A l.length c) := (blk_cell X.out 2).trans rfl
                  have lX := blk_lt X.out
                  have qXB0 : w25.cell? ⟨w2.heap.size, 0, none⟩ = some (.int .i64 L) := (blk_cell XB.out 0).trans rfl
                  have qXB1 : w25.cell? ⟨w2.heap.size, 1, none⟩ = some (.int .i64 st) := (blk_cell XB.out 1).trans rfl
                  have qXB2 : w25.cell? ⟨w2.heap.size, 2, none⟩ = some (.slice (some ⟨g6, 0, none⟩) l.length cap6) := (blk_cell XB.out 2).trans rfl
                  have lXB := blk_lt XB.out
                  go_wp2_with fail
                  go_ret
                  exact ⟨rfl, KB.out⟩
              | true =>
                have HCK2 : Aside0 (checkI L st (ys.map up) = 0) := ⟨of_decide_eq_true HRB2.out⟩
                obtain ⟨zs, hzs⟩ : ∃ zs, ys.map up = zs := ⟨_, rfl⟩
                have HZ := Aside0.mk hzs
                clear hzs
                have ML := more_law (L := L) (st := st) (xs := xs) (ys := zs) (by rw [← HZ.out]; exact HSUB.out) (by rw [← HX.out, ← HZ.out]; simp [hyl]) HPV.out (by rw [← HZ.out]; exact HCK2.out)
                obtain ⟨m1, m2, m3, m4⟩ := ML
                have HPZ := Aside0.mk m1
                have m3 := m3 (nn : Int) (by omega) (by have := HK.out.2; rw [← HX.out]; simp; omega)
                have HA1 : Aside0 (askE L st xs nn = 0) := ⟨ask_0 HPV.out (by omega) (by have := HK.out.2; rw [← HX.out]; simp; omega)⟩
                have HA2 : Aside0 (askE L st zs nn = 0) := ⟨ask_0 HPZ.out (by omega) (by have := HK.out.2; rw [← HZ.out]; simp [hyl]; omega)⟩
                clear m1
                rw [HMV.out] at m2
                obtain ⟨mz, hmz⟩ : ∃ mz, manyI L st zs = mz := ⟨_, rfl⟩
                have HMZ := Aside0.mk hmz
                clear hmz
                rw [HMZ.out] at m2
                obtain ⟨e1, he1⟩ : ∃ e1, (rankR L st xs nn).1 = e1 := ⟨_, rfl⟩
                have HE1 := Aside0.mk he1
                clear he1
                rw [HE1.out] at m3
                obtain ⟨e2, he2⟩ : ∃ e2, (rankR L st xs nn).2 = e2 := ⟨_, rfl⟩
                have HE2 := Aside0.mk he2
                clear he2
                rw [HE2.out] at m3
                obtain ⟨d1, hd1⟩ : ∃ d1, (rankR L st zs nn).1 = d1 := ⟨_, rfl⟩
                have HD1 := Aside0.mk hd1
                clear hd1
                rw [HD1.out] at m3
                obtain ⟨d2, hd2⟩ : ∃ d2, (rankR L st zs nn).2 = d2 := ⟨_, rfl⟩
                have HD2 := Aside0.mk hd2
                clear hd2
                rw [HD2.out] at m3
                obtain ⟨i1, hi1⟩ : ∃ i1, midE L st xs = i1 := ⟨_, rfl⟩
                have HI1 := Aside0.mk hi1
                clear hi1
                rw [HI1.out] at m4
                obtain ⟨i2, hi2⟩ : ∃ i2, midE L st zs = i2 := ⟨_, rfl⟩
                have HI2 := Aside0.mk hi2
                clear hi2
                rw [HI2.out] at m4
                obtain ⟨o1, ho1⟩ : ∃ o1, (midR L st xs).1 = o1 := ⟨_, rfl⟩
                have HO1 := Aside0.mk ho1
                clear ho1
                rw [HO1.out] at m4
                obtain ⟨o2, ho2⟩ : ∃ o2, (midR L st xs).2 = o2 := ⟨_, rfl⟩
                have HO2 := Aside0.mk ho2
                clear ho2
                rw [HO2.out] at m4
                obtain ⟨p1, hp1⟩ : ∃ p1, (midR L st zs).1 = p1 := ⟨_, rfl⟩
                have HP1 := Aside0.mk hp1
                clear hp1
                rw [HP1.out] at m4
                obtain ⟨p2, hp2⟩ : ∃ p2, (midR L st zs).2 = p2 := ⟨_, rfl⟩
                have HP2 := Aside0.mk hp2
                clear hp2
                rw [HP2.out] at m4
                have M2 := Aside0.mk m2
                have M3 := Aside0.mk m3
                have M4 := Aside0.mk m4
                clear m2 m3 m4
                go_wp2_with fail
                refine (stairs_n L st (some ⟨g6, 0, none⟩) cap6 ys _ RY.out.1 RY.out.2 (by omega) zs HZ.out _ HYL.out).mono ?_
                rintro e w26 ⟨⟨A2, c2, rfl, HC2⟩, hb26⟩
                clear qX0 qX1 qX2 qXB0 qXB1 qXB2 lX lXB
                replace KB := Aside0.mk (KB.out.trans (hb26.mono KB.out.size))
                replace X := Aside0.mk (blk_below X.out hb26)
                replace XB := Aside0.mk (blk_below XB.out hb26)
                replace RY := Aside0.mk (C_pair43 RY.out hb26)
                clear hb26
                have qX0 : w26.cell? ⟨w.heap.size, 0, none⟩ = some (.int .i64 L) := (blk_cell X.out 0).trans rfl
                have qX1 : w26.cell? ⟨w.heap.size, 1, none⟩ = some (.int .i64 st) := (blk_cell X.out 1).trans rfl
                have qX2 : w26.cell? ⟨w.heap.size, 2, none⟩ = some (.slice A l.length c) := (blk_cell X.out 2).trans rfl
                have lX := blk_lt X.out
                have qXB0 : w26.cell? ⟨w2.heap.size, 0, none⟩ = some (.int .i64 L) := (blk_cell XB.out 0).trans rfl
                have qXB1 : w26.cell? ⟨w2.heap.size, 1, none⟩ = some (.int .i64 st) := (blk_cell XB.out 1).trans rfl
                have qXB2 : w26.cell? ⟨w2.heap.size, 2, none⟩ = some (.slice (some ⟨g6, 0, none⟩) l.length cap6) := (blk_cell XB.out 2).trans rfl
                have lXB := blk_lt XB.out
                go_wp2_with fail
                refine (count_calls L st A2 c2 zs _ HC2.out.1 HC2.out.2).mono ?_
                rintro e w27 ⟨rfl, hb27⟩
                clear qX0 qX1 qX2 qXB0 qXB1 qXB2 lX lXB
                replace KB := Aside0.mk (KB.out.trans (hb27.mono KB.out.size))
                replace X := Aside0.mk (blk_below X.out hb27)
                replace XB := Aside0.mk (blk_below XB.out hb27)
                replace RY := Aside0.mk (C_pair43 RY.out hb27)
                rw [HMZ.out, HPZ.out]
                clear hb27
                have qX0 : w27.cell? ⟨w.heap.size, 0, none⟩ = some (.int .i64 L) := (blk_cell X.out 0).trans rfl
                have qX1 : w27.cell? ⟨w.heap.size, 1, none⟩ = some (.int .i64 st) := (blk_cell X.out 1).trans rfl
                have qX2 : w27.cell? ⟨w.heap.size, 2, none⟩ = some (.slice A l.length c) := (blk_cell X.out 2).trans rfl
                have lX := blk_lt X.out
                have qXB0 : w27.cell? ⟨w2.heap.size, 0, none⟩ = some (.int .i64 L) := (blk_cell XB.out 0).trans rfl
                have qXB1 : w27.cell? ⟨w2.heap.size, 1, none⟩ = some (.int .i64 st) := (blk_cell XB.out 1).trans rfl
                have qXB2 : w27.cell? ⟨w2.heap.size, 2, none⟩ = some (.slice (some ⟨g6, 0, none⟩) l.length cap6) := (blk_cell XB.out 2).trans rfl
                have lXB := blk_lt XB.out
                go_wp2_with fail
                refine (stairs_calls L st A c l _ (Kd.C_below HR.out KB.out) HC.out (by omega) xs HX.out).mono ?_
                rintro e w28 ⟨⟨A3, c3, rfl, HC3⟩, hb28⟩
                clear qX0 qX1 qX2 qXB0 qXB1 qXB2 lX lXB
                replace KB := Aside0.mk (KB.out.trans (hb28.mono KB.out.size))
                replace X := Aside0.mk (blk_below X.out hb28)
                replace XB := Aside0.mk (blk_below XB.out hb28)
                replace RY := Aside0.mk (C_pair43 RY.out hb28)
                clear hb28
                have qX0 : w28.cell? ⟨w.heap.size, 0, none⟩ = some (.int .i64 L) := (blk_cell X.out 0).trans rfl
                have qX1 : w28.cell? ⟨w.heap.size, 1, none⟩ = some (.int .i64 st) := (blk_cell X.out 1).trans rfl
                have qX2 : w28.cell? ⟨w.heap.size, 2, none⟩ = some (.slice A l.length c) := (blk_cell X.out 2).trans rfl
                have lX := blk_lt X.out
                have qXB0 : w28.cell? ⟨w2.heap.size, 0, none⟩ = some (.int .i64 L) := (blk_cell XB.out 0).trans rfl
                have qXB1 : w28.cell? ⟨w2.heap.size, 1, none⟩ = some (.int .i64 st) := (blk_cell XB.out 1).trans rfl
                have qXB2 : w28.cell? ⟨w2.heap.size, 2, none⟩ = some (.slice (some ⟨g6, 0, none⟩) l.length cap6) := (blk_cell XB.out 2).trans rfl
                have lXB := blk_lt XB.out
                go_wp2_with fail
                refine (rank_calls L st A3 c3 xs (nn : Int) _ HC3.out.1 HC3.out.2).mono ?_
                rintro e w29 ⟨rfl, hb29⟩
                clear qX0 qX1 qX2 qXB0 qXB1 qXB2 lX lXB
                replace KB := Aside0.mk (KB.out.trans (hb29.mono KB.out.size))
                replace X := Aside0.mk (blk_below X.out hb29)
                replace XB := Aside0.mk (blk_below XB.out hb29)
                replace RY := Aside0.mk (C_pair43 RY.out hb29)
                rw [HE1.out, HE2.out, HA1.out]
                clear hb29
                have qX0 : w29.cell? ⟨w.heap.size, 0, none⟩ = some (.int .i64 L) := (blk_cell X.out 0).trans rfl
                have qX1 : w29.cell? ⟨w.heap.size, 1, none⟩ = some (.int .i64 st) := (blk_cell X.out 1).trans rfl
                have qX2 : w29.cell? ⟨w.heap.size, 2, none⟩ = some (.slice A l.length c) := (blk_cell X.out 2).trans rfl
                have lX := blk_lt X.out
                have qXB0 : w29.cell? ⟨w2.heap.size, 0, none⟩ = some (.int .i64 L) := (blk_cell XB.out 0).trans rfl
                have qXB1 : w29.cell? ⟨w2.heap.size, 1, none⟩ = some (.int .i64 st) := (blk_cell XB.out 1).trans rfl
                have qXB2 : w29.cell? ⟨w2.heap.size, 2, none⟩ = some (.slice (some ⟨g6, 0, none⟩) l.length cap6) := (blk_cell XB.out 2).trans rfl
                have lXB := blk_lt XB.out
                go_wp2_with fail
                clear qX0 qX1 qX2 qXB0 qXB1 qXB2 lX lXB
                have BE := Aside0.mk (blk_new w29 (.cells #[.int .i64 e1, .int .i64 e2] 28))
                have hb30 : Below w29.heap.size w29 (w29.alloc (.cells #[.int .i64 e1, .int .i64 e2] 28)) := (Below.refl _ _).alloc (Nat.le_refl _) _
                replace KB := Aside0.mk (KB.out.trans (hb30.mono KB.out.size))
                replace X := Aside0.mk (blk_below X.out hb30)
                replace XB := Aside0.mk (blk_below XB.out hb30)
                replace RY := Aside0.mk (C_pair43 RY.out hb30)
                clear hb30
                obtain ⟨gBE, hgBE⟩ : ∃ g, w29.heap.size = g := ⟨_, rfl⟩
                rw [hgBE] at BE ⊢
                clear hgBE
                generalize w29.alloc (.cells #[.int .i64 e1, .int .i64 e2] 28) = w30 at BE KB X XB RY ⊢
                have qX0 : w30.cell? ⟨w.heap.size, 0, none⟩ = some (.int .i64 L) := (blk_cell X.out 0).trans rfl
                have qX1 : w30.cell? ⟨w.heap.size, 1, none⟩ = some (.int .i64 st) := (blk_cell X.out 1).trans rfl
                have qX2 : w30.cell? ⟨w.heap.size, 2, none⟩ = some (.slice A l.length c) := (blk_cell X.out 2).trans rfl
                have lX := blk_lt X.out
                have qXB0 : w30.cell? ⟨w2.heap.size, 0, none⟩ = some (.int .i64 L) := (blk_cell XB.out 0).trans rfl
                have qXB1 : w30.cell? ⟨w2.heap.size, 1, none⟩ = some (.int .i64 st) := (blk_cell XB.out 1).trans rfl
                have qXB2 : w30.cell? ⟨w2.heap.size, 2, none⟩ = some (.slice (some ⟨g6, 0, none⟩) l.length cap6) := (blk_cell XB.out 2).trans rfl
                have lXB := blk_lt XB.out
                have qBE0 : w30.cell? ⟨gBE, 0, none⟩ = some (.int .i64 e1) := (blk_cell BE.out 0).trans rfl
                have qBE1 : w30.cell? ⟨gBE, 1, none⟩ = some (.int .i64 e2) := (blk_cell BE.out 1).trans rfl
                have lBE := blk_lt BE.out
                refine (stairs_n L st (some ⟨g6, 0, none⟩) cap6 ys _ RY.out.1 RY.out.2 (by omega) zs HZ.out _ HYL.out).mono ?_
                rintro e w31 ⟨⟨A4, c4, rfl, HC4⟩, hb31⟩
                clear qX0 qX1 qX2 qXB0 qXB1 qXB2 qBE0 qBE1 lX lXB lBE
                replace KB := Aside0.mk (KB.out.trans (hb31.mono KB.out.size))
                replace X := Aside0.mk (blk_below X.out hb31)
                replace XB := Aside0.mk (blk_below XB.out hb31)
                replace RY := Aside0.mk (C_pair43 RY.out hb31)
                replace BE := Aside0.mk (blk_below BE.out hb31)
                clear hb31
                have qX0 : w31.cell? ⟨w.heap.size, 0, none⟩ = some (.int .i64 L) := (blk_cell X.out 0).trans rfl
                have qX1 : w31.cell? ⟨w.heap.size, 1, none⟩ = some (.int .i64 st) := (blk_cell X.out 1).trans rfl
                have qX2 : w31.cell? ⟨w.heap.size, 2, none⟩ = some (.slice A l.length c) := (blk_cell X.out 2).trans rfl
                have lX := blk_lt X.out
                have qXB0 : w31.cell? ⟨w2.heap.size, 0, none⟩ = some (.int .i64 L) := (blk_cell XB.out 0).trans rfl
                have qXB1 : w31.cell? ⟨w2.heap.size, 1, none⟩ = some (.int .i64 st) := (blk_cell XB.out 1).trans rfl
                have qXB2 : w31.cell? ⟨w2.heap.size, 2, none⟩ = some (.slice (some ⟨g6, 0, none⟩) l.length cap6) := (blk_cell XB.out 2).trans rfl
                have lXB := blk_lt XB.out
                have qBE0 : w31.cell? ⟨gBE, 0, none⟩ = some (.int .i64 e1) := (blk_cell BE.out 0).trans rfl
                have qBE1 : w31.cell? ⟨gBE, 1, none⟩ = some (.int .i64 e2) := (blk_cell BE.out 1).trans rfl
                have lBE := blk_lt BE.out
                go_wp2_with fail
                refine (rank_calls L st A4 c4 zs (nn : Int) _ HC4.out.1 HC4.out.2).mono ?_
                rintro e w32 ⟨rfl, hb32⟩
                clear qX0 qX1 qX2 qXB0 qXB1 qXB2 qBE0 qBE1 lX lXB lBE
                replace KB := Aside0.mk (KB.out.trans (hb32.mono KB.out.size))
                replace X := Aside0.mk (blk_below X.out hb32)
                replace XB := Aside0.mk (blk_below XB.out hb32)
                replace RY := Aside0.mk (C_pair43 RY.out hb32)
                replace BE := Aside0.mk (blk_below BE.out hb32)
                rw [HD1.out, HD2.out, HA2.out]
                clear hb32
                have qX0 : w32.cell? ⟨w.heap.size, 0, none⟩ = some (.int .i64 L) := (blk_cell X.out 0).trans rfl
                have qX1 : w32.cell? ⟨w.heap.size, 1, none⟩ = some (.int .i64 st) := (blk_cell X.out 1).trans rfl
                have qX2 : w32.cell? ⟨w.heap.size, 2, none⟩ = some (.slice A l.length c) := (blk_cell X.out 2).trans rfl
                have lX := blk_lt X.out
                have qXB0 : w32.cell? ⟨w2.heap.size, 0, none⟩ = some (.int .i64 L) := (blk_cell XB.out 0).trans rfl
                have qXB1 : w32.cell? ⟨w2.heap.size, 1, none⟩ = some (.int .i64 st) := (blk_cell XB.out 1).trans rfl
                have qXB2 : w32.cell? ⟨w2.heap.size, 2, none⟩ = some (.slice (some ⟨g6, 0, none⟩) l.length cap6) := (blk_cell XB.out 2).trans rfl
                have lXB := blk_lt XB.out
                have qBE0 : w32.cell? ⟨gBE, 0, none⟩ = some (.int .i64 e1) := (blk_cell BE.out 0).trans rfl
                have qBE1 : w32.cell? ⟨gBE, 1, none⟩ = some (.int .i64 e2) := (blk_cell BE.out 1).trans rfl
                have lBE := blk_lt BE.out
                go_wp2_with fail
                clear qX0 qX1 qX2 qXB0 qXB1 qXB2 qBE0 qBE1 lX lXB lBE
                have BD := Aside0.mk (blk_new w32 (.cells #[.int .i64 d1, .int .i64 d2] 28))
                have hb33 : Below w32.heap.size w32 (w32.alloc (.cells #[.int .i64 d1, .int .i64 d2] 28)) := (Below.refl _ _).alloc (Nat.le_refl _) _
                replace KB := Aside0.mk (KB.out.trans (hb33.mono KB.out.size))
                replace X := Aside0.mk (blk_below X.out hb33)
                replace XB := Aside0.mk (blk_below XB.out hb33)
                replace RY := Aside0.mk (C_pair43 RY.out hb33)
                replace BE := Aside0.mk (blk_below BE.out hb33)
                clear hb33
                obtain ⟨gBD, hgBD⟩ : ∃ g, w32.heap.size = g := ⟨_, rfl⟩
                rw [hgBD] at BD ⊢
                clear hgBD
                generalize w32.alloc (.cells #[.int .i64 d1, .int .i64 d2] 28) = w33 at BD KB X XB RY BE ⊢
                have qX0 : w33.cell? ⟨w.heap.size, 0, none⟩ = some (.int .i64 L) := (blk_cell X.out 0).trans rfl
                have qX1 : w33.cell? ⟨w.heap.size, 1, none⟩ = some (.int .i64 st) := (blk_cell X.out 1).trans rfl
                have qX2 : w33.cell? ⟨w.heap.size, 2, none⟩ = some (.slice A l.length c) := (blk_cell X.out 2).trans rfl
                have lX := blk_lt X.out
                have qXB0 : w33.cell? ⟨w2.heap.size, 0, none⟩ = some (.int .i64 L) := (blk_cell XB.out 0).trans rfl
                have qXB1 : w33.cell? ⟨w2.heap.size, 1, none⟩ = some (.int .i64 st) := (blk_cell XB.out 1).trans rfl
                have qXB2 : w33.cell? ⟨w2.heap.size, 2, none⟩ = some (.slice (some ⟨g6, 0, none⟩) l.length cap6) := (blk_cell XB.out 2).trans rfl
                have lXB := blk_lt XB.out
                have qBE0 : w33.cell? ⟨gBE, 0, none⟩ = some (.int .i64 e1) := (blk_cell BE.out 0).trans rfl
                have qBE1 : w33.cell? ⟨gBE, 1, none⟩ = some (.int .i64 e2) := (blk_cell BE.out 1).trans rfl
                have lBE := blk_lt BE.out
                have qBD0 : w33.cell? ⟨gBD, 0, none⟩ = some (.int .i64 d1) := (blk_cell BD.out 0).trans rfl
                have qBD1 : w33.cell? ⟨gBD, 1, none⟩ = some (.int .i64 d2) := (blk_cell BD.out 1).trans rfl
                have lBD := blk_lt BD.out
                refine (stairs_calls L st A c l _ (Kd.C_below HR.out KB.out) HC.out (by omega) xs HX.out).mono ?_
                rintro e w34 ⟨⟨A5, c5, rfl, HC5⟩, hb34⟩
                clear qX0 qX1 qX2 qXB0 qXB1 qXB2 qBE0 qBE1 qBD0 qBD1 lX lXB lBE lBD
                replace KB := Aside0.mk (KB.out.trans (hb34.mono KB.out.size))
                replace X := Aside0.mk (blk_below X.out hb34)
                replace XB := Aside0.mk (blk_below XB.out hb34)
                replace RY := Aside0.mk (C_pair43 RY.out hb34)
                replace BE := Aside0.mk (blk_below BE.out hb34)
                replace BD := Aside0.mk (blk_below BD.out hb34)
                clear hb34
                have qX0 : w34.cell? ⟨w.heap.size, 0, none⟩ = some (.int .i64 L) := (blk_cell X.out 0).trans rfl
                have qX1 : w34.cell? ⟨w.heap.size, 1, none⟩ = some (.int .i64 st) := (blk_cell X.out 1).trans rfl
                have qX2 : w34.cell? ⟨w.heap.size, 2, none⟩ = some (.slice A l.length c) := (blk_cell X.out 2).trans rfl
                have lX := blk_lt X.out
                have qXB0 : w34.cell? ⟨w2.heap.size, 0, none⟩ = some (.int .i64 L) := (blk_cell XB.out 0).trans rfl
                have qXB1 : w34.cell? ⟨w2.heap.size, 1, none⟩ = some (.int .i64 st) := (blk_cell XB.out 1).trans rfl
                have qXB2 : w34.cell? ⟨w2.heap.size, 2, none⟩ = some (.slice (some ⟨g6, 0, none⟩) l.length cap6) := (blk_cell XB.out 2).trans rfl
                have lXB := blk_lt XB.out
                have qBE0 : w34.cell? ⟨gBE, 0, none⟩ = some (.int .i64 e1) := (blk_cell BE.out 0).trans rfl
                have qBE1 : w34.cell? ⟨gBE, 1, none⟩ = some (.int .i64 e2) := (blk_cell BE.out 1).trans rfl
                have lBE := blk_lt BE.out
                have qBD0 : w34.cell? ⟨gBD, 0, none⟩ = some (.int .i64 d1) := (blk_cell BD.out 0).trans rfl
                have qBD1 : w34.cell? ⟨gBD, 1, none⟩ = some (.int .i64 d2) := (blk_cell BD.out 1).trans rfl
                have lBD := blk_lt BD.out
                go_wp2_with fail
                refine (middle_calls L st A5 c5 xs _ HC5.out.1 HC5.out.2).mono ?_
                rintro e w35 ⟨rfl, hb35⟩
                clear qX0 qX1 qX2 qXB0 qXB1 qXB2 qBE0 qBE1 qBD0 qBD1 lX lXB lBE lBD
                replace KB := Aside0.mk (KB.out.trans (hb35.mono KB.out.size))
                replace X := Aside0.mk (blk_below X.out hb35)
                replace XB := Aside0.mk (blk_below XB.out hb35)
                replace RY := Aside0.mk (C_pair43 RY.out hb35)
                replace BE := Aside0.mk (blk_below BE.out hb35)
                replace BD := Aside0.mk (blk_below BD.out hb35)
                rw [HO1.out, HO2.out, HI1.out]
                clear hb35
                have qX0 : w35.cell? ⟨w.heap.size, 0, none⟩ = some (.int .i64 L) := (blk_cell X.out 0).trans rfl
                have qX1 : w35.cell? ⟨w.heap.size, 1, none⟩ = some (.int .i64 st) := (blk_cell X.out 1).trans rfl
                have qX2 : w35.cell? ⟨w.heap.size, 2, none⟩ = some (.slice A l.length c) := (blk_cell X.out 2).trans rfl
                have lX := blk_lt X.out
                have qXB0 : w35.cell? ⟨w2.heap.size, 0, none⟩ = some (.int .i64 L) := (blk_cell XB.out 0).trans rfl
                have qXB1 : w35.cell? ⟨w2.heap.size, 1, none⟩ = some (.int .i64 st) := (blk_cell XB.out 1).trans rfl
                have qXB2 : w35.cell? ⟨w2.heap.size, 2, none⟩ = some (.slice (some ⟨g6, 0, none⟩) l.length cap6) := (blk_cell XB.out 2).trans rfl
                have lXB := blk_lt XB.out
                have qBE0 : w35.cell? ⟨gBE, 0, none⟩ = some (.int .i64 e1) := (blk_cell BE.out 0).trans rfl
                have qBE1 : w35.cell? ⟨gBE, 1, none⟩ = some (.int .i64 e2) := (blk_cell BE.out 1).trans rfl
                have lBE := blk_lt BE.out
                have qBD0 : w35.cell? ⟨gBD, 0, none⟩ = some (.int .i64 d1) := (blk_cell BD.out 0).trans rfl
                have qBD1 : w35.cell? ⟨gBD, 1, none⟩ = some (.int .i64 d2) := (blk_cell BD.out 1).trans rfl
                have lBD := blk_lt BD.out
                go_wp2_with fail
                clear qX0 qX1 qX2 qXB0 qXB1 qXB2 qBE0 qBE1 qBD0 qBD1 lX lXB lBE lBD
                have BO := Aside0.mk (blk_new w35 (.cells #[.int .i64 o1, .int .i64 o2] 28))
                have hb36 : Below w35.heap.size w35 (w35.alloc (.cells #[.int .i64 o1, .int .i64 o2] 28)) := (Below.refl _ _).alloc (Nat.le_refl _) _
                replace KB := Aside0.mk (KB.out.trans (hb36.mono KB.out.size))
                replace X := Aside0.mk (blk_below X.out hb36)
                replace XB := Aside0.mk (blk_below XB.out hb36)
                replace RY := Aside0.mk (C_pair43 RY.out hb36)
                replace BE := Aside0.mk (blk_below BE.out hb36)
                replace BD := Aside0.mk (blk_below BD.out hb36)
                clear hb36
                obtain ⟨gBO, hgBO⟩ : ∃ g, w35.heap.size = g := ⟨_, rfl⟩
                rw [hgBO] at BO ⊢
                clear hgBO
                generalize w35.alloc (.cells #[.int .i64 o1, .int .i64 o2] 28) = w36 at BO KB X XB RY BE BD ⊢
                have qX0 : w36.cell? ⟨w.heap.size, 0, none⟩ = some (.int .i64 L) := (blk_cell X.out 0).trans rfl
                have qX1 : w36.cell? ⟨w.heap.size, 1, none⟩ = some (.int .i64 st) := (blk_cell X.out 1).trans rfl
                have qX2 : w36.cell? ⟨w.heap.size, 2, none⟩ = some (.slice A l.length c) := (blk_cell X.out 2).trans rfl
                have lX := blk_lt X.out
                have qXB0 : w36.cell? ⟨w2.heap.size, 0, none⟩ = some (.int .i64 L) := (blk_cell XB.out 0).trans rfl
                have qXB1 : w36.cell? ⟨w2.heap.size, 1, none⟩ = some (.int .i64 st) := (blk_cell XB.out 1).trans rfl
                have qXB2 : w36.cell? ⟨w2.heap.size, 2, none⟩ = some (.slice (some ⟨g6, 0, none⟩) l.length cap6) := (blk_cell XB.out 2).trans rfl
                have lXB := blk_lt XB.out
                have qBE0 : w36.cell? ⟨gBE, 0, none⟩ = some (.int .i64 e1) := (blk_cell BE.out 0).trans rfl
                have qBE1 : w36.cell? ⟨gBE, 1, none⟩ = some (.int .i64 e2) := (blk_cell BE.out 1).trans rfl
                have lBE := blk_lt BE.out
                have qBD0 : w36.cell? ⟨gBD, 0, none⟩ = some (.int .i64 d1) := (blk_cell BD.out 0).trans rfl
                have qBD1 : w36.cell? ⟨gBD, 1, none⟩ = some (.int .i64 d2) := (blk_cell BD.out 1).trans rfl
                have lBD := blk_lt BD.out
                have qBO0 : w36.cell? ⟨gBO, 0, none⟩ = some (.int .i64 o1) := (blk_cell BO.out 0).trans rfl
                have qBO1 : w36.cell? ⟨gBO, 1, none⟩ = some (.int .i64 o2) := (blk_cell BO.out 1).trans rfl
                have lBO := blk_lt BO.out
                refine (stairs_n L st (some ⟨g6, 0, none⟩) cap6 ys _ RY.out.1 RY.out.2 (by omega) zs HZ.out _ HYL.out).mono ?_
                rintro e w37 ⟨⟨A6, c6, rfl, HC6⟩, hb37⟩
                clear qX0 qX1 qX2 qXB0 qXB1 qXB2 qBE0 qBE1 qBD0 qBD1 qBO0 qBO1 lX lXB lBE lBD lBO
                replace KB := Aside0.mk (KB.out.trans (hb37.mono KB.out.size))
                replace X := Aside0.mk (blk_below X.out hb37)
                replace XB := Aside0.mk (blk_below XB.out hb37)
                replace RY := Aside0.mk (C_pair43 RY.out hb37)
                replace BE := Aside0.mk (blk_below BE.out hb37)
                replace BD := Aside0.mk (blk_below BD.out hb37)
                replace BO := Aside0.mk (blk_below BO.out hb37)
                clear hb37
                have qX0 : w37.cell? ⟨w.heap.size, 0, none⟩ = some (.int .i64 L) := (blk_cell X.out 0).trans rfl
                have qX1 : w37.cell? ⟨w.heap.size, 1, none⟩ = some (.int .i64 st) := (blk_cell X.out 1).trans rfl
                have qX2 : w37.cell? ⟨w.heap.size, 2, none⟩ = some (.slice A l.length c) := (blk_cell X.out 2).trans rfl
                have lX := blk_lt X.out
                have qXB0 : w37.cell? ⟨w2.heap.size, 0, none⟩ = some (.int .i64 L) := (blk_cell XB.out 0).trans rfl
                have qXB1 : w37.cell? ⟨w2.heap.size, 1, none⟩ = some (.int .i64 st) := (blk_cell XB.out 1).trans rfl
                have qXB2 : w37.cell? ⟨w2.heap.size, 2, none⟩ = some (.slice (some ⟨g6, 0, none⟩) l.length cap6) := (blk_cell XB.out 2).trans rfl
                have lXB := blk_lt XB.out
                have qBE0 : w37.cell? ⟨gBE, 0, none⟩ = some (.int .i64 e1) := (blk_cell BE.out 0).trans rfl
                have qBE1 : w37.cell? ⟨gBE, 1, none⟩ = some (.int .i64 e2) := (blk_cell BE.out 1).trans rfl
                have lBE := blk_lt BE.out
                have qBD0 : w37.cell? ⟨gBD, 0, none⟩ = some (.int .i64 d1) := (blk_cell BD.out 0).trans rfl
                have qBD1 : w37.cell? ⟨gBD, 1, none⟩ = some (.int .i64 d2) := (blk_cell BD.out 1).trans rfl
                have lBD := blk_lt BD.out
                have qBO0 : w37.cell? ⟨gBO, 0, none⟩ = some (.int .i64 o1) := (blk_cell BO.out 0).trans rfl
                have qBO1 : w37.cell? ⟨gBO, 1, none⟩ = some (.int .i64 o2) := (blk_cell BO.out 1).trans rfl
                have lBO := blk_lt BO.out
                go_wp2_with fail
                refine (middle_calls L st A6 c6 zs _ HC6.out.1 HC6.out.2).mono ?_
                rintro e w38 ⟨rfl, hb38⟩
                clear qX0 qX1 qX2 qXB0 qXB1 qXB2 qBE0 qBE1 qBD0 qBD1 qBO0 qBO1 lX lXB lBE lBD lBO
                replace KB := Aside0.mk (KB.out.trans (hb38.mono KB.out.size))
                replace X := Aside0.mk (blk_below X.out hb38)
                replace XB := Aside0.mk (blk_below XB.out hb38)
                replace RY := Aside0.mk (C_pair43 RY.out hb38)
                replace BE := Aside0.mk (blk_below BE.out hb38)
                replace BD := Aside0.mk (blk_below BD.out hb38)
                replace BO := Aside0.mk (blk_below BO.out hb38)
                rw [HP1.out, HP2.out, HI2.out]
                clear hb38
                have qX0 : w38.cell? ⟨w.heap.size, 0, none⟩ = some (.int .i64 L) := (blk_cell X.out 0).trans rfl
                have qX1 : w38.cell? ⟨w.heap.size, 1, none⟩ = some (.int .i64 st) := (blk_cell X.out 1).trans rfl
                have qX2 : w38.cell? ⟨w.heap.size, 2, none⟩ = some (.slice A l.length c) := (blk_cell X.out 2).trans rfl
                have lX := blk_lt X.out
                have qXB0 : w38.cell? ⟨w2.heap.size, 0, none⟩ = some (.int .i64 L) := (blk_cell XB.out 0).trans rfl
                have qXB1 : w38.cell? ⟨w2.heap.size, 1, none⟩ = some (.int .i64 st) := (blk_cell XB.out 1).trans rfl
                have qXB2 : w38.cell? ⟨w2.heap.size, 2, none⟩ = some (.slice (some ⟨g6, 0, none⟩) l.length cap6) := (blk_cell XB.out 2).trans rfl
                have lXB := blk_lt XB.out
                have qBE0 : w38.cell? ⟨gBE, 0, none⟩ = some (.int .i64 e1) := (blk_cell BE.out 0).trans rfl
                have qBE1 : w38.cell? ⟨gBE, 1, none⟩ = some (.int .i64 e2) := (blk_cell BE.out 1).trans rfl
                have lBE := blk_lt BE.out
                have qBD0 : w38.cell? ⟨gBD, 0, none⟩ = some (.int .i64 d1) := (blk_cell BD.out 0).trans rfl
                have qBD1 : w38.cell? ⟨gBD, 1, none⟩ = some (.int .i64 d2) := (blk_cell BD.out 1).trans rfl
                have lBD := blk_lt BD.out
                have qBO0 : w38.cell? ⟨gBO, 0, none⟩ = some (.int .i64 o1) := (blk_cell BO.out 0).trans rfl
                have qBO1 : w38.cell? ⟨gBO, 1, none⟩ = some (.int .i64 o2) := (blk_cell BO.out 1).trans rfl
                have lBO := blk_lt BO.out
                have M2 := M2.out
                have M3 := M3.out
                have M4 := M4.out
                have z7 : decide (mz < mv) = false := decide_eq_false (by omega)
                have z8 : decide (e1 < d1) = false := decide_eq_false (by omega)
                have z9 : decide (d2 < e2) = false := decide_eq_false (by omega)
                clear M2 M3
                cases lv with
                | false =>
                  obtain rfl := HONE.out rfl
                  by_cases hi1 : i1 = 0
                  · subst hi1
                    obtain ⟨n1, n2, n3⟩ := M4 rfl
                    obtain rfl := n1
                    have n4 : decide (p1 ≤ o1) = true := decide_eq_true n2
                    have n5 : decide (o2 ≤ p2) = true := decide_eq_true n3
                    clear M4 n2 n3
                    go_wp2_with fail
                    clear qX0 qX1 qX2 qXB0 qXB1 qXB2 qBE0 qBE1 qBD0 qBD1 qBO0 qBO1 lX lXB lBE lBD lBO
                    have BP := Aside0.mk (blk_new w38 (.cells #[.int .i64 p1, .int .i64 p2] 28))
                    have hb39 : Below w38.heap.size w38 (w38.alloc (.cells #[.int .i64 p1, .int .i64 p2] 28)) := (Below.refl _ _).alloc (Nat.le_refl _) _
                    replace KB := Aside0.mk (KB.out.trans (hb39.mono KB.out.size))
                    replace X := Aside0.mk (blk_below X.out hb39)
                    replace XB := Aside0.mk (blk_below XB.out hb39)
                    replace RY := Aside0.mk (C_pair43 RY.out hb39)
                    replace BE := Aside0.mk (blk_below BE.out hb39)
                    replace BD := Aside0.mk (blk_below BD.out hb39)
                    replace BO := Aside0.mk (blk_below BO.out hb39)
                    clear hb39
                    obtain ⟨gBP, hgBP⟩ : ∃ g, w38.heap.size = g := ⟨_, rfl⟩
                    rw [hgBP] at BP ⊢
                    clear hgBP
                    generalize w38.alloc (.cells #[.int .i64 p1, .int .i64 p2] 28) = w39 at BP KB X XB RY BE BD BO ⊢
                    have qX0 : w39.cell? ⟨w.heap.size, 0, none⟩ = some (.int .i64 L) := (blk_cell X.out 0).trans rfl
                    have qX1 : w39.cell? ⟨w.heap.size, 1, none⟩ = some (.int .i64 st) := (blk_cell X.out 1).trans rfl
                    have qX2 : w39.cell? ⟨w.heap.size, 2, none⟩ = some (.slice A l.length c) := (blk_cell X.out 2).trans rfl
                    have lX := blk_lt X.out
                    have qXB0 : w39.cell? ⟨w2.heap.size, 0, none⟩ = some (.int .i64 L) := (blk_cell XB.out 0).trans rfl
                    have qXB1 : w39.cell? ⟨w2.heap.size, 1, none⟩ = some (.int .i64 st) := (blk_cell XB.out 1).trans rfl
                    have qXB2 : w39.cell? ⟨w2.heap.size, 2, none⟩ = some (.slice (some ⟨g6, 0, none⟩) l.length cap6) := (blk_cell XB.out 2).trans rfl
                    have lXB := blk_lt XB.out
                    have qBE0 : w39.cell? ⟨gBE, 0, none⟩ = some (.int .i64 e1) := (blk_cell BE.out 0).trans rfl
                    have qBE1 : w39.cell? ⟨gBE, 1, none⟩ = some (.int .i64 e2) := (blk_cell BE.out 1).trans rfl
                    have lBE := blk_lt BE.out
                    have qBD0 : w39.cell? ⟨gBD, 0, none⟩ = some (.int .i64 d1) := (blk_cell BD.out 0).trans rfl
                    have qBD1 : w39.cell? ⟨gBD, 1, none⟩ = some (.int .i64 d2) := (blk_cell BD.out 1).trans rfl
                    have lBD := blk_lt BD.out
                    have qBO0 : w39.cell? ⟨gBO, 0, none⟩ = some (.int .i64 o1) := (blk_cell BO.out 0).trans rfl
                    have qBO1 : w39.cell? ⟨gBO, 1, none⟩ = some (.int .i64 o2) := (blk_cell BO.out 1).trans rfl
                    have lBO := blk_lt BO.out
                    have qBP0 : w39.cell? ⟨gBP, 0, none⟩ = some (.int .i64 p1) := (blk_cell BP.out 0).trans rfl
                    have qBP1 : w39.cell? ⟨gBP, 1, none⟩ = some (.int .i64 p2) := (blk_cell BP.out 1).trans rfl
                    have lBP := blk_lt BP.out
                    refine (awake_calls _).mono ?_
                    rintro e w40 ⟨rfl, hb40⟩
                    clear qX0 qX1 qX2 qXB0 qXB1 qXB2 qBE0 qBE1 qBD0 qBD1 qBO0 qBO1 qBP0 qBP1 lX lXB lBE lBD lBO lBP
                    replace KB := Aside0.mk (KB.out.trans (hb40.mono KB.out.size))
                    replace X := Aside0.mk (blk_below X.out hb40)
                    replace XB := Aside0.mk (blk_below XB.out hb40)
                    replace RY := Aside0.mk (C_pair43 RY.out hb40)
                    replace BE := Aside0.mk (blk_below BE.out hb40)
                    replace BD := Aside0.mk (blk_below BD.out hb40)
                    replace BO := Aside0.mk (blk_below BO.out hb40)
                    replace BP := Aside0.mk (blk_below BP.out hb40)
                    clear hb40
                    have qX0 : w40.cell? ⟨w.heap.size, 0, none⟩ = some (.int .i64 L) := (blk_cell X.out 0).trans rfl
                    have qX1 : w40.cell? ⟨w.heap.size, 1, none⟩ = some (.int .i64 st) := (blk_cell X.out 1).trans rfl
                    have qX2 : w40.cell? ⟨w.heap.size, 2, none⟩ = some (.slice A l.length c) := (blk_cell X.out 2).trans rfl
                    have lX := blk_lt X.out
                    have qXB0 : w40.cell? ⟨w2.heap.size, 0, none⟩ = some (.int .i64 L) := (blk_cell XB.out 0).trans rfl
                    have qXB1 : w40.cell? ⟨w2.heap.size, 1, none⟩ = some (.int .i64 st) := (blk_cell XB.out 1).trans rfl
                    have qXB2 : w40.cell? ⟨w2.heap.size, 2, none⟩ = some (.slice (some ⟨g6, 0, none⟩) l.length cap6) := (blk_cell XB.out 2).trans rfl
                    have lXB := blk_lt XB.out
                    have qBE0 : w40.cell? ⟨gBE, 0, none⟩ = some (.int .i64 e1) := (blk_cell BE.out 0).trans rfl
                    have qBE1 : w40.cell? ⟨gBE, 1, none⟩ = some (.int .i64 e2) := (blk_cell BE.out 1).trans rfl
                    have lBE := blk_lt BE.out
                    have qBD0 : w40.cell? ⟨gBD, 0, none⟩ = some (.int .i64 d1) := (blk_cell BD.out 0).trans rfl
                    have qBD1 : w40.cell? ⟨gBD, 1, none⟩ = some (.int .i64 d2) := (blk_cell BD.out 1).trans rfl
                    have lBD := blk_lt BD.out
                    have qBO0 : w40.cell? ⟨gBO, 0, none⟩ = some (.int .i64 o1) := (blk_cell BO.out 0).trans rfl
                    have qBO1 : w40.cell? ⟨gBO, 1, none⟩ = some (.int .i64 o2) := (blk_cell BO.out 1).trans rfl
                    have lBO := blk_lt BO.out
                    have qBP0 : w40.cell? ⟨gBP, 0, none⟩ = some (.int .i64 p1) := (blk_cell BP.out 0).trans rfl
                    have qBP1 : w40.cell? ⟨gBP, 1, none⟩ = some (.int .i64 p2) := (blk_cell BP.out 1).trans rfl
                    have lBP := blk_lt BP.out
                    go_wp2_with fail
                    go_ret
                    exact ⟨rfl, KB.out⟩
                  · have n1 : (i1 == 0) = false := beq_eq_false_iff_ne.2 hi1
                    have n2 : (i1 != 0) = true := bne_iff_ne.2 hi1
                    clear M4 hi1
                    go_wp2_with fail
                    clear qX0 qX1 qX2 qXB0 qXB1 qXB2 qBE0 qBE1 qBD0 qBD1 qBO0 qBO1 lX lXB lBE lBD lBO
                    have BP := Aside0.mk (blk_new w38 (.cells #[.int .i64 p1, .int .i64 p2] 28))
                    have hb41 : Below w38.heap.size w38 (w38.alloc (.cells #[.int .i64 p1, .int .i64 p2] 28)) := (Below.refl _ _).alloc (Nat.le_refl _) _
                    replace KB := Aside0.mk (KB.out.trans (hb41.mono KB.out.size))
                    replace X := Aside0.mk (blk_below X.out hb41)
                    replace XB := Aside0.mk (blk_below XB.out hb41)
                    replace RY := Aside0.mk (C_pair43 RY.out hb41)
                    replace BE := Aside0.mk (blk_below BE.out hb41)
                    replace BD := Aside0.mk (blk_below BD.out hb41)
                    replace BO := Aside0.mk (blk_below BO.out hb41)
                    clear hb41
                    obtain ⟨gBP, hgBP⟩ : ∃ g, w38.heap.size = g := ⟨_, rfl⟩
                    rw [hgBP] at BP ⊢
                    clear hgBP
                    generalize w38.alloc (.cells #[.int .i64 p1, .int .i64 p2] 28) = w41 at BP KB X XB RY BE BD BO ⊢
                    have qX0 : w41.cell? ⟨w.heap.size, 0, none⟩ = some (.int .i64 L) := (blk_cell X.out 0).trans rfl
                    have qX1 : w41.cell? ⟨w.heap.size, 1, none⟩ = some (.int .i64 st) := (blk_cell X.out 1).trans rfl
                    have qX2 : w41.cell? ⟨w.heap.size, 2, none⟩ = some (.slice A l.length c) := (blk_cell X.out 2).trans rfl
                    have lX := blk_lt X.out
                    have qXB0 : w41.cell? ⟨w2.heap.size, 0, none⟩ = some (.int .i64 L) := (blk_cell XB.out 0).trans rfl
                    have qXB1 : w41.cell? ⟨w2.heap.size, 1, none⟩ = some (.int .i64 st) := (blk_cell XB.out 1).trans rfl
                    have qXB2 : w41.cell? ⟨w2.heap.size, 2, none⟩ = some (.slice (some ⟨g6, 0, none⟩) l.length cap6) := (blk_cell XB.out 2).trans rfl
                    have lXB := blk_lt XB.out
                    have qBE0 : w41.cell? ⟨gBE, 0, none⟩ = some (.int .i64 e1) := (blk_cell BE.out 0).trans rfl
                    have qBE1 : w41.cell? ⟨gBE, 1, none⟩ = some (.int .i64 e2) := (blk_cell BE.out 1).trans rfl
                    have lBE := blk_lt BE.out
                    have qBD0 : w41.cell? ⟨gBD, 0, none⟩ = some (.int .i64 d1) := (blk_cell BD.out 0).trans rfl
                    have qBD1 : w41.cell? ⟨gBD, 1, none⟩ = some (.int .i64 d2) := (blk_cell BD.out 1).trans rfl
                    have lBD := blk_lt BD.out
                    have qBO0 : w41.cell? ⟨gBO, 0, none⟩ = some (.int .i64 o1) := (blk_cell BO.out 0).trans rfl
                    have qBO1 : w41.cell? ⟨gBO, 1, none⟩ = some (.int .i64 o2) := (blk_cell BO.out 1).trans rfl
                    have lBO := blk_lt BO.out
                    have qBP0 : w41.cell? ⟨gBP, 0, none⟩ = some (.int .i64 p1) := (blk_cell BP.out 0).trans rfl
                    have qBP1 : w41.cell? ⟨gBP, 1, none⟩ = some (.int .i64 p2) := (blk_cell BP.out 1).trans rfl
                    have lBP := blk_lt BP.out
                    refine (awake_calls _).mono ?_
                    rintro e w42 ⟨rfl, hb42⟩
                    clear qX0 qX1 qX2 qXB0 qXB1 qXB2 qBE0 qBE1 qBD0 qBD1 qBO0 qBO1 qBP0 qBP1 lX lXB lBE lBD lBO lBP
                    replace KB := Aside0.mk (KB.out.trans (hb42.mono KB.out.size))
                    replace X := Aside0.mk (blk_below X.out hb42)
                    replace XB := Aside0.mk (blk_below XB.out hb42)
                    replace RY := Aside0.mk (C_pair43 RY.out hb42)
                    replace BE := Aside0.mk (blk_below BE.out hb42)
                    replace BD := Aside0.mk (blk_below BD.out hb42)
                    replace BO := Aside0.mk (blk_below BO.out hb42)
                    replace BP := Aside0.mk (blk_below BP.out hb42)
                    clear hb42
                    have qX0 : w42.cell? ⟨w.heap.size, 0, none⟩ = some (.int .i64 L) := (blk_cell X.out 0).trans rfl
                    have qX1 : w42.cell? ⟨w.heap.size, 1, none⟩ = some (.int .i64 st) := (blk_cell X.out 1).trans rfl
                    have qX2 : w42.cell? ⟨w.heap.size, 2, none⟩ = some (.slice A l.length c) := (blk_cell X.out 2).trans rfl
                    have lX := blk_lt X.out
                    have qXB0 : w42.cell? ⟨w2.heap.size, 0, none⟩ = some (.int .i64 L) := (blk_cell XB.out 0).trans rfl
                    have qXB1 : w42.cell? ⟨w2.heap.size, 1, none⟩ = some (.int .i64 st) := (blk_cell XB.out 1).trans rfl
                    have qXB2 : w42.cell? ⟨w2.heap.size, 2, none⟩ = some (.slice (some ⟨g6, 0, none⟩) l.length cap6) := (blk_cell XB.out 2).trans rfl
                    have lXB := blk_lt XB.out
                    have qBE0 : w42.cell? ⟨gBE, 0, none⟩ = some (.int .i64 e1) := (blk_cell BE.out 0).trans rfl
                    have qBE1 : w42.cell? ⟨gBE, 1, none⟩ = some (.int .i64 e2) := (blk_cell BE.out 1).trans rfl
                    have lBE := blk_lt BE.out
                    have qBD0 : w42.cell? ⟨gBD, 0, none⟩ = some (.int .i64 d1) := (blk_cell BD.out 0).trans rfl
                    have qBD1 : w42.cell? ⟨gBD, 1, none⟩ = some (.int .i64 d2) := (blk_cell BD.out 1).trans rfl
                    have lBD := blk_lt BD.out
                    have qBO0 : w42.cell? ⟨gBO, 0, none⟩ = some (.int .i64 o1) := (blk_cell BO.out 0).trans rfl
                    have qBO1 : w42.cell? ⟨gBO, 1, none⟩ = some (.int .i64 o2) := (blk_cell BO.out 1).trans rfl
                    have lBO := blk_lt BO.out
                    have qBP0 : w42.cell? ⟨gBP, 0, none⟩ = some (.int .i64 p1) := (blk_cell BP.out 0).trans rfl
                    have qBP1 : w42.cell? ⟨gBP, 1, none⟩ = some (.int .i64 p2) := (blk_cell BP.out 1).trans rfl
                    have lBP := blk_lt BP.out
                    go_wp2_with fail
                    go_ret
                    exact ⟨rfl, KB.out⟩
                | true =>
                  by_cases hi1 : i1 = 0
                  · subst hi1
                    obtain ⟨n1, n2, n3⟩ := M4 rfl
                    obtain rfl := n1
                    have n4 : decide (p1 ≤ o1) = true := decide_eq_true n2
                    have n5 : decide (o2 ≤ p2) = true := decide_eq_true n3
                    clear M4 n2 n3
                    go_wp2_with fail
                    clear qX0 qX1 qX2 qXB0 qXB1 qXB2 qBE0 qBE1 qBD0 qBD1 qBO0 qBO1 lX lXB lBE lBD lBO
                    have BP := Aside0.mk (blk_new w38 (.cells #[.int .i64 p1, .int .i64 p2] 28))
                    have hb43 : Below w38.heap.size w38 (w38.alloc (.cells #[.int .i64 p1, .int .i64 p2] 28)) := (Below.refl _ _).alloc (Nat.le_refl _) _
                    replace KB := Aside0.mk (KB.out.trans (hb43.mono KB.out.size))
                    replace X := Aside0.mk (blk_below X.out hb43)
                    replace XB := Aside0.mk (blk_below XB.out hb43)
                    replace RY := Aside0.mk (C_pair43 RY.out hb43)
                    replace BE := Aside0.mk (blk_below BE.out hb43)
                    replace BD := Aside0.mk (blk_below BD.out hb43)
                    replace BO := Aside0.mk (blk_below BO.out hb43)
                    clear hb43
                    obtain ⟨gBP, hgBP⟩ : ∃ g, w38.heap.size = g := ⟨_, rfl⟩
                    rw [hgBP] at BP ⊢
                    clear hgBP
                    generalize w38.alloc (.cells #[.int .i64 p1, .int .i64 p2] 28) = w43 at BP KB X XB RY BE BD BO ⊢
                    have qX0 : w43.cell? ⟨w.heap.size, 0, none⟩ = some (.int .i64 L) := (blk_cell X.out 0).trans rfl
                    have qX1 : w43.cell? ⟨w.heap.size, 1, none⟩ = some (.int .i64 st) := (blk_cell X.out 1).trans rfl
                    have qX2 : w43.cell? ⟨w.heap.size, 2, none⟩ = some (.slice A l.length c) := (blk_cell X.out 2).trans rfl
                    have lX := blk_lt X.out
                    have qXB0 : w43.cell? ⟨w2.heap.size, 0, none⟩ = some (.int .i64 L) := (blk_cell XB.out 0).trans rfl
                    have qXB1 : w43.cell? ⟨w2.heap.size, 1, none⟩ = some (.int .i64 st) := (blk_cell XB.out 1).trans rfl
                    have qXB2 : w43.cell? ⟨w2.heap.size, 2, none⟩ = some (.slice (some ⟨g6, 0, none⟩) l.length cap6) := (blk_cell XB.out 2).trans rfl
                    have lXB := blk_lt XB.out
                    have qBE0 : w43.cell? ⟨gBE, 0, none⟩ = some (.int .i64 e1) := (blk_cell BE.out 0).trans rfl
                    have qBE1 : w43.cell? ⟨gBE, 1, none⟩ = some (.int .i64 e2) := (blk_cell BE.out 1).trans rfl
                    have lBE := blk_lt BE.out
                    have qBD0 : w43.cell? ⟨gBD, 0, none⟩ = some (.int .i64 d1) := (blk_cell BD.out 0).trans rfl
                    have qBD1 : w43.cell? ⟨gBD, 1, none⟩ = some (.int .i64 d2) := (blk_cell BD.out 1).trans rfl
                    have lBD := blk_lt BD.out
                    have qBO0 : w43.cell? ⟨gBO, 0, none⟩ = some (.int .i64 o1) := (blk_cell BO.out 0).trans rfl
                    have qBO1 : w43.cell? ⟨gBO, 1, none⟩ = some (.int .i64 o2) := (blk_cell BO.out 1).trans rfl
                    have lBO := blk_lt BO.out
                    have qBP0 : w43.cell? ⟨gBP, 0, none⟩ = some (.int .i64 p1) := (blk_cell BP.out 0).trans rfl
                    have qBP1 : w43.cell? ⟨gBP, 1, none⟩ = some (.int .i64 p2) := (blk_cell BP.out 1).trans rfl
                    have lBP := blk_lt BP.out
                    refine (awake_calls _).mono ?_
                    rintro e w44 ⟨rfl, hb44⟩
                    clear qX0 qX1 qX2 qXB0 qXB1 qXB2 qBE0 qBE1 qBD0 qBD1 qBO0 qBO1 qBP0 qBP1 lX lXB lBE lBD lBO lBP
                    replace KB := Aside0.mk (KB.out.trans (hb44.mono KB.out.size))
                    replace X := Aside0.mk (blk_below X.out hb44)
                    replace XB := Aside0.mk (blk_below XB.out hb44)
                    replace RY := Aside0.mk (C_pair43 RY.out hb44)
                    replace BE := Aside0.mk (blk_below BE.out hb44)
                    replace BD := Aside0.mk (blk_below BD.out hb44)
                    replace BO := Aside0.mk (blk_below BO.out hb44)
                    replace BP := Aside0.mk (blk_below BP.out hb44)
                    clear hb44
                    have qX0 : w44.cell? ⟨w.heap.size, 0, none⟩ = some (.int .i64 L) := (blk_cell X.out 0).trans rfl
                    have qX1 : w44.cell? ⟨w.heap.size, 1, none⟩ = some (.int .i64 st) := (blk_cell X.out 1).trans rfl
                    have qX2 : w44.cell? ⟨w.heap.size, 2, none⟩ = some (.slice A l.length c) := (blk_cell X.out 2).trans rfl
                    have lX := blk_lt X.out
                    have qXB0 : w44.cell? ⟨w2.heap.size, 0, none⟩ = some (.int .i64 L) := (blk_cell XB.out 0).trans rfl
                    have qXB1 : w44.cell? ⟨w2.heap.size, 1, none⟩ = some (.int .i64 st) := (blk_cell XB.out 1).trans rfl
                    have qXB2 : w44.cell? ⟨w2.heap.size, 2, none⟩ = some (.slice (some ⟨g6, 0, none⟩) l.length cap6) := (blk_cell XB.out 2).trans rfl
                    have lXB := blk_lt XB.out
                    have qBE0 : w44.cell? ⟨gBE, 0, none⟩ = some (.int .i64 e1) := (blk_cell BE.out 0).trans rfl
                    have qBE1 : w44.cell? ⟨gBE, 1, none⟩ = some (.int .i64 e2) := (blk_cell BE.out 1).trans rfl
                    have lBE := blk_lt BE.out
                    have qBD0 : w44.cell? ⟨gBD, 0, none⟩ = some (.int .i64 d1) := (blk_cell BD.out 0).trans rfl
                    have qBD1 : w44.cell? ⟨gBD, 1, none⟩ = some (.int .i64 d2) := (blk_cell BD.out 1).trans rfl
                    have lBD := blk_lt BD.out
                    have qBO0 : w44.cell? ⟨gBO, 0, none⟩ = some (.int .i64 o1) := (blk_cell BO.out 0).trans rfl
                    have qBO1 : w44.cell? ⟨gBO, 1, none⟩ = some (.int .i64 o2) := (blk_cell BO.out 1).trans rfl
                    have lBO := blk_lt BO.out
                    have qBP0 : w44.cell? ⟨gBP, 0, none⟩ = some (.int .i64 p1) := (blk_cell BP.out 0).trans rfl
                    have qBP1 : w44.cell? ⟨gBP, 1, none⟩ = some (.int .i64 p2) := (blk_cell BP.out 1).trans rfl
                    have lBP := blk_lt BP.out
                    go_wp2_with fail
                    go_ret
                    exact ⟨rfl, KB.out⟩
                  · have n1 : (i1 == 0) = false := beq_eq_false_iff_ne.2 hi1
                    have n2 : (i1 != 0) = true := bne_iff_ne.2 hi1
                    clear M4 hi1
                    go_wp2_with fail
                    clear qX0 qX1 qX2 qXB0 qXB1 qXB2 qBE0 qBE1 qBD0 qBD1 qBO0 qBO1 lX lXB lBE lBD lBO
                    have BP := Aside0.mk (blk_new w38 (.cells #[.int .i64 p1, .int .i64 p2] 28))
                    have hb45 : Below w38.heap.size w38 (w38.alloc (.cells #[.int .i64 p1, .int .i64 p2] 28)) := (Below.refl _ _).alloc (Nat.le_refl _) _
                    replace KB := Aside0.mk (KB.out.trans (hb45.mono KB.out.size))
                    replace X := Aside0.mk (blk_below X.out hb45)
                    replace XB := Aside0.mk (blk_below XB.out hb45)
                    replace RY := Aside0.mk (C_pair43 RY.out hb45)
                    replace BE := Aside0.mk (blk_below BE.out hb45)
                    replace BD := Aside0.mk (blk_below BD.out hb45)
                    replace BO := Aside0.mk (blk_below BO.out hb45)
                    clear hb45
                    obtain ⟨gBP, hgBP⟩ : ∃ g, w38.heap.size = g := ⟨_, rfl⟩
                    rw [hgBP] at BP ⊢
                    clear hgBP
                    generalize w38.alloc (.cells #[.int .i64 p1, .int .i64 p2] 28) = w45 at BP KB X XB RY BE BD BO ⊢
                    have qX0 : w45.cell? ⟨w.heap.size, 0, none⟩ = some (.int .i64 L) := (blk_cell X.out 0).trans rfl
                    have qX1 : w45.cell? ⟨w.heap.size, 1, none⟩ = some (.int .i64 st) := (blk_cell X.out 1).trans rfl
                    have qX2 : w45.cell? ⟨w.heap.size, 2, none⟩ = some (.slice A l.length c) := (blk_cell X.out 2).trans rfl
                    have lX := blk_lt X.out
                    have qXB0 : w45.cell? ⟨w2.heap.size, 0, none⟩ = some (.int .i64 L) := (blk_cell XB.out 0).trans rfl
                    have qXB1 : w45.cell? ⟨w2.heap.size, 1, none⟩ = some (.int .i64 st) := (blk_cell XB.out 1).trans rfl
                    have qXB2 : w45.cell? ⟨w2.heap.size, 2, none⟩ = some (.slice (some ⟨g6, 0, none⟩) l.length cap6) := (blk_cell XB.out 2).trans rfl
                    have lXB := blk_lt XB.out
                    have qBE0 : w45.cell? ⟨gBE, 0, none⟩ = some (.int .i64 e1) := (blk_cell BE.out 0).trans rfl
                    have qBE1 : w45.cell? ⟨gBE, 1, none⟩ = some (.int .i64 e2) := (blk_cell BE.out 1).trans rfl
                    have lBE := blk_lt BE.out
                    have qBD0 : w45.cell? ⟨gBD, 0, none⟩ = some (.int .i64 d1) := (blk_cell BD.out 0).trans rfl
                    have qBD1 : w45.cell? ⟨gBD, 1, none⟩ = some (.int .i64 d2) := (blk_cell BD.out 1).trans rfl
                    have lBD := blk_lt BD.out
                    have qBO0 : w45.cell? ⟨gBO, 0, none⟩ = some (.int .i64 o1) := (blk_cell BO.out 0).trans rfl
                    have qBO1 : w45.cell? ⟨gBO, 1, none⟩ = some (.int .i64 o2) := (blk_cell BO.out 1).trans rfl
                    have lBO := blk_lt BO.out
                    have qBP0 : w45.cell? ⟨gBP, 0, none⟩ = some (.int .i64 p1) := (blk_cell BP.out 0).trans rfl
                    have qBP1 : w45.cell? ⟨gBP, 1, none⟩ = some (.int .i64 p2) := (blk_cell BP.out 1).trans rfl
                    have lBP := blk_lt BP.out
                    refine (awake_calls _).mono ?_
                    rintro e w46 ⟨rfl, hb46⟩
                    clear qX0 qX1 qX2 qXB0 qXB1 qXB2 qBE0 qBE1 qBD0 qBD1 qBO0 qBO1 qBP0 qBP1 lX lXB lBE lBD lBO lBP
                    replace KB := Aside0.mk (KB.out.trans (hb46.mono KB.out.size))
                    replace X := Aside0.mk (blk_below X.out hb46)
                    replace XB := Aside0.mk (blk_below XB.out hb46)
                    replace RY := Aside0.mk (C_pair43 RY.out hb46)
                    replace BE := Aside0.mk (blk_below BE.out hb46)
                    replace BD := Aside0.mk (blk_below BD.out hb46)
                    replace BO := Aside0.mk (blk_below BO.out hb46)
                    replace BP := Aside0.mk (blk_below BP.out hb46)
                    clear hb46
                    have qX0 : w46.cell? ⟨w.heap.size, 0, none⟩ = some (.int .i64 L) := (blk_cell X.out 0).trans rfl
                    have qX1 : w46.cell? ⟨w.heap.size, 1, none⟩ = some (.int .i64 st) := (blk_cell X.out 1).trans rfl
                    have qX2 : w46.cell? ⟨w.heap.size, 2, none⟩ = some (.slice A l.length c) := (blk_cell X.out 2).trans rfl
                    have lX := blk_lt X.out
                    have qXB0 : w46.cell? ⟨w2.heap.size, 0, none⟩ = some (.int .i64 L) := (blk_cell XB.out 0).trans rfl
                    have qXB1 : w46.cell? ⟨w2.heap.size, 1, none⟩ = some (.int .i64 st) := (blk_cell XB.out 1).trans rfl
                    have qXB2 : w46.cell? ⟨w2.heap.size, 2, none⟩ = some (.slice (some ⟨g6, 0, none⟩) l.length cap6) := (blk_cell XB.out 2).trans rfl
                    have lXB := blk_lt XB.out
                    have qBE0 : w46.cell? ⟨gBE, 0, none⟩ = some (.int .i64 e1) := (blk_cell BE.out 0).trans rfl
                    have qBE1 : w46.cell? ⟨gBE, 1, none⟩ = some (.int .i64 e2) := (blk_cell BE.out 1).trans rfl
                    have lBE := blk_lt BE.out
                    have qBD0 : w46.cell? ⟨gBD, 0, none⟩ = some (.int .i64 d1) := (blk_cell BD.out 0).trans rfl
                    have qBD1 : w46.cell? ⟨gBD, 1, none⟩ = some (.int .i64 d2) := (blk_cell BD.out 1).trans rfl
                    have lBD := blk_lt BD.out
                    have qBO0 : w46.cell? ⟨gBO, 0, none⟩ = some (.int .i64 o1) := (blk_cell BO.out 0).trans rfl
                    have qBO1 : w46.cell? ⟨gBO, 1, none⟩ = some (.int .i64 o2) := (blk_cell BO.out 1).trans rfl
                    have lBO := blk_lt BO.out
                    have qBP0 : w46.cell? ⟨gBP, 0, none⟩ = some (.int .i64 p1) := (blk_cell BP.out 0).trans rfl
                    have qBP1 : w46.cell? ⟨gBP, 1, none⟩ = some (.int .i64 p2) := (blk_cell BP.out 1).trans rfl
                    have lBP := blk_lt BP.out
                    go_wp2_with fail
                    go_ret
                    exact ⟨rfl, KB.out⟩
            · obtain rfl : pv = 9 := P09.resolve_left hp
              have HMN : Aside0 (mv = 0) := ⟨by rw [← HMV.out]; exact many_n (by rw [HPV.out]; decide)⟩
              obtain rfl := HMN.out
              clear HMN P09 hp
              cases lv with
              | false =>
                go_wp2_with fail
                refine (awake_calls _).mono ?_
                rintro e w47 ⟨rfl, hb47⟩
                clear qX0 qX1 qX2 qXB0 qXB1 qXB2 lX lXB
                replace KB := Aside0.mk (KB.out.trans (hb47.mono KB.out.size))
                replace X := Aside0.mk (blk_below X.out hb47)
                replace XB := Aside0.mk (blk_below XB.out hb47)
                replace RY := Aside0.mk (C_pair43 RY.out hb47)
                clear hb47
                have qX0 : w47.cell? ⟨w.heap.size, 0, none⟩ = some (.int .i64 L) := (blk_cell X.out 0).trans rfl
                have qX1 : w47.cell? ⟨w.heap.size, 1, none⟩ = some (.int .i64 st) := (blk_cell X.out 1).trans rfl
                have qX2 : w47.cell? ⟨w.heap.size, 2, none⟩ = some (.slice A l.length c) := (blk_cell X.out 2).trans rfl
                have lX := blk_lt X.out
                have qXB0 : w47.cell? ⟨w2.heap.size, 0, none⟩ = some (.int .i64 L) := (blk_cell XB.out 0).trans rfl
                have qXB1 : w47.cell? ⟨w2.heap.size, 1, none⟩ = some (.int .i64 st) := (blk_cell XB.out 1).trans rfl
                have qXB2 : w47.cell? ⟨w2.heap.size, 2, none⟩ = some (.slice (some ⟨g6, 0, none⟩) l.length cap6) := (blk_cell XB.out 2).trans rfl
                have lXB := blk_lt XB.out
                go_wp2_with fail
                go_ret
                exact ⟨rfl, KB.out⟩
              | true =>
                go_wp2_with fail
                refine (awake_calls _).mono ?_
                rintro e w48 ⟨rfl, hb48⟩
                clear qX0 qX1 qX2 qXB0 qXB1 qXB2 lX lXB
                replace KB := Aside0.mk (KB.out.trans (hb48.mono KB.out.size))
                replace X := Aside0.mk (blk_below X.out hb48)
                replace XB := Aside0.mk (blk_below XB.out hb48)
                replace RY := Aside0.mk (C_pair43 RY.out hb48)
                clear hb48
                have qX0 : w48.cell? ⟨w.heap.size, 0, none⟩ = some (.int .i64 L) := (blk_cell X.out 0).trans rfl
                have qX1 : w48.cell? ⟨w.heap.size, 1, none⟩ = some (.int .i64 st) := (blk_cell X.out 1).trans rfl
                have qX2 : w48.cell? ⟨w.heap.size, 2, none⟩ = some (.slice A l.length c) := (blk_cell X.out 2).trans rfl
                have lX := blk_lt X.out
                have qXB0 : w48.cell? ⟨w2.heap.size, 0, none⟩ = some (.int .i64 L) := (blk_cell XB.out 0).trans rfl
                have qXB1 : w48.cell? ⟨w2.heap.size, 1, none⟩ = some (.int .i64 st) := (blk_cell XB.out 1).trans rfl
                have qXB2 : w48.cell? ⟨w2.heap.size, 2, none⟩ = some (.slice (some ⟨g6, 0, none⟩) l.length cap6) := (blk_cell XB.out 2).trans rfl
                have lXB := blk_lt XB.out
                go_wp2_with fail
                go_ret
                exact ⟨rfl, KB.out⟩
end Go.Proofs.Ytkglggggmlnleaa.Print
