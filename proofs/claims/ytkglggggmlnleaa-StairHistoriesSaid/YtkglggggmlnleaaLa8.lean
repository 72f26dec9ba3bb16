/- The law of the histories, walked by hand. -/
import Derived.Test.YtkglggggmlnleaaSc
import Derived.Test.YtkglggggmlnleaaPr
namespace Go.Proofs.Ytkglggggmlnleaa.Print
open Go.RowKit Go.Proofs.YtkglggggmlnleaaW.PrintWords Go.Proofs.YtkglggggmlnleaaW.PrintLast Go.Proofs.YtkglggggmlnleaaW.PrintMore
set_option linter.unusedVariables false
set_option linter.unusedSimpArgs false
set_option maxHeartbeats 4000000 in
set_option maxRecDepth 100000 in
theorem law_histories (L st : Int) (A : Option Addr) (c : Nat) (l : List S43) (Ar : Option Addr) (cr : Nat) (rs : List Int) (w : World) (hr : Kd.C k43 w A l.length l) (hc : l.length ≤ c) (hr1 : Kd.C (Kd.int .u8) w Ar rs.length rs) (hc1 : rs.length ≤ cr) (hl : l.length < 8796093022208) (hu : ∀ r ∈ rs, 0 ≤ r) :
    Calls Try.prog 8 #[.agg #[.int .i64 L, .int .i64 st, .slice A l.length c], .slice Ar rs.length cr] w fun e w' => e = .returned (.bool true) ∧ Below w.heap.size w w' := by
  have hu24 := Try.underlying24
  have HR := Aside0.mk hr
  have HC := Aside0.mk hc
  have HRA := Aside0.mk hr1
  have HCA := Aside0.mk hc1
  have HU := Aside0.mk hu
  clear hr hc hr1 hc1 hu
  have KB : Aside0 (Below w.heap.size w (w.alloc (.cells #[.int .i64 L, .int .i64 st, .slice A l.length c] 24))) := ⟨(Below.refl _ w).alloc (by simp) _⟩
  have X := Aside0.mk (blk_new w (.cells #[.int .i64 L, .int .i64 st, .slice A l.length c] 24))
  obtain ⟨xs, hxs⟩ : ∃ xs, l.map up = xs := ⟨_, rfl⟩
  have HX := Aside0.mk hxs
  clear hxs
  have HLT : Aside0 (w.heap.size < (w.alloc (.cells #[.int .i64 L, .int .i64 st, .slice A l.length c] 24)).heap.size) := ⟨by simp⟩
  go_enter Try.func8, Try.ntmps8
  go_wp2_with fail
  generalize w.alloc (.cells #[.int .i64 L, .int .i64 st, .slice A l.length c] 24) = w0 at KB X HLT ⊢
  have qX0 : w0.cell? ⟨w.heap.size, 0, none⟩ = some (.int .i64 L) := (blk_cell X.out 0).trans rfl
  have qX1 : w0.cell? ⟨w.heap.size, 1, none⟩ = some (.int .i64 st) := (blk_cell X.out 1).trans rfl
  have qX2 : w0.cell? ⟨w.heap.size, 2, none⟩ = some (.slice A l.length c) := (blk_cell X.out 2).trans rfl
  obtain ⟨tb, htb⟩ : ∃ tb, decide (l.length ≤ 20) = tb := ⟨_, rfl⟩
  have HTB := Aside0.mk htb
  clear htb
  refine (thin_calls L st A c l _ (Kd.C_below HR.out KB.out) HC.out tb HTB.out).mono ?_
  rintro e w1 ⟨rfl, hb1⟩
  clear qX0 qX1 qX2
  replace KB := Aside0.mk (KB.out.trans (hb1.mono KB.out.size))
  replace X := Aside0.mk (blk_below X.out hb1)
  clear hb1
  have qX0 : w1.cell? ⟨w.heap.size, 0, none⟩ = some (.int .i64 L) := (blk_cell X.out 0).trans rfl
  have qX1 : w1.cell? ⟨w.heap.size, 1, none⟩ = some (.int .i64 st) := (blk_cell X.out 1).trans rfl
  have qX2 : w1.cell? ⟨w.heap.size, 2, none⟩ = some (.slice A l.length c) := (blk_cell X.out 2).trans rfl
  cases tb with
  | false =>
    go_wp2_with fail
    refine (awake_calls _).mono ?_
    rintro e w2 ⟨rfl, hb2⟩
    clear qX0 qX1 qX2
    replace KB := Aside0.mk (KB.out.trans (hb2.mono KB.out.size))
    replace X := Aside0.mk (blk_below X.out hb2)
    clear hb2
    have qX0 : w2.cell? ⟨w.heap.size, 0, none⟩ = some (.int .i64 L) := (blk_cell X.out 0).trans rfl
    have qX1 : w2.cell? ⟨w.heap.size, 1, none⟩ = some (.int .i64 st) := (blk_cell X.out 1).trans rfl
    have qX2 : w2.cell? ⟨w.heap.size, 2, none⟩ = some (.slice A l.length c) := (blk_cell X.out 2).trans rfl
    go_wp2_with fail
    go_ret
    exact ⟨rfl, KB.out⟩
  | true =>
    have hl20 : l.length ≤ 20 := of_decide_eq_true HTB.out
    by_cases h20 : 20 < rs.length
    · have h20b : decide (20 < (rs.length : Int)) = true := decide_eq_true (by omega)
      clear h20
      go_wp2_with fail
      refine (awake_calls _).mono ?_
      rintro e w3 ⟨rfl, hb3⟩
      clear qX0 qX1 qX2
      replace KB := Aside0.mk (KB.out.trans (hb3.mono KB.out.size))
      replace X := Aside0.mk (blk_below X.out hb3)
      clear hb3
      have qX0 : w3.cell? ⟨w.heap.size, 0, none⟩ = some (.int .i64 L) := (blk_cell X.out 0).trans rfl
      have qX1 : w3.cell? ⟨w.heap.size, 1, none⟩ = some (.int .i64 st) := (blk_cell X.out 1).trans rfl
      have qX2 : w3.cell? ⟨w.heap.size, 2, none⟩ = some (.slice A l.length c) := (blk_cell X.out 2).trans rfl
      go_wp2_with fail
      go_ret
      exact ⟨rfl, KB.out⟩
    · have h20b : decide (20 < (rs.length : Int)) = false := decide_eq_false (by omega)
      have hrs : rs.length ≤ 20 := by omega
      clear h20
      go_wp2_with fail
      refine (stairs_calls L st A c l _ (Kd.C_below HR.out KB.out) HC.out (by omega) xs HX.out).mono ?_
      rintro e w4 ⟨⟨A1, c1, rfl, HC1⟩, hb4⟩
      clear qX0 qX1 qX2
      replace KB := Aside0.mk (KB.out.trans (hb4.mono KB.out.size))
      replace X := Aside0.mk (blk_below X.out hb4)
      clear hb4
      have qX0 : w4.cell? ⟨w.heap.size, 0, none⟩ = some (.int .i64 L) := (blk_cell X.out 0).trans rfl
      have qX1 : w4.cell? ⟨w.heap.size, 1, none⟩ = some (.int .i64 st) := (blk_cell X.out 1).trans rfl
      have qX2 : w4.cell? ⟨w.heap.size, 2, none⟩ = some (.slice A l.length c) := (blk_cell X.out 2).trans rfl
      obtain ⟨ck, hck⟩ : ∃ ck, checkI L st xs = ck := ⟨_, rfl⟩
      have HCK := Aside0.mk hck
      clear hck
      obtain ⟨pv, hpv⟩ : ∃ pv, possI L st xs = pv := ⟨_, rfl⟩
      have HPV := Aside0.mk hpv
      clear hpv
      obtain ⟨mv, hmv⟩ : ∃ mv, manyI L st xs = mv := ⟨_, rfl⟩
      have HMV := Aside0.mk hmv
      clear hmv
      obtain ⟨pb, hpb⟩ : ∃ pb, proveB L st xs rs = pb := ⟨_, rfl⟩
      have HPB := Aside0.mk hpb
      clear hpb
      obtain ⟨hb, hhb⟩ : ∃ hb, (decide (rs.length = l.length) && walkB L st xs rs) = hb := ⟨_, rfl⟩
      have HHB := Aside0.mk hhb
      clear hhb
      go_wp2_with fail
      refine (check_calls L st A1 c1 xs _ HC1.out.1 HC1.out.2 (Kd.C_max HC1.out.1)).mono ?_
      rintro e w5 ⟨rfl, hb5⟩
      clear qX0 qX1 qX2
      replace KB := Aside0.mk (KB.out.trans (hb5.mono KB.out.size))
      replace X := Aside0.mk (blk_below X.out hb5)
      rw [HCK.out]
      clear hb5
      have qX0 : w5.cell? ⟨w.heap.size, 0, none⟩ = some (.int .i64 L) := (blk_cell X.out 0).trans rfl
      have qX1 : w5.cell? ⟨w.heap.size, 1, none⟩ = some (.int .i64 st) := (blk_cell X.out 1).trans rfl
      have qX2 : w5.cell? ⟨w.heap.size, 2, none⟩ = some (.slice A l.length c) := (blk_cell X.out 2).trans rfl
      go_wp2_with fail
      refine (stairs_calls L st A c l _ (Kd.C_below HR.out KB.out) HC.out (by omega) xs HX.out).mono ?_
      rintro e w6 ⟨⟨A2, c2, rfl, HC2⟩, hb6⟩
      clear qX0 qX1 qX2
      replace KB := Aside0.mk (KB.out.trans (hb6.mono KB.out.size))
      replace X := Aside0.mk (blk_below X.out hb6)
      clear hb6
      have qX0 : w6.cell? ⟨w.heap.size, 0, none⟩ = some (.int .i64 L) := (blk_cell X.out 0).trans rfl
      have qX1 : w6.cell? ⟨w.heap.size, 1, none⟩ = some (.int .i64 st) := (blk_cell X.out 1).trans rfl
      have qX2 : w6.cell? ⟨w.heap.size, 2, none⟩ = some (.slice A l.length c) := (blk_cell X.out 2).trans rfl
      go_wp2_with fail
      refine (count_calls L st A2 c2 xs _ HC2.out.1 HC2.out.2).mono ?_
      rintro e w7 ⟨rfl, hb7⟩
      clear qX0 qX1 qX2
      replace KB := Aside0.mk (KB.out.trans (hb7.mono KB.out.size))
      replace X := Aside0.mk (blk_below X.out hb7)
      rw [HMV.out, HPV.out]
      clear hb7
      have qX0 : w7.cell? ⟨w.heap.size, 0, none⟩ = some (.int .i64 L) := (blk_cell X.out 0).trans rfl
      have qX1 : w7.cell? ⟨w.heap.size, 1, none⟩ = some (.int .i64 st) := (blk_cell X.out 1).trans rfl
      have qX2 : w7.cell? ⟨w.heap.size, 2, none⟩ = some (.slice A l.length c) := (blk_cell X.out 2).trans rfl
      go_wp2_with fail
      refine (stairs_calls L st A c l _ (Kd.C_below HR.out KB.out) HC.out (by omega) xs HX.out).mono ?_
      rintro e w8 ⟨⟨A3, c3, rfl, HC3⟩, hb8⟩
      clear qX0 qX1 qX2
      replace KB := Aside0.mk (KB.out.trans (hb8.mono KB.out.size))
      replace X := Aside0.mk (blk_below X.out hb8)
      clear hb8
      have qX0 : w8.cell? ⟨w.heap.size, 0, none⟩ = some (.int .i64 L) := (blk_cell X.out 0).trans rfl
      have qX1 : w8.cell? ⟨w.heap.size, 1, none⟩ = some (.int .i64 st) := (blk_cell X.out 1).trans rfl
      have qX2 : w8.cell? ⟨w.heap.size, 2, none⟩ = some (.slice A l.length c) := (blk_cell X.out 2).trans rfl
      go_wp2_with fail
      refine (bytes_calls Ar cr rs _ (Kd.C_below HRA.out KB.out) HCA.out (by omega)).mono ?_
      rintro e w9 ⟨v5, rfl, hR5, hb9⟩
      clear qX0 qX1 qX2
      replace KB := Aside0.mk (KB.out.trans (hb9.mono KB.out.size))
      replace X := Aside0.mk (blk_below X.out hb9)
      replace HC3 := Aside0.mk (C_pair HC3.out hb9)
      obtain ⟨A5, c5, rfl, hc5, hC5⟩ := Kd.R_reads hR5
      have HC5 := Aside0.mk (And.intro hC5 hc5)
      clear hC5 hc5 hR5
      clear hb9
      have qX0 : w9.cell? ⟨w.heap.size, 0, none⟩ = some (.int .i64 L) := (blk_cell X.out 0).trans rfl
      have qX1 : w9.cell? ⟨w.heap.size, 1, none⟩ = some (.int .i64 st) := (blk_cell X.out 1).trans rfl
      have qX2 : w9.cell? ⟨w.heap.size, 2, none⟩ = some (.slice A l.length c) := (blk_cell X.out 2).trans rfl
      go_wp2_with fail
      refine (prove_calls L st A3 c3 xs A5 c5 rs _ HC3.out.1 HC3.out.2 HC5.out.1 HC5.out.2 HU.out).mono ?_
      rintro e w10 ⟨rfl, hb10⟩
      clear qX0 qX1 qX2
      replace KB := Aside0.mk (KB.out.trans (hb10.mono KB.out.size))
      replace X := Aside0.mk (blk_below X.out hb10)
      replace HC3 := Aside0.mk (C_pair HC3.out hb10)
      rw [HPB.out]
      clear hb10
      have qX0 : w10.cell? ⟨w.heap.size, 0, none⟩ = some (.int .i64 L) := (blk_cell X.out 0).trans rfl
      have qX1 : w10.cell? ⟨w.heap.size, 1, none⟩ = some (.int .i64 st) := (blk_cell X.out 1).trans rfl
      have qX2 : w10.cell? ⟨w.heap.size, 2, none⟩ = some (.slice A l.length c) := (blk_cell X.out 2).trans rfl
      go_wp2_with fail
      refine (fault_calls L st A c l _ (Kd.C_below HR.out KB.out) HC.out (by omega)).mono ?_
      rintro e w11 ⟨rfl, hb11⟩
      clear qX0 qX1 qX2
      replace KB := Aside0.mk (KB.out.trans (hb11.mono KB.out.size))
      replace X := Aside0.mk (blk_below X.out hb11)
      rw [HX.out, HCK.out]
      clear hb11
      have qX0 : w11.cell? ⟨w.heap.size, 0, none⟩ = some (.int .i64 L) := (blk_cell X.out 0).trans rfl
      have qX1 : w11.cell? ⟨w.heap.size, 1, none⟩ = some (.int .i64 st) := (blk_cell X.out 1).trans rfl
      have qX2 : w11.cell? ⟨w.heap.size, 2, none⟩ = some (.slice A l.length c) := (blk_cell X.out 2).trans rfl
      by_cases h0 : ck = 0
      · subst h0
        have HPH : Aside0 (pb = hb) := ⟨by rw [← HPB.out, ← HHB.out]; unfold proveB; rw [HCK.out, ← HX.out]; simp⟩
        obtain rfl := HPH.out
        obtain ⟨k1, k2, k3, k4, k5⟩ := check_ok HCK.out
        have HCKL : Aside0 (checkI L st (l.map up) = 0) := ⟨by rw [HX.out]; exact HCK.out⟩
        go_wp2_with fail
        refine (ishist_calls L st A c l Ar cr rs _ (Kd.C_below HR.out KB.out) HC.out (Kd.C_below HRA.out KB.out) k2 k3 k4 (by omega) (fun x hx => (check_runs HCKL.out x hx).1) pb (by rw [HX.out]; exact HHB.out)).mono ?_
        rintro e w12 ⟨rfl, hb12⟩
        clear qX0 qX1 qX2
        replace KB := Aside0.mk (KB.out.trans (hb12.mono KB.out.size))
        replace X := Aside0.mk (blk_below X.out hb12)
        clear hb12
        have qX0 : w12.cell? ⟨w.heap.size, 0, none⟩ = some (.int .i64 L) := (blk_cell X.out 0).trans rfl
        have qX1 : w12.cell? ⟨w.heap.size, 1, none⟩ = some (.int .i64 st) := (blk_cell X.out 1).trans rfl
        have qX2 : w12.cell? ⟨w.heap.size, 2, none⟩ = some (.slice A l.length c) := (blk_cell X.out 2).trans rfl
        go_wp2_with fail
        refine (law_asked_calls L st A c l _ (Kd.C_below HR.out KB.out) HC.out (by omega)).mono ?_
        rintro e w13 ⟨rfl, hb13⟩
        clear qX0 qX1 qX2
        replace KB := Aside0.mk (KB.out.trans (hb13.mono KB.out.size))
        replace X := Aside0.mk (blk_below X.out hb13)
        rw [HX.out, HPV.out]
        clear hb13
        have qX0 : w13.cell? ⟨w.heap.size, 0, none⟩ = some (.int .i64 L) := (blk_cell X.out 0).trans rfl
        have qX1 : w13.cell? ⟨w.heap.size, 1, none⟩ = some (.int .i64 st) := (blk_cell X.out 1).trans rfl
        have qX2 : w13.cell? ⟨w.heap.size, 2, none⟩ = some (.slice A l.length c) := (blk_cell X.out 2).trans rfl
        by_cases hp : pv = 0
        · subst hp
          have HMN : Aside0 (mv = ((refH L st l).length : Int)) := ⟨by rw [← HMV.out]; unfold manyI refH; rw [if_pos HPV.out, HX.out]; simp⟩
          obtain ⟨rl, hrl⟩ : ∃ rl, refH L st l = rl := ⟨_, rfl⟩
          have HRL := Aside0.mk hrl
          clear hrl
          rw [HRL.out] at HMN
          obtain rfl := HMN.out
          clear HMN
          go_wp2_with fail
          refine (allhist_calls L st A c l _ HCKL.out (Kd.C_below HR.out KB.out) HC.out).mono ?_
          rintro e w14 ⟨v9, rfl, hR9, hb14⟩
          clear qX0 qX1 qX2
          replace KB := Aside0.mk (KB.out.trans (hb14.mono KB.out.size))
          replace X := Aside0.mk (blk_below X.out hb14)
          rw [HRL.out] at hR9
          obtain ⟨A9, c9, rfl, hc9, hC9⟩ := Kd.R_reads hR9
          clear hC9 hc9 hR9
          clear hb14
          have qX0 : w14.cell? ⟨w.heap.size, 0, none⟩ = some (.int .i64 L) := (blk_cell X.out 0).trans rfl
          have qX1 : w14.cell? ⟨w.heap.size, 1, none⟩ = some (.int .i64 st) := (blk_cell X.out 1).trans rfl
          have qX2 : w14.cell? ⟨w.heap.size, 2, none⟩ = some (.slice A l.length c) := (blk_cell X.out 2).trans rfl
          go_wp2_with fail
          refine (awake_calls _).mono ?_
          rintro e w15 ⟨rfl, hb15⟩
          clear qX0 qX1 qX2
          replace KB := Aside0.mk (KB.out.trans (hb15.mono KB.out.size))
          replace X := Aside0.mk (blk_below X.out hb15)
          clear hb15
          have qX0 : w15.cell? ⟨w.heap.size, 0, none⟩ = some (.int .i64 L) := (blk_cell X.out 0).trans rfl
          have qX1 : w15.cell? ⟨w.heap.size, 1, none⟩ = some (.int .i64 st) := (blk_cell X.out 1).trans rfl
          have qX2 : w15.cell? ⟨w.heap.size, 2, none⟩ = some (.slice A l.length c) := (blk_cell X.out 2).trans rfl
          go_wp2_with fail
          go_ret
          exact ⟨rfl, KB.out⟩
        · have e1 : (pv == 0) = false := beq_eq_false_iff_ne.2 hp
          have e2 : (pv != 0) = true := bne_iff_ne.2 hp
          have HMN : Aside0 (mv = 0) := ⟨by rw [← HMV.out]; unfold manyI; rw [if_neg (by rw [HPV.out]; exact hp)]⟩
          obtain rfl := HMN.out
          clear HMN hp
          go_wp2_with fail
          refine (awake_calls _).mono ?_
          rintro e w16 ⟨rfl, hb16⟩
          clear qX0 qX1 qX2
          replace KB := Aside0.mk (KB.out.trans (hb16.mono KB.out.size))
          replace X := Aside0.mk (blk_below X.out hb16)
          clear hb16
          have qX0 : w16.cell? ⟨w.heap.size, 0, none⟩ = some (.int .i64 L) := (blk_cell X.out 0).trans rfl
          have qX1 : w16.cell? ⟨w.heap.size, 1, none⟩ = some (.int .i64 st) := (blk_cell X.out 1).trans rfl
          have qX2 : w16.cell? ⟨w.heap.size, 2, none⟩ = some (.slice A l.length c) := (blk_cell X.out 2).trans rfl
          go_wp2_with fail
          go_ret
          exact ⟨rfl, KB.out⟩
      · have e1 : (ck == 0) = false := beq_eq_false_iff_ne.2 h0
        have e2 : (ck != 0) = true := bne_iff_ne.2 h0
        have HPF : Aside0 (pb = false) := ⟨by rw [← HPB.out]; unfold proveB; rw [HCK.out]; simp [h0]⟩
        obtain rfl := HPF.out
        clear HPF
        have HPC : Aside0 (pv = ck) := ⟨by rw [← HPV.out]; unfold possI; rw [if_neg (by rw [HCK.out]; exact h0), HCK.out]⟩
        obtain rfl := HPC.out
        clear HPC
        have HMN : Aside0 (mv = 0) := ⟨by rw [← HMV.out]; unfold manyI; rw [if_neg (by rw [HPV.out]; exact h0)]⟩
        obtain rfl := HMN.out
        clear HMN h0
        go_wp2_with fail
        refine (law_asked_calls L st A c l _ (Kd.C_below HR.out KB.out) HC.out (by omega)).mono ?_
        rintro e w17 ⟨rfl, hb17⟩
        clear qX0 qX1 qX2
        replace KB := Aside0.mk (KB.out.trans (hb17.mono KB.out.size))
        replace X := Aside0.mk (blk_below X.out hb17)
        rw [HX.out, HPV.out]
        clear hb17
        have qX0 : w17.cell? ⟨w.heap.size, 0, none⟩ = some (.int .i64 L) := (blk_cell X.out 0).trans rfl
        have qX1 : w17.cell? ⟨w.heap.size, 1, none⟩ = some (.int .i64 st) := (blk_cell X.out 1).trans rfl
        have qX2 : w17.cell? ⟨w.heap.size, 2, none⟩ = some (.slice A l.length c) := (blk_cell X.out 2).trans rfl
        go_wp2_with fail
        refine (awake_calls _).mono ?_
        rintro e w18 ⟨rfl, hb18⟩
        clear qX0 qX1 qX2
        replace KB := Aside0.mk (KB.out.trans (hb18.mono KB.out.size))
        replace X := Aside0.mk (blk_below X.out hb18)
        clear hb18
        have qX0 : w18.cell? ⟨w.heap.size, 0, none⟩ = some (.int .i64 L) := (blk_cell X.out 0).trans rfl
        have qX1 : w18.cell? ⟨w.heap.size, 1, none⟩ = some (.int .i64 st) := (blk_cell X.out 1).trans rfl
        have qX2 : w18.cell? ⟨w.heap.size, 2, none⟩ = some (.slice A l.length c) := (blk_cell X.out 2).trans rfl
        go_wp2_with fail
        go_ret
        exact ⟨rfl, KB.out⟩
end Go.Proofs.Ytkglggggmlnleaa.Print
