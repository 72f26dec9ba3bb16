/- The law of the shakings, walked by hand. -/
import Derived.Test.YtkglggggmlnleaaSu
import Derived.Test.YtkglggggmlnleaaPr
import Derived.Test.YtkglggggmlnleaaAw
namespace Go.Proofs.Ytkglggggmlnleaa.Print
open Go.RowKit Go.Proofs.YtkglggggmlnleaaW.PrintWords Go.Proofs.YtkglggggmlnleaaW.PrintLast Go.Proofs.YtkglggggmlnleaaW.PrintMore
set_option linter.unusedVariables false
set_option linter.unusedSimpArgs false

theorem info4x : (Try.prog.info? 4).map (fun i => (i.zero, i.size, i.bytes)) = some (some (.bool false), 1, 1) := by kernel_rfl
theorem shakeE_0 {L st : Int} {ls : List Int} {n : Nat} (h : shakeE L st ls n = 0) : L ≤ 8 ∧ 0 ≤ st ∧ st < L ∧ ls.length ≤ 14 ∧ n = ls.length := by
  unfold shakeE at h
  split at h
  · cases h
  · split at h
    · cases h
    · split at h
      · rename_i h1 h2 h3; exact ⟨by omega, by omega, by omega, by omega, h3.1⟩
      · cases h
theorem rows67 {w : World} {base : Nat} {ok : Nat → Prop} {v : Value} {xs : List S67} (h : Kd.R k67 67 w base ok v xs) (n : Nat) (hn : xs.length = n) : ∃ A c, v = .slice A n c ∧ Aside0 (Kd.C k67 w A n xs) := by
  subst hn
  obtain ⟨A, c, h1, h2, h3⟩ := Kd.R_reads h
  exact ⟨A, c, h1, ⟨h3⟩⟩
theorem rows43 {w : World} {base : Nat} {ok : Nat → Prop} {v : Value} {xs : List S43} (h : Kd.R k43 43 w base ok v xs) (n : Nat) (hn : xs.length = n) : ∃ A c, v = .slice A n c ∧ Aside0 (Kd.C k43 w A n xs) := by
  subst hn
  obtain ⟨A, c, h1, h2, h3⟩ := Kd.R_reads h
  exact ⟨A, c, h1, ⟨h3⟩⟩
set_option maxHeartbeats 4000000 in
set_option maxRecDepth 100000 in
theorem law_shakes (L st : Int) (A : Option Addr) (c : Nat) (ls : List Int) (A1 : Option Addr) (c1 : Nat) (bs : List Bool) (w : World) (hr : Kd.C (Kd.int .i64) w A ls.length ls) (hc : ls.length ≤ c) (hr1 : Kd.C Kd.bool w A1 bs.length bs) (hc1 : bs.length ≤ c1) :
    Calls Try.prog 10 #[.int .i64 L, .int .i64 st, .slice A ls.length c, .slice A1 bs.length c1] w fun e w' => e = .returned (.bool true) ∧ Below w.heap.size w w' := by
  have hu67 := Try.underlying67
  have hu43 := Try.underlying43
  have HR := Aside0.mk hr
  have HC := Aside0.mk hc
  have HR1 := Aside0.mk hr1
  have HC1 := Aside0.mk hc1
  have KB : Aside0 (Below w.heap.size w w) := ⟨Below.refl _ _⟩
  clear hr hc hr1 hc1
  go_enter Try.func10, Try.ntmps10
  by_cases h20 : 20 < ls.length
  · have h20b : decide (20 < (ls.length : Int)) = true := decide_eq_true (by omega)
    clear h20
    go_wp2_with fail
    refine (awake_calls _).mono ?_
    rintro e w1 ⟨rfl, hb1⟩
    replace KB := Aside0.mk (KB.out.trans (hb1.mono KB.out.size))
    clear hb1
    go_wp2_with fail
    go_ret
    exact ⟨rfl, KB.out⟩
  · have h20b : decide (20 < (ls.length : Int)) = false := decide_eq_false (by omega)
    have HL20 : Aside0 (ls.length ≤ 20) := ⟨by omega⟩
    clear h20
    by_cases h21 : 20 < bs.length
    · have h21b : decide (20 < (bs.length : Int)) = true := decide_eq_true (by omega)
      clear h21
      go_wp2_with fail
      refine (awake_calls _).mono ?_
      rintro e w2 ⟨rfl, hb2⟩
      replace KB := Aside0.mk (KB.out.trans (hb2.mono KB.out.size))
      clear hb2
      go_wp2_with fail
      go_ret
      exact ⟨rfl, KB.out⟩
    · have h21b : decide (20 < (bs.length : Int)) = false := decide_eq_false (by omega)
      have HB20 : Aside0 (bs.length ≤ 20) := ⟨by omega⟩
      clear h21
      obtain ⟨ev, hev⟩ : ∃ ev, shakeE L st ls bs.length = ev := ⟨_, rfl⟩
      have HEV := Aside0.mk hev
      clear hev
      go_wp2_with fail
      refine (list_calls A c ls _ HR.out HC.out (by have := HL20.out; omega)).mono ?_
      rintro e w3 ⟨v1, rfl, hR1, hb3⟩
      replace KB := Aside0.mk (KB.out.trans (hb3.mono KB.out.size))
      clear hb3
      have HLI := Aside0.mk hR1
      clear hR1
      go_wp2_with ((with_reducible refine gate_builtin (b := .append) (xs := #[.const (.slice none 0 0), .tmp 28]) rfl ?_); at_builtin; go_loud (refine Kd.R_append_rows Kd.bool (w0 := w3) w3.heap.size rfl (.const (.slice none 0 0)) (.tmp 28) 62 4 (.bool false) 1 rfl Try.underlying62 info4x rfl (by decide) (by omega) (.slice none 0 0) [] bs _ _ _ (fun _ => True) (fun _ => False) rfl rfl (Kd.R_nil _ _ _ _ _) (Kd.C_below HR1.out KB.out) (fun _ _ h => h) (fun _ h => h.elim) (fun _ _ => trivial) (Below.refl _ _) (Nat.le_refl _) (by have := HB20.out; simp; omega) ?_; intro v2 w2 ho hb2 hg hat; rw [List.nil_append] at ho; have HBI := Aside0.mk ho; replace KB := Aside0.mk (KB.out.trans (hb2.mono KB.out.size)); replace HLI := Aside0.mk (Kd.R_below HLI.out hb2); clear ho hb2 hg hat; obtain ⟨Al, cl, rfl, hcl, hCl⟩ := Kd.R_reads HLI.out; obtain ⟨Ab, cb, rfl, hcb, hCb⟩ := Kd.R_reads HBI.out; have CL := Aside0.mk hCl; have CB := Aside0.mk hCb; clear HLI HBI hcl hCl hcb hCb))
      refine (shake_calls L st Al cl ls Ab cb bs _ CL.out CB.out (by have := HL20.out; omega)).mono ?_
      rintro e w21 ⟨v3, rfl, hR3, hb21⟩
      replace KB := Aside0.mk (KB.out.trans (hb21.mono KB.out.size))
      rw [HEV.out]
      have HS := Aside0.mk hR3
      clear hR3
      clear hb21
      clear CL CB
      go_wp2_with fail
      refine (shakefault_calls L st A c ls A1 bs.length c1 _ (Kd.C_below HR.out KB.out) (by have := HL20.out; omega) (by have := HB20.out; omega)).mono ?_
      rintro e w22 ⟨rfl, hb22⟩
      replace KB := Aside0.mk (KB.out.trans (hb22.mono KB.out.size))
      replace HS := Aside0.mk (Kd.R_below HS.out hb22)
      rw [HEV.out]
      clear hb22
      by_cases hz : ev = 0
      · subst hz
        have HE0 := Aside0.mk (shakeE_0 HEV.out)
        obtain ⟨zs, hzs⟩ : ∃ zs, shakeZ L st (ls.zip bs) = zs := ⟨_, rfl⟩
        have HZS := Aside0.mk hzs
        obtain ⟨m, hm⟩ : ∃ m, zs.length = m := ⟨_, rfl⟩
        have HM := Aside0.mk hm
        have HM14 : Aside0 (m ≤ 14) := ⟨by rw [← hm, ← hzs, shakeZ_len]; have := HE0.out; simp; omega⟩
        clear hzs hm
        go_wp2_with fail
        refine (refshake_calls L st A c ls A1 c1 bs _ (Kd.C_below HR.out KB.out) (Kd.C_below HR1.out KB.out) HE0.out.1 HE0.out.2.1 HE0.out.2.2.1 (by have := HL20.out; omega) HE0.out.2.2.2.2).mono ?_
        rintro e w23 ⟨v4, rfl, hR4, hb23⟩
        replace KB := Aside0.mk (KB.out.trans (hb23.mono KB.out.size))
        replace HS := Aside0.mk (Kd.R_below HS.out hb23)
        rw [HZS.out] at hR4
        obtain ⟨Aw, cw, rfl, CW⟩ := rows43 hR4 m HM.out
        clear hR4
        clear hb23
        replace HS := HS.out
        rw [shakeR_0 HEV.out, HZS.out] at HS
        obtain ⟨As, cs, rfl, CS⟩ := rows67 HS m (by rw [List.length_map, HM.out])
        clear HS
        have n1 : ((m : Int) == (m : Int)) = true := beq_iff_eq.2 rfl
        have n2 : ((m : Int) != (m : Int)) = false := bne_eq_false_iff_eq.2 rfl
        have n3 : (m == m) = true := beq_iff_eq.2 rfl
        go_wp2_with fail
        go_loopw [13] (fun j wr => ∃ jn : Nat, jn ≤ m ∧ j = .int .i64 jn ∧ Aside0 (Below w23.heap.size w23 wr)) (fun j _ => m - (intOf j).toNat)
        case atStart => exact ⟨0, by omega, rfl, ⟨Below.refl _ _⟩⟩
        case round =>
          obtain ⟨jn, hj, rfl, hbw⟩ := hrel
          by_cases hj3 : jn < m
          · have hj6 : decide ((jn : Int) < (m : Int)) = true := decide_eq_true (by omega)
            have hj7 : (jn : Int) < (m : Int) := by omega
            have hjx : (jn : Int) < 1000000 := by have := HM14.out; omega
            obtain ⟨ad1, rfl, g1, g2⟩ := at_T67 (Kd.C_below CS.out hbw.out) (jn : Int) (by omega) hj7
            obtain ⟨ad2, rfl, g3, g4⟩ := at_T43 (Kd.C_below CW.out hbw.out) (jn : Int) (by omega) hj7
            have hx : rd_T67 (zs.map up) jn = up (rd_T43 zs jn) := by
              have := HM.out
              unfold rd_T67 rd_T43
              simp [List.getD_eq_getElem?_getD, show jn < zs.length by omega]
            rw [hx] at g1 g2
            obtain ⟨⟨x0, x1⟩, hx1⟩ : ∃ x, rd_T43 zs jn = x := ⟨_, rfl⟩
            rw [hx1] at g1 g2 g3 g4
            have g1 : wr.cell? (ad1.add (jn * 2)) = some (.int .i64 x0) := g1
            have g2 : wr.cell? ⟨(ad1.add (jn * 2)).block, (ad1.add (jn * 2)).off + 1, none⟩ = some (.int .u8 x1) := g2
            have g3 : wr.cell? (ad2.add (jn * 2)) = some (.int .i64 x0) := g3
            have g4 : wr.cell? ⟨(ad2.add (jn * 2)).block, (ad2.add (jn * 2)).off + 1, none⟩ = some (.int .u8 x1) := g4
            have e1 : (x0 != x0) = false := bne_eq_false_iff_eq.2 rfl
            have e2 : (x1 != x1) = false := bne_eq_false_iff_eq.2 rfl
            have e3 : (x0 == x0) = true := beq_iff_eq.2 rfl
            have e4 : (x1 == x1) = true := beq_iff_eq.2 rfl
            clear hx hx1
            go_wp2_with fail
            go_quiet (fail)
            go_wp2_with fail
            go_roundw
            case rel => exact ⟨jn + 1, by omega, by go_num, ⟨hbw.out.trans (pw_below_drewN (Below.refl _ _) _)⟩⟩
            case measure => simp [intOf]; omega
          · have hj6 : decide ((jn : Int) < (m : Int)) = false := decide_eq_false (by omega)
            have KB2 := Aside0.mk (KB.out.trans (hbw.out.mono KB.out.size))
            go_wp2_with fail
            refine (awake_calls _).mono ?_
            rintro e w77 ⟨rfl, hb77⟩
            go_wp2_with fail
            go_ret
            exact ⟨rfl, KB2.out.trans (hb77.mono KB2.out.size)⟩
      · have z8 : (ev == 0) = false := beq_eq_false_iff_ne.2 hz
        have z9 : (ev != 0) = true := bne_iff_ne.2 hz
        have z7 : (ev == ev) = true := beq_iff_eq.2 rfl
        replace HS := HS.out
        rw [shakeR_n (by rw [HEV.out]; exact hz)] at HS
        obtain ⟨As, cs, rfl, CS⟩ := rows67 HS 0 rfl
        clear HS hz CS
        go_wp2_with fail
        refine (awake_calls _).mono ?_
        rintro e w24 ⟨rfl, hb24⟩
        replace KB := Aside0.mk (KB.out.trans (hb24.mono KB.out.size))
        clear hb24
        go_wp2_with fail
        go_ret
        exact ⟨rfl, KB.out⟩
end Go.Proofs.Ytkglggggmlnleaa.Print
