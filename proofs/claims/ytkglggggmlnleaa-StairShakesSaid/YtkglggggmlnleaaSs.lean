/- Shaking: all limits right; the document's error. -/
import Derived.Test.YtkglggggmlnleaaLv
import Derived.Test.YtkglggggmlnleaaXA
import Derived.Test.YtkglggggmlnleaaXR0
import Derived.Test.YtkglggggmlnleaaRf
namespace Go.Proofs.Ytkglggggmlnleaa.Print
open Go.RowKit Go.Proofs.YtkglggggmlnleaaW.PrintWords Go.Proofs.YtkglggggmlnleaaW.PrintLast Go.Proofs.YtkglggggmlnleaaW.PrintMore
set_option linter.unusedVariables false
set_option linter.unusedSimpArgs false

/-- Is a limit in its bounds? -/
def limB (L n : Int) : Bool := decide (0 ≤ n) && decide (n ≤ L)
theorem within_f (n lo hi : Int) : stair_within.f n lo hi = some (decide (lo ≤ n) && decide (n ≤ hi)) := by
  unfold stair_within.f
  by_cases h1 : lo ≤ n <;> simp [h1]
set_option maxHeartbeats 4000000 in
set_option maxRecDepth 100000 in
theorem sh1_calls (n L : Int) (w : World) (B : Nat) (hb : w.heap[B]? = some (.cells #[.int .i64 L] 3 (0, 0))) :
    Calls Try.prog 63 #[.int .i64 n, .pointer (some ⟨B, 0, none⟩)] w fun e w' => e = .returned (.bool (limB L n)) ∧ Below w.heap.size w w' := by
  have hcB : w.cell? ⟨B, 0, none⟩ = some (.int .i64 L) := (blk_cell hb 0).trans rfl
  have hlt := blk_lt hb
  go_enter Try.func63, Try.ntmps63
  go_wp2_with fail
  refine (stair_within.calls n 0 L _ _ (within_f n 0 L)).mono ?_
  rintro e w' ⟨rfl, hb1⟩
  have HB := Aside0.mk (hb1.below)
  clear hb1
  go_wp2_with fail
  go_ret
  exact ⟨rfl, HB.out⟩
set_option maxHeartbeats 4000000 in
set_option maxRecDepth 100000 in
theorem alli1_calls (n L : Int) (w : World) (B B2 : Nat) (hb : w.heap[B]? = some (.cells #[.int .i64 L] 3 (0, 0))) (hb2 : w.heap[B2]? = some (.cells #[.func (.func 63) #[] #[.pointer (some ⟨B, 0, none⟩)]] 112 (0, 0))) :
    Calls Try.prog 81 #[.int .i64 n, .pointer (some ⟨B2, 0, none⟩)] w fun e w' => e = .returned (.bool (!(limB L n))) ∧ Below w.heap.size w w' := by
  have hcB : w.cell? ⟨B2, 0, none⟩ = some (.func (.func 63) #[] #[.pointer (some ⟨B, 0, none⟩)]) := (blk_cell hb2 0).trans rfl
  have hlt := blk_lt hb2
  have HB := Aside0.mk hb
  clear hb
  go_enter Try.func81, Try.ntmps81
  go_wp2_with fail
  refine (sh1_calls n L _ B HB.out).mono ?_
  rintro e w' ⟨rfl, hb1⟩
  go_wp2_with fail
  go_ret
  exact ⟨rfl, hb1⟩
set_option maxHeartbeats 4000000 in
set_option maxRecDepth 100000 in
theorem indexi_calls (L : Int) (A : Option Addr) (c : Nat) (l : List Int) (w : World) (B B2 : Nat) (hn : l.length ≤ 14) (hr : Kd.C (Kd.int .i64) w A l.length l)
    (hb : w.heap[B]? = some (.cells #[.int .i64 L] 3 (0, 0))) (hb2 : w.heap[B2]? = some (.cells #[.func (.func 63) #[] #[.pointer (some ⟨B, 0, none⟩)]] 112 (0, 0))) :
    Calls Try.prog 88 #[.slice A l.length c, .func (.func 81) #[] #[.pointer (some ⟨B2, 0, none⟩)]] w fun e w' => ∃ i : Int, e = .returned (.int .i64 i) ∧ (decide (0 ≤ i) = !(l.all (limB L))) ∧ Below w.heap.size w w' := by
  have HR := Aside0.mk hr
  have HB := Aside0.mk hb
  have HB2 := Aside0.mk hb2
  clear hr hb hb2
  go_enter Try.func88, Try.ntmps88
  go_wp2_with fail
  go_loopw [8] (fun j wr => ∃ jn : Nat, jn ≤ l.length ∧ j = .int .i64 jn ∧ Aside0 ((l.take jn).all (limB L) = true) ∧ Aside0 (Below w.heap.size w wr)) (fun j _ => l.length - (intOf j).toNat)
  case atStart => exact ⟨0, by omega, rfl, ⟨by simp⟩, ⟨Below.refl _ _⟩⟩
  case round =>
    obtain ⟨jn, hj, rfl, hall, hbw⟩ := hrel
    by_cases hj3 : jn < l.length
    · have hj4 : (jn : Int) < (l.length : Int) := by omega
      have hj5 : (0 : Int) ≤ (jn : Int) := by omega
      have hj6 : decide ((jn : Int) < (l.length : Int)) = true := decide_eq_true hj4
      obtain ⟨ad, rfl, g0⟩ := cellU (Kd.C_below HR.out hbw.out) jn hj3
      go_wp2_with fail
      refine (alli1_calls l[jn] L wr B B2 (blk_below HB.out hbw.out) (blk_below HB2.out hbw.out)).mono ?_
      rintro e w2 ⟨rfl, hb2⟩
      have hbw2 := Aside0.mk (hbw.out.trans (hb2.mono hbw.out.size))
      obtain ⟨rb, hrb⟩ : ∃ rb, limB L l[jn] = rb := ⟨_, rfl⟩
      rw [hrb]
      have HRB := Aside0.mk hrb
      clear hrb hb2
      cases rb with
      | true =>
        go_wp2_with fail
        go_roundw
        case rel =>
          refine ⟨jn + 1, by omega, by push_cast; first | rfl | go_num, ⟨?_⟩, hbw2⟩
          rw [List.take_add_one, List.getElem?_eq_getElem hj3, List.all_append, hall.out]
          simp [HRB.out]
        case measure => simp [intOf]; omega
      | false =>
        go_wp2_with fail
        first | rw [Exit.noGoto_ret] | skip
        go_ret
        refine ⟨jn, rfl, ?_, hbw2.out⟩
        have : l.all (limB L) = false := by
          rw [List.all_eq_false]
          exact ⟨l[jn], List.getElem_mem hj3, by simp [HRB.out]⟩
        simp [this]
    · have hj4 : (l.length : Int) ≤ (jn : Int) := by omega
      have hj6 : decide ((jn : Int) < (l.length : Int)) = false := decide_eq_false (by omega)
      go_wp2_with fail
      first | rw [Exit.noGoto_ret] | skip
      go_ret
      refine ⟨-1, rfl, ?_, hbw.out⟩
      have h := hall.out
      rw [List.take_of_length_le (by omega)] at h
      simp [h]
set_option maxHeartbeats 4000000 in
set_option maxRecDepth 100000 in
theorem containsi_calls (L : Int) (A : Option Addr) (c : Nat) (l : List Int) (w : World) (B B2 : Nat) (hn : l.length ≤ 14) (hr : Kd.C (Kd.int .i64) w A l.length l)
    (hb : w.heap[B]? = some (.cells #[.int .i64 L] 3 (0, 0))) (hb2 : w.heap[B2]? = some (.cells #[.func (.func 63) #[] #[.pointer (some ⟨B, 0, none⟩)]] 112 (0, 0))) :
    Calls Try.prog 80 #[.slice A l.length c, .func (.func 81) #[] #[.pointer (some ⟨B2, 0, none⟩)]] w fun e w' => e = .returned (.bool !(l.all (limB L))) ∧ Below w.heap.size w w' := by
  go_enter Try.func80, Try.ntmps80
  go_wp2_with fail
  refine (indexi_calls L A c l _ B B2 hn hr hb hb2).mono ?_
  rintro e w2 ⟨i, rfl, hi, hb2⟩
  go_wp2_with fail
  go_ret
  exact ⟨by simp [← hi], hb2⟩
set_option maxHeartbeats 4000000 in
set_option maxRecDepth 100000 in
theorem alli_calls (L : Int) (A : Option Addr) (c : Nat) (l : List Int) (w : World) (B : Nat) (hn : l.length ≤ 14) (hr : Kd.C (Kd.int .i64) w A l.length l)
    (hb : w.heap[B]? = some (.cells #[.int .i64 L] 3 (0, 0))) :
    Calls Try.prog 62 #[.slice A l.length c, .func (.func 63) #[] #[.pointer (some ⟨B, 0, none⟩)]] w fun e w' => e = .returned (.bool (l.all (limB L))) ∧ Below w.heap.size w w' := by
  have HR := Aside0.mk hr
  have HB := Aside0.mk hb
  clear hr hb
  go_enter Try.func62, Try.ntmps62
  go_wp2_with fail
  refine (containsi_calls L A c l _ B w.heap.size hn (Kd.C_alloc HR.out _) (blk_alloc HB.out _) (blk_new w _)).mono ?_
  rintro e w2 ⟨rfl, hb⟩
  go_wp2_with fail
  go_ret
  exact ⟨by simp, ((Below.refl _ _).alloc (Nat.le_refl _) _).trans (hb.mono (by simp))⟩
/-- The error of a shaking. -/
def shakeE (L st : Int) (ls : List Int) (n : Nat) : Int :=
  if ¬ (1 ≤ L ∧ L ≤ 8 ∧ 0 ≤ st ∧ st < L) then 1 else if 14 < ls.length then 3 else if n = ls.length ∧ ls.all (limB L) = true then 0 else 2
theorem in_below (n lo hi : Int) (b : Bool) (w : World) (h : (decide (lo ≤ n) && decide (n ≤ hi)) = b) : Calls Try.prog 27 #[.int .i64 n, .int .i64 lo, .int .i64 hi] w fun e w' => e = .returned (.bool b) ∧ Below w.heap.size w w' := by
  refine (in_callsq n lo hi b w h).mono ?_
  rintro e w' ⟨rfl, m, rfl⟩
  exact ⟨rfl, pw_below_drewN (Below.refl _ _) m⟩
set_option maxHeartbeats 4000000 in
set_option maxRecDepth 100000 in
theorem shakefault_calls (L st : Int) (A : Option Addr) (c : Nat) (ls : List Int) (A1 : Option Addr) (n c1 : Nat) (w : World) (hr : Kd.C (Kd.int .i64) w A ls.length ls) (hl : ls.length ≤ 1000) (hn : n ≤ 1000) :
    Calls Try.prog 38 #[.int .i64 L, .int .i64 st, .slice A ls.length c, .slice A1 n c1] w fun e w' => e = .returned (.int .i64 (shakeE L st ls n)) ∧ Below w.heap.size w w' := by
  have HR := Aside0.mk hr
  clear hr
  by_cases hL : 1 ≤ L ∧ L ≤ 8
  · have h1 : (decide ((1 : Int) ≤ L) && decide (L ≤ 8)) = true := by simp [hL]
    have hw : wrap64 (L - 1) = L - 1 := by unfold wrap64; omega
    by_cases hS : 0 ≤ st ∧ st < L
    · have h2 : (decide ((0 : Int) ≤ st) && decide (st ≤ L - 1)) = true := by simp; omega
      have H1 := Aside0.mk h1
      have H2 := Aside0.mk h2
      clear h1 h2
      by_cases h14 : 14 < ls.length
      · have h14b : decide (14 < (ls.length : Int)) = true := decide_eq_true (by omega)
        have HE : Aside0 (shakeE L st ls n = 3) := ⟨by unfold shakeE; rw [if_neg (by omega), if_pos h14]⟩
        clear h14 hL hS
        go_enter Try.func38, Try.ntmps38
        go_wp2_with fail
        refine (in_below L 1 8 true _ H1.out).mono ?_
        rintro e w1 ⟨rfl, hb1⟩
        have KB := Aside0.mk hb1
        clear hb1
        go_wp2_with fail
        refine (in_below st 0 (L - 1) true _ H2.out).mono ?_
        rintro e w2 ⟨rfl, hb2⟩
        replace KB := Aside0.mk (KB.out.trans (hb2.mono KB.out.size))
        clear hb2
        go_wp2_with fail
        go_ret
        exact ⟨by rw [HE.out]; rfl, KB.out⟩
      · have h14b : decide (14 < (ls.length : Int)) = false := decide_eq_false (by omega)
        have HE : Aside0 (shakeE L st ls n = if n = ls.length ∧ ls.all (limB L) = true then 0 else 2) := ⟨by unfold shakeE; rw [if_neg (by omega), if_neg h14]⟩
        clear hL hS
        go_enter Try.func38, Try.ntmps38
        go_wp2_with fail
        refine (in_below L 1 8 true _ H1.out).mono ?_
        rintro e w1 ⟨rfl, hb1⟩
        have KB := Aside0.mk hb1
        clear hb1
        go_wp2_with fail
        refine (in_below st 0 (L - 1) true _ H2.out).mono ?_
        rintro e w2 ⟨rfl, hb2⟩
        replace KB := Aside0.mk (KB.out.trans (hb2.mono KB.out.size))
        clear hb2
        go_wp2_with fail
        go_loopw [9] (fun j wr => ∃ jn : Nat, jn ≤ ls.length ∧ j = .int .i64 jn ∧ Aside0 ((ls.take jn).all (limB L) = true) ∧ Aside0 (Below w.heap.size w wr)) (fun j _ => ls.length - (intOf j).toNat)
        case atStart => exact ⟨0, by omega, rfl, ⟨by simp⟩, KB⟩
        case round =>
          obtain ⟨jn, hj, rfl, hall, hbw⟩ := hrel
          by_cases hj3 : jn < ls.length
          · have hj4 : (jn : Int) < (ls.length : Int) := by omega
            have hj6 : decide ((jn : Int) < (ls.length : Int)) = true := decide_eq_true hj4
            obtain ⟨ad, rfl, g0⟩ := cellU (Kd.C_below HR.out hbw.out) jn hj3
            obtain ⟨rb, hrb⟩ : ∃ rb, limB L ls[jn] = rb := ⟨_, rfl⟩
            have HRB := Aside0.mk hrb
            clear hrb
            go_wp2_with fail
            refine (in_below ls[jn] 0 L rb _ HRB.out).mono ?_
            rintro e w2 ⟨rfl, hb2⟩
            have hbw2 := Aside0.mk (hbw.out.trans (hb2.mono hbw.out.size))
            clear hb2
            cases rb with
            | true =>
              go_wp2_with fail
              go_roundw
              case rel =>
                refine ⟨jn + 1, by omega, by push_cast; first | rfl | go_num, ⟨?_⟩, hbw2⟩
                rw [List.take_add_one, List.getElem?_eq_getElem hj3, List.all_append, hall.out]
                simp [HRB.out]
              case measure => simp [intOf]; omega
            | false =>
              go_wp2_with fail
              first | rw [Exit.noGoto_ret] | skip
              go_ret
              have : ls.all (limB L) = false := by
                rw [List.all_eq_false]
                exact ⟨ls[jn], List.getElem_mem hj3, by simp [HRB.out]⟩
              exact ⟨by rw [HE.out, if_neg (by simp [this])]; rfl, hbw2.out⟩
          · have hj6 : decide ((jn : Int) < (ls.length : Int)) = false := decide_eq_false (by omega)
            have h := hall.out
            rw [List.take_of_length_le (by omega)] at h
            have HA := Aside0.mk h
            clear h
            by_cases he : n = ls.length
            · subst he
              go_wp2_with fail
              first | rw [Exit.noGoto_ret] | skip
              go_ret
              exact ⟨by rw [HE.out]; simp only [HA.out, and_self, if_true]; rfl, hbw.out⟩
            · have n1 : ((n : Int) == (ls.length : Int)) = false := beq_eq_false_iff_ne.2 (by omega)
              have n2 : ((n : Int) != (ls.length : Int)) = true := bne_iff_ne.2 (by omega)
              have n3 : (n == ls.length) = false := beq_eq_false_iff_ne.2 he
              have HN := Aside0.mk he
              clear he
              go_wp2_with fail
              first | rw [Exit.noGoto_ret] | skip
              go_ret
              exact ⟨by rw [HE.out, if_neg (fun h => HN.out h.1)]; rfl, hbw.out⟩
    · have h2 : (decide ((0 : Int) ≤ st) && decide (st ≤ L - 1)) = false := by simp; omega
      have H1 := Aside0.mk h1
      have H2 := Aside0.mk h2
      have HE : Aside0 (shakeE L st ls n = 1) := ⟨by unfold shakeE; rw [if_pos (by omega)]⟩
      clear h1 h2 hL hS
      go_enter Try.func38, Try.ntmps38
      go_wp2_with fail
      refine (in_below L 1 8 true _ H1.out).mono ?_
      rintro e w1 ⟨rfl, hb1⟩
      have KB := Aside0.mk hb1
      clear hb1
      go_wp2_with fail
      refine (in_below st 0 (L - 1) false _ H2.out).mono ?_
      rintro e w2 ⟨rfl, hb2⟩
      replace KB := Aside0.mk (KB.out.trans (hb2.mono KB.out.size))
      clear hb2
      go_wp2_with fail
      go_ret
      exact ⟨by rw [HE.out]; rfl, KB.out⟩
  · have h1 : (decide ((1 : Int) ≤ L) && decide (L ≤ 8)) = false := by simp; omega
    have H1 := Aside0.mk h1
    have HE : Aside0 (shakeE L st ls n = 1) := ⟨by unfold shakeE; rw [if_pos (by omega)]⟩
    clear h1 hL
    go_enter Try.func38, Try.ntmps38
    go_wp2_with fail
    refine (in_below L 1 8 false _ H1.out).mono ?_
    rintro e w1 ⟨rfl, hb1⟩
    have KB := Aside0.mk hb1
    clear hb1
    go_wp2_with fail
    go_ret
    exact ⟨by rw [HE.out]; rfl, KB.out⟩
end Go.Proofs.Ytkglggggmlnleaa.Print
