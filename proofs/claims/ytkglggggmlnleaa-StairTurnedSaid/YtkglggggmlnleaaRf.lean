/- The fault of a staircase as the document says it, and whether it is ready, by hand. -/
import Derived.Test.YtkglggggmlnleaaXR0
import Derived.Test.YtkglggggmlnleaaCk
import Derived.Deep.QuietTactic
import Derived.BigQuiet
namespace Go.Proofs.Ytkglggggmlnleaa.Print
open Go.RowKit Go.Proofs.YtkglggggmlnleaaW.PrintWords Go.Proofs.YtkglggggmlnleaaW.PrintLast Go.Proofs.YtkglggggmlnleaaW.PrintMore
set_option linter.unusedVariables false
set_option linter.unusedSimpArgs false
/-- A run, for the program. -/
def up (x : S43) : S67 := ⟨x.f0, x.f1⟩
theorem in_f (n lo hi : Int) : tensileref04_In.f n lo hi = some (decide (lo ≤ n) && decide (n ≤ hi)) := by
  unfold tensileref04_In.f
  by_cases h : lo ≤ n <;> simp [h]
theorem in_calls (n lo hi : Int) (b : Bool) (w : World) (h : (decide (lo ≤ n) && decide (n ≤ hi)) = b) : Calls Try.prog 27 #[.int .i64 n, .int .i64 lo, .int .i64 hi] w fun e w' => e = .returned (.bool b) ∧ Drawn0 w w' :=
  tensileref04_In.calls n lo hi b w (by rw [in_f, h])
theorem in_callsq (n lo hi : Int) (b : Bool) (w : World) (h : (decide (lo ≤ n) && decide (n ≤ hi)) = b) : Calls Try.prog 27 #[.int .i64 n, .int .i64 lo, .int .i64 hi] w fun e w' => e = .returned (.bool b) ∧ ∃ m, w' = w.drewN m :=
  (in_calls n lo hi b w h).mono fun _ _ ⟨h1, h2⟩ => ⟨h1, h2.out⟩
def lostN (l : List S43) : Int := ((l.filter fun x => decide (x.f1 = 3)).length : Nat)
theorem lostN_le (l : List S43) : 0 ≤ lostN l ∧ lostN l ≤ l.length := by
  have := List.length_filter_le (fun x : S43 => decide (x.f1 = 3)) l
  unfold lostN; omega
theorem lostN_up (l : List S43) : (((l.map up).filter fun x => decide (x.f1 = 3)).length : Int) = lostN l := by
  unfold lostN
  rw [List.filter_map, List.length_map]
  rfl
theorem lostN_snoc (l : List S43) (j : Nat) (hj : j < l.length) : lostN (l.take (j + 1)) = lostN (l.take j) + if l[j].f1 = 3 then 1 else 0 := by
  unfold lostN
  rw [List.take_add_one, List.getElem?_eq_getElem hj, List.filter_append]
  by_cases h3 : l[j].f1 = 3 <;> simp [h3]
theorem cell43 {w : World} {A : Option Addr} {l : List S43} (h : Kd.C k43 w A l.length l) (j : Nat) (hj : j < l.length) : ∃ ad, A = some ad ∧ w.cell? (ad.add (j * 2)) = some (.int .i64 l[j].f0) ∧ w.cell? ⟨(ad.add (j * 2)).block, (ad.add (j * 2)).off + 1, none⟩ = some (.int .u8 l[j].f1) := by
  obtain ⟨ad, rfl, g0, g1⟩ := at_T43 h j (by omega) (by omega)
  have hx : rd_T43 l j = l[j] := by unfold rd_T43; simp [List.getD_eq_getElem?_getD, hj]
  rw [hx] at g0 g1
  exact ⟨ad, rfl, g0, g1⟩
set_option maxHeartbeats 2000000 in
set_option maxRecDepth 100000 in
theorem fault_calls (L st : Int) (A : Option Addr) (c : Nat) (l : List S43) (w : World) (hr : Kd.C k43 w A l.length l) (hc : l.length ≤ c) (hm : l.length ≤ 9000000000000000000) :
    Calls Try.prog 34 #[.agg #[.int .i64 L, .int .i64 st, .slice A l.length c]] w fun e w' => e = .returned (.int .i64 (checkI L st (l.map up))) ∧ Below w.heap.size w w' := by
  have hu43 := Try.underlying43
  have hu24 := Try.underlying24
  have HR := Aside0.mk hr
  have HC := Aside0.mk hc
  clear hr hc
  go_enter Try.func34, Try.ntmps34
  go_wp2_with fail
  go_loopw [3, 4] (fun lo j wr => ∃ jn : Nat, jn ≤ l.length ∧ j = .int .i64 jn ∧ lo = .int .i64 (lostN (l.take jn)) ∧ Aside0 (wr.heap[w.heap.size]? = some (.cells #[.int .i64 L, .int .i64 st, .slice A l.length c] 24 (0, 0))) ∧ Aside0 (Below w.heap.size w wr)) (fun _ j _ => l.length - (intOf j).toNat)
  case atStart => exact ⟨0, by omega, rfl, rfl, ⟨blk_new w _⟩, ⟨(Below.refl _ _).alloc (Nat.le_refl _) _⟩⟩
  case round =>
    obtain ⟨jn, hj, rfl, rfl, hbx, hbw⟩ := hrel
    have q0 : wr.cell? ⟨w.heap.size, 0, none⟩ = some (.int .i64 L) := (blk_cell hbx.out 0).trans rfl
    have q1 : wr.cell? ⟨w.heap.size, 1, none⟩ = some (.int .i64 st) := (blk_cell hbx.out 1).trans rfl
    have q2 : wr.cell? ⟨w.heap.size, 2, none⟩ = some (.slice A l.length c) := (blk_cell hbx.out 2).trans rfl
    by_cases hj3 : jn < l.length
    · have hj6 : decide ((jn : Int) < (l.length : Int)) = true := decide_eq_true (by omega)
      have hj7 : (jn : Int) < (l.length : Int) := by omega
      obtain ⟨ad, rfl, g0, g1⟩ := cell43 (Kd.C_below HR.out hbw.out) jn hj3
      have hlen := lostN_le (l.take jn)
      have hlen2 : ((l.take jn).length : Int) ≤ jn := by simp; omega
      have HTK := Aside0.mk (lostN_snoc l jn hj3)
      by_cases h3 : l[jn].f1 = 3
      · have h3b : (l[jn].f1 == 3) = true := beq_iff_eq.2 h3
        have H3 := Aside0.mk h3
        clear h3
        go_wp2_with fail
        go_roundw
        case rel =>
          refine ⟨jn + 1, by omega, by go_num, ?_, hbx, hbw⟩
          rw [HTK.out, if_pos H3.out]
        case measure => simp [intOf]; omega
      · have h3b : (l[jn].f1 == 3) = false := beq_eq_false_iff_ne.2 h3
        go_wp2_with fail
        go_roundw
        case rel =>
          refine ⟨jn + 1, by omega, by go_num, ?_, hbx, hbw⟩
          rw [HTK.out, if_neg h3]
          simp
        case measure => simp [intOf]; omega
    · have hj6 : decide ((jn : Int) < (l.length : Int)) = false := decide_eq_false (by omega)
      have htk : l.take jn = l := List.take_of_length_le (by omega)
      rw [htk]
      have hlo := lostN_le l
      obtain ⟨n3, hn3⟩ : ∃ n3, lostN l = n3 := ⟨_, rfl⟩
      rw [hn3] at hlo ⊢
      have HN3 := Aside0.mk hn3
      clear hn3 htk
      by_cases k1 : 14 < l.length ∨ 6 < n3
      · have HE : Aside0 (checkI L st (l.map up) = 3) := ⟨by unfold checkI; rw [if_pos]; have := lostN_up l; rw [HN3.out] at this; simp only [List.length_map]; omega⟩
        by_cases k2 : 14 < l.length
        · have k1b : decide (14 < (l.length : Int)) = true := decide_eq_true (by omega)
          clear k1
          go_wp2_with fail
          go_ret
          exact ⟨by rw [HE.out]; rfl, hbw.out⟩
        · have k1b : decide (14 < (l.length : Int)) = false := decide_eq_false (by omega)
          have k2b : decide (6 < n3) = true := decide_eq_true (by omega)
          clear k1
          go_wp2_with fail
          go_ret
          exact ⟨by rw [HE.out]; rfl, hbw.out⟩
      · have k1b : decide (14 < (l.length : Int)) = false := decide_eq_false (by omega)
        have k2b : decide (6 < n3) = false := decide_eq_false (by omega)
        have hl14 : l.length ≤ 14 := by omega
        have HE : Aside0 (checkI L st (l.map up) = if ¬ (1 ≤ L ∧ L ≤ 8 ∧ 0 ≤ st ∧ st < L) ∨ (l.map up).all (runB L) = false then 1 else 0) := ⟨by unfold checkI; rw [if_neg]; have := lostN_up l; rw [HN3.out] at this; simp only [List.length_map]; omega⟩
        clear k1
        by_cases k3 : 1 ≤ L ∧ L ≤ 8
        · have I1 := Aside0.mk (show (decide (1 ≤ L) && decide (L ≤ 8)) = true by simp; omega)
          have eL : 1 ≤ L := k3.1
          have eL2 : L ≤ 8 := k3.2
          clear k3
          by_cases k4 : 0 ≤ st ∧ st < L
          · have I2 := Aside0.mk (show (decide (0 ≤ st) && decide (st ≤ L - 1)) = true by simp; omega)
            have K4 := Aside0.mk k4
            clear k4
            go_wp2_with (first | (with_reducible refine (in_calls L 1 8 true _ I1.out).mono ?_; rintro e w' ⟨rfl, ⟨nd, rfl⟩⟩) | (with_reducible refine (in_calls st 0 (L - 1) true _ I2.out).mono ?_; rintro e w' ⟨rfl, ⟨nd2, rfl⟩⟩))
            go_loopw [5] (fun j wr => ∃ jn : Nat, jn ≤ l.length ∧ j = .int .i64 jn ∧ Aside0 (((l.map up).take jn).all (runB L) = true) ∧ Aside0 (wr.heap[w.heap.size]? = some (.cells #[.int .i64 L, .int .i64 st, .slice A l.length c] 24 (0, 0))) ∧ Aside0 (Below w.heap.size w wr)) (fun j _ => l.length - (intOf j).toNat)
            case atStart => exact ⟨0, by omega, rfl, ⟨by simp⟩, ⟨blk_drewN hbx.out _⟩, ⟨pw_below_drewN hbw.out _⟩⟩
            case round =>
              clear hbx hbw q0 q1 q2 hj6 hj
              obtain ⟨jn, hj, rfl, hall, hbx, hbw⟩ := hrel
              have q0 : wr.cell? ⟨w.heap.size, 0, none⟩ = some (.int .i64 L) := (blk_cell hbx.out 0).trans rfl
              have q2 : wr.cell? ⟨w.heap.size, 2, none⟩ = some (.slice A l.length c) := (blk_cell hbx.out 2).trans rfl
              by_cases hj3 : jn < l.length
              · have hj6 : decide ((jn : Int) < (l.length : Int)) = true := decide_eq_true (by omega)
                have hj7 : (jn : Int) < (l.length : Int) := by omega
                obtain ⟨ad, rfl, g0, g1⟩ := cell43 (Kd.C_below HR.out hbw.out) jn hj3
                obtain ⟨y0, hy0⟩ : ∃ y0, l[jn].f0 = y0 := ⟨_, rfl⟩
                obtain ⟨y1, hy1⟩ : ∃ y1, l[jn].f1 = y1 := ⟨_, rfl⟩
                rw [hy0] at g0
                rw [hy1] at g1
                have HRB : Aside0 (runB L (up l[jn]) = (decide (-1 ≤ y0) && decide (y0 ≤ L - 1) && decide (y1 ≤ 3))) := ⟨by unfold runB up; rw [hy0, hy1]⟩
                have HTK : Aside0 (((l.map up).take (jn + 1)).all (runB L) = (((l.map up).take jn).all (runB L) && runB L (up l[jn]))) := ⟨by rw [List.take_add_one, List.getElem?_map, List.getElem?_eq_getElem hj3, List.all_append]; simp⟩
                clear hy0 hy1
                have HF : Aside0 (runB L (up l[jn]) = false → checkI L st (l.map up) = 1) := ⟨fun h => HE.out.trans (if_pos (.inr (Bool.eq_false_iff.2 fun ha => by
                  have := List.all_eq_true.1 ha (up l[jn]) (List.mem_map_of_mem (List.getElem_mem hj3))
                  rw [h] at this
                  exact Bool.false_ne_true this)))⟩
                by_cases r1 : -1 ≤ y0 ∧ y0 ≤ L - 1
                · have I3 := Aside0.mk (show (decide (-1 ≤ y0) && decide (y0 ≤ L - 1)) = true by simp; omega)
                  by_cases r2 : y1 ≤ 3
                  · have r2b : decide (3 < y1) = false := decide_eq_false (by omega)
                    have HG : Aside0 (runB L (up l[jn]) = true) := ⟨by rw [HRB.out, I3.out, decide_eq_true r2]; rfl⟩
                    clear r1 r2
                    go_wp2_with fail
                    go_quiet ((with_reducible refine Calls.quiet_of (in_callsq y0 (-1) (L - 1) true _ I3.out)))
                    go_wp2_with fail
                    go_roundw
                    case rel => exact ⟨jn + 1, by omega, by go_num, ⟨by rw [HTK.out, hall.out, HG.out]; rfl⟩, ⟨blk_drewN hbx.out _⟩, ⟨pw_below_drewN hbw.out _⟩⟩
                    case measure => simp [intOf]; omega
                  · have r2b : decide (3 < y1) = true := decide_eq_true (by omega)
                    have HG : Aside0 (runB L (up l[jn]) = false) := ⟨by rw [HRB.out, decide_eq_false r2]; simp⟩
                    clear r1 r2
                    go_wp2_with fail
                    go_quiet ((with_reducible refine Calls.quiet_of (in_callsq y0 (-1) (L - 1) true _ I3.out)))
                    go_wp2_with fail
                    go_ret
                    exact ⟨by rw [HF.out HG.out]; rfl, pw_below_drewN hbw.out _⟩
                · have I3 := Aside0.mk (show (decide (-1 ≤ y0) && decide (y0 ≤ L - 1)) = false by simp; omega)
                  have HG : Aside0 (runB L (up l[jn]) = false) := ⟨by rw [HRB.out, I3.out]; rfl⟩
                  clear r1
                  go_wp2_with fail
                  go_quiet ((with_reducible refine Calls.quiet_of (in_callsq y0 (-1) (L - 1) false _ I3.out)))
                  go_wp2_with fail
                  go_ret
                  exact ⟨by rw [HF.out HG.out]; rfl, pw_below_drewN hbw.out _⟩
              · have hj6 : decide ((jn : Int) < (l.length : Int)) = false := decide_eq_false (by omega)
                have HG : Aside0 (checkI L st (l.map up) = 0) := ⟨by
                  have htk : (l.map up).take jn = l.map up := List.take_of_length_le (by simp; omega)
                  have := hall.out
                  rw [htk] at this
                  rw [HE.out, if_neg]
                  rintro (h | h)
                  · have := K4.out; omega
                  · rw [this] at h; cases h⟩
                go_wp2_with fail
                go_ret
                exact ⟨by rw [HG.out]; rfl, hbw.out⟩
          · have I2 := Aside0.mk (show (decide (0 ≤ st) && decide (st ≤ L - 1)) = false by simp; omega)
            have HE1 : Aside0 (checkI L st (l.map up) = 1) := ⟨by rw [HE.out, if_pos (.inl (by omega))]⟩
            clear k4
            go_wp2_with (first | (with_reducible refine (in_calls L 1 8 true _ I1.out).mono ?_; rintro e w' ⟨rfl, ⟨nd, rfl⟩⟩) | (with_reducible refine (in_calls st 0 (L - 1) false _ I2.out).mono ?_; rintro e w' ⟨rfl, ⟨nd2, rfl⟩⟩))
            go_ret
            exact ⟨by rw [HE1.out]; rfl, pw_below_drewN hbw.out _⟩
        · have I1 := Aside0.mk (show (decide (1 ≤ L) && decide (L ≤ 8)) = false by simp; omega)
          have HE1 : Aside0 (checkI L st (l.map up) = 1) := ⟨by rw [HE.out, if_pos (.inl (by omega))]⟩
          clear k3
          go_wp2_with ((with_reducible refine (in_calls L 1 8 false _ I1.out).mono ?_); rintro e w' ⟨rfl, ⟨nd, rfl⟩⟩)
          go_ret
          exact ⟨by rw [HE1.out]; rfl, pw_below_drewN hbw.out _⟩
set_option maxHeartbeats 2000000 in
set_option maxRecDepth 100000 in
theorem ready_calls (L st : Int) (A : Option Addr) (c : Nat) (l : List S43) (w : World) (hr : Kd.C k43 w A l.length l) (hc : l.length ≤ c) (hm : l.length ≤ 9000000000000000000) (b : Bool) (hb : decide (checkI L st (l.map up) = 0) = b) :
    Calls Try.prog 23 #[.agg #[.int .i64 L, .int .i64 st, .slice A l.length c]] w fun e w' => e = .returned (.bool b) ∧ Below w.heap.size w w' := by
  have hu24 := Try.underlying24
  have HR := Aside0.mk hr
  have HC := Aside0.mk hc
  have HB := Aside0.mk hb
  clear hr hc hb
  have HW : Aside0 (Below w.heap.size w (w.alloc (.cells #[.int .i64 L, .int .i64 st, .slice A l.length c] 24))) := ⟨(Below.refl _ w).alloc (by simp) _⟩
  have HR1 := Aside0.mk (Kd.C_below HR.out HW.out)
  have HX := Aside0.mk (blk_new w (.cells #[.int .i64 L, .int .i64 st, .slice A l.length c] 24))
  have hlt : w.heap.size < (w.alloc (.cells #[.int .i64 L, .int .i64 st, .slice A l.length c] 24)).heap.size := by simp
  have HLT := Aside0.mk hlt
  clear hlt
  go_enter Try.func23, Try.ntmps23
  go_wp2_with fail
  by_cases h20 : l.length ≤ 20
  · have HT := Aside0.mk (show tensilelaw04_Thin.f L st l = some true by unfold tensilelaw04_Thin.f; congr 1; simp; omega)
    clear h20
    refine (tensilelaw04_Thin.calls L st A c l true _ HR1.out HC.out HT.out).mono ?_
    rintro e w2 ⟨rfl, hb2⟩
    have HX2 := Aside0.mk (blk_below HX.out hb2)
    have HR2 := Aside0.mk (Kd.C_below HR1.out hb2)
    have HW2 := Aside0.mk (HW.out.trans (hb2.mono HW.out.size))
    have q0 : w2.cell? ⟨w.heap.size, 0, none⟩ = some (.int .i64 L) := (blk_cell HX2.out 0).trans rfl
    have q1 : w2.cell? ⟨w.heap.size, 1, none⟩ = some (.int .i64 st) := (blk_cell HX2.out 1).trans rfl
    have q2 : w2.cell? ⟨w.heap.size, 2, none⟩ = some (.slice A l.length c) := (blk_cell HX2.out 2).trans rfl
    clear hb2
    go_wp2_with fail
    refine (fault_calls L st A c l _ HR2.out HC.out hm).mono ?_
    rintro e w3 ⟨rfl, hb3⟩
    have HW3 := Aside0.mk (HW2.out.trans (hb3.mono HW2.out.size))
    obtain ⟨ck, hck⟩ : ∃ ck, checkI L st (l.map up) = ck := ⟨_, rfl⟩
    rw [hck] at HB ⊢
    clear hck hb3
    cases b with
    | true =>
      have : ck = 0 := of_decide_eq_true HB.out
      subst this
      go_wp2_with fail
      go_ret
      exact ⟨rfl, HW3.out⟩
    | false =>
      have h0 : (ck == 0) = false := beq_eq_false_iff_ne.2 (of_decide_eq_false HB.out)
      go_wp2_with fail
      go_ret
      exact ⟨rfl, HW3.out⟩
  · have HT := Aside0.mk (show tensilelaw04_Thin.f L st l = some false by unfold tensilelaw04_Thin.f; congr 1; simp; omega)
    have hck : checkI L st (l.map up) = 3 := by unfold checkI; rw [if_pos (.inl (by simp; omega))]
    have : b = false := by rw [← HB.out, hck]; rfl
    subst this
    clear h20 hck
    refine (tensilelaw04_Thin.calls L st A c l false _ HR1.out HC.out HT.out).mono ?_
    rintro e w2 ⟨rfl, hb2⟩
    have HW2 := Aside0.mk (HW.out.trans (hb2.mono HW.out.size))
    clear hb2
    go_wp2_with fail
    go_ret
    exact ⟨rfl, HW2.out⟩
end Go.Proofs.Ytkglggggmlnleaa.Print
