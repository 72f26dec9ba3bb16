/- Checking a staircase. -/
import Derived.Test.YtkglggggmlnleaaXA
import Derived.Test.YtkglggggmlnleaaI
import Derived.WalkMore
import Derived.Laws.EntriesVeiled
namespace Go.Proofs.Ytkglggggmlnleaa.Print
open Go.RowKit Go.Proofs.YtkglggggmlnleaaW.PrintWords Go.Proofs.YtkglggggmlnleaaW.PrintLast Go.Proofs.YtkglggggmlnleaaW.PrintMore
set_option linter.unusedVariables false
set_option linter.unusedSimpArgs false

set_option maxHeartbeats 1000000 in
set_option maxRecDepth 100000 in
theorem all1_calls (L st : Int) (A : Option Addr) (c : Nat) (l : List S67) (lv r : Int) (b : Bool) (w : World) (B : Nat)
    (hr : Kd.C k67 w A l.length l) (hc : l.length ≤ c)
    (hb : w.heap[B]? = some (.cells #[.func (.func 59) #[.agg #[.int .i64 L, .int .i64 st, .slice A l.length c]] #[]] 102 (0, 0)))
    (h : stair_Stairs_run.f L st l lv r = some b) :
    Calls Try.prog 76 #[.agg #[.int .i64 lv, .int .u8 r], .pointer (some ⟨B, 0, none⟩)] w fun e w' => e = .returned (.bool (!b)) ∧ Below w.heap.size w w' := by
  have hu67 := Try.underlying67
  have hcB : w.cell? ⟨B, 0, none⟩ = some (.func (.func 59) #[.agg #[.int .i64 L, .int .i64 st, .slice A l.length c]] #[]) := (blk_cell hb 0).trans rfl
  have hfB := blk_frozen hb 0
  have hlt := blk_lt hb
  have HR := Aside0.mk hr
  have HC := Aside0.mk hc
  have HH := Aside0.mk h
  clear hr hc h
  go_enter Try.func76, Try.ntmps76
  go_wp2_with fail
  refine (stair_Stairs_run.calls L st A c l lv r b _ (Kd.C_below HR.out ((Below.refl _ _).alloc (Nat.le_refl _) _)) HC.out HH.out).mono ?_
  rintro e w' ⟨rfl, hb1⟩
  go_wp2_with fail
  go_ret
  exact ⟨rfl, ((Below.refl _ _).alloc (Nat.le_refl _) _).trans (hb1.mono (by simp))⟩
end Go.Proofs.Ytkglggggmlnleaa.Print
namespace Go.Proofs.Ytkglggggmlnleaa.Print
open Go.RowKit Go.Proofs.YtkglggggmlnleaaW.PrintWords Go.Proofs.YtkglggggmlnleaaW.PrintLast Go.Proofs.YtkglggggmlnleaaW.PrintMore
set_option linter.unusedVariables false
set_option linter.unusedSimpArgs false

def runB (L : Int) (x : S67) : Bool := decide (-1 ≤ x.f0) && decide (x.f0 ≤ L - 1) && decide (x.f1 ≤ 3)
theorem run_f (L st : Int) (l : List S67) (x : S67) (hL1 : 1 ≤ L) (hL : L ≤ 8) : stair_Stairs_run.f L st l x.f0 x.f1 = some (runB L x) := by
  have e : wrap64 (L - 1) = L - 1 := by unfold wrap64; omega
  unfold stair_Stairs_run.f stair_within.f runB
  rw [e]
  by_cases h1 : -1 ≤ x.f0
  · by_cases h2 : x.f0 ≤ L - 1 <;> simp [h1, h2]
  · simp [h1]

theorem place_f (L st : Int) : stair_place.f L st = some (decide (1 ≤ L) && decide (L ≤ 8) && decide (0 ≤ st) && decide (st < L)) := by
  unfold stair_place.f stair_within.f
  by_cases h1 : 1 ≤ L
  · by_cases h2 : L ≤ 8
    · have e : wrap64 (L - 1) = L - 1 := by unfold wrap64; omega
      rw [e]
      have e2 : (st ≤ L - 1) ↔ st < L := by omega
      by_cases h3 : 0 ≤ st <;> simp [h1, h2, h3, e2]
    · simp [h1, h2]
  · simp [h1]

set_option maxHeartbeats 2000000 in
set_option maxRecDepth 100000 in
theorem index_calls (L st : Int) (A : Option Addr) (c : Nat) (l : List S67) (w : World) (B Bf : Nat) (hL1 : 1 ≤ L) (hL : L ≤ 8) (hn : l.length ≤ 14)
    (hr : Kd.C k67 w A l.length l) (hc : l.length ≤ c) (hb : w.heap[B]? = some (.cells #[.func (.func 59) #[.agg #[.int .i64 L, .int .i64 st, .slice A l.length c]] #[]] 102 (0, 0))) :
    Calls Try.prog 87 #[.slice A l.length c, .func (.func 76) #[] #[.pointer (some ⟨B, 0, none⟩)]] w fun e w' => ∃ i : Int, e = .returned (.int .i64 i) ∧ (decide (0 ≤ i) = !(l.all (runB L))) ∧ Below w.heap.size w w' := by
  have hu67 := Try.underlying67
  have HR := Aside0.mk hr
  have HB := Aside0.mk hb
  have HC := Aside0.mk hc
  clear hr hb hc
  go_enter Try.func87, Try.ntmps87
  go_wp2_with fail
  go_loopw [8] (fun j wr => ∃ jn : Nat, jn ≤ l.length ∧ j = .int .i64 jn ∧ Aside0 ((l.take jn).all (runB L) = true) ∧ Aside0 (Below w.heap.size w wr)) (fun j _ => l.length - (intOf j).toNat)
  case atStart => exact ⟨0, by omega, rfl, ⟨by simp⟩, ⟨Below.refl _ _⟩⟩
  case round =>
    obtain ⟨jn, hj, rfl, hall, hbw⟩ := hrel
    by_cases hj3 : jn < l.length
    · have hj4 : (jn : Int) < (l.length : Int) := by omega
      have hj5 : (0 : Int) ≤ (jn : Int) := by omega
      have hj6 : decide ((jn : Int) < (l.length : Int)) = true := decide_eq_true hj4
      have hC := Kd.C_below HR.out hbw.out
      obtain ⟨ad, rfl, g0, g1⟩ := at_T67 hC jn hj5 hj4
      have hx : rd_T67 l jn = l[jn] := by unfold rd_T67; simp [List.getD_eq_getElem?_getD, hj3]
      rw [hx] at g0 g1
      have g0 : wr.cell? (ad.add (jn * 2)) = some (.int .i64 l[jn].f0) := g0
      have g1 : wr.cell? ⟨(ad.add (jn * 2)).block, (ad.add (jn * 2)).off + 1, none⟩ = some (.int .u8 l[jn].f1) := g1
      have HC' := Aside0.mk hC
      clear hC
      go_wp2_with fail
      refine (all1_calls L st (some ad) c l l[jn].f0 l[jn].f1 (runB L l[jn]) wr B HC'.out HC.out (blk_below HB.out hbw.out) (run_f L st l l[jn] hL1 hL)).mono ?_
      rintro e w2 ⟨rfl, hb2⟩
      have hbw2 := Aside0.mk (hbw.out.trans (hb2.mono hbw.out.size))
      obtain ⟨rb, hrb⟩ : ∃ rb, runB L l[jn] = rb := ⟨_, rfl⟩
      rw [hrb]
      have HRB := Aside0.mk hrb
      clear hrb hb2
      cases rb with
      | true =>
        go_wp2_with fail
        go_roundw
        case rel =>
          refine ⟨jn + 1, by omega, by push_cast; first | rfl | go_num, ⟨?_⟩, hbw2⟩
          rw [List.take_add_one, List.getElem?_eq_getElem hj3, List.all_append, hall.out]
          simp [HRB.out]
        case measure => simp [intOf]; omega
      | false =>
        go_wp2_with fail
        first | rw [Exit.noGoto_ret] | skip
        go_ret
        refine ⟨jn, rfl, ?_, hbw2.out⟩
        have : l.all (runB L) = false := by
          rw [List.all_eq_false]
          exact ⟨l[jn], List.getElem_mem hj3, by simp [HRB.out]⟩
        simp [this]
    · have hj4 : (l.length : Int) ≤ (jn : Int) := by omega
      have hj6 : decide ((jn : Int) < (l.length : Int)) = false := decide_eq_false (by omega)
      go_wp2_with fail
      first | rw [Exit.noGoto_ret] | skip
      go_ret
      refine ⟨-1, rfl, ?_, hbw.out⟩
      have h := hall.out
      rw [List.take_of_length_le (by omega)] at h
      simp [h]

set_option maxHeartbeats 2000000 in
set_option maxRecDepth 100000 in
theorem contains_calls (L st : Int) (A : Option Addr) (c : Nat) (l : List S67) (w : World) (B : Nat) (hL1 : 1 ≤ L) (hL : L ≤ 8) (hn : l.length ≤ 14)
    (hr : Kd.C k67 w A l.length l) (hc : l.length ≤ c) (hb : w.heap[B]? = some (.cells #[.func (.func 59) #[.agg #[.int .i64 L, .int .i64 st, .slice A l.length c]] #[]] 102 (0, 0))) :
    Calls Try.prog 75 #[.slice A l.length c, .func (.func 76) #[] #[.pointer (some ⟨B, 0, none⟩)]] w fun e w' => e = .returned (.bool !(l.all (runB L))) ∧ Below w.heap.size w w' := by
  go_enter Try.func75, Try.ntmps75
  go_wp2_with fail
  refine (index_calls L st A c l _ B 0 hL1 hL hn hr hc hb).mono ?_
  rintro e w2 ⟨i, rfl, hi, hb2⟩
  go_wp2_with fail
  go_ret
  exact ⟨by simp [← hi], hb2⟩
set_option maxHeartbeats 2000000 in
set_option maxRecDepth 100000 in
theorem all_calls (L st : Int) (A : Option Addr) (c : Nat) (l : List S67) (w : World) (hL1 : 1 ≤ L) (hL : L ≤ 8) (hn : l.length ≤ 14) (hr : Kd.C k67 w A l.length l) (hc : l.length ≤ c) :
    Calls Try.prog 58 #[.slice A l.length c, .func (.func 59) #[.agg #[.int .i64 L, .int .i64 st, .slice A l.length c]] #[]] w fun e w' => e = .returned (.bool (l.all (runB L))) ∧ Below w.heap.size w w' := by
  have HR := Aside0.mk hr
  have HC := Aside0.mk hc
  clear hr hc
  go_enter Try.func58, Try.ntmps58
  go_wp2_with fail
  refine (contains_calls L st A c l _ w.heap.size hL1 hL hn (Kd.C_alloc HR.out _) HC.out (blk_new w _)).mono ?_
  rintro e w2 ⟨rfl, hb⟩
  go_wp2_with fail
  go_ret
  exact ⟨by simp, ((Below.refl _ _).alloc (Nat.le_refl _) _).trans (hb.mono (by simp))⟩
/-- The error of a staircase, as the program finds it. -/
def checkI (L st : Int) (l : List S67) : Int :=
  if 14 < l.length ∨ 6 < (l.filter fun x => decide (x.f1 = 3)).length then 3
  else if ¬ (1 ≤ L ∧ L ≤ 8 ∧ 0 ≤ st ∧ st < L) ∨ l.all (runB L) = false then 1 else 0
set_option maxHeartbeats 2000000 in
set_option maxRecDepth 100000 in
theorem check_calls (L st : Int) (A : Option Addr) (c : Nat) (l : List S67) (w : World) (hr : Kd.C k67 w A l.length l) (hc : l.length ≤ c) (hm : l.length ≤ 9223372036854775807) :
    Calls Try.prog 31 #[.agg #[.int .i64 L, .int .i64 st, .slice A l.length c]] w fun e w' => e = .returned (.int .i64 (checkI L st l)) ∧ Below w.heap.size w w' := by
  have hu67 := Try.underlying67
  have hu34 := Try.underlying34
  have HR := Aside0.mk hr
  have HC := Aside0.mk hc
  clear hr hc
  go_enter Try.func31, Try.ntmps31
  go_wp2_with fail
  go_loopw [3, 9] (fun lo j wr => ∃ jn : Nat, jn ≤ l.length ∧ j = .int .i64 jn ∧ lo = .int .i64 ((l.take jn).filter fun x => decide (x.f1 = 3)).length ∧ Aside0 (wr.heap[w.heap.size]? = some (.cells #[.int .i64 L, .int .i64 st, .slice A l.length c] 34 (0, 0))) ∧ Aside0 (Below w.heap.size w wr)) (fun _ j _ => l.length - (intOf j).toNat)
  case atStart => exact ⟨0, by omega, rfl, rfl, ⟨blk_new w _⟩, ⟨(Below.refl _ _).alloc (Nat.le_refl _) _⟩⟩
  case round =>
    obtain ⟨jn, hj, rfl, rfl, hbx, hbw⟩ := hrel
    by_cases hj3 : jn < l.length
    · have hj4 : (jn : Int) < (l.length : Int) := by omega
      have hj5 : (0 : Int) ≤ (jn : Int) := by omega
      have hj6 : decide ((jn : Int) < (l.length : Int)) = true := decide_eq_true hj4
      have hC := Kd.C_below HR.out hbw.out
      obtain ⟨ad, rfl, g0, g1⟩ := at_T67 hC jn hj5 hj4
      have hx : rd_T67 l jn = l[jn] := by unfold rd_T67; simp [List.getD_eq_getElem?_getD, hj3]
      rw [hx] at g0 g1
      have g0 : wr.cell? (ad.add (jn * 2)) = some (.int .i64 l[jn].f0) := g0
      have g1 : wr.cell? ⟨(ad.add (jn * 2)).block, (ad.add (jn * 2)).off + 1, none⟩ = some (.int .u8 l[jn].f1) := g1
      clear hC
      have hlen : (((l.take jn).filter fun x => decide (x.f1 = 3)).length : Int) < 9223372036854775807 := by
        have := List.length_filter_le (fun x : S67 => decide (x.f1 = 3)) (l.take jn)
        simp at this
        omega
      have hbw2 := Aside0.mk (hbw.out.alloc (by exact hbw.out.size) (.cells #[.int .i64 l[jn].f0, .int .u8 l[jn].f1] 67 (0, 0)))
      have hbx2 := Aside0.mk (blk_alloc hbx.out (.cells #[.int .i64 l[jn].f0, .int .u8 l[jn].f1] 67 (0, 0)))
      have htk : ((l.take (jn + 1)).filter fun x => decide (x.f1 = 3)) = ((l.take jn).filter fun x => decide (x.f1 = 3)) ++ if l[jn].f1 = 3 then [l[jn]] else [] := by
        rw [List.take_add_one, List.getElem?_eq_getElem hj3, List.filter_append]
        by_cases h3 : l[jn].f1 = 3 <;> simp [h3]
      have HTK := Aside0.mk htk
      clear htk
      by_cases h3 : l[jn].f1 = 3
      · have h3b : (l[jn].f1 == 3) = true := beq_iff_eq.2 h3
        have H3 := Aside0.mk h3
        clear h3
        go_wp2_with fail
        go_roundw
        case rel =>
          refine ⟨jn + 1, by omega, by push_cast; first | rfl | go_num, ?_, hbx2, hbw2⟩
          rw [HTK.out, if_pos H3.out]
          simp
        case measure => simp [intOf]; omega
      · have h3b : (l[jn].f1 == 3) = false := beq_eq_false_iff_ne.2 h3
        go_wp2_with fail
        go_roundw
        case rel =>
          refine ⟨jn + 1, by omega, by push_cast; first | rfl | go_num, ?_, hbx2, hbw2⟩
          rw [HTK.out, if_neg h3]
          simp
        case measure => simp [intOf]; omega
    · have hj4 : (l.length : Int) ≤ (jn : Int) := by omega
      have hj6 : decide ((jn : Int) < (l.length : Int)) = false := decide_eq_false (by omega)
      have htk : l.take jn = l := List.take_of_length_le (by omega)
      rw [htk]
      have q0 : wr.cell? ⟨w.heap.size, 0, none⟩ = some (.int .i64 L) := (blk_cell hbx.out 0).trans rfl
      have q1 : wr.cell? ⟨w.heap.size, 1, none⟩ = some (.int .i64 st) := (blk_cell hbx.out 1).trans rfl
      have q2 : wr.cell? ⟨w.heap.size, 2, none⟩ = some (.slice A l.length c) := (blk_cell hbx.out 2).trans rfl
      obtain ⟨n3, hn3⟩ : ∃ n3, (l.filter fun x => decide (x.f1 = 3)).length = n3 := ⟨_, rfl⟩
      rw [hn3]
      have HN3 := Aside0.mk hn3
      clear hn3
      by_cases k1 : 14 < l.length
      · have k1b : decide (14 < (l.length : Int)) = true := decide_eq_true (by omega)
        have k1c : checkI L st l = 3 := by unfold checkI; rw [if_pos (.inl k1)]
        have K1 := Aside0.mk k1c
        clear k1 k1c
        go_wp2_with fail
        first | rw [Exit.noGoto_ret] | skip
        go_ret
        exact ⟨by rw [K1.out]; rfl, hbw.out⟩
      · have k1b : decide (14 < (l.length : Int)) = false := decide_eq_false (by omega)
        by_cases k2 : 6 < n3
        · have k2b : decide (6 < (n3 : Int)) = true := decide_eq_true (by omega)
          have k2c : checkI L st l = 3 := by unfold checkI; rw [if_pos (.inr (by rw [HN3.out]; exact k2))]
          have K2 := Aside0.mk k2c
          clear k1 k2 k2c
          go_wp2_with fail
          first | rw [Exit.noGoto_ret] | skip
          go_ret
          exact ⟨by rw [K2.out]; rfl, hbw.out⟩
        · have k2b : decide (6 < (n3 : Int)) = false := decide_eq_false (by omega)
          have k3 : l.length ≤ 14 := by omega
          have K3 : Aside0 (¬ (14 < l.length ∨ 6 < (l.filter fun x => decide (x.f1 = 3)).length)) := ⟨by rw [HN3.out]; omega⟩
          have hpl := place_f L st
          obtain ⟨pb, hpb⟩ : ∃ pb, (decide (1 ≤ L) && decide (L ≤ 8) && decide (0 ≤ st) && decide (st < L)) = pb := ⟨_, rfl⟩
          rw [hpb] at hpl
          have HPL := Aside0.mk hpl
          have HPB := Aside0.mk hpb
          clear hpl hpb k1 k2
          cases pb with
          | false =>
            go_wp2_with (go_at_call 57; refine (stair_place.calls L st false wr HPL.out).mono ?_; rintro e w' ⟨rfl, ⟨nd, rfl⟩⟩; have HBN := Aside0.mk (pw_below_drewN hbw.out nd))
            first | rw [Exit.noGoto_ret] | skip
            go_ret
            refine ⟨?_, HBN.out⟩
            have : checkI L st l = 1 := by
              unfold checkI
              refine (if_neg K3.out).trans (if_pos (.inl ?_))
              have := HPB.out
              simp at this
              omega
            rw [this]; rfl
          | true =>
            have hr4 : 1 ≤ L ∧ L ≤ 8 ∧ 0 ≤ st ∧ st < L := by have := HPB.out; simp at this; omega
            obtain ⟨ab, hab⟩ : ∃ ab, l.all (runB L) = ab := ⟨_, rfl⟩
            have HAB := Aside0.mk hab
            clear hab
            have R4 := Aside0.mk hr4
            clear hr4
            cases ab with
            | false =>
              go_wp2_with (first | (go_at_call 57; refine (stair_place.calls L st true wr HPL.out).mono ?_; rintro e w' ⟨rfl, ⟨nd, rfl⟩⟩; have HBN := Aside0.mk (pw_below_drewN hbw.out nd)) | (go_at_call 58; refine (all_calls L st A c l (wr.drewN nd) R4.out.1 R4.out.2.1 k3 (Kd.C_below HR.out HBN.out) HC.out).mono ?_; rintro e w3 ⟨rfl, hb3⟩; have HB3 := Aside0.mk (HBN.out.trans (hb3.mono HBN.out.size)); rw [HAB.out]; clear hb3))
              first | rw [Exit.noGoto_ret] | skip
              go_ret
              refine ⟨?_, HB3.out⟩
              have : checkI L st l = 1 := by
                unfold checkI
                rw [if_neg K3.out, if_pos (.inr HAB.out)]
              rw [this]; rfl
            | true =>
              go_wp2_with (first | (go_at_call 57; refine (stair_place.calls L st true wr HPL.out).mono ?_; rintro e w' ⟨rfl, ⟨nd, rfl⟩⟩; have HBN := Aside0.mk (pw_below_drewN hbw.out nd)) | (go_at_call 58; refine (all_calls L st A c l (wr.drewN nd) R4.out.1 R4.out.2.1 k3 (Kd.C_below HR.out HBN.out) HC.out).mono ?_; rintro e w3 ⟨rfl, hb3⟩; have HB3 := Aside0.mk (HBN.out.trans (hb3.mono HBN.out.size)); rw [HAB.out]; clear hb3))
              first | rw [Exit.noGoto_ret] | skip
              go_ret
              refine ⟨?_, HB3.out⟩
              have : checkI L st l = 0 := by
                unfold checkI
                rw [if_neg K3.out, if_neg]
                rintro (h | h)
                · exact h R4.out
                · rw [HAB.out] at h; cases h
              rw [this]; rfl
end Go.Proofs.Ytkglggggmlnleaa.Print
