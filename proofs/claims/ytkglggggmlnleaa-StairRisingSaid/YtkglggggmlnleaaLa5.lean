/- The law of the rising ranks, walked by hand. -/
import Derived.Test.YtkglggggmlnleaaSd
import Derived.Test.YtkglggggmlnleaaPq
namespace Go.Proofs.Ytkglggggmlnleaa.Print
open Go.RowKit Go.Proofs.YtkglggggmlnleaaW.PrintWords Go.Proofs.YtkglggggmlnleaaW.PrintLast Go.Proofs.YtkglggggmlnleaaW.PrintMore
set_option linter.unusedVariables false
set_option linter.unusedSimpArgs false
set_option maxHeartbeats 4000000 in
set_option maxRecDepth 100000 in
theorem law_rising (L st : Int) (A : Option Addr) (c : Nat) (l : List S43) (w : World) (hr : Kd.C k43 w A l.length l) (hc : l.length ≤ c) (hl : l.length < 8796093022208) :
    Calls Try.prog 5 #[.agg #[.int .i64 L, .int .i64 st, .slice A l.length c]] w fun e w' => e = .returned (.bool true) ∧ Below w.heap.size w w' := by
  have hu24 := Try.underlying24
  have HR := Aside0.mk hr
  have HC := Aside0.mk hc
  clear hr hc
  have KB : Aside0 (Below w.heap.size w (w.alloc (.cells #[.int .i64 L, .int .i64 st, .slice A l.length c] 24))) := ⟨(Below.refl _ w).alloc (by simp) _⟩
  have X := Aside0.mk (blk_new w (.cells #[.int .i64 L, .int .i64 st, .slice A l.length c] 24))
  obtain ⟨xs, hxs⟩ : ∃ xs, l.map up = xs := ⟨_, rfl⟩
  have HX := Aside0.mk hxs
  clear hxs
  have HLT : Aside0 (w.heap.size < (w.alloc (.cells #[.int .i64 L, .int .i64 st, .slice A l.length c] 24)).heap.size) := ⟨by simp⟩
  go_enter Try.func5, Try.ntmps5
  go_wp2_with fail
  generalize w.alloc (.cells #[.int .i64 L, .int .i64 st, .slice A l.length c] 24) = w0 at KB X HLT ⊢
  have qX0 : w0.cell? ⟨w.heap.size, 0, none⟩ = some (.int .i64 L) := (blk_cell X.out 0).trans rfl
  have qX1 : w0.cell? ⟨w.heap.size, 1, none⟩ = some (.int .i64 st) := (blk_cell X.out 1).trans rfl
  have qX2 : w0.cell? ⟨w.heap.size, 2, none⟩ = some (.slice A l.length c) := (blk_cell X.out 2).trans rfl
  have lX := blk_lt X.out
  obtain ⟨rb, hrb⟩ : ∃ rb, decide (checkI L st (l.map up) = 0) = rb := ⟨_, rfl⟩
  have HRB := Aside0.mk hrb
  clear hrb
  refine (ready_calls L st A c l _ (Kd.C_below HR.out KB.out) HC.out (by omega) rb HRB.out).mono ?_
  rintro e w1 ⟨rfl, hb1⟩
  clear qX0 qX1 qX2 lX
  replace KB := Aside0.mk (KB.out.trans (hb1.mono KB.out.size))
  replace X := Aside0.mk (blk_below X.out hb1)
  clear hb1
  have qX0 : w1.cell? ⟨w.heap.size, 0, none⟩ = some (.int .i64 L) := (blk_cell X.out 0).trans rfl
  have qX1 : w1.cell? ⟨w.heap.size, 1, none⟩ = some (.int .i64 st) := (blk_cell X.out 1).trans rfl
  have qX2 : w1.cell? ⟨w.heap.size, 2, none⟩ = some (.slice A l.length c) := (blk_cell X.out 2).trans rfl
  have lX := blk_lt X.out
  cases rb with
  | false =>
    go_wp2_with fail
    refine (awake_calls _).mono ?_
    rintro e w2 ⟨rfl, hb2⟩
    clear qX0 qX1 qX2 lX
    replace KB := Aside0.mk (KB.out.trans (hb2.mono KB.out.size))
    replace X := Aside0.mk (blk_below X.out hb2)
    clear hb2
    have qX0 : w2.cell? ⟨w.heap.size, 0, none⟩ = some (.int .i64 L) := (blk_cell X.out 0).trans rfl
    have qX1 : w2.cell? ⟨w.heap.size, 1, none⟩ = some (.int .i64 st) := (blk_cell X.out 1).trans rfl
    have qX2 : w2.cell? ⟨w.heap.size, 2, none⟩ = some (.slice A l.length c) := (blk_cell X.out 2).trans rfl
    have lX := blk_lt X.out
    go_wp2_with fail
    go_ret
    exact ⟨rfl, KB.out⟩
  | true =>
    have HCK : Aside0 (checkI L st xs = 0) := ⟨by rw [← HX.out]; exact of_decide_eq_true HRB.out⟩
    go_wp2_with fail
    clear qX0 qX1 qX2 lX
    go_loopw [4] (fun i wr => ∃ jn : Nat, jn ≤ l.length ∧ i = .int .i64 jn ∧ Aside0 (∃ v, wr.heap[w1.heap.size]? = some (.cells #[.int .i64 L, .int .i64 st, v] 24 (0, 0)) ∧ k43.R 43 wr w1.heap.size (fun _ => True) v (List.replicate jn ⟨st, 2⟩)) ∧ Aside0 (Below w1.heap.size w1 wr)) (fun i _ => l.length - (intOf i).toNat)
    case atStart => exact ⟨0, by omega, rfl, ⟨_, blk_new w1 _, Kd.R_nil _ _ _ _ _⟩, ⟨(Below.refl _ _).alloc (Nat.le_refl _) _⟩⟩
    case round =>
      obtain ⟨jn, hj, rfl, hv, hbw⟩ := hrel
      obtain ⟨v, hv1, hv2⟩ := hv.out
      have KX := Aside0.mk (blk_below X.out hbw.out)
      have XB := Aside0.mk hv1
      have HV := Aside0.mk hv2
      clear hv hv1 hv2
      have qKX0 : wr.cell? ⟨w.heap.size, 0, none⟩ = some (.int .i64 L) := (blk_cell KX.out 0).trans rfl
      have qKX1 : wr.cell? ⟨w.heap.size, 1, none⟩ = some (.int .i64 st) := (blk_cell KX.out 1).trans rfl
      have qKX2 : wr.cell? ⟨w.heap.size, 2, none⟩ = some (.slice A l.length c) := (blk_cell KX.out 2).trans rfl
      have lKX := blk_lt KX.out
      have qXB0 : wr.cell? ⟨w1.heap.size, 0, none⟩ = some (.int .i64 L) := (blk_cell XB.out 0).trans rfl
      have qXB1 : wr.cell? ⟨w1.heap.size, 1, none⟩ = some (.int .i64 st) := (blk_cell XB.out 1).trans rfl
      have qXB2 : wr.cell? ⟨w1.heap.size, 2, none⟩ = some (v) := (blk_cell XB.out 2).trans rfl
      have lXB := blk_lt XB.out
      have f2 := blk_frozen XB.out 2
      by_cases hj3 : jn < l.length
      · have hj6 : decide ((jn : Int) < (l.length : Int)) = true := decide_eq_true (by omega)
        go_wp2_with (first | ((with_reducible refine gate_builtin (b := .append) (xs := #[.tmp 25, .tmp 29]) rfl ?_); at_builtin; go_loud (refine Kd.R_append k43 (w0 := w1) w1.heap.size rfl (.tmp 25) (.tmp 29) 22 43 (.agg #[(.int .i64 0), (.int .u8 0)]) 16 rfl Try.underlying22 info43 rfl (by decide) (by omega) v (List.replicate jn ⟨st, 2⟩) ⟨st, 2⟩ [.int .i64 st, .int .u8 2] (fun _ => True) (fun _ => False) rfl (by simp [Act.eval]) (k43_mkM _ _ _ ⟨st, 2⟩) (fun _ h => h.elim) (fun _ _ => trivial) HV.out hbw.out hbw.out.size (by simp; omega) ?_; intro v7 w8 hR hb hg hat; obtain ⟨A7, n7, c7, rfl⟩ := R_sl hR; have HV8 := Aside0.mk hR; have HB8 := Aside0.mk hb; have XB8 := Aside0.mk (blk_grown XB.out hg (Kd.R_ne HV.out XB.out (by decide))); clear hR hb hg hat; have y0 : w8.cell? ⟨w1.heap.size, 2, none⟩ = some v := (blk_cell XB8.out 2).trans rfl; have y1 := blk_frozen XB8.out 2))) 
        go_roundw
        case rel => exact ⟨jn + 1, by omega, by go_num, ⟨_, blk_put XB8.out 2 _ rfl, by rw [List.replicate_succ']; exact Kd.R_set HV8.out XB8.out (by decide) 2 _⟩, ⟨below_set HB8.out (Nat.le_refl _)⟩⟩
        case measure => simp [intOf]; omega
      · have hj6 : decide ((jn : Int) < (l.length : Int)) = false := decide_eq_false (by omega)
        obtain rfl : jn = l.length := by omega
        have HKB : Aside0 (Below w.heap.size w wr) := ⟨KB.out.trans (hbw.out.mono KB.out.size)⟩
        obtain ⟨A2, c2, hv, hl2, hC2⟩ := Kd.R_reads HV.out
        rw [List.length_replicate] at hv
        subst hv
        have RY : Aside0 (k43.R 43 wr 0 (fun _ => True) (.slice A2 l.length c2) (List.replicate l.length ⟨st, 2⟩)) := ⟨Kd.R_lower HV.out (Nat.zero_le _)⟩
        clear hC2 hl2 HV f2
        clear qKX0 qKX1 qKX2 qXB0 qXB1 qXB2 lKX lXB
        obtain ⟨gs, hgs⟩ : ∃ gs, w1.heap.size = gs := ⟨_, rfl⟩
        rw [hgs] at XB ⊢
        clear hbw hj3 hgs
        obtain ⟨ys, hys⟩ : ∃ ys, List.replicate l.length (⟨st, 2⟩ : S43) = ys := ⟨_, rfl⟩
        obtain ⟨zs, hzs⟩ : ∃ zs, ys.map up = zs := ⟨_, rfl⟩
        rw [hys] at RY
        have HYL : Aside0 (ys.length = l.length) := ⟨by rw [← hys]; simp⟩
        have HXL : Aside0 (xs.length = l.length) := ⟨by rw [← HX.out]; simp⟩
        have HZE : Aside0 (zs = List.replicate xs.length ⟨st, 2⟩) := ⟨by rw [← hzs, ← hys, HXL.out, List.map_replicate]; rfl⟩
        have HZ := Aside0.mk hzs
        clear hys hzs
        have HSL := Aside0.mk (still_law HCK.out)
        rw [← HZE.out] at HSL
        clear KB X
        have KB := HKB
        clear HKB
        have hwf := KB.out.size
        clear hwf
        obtain ⟨pv, hpv⟩ : ∃ pv, possI L st xs = pv := ⟨_, rfl⟩
        have HPV := Aside0.mk hpv
        clear hpv
        have P09 := poss_09 HCK.out
        rw [HPV.out] at P09
        have HP9 := Aside0.mk P09
        clear P09
        have hj7 := Aside0.mk hj6
        clear hj7
        have qKX0 : wr.cell? ⟨w.heap.size, 0, none⟩ = some (.int .i64 L) := (blk_cell KX.out 0).trans rfl
        have qKX1 : wr.cell? ⟨w.heap.size, 1, none⟩ = some (.int .i64 st) := (blk_cell KX.out 1).trans rfl
        have qKX2 : wr.cell? ⟨w.heap.size, 2, none⟩ = some (.slice A l.length c) := (blk_cell KX.out 2).trans rfl
        have lKX := blk_lt KX.out
        have qXB0 : wr.cell? ⟨gs, 0, none⟩ = some (.int .i64 L) := (blk_cell XB.out 0).trans rfl
        have qXB1 : wr.cell? ⟨gs, 1, none⟩ = some (.int .i64 st) := (blk_cell XB.out 1).trans rfl
        have qXB2 : wr.cell? ⟨gs, 2, none⟩ = some (.slice A2 l.length c2) := (blk_cell XB.out 2).trans rfl
        have lXB := blk_lt XB.out
        go_wp2_with fail
        have LB := Aside0.mk (blk_new wr (.cells #[.int .i64 0, .int .i64 0] 28))
        have hbl : Below wr.heap.size wr (wr.alloc (.cells #[.int .i64 0, .int .i64 0] 28)) := (Below.refl _ _).alloc (Nat.le_refl _) _
        have KX0 := KX
        have XB0 := XB
        replace KB := Aside0.mk (KB.out.trans (hbl.mono KB.out.size))
        replace KX := Aside0.mk (blk_below KX.out hbl)
        replace XB := Aside0.mk (blk_below XB.out hbl)
        replace RY := Aside0.mk (Kd.R_below RY.out hbl)
        clear qKX0 qKX1 qKX2 qXB0 qXB1 qXB2 lKX lXB
        have HNE0 : Aside0 (w.heap.size < wr.heap.size ∧ gs < wr.heap.size) := ⟨blk_lt KX0.out, blk_lt XB0.out⟩
        clear hbl
        obtain ⟨gl, hgl⟩ : ∃ g, wr.heap.size = g := ⟨_, rfl⟩
        rw [hgl] at LB HNE0 ⊢
        clear hgl KX0 XB0
        have HNE : Aside0 (w.heap.size < gl ∧ gs ≠ gl) := ⟨by have := HNE0.out; omega⟩
        clear HNE0
        generalize wr.alloc (.cells #[.int .i64 0, .int .i64 0] 28) = w2 at LB KB KX XB RY ⊢
        go_loopw [6] (fun i wr => ∃ kn : Nat, kn ≤ l.length ∧ i = .int .i64 kn ∧ Aside0 (∃ a b : Int, wr.heap[gl]? = some (.cells #[.int .i64 a, .int .i64 b] 28 (0, 0)) ∧ (pv = 0 → (kn = 0 ∧ a = 0 ∧ b = 0) ∨ (∃ j : Nat, j + 1 = kn ∧ a = (rankR L st xs j).1 ∧ b = (rankR L st xs j).2))) ∧ Aside0 (w.heap.size < gl ∧ gs ≠ gl) ∧ Aside0 (Below w.heap.size w wr) ∧ Aside0 (wr.heap[w.heap.size]? = some (.cells #[.int .i64 L, .int .i64 st, .slice A l.length c] 24 (0, 0))) ∧ Aside0 (wr.heap[gs]? = some (.cells #[.int .i64 L, .int .i64 st, .slice A2 l.length c2] 24 (0, 0))) ∧ Aside0 (k43.R 43 wr 0 (fun _ => True) (.slice A2 l.length c2) ys)) (fun i _ => l.length - (intOf i).toNat)
        case atStart => exact ⟨0, by omega, rfl, ⟨0, 0, LB.out, fun _ => .inl ⟨rfl, rfl, rfl⟩⟩, HNE, KB, KX, XB, RY⟩
        case round =>
          clear KB KX XB RY LB HNE
          obtain ⟨kn, hk, rfl, hlast, HNE, KB, KX, XB, RY⟩ := hrel
          obtain ⟨a, b, hL, hab⟩ := hlast.out
          have LB := Aside0.mk hL
          have HAB := Aside0.mk hab
          clear hL hab hlast
          have qKX0 : wr.cell? ⟨w.heap.size, 0, none⟩ = some (.int .i64 L) := (blk_cell KX.out 0).trans rfl
          have qKX1 : wr.cell? ⟨w.heap.size, 1, none⟩ = some (.int .i64 st) := (blk_cell KX.out 1).trans rfl
          have qKX2 : wr.cell? ⟨w.heap.size, 2, none⟩ = some (.slice A l.length c) := (blk_cell KX.out 2).trans rfl
          have lKX := blk_lt KX.out
          have qXB0 : wr.cell? ⟨gs, 0, none⟩ = some (.int .i64 L) := (blk_cell XB.out 0).trans rfl
          have qXB1 : wr.cell? ⟨gs, 1, none⟩ = some (.int .i64 st) := (blk_cell XB.out 1).trans rfl
          have qXB2 : wr.cell? ⟨gs, 2, none⟩ = some (.slice A2 l.length c2) := (blk_cell XB.out 2).trans rfl
          have lXB := blk_lt XB.out
          have qLB0 : wr.cell? ⟨gl, 0, none⟩ = some (.int .i64 a) := (blk_cell LB.out 0).trans rfl
          have qLB1 : wr.cell? ⟨gl, 1, none⟩ = some (.int .i64 b) := (blk_cell LB.out 1).trans rfl
          have lLB := blk_lt LB.out
          by_cases hk3 : kn < l.length
          · have hk6 : decide ((kn : Int) < (l.length : Int)) = true := decide_eq_true (by omega)
            obtain ⟨a1, ha1⟩ : ∃ a1, (rankR L st xs kn).1 = a1 := ⟨_, rfl⟩
            have HA1 := Aside0.mk ha1
            clear ha1
            obtain ⟨a2, ha2⟩ : ∃ a2, (rankR L st xs kn).2 = a2 := ⟨_, rfl⟩
            have HA2 := Aside0.mk ha2
            clear ha2
            obtain ⟨ae, hae⟩ : ∃ ae, askE L st xs kn = ae := ⟨_, rfl⟩
            have HAE := Aside0.mk hae
            clear hae
            have HZR := Aside0.mk (HSL.out.2 kn (by have := HXL.out; omega))
            have HZA : Aside0 (askE L st zs kn = 0) := ⟨ask_0 HSL.out.1 (by omega) (by have := HXL.out; rw [HZE.out]; simp; omega)⟩
            go_wp2_with fail
            refine (stairs_calls L st A c l _ (Kd.C_below HR.out KB.out) HC.out (by omega) xs HX.out).mono ?_
            rintro e w41 ⟨⟨A1, c1, rfl, HC1⟩, hb41⟩
            clear qKX0 qKX1 qKX2 qXB0 qXB1 qXB2 qLB0 qLB1 lKX lXB lLB
            replace KB := Aside0.mk (KB.out.trans (hb41.mono KB.out.size))
            replace KX := Aside0.mk (blk_below KX.out hb41)
            replace XB := Aside0.mk (blk_below XB.out hb41)
            replace RY := Aside0.mk (Kd.R_below RY.out hb41)
            replace LB := Aside0.mk (blk_below LB.out hb41)
            clear hb41
            have qKX0 : w41.cell? ⟨w.heap.size, 0, none⟩ = some (.int .i64 L) := (blk_cell KX.out 0).trans rfl
            have qKX1 : w41.cell? ⟨w.heap.size, 1, none⟩ = some (.int .i64 st) := (blk_cell KX.out 1).trans rfl
            have qKX2 : w41.cell? ⟨w.heap.size, 2, none⟩ = some (.slice A l.length c) := (blk_cell KX.out 2).trans rfl
            have lKX := blk_lt KX.out
            have qXB0 : w41.cell? ⟨gs, 0, none⟩ = some (.int .i64 L) := (blk_cell XB.out 0).trans rfl
            have qXB1 : w41.cell? ⟨gs, 1, none⟩ = some (.int .i64 st) := (blk_cell XB.out 1).trans rfl
            have qXB2 : w41.cell? ⟨gs, 2, none⟩ = some (.slice A2 l.length c2) := (blk_cell XB.out 2).trans rfl
            have lXB := blk_lt XB.out
            have qLB0 : w41.cell? ⟨gl, 0, none⟩ = some (.int .i64 a) := (blk_cell LB.out 0).trans rfl
            have qLB1 : w41.cell? ⟨gl, 1, none⟩ = some (.int .i64 b) := (blk_cell LB.out 1).trans rfl
            have lLB := blk_lt LB.out
            go_wp2_with fail
            refine (rank_calls L st A1 c1 xs (kn : Int) _ HC1.out.1 HC1.out.2).mono ?_
            rintro e w42 ⟨rfl, hb42⟩
            clear qKX0 qKX1 qKX2 qXB0 qXB1 qXB2 qLB0 qLB1 lKX lXB lLB
            replace KB := Aside0.mk (KB.out.trans (hb42.mono KB.out.size))
            replace KX := Aside0.mk (blk_below KX.out hb42)
            replace XB := Aside0.mk (blk_below XB.out hb42)
            replace RY := Aside0.mk (Kd.R_below RY.out hb42)
            replace LB := Aside0.mk (blk_below LB.out hb42)
            rw [HA1.out, HA2.out, HAE.out]
            clear hb42
            have qKX0 : w42.cell? ⟨w.heap.size, 0, none⟩ = some (.int .i64 L) := (blk_cell KX.out 0).trans rfl
            have qKX1 : w42.cell? ⟨w.heap.size, 1, none⟩ = some (.int .i64 st) := (blk_cell KX.out 1).trans rfl
            have qKX2 : w42.cell? ⟨w.heap.size, 2, none⟩ = some (.slice A l.length c) := (blk_cell KX.out 2).trans rfl
            have lKX := blk_lt KX.out
            have qXB0 : w42.cell? ⟨gs, 0, none⟩ = some (.int .i64 L) := (blk_cell XB.out 0).trans rfl
            have qXB1 : w42.cell? ⟨gs, 1, none⟩ = some (.int .i64 st) := (blk_cell XB.out 1).trans rfl
            have qXB2 : w42.cell? ⟨gs, 2, none⟩ = some (.slice A2 l.length c2) := (blk_cell XB.out 2).trans rfl
            have lXB := blk_lt XB.out
            have qLB0 : w42.cell? ⟨gl, 0, none⟩ = some (.int .i64 a) := (blk_cell LB.out 0).trans rfl
            have qLB1 : w42.cell? ⟨gl, 1, none⟩ = some (.int .i64 b) := (blk_cell LB.out 1).trans rfl
            have lLB := blk_lt LB.out
            go_wp2_with fail
            clear qKX0 qKX1 qKX2 qXB0 qXB1 qXB2 qLB0 qLB1 lKX lXB lLB
            have BA := Aside0.mk (blk_new w42 (.cells #[.int .i64 a1, .int .i64 a2] 28))
            have hb43 : Below w42.heap.size w42 (w42.alloc (.cells #[.int .i64 a1, .int .i64 a2] 28)) := (Below.refl _ _).alloc (Nat.le_refl _) _
            replace KB := Aside0.mk (KB.out.trans (hb43.mono KB.out.size))
            replace KX := Aside0.mk (blk_below KX.out hb43)
            replace XB := Aside0.mk (blk_below XB.out hb43)
            replace RY := Aside0.mk (Kd.R_below RY.out hb43)
            replace LB := Aside0.mk (blk_below LB.out hb43)
            clear hb43
            obtain ⟨gBA, hgBA⟩ : ∃ g, w42.heap.size = g := ⟨_, rfl⟩
            rw [hgBA] at BA ⊢
            clear hgBA
            generalize w42.alloc (.cells #[.int .i64 a1, .int .i64 a2] 28) = w43 at BA KB KX XB RY LB ⊢
            have qKX0 : w43.cell? ⟨w.heap.size, 0, none⟩ = some (.int .i64 L) := (blk_cell KX.out 0).trans rfl
            have qKX1 : w43.cell? ⟨w.heap.size, 1, none⟩ = some (.int .i64 st) := (blk_cell KX.out 1).trans rfl
            have qKX2 : w43.cell? ⟨w.heap.size, 2, none⟩ = some (.slice A l.length c) := (blk_cell KX.out 2).trans rfl
            have lKX := blk_lt KX.out
            have qXB0 : w43.cell? ⟨gs, 0, none⟩ = some (.int .i64 L) := (blk_cell XB.out 0).trans rfl
            have qXB1 : w43.cell? ⟨gs, 1, none⟩ = some (.int .i64 st) := (blk_cell XB.out 1).trans rfl
            have qXB2 : w43.cell? ⟨gs, 2, none⟩ = some (.slice A2 l.length c2) := (blk_cell XB.out 2).trans rfl
            have lXB := blk_lt XB.out
            have qLB0 : w43.cell? ⟨gl, 0, none⟩ = some (.int .i64 a) := (blk_cell LB.out 0).trans rfl
            have qLB1 : w43.cell? ⟨gl, 1, none⟩ = some (.int .i64 b) := (blk_cell LB.out 1).trans rfl
            have lLB := blk_lt LB.out
            have qBA0 : w43.cell? ⟨gBA, 0, none⟩ = some (.int .i64 a1) := (blk_cell BA.out 0).trans rfl
            have qBA1 : w43.cell? ⟨gBA, 1, none⟩ = some (.int .i64 a2) := (blk_cell BA.out 1).trans rfl
            have lBA := blk_lt BA.out
            refine (stairs_n L st A2 c2 ys _ (rowA RY.out HYL.out).1 (rowA RY.out HYL.out).2 (by have := HYL.out; omega) zs HZ.out _ HYL.out).mono ?_
            rintro e w44 ⟨⟨A3, c3, rfl, HC3⟩, hb44⟩
            clear qKX0 qKX1 qKX2 qXB0 qXB1 qXB2 qLB0 qLB1 qBA0 qBA1 lKX lXB lLB lBA
            replace KB := Aside0.mk (KB.out.trans (hb44.mono KB.out.size))
            replace KX := Aside0.mk (blk_below KX.out hb44)
            replace XB := Aside0.mk (blk_below XB.out hb44)
            replace RY := Aside0.mk (Kd.R_below RY.out hb44)
            replace LB := Aside0.mk (blk_below LB.out hb44)
            replace BA := Aside0.mk (blk_below BA.out hb44)
            clear hb44
            have qKX0 : w44.cell? ⟨w.heap.size, 0, none⟩ = some (.int .i64 L) := (blk_cell KX.out 0).trans rfl
            have qKX1 : w44.cell? ⟨w.heap.size, 1, none⟩ = some (.int .i64 st) := (blk_cell KX.out 1).trans rfl
            have qKX2 : w44.cell? ⟨w.heap.size, 2, none⟩ = some (.slice A l.length c) := (blk_cell KX.out 2).trans rfl
            have lKX := blk_lt KX.out
            have qXB0 : w44.cell? ⟨gs, 0, none⟩ = some (.int .i64 L) := (blk_cell XB.out 0).trans rfl
            have qXB1 : w44.cell? ⟨gs, 1, none⟩ = some (.int .i64 st) := (blk_cell XB.out 1).trans rfl
            have qXB2 : w44.cell? ⟨gs, 2, none⟩ = some (.slice A2 l.length c2) := (blk_cell XB.out 2).trans rfl
            have lXB := blk_lt XB.out
            have qLB0 : w44.cell? ⟨gl, 0, none⟩ = some (.int .i64 a) := (blk_cell LB.out 0).trans rfl
            have qLB1 : w44.cell? ⟨gl, 1, none⟩ = some (.int .i64 b) := (blk_cell LB.out 1).trans rfl
            have lLB := blk_lt LB.out
            have qBA0 : w44.cell? ⟨gBA, 0, none⟩ = some (.int .i64 a1) := (blk_cell BA.out 0).trans rfl
            have qBA1 : w44.cell? ⟨gBA, 1, none⟩ = some (.int .i64 a2) := (blk_cell BA.out 1).trans rfl
            have lBA := blk_lt BA.out
            go_wp2_with fail
            refine (rank_calls L st A3 c3 zs (kn : Int) _ HC3.out.1 HC3.out.2).mono ?_
            rintro e w45 ⟨rfl, hb45⟩
            clear qKX0 qKX1 qKX2 qXB0 qXB1 qXB2 qLB0 qLB1 qBA0 qBA1 lKX lXB lLB lBA
            replace KB := Aside0.mk (KB.out.trans (hb45.mono KB.out.size))
            replace KX := Aside0.mk (blk_below KX.out hb45)
            replace XB := Aside0.mk (blk_below XB.out hb45)
            replace RY := Aside0.mk (Kd.R_below RY.out hb45)
            replace LB := Aside0.mk (blk_below LB.out hb45)
            replace BA := Aside0.mk (blk_below BA.out hb45)
            rw [HZR.out, HZA.out]
            clear hb45
            have qKX0 : w45.cell? ⟨w.heap.size, 0, none⟩ = some (.int .i64 L) := (blk_cell KX.out 0).trans rfl
            have qKX1 : w45.cell? ⟨w.heap.size, 1, none⟩ = some (.int .i64 st) := (blk_cell KX.out 1).trans rfl
            have qKX2 : w45.cell? ⟨w.heap.size, 2, none⟩ = some (.slice A l.length c) := (blk_cell KX.out 2).trans rfl
            have lKX := blk_lt KX.out
            have qXB0 : w45.cell? ⟨gs, 0, none⟩ = some (.int .i64 L) := (blk_cell XB.out 0).trans rfl
            have qXB1 : w45.cell? ⟨gs, 1, none⟩ = some (.int .i64 st) := (blk_cell XB.out 1).trans rfl
            have qXB2 : w45.cell? ⟨gs, 2, none⟩ = some (.slice A2 l.length c2) := (blk_cell XB.out 2).trans rfl
            have lXB := blk_lt XB.out
            have qLB0 : w45.cell? ⟨gl, 0, none⟩ = some (.int .i64 a) := (blk_cell LB.out 0).trans rfl
            have qLB1 : w45.cell? ⟨gl, 1, none⟩ = some (.int .i64 b) := (blk_cell LB.out 1).trans rfl
            have lLB := blk_lt LB.out
            have qBA0 : w45.cell? ⟨gBA, 0, none⟩ = some (.int .i64 a1) := (blk_cell BA.out 0).trans rfl
            have qBA1 : w45.cell? ⟨gBA, 1, none⟩ = some (.int .i64 a2) := (blk_cell BA.out 1).trans rfl
            have lBA := blk_lt BA.out
            have f0 := blk_frozen LB.out 0
            have f1 := blk_frozen LB.out 1
            by_cases hp : pv = 0
            · have H0 : Aside0 (possI L st xs = 0) := ⟨by rw [HPV.out]; exact hp⟩
              have RL := rise_law H0.out kn (by have := HXL.out; omega)
              rw [HA1.out, HA2.out] at RL
              have hab := HAB.out hp
              have u0 : ae = 0 := by rw [← HAE.out]; exact ask_0 H0.out (by omega) (by have := HXL.out; omega)
              have u1 : decide (a2 < a1) = false := decide_eq_false (by omega)
              have u2 : a ≤ a1 ∧ b ≤ a2 := by
                rcases hab with ⟨h1, h2, h3⟩ | ⟨j, h1, h2, h3⟩
                · omega
                · have := RL.2.2.2 j h1
                  omega
              have u3 : decide (a1 < a) = false := decide_eq_false (by omega)
              have u4 : decide (a2 < b) = false := decide_eq_false (by omega)
              subst u0
              clear hab u2 RL hp
              go_wp2_with fail
              go_roundw
              case rel => exact ⟨kn + 1, by omega, by go_num, ⟨a1, a2, blk_alloc (blk_put (blk_put LB.out 0 _ rfl) 1 _ rfl) _, fun _ => .inr ⟨kn, rfl, HA1.out.symm, HA2.out.symm⟩⟩, HNE, ⟨(below_set (below_set KB.out (Nat.le_of_lt HNE.out.1)) (Nat.le_of_lt HNE.out.1)).alloc (by rw [setCell_size, setCell_size]; exact KB.out.size) _⟩, ⟨blk_alloc (blk_far (blk_far KX.out (Nat.ne_of_lt HNE.out.1) _) (Nat.ne_of_lt HNE.out.1) _) _⟩, ⟨blk_alloc (blk_far (blk_far XB.out HNE.out.2 _) HNE.out.2 _) _⟩, ⟨Kd.R_alloc (Kd.R_set (Kd.R_set RY.out LB.out (by decide) 0 _) (blk_put LB.out 0 _ rfl) (by decide) 1 _) _⟩⟩
              case measure => simp [intOf]; omega
            · have u0 : ae = 9 := by rw [← HAE.out, ask_n (by rw [HPV.out]; exact hp), HPV.out]; exact HP9.out.resolve_left hp
              subst u0
              clear hp
              go_wp2_with fail
              go_roundw
              case rel => exact ⟨kn + 1, by omega, by go_num, ⟨a1, a2, blk_alloc (blk_put (blk_put LB.out 0 _ rfl) 1 _ rfl) _, fun _ => .inr ⟨kn, rfl, HA1.out.symm, HA2.out.symm⟩⟩, HNE, ⟨(below_set (below_set KB.out (Nat.le_of_lt HNE.out.1)) (Nat.le_of_lt HNE.out.1)).alloc (by rw [setCell_size, setCell_size]; exact KB.out.size) _⟩, ⟨blk_alloc (blk_far (blk_far KX.out (Nat.ne_of_lt HNE.out.1) _) (Nat.ne_of_lt HNE.out.1) _) _⟩, ⟨blk_alloc (blk_far (blk_far XB.out HNE.out.2 _) HNE.out.2 _) _⟩, ⟨Kd.R_alloc (Kd.R_set (Kd.R_set RY.out LB.out (by decide) 0 _) (blk_put LB.out 0 _ rfl) (by decide) 1 _) _⟩⟩
              case measure => simp [intOf]; omega
          · have hk6 : decide ((kn : Int) < (l.length : Int)) = false := decide_eq_false (by omega)
            go_wp2_with fail
            refine (awake_calls _).mono ?_
            rintro e w46 ⟨rfl, hb46⟩
            clear qKX0 qKX1 qKX2 qXB0 qXB1 qXB2 qLB0 qLB1 lKX lXB lLB
            replace KB := Aside0.mk (KB.out.trans (hb46.mono KB.out.size))
            replace KX := Aside0.mk (blk_below KX.out hb46)
            replace XB := Aside0.mk (blk_below XB.out hb46)
            replace RY := Aside0.mk (Kd.R_below RY.out hb46)
            replace LB := Aside0.mk (blk_below LB.out hb46)
            clear hb46
            have qKX0 : w46.cell? ⟨w.heap.size, 0, none⟩ = some (.int .i64 L) := (blk_cell KX.out 0).trans rfl
            have qKX1 : w46.cell? ⟨w.heap.size, 1, none⟩ = some (.int .i64 st) := (blk_cell KX.out 1).trans rfl
            have qKX2 : w46.cell? ⟨w.heap.size, 2, none⟩ = some (.slice A l.length c) := (blk_cell KX.out 2).trans rfl
            have lKX := blk_lt KX.out
            have qXB0 : w46.cell? ⟨gs, 0, none⟩ = some (.int .i64 L) := (blk_cell XB.out 0).trans rfl
            have qXB1 : w46.cell? ⟨gs, 1, none⟩ = some (.int .i64 st) := (blk_cell XB.out 1).trans rfl
            have qXB2 : w46.cell? ⟨gs, 2, none⟩ = some (.slice A2 l.length c2) := (blk_cell XB.out 2).trans rfl
            have lXB := blk_lt XB.out
            have qLB0 : w46.cell? ⟨gl, 0, none⟩ = some (.int .i64 a) := (blk_cell LB.out 0).trans rfl
            have qLB1 : w46.cell? ⟨gl, 1, none⟩ = some (.int .i64 b) := (blk_cell LB.out 1).trans rfl
            have lLB := blk_lt LB.out
            go_wp2_with fail
            go_ret
            exact ⟨rfl, KB.out⟩
end Go.Proofs.Ytkglggggmlnleaa.Print
