/- Sorting few small numbers in place, by the library's text. slices.Sort and slices.Contains at small numbers. The runs' levels and results, in plain words; same. -/
import Derived.Test.YtkglggggmlnleaaM7
import Derived.Test.YtkglggggmlnleaaG
import Derived.Test.YtkglggggmlnleaaMi
import Derived.Test.YtkglggggmlnleaaHm
namespace Go.Proofs.Ytkglggggmlnleaa.Print
open Go.RowKit Go.Proofs.YtkglggggmlnleaaW.PrintWords Go.Proofs.YtkglggggmlnleaaW.PrintLast Go.Proofs.YtkglggggmlnleaaW.PrintMore
set_option linter.unusedVariables false
set_option linter.unusedSimpArgs false
def f89.T6 : Bool × List (List Nat × List Nat) := (true, [([], []), ([], []), ([], []), ([], []), ([3], [3]), ([], []), ([], []), ([6], [6]), ([5, 7], [5, 7]), ([8], [8]), ([], []), ([], []), ([10, 11], [10, 11]), ([12], [12]), ([0, 1, 0, 1, 5, 6, 7, 8, 9, 13], [0, 1]), ([14, 9, 0, 1, 5, 6, 7, 8, 9, 13], [9, 14]), ([2, 4, 0, 1, 2, 3, 4, 5, 6, 7, 8, 9, 10, 11, 12, 13, 14, 15], [2, 4]), ([16, 13, 15, 0, 1, 2, 3, 4, 5, 6, 7, 8, 9, 10, 11, 12, 13, 14, 15], [13, 16])])
def f89.B6 : List Nat := [0, 0, 0, 0, 8, 0, 0, 64, 224, 480, 0, 0, 3072, 7168, 16355, 32739, 65535, 131071]
theorem f89.tab6 : rtab .any (opsOf Try.f89 6) = f89.T6 := by kernel_rfl
theorem f89.bits6 : waitsOk f89.T6.2 f89.B6 = true := by kernel_rfl
set_option maxHeartbeats 4000000 in
set_option maxRecDepth 100000 in
theorem isnan_calls (x : Int) (w : World) : Calls Try.prog 106 #[.int .u8 x] w fun e w' => e = .returned (.bool false) ∧ w = w' := by
  have e1 : (x != x) = false := bne_eq_false_iff_eq.2 rfl
  go_enter Try.func106, Try.ntmps106
  go_wp2_with fail
  go_ret
  exact ⟨rfl, rfl⟩
set_option maxHeartbeats 4000000 in
set_option maxRecDepth 100000 in
theorem less_callsq (x y : Int) (w : World) : Calls Try.prog 95 #[.int .u8 x, .int .u8 y] w fun e w' => e = .returned (.bool (decide (x < y))) ∧ ∃ m, w' = w.drewN m := by
  have e1 : (x != x) = false := bne_eq_false_iff_eq.2 rfl
  have e2 : (y != y) = false := bne_eq_false_iff_eq.2 rfl
  go_enter Try.func95, Try.ntmps95
  go_wp2_with fail
  refine (isnan_calls x _).mono ?_
  rintro e w1 ⟨rfl, rfl⟩
  go_wp2_with fail
  go_ret
  exact ⟨rfl, 0, rfl⟩
set_option maxHeartbeats 4000000 in
set_option maxRecDepth 100000 in
theorem insertion_calls (g n cap base : Nat) (xs : List Int) (w : World) (hr : Kd.R (Kd.int .u8) 5 w base (fun _ => True) (.slice (some ⟨g, 0, none⟩) n cap) xs) (hn0 : xs.length = n) (hn : n ≤ 12) (hp : 0 < n) :
    Calls Try.prog 89 #[.slice (some ⟨g, 0, none⟩) n cap, .int .i64 0, .int .i64 n] w fun e w' => e = .returned (.tuple #[]) ∧ Kd.R (Kd.int .u8) 5 w' base (fun _ => True) (.slice (some ⟨g, 0, none⟩) n cap) (rising xs) ∧ Ch (fun k => k = g) w w' := by
  have HV6 := Aside0.mk hr
  have HN0 := Aside0.mk hn0
  have HINS : Aside0 (∃ x0 s, xs = x0 :: s ∧ insF s.length [x0] s = rising xs) := ⟨by
    cases xs with
    | nil => simp at hn0; omega
    | cons x0 s => exact ⟨x0, s, rfl, insF_rising (x0 :: s)⟩⟩
  clear hr hn0
  go_enter Try.func89, Try.ntmps89
  go_wp2_with fail
  go_loopw [6] (fun i wr => ∃ jn : Nat, jn ≤ n ∧ i = .int .i64 jn ∧ Aside0 (∃ a s : List Int, a.length = jn ∧ jn + s.length = n ∧ Kd.R (Kd.int .u8) 5 wr base (fun _ => True) (.slice (some ⟨g, 0, none⟩) n cap) (a ++ s) ∧ insF s.length a s = rising xs) ∧ Aside0 (Ch (fun k => k = g) w wr)) (fun i _ => n - (intOf i).toNat)
  case atStart =>
    obtain ⟨x0, s, e, h⟩ := HINS.out
    have := HN0.out
    rw [e] at this
    exact ⟨1, by omega, rfl, ⟨[x0], s, rfl, by simp at this; omega, by have h6 := HV6.out; rw [e] at h6; exact h6, h⟩, ⟨Ch.refl _ _⟩⟩
  case round =>
    obtain ⟨jn, hj, rfl, hex, hbw⟩ := hrel
    by_cases hj3 : jn < n
    · have hj6 : decide ((jn : Int) < (n : Int)) = true := decide_eq_true (by omega)
      obtain ⟨a, s, ha, hs, hR, hI⟩ := hex.out
      obtain ⟨x0, s', rfl⟩ : ∃ x0 s', s = x0 :: s' := by
        cases s with
        | nil => simp at hs; omega
        | cons x0 s' => exact ⟨x0, s', rfl⟩
      have HA := Aside0.mk ha
      have HS : Aside0 (jn + (s'.length + 1) = n) := ⟨by simpa using hs⟩
      have HI : Aside0 (insF s'.length (sinkF a.reverse x0 []) s' = rising xs) := ⟨hI⟩
      have HRr := Aside0.mk hR
      have HT : Aside0 (sinkF a.reverse x0 s' = sinkF a.reverse x0 [] ++ s') := ⟨sinkF_tail a.reverse x0 [] s'⟩
      have HLEN : Aside0 ((sinkF a.reverse x0 []).length = jn + 1) := ⟨by rw [(sinkF_perm a.reverse x0 []).length_eq]; simp [ha]⟩
      clear hex ha hs hI hR
      obtain ⟨wo, hwo⟩ : ∃ wo : World, wo = wr := ⟨_, rfl⟩
      rw [← hwo] at hbw HRr ⊢
      clear hwo
      go_wp2_with fail
      go_loopw [7] (fun k wr => ∃ kn : Nat, k = .int .i64 kn ∧ Aside0 (∃ (rp : List Int) (x : Int) (t : List Int), rp.length = kn ∧ kn + t.length + 1 = n ∧ Kd.R (Kd.int .u8) 5 wr base (fun _ => True) (.slice (some ⟨g, 0, none⟩) n cap) (rp.reverse ++ x :: t) ∧ sinkF rp x t = sinkF a.reverse x0 s') ∧ Aside0 (Ch (fun k => k = g) w wr)) (fun k _ => (intOf k).toNat)
      case atStart => exact ⟨jn, rfl, ⟨a.reverse, x0, s', by rw [List.length_reverse, HA.out], by have := HS.out; omega, by rw [List.reverse_reverse]; exact HRr.out, rfl⟩, hbw⟩
      case round =>
        obtain ⟨kn, rfl, hex, hbw2⟩ := hrel
        obtain ⟨rp, x, t, hrp, htl, hR, hT⟩ := hex.out
        have hkn : (kn : Int) < n := by omega
        have HTT := Aside0.mk hT
        have HR2 := Aside0.mk hR
        have hx1 := Kd.R_celln (0 : Int) hR (kn : Int) (by omega) (by omega)
        rw [show (kn : Int) = (rp.length : Int) by omega, get_mid, Int.toNat_natCast, hrp] at hx1
        have p1 := hx1.1
        have p2 := hx1.2
        cases rp with
        | nil =>
          obtain rfl : kn = 0 := by simpa using hrp.symm
          have HQ : Aside0 (x :: t = sinkF a.reverse x0 [] ++ s') := ⟨by rw [← HT.out, ← hT]; rfl⟩
          clear hex hrp htl hR hT hx1
          go_wp2_with fail
          go_quiet (fail)
          go_wp2_with fail
          go_roundw
          case rel => exact ⟨jn + 1, by omega, by go_num, ⟨sinkF a.reverse x0 [], s', HLEN.out, by have := HS.out; omega, by rw [← HQ.out]; exact Kd.R_drewN HR2.out _, HI.out⟩, ⟨hbw2.out.drewN _⟩⟩
          case measure => simp [intOf]; omega
        | cons y rp =>
          obtain ⟨m, rfl⟩ : ∃ m, kn = m + 1 := ⟨rp.length, by simpa using hrp.symm⟩
          have hm : rp.length = m := by simpa using hrp
          have hlist : (y :: rp).reverse ++ x :: t = rp.reverse ++ y :: x :: t := by simp
          rw [hlist] at hR HR2
          have hx2 := Kd.R_celln (0 : Int) hR (m : Int) (by omega) (by omega)
          rw [show (m : Int) = (rp.length : Int) by omega, get_mid, Int.toNat_natCast, hm] at hx2
          have p3 := hx2.1
          have p4 := hx2.2
          have HM := Aside0.mk hm
          have hpos : decide ((0 : Int) < (m : Int) + 1) = true := decide_eq_true (by omega)
          have hm7 : (m : Int) < n := by omega
          have hm8 : (m : Int) + 1 < n := by omega
          have HTL := Aside0.mk htl
          by_cases hxy : x < y
          · have d1 : decide (x < y) = true := decide_eq_true hxy
            have HQ : Aside0 (sinkF rp x (y :: t) = sinkF a.reverse x0 s') := ⟨by rw [← hT]; show _ = if x < y then _ else _; rw [if_pos hxy]⟩
            clear hex hrp htl hR hT hx1 hx2 hm hlist hxy
            go_wp2_with fail
            go_quiet ((with_reducible refine Calls.quiet_of (less_callsq x y _)))
            go_wp2_with fail
            have ew : wrap64 (m : Int) = (m : Int) := by unfold wrap64; omega
            have ez : (0 : Int) ≤ (m : Int) + 1 := by omega
            refine start_ (n := 18) (S := (fun _ => True)) (ds := []) #[false, false, false, false, false, false, false, false, false, false, false, false, false, false, false, false, false, false] (by kernel_rfl) rfl rfl (trivial) (fun hHeld => ?_)
            refine with_tabW f89.tab6 f89.bits6 (fun HT_ HW_ => ?_)
            refine take_ (i := 0) (N := some 33) (v := ?_) (a' := ?_) #[true, false, false, false, false, false, false, false, false, false, false, false, false, false, false, false, false, false] rfl rfl (take_ofW HT_.out HW_.out (by kernel_rfl)) (fun _ _ _ h => h) (Or.inl ⟨by rfl, ?_⟩) hHeld ?_ ?_
            rotate_left
            · rintro w' hS
              go_simp
              with_reducible rfl
            rotate_left
            · simp only [Act.put, List.setIfInBounds_toArray, List.set_cons_zero, List.set_cons_succ, i64_w, i32_w]
              rfl
            refine take_ (i := 1) (N := some 34) (v := ?_) (a' := ?_) #[true, true, false, false, false, false, false, false, false, false, false, false, false, false, false, false, false, false] rfl rfl (take_ofW HT_.out HW_.out (by kernel_rfl)) (fun _ _ _ h => h) (Or.inl ⟨by rfl, ?_⟩) hHeld ?_ ?_
            rotate_left
            · rintro w' hS
              go_simp
              with_reducible rfl
            rotate_left
            · simp only [Act.put, List.setIfInBounds_toArray, List.set_cons_zero, List.set_cons_succ, i64_w, i32_w]
              rfl
            refine take_ (i := 2) (N := some 35) (v := ?_) (a' := ?_) #[true, true, true, false, false, false, false, false, false, false, false, false, false, false, false, false, false, false] rfl rfl (take_ofW HT_.out HW_.out (by kernel_rfl)) (fun _ _ _ h => h) (Or.inl ⟨by rfl, ?_⟩) hHeld ?_ ?_
            rotate_left
            · rintro w' hS
              go_simp
              with_reducible rfl
            rotate_left
            · simp only [Act.put, List.setIfInBounds_toArray, List.set_cons_zero, List.set_cons_succ, i64_w, i32_w]
              rfl
            refine take_ (i := 3) (N := some 36) (v := ?_) (a' := ?_) #[true, true, true, true, false, false, false, false, false, false, false, false, false, false, false, false, false, false] rfl rfl (take_ofW HT_.out HW_.out (by kernel_rfl)) (fun _ _ _ h => h) (Or.inl ⟨by rfl, ?_⟩) hHeld ?_ ?_
            rotate_left
            · rintro w' hS
              go_simp
              with_reducible rfl
            rotate_left
            · simp only [Act.put, List.setIfInBounds_toArray, List.set_cons_zero, List.set_cons_succ, i64_w, i32_w]
              rfl
            refine take_ (i := 4) (N := some 37) (v := ?_) (a' := ?_) #[true, true, true, true, true, false, false, false, false, false, false, false, false, false, false, false, false, false] rfl rfl (take_ofW HT_.out HW_.out (by kernel_rfl)) (fun _ _ _ h => h) (Or.inl ⟨by rfl, ?_⟩) hHeld ?_ ?_
            rotate_left
            · rintro w' hS
              go_simp
              with_reducible rfl
            rotate_left
            · simp only [Act.put, List.setIfInBounds_toArray, List.set_cons_zero, List.set_cons_succ, i64_w, i32_w]
              rfl
            refine take_ (i := 5) (N := some 38) (v := ?_) (a' := ?_) #[true, true, true, true, true, true, false, false, false, false, false, false, false, false, false, false, false, false] rfl rfl (take_ofW HT_.out HW_.out (by kernel_rfl)) (fun _ _ _ h => h) (Or.inl ⟨by rfl, ?_⟩) hHeld ?_ ?_
            rotate_left
            · rintro w' hS
              go_simp
              with_reducible rfl
            rotate_left
            · simp only [Act.put, List.setIfInBounds_toArray, List.set_cons_zero, List.set_cons_succ, i64_w, i32_w]
              rfl
            refine take_ (i := 6) (N := some 39) (v := ?_) (a' := ?_) #[true, true, true, true, true, true, true, false, false, false, false, false, false, false, false, false, false, false] rfl rfl (take_ofW HT_.out HW_.out (by kernel_rfl)) (fun _ _ _ h => h) (Or.inl ⟨by rfl, ?_⟩) hHeld ?_ ?_
            rotate_left
            · rintro w' hS
              go_simp
              with_reducible rfl
            rotate_left
            · simp only [Act.put, List.setIfInBounds_toArray, List.set_cons_zero, List.set_cons_succ, i64_w, i32_w]
              rfl
            refine take_ (i := 7) (N := some 40) (v := ?_) (a' := ?_) #[true, true, true, true, true, true, true, true, false, false, false, false, false, false, false, false, false, false] rfl rfl (take_ofW HT_.out HW_.out (by kernel_rfl)) (fun _ _ _ h => h) (Or.inl ⟨by rfl, ?_⟩) hHeld ?_ ?_
            rotate_left
            · rintro w' hS
              go_simp
              with_reducible rfl
            rotate_left
            · simp only [Act.put, List.setIfInBounds_toArray, List.set_cons_zero, List.set_cons_succ, i64_w, i32_w]
              rfl
            refine take_ (i := 8) (N := some 41) (v := ?_) (a' := ?_) #[true, true, true, true, true, true, true, true, true, false, false, false, false, false, false, false, false, false] rfl rfl (take_ofW HT_.out HW_.out (by kernel_rfl)) (fun _ _ _ h => h) (Or.inl ⟨by rfl, ?_⟩) hHeld ?_ ?_
            rotate_left
            · rintro w' hS
              go_simp
              with_reducible rfl
            rotate_left
            · simp only [Act.put, List.setIfInBounds_toArray, List.set_cons_zero, List.set_cons_succ, i64_w, i32_w]
              rfl
            refine take_ (i := 10) (N := some 43) (v := ?_) (a' := ?_) #[true, true, true, true, true, true, true, true, true, false, true, false, false, false, false, false, false, false] rfl rfl (take_ofW HT_.out HW_.out (by kernel_rfl)) (fun _ _ _ h => h) (Or.inl ⟨by rfl, ?_⟩) hHeld ?_ ?_
            rotate_left
            · rintro w' hS
              go_simp
              with_reducible rfl
            rotate_left
            · simp only [Act.put, List.setIfInBounds_toArray, List.set_cons_zero, List.set_cons_succ, i64_w, i32_w]
              rfl
            refine take_ (i := 11) (N := some 44) (v := ?_) (a' := ?_) #[true, true, true, true, true, true, true, true, true, false, true, true, false, false, false, false, false, false] rfl rfl (take_ofW HT_.out HW_.out (by kernel_rfl)) (fun _ _ _ h => h) (Or.inl ⟨by rfl, ?_⟩) hHeld ?_ ?_
            rotate_left
            · rintro w' hS
              go_simp
              with_reducible rfl
            rotate_left
            · simp only [Act.put, List.setIfInBounds_toArray, List.set_cons_zero, List.set_cons_succ, i64_w, i32_w]
              rfl
            refine take_ (i := 12) (N := some 45) (v := ?_) (a' := ?_) #[true, true, true, true, true, true, true, true, true, false, true, true, true, false, false, false, false, false] rfl rfl (take_ofW HT_.out HW_.out (by kernel_rfl)) (fun _ _ _ h => h) (Or.inl ⟨by rfl, ?_⟩) hHeld ?_ ?_
            rotate_left
            · rintro w' hS
              go_simp
              with_reducible rfl
            rotate_left
            · simp only [Act.put, List.setIfInBounds_toArray, List.set_cons_zero, List.set_cons_succ, i64_w, i32_w]
              rfl
            refine join_ (σ := Unit) 4 #[true, true, true, true, true, true, true, true, true, true, true, true, true, true, false, false, false, false] (fun s_ => [(42, .int .u8 y), (46, .int .u8 x)]) (fun s_ w' => w' = wr.drewN (nq + 1)) ?_ ?_
            rotate_left
            · intro hCont
              refine two_ (i := 9) (j := 13) (Ni := some 42) (Nj := some 46) #[true, true, true, true, true, true, true, true, true, true, true, true, true, false, false, false, false, false] #[true, true, true, true, true, true, true, true, true, false, true, true, true, true, false, false, false, false] rfl rfl rfl rfl (two_of HT_.out (by kernel_rfl)) (by decide) (by decide) (fun K hK => ?_) (fun K hK => ?_)
              · refine value_ (v := .int .u8 y) (w1 := wr.drewN (nq + 1)) (by rfl) rfl (by go_simp) ?_
                refine hK.out _ _ trivial ?_
                intro hHeld
                clear hK K
                refine norm_ (a' := ?_) ?_ ?_
                rotate_left
                · show Act.put _ (some 42) _ = _
                  simp only [Act.put, List.setIfInBounds_toArray, List.set_cons_zero, List.set_cons_succ, i64_w, i32_w]
                  rfl
                refine one_ (i := 13) (N := some 46) #[true, true, true, true, true, true, true, true, true, true, true, true, true, true, false, false, false, false] rfl rfl (one_of HT_.out (by kernel_rfl)) (by decide) (fun K hK => ?_)
                refine value_ (v := .int .u8 x) (w1 := wr.drewN (nq + 1)) (by rfl) rfl (by go_simp) ?_
                refine hK.out _ _ trivial ?_
                intro hHeld
                clear hK K
                refine norm_ (a' := ?_) ?_ ?_
                rotate_left
                · show Act.put _ (some 46) _ = _
                  simp only [Act.put, List.setIfInBounds_toArray, List.set_cons_zero, List.set_cons_succ, i64_w, i32_w]
                  rfl
                exact norm_ (by simp only [putAll, Act.put, List.setIfInBounds_toArray, List.set_cons_zero, List.set_cons_succ]) (hCont () _ rfl)
              · refine value_ (v := .int .u8 x) (w1 := wr.drewN (nq + 1)) (by rfl) rfl (by go_simp) ?_
                refine hK.out _ _ trivial ?_
                intro hHeld
                clear hK K
                refine norm_ (a' := ?_) ?_ ?_
                rotate_left
                · show Act.put _ (some 46) _ = _
                  simp only [Act.put, List.setIfInBounds_toArray, List.set_cons_zero, List.set_cons_succ, i64_w, i32_w]
                  rfl
                refine one_ (i := 9) (N := some 42) #[true, true, true, true, true, true, true, true, true, true, true, true, true, true, false, false, false, false] rfl rfl (one_of HT_.out (by kernel_rfl)) (by decide) (fun K hK => ?_)
                refine value_ (v := .int .u8 y) (w1 := wr.drewN (nq + 1)) (by rfl) rfl (by go_simp) ?_
                refine hK.out _ _ trivial ?_
                intro hHeld
                clear hK K
                refine norm_ (a' := ?_) ?_ ?_
                rotate_left
                · show Act.put _ (some 42) _ = _
                  simp only [Act.put, List.setIfInBounds_toArray, List.set_cons_zero, List.set_cons_succ, i64_w, i32_w]
                  rfl
                exact norm_ (by simp only [putAll, Act.put, List.setIfInBounds_toArray, List.set_cons_zero, List.set_cons_succ]) (hCont () _ rfl)
            rintro ⟨⟩ w30 rfl
            have hHeld : True := trivial
            refine norm_ (a' := ?_) ?_ ?_
            rotate_left
            · simp only [putAll, Act.put, List.setIfInBounds_toArray, List.set_cons_zero, List.set_cons_succ]
              rfl
            refine take_ (i := 14) (N := some 47) (v := ?_) (a' := ?_) #[true, true, true, true, true, true, true, true, true, true, true, true, true, true, true, false, false, false] rfl rfl (take_ofW HT_.out HW_.out (by kernel_rfl)) (fun _ _ _ h => h) (Or.inl ⟨by rfl, ?_⟩) hHeld ?_ ?_
            rotate_left
            · rintro w' hS
              go_simp
              with_reducible rfl
            rotate_left
            · simp only [Act.put, List.setIfInBounds_toArray, List.set_cons_zero, List.set_cons_succ, i64_w, i32_w]
              rfl
            refine one_ (i := 15) (N := none) #[true, true, true, true, true, true, true, true, true, true, true, true, true, true, true, true, false, false] rfl rfl (one_of HT_.out (by kernel_rfl)) (by decide) (fun K hK => ?_)
            refine skip_ (w1 := ?_) (by rfl) rfl ?_ ?_
            rotate_left
            · go_simp
              rfl
            refine hK.out _ _ trivial ?_
            intro hHeld
            clear hK K
            refine take_ (i := 16) (N := some 48) (v := ?_) (a' := ?_) #[true, true, true, true, true, true, true, true, true, true, true, true, true, true, true, true, true, false] rfl rfl (take_ofW HT_.out HW_.out (by kernel_rfl)) (fun _ _ _ h => h) (Or.inl ⟨by rfl, ?_⟩) hHeld ?_ ?_
            rotate_left
            · rintro w' hS
              go_simp
              with_reducible rfl
            rotate_left
            · simp only [Act.put, List.setIfInBounds_toArray, List.set_cons_zero, List.set_cons_succ, i64_w, i32_w]
              rfl
            refine one_ (i := 17) (N := none) #[true, true, true, true, true, true, true, true, true, true, true, true, true, true, true, true, true, true] rfl rfl (one_of HT_.out (by kernel_rfl)) (by decide) (fun K hK => ?_)
            refine skip_ (w1 := ?_) (by rfl) rfl ?_ ?_
            rotate_left
            · go_simp
              rfl
            refine hK.out _ _ trivial ?_
            intro hHeld
            clear hK K
            refine done_ (done_of HT_.out (by kernel_rfl)) ?_
            clear ew ez
            go_wp2_with fail
            go_roundw
            case rel =>
              have h1 := Kd.R_putn (Kd.R_putn (Kd.R_drew (Kd.R_drewN HR2.out nq)) ((m + 1 : Nat) : Int) y) (m : Int) x
              rw [Int.toNat_natCast, Int.toNat_natCast] at h1
              have h2 : ((rp.reverse ++ y :: x :: t).set (m + 1) y).set m x = rp.reverse ++ x :: y :: t := by rw [← HM.out]; exact swap_list rp t x y
              rw [h2] at h1
              refine ⟨m, by first | rfl | go_num, ⟨rp, x, y :: t, HM.out, by have := HTL.out; simp only [List.length_cons]; omega, h1, HQ.out⟩, ⟨((hbw2.out.drewN _).drew.setCell _ _ (fun _ => rfl)).setCell _ _ (fun _ => rfl)⟩⟩
            case measure => simp [intOf]; try omega
          · have d1 : decide (x < y) = false := decide_eq_false hxy
            have HQ : Aside0 (rp.reverse ++ y :: x :: t = sinkF a.reverse x0 [] ++ s') := ⟨by rw [← HT.out, ← hT]; show _ = if x < y then _ else _; rw [if_neg hxy]; simp⟩
            clear hex hrp htl hR hT hx1 hx2 hm hlist hxy
            go_wp2_with fail
            go_quiet ((with_reducible refine Calls.quiet_of (less_callsq x y _)))
            go_wp2_with fail
            go_roundw
            case rel => exact ⟨jn + 1, by omega, by go_num, ⟨sinkF a.reverse x0 [], s', HLEN.out, by have := HS.out; omega, by rw [← HQ.out]; exact Kd.R_drewN HR2.out _, HI.out⟩, ⟨hbw2.out.drewN _⟩⟩
            case measure => simp [intOf]; omega
    · have hj6 : decide ((jn : Int) < (n : Int)) = false := decide_eq_false (by omega)
      obtain ⟨a, s, ha, hs, hR, hI⟩ := hex.out
      obtain rfl : s = [] := List.eq_nil_of_length_eq_zero (by omega)
      have HRr := Aside0.mk hR
      have HI : Aside0 (a = rising xs) := ⟨hI⟩
      clear hex ha hs hR hI
      go_wp2_with fail
      refine bodyPost_end (v := .tuple #[]) (by simp [results, Try.f89, go_sem]) rfl ?_
      exact ⟨rfl, by rw [← HI.out]; have := HRr.out; rw [List.append_nil] at this; exact this, hbw.out⟩
end Go.Proofs.Ytkglggggmlnleaa.Print
namespace Go.Proofs.Ytkglggggmlnleaa.Print
open Go.RowKit Go.Proofs.YtkglggggmlnleaaW.PrintWords Go.Proofs.YtkglggggmlnleaaW.PrintLast Go.Proofs.YtkglggggmlnleaaW.PrintMore
set_option linter.unusedVariables false
set_option linter.unusedSimpArgs false
set_option maxHeartbeats 4000000 in
set_option maxRecDepth 100000 in
theorem len64_1 (w : World) : Calls Try.prog 99 #[.int .u64 1] w fun e w' => (∃ k : Int, e = .returned (.int .i64 k)) ∧ w = w' := by
  go_enter Try.func99, Try.ntmps99
  go_wp2_with fail
  go_ret
  exact ⟨⟨_, rfl⟩, rfl⟩
set_option maxHeartbeats 4000000 in
set_option maxRecDepth 100000 in
theorem len_1 (w : World) : Calls Try.prog 84 #[.int .u64 1] w fun e w' => (∃ k : Int, e = .returned (.int .i64 k)) ∧ w = w' := by
  go_enter Try.func84, Try.ntmps84
  go_wp2_with fail
  refine (len64_1 _).mono ?_
  rintro e w1 ⟨⟨k, rfl⟩, rfl⟩
  go_wp2_with fail
  go_ret
  exact ⟨⟨_, rfl⟩, rfl⟩
set_option maxHeartbeats 4000000 in
set_option maxRecDepth 100000 in
theorem len64_2 (w : World) : Calls Try.prog 99 #[.int .u64 2] w fun e w' => (∃ k : Int, e = .returned (.int .i64 k)) ∧ w = w' := by
  go_enter Try.func99, Try.ntmps99
  go_wp2_with fail
  go_ret
  exact ⟨⟨_, rfl⟩, rfl⟩
set_option maxHeartbeats 4000000 in
set_option maxRecDepth 100000 in
theorem len_2 (w : World) : Calls Try.prog 84 #[.int .u64 2] w fun e w' => (∃ k : Int, e = .returned (.int .i64 k)) ∧ w = w' := by
  go_enter Try.func84, Try.ntmps84
  go_wp2_with fail
  refine (len64_2 _).mono ?_
  rintro e w1 ⟨⟨k, rfl⟩, rfl⟩
  go_wp2_with fail
  go_ret
  exact ⟨⟨_, rfl⟩, rfl⟩
set_option maxHeartbeats 4000000 in
set_option maxRecDepth 100000 in
theorem len64_3 (w : World) : Calls Try.prog 99 #[.int .u64 3] w fun e w' => (∃ k : Int, e = .returned (.int .i64 k)) ∧ w = w' := by
  go_enter Try.func99, Try.ntmps99
  go_wp2_with fail
  go_ret
  exact ⟨⟨_, rfl⟩, rfl⟩
set_option maxHeartbeats 4000000 in
set_option maxRecDepth 100000 in
theorem len_3 (w : World) : Calls Try.prog 84 #[.int .u64 3] w fun e w' => (∃ k : Int, e = .returned (.int .i64 k)) ∧ w = w' := by
  go_enter Try.func84, Try.ntmps84
  go_wp2_with fail
  refine (len64_3 _).mono ?_
  rintro e w1 ⟨⟨k, rfl⟩, rfl⟩
  go_wp2_with fail
  go_ret
  exact ⟨⟨_, rfl⟩, rfl⟩
set_option maxHeartbeats 4000000 in
set_option maxRecDepth 100000 in
theorem pdq_calls (g n cap base : Nat) (xs : List Int) (k : Int) (w : World) (hr : Kd.R (Kd.int .u8) 5 w base (fun _ => True) (.slice (some ⟨g, 0, none⟩) n cap) xs) (hn0 : xs.length = n) (hn : n ≤ 12) (hp : 0 < n) :
    Calls Try.prog 83 #[.slice (some ⟨g, 0, none⟩) n cap, .int .i64 0, .int .i64 n, .int .i64 k] w fun e w' => e = .returned (.tuple #[]) ∧ Kd.R (Kd.int .u8) 5 w' base (fun _ => True) (.slice (some ⟨g, 0, none⟩) n cap) (rising xs) ∧ Ch (fun k => k = g) w w' := by
  have HR := Aside0.mk hr
  have HN := Aside0.mk hn0
  clear hr hn0
  have d1 : decide ((n : Int) ≤ 12) = true := decide_eq_true (by omega)
  go_enter Try.func83, Try.ntmps83
  go_wp2_with fail
  go_loopw [1, 2, 3, 8, 9] (fun a b c d e wr => a = .int .i64 0 ∧ b = .int .i64 n ∧ c = .int .i64 k ∧ wr = w) (fun _ _ _ _ _ _ => 0)
  case atStart => exact ⟨rfl, rfl, rfl, rfl⟩
  case round =>
    obtain ⟨rfl, rfl, rfl, rfl⟩ := hrel
    go_wp2_with fail
    refine (insertion_calls g n cap base xs _ HR.out HN.out hn hp).mono ?_
    rintro e w1 ⟨rfl, h1, h2⟩
    have H := Aside0.mk (And.intro h1 h2)
    clear h1 h2
    go_wp2_with fail
    first | rw [Exit.noGoto_ret] | skip
    refine bodyPost_ret (v := .tuple #[]) (by simp [results, Try.f83, go_sem]) rfl ?_
    exact ⟨rfl, H.out⟩
set_option maxHeartbeats 4000000 in
set_option maxRecDepth 100000 in
theorem sort8_calls (g n cap base : Nat) (xs : List Int) (w : World) (hr : Kd.R (Kd.int .u8) 5 w base (fun _ => True) (.slice (some ⟨g, 0, none⟩) n cap) xs) (hn0 : xs.length = n) (hn : n ≤ 3) (hp : 0 < n) :
    Calls Try.prog 67 #[.slice (some ⟨g, 0, none⟩) n cap] w fun e w' => e = .returned (.tuple #[]) ∧ Kd.R (Kd.int .u8) 5 w' base (fun _ => True) (.slice (some ⟨g, 0, none⟩) n cap) (rising xs) ∧ Ch (fun k => k = g) w w' := by
  have HR := Aside0.mk hr
  have HN := Aside0.mk hn0
  clear hr hn0
  obtain ⟨m, hm⟩ : ∃ m, m = n := ⟨_, rfl⟩
  match n, hn, hp with
  | 1, _, _ =>
    clear hm
    go_enter Try.func67, Try.ntmps67
    go_wp2_with fail
    refine (len_1 _).mono ?_
    rintro e w1 ⟨⟨k, rfl⟩, rfl⟩
    go_wp2_with fail
    refine (pdq_calls g 1 cap base xs k _ HR.out HN.out (by decide) (by decide)).mono ?_
    rintro e w1 ⟨rfl, h1, h2⟩
    have H := Aside0.mk (And.intro h1 h2)
    clear h1 h2
    go_wp2_with fail
    refine bodyPost_end (v := .tuple #[]) (by simp [results, Try.f67, go_sem]) rfl ?_
    exact ⟨rfl, H.out⟩
  | 2, _, _ =>
    clear hm
    go_enter Try.func67, Try.ntmps67
    go_wp2_with fail
    refine (len_2 _).mono ?_
    rintro e w1 ⟨⟨k, rfl⟩, rfl⟩
    go_wp2_with fail
    refine (pdq_calls g 2 cap base xs k _ HR.out HN.out (by decide) (by decide)).mono ?_
    rintro e w1 ⟨rfl, h1, h2⟩
    have H := Aside0.mk (And.intro h1 h2)
    clear h1 h2
    go_wp2_with fail
    refine bodyPost_end (v := .tuple #[]) (by simp [results, Try.f67, go_sem]) rfl ?_
    exact ⟨rfl, H.out⟩
  | 3, _, _ =>
    clear hm
    go_enter Try.func67, Try.ntmps67
    go_wp2_with fail
    refine (len_3 _).mono ?_
    rintro e w1 ⟨⟨k, rfl⟩, rfl⟩
    go_wp2_with fail
    refine (pdq_calls g 3 cap base xs k _ HR.out HN.out (by decide) (by decide)).mono ?_
    rintro e w1 ⟨rfl, h1, h2⟩
    have H := Aside0.mk (And.intro h1 h2)
    clear h1 h2
    go_wp2_with fail
    refine bodyPost_end (v := .tuple #[]) (by simp [results, Try.f67, go_sem]) rfl ?_
    exact ⟨rfl, H.out⟩
set_option maxHeartbeats 4000000 in
set_option maxRecDepth 100000 in
theorem index8_calls (A : Option Addr) (c : Nat) (l : List Int) (x : Int) (w : World) (hn : l.length ≤ 1000) (hr : Kd.C (Kd.int .u8) w A l.length l) :
    Calls Try.prog 82 #[.slice A l.length c, .int .u8 x] w fun e w' => ∃ i : Int, e = .returned (.int .i64 i) ∧ (decide (0 ≤ i) = decide (x ∈ l)) ∧ w = w' := by
  have HR := Aside0.mk hr
  clear hr
  go_enter Try.func82, Try.ntmps82
  go_wp2_with fail
  go_loopw [8] (fun j wr => ∃ jn : Nat, jn ≤ l.length ∧ j = .int .i64 jn ∧ Aside0 (x ∉ l.take jn) ∧ wr = w) (fun j _ => l.length - (intOf j).toNat)
  case atStart => exact ⟨0, by omega, rfl, ⟨by simp⟩, rfl⟩
  case round =>
    obtain ⟨jn, hj, rfl, hall, rfl⟩ := hrel
    by_cases hj3 : jn < l.length
    · have hj4 : (jn : Int) < (l.length : Int) := by omega
      have hj6 : decide ((jn : Int) < (l.length : Int)) = true := decide_eq_true hj4
      obtain ⟨ad, rfl, g0⟩ := cellU HR.out jn hj3
      obtain ⟨y, hy⟩ : ∃ y, l[jn] = y := ⟨_, rfl⟩
      rw [hy] at g0
      have HY := Aside0.mk hy
      clear hy
      by_cases hxy : x = y
      · have e1 : (x == y) = true := beq_iff_eq.2 hxy
        have HXY := Aside0.mk hxy
        clear hxy
        go_wp2_with fail
        first | rw [Exit.noGoto_ret] | skip
        go_ret
        refine ⟨jn, rfl, ?_, rfl⟩
        have : x ∈ l := by rw [HXY.out, ← HY.out]; exact List.getElem_mem hj3
        simp [this]
      · have e1 : (x == y) = false := beq_eq_false_iff_ne.2 hxy
        have HXY := Aside0.mk hxy
        clear hxy
        go_wp2_with fail
        go_roundw
        case rel =>
          refine ⟨jn + 1, by omega, by push_cast; first | rfl | go_num, ⟨?_⟩, trivial⟩
          rw [List.take_add_one, List.getElem?_eq_getElem hj3, HY.out]
          intro h
          rcases List.mem_append.1 h with h | h
          · exact hall.out h
          · simp at h; exact HXY.out h
        case measure => simp [intOf]; omega
    · have hj6 : decide ((jn : Int) < (l.length : Int)) = false := decide_eq_false (by omega)
      go_wp2_with fail
      first | rw [Exit.noGoto_ret] | skip
      go_ret
      refine ⟨-1, rfl, ?_, rfl⟩
      have h := hall.out
      rw [List.take_of_length_le (by omega)] at h
      simp [h]
set_option maxHeartbeats 4000000 in
set_option maxRecDepth 100000 in
theorem contains8_calls (A : Option Addr) (c : Nat) (l : List Int) (x : Int) (w : World) (hn : l.length ≤ 1000) (hr : Kd.C (Kd.int .u8) w A l.length l) :
    Calls Try.prog 66 #[.slice A l.length c, .int .u8 x] w fun e w' => e = .returned (.bool (decide (x ∈ l))) ∧ w = w' := by
  go_enter Try.func66, Try.ntmps66
  go_wp2_with fail
  refine (index8_calls A c l x _ hn hr).mono ?_
  rintro e w2 ⟨i, rfl, hi, rfl⟩
  go_wp2_with fail
  go_ret
  exact ⟨by simp [← hi], rfl⟩
end Go.Proofs.Ytkglggggmlnleaa.Print
namespace Go.Proofs.Ytkglggggmlnleaa.Print
open Go.RowKit Go.Proofs.YtkglggggmlnleaaW.PrintWords Go.Proofs.YtkglggggmlnleaaW.PrintLast Go.Proofs.YtkglggggmlnleaaW.PrintMore
set_option linter.unusedVariables false
set_option linter.unusedSimpArgs false

/-- The levels that a run can have had; its results; in the histories' order. -/
def lvAt (H : List (List (Int × Int))) (i : Nat) : List Int := H.map fun h => (h.getD i (0, 0)).2
def rsAt (H : List (List (Int × Int))) (i : Nat) : List Int := H.map fun h => (h.getD i (0, 0)).1
/-- A result that is new is put behind. -/
def addR (acc : List Int) (r : Int) : List Int := if r ∈ acc then acc else acc ++ [r]
theorem addR_mem : ∀ (rs acc : List Int) (x : Int), x ∈ rs.foldl addR acc ↔ x ∈ acc ∨ x ∈ rs
  | [], acc, x => by simp
  | r :: rs, acc, x => by
    rw [List.foldl_cons, addR_mem rs]
    unfold addR
    split
    · rename_i h
      constructor
      · rintro (h1 | h1)
        · exact .inl h1
        · exact .inr (List.mem_cons_of_mem _ h1)
      · rintro (h1 | h1)
        · exact .inl h1
        · rcases List.mem_cons.1 h1 with rfl | h1
          · exact .inl h
          · exact .inr h1
    · simp only [List.mem_append, List.mem_cons, List.not_mem_nil, or_false, or_assoc]
theorem addR_nodup : ∀ (rs acc : List Int), acc.Nodup → (rs.foldl addR acc).Nodup
  | [], acc, h => h
  | r :: rs, acc, h => by
    rw [List.foldl_cons]
    refine addR_nodup rs _ ?_
    unfold addR
    split
    · exact h
    · rename_i h1
      rw [List.nodup_append]
      refine ⟨h, by simp, ?_⟩
      intro a ha b hb
      simp at hb
      subst hb
      rintro rfl
      exact h1 ha
theorem nodup_few (l : List Int) (h : l.Nodup) (hb : ∀ r ∈ l, 0 ≤ r ∧ r < 3) : l.length ≤ 3 := by
  have h2 : l.Perm ([0, 1, 2].filter fun r => decide (r ∈ l)) := by
    refine (List.perm_ext_iff_of_nodup h (List.Pairwise.filter _ (by decide))).2 fun x => ?_
    simp only [List.mem_filter, decide_eq_true_eq]
    constructor
    · intro h1
      refine ⟨?_, h1⟩
      have := hb x h1
      simp
      omega
    · exact fun h1 => h1.2
  rw [h2.length_eq]
  exact List.length_filter_le _ _
/-- The row of a run's results, ordered. -/
def rowR (rs : List Int) : List Int := [0, 1, 2].filter fun r => decide (r ∈ rs)
theorem rowR_eq (rs : List Int) (hb : ∀ r ∈ rs, 0 ≤ r ∧ r < 3) : rising (rs.foldl addR []) = rowR rs := by
  refine sorted_eq (rs_sorted _) ?_ ?_
  · unfold rowR
    exact List.Pairwise.filter _ (by simp)
  · refine (rs_perm _).trans ?_
    refine (List.perm_ext_iff_of_nodup (addR_nodup rs [] List.nodup_nil) ?_).2 fun x => ?_
    · unfold rowR; exact List.Pairwise.filter _ (by decide)
    · rw [addR_mem]
      unfold rowR
      simp only [List.not_mem_nil, false_or, List.mem_filter, decide_eq_true_eq]
      constructor
      · intro h
        refine ⟨?_, h⟩
        have := hb x h
        simp
        omega
      · exact fun h => h.2
theorem addR_len (rs : List Int) (hb : ∀ r ∈ rs, 0 ≤ r ∧ r < 3) : (rs.foldl addR []).length ≤ 3 :=
  nodup_few _ (addR_nodup rs [] List.nodup_nil) (fun r hr => hb r (by simpa using (addR_mem rs [] r).1 hr))
end Go.Proofs.Ytkglggggmlnleaa.Print
