/- The law of a stopped run that is put in, walked by hand. -/
import Derived.Test.YtkglggggmlnleaaM4
namespace Go.Proofs.Ytkglggggmlnleaa.Print
open Go.RowKit Go.Proofs.YtkglggggmlnleaaW.PrintWords Go.Proofs.YtkglggggmlnleaaW.PrintLast Go.Proofs.YtkglggggmlnleaaW.PrintMore
set_option linter.unusedVariables false
set_option linter.unusedSimpArgs false
def f12.T8 : Bool × List (List Nat × List Nat) := (true, [([], []), ([], []), ([1], [1]), ([], []), ([2, 3], [2, 3]), ([0, 4], [0, 4]), ([], []), ([6], [6]), ([5, 7, 5], [5, 7]), ([], []), ([9], [9]), ([], []), ([10, 11], [10, 11]), ([8, 12, 8], [8, 12]), ([0, 1, 2, 3, 4, 5, 6, 7, 8, 9, 10, 11, 12, 13], []), ([14, 13, 13, 0, 1, 2, 3, 4, 5, 6, 7, 8, 9, 10, 11, 12, 13], [13, 14])])
def f12.B8 : List Nat := [0, 0, 2, 0, 14, 31, 0, 64, 255, 0, 512, 0, 3584, 8191, 16383, 32767]
theorem f12.tab8 : rtab .any (opsOf Try.f12 8) = f12.T8 := by kernel_rfl
theorem f12.bits8 : waitsOk f12.T8.2 f12.B8 = true := by kernel_rfl
def f12.T23 : Bool × List (List Nat × List Nat) := (true, [([], []), ([], []), ([0, 1], [0, 1]), ([2], [2]), ([], []), ([], []), ([4, 5], [4, 5]), ([6], [6]), ([3, 7], [3, 7]), ([8], [8]), ([9], [9]), ([9], [9]), ([10, 11, 9], [9, 10, 11]), ([12, 9], [9, 12]), ([9], [9]), ([9], [9]), ([14, 15, 9], [9, 14, 15]), ([16, 9], [9, 16]), ([13, 17, 9, 9], [9, 13, 17]), ([18, 9], [9, 18]), ([9, 19], [9, 19])])
def f12.B23 : List Nat := [0, 0, 3, 7, 0, 0, 48, 112, 255, 511, 1023, 1023, 4095, 8191, 1023, 1023, 50175, 115711, 262143, 524287, 1048575]
theorem f12.tab23 : rtab .any (opsOf Try.f12 23) = f12.T23 := by kernel_rfl
theorem f12.bits23 : waitsOk f12.T23.2 f12.B23 = true := by kernel_rfl
theorem info43s : (Try.prog.info? 43).map (fun i => (i.zero, i.size, i.bytes)) = some (some (.agg #[(.int .i64 0), (.int .u8 0)]), 2, 16) := by kernel_rfl
theorem info43i : ∃ i, Try.prog.info? 43 = some i ∧ i.size = 2 := by
  obtain ⟨i0, hi, hzz⟩ := Option.map_eq_some_iff.1 info43s
  simp only [Prod.mk.injEq] at hzz
  exact ⟨i0, hi, hzz.2.1⟩
theorem cut_to (A : Option Addr) (n c k : Nat) (hk : k ≤ n) (hc : n ≤ c) : ∀ W : World, (Instr.slice 22 (.slice A n c) none (some (.int .i64 (k : Int))) none).run Try.prog W = .ok (.slice A k c) W := by
  intro W
  obtain ⟨i0, hi, hs⟩ := info43i
  have hel : Try.prog.elem 22 = 43 := by simp [Program.elem, Try.underlying22]
  rw [run_slice_h W 22 A n c (by rw [hel]; exact Try.underlying22) .i64 (k : Int) (by omega) (by omega), hel]
  simp [sizeOf, typeInfo, hi, sliced, Result.andThen]
  cases A <;> simp [Addr.add]
theorem cut_from (A : Option Addr) (n c k : Nat) (hk : k ≤ n) (hc : n ≤ c) : ∀ W : World, (Instr.slice 22 (.slice A n c) (some (.int .i64 (k : Int))) none none).run Try.prog W = .ok (.slice (if c = k then A else A.map (·.add (k * 2))) (n - k) (c - k)) W := by
  intro W
  obtain ⟨i0, hi, hs⟩ := info43i
  have hel : Try.prog.elem 22 = 43 := by simp [Program.elem, Try.underlying22]
  rw [run_slice_l W 22 A n c (by rw [hel]; exact Try.underlying22) .i64 (k : Int) (by omega) (by omega), hel]
  simp [sizeOf, typeInfo, hi, hs, sliced, Result.andThen]
theorem len69 (A : Option Addr) (n c : Nat) (hn : n ≤ 1000) : ∀ W : World, (Builtin.len_ #[69] 3 #[.slice A n c]).run Try.prog W = .ok (.int .i64 (n : Int)) W := fun W => by
  have h1 : Try.prog.elem 69 = 28 := by simp [Program.elem, Try.underlying69]
  have h2 : IntKind.i64.wrap (n : Int) = n := IntWalk.i64_in _ (by omega)
  rw [run_len_slice W 69 3 A n c (by rw [h1]; exact Try.underlying69)]
  simp [goInt, h2]
theorem len37 (A : Option Addr) (n c : Nat) (hn : n ≤ 1000) : ∀ W : World, (Builtin.len_ #[37] 3 #[.slice A n c]).run Try.prog W = .ok (.int .i64 (n : Int)) W := fun W => by
  have h1 : Try.prog.elem 37 = 41 := by simp [Program.elem, Try.underlying37]
  have h2 : IntKind.i64.wrap (n : Int) = n := IntWalk.i64_in _ (by omega)
  rw [run_len_slice W 37 3 A n c (by rw [h1]; exact Try.underlying37)]
  simp [goInt, h2]
theorem runs_key {L st : Int} {xs zs : List S67} {k n : Nat} {w : World} {vs vr us ur : Value} (h1 : RunsOut L st xs w vs vr) (h2 : RunsOut L st zs w us ur) (hp : possI L st zs = possI L st xs) (hl : xs.length = n) (hm : zs.length = n + 1) (hk : k ≤ n)
    (hlv : ∀ i, lvAt (hists L st zs) (pl k i) = lvAt (hists L st xs) i) (hrs : ∀ i, rsAt (hists L st zs) (pl k i) = rsAt (hists L st xs) i) :
    ∃ (n0 m0 : Nat) (Al Ar Bl Br : Option Addr) (LL LM : List S28) (RL RM : List (List Int)), vs = .slice Al n0 n0 ∧ vr = .slice Ar n0 n0 ∧ us = .slice Bl m0 m0 ∧ ur = .slice Br m0 m0 ∧
      (Kd.C k28 w Al n0 LL ∧ Kd.C sl8 w Ar n0 RL ∧ Kd.C k28 w Bl m0 LM ∧ Kd.C sl8 w Br m0 RM) ∧ n0 ≤ n ∧ (n0 = 0 ∨ m0 = n0 + 1) ∧ m0 ≤ n + 1 ∧
      ∀ j, j < n0 → pl k j < m0 ∧ ∃ a b rw_, LL[j]? = some ⟨a, b⟩ ∧ LM[pl k j]? = some ⟨a, b⟩ ∧ RL[j]? = some rw_ ∧ RM[pl k j]? = some rw_ ∧ rw_.length ≤ 3 := by
  by_cases h0 : possI L st xs = 0
  · obtain ⟨Al, Ar, rfl, rfl, c1, c2⟩ := h1.ok h0 n hl
    obtain ⟨Bl, Br, rfl, rfl, c3, c4⟩ := h2.ok (hp.trans h0) (n + 1) hm
    refine ⟨n, n + 1, Al, Ar, Bl, Br, _, _, _, _, rfl, rfl, rfl, rfl, ⟨c1, c2, c3, c4⟩, Nat.le_refl _, .inr rfl, Nat.le_refl _, fun j hj => ?_⟩
    have hpl : pl k j < n + 1 := by unfold pl; split <;> omega
    refine ⟨hpl, (sp (lvAt (hists L st xs) j)).1, (sp (lvAt (hists L st xs) j)).2, rowR (rsAt (hists L st xs) j), ?_, ?_, ?_, ?_, rowR_len _⟩
    · rw [List.getElem?_map, List.getElem?_range hj]; rfl
    · rw [List.getElem?_map, List.getElem?_range hpl]; simp only [Option.map_some, hlv]
    · rw [List.getElem?_map, List.getElem?_range hj]; rfl
    · rw [List.getElem?_map, List.getElem?_range hpl]; simp only [Option.map_some, hrs]
  · obtain ⟨rfl, rfl⟩ := h1.no h0
    obtain ⟨rfl, rfl⟩ := h2.no (by rw [hp]; exact h0)
    exact ⟨0, 0, none, none, none, none, [], [], [], [], rfl, rfl, rfl, rfl, ⟨Kd.C_nil _ _, Kd.C_nil _ _, Kd.C_nil _ _, Kd.C_nil _ _⟩, by omega, .inl rfl, by omega, fun j hj => absurd hj (by omega)⟩
set_option maxHeartbeats 4000000 in
set_option maxRecDepth 100000 in
theorem law_stopped (L st : Int) (A : Option Addr) (c : Nat) (l : List S43) (which : Int) (w : World) (hr : Kd.C k43 w A l.length l) (hc : l.length ≤ c) (hl : l.length < 8796093022208) (hwf : 0 ≤ which ∧ which < 256) :
    Calls Try.prog 12 #[.agg #[.int .i64 L, .int .i64 st, .slice A l.length c], .int .u8 which] w fun e w' => e = .returned (.bool true) ∧ Below w.heap.size w w' := by
  have hu24 := Try.underlying24
  have HR := Aside0.mk hr
  have HC := Aside0.mk hc
  have HW := Aside0.mk hwf
  clear hr hc hwf
  have KB : Aside0 (Below w.heap.size w (w.alloc (.cells #[.int .i64 L, .int .i64 st, .slice A l.length c] 24))) := ⟨(Below.refl _ w).alloc (by simp) _⟩
  have X := Aside0.mk (blk_new w (.cells #[.int .i64 L, .int .i64 st, .slice A l.length c] 24))
  obtain ⟨xs, hxs⟩ : ∃ xs, l.map up = xs := ⟨_, rfl⟩
  have HX := Aside0.mk hxs
  clear hxs
  have HLT : Aside0 (w.heap.size < (w.alloc (.cells #[.int .i64 L, .int .i64 st, .slice A l.length c] 24)).heap.size) := ⟨by simp⟩
  go_enter Try.func12, Try.ntmps12
  go_wp2_with fail
  generalize w.alloc (.cells #[.int .i64 L, .int .i64 st, .slice A l.length c] 24) = w0 at KB X HLT ⊢
  have qX0 : w0.cell? ⟨w.heap.size, 0, none⟩ = some (.int .i64 L) := (blk_cell X.out 0).trans rfl
  have qX1 : w0.cell? ⟨w.heap.size, 1, none⟩ = some (.int .i64 st) := (blk_cell X.out 1).trans rfl
  have qX2 : w0.cell? ⟨w.heap.size, 2, none⟩ = some (.slice A l.length c) := (blk_cell X.out 2).trans rfl
  have lX := blk_lt X.out
  have hu28 := Try.underlying28
  have hu43 := Try.underlying43
  obtain ⟨rb, hrb⟩ : ∃ rb, decide (checkI L st (l.map up) = 0) = rb := ⟨_, rfl⟩
  have HRB := Aside0.mk hrb
  clear hrb
  refine (ready_calls L st A c l _ (Kd.C_below HR.out KB.out) HC.out (by omega) rb HRB.out).mono ?_
  rintro e w1 ⟨rfl, hb1⟩
  clear qX0 qX1 qX2 lX
  replace KB := Aside0.mk (KB.out.trans (hb1.mono KB.out.size))
  replace X := Aside0.mk (blk_below X.out hb1)
  clear hb1
  have qX0 : w1.cell? ⟨w.heap.size, 0, none⟩ = some (.int .i64 L) := (blk_cell X.out 0).trans rfl
  have qX1 : w1.cell? ⟨w.heap.size, 1, none⟩ = some (.int .i64 st) := (blk_cell X.out 1).trans rfl
  have qX2 : w1.cell? ⟨w.heap.size, 2, none⟩ = some (.slice A l.length c) := (blk_cell X.out 2).trans rfl
  have lX := blk_lt X.out
  cases rb with
  | false =>
    go_wp2_with fail
    refine (awake_calls _).mono ?_
    rintro e w2 ⟨rfl, hb2⟩
    clear qX0 qX1 qX2 lX
    replace KB := Aside0.mk (KB.out.trans (hb2.mono KB.out.size))
    replace X := Aside0.mk (blk_below X.out hb2)
    clear hb2
    have qX0 : w2.cell? ⟨w.heap.size, 0, none⟩ = some (.int .i64 L) := (blk_cell X.out 0).trans rfl
    have qX1 : w2.cell? ⟨w.heap.size, 1, none⟩ = some (.int .i64 st) := (blk_cell X.out 1).trans rfl
    have qX2 : w2.cell? ⟨w.heap.size, 2, none⟩ = some (.slice A l.length c) := (blk_cell X.out 2).trans rfl
    have lX := blk_lt X.out
    go_wp2_with fail
    go_ret
    exact ⟨rfl, KB.out⟩
  | true =>
    have HCK : Aside0 (checkI L st (l.map up) = 0) := ⟨of_decide_eq_true HRB.out⟩
    have HXL : Aside0 (xs.length = l.length) := ⟨by rw [← HX.out]; simp⟩
    have HN14 : Aside0 (l.length ≤ 14) := ⟨by have := (check_ok HCK.out).2.2.2.2; simpa using this⟩
    have hn14 : (l.length : Int) ≤ 14 := by have := HN14.out; omega
    obtain ⟨wn, rfl⟩ : ∃ wn : Nat, which = wn := ⟨which.toNat, by have := HW.out; omega⟩
    have hwn : (wn : Int) < 256 := HW.out.2
    obtain ⟨kn, hkn⟩ : ∃ kn, wn % (l.length + 1) = kn := ⟨_, rfl⟩
    have I1 : (wn : Int) % ((l.length : Int) + 1) = (kn : Int) := by rw [← hkn]; rfl
    have hk : kn ≤ l.length := by have := Nat.mod_lt wn (show 0 < l.length + 1 by omega); omega
    have hk0 : (0 : Int) ≤ (kn : Int) := by omega
    have HK := Aside0.mk hk
    clear hkn
    clear qX0 qX1 qX2 lX
    have KX := Aside0.mk (blk_alloc X.out (.cells #[.int .i64 (-1), .int .u8 2] 43))
    have qX0 : w1.cell? ⟨w.heap.size, 0, none⟩ = some (.int .i64 L) := (blk_cell X.out 0).trans rfl
    have qX1 : w1.cell? ⟨w.heap.size, 1, none⟩ = some (.int .i64 st) := (blk_cell X.out 1).trans rfl
    have qX2 : w1.cell? ⟨w.heap.size, 2, none⟩ = some (.slice A l.length c) := (blk_cell X.out 2).trans rfl
    have lX := blk_lt X.out
    by_cases hkl : kn < l.length
    case' pos =>
      have hk1 : decide ((kn : Int) < (l.length : Int)) = true := decide_eq_true (by omega)
      have hk2 : (kn : Int) < (l.length : Int) := by omega
      obtain ⟨ad, rfl, g0, g1⟩ := cell43 (Kd.C_below HR.out KB.out) kn hkl
      obtain ⟨f, hf⟩ : ∃ f, l[kn].f0 = f := ⟨_, rfl⟩
      rw [hf] at g0
      have hf1 : ∀ y, xs[kn]? = some y → f = y.f0 := by
        intro y hy
        rw [← HX.out, List.getElem?_map, List.getElem?_eq_getElem hkl] at hy
        have hy : up l[kn] = y := by simpa using hy
        rw [← hy, ← hf]
        rfl
      have HF : Aside0 ((∀ y, xs[kn]? = some y → f = y.f0) ∧ (kn = l.length → f = -1)) := ⟨⟨hf1, fun e => by omega⟩⟩
      clear hf1
      have hgl := World.block_lt_of_cell? _ _ g0
      clear hf
      go_wp2_with fail
      clear g0 g1 hgl hk1 hk2 hkl
      clear qX0 qX1 qX2 lX
      generalize some ad = A at HR X KX ⊢
      rw [I1]
      clear I1 hwn KX
      have PB : Aside0 (((w1.alloc (.cells #[.int .i64 f, .int .u8 2] 43)).alloc (.cells #[.int .i64 L, .int .i64 st, .slice A l.length c] 24)).heap[w1.heap.size]? = some (.cells #[.int .i64 f, .int .u8 2] 43 (0, 0))) := ⟨blk_alloc (blk_new _ _) _⟩
      have XX : Aside0 (((w1.alloc (.cells #[.int .i64 f, .int .u8 2] 43)).alloc (.cells #[.int .i64 L, .int .i64 st, .slice A l.length c] 24)).heap[w1.heap.size + 1]? = some (.cells #[.int .i64 L, .int .i64 st, .slice A l.length c] 24 (0, 0))) := ⟨new_at (by simp)⟩
      replace X := Aside0.mk (blk_alloc (blk_alloc X.out (.cells #[.int .i64 f, .int .u8 2] 43)) (.cells #[.int .i64 L, .int .i64 st, .slice A l.length c] 24))
      have NX : Aside0 (w.heap.size < w1.heap.size + 1) := ⟨by have := KB.out.size; omega⟩
      replace KB : Aside0 (Below w.heap.size w ((w1.alloc (.cells #[.int .i64 f, .int .u8 2] 43)).alloc (.cells #[.int .i64 L, .int .i64 st, .slice A l.length c] 24))) := ⟨(KB.out.alloc KB.out.size _).alloc (by have := KB.out.size; simp; omega) _⟩
      obtain ⟨gP, hgP⟩ : ∃ g, w1.heap.size = g := ⟨_, rfl⟩
      rw [hgP] at PB XX NX ⊢
      clear hgP
      generalize ((w1.alloc (.cells #[.int .i64 f, .int .u8 2] 43)).alloc (.cells #[.int .i64 L, .int .i64 st, .slice A l.length c] 24)) = w5 at PB XX X KB ⊢
    case' neg =>
      have hk1 : decide ((kn : Int) < (l.length : Int)) = false := decide_eq_false (by omega)
      obtain ⟨f, hf⟩ : ∃ f : Int, f = -1 := ⟨_, rfl⟩
      have HF : Aside0 ((∀ y, xs[kn]? = some y → f = y.f0) ∧ (kn = l.length → f = -1)) := ⟨⟨fun y hy => absurd (List.getElem?_eq_some_iff.1 hy).1 (by have := HXL.out; omega), fun _ => hf⟩⟩
      have HFN := Aside0.mk hf
      clear hf
      go_wp2_with fail
      clear qX0 qX1 qX2 lX
      clear hk1 hkl
      rw [I1]
      clear I1 hwn KX
      have PB : Aside0 (((w1.alloc (.cells #[.int .i64 (-1), .int .u8 2] 43)).alloc (.cells #[.int .i64 L, .int .i64 st, .slice A l.length c] 24)).heap[w1.heap.size]? = some (.cells #[.int .i64 (-1), .int .u8 2] 43 (0, 0))) := ⟨blk_alloc (blk_new _ _) _⟩
      have XX : Aside0 (((w1.alloc (.cells #[.int .i64 (-1), .int .u8 2] 43)).alloc (.cells #[.int .i64 L, .int .i64 st, .slice A l.length c] 24)).heap[w1.heap.size + 1]? = some (.cells #[.int .i64 L, .int .i64 st, .slice A l.length c] 24 (0, 0))) := ⟨new_at (by simp)⟩
      replace X := Aside0.mk (blk_alloc (blk_alloc X.out (.cells #[.int .i64 (-1), .int .u8 2] 43)) (.cells #[.int .i64 L, .int .i64 st, .slice A l.length c] 24))
      have NX : Aside0 (w.heap.size < w1.heap.size + 1) := ⟨by have := KB.out.size; omega⟩
      replace KB : Aside0 (Below w.heap.size w ((w1.alloc (.cells #[.int .i64 (-1), .int .u8 2] 43)).alloc (.cells #[.int .i64 L, .int .i64 st, .slice A l.length c] 24))) := ⟨(KB.out.alloc KB.out.size _).alloc (by have := KB.out.size; simp; omega) _⟩
      obtain ⟨gP, hgP⟩ : ∃ g, w1.heap.size = g := ⟨_, rfl⟩
      rw [hgP] at PB XX NX ⊢
      clear hgP
      generalize ((w1.alloc (.cells #[.int .i64 (-1), .int .u8 2] 43)).alloc (.cells #[.int .i64 L, .int .i64 st, .slice A l.length c] 24)) = w5 at PB XX X KB ⊢
      rw [← HFN.out] at PB
      clear HFN
    all_goals
      have HKN := Aside0.mk HK.out
      have HP := Aside0.mk (And.intro (blk_lt X.out) (And.intro (blk_lt PB.out) (And.intro ((blk_cell X.out 2).trans rfl) (And.intro ((blk_cell PB.out 0).trans rfl) ((blk_cell PB.out 1).trans rfl)))))
      have hcut := cut_from A l.length c kn HK.out HC.out
      have hcr := Kd.C_below HR.out KB.out
      have hct := Kd.C_take hcr HK.out
      have hcd := Kd.C_drop hcr HK.out HC.out
      rw [List.length_take, Nat.min_eq_left HK.out] at hct
      rw [List.length_drop] at hcd
      have hcd : Kd.C k43 w5 (if c = kn then A else A.map (·.add (kn * 2))) (l.length - kn) (l.drop kn) := hcd
      obtain ⟨A2, hA2⟩ : ∃ A2, (if c = kn then A else A.map (·.add (kn * 2))) = A2 := ⟨_, rfl⟩
      rw [hA2] at hcd hcut
      have HCUT := Aside0.mk (And.intro (cut_to A l.length c kn HK.out HC.out) hcut)
      clear hA2 hcut
      have HCT := Aside0.mk hct
      have HCD := Aside0.mk hcd
      clear hcr hct hcd
      refine start_ (n := 16) (S := (Below w5.heap.size w5)) (ds := [15]) #[false, false, false, false, false, false, false, false, false, false, false, false, false, false, false, false] (by kernel_rfl) rfl rfl ((Below.refl _ _).drew) (fun hHeld => ?_)
      refine with_tabW f12.tab8 f12.bits8 (fun HT_ HW_ => ?_)
      refine take_ (i := 1) (N := some 46) (v := ?_) (a' := ?_) #[false, true, false, false, false, false, false, false, false, false, false, false, false, false, false, false] rfl rfl (take_ofW HT_.out HW_.out (by kernel_rfl)) (fun _ _ _ h => h) (Or.inl ⟨by rfl, ?_⟩) hHeld ?_ ?_
      rotate_left
      · rintro w' hS
        have s0 := (hS.cell (p := ⟨w.heap.size, 2, none⟩) HP.out.1).trans HP.out.2.2.1
        have s1 := (hS.cell (p := ⟨gP, 0, none⟩) HP.out.2.1).trans HP.out.2.2.2.1
        have s2 := (hS.cell (p := ⟨gP, 1, none⟩) HP.out.2.1).trans HP.out.2.2.2.2
        have s3 := HCUT.out.1
        have s4 := HCUT.out.2
        clear hS
        go_simp
        with_reducible rfl
      rotate_left
      · simp only [Act.put, List.setIfInBounds_toArray, List.set_cons_zero, List.set_cons_succ, i64_w, i32_w]
        rfl
      refine take_ (i := 2) (N := some 47) (v := ?_) (a' := ?_) #[false, true, true, false, false, false, false, false, false, false, false, false, false, false, false, false] rfl rfl (take_ofW HT_.out HW_.out (by kernel_rfl)) (fun _ _ _ h => h) (Or.inl ⟨by rfl, ?_⟩) hHeld ?_ ?_
      rotate_left
      · rintro w' hS
        have s0 := (hS.cell (p := ⟨w.heap.size, 2, none⟩) HP.out.1).trans HP.out.2.2.1
        have s1 := (hS.cell (p := ⟨gP, 0, none⟩) HP.out.2.1).trans HP.out.2.2.2.1
        have s2 := (hS.cell (p := ⟨gP, 1, none⟩) HP.out.2.1).trans HP.out.2.2.2.2
        have s3 := HCUT.out.1
        have s4 := HCUT.out.2
        clear hS
        go_simp
        with_reducible rfl
      rotate_left
      · simp only [Act.put, List.setIfInBounds_toArray, List.set_cons_zero, List.set_cons_succ, i64_w, i32_w]
        rfl
      refine take_ (i := 3) (N := some 48) (v := ?_) (a' := ?_) #[false, true, true, true, false, false, false, false, false, false, false, false, false, false, false, false] rfl rfl (take_ofW HT_.out HW_.out (by kernel_rfl)) (fun _ _ _ h => h) (Or.inl ⟨by rfl, ?_⟩) hHeld ?_ ?_
      rotate_left
      · rintro w' hS
        have s0 := (hS.cell (p := ⟨w.heap.size, 2, none⟩) HP.out.1).trans HP.out.2.2.1
        have s1 := (hS.cell (p := ⟨gP, 0, none⟩) HP.out.2.1).trans HP.out.2.2.2.1
        have s2 := (hS.cell (p := ⟨gP, 1, none⟩) HP.out.2.1).trans HP.out.2.2.2.2
        have s3 := HCUT.out.1
        have s4 := HCUT.out.2
        clear hS
        go_simp
        with_reducible rfl
      rotate_left
      · simp only [Act.put, List.setIfInBounds_toArray, List.set_cons_zero, List.set_cons_succ, i64_w, i32_w]
        rfl
      refine take_ (i := 4) (N := some 49) (v := ?_) (a' := ?_) #[false, true, true, true, true, false, false, false, false, false, false, false, false, false, false, false] rfl rfl (take_ofW HT_.out HW_.out (by kernel_rfl)) (fun _ _ _ h => h) (Or.inl ⟨by rfl, ?_⟩) hHeld ?_ ?_
      rotate_left
      · rintro w' hS
        have s0 := (hS.cell (p := ⟨w.heap.size, 2, none⟩) HP.out.1).trans HP.out.2.2.1
        have s1 := (hS.cell (p := ⟨gP, 0, none⟩) HP.out.2.1).trans HP.out.2.2.2.1
        have s2 := (hS.cell (p := ⟨gP, 1, none⟩) HP.out.2.1).trans HP.out.2.2.2.2
        have s3 := HCUT.out.1
        have s4 := HCUT.out.2
        clear hS
        go_simp
        with_reducible rfl
      rotate_left
      · simp only [Act.put, List.setIfInBounds_toArray, List.set_cons_zero, List.set_cons_succ, i64_w, i32_w]
        rfl
      refine take_ (i := 6) (N := some 51) (v := ?_) (a' := ?_) #[false, true, true, true, true, false, true, false, false, false, false, false, false, false, false, false] rfl rfl (take_ofW HT_.out HW_.out (by kernel_rfl)) (fun _ _ _ h => h) (Or.inl ⟨by rfl, ?_⟩) hHeld ?_ ?_
      rotate_left
      · rintro w' hS
        have s0 := (hS.cell (p := ⟨w.heap.size, 2, none⟩) HP.out.1).trans HP.out.2.2.1
        have s1 := (hS.cell (p := ⟨gP, 0, none⟩) HP.out.2.1).trans HP.out.2.2.2.1
        have s2 := (hS.cell (p := ⟨gP, 1, none⟩) HP.out.2.1).trans HP.out.2.2.2.2
        have s3 := HCUT.out.1
        have s4 := HCUT.out.2
        clear hS
        go_simp
        with_reducible rfl
      rotate_left
      · simp only [Act.put, List.setIfInBounds_toArray, List.set_cons_zero, List.set_cons_succ, i64_w, i32_w]
        rfl
      refine take_ (i := 9) (N := some 54) (v := ?_) (a' := ?_) #[false, true, true, true, true, false, true, false, false, true, false, false, false, false, false, false] rfl rfl (take_ofW HT_.out HW_.out (by kernel_rfl)) (fun _ _ _ h => h) (Or.inl ⟨by rfl, ?_⟩) hHeld ?_ ?_
      rotate_left
      · rintro w' hS
        have s0 := (hS.cell (p := ⟨w.heap.size, 2, none⟩) HP.out.1).trans HP.out.2.2.1
        have s1 := (hS.cell (p := ⟨gP, 0, none⟩) HP.out.2.1).trans HP.out.2.2.2.1
        have s2 := (hS.cell (p := ⟨gP, 1, none⟩) HP.out.2.1).trans HP.out.2.2.2.2
        have s3 := HCUT.out.1
        have s4 := HCUT.out.2
        clear hS
        go_simp
        with_reducible rfl
      rotate_left
      · simp only [Act.put, List.setIfInBounds_toArray, List.set_cons_zero, List.set_cons_succ, i64_w, i32_w]
        rfl
      refine take_ (i := 10) (N := some 55) (v := ?_) (a' := ?_) #[false, true, true, true, true, false, true, false, false, true, true, false, false, false, false, false] rfl rfl (take_ofW HT_.out HW_.out (by kernel_rfl)) (fun _ _ _ h => h) (Or.inl ⟨by rfl, ?_⟩) hHeld ?_ ?_
      rotate_left
      · rintro w' hS
        have s0 := (hS.cell (p := ⟨w.heap.size, 2, none⟩) HP.out.1).trans HP.out.2.2.1
        have s1 := (hS.cell (p := ⟨gP, 0, none⟩) HP.out.2.1).trans HP.out.2.2.2.1
        have s2 := (hS.cell (p := ⟨gP, 1, none⟩) HP.out.2.1).trans HP.out.2.2.2.2
        have s3 := HCUT.out.1
        have s4 := HCUT.out.2
        clear hS
        go_simp
        with_reducible rfl
      rotate_left
      · simp only [Act.put, List.setIfInBounds_toArray, List.set_cons_zero, List.set_cons_succ, i64_w, i32_w]
        rfl
      refine take_ (i := 11) (N := some 56) (v := ?_) (a' := ?_) #[false, true, true, true, true, false, true, false, false, true, true, true, false, false, false, false] rfl rfl (take_ofW HT_.out HW_.out (by kernel_rfl)) (fun _ _ _ h => h) (Or.inl ⟨by rfl, ?_⟩) hHeld ?_ ?_
      rotate_left
      · rintro w' hS
        have s0 := (hS.cell (p := ⟨w.heap.size, 2, none⟩) HP.out.1).trans HP.out.2.2.1
        have s1 := (hS.cell (p := ⟨gP, 0, none⟩) HP.out.2.1).trans HP.out.2.2.2.1
        have s2 := (hS.cell (p := ⟨gP, 1, none⟩) HP.out.2.1).trans HP.out.2.2.2.2
        have s3 := HCUT.out.1
        have s4 := HCUT.out.2
        clear hS
        go_simp
        with_reducible rfl
      rotate_left
      · simp only [Act.put, List.setIfInBounds_toArray, List.set_cons_zero, List.set_cons_succ, i64_w, i32_w]
        rfl
      refine take_ (i := 12) (N := some 57) (v := ?_) (a' := ?_) #[false, true, true, true, true, false, true, false, false, true, true, true, true, false, false, false] rfl rfl (take_ofW HT_.out HW_.out (by kernel_rfl)) (fun _ _ _ h => h) (Or.inl ⟨by rfl, ?_⟩) hHeld ?_ ?_
      rotate_left
      · rintro w' hS
        have s0 := (hS.cell (p := ⟨w.heap.size, 2, none⟩) HP.out.1).trans HP.out.2.2.1
        have s1 := (hS.cell (p := ⟨gP, 0, none⟩) HP.out.2.1).trans HP.out.2.2.2.1
        have s2 := (hS.cell (p := ⟨gP, 1, none⟩) HP.out.2.1).trans HP.out.2.2.2.2
        have s3 := HCUT.out.1
        have s4 := HCUT.out.2
        clear hS
        go_simp
        with_reducible rfl
      rotate_left
      · simp only [Act.put, List.setIfInBounds_toArray, List.set_cons_zero, List.set_cons_succ, i64_w, i32_w]
        rfl
      refine join_ (σ := Value × Value × Value) 4 #[true, true, true, true, true, true, true, true, false, true, true, true, true, false, false, false] (fun s_ => [(45, s_.1), (50, s_.2.1), (52, s_.2.2)]) (fun s_ w' => Below w5.heap.size w5 w' ∧ Kd.R k43 43 w' w5.heap.size (fun _ => True) s_.2.1 (l.take kn) ∧ Kd.R k43 43 w' w5.heap.size (fun _ => True) s_.2.2 [(⟨f, 2⟩ : S43)]) ?_ ?_
      rotate_left
      · intro hCont
        refine two_ (i := 0) (j := 7) (Ni := some 45) (Nj := some 52) #[true, true, true, true, true, false, true, false, false, true, true, true, true, false, false, false] #[false, true, true, true, true, false, true, true, false, true, true, true, true, false, false, false] rfl rfl rfl rfl (two_of HT_.out (by kernel_rfl)) (by decide) (by decide) (fun K hK => ?_) (fun K hK => ?_)
        · refine Kd.R_lit_step k43 (w0 := w5) w5.heap.size 43 ?hg (N := 45) ?hd (xs := ([] : List S43)) (inner := []) (ok := fun _ => True) (okp := fun _ => True) ?hr ?hp (fun _ hk => hk) trivial hHeld hHeld.size (by simp) ?_; (case hd => rfl); (case hg => rfl); (case hr => first | (go_simp; done) | (go_simp; rfl)); (case hp => exact (Reps.none _ _))
          intro v45 w45 hR hb hg hat
          have HV45 := Aside0.mk hR
          refine hK.out _ _ hb ?_
          clear hHeld hR hb hg hat
          intro hHeld
          clear hK K
          refine norm_ (a' := ?_) ?_ ?_
          rotate_left
          · show Act.put _ (some 45) _ = _
            simp only [Act.put, List.setIfInBounds_toArray, List.set_cons_zero, List.set_cons_succ, i64_w, i32_w]
            rfl
          refine two_ (i := 5) (j := 7) (Ni := some 50) (Nj := some 52) #[true, true, true, true, true, true, true, false, false, true, true, true, true, false, false, false] #[true, true, true, true, true, false, true, true, false, true, true, true, true, false, false, false] rfl rfl rfl rfl (two_of HT_.out (by kernel_rfl)) (by decide) (by decide) (fun K hK => ?_) (fun K hK => ?_)
          · have hCr := Kd.C_below HCT.out hHeld
            refine Kd.R_append_rows_step k43 (w0 := w5) w5.heap.size (by rfl) (.tmp 45) (.tmp 49) 22 43 (.agg #[(.int .i64 0), (.int .u8 0)]) 16 rfl Try.underlying22 info43 rfl (by decide) (by omega) v45 [] (l.take kn) _ _ _ (fun _ => True) (fun _ => False) rfl rfl HV45.out hCr (fun _ _ h => h) (fun _ h => h.elim) (fun _ _ => trivial) hHeld hHeld.size (by have := HN14.out; simp; omega) ?_
            intro v50 w50 hR hb hg hat
            have HV50 := Aside0.mk hR
            refine hK.out _ _ hb ?_
            clear hHeld hR hb hg hat hCr
            intro hHeld
            clear hK K
            refine norm_ (a' := ?_) ?_ ?_
            rotate_left
            · show Act.put _ (some 50) _ = _
              simp only [Act.put, List.setIfInBounds_toArray, List.set_cons_zero, List.set_cons_succ, i64_w, i32_w]
              rfl
            refine one_ (i := 7) (N := some 52) #[true, true, true, true, true, true, true, true, false, true, true, true, true, false, false, false] rfl rfl (one_of HT_.out (by kernel_rfl)) (by decide) (fun K hK => ?_)
            refine Kd.R_lit_step k43 (w0 := w5) w5.heap.size 43 ?hg (N := 52) ?hd (xs := ([⟨f, 2⟩] : List S43)) (inner := [.int .i64 f, .int .u8 2]) (ok := fun _ => True) (okp := fun _ => True) ?hr ?hp (fun _ hk => hk) trivial hHeld hHeld.size (by simp) ?_; (case hd => rfl); (case hg => rfl); (case hr => first | (go_simp; done) | (go_simp; rfl)); (case hp => exact (Reps.c2 (k43_mkM _ _ _ (⟨f, 2⟩ : S43)) (Reps.none _ _)))
            intro v52 w52 hR hb hg hat
            have HV52 := Aside0.mk hR
            replace HV50 := Aside0.mk (R43_grown HV50.out hg (fun _ _ => by simp))
            refine hK.out _ _ hb ?_
            clear hHeld hR hb hg hat
            intro hHeld
            clear hK K
            refine norm_ (a' := ?_) ?_ ?_
            rotate_left
            · show Act.put _ (some 52) _ = _
              simp only [Act.put, List.setIfInBounds_toArray, List.set_cons_zero, List.set_cons_succ, i64_w, i32_w]
              rfl
            exact norm_ (by simp only [putAll, Act.put, List.setIfInBounds_toArray, List.set_cons_zero, List.set_cons_succ]) (hCont (v45, v50, v52) _ ⟨hHeld, HV50.out, HV52.out⟩)
          · refine Kd.R_lit_step k43 (w0 := w5) w5.heap.size 43 ?hg (N := 52) ?hd (xs := ([⟨f, 2⟩] : List S43)) (inner := [.int .i64 f, .int .u8 2]) (ok := fun _ => True) (okp := fun _ => True) ?hr ?hp (fun _ hk => hk) trivial hHeld hHeld.size (by simp) ?_; (case hd => rfl); (case hg => rfl); (case hr => first | (go_simp; done) | (go_simp; rfl)); (case hp => exact (Reps.c2 (k43_mkM _ _ _ (⟨f, 2⟩ : S43)) (Reps.none _ _)))
            intro v52 w52 hR hb hg hat
            have HV52 := Aside0.mk hR
            have HD52 := Aside0.mk (new_apart HV45.out hat)
            replace HV45 := Aside0.mk (R43_grown HV45.out hg (fun _ _ => by simp))
            refine hK.out _ _ hb ?_
            clear hHeld hR hb hg hat
            intro hHeld
            clear hK K
            refine norm_ (a' := ?_) ?_ ?_
            rotate_left
            · show Act.put _ (some 52) _ = _
              simp only [Act.put, List.setIfInBounds_toArray, List.set_cons_zero, List.set_cons_succ, i64_w, i32_w]
              rfl
            refine one_ (i := 5) (N := some 50) #[true, true, true, true, true, true, true, true, false, true, true, true, true, false, false, false] rfl rfl (one_of HT_.out (by kernel_rfl)) (by decide) (fun K hK => ?_)
            have hCr := Kd.C_below HCT.out hHeld
            refine Kd.R_append_rows_step k43 (w0 := w5) w5.heap.size (by rfl) (.tmp 45) (.tmp 49) 22 43 (.agg #[(.int .i64 0), (.int .u8 0)]) 16 rfl Try.underlying22 info43 rfl (by decide) (by omega) v45 [] (l.take kn) _ _ _ (fun _ => True) (fun _ => False) rfl rfl HV45.out hCr (fun _ _ h => h) (fun _ h => h.elim) (fun _ _ => trivial) hHeld hHeld.size (by have := HN14.out; simp; omega) ?_
            intro v50 w50 hR hb hg hat
            have HV50 := Aside0.mk hR
            replace HV52 := Aside0.mk (R43_grown HV52.out hg HD52.out)
            refine hK.out _ _ hb ?_
            clear hHeld hR hb hg hat hCr
            intro hHeld
            clear hK K
            refine norm_ (a' := ?_) ?_ ?_
            rotate_left
            · show Act.put _ (some 50) _ = _
              simp only [Act.put, List.setIfInBounds_toArray, List.set_cons_zero, List.set_cons_succ, i64_w, i32_w]
              rfl
            exact norm_ (by simp only [putAll, Act.put, List.setIfInBounds_toArray, List.set_cons_zero, List.set_cons_succ]) (hCont (v45, v50, v52) _ ⟨hHeld, HV50.out, HV52.out⟩)
        · refine Kd.R_lit_step k43 (w0 := w5) w5.heap.size 43 ?hg (N := 52) ?hd (xs := ([⟨f, 2⟩] : List S43)) (inner := [.int .i64 f, .int .u8 2]) (ok := fun _ => True) (okp := fun _ => True) ?hr ?hp (fun _ hk => hk) trivial hHeld hHeld.size (by simp) ?_; (case hd => rfl); (case hg => rfl); (case hr => first | (go_simp; done) | (go_simp; rfl)); (case hp => exact (Reps.c2 (k43_mkM _ _ _ (⟨f, 2⟩ : S43)) (Reps.none _ _)))
          intro v52 w52 hR hb hg hat
          have HV52 := Aside0.mk hR
          refine hK.out _ _ hb ?_
          clear hHeld hR hb hg hat
          intro hHeld
          clear hK K
          refine norm_ (a' := ?_) ?_ ?_
          rotate_left
          · show Act.put _ (some 52) _ = _
            simp only [Act.put, List.setIfInBounds_toArray, List.set_cons_zero, List.set_cons_succ, i64_w, i32_w]
            rfl
          refine one_ (i := 0) (N := some 45) #[true, true, true, true, true, false, true, true, false, true, true, true, true, false, false, false] rfl rfl (one_of HT_.out (by kernel_rfl)) (by decide) (fun K hK => ?_)
          refine Kd.R_lit_step k43 (w0 := w5) w5.heap.size 43 ?hg (N := 45) ?hd (xs := ([] : List S43)) (inner := []) (ok := fun _ => True) (okp := fun _ => True) ?hr ?hp (fun _ hk => hk) trivial hHeld hHeld.size (by simp) ?_; (case hd => rfl); (case hg => rfl); (case hr => first | (go_simp; done) | (go_simp; rfl)); (case hp => exact (Reps.none _ _))
          intro v45 w45 hR hb hg hat
          have HV45 := Aside0.mk hR
          have HD52 := Aside0.mk (new_apart2 HV52.out hat)
          replace HV52 := Aside0.mk (R43_grown HV52.out hg (fun _ _ => by simp))
          refine hK.out _ _ hb ?_
          clear hHeld hR hb hg hat
          intro hHeld
          clear hK K
          refine norm_ (a' := ?_) ?_ ?_
          rotate_left
          · show Act.put _ (some 45) _ = _
            simp only [Act.put, List.setIfInBounds_toArray, List.set_cons_zero, List.set_cons_succ, i64_w, i32_w]
            rfl
          refine one_ (i := 5) (N := some 50) #[true, true, true, true, true, true, true, true, false, true, true, true, true, false, false, false] rfl rfl (one_of HT_.out (by kernel_rfl)) (by decide) (fun K hK => ?_)
          have hCr := Kd.C_below HCT.out hHeld
          refine Kd.R_append_rows_step k43 (w0 := w5) w5.heap.size (by rfl) (.tmp 45) (.tmp 49) 22 43 (.agg #[(.int .i64 0), (.int .u8 0)]) 16 rfl Try.underlying22 info43 rfl (by decide) (by omega) v45 [] (l.take kn) _ _ _ (fun _ => True) (fun _ => False) rfl rfl HV45.out hCr (fun _ _ h => h) (fun _ h => h.elim) (fun _ _ => trivial) hHeld hHeld.size (by have := HN14.out; simp; omega) ?_
          intro v50 w50 hR hb hg hat
          have HV50 := Aside0.mk hR
          replace HV52 := Aside0.mk (R43_grown HV52.out hg HD52.out)
          refine hK.out _ _ hb ?_
          clear hHeld hR hb hg hat hCr
          intro hHeld
          clear hK K
          refine norm_ (a' := ?_) ?_ ?_
          rotate_left
          · show Act.put _ (some 50) _ = _
            simp only [Act.put, List.setIfInBounds_toArray, List.set_cons_zero, List.set_cons_succ, i64_w, i32_w]
            rfl
          exact norm_ (by simp only [putAll, Act.put, List.setIfInBounds_toArray, List.set_cons_zero, List.set_cons_succ]) (hCont (v45, v50, v52) _ ⟨hHeld, HV50.out, HV52.out⟩)
      rintro ⟨v45, v50, v52⟩ w30 ⟨hHeld, hg1, hg2⟩
      have HV50 := Aside0.mk hg1
      have HV52 := Aside0.mk hg2
      clear hg1 hg2
      refine norm_ (a' := ?_) ?_ ?_
      rotate_left
      · simp only [putAll, Act.put, List.setIfInBounds_toArray, List.set_cons_zero, List.set_cons_succ]
        rfl
      refine one_ (i := 8) (N := some 53) #[true, true, true, true, true, true, true, true, true, true, true, true, true, false, false, false] rfl rfl (one_of HT_.out (by kernel_rfl)) (by decide) (fun K hK => ?_)
      obtain ⟨A52, c52, rfl, hl52, hC52⟩ := Kd.R_reads HV52.out
      have hCr := hC52
      refine Kd.R_append_rows_step k43 (w0 := w5) w5.heap.size (by rfl) (.tmp 50) (.tmp 52) 22 43 (.agg #[(.int .i64 0), (.int .u8 0)]) 16 rfl Try.underlying22 info43 rfl (by decide) (by omega) v50 (l.take kn) [⟨f, 2⟩] _ _ _ (fun _ => True) (fun _ => False) rfl rfl HV50.out hCr (fun _ _ h => h) (fun _ h => h.elim) (fun _ _ => trivial) hHeld hHeld.size (by have := HN14.out; simp; omega) ?_
      intro v53 w53 hR hb hg hat
      have HV53 := Aside0.mk hR
      refine hK.out _ _ hb ?_
      clear hHeld hR hb hg hat hCr hC52 hl52
      intro hHeld
      clear hK K
      refine norm_ (a' := ?_) ?_ ?_
      rotate_left
      · show Act.put _ (some 53) _ = _
        simp only [Act.put, List.setIfInBounds_toArray, List.set_cons_zero, List.set_cons_succ, i64_w, i32_w]
        rfl
      refine one_ (i := 13) (N := some 58) #[true, true, true, true, true, true, true, true, true, true, true, true, true, true, false, false] rfl rfl (one_of HT_.out (by kernel_rfl)) (by decide) (fun K hK => ?_)
      have hCr := Kd.C_below HCD.out hHeld
      refine Kd.R_append_rows_step k43 (w0 := w5) w5.heap.size (by rfl) (.tmp 53) (.tmp 57) 22 43 (.agg #[(.int .i64 0), (.int .u8 0)]) 16 rfl Try.underlying22 info43 rfl (by decide) (by omega) v53 (l.take kn ++ [⟨f, 2⟩]) (l.drop kn) _ _ _ (fun _ => True) (fun _ => False) rfl rfl HV53.out hCr (fun _ _ h => h) (fun _ h => h.elim) (fun _ _ => trivial) hHeld hHeld.size (by have := HN14.out; simp; omega) ?_
      intro v58 w58 hR hb hg hat
      have HV58 := Aside0.mk hR
      refine hK.out _ _ hb ?_
      clear hHeld hR hb hg hat hCr
      intro hHeld
      clear hK K
      refine norm_ (a' := ?_) ?_ ?_
      rotate_left
      · show Act.put _ (some 58) _ = _
        simp only [Act.put, List.setIfInBounds_toArray, List.set_cons_zero, List.set_cons_succ, i64_w, i32_w]
        rfl
      refine take_ (i := 14) (N := some 59) (v := ?_) (a' := ?_) #[true, true, true, true, true, true, true, true, true, true, true, true, true, true, true, false] rfl rfl (take_ofW HT_.out HW_.out (by kernel_rfl)) (fun _ _ _ h => h) (Or.inl ⟨by rfl, ?_⟩) hHeld ?_ ?_
      rotate_left
      · rintro w' hS
        have s0 := (hS.cell (p := ⟨w.heap.size, 2, none⟩) HP.out.1).trans HP.out.2.2.1
        have s1 := (hS.cell (p := ⟨gP, 0, none⟩) HP.out.2.1).trans HP.out.2.2.2.1
        have s2 := (hS.cell (p := ⟨gP, 1, none⟩) HP.out.2.1).trans HP.out.2.2.2.2
        have s3 := HCUT.out.1
        have s4 := HCUT.out.2
        clear hS
        go_simp
        with_reducible rfl
      rotate_left
      · simp only [Act.put, List.setIfInBounds_toArray, List.set_cons_zero, List.set_cons_succ, i64_w, i32_w]
        rfl
      have HXX8 := Aside0.mk (blk_below XX.out hHeld)
      have HX8 := Aside0.mk (blk_below X.out hHeld)
      have HB8 := Aside0.mk hHeld
      have hL9 : (l.take kn ++ [(⟨f, 2⟩ : S43)] ++ l.drop kn).length = l.length + 1 := by have := HKN.out; simp; omega
      obtain ⟨m, hm⟩ : ∃ m, m = l.length + 1 := ⟨_, rfl⟩
      have HM := Aside0.mk hm
      obtain ⟨A9, c9, hv9, _, _⟩ := Kd.R_reads HV58.out
      rw [hL9, ← hm] at hv9
      subst hv9
      clear hL9 hm
      have t0 := (blk_cell HXX8.out 2).trans rfl
      have t1 := blk_frozen HXX8.out 2
      have t2 := blk_lt HXX8.out
      refine last_ (i := 15) (N := none) #[true, true, true, true, true, true, true, true, true, true, true, true, true, true, true, true] rfl rfl (one_of HT_.out (by kernel_rfl)) (by decide) (fun K hK => ?_)
      refine skip_ (w1 := ?_) (by rfl) rfl ?_ ?_
      rotate_left
      · go_simp
        rfl
      refine hK.out _ _ ?_
      clear hK K
      refine done_ (done_of HT_.out (by kernel_rfl)) ?_
      have n1 : w.heap.size ≠ gP + 1 := by have := NX.out; omega
      replace X := Aside0.mk (blk_far (p := ⟨gP + 1, 2, none⟩) HX8.out n1 (.slice A9 m c9))
      replace XX := Aside0.mk (blk_put (cs' := #[.int .i64 L, .int .i64 st, .slice A9 m c9]) HXX8.out 2 (.slice A9 m c9) rfl)
      replace KB : Aside0 (Below w.heap.size w (w58.setCell ⟨gP + 1, 2, none⟩ (.slice A9 m c9))) := ⟨below_set (KB.out.trans (HB8.out.mono KB.out.size)) (by show w.heap.size ≤ gP + 1; have := NX.out; omega)⟩
      obtain ⟨ys, hys⟩ : ∃ ys, l.take kn ++ [(⟨f, 2⟩ : S43)] ++ l.drop kn = ys := ⟨_, rfl⟩
      have HYS := Aside0.mk hys
      have HYL : Aside0 (ys.length = m) := ⟨by rw [← hys, HM.out]; have := HKN.out; simp; omega⟩
      have hR9 := Kd.R_set HV58.out HXX8.out (by decide) 2 (.slice A9 m c9)
      rw [hys] at hR9
      have RY := Aside0.mk (rowC43 hR9 HYL.out).1
      have HC9 := Aside0.mk (rowC43 hR9 HYL.out).2
      clear hR9 hys n1 HXX8 HX8 HB8 HV50 HV53 HV58 hHeld PB HP HCT HCD HCUT t0 t1 t2 HT_ HW_
      generalize (w58.setCell ⟨gP + 1, 2, none⟩ (.slice A9 m c9)) = w9 at X XX KB RY ⊢
      have qX0 : w9.cell? ⟨w.heap.size, 0, none⟩ = some (.int .i64 L) := (blk_cell X.out 0).trans rfl
      have qX1 : w9.cell? ⟨w.heap.size, 1, none⟩ = some (.int .i64 st) := (blk_cell X.out 1).trans rfl
      have qX2 : w9.cell? ⟨w.heap.size, 2, none⟩ = some (.slice A l.length c) := (blk_cell X.out 2).trans rfl
      have lX := blk_lt X.out
      have qXX0 : w9.cell? ⟨gP + 1, 0, none⟩ = some (.int .i64 L) := (blk_cell XX.out 0).trans rfl
      have qXX1 : w9.cell? ⟨gP + 1, 1, none⟩ = some (.int .i64 st) := (blk_cell XX.out 1).trans rfl
      have qXX2 : w9.cell? ⟨gP + 1, 2, none⟩ = some (.slice A9 m c9) := (blk_cell XX.out 2).trans rfl
      have lXX := blk_lt XX.out
      obtain ⟨rb2, hrb2⟩ : ∃ rb2, decide (checkI L st (ys.map up) = 0) = rb2 := ⟨_, rfl⟩
      have HRB2 := Aside0.mk hrb2
      clear hrb2
      go_wp2_with fail
      refine (ready_n L st A9 c9 ys _ m HYL.out RY.out HC9.out (by have := HM.out; omega) rb2 HRB2.out).mono ?_
      rintro e w61 ⟨rfl, hb61⟩
      clear qX0 qX1 qX2 qXX0 qXX1 qXX2 lX lXX
      replace KB := Aside0.mk (KB.out.trans (hb61.mono KB.out.size))
      replace X := Aside0.mk (blk_below X.out hb61)
      replace XX := Aside0.mk (blk_below XX.out hb61)
      replace RY := Aside0.mk (Kd.C_below RY.out hb61)
      clear hb61
      have qX0 : w61.cell? ⟨w.heap.size, 0, none⟩ = some (.int .i64 L) := (blk_cell X.out 0).trans rfl
      have qX1 : w61.cell? ⟨w.heap.size, 1, none⟩ = some (.int .i64 st) := (blk_cell X.out 1).trans rfl
      have qX2 : w61.cell? ⟨w.heap.size, 2, none⟩ = some (.slice A l.length c) := (blk_cell X.out 2).trans rfl
      have lX := blk_lt X.out
      have qXX0 : w61.cell? ⟨gP + 1, 0, none⟩ = some (.int .i64 L) := (blk_cell XX.out 0).trans rfl
      have qXX1 : w61.cell? ⟨gP + 1, 1, none⟩ = some (.int .i64 st) := (blk_cell XX.out 1).trans rfl
      have qXX2 : w61.cell? ⟨gP + 1, 2, none⟩ = some (.slice A9 m c9) := (blk_cell XX.out 2).trans rfl
      have lXX := blk_lt XX.out
      cases rb2 with
      | false =>
        go_wp2_with fail
        refine (awake_calls _).mono ?_
        rintro e w62 ⟨rfl, hb62⟩
        clear qX0 qX1 qX2 qXX0 qXX1 qXX2 lX lXX
        replace KB := Aside0.mk (KB.out.trans (hb62.mono KB.out.size))
        replace X := Aside0.mk (blk_below X.out hb62)
        replace XX := Aside0.mk (blk_below XX.out hb62)
        replace RY := Aside0.mk (Kd.C_below RY.out hb62)
        clear hb62
        have qX0 : w62.cell? ⟨w.heap.size, 0, none⟩ = some (.int .i64 L) := (blk_cell X.out 0).trans rfl
        have qX1 : w62.cell? ⟨w.heap.size, 1, none⟩ = some (.int .i64 st) := (blk_cell X.out 1).trans rfl
        have qX2 : w62.cell? ⟨w.heap.size, 2, none⟩ = some (.slice A l.length c) := (blk_cell X.out 2).trans rfl
        have lX := blk_lt X.out
        have qXX0 : w62.cell? ⟨gP + 1, 0, none⟩ = some (.int .i64 L) := (blk_cell XX.out 0).trans rfl
        have qXX1 : w62.cell? ⟨gP + 1, 1, none⟩ = some (.int .i64 st) := (blk_cell XX.out 1).trans rfl
        have qXX2 : w62.cell? ⟨gP + 1, 2, none⟩ = some (.slice A9 m c9) := (blk_cell XX.out 2).trans rfl
        have lXX := blk_lt XX.out
        go_wp2_with fail
        go_ret
        exact ⟨rfl, KB.out⟩
      | true =>
        obtain ⟨zs, hzs⟩ : ∃ zs, ys.map up = zs := ⟨_, rfl⟩
        have HZ := Aside0.mk hzs
        have HZL : Aside0 (zs.length = m) := ⟨by rw [← hzs, List.length_map]; exact HYL.out⟩
        have HSL := Aside0.mk (stop_law (L := L) (st := st) (xs := xs) (zs := zs) (k := kn) (f := f) (by rw [← hzs, ← HYS.out, ← HX.out]; simp [List.map_take, List.map_drop, up]) (by have := HXL.out; have := HKN.out; omega) HF.out.1 (fun e => HF.out.2 (by rw [← HXL.out]; exact e)) (by rw [HX.out] at HCK; exact HCK.out) (by rw [← hzs]; exact of_decide_eq_true HRB2.out))
        clear hzs
        obtain ⟨pv, hpv⟩ : ∃ pv, possI L st xs = pv := ⟨_, rfl⟩
        have HPV := Aside0.mk hpv
        clear hpv
        obtain ⟨ev, hev⟩ : ∃ ev, midE L st xs = ev := ⟨_, rfl⟩
        have HEV := Aside0.mk hev
        clear hev
        obtain ⟨m1, hm1⟩ : ∃ m1, (midR L st xs).1 = m1 := ⟨_, rfl⟩
        have HM1 := Aside0.mk hm1
        clear hm1
        obtain ⟨m2, hm2⟩ : ∃ m2, (midR L st xs).2 = m2 := ⟨_, rfl⟩
        have HM2 := Aside0.mk hm2
        clear hm2
        go_wp2_with fail
        refine (stairs_n L st A c l _ l.length rfl (Kd.C_below HR.out KB.out) HC.out (by omega) xs HX.out l.length HXL.out).mono ?_
        rintro e w63 ⟨⟨A1, c1, rfl, HC1⟩, hb63⟩
        clear qX0 qX1 qX2 qXX0 qXX1 qXX2 lX lXX
        replace KB := Aside0.mk (KB.out.trans (hb63.mono KB.out.size))
        replace X := Aside0.mk (blk_below X.out hb63)
        replace XX := Aside0.mk (blk_below XX.out hb63)
        replace RY := Aside0.mk (Kd.C_below RY.out hb63)
        clear hb63
        have qX0 : w63.cell? ⟨w.heap.size, 0, none⟩ = some (.int .i64 L) := (blk_cell X.out 0).trans rfl
        have qX1 : w63.cell? ⟨w.heap.size, 1, none⟩ = some (.int .i64 st) := (blk_cell X.out 1).trans rfl
        have qX2 : w63.cell? ⟨w.heap.size, 2, none⟩ = some (.slice A l.length c) := (blk_cell X.out 2).trans rfl
        have lX := blk_lt X.out
        have qXX0 : w63.cell? ⟨gP + 1, 0, none⟩ = some (.int .i64 L) := (blk_cell XX.out 0).trans rfl
        have qXX1 : w63.cell? ⟨gP + 1, 1, none⟩ = some (.int .i64 st) := (blk_cell XX.out 1).trans rfl
        have qXX2 : w63.cell? ⟨gP + 1, 2, none⟩ = some (.slice A9 m c9) := (blk_cell XX.out 2).trans rfl
        have lXX := blk_lt XX.out
        go_wp2_with fail
        refine (runs_n L st A1 c1 xs l.length _ HXL.out HC1.out.1 HC1.out.2).mono ?_
        rintro e w64 ⟨vs, vr, rfl, hO, hb64⟩
        clear qX0 qX1 qX2 qXX0 qXX1 qXX2 lX lXX
        replace KB := Aside0.mk (KB.out.trans (hb64.mono KB.out.size))
        replace X := Aside0.mk (blk_below X.out hb64)
        replace XX := Aside0.mk (blk_below XX.out hb64)
        replace RY := Aside0.mk (Kd.C_below RY.out hb64)
        rw [HPV.out]
        have HO1 := Aside0.mk hO
        clear hO
        clear hb64
        have qX0 : w64.cell? ⟨w.heap.size, 0, none⟩ = some (.int .i64 L) := (blk_cell X.out 0).trans rfl
        have qX1 : w64.cell? ⟨w.heap.size, 1, none⟩ = some (.int .i64 st) := (blk_cell X.out 1).trans rfl
        have qX2 : w64.cell? ⟨w.heap.size, 2, none⟩ = some (.slice A l.length c) := (blk_cell X.out 2).trans rfl
        have lX := blk_lt X.out
        have qXX0 : w64.cell? ⟨gP + 1, 0, none⟩ = some (.int .i64 L) := (blk_cell XX.out 0).trans rfl
        have qXX1 : w64.cell? ⟨gP + 1, 1, none⟩ = some (.int .i64 st) := (blk_cell XX.out 1).trans rfl
        have qXX2 : w64.cell? ⟨gP + 1, 2, none⟩ = some (.slice A9 m c9) := (blk_cell XX.out 2).trans rfl
        have lXX := blk_lt XX.out
        go_wp2_with fail
        refine (stairs_n L st A9 c9 ys _ m HYL.out RY.out HC9.out (by have := HM.out; omega) zs HZ.out m HZL.out).mono ?_
        rintro e w65 ⟨⟨A2, c2, rfl, HC2⟩, hb65⟩
        clear qX0 qX1 qX2 qXX0 qXX1 qXX2 lX lXX
        replace KB := Aside0.mk (KB.out.trans (hb65.mono KB.out.size))
        replace X := Aside0.mk (blk_below X.out hb65)
        replace XX := Aside0.mk (blk_below XX.out hb65)
        replace RY := Aside0.mk (Kd.C_below RY.out hb65)
        replace HO1 := Aside0.mk (RunsOut.below HO1.out hb65)
        clear hb65
        have qX0 : w65.cell? ⟨w.heap.size, 0, none⟩ = some (.int .i64 L) := (blk_cell X.out 0).trans rfl
        have qX1 : w65.cell? ⟨w.heap.size, 1, none⟩ = some (.int .i64 st) := (blk_cell X.out 1).trans rfl
        have qX2 : w65.cell? ⟨w.heap.size, 2, none⟩ = some (.slice A l.length c) := (blk_cell X.out 2).trans rfl
        have lX := blk_lt X.out
        have qXX0 : w65.cell? ⟨gP + 1, 0, none⟩ = some (.int .i64 L) := (blk_cell XX.out 0).trans rfl
        have qXX1 : w65.cell? ⟨gP + 1, 1, none⟩ = some (.int .i64 st) := (blk_cell XX.out 1).trans rfl
        have qXX2 : w65.cell? ⟨gP + 1, 2, none⟩ = some (.slice A9 m c9) := (blk_cell XX.out 2).trans rfl
        have lXX := blk_lt XX.out
        go_wp2_with fail
        refine (runs_n L st A2 c2 zs m _ HZL.out HC2.out.1 HC2.out.2).mono ?_
        rintro e w66 ⟨us, ur, rfl, hO, hb66⟩
        clear qX0 qX1 qX2 qXX0 qXX1 qXX2 lX lXX
        replace KB := Aside0.mk (KB.out.trans (hb66.mono KB.out.size))
        replace X := Aside0.mk (blk_below X.out hb66)
        replace XX := Aside0.mk (blk_below XX.out hb66)
        replace RY := Aside0.mk (Kd.C_below RY.out hb66)
        replace HO1 := Aside0.mk (RunsOut.below HO1.out hb66)
        rw [HSL.out.1, HPV.out]
        have HO2 := Aside0.mk hO
        clear hO
        clear hb66
        have qX0 : w66.cell? ⟨w.heap.size, 0, none⟩ = some (.int .i64 L) := (blk_cell X.out 0).trans rfl
        have qX1 : w66.cell? ⟨w.heap.size, 1, none⟩ = some (.int .i64 st) := (blk_cell X.out 1).trans rfl
        have qX2 : w66.cell? ⟨w.heap.size, 2, none⟩ = some (.slice A l.length c) := (blk_cell X.out 2).trans rfl
        have lX := blk_lt X.out
        have qXX0 : w66.cell? ⟨gP + 1, 0, none⟩ = some (.int .i64 L) := (blk_cell XX.out 0).trans rfl
        have qXX1 : w66.cell? ⟨gP + 1, 1, none⟩ = some (.int .i64 st) := (blk_cell XX.out 1).trans rfl
        have qXX2 : w66.cell? ⟨gP + 1, 2, none⟩ = some (.slice A9 m c9) := (blk_cell XX.out 2).trans rfl
        have lXX := blk_lt XX.out
        go_wp2_with fail
        refine (stairs_n L st A c l _ l.length rfl (Kd.C_below HR.out KB.out) HC.out (by omega) xs HX.out l.length HXL.out).mono ?_
        rintro e w67 ⟨⟨A3, c3, rfl, HC3⟩, hb67⟩
        clear qX0 qX1 qX2 qXX0 qXX1 qXX2 lX lXX
        replace KB := Aside0.mk (KB.out.trans (hb67.mono KB.out.size))
        replace X := Aside0.mk (blk_below X.out hb67)
        replace XX := Aside0.mk (blk_below XX.out hb67)
        replace RY := Aside0.mk (Kd.C_below RY.out hb67)
        replace HO1 := Aside0.mk (RunsOut.below HO1.out hb67)
        replace HO2 := Aside0.mk (RunsOut.below HO2.out hb67)
        clear hb67
        have qX0 : w67.cell? ⟨w.heap.size, 0, none⟩ = some (.int .i64 L) := (blk_cell X.out 0).trans rfl
        have qX1 : w67.cell? ⟨w.heap.size, 1, none⟩ = some (.int .i64 st) := (blk_cell X.out 1).trans rfl
        have qX2 : w67.cell? ⟨w.heap.size, 2, none⟩ = some (.slice A l.length c) := (blk_cell X.out 2).trans rfl
        have lX := blk_lt X.out
        have qXX0 : w67.cell? ⟨gP + 1, 0, none⟩ = some (.int .i64 L) := (blk_cell XX.out 0).trans rfl
        have qXX1 : w67.cell? ⟨gP + 1, 1, none⟩ = some (.int .i64 st) := (blk_cell XX.out 1).trans rfl
        have qXX2 : w67.cell? ⟨gP + 1, 2, none⟩ = some (.slice A9 m c9) := (blk_cell XX.out 2).trans rfl
        have lXX := blk_lt XX.out
        go_wp2_with fail
        refine (middle_n L st A3 c3 xs _ l.length HXL.out HC3.out.1 HC3.out.2).mono ?_
        rintro e w68 ⟨rfl, hb68⟩
        clear qX0 qX1 qX2 qXX0 qXX1 qXX2 lX lXX
        replace KB := Aside0.mk (KB.out.trans (hb68.mono KB.out.size))
        replace X := Aside0.mk (blk_below X.out hb68)
        replace XX := Aside0.mk (blk_below XX.out hb68)
        replace RY := Aside0.mk (Kd.C_below RY.out hb68)
        replace HO1 := Aside0.mk (RunsOut.below HO1.out hb68)
        replace HO2 := Aside0.mk (RunsOut.below HO2.out hb68)
        rw [HM1.out, HM2.out, HEV.out]
        clear hb68
        have qX0 : w68.cell? ⟨w.heap.size, 0, none⟩ = some (.int .i64 L) := (blk_cell X.out 0).trans rfl
        have qX1 : w68.cell? ⟨w.heap.size, 1, none⟩ = some (.int .i64 st) := (blk_cell X.out 1).trans rfl
        have qX2 : w68.cell? ⟨w.heap.size, 2, none⟩ = some (.slice A l.length c) := (blk_cell X.out 2).trans rfl
        have lX := blk_lt X.out
        have qXX0 : w68.cell? ⟨gP + 1, 0, none⟩ = some (.int .i64 L) := (blk_cell XX.out 0).trans rfl
        have qXX1 : w68.cell? ⟨gP + 1, 1, none⟩ = some (.int .i64 st) := (blk_cell XX.out 1).trans rfl
        have qXX2 : w68.cell? ⟨gP + 1, 2, none⟩ = some (.slice A9 m c9) := (blk_cell XX.out 2).trans rfl
        have lXX := blk_lt XX.out
        go_wp2_with fail
        have NBM_X := Aside0.mk lX
        have NBM_XX := Aside0.mk lXX
        clear qX0 qX1 qX2 qXX0 qXX1 qXX2 lX lXX
        have BM := Aside0.mk (blk_new w68 (.cells #[.int .i64 m1, .int .i64 m2] 28))
        have hb69 : Below w68.heap.size w68 (w68.alloc (.cells #[.int .i64 m1, .int .i64 m2] 28)) := (Below.refl _ _).alloc (Nat.le_refl _) _
        replace KB := Aside0.mk (KB.out.trans (hb69.mono KB.out.size))
        replace X := Aside0.mk (blk_below X.out hb69)
        replace XX := Aside0.mk (blk_below XX.out hb69)
        replace RY := Aside0.mk (Kd.C_below RY.out hb69)
        replace HO1 := Aside0.mk (RunsOut.below HO1.out hb69)
        replace HO2 := Aside0.mk (RunsOut.below HO2.out hb69)
        clear hb69
        obtain ⟨gBM, hgBM⟩ : ∃ g, w68.heap.size = g := ⟨_, rfl⟩
        rw [hgBM] at BM NBM_X NBM_XX ⊢
        clear hgBM
        generalize w68.alloc (.cells #[.int .i64 m1, .int .i64 m2] 28) = w69 at BM KB X XX RY HO1 HO2 ⊢
        have qX0 : w69.cell? ⟨w.heap.size, 0, none⟩ = some (.int .i64 L) := (blk_cell X.out 0).trans rfl
        have qX1 : w69.cell? ⟨w.heap.size, 1, none⟩ = some (.int .i64 st) := (blk_cell X.out 1).trans rfl
        have qX2 : w69.cell? ⟨w.heap.size, 2, none⟩ = some (.slice A l.length c) := (blk_cell X.out 2).trans rfl
        have lX := blk_lt X.out
        have qXX0 : w69.cell? ⟨gP + 1, 0, none⟩ = some (.int .i64 L) := (blk_cell XX.out 0).trans rfl
        have qXX1 : w69.cell? ⟨gP + 1, 1, none⟩ = some (.int .i64 st) := (blk_cell XX.out 1).trans rfl
        have qXX2 : w69.cell? ⟨gP + 1, 2, none⟩ = some (.slice A9 m c9) := (blk_cell XX.out 2).trans rfl
        have lXX := blk_lt XX.out
        have qBM0 : w69.cell? ⟨gBM, 0, none⟩ = some (.int .i64 m1) := (blk_cell BM.out 0).trans rfl
        have qBM1 : w69.cell? ⟨gBM, 1, none⟩ = some (.int .i64 m2) := (blk_cell BM.out 1).trans rfl
        have lBM := blk_lt BM.out
        refine (stairs_n L st A9 c9 ys _ m HYL.out RY.out HC9.out (by have := HM.out; omega) zs HZ.out m HZL.out).mono ?_
        rintro e w70 ⟨⟨A4, c4, rfl, HC4⟩, hb70⟩
        clear qX0 qX1 qX2 qXX0 qXX1 qXX2 qBM0 qBM1 lX lXX lBM
        replace KB := Aside0.mk (KB.out.trans (hb70.mono KB.out.size))
        replace X := Aside0.mk (blk_below X.out hb70)
        replace XX := Aside0.mk (blk_below XX.out hb70)
        replace RY := Aside0.mk (Kd.C_below RY.out hb70)
        replace HO1 := Aside0.mk (RunsOut.below HO1.out hb70)
        replace HO2 := Aside0.mk (RunsOut.below HO2.out hb70)
        replace BM := Aside0.mk (blk_below BM.out hb70)
        clear hb70
        have qX0 : w70.cell? ⟨w.heap.size, 0, none⟩ = some (.int .i64 L) := (blk_cell X.out 0).trans rfl
        have qX1 : w70.cell? ⟨w.heap.size, 1, none⟩ = some (.int .i64 st) := (blk_cell X.out 1).trans rfl
        have qX2 : w70.cell? ⟨w.heap.size, 2, none⟩ = some (.slice A l.length c) := (blk_cell X.out 2).trans rfl
        have lX := blk_lt X.out
        have qXX0 : w70.cell? ⟨gP + 1, 0, none⟩ = some (.int .i64 L) := (blk_cell XX.out 0).trans rfl
        have qXX1 : w70.cell? ⟨gP + 1, 1, none⟩ = some (.int .i64 st) := (blk_cell XX.out 1).trans rfl
        have qXX2 : w70.cell? ⟨gP + 1, 2, none⟩ = some (.slice A9 m c9) := (blk_cell XX.out 2).trans rfl
        have lXX := blk_lt XX.out
        have qBM0 : w70.cell? ⟨gBM, 0, none⟩ = some (.int .i64 m1) := (blk_cell BM.out 0).trans rfl
        have qBM1 : w70.cell? ⟨gBM, 1, none⟩ = some (.int .i64 m2) := (blk_cell BM.out 1).trans rfl
        have lBM := blk_lt BM.out
        go_wp2_with fail
        refine (middle_n L st A4 c4 zs _ m HZL.out HC4.out.1 HC4.out.2).mono ?_
        rintro e w71 ⟨rfl, hb71⟩
        clear qX0 qX1 qX2 qXX0 qXX1 qXX2 qBM0 qBM1 lX lXX lBM
        replace KB := Aside0.mk (KB.out.trans (hb71.mono KB.out.size))
        replace X := Aside0.mk (blk_below X.out hb71)
        replace XX := Aside0.mk (blk_below XX.out hb71)
        replace RY := Aside0.mk (Kd.C_below RY.out hb71)
        replace HO1 := Aside0.mk (RunsOut.below HO1.out hb71)
        replace HO2 := Aside0.mk (RunsOut.below HO2.out hb71)
        replace BM := Aside0.mk (blk_below BM.out hb71)
        rw [HSL.out.2.2.1, HSL.out.2.1, HM1.out, HM2.out, HEV.out]
        clear hb71
        have qX0 : w71.cell? ⟨w.heap.size, 0, none⟩ = some (.int .i64 L) := (blk_cell X.out 0).trans rfl
        have qX1 : w71.cell? ⟨w.heap.size, 1, none⟩ = some (.int .i64 st) := (blk_cell X.out 1).trans rfl
        have qX2 : w71.cell? ⟨w.heap.size, 2, none⟩ = some (.slice A l.length c) := (blk_cell X.out 2).trans rfl
        have lX := blk_lt X.out
        have qXX0 : w71.cell? ⟨gP + 1, 0, none⟩ = some (.int .i64 L) := (blk_cell XX.out 0).trans rfl
        have qXX1 : w71.cell? ⟨gP + 1, 1, none⟩ = some (.int .i64 st) := (blk_cell XX.out 1).trans rfl
        have qXX2 : w71.cell? ⟨gP + 1, 2, none⟩ = some (.slice A9 m c9) := (blk_cell XX.out 2).trans rfl
        have lXX := blk_lt XX.out
        have qBM0 : w71.cell? ⟨gBM, 0, none⟩ = some (.int .i64 m1) := (blk_cell BM.out 0).trans rfl
        have qBM1 : w71.cell? ⟨gBM, 1, none⟩ = some (.int .i64 m2) := (blk_cell BM.out 1).trans rfl
        have lBM := blk_lt BM.out
        go_wp2_with fail
        have NBN_X := Aside0.mk lX
        have NBN_XX := Aside0.mk lXX
        have NBN_BM := Aside0.mk lBM
        clear qX0 qX1 qX2 qXX0 qXX1 qXX2 qBM0 qBM1 lX lXX lBM
        have BN := Aside0.mk (blk_new w71 (.cells #[.int .i64 m1, .int .i64 m2] 28))
        have hb72 : Below w71.heap.size w71 (w71.alloc (.cells #[.int .i64 m1, .int .i64 m2] 28)) := (Below.refl _ _).alloc (Nat.le_refl _) _
        replace KB := Aside0.mk (KB.out.trans (hb72.mono KB.out.size))
        replace X := Aside0.mk (blk_below X.out hb72)
        replace XX := Aside0.mk (blk_below XX.out hb72)
        replace RY := Aside0.mk (Kd.C_below RY.out hb72)
        replace HO1 := Aside0.mk (RunsOut.below HO1.out hb72)
        replace HO2 := Aside0.mk (RunsOut.below HO2.out hb72)
        replace BM := Aside0.mk (blk_below BM.out hb72)
        clear hb72
        obtain ⟨gBN, hgBN⟩ : ∃ g, w71.heap.size = g := ⟨_, rfl⟩
        rw [hgBN] at BN NBN_X NBN_XX NBN_BM ⊢
        clear hgBN
        generalize w71.alloc (.cells #[.int .i64 m1, .int .i64 m2] 28) = w72 at BN KB X XX RY HO1 HO2 BM ⊢
        have qX0 : w72.cell? ⟨w.heap.size, 0, none⟩ = some (.int .i64 L) := (blk_cell X.out 0).trans rfl
        have qX1 : w72.cell? ⟨w.heap.size, 1, none⟩ = some (.int .i64 st) := (blk_cell X.out 1).trans rfl
        have qX2 : w72.cell? ⟨w.heap.size, 2, none⟩ = some (.slice A l.length c) := (blk_cell X.out 2).trans rfl
        have lX := blk_lt X.out
        have qXX0 : w72.cell? ⟨gP + 1, 0, none⟩ = some (.int .i64 L) := (blk_cell XX.out 0).trans rfl
        have qXX1 : w72.cell? ⟨gP + 1, 1, none⟩ = some (.int .i64 st) := (blk_cell XX.out 1).trans rfl
        have qXX2 : w72.cell? ⟨gP + 1, 2, none⟩ = some (.slice A9 m c9) := (blk_cell XX.out 2).trans rfl
        have lXX := blk_lt XX.out
        have qBM0 : w72.cell? ⟨gBM, 0, none⟩ = some (.int .i64 m1) := (blk_cell BM.out 0).trans rfl
        have qBM1 : w72.cell? ⟨gBM, 1, none⟩ = some (.int .i64 m2) := (blk_cell BM.out 1).trans rfl
        have lBM := blk_lt BM.out
        have qBN0 : w72.cell? ⟨gBN, 0, none⟩ = some (.int .i64 m1) := (blk_cell BN.out 0).trans rfl
        have qBN1 : w72.cell? ⟨gBN, 1, none⟩ = some (.int .i64 m2) := (blk_cell BN.out 1).trans rfl
        have lBN := blk_lt BN.out
        obtain ⟨n0, m0, Al, Ar, Bl, Br, LL, LM, RL, RM, rfl, rfl, rfl, rfl, hC, hn0, hnm, hm0, hkey⟩ := runs_key HO1.out HO2.out HSL.out.1 HXL.out (by rw [HZL.out, HM.out]) HKN.out HSL.out.2.2.2.1 HSL.out.2.2.2.2
        have HL := Aside0.mk hC.1
        have HRR := Aside0.mk hC.2.1
        have HL2 := Aside0.mk hC.2.2.1
        have HRR2 := Aside0.mk hC.2.2.2
        have HKEY := Aside0.mk hkey
        have hn14 : (n0 : Int) ≤ 14 := by omega
        have hm15 : (m0 : Int) ≤ 15 := by omega
        clear hC hkey hm0 HO1 HO2
        have u1 : (pv != pv) = false := bne_eq_false_iff_eq.2 rfl
        have u2 : (ev != ev) = false := bne_eq_false_iff_eq.2 rfl
        have u3 : ((m0 : Int) != (m0 : Int)) = false := bne_eq_false_iff_eq.2 rfl
        have u4 : (m1 != m1) = false := bne_eq_false_iff_eq.2 rfl
        have u5 : (m2 != m2) = false := bne_eq_false_iff_eq.2 rfl
        have ln1 := len69 Al n0 n0 (by omega)
        have ln2 := len69 Bl m0 m0 (by omega)
        have ln3 := len37 Br m0 m0 (by omega)
        rcases Nat.eq_zero_or_pos n0 with hz | hz
        case' inl =>
          have u6 : decide ((0 : Int) < (n0 : Int)) = false := decide_eq_false (by omega)
          have u7 : decide (0 < n0) = false := decide_eq_false (by omega)
          clear hz hnm
          go_wp2_with ((with_reducible show Oper.upon _ _ _ _ _ _); go_simp)
          clear u6 u7
        case' inr =>
          have u6 : decide ((0 : Int) < (n0 : Int)) = true := decide_eq_true (by omega)
          have u7 : decide (0 < n0) = true := decide_eq_true (by omega)
          have u8 : ((m0 : Int) != (n0 : Int) + 1) = false := bne_eq_false_iff_eq.2 (by omega)
          clear hz hnm
          go_wp2_with ((with_reducible show Oper.upon _ _ _ _ _ _); go_simp)
          clear u6 u7 u8
        all_goals
          clear qX0 qX1 qX2 qXX0 qXX1 qXX2 qBM0 qBM1 qBN0 qBN1 lX lXX lBM lBN
          clear u1 u2 u3 u4 u5
          go_loopw [18] (fun i wr => ∃ jn : Nat, jn ≤ n0 ∧ i = .int .i64 jn ∧ Aside0 (Below w.heap.size w wr) ∧ Aside0 (Kd.C k28 wr Al n0 LL) ∧ Aside0 (Kd.C sl8 wr Ar n0 RL) ∧ Aside0 (Kd.C k28 wr Bl m0 LM) ∧ Aside0 (Kd.C sl8 wr Br m0 RM)) (fun i _ => n0 - (intOf i).toNat)
          case atStart => exact ⟨0, by omega, rfl, KB, HL, HRR, HL2, HRR2⟩
          case round =>
            clear KB HL HRR HL2 HRR2
            obtain ⟨jn, hj, rfl, KB, HL, HRR, HL2, HRR2⟩ := hrel
            by_cases hj3 : jn < n0
            · have hj6 : decide ((jn : Int) < (n0 : Int)) = true := decide_eq_true (by omega)
              have hj7 : (jn : Int) < (n0 : Int) := by omega
              have hj8 : (0 : Int) ≤ (jn : Int) := by omega
              obtain ⟨hpl, a, b, rw_, e1, e2, e3, e4, e5⟩ := HKEY.out jn hj3
              obtain ⟨nw, hnw⟩ : ∃ nw, rw_.length = nw := ⟨_, rfl⟩
              have HNW := Aside0.mk hnw
              have HNW3 : Aside0 (nw ≤ 3) := ⟨hnw ▸ e5⟩
              obtain ⟨adl, rfl, g1, g2⟩ := cell28 HL.out jn hj3 e1
              obtain ⟨adm, rfl, g3, g4⟩ := cell28 HL2.out _ hpl e2
              obtain ⟨adr, A0, c0, rfl, g5, _, g6⟩ := cellRow HRR.out jn hj3 rw_ e3
              obtain ⟨adt, A00, c00, rfl, g7, _, g8⟩ := cellRow HRR2.out _ hpl rw_ e4
              rw [hnw] at g5 g6 g7 g8
              have HC0 := Aside0.mk g6
              have HC00 := Aside0.mk g8
              clear e1 e2 e3 e4 e5 g6 g8 hnw
              by_cases hik : kn ≤ jn
              case' pos =>
                have hp2 : pl kn jn = jn + 1 := by unfold pl; rw [if_pos hik]
                rw [hp2] at g3 g4 g7 hpl
                have hi1 : decide ((kn : Int) ≤ (jn : Int)) = true := decide_eq_true (by omega)
                have hi2 : decide (kn ≤ jn) = true := decide_eq_true hik
                have hi3 : (0 : Int) ≤ (jn : Int) + 1 := by omega
                have hi4 : (jn : Int) + 1 < (m0 : Int) := by omega
                clear hik hp2
                have g7 : wr.cell? ⟨adt.block, adt.off + (jn + 1), none⟩ = some (.slice A00 nw c00) := by simpa [Addr.add] using g7
                go_wp2_with fail
              case' neg =>
                have hp2 : pl kn jn = jn := by unfold pl; rw [if_neg hik]
                rw [hp2] at g3 g4 g7 hpl
                have hi1 : decide ((kn : Int) ≤ (jn : Int)) = false := decide_eq_false (by omega)
                have hi2 : decide (kn ≤ jn) = false := decide_eq_false hik
                have hi3 : (0 : Int) ≤ (jn : Int) := by omega
                have hi4 : (jn : Int) < (m0 : Int) := by omega
                clear hik hp2
                go_wp2_with fail
              all_goals
                have QX := Aside0.mk (And.intro g1 (And.intro g2 (And.intro g3 (And.intro g4 (And.intro g5 g7)))))
                have LX := Aside0.mk (And.intro (World.block_lt_of_cell? _ _ g1) (And.intro (World.block_lt_of_cell? _ _ g2) (And.intro (World.block_lt_of_cell? _ _ g3) (And.intro (World.block_lt_of_cell? _ _ g4) (And.intro (World.block_lt_of_cell? _ _ g5) (World.block_lt_of_cell? _ _ g7))))))
                clear g1 g2 g3 g4 g5 g7
                refine start_ (n := 21) (S := (Below wr.heap.size wr)) (ds := []) #[false, false, false, false, false, false, false, false, false, false, false, false, false, false, false, false, false, false, false, false, false] (by kernel_rfl) rfl rfl ((Below.refl _ _).drew) (fun hHeld => ?_)
                refine with_tabW f12.tab23 f12.bits23 (fun HT_ HW_ => ?_)
                refine take_ (i := 0) (N := some 135) (v := ?_) (a' := ?_) #[true, false, false, false, false, false, false, false, false, false, false, false, false, false, false, false, false, false, false, false, false] rfl rfl (take_ofW HT_.out HW_.out (by kernel_rfl)) (fun _ _ _ h => h) (Or.inl ⟨by rfl, ?_⟩) hHeld ?_ ?_
                rotate_left
                · rintro w' hS
                  have s0 := (hS.cell LX.out.1).trans QX.out.1
                  have s1 := (hS.cell LX.out.2.1).trans QX.out.2.1
                  have s2 := (hS.cell LX.out.2.2.1).trans QX.out.2.2.1
                  have s3 := (hS.cell LX.out.2.2.2.1).trans QX.out.2.2.2.1
                  have s4 := (hS.cell LX.out.2.2.2.2.1).trans QX.out.2.2.2.2.1
                  have s5 := (hS.cell LX.out.2.2.2.2.2).trans QX.out.2.2.2.2.2
                  clear hS
                  go_simp
                  with_reducible rfl
                rotate_left
                · simp only [Act.put, List.setIfInBounds_toArray, List.set_cons_zero, List.set_cons_succ, i64_w, i32_w]
                  rfl
                refine take_ (i := 1) (N := some 136) (v := ?_) (a' := ?_) #[true, true, false, false, false, false, false, false, false, false, false, false, false, false, false, false, false, false, false, false, false] rfl rfl (take_ofW HT_.out HW_.out (by kernel_rfl)) (fun _ _ _ h => h) (Or.inl ⟨by rfl, ?_⟩) hHeld ?_ ?_
                rotate_left
                · rintro w' hS
                  have s0 := (hS.cell LX.out.1).trans QX.out.1
                  have s1 := (hS.cell LX.out.2.1).trans QX.out.2.1
                  have s2 := (hS.cell LX.out.2.2.1).trans QX.out.2.2.1
                  have s3 := (hS.cell LX.out.2.2.2.1).trans QX.out.2.2.2.1
                  have s4 := (hS.cell LX.out.2.2.2.2.1).trans QX.out.2.2.2.2.1
                  have s5 := (hS.cell LX.out.2.2.2.2.2).trans QX.out.2.2.2.2.2
                  clear hS
                  go_simp
                  with_reducible rfl
                rotate_left
                · simp only [Act.put, List.setIfInBounds_toArray, List.set_cons_zero, List.set_cons_succ, i64_w, i32_w]
                  rfl
                refine take_ (i := 2) (N := some 137) (v := ?_) (a' := ?_) #[true, true, true, false, false, false, false, false, false, false, false, false, false, false, false, false, false, false, false, false, false] rfl rfl (take_ofW HT_.out HW_.out (by kernel_rfl)) (fun _ _ _ h => h) (Or.inl ⟨by rfl, ?_⟩) hHeld ?_ ?_
                rotate_left
                · rintro w' hS
                  have s0 := (hS.cell LX.out.1).trans QX.out.1
                  have s1 := (hS.cell LX.out.2.1).trans QX.out.2.1
                  have s2 := (hS.cell LX.out.2.2.1).trans QX.out.2.2.1
                  have s3 := (hS.cell LX.out.2.2.2.1).trans QX.out.2.2.2.1
                  have s4 := (hS.cell LX.out.2.2.2.2.1).trans QX.out.2.2.2.2.1
                  have s5 := (hS.cell LX.out.2.2.2.2.2).trans QX.out.2.2.2.2.2
                  clear hS
                  go_simp
                  with_reducible rfl
                rotate_left
                · simp only [Act.put, List.setIfInBounds_toArray, List.set_cons_zero, List.set_cons_succ, i64_w, i32_w]
                  rfl
                refine take_ (i := 3) (N := some 138) (v := ?_) (a' := ?_) #[true, true, true, true, false, false, false, false, false, false, false, false, false, false, false, false, false, false, false, false, false] rfl rfl (take_ofW HT_.out HW_.out (by kernel_rfl)) (fun _ _ _ h => h) (Or.inl ⟨by rfl, ?_⟩) hHeld ?_ ?_
                rotate_left
                · rintro w' hS
                  have s0 := (hS.cell LX.out.1).trans QX.out.1
                  have s1 := (hS.cell LX.out.2.1).trans QX.out.2.1
                  have s2 := (hS.cell LX.out.2.2.1).trans QX.out.2.2.1
                  have s3 := (hS.cell LX.out.2.2.2.1).trans QX.out.2.2.2.1
                  have s4 := (hS.cell LX.out.2.2.2.2.1).trans QX.out.2.2.2.2.1
                  have s5 := (hS.cell LX.out.2.2.2.2.2).trans QX.out.2.2.2.2.2
                  clear hS
                  go_simp
                  with_reducible rfl
                rotate_left
                · simp only [Act.put, List.setIfInBounds_toArray, List.set_cons_zero, List.set_cons_succ, i64_w, i32_w]
                  rfl
                refine take_ (i := 4) (N := some 139) (v := ?_) (a' := ?_) #[true, true, true, true, true, false, false, false, false, false, false, false, false, false, false, false, false, false, false, false, false] rfl rfl (take_ofW HT_.out HW_.out (by kernel_rfl)) (fun _ _ _ h => h) (Or.inl ⟨by rfl, ?_⟩) hHeld ?_ ?_
                rotate_left
                · rintro w' hS
                  have s0 := (hS.cell LX.out.1).trans QX.out.1
                  have s1 := (hS.cell LX.out.2.1).trans QX.out.2.1
                  have s2 := (hS.cell LX.out.2.2.1).trans QX.out.2.2.1
                  have s3 := (hS.cell LX.out.2.2.2.1).trans QX.out.2.2.2.1
                  have s4 := (hS.cell LX.out.2.2.2.2.1).trans QX.out.2.2.2.2.1
                  have s5 := (hS.cell LX.out.2.2.2.2.2).trans QX.out.2.2.2.2.2
                  clear hS
                  go_simp
                  with_reducible rfl
                rotate_left
                · simp only [Act.put, List.setIfInBounds_toArray, List.set_cons_zero, List.set_cons_succ, i64_w, i32_w]
                  rfl
                refine take_ (i := 5) (N := some 140) (v := ?_) (a' := ?_) #[true, true, true, true, true, true, false, false, false, false, false, false, false, false, false, false, false, false, false, false, false] rfl rfl (take_ofW HT_.out HW_.out (by kernel_rfl)) (fun _ _ _ h => h) (Or.inl ⟨by rfl, ?_⟩) hHeld ?_ ?_
                rotate_left
                · rintro w' hS
                  have s0 := (hS.cell LX.out.1).trans QX.out.1
                  have s1 := (hS.cell LX.out.2.1).trans QX.out.2.1
                  have s2 := (hS.cell LX.out.2.2.1).trans QX.out.2.2.1
                  have s3 := (hS.cell LX.out.2.2.2.1).trans QX.out.2.2.2.1
                  have s4 := (hS.cell LX.out.2.2.2.2.1).trans QX.out.2.2.2.2.1
                  have s5 := (hS.cell LX.out.2.2.2.2.2).trans QX.out.2.2.2.2.2
                  clear hS
                  go_simp
                  with_reducible rfl
                rotate_left
                · simp only [Act.put, List.setIfInBounds_toArray, List.set_cons_zero, List.set_cons_succ, i64_w, i32_w]
                  rfl
                refine take_ (i := 6) (N := some 141) (v := ?_) (a' := ?_) #[true, true, true, true, true, true, true, false, false, false, false, false, false, false, false, false, false, false, false, false, false] rfl rfl (take_ofW HT_.out HW_.out (by kernel_rfl)) (fun _ _ _ h => h) (Or.inl ⟨by rfl, ?_⟩) hHeld ?_ ?_
                rotate_left
                · rintro w' hS
                  have s0 := (hS.cell LX.out.1).trans QX.out.1
                  have s1 := (hS.cell LX.out.2.1).trans QX.out.2.1
                  have s2 := (hS.cell LX.out.2.2.1).trans QX.out.2.2.1
                  have s3 := (hS.cell LX.out.2.2.2.1).trans QX.out.2.2.2.1
                  have s4 := (hS.cell LX.out.2.2.2.2.1).trans QX.out.2.2.2.2.1
                  have s5 := (hS.cell LX.out.2.2.2.2.2).trans QX.out.2.2.2.2.2
                  clear hS
                  go_simp
                  with_reducible rfl
                rotate_left
                · simp only [Act.put, List.setIfInBounds_toArray, List.set_cons_zero, List.set_cons_succ, i64_w, i32_w]
                  rfl
                refine take_ (i := 7) (N := some 142) (v := ?_) (a' := ?_) #[true, true, true, true, true, true, true, true, false, false, false, false, false, false, false, false, false, false, false, false, false] rfl rfl (take_ofW HT_.out HW_.out (by kernel_rfl)) (fun _ _ _ h => h) (Or.inl ⟨by rfl, ?_⟩) hHeld ?_ ?_
                rotate_left
                · rintro w' hS
                  have s0 := (hS.cell LX.out.1).trans QX.out.1
                  have s1 := (hS.cell LX.out.2.1).trans QX.out.2.1
                  have s2 := (hS.cell LX.out.2.2.1).trans QX.out.2.2.1
                  have s3 := (hS.cell LX.out.2.2.2.1).trans QX.out.2.2.2.1
                  have s4 := (hS.cell LX.out.2.2.2.2.1).trans QX.out.2.2.2.2.1
                  have s5 := (hS.cell LX.out.2.2.2.2.2).trans QX.out.2.2.2.2.2
                  clear hS
                  go_simp
                  with_reducible rfl
                rotate_left
                · simp only [Act.put, List.setIfInBounds_toArray, List.set_cons_zero, List.set_cons_succ, i64_w, i32_w]
                  rfl
                refine take_ (i := 8) (N := some 143) (v := ?_) (a' := ?_) #[true, true, true, true, true, true, true, true, true, false, false, false, false, false, false, false, false, false, false, false, false] rfl rfl (take_ofW HT_.out HW_.out (by kernel_rfl)) (fun _ _ _ h => h) (Or.inl ⟨by rfl, ?_⟩) hHeld ?_ ?_
                rotate_left
                · rintro w' hS
                  have s0 := (hS.cell LX.out.1).trans QX.out.1
                  have s1 := (hS.cell LX.out.2.1).trans QX.out.2.1
                  have s2 := (hS.cell LX.out.2.2.1).trans QX.out.2.2.1
                  have s3 := (hS.cell LX.out.2.2.2.1).trans QX.out.2.2.2.1
                  have s4 := (hS.cell LX.out.2.2.2.2.1).trans QX.out.2.2.2.2.1
                  have s5 := (hS.cell LX.out.2.2.2.2.2).trans QX.out.2.2.2.2.2
                  clear hS
                  go_simp
                  with_reducible rfl
                rotate_left
                · simp only [Act.put, List.setIfInBounds_toArray, List.set_cons_zero, List.set_cons_succ, i64_w, i32_w]
                  rfl
                refine take_ (i := 9) (N := some 144) (v := ?_) (a' := ?_) #[true, true, true, true, true, true, true, true, true, true, false, false, false, false, false, false, false, false, false, false, false] rfl rfl (take_ofW HT_.out HW_.out (by kernel_rfl)) (fun _ _ _ h => h) (Or.inl ⟨by rfl, ?_⟩) hHeld ?_ ?_
                rotate_left
                · rintro w' hS
                  have s0 := (hS.cell LX.out.1).trans QX.out.1
                  have s1 := (hS.cell LX.out.2.1).trans QX.out.2.1
                  have s2 := (hS.cell LX.out.2.2.1).trans QX.out.2.2.1
                  have s3 := (hS.cell LX.out.2.2.2.1).trans QX.out.2.2.2.1
                  have s4 := (hS.cell LX.out.2.2.2.2.1).trans QX.out.2.2.2.2.1
                  have s5 := (hS.cell LX.out.2.2.2.2.2).trans QX.out.2.2.2.2.2
                  clear hS
                  go_simp
                  with_reducible rfl
                rotate_left
                · simp only [Act.put, List.setIfInBounds_toArray, List.set_cons_zero, List.set_cons_succ, i64_w, i32_w]
                  rfl
                refine take_ (i := 10) (N := some 145) (v := ?_) (a' := ?_) #[true, true, true, true, true, true, true, true, true, true, true, false, false, false, false, false, false, false, false, false, false] rfl rfl (take_ofW HT_.out HW_.out (by kernel_rfl)) (fun _ _ _ h => h) (Or.inl ⟨by rfl, ?_⟩) hHeld ?_ ?_
                rotate_left
                · rintro w' hS
                  have s0 := (hS.cell LX.out.1).trans QX.out.1
                  have s1 := (hS.cell LX.out.2.1).trans QX.out.2.1
                  have s2 := (hS.cell LX.out.2.2.1).trans QX.out.2.2.1
                  have s3 := (hS.cell LX.out.2.2.2.1).trans QX.out.2.2.2.1
                  have s4 := (hS.cell LX.out.2.2.2.2.1).trans QX.out.2.2.2.2.1
                  have s5 := (hS.cell LX.out.2.2.2.2.2).trans QX.out.2.2.2.2.2
                  clear hS
                  go_simp
                  with_reducible rfl
                rotate_left
                · simp only [Act.put, List.setIfInBounds_toArray, List.set_cons_zero, List.set_cons_succ, i64_w, i32_w]
                  rfl
                refine take_ (i := 11) (N := some 146) (v := ?_) (a' := ?_) #[true, true, true, true, true, true, true, true, true, true, true, true, false, false, false, false, false, false, false, false, false] rfl rfl (take_ofW HT_.out HW_.out (by kernel_rfl)) (fun _ _ _ h => h) (Or.inl ⟨by rfl, ?_⟩) hHeld ?_ ?_
                rotate_left
                · rintro w' hS
                  have s0 := (hS.cell LX.out.1).trans QX.out.1
                  have s1 := (hS.cell LX.out.2.1).trans QX.out.2.1
                  have s2 := (hS.cell LX.out.2.2.1).trans QX.out.2.2.1
                  have s3 := (hS.cell LX.out.2.2.2.1).trans QX.out.2.2.2.1
                  have s4 := (hS.cell LX.out.2.2.2.2.1).trans QX.out.2.2.2.2.1
                  have s5 := (hS.cell LX.out.2.2.2.2.2).trans QX.out.2.2.2.2.2
                  clear hS
                  go_simp
                  with_reducible rfl
                rotate_left
                · simp only [Act.put, List.setIfInBounds_toArray, List.set_cons_zero, List.set_cons_succ, i64_w, i32_w]
                  rfl
                refine take_ (i := 12) (N := some 147) (v := ?_) (a' := ?_) #[true, true, true, true, true, true, true, true, true, true, true, true, true, false, false, false, false, false, false, false, false] rfl rfl (take_ofW HT_.out HW_.out (by kernel_rfl)) (fun _ _ _ h => h) (Or.inl ⟨by rfl, ?_⟩) hHeld ?_ ?_
                rotate_left
                · rintro w' hS
                  have s0 := (hS.cell LX.out.1).trans QX.out.1
                  have s1 := (hS.cell LX.out.2.1).trans QX.out.2.1
                  have s2 := (hS.cell LX.out.2.2.1).trans QX.out.2.2.1
                  have s3 := (hS.cell LX.out.2.2.2.1).trans QX.out.2.2.2.1
                  have s4 := (hS.cell LX.out.2.2.2.2.1).trans QX.out.2.2.2.2.1
                  have s5 := (hS.cell LX.out.2.2.2.2.2).trans QX.out.2.2.2.2.2
                  clear hS
                  go_simp
                  with_reducible rfl
                rotate_left
                · simp only [Act.put, List.setIfInBounds_toArray, List.set_cons_zero, List.set_cons_succ, i64_w, i32_w]
                  rfl
                refine take_ (i := 13) (N := some 148) (v := ?_) (a' := ?_) #[true, true, true, true, true, true, true, true, true, true, true, true, true, true, false, false, false, false, false, false, false] rfl rfl (take_ofW HT_.out HW_.out (by kernel_rfl)) (fun _ _ _ h => h) (Or.inl ⟨by rfl, ?_⟩) hHeld ?_ ?_
                rotate_left
                · rintro w' hS
                  have s0 := (hS.cell LX.out.1).trans QX.out.1
                  have s1 := (hS.cell LX.out.2.1).trans QX.out.2.1
                  have s2 := (hS.cell LX.out.2.2.1).trans QX.out.2.2.1
                  have s3 := (hS.cell LX.out.2.2.2.1).trans QX.out.2.2.2.1
                  have s4 := (hS.cell LX.out.2.2.2.2.1).trans QX.out.2.2.2.2.1
                  have s5 := (hS.cell LX.out.2.2.2.2.2).trans QX.out.2.2.2.2.2
                  clear hS
                  go_simp
                  with_reducible rfl
                rotate_left
                · simp only [Act.put, List.setIfInBounds_toArray, List.set_cons_zero, List.set_cons_succ, i64_w, i32_w]
                  rfl
                refine take_ (i := 14) (N := some 149) (v := ?_) (a' := ?_) #[true, true, true, true, true, true, true, true, true, true, true, true, true, true, true, false, false, false, false, false, false] rfl rfl (take_ofW HT_.out HW_.out (by kernel_rfl)) (fun _ _ _ h => h) (Or.inl ⟨by rfl, ?_⟩) hHeld ?_ ?_
                rotate_left
                · rintro w' hS
                  have s0 := (hS.cell LX.out.1).trans QX.out.1
                  have s1 := (hS.cell LX.out.2.1).trans QX.out.2.1
                  have s2 := (hS.cell LX.out.2.2.1).trans QX.out.2.2.1
                  have s3 := (hS.cell LX.out.2.2.2.1).trans QX.out.2.2.2.1
                  have s4 := (hS.cell LX.out.2.2.2.2.1).trans QX.out.2.2.2.2.1
                  have s5 := (hS.cell LX.out.2.2.2.2.2).trans QX.out.2.2.2.2.2
                  clear hS
                  go_simp
                  with_reducible rfl
                rotate_left
                · simp only [Act.put, List.setIfInBounds_toArray, List.set_cons_zero, List.set_cons_succ, i64_w, i32_w]
                  rfl
                refine take_ (i := 15) (N := some 150) (v := ?_) (a' := ?_) #[true, true, true, true, true, true, true, true, true, true, true, true, true, true, true, true, false, false, false, false, false] rfl rfl (take_ofW HT_.out HW_.out (by kernel_rfl)) (fun _ _ _ h => h) (Or.inl ⟨by rfl, ?_⟩) hHeld ?_ ?_
                rotate_left
                · rintro w' hS
                  have s0 := (hS.cell LX.out.1).trans QX.out.1
                  have s1 := (hS.cell LX.out.2.1).trans QX.out.2.1
                  have s2 := (hS.cell LX.out.2.2.1).trans QX.out.2.2.1
                  have s3 := (hS.cell LX.out.2.2.2.1).trans QX.out.2.2.2.1
                  have s4 := (hS.cell LX.out.2.2.2.2.1).trans QX.out.2.2.2.2.1
                  have s5 := (hS.cell LX.out.2.2.2.2.2).trans QX.out.2.2.2.2.2
                  clear hS
                  go_simp
                  with_reducible rfl
                rotate_left
                · simp only [Act.put, List.setIfInBounds_toArray, List.set_cons_zero, List.set_cons_succ, i64_w, i32_w]
                  rfl
                refine take_ (i := 16) (N := some 151) (v := ?_) (a' := ?_) #[true, true, true, true, true, true, true, true, true, true, true, true, true, true, true, true, true, false, false, false, false] rfl rfl (take_ofW HT_.out HW_.out (by kernel_rfl)) (fun _ _ _ h => h) (Or.inl ⟨by rfl, ?_⟩) hHeld ?_ ?_
                rotate_left
                · rintro w' hS
                  have s0 := (hS.cell LX.out.1).trans QX.out.1
                  have s1 := (hS.cell LX.out.2.1).trans QX.out.2.1
                  have s2 := (hS.cell LX.out.2.2.1).trans QX.out.2.2.1
                  have s3 := (hS.cell LX.out.2.2.2.1).trans QX.out.2.2.2.1
                  have s4 := (hS.cell LX.out.2.2.2.2.1).trans QX.out.2.2.2.2.1
                  have s5 := (hS.cell LX.out.2.2.2.2.2).trans QX.out.2.2.2.2.2
                  clear hS
                  go_simp
                  with_reducible rfl
                rotate_left
                · simp only [Act.put, List.setIfInBounds_toArray, List.set_cons_zero, List.set_cons_succ, i64_w, i32_w]
                  rfl
                refine take_ (i := 17) (N := some 152) (v := ?_) (a' := ?_) #[true, true, true, true, true, true, true, true, true, true, true, true, true, true, true, true, true, true, false, false, false] rfl rfl (take_ofW HT_.out HW_.out (by kernel_rfl)) (fun _ _ _ h => h) (Or.inl ⟨by rfl, ?_⟩) hHeld ?_ ?_
                rotate_left
                · rintro w' hS
                  have s0 := (hS.cell LX.out.1).trans QX.out.1
                  have s1 := (hS.cell LX.out.2.1).trans QX.out.2.1
                  have s2 := (hS.cell LX.out.2.2.1).trans QX.out.2.2.1
                  have s3 := (hS.cell LX.out.2.2.2.1).trans QX.out.2.2.2.1
                  have s4 := (hS.cell LX.out.2.2.2.2.1).trans QX.out.2.2.2.2.1
                  have s5 := (hS.cell LX.out.2.2.2.2.2).trans QX.out.2.2.2.2.2
                  clear hS
                  go_simp
                  with_reducible rfl
                rotate_left
                · simp only [Act.put, List.setIfInBounds_toArray, List.set_cons_zero, List.set_cons_succ, i64_w, i32_w]
                  rfl
                refine one_ (i := 18) (N := some 153) #[true, true, true, true, true, true, true, true, true, true, true, true, true, true, true, true, true, true, true, false, false] rfl rfl (one_of HT_.out (by kernel_rfl)) (by decide) (fun K hK => ?_)
                refine goes_ Try.func42 (by kernel_rfl) rfl #[.slice A0 nw c0, .slice A00 nw c00] (by rfl) rfl rfl (by (try simp only [List.map_toArray, List.map_cons, List.map_nil]); first | done | rfl) ?_
                refine (same_n A0 c0 rw_ A00 c00 nw HNW.out _ (by have := HNW3.out; omega) (Kd.C_below HC0.out hHeld) (Kd.C_below HC00.out hHeld)).mono ?_
                rintro e w9 ⟨rfl, hb9⟩
                refine ⟨_, rfl, hK.out _ _ (hHeld.trans (hb9.mono hHeld.size)) ?_⟩
                clear hHeld hb9
                intro hHeld
                clear hK K
                refine norm_ (a' := ?_) ?_ ?_
                rotate_left
                · show Act.put _ (some 153) _ = _
                  simp only [Act.put, List.setIfInBounds_toArray, List.set_cons_zero, List.set_cons_succ, i64_w, i32_w]
                  rfl
                refine take_ (i := 19) (N := some 154) (v := ?_) (a' := ?_) #[true, true, true, true, true, true, true, true, true, true, true, true, true, true, true, true, true, true, true, true, false] rfl rfl (take_ofW HT_.out HW_.out (by kernel_rfl)) (fun _ _ _ h => h) (Or.inl ⟨by rfl, ?_⟩) hHeld ?_ ?_
                rotate_left
                · rintro w' hS
                  have s0 := (hS.cell LX.out.1).trans QX.out.1
                  have s1 := (hS.cell LX.out.2.1).trans QX.out.2.1
                  have s2 := (hS.cell LX.out.2.2.1).trans QX.out.2.2.1
                  have s3 := (hS.cell LX.out.2.2.2.1).trans QX.out.2.2.2.1
                  have s4 := (hS.cell LX.out.2.2.2.2.1).trans QX.out.2.2.2.2.1
                  have s5 := (hS.cell LX.out.2.2.2.2.2).trans QX.out.2.2.2.2.2
                  clear hS
                  go_simp
                  with_reducible rfl
                rotate_left
                · simp only [Act.put, List.setIfInBounds_toArray, List.set_cons_zero, List.set_cons_succ, i64_w, i32_w]
                  rfl
                refine take_ (i := 20) (N := some 155) (v := ?_) (a' := ?_) #[true, true, true, true, true, true, true, true, true, true, true, true, true, true, true, true, true, true, true, true, true] rfl rfl (take_ofW HT_.out HW_.out (by kernel_rfl)) (fun _ _ _ h => h) (Or.inl ⟨by rfl, ?_⟩) hHeld ?_ ?_
                rotate_left
                · rintro w' hS
                  have s0 := (hS.cell LX.out.1).trans QX.out.1
                  have s1 := (hS.cell LX.out.2.1).trans QX.out.2.1
                  have s2 := (hS.cell LX.out.2.2.1).trans QX.out.2.2.1
                  have s3 := (hS.cell LX.out.2.2.2.1).trans QX.out.2.2.2.1
                  have s4 := (hS.cell LX.out.2.2.2.2.1).trans QX.out.2.2.2.2.1
                  have s5 := (hS.cell LX.out.2.2.2.2.2).trans QX.out.2.2.2.2.2
                  clear hS
                  go_simp
                  with_reducible rfl
                rotate_left
                · simp only [Act.put, List.setIfInBounds_toArray, List.set_cons_zero, List.set_cons_succ, i64_w, i32_w]
                  rfl
                refine done_ (done_of HT_.out (by kernel_rfl)) ?_
                clear HT_ HW_
                go_wp2_with fail
                go_roundw
                case rel => exact ⟨jn + 1, by omega, by go_num, ⟨KB.out.trans (hHeld.mono KB.out.size)⟩, ⟨Kd.C_below HL.out hHeld⟩, ⟨Kd.C_below HRR.out hHeld⟩, ⟨Kd.C_below HL2.out hHeld⟩, ⟨Kd.C_below HRR2.out hHeld⟩⟩
                case measure => simp [intOf]; omega
            · have hj6 : decide ((jn : Int) < (n0 : Int)) = false := decide_eq_false (by omega)
              go_wp2_with fail
              refine (awake_calls _).mono ?_
              rintro e w91 ⟨rfl, hb91⟩
              replace KB := Aside0.mk (KB.out.trans (hb91.mono KB.out.size))
              clear hb91
              go_wp2_with fail
              go_ret
              exact ⟨rfl, KB.out⟩
end Go.Proofs.Ytkglggggmlnleaa.Print
