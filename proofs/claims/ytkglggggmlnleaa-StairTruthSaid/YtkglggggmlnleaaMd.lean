/- The middle of a history. -/
import Derived.Test.YtkglggggmlnleaaPo
namespace Go.Proofs.Ytkglggggmlnleaa.Print
open Go.RowKit Go.Proofs.YtkglggggmlnleaaW.PrintWords Go.Proofs.YtkglggggmlnleaaW.PrintLast Go.Proofs.YtkglggggmlnleaaW.PrintMore
set_option linter.unusedVariables false
set_option linter.unusedSimpArgs false
def f47.T9 : Bool × List (List Nat × List Nat) := (true, [([], []), ([], []), ([1, 0], [0, 1]), ([2], [2]), ([3], [3]), ([4], [4]), ([], []), ([], []), ([7, 6], [6, 7]), ([8], [8]), ([9], [9]), ([], []), ([10, 11], [10, 11]), ([5, 12], [5, 12]), ([3, 0, 1, 2, 3, 4, 5, 6, 7, 8, 9, 10, 11, 12, 13], [3]), ([14, 13, 0, 1, 2, 3, 4, 5, 6, 7, 8, 9, 10, 11, 12, 13], [13, 14])])
def f47.B9 : List Nat := [0, 0, 3, 7, 15, 31, 0, 0, 192, 448, 960, 0, 4032, 8191, 16383, 32767]
theorem f47.tab9 : rtab .any (opsOf Try.f47 9) = f47.T9 := by kernel_rfl
theorem f47.bits9 : waitsOk f47.T9.2 f47.B9 = true := by kernel_rfl
def f47.T16 : Bool × List (List Nat × List Nat) := (true, [([], []), ([0], [0]), ([1], [1]), ([2], [2]), ([], []), ([4], [4]), ([5], [5]), ([3, 0, 1, 2, 3], [3]), ([6, 7, 0, 1, 2, 3, 4, 5, 6, 7], [6])])
def f47.B16 : List Nat := [0, 1, 3, 7, 0, 16, 48, 15, 255]
theorem f47.tab16 : rtab .any (opsOf Try.f47 16) = f47.T16 := by kernel_rfl
theorem f47.bits16 : waitsOk f47.T16.2 f47.B16 = true := by kernel_rfl
def cntR (r : Nat) (h : List (Int × Int)) : Int := ((h.filter fun p => decide (p.1 = (r : Int))).length : Nat)
def sideI (d : Int) : Int := if d = 1 then 1 else -1
def sumR (r : Nat) (h : List (Int × Int)) : Int := ((h.filter fun p => decide (p.1 = (r : Int))).map fun p => 2 * p.2 + sideI p.1).sum
/-- Three cells. -/
def threeC (m : Nat → Int) : Array Value := #[.int .i64 (m 0), .int .i64 (m 1), .int .i64 (m 2)]
theorem threeC_get (m : Nat → Int) (d : Nat) (hd : d < 3) : (threeC m)[d]? = some (.int .i64 (m d)) := by
  match d, hd with
  | 0, _ => rfl
  | 1, _ => rfl
  | 2, _ => rfl
theorem threeC_set (m : Nat → Int) (d : Nat) (hd : d < 3) (v : Int) (m' : Nat → Int) (h1 : m' d = v) (h2 : ∀ r, r < 3 → r ≠ d → m' r = m r) : (threeC m).setIfInBounds d (.int .i64 v) = threeC m' := by
  match d, hd with
  | 0, _ => simp [threeC, ← h1, h2 1 (by decide) (by decide), h2 2 (by decide) (by decide)]
  | 1, _ => simp [threeC, ← h1, h2 0 (by decide) (by decide), h2 2 (by decide) (by decide)]
  | 2, _ => simp [threeC, ← h1, h2 0 (by decide) (by decide), h2 1 (by decide) (by decide)]
theorem hcells_len (L st : Int) (A : Option Addr) (n c : Nat) (h : List (Int × Int)) (hh : h.length ≤ 14) : (hcells L st A n c h).length = 31 := by
  simp [hcells, pad]; omega
theorem hcells_did (L st : Int) (A : Option Addr) (n c : Nat) (h : List (Int × Int)) (i : Nat) (hi : i < h.length) (hh : h.length ≤ 14) : (hcells L st A n c h).toArray[3 + i]? = some (.int .u8 h[i].1) := by
  simp only [List.getElem?_toArray, hcells, List.append_assoc]
  rw [List.getElem?_append_right (by simp)]
  have e : 3 + i - ([.int .i64 L, .int .i64 st, .slice A n c] : List Value).length = i := by simp
  rw [e, List.getElem?_append_left (by simp [pad]; omega), List.getElem?_map]
  simp [pad, List.getElem?_append_left, hi]
theorem hcells_level (L st : Int) (A : Option Addr) (n c : Nat) (h : List (Int × Int)) (i : Nat) (hi : i < h.length) (hh : h.length ≤ 14) : (hcells L st A n c h).toArray[17 + i]? = some (.int .i64 h[i].2) := by
  simp only [List.getElem?_toArray, hcells]
  rw [List.getElem?_append_right (by simp [pad]; omega)]
  have e : 17 + i - (([.int .i64 L, .int .i64 st, .slice A n c] : List Value) ++ (pad (h.map fun q => q.1)).map (Value.int .u8)).length = i := by simp [pad]; omega
  rw [e, List.getElem?_map]
  simp [pad, List.getElem?_append_left, hi]
/-- The middle of a history, as the program finds it. -/
def midOf (h : List (Int × Int)) (ev : Nat) : Int :=
  if 500 * sumR ev h < 0 then -((cntR ev h - 1 - 500 * sumR ev h).tdiv (cntR ev h)) else (500 * sumR ev h).tdiv (cntR ev h)
def midI (h : List (Int × Int)) : Int × Bool :=
  let ev := if cntR 1 h < cntR 0 h then 1 else 0
  if cntR ev h = 0 then (0, false) else (midOf h ev, true)
theorem midI_1 {h : List (Int × Int)} (hl : cntR 1 h < cntR 0 h) : midI h = if cntR 1 h = 0 then (0, false) else (midOf h 1, true) := by
  unfold midI
  simp only [if_pos hl]
theorem midI_0 {h : List (Int × Int)} (hl : ¬ cntR 1 h < cntR 0 h) : midI h = if cntR 0 h = 0 then (0, false) else (midOf h 0, true) := by
  unfold midI
  simp only [if_neg hl]
theorem wrap_tdiv (x m : Int) (h0 : 0 ≤ x) (h1 : x ≤ 1000000) (hm : 0 < m) : wrap64 (x.tdiv m) = x.tdiv m ∧ 0 ≤ x.tdiv m ∧ x.tdiv m ≤ x := by
  have e : x.tdiv m = x / m := Int.tdiv_eq_ediv_of_nonneg h0
  have a : 0 ≤ x / m := Int.ediv_nonneg h0 (by omega)
  have b : x / m ≤ x := Int.ediv_le_self m h0
  rw [e]
  refine ⟨?_, a, b⟩
  unfold wrap64
  omega
theorem cntR_take (h : List (Int × Int)) (j r : Nat) (hj : j < h.length) : cntR r (h.take (j + 1)) = cntR r (h.take j) + if h[j].1 = (r : Int) then 1 else 0 := by
  unfold cntR
  rw [List.take_add_one, List.getElem?_eq_getElem hj, List.filter_append]
  by_cases e : h[j].1 = (r : Int) <;> simp [e]
theorem sumR_take (h : List (Int × Int)) (j r : Nat) (hj : j < h.length) : sumR r (h.take (j + 1)) = sumR r (h.take j) + if h[j].1 = (r : Int) then 2 * h[j].2 + sideI h[j].1 else 0 := by
  unfold sumR
  rw [List.take_add_one, List.getElem?_eq_getElem hj, List.filter_append]
  by_cases e : h[j].1 = (r : Int) <;> simp [e]
theorem cntR_bound (r : Nat) (h : List (Int × Int)) : 0 ≤ cntR r h ∧ cntR r h ≤ h.length := by
  unfold cntR
  have := List.length_filter_le (fun p : Int × Int => decide (p.1 = (r : Int))) h
  omega
theorem sumR_bound (r : Nat) : ∀ (h : List (Int × Int)), (∀ p ∈ h, 0 ≤ p.2 ∧ p.2 ≤ 8) → -(17 * h.length) ≤ sumR r h ∧ sumR r h ≤ 17 * h.length
  | [], _ => by simp [sumR]
  | p :: h, hh => by
    have ih := sumR_bound r h (fun q hq => hh q (by simp [hq]))
    have hp := hh p (by simp)
    unfold sumR at ih ⊢
    have hs : -1 ≤ sideI p.1 ∧ sideI p.1 ≤ 1 := by unfold sideI; split <;> omega
    by_cases e : p.1 = (r : Int)
    · simp [e] at ih ⊢
      rw [e] at hs
      omega
    · simp [e] at ih ⊢
      omega

set_option maxHeartbeats 4000000 in
set_option maxRecDepth 100000 in
theorem mid_calls (L st : Int) (A : Option Addr) (c : Nat) (h : List (Int × Int)) (w : World) (h14 : h.length ≤ 14) (hd : ∀ p ∈ h, (0 ≤ p.1 ∧ p.1 ≤ 2) ∧ 0 ≤ p.2 ∧ p.2 ≤ 8) :
    Calls Try.prog 47 #[hval L st A h.length c h] w fun e w' => e = .returned (.tuple #[.int .i64 (midI h).1, .bool (midI h).2]) ∧ Below w.heap.size w w' := by
  have hu34 := Try.underlying34
  have hu88 := Try.underlying88
  have hu85 := Try.underlying85
  have hu86 := Try.underlying86
  have hu91 := Try.underlying91
  obtain ⟨cs, hcs⟩ : ∃ cs, (hcells L st A h.length c h).toArray = cs := ⟨_, rfl⟩
  have hsz : cs.size = 31 := by rw [← hcs]; simp [hcells_len L st A h.length c h h14]
  have HCS := Aside0.mk hcs
  have HD := Aside0.mk hd
  unfold hval
  rw [hcs]
  clear hcs hd
  have q2 : cs[2]? = some (.slice A h.length c) := by rw [← HCS.out]; rfl
  have HSZ := Aside0.mk hsz
  clear hsz
  go_enter Try.func47, Try.ntmps47
  go_wp2_with fail
  have HM0 : Aside0 ((((w.alloc (.cells cs 88)).alloc (.cells (threeC fun r => cntR r (h.take 0)) 91)).alloc (.cells (threeC fun r => sumR r (h.take 0)) 91)).heap[w.heap.size]? = some (.cells cs 88 (0, 0))) := ⟨blk_alloc (blk_alloc (new_at rfl) _) _⟩
  go_loopw [15] (fun j wr => ∃ jn : Nat, jn ≤ h.length ∧ j = .int .i64 jn ∧ Aside0 (Below w.heap.size w wr ∧ wr.heap[w.heap.size]? = some (.cells cs 88 (0, 0)) ∧ wr.heap[w.heap.size + 1]? = some (.cells (threeC fun r => cntR r (h.take jn)) 91 (0, 0)) ∧ wr.heap[w.heap.size + 2]? = some (.cells (threeC fun r => sumR r (h.take jn)) 91 (0, 0)))) (fun j _ => h.length - (intOf j).toNat)
  case atStart =>
    refine ⟨0, by omega, rfl, ⟨(((Below.refl _ w).alloc (by simp) _).alloc (by simp; try omega) _).alloc (by simp; try omega) _, ?_, ?_, ?_⟩⟩
    · exact blk_alloc (blk_alloc (new_at rfl) _) _
    · exact blk_alloc (new_at (by simp)) _
    · exact new_at (by simp)
  case round =>
    obtain ⟨jn, hj, rfl, hm⟩ := hrel
    clear HM0
    by_cases hj3 : jn < h.length
    · have hj4 : (jn : Int) < (h.length : Int) := by omega
      have hj5 : (0 : Int) ≤ (jn : Int) := by omega
      have hj6 : decide ((jn : Int) < (h.length : Int)) = true := decide_eq_true hj4
      have hj7 : (jn : Int) < 14 := by omega
      obtain ⟨⟨dn, hdn⟩, hd2, hv1, hv2⟩ : (∃ dn : Nat, h[jn].1 = dn) ∧ h[jn].1 ≤ 2 ∧ 0 ≤ h[jn].2 ∧ h[jn].2 ≤ 8 := by
        have := HD.out h[jn] (List.getElem_mem hj3)
        exact ⟨⟨h[jn].1.toNat, by omega⟩, by omega, by omega, by omega⟩
      have hd3 : dn < 3 := by omega
      have p1 : wr.cell? ⟨w.heap.size, 3 + jn, none⟩ = some (.int .u8 h[jn].1) := (blk_cell hm.out.2.1 (3 + jn)).trans (by rw [← HCS.out]; exact hcells_did L st A h.length c h jn hj3 h14)
      have p2 : wr.cell? ⟨w.heap.size, 17 + jn, none⟩ = some (.int .i64 h[jn].2) := (blk_cell hm.out.2.1 (17 + jn)).trans (by rw [← HCS.out]; exact hcells_level L st A h.length c h jn hj3 h14)
      have p3 : wr.cell? ⟨w.heap.size + 1, dn, none⟩ = some (.int .i64 (cntR dn (h.take jn))) := (blk_cell hm.out.2.2.1 dn).trans (threeC_get _ dn hd3)
      have p4 := blk_frozen hm.out.2.2.1 dn
      rw [hdn] at p1
      obtain ⟨v, hv⟩ : ∃ v, h[jn].2 = v := ⟨_, rfl⟩
      obtain ⟨mn, hmn⟩ : ∃ mn, cntR dn (h.take jn) = mn := ⟨_, rfl⟩
      obtain ⟨sn, hsn⟩ : ∃ sn, sumR dn (h.take jn) = sn := ⟨_, rfl⟩
      have bm := cntR_bound dn (h.take jn)
      have bs := sumR_bound dn (h.take jn) (fun p hp => (HD.out p (List.mem_of_mem_take hp)).2)
      simp only [List.length_take] at bm bs
      rw [hmn] at p3 bm
      rw [hsn] at bs
      rw [hv] at p2 hv1 hv2
      have e1 : wrap64 (mn + 1) = mn + 1 := by unfold wrap64; omega
      have hdc : (dn : Int) < 3 := by omega
      have hdc0 : (0 : Int) ≤ (dn : Int) := by omega
      by_cases hd1 : dn = 1
      · have hd1b : ((dn : Int) == 1) = true := beq_iff_eq.2 (by omega)
        have HDN := Aside0.mk hd1
        clear hd1
        go_wp2_with fail
        have HM8 : Aside0 (w.heap.size < (wr.setCell ⟨w.heap.size + 1, dn, none⟩ (.int .i64 (mn + 1))).heap.size ∧ (wr.setCell ⟨w.heap.size + 1, dn, none⟩ (.int .i64 (mn + 1))).cell? ⟨w.heap.size, 3 + jn, none⟩ = some (.int .u8 dn) ∧ (wr.setCell ⟨w.heap.size + 1, dn, none⟩ (.int .i64 (mn + 1))).cell? ⟨w.heap.size, 17 + jn, none⟩ = some (.int .i64 v) ∧
            w.heap.size + 1 + 1 < (wr.setCell ⟨w.heap.size + 1, dn, none⟩ (.int .i64 (mn + 1))).heap.size ∧ (wr.setCell ⟨w.heap.size + 1, dn, none⟩ (.int .i64 (mn + 1))).cell? ⟨w.heap.size + 1 + 1, dn, none⟩ = some (.int .i64 sn) ∧ (wr.setCell ⟨w.heap.size + 1, dn, none⟩ (.int .i64 (mn + 1))).frozen? ⟨w.heap.size + 1 + 1, dn, none⟩ = false) := by
          have z0 := blk_far hm.out.2.1 (p := ⟨w.heap.size + 1, dn, none⟩) (by show w.heap.size ≠ w.heap.size + 1; omega) (.int .i64 (mn + 1))
          have z2 := blk_far hm.out.2.2.2 (p := ⟨w.heap.size + 1, dn, none⟩) (by show w.heap.size + 2 ≠ w.heap.size + 1; omega) (.int .i64 (mn + 1))
          refine ⟨blk_lt z0, (blk_cell z0 _).trans ?_, (blk_cell z0 _).trans ?_, blk_lt z2, (blk_cell z2 dn).trans ((threeC_get _ dn hd3).trans (by simp only [hsn])), blk_frozen z2 dn⟩
          · rw [← HCS.out, hcells_did L st A h.length c h jn hj3 h14, hdn]
          · rw [← HCS.out, hcells_level L st A h.length c h jn hj3 h14, hv]
        generalize hw8 : wr.setCell ⟨w.heap.size + 1, dn, none⟩ (.int .i64 (mn + 1)) = w8 at HM8 ⊢
        have HW8 := Aside0.mk hw8
        clear hw8 p1 p2 p3 p4
        have e2 : wrap64 (2 * v) = 2 * v := by unfold wrap64; omega
        have e3 : wrap64 (2 * v + 1) = 2 * v + 1 := by unfold wrap64; omega
        have e4 : wrap64 (sn + (2 * v + 1)) = sn + (2 * v + 1) := by unfold wrap64; omega
        refine start_ (n := 16) (S := (Below w8.heap.size w8)) (ds := [15]) #[false, false, false, false, false, false, false, false, false, false, false, false, false, false, false, false] (by kernel_rfl) rfl rfl ((Below.refl _ _).drew) (fun hHeld => ?_)
        refine with_tabW f47.tab9 f47.bits9 (fun HT_ HW_ => ?_)
        refine take_ (i := 0) (N := some 31) (v := ?_) (a' := ?_) #[true, false, false, false, false, false, false, false, false, false, false, false, false, false, false, false] rfl rfl (take_ofW HT_.out HW_.out (by kernel_rfl)) (fun _ _ _ h => h) (Or.inl ⟨by rfl, ?_⟩) hHeld ?_ ?_
        rotate_left
        · rintro w' hS
          have s0 := (hS.cell (p := ⟨w.heap.size, 3 + jn, none⟩) HM8.out.1).trans HM8.out.2.1
          have s1 := (hS.cell (p := ⟨w.heap.size, 17 + jn, none⟩) HM8.out.1).trans HM8.out.2.2.1
          have s2 := (hS.cell (p := ⟨w.heap.size + 1 + 1, dn, none⟩) HM8.out.2.2.2.1).trans HM8.out.2.2.2.2.1
          clear hS
          go_simp
          with_reducible rfl
        rotate_left
        · simp only [Act.put, List.setIfInBounds_toArray, List.set_cons_zero, List.set_cons_succ, i64_w, i32_w]
          rfl
        refine take_ (i := 1) (N := some 32) (v := ?_) (a' := ?_) #[true, true, false, false, false, false, false, false, false, false, false, false, false, false, false, false] rfl rfl (take_ofW HT_.out HW_.out (by kernel_rfl)) (fun _ _ _ h => h) (Or.inl ⟨by rfl, ?_⟩) hHeld ?_ ?_
        rotate_left
        · rintro w' hS
          have s0 := (hS.cell (p := ⟨w.heap.size, 3 + jn, none⟩) HM8.out.1).trans HM8.out.2.1
          have s1 := (hS.cell (p := ⟨w.heap.size, 17 + jn, none⟩) HM8.out.1).trans HM8.out.2.2.1
          have s2 := (hS.cell (p := ⟨w.heap.size + 1 + 1, dn, none⟩) HM8.out.2.2.2.1).trans HM8.out.2.2.2.2.1
          clear hS
          go_simp
          with_reducible rfl
        rotate_left
        · simp only [Act.put, List.setIfInBounds_toArray, List.set_cons_zero, List.set_cons_succ, i64_w, i32_w]
          rfl
        refine take_ (i := 2) (N := some 33) (v := ?_) (a' := ?_) #[true, true, true, false, false, false, false, false, false, false, false, false, false, false, false, false] rfl rfl (take_ofW HT_.out HW_.out (by kernel_rfl)) (fun _ _ _ h => h) (Or.inl ⟨by rfl, ?_⟩) hHeld ?_ ?_
        rotate_left
        · rintro w' hS
          have s0 := (hS.cell (p := ⟨w.heap.size, 3 + jn, none⟩) HM8.out.1).trans HM8.out.2.1
          have s1 := (hS.cell (p := ⟨w.heap.size, 17 + jn, none⟩) HM8.out.1).trans HM8.out.2.2.1
          have s2 := (hS.cell (p := ⟨w.heap.size + 1 + 1, dn, none⟩) HM8.out.2.2.2.1).trans HM8.out.2.2.2.2.1
          clear hS
          go_simp
          with_reducible rfl
        rotate_left
        · simp only [Act.put, List.setIfInBounds_toArray, List.set_cons_zero, List.set_cons_succ, i64_w, i32_w]
          rfl
        refine take_ (i := 3) (N := some 34) (v := ?_) (a' := ?_) #[true, true, true, true, false, false, false, false, false, false, false, false, false, false, false, false] rfl rfl (take_ofW HT_.out HW_.out (by kernel_rfl)) (fun _ _ _ h => h) (Or.inl ⟨by rfl, ?_⟩) hHeld ?_ ?_
        rotate_left
        · rintro w' hS
          have s0 := (hS.cell (p := ⟨w.heap.size, 3 + jn, none⟩) HM8.out.1).trans HM8.out.2.1
          have s1 := (hS.cell (p := ⟨w.heap.size, 17 + jn, none⟩) HM8.out.1).trans HM8.out.2.2.1
          have s2 := (hS.cell (p := ⟨w.heap.size + 1 + 1, dn, none⟩) HM8.out.2.2.2.1).trans HM8.out.2.2.2.2.1
          clear hS
          go_simp
          with_reducible rfl
        rotate_left
        · simp only [Act.put, List.setIfInBounds_toArray, List.set_cons_zero, List.set_cons_succ, i64_w, i32_w]
          rfl
        refine take_ (i := 4) (N := some 35) (v := ?_) (a' := ?_) #[true, true, true, true, true, false, false, false, false, false, false, false, false, false, false, false] rfl rfl (take_ofW HT_.out HW_.out (by kernel_rfl)) (fun _ _ _ h => h) (Or.inl ⟨by rfl, ?_⟩) hHeld ?_ ?_
        rotate_left
        · rintro w' hS
          have s0 := (hS.cell (p := ⟨w.heap.size, 3 + jn, none⟩) HM8.out.1).trans HM8.out.2.1
          have s1 := (hS.cell (p := ⟨w.heap.size, 17 + jn, none⟩) HM8.out.1).trans HM8.out.2.2.1
          have s2 := (hS.cell (p := ⟨w.heap.size + 1 + 1, dn, none⟩) HM8.out.2.2.2.1).trans HM8.out.2.2.2.2.1
          clear hS
          go_simp
          with_reducible rfl
        rotate_left
        · simp only [Act.put, List.setIfInBounds_toArray, List.set_cons_zero, List.set_cons_succ, i64_w, i32_w]
          rfl
        refine take_ (i := 5) (N := some 36) (v := ?_) (a' := ?_) #[true, true, true, true, true, true, false, false, false, false, false, false, false, false, false, false] rfl rfl (take_ofW HT_.out HW_.out (by kernel_rfl)) (fun _ _ _ h => h) (Or.inl ⟨by rfl, ?_⟩) hHeld ?_ ?_
        rotate_left
        · rintro w' hS
          have s0 := (hS.cell (p := ⟨w.heap.size, 3 + jn, none⟩) HM8.out.1).trans HM8.out.2.1
          have s1 := (hS.cell (p := ⟨w.heap.size, 17 + jn, none⟩) HM8.out.1).trans HM8.out.2.2.1
          have s2 := (hS.cell (p := ⟨w.heap.size + 1 + 1, dn, none⟩) HM8.out.2.2.2.1).trans HM8.out.2.2.2.2.1
          clear hS
          go_simp
          with_reducible rfl
        rotate_left
        · simp only [Act.put, List.setIfInBounds_toArray, List.set_cons_zero, List.set_cons_succ, i64_w, i32_w]
          rfl
        refine take_ (i := 6) (N := some 37) (v := ?_) (a' := ?_) #[true, true, true, true, true, true, true, false, false, false, false, false, false, false, false, false] rfl rfl (take_ofW HT_.out HW_.out (by kernel_rfl)) (fun _ _ _ h => h) (Or.inl ⟨by rfl, ?_⟩) hHeld ?_ ?_
        rotate_left
        · rintro w' hS
          have s0 := (hS.cell (p := ⟨w.heap.size, 3 + jn, none⟩) HM8.out.1).trans HM8.out.2.1
          have s1 := (hS.cell (p := ⟨w.heap.size, 17 + jn, none⟩) HM8.out.1).trans HM8.out.2.2.1
          have s2 := (hS.cell (p := ⟨w.heap.size + 1 + 1, dn, none⟩) HM8.out.2.2.2.1).trans HM8.out.2.2.2.2.1
          clear hS
          go_simp
          with_reducible rfl
        rotate_left
        · simp only [Act.put, List.setIfInBounds_toArray, List.set_cons_zero, List.set_cons_succ, i64_w, i32_w]
          rfl
        refine take_ (i := 7) (N := some 38) (v := ?_) (a' := ?_) #[true, true, true, true, true, true, true, true, false, false, false, false, false, false, false, false] rfl rfl (take_ofW HT_.out HW_.out (by kernel_rfl)) (fun _ _ _ h => h) (Or.inl ⟨by rfl, ?_⟩) hHeld ?_ ?_
        rotate_left
        · rintro w' hS
          have s0 := (hS.cell (p := ⟨w.heap.size, 3 + jn, none⟩) HM8.out.1).trans HM8.out.2.1
          have s1 := (hS.cell (p := ⟨w.heap.size, 17 + jn, none⟩) HM8.out.1).trans HM8.out.2.2.1
          have s2 := (hS.cell (p := ⟨w.heap.size + 1 + 1, dn, none⟩) HM8.out.2.2.2.1).trans HM8.out.2.2.2.2.1
          clear hS
          go_simp
          with_reducible rfl
        rotate_left
        · simp only [Act.put, List.setIfInBounds_toArray, List.set_cons_zero, List.set_cons_succ, i64_w, i32_w]
          rfl
        refine take_ (i := 8) (N := some 39) (v := ?_) (a' := ?_) #[true, true, true, true, true, true, true, true, true, false, false, false, false, false, false, false] rfl rfl (take_ofW HT_.out HW_.out (by kernel_rfl)) (fun _ _ _ h => h) (Or.inl ⟨by rfl, ?_⟩) hHeld ?_ ?_
        rotate_left
        · rintro w' hS
          have s0 := (hS.cell (p := ⟨w.heap.size, 3 + jn, none⟩) HM8.out.1).trans HM8.out.2.1
          have s1 := (hS.cell (p := ⟨w.heap.size, 17 + jn, none⟩) HM8.out.1).trans HM8.out.2.2.1
          have s2 := (hS.cell (p := ⟨w.heap.size + 1 + 1, dn, none⟩) HM8.out.2.2.2.1).trans HM8.out.2.2.2.2.1
          clear hS
          go_simp
          with_reducible rfl
        rotate_left
        · simp only [Act.put, List.setIfInBounds_toArray, List.set_cons_zero, List.set_cons_succ, i64_w, i32_w]
          rfl
        refine take_ (i := 9) (N := some 40) (v := ?_) (a' := ?_) #[true, true, true, true, true, true, true, true, true, true, false, false, false, false, false, false] rfl rfl (take_ofW HT_.out HW_.out (by kernel_rfl)) (fun _ _ _ h => h) (Or.inl ⟨by rfl, ?_⟩) hHeld ?_ ?_
        rotate_left
        · rintro w' hS
          have s0 := (hS.cell (p := ⟨w.heap.size, 3 + jn, none⟩) HM8.out.1).trans HM8.out.2.1
          have s1 := (hS.cell (p := ⟨w.heap.size, 17 + jn, none⟩) HM8.out.1).trans HM8.out.2.2.1
          have s2 := (hS.cell (p := ⟨w.heap.size + 1 + 1, dn, none⟩) HM8.out.2.2.2.1).trans HM8.out.2.2.2.2.1
          clear hS
          go_simp
          with_reducible rfl
        rotate_left
        · simp only [Act.put, List.setIfInBounds_toArray, List.set_cons_zero, List.set_cons_succ, i64_w, i32_w]
          rfl
        refine take_ (i := 10) (N := some 41) (v := ?_) (a' := ?_) #[true, true, true, true, true, true, true, true, true, true, true, false, false, false, false, false] rfl rfl (take_ofW HT_.out HW_.out (by kernel_rfl)) (fun _ _ _ h => h) (Or.inl ⟨by rfl, ?_⟩) hHeld ?_ ?_
        rotate_left
        · rintro w' hS
          have s0 := (hS.cell (p := ⟨w.heap.size, 3 + jn, none⟩) HM8.out.1).trans HM8.out.2.1
          have s1 := (hS.cell (p := ⟨w.heap.size, 17 + jn, none⟩) HM8.out.1).trans HM8.out.2.2.1
          have s2 := (hS.cell (p := ⟨w.heap.size + 1 + 1, dn, none⟩) HM8.out.2.2.2.1).trans HM8.out.2.2.2.2.1
          clear hS
          go_simp
          with_reducible rfl
        rotate_left
        · simp only [Act.put, List.setIfInBounds_toArray, List.set_cons_zero, List.set_cons_succ, i64_w, i32_w]
          rfl
        refine take_ (i := 11) (N := some 42) (v := ?_) (a' := ?_) #[true, true, true, true, true, true, true, true, true, true, true, true, false, false, false, false] rfl rfl (take_ofW HT_.out HW_.out (by kernel_rfl)) (fun _ _ _ h => h) (Or.inl ⟨by rfl, ?_⟩) hHeld ?_ ?_
        rotate_left
        · rintro w' hS
          have s0 := (hS.cell (p := ⟨w.heap.size, 3 + jn, none⟩) HM8.out.1).trans HM8.out.2.1
          have s1 := (hS.cell (p := ⟨w.heap.size, 17 + jn, none⟩) HM8.out.1).trans HM8.out.2.2.1
          have s2 := (hS.cell (p := ⟨w.heap.size + 1 + 1, dn, none⟩) HM8.out.2.2.2.1).trans HM8.out.2.2.2.2.1
          clear hS
          go_simp
          with_reducible rfl
        rotate_left
        · simp only [Act.put, List.setIfInBounds_toArray, List.set_cons_zero, List.set_cons_succ, i64_w, i32_w]
          rfl
        refine take_ (i := 12) (N := some 43) (v := ?_) (a' := ?_) #[true, true, true, true, true, true, true, true, true, true, true, true, true, false, false, false] rfl rfl (take_ofW HT_.out HW_.out (by kernel_rfl)) (fun _ _ _ h => h) (Or.inl ⟨by rfl, ?_⟩) hHeld ?_ ?_
        rotate_left
        · rintro w' hS
          have s0 := (hS.cell (p := ⟨w.heap.size, 3 + jn, none⟩) HM8.out.1).trans HM8.out.2.1
          have s1 := (hS.cell (p := ⟨w.heap.size, 17 + jn, none⟩) HM8.out.1).trans HM8.out.2.2.1
          have s2 := (hS.cell (p := ⟨w.heap.size + 1 + 1, dn, none⟩) HM8.out.2.2.2.1).trans HM8.out.2.2.2.2.1
          clear hS
          go_simp
          with_reducible rfl
        rotate_left
        · simp only [Act.put, List.setIfInBounds_toArray, List.set_cons_zero, List.set_cons_succ, i64_w, i32_w]
          rfl
        refine take_ (i := 13) (N := some 44) (v := ?_) (a' := ?_) #[true, true, true, true, true, true, true, true, true, true, true, true, true, true, false, false] rfl rfl (take_ofW HT_.out HW_.out (by kernel_rfl)) (fun _ _ _ h => h) (Or.inl ⟨by rfl, ?_⟩) hHeld ?_ ?_
        rotate_left
        · rintro w' hS
          have s0 := (hS.cell (p := ⟨w.heap.size, 3 + jn, none⟩) HM8.out.1).trans HM8.out.2.1
          have s1 := (hS.cell (p := ⟨w.heap.size, 17 + jn, none⟩) HM8.out.1).trans HM8.out.2.2.1
          have s2 := (hS.cell (p := ⟨w.heap.size + 1 + 1, dn, none⟩) HM8.out.2.2.2.1).trans HM8.out.2.2.2.2.1
          clear hS
          go_simp
          with_reducible rfl
        rotate_left
        · simp only [Act.put, List.setIfInBounds_toArray, List.set_cons_zero, List.set_cons_succ, i64_w, i32_w]
          rfl
        refine take_ (i := 14) (N := some 45) (v := ?_) (a' := ?_) #[true, true, true, true, true, true, true, true, true, true, true, true, true, true, true, false] rfl rfl (take_ofW HT_.out HW_.out (by kernel_rfl)) (fun _ _ _ h => h) (Or.inl ⟨by rfl, ?_⟩) hHeld ?_ ?_
        rotate_left
        · rintro w' hS
          have s0 := (hS.cell (p := ⟨w.heap.size, 3 + jn, none⟩) HM8.out.1).trans HM8.out.2.1
          have s1 := (hS.cell (p := ⟨w.heap.size, 17 + jn, none⟩) HM8.out.1).trans HM8.out.2.2.1
          have s2 := (hS.cell (p := ⟨w.heap.size + 1 + 1, dn, none⟩) HM8.out.2.2.2.1).trans HM8.out.2.2.2.2.1
          clear hS
          go_simp
          with_reducible rfl
        rotate_left
        · simp only [Act.put, List.setIfInBounds_toArray, List.set_cons_zero, List.set_cons_succ, i64_w, i32_w]
          rfl
        have t2 := (hHeld.cell (p := ⟨w.heap.size + 1 + 1, dn, none⟩) HM8.out.2.2.2.1).trans HM8.out.2.2.2.2.1
        have t3 := HM8.out.2.2.2.2.2
        refine last_ (i := 15) (N := none) #[true, true, true, true, true, true, true, true, true, true, true, true, true, true, true, true] rfl rfl (one_of HT_.out (by kernel_rfl)) (by decide) (fun K hK => ?_)
        refine skip_ (w1 := ?_) (by rfl) rfl ?_ ?_
        rotate_left
        · go_simp
          rfl
        refine hK.out _ _ ?_
        clear hK K
        refine done_ (done_of HT_.out (by kernel_rfl)) ?_
        go_wp2_with fail
        go_roundw
        case rel =>
          refine ⟨jn + 1, by omega, by push_cast; first | rfl | go_num, ?_⟩
          rw [← HW8.out]
          refine ⟨(below_set (below_set hm.out.1 (by simp)) (by show w.heap.size ≤ w.heap.size + 1 + 1; omega)).drew, ?_, ?_, ?_⟩
          · exact blk_far (blk_far hm.out.2.1 (by show w.heap.size ≠ w.heap.size + 1; omega) _) (by show w.heap.size ≠ w.heap.size + 1 + 1; omega) _
          · refine blk_far (blk_put hm.out.2.2.1 dn _ (threeC_set _ dn hd3 _ _ ?_ ?_)) (by show w.heap.size + 1 ≠ w.heap.size + 1 + 1; omega) _
            · rw [cntR_take h jn dn hj3, hdn, if_pos rfl, hmn]
            · intro r _ hrd
              rw [cntR_take h jn r hj3, hdn, if_neg (by omega)]; omega
          · refine blk_put (blk_far hm.out.2.2.2 (by show w.heap.size + 2 ≠ w.heap.size + 1; omega) _) dn _ (threeC_set _ dn hd3 _ _ ?_ ?_)
            · have e1 : h[jn].2 = v := hv
              rw [sumR_take h jn dn hj3, hdn, if_pos rfl, hsn, e1]
              unfold sideI
              rw [if_pos (by have := HDN.out; omega)]
            · intro r _ hrd
              rw [sumR_take h jn r hj3, hdn, if_neg (by omega)]; omega
        case measure => simp [intOf]; omega
      · have hd1b : ((dn : Int) == 1) = false := beq_eq_false_iff_ne.2 (by omega)
        have HDN := Aside0.mk hd1
        clear hd1
        go_wp2_with fail
        have HM8 : Aside0 (w.heap.size < (wr.setCell ⟨w.heap.size + 1, dn, none⟩ (.int .i64 (mn + 1))).heap.size ∧ (wr.setCell ⟨w.heap.size + 1, dn, none⟩ (.int .i64 (mn + 1))).cell? ⟨w.heap.size, 3 + jn, none⟩ = some (.int .u8 dn) ∧ (wr.setCell ⟨w.heap.size + 1, dn, none⟩ (.int .i64 (mn + 1))).cell? ⟨w.heap.size, 17 + jn, none⟩ = some (.int .i64 v) ∧
            w.heap.size + 1 + 1 < (wr.setCell ⟨w.heap.size + 1, dn, none⟩ (.int .i64 (mn + 1))).heap.size ∧ (wr.setCell ⟨w.heap.size + 1, dn, none⟩ (.int .i64 (mn + 1))).cell? ⟨w.heap.size + 1 + 1, dn, none⟩ = some (.int .i64 sn) ∧ (wr.setCell ⟨w.heap.size + 1, dn, none⟩ (.int .i64 (mn + 1))).frozen? ⟨w.heap.size + 1 + 1, dn, none⟩ = false) := by
          have z0 := blk_far hm.out.2.1 (p := ⟨w.heap.size + 1, dn, none⟩) (by show w.heap.size ≠ w.heap.size + 1; omega) (.int .i64 (mn + 1))
          have z2 := blk_far hm.out.2.2.2 (p := ⟨w.heap.size + 1, dn, none⟩) (by show w.heap.size + 2 ≠ w.heap.size + 1; omega) (.int .i64 (mn + 1))
          refine ⟨blk_lt z0, (blk_cell z0 _).trans ?_, (blk_cell z0 _).trans ?_, blk_lt z2, (blk_cell z2 dn).trans ((threeC_get _ dn hd3).trans (by simp only [hsn])), blk_frozen z2 dn⟩
          · rw [← HCS.out, hcells_did L st A h.length c h jn hj3 h14, hdn]
          · rw [← HCS.out, hcells_level L st A h.length c h jn hj3 h14, hv]
        generalize hw8 : wr.setCell ⟨w.heap.size + 1, dn, none⟩ (.int .i64 (mn + 1)) = w8 at HM8 ⊢
        have HW8 := Aside0.mk hw8
        clear hw8 p1 p2 p3 p4
        have e2 : wrap64 (2 * v) = 2 * v := by unfold wrap64; omega
        have e3 : wrap64 (2 * v + (-1)) = 2 * v + (-1) := by unfold wrap64; omega
        have e4 : wrap64 (sn + (2 * v + (-1))) = sn + (2 * v + (-1)) := by unfold wrap64; omega
        refine start_ (n := 16) (S := (Below w8.heap.size w8)) (ds := [15]) #[false, false, false, false, false, false, false, false, false, false, false, false, false, false, false, false] (by kernel_rfl) rfl rfl ((Below.refl _ _).drew) (fun hHeld => ?_)
        refine with_tabW f47.tab9 f47.bits9 (fun HT_ HW_ => ?_)
        refine take_ (i := 0) (N := some 31) (v := ?_) (a' := ?_) #[true, false, false, false, false, false, false, false, false, false, false, false, false, false, false, false] rfl rfl (take_ofW HT_.out HW_.out (by kernel_rfl)) (fun _ _ _ h => h) (Or.inl ⟨by rfl, ?_⟩) hHeld ?_ ?_
        rotate_left
        · rintro w' hS
          have s0 := (hS.cell (p := ⟨w.heap.size, 3 + jn, none⟩) HM8.out.1).trans HM8.out.2.1
          have s1 := (hS.cell (p := ⟨w.heap.size, 17 + jn, none⟩) HM8.out.1).trans HM8.out.2.2.1
          have s2 := (hS.cell (p := ⟨w.heap.size + 1 + 1, dn, none⟩) HM8.out.2.2.2.1).trans HM8.out.2.2.2.2.1
          clear hS
          go_simp
          with_reducible rfl
        rotate_left
        · simp only [Act.put, List.setIfInBounds_toArray, List.set_cons_zero, List.set_cons_succ, i64_w, i32_w]
          rfl
        refine take_ (i := 1) (N := some 32) (v := ?_) (a' := ?_) #[true, true, false, false, false, false, false, false, false, false, false, false, false, false, false, false] rfl rfl (take_ofW HT_.out HW_.out (by kernel_rfl)) (fun _ _ _ h => h) (Or.inl ⟨by rfl, ?_⟩) hHeld ?_ ?_
        rotate_left
        · rintro w' hS
          have s0 := (hS.cell (p := ⟨w.heap.size, 3 + jn, none⟩) HM8.out.1).trans HM8.out.2.1
          have s1 := (hS.cell (p := ⟨w.heap.size, 17 + jn, none⟩) HM8.out.1).trans HM8.out.2.2.1
          have s2 := (hS.cell (p := ⟨w.heap.size + 1 + 1, dn, none⟩) HM8.out.2.2.2.1).trans HM8.out.2.2.2.2.1
          clear hS
          go_simp
          with_reducible rfl
        rotate_left
        · simp only [Act.put, List.setIfInBounds_toArray, List.set_cons_zero, List.set_cons_succ, i64_w, i32_w]
          rfl
        refine take_ (i := 2) (N := some 33) (v := ?_) (a' := ?_) #[true, true, true, false, false, false, false, false, false, false, false, false, false, false, false, false] rfl rfl (take_ofW HT_.out HW_.out (by kernel_rfl)) (fun _ _ _ h => h) (Or.inl ⟨by rfl, ?_⟩) hHeld ?_ ?_
        rotate_left
        · rintro w' hS
          have s0 := (hS.cell (p := ⟨w.heap.size, 3 + jn, none⟩) HM8.out.1).trans HM8.out.2.1
          have s1 := (hS.cell (p := ⟨w.heap.size, 17 + jn, none⟩) HM8.out.1).trans HM8.out.2.2.1
          have s2 := (hS.cell (p := ⟨w.heap.size + 1 + 1, dn, none⟩) HM8.out.2.2.2.1).trans HM8.out.2.2.2.2.1
          clear hS
          go_simp
          with_reducible rfl
        rotate_left
        · simp only [Act.put, List.setIfInBounds_toArray, List.set_cons_zero, List.set_cons_succ, i64_w, i32_w]
          rfl
        refine take_ (i := 3) (N := some 34) (v := ?_) (a' := ?_) #[true, true, true, true, false, false, false, false, false, false, false, false, false, false, false, false] rfl rfl (take_ofW HT_.out HW_.out (by kernel_rfl)) (fun _ _ _ h => h) (Or.inl ⟨by rfl, ?_⟩) hHeld ?_ ?_
        rotate_left
        · rintro w' hS
          have s0 := (hS.cell (p := ⟨w.heap.size, 3 + jn, none⟩) HM8.out.1).trans HM8.out.2.1
          have s1 := (hS.cell (p := ⟨w.heap.size, 17 + jn, none⟩) HM8.out.1).trans HM8.out.2.2.1
          have s2 := (hS.cell (p := ⟨w.heap.size + 1 + 1, dn, none⟩) HM8.out.2.2.2.1).trans HM8.out.2.2.2.2.1
          clear hS
          go_simp
          with_reducible rfl
        rotate_left
        · simp only [Act.put, List.setIfInBounds_toArray, List.set_cons_zero, List.set_cons_succ, i64_w, i32_w]
          rfl
        refine take_ (i := 4) (N := some 35) (v := ?_) (a' := ?_) #[true, true, true, true, true, false, false, false, false, false, false, false, false, false, false, false] rfl rfl (take_ofW HT_.out HW_.out (by kernel_rfl)) (fun _ _ _ h => h) (Or.inl ⟨by rfl, ?_⟩) hHeld ?_ ?_
        rotate_left
        · rintro w' hS
          have s0 := (hS.cell (p := ⟨w.heap.size, 3 + jn, none⟩) HM8.out.1).trans HM8.out.2.1
          have s1 := (hS.cell (p := ⟨w.heap.size, 17 + jn, none⟩) HM8.out.1).trans HM8.out.2.2.1
          have s2 := (hS.cell (p := ⟨w.heap.size + 1 + 1, dn, none⟩) HM8.out.2.2.2.1).trans HM8.out.2.2.2.2.1
          clear hS
          go_simp
          with_reducible rfl
        rotate_left
        · simp only [Act.put, List.setIfInBounds_toArray, List.set_cons_zero, List.set_cons_succ, i64_w, i32_w]
          rfl
        refine take_ (i := 5) (N := some 36) (v := ?_) (a' := ?_) #[true, true, true, true, true, true, false, false, false, false, false, false, false, false, false, false] rfl rfl (take_ofW HT_.out HW_.out (by kernel_rfl)) (fun _ _ _ h => h) (Or.inl ⟨by rfl, ?_⟩) hHeld ?_ ?_
        rotate_left
        · rintro w' hS
          have s0 := (hS.cell (p := ⟨w.heap.size, 3 + jn, none⟩) HM8.out.1).trans HM8.out.2.1
          have s1 := (hS.cell (p := ⟨w.heap.size, 17 + jn, none⟩) HM8.out.1).trans HM8.out.2.2.1
          have s2 := (hS.cell (p := ⟨w.heap.size + 1 + 1, dn, none⟩) HM8.out.2.2.2.1).trans HM8.out.2.2.2.2.1
          clear hS
          go_simp
          with_reducible rfl
        rotate_left
        · simp only [Act.put, List.setIfInBounds_toArray, List.set_cons_zero, List.set_cons_succ, i64_w, i32_w]
          rfl
        refine take_ (i := 6) (N := some 37) (v := ?_) (a' := ?_) #[true, true, true, true, true, true, true, false, false, false, false, false, false, false, false, false] rfl rfl (take_ofW HT_.out HW_.out (by kernel_rfl)) (fun _ _ _ h => h) (Or.inl ⟨by rfl, ?_⟩) hHeld ?_ ?_
        rotate_left
        · rintro w' hS
          have s0 := (hS.cell (p := ⟨w.heap.size, 3 + jn, none⟩) HM8.out.1).trans HM8.out.2.1
          have s1 := (hS.cell (p := ⟨w.heap.size, 17 + jn, none⟩) HM8.out.1).trans HM8.out.2.2.1
          have s2 := (hS.cell (p := ⟨w.heap.size + 1 + 1, dn, none⟩) HM8.out.2.2.2.1).trans HM8.out.2.2.2.2.1
          clear hS
          go_simp
          with_reducible rfl
        rotate_left
        · simp only [Act.put, List.setIfInBounds_toArray, List.set_cons_zero, List.set_cons_succ, i64_w, i32_w]
          rfl
        refine take_ (i := 7) (N := some 38) (v := ?_) (a' := ?_) #[true, true, true, true, true, true, true, true, false, false, false, false, false, false, false, false] rfl rfl (take_ofW HT_.out HW_.out (by kernel_rfl)) (fun _ _ _ h => h) (Or.inl ⟨by rfl, ?_⟩) hHeld ?_ ?_
        rotate_left
        · rintro w' hS
          have s0 := (hS.cell (p := ⟨w.heap.size, 3 + jn, none⟩) HM8.out.1).trans HM8.out.2.1
          have s1 := (hS.cell (p := ⟨w.heap.size, 17 + jn, none⟩) HM8.out.1).trans HM8.out.2.2.1
          have s2 := (hS.cell (p := ⟨w.heap.size + 1 + 1, dn, none⟩) HM8.out.2.2.2.1).trans HM8.out.2.2.2.2.1
          clear hS
          go_simp
          with_reducible rfl
        rotate_left
        · simp only [Act.put, List.setIfInBounds_toArray, List.set_cons_zero, List.set_cons_succ, i64_w, i32_w]
          rfl
        refine take_ (i := 8) (N := some 39) (v := ?_) (a' := ?_) #[true, true, true, true, true, true, true, true, true, false, false, false, false, false, false, false] rfl rfl (take_ofW HT_.out HW_.out (by kernel_rfl)) (fun _ _ _ h => h) (Or.inl ⟨by rfl, ?_⟩) hHeld ?_ ?_
        rotate_left
        · rintro w' hS
          have s0 := (hS.cell (p := ⟨w.heap.size, 3 + jn, none⟩) HM8.out.1).trans HM8.out.2.1
          have s1 := (hS.cell (p := ⟨w.heap.size, 17 + jn, none⟩) HM8.out.1).trans HM8.out.2.2.1
          have s2 := (hS.cell (p := ⟨w.heap.size + 1 + 1, dn, none⟩) HM8.out.2.2.2.1).trans HM8.out.2.2.2.2.1
          clear hS
          go_simp
          with_reducible rfl
        rotate_left
        · simp only [Act.put, List.setIfInBounds_toArray, List.set_cons_zero, List.set_cons_succ, i64_w, i32_w]
          rfl
        refine take_ (i := 9) (N := some 40) (v := ?_) (a' := ?_) #[true, true, true, true, true, true, true, true, true, true, false, false, false, false, false, false] rfl rfl (take_ofW HT_.out HW_.out (by kernel_rfl)) (fun _ _ _ h => h) (Or.inl ⟨by rfl, ?_⟩) hHeld ?_ ?_
        rotate_left
        · rintro w' hS
          have s0 := (hS.cell (p := ⟨w.heap.size, 3 + jn, none⟩) HM8.out.1).trans HM8.out.2.1
          have s1 := (hS.cell (p := ⟨w.heap.size, 17 + jn, none⟩) HM8.out.1).trans HM8.out.2.2.1
          have s2 := (hS.cell (p := ⟨w.heap.size + 1 + 1, dn, none⟩) HM8.out.2.2.2.1).trans HM8.out.2.2.2.2.1
          clear hS
          go_simp
          with_reducible rfl
        rotate_left
        · simp only [Act.put, List.setIfInBounds_toArray, List.set_cons_zero, List.set_cons_succ, i64_w, i32_w]
          rfl
        refine take_ (i := 10) (N := some 41) (v := ?_) (a' := ?_) #[true, true, true, true, true, true, true, true, true, true, true, false, false, false, false, false] rfl rfl (take_ofW HT_.out HW_.out (by kernel_rfl)) (fun _ _ _ h => h) (Or.inl ⟨by rfl, ?_⟩) hHeld ?_ ?_
        rotate_left
        · rintro w' hS
          have s0 := (hS.cell (p := ⟨w.heap.size, 3 + jn, none⟩) HM8.out.1).trans HM8.out.2.1
          have s1 := (hS.cell (p := ⟨w.heap.size, 17 + jn, none⟩) HM8.out.1).trans HM8.out.2.2.1
          have s2 := (hS.cell (p := ⟨w.heap.size + 1 + 1, dn, none⟩) HM8.out.2.2.2.1).trans HM8.out.2.2.2.2.1
          clear hS
          go_simp
          with_reducible rfl
        rotate_left
        · simp only [Act.put, List.setIfInBounds_toArray, List.set_cons_zero, List.set_cons_succ, i64_w, i32_w]
          rfl
        refine take_ (i := 11) (N := some 42) (v := ?_) (a' := ?_) #[true, true, true, true, true, true, true, true, true, true, true, true, false, false, false, false] rfl rfl (take_ofW HT_.out HW_.out (by kernel_rfl)) (fun _ _ _ h => h) (Or.inl ⟨by rfl, ?_⟩) hHeld ?_ ?_
        rotate_left
        · rintro w' hS
          have s0 := (hS.cell (p := ⟨w.heap.size, 3 + jn, none⟩) HM8.out.1).trans HM8.out.2.1
          have s1 := (hS.cell (p := ⟨w.heap.size, 17 + jn, none⟩) HM8.out.1).trans HM8.out.2.2.1
          have s2 := (hS.cell (p := ⟨w.heap.size + 1 + 1, dn, none⟩) HM8.out.2.2.2.1).trans HM8.out.2.2.2.2.1
          clear hS
          go_simp
          with_reducible rfl
        rotate_left
        · simp only [Act.put, List.setIfInBounds_toArray, List.set_cons_zero, List.set_cons_succ, i64_w, i32_w]
          rfl
        refine take_ (i := 12) (N := some 43) (v := ?_) (a' := ?_) #[true, true, true, true, true, true, true, true, true, true, true, true, true, false, false, false] rfl rfl (take_ofW HT_.out HW_.out (by kernel_rfl)) (fun _ _ _ h => h) (Or.inl ⟨by rfl, ?_⟩) hHeld ?_ ?_
        rotate_left
        · rintro w' hS
          have s0 := (hS.cell (p := ⟨w.heap.size, 3 + jn, none⟩) HM8.out.1).trans HM8.out.2.1
          have s1 := (hS.cell (p := ⟨w.heap.size, 17 + jn, none⟩) HM8.out.1).trans HM8.out.2.2.1
          have s2 := (hS.cell (p := ⟨w.heap.size + 1 + 1, dn, none⟩) HM8.out.2.2.2.1).trans HM8.out.2.2.2.2.1
          clear hS
          go_simp
          with_reducible rfl
        rotate_left
        · simp only [Act.put, List.setIfInBounds_toArray, List.set_cons_zero, List.set_cons_succ, i64_w, i32_w]
          rfl
        refine take_ (i := 13) (N := some 44) (v := ?_) (a' := ?_) #[true, true, true, true, true, true, true, true, true, true, true, true, true, true, false, false] rfl rfl (take_ofW HT_.out HW_.out (by kernel_rfl)) (fun _ _ _ h => h) (Or.inl ⟨by rfl, ?_⟩) hHeld ?_ ?_
        rotate_left
        · rintro w' hS
          have s0 := (hS.cell (p := ⟨w.heap.size, 3 + jn, none⟩) HM8.out.1).trans HM8.out.2.1
          have s1 := (hS.cell (p := ⟨w.heap.size, 17 + jn, none⟩) HM8.out.1).trans HM8.out.2.2.1
          have s2 := (hS.cell (p := ⟨w.heap.size + 1 + 1, dn, none⟩) HM8.out.2.2.2.1).trans HM8.out.2.2.2.2.1
          clear hS
          go_simp
          with_reducible rfl
        rotate_left
        · simp only [Act.put, List.setIfInBounds_toArray, List.set_cons_zero, List.set_cons_succ, i64_w, i32_w]
          rfl
        refine take_ (i := 14) (N := some 45) (v := ?_) (a' := ?_) #[true, true, true, true, true, true, true, true, true, true, true, true, true, true, true, false] rfl rfl (take_ofW HT_.out HW_.out (by kernel_rfl)) (fun _ _ _ h => h) (Or.inl ⟨by rfl, ?_⟩) hHeld ?_ ?_
        rotate_left
        · rintro w' hS
          have s0 := (hS.cell (p := ⟨w.heap.size, 3 + jn, none⟩) HM8.out.1).trans HM8.out.2.1
          have s1 := (hS.cell (p := ⟨w.heap.size, 17 + jn, none⟩) HM8.out.1).trans HM8.out.2.2.1
          have s2 := (hS.cell (p := ⟨w.heap.size + 1 + 1, dn, none⟩) HM8.out.2.2.2.1).trans HM8.out.2.2.2.2.1
          clear hS
          go_simp
          with_reducible rfl
        rotate_left
        · simp only [Act.put, List.setIfInBounds_toArray, List.set_cons_zero, List.set_cons_succ, i64_w, i32_w]
          rfl
        have t2 := (hHeld.cell (p := ⟨w.heap.size + 1 + 1, dn, none⟩) HM8.out.2.2.2.1).trans HM8.out.2.2.2.2.1
        have t3 := HM8.out.2.2.2.2.2
        refine last_ (i := 15) (N := none) #[true, true, true, true, true, true, true, true, true, true, true, true, true, true, true, true] rfl rfl (one_of HT_.out (by kernel_rfl)) (by decide) (fun K hK => ?_)
        refine skip_ (w1 := ?_) (by rfl) rfl ?_ ?_
        rotate_left
        · go_simp
          rfl
        refine hK.out _ _ ?_
        clear hK K
        refine done_ (done_of HT_.out (by kernel_rfl)) ?_
        go_wp2_with fail
        go_roundw
        case rel =>
          refine ⟨jn + 1, by omega, by push_cast; first | rfl | go_num, ?_⟩
          rw [← HW8.out]
          refine ⟨(below_set (below_set hm.out.1 (by simp)) (by show w.heap.size ≤ w.heap.size + 1 + 1; omega)).drew, ?_, ?_, ?_⟩
          · exact blk_far (blk_far hm.out.2.1 (by show w.heap.size ≠ w.heap.size + 1; omega) _) (by show w.heap.size ≠ w.heap.size + 1 + 1; omega) _
          · refine blk_far (blk_put hm.out.2.2.1 dn _ (threeC_set _ dn hd3 _ _ ?_ ?_)) (by show w.heap.size + 1 ≠ w.heap.size + 1 + 1; omega) _
            · rw [cntR_take h jn dn hj3, hdn, if_pos rfl, hmn]
            · intro r _ hrd
              rw [cntR_take h jn r hj3, hdn, if_neg (by omega)]; omega
          · refine blk_put (blk_far hm.out.2.2.2 (by show w.heap.size + 2 ≠ w.heap.size + 1; omega) _) dn _ (threeC_set _ dn hd3 _ _ ?_ ?_)
            · have e1 : h[jn].2 = v := hv
              rw [sumR_take h jn dn hj3, hdn, if_pos rfl, hsn, e1]
              unfold sideI
              rw [if_neg (by have := HDN.out; omega)]
            · intro r _ hrd
              rw [sumR_take h jn r hj3, hdn, if_neg (by omega)]; omega
        case measure => simp [intOf]; omega
    · have hj4 : (h.length : Int) ≤ (jn : Int) := by omega
      have hj6 : decide ((jn : Int) < (h.length : Int)) = false := decide_eq_false (by omega)
      have htk : h.take jn = h := List.take_of_length_le (by omega)
      rw [htk] at hm
      obtain ⟨m0, hm0⟩ : ∃ m0, cntR 0 h = m0 := ⟨_, rfl⟩
      obtain ⟨m1, hm1⟩ : ∃ m1, cntR 1 h = m1 := ⟨_, rfl⟩
      have b0 := cntR_bound 0 h
      have b1 := cntR_bound 1 h
      rw [hm0] at b0
      rw [hm1] at b1
      have p0 : wr.cell? ⟨w.heap.size + 1, 0, none⟩ = some (.int .i64 m0) := (blk_cell hm.out.2.2.1 0).trans (by rw [← hm0]; rfl)
      have p1 : wr.cell? ⟨w.heap.size + 1, 1, none⟩ = some (.int .i64 m1) := (blk_cell hm.out.2.2.1 1).trans (by rw [← hm1]; rfl)
      have hl1 := blk_lt hm.out.2.2.1
      have hl2 := blk_lt hm.out.2.2.2
      have HM0 := Aside0.mk hm0
      have HM1 := Aside0.mk hm1
      clear hm0 hm1
      by_cases hlt : m1 < m0
      · have hltb : decide (m1 < m0) = true := decide_eq_true hlt
        have HLT := Aside0.mk hlt
        clear hlt
        by_cases hz : m1 = 0
        · have hzb : (m1 == 0) = true := beq_iff_eq.2 hz
          have HZ := Aside0.mk hz
          clear hz
          go_wp2_with fail
          refine bodyPost_ret (results_tmp2 rfl _ _ _) rfl ⟨?_, hm.out.1⟩
          have : midI h = (0, false) := by
            rw [midI_1 (by rw [HM0.out, HM1.out]; exact HLT.out)]
            rw [if_pos (by rw [HM1.out]; exact HZ.out)]
          rw [this]
          rfl
        · have hzb : (m1 == 0) = false := beq_eq_false_iff_ne.2 hz
          have HZ := Aside0.mk hz
          obtain ⟨s, hs⟩ : ∃ s, sumR 1 h = s := ⟨_, rfl⟩
          have bs := sumR_bound 1 h (fun p hp => (HD.out p hp).2)
          rw [hs] at bs
          have HS := Aside0.mk hs
          have e5 : wrap64 (500 * s) = 500 * s := by unfold wrap64; omega
          have HM8 : Aside0 (w.heap.size + 1 < wr.heap.size ∧ wr.cell? ⟨w.heap.size + 1, 1, none⟩ = some (.int .i64 m1) ∧ w.heap.size + 1 + 1 < wr.heap.size ∧ wr.cell? ⟨w.heap.size + 1 + 1, 1, none⟩ = some (.int .i64 s)) := by
            refine ⟨hl1, p1, hl2, (blk_cell hm.out.2.2.2 1).trans ?_⟩
            rw [← hs]; rfl
          clear hs
          go_wp2_with fail
          refine start_ (n := 9) (S := (Below wr.heap.size wr)) (ds := []) #[false, false, false, false, false, false, false, false, false] (by kernel_rfl) rfl rfl ((Below.refl _ _).drew) (fun hHeld => ?_)
          refine with_tabW f47.tab16 f47.bits16 (fun HT_ HW_ => ?_)
          refine take_ (i := 0) (N := some 56) (v := ?_) (a' := ?_) #[true, false, false, false, false, false, false, false, false] rfl rfl (take_ofW HT_.out HW_.out (by kernel_rfl)) (fun _ _ _ h => h) (Or.inl ⟨by rfl, ?_⟩) hHeld ?_ ?_
          rotate_left
          · rintro w' hS
            have s1 := (hS.cell (p := ⟨w.heap.size + 1, 1, none⟩) HM8.out.1).trans HM8.out.2.1
            have s2 := (hS.cell (p := ⟨w.heap.size + 1 + 1, 1, none⟩) HM8.out.2.2.1).trans HM8.out.2.2.2
            clear hS
            go_simp
            with_reducible rfl
          rotate_left
          · simp only [Act.put, List.setIfInBounds_toArray, List.set_cons_zero, List.set_cons_succ, i64_w, i32_w]
            rfl
          refine take_ (i := 1) (N := some 57) (v := ?_) (a' := ?_) #[true, true, false, false, false, false, false, false, false] rfl rfl (take_ofW HT_.out HW_.out (by kernel_rfl)) (fun _ _ _ h => h) (Or.inl ⟨by rfl, ?_⟩) hHeld ?_ ?_
          rotate_left
          · rintro w' hS
            have s1 := (hS.cell (p := ⟨w.heap.size + 1, 1, none⟩) HM8.out.1).trans HM8.out.2.1
            have s2 := (hS.cell (p := ⟨w.heap.size + 1 + 1, 1, none⟩) HM8.out.2.2.1).trans HM8.out.2.2.2
            clear hS
            go_simp
            with_reducible rfl
          rotate_left
          · simp only [Act.put, List.setIfInBounds_toArray, List.set_cons_zero, List.set_cons_succ, i64_w, i32_w]
            rfl
          refine take_ (i := 2) (N := some 58) (v := ?_) (a' := ?_) #[true, true, true, false, false, false, false, false, false] rfl rfl (take_ofW HT_.out HW_.out (by kernel_rfl)) (fun _ _ _ h => h) (Or.inl ⟨by rfl, ?_⟩) hHeld ?_ ?_
          rotate_left
          · rintro w' hS
            have s1 := (hS.cell (p := ⟨w.heap.size + 1, 1, none⟩) HM8.out.1).trans HM8.out.2.1
            have s2 := (hS.cell (p := ⟨w.heap.size + 1 + 1, 1, none⟩) HM8.out.2.2.1).trans HM8.out.2.2.2
            clear hS
            go_simp
            with_reducible rfl
          rotate_left
          · simp only [Act.put, List.setIfInBounds_toArray, List.set_cons_zero, List.set_cons_succ, i64_w, i32_w]
            rfl
          refine take_ (i := 3) (N := some 59) (v := ?_) (a' := ?_) #[true, true, true, true, false, false, false, false, false] rfl rfl (take_ofW HT_.out HW_.out (by kernel_rfl)) (fun _ _ _ h => h) (Or.inl ⟨by rfl, ?_⟩) hHeld ?_ ?_
          rotate_left
          · rintro w' hS
            have s1 := (hS.cell (p := ⟨w.heap.size + 1, 1, none⟩) HM8.out.1).trans HM8.out.2.1
            have s2 := (hS.cell (p := ⟨w.heap.size + 1 + 1, 1, none⟩) HM8.out.2.2.1).trans HM8.out.2.2.2
            clear hS
            go_simp
            with_reducible rfl
          rotate_left
          · simp only [Act.put, List.setIfInBounds_toArray, List.set_cons_zero, List.set_cons_succ, i64_w, i32_w]
            rfl
          refine take_ (i := 4) (N := some 60) (v := ?_) (a' := ?_) #[true, true, true, true, true, false, false, false, false] rfl rfl (take_ofW HT_.out HW_.out (by kernel_rfl)) (fun _ _ _ h => h) (Or.inl ⟨by rfl, ?_⟩) hHeld ?_ ?_
          rotate_left
          · rintro w' hS
            have s1 := (hS.cell (p := ⟨w.heap.size + 1, 1, none⟩) HM8.out.1).trans HM8.out.2.1
            have s2 := (hS.cell (p := ⟨w.heap.size + 1 + 1, 1, none⟩) HM8.out.2.2.1).trans HM8.out.2.2.2
            clear hS
            go_simp
            with_reducible rfl
          rotate_left
          · simp only [Act.put, List.setIfInBounds_toArray, List.set_cons_zero, List.set_cons_succ, i64_w, i32_w]
            rfl
          refine take_ (i := 5) (N := some 61) (v := ?_) (a' := ?_) #[true, true, true, true, true, true, false, false, false] rfl rfl (take_ofW HT_.out HW_.out (by kernel_rfl)) (fun _ _ _ h => h) (Or.inl ⟨by rfl, ?_⟩) hHeld ?_ ?_
          rotate_left
          · rintro w' hS
            have s1 := (hS.cell (p := ⟨w.heap.size + 1, 1, none⟩) HM8.out.1).trans HM8.out.2.1
            have s2 := (hS.cell (p := ⟨w.heap.size + 1 + 1, 1, none⟩) HM8.out.2.2.1).trans HM8.out.2.2.2
            clear hS
            go_simp
            with_reducible rfl
          rotate_left
          · simp only [Act.put, List.setIfInBounds_toArray, List.set_cons_zero, List.set_cons_succ, i64_w, i32_w]
            rfl
          refine take_ (i := 6) (N := some 62) (v := ?_) (a' := ?_) #[true, true, true, true, true, true, true, false, false] rfl rfl (take_ofW HT_.out HW_.out (by kernel_rfl)) (fun _ _ _ h => h) (Or.inl ⟨by rfl, ?_⟩) hHeld ?_ ?_
          rotate_left
          · rintro w' hS
            have s1 := (hS.cell (p := ⟨w.heap.size + 1, 1, none⟩) HM8.out.1).trans HM8.out.2.1
            have s2 := (hS.cell (p := ⟨w.heap.size + 1 + 1, 1, none⟩) HM8.out.2.2.1).trans HM8.out.2.2.2
            clear hS
            go_simp
            with_reducible rfl
          rotate_left
          · simp only [Act.put, List.setIfInBounds_toArray, List.set_cons_zero, List.set_cons_succ, i64_w, i32_w]
            rfl
          refine take_ (i := 7) (N := some 9) (v := ?_) (a' := ?_) #[true, true, true, true, true, true, true, true, false] rfl rfl (take_ofW HT_.out HW_.out (by kernel_rfl)) (fun _ _ _ h => h) (Or.inl ⟨by rfl, ?_⟩) hHeld ?_ ?_
          rotate_left
          · rintro w' hS
            have s1 := (hS.cell (p := ⟨w.heap.size + 1, 1, none⟩) HM8.out.1).trans HM8.out.2.1
            have s2 := (hS.cell (p := ⟨w.heap.size + 1 + 1, 1, none⟩) HM8.out.2.2.1).trans HM8.out.2.2.2
            clear hS
            go_simp
            with_reducible rfl
          rotate_left
          · simp only [Act.put, List.setIfInBounds_toArray, List.set_cons_zero, List.set_cons_succ, i64_w, i32_w]
            rfl
          refine take_ (i := 8) (N := some 10) (v := ?_) (a' := ?_) #[true, true, true, true, true, true, true, true, true] rfl rfl (take_ofW HT_.out HW_.out (by kernel_rfl)) (fun _ _ _ h => h) (Or.inl ⟨by rfl, ?_⟩) hHeld ?_ ?_
          rotate_left
          · rintro w' hS
            have s1 := (hS.cell (p := ⟨w.heap.size + 1, 1, none⟩) HM8.out.1).trans HM8.out.2.1
            have s2 := (hS.cell (p := ⟨w.heap.size + 1 + 1, 1, none⟩) HM8.out.2.2.1).trans HM8.out.2.2.2
            clear hS
            go_simp
            with_reducible rfl
          rotate_left
          · simp only [Act.put, List.setIfInBounds_toArray, List.set_cons_zero, List.set_cons_succ, i64_w, i32_w]
            rfl
          refine done_ (done_of HT_.out (by kernel_rfl)) ?_
          by_cases hn : 500 * s < 0
          · have hnb : decide (500 * s < 0) = true := decide_eq_true hn
            have HN := Aside0.mk hn
            clear hn
            go_wp2_with fail
            refine bodyPost_ret (a := _) (w := _) (results_tmp2 rfl _ _ _) rfl (And.intro ?_ hm.out.1.drew)
            have hmp : 0 < m1 := by have := HZ.out; omega
            have hn := HN.out
            obtain ⟨g1, g2, g3⟩ := wrap_tdiv (m1 - 1 - 500 * s) m1 (by omega) (by omega) hmp
            have : midI h = (midOf h 1, true) := by
              rw [midI_1 (by rw [HM0.out, HM1.out]; exact HLT.out)]
              rw [if_neg (by rw [HM1.out]; exact HZ.out)]
            rw [this]
            unfold midOf
            rw [HM1.out, HS.out, if_pos hn]
            have g4 : wrap64 (-((m1 - 1 - 500 * s).tdiv m1)) = -((m1 - 1 - 500 * s).tdiv m1) := by unfold wrap64; omega
            simp [g1, g4]
          · have hnb : decide (500 * s < 0) = false := decide_eq_false hn
            have HN := Aside0.mk hn
            clear hn
            go_wp2_with fail
            refine bodyPost_ret (a := _) (w := _) (results_tmp2 rfl _ _ _) rfl (And.intro ?_ hm.out.1.drew)
            have hmp : 0 < m1 := by have := HZ.out; omega
            have hn := HN.out
            obtain ⟨g1, g2, g3⟩ := wrap_tdiv (500 * s) m1 (by omega) (by omega) hmp
            have : midI h = (midOf h 1, true) := by
              rw [midI_1 (by rw [HM0.out, HM1.out]; exact HLT.out)]
              rw [if_neg (by rw [HM1.out]; exact HZ.out)]
            rw [this]
            unfold midOf
            rw [HM1.out, HS.out, if_neg (by omega)]
            simp [g1]
      · have hltb : decide (m1 < m0) = false := decide_eq_false hlt
        have HLT := Aside0.mk hlt
        clear hlt
        by_cases hz : m0 = 0
        · have hzb : (m0 == 0) = true := beq_iff_eq.2 hz
          have HZ := Aside0.mk hz
          clear hz
          go_wp2_with fail
          refine bodyPost_ret (results_tmp2 rfl _ _ _) rfl ⟨?_, hm.out.1⟩
          have : midI h = (0, false) := by
            rw [midI_0 (by rw [HM0.out, HM1.out]; have := HLT.out; omega)]
            rw [if_pos (by rw [HM0.out]; exact HZ.out)]
          rw [this]
          rfl
        · have hzb : (m0 == 0) = false := beq_eq_false_iff_ne.2 hz
          have HZ := Aside0.mk hz
          obtain ⟨s, hs⟩ : ∃ s, sumR 0 h = s := ⟨_, rfl⟩
          have bs := sumR_bound 0 h (fun p hp => (HD.out p hp).2)
          rw [hs] at bs
          have HS := Aside0.mk hs
          have e5 : wrap64 (500 * s) = 500 * s := by unfold wrap64; omega
          have HM8 : Aside0 (w.heap.size + 1 < wr.heap.size ∧ wr.cell? ⟨w.heap.size + 1, 0, none⟩ = some (.int .i64 m0) ∧ w.heap.size + 1 + 1 < wr.heap.size ∧ wr.cell? ⟨w.heap.size + 1 + 1, 0, none⟩ = some (.int .i64 s)) := by
            refine ⟨hl1, p0, hl2, (blk_cell hm.out.2.2.2 0).trans ?_⟩
            rw [← hs]; rfl
          clear hs
          go_wp2_with fail
          refine start_ (n := 9) (S := (Below wr.heap.size wr)) (ds := []) #[false, false, false, false, false, false, false, false, false] (by kernel_rfl) rfl rfl ((Below.refl _ _).drew) (fun hHeld => ?_)
          refine with_tabW f47.tab16 f47.bits16 (fun HT_ HW_ => ?_)
          refine take_ (i := 0) (N := some 56) (v := ?_) (a' := ?_) #[true, false, false, false, false, false, false, false, false] rfl rfl (take_ofW HT_.out HW_.out (by kernel_rfl)) (fun _ _ _ h => h) (Or.inl ⟨by rfl, ?_⟩) hHeld ?_ ?_
          rotate_left
          · rintro w' hS
            have s1 := (hS.cell (p := ⟨w.heap.size + 1, 0, none⟩) HM8.out.1).trans HM8.out.2.1
            have s2 := (hS.cell (p := ⟨w.heap.size + 1 + 1, 0, none⟩) HM8.out.2.2.1).trans HM8.out.2.2.2
            clear hS
            go_simp
            with_reducible rfl
          rotate_left
          · simp only [Act.put, List.setIfInBounds_toArray, List.set_cons_zero, List.set_cons_succ, i64_w, i32_w]
            rfl
          refine take_ (i := 1) (N := some 57) (v := ?_) (a' := ?_) #[true, true, false, false, false, false, false, false, false] rfl rfl (take_ofW HT_.out HW_.out (by kernel_rfl)) (fun _ _ _ h => h) (Or.inl ⟨by rfl, ?_⟩) hHeld ?_ ?_
          rotate_left
          · rintro w' hS
            have s1 := (hS.cell (p := ⟨w.heap.size + 1, 0, none⟩) HM8.out.1).trans HM8.out.2.1
            have s2 := (hS.cell (p := ⟨w.heap.size + 1 + 1, 0, none⟩) HM8.out.2.2.1).trans HM8.out.2.2.2
            clear hS
            go_simp
            with_reducible rfl
          rotate_left
          · simp only [Act.put, List.setIfInBounds_toArray, List.set_cons_zero, List.set_cons_succ, i64_w, i32_w]
            rfl
          refine take_ (i := 2) (N := some 58) (v := ?_) (a' := ?_) #[true, true, true, false, false, false, false, false, false] rfl rfl (take_ofW HT_.out HW_.out (by kernel_rfl)) (fun _ _ _ h => h) (Or.inl ⟨by rfl, ?_⟩) hHeld ?_ ?_
          rotate_left
          · rintro w' hS
            have s1 := (hS.cell (p := ⟨w.heap.size + 1, 0, none⟩) HM8.out.1).trans HM8.out.2.1
            have s2 := (hS.cell (p := ⟨w.heap.size + 1 + 1, 0, none⟩) HM8.out.2.2.1).trans HM8.out.2.2.2
            clear hS
            go_simp
            with_reducible rfl
          rotate_left
          · simp only [Act.put, List.setIfInBounds_toArray, List.set_cons_zero, List.set_cons_succ, i64_w, i32_w]
            rfl
          refine take_ (i := 3) (N := some 59) (v := ?_) (a' := ?_) #[true, true, true, true, false, false, false, false, false] rfl rfl (take_ofW HT_.out HW_.out (by kernel_rfl)) (fun _ _ _ h => h) (Or.inl ⟨by rfl, ?_⟩) hHeld ?_ ?_
          rotate_left
          · rintro w' hS
            have s1 := (hS.cell (p := ⟨w.heap.size + 1, 0, none⟩) HM8.out.1).trans HM8.out.2.1
            have s2 := (hS.cell (p := ⟨w.heap.size + 1 + 1, 0, none⟩) HM8.out.2.2.1).trans HM8.out.2.2.2
            clear hS
            go_simp
            with_reducible rfl
          rotate_left
          · simp only [Act.put, List.setIfInBounds_toArray, List.set_cons_zero, List.set_cons_succ, i64_w, i32_w]
            rfl
          refine take_ (i := 4) (N := some 60) (v := ?_) (a' := ?_) #[true, true, true, true, true, false, false, false, false] rfl rfl (take_ofW HT_.out HW_.out (by kernel_rfl)) (fun _ _ _ h => h) (Or.inl ⟨by rfl, ?_⟩) hHeld ?_ ?_
          rotate_left
          · rintro w' hS
            have s1 := (hS.cell (p := ⟨w.heap.size + 1, 0, none⟩) HM8.out.1).trans HM8.out.2.1
            have s2 := (hS.cell (p := ⟨w.heap.size + 1 + 1, 0, none⟩) HM8.out.2.2.1).trans HM8.out.2.2.2
            clear hS
            go_simp
            with_reducible rfl
          rotate_left
          · simp only [Act.put, List.setIfInBounds_toArray, List.set_cons_zero, List.set_cons_succ, i64_w, i32_w]
            rfl
          refine take_ (i := 5) (N := some 61) (v := ?_) (a' := ?_) #[true, true, true, true, true, true, false, false, false] rfl rfl (take_ofW HT_.out HW_.out (by kernel_rfl)) (fun _ _ _ h => h) (Or.inl ⟨by rfl, ?_⟩) hHeld ?_ ?_
          rotate_left
          · rintro w' hS
            have s1 := (hS.cell (p := ⟨w.heap.size + 1, 0, none⟩) HM8.out.1).trans HM8.out.2.1
            have s2 := (hS.cell (p := ⟨w.heap.size + 1 + 1, 0, none⟩) HM8.out.2.2.1).trans HM8.out.2.2.2
            clear hS
            go_simp
            with_reducible rfl
          rotate_left
          · simp only [Act.put, List.setIfInBounds_toArray, List.set_cons_zero, List.set_cons_succ, i64_w, i32_w]
            rfl
          refine take_ (i := 6) (N := some 62) (v := ?_) (a' := ?_) #[true, true, true, true, true, true, true, false, false] rfl rfl (take_ofW HT_.out HW_.out (by kernel_rfl)) (fun _ _ _ h => h) (Or.inl ⟨by rfl, ?_⟩) hHeld ?_ ?_
          rotate_left
          · rintro w' hS
            have s1 := (hS.cell (p := ⟨w.heap.size + 1, 0, none⟩) HM8.out.1).trans HM8.out.2.1
            have s2 := (hS.cell (p := ⟨w.heap.size + 1 + 1, 0, none⟩) HM8.out.2.2.1).trans HM8.out.2.2.2
            clear hS
            go_simp
            with_reducible rfl
          rotate_left
          · simp only [Act.put, List.setIfInBounds_toArray, List.set_cons_zero, List.set_cons_succ, i64_w, i32_w]
            rfl
          refine take_ (i := 7) (N := some 9) (v := ?_) (a' := ?_) #[true, true, true, true, true, true, true, true, false] rfl rfl (take_ofW HT_.out HW_.out (by kernel_rfl)) (fun _ _ _ h => h) (Or.inl ⟨by rfl, ?_⟩) hHeld ?_ ?_
          rotate_left
          · rintro w' hS
            have s1 := (hS.cell (p := ⟨w.heap.size + 1, 0, none⟩) HM8.out.1).trans HM8.out.2.1
            have s2 := (hS.cell (p := ⟨w.heap.size + 1 + 1, 0, none⟩) HM8.out.2.2.1).trans HM8.out.2.2.2
            clear hS
            go_simp
            with_reducible rfl
          rotate_left
          · simp only [Act.put, List.setIfInBounds_toArray, List.set_cons_zero, List.set_cons_succ, i64_w, i32_w]
            rfl
          refine take_ (i := 8) (N := some 10) (v := ?_) (a' := ?_) #[true, true, true, true, true, true, true, true, true] rfl rfl (take_ofW HT_.out HW_.out (by kernel_rfl)) (fun _ _ _ h => h) (Or.inl ⟨by rfl, ?_⟩) hHeld ?_ ?_
          rotate_left
          · rintro w' hS
            have s1 := (hS.cell (p := ⟨w.heap.size + 1, 0, none⟩) HM8.out.1).trans HM8.out.2.1
            have s2 := (hS.cell (p := ⟨w.heap.size + 1 + 1, 0, none⟩) HM8.out.2.2.1).trans HM8.out.2.2.2
            clear hS
            go_simp
            with_reducible rfl
          rotate_left
          · simp only [Act.put, List.setIfInBounds_toArray, List.set_cons_zero, List.set_cons_succ, i64_w, i32_w]
            rfl
          refine done_ (done_of HT_.out (by kernel_rfl)) ?_
          by_cases hn : 500 * s < 0
          · have hnb : decide (500 * s < 0) = true := decide_eq_true hn
            have HN := Aside0.mk hn
            clear hn
            go_wp2_with fail
            refine bodyPost_ret (a := _) (w := _) (results_tmp2 rfl _ _ _) rfl (And.intro ?_ hm.out.1.drew)
            have hmp : 0 < m0 := by have := HZ.out; omega
            have hn := HN.out
            obtain ⟨g1, g2, g3⟩ := wrap_tdiv (m0 - 1 - 500 * s) m0 (by omega) (by omega) hmp
            have : midI h = (midOf h 0, true) := by
              rw [midI_0 (by rw [HM0.out, HM1.out]; have := HLT.out; omega)]
              rw [if_neg (by rw [HM0.out]; exact HZ.out)]
            rw [this]
            unfold midOf
            rw [HM0.out, HS.out, if_pos hn]
            have g4 : wrap64 (-((m0 - 1 - 500 * s).tdiv m0)) = -((m0 - 1 - 500 * s).tdiv m0) := by unfold wrap64; omega
            simp [g1, g4]
          · have hnb : decide (500 * s < 0) = false := decide_eq_false hn
            have HN := Aside0.mk hn
            clear hn
            go_wp2_with fail
            refine bodyPost_ret (a := _) (w := _) (results_tmp2 rfl _ _ _) rfl (And.intro ?_ hm.out.1.drew)
            have hmp : 0 < m0 := by have := HZ.out; omega
            have hn := HN.out
            obtain ⟨g1, g2, g3⟩ := wrap_tdiv (500 * s) m0 (by omega) (by omega) hmp
            have : midI h = (midOf h 0, true) := by
              rw [midI_0 (by rw [HM0.out, HM1.out]; have := HLT.out; omega)]
              rw [if_neg (by rw [HM0.out]; exact HZ.out)]
            rw [this]
            unfold midOf
            rw [HM0.out, HS.out, if_neg (by omega)]
            simp [g1]
end Go.Proofs.Ytkglggggmlnleaa.Print
