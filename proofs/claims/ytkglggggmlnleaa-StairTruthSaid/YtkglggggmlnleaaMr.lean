/- The middle, as the document says it. -/
import Derived.Test.YtkglggggmlnleaaM7
import Derived.Test.YtkglggggmlnleaaHr
namespace Go.Proofs.Ytkglggggmlnleaa.Print
open Go.RowKit Go.Proofs.YtkglggggmlnleaaW.PrintWords Go.Proofs.YtkglggggmlnleaaW.PrintLast Go.Proofs.YtkglggggmlnleaaW.PrintMore
set_option linter.unusedVariables false
set_option linter.unusedSimpArgs false
def f22.T7 : Bool × List (List Nat × List Nat) := (true, [([], []), ([], []), ([0, 1], [0, 1]), ([2], [2]), ([3], [3]), ([4], [4]), ([], []), ([], []), ([6, 7], [6, 7]), ([8], [8]), ([9], [9]), ([10], [10]), ([], []), ([], []), ([12, 13], [12, 13]), ([14], [14]), ([15], [15]), ([16], [16]), ([11, 17], [11, 17]), ([5, 18], [5, 18]), ([3, 0, 1, 2, 3, 4, 5, 6, 7, 8, 9, 10, 11, 12, 13, 14, 15, 16, 17, 18, 19], [3]), ([20, 19, 0, 1, 2, 3, 4, 5, 6, 7, 8, 9, 10, 11, 12, 13, 14, 15, 16, 17, 18, 19], [19, 20])])
def f22.B7 : List Nat := [0, 0, 3, 7, 15, 31, 0, 0, 192, 448, 960, 1984, 0, 0, 12288, 28672, 61440, 126976, 262080, 524287, 1048575, 2097151]
theorem f22.tab7 : rtab .any (opsOf Try.f22 7) = f22.T7 := by kernel_rfl
theorem f22.bits7 : waitsOk f22.T7.2 f22.B7 = true := by kernel_rfl

theorem floor_neg (n b : Int) (hb : 0 < b) : -((b - 1 - n) / b) = n / b := by
  have h1 := Int.emod_nonneg n (show b ≠ 0 by omega)
  have h2 := Int.emod_lt_of_pos n hb
  have h3 := Int.mul_ediv_add_emod n b
  have h4 : (b - 1 - n) / b = -(n / b) ∧ (b - 1 - n) % b = b - 1 - n % b := by
    rw [Int.ediv_emod_unique hb]
    refine ⟨?_, by omega, by omega⟩
    rw [Int.mul_neg]
    omega
  rw [h4.1, Int.neg_neg]
theorem midOf_floor (h : List (Int × Int)) (ev : Nat) (hc : 0 < cntR ev h) : midOf h ev = (500 * sumR ev h) / cntR ev h := by
  unfold midOf
  split
  · rename_i hn
    rw [Int.tdiv_eq_ediv_of_nonneg (by omega)]
    exact floor_neg _ _ hc
  · rw [Int.tdiv_eq_ediv_of_nonneg (by omega)]
theorem tdiv_neg_eq (m b : Int) (hm : 0 ≤ m) : (-m).tdiv b = -(m / b) := by rw [Int.neg_tdiv, Int.tdiv_eq_ediv_of_nonneg hm]
set_option maxHeartbeats 4000000 in
set_option maxRecDepth 100000 in
theorem down_calls (n b : Int) (w : World) (hb : 1 ≤ b) (hb2 : b ≤ 1000) (hn : -1000000 ≤ n) (hn2 : n ≤ 1000000) : Calls Try.prog 50 #[.int .i64 n, .int .i64 b] w fun e w' => e = .returned (.int .i64 (n / b)) ∧ w = w' := by
  by_cases h0 : 0 ≤ n
  · have d0 : decide (n < 0) = false := decide_eq_false (by omega)
    have hq : 0 ≤ n / b := Int.ediv_nonneg h0 (by omega)
    have hq2 : n / b ≤ n := Int.ediv_le_self b h0
    go_enter Try.func50, Try.ntmps50
    go_wp2
    go_ret
    exact ⟨rfl, rfl⟩
  · obtain ⟨m, rfl⟩ : ∃ m, n = -m := ⟨-n, by omega⟩
    have d0 : decide (-m < 0) = true := decide_eq_true (by omega)
    have h1 := Int.emod_nonneg m (show b ≠ 0 by omega)
    have h2 := Int.emod_lt_of_pos m (show 0 < b by omega)
    have h3 := Int.mul_ediv_add_emod m b
    have hq : 0 ≤ m / b := Int.ediv_nonneg (by omega) (by omega)
    have hq2 : m / b ≤ m := Int.ediv_le_self b (by omega)
    have HT := Aside0.mk (tdiv_neg_eq m b (by omega))
    obtain ⟨q, hq3⟩ : ∃ q, m / b = q := ⟨_, rfl⟩
    rw [hq3] at h3 hq hq2 HT
    have hmul : -(q * b) = -q * b := by rw [Int.neg_mul]
    have hqb : b * q = q * b := Int.mul_comm b q
    have e1 : wrap64 (-q * b) = -q * b := by unfold wrap64; omega
    have HF : Aside0 ((-m) / b = if m % b = 0 then -q else -q - 1) := ⟨by
      have h4 : (-m) / b = (if m % b = 0 then -q else -q - 1) ∧ (-m) % b = (if m % b = 0 then 0 else b - m % b) := by
        rw [Int.ediv_emod_unique (by omega)]
        split
        · rename_i hz
          exact ⟨by rw [Int.mul_neg]; omega, by omega, by omega⟩
        · rename_i hz
          exact ⟨by rw [Int.mul_sub, Int.mul_neg, Int.mul_one]; omega, by omega, by omega⟩
      exact h4.1⟩
    have hT := HT.out
    by_cases hz : m % b = 0
    · have t1 : (-q * b == -m) = true := beq_iff_eq.2 (by omega)
      have t2 : (-q * b != -m) = false := bne_eq_false_iff_eq.2 (by omega)
      have HE : Aside0 ((-m) / b = -q) := ⟨by rw [HF.out, if_pos hz]⟩
      clear hz h3 hqb hmul hq3
      go_enter Try.func50, Try.ntmps50
      go_wp2
      go_ret
      exact ⟨ret_int HE.out.symm, rfl⟩
    · have t1 : (-q * b == -m) = false := beq_eq_false_iff_ne.2 (by omega)
      have t2 : (-q * b != -m) = true := bne_iff_ne.2 (by omega)
      have HE : Aside0 ((-m) / b = -q - 1) := ⟨by rw [HF.out, if_neg hz]⟩
      clear hz h3 hqb hmul hq3
      go_enter Try.func50, Try.ntmps50
      go_wp2
      go_ret
      exact ⟨ret_int HE.out.symm, rfl⟩

theorem w_small {x : Int} (h : -1000000 ≤ x ∧ x ≤ 1000000) : wrap64 x = x := by unfold wrap64; omega
theorem wsum (s v : Int) (d : Nat) (hs : -1000 ≤ s ∧ s ≤ 1000) (hv : 0 ≤ v ∧ v ≤ 8) (hd : d < 3) : wrap64 (s + wrap64 (2 * v - 1 + wrap64 (2 * wrap64 (d : Int)))) = s + (2 * v - 1 + 2 * (d : Int)) := by
  rw [w_small (x := (d : Int)) (by omega), w_small (x := 2 * (d : Int)) (by omega), w_small (x := 2 * v - 1 + 2 * (d : Int)) (by omega), w_small (by omega)]
def sumQ (r : Nat) (h : List (Int × Int)) : Int := ((h.filter fun p => decide (p.1 = (r : Int))).map fun p => 2 * p.2 - 1 + 2 * p.1).sum
theorem sumQ_eq (r : Nat) (hr : r < 2) (h : List (Int × Int)) : sumQ r h = sumR r h := by
  unfold sumQ sumR
  congr 1
  refine List.map_congr_left fun p hp => ?_
  have hp1 : p.1 = (r : Int) := by simpa using (List.mem_filter.1 hp).2
  unfold sideI
  split <;> omega
theorem sumQ_take (h : List (Int × Int)) (j r : Nat) (hj : j < h.length) : sumQ r (h.take (j + 1)) = sumQ r (h.take j) + if h[j].1 = (r : Int) then 2 * h[j].2 - 1 + 2 * h[j].1 else 0 := by
  unfold sumQ
  rw [List.take_add_one, List.getElem?_eq_getElem hj, List.filter_append]
  by_cases e : h[j].1 = (r : Int) <;> simp [e]
theorem sumQ_bound (r : Nat) : ∀ (h : List (Int × Int)), (∀ p ∈ h, (0 ≤ p.1 ∧ p.1 < 3) ∧ 0 ≤ p.2 ∧ p.2 ≤ 8) → -(20 * h.length) ≤ sumQ r h ∧ sumQ r h ≤ 20 * h.length
  | [], _ => by simp [sumQ]
  | p :: h, hh => by
    have ih := sumQ_bound r h (fun q hq => hh q (by simp [hq]))
    have hp := hh p (by simp)
    unfold sumQ at ih ⊢
    by_cases e : p.1 = (r : Int)
    · simp [e] at ih ⊢
      rw [e] at hp
      omega
    · simp [e] at ih ⊢
      omega
theorem histOf_mem {L : Int} (hL : L ≤ 8) : ∀ (rs : List Int) (l : Int), 0 ≤ l → l < L → (∀ r ∈ rs, 0 ≤ r ∧ r < 3) → ∀ p ∈ histOf L l rs, (0 ≤ p.1 ∧ p.1 < 3) ∧ 0 ≤ p.2 ∧ p.2 ≤ 8
  | [], l, h0, h1, hr, p, hp => by simp [histOf] at hp
  | r :: rs, l, h0, h1, hr, p, hp => by
    have hn := nxt_range (L := L) (l := l) (r := r) h0 h1
    simp only [histOf, List.mem_cons] at hp
    rcases hp with rfl | hp
    · exact ⟨hr r (by simp), h0, by omega⟩
    · exact histOf_mem hL rs _ hn.1 hn.2 (fun q hq => hr q (by simp [hq])) p hp
set_option maxHeartbeats 4000000 in
set_option maxRecDepth 100000 in
theorem refmiddle_calls (L st : Int) (A : Option Addr) (c : Nat) (l : List S43) (A1 : Option Addr) (c1 : Nat) (rs : List Int) (w : World) (hr1 : Kd.C (Kd.int .u8) w A1 rs.length rs)
    (hL : L ≤ 8) (h0 : 0 ≤ st) (h1 : st < L) (hn : rs.length ≤ 14) (hrs : ∀ r ∈ rs, 0 ≤ r ∧ r < 3) :
    Calls Try.prog 22 #[.agg #[.int .i64 L, .int .i64 st, .slice A l.length c], .slice A1 rs.length c1] w fun e w' => e = .returned (.tuple #[.int .i64 (midI (histOf L st rs)).1, .bool (midI (histOf L st rs)).2]) ∧ Below w.heap.size w w' := by
  have hu24 := Try.underlying24
  have hu91 := Try.underlying91
  have HR1 := Aside0.mk hr1
  have HMX := histOf_mem hL rs st h0 h1 hrs
  have HHM := Aside0.mk HMX
  have HLEN := Aside0.mk (histOf_length L rs st)
  have HRS := Aside0.mk hrs
  clear hr1 HMX hrs
  have KB : Aside0 (Below w.heap.size w (w.alloc (.cells #[.int .i64 L, .int .i64 st, .slice A l.length c] 24))) := ⟨(Below.refl _ w).alloc (by simp) _⟩
  have KX := Aside0.mk (blk_new w (.cells #[.int .i64 L, .int .i64 st, .slice A l.length c] 24))
  go_enter Try.func22, Try.ntmps22
  go_wp2_with fail
  refine (levels_calls L st A1 c1 rs _ (Kd.C_below HR1.out KB.out) hL h0 h1 (by omega)).mono ?_
  rintro e w2 ⟨v2, rfl, hR2, hb2⟩
  obtain ⟨A3, c3, rfl, hc3, hC3⟩ := Kd.R_reads hR2
  rw [lvls_len] at hC3 ⊢
  have HC3 := Aside0.mk (show Kd.C (Kd.int .i64) w2 A3 (lvls L st rs).length (lvls L st rs) by rw [lvls_len]; exact hC3)
  replace KX := Aside0.mk (blk_below KX.out hb2)
  replace KB := Aside0.mk (KB.out.trans (hb2.mono KB.out.size))
  clear hR2 hc3 hC3 hb2
  go_wp2_with fail
  obtain ⟨gm, hgm⟩ : ∃ gm, w2.heap.size = gm := ⟨_, rfl⟩
  obtain ⟨gs, hgs⟩ : ∃ gs, gm + 1 = gs := ⟨_, rfl⟩
  have HG : Aside0 (w2.heap.size = gm ∧ gm + 1 = gs) := ⟨hgm, hgs⟩
  have HM0 : Aside0 (Below w2.heap.size w2 ((w2.alloc (.cells #[.int .i64 0, .int .i64 0, .int .i64 0] 91)).alloc (.cells #[.int .i64 0, .int .i64 0, .int .i64 0] 91)) ∧ ((w2.alloc (.cells #[.int .i64 0, .int .i64 0, .int .i64 0] 91)).alloc (.cells #[.int .i64 0, .int .i64 0, .int .i64 0] 91)).heap[gm]? = some (.cells (threeC fun r => cntR r ((histOf L st rs).take 0)) 91 (0, 0)) ∧ ((w2.alloc (.cells #[.int .i64 0, .int .i64 0, .int .i64 0] 91)).alloc (.cells #[.int .i64 0, .int .i64 0, .int .i64 0] 91)).heap[gs]? = some (.cells (threeC fun r => sumQ r ((histOf L st rs).take 0)) 91 (0, 0))) :=
    ⟨((Below.refl _ w2).alloc (by simp) _).alloc (by simp) _, blk_alloc (new_at hgm) _, new_at (by simp; omega)⟩
  rw [hgm, hgs]
  clear hgm hgs
  go_loopw [9] (fun j wr => ∃ jn : Nat, jn ≤ rs.length ∧ j = .int .i64 jn ∧ Aside0 (Below w2.heap.size w2 wr ∧ wr.heap[gm]? = some (.cells (threeC fun r => cntR r ((histOf L st rs).take jn)) 91 (0, 0)) ∧ wr.heap[gs]? = some (.cells (threeC fun r => sumQ r ((histOf L st rs).take jn)) 91 (0, 0)))) (fun j _ => rs.length - (intOf j).toNat)
  case atStart => exact ⟨0, by omega, rfl, HM0⟩
  case round =>
    clear HM0
    obtain ⟨jn, hj, rfl, hm⟩ := hrel
    have HWr := Aside0.mk (KB.out.trans (hm.out.1.mono KB.out.size))
    by_cases hj3 : jn < rs.length
    · have hj6 : decide ((jn : Int) < (rs.length : Int)) = true := decide_eq_true (by omega)
      have hj7 : (jn : Int) < (rs.length : Int) := by omega
      obtain ⟨ad1, rfl, g2⟩ := cellU (Kd.C_below HR1.out KB.out) jn hj3
      obtain ⟨ad3, rfl, g3⟩ := cellU HC3.out jn (by rw [lvls_len]; exact hj3)
      have hjh : jn < (histOf L st rs).length := by rw [HLEN.out]; exact hj3
      have hlv : (lvls L st rs)[jn]'(by rw [lvls_len]; exact hj3) = aft L st (rs.take jn) := by
        have := lvls_get L rs st jn hj3
        rw [List.getElem?_eq_getElem (by rw [lvls_len]; exact hj3)] at this
        exact Option.some.inj this
      have hhp : (histOf L st rs)[jn] = (rs[jn], aft L st (rs.take jn)) := by
        have := histOf_get L rs st jn hj3
        rw [List.getElem?_eq_getElem hjh] at this
        exact Option.some.inj this
      rw [hlv] at g3
      obtain ⟨⟨dn, hdn⟩, hd3⟩ : (∃ dn : Nat, rs[jn] = dn) ∧ rs[jn] < 3 := by
        have := HRS.out _ (List.getElem_mem hj3)
        exact ⟨⟨rs[jn].toNat, by omega⟩, this.2⟩
      have hv := aft_range (L := L) (rs.take jn) st h0 h1
      obtain ⟨v, hv2⟩ : ∃ v, aft L st (rs.take jn) = v := ⟨_, rfl⟩
      rw [hv2] at g3 hhp hv
      rw [hdn] at g2 hhp hd3
      have hdn3 : dn < 3 := by omega
      have hc0 : (0 : Int) ≤ (dn : Int) := by omega
      have HHP := Aside0.mk hhp
      have HG2 := Aside0.mk (And.intro (World.block_lt_of_cell? _ _ g2) g2)
      have HG3 := Aside0.mk (And.intro (World.block_lt_of_cell? _ _ g3) g3)
      obtain ⟨mn, hmn⟩ : ∃ mn, cntR dn ((histOf L st rs).take jn) = mn := ⟨_, rfl⟩
      obtain ⟨sn, hsn⟩ : ∃ sn, sumQ dn ((histOf L st rs).take jn) = sn := ⟨_, rfl⟩
      have bm := cntR_bound dn ((histOf L st rs).take jn)
      have bs := sumQ_bound dn ((histOf L st rs).take jn) (fun p hp => HHM.out p (List.mem_of_mem_take hp))
      simp only [List.length_take] at bm bs
      rw [hmn] at bm
      rw [hsn] at bs
      have p3 : wr.cell? ⟨gm, dn, none⟩ = some (.int .i64 mn) := (blk_cell hm.out.2.1 dn).trans ((threeC_get _ dn hdn3).trans (by simp only [hmn]))
      have p4 := blk_frozen hm.out.2.1 dn
      have g2r := (hm.out.1.cell HG2.out.1).trans g2
      have e1 : wrap64 (mn + 1) = mn + 1 := by unfold wrap64; omega
      have HMN := Aside0.mk hmn
      have HSN := Aside0.mk hsn
      clear hlv hhp hv2 hdn hmn hsn g2 g3
      go_wp2_with fail
      have hb8 : Below w2.heap.size w2 (wr.setCell ⟨gm, dn, none⟩ (.int .i64 (mn + 1))) := below_set hm.out.1 (Nat.le_of_eq HG.out.1)
      have z2 := blk_far hm.out.2.2 (p := ⟨gm, dn, none⟩) (by show gs ≠ gm; have := HG.out.2; omega) (.int .i64 (mn + 1))
      have HM8 : Aside0 (((ad1.add jn).block < (wr.setCell ⟨gm, dn, none⟩ (.int .i64 (mn + 1))).heap.size ∧ (wr.setCell ⟨gm, dn, none⟩ (.int .i64 (mn + 1))).cell? (ad1.add jn) = some (.int .u8 dn)) ∧ ((ad3.add jn).block < (wr.setCell ⟨gm, dn, none⟩ (.int .i64 (mn + 1))).heap.size ∧ (wr.setCell ⟨gm, dn, none⟩ (.int .i64 (mn + 1))).cell? (ad3.add jn) = some (.int .i64 v)) ∧ gs < (wr.setCell ⟨gm, dn, none⟩ (.int .i64 (mn + 1))).heap.size ∧ (wr.setCell ⟨gm, dn, none⟩ (.int .i64 (mn + 1))).cell? ⟨gs, dn, none⟩ = some (.int .i64 sn) ∧ (wr.setCell ⟨gm, dn, none⟩ (.int .i64 (mn + 1))).frozen? ⟨gs, dn, none⟩ = false) :=
        ⟨⟨Nat.lt_of_lt_of_le HG2.out.1 hb8.size, (hb8.cell HG2.out.1).trans HG2.out.2⟩, ⟨Nat.lt_of_lt_of_le HG3.out.1 hb8.size, (hb8.cell HG3.out.1).trans HG3.out.2⟩, blk_lt z2, (blk_cell z2 dn).trans ((threeC_get _ dn hdn3).trans (by simp only [HSN.out])), blk_frozen z2 dn⟩
      have HB8 := Aside0.mk hb8
      have HZ2 := Aside0.mk z2
      have HZ1 := Aside0.mk (blk_put hm.out.2.1 dn (.int .i64 (mn + 1)) rfl)
      clear hb8 z2 p3 p4 g2r
      generalize wr.setCell ⟨gm, dn, none⟩ (.int .i64 (mn + 1)) = w8 at HM8 HB8 HZ1 HZ2 ⊢
      have e2 : wrap64 (2 * v) = 2 * v := by unfold wrap64; omega
      have e3 : wrap64 (2 * v - 1) = 2 * v - 1 := by unfold wrap64; omega
      have e6 : wrap64 (2 * v - 1 + 2 * (dn : Int)) = 2 * v - 1 + 2 * (dn : Int) := by unfold wrap64; omega
      have e7 : wrap64 (sn + (2 * v - 1 + 2 * (dn : Int))) = sn + (2 * v - 1 + 2 * (dn : Int)) := by unfold wrap64; omega
      refine start_ (n := 22) (S := (Below w8.heap.size w8)) (ds := [21]) #[false, false, false, false, false, false, false, false, false, false, false, false, false, false, false, false, false, false, false, false, false, false] (by kernel_rfl) rfl rfl ((Below.refl _ _).drew) (fun hHeld => ?_)
      refine with_tabW f22.tab7 f22.bits7 (fun HT_ HW_ => ?_)
      refine take_ (i := 0) (N := some 33) (v := ?_) (a' := ?_) #[true, false, false, false, false, false, false, false, false, false, false, false, false, false, false, false, false, false, false, false, false, false] rfl rfl (take_ofW HT_.out HW_.out (by kernel_rfl)) (fun _ _ _ h => h) (Or.inl ⟨by rfl, ?_⟩) hHeld ?_ ?_
      rotate_left
      · rintro w' hS
        have s0 := (hS.cell HM8.out.1.1).trans HM8.out.1.2
        have s1 := (hS.cell HM8.out.2.1.1).trans HM8.out.2.1.2
        have s2 := (hS.cell (p := ⟨gs, dn, none⟩) HM8.out.2.2.1).trans HM8.out.2.2.2.1
        clear hS
        go_simp
        with_reducible rfl
      rotate_left
      · simp only [Act.put, List.setIfInBounds_toArray, List.set_cons_zero, List.set_cons_succ, i64_w, i32_w]
        rfl
      refine take_ (i := 1) (N := some 34) (v := ?_) (a' := ?_) #[true, true, false, false, false, false, false, false, false, false, false, false, false, false, false, false, false, false, false, false, false, false] rfl rfl (take_ofW HT_.out HW_.out (by kernel_rfl)) (fun _ _ _ h => h) (Or.inl ⟨by rfl, ?_⟩) hHeld ?_ ?_
      rotate_left
      · rintro w' hS
        have s0 := (hS.cell HM8.out.1.1).trans HM8.out.1.2
        have s1 := (hS.cell HM8.out.2.1.1).trans HM8.out.2.1.2
        have s2 := (hS.cell (p := ⟨gs, dn, none⟩) HM8.out.2.2.1).trans HM8.out.2.2.2.1
        clear hS
        go_simp
        with_reducible rfl
      rotate_left
      · simp only [Act.put, List.setIfInBounds_toArray, List.set_cons_zero, List.set_cons_succ, i64_w, i32_w]
        rfl
      refine take_ (i := 2) (N := some 35) (v := ?_) (a' := ?_) #[true, true, true, false, false, false, false, false, false, false, false, false, false, false, false, false, false, false, false, false, false, false] rfl rfl (take_ofW HT_.out HW_.out (by kernel_rfl)) (fun _ _ _ h => h) (Or.inl ⟨by rfl, ?_⟩) hHeld ?_ ?_
      rotate_left
      · rintro w' hS
        have s0 := (hS.cell HM8.out.1.1).trans HM8.out.1.2
        have s1 := (hS.cell HM8.out.2.1.1).trans HM8.out.2.1.2
        have s2 := (hS.cell (p := ⟨gs, dn, none⟩) HM8.out.2.2.1).trans HM8.out.2.2.2.1
        clear hS
        go_simp
        with_reducible rfl
      rotate_left
      · simp only [Act.put, List.setIfInBounds_toArray, List.set_cons_zero, List.set_cons_succ, i64_w, i32_w]
        rfl
      refine take_ (i := 3) (N := some 36) (v := ?_) (a' := ?_) #[true, true, true, true, false, false, false, false, false, false, false, false, false, false, false, false, false, false, false, false, false, false] rfl rfl (take_ofW HT_.out HW_.out (by kernel_rfl)) (fun _ _ _ h => h) (Or.inl ⟨by rfl, ?_⟩) hHeld ?_ ?_
      rotate_left
      · rintro w' hS
        have s0 := (hS.cell HM8.out.1.1).trans HM8.out.1.2
        have s1 := (hS.cell HM8.out.2.1.1).trans HM8.out.2.1.2
        have s2 := (hS.cell (p := ⟨gs, dn, none⟩) HM8.out.2.2.1).trans HM8.out.2.2.2.1
        clear hS
        go_simp
        with_reducible rfl
      rotate_left
      · simp only [Act.put, List.setIfInBounds_toArray, List.set_cons_zero, List.set_cons_succ, i64_w, i32_w]
        rfl
      refine take_ (i := 4) (N := some 37) (v := ?_) (a' := ?_) #[true, true, true, true, true, false, false, false, false, false, false, false, false, false, false, false, false, false, false, false, false, false] rfl rfl (take_ofW HT_.out HW_.out (by kernel_rfl)) (fun _ _ _ h => h) (Or.inl ⟨by rfl, ?_⟩) hHeld ?_ ?_
      rotate_left
      · rintro w' hS
        have s0 := (hS.cell HM8.out.1.1).trans HM8.out.1.2
        have s1 := (hS.cell HM8.out.2.1.1).trans HM8.out.2.1.2
        have s2 := (hS.cell (p := ⟨gs, dn, none⟩) HM8.out.2.2.1).trans HM8.out.2.2.2.1
        clear hS
        go_simp
        with_reducible rfl
      rotate_left
      · simp only [Act.put, List.setIfInBounds_toArray, List.set_cons_zero, List.set_cons_succ, i64_w, i32_w]
        rfl
      refine take_ (i := 5) (N := some 38) (v := ?_) (a' := ?_) #[true, true, true, true, true, true, false, false, false, false, false, false, false, false, false, false, false, false, false, false, false, false] rfl rfl (take_ofW HT_.out HW_.out (by kernel_rfl)) (fun _ _ _ h => h) (Or.inl ⟨by rfl, ?_⟩) hHeld ?_ ?_
      rotate_left
      · rintro w' hS
        have s0 := (hS.cell HM8.out.1.1).trans HM8.out.1.2
        have s1 := (hS.cell HM8.out.2.1.1).trans HM8.out.2.1.2
        have s2 := (hS.cell (p := ⟨gs, dn, none⟩) HM8.out.2.2.1).trans HM8.out.2.2.2.1
        clear hS
        go_simp
        with_reducible rfl
      rotate_left
      · simp only [Act.put, List.setIfInBounds_toArray, List.set_cons_zero, List.set_cons_succ, i64_w, i32_w]
        rfl
      refine take_ (i := 6) (N := some 39) (v := ?_) (a' := ?_) #[true, true, true, true, true, true, true, false, false, false, false, false, false, false, false, false, false, false, false, false, false, false] rfl rfl (take_ofW HT_.out HW_.out (by kernel_rfl)) (fun _ _ _ h => h) (Or.inl ⟨by rfl, ?_⟩) hHeld ?_ ?_
      rotate_left
      · rintro w' hS
        have s0 := (hS.cell HM8.out.1.1).trans HM8.out.1.2
        have s1 := (hS.cell HM8.out.2.1.1).trans HM8.out.2.1.2
        have s2 := (hS.cell (p := ⟨gs, dn, none⟩) HM8.out.2.2.1).trans HM8.out.2.2.2.1
        clear hS
        go_simp
        with_reducible rfl
      rotate_left
      · simp only [Act.put, List.setIfInBounds_toArray, List.set_cons_zero, List.set_cons_succ, i64_w, i32_w]
        rfl
      refine take_ (i := 7) (N := some 40) (v := ?_) (a' := ?_) #[true, true, true, true, true, true, true, true, false, false, false, false, false, false, false, false, false, false, false, false, false, false] rfl rfl (take_ofW HT_.out HW_.out (by kernel_rfl)) (fun _ _ _ h => h) (Or.inl ⟨by rfl, ?_⟩) hHeld ?_ ?_
      rotate_left
      · rintro w' hS
        have s0 := (hS.cell HM8.out.1.1).trans HM8.out.1.2
        have s1 := (hS.cell HM8.out.2.1.1).trans HM8.out.2.1.2
        have s2 := (hS.cell (p := ⟨gs, dn, none⟩) HM8.out.2.2.1).trans HM8.out.2.2.2.1
        clear hS
        go_simp
        with_reducible rfl
      rotate_left
      · simp only [Act.put, List.setIfInBounds_toArray, List.set_cons_zero, List.set_cons_succ, i64_w, i32_w]
        rfl
      refine take_ (i := 8) (N := some 41) (v := ?_) (a' := ?_) #[true, true, true, true, true, true, true, true, true, false, false, false, false, false, false, false, false, false, false, false, false, false] rfl rfl (take_ofW HT_.out HW_.out (by kernel_rfl)) (fun _ _ _ h => h) (Or.inl ⟨by rfl, ?_⟩) hHeld ?_ ?_
      rotate_left
      · rintro w' hS
        have s0 := (hS.cell HM8.out.1.1).trans HM8.out.1.2
        have s1 := (hS.cell HM8.out.2.1.1).trans HM8.out.2.1.2
        have s2 := (hS.cell (p := ⟨gs, dn, none⟩) HM8.out.2.2.1).trans HM8.out.2.2.2.1
        clear hS
        go_simp
        with_reducible rfl
      rotate_left
      · simp only [Act.put, List.setIfInBounds_toArray, List.set_cons_zero, List.set_cons_succ, i64_w, i32_w]
        rfl
      refine take_ (i := 9) (N := some 42) (v := ?_) (a' := ?_) #[true, true, true, true, true, true, true, true, true, true, false, false, false, false, false, false, false, false, false, false, false, false] rfl rfl (take_ofW HT_.out HW_.out (by kernel_rfl)) (fun _ _ _ h => h) (Or.inl ⟨by rfl, ?_⟩) hHeld ?_ ?_
      rotate_left
      · rintro w' hS
        have s0 := (hS.cell HM8.out.1.1).trans HM8.out.1.2
        have s1 := (hS.cell HM8.out.2.1.1).trans HM8.out.2.1.2
        have s2 := (hS.cell (p := ⟨gs, dn, none⟩) HM8.out.2.2.1).trans HM8.out.2.2.2.1
        clear hS
        go_simp
        with_reducible rfl
      rotate_left
      · simp only [Act.put, List.setIfInBounds_toArray, List.set_cons_zero, List.set_cons_succ, i64_w, i32_w]
        rfl
      refine take_ (i := 10) (N := some 43) (v := ?_) (a' := ?_) #[true, true, true, true, true, true, true, true, true, true, true, false, false, false, false, false, false, false, false, false, false, false] rfl rfl (take_ofW HT_.out HW_.out (by kernel_rfl)) (fun _ _ _ h => h) (Or.inl ⟨by rfl, ?_⟩) hHeld ?_ ?_
      rotate_left
      · rintro w' hS
        have s0 := (hS.cell HM8.out.1.1).trans HM8.out.1.2
        have s1 := (hS.cell HM8.out.2.1.1).trans HM8.out.2.1.2
        have s2 := (hS.cell (p := ⟨gs, dn, none⟩) HM8.out.2.2.1).trans HM8.out.2.2.2.1
        clear hS
        go_simp
        with_reducible rfl
      rotate_left
      · simp only [Act.put, List.setIfInBounds_toArray, List.set_cons_zero, List.set_cons_succ, i64_w, i32_w]
        rfl
      refine take_ (i := 11) (N := some 44) (v := ?_) (a' := ?_) #[true, true, true, true, true, true, true, true, true, true, true, true, false, false, false, false, false, false, false, false, false, false] rfl rfl (take_ofW HT_.out HW_.out (by kernel_rfl)) (fun _ _ _ h => h) (Or.inl ⟨by rfl, ?_⟩) hHeld ?_ ?_
      rotate_left
      · rintro w' hS
        have s0 := (hS.cell HM8.out.1.1).trans HM8.out.1.2
        have s1 := (hS.cell HM8.out.2.1.1).trans HM8.out.2.1.2
        have s2 := (hS.cell (p := ⟨gs, dn, none⟩) HM8.out.2.2.1).trans HM8.out.2.2.2.1
        clear hS
        go_simp
        with_reducible rfl
      rotate_left
      · simp only [Act.put, List.setIfInBounds_toArray, List.set_cons_zero, List.set_cons_succ, i64_w, i32_w]
        rfl
      refine take_ (i := 12) (N := some 45) (v := ?_) (a' := ?_) #[true, true, true, true, true, true, true, true, true, true, true, true, true, false, false, false, false, false, false, false, false, false] rfl rfl (take_ofW HT_.out HW_.out (by kernel_rfl)) (fun _ _ _ h => h) (Or.inl ⟨by rfl, ?_⟩) hHeld ?_ ?_
      rotate_left
      · rintro w' hS
        have s0 := (hS.cell HM8.out.1.1).trans HM8.out.1.2
        have s1 := (hS.cell HM8.out.2.1.1).trans HM8.out.2.1.2
        have s2 := (hS.cell (p := ⟨gs, dn, none⟩) HM8.out.2.2.1).trans HM8.out.2.2.2.1
        clear hS
        go_simp
        with_reducible rfl
      rotate_left
      · simp only [Act.put, List.setIfInBounds_toArray, List.set_cons_zero, List.set_cons_succ, i64_w, i32_w]
        rfl
      refine take_ (i := 13) (N := some 46) (v := ?_) (a' := ?_) #[true, true, true, true, true, true, true, true, true, true, true, true, true, true, false, false, false, false, false, false, false, false] rfl rfl (take_ofW HT_.out HW_.out (by kernel_rfl)) (fun _ _ _ h => h) (Or.inl ⟨by rfl, ?_⟩) hHeld ?_ ?_
      rotate_left
      · rintro w' hS
        have s0 := (hS.cell HM8.out.1.1).trans HM8.out.1.2
        have s1 := (hS.cell HM8.out.2.1.1).trans HM8.out.2.1.2
        have s2 := (hS.cell (p := ⟨gs, dn, none⟩) HM8.out.2.2.1).trans HM8.out.2.2.2.1
        clear hS
        go_simp
        with_reducible rfl
      rotate_left
      · simp only [Act.put, List.setIfInBounds_toArray, List.set_cons_zero, List.set_cons_succ, i64_w, i32_w]
        rfl
      refine take_ (i := 14) (N := some 47) (v := ?_) (a' := ?_) #[true, true, true, true, true, true, true, true, true, true, true, true, true, true, true, false, false, false, false, false, false, false] rfl rfl (take_ofW HT_.out HW_.out (by kernel_rfl)) (fun _ _ _ h => h) (Or.inl ⟨by rfl, ?_⟩) hHeld ?_ ?_
      rotate_left
      · rintro w' hS
        have s0 := (hS.cell HM8.out.1.1).trans HM8.out.1.2
        have s1 := (hS.cell HM8.out.2.1.1).trans HM8.out.2.1.2
        have s2 := (hS.cell (p := ⟨gs, dn, none⟩) HM8.out.2.2.1).trans HM8.out.2.2.2.1
        clear hS
        go_simp
        with_reducible rfl
      rotate_left
      · simp only [Act.put, List.setIfInBounds_toArray, List.set_cons_zero, List.set_cons_succ, i64_w, i32_w]
        rfl
      refine take_ (i := 15) (N := some 48) (v := ?_) (a' := ?_) #[true, true, true, true, true, true, true, true, true, true, true, true, true, true, true, true, false, false, false, false, false, false] rfl rfl (take_ofW HT_.out HW_.out (by kernel_rfl)) (fun _ _ _ h => h) (Or.inl ⟨by rfl, ?_⟩) hHeld ?_ ?_
      rotate_left
      · rintro w' hS
        have s0 := (hS.cell HM8.out.1.1).trans HM8.out.1.2
        have s1 := (hS.cell HM8.out.2.1.1).trans HM8.out.2.1.2
        have s2 := (hS.cell (p := ⟨gs, dn, none⟩) HM8.out.2.2.1).trans HM8.out.2.2.2.1
        clear hS
        go_simp
        with_reducible rfl
      rotate_left
      · simp only [Act.put, List.setIfInBounds_toArray, List.set_cons_zero, List.set_cons_succ, i64_w, i32_w]
        rfl
      refine take_ (i := 16) (N := some 49) (v := ?_) (a' := ?_) #[true, true, true, true, true, true, true, true, true, true, true, true, true, true, true, true, true, false, false, false, false, false] rfl rfl (take_ofW HT_.out HW_.out (by kernel_rfl)) (fun _ _ _ h => h) (Or.inl ⟨by rfl, ?_⟩) hHeld ?_ ?_
      rotate_left
      · rintro w' hS
        have s0 := (hS.cell HM8.out.1.1).trans HM8.out.1.2
        have s1 := (hS.cell HM8.out.2.1.1).trans HM8.out.2.1.2
        have s2 := (hS.cell (p := ⟨gs, dn, none⟩) HM8.out.2.2.1).trans HM8.out.2.2.2.1
        clear hS
        go_simp
        with_reducible rfl
      rotate_left
      · simp only [Act.put, List.setIfInBounds_toArray, List.set_cons_zero, List.set_cons_succ, i64_w, i32_w]
        rfl
      refine take_ (i := 17) (N := some 50) (v := ?_) (a' := ?_) #[true, true, true, true, true, true, true, true, true, true, true, true, true, true, true, true, true, true, false, false, false, false] rfl rfl (take_ofW HT_.out HW_.out (by kernel_rfl)) (fun _ _ _ h => h) (Or.inl ⟨by rfl, ?_⟩) hHeld ?_ ?_
      rotate_left
      · rintro w' hS
        have s0 := (hS.cell HM8.out.1.1).trans HM8.out.1.2
        have s1 := (hS.cell HM8.out.2.1.1).trans HM8.out.2.1.2
        have s2 := (hS.cell (p := ⟨gs, dn, none⟩) HM8.out.2.2.1).trans HM8.out.2.2.2.1
        clear hS
        go_simp
        with_reducible rfl
      rotate_left
      · simp only [Act.put, List.setIfInBounds_toArray, List.set_cons_zero, List.set_cons_succ, i64_w, i32_w]
        rfl
      refine take_ (i := 18) (N := some 51) (v := ?_) (a' := ?_) #[true, true, true, true, true, true, true, true, true, true, true, true, true, true, true, true, true, true, true, false, false, false] rfl rfl (take_ofW HT_.out HW_.out (by kernel_rfl)) (fun _ _ _ h => h) (Or.inl ⟨by rfl, ?_⟩) hHeld ?_ ?_
      rotate_left
      · rintro w' hS
        have s0 := (hS.cell HM8.out.1.1).trans HM8.out.1.2
        have s1 := (hS.cell HM8.out.2.1.1).trans HM8.out.2.1.2
        have s2 := (hS.cell (p := ⟨gs, dn, none⟩) HM8.out.2.2.1).trans HM8.out.2.2.2.1
        clear hS
        go_simp
        with_reducible rfl
      rotate_left
      · simp only [Act.put, List.setIfInBounds_toArray, List.set_cons_zero, List.set_cons_succ, i64_w, i32_w]
        rfl
      refine take_ (i := 19) (N := some 52) (v := ?_) (a' := ?_) #[true, true, true, true, true, true, true, true, true, true, true, true, true, true, true, true, true, true, true, true, false, false] rfl rfl (take_ofW HT_.out HW_.out (by kernel_rfl)) (fun _ _ _ h => h) (Or.inl ⟨by rfl, ?_⟩) hHeld ?_ ?_
      rotate_left
      · rintro w' hS
        have s0 := (hS.cell HM8.out.1.1).trans HM8.out.1.2
        have s1 := (hS.cell HM8.out.2.1.1).trans HM8.out.2.1.2
        have s2 := (hS.cell (p := ⟨gs, dn, none⟩) HM8.out.2.2.1).trans HM8.out.2.2.2.1
        clear hS
        go_simp
        with_reducible rfl
      rotate_left
      · simp only [Act.put, List.setIfInBounds_toArray, List.set_cons_zero, List.set_cons_succ, i64_w, i32_w]
        rfl
      refine take_ (i := 20) (N := some 53) (v := ?_) (a' := ?_) #[true, true, true, true, true, true, true, true, true, true, true, true, true, true, true, true, true, true, true, true, true, false] rfl rfl (take_ofW HT_.out HW_.out (by kernel_rfl)) (fun _ _ _ h => h) (Or.inl ⟨by rfl, ?_⟩) hHeld ?_ ?_
      rotate_left
      · rintro w' hS
        have s0 := (hS.cell HM8.out.1.1).trans HM8.out.1.2
        have s1 := (hS.cell HM8.out.2.1.1).trans HM8.out.2.1.2
        have s2 := (hS.cell (p := ⟨gs, dn, none⟩) HM8.out.2.2.1).trans HM8.out.2.2.2.1
        clear hS
        go_simp
        with_reducible rfl
      rotate_left
      · simp only [Act.put, List.setIfInBounds_toArray, List.set_cons_zero, List.set_cons_succ, i64_w, i32_w]
        rfl
      have t2 := (hHeld.cell (p := ⟨gs, dn, none⟩) HM8.out.2.2.1).trans HM8.out.2.2.2.1
      have t3 := HM8.out.2.2.2.2
      refine last_ (i := 21) (N := none) #[true, true, true, true, true, true, true, true, true, true, true, true, true, true, true, true, true, true, true, true, true, true] rfl rfl (one_of HT_.out (by kernel_rfl)) (by decide) (fun K hK => ?_)
      refine skip_ (w1 := ?_) (by rfl) rfl ?_ ?_
      rotate_left
      · go_simp
        rfl
      refine hK.out _ _ ?_
      clear hK K
      refine done_ (done_of HT_.out (by kernel_rfl)) ?_
      clear e1 e2 e3 e6 e7
      go_wp2_with fail
      go_roundw
      case rel =>
        refine ⟨jn + 1, by omega, by go_num, ⟨(below_set HB8.out (by have := HG.out; show w2.heap.size ≤ gs; omega)).drew, ?_, ?_⟩⟩
        · refine blk_far ?_ (by show gm ≠ gs; have := HG.out.2; omega) _
          have h := HZ1.out
          rw [threeC_set _ dn hdn3 _ (fun r => cntR r ((histOf L st rs).take (jn + 1))) ?_ ?_] at h
          · exact h
          · show cntR dn _ = _
            rw [cntR_take _ jn dn hjh, HHP.out, HMN.out]; simp
          · intro r _ hrd
            show cntR r _ = cntR r _
            rw [cntR_take _ jn r hjh, HHP.out, if_neg (by simp; omega)]; omega
        · refine blk_put HZ2.out dn _ (threeC_set _ dn hdn3 _ _ ?_ ?_)
          · show sumQ dn _ = _
            rw [sumQ_take _ jn dn hjh, HHP.out, HSN.out, wsum sn v dn (by omega) (by omega) (by omega)]; simp
          · intro r _ hrd
            show sumQ r _ = sumQ r _
            rw [sumQ_take _ jn r hjh, HHP.out, if_neg (by simp; omega)]; omega
      case measure => simp [intOf]; omega
    · have hj6 : decide ((jn : Int) < (rs.length : Int)) = false := decide_eq_false (by omega)
      have htk : (histOf L st rs).take jn = histOf L st rs := List.take_of_length_le (by rw [HLEN.out]; omega)
      rw [htk] at hm
      obtain ⟨m0, hm0⟩ : ∃ m0, cntR 0 (histOf L st rs) = m0 := ⟨_, rfl⟩
      obtain ⟨m1, hm1⟩ : ∃ m1, cntR 1 (histOf L st rs) = m1 := ⟨_, rfl⟩
      obtain ⟨s0, hs0⟩ : ∃ s0, sumQ 0 (histOf L st rs) = s0 := ⟨_, rfl⟩
      obtain ⟨s1, hs1⟩ : ∃ s1, sumQ 1 (histOf L st rs) = s1 := ⟨_, rfl⟩
      have b0 := cntR_bound 0 (histOf L st rs)
      have b1 := cntR_bound 1 (histOf L st rs)
      have b2 := sumQ_bound 0 (histOf L st rs) HHM.out
      have b3 := sumQ_bound 1 (histOf L st rs) HHM.out
      rw [HLEN.out] at b0 b1 b2 b3
      rw [hm0] at b0
      rw [hm1] at b1
      rw [hs0] at b2
      rw [hs1] at b3
      have p0 : wr.cell? ⟨gm, 0, none⟩ = some (.int .i64 m0) := (blk_cell hm.out.2.1 0).trans (by rw [← hm0]; rfl)
      have p1 : wr.cell? ⟨gm, 1, none⟩ = some (.int .i64 m1) := (blk_cell hm.out.2.1 1).trans (by rw [← hm1]; rfl)
      have p2 : wr.cell? ⟨gs, 0, none⟩ = some (.int .i64 s0) := (blk_cell hm.out.2.2 0).trans (by rw [← hs0]; rfl)
      have p3 : wr.cell? ⟨gs, 1, none⟩ = some (.int .i64 s1) := (blk_cell hm.out.2.2 1).trans (by rw [← hs1]; rfl)
      have HM0 := Aside0.mk hm0
      have HM1 := Aside0.mk hm1
      have HS0 := Aside0.mk hs0
      have HS1 := Aside0.mk hs1
      clear hm0 hm1 hs0 hs1 htk
      by_cases hlt : m1 < m0
      · have d1 : decide (m1 < m0) = true := decide_eq_true hlt
        have HYC := hlt
        have hcm : 1 ≤ m1 ∨ m1 = 0 := by omega
        rcases hcm with hz | hz
        · have hz1 : (m1 == 0) = false := beq_eq_false_iff_ne.2 (by omega)
          have HV : Aside0 (midI (histOf L st rs) = ((500 * s1) / m1, true)) := ⟨by
            rw [midI_1 (by rw [HM0.out, HM1.out]; exact HYC), if_neg (by rw [HM1.out]; omega), midOf_floor _ 1 (by rw [HM1.out]; omega), ← sumQ_eq 1 (by omega) (histOf L st rs), HS1.out, HM1.out]⟩
          have DC := Aside0.mk (fun W : World => (down_calls (500 * s1) m1 W hz (by omega) (by omega) (by omega)).mono fun _ _ h => And.intro h.1 h.2.symm)
          obtain ⟨q, hq⟩ : ∃ q, (500 * s1) / m1 = q := ⟨_, rfl⟩
          rw [hq] at HV DC
          have e5 : wrap64 (500 * s1) = 500 * s1 := by unfold wrap64; omega
          clear hq HYC
          go_wp2_with fail
          go_quiet (exact Calls.quiet_of_same (DC.out _))
          go_wp2_with fail
          refine bodyPost_ret (v := .tuple #[.int .i64 q, .bool true]) (by simp [results, Try.results22, go_sem]) rfl ⟨by rw [HV.out], pw_below_drewN HWr.out _⟩
        · have HV : Aside0 (midI (histOf L st rs) = (0, false)) := ⟨by rw [midI_1 (by rw [HM0.out, HM1.out]; exact HYC), if_pos (by rw [HM1.out]; exact hz)]⟩
          subst hz
          clear HYC
          go_wp2_with fail
          refine bodyPost_ret (v := .tuple #[.int .i64 0, .bool false]) (by simp [results, Try.results22, go_sem]) rfl ⟨by rw [HV.out], HWr.out⟩
      · have d1 : decide (m1 < m0) = false := decide_eq_false hlt
        have HYC := hlt
        have hcm : 1 ≤ m0 ∨ m0 = 0 := by omega
        rcases hcm with hz | hz
        · have hz1 : (m0 == 0) = false := beq_eq_false_iff_ne.2 (by omega)
          have HV : Aside0 (midI (histOf L st rs) = ((500 * s0) / m0, true)) := ⟨by
            rw [midI_0 (by rw [HM0.out, HM1.out]; exact HYC), if_neg (by rw [HM0.out]; omega), midOf_floor _ 0 (by rw [HM0.out]; omega), ← sumQ_eq 0 (by omega) (histOf L st rs), HS0.out, HM0.out]⟩
          have DC := Aside0.mk (fun W : World => (down_calls (500 * s0) m0 W hz (by omega) (by omega) (by omega)).mono fun _ _ h => And.intro h.1 h.2.symm)
          obtain ⟨q, hq⟩ : ∃ q, (500 * s0) / m0 = q := ⟨_, rfl⟩
          rw [hq] at HV DC
          have e5 : wrap64 (500 * s0) = 500 * s0 := by unfold wrap64; omega
          clear hq HYC
          go_wp2_with fail
          go_quiet (exact Calls.quiet_of_same (DC.out _))
          go_wp2_with fail
          refine bodyPost_ret (v := .tuple #[.int .i64 q, .bool true]) (by simp [results, Try.results22, go_sem]) rfl ⟨by rw [HV.out], pw_below_drewN HWr.out _⟩
        · have HV : Aside0 (midI (histOf L st rs) = (0, false)) := ⟨by rw [midI_0 (by rw [HM0.out, HM1.out]; exact HYC), if_pos (by rw [HM0.out]; exact hz)]⟩
          subst hz
          clear HYC
          go_wp2_with fail
          refine bodyPost_ret (v := .tuple #[.int .i64 0, .bool false]) (by simp [results, Try.results22, go_sem]) rfl ⟨by rw [HV.out], HWr.out⟩
end Go.Proofs.Ytkglggggmlnleaa.Print
