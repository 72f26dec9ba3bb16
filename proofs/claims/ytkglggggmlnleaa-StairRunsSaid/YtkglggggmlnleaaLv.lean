/- The document's levels and histories: what its functions Next, Levels and IsHistory compute, by hand. -/
import Derived.Test.YtkglggggmlnleaaRf
import Derived.Test.YtkglggggmlnleaaPr
namespace Go.Proofs.Ytkglggggmlnleaa.Print
open Go.RowKit Go.Proofs.YtkglggggmlnleaaW.PrintWords Go.Proofs.YtkglggggmlnleaaW.PrintLast Go.Proofs.YtkglggggmlnleaaW.PrintMore
set_option linter.unusedVariables false
set_option linter.unusedSimpArgs false
theorem ret_int {k : IntKind} {a b : Int} (h : a = b) : Ending.returned (.int k a) = .returned (.int k b) := by rw [h]
section
attribute [local go_sem] max2_int min2_int max_two min_two
set_option maxHeartbeats 1000000 in
theorem next_calls (L l r : Int) (w : World) (hL : L ≤ 8) (h0 : 0 ≤ l) (h1 : l < L) : Calls Try.prog 65 #[.int .i64 L, .int .i64 l, .int .u8 r] w fun e w' => e = .returned (.int .i64 (nxt L l r)) ∧ w = w' := by
  by_cases hr : r = 0
  · subst hr
    have e1 : nxt L l 0 = max 0 (l - 1) := by unfold nxt; rw [if_pos rfl]
    have E1 := Aside0.mk e1
    clear e1
    go_enter Try.func65, Try.ntmps65
    go_wp2
    all_goals
      go_ret
      exact ⟨ret_int (by rw [E1.out]; omega), rfl⟩
  · by_cases hr1 : r = 1
    · subst hr1
      have e1 : nxt L l 1 = min (L - 1) (l + 1) := by unfold nxt; rw [if_neg (by omega), if_pos rfl]
      have E1 := Aside0.mk e1
      clear e1
      go_enter Try.func65, Try.ntmps65
      go_wp2
      all_goals
        go_ret
        exact ⟨ret_int (by rw [E1.out]; omega), rfl⟩
    · have b0 : (r == 0) = false := beq_eq_false_iff_ne.2 hr
      have b1 : (r == 1) = false := beq_eq_false_iff_ne.2 hr1
      have e1 : nxt L l r = l := by unfold nxt; rw [if_neg hr, if_neg hr1]
      have E1 := Aside0.mk e1
      clear e1 hr hr1
      go_enter Try.func65, Try.ntmps65
      go_wp2
      go_ret
      exact ⟨ret_int E1.out.symm, rfl⟩
end
/-- The levels of all runs, by their results. -/
def lvls (L : Int) : Int → List Int → List Int
  | _, [] => []
  | l, r :: rs => l :: lvls L (nxt L l r) rs
theorem lvls_len (L : Int) : ∀ (rs : List Int) (l : Int), (lvls L l rs).length = rs.length
  | [], _ => rfl
  | r :: rs, l => by simp [lvls, lvls_len L rs]
/-- The level behind some results. -/
def aft (L : Int) : Int → List Int → Int
  | l, [] => l
  | l, r :: rs => aft L (nxt L l r) rs
theorem aft_snoc (L r : Int) : ∀ (bs : List Int) (l : Int), aft L l (bs ++ [r]) = nxt L (aft L l bs) r
  | [], l => rfl
  | b :: bs, l => by simp [aft, aft_snoc L r bs]
theorem lvls_snoc (L r : Int) : ∀ (bs : List Int) (l : Int), lvls L l (bs ++ [r]) = lvls L l bs ++ [aft L l bs]
  | [], l => rfl
  | b :: bs, l => by simp [lvls, aft, lvls_snoc L r bs]
theorem aft_range {L : Int} : ∀ (bs : List Int) (l : Int), 0 ≤ l → l < L → 0 ≤ aft L l bs ∧ aft L l bs < L
  | [], l, h0, h1 => ⟨h0, h1⟩
  | b :: bs, l, h0, h1 => by
    have := nxt_range (L := L) (l := l) (r := b) h0 h1
    exact aft_range bs _ this.1 this.2
theorem cellU {w : World} {k : IntKind} {A : Option Addr} {rs : List Int} (h : Kd.C (Kd.int k) w A rs.length rs) (j : Nat) (hj : j < rs.length) : ∃ ad, A = some ad ∧ w.cell? (ad.add j) = some (.int k rs[j]) := by
  obtain ⟨ad, rfl, g0⟩ := Kd.at_int h (j : Int) (by omega) (by omega)
  have hrd : rd rs (j : Int) = rs[j] := by unfold rd; simp [List.getD_eq_getElem?_getD, hj]
  rw [hrd] at g0
  exact ⟨ad, rfl, g0⟩
set_option maxHeartbeats 2000000 in
set_option maxRecDepth 100000 in
theorem levels_calls (L st : Int) (A : Option Addr) (c : Nat) (rs : List Int) (w : World) (hr : Kd.C (Kd.int .u8) w A rs.length rs) (hL : L ≤ 8) (h0 : 0 ≤ st) (h1 : st < L) (hn : rs.length ≤ 1000) :
    Calls Try.prog 41 #[.int .i64 L, .int .i64 st, .slice A rs.length c] w fun e w' => ∃ v, e = .returned v ∧ Kd.R (Kd.int .i64) 3 w' w.heap.size (fun _ => True) v (lvls L st rs) ∧ Below w.heap.size w w' := by
  have HR := Aside0.mk hr
  clear hr
  go_enter Try.func41, Try.ntmps41
  go_wp2_with fail
  go_loopw [7, 8, 9] (fun o a j wr => ∃ jn : Nat, jn ≤ rs.length ∧ j = .int .i64 jn ∧ a = .int .i64 (aft L st (rs.take jn)) ∧ Aside0 (Kd.R (Kd.int .i64) 3 wr w.heap.size (fun _ => True) o (lvls L st (rs.take jn))) ∧ Aside0 (Below w.heap.size w wr)) (fun _ _ j _ => rs.length - (intOf j).toNat)
  case atStart => exact ⟨0, by omega, rfl, rfl, ⟨Kd.R_nil _ _ _ _ _⟩, ⟨Below.refl _ _⟩⟩
  case round =>
    obtain ⟨jn, hj, rfl, rfl, ho, hbw⟩ := hrel
    by_cases hj3 : jn < rs.length
    · have hj6 : decide ((jn : Int) < (rs.length : Int)) = true := decide_eq_true (by omega)
      have hj7 : (jn : Int) < (rs.length : Int) := by omega
      obtain ⟨ad, rfl, g0⟩ := cellU HR.out jn hj3
      have hlt := World.block_lt_of_cell? _ _ g0
      have ha := aft_range (L := L) (rs.take jn) st h0 h1
      have HS := Aside0.mk (lvls_snoc L rs[jn] (rs.take jn) st)
      have HA := Aside0.mk (aft_snoc L rs[jn] (rs.take jn) st)
      have HT : Aside0 (rs.take (jn + 1) = rs.take jn ++ [rs[jn]]) := ⟨by rw [List.take_add_one, List.getElem?_eq_getElem hj3]; rfl⟩
      have HL : Aside0 ((lvls L st (rs.take jn)).length ≤ jn) := ⟨by rw [lvls_len]; exact List.length_take_le _ _⟩
      have G0 := Aside0.mk (And.intro hlt g0)
      obtain ⟨av, hav⟩ : ∃ av, aft L st (rs.take jn) = av := ⟨_, rfl⟩
      obtain ⟨lv, hlv⟩ : ∃ lv, lvls L st (rs.take jn) = lv := ⟨_, rfl⟩
      rw [hav] at ha HS HA ⊢
      rw [hlv] at HS HL ho
      clear hav hlv hlt g0
      go_wp2_with (first | ((with_reducible refine gate_builtin (b := .append) (xs := #[.tmp 17, .tmp 19]) rfl ?_); at_builtin; refine Kd.R_append (Kd.int .i64) (w0 := w) w.heap.size rfl (.tmp 17) (.tmp 19) 48 3 (.int .i64 0) 8 rfl Try.underlying48 info3 rfl (by decide) (by omega) _ lv av [.int .i64 av] (fun _ => True) (fun _ => False) rfl (by simp [Act.eval]) rfl (fun _ hk => hk.elim) (fun _ _ => trivial) ho.out hbw.out hbw.out.size (by have := HL.out; omega) ?_; intro v7 w8 ho2 hb2 hg2 hat2; have HO2 := Aside0.mk ho2; have HB8 := Aside0.mk hb2; clear ho2 hb2 hg2 hat2; have g1 : w8.cell? (ad.add jn) = some (.int .u8 rs[jn]) := (HB8.out.cell G0.out.1).trans G0.out.2) | (go_at_call 65; refine (next_calls L av rs[jn] _ hL ha.1 ha.2).mono ?_; rintro e w9 ⟨rfl, rfl⟩))
      go_roundw
      case rel => exact ⟨jn + 1, by omega, by go_num, by rw [HT.out, HA.out], ⟨by rw [HT.out, HS.out]; exact HO2.out⟩, HB8⟩
      case measure => simp [intOf]; omega
    · have hj6 : decide ((jn : Int) < (rs.length : Int)) = false := decide_eq_false (by omega)
      have htk : rs.take jn = rs := List.take_of_length_le (by omega)
      rw [htk] at ho
      go_wp2_with fail
      go_ret
      exact ⟨_, rfl, ho.out, hbw.out⟩
theorem cell_al {w : World} {p : Addr} {v : Value} (h : w.cell? p = some v) (o : Obj) : (w.alloc o).cell? p = some v := pw_cell_below ((Below.refl _ w).alloc (Nat.le_refl _) o) h
theorem lvls_get (L : Int) : ∀ (rs : List Int) (l : Int) (j : Nat), j < rs.length → (lvls L l rs)[j]? = some (aft L l (rs.take j))
  | [], l, j, h => by simp at h
  | r :: rs, l, 0, h => by simp [lvls, aft]
  | r :: rs, l, j + 1, h => by
    simp only [lvls, List.getElem?_cons_succ, List.take_succ_cons, aft]
    exact lvls_get L rs _ j (by simpa using h)
theorem walk_step (L v : Int) (xs : List S67) (rs : List Int) (j : Nat) (hx : j < xs.length) (hr : j < rs.length) : walkB L v (xs.drop j) (rs.drop j) = (decide (rs[j] < 3) && mayB xs[j] v rs[j] && walkB L (nxt L v rs[j]) (xs.drop (j + 1)) (rs.drop (j + 1))) := by
  rw [List.drop_eq_getElem_cons hx, List.drop_eq_getElem_cons hr]; rfl
set_option maxHeartbeats 4000000 in
set_option maxRecDepth 100000 in
theorem ishist_calls (L st : Int) (A : Option Addr) (c : Nat) (l : List S43) (A1 : Option Addr) (c1 : Nat) (rs : List Int) (w : World) (hr : Kd.C k43 w A l.length l) (hc : l.length ≤ c) (hr1 : Kd.C (Kd.int .u8) w A1 rs.length rs)
    (hL : L ≤ 8) (h0 : 0 ≤ st) (h1 : st < L) (hl : l.length ≤ 1000) (hx : ∀ x ∈ l, -1 ≤ x.f0) (b : Bool) (hb : (decide (rs.length = l.length) && walkB L st (l.map up) rs) = b) :
    Calls Try.prog 35 #[.agg #[.int .i64 L, .int .i64 st, .slice A l.length c], .slice A1 rs.length c1] w fun e w' => e = .returned (.bool b) ∧ Below w.heap.size w w' := by
  have hu24 := Try.underlying24
  have hu43 := Try.underlying43
  have HR := Aside0.mk hr
  have HR1 := Aside0.mk hr1
  have HX := Aside0.mk hx
  have HB := Aside0.mk hb
  have HMX := Kd.C_max hr1
  clear hr hr1 hx hb
  have HW : Aside0 (Below w.heap.size w (w.alloc (.cells #[.int .i64 L, .int .i64 st, .slice A l.length c] 24))) := ⟨(Below.refl _ w).alloc (by simp) _⟩
  have HK := Aside0.mk (blk_new w (.cells #[.int .i64 L, .int .i64 st, .slice A l.length c] 24))
  go_enter Try.func35, Try.ntmps35
  by_cases hn : rs.length = l.length
  · have HN := Aside0.mk hn
    have n1 : ((rs.length : Int) == (l.length : Int)) = true := beq_iff_eq.2 (by omega)
    have n2 : ((rs.length : Int) != (l.length : Int)) = false := bne_eq_false_iff_eq.2 (by omega)
    have n3 : (rs.length == l.length) = true := beq_iff_eq.2 hn
    clear hn
    go_wp2_with fail
    refine (levels_calls L st A1 c1 rs _ (Kd.C_below HR1.out HW.out) hL h0 h1 (by have := HN.out; omega)).mono ?_
    rintro e w2 ⟨v2, rfl, hR2, hb2⟩
    obtain ⟨A2, c2, rfl, hc2, hC2⟩ := Kd.R_reads hR2
    rw [lvls_len] at hC2 ⊢
    have HC2 := Aside0.mk (show Kd.C (Kd.int .i64) w2 A2 (lvls L st rs).length (lvls L st rs) by rw [lvls_len]; exact hC2)
    have HK2 := Aside0.mk (blk_below HK.out hb2)
    have HW2 := Aside0.mk (HW.out.trans (hb2.mono HW.out.size))
    clear hR2 hc2 hC2 hb2
    go_wp2_with fail
    go_loopw [6] (fun j wr => ∃ jn : Nat, jn ≤ rs.length ∧ j = .int .i64 jn ∧ Aside0 (walkB L st (l.map up) rs = walkB L (aft L st (rs.take jn)) ((l.map up).drop jn) (rs.drop jn)) ∧ Aside0 (Below w2.heap.size w2 wr)) (fun j _ => rs.length - (intOf j).toNat)
    case atStart => exact ⟨0, by omega, rfl, ⟨rfl⟩, ⟨Below.refl _ _⟩⟩
    case round =>
      obtain ⟨jn, hj, rfl, hwk, hbw⟩ := hrel
      have HKr := Aside0.mk (blk_below HK2.out hbw.out)
      have HWr := Aside0.mk (HW2.out.trans (hbw.out.mono HW2.out.size))
      have q2 : wr.cell? ⟨w.heap.size, 2, none⟩ = some (.slice A l.length c) := (blk_cell HKr.out 2).trans rfl
      by_cases hj3 : jn < rs.length
      · have hj6 : decide ((jn : Int) < (rs.length : Int)) = true := decide_eq_true (by omega)
        have hj7 : (jn : Int) < (rs.length : Int) := by omega
        have hjl : jn < l.length := by have := HN.out; omega
        have hjl7 : (jn : Int) < (l.length : Int) := by omega
        obtain ⟨ad, rfl, g0, g1⟩ := cell43 (Kd.C_below HR.out HWr.out) jn hjl
        obtain ⟨ad1, rfl, g2⟩ := cellU (Kd.C_below HR1.out HWr.out) jn hj3
        obtain ⟨ad2, rfl, g3⟩ := cellU (Kd.C_below HC2.out hbw.out) jn (by rw [lvls_len]; exact hj3)
        have hlv : (lvls L st rs)[jn]'(by rw [lvls_len]; exact hj3) = aft L st (rs.take jn) := by
          have := lvls_get L rs st jn hj3
          rw [List.getElem?_eq_getElem (by rw [lvls_len]; exact hj3)] at this
          exact Option.some.inj this
        rw [hlv] at g3
        have hup : (l.map up)[jn]'(by simpa using hjl) = up l[jn] := by simp
        have hst := walk_step L (aft L st (rs.take jn)) (l.map up) rs jn (by simpa using hjl) hj3
        rw [hup] at hst
        have hS := HX.out _ (List.getElem_mem hjl)
        have HA := Aside0.mk (aft_snoc L rs[jn] (rs.take jn) st)
        have HT : Aside0 (rs.take (jn + 1) = rs.take jn ++ [rs[jn]]) := ⟨by rw [List.take_add_one, List.getElem?_eq_getElem hj3]; rfl⟩
        obtain ⟨av, hav⟩ : ∃ av, aft L st (rs.take jn) = av := ⟨_, rfl⟩
        obtain ⟨rv, hrv⟩ : ∃ rv, rs[jn] = rv := ⟨_, rfl⟩
        obtain ⟨y0, hy0⟩ : ∃ y0, l[jn].f0 = y0 := ⟨_, rfl⟩
        obtain ⟨y1, hy1⟩ : ∃ y1, l[jn].f1 = y1 := ⟨_, rfl⟩
        have hmy : mayB (up l[jn]) av rv = ((y0 == -1 || y0 == av) && (y1 == 3 || y1 == rv)) := by unfold mayB up; rw [hy0, hy1]
        rw [hav] at g3 hst HA hwk
        rw [hrv] at g2 hst HA HT
        rw [hy0] at g0 hS
        rw [hy1] at g1
        rw [hmy] at hst
        have HST := Aside0.mk (hwk.out.trans hst)
        have HBB := Aside0.mk (HB.out)
        clear hlv hup hst hav hrv hy0 hy1 hmy hwk
        have hbad : (decide (rv < 3) && ((y0 == -1 || y0 == av) && (y1 == 3 || y1 == rv))) = false → b = false := fun h => by
          rw [← HB.out, HST.out, h, Bool.false_and, Bool.and_false]
        have HBAD := Aside0.mk hbad
        have HWF : Aside0 (∀ W', Below wr.heap.size wr W' → Below w.heap.size w W') := ⟨fun W' h => HWr.out.trans (h.mono HWr.out.size)⟩
        clear hbad
        go_wp2_with fail
        have k0 : (wr.alloc (.cells #[.int .i64 y0, .int .u8 y1] 43)).cell? ⟨wr.heap.size, 0, none⟩ = some (.int .i64 y0) := (blk_cell (blk_new wr (.cells #[.int .i64 y0, .int .u8 y1] 43)) 0).trans rfl
        have k1 : (wr.alloc (.cells #[.int .i64 y0, .int .u8 y1] 43)).cell? ⟨wr.heap.size, 1, none⟩ = some (.int .u8 y1) := (blk_cell (blk_new wr (.cells #[.int .i64 y0, .int .u8 y1] 43)) 1).trans rfl
        have k2 := cell_al g2 (.cells #[.int .i64 y0, .int .u8 y1] 43)
        have k3 := cell_al g3 (.cells #[.int .i64 y0, .int .u8 y1] 43)
        have HA3 : Aside0 (Below wr.heap.size wr (wr.alloc (.cells #[.int .i64 y0, .int .u8 y1] 43))) := ⟨(Below.refl _ _).alloc (Nat.le_refl _) _⟩
        clear g0 g1 g2 g3 q2
        generalize wr.alloc (.cells #[.int .i64 y0, .int .u8 y1] 43) = w3 at k0 k1 k2 k3 HA3 ⊢
        have HBF : Aside0 (∀ W', Below wr.heap.size wr W' → Below w2.heap.size w2 W') := ⟨fun W' h => hbw.out.trans (h.mono hbw.out.size)⟩
        by_cases c1 : 2 < rv
        · have d1 : decide (2 < rv) = true := decide_eq_true c1
          obtain rfl := HBAD.out (by rw [decide_eq_false (by omega)]; rfl)
          clear c1
          go_quiet (fail)
          go_wp2_with fail
          go_ret
          exact ⟨rfl, HWF.out _ (pw_below_drewN HA3.out _)⟩
        · have d1 : decide (2 < rv) = false := decide_eq_false c1
          have HOK : Aside0 ((y0 = -1 ∨ y0 = av) → (y1 = 3 ∨ y1 = rv) → walkB L st (l.map up) rs = walkB L (nxt L av rv) ((l.map up).drop (jn + 1)) (rs.drop (jn + 1))) := ⟨fun e1 e2 => by
            have e1 : (y0 == -1 || y0 == av) = true := by simpa using e1
            have e2 : (y1 == 3 || y1 == rv) = true := by simpa using e2
            rw [HST.out, decide_eq_true (by omega), e1, e2]; rfl⟩
          clear c1
          have HC3 : (y0 = -1 ∧ decide (0 ≤ y0) = false) ∨ (y0 = av ∧ decide (0 ≤ y0) = true ∧ (y0 == av) = true ∧ (y0 != av) = false) ∨ ((y0 == -1) = false ∧ decide (0 ≤ y0) = true ∧ (y0 == av) = false ∧ (y0 != av) = true) := by
            by_cases e : y0 = -1
            · left; exact ⟨e, by simp; omega⟩
            · right
              by_cases e2 : y0 = av
              · left; exact ⟨e2, decide_eq_true (by omega), beq_iff_eq.2 e2, bne_eq_false_iff_eq.2 e2⟩
              · right; exact ⟨beq_eq_false_iff_ne.2 e, decide_eq_true (by omega), beq_eq_false_iff_ne.2 e2, bne_iff_ne.2 e2⟩
          have HC2 : (y1 = 3 ∧ (y1 == 3) = true ∧ (y1 != 3) = false) ∨ (y1 = rv ∧ (y1 == 3) = false ∧ (y1 != 3) = true ∧ (y1 == rv) = true ∧ (y1 != rv) = false) ∨ ((y1 == 3) = false ∧ (y1 != 3) = true ∧ (y1 == rv) = false ∧ (y1 != rv) = true) := by
            by_cases e : y1 = 3
            · left; exact ⟨e, beq_iff_eq.2 e, bne_eq_false_iff_eq.2 e⟩
            · right
              by_cases e2 : y1 = rv
              · left; exact ⟨e2, beq_eq_false_iff_ne.2 e, bne_iff_ne.2 e, beq_iff_eq.2 e2, bne_eq_false_iff_eq.2 e2⟩
              · right; exact ⟨beq_eq_false_iff_ne.2 e, bne_iff_ne.2 e, beq_eq_false_iff_ne.2 e2, bne_iff_ne.2 e2⟩
          rcases HC2 with ⟨e2, f1, f2⟩ | ⟨e2, f1, f2, f3, f4⟩ | ⟨f1, f2, f3, f4⟩
          · replace HOK := Aside0.mk (fun e1 => HOK.out e1 (.inl e2))
            clear e2
            rcases HC3 with ⟨e3, g1⟩ | ⟨e3, g1, g2, g3⟩ | ⟨g0, g1, g2, g3⟩
            · replace HOK := Aside0.mk (HOK.out (.inl e3))
              clear e3
              go_quiet (fail)
              go_wp2_with fail
              go_roundw
              case rel => exact ⟨jn + 1, by omega, by go_num, ⟨by rw [HOK.out, HT.out, HA.out]⟩, ⟨HBF.out _ (pw_below_drewN HA3.out _)⟩⟩
              case measure => simp [intOf]; omega
            · replace HOK := Aside0.mk (HOK.out (.inr e3))
              clear e3
              go_quiet (fail)
              go_wp2_with fail
              go_roundw
              case rel => exact ⟨jn + 1, by omega, by go_num, ⟨by rw [HOK.out, HT.out, HA.out]⟩, ⟨HBF.out _ (pw_below_drewN HA3.out _)⟩⟩
              case measure => simp [intOf]; omega
            · obtain rfl := HBAD.out (by rw [g0, g2]; simp)
              go_quiet (fail)
              go_wp2_with fail
              go_ret
              exact ⟨rfl, HWF.out _ (pw_below_drewN HA3.out _)⟩
          · replace HOK := Aside0.mk (fun e1 => HOK.out e1 (.inr e2))
            clear e2
            rcases HC3 with ⟨e3, g1⟩ | ⟨e3, g1, g2, g3⟩ | ⟨g0, g1, g2, g3⟩
            · replace HOK := Aside0.mk (HOK.out (.inl e3))
              clear e3
              go_quiet (fail)
              go_wp2_with fail
              go_roundw
              case rel => exact ⟨jn + 1, by omega, by go_num, ⟨by rw [HOK.out, HT.out, HA.out]⟩, ⟨HBF.out _ (pw_below_drewN HA3.out _)⟩⟩
              case measure => simp [intOf]; omega
            · replace HOK := Aside0.mk (HOK.out (.inr e3))
              clear e3
              go_quiet (fail)
              go_wp2_with fail
              go_roundw
              case rel => exact ⟨jn + 1, by omega, by go_num, ⟨by rw [HOK.out, HT.out, HA.out]⟩, ⟨HBF.out _ (pw_below_drewN HA3.out _)⟩⟩
              case measure => simp [intOf]; omega
            · obtain rfl := HBAD.out (by rw [g0, g2]; simp)
              go_quiet (fail)
              go_wp2_with fail
              go_ret
              exact ⟨rfl, HWF.out _ (pw_below_drewN HA3.out _)⟩
          · obtain rfl := HBAD.out (by rw [f1, f3]; simp)
            go_quiet (fail)
            go_wp2_with fail
            go_ret
            exact ⟨rfl, HWF.out _ (pw_below_drewN HA3.out _)⟩
      · have hj6 : decide ((jn : Int) < (rs.length : Int)) = false := decide_eq_false (by omega)
        have : b = true := by
          rw [← HB.out, hwk.out, List.drop_of_length_le (show rs.length ≤ jn by omega)]
          have := HN.out
          cases (l.map up).drop jn <;> simp [walkB, this]
        subst this
        go_wp2_with fail
        go_ret
        exact ⟨rfl, HWr.out⟩
  · have n1 : ((rs.length : Int) == (l.length : Int)) = false := beq_eq_false_iff_ne.2 (by omega)
    have n2 : ((rs.length : Int) != (l.length : Int)) = true := bne_iff_ne.2 (by omega)
    have n3 : (rs.length == l.length) = false := beq_eq_false_iff_ne.2 hn
    have : b = false := by rw [← HB.out, decide_eq_false hn]; rfl
    subst this
    clear hn
    go_wp2_with fail
    go_ret
    exact ⟨rfl, HW.out⟩
end Go.Proofs.Ytkglggggmlnleaa.Print
