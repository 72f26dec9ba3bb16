/- The document's levels and histories: what its functions Next, Levels and IsHistory compute, by hand. -/
import Derived.Test.YtkglggggmlnleaaRf
import Derived.Test.YtkglggggmlnleaaPr
namespace Go.Proofs.Ytkglggggmlnleaa.Print
open Go.RowKit Go.Proofs.YtkglggggmlnleaaW.PrintWords Go.Proofs.YtkglggggmlnleaaW.PrintLast Go.Proofs.YtkglggggmlnleaaW.PrintMore
set_option linter.unusedVariables false
set_option linter.unusedSimpArgs false
theorem ret_int {k : IntKind} {a b : Int} (h : a = b) : Ending.returned (.int k a) = .returned (.int k b) := by rw [h]
section
attribute [local go_sem] max2_int min2_int max_two min_two
set_option maxHeartbeats 1000000 in
theorem next_calls (L l r : Int) (w : World) (hL : L ≤ 8) (h0 : 0 ≤ l) (h1 : l < L) : Calls Try.prog 65 #[.int .i64 L, .int .i64 l, .int .u8 r] w fun e w' => e = .returned (.int .i64 (nxt L l r)) ∧ w = w' := by
  by_cases hr : r = 0
  · subst hr
    have e1 : nxt L l 0 = max 0 (l - 1) := by unfold nxt; rw [if_pos rfl]
    have E1 := Aside0.mk e1
    clear e1
    go_enter Try.func65, Try.ntmps65
    go_wp2
    all_goals
      go_ret
      exact ⟨ret_int (by rw [E1.out]; omega), rfl⟩
  · by_cases hr1 : r = 1
    · subst hr1
      have e1 : nxt L l 1 = min (L - 1) (l + 1) := by unfold nxt; rw [if_neg (by omega), if_pos rfl]
      have E1 := Aside0.mk e1
      clear e1
      go_enter Try.func65, Try.ntmps65
      go_wp2
      all_goals
        go_ret
        exact ⟨ret_int (by rw [E1.out]; omega), rfl⟩
    · have b0 : (r == 0) = false := beq_eq_false_iff_ne.2 hr
      have b1 : (r == 1) = false := beq_eq_false_iff_ne.2 hr1
      have e1 : nxt L l r = l := by unfold nxt; rw [if_neg hr, if_neg hr1]
      have E1 := Aside0.mk e1
      clear e1 hr hr1
      go_enter Try.func65, Try.ntmps65
      go_wp2
      go_ret
      exact ⟨ret_int E1.out.symm, rfl⟩
end
/-- The levels of all runs, by their results. -/
def lvls (L : Int) : Int → List Int → List Int
  | _, [] => []
  | l, r :: rs => l :: lvls L (nxt L l r) rs
theorem lvls_len (L : Int) : ∀ (rs : List Int) (l : Int), (lvls L l rs).length = rs.length
  | [], _ => rfl
  | r :: rs, l => by simp [lvls, lvls_len L rs]
/-- The level behind some results. -/
def aft (L : Int) : Int → List Int → Int
  | l, [] => l
  | l, r :: rs => aft L (nxt L l r) rs
theorem aft_snoc (L r : Int) : ∀ (bs : List Int) (l : Int), aft L l (bs ++ [r]) = nxt L (aft L l bs) r
  | [], l => rfl
  | b :: bs, l => by simp [aft, aft_snoc L r bs]
theorem lvls_snoc (L r : Int) : ∀ (bs : List Int) (l : Int), lvls L l (bs ++ [r]) = lvls L l bs ++ [aft L l bs]
  | [], l => rfl
  | b :: bs, l => by simp [lvls, aft, lvls_snoc L r bs]
theorem aft_range {L : Int} : ∀ (bs : List Int) (l : Int), 0 ≤ l → l < L → 0 ≤ aft L l bs ∧ aft L l bs < L
  | [], l, h0, h1 => ⟨h0, h1⟩
  | b :: bs, l, h0, h1 => by
    have := nxt_range (L := L) (l := l) (r := b) h0 h1
    exact aft_range bs _ this.1 this.2
theorem cellU {w : World} {k : IntKind} {A : Option Addr} {rs : List Int} (h : Kd.C (Kd.int k) w A rs.length rs) (j : Nat) (hj : j < rs.length) : ∃ ad, A = some ad ∧ w.cell? (ad.add j) = some (.int k rs[j]) := by
  obtain ⟨ad, rfl, g0⟩ := Kd.at_int h (j : Int) (by omega) (by omega)
  have hrd : rd rs (j : Int) = rs[j] := by unfold rd; simp [List.getD_eq_getElem?_getD, hj]
  rw [hrd] at g0
  exact ⟨ad, rfl, g0⟩
set_option maxHeartbeats 2000000 in
set_option maxRecDepth 100000 in
theorem levels_calls (L st : Int) (A : Option Addr) (c : Nat) (rs : List Int) (w : World) (hr : Kd.C (Kd.int .u8) w A rs.length rs) (hL : L ≤ 8) (h0 : 0 ≤ st) (h1 : st < L) (hn : rs.length ≤ 1000) :
    Calls Try.prog 41 #[.int .i64 L, .int .i64 st, .slice A rs.length c] w fun e w' => ∃ v, e = .returned v ∧ Kd.R (Kd.int .i64) 3 w' w.heap.size (fun _ => True) v (lvls L st rs) ∧ Below w.heap.size w w' := by
  have HR := Aside0.mk hr
  clear hr
  go_enter Try.func41, Try.ntmps41
  go_wp2_with fail
  go_loopw [7, 8, 9] (fun o a j wr => ∃ jn : Nat, jn ≤ rs.length ∧ j = .int .i64 jn ∧ a = .int .i64 (aft L st (rs.take jn)) ∧ Aside0 (Kd.R (Kd.int .i64) 3 wr w.heap.size (fun _ => True) o (lvls L st (rs.take jn))) ∧ Aside0 (Below w.heap.size w wr)) (fun _ _ j _ => rs.length - (intOf j).toNat)
  case atStart => exact ⟨0, by omega, rfl, rfl, ⟨Kd.R_nil _ _ _ _ _⟩, ⟨Below.refl _ _⟩⟩
  case round =>
    obtain ⟨jn, hj, rfl, rfl, ho, hbw⟩ := hrel
    by_cases hj3 : jn < rs.length
    · have hj6 : decide ((jn : Int) < (rs.length : Int)) = true := decide_eq_true (by omega)
      have hj7 : (jn : Int) < (rs.length : Int) := by omega
      obtain ⟨ad, rfl, g0⟩ := cellU HR.out jn hj3
      have hlt := World.block_lt_of_cell? _ _ g0
      have ha := aft_range (L := L) (rs.take jn) st h0 h1
      have HS := Aside0.mk (lvls_snoc L rs[jn] (rs.take jn) st)
      have HA := Aside0.mk (aft_snoc L rs[jn] (rs.take jn) st)
      have HT : Aside0 (rs.take (jn + 1) = rs.take jn ++ [rs[jn]]) := ⟨by rw [List.take_add_one, List.getElem?_eq_getElem hj3]; rfl⟩
      have HL : Aside0 ((lvls L st (rs.take jn)).length ≤ jn) := ⟨by rw [lvls_len]; exact List.length_take_le _ _⟩
      have G0 := Aside0.mk (And.intro hlt g0)
      obtain ⟨av, hav⟩ : ∃ av, aft L st (rs.take jn) = av := ⟨_, rfl⟩
      obtain ⟨lv, hlv⟩ : ∃ lv, lvls L st (rs.take jn) = lv := ⟨_, rfl⟩
      rw [hav] at ha HS HA ⊢
      rw [hlv] at HS HL ho
      clear hav hlv hlt g0
      go_wp2_with (first | ((with_reducible refine gate_builtin (b := .append) (xs := #[.tmp 17, .tmp 19]) rfl ?_); at_builtin; refine Kd.R_append (Kd.int .i64) (w0 := w) w.heap.size rfl (.tmp 17) (.tmp 19) 48 3 (.int .i64 0) 8 rfl Try.underlying48 info3 rfl (by decide) (by omega) _ lv av [.int .i64 av] (fun _ => True) (fun _ => False) rfl (by simp [Act.eval]) rfl (fun _ hk => hk.elim) (fun _ _ => trivial) ho.out hbw.out hbw.out.size (by have := HL.out; omega) ?_; intro v7 w8 ho2 hb2 hg2 hat2; have HO2 := Aside0.mk ho2; have HB8 := Aside0.mk hb2; clear ho2 hb2 hg2 hat2; have g1 : w8.cell? (ad.add jn) = some (.int .u8 rs[jn]) := (HB8.out.cell G0.out.1).trans G0.out.2) | (go_at_call 65; refine (next_calls L av rs[jn] _ hL ha.1 ha.2).mono ?_; rintro e w9 ⟨rfl, rfl⟩))
      go_roundw
      case rel => exact ⟨jn + 1, by omega, by go_num, by rw [HT.out, HA.out], ⟨by rw [HT.out, HS.out]; exact HO2.out⟩, HB8⟩
      case measure => simp [intOf]; omega
    · have hj6 : decide ((jn : Int) < (rs.length : Int)) = false := decide_eq_false (by omega)
      have htk : rs.take jn = rs := List.take_of_length_le (by omega)
      rw [htk] at ho
      go_wp2_with fail
      go_ret
      exact ⟨_, rfl, ho.out, hbw.out⟩
theorem lvls_get (L : Int) : ∀ (rs : List Int) (l : Int) (j : Nat), j < rs.length → (lvls L l rs)[j]? = some (aft L l (rs.take j))
  | [], l, j, h => by simp at h
  | r :: rs, l, 0, h => by simp [lvls, aft]
  | r :: rs, l, j + 1, h => by
    simp only [lvls, List.getElem?_cons_succ, List.take_succ_cons, aft]
    exact lvls_get L rs _ j (by simpa using h)
end Go.Proofs.Ytkglggggmlnleaa.Print
