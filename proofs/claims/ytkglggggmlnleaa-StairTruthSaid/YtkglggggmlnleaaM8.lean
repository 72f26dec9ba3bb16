/- Shaking: all limits right; the document's error. The document's Shake. -/
import Derived.Test.YtkglggggmlnleaaLv
import Derived.Test.YtkglggggmlnleaaXA
import Derived.Test.YtkglggggmlnleaaXR0
import Derived.Test.YtkglggggmlnleaaRf
namespace Go.Proofs.Ytkglggggmlnleaa.Print
open Go.RowKit Go.Proofs.YtkglggggmlnleaaW.PrintWords Go.Proofs.YtkglggggmlnleaaW.PrintLast Go.Proofs.YtkglggggmlnleaaW.PrintMore
set_option linter.unusedVariables false
set_option linter.unusedSimpArgs false

end Go.Proofs.Ytkglggggmlnleaa.Print
namespace Go.Proofs.Ytkglggggmlnleaa.Print
open Go.RowKit Go.Proofs.YtkglggggmlnleaaW.PrintWords Go.Proofs.YtkglggggmlnleaaW.PrintLast Go.Proofs.YtkglggggmlnleaaW.PrintMore
set_option linter.unusedVariables false
set_option linter.unusedSimpArgs false

/-- What a specimen does: 2: stopped, 1: it breaks later than its level, 0: it does not. -/
def shR (l : Int) (p : Int × Bool) : Int := if p.2 then 2 else if l < p.1 then 1 else 0
/-- The runs of some specimens. -/
def shakeZ (L : Int) : Int → List (Int × Bool) → List S43
  | _, [] => []
  | l, p :: ps => ⟨l, shR l p⟩ :: shakeZ L (nxt L l (shR l p)) ps
/-- The level behind them. -/
def levZ (L : Int) : Int → List (Int × Bool) → Int
  | l, [] => l
  | l, p :: ps => levZ L (nxt L l (shR l p)) ps
theorem shakeZ_len (L : Int) : ∀ (ps : List (Int × Bool)) (l : Int), (shakeZ L l ps).length = ps.length
  | [], _ => rfl
  | p :: ps, l => by simp [shakeZ, shakeZ_len L ps]
theorem shakeZ_snoc (L : Int) (q : Int × Bool) : ∀ (ps : List (Int × Bool)) (l : Int), shakeZ L l (ps ++ [q]) = shakeZ L l ps ++ [⟨levZ L l ps, shR (levZ L l ps) q⟩]
  | [], _ => rfl
  | p :: ps, l => by simp only [shakeZ, levZ, List.cons_append]; rw [shakeZ_snoc L q ps]
theorem levZ_snoc (L : Int) (q : Int × Bool) : ∀ (ps : List (Int × Bool)) (l : Int), levZ L l (ps ++ [q]) = nxt L (levZ L l ps) (shR (levZ L l ps) q)
  | [], _ => rfl
  | p :: ps, l => by simp only [levZ, List.cons_append]; rw [levZ_snoc L q ps]
theorem levZ_range {L : Int} : ∀ (ps : List (Int × Bool)) (l : Int), 0 ≤ l → l < L → 0 ≤ levZ L l ps ∧ levZ L l ps < L
  | [], _, h0, h1 => ⟨h0, h1⟩
  | p :: ps, l, h0, h1 => by
    have := nxt_range (L := L) (l := l) (r := shR l p) h0 h1
    exact levZ_range ps _ this.1 this.2
theorem cellB {w : World} {A : Option Addr} {bs : List Bool} (h : Kd.C Kd.bool w A bs.length bs) (j : Nat) (hj : j < bs.length) : ∃ ad, A = some ad ∧ w.cell? (ad.add j) = some (.bool bs[j]) := by
  obtain ⟨ad, rfl, g0⟩ := Kd.at_bool h (j : Int) (by omega) (by omega)
  have hrd : rdOf false bs (j : Int) = bs[j] := by unfold rdOf; simp [List.getD_eq_getElem?_getD, hj]
  rw [hrd] at g0
  exact ⟨ad, rfl, g0⟩
theorem zip_take (ls : List Int) (bs : List Bool) (j : Nat) (h1 : j < ls.length) (h2 : j < bs.length) : (ls.zip bs).take (j + 1) = (ls.zip bs).take j ++ [(ls[j], bs[j])] := by
  rw [List.take_add_one, List.getElem?_eq_getElem (by simp; omega), List.getElem_zip]; rfl
set_option maxHeartbeats 4000000 in
set_option maxRecDepth 100000 in
theorem refshake_calls (L st : Int) (A : Option Addr) (c : Nat) (ls : List Int) (A1 : Option Addr) (c1 : Nat) (bs : List Bool) (w : World) (hr : Kd.C (Kd.int .i64) w A ls.length ls) (hr1 : Kd.C Kd.bool w A1 bs.length bs) (hL : L ≤ 8) (h0 : 0 ≤ st) (h1 : st < L) (hl : ls.length ≤ 1000) (hbl : bs.length = ls.length) :
    Calls Try.prog 39 #[.int .i64 L, .int .i64 st, .slice A ls.length c, .slice A1 bs.length c1] w fun e w' => ∃ v, e = .returned v ∧ Kd.R k43 43 w' w.heap.size (fun _ => True) v (shakeZ L st (ls.zip bs)) ∧ Below w.heap.size w w' := by
  have hu43 := Try.underlying43
  have HR := Aside0.mk hr
  have HR1 := Aside0.mk hr1
  have HBL := Aside0.mk hbl
  clear hr hr1 hbl
  go_enter Try.func39, Try.ntmps39
  go_wp2_with fail
  go_loopw [9, 10, 11] (fun o a j wr => ∃ (jn : Nat) (lv : Int) (v : Value), jn ≤ ls.length ∧ j = .int .i64 jn ∧ a = .int .i64 lv ∧ v = o ∧ Aside0 (lv = levZ L st ((ls.zip bs).take jn)) ∧ Aside0 (Kd.R k43 43 wr w.heap.size (fun _ => True) v (shakeZ L st ((ls.zip bs).take jn))) ∧ Aside0 (Below w.heap.size w wr)) (fun _ _ j _ => ls.length - (intOf j).toNat)
  case atStart => exact ⟨0, st, _, by omega, rfl, rfl, rfl, ⟨rfl⟩, ⟨Kd.R_nil _ _ _ _ _⟩, ⟨Below.refl _ _⟩⟩
  case round =>
    obtain ⟨jn, lv, v, hj, rfl, rfl, rfl, HLV, HV, hbw⟩ := hrel
    by_cases hj3 : jn < ls.length
    · have hj6 : decide ((jn : Int) < (ls.length : Int)) = true := decide_eq_true (by omega)
      have hj7 : (jn : Int) < (ls.length : Int) := by omega
      have hj8 : (jn : Int) < (bs.length : Int) := by have := HBL.out; omega
      have hjb : jn < bs.length := by have := HBL.out; omega
      obtain ⟨ad1, rfl, g1⟩ := cellU (Kd.C_below HR.out hbw.out) jn hj3
      obtain ⟨ad2, rfl, g2⟩ := cellB (Kd.C_below HR1.out hbw.out) jn hjb
      have hlv := levZ_range (L := L) ((ls.zip bs).take jn) st h0 h1
      have HT := Aside0.mk (zip_take ls bs jn hj3 hjb)
      obtain ⟨n, hn⟩ : ∃ n, ls[jn] = n := ⟨_, rfl⟩
      obtain ⟨b, hb⟩ : ∃ b, bs[jn] = b := ⟨_, rfl⟩
      rw [hn, hb] at HT
      rw [hn] at g1
      rw [hb] at g2
      have htl := levZ_snoc L (n, b) ((ls.zip bs).take jn) st
      have htz := shakeZ_snoc L (n, b) ((ls.zip bs).take jn) st
      rw [← HT.out] at htl htz
      obtain ⟨zl, hzl⟩ : ∃ zl, shakeZ L st ((ls.zip bs).take jn) = zl := ⟨_, rfl⟩
      have HZL : Aside0 (zl.length ≤ 1000) := ⟨by rw [← hzl, shakeZ_len]; have := List.length_take_le jn (ls.zip bs); omega⟩
      rw [← HLV.out] at hlv htl htz
      rw [hzl] at HV htz
      have HTL := Aside0.mk htl
      have HTZ := Aside0.mk htz
      have l1 := World.block_lt_of_cell? _ _ g1
      have l2 := World.block_lt_of_cell? _ _ g2
      clear hn hb htl htz hzl HT HLV
      cases b with
      | false =>
        by_cases hln : lv < n
        · have hlt : decide (lv < n) = true := decide_eq_true hln
          have HSR : Aside0 (shR lv (n, false) = 1) := ⟨by unfold shR; simp [hln]⟩
          clear hln
          have HBW : Aside0 (Below wr.heap.size wr (wr.alloc (.cells #[.int .i64 lv, .int .u8 1] 43))) := ⟨((Below.refl wr.heap.size wr).alloc (Nat.le_refl _) (.cells #[.int .i64 lv, .int .u8 1] 43))⟩
          have HXB : Aside0 ((wr.alloc (.cells #[.int .i64 lv, .int .u8 1] 43)).heap[wr.heap.size]? = some (.cells #[.int .i64 lv, .int .u8 1] 43 (0, 0))) := ⟨(blk_new wr (.cells #[.int .i64 lv, .int .u8 1] 43))⟩
          go_wp2_with (first | ((with_reducible refine gate_builtin (b := .append) (xs := #[.tmp 34, .tmp 36]) rfl ?_); at_builtin; refine Kd.R_append k43 (w0 := w) (W := (wr.alloc (.cells #[.int .i64 lv, .int .u8 1] 43))) w.heap.size rfl (.tmp 34) (.tmp 36) 22 43 (.agg #[(.int .i64 0), (.int .u8 0)]) 16 rfl Try.underlying22 info43 rfl (by decide) (by omega) v zl ⟨lv, 1⟩ [.int .i64 lv, .int .u8 1] (fun _ => True) (fun _ => False) rfl (by simp [Act.eval]) (k43_mkM _ _ _ ⟨lv, 1⟩) (fun _ h => h.elim) (fun _ _ => trivial) (Kd.R_below HV.out HBW.out) (hbw.out.trans (HBW.out.mono hbw.out.size)) (Nat.le_trans hbw.out.size HBW.out.size) (by have := HZL.out; omega) ?_; intro v7 w8 hR hb hg hat; have HV8 := Aside0.mk hR; have HB8 := Aside0.mk hb; have XB8 := Aside0.mk (blk_grown HXB.out hg (Kd.R_ne_new HV.out 0)); clear hR hb hg hat; have y0 : w8.cell? ⟨wr.heap.size, 0, none⟩ = some (.int .i64 lv) := (blk_cell XB8.out 0).trans rfl; have y1 : w8.cell? ⟨wr.heap.size, 1, none⟩ = some (.int .u8 1) := (blk_cell XB8.out 1).trans rfl) | (go_at_call 65; refine (next_calls L lv 1 _ hL hlv.1 hlv.2).mono ?_; rintro e w9 ⟨rfl, rfl⟩))
          go_roundw
          case rel => exact ⟨jn + 1, _, v7, by omega, by go_num, rfl, rfl, ⟨by rw [HTL.out, HSR.out]⟩, ⟨by rw [HTZ.out, HSR.out]; exact HV8.out⟩, HB8⟩
          case measure => simp [intOf]; omega
        · have hlt : decide (lv < n) = false := decide_eq_false (by omega)
          have HSR : Aside0 (shR lv (n, false) = 0) := ⟨by unfold shR; simp [hln]⟩
          clear hln
          have HBW : Aside0 (Below wr.heap.size wr (wr.alloc (.cells #[.int .i64 lv, .int .u8 0] 43))) := ⟨((Below.refl wr.heap.size wr).alloc (Nat.le_refl _) (.cells #[.int .i64 lv, .int .u8 0] 43))⟩
          have HXB : Aside0 ((wr.alloc (.cells #[.int .i64 lv, .int .u8 0] 43)).heap[wr.heap.size]? = some (.cells #[.int .i64 lv, .int .u8 0] 43 (0, 0))) := ⟨(blk_new wr (.cells #[.int .i64 lv, .int .u8 0] 43))⟩
          go_wp2_with (first | ((with_reducible refine gate_builtin (b := .append) (xs := #[.tmp 34, .tmp 36]) rfl ?_); at_builtin; refine Kd.R_append k43 (w0 := w) (W := (wr.alloc (.cells #[.int .i64 lv, .int .u8 0] 43))) w.heap.size rfl (.tmp 34) (.tmp 36) 22 43 (.agg #[(.int .i64 0), (.int .u8 0)]) 16 rfl Try.underlying22 info43 rfl (by decide) (by omega) v zl ⟨lv, 0⟩ [.int .i64 lv, .int .u8 0] (fun _ => True) (fun _ => False) rfl (by simp [Act.eval]) (k43_mkM _ _ _ ⟨lv, 0⟩) (fun _ h => h.elim) (fun _ _ => trivial) (Kd.R_below HV.out HBW.out) (hbw.out.trans (HBW.out.mono hbw.out.size)) (Nat.le_trans hbw.out.size HBW.out.size) (by have := HZL.out; omega) ?_; intro v7 w8 hR hb hg hat; have HV8 := Aside0.mk hR; have HB8 := Aside0.mk hb; have XB8 := Aside0.mk (blk_grown HXB.out hg (Kd.R_ne_new HV.out 0)); clear hR hb hg hat; have y0 : w8.cell? ⟨wr.heap.size, 0, none⟩ = some (.int .i64 lv) := (blk_cell XB8.out 0).trans rfl; have y1 : w8.cell? ⟨wr.heap.size, 1, none⟩ = some (.int .u8 0) := (blk_cell XB8.out 1).trans rfl) | (go_at_call 65; refine (next_calls L lv 0 _ hL hlv.1 hlv.2).mono ?_; rintro e w9 ⟨rfl, rfl⟩))
          go_roundw
          case rel => exact ⟨jn + 1, _, v7, by omega, by go_num, rfl, rfl, ⟨by rw [HTL.out, HSR.out]⟩, ⟨by rw [HTZ.out, HSR.out]; exact HV8.out⟩, HB8⟩
          case measure => simp [intOf]; omega
      | true =>
        by_cases hln : lv < n
        · have hlt : decide (lv < n) = true := decide_eq_true hln
          have HSR : Aside0 (shR lv (n, true) = 2) := ⟨by unfold shR; simp⟩
          clear hln
          have HBW : Aside0 (Below wr.heap.size wr (wr.alloc (.cells #[.int .i64 lv, .int .u8 2] 43))) := ⟨((Below.refl wr.heap.size wr).alloc (Nat.le_refl _) (.cells #[.int .i64 lv, .int .u8 2] 43))⟩
          have HXB : Aside0 ((wr.alloc (.cells #[.int .i64 lv, .int .u8 2] 43)).heap[wr.heap.size]? = some (.cells #[.int .i64 lv, .int .u8 2] 43 (0, 0))) := ⟨(blk_new wr (.cells #[.int .i64 lv, .int .u8 2] 43))⟩
          go_wp2_with (first | ((with_reducible refine gate_builtin (b := .append) (xs := #[.tmp 34, .tmp 36]) rfl ?_); at_builtin; refine Kd.R_append k43 (w0 := w) (W := (wr.alloc (.cells #[.int .i64 lv, .int .u8 2] 43))) w.heap.size rfl (.tmp 34) (.tmp 36) 22 43 (.agg #[(.int .i64 0), (.int .u8 0)]) 16 rfl Try.underlying22 info43 rfl (by decide) (by omega) v zl ⟨lv, 2⟩ [.int .i64 lv, .int .u8 2] (fun _ => True) (fun _ => False) rfl (by simp [Act.eval]) (k43_mkM _ _ _ ⟨lv, 2⟩) (fun _ h => h.elim) (fun _ _ => trivial) (Kd.R_below HV.out HBW.out) (hbw.out.trans (HBW.out.mono hbw.out.size)) (Nat.le_trans hbw.out.size HBW.out.size) (by have := HZL.out; omega) ?_; intro v7 w8 hR hb hg hat; have HV8 := Aside0.mk hR; have HB8 := Aside0.mk hb; have XB8 := Aside0.mk (blk_grown HXB.out hg (Kd.R_ne_new HV.out 0)); clear hR hb hg hat; have y0 : w8.cell? ⟨wr.heap.size, 0, none⟩ = some (.int .i64 lv) := (blk_cell XB8.out 0).trans rfl; have y1 : w8.cell? ⟨wr.heap.size, 1, none⟩ = some (.int .u8 2) := (blk_cell XB8.out 1).trans rfl) | (go_at_call 65; refine (next_calls L lv 2 _ hL hlv.1 hlv.2).mono ?_; rintro e w9 ⟨rfl, rfl⟩))
          go_roundw
          case rel => exact ⟨jn + 1, _, v7, by omega, by go_num, rfl, rfl, ⟨by rw [HTL.out, HSR.out]⟩, ⟨by rw [HTZ.out, HSR.out]; exact HV8.out⟩, HB8⟩
          case measure => simp [intOf]; omega
        · have hlt : decide (lv < n) = false := decide_eq_false (by omega)
          have HSR : Aside0 (shR lv (n, true) = 2) := ⟨by unfold shR; simp⟩
          clear hln
          have HBW : Aside0 (Below wr.heap.size wr (wr.alloc (.cells #[.int .i64 lv, .int .u8 2] 43))) := ⟨((Below.refl wr.heap.size wr).alloc (Nat.le_refl _) (.cells #[.int .i64 lv, .int .u8 2] 43))⟩
          have HXB : Aside0 ((wr.alloc (.cells #[.int .i64 lv, .int .u8 2] 43)).heap[wr.heap.size]? = some (.cells #[.int .i64 lv, .int .u8 2] 43 (0, 0))) := ⟨(blk_new wr (.cells #[.int .i64 lv, .int .u8 2] 43))⟩
          go_wp2_with (first | ((with_reducible refine gate_builtin (b := .append) (xs := #[.tmp 34, .tmp 36]) rfl ?_); at_builtin; refine Kd.R_append k43 (w0 := w) (W := (wr.alloc (.cells #[.int .i64 lv, .int .u8 2] 43))) w.heap.size rfl (.tmp 34) (.tmp 36) 22 43 (.agg #[(.int .i64 0), (.int .u8 0)]) 16 rfl Try.underlying22 info43 rfl (by decide) (by omega) v zl ⟨lv, 2⟩ [.int .i64 lv, .int .u8 2] (fun _ => True) (fun _ => False) rfl (by simp [Act.eval]) (k43_mkM _ _ _ ⟨lv, 2⟩) (fun _ h => h.elim) (fun _ _ => trivial) (Kd.R_below HV.out HBW.out) (hbw.out.trans (HBW.out.mono hbw.out.size)) (Nat.le_trans hbw.out.size HBW.out.size) (by have := HZL.out; omega) ?_; intro v7 w8 hR hb hg hat; have HV8 := Aside0.mk hR; have HB8 := Aside0.mk hb; have XB8 := Aside0.mk (blk_grown HXB.out hg (Kd.R_ne_new HV.out 0)); clear hR hb hg hat; have y0 : w8.cell? ⟨wr.heap.size, 0, none⟩ = some (.int .i64 lv) := (blk_cell XB8.out 0).trans rfl; have y1 : w8.cell? ⟨wr.heap.size, 1, none⟩ = some (.int .u8 2) := (blk_cell XB8.out 1).trans rfl) | (go_at_call 65; refine (next_calls L lv 2 _ hL hlv.1 hlv.2).mono ?_; rintro e w9 ⟨rfl, rfl⟩))
          go_roundw
          case rel => exact ⟨jn + 1, _, v7, by omega, by go_num, rfl, rfl, ⟨by rw [HTL.out, HSR.out]⟩, ⟨by rw [HTZ.out, HSR.out]; exact HV8.out⟩, HB8⟩
          case measure => simp [intOf]; omega
    · have hj6 : decide ((jn : Int) < (ls.length : Int)) = false := decide_eq_false (by omega)
      have htk : (ls.zip bs).take jn = ls.zip bs := List.take_of_length_le (by simp; omega)
      rw [htk] at HV
      go_wp2_with fail
      go_ret
      exact ⟨_, rfl, HV.out, hbw.out⟩
end Go.Proofs.Ytkglggggmlnleaa.Print
