/- How many histories a staircase has. -/
import Derived.Test.YtkglggggmlnleaaPo
namespace Go.Proofs.Ytkglggggmlnleaa.Print
open Go.RowKit Go.Shelf Go.Proofs.YtkglggggmlnleaaW.PrintWords Go.Proofs.YtkglggggmlnleaaW.PrintLast Go.Proofs.YtkglggggmlnleaaW.PrintMore
set_option linter.unusedVariables false
set_option linter.unusedSimpArgs false
attribute [local go_sem] Oper.semAt_some

theorem hists_many (L : Int) : ∀ (xs : List S67) (l : Int), (hists L l xs).length ≤ 3 ^ xs.length
  | [], l => by simp [hists]
  | x :: xs, l => by
    simp only [hists, List.flatMap_cons, List.flatMap_nil, List.append_nil, List.length_append]
    have h : ∀ r : Int, (if mayB x l r then (hists L (nxt L l r) xs).map fun h => (r, l) :: h else []).length ≤ 3 ^ xs.length := fun r => by
      split
      · simpa using hists_many L xs _
      · simp
    have h0 := h 0
    have h1 := h 1
    have h2 := h 2
    simp only [List.length_cons, Nat.pow_succ]
    omega
theorem poss_ok {L st : Int} {l : List S67} (h : possI L st l = 0) : checkI L st l = 0 ∧ hists L st l ≠ [] := by
  unfold possI at h
  split at h
  · rename_i h1
    split at h
    · cases h
    · rename_i h2
      exact ⟨h1, h2⟩
  · rename_i h1
    exact absurd h h1
/-- How many histories there are, or 0. -/
def manyI (L st : Int) (l : List S67) : Int := if possI L st l = 0 then ((hists L st l).length : Int) else 0

set_option maxHeartbeats 2000000 in
set_option maxRecDepth 100000 in
theorem count_calls (L st : Int) (A : Option Addr) (c : Nat) (l : List S67) (w : World) (hr : Kd.C k67 w A l.length l) (hc : l.length ≤ c) :
    Calls Try.prog 24 #[.agg #[.int .i64 L, .int .i64 st, .slice A l.length c]] w fun e w' => e = .returned (.tuple #[.int .i64 (manyI L st l), .int .i64 (possI L st l)]) ∧ Below w.heap.size w w' := by
  have hu34 := Try.underlying34
  have HR := Aside0.mk hr
  have HC := Aside0.mk hc
  clear hr hc
  refine (callsIn_wide (n := 0)).1 ?_
  refine callsIn_of_wp_marks Try.func24 rfl trivial ?_ rfl
  simp only [Try.ntmps24, List.size_toArray, List.length_cons, List.length_nil, Nat.reduceAdd, Nat.reduceSub, Array.replicate_succ, Array.replicate_zero, List.push_toArray, List.append_toArray, List.nil_append, List.cons_append]
  have HB1 : Aside0 (Below w.heap.size w ((w.alloc (.cells #[.int .i64 L, .int .i64 st, .slice A l.length c] 34)).alloc (.cells #[.int .i64 0] 3))) := ⟨((Below.refl _ w).alloc (by simp) _).alloc (by simp) _⟩
  have HBX : Aside0 (((w.alloc (.cells #[.int .i64 L, .int .i64 st, .slice A l.length c] 34)).alloc (.cells #[.int .i64 0] 3)).heap[w.heap.size]? = some (.cells #[.int .i64 L, .int .i64 st, .slice A l.length c] 34 (0, 0))) := ⟨blk_alloc (new_at rfl) _⟩
  have HBY : Aside0 (((w.alloc (.cells #[.int .i64 L, .int .i64 st, .slice A l.length c] 34)).alloc (.cells #[.int .i64 0] 3)).heap[w.heap.size + 1]? = some (.cells #[.int .i64 0] 3 (0, 0))) := ⟨new_at (by simp)⟩
  gi_wp2_with fail
  refine ⟨trivial, rfl, (callsIn_wide.2 (possible_calls L st A c l _ (Kd.C_below HR.out HB1.out) HC.out)).mono ?_⟩
  rintro e w2 ⟨rfl, hb2⟩
  have HB2 := Aside0.mk (HB1.out.trans (hb2.mono HB1.out.size))
  have HBX2 := Aside0.mk (blk_below HBX.out hb2)
  have HBY2 := Aside0.mk (blk_below HBY.out hb2)
  clear hb2 HB1 HBX HBY
  have q0 : w2.cell? ⟨w.heap.size, 0, none⟩ = some (.int .i64 L) := (blk_cell HBX2.out 0).trans rfl
  have q1 : w2.cell? ⟨w.heap.size, 1, none⟩ = some (.int .i64 st) := (blk_cell HBX2.out 1).trans rfl
  have q2 : w2.cell? ⟨w.heap.size, 2, none⟩ = some (.slice A l.length c) := (blk_cell HBX2.out 2).trans rfl
  have q3 : w2.cell? ⟨w.heap.size + 1, 0, none⟩ = some (.int .i64 0) := (blk_cell HBY2.out 0).trans rfl
  have q4 := blk_frozen HBY2.out 0
  obtain ⟨ck, hck⟩ : ∃ ck, possI L st l = ck := ⟨_, rfl⟩
  rw [hck]
  have HCK := Aside0.mk hck
  clear hck
  by_cases h0 : ck = 0
  · subst h0
    gi_wp2_with fail
    refine ⟨trivial, rfl, (callsIn_wide.2 (histories_calls L st A c l _ (Kd.C_below HR.out HB2.out) HC.out)).mono ?_⟩
    rintro e w3 ⟨bs, bm, bk, bc, km, rfl, hI, hb3, hg1, hg2, hg3, hg4, hg5⟩
    gi_wp2_with fail
    have HI := Aside0.mk hI
    have HBY3 := Aside0.mk (blk_below HBY2.out hb3)
    have HB3 := Aside0.mk (HB2.out.trans (hb3.mono HB2.out.size))
    have hlt3 := blk_lt HBY3.out
    have hlt2 := blk_lt HBY2.out
    have hlt3' := blk_lt (blk_below HBX2.out hb3)
    clear hI hb3 q0 q1 q2 q3 q4
    obtain ⟨hck, hne⟩ := poss_ok HCK.out
    obtain ⟨k1, k2, k3, k4, k5⟩ := check_ok hck
    have hAd : ∀ ad, A = some ad → 0 < l.length → ad.block < w.heap.size := fun ad e h => C67_lt HR.out e h
    have hmany : (hists L st l).length ≤ 4782969 := Nat.le_trans (hists_many L l st) (Nat.le_trans (Nat.pow_le_pow_right (by omega) k5) (by decide))
    refine wpIn_hist L st A c l bs bm bk bc km rfl k1 k2 k3 k4 k5 HI.out (fun b => b = w.heap.size + 1) (by rintro b rfl; exact ⟨hlt3, by omega, by omega, by omega, by omega, by omega, fun ad e h => by have := hAd ad e h; omega⟩)
      (fun pre W => W.heap[w.heap.size + 1]? = some (.cells #[.int .i64 pre.length] 3 (0, 0))) (fun k pre W => False)
      (fun pre W W' hr hk => (hk _ hlt3 (by omega)).trans hr) (fun k pre W W' hr hk => hr) HBY3.out
      (fun x a' W => a' = { tmps := #[.agg #[.int .i64 L, .int .i64 st, .slice A l.length c], .pointer (some ⟨w.heap.size, 0, none⟩), .pointer (some ⟨w.heap.size + 1, 0, none⟩), .int .i64 0, .int .i64 0, .agg #[.int .i64 L, .int .i64 st, .slice A l.length c], .int .i64 0, .int .i64 0, .bool false, undef, .agg #[.int .i64 L, .int .i64 st, .slice A l.length c], .func (.func 69) #[] #[.pointer (some ⟨bs, 0, none⟩), .pointer (some ⟨bm, 0, none⟩), .pointer (some ⟨bc, 0, none⟩)], hval L st A l.length c x, undef, undef, undef], defers := [] }) (fun x a' W o h => h) ?assign ?body ?done ?stop
    case assign =>
      intro x W m K hlt hx hK
      gi_wp2_with fail
      exact hK _ _ (Below.refl _ _) (by simp)
    case body =>
      rintro pre x a' W m hlt hch hcell rfl hpre hx
      have q3 : W.cell? ⟨w.heap.size + 1, 0, none⟩ = some (.int .i64 pre.length) := (blk_cell hcell 0).trans rfl
      have q4 := blk_frozen hcell 0
      have hpl : pre.length + 1 ≤ 4782969 := Nat.le_trans (by simpa using hpre.length_le) hmany
      gi_wp2_with fail
      refine ⟨(Ch.refl _ _).setCell _ _ (fun _ => rfl), ?_⟩
      simpa using blk_put hcell 0 _ rfl
    case done =>
      rintro W hch hcell hk
      have q3 : W.cell? ⟨w.heap.size + 1, 0, none⟩ = some (.int .i64 (hists L st l).length) := (blk_cell hcell 0).trans rfl
      have q4 := blk_frozen hcell 0
      gi_wp2_with fail
      refine mark_ret ((Below.heap_setCell _ _ _ _ (by show w3.heap.size ≠ w.heap.size + 1; omega)).trans hk) ?_
      intro W' hW' hb'
      have hp : manyI L st l = (hists L st l).length := by unfold manyI; rw [HCK.out, if_pos rfl]
      have hc5 : W'.cell? ⟨w.heap.size + 1, 0, none⟩ = some (.int .i64 (hists L st l).length) := (blk_cell ((hW' _ (by omega)).trans (blk_put hcell 0 (.int .i64 (hists L st l).length) rfl)) 0).trans rfl
      refine ⟨.tuple #[.int .i64 (hists L st l).length, .int .i64 0], by simp [results, Try.f24, go_sem, hc5], by rw [hp, HCK.out], ?_⟩
      exact (below_set (HB3.out.trans (hch.below (by omega) (by rintro i hi (h | h) <;> omega))) (by simp)).trans (hb'.mono (by omega))
    case stop =>
      rintro k pre W hpre hch h hk
      exact h.elim
  · have h0b : (ck == 0) = false := beq_eq_false_iff_ne.2 h0
    have h0c : (ck != 0) = true := bne_iff_ne.2 h0
    have hp : manyI L st l = 0 := by unfold manyI; rw [HCK.out, if_neg h0]
    gi_wp2_with fail
    refine ⟨.tuple #[.int .i64 0, .int .i64 ck], ?_, by rw [hp, HCK.out], ?_⟩
    · have hc5 : (w2.setCell ⟨w.heap.size + 1, 0, none⟩ (.int .i64 0)).cell? ⟨w.heap.size + 1, 0, none⟩ = some (.int .i64 0) := (blk_cell (blk_put HBY2.out 0 (.int .i64 0) rfl) 0).trans rfl
      simp [results, Try.f24, go_sem, hc5]
    · exact below_set HB2.out (by simp)
end Go.Proofs.Ytkglggggmlnleaa.Print
