/- A range over all histories. -/
import Derived.Test.YtkglggggmlnleaaH2
import Derived.Test.YtkglggggmlnleaaCk
import Derived.RangeFuncLeaves
import Derived.RangeFuncOwn
namespace Go.Proofs.Ytkglggggmlnleaa.Print
open Go.RowKit Go.Shelf Go.Proofs.YtkglggggmlnleaaW.PrintWords Go.Proofs.YtkglggggmlnleaaW.PrintLast Go.Proofs.YtkglggggmlnleaaW.PrintMore
set_option linter.unusedVariables false
set_option linter.unusedSimpArgs false

/-- A function that ranged over a function leaves. -/
theorem mark_ret {F : Fence} {n : Nat} {P : Program} {fn : Func} {R : Ending → World → Prop} {tmps : Array Value} {d : Nat} {W : World} (hk : W.heap[d]? = some (.deferred (some [])))
    (h : ∀ W', (∀ b, b ≠ d → W'.heap[b]? = W.heap[b]?) → Below d W W' → ∃ v, (results fn tmps).run P W' = .ok v W' ∧ R (.returned v) W') :
    bodyPostM F n P fn R .ret { tmps, defers := [{ target := .collected d, args := #[] }] } W := by
  refine ⟨by simp, .inl ⟨_, _, rfl, run_takeDeferred hk, ?_⟩⟩
  obtain ⟨v, h1, h2⟩ := h (W.putObj d (.deferred none)) (fun b hb => World.putObj_heap_other hb) ⟨rfl, rfl, rfl, by simp [World.putObj], fun b hb => World.putObj_heap_other (by omega)⟩
  exact ⟨v, h1, h2⟩
theorem wpIn_hist {g : Operand} {p : Tmp} {assign body : Code} {Q : Exit → Act → World → Prop} {a : Act} {w : World} {n : Nat}
    (L st : Int) (A : Option Addr) (c : Nat) (xs : List S67) (bs bm bk bc km : Nat) (hg : a.eval g = .func (.func 69) #[] #[.pointer (some ⟨bs, 0, none⟩), .pointer (some ⟨bm, 0, none⟩), .pointer (some ⟨bc, 0, none⟩)])
    (hL1 : 1 ≤ L) (hL : L ≤ 8) (h0 : 0 ≤ st) (h1 : st < L) (hx : xs.length ≤ 14) (hI : IterSt w bs bm bk bc km L st A c xs)
    (Sb : Nat → Prop) (hSb : ∀ b, Sb b → b < w.heap.size ∧ b ≠ km ∧ b ≠ bs ∧ b ≠ bm ∧ b ≠ bk ∧ b ≠ bc ∧ ∀ ad, A = some ad → 0 < xs.length → b ≠ ad.block)
    (R : List (List (Int × Int)) → World → Prop) (Rx : Code → List (List (Int × Int)) → World → Prop)
    (hR : ∀ pre W W', R pre W → (∀ b, b < w.heap.size → b ≠ km → W'.heap[b]? = W.heap[b]?) → R pre W') (hRx : ∀ k pre W W', Rx k pre W → (∀ b, b < w.heap.size → b ≠ km → W'.heap[b]? = W.heap[b]?) → Rx k pre W') (hR0 : R [] w)
    (Ax : List (Int × Int) → Act → World → Prop) (hAx : ∀ x a' W o, Ax x a' W → Ax x a' (W.putObj (w.heap.size + 1) o))
    (hassign : ∀ (x : List (Int × Int)) (W : World) (m : Nat) (K : Act → World → Prop), w.heap.size + 1 < W.heap.size → x.length = xs.length → (∀ a' W', Below W.heap.size W W' → Ax x a' W' → K a' W') →
      assign.wpIn (Fence.wide.inRound (w.heap.size + 1)) m Try.prog (Exit.then K (fun _ _ _ => False)) { tmps := a.tmps.setIfInBounds p (hval L st A xs.length c x), defers := [] } W)
    (hbody : ∀ (pre : List (List (Int × Int))) (x : List (Int × Int)) (a' : Act) (W : World) (m : Nat), w.heap.size + 1 < W.heap.size → Ch (fun b => b = km ∨ Sb b) w W → R pre W → Ax x a' W → (pre ++ [x]) <+: hists L st xs → x.length = xs.length →
      body.wpIn (Fence.wide.inRound (w.heap.size + 1)) m Try.prog (roundEnd Sb R Rx (pre ++ [x]) W) a' W)
    (hdone : ∀ (W : World), Ch (fun b => b = km ∨ Sb b) w W → R (hists L st xs) W → W.heap[w.heap.size]? = some (.deferred (some [])) → Q .normal { a with defers := { target := .collected w.heap.size, args := #[] } :: a.defers } W)
    (hstop : ∀ (k : Code) (pre : List (List (Int × Int))) (W : World), pre <+: hists L st xs → Ch (fun b => b = km ∨ Sb b) w W → Rx k pre W → W.heap[w.heap.size]? = some (.deferred (some [])) → k.wpIn Fence.wide n Try.prog Q { a with defers := { target := .collected w.heap.size, args := #[] } :: a.defers } W) :
    (Code.rangeFunc g #[p] assign body).wpIn Fence.wide n Try.prog Q a w := by
  have hkm : km < w.heap.size := by obtain ⟨es, cl, h, _⟩ := hI.memo; exact (Array.getElem?_eq_some_iff.1 h).1
  have hbs := blk_lt hI.s
  have hbm := blk_lt hI.may
  have hbk := blk_lt hI.kn
  have hbc := blk_lt hI.can
  have hS1 : ¬ Sb w.heap.size := fun h => by have := (hSb _ h).1; omega
  have hS2 : ¬ Sb (w.heap.size + 1) := fun h => by have := (hSb _ h).1; omega
  have hAb : ∀ ad, A = some ad → 0 < xs.length → ad.block < w.heap.size := fun ad e h => by
    obtain ⟨_, _, h3⟩ := hI.reads
    obtain ⟨ad', e', hh⟩ := h3 h
    rw [e] at e'; cases e'
    obtain ⟨cs, hs, _, hcell⟩ := hh 0 _ (List.getElem?_eq_getElem h)
    have h2 : 0 < cs.length := by rw [hs]; decide
    have := World.block_lt_of_cell? _ _ (hcell 0 _ (List.getElem?_eq_getElem h2))
    rwa [C67_block.add_block] at this
  refine wpIn_range (xs := hists L st xs) (encs := hencs L st A xs.length c) (Si := fun b => b = km ∨ w.heap.size + 2 ≤ b) (Sb := Sb) hg (enters_of Try.func69 (by kernel_rfl) rfl) ?_ (fun x => rfl) (by omega) (by omega) hS1 hS2
    (fun pre W => Ch (fun b => b = km ∨ Sb b) w W ∧ R pre W ∧ pre <+: hists L st xs) (fun k pre W => Ch (fun b => b = km ∨ Sb b) w W ∧ Rx k pre W) ?_ ?_ ⟨Ch.refl _ _, hR0, List.nil_prefix⟩ Ax hAx ?_ ?_ ?_ ?_
  · intro fn
    have hW : ((w.alloc (.deferred (some []))).alloc (.loop { state := .ready, pending := none, fn, tmps := a.tmps, params := #[p], assign, body, defers := w.heap.size })).heap.size = w.heap.size + 2 := by simp
    have := hist_iter L st A c xs bs bm bk bc km (w.heap.size + 1) ((w.alloc (.deferred (some []))).alloc (.loop { state := .ready, pending := none, fn, tmps := a.tmps, params := #[p], assign, body, defers := w.heap.size })) (fun b => Sb b ∨ b = w.heap.size + 1) hL1 hL h0 h1 hx
      (hI.same (((Below.refl _ w).alloc (by simp) _).alloc (by simp) _)) ?_ ?_ ?_
    · rwa [hW] at this
    · rintro b (hb | rfl)
      · have := (hSb b hb).1; omega
      · omega
    · exact ⟨fun h => h.elim (fun h => (hSb _ h).2.2.1 rfl) (by omega), fun h => h.elim (fun h => (hSb _ h).2.2.2.1 rfl) (by omega), fun h => h.elim (fun h => (hSb _ h).2.2.2.2.1 rfl) (by omega),
        fun h => h.elim (fun h => (hSb _ h).2.2.2.2.2.1 rfl) (by omega), fun h => h.elim (fun h => (hSb _ h).2.1 rfl) (by omega)⟩
    · intro ad e h hh
      rcases hh with hh | hh
      · exact (hSb _ hh).2.2.2.2.2.2 ad e h rfl
      · have := hAb ad e h; omega
  · rintro pre W W' ⟨hc, hr, hp⟩ hk
    refine ⟨hc.then_ hk (fun _ _ h => h) (fun i hi h => ?_), hR _ _ _ hr (fun b hb hn => hk.block b (Nat.lt_of_lt_of_le hb hc.size) ?_), hp⟩
    · rcases h with (h | h) | h
      · exact .inl h
      · omega
      · omega
    · rintro ((h | h) | h)
      · exact hn h
      · omega
      · omega
  · rintro k pre W W' ⟨hc, hr⟩ hk
    refine ⟨hc.then_ hk (fun _ _ h => h) (fun i hi h => ?_), hRx _ _ _ _ hr (fun b hb hn => hk.block b (Nat.lt_of_lt_of_le hb hc.size) ?_)⟩
    · rcases h with (h | h) | h
      · exact .inl h
      · omega
      · omega
    · rintro ((h | h) | h)
      · exact hn h
      · omega
      · omega
  · rintro pre x W K hlt ⟨hc, hr, hp⟩ hpre hK
    have hm : x ∈ hists L st xs := hpre.subset (by simp)
    have := hassign x W (n - 1 - 1) K hlt (hists_len L xs st x hm) hK
    simpa [hencs] using this
  · rintro pre x a' W hlt ⟨hc, hr, hp⟩ hax hpre
    have hm : x ∈ hists L st xs := hpre.subset (by simp)
    refine Go.wpIn_mono (hbody pre x a' W (n - 1 - 1) hlt hc hr hax hpre (hists_len L xs st x hm)) ?_
    have hch : ∀ W', Ch Sb W W' → Ch (fun b => b = km ∨ Sb b) w W' := fun W' h => hc.then_ h (fun _ _ h => h) (fun _ _ h => .inr h)
    rintro e a3 W3 h
    cases e with
    | normal => exact ⟨h.1, hch _ h.1, h.2, hpre⟩
    | ret => exact ⟨h.1, hch _ h.1, h.2⟩
    | exit id => exact ⟨h.1, hch _ h.1, h.2⟩
    | goto t => exact ⟨h.1, hch _ h.1, h.2⟩
    | panic ch => exact h.elim
    | outgrown => exact h.elim
  · rintro W ⟨hc, hr, _⟩ hk
    exact hdone W hc hr hk
  · rintro k pre W hp ⟨hc, hr⟩ hk
    exact hstop k pre W hp hc hr hk
end Go.Proofs.Ytkglggggmlnleaa.Print
