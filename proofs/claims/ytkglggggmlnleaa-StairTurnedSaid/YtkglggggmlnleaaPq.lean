/- Plain laws of the ranks: rising, and of stopped runs. -/
import Derived.Test.YtkglggggmlnleaaPk
namespace Go.Proofs.Ytkglggggmlnleaa.Print
open Go.RowKit Go.Proofs.YtkglggggmlnleaaW.PrintWords Go.Proofs.YtkglggggmlnleaaW.PrintLast Go.Proofs.YtkglggggmlnleaaW.PrintMore
set_option linter.unusedVariables false
set_option linter.unusedSimpArgs false
theorem hists_length {L st : Int} {xs : List S67} {h : List (Int × Int)} (hh : h ∈ hists L st xs) : h.length = xs.length := ((hists_iff L xs st h).1 hh).1
theorem key_up (L : Int) (high : Bool) (h : List (Int × Int)) (k : Nat) (hk : k + 1 < h.length) : keyOf L high (k : Int) h ≤ keyOf L high ((k + 1 : Nat) : Int) h := by
  unfold keyOf
  exact rank_up _ k (by simpa using hk)
theorem key_range (L : Int) (high : Bool) (h : List (Int × Int)) (hh : ∀ p ∈ h, 0 ≤ p.1 ∧ p.1 < 3 ∧ 0 ≤ p.2 ∧ p.2 < L) (k : Nat) (hk : k < h.length) : 0 ≤ keyOf L high (k : Int) h ∧ keyOf L high (k : Int) h ≤ L := by
  have := rank_mem (h.map (limit L high)) k (by simpa using hk)
  obtain ⟨p, hp, e⟩ := List.mem_map.1 this
  have hb := bnd_le L p (hh p hp)
  have e2 : keyOf L high (k : Int) h = limit L high p := e.symm
  rw [e2]
  cases high <;> omega
/-- The ends of the spans rise; they are from 0 to Levels. -/
theorem rise_law {L st : Int} {xs : List S67} (h0 : possI L st xs = 0) (k : Nat) (hk : k < xs.length) :
    (rankR L st xs k).1 ≤ (rankR L st xs k).2 ∧ 0 ≤ (rankR L st xs k).1 ∧ (rankR L st xs k).2 ≤ L ∧ (∀ j : Nat, j + 1 = k → (rankR L st xs j).1 ≤ (rankR L st xs k).1 ∧ (rankR L st xs j).2 ≤ (rankR L st xs k).2) := by
  obtain ⟨hck, hn⟩ := poss_0 h0
  obtain ⟨k1, k2, k3, k4, _⟩ := check_ok hck
  have hall := fun h hh => hists_all L xs st k3 k4 h hh
  rw [rank_0 (ask_0 h0 (by omega) (by omega))]
  obtain ⟨b, _, hb, e1, _⟩ := endN_spec L st xs k false hn
  obtain ⟨t, _, ht, e2, _⟩ := endN_spec L st xs k true hn
  have hbl := hists_length hb
  have htl := hists_length ht
  refine ⟨?_, ?_, ?_, ?_⟩
  · show endN L st xs k false ≤ endN L st xs k true
    rw [e1]
    exact Int.le_trans (key_lohi L b (hall b hb) k (by omega)) (endN_hi hb)
  · show 0 ≤ endN L st xs k false
    rw [e1]
    exact (key_range L false b (hall b hb) k (by omega)).1
  · show endN L st xs k true ≤ L
    rw [e2]
    exact (key_range L true t (hall t ht) k (by omega)).2
  · rintro j rfl
    rw [rank_0 (ask_0 h0 (by omega) (by omega))]
    constructor
    · show endN L st xs j false ≤ endN L st xs ((j + 1 : Nat) : Int) false
      rw [e1]
      exact Int.le_trans (endN_lo hb) (key_up L false b j (by omega))
    · show endN L st xs j true ≤ endN L st xs ((j + 1 : Nat) : Int) true
      obtain ⟨u, _, hu, e3, _⟩ := endN_spec L st xs j true hn
      have hul := hists_length hu
      rw [e3]
      exact Int.le_trans (key_up L true u j (by omega)) (endN_hi hu)
end Go.Proofs.Ytkglggggmlnleaa.Print
