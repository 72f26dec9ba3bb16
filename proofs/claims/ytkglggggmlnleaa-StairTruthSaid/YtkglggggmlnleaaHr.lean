/- The document's histories: what its function Histories computes, by hand; the error of a staircase that has to be possible. -/
import Derived.Test.YtkglggggmlnleaaLv
import Derived.Test.YtkglggggmlnleaaHs
namespace Go.Proofs.Ytkglggggmlnleaa.Print
open Go.RowKit Go.Proofs.YtkglggggmlnleaaW.PrintWords Go.Proofs.YtkglggggmlnleaaW.PrintLast Go.Proofs.YtkglggggmlnleaaW.PrintMore
set_option linter.unusedVariables false
set_option linter.unusedSimpArgs false
theorem R_int_grown {k : IntKind} {e : Nat} {w w1 : World} {base : Nat} {ok : Nat → Prop} {v : Value} {xs : List Int} {row : Option Nat} (h : Kd.R (Kd.int k) e w base ok v xs) (hg : w.grownBy w1 row) (hne : ∀ q, v.ownBlock = some q → some q ≠ row) : Kd.R (Kd.int k) e w1 base (fun _ => True) v xs :=
  Kd.R_mono (Kd.R_grown (ok := fun q => v.ownBlock = some q) ⟨fun _ hk => hk, h.2.imp_ (fun _ _ hp => hp)⟩ hg hne) (fun _ _ => trivial)
theorem new_apart {α : Type} {d : Kd α} {e : Nat} {w : World} {base : Nat} {ok : Nat → Prop} {v u : Value} {xs : List α} (h : d.R e w base ok v xs) (hat : ∃ b, u.ownBlock = some b ∧ w.heap.size ≤ b) : ∀ q, u.ownBlock = some q → some q ≠ v.ownBlock := fun q hq hv => by
  obtain ⟨b, h1, h2⟩ := hat
  obtain ⟨inner, ho⟩ := Kd.R_own h
  have := own_lt ho q hv.symm
  rw [h1] at hq
  injection hq with hq
  omega
def sl8 : Kd (List Int) := Kd.slice 5 (Kd.int .u8)
end Go.Proofs.Ytkglggggmlnleaa.Print
