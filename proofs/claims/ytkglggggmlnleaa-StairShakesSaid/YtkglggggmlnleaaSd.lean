/- Rows of runs of one's own. -/
import Derived.Test.YtkglggggmlnleaaSc
namespace Go.Proofs.Ytkglggggmlnleaa.Print
open Go.RowKit Go.Proofs.YtkglggggmlnleaaW.PrintWords Go.Proofs.YtkglggggmlnleaaW.PrintLast Go.Proofs.YtkglggggmlnleaaW.PrintMore
set_option linter.unusedVariables false
set_option linter.unusedSimpArgs false
theorem elem43 {W : World} {base g n cap : Nat} {ok : Nat → Prop} {l : List S43} (h : k43.R 43 W base ok (.slice (some ⟨g, 0, none⟩) n cap) l) (k : Nat) (hk : k < n) {x0 x1 : Int} (hx : l[k]? = some ⟨x0, x1⟩) :
    ∀ (j : Nat) (u : Value), ([.int .i64 x0, .int .u8 x1] : List Value)[j]? = some u → W.cell? ⟨g, (k : Int).toNat * k43.sz + j, none⟩ = some u := by
  obtain ⟨c, hc, hM, hcell, _⟩ := Kd.R_elem h ⟨0, 0⟩ (k : Int) (by omega) (by omega)
  have hg : l.getD (k : Int).toNat ⟨0, 0⟩ = ⟨x0, x1⟩ := by rw [Int.toNat_natCast, List.getD_eq_getElem?_getD, hx]; rfl
  rw [hg] at hM
  obtain rfl := k43_openM hM
  exact hcell
theorem C_pair43 {w w1 : World} {A : Option Addr} {n c : Nat} {xs : List S43} (h : Kd.C k43 w A n xs ∧ xs.length ≤ c) (hb : Below w.heap.size w w1) : Kd.C k43 w1 A n xs ∧ xs.length ≤ c := ⟨Kd.C_below h.1 hb, h.2⟩
theorem row43 {w : World} {base g n cap : Nat} {ok : Nat → Prop} {ys : List S43} (h : k43.R 43 w base ok (.slice (some ⟨g, 0, none⟩) n cap) ys) (hn : ys.length = n) : Kd.C k43 w (some ⟨g, 0, none⟩) ys.length ys ∧ ys.length ≤ cap := by
  obtain ⟨A, c, he, hl, hC⟩ := Kd.R_reads h
  injection he with h1 h2 h3
  subst h1 h3
  exact ⟨hC, hl⟩
theorem ready_n (L st : Int) (A : Option Addr) (c : Nat) (l : List S43) (w : World) (hr : Kd.C k43 w A l.length l) (hc : l.length ≤ c) (hm : l.length ≤ 9000000000000000000) (b : Bool) (hb : decide (checkI L st (l.map up) = 0) = b) (n : Nat) (hn : l.length = n) :
    Calls Try.prog 23 #[.agg #[.int .i64 L, .int .i64 st, .slice A n c]] w fun e w' => e = .returned (.bool b) ∧ Below w.heap.size w w' := by
  subst hn; exact ready_calls L st A c l w hr hc hm b hb
theorem stairs_n (L st : Int) (A : Option Addr) (c : Nat) (l : List S43) (w : World) (hr : Kd.C k43 w A l.length l) (hc : l.length ≤ c) (hl : l.length < 8796093022208) (xs : List S67) (hx : l.map up = xs) (n : Nat) (hn : l.length = n) :
    Calls Try.prog 19 #[.agg #[.int .i64 L, .int .i64 st, .slice A n c]] w fun e w' => (∃ A' c', e = .returned (.agg #[.int .i64 L, .int .i64 st, .slice A' xs.length c']) ∧ Aside0 (Kd.C k67 w' A' xs.length xs ∧ xs.length ≤ c')) ∧ Below w.heap.size w w' := by
  subst hn; exact stairs_calls L st A c l w hr hc hl xs hx
theorem any_snoc (l : List S43) (j : Nat) (hj : j < l.length) : ((l.take (j + 1)).any fun x => decide (x.f1 = 3)) = (((l.take j).any fun x => decide (x.f1 = 3)) || decide (l[j].f1 = 3)) := by
  rw [List.take_add_one, List.getElem?_eq_getElem hj, List.any_append]
  simp
theorem R_sl {α : Type} {d : Kd α} {e : Nat} {w : World} {base : Nat} {ok : Nat → Prop} {v : Value} {xs : List α} (h : d.R e w base ok v xs) : ∃ A n c, v = .slice A n c := by
  obtain ⟨A, c, h⟩ := Kd.R_slice h
  exact ⟨A, _, c, h⟩
theorem rowA {w : World} {base n cap : Nat} {A : Option Addr} {ok : Nat → Prop} {ys : List S43} (h : k43.R 43 w base ok (.slice A n cap) ys) (hn : ys.length = n) : Kd.C k43 w A ys.length ys ∧ ys.length ≤ cap := by
  obtain ⟨A', c, he, hl, hC⟩ := Kd.R_reads h
  injection he with h1 h2 h3
  subst h1 h3
  exact ⟨hC, hl⟩
end Go.Proofs.Ytkglggggmlnleaa.Print
