/-
  No cell of these rows narrows 'for every input' (looked for: loops, veiled, ifaces, maps, wideKeys, modest, calm, conditions, laid).
  DERIVED. THE GIVEN ROWS OF THIS SEAT. 13 by the template 'for every input the law returns true; each argument reads behind the call as it read before'; 0 by the template 'total and deterministic' (their statements: YtkglggggmlnleaaTotals.lean).
  GIVEN WITH THE SEED: the statements are not yours to turn. If you find one false, say at which input.
  Laid BY PROGRAM, IN A SANDBOX (cutbox-rows.mjs): the forced cells as the released guide's own fill.sh prints them over the translation f8f3528949494590… (all of the seat's roots in one cut). By AI agents, Wed Nov 11 2026. No macro, syntax, notation, axiom, sorry.
-/
import Derived.Test.YtkglggggmlnleaaChecked
import GoSem.Claim
import GoSem.ClaimJoined
import GoSem.ClaimMapViews
import Derived.JoinedTies
import Derived.KernelRfl
namespace Go.Proofs.Ytkglggggmlnleaa
/- THE CELL 'sum', in the pinned program and in every row, IS THE sha256 OF THE DUMP (.gsa) THAT YtkglggggmlnleaaProg.lean LOADS. Nothing in Lean hashes anything: it is a label: what it is worth is what the hold of that sum in a sandbox is worth. -/
noncomputable def Try.pinned : Pinned := { name := "ytkglggggmlnleaa", sum := "f8f3528949494590029ce89c25ef5eceb7005a830419d3e82a86cda12909d577", checked := Try.checked }
namespace Rows
def none {H : Type} : Left H := { results := [], args := [] }

/-- 'tensilelaw04.StairMiddles': WHATEVER THE INPUT: true; the input reads as it did. -/
def stairMiddlesSpec : ChangeSpec := { name := "stairMiddles", fn := fun _ => fun
  | [d] => { results := [.lit (.bool true)], args := [d] }
  | _ => none }
def stairMiddlesRow : OpenClaim := { program := "ytkglggggmlnleaa", sum := "f8f3528949494590029ce89c25ef5eceb7005a830419d3e82a86cda12909d577", func := "tensile/tensilelaw04.StairMiddles", spec := "stairMiddles", unfollowed := true, recurses := true, plainKeys := false, apart := false }
def StairMiddlesSaid : Prop := stairMiddlesRow.holds Try.pinned (OpenSpec.ofChange stairMiddlesSpec)

/-- ITS FALSE NEIGHBOUR: 'it returns false'. Refute it at one input. -/
def stairMiddlesWrong : ChangeSpec := { name := "stairMiddles", fn := fun _ => fun
  | [d] => { results := [.lit (.bool false)], args := [d] }
  | _ => none }
def StairMiddlesWrongFalsely : Prop := stairMiddlesRow.holds Try.pinned (OpenSpec.ofChange stairMiddlesWrong)

/-- 'tensilelaw04.StairKnown': WHATEVER THE INPUT: true; the input reads as it did. -/
def stairKnownSpec : ChangeSpec := { name := "stairKnown", fn := fun _ => fun
  | [d1, d2, d3, d4] => { results := [.lit (.bool true)], args := [d1, d2, d3, d4] }
  | _ => none }
def stairKnownRow : OpenClaim := { program := "ytkglggggmlnleaa", sum := "f8f3528949494590029ce89c25ef5eceb7005a830419d3e82a86cda12909d577", func := "tensile/tensilelaw04.StairKnown", spec := "stairKnown", unfollowed := true, recurses := true, plainKeys := false, apart := false }
def StairKnownSaid : Prop := stairKnownRow.holds Try.pinned (OpenSpec.ofChange stairKnownSpec)

/-- ITS FALSE NEIGHBOUR: 'it returns false'. Refute it at one input. -/
def stairKnownWrong : ChangeSpec := { name := "stairKnown", fn := fun _ => fun
  | [d1, d2, d3, d4] => { results := [.lit (.bool false)], args := [d1, d2, d3, d4] }
  | _ => none }
def StairKnownWrongFalsely : Prop := stairKnownRow.holds Try.pinned (OpenSpec.ofChange stairKnownWrong)

/-- 'tensilelaw04.StairRising': WHATEVER THE INPUT: true; the input reads as it did. -/
def stairRisingSpec : ChangeSpec := { name := "stairRising", fn := fun _ => fun
  | [d] => { results := [.lit (.bool true)], args := [d] }
  | _ => none }
def stairRisingRow : OpenClaim := { program := "ytkglggggmlnleaa", sum := "f8f3528949494590029ce89c25ef5eceb7005a830419d3e82a86cda12909d577", func := "tensile/tensilelaw04.StairRising", spec := "stairRising", unfollowed := true, recurses := true, plainKeys := false, apart := false }
def StairRisingSaid : Prop := stairRisingRow.holds Try.pinned (OpenSpec.ofChange stairRisingSpec)

/-- ITS FALSE NEIGHBOUR: 'it returns false'. Refute it at one input. -/
def stairRisingWrong : ChangeSpec := { name := "stairRising", fn := fun _ => fun
  | [d] => { results := [.lit (.bool false)], args := [d] }
  | _ => none }
def StairRisingWrongFalsely : Prop := stairRisingRow.holds Try.pinned (OpenSpec.ofChange stairRisingWrong)

/-- 'tensilelaw04.StairMore': WHATEVER THE INPUT: true; the input reads as it did. -/
def stairMoreSpec : ChangeSpec := { name := "stairMore", fn := fun _ => fun
  | [d] => { results := [.lit (.bool true)], args := [d] }
  | _ => none }
def stairMoreRow : OpenClaim := { program := "ytkglggggmlnleaa", sum := "f8f3528949494590029ce89c25ef5eceb7005a830419d3e82a86cda12909d577", func := "tensile/tensilelaw04.StairMore", spec := "stairMore", unfollowed := true, recurses := true, plainKeys := false, apart := false }
def StairMoreSaid : Prop := stairMoreRow.holds Try.pinned (OpenSpec.ofChange stairMoreSpec)

/-- ITS FALSE NEIGHBOUR: 'it returns false'. Refute it at one input. -/
def stairMoreWrong : ChangeSpec := { name := "stairMore", fn := fun _ => fun
  | [d] => { results := [.lit (.bool false)], args := [d] }
  | _ => none }
def StairMoreWrongFalsely : Prop := stairMoreRow.holds Try.pinned (OpenSpec.ofChange stairMoreWrong)

/-- 'tensilelaw04.StairRanks': WHATEVER THE INPUT: true; the input reads as it did. -/
def stairRanksSpec : ChangeSpec := { name := "stairRanks", fn := fun _ => fun
  | [d1, d2, d3] => { results := [.lit (.bool true)], args := [d1, d2, d3] }
  | _ => none }
def stairRanksRow : OpenClaim := { program := "ytkglggggmlnleaa", sum := "f8f3528949494590029ce89c25ef5eceb7005a830419d3e82a86cda12909d577", func := "tensile/tensilelaw04.StairRanks", spec := "stairRanks", unfollowed := true, recurses := true, plainKeys := false, apart := false }
def StairRanksSaid : Prop := stairRanksRow.holds Try.pinned (OpenSpec.ofChange stairRanksSpec)

/-- ITS FALSE NEIGHBOUR: 'it returns false'. Refute it at one input. -/
def stairRanksWrong : ChangeSpec := { name := "stairRanks", fn := fun _ => fun
  | [d1, d2, d3] => { results := [.lit (.bool false)], args := [d1, d2, d3] }
  | _ => none }
def StairRanksWrongFalsely : Prop := stairRanksRow.holds Try.pinned (OpenSpec.ofChange stairRanksWrong)

/-- 'tensilelaw04.StairHistories': WHATEVER THE INPUT: true; the input reads as it did. -/
def stairHistoriesSpec : ChangeSpec := { name := "stairHistories", fn := fun _ => fun
  | [d1, d2] => { results := [.lit (.bool true)], args := [d1, d2] }
  | _ => none }
def stairHistoriesRow : OpenClaim := { program := "ytkglggggmlnleaa", sum := "f8f3528949494590029ce89c25ef5eceb7005a830419d3e82a86cda12909d577", func := "tensile/tensilelaw04.StairHistories", spec := "stairHistories", unfollowed := true, recurses := true, plainKeys := false, apart := false }
def StairHistoriesSaid : Prop := stairHistoriesRow.holds Try.pinned (OpenSpec.ofChange stairHistoriesSpec)

/-- ITS FALSE NEIGHBOUR: 'it returns false'. Refute it at one input. -/
def stairHistoriesWrong : ChangeSpec := { name := "stairHistories", fn := fun _ => fun
  | [d1, d2] => { results := [.lit (.bool false)], args := [d1, d2] }
  | _ => none }
def StairHistoriesWrongFalsely : Prop := stairHistoriesRow.holds Try.pinned (OpenSpec.ofChange stairHistoriesWrong)

/-- 'tensilelaw04.StairEnds': WHATEVER THE INPUT: true; the input reads as it did. -/
def stairEndsSpec : ChangeSpec := { name := "stairEnds", fn := fun _ => fun
  | [d1, d2] => { results := [.lit (.bool true)], args := [d1, d2] }
  | _ => none }
def stairEndsRow : OpenClaim := { program := "ytkglggggmlnleaa", sum := "f8f3528949494590029ce89c25ef5eceb7005a830419d3e82a86cda12909d577", func := "tensile/tensilelaw04.StairEnds", spec := "stairEnds", unfollowed := true, recurses := true, plainKeys := false, apart := false }
def StairEndsSaid : Prop := stairEndsRow.holds Try.pinned (OpenSpec.ofChange stairEndsSpec)

/-- ITS FALSE NEIGHBOUR: 'it returns false'. Refute it at one input. -/
def stairEndsWrong : ChangeSpec := { name := "stairEnds", fn := fun _ => fun
  | [d1, d2] => { results := [.lit (.bool false)], args := [d1, d2] }
  | _ => none }
def StairEndsWrongFalsely : Prop := stairEndsRow.holds Try.pinned (OpenSpec.ofChange stairEndsWrong)

/-- 'tensilelaw04.StairShakes': WHATEVER THE INPUT: true; the input reads as it did. -/
def stairShakesSpec : ChangeSpec := { name := "stairShakes", fn := fun _ => fun
  | [d1, d2, d3, d4] => { results := [.lit (.bool true)], args := [d1, d2, d3, d4] }
  | _ => none }
def stairShakesRow : OpenClaim := { program := "ytkglggggmlnleaa", sum := "f8f3528949494590029ce89c25ef5eceb7005a830419d3e82a86cda12909d577", func := "tensile/tensilelaw04.StairShakes", spec := "stairShakes", unfollowed := true, recurses := true, plainKeys := false, apart := false }
def StairShakesSaid : Prop := stairShakesRow.holds Try.pinned (OpenSpec.ofChange stairShakesSpec)

/-- ITS FALSE NEIGHBOUR: 'it returns false'. Refute it at one input. -/
def stairShakesWrong : ChangeSpec := { name := "stairShakes", fn := fun _ => fun
  | [d1, d2, d3, d4] => { results := [.lit (.bool false)], args := [d1, d2, d3, d4] }
  | _ => none }
def StairShakesWrongFalsely : Prop := stairShakesRow.holds Try.pinned (OpenSpec.ofChange stairShakesWrong)

/-- 'tensilelaw04.StairRuns': WHATEVER THE INPUT: true; the input reads as it did. -/
def stairRunsSpec : ChangeSpec := { name := "stairRuns", fn := fun _ => fun
  | [d] => { results := [.lit (.bool true)], args := [d] }
  | _ => none }
def stairRunsRow : OpenClaim := { program := "ytkglggggmlnleaa", sum := "f8f3528949494590029ce89c25ef5eceb7005a830419d3e82a86cda12909d577", func := "tensile/tensilelaw04.StairRuns", spec := "stairRuns", unfollowed := true, recurses := true, plainKeys := false, apart := false }
def StairRunsSaid : Prop := stairRunsRow.holds Try.pinned (OpenSpec.ofChange stairRunsSpec)

/-- ITS FALSE NEIGHBOUR: 'it returns false'. Refute it at one input. -/
def stairRunsWrong : ChangeSpec := { name := "stairRuns", fn := fun _ => fun
  | [d] => { results := [.lit (.bool false)], args := [d] }
  | _ => none }
def StairRunsWrongFalsely : Prop := stairRunsRow.holds Try.pinned (OpenSpec.ofChange stairRunsWrong)

/-- 'tensilelaw04.StairStopped': WHATEVER THE INPUT: true; the input reads as it did. -/
def stairStoppedSpec : ChangeSpec := { name := "stairStopped", fn := fun _ => fun
  | [d1, d2] => { results := [.lit (.bool true)], args := [d1, d2] }
  | _ => none }
def stairStoppedRow : OpenClaim := { program := "ytkglggggmlnleaa", sum := "f8f3528949494590029ce89c25ef5eceb7005a830419d3e82a86cda12909d577", func := "tensile/tensilelaw04.StairStopped", spec := "stairStopped", unfollowed := true, recurses := true, plainKeys := false, apart := false }
def StairStoppedSaid : Prop := stairStoppedRow.holds Try.pinned (OpenSpec.ofChange stairStoppedSpec)

/-- ITS FALSE NEIGHBOUR: 'it returns false'. Refute it at one input. -/
def stairStoppedWrong : ChangeSpec := { name := "stairStopped", fn := fun _ => fun
  | [d1, d2] => { results := [.lit (.bool false)], args := [d1, d2] }
  | _ => none }
def StairStoppedWrongFalsely : Prop := stairStoppedRow.holds Try.pinned (OpenSpec.ofChange stairStoppedWrong)

/-- 'tensilelaw04.StairTurned': WHATEVER THE INPUT: true; the input reads as it did. -/
def stairTurnedSpec : ChangeSpec := { name := "stairTurned", fn := fun _ => fun
  | [d] => { results := [.lit (.bool true)], args := [d] }
  | _ => none }
def stairTurnedRow : OpenClaim := { program := "ytkglggggmlnleaa", sum := "f8f3528949494590029ce89c25ef5eceb7005a830419d3e82a86cda12909d577", func := "tensile/tensilelaw04.StairTurned", spec := "stairTurned", unfollowed := true, recurses := true, plainKeys := false, apart := false }
def StairTurnedSaid : Prop := stairTurnedRow.holds Try.pinned (OpenSpec.ofChange stairTurnedSpec)

/-- ITS FALSE NEIGHBOUR: 'it returns false'. Refute it at one input. -/
def stairTurnedWrong : ChangeSpec := { name := "stairTurned", fn := fun _ => fun
  | [d] => { results := [.lit (.bool false)], args := [d] }
  | _ => none }
def StairTurnedWrongFalsely : Prop := stairTurnedRow.holds Try.pinned (OpenSpec.ofChange stairTurnedWrong)

/-- 'tensilelaw04.StairTruth': WHATEVER THE INPUT: true; the input reads as it did. -/
def stairTruthSpec : ChangeSpec := { name := "stairTruth", fn := fun _ => fun
  | [d1, d2, d3, d4, d5] => { results := [.lit (.bool true)], args := [d1, d2, d3, d4, d5] }
  | _ => none }
def stairTruthRow : OpenClaim := { program := "ytkglggggmlnleaa", sum := "f8f3528949494590029ce89c25ef5eceb7005a830419d3e82a86cda12909d577", func := "tensile/tensilelaw04.StairTruth", spec := "stairTruth", unfollowed := true, recurses := true, plainKeys := false, apart := false }
def StairTruthSaid : Prop := stairTruthRow.holds Try.pinned (OpenSpec.ofChange stairTruthSpec)

/-- ITS FALSE NEIGHBOUR: 'it returns false'. Refute it at one input. -/
def stairTruthWrong : ChangeSpec := { name := "stairTruth", fn := fun _ => fun
  | [d1, d2, d3, d4, d5] => { results := [.lit (.bool false)], args := [d1, d2, d3, d4, d5] }
  | _ => none }
def StairTruthWrongFalsely : Prop := stairTruthRow.holds Try.pinned (OpenSpec.ofChange stairTruthWrong)

/-- 'tensilelaw04.StairNames': WHATEVER THE INPUT: true; the input reads as it did. -/
def stairNamesSpec : ChangeSpec := { name := "stairNames", fn := fun _ => fun
  | [] => { results := [.lit (.bool true)], args := [] }
  | _ => none }
def stairNamesRow : OpenClaim := { program := "ytkglggggmlnleaa", sum := "f8f3528949494590029ce89c25ef5eceb7005a830419d3e82a86cda12909d577", func := "tensile/tensilelaw04.StairNames", spec := "stairNames", unfollowed := true, recurses := true, plainKeys := false, apart := false }
def StairNamesSaid : Prop := stairNamesRow.holds Try.pinned (OpenSpec.ofChange stairNamesSpec)

/-- ITS FALSE NEIGHBOUR: 'it returns false'. Refute it at one input. -/
def stairNamesWrong : ChangeSpec := { name := "stairNames", fn := fun _ => fun
  | [] => { results := [.lit (.bool false)], args := [] }
  | _ => none }
def StairNamesWrongFalsely : Prop := stairNamesRow.holds Try.pinned (OpenSpec.ofChange stairNamesWrong)

/- THE SECOND FORM. 'bulk': how many values and letters a reading holds, each counted each time it is reached (what is shared counts as often as it is met; a slice's spare places count too). A statement '..UptoSaid' is the law's where the arguments, and the package variables that the reading takes, are together of bulk at most 1048576: NARROWER than '..Said'. Prove '..Said' where nothing that the law and all that it calls make is longer than what came in: it says more and counts as full. Else prove '..UptoSaid'. A law counts once. -/
mutual
def uptoBulk {H : Type} : DataW H → Nat
  | .lit (.string bytes) => bytes.length + 1
  | .lit _ => 1
  | .nil => 1
  | .ptr d => uptoBulk d + 1
  | .slice elems spare => uptoBulkAll elems + uptoBulkAll spare + 1
  | .agg parts => uptoBulkAll parts + 1
  | .iface _ d => uptoBulk d + 1
  | .map entries => uptoBulkEntries entries + 1
  | .held _ => 1
def uptoBulkAll {H : Type} : List (DataW H) → Nat
  | [] => 0
  | d :: r => uptoBulk d + uptoBulkAll r
def uptoBulkEntries {H : Type} : List (Lit × DataW H) → Nat
  | [] => 0
  | x :: r => uptoBulkEntry x + uptoBulkEntries r
def uptoBulkEntry {H : Type} : Lit × DataW H → Nat
  | (.string bytes, d) => bytes.length + uptoBulk d + 1
  | (_, d) => uptoBulk d + 1
 end
def uptoSmall : (H : Type) → List (DataW H) → Bool := fun _ ds => decide (uptoBulkAll ds ≤ 1048576)
def OpenSpec.upto (s : _root_.Go.ChangeSpec) : _root_.Go.OpenSpec := { _root_.Go.OpenSpec.ofChange s with cond := some uptoSmall }

/-- 'tensilelaw04.StairMiddles', WHERE WHAT IT READS IS OF BULK AT MOST 1048576: true; the input reads as it did. -/
def stairMiddlesUptoRow : OpenClaim := { program := "ytkglggggmlnleaa", sum := "f8f3528949494590029ce89c25ef5eceb7005a830419d3e82a86cda12909d577", func := "tensile/tensilelaw04.StairMiddles", spec := "stairMiddles", unfollowed := true, recurses := true, plainKeys := false, apart := false, narrowed := true }
def StairMiddlesUptoSaid : Prop := stairMiddlesUptoRow.holds Try.pinned (OpenSpec.upto stairMiddlesSpec)

/-- 'tensilelaw04.StairKnown', WHERE WHAT IT READS IS OF BULK AT MOST 1048576: true; the input reads as it did. -/
def stairKnownUptoRow : OpenClaim := { program := "ytkglggggmlnleaa", sum := "f8f3528949494590029ce89c25ef5eceb7005a830419d3e82a86cda12909d577", func := "tensile/tensilelaw04.StairKnown", spec := "stairKnown", unfollowed := true, recurses := true, plainKeys := false, apart := false, narrowed := true }
def StairKnownUptoSaid : Prop := stairKnownUptoRow.holds Try.pinned (OpenSpec.upto stairKnownSpec)

/-- 'tensilelaw04.StairRising', WHERE WHAT IT READS IS OF BULK AT MOST 1048576: true; the input reads as it did. -/
def stairRisingUptoRow : OpenClaim := { program := "ytkglggggmlnleaa", sum := "f8f3528949494590029ce89c25ef5eceb7005a830419d3e82a86cda12909d577", func := "tensile/tensilelaw04.StairRising", spec := "stairRising", unfollowed := true, recurses := true, plainKeys := false, apart := false, narrowed := true }
def StairRisingUptoSaid : Prop := stairRisingUptoRow.holds Try.pinned (OpenSpec.upto stairRisingSpec)

/-- 'tensilelaw04.StairMore', WHERE WHAT IT READS IS OF BULK AT MOST 1048576: true; the input reads as it did. -/
def stairMoreUptoRow : OpenClaim := { program := "ytkglggggmlnleaa", sum := "f8f3528949494590029ce89c25ef5eceb7005a830419d3e82a86cda12909d577", func := "tensile/tensilelaw04.StairMore", spec := "stairMore", unfollowed := true, recurses := true, plainKeys := false, apart := false, narrowed := true }
def StairMoreUptoSaid : Prop := stairMoreUptoRow.holds Try.pinned (OpenSpec.upto stairMoreSpec)

/-- 'tensilelaw04.StairRanks', WHERE WHAT IT READS IS OF BULK AT MOST 1048576: true; the input reads as it did. -/
def stairRanksUptoRow : OpenClaim := { program := "ytkglggggmlnleaa", sum := "f8f3528949494590029ce89c25ef5eceb7005a830419d3e82a86cda12909d577", func := "tensile/tensilelaw04.StairRanks", spec := "stairRanks", unfollowed := true, recurses := true, plainKeys := false, apart := false, narrowed := true }
def StairRanksUptoSaid : Prop := stairRanksUptoRow.holds Try.pinned (OpenSpec.upto stairRanksSpec)

/-- 'tensilelaw04.StairHistories', WHERE WHAT IT READS IS OF BULK AT MOST 1048576: true; the input reads as it did. -/
def stairHistoriesUptoRow : OpenClaim := { program := "ytkglggggmlnleaa", sum := "f8f3528949494590029ce89c25ef5eceb7005a830419d3e82a86cda12909d577", func := "tensile/tensilelaw04.StairHistories", spec := "stairHistories", unfollowed := true, recurses := true, plainKeys := false, apart := false, narrowed := true }
def StairHistoriesUptoSaid : Prop := stairHistoriesUptoRow.holds Try.pinned (OpenSpec.upto stairHistoriesSpec)

/-- 'tensilelaw04.StairEnds', WHERE WHAT IT READS IS OF BULK AT MOST 1048576: true; the input reads as it did. -/
def stairEndsUptoRow : OpenClaim := { program := "ytkglggggmlnleaa", sum := "f8f3528949494590029ce89c25ef5eceb7005a830419d3e82a86cda12909d577", func := "tensile/tensilelaw04.StairEnds", spec := "stairEnds", unfollowed := true, recurses := true, plainKeys := false, apart := false, narrowed := true }
def StairEndsUptoSaid : Prop := stairEndsUptoRow.holds Try.pinned (OpenSpec.upto stairEndsSpec)

/-- 'tensilelaw04.StairShakes', WHERE WHAT IT READS IS OF BULK AT MOST 1048576: true; the input reads as it did. -/
def stairShakesUptoRow : OpenClaim := { program := "ytkglggggmlnleaa", sum := "f8f3528949494590029ce89c25ef5eceb7005a830419d3e82a86cda12909d577", func := "tensile/tensilelaw04.StairShakes", spec := "stairShakes", unfollowed := true, recurses := true, plainKeys := false, apart := false, narrowed := true }
def StairShakesUptoSaid : Prop := stairShakesUptoRow.holds Try.pinned (OpenSpec.upto stairShakesSpec)

/-- 'tensilelaw04.StairRuns', WHERE WHAT IT READS IS OF BULK AT MOST 1048576: true; the input reads as it did. -/
def stairRunsUptoRow : OpenClaim := { program := "ytkglggggmlnleaa", sum := "f8f3528949494590029ce89c25ef5eceb7005a830419d3e82a86cda12909d577", func := "tensile/tensilelaw04.StairRuns", spec := "stairRuns", unfollowed := true, recurses := true, plainKeys := false, apart := false, narrowed := true }
def StairRunsUptoSaid : Prop := stairRunsUptoRow.holds Try.pinned (OpenSpec.upto stairRunsSpec)

/-- 'tensilelaw04.StairStopped', WHERE WHAT IT READS IS OF BULK AT MOST 1048576: true; the input reads as it did. -/
def stairStoppedUptoRow : OpenClaim := { program := "ytkglggggmlnleaa", sum := "f8f3528949494590029ce89c25ef5eceb7005a830419d3e82a86cda12909d577", func := "tensile/tensilelaw04.StairStopped", spec := "stairStopped", unfollowed := true, recurses := true, plainKeys := false, apart := false, narrowed := true }
def StairStoppedUptoSaid : Prop := stairStoppedUptoRow.holds Try.pinned (OpenSpec.upto stairStoppedSpec)

/-- 'tensilelaw04.StairTurned', WHERE WHAT IT READS IS OF BULK AT MOST 1048576: true; the input reads as it did. -/
def stairTurnedUptoRow : OpenClaim := { program := "ytkglggggmlnleaa", sum := "f8f3528949494590029ce89c25ef5eceb7005a830419d3e82a86cda12909d577", func := "tensile/tensilelaw04.StairTurned", spec := "stairTurned", unfollowed := true, recurses := true, plainKeys := false, apart := false, narrowed := true }
def StairTurnedUptoSaid : Prop := stairTurnedUptoRow.holds Try.pinned (OpenSpec.upto stairTurnedSpec)

/-- 'tensilelaw04.StairTruth', WHERE WHAT IT READS IS OF BULK AT MOST 1048576: true; the input reads as it did. -/
def stairTruthUptoRow : OpenClaim := { program := "ytkglggggmlnleaa", sum := "f8f3528949494590029ce89c25ef5eceb7005a830419d3e82a86cda12909d577", func := "tensile/tensilelaw04.StairTruth", spec := "stairTruth", unfollowed := true, recurses := true, plainKeys := false, apart := false, narrowed := true }
def StairTruthUptoSaid : Prop := stairTruthUptoRow.holds Try.pinned (OpenSpec.upto stairTruthSpec)

/-- 'tensilelaw04.StairNames', WHERE WHAT IT READS IS OF BULK AT MOST 1048576: true; the input reads as it did. -/
def stairNamesUptoRow : OpenClaim := { program := "ytkglggggmlnleaa", sum := "f8f3528949494590029ce89c25ef5eceb7005a830419d3e82a86cda12909d577", func := "tensile/tensilelaw04.StairNames", spec := "stairNames", unfollowed := true, recurses := true, plainKeys := false, apart := false, narrowed := true }
def StairNamesUptoSaid : Prop := stairNamesUptoRow.holds Try.pinned (OpenSpec.upto stairNamesSpec)

end Rows
end Go.Proofs.Ytkglggggmlnleaa
