/-
  No cell of these rows narrows 'for every input' (looked for: loops, veiled, ifaces, maps, wideKeys, modest, calm, conditions, laid).
  DERIVED. THE GIVEN ROWS OF THIS SEAT. 5 by the template 'for every input the law returns true; each argument reads behind the call as it read before'; 0 by the template 'total and deterministic' (their statements: YtgelmamcinlahaaTotals.lean).
  GIVEN WITH THE SEED: the statements are not yours to turn. If you find one false, say at which input.
  Laid BY PROGRAM, IN A SANDBOX (cutbox-rows.mjs): the forced cells as the released guide's own fill.sh prints them over the translation fd4ec16c039a7a86… (all of the seat's roots in one cut). By AI agents, Wed Nov 11 2026. No macro, syntax, notation, axiom, sorry.
-/
import Derived.Test.YtgelmamcinlahaaChecked
import GoSem.Claim
import GoSem.ClaimJoined
import GoSem.ClaimMapViews
import Derived.JoinedTies
import Derived.KernelRfl
namespace Go.Proofs.Ytgelmamcinlahaa
/- THE CELL 'sum', in the pinned program and in every row, IS THE sha256 OF THE DUMP (.gsa) THAT YtgelmamcinlahaaProg.lean LOADS. Nothing in Lean hashes anything: it is a label: what it is worth is what the hold of that sum in a sandbox is worth. -/
noncomputable def Try.pinned : Pinned := { name := "ytgelmamcinlahaa", sum := "fd4ec16c039a7a862a254f53aeb200c81e32ab80166d973ed268b2c7e6e7f014", checked := Try.checked }
namespace Rows
def none {H : Type} : Left H := { results := [], args := [] }

/-- 'laws.FnExactIsPenalties': WHATEVER THE INPUT: true; the input reads as it did. -/
def fnExactIsPenaltiesSpec : ChangeSpec := { name := "fnExactIsPenalties", fn := fun _ => fun
  | [d1, d2] => { results := [.lit (.bool true)], args := [d1, d2] }
  | _ => none }
def fnExactIsPenaltiesRow : OpenClaim := { program := "ytgelmamcinlahaa", sum := "fd4ec16c039a7a862a254f53aeb200c81e32ab80166d973ed268b2c7e6e7f014", func := "loop.example/g00887/laws.FnExactIsPenalties", spec := "fnExactIsPenalties", apart := false }
def FnExactIsPenaltiesSaid : Prop := fnExactIsPenaltiesRow.holds Try.pinned (OpenSpec.ofChange fnExactIsPenaltiesSpec)

/-- ITS FALSE NEIGHBOUR: 'it returns false'. Refute it at one input. -/
def fnExactIsPenaltiesWrong : ChangeSpec := { name := "fnExactIsPenalties", fn := fun _ => fun
  | [d1, d2] => { results := [.lit (.bool false)], args := [d1, d2] }
  | _ => none }
def FnExactIsPenaltiesWrongFalsely : Prop := fnExactIsPenaltiesRow.holds Try.pinned (OpenSpec.ofChange fnExactIsPenaltiesWrong)

/-- 'laws.FnPenalties': WHATEVER THE INPUT: true; the input reads as it did. -/
def fnPenaltiesSpec : ChangeSpec := { name := "fnPenalties", fn := fun _ => fun
  | [d] => { results := [.lit (.bool true)], args := [d] }
  | _ => none }
def fnPenaltiesRow : OpenClaim := { program := "ytgelmamcinlahaa", sum := "fd4ec16c039a7a862a254f53aeb200c81e32ab80166d973ed268b2c7e6e7f014", func := "loop.example/g00887/laws.FnPenalties", spec := "fnPenalties", apart := false }
def FnPenaltiesSaid : Prop := fnPenaltiesRow.holds Try.pinned (OpenSpec.ofChange fnPenaltiesSpec)

/-- ITS FALSE NEIGHBOUR: 'it returns false'. Refute it at one input. -/
def fnPenaltiesWrong : ChangeSpec := { name := "fnPenalties", fn := fun _ => fun
  | [d] => { results := [.lit (.bool false)], args := [d] }
  | _ => none }
def FnPenaltiesWrongFalsely : Prop := fnPenaltiesRow.holds Try.pinned (OpenSpec.ofChange fnPenaltiesWrong)

/-- 'laws.FnExactPenalizedSeries': WHATEVER THE INPUT: true; the input reads as it did. -/
def fnExactPenalizedSeriesSpec : ChangeSpec := { name := "fnExactPenalizedSeries", fn := fun _ => fun
  | [d1, d2] => { results := [.lit (.bool true)], args := [d1, d2] }
  | _ => none }
def fnExactPenalizedSeriesRow : OpenClaim := { program := "ytgelmamcinlahaa", sum := "fd4ec16c039a7a862a254f53aeb200c81e32ab80166d973ed268b2c7e6e7f014", func := "loop.example/g00887/laws.FnExactPenalizedSeries", spec := "fnExactPenalizedSeries", apart := false }
def FnExactPenalizedSeriesSaid : Prop := fnExactPenalizedSeriesRow.holds Try.pinned (OpenSpec.ofChange fnExactPenalizedSeriesSpec)

/-- ITS FALSE NEIGHBOUR: 'it returns false'. Refute it at one input. -/
def fnExactPenalizedSeriesWrong : ChangeSpec := { name := "fnExactPenalizedSeries", fn := fun _ => fun
  | [d1, d2] => { results := [.lit (.bool false)], args := [d1, d2] }
  | _ => none }
def FnExactPenalizedSeriesWrongFalsely : Prop := fnExactPenalizedSeriesRow.holds Try.pinned (OpenSpec.ofChange fnExactPenalizedSeriesWrong)

/-- 'laws.FnPenalizedTable': WHATEVER THE INPUT: true; the input reads as it did. -/
def fnPenalizedTableSpec : ChangeSpec := { name := "fnPenalizedTable", fn := fun _ => fun
  | [d] => { results := [.lit (.bool true)], args := [d] }
  | _ => none }
def fnPenalizedTableRow : OpenClaim := { program := "ytgelmamcinlahaa", sum := "fd4ec16c039a7a862a254f53aeb200c81e32ab80166d973ed268b2c7e6e7f014", func := "loop.example/g00887/laws.FnPenalizedTable", spec := "fnPenalizedTable", apart := false }
def FnPenalizedTableSaid : Prop := fnPenalizedTableRow.holds Try.pinned (OpenSpec.ofChange fnPenalizedTableSpec)

/-- ITS FALSE NEIGHBOUR: 'it returns false'. Refute it at one input. -/
def fnPenalizedTableWrong : ChangeSpec := { name := "fnPenalizedTable", fn := fun _ => fun
  | [d] => { results := [.lit (.bool false)], args := [d] }
  | _ => none }
def FnPenalizedTableWrongFalsely : Prop := fnPenalizedTableRow.holds Try.pinned (OpenSpec.ofChange fnPenalizedTableWrong)

/-- 'laws.FnExactPenalizedTable': WHATEVER THE INPUT: true; the input reads as it did. -/
def fnExactPenalizedTableSpec : ChangeSpec := { name := "fnExactPenalizedTable", fn := fun _ => fun
  | [d1, d2] => { results := [.lit (.bool true)], args := [d1, d2] }
  | _ => none }
def fnExactPenalizedTableRow : OpenClaim := { program := "ytgelmamcinlahaa", sum := "fd4ec16c039a7a862a254f53aeb200c81e32ab80166d973ed268b2c7e6e7f014", func := "loop.example/g00887/laws.FnExactPenalizedTable", spec := "fnExactPenalizedTable", apart := false }
def FnExactPenalizedTableSaid : Prop := fnExactPenalizedTableRow.holds Try.pinned (OpenSpec.ofChange fnExactPenalizedTableSpec)

/-- ITS FALSE NEIGHBOUR: 'it returns false'. Refute it at one input. -/
def fnExactPenalizedTableWrong : ChangeSpec := { name := "fnExactPenalizedTable", fn := fun _ => fun
  | [d1, d2] => { results := [.lit (.bool false)], args := [d1, d2] }
  | _ => none }
def FnExactPenalizedTableWrongFalsely : Prop := fnExactPenalizedTableRow.holds Try.pinned (OpenSpec.ofChange fnExactPenalizedTableWrong)

/- THE SECOND FORM. 'bulk': how many values and letters a reading holds, each counted each time it is reached (what is shared counts as often as it is met; a slice's spare places count too). A statement '..UptoSaid' is the law's where the arguments, and the package variables that the reading takes, are together of bulk at most 1048576: NARROWER than '..Said'. Prove '..Said' where nothing that the law and all that it calls make is longer than what came in: it says more and counts as full. Else prove '..UptoSaid'. A law counts once. -/
mutual
def uptoBulk {H : Type} : DataW H → Nat
  | .lit (.string bytes) => bytes.length + 1
  | .lit _ => 1
  | .nil => 1
  | .ptr d => uptoBulk d + 1
  | .slice elems spare => uptoBulkAll elems + uptoBulkAll spare + 1
  | .agg parts => uptoBulkAll parts + 1
  | .iface _ d => uptoBulk d + 1
  | .map entries => uptoBulkEntries entries + 1
  | .held _ => 1
def uptoBulkAll {H : Type} : List (DataW H) → Nat
  | [] => 0
  | d :: r => uptoBulk d + uptoBulkAll r
def uptoBulkEntries {H : Type} : List (Lit × DataW H) → Nat
  | [] => 0
  | x :: r => uptoBulkEntry x + uptoBulkEntries r
def uptoBulkEntry {H : Type} : Lit × DataW H → Nat
  | (.string bytes, d) => bytes.length + uptoBulk d + 1
  | (_, d) => uptoBulk d + 1
 end
def uptoSmall : (H : Type) → List (DataW H) → Bool := fun _ ds => decide (uptoBulkAll ds ≤ 1048576)
def OpenSpec.upto (s : _root_.Go.ChangeSpec) : _root_.Go.OpenSpec := { _root_.Go.OpenSpec.ofChange s with cond := some uptoSmall }

/-- 'laws.FnExactIsPenalties', WHERE WHAT IT READS IS OF BULK AT MOST 1048576: true; the input reads as it did. -/
def fnExactIsPenaltiesUptoRow : OpenClaim := { program := "ytgelmamcinlahaa", sum := "fd4ec16c039a7a862a254f53aeb200c81e32ab80166d973ed268b2c7e6e7f014", func := "loop.example/g00887/laws.FnExactIsPenalties", spec := "fnExactIsPenalties", apart := false, narrowed := true }
def FnExactIsPenaltiesUptoSaid : Prop := fnExactIsPenaltiesUptoRow.holds Try.pinned (OpenSpec.upto fnExactIsPenaltiesSpec)

/-- 'laws.FnPenalties', WHERE WHAT IT READS IS OF BULK AT MOST 1048576: true; the input reads as it did. -/
def fnPenaltiesUptoRow : OpenClaim := { program := "ytgelmamcinlahaa", sum := "fd4ec16c039a7a862a254f53aeb200c81e32ab80166d973ed268b2c7e6e7f014", func := "loop.example/g00887/laws.FnPenalties", spec := "fnPenalties", apart := false, narrowed := true }
def FnPenaltiesUptoSaid : Prop := fnPenaltiesUptoRow.holds Try.pinned (OpenSpec.upto fnPenaltiesSpec)

/-- 'laws.FnExactPenalizedSeries', WHERE WHAT IT READS IS OF BULK AT MOST 1048576: true; the input reads as it did. -/
def fnExactPenalizedSeriesUptoRow : OpenClaim := { program := "ytgelmamcinlahaa", sum := "fd4ec16c039a7a862a254f53aeb200c81e32ab80166d973ed268b2c7e6e7f014", func := "loop.example/g00887/laws.FnExactPenalizedSeries", spec := "fnExactPenalizedSeries", apart := false, narrowed := true }
def FnExactPenalizedSeriesUptoSaid : Prop := fnExactPenalizedSeriesUptoRow.holds Try.pinned (OpenSpec.upto fnExactPenalizedSeriesSpec)

/-- 'laws.FnPenalizedTable', WHERE WHAT IT READS IS OF BULK AT MOST 1048576: true; the input reads as it did. -/
def fnPenalizedTableUptoRow : OpenClaim := { program := "ytgelmamcinlahaa", sum := "fd4ec16c039a7a862a254f53aeb200c81e32ab80166d973ed268b2c7e6e7f014", func := "loop.example/g00887/laws.FnPenalizedTable", spec := "fnPenalizedTable", apart := false, narrowed := true }
def FnPenalizedTableUptoSaid : Prop := fnPenalizedTableUptoRow.holds Try.pinned (OpenSpec.upto fnPenalizedTableSpec)

/-- 'laws.FnExactPenalizedTable', WHERE WHAT IT READS IS OF BULK AT MOST 1048576: true; the input reads as it did. -/
def fnExactPenalizedTableUptoRow : OpenClaim := { program := "ytgelmamcinlahaa", sum := "fd4ec16c039a7a862a254f53aeb200c81e32ab80166d973ed268b2c7e6e7f014", func := "loop.example/g00887/laws.FnExactPenalizedTable", spec := "fnExactPenalizedTable", apart := false, narrowed := true }
def FnExactPenalizedTableUptoSaid : Prop := fnExactPenalizedTableUptoRow.holds Try.pinned (OpenSpec.upto fnExactPenalizedTableSpec)

end Rows
end Go.Proofs.Ytgelmamcinlahaa
