/-
  No cell of these rows narrows 'for every input' (looked for: loops, veiled, ifaces, maps, wideKeys, modest, calm, conditions, laid).
  DERIVED. THE GIVEN ROWS OF THIS SEAT. 7 by the template 'for every input the law returns true; each argument reads behind the call as it read before'; 0 by the template 'total and deterministic' (their statements: YtgpdnpnmkboaoaaTotals.lean).
  GIVEN WITH THE SEED: the statements are not yours to turn. If you find one false, say at which input.
  Laid BY PROGRAM, IN A SANDBOX (cutbox-rows.mjs): the forced cells as the released guide's own fill.sh prints them over the translation 9ac8fe836ca764cb… (all of the seat's roots in one cut). By AI agents, Wed Nov 11 2026. No macro, syntax, notation, axiom, sorry.
-/
import Derived.Test.YtgpdnpnmkboaoaaChecked
import GoSem.Claim
import GoSem.ClaimJoined
import GoSem.ClaimMapViews
import Derived.JoinedTies
import Derived.KernelRfl
namespace Go.Proofs.Ytgpdnpnmkboaoaa
/- THE CELL 'sum', in the pinned program and in every row, IS THE sha256 OF THE DUMP (.gsa) THAT YtgpdnpnmkboaoaaProg.lean LOADS. Nothing in Lean hashes anything: it is a label: what it is worth is what the hold of that sum in a sandbox is worth. -/
noncomputable def Try.pinned : Pinned := { name := "ytgpdnpnmkboaoaa", sum := "9ac8fe836ca764cb332812536604a542088d86101c4475670c6dcdbe45984397", checked := Try.checked }
namespace Rows
def none {H : Type} : Left H := { results := [], args := [] }

/-- 'laws.FnExactDiscardsOf': WHATEVER THE INPUT: true; the input reads as it did. -/
def fnExactDiscardsOfSpec : ChangeSpec := { name := "fnExactDiscardsOf", fn := fun _ => fun
  | [d1, d2, d3] => { results := [.lit (.bool true)], args := [d1, d2, d3] }
  | _ => none }
def fnExactDiscardsOfRow : OpenClaim := { program := "ytgpdnpnmkboaoaa", sum := "9ac8fe836ca764cb332812536604a542088d86101c4475670c6dcdbe45984397", func := "loop.example/g00887/laws.FnExactDiscardsOf", spec := "fnExactDiscardsOf", unfollowed := true, recurses := true, apart := false }
def FnExactDiscardsOfSaid : Prop := fnExactDiscardsOfRow.holds Try.pinned (OpenSpec.ofChange fnExactDiscardsOfSpec)

/-- ITS FALSE NEIGHBOUR: 'it returns false'. Refute it at one input. -/
def fnExactDiscardsOfWrong : ChangeSpec := { name := "fnExactDiscardsOf", fn := fun _ => fun
  | [d1, d2, d3] => { results := [.lit (.bool false)], args := [d1, d2, d3] }
  | _ => none }
def FnExactDiscardsOfWrongFalsely : Prop := fnExactDiscardsOfRow.holds Try.pinned (OpenSpec.ofChange fnExactDiscardsOfWrong)

/-- 'laws.FnExactNetPoints': WHATEVER THE INPUT: true; the input reads as it did. -/
def fnExactNetPointsSpec : ChangeSpec := { name := "fnExactNetPoints", fn := fun _ => fun
  | [d1, d2, d3] => { results := [.lit (.bool true)], args := [d1, d2, d3] }
  | _ => none }
def fnExactNetPointsRow : OpenClaim := { program := "ytgpdnpnmkboaoaa", sum := "9ac8fe836ca764cb332812536604a542088d86101c4475670c6dcdbe45984397", func := "loop.example/g00887/laws.FnExactNetPoints", spec := "fnExactNetPoints", unfollowed := true, recurses := true, apart := false }
def FnExactNetPointsSaid : Prop := fnExactNetPointsRow.holds Try.pinned (OpenSpec.ofChange fnExactNetPointsSpec)

/-- ITS FALSE NEIGHBOUR: 'it returns false'. Refute it at one input. -/
def fnExactNetPointsWrong : ChangeSpec := { name := "fnExactNetPoints", fn := fun _ => fun
  | [d1, d2, d3] => { results := [.lit (.bool false)], args := [d1, d2, d3] }
  | _ => none }
def FnExactNetPointsWrongFalsely : Prop := fnExactNetPointsRow.holds Try.pinned (OpenSpec.ofChange fnExactNetPointsWrong)

/-- 'laws.FnExactTotalPoints': WHATEVER THE INPUT: true; the input reads as it did. -/
def fnExactTotalPointsSpec : ChangeSpec := { name := "fnExactTotalPoints", fn := fun _ => fun
  | [d1, d2] => { results := [.lit (.bool true)], args := [d1, d2] }
  | _ => none }
def fnExactTotalPointsRow : OpenClaim := { program := "ytgpdnpnmkboaoaa", sum := "9ac8fe836ca764cb332812536604a542088d86101c4475670c6dcdbe45984397", func := "loop.example/g00887/laws.FnExactTotalPoints", spec := "fnExactTotalPoints", unfollowed := true, recurses := true, apart := false }
def FnExactTotalPointsSaid : Prop := fnExactTotalPointsRow.holds Try.pinned (OpenSpec.ofChange fnExactTotalPointsSpec)

/-- ITS FALSE NEIGHBOUR: 'it returns false'. Refute it at one input. -/
def fnExactTotalPointsWrong : ChangeSpec := { name := "fnExactTotalPoints", fn := fun _ => fun
  | [d1, d2] => { results := [.lit (.bool false)], args := [d1, d2] }
  | _ => none }
def FnExactTotalPointsWrongFalsely : Prop := fnExactTotalPointsRow.holds Try.pinned (OpenSpec.ofChange fnExactTotalPointsWrong)

/-- 'laws.FnExactCountedPoints': WHATEVER THE INPUT: true; the input reads as it did. -/
def fnExactCountedPointsSpec : ChangeSpec := { name := "fnExactCountedPoints", fn := fun _ => fun
  | [d1, d2, d3] => { results := [.lit (.bool true)], args := [d1, d2, d3] }
  | _ => none }
def fnExactCountedPointsRow : OpenClaim := { program := "ytgpdnpnmkboaoaa", sum := "9ac8fe836ca764cb332812536604a542088d86101c4475670c6dcdbe45984397", func := "loop.example/g00887/laws.FnExactCountedPoints", spec := "fnExactCountedPoints", unfollowed := true, recurses := true, apart := false }
def FnExactCountedPointsSaid : Prop := fnExactCountedPointsRow.holds Try.pinned (OpenSpec.ofChange fnExactCountedPointsSpec)

/-- ITS FALSE NEIGHBOUR: 'it returns false'. Refute it at one input. -/
def fnExactCountedPointsWrong : ChangeSpec := { name := "fnExactCountedPoints", fn := fun _ => fun
  | [d1, d2, d3] => { results := [.lit (.bool false)], args := [d1, d2, d3] }
  | _ => none }
def FnExactCountedPointsWrongFalsely : Prop := fnExactCountedPointsRow.holds Try.pinned (OpenSpec.ofChange fnExactCountedPointsWrong)

/-- 'laws.FnExactSortedPoints': WHATEVER THE INPUT: true; the input reads as it did. -/
def fnExactSortedPointsSpec : ChangeSpec := { name := "fnExactSortedPoints", fn := fun _ => fun
  | [d1, d2, d3] => { results := [.lit (.bool true)], args := [d1, d2, d3] }
  | _ => none }
def fnExactSortedPointsRow : OpenClaim := { program := "ytgpdnpnmkboaoaa", sum := "9ac8fe836ca764cb332812536604a542088d86101c4475670c6dcdbe45984397", func := "loop.example/g00887/laws.FnExactSortedPoints", spec := "fnExactSortedPoints", unfollowed := true, recurses := true, apart := false }
def FnExactSortedPointsSaid : Prop := fnExactSortedPointsRow.holds Try.pinned (OpenSpec.ofChange fnExactSortedPointsSpec)

/-- ITS FALSE NEIGHBOUR: 'it returns false'. Refute it at one input. -/
def fnExactSortedPointsWrong : ChangeSpec := { name := "fnExactSortedPoints", fn := fun _ => fun
  | [d1, d2, d3] => { results := [.lit (.bool false)], args := [d1, d2, d3] }
  | _ => none }
def FnExactSortedPointsWrongFalsely : Prop := fnExactSortedPointsRow.holds Try.pinned (OpenSpec.ofChange fnExactSortedPointsWrong)

/-- 'laws.FnExactNetScores': WHATEVER THE INPUT: true; the input reads as it did. -/
def fnExactNetScoresSpec : ChangeSpec := { name := "fnExactNetScores", fn := fun _ => fun
  | [d1, d2] => { results := [.lit (.bool true)], args := [d1, d2] }
  | _ => none }
def fnExactNetScoresRow : OpenClaim := { program := "ytgpdnpnmkboaoaa", sum := "9ac8fe836ca764cb332812536604a542088d86101c4475670c6dcdbe45984397", func := "loop.example/g00887/laws.FnExactNetScores", spec := "fnExactNetScores", unfollowed := true, recurses := true, apart := false }
def FnExactNetScoresSaid : Prop := fnExactNetScoresRow.holds Try.pinned (OpenSpec.ofChange fnExactNetScoresSpec)

/-- ITS FALSE NEIGHBOUR: 'it returns false'. Refute it at one input. -/
def fnExactNetScoresWrong : ChangeSpec := { name := "fnExactNetScores", fn := fun _ => fun
  | [d1, d2] => { results := [.lit (.bool false)], args := [d1, d2] }
  | _ => none }
def FnExactNetScoresWrongFalsely : Prop := fnExactNetScoresRow.holds Try.pinned (OpenSpec.ofChange fnExactNetScoresWrong)

/-- 'laws.FnExactAveragePoints': WHATEVER THE INPUT: true; the input reads as it did. -/
def fnExactAveragePointsSpec : ChangeSpec := { name := "fnExactAveragePoints", fn := fun _ => fun
  | [d1, d2, d3, d4] => { results := [.lit (.bool true)], args := [d1, d2, d3, d4] }
  | _ => none }
def fnExactAveragePointsRow : OpenClaim := { program := "ytgpdnpnmkboaoaa", sum := "9ac8fe836ca764cb332812536604a542088d86101c4475670c6dcdbe45984397", func := "loop.example/g00887/laws.FnExactAveragePoints", spec := "fnExactAveragePoints", apart := false }
def FnExactAveragePointsSaid : Prop := fnExactAveragePointsRow.holds Try.pinned (OpenSpec.ofChange fnExactAveragePointsSpec)

/-- ITS FALSE NEIGHBOUR: 'it returns false'. Refute it at one input. -/
def fnExactAveragePointsWrong : ChangeSpec := { name := "fnExactAveragePoints", fn := fun _ => fun
  | [d1, d2, d3, d4] => { results := [.lit (.bool false)], args := [d1, d2, d3, d4] }
  | _ => none }
def FnExactAveragePointsWrongFalsely : Prop := fnExactAveragePointsRow.holds Try.pinned (OpenSpec.ofChange fnExactAveragePointsWrong)

/- THE SECOND FORM. 'bulk': how many values and letters a reading holds, each counted each time it is reached (what is shared counts as often as it is met; a slice's spare places count too). A statement '..UptoSaid' is the law's where the arguments, and the package variables that the reading takes, are together of bulk at most 1048576: NARROWER than '..Said'. Prove '..Said' where nothing that the law and all that it calls make is longer than what came in: it says more and counts as full. Else prove '..UptoSaid'. A law counts once. -/
mutual
def uptoBulk {H : Type} : DataW H → Nat
  | .lit (.string bytes) => bytes.length + 1
  | .lit _ => 1
  | .nil => 1
  | .ptr d => uptoBulk d + 1
  | .slice elems spare => uptoBulkAll elems + uptoBulkAll spare + 1
  | .agg parts => uptoBulkAll parts + 1
  | .iface _ d => uptoBulk d + 1
  | .map entries => uptoBulkEntries entries + 1
  | .held _ => 1
def uptoBulkAll {H : Type} : List (DataW H) → Nat
  | [] => 0
  | d :: r => uptoBulk d + uptoBulkAll r
def uptoBulkEntries {H : Type} : List (Lit × DataW H) → Nat
  | [] => 0
  | x :: r => uptoBulkEntry x + uptoBulkEntries r
def uptoBulkEntry {H : Type} : Lit × DataW H → Nat
  | (.string bytes, d) => bytes.length + uptoBulk d + 1
  | (_, d) => uptoBulk d + 1
 end
def uptoSmall : (H : Type) → List (DataW H) → Bool := fun _ ds => decide (uptoBulkAll ds ≤ 1048576)
def OpenSpec.upto (s : _root_.Go.ChangeSpec) : _root_.Go.OpenSpec := { _root_.Go.OpenSpec.ofChange s with cond := some uptoSmall }

/-- 'laws.FnExactDiscardsOf', WHERE WHAT IT READS IS OF BULK AT MOST 1048576: true; the input reads as it did. -/
def fnExactDiscardsOfUptoRow : OpenClaim := { program := "ytgpdnpnmkboaoaa", sum := "9ac8fe836ca764cb332812536604a542088d86101c4475670c6dcdbe45984397", func := "loop.example/g00887/laws.FnExactDiscardsOf", spec := "fnExactDiscardsOf", unfollowed := true, recurses := true, apart := false, narrowed := true }
def FnExactDiscardsOfUptoSaid : Prop := fnExactDiscardsOfUptoRow.holds Try.pinned (OpenSpec.upto fnExactDiscardsOfSpec)

/-- 'laws.FnExactNetPoints', WHERE WHAT IT READS IS OF BULK AT MOST 1048576: true; the input reads as it did. -/
def fnExactNetPointsUptoRow : OpenClaim := { program := "ytgpdnpnmkboaoaa", sum := "9ac8fe836ca764cb332812536604a542088d86101c4475670c6dcdbe45984397", func := "loop.example/g00887/laws.FnExactNetPoints", spec := "fnExactNetPoints", unfollowed := true, recurses := true, apart := false, narrowed := true }
def FnExactNetPointsUptoSaid : Prop := fnExactNetPointsUptoRow.holds Try.pinned (OpenSpec.upto fnExactNetPointsSpec)

/-- 'laws.FnExactTotalPoints', WHERE WHAT IT READS IS OF BULK AT MOST 1048576: true; the input reads as it did. -/
def fnExactTotalPointsUptoRow : OpenClaim := { program := "ytgpdnpnmkboaoaa", sum := "9ac8fe836ca764cb332812536604a542088d86101c4475670c6dcdbe45984397", func := "loop.example/g00887/laws.FnExactTotalPoints", spec := "fnExactTotalPoints", unfollowed := true, recurses := true, apart := false, narrowed := true }
def FnExactTotalPointsUptoSaid : Prop := fnExactTotalPointsUptoRow.holds Try.pinned (OpenSpec.upto fnExactTotalPointsSpec)

/-- 'laws.FnExactCountedPoints', WHERE WHAT IT READS IS OF BULK AT MOST 1048576: true; the input reads as it did. -/
def fnExactCountedPointsUptoRow : OpenClaim := { program := "ytgpdnpnmkboaoaa", sum := "9ac8fe836ca764cb332812536604a542088d86101c4475670c6dcdbe45984397", func := "loop.example/g00887/laws.FnExactCountedPoints", spec := "fnExactCountedPoints", unfollowed := true, recurses := true, apart := false, narrowed := true }
def FnExactCountedPointsUptoSaid : Prop := fnExactCountedPointsUptoRow.holds Try.pinned (OpenSpec.upto fnExactCountedPointsSpec)

/-- 'laws.FnExactSortedPoints', WHERE WHAT IT READS IS OF BULK AT MOST 1048576: true; the input reads as it did. -/
def fnExactSortedPointsUptoRow : OpenClaim := { program := "ytgpdnpnmkboaoaa", sum := "9ac8fe836ca764cb332812536604a542088d86101c4475670c6dcdbe45984397", func := "loop.example/g00887/laws.FnExactSortedPoints", spec := "fnExactSortedPoints", unfollowed := true, recurses := true, apart := false, narrowed := true }
def FnExactSortedPointsUptoSaid : Prop := fnExactSortedPointsUptoRow.holds Try.pinned (OpenSpec.upto fnExactSortedPointsSpec)

/-- 'laws.FnExactNetScores', WHERE WHAT IT READS IS OF BULK AT MOST 1048576: true; the input reads as it did. -/
def fnExactNetScoresUptoRow : OpenClaim := { program := "ytgpdnpnmkboaoaa", sum := "9ac8fe836ca764cb332812536604a542088d86101c4475670c6dcdbe45984397", func := "loop.example/g00887/laws.FnExactNetScores", spec := "fnExactNetScores", unfollowed := true, recurses := true, apart := false, narrowed := true }
def FnExactNetScoresUptoSaid : Prop := fnExactNetScoresUptoRow.holds Try.pinned (OpenSpec.upto fnExactNetScoresSpec)

/-- 'laws.FnExactAveragePoints', WHERE WHAT IT READS IS OF BULK AT MOST 1048576: true; the input reads as it did. -/
def fnExactAveragePointsUptoRow : OpenClaim := { program := "ytgpdnpnmkboaoaa", sum := "9ac8fe836ca764cb332812536604a542088d86101c4475670c6dcdbe45984397", func := "loop.example/g00887/laws.FnExactAveragePoints", spec := "fnExactAveragePoints", apart := false, narrowed := true }
def FnExactAveragePointsUptoSaid : Prop := fnExactAveragePointsUptoRow.holds Try.pinned (OpenSpec.upto fnExactAveragePointsSpec)

end Rows
end Go.Proofs.Ytgpdnpnmkboaoaa
