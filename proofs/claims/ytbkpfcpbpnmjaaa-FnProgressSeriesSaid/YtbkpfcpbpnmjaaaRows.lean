/-
  No cell of these rows narrows 'for every input' (looked for: loops, veiled, ifaces, maps, wideKeys, modest, calm, conditions, laid).
  DERIVED. THE GIVEN ROWS OF THIS SEAT. 8 by the template 'for every input the law returns true; each argument reads behind the call as it read before'; 0 by the template 'total and deterministic' (their statements: YtbkpfcpbpnmjaaaTotals.lean).
  GIVEN WITH THE SEED: the statements are not yours to turn. If you find one false, say at which input.
  Laid BY PROGRAM, IN A SANDBOX (cutbox-rows.mjs): the forced cells as the released guide's own fill.sh prints them over the translation e24ef3f7f97b9845… (all of the seat's roots in one cut). By AI agents, Wed Nov 11 2026. No macro, syntax, notation, axiom, sorry.
-/
import Derived.Test.YtbkpfcpbpnmjaaaChecked
import GoSem.Claim
import GoSem.ClaimJoined
import GoSem.ClaimMapViews
import Derived.JoinedTies
import Derived.KernelRfl
namespace Go.Proofs.Ytbkpfcpbpnmjaaa
/- THE CELL 'sum', in the pinned program and in every row, IS THE sha256 OF THE DUMP (.gsa) THAT YtbkpfcpbpnmjaaaProg.lean LOADS. Nothing in Lean hashes anything: it is a label: what it is worth is what the hold of that sum in a sandbox is worth. -/
noncomputable def Try.pinned : Pinned := { name := "ytbkpfcpbpnmjaaa", sum := "e24ef3f7f97b984563377bb7e773276c3a162707b6d12ccdcb44e5e82be30226", checked := Try.checked }
namespace Rows
def none {H : Type} : Left H := { results := [], args := [] }

/-- 'laws.FnExactParTime': WHATEVER THE INPUT: true; the input reads as it did. -/
def fnExactParTimeSpec : ChangeSpec := { name := "fnExactParTime", fn := fun _ => fun
  | [d1, d2, d3] => { results := [.lit (.bool true)], args := [d1, d2, d3] }
  | _ => none }
def fnExactParTimeRow : OpenClaim := { program := "ytbkpfcpbpnmjaaa", sum := "e24ef3f7f97b984563377bb7e773276c3a162707b6d12ccdcb44e5e82be30226", func := "loop.example/g00887/laws.FnExactParTime", spec := "fnExactParTime", recurses := true, apart := false }
def FnExactParTimeSaid : Prop := fnExactParTimeRow.holds Try.pinned (OpenSpec.ofChange fnExactParTimeSpec)

/-- ITS FALSE NEIGHBOUR: 'it returns false'. Refute it at one input. -/
def fnExactParTimeWrong : ChangeSpec := { name := "fnExactParTime", fn := fun _ => fun
  | [d1, d2, d3] => { results := [.lit (.bool false)], args := [d1, d2, d3] }
  | _ => none }
def FnExactParTimeWrongFalsely : Prop := fnExactParTimeRow.holds Try.pinned (OpenSpec.ofChange fnExactParTimeWrong)

/-- 'laws.FnExactParFactors': WHATEVER THE INPUT: true; the input reads as it did. -/
def fnExactParFactorsSpec : ChangeSpec := { name := "fnExactParFactors", fn := fun _ => fun
  | [d1, d2, d3] => { results := [.lit (.bool true)], args := [d1, d2, d3] }
  | _ => none }
def fnExactParFactorsRow : OpenClaim := { program := "ytbkpfcpbpnmjaaa", sum := "e24ef3f7f97b984563377bb7e773276c3a162707b6d12ccdcb44e5e82be30226", func := "loop.example/g00887/laws.FnExactParFactors", spec := "fnExactParFactors", recurses := true, apart := false }
def FnExactParFactorsSaid : Prop := fnExactParFactorsRow.holds Try.pinned (OpenSpec.ofChange fnExactParFactorsSpec)

/-- ITS FALSE NEIGHBOUR: 'it returns false'. Refute it at one input. -/
def fnExactParFactorsWrong : ChangeSpec := { name := "fnExactParFactors", fn := fun _ => fun
  | [d1, d2, d3] => { results := [.lit (.bool false)], args := [d1, d2, d3] }
  | _ => none }
def FnExactParFactorsWrongFalsely : Prop := fnExactParFactorsRow.holds Try.pinned (OpenSpec.ofChange fnExactParFactorsWrong)

/-- 'laws.FnExactProgressRace': WHATEVER THE INPUT: true; the input reads as it did. -/
def fnExactProgressRaceSpec : ChangeSpec := { name := "fnExactProgressRace", fn := fun _ => fun
  | [d1, d2, d3, d4] => { results := [.lit (.bool true)], args := [d1, d2, d3, d4] }
  | _ => none }
def fnExactProgressRaceRow : OpenClaim := { program := "ytbkpfcpbpnmjaaa", sum := "e24ef3f7f97b984563377bb7e773276c3a162707b6d12ccdcb44e5e82be30226", func := "loop.example/g00887/laws.FnExactProgressRace", spec := "fnExactProgressRace", recurses := true, apart := false }
def FnExactProgressRaceSaid : Prop := fnExactProgressRaceRow.holds Try.pinned (OpenSpec.ofChange fnExactProgressRaceSpec)

/-- ITS FALSE NEIGHBOUR: 'it returns false'. Refute it at one input. -/
def fnExactProgressRaceWrong : ChangeSpec := { name := "fnExactProgressRace", fn := fun _ => fun
  | [d1, d2, d3, d4] => { results := [.lit (.bool false)], args := [d1, d2, d3, d4] }
  | _ => none }
def FnExactProgressRaceWrongFalsely : Prop := fnExactProgressRaceRow.holds Try.pinned (OpenSpec.ofChange fnExactProgressRaceWrong)

/-- 'laws.FnParTime': WHATEVER THE INPUT: true; the input reads as it did. -/
def fnParTimeSpec : ChangeSpec := { name := "fnParTime", fn := fun _ => fun
  | [d] => { results := [.lit (.bool true)], args := [d] }
  | _ => none }
def fnParTimeRow : OpenClaim := { program := "ytbkpfcpbpnmjaaa", sum := "e24ef3f7f97b984563377bb7e773276c3a162707b6d12ccdcb44e5e82be30226", func := "loop.example/g00887/laws.FnParTime", spec := "fnParTime", recurses := true, apart := false }
def FnParTimeSaid : Prop := fnParTimeRow.holds Try.pinned (OpenSpec.ofChange fnParTimeSpec)

/-- ITS FALSE NEIGHBOUR: 'it returns false'. Refute it at one input. -/
def fnParTimeWrong : ChangeSpec := { name := "fnParTime", fn := fun _ => fun
  | [d] => { results := [.lit (.bool false)], args := [d] }
  | _ => none }
def FnParTimeWrongFalsely : Prop := fnParTimeRow.holds Try.pinned (OpenSpec.ofChange fnParTimeWrong)

/-- 'laws.FnProgressRace': WHATEVER THE INPUT: true; the input reads as it did. -/
def fnProgressRaceSpec : ChangeSpec := { name := "fnProgressRace", fn := fun _ => fun
  | [d] => { results := [.lit (.bool true)], args := [d] }
  | _ => none }
def fnProgressRaceRow : OpenClaim := { program := "ytbkpfcpbpnmjaaa", sum := "e24ef3f7f97b984563377bb7e773276c3a162707b6d12ccdcb44e5e82be30226", func := "loop.example/g00887/laws.FnProgressRace", spec := "fnProgressRace", recurses := true, apart := false }
def FnProgressRaceSaid : Prop := fnProgressRaceRow.holds Try.pinned (OpenSpec.ofChange fnProgressRaceSpec)

/-- ITS FALSE NEIGHBOUR: 'it returns false'. Refute it at one input. -/
def fnProgressRaceWrong : ChangeSpec := { name := "fnProgressRace", fn := fun _ => fun
  | [d] => { results := [.lit (.bool false)], args := [d] }
  | _ => none }
def FnProgressRaceWrongFalsely : Prop := fnProgressRaceRow.holds Try.pinned (OpenSpec.ofChange fnProgressRaceWrong)

/-- 'laws.FnProgressSeries': WHATEVER THE INPUT: true; the input reads as it did. -/
def fnProgressSeriesSpec : ChangeSpec := { name := "fnProgressSeries", fn := fun _ => fun
  | [d] => { results := [.lit (.bool true)], args := [d] }
  | _ => none }
def fnProgressSeriesRow : OpenClaim := { program := "ytbkpfcpbpnmjaaa", sum := "e24ef3f7f97b984563377bb7e773276c3a162707b6d12ccdcb44e5e82be30226", func := "loop.example/g00887/laws.FnProgressSeries", spec := "fnProgressSeries", unfollowed := true, recurses := true, apart := false }
def FnProgressSeriesSaid : Prop := fnProgressSeriesRow.holds Try.pinned (OpenSpec.ofChange fnProgressSeriesSpec)

/-- ITS FALSE NEIGHBOUR: 'it returns false'. Refute it at one input. -/
def fnProgressSeriesWrong : ChangeSpec := { name := "fnProgressSeries", fn := fun _ => fun
  | [d] => { results := [.lit (.bool false)], args := [d] }
  | _ => none }
def FnProgressSeriesWrongFalsely : Prop := fnProgressSeriesRow.holds Try.pinned (OpenSpec.ofChange fnProgressSeriesWrong)

/-- 'laws.FnExactProgressSeries': WHATEVER THE INPUT: true; the input reads as it did. -/
def fnExactProgressSeriesSpec : ChangeSpec := { name := "fnExactProgressSeries", fn := fun _ => fun
  | [d1, d2, d3, d4] => { results := [.lit (.bool true)], args := [d1, d2, d3, d4] }
  | _ => none }
def fnExactProgressSeriesRow : OpenClaim := { program := "ytbkpfcpbpnmjaaa", sum := "e24ef3f7f97b984563377bb7e773276c3a162707b6d12ccdcb44e5e82be30226", func := "loop.example/g00887/laws.FnExactProgressSeries", spec := "fnExactProgressSeries", unfollowed := true, recurses := true, apart := false }
def FnExactProgressSeriesSaid : Prop := fnExactProgressSeriesRow.holds Try.pinned (OpenSpec.ofChange fnExactProgressSeriesSpec)

/-- ITS FALSE NEIGHBOUR: 'it returns false'. Refute it at one input. -/
def fnExactProgressSeriesWrong : ChangeSpec := { name := "fnExactProgressSeries", fn := fun _ => fun
  | [d1, d2, d3, d4] => { results := [.lit (.bool false)], args := [d1, d2, d3, d4] }
  | _ => none }
def FnExactProgressSeriesWrongFalsely : Prop := fnExactProgressSeriesRow.holds Try.pinned (OpenSpec.ofChange fnExactProgressSeriesWrong)

/-- 'laws.FnExactFactorHistory': WHATEVER THE INPUT: true; the input reads as it did. -/
def fnExactFactorHistorySpec : ChangeSpec := { name := "fnExactFactorHistory", fn := fun _ => fun
  | [d1, d2, d3, d4, d5] => { results := [.lit (.bool true)], args := [d1, d2, d3, d4, d5] }
  | _ => none }
def fnExactFactorHistoryRow : OpenClaim := { program := "ytbkpfcpbpnmjaaa", sum := "e24ef3f7f97b984563377bb7e773276c3a162707b6d12ccdcb44e5e82be30226", func := "loop.example/g00887/laws.FnExactFactorHistory", spec := "fnExactFactorHistory", unfollowed := true, recurses := true, apart := false }
def FnExactFactorHistorySaid : Prop := fnExactFactorHistoryRow.holds Try.pinned (OpenSpec.ofChange fnExactFactorHistorySpec)

/-- ITS FALSE NEIGHBOUR: 'it returns false'. Refute it at one input. -/
def fnExactFactorHistoryWrong : ChangeSpec := { name := "fnExactFactorHistory", fn := fun _ => fun
  | [d1, d2, d3, d4, d5] => { results := [.lit (.bool false)], args := [d1, d2, d3, d4, d5] }
  | _ => none }
def FnExactFactorHistoryWrongFalsely : Prop := fnExactFactorHistoryRow.holds Try.pinned (OpenSpec.ofChange fnExactFactorHistoryWrong)

/- THE SECOND FORM. 'bulk': how many values and letters a reading holds, each counted each time it is reached (what is shared counts as often as it is met; a slice's spare places count too). A statement '..UptoSaid' is the law's where the arguments, and the package variables that the reading takes, are together of bulk at most 1048576: NARROWER than '..Said'. Prove '..Said' where nothing that the law and all that it calls make is longer than what came in: it says more and counts as full. Else prove '..UptoSaid'. A law counts once. -/
mutual
def uptoBulk {H : Type} : DataW H → Nat
  | .lit (.string bytes) => bytes.length + 1
  | .lit _ => 1
  | .nil => 1
  | .ptr d => uptoBulk d + 1
  | .slice elems spare => uptoBulkAll elems + uptoBulkAll spare + 1
  | .agg parts => uptoBulkAll parts + 1
  | .iface _ d => uptoBulk d + 1
  | .map entries => uptoBulkEntries entries + 1
  | .held _ => 1
def uptoBulkAll {H : Type} : List (DataW H) → Nat
  | [] => 0
  | d :: r => uptoBulk d + uptoBulkAll r
def uptoBulkEntries {H : Type} : List (Lit × DataW H) → Nat
  | [] => 0
  | x :: r => uptoBulkEntry x + uptoBulkEntries r
def uptoBulkEntry {H : Type} : Lit × DataW H → Nat
  | (.string bytes, d) => bytes.length + uptoBulk d + 1
  | (_, d) => uptoBulk d + 1
 end
def uptoSmall : (H : Type) → List (DataW H) → Bool := fun _ ds => decide (uptoBulkAll ds ≤ 1048576)
def OpenSpec.upto (s : _root_.Go.ChangeSpec) : _root_.Go.OpenSpec := { _root_.Go.OpenSpec.ofChange s with cond := some uptoSmall }

/-- 'laws.FnExactParTime', WHERE WHAT IT READS IS OF BULK AT MOST 1048576: true; the input reads as it did. -/
def fnExactParTimeUptoRow : OpenClaim := { program := "ytbkpfcpbpnmjaaa", sum := "e24ef3f7f97b984563377bb7e773276c3a162707b6d12ccdcb44e5e82be30226", func := "loop.example/g00887/laws.FnExactParTime", spec := "fnExactParTime", recurses := true, apart := false, narrowed := true }
def FnExactParTimeUptoSaid : Prop := fnExactParTimeUptoRow.holds Try.pinned (OpenSpec.upto fnExactParTimeSpec)

/-- 'laws.FnExactParFactors', WHERE WHAT IT READS IS OF BULK AT MOST 1048576: true; the input reads as it did. -/
def fnExactParFactorsUptoRow : OpenClaim := { program := "ytbkpfcpbpnmjaaa", sum := "e24ef3f7f97b984563377bb7e773276c3a162707b6d12ccdcb44e5e82be30226", func := "loop.example/g00887/laws.FnExactParFactors", spec := "fnExactParFactors", recurses := true, apart := false, narrowed := true }
def FnExactParFactorsUptoSaid : Prop := fnExactParFactorsUptoRow.holds Try.pinned (OpenSpec.upto fnExactParFactorsSpec)

/-- 'laws.FnExactProgressRace', WHERE WHAT IT READS IS OF BULK AT MOST 1048576: true; the input reads as it did. -/
def fnExactProgressRaceUptoRow : OpenClaim := { program := "ytbkpfcpbpnmjaaa", sum := "e24ef3f7f97b984563377bb7e773276c3a162707b6d12ccdcb44e5e82be30226", func := "loop.example/g00887/laws.FnExactProgressRace", spec := "fnExactProgressRace", recurses := true, apart := false, narrowed := true }
def FnExactProgressRaceUptoSaid : Prop := fnExactProgressRaceUptoRow.holds Try.pinned (OpenSpec.upto fnExactProgressRaceSpec)

/-- 'laws.FnParTime', WHERE WHAT IT READS IS OF BULK AT MOST 1048576: true; the input reads as it did. -/
def fnParTimeUptoRow : OpenClaim := { program := "ytbkpfcpbpnmjaaa", sum := "e24ef3f7f97b984563377bb7e773276c3a162707b6d12ccdcb44e5e82be30226", func := "loop.example/g00887/laws.FnParTime", spec := "fnParTime", recurses := true, apart := false, narrowed := true }
def FnParTimeUptoSaid : Prop := fnParTimeUptoRow.holds Try.pinned (OpenSpec.upto fnParTimeSpec)

/-- 'laws.FnProgressRace', WHERE WHAT IT READS IS OF BULK AT MOST 1048576: true; the input reads as it did. -/
def fnProgressRaceUptoRow : OpenClaim := { program := "ytbkpfcpbpnmjaaa", sum := "e24ef3f7f97b984563377bb7e773276c3a162707b6d12ccdcb44e5e82be30226", func := "loop.example/g00887/laws.FnProgressRace", spec := "fnProgressRace", recurses := true, apart := false, narrowed := true }
def FnProgressRaceUptoSaid : Prop := fnProgressRaceUptoRow.holds Try.pinned (OpenSpec.upto fnProgressRaceSpec)

/-- 'laws.FnProgressSeries', WHERE WHAT IT READS IS OF BULK AT MOST 1048576: true; the input reads as it did. -/
def fnProgressSeriesUptoRow : OpenClaim := { program := "ytbkpfcpbpnmjaaa", sum := "e24ef3f7f97b984563377bb7e773276c3a162707b6d12ccdcb44e5e82be30226", func := "loop.example/g00887/laws.FnProgressSeries", spec := "fnProgressSeries", unfollowed := true, recurses := true, apart := false, narrowed := true }
def FnProgressSeriesUptoSaid : Prop := fnProgressSeriesUptoRow.holds Try.pinned (OpenSpec.upto fnProgressSeriesSpec)

/-- 'laws.FnExactProgressSeries', WHERE WHAT IT READS IS OF BULK AT MOST 1048576: true; the input reads as it did. -/
def fnExactProgressSeriesUptoRow : OpenClaim := { program := "ytbkpfcpbpnmjaaa", sum := "e24ef3f7f97b984563377bb7e773276c3a162707b6d12ccdcb44e5e82be30226", func := "loop.example/g00887/laws.FnExactProgressSeries", spec := "fnExactProgressSeries", unfollowed := true, recurses := true, apart := false, narrowed := true }
def FnExactProgressSeriesUptoSaid : Prop := fnExactProgressSeriesUptoRow.holds Try.pinned (OpenSpec.upto fnExactProgressSeriesSpec)

/-- 'laws.FnExactFactorHistory', WHERE WHAT IT READS IS OF BULK AT MOST 1048576: true; the input reads as it did. -/
def fnExactFactorHistoryUptoRow : OpenClaim := { program := "ytbkpfcpbpnmjaaa", sum := "e24ef3f7f97b984563377bb7e773276c3a162707b6d12ccdcb44e5e82be30226", func := "loop.example/g00887/laws.FnExactFactorHistory", spec := "fnExactFactorHistory", unfollowed := true, recurses := true, apart := false, narrowed := true }
def FnExactFactorHistoryUptoSaid : Prop := fnExactFactorHistoryUptoRow.holds Try.pinned (OpenSpec.upto fnExactFactorHistorySpec)

end Rows
end Go.Proofs.Ytbkpfcpbpnmjaaa
