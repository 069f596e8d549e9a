/-
  No cell of these rows narrows 'for every input' (looked for: loops, veiled, ifaces, maps, wideKeys, modest, calm, conditions, laid).
  DERIVED. THE GIVEN ROWS OF THIS SEAT. 6 by the template 'for every input the law returns true; each argument reads behind the call as it read before'; 0 by the template 'total and deterministic' (their statements: YtkpabfpddkmlnaaTotals.lean).
  GIVEN WITH THE SEED: the statements are not yours to turn. If you find one false, say at which input.
  Laid BY PROGRAM, IN A SANDBOX (cutbox-rows.mjs): the forced cells as the released guide's own fill.sh prints them over the translation eef18d58c671532e… (all of the seat's roots in one cut). By AI agents, Wed Nov 11 2026. No macro, syntax, notation, axiom, sorry.
-/
import Derived.Test.YtkpabfpddkmlnaaChecked
import GoSem.Claim
import GoSem.ClaimJoined
import GoSem.ClaimMapViews
import Derived.JoinedTies
import Derived.KernelRfl
namespace Go.Proofs.Ytkpabfpddkmlnaa
/- THE CELL 'sum', in the pinned program and in every row, IS THE sha256 OF THE DUMP (.gsa) THAT YtkpabfpddkmlnaaProg.lean LOADS. Nothing in Lean hashes anything: it is a label: what it is worth is what the hold of that sum in a sandbox is worth. -/
noncomputable def Try.pinned : Pinned := { name := "ytkpabfpddkmlnaa", sum := "eef18d58c671532e69455d1fa57fb3bcc004926e2925523eae57f1bde0c2428c", checked := Try.checked }
namespace Rows
def none {H : Type} : Left H := { results := [], args := [] }

/-- 'laws.FnExactImpliedWind': WHATEVER THE INPUT: true; the input reads as it did. -/
def fnExactImpliedWindSpec : ChangeSpec := { name := "fnExactImpliedWind", fn := fun _ => fun
  | [d1, d2, d3] => { results := [.lit (.bool true)], args := [d1, d2, d3] }
  | _ => none }
def fnExactImpliedWindRow : OpenClaim := { program := "ytkpabfpddkmlnaa", sum := "eef18d58c671532e69455d1fa57fb3bcc004926e2925523eae57f1bde0c2428c", func := "loop.example/g00887/laws.FnExactImpliedWind", spec := "fnExactImpliedWind", apart := false }
def FnExactImpliedWindSaid : Prop := fnExactImpliedWindRow.holds Try.pinned (OpenSpec.ofChange fnExactImpliedWindSpec)

/-- ITS FALSE NEIGHBOUR: 'it returns false'. Refute it at one input. -/
def fnExactImpliedWindWrong : ChangeSpec := { name := "fnExactImpliedWind", fn := fun _ => fun
  | [d1, d2, d3] => { results := [.lit (.bool false)], args := [d1, d2, d3] }
  | _ => none }
def FnExactImpliedWindWrongFalsely : Prop := fnExactImpliedWindRow.holds Try.pinned (OpenSpec.ofChange fnExactImpliedWindWrong)

/-- 'laws.FnExactCurveCorrected': WHATEVER THE INPUT: true; the input reads as it did. -/
def fnExactCurveCorrectedSpec : ChangeSpec := { name := "fnExactCurveCorrected", fn := fun _ => fun
  | [d1, d2, d3, d4] => { results := [.lit (.bool true)], args := [d1, d2, d3, d4] }
  | _ => none }
def fnExactCurveCorrectedRow : OpenClaim := { program := "ytkpabfpddkmlnaa", sum := "eef18d58c671532e69455d1fa57fb3bcc004926e2925523eae57f1bde0c2428c", func := "loop.example/g00887/laws.FnExactCurveCorrected", spec := "fnExactCurveCorrected", apart := false }
def FnExactCurveCorrectedSaid : Prop := fnExactCurveCorrectedRow.holds Try.pinned (OpenSpec.ofChange fnExactCurveCorrectedSpec)

/-- ITS FALSE NEIGHBOUR: 'it returns false'. Refute it at one input. -/
def fnExactCurveCorrectedWrong : ChangeSpec := { name := "fnExactCurveCorrected", fn := fun _ => fun
  | [d1, d2, d3, d4] => { results := [.lit (.bool false)], args := [d1, d2, d3, d4] }
  | _ => none }
def FnExactCurveCorrectedWrongFalsely : Prop := fnExactCurveCorrectedRow.holds Try.pinned (OpenSpec.ofChange fnExactCurveCorrectedWrong)

/-- 'laws.FnImplied': WHATEVER THE INPUT: true; the input reads as it did. -/
def fnImpliedSpec : ChangeSpec := { name := "fnImplied", fn := fun _ => fun
  | [d] => { results := [.lit (.bool true)], args := [d] }
  | _ => none }
def fnImpliedRow : OpenClaim := { program := "ytkpabfpddkmlnaa", sum := "eef18d58c671532e69455d1fa57fb3bcc004926e2925523eae57f1bde0c2428c", func := "loop.example/g00887/laws.FnImplied", spec := "fnImplied", apart := false }
def FnImpliedSaid : Prop := fnImpliedRow.holds Try.pinned (OpenSpec.ofChange fnImpliedSpec)

/-- ITS FALSE NEIGHBOUR: 'it returns false'. Refute it at one input. -/
def fnImpliedWrong : ChangeSpec := { name := "fnImplied", fn := fun _ => fun
  | [d] => { results := [.lit (.bool false)], args := [d] }
  | _ => none }
def FnImpliedWrongFalsely : Prop := fnImpliedRow.holds Try.pinned (OpenSpec.ofChange fnImpliedWrong)

/-- 'laws.FnExactSimplifyCurve': WHATEVER THE INPUT: true; the input reads as it did. -/
def fnExactSimplifyCurveSpec : ChangeSpec := { name := "fnExactSimplifyCurve", fn := fun _ => fun
  | [d1, d2] => { results := [.lit (.bool true)], args := [d1, d2] }
  | _ => none }
def fnExactSimplifyCurveRow : OpenClaim := { program := "ytkpabfpddkmlnaa", sum := "eef18d58c671532e69455d1fa57fb3bcc004926e2925523eae57f1bde0c2428c", func := "loop.example/g00887/laws.FnExactSimplifyCurve", spec := "fnExactSimplifyCurve", unfollowed := true, recurses := true, apart := false }
def FnExactSimplifyCurveSaid : Prop := fnExactSimplifyCurveRow.holds Try.pinned (OpenSpec.ofChange fnExactSimplifyCurveSpec)

/-- ITS FALSE NEIGHBOUR: 'it returns false'. Refute it at one input. -/
def fnExactSimplifyCurveWrong : ChangeSpec := { name := "fnExactSimplifyCurve", fn := fun _ => fun
  | [d1, d2] => { results := [.lit (.bool false)], args := [d1, d2] }
  | _ => none }
def FnExactSimplifyCurveWrongFalsely : Prop := fnExactSimplifyCurveRow.holds Try.pinned (OpenSpec.ofChange fnExactSimplifyCurveWrong)

/-- 'laws.FnByCurves': WHATEVER THE INPUT: true; the input reads as it did. -/
def fnByCurvesSpec : ChangeSpec := { name := "fnByCurves", fn := fun _ => fun
  | [d] => { results := [.lit (.bool true)], args := [d] }
  | _ => none }
def fnByCurvesRow : OpenClaim := { program := "ytkpabfpddkmlnaa", sum := "eef18d58c671532e69455d1fa57fb3bcc004926e2925523eae57f1bde0c2428c", func := "loop.example/g00887/laws.FnByCurves", spec := "fnByCurves", unfollowed := true, recurses := true, apart := false }
def FnByCurvesSaid : Prop := fnByCurvesRow.holds Try.pinned (OpenSpec.ofChange fnByCurvesSpec)

/-- ITS FALSE NEIGHBOUR: 'it returns false'. Refute it at one input. -/
def fnByCurvesWrong : ChangeSpec := { name := "fnByCurves", fn := fun _ => fun
  | [d] => { results := [.lit (.bool false)], args := [d] }
  | _ => none }
def FnByCurvesWrongFalsely : Prop := fnByCurvesRow.holds Try.pinned (OpenSpec.ofChange fnByCurvesWrong)

/-- 'laws.FnExactCorrectByCurves': WHATEVER THE INPUT: true; the input reads as it did. -/
def fnExactCorrectByCurvesSpec : ChangeSpec := { name := "fnExactCorrectByCurves", fn := fun _ => fun
  | [d1, d2, d3, d4, d5] => { results := [.lit (.bool true)], args := [d1, d2, d3, d4, d5] }
  | _ => none }
def fnExactCorrectByCurvesRow : OpenClaim := { program := "ytkpabfpddkmlnaa", sum := "eef18d58c671532e69455d1fa57fb3bcc004926e2925523eae57f1bde0c2428c", func := "loop.example/g00887/laws.FnExactCorrectByCurves", spec := "fnExactCorrectByCurves", unfollowed := true, recurses := true, apart := false }
def FnExactCorrectByCurvesSaid : Prop := fnExactCorrectByCurvesRow.holds Try.pinned (OpenSpec.ofChange fnExactCorrectByCurvesSpec)

/-- ITS FALSE NEIGHBOUR: 'it returns false'. Refute it at one input. -/
def fnExactCorrectByCurvesWrong : ChangeSpec := { name := "fnExactCorrectByCurves", fn := fun _ => fun
  | [d1, d2, d3, d4, d5] => { results := [.lit (.bool false)], args := [d1, d2, d3, d4, d5] }
  | _ => none }
def FnExactCorrectByCurvesWrongFalsely : Prop := fnExactCorrectByCurvesRow.holds Try.pinned (OpenSpec.ofChange fnExactCorrectByCurvesWrong)

/- THE SECOND FORM. 'bulk': how many values and letters a reading holds, each counted each time it is reached (what is shared counts as often as it is met; a slice's spare places count too). A statement '..UptoSaid' is the law's where the arguments, and the package variables that the reading takes, are together of bulk at most 1048576: NARROWER than '..Said'. Prove '..Said' where nothing that the law and all that it calls make is longer than what came in: it says more and counts as full. Else prove '..UptoSaid'. A law counts once. -/
mutual
def uptoBulk {H : Type} : DataW H → Nat
  | .lit (.string bytes) => bytes.length + 1
  | .lit _ => 1
  | .nil => 1
  | .ptr d => uptoBulk d + 1
  | .slice elems spare => uptoBulkAll elems + uptoBulkAll spare + 1
  | .agg parts => uptoBulkAll parts + 1
  | .iface _ d => uptoBulk d + 1
  | .map entries => uptoBulkEntries entries + 1
  | .held _ => 1
def uptoBulkAll {H : Type} : List (DataW H) → Nat
  | [] => 0
  | d :: r => uptoBulk d + uptoBulkAll r
def uptoBulkEntries {H : Type} : List (Lit × DataW H) → Nat
  | [] => 0
  | x :: r => uptoBulkEntry x + uptoBulkEntries r
def uptoBulkEntry {H : Type} : Lit × DataW H → Nat
  | (.string bytes, d) => bytes.length + uptoBulk d + 1
  | (_, d) => uptoBulk d + 1
 end
def uptoSmall : (H : Type) → List (DataW H) → Bool := fun _ ds => decide (uptoBulkAll ds ≤ 1048576)
def OpenSpec.upto (s : _root_.Go.ChangeSpec) : _root_.Go.OpenSpec := { _root_.Go.OpenSpec.ofChange s with cond := some uptoSmall }

/-- 'laws.FnExactImpliedWind', WHERE WHAT IT READS IS OF BULK AT MOST 1048576: true; the input reads as it did. -/
def fnExactImpliedWindUptoRow : OpenClaim := { program := "ytkpabfpddkmlnaa", sum := "eef18d58c671532e69455d1fa57fb3bcc004926e2925523eae57f1bde0c2428c", func := "loop.example/g00887/laws.FnExactImpliedWind", spec := "fnExactImpliedWind", apart := false, narrowed := true }
def FnExactImpliedWindUptoSaid : Prop := fnExactImpliedWindUptoRow.holds Try.pinned (OpenSpec.upto fnExactImpliedWindSpec)

/-- 'laws.FnExactCurveCorrected', WHERE WHAT IT READS IS OF BULK AT MOST 1048576: true; the input reads as it did. -/
def fnExactCurveCorrectedUptoRow : OpenClaim := { program := "ytkpabfpddkmlnaa", sum := "eef18d58c671532e69455d1fa57fb3bcc004926e2925523eae57f1bde0c2428c", func := "loop.example/g00887/laws.FnExactCurveCorrected", spec := "fnExactCurveCorrected", apart := false, narrowed := true }
def FnExactCurveCorrectedUptoSaid : Prop := fnExactCurveCorrectedUptoRow.holds Try.pinned (OpenSpec.upto fnExactCurveCorrectedSpec)

/-- 'laws.FnImplied', WHERE WHAT IT READS IS OF BULK AT MOST 1048576: true; the input reads as it did. -/
def fnImpliedUptoRow : OpenClaim := { program := "ytkpabfpddkmlnaa", sum := "eef18d58c671532e69455d1fa57fb3bcc004926e2925523eae57f1bde0c2428c", func := "loop.example/g00887/laws.FnImplied", spec := "fnImplied", apart := false, narrowed := true }
def FnImpliedUptoSaid : Prop := fnImpliedUptoRow.holds Try.pinned (OpenSpec.upto fnImpliedSpec)

/-- 'laws.FnExactSimplifyCurve', WHERE WHAT IT READS IS OF BULK AT MOST 1048576: true; the input reads as it did. -/
def fnExactSimplifyCurveUptoRow : OpenClaim := { program := "ytkpabfpddkmlnaa", sum := "eef18d58c671532e69455d1fa57fb3bcc004926e2925523eae57f1bde0c2428c", func := "loop.example/g00887/laws.FnExactSimplifyCurve", spec := "fnExactSimplifyCurve", unfollowed := true, recurses := true, apart := false, narrowed := true }
def FnExactSimplifyCurveUptoSaid : Prop := fnExactSimplifyCurveUptoRow.holds Try.pinned (OpenSpec.upto fnExactSimplifyCurveSpec)

/-- 'laws.FnByCurves', WHERE WHAT IT READS IS OF BULK AT MOST 1048576: true; the input reads as it did. -/
def fnByCurvesUptoRow : OpenClaim := { program := "ytkpabfpddkmlnaa", sum := "eef18d58c671532e69455d1fa57fb3bcc004926e2925523eae57f1bde0c2428c", func := "loop.example/g00887/laws.FnByCurves", spec := "fnByCurves", unfollowed := true, recurses := true, apart := false, narrowed := true }
def FnByCurvesUptoSaid : Prop := fnByCurvesUptoRow.holds Try.pinned (OpenSpec.upto fnByCurvesSpec)

/-- 'laws.FnExactCorrectByCurves', WHERE WHAT IT READS IS OF BULK AT MOST 1048576: true; the input reads as it did. -/
def fnExactCorrectByCurvesUptoRow : OpenClaim := { program := "ytkpabfpddkmlnaa", sum := "eef18d58c671532e69455d1fa57fb3bcc004926e2925523eae57f1bde0c2428c", func := "loop.example/g00887/laws.FnExactCorrectByCurves", spec := "fnExactCorrectByCurves", unfollowed := true, recurses := true, apart := false, narrowed := true }
def FnExactCorrectByCurvesUptoSaid : Prop := fnExactCorrectByCurvesUptoRow.holds Try.pinned (OpenSpec.upto fnExactCorrectByCurvesSpec)

end Rows
end Go.Proofs.Ytkpabfpddkmlnaa
