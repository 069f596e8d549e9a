/-
  No cell of these rows narrows 'for every input' (looked for: loops, veiled, ifaces, maps, wideKeys, modest, calm, conditions, laid).
  DERIVED. THE GIVEN ROWS OF THIS SEAT. 3 by the template 'for every input the law returns true; each argument reads behind the call as it read before'; 0 by the template 'total and deterministic' (their statements: YtpnehnkhhibliaaTotals.lean).
  GIVEN WITH THE SEED: the statements are not yours to turn. If you find one false, say at which input.
  Laid BY PROGRAM, IN A SANDBOX (cutbox-rows.mjs): the forced cells as the released guide's own fill.sh prints them over the translation 1644e65d526fd650… (all of the seat's roots in one cut). By AI agents, Wed Nov 11 2026. No macro, syntax, notation, axiom, sorry.
-/
import Derived.Test.YtpnehnkhhibliaaChecked
import GoSem.Claim
import GoSem.ClaimJoined
import GoSem.ClaimMapViews
import Derived.JoinedTies
import Derived.KernelRfl
namespace Go.Proofs.Ytpnehnkhhibliaa
/- THE CELL 'sum', in the pinned program and in every row, IS THE sha256 OF THE DUMP (.gsa) THAT YtpnehnkhhibliaaProg.lean LOADS. Nothing in Lean hashes anything: it is a label: what it is worth is what the hold of that sum in a sandbox is worth. -/
noncomputable def Try.pinned : Pinned := { name := "ytpnehnkhhibliaa", sum := "1644e65d526fd65082dc39fc28be1b916ed63419a5b044aa575f85c60adbf136", checked := Try.checked }
namespace Rows
def none {H : Type} : Left H := { results := [], args := [] }

/-- 'laws.FnByCurves': WHATEVER THE INPUT: true; the input reads as it did. -/
def fnByCurvesSpec : ChangeSpec := { name := "fnByCurves", fn := fun _ => fun
  | [d] => { results := [.lit (.bool true)], args := [d] }
  | _ => none }
def fnByCurvesRow : OpenClaim := { program := "ytpnehnkhhibliaa", sum := "1644e65d526fd65082dc39fc28be1b916ed63419a5b044aa575f85c60adbf136", func := "loop.example/g00887/laws.FnByCurves", spec := "fnByCurves", unfollowed := true, recurses := true, apart := false }
def FnByCurvesSaid : Prop := fnByCurvesRow.holds Try.pinned (OpenSpec.ofChange fnByCurvesSpec)

/-- ITS FALSE NEIGHBOUR: 'it returns false'. Refute it at one input. -/
def fnByCurvesWrong : ChangeSpec := { name := "fnByCurves", fn := fun _ => fun
  | [d] => { results := [.lit (.bool false)], args := [d] }
  | _ => none }
def FnByCurvesWrongFalsely : Prop := fnByCurvesRow.holds Try.pinned (OpenSpec.ofChange fnByCurvesWrong)

/-- 'laws.FnExactCorrectByCurves': WHATEVER THE INPUT: true; the input reads as it did. -/
def fnExactCorrectByCurvesSpec : ChangeSpec := { name := "fnExactCorrectByCurves", fn := fun _ => fun
  | [d1, d2, d3, d4, d5] => { results := [.lit (.bool true)], args := [d1, d2, d3, d4, d5] }
  | _ => none }
def fnExactCorrectByCurvesRow : OpenClaim := { program := "ytpnehnkhhibliaa", sum := "1644e65d526fd65082dc39fc28be1b916ed63419a5b044aa575f85c60adbf136", func := "loop.example/g00887/laws.FnExactCorrectByCurves", spec := "fnExactCorrectByCurves", unfollowed := true, recurses := true, apart := false }
def FnExactCorrectByCurvesSaid : Prop := fnExactCorrectByCurvesRow.holds Try.pinned (OpenSpec.ofChange fnExactCorrectByCurvesSpec)

/-- ITS FALSE NEIGHBOUR: 'it returns false'. Refute it at one input. -/
def fnExactCorrectByCurvesWrong : ChangeSpec := { name := "fnExactCorrectByCurves", fn := fun _ => fun
  | [d1, d2, d3, d4, d5] => { results := [.lit (.bool false)], args := [d1, d2, d3, d4, d5] }
  | _ => none }
def FnExactCorrectByCurvesWrongFalsely : Prop := fnExactCorrectByCurvesRow.holds Try.pinned (OpenSpec.ofChange fnExactCorrectByCurvesWrong)

/-- 'laws.FnExactSimplifyCurve': WHATEVER THE INPUT: true; the input reads as it did. -/
def fnExactSimplifyCurveSpec : ChangeSpec := { name := "fnExactSimplifyCurve", fn := fun _ => fun
  | [d1, d2] => { results := [.lit (.bool true)], args := [d1, d2] }
  | _ => none }
def fnExactSimplifyCurveRow : OpenClaim := { program := "ytpnehnkhhibliaa", sum := "1644e65d526fd65082dc39fc28be1b916ed63419a5b044aa575f85c60adbf136", func := "loop.example/g00887/laws.FnExactSimplifyCurve", spec := "fnExactSimplifyCurve", unfollowed := true, recurses := true, apart := false }
def FnExactSimplifyCurveSaid : Prop := fnExactSimplifyCurveRow.holds Try.pinned (OpenSpec.ofChange fnExactSimplifyCurveSpec)

/-- ITS FALSE NEIGHBOUR: 'it returns false'. Refute it at one input. -/
def fnExactSimplifyCurveWrong : ChangeSpec := { name := "fnExactSimplifyCurve", fn := fun _ => fun
  | [d1, d2] => { results := [.lit (.bool false)], args := [d1, d2] }
  | _ => none }
def FnExactSimplifyCurveWrongFalsely : Prop := fnExactSimplifyCurveRow.holds Try.pinned (OpenSpec.ofChange fnExactSimplifyCurveWrong)

/- THE SECOND FORM. 'bulk': how many values and letters a reading holds, each counted each time it is reached (what is shared counts as often as it is met; a slice's spare places count too). A statement '..UptoSaid' is the law's where the arguments, and the package variables that the reading takes, are together of bulk at most 1048576: NARROWER than '..Said'. Prove '..Said' where nothing that the law and all that it calls make is longer than what came in: it says more and counts as full. Else prove '..UptoSaid'. A law counts once. -/
mutual
def uptoBulk {H : Type} : DataW H → Nat
  | .lit (.string bytes) => bytes.length + 1
  | .lit _ => 1
  | .nil => 1
  | .ptr d => uptoBulk d + 1
  | .slice elems spare => uptoBulkAll elems + uptoBulkAll spare + 1
  | .agg parts => uptoBulkAll parts + 1
  | .iface _ d => uptoBulk d + 1
  | .map entries => uptoBulkEntries entries + 1
  | .held _ => 1
def uptoBulkAll {H : Type} : List (DataW H) → Nat
  | [] => 0
  | d :: r => uptoBulk d + uptoBulkAll r
def uptoBulkEntries {H : Type} : List (Lit × DataW H) → Nat
  | [] => 0
  | x :: r => uptoBulkEntry x + uptoBulkEntries r
def uptoBulkEntry {H : Type} : Lit × DataW H → Nat
  | (.string bytes, d) => bytes.length + uptoBulk d + 1
  | (_, d) => uptoBulk d + 1
 end
def uptoSmall : (H : Type) → List (DataW H) → Bool := fun _ ds => decide (uptoBulkAll ds ≤ 1048576)
def OpenSpec.upto (s : _root_.Go.ChangeSpec) : _root_.Go.OpenSpec := { _root_.Go.OpenSpec.ofChange s with cond := some uptoSmall }

/-- 'laws.FnByCurves', WHERE WHAT IT READS IS OF BULK AT MOST 1048576: true; the input reads as it did. -/
def fnByCurvesUptoRow : OpenClaim := { program := "ytpnehnkhhibliaa", sum := "1644e65d526fd65082dc39fc28be1b916ed63419a5b044aa575f85c60adbf136", func := "loop.example/g00887/laws.FnByCurves", spec := "fnByCurves", unfollowed := true, recurses := true, apart := false, narrowed := true }
def FnByCurvesUptoSaid : Prop := fnByCurvesUptoRow.holds Try.pinned (OpenSpec.upto fnByCurvesSpec)

/-- 'laws.FnExactCorrectByCurves', WHERE WHAT IT READS IS OF BULK AT MOST 1048576: true; the input reads as it did. -/
def fnExactCorrectByCurvesUptoRow : OpenClaim := { program := "ytpnehnkhhibliaa", sum := "1644e65d526fd65082dc39fc28be1b916ed63419a5b044aa575f85c60adbf136", func := "loop.example/g00887/laws.FnExactCorrectByCurves", spec := "fnExactCorrectByCurves", unfollowed := true, recurses := true, apart := false, narrowed := true }
def FnExactCorrectByCurvesUptoSaid : Prop := fnExactCorrectByCurvesUptoRow.holds Try.pinned (OpenSpec.upto fnExactCorrectByCurvesSpec)

/-- 'laws.FnExactSimplifyCurve', WHERE WHAT IT READS IS OF BULK AT MOST 1048576: true; the input reads as it did. -/
def fnExactSimplifyCurveUptoRow : OpenClaim := { program := "ytpnehnkhhibliaa", sum := "1644e65d526fd65082dc39fc28be1b916ed63419a5b044aa575f85c60adbf136", func := "loop.example/g00887/laws.FnExactSimplifyCurve", spec := "fnExactSimplifyCurve", unfollowed := true, recurses := true, apart := false, narrowed := true }
def FnExactSimplifyCurveUptoSaid : Prop := fnExactSimplifyCurveUptoRow.holds Try.pinned (OpenSpec.upto fnExactSimplifyCurveSpec)

end Rows
end Go.Proofs.Ytpnehnkhhibliaa
