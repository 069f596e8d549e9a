/-
  No cell of these rows narrows 'for every input' (looked for: loops, veiled, ifaces, maps, wideKeys, modest, calm, conditions, laid).
  DERIVED. THE GIVEN ROWS OF THIS SEAT. 4 by the template 'for every input the law returns true; each argument reads behind the call as it read before'; 0 by the template 'total and deterministic' (their statements: YteajalndaehpcaaTotals.lean).
  GIVEN WITH THE SEED: the statements are not yours to turn. If you find one false, say at which input.
  Laid BY PROGRAM, IN A SANDBOX (cutbox-rows.mjs): the forced cells as the released guide's own fill.sh prints them over the translation 81efb345a535b795… (all of the seat's roots in one cut). By AI agents, Wed Nov 11 2026. No macro, syntax, notation, axiom, sorry.
-/
import Derived.Test.YteajalndaehpcaaChecked
import GoSem.Claim
import GoSem.ClaimJoined
import GoSem.ClaimMapViews
import Derived.JoinedTies
import Derived.KernelRfl
namespace Go.Proofs.Yteajalndaehpcaa
/- THE CELL 'sum', in the pinned program and in every row, IS THE sha256 OF THE DUMP (.gsa) THAT YteajalndaehpcaaProg.lean LOADS. Nothing in Lean hashes anything: it is a label: what it is worth is what the hold of that sum in a sandbox is worth. -/
noncomputable def Try.pinned : Pinned := { name := "yteajalndaehpcaa", sum := "81efb345a535b795d45788ac884ce375e25386505eb3a555140bc61db5e8504f", checked := Try.checked }
namespace Rows
def none {H : Type} : Left H := { results := [], args := [] }

/-- 'laws.FnExactIsProgress': WHATEVER THE INPUT: true; the input reads as it did. -/
def fnExactIsProgressSpec : ChangeSpec := { name := "fnExactIsProgress", fn := fun _ => fun
  | [d] => { results := [.lit (.bool true)], args := [d] }
  | _ => none }
def fnExactIsProgressRow : OpenClaim := { program := "yteajalndaehpcaa", sum := "81efb345a535b795d45788ac884ce375e25386505eb3a555140bc61db5e8504f", func := "loop.example/g00887/laws.FnExactIsProgress", spec := "fnExactIsProgress", apart := false }
def FnExactIsProgressSaid : Prop := fnExactIsProgressRow.holds Try.pinned (OpenSpec.ofChange fnExactIsProgressSpec)

/-- ITS FALSE NEIGHBOUR: 'it returns false'. Refute it at one input. -/
def fnExactIsProgressWrong : ChangeSpec := { name := "fnExactIsProgress", fn := fun _ => fun
  | [d] => { results := [.lit (.bool false)], args := [d] }
  | _ => none }
def FnExactIsProgressWrongFalsely : Prop := fnExactIsProgressRow.holds Try.pinned (OpenSpec.ofChange fnExactIsProgressWrong)

/-- 'laws.FnExactIsDiscardRule': WHATEVER THE INPUT: true; the input reads as it did. -/
def fnExactIsDiscardRuleSpec : ChangeSpec := { name := "fnExactIsDiscardRule", fn := fun _ => fun
  | [d] => { results := [.lit (.bool true)], args := [d] }
  | _ => none }
def fnExactIsDiscardRuleRow : OpenClaim := { program := "yteajalndaehpcaa", sum := "81efb345a535b795d45788ac884ce375e25386505eb3a555140bc61db5e8504f", func := "loop.example/g00887/laws.FnExactIsDiscardRule", spec := "fnExactIsDiscardRule", apart := false }
def FnExactIsDiscardRuleSaid : Prop := fnExactIsDiscardRuleRow.holds Try.pinned (OpenSpec.ofChange fnExactIsDiscardRuleSpec)

/-- ITS FALSE NEIGHBOUR: 'it returns false'. Refute it at one input. -/
def fnExactIsDiscardRuleWrong : ChangeSpec := { name := "fnExactIsDiscardRule", fn := fun _ => fun
  | [d] => { results := [.lit (.bool false)], args := [d] }
  | _ => none }
def FnExactIsDiscardRuleWrongFalsely : Prop := fnExactIsDiscardRuleRow.holds Try.pinned (OpenSpec.ofChange fnExactIsDiscardRuleWrong)

/-- 'laws.FnExactProgressFactor': WHATEVER THE INPUT: true; the input reads as it did. -/
def fnExactProgressFactorSpec : ChangeSpec := { name := "fnExactProgressFactor", fn := fun _ => fun
  | [d1, d2, d3] => { results := [.lit (.bool true)], args := [d1, d2, d3] }
  | _ => none }
def fnExactProgressFactorRow : OpenClaim := { program := "yteajalndaehpcaa", sum := "81efb345a535b795d45788ac884ce375e25386505eb3a555140bc61db5e8504f", func := "loop.example/g00887/laws.FnExactProgressFactor", spec := "fnExactProgressFactor", apart := false }
def FnExactProgressFactorSaid : Prop := fnExactProgressFactorRow.holds Try.pinned (OpenSpec.ofChange fnExactProgressFactorSpec)

/-- ITS FALSE NEIGHBOUR: 'it returns false'. Refute it at one input. -/
def fnExactProgressFactorWrong : ChangeSpec := { name := "fnExactProgressFactor", fn := fun _ => fun
  | [d1, d2, d3] => { results := [.lit (.bool false)], args := [d1, d2, d3] }
  | _ => none }
def FnExactProgressFactorWrongFalsely : Prop := fnExactProgressFactorRow.holds Try.pinned (OpenSpec.ofChange fnExactProgressFactorWrong)

/-- 'laws.FnExactDiscardCount': WHATEVER THE INPUT: true; the input reads as it did. -/
def fnExactDiscardCountSpec : ChangeSpec := { name := "fnExactDiscardCount", fn := fun _ => fun
  | [d1, d2] => { results := [.lit (.bool true)], args := [d1, d2] }
  | _ => none }
def fnExactDiscardCountRow : OpenClaim := { program := "yteajalndaehpcaa", sum := "81efb345a535b795d45788ac884ce375e25386505eb3a555140bc61db5e8504f", func := "loop.example/g00887/laws.FnExactDiscardCount", spec := "fnExactDiscardCount", apart := false }
def FnExactDiscardCountSaid : Prop := fnExactDiscardCountRow.holds Try.pinned (OpenSpec.ofChange fnExactDiscardCountSpec)

/-- ITS FALSE NEIGHBOUR: 'it returns false'. Refute it at one input. -/
def fnExactDiscardCountWrong : ChangeSpec := { name := "fnExactDiscardCount", fn := fun _ => fun
  | [d1, d2] => { results := [.lit (.bool false)], args := [d1, d2] }
  | _ => none }
def FnExactDiscardCountWrongFalsely : Prop := fnExactDiscardCountRow.holds Try.pinned (OpenSpec.ofChange fnExactDiscardCountWrong)

/- THE SECOND FORM. 'bulk': how many values and letters a reading holds, each counted each time it is reached (what is shared counts as often as it is met; a slice's spare places count too). A statement '..UptoSaid' is the law's where the arguments, and the package variables that the reading takes, are together of bulk at most 1048576: NARROWER than '..Said'. Prove '..Said' where nothing that the law and all that it calls make is longer than what came in: it says more and counts as full. Else prove '..UptoSaid'. A law counts once. -/
mutual
def uptoBulk {H : Type} : DataW H → Nat
  | .lit (.string bytes) => bytes.length + 1
  | .lit _ => 1
  | .nil => 1
  | .ptr d => uptoBulk d + 1
  | .slice elems spare => uptoBulkAll elems + uptoBulkAll spare + 1
  | .agg parts => uptoBulkAll parts + 1
  | .iface _ d => uptoBulk d + 1
  | .map entries => uptoBulkEntries entries + 1
  | .held _ => 1
def uptoBulkAll {H : Type} : List (DataW H) → Nat
  | [] => 0
  | d :: r => uptoBulk d + uptoBulkAll r
def uptoBulkEntries {H : Type} : List (Lit × DataW H) → Nat
  | [] => 0
  | x :: r => uptoBulkEntry x + uptoBulkEntries r
def uptoBulkEntry {H : Type} : Lit × DataW H → Nat
  | (.string bytes, d) => bytes.length + uptoBulk d + 1
  | (_, d) => uptoBulk d + 1
 end
def uptoSmall : (H : Type) → List (DataW H) → Bool := fun _ ds => decide (uptoBulkAll ds ≤ 1048576)
def OpenSpec.upto (s : _root_.Go.ChangeSpec) : _root_.Go.OpenSpec := { _root_.Go.OpenSpec.ofChange s with cond := some uptoSmall }

/-- 'laws.FnExactIsProgress', WHERE WHAT IT READS IS OF BULK AT MOST 1048576: true; the input reads as it did. -/
def fnExactIsProgressUptoRow : OpenClaim := { program := "yteajalndaehpcaa", sum := "81efb345a535b795d45788ac884ce375e25386505eb3a555140bc61db5e8504f", func := "loop.example/g00887/laws.FnExactIsProgress", spec := "fnExactIsProgress", apart := false, narrowed := true }
def FnExactIsProgressUptoSaid : Prop := fnExactIsProgressUptoRow.holds Try.pinned (OpenSpec.upto fnExactIsProgressSpec)

/-- 'laws.FnExactIsDiscardRule', WHERE WHAT IT READS IS OF BULK AT MOST 1048576: true; the input reads as it did. -/
def fnExactIsDiscardRuleUptoRow : OpenClaim := { program := "yteajalndaehpcaa", sum := "81efb345a535b795d45788ac884ce375e25386505eb3a555140bc61db5e8504f", func := "loop.example/g00887/laws.FnExactIsDiscardRule", spec := "fnExactIsDiscardRule", apart := false, narrowed := true }
def FnExactIsDiscardRuleUptoSaid : Prop := fnExactIsDiscardRuleUptoRow.holds Try.pinned (OpenSpec.upto fnExactIsDiscardRuleSpec)

/-- 'laws.FnExactProgressFactor', WHERE WHAT IT READS IS OF BULK AT MOST 1048576: true; the input reads as it did. -/
def fnExactProgressFactorUptoRow : OpenClaim := { program := "yteajalndaehpcaa", sum := "81efb345a535b795d45788ac884ce375e25386505eb3a555140bc61db5e8504f", func := "loop.example/g00887/laws.FnExactProgressFactor", spec := "fnExactProgressFactor", apart := false, narrowed := true }
def FnExactProgressFactorUptoSaid : Prop := fnExactProgressFactorUptoRow.holds Try.pinned (OpenSpec.upto fnExactProgressFactorSpec)

/-- 'laws.FnExactDiscardCount', WHERE WHAT IT READS IS OF BULK AT MOST 1048576: true; the input reads as it did. -/
def fnExactDiscardCountUptoRow : OpenClaim := { program := "yteajalndaehpcaa", sum := "81efb345a535b795d45788ac884ce375e25386505eb3a555140bc61db5e8504f", func := "loop.example/g00887/laws.FnExactDiscardCount", spec := "fnExactDiscardCount", apart := false, narrowed := true }
def FnExactDiscardCountUptoSaid : Prop := fnExactDiscardCountUptoRow.holds Try.pinned (OpenSpec.upto fnExactDiscardCountSpec)

end Rows
end Go.Proofs.Yteajalndaehpcaa
