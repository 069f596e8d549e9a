/-
  No cell of these rows narrows 'for every input' (looked for: loops, veiled, ifaces, maps, wideKeys, modest, calm, conditions, laid).
  DERIVED. THE GIVEN ROWS OF THIS SEAT. 10 by the template 'for every input the law returns true; each argument reads behind the call as it read before'; 0 by the template 'total and deterministic' (their statements: YtblljgcbffkahaaTotals.lean).
  GIVEN WITH THE SEED: the statements are not yours to turn. If you find one false, say at which input.
  Laid BY PROGRAM, IN A SANDBOX (cutbox-rows.mjs): the forced cells as the released guide's own fill.sh prints them over the translation 98750fc08cf5096c… (all of the seat's roots in one cut). By AI agents, Wed Nov 11 2026. No macro, syntax, notation, axiom, sorry.
-/
import Derived.Test.YtblljgcbffkahaaChecked
import GoSem.Claim
import GoSem.ClaimJoined
import GoSem.ClaimMapViews
import Derived.JoinedTies
import Derived.KernelRfl
namespace Go.Proofs.Ytblljgcbffkahaa
/- THE CELL 'sum', in the pinned program and in every row, IS THE sha256 OF THE DUMP (.gsa) THAT YtblljgcbffkahaaProg.lean LOADS. Nothing in Lean hashes anything: it is a label: what it is worth is what the hold of that sum in a sandbox is worth. -/
noncomputable def Try.pinned : Pinned := { name := "ytblljgcbffkahaa", sum := "98750fc08cf5096c8ad3bf6841562cc65980291f201f2a5fb8088db9785e0527", checked := Try.checked }
namespace Rows
def none {H : Type} : Left H := { results := [], args := [] }

/-- 'laws.FnExactIsRace': WHATEVER THE INPUT: true; the input reads as it did. -/
def fnExactIsRaceSpec : ChangeSpec := { name := "fnExactIsRace", fn := fun _ => fun
  | [d1, d2] => { results := [.lit (.bool true)], args := [d1, d2] }
  | _ => none }
def fnExactIsRaceRow : OpenClaim := { program := "ytblljgcbffkahaa", sum := "98750fc08cf5096c8ad3bf6841562cc65980291f201f2a5fb8088db9785e0527", func := "loop.example/g00887/laws.FnExactIsRace", spec := "fnExactIsRace", apart := false }
def FnExactIsRaceSaid : Prop := fnExactIsRaceRow.holds Try.pinned (OpenSpec.ofChange fnExactIsRaceSpec)

/-- ITS FALSE NEIGHBOUR: 'it returns false'. Refute it at one input. -/
def fnExactIsRaceWrong : ChangeSpec := { name := "fnExactIsRace", fn := fun _ => fun
  | [d1, d2] => { results := [.lit (.bool false)], args := [d1, d2] }
  | _ => none }
def FnExactIsRaceWrongFalsely : Prop := fnExactIsRaceRow.holds Try.pinned (OpenSpec.ofChange fnExactIsRaceWrong)

/-- 'laws.FnExactIsTable': WHATEVER THE INPUT: true; the input reads as it did. -/
def fnExactIsTableSpec : ChangeSpec := { name := "fnExactIsTable", fn := fun _ => fun
  | [d] => { results := [.lit (.bool true)], args := [d] }
  | _ => none }
def fnExactIsTableRow : OpenClaim := { program := "ytblljgcbffkahaa", sum := "98750fc08cf5096c8ad3bf6841562cc65980291f201f2a5fb8088db9785e0527", func := "loop.example/g00887/laws.FnExactIsTable", spec := "fnExactIsTable", apart := false }
def FnExactIsTableSaid : Prop := fnExactIsTableRow.holds Try.pinned (OpenSpec.ofChange fnExactIsTableSpec)

/-- ITS FALSE NEIGHBOUR: 'it returns false'. Refute it at one input. -/
def fnExactIsTableWrong : ChangeSpec := { name := "fnExactIsTable", fn := fun _ => fun
  | [d] => { results := [.lit (.bool false)], args := [d] }
  | _ => none }
def FnExactIsTableWrongFalsely : Prop := fnExactIsTableRow.holds Try.pinned (OpenSpec.ofChange fnExactIsTableWrong)

/-- 'laws.FnExactIsSeries': WHATEVER THE INPUT: true; the input reads as it did. -/
def fnExactIsSeriesSpec : ChangeSpec := { name := "fnExactIsSeries", fn := fun _ => fun
  | [d] => { results := [.lit (.bool true)], args := [d] }
  | _ => none }
def fnExactIsSeriesRow : OpenClaim := { program := "ytblljgcbffkahaa", sum := "98750fc08cf5096c8ad3bf6841562cc65980291f201f2a5fb8088db9785e0527", func := "loop.example/g00887/laws.FnExactIsSeries", spec := "fnExactIsSeries", apart := false }
def FnExactIsSeriesSaid : Prop := fnExactIsSeriesRow.holds Try.pinned (OpenSpec.ofChange fnExactIsSeriesSpec)

/-- ITS FALSE NEIGHBOUR: 'it returns false'. Refute it at one input. -/
def fnExactIsSeriesWrong : ChangeSpec := { name := "fnExactIsSeries", fn := fun _ => fun
  | [d] => { results := [.lit (.bool false)], args := [d] }
  | _ => none }
def FnExactIsSeriesWrongFalsely : Prop := fnExactIsSeriesRow.holds Try.pinned (OpenSpec.ofChange fnExactIsSeriesWrong)

/-- 'laws.FnExactPlacesOf': WHATEVER THE INPUT: true; the input reads as it did. -/
def fnExactPlacesOfSpec : ChangeSpec := { name := "fnExactPlacesOf", fn := fun _ => fun
  | [d1, d2] => { results := [.lit (.bool true)], args := [d1, d2] }
  | _ => none }
def fnExactPlacesOfRow : OpenClaim := { program := "ytblljgcbffkahaa", sum := "98750fc08cf5096c8ad3bf6841562cc65980291f201f2a5fb8088db9785e0527", func := "loop.example/g00887/laws.FnExactPlacesOf", spec := "fnExactPlacesOf", apart := false }
def FnExactPlacesOfSaid : Prop := fnExactPlacesOfRow.holds Try.pinned (OpenSpec.ofChange fnExactPlacesOfSpec)

/-- ITS FALSE NEIGHBOUR: 'it returns false'. Refute it at one input. -/
def fnExactPlacesOfWrong : ChangeSpec := { name := "fnExactPlacesOf", fn := fun _ => fun
  | [d1, d2] => { results := [.lit (.bool false)], args := [d1, d2] }
  | _ => none }
def FnExactPlacesOfWrongFalsely : Prop := fnExactPlacesOfRow.holds Try.pinned (OpenSpec.ofChange fnExactPlacesOfWrong)

/-- 'laws.FnRacePoints': WHATEVER THE INPUT: true; the input reads as it did. -/
def fnRacePointsSpec : ChangeSpec := { name := "fnRacePoints", fn := fun _ => fun
  | [d] => { results := [.lit (.bool true)], args := [d] }
  | _ => none }
def fnRacePointsRow : OpenClaim := { program := "ytblljgcbffkahaa", sum := "98750fc08cf5096c8ad3bf6841562cc65980291f201f2a5fb8088db9785e0527", func := "loop.example/g00887/laws.FnRacePoints", spec := "fnRacePoints", apart := false }
def FnRacePointsSaid : Prop := fnRacePointsRow.holds Try.pinned (OpenSpec.ofChange fnRacePointsSpec)

/-- ITS FALSE NEIGHBOUR: 'it returns false'. Refute it at one input. -/
def fnRacePointsWrong : ChangeSpec := { name := "fnRacePoints", fn := fun _ => fun
  | [d] => { results := [.lit (.bool false)], args := [d] }
  | _ => none }
def FnRacePointsWrongFalsely : Prop := fnRacePointsRow.holds Try.pinned (OpenSpec.ofChange fnRacePointsWrong)

/-- 'laws.FnExactRacePoints': WHATEVER THE INPUT: true; the input reads as it did. -/
def fnExactRacePointsSpec : ChangeSpec := { name := "fnExactRacePoints", fn := fun _ => fun
  | [d1, d2, d3] => { results := [.lit (.bool true)], args := [d1, d2, d3] }
  | _ => none }
def fnExactRacePointsRow : OpenClaim := { program := "ytblljgcbffkahaa", sum := "98750fc08cf5096c8ad3bf6841562cc65980291f201f2a5fb8088db9785e0527", func := "loop.example/g00887/laws.FnExactRacePoints", spec := "fnExactRacePoints", apart := false }
def FnExactRacePointsSaid : Prop := fnExactRacePointsRow.holds Try.pinned (OpenSpec.ofChange fnExactRacePointsSpec)

/-- ITS FALSE NEIGHBOUR: 'it returns false'. Refute it at one input. -/
def fnExactRacePointsWrong : ChangeSpec := { name := "fnExactRacePoints", fn := fun _ => fun
  | [d1, d2, d3] => { results := [.lit (.bool false)], args := [d1, d2, d3] }
  | _ => none }
def FnExactRacePointsWrongFalsely : Prop := fnExactRacePointsRow.holds Try.pinned (OpenSpec.ofChange fnExactRacePointsWrong)

/-- 'laws.FnTables': WHATEVER THE INPUT: true; the input reads as it did. -/
def fnTablesSpec : ChangeSpec := { name := "fnTables", fn := fun _ => fun
  | [d] => { results := [.lit (.bool true)], args := [d] }
  | _ => none }
def fnTablesRow : OpenClaim := { program := "ytblljgcbffkahaa", sum := "98750fc08cf5096c8ad3bf6841562cc65980291f201f2a5fb8088db9785e0527", func := "loop.example/g00887/laws.FnTables", spec := "fnTables", apart := false }
def FnTablesSaid : Prop := fnTablesRow.holds Try.pinned (OpenSpec.ofChange fnTablesSpec)

/-- ITS FALSE NEIGHBOUR: 'it returns false'. Refute it at one input. -/
def fnTablesWrong : ChangeSpec := { name := "fnTables", fn := fun _ => fun
  | [d] => { results := [.lit (.bool false)], args := [d] }
  | _ => none }
def FnTablesWrongFalsely : Prop := fnTablesRow.holds Try.pinned (OpenSpec.ofChange fnTablesWrong)

/-- 'laws.FnExactFinishOrder': WHATEVER THE INPUT: true; the input reads as it did. -/
def fnExactFinishOrderSpec : ChangeSpec := { name := "fnExactFinishOrder", fn := fun _ => fun
  | [d1, d2] => { results := [.lit (.bool true)], args := [d1, d2] }
  | _ => none }
def fnExactFinishOrderRow : OpenClaim := { program := "ytblljgcbffkahaa", sum := "98750fc08cf5096c8ad3bf6841562cc65980291f201f2a5fb8088db9785e0527", func := "loop.example/g00887/laws.FnExactFinishOrder", spec := "fnExactFinishOrder", unfollowed := true, recurses := true, apart := false }
def FnExactFinishOrderSaid : Prop := fnExactFinishOrderRow.holds Try.pinned (OpenSpec.ofChange fnExactFinishOrderSpec)

/-- ITS FALSE NEIGHBOUR: 'it returns false'. Refute it at one input. -/
def fnExactFinishOrderWrong : ChangeSpec := { name := "fnExactFinishOrder", fn := fun _ => fun
  | [d1, d2] => { results := [.lit (.bool false)], args := [d1, d2] }
  | _ => none }
def FnExactFinishOrderWrongFalsely : Prop := fnExactFinishOrderRow.holds Try.pinned (OpenSpec.ofChange fnExactFinishOrderWrong)

/-- 'laws.FnFinishOrder': WHATEVER THE INPUT: true; the input reads as it did. -/
def fnFinishOrderSpec : ChangeSpec := { name := "fnFinishOrder", fn := fun _ => fun
  | [d] => { results := [.lit (.bool true)], args := [d] }
  | _ => none }
def fnFinishOrderRow : OpenClaim := { program := "ytblljgcbffkahaa", sum := "98750fc08cf5096c8ad3bf6841562cc65980291f201f2a5fb8088db9785e0527", func := "loop.example/g00887/laws.FnFinishOrder", spec := "fnFinishOrder", unfollowed := true, recurses := true, apart := false }
def FnFinishOrderSaid : Prop := fnFinishOrderRow.holds Try.pinned (OpenSpec.ofChange fnFinishOrderSpec)

/-- ITS FALSE NEIGHBOUR: 'it returns false'. Refute it at one input. -/
def fnFinishOrderWrong : ChangeSpec := { name := "fnFinishOrder", fn := fun _ => fun
  | [d] => { results := [.lit (.bool false)], args := [d] }
  | _ => none }
def FnFinishOrderWrongFalsely : Prop := fnFinishOrderRow.holds Try.pinned (OpenSpec.ofChange fnFinishOrderWrong)

/-- 'laws.FnExactTableOf': WHATEVER THE INPUT: true; the input reads as it did. -/
def fnExactTableOfSpec : ChangeSpec := { name := "fnExactTableOf", fn := fun _ => fun
  | [d] => { results := [.lit (.bool true)], args := [d] }
  | _ => none }
def fnExactTableOfRow : OpenClaim := { program := "ytblljgcbffkahaa", sum := "98750fc08cf5096c8ad3bf6841562cc65980291f201f2a5fb8088db9785e0527", func := "loop.example/g00887/laws.FnExactTableOf", spec := "fnExactTableOf", apart := false }
def FnExactTableOfSaid : Prop := fnExactTableOfRow.holds Try.pinned (OpenSpec.ofChange fnExactTableOfSpec)

/-- ITS FALSE NEIGHBOUR: 'it returns false'. Refute it at one input. -/
def fnExactTableOfWrong : ChangeSpec := { name := "fnExactTableOf", fn := fun _ => fun
  | [d] => { results := [.lit (.bool false)], args := [d] }
  | _ => none }
def FnExactTableOfWrongFalsely : Prop := fnExactTableOfRow.holds Try.pinned (OpenSpec.ofChange fnExactTableOfWrong)

/- THE SECOND FORM. 'bulk': how many values and letters a reading holds, each counted each time it is reached (what is shared counts as often as it is met; a slice's spare places count too). A statement '..UptoSaid' is the law's where the arguments, and the package variables that the reading takes, are together of bulk at most 1048576: NARROWER than '..Said'. Prove '..Said' where nothing that the law and all that it calls make is longer than what came in: it says more and counts as full. Else prove '..UptoSaid'. A law counts once. -/
mutual
def uptoBulk {H : Type} : DataW H → Nat
  | .lit (.string bytes) => bytes.length + 1
  | .lit _ => 1
  | .nil => 1
  | .ptr d => uptoBulk d + 1
  | .slice elems spare => uptoBulkAll elems + uptoBulkAll spare + 1
  | .agg parts => uptoBulkAll parts + 1
  | .iface _ d => uptoBulk d + 1
  | .map entries => uptoBulkEntries entries + 1
  | .held _ => 1
def uptoBulkAll {H : Type} : List (DataW H) → Nat
  | [] => 0
  | d :: r => uptoBulk d + uptoBulkAll r
def uptoBulkEntries {H : Type} : List (Lit × DataW H) → Nat
  | [] => 0
  | x :: r => uptoBulkEntry x + uptoBulkEntries r
def uptoBulkEntry {H : Type} : Lit × DataW H → Nat
  | (.string bytes, d) => bytes.length + uptoBulk d + 1
  | (_, d) => uptoBulk d + 1
 end
def uptoSmall : (H : Type) → List (DataW H) → Bool := fun _ ds => decide (uptoBulkAll ds ≤ 1048576)
def OpenSpec.upto (s : _root_.Go.ChangeSpec) : _root_.Go.OpenSpec := { _root_.Go.OpenSpec.ofChange s with cond := some uptoSmall }

/-- 'laws.FnExactIsRace', WHERE WHAT IT READS IS OF BULK AT MOST 1048576: true; the input reads as it did. -/
def fnExactIsRaceUptoRow : OpenClaim := { program := "ytblljgcbffkahaa", sum := "98750fc08cf5096c8ad3bf6841562cc65980291f201f2a5fb8088db9785e0527", func := "loop.example/g00887/laws.FnExactIsRace", spec := "fnExactIsRace", apart := false, narrowed := true }
def FnExactIsRaceUptoSaid : Prop := fnExactIsRaceUptoRow.holds Try.pinned (OpenSpec.upto fnExactIsRaceSpec)

/-- 'laws.FnExactIsTable', WHERE WHAT IT READS IS OF BULK AT MOST 1048576: true; the input reads as it did. -/
def fnExactIsTableUptoRow : OpenClaim := { program := "ytblljgcbffkahaa", sum := "98750fc08cf5096c8ad3bf6841562cc65980291f201f2a5fb8088db9785e0527", func := "loop.example/g00887/laws.FnExactIsTable", spec := "fnExactIsTable", apart := false, narrowed := true }
def FnExactIsTableUptoSaid : Prop := fnExactIsTableUptoRow.holds Try.pinned (OpenSpec.upto fnExactIsTableSpec)

/-- 'laws.FnExactIsSeries', WHERE WHAT IT READS IS OF BULK AT MOST 1048576: true; the input reads as it did. -/
def fnExactIsSeriesUptoRow : OpenClaim := { program := "ytblljgcbffkahaa", sum := "98750fc08cf5096c8ad3bf6841562cc65980291f201f2a5fb8088db9785e0527", func := "loop.example/g00887/laws.FnExactIsSeries", spec := "fnExactIsSeries", apart := false, narrowed := true }
def FnExactIsSeriesUptoSaid : Prop := fnExactIsSeriesUptoRow.holds Try.pinned (OpenSpec.upto fnExactIsSeriesSpec)

/-- 'laws.FnExactPlacesOf', WHERE WHAT IT READS IS OF BULK AT MOST 1048576: true; the input reads as it did. -/
def fnExactPlacesOfUptoRow : OpenClaim := { program := "ytblljgcbffkahaa", sum := "98750fc08cf5096c8ad3bf6841562cc65980291f201f2a5fb8088db9785e0527", func := "loop.example/g00887/laws.FnExactPlacesOf", spec := "fnExactPlacesOf", apart := false, narrowed := true }
def FnExactPlacesOfUptoSaid : Prop := fnExactPlacesOfUptoRow.holds Try.pinned (OpenSpec.upto fnExactPlacesOfSpec)

/-- 'laws.FnRacePoints', WHERE WHAT IT READS IS OF BULK AT MOST 1048576: true; the input reads as it did. -/
def fnRacePointsUptoRow : OpenClaim := { program := "ytblljgcbffkahaa", sum := "98750fc08cf5096c8ad3bf6841562cc65980291f201f2a5fb8088db9785e0527", func := "loop.example/g00887/laws.FnRacePoints", spec := "fnRacePoints", apart := false, narrowed := true }
def FnRacePointsUptoSaid : Prop := fnRacePointsUptoRow.holds Try.pinned (OpenSpec.upto fnRacePointsSpec)

/-- 'laws.FnExactRacePoints', WHERE WHAT IT READS IS OF BULK AT MOST 1048576: true; the input reads as it did. -/
def fnExactRacePointsUptoRow : OpenClaim := { program := "ytblljgcbffkahaa", sum := "98750fc08cf5096c8ad3bf6841562cc65980291f201f2a5fb8088db9785e0527", func := "loop.example/g00887/laws.FnExactRacePoints", spec := "fnExactRacePoints", apart := false, narrowed := true }
def FnExactRacePointsUptoSaid : Prop := fnExactRacePointsUptoRow.holds Try.pinned (OpenSpec.upto fnExactRacePointsSpec)

/-- 'laws.FnTables', WHERE WHAT IT READS IS OF BULK AT MOST 1048576: true; the input reads as it did. -/
def fnTablesUptoRow : OpenClaim := { program := "ytblljgcbffkahaa", sum := "98750fc08cf5096c8ad3bf6841562cc65980291f201f2a5fb8088db9785e0527", func := "loop.example/g00887/laws.FnTables", spec := "fnTables", apart := false, narrowed := true }
def FnTablesUptoSaid : Prop := fnTablesUptoRow.holds Try.pinned (OpenSpec.upto fnTablesSpec)

/-- 'laws.FnExactFinishOrder', WHERE WHAT IT READS IS OF BULK AT MOST 1048576: true; the input reads as it did. -/
def fnExactFinishOrderUptoRow : OpenClaim := { program := "ytblljgcbffkahaa", sum := "98750fc08cf5096c8ad3bf6841562cc65980291f201f2a5fb8088db9785e0527", func := "loop.example/g00887/laws.FnExactFinishOrder", spec := "fnExactFinishOrder", unfollowed := true, recurses := true, apart := false, narrowed := true }
def FnExactFinishOrderUptoSaid : Prop := fnExactFinishOrderUptoRow.holds Try.pinned (OpenSpec.upto fnExactFinishOrderSpec)

/-- 'laws.FnFinishOrder', WHERE WHAT IT READS IS OF BULK AT MOST 1048576: true; the input reads as it did. -/
def fnFinishOrderUptoRow : OpenClaim := { program := "ytblljgcbffkahaa", sum := "98750fc08cf5096c8ad3bf6841562cc65980291f201f2a5fb8088db9785e0527", func := "loop.example/g00887/laws.FnFinishOrder", spec := "fnFinishOrder", unfollowed := true, recurses := true, apart := false, narrowed := true }
def FnFinishOrderUptoSaid : Prop := fnFinishOrderUptoRow.holds Try.pinned (OpenSpec.upto fnFinishOrderSpec)

/-- 'laws.FnExactTableOf', WHERE WHAT IT READS IS OF BULK AT MOST 1048576: true; the input reads as it did. -/
def fnExactTableOfUptoRow : OpenClaim := { program := "ytblljgcbffkahaa", sum := "98750fc08cf5096c8ad3bf6841562cc65980291f201f2a5fb8088db9785e0527", func := "loop.example/g00887/laws.FnExactTableOf", spec := "fnExactTableOf", apart := false, narrowed := true }
def FnExactTableOfUptoSaid : Prop := fnExactTableOfUptoRow.holds Try.pinned (OpenSpec.upto fnExactTableOfSpec)

end Rows
end Go.Proofs.Ytblljgcbffkahaa
