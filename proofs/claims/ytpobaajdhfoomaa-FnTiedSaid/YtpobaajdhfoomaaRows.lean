/-
  No cell of these rows narrows 'for every input' (looked for: loops, veiled, ifaces, maps, wideKeys, modest, calm, conditions, laid).
  DERIVED. THE GIVEN ROWS OF THIS SEAT. 10 by the template 'for every input the law returns true; each argument reads behind the call as it read before'; 0 by the template 'total and deterministic' (their statements: YtpobaajdhfoomaaTotals.lean).
  GIVEN WITH THE SEED: the statements are not yours to turn. If you find one false, say at which input.
  Laid BY PROGRAM, IN A SANDBOX (cutbox-rows.mjs): the forced cells as the released guide's own fill.sh prints them over the translation 07361f67b01df974… (all of the seat's roots in one cut). By AI agents, Wed Nov 11 2026. No macro, syntax, notation, axiom, sorry.
-/
import Derived.Test.YtpobaajdhfoomaaChecked
import GoSem.Claim
import GoSem.ClaimJoined
import GoSem.ClaimMapViews
import Derived.JoinedTies
import Derived.KernelRfl
namespace Go.Proofs.Ytpobaajdhfoomaa
/- THE CELL 'sum', in the pinned program and in every row, IS THE sha256 OF THE DUMP (.gsa) THAT YtpobaajdhfoomaaProg.lean LOADS. Nothing in Lean hashes anything: it is a label: what it is worth is what the hold of that sum in a sandbox is worth. -/
noncomputable def Try.pinned : Pinned := { name := "ytpobaajdhfoomaa", sum := "07361f67b01df9743d94df8c933fbaa92c2f98cb0255bcbbfcbf8a22fdf48a91", checked := Try.checked }
namespace Rows
def none {H : Type} : Left H := { results := [], args := [] }

/-- 'laws.FnExactCompareBoats': WHATEVER THE INPUT: true; the input reads as it did. -/
def fnExactCompareBoatsSpec : ChangeSpec := { name := "fnExactCompareBoats", fn := fun _ => fun
  | [d1, d2, d3, d4] => { results := [.lit (.bool true)], args := [d1, d2, d3, d4] }
  | _ => none }
def fnExactCompareBoatsRow : OpenClaim := { program := "ytpobaajdhfoomaa", sum := "07361f67b01df9743d94df8c933fbaa92c2f98cb0255bcbbfcbf8a22fdf48a91", func := "loop.example/g00887/laws.FnExactCompareBoats", spec := "fnExactCompareBoats", unfollowed := true, recurses := true, apart := false }
def FnExactCompareBoatsSaid : Prop := fnExactCompareBoatsRow.holds Try.pinned (OpenSpec.ofChange fnExactCompareBoatsSpec)

/-- ITS FALSE NEIGHBOUR: 'it returns false'. Refute it at one input. -/
def fnExactCompareBoatsWrong : ChangeSpec := { name := "fnExactCompareBoats", fn := fun _ => fun
  | [d1, d2, d3, d4] => { results := [.lit (.bool false)], args := [d1, d2, d3, d4] }
  | _ => none }
def FnExactCompareBoatsWrongFalsely : Prop := fnExactCompareBoatsRow.holds Try.pinned (OpenSpec.ofChange fnExactCompareBoatsWrong)

/-- 'laws.FnExactDecidingRace': WHATEVER THE INPUT: true; the input reads as it did. -/
def fnExactDecidingRaceSpec : ChangeSpec := { name := "fnExactDecidingRace", fn := fun _ => fun
  | [d1, d2, d3, d4] => { results := [.lit (.bool true)], args := [d1, d2, d3, d4] }
  | _ => none }
def fnExactDecidingRaceRow : OpenClaim := { program := "ytpobaajdhfoomaa", sum := "07361f67b01df9743d94df8c933fbaa92c2f98cb0255bcbbfcbf8a22fdf48a91", func := "loop.example/g00887/laws.FnExactDecidingRace", spec := "fnExactDecidingRace", unfollowed := true, recurses := true, apart := false }
def FnExactDecidingRaceSaid : Prop := fnExactDecidingRaceRow.holds Try.pinned (OpenSpec.ofChange fnExactDecidingRaceSpec)

/-- ITS FALSE NEIGHBOUR: 'it returns false'. Refute it at one input. -/
def fnExactDecidingRaceWrong : ChangeSpec := { name := "fnExactDecidingRace", fn := fun _ => fun
  | [d1, d2, d3, d4] => { results := [.lit (.bool false)], args := [d1, d2, d3, d4] }
  | _ => none }
def FnExactDecidingRaceWrongFalsely : Prop := fnExactDecidingRaceRow.holds Try.pinned (OpenSpec.ofChange fnExactDecidingRaceWrong)

/-- 'laws.FnExactRanksOf': WHATEVER THE INPUT: true; the input reads as it did. -/
def fnExactRanksOfSpec : ChangeSpec := { name := "fnExactRanksOf", fn := fun _ => fun
  | [d1, d2] => { results := [.lit (.bool true)], args := [d1, d2] }
  | _ => none }
def fnExactRanksOfRow : OpenClaim := { program := "ytpobaajdhfoomaa", sum := "07361f67b01df9743d94df8c933fbaa92c2f98cb0255bcbbfcbf8a22fdf48a91", func := "loop.example/g00887/laws.FnExactRanksOf", spec := "fnExactRanksOf", unfollowed := true, recurses := true, apart := false }
def FnExactRanksOfSaid : Prop := fnExactRanksOfRow.holds Try.pinned (OpenSpec.ofChange fnExactRanksOfSpec)

/-- ITS FALSE NEIGHBOUR: 'it returns false'. Refute it at one input. -/
def fnExactRanksOfWrong : ChangeSpec := { name := "fnExactRanksOf", fn := fun _ => fun
  | [d1, d2] => { results := [.lit (.bool false)], args := [d1, d2] }
  | _ => none }
def FnExactRanksOfWrongFalsely : Prop := fnExactRanksOfRow.holds Try.pinned (OpenSpec.ofChange fnExactRanksOfWrong)

/-- 'laws.FnExactStandingOf': WHATEVER THE INPUT: true; the input reads as it did. -/
def fnExactStandingOfSpec : ChangeSpec := { name := "fnExactStandingOf", fn := fun _ => fun
  | [d1, d2] => { results := [.lit (.bool true)], args := [d1, d2] }
  | _ => none }
def fnExactStandingOfRow : OpenClaim := { program := "ytpobaajdhfoomaa", sum := "07361f67b01df9743d94df8c933fbaa92c2f98cb0255bcbbfcbf8a22fdf48a91", func := "loop.example/g00887/laws.FnExactStandingOf", spec := "fnExactStandingOf", unfollowed := true, recurses := true, apart := false }
def FnExactStandingOfSaid : Prop := fnExactStandingOfRow.holds Try.pinned (OpenSpec.ofChange fnExactStandingOfSpec)

/-- ITS FALSE NEIGHBOUR: 'it returns false'. Refute it at one input. -/
def fnExactStandingOfWrong : ChangeSpec := { name := "fnExactStandingOf", fn := fun _ => fun
  | [d1, d2] => { results := [.lit (.bool false)], args := [d1, d2] }
  | _ => none }
def FnExactStandingOfWrongFalsely : Prop := fnExactStandingOfRow.holds Try.pinned (OpenSpec.ofChange fnExactStandingOfWrong)

/-- 'laws.FnExactLeadOf': WHATEVER THE INPUT: true; the input reads as it did. -/
def fnExactLeadOfSpec : ChangeSpec := { name := "fnExactLeadOf", fn := fun _ => fun
  | [d1, d2] => { results := [.lit (.bool true)], args := [d1, d2] }
  | _ => none }
def fnExactLeadOfRow : OpenClaim := { program := "ytpobaajdhfoomaa", sum := "07361f67b01df9743d94df8c933fbaa92c2f98cb0255bcbbfcbf8a22fdf48a91", func := "loop.example/g00887/laws.FnExactLeadOf", spec := "fnExactLeadOf", unfollowed := true, recurses := true, apart := false }
def FnExactLeadOfSaid : Prop := fnExactLeadOfRow.holds Try.pinned (OpenSpec.ofChange fnExactLeadOfSpec)

/-- ITS FALSE NEIGHBOUR: 'it returns false'. Refute it at one input. -/
def fnExactLeadOfWrong : ChangeSpec := { name := "fnExactLeadOf", fn := fun _ => fun
  | [d1, d2] => { results := [.lit (.bool false)], args := [d1, d2] }
  | _ => none }
def FnExactLeadOfWrongFalsely : Prop := fnExactLeadOfRow.holds Try.pinned (OpenSpec.ofChange fnExactLeadOfWrong)

/-- 'laws.FnExactTiedBoats': WHATEVER THE INPUT: true; the input reads as it did. -/
def fnExactTiedBoatsSpec : ChangeSpec := { name := "fnExactTiedBoats", fn := fun _ => fun
  | [d1, d2] => { results := [.lit (.bool true)], args := [d1, d2] }
  | _ => none }
def fnExactTiedBoatsRow : OpenClaim := { program := "ytpobaajdhfoomaa", sum := "07361f67b01df9743d94df8c933fbaa92c2f98cb0255bcbbfcbf8a22fdf48a91", func := "loop.example/g00887/laws.FnExactTiedBoats", spec := "fnExactTiedBoats", unfollowed := true, recurses := true, apart := false }
def FnExactTiedBoatsSaid : Prop := fnExactTiedBoatsRow.holds Try.pinned (OpenSpec.ofChange fnExactTiedBoatsSpec)

/-- ITS FALSE NEIGHBOUR: 'it returns false'. Refute it at one input. -/
def fnExactTiedBoatsWrong : ChangeSpec := { name := "fnExactTiedBoats", fn := fun _ => fun
  | [d1, d2] => { results := [.lit (.bool false)], args := [d1, d2] }
  | _ => none }
def FnExactTiedBoatsWrongFalsely : Prop := fnExactTiedBoatsRow.holds Try.pinned (OpenSpec.ofChange fnExactTiedBoatsWrong)

/-- 'laws.FnDiscards': WHATEVER THE INPUT: true; the input reads as it did. -/
def fnDiscardsSpec : ChangeSpec := { name := "fnDiscards", fn := fun _ => fun
  | [d] => { results := [.lit (.bool true)], args := [d] }
  | _ => none }
def fnDiscardsRow : OpenClaim := { program := "ytpobaajdhfoomaa", sum := "07361f67b01df9743d94df8c933fbaa92c2f98cb0255bcbbfcbf8a22fdf48a91", func := "loop.example/g00887/laws.FnDiscards", spec := "fnDiscards", unfollowed := true, recurses := true, apart := false }
def FnDiscardsSaid : Prop := fnDiscardsRow.holds Try.pinned (OpenSpec.ofChange fnDiscardsSpec)

/-- ITS FALSE NEIGHBOUR: 'it returns false'. Refute it at one input. -/
def fnDiscardsWrong : ChangeSpec := { name := "fnDiscards", fn := fun _ => fun
  | [d] => { results := [.lit (.bool false)], args := [d] }
  | _ => none }
def FnDiscardsWrongFalsely : Prop := fnDiscardsRow.holds Try.pinned (OpenSpec.ofChange fnDiscardsWrong)

/-- 'laws.FnCounted': WHATEVER THE INPUT: true; the input reads as it did. -/
def fnCountedSpec : ChangeSpec := { name := "fnCounted", fn := fun _ => fun
  | [d] => { results := [.lit (.bool true)], args := [d] }
  | _ => none }
def fnCountedRow : OpenClaim := { program := "ytpobaajdhfoomaa", sum := "07361f67b01df9743d94df8c933fbaa92c2f98cb0255bcbbfcbf8a22fdf48a91", func := "loop.example/g00887/laws.FnCounted", spec := "fnCounted", unfollowed := true, recurses := true, apart := false }
def FnCountedSaid : Prop := fnCountedRow.holds Try.pinned (OpenSpec.ofChange fnCountedSpec)

/-- ITS FALSE NEIGHBOUR: 'it returns false'. Refute it at one input. -/
def fnCountedWrong : ChangeSpec := { name := "fnCounted", fn := fun _ => fun
  | [d] => { results := [.lit (.bool false)], args := [d] }
  | _ => none }
def FnCountedWrongFalsely : Prop := fnCountedRow.holds Try.pinned (OpenSpec.ofChange fnCountedWrong)

/-- 'laws.FnChain': WHATEVER THE INPUT: true; the input reads as it did. -/
def fnChainSpec : ChangeSpec := { name := "fnChain", fn := fun _ => fun
  | [d] => { results := [.lit (.bool true)], args := [d] }
  | _ => none }
def fnChainRow : OpenClaim := { program := "ytpobaajdhfoomaa", sum := "07361f67b01df9743d94df8c933fbaa92c2f98cb0255bcbbfcbf8a22fdf48a91", func := "loop.example/g00887/laws.FnChain", spec := "fnChain", unfollowed := true, recurses := true, apart := false }
def FnChainSaid : Prop := fnChainRow.holds Try.pinned (OpenSpec.ofChange fnChainSpec)

/-- ITS FALSE NEIGHBOUR: 'it returns false'. Refute it at one input. -/
def fnChainWrong : ChangeSpec := { name := "fnChain", fn := fun _ => fun
  | [d] => { results := [.lit (.bool false)], args := [d] }
  | _ => none }
def FnChainWrongFalsely : Prop := fnChainRow.holds Try.pinned (OpenSpec.ofChange fnChainWrong)

/-- 'laws.FnTied': WHATEVER THE INPUT: true; the input reads as it did. -/
def fnTiedSpec : ChangeSpec := { name := "fnTied", fn := fun _ => fun
  | [d] => { results := [.lit (.bool true)], args := [d] }
  | _ => none }
def fnTiedRow : OpenClaim := { program := "ytpobaajdhfoomaa", sum := "07361f67b01df9743d94df8c933fbaa92c2f98cb0255bcbbfcbf8a22fdf48a91", func := "loop.example/g00887/laws.FnTied", spec := "fnTied", unfollowed := true, recurses := true, apart := false }
def FnTiedSaid : Prop := fnTiedRow.holds Try.pinned (OpenSpec.ofChange fnTiedSpec)

/-- ITS FALSE NEIGHBOUR: 'it returns false'. Refute it at one input. -/
def fnTiedWrong : ChangeSpec := { name := "fnTied", fn := fun _ => fun
  | [d] => { results := [.lit (.bool false)], args := [d] }
  | _ => none }
def FnTiedWrongFalsely : Prop := fnTiedRow.holds Try.pinned (OpenSpec.ofChange fnTiedWrong)

/- THE SECOND FORM. 'bulk': how many values and letters a reading holds, each counted each time it is reached (what is shared counts as often as it is met; a slice's spare places count too). A statement '..UptoSaid' is the law's where the arguments, and the package variables that the reading takes, are together of bulk at most 1048576: NARROWER than '..Said'. Prove '..Said' where nothing that the law and all that it calls make is longer than what came in: it says more and counts as full. Else prove '..UptoSaid'. A law counts once. -/
mutual
def uptoBulk {H : Type} : DataW H → Nat
  | .lit (.string bytes) => bytes.length + 1
  | .lit _ => 1
  | .nil => 1
  | .ptr d => uptoBulk d + 1
  | .slice elems spare => uptoBulkAll elems + uptoBulkAll spare + 1
  | .agg parts => uptoBulkAll parts + 1
  | .iface _ d => uptoBulk d + 1
  | .map entries => uptoBulkEntries entries + 1
  | .held _ => 1
def uptoBulkAll {H : Type} : List (DataW H) → Nat
  | [] => 0
  | d :: r => uptoBulk d + uptoBulkAll r
def uptoBulkEntries {H : Type} : List (Lit × DataW H) → Nat
  | [] => 0
  | x :: r => uptoBulkEntry x + uptoBulkEntries r
def uptoBulkEntry {H : Type} : Lit × DataW H → Nat
  | (.string bytes, d) => bytes.length + uptoBulk d + 1
  | (_, d) => uptoBulk d + 1
 end
def uptoSmall : (H : Type) → List (DataW H) → Bool := fun _ ds => decide (uptoBulkAll ds ≤ 1048576)
def OpenSpec.upto (s : _root_.Go.ChangeSpec) : _root_.Go.OpenSpec := { _root_.Go.OpenSpec.ofChange s with cond := some uptoSmall }

/-- 'laws.FnExactCompareBoats', WHERE WHAT IT READS IS OF BULK AT MOST 1048576: true; the input reads as it did. -/
def fnExactCompareBoatsUptoRow : OpenClaim := { program := "ytpobaajdhfoomaa", sum := "07361f67b01df9743d94df8c933fbaa92c2f98cb0255bcbbfcbf8a22fdf48a91", func := "loop.example/g00887/laws.FnExactCompareBoats", spec := "fnExactCompareBoats", unfollowed := true, recurses := true, apart := false, narrowed := true }
def FnExactCompareBoatsUptoSaid : Prop := fnExactCompareBoatsUptoRow.holds Try.pinned (OpenSpec.upto fnExactCompareBoatsSpec)

/-- 'laws.FnExactDecidingRace', WHERE WHAT IT READS IS OF BULK AT MOST 1048576: true; the input reads as it did. -/
def fnExactDecidingRaceUptoRow : OpenClaim := { program := "ytpobaajdhfoomaa", sum := "07361f67b01df9743d94df8c933fbaa92c2f98cb0255bcbbfcbf8a22fdf48a91", func := "loop.example/g00887/laws.FnExactDecidingRace", spec := "fnExactDecidingRace", unfollowed := true, recurses := true, apart := false, narrowed := true }
def FnExactDecidingRaceUptoSaid : Prop := fnExactDecidingRaceUptoRow.holds Try.pinned (OpenSpec.upto fnExactDecidingRaceSpec)

/-- 'laws.FnExactRanksOf', WHERE WHAT IT READS IS OF BULK AT MOST 1048576: true; the input reads as it did. -/
def fnExactRanksOfUptoRow : OpenClaim := { program := "ytpobaajdhfoomaa", sum := "07361f67b01df9743d94df8c933fbaa92c2f98cb0255bcbbfcbf8a22fdf48a91", func := "loop.example/g00887/laws.FnExactRanksOf", spec := "fnExactRanksOf", unfollowed := true, recurses := true, apart := false, narrowed := true }
def FnExactRanksOfUptoSaid : Prop := fnExactRanksOfUptoRow.holds Try.pinned (OpenSpec.upto fnExactRanksOfSpec)

/-- 'laws.FnExactStandingOf', WHERE WHAT IT READS IS OF BULK AT MOST 1048576: true; the input reads as it did. -/
def fnExactStandingOfUptoRow : OpenClaim := { program := "ytpobaajdhfoomaa", sum := "07361f67b01df9743d94df8c933fbaa92c2f98cb0255bcbbfcbf8a22fdf48a91", func := "loop.example/g00887/laws.FnExactStandingOf", spec := "fnExactStandingOf", unfollowed := true, recurses := true, apart := false, narrowed := true }
def FnExactStandingOfUptoSaid : Prop := fnExactStandingOfUptoRow.holds Try.pinned (OpenSpec.upto fnExactStandingOfSpec)

/-- 'laws.FnExactLeadOf', WHERE WHAT IT READS IS OF BULK AT MOST 1048576: true; the input reads as it did. -/
def fnExactLeadOfUptoRow : OpenClaim := { program := "ytpobaajdhfoomaa", sum := "07361f67b01df9743d94df8c933fbaa92c2f98cb0255bcbbfcbf8a22fdf48a91", func := "loop.example/g00887/laws.FnExactLeadOf", spec := "fnExactLeadOf", unfollowed := true, recurses := true, apart := false, narrowed := true }
def FnExactLeadOfUptoSaid : Prop := fnExactLeadOfUptoRow.holds Try.pinned (OpenSpec.upto fnExactLeadOfSpec)

/-- 'laws.FnExactTiedBoats', WHERE WHAT IT READS IS OF BULK AT MOST 1048576: true; the input reads as it did. -/
def fnExactTiedBoatsUptoRow : OpenClaim := { program := "ytpobaajdhfoomaa", sum := "07361f67b01df9743d94df8c933fbaa92c2f98cb0255bcbbfcbf8a22fdf48a91", func := "loop.example/g00887/laws.FnExactTiedBoats", spec := "fnExactTiedBoats", unfollowed := true, recurses := true, apart := false, narrowed := true }
def FnExactTiedBoatsUptoSaid : Prop := fnExactTiedBoatsUptoRow.holds Try.pinned (OpenSpec.upto fnExactTiedBoatsSpec)

/-- 'laws.FnDiscards', WHERE WHAT IT READS IS OF BULK AT MOST 1048576: true; the input reads as it did. -/
def fnDiscardsUptoRow : OpenClaim := { program := "ytpobaajdhfoomaa", sum := "07361f67b01df9743d94df8c933fbaa92c2f98cb0255bcbbfcbf8a22fdf48a91", func := "loop.example/g00887/laws.FnDiscards", spec := "fnDiscards", unfollowed := true, recurses := true, apart := false, narrowed := true }
def FnDiscardsUptoSaid : Prop := fnDiscardsUptoRow.holds Try.pinned (OpenSpec.upto fnDiscardsSpec)

/-- 'laws.FnCounted', WHERE WHAT IT READS IS OF BULK AT MOST 1048576: true; the input reads as it did. -/
def fnCountedUptoRow : OpenClaim := { program := "ytpobaajdhfoomaa", sum := "07361f67b01df9743d94df8c933fbaa92c2f98cb0255bcbbfcbf8a22fdf48a91", func := "loop.example/g00887/laws.FnCounted", spec := "fnCounted", unfollowed := true, recurses := true, apart := false, narrowed := true }
def FnCountedUptoSaid : Prop := fnCountedUptoRow.holds Try.pinned (OpenSpec.upto fnCountedSpec)

/-- 'laws.FnChain', WHERE WHAT IT READS IS OF BULK AT MOST 1048576: true; the input reads as it did. -/
def fnChainUptoRow : OpenClaim := { program := "ytpobaajdhfoomaa", sum := "07361f67b01df9743d94df8c933fbaa92c2f98cb0255bcbbfcbf8a22fdf48a91", func := "loop.example/g00887/laws.FnChain", spec := "fnChain", unfollowed := true, recurses := true, apart := false, narrowed := true }
def FnChainUptoSaid : Prop := fnChainUptoRow.holds Try.pinned (OpenSpec.upto fnChainSpec)

/-- 'laws.FnTied', WHERE WHAT IT READS IS OF BULK AT MOST 1048576: true; the input reads as it did. -/
def fnTiedUptoRow : OpenClaim := { program := "ytpobaajdhfoomaa", sum := "07361f67b01df9743d94df8c933fbaa92c2f98cb0255bcbbfcbf8a22fdf48a91", func := "loop.example/g00887/laws.FnTied", spec := "fnTied", unfollowed := true, recurses := true, apart := false, narrowed := true }
def FnTiedUptoSaid : Prop := fnTiedUptoRow.holds Try.pinned (OpenSpec.upto fnTiedSpec)

end Rows
end Go.Proofs.Ytpobaajdhfoomaa
