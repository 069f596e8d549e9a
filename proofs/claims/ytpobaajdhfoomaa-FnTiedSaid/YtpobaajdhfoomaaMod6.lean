/- More models of the functions, printed by my generator. -/
import Derived.Test.YtpobaajdhfoomaaMod3
namespace Go.Proofs.Ytpobaajdhfoomaa
open Go Go.RowKit Go.ChangeShapes Go.WideShapes
set_option linter.unusedVariables false
set_option linter.unusedSimpArgs false


def M.impl_TiedBoats_a1 (s_l1 : (List (List Int)) × Int) : Option ((List (List Int)) × Int) :=
  chk (0 < s_l1.1.length) (some (s_l1.1.filter (fun (r : List Int) => !decide ((r.length : Int) < 2)), 0))
def M.impl_TiedBoats_j1 (s_l1 : (List (List Int)) × Int) (s_j1 : (List (List Int))) : Option (Stp ((List (List Int)) × Int) ((List (List Int)) × Int)) :=
  some (.cont (s_j1, w64 (s_l1.2 + 1)))
def M.impl_TiedBoats_j2 (s_l1 : (List (List Int)) × Int) (s_j2 : (List (List Int))) : Option (Stp ((List (List Int)) × Int) ((List (List Int)) × Int)) :=
  M.impl_TiedBoats_j1 s_l1 s_j2
def M.impl_TiedBoats_j3 (s_l1 : (List (List Int)) × Int) (x1559 : Int) (s_j3 : Bool) : Option (Stp ((List (List Int)) × Int) ((List (List Int)) × Int)) :=
  ifB s_j3 (bnd (idx s_l1.1 (w64 ((s_l1.1.length : Int) - 1))) fun x1616 => chk (x1616.length + ([x1559] : List Int).length < 1099511627776) (M.impl_TiedBoats_j2 s_l1 (s_l1.1.set (w64 ((s_l1.1.length : Int) - 1) : Int).toNat (x1616 ++ ([x1559] : List Int))))) (chk (s_l1.1.length + ([([x1559] : List Int)] : List (List Int)).length < 1099511627776) (M.impl_TiedBoats_j2 s_l1 (s_l1.1 ++ ([([x1559] : List Int)] : List (List Int)))))
def M.impl_TiedBoats_l1 (x9 : (List Int) × Int) (x23 : (List Int)) (s_l1 : (List (List Int)) × Int) : Option (Stp ((List (List Int)) × Int) ((List (List Int)) × Int)) :=
  ifB (decide (s_l1.2 < (x23.length : Int))) (bnd (idx x23 s_l1.2) fun x1559 => ifB (decide (0 < (s_l1.1.length : Int))) (bnd (idx s_l1.1 (w64 ((s_l1.1.length : Int) - 1))) fun x1654 => bnd (idx x1654 0) fun x1665 => bnd (idx x9.1 x1665) fun x1672 => bnd (idx x9.1 x1559) fun x1679 => M.impl_TiedBoats_j3 s_l1 x1559 (x1672 == x1679)) (M.impl_TiedBoats_j3 s_l1 x1559 false)) (some (.brk (s_l1.1, s_l1.2)))
def M.impl_TiedBoats (a0 : Table) (a1 : List Int) : Option ((List (List Int)) × Int) :=
  bnd (M.impl_NetScores a0 a1) fun x9 => ifB (x9.2 != 0) (some ([], x9.2)) (bnd (M.impl_sortedIndices (x9.1.length : Int) (fun y0 y1 => M.impl_TiedBoats_1 y0 y1 x9.1)) fun x23 => bnd (loopF (M.impl_TiedBoats_l1 x9 x23) (([] : List (List Int)), 0)) fun o => outc o (fun x => some x) (fun s => M.impl_TiedBoats_a1 s))
def M.laws_FnExactTiedBoats_j3 (x154 : (Int) × (List (List Int))) (s_j3 : Bool) : Option Bool :=
  ifB s_j3 (some false) (bnd (M.laws_heldInt64SS x154.2 1) fun x202 => ifB (decide (x202 < 0)) (some false) (ifB (x202 != x154.1) (some false) (some true)))
def M.laws_FnExactTiedBoats_j2 (a0 : Table) (a1 : List Int) (x32 : (List (List Int)) × Int) (x58 : (List (List Int)) × Int) (s_j2 : Bool) : Option Bool :=
  ifB s_j2 (some false) (bnd (M.laws_markInt64SS x58.1 1) fun x154 => bnd (M.laws_heldInt64SS x154.2 1) fun x160 => ifB (decide (x160 < 0)) (some false) (ifB (x160 != x154.1) (some false) (bnd (M.laws_toTable a0) fun x167 => bnd (M.laws_toInt64S a1) fun x176 => bnd (M.impl_TiedBoats x167 x176) fun x183 => bnd (M.laws_eqInt64SS x183.1 x32.1) fun x209 => ifB (!x209) (M.laws_FnExactTiedBoats_j3 x154 true) (M.laws_FnExactTiedBoats_j3 x154 (x183.2 != x32.2)))))
def M.laws_FnExactTiedBoats_j1 (a0 : Table) (a1 : List Int) (x32 : (List (List Int)) × Int) (x39 : Table) (x51 : (List Int)) (x58 : (List (List Int)) × Int) (s_j1 : Bool) : Option Bool :=
  ifB s_j1 (some false) (bnd (M.laws_toTable a0) fun x97 => bnd (M.laws_eqTable x39 x97) fun x106 => ifB (!x106) (some false) (bnd (M.laws_toInt64S a1) fun x112 => bnd (M.laws_eqInt64S x51 x112) fun x119 => ifB (!x119) (some false) (bnd (M.laws_markTable (Table.mk x39.Boats x39.Points x39.Codes) 1) fun x125 => bnd (M.laws_markInt64S x51 x125.1) fun x132 => ifB (decide (x132.1 < 0)) (M.laws_FnExactTiedBoats_j2 a0 a1 x32 x58 true) (bnd (M.laws_eqInt64SS x58.1 x32.1) fun x216 => ifB (!x216) (M.laws_FnExactTiedBoats_j2 a0 a1 x32 x58 true) (M.laws_FnExactTiedBoats_j2 a0 a1 x32 x58 (x58.2 != x32.2))))))
def M.laws_FnExactTiedBoats (a0 : Table) (a1 : List Int) : Option Bool :=
  ifB (decide (1048576 < (a1.length : Int))) (some true) (bnd (M.laws_szTable a0 1048576) fun x10 => ifB (decide (x10 < 0)) (some true) (bnd (M.laws_toTable a0) fun x16 => bnd (M.laws_toInt64S a1) fun x25 => bnd (M.spec_TiedBoats x16 x25) fun x32 => bnd (M.laws_toTable a0) fun x39 => bnd (M.laws_toInt64S a1) fun x51 => bnd (M.impl_TiedBoats x39 x51) fun x58 => bnd (M.laws_eqInt64SS x58.1 x32.1) fun x222 => ifB (!x222) (M.laws_FnExactTiedBoats_j1 a0 a1 x32 x39 x51 x58 true) (M.laws_FnExactTiedBoats_j1 a0 a1 x32 x39 x51 x58 (x58.2 != x32.2))))
def M.laws_FnTied_j4 (s_j4 : Bool) : Option Bool :=
  some s_j4
def M.laws_FnTied_a2 (x36 : Table × (List Int)) (s_l2 : Int) : Option Bool :=
  bnd (M.impl_LeadOf x36.1 x36.2) fun x732 => bnd (M.spec_LeadOf x36.1 x36.2) fun x737 => ifB (x732.2 == x737.2) (ifB (x732.1 == x737.1) (M.laws_FnTied_j4 (decide (0 ≤ x732.1))) (M.laws_FnTied_j4 false)) (M.laws_FnTied_j4 false)
def M.laws_FnTied_a3 (s_l2 : Int) (s_l3 : Int) : Option (Stp Bool Int) :=
  some (.cont (w64 (s_l2 + 1)))
def M.laws_FnTied_l3 (x54 : (List (List Int)) × Int) (x267 : (List Int) × Int) (s_l2 : Int) (s_l3 : Int) : Option (Stp Bool Int) :=
  bnd (idx x54.1 s_l2) fun x911 => ifB (decide (s_l3 < (x911.length : Int))) (bnd (idx x54.1 s_l2) fun x923 => bnd (idx x923 0) fun x934 => bnd (idx x267.1 x934) fun x941 => bnd (idx x54.1 s_l2) fun x948 => bnd (idx x948 s_l3) fun x959 => bnd (idx x267.1 x959) fun x966 => ifB (x941 != x966) (some (.ret false)) (some (.cont (w64 (s_l3 + 1))))) (some (.brk s_l3))
def M.laws_FnTied_l2 (x54 : (List (List Int)) × Int) (x267 : (List Int) × Int) (s_l2 : Int) : Option (Stp Bool Int) :=
  ifB (decide (s_l2 < (x54.1.length : Int))) (bnd (loopF (M.laws_FnTied_l3 x54 x267 s_l2) 1) fun o => outc o (fun x => some (.ret x)) (fun s => M.laws_FnTied_a3 s_l2 s)) (some (.brk s_l2))
def M.laws_FnTied_j3 (x36 : Table × (List Int)) (x54 : (List (List Int)) × Int) (x267 : (List Int) × Int) (s_j3 : Bool) : Option Bool :=
  ifB s_j3 (some false) (bnd (loopF (M.laws_FnTied_l2 x54 x267) 0) fun o => outc o (fun x => some x) (fun s => M.laws_FnTied_a2 x36 s))
def M.laws_FnTied_a1 (x29 : (List (List Int)) × Int) (x36 : Table × (List Int)) (x54 : (List (List Int)) × Int) (s_l1 : Int) : Option Bool :=
  ifB (x29.2 != 0) (some true) (bnd (M.impl_NetScores x36.1 x36.2) fun x267 => ifB (x267.2 != 0) (M.laws_FnTied_j3 x36 x54 x267 true) (M.laws_FnTied_j3 x36 x54 x267 ((x267.1.length : Int) != x36.1.Boats)))
def M.laws_FnTied_j5 (x96 : Int × Int) (x101 : Table × (List Int) × Int × Int) (s_l1 : Int) (s_j5 : Bool) : Option (Stp Bool Int) :=
  ifB s_j5 (bnd (idx x101.1.Points s_l1) fun x1005 => bnd (idx x1005 x101.2.2.1) fun x1016 => bnd (idx x101.1.Points s_l1) fun x1023 => bnd (idx x1023 x101.2.2.2) fun x1034 => ifB ((x1016 == x1034) != (decide (x96.1 < s_l1))) (some (.ret false)) (some (.cont (w64 (s_l1 + 1))))) (some (.brk s_l1))
def M.laws_FnTied_l1 (x96 : Int × Int) (x101 : Table × (List Int) × Int × Int) (s_l1 : Int) : Option (Stp Bool Int) :=
  ifB (x96.2 == 0) (M.laws_FnTied_j5 x96 x101 s_l1 (decide (s_l1 < (x101.1.Points.length : Int)))) (M.laws_FnTied_j5 x96 x101 s_l1 false)
def M.laws_FnTied_j2 (x29 : (List (List Int)) × Int) (x36 : Table × (List Int)) (x54 : (List (List Int)) × Int) (x96 : Int × Int) (x101 : Table × (List Int) × Int × Int) (s_j2 : Bool) : Option Bool :=
  ifB s_j2 (some false) (bnd (loopF (M.laws_FnTied_l1 x96 x101) x96.1) fun o => outc o (fun x => some x) (fun s => M.laws_FnTied_a1 x29 x36 x54 s))
def M.laws_FnTied_j1 (a0 : List UInt8) (x29 : (List (List Int)) × Int) (x36 : Table × (List Int)) (x54 : (List (List Int)) × Int) (s_j1 : Bool) : Option Bool :=
  ifB s_j1 (some false) (bnd (M.spec_DrawDecidingRace a0) fun x76 => bnd (M.impl_DecidingRace x76.1 x76.2.1 x76.2.2.1 x76.2.2.2) fun x96 => bnd (M.spec_DrawDecidingRace a0) fun x101 => bnd (M.spec_DecidingRace x101.1 x101.2.1 x101.2.2.1 x101.2.2.2) fun x119 => ifB (x96.2 != x119.2) (M.laws_FnTied_j2 x29 x36 x54 x96 x101 true) (M.laws_FnTied_j2 x29 x36 x54 x96 x101 (x96.1 != x119.1)))
def M.laws_FnTied (a0 : List UInt8) : Option Bool :=
  bnd (M.laws_big a0) fun x3 => ifB x3 (some true) (bnd (M.spec_DrawTiedBoats a0) fun x9 => bnd (M.impl_TiedBoats x9.1 x9.2) fun x29 => bnd (M.spec_DrawTiedBoats a0) fun x36 => bnd (M.spec_TiedBoats x36.1 x36.2) fun x54 => ifB (x29.2 != x54.2) (M.laws_FnTied_j1 a0 x29 x36 x54 true) (bnd (M.laws_likeRows x29.1 x54.1) fun x1046 => M.laws_FnTied_j1 a0 x29 x36 x54 (!x1046)))

end Go.Proofs.Ytpobaajdhfoomaa
