/- More models of the functions, printed by my generator. -/
import Derived.Test.YtpobaajdhfoomaaMod
import Derived.Test.YtpobaajdhfoomaaBase5
namespace Go.Proofs.Ytpobaajdhfoomaa
open Go Go.RowKit Go.ChangeShapes Go.WideShapes
set_option linter.unusedVariables false
set_option linter.unusedSimpArgs false

def M.laws_FnExactIsRace (a0 : Int) (a1 : Race) : Option Bool :=
  bnd (M.laws_szRace a1 1048576) fun x5 => ifB (decide (x5 < 0)) (some true) (bnd (M.laws_toRace a1) fun x11 => bnd (M.spec_IsRace a0 x11) fun x18 => bnd (M.laws_toRace a1) fun x23 => bnd (M.impl_IsRace a0 x23) fun x33 => ifB (x33 != x18) (some false) (bnd (M.laws_toRace a1) fun x51 => bnd (M.laws_eqRace x23 x51) fun x58 => ifB (!x58) (some false) (some true)))
def M.laws_FnExactIsTable (a0 : Table) : Option Bool :=
  bnd (M.laws_szTable a0 1048576) fun x7 => ifB (decide (x7 < 0)) (some true) (bnd (M.laws_toTable a0) fun x13 => bnd (M.spec_IsTable x13) fun x22 => bnd (M.laws_toTable a0) fun x27 => bnd (M.impl_IsTable x27) fun x39 => ifB (x39 != x22) (some false) (bnd (M.laws_toTable a0) fun x59 => bnd (M.laws_eqTable x27 x59) fun x68 => ifB (!x68) (some false) (some true)))
def M.laws_FnExactIsSeries (a0 : Series) : Option Bool :=
  bnd (M.laws_szSeries a0 1048576) fun x5 => ifB (decide (x5 < 0)) (some true) (bnd (M.laws_toSeries a0) fun x11 => bnd (M.spec_IsSeries x11) fun x18 => bnd (M.laws_toSeries a0) fun x23 => bnd (M.impl_IsSeries x23) fun x33 => ifB (x33 != x18) (some false) (bnd (M.laws_toSeries a0) fun x51 => bnd (M.laws_eqSeries x23 x51) fun x58 => ifB (!x58) (some false) (some true)))
def M.spec_PlacesOf_a1 (s_l1 : (List Int) × Int) : Option ((List Int) × Int) :=
  some (s_l1.1, 0)
def M.spec_PlacesOf_j1 (s_l1 : (List Int) × Int) (s_j1 : (List Int)) : Option (Stp ((List Int) × Int) ((List Int) × Int)) :=
  some (.cont (s_j1, w64 (s_l1.2 + 1)))
def M.spec_PlacesOf_j2 (s_l1 : (List Int) × Int) (s_j2 : (List Int)) : Option (Stp ((List Int) × Int) ((List Int) × Int)) :=
  M.spec_PlacesOf_j1 s_l1 s_j2
def M.spec_PlacesOf_l1 (a0 : Int) (a1 : Race) (s_l1 : (List Int) × Int) : Option (Stp ((List Int) × Int) ((List Int) × Int)) :=
  ifB (decide (s_l1.2 < (s_l1.1.length : Int))) (bnd (idx a1.Finishes s_l1.2) fun x389 => bnd (M.spec_l26Done x389) fun x396 => ifB x396 (bnd (M.spec_l26Place a1 (List.replicate (a0).toNat (0 : Int)) s_l1.2) fun x402 => bnd (idx s_l1.1 s_l1.2) fun x407 => M.spec_PlacesOf_j2 s_l1 (s_l1.1.set (s_l1.2 : Int).toNat x402.1)) (M.spec_PlacesOf_j2 s_l1 s_l1.1)) (some (.brk (s_l1.1, s_l1.2)))
def M.spec_PlacesOf (a0 : Int) (a1 : Race) : Option ((List Int) × Int) :=
  bnd (M.spec_IsRace a0 a1) fun x5 => ifB (!x5) (some ([], 1)) (chk (0 ≤ a0 ∧ a0 < 1099511627776) (chk (0 ≤ a0 ∧ a0 < 1099511627776) (bnd (loopF (M.spec_PlacesOf_l1 a0 a1) (List.replicate (a0).toNat (0 : Int), 0)) fun o => outc o (fun x => some x) (fun s => M.spec_PlacesOf_a1 s))))
def M.impl_placesOf_a1 (s_l1 : (List Int) × (List Int) × Int) : Option ((List Int) × (List Int)) :=
  some (s_l1.1, s_l1.2.1)
def M.impl_placesOf_j1 (s_l1 : (List Int) × (List Int) × Int) (s_j1 : (List Int) × (List Int)) : Option (Stp ((List Int) × (List Int)) ((List Int) × (List Int) × Int)) :=
  some (.cont (s_j1.1, s_j1.2, w64 (s_l1.2.2 + 1)))
def M.impl_placesOf_j2 (s_l1 : (List Int) × (List Int) × Int) (s_j2 : (List Int) × (List Int)) : Option (Stp ((List Int) × (List Int)) ((List Int) × (List Int) × Int)) :=
  M.impl_placesOf_j1 s_l1 (s_j2.1, s_j2.2)
def M.impl_placesOf_a2 (s_l1 : (List Int) × (List Int) × Int) (s_l2 : (List Int) × (List Int) × Int) : Option (Stp ((List Int) × (List Int)) ((List Int) × (List Int) × Int)) :=
  M.impl_placesOf_j2 s_l1 (s_l2.1, s_l2.2.1)
def M.impl_placesOf_j3 (s_l2 : (List Int) × (List Int) × Int) (s_j3 : (List Int) × (List Int)) : Option (Stp ((List Int) × (List Int)) ((List Int) × (List Int) × Int)) :=
  some (.cont (s_j3.1, s_j3.2, w64 (s_l2.2.2 + 1)))
def M.impl_placesOf_j4 (s_l2 : (List Int) × (List Int) × Int) (s_j4 : (List Int) × (List Int)) : Option (Stp ((List Int) × (List Int)) ((List Int) × (List Int) × Int)) :=
  M.impl_placesOf_j3 s_l2 (s_j4.1, s_j4.2)
def M.impl_placesOf_j6 (s_l1 : (List Int) × (List Int) × Int) (s_l2 : (List Int) × (List Int) × Int) (s_j6 : Bool) : Option (Stp ((List Int) × (List Int)) ((List Int) × (List Int) × Int)) :=
  ifB s_j6 (bnd (idx s_l2.2.1 s_l1.2.2) fun x13237 => bnd (idx s_l2.2.1 s_l1.2.2) fun x13244 => M.impl_placesOf_j4 s_l2 (s_l2.1, s_l2.2.1.set (s_l1.2.2 : Int).toNat (w64 (x13237 + 1)))) (M.impl_placesOf_j4 s_l2 (s_l2.1, s_l2.2.1))
def M.impl_placesOf_j5 (s_l1 : (List Int) × (List Int) × Int) (x12163 : Finish) (s_l2 : (List Int) × (List Int) × Int) (x13179 : Finish) (s_j5 : Bool) : Option (Stp ((List Int) × (List Int)) ((List Int) × (List Int) × Int)) :=
  ifB s_j5 (bnd (idx s_l2.1 s_l1.2.2) fun x13206 => bnd (idx s_l2.1 s_l1.2.2) fun x13213 => M.impl_placesOf_j4 s_l2 (s_l2.1.set (s_l1.2.2 : Int).toNat (w64 (x13206 + 1)), s_l2.2.1)) (ifB (x13179.Code == 0) (M.impl_placesOf_j6 s_l1 s_l2 (x13179.Time == x12163.Time)) (M.impl_placesOf_j6 s_l1 s_l2 false))
def M.impl_placesOf_l2 (a0 : List Finish) (s_l1 : (List Int) × (List Int) × Int) (x12163 : Finish) (s_l2 : (List Int) × (List Int) × Int) : Option (Stp ((List Int) × (List Int)) ((List Int) × (List Int) × Int)) :=
  ifB (decide (s_l2.2.2 < (a0.length : Int))) (bnd (idx a0 s_l2.2.2) fun x13179 => ifB (x13179.Code == 0) (M.impl_placesOf_j5 s_l1 x12163 s_l2 x13179 (decide (x13179.Time < x12163.Time))) (M.impl_placesOf_j5 s_l1 x12163 s_l2 x13179 false)) (some (.brk (s_l2.1, s_l2.2.1, s_l2.2.2)))
def M.impl_placesOf_l1 (a0 : List Finish) (s_l1 : (List Int) × (List Int) × Int) : Option (Stp ((List Int) × (List Int)) ((List Int) × (List Int) × Int)) :=
  ifB (decide (s_l1.2.2 < (a0.length : Int))) (bnd (idx a0 s_l1.2.2) fun x12163 => ifB (x12163.Code != 0) (M.impl_placesOf_j2 s_l1 (s_l1.1, s_l1.2.1)) (bnd (idx s_l1.1 s_l1.2.2) fun x12174 => bnd (loopF (M.impl_placesOf_l2 a0 s_l1 x12163) (s_l1.1.set (s_l1.2.2 : Int).toNat 1, s_l1.2.1, 0)) fun o => outc o (fun x => some (.ret x)) (fun s => M.impl_placesOf_a2 s_l1 s))) (some (.brk (s_l1.1, s_l1.2.1, s_l1.2.2)))
def M.impl_placesOf (a0 : List Finish) : Option ((List Int) × (List Int)) :=
  chk (0 ≤ (a0.length : Int) ∧ (a0.length : Int) < 1099511627776) (chk (0 ≤ (a0.length : Int) ∧ (a0.length : Int) < 1099511627776) (bnd (loopF (M.impl_placesOf_l1 a0) (List.replicate ((a0.length : Int)).toNat (0 : Int), List.replicate ((a0.length : Int)).toNat (0 : Int), 0)) fun o => outc o (fun x => some x) (fun s => M.impl_placesOf_a1 s)))
def M.impl_PlacesOf (a0 : Int) (a1 : Race) : Option ((List Int) × Int) :=
  bnd (M.impl_IsRace a0 a1) fun x5 => ifB (!x5) (some ([], 1)) (bnd (M.impl_placesOf a1.Finishes) fun x11 => some (x11.1, 0))
def M.laws_markRace (a0 : Race) (a1 : Int) : Option ((Int) × Race) :=
  bnd (M.laws_markFinishS a0.Finishes a1) fun x7 => some (x7.1, (Race.mk x7.2))
def M.laws_FnExactPlacesOf_j3 (x106 : (Int) × (List Int)) (s_j3 : Bool) : Option Bool :=
  ifB s_j3 (some false) (bnd (M.laws_heldInt64S x106.2 1) fun x145 => ifB (decide (x145 < 0)) (some false) (ifB (x145 != x106.1) (some false) (some true)))
def M.laws_FnExactPlacesOf_j2 (a0 : Int) (a1 : Race) (x18 : (List Int) × Int) (x35 : (List Int) × Int) (s_j2 : Bool) : Option Bool :=
  ifB s_j2 (some false) (bnd (M.laws_markInt64S x35.1 1) fun x106 => bnd (M.laws_heldInt64S x106.2 1) fun x112 => ifB (decide (x112 < 0)) (some false) (ifB (x112 != x106.1) (some false) (bnd (M.laws_toRace a1) fun x119 => bnd (M.impl_PlacesOf a0 x119) fun x126 => bnd (M.laws_eqInt64S x126.1 x18.1) fun x152 => ifB (!x152) (M.laws_FnExactPlacesOf_j3 x106 true) (M.laws_FnExactPlacesOf_j3 x106 (x126.2 != x18.2)))))
def M.laws_FnExactPlacesOf_j1 (a0 : Int) (a1 : Race) (x18 : (List Int) × Int) (x25 : Race) (x35 : (List Int) × Int) (s_j1 : Bool) : Option Bool :=
  ifB s_j1 (some false) (bnd (M.laws_toRace a1) fun x71 => bnd (M.laws_eqRace x25 x71) fun x78 => ifB (!x78) (some false) (bnd (M.laws_markRace (Race.mk x25.Finishes) 1) fun x84 => ifB (decide (x84.1 < 0)) (M.laws_FnExactPlacesOf_j2 a0 a1 x18 x35 true) (bnd (M.laws_eqInt64S x35.1 x18.1) fun x159 => ifB (!x159) (M.laws_FnExactPlacesOf_j2 a0 a1 x18 x35 true) (M.laws_FnExactPlacesOf_j2 a0 a1 x18 x35 (x35.2 != x18.2)))))
def M.laws_FnExactPlacesOf (a0 : Int) (a1 : Race) : Option Bool :=
  bnd (M.laws_szRace a1 1048576) fun x5 => ifB (decide (x5 < 0)) (some true) (bnd (M.laws_toRace a1) fun x11 => bnd (M.spec_PlacesOf a0 x11) fun x18 => bnd (M.laws_toRace a1) fun x25 => bnd (M.impl_PlacesOf a0 x25) fun x35 => bnd (M.laws_eqInt64S x35.1 x18.1) fun x165 => ifB (!x165) (M.laws_FnExactPlacesOf_j1 a0 a1 x18 x25 x35 true) (M.laws_FnExactPlacesOf_j1 a0 a1 x18 x25 x35 (x35.2 != x18.2)))
def M.spec_DrawRacePoints (a0 : List UInt8) : Option (Int × Race × Int) :=
  bnd (M.spec_DrawIsRace a0) fun x5 => chk (([(UInt8.ofNat (1 : Int).toNat)] : List UInt8).length + a0.length < 1099511627776) (bnd (M.spec_l01From (([(UInt8.ofNat (1 : Int).toNat)] : List UInt8) ++ a0)) fun x22 => bnd (M.spec_l01Next (Src.mk (([(UInt8.ofNat (1 : Int).toNat)] : List UInt8) ++ a0) x22.1 x22.2) 2) fun x39 => bnd (M.spec_l01Next (Src.mk (([(UInt8.ofNat (1 : Int).toNat)] : List UInt8) ++ a0) x39.2.1 x39.2.2) 24) fun x44 => some (x5.1, x5.2, w64 (x39.1 + (w64 (2 * (w64 (x44.1.tdiv 23)))))))
def M.impl_racePoints_a1 (s_l1 : (List Int) × Int) : Option (List Int) :=
  some s_l1.1
def M.impl_racePoints_j1 (s_l1 : (List Int) × Int) (s_j1 : (List Int)) : Option (Stp (List Int) ((List Int) × Int)) :=
  some (.cont (s_j1, w64 (s_l1.2 + 1)))
def M.impl_racePoints_j2 (s_l1 : (List Int) × Int) (s_j2 : (List Int)) : Option (Stp (List Int) ((List Int) × Int)) :=
  M.impl_racePoints_j1 s_l1 s_j2
def M.impl_racePoints_l1 (a0 : List Finish) (a1 : Int) (x3 : (List Int) × (List Int)) (s_l1 : (List Int) × Int) : Option (Stp (List Int) ((List Int) × Int)) :=
  ifB (decide (s_l1.2 < (a0.length : Int))) (bnd (idx a0 s_l1.2) fun x869 => ifB (x869.Code == 0) (bnd (idx x3.1 s_l1.2) fun x901 => bnd (idx x3.2 s_l1.2) fun x908 => chk (s_l1.1.length + ([w64 (5 * (w64 ((w64 ((w64 (2 * x901)) + x908)) - 1)))] : List Int).length < 1099511627776) (M.impl_racePoints_j2 s_l1 (s_l1.1 ++ ([w64 (5 * (w64 ((w64 ((w64 (2 * x901)) + x908)) - 1)))] : List Int)))) (bnd (M.impl_codePoints a0 x869.Code a1) fun x922 => chk (s_l1.1.length + ([x922] : List Int).length < 1099511627776) (M.impl_racePoints_j2 s_l1 (s_l1.1 ++ ([x922] : List Int))))) (some (.brk (s_l1.1, s_l1.2)))
def M.impl_racePoints (a0 : List Finish) (a1 : Int) : Option (List Int) :=
  bnd (M.impl_placesOf a0) fun x3 => bnd (loopF (M.impl_racePoints_l1 a0 a1 x3) (([] : List Int), 0)) fun o => outc o (fun x => some x) (fun s => M.impl_racePoints_a1 s)
def M.impl_RacePoints (a0 : Int) (a1 : Race) (a2 : Int) : Option ((List Int) × Int) :=
  bnd (M.impl_IsRace a0 a1) fun x5 => ifB (!x5) (some ([], 1)) (bnd (M.impl_isScheme a2) fun x11 => ifB (!x11) (some ([], 2)) (bnd (M.impl_racePoints a1.Finishes a2) fun x17 => some (x17, 0)))
def M.spec_RacePoints (a0 : Int) (a1 : Race) (a2 : Int) : Option ((List Int) × Int) :=
  bnd (M.spec_IsRace a0 a1) fun x5 => ifB (!x5) (some ([], 1)) (bnd (M.spec_l01In a2 0 1) fun x11 => ifB (!x11) (some ([], 2)) (bnd (M.spec_l26Points a1 a2) fun x17 => some (x17, 0)))
def M.laws_FnRacePoints_j3 (s_j3 : Bool) : Option Bool :=
  some s_j3
def M.laws_FnRacePoints_a1 (x26 : Int × Race × Int) (s_l1 : Int × Bool × Int) : Option Bool :=
  ifB (!s_l1.2.1) (M.laws_FnRacePoints_j3 true) (M.laws_FnRacePoints_j3 (s_l1.1 == (w64 ((w64 (5 * x26.1)) * (w64 (x26.1 + 1))))))
def M.laws_FnRacePoints_a2 (s_l1 : Int × Bool × Int) (x839 : Int) (s_j4 : Bool) (s_l2 : Int) : Option (Stp Bool (Int × Bool × Int)) :=
  some (.cont (w64 (s_l1.1 + x839), s_j4, w64 (s_l1.2.2 + 1)))
def M.laws_FnRacePoints_j5 (s_l2 : Int) (s_j5 : Bool) : Option (Stp Bool Int) :=
  ifB s_j5 (some (.ret false)) (some (.cont (w64 (s_l2 + 1))))
def M.laws_FnRacePoints_l2 (x19 : (List Int) × Int) (x26 : Int × Race × Int) (x56 : (List Int) × Int) (s_l1 : Int × Bool × Int) (s_l2 : Int) : Option (Stp Bool Int) :=
  ifB (decide (s_l2 < x26.1)) (bnd (idx x56.1 s_l1.2.2) fun x1155 => ifB (decide (0 < x1155)) (bnd (idx x56.1 s_l2) fun x1163 => ifB (decide (0 < x1163)) (bnd (idx x56.1 s_l1.2.2) fun x1171 => bnd (idx x56.1 s_l2) fun x1178 => bnd (idx x19.1 s_l1.2.2) fun x1185 => bnd (idx x19.1 s_l2) fun x1192 => M.laws_FnRacePoints_j5 s_l2 ((decide (x1171 < x1178)) != (decide (x1185 < x1192)))) (M.laws_FnRacePoints_j5 s_l2 false)) (M.laws_FnRacePoints_j5 s_l2 false)) (some (.brk s_l2))
def M.laws_FnRacePoints_j4 (x19 : (List Int) × Int) (x26 : Int × Race × Int) (x56 : (List Int) × Int) (s_l1 : Int × Bool × Int) (x839 : Int) (s_j4 : Bool) : Option (Stp Bool (Int × Bool × Int)) :=
  bnd (loopF (M.laws_FnRacePoints_l2 x19 x26 x56 s_l1) 0) fun o => outc o (fun x => some (.ret x)) (fun s => M.laws_FnRacePoints_a2 s_l1 x839 s_j4 s)
def M.laws_FnRacePoints_l1 (x19 : (List Int) × Int) (x26 : Int × Race × Int) (x56 : (List Int) × Int) (s_l1 : Int × Bool × Int) : Option (Stp Bool (Int × Bool × Int)) :=
  ifB (decide (s_l1.2.2 < x26.1)) (bnd (idx x19.1 s_l1.2.2) fun x839 => ifB s_l1.2.1 (bnd (idx x56.1 s_l1.2.2) fun x1203 => M.laws_FnRacePoints_j4 x19 x26 x56 s_l1 x839 (decide (0 < x1203))) (M.laws_FnRacePoints_j4 x19 x26 x56 s_l1 x839 false)) (some (.brk (s_l1.1, s_l1.2.1, s_l1.2.2)))
def M.laws_FnRacePoints_j2 (x19 : (List Int) × Int) (x26 : Int × Race × Int) (x56 : (List Int) × Int) (s_j2 : Bool) : Option Bool :=
  ifB s_j2 (some false) (bnd (loopF (M.laws_FnRacePoints_l1 x19 x26 x56) (0, true, 0)) fun o => outc o (fun x => some x) (fun s => M.laws_FnRacePoints_a1 x26 s))
def M.laws_FnRacePoints_j1 (x19 : (List Int) × Int) (x26 : Int × Race × Int) (s_j1 : Bool) : Option Bool :=
  ifB s_j1 (some false) (ifB (x19.2 != 0) (some true) (bnd (M.impl_PlacesOf x26.1 x26.2.1) fun x56 => ifB (x56.2 != 0) (M.laws_FnRacePoints_j2 x19 x26 x56 true) (M.laws_FnRacePoints_j2 x19 x26 x56 ((x56.1.length : Int) != x26.1))))
def M.laws_FnRacePoints (a0 : List UInt8) : Option Bool :=
  bnd (M.laws_big a0) fun x3 => ifB x3 (some true) (bnd (M.spec_DrawRacePoints a0) fun x9 => bnd (M.impl_RacePoints x9.1 x9.2.1 x9.2.2) fun x19 => bnd (M.spec_DrawRacePoints a0) fun x26 => bnd (M.spec_RacePoints x26.1 x26.2.1 x26.2.2) fun x34 => ifB (x19.2 != x34.2) (M.laws_FnRacePoints_j1 x19 x26 true) (bnd (M.laws_likeInts x19.1 x34.1) fun x1212 => M.laws_FnRacePoints_j1 x19 x26 (!x1212)))
def M.laws_FnExactRacePoints_j3 (x108 : (Int) × (List Int)) (s_j3 : Bool) : Option Bool :=
  ifB s_j3 (some false) (bnd (M.laws_heldInt64S x108.2 1) fun x147 => ifB (decide (x147 < 0)) (some false) (ifB (x147 != x108.1) (some false) (some true)))
def M.laws_FnExactRacePoints_j2 (a0 : Int) (a1 : Race) (a2 : Int) (x18 : (List Int) × Int) (x35 : (List Int) × Int) (s_j2 : Bool) : Option Bool :=
  ifB s_j2 (some false) (bnd (M.laws_markInt64S x35.1 1) fun x108 => bnd (M.laws_heldInt64S x108.2 1) fun x114 => ifB (decide (x114 < 0)) (some false) (ifB (x114 != x108.1) (some false) (bnd (M.laws_toRace a1) fun x121 => bnd (M.impl_RacePoints a0 x121 a2) fun x128 => bnd (M.laws_eqInt64S x128.1 x18.1) fun x154 => ifB (!x154) (M.laws_FnExactRacePoints_j3 x108 true) (M.laws_FnExactRacePoints_j3 x108 (x128.2 != x18.2)))))
def M.laws_FnExactRacePoints_j1 (a0 : Int) (a1 : Race) (a2 : Int) (x18 : (List Int) × Int) (x25 : Race) (x35 : (List Int) × Int) (s_j1 : Bool) : Option Bool :=
  ifB s_j1 (some false) (bnd (M.laws_toRace a1) fun x72 => bnd (M.laws_eqRace x25 x72) fun x79 => ifB (!x79) (some false) (bnd (M.laws_markRace (Race.mk x25.Finishes) 1) fun x85 => ifB (decide (x85.1 < 0)) (M.laws_FnExactRacePoints_j2 a0 a1 a2 x18 x35 true) (bnd (M.laws_eqInt64S x35.1 x18.1) fun x161 => ifB (!x161) (M.laws_FnExactRacePoints_j2 a0 a1 a2 x18 x35 true) (M.laws_FnExactRacePoints_j2 a0 a1 a2 x18 x35 (x35.2 != x18.2)))))
def M.laws_FnExactRacePoints (a0 : Int) (a1 : Race) (a2 : Int) : Option Bool :=
  bnd (M.laws_szRace a1 1048576) fun x5 => ifB (decide (x5 < 0)) (some true) (bnd (M.laws_toRace a1) fun x11 => bnd (M.spec_RacePoints a0 x11 a2) fun x18 => bnd (M.laws_toRace a1) fun x25 => bnd (M.impl_RacePoints a0 x25 a2) fun x35 => bnd (M.laws_eqInt64S x35.1 x18.1) fun x167 => ifB (!x167) (M.laws_FnExactRacePoints_j1 a0 a1 a2 x18 x25 x35 true) (M.laws_FnExactRacePoints_j1 a0 a1 a2 x18 x25 x35 (x35.2 != x18.2)))
def M.spec_DrawTableOf (a0 : List UInt8) : Option Series :=
  bnd (M.spec_l01From a0) fun x5 => bnd (M.spec_l26DrawSeries (Src.mk a0 x5.1 x5.2)) fun x11 => some x11.1
def M.impl_tableOf_a1 (a0 : Series) (s_l1 : (List (List Int)) × (List (List Int)) × Int) : Option Table :=
  some (Table.mk a0.Boats s_l1.1 s_l1.2.1)
def M.impl_tableOf_a2 (a0 : Series) (s_l1 : (List (List Int)) × (List (List Int)) × Int) (x344 : Race) (s_l2 : (List Int) × Int) : Option (Stp Table ((List (List Int)) × (List (List Int)) × Int)) :=
  bnd (M.impl_racePoints x344.Finishes a0.Scheme) fun x441 => chk (s_l1.1.length + ([x441] : List (List Int)).length < 1099511627776) (chk (s_l1.2.1.length + ([s_l2.1] : List (List Int)).length < 1099511627776) (some (.cont (s_l1.1 ++ ([x441] : List (List Int)), s_l1.2.1 ++ ([s_l2.1] : List (List Int)), w64 (s_l1.2.2 + 1)))))
def M.impl_tableOf_l2 (x344 : Race) (s_l2 : (List Int) × Int) : Option (Stp Table ((List Int) × Int)) :=
  ifB (decide (s_l2.2 < (x344.Finishes.length : Int))) (bnd (idx x344.Finishes s_l2.2) fun x1234 => chk (s_l2.1.length + ([x1234.Code] : List Int).length < 1099511627776) (some (.cont (s_l2.1 ++ ([x1234.Code] : List Int), w64 (s_l2.2 + 1))))) (some (.brk (s_l2.1, s_l2.2)))
def M.impl_tableOf_l1 (a0 : Series) (s_l1 : (List (List Int)) × (List (List Int)) × Int) : Option (Stp Table ((List (List Int)) × (List (List Int)) × Int)) :=
  ifB (decide (s_l1.2.2 < (a0.Races.length : Int))) (bnd (idx a0.Races s_l1.2.2) fun x344 => bnd (loopF (M.impl_tableOf_l2 x344) (([] : List Int), 0)) fun o => outc o (fun x => some (.ret x)) (fun s => M.impl_tableOf_a2 a0 s_l1 x344 s)) (some (.brk (s_l1.1, s_l1.2.1, s_l1.2.2)))
def M.impl_tableOf (a0 : Series) : Option Table :=
  bnd (loopF (M.impl_tableOf_l1 a0) ([], [], 0)) fun o => outc o (fun x => some x) (fun s => M.impl_tableOf_a1 a0 s)
def M.impl_TableOf (a0 : Series) : Option (Table × Int) :=
  bnd (M.impl_IsSeries a0) fun x7 => ifB (!x7) (some ((Table.mk 0 [] []), 1)) (bnd (M.impl_tableOf a0) fun x14 => some (x14, 0))
def M.spec_TableOf_a1 (a0 : Series) (s_l1 : (List (List Int)) × (List (List Int)) × Int) : Option (Table × Int) :=
  some ((Table.mk a0.Boats s_l1.1 s_l1.2.1), 0)
def M.spec_TableOf_a2 (a0 : Series) (s_l1 : (List (List Int)) × (List (List Int)) × Int) (s_l2 : (List Int) × Int) : Option (Stp (Table × Int) ((List (List Int)) × (List (List Int)) × Int)) :=
  bnd (idx a0.Races s_l1.2.2) fun x597 => bnd (M.spec_l26Points x597 a0.Scheme) fun x608 => chk (s_l1.1.length + ([x608] : List (List Int)).length < 1099511627776) (chk (s_l1.2.1.length + ([s_l2.1] : List (List Int)).length < 1099511627776) (some (.cont (s_l1.1 ++ ([x608] : List (List Int)), s_l1.2.1 ++ ([s_l2.1] : List (List Int)), w64 (s_l1.2.2 + 1)))))
def M.spec_TableOf_l2 (a0 : Series) (s_l1 : (List (List Int)) × (List (List Int)) × Int) (s_l2 : (List Int) × Int) : Option (Stp (Table × Int) ((List Int) × Int)) :=
  bnd (idx a0.Races s_l1.2.2) fun x1342 => ifB (decide (s_l2.2 < (x1342.Finishes.length : Int))) (bnd (idx a0.Races s_l1.2.2) fun x1354 => bnd (idx x1354.Finishes s_l2.2) fun x1365 => chk (s_l2.1.length + ([x1365.Code] : List Int).length < 1099511627776) (some (.cont (s_l2.1 ++ ([x1365.Code] : List Int), w64 (s_l2.2 + 1))))) (some (.brk (s_l2.1, s_l2.2)))
def M.spec_TableOf_l1 (a0 : Series) (s_l1 : (List (List Int)) × (List (List Int)) × Int) : Option (Stp (Table × Int) ((List (List Int)) × (List (List Int)) × Int)) :=
  ifB (decide (s_l1.2.2 < (a0.Races.length : Int))) (bnd (loopF (M.spec_TableOf_l2 a0 s_l1) (([] : List Int), 0)) fun o => outc o (fun x => some (.ret x)) (fun s => M.spec_TableOf_a2 a0 s_l1 s)) (some (.brk (s_l1.1, s_l1.2.1, s_l1.2.2)))
def M.spec_TableOf (a0 : Series) : Option (Table × Int) :=
  bnd (M.spec_IsSeries a0) fun x7 => ifB (!x7) (some ((Table.mk 0 [] []), 1)) (bnd (loopF (M.spec_TableOf_l1 a0) (([] : List (List Int)), ([] : List (List Int)), 0)) fun o => outc o (fun x => some x) (fun s => M.spec_TableOf_a1 a0 s))
def M.laws_FnTables_j2 (s_j2 : Bool) : Option Bool :=
  some s_j2
def M.laws_FnTables_a1 (x19 : Table × Int) (x31 : Series) (x39 : Table × Int) (s_l1 : Int) : Option Bool :=
  ifB ((x19.1.Points.length : Int) == (x31.Races.length : Int)) (bnd (M.impl_IsTable x39.1) fun x278 => M.laws_FnTables_j2 x278) (M.laws_FnTables_j2 false)
def M.laws_FnTables_j3 (s_l1 : Int) (s_j3 : Bool) : Option (Stp Bool Int) :=
  ifB s_j3 (some (.ret false)) (some (.cont (w64 (s_l1 + 1))))
def M.laws_FnTables_l1 (x19 : Table × Int) (x31 : Series) (s_l1 : Int) : Option (Stp Bool Int) :=
  ifB (decide (s_l1 < (x31.Races.length : Int))) (bnd (idx x31.Races s_l1) fun x318 => bnd (M.impl_RacePoints x31.Boats x318 x31.Scheme) fun x329 => ifB (x329.2 != 0) (M.laws_FnTables_j3 s_l1 true) (bnd (idx x19.1.Points s_l1) fun x366 => bnd (M.laws_likeInts x329.1 x366) fun x377 => M.laws_FnTables_j3 s_l1 (!x377))) (some (.brk s_l1))
def M.laws_FnTables_j1 (x19 : Table × Int) (x31 : Series) (x39 : Table × Int) (s_j1 : Bool) : Option Bool :=
  ifB s_j1 (some false) (ifB (x19.2 != 0) (some true) (bnd (loopF (M.laws_FnTables_l1 x19 x31) 0) fun o => outc o (fun x => some x) (fun s => M.laws_FnTables_a1 x19 x31 x39 s)))
def M.laws_FnTables (a0 : List UInt8) : Option Bool :=
  bnd (M.laws_big a0) fun x3 => ifB x3 (some true) (bnd (M.spec_DrawTableOf a0) fun x9 => bnd (M.impl_TableOf x9) fun x19 => bnd (M.spec_DrawTableOf a0) fun x31 => bnd (M.spec_TableOf x31) fun x39 => ifB (x19.2 != x39.2) (M.laws_FnTables_j1 x19 x31 x39 true) (bnd (M.laws_w6Tables x19.1 x39.1) fun x383 => ifB (!x383) (M.laws_FnTables_j1 x19 x31 x39 true) (bnd (M.impl_IsSeries x31) fun x389 => M.laws_FnTables_j1 x19 x31 x39 (x389 != (x19.2 == 0)))))
def M.spec_FinishOrder_a1 (s_l1 : (List Int) × (List Int) × Int) : Option ((List Int) × Int) :=
  chk (s_l1.1.length + s_l1.2.1.length < 1099511627776) (some (s_l1.1 ++ s_l1.2.1, 0))
def M.spec_FinishOrder_j1 (s_l1 : (List Int) × (List Int) × Int) (s_j1 : (List Int) × (List Int)) : Option (Stp ((List Int) × Int) ((List Int) × (List Int) × Int)) :=
  some (.cont (s_j1.1, s_j1.2, w64 (s_l1.2.2 + 1)))
def M.spec_FinishOrder_j2 (s_l1 : (List Int) × (List Int) × Int) (s_j2 : (List Int) × (List Int)) : Option (Stp ((List Int) × Int) ((List Int) × (List Int) × Int)) :=
  M.spec_FinishOrder_j1 s_l1 (s_j2.1, s_j2.2)
def M.spec_FinishOrder_a2 (s_l1 : (List Int) × (List Int) × Int) (s_l2 : Int) : Option (Stp ((List Int) × Int) ((List Int) × (List Int) × Int)) :=
  chk (0 ≤ (0 : Int) ∧ (0 : Int) ≤ s_l2 ∧ s_l2 ≤ (s_l1.1.length : Int)) (chk (([] : List Int).length + (subL s_l1.1 0 s_l2).length < 1099511627776) (chk ((([] : List Int) ++ (subL s_l1.1 0 s_l2)).length + ([s_l1.2.2] : List Int).length < 1099511627776) (chk (0 ≤ (s_l2 : Int) ∧ (s_l2 : Int) ≤ (s_l1.1.length : Int) ∧ (s_l1.1.length : Int) ≤ (s_l1.1.length : Int)) (chk (((([] : List Int) ++ (subL s_l1.1 0 s_l2)) ++ ([s_l1.2.2] : List Int)).length + (subL s_l1.1 s_l2 (s_l1.1.length : Int)).length < 1099511627776) (M.spec_FinishOrder_j2 s_l1 (((([] : List Int) ++ (subL s_l1.1 0 s_l2)) ++ ([s_l1.2.2] : List Int)) ++ (subL s_l1.1 s_l2 (s_l1.1.length : Int)), s_l1.2.1))))))
def M.spec_FinishOrder_j3 (s_l2 : Int) (s_j3 : Bool) : Option (Stp ((List Int) × Int) Int) :=
  ifB s_j3 (some (.cont (w64 (s_l2 - 1)))) (some (.brk s_l2))
def M.spec_FinishOrder_l2 (a1 : Race) (s_l1 : (List Int) × (List Int) × Int) (x2393 : Finish) (s_l2 : Int) : Option (Stp ((List Int) × Int) Int) :=
  ifB (decide (0 < s_l2)) (bnd (idx s_l1.1 (w64 (s_l2 - 1))) fun x2581 => bnd (idx a1.Finishes x2581) fun x2588 => M.spec_FinishOrder_j3 s_l2 (decide (x2393.Time < x2588.Time))) (M.spec_FinishOrder_j3 s_l2 false)
def M.spec_FinishOrder_l1 (a0 : Int) (a1 : Race) (s_l1 : (List Int) × (List Int) × Int) : Option (Stp ((List Int) × Int) ((List Int) × (List Int) × Int)) :=
  ifB (decide (s_l1.2.2 < a0)) (bnd (idx a1.Finishes s_l1.2.2) fun x2393 => bnd (M.spec_l26Done x2393) fun x2403 => ifB (!x2403) (chk (s_l1.2.1.length + ([s_l1.2.2] : List Int).length < 1099511627776) (M.spec_FinishOrder_j2 s_l1 (s_l1.1, s_l1.2.1 ++ ([s_l1.2.2] : List Int)))) (bnd (loopF (M.spec_FinishOrder_l2 a1 s_l1 x2393) (s_l1.1.length : Int)) fun o => outc o (fun x => some (.ret x)) (fun s => M.spec_FinishOrder_a2 s_l1 s))) (some (.brk (s_l1.1, s_l1.2.1, s_l1.2.2)))
def M.spec_FinishOrder (a0 : Int) (a1 : Race) : Option ((List Int) × Int) :=
  bnd (M.spec_IsRace a0 a1) fun x5 => ifB (!x5) (some ([], 1)) (bnd (loopF (M.spec_FinishOrder_l1 a0 a1) (([] : List Int), ([] : List Int), 0)) fun o => outc o (fun x => some x) (fun s => M.spec_FinishOrder_a1 s))
def M.impl_FinishOrder_1 (a0 : Int) (a1 : Int) (a2 : Race) : Option Int :=
  bnd (idx a2.Finishes a0) fun x25 => bnd (idx a2.Finishes a1) fun x32 => ifB ((x25.Code == 0) != (x32.Code == 0)) (some (w64 ((min x25.Code 1) - (min x32.Code 1)))) (some (w64 (x25.Time - x32.Time)))
def M.impl_sortedIndices_1 (a0 : Int) (a1 : Int) (a2 : Int → Int → Option Int) : Option Int :=
  bnd (a2 a0 a1) fun x6 => bnd (M.impl_sign x6) fun x11 => some x11
def M.slices_insertionSortCmpFunc_int64__a1 (s_l1 : (List Int) × Int) : Option ((Unit) × (List Int)) :=
  some ((), s_l1.1)
def M.slices_insertionSortCmpFunc_int64__a2 (s_l1 : (List Int) × Int) (s_l2 : (List Int) × Int) : Option (Stp ((Unit) × (List Int)) ((List Int) × Int)) :=
  some (.cont (s_l2.1, w64 (s_l1.2 + 1)))
def M.slices_insertionSortCmpFunc_int64__j1 (s_l2 : (List Int) × Int) (s_j1 : Bool) : Option (Stp ((Unit) × (List Int)) ((List Int) × Int)) :=
  ifB s_j1 (bnd (idx s_l2.1 (w64 (s_l2.2 - 1))) fun x1164 => bnd (idx s_l2.1 s_l2.2) fun x1171 => bnd (idx s_l2.1 s_l2.2) fun x1180 => bnd (idx (s_l2.1.set (s_l2.2 : Int).toNat x1164) (w64 (s_l2.2 - 1))) fun x1188 => some (.cont ((s_l2.1.set (s_l2.2 : Int).toNat x1164).set (w64 (s_l2.2 - 1) : Int).toNat x1171, w64 (s_l2.2 - 1)))) (some (.brk (s_l2.1, s_l2.2)))
def M.slices_insertionSortCmpFunc_int64__l2 (a1 : Int) (a3 : Int → Int → Option Int) (s_l2 : (List Int) × Int) : Option (Stp ((Unit) × (List Int)) ((List Int) × Int)) :=
  ifB (decide (a1 < s_l2.2)) (bnd (idx s_l2.1 s_l2.2) fun x1213 => bnd (idx s_l2.1 (w64 (s_l2.2 - 1))) fun x1220 => bnd (a3 x1213 x1220) fun x1227 => M.slices_insertionSortCmpFunc_int64__j1 s_l2 (decide (x1227 < 0))) (M.slices_insertionSortCmpFunc_int64__j1 s_l2 false)
def M.slices_insertionSortCmpFunc_int64__l1 (a1 : Int) (a2 : Int) (a3 : Int → Int → Option Int) (s_l1 : (List Int) × Int) : Option (Stp ((Unit) × (List Int)) ((List Int) × Int)) :=
  ifB (decide (s_l1.2 < a2)) (bnd (loopF (M.slices_insertionSortCmpFunc_int64__l2 a1 a3) (s_l1.1, s_l1.2)) fun o => outc o (fun x => some (.ret x)) (fun s => M.slices_insertionSortCmpFunc_int64__a2 s_l1 s)) (some (.brk (s_l1.1, s_l1.2)))
def M.slices_insertionSortCmpFunc_int64_ (a0 : List Int) (a1 : Int) (a2 : Int) (a3 : Int → Int → Option Int) : Option ((Unit) × (List Int)) :=
  bnd (loopF (M.slices_insertionSortCmpFunc_int64__l1 a1 a2 a3) (a0, w64 (a1 + 1))) fun o => outc o (fun x => some x) (fun s => M.slices_insertionSortCmpFunc_int64__a1 s)
def M.slices_stableCmpFunc_int64__a2 (x36 : (Unit) × (List Int)) (s_l2 : Int) : Option ((Unit) × (List Int)) :=
  some ((), x36.2)
def M.slices_stableCmpFunc_int64__j1 (s_l2 : Int) (s_j1 : Unit) : Option (Stp ((Unit) × (List Int)) Int) :=
  some (.cont (w64 (s_l2 * 2)))
def M.slices_stableCmpFunc_int64__a3 (a1 : Int) (s_l2 : Int) (s_l3 : Unit) : Option (Stp ((Unit) × (List Int)) Int) :=
  ifB (decide ((w64 (0 + s_l2)) < a1)) (none) (M.slices_stableCmpFunc_int64__j1 s_l2 ())
def M.slices_stableCmpFunc_int64__l3 (a1 : Int) (s_l2 : Int) (s_l3 : Unit) : Option (Stp ((Unit) × (List Int)) Unit) :=
  ifB (decide ((w64 (2 * s_l2)) ≤ a1)) (none) (some (.brk ()))
def M.slices_stableCmpFunc_int64__l2 (a1 : Int) (s_l2 : Int) : Option (Stp ((Unit) × (List Int)) Int) :=
  ifB (decide (s_l2 < a1)) (bnd (loopF (M.slices_stableCmpFunc_int64__l3 a1 s_l2) ()) fun o => outc o (fun x => some (.ret x)) (fun s => M.slices_stableCmpFunc_int64__a3 a1 s_l2 s)) (some (.brk s_l2))
def M.slices_stableCmpFunc_int64__a1 (a1 : Int) (a2 : Int → Int → Option Int) (s_l1 : (List Int) × Int × Int) : Option ((Unit) × (List Int)) :=
  bnd (M.slices_insertionSortCmpFunc_int64_ s_l1.1 s_l1.2.1 a1 a2) fun x36 => bnd (loopF (M.slices_stableCmpFunc_int64__l2 a1) 20) fun o => outc o (fun x => some x) (fun s => M.slices_stableCmpFunc_int64__a2 x36 s)
def M.slices_stableCmpFunc_int64__l1 (a1 : Int) (a2 : Int → Int → Option Int) (s_l1 : (List Int) × Int × Int) : Option (Stp ((Unit) × (List Int)) ((List Int) × Int × Int)) :=
  ifB (decide (s_l1.2.2 ≤ a1)) (bnd (M.slices_insertionSortCmpFunc_int64_ s_l1.1 s_l1.2.1 s_l1.2.2 a2) fun x160 => some (.cont (x160.2, s_l1.2.2, w64 (s_l1.2.2 + 20)))) (some (.brk (s_l1.1, s_l1.2.1, s_l1.2.2)))
def M.slices_stableCmpFunc_int64_ (a0 : List Int) (a1 : Int) (a2 : Int → Int → Option Int) : Option ((Unit) × (List Int)) :=
  bnd (loopF (M.slices_stableCmpFunc_int64__l1 a1 a2) (a0, 0, 20)) fun o => outc o (fun x => some x) (fun s => M.slices_stableCmpFunc_int64__a1 a1 a2 s)
def M.slices_SortStableFunc___int64_int64_ (a0 : List Int) (a1 : Int → Int → Option Int) : Option ((Unit) × (List Int)) :=
  bnd (M.slices_stableCmpFunc_int64_ a0 (a0.length : Int) a1) fun x8 => some ((), x8.2)
def M.impl_sortedIndices_a1 (a1 : Int → Int → Option Int) (s_l1 : (List Int) × Int) : Option (List Int) :=
  bnd (M.slices_SortStableFunc___int64_int64_ s_l1.1 (fun y0 y1 => M.impl_sortedIndices_1 y0 y1 a1)) fun x39 => some x39.2
def M.impl_sortedIndices_l1 (a0 : Int) (s_l1 : (List Int) × Int) : Option (Stp (List Int) ((List Int) × Int)) :=
  ifB (decide (s_l1.2 < a0)) (chk (s_l1.1.length + ([s_l1.2] : List Int).length < 1099511627776) (some (.cont (s_l1.1 ++ ([s_l1.2] : List Int), w64 (s_l1.2 + 1))))) (some (.brk (s_l1.1, s_l1.2)))
def M.impl_sortedIndices (a0 : Int) (a1 : Int → Int → Option Int) : Option (List Int) :=
  bnd (loopF (M.impl_sortedIndices_l1 a0) (([] : List Int), 0)) fun o => outc o (fun x => some x) (fun s => M.impl_sortedIndices_a1 a1 s)
def M.impl_FinishOrder (a0 : Int) (a1 : Race) : Option ((List Int) × Int) :=
  bnd (M.impl_IsRace a0 a1) fun x5 => ifB (!x5) (some ([], 1)) (bnd (M.impl_sortedIndices (a1.Finishes.length : Int) (fun y0 y1 => M.impl_FinishOrder_1 y0 y1 a1)) fun x11 => some (x11, 0))
def M.laws_FnExactFinishOrder_j3 (x106 : (Int) × (List Int)) (s_j3 : Bool) : Option Bool :=
  ifB s_j3 (some false) (bnd (M.laws_heldInt64S x106.2 1) fun x145 => ifB (decide (x145 < 0)) (some false) (ifB (x145 != x106.1) (some false) (some true)))
def M.laws_FnExactFinishOrder_j2 (a0 : Int) (a1 : Race) (x18 : (List Int) × Int) (x35 : (List Int) × Int) (s_j2 : Bool) : Option Bool :=
  ifB s_j2 (some false) (bnd (M.laws_markInt64S x35.1 1) fun x106 => bnd (M.laws_heldInt64S x106.2 1) fun x112 => ifB (decide (x112 < 0)) (some false) (ifB (x112 != x106.1) (some false) (bnd (M.laws_toRace a1) fun x119 => bnd (M.impl_FinishOrder a0 x119) fun x126 => bnd (M.laws_eqInt64S x126.1 x18.1) fun x152 => ifB (!x152) (M.laws_FnExactFinishOrder_j3 x106 true) (M.laws_FnExactFinishOrder_j3 x106 (x126.2 != x18.2)))))
def M.laws_FnExactFinishOrder_j1 (a0 : Int) (a1 : Race) (x18 : (List Int) × Int) (x25 : Race) (x35 : (List Int) × Int) (s_j1 : Bool) : Option Bool :=
  ifB s_j1 (some false) (bnd (M.laws_toRace a1) fun x71 => bnd (M.laws_eqRace x25 x71) fun x78 => ifB (!x78) (some false) (bnd (M.laws_markRace (Race.mk x25.Finishes) 1) fun x84 => ifB (decide (x84.1 < 0)) (M.laws_FnExactFinishOrder_j2 a0 a1 x18 x35 true) (bnd (M.laws_eqInt64S x35.1 x18.1) fun x159 => ifB (!x159) (M.laws_FnExactFinishOrder_j2 a0 a1 x18 x35 true) (M.laws_FnExactFinishOrder_j2 a0 a1 x18 x35 (x35.2 != x18.2)))))
def M.laws_FnExactFinishOrder (a0 : Int) (a1 : Race) : Option Bool :=
  bnd (M.laws_szRace a1 1048576) fun x5 => ifB (decide (x5 < 0)) (some true) (bnd (M.laws_toRace a1) fun x11 => bnd (M.spec_FinishOrder a0 x11) fun x18 => bnd (M.laws_toRace a1) fun x25 => bnd (M.impl_FinishOrder a0 x25) fun x35 => bnd (M.laws_eqInt64S x35.1 x18.1) fun x165 => ifB (!x165) (M.laws_FnExactFinishOrder_j1 a0 a1 x18 x25 x35 true) (M.laws_FnExactFinishOrder_j1 a0 a1 x18 x25 x35 (x35.2 != x18.2)))
def M.spec_DrawFinishOrder (a0 : List UInt8) : Option (Int × Race) :=
  bnd (M.spec_DrawIsRace a0) fun x5 => some (x5.1, x5.2)
def M.laws_FnFinishOrder_a2 (s_l2 : Int) : Option Bool :=
  some true
def M.laws_FnFinishOrder_j3 (s_l2 : Int) (s_j3 : Bool) : Option (Stp Bool Int) :=
  ifB s_j3 (some (.ret false)) (some (.cont (w64 (s_l2 + 1))))
def M.laws_FnFinishOrder_l2 (x19 : (List Int) × Int) (x34 : (List Int) × Int) (x63 : (List Int) × Int) (s_l2 : Int) : Option (Stp Bool Int) :=
  ifB (decide (s_l2 < (x19.1.length : Int))) (bnd (idx x34.1 (w64 (s_l2 - 1))) fun x216 => bnd (idx x63.1 x216) fun x223 => bnd (idx x34.1 s_l2) fun x230 => bnd (idx x63.1 x230) fun x237 => ifB (x223 == 0) (ifB (decide (0 < x237)) (M.laws_FnFinishOrder_j3 s_l2 true) (ifB (decide (0 < x223)) (M.laws_FnFinishOrder_j3 s_l2 false) (M.laws_FnFinishOrder_j3 s_l2 false))) (ifB (decide (0 < x223)) (ifB (decide (0 < x237)) (M.laws_FnFinishOrder_j3 s_l2 (decide (x237 < x223))) (M.laws_FnFinishOrder_j3 s_l2 false)) (M.laws_FnFinishOrder_j3 s_l2 false))) (some (.brk s_l2))
def M.laws_FnFinishOrder_a1 (x19 : (List Int) × Int) (x34 : (List Int) × Int) (x63 : (List Int) × Int) (s_l1 : Int) : Option Bool :=
  bnd (loopF (M.laws_FnFinishOrder_l2 x19 x34 x63) 1) fun o => outc o (fun x => some x) (fun s => M.laws_FnFinishOrder_a2 s)
def M.laws_FnFinishOrder_l1 (x19 : (List Int) × Int) (x26 : Int × Race) (s_l1 : Int) : Option (Stp Bool Int) :=
  ifB (decide (s_l1 < x26.1)) (bnd (M.laws_hasInt x19.1 s_l1) fun x270 => ifB (!x270) (some (.ret false)) (some (.cont (w64 (s_l1 + 1))))) (some (.brk s_l1))
def M.laws_FnFinishOrder_j2 (x19 : (List Int) × Int) (x26 : Int × Race) (x34 : (List Int) × Int) (x63 : (List Int) × Int) (s_j2 : Bool) : Option Bool :=
  ifB s_j2 (some false) (bnd (loopF (M.laws_FnFinishOrder_l1 x19 x26) 0) fun o => outc o (fun x => some x) (fun s => M.laws_FnFinishOrder_a1 x19 x34 x63 s))
def M.laws_FnFinishOrder_j1 (x19 : (List Int) × Int) (x26 : Int × Race) (x34 : (List Int) × Int) (s_j1 : Bool) : Option Bool :=
  ifB s_j1 (some false) (ifB (x19.2 != 0) (some true) (bnd (M.impl_PlacesOf x26.1 x26.2) fun x63 => ifB (x63.2 != 0) (M.laws_FnFinishOrder_j2 x19 x26 x34 x63 true) (ifB ((x63.1.length : Int) != x26.1) (M.laws_FnFinishOrder_j2 x19 x26 x34 x63 true) (M.laws_FnFinishOrder_j2 x19 x26 x34 x63 ((x19.1.length : Int) != x26.1)))))
def M.laws_FnFinishOrder (a0 : List UInt8) : Option Bool :=
  bnd (M.laws_big a0) fun x3 => ifB x3 (some true) (bnd (M.spec_DrawFinishOrder a0) fun x9 => bnd (M.impl_FinishOrder x9.1 x9.2) fun x19 => bnd (M.spec_DrawFinishOrder a0) fun x26 => bnd (M.spec_FinishOrder x26.1 x26.2) fun x34 => ifB (x19.2 != x34.2) (M.laws_FnFinishOrder_j1 x19 x26 x34 true) (bnd (M.laws_likeInts x19.1 x34.1) fun x279 => ifB (!x279) (M.laws_FnFinishOrder_j1 x19 x26 x34 true) (bnd (M.impl_IsRace x26.1 x26.2) fun x285 => M.laws_FnFinishOrder_j1 x19 x26 x34 (x285 != (x19.2 == 0)))))
def M.laws_markSeries (a0 : Series) (a1 : Int) : Option ((Int) × Series) :=
  bnd (M.laws_markRaceS a0.Races a1) fun x7 => some (x7.1, (Series.mk a0.Boats a0.Scheme x7.2))
def M.laws_markTable (a0 : Table) (a1 : Int) : Option ((Int) × Table) :=
  bnd (M.laws_markInt64SS a0.Points a1) fun x10 => bnd (M.laws_markInt64SS a0.Codes x10.1) fun x16 => some (x16.1, (Table.mk a0.Boats x10.2 x16.2))
def M.laws_FnExactTableOf_j3 (x40 : Table × Int) (x114 : (Int) × Table) (s_j3 : Bool) : Option Bool :=
  ifB s_j3 (some false) (bnd (M.laws_heldTable (Table.mk x40.1.Boats x114.2.Points x114.2.Codes) 1) fun x159 => ifB (decide (x159 < 0)) (some false) (ifB (x159 != x114.1) (some false) (some true)))
def M.laws_FnExactTableOf_j2 (a0 : Series) (x18 : Table × Int) (x40 : Table × Int) (s_j2 : Bool) : Option Bool :=
  ifB s_j2 (some false) (bnd (M.laws_markTable (Table.mk x40.1.Boats x40.1.Points x40.1.Codes) 1) fun x114 => bnd (M.laws_heldTable (Table.mk x40.1.Boats x114.2.Points x114.2.Codes) 1) fun x121 => ifB (decide (x121 < 0)) (some false) (ifB (x121 != x114.1) (some false) (bnd (M.laws_toSeries a0) fun x128 => bnd (M.impl_TableOf x128) fun x135 => bnd (M.laws_eqTable x135.1 x18.1) fun x166 => ifB (!x166) (M.laws_FnExactTableOf_j3 x40 x114 true) (M.laws_FnExactTableOf_j3 x40 x114 (x135.2 != x18.2)))))
def M.laws_FnExactTableOf_j1 (a0 : Series) (x18 : Table × Int) (x30 : Series) (x40 : Table × Int) (s_j1 : Bool) : Option Bool :=
  ifB s_j1 (some false) (bnd (M.laws_toSeries a0) fun x80 => bnd (M.laws_eqSeries x30 x80) fun x87 => ifB (!x87) (some false) (bnd (M.laws_markSeries (Series.mk x30.Boats x30.Scheme x30.Races) 1) fun x93 => ifB (decide (x93.1 < 0)) (M.laws_FnExactTableOf_j2 a0 x18 x40 true) (bnd (M.laws_eqTable x40.1 x18.1) fun x173 => ifB (!x173) (M.laws_FnExactTableOf_j2 a0 x18 x40 true) (M.laws_FnExactTableOf_j2 a0 x18 x40 (x40.2 != x18.2)))))
def M.laws_FnExactTableOf (a0 : Series) : Option Bool :=
  bnd (M.laws_szSeries a0 1048576) fun x5 => ifB (decide (x5 < 0)) (some true) (bnd (M.laws_toSeries a0) fun x11 => bnd (M.spec_TableOf x11) fun x18 => bnd (M.laws_toSeries a0) fun x30 => bnd (M.impl_TableOf x30) fun x40 => bnd (M.laws_eqTable x40.1 x18.1) fun x179 => ifB (!x179) (M.laws_FnExactTableOf_j1 a0 x18 x30 x40 true) (M.laws_FnExactTableOf_j1 a0 x18 x30 x40 (x40.2 != x18.2)))
def M.impl_penalizedSeries_a3 (a0 : Series) (s_l3 : (List Race) × Int) : Option Series :=
  some (Series.mk a0.Boats a0.Scheme s_l3.1)
def M.impl_penalizedSeries_j1 (s_l3 : (List Race) × Int) (s_j1 : (List Race)) : Option (Stp Series ((List Race) × Int)) :=
  some (.cont (s_j1, w64 (s_l3.2 + 1)))
def M.impl_penalizedSeries_j2 (s_l3 : (List Race) × Int) (s_j2 : (List Race)) : Option (Stp Series ((List Race) × Int)) :=
  M.impl_penalizedSeries_j1 s_l3 s_j2
def M.impl_penalizedSeries_l3 (a1 : List Penalty) (s_l3 : (List Race) × Int) : Option (Stp Series ((List Race) × Int)) :=
  ifB (decide (s_l3.2 < (a1.length : Int))) (bnd (idx a1 s_l3.2) fun x1186 => ifB (x1186.Kind == 1) (bnd (idx s_l3.1 x1186.Race) fun x1199 => bnd (idx x1199.Finishes x1186.Boat) fun x1210 => M.impl_penalizedSeries_j2 s_l3 (s_l3.1.set (x1186.Race : Int).toNat (Race.mk (x1199.Finishes.set (x1186.Boat : Int).toNat (Finish.mk x1186.Boat x1186.Value 0))))) (M.impl_penalizedSeries_j2 s_l3 s_l3.1)) (some (.brk (s_l3.1, s_l3.2)))
def M.impl_penalizedSeries_a2 (a0 : Series) (a1 : List Penalty) (s_l2 : (List Race) × Int) : Option Series :=
  bnd (loopF (M.impl_penalizedSeries_l3 a1) (s_l2.1, 0)) fun o => outc o (fun x => some x) (fun s => M.impl_penalizedSeries_a3 a0 s)
def M.impl_penalizedSeries_j3 (s_l2 : (List Race) × Int) (s_j3 : (List Race)) : Option (Stp Series ((List Race) × Int)) :=
  some (.cont (s_j3, w64 (s_l2.2 + 1)))
def M.impl_penalizedSeries_j4 (s_l2 : (List Race) × Int) (s_j4 : (List Race)) : Option (Stp Series ((List Race) × Int)) :=
  M.impl_penalizedSeries_j3 s_l2 s_j4
def M.impl_penalizedSeries_j5 (s_l2 : (List Race) × Int) (x1429 : Penalty) (x1441 : Race) (x1452 : Finish) (s_j5 : Bool) : Option (Stp Series ((List Race) × Int)) :=
  ifB s_j5 (M.impl_penalizedSeries_j4 s_l2 (s_l2.1.set (x1429.Race : Int).toNat (Race.mk (x1441.Finishes.set (x1429.Boat : Int).toNat (Finish.mk x1452.Boat x1452.Code (min 1000000000 (w64 (x1452.Time + x1429.Value)))))))) (M.impl_penalizedSeries_j4 s_l2 s_l2.1)
def M.impl_penalizedSeries_l2 (a1 : List Penalty) (s_l2 : (List Race) × Int) : Option (Stp Series ((List Race) × Int)) :=
  ifB (decide (s_l2.2 < (a1.length : Int))) (bnd (idx a1 s_l2.2) fun x1429 => bnd (idx s_l2.1 x1429.Race) fun x1441 => bnd (idx x1441.Finishes x1429.Boat) fun x1452 => ifB (x1429.Kind == 2) (M.impl_penalizedSeries_j5 s_l2 x1429 x1441 x1452 (x1452.Code == 0)) (M.impl_penalizedSeries_j5 s_l2 x1429 x1441 x1452 false)) (some (.brk (s_l2.1, s_l2.2)))
def M.impl_penalizedSeries_a1 (a0 : Series) (a1 : List Penalty) (s_l1 : (List Race) × Int) : Option Series :=
  bnd (loopF (M.impl_penalizedSeries_l2 a1) (s_l1.1, 0)) fun o => outc o (fun x => some x) (fun s => M.impl_penalizedSeries_a2 a0 a1 s)
def M.impl_penalizedSeries_l1 (a0 : Series) (s_l1 : (List Race) × Int) : Option (Stp Series ((List Race) × Int)) :=
  ifB (decide (s_l1.2 < (a0.Races.length : Int))) (bnd (idx a0.Races s_l1.2) fun x1493 => chk (([] : List Finish).length + x1493.Finishes.length < 1099511627776) (chk (s_l1.1.length + ([(Race.mk (([] : List Finish) ++ x1493.Finishes))] : List Race).length < 1099511627776) (some (.cont (s_l1.1 ++ ([(Race.mk (([] : List Finish) ++ x1493.Finishes))] : List Race), w64 (s_l1.2 + 1)))))) (some (.brk (s_l1.1, s_l1.2)))
def M.impl_penalizedSeries (a0 : Series) (a1 : List Penalty) : Option Series :=
  bnd (loopF (M.impl_penalizedSeries_l1 a0) ([], 0)) fun o => outc o (fun x => some x) (fun s => M.impl_penalizedSeries_a1 a0 a1 s)
def M.impl_PenalizedSeries (a0 : Series) (a1 : List Penalty) : Option (Series × Int) :=
  bnd (M.impl_penaltyCode a0 a1) fun x9 => ifB (x9 != 0) (some ((Series.mk 0 0 []), x9)) (bnd (M.impl_penalizedSeries a0 a1) fun x16 => some (x16, 0))
def M.spec_l21Series_a3 (a0 : Series) (s_l3 : (List Race) × Int) : Option Series :=
  some (Series.mk a0.Boats a0.Scheme s_l3.1)
def M.spec_l21Series_j1 (s_l3 : (List Race) × Int) (s_j1 : (List Race)) : Option (Stp Series ((List Race) × Int)) :=
  some (.cont (s_j1, w64 (s_l3.2 + 1)))
def M.spec_l21Series_j2 (s_l3 : (List Race) × Int) (s_j2 : (List Race)) : Option (Stp Series ((List Race) × Int)) :=
  M.spec_l21Series_j1 s_l3 s_j2
def M.spec_l21Series_l3 (a1 : List Penalty) (s_l3 : (List Race) × Int) : Option (Stp Series ((List Race) × Int)) :=
  ifB (decide (s_l3.2 < (a1.length : Int))) (bnd (idx a1 s_l3.2) fun x1780 => ifB (x1780.Kind == 1) (bnd (idx s_l3.1 x1780.Race) fun x1793 => bnd (idx x1793.Finishes x1780.Boat) fun x1804 => M.spec_l21Series_j2 s_l3 (s_l3.1.set (x1780.Race : Int).toNat (Race.mk (x1793.Finishes.set (x1780.Boat : Int).toNat (Finish.mk x1780.Boat x1780.Value 0))))) (M.spec_l21Series_j2 s_l3 s_l3.1)) (some (.brk (s_l3.1, s_l3.2)))
def M.spec_l21Series_a2 (a0 : Series) (a1 : List Penalty) (s_l2 : (List Race) × Int) : Option Series :=
  bnd (loopF (M.spec_l21Series_l3 a1) (s_l2.1, 0)) fun o => outc o (fun x => some x) (fun s => M.spec_l21Series_a3 a0 s)
def M.spec_l21Series_j3 (s_l2 : (List Race) × Int) (s_j3 : (List Race)) : Option (Stp Series ((List Race) × Int)) :=
  some (.cont (s_j3, w64 (s_l2.2 + 1)))
def M.spec_l21Series_j4 (s_l2 : (List Race) × Int) (s_j4 : (List Race)) : Option (Stp Series ((List Race) × Int)) :=
  M.spec_l21Series_j3 s_l2 s_j4
def M.spec_l21Series_j5 (s_l2 : (List Race) × Int) (x2259 : Penalty) (x2303 : Finish) (s_j5 : Bool) : Option (Stp Series ((List Race) × Int)) :=
  ifB s_j5 (bnd (idx s_l2.1 x2259.Race) fun x2360 => bnd (idx x2360.Finishes x2259.Boat) fun x2371 => M.spec_l21Series_j4 s_l2 (s_l2.1.set (x2259.Race : Int).toNat (Race.mk (x2360.Finishes.set (x2259.Boat : Int).toNat (Finish.mk x2371.Boat x2371.Code (min 1000000000 (w64 (x2303.Time + x2259.Value)))))))) (M.spec_l21Series_j4 s_l2 s_l2.1)
def M.spec_l21Series_l2 (a1 : List Penalty) (s_l2 : (List Race) × Int) : Option (Stp Series ((List Race) × Int)) :=
  ifB (decide (s_l2.2 < (a1.length : Int))) (bnd (idx a1 s_l2.2) fun x2259 => bnd (idx s_l2.1 x2259.Race) fun x2292 => bnd (idx x2292.Finishes x2259.Boat) fun x2303 => ifB (x2259.Kind == 2) (bnd (M.spec_l26Done x2303) fun x2389 => M.spec_l21Series_j5 s_l2 x2259 x2303 x2389) (M.spec_l21Series_j5 s_l2 x2259 x2303 false)) (some (.brk (s_l2.1, s_l2.2)))
def M.spec_l21Series_a1 (a0 : Series) (a1 : List Penalty) (s_l1 : (List Race) × Int) : Option Series :=
  bnd (loopF (M.spec_l21Series_l2 a1) (s_l1.1, 0)) fun o => outc o (fun x => some x) (fun s => M.spec_l21Series_a2 a0 a1 s)
def M.spec_l21Series_l1 (a0 : Series) (s_l1 : (List Race) × Int) : Option (Stp Series ((List Race) × Int)) :=
  ifB (decide (s_l1.2 < (a0.Races.length : Int))) (bnd (idx a0.Races s_l1.2) fun x2405 => chk (([] : List Finish).length + x2405.Finishes.length < 1099511627776) (chk (s_l1.1.length + ([(Race.mk (([] : List Finish) ++ x2405.Finishes))] : List Race).length < 1099511627776) (some (.cont (s_l1.1 ++ ([(Race.mk (([] : List Finish) ++ x2405.Finishes))] : List Race), w64 (s_l1.2 + 1)))))) (some (.brk (s_l1.1, s_l1.2)))
def M.spec_l21Series (a0 : Series) (a1 : List Penalty) : Option Series :=
  bnd (loopF (M.spec_l21Series_l1 a0) (([] : List Race), 0)) fun o => outc o (fun x => some x) (fun s => M.spec_l21Series_a1 a0 a1 s)
def M.spec_PenalizedSeries (a0 : Series) (a1 : List Penalty) : Option (Series × Int) :=
  bnd (M.spec_l21Result a0 a1) fun x9 => ifB (x9 != 0) (some ((Series.mk 0 0 []), x9)) (bnd (M.spec_l21Series a0 a1) fun x16 => some (x16, 0))
def M.laws_w6Races_a1 (s_l1 : Int) : Option Bool :=
  some true
def M.laws_w6Races_l1 (a0 : Race) (a1 : Race) (s_l1 : Int) : Option (Stp Bool Int) :=
  ifB (decide (s_l1 < (a0.Finishes.length : Int))) (bnd (idx a0.Finishes s_l1) fun x59 => bnd (idx a1.Finishes s_l1) fun x66 => ifB (!(eqL [x59.Boat, x59.Code, x59.Time] [x66.Boat, x66.Code, x66.Time])) (some (.ret false)) (some (.cont (w64 (s_l1 + 1))))) (some (.brk s_l1))
def M.laws_w6Races (a0 : Race) (a1 : Race) : Option Bool :=
  ifB ((a0.Finishes.length : Int) != (a1.Finishes.length : Int)) (some false) (bnd (loopF (M.laws_w6Races_l1 a0 a1) 0) fun o => outc o (fun x => some x) (fun s => M.laws_w6Races_a1 s))
def M.laws_w6Series_a1 (s_l1 : Int) : Option Bool :=
  some true
def M.laws_w6Series_l1 (a0 : Series) (a1 : Series) (s_l1 : Int) : Option (Stp Bool Int) :=
  ifB (decide (s_l1 < (a0.Races.length : Int))) (bnd (idx a0.Races s_l1) fun x86 => bnd (idx a1.Races s_l1) fun x97 => bnd (M.laws_w6Races x86 x97) fun x108 => ifB (!x108) (some (.ret false)) (some (.cont (w64 (s_l1 + 1))))) (some (.brk s_l1))
def M.laws_w6Series_j1 (a0 : Series) (a1 : Series) (s_j1 : Bool) : Option Bool :=
  ifB s_j1 (some false) (bnd (loopF (M.laws_w6Series_l1 a0 a1) 0) fun o => outc o (fun x => some x) (fun s => M.laws_w6Series_a1 s))
def M.laws_w6Series (a0 : Series) (a1 : Series) : Option Bool :=
  ifB (a0.Boats != a1.Boats) (M.laws_w6Series_j1 a0 a1 true) (ifB (a0.Scheme != a1.Scheme) (M.laws_w6Series_j1 a0 a1 true) (M.laws_w6Series_j1 a0 a1 ((a0.Races.length : Int) != (a1.Races.length : Int))))
def M.laws_FnPenalties_a1 (x41 : Series × Int) (s_l1 : Int) : Option Bool :=
  bnd (M.impl_IsSeries x41.1) fun x2562 => some x2562
def M.laws_FnPenalties_a2 (s_l1 : Int) (s_l2 : Int) : Option (Stp Bool Int) :=
  some (.cont (w64 (s_l1 + 1)))
def M.laws_FnPenalties_j2 (s_l2 : Int) (s_j2 : Bool) : Option (Stp Bool Int) :=
  ifB s_j2 (some (.ret false)) (some (.cont (w64 (s_l2 + 1))))
def M.laws_FnPenalties_a3 (x31 : Series × (List Penalty)) (x41 : Series × Int) (s_l1 : Int) (s_l2 : Int) (s_l3 : Bool × Int) : Option (Stp Bool Int) :=
  ifB (!s_l3.1) (bnd (idx x41.1.Races s_l1) fun x3674 => bnd (idx x3674.Finishes s_l2) fun x3685 => bnd (idx x31.1.Races s_l1) fun x3692 => bnd (idx x3692.Finishes s_l2) fun x3703 => M.laws_FnPenalties_j2 s_l2 (!(eqL [x3685.Boat, x3685.Code, x3685.Time] [x3703.Boat, x3703.Code, x3703.Time]))) (M.laws_FnPenalties_j2 s_l2 false)
def M.laws_FnPenalties_j3 (s_l3 : Bool × Int) (s_j3 : Bool) : Option (Stp Bool (Bool × Int)) :=
  some (.cont (s_j3, w64 (s_l3.2 + 1)))
def M.laws_FnPenalties_j4 (s_l3 : Bool × Int) (s_j4 : Bool) : Option (Stp Bool (Bool × Int)) :=
  M.laws_FnPenalties_j3 s_l3 s_j4
def M.laws_FnPenalties_l3 (x31 : Series × (List Penalty)) (s_l1 : Int) (s_l2 : Int) (s_l3 : Bool × Int) : Option (Stp Bool (Bool × Int)) :=
  ifB (decide (s_l3.2 < (x31.2.length : Int))) (ifB s_l3.1 (M.laws_FnPenalties_j4 s_l3 true) (bnd (idx x31.2 s_l3.2) fun x3798 => ifB (x3798.Race == s_l1) (bnd (idx x31.2 s_l3.2) fun x3806 => M.laws_FnPenalties_j4 s_l3 (x3806.Boat == s_l2)) (M.laws_FnPenalties_j4 s_l3 false))) (some (.brk (s_l3.1, s_l3.2)))
def M.laws_FnPenalties_l2 (x31 : Series × (List Penalty)) (x41 : Series × Int) (s_l1 : Int) (s_l2 : Int) : Option (Stp Bool Int) :=
  bnd (idx x31.1.Races s_l1) fun x3408 => ifB (decide (s_l2 < (x3408.Finishes.length : Int))) (bnd (loopF (M.laws_FnPenalties_l3 x31 s_l1 s_l2) (false, 0)) fun o => outc o (fun x => some (.ret x)) (fun s => M.laws_FnPenalties_a3 x31 x41 s_l1 s_l2 s)) (some (.brk s_l2))
def M.laws_FnPenalties_l1 (x31 : Series × (List Penalty)) (x41 : Series × Int) (s_l1 : Int) : Option (Stp Bool Int) :=
  ifB (decide (s_l1 < (x31.1.Races.length : Int))) (bnd (loopF (M.laws_FnPenalties_l2 x31 x41 s_l1) 0) fun o => outc o (fun x => some (.ret x)) (fun s => M.laws_FnPenalties_a2 s_l1 s)) (some (.brk s_l1))
def M.laws_FnPenalties_j1 (x21 : Series × Int) (x31 : Series × (List Penalty)) (x41 : Series × Int) (s_j1 : Bool) : Option Bool :=
  ifB s_j1 (some false) (ifB (x21.2 != 0) (some true) (bnd (loopF (M.laws_FnPenalties_l1 x31 x41) 0) fun o => outc o (fun x => some x) (fun s => M.laws_FnPenalties_a1 x41 s)))
def M.laws_FnPenalties (a0 : List UInt8) : Option Bool :=
  bnd (M.laws_big a0) fun x3 => ifB x3 (some true) (bnd (M.spec_DrawPenalizedSeries a0) fun x9 => bnd (M.impl_PenalizedSeries x9.1 x9.2) fun x21 => bnd (M.spec_DrawPenalizedSeries a0) fun x31 => bnd (M.spec_PenalizedSeries x31.1 x31.2) fun x41 => ifB (x21.2 != x41.2) (M.laws_FnPenalties_j1 x21 x31 x41 true) (bnd (M.laws_w6Series x21.1 x41.1) fun x3814 => ifB (!x3814) (M.laws_FnPenalties_j1 x21 x31 x41 true) (bnd (M.impl_IsPenalties x31.1 x31.2) fun x3820 => M.laws_FnPenalties_j1 x21 x31 x41 (x3820 != (x21.2 == 0)))))
def M.laws_FnExactPenalizedSeries_j3 (x60 : Series × Int) (x154 : (Int) × Series) (s_j3 : Bool) : Option Bool :=
  ifB s_j3 (some false) (bnd (M.laws_heldSeries (Series.mk x60.1.Boats x60.1.Scheme x154.2.Races) 1) fun x203 => ifB (decide (x203 < 0)) (some false) (ifB (x203 != x154.1) (some false) (some true)))
def M.laws_FnExactPenalizedSeries_j2 (a0 : Series) (a1 : List Penalty) (x33 : Series × Int) (x60 : Series × Int) (s_j2 : Bool) : Option Bool :=
  ifB s_j2 (some false) (bnd (M.laws_markSeries (Series.mk x60.1.Boats x60.1.Scheme x60.1.Races) 1) fun x154 => bnd (M.laws_heldSeries (Series.mk x60.1.Boats x60.1.Scheme x154.2.Races) 1) fun x160 => ifB (decide (x160 < 0)) (some false) (ifB (x160 != x154.1) (some false) (bnd (M.laws_toSeries a0) fun x167 => bnd (M.laws_toPenaltyS a1) fun x174 => bnd (M.impl_PenalizedSeries x167 x174) fun x181 => bnd (M.laws_eqSeries x181.1 x33.1) fun x210 => ifB (!x210) (M.laws_FnExactPenalizedSeries_j3 x60 x154 true) (M.laws_FnExactPenalizedSeries_j3 x60 x154 (x181.2 != x33.2)))))
def M.laws_FnExactPenalizedSeries_j1 (a0 : Series) (a1 : List Penalty) (x33 : Series × Int) (x43 : Series) (x53 : (List Penalty)) (x60 : Series × Int) (s_j1 : Bool) : Option Bool :=
  ifB s_j1 (some false) (bnd (M.laws_toSeries a0) fun x100 => bnd (M.laws_eqSeries x43 x100) fun x107 => ifB (!x107) (some false) (bnd (M.laws_toPenaltyS a1) fun x113 => bnd (M.laws_eqPenaltyS x53 x113) fun x120 => ifB (!x120) (some false) (bnd (M.laws_markSeries (Series.mk x43.Boats x43.Scheme x43.Races) 1) fun x126 => bnd (M.laws_markPenaltyS x53 x126.1) fun x132 => ifB (decide (x132.1 < 0)) (M.laws_FnExactPenalizedSeries_j2 a0 a1 x33 x60 true) (bnd (M.laws_eqSeries x60.1 x33.1) fun x217 => ifB (!x217) (M.laws_FnExactPenalizedSeries_j2 a0 a1 x33 x60 true) (M.laws_FnExactPenalizedSeries_j2 a0 a1 x33 x60 (x60.2 != x33.2))))))
def M.laws_FnExactPenalizedSeries (a0 : Series) (a1 : List Penalty) : Option Bool :=
  bnd (M.laws_szSeries a0 1048576) fun x7 => ifB (decide (x7 < 0)) (some true) (bnd (M.laws_szPenaltyS a1 x7) fun x13 => ifB (decide (x13 < 0)) (some true) (bnd (M.laws_toSeries a0) fun x19 => bnd (M.laws_toPenaltyS a1) fun x26 => bnd (M.spec_PenalizedSeries x19 x26) fun x33 => bnd (M.laws_toSeries a0) fun x43 => bnd (M.laws_toPenaltyS a1) fun x53 => bnd (M.impl_PenalizedSeries x43 x53) fun x60 => bnd (M.laws_eqSeries x60.1 x33.1) fun x223 => ifB (!x223) (M.laws_FnExactPenalizedSeries_j1 a0 a1 x33 x43 x53 x60 true) (M.laws_FnExactPenalizedSeries_j1 a0 a1 x33 x43 x53 x60 (x60.2 != x33.2))))
def M.impl_penalizedTable_a1 (x19 : Table) (s_l1 : (List (List Int)) × Int) : Option Table :=
  some (Table.mk x19.Boats s_l1.1 x19.Codes)
def M.impl_penalizedTable_a2 (s_l1 : (List (List Int)) × Int) (s_l2 : (List (List Int)) × Int) : Option (Stp Table ((List (List Int)) × Int)) :=
  some (.cont (s_l2.1, w64 (s_l1.2 + 1)))
def M.impl_penalizedTable_j1 (s_l1 : (List (List Int)) × Int) (s_l2 : (List (List Int)) × Int) (s_j1 : (List (List Int))) : Option (Stp Table ((List (List Int)) × Int)) :=
  bnd (idx s_j1 s_l1.2) fun x27447 => some (.cont (s_j1, w64 (s_l2.2 + 1)))
def M.impl_penalizedTable_j2 (s_l1 : (List (List Int)) × Int) (s_l2 : (List (List Int)) × Int) (s_j2 : (List (List Int))) : Option (Stp Table ((List (List Int)) × Int)) :=
  bnd (idx s_j2 s_l1.2) fun x28252 => M.impl_penalizedTable_j1 s_l1 s_l2 s_j2
def M.impl_penalizedTable_a3 (a0 : Series) (x9 : Series) (s_l1 : (List (List Int)) × Int) (s_l2 : (List (List Int)) × Int) (x25836 : List Int) (s_l3 : Int × Int) : Option (Stp Table ((List (List Int)) × Int)) :=
  bnd (idx x9.Races s_l1.2) fun x28755 => bnd (M.impl_codePoints x28755.Finishes 4 a0.Scheme) fun x28766 => bnd (idx x25836 s_l2.2) fun x28769 => bnd (idx x25836 s_l2.2) fun x28776 => bnd (idx x25836 s_l2.2) fun x28783 => M.impl_penalizedTable_j2 s_l1 s_l2 (s_l2.1.set (s_l1.2 : Int).toNat (x25836.set (s_l2.2 : Int).toNat (max x28769 (min x28766 (w64 (x28776 + s_l3.1))))))
def M.impl_penalizedTable_j3 (s_l3 : Int × Int) (s_j3 : Int) : Option (Stp Table (Int × Int)) :=
  some (.cont (s_j3, w64 (s_l3.2 + 1)))
def M.impl_penalizedTable_j4 (s_l3 : Int × Int) (s_j4 : Int) : Option (Stp Table (Int × Int)) :=
  M.impl_penalizedTable_j3 s_l3 s_j4
def M.impl_penalizedTable_j5 (a0 : Series) (s_l3 : Int × Int) (x29002 : Penalty) (s_j5 : Bool) : Option (Stp Table (Int × Int)) :=
  ifB s_j5 (bnd (M.impl_percentPoints a0.Boats x29002.Value) fun x29036 => M.impl_penalizedTable_j4 s_l3 (w64 (s_l3.1 + x29036))) (M.impl_penalizedTable_j4 s_l3 s_l3.1)
def M.impl_penalizedTable_l3 (a0 : Series) (a1 : List Penalty) (s_l1 : (List (List Int)) × Int) (s_l2 : (List (List Int)) × Int) (s_l3 : Int × Int) : Option (Stp Table (Int × Int)) :=
  ifB (decide (s_l3.2 < (a1.length : Int))) (bnd (idx a1 s_l3.2) fun x29002 => ifB (x29002.Kind == 3) (ifB (x29002.Race == s_l1.2) (M.impl_penalizedTable_j5 a0 s_l3 x29002 (x29002.Boat == s_l2.2)) (M.impl_penalizedTable_j5 a0 s_l3 x29002 false)) (M.impl_penalizedTable_j5 a0 s_l3 x29002 false)) (some (.brk (s_l3.1, s_l3.2)))
def M.impl_penalizedTable_l2 (a0 : Series) (a1 : List Penalty) (x9 : Series) (x19 : Table) (s_l1 : (List (List Int)) × Int) (x19385 : List Int) (s_l2 : (List (List Int)) × Int) : Option (Stp Table ((List (List Int)) × Int)) :=
  bnd (idx s_l2.1 s_l1.2) fun x25836 => ifB (decide (s_l2.2 < (x19385.length : Int))) (bnd (idx x19.Codes s_l1.2) fun x28264 => bnd (idx x28264 s_l2.2) fun x28275 => ifB (x28275 != 0) (M.impl_penalizedTable_j2 s_l1 s_l2 s_l2.1) (bnd (loopF (M.impl_penalizedTable_l3 a0 a1 s_l1 s_l2) (0, 0)) fun o => outc o (fun x => some (.ret x)) (fun s => M.impl_penalizedTable_a3 a0 x9 s_l1 s_l2 x25836 s))) (some (.brk (s_l2.1, s_l2.2)))
def M.impl_penalizedTable_l1 (a0 : Series) (a1 : List Penalty) (x9 : Series) (x19 : Table) (s_l1 : (List (List Int)) × Int) : Option (Stp Table ((List (List Int)) × Int)) :=
  ifB (decide (s_l1.2 < (x19.Points.length : Int))) (bnd (idx s_l1.1 s_l1.2) fun x19385 => bnd (loopF (M.impl_penalizedTable_l2 a0 a1 x9 x19 s_l1 x19385) (s_l1.1, 0)) fun o => outc o (fun x => some (.ret x)) (fun s => M.impl_penalizedTable_a2 s_l1 s)) (some (.brk (s_l1.1, s_l1.2)))
def M.impl_penalizedTable (a0 : Series) (a1 : List Penalty) : Option Table :=
  bnd (M.impl_penalizedSeries a0 a1) fun x9 => bnd (M.impl_tableOf x9) fun x19 => bnd (loopF (M.impl_penalizedTable_l1 a0 a1 x9 x19) (x19.Points, 0)) fun o => outc o (fun x => some x) (fun s => M.impl_penalizedTable_a1 x19 s)
def M.impl_PenalizedTable (a0 : Series) (a1 : List Penalty) : Option (Table × Int) :=
  bnd (M.impl_penaltyCode a0 a1) fun x9 => ifB (x9 != 0) (some ((Table.mk 0 [] []), x9)) (bnd (M.impl_penalizedTable a0 a1) fun x16 => some (x16, 0))
def M.spec_l21Table_a1 (x19 : Table × Int) (s_l1 : (List (List Int)) × Int) : Option Table :=
  some (Table.mk x19.1.Boats s_l1.1 x19.1.Codes)
def M.spec_l21Table_a2 (s_l1 : (List (List Int)) × Int) (s_l2 : (List (List Int)) × Int) : Option (Stp Table ((List (List Int)) × Int)) :=
  some (.cont (s_l2.1, w64 (s_l1.2 + 1)))
def M.spec_l21Table_j1 (s_l2 : (List (List Int)) × Int) (s_j1 : (List (List Int))) : Option (Stp Table ((List (List Int)) × Int)) :=
  some (.cont (s_j1, w64 (s_l2.2 + 1)))
def M.spec_l21Table_j2 (s_l2 : (List (List Int)) × Int) (s_j2 : (List (List Int))) : Option (Stp Table ((List (List Int)) × Int)) :=
  M.spec_l21Table_j1 s_l2 s_j2
def M.spec_l21Table_j3 (x9 : Series) (s_l1 : (List (List Int)) × Int) (s_l2 : (List (List Int)) × Int) (s_l3 : Int × Int) (s_j3 : Bool) : Option (Stp Table ((List (List Int)) × Int)) :=
  ifB s_j3 (bnd (idx s_l2.1 s_l1.2) fun x38987 => bnd (idx s_l2.1 s_l1.2) fun x38998 => bnd (idx x38998 s_l2.2) fun x39009 => bnd (idx s_l2.1 s_l1.2) fun x39016 => bnd (idx x39016 s_l2.2) fun x39027 => bnd (M.spec_l21Worst x9 s_l1.2 s_l2.2) fun x39034 => bnd (idx x38987 s_l2.2) fun x39036 => M.spec_l21Table_j2 s_l2 (s_l2.1.set (s_l1.2 : Int).toNat (x38987.set (s_l2.2 : Int).toNat (max x39009 (min (w64 (x39027 + s_l3.1)) x39034))))) (M.spec_l21Table_j2 s_l2 s_l2.1)
def M.spec_l21Table_a3 (x9 : Series) (x19 : Table × Int) (s_l1 : (List (List Int)) × Int) (s_l2 : (List (List Int)) × Int) (s_l3 : Int × Int) : Option (Stp Table ((List (List Int)) × Int)) :=
  ifB (decide (0 < s_l3.1)) (bnd (idx x19.1.Codes s_l1.2) fun x39057 => bnd (idx x39057 s_l2.2) fun x39068 => M.spec_l21Table_j3 x9 s_l1 s_l2 s_l3 (x39068 == 0)) (M.spec_l21Table_j3 x9 s_l1 s_l2 s_l3 false)
def M.spec_l21Table_j4 (s_l3 : Int × Int) (s_j4 : Int) : Option (Stp Table (Int × Int)) :=
  some (.cont (s_j4, w64 (s_l3.2 + 1)))
def M.spec_l21Table_j5 (s_l3 : Int × Int) (s_j5 : Int) : Option (Stp Table (Int × Int)) :=
  M.spec_l21Table_j4 s_l3 s_j5
def M.spec_l21Table_j6 (a0 : Series) (a1 : List Penalty) (s_l3 : Int × Int) (s_j6 : Bool) : Option (Stp Table (Int × Int)) :=
  ifB s_j6 (bnd (idx a1 s_l3.2) fun x39363 => bnd (M.spec_l21Percent a0.Boats x39363.Value) fun x39370 => M.spec_l21Table_j5 s_l3 (w64 (s_l3.1 + x39370))) (M.spec_l21Table_j5 s_l3 s_l3.1)
def M.spec_l21Table_l3 (a0 : Series) (a1 : List Penalty) (s_l1 : (List (List Int)) × Int) (s_l2 : (List (List Int)) × Int) (s_l3 : Int × Int) : Option (Stp Table (Int × Int)) :=
  ifB (decide (s_l3.2 < (a1.length : Int))) (bnd (idx a1 s_l3.2) fun x39373 => ifB (x39373.Kind == 3) (bnd (idx a1 s_l3.2) fun x39381 => ifB (x39381.Race == s_l1.2) (bnd (idx a1 s_l3.2) fun x39389 => M.spec_l21Table_j6 a0 a1 s_l3 (x39389.Boat == s_l2.2)) (M.spec_l21Table_j6 a0 a1 s_l3 false)) (M.spec_l21Table_j6 a0 a1 s_l3 false)) (some (.brk (s_l3.1, s_l3.2)))
def M.spec_l21Table_l2 (a0 : Series) (a1 : List Penalty) (x9 : Series) (x19 : Table × Int) (s_l1 : (List (List Int)) × Int) (s_l2 : (List (List Int)) × Int) : Option (Stp Table ((List (List Int)) × Int)) :=
  ifB (decide (s_l2.2 < x19.1.Boats)) (bnd (loopF (M.spec_l21Table_l3 a0 a1 s_l1 s_l2) (0, 0)) fun o => outc o (fun x => some (.ret x)) (fun s => M.spec_l21Table_a3 x9 x19 s_l1 s_l2 s)) (some (.brk (s_l2.1, s_l2.2)))
def M.spec_l21Table_l1 (a0 : Series) (a1 : List Penalty) (x9 : Series) (x19 : Table × Int) (s_l1 : (List (List Int)) × Int) : Option (Stp Table ((List (List Int)) × Int)) :=
  ifB (decide (s_l1.2 < (s_l1.1.length : Int))) (bnd (loopF (M.spec_l21Table_l2 a0 a1 x9 x19 s_l1) (s_l1.1, 0)) fun o => outc o (fun x => some (.ret x)) (fun s => M.spec_l21Table_a2 s_l1 s)) (some (.brk (s_l1.1, s_l1.2)))
def M.spec_l21Table (a0 : Series) (a1 : List Penalty) : Option Table :=
  bnd (M.spec_l21Series a0 a1) fun x9 => bnd (M.spec_TableOf x9) fun x19 => bnd (loopF (M.spec_l21Table_l1 a0 a1 x9 x19) (x19.1.Points, 0)) fun o => outc o (fun x => some x) (fun s => M.spec_l21Table_a1 x19 s)
def M.spec_PenalizedTable (a0 : Series) (a1 : List Penalty) : Option (Table × Int) :=
  bnd (M.spec_l21Result a0 a1) fun x9 => ifB (x9 != 0) (some ((Table.mk 0 [] []), x9)) (bnd (M.spec_l21Table a0 a1) fun x16 => some (x16, 0))
def M.laws_FnPenalizedTable_a2 (s_l2 : Int) : Option Bool :=
  some true
def M.laws_FnPenalizedTable_a3 (s_l2 : Int) (s_l3 : Int) : Option (Stp Bool Int) :=
  some (.cont (w64 (s_l2 + 1)))
def M.laws_FnPenalizedTable_l3 (x43 : Table × Int) (x320 : Table × Int) (s_l2 : Int) (s_l3 : Int) : Option (Stp Bool Int) :=
  bnd (idx x320.1.Points s_l2) fun x995 => ifB (decide (s_l3 < (x995.length : Int))) (bnd (idx x43.1.Points s_l2) fun x1025 => bnd (idx x1025 s_l3) fun x1036 => bnd (idx x320.1.Points s_l2) fun x1043 => bnd (idx x1043 s_l3) fun x1054 => ifB (decide (x1036 < x1054)) (some (.ret false)) (some (.cont (w64 (s_l3 + 1))))) (some (.brk s_l3))
def M.laws_FnPenalizedTable_l2 (x43 : Table × Int) (x320 : Table × Int) (s_l2 : Int) : Option (Stp Bool Int) :=
  ifB (decide (s_l2 < (x320.1.Points.length : Int))) (bnd (loopF (M.laws_FnPenalizedTable_l3 x43 x320 s_l2) 0) fun o => outc o (fun x => some (.ret x)) (fun s => M.laws_FnPenalizedTable_a3 s_l2 s)) (some (.brk s_l2))
def M.laws_FnPenalizedTable_j2 (x43 : Table × Int) (x320 : Table × Int) (s_j2 : Bool) : Option Bool :=
  ifB s_j2 (some false) (bnd (loopF (M.laws_FnPenalizedTable_l2 x43 x320) 0) fun o => outc o (fun x => some x) (fun s => M.laws_FnPenalizedTable_a2 s))
def M.laws_FnPenalizedTable_a1 (x33 : Series × (List Penalty)) (x43 : Table × Int) (s_l1 : (List Penalty) × Int) : Option Bool :=
  bnd (M.impl_PenalizedTable x33.1 s_l1.1) fun x320 => bnd (M.spec_PenalizedSeries x33.1 x33.2) fun x332 => bnd (M.impl_TableOf x332.1) fun x342 => ifB (x320.2 != 0) (M.laws_FnPenalizedTable_j2 x43 x320 true) (ifB (x332.2 != 0) (M.laws_FnPenalizedTable_j2 x43 x320 true) (ifB (x342.2 != 0) (M.laws_FnPenalizedTable_j2 x43 x320 true) (bnd (M.laws_w6Tables x320.1 x342.1) fun x1066 => M.laws_FnPenalizedTable_j2 x43 x320 (!x1066))))
def M.laws_FnPenalizedTable_j3 (s_l1 : (List Penalty) × Int) (s_j3 : (List Penalty)) : Option (Stp Bool ((List Penalty) × Int)) :=
  some (.cont (s_j3, w64 (s_l1.2 + 1)))
def M.laws_FnPenalizedTable_j4 (s_l1 : (List Penalty) × Int) (s_j4 : (List Penalty)) : Option (Stp Bool ((List Penalty) × Int)) :=
  M.laws_FnPenalizedTable_j3 s_l1 s_j4
def M.laws_FnPenalizedTable_l1 (x33 : Series × (List Penalty)) (s_l1 : (List Penalty) × Int) : Option (Stp Bool ((List Penalty) × Int)) :=
  ifB (decide (s_l1.2 < (x33.2.length : Int))) (bnd (idx x33.2 s_l1.2) fun x1172 => ifB (x1172.Kind != 3) (bnd (idx x33.2 s_l1.2) fun x1180 => chk (s_l1.1.length + ([x1180] : List Penalty).length < 1099511627776) (M.laws_FnPenalizedTable_j4 s_l1 (s_l1.1 ++ ([x1180] : List Penalty)))) (M.laws_FnPenalizedTable_j4 s_l1 s_l1.1)) (some (.brk (s_l1.1, s_l1.2)))
def M.laws_FnPenalizedTable_j1 (x21 : Table × Int) (x33 : Series × (List Penalty)) (x43 : Table × Int) (s_j1 : Bool) : Option Bool :=
  ifB s_j1 (some false) (ifB (x21.2 != 0) (some true) (bnd (loopF (M.laws_FnPenalizedTable_l1 x33) (([] : List Penalty), 0)) fun o => outc o (fun x => some x) (fun s => M.laws_FnPenalizedTable_a1 x33 x43 s)))
def M.laws_FnPenalizedTable (a0 : List UInt8) : Option Bool :=
  bnd (M.laws_big a0) fun x3 => ifB x3 (some true) (bnd (M.spec_DrawPenalizedTable a0) fun x9 => bnd (M.impl_PenalizedTable x9.1 x9.2) fun x21 => bnd (M.spec_DrawPenalizedTable a0) fun x33 => bnd (M.spec_PenalizedTable x33.1 x33.2) fun x43 => ifB (x21.2 != x43.2) (M.laws_FnPenalizedTable_j1 x21 x33 x43 true) (bnd (M.laws_w6Tables x21.1 x43.1) fun x1195 => M.laws_FnPenalizedTable_j1 x21 x33 x43 (!x1195)))
def M.laws_FnExactPenalizedTable_j3 (x62 : Table × Int) (x158 : (Int) × Table) (s_j3 : Bool) : Option Bool :=
  ifB s_j3 (some false) (bnd (M.laws_heldTable (Table.mk x62.1.Boats x158.2.Points x158.2.Codes) 1) fun x210 => ifB (decide (x210 < 0)) (some false) (ifB (x210 != x158.1) (some false) (some true)))
def M.laws_FnExactPenalizedTable_j2 (a0 : Series) (a1 : List Penalty) (x33 : Table × Int) (x62 : Table × Int) (s_j2 : Bool) : Option Bool :=
  ifB s_j2 (some false) (bnd (M.laws_markTable (Table.mk x62.1.Boats x62.1.Points x62.1.Codes) 1) fun x158 => bnd (M.laws_heldTable (Table.mk x62.1.Boats x158.2.Points x158.2.Codes) 1) fun x165 => ifB (decide (x165 < 0)) (some false) (ifB (x165 != x158.1) (some false) (bnd (M.laws_toSeries a0) fun x172 => bnd (M.laws_toPenaltyS a1) fun x179 => bnd (M.impl_PenalizedTable x172 x179) fun x186 => bnd (M.laws_eqTable x186.1 x33.1) fun x217 => ifB (!x217) (M.laws_FnExactPenalizedTable_j3 x62 x158 true) (M.laws_FnExactPenalizedTable_j3 x62 x158 (x186.2 != x33.2)))))
def M.laws_FnExactPenalizedTable_j1 (a0 : Series) (a1 : List Penalty) (x33 : Table × Int) (x45 : Series) (x55 : (List Penalty)) (x62 : Table × Int) (s_j1 : Bool) : Option Bool :=
  ifB s_j1 (some false) (bnd (M.laws_toSeries a0) fun x104 => bnd (M.laws_eqSeries x45 x104) fun x111 => ifB (!x111) (some false) (bnd (M.laws_toPenaltyS a1) fun x117 => bnd (M.laws_eqPenaltyS x55 x117) fun x124 => ifB (!x124) (some false) (bnd (M.laws_markSeries (Series.mk x45.Boats x45.Scheme x45.Races) 1) fun x130 => bnd (M.laws_markPenaltyS x55 x130.1) fun x136 => ifB (decide (x136.1 < 0)) (M.laws_FnExactPenalizedTable_j2 a0 a1 x33 x62 true) (bnd (M.laws_eqTable x62.1 x33.1) fun x224 => ifB (!x224) (M.laws_FnExactPenalizedTable_j2 a0 a1 x33 x62 true) (M.laws_FnExactPenalizedTable_j2 a0 a1 x33 x62 (x62.2 != x33.2))))))
def M.laws_FnExactPenalizedTable (a0 : Series) (a1 : List Penalty) : Option Bool :=
  bnd (M.laws_szSeries a0 1048576) fun x7 => ifB (decide (x7 < 0)) (some true) (bnd (M.laws_szPenaltyS a1 x7) fun x13 => ifB (decide (x13 < 0)) (some true) (bnd (M.laws_toSeries a0) fun x19 => bnd (M.laws_toPenaltyS a1) fun x26 => bnd (M.spec_PenalizedTable x19 x26) fun x33 => bnd (M.laws_toSeries a0) fun x45 => bnd (M.laws_toPenaltyS a1) fun x55 => bnd (M.impl_PenalizedTable x45 x55) fun x62 => bnd (M.laws_eqTable x62.1 x33.1) fun x230 => ifB (!x230) (M.laws_FnExactPenalizedTable_j1 a0 a1 x33 x45 x55 x62 true) (M.laws_FnExactPenalizedTable_j1 a0 a1 x33 x45 x55 x62 (x62.2 != x33.2))))
def M.impl_discardsOf_1 (a0 : Int) (a1 : Int) (a2 : Table) (a3 : Int) : Option Int :=
  bnd (idx a2.Points a1) fun x9 => bnd (idx x9 a3) fun x20 => bnd (idx a2.Points a0) fun x27 => bnd (idx x27 a3) fun x38 => some (w64 (x20 - x38))
def M.math_bits_Len64_j3 (a0 : Int) (s_j3 : Unit) : Option Int :=
  bnd (strAt (⟨#[0, 1, 2, 2, 3, 3, 3, 3, 4, 4, 4, 4, 4, 4, 4, 4, 5, 5, 5, 5, 5, 5, 5, 5, 5, 5, 5, 5, 5, 5, 5, 5, 6, 6, 6, 6, 6, 6, 6, 6, 6, 6, 6, 6, 6, 6, 6, 6, 6, 6, 6, 6, 6, 6, 6, 6, 6, 6, 6, 6, 6, 6, 6, 6, 7, 7, 7, 7, 7, 7, 7, 7, 7, 7, 7, 7, 7, 7, 7, 7, 7, 7, 7, 7, 7, 7, 7, 7, 7, 7, 7, 7, 7, 7, 7, 7, 7, 7, 7, 7, 7, 7, 7, 7, 7, 7, 7, 7, 7, 7, 7, 7, 7, 7, 7, 7, 7, 7, 7, 7, 7, 7, 7, 7, 7, 7, 7, 7, 8, 8, 8, 8, 8, 8, 8, 8, 8, 8, 8, 8, 8, 8, 8, 8, 8, 8, 8, 8, 8, 8, 8, 8, 8, 8, 8, 8, 8, 8, 8, 8, 8, 8, 8, 8, 8, 8, 8, 8, 8, 8, 8, 8, 8, 8, 8, 8, 8, 8, 8, 8, 8, 8, 8, 8, 8, 8, 8, 8, 8, 8, 8, 8, 8, 8, 8, 8, 8, 8, 8, 8, 8, 8, 8, 8, 8, 8, 8, 8, 8, 8, 8, 8, 8, 8, 8, 8, 8, 8, 8, 8, 8, 8, 8, 8, 8, 8, 8, 8, 8, 8, 8, 8, 8, 8, 8, 8, 8, 8, 8, 8, 8, 8, 8, 8, 8, 8, 8, 8, 8, 8, 8, 8, 8, 8, 8, 8]⟩ : ByteArray) (IntKind.u8.wrap a0)) fun x16 => some (w64 (0 + (IntKind.i64.wrap x16)))
def M.math_bits_Len64_j2 (a0 : Int) (s_j2 : Unit) : Option Int :=
  ifB (decide (256 ≤ a0)) (none) (M.math_bits_Len64_j3 a0 ())
def M.math_bits_Len64_j1 (a0 : Int) (s_j1 : Unit) : Option Int :=
  ifB (decide (65536 ≤ a0)) (none) (M.math_bits_Len64_j2 a0 ())
def M.math_bits_Len64 (a0 : Int) : Option Int :=
  ifB (decide (4294967296 ≤ a0)) (none) (M.math_bits_Len64_j1 a0 ())
def M.math_bits_Len (a0 : Int) : Option Int :=
  bnd (M.math_bits_Len64 a0) fun x1 => some x1
def M.cmp_isNaN_int64_ (a0 : Int) : Option Bool :=
  some (a0 != a0)
def M.cmp_Less_int64__j1 (s_j1 : Bool) : Option Bool :=
  some s_j1
def M.cmp_Less_int64_ (a0 : Int) (a1 : Int) : Option Bool :=
  bnd (M.cmp_isNaN_int64_ a0) fun x16 => ifB x16 (bnd (M.cmp_isNaN_int64_ a1) fun x22 => ifB (!x22) (M.cmp_Less_int64__j1 true) (M.cmp_Less_int64__j1 (decide (a0 < a1)))) (M.cmp_Less_int64__j1 (decide (a0 < a1)))
def M.slices_insertionSortOrdered_int64__a1 (s_l1 : (List Int) × Int) : Option ((Unit) × (List Int)) :=
  some ((), s_l1.1)
def M.slices_insertionSortOrdered_int64__a2 (s_l1 : (List Int) × Int) (s_l2 : (List Int) × Int) : Option (Stp ((Unit) × (List Int)) ((List Int) × Int)) :=
  some (.cont (s_l2.1, w64 (s_l1.2 + 1)))
def M.slices_insertionSortOrdered_int64__j1 (s_l2 : (List Int) × Int) (s_j1 : Bool) : Option (Stp ((Unit) × (List Int)) ((List Int) × Int)) :=
  ifB s_j1 (bnd (idx s_l2.1 (w64 (s_l2.2 - 1))) fun x1144 => bnd (idx s_l2.1 s_l2.2) fun x1151 => bnd (idx s_l2.1 s_l2.2) fun x1160 => bnd (idx (s_l2.1.set (s_l2.2 : Int).toNat x1144) (w64 (s_l2.2 - 1))) fun x1168 => some (.cont ((s_l2.1.set (s_l2.2 : Int).toNat x1144).set (w64 (s_l2.2 - 1) : Int).toNat x1151, w64 (s_l2.2 - 1)))) (some (.brk (s_l2.1, s_l2.2)))
def M.slices_insertionSortOrdered_int64__l2 (a1 : Int) (s_l2 : (List Int) × Int) : Option (Stp ((Unit) × (List Int)) ((List Int) × Int)) :=
  ifB (decide (a1 < s_l2.2)) (bnd (idx s_l2.1 s_l2.2) fun x1193 => bnd (idx s_l2.1 (w64 (s_l2.2 - 1))) fun x1200 => bnd (M.cmp_Less_int64_ x1193 x1200) fun x1207 => M.slices_insertionSortOrdered_int64__j1 s_l2 x1207) (M.slices_insertionSortOrdered_int64__j1 s_l2 false)
def M.slices_insertionSortOrdered_int64__l1 (a1 : Int) (a2 : Int) (s_l1 : (List Int) × Int) : Option (Stp ((Unit) × (List Int)) ((List Int) × Int)) :=
  ifB (decide (s_l1.2 < a2)) (bnd (loopF (M.slices_insertionSortOrdered_int64__l2 a1) (s_l1.1, s_l1.2)) fun o => outc o (fun x => some (.ret x)) (fun s => M.slices_insertionSortOrdered_int64__a2 s_l1 s)) (some (.brk (s_l1.1, s_l1.2)))
def M.slices_insertionSortOrdered_int64_ (a0 : List Int) (a1 : Int) (a2 : Int) : Option ((Unit) × (List Int)) :=
  bnd (loopF (M.slices_insertionSortOrdered_int64__l1 a1 a2) (a0, w64 (a1 + 1))) fun o => outc o (fun x => some x) (fun s => M.slices_insertionSortOrdered_int64__a1 s)
def M.slices_pdqsortOrdered_int64__a1 (a0 : List Int) (s_l1 : Unit) : Option ((Unit) × (List Int)) :=
  some ((), a0)
def M.slices_pdqsortOrdered_int64__j1 (s_j1 : Unit) : Option (Stp ((Unit) × (List Int)) Unit) :=
  none
def M.slices_pdqsortOrdered_int64__l1 (a0 : List Int) (a1 : Int) (a2 : Int) (a3 : Int) (s_l1 : Unit) : Option (Stp ((Unit) × (List Int)) Unit) :=
  ifB (decide ((w64 (a2 - a1)) ≤ 12)) (bnd (M.slices_insertionSortOrdered_int64_ a0 a1 a2) fun x77 => some (.ret ((), x77.2))) (ifB (a3 == 0) (none) (M.slices_pdqsortOrdered_int64__j1 ()))
def M.slices_pdqsortOrdered_int64_ (a0 : List Int) (a1 : Int) (a2 : Int) (a3 : Int) : Option ((Unit) × (List Int)) :=
  bnd (loopF (M.slices_pdqsortOrdered_int64__l1 a0 a1 a2 a3) ()) fun o => outc o (fun x => some x) (fun s => M.slices_pdqsortOrdered_int64__a1 a0 s)
def M.slices_Sort___int64_int64_ (a0 : List Int) : Option ((Unit) × (List Int)) :=
  bnd (M.math_bits_Len (IntKind.u64.wrap (a0.length : Int))) fun x5 => bnd (M.slices_pdqsortOrdered_int64_ a0 0 (a0.length : Int) x5) fun x10 => some ((), x10.2)
def M.impl_discardsOf_a1 (s_l1 : (List Int) × Int × Int) : Option (List Int) :=
  bnd (M.slices_Sort___int64_int64_ s_l1.1) fun x655 => some x655.2
def M.impl_discardsOf_j1 (s_l1 : (List Int) × Int × Int) (s_j1 : (List Int) × Int) : Option (Stp (List Int) ((List Int) × Int × Int)) :=
  some (.cont (s_j1.1, s_j1.2, w64 (s_l1.2.2 + 1)))
def M.impl_discardsOf_j2 (s_l1 : (List Int) × Int × Int) (s_j2 : (List Int) × Int) : Option (Stp (List Int) ((List Int) × Int × Int)) :=
  M.impl_discardsOf_j1 s_l1 (s_j2.1, s_j2.2)
def M.impl_discardsOf_j3 (s_l1 : (List Int) × Int × Int) (x908 : Int) (s_j3 : Bool) : Option (Stp (List Int) ((List Int) × Int × Int)) :=
  ifB s_j3 (chk (s_l1.1.length + ([x908] : List Int).length < 1099511627776) (M.impl_discardsOf_j2 s_l1 (s_l1.1 ++ ([x908] : List Int), w64 (s_l1.2.1 - 1)))) (M.impl_discardsOf_j2 s_l1 (s_l1.1, s_l1.2.1))
def M.impl_discardsOf_l1 (a0 : Table) (a2 : Int) (x19 : (List Int)) (s_l1 : (List Int) × Int × Int) : Option (Stp (List Int) ((List Int) × Int × Int)) :=
  ifB (decide (s_l1.2.2 < (x19.length : Int))) (bnd (idx x19 s_l1.2.2) fun x908 => ifB (decide (0 < s_l1.2.1)) (bnd (idx a0.Codes x908) fun x956 => bnd (idx x956 a2) fun x967 => M.impl_discardsOf_j3 s_l1 x908 (x967 != 7)) (M.impl_discardsOf_j3 s_l1 x908 false)) (some (.brk (s_l1.1, s_l1.2.1, s_l1.2.2)))
def M.impl_discardsOf (a0 : Table) (a1 : List Int) (a2 : Int) : Option (List Int) :=
  bnd (M.impl_discardCount a1 (a0.Points.length : Int)) fun x14 => bnd (M.impl_sortedIndices (a0.Points.length : Int) (fun y0 y1 => M.impl_discardsOf_1 y0 y1 a0 a2)) fun x19 => bnd (loopF (M.impl_discardsOf_l1 a0 a2 x19) (([] : List Int), x14, 0)) fun o => outc o (fun x => some x) (fun s => M.impl_discardsOf_a1 s)
def M.impl_DiscardsOf (a0 : Table) (a1 : List Int) (a2 : Int) : Option ((List Int) × Int) :=
  bnd (M.impl_tableCode a0 a1 a2) fun x9 => ifB (x9 != 0) (some ([], x9)) (bnd (M.impl_discardsOf a0 a1 a2) fun x15 => some (x15, 0))
def M.laws_FnExactDiscardsOf_j3 (x156 : (Int) × (List Int)) (s_j3 : Bool) : Option Bool :=
  ifB s_j3 (some false) (bnd (M.laws_heldInt64S x156.2 1) fun x204 => ifB (decide (x204 < 0)) (some false) (ifB (x204 != x156.1) (some false) (some true)))
def M.laws_FnExactDiscardsOf_j2 (a0 : Table) (a1 : List Int) (a2 : Int) (x32 : (List Int) × Int) (x58 : (List Int) × Int) (s_j2 : Bool) : Option Bool :=
  ifB s_j2 (some false) (bnd (M.laws_markInt64S x58.1 1) fun x156 => bnd (M.laws_heldInt64S x156.2 1) fun x162 => ifB (decide (x162 < 0)) (some false) (ifB (x162 != x156.1) (some false) (bnd (M.laws_toTable a0) fun x169 => bnd (M.laws_toInt64S a1) fun x178 => bnd (M.impl_DiscardsOf x169 x178 a2) fun x185 => bnd (M.laws_eqInt64S x185.1 x32.1) fun x211 => ifB (!x211) (M.laws_FnExactDiscardsOf_j3 x156 true) (M.laws_FnExactDiscardsOf_j3 x156 (x185.2 != x32.2)))))
def M.laws_FnExactDiscardsOf_j1 (a0 : Table) (a1 : List Int) (a2 : Int) (x32 : (List Int) × Int) (x39 : Table) (x51 : (List Int)) (x58 : (List Int) × Int) (s_j1 : Bool) : Option Bool :=
  ifB s_j1 (some false) (bnd (M.laws_toTable a0) fun x98 => bnd (M.laws_eqTable x39 x98) fun x107 => ifB (!x107) (some false) (bnd (M.laws_toInt64S a1) fun x113 => bnd (M.laws_eqInt64S x51 x113) fun x120 => ifB (!x120) (some false) (bnd (M.laws_markTable (Table.mk x39.Boats x39.Points x39.Codes) 1) fun x126 => bnd (M.laws_markInt64S x51 x126.1) fun x133 => ifB (decide (x133.1 < 0)) (M.laws_FnExactDiscardsOf_j2 a0 a1 a2 x32 x58 true) (bnd (M.laws_eqInt64S x58.1 x32.1) fun x218 => ifB (!x218) (M.laws_FnExactDiscardsOf_j2 a0 a1 a2 x32 x58 true) (M.laws_FnExactDiscardsOf_j2 a0 a1 a2 x32 x58 (x58.2 != x32.2))))))
def M.laws_FnExactDiscardsOf (a0 : Table) (a1 : List Int) (a2 : Int) : Option Bool :=
  ifB (decide (1048576 < (a1.length : Int))) (some true) (bnd (M.laws_szTable a0 1048576) fun x10 => ifB (decide (x10 < 0)) (some true) (bnd (M.laws_toTable a0) fun x16 => bnd (M.laws_toInt64S a1) fun x25 => bnd (M.spec_DiscardsOf x16 x25 a2) fun x32 => bnd (M.laws_toTable a0) fun x39 => bnd (M.laws_toInt64S a1) fun x51 => bnd (M.impl_DiscardsOf x39 x51 a2) fun x58 => bnd (M.laws_eqInt64S x58.1 x32.1) fun x224 => ifB (!x224) (M.laws_FnExactDiscardsOf_j1 a0 a1 a2 x32 x39 x51 x58 true) (M.laws_FnExactDiscardsOf_j1 a0 a1 a2 x32 x39 x51 x58 (x58.2 != x32.2))))
def M.slices_Index___int64_int64__a1 (s_l1 : Int) : Option Int :=
  some (-1)
def M.slices_Index___int64_int64__l1 (a0 : List Int) (a1 : Int) (s_l1 : Int) : Option (Stp Int Int) :=
  ifB (decide (s_l1 < (a0.length : Int))) (bnd (idx a0 s_l1) fun x38 => ifB (a1 == x38) (some (.ret s_l1)) (some (.cont (w64 (s_l1 + 1))))) (some (.brk s_l1))
def M.slices_Index___int64_int64_ (a0 : List Int) (a1 : Int) : Option Int :=
  bnd (loopF (M.slices_Index___int64_int64__l1 a0 a1) 0) fun o => outc o (fun x => some x) (fun s => M.slices_Index___int64_int64__a1 s)
def M.slices_Contains___int64_int64_ (a0 : List Int) (a1 : Int) : Option Bool :=
  bnd (M.slices_Index___int64_int64_ a0 a1) fun x3 => some (decide (0 ≤ x3))
def M.impl_countedPoints_a1 (s_l1 : (List Int) × Int) : Option (List Int) :=
  some s_l1.1
def M.impl_countedPoints_j1 (s_l1 : (List Int) × Int) (s_j1 : (List Int)) : Option (Stp (List Int) ((List Int) × Int)) :=
  some (.cont (s_j1, w64 (s_l1.2 + 1)))
def M.impl_countedPoints_j2 (s_l1 : (List Int) × Int) (s_j2 : (List Int)) : Option (Stp (List Int) ((List Int) × Int)) :=
  M.impl_countedPoints_j1 s_l1 s_j2
def M.impl_countedPoints_l1 (a0 : Table) (a2 : Int) (x12 : (List Int)) (s_l1 : (List Int) × Int) : Option (Stp (List Int) ((List Int) × Int)) :=
  ifB (decide (s_l1.2 < (a0.Points.length : Int))) (bnd (M.slices_Contains___int64_int64_ x12 s_l1.2) fun x477 => ifB (!x477) (bnd (idx a0.Points s_l1.2) fun x483 => bnd (idx x483 a2) fun x494 => chk (s_l1.1.length + ([x494] : List Int).length < 1099511627776) (M.impl_countedPoints_j2 s_l1 (s_l1.1 ++ ([x494] : List Int)))) (M.impl_countedPoints_j2 s_l1 s_l1.1)) (some (.brk (s_l1.1, s_l1.2)))
def M.impl_countedPoints (a0 : Table) (a1 : List Int) (a2 : Int) : Option (List Int) :=
  bnd (M.impl_discardsOf a0 a1 a2) fun x12 => bnd (loopF (M.impl_countedPoints_l1 a0 a2 x12) (([] : List Int), 0)) fun o => outc o (fun x => some x) (fun s => M.impl_countedPoints_a1 s)
def M.impl_netPoints_a1 (s_l1 : Int × Int) : Option Int :=
  some s_l1.1
def M.impl_netPoints_l1 (x9 : (List Int)) (s_l1 : Int × Int) : Option (Stp Int (Int × Int)) :=
  ifB (decide (s_l1.2 < (x9.length : Int))) (bnd (idx x9 s_l1.2) fun x49 => some (.cont (w64 (s_l1.1 + x49), w64 (s_l1.2 + 1)))) (some (.brk (s_l1.1, s_l1.2)))
def M.impl_netPoints (a0 : Table) (a1 : List Int) (a2 : Int) : Option Int :=
  bnd (M.impl_countedPoints a0 a1 a2) fun x9 => bnd (loopF (M.impl_netPoints_l1 x9) (0, 0)) fun o => outc o (fun x => some x) (fun s => M.impl_netPoints_a1 s)
def M.impl_NetPoints (a0 : Table) (a1 : List Int) (a2 : Int) : Option (Int × Int) :=
  bnd (M.impl_tableCode a0 a1 a2) fun x9 => ifB (x9 != 0) (some (0, x9)) (bnd (M.impl_netPoints a0 a1 a2) fun x15 => some (x15, 0))
def M.laws_FnExactNetPoints_j1 (a0 : Table) (a1 : List Int) (x37 : Table) (x49 : (List Int)) (s_j1 : Bool) : Option Bool :=
  ifB s_j1 (some false) (bnd (M.laws_toTable a0) fun x84 => bnd (M.laws_eqTable x37 x84) fun x93 => ifB (!x93) (some false) (bnd (M.laws_toInt64S a1) fun x99 => bnd (M.laws_eqInt64S x49 x99) fun x106 => ifB (!x106) (some false) (some true)))
def M.laws_FnExactNetPoints (a0 : Table) (a1 : List Int) (a2 : Int) : Option Bool :=
  ifB (decide (1048576 < (a1.length : Int))) (some true) (bnd (M.laws_szTable a0 1048576) fun x10 => ifB (decide (x10 < 0)) (some true) (bnd (M.laws_toTable a0) fun x16 => bnd (M.laws_toInt64S a1) fun x25 => bnd (M.spec_NetPoints x16 x25 a2) fun x32 => bnd (M.laws_toTable a0) fun x37 => bnd (M.laws_toInt64S a1) fun x49 => bnd (M.impl_NetPoints x37 x49 a2) fun x56 => ifB (x56.1 != x32.1) (M.laws_FnExactNetPoints_j1 a0 a1 x37 x49 true) (M.laws_FnExactNetPoints_j1 a0 a1 x37 x49 (x56.2 != x32.2))))
def M.impl_TotalPoints (a0 : Table) (a1 : Int) : Option (Int × Int) :=
  bnd (M.impl_tableCode a0 ([] : List Int) a1) fun x7 => ifB (x7 != 0) (some (0, x7)) (bnd (M.impl_netPoints a0 ([] : List Int) a1) fun x13 => some (x13, 0))
def M.laws_FnExactTotalPoints_j1 (a0 : Table) (x27 : Table) (s_j1 : Bool) : Option Bool :=
  ifB s_j1 (some false) (bnd (M.laws_toTable a0) fun x65 => bnd (M.laws_eqTable x27 x65) fun x74 => ifB (!x74) (some false) (some true))
def M.laws_FnExactTotalPoints (a0 : Table) (a1 : Int) : Option Bool :=
  bnd (M.laws_szTable a0 1048576) fun x7 => ifB (decide (x7 < 0)) (some true) (bnd (M.laws_toTable a0) fun x13 => bnd (M.spec_TotalPoints x13 a1) fun x22 => bnd (M.laws_toTable a0) fun x27 => bnd (M.impl_TotalPoints x27 a1) fun x39 => ifB (x39.1 != x22.1) (M.laws_FnExactTotalPoints_j1 a0 x27 true) (M.laws_FnExactTotalPoints_j1 a0 x27 (x39.2 != x22.2)))
def M.impl_CountedPoints (a0 : Table) (a1 : List Int) (a2 : Int) : Option ((List Int) × Int) :=
  bnd (M.impl_tableCode a0 a1 a2) fun x9 => ifB (x9 != 0) (some ([], x9)) (bnd (M.impl_countedPoints a0 a1 a2) fun x15 => some (x15, 0))
def M.laws_FnExactCountedPoints_j3 (x156 : (Int) × (List Int)) (s_j3 : Bool) : Option Bool :=
  ifB s_j3 (some false) (bnd (M.laws_heldInt64S x156.2 1) fun x204 => ifB (decide (x204 < 0)) (some false) (ifB (x204 != x156.1) (some false) (some true)))
def M.laws_FnExactCountedPoints_j2 (a0 : Table) (a1 : List Int) (a2 : Int) (x32 : (List Int) × Int) (x58 : (List Int) × Int) (s_j2 : Bool) : Option Bool :=
  ifB s_j2 (some false) (bnd (M.laws_markInt64S x58.1 1) fun x156 => bnd (M.laws_heldInt64S x156.2 1) fun x162 => ifB (decide (x162 < 0)) (some false) (ifB (x162 != x156.1) (some false) (bnd (M.laws_toTable a0) fun x169 => bnd (M.laws_toInt64S a1) fun x178 => bnd (M.impl_CountedPoints x169 x178 a2) fun x185 => bnd (M.laws_eqInt64S x185.1 x32.1) fun x211 => ifB (!x211) (M.laws_FnExactCountedPoints_j3 x156 true) (M.laws_FnExactCountedPoints_j3 x156 (x185.2 != x32.2)))))
def M.laws_FnExactCountedPoints_j1 (a0 : Table) (a1 : List Int) (a2 : Int) (x32 : (List Int) × Int) (x39 : Table) (x51 : (List Int)) (x58 : (List Int) × Int) (s_j1 : Bool) : Option Bool :=
  ifB s_j1 (some false) (bnd (M.laws_toTable a0) fun x98 => bnd (M.laws_eqTable x39 x98) fun x107 => ifB (!x107) (some false) (bnd (M.laws_toInt64S a1) fun x113 => bnd (M.laws_eqInt64S x51 x113) fun x120 => ifB (!x120) (some false) (bnd (M.laws_markTable (Table.mk x39.Boats x39.Points x39.Codes) 1) fun x126 => bnd (M.laws_markInt64S x51 x126.1) fun x133 => ifB (decide (x133.1 < 0)) (M.laws_FnExactCountedPoints_j2 a0 a1 a2 x32 x58 true) (bnd (M.laws_eqInt64S x58.1 x32.1) fun x218 => ifB (!x218) (M.laws_FnExactCountedPoints_j2 a0 a1 a2 x32 x58 true) (M.laws_FnExactCountedPoints_j2 a0 a1 a2 x32 x58 (x58.2 != x32.2))))))
def M.laws_FnExactCountedPoints (a0 : Table) (a1 : List Int) (a2 : Int) : Option Bool :=
  ifB (decide (1048576 < (a1.length : Int))) (some true) (bnd (M.laws_szTable a0 1048576) fun x10 => ifB (decide (x10 < 0)) (some true) (bnd (M.laws_toTable a0) fun x16 => bnd (M.laws_toInt64S a1) fun x25 => bnd (M.spec_CountedPoints x16 x25 a2) fun x32 => bnd (M.laws_toTable a0) fun x39 => bnd (M.laws_toInt64S a1) fun x51 => bnd (M.impl_CountedPoints x39 x51 a2) fun x58 => bnd (M.laws_eqInt64S x58.1 x32.1) fun x224 => ifB (!x224) (M.laws_FnExactCountedPoints_j1 a0 a1 a2 x32 x39 x51 x58 true) (M.laws_FnExactCountedPoints_j1 a0 a1 a2 x32 x39 x51 x58 (x58.2 != x32.2))))
def M.impl_sortedPoints (a0 : Table) (a1 : List Int) (a2 : Int) : Option (List Int) :=
  bnd (M.impl_countedPoints a0 a1 a2) fun x9 => bnd (M.slices_Sort___int64_int64_ x9) fun x16 => some x16.2
def M.impl_SortedPoints (a0 : Table) (a1 : List Int) (a2 : Int) : Option ((List Int) × Int) :=
  bnd (M.impl_tableCode a0 a1 a2) fun x9 => ifB (x9 != 0) (some ([], x9)) (bnd (M.impl_sortedPoints a0 a1 a2) fun x15 => some (x15, 0))
def M.laws_FnExactSortedPoints_j3 (x156 : (Int) × (List Int)) (s_j3 : Bool) : Option Bool :=
  ifB s_j3 (some false) (bnd (M.laws_heldInt64S x156.2 1) fun x204 => ifB (decide (x204 < 0)) (some false) (ifB (x204 != x156.1) (some false) (some true)))
def M.laws_FnExactSortedPoints_j2 (a0 : Table) (a1 : List Int) (a2 : Int) (x32 : (List Int) × Int) (x58 : (List Int) × Int) (s_j2 : Bool) : Option Bool :=
  ifB s_j2 (some false) (bnd (M.laws_markInt64S x58.1 1) fun x156 => bnd (M.laws_heldInt64S x156.2 1) fun x162 => ifB (decide (x162 < 0)) (some false) (ifB (x162 != x156.1) (some false) (bnd (M.laws_toTable a0) fun x169 => bnd (M.laws_toInt64S a1) fun x178 => bnd (M.impl_SortedPoints x169 x178 a2) fun x185 => bnd (M.laws_eqInt64S x185.1 x32.1) fun x211 => ifB (!x211) (M.laws_FnExactSortedPoints_j3 x156 true) (M.laws_FnExactSortedPoints_j3 x156 (x185.2 != x32.2)))))
def M.laws_FnExactSortedPoints_j1 (a0 : Table) (a1 : List Int) (a2 : Int) (x32 : (List Int) × Int) (x39 : Table) (x51 : (List Int)) (x58 : (List Int) × Int) (s_j1 : Bool) : Option Bool :=
  ifB s_j1 (some false) (bnd (M.laws_toTable a0) fun x98 => bnd (M.laws_eqTable x39 x98) fun x107 => ifB (!x107) (some false) (bnd (M.laws_toInt64S a1) fun x113 => bnd (M.laws_eqInt64S x51 x113) fun x120 => ifB (!x120) (some false) (bnd (M.laws_markTable (Table.mk x39.Boats x39.Points x39.Codes) 1) fun x126 => bnd (M.laws_markInt64S x51 x126.1) fun x133 => ifB (decide (x133.1 < 0)) (M.laws_FnExactSortedPoints_j2 a0 a1 a2 x32 x58 true) (bnd (M.laws_eqInt64S x58.1 x32.1) fun x218 => ifB (!x218) (M.laws_FnExactSortedPoints_j2 a0 a1 a2 x32 x58 true) (M.laws_FnExactSortedPoints_j2 a0 a1 a2 x32 x58 (x58.2 != x32.2))))))
def M.laws_FnExactSortedPoints (a0 : Table) (a1 : List Int) (a2 : Int) : Option Bool :=
  ifB (decide (1048576 < (a1.length : Int))) (some true) (bnd (M.laws_szTable a0 1048576) fun x10 => ifB (decide (x10 < 0)) (some true) (bnd (M.laws_toTable a0) fun x16 => bnd (M.laws_toInt64S a1) fun x25 => bnd (M.spec_SortedPoints x16 x25 a2) fun x32 => bnd (M.laws_toTable a0) fun x39 => bnd (M.laws_toInt64S a1) fun x51 => bnd (M.impl_SortedPoints x39 x51 a2) fun x58 => bnd (M.laws_eqInt64S x58.1 x32.1) fun x224 => ifB (!x224) (M.laws_FnExactSortedPoints_j1 a0 a1 a2 x32 x39 x51 x58 true) (M.laws_FnExactSortedPoints_j1 a0 a1 a2 x32 x39 x51 x58 (x58.2 != x32.2))))
def M.impl_netScores_a1 (s_l1 : (List Int) × Int) : Option (List Int) :=
  some s_l1.1
def M.impl_netScores_l1 (a0 : Table) (a1 : List Int) (s_l1 : (List Int) × Int) : Option (Stp (List Int) ((List Int) × Int)) :=
  ifB (decide (s_l1.2 < a0.Boats)) (bnd (M.impl_netPoints a0 a1 s_l1.2) fun x61 => chk (s_l1.1.length + ([x61] : List Int).length < 1099511627776) (some (.cont (s_l1.1 ++ ([x61] : List Int), w64 (s_l1.2 + 1))))) (some (.brk (s_l1.1, s_l1.2)))
def M.impl_netScores (a0 : Table) (a1 : List Int) : Option (List Int) :=
  bnd (loopF (M.impl_netScores_l1 a0 a1) (([] : List Int), 0)) fun o => outc o (fun x => some x) (fun s => M.impl_netScores_a1 s)
def M.impl_NetScores (a0 : Table) (a1 : List Int) : Option ((List Int) × Int) :=
  bnd (M.impl_tableCode a0 a1 0) fun x9 => ifB (x9 != 0) (some ([], x9)) (bnd (M.impl_netScores a0 a1) fun x15 => some (x15, 0))
def M.laws_FnExactNetScores_j3 (x154 : (Int) × (List Int)) (s_j3 : Bool) : Option Bool :=
  ifB s_j3 (some false) (bnd (M.laws_heldInt64S x154.2 1) fun x202 => ifB (decide (x202 < 0)) (some false) (ifB (x202 != x154.1) (some false) (some true)))
def M.laws_FnExactNetScores_j2 (a0 : Table) (a1 : List Int) (x32 : (List Int) × Int) (x58 : (List Int) × Int) (s_j2 : Bool) : Option Bool :=
  ifB s_j2 (some false) (bnd (M.laws_markInt64S x58.1 1) fun x154 => bnd (M.laws_heldInt64S x154.2 1) fun x160 => ifB (decide (x160 < 0)) (some false) (ifB (x160 != x154.1) (some false) (bnd (M.laws_toTable a0) fun x167 => bnd (M.laws_toInt64S a1) fun x176 => bnd (M.impl_NetScores x167 x176) fun x183 => bnd (M.laws_eqInt64S x183.1 x32.1) fun x209 => ifB (!x209) (M.laws_FnExactNetScores_j3 x154 true) (M.laws_FnExactNetScores_j3 x154 (x183.2 != x32.2)))))
def M.laws_FnExactNetScores_j1 (a0 : Table) (a1 : List Int) (x32 : (List Int) × Int) (x39 : Table) (x51 : (List Int)) (x58 : (List Int) × Int) (s_j1 : Bool) : Option Bool :=
  ifB s_j1 (some false) (bnd (M.laws_toTable a0) fun x97 => bnd (M.laws_eqTable x39 x97) fun x106 => ifB (!x106) (some false) (bnd (M.laws_toInt64S a1) fun x112 => bnd (M.laws_eqInt64S x51 x112) fun x119 => ifB (!x119) (some false) (bnd (M.laws_markTable (Table.mk x39.Boats x39.Points x39.Codes) 1) fun x125 => bnd (M.laws_markInt64S x51 x125.1) fun x132 => ifB (decide (x132.1 < 0)) (M.laws_FnExactNetScores_j2 a0 a1 x32 x58 true) (bnd (M.laws_eqInt64S x58.1 x32.1) fun x216 => ifB (!x216) (M.laws_FnExactNetScores_j2 a0 a1 x32 x58 true) (M.laws_FnExactNetScores_j2 a0 a1 x32 x58 (x58.2 != x32.2))))))
def M.laws_FnExactNetScores (a0 : Table) (a1 : List Int) : Option Bool :=
  ifB (decide (1048576 < (a1.length : Int))) (some true) (bnd (M.laws_szTable a0 1048576) fun x10 => ifB (decide (x10 < 0)) (some true) (bnd (M.laws_toTable a0) fun x16 => bnd (M.laws_toInt64S a1) fun x25 => bnd (M.spec_NetScores x16 x25) fun x32 => bnd (M.laws_toTable a0) fun x39 => bnd (M.laws_toInt64S a1) fun x51 => bnd (M.impl_NetScores x39 x51) fun x58 => bnd (M.laws_eqInt64S x58.1 x32.1) fun x222 => ifB (!x222) (M.laws_FnExactNetScores_j1 a0 a1 x32 x39 x51 x58 true) (M.laws_FnExactNetScores_j1 a0 a1 x32 x39 x51 x58 (x58.2 != x32.2))))

def M.impl_compareBoats_a2 (s_l2 : Int) : Option (Int × Int × Int) :=
  some (0, 0, 0)
def M.impl_compareBoats_l2 (a0 : Table) (a2 : Int) (a3 : Int) (s_l2 : Int) : Option (Stp (Int × Int × Int) Int) :=
  ifB (decide (0 ≤ s_l2)) (bnd (idx a0.Points s_l2) fun x172 => bnd (idx x172 a2) fun x184 => bnd (idx x172 a3) fun x191 => ifB (x184 != x191) (bnd (idx x172 a2) fun x222 => bnd (idx x172 a3) fun x229 => bnd (M.impl_sign (w64 (x222 - x229))) fun x236 => some (.ret (x236, 3, s_l2))) (some (.cont (s_l2 - 1)))) (some (.brk s_l2))
def M.impl_compareBoats_a1 (a0 : Table) (a2 : Int) (a3 : Int) (s_l1 : Int) : Option (Int × Int × Int) :=
  bnd (loopF (M.impl_compareBoats_l2 a0 a2 a3) ((a0.Points.length : Int) - 1)) fun o => outc o (fun x => some x) (fun s => M.impl_compareBoats_a2 s)
def M.impl_compareBoats_l1 (x47 : (List Int)) (x54 : (List Int)) (s_l1 : Int) : Option (Stp (Int × Int × Int) Int) :=
  ifB (decide (s_l1 < (min (x47.length : Int) (x54.length : Int)))) (bnd (idx x47 s_l1) fun x257 => bnd (idx x54 s_l1) fun x264 => ifB (x257 != x264) (bnd (idx x47 s_l1) fun x273 => bnd (idx x54 s_l1) fun x280 => bnd (M.impl_sign (w64 (x273 - x280))) fun x287 => some (.ret (x287, 2, 0))) (some (.cont (w64 (s_l1 + 1))))) (some (.brk s_l1))
def M.impl_compareBoats (a0 : Table) (a1 : List Int) (a2 : Int) (a3 : Int) : Option (Int × Int × Int) :=
  bnd (M.impl_netPoints a0 a1 a2) fun x19 => bnd (M.impl_netPoints a0 a1 a3) fun x21 => ifB ((w64 (x19 - x21)) != 0) (bnd (M.impl_sign (w64 (x19 - x21))) fun x25 => some (x25, 1, 0)) (bnd (M.impl_sortedPoints a0 a1 a2) fun x47 => bnd (M.impl_sortedPoints a0 a1 a3) fun x54 => bnd (loopF (M.impl_compareBoats_l1 x47 x54) 0) fun o => outc o (fun x => some x) (fun s => M.impl_compareBoats_a1 a0 a2 a3 s))
def M.impl_CompareBoats (a0 : Table) (a1 : List Int) (a2 : Int) (a3 : Int) : Option (Int × Int × Int) :=
  bnd (M.impl_boatsCode a0 a1 a2 a3) fun x9 => ifB (x9 != 0) (some (0, 0, x9)) (bnd (M.impl_compareBoats a0 a1 a2 a3) fun x15 => some (x15.1, x15.2.1, 0))
def M.laws_FnExactCompareBoats_j1 (a0 : Table) (a1 : List Int) (x37 : Table) (x49 : (List Int)) (s_j1 : Bool) : Option Bool :=
  ifB s_j1 (some false) (bnd (M.laws_toTable a0) fun x85 => bnd (M.laws_eqTable x37 x85) fun x94 => ifB (!x94) (some false) (bnd (M.laws_toInt64S a1) fun x100 => bnd (M.laws_eqInt64S x49 x100) fun x107 => ifB (!x107) (some false) (some true)))
def M.laws_FnExactCompareBoats (a0 : Table) (a1 : List Int) (a2 : Int) (a3 : Int) : Option Bool :=
  ifB (decide (1048576 < (a1.length : Int))) (some true) (bnd (M.laws_szTable a0 1048576) fun x10 => ifB (decide (x10 < 0)) (some true) (bnd (M.laws_toTable a0) fun x16 => bnd (M.laws_toInt64S a1) fun x25 => bnd (M.spec_CompareBoats x16 x25 a2 a3) fun x32 => bnd (M.laws_toTable a0) fun x37 => bnd (M.laws_toInt64S a1) fun x49 => bnd (M.impl_CompareBoats x37 x49 a2 a3) fun x56 => ifB (x56.1 != x32.1) (M.laws_FnExactCompareBoats_j1 a0 a1 x37 x49 true) (ifB (x56.2.1 != x32.2.1) (M.laws_FnExactCompareBoats_j1 a0 a1 x37 x49 true) (M.laws_FnExactCompareBoats_j1 a0 a1 x37 x49 (x56.2.2 != x32.2.2)))))
def M.impl_DecidingRace (a0 : Table) (a1 : List Int) (a2 : Int) (a3 : Int) : Option (Int × Int) :=
  bnd (M.impl_boatsCode a0 a1 a2 a3) fun x9 => ifB (x9 != 0) (some (0, x9)) (bnd (M.impl_compareBoats a0 a1 a2 a3) fun x15 => ifB (x15.2.1 != 3) (some (0, 4)) (some (x15.2.2, 0)))
def M.laws_FnExactDecidingRace_j1 (a0 : Table) (a1 : List Int) (x37 : Table) (x49 : (List Int)) (s_j1 : Bool) : Option Bool :=
  ifB s_j1 (some false) (bnd (M.laws_toTable a0) fun x84 => bnd (M.laws_eqTable x37 x84) fun x93 => ifB (!x93) (some false) (bnd (M.laws_toInt64S a1) fun x99 => bnd (M.laws_eqInt64S x49 x99) fun x106 => ifB (!x106) (some false) (some true)))
def M.laws_FnExactDecidingRace (a0 : Table) (a1 : List Int) (a2 : Int) (a3 : Int) : Option Bool :=
  ifB (decide (1048576 < (a1.length : Int))) (some true) (bnd (M.laws_szTable a0 1048576) fun x10 => ifB (decide (x10 < 0)) (some true) (bnd (M.laws_toTable a0) fun x16 => bnd (M.laws_toInt64S a1) fun x25 => bnd (M.spec_DecidingRace x16 x25 a2 a3) fun x32 => bnd (M.laws_toTable a0) fun x37 => bnd (M.laws_toInt64S a1) fun x49 => bnd (M.impl_DecidingRace x37 x49 a2 a3) fun x56 => ifB (x56.1 != x32.1) (M.laws_FnExactDecidingRace_j1 a0 a1 x37 x49 true) (M.laws_FnExactDecidingRace_j1 a0 a1 x37 x49 (x56.2 != x32.2))))
def M.impl_ranksOf_a1 (s_l1 : (List Int) × Int) : Option (List Int) :=
  some s_l1.1
def M.impl_ranksOf_a2 (s_l1 : (List Int) × Int) (s_l2 : (List Int) × Int) : Option (Stp (List Int) ((List Int) × Int)) :=
  some (.cont (s_l2.1, w64 (s_l1.2 + 1)))
def M.impl_ranksOf_j1 (s_l2 : (List Int) × Int) (s_j1 : (List Int)) : Option (Stp (List Int) ((List Int) × Int)) :=
  some (.cont (s_j1, w64 (s_l2.2 + 1)))
def M.impl_ranksOf_j2 (s_l2 : (List Int) × Int) (s_j2 : (List Int)) : Option (Stp (List Int) ((List Int) × Int)) :=
  M.impl_ranksOf_j1 s_l2 s_j2
def M.impl_ranksOf_l2 (a0 : Table) (a1 : List Int) (s_l1 : (List Int) × Int) (s_l2 : (List Int) × Int) : Option (Stp (List Int) ((List Int) × Int)) :=
  ifB (decide (s_l2.2 < ((s_l1.1.set (s_l1.2 : Int).toNat 1).length : Int))) (bnd (M.impl_compareBoats a0 a1 s_l2.2 s_l1.2) fun x1179 => ifB (decide (x1179.1 < 0)) (bnd (idx s_l2.1 s_l1.2) fun x1185 => bnd (idx s_l2.1 s_l1.2) fun x1192 => M.impl_ranksOf_j2 s_l2 (s_l2.1.set (s_l1.2 : Int).toNat (w64 (x1185 + 1)))) (M.impl_ranksOf_j2 s_l2 s_l2.1)) (some (.brk (s_l2.1, s_l2.2)))
def M.impl_ranksOf_l1 (a0 : Table) (a1 : List Int) (s_l1 : (List Int) × Int) : Option (Stp (List Int) ((List Int) × Int)) :=
  ifB (decide (s_l1.2 < ((List.replicate (a0.Boats).toNat (0 : Int)).length : Int))) (bnd (idx s_l1.1 s_l1.2) fun x812 => bnd (loopF (M.impl_ranksOf_l2 a0 a1 s_l1) (s_l1.1.set (s_l1.2 : Int).toNat 1, 0)) fun o => outc o (fun x => some (.ret x)) (fun s => M.impl_ranksOf_a2 s_l1 s)) (some (.brk (s_l1.1, s_l1.2)))
def M.impl_ranksOf (a0 : Table) (a1 : List Int) : Option (List Int) :=
  chk (0 ≤ a0.Boats ∧ a0.Boats < 1099511627776) (bnd (loopF (M.impl_ranksOf_l1 a0 a1) (List.replicate (a0.Boats).toNat (0 : Int), 0)) fun o => outc o (fun x => some x) (fun s => M.impl_ranksOf_a1 s))
def M.impl_RanksOf (a0 : Table) (a1 : List Int) : Option ((List Int) × Int) :=
  bnd (M.impl_tableCode a0 a1 0) fun x9 => ifB (x9 != 0) (some ([], x9)) (bnd (M.impl_ranksOf a0 a1) fun x15 => some (x15, 0))
def M.laws_FnExactRanksOf_j3 (x154 : (Int) × (List Int)) (s_j3 : Bool) : Option Bool :=
  ifB s_j3 (some false) (bnd (M.laws_heldInt64S x154.2 1) fun x202 => ifB (decide (x202 < 0)) (some false) (ifB (x202 != x154.1) (some false) (some true)))
def M.laws_FnExactRanksOf_j2 (a0 : Table) (a1 : List Int) (x32 : (List Int) × Int) (x58 : (List Int) × Int) (s_j2 : Bool) : Option Bool :=
  ifB s_j2 (some false) (bnd (M.laws_markInt64S x58.1 1) fun x154 => bnd (M.laws_heldInt64S x154.2 1) fun x160 => ifB (decide (x160 < 0)) (some false) (ifB (x160 != x154.1) (some false) (bnd (M.laws_toTable a0) fun x167 => bnd (M.laws_toInt64S a1) fun x176 => bnd (M.impl_RanksOf x167 x176) fun x183 => bnd (M.laws_eqInt64S x183.1 x32.1) fun x209 => ifB (!x209) (M.laws_FnExactRanksOf_j3 x154 true) (M.laws_FnExactRanksOf_j3 x154 (x183.2 != x32.2)))))
def M.laws_FnExactRanksOf_j1 (a0 : Table) (a1 : List Int) (x32 : (List Int) × Int) (x39 : Table) (x51 : (List Int)) (x58 : (List Int) × Int) (s_j1 : Bool) : Option Bool :=
  ifB s_j1 (some false) (bnd (M.laws_toTable a0) fun x97 => bnd (M.laws_eqTable x39 x97) fun x106 => ifB (!x106) (some false) (bnd (M.laws_toInt64S a1) fun x112 => bnd (M.laws_eqInt64S x51 x112) fun x119 => ifB (!x119) (some false) (bnd (M.laws_markTable (Table.mk x39.Boats x39.Points x39.Codes) 1) fun x125 => bnd (M.laws_markInt64S x51 x125.1) fun x132 => ifB (decide (x132.1 < 0)) (M.laws_FnExactRanksOf_j2 a0 a1 x32 x58 true) (bnd (M.laws_eqInt64S x58.1 x32.1) fun x216 => ifB (!x216) (M.laws_FnExactRanksOf_j2 a0 a1 x32 x58 true) (M.laws_FnExactRanksOf_j2 a0 a1 x32 x58 (x58.2 != x32.2))))))
def M.laws_FnExactRanksOf (a0 : Table) (a1 : List Int) : Option Bool :=
  ifB (decide (1048576 < (a1.length : Int))) (some true) (bnd (M.laws_szTable a0 1048576) fun x10 => ifB (decide (x10 < 0)) (some true) (bnd (M.laws_toTable a0) fun x16 => bnd (M.laws_toInt64S a1) fun x25 => bnd (M.spec_RanksOf x16 x25) fun x32 => bnd (M.laws_toTable a0) fun x39 => bnd (M.laws_toInt64S a1) fun x51 => bnd (M.impl_RanksOf x39 x51) fun x58 => bnd (M.laws_eqInt64S x58.1 x32.1) fun x222 => ifB (!x222) (M.laws_FnExactRanksOf_j1 a0 a1 x32 x39 x51 x58 true) (M.laws_FnExactRanksOf_j1 a0 a1 x32 x39 x51 x58 (x58.2 != x32.2))))
def M.impl_standingOf_1 (a0 : Int) (a1 : Int) (a2 : Table) (a3 : List Int) : Option Int :=
  bnd (M.impl_compareBoats a2 a3 a0 a1) fun x11 => some x11.1
def M.impl_standingOf (a0 : Table) (a1 : List Int) : Option (List Int) :=
  bnd (M.impl_sortedIndices a0.Boats (fun y0 y1 => M.impl_standingOf_1 y0 y1 a0 a1)) fun x11 => some x11
def M.impl_StandingOf (a0 : Table) (a1 : List Int) : Option ((List Int) × Int) :=
  bnd (M.impl_tableCode a0 a1 0) fun x9 => ifB (x9 != 0) (some ([], x9)) (bnd (M.impl_standingOf a0 a1) fun x15 => some (x15, 0))
def M.laws_FnExactStandingOf_j3 (x154 : (Int) × (List Int)) (s_j3 : Bool) : Option Bool :=
  ifB s_j3 (some false) (bnd (M.laws_heldInt64S x154.2 1) fun x202 => ifB (decide (x202 < 0)) (some false) (ifB (x202 != x154.1) (some false) (some true)))
def M.laws_FnExactStandingOf_j2 (a0 : Table) (a1 : List Int) (x32 : (List Int) × Int) (x58 : (List Int) × Int) (s_j2 : Bool) : Option Bool :=
  ifB s_j2 (some false) (bnd (M.laws_markInt64S x58.1 1) fun x154 => bnd (M.laws_heldInt64S x154.2 1) fun x160 => ifB (decide (x160 < 0)) (some false) (ifB (x160 != x154.1) (some false) (bnd (M.laws_toTable a0) fun x167 => bnd (M.laws_toInt64S a1) fun x176 => bnd (M.impl_StandingOf x167 x176) fun x183 => bnd (M.laws_eqInt64S x183.1 x32.1) fun x209 => ifB (!x209) (M.laws_FnExactStandingOf_j3 x154 true) (M.laws_FnExactStandingOf_j3 x154 (x183.2 != x32.2)))))
def M.laws_FnExactStandingOf_j1 (a0 : Table) (a1 : List Int) (x32 : (List Int) × Int) (x39 : Table) (x51 : (List Int)) (x58 : (List Int) × Int) (s_j1 : Bool) : Option Bool :=
  ifB s_j1 (some false) (bnd (M.laws_toTable a0) fun x97 => bnd (M.laws_eqTable x39 x97) fun x106 => ifB (!x106) (some false) (bnd (M.laws_toInt64S a1) fun x112 => bnd (M.laws_eqInt64S x51 x112) fun x119 => ifB (!x119) (some false) (bnd (M.laws_markTable (Table.mk x39.Boats x39.Points x39.Codes) 1) fun x125 => bnd (M.laws_markInt64S x51 x125.1) fun x132 => ifB (decide (x132.1 < 0)) (M.laws_FnExactStandingOf_j2 a0 a1 x32 x58 true) (bnd (M.laws_eqInt64S x58.1 x32.1) fun x216 => ifB (!x216) (M.laws_FnExactStandingOf_j2 a0 a1 x32 x58 true) (M.laws_FnExactStandingOf_j2 a0 a1 x32 x58 (x58.2 != x32.2))))))
def M.laws_FnExactStandingOf (a0 : Table) (a1 : List Int) : Option Bool :=
  ifB (decide (1048576 < (a1.length : Int))) (some true) (bnd (M.laws_szTable a0 1048576) fun x10 => ifB (decide (x10 < 0)) (some true) (bnd (M.laws_toTable a0) fun x16 => bnd (M.laws_toInt64S a1) fun x25 => bnd (M.spec_StandingOf x16 x25) fun x32 => bnd (M.laws_toTable a0) fun x39 => bnd (M.laws_toInt64S a1) fun x51 => bnd (M.impl_StandingOf x39 x51) fun x58 => bnd (M.laws_eqInt64S x58.1 x32.1) fun x222 => ifB (!x222) (M.laws_FnExactStandingOf_j1 a0 a1 x32 x39 x51 x58 true) (M.laws_FnExactStandingOf_j1 a0 a1 x32 x39 x51 x58 (x58.2 != x32.2))))
def M.impl_LeadOf (a0 : Table) (a1 : List Int) : Option (Int × Int) :=
  bnd (M.impl_StandingOf a0 a1) fun x9 => ifB (x9.2 != 0) (some (0, x9.2)) (ifB (decide ((x9.1.length : Int) < 2)) (some (0, 5)) (bnd (idx x9.1 1) fun x18 => bnd (M.impl_netPoints a0 a1 x18) fun x25 => bnd (idx x9.1 0) fun x27 => bnd (M.impl_netPoints a0 a1 x27) fun x34 => some (w64 (x25 - x34), 0)))
def M.laws_FnExactLeadOf_j1 (a0 : Table) (a1 : List Int) (x37 : Table) (x49 : (List Int)) (s_j1 : Bool) : Option Bool :=
  ifB s_j1 (some false) (bnd (M.laws_toTable a0) fun x84 => bnd (M.laws_eqTable x37 x84) fun x93 => ifB (!x93) (some false) (bnd (M.laws_toInt64S a1) fun x99 => bnd (M.laws_eqInt64S x49 x99) fun x106 => ifB (!x106) (some false) (some true)))
def M.laws_FnExactLeadOf (a0 : Table) (a1 : List Int) : Option Bool :=
  ifB (decide (1048576 < (a1.length : Int))) (some true) (bnd (M.laws_szTable a0 1048576) fun x10 => ifB (decide (x10 < 0)) (some true) (bnd (M.laws_toTable a0) fun x16 => bnd (M.laws_toInt64S a1) fun x25 => bnd (M.spec_LeadOf x16 x25) fun x32 => bnd (M.laws_toTable a0) fun x37 => bnd (M.laws_toInt64S a1) fun x49 => bnd (M.impl_LeadOf x37 x49) fun x56 => ifB (x56.1 != x32.1) (M.laws_FnExactLeadOf_j1 a0 a1 x37 x49 true) (M.laws_FnExactLeadOf_j1 a0 a1 x37 x49 (x56.2 != x32.2))))
def M.impl_TiedBoats_1 (a0 : Int) (a1 : Int) (a2 : List Int) : Option Int :=
  bnd (idx a2 a0) fun x5 => bnd (idx a2 a1) fun x12 => some (w64 (x5 - x12))
def M.slices_IndexFunc_____int64___int64__a1 (s_l1 : Int) : Option Int :=
  some (-1)
def M.slices_IndexFunc_____int64___int64__l1 (a0 : List (List Int)) (a1 : (List Int) → Option Bool) (s_l1 : Int) : Option (Stp Int Int) :=
  ifB (decide (s_l1 < (a0.length : Int))) (bnd (idx a0 s_l1) fun x59 => bnd (a1 x59) fun x70 => ifB x70 (some (.ret s_l1)) (some (.cont (w64 (s_l1 + 1))))) (some (.brk s_l1))
def M.slices_IndexFunc_____int64___int64_ (a0 : List (List Int)) (a1 : (List Int) → Option Bool) : Option Int :=
  bnd (loopF (M.slices_IndexFunc_____int64___int64__l1 a0 a1) 0) fun o => outc o (fun x => some x) (fun s => M.slices_IndexFunc_____int64___int64__a1 s)
def M.spec_PlacesLost_j1 (a0 : Series) (a1 : List Penalty) (a2 : List Int) (a3 : Int) (s_j1 : Int) : Option (Int × Int) :=
  ifB (s_j1 != 0) (some (0, s_j1)) (bnd (M.spec_l21Table a0 a1) fun x83 => bnd (M.spec_l28Rank x83 a2 a3) fun x92 => bnd (M.spec_l21Table a0 ([] : List Penalty)) fun x97 => bnd (M.spec_l28Rank x97 a2 a3) fun x106 => some (w64 (x92 - x106), 0))
def M.spec_PlacesLost_j2 (a0 : Series) (a1 : List Penalty) (a2 : List Int) (a3 : Int) (x9 : Int) (s_j2 : Bool) : Option (Int × Int) :=
  ifB s_j2 (M.spec_PlacesLost_j1 a0 a1 a2 a3 2) (M.spec_PlacesLost_j1 a0 a1 a2 a3 x9)
def M.spec_PlacesLost (a0 : Series) (a1 : List Penalty) (a2 : List Int) (a3 : Int) : Option (Int × Int) :=
  bnd (M.spec_l21Result a0 a1) fun x9 => ifB (x9 == 0) (bnd (M.spec_IsDiscardRule a2) fun x133 => ifB (!x133) (M.spec_PlacesLost_j2 a0 a1 a2 a3 x9 true) (bnd (M.spec_l01In a3 0 (w64 (a0.Boats - 1))) fun x139 => M.spec_PlacesLost_j2 a0 a1 a2 a3 x9 (!x139))) (M.spec_PlacesLost_j2 a0 a1 a2 a3 x9 false)
def M.impl_PlacesLost_j1 (a0 : Series) (a1 : List Penalty) (a2 : List Int) (a3 : Int) (s_j1 : Bool) : Option (Int × Int) :=
  ifB s_j1 (some (0, 2)) (bnd (M.impl_penalizedTable a0 a1) fun x66 => bnd (M.impl_ranksOf x66 a2) fun x75 => bnd (M.impl_tableOf a0) fun x82 => bnd (M.impl_ranksOf x82 a2) fun x91 => bnd (idx x75 a3) fun x98 => bnd (idx x91 a3) fun x105 => some (w64 (x98 - x105), 0))
def M.impl_PlacesLost (a0 : Series) (a1 : List Penalty) (a2 : List Int) (a3 : Int) : Option (Int × Int) :=
  bnd (M.impl_penaltyCode a0 a1) fun x9 => ifB (x9 != 0) (some (0, x9)) (bnd (M.impl_IsDiscardRule a2) fun x113 => ifB (!x113) (M.impl_PlacesLost_j1 a0 a1 a2 a3 true) (bnd (M.impl_within a3 0 (w64 (a0.Boats - 1))) fun x119 => M.impl_PlacesLost_j1 a0 a1 a2 a3 (!x119)))
def M.laws_FnExactPlacesLost_j1 (a0 : Series) (a1 : List Penalty) (a2 : List Int) (x48 : Series) (x58 : (List Penalty)) (x65 : (List Int)) (s_j1 : Bool) : Option Bool :=
  ifB s_j1 (some false) (bnd (M.laws_toSeries a0) fun x100 => bnd (M.laws_eqSeries x48 x100) fun x107 => ifB (!x107) (some false) (bnd (M.laws_toPenaltyS a1) fun x113 => bnd (M.laws_eqPenaltyS x58 x113) fun x120 => ifB (!x120) (some false) (bnd (M.laws_toInt64S a2) fun x126 => bnd (M.laws_eqInt64S x65 x126) fun x133 => ifB (!x133) (some false) (some true))))
def M.laws_FnExactPlacesLost (a0 : Series) (a1 : List Penalty) (a2 : List Int) (a3 : Int) : Option Bool :=
  ifB (decide (1048576 < (a2.length : Int))) (some true) (bnd (M.laws_szSeries a0 1048576) fun x10 => ifB (decide (x10 < 0)) (some true) (bnd (M.laws_szPenaltyS a1 x10) fun x16 => ifB (decide (x16 < 0)) (some true) (bnd (M.laws_toSeries a0) fun x22 => bnd (M.laws_toPenaltyS a1) fun x29 => bnd (M.laws_toInt64S a2) fun x36 => bnd (M.spec_PlacesLost x22 x29 x36 a3) fun x43 => bnd (M.laws_toSeries a0) fun x48 => bnd (M.laws_toPenaltyS a1) fun x58 => bnd (M.laws_toInt64S a2) fun x65 => bnd (M.impl_PlacesLost x48 x58 x65 a3) fun x72 => ifB (x72.1 != x43.1) (M.laws_FnExactPlacesLost_j1 a0 a1 a2 x48 x58 x65 true) (M.laws_FnExactPlacesLost_j1 a0 a1 a2 x48 x58 x65 (x72.2 != x43.2)))))

end Go.Proofs.Ytpobaajdhfoomaa
