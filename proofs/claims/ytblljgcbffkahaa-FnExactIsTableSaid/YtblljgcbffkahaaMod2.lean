/- More models of the functions, printed by my generator. -/
import Derived.Test.YtblljgcbffkahaaMod
import Derived.Test.YtblljgcbffkahaaBase5
namespace Go.Proofs.Ytblljgcbffkahaa
open Go Go.RowKit Go.ChangeShapes Go.WideShapes
set_option linter.unusedVariables false
set_option linter.unusedSimpArgs false

def M.laws_FnExactIsRace (a0 : Int) (a1 : Race) : Option Bool :=
  bnd (M.laws_szRace a1 1048576) fun x5 => ifB (decide (x5 < 0)) (some true) (bnd (M.laws_toRace a1) fun x11 => bnd (M.spec_IsRace a0 x11) fun x18 => bnd (M.laws_toRace a1) fun x23 => bnd (M.impl_IsRace a0 x23) fun x33 => ifB (x33 != x18) (some false) (bnd (M.laws_toRace a1) fun x51 => bnd (M.laws_eqRace x23 x51) fun x58 => ifB (!x58) (some false) (some true)))
def M.laws_FnExactIsTable (a0 : Table) : Option Bool :=
  bnd (M.laws_szTable a0 1048576) fun x7 => ifB (decide (x7 < 0)) (some true) (bnd (M.laws_toTable a0) fun x13 => bnd (M.spec_IsTable x13) fun x22 => bnd (M.laws_toTable a0) fun x27 => bnd (M.impl_IsTable x27) fun x39 => ifB (x39 != x22) (some false) (bnd (M.laws_toTable a0) fun x59 => bnd (M.laws_eqTable x27 x59) fun x68 => ifB (!x68) (some false) (some true)))
def M.laws_FnExactIsSeries (a0 : Series) : Option Bool :=
  bnd (M.laws_szSeries a0 1048576) fun x5 => ifB (decide (x5 < 0)) (some true) (bnd (M.laws_toSeries a0) fun x11 => bnd (M.spec_IsSeries x11) fun x18 => bnd (M.laws_toSeries a0) fun x23 => bnd (M.impl_IsSeries x23) fun x33 => ifB (x33 != x18) (some false) (bnd (M.laws_toSeries a0) fun x51 => bnd (M.laws_eqSeries x23 x51) fun x58 => ifB (!x58) (some false) (some true)))
def M.spec_PlacesOf_a1 (s_l1 : (List Int) × Int) : Option ((List Int) × Int) :=
  some (s_l1.1, 0)
def M.spec_PlacesOf_j1 (s_l1 : (List Int) × Int) (s_j1 : (List Int)) : Option (Stp ((List Int) × Int) ((List Int) × Int)) :=
  some (.cont (s_j1, w64 (s_l1.2 + 1)))
def M.spec_PlacesOf_j2 (s_l1 : (List Int) × Int) (s_j2 : (List Int)) : Option (Stp ((List Int) × Int) ((List Int) × Int)) :=
  M.spec_PlacesOf_j1 s_l1 s_j2
def M.spec_PlacesOf_l1 (a0 : Int) (a1 : Race) (s_l1 : (List Int) × Int) : Option (Stp ((List Int) × Int) ((List Int) × Int)) :=
  ifB (decide (s_l1.2 < (s_l1.1.length : Int))) (bnd (idx a1.Finishes s_l1.2) fun x389 => bnd (M.spec_l26Done x389) fun x396 => ifB x396 (bnd (M.spec_l26Place a1 (List.replicate (a0).toNat (0 : Int)) s_l1.2) fun x402 => bnd (idx s_l1.1 s_l1.2) fun x407 => M.spec_PlacesOf_j2 s_l1 (s_l1.1.set (s_l1.2 : Int).toNat x402.1)) (M.spec_PlacesOf_j2 s_l1 s_l1.1)) (some (.brk (s_l1.1, s_l1.2)))
def M.spec_PlacesOf (a0 : Int) (a1 : Race) : Option ((List Int) × Int) :=
  bnd (M.spec_IsRace a0 a1) fun x5 => ifB (!x5) (some ([], 1)) (chk (0 ≤ a0 ∧ a0 < 1099511627776) (chk (0 ≤ a0 ∧ a0 < 1099511627776) (bnd (loopF (M.spec_PlacesOf_l1 a0 a1) (List.replicate (a0).toNat (0 : Int), 0)) fun o => outc o (fun x => some x) (fun s => M.spec_PlacesOf_a1 s))))
def M.impl_placesOf_a1 (s_l1 : (List Int) × (List Int) × Int) : Option ((List Int) × (List Int)) :=
  some (s_l1.1, s_l1.2.1)
def M.impl_placesOf_j1 (s_l1 : (List Int) × (List Int) × Int) (s_j1 : (List Int) × (List Int)) : Option (Stp ((List Int) × (List Int)) ((List Int) × (List Int) × Int)) :=
  some (.cont (s_j1.1, s_j1.2, w64 (s_l1.2.2 + 1)))
def M.impl_placesOf_j2 (s_l1 : (List Int) × (List Int) × Int) (s_j2 : (List Int) × (List Int)) : Option (Stp ((List Int) × (List Int)) ((List Int) × (List Int) × Int)) :=
  M.impl_placesOf_j1 s_l1 (s_j2.1, s_j2.2)
def M.impl_placesOf_a2 (s_l1 : (List Int) × (List Int) × Int) (s_l2 : (List Int) × (List Int) × Int) : Option (Stp ((List Int) × (List Int)) ((List Int) × (List Int) × Int)) :=
  M.impl_placesOf_j2 s_l1 (s_l2.1, s_l2.2.1)
def M.impl_placesOf_j3 (s_l2 : (List Int) × (List Int) × Int) (s_j3 : (List Int) × (List Int)) : Option (Stp ((List Int) × (List Int)) ((List Int) × (List Int) × Int)) :=
  some (.cont (s_j3.1, s_j3.2, w64 (s_l2.2.2 + 1)))
def M.impl_placesOf_j4 (s_l2 : (List Int) × (List Int) × Int) (s_j4 : (List Int) × (List Int)) : Option (Stp ((List Int) × (List Int)) ((List Int) × (List Int) × Int)) :=
  M.impl_placesOf_j3 s_l2 (s_j4.1, s_j4.2)
def M.impl_placesOf_j6 (s_l1 : (List Int) × (List Int) × Int) (s_l2 : (List Int) × (List Int) × Int) (s_j6 : Bool) : Option (Stp ((List Int) × (List Int)) ((List Int) × (List Int) × Int)) :=
  ifB s_j6 (bnd (idx s_l2.2.1 s_l1.2.2) fun x13237 => bnd (idx s_l2.2.1 s_l1.2.2) fun x13244 => M.impl_placesOf_j4 s_l2 (s_l2.1, s_l2.2.1.set (s_l1.2.2 : Int).toNat (w64 (x13237 + 1)))) (M.impl_placesOf_j4 s_l2 (s_l2.1, s_l2.2.1))
def M.impl_placesOf_j5 (s_l1 : (List Int) × (List Int) × Int) (x12163 : Finish) (s_l2 : (List Int) × (List Int) × Int) (x13179 : Finish) (s_j5 : Bool) : Option (Stp ((List Int) × (List Int)) ((List Int) × (List Int) × Int)) :=
  ifB s_j5 (bnd (idx s_l2.1 s_l1.2.2) fun x13206 => bnd (idx s_l2.1 s_l1.2.2) fun x13213 => M.impl_placesOf_j4 s_l2 (s_l2.1.set (s_l1.2.2 : Int).toNat (w64 (x13206 + 1)), s_l2.2.1)) (ifB (x13179.Code == 0) (M.impl_placesOf_j6 s_l1 s_l2 (x13179.Time == x12163.Time)) (M.impl_placesOf_j6 s_l1 s_l2 false))
def M.impl_placesOf_l2 (a0 : List Finish) (s_l1 : (List Int) × (List Int) × Int) (x12163 : Finish) (s_l2 : (List Int) × (List Int) × Int) : Option (Stp ((List Int) × (List Int)) ((List Int) × (List Int) × Int)) :=
  ifB (decide (s_l2.2.2 < (a0.length : Int))) (bnd (idx a0 s_l2.2.2) fun x13179 => ifB (x13179.Code == 0) (M.impl_placesOf_j5 s_l1 x12163 s_l2 x13179 (decide (x13179.Time < x12163.Time))) (M.impl_placesOf_j5 s_l1 x12163 s_l2 x13179 false)) (some (.brk (s_l2.1, s_l2.2.1, s_l2.2.2)))
def M.impl_placesOf_l1 (a0 : List Finish) (s_l1 : (List Int) × (List Int) × Int) : Option (Stp ((List Int) × (List Int)) ((List Int) × (List Int) × Int)) :=
  ifB (decide (s_l1.2.2 < (a0.length : Int))) (bnd (idx a0 s_l1.2.2) fun x12163 => ifB (x12163.Code != 0) (M.impl_placesOf_j2 s_l1 (s_l1.1, s_l1.2.1)) (bnd (idx s_l1.1 s_l1.2.2) fun x12174 => bnd (loopF (M.impl_placesOf_l2 a0 s_l1 x12163) (s_l1.1.set (s_l1.2.2 : Int).toNat 1, s_l1.2.1, 0)) fun o => outc o (fun x => some (.ret x)) (fun s => M.impl_placesOf_a2 s_l1 s))) (some (.brk (s_l1.1, s_l1.2.1, s_l1.2.2)))
def M.impl_placesOf (a0 : List Finish) : Option ((List Int) × (List Int)) :=
  chk (0 ≤ (a0.length : Int) ∧ (a0.length : Int) < 1099511627776) (chk (0 ≤ (a0.length : Int) ∧ (a0.length : Int) < 1099511627776) (bnd (loopF (M.impl_placesOf_l1 a0) (List.replicate ((a0.length : Int)).toNat (0 : Int), List.replicate ((a0.length : Int)).toNat (0 : Int), 0)) fun o => outc o (fun x => some x) (fun s => M.impl_placesOf_a1 s)))
def M.impl_PlacesOf (a0 : Int) (a1 : Race) : Option ((List Int) × Int) :=
  bnd (M.impl_IsRace a0 a1) fun x5 => ifB (!x5) (some ([], 1)) (bnd (M.impl_placesOf a1.Finishes) fun x11 => some (x11.1, 0))
def M.laws_markRace (a0 : Race) (a1 : Int) : Option ((Int) × Race) :=
  bnd (M.laws_markFinishS a0.Finishes a1) fun x7 => some (x7.1, (Race.mk x7.2))
def M.laws_FnExactPlacesOf_j3 (x106 : (Int) × (List Int)) (s_j3 : Bool) : Option Bool :=
  ifB s_j3 (some false) (bnd (M.laws_heldInt64S x106.2 1) fun x145 => ifB (decide (x145 < 0)) (some false) (ifB (x145 != x106.1) (some false) (some true)))
def M.laws_FnExactPlacesOf_j2 (a0 : Int) (a1 : Race) (x18 : (List Int) × Int) (x35 : (List Int) × Int) (s_j2 : Bool) : Option Bool :=
  ifB s_j2 (some false) (bnd (M.laws_markInt64S x35.1 1) fun x106 => bnd (M.laws_heldInt64S x106.2 1) fun x112 => ifB (decide (x112 < 0)) (some false) (ifB (x112 != x106.1) (some false) (bnd (M.laws_toRace a1) fun x119 => bnd (M.impl_PlacesOf a0 x119) fun x126 => bnd (M.laws_eqInt64S x126.1 x18.1) fun x152 => ifB (!x152) (M.laws_FnExactPlacesOf_j3 x106 true) (M.laws_FnExactPlacesOf_j3 x106 (x126.2 != x18.2)))))
def M.laws_FnExactPlacesOf_j1 (a0 : Int) (a1 : Race) (x18 : (List Int) × Int) (x25 : Race) (x35 : (List Int) × Int) (s_j1 : Bool) : Option Bool :=
  ifB s_j1 (some false) (bnd (M.laws_toRace a1) fun x71 => bnd (M.laws_eqRace x25 x71) fun x78 => ifB (!x78) (some false) (bnd (M.laws_markRace (Race.mk x25.Finishes) 1) fun x84 => ifB (decide (x84.1 < 0)) (M.laws_FnExactPlacesOf_j2 a0 a1 x18 x35 true) (bnd (M.laws_eqInt64S x35.1 x18.1) fun x159 => ifB (!x159) (M.laws_FnExactPlacesOf_j2 a0 a1 x18 x35 true) (M.laws_FnExactPlacesOf_j2 a0 a1 x18 x35 (x35.2 != x18.2)))))
def M.laws_FnExactPlacesOf (a0 : Int) (a1 : Race) : Option Bool :=
  bnd (M.laws_szRace a1 1048576) fun x5 => ifB (decide (x5 < 0)) (some true) (bnd (M.laws_toRace a1) fun x11 => bnd (M.spec_PlacesOf a0 x11) fun x18 => bnd (M.laws_toRace a1) fun x25 => bnd (M.impl_PlacesOf a0 x25) fun x35 => bnd (M.laws_eqInt64S x35.1 x18.1) fun x165 => ifB (!x165) (M.laws_FnExactPlacesOf_j1 a0 a1 x18 x25 x35 true) (M.laws_FnExactPlacesOf_j1 a0 a1 x18 x25 x35 (x35.2 != x18.2)))
def M.spec_DrawRacePoints (a0 : List UInt8) : Option (Int × Race × Int) :=
  bnd (M.spec_DrawIsRace a0) fun x5 => chk (([(UInt8.ofNat (1 : Int).toNat)] : List UInt8).length + a0.length < 1099511627776) (bnd (M.spec_l01From (([(UInt8.ofNat (1 : Int).toNat)] : List UInt8) ++ a0)) fun x22 => bnd (M.spec_l01Next (Src.mk (([(UInt8.ofNat (1 : Int).toNat)] : List UInt8) ++ a0) x22.1 x22.2) 2) fun x39 => bnd (M.spec_l01Next (Src.mk (([(UInt8.ofNat (1 : Int).toNat)] : List UInt8) ++ a0) x39.2.1 x39.2.2) 24) fun x44 => some (x5.1, x5.2, w64 (x39.1 + (w64 (2 * (w64 (x44.1.tdiv 23)))))))
def M.impl_racePoints_a1 (s_l1 : (List Int) × Int) : Option (List Int) :=
  some s_l1.1
def M.impl_racePoints_j1 (s_l1 : (List Int) × Int) (s_j1 : (List Int)) : Option (Stp (List Int) ((List Int) × Int)) :=
  some (.cont (s_j1, w64 (s_l1.2 + 1)))
def M.impl_racePoints_j2 (s_l1 : (List Int) × Int) (s_j2 : (List Int)) : Option (Stp (List Int) ((List Int) × Int)) :=
  M.impl_racePoints_j1 s_l1 s_j2
def M.impl_racePoints_l1 (a0 : List Finish) (a1 : Int) (x3 : (List Int) × (List Int)) (s_l1 : (List Int) × Int) : Option (Stp (List Int) ((List Int) × Int)) :=
  ifB (decide (s_l1.2 < (a0.length : Int))) (bnd (idx a0 s_l1.2) fun x869 => ifB (x869.Code == 0) (bnd (idx x3.1 s_l1.2) fun x901 => bnd (idx x3.2 s_l1.2) fun x908 => chk (s_l1.1.length + ([w64 (5 * (w64 ((w64 ((w64 (2 * x901)) + x908)) - 1)))] : List Int).length < 1099511627776) (M.impl_racePoints_j2 s_l1 (s_l1.1 ++ ([w64 (5 * (w64 ((w64 ((w64 (2 * x901)) + x908)) - 1)))] : List Int)))) (bnd (M.impl_codePoints a0 x869.Code a1) fun x922 => chk (s_l1.1.length + ([x922] : List Int).length < 1099511627776) (M.impl_racePoints_j2 s_l1 (s_l1.1 ++ ([x922] : List Int))))) (some (.brk (s_l1.1, s_l1.2)))
def M.impl_racePoints (a0 : List Finish) (a1 : Int) : Option (List Int) :=
  bnd (M.impl_placesOf a0) fun x3 => bnd (loopF (M.impl_racePoints_l1 a0 a1 x3) (([] : List Int), 0)) fun o => outc o (fun x => some x) (fun s => M.impl_racePoints_a1 s)
def M.impl_RacePoints (a0 : Int) (a1 : Race) (a2 : Int) : Option ((List Int) × Int) :=
  bnd (M.impl_IsRace a0 a1) fun x5 => ifB (!x5) (some ([], 1)) (bnd (M.impl_isScheme a2) fun x11 => ifB (!x11) (some ([], 2)) (bnd (M.impl_racePoints a1.Finishes a2) fun x17 => some (x17, 0)))
def M.spec_RacePoints (a0 : Int) (a1 : Race) (a2 : Int) : Option ((List Int) × Int) :=
  bnd (M.spec_IsRace a0 a1) fun x5 => ifB (!x5) (some ([], 1)) (bnd (M.spec_l01In a2 0 1) fun x11 => ifB (!x11) (some ([], 2)) (bnd (M.spec_l26Points a1 a2) fun x17 => some (x17, 0)))
def M.laws_FnRacePoints_j3 (s_j3 : Bool) : Option Bool :=
  some s_j3
def M.laws_FnRacePoints_a1 (x26 : Int × Race × Int) (s_l1 : Int × Bool × Int) : Option Bool :=
  ifB (!s_l1.2.1) (M.laws_FnRacePoints_j3 true) (M.laws_FnRacePoints_j3 (s_l1.1 == (w64 ((w64 (5 * x26.1)) * (w64 (x26.1 + 1))))))
def M.laws_FnRacePoints_a2 (s_l1 : Int × Bool × Int) (x839 : Int) (s_j4 : Bool) (s_l2 : Int) : Option (Stp Bool (Int × Bool × Int)) :=
  some (.cont (w64 (s_l1.1 + x839), s_j4, w64 (s_l1.2.2 + 1)))
def M.laws_FnRacePoints_j5 (s_l2 : Int) (s_j5 : Bool) : Option (Stp Bool Int) :=
  ifB s_j5 (some (.ret false)) (some (.cont (w64 (s_l2 + 1))))
def M.laws_FnRacePoints_l2 (x19 : (List Int) × Int) (x26 : Int × Race × Int) (x56 : (List Int) × Int) (s_l1 : Int × Bool × Int) (s_l2 : Int) : Option (Stp Bool Int) :=
  ifB (decide (s_l2 < x26.1)) (bnd (idx x56.1 s_l1.2.2) fun x1155 => ifB (decide (0 < x1155)) (bnd (idx x56.1 s_l2) fun x1163 => ifB (decide (0 < x1163)) (bnd (idx x56.1 s_l1.2.2) fun x1171 => bnd (idx x56.1 s_l2) fun x1178 => bnd (idx x19.1 s_l1.2.2) fun x1185 => bnd (idx x19.1 s_l2) fun x1192 => M.laws_FnRacePoints_j5 s_l2 ((decide (x1171 < x1178)) != (decide (x1185 < x1192)))) (M.laws_FnRacePoints_j5 s_l2 false)) (M.laws_FnRacePoints_j5 s_l2 false)) (some (.brk s_l2))
def M.laws_FnRacePoints_j4 (x19 : (List Int) × Int) (x26 : Int × Race × Int) (x56 : (List Int) × Int) (s_l1 : Int × Bool × Int) (x839 : Int) (s_j4 : Bool) : Option (Stp Bool (Int × Bool × Int)) :=
  bnd (loopF (M.laws_FnRacePoints_l2 x19 x26 x56 s_l1) 0) fun o => outc o (fun x => some (.ret x)) (fun s => M.laws_FnRacePoints_a2 s_l1 x839 s_j4 s)
def M.laws_FnRacePoints_l1 (x19 : (List Int) × Int) (x26 : Int × Race × Int) (x56 : (List Int) × Int) (s_l1 : Int × Bool × Int) : Option (Stp Bool (Int × Bool × Int)) :=
  ifB (decide (s_l1.2.2 < x26.1)) (bnd (idx x19.1 s_l1.2.2) fun x839 => ifB s_l1.2.1 (bnd (idx x56.1 s_l1.2.2) fun x1203 => M.laws_FnRacePoints_j4 x19 x26 x56 s_l1 x839 (decide (0 < x1203))) (M.laws_FnRacePoints_j4 x19 x26 x56 s_l1 x839 false)) (some (.brk (s_l1.1, s_l1.2.1, s_l1.2.2)))
def M.laws_FnRacePoints_j2 (x19 : (List Int) × Int) (x26 : Int × Race × Int) (x56 : (List Int) × Int) (s_j2 : Bool) : Option Bool :=
  ifB s_j2 (some false) (bnd (loopF (M.laws_FnRacePoints_l1 x19 x26 x56) (0, true, 0)) fun o => outc o (fun x => some x) (fun s => M.laws_FnRacePoints_a1 x26 s))
def M.laws_FnRacePoints_j1 (x19 : (List Int) × Int) (x26 : Int × Race × Int) (s_j1 : Bool) : Option Bool :=
  ifB s_j1 (some false) (ifB (x19.2 != 0) (some true) (bnd (M.impl_PlacesOf x26.1 x26.2.1) fun x56 => ifB (x56.2 != 0) (M.laws_FnRacePoints_j2 x19 x26 x56 true) (M.laws_FnRacePoints_j2 x19 x26 x56 ((x56.1.length : Int) != x26.1))))
def M.laws_FnRacePoints (a0 : List UInt8) : Option Bool :=
  bnd (M.laws_big a0) fun x3 => ifB x3 (some true) (bnd (M.spec_DrawRacePoints a0) fun x9 => bnd (M.impl_RacePoints x9.1 x9.2.1 x9.2.2) fun x19 => bnd (M.spec_DrawRacePoints a0) fun x26 => bnd (M.spec_RacePoints x26.1 x26.2.1 x26.2.2) fun x34 => ifB (x19.2 != x34.2) (M.laws_FnRacePoints_j1 x19 x26 true) (bnd (M.laws_likeInts x19.1 x34.1) fun x1212 => M.laws_FnRacePoints_j1 x19 x26 (!x1212)))
def M.laws_FnExactRacePoints_j3 (x108 : (Int) × (List Int)) (s_j3 : Bool) : Option Bool :=
  ifB s_j3 (some false) (bnd (M.laws_heldInt64S x108.2 1) fun x147 => ifB (decide (x147 < 0)) (some false) (ifB (x147 != x108.1) (some false) (some true)))
def M.laws_FnExactRacePoints_j2 (a0 : Int) (a1 : Race) (a2 : Int) (x18 : (List Int) × Int) (x35 : (List Int) × Int) (s_j2 : Bool) : Option Bool :=
  ifB s_j2 (some false) (bnd (M.laws_markInt64S x35.1 1) fun x108 => bnd (M.laws_heldInt64S x108.2 1) fun x114 => ifB (decide (x114 < 0)) (some false) (ifB (x114 != x108.1) (some false) (bnd (M.laws_toRace a1) fun x121 => bnd (M.impl_RacePoints a0 x121 a2) fun x128 => bnd (M.laws_eqInt64S x128.1 x18.1) fun x154 => ifB (!x154) (M.laws_FnExactRacePoints_j3 x108 true) (M.laws_FnExactRacePoints_j3 x108 (x128.2 != x18.2)))))
def M.laws_FnExactRacePoints_j1 (a0 : Int) (a1 : Race) (a2 : Int) (x18 : (List Int) × Int) (x25 : Race) (x35 : (List Int) × Int) (s_j1 : Bool) : Option Bool :=
  ifB s_j1 (some false) (bnd (M.laws_toRace a1) fun x72 => bnd (M.laws_eqRace x25 x72) fun x79 => ifB (!x79) (some false) (bnd (M.laws_markRace (Race.mk x25.Finishes) 1) fun x85 => ifB (decide (x85.1 < 0)) (M.laws_FnExactRacePoints_j2 a0 a1 a2 x18 x35 true) (bnd (M.laws_eqInt64S x35.1 x18.1) fun x161 => ifB (!x161) (M.laws_FnExactRacePoints_j2 a0 a1 a2 x18 x35 true) (M.laws_FnExactRacePoints_j2 a0 a1 a2 x18 x35 (x35.2 != x18.2)))))
def M.laws_FnExactRacePoints (a0 : Int) (a1 : Race) (a2 : Int) : Option Bool :=
  bnd (M.laws_szRace a1 1048576) fun x5 => ifB (decide (x5 < 0)) (some true) (bnd (M.laws_toRace a1) fun x11 => bnd (M.spec_RacePoints a0 x11 a2) fun x18 => bnd (M.laws_toRace a1) fun x25 => bnd (M.impl_RacePoints a0 x25 a2) fun x35 => bnd (M.laws_eqInt64S x35.1 x18.1) fun x167 => ifB (!x167) (M.laws_FnExactRacePoints_j1 a0 a1 a2 x18 x25 x35 true) (M.laws_FnExactRacePoints_j1 a0 a1 a2 x18 x25 x35 (x35.2 != x18.2)))
def M.spec_DrawTableOf (a0 : List UInt8) : Option Series :=
  bnd (M.spec_l01From a0) fun x5 => bnd (M.spec_l26DrawSeries (Src.mk a0 x5.1 x5.2)) fun x11 => some x11.1
def M.impl_tableOf_a1 (a0 : Series) (s_l1 : (List (List Int)) × (List (List Int)) × Int) : Option Table :=
  some (Table.mk a0.Boats s_l1.1 s_l1.2.1)
def M.impl_tableOf_a2 (a0 : Series) (s_l1 : (List (List Int)) × (List (List Int)) × Int) (x344 : Race) (s_l2 : (List Int) × Int) : Option (Stp Table ((List (List Int)) × (List (List Int)) × Int)) :=
  bnd (M.impl_racePoints x344.Finishes a0.Scheme) fun x441 => chk (s_l1.1.length + ([x441] : List (List Int)).length < 1099511627776) (chk (s_l1.2.1.length + ([s_l2.1] : List (List Int)).length < 1099511627776) (some (.cont (s_l1.1 ++ ([x441] : List (List Int)), s_l1.2.1 ++ ([s_l2.1] : List (List Int)), w64 (s_l1.2.2 + 1)))))
def M.impl_tableOf_l2 (x344 : Race) (s_l2 : (List Int) × Int) : Option (Stp Table ((List Int) × Int)) :=
  ifB (decide (s_l2.2 < (x344.Finishes.length : Int))) (bnd (idx x344.Finishes s_l2.2) fun x1234 => chk (s_l2.1.length + ([x1234.Code] : List Int).length < 1099511627776) (some (.cont (s_l2.1 ++ ([x1234.Code] : List Int), w64 (s_l2.2 + 1))))) (some (.brk (s_l2.1, s_l2.2)))
def M.impl_tableOf_l1 (a0 : Series) (s_l1 : (List (List Int)) × (List (List Int)) × Int) : Option (Stp Table ((List (List Int)) × (List (List Int)) × Int)) :=
  ifB (decide (s_l1.2.2 < (a0.Races.length : Int))) (bnd (idx a0.Races s_l1.2.2) fun x344 => bnd (loopF (M.impl_tableOf_l2 x344) (([] : List Int), 0)) fun o => outc o (fun x => some (.ret x)) (fun s => M.impl_tableOf_a2 a0 s_l1 x344 s)) (some (.brk (s_l1.1, s_l1.2.1, s_l1.2.2)))
def M.impl_tableOf (a0 : Series) : Option Table :=
  bnd (loopF (M.impl_tableOf_l1 a0) ([], [], 0)) fun o => outc o (fun x => some x) (fun s => M.impl_tableOf_a1 a0 s)
def M.impl_TableOf (a0 : Series) : Option (Table × Int) :=
  bnd (M.impl_IsSeries a0) fun x7 => ifB (!x7) (some ((Table.mk 0 [] []), 1)) (bnd (M.impl_tableOf a0) fun x14 => some (x14, 0))
def M.spec_TableOf_a1 (a0 : Series) (s_l1 : (List (List Int)) × (List (List Int)) × Int) : Option (Table × Int) :=
  some ((Table.mk a0.Boats s_l1.1 s_l1.2.1), 0)
def M.spec_TableOf_a2 (a0 : Series) (s_l1 : (List (List Int)) × (List (List Int)) × Int) (s_l2 : (List Int) × Int) : Option (Stp (Table × Int) ((List (List Int)) × (List (List Int)) × Int)) :=
  bnd (idx a0.Races s_l1.2.2) fun x597 => bnd (M.spec_l26Points x597 a0.Scheme) fun x608 => chk (s_l1.1.length + ([x608] : List (List Int)).length < 1099511627776) (chk (s_l1.2.1.length + ([s_l2.1] : List (List Int)).length < 1099511627776) (some (.cont (s_l1.1 ++ ([x608] : List (List Int)), s_l1.2.1 ++ ([s_l2.1] : List (List Int)), w64 (s_l1.2.2 + 1)))))
def M.spec_TableOf_l2 (a0 : Series) (s_l1 : (List (List Int)) × (List (List Int)) × Int) (s_l2 : (List Int) × Int) : Option (Stp (Table × Int) ((List Int) × Int)) :=
  bnd (idx a0.Races s_l1.2.2) fun x1342 => ifB (decide (s_l2.2 < (x1342.Finishes.length : Int))) (bnd (idx a0.Races s_l1.2.2) fun x1354 => bnd (idx x1354.Finishes s_l2.2) fun x1365 => chk (s_l2.1.length + ([x1365.Code] : List Int).length < 1099511627776) (some (.cont (s_l2.1 ++ ([x1365.Code] : List Int), w64 (s_l2.2 + 1))))) (some (.brk (s_l2.1, s_l2.2)))
def M.spec_TableOf_l1 (a0 : Series) (s_l1 : (List (List Int)) × (List (List Int)) × Int) : Option (Stp (Table × Int) ((List (List Int)) × (List (List Int)) × Int)) :=
  ifB (decide (s_l1.2.2 < (a0.Races.length : Int))) (bnd (loopF (M.spec_TableOf_l2 a0 s_l1) (([] : List Int), 0)) fun o => outc o (fun x => some (.ret x)) (fun s => M.spec_TableOf_a2 a0 s_l1 s)) (some (.brk (s_l1.1, s_l1.2.1, s_l1.2.2)))
def M.spec_TableOf (a0 : Series) : Option (Table × Int) :=
  bnd (M.spec_IsSeries a0) fun x7 => ifB (!x7) (some ((Table.mk 0 [] []), 1)) (bnd (loopF (M.spec_TableOf_l1 a0) (([] : List (List Int)), ([] : List (List Int)), 0)) fun o => outc o (fun x => some x) (fun s => M.spec_TableOf_a1 a0 s))
def M.laws_FnTables_j2 (s_j2 : Bool) : Option Bool :=
  some s_j2
def M.laws_FnTables_a1 (x19 : Table × Int) (x31 : Series) (x39 : Table × Int) (s_l1 : Int) : Option Bool :=
  ifB ((x19.1.Points.length : Int) == (x31.Races.length : Int)) (bnd (M.impl_IsTable x39.1) fun x278 => M.laws_FnTables_j2 x278) (M.laws_FnTables_j2 false)
def M.laws_FnTables_j3 (s_l1 : Int) (s_j3 : Bool) : Option (Stp Bool Int) :=
  ifB s_j3 (some (.ret false)) (some (.cont (w64 (s_l1 + 1))))
def M.laws_FnTables_l1 (x19 : Table × Int) (x31 : Series) (s_l1 : Int) : Option (Stp Bool Int) :=
  ifB (decide (s_l1 < (x31.Races.length : Int))) (bnd (idx x31.Races s_l1) fun x318 => bnd (M.impl_RacePoints x31.Boats x318 x31.Scheme) fun x329 => ifB (x329.2 != 0) (M.laws_FnTables_j3 s_l1 true) (bnd (idx x19.1.Points s_l1) fun x366 => bnd (M.laws_likeInts x329.1 x366) fun x377 => M.laws_FnTables_j3 s_l1 (!x377))) (some (.brk s_l1))
def M.laws_FnTables_j1 (x19 : Table × Int) (x31 : Series) (x39 : Table × Int) (s_j1 : Bool) : Option Bool :=
  ifB s_j1 (some false) (ifB (x19.2 != 0) (some true) (bnd (loopF (M.laws_FnTables_l1 x19 x31) 0) fun o => outc o (fun x => some x) (fun s => M.laws_FnTables_a1 x19 x31 x39 s)))
def M.laws_FnTables (a0 : List UInt8) : Option Bool :=
  bnd (M.laws_big a0) fun x3 => ifB x3 (some true) (bnd (M.spec_DrawTableOf a0) fun x9 => bnd (M.impl_TableOf x9) fun x19 => bnd (M.spec_DrawTableOf a0) fun x31 => bnd (M.spec_TableOf x31) fun x39 => ifB (x19.2 != x39.2) (M.laws_FnTables_j1 x19 x31 x39 true) (bnd (M.laws_w6Tables x19.1 x39.1) fun x383 => ifB (!x383) (M.laws_FnTables_j1 x19 x31 x39 true) (bnd (M.impl_IsSeries x31) fun x389 => M.laws_FnTables_j1 x19 x31 x39 (x389 != (x19.2 == 0)))))
def M.spec_FinishOrder_a1 (s_l1 : (List Int) × (List Int) × Int) : Option ((List Int) × Int) :=
  chk (s_l1.1.length + s_l1.2.1.length < 1099511627776) (some (s_l1.1 ++ s_l1.2.1, 0))
def M.spec_FinishOrder_j1 (s_l1 : (List Int) × (List Int) × Int) (s_j1 : (List Int) × (List Int)) : Option (Stp ((List Int) × Int) ((List Int) × (List Int) × Int)) :=
  some (.cont (s_j1.1, s_j1.2, w64 (s_l1.2.2 + 1)))
def M.spec_FinishOrder_j2 (s_l1 : (List Int) × (List Int) × Int) (s_j2 : (List Int) × (List Int)) : Option (Stp ((List Int) × Int) ((List Int) × (List Int) × Int)) :=
  M.spec_FinishOrder_j1 s_l1 (s_j2.1, s_j2.2)
def M.spec_FinishOrder_a2 (s_l1 : (List Int) × (List Int) × Int) (s_l2 : Int) : Option (Stp ((List Int) × Int) ((List Int) × (List Int) × Int)) :=
  chk (0 ≤ (0 : Int) ∧ (0 : Int) ≤ s_l2 ∧ s_l2 ≤ (s_l1.1.length : Int)) (chk (([] : List Int).length + (subL s_l1.1 0 s_l2).length < 1099511627776) (chk ((([] : List Int) ++ (subL s_l1.1 0 s_l2)).length + ([s_l1.2.2] : List Int).length < 1099511627776) (chk (0 ≤ (s_l2 : Int) ∧ (s_l2 : Int) ≤ (s_l1.1.length : Int) ∧ (s_l1.1.length : Int) ≤ (s_l1.1.length : Int)) (chk (((([] : List Int) ++ (subL s_l1.1 0 s_l2)) ++ ([s_l1.2.2] : List Int)).length + (subL s_l1.1 s_l2 (s_l1.1.length : Int)).length < 1099511627776) (M.spec_FinishOrder_j2 s_l1 (((([] : List Int) ++ (subL s_l1.1 0 s_l2)) ++ ([s_l1.2.2] : List Int)) ++ (subL s_l1.1 s_l2 (s_l1.1.length : Int)), s_l1.2.1))))))
def M.spec_FinishOrder_j3 (s_l2 : Int) (s_j3 : Bool) : Option (Stp ((List Int) × Int) Int) :=
  ifB s_j3 (some (.cont (w64 (s_l2 - 1)))) (some (.brk s_l2))
def M.spec_FinishOrder_l2 (a1 : Race) (s_l1 : (List Int) × (List Int) × Int) (x2393 : Finish) (s_l2 : Int) : Option (Stp ((List Int) × Int) Int) :=
  ifB (decide (0 < s_l2)) (bnd (idx s_l1.1 (w64 (s_l2 - 1))) fun x2581 => bnd (idx a1.Finishes x2581) fun x2588 => M.spec_FinishOrder_j3 s_l2 (decide (x2393.Time < x2588.Time))) (M.spec_FinishOrder_j3 s_l2 false)
def M.spec_FinishOrder_l1 (a0 : Int) (a1 : Race) (s_l1 : (List Int) × (List Int) × Int) : Option (Stp ((List Int) × Int) ((List Int) × (List Int) × Int)) :=
  ifB (decide (s_l1.2.2 < a0)) (bnd (idx a1.Finishes s_l1.2.2) fun x2393 => bnd (M.spec_l26Done x2393) fun x2403 => ifB (!x2403) (chk (s_l1.2.1.length + ([s_l1.2.2] : List Int).length < 1099511627776) (M.spec_FinishOrder_j2 s_l1 (s_l1.1, s_l1.2.1 ++ ([s_l1.2.2] : List Int)))) (bnd (loopF (M.spec_FinishOrder_l2 a1 s_l1 x2393) (s_l1.1.length : Int)) fun o => outc o (fun x => some (.ret x)) (fun s => M.spec_FinishOrder_a2 s_l1 s))) (some (.brk (s_l1.1, s_l1.2.1, s_l1.2.2)))
def M.spec_FinishOrder (a0 : Int) (a1 : Race) : Option ((List Int) × Int) :=
  bnd (M.spec_IsRace a0 a1) fun x5 => ifB (!x5) (some ([], 1)) (bnd (loopF (M.spec_FinishOrder_l1 a0 a1) (([] : List Int), ([] : List Int), 0)) fun o => outc o (fun x => some x) (fun s => M.spec_FinishOrder_a1 s))
def M.impl_FinishOrder_1 (a0 : Int) (a1 : Int) (a2 : Race) : Option Int :=
  bnd (idx a2.Finishes a0) fun x25 => bnd (idx a2.Finishes a1) fun x32 => ifB ((x25.Code == 0) != (x32.Code == 0)) (some (w64 ((min x25.Code 1) - (min x32.Code 1)))) (some (w64 (x25.Time - x32.Time)))
def M.impl_sortedIndices_1 (a0 : Int) (a1 : Int) (a2 : Int → Int → Option Int) : Option Int :=
  bnd (a2 a0 a1) fun x6 => bnd (M.impl_sign x6) fun x11 => some x11
def M.slices_insertionSortCmpFunc_int64__a1 (s_l1 : (List Int) × Int) : Option ((Unit) × (List Int)) :=
  some ((), s_l1.1)
def M.slices_insertionSortCmpFunc_int64__a2 (s_l1 : (List Int) × Int) (s_l2 : (List Int) × Int) : Option (Stp ((Unit) × (List Int)) ((List Int) × Int)) :=
  some (.cont (s_l2.1, w64 (s_l1.2 + 1)))
def M.slices_insertionSortCmpFunc_int64__j1 (s_l2 : (List Int) × Int) (s_j1 : Bool) : Option (Stp ((Unit) × (List Int)) ((List Int) × Int)) :=
  ifB s_j1 (bnd (idx s_l2.1 (w64 (s_l2.2 - 1))) fun x1164 => bnd (idx s_l2.1 s_l2.2) fun x1171 => bnd (idx s_l2.1 s_l2.2) fun x1180 => bnd (idx (s_l2.1.set (s_l2.2 : Int).toNat x1164) (w64 (s_l2.2 - 1))) fun x1188 => some (.cont ((s_l2.1.set (s_l2.2 : Int).toNat x1164).set (w64 (s_l2.2 - 1) : Int).toNat x1171, w64 (s_l2.2 - 1)))) (some (.brk (s_l2.1, s_l2.2)))
def M.slices_insertionSortCmpFunc_int64__l2 (a1 : Int) (a3 : Int → Int → Option Int) (s_l2 : (List Int) × Int) : Option (Stp ((Unit) × (List Int)) ((List Int) × Int)) :=
  ifB (decide (a1 < s_l2.2)) (bnd (idx s_l2.1 s_l2.2) fun x1213 => bnd (idx s_l2.1 (w64 (s_l2.2 - 1))) fun x1220 => bnd (a3 x1213 x1220) fun x1227 => M.slices_insertionSortCmpFunc_int64__j1 s_l2 (decide (x1227 < 0))) (M.slices_insertionSortCmpFunc_int64__j1 s_l2 false)
def M.slices_insertionSortCmpFunc_int64__l1 (a1 : Int) (a2 : Int) (a3 : Int → Int → Option Int) (s_l1 : (List Int) × Int) : Option (Stp ((Unit) × (List Int)) ((List Int) × Int)) :=
  ifB (decide (s_l1.2 < a2)) (bnd (loopF (M.slices_insertionSortCmpFunc_int64__l2 a1 a3) (s_l1.1, s_l1.2)) fun o => outc o (fun x => some (.ret x)) (fun s => M.slices_insertionSortCmpFunc_int64__a2 s_l1 s)) (some (.brk (s_l1.1, s_l1.2)))
def M.slices_insertionSortCmpFunc_int64_ (a0 : List Int) (a1 : Int) (a2 : Int) (a3 : Int → Int → Option Int) : Option ((Unit) × (List Int)) :=
  bnd (loopF (M.slices_insertionSortCmpFunc_int64__l1 a1 a2 a3) (a0, w64 (a1 + 1))) fun o => outc o (fun x => some x) (fun s => M.slices_insertionSortCmpFunc_int64__a1 s)
def M.slices_stableCmpFunc_int64__a2 (x36 : (Unit) × (List Int)) (s_l2 : Int) : Option ((Unit) × (List Int)) :=
  some ((), x36.2)
def M.slices_stableCmpFunc_int64__j1 (s_l2 : Int) (s_j1 : Unit) : Option (Stp ((Unit) × (List Int)) Int) :=
  some (.cont (w64 (s_l2 * 2)))
def M.slices_stableCmpFunc_int64__a3 (a1 : Int) (s_l2 : Int) (s_l3 : Unit) : Option (Stp ((Unit) × (List Int)) Int) :=
  ifB (decide ((w64 (0 + s_l2)) < a1)) (none) (M.slices_stableCmpFunc_int64__j1 s_l2 ())
def M.slices_stableCmpFunc_int64__l3 (a1 : Int) (s_l2 : Int) (s_l3 : Unit) : Option (Stp ((Unit) × (List Int)) Unit) :=
  ifB (decide ((w64 (2 * s_l2)) ≤ a1)) (none) (some (.brk ()))
def M.slices_stableCmpFunc_int64__l2 (a1 : Int) (s_l2 : Int) : Option (Stp ((Unit) × (List Int)) Int) :=
  ifB (decide (s_l2 < a1)) (bnd (loopF (M.slices_stableCmpFunc_int64__l3 a1 s_l2) ()) fun o => outc o (fun x => some (.ret x)) (fun s => M.slices_stableCmpFunc_int64__a3 a1 s_l2 s)) (some (.brk s_l2))
def M.slices_stableCmpFunc_int64__a1 (a1 : Int) (a2 : Int → Int → Option Int) (s_l1 : (List Int) × Int × Int) : Option ((Unit) × (List Int)) :=
  bnd (M.slices_insertionSortCmpFunc_int64_ s_l1.1 s_l1.2.1 a1 a2) fun x36 => bnd (loopF (M.slices_stableCmpFunc_int64__l2 a1) 20) fun o => outc o (fun x => some x) (fun s => M.slices_stableCmpFunc_int64__a2 x36 s)
def M.slices_stableCmpFunc_int64__l1 (a1 : Int) (a2 : Int → Int → Option Int) (s_l1 : (List Int) × Int × Int) : Option (Stp ((Unit) × (List Int)) ((List Int) × Int × Int)) :=
  ifB (decide (s_l1.2.2 ≤ a1)) (bnd (M.slices_insertionSortCmpFunc_int64_ s_l1.1 s_l1.2.1 s_l1.2.2 a2) fun x160 => some (.cont (x160.2, s_l1.2.2, w64 (s_l1.2.2 + 20)))) (some (.brk (s_l1.1, s_l1.2.1, s_l1.2.2)))
def M.slices_stableCmpFunc_int64_ (a0 : List Int) (a1 : Int) (a2 : Int → Int → Option Int) : Option ((Unit) × (List Int)) :=
  bnd (loopF (M.slices_stableCmpFunc_int64__l1 a1 a2) (a0, 0, 20)) fun o => outc o (fun x => some x) (fun s => M.slices_stableCmpFunc_int64__a1 a1 a2 s)
def M.slices_SortStableFunc___int64_int64_ (a0 : List Int) (a1 : Int → Int → Option Int) : Option ((Unit) × (List Int)) :=
  bnd (M.slices_stableCmpFunc_int64_ a0 (a0.length : Int) a1) fun x8 => some ((), x8.2)
def M.impl_sortedIndices_a1 (a1 : Int → Int → Option Int) (s_l1 : (List Int) × Int) : Option (List Int) :=
  bnd (M.slices_SortStableFunc___int64_int64_ s_l1.1 (fun y0 y1 => M.impl_sortedIndices_1 y0 y1 a1)) fun x39 => some x39.2
def M.impl_sortedIndices_l1 (a0 : Int) (s_l1 : (List Int) × Int) : Option (Stp (List Int) ((List Int) × Int)) :=
  ifB (decide (s_l1.2 < a0)) (chk (s_l1.1.length + ([s_l1.2] : List Int).length < 1099511627776) (some (.cont (s_l1.1 ++ ([s_l1.2] : List Int), w64 (s_l1.2 + 1))))) (some (.brk (s_l1.1, s_l1.2)))
def M.impl_sortedIndices (a0 : Int) (a1 : Int → Int → Option Int) : Option (List Int) :=
  bnd (loopF (M.impl_sortedIndices_l1 a0) (([] : List Int), 0)) fun o => outc o (fun x => some x) (fun s => M.impl_sortedIndices_a1 a1 s)
def M.impl_FinishOrder (a0 : Int) (a1 : Race) : Option ((List Int) × Int) :=
  bnd (M.impl_IsRace a0 a1) fun x5 => ifB (!x5) (some ([], 1)) (bnd (M.impl_sortedIndices (a1.Finishes.length : Int) (fun y0 y1 => M.impl_FinishOrder_1 y0 y1 a1)) fun x11 => some (x11, 0))
def M.laws_FnExactFinishOrder_j3 (x106 : (Int) × (List Int)) (s_j3 : Bool) : Option Bool :=
  ifB s_j3 (some false) (bnd (M.laws_heldInt64S x106.2 1) fun x145 => ifB (decide (x145 < 0)) (some false) (ifB (x145 != x106.1) (some false) (some true)))
def M.laws_FnExactFinishOrder_j2 (a0 : Int) (a1 : Race) (x18 : (List Int) × Int) (x35 : (List Int) × Int) (s_j2 : Bool) : Option Bool :=
  ifB s_j2 (some false) (bnd (M.laws_markInt64S x35.1 1) fun x106 => bnd (M.laws_heldInt64S x106.2 1) fun x112 => ifB (decide (x112 < 0)) (some false) (ifB (x112 != x106.1) (some false) (bnd (M.laws_toRace a1) fun x119 => bnd (M.impl_FinishOrder a0 x119) fun x126 => bnd (M.laws_eqInt64S x126.1 x18.1) fun x152 => ifB (!x152) (M.laws_FnExactFinishOrder_j3 x106 true) (M.laws_FnExactFinishOrder_j3 x106 (x126.2 != x18.2)))))
def M.laws_FnExactFinishOrder_j1 (a0 : Int) (a1 : Race) (x18 : (List Int) × Int) (x25 : Race) (x35 : (List Int) × Int) (s_j1 : Bool) : Option Bool :=
  ifB s_j1 (some false) (bnd (M.laws_toRace a1) fun x71 => bnd (M.laws_eqRace x25 x71) fun x78 => ifB (!x78) (some false) (bnd (M.laws_markRace (Race.mk x25.Finishes) 1) fun x84 => ifB (decide (x84.1 < 0)) (M.laws_FnExactFinishOrder_j2 a0 a1 x18 x35 true) (bnd (M.laws_eqInt64S x35.1 x18.1) fun x159 => ifB (!x159) (M.laws_FnExactFinishOrder_j2 a0 a1 x18 x35 true) (M.laws_FnExactFinishOrder_j2 a0 a1 x18 x35 (x35.2 != x18.2)))))
def M.laws_FnExactFinishOrder (a0 : Int) (a1 : Race) : Option Bool :=
  bnd (M.laws_szRace a1 1048576) fun x5 => ifB (decide (x5 < 0)) (some true) (bnd (M.laws_toRace a1) fun x11 => bnd (M.spec_FinishOrder a0 x11) fun x18 => bnd (M.laws_toRace a1) fun x25 => bnd (M.impl_FinishOrder a0 x25) fun x35 => bnd (M.laws_eqInt64S x35.1 x18.1) fun x165 => ifB (!x165) (M.laws_FnExactFinishOrder_j1 a0 a1 x18 x25 x35 true) (M.laws_FnExactFinishOrder_j1 a0 a1 x18 x25 x35 (x35.2 != x18.2)))
def M.spec_DrawFinishOrder (a0 : List UInt8) : Option (Int × Race) :=
  bnd (M.spec_DrawIsRace a0) fun x5 => some (x5.1, x5.2)
def M.laws_FnFinishOrder_a2 (s_l2 : Int) : Option Bool :=
  some true
def M.laws_FnFinishOrder_j3 (s_l2 : Int) (s_j3 : Bool) : Option (Stp Bool Int) :=
  ifB s_j3 (some (.ret false)) (some (.cont (w64 (s_l2 + 1))))
def M.laws_FnFinishOrder_l2 (x19 : (List Int) × Int) (x34 : (List Int) × Int) (x63 : (List Int) × Int) (s_l2 : Int) : Option (Stp Bool Int) :=
  ifB (decide (s_l2 < (x19.1.length : Int))) (bnd (idx x34.1 (w64 (s_l2 - 1))) fun x216 => bnd (idx x63.1 x216) fun x223 => bnd (idx x34.1 s_l2) fun x230 => bnd (idx x63.1 x230) fun x237 => ifB (x223 == 0) (ifB (decide (0 < x237)) (M.laws_FnFinishOrder_j3 s_l2 true) (ifB (decide (0 < x223)) (M.laws_FnFinishOrder_j3 s_l2 false) (M.laws_FnFinishOrder_j3 s_l2 false))) (ifB (decide (0 < x223)) (ifB (decide (0 < x237)) (M.laws_FnFinishOrder_j3 s_l2 (decide (x237 < x223))) (M.laws_FnFinishOrder_j3 s_l2 false)) (M.laws_FnFinishOrder_j3 s_l2 false))) (some (.brk s_l2))
def M.laws_FnFinishOrder_a1 (x19 : (List Int) × Int) (x34 : (List Int) × Int) (x63 : (List Int) × Int) (s_l1 : Int) : Option Bool :=
  bnd (loopF (M.laws_FnFinishOrder_l2 x19 x34 x63) 1) fun o => outc o (fun x => some x) (fun s => M.laws_FnFinishOrder_a2 s)
def M.laws_FnFinishOrder_l1 (x19 : (List Int) × Int) (x26 : Int × Race) (s_l1 : Int) : Option (Stp Bool Int) :=
  ifB (decide (s_l1 < x26.1)) (bnd (M.laws_hasInt x19.1 s_l1) fun x270 => ifB (!x270) (some (.ret false)) (some (.cont (w64 (s_l1 + 1))))) (some (.brk s_l1))
def M.laws_FnFinishOrder_j2 (x19 : (List Int) × Int) (x26 : Int × Race) (x34 : (List Int) × Int) (x63 : (List Int) × Int) (s_j2 : Bool) : Option Bool :=
  ifB s_j2 (some false) (bnd (loopF (M.laws_FnFinishOrder_l1 x19 x26) 0) fun o => outc o (fun x => some x) (fun s => M.laws_FnFinishOrder_a1 x19 x34 x63 s))
def M.laws_FnFinishOrder_j1 (x19 : (List Int) × Int) (x26 : Int × Race) (x34 : (List Int) × Int) (s_j1 : Bool) : Option Bool :=
  ifB s_j1 (some false) (ifB (x19.2 != 0) (some true) (bnd (M.impl_PlacesOf x26.1 x26.2) fun x63 => ifB (x63.2 != 0) (M.laws_FnFinishOrder_j2 x19 x26 x34 x63 true) (ifB ((x63.1.length : Int) != x26.1) (M.laws_FnFinishOrder_j2 x19 x26 x34 x63 true) (M.laws_FnFinishOrder_j2 x19 x26 x34 x63 ((x19.1.length : Int) != x26.1)))))
def M.laws_FnFinishOrder (a0 : List UInt8) : Option Bool :=
  bnd (M.laws_big a0) fun x3 => ifB x3 (some true) (bnd (M.spec_DrawFinishOrder a0) fun x9 => bnd (M.impl_FinishOrder x9.1 x9.2) fun x19 => bnd (M.spec_DrawFinishOrder a0) fun x26 => bnd (M.spec_FinishOrder x26.1 x26.2) fun x34 => ifB (x19.2 != x34.2) (M.laws_FnFinishOrder_j1 x19 x26 x34 true) (bnd (M.laws_likeInts x19.1 x34.1) fun x279 => ifB (!x279) (M.laws_FnFinishOrder_j1 x19 x26 x34 true) (bnd (M.impl_IsRace x26.1 x26.2) fun x285 => M.laws_FnFinishOrder_j1 x19 x26 x34 (x285 != (x19.2 == 0)))))
def M.laws_markSeries (a0 : Series) (a1 : Int) : Option ((Int) × Series) :=
  bnd (M.laws_markRaceS a0.Races a1) fun x7 => some (x7.1, (Series.mk a0.Boats a0.Scheme x7.2))
def M.laws_markTable (a0 : Table) (a1 : Int) : Option ((Int) × Table) :=
  bnd (M.laws_markInt64SS a0.Points a1) fun x10 => bnd (M.laws_markInt64SS a0.Codes x10.1) fun x16 => some (x16.1, (Table.mk a0.Boats x10.2 x16.2))
def M.laws_FnExactTableOf_j3 (x40 : Table × Int) (x114 : (Int) × Table) (s_j3 : Bool) : Option Bool :=
  ifB s_j3 (some false) (bnd (M.laws_heldTable (Table.mk x40.1.Boats x114.2.Points x114.2.Codes) 1) fun x159 => ifB (decide (x159 < 0)) (some false) (ifB (x159 != x114.1) (some false) (some true)))
def M.laws_FnExactTableOf_j2 (a0 : Series) (x18 : Table × Int) (x40 : Table × Int) (s_j2 : Bool) : Option Bool :=
  ifB s_j2 (some false) (bnd (M.laws_markTable (Table.mk x40.1.Boats x40.1.Points x40.1.Codes) 1) fun x114 => bnd (M.laws_heldTable (Table.mk x40.1.Boats x114.2.Points x114.2.Codes) 1) fun x121 => ifB (decide (x121 < 0)) (some false) (ifB (x121 != x114.1) (some false) (bnd (M.laws_toSeries a0) fun x128 => bnd (M.impl_TableOf x128) fun x135 => bnd (M.laws_eqTable x135.1 x18.1) fun x166 => ifB (!x166) (M.laws_FnExactTableOf_j3 x40 x114 true) (M.laws_FnExactTableOf_j3 x40 x114 (x135.2 != x18.2)))))
def M.laws_FnExactTableOf_j1 (a0 : Series) (x18 : Table × Int) (x30 : Series) (x40 : Table × Int) (s_j1 : Bool) : Option Bool :=
  ifB s_j1 (some false) (bnd (M.laws_toSeries a0) fun x80 => bnd (M.laws_eqSeries x30 x80) fun x87 => ifB (!x87) (some false) (bnd (M.laws_markSeries (Series.mk x30.Boats x30.Scheme x30.Races) 1) fun x93 => ifB (decide (x93.1 < 0)) (M.laws_FnExactTableOf_j2 a0 x18 x40 true) (bnd (M.laws_eqTable x40.1 x18.1) fun x173 => ifB (!x173) (M.laws_FnExactTableOf_j2 a0 x18 x40 true) (M.laws_FnExactTableOf_j2 a0 x18 x40 (x40.2 != x18.2)))))
def M.laws_FnExactTableOf (a0 : Series) : Option Bool :=
  bnd (M.laws_szSeries a0 1048576) fun x5 => ifB (decide (x5 < 0)) (some true) (bnd (M.laws_toSeries a0) fun x11 => bnd (M.spec_TableOf x11) fun x18 => bnd (M.laws_toSeries a0) fun x30 => bnd (M.impl_TableOf x30) fun x40 => bnd (M.laws_eqTable x40.1 x18.1) fun x179 => ifB (!x179) (M.laws_FnExactTableOf_j1 a0 x18 x30 x40 true) (M.laws_FnExactTableOf_j1 a0 x18 x30 x40 (x40.2 != x18.2)))
def M.impl_discardsOf_1 (a0 : Int) (a1 : Int) (a2 : Table) (a3 : Int) : Option Int :=
  bnd (idx a2.Points a1) fun x9 => bnd (idx x9 a3) fun x20 => bnd (idx a2.Points a0) fun x27 => bnd (idx x27 a3) fun x38 => some (w64 (x20 - x38))
def M.math_bits_Len (a0 : Int) : Option Int :=
  none
def M.cmp_isNaN_int64_ (a0 : Int) : Option Bool :=
  some (a0 != a0)
def M.cmp_Less_int64__j1 (s_j1 : Bool) : Option Bool :=
  some s_j1
def M.cmp_Less_int64_ (a0 : Int) (a1 : Int) : Option Bool :=
  bnd (M.cmp_isNaN_int64_ a0) fun x16 => ifB x16 (bnd (M.cmp_isNaN_int64_ a1) fun x22 => ifB (!x22) (M.cmp_Less_int64__j1 true) (M.cmp_Less_int64__j1 (decide (a0 < a1)))) (M.cmp_Less_int64__j1 (decide (a0 < a1)))
def M.slices_insertionSortOrdered_int64__a1 (s_l1 : (List Int) × Int) : Option ((Unit) × (List Int)) :=
  some ((), s_l1.1)
def M.slices_insertionSortOrdered_int64__a2 (s_l1 : (List Int) × Int) (s_l2 : (List Int) × Int) : Option (Stp ((Unit) × (List Int)) ((List Int) × Int)) :=
  some (.cont (s_l2.1, w64 (s_l1.2 + 1)))
def M.slices_insertionSortOrdered_int64__j1 (s_l2 : (List Int) × Int) (s_j1 : Bool) : Option (Stp ((Unit) × (List Int)) ((List Int) × Int)) :=
  ifB s_j1 (bnd (idx s_l2.1 (w64 (s_l2.2 - 1))) fun x1144 => bnd (idx s_l2.1 s_l2.2) fun x1151 => bnd (idx s_l2.1 s_l2.2) fun x1160 => bnd (idx (s_l2.1.set (s_l2.2 : Int).toNat x1144) (w64 (s_l2.2 - 1))) fun x1168 => some (.cont ((s_l2.1.set (s_l2.2 : Int).toNat x1144).set (w64 (s_l2.2 - 1) : Int).toNat x1151, w64 (s_l2.2 - 1)))) (some (.brk (s_l2.1, s_l2.2)))
def M.slices_insertionSortOrdered_int64__l2 (a1 : Int) (s_l2 : (List Int) × Int) : Option (Stp ((Unit) × (List Int)) ((List Int) × Int)) :=
  ifB (decide (a1 < s_l2.2)) (bnd (idx s_l2.1 s_l2.2) fun x1193 => bnd (idx s_l2.1 (w64 (s_l2.2 - 1))) fun x1200 => bnd (M.cmp_Less_int64_ x1193 x1200) fun x1207 => M.slices_insertionSortOrdered_int64__j1 s_l2 x1207) (M.slices_insertionSortOrdered_int64__j1 s_l2 false)
def M.slices_insertionSortOrdered_int64__l1 (a1 : Int) (a2 : Int) (s_l1 : (List Int) × Int) : Option (Stp ((Unit) × (List Int)) ((List Int) × Int)) :=
  ifB (decide (s_l1.2 < a2)) (bnd (loopF (M.slices_insertionSortOrdered_int64__l2 a1) (s_l1.1, s_l1.2)) fun o => outc o (fun x => some (.ret x)) (fun s => M.slices_insertionSortOrdered_int64__a2 s_l1 s)) (some (.brk (s_l1.1, s_l1.2)))
def M.slices_insertionSortOrdered_int64_ (a0 : List Int) (a1 : Int) (a2 : Int) : Option ((Unit) × (List Int)) :=
  bnd (loopF (M.slices_insertionSortOrdered_int64__l1 a1 a2) (a0, w64 (a1 + 1))) fun o => outc o (fun x => some x) (fun s => M.slices_insertionSortOrdered_int64__a1 s)
def M.slices_Index___int64_int64__a1 (s_l1 : Int) : Option Int :=
  some (-1)
def M.slices_Index___int64_int64__l1 (a0 : List Int) (a1 : Int) (s_l1 : Int) : Option (Stp Int Int) :=
  ifB (decide (s_l1 < (a0.length : Int))) (bnd (idx a0 s_l1) fun x38 => ifB (a1 == x38) (some (.ret s_l1)) (some (.cont (w64 (s_l1 + 1))))) (some (.brk s_l1))
def M.slices_Index___int64_int64_ (a0 : List Int) (a1 : Int) : Option Int :=
  bnd (loopF (M.slices_Index___int64_int64__l1 a0 a1) 0) fun o => outc o (fun x => some x) (fun s => M.slices_Index___int64_int64__a1 s)
def M.slices_Contains___int64_int64_ (a0 : List Int) (a1 : Int) : Option Bool :=
  bnd (M.slices_Index___int64_int64_ a0 a1) fun x3 => some (decide (0 ≤ x3))

end Go.Proofs.Ytblljgcbffkahaa
