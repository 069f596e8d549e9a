/- More models of the functions, printed by my generator. -/
import Derived.Test.YtngegaodnokmbaaDoorMod
import Derived.Test.YtngegaodnokmbaaDoorBase5
namespace Go.Proofs.YtngegaodnokmbaaDoor
open Go Go.RowKit Go.ChangeShapes Go.WideShapes
set_option linter.unusedVariables false
set_option linter.unusedSimpArgs false

def M.impl_placesOf_a1 (s_l1 : (List Int) × (List Int) × Int) : Option ((List Int) × (List Int)) :=
  some (s_l1.1, s_l1.2.1)
def M.impl_placesOf_j1 (s_l1 : (List Int) × (List Int) × Int) (s_j1 : (List Int) × (List Int)) : Option (Stp ((List Int) × (List Int)) ((List Int) × (List Int) × Int)) :=
  some (.cont (s_j1.1, s_j1.2, w64 (s_l1.2.2 + 1)))
def M.impl_placesOf_j2 (s_l1 : (List Int) × (List Int) × Int) (s_j2 : (List Int) × (List Int)) : Option (Stp ((List Int) × (List Int)) ((List Int) × (List Int) × Int)) :=
  M.impl_placesOf_j1 s_l1 (s_j2.1, s_j2.2)
def M.impl_placesOf_a2 (s_l1 : (List Int) × (List Int) × Int) (s_l2 : (List Int) × (List Int) × Int) : Option (Stp ((List Int) × (List Int)) ((List Int) × (List Int) × Int)) :=
  M.impl_placesOf_j2 s_l1 (s_l2.1, s_l2.2.1)
def M.impl_placesOf_j3 (s_l2 : (List Int) × (List Int) × Int) (s_j3 : (List Int) × (List Int)) : Option (Stp ((List Int) × (List Int)) ((List Int) × (List Int) × Int)) :=
  some (.cont (s_j3.1, s_j3.2, w64 (s_l2.2.2 + 1)))
def M.impl_placesOf_j4 (s_l2 : (List Int) × (List Int) × Int) (s_j4 : (List Int) × (List Int)) : Option (Stp ((List Int) × (List Int)) ((List Int) × (List Int) × Int)) :=
  M.impl_placesOf_j3 s_l2 (s_j4.1, s_j4.2)
def M.impl_placesOf_j6 (s_l1 : (List Int) × (List Int) × Int) (s_l2 : (List Int) × (List Int) × Int) (s_j6 : Bool) : Option (Stp ((List Int) × (List Int)) ((List Int) × (List Int) × Int)) :=
  ifB s_j6 (bnd (idx s_l2.2.1 s_l1.2.2) fun x13237 => bnd (idx s_l2.2.1 s_l1.2.2) fun x13244 => M.impl_placesOf_j4 s_l2 (s_l2.1, s_l2.2.1.set (s_l1.2.2 : Int).toNat (w64 (x13237 + 1)))) (M.impl_placesOf_j4 s_l2 (s_l2.1, s_l2.2.1))
def M.impl_placesOf_j5 (s_l1 : (List Int) × (List Int) × Int) (x12163 : Finish) (s_l2 : (List Int) × (List Int) × Int) (x13179 : Finish) (s_j5 : Bool) : Option (Stp ((List Int) × (List Int)) ((List Int) × (List Int) × Int)) :=
  ifB s_j5 (bnd (idx s_l2.1 s_l1.2.2) fun x13206 => bnd (idx s_l2.1 s_l1.2.2) fun x13213 => M.impl_placesOf_j4 s_l2 (s_l2.1.set (s_l1.2.2 : Int).toNat (w64 (x13206 + 1)), s_l2.2.1)) (ifB (x13179.Code == 0) (M.impl_placesOf_j6 s_l1 s_l2 (x13179.Time == x12163.Time)) (M.impl_placesOf_j6 s_l1 s_l2 false))
def M.impl_placesOf_l2 (a0 : List Finish) (s_l1 : (List Int) × (List Int) × Int) (x12163 : Finish) (s_l2 : (List Int) × (List Int) × Int) : Option (Stp ((List Int) × (List Int)) ((List Int) × (List Int) × Int)) :=
  ifB (decide (s_l2.2.2 < (a0.length : Int))) (bnd (idx a0 s_l2.2.2) fun x13179 => ifB (x13179.Code == 0) (M.impl_placesOf_j5 s_l1 x12163 s_l2 x13179 (decide (x13179.Time < x12163.Time))) (M.impl_placesOf_j5 s_l1 x12163 s_l2 x13179 false)) (some (.brk (s_l2.1, s_l2.2.1, s_l2.2.2)))
def M.impl_placesOf_l1 (a0 : List Finish) (s_l1 : (List Int) × (List Int) × Int) : Option (Stp ((List Int) × (List Int)) ((List Int) × (List Int) × Int)) :=
  ifB (decide (s_l1.2.2 < (a0.length : Int))) (bnd (idx a0 s_l1.2.2) fun x12163 => ifB (x12163.Code != 0) (M.impl_placesOf_j2 s_l1 (s_l1.1, s_l1.2.1)) (bnd (idx s_l1.1 s_l1.2.2) fun x12174 => bnd (loopF (M.impl_placesOf_l2 a0 s_l1 x12163) (s_l1.1.set (s_l1.2.2 : Int).toNat 1, s_l1.2.1, 0)) fun o => outc o (fun x => some (.ret x)) (fun s => M.impl_placesOf_a2 s_l1 s))) (some (.brk (s_l1.1, s_l1.2.1, s_l1.2.2)))
def M.impl_placesOf (a0 : List Finish) : Option ((List Int) × (List Int)) :=
  chk (0 ≤ (a0.length : Int) ∧ (a0.length : Int) < 1099511627776) (chk (0 ≤ (a0.length : Int) ∧ (a0.length : Int) < 1099511627776) (bnd (loopF (M.impl_placesOf_l1 a0) (List.replicate ((a0.length : Int)).toNat (0 : Int), List.replicate ((a0.length : Int)).toNat (0 : Int), 0)) fun o => outc o (fun x => some x) (fun s => M.impl_placesOf_a1 s)))
def M.laws_markRace (a0 : Race) (a1 : Int) : Option ((Int) × Race) :=
  bnd (M.laws_markFinishS a0.Finishes a1) fun x7 => some (x7.1, (Race.mk x7.2))
def M.impl_racePoints_a1 (s_l1 : (List Int) × Int) : Option (List Int) :=
  some s_l1.1
def M.impl_racePoints_j1 (s_l1 : (List Int) × Int) (s_j1 : (List Int)) : Option (Stp (List Int) ((List Int) × Int)) :=
  some (.cont (s_j1, w64 (s_l1.2 + 1)))
def M.impl_racePoints_j2 (s_l1 : (List Int) × Int) (s_j2 : (List Int)) : Option (Stp (List Int) ((List Int) × Int)) :=
  M.impl_racePoints_j1 s_l1 s_j2
def M.impl_racePoints_l1 (a0 : List Finish) (a1 : Int) (x3 : (List Int) × (List Int)) (s_l1 : (List Int) × Int) : Option (Stp (List Int) ((List Int) × Int)) :=
  ifB (decide (s_l1.2 < (a0.length : Int))) (bnd (idx a0 s_l1.2) fun x869 => ifB (x869.Code == 0) (bnd (idx x3.1 s_l1.2) fun x901 => bnd (idx x3.2 s_l1.2) fun x908 => chk (s_l1.1.length + ([w64 (5 * (w64 ((w64 ((w64 (2 * x901)) + x908)) - 1)))] : List Int).length < 1099511627776) (M.impl_racePoints_j2 s_l1 (s_l1.1 ++ ([w64 (5 * (w64 ((w64 ((w64 (2 * x901)) + x908)) - 1)))] : List Int)))) (bnd (M.impl_codePoints a0 x869.Code a1) fun x922 => chk (s_l1.1.length + ([x922] : List Int).length < 1099511627776) (M.impl_racePoints_j2 s_l1 (s_l1.1 ++ ([x922] : List Int))))) (some (.brk (s_l1.1, s_l1.2)))
def M.impl_racePoints (a0 : List Finish) (a1 : Int) : Option (List Int) :=
  bnd (M.impl_placesOf a0) fun x3 => bnd (loopF (M.impl_racePoints_l1 a0 a1 x3) (([] : List Int), 0)) fun o => outc o (fun x => some x) (fun s => M.impl_racePoints_a1 s)
def M.impl_tableOf_a1 (a0 : Series) (s_l1 : (List (List Int)) × (List (List Int)) × Int) : Option Table :=
  some (Table.mk a0.Boats s_l1.1 s_l1.2.1)
def M.impl_tableOf_a2 (a0 : Series) (s_l1 : (List (List Int)) × (List (List Int)) × Int) (x344 : Race) (s_l2 : (List Int) × Int) : Option (Stp Table ((List (List Int)) × (List (List Int)) × Int)) :=
  bnd (M.impl_racePoints x344.Finishes a0.Scheme) fun x441 => chk (s_l1.1.length + ([x441] : List (List Int)).length < 1099511627776) (chk (s_l1.2.1.length + ([s_l2.1] : List (List Int)).length < 1099511627776) (some (.cont (s_l1.1 ++ ([x441] : List (List Int)), s_l1.2.1 ++ ([s_l2.1] : List (List Int)), w64 (s_l1.2.2 + 1)))))
def M.impl_tableOf_l2 (x344 : Race) (s_l2 : (List Int) × Int) : Option (Stp Table ((List Int) × Int)) :=
  ifB (decide (s_l2.2 < (x344.Finishes.length : Int))) (bnd (idx x344.Finishes s_l2.2) fun x1234 => chk (s_l2.1.length + ([x1234.Code] : List Int).length < 1099511627776) (some (.cont (s_l2.1 ++ ([x1234.Code] : List Int), w64 (s_l2.2 + 1))))) (some (.brk (s_l2.1, s_l2.2)))
def M.impl_tableOf_l1 (a0 : Series) (s_l1 : (List (List Int)) × (List (List Int)) × Int) : Option (Stp Table ((List (List Int)) × (List (List Int)) × Int)) :=
  ifB (decide (s_l1.2.2 < (a0.Races.length : Int))) (bnd (idx a0.Races s_l1.2.2) fun x344 => bnd (loopF (M.impl_tableOf_l2 x344) (([] : List Int), 0)) fun o => outc o (fun x => some (.ret x)) (fun s => M.impl_tableOf_a2 a0 s_l1 x344 s)) (some (.brk (s_l1.1, s_l1.2.1, s_l1.2.2)))
def M.impl_tableOf (a0 : Series) : Option Table :=
  bnd (loopF (M.impl_tableOf_l1 a0) ([], [], 0)) fun o => outc o (fun x => some x) (fun s => M.impl_tableOf_a1 a0 s)
def M.spec_TableOf_a1 (a0 : Series) (s_l1 : (List (List Int)) × (List (List Int)) × Int) : Option (Table × Int) :=
  some ((Table.mk a0.Boats s_l1.1 s_l1.2.1), 0)
def M.spec_TableOf_a2 (a0 : Series) (s_l1 : (List (List Int)) × (List (List Int)) × Int) (s_l2 : (List Int) × Int) : Option (Stp (Table × Int) ((List (List Int)) × (List (List Int)) × Int)) :=
  bnd (idx a0.Races s_l1.2.2) fun x597 => bnd (M.spec_l26Points x597 a0.Scheme) fun x608 => chk (s_l1.1.length + ([x608] : List (List Int)).length < 1099511627776) (chk (s_l1.2.1.length + ([s_l2.1] : List (List Int)).length < 1099511627776) (some (.cont (s_l1.1 ++ ([x608] : List (List Int)), s_l1.2.1 ++ ([s_l2.1] : List (List Int)), w64 (s_l1.2.2 + 1)))))
def M.spec_TableOf_l2 (a0 : Series) (s_l1 : (List (List Int)) × (List (List Int)) × Int) (s_l2 : (List Int) × Int) : Option (Stp (Table × Int) ((List Int) × Int)) :=
  bnd (idx a0.Races s_l1.2.2) fun x1342 => ifB (decide (s_l2.2 < (x1342.Finishes.length : Int))) (bnd (idx a0.Races s_l1.2.2) fun x1354 => bnd (idx x1354.Finishes s_l2.2) fun x1365 => chk (s_l2.1.length + ([x1365.Code] : List Int).length < 1099511627776) (some (.cont (s_l2.1 ++ ([x1365.Code] : List Int), w64 (s_l2.2 + 1))))) (some (.brk (s_l2.1, s_l2.2)))
def M.spec_TableOf_l1 (a0 : Series) (s_l1 : (List (List Int)) × (List (List Int)) × Int) : Option (Stp (Table × Int) ((List (List Int)) × (List (List Int)) × Int)) :=
  ifB (decide (s_l1.2.2 < (a0.Races.length : Int))) (bnd (loopF (M.spec_TableOf_l2 a0 s_l1) (([] : List Int), 0)) fun o => outc o (fun x => some (.ret x)) (fun s => M.spec_TableOf_a2 a0 s_l1 s)) (some (.brk (s_l1.1, s_l1.2.1, s_l1.2.2)))
def M.spec_TableOf (a0 : Series) : Option (Table × Int) :=
  bnd (M.spec_IsSeries a0) fun x7 => ifB (!x7) (some ((Table.mk 0 [] []), 1)) (bnd (loopF (M.spec_TableOf_l1 a0) (([] : List (List Int)), ([] : List (List Int)), 0)) fun o => outc o (fun x => some x) (fun s => M.spec_TableOf_a1 a0 s))
def M.impl_sortedIndices_1 (a0 : Int) (a1 : Int) (a2 : Int → Int → Option Int) : Option Int :=
  bnd (a2 a0 a1) fun x6 => bnd (M.impl_sign x6) fun x11 => some x11
def M.slices_insertionSortCmpFunc_int64__a1 (s_l1 : (List Int) × Int) : Option ((Unit) × (List Int)) :=
  some ((), s_l1.1)
def M.slices_insertionSortCmpFunc_int64__a2 (s_l1 : (List Int) × Int) (s_l2 : (List Int) × Int) : Option (Stp ((Unit) × (List Int)) ((List Int) × Int)) :=
  some (.cont (s_l2.1, w64 (s_l1.2 + 1)))
def M.slices_insertionSortCmpFunc_int64__j1 (s_l2 : (List Int) × Int) (s_j1 : Bool) : Option (Stp ((Unit) × (List Int)) ((List Int) × Int)) :=
  ifB s_j1 (bnd (idx s_l2.1 (w64 (s_l2.2 - 1))) fun x1164 => bnd (idx s_l2.1 s_l2.2) fun x1171 => bnd (idx s_l2.1 s_l2.2) fun x1180 => bnd (idx (s_l2.1.set (s_l2.2 : Int).toNat x1164) (w64 (s_l2.2 - 1))) fun x1188 => some (.cont ((s_l2.1.set (s_l2.2 : Int).toNat x1164).set (w64 (s_l2.2 - 1) : Int).toNat x1171, w64 (s_l2.2 - 1)))) (some (.brk (s_l2.1, s_l2.2)))
def M.slices_insertionSortCmpFunc_int64__l2 (a1 : Int) (a3 : Int → Int → Option Int) (s_l2 : (List Int) × Int) : Option (Stp ((Unit) × (List Int)) ((List Int) × Int)) :=
  ifB (decide (a1 < s_l2.2)) (bnd (idx s_l2.1 s_l2.2) fun x1213 => bnd (idx s_l2.1 (w64 (s_l2.2 - 1))) fun x1220 => bnd (a3 x1213 x1220) fun x1227 => M.slices_insertionSortCmpFunc_int64__j1 s_l2 (decide (x1227 < 0))) (M.slices_insertionSortCmpFunc_int64__j1 s_l2 false)
def M.slices_insertionSortCmpFunc_int64__l1 (a1 : Int) (a2 : Int) (a3 : Int → Int → Option Int) (s_l1 : (List Int) × Int) : Option (Stp ((Unit) × (List Int)) ((List Int) × Int)) :=
  ifB (decide (s_l1.2 < a2)) (bnd (loopF (M.slices_insertionSortCmpFunc_int64__l2 a1 a3) (s_l1.1, s_l1.2)) fun o => outc o (fun x => some (.ret x)) (fun s => M.slices_insertionSortCmpFunc_int64__a2 s_l1 s)) (some (.brk (s_l1.1, s_l1.2)))
def M.slices_insertionSortCmpFunc_int64_ (a0 : List Int) (a1 : Int) (a2 : Int) (a3 : Int → Int → Option Int) : Option ((Unit) × (List Int)) :=
  bnd (loopF (M.slices_insertionSortCmpFunc_int64__l1 a1 a2 a3) (a0, w64 (a1 + 1))) fun o => outc o (fun x => some x) (fun s => M.slices_insertionSortCmpFunc_int64__a1 s)
def M.slices_stableCmpFunc_int64__a2 (x36 : (Unit) × (List Int)) (s_l2 : Int) : Option ((Unit) × (List Int)) :=
  some ((), x36.2)
def M.slices_stableCmpFunc_int64__j1 (s_l2 : Int) (s_j1 : Unit) : Option (Stp ((Unit) × (List Int)) Int) :=
  some (.cont (w64 (s_l2 * 2)))
def M.slices_stableCmpFunc_int64__a3 (a1 : Int) (s_l2 : Int) (s_l3 : Unit) : Option (Stp ((Unit) × (List Int)) Int) :=
  ifB (decide ((w64 (0 + s_l2)) < a1)) (none) (M.slices_stableCmpFunc_int64__j1 s_l2 ())
def M.slices_stableCmpFunc_int64__l3 (a1 : Int) (s_l2 : Int) (s_l3 : Unit) : Option (Stp ((Unit) × (List Int)) Unit) :=
  ifB (decide ((w64 (2 * s_l2)) ≤ a1)) (none) (some (.brk ()))
def M.slices_stableCmpFunc_int64__l2 (a1 : Int) (s_l2 : Int) : Option (Stp ((Unit) × (List Int)) Int) :=
  ifB (decide (s_l2 < a1)) (bnd (loopF (M.slices_stableCmpFunc_int64__l3 a1 s_l2) ()) fun o => outc o (fun x => some (.ret x)) (fun s => M.slices_stableCmpFunc_int64__a3 a1 s_l2 s)) (some (.brk s_l2))
def M.slices_stableCmpFunc_int64__a1 (a1 : Int) (a2 : Int → Int → Option Int) (s_l1 : (List Int) × Int × Int) : Option ((Unit) × (List Int)) :=
  bnd (M.slices_insertionSortCmpFunc_int64_ s_l1.1 s_l1.2.1 a1 a2) fun x36 => bnd (loopF (M.slices_stableCmpFunc_int64__l2 a1) 20) fun o => outc o (fun x => some x) (fun s => M.slices_stableCmpFunc_int64__a2 x36 s)
def M.slices_stableCmpFunc_int64__l1 (a1 : Int) (a2 : Int → Int → Option Int) (s_l1 : (List Int) × Int × Int) : Option (Stp ((Unit) × (List Int)) ((List Int) × Int × Int)) :=
  ifB (decide (s_l1.2.2 ≤ a1)) (bnd (M.slices_insertionSortCmpFunc_int64_ s_l1.1 s_l1.2.1 s_l1.2.2 a2) fun x160 => some (.cont (x160.2, s_l1.2.2, w64 (s_l1.2.2 + 20)))) (some (.brk (s_l1.1, s_l1.2.1, s_l1.2.2)))
def M.slices_stableCmpFunc_int64_ (a0 : List Int) (a1 : Int) (a2 : Int → Int → Option Int) : Option ((Unit) × (List Int)) :=
  bnd (loopF (M.slices_stableCmpFunc_int64__l1 a1 a2) (a0, 0, 20)) fun o => outc o (fun x => some x) (fun s => M.slices_stableCmpFunc_int64__a1 a1 a2 s)
def M.slices_SortStableFunc___int64_int64_ (a0 : List Int) (a1 : Int → Int → Option Int) : Option ((Unit) × (List Int)) :=
  bnd (M.slices_stableCmpFunc_int64_ a0 (a0.length : Int) a1) fun x8 => some ((), x8.2)
def M.impl_sortedIndices_a1 (a1 : Int → Int → Option Int) (s_l1 : (List Int) × Int) : Option (List Int) :=
  bnd (M.slices_SortStableFunc___int64_int64_ s_l1.1 (fun y0 y1 => M.impl_sortedIndices_1 y0 y1 a1)) fun x39 => some x39.2
def M.impl_sortedIndices_l1 (a0 : Int) (s_l1 : (List Int) × Int) : Option (Stp (List Int) ((List Int) × Int)) :=
  ifB (decide (s_l1.2 < a0)) (chk (s_l1.1.length + ([s_l1.2] : List Int).length < 1099511627776) (some (.cont (s_l1.1 ++ ([s_l1.2] : List Int), w64 (s_l1.2 + 1))))) (some (.brk (s_l1.1, s_l1.2)))
def M.impl_sortedIndices (a0 : Int) (a1 : Int → Int → Option Int) : Option (List Int) :=
  bnd (loopF (M.impl_sortedIndices_l1 a0) (([] : List Int), 0)) fun o => outc o (fun x => some x) (fun s => M.impl_sortedIndices_a1 a1 s)
def M.impl_penalizedSeries_a3 (a0 : Series) (s_l3 : (List Race) × Int) : Option Series :=
  some (Series.mk a0.Boats a0.Scheme s_l3.1)
def M.impl_penalizedSeries_j1 (s_l3 : (List Race) × Int) (s_j1 : (List Race)) : Option (Stp Series ((List Race) × Int)) :=
  some (.cont (s_j1, w64 (s_l3.2 + 1)))
def M.impl_penalizedSeries_j2 (s_l3 : (List Race) × Int) (s_j2 : (List Race)) : Option (Stp Series ((List Race) × Int)) :=
  M.impl_penalizedSeries_j1 s_l3 s_j2
def M.impl_penalizedSeries_l3 (a1 : List Penalty) (s_l3 : (List Race) × Int) : Option (Stp Series ((List Race) × Int)) :=
  ifB (decide (s_l3.2 < (a1.length : Int))) (bnd (idx a1 s_l3.2) fun x1186 => ifB (x1186.Kind == 1) (bnd (idx s_l3.1 x1186.Race) fun x1199 => bnd (idx x1199.Finishes x1186.Boat) fun x1210 => M.impl_penalizedSeries_j2 s_l3 (s_l3.1.set (x1186.Race : Int).toNat (Race.mk (x1199.Finishes.set (x1186.Boat : Int).toNat (Finish.mk x1186.Boat x1186.Value 0))))) (M.impl_penalizedSeries_j2 s_l3 s_l3.1)) (some (.brk (s_l3.1, s_l3.2)))
def M.impl_penalizedSeries_a2 (a0 : Series) (a1 : List Penalty) (s_l2 : (List Race) × Int) : Option Series :=
  bnd (loopF (M.impl_penalizedSeries_l3 a1) (s_l2.1, 0)) fun o => outc o (fun x => some x) (fun s => M.impl_penalizedSeries_a3 a0 s)
def M.impl_penalizedSeries_j3 (s_l2 : (List Race) × Int) (s_j3 : (List Race)) : Option (Stp Series ((List Race) × Int)) :=
  some (.cont (s_j3, w64 (s_l2.2 + 1)))
def M.impl_penalizedSeries_j4 (s_l2 : (List Race) × Int) (s_j4 : (List Race)) : Option (Stp Series ((List Race) × Int)) :=
  M.impl_penalizedSeries_j3 s_l2 s_j4
def M.impl_penalizedSeries_j5 (s_l2 : (List Race) × Int) (x1429 : Penalty) (x1441 : Race) (x1452 : Finish) (s_j5 : Bool) : Option (Stp Series ((List Race) × Int)) :=
  ifB s_j5 (M.impl_penalizedSeries_j4 s_l2 (s_l2.1.set (x1429.Race : Int).toNat (Race.mk (x1441.Finishes.set (x1429.Boat : Int).toNat (Finish.mk x1452.Boat x1452.Code (min 1000000000 (w64 (x1452.Time + x1429.Value)))))))) (M.impl_penalizedSeries_j4 s_l2 s_l2.1)
def M.impl_penalizedSeries_l2 (a1 : List Penalty) (s_l2 : (List Race) × Int) : Option (Stp Series ((List Race) × Int)) :=
  ifB (decide (s_l2.2 < (a1.length : Int))) (bnd (idx a1 s_l2.2) fun x1429 => bnd (idx s_l2.1 x1429.Race) fun x1441 => bnd (idx x1441.Finishes x1429.Boat) fun x1452 => ifB (x1429.Kind == 2) (M.impl_penalizedSeries_j5 s_l2 x1429 x1441 x1452 (x1452.Code == 0)) (M.impl_penalizedSeries_j5 s_l2 x1429 x1441 x1452 false)) (some (.brk (s_l2.1, s_l2.2)))
def M.impl_penalizedSeries_a1 (a0 : Series) (a1 : List Penalty) (s_l1 : (List Race) × Int) : Option Series :=
  bnd (loopF (M.impl_penalizedSeries_l2 a1) (s_l1.1, 0)) fun o => outc o (fun x => some x) (fun s => M.impl_penalizedSeries_a2 a0 a1 s)
def M.impl_penalizedSeries_l1 (a0 : Series) (s_l1 : (List Race) × Int) : Option (Stp Series ((List Race) × Int)) :=
  ifB (decide (s_l1.2 < (a0.Races.length : Int))) (bnd (idx a0.Races s_l1.2) fun x1493 => chk (([] : List Finish).length + x1493.Finishes.length < 1099511627776) (chk (s_l1.1.length + ([(Race.mk (([] : List Finish) ++ x1493.Finishes))] : List Race).length < 1099511627776) (some (.cont (s_l1.1 ++ ([(Race.mk (([] : List Finish) ++ x1493.Finishes))] : List Race), w64 (s_l1.2 + 1)))))) (some (.brk (s_l1.1, s_l1.2)))
def M.impl_penalizedSeries (a0 : Series) (a1 : List Penalty) : Option Series :=
  bnd (loopF (M.impl_penalizedSeries_l1 a0) ([], 0)) fun o => outc o (fun x => some x) (fun s => M.impl_penalizedSeries_a1 a0 a1 s)
def M.spec_l21Series_a3 (a0 : Series) (s_l3 : (List Race) × Int) : Option Series :=
  some (Series.mk a0.Boats a0.Scheme s_l3.1)
def M.spec_l21Series_j1 (s_l3 : (List Race) × Int) (s_j1 : (List Race)) : Option (Stp Series ((List Race) × Int)) :=
  some (.cont (s_j1, w64 (s_l3.2 + 1)))
def M.spec_l21Series_j2 (s_l3 : (List Race) × Int) (s_j2 : (List Race)) : Option (Stp Series ((List Race) × Int)) :=
  M.spec_l21Series_j1 s_l3 s_j2
def M.spec_l21Series_l3 (a1 : List Penalty) (s_l3 : (List Race) × Int) : Option (Stp Series ((List Race) × Int)) :=
  ifB (decide (s_l3.2 < (a1.length : Int))) (bnd (idx a1 s_l3.2) fun x1780 => ifB (x1780.Kind == 1) (bnd (idx s_l3.1 x1780.Race) fun x1793 => bnd (idx x1793.Finishes x1780.Boat) fun x1804 => M.spec_l21Series_j2 s_l3 (s_l3.1.set (x1780.Race : Int).toNat (Race.mk (x1793.Finishes.set (x1780.Boat : Int).toNat (Finish.mk x1780.Boat x1780.Value 0))))) (M.spec_l21Series_j2 s_l3 s_l3.1)) (some (.brk (s_l3.1, s_l3.2)))
def M.spec_l21Series_a2 (a0 : Series) (a1 : List Penalty) (s_l2 : (List Race) × Int) : Option Series :=
  bnd (loopF (M.spec_l21Series_l3 a1) (s_l2.1, 0)) fun o => outc o (fun x => some x) (fun s => M.spec_l21Series_a3 a0 s)
def M.spec_l21Series_j3 (s_l2 : (List Race) × Int) (s_j3 : (List Race)) : Option (Stp Series ((List Race) × Int)) :=
  some (.cont (s_j3, w64 (s_l2.2 + 1)))
def M.spec_l21Series_j4 (s_l2 : (List Race) × Int) (s_j4 : (List Race)) : Option (Stp Series ((List Race) × Int)) :=
  M.spec_l21Series_j3 s_l2 s_j4
def M.spec_l21Series_j5 (s_l2 : (List Race) × Int) (x2259 : Penalty) (x2303 : Finish) (s_j5 : Bool) : Option (Stp Series ((List Race) × Int)) :=
  ifB s_j5 (bnd (idx s_l2.1 x2259.Race) fun x2360 => bnd (idx x2360.Finishes x2259.Boat) fun x2371 => M.spec_l21Series_j4 s_l2 (s_l2.1.set (x2259.Race : Int).toNat (Race.mk (x2360.Finishes.set (x2259.Boat : Int).toNat (Finish.mk x2371.Boat x2371.Code (min 1000000000 (w64 (x2303.Time + x2259.Value)))))))) (M.spec_l21Series_j4 s_l2 s_l2.1)
def M.spec_l21Series_l2 (a1 : List Penalty) (s_l2 : (List Race) × Int) : Option (Stp Series ((List Race) × Int)) :=
  ifB (decide (s_l2.2 < (a1.length : Int))) (bnd (idx a1 s_l2.2) fun x2259 => bnd (idx s_l2.1 x2259.Race) fun x2292 => bnd (idx x2292.Finishes x2259.Boat) fun x2303 => ifB (x2259.Kind == 2) (bnd (M.spec_l26Done x2303) fun x2389 => M.spec_l21Series_j5 s_l2 x2259 x2303 x2389) (M.spec_l21Series_j5 s_l2 x2259 x2303 false)) (some (.brk (s_l2.1, s_l2.2)))
def M.spec_l21Series_a1 (a0 : Series) (a1 : List Penalty) (s_l1 : (List Race) × Int) : Option Series :=
  bnd (loopF (M.spec_l21Series_l2 a1) (s_l1.1, 0)) fun o => outc o (fun x => some x) (fun s => M.spec_l21Series_a2 a0 a1 s)
def M.spec_l21Series_l1 (a0 : Series) (s_l1 : (List Race) × Int) : Option (Stp Series ((List Race) × Int)) :=
  ifB (decide (s_l1.2 < (a0.Races.length : Int))) (bnd (idx a0.Races s_l1.2) fun x2405 => chk (([] : List Finish).length + x2405.Finishes.length < 1099511627776) (chk (s_l1.1.length + ([(Race.mk (([] : List Finish) ++ x2405.Finishes))] : List Race).length < 1099511627776) (some (.cont (s_l1.1 ++ ([(Race.mk (([] : List Finish) ++ x2405.Finishes))] : List Race), w64 (s_l1.2 + 1)))))) (some (.brk (s_l1.1, s_l1.2)))
def M.spec_l21Series (a0 : Series) (a1 : List Penalty) : Option Series :=
  bnd (loopF (M.spec_l21Series_l1 a0) (([] : List Race), 0)) fun o => outc o (fun x => some x) (fun s => M.spec_l21Series_a1 a0 a1 s)
def M.laws_w6Races_a1 (s_l1 : Int) : Option Bool :=
  some true
def M.laws_w6Races_l1 (a0 : Race) (a1 : Race) (s_l1 : Int) : Option (Stp Bool Int) :=
  ifB (decide (s_l1 < (a0.Finishes.length : Int))) (bnd (idx a0.Finishes s_l1) fun x59 => bnd (idx a1.Finishes s_l1) fun x66 => ifB (!(eqL [x59.Boat, x59.Code, x59.Time] [x66.Boat, x66.Code, x66.Time])) (some (.ret false)) (some (.cont (w64 (s_l1 + 1))))) (some (.brk s_l1))
def M.laws_w6Races (a0 : Race) (a1 : Race) : Option Bool :=
  ifB ((a0.Finishes.length : Int) != (a1.Finishes.length : Int)) (some false) (bnd (loopF (M.laws_w6Races_l1 a0 a1) 0) fun o => outc o (fun x => some x) (fun s => M.laws_w6Races_a1 s))
def M.impl_penalizedTable_a1 (x19 : Table) (s_l1 : (List (List Int)) × Int) : Option Table :=
  some (Table.mk x19.Boats s_l1.1 x19.Codes)
def M.impl_penalizedTable_a2 (s_l1 : (List (List Int)) × Int) (s_l2 : (List (List Int)) × Int) : Option (Stp Table ((List (List Int)) × Int)) :=
  some (.cont (s_l2.1, w64 (s_l1.2 + 1)))
def M.impl_penalizedTable_j1 (s_l1 : (List (List Int)) × Int) (s_l2 : (List (List Int)) × Int) (s_j1 : (List (List Int))) : Option (Stp Table ((List (List Int)) × Int)) :=
  bnd (idx s_j1 s_l1.2) fun x27447 => some (.cont (s_j1, w64 (s_l2.2 + 1)))
def M.impl_penalizedTable_j2 (s_l1 : (List (List Int)) × Int) (s_l2 : (List (List Int)) × Int) (s_j2 : (List (List Int))) : Option (Stp Table ((List (List Int)) × Int)) :=
  bnd (idx s_j2 s_l1.2) fun x28252 => M.impl_penalizedTable_j1 s_l1 s_l2 s_j2
def M.impl_penalizedTable_a3 (a0 : Series) (x9 : Series) (s_l1 : (List (List Int)) × Int) (s_l2 : (List (List Int)) × Int) (x25836 : List Int) (s_l3 : Int × Int) : Option (Stp Table ((List (List Int)) × Int)) :=
  bnd (idx x9.Races s_l1.2) fun x28755 => bnd (M.impl_codePoints x28755.Finishes 4 a0.Scheme) fun x28766 => bnd (idx x25836 s_l2.2) fun x28769 => bnd (idx x25836 s_l2.2) fun x28776 => bnd (idx x25836 s_l2.2) fun x28783 => M.impl_penalizedTable_j2 s_l1 s_l2 (s_l2.1.set (s_l1.2 : Int).toNat (x25836.set (s_l2.2 : Int).toNat (max x28769 (min x28766 (w64 (x28776 + s_l3.1))))))
def M.impl_penalizedTable_j3 (s_l3 : Int × Int) (s_j3 : Int) : Option (Stp Table (Int × Int)) :=
  some (.cont (s_j3, w64 (s_l3.2 + 1)))
def M.impl_penalizedTable_j4 (s_l3 : Int × Int) (s_j4 : Int) : Option (Stp Table (Int × Int)) :=
  M.impl_penalizedTable_j3 s_l3 s_j4
def M.impl_penalizedTable_j5 (a0 : Series) (s_l3 : Int × Int) (x29002 : Penalty) (s_j5 : Bool) : Option (Stp Table (Int × Int)) :=
  ifB s_j5 (bnd (M.impl_percentPoints a0.Boats x29002.Value) fun x29036 => M.impl_penalizedTable_j4 s_l3 (w64 (s_l3.1 + x29036))) (M.impl_penalizedTable_j4 s_l3 s_l3.1)
def M.impl_penalizedTable_l3 (a0 : Series) (a1 : List Penalty) (s_l1 : (List (List Int)) × Int) (s_l2 : (List (List Int)) × Int) (s_l3 : Int × Int) : Option (Stp Table (Int × Int)) :=
  ifB (decide (s_l3.2 < (a1.length : Int))) (bnd (idx a1 s_l3.2) fun x29002 => ifB (x29002.Kind == 3) (ifB (x29002.Race == s_l1.2) (M.impl_penalizedTable_j5 a0 s_l3 x29002 (x29002.Boat == s_l2.2)) (M.impl_penalizedTable_j5 a0 s_l3 x29002 false)) (M.impl_penalizedTable_j5 a0 s_l3 x29002 false)) (some (.brk (s_l3.1, s_l3.2)))
def M.impl_penalizedTable_l2 (a0 : Series) (a1 : List Penalty) (x9 : Series) (x19 : Table) (s_l1 : (List (List Int)) × Int) (x19385 : List Int) (s_l2 : (List (List Int)) × Int) : Option (Stp Table ((List (List Int)) × Int)) :=
  bnd (idx s_l2.1 s_l1.2) fun x25836 => ifB (decide (s_l2.2 < (x19385.length : Int))) (bnd (idx x19.Codes s_l1.2) fun x28264 => bnd (idx x28264 s_l2.2) fun x28275 => ifB (x28275 != 0) (M.impl_penalizedTable_j2 s_l1 s_l2 s_l2.1) (bnd (loopF (M.impl_penalizedTable_l3 a0 a1 s_l1 s_l2) (0, 0)) fun o => outc o (fun x => some (.ret x)) (fun s => M.impl_penalizedTable_a3 a0 x9 s_l1 s_l2 x25836 s))) (some (.brk (s_l2.1, s_l2.2)))
def M.impl_penalizedTable_l1 (a0 : Series) (a1 : List Penalty) (x9 : Series) (x19 : Table) (s_l1 : (List (List Int)) × Int) : Option (Stp Table ((List (List Int)) × Int)) :=
  ifB (decide (s_l1.2 < (x19.Points.length : Int))) (bnd (idx s_l1.1 s_l1.2) fun x19385 => bnd (loopF (M.impl_penalizedTable_l2 a0 a1 x9 x19 s_l1 x19385) (s_l1.1, 0)) fun o => outc o (fun x => some (.ret x)) (fun s => M.impl_penalizedTable_a2 s_l1 s)) (some (.brk (s_l1.1, s_l1.2)))
def M.impl_penalizedTable (a0 : Series) (a1 : List Penalty) : Option Table :=
  bnd (M.impl_penalizedSeries a0 a1) fun x9 => bnd (M.impl_tableOf x9) fun x19 => bnd (loopF (M.impl_penalizedTable_l1 a0 a1 x9 x19) (x19.Points, 0)) fun o => outc o (fun x => some x) (fun s => M.impl_penalizedTable_a1 x19 s)
def M.impl_PenalizedTable (a0 : Series) (a1 : List Penalty) : Option (Table × Int) :=
  bnd (M.impl_penaltyCode a0 a1) fun x9 => ifB (x9 != 0) (some ((Table.mk 0 [] []), x9)) (bnd (M.impl_penalizedTable a0 a1) fun x16 => some (x16, 0))
def M.spec_l21Table_a1 (x19 : Table × Int) (s_l1 : (List (List Int)) × Int) : Option Table :=
  some (Table.mk x19.1.Boats s_l1.1 x19.1.Codes)
def M.spec_l21Table_a2 (s_l1 : (List (List Int)) × Int) (s_l2 : (List (List Int)) × Int) : Option (Stp Table ((List (List Int)) × Int)) :=
  some (.cont (s_l2.1, w64 (s_l1.2 + 1)))
def M.spec_l21Table_j1 (s_l2 : (List (List Int)) × Int) (s_j1 : (List (List Int))) : Option (Stp Table ((List (List Int)) × Int)) :=
  some (.cont (s_j1, w64 (s_l2.2 + 1)))
def M.spec_l21Table_j2 (s_l2 : (List (List Int)) × Int) (s_j2 : (List (List Int))) : Option (Stp Table ((List (List Int)) × Int)) :=
  M.spec_l21Table_j1 s_l2 s_j2
def M.spec_l21Table_j3 (x9 : Series) (s_l1 : (List (List Int)) × Int) (s_l2 : (List (List Int)) × Int) (s_l3 : Int × Int) (s_j3 : Bool) : Option (Stp Table ((List (List Int)) × Int)) :=
  ifB s_j3 (bnd (idx s_l2.1 s_l1.2) fun x38987 => bnd (idx s_l2.1 s_l1.2) fun x38998 => bnd (idx x38998 s_l2.2) fun x39009 => bnd (idx s_l2.1 s_l1.2) fun x39016 => bnd (idx x39016 s_l2.2) fun x39027 => bnd (M.spec_l21Worst x9 s_l1.2 s_l2.2) fun x39034 => bnd (idx x38987 s_l2.2) fun x39036 => M.spec_l21Table_j2 s_l2 (s_l2.1.set (s_l1.2 : Int).toNat (x38987.set (s_l2.2 : Int).toNat (max x39009 (min (w64 (x39027 + s_l3.1)) x39034))))) (M.spec_l21Table_j2 s_l2 s_l2.1)
def M.spec_l21Table_a3 (x9 : Series) (x19 : Table × Int) (s_l1 : (List (List Int)) × Int) (s_l2 : (List (List Int)) × Int) (s_l3 : Int × Int) : Option (Stp Table ((List (List Int)) × Int)) :=
  ifB (decide (0 < s_l3.1)) (bnd (idx x19.1.Codes s_l1.2) fun x39057 => bnd (idx x39057 s_l2.2) fun x39068 => M.spec_l21Table_j3 x9 s_l1 s_l2 s_l3 (x39068 == 0)) (M.spec_l21Table_j3 x9 s_l1 s_l2 s_l3 false)
def M.spec_l21Table_j4 (s_l3 : Int × Int) (s_j4 : Int) : Option (Stp Table (Int × Int)) :=
  some (.cont (s_j4, w64 (s_l3.2 + 1)))
def M.spec_l21Table_j5 (s_l3 : Int × Int) (s_j5 : Int) : Option (Stp Table (Int × Int)) :=
  M.spec_l21Table_j4 s_l3 s_j5
def M.spec_l21Table_j6 (a0 : Series) (a1 : List Penalty) (s_l3 : Int × Int) (s_j6 : Bool) : Option (Stp Table (Int × Int)) :=
  ifB s_j6 (bnd (idx a1 s_l3.2) fun x39363 => bnd (M.spec_l21Percent a0.Boats x39363.Value) fun x39370 => M.spec_l21Table_j5 s_l3 (w64 (s_l3.1 + x39370))) (M.spec_l21Table_j5 s_l3 s_l3.1)
def M.spec_l21Table_l3 (a0 : Series) (a1 : List Penalty) (s_l1 : (List (List Int)) × Int) (s_l2 : (List (List Int)) × Int) (s_l3 : Int × Int) : Option (Stp Table (Int × Int)) :=
  ifB (decide (s_l3.2 < (a1.length : Int))) (bnd (idx a1 s_l3.2) fun x39373 => ifB (x39373.Kind == 3) (bnd (idx a1 s_l3.2) fun x39381 => ifB (x39381.Race == s_l1.2) (bnd (idx a1 s_l3.2) fun x39389 => M.spec_l21Table_j6 a0 a1 s_l3 (x39389.Boat == s_l2.2)) (M.spec_l21Table_j6 a0 a1 s_l3 false)) (M.spec_l21Table_j6 a0 a1 s_l3 false)) (some (.brk (s_l3.1, s_l3.2)))
def M.spec_l21Table_l2 (a0 : Series) (a1 : List Penalty) (x9 : Series) (x19 : Table × Int) (s_l1 : (List (List Int)) × Int) (s_l2 : (List (List Int)) × Int) : Option (Stp Table ((List (List Int)) × Int)) :=
  ifB (decide (s_l2.2 < x19.1.Boats)) (bnd (loopF (M.spec_l21Table_l3 a0 a1 s_l1 s_l2) (0, 0)) fun o => outc o (fun x => some (.ret x)) (fun s => M.spec_l21Table_a3 x9 x19 s_l1 s_l2 s)) (some (.brk (s_l2.1, s_l2.2)))
def M.spec_l21Table_l1 (a0 : Series) (a1 : List Penalty) (x9 : Series) (x19 : Table × Int) (s_l1 : (List (List Int)) × Int) : Option (Stp Table ((List (List Int)) × Int)) :=
  ifB (decide (s_l1.2 < (s_l1.1.length : Int))) (bnd (loopF (M.spec_l21Table_l2 a0 a1 x9 x19 s_l1) (s_l1.1, 0)) fun o => outc o (fun x => some (.ret x)) (fun s => M.spec_l21Table_a2 s_l1 s)) (some (.brk (s_l1.1, s_l1.2)))
def M.spec_l21Table (a0 : Series) (a1 : List Penalty) : Option Table :=
  bnd (M.spec_l21Series a0 a1) fun x9 => bnd (M.spec_TableOf x9) fun x19 => bnd (loopF (M.spec_l21Table_l1 a0 a1 x9 x19) (x19.1.Points, 0)) fun o => outc o (fun x => some x) (fun s => M.spec_l21Table_a1 x19 s)
def M.impl_discardsOf_1 (a0 : Int) (a1 : Int) (a2 : Table) (a3 : Int) : Option Int :=
  bnd (idx a2.Points a1) fun x9 => bnd (idx x9 a3) fun x20 => bnd (idx a2.Points a0) fun x27 => bnd (idx x27 a3) fun x38 => some (w64 (x20 - x38))
def M.math_bits_Len64_j3 (a0 : Int) (s_j3 : Unit) : Option Int :=
  bnd (strAt (⟨#[0, 1, 2, 2, 3, 3, 3, 3, 4, 4, 4, 4, 4, 4, 4, 4, 5, 5, 5, 5, 5, 5, 5, 5, 5, 5, 5, 5, 5, 5, 5, 5, 6, 6, 6, 6, 6, 6, 6, 6, 6, 6, 6, 6, 6, 6, 6, 6, 6, 6, 6, 6, 6, 6, 6, 6, 6, 6, 6, 6, 6, 6, 6, 6, 7, 7, 7, 7, 7, 7, 7, 7, 7, 7, 7, 7, 7, 7, 7, 7, 7, 7, 7, 7, 7, 7, 7, 7, 7, 7, 7, 7, 7, 7, 7, 7, 7, 7, 7, 7, 7, 7, 7, 7, 7, 7, 7, 7, 7, 7, 7, 7, 7, 7, 7, 7, 7, 7, 7, 7, 7, 7, 7, 7, 7, 7, 7, 7, 8, 8, 8, 8, 8, 8, 8, 8, 8, 8, 8, 8, 8, 8, 8, 8, 8, 8, 8, 8, 8, 8, 8, 8, 8, 8, 8, 8, 8, 8, 8, 8, 8, 8, 8, 8, 8, 8, 8, 8, 8, 8, 8, 8, 8, 8, 8, 8, 8, 8, 8, 8, 8, 8, 8, 8, 8, 8, 8, 8, 8, 8, 8, 8, 8, 8, 8, 8, 8, 8, 8, 8, 8, 8, 8, 8, 8, 8, 8, 8, 8, 8, 8, 8, 8, 8, 8, 8, 8, 8, 8, 8, 8, 8, 8, 8, 8, 8, 8, 8, 8, 8, 8, 8, 8, 8, 8, 8, 8, 8, 8, 8, 8, 8, 8, 8, 8, 8, 8, 8, 8, 8, 8, 8, 8, 8, 8, 8]⟩ : ByteArray) (IntKind.u8.wrap a0)) fun x16 => some (w64 (0 + (IntKind.i64.wrap x16)))
def M.math_bits_Len64_j2 (a0 : Int) (s_j2 : Unit) : Option Int :=
  ifB (decide (256 ≤ a0)) (none) (M.math_bits_Len64_j3 a0 ())
def M.math_bits_Len64_j1 (a0 : Int) (s_j1 : Unit) : Option Int :=
  ifB (decide (65536 ≤ a0)) (none) (M.math_bits_Len64_j2 a0 ())
def M.math_bits_Len64 (a0 : Int) : Option Int :=
  ifB (decide (4294967296 ≤ a0)) (none) (M.math_bits_Len64_j1 a0 ())
def M.math_bits_Len (a0 : Int) : Option Int :=
  bnd (M.math_bits_Len64 a0) fun x1 => some x1
def M.cmp_isNaN_int64_ (a0 : Int) : Option Bool :=
  some (a0 != a0)
def M.cmp_Less_int64__j1 (s_j1 : Bool) : Option Bool :=
  some s_j1
def M.cmp_Less_int64_ (a0 : Int) (a1 : Int) : Option Bool :=
  bnd (M.cmp_isNaN_int64_ a0) fun x16 => ifB x16 (bnd (M.cmp_isNaN_int64_ a1) fun x22 => ifB (!x22) (M.cmp_Less_int64__j1 true) (M.cmp_Less_int64__j1 (decide (a0 < a1)))) (M.cmp_Less_int64__j1 (decide (a0 < a1)))
def M.slices_insertionSortOrdered_int64__a1 (s_l1 : (List Int) × Int) : Option ((Unit) × (List Int)) :=
  some ((), s_l1.1)
def M.slices_insertionSortOrdered_int64__a2 (s_l1 : (List Int) × Int) (s_l2 : (List Int) × Int) : Option (Stp ((Unit) × (List Int)) ((List Int) × Int)) :=
  some (.cont (s_l2.1, w64 (s_l1.2 + 1)))
def M.slices_insertionSortOrdered_int64__j1 (s_l2 : (List Int) × Int) (s_j1 : Bool) : Option (Stp ((Unit) × (List Int)) ((List Int) × Int)) :=
  ifB s_j1 (bnd (idx s_l2.1 (w64 (s_l2.2 - 1))) fun x1144 => bnd (idx s_l2.1 s_l2.2) fun x1151 => bnd (idx s_l2.1 s_l2.2) fun x1160 => bnd (idx (s_l2.1.set (s_l2.2 : Int).toNat x1144) (w64 (s_l2.2 - 1))) fun x1168 => some (.cont ((s_l2.1.set (s_l2.2 : Int).toNat x1144).set (w64 (s_l2.2 - 1) : Int).toNat x1151, w64 (s_l2.2 - 1)))) (some (.brk (s_l2.1, s_l2.2)))
def M.slices_insertionSortOrdered_int64__l2 (a1 : Int) (s_l2 : (List Int) × Int) : Option (Stp ((Unit) × (List Int)) ((List Int) × Int)) :=
  ifB (decide (a1 < s_l2.2)) (bnd (idx s_l2.1 s_l2.2) fun x1193 => bnd (idx s_l2.1 (w64 (s_l2.2 - 1))) fun x1200 => bnd (M.cmp_Less_int64_ x1193 x1200) fun x1207 => M.slices_insertionSortOrdered_int64__j1 s_l2 x1207) (M.slices_insertionSortOrdered_int64__j1 s_l2 false)
def M.slices_insertionSortOrdered_int64__l1 (a1 : Int) (a2 : Int) (s_l1 : (List Int) × Int) : Option (Stp ((Unit) × (List Int)) ((List Int) × Int)) :=
  ifB (decide (s_l1.2 < a2)) (bnd (loopF (M.slices_insertionSortOrdered_int64__l2 a1) (s_l1.1, s_l1.2)) fun o => outc o (fun x => some (.ret x)) (fun s => M.slices_insertionSortOrdered_int64__a2 s_l1 s)) (some (.brk (s_l1.1, s_l1.2)))
def M.slices_insertionSortOrdered_int64_ (a0 : List Int) (a1 : Int) (a2 : Int) : Option ((Unit) × (List Int)) :=
  bnd (loopF (M.slices_insertionSortOrdered_int64__l1 a1 a2) (a0, w64 (a1 + 1))) fun o => outc o (fun x => some x) (fun s => M.slices_insertionSortOrdered_int64__a1 s)
def M.slices_pdqsortOrdered_int64__a1 (a0 : List Int) (s_l1 : Unit) : Option ((Unit) × (List Int)) :=
  some ((), a0)
def M.slices_pdqsortOrdered_int64__j1 (s_j1 : Unit) : Option (Stp ((Unit) × (List Int)) Unit) :=
  none
def M.slices_pdqsortOrdered_int64__l1 (a0 : List Int) (a1 : Int) (a2 : Int) (a3 : Int) (s_l1 : Unit) : Option (Stp ((Unit) × (List Int)) Unit) :=
  ifB (decide ((w64 (a2 - a1)) ≤ 12)) (bnd (M.slices_insertionSortOrdered_int64_ a0 a1 a2) fun x77 => some (.ret ((), x77.2))) (ifB (a3 == 0) (none) (M.slices_pdqsortOrdered_int64__j1 ()))
def M.slices_pdqsortOrdered_int64_ (a0 : List Int) (a1 : Int) (a2 : Int) (a3 : Int) : Option ((Unit) × (List Int)) :=
  bnd (loopF (M.slices_pdqsortOrdered_int64__l1 a0 a1 a2 a3) ()) fun o => outc o (fun x => some x) (fun s => M.slices_pdqsortOrdered_int64__a1 a0 s)
def M.slices_Sort___int64_int64_ (a0 : List Int) : Option ((Unit) × (List Int)) :=
  bnd (M.math_bits_Len (IntKind.u64.wrap (a0.length : Int))) fun x5 => bnd (M.slices_pdqsortOrdered_int64_ a0 0 (a0.length : Int) x5) fun x10 => some ((), x10.2)
def M.impl_discardsOf_a1 (s_l1 : (List Int) × Int × Int) : Option (List Int) :=
  bnd (M.slices_Sort___int64_int64_ s_l1.1) fun x655 => some x655.2
def M.impl_discardsOf_j1 (s_l1 : (List Int) × Int × Int) (s_j1 : (List Int) × Int) : Option (Stp (List Int) ((List Int) × Int × Int)) :=
  some (.cont (s_j1.1, s_j1.2, w64 (s_l1.2.2 + 1)))
def M.impl_discardsOf_j2 (s_l1 : (List Int) × Int × Int) (s_j2 : (List Int) × Int) : Option (Stp (List Int) ((List Int) × Int × Int)) :=
  M.impl_discardsOf_j1 s_l1 (s_j2.1, s_j2.2)
def M.impl_discardsOf_j3 (s_l1 : (List Int) × Int × Int) (x908 : Int) (s_j3 : Bool) : Option (Stp (List Int) ((List Int) × Int × Int)) :=
  ifB s_j3 (chk (s_l1.1.length + ([x908] : List Int).length < 1099511627776) (M.impl_discardsOf_j2 s_l1 (s_l1.1 ++ ([x908] : List Int), w64 (s_l1.2.1 - 1)))) (M.impl_discardsOf_j2 s_l1 (s_l1.1, s_l1.2.1))
def M.impl_discardsOf_l1 (a0 : Table) (a2 : Int) (x19 : (List Int)) (s_l1 : (List Int) × Int × Int) : Option (Stp (List Int) ((List Int) × Int × Int)) :=
  ifB (decide (s_l1.2.2 < (x19.length : Int))) (bnd (idx x19 s_l1.2.2) fun x908 => ifB (decide (0 < s_l1.2.1)) (bnd (idx a0.Codes x908) fun x956 => bnd (idx x956 a2) fun x967 => M.impl_discardsOf_j3 s_l1 x908 (x967 != 7)) (M.impl_discardsOf_j3 s_l1 x908 false)) (some (.brk (s_l1.1, s_l1.2.1, s_l1.2.2)))
def M.impl_discardsOf (a0 : Table) (a1 : List Int) (a2 : Int) : Option (List Int) :=
  bnd (M.impl_discardCount a1 (a0.Points.length : Int)) fun x14 => bnd (M.impl_sortedIndices (a0.Points.length : Int) (fun y0 y1 => M.impl_discardsOf_1 y0 y1 a0 a2)) fun x19 => bnd (loopF (M.impl_discardsOf_l1 a0 a2 x19) (([] : List Int), x14, 0)) fun o => outc o (fun x => some x) (fun s => M.impl_discardsOf_a1 s)
def M.impl_DiscardsOf (a0 : Table) (a1 : List Int) (a2 : Int) : Option ((List Int) × Int) :=
  bnd (M.impl_tableCode a0 a1 a2) fun x9 => ifB (x9 != 0) (some ([], x9)) (bnd (M.impl_discardsOf a0 a1 a2) fun x15 => some (x15, 0))
def M.slices_Index___int64_int64__a1 (s_l1 : Int) : Option Int :=
  some (-1)
def M.slices_Index___int64_int64__l1 (a0 : List Int) (a1 : Int) (s_l1 : Int) : Option (Stp Int Int) :=
  ifB (decide (s_l1 < (a0.length : Int))) (bnd (idx a0 s_l1) fun x38 => ifB (a1 == x38) (some (.ret s_l1)) (some (.cont (w64 (s_l1 + 1))))) (some (.brk s_l1))
def M.slices_Index___int64_int64_ (a0 : List Int) (a1 : Int) : Option Int :=
  bnd (loopF (M.slices_Index___int64_int64__l1 a0 a1) 0) fun o => outc o (fun x => some x) (fun s => M.slices_Index___int64_int64__a1 s)
def M.slices_Contains___int64_int64_ (a0 : List Int) (a1 : Int) : Option Bool :=
  bnd (M.slices_Index___int64_int64_ a0 a1) fun x3 => some (decide (0 ≤ x3))
def M.impl_countedPoints_a1 (s_l1 : (List Int) × Int) : Option (List Int) :=
  some s_l1.1
def M.impl_countedPoints_j1 (s_l1 : (List Int) × Int) (s_j1 : (List Int)) : Option (Stp (List Int) ((List Int) × Int)) :=
  some (.cont (s_j1, w64 (s_l1.2 + 1)))
def M.impl_countedPoints_j2 (s_l1 : (List Int) × Int) (s_j2 : (List Int)) : Option (Stp (List Int) ((List Int) × Int)) :=
  M.impl_countedPoints_j1 s_l1 s_j2
def M.impl_countedPoints_l1 (a0 : Table) (a2 : Int) (x12 : (List Int)) (s_l1 : (List Int) × Int) : Option (Stp (List Int) ((List Int) × Int)) :=
  ifB (decide (s_l1.2 < (a0.Points.length : Int))) (bnd (M.slices_Contains___int64_int64_ x12 s_l1.2) fun x477 => ifB (!x477) (bnd (idx a0.Points s_l1.2) fun x483 => bnd (idx x483 a2) fun x494 => chk (s_l1.1.length + ([x494] : List Int).length < 1099511627776) (M.impl_countedPoints_j2 s_l1 (s_l1.1 ++ ([x494] : List Int)))) (M.impl_countedPoints_j2 s_l1 s_l1.1)) (some (.brk (s_l1.1, s_l1.2)))
def M.impl_countedPoints (a0 : Table) (a1 : List Int) (a2 : Int) : Option (List Int) :=
  bnd (M.impl_discardsOf a0 a1 a2) fun x12 => bnd (loopF (M.impl_countedPoints_l1 a0 a2 x12) (([] : List Int), 0)) fun o => outc o (fun x => some x) (fun s => M.impl_countedPoints_a1 s)
def M.impl_netPoints_a1 (s_l1 : Int × Int) : Option Int :=
  some s_l1.1
def M.impl_netPoints_l1 (x9 : (List Int)) (s_l1 : Int × Int) : Option (Stp Int (Int × Int)) :=
  ifB (decide (s_l1.2 < (x9.length : Int))) (bnd (idx x9 s_l1.2) fun x49 => some (.cont (w64 (s_l1.1 + x49), w64 (s_l1.2 + 1)))) (some (.brk (s_l1.1, s_l1.2)))
def M.impl_netPoints (a0 : Table) (a1 : List Int) (a2 : Int) : Option Int :=
  bnd (M.impl_countedPoints a0 a1 a2) fun x9 => bnd (loopF (M.impl_netPoints_l1 x9) (0, 0)) fun o => outc o (fun x => some x) (fun s => M.impl_netPoints_a1 s)
def M.impl_NetPoints (a0 : Table) (a1 : List Int) (a2 : Int) : Option (Int × Int) :=
  bnd (M.impl_tableCode a0 a1 a2) fun x9 => ifB (x9 != 0) (some (0, x9)) (bnd (M.impl_netPoints a0 a1 a2) fun x15 => some (x15, 0))
def M.impl_TotalPoints (a0 : Table) (a1 : Int) : Option (Int × Int) :=
  bnd (M.impl_tableCode a0 ([] : List Int) a1) fun x7 => ifB (x7 != 0) (some (0, x7)) (bnd (M.impl_netPoints a0 ([] : List Int) a1) fun x13 => some (x13, 0))
def M.impl_CountedPoints (a0 : Table) (a1 : List Int) (a2 : Int) : Option ((List Int) × Int) :=
  bnd (M.impl_tableCode a0 a1 a2) fun x9 => ifB (x9 != 0) (some ([], x9)) (bnd (M.impl_countedPoints a0 a1 a2) fun x15 => some (x15, 0))
def M.impl_sortedPoints (a0 : Table) (a1 : List Int) (a2 : Int) : Option (List Int) :=
  bnd (M.impl_countedPoints a0 a1 a2) fun x9 => bnd (M.slices_Sort___int64_int64_ x9) fun x16 => some x16.2
def M.impl_SortedPoints (a0 : Table) (a1 : List Int) (a2 : Int) : Option ((List Int) × Int) :=
  bnd (M.impl_tableCode a0 a1 a2) fun x9 => ifB (x9 != 0) (some ([], x9)) (bnd (M.impl_sortedPoints a0 a1 a2) fun x15 => some (x15, 0))
def M.impl_netScores_a1 (s_l1 : (List Int) × Int) : Option (List Int) :=
  some s_l1.1
def M.impl_netScores_l1 (a0 : Table) (a1 : List Int) (s_l1 : (List Int) × Int) : Option (Stp (List Int) ((List Int) × Int)) :=
  ifB (decide (s_l1.2 < a0.Boats)) (bnd (M.impl_netPoints a0 a1 s_l1.2) fun x61 => chk (s_l1.1.length + ([x61] : List Int).length < 1099511627776) (some (.cont (s_l1.1 ++ ([x61] : List Int), w64 (s_l1.2 + 1))))) (some (.brk (s_l1.1, s_l1.2)))
def M.impl_netScores (a0 : Table) (a1 : List Int) : Option (List Int) :=
  bnd (loopF (M.impl_netScores_l1 a0 a1) (([] : List Int), 0)) fun o => outc o (fun x => some x) (fun s => M.impl_netScores_a1 s)
def M.impl_NetScores (a0 : Table) (a1 : List Int) : Option ((List Int) × Int) :=
  bnd (M.impl_tableCode a0 a1 0) fun x9 => ifB (x9 != 0) (some ([], x9)) (bnd (M.impl_netScores a0 a1) fun x15 => some (x15, 0))
def M.impl_compareBoats_a2 (s_l2 : Int) : Option (Int × Int × Int) :=
  some (0, 0, 0)
def M.impl_compareBoats_l2 (a0 : Table) (a2 : Int) (a3 : Int) (s_l2 : Int) : Option (Stp (Int × Int × Int) Int) :=
  ifB (decide (0 ≤ s_l2)) (bnd (idx a0.Points s_l2) fun x172 => bnd (idx x172 a2) fun x184 => bnd (idx x172 a3) fun x191 => ifB (x184 != x191) (bnd (idx x172 a2) fun x222 => bnd (idx x172 a3) fun x229 => bnd (M.impl_sign (w64 (x222 - x229))) fun x236 => some (.ret (x236, 3, s_l2))) (some (.cont (s_l2 - 1)))) (some (.brk s_l2))
def M.impl_compareBoats_a1 (a0 : Table) (a2 : Int) (a3 : Int) (s_l1 : Int) : Option (Int × Int × Int) :=
  bnd (loopF (M.impl_compareBoats_l2 a0 a2 a3) ((a0.Points.length : Int) - 1)) fun o => outc o (fun x => some x) (fun s => M.impl_compareBoats_a2 s)
def M.impl_compareBoats_l1 (x47 : (List Int)) (x54 : (List Int)) (s_l1 : Int) : Option (Stp (Int × Int × Int) Int) :=
  ifB (decide (s_l1 < (min (x47.length : Int) (x54.length : Int)))) (bnd (idx x47 s_l1) fun x257 => bnd (idx x54 s_l1) fun x264 => ifB (x257 != x264) (bnd (idx x47 s_l1) fun x273 => bnd (idx x54 s_l1) fun x280 => bnd (M.impl_sign (w64 (x273 - x280))) fun x287 => some (.ret (x287, 2, 0))) (some (.cont (w64 (s_l1 + 1))))) (some (.brk s_l1))
def M.impl_compareBoats (a0 : Table) (a1 : List Int) (a2 : Int) (a3 : Int) : Option (Int × Int × Int) :=
  bnd (M.impl_netPoints a0 a1 a2) fun x19 => bnd (M.impl_netPoints a0 a1 a3) fun x21 => ifB ((w64 (x19 - x21)) != 0) (bnd (M.impl_sign (w64 (x19 - x21))) fun x25 => some (x25, 1, 0)) (bnd (M.impl_sortedPoints a0 a1 a2) fun x47 => bnd (M.impl_sortedPoints a0 a1 a3) fun x54 => bnd (loopF (M.impl_compareBoats_l1 x47 x54) 0) fun o => outc o (fun x => some x) (fun s => M.impl_compareBoats_a1 a0 a2 a3 s))
def M.impl_CompareBoats (a0 : Table) (a1 : List Int) (a2 : Int) (a3 : Int) : Option (Int × Int × Int) :=
  bnd (M.impl_boatsCode a0 a1 a2 a3) fun x9 => ifB (x9 != 0) (some (0, 0, x9)) (bnd (M.impl_compareBoats a0 a1 a2 a3) fun x15 => some (x15.1, x15.2.1, 0))
def M.impl_ranksOf_a1 (s_l1 : (List Int) × Int) : Option (List Int) :=
  some s_l1.1
def M.impl_ranksOf_a2 (s_l1 : (List Int) × Int) (s_l2 : (List Int) × Int) : Option (Stp (List Int) ((List Int) × Int)) :=
  some (.cont (s_l2.1, w64 (s_l1.2 + 1)))
def M.impl_ranksOf_j1 (s_l2 : (List Int) × Int) (s_j1 : (List Int)) : Option (Stp (List Int) ((List Int) × Int)) :=
  some (.cont (s_j1, w64 (s_l2.2 + 1)))
def M.impl_ranksOf_j2 (s_l2 : (List Int) × Int) (s_j2 : (List Int)) : Option (Stp (List Int) ((List Int) × Int)) :=
  M.impl_ranksOf_j1 s_l2 s_j2
def M.impl_ranksOf_l2 (a0 : Table) (a1 : List Int) (s_l1 : (List Int) × Int) (s_l2 : (List Int) × Int) : Option (Stp (List Int) ((List Int) × Int)) :=
  ifB (decide (s_l2.2 < ((s_l1.1.set (s_l1.2 : Int).toNat 1).length : Int))) (bnd (M.impl_compareBoats a0 a1 s_l2.2 s_l1.2) fun x1179 => ifB (decide (x1179.1 < 0)) (bnd (idx s_l2.1 s_l1.2) fun x1185 => bnd (idx s_l2.1 s_l1.2) fun x1192 => M.impl_ranksOf_j2 s_l2 (s_l2.1.set (s_l1.2 : Int).toNat (w64 (x1185 + 1)))) (M.impl_ranksOf_j2 s_l2 s_l2.1)) (some (.brk (s_l2.1, s_l2.2)))
def M.impl_ranksOf_l1 (a0 : Table) (a1 : List Int) (s_l1 : (List Int) × Int) : Option (Stp (List Int) ((List Int) × Int)) :=
  ifB (decide (s_l1.2 < ((List.replicate (a0.Boats).toNat (0 : Int)).length : Int))) (bnd (idx s_l1.1 s_l1.2) fun x812 => bnd (loopF (M.impl_ranksOf_l2 a0 a1 s_l1) (s_l1.1.set (s_l1.2 : Int).toNat 1, 0)) fun o => outc o (fun x => some (.ret x)) (fun s => M.impl_ranksOf_a2 s_l1 s)) (some (.brk (s_l1.1, s_l1.2)))
def M.impl_ranksOf (a0 : Table) (a1 : List Int) : Option (List Int) :=
  chk (0 ≤ a0.Boats ∧ a0.Boats < 1099511627776) (bnd (loopF (M.impl_ranksOf_l1 a0 a1) (List.replicate (a0.Boats).toNat (0 : Int), 0)) fun o => outc o (fun x => some x) (fun s => M.impl_ranksOf_a1 s))
def M.impl_RanksOf (a0 : Table) (a1 : List Int) : Option ((List Int) × Int) :=
  bnd (M.impl_tableCode a0 a1 0) fun x9 => ifB (x9 != 0) (some ([], x9)) (bnd (M.impl_ranksOf a0 a1) fun x15 => some (x15, 0))
def M.impl_standingOf_1 (a0 : Int) (a1 : Int) (a2 : Table) (a3 : List Int) : Option Int :=
  bnd (M.impl_compareBoats a2 a3 a0 a1) fun x11 => some x11.1
def M.impl_standingOf (a0 : Table) (a1 : List Int) : Option (List Int) :=
  bnd (M.impl_sortedIndices a0.Boats (fun y0 y1 => M.impl_standingOf_1 y0 y1 a0 a1)) fun x11 => some x11
def M.impl_StandingOf (a0 : Table) (a1 : List Int) : Option ((List Int) × Int) :=
  bnd (M.impl_tableCode a0 a1 0) fun x9 => ifB (x9 != 0) (some ([], x9)) (bnd (M.impl_standingOf a0 a1) fun x15 => some (x15, 0))
def M.spec_PlacesLost_j1 (a0 : Series) (a1 : List Penalty) (a2 : List Int) (a3 : Int) (s_j1 : Int) : Option (Int × Int) :=
  ifB (s_j1 != 0) (some (0, s_j1)) (bnd (M.spec_l21Table a0 a1) fun x83 => bnd (M.spec_l28Rank x83 a2 a3) fun x92 => bnd (M.spec_l21Table a0 ([] : List Penalty)) fun x97 => bnd (M.spec_l28Rank x97 a2 a3) fun x106 => some (w64 (x92 - x106), 0))
def M.spec_PlacesLost_j2 (a0 : Series) (a1 : List Penalty) (a2 : List Int) (a3 : Int) (x9 : Int) (s_j2 : Bool) : Option (Int × Int) :=
  ifB s_j2 (M.spec_PlacesLost_j1 a0 a1 a2 a3 2) (M.spec_PlacesLost_j1 a0 a1 a2 a3 x9)
def M.spec_PlacesLost (a0 : Series) (a1 : List Penalty) (a2 : List Int) (a3 : Int) : Option (Int × Int) :=
  bnd (M.spec_l21Result a0 a1) fun x9 => ifB (x9 == 0) (bnd (M.spec_IsDiscardRule a2) fun x133 => ifB (!x133) (M.spec_PlacesLost_j2 a0 a1 a2 a3 x9 true) (bnd (M.spec_l01In a3 0 (w64 (a0.Boats - 1))) fun x139 => M.spec_PlacesLost_j2 a0 a1 a2 a3 x9 (!x139))) (M.spec_PlacesLost_j2 a0 a1 a2 a3 x9 false)
def M.impl_PlacesLost_j1 (a0 : Series) (a1 : List Penalty) (a2 : List Int) (a3 : Int) (s_j1 : Bool) : Option (Int × Int) :=
  ifB s_j1 (some (0, 2)) (bnd (M.impl_penalizedTable a0 a1) fun x66 => bnd (M.impl_ranksOf x66 a2) fun x75 => bnd (M.impl_tableOf a0) fun x82 => bnd (M.impl_ranksOf x82 a2) fun x91 => bnd (idx x75 a3) fun x98 => bnd (idx x91 a3) fun x105 => some (w64 (x98 - x105), 0))
def M.impl_PlacesLost (a0 : Series) (a1 : List Penalty) (a2 : List Int) (a3 : Int) : Option (Int × Int) :=
  bnd (M.impl_penaltyCode a0 a1) fun x9 => ifB (x9 != 0) (some (0, x9)) (bnd (M.impl_IsDiscardRule a2) fun x113 => ifB (!x113) (M.impl_PlacesLost_j1 a0 a1 a2 a3 true) (bnd (M.impl_within a3 0 (w64 (a0.Boats - 1))) fun x119 => M.impl_PlacesLost_j1 a0 a1 a2 a3 (!x119)))
end Go.Proofs.YtngegaodnokmbaaDoor
