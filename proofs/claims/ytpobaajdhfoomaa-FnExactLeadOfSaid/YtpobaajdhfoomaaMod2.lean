/- More models of the functions, printed by my generator. -/
import Derived.Test.YtpobaajdhfoomaaMod
import Derived.Test.YtpobaajdhfoomaaBase5
namespace Go.Proofs.Ytpobaajdhfoomaa
open Go Go.RowKit Go.ChangeShapes Go.WideShapes
set_option linter.unusedVariables false
set_option linter.unusedSimpArgs false

def M.laws_FnExactIsRace (a0 : Int) (a1 : Race) : Option Bool :=
  bnd (M.laws_szRace a1 1048576) fun x5 => ifB (decide (x5 < 0)) (some true) (bnd (M.laws_toRace a1) fun x11 => bnd (M.spec_IsRace a0 x11) fun x18 => bnd (M.laws_toRace a1) fun x23 => bnd (M.impl_IsRace a0 x23) fun x33 => ifB (x33 != x18) (some false) (bnd (M.laws_toRace a1) fun x51 => bnd (M.laws_eqRace x23 x51) fun x58 => ifB (!x58) (some false) (some true)))
def M.laws_FnExactIsTable (a0 : Table) : Option Bool :=
  bnd (M.laws_szTable a0 1048576) fun x7 => ifB (decide (x7 < 0)) (some true) (bnd (M.laws_toTable a0) fun x13 => bnd (M.spec_IsTable x13) fun x22 => bnd (M.laws_toTable a0) fun x27 => bnd (M.impl_IsTable x27) fun x39 => ifB (x39 != x22) (some false) (bnd (M.laws_toTable a0) fun x59 => bnd (M.laws_eqTable x27 x59) fun x68 => ifB (!x68) (some false) (some true)))
def M.laws_FnExactIsSeries (a0 : Series) : Option Bool :=
  bnd (M.laws_szSeries a0 1048576) fun x5 => ifB (decide (x5 < 0)) (some true) (bnd (M.laws_toSeries a0) fun x11 => bnd (M.spec_IsSeries x11) fun x18 => bnd (M.laws_toSeries a0) fun x23 => bnd (M.impl_IsSeries x23) fun x33 => ifB (x33 != x18) (some false) (bnd (M.laws_toSeries a0) fun x51 => bnd (M.laws_eqSeries x23 x51) fun x58 => ifB (!x58) (some false) (some true)))
def M.spec_PlacesOf_a1 (s_l1 : (List Int) × Int) : Option ((List Int) × Int) :=
  some (s_l1.1, 0)
def M.spec_PlacesOf_j1 (s_l1 : (List Int) × Int) (s_j1 : (List Int)) : Option (Stp ((List Int) × Int) ((List Int) × Int)) :=
  some (.cont (s_j1, w64 (s_l1.2 + 1)))
def M.spec_PlacesOf_j2 (s_l1 : (List Int) × Int) (s_j2 : (List Int)) : Option (Stp ((List Int) × Int) ((List Int) × Int)) :=
  M.spec_PlacesOf_j1 s_l1 s_j2
def M.spec_PlacesOf_l1 (a0 : Int) (a1 : Race) (s_l1 : (List Int) × Int) : Option (Stp ((List Int) × Int) ((List Int) × Int)) :=
  ifB (decide (s_l1.2 < (s_l1.1.length : Int))) (bnd (idx a1.Finishes s_l1.2) fun x389 => bnd (M.spec_l26Done x389) fun x396 => ifB x396 (bnd (M.spec_l26Place a1 (List.replicate (a0).toNat (0 : Int)) s_l1.2) fun x402 => bnd (idx s_l1.1 s_l1.2) fun x407 => M.spec_PlacesOf_j2 s_l1 (s_l1.1.set (s_l1.2 : Int).toNat x402.1)) (M.spec_PlacesOf_j2 s_l1 s_l1.1)) (some (.brk (s_l1.1, s_l1.2)))
def M.spec_PlacesOf (a0 : Int) (a1 : Race) : Option ((List Int) × Int) :=
  bnd (M.spec_IsRace a0 a1) fun x5 => ifB (!x5) (some ([], 1)) (chk (0 ≤ a0 ∧ a0 < 1099511627776) (chk (0 ≤ a0 ∧ a0 < 1099511627776) (bnd (loopF (M.spec_PlacesOf_l1 a0 a1) (List.replicate (a0).toNat (0 : Int), 0)) fun o => outc o (fun x => some x) (fun s => M.spec_PlacesOf_a1 s))))
def M.impl_placesOf_a1 (s_l1 : (List Int) × (List Int) × Int) : Option ((List Int) × (List Int)) :=
  some (s_l1.1, s_l1.2.1)
def M.impl_placesOf_j1 (s_l1 : (List Int) × (List Int) × Int) (s_j1 : (List Int) × (List Int)) : Option (Stp ((List Int) × (List Int)) ((List Int) × (List Int) × Int)) :=
  some (.cont (s_j1.1, s_j1.2, w64 (s_l1.2.2 + 1)))
def M.impl_placesOf_j2 (s_l1 : (List Int) × (List Int) × Int) (s_j2 : (List Int) × (List Int)) : Option (Stp ((List Int) × (List Int)) ((List Int) × (List Int) × Int)) :=
  M.impl_placesOf_j1 s_l1 (s_j2.1, s_j2.2)
def M.impl_placesOf_a2 (s_l1 : (List Int) × (List Int) × Int) (s_l2 : (List Int) × (List Int) × Int) : Option (Stp ((List Int) × (List Int)) ((List Int) × (List Int) × Int)) :=
  M.impl_placesOf_j2 s_l1 (s_l2.1, s_l2.2.1)
def M.impl_placesOf_j3 (s_l2 : (List Int) × (List Int) × Int) (s_j3 : (List Int) × (List Int)) : Option (Stp ((List Int) × (List Int)) ((List Int) × (List Int) × Int)) :=
  some (.cont (s_j3.1, s_j3.2, w64 (s_l2.2.2 + 1)))
def M.impl_placesOf_j4 (s_l2 : (List Int) × (List Int) × Int) (s_j4 : (List Int) × (List Int)) : Option (Stp ((List Int) × (List Int)) ((List Int) × (List Int) × Int)) :=
  M.impl_placesOf_j3 s_l2 (s_j4.1, s_j4.2)
def M.impl_placesOf_j6 (s_l1 : (List Int) × (List Int) × Int) (s_l2 : (List Int) × (List Int) × Int) (s_j6 : Bool) : Option (Stp ((List Int) × (List Int)) ((List Int) × (List Int) × Int)) :=
  ifB s_j6 (bnd (idx s_l2.2.1 s_l1.2.2) fun x13237 => bnd (idx s_l2.2.1 s_l1.2.2) fun x13244 => M.impl_placesOf_j4 s_l2 (s_l2.1, s_l2.2.1.set (s_l1.2.2 : Int).toNat (w64 (x13237 + 1)))) (M.impl_placesOf_j4 s_l2 (s_l2.1, s_l2.2.1))
def M.impl_placesOf_j5 (s_l1 : (List Int) × (List Int) × Int) (x12163 : Finish) (s_l2 : (List Int) × (List Int) × Int) (x13179 : Finish) (s_j5 : Bool) : Option (Stp ((List Int) × (List Int)) ((List Int) × (List Int) × Int)) :=
  ifB s_j5 (bnd (idx s_l2.1 s_l1.2.2) fun x13206 => bnd (idx s_l2.1 s_l1.2.2) fun x13213 => M.impl_placesOf_j4 s_l2 (s_l2.1.set (s_l1.2.2 : Int).toNat (w64 (x13206 + 1)), s_l2.2.1)) (ifB (x13179.Code == 0) (M.impl_placesOf_j6 s_l1 s_l2 (x13179.Time == x12163.Time)) (M.impl_placesOf_j6 s_l1 s_l2 false))
def M.impl_placesOf_l2 (a0 : List Finish) (s_l1 : (List Int) × (List Int) × Int) (x12163 : Finish) (s_l2 : (List Int) × (List Int) × Int) : Option (Stp ((List Int) × (List Int)) ((List Int) × (List Int) × Int)) :=
  ifB (decide (s_l2.2.2 < (a0.length : Int))) (bnd (idx a0 s_l2.2.2) fun x13179 => ifB (x13179.Code == 0) (M.impl_placesOf_j5 s_l1 x12163 s_l2 x13179 (decide (x13179.Time < x12163.Time))) (M.impl_placesOf_j5 s_l1 x12163 s_l2 x13179 false)) (some (.brk (s_l2.1, s_l2.2.1, s_l2.2.2)))
def M.impl_placesOf_l1 (a0 : List Finish) (s_l1 : (List Int) × (List Int) × Int) : Option (Stp ((List Int) × (List Int)) ((List Int) × (List Int) × Int)) :=
  ifB (decide (s_l1.2.2 < (a0.length : Int))) (bnd (idx a0 s_l1.2.2) fun x12163 => ifB (x12163.Code != 0) (M.impl_placesOf_j2 s_l1 (s_l1.1, s_l1.2.1)) (bnd (idx s_l1.1 s_l1.2.2) fun x12174 => bnd (loopF (M.impl_placesOf_l2 a0 s_l1 x12163) (s_l1.1.set (s_l1.2.2 : Int).toNat 1, s_l1.2.1, 0)) fun o => outc o (fun x => some (.ret x)) (fun s => M.impl_placesOf_a2 s_l1 s))) (some (.brk (s_l1.1, s_l1.2.1, s_l1.2.2)))
def M.impl_placesOf (a0 : List Finish) : Option ((List Int) × (List Int)) :=
  chk (0 ≤ (a0.length : Int) ∧ (a0.length : Int) < 1099511627776) (chk (0 ≤ (a0.length : Int) ∧ (a0.length : Int) < 1099511627776) (bnd (loopF (M.impl_placesOf_l1 a0) (List.replicate ((a0.length : Int)).toNat (0 : Int), List.replicate ((a0.length : Int)).toNat (0 : Int), 0)) fun o => outc o (fun x => some x) (fun s => M.impl_placesOf_a1 s)))
def M.impl_PlacesOf (a0 : Int) (a1 : Race) : Option ((List Int) × Int) :=
  bnd (M.impl_IsRace a0 a1) fun x5 => ifB (!x5) (some ([], 1)) (bnd (M.impl_placesOf a1.Finishes) fun x11 => some (x11.1, 0))
def M.laws_markRace (a0 : Race) (a1 : Int) : Option ((Int) × Race) :=
  bnd (M.laws_markFinishS a0.Finishes a1) fun x7 => some (x7.1, (Race.mk x7.2))
def M.laws_FnExactPlacesOf_j3 (x106 : (Int) × (List Int)) (s_j3 : Bool) : Option Bool :=
  ifB s_j3 (some false) (bnd (M.laws_heldInt64S x106.2 1) fun x145 => ifB (decide (x145 < 0)) (some false) (ifB (x145 != x106.1) (some false) (some true)))
def M.laws_FnExactPlacesOf_j2 (a0 : Int) (a1 : Race) (x18 : (List Int) × Int) (x35 : (List Int) × Int) (s_j2 : Bool) : Option Bool :=
  ifB s_j2 (some false) (bnd (M.laws_markInt64S x35.1 1) fun x106 => bnd (M.laws_heldInt64S x106.2 1) fun x112 => ifB (decide (x112 < 0)) (some false) (ifB (x112 != x106.1) (some false) (bnd (M.laws_toRace a1) fun x119 => bnd (M.impl_PlacesOf a0 x119) fun x126 => bnd (M.laws_eqInt64S x126.1 x18.1) fun x152 => ifB (!x152) (M.laws_FnExactPlacesOf_j3 x106 true) (M.laws_FnExactPlacesOf_j3 x106 (x126.2 != x18.2)))))
def M.laws_FnExactPlacesOf_j1 (a0 : Int) (a1 : Race) (x18 : (List Int) × Int) (x25 : Race) (x35 : (List Int) × Int) (s_j1 : Bool) : Option Bool :=
  ifB s_j1 (some false) (bnd (M.laws_toRace a1) fun x71 => bnd (M.laws_eqRace x25 x71) fun x78 => ifB (!x78) (some false) (bnd (M.laws_markRace (Race.mk x25.Finishes) 1) fun x84 => ifB (decide (x84.1 < 0)) (M.laws_FnExactPlacesOf_j2 a0 a1 x18 x35 true) (bnd (M.laws_eqInt64S x35.1 x18.1) fun x159 => ifB (!x159) (M.laws_FnExactPlacesOf_j2 a0 a1 x18 x35 true) (M.laws_FnExactPlacesOf_j2 a0 a1 x18 x35 (x35.2 != x18.2)))))
def M.laws_FnExactPlacesOf (a0 : Int) (a1 : Race) : Option Bool :=
  bnd (M.laws_szRace a1 1048576) fun x5 => ifB (decide (x5 < 0)) (some true) (bnd (M.laws_toRace a1) fun x11 => bnd (M.spec_PlacesOf a0 x11) fun x18 => bnd (M.laws_toRace a1) fun x25 => bnd (M.impl_PlacesOf a0 x25) fun x35 => bnd (M.laws_eqInt64S x35.1 x18.1) fun x165 => ifB (!x165) (M.laws_FnExactPlacesOf_j1 a0 a1 x18 x25 x35 true) (M.laws_FnExactPlacesOf_j1 a0 a1 x18 x25 x35 (x35.2 != x18.2)))
def M.impl_racePoints_a1 (s_l1 : (List Int) × Int) : Option (List Int) :=
  some s_l1.1
def M.impl_racePoints_j1 (s_l1 : (List Int) × Int) (s_j1 : (List Int)) : Option (Stp (List Int) ((List Int) × Int)) :=
  some (.cont (s_j1, w64 (s_l1.2 + 1)))
def M.impl_racePoints_j2 (s_l1 : (List Int) × Int) (s_j2 : (List Int)) : Option (Stp (List Int) ((List Int) × Int)) :=
  M.impl_racePoints_j1 s_l1 s_j2
def M.impl_racePoints_l1 (a0 : List Finish) (a1 : Int) (x3 : (List Int) × (List Int)) (s_l1 : (List Int) × Int) : Option (Stp (List Int) ((List Int) × Int)) :=
  ifB (decide (s_l1.2 < (a0.length : Int))) (bnd (idx a0 s_l1.2) fun x869 => ifB (x869.Code == 0) (bnd (idx x3.1 s_l1.2) fun x901 => bnd (idx x3.2 s_l1.2) fun x908 => chk (s_l1.1.length + ([w64 (5 * (w64 ((w64 ((w64 (2 * x901)) + x908)) - 1)))] : List Int).length < 1099511627776) (M.impl_racePoints_j2 s_l1 (s_l1.1 ++ ([w64 (5 * (w64 ((w64 ((w64 (2 * x901)) + x908)) - 1)))] : List Int)))) (bnd (M.impl_codePoints a0 x869.Code a1) fun x922 => chk (s_l1.1.length + ([x922] : List Int).length < 1099511627776) (M.impl_racePoints_j2 s_l1 (s_l1.1 ++ ([x922] : List Int))))) (some (.brk (s_l1.1, s_l1.2)))
def M.impl_racePoints (a0 : List Finish) (a1 : Int) : Option (List Int) :=
  bnd (M.impl_placesOf a0) fun x3 => bnd (loopF (M.impl_racePoints_l1 a0 a1 x3) (([] : List Int), 0)) fun o => outc o (fun x => some x) (fun s => M.impl_racePoints_a1 s)
def M.impl_RacePoints (a0 : Int) (a1 : Race) (a2 : Int) : Option ((List Int) × Int) :=
  bnd (M.impl_IsRace a0 a1) fun x5 => ifB (!x5) (some ([], 1)) (bnd (M.impl_isScheme a2) fun x11 => ifB (!x11) (some ([], 2)) (bnd (M.impl_racePoints a1.Finishes a2) fun x17 => some (x17, 0)))
def M.spec_RacePoints (a0 : Int) (a1 : Race) (a2 : Int) : Option ((List Int) × Int) :=
  bnd (M.spec_IsRace a0 a1) fun x5 => ifB (!x5) (some ([], 1)) (bnd (M.spec_l01In a2 0 1) fun x11 => ifB (!x11) (some ([], 2)) (bnd (M.spec_l26Points a1 a2) fun x17 => some (x17, 0)))
def M.laws_FnExactRacePoints_j3 (x108 : (Int) × (List Int)) (s_j3 : Bool) : Option Bool :=
  ifB s_j3 (some false) (bnd (M.laws_heldInt64S x108.2 1) fun x147 => ifB (decide (x147 < 0)) (some false) (ifB (x147 != x108.1) (some false) (some true)))
def M.laws_FnExactRacePoints_j2 (a0 : Int) (a1 : Race) (a2 : Int) (x18 : (List Int) × Int) (x35 : (List Int) × Int) (s_j2 : Bool) : Option Bool :=
  ifB s_j2 (some false) (bnd (M.laws_markInt64S x35.1 1) fun x108 => bnd (M.laws_heldInt64S x108.2 1) fun x114 => ifB (decide (x114 < 0)) (some false) (ifB (x114 != x108.1) (some false) (bnd (M.laws_toRace a1) fun x121 => bnd (M.impl_RacePoints a0 x121 a2) fun x128 => bnd (M.laws_eqInt64S x128.1 x18.1) fun x154 => ifB (!x154) (M.laws_FnExactRacePoints_j3 x108 true) (M.laws_FnExactRacePoints_j3 x108 (x128.2 != x18.2)))))
def M.laws_FnExactRacePoints_j1 (a0 : Int) (a1 : Race) (a2 : Int) (x18 : (List Int) × Int) (x25 : Race) (x35 : (List Int) × Int) (s_j1 : Bool) : Option Bool :=
  ifB s_j1 (some false) (bnd (M.laws_toRace a1) fun x72 => bnd (M.laws_eqRace x25 x72) fun x79 => ifB (!x79) (some false) (bnd (M.laws_markRace (Race.mk x25.Finishes) 1) fun x85 => ifB (decide (x85.1 < 0)) (M.laws_FnExactRacePoints_j2 a0 a1 a2 x18 x35 true) (bnd (M.laws_eqInt64S x35.1 x18.1) fun x161 => ifB (!x161) (M.laws_FnExactRacePoints_j2 a0 a1 a2 x18 x35 true) (M.laws_FnExactRacePoints_j2 a0 a1 a2 x18 x35 (x35.2 != x18.2)))))
def M.laws_FnExactRacePoints (a0 : Int) (a1 : Race) (a2 : Int) : Option Bool :=
  bnd (M.laws_szRace a1 1048576) fun x5 => ifB (decide (x5 < 0)) (some true) (bnd (M.laws_toRace a1) fun x11 => bnd (M.spec_RacePoints a0 x11 a2) fun x18 => bnd (M.laws_toRace a1) fun x25 => bnd (M.impl_RacePoints a0 x25 a2) fun x35 => bnd (M.laws_eqInt64S x35.1 x18.1) fun x167 => ifB (!x167) (M.laws_FnExactRacePoints_j1 a0 a1 a2 x18 x25 x35 true) (M.laws_FnExactRacePoints_j1 a0 a1 a2 x18 x25 x35 (x35.2 != x18.2)))
def M.impl_tableOf_a1 (a0 : Series) (s_l1 : (List (List Int)) × (List (List Int)) × Int) : Option Table :=
  some (Table.mk a0.Boats s_l1.1 s_l1.2.1)
def M.impl_tableOf_a2 (a0 : Series) (s_l1 : (List (List Int)) × (List (List Int)) × Int) (x344 : Race) (s_l2 : (List Int) × Int) : Option (Stp Table ((List (List Int)) × (List (List Int)) × Int)) :=
  bnd (M.impl_racePoints x344.Finishes a0.Scheme) fun x441 => chk (s_l1.1.length + ([x441] : List (List Int)).length < 1099511627776) (chk (s_l1.2.1.length + ([s_l2.1] : List (List Int)).length < 1099511627776) (some (.cont (s_l1.1 ++ ([x441] : List (List Int)), s_l1.2.1 ++ ([s_l2.1] : List (List Int)), w64 (s_l1.2.2 + 1)))))
def M.impl_tableOf_l2 (x344 : Race) (s_l2 : (List Int) × Int) : Option (Stp Table ((List Int) × Int)) :=
  ifB (decide (s_l2.2 < (x344.Finishes.length : Int))) (bnd (idx x344.Finishes s_l2.2) fun x1234 => chk (s_l2.1.length + ([x1234.Code] : List Int).length < 1099511627776) (some (.cont (s_l2.1 ++ ([x1234.Code] : List Int), w64 (s_l2.2 + 1))))) (some (.brk (s_l2.1, s_l2.2)))
def M.impl_tableOf_l1 (a0 : Series) (s_l1 : (List (List Int)) × (List (List Int)) × Int) : Option (Stp Table ((List (List Int)) × (List (List Int)) × Int)) :=
  ifB (decide (s_l1.2.2 < (a0.Races.length : Int))) (bnd (idx a0.Races s_l1.2.2) fun x344 => bnd (loopF (M.impl_tableOf_l2 x344) (([] : List Int), 0)) fun o => outc o (fun x => some (.ret x)) (fun s => M.impl_tableOf_a2 a0 s_l1 x344 s)) (some (.brk (s_l1.1, s_l1.2.1, s_l1.2.2)))
def M.impl_tableOf (a0 : Series) : Option Table :=
  bnd (loopF (M.impl_tableOf_l1 a0) ([], [], 0)) fun o => outc o (fun x => some x) (fun s => M.impl_tableOf_a1 a0 s)
def M.impl_TableOf (a0 : Series) : Option (Table × Int) :=
  bnd (M.impl_IsSeries a0) fun x7 => ifB (!x7) (some ((Table.mk 0 [] []), 1)) (bnd (M.impl_tableOf a0) fun x14 => some (x14, 0))
def M.spec_TableOf_a1 (a0 : Series) (s_l1 : (List (List Int)) × (List (List Int)) × Int) : Option (Table × Int) :=
  some ((Table.mk a0.Boats s_l1.1 s_l1.2.1), 0)
def M.spec_TableOf_a2 (a0 : Series) (s_l1 : (List (List Int)) × (List (List Int)) × Int) (s_l2 : (List Int) × Int) : Option (Stp (Table × Int) ((List (List Int)) × (List (List Int)) × Int)) :=
  bnd (idx a0.Races s_l1.2.2) fun x597 => bnd (M.spec_l26Points x597 a0.Scheme) fun x608 => chk (s_l1.1.length + ([x608] : List (List Int)).length < 1099511627776) (chk (s_l1.2.1.length + ([s_l2.1] : List (List Int)).length < 1099511627776) (some (.cont (s_l1.1 ++ ([x608] : List (List Int)), s_l1.2.1 ++ ([s_l2.1] : List (List Int)), w64 (s_l1.2.2 + 1)))))
def M.spec_TableOf_l2 (a0 : Series) (s_l1 : (List (List Int)) × (List (List Int)) × Int) (s_l2 : (List Int) × Int) : Option (Stp (Table × Int) ((List Int) × Int)) :=
  bnd (idx a0.Races s_l1.2.2) fun x1342 => ifB (decide (s_l2.2 < (x1342.Finishes.length : Int))) (bnd (idx a0.Races s_l1.2.2) fun x1354 => bnd (idx x1354.Finishes s_l2.2) fun x1365 => chk (s_l2.1.length + ([x1365.Code] : List Int).length < 1099511627776) (some (.cont (s_l2.1 ++ ([x1365.Code] : List Int), w64 (s_l2.2 + 1))))) (some (.brk (s_l2.1, s_l2.2)))
def M.spec_TableOf_l1 (a0 : Series) (s_l1 : (List (List Int)) × (List (List Int)) × Int) : Option (Stp (Table × Int) ((List (List Int)) × (List (List Int)) × Int)) :=
  ifB (decide (s_l1.2.2 < (a0.Races.length : Int))) (bnd (loopF (M.spec_TableOf_l2 a0 s_l1) (([] : List Int), 0)) fun o => outc o (fun x => some (.ret x)) (fun s => M.spec_TableOf_a2 a0 s_l1 s)) (some (.brk (s_l1.1, s_l1.2.1, s_l1.2.2)))
def M.spec_TableOf (a0 : Series) : Option (Table × Int) :=
  bnd (M.spec_IsSeries a0) fun x7 => ifB (!x7) (some ((Table.mk 0 [] []), 1)) (bnd (loopF (M.spec_TableOf_l1 a0) (([] : List (List Int)), ([] : List (List Int)), 0)) fun o => outc o (fun x => some x) (fun s => M.spec_TableOf_a1 a0 s))
def M.impl_sortedIndices_1 (a0 : Int) (a1 : Int) (a2 : Int → Int → Option Int) : Option Int :=
  bnd (a2 a0 a1) fun x6 => bnd (M.impl_sign x6) fun x11 => some x11
def M.slices_insertionSortCmpFunc_int64__a1 (s_l1 : (List Int) × Int) : Option ((Unit) × (List Int)) :=
  some ((), s_l1.1)
def M.slices_insertionSortCmpFunc_int64__a2 (s_l1 : (List Int) × Int) (s_l2 : (List Int) × Int) : Option (Stp ((Unit) × (List Int)) ((List Int) × Int)) :=
  some (.cont (s_l2.1, w64 (s_l1.2 + 1)))
def M.slices_insertionSortCmpFunc_int64__j1 (s_l2 : (List Int) × Int) (s_j1 : Bool) : Option (Stp ((Unit) × (List Int)) ((List Int) × Int)) :=
  ifB s_j1 (bnd (idx s_l2.1 (w64 (s_l2.2 - 1))) fun x1164 => bnd (idx s_l2.1 s_l2.2) fun x1171 => bnd (idx s_l2.1 s_l2.2) fun x1180 => bnd (idx (s_l2.1.set (s_l2.2 : Int).toNat x1164) (w64 (s_l2.2 - 1))) fun x1188 => some (.cont ((s_l2.1.set (s_l2.2 : Int).toNat x1164).set (w64 (s_l2.2 - 1) : Int).toNat x1171, w64 (s_l2.2 - 1)))) (some (.brk (s_l2.1, s_l2.2)))
def M.slices_insertionSortCmpFunc_int64__l2 (a1 : Int) (a3 : Int → Int → Option Int) (s_l2 : (List Int) × Int) : Option (Stp ((Unit) × (List Int)) ((List Int) × Int)) :=
  ifB (decide (a1 < s_l2.2)) (bnd (idx s_l2.1 s_l2.2) fun x1213 => bnd (idx s_l2.1 (w64 (s_l2.2 - 1))) fun x1220 => bnd (a3 x1213 x1220) fun x1227 => M.slices_insertionSortCmpFunc_int64__j1 s_l2 (decide (x1227 < 0))) (M.slices_insertionSortCmpFunc_int64__j1 s_l2 false)
def M.slices_insertionSortCmpFunc_int64__l1 (a1 : Int) (a2 : Int) (a3 : Int → Int → Option Int) (s_l1 : (List Int) × Int) : Option (Stp ((Unit) × (List Int)) ((List Int) × Int)) :=
  ifB (decide (s_l1.2 < a2)) (bnd (loopF (M.slices_insertionSortCmpFunc_int64__l2 a1 a3) (s_l1.1, s_l1.2)) fun o => outc o (fun x => some (.ret x)) (fun s => M.slices_insertionSortCmpFunc_int64__a2 s_l1 s)) (some (.brk (s_l1.1, s_l1.2)))
def M.slices_insertionSortCmpFunc_int64_ (a0 : List Int) (a1 : Int) (a2 : Int) (a3 : Int → Int → Option Int) : Option ((Unit) × (List Int)) :=
  bnd (loopF (M.slices_insertionSortCmpFunc_int64__l1 a1 a2 a3) (a0, w64 (a1 + 1))) fun o => outc o (fun x => some x) (fun s => M.slices_insertionSortCmpFunc_int64__a1 s)
def M.slices_stableCmpFunc_int64__a2 (x36 : (Unit) × (List Int)) (s_l2 : Int) : Option ((Unit) × (List Int)) :=
  some ((), x36.2)
def M.slices_stableCmpFunc_int64__j1 (s_l2 : Int) (s_j1 : Unit) : Option (Stp ((Unit) × (List Int)) Int) :=
  some (.cont (w64 (s_l2 * 2)))
def M.slices_stableCmpFunc_int64__a3 (a1 : Int) (s_l2 : Int) (s_l3 : Unit) : Option (Stp ((Unit) × (List Int)) Int) :=
  ifB (decide ((w64 (0 + s_l2)) < a1)) (none) (M.slices_stableCmpFunc_int64__j1 s_l2 ())
def M.slices_stableCmpFunc_int64__l3 (a1 : Int) (s_l2 : Int) (s_l3 : Unit) : Option (Stp ((Unit) × (List Int)) Unit) :=
  ifB (decide ((w64 (2 * s_l2)) ≤ a1)) (none) (some (.brk ()))
def M.slices_stableCmpFunc_int64__l2 (a1 : Int) (s_l2 : Int) : Option (Stp ((Unit) × (List Int)) Int) :=
  ifB (decide (s_l2 < a1)) (bnd (loopF (M.slices_stableCmpFunc_int64__l3 a1 s_l2) ()) fun o => outc o (fun x => some (.ret x)) (fun s => M.slices_stableCmpFunc_int64__a3 a1 s_l2 s)) (some (.brk s_l2))
def M.slices_stableCmpFunc_int64__a1 (a1 : Int) (a2 : Int → Int → Option Int) (s_l1 : (List Int) × Int × Int) : Option ((Unit) × (List Int)) :=
  bnd (M.slices_insertionSortCmpFunc_int64_ s_l1.1 s_l1.2.1 a1 a2) fun x36 => bnd (loopF (M.slices_stableCmpFunc_int64__l2 a1) 20) fun o => outc o (fun x => some x) (fun s => M.slices_stableCmpFunc_int64__a2 x36 s)
def M.slices_stableCmpFunc_int64__l1 (a1 : Int) (a2 : Int → Int → Option Int) (s_l1 : (List Int) × Int × Int) : Option (Stp ((Unit) × (List Int)) ((List Int) × Int × Int)) :=
  ifB (decide (s_l1.2.2 ≤ a1)) (bnd (M.slices_insertionSortCmpFunc_int64_ s_l1.1 s_l1.2.1 s_l1.2.2 a2) fun x160 => some (.cont (x160.2, s_l1.2.2, w64 (s_l1.2.2 + 20)))) (some (.brk (s_l1.1, s_l1.2.1, s_l1.2.2)))
def M.slices_stableCmpFunc_int64_ (a0 : List Int) (a1 : Int) (a2 : Int → Int → Option Int) : Option ((Unit) × (List Int)) :=
  bnd (loopF (M.slices_stableCmpFunc_int64__l1 a1 a2) (a0, 0, 20)) fun o => outc o (fun x => some x) (fun s => M.slices_stableCmpFunc_int64__a1 a1 a2 s)
def M.slices_SortStableFunc___int64_int64_ (a0 : List Int) (a1 : Int → Int → Option Int) : Option ((Unit) × (List Int)) :=
  bnd (M.slices_stableCmpFunc_int64_ a0 (a0.length : Int) a1) fun x8 => some ((), x8.2)
def M.impl_sortedIndices_a1 (a1 : Int → Int → Option Int) (s_l1 : (List Int) × Int) : Option (List Int) :=
  bnd (M.slices_SortStableFunc___int64_int64_ s_l1.1 (fun y0 y1 => M.impl_sortedIndices_1 y0 y1 a1)) fun x39 => some x39.2
def M.impl_sortedIndices_l1 (a0 : Int) (s_l1 : (List Int) × Int) : Option (Stp (List Int) ((List Int) × Int)) :=
  ifB (decide (s_l1.2 < a0)) (chk (s_l1.1.length + ([s_l1.2] : List Int).length < 1099511627776) (some (.cont (s_l1.1 ++ ([s_l1.2] : List Int), w64 (s_l1.2 + 1))))) (some (.brk (s_l1.1, s_l1.2)))
def M.impl_sortedIndices (a0 : Int) (a1 : Int → Int → Option Int) : Option (List Int) :=
  bnd (loopF (M.impl_sortedIndices_l1 a0) (([] : List Int), 0)) fun o => outc o (fun x => some x) (fun s => M.impl_sortedIndices_a1 a1 s)
def M.laws_markSeries (a0 : Series) (a1 : Int) : Option ((Int) × Series) :=
  bnd (M.laws_markRaceS a0.Races a1) fun x7 => some (x7.1, (Series.mk a0.Boats a0.Scheme x7.2))
def M.laws_markTable (a0 : Table) (a1 : Int) : Option ((Int) × Table) :=
  bnd (M.laws_markInt64SS a0.Points a1) fun x10 => bnd (M.laws_markInt64SS a0.Codes x10.1) fun x16 => some (x16.1, (Table.mk a0.Boats x10.2 x16.2))
def M.laws_FnExactTableOf_j3 (x40 : Table × Int) (x114 : (Int) × Table) (s_j3 : Bool) : Option Bool :=
  ifB s_j3 (some false) (bnd (M.laws_heldTable (Table.mk x40.1.Boats x114.2.Points x114.2.Codes) 1) fun x159 => ifB (decide (x159 < 0)) (some false) (ifB (x159 != x114.1) (some false) (some true)))
def M.laws_FnExactTableOf_j2 (a0 : Series) (x18 : Table × Int) (x40 : Table × Int) (s_j2 : Bool) : Option Bool :=
  ifB s_j2 (some false) (bnd (M.laws_markTable (Table.mk x40.1.Boats x40.1.Points x40.1.Codes) 1) fun x114 => bnd (M.laws_heldTable (Table.mk x40.1.Boats x114.2.Points x114.2.Codes) 1) fun x121 => ifB (decide (x121 < 0)) (some false) (ifB (x121 != x114.1) (some false) (bnd (M.laws_toSeries a0) fun x128 => bnd (M.impl_TableOf x128) fun x135 => bnd (M.laws_eqTable x135.1 x18.1) fun x166 => ifB (!x166) (M.laws_FnExactTableOf_j3 x40 x114 true) (M.laws_FnExactTableOf_j3 x40 x114 (x135.2 != x18.2)))))
def M.laws_FnExactTableOf_j1 (a0 : Series) (x18 : Table × Int) (x30 : Series) (x40 : Table × Int) (s_j1 : Bool) : Option Bool :=
  ifB s_j1 (some false) (bnd (M.laws_toSeries a0) fun x80 => bnd (M.laws_eqSeries x30 x80) fun x87 => ifB (!x87) (some false) (bnd (M.laws_markSeries (Series.mk x30.Boats x30.Scheme x30.Races) 1) fun x93 => ifB (decide (x93.1 < 0)) (M.laws_FnExactTableOf_j2 a0 x18 x40 true) (bnd (M.laws_eqTable x40.1 x18.1) fun x173 => ifB (!x173) (M.laws_FnExactTableOf_j2 a0 x18 x40 true) (M.laws_FnExactTableOf_j2 a0 x18 x40 (x40.2 != x18.2)))))
def M.laws_FnExactTableOf (a0 : Series) : Option Bool :=
  bnd (M.laws_szSeries a0 1048576) fun x5 => ifB (decide (x5 < 0)) (some true) (bnd (M.laws_toSeries a0) fun x11 => bnd (M.spec_TableOf x11) fun x18 => bnd (M.laws_toSeries a0) fun x30 => bnd (M.impl_TableOf x30) fun x40 => bnd (M.laws_eqTable x40.1 x18.1) fun x179 => ifB (!x179) (M.laws_FnExactTableOf_j1 a0 x18 x30 x40 true) (M.laws_FnExactTableOf_j1 a0 x18 x30 x40 (x40.2 != x18.2)))
def M.impl_discardsOf_1 (a0 : Int) (a1 : Int) (a2 : Table) (a3 : Int) : Option Int :=
  bnd (idx a2.Points a1) fun x9 => bnd (idx x9 a3) fun x20 => bnd (idx a2.Points a0) fun x27 => bnd (idx x27 a3) fun x38 => some (w64 (x20 - x38))
def M.math_bits_Len64_j3 (a0 : Int) (s_j3 : Unit) : Option Int :=
  bnd (strAt (⟨#[0, 1, 2, 2, 3, 3, 3, 3, 4, 4, 4, 4, 4, 4, 4, 4, 5, 5, 5, 5, 5, 5, 5, 5, 5, 5, 5, 5, 5, 5, 5, 5, 6, 6, 6, 6, 6, 6, 6, 6, 6, 6, 6, 6, 6, 6, 6, 6, 6, 6, 6, 6, 6, 6, 6, 6, 6, 6, 6, 6, 6, 6, 6, 6, 7, 7, 7, 7, 7, 7, 7, 7, 7, 7, 7, 7, 7, 7, 7, 7, 7, 7, 7, 7, 7, 7, 7, 7, 7, 7, 7, 7, 7, 7, 7, 7, 7, 7, 7, 7, 7, 7, 7, 7, 7, 7, 7, 7, 7, 7, 7, 7, 7, 7, 7, 7, 7, 7, 7, 7, 7, 7, 7, 7, 7, 7, 7, 7, 8, 8, 8, 8, 8, 8, 8, 8, 8, 8, 8, 8, 8, 8, 8, 8, 8, 8, 8, 8, 8, 8, 8, 8, 8, 8, 8, 8, 8, 8, 8, 8, 8, 8, 8, 8, 8, 8, 8, 8, 8, 8, 8, 8, 8, 8, 8, 8, 8, 8, 8, 8, 8, 8, 8, 8, 8, 8, 8, 8, 8, 8, 8, 8, 8, 8, 8, 8, 8, 8, 8, 8, 8, 8, 8, 8, 8, 8, 8, 8, 8, 8, 8, 8, 8, 8, 8, 8, 8, 8, 8, 8, 8, 8, 8, 8, 8, 8, 8, 8, 8, 8, 8, 8, 8, 8, 8, 8, 8, 8, 8, 8, 8, 8, 8, 8, 8, 8, 8, 8, 8, 8, 8, 8, 8, 8, 8, 8]⟩ : ByteArray) (IntKind.u8.wrap a0)) fun x16 => some (w64 (0 + (IntKind.i64.wrap x16)))
def M.math_bits_Len64_j2 (a0 : Int) (s_j2 : Unit) : Option Int :=
  ifB (decide (256 ≤ a0)) (none) (M.math_bits_Len64_j3 a0 ())
def M.math_bits_Len64_j1 (a0 : Int) (s_j1 : Unit) : Option Int :=
  ifB (decide (65536 ≤ a0)) (none) (M.math_bits_Len64_j2 a0 ())
def M.math_bits_Len64 (a0 : Int) : Option Int :=
  ifB (decide (4294967296 ≤ a0)) (none) (M.math_bits_Len64_j1 a0 ())
def M.math_bits_Len (a0 : Int) : Option Int :=
  bnd (M.math_bits_Len64 a0) fun x1 => some x1
def M.cmp_isNaN_int64_ (a0 : Int) : Option Bool :=
  some (a0 != a0)
def M.cmp_Less_int64__j1 (s_j1 : Bool) : Option Bool :=
  some s_j1
def M.cmp_Less_int64_ (a0 : Int) (a1 : Int) : Option Bool :=
  bnd (M.cmp_isNaN_int64_ a0) fun x16 => ifB x16 (bnd (M.cmp_isNaN_int64_ a1) fun x22 => ifB (!x22) (M.cmp_Less_int64__j1 true) (M.cmp_Less_int64__j1 (decide (a0 < a1)))) (M.cmp_Less_int64__j1 (decide (a0 < a1)))
def M.slices_insertionSortOrdered_int64__a1 (s_l1 : (List Int) × Int) : Option ((Unit) × (List Int)) :=
  some ((), s_l1.1)
def M.slices_insertionSortOrdered_int64__a2 (s_l1 : (List Int) × Int) (s_l2 : (List Int) × Int) : Option (Stp ((Unit) × (List Int)) ((List Int) × Int)) :=
  some (.cont (s_l2.1, w64 (s_l1.2 + 1)))
def M.slices_insertionSortOrdered_int64__j1 (s_l2 : (List Int) × Int) (s_j1 : Bool) : Option (Stp ((Unit) × (List Int)) ((List Int) × Int)) :=
  ifB s_j1 (bnd (idx s_l2.1 (w64 (s_l2.2 - 1))) fun x1144 => bnd (idx s_l2.1 s_l2.2) fun x1151 => bnd (idx s_l2.1 s_l2.2) fun x1160 => bnd (idx (s_l2.1.set (s_l2.2 : Int).toNat x1144) (w64 (s_l2.2 - 1))) fun x1168 => some (.cont ((s_l2.1.set (s_l2.2 : Int).toNat x1144).set (w64 (s_l2.2 - 1) : Int).toNat x1151, w64 (s_l2.2 - 1)))) (some (.brk (s_l2.1, s_l2.2)))
def M.slices_insertionSortOrdered_int64__l2 (a1 : Int) (s_l2 : (List Int) × Int) : Option (Stp ((Unit) × (List Int)) ((List Int) × Int)) :=
  ifB (decide (a1 < s_l2.2)) (bnd (idx s_l2.1 s_l2.2) fun x1193 => bnd (idx s_l2.1 (w64 (s_l2.2 - 1))) fun x1200 => bnd (M.cmp_Less_int64_ x1193 x1200) fun x1207 => M.slices_insertionSortOrdered_int64__j1 s_l2 x1207) (M.slices_insertionSortOrdered_int64__j1 s_l2 false)
def M.slices_insertionSortOrdered_int64__l1 (a1 : Int) (a2 : Int) (s_l1 : (List Int) × Int) : Option (Stp ((Unit) × (List Int)) ((List Int) × Int)) :=
  ifB (decide (s_l1.2 < a2)) (bnd (loopF (M.slices_insertionSortOrdered_int64__l2 a1) (s_l1.1, s_l1.2)) fun o => outc o (fun x => some (.ret x)) (fun s => M.slices_insertionSortOrdered_int64__a2 s_l1 s)) (some (.brk (s_l1.1, s_l1.2)))
def M.slices_insertionSortOrdered_int64_ (a0 : List Int) (a1 : Int) (a2 : Int) : Option ((Unit) × (List Int)) :=
  bnd (loopF (M.slices_insertionSortOrdered_int64__l1 a1 a2) (a0, w64 (a1 + 1))) fun o => outc o (fun x => some x) (fun s => M.slices_insertionSortOrdered_int64__a1 s)
def M.slices_pdqsortOrdered_int64__a1 (a0 : List Int) (s_l1 : Unit) : Option ((Unit) × (List Int)) :=
  some ((), a0)
def M.slices_pdqsortOrdered_int64__j1 (s_j1 : Unit) : Option (Stp ((Unit) × (List Int)) Unit) :=
  none
def M.slices_pdqsortOrdered_int64__l1 (a0 : List Int) (a1 : Int) (a2 : Int) (a3 : Int) (s_l1 : Unit) : Option (Stp ((Unit) × (List Int)) Unit) :=
  ifB (decide ((w64 (a2 - a1)) ≤ 12)) (bnd (M.slices_insertionSortOrdered_int64_ a0 a1 a2) fun x77 => some (.ret ((), x77.2))) (ifB (a3 == 0) (none) (M.slices_pdqsortOrdered_int64__j1 ()))
def M.slices_pdqsortOrdered_int64_ (a0 : List Int) (a1 : Int) (a2 : Int) (a3 : Int) : Option ((Unit) × (List Int)) :=
  bnd (loopF (M.slices_pdqsortOrdered_int64__l1 a0 a1 a2 a3) ()) fun o => outc o (fun x => some x) (fun s => M.slices_pdqsortOrdered_int64__a1 a0 s)
def M.slices_Sort___int64_int64_ (a0 : List Int) : Option ((Unit) × (List Int)) :=
  bnd (M.math_bits_Len (IntKind.u64.wrap (a0.length : Int))) fun x5 => bnd (M.slices_pdqsortOrdered_int64_ a0 0 (a0.length : Int) x5) fun x10 => some ((), x10.2)
def M.impl_discardsOf_a1 (s_l1 : (List Int) × Int × Int) : Option (List Int) :=
  bnd (M.slices_Sort___int64_int64_ s_l1.1) fun x655 => some x655.2
def M.impl_discardsOf_j1 (s_l1 : (List Int) × Int × Int) (s_j1 : (List Int) × Int) : Option (Stp (List Int) ((List Int) × Int × Int)) :=
  some (.cont (s_j1.1, s_j1.2, w64 (s_l1.2.2 + 1)))
def M.impl_discardsOf_j2 (s_l1 : (List Int) × Int × Int) (s_j2 : (List Int) × Int) : Option (Stp (List Int) ((List Int) × Int × Int)) :=
  M.impl_discardsOf_j1 s_l1 (s_j2.1, s_j2.2)
def M.impl_discardsOf_j3 (s_l1 : (List Int) × Int × Int) (x908 : Int) (s_j3 : Bool) : Option (Stp (List Int) ((List Int) × Int × Int)) :=
  ifB s_j3 (chk (s_l1.1.length + ([x908] : List Int).length < 1099511627776) (M.impl_discardsOf_j2 s_l1 (s_l1.1 ++ ([x908] : List Int), w64 (s_l1.2.1 - 1)))) (M.impl_discardsOf_j2 s_l1 (s_l1.1, s_l1.2.1))
def M.impl_discardsOf_l1 (a0 : Table) (a2 : Int) (x19 : (List Int)) (s_l1 : (List Int) × Int × Int) : Option (Stp (List Int) ((List Int) × Int × Int)) :=
  ifB (decide (s_l1.2.2 < (x19.length : Int))) (bnd (idx x19 s_l1.2.2) fun x908 => ifB (decide (0 < s_l1.2.1)) (bnd (idx a0.Codes x908) fun x956 => bnd (idx x956 a2) fun x967 => M.impl_discardsOf_j3 s_l1 x908 (x967 != 7)) (M.impl_discardsOf_j3 s_l1 x908 false)) (some (.brk (s_l1.1, s_l1.2.1, s_l1.2.2)))
def M.impl_discardsOf (a0 : Table) (a1 : List Int) (a2 : Int) : Option (List Int) :=
  bnd (M.impl_discardCount a1 (a0.Points.length : Int)) fun x14 => bnd (M.impl_sortedIndices (a0.Points.length : Int) (fun y0 y1 => M.impl_discardsOf_1 y0 y1 a0 a2)) fun x19 => bnd (loopF (M.impl_discardsOf_l1 a0 a2 x19) (([] : List Int), x14, 0)) fun o => outc o (fun x => some x) (fun s => M.impl_discardsOf_a1 s)
def M.impl_DiscardsOf (a0 : Table) (a1 : List Int) (a2 : Int) : Option ((List Int) × Int) :=
  bnd (M.impl_tableCode a0 a1 a2) fun x9 => ifB (x9 != 0) (some ([], x9)) (bnd (M.impl_discardsOf a0 a1 a2) fun x15 => some (x15, 0))
def M.laws_FnExactDiscardsOf_j3 (x156 : (Int) × (List Int)) (s_j3 : Bool) : Option Bool :=
  ifB s_j3 (some false) (bnd (M.laws_heldInt64S x156.2 1) fun x204 => ifB (decide (x204 < 0)) (some false) (ifB (x204 != x156.1) (some false) (some true)))
def M.laws_FnExactDiscardsOf_j2 (a0 : Table) (a1 : List Int) (a2 : Int) (x32 : (List Int) × Int) (x58 : (List Int) × Int) (s_j2 : Bool) : Option Bool :=
  ifB s_j2 (some false) (bnd (M.laws_markInt64S x58.1 1) fun x156 => bnd (M.laws_heldInt64S x156.2 1) fun x162 => ifB (decide (x162 < 0)) (some false) (ifB (x162 != x156.1) (some false) (bnd (M.laws_toTable a0) fun x169 => bnd (M.laws_toInt64S a1) fun x178 => bnd (M.impl_DiscardsOf x169 x178 a2) fun x185 => bnd (M.laws_eqInt64S x185.1 x32.1) fun x211 => ifB (!x211) (M.laws_FnExactDiscardsOf_j3 x156 true) (M.laws_FnExactDiscardsOf_j3 x156 (x185.2 != x32.2)))))
def M.laws_FnExactDiscardsOf_j1 (a0 : Table) (a1 : List Int) (a2 : Int) (x32 : (List Int) × Int) (x39 : Table) (x51 : (List Int)) (x58 : (List Int) × Int) (s_j1 : Bool) : Option Bool :=
  ifB s_j1 (some false) (bnd (M.laws_toTable a0) fun x98 => bnd (M.laws_eqTable x39 x98) fun x107 => ifB (!x107) (some false) (bnd (M.laws_toInt64S a1) fun x113 => bnd (M.laws_eqInt64S x51 x113) fun x120 => ifB (!x120) (some false) (bnd (M.laws_markTable (Table.mk x39.Boats x39.Points x39.Codes) 1) fun x126 => bnd (M.laws_markInt64S x51 x126.1) fun x133 => ifB (decide (x133.1 < 0)) (M.laws_FnExactDiscardsOf_j2 a0 a1 a2 x32 x58 true) (bnd (M.laws_eqInt64S x58.1 x32.1) fun x218 => ifB (!x218) (M.laws_FnExactDiscardsOf_j2 a0 a1 a2 x32 x58 true) (M.laws_FnExactDiscardsOf_j2 a0 a1 a2 x32 x58 (x58.2 != x32.2))))))
def M.laws_FnExactDiscardsOf (a0 : Table) (a1 : List Int) (a2 : Int) : Option Bool :=
  ifB (decide (1048576 < (a1.length : Int))) (some true) (bnd (M.laws_szTable a0 1048576) fun x10 => ifB (decide (x10 < 0)) (some true) (bnd (M.laws_toTable a0) fun x16 => bnd (M.laws_toInt64S a1) fun x25 => bnd (M.spec_DiscardsOf x16 x25 a2) fun x32 => bnd (M.laws_toTable a0) fun x39 => bnd (M.laws_toInt64S a1) fun x51 => bnd (M.impl_DiscardsOf x39 x51 a2) fun x58 => bnd (M.laws_eqInt64S x58.1 x32.1) fun x224 => ifB (!x224) (M.laws_FnExactDiscardsOf_j1 a0 a1 a2 x32 x39 x51 x58 true) (M.laws_FnExactDiscardsOf_j1 a0 a1 a2 x32 x39 x51 x58 (x58.2 != x32.2))))
def M.slices_Index___int64_int64__a1 (s_l1 : Int) : Option Int :=
  some (-1)
def M.slices_Index___int64_int64__l1 (a0 : List Int) (a1 : Int) (s_l1 : Int) : Option (Stp Int Int) :=
  ifB (decide (s_l1 < (a0.length : Int))) (bnd (idx a0 s_l1) fun x38 => ifB (a1 == x38) (some (.ret s_l1)) (some (.cont (w64 (s_l1 + 1))))) (some (.brk s_l1))
def M.slices_Index___int64_int64_ (a0 : List Int) (a1 : Int) : Option Int :=
  bnd (loopF (M.slices_Index___int64_int64__l1 a0 a1) 0) fun o => outc o (fun x => some x) (fun s => M.slices_Index___int64_int64__a1 s)
def M.slices_Contains___int64_int64_ (a0 : List Int) (a1 : Int) : Option Bool :=
  bnd (M.slices_Index___int64_int64_ a0 a1) fun x3 => some (decide (0 ≤ x3))
def M.impl_countedPoints_a1 (s_l1 : (List Int) × Int) : Option (List Int) :=
  some s_l1.1
def M.impl_countedPoints_j1 (s_l1 : (List Int) × Int) (s_j1 : (List Int)) : Option (Stp (List Int) ((List Int) × Int)) :=
  some (.cont (s_j1, w64 (s_l1.2 + 1)))
def M.impl_countedPoints_j2 (s_l1 : (List Int) × Int) (s_j2 : (List Int)) : Option (Stp (List Int) ((List Int) × Int)) :=
  M.impl_countedPoints_j1 s_l1 s_j2
def M.impl_countedPoints_l1 (a0 : Table) (a2 : Int) (x12 : (List Int)) (s_l1 : (List Int) × Int) : Option (Stp (List Int) ((List Int) × Int)) :=
  ifB (decide (s_l1.2 < (a0.Points.length : Int))) (bnd (M.slices_Contains___int64_int64_ x12 s_l1.2) fun x477 => ifB (!x477) (bnd (idx a0.Points s_l1.2) fun x483 => bnd (idx x483 a2) fun x494 => chk (s_l1.1.length + ([x494] : List Int).length < 1099511627776) (M.impl_countedPoints_j2 s_l1 (s_l1.1 ++ ([x494] : List Int)))) (M.impl_countedPoints_j2 s_l1 s_l1.1)) (some (.brk (s_l1.1, s_l1.2)))
def M.impl_countedPoints (a0 : Table) (a1 : List Int) (a2 : Int) : Option (List Int) :=
  bnd (M.impl_discardsOf a0 a1 a2) fun x12 => bnd (loopF (M.impl_countedPoints_l1 a0 a2 x12) (([] : List Int), 0)) fun o => outc o (fun x => some x) (fun s => M.impl_countedPoints_a1 s)
def M.impl_netPoints_a1 (s_l1 : Int × Int) : Option Int :=
  some s_l1.1
def M.impl_netPoints_l1 (x9 : (List Int)) (s_l1 : Int × Int) : Option (Stp Int (Int × Int)) :=
  ifB (decide (s_l1.2 < (x9.length : Int))) (bnd (idx x9 s_l1.2) fun x49 => some (.cont (w64 (s_l1.1 + x49), w64 (s_l1.2 + 1)))) (some (.brk (s_l1.1, s_l1.2)))
def M.impl_netPoints (a0 : Table) (a1 : List Int) (a2 : Int) : Option Int :=
  bnd (M.impl_countedPoints a0 a1 a2) fun x9 => bnd (loopF (M.impl_netPoints_l1 x9) (0, 0)) fun o => outc o (fun x => some x) (fun s => M.impl_netPoints_a1 s)
def M.impl_NetPoints (a0 : Table) (a1 : List Int) (a2 : Int) : Option (Int × Int) :=
  bnd (M.impl_tableCode a0 a1 a2) fun x9 => ifB (x9 != 0) (some (0, x9)) (bnd (M.impl_netPoints a0 a1 a2) fun x15 => some (x15, 0))
def M.laws_FnExactNetPoints_j1 (a0 : Table) (a1 : List Int) (x37 : Table) (x49 : (List Int)) (s_j1 : Bool) : Option Bool :=
  ifB s_j1 (some false) (bnd (M.laws_toTable a0) fun x84 => bnd (M.laws_eqTable x37 x84) fun x93 => ifB (!x93) (some false) (bnd (M.laws_toInt64S a1) fun x99 => bnd (M.laws_eqInt64S x49 x99) fun x106 => ifB (!x106) (some false) (some true)))
def M.laws_FnExactNetPoints (a0 : Table) (a1 : List Int) (a2 : Int) : Option Bool :=
  ifB (decide (1048576 < (a1.length : Int))) (some true) (bnd (M.laws_szTable a0 1048576) fun x10 => ifB (decide (x10 < 0)) (some true) (bnd (M.laws_toTable a0) fun x16 => bnd (M.laws_toInt64S a1) fun x25 => bnd (M.spec_NetPoints x16 x25 a2) fun x32 => bnd (M.laws_toTable a0) fun x37 => bnd (M.laws_toInt64S a1) fun x49 => bnd (M.impl_NetPoints x37 x49 a2) fun x56 => ifB (x56.1 != x32.1) (M.laws_FnExactNetPoints_j1 a0 a1 x37 x49 true) (M.laws_FnExactNetPoints_j1 a0 a1 x37 x49 (x56.2 != x32.2))))
def M.impl_TotalPoints (a0 : Table) (a1 : Int) : Option (Int × Int) :=
  bnd (M.impl_tableCode a0 ([] : List Int) a1) fun x7 => ifB (x7 != 0) (some (0, x7)) (bnd (M.impl_netPoints a0 ([] : List Int) a1) fun x13 => some (x13, 0))
def M.laws_FnExactTotalPoints_j1 (a0 : Table) (x27 : Table) (s_j1 : Bool) : Option Bool :=
  ifB s_j1 (some false) (bnd (M.laws_toTable a0) fun x65 => bnd (M.laws_eqTable x27 x65) fun x74 => ifB (!x74) (some false) (some true))
def M.laws_FnExactTotalPoints (a0 : Table) (a1 : Int) : Option Bool :=
  bnd (M.laws_szTable a0 1048576) fun x7 => ifB (decide (x7 < 0)) (some true) (bnd (M.laws_toTable a0) fun x13 => bnd (M.spec_TotalPoints x13 a1) fun x22 => bnd (M.laws_toTable a0) fun x27 => bnd (M.impl_TotalPoints x27 a1) fun x39 => ifB (x39.1 != x22.1) (M.laws_FnExactTotalPoints_j1 a0 x27 true) (M.laws_FnExactTotalPoints_j1 a0 x27 (x39.2 != x22.2)))
def M.impl_CountedPoints (a0 : Table) (a1 : List Int) (a2 : Int) : Option ((List Int) × Int) :=
  bnd (M.impl_tableCode a0 a1 a2) fun x9 => ifB (x9 != 0) (some ([], x9)) (bnd (M.impl_countedPoints a0 a1 a2) fun x15 => some (x15, 0))
def M.laws_FnExactCountedPoints_j3 (x156 : (Int) × (List Int)) (s_j3 : Bool) : Option Bool :=
  ifB s_j3 (some false) (bnd (M.laws_heldInt64S x156.2 1) fun x204 => ifB (decide (x204 < 0)) (some false) (ifB (x204 != x156.1) (some false) (some true)))
def M.laws_FnExactCountedPoints_j2 (a0 : Table) (a1 : List Int) (a2 : Int) (x32 : (List Int) × Int) (x58 : (List Int) × Int) (s_j2 : Bool) : Option Bool :=
  ifB s_j2 (some false) (bnd (M.laws_markInt64S x58.1 1) fun x156 => bnd (M.laws_heldInt64S x156.2 1) fun x162 => ifB (decide (x162 < 0)) (some false) (ifB (x162 != x156.1) (some false) (bnd (M.laws_toTable a0) fun x169 => bnd (M.laws_toInt64S a1) fun x178 => bnd (M.impl_CountedPoints x169 x178 a2) fun x185 => bnd (M.laws_eqInt64S x185.1 x32.1) fun x211 => ifB (!x211) (M.laws_FnExactCountedPoints_j3 x156 true) (M.laws_FnExactCountedPoints_j3 x156 (x185.2 != x32.2)))))
def M.laws_FnExactCountedPoints_j1 (a0 : Table) (a1 : List Int) (a2 : Int) (x32 : (List Int) × Int) (x39 : Table) (x51 : (List Int)) (x58 : (List Int) × Int) (s_j1 : Bool) : Option Bool :=
  ifB s_j1 (some false) (bnd (M.laws_toTable a0) fun x98 => bnd (M.laws_eqTable x39 x98) fun x107 => ifB (!x107) (some false) (bnd (M.laws_toInt64S a1) fun x113 => bnd (M.laws_eqInt64S x51 x113) fun x120 => ifB (!x120) (some false) (bnd (M.laws_markTable (Table.mk x39.Boats x39.Points x39.Codes) 1) fun x126 => bnd (M.laws_markInt64S x51 x126.1) fun x133 => ifB (decide (x133.1 < 0)) (M.laws_FnExactCountedPoints_j2 a0 a1 a2 x32 x58 true) (bnd (M.laws_eqInt64S x58.1 x32.1) fun x218 => ifB (!x218) (M.laws_FnExactCountedPoints_j2 a0 a1 a2 x32 x58 true) (M.laws_FnExactCountedPoints_j2 a0 a1 a2 x32 x58 (x58.2 != x32.2))))))
def M.laws_FnExactCountedPoints (a0 : Table) (a1 : List Int) (a2 : Int) : Option Bool :=
  ifB (decide (1048576 < (a1.length : Int))) (some true) (bnd (M.laws_szTable a0 1048576) fun x10 => ifB (decide (x10 < 0)) (some true) (bnd (M.laws_toTable a0) fun x16 => bnd (M.laws_toInt64S a1) fun x25 => bnd (M.spec_CountedPoints x16 x25 a2) fun x32 => bnd (M.laws_toTable a0) fun x39 => bnd (M.laws_toInt64S a1) fun x51 => bnd (M.impl_CountedPoints x39 x51 a2) fun x58 => bnd (M.laws_eqInt64S x58.1 x32.1) fun x224 => ifB (!x224) (M.laws_FnExactCountedPoints_j1 a0 a1 a2 x32 x39 x51 x58 true) (M.laws_FnExactCountedPoints_j1 a0 a1 a2 x32 x39 x51 x58 (x58.2 != x32.2))))
def M.impl_sortedPoints (a0 : Table) (a1 : List Int) (a2 : Int) : Option (List Int) :=
  bnd (M.impl_countedPoints a0 a1 a2) fun x9 => bnd (M.slices_Sort___int64_int64_ x9) fun x16 => some x16.2
def M.impl_SortedPoints (a0 : Table) (a1 : List Int) (a2 : Int) : Option ((List Int) × Int) :=
  bnd (M.impl_tableCode a0 a1 a2) fun x9 => ifB (x9 != 0) (some ([], x9)) (bnd (M.impl_sortedPoints a0 a1 a2) fun x15 => some (x15, 0))
def M.laws_FnExactSortedPoints_j3 (x156 : (Int) × (List Int)) (s_j3 : Bool) : Option Bool :=
  ifB s_j3 (some false) (bnd (M.laws_heldInt64S x156.2 1) fun x204 => ifB (decide (x204 < 0)) (some false) (ifB (x204 != x156.1) (some false) (some true)))
def M.laws_FnExactSortedPoints_j2 (a0 : Table) (a1 : List Int) (a2 : Int) (x32 : (List Int) × Int) (x58 : (List Int) × Int) (s_j2 : Bool) : Option Bool :=
  ifB s_j2 (some false) (bnd (M.laws_markInt64S x58.1 1) fun x156 => bnd (M.laws_heldInt64S x156.2 1) fun x162 => ifB (decide (x162 < 0)) (some false) (ifB (x162 != x156.1) (some false) (bnd (M.laws_toTable a0) fun x169 => bnd (M.laws_toInt64S a1) fun x178 => bnd (M.impl_SortedPoints x169 x178 a2) fun x185 => bnd (M.laws_eqInt64S x185.1 x32.1) fun x211 => ifB (!x211) (M.laws_FnExactSortedPoints_j3 x156 true) (M.laws_FnExactSortedPoints_j3 x156 (x185.2 != x32.2)))))
def M.laws_FnExactSortedPoints_j1 (a0 : Table) (a1 : List Int) (a2 : Int) (x32 : (List Int) × Int) (x39 : Table) (x51 : (List Int)) (x58 : (List Int) × Int) (s_j1 : Bool) : Option Bool :=
  ifB s_j1 (some false) (bnd (M.laws_toTable a0) fun x98 => bnd (M.laws_eqTable x39 x98) fun x107 => ifB (!x107) (some false) (bnd (M.laws_toInt64S a1) fun x113 => bnd (M.laws_eqInt64S x51 x113) fun x120 => ifB (!x120) (some false) (bnd (M.laws_markTable (Table.mk x39.Boats x39.Points x39.Codes) 1) fun x126 => bnd (M.laws_markInt64S x51 x126.1) fun x133 => ifB (decide (x133.1 < 0)) (M.laws_FnExactSortedPoints_j2 a0 a1 a2 x32 x58 true) (bnd (M.laws_eqInt64S x58.1 x32.1) fun x218 => ifB (!x218) (M.laws_FnExactSortedPoints_j2 a0 a1 a2 x32 x58 true) (M.laws_FnExactSortedPoints_j2 a0 a1 a2 x32 x58 (x58.2 != x32.2))))))
def M.laws_FnExactSortedPoints (a0 : Table) (a1 : List Int) (a2 : Int) : Option Bool :=
  ifB (decide (1048576 < (a1.length : Int))) (some true) (bnd (M.laws_szTable a0 1048576) fun x10 => ifB (decide (x10 < 0)) (some true) (bnd (M.laws_toTable a0) fun x16 => bnd (M.laws_toInt64S a1) fun x25 => bnd (M.spec_SortedPoints x16 x25 a2) fun x32 => bnd (M.laws_toTable a0) fun x39 => bnd (M.laws_toInt64S a1) fun x51 => bnd (M.impl_SortedPoints x39 x51 a2) fun x58 => bnd (M.laws_eqInt64S x58.1 x32.1) fun x224 => ifB (!x224) (M.laws_FnExactSortedPoints_j1 a0 a1 a2 x32 x39 x51 x58 true) (M.laws_FnExactSortedPoints_j1 a0 a1 a2 x32 x39 x51 x58 (x58.2 != x32.2))))
def M.impl_netScores_a1 (s_l1 : (List Int) × Int) : Option (List Int) :=
  some s_l1.1
def M.impl_netScores_l1 (a0 : Table) (a1 : List Int) (s_l1 : (List Int) × Int) : Option (Stp (List Int) ((List Int) × Int)) :=
  ifB (decide (s_l1.2 < a0.Boats)) (bnd (M.impl_netPoints a0 a1 s_l1.2) fun x61 => chk (s_l1.1.length + ([x61] : List Int).length < 1099511627776) (some (.cont (s_l1.1 ++ ([x61] : List Int), w64 (s_l1.2 + 1))))) (some (.brk (s_l1.1, s_l1.2)))
def M.impl_netScores (a0 : Table) (a1 : List Int) : Option (List Int) :=
  bnd (loopF (M.impl_netScores_l1 a0 a1) (([] : List Int), 0)) fun o => outc o (fun x => some x) (fun s => M.impl_netScores_a1 s)
def M.impl_NetScores (a0 : Table) (a1 : List Int) : Option ((List Int) × Int) :=
  bnd (M.impl_tableCode a0 a1 0) fun x9 => ifB (x9 != 0) (some ([], x9)) (bnd (M.impl_netScores a0 a1) fun x15 => some (x15, 0))
def M.laws_FnExactNetScores_j3 (x154 : (Int) × (List Int)) (s_j3 : Bool) : Option Bool :=
  ifB s_j3 (some false) (bnd (M.laws_heldInt64S x154.2 1) fun x202 => ifB (decide (x202 < 0)) (some false) (ifB (x202 != x154.1) (some false) (some true)))
def M.laws_FnExactNetScores_j2 (a0 : Table) (a1 : List Int) (x32 : (List Int) × Int) (x58 : (List Int) × Int) (s_j2 : Bool) : Option Bool :=
  ifB s_j2 (some false) (bnd (M.laws_markInt64S x58.1 1) fun x154 => bnd (M.laws_heldInt64S x154.2 1) fun x160 => ifB (decide (x160 < 0)) (some false) (ifB (x160 != x154.1) (some false) (bnd (M.laws_toTable a0) fun x167 => bnd (M.laws_toInt64S a1) fun x176 => bnd (M.impl_NetScores x167 x176) fun x183 => bnd (M.laws_eqInt64S x183.1 x32.1) fun x209 => ifB (!x209) (M.laws_FnExactNetScores_j3 x154 true) (M.laws_FnExactNetScores_j3 x154 (x183.2 != x32.2)))))
def M.laws_FnExactNetScores_j1 (a0 : Table) (a1 : List Int) (x32 : (List Int) × Int) (x39 : Table) (x51 : (List Int)) (x58 : (List Int) × Int) (s_j1 : Bool) : Option Bool :=
  ifB s_j1 (some false) (bnd (M.laws_toTable a0) fun x97 => bnd (M.laws_eqTable x39 x97) fun x106 => ifB (!x106) (some false) (bnd (M.laws_toInt64S a1) fun x112 => bnd (M.laws_eqInt64S x51 x112) fun x119 => ifB (!x119) (some false) (bnd (M.laws_markTable (Table.mk x39.Boats x39.Points x39.Codes) 1) fun x125 => bnd (M.laws_markInt64S x51 x125.1) fun x132 => ifB (decide (x132.1 < 0)) (M.laws_FnExactNetScores_j2 a0 a1 x32 x58 true) (bnd (M.laws_eqInt64S x58.1 x32.1) fun x216 => ifB (!x216) (M.laws_FnExactNetScores_j2 a0 a1 x32 x58 true) (M.laws_FnExactNetScores_j2 a0 a1 x32 x58 (x58.2 != x32.2))))))
def M.laws_FnExactNetScores (a0 : Table) (a1 : List Int) : Option Bool :=
  ifB (decide (1048576 < (a1.length : Int))) (some true) (bnd (M.laws_szTable a0 1048576) fun x10 => ifB (decide (x10 < 0)) (some true) (bnd (M.laws_toTable a0) fun x16 => bnd (M.laws_toInt64S a1) fun x25 => bnd (M.spec_NetScores x16 x25) fun x32 => bnd (M.laws_toTable a0) fun x39 => bnd (M.laws_toInt64S a1) fun x51 => bnd (M.impl_NetScores x39 x51) fun x58 => bnd (M.laws_eqInt64S x58.1 x32.1) fun x222 => ifB (!x222) (M.laws_FnExactNetScores_j1 a0 a1 x32 x39 x51 x58 true) (M.laws_FnExactNetScores_j1 a0 a1 x32 x39 x51 x58 (x58.2 != x32.2))))

def M.impl_compareBoats_a2 (s_l2 : Int) : Option (Int × Int × Int) :=
  some (0, 0, 0)
def M.impl_compareBoats_l2 (a0 : Table) (a2 : Int) (a3 : Int) (s_l2 : Int) : Option (Stp (Int × Int × Int) Int) :=
  ifB (decide (0 ≤ s_l2)) (bnd (idx a0.Points s_l2) fun x172 => bnd (idx x172 a2) fun x184 => bnd (idx x172 a3) fun x191 => ifB (x184 != x191) (bnd (idx x172 a2) fun x222 => bnd (idx x172 a3) fun x229 => bnd (M.impl_sign (w64 (x222 - x229))) fun x236 => some (.ret (x236, 3, s_l2))) (some (.cont (s_l2 - 1)))) (some (.brk s_l2))
def M.impl_compareBoats_a1 (a0 : Table) (a2 : Int) (a3 : Int) (s_l1 : Int) : Option (Int × Int × Int) :=
  bnd (loopF (M.impl_compareBoats_l2 a0 a2 a3) ((a0.Points.length : Int) - 1)) fun o => outc o (fun x => some x) (fun s => M.impl_compareBoats_a2 s)
def M.impl_compareBoats_l1 (x47 : (List Int)) (x54 : (List Int)) (s_l1 : Int) : Option (Stp (Int × Int × Int) Int) :=
  ifB (decide (s_l1 < (min (x47.length : Int) (x54.length : Int)))) (bnd (idx x47 s_l1) fun x257 => bnd (idx x54 s_l1) fun x264 => ifB (x257 != x264) (bnd (idx x47 s_l1) fun x273 => bnd (idx x54 s_l1) fun x280 => bnd (M.impl_sign (w64 (x273 - x280))) fun x287 => some (.ret (x287, 2, 0))) (some (.cont (w64 (s_l1 + 1))))) (some (.brk s_l1))
def M.impl_compareBoats (a0 : Table) (a1 : List Int) (a2 : Int) (a3 : Int) : Option (Int × Int × Int) :=
  bnd (M.impl_netPoints a0 a1 a2) fun x19 => bnd (M.impl_netPoints a0 a1 a3) fun x21 => ifB ((w64 (x19 - x21)) != 0) (bnd (M.impl_sign (w64 (x19 - x21))) fun x25 => some (x25, 1, 0)) (bnd (M.impl_sortedPoints a0 a1 a2) fun x47 => bnd (M.impl_sortedPoints a0 a1 a3) fun x54 => bnd (loopF (M.impl_compareBoats_l1 x47 x54) 0) fun o => outc o (fun x => some x) (fun s => M.impl_compareBoats_a1 a0 a2 a3 s))
def M.impl_CompareBoats (a0 : Table) (a1 : List Int) (a2 : Int) (a3 : Int) : Option (Int × Int × Int) :=
  bnd (M.impl_boatsCode a0 a1 a2 a3) fun x9 => ifB (x9 != 0) (some (0, 0, x9)) (bnd (M.impl_compareBoats a0 a1 a2 a3) fun x15 => some (x15.1, x15.2.1, 0))
def M.laws_FnExactCompareBoats_j1 (a0 : Table) (a1 : List Int) (x37 : Table) (x49 : (List Int)) (s_j1 : Bool) : Option Bool :=
  ifB s_j1 (some false) (bnd (M.laws_toTable a0) fun x85 => bnd (M.laws_eqTable x37 x85) fun x94 => ifB (!x94) (some false) (bnd (M.laws_toInt64S a1) fun x100 => bnd (M.laws_eqInt64S x49 x100) fun x107 => ifB (!x107) (some false) (some true)))
def M.laws_FnExactCompareBoats (a0 : Table) (a1 : List Int) (a2 : Int) (a3 : Int) : Option Bool :=
  ifB (decide (1048576 < (a1.length : Int))) (some true) (bnd (M.laws_szTable a0 1048576) fun x10 => ifB (decide (x10 < 0)) (some true) (bnd (M.laws_toTable a0) fun x16 => bnd (M.laws_toInt64S a1) fun x25 => bnd (M.spec_CompareBoats x16 x25 a2 a3) fun x32 => bnd (M.laws_toTable a0) fun x37 => bnd (M.laws_toInt64S a1) fun x49 => bnd (M.impl_CompareBoats x37 x49 a2 a3) fun x56 => ifB (x56.1 != x32.1) (M.laws_FnExactCompareBoats_j1 a0 a1 x37 x49 true) (ifB (x56.2.1 != x32.2.1) (M.laws_FnExactCompareBoats_j1 a0 a1 x37 x49 true) (M.laws_FnExactCompareBoats_j1 a0 a1 x37 x49 (x56.2.2 != x32.2.2)))))
def M.impl_DecidingRace (a0 : Table) (a1 : List Int) (a2 : Int) (a3 : Int) : Option (Int × Int) :=
  bnd (M.impl_boatsCode a0 a1 a2 a3) fun x9 => ifB (x9 != 0) (some (0, x9)) (bnd (M.impl_compareBoats a0 a1 a2 a3) fun x15 => ifB (x15.2.1 != 3) (some (0, 4)) (some (x15.2.2, 0)))
def M.laws_FnExactDecidingRace_j1 (a0 : Table) (a1 : List Int) (x37 : Table) (x49 : (List Int)) (s_j1 : Bool) : Option Bool :=
  ifB s_j1 (some false) (bnd (M.laws_toTable a0) fun x84 => bnd (M.laws_eqTable x37 x84) fun x93 => ifB (!x93) (some false) (bnd (M.laws_toInt64S a1) fun x99 => bnd (M.laws_eqInt64S x49 x99) fun x106 => ifB (!x106) (some false) (some true)))
def M.laws_FnExactDecidingRace (a0 : Table) (a1 : List Int) (a2 : Int) (a3 : Int) : Option Bool :=
  ifB (decide (1048576 < (a1.length : Int))) (some true) (bnd (M.laws_szTable a0 1048576) fun x10 => ifB (decide (x10 < 0)) (some true) (bnd (M.laws_toTable a0) fun x16 => bnd (M.laws_toInt64S a1) fun x25 => bnd (M.spec_DecidingRace x16 x25 a2 a3) fun x32 => bnd (M.laws_toTable a0) fun x37 => bnd (M.laws_toInt64S a1) fun x49 => bnd (M.impl_DecidingRace x37 x49 a2 a3) fun x56 => ifB (x56.1 != x32.1) (M.laws_FnExactDecidingRace_j1 a0 a1 x37 x49 true) (M.laws_FnExactDecidingRace_j1 a0 a1 x37 x49 (x56.2 != x32.2))))
def M.impl_ranksOf_a1 (s_l1 : (List Int) × Int) : Option (List Int) :=
  some s_l1.1
def M.impl_ranksOf_a2 (s_l1 : (List Int) × Int) (s_l2 : (List Int) × Int) : Option (Stp (List Int) ((List Int) × Int)) :=
  some (.cont (s_l2.1, w64 (s_l1.2 + 1)))
def M.impl_ranksOf_j1 (s_l2 : (List Int) × Int) (s_j1 : (List Int)) : Option (Stp (List Int) ((List Int) × Int)) :=
  some (.cont (s_j1, w64 (s_l2.2 + 1)))
def M.impl_ranksOf_j2 (s_l2 : (List Int) × Int) (s_j2 : (List Int)) : Option (Stp (List Int) ((List Int) × Int)) :=
  M.impl_ranksOf_j1 s_l2 s_j2
def M.impl_ranksOf_l2 (a0 : Table) (a1 : List Int) (s_l1 : (List Int) × Int) (s_l2 : (List Int) × Int) : Option (Stp (List Int) ((List Int) × Int)) :=
  ifB (decide (s_l2.2 < ((s_l1.1.set (s_l1.2 : Int).toNat 1).length : Int))) (bnd (M.impl_compareBoats a0 a1 s_l2.2 s_l1.2) fun x1179 => ifB (decide (x1179.1 < 0)) (bnd (idx s_l2.1 s_l1.2) fun x1185 => bnd (idx s_l2.1 s_l1.2) fun x1192 => M.impl_ranksOf_j2 s_l2 (s_l2.1.set (s_l1.2 : Int).toNat (w64 (x1185 + 1)))) (M.impl_ranksOf_j2 s_l2 s_l2.1)) (some (.brk (s_l2.1, s_l2.2)))
def M.impl_ranksOf_l1 (a0 : Table) (a1 : List Int) (s_l1 : (List Int) × Int) : Option (Stp (List Int) ((List Int) × Int)) :=
  ifB (decide (s_l1.2 < ((List.replicate (a0.Boats).toNat (0 : Int)).length : Int))) (bnd (idx s_l1.1 s_l1.2) fun x812 => bnd (loopF (M.impl_ranksOf_l2 a0 a1 s_l1) (s_l1.1.set (s_l1.2 : Int).toNat 1, 0)) fun o => outc o (fun x => some (.ret x)) (fun s => M.impl_ranksOf_a2 s_l1 s)) (some (.brk (s_l1.1, s_l1.2)))
def M.impl_ranksOf (a0 : Table) (a1 : List Int) : Option (List Int) :=
  chk (0 ≤ a0.Boats ∧ a0.Boats < 1099511627776) (bnd (loopF (M.impl_ranksOf_l1 a0 a1) (List.replicate (a0.Boats).toNat (0 : Int), 0)) fun o => outc o (fun x => some x) (fun s => M.impl_ranksOf_a1 s))
def M.impl_RanksOf (a0 : Table) (a1 : List Int) : Option ((List Int) × Int) :=
  bnd (M.impl_tableCode a0 a1 0) fun x9 => ifB (x9 != 0) (some ([], x9)) (bnd (M.impl_ranksOf a0 a1) fun x15 => some (x15, 0))
def M.laws_FnExactRanksOf_j3 (x154 : (Int) × (List Int)) (s_j3 : Bool) : Option Bool :=
  ifB s_j3 (some false) (bnd (M.laws_heldInt64S x154.2 1) fun x202 => ifB (decide (x202 < 0)) (some false) (ifB (x202 != x154.1) (some false) (some true)))
def M.laws_FnExactRanksOf_j2 (a0 : Table) (a1 : List Int) (x32 : (List Int) × Int) (x58 : (List Int) × Int) (s_j2 : Bool) : Option Bool :=
  ifB s_j2 (some false) (bnd (M.laws_markInt64S x58.1 1) fun x154 => bnd (M.laws_heldInt64S x154.2 1) fun x160 => ifB (decide (x160 < 0)) (some false) (ifB (x160 != x154.1) (some false) (bnd (M.laws_toTable a0) fun x167 => bnd (M.laws_toInt64S a1) fun x176 => bnd (M.impl_RanksOf x167 x176) fun x183 => bnd (M.laws_eqInt64S x183.1 x32.1) fun x209 => ifB (!x209) (M.laws_FnExactRanksOf_j3 x154 true) (M.laws_FnExactRanksOf_j3 x154 (x183.2 != x32.2)))))
def M.laws_FnExactRanksOf_j1 (a0 : Table) (a1 : List Int) (x32 : (List Int) × Int) (x39 : Table) (x51 : (List Int)) (x58 : (List Int) × Int) (s_j1 : Bool) : Option Bool :=
  ifB s_j1 (some false) (bnd (M.laws_toTable a0) fun x97 => bnd (M.laws_eqTable x39 x97) fun x106 => ifB (!x106) (some false) (bnd (M.laws_toInt64S a1) fun x112 => bnd (M.laws_eqInt64S x51 x112) fun x119 => ifB (!x119) (some false) (bnd (M.laws_markTable (Table.mk x39.Boats x39.Points x39.Codes) 1) fun x125 => bnd (M.laws_markInt64S x51 x125.1) fun x132 => ifB (decide (x132.1 < 0)) (M.laws_FnExactRanksOf_j2 a0 a1 x32 x58 true) (bnd (M.laws_eqInt64S x58.1 x32.1) fun x216 => ifB (!x216) (M.laws_FnExactRanksOf_j2 a0 a1 x32 x58 true) (M.laws_FnExactRanksOf_j2 a0 a1 x32 x58 (x58.2 != x32.2))))))
def M.laws_FnExactRanksOf (a0 : Table) (a1 : List Int) : Option Bool :=
  ifB (decide (1048576 < (a1.length : Int))) (some true) (bnd (M.laws_szTable a0 1048576) fun x10 => ifB (decide (x10 < 0)) (some true) (bnd (M.laws_toTable a0) fun x16 => bnd (M.laws_toInt64S a1) fun x25 => bnd (M.spec_RanksOf x16 x25) fun x32 => bnd (M.laws_toTable a0) fun x39 => bnd (M.laws_toInt64S a1) fun x51 => bnd (M.impl_RanksOf x39 x51) fun x58 => bnd (M.laws_eqInt64S x58.1 x32.1) fun x222 => ifB (!x222) (M.laws_FnExactRanksOf_j1 a0 a1 x32 x39 x51 x58 true) (M.laws_FnExactRanksOf_j1 a0 a1 x32 x39 x51 x58 (x58.2 != x32.2))))
def M.impl_standingOf_1 (a0 : Int) (a1 : Int) (a2 : Table) (a3 : List Int) : Option Int :=
  bnd (M.impl_compareBoats a2 a3 a0 a1) fun x11 => some x11.1
def M.impl_standingOf (a0 : Table) (a1 : List Int) : Option (List Int) :=
  bnd (M.impl_sortedIndices a0.Boats (fun y0 y1 => M.impl_standingOf_1 y0 y1 a0 a1)) fun x11 => some x11
def M.impl_StandingOf (a0 : Table) (a1 : List Int) : Option ((List Int) × Int) :=
  bnd (M.impl_tableCode a0 a1 0) fun x9 => ifB (x9 != 0) (some ([], x9)) (bnd (M.impl_standingOf a0 a1) fun x15 => some (x15, 0))
def M.laws_FnExactStandingOf_j3 (x154 : (Int) × (List Int)) (s_j3 : Bool) : Option Bool :=
  ifB s_j3 (some false) (bnd (M.laws_heldInt64S x154.2 1) fun x202 => ifB (decide (x202 < 0)) (some false) (ifB (x202 != x154.1) (some false) (some true)))
def M.laws_FnExactStandingOf_j2 (a0 : Table) (a1 : List Int) (x32 : (List Int) × Int) (x58 : (List Int) × Int) (s_j2 : Bool) : Option Bool :=
  ifB s_j2 (some false) (bnd (M.laws_markInt64S x58.1 1) fun x154 => bnd (M.laws_heldInt64S x154.2 1) fun x160 => ifB (decide (x160 < 0)) (some false) (ifB (x160 != x154.1) (some false) (bnd (M.laws_toTable a0) fun x167 => bnd (M.laws_toInt64S a1) fun x176 => bnd (M.impl_StandingOf x167 x176) fun x183 => bnd (M.laws_eqInt64S x183.1 x32.1) fun x209 => ifB (!x209) (M.laws_FnExactStandingOf_j3 x154 true) (M.laws_FnExactStandingOf_j3 x154 (x183.2 != x32.2)))))
def M.laws_FnExactStandingOf_j1 (a0 : Table) (a1 : List Int) (x32 : (List Int) × Int) (x39 : Table) (x51 : (List Int)) (x58 : (List Int) × Int) (s_j1 : Bool) : Option Bool :=
  ifB s_j1 (some false) (bnd (M.laws_toTable a0) fun x97 => bnd (M.laws_eqTable x39 x97) fun x106 => ifB (!x106) (some false) (bnd (M.laws_toInt64S a1) fun x112 => bnd (M.laws_eqInt64S x51 x112) fun x119 => ifB (!x119) (some false) (bnd (M.laws_markTable (Table.mk x39.Boats x39.Points x39.Codes) 1) fun x125 => bnd (M.laws_markInt64S x51 x125.1) fun x132 => ifB (decide (x132.1 < 0)) (M.laws_FnExactStandingOf_j2 a0 a1 x32 x58 true) (bnd (M.laws_eqInt64S x58.1 x32.1) fun x216 => ifB (!x216) (M.laws_FnExactStandingOf_j2 a0 a1 x32 x58 true) (M.laws_FnExactStandingOf_j2 a0 a1 x32 x58 (x58.2 != x32.2))))))
def M.laws_FnExactStandingOf (a0 : Table) (a1 : List Int) : Option Bool :=
  ifB (decide (1048576 < (a1.length : Int))) (some true) (bnd (M.laws_szTable a0 1048576) fun x10 => ifB (decide (x10 < 0)) (some true) (bnd (M.laws_toTable a0) fun x16 => bnd (M.laws_toInt64S a1) fun x25 => bnd (M.spec_StandingOf x16 x25) fun x32 => bnd (M.laws_toTable a0) fun x39 => bnd (M.laws_toInt64S a1) fun x51 => bnd (M.impl_StandingOf x39 x51) fun x58 => bnd (M.laws_eqInt64S x58.1 x32.1) fun x222 => ifB (!x222) (M.laws_FnExactStandingOf_j1 a0 a1 x32 x39 x51 x58 true) (M.laws_FnExactStandingOf_j1 a0 a1 x32 x39 x51 x58 (x58.2 != x32.2))))
def M.impl_LeadOf (a0 : Table) (a1 : List Int) : Option (Int × Int) :=
  bnd (M.impl_StandingOf a0 a1) fun x9 => ifB (x9.2 != 0) (some (0, x9.2)) (ifB (decide ((x9.1.length : Int) < 2)) (some (0, 5)) (bnd (idx x9.1 1) fun x18 => bnd (M.impl_netPoints a0 a1 x18) fun x25 => bnd (idx x9.1 0) fun x27 => bnd (M.impl_netPoints a0 a1 x27) fun x34 => some (w64 (x25 - x34), 0)))
def M.laws_FnExactLeadOf_j1 (a0 : Table) (a1 : List Int) (x37 : Table) (x49 : (List Int)) (s_j1 : Bool) : Option Bool :=
  ifB s_j1 (some false) (bnd (M.laws_toTable a0) fun x84 => bnd (M.laws_eqTable x37 x84) fun x93 => ifB (!x93) (some false) (bnd (M.laws_toInt64S a1) fun x99 => bnd (M.laws_eqInt64S x49 x99) fun x106 => ifB (!x106) (some false) (some true)))
def M.laws_FnExactLeadOf (a0 : Table) (a1 : List Int) : Option Bool :=
  ifB (decide (1048576 < (a1.length : Int))) (some true) (bnd (M.laws_szTable a0 1048576) fun x10 => ifB (decide (x10 < 0)) (some true) (bnd (M.laws_toTable a0) fun x16 => bnd (M.laws_toInt64S a1) fun x25 => bnd (M.spec_LeadOf x16 x25) fun x32 => bnd (M.laws_toTable a0) fun x37 => bnd (M.laws_toInt64S a1) fun x49 => bnd (M.impl_LeadOf x37 x49) fun x56 => ifB (x56.1 != x32.1) (M.laws_FnExactLeadOf_j1 a0 a1 x37 x49 true) (M.laws_FnExactLeadOf_j1 a0 a1 x37 x49 (x56.2 != x32.2))))
end Go.Proofs.Ytpobaajdhfoomaa
