/- More models of the functions, printed by my generator. -/
import Derived.Test.YtpobaajdhfoomaaMod
import Derived.Test.YtpobaajdhfoomaaBase5
namespace Go.Proofs.Ytpobaajdhfoomaa
open Go Go.RowKit Go.ChangeShapes Go.WideShapes
set_option linter.unusedVariables false
set_option linter.unusedSimpArgs false

def M.spec_TableOf_a1 (a0 : Series) (s_l1 : (List (List Int)) × (List (List Int)) × Int) : Option (Table × Int) :=
  some ((Table.mk a0.Boats s_l1.1 s_l1.2.1), 0)
def M.spec_TableOf_a2 (a0 : Series) (s_l1 : (List (List Int)) × (List (List Int)) × Int) (s_l2 : (List Int) × Int) : Option (Stp (Table × Int) ((List (List Int)) × (List (List Int)) × Int)) :=
  bnd (idx a0.Races s_l1.2.2) fun x597 => bnd (M.spec_l26Points x597 a0.Scheme) fun x608 => chk (s_l1.1.length + ([x608] : List (List Int)).length < 1099511627776) (chk (s_l1.2.1.length + ([s_l2.1] : List (List Int)).length < 1099511627776) (some (.cont (s_l1.1 ++ ([x608] : List (List Int)), s_l1.2.1 ++ ([s_l2.1] : List (List Int)), w64 (s_l1.2.2 + 1)))))
def M.spec_TableOf_l2 (a0 : Series) (s_l1 : (List (List Int)) × (List (List Int)) × Int) (s_l2 : (List Int) × Int) : Option (Stp (Table × Int) ((List Int) × Int)) :=
  bnd (idx a0.Races s_l1.2.2) fun x1342 => ifB (decide (s_l2.2 < (x1342.Finishes.length : Int))) (bnd (idx a0.Races s_l1.2.2) fun x1354 => bnd (idx x1354.Finishes s_l2.2) fun x1365 => chk (s_l2.1.length + ([x1365.Code] : List Int).length < 1099511627776) (some (.cont (s_l2.1 ++ ([x1365.Code] : List Int), w64 (s_l2.2 + 1))))) (some (.brk (s_l2.1, s_l2.2)))
def M.spec_TableOf_l1 (a0 : Series) (s_l1 : (List (List Int)) × (List (List Int)) × Int) : Option (Stp (Table × Int) ((List (List Int)) × (List (List Int)) × Int)) :=
  ifB (decide (s_l1.2.2 < (a0.Races.length : Int))) (bnd (loopF (M.spec_TableOf_l2 a0 s_l1) (([] : List Int), 0)) fun o => outc o (fun x => some (.ret x)) (fun s => M.spec_TableOf_a2 a0 s_l1 s)) (some (.brk (s_l1.1, s_l1.2.1, s_l1.2.2)))
def M.spec_TableOf (a0 : Series) : Option (Table × Int) :=
  bnd (M.spec_IsSeries a0) fun x7 => ifB (!x7) (some ((Table.mk 0 [] []), 1)) (bnd (loopF (M.spec_TableOf_l1 a0) (([] : List (List Int)), ([] : List (List Int)), 0)) fun o => outc o (fun x => some x) (fun s => M.spec_TableOf_a1 a0 s))
def M.impl_sortedIndices_1 (a0 : Int) (a1 : Int) (a2 : Int → Int → Option Int) : Option Int :=
  bnd (a2 a0 a1) fun x6 => bnd (M.impl_sign x6) fun x11 => some x11
def M.slices_insertionSortCmpFunc_int64__a1 (s_l1 : (List Int) × Int) : Option ((Unit) × (List Int)) :=
  some ((), s_l1.1)
def M.slices_insertionSortCmpFunc_int64__a2 (s_l1 : (List Int) × Int) (s_l2 : (List Int) × Int) : Option (Stp ((Unit) × (List Int)) ((List Int) × Int)) :=
  some (.cont (s_l2.1, w64 (s_l1.2 + 1)))
def M.slices_insertionSortCmpFunc_int64__j1 (s_l2 : (List Int) × Int) (s_j1 : Bool) : Option (Stp ((Unit) × (List Int)) ((List Int) × Int)) :=
  ifB s_j1 (bnd (idx s_l2.1 (w64 (s_l2.2 - 1))) fun x1164 => bnd (idx s_l2.1 s_l2.2) fun x1171 => bnd (idx s_l2.1 s_l2.2) fun x1180 => bnd (idx (s_l2.1.set (s_l2.2 : Int).toNat x1164) (w64 (s_l2.2 - 1))) fun x1188 => some (.cont ((s_l2.1.set (s_l2.2 : Int).toNat x1164).set (w64 (s_l2.2 - 1) : Int).toNat x1171, w64 (s_l2.2 - 1)))) (some (.brk (s_l2.1, s_l2.2)))
def M.slices_insertionSortCmpFunc_int64__l2 (a1 : Int) (a3 : Int → Int → Option Int) (s_l2 : (List Int) × Int) : Option (Stp ((Unit) × (List Int)) ((List Int) × Int)) :=
  ifB (decide (a1 < s_l2.2)) (bnd (idx s_l2.1 s_l2.2) fun x1213 => bnd (idx s_l2.1 (w64 (s_l2.2 - 1))) fun x1220 => bnd (a3 x1213 x1220) fun x1227 => M.slices_insertionSortCmpFunc_int64__j1 s_l2 (decide (x1227 < 0))) (M.slices_insertionSortCmpFunc_int64__j1 s_l2 false)
def M.slices_insertionSortCmpFunc_int64__l1 (a1 : Int) (a2 : Int) (a3 : Int → Int → Option Int) (s_l1 : (List Int) × Int) : Option (Stp ((Unit) × (List Int)) ((List Int) × Int)) :=
  ifB (decide (s_l1.2 < a2)) (bnd (loopF (M.slices_insertionSortCmpFunc_int64__l2 a1 a3) (s_l1.1, s_l1.2)) fun o => outc o (fun x => some (.ret x)) (fun s => M.slices_insertionSortCmpFunc_int64__a2 s_l1 s)) (some (.brk (s_l1.1, s_l1.2)))
def M.slices_insertionSortCmpFunc_int64_ (a0 : List Int) (a1 : Int) (a2 : Int) (a3 : Int → Int → Option Int) : Option ((Unit) × (List Int)) :=
  bnd (loopF (M.slices_insertionSortCmpFunc_int64__l1 a1 a2 a3) (a0, w64 (a1 + 1))) fun o => outc o (fun x => some x) (fun s => M.slices_insertionSortCmpFunc_int64__a1 s)
def M.slices_stableCmpFunc_int64__a2 (x36 : (Unit) × (List Int)) (s_l2 : Int) : Option ((Unit) × (List Int)) :=
  some ((), x36.2)
def M.slices_stableCmpFunc_int64__j1 (s_l2 : Int) (s_j1 : Unit) : Option (Stp ((Unit) × (List Int)) Int) :=
  some (.cont (w64 (s_l2 * 2)))
def M.slices_stableCmpFunc_int64__a3 (a1 : Int) (s_l2 : Int) (s_l3 : Unit) : Option (Stp ((Unit) × (List Int)) Int) :=
  ifB (decide ((w64 (0 + s_l2)) < a1)) (none) (M.slices_stableCmpFunc_int64__j1 s_l2 ())
def M.slices_stableCmpFunc_int64__l3 (a1 : Int) (s_l2 : Int) (s_l3 : Unit) : Option (Stp ((Unit) × (List Int)) Unit) :=
  ifB (decide ((w64 (2 * s_l2)) ≤ a1)) (none) (some (.brk ()))
def M.slices_stableCmpFunc_int64__l2 (a1 : Int) (s_l2 : Int) : Option (Stp ((Unit) × (List Int)) Int) :=
  ifB (decide (s_l2 < a1)) (bnd (loopF (M.slices_stableCmpFunc_int64__l3 a1 s_l2) ()) fun o => outc o (fun x => some (.ret x)) (fun s => M.slices_stableCmpFunc_int64__a3 a1 s_l2 s)) (some (.brk s_l2))
def M.slices_stableCmpFunc_int64__a1 (a1 : Int) (a2 : Int → Int → Option Int) (s_l1 : (List Int) × Int × Int) : Option ((Unit) × (List Int)) :=
  bnd (M.slices_insertionSortCmpFunc_int64_ s_l1.1 s_l1.2.1 a1 a2) fun x36 => bnd (loopF (M.slices_stableCmpFunc_int64__l2 a1) 20) fun o => outc o (fun x => some x) (fun s => M.slices_stableCmpFunc_int64__a2 x36 s)
def M.slices_stableCmpFunc_int64__l1 (a1 : Int) (a2 : Int → Int → Option Int) (s_l1 : (List Int) × Int × Int) : Option (Stp ((Unit) × (List Int)) ((List Int) × Int × Int)) :=
  ifB (decide (s_l1.2.2 ≤ a1)) (bnd (M.slices_insertionSortCmpFunc_int64_ s_l1.1 s_l1.2.1 s_l1.2.2 a2) fun x160 => some (.cont (x160.2, s_l1.2.2, w64 (s_l1.2.2 + 20)))) (some (.brk (s_l1.1, s_l1.2.1, s_l1.2.2)))
def M.slices_stableCmpFunc_int64_ (a0 : List Int) (a1 : Int) (a2 : Int → Int → Option Int) : Option ((Unit) × (List Int)) :=
  bnd (loopF (M.slices_stableCmpFunc_int64__l1 a1 a2) (a0, 0, 20)) fun o => outc o (fun x => some x) (fun s => M.slices_stableCmpFunc_int64__a1 a1 a2 s)
def M.slices_SortStableFunc___int64_int64_ (a0 : List Int) (a1 : Int → Int → Option Int) : Option ((Unit) × (List Int)) :=
  bnd (M.slices_stableCmpFunc_int64_ a0 (a0.length : Int) a1) fun x8 => some ((), x8.2)
def M.impl_sortedIndices_a1 (a1 : Int → Int → Option Int) (s_l1 : (List Int) × Int) : Option (List Int) :=
  bnd (M.slices_SortStableFunc___int64_int64_ s_l1.1 (fun y0 y1 => M.impl_sortedIndices_1 y0 y1 a1)) fun x39 => some x39.2
def M.impl_sortedIndices_l1 (a0 : Int) (s_l1 : (List Int) × Int) : Option (Stp (List Int) ((List Int) × Int)) :=
  ifB (decide (s_l1.2 < a0)) (chk (s_l1.1.length + ([s_l1.2] : List Int).length < 1099511627776) (some (.cont (s_l1.1 ++ ([s_l1.2] : List Int), w64 (s_l1.2 + 1))))) (some (.brk (s_l1.1, s_l1.2)))
def M.impl_sortedIndices (a0 : Int) (a1 : Int → Int → Option Int) : Option (List Int) :=
  bnd (loopF (M.impl_sortedIndices_l1 a0) (([] : List Int), 0)) fun o => outc o (fun x => some x) (fun s => M.impl_sortedIndices_a1 a1 s)
def M.laws_markTable (a0 : Table) (a1 : Int) : Option ((Int) × Table) :=
  bnd (M.laws_markInt64SS a0.Points a1) fun x10 => bnd (M.laws_markInt64SS a0.Codes x10.1) fun x16 => some (x16.1, (Table.mk a0.Boats x10.2 x16.2))
def M.impl_discardsOf_1 (a0 : Int) (a1 : Int) (a2 : Table) (a3 : Int) : Option Int :=
  bnd (idx a2.Points a1) fun x9 => bnd (idx x9 a3) fun x20 => bnd (idx a2.Points a0) fun x27 => bnd (idx x27 a3) fun x38 => some (w64 (x20 - x38))
def M.math_bits_Len64_j3 (a0 : Int) (s_j3 : Unit) : Option Int :=
  bnd (strAt (⟨#[0, 1, 2, 2, 3, 3, 3, 3, 4, 4, 4, 4, 4, 4, 4, 4, 5, 5, 5, 5, 5, 5, 5, 5, 5, 5, 5, 5, 5, 5, 5, 5, 6, 6, 6, 6, 6, 6, 6, 6, 6, 6, 6, 6, 6, 6, 6, 6, 6, 6, 6, 6, 6, 6, 6, 6, 6, 6, 6, 6, 6, 6, 6, 6, 7, 7, 7, 7, 7, 7, 7, 7, 7, 7, 7, 7, 7, 7, 7, 7, 7, 7, 7, 7, 7, 7, 7, 7, 7, 7, 7, 7, 7, 7, 7, 7, 7, 7, 7, 7, 7, 7, 7, 7, 7, 7, 7, 7, 7, 7, 7, 7, 7, 7, 7, 7, 7, 7, 7, 7, 7, 7, 7, 7, 7, 7, 7, 7, 8, 8, 8, 8, 8, 8, 8, 8, 8, 8, 8, 8, 8, 8, 8, 8, 8, 8, 8, 8, 8, 8, 8, 8, 8, 8, 8, 8, 8, 8, 8, 8, 8, 8, 8, 8, 8, 8, 8, 8, 8, 8, 8, 8, 8, 8, 8, 8, 8, 8, 8, 8, 8, 8, 8, 8, 8, 8, 8, 8, 8, 8, 8, 8, 8, 8, 8, 8, 8, 8, 8, 8, 8, 8, 8, 8, 8, 8, 8, 8, 8, 8, 8, 8, 8, 8, 8, 8, 8, 8, 8, 8, 8, 8, 8, 8, 8, 8, 8, 8, 8, 8, 8, 8, 8, 8, 8, 8, 8, 8, 8, 8, 8, 8, 8, 8, 8, 8, 8, 8, 8, 8, 8, 8, 8, 8, 8, 8]⟩ : ByteArray) (IntKind.u8.wrap a0)) fun x16 => some (w64 (0 + (IntKind.i64.wrap x16)))
def M.math_bits_Len64_j2 (a0 : Int) (s_j2 : Unit) : Option Int :=
  ifB (decide (256 ≤ a0)) (none) (M.math_bits_Len64_j3 a0 ())
def M.math_bits_Len64_j1 (a0 : Int) (s_j1 : Unit) : Option Int :=
  ifB (decide (65536 ≤ a0)) (none) (M.math_bits_Len64_j2 a0 ())
def M.math_bits_Len64 (a0 : Int) : Option Int :=
  ifB (decide (4294967296 ≤ a0)) (none) (M.math_bits_Len64_j1 a0 ())
def M.math_bits_Len (a0 : Int) : Option Int :=
  bnd (M.math_bits_Len64 a0) fun x1 => some x1
def M.cmp_isNaN_int64_ (a0 : Int) : Option Bool :=
  some (a0 != a0)
def M.cmp_Less_int64__j1 (s_j1 : Bool) : Option Bool :=
  some s_j1
def M.cmp_Less_int64_ (a0 : Int) (a1 : Int) : Option Bool :=
  bnd (M.cmp_isNaN_int64_ a0) fun x16 => ifB x16 (bnd (M.cmp_isNaN_int64_ a1) fun x22 => ifB (!x22) (M.cmp_Less_int64__j1 true) (M.cmp_Less_int64__j1 (decide (a0 < a1)))) (M.cmp_Less_int64__j1 (decide (a0 < a1)))
def M.slices_insertionSortOrdered_int64__a1 (s_l1 : (List Int) × Int) : Option ((Unit) × (List Int)) :=
  some ((), s_l1.1)
def M.slices_insertionSortOrdered_int64__a2 (s_l1 : (List Int) × Int) (s_l2 : (List Int) × Int) : Option (Stp ((Unit) × (List Int)) ((List Int) × Int)) :=
  some (.cont (s_l2.1, w64 (s_l1.2 + 1)))
def M.slices_insertionSortOrdered_int64__j1 (s_l2 : (List Int) × Int) (s_j1 : Bool) : Option (Stp ((Unit) × (List Int)) ((List Int) × Int)) :=
  ifB s_j1 (bnd (idx s_l2.1 (w64 (s_l2.2 - 1))) fun x1144 => bnd (idx s_l2.1 s_l2.2) fun x1151 => bnd (idx s_l2.1 s_l2.2) fun x1160 => bnd (idx (s_l2.1.set (s_l2.2 : Int).toNat x1144) (w64 (s_l2.2 - 1))) fun x1168 => some (.cont ((s_l2.1.set (s_l2.2 : Int).toNat x1144).set (w64 (s_l2.2 - 1) : Int).toNat x1151, w64 (s_l2.2 - 1)))) (some (.brk (s_l2.1, s_l2.2)))
def M.slices_insertionSortOrdered_int64__l2 (a1 : Int) (s_l2 : (List Int) × Int) : Option (Stp ((Unit) × (List Int)) ((List Int) × Int)) :=
  ifB (decide (a1 < s_l2.2)) (bnd (idx s_l2.1 s_l2.2) fun x1193 => bnd (idx s_l2.1 (w64 (s_l2.2 - 1))) fun x1200 => bnd (M.cmp_Less_int64_ x1193 x1200) fun x1207 => M.slices_insertionSortOrdered_int64__j1 s_l2 x1207) (M.slices_insertionSortOrdered_int64__j1 s_l2 false)
def M.slices_insertionSortOrdered_int64__l1 (a1 : Int) (a2 : Int) (s_l1 : (List Int) × Int) : Option (Stp ((Unit) × (List Int)) ((List Int) × Int)) :=
  ifB (decide (s_l1.2 < a2)) (bnd (loopF (M.slices_insertionSortOrdered_int64__l2 a1) (s_l1.1, s_l1.2)) fun o => outc o (fun x => some (.ret x)) (fun s => M.slices_insertionSortOrdered_int64__a2 s_l1 s)) (some (.brk (s_l1.1, s_l1.2)))
def M.slices_insertionSortOrdered_int64_ (a0 : List Int) (a1 : Int) (a2 : Int) : Option ((Unit) × (List Int)) :=
  bnd (loopF (M.slices_insertionSortOrdered_int64__l1 a1 a2) (a0, w64 (a1 + 1))) fun o => outc o (fun x => some x) (fun s => M.slices_insertionSortOrdered_int64__a1 s)
def M.slices_pdqsortOrdered_int64__a1 (a0 : List Int) (s_l1 : Unit) : Option ((Unit) × (List Int)) :=
  some ((), a0)
def M.slices_pdqsortOrdered_int64__j1 (s_j1 : Unit) : Option (Stp ((Unit) × (List Int)) Unit) :=
  none
def M.slices_pdqsortOrdered_int64__l1 (a0 : List Int) (a1 : Int) (a2 : Int) (a3 : Int) (s_l1 : Unit) : Option (Stp ((Unit) × (List Int)) Unit) :=
  ifB (decide ((w64 (a2 - a1)) ≤ 12)) (bnd (M.slices_insertionSortOrdered_int64_ a0 a1 a2) fun x77 => some (.ret ((), x77.2))) (ifB (a3 == 0) (none) (M.slices_pdqsortOrdered_int64__j1 ()))
def M.slices_pdqsortOrdered_int64_ (a0 : List Int) (a1 : Int) (a2 : Int) (a3 : Int) : Option ((Unit) × (List Int)) :=
  bnd (loopF (M.slices_pdqsortOrdered_int64__l1 a0 a1 a2 a3) ()) fun o => outc o (fun x => some x) (fun s => M.slices_pdqsortOrdered_int64__a1 a0 s)
def M.slices_Sort___int64_int64_ (a0 : List Int) : Option ((Unit) × (List Int)) :=
  bnd (M.math_bits_Len (IntKind.u64.wrap (a0.length : Int))) fun x5 => bnd (M.slices_pdqsortOrdered_int64_ a0 0 (a0.length : Int) x5) fun x10 => some ((), x10.2)
def M.impl_discardsOf_a1 (s_l1 : (List Int) × Int × Int) : Option (List Int) :=
  bnd (M.slices_Sort___int64_int64_ s_l1.1) fun x655 => some x655.2
def M.impl_discardsOf_j1 (s_l1 : (List Int) × Int × Int) (s_j1 : (List Int) × Int) : Option (Stp (List Int) ((List Int) × Int × Int)) :=
  some (.cont (s_j1.1, s_j1.2, w64 (s_l1.2.2 + 1)))
def M.impl_discardsOf_j2 (s_l1 : (List Int) × Int × Int) (s_j2 : (List Int) × Int) : Option (Stp (List Int) ((List Int) × Int × Int)) :=
  M.impl_discardsOf_j1 s_l1 (s_j2.1, s_j2.2)
def M.impl_discardsOf_j3 (s_l1 : (List Int) × Int × Int) (x908 : Int) (s_j3 : Bool) : Option (Stp (List Int) ((List Int) × Int × Int)) :=
  ifB s_j3 (chk (s_l1.1.length + ([x908] : List Int).length < 1099511627776) (M.impl_discardsOf_j2 s_l1 (s_l1.1 ++ ([x908] : List Int), w64 (s_l1.2.1 - 1)))) (M.impl_discardsOf_j2 s_l1 (s_l1.1, s_l1.2.1))
def M.impl_discardsOf_l1 (a0 : Table) (a2 : Int) (x19 : (List Int)) (s_l1 : (List Int) × Int × Int) : Option (Stp (List Int) ((List Int) × Int × Int)) :=
  ifB (decide (s_l1.2.2 < (x19.length : Int))) (bnd (idx x19 s_l1.2.2) fun x908 => ifB (decide (0 < s_l1.2.1)) (bnd (idx a0.Codes x908) fun x956 => bnd (idx x956 a2) fun x967 => M.impl_discardsOf_j3 s_l1 x908 (x967 != 7)) (M.impl_discardsOf_j3 s_l1 x908 false)) (some (.brk (s_l1.1, s_l1.2.1, s_l1.2.2)))
def M.impl_discardsOf (a0 : Table) (a1 : List Int) (a2 : Int) : Option (List Int) :=
  bnd (M.impl_discardCount a1 (a0.Points.length : Int)) fun x14 => bnd (M.impl_sortedIndices (a0.Points.length : Int) (fun y0 y1 => M.impl_discardsOf_1 y0 y1 a0 a2)) fun x19 => bnd (loopF (M.impl_discardsOf_l1 a0 a2 x19) (([] : List Int), x14, 0)) fun o => outc o (fun x => some x) (fun s => M.impl_discardsOf_a1 s)
def M.impl_DiscardsOf (a0 : Table) (a1 : List Int) (a2 : Int) : Option ((List Int) × Int) :=
  bnd (M.impl_tableCode a0 a1 a2) fun x9 => ifB (x9 != 0) (some ([], x9)) (bnd (M.impl_discardsOf a0 a1 a2) fun x15 => some (x15, 0))
def M.slices_Index___int64_int64__a1 (s_l1 : Int) : Option Int :=
  some (-1)
def M.slices_Index___int64_int64__l1 (a0 : List Int) (a1 : Int) (s_l1 : Int) : Option (Stp Int Int) :=
  ifB (decide (s_l1 < (a0.length : Int))) (bnd (idx a0 s_l1) fun x38 => ifB (a1 == x38) (some (.ret s_l1)) (some (.cont (w64 (s_l1 + 1))))) (some (.brk s_l1))
def M.slices_Index___int64_int64_ (a0 : List Int) (a1 : Int) : Option Int :=
  bnd (loopF (M.slices_Index___int64_int64__l1 a0 a1) 0) fun o => outc o (fun x => some x) (fun s => M.slices_Index___int64_int64__a1 s)
def M.slices_Contains___int64_int64_ (a0 : List Int) (a1 : Int) : Option Bool :=
  bnd (M.slices_Index___int64_int64_ a0 a1) fun x3 => some (decide (0 ≤ x3))
def M.impl_countedPoints_a1 (s_l1 : (List Int) × Int) : Option (List Int) :=
  some s_l1.1
def M.impl_countedPoints_j1 (s_l1 : (List Int) × Int) (s_j1 : (List Int)) : Option (Stp (List Int) ((List Int) × Int)) :=
  some (.cont (s_j1, w64 (s_l1.2 + 1)))
def M.impl_countedPoints_j2 (s_l1 : (List Int) × Int) (s_j2 : (List Int)) : Option (Stp (List Int) ((List Int) × Int)) :=
  M.impl_countedPoints_j1 s_l1 s_j2
def M.impl_countedPoints_l1 (a0 : Table) (a2 : Int) (x12 : (List Int)) (s_l1 : (List Int) × Int) : Option (Stp (List Int) ((List Int) × Int)) :=
  ifB (decide (s_l1.2 < (a0.Points.length : Int))) (bnd (M.slices_Contains___int64_int64_ x12 s_l1.2) fun x477 => ifB (!x477) (bnd (idx a0.Points s_l1.2) fun x483 => bnd (idx x483 a2) fun x494 => chk (s_l1.1.length + ([x494] : List Int).length < 1099511627776) (M.impl_countedPoints_j2 s_l1 (s_l1.1 ++ ([x494] : List Int)))) (M.impl_countedPoints_j2 s_l1 s_l1.1)) (some (.brk (s_l1.1, s_l1.2)))
def M.impl_countedPoints (a0 : Table) (a1 : List Int) (a2 : Int) : Option (List Int) :=
  bnd (M.impl_discardsOf a0 a1 a2) fun x12 => bnd (loopF (M.impl_countedPoints_l1 a0 a2 x12) (([] : List Int), 0)) fun o => outc o (fun x => some x) (fun s => M.impl_countedPoints_a1 s)
def M.impl_netPoints_a1 (s_l1 : Int × Int) : Option Int :=
  some s_l1.1
def M.impl_netPoints_l1 (x9 : (List Int)) (s_l1 : Int × Int) : Option (Stp Int (Int × Int)) :=
  ifB (decide (s_l1.2 < (x9.length : Int))) (bnd (idx x9 s_l1.2) fun x49 => some (.cont (w64 (s_l1.1 + x49), w64 (s_l1.2 + 1)))) (some (.brk (s_l1.1, s_l1.2)))
def M.impl_netPoints (a0 : Table) (a1 : List Int) (a2 : Int) : Option Int :=
  bnd (M.impl_countedPoints a0 a1 a2) fun x9 => bnd (loopF (M.impl_netPoints_l1 x9) (0, 0)) fun o => outc o (fun x => some x) (fun s => M.impl_netPoints_a1 s)
def M.impl_NetPoints (a0 : Table) (a1 : List Int) (a2 : Int) : Option (Int × Int) :=
  bnd (M.impl_tableCode a0 a1 a2) fun x9 => ifB (x9 != 0) (some (0, x9)) (bnd (M.impl_netPoints a0 a1 a2) fun x15 => some (x15, 0))
def M.impl_TotalPoints (a0 : Table) (a1 : Int) : Option (Int × Int) :=
  bnd (M.impl_tableCode a0 ([] : List Int) a1) fun x7 => ifB (x7 != 0) (some (0, x7)) (bnd (M.impl_netPoints a0 ([] : List Int) a1) fun x13 => some (x13, 0))
def M.impl_CountedPoints (a0 : Table) (a1 : List Int) (a2 : Int) : Option ((List Int) × Int) :=
  bnd (M.impl_tableCode a0 a1 a2) fun x9 => ifB (x9 != 0) (some ([], x9)) (bnd (M.impl_countedPoints a0 a1 a2) fun x15 => some (x15, 0))
def M.impl_sortedPoints (a0 : Table) (a1 : List Int) (a2 : Int) : Option (List Int) :=
  bnd (M.impl_countedPoints a0 a1 a2) fun x9 => bnd (M.slices_Sort___int64_int64_ x9) fun x16 => some x16.2
def M.impl_SortedPoints (a0 : Table) (a1 : List Int) (a2 : Int) : Option ((List Int) × Int) :=
  bnd (M.impl_tableCode a0 a1 a2) fun x9 => ifB (x9 != 0) (some ([], x9)) (bnd (M.impl_sortedPoints a0 a1 a2) fun x15 => some (x15, 0))
def M.impl_netScores_a1 (s_l1 : (List Int) × Int) : Option (List Int) :=
  some s_l1.1
def M.impl_netScores_l1 (a0 : Table) (a1 : List Int) (s_l1 : (List Int) × Int) : Option (Stp (List Int) ((List Int) × Int)) :=
  ifB (decide (s_l1.2 < a0.Boats)) (bnd (M.impl_netPoints a0 a1 s_l1.2) fun x61 => chk (s_l1.1.length + ([x61] : List Int).length < 1099511627776) (some (.cont (s_l1.1 ++ ([x61] : List Int), w64 (s_l1.2 + 1))))) (some (.brk (s_l1.1, s_l1.2)))
def M.impl_netScores (a0 : Table) (a1 : List Int) : Option (List Int) :=
  bnd (loopF (M.impl_netScores_l1 a0 a1) (([] : List Int), 0)) fun o => outc o (fun x => some x) (fun s => M.impl_netScores_a1 s)
def M.impl_NetScores (a0 : Table) (a1 : List Int) : Option ((List Int) × Int) :=
  bnd (M.impl_tableCode a0 a1 0) fun x9 => ifB (x9 != 0) (some ([], x9)) (bnd (M.impl_netScores a0 a1) fun x15 => some (x15, 0))
def M.impl_compareBoats_a2 (s_l2 : Int) : Option (Int × Int × Int) :=
  some (0, 0, 0)
def M.impl_compareBoats_l2 (a0 : Table) (a2 : Int) (a3 : Int) (s_l2 : Int) : Option (Stp (Int × Int × Int) Int) :=
  ifB (decide (0 ≤ s_l2)) (bnd (idx a0.Points s_l2) fun x172 => bnd (idx x172 a2) fun x184 => bnd (idx x172 a3) fun x191 => ifB (x184 != x191) (bnd (idx x172 a2) fun x222 => bnd (idx x172 a3) fun x229 => bnd (M.impl_sign (w64 (x222 - x229))) fun x236 => some (.ret (x236, 3, s_l2))) (some (.cont (s_l2 - 1)))) (some (.brk s_l2))
def M.impl_compareBoats_a1 (a0 : Table) (a2 : Int) (a3 : Int) (s_l1 : Int) : Option (Int × Int × Int) :=
  bnd (loopF (M.impl_compareBoats_l2 a0 a2 a3) ((a0.Points.length : Int) - 1)) fun o => outc o (fun x => some x) (fun s => M.impl_compareBoats_a2 s)
def M.impl_compareBoats_l1 (x47 : (List Int)) (x54 : (List Int)) (s_l1 : Int) : Option (Stp (Int × Int × Int) Int) :=
  ifB (decide (s_l1 < (min (x47.length : Int) (x54.length : Int)))) (bnd (idx x47 s_l1) fun x257 => bnd (idx x54 s_l1) fun x264 => ifB (x257 != x264) (bnd (idx x47 s_l1) fun x273 => bnd (idx x54 s_l1) fun x280 => bnd (M.impl_sign (w64 (x273 - x280))) fun x287 => some (.ret (x287, 2, 0))) (some (.cont (w64 (s_l1 + 1))))) (some (.brk s_l1))
def M.impl_compareBoats (a0 : Table) (a1 : List Int) (a2 : Int) (a3 : Int) : Option (Int × Int × Int) :=
  bnd (M.impl_netPoints a0 a1 a2) fun x19 => bnd (M.impl_netPoints a0 a1 a3) fun x21 => ifB ((w64 (x19 - x21)) != 0) (bnd (M.impl_sign (w64 (x19 - x21))) fun x25 => some (x25, 1, 0)) (bnd (M.impl_sortedPoints a0 a1 a2) fun x47 => bnd (M.impl_sortedPoints a0 a1 a3) fun x54 => bnd (loopF (M.impl_compareBoats_l1 x47 x54) 0) fun o => outc o (fun x => some x) (fun s => M.impl_compareBoats_a1 a0 a2 a3 s))
def M.impl_CompareBoats (a0 : Table) (a1 : List Int) (a2 : Int) (a3 : Int) : Option (Int × Int × Int) :=
  bnd (M.impl_boatsCode a0 a1 a2 a3) fun x9 => ifB (x9 != 0) (some (0, 0, x9)) (bnd (M.impl_compareBoats a0 a1 a2 a3) fun x15 => some (x15.1, x15.2.1, 0))
def M.impl_DecidingRace (a0 : Table) (a1 : List Int) (a2 : Int) (a3 : Int) : Option (Int × Int) :=
  bnd (M.impl_boatsCode a0 a1 a2 a3) fun x9 => ifB (x9 != 0) (some (0, x9)) (bnd (M.impl_compareBoats a0 a1 a2 a3) fun x15 => ifB (x15.2.1 != 3) (some (0, 4)) (some (x15.2.2, 0)))
def M.impl_standingOf_1 (a0 : Int) (a1 : Int) (a2 : Table) (a3 : List Int) : Option Int :=
  bnd (M.impl_compareBoats a2 a3 a0 a1) fun x11 => some x11.1
def M.impl_standingOf (a0 : Table) (a1 : List Int) : Option (List Int) :=
  bnd (M.impl_sortedIndices a0.Boats (fun y0 y1 => M.impl_standingOf_1 y0 y1 a0 a1)) fun x11 => some x11
def M.impl_StandingOf (a0 : Table) (a1 : List Int) : Option ((List Int) × Int) :=
  bnd (M.impl_tableCode a0 a1 0) fun x9 => ifB (x9 != 0) (some ([], x9)) (bnd (M.impl_standingOf a0 a1) fun x15 => some (x15, 0))
def M.impl_LeadOf (a0 : Table) (a1 : List Int) : Option (Int × Int) :=
  bnd (M.impl_StandingOf a0 a1) fun x9 => ifB (x9.2 != 0) (some (0, x9.2)) (ifB (decide ((x9.1.length : Int) < 2)) (some (0, 5)) (bnd (idx x9.1 1) fun x18 => bnd (M.impl_netPoints a0 a1 x18) fun x25 => bnd (idx x9.1 0) fun x27 => bnd (M.impl_netPoints a0 a1 x27) fun x34 => some (w64 (x25 - x34), 0)))
def M.impl_TiedBoats_1 (a0 : Int) (a1 : Int) (a2 : List Int) : Option Int :=
  bnd (idx a2 a0) fun x5 => bnd (idx a2 a1) fun x12 => some (w64 (x5 - x12))
end Go.Proofs.Ytpobaajdhfoomaa
