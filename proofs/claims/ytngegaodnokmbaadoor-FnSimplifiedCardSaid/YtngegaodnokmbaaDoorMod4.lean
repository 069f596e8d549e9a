/- More models of the functions, printed by my generator. -/
import Derived.Test.YtngegaodnokmbaaDoorMod3
import Derived.Test.YtngegaodnokmbaaDoorBase11
namespace Go.Proofs.YtngegaodnokmbaaDoor
open Go Go.RowKit Go.ChangeShapes Go.WideShapes
set_option linter.unusedVariables false
set_option linter.unusedSimpArgs false

def M.spec_l26Number_a1 (s_l1 : (List UInt8) × Int) : Option ByteArray :=
  some (bts s_l1.1)
def M.spec_l26Number_j1 (s_l1 : (List UInt8) × Int) (s_j1 : Bool) : Option (Stp ByteArray ((List UInt8) × Int)) :=
  ifB s_j1 (chk (([(UInt8.ofNat (IntKind.u8.wrap (w64 (48 + (s_l1.2.tmod 10)))).toNat)] : List UInt8).length + s_l1.1.length < 1099511627776) (some (.cont (([(UInt8.ofNat (IntKind.u8.wrap (w64 (48 + (s_l1.2.tmod 10)))).toNat)] : List UInt8) ++ s_l1.1, w64 (s_l1.2.tdiv 10))))) (some (.brk (s_l1.1, s_l1.2)))
def M.spec_l26Number_l1 (s_l1 : (List UInt8) × Int) : Option (Stp ByteArray ((List UInt8) × Int)) :=
  ifB (decide (0 < s_l1.2)) (M.spec_l26Number_j1 s_l1 true) (M.spec_l26Number_j1 s_l1 ((s_l1.1.length : Int) == 0))
def M.spec_l26Number (a0 : Int) : Option ByteArray :=
  bnd (loopF (M.spec_l26Number_l1) (([] : List UInt8), a0)) fun o => outc o (fun x => some x) (fun s => M.spec_l26Number_a1 s)
def M.spec_RedressText_j3 (s_j3 : ByteArray) : Option ByteArray :=
  some s_j3
def M.spec_RedressText_j2 (a0 : Redress) (s_j2 : Bool) : Option ByteArray :=
  ifB s_j2 (some (⟨#[]⟩ : ByteArray)) (bnd (M.spec_l26Number a0.Race) fun x66 => chk (x66.size + (⟨#[32]⟩ : ByteArray).size ≤ 9223372036854775807) (bnd (M.spec_l26Number a0.Boat) fun x72 => chk ((x66 ++ (⟨#[32]⟩ : ByteArray)).size + x72.size ≤ 9223372036854775807) (chk (((x66 ++ (⟨#[32]⟩ : ByteArray)) ++ x72).size + (⟨#[32]⟩ : ByteArray).size ≤ 9223372036854775807) (bnd (idx ([(⟨#[97, 108, 108]⟩ : ByteArray), (⟨#[98, 101, 102, 111, 114, 101]⟩ : ByteArray), (⟨#[112, 111, 105, 110, 116, 115]⟩ : ByteArray)] : List ByteArray) (w64 (a0.Kind - 1))) fun x82 => chk ((((x66 ++ (⟨#[32]⟩ : ByteArray)) ++ x72) ++ (⟨#[32]⟩ : ByteArray)).size + x82.size ≤ 9223372036854775807) (ifB (a0.Kind == 3) (chk (((((x66 ++ (⟨#[32]⟩ : ByteArray)) ++ x72) ++ (⟨#[32]⟩ : ByteArray)) ++ x82).size + (⟨#[32]⟩ : ByteArray).size ≤ 9223372036854775807) (bnd (M.spec_l26Number a0.Points) fun x178 => chk ((((((x66 ++ (⟨#[32]⟩ : ByteArray)) ++ x72) ++ (⟨#[32]⟩ : ByteArray)) ++ x82) ++ (⟨#[32]⟩ : ByteArray)).size + x178.size ≤ 9223372036854775807) (M.spec_RedressText_j3 ((((((x66 ++ (⟨#[32]⟩ : ByteArray)) ++ x72) ++ (⟨#[32]⟩ : ByteArray)) ++ x82) ++ (⟨#[32]⟩ : ByteArray)) ++ x178)))) (M.spec_RedressText_j3 ((((x66 ++ (⟨#[32]⟩ : ByteArray)) ++ x72) ++ (⟨#[32]⟩ : ByteArray)) ++ x82)))))))
def M.spec_RedressText_j1 (a0 : Redress) (s_j1 : Bool) : Option ByteArray :=
  ifB s_j1 (some (⟨#[]⟩ : ByteArray)) (ifB (a0.Kind != 3) (ifB (a0.Points != 0) (M.spec_RedressText_j2 a0 true) (bnd (M.spec_l01In a0.Points 0 10000) fun x276 => M.spec_RedressText_j2 a0 (!x276))) (bnd (M.spec_l01In a0.Points 0 10000) fun x281 => M.spec_RedressText_j2 a0 (!x281)))
def M.spec_RedressText (a0 : Redress) : Option ByteArray :=
  bnd (M.spec_l01In a0.Race 0 11) fun x286 => ifB (!x286) (M.spec_RedressText_j1 a0 true) (bnd (M.spec_l01In a0.Boat 0 15) fun x292 => ifB (!x292) (M.spec_RedressText_j1 a0 true) (bnd (M.spec_l01In a0.Kind 1 3) fun x298 => M.spec_RedressText_j1 a0 (!x298)))

def M.impl_text (a0 : Int) : Option ByteArray :=
  bnd (M.strconv_FormatInt a0 10) fun x1 => some x1
def M.impl_RedressText_j2 (s_j2 : ByteArray) : Option ByteArray :=
  some s_j2
def M.impl_RedressText_j1 (a0 : Redress) (s_j1 : Bool) : Option ByteArray :=
  ifB s_j1 (some (⟨#[]⟩ : ByteArray)) (bnd (M.impl_text a0.Race) fun x29 => chk (x29.size + (⟨#[32]⟩ : ByteArray).size ≤ 9223372036854775807) (bnd (M.impl_text a0.Boat) fun x32 => chk ((x29 ++ (⟨#[32]⟩ : ByteArray)).size + x32.size ≤ 9223372036854775807) (chk (((x29 ++ (⟨#[32]⟩ : ByteArray)) ++ x32).size + (⟨#[32]⟩ : ByteArray).size ≤ 9223372036854775807) (bnd (idx ([(⟨#[97, 108, 108]⟩ : ByteArray), (⟨#[98, 101, 102, 111, 114, 101]⟩ : ByteArray), (⟨#[112, 111, 105, 110, 116, 115]⟩ : ByteArray)] : List ByteArray) (w64 (a0.Kind - 1))) fun x36 => chk ((((x29 ++ (⟨#[32]⟩ : ByteArray)) ++ x32) ++ (⟨#[32]⟩ : ByteArray)).size + x36.size ≤ 9223372036854775807) (ifB (a0.Kind == 3) (bnd (M.impl_text a0.Points) fun x57 => chk ((⟨#[32]⟩ : ByteArray).size + x57.size ≤ 9223372036854775807) (chk (((((x29 ++ (⟨#[32]⟩ : ByteArray)) ++ x32) ++ (⟨#[32]⟩ : ByteArray)) ++ x36).size + ((⟨#[32]⟩ : ByteArray) ++ x57).size ≤ 9223372036854775807) (M.impl_RedressText_j2 (((((x29 ++ (⟨#[32]⟩ : ByteArray)) ++ x32) ++ (⟨#[32]⟩ : ByteArray)) ++ x36) ++ ((⟨#[32]⟩ : ByteArray) ++ x57))))) (M.impl_RedressText_j2 ((((x29 ++ (⟨#[32]⟩ : ByteArray)) ++ x32) ++ (⟨#[32]⟩ : ByteArray)) ++ x36)))))))
def M.impl_RedressText (a0 : Redress) : Option ByteArray :=
  bnd (M.impl_within a0.Race 0 11) fun x64 => ifB (!x64) (M.impl_RedressText_j1 a0 true) (bnd (M.impl_isBoat a0.Boat) fun x70 => ifB (!x70) (M.impl_RedressText_j1 a0 true) (bnd (M.impl_isRedress a0) fun x76 => M.impl_RedressText_j1 a0 (!x76)))
def M.laws_FnExactRedressText (a0 : Redress) : Option Bool :=
  bnd (M.laws_toRedress a0) fun x3 => bnd (M.spec_RedressText x3) fun x8 => bnd (M.laws_toRedress a0) fun x13 => bnd (M.impl_RedressText x13) fun x18 => ifB (!(sEq x18 x8)) (some false) (some true)
def M.spec_l01NumberS (R : Int → Option ByteArray) (a0 : Int) : Option ByteArray :=
  ifB (decide (a0 < 10)) (some (bts ([(UInt8.ofNat (IntKind.u8.wrap (w64 (48 + a0))).toNat)] : List UInt8))) (bnd (R (w64 (a0.tdiv 10))) fun x14 => chk (x14.size + (bts ([(UInt8.ofNat (IntKind.u8.wrap (w64 (48 + (a0.tmod 10)))).toNat)] : List UInt8)).size ≤ 9223372036854775807) (some (x14 ++ (bts ([(UInt8.ofNat (IntKind.u8.wrap (w64 (48 + (a0.tmod 10)))).toNat)] : List UInt8)))))
def M.spec_l01NumberN : Nat → Int → Option ByteArray
  | 0, _ => none
  | n + 1, a => M.spec_l01NumberS (M.spec_l01NumberN n) a
def M.spec_l01Number (a0 : Int) : Option ByteArray := M.spec_l01NumberN 64 a0
def M.spec_CurveText_a1 (s_l1 : ByteArray × Int) : Option ByteArray :=
  some s_l1.1
def M.spec_CurveText_j2 (a0 : List CurvePoint) (s_l1 : ByteArray × Int) (s_j2 : ByteArray) : Option (Stp ByteArray (ByteArray × Int)) :=
  bnd (idx a0 s_l1.2) fun x137 => bnd (M.spec_l01Number x137.Wind) fun x144 => chk (s_j2.size + x144.size ≤ 9223372036854775807) (chk ((s_j2 ++ x144).size + (⟨#[58]⟩ : ByteArray).size ≤ 9223372036854775807) (bnd (idx a0 s_l1.2) fun x148 => bnd (M.spec_l01Number x148.Pace) fun x155 => chk (((s_j2 ++ x144) ++ (⟨#[58]⟩ : ByteArray)).size + x155.size ≤ 9223372036854775807) (some (.cont (((s_j2 ++ x144) ++ (⟨#[58]⟩ : ByteArray)) ++ x155, w64 (s_l1.2 + 1))))))
def M.spec_CurveText_j1 (a0 : List CurvePoint) (s_l1 : ByteArray × Int) (s_j1 : Bool) : Option (Stp ByteArray (ByteArray × Int)) :=
  ifB s_j1 (ifB (decide (0 < s_l1.2)) (chk (s_l1.1.size + (⟨#[32]⟩ : ByteArray).size ≤ 9223372036854775807) (M.spec_CurveText_j2 a0 s_l1 (s_l1.1 ++ (⟨#[32]⟩ : ByteArray)))) (M.spec_CurveText_j2 a0 s_l1 s_l1.1)) (some (.brk (s_l1.1, s_l1.2)))
def M.spec_CurveText_l1 (a0 : List CurvePoint) (s_l1 : ByteArray × Int) : Option (Stp ByteArray (ByteArray × Int)) :=
  ifB (decide (s_l1.2 < (a0.length : Int))) (bnd (M.spec_IsCurve a0) fun x162 => M.spec_CurveText_j1 a0 s_l1 x162) (M.spec_CurveText_j1 a0 s_l1 false)
def M.spec_CurveText (a0 : List CurvePoint) : Option ByteArray :=
  bnd (loopF (M.spec_CurveText_l1 a0) ((⟨#[]⟩ : ByteArray), 0)) fun o => outc o (fun x => some x) (fun s => M.spec_CurveText_a1 s)

def M.impl_CurveText_a1 (s_l1 : (List ByteArray) × Int) : Option ByteArray :=
  bnd (M.strings_Join s_l1.1 (⟨#[32]⟩ : ByteArray)) fun x124 => some x124
def M.impl_CurveText_l1 (a0 : List CurvePoint) (s_l1 : (List ByteArray) × Int) : Option (Stp ByteArray ((List ByteArray) × Int)) :=
  ifB (decide (s_l1.2 < (a0.length : Int))) (bnd (idx a0 s_l1.2) fun x136 => bnd (M.impl_text x136.Wind) fun x165 => chk (x165.size + (⟨#[58]⟩ : ByteArray).size ≤ 9223372036854775807) (bnd (M.impl_text x136.Pace) fun x171 => chk ((x165 ++ (⟨#[58]⟩ : ByteArray)).size + x171.size ≤ 9223372036854775807) (chk (s_l1.1.length + ([(x165 ++ (⟨#[58]⟩ : ByteArray)) ++ x171] : List ByteArray).length < 1099511627776) (some (.cont (s_l1.1 ++ ([(x165 ++ (⟨#[58]⟩ : ByteArray)) ++ x171] : List ByteArray), w64 (s_l1.2 + 1))))))) (some (.brk (s_l1.1, s_l1.2)))
def M.impl_CurveText (a0 : List CurvePoint) : Option ByteArray :=
  bnd (M.impl_IsCurve a0) fun x3 => ifB (!x3) (some (⟨#[]⟩ : ByteArray)) (bnd (loopF (M.impl_CurveText_l1 a0) (([] : List ByteArray), 0)) fun o => outc o (fun x => some x) (fun s => M.impl_CurveText_a1 s))
def M.laws_FnExactCurveText (a0 : List CurvePoint) : Option Bool :=
  bnd (M.laws_szCurvePointS a0 1048576) fun x3 => ifB (decide (x3 < 0)) (some true) (bnd (M.laws_toCurvePointS a0) fun x9 => bnd (M.spec_CurveText x9) fun x16 => bnd (M.laws_toCurvePointS a0) fun x21 => bnd (M.impl_CurveText x21) fun x28 => ifB (!(sEq x28 x16)) (some false) (bnd (M.laws_toCurvePointS a0) fun x34 => bnd (M.laws_eqCurvePointS x21 x34) fun x41 => ifB (!x41) (some false) (some true)))
def M.spec_RaceText_a1 (s_l1 : ByteArray × Int) : Option ByteArray :=
  some s_l1.1
def M.spec_RaceText_j1 (s_l1 : ByteArray × Int) (s_j1 : ByteArray) : Option (Stp ByteArray (ByteArray × Int)) :=
  some (.cont (s_j1, w64 (s_l1.2 + 1)))
def M.spec_RaceText_j2 (s_l1 : ByteArray × Int) (s_j2 : ByteArray) : Option (Stp ByteArray (ByteArray × Int)) :=
  M.spec_RaceText_j1 s_l1 s_j2
def M.spec_RaceText_j3 (a1 : Race) (s_l1 : ByteArray × Int) (s_j3 : ByteArray) : Option (Stp ByteArray (ByteArray × Int)) :=
  bnd (idx a1.Finishes s_l1.2) fun x982 => bnd (M.spec_l26Words) fun x989 => bnd (idx x989 x982.Code) fun x996 => chk (s_j3.size + x996.size ≤ 9223372036854775807) (bnd (idx a1.Finishes s_l1.2) fun x1004 => bnd (M.spec_l26Done x1004) fun x1011 => ifB x1011 (chk ((s_j3 ++ x996).size + (⟨#[61]⟩ : ByteArray).size ≤ 9223372036854775807) (bnd (idx a1.Finishes s_l1.2) fun x1018 => bnd (M.spec_l26Number x1018.Time) fun x1025 => chk (((s_j3 ++ x996) ++ (⟨#[61]⟩ : ByteArray)).size + x1025.size ≤ 9223372036854775807) (M.spec_RaceText_j2 s_l1 (((s_j3 ++ x996) ++ (⟨#[61]⟩ : ByteArray)) ++ x1025)))) (M.spec_RaceText_j2 s_l1 (s_j3 ++ x996)))
def M.spec_RaceText_l1 (a1 : Race) (s_l1 : ByteArray × Int) : Option (Stp ByteArray (ByteArray × Int)) :=
  ifB (decide (s_l1.2 < (a1.Finishes.length : Int))) (ifB (decide (0 < s_l1.2)) (chk (s_l1.1.size + (⟨#[32]⟩ : ByteArray).size ≤ 9223372036854775807) (M.spec_RaceText_j3 a1 s_l1 (s_l1.1 ++ (⟨#[32]⟩ : ByteArray)))) (M.spec_RaceText_j3 a1 s_l1 s_l1.1)) (some (.brk (s_l1.1, s_l1.2)))
def M.spec_RaceText (a0 : Int) (a1 : Race) : Option ByteArray :=
  bnd (M.spec_IsRace a0 a1) fun x5 => ifB (!x5) (some (⟨#[]⟩ : ByteArray)) (bnd (loopF (M.spec_RaceText_l1 a1) ((⟨#[]⟩ : ByteArray), 0)) fun o => outc o (fun x => some x) (fun s => M.spec_RaceText_a1 s))
def M.impl_CodeText (a0 : Int) : Option ByteArray :=
  bnd (M.impl_within a0 0 9) fun x4 => ifB (!x4) (some (⟨#[]⟩ : ByteArray)) (bnd (idx ([(⟨#[70, 73, 78]⟩ : ByteArray), (⟨#[68, 78, 67]⟩ : ByteArray), (⟨#[68, 78, 83]⟩ : ByteArray), (⟨#[79, 67, 83]⟩ : ByteArray), (⟨#[68, 78, 70]⟩ : ByteArray), (⟨#[82, 69, 84]⟩ : ByteArray), (⟨#[68, 83, 81]⟩ : ByteArray), (⟨#[68, 78, 69]⟩ : ByteArray), (⟨#[66, 70, 68]⟩ : ByteArray), (⟨#[82, 68, 71]⟩ : ByteArray)] : List ByteArray) a0) fun x10 => some x10)
def M.impl_RaceText_a1 (s_l1 : (List ByteArray) × Int) : Option ByteArray :=
  bnd (M.strings_Join s_l1.1 (⟨#[32]⟩ : ByteArray)) fun x120 => some x120
def M.impl_RaceText_j1 (s_l1 : (List ByteArray) × Int) (s_j1 : ByteArray) : Option (Stp ByteArray ((List ByteArray) × Int)) :=
  chk (s_l1.1.length + ([s_j1] : List ByteArray).length < 1099511627776) (some (.cont (s_l1.1 ++ ([s_j1] : List ByteArray), w64 (s_l1.2 + 1))))
def M.impl_RaceText_l1 (a1 : Race) (s_l1 : (List ByteArray) × Int) : Option (Stp ByteArray ((List ByteArray) × Int)) :=
  ifB (decide (s_l1.2 < (a1.Finishes.length : Int))) (bnd (idx a1.Finishes s_l1.2) fun x132 => bnd (M.impl_CodeText x132.Code) fun x142 => ifB (x132.Code == 0) (bnd (M.impl_text x132.Time) fun x170 => chk ((⟨#[61]⟩ : ByteArray).size + x170.size ≤ 9223372036854775807) (chk (x142.size + ((⟨#[61]⟩ : ByteArray) ++ x170).size ≤ 9223372036854775807) (M.impl_RaceText_j1 s_l1 (x142 ++ ((⟨#[61]⟩ : ByteArray) ++ x170))))) (M.impl_RaceText_j1 s_l1 x142)) (some (.brk (s_l1.1, s_l1.2)))
def M.impl_RaceText (a0 : Int) (a1 : Race) : Option ByteArray :=
  bnd (M.impl_IsRace a0 a1) fun x5 => ifB (!x5) (some (⟨#[]⟩ : ByteArray)) (bnd (loopF (M.impl_RaceText_l1 a1) (([] : List ByteArray), 0)) fun o => outc o (fun x => some x) (fun s => M.impl_RaceText_a1 s))
def M.laws_FnExactRaceText (a0 : Int) (a1 : Race) : Option Bool :=
  bnd (M.laws_szRace a1 1048576) fun x5 => ifB (decide (x5 < 0)) (some true) (bnd (M.laws_toRace a1) fun x11 => bnd (M.spec_RaceText a0 x11) fun x18 => bnd (M.laws_toRace a1) fun x23 => bnd (M.impl_RaceText a0 x23) fun x33 => ifB (!(sEq x33 x18)) (some false) (bnd (M.laws_toRace a1) fun x51 => bnd (M.laws_eqRace x23 x51) fun x58 => ifB (!x58) (some false) (some true)))
def M.spec_StandingText_a1 (s_l1 : ByteArray × Int) : Option ByteArray :=
  some s_l1.1
def M.spec_StandingText_l1 (a0 : Table) (a1 : List Int) (x15 : (List Int)) (s_l1 : ByteArray × Int) : Option (Stp ByteArray (ByteArray × Int)) :=
  ifB (decide (s_l1.2 < (x15.length : Int))) (bnd (idx x15 s_l1.2) fun x338 => bnd (idx x15 s_l1.2) fun x345 => bnd (idx x15 s_l1.2) fun x352 => bnd (M.spec_l28Rank a0 a1 x338) fun x359 => bnd (M.spec_l26Number x359) fun x364 => chk (s_l1.1.size + x364.size ≤ 9223372036854775807) (chk ((s_l1.1 ++ x364).size + (⟨#[32]⟩ : ByteArray).size ≤ 9223372036854775807) (bnd (M.spec_l26Number x345) fun x371 => chk (((s_l1.1 ++ x364) ++ (⟨#[32]⟩ : ByteArray)).size + x371.size ≤ 9223372036854775807) (chk ((((s_l1.1 ++ x364) ++ (⟨#[32]⟩ : ByteArray)) ++ x371).size + (⟨#[32]⟩ : ByteArray).size ≤ 9223372036854775807) (bnd (M.spec_l27Counted a0 a1 x352) fun x378 => bnd (M.spec_l27Sum x378) fun x385 => bnd (M.spec_l26Number x385) fun x390 => chk (((((s_l1.1 ++ x364) ++ (⟨#[32]⟩ : ByteArray)) ++ x371) ++ (⟨#[32]⟩ : ByteArray)).size + x390.size ≤ 9223372036854775807) (chk ((((((s_l1.1 ++ x364) ++ (⟨#[32]⟩ : ByteArray)) ++ x371) ++ (⟨#[32]⟩ : ByteArray)) ++ x390).size + (⟨#[10]⟩ : ByteArray).size ≤ 9223372036854775807) (some (.cont ((((((s_l1.1 ++ x364) ++ (⟨#[32]⟩ : ByteArray)) ++ x371) ++ (⟨#[32]⟩ : ByteArray)) ++ x390) ++ (⟨#[10]⟩ : ByteArray), w64 (s_l1.2 + 1)))))))))) (some (.brk (s_l1.1, s_l1.2)))
def M.spec_StandingText (a0 : Table) (a1 : List Int) : Option ByteArray :=
  bnd (M.spec_l27Code a0 a1 0) fun x9 => ifB (x9 != 0) (some (⟨#[]⟩ : ByteArray)) (bnd (M.spec_l28Standing a0 a1) fun x15 => bnd (loopF (M.spec_StandingText_l1 a0 a1 x15) ((⟨#[]⟩ : ByteArray), 0)) fun o => outc o (fun x => some x) (fun s => M.spec_StandingText_a1 s))

def M.impl_StandingText_a1 (s_l1 : ByteArray × Int) : Option ByteArray :=
  some s_l1.1
def M.impl_StandingText_l1 (a0 : Table) (a1 : List Int) (x15 : (List Int)) (x22 : (List Int)) (s_l1 : ByteArray × Int) : Option (Stp ByteArray (ByteArray × Int)) :=
  ifB (decide (s_l1.2 < (x22.length : Int))) (bnd (idx x22 s_l1.2) fun x112 => bnd (idx x15 x112) fun x119 => bnd (M.impl_text x119) fun x126 => chk (x126.size + (⟨#[32]⟩ : ByteArray).size ≤ 9223372036854775807) (bnd (M.impl_text x112) fun x129 => chk ((x126 ++ (⟨#[32]⟩ : ByteArray)).size + x129.size ≤ 9223372036854775807) (chk (((x126 ++ (⟨#[32]⟩ : ByteArray)) ++ x129).size + (⟨#[32]⟩ : ByteArray).size ≤ 9223372036854775807) (bnd (M.impl_netPoints a0 a1 x112) fun x133 => bnd (M.impl_text x133) fun x135 => chk ((((x126 ++ (⟨#[32]⟩ : ByteArray)) ++ x129) ++ (⟨#[32]⟩ : ByteArray)).size + x135.size ≤ 9223372036854775807) (chk (((((x126 ++ (⟨#[32]⟩ : ByteArray)) ++ x129) ++ (⟨#[32]⟩ : ByteArray)) ++ x135).size + (⟨#[10]⟩ : ByteArray).size ≤ 9223372036854775807) (chk (s_l1.1.size + (((((x126 ++ (⟨#[32]⟩ : ByteArray)) ++ x129) ++ (⟨#[32]⟩ : ByteArray)) ++ x135) ++ (⟨#[10]⟩ : ByteArray)).size ≤ 9223372036854775807) (some (.cont (s_l1.1 ++ (((((x126 ++ (⟨#[32]⟩ : ByteArray)) ++ x129) ++ (⟨#[32]⟩ : ByteArray)) ++ x135) ++ (⟨#[10]⟩ : ByteArray)), w64 (s_l1.2 + 1)))))))))) (some (.brk (s_l1.1, s_l1.2)))
def M.impl_StandingText (a0 : Table) (a1 : List Int) : Option ByteArray :=
  bnd (M.impl_tableCode a0 a1 0) fun x9 => ifB (x9 != 0) (some (⟨#[]⟩ : ByteArray)) (bnd (M.impl_ranksOf a0 a1) fun x15 => bnd (M.impl_standingOf a0 a1) fun x22 => bnd (loopF (M.impl_StandingText_l1 a0 a1 x15 x22) ((⟨#[]⟩ : ByteArray), 0)) fun o => outc o (fun x => some x) (fun s => M.impl_StandingText_a1 s))
def M.laws_FnExactStandingText (a0 : Table) (a1 : List Int) : Option Bool :=
  ifB (decide (1048576 < (a1.length : Int))) (some true) (bnd (M.laws_szTable a0 1048576) fun x10 => ifB (decide (x10 < 0)) (some true) (bnd (M.laws_toTable a0) fun x16 => bnd (M.laws_toInt64S a1) fun x25 => bnd (M.spec_StandingText x16 x25) fun x32 => bnd (M.laws_toTable a0) fun x37 => bnd (M.laws_toInt64S a1) fun x49 => bnd (M.impl_StandingText x37 x49) fun x56 => ifB (!(sEq x56 x32)) (some false) (bnd (M.laws_toTable a0) fun x76 => bnd (M.laws_eqTable x37 x76) fun x85 => ifB (!x85) (some false) (bnd (M.laws_toInt64S a1) fun x91 => bnd (M.laws_eqInt64S x49 x91) fun x98 => ifB (!x98) (some false) (some true)))))
def M.spec_DrawStandingOf (a0 : List UInt8) : Option (Table × (List Int)) :=
  bnd (M.spec_l28DrawTable a0) fun x5 => some (x5.1, x5.2)
def M.laws_FnStanding_a1 (s_l1 : Int) : Option Bool :=
  some true
def M.laws_FnStanding_j3 (s_l1 : Int) (s_j3 : Bool) : Option (Stp Bool Int) :=
  ifB s_j3 (some (.ret false)) (some (.cont (w64 (s_l1 + 1))))
def M.laws_FnStanding_a2 (x54 : (List Int) × Int) (x81 : (List Int) × Int) (s_l1 : Int) (s_l2 : Int × Int) : Option (Stp Bool Int) :=
  bnd (idx x54.1 s_l1) fun x1045 => bnd (idx x81.1 x1045) fun x1052 => ifB (x1052 != (w64 (s_l2.1 + 1))) (M.laws_FnStanding_j3 s_l1 true) (ifB (decide (0 < s_l1)) (bnd (idx x54.1 (w64 (s_l1 - 1))) fun x1062 => bnd (idx x81.1 x1062) fun x1069 => bnd (idx x54.1 s_l1) fun x1076 => bnd (idx x81.1 x1076) fun x1083 => M.laws_FnStanding_j3 s_l1 (decide (x1083 < x1069))) (M.laws_FnStanding_j3 s_l1 false))
def M.laws_FnStanding_j4 (s_l2 : Int × Int) (s_j4 : Int) : Option (Stp Bool (Int × Int)) :=
  some (.cont (s_j4, w64 (s_l2.2 + 1)))
def M.laws_FnStanding_j5 (s_l2 : Int × Int) (s_j5 : Int) : Option (Stp Bool (Int × Int)) :=
  M.laws_FnStanding_j4 s_l2 s_j5
def M.laws_FnStanding_l2 (x36 : Table × (List Int)) (x54 : (List Int) × Int) (s_l1 : Int) (s_l2 : Int × Int) : Option (Stp Bool (Int × Int)) :=
  ifB (decide (s_l2.2 < x36.1.Boats)) (bnd (idx x54.1 s_l1) fun x1165 => bnd (M.impl_CompareBoats x36.1 x36.2 s_l2.2 x1165) fun x1172 => ifB (x1172.2.2 != 0) (some (.ret false)) (ifB (decide (x1172.1 < 0)) (M.laws_FnStanding_j5 s_l2 (w64 (s_l2.1 + 1))) (M.laws_FnStanding_j5 s_l2 s_l2.1))) (some (.brk (s_l2.1, s_l2.2)))
def M.laws_FnStanding_l1 (x36 : Table × (List Int)) (x54 : (List Int) × Int) (x81 : (List Int) × Int) (s_l1 : Int) : Option (Stp Bool Int) :=
  ifB (decide (s_l1 < (x54.1.length : Int))) (bnd (loopF (M.laws_FnStanding_l2 x36 x54 s_l1) (0, 0)) fun o => outc o (fun x => some (.ret x)) (fun s => M.laws_FnStanding_a2 x54 x81 s_l1 s)) (some (.brk s_l1))
def M.laws_FnStanding_j2 (x36 : Table × (List Int)) (x54 : (List Int) × Int) (x81 : (List Int) × Int) (s_j2 : Bool) : Option Bool :=
  ifB s_j2 (some false) (bnd (loopF (M.laws_FnStanding_l1 x36 x54 x81) 0) fun o => outc o (fun x => some x) (fun s => M.laws_FnStanding_a1 s))
def M.laws_FnStanding_j1 (x29 : (List Int) × Int) (x36 : Table × (List Int)) (x54 : (List Int) × Int) (s_j1 : Bool) : Option Bool :=
  ifB s_j1 (some false) (ifB (x29.2 != 0) (some true) (bnd (M.impl_RanksOf x36.1 x36.2) fun x81 => ifB (x81.2 != 0) (M.laws_FnStanding_j2 x36 x54 x81 true) (M.laws_FnStanding_j2 x36 x54 x81 ((x81.1.length : Int) != x36.1.Boats))))
def M.laws_FnStanding (a0 : List UInt8) : Option Bool :=
  bnd (M.laws_big a0) fun x3 => ifB x3 (some true) (bnd (M.spec_DrawStandingOf a0) fun x9 => bnd (M.impl_StandingOf x9.1 x9.2) fun x29 => bnd (M.spec_DrawStandingOf a0) fun x36 => bnd (M.spec_StandingOf x36.1 x36.2) fun x54 => ifB (x29.2 != x54.2) (M.laws_FnStanding_j1 x29 x36 x54 true) (bnd (M.laws_likeInts x29.1 x54.1) fun x1180 => ifB (!x1180) (M.laws_FnStanding_j1 x29 x36 x54 true) (bnd (M.impl_StandingText x36.1 x36.2) fun x1184 => bnd (M.spec_StandingText x36.1 x36.2) fun x1186 => M.laws_FnStanding_j1 x29 x36 x54 (!(sEq x1184 x1186)))))
def M.impl_PenaltyText_j1 (a0 : Penalty) (s_j1 : Bool) : Option ByteArray :=
  ifB s_j1 (some (⟨#[]⟩ : ByteArray)) (bnd (M.impl_text a0.Race) fun x25 => chk (x25.size + (⟨#[32]⟩ : ByteArray).size ≤ 9223372036854775807) (bnd (M.impl_text a0.Boat) fun x28 => chk ((x25 ++ (⟨#[32]⟩ : ByteArray)).size + x28.size ≤ 9223372036854775807) (ifB (a0.Kind == 1) (chk (((x25 ++ (⟨#[32]⟩ : ByteArray)) ++ x28).size + (⟨#[32, 99, 111, 100, 101, 32]⟩ : ByteArray).size ≤ 9223372036854775807) (bnd (M.impl_CodeText a0.Value) fun x34 => chk ((((x25 ++ (⟨#[32]⟩ : ByteArray)) ++ x28) ++ (⟨#[32, 99, 111, 100, 101, 32]⟩ : ByteArray)).size + x34.size ≤ 9223372036854775807) (some ((((x25 ++ (⟨#[32]⟩ : ByteArray)) ++ x28) ++ (⟨#[32, 99, 111, 100, 101, 32]⟩ : ByteArray)) ++ x34)))) (ifB (a0.Kind == 2) (chk (((x25 ++ (⟨#[32]⟩ : ByteArray)) ++ x28).size + (⟨#[32, 116, 105, 109, 101, 32]⟩ : ByteArray).size ≤ 9223372036854775807) (bnd (M.impl_text a0.Value) fun x42 => chk ((((x25 ++ (⟨#[32]⟩ : ByteArray)) ++ x28) ++ (⟨#[32, 116, 105, 109, 101, 32]⟩ : ByteArray)).size + x42.size ≤ 9223372036854775807) (some ((((x25 ++ (⟨#[32]⟩ : ByteArray)) ++ x28) ++ (⟨#[32, 116, 105, 109, 101, 32]⟩ : ByteArray)) ++ x42)))) (chk (((x25 ++ (⟨#[32]⟩ : ByteArray)) ++ x28).size + (⟨#[32, 112, 101, 114, 99, 101, 110, 116, 32]⟩ : ByteArray).size ≤ 9223372036854775807) (bnd (M.impl_text a0.Value) fun x49 => chk ((((x25 ++ (⟨#[32]⟩ : ByteArray)) ++ x28) ++ (⟨#[32, 112, 101, 114, 99, 101, 110, 116, 32]⟩ : ByteArray)).size + x49.size ≤ 9223372036854775807) (some ((((x25 ++ (⟨#[32]⟩ : ByteArray)) ++ x28) ++ (⟨#[32, 112, 101, 114, 99, 101, 110, 116, 32]⟩ : ByteArray)) ++ x49))))))))
def M.impl_PenaltyText (a0 : Penalty) : Option ByteArray :=
  bnd (M.impl_within a0.Race 0 11) fun x55 => ifB (!x55) (M.impl_PenaltyText_j1 a0 true) (bnd (M.impl_isBoat a0.Boat) fun x61 => ifB (!x61) (M.impl_PenaltyText_j1 a0 true) (bnd (M.impl_isPenalty a0) fun x67 => M.impl_PenaltyText_j1 a0 (!x67)))
def M.spec_PenaltyText_j1 (a0 : Penalty) (s_j1 : Bool) : Option ByteArray :=
  ifB s_j1 (some (⟨#[]⟩ : ByteArray)) (bnd (M.spec_l26Number a0.Race) fun x25 => chk (x25.size + (⟨#[32]⟩ : ByteArray).size ≤ 9223372036854775807) (bnd (M.spec_l26Number a0.Boat) fun x28 => chk ((x25 ++ (⟨#[32]⟩ : ByteArray)).size + x28.size ≤ 9223372036854775807) (chk (((x25 ++ (⟨#[32]⟩ : ByteArray)) ++ x28).size + (⟨#[32]⟩ : ByteArray).size ≤ 9223372036854775807) (ifB (a0.Kind == 1) (chk ((((x25 ++ (⟨#[32]⟩ : ByteArray)) ++ x28) ++ (⟨#[32]⟩ : ByteArray)).size + (⟨#[99, 111, 100, 101, 32]⟩ : ByteArray).size ≤ 9223372036854775807) (bnd (M.spec_l26Words) fun x51 => bnd (idx x51 a0.Value) fun x58 => chk (((((x25 ++ (⟨#[32]⟩ : ByteArray)) ++ x28) ++ (⟨#[32]⟩ : ByteArray)) ++ (⟨#[99, 111, 100, 101, 32]⟩ : ByteArray)).size + x58.size ≤ 9223372036854775807) (some (((((x25 ++ (⟨#[32]⟩ : ByteArray)) ++ x28) ++ (⟨#[32]⟩ : ByteArray)) ++ (⟨#[99, 111, 100, 101, 32]⟩ : ByteArray)) ++ x58)))) (ifB (a0.Kind == 2) (chk ((((x25 ++ (⟨#[32]⟩ : ByteArray)) ++ x28) ++ (⟨#[32]⟩ : ByteArray)).size + (⟨#[116, 105, 109, 101, 32]⟩ : ByteArray).size ≤ 9223372036854775807) (bnd (M.spec_l26Number a0.Value) fun x68 => chk (((((x25 ++ (⟨#[32]⟩ : ByteArray)) ++ x28) ++ (⟨#[32]⟩ : ByteArray)) ++ (⟨#[116, 105, 109, 101, 32]⟩ : ByteArray)).size + x68.size ≤ 9223372036854775807) (some (((((x25 ++ (⟨#[32]⟩ : ByteArray)) ++ x28) ++ (⟨#[32]⟩ : ByteArray)) ++ (⟨#[116, 105, 109, 101, 32]⟩ : ByteArray)) ++ x68)))) (chk ((((x25 ++ (⟨#[32]⟩ : ByteArray)) ++ x28) ++ (⟨#[32]⟩ : ByteArray)).size + (⟨#[112, 101, 114, 99, 101, 110, 116, 32]⟩ : ByteArray).size ≤ 9223372036854775807) (bnd (M.spec_l26Number a0.Value) fun x75 => chk (((((x25 ++ (⟨#[32]⟩ : ByteArray)) ++ x28) ++ (⟨#[32]⟩ : ByteArray)) ++ (⟨#[112, 101, 114, 99, 101, 110, 116, 32]⟩ : ByteArray)).size + x75.size ≤ 9223372036854775807) (some (((((x25 ++ (⟨#[32]⟩ : ByteArray)) ++ x28) ++ (⟨#[32]⟩ : ByteArray)) ++ (⟨#[112, 101, 114, 99, 101, 110, 116, 32]⟩ : ByteArray)) ++ x75)))))))))
def M.spec_PenaltyText (a0 : Penalty) : Option ByteArray :=
  bnd (M.spec_l01In a0.Race 0 11) fun x81 => ifB (!x81) (M.spec_PenaltyText_j1 a0 true) (bnd (M.spec_l01In a0.Boat 0 15) fun x87 => ifB (!x87) (M.spec_PenaltyText_j1 a0 true) (bnd (M.spec_l21Value a0.Kind a0.Value) fun x93 => M.spec_PenaltyText_j1 a0 (!x93)))
def M.laws_FnPlacesLost_j3 (x23 : Int × Int) (x28 : Series × (List Penalty) × (List Int) × Int) (x297 : (List Int) × Int) (x304 : (List Int) × Int) (s_j3 : Bool) : Option Bool :=
  ifB s_j3 (some false) (bnd (idx x304.1 x28.2.2.2) fun x324 => bnd (idx x297.1 x28.2.2.2) fun x331 => some ((w64 (x324 - x331)) == x23.1))
def M.laws_FnPlacesLost_a1 (x23 : Int × Int) (x28 : Series × (List Penalty) × (List Int) × Int) (s_l1 : Int) : Option Bool :=
  ifB (x23.2 != 0) (some true) (bnd (M.impl_PenalizedTable x28.1 ([] : List Penalty)) fun x273 => bnd (M.impl_PenalizedTable x28.1 x28.2.1) fun x285 => bnd (M.impl_RanksOf x273.1 x28.2.2.1) fun x297 => bnd (M.impl_RanksOf x285.1 x28.2.2.1) fun x304 => ifB (x273.2 != 0) (M.laws_FnPlacesLost_j3 x23 x28 x297 x304 true) (ifB (x285.2 != 0) (M.laws_FnPlacesLost_j3 x23 x28 x297 x304 true) (ifB (x297.2 != 0) (M.laws_FnPlacesLost_j3 x23 x28 x297 x304 true) (ifB (x304.2 != 0) (M.laws_FnPlacesLost_j3 x23 x28 x297 x304 true) (ifB (decide ((x297.1.length : Int) ≤ x28.2.2.2)) (M.laws_FnPlacesLost_j3 x23 x28 x297 x304 true) (M.laws_FnPlacesLost_j3 x23 x28 x297 x304 (decide ((x304.1.length : Int) ≤ x28.2.2.2))))))))
def M.laws_FnPlacesLost_j4 (s_l1 : Int) (s_j4 : Bool) : Option (Stp Bool Int) :=
  ifB s_j4 (some (.ret false)) (some (.cont (w64 (s_l1 + 1))))
def M.laws_FnPlacesLost_l1 (x62 : (List Penalty) × Int) (x69 : (List Penalty) × Int) (s_l1 : Int) : Option (Stp Bool Int) :=
  ifB (decide (s_l1 < (x62.1.length : Int))) (bnd (idx x62.1 s_l1) fun x404 => bnd (idx x69.1 s_l1) fun x411 => ifB (!(eqL [x404.Race, x404.Boat, x404.Kind, x404.Value] [x411.Race, x411.Boat, x411.Kind, x411.Value])) (M.laws_FnPlacesLost_j4 s_l1 true) (bnd (idx x62.1 s_l1) fun x420 => bnd (M.impl_PenaltyText x420) fun x427 => bnd (idx x69.1 s_l1) fun x429 => bnd (M.spec_PenaltyText x429) fun x436 => M.laws_FnPlacesLost_j4 s_l1 (!(sEq x427 x436)))) (some (.brk s_l1))
def M.laws_FnPlacesLost_j2 (x23 : Int × Int) (x28 : Series × (List Penalty) × (List Int) × Int) (x62 : (List Penalty) × Int) (x69 : (List Penalty) × Int) (s_j2 : Bool) : Option Bool :=
  ifB s_j2 (some false) (bnd (loopF (M.laws_FnPlacesLost_l1 x62 x69) 0) fun o => outc o (fun x => some x) (fun s => M.laws_FnPlacesLost_a1 x23 x28 s))
def M.laws_FnPlacesLost_j1 (a0 : List UInt8) (x23 : Int × Int) (x28 : Series × (List Penalty) × (List Int) × Int) (s_j1 : Bool) : Option Bool :=
  ifB s_j1 (some false) (bnd (M.spec_DrawPenaltiesFor a0) fun x57 => bnd (M.impl_PenaltiesFor x57.1 x57.2.1 x57.2.2.1 x57.2.2.2.1 x57.2.2.2.2) fun x62 => bnd (M.spec_PenaltiesFor x57.1 x57.2.1 x57.2.2.1 x57.2.2.2.1 x57.2.2.2.2) fun x69 => ifB (x62.2 != x69.2) (M.laws_FnPlacesLost_j2 x23 x28 x62 x69 true) (M.laws_FnPlacesLost_j2 x23 x28 x62 x69 ((x62.1.length : Int) != (x69.1.length : Int))))
def M.laws_FnPlacesLost (a0 : List UInt8) : Option Bool :=
  bnd (M.laws_big a0) fun x3 => ifB x3 (some true) (bnd (M.spec_DrawPlacesLost a0) fun x9 => bnd (M.impl_PlacesLost x9.1 x9.2.1 x9.2.2.1 x9.2.2.2) fun x23 => bnd (M.spec_DrawPlacesLost a0) fun x28 => bnd (M.spec_PlacesLost x28.1 x28.2.1 x28.2.2.1 x28.2.2.2) fun x40 => ifB (x23.2 != x40.2) (M.laws_FnPlacesLost_j1 a0 x23 x28 true) (M.laws_FnPlacesLost_j1 a0 x23 x28 (x23.1 != x40.1)))
def M.spec_l26Split_a1 (s_l1 : (List ByteArray) × Int × Int) : Option (List ByteArray) :=
  some s_l1.1
def M.spec_l26Split_j1 (s_l1 : (List ByteArray) × Int × Int) (s_j1 : (List ByteArray) × Int) : Option (Stp (List ByteArray) ((List ByteArray) × Int × Int)) :=
  some (.cont (s_j1.1, s_j1.2, w64 (s_l1.2.2 + 1)))
def M.spec_l26Split_j2 (s_l1 : (List ByteArray) × Int × Int) (s_j2 : (List ByteArray) × Int) : Option (Stp (List ByteArray) ((List ByteArray) × Int × Int)) :=
  M.spec_l26Split_j1 s_l1 (s_j2.1, s_j2.2)
def M.spec_l26Split_j3 (a0 : ByteArray) (s_l1 : (List ByteArray) × Int × Int) (s_j3 : Bool) : Option (Stp (List ByteArray) ((List ByteArray) × Int × Int)) :=
  ifB s_j3 (chk (0 ≤ (s_l1.2.1 : Int) ∧ (s_l1.2.1 : Int) ≤ s_l1.2.2 ∧ s_l1.2.2 ≤ (a0.size : Int)) (chk (s_l1.1.length + ([subB a0 s_l1.2.1 s_l1.2.2] : List ByteArray).length < 1099511627776) (M.spec_l26Split_j2 s_l1 (s_l1.1 ++ ([subB a0 s_l1.2.1 s_l1.2.2] : List ByteArray), w64 (s_l1.2.2 + 1))))) (M.spec_l26Split_j2 s_l1 (s_l1.1, s_l1.2.1))
def M.spec_l26Split_l1 (a0 : ByteArray) (a1 : UInt8) (s_l1 : (List ByteArray) × Int × Int) : Option (Stp (List ByteArray) ((List ByteArray) × Int × Int)) :=
  ifB (decide (s_l1.2.2 ≤ (a0.size : Int))) (ifB (s_l1.2.2 == (a0.size : Int)) (M.spec_l26Split_j3 a0 s_l1 true) (bnd (strAt a0 s_l1.2.2) fun x384 => M.spec_l26Split_j3 a0 s_l1 (x384 == (a1.toNat : Int)))) (some (.brk (s_l1.1, s_l1.2.1, s_l1.2.2)))
def M.spec_l26Split (a0 : ByteArray) (a1 : UInt8) : Option (List ByteArray) :=
  bnd (loopF (M.spec_l26Split_l1 a0 a1) (([] : List ByteArray), 0, 0)) fun o => outc o (fun x => some x) (fun s => M.spec_l26Split_a1 s)
def M.spec_l26Read_a1 (a0 : ByteArray) (s_l1 : Int × Int) : Option Int :=
  bnd (M.spec_l26Number s_l1.1) fun x56 => ifB (!(sEq x56 a0)) (some (-1)) (some s_l1.1)
def M.spec_l26Read_j2 (a0 : ByteArray) (s_l1 : Int × Int) (s_j2 : Bool) : Option (Stp Int (Int × Int)) :=
  ifB s_j2 (some (.ret (-1))) (bnd (strAt a0 s_l1.2) fun x80 => some (.cont (w64 ((w64 ((w64 (10 * s_l1.1)) + (IntKind.i64.wrap x80))) - 48), w64 (s_l1.2 + 1))))
def M.spec_l26Read_l1 (a0 : ByteArray) (s_l1 : Int × Int) : Option (Stp Int (Int × Int)) :=
  ifB (decide (s_l1.2 < (a0.size : Int))) (bnd (strAt a0 s_l1.2) fun x82 => ifB (decide (x82 < 48)) (M.spec_l26Read_j2 a0 s_l1 true) (bnd (strAt a0 s_l1.2) fun x85 => M.spec_l26Read_j2 a0 s_l1 (decide (57 < x85)))) (some (.brk (s_l1.1, s_l1.2)))
def M.spec_l26Read_j1 (a0 : ByteArray) (s_j1 : Bool) : Option Int :=
  ifB s_j1 (some (-1)) (bnd (loopF (M.spec_l26Read_l1 a0) (0, 0)) fun o => outc o (fun x => some x) (fun s => M.spec_l26Read_a1 a0 s))
def M.spec_l26Read (a0 : ByteArray) : Option Int :=
  ifB (sEq a0 (⟨#[]⟩ : ByteArray)) (M.spec_l26Read_j1 a0 true) (M.spec_l26Read_j1 a0 (decide (12 < (a0.size : Int))))
def M.spec_ReadRace_a1 (a0 : Int) (a1 : ByteArray) (s_l1 : (List Finish) × Int) : Option (Race × Bool) :=
  bnd (M.spec_RaceText a0 (Race.mk s_l1.1)) fun x1459 => ifB (!(sEq x1459 a1)) (some ((Race.mk []), false)) (some ((Race.mk s_l1.1), true))
def M.spec_ReadRace_j2 (s_l1 : (List Finish) × Int) (s_l2 : Int × Int) (s_j2 : Int) : Option (Stp (Race × Bool) ((List Finish) × Int)) :=
  chk (s_l1.1.length + ([(Finish.mk s_l1.2 s_l2.1 s_j2)] : List Finish).length < 1099511627776) (some (.cont (s_l1.1 ++ ([(Finish.mk s_l1.2 s_l2.1 s_j2)] : List Finish), w64 (s_l1.2 + 1))))
def M.spec_ReadRace_a2 (x15 : (List ByteArray)) (s_l1 : (List Finish) × Int) (s_l2 : Int × Int) : Option (Stp (Race × Bool) ((List Finish) × Int)) :=
  bnd (idx x15 s_l1.2) fun x1945 => ifB (decide (4 < (x1945.size : Int))) (bnd (idx x15 s_l1.2) fun x1953 => chk (0 ≤ (4 : Int) ∧ (4 : Int) ≤ (x1953.size : Int) ∧ (x1953.size : Int) ≤ (x1953.size : Int)) (bnd (M.spec_l26Read (subB x1953 4 (x1953.size : Int))) fun x1961 => M.spec_ReadRace_j2 s_l1 s_l2 x1961)) (M.spec_ReadRace_j2 s_l1 s_l2 0)
def M.spec_ReadRace_j3 (s_l2 : Int × Int) (s_j3 : Int) : Option (Stp (Race × Bool) (Int × Int)) :=
  some (.cont (s_j3, w64 (s_l2.2 + 1)))
def M.spec_ReadRace_j4 (s_l2 : Int × Int) (s_j4 : Int) : Option (Stp (Race × Bool) (Int × Int)) :=
  M.spec_ReadRace_j3 s_l2 s_j4
def M.spec_ReadRace_l2 (x15 : (List ByteArray)) (s_l1 : (List Finish) × Int) (s_l2 : Int × Int) : Option (Stp (Race × Bool) (Int × Int)) :=
  ifB (decide (s_l2.2 < 10)) (bnd (idx x15 s_l1.2) fun x2161 => bnd (M.spec_l26Words) fun x2168 => bnd (idx x2168 s_l2.2) fun x2175 => ifB (sEq x2175 x2161) (M.spec_ReadRace_j4 s_l2 s_l2.2) (M.spec_ReadRace_j4 s_l2 s_l2.1)) (some (.brk (s_l2.1, s_l2.2)))
def M.spec_ReadRace_l1 (x15 : (List ByteArray)) (s_l1 : (List Finish) × Int) : Option (Stp (Race × Bool) ((List Finish) × Int)) :=
  ifB (decide (s_l1.2 < (x15.length : Int))) (bnd (loopF (M.spec_ReadRace_l2 x15 s_l1) (0, 1)) fun o => outc o (fun x => some (.ret x)) (fun s => M.spec_ReadRace_a2 x15 s_l1 s)) (some (.brk (s_l1.1, s_l1.2)))
def M.spec_ReadRace_j1 (a0 : Int) (a1 : ByteArray) (s_j1 : Bool) : Option (Race × Bool) :=
  ifB s_j1 (some ((Race.mk []), false)) (bnd (M.spec_l26Split a1 32) fun x15 => bnd (loopF (M.spec_ReadRace_l1 x15) (([] : List Finish), 0)) fun o => outc o (fun x => some x) (fun s => M.spec_ReadRace_a1 a0 a1 s))
def M.spec_ReadRace (a0 : Int) (a1 : ByteArray) : Option (Race × Bool) :=
  ifB (decide (300 < (a1.size : Int))) (M.spec_ReadRace_j1 a0 a1 true) (M.spec_ReadRace_j1 a0 a1 (sEq a1 (⟨#[]⟩ : ByteArray)))

def M.impl_wordsOf (a0 : ByteArray) : Option (List ByteArray) :=
  bnd (M.strings_Split a0 (⟨#[32]⟩ : ByteArray)) fun x1 => some x1

def M.impl_ReadCode_a1 (s_l1 : Int) : Option (Int × Bool) :=
  some (0, false)
def M.impl_ReadCode_l1 (a0 : ByteArray) (s_l1 : Int) : Option (Stp (Int × Bool) Int) :=
  ifB (decide (s_l1 ≤ 9)) (bnd (M.impl_CodeText s_l1) fun x28 => ifB (sEq x28 a0) (some (.ret (s_l1, true))) (some (.cont (w64 (s_l1 + 1))))) (some (.brk s_l1))
def M.impl_ReadCode (a0 : ByteArray) : Option (Int × Bool) :=
  bnd (loopF (M.impl_ReadCode_l1 a0) 0) fun o => outc o (fun x => some x) (fun s => M.impl_ReadCode_a1 s)

def M.impl_number_j1 (x1 : Int × Bool) (s_j1 : Bool) : Option (Int × Bool) :=
  ifB s_j1 (some (0, false)) (some (x1.1, true))
def M.impl_number (a0 : ByteArray) : Option (Int × Bool) :=
  bnd (M.strconv_ParseInt a0 10 64) fun x1 => ifB x1.2 (M.impl_number_j1 x1 true) (ifB (decide (19 < (a0.size : Int))) (M.impl_number_j1 x1 true) (bnd (M.impl_text x1.1) fun x22 => M.impl_number_j1 x1 (!(sEq x22 a0))))
def M.impl_ReadRace_j1 (s_l1 : (List Finish) × Int) (s_j1 : Bool) : Option (Race × Bool) :=
  ifB s_j1 (some ((Race.mk []), false)) (some ((Race.mk s_l1.1), true))
def M.impl_ReadRace_a1 (a0 : Int) (a1 : ByteArray) (s_l1 : (List Finish) × Int) : Option (Race × Bool) :=
  bnd (M.impl_IsRace a0 (Race.mk s_l1.1)) fun x111 => ifB (!x111) (M.impl_ReadRace_j1 s_l1 true) (bnd (M.impl_RaceText a0 (Race.mk s_l1.1)) fun x117 => M.impl_ReadRace_j1 s_l1 (!(sEq x117 a1)))
def M.impl_ReadRace_l1 (x6 : (List ByteArray)) (s_l1 : (List Finish) × Int) : Option (Stp (Race × Bool) ((List Finish) × Int)) :=
  ifB (decide (s_l1.2 < (x6.length : Int))) (bnd (idx x6 s_l1.2) fun x132 => bnd (M.strings_Cut x132 (⟨#[61]⟩ : ByteArray)) fun x139 => bnd (M.impl_ReadCode x139.1) fun x144 => bnd (M.impl_number x139.2.1) fun x149 => chk (s_l1.1.length + ([(Finish.mk s_l1.2 x144.1 x149.1)] : List Finish).length < 1099511627776) (some (.cont (s_l1.1 ++ ([(Finish.mk s_l1.2 x144.1 x149.1)] : List Finish), w64 (s_l1.2 + 1))))) (some (.brk (s_l1.1, s_l1.2)))
def M.impl_ReadRace (a0 : Int) (a1 : ByteArray) : Option (Race × Bool) :=
  bnd (M.impl_wordsOf a1) fun x6 => bnd (loopF (M.impl_ReadRace_l1 x6) ([], 0)) fun o => outc o (fun x => some x) (fun s => M.impl_ReadRace_a1 a0 a1 s)
def M.laws_FnExactReadRace_j2 (x37 : (Int) × Race) (s_j2 : Bool) : Option Bool :=
  ifB s_j2 (some false) (bnd (M.laws_heldRace (Race.mk x37.2.Finishes) 1) fun x72 => ifB (decide (x72 < 0)) (some false) (ifB (x72 != x37.1) (some false) (some true)))
def M.laws_FnExactReadRace_j1 (a0 : Int) (a1 : ByteArray) (x2 : Race × Bool) (x12 : Race × Bool) (s_j1 : Bool) : Option Bool :=
  ifB s_j1 (some false) (bnd (M.laws_markRace (Race.mk x12.1.Finishes) 1) fun x37 => bnd (M.laws_heldRace (Race.mk x37.2.Finishes) 1) fun x43 => ifB (decide (x43 < 0)) (some false) (ifB (x43 != x37.1) (some false) (bnd (M.impl_ReadRace a0 a1) fun x50 => bnd (M.laws_eqRace x50.1 x2.1) fun x79 => ifB (!x79) (M.laws_FnExactReadRace_j2 x37 true) (M.laws_FnExactReadRace_j2 x37 (x50.2 != x2.2)))))
def M.laws_FnExactReadRace (a0 : Int) (a1 : ByteArray) : Option Bool :=
  ifB (decide (1048576 < (a1.size : Int))) (some true) (bnd (M.spec_ReadRace a0 a1) fun x2 => bnd (M.impl_ReadRace a0 a1) fun x12 => bnd (M.laws_eqRace x12.1 x2.1) fun x85 => ifB (!x85) (M.laws_FnExactReadRace_j1 a0 a1 x2 x12 true) (M.laws_FnExactReadRace_j1 a0 a1 x2 x12 (x12.2 != x2.2)))
def M.spec_l01Split_a1 (s_l1 : (List ByteArray) × Int × Int) : Option (List ByteArray) :=
  some s_l1.1
def M.spec_l01Split_j1 (s_l1 : (List ByteArray) × Int × Int) (s_j1 : (List ByteArray) × Int) : Option (Stp (List ByteArray) ((List ByteArray) × Int × Int)) :=
  some (.cont (s_j1.1, s_j1.2, w64 (s_l1.2.2 + 1)))
def M.spec_l01Split_j2 (s_l1 : (List ByteArray) × Int × Int) (s_j2 : (List ByteArray) × Int) : Option (Stp (List ByteArray) ((List ByteArray) × Int × Int)) :=
  M.spec_l01Split_j1 s_l1 (s_j2.1, s_j2.2)
def M.spec_l01Split_j3 (a0 : ByteArray) (s_l1 : (List ByteArray) × Int × Int) (s_j3 : Bool) : Option (Stp (List ByteArray) ((List ByteArray) × Int × Int)) :=
  ifB s_j3 (chk (0 ≤ (s_l1.2.1 : Int) ∧ (s_l1.2.1 : Int) ≤ s_l1.2.2 ∧ s_l1.2.2 ≤ (a0.size : Int)) (chk (s_l1.1.length + ([subB a0 s_l1.2.1 s_l1.2.2] : List ByteArray).length < 1099511627776) (M.spec_l01Split_j2 s_l1 (s_l1.1 ++ ([subB a0 s_l1.2.1 s_l1.2.2] : List ByteArray), w64 (s_l1.2.2 + 1))))) (M.spec_l01Split_j2 s_l1 (s_l1.1, s_l1.2.1))
def M.spec_l01Split_l1 (a0 : ByteArray) (a1 : UInt8) (s_l1 : (List ByteArray) × Int × Int) : Option (Stp (List ByteArray) ((List ByteArray) × Int × Int)) :=
  ifB (decide (s_l1.2.2 ≤ (a0.size : Int))) (ifB (s_l1.2.2 == (a0.size : Int)) (M.spec_l01Split_j3 a0 s_l1 true) (bnd (strAt a0 s_l1.2.2) fun x384 => M.spec_l01Split_j3 a0 s_l1 (x384 == (a1.toNat : Int)))) (some (.brk (s_l1.1, s_l1.2.1, s_l1.2.2)))
def M.spec_l01Split (a0 : ByteArray) (a1 : UInt8) : Option (List ByteArray) :=
  bnd (loopF (M.spec_l01Split_l1 a0 a1) (([] : List ByteArray), 0, 0)) fun o => outc o (fun x => some x) (fun s => M.spec_l01Split_a1 s)
def M.spec_l01Signed (a0 : Int) : Option ByteArray :=
  ifB (decide (a0 < 0)) (bnd (M.spec_l01Number (w64 (0 - a0))) fun x2 => chk ((⟨#[45]⟩ : ByteArray).size + x2.size ≤ 9223372036854775807) (some ((⟨#[45]⟩ : ByteArray) ++ x2))) (bnd (M.spec_l01Number a0) fun x8 => some x8)
def M.spec_l01Value_j3 (a0 : ByteArray) (s_j3 : Int) : Option (Int × Bool) :=
  bnd (M.spec_l01Signed s_j3) fun x82 => ifB (!(sEq x82 a0)) (some (0, false)) (some (s_j3, true))
def M.spec_l01Value_a1 (a0 : ByteArray) (s_j1 : ByteArray) (s_l1 : Int × Int) : Option (Int × Bool) :=
  ifB (decide ((s_j1.size : Int) < (a0.size : Int))) (M.spec_l01Value_j3 a0 (w64 (0 - s_l1.1))) (M.spec_l01Value_j3 a0 s_l1.1)
def M.spec_l01Value_j4 (s_j1 : ByteArray) (s_l1 : Int × Int) (s_j4 : Bool) : Option (Stp (Int × Bool) (Int × Int)) :=
  ifB s_j4 (some (.ret (0, false))) (bnd (strAt s_j1 s_l1.2) fun x109 => some (.cont (w64 ((w64 (10 * s_l1.1)) + (IntKind.i64.wrap (IntKind.u8.wrap (x109 - 48)))), w64 (s_l1.2 + 1))))
def M.spec_l01Value_l1 (s_j1 : ByteArray) (s_l1 : Int × Int) : Option (Stp (Int × Bool) (Int × Int)) :=
  ifB (decide (s_l1.2 < (s_j1.size : Int))) (bnd (strAt s_j1 s_l1.2) fun x111 => ifB (decide (x111 < 48)) (M.spec_l01Value_j4 s_j1 s_l1 true) (bnd (strAt s_j1 s_l1.2) fun x114 => M.spec_l01Value_j4 s_j1 s_l1 (decide (57 < x114)))) (some (.brk (s_l1.1, s_l1.2)))
def M.spec_l01Value_j2 (a0 : ByteArray) (s_j1 : ByteArray) (s_j2 : Bool) : Option (Int × Bool) :=
  ifB s_j2 (some (0, false)) (bnd (loopF (M.spec_l01Value_l1 s_j1) (0, 0)) fun o => outc o (fun x => some x) (fun s => M.spec_l01Value_a1 a0 s_j1 s))
def M.spec_l01Value_j1 (a0 : ByteArray) (s_j1 : ByteArray) : Option (Int × Bool) :=
  ifB (decide ((s_j1.size : Int) < 1)) (M.spec_l01Value_j2 a0 s_j1 true) (M.spec_l01Value_j2 a0 s_j1 (decide (15 < (s_j1.size : Int))))
def M.spec_l01Value_j5 (a0 : ByteArray) (s_j5 : Bool) : Option (Int × Bool) :=
  ifB s_j5 (chk (0 ≤ (1 : Int) ∧ (1 : Int) ≤ (a0.size : Int) ∧ (a0.size : Int) ≤ (a0.size : Int)) (M.spec_l01Value_j1 a0 (subB a0 1 (a0.size : Int)))) (M.spec_l01Value_j1 a0 a0)
def M.spec_l01Value (a0 : ByteArray) : Option (Int × Bool) :=
  ifB (decide (0 < (a0.size : Int))) (bnd (strAt a0 0) fun x128 => M.spec_l01Value_j5 a0 (x128 == 45)) (M.spec_l01Value_j5 a0 false)
def M.spec_ReadCurve_j1 (s_l1 : (List CurvePoint) × Int) (s_j1 : Bool) : Option ((List CurvePoint) × Bool) :=
  ifB s_j1 (some ([], false)) (some (s_l1.1, true))
def M.spec_ReadCurve_a1 (a0 : ByteArray) (s_l1 : (List CurvePoint) × Int) : Option ((List CurvePoint) × Bool) :=
  bnd (M.spec_IsCurve s_l1.1) fun x160 => ifB (!x160) (M.spec_ReadCurve_j1 s_l1 true) (bnd (M.spec_CurveText s_l1.1) fun x166 => M.spec_ReadCurve_j1 s_l1 (!(sEq x166 a0)))
def M.spec_ReadCurve_j2 (s_l1 : (List CurvePoint) × Int) (x200 : Int × Bool) (x212 : Int × Bool) (s_j2 : Bool) : Option (Stp ((List CurvePoint) × Bool) ((List CurvePoint) × Int)) :=
  ifB s_j2 (some (.ret ([], false))) (chk (s_l1.1.length + ([(CurvePoint.mk x200.1 x212.1)] : List CurvePoint).length < 1099511627776) (some (.cont (s_l1.1 ++ ([(CurvePoint.mk x200.1 x212.1)] : List CurvePoint), w64 (s_l1.2 + 1)))))
def M.spec_ReadCurve_l1 (x1 : (List ByteArray)) (s_l1 : (List CurvePoint) × Int) : Option (Stp ((List CurvePoint) × Bool) ((List CurvePoint) × Int)) :=
  ifB (decide (s_l1.2 < (x1.length : Int))) (bnd (idx x1 s_l1.2) fun x178 => bnd (M.spec_l01Split x178 58) fun x185 => ifB ((x185.length : Int) != 2) (some (.ret ([], false))) (bnd (idx x185 0) fun x193 => bnd (M.spec_l01Value x193) fun x200 => bnd (idx x185 1) fun x205 => bnd (M.spec_l01Value x205) fun x212 => ifB (!x200.2) (M.spec_ReadCurve_j2 s_l1 x200 x212 true) (M.spec_ReadCurve_j2 s_l1 x200 x212 (!x212.2)))) (some (.brk (s_l1.1, s_l1.2)))
def M.spec_ReadCurve (a0 : ByteArray) : Option ((List CurvePoint) × Bool) :=
  bnd (M.spec_l01Split a0 32) fun x1 => ifB (decide (12 < (x1.length : Int))) (some ([], false)) (bnd (loopF (M.spec_ReadCurve_l1 x1) (([] : List CurvePoint), 0)) fun o => outc o (fun x => some x) (fun s => M.spec_ReadCurve_a1 a0 s))
def M.impl_ReadCurve_a1 (s_l1 : (List CurvePoint) × Int) : Option ((List CurvePoint) × Bool) :=
  bnd (M.impl_IsCurve s_l1.1) fun x109 => ifB (!x109) (some ([], false)) (some (s_l1.1, true))
def M.impl_ReadCurve_j1 (s_l1 : (List CurvePoint) × Int) (x134 : Int × Bool) (x139 : Int × Bool) (s_j1 : Bool) : Option (Stp ((List CurvePoint) × Bool) ((List CurvePoint) × Int)) :=
  ifB s_j1 (some (.ret ([], false))) (chk (s_l1.1.length + ([(CurvePoint.mk x134.1 x139.1)] : List CurvePoint).length < 1099511627776) (some (.cont (s_l1.1 ++ ([(CurvePoint.mk x134.1 x139.1)] : List CurvePoint), w64 (s_l1.2 + 1)))))
def M.impl_ReadCurve_l1 (x4 : (List ByteArray)) (s_l1 : (List CurvePoint) × Int) : Option (Stp ((List CurvePoint) × Bool) ((List CurvePoint) × Int)) :=
  ifB (decide (s_l1.2 < (x4.length : Int))) (bnd (idx x4 s_l1.2) fun x122 => bnd (M.strings_Cut x122 (⟨#[58]⟩ : ByteArray)) fun x129 => bnd (M.impl_number x129.1) fun x134 => bnd (M.impl_number x129.2.1) fun x139 => ifB (!x134.2) (M.impl_ReadCurve_j1 s_l1 x134 x139 true) (M.impl_ReadCurve_j1 s_l1 x134 x139 (!x139.2))) (some (.brk (s_l1.1, s_l1.2)))
def M.impl_ReadCurve (a0 : ByteArray) : Option ((List CurvePoint) × Bool) :=
  bnd (M.impl_wordsOf a0) fun x4 => bnd (loopF (M.impl_ReadCurve_l1 x4) (([] : List CurvePoint), 0)) fun o => outc o (fun x => some x) (fun s => M.impl_ReadCurve_a1 s)
def M.laws_FnExactReadCurve_j2 (x30 : (Int) × (List CurvePoint)) (s_j2 : Bool) : Option Bool :=
  ifB s_j2 (some false) (bnd (M.laws_heldCurvePointS x30.2 1) fun x62 => ifB (decide (x62 < 0)) (some false) (ifB (x62 != x30.1) (some false) (some true)))
def M.laws_FnExactReadCurve_j1 (a0 : ByteArray) (x2 : (List CurvePoint) × Bool) (x9 : (List CurvePoint) × Bool) (s_j1 : Bool) : Option Bool :=
  ifB s_j1 (some false) (bnd (M.laws_markCurvePointS x9.1 1) fun x30 => bnd (M.laws_heldCurvePointS x30.2 1) fun x36 => ifB (decide (x36 < 0)) (some false) (ifB (x36 != x30.1) (some false) (bnd (M.impl_ReadCurve a0) fun x43 => bnd (M.laws_eqCurvePointS x43.1 x2.1) fun x69 => ifB (!x69) (M.laws_FnExactReadCurve_j2 x30 true) (M.laws_FnExactReadCurve_j2 x30 (x43.2 != x2.2)))))
def M.laws_FnExactReadCurve (a0 : ByteArray) : Option Bool :=
  ifB (decide (1048576 < (a0.size : Int))) (some true) (bnd (M.spec_ReadCurve a0) fun x2 => bnd (M.impl_ReadCurve a0) fun x9 => bnd (M.laws_eqCurvePointS x9.1 x2.1) fun x75 => ifB (!x75) (M.laws_FnExactReadCurve_j1 a0 x2 x9 true) (M.laws_FnExactReadCurve_j1 a0 x2 x9 (x9.2 != x2.2)))
def M.spec_DrawReadRace_j1 (x3 : Int × Race) (s_j1 : Int × Int × (List UInt8)) : Option (Int × ByteArray) :=
  some (x3.1, bts s_j1.2.2)
def M.spec_DrawReadRace_j2 (a0 : List UInt8) (x3 : Int × Race) (x26 : ByteArray) (s_j2 : Int × Int × Bool) : Option (Int × ByteArray) :=
  ifB s_j2.2.2 (bnd (M.spec_l01Next (Src.mk (([(UInt8.ofNat (2 : Int).toNat)] : List UInt8) ++ a0) s_j2.1 s_j2.2.1) (x26.data.toList.length : Int)) fun x93 => bnd (M.spec_l01Next (Src.mk (([(UInt8.ofNat (2 : Int).toNat)] : List UInt8) ++ a0) x93.2.1 x93.2.2) 6) fun x98 => bnd (strAt (⟨#[32, 61, 48, 70, 68, 57]⟩ : ByteArray) x98.1) fun x103 => bnd (idx x26.data.toList x93.1) fun x105 => M.spec_DrawReadRace_j1 x3 (x98.2.1, x98.2.2, x26.data.toList.set (x93.1 : Int).toNat (UInt8.ofNat (x103).toNat))) (M.spec_DrawReadRace_j1 x3 (s_j2.1, s_j2.2.1, x26.data.toList))
def M.spec_DrawReadRace (a0 : List UInt8) : Option (Int × ByteArray) :=
  bnd (M.spec_DrawIsRace a0) fun x3 => chk (([(UInt8.ofNat (2 : Int).toNat)] : List UInt8).length + a0.length < 1099511627776) (bnd (M.spec_l01From (([(UInt8.ofNat (2 : Int).toNat)] : List UInt8) ++ a0)) fun x20 => bnd (M.spec_RaceText x3.1 x3.2) fun x26 => chk (x26.size < 1099511627776) (ifB (decide (0 < (x26.data.toList.length : Int))) (bnd (M.spec_l01Next (Src.mk (([(UInt8.ofNat (2 : Int).toNat)] : List UInt8) ++ a0) x20.1 x20.2) 4) fun x114 => M.spec_DrawReadRace_j2 a0 x3 x26 (x114.2.1, x114.2.2, x114.1 == 0)) (M.spec_DrawReadRace_j2 a0 x3 x26 (x20.1, x20.2, false))))
def M.laws_FnRaceText_j2 (s_j2 : Bool) : Option Bool :=
  some s_j2
def M.laws_FnRaceText_j1 (x19 : ByteArray) (x24 : Int × Race) (s_j1 : Bool) : Option Bool :=
  ifB s_j1 (some false) (ifB (sEq x19 (⟨#[]⟩ : ByteArray)) (some true) (bnd (M.impl_ReadRace x24.1 x19) fun x84 => ifB x84.2 (bnd (M.laws_w6Races x84.1 x24.2) fun x104 => M.laws_FnRaceText_j2 x104) (M.laws_FnRaceText_j2 false)))
def M.laws_FnRaceText (a0 : List UInt8) : Option Bool :=
  bnd (M.laws_big a0) fun x3 => ifB x3 (some true) (bnd (M.spec_DrawRaceText a0) fun x9 => bnd (M.impl_RaceText x9.1 x9.2) fun x19 => bnd (M.spec_DrawRaceText a0) fun x24 => bnd (M.spec_RaceText x24.1 x24.2) fun x32 => ifB (!(sEq x19 x32)) (some false) (bnd (M.spec_DrawReadRace a0) fun x38 => bnd (M.impl_ReadRace x38.1 x38.2) fun x43 => bnd (M.spec_ReadRace x38.1 x38.2) fun x53 => ifB (x43.2 != x53.2) (M.laws_FnRaceText_j1 x19 x24 true) (bnd (M.laws_w6Races x43.1 x53.1) fun x110 => ifB (!x110) (M.laws_FnRaceText_j1 x19 x24 true) (ifB x43.2 (bnd (M.impl_RaceText x38.1 x43.1) fun x117 => M.laws_FnRaceText_j1 x19 x24 (!(sEq x117 x38.2))) (M.laws_FnRaceText_j1 x19 x24 false)))))

end Go.Proofs.YtngegaodnokmbaaDoor
