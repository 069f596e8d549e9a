/- Texts: races, curves. -/
import Derived.Test.YtmmkkcmliofknaaGreatDoorPureTx
import Derived.Test.YtmmkkcmliofknaaGreatDoorPureX
import Derived.Test.YtmmkkcmliofknaaGreatDoorPureW
namespace Go.Proofs.YtmmkkcmliofknaaGreatDoor
open Go
set_option linter.unusedVariables false
set_option linter.unusedSimpArgs false
def nmB (c : Int) : ByteArray := ([(⟨#[70, 73, 78]⟩ : ByteArray), (⟨#[68, 78, 67]⟩ : ByteArray), (⟨#[68, 78, 83]⟩ : ByteArray), (⟨#[79, 67, 83]⟩ : ByteArray), (⟨#[68, 78, 70]⟩ : ByteArray), (⟨#[82, 69, 84]⟩ : ByteArray), (⟨#[68, 83, 81]⟩ : ByteArray), (⟨#[68, 78, 69]⟩ : ByteArray), (⟨#[66, 70, 68]⟩ : ByteArray), (⟨#[82, 68, 71]⟩ : ByteArray)] : List ByteArray).getD c.toNat ByteArray.empty
theorem zR8 (c : Int) (h0 : 0 ≤ c) (h1 : c ≤ 9) : idx ([(⟨#[70, 73, 78]⟩ : ByteArray), (⟨#[68, 78, 67]⟩ : ByteArray), (⟨#[68, 78, 83]⟩ : ByteArray), (⟨#[79, 67, 83]⟩ : ByteArray), (⟨#[68, 78, 70]⟩ : ByteArray), (⟨#[82, 69, 84]⟩ : ByteArray), (⟨#[68, 83, 81]⟩ : ByteArray), (⟨#[68, 78, 69]⟩ : ByteArray), (⟨#[66, 70, 68]⟩ : ByteArray), (⟨#[82, 68, 71]⟩ : ByteArray)] : List ByteArray) c = some (nmB c) ∧ (nmB c).size = 3 := by
  have : c = 0 ∨ c = 1 ∨ c = 2 ∨ c = 3 ∨ c = 4 ∨ c = 5 ∨ c = 6 ∨ c = 7 ∨ c = 8 ∨ c = 9 := by omega
  rcases this with rfl | rfl | rfl | rfl | rfl | rfl | rfl | rfl | rfl | rfl <;> exact ⟨rfl, rfl⟩
theorem zPy (c : Int) (h0 : 0 ≤ c) (h1 : c ≤ 9) : zIa c = some (nmB c) := by
  simp only [zIa, zGw, zAr, decide_eq_true (show 0 ≤ c ∧ c ≤ 9 from ⟨h0, h1⟩), Bool.not_true, zAG, (zR8 c h0 h1).1]
end Go.Proofs.YtmmkkcmliofknaaGreatDoor
