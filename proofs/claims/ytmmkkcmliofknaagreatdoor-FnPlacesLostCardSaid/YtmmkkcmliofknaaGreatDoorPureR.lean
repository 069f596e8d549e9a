/- Pure laws of the first seat: progress rules and discard rules. -/
import Derived.Test.YtmmkkcmliofknaaGreatDoorPureH
namespace Go.Proofs.YtmmkkcmliofknaaGreatDoor
open Go
set_option linter.unusedVariables false
set_option linter.unusedSimpArgs false
theorem zEV (n lo hi : Int) : zBt n lo hi = some (decide (lo ≤ n ∧ n ≤ hi)) := by
  simp only [zBt, zH4, zBm]
  by_cases h : lo ≤ n <;> simp [h]
theorem zGw (n lo hi : Int) : zBr n lo hi = some (decide (lo ≤ n ∧ n ≤ hi)) := by
  simp only [zBr, zHA, zBm]
  by_cases h : lo ≤ n <;> simp [h]
def zNh (a : ProgressRules) : Prop := (0 ≤ a.Gain ∧ a.Gain ≤ 1000) ∧ (0 ≤ a.Step ∧ a.Step ≤ 3000) ∧ 1 ≤ a.Low ∧ a.Low ≤ a.High ∧ a.High ≤ 3000
instance (a : ProgressRules) : Decidable (zNh a) := by unfold zNh; infer_instance
def zN6 (xs : List Int) (i : Nat) : Bool := !decide (1 ≤ xs.getD i 0 ∧ xs.getD i 0 ≤ 12) || (decide (0 < i) && decide (xs.getD i 0 ≤ xs.getD (i - 1) 0))
def zLV (xs : List Int) : Prop := ∀ i, i < xs.length → zN6 xs i = false
instance (xs : List Int) : Decidable (zLV xs) := by unfold zLV; infer_instance
theorem zNi (xs : List Int) (h : xs.length ≤ 1048576) : zAO (zCH xs) 0 = some (if zLV xs then .nxt (xs.length : Int) else .ret false) := by
  refine zIb xs.length (by omega) (fun i => (i : Int)) (zN6 xs) false _ rfl (fun i hi => ?_) ?_
  · have h1 : ((i : Int) < (xs.length : Int)) := by omega
    have h2 : w64 ((i : Int) + 1) = ((i + 1 : Nat) : Int) := by rw [zBl (by omega)]; rfl
    simp only [zCH, zCf, h1, decide_true, zAy, zBs xs i hi, zAr, zEV, zBm, h2]
    unfold zN6
    rw [show xs.getD i 0 = xs[i] by simp [hi]]
    by_cases h3 : 1 ≤ xs[i] ∧ xs[i] ≤ 12
    · rcases Nat.eq_zero_or_pos i with h4 | h4
      · subst h4; simp [h3]
      · have h5 : w64 ((i : Int) - 1) = ((i - 1 : Nat) : Int) := by rw [zBl (by omega)]; omega
        rw [h5, zBs xs (i - 1) (by omega), show xs.getD (i - 1) 0 = xs[i - 1] by simp [show i - 1 < xs.length by omega]]
        have h6 : (0 : Int) < i := by omega
        simp [h3, h4, h6]
        by_cases h7 : xs[i] ≤ xs[i - 1] <;> simp [h7]
    · simp [h3]
  · simp [zCH]
theorem zPu (xs : List Int) (h : xs.length ≤ 1048576) : zAO (zFe xs) 0 = some (if zLV xs then .nxt (xs.length : Int) else .ret false) := by
  rw [← zNi xs h]
  congr 1
  funext i
  simp only [zFe, zCH, zEV, zGw, zCI, zCf, zBm]
  cases hi : idx xs i with
  | none => simp [bnd]
  | some a => simp
def zIW (xs : List Int) : Prop := xs.length ≤ 3 ∧ zLV xs
instance (xs : List Int) : Decidable (zIW xs) := by unfold zIW; infer_instance
theorem zFP (xs : List Int) (h : xs.length ≤ 1048576) : zDI xs = some (decide (zIW xs)) := by
  simp only [zDI, zNi xs h, zDH, zBm, zAr, decide_eq_true_eq]
  unfold zIW
  by_cases h1 : xs.length ≤ 3
  · rw [if_neg (by omega)]
    by_cases h2 : zLV xs <;> simp [h1, h2]
  · rw [if_pos (by omega)]; simp [h1]
theorem zJJ (xs : List Int) (h : xs.length ≤ 1048576) : zDK xs = some (decide (zIW xs)) := by
  simp only [zDK, zPu xs h, zDJ, zAr]
  unfold zIW
  by_cases h2 : zLV xs
  · simp [h2]; omega
  · simp [h2]
theorem zSM : zFt = zFo := by
  funext xs n
  simp only [zFt, zFo, zD5, zFZ]
  have e : zFR xs n = zDC xs n := by
    funext s
    simp only [zFR, zDC, zFQ, zD6, zF0, zEG]
  rw [e]
end Go.Proofs.YtmmkkcmliofknaaGreatDoor
