/- Pure laws of par times: codes, corrected times, and the sorted times of those that have finished. -/
import Derived.Test.YtpnehnkhhibliaaPureB
import Derived.Test.YtpnehnkhhibliaaPureX
import Derived.Test.YtpnehnkhhibliaaPureP
import Derived.Test.YtpnehnkhhibliaaMod3
namespace Go.Proofs.Ytpnehnkhhibliaa
open Go
set_option linter.unusedVariables false
set_option linter.unusedSimpArgs false
theorem p_specFinish (x : Finish) : M.spec_IsFinish x = M.impl_IsFinish x := by
  rw [p_IsFinish]
  simp only [M.spec_IsFinish, M.spec_IsFinish_j1, p_l01In, bnd_some, ifB_if]
  by_cases h6 : 0 ≤ x.Boat ∧ x.Boat ≤ 15
  · by_cases h5 : x.Code = 0
    · by_cases h7 : 1 ≤ x.Time ∧ x.Time ≤ 1000000000 <;> simp [h5, h6, h7]
    · by_cases h7 : 1 ≤ x.Code ∧ x.Code ≤ 9
      · have h8 : 0 ≤ x.Code ∧ x.Code ≤ 9 := by omega
        simp [h5, h6, h7, h8]
      · have h8 : ¬ (0 ≤ x.Code ∧ x.Code ≤ 9) := by omega
        simp [h5, h6, h7, h8]
  · simp [h6]
theorem p_l22Race (n : Int) (xs : List Finish) (h : xs.length ≤ 1048576) : M.spec_l22Race n xs = some (decide ((1 ≤ n ∧ n ≤ 16) ∧ OkRace n xs)) := by
  rw [← p_areFinishes n xs h]
  simp only [M.spec_l22Race, M.impl_areFinishes, p_l01In, p_within, bnd_some]
  have e : loopF (M.spec_l22Race_l1 xs) 0 = loopF (M.impl_areFinishes_l1 xs) 0 := by
    refine loop_congr (fun i => ?_) 0
    simp only [M.spec_l22Race_l1, M.impl_areFinishes_l1, p_specFinish, M.spec_l22Race_j2, M.impl_areFinishes_j2]
    cases hi : idx xs i with
    | none => simp [bnd]
    | some a => simp
  simp only [M.spec_l22Race_j1, M.impl_areFinishes_j1, e, M.spec_l22Race_a1, M.impl_areFinishes_a1]
end Go.Proofs.Ytpnehnkhhibliaa
