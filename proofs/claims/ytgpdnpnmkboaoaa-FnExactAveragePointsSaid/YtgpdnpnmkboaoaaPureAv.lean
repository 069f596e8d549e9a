/- Pure laws: average points. -/
import Derived.Test.YtgpdnpnmkboaoaaPureK
namespace Go.Proofs.Ytgpdnpnmkboaoaa
open Go
set_option linter.unusedVariables false
set_option linter.unusedSimpArgs false

def avC (t : Table) (race b kind : Int) (k : Int) : Bool := (decide (k < race) || (decide (race < k) && kind == 1)) && (cdK t b k != 9)
def avS (t : Table) (race b kind : Int) : Nat → Int × Int
  | 0 => (0, 0)
  | i + 1 => if avC t race b kind (i : Int) = true then (w64 ((avS t race b kind i).1 + ptK t b (i : Int)), w64 ((avS t race b kind i).2 + 1)) else avS t race b kind i
theorem avS_bd (t : Table) (race b kind : Int) : ∀ i, i ≤ 1048576 → 0 ≤ (avS t race b kind i).2 ∧ (avS t race b kind i).2 ≤ (i : Int)
  | 0, _ => by simp [avS]
  | i + 1, h => by
    have ih := avS_bd t race b kind i (by omega)
    unfold avS
    split
    · simp only
      rw [w64_of (by omega)]
      omega
    · omega
def avR (t : Table) (race b kind : Int) : Int × Bool := if (avS t race b kind t.Points.length).2 = 0 then (0, false) else (w64 ((w64 ((w64 (2 * (avS t race b kind t.Points.length).1)) + (avS t race b kind t.Points.length).2)).tdiv (w64 (2 * (avS t race b kind t.Points.length).2))), true)
theorem p_avg (t : Table) (race b kind : Int) (ht : IsTable t) (h0 : 0 ≤ b) (h1 : b < t.Boats) (hk : 1 ≤ kind ∧ kind ≤ 2) : M.spec_l29Average t race b kind = some (avR t race b kind) ∧ M.impl_averagePoints t race b kind = some (avR t race b kind) := by
  have hn := ht.2.1
  have hbd := avS_bd t race b kind t.Points.length (by omega)
  have hs : ∀ i (hi : i < t.Points.length), M.spec_l29Average_l1 t race b kind ((avS t race b kind i).1, (avS t race b kind i).2, (i : Int)) = some (.cont ((avS t race b kind (i + 1)).1, (avS t race b kind (i + 1)).2, ((i + 1 : Nat) : Int))) ∧ M.impl_averagePoints_l1 t race b kind ((avS t race b kind i).1, (avS t race b kind i).2, (i : Int)) = some (.cont ((avS t race b kind (i + 1)).1, (avS t race b kind (i + 1)).2, ((i + 1 : Nat) : Int))) := fun i hi => by
    have e1 : ((i : Int) < (t.Points.length : Int)) := by omega
    obtain ⟨⟨rp, p1, p2, _⟩, rc, c1, c2⟩ := tab_get t ht b h0 h1 (i : Int) ((idxs_mem _ _).2 ⟨i, hi, rfl⟩)
    have hst : avS t race b kind (i + 1) = if avC t race b kind (i : Int) = true then (w64 ((avS t race b kind i).1 + ptK t b (i : Int)), w64 ((avS t race b kind i).2 + 1)) else avS t race b kind i := rfl
    rw [hst]
    generalize avS t race b kind i = s at *
    unfold avC
    simp only [M.spec_l29Average_l1, M.spec_l29Average_j3, M.spec_l29Average_j2, M.spec_l29Average_j1, M.impl_averagePoints_l1, M.impl_averagePoints_j4, M.impl_averagePoints_j3, M.impl_averagePoints_j2, M.impl_averagePoints_j1, e1, decide_true, ifB_true, p1, p2, c1, c2, bnd_some, step64 hi (by omega)]
    have hk2 : kind = 1 ∨ kind = 2 := by omega
    rcases Int.lt_trichotomy (i : Int) race with h | h | h
    · have a1 : ¬ (i : Int) = race := by omega
      have a2 : ¬ race < (i : Int) := by omega
      by_cases hc : cdK t b (i : Int) = 9
      · rcases hk2 with rfl | rfl <;> simp [ifB_if, h, a1, a2, hc]
      · rcases hk2 with rfl | rfl <;> simp [ifB_if, h, a1, a2, hc]
    · have a1 : ¬ (i : Int) < race := by omega
      have a2 : ¬ race < (i : Int) := by omega
      simp [ifB_if, h]
    · have a1 : ¬ (i : Int) = race := by omega
      have a2 : ¬ (i : Int) < race := by omega
      by_cases hc : cdK t b (i : Int) = 9
      · rcases hk2 with rfl | rfl <;> simp [ifB_if, h, a1, a2, hc]
      · rcases hk2 with rfl | rfl <;> simp [ifB_if, h, a1, a2, hc]
  have l1 : loopF (M.spec_l29Average_l1 t race b kind) (0, 0, 0) = some (.nxt ((avS t race b kind t.Points.length).1, (avS t race b kind t.Points.length).2, (t.Points.length : Int))) :=
    loop_run t.Points.length (by omega) (fun i => ((avS t race b kind i).1, (avS t race b kind i).2, (i : Int))) _ rfl (fun i hi => (hs i hi).1) (by simp only [M.spec_l29Average_l1, Int.lt_irrefl, decide_false, ifB_false])
  have l2 : loopF (M.impl_averagePoints_l1 t race b kind) (0, 0, 0) = some (.nxt ((avS t race b kind t.Points.length).1, (avS t race b kind t.Points.length).2, (t.Points.length : Int))) :=
    loop_run t.Points.length (by omega) (fun i => ((avS t race b kind i).1, (avS t race b kind i).2, (i : Int))) _ rfl (fun i hi => (hs i hi).2) (by simp only [M.impl_averagePoints_l1, Int.lt_irrefl, decide_false, ifB_false])
  rw [M.spec_l29Average, M.impl_averagePoints, l1, l2]
  simp only [bnd_some, outc_nxt, M.spec_l29Average_a1, M.impl_averagePoints_a1, ifB_if, avR]
  by_cases hz : (avS t race b kind t.Points.length).2 = 0
  · simp [hz]
  · have hne : w64 (2 * (avS t race b kind t.Points.length).2) ≠ 0 := by rw [w64_of (by omega)]; omega
    simp only [hz, beq_iff_eq, if_false, chk_pos hne, and_self]
theorem p_AveragePoints (t : Table) (race b kind : Int) (h : szT t ≤ 1048576) : ∃ r, M.spec_AveragePoints t race b kind = some r ∧ M.impl_AveragePoints t race b kind = some r := by
  simp only [M.spec_AveragePoints, M.impl_AveragePoints, M.spec_AveragePoints_j1, M.impl_AveragePoints_j1, p_specIsTable t h, p_implIsTable t h, bnd_some, p_l01In, p_within, ifB_if]
  by_cases ht : IsTable t
  · have hb := ht.1
    have e2 : w64 (t.Boats - 1) = t.Boats - 1 := w64_of (by omega)
    by_cases h1 : 0 ≤ race ∧ race ≤ w64 ((t.Points.length : Int) - 1)
    · by_cases h2 : 0 ≤ b ∧ b ≤ w64 (t.Boats - 1)
      · by_cases h3 : 1 ≤ kind ∧ kind ≤ 2
        · obtain ⟨a1, a2⟩ := p_avg t race b kind ht h2.1 (by have := h2.2; rw [e2] at this; omega) h3
          simp only [ht, h1, h2, h3, a1, a2, and_self, decide_true, Bool.not_true, Bool.false_eq_true, if_false, bnd_some]
          cases (avR t race b kind).2 <;> simp
        · simp [ht, h1, h2, h3]
      · simp [ht, h1, h2]
    · simp [ht, h1]
  · simp [ht]
theorem pure_FnExactAveragePoints (t : Table) (ht : OkD.ok t) (race : Int) (h1 : i64ok race) (b : Int) (h2 : i64ok b) (kind : Int) (h3 : i64ok kind) : M.laws_FnExactAveragePoints t race b kind = some true := by
  rw [M.laws_FnExactAveragePoints, p_szTable t ht _ (by omega) (by omega), bnd_some, ifB_if]
  by_cases hl : (1048576 : Int) < (szT t : Int)
  · simp [hl]
  · have hl' : szT t ≤ 1048576 := by omega
    rw [if_neg hl, if_neg (by simp; omega)]
    obtain ⟨r, h1, h2⟩ := p_AveragePoints t race b kind hl'
    simp only [p_toTable t hl', bnd_some, h1, h2, p_eqTable t hl', M.laws_FnExactAveragePoints_j1, bne_self_eq_false, Bool.not_true, ifB_false]
end Go.Proofs.Ytgpdnpnmkboaoaa
