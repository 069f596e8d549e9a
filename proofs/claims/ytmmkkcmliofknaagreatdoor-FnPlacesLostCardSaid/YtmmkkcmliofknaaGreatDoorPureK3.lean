/- Pure laws: discards, counted and net points, scores. -/
import Derived.Test.YtmmkkcmliofknaaGreatDoorPureK2
namespace Go.Proofs.YtmmkkcmliofknaaGreatDoor
open Go
set_option linter.unusedVariables false
set_option linter.unusedSimpArgs false
def cdT (t : Table) (rule : List Int) (b : Int) : Int := if zCm t then (if zIW rule ∧ (0 ≤ b ∧ b ≤ t.Boats - 1) then 0 else 2) else 1
theorem zOR (t : Table) (rule : List Int) (b : Int) (h : szT t ≤ 1048576) (hr : rule.length ≤ 1048576) : zHJ t rule b = some (cdT t rule b) ∧ zK8 t rule b = some (cdT t rule b) := by
  unfold cdT
  simp only [zHJ, zFu, zK8, zJe, zNs t h, zNt t h, zAr, zJJ rule hr, zFP rule hr, zGw, zEV, zBm]
  by_cases h1 : zCm t
  · have hb := h1.1
    have e : w64 (t.Boats - 1) = t.Boats - 1 := zBl (by omega)
    by_cases h2 : zIW rule
    · by_cases h3 : 0 ≤ b ∧ b ≤ t.Boats - 1 <;> simp [h1, h2, h3, e]
    · simp [h1, h2]
  · simp [h1]
def ctK (t : Table) (rule : List Int) (b : Int) : List Int := ((zCG t.Points.length).filter fun k => !decide (k ∈ dsK t rule b)).map (ptK t b)
theorem zPT (t : Table) (rule : List Int) (b : Int) : (ctK t rule b).length ≤ t.Points.length := by
  unfold ctK
  rw [List.length_map]
  have := List.length_filter_le (fun k => !decide (k ∈ dsK t rule b)) (zCG t.Points.length)
  rw [zJm] at this
  exact this
theorem zSH (t : Table) (D : List Int) : (inD t D).length ≤ t.Points.length := by
  have := List.length_filter_le (fun k => decide (k ∈ D)) (zCG t.Points.length)
  rw [zJm] at this
  exact this
theorem zNH (p : Int → Bool) (i : Nat) : (zCG (i + 1)).filter p = (zCG i).filter p ++ (if p (i : Int) = true then [(i : Int)] else []) := by
  rw [zJv, List.filter_append, List.filter_cons]; simp
theorem zOS (p : Int → Bool) (i : Nat) : ((zCG i).filter p).length ≤ i := by
  have := List.length_filter_le p (zCG i); rw [zJm] at this; exact this
theorem zNZ (rule : List Int) (h : zIW rule) : rule.length ≤ 3 := h.1
theorem zLz (t : Table) (rule : List Int) (b : Int) (ht : zCm t) (h0 : 0 ≤ b) (h1 : b < t.Boats) (hr : rule.length ≤ 3) : zFh t rule b = some (ctK t rule b) := by
  have hn := ht.2.1
  rw [zFh, zRV t rule b ht h0 h1 hr, zAr]
  generalize hD : dsK t rule b = D
  have hl : zAO (zEX t b (flg t D)) (([] : List Int), 0) = some (.nxt (((zCG t.Points.length).filter fun k => !decide (k ∈ D)).map (ptK t b), (t.Points.length : Int))) := by
    refine zBy t.Points.length (by omega) (fun i => (((zCG i).filter fun k => !decide (k ∈ D)).map (ptK t b), (i : Int))) _ rfl (fun i hi => ?_) ?_
    · have e1 : ((i : Int) < ((flg t D).length : Int)) := by rw [zMj]; omega
      have hl := zOS (fun k => !decide (k ∈ D)) i
      obtain ⟨⟨rp, p1, p2, _⟩, _⟩ := zIV t ht b h0 h1 (i : Int) ((zIQ _ _).2 ⟨i, hi, rfl⟩)
      simp only [zEX, zGP, zEW, e1, decide_true, zAy, zKG t D i hi, zAr, zBB hi (by omega), zNH, p1, p2, List.map_append]
      by_cases hd : (i : Int) ∈ D
      · simp [hd]
      · simp only [hd, decide_false, Bool.not_false, zAy, if_true, List.length_singleton, List.map_cons, List.map_nil]
        rw [zBf (by rw [List.length_map]; omega)]
    · have e1 : ¬ (((t.Points.length : Nat) : Int) < ((flg t D).length : Int)) := by rw [zMj]; omega
      simp only [zEX, e1, decide_false, zAG]
  rw [hl]
  unfold ctK
  rw [hD]
  rfl
theorem zKc (t : Table) (rule : List Int) (b : Int) (ht : zCm t) (h0 : 0 ≤ b) (h1 : b < t.Boats) (hr : rule.length ≤ 3) : zCS t rule b = some (ctK t rule b) := by
  have hn := ht.2.1
  rw [zCS, zNY t rule b ht h0 h1 hr, zAr]
  generalize hD : dsK t rule b = D
  have hlD := zSH t D
  have hl : zAO (zD0 t b (inD t D)) (([] : List Int), 0) = some (.nxt (((zCG t.Points.length).filter fun k => !decide (k ∈ D)).map (ptK t b), (t.Points.length : Int))) := by
    refine zBy t.Points.length (by omega) (fun i => (((zCG i).filter fun k => !decide (k ∈ D)).map (ptK t b), (i : Int))) _ rfl (fun i hi => ?_) ?_
    · have e1 : ((i : Int) < (t.Points.length : Int)) := by omega
      have hl := zOS (fun k => !decide (k ∈ D)) i
      have him : (i : Int) ∈ zCG t.Points.length := (zIQ _ _).2 ⟨i, hi, rfl⟩
      obtain ⟨⟨rp, p1, p2, _⟩, _⟩ := zIV t ht b h0 h1 (i : Int) him
      have hc : decide ((i : Int) ∈ inD t D) = decide ((i : Int) ∈ D) := by
        unfold inD
        rw [decide_eq_decide, List.mem_filter, decide_eq_true_eq]
        exact ⟨fun h => h.2, fun h => ⟨him, h⟩⟩
      simp only [zD0, zFm, zDZ, e1, decide_true, zAy, zPm (inD t D) _ (by omega), hc, zAr, zBB hi (by omega), zNH, p1, p2, List.map_append]
      by_cases hd : (i : Int) ∈ D
      · simp [hd]
      · simp only [hd, decide_false, Bool.not_false, zAy, if_true, List.length_singleton, List.map_cons, List.map_nil]
        rw [zBf (by rw [List.length_map]; omega)]
    · simp only [zD0, Int.lt_irrefl, decide_false, zAG]
  rw [hl]
  unfold ctK
  rw [hD]
  rfl
theorem zTP (xs : List Int) (h : xs.length ≤ 1048576) : ∃ v, zBN xs = some v := by
  obtain ⟨o, ho, v, k, rfl⟩ : ∃ o, zAO (zDM xs) (0, 0) = some o ∧ ∃ v k, o = .nxt (v, k) := by
    refine zDd xs.length (by omega) (fun i s => s.2 = (i : Int)) _ rfl (fun i s hi hs => ?_) (fun s hs => ?_)
    · obtain ⟨v, k⟩ := s
      simp only at hs
      subst hs
      have e1 : ((i : Int) < (xs.length : Int)) := by omega
      exact ⟨.cont (w64 (v + xs[i]), ((i + 1 : Nat) : Int)), by simp only [zDM, e1, decide_true, zAy, zBs _ i hi, zAr, zBB hi (by omega)], rfl⟩
    · obtain ⟨v, k⟩ := s
      simp only at hs
      subst hs
      exact ⟨.brk (v, ((xs.length : Nat) : Int)), by simp only [zDM, Int.lt_irrefl, decide_false, zAG], v, _, rfl⟩
  exact ⟨v, by rw [zBN, ho]; rfl⟩
theorem zTQ (t : Table) (rule : List Int) (b : Int) : zFX t rule b = bnd (zCS t rule b) fun x => zBN x := rfl
def ntK (t : Table) (rule : List Int) (b : Int) : Int := (zBN (ctK t rule b)).getD 0
theorem zSX (t : Table) (rule : List Int) (b : Int) (ht : zCm t) (h0 : 0 ≤ b) (h1 : b < t.Boats) (hr : rule.length ≤ 3) : zFX t rule b = some (ntK t rule b) ∧ zBN (ctK t rule b) = some (ntK t rule b) := by
  have hl := zPT t rule b
  have hn := ht.2.1
  obtain ⟨v, hv⟩ := zTP (ctK t rule b) (by omega)
  have e : zBN (ctK t rule b) = some (ntK t rule b) := by unfold ntK; rw [hv]; rfl
  exact ⟨by rw [zTQ, zKc t rule b ht h0 h1 hr, zAr, e], e⟩
end Go.Proofs.YtmmkkcmliofknaaGreatDoor
