/- Pure laws: discards, counted and net points, scores. -/
import Derived.Test.YtpobaajdhfoomaaPureK2
namespace Go.Proofs.Ytpobaajdhfoomaa
open Go
set_option linter.unusedVariables false
set_option linter.unusedSimpArgs false
def cdT (t : Table) (rule : List Int) (b : Int) : Int := if IsTable t then (if IsRule3 rule ∧ (0 ≤ b ∧ b ≤ t.Boats - 1) then 0 else 2) else 1
theorem p_tableCode (t : Table) (rule : List Int) (b : Int) (h : szT t ≤ 1048576) (hr : rule.length ≤ 1048576) : M.impl_tableCode t rule b = some (cdT t rule b) ∧ M.spec_l27Code t rule b = some (cdT t rule b) := by
  unfold cdT
  simp only [M.impl_tableCode, M.impl_tableCode_j1, M.spec_l27Code, M.spec_l27Code_j1, p_implIsTable t h, p_specIsTable t h, bnd_some, p_implIsDiscardRule rule hr, p_specIsDiscardRule rule hr, p_within, p_l01In, ifB_if]
  by_cases h1 : IsTable t
  · have hb := h1.1
    have e : w64 (t.Boats - 1) = t.Boats - 1 := w64_of (by omega)
    by_cases h2 : IsRule3 rule
    · by_cases h3 : 0 ≤ b ∧ b ≤ t.Boats - 1 <;> simp [h1, h2, h3, e]
    · simp [h1, h2]
  · simp [h1]
theorem cdT_zero (t : Table) (rule : List Int) (b : Int) (h : cdT t rule b = 0) : IsTable t ∧ IsRule3 rule ∧ 0 ≤ b ∧ b < t.Boats := by
  unfold cdT at h
  split at h
  · rename_i h1
    split at h
    · rename_i h2; exact ⟨h1, h2.1, h2.2.1, by have := h2.2.2; omega⟩
    · omega
  · omega
def ctK (t : Table) (rule : List Int) (b : Int) : List Int := ((idxs t.Points.length).filter fun k => !decide (k ∈ dsK t rule b)).map (ptK t b)
theorem ctK_len (t : Table) (rule : List Int) (b : Int) : (ctK t rule b).length ≤ t.Points.length := by
  unfold ctK
  rw [List.length_map]
  have := List.length_filter_le (fun k => !decide (k ∈ dsK t rule b)) (idxs t.Points.length)
  rw [idxs_len] at this
  exact this
theorem inD_len (t : Table) (D : List Int) : (inD t D).length ≤ t.Points.length := by
  have := List.length_filter_le (fun k => decide (k ∈ D)) (idxs t.Points.length)
  rw [idxs_len] at this
  exact this
theorem filt_succ (p : Int → Bool) (i : Nat) : (idxs (i + 1)).filter p = (idxs i).filter p ++ (if p (i : Int) = true then [(i : Int)] else []) := by
  rw [idxs_succ, List.filter_append, List.filter_cons]; simp
theorem filt_len (p : Int → Bool) (i : Nat) : ((idxs i).filter p).length ≤ i := by
  have := List.length_filter_le p (idxs i); rw [idxs_len] at this; exact this
theorem rule_le (rule : List Int) (h : IsRule3 rule) : rule.length ≤ 3 := h.1
theorem p_specCounted (t : Table) (rule : List Int) (b : Int) (ht : IsTable t) (h0 : 0 ≤ b) (h1 : b < t.Boats) (hr : rule.length ≤ 3) : M.spec_l27Counted t rule b = some (ctK t rule b) := by
  have hn := ht.2.1
  rw [M.spec_l27Counted, p_l27Out t rule b ht h0 h1 hr, bnd_some]
  generalize hD : dsK t rule b = D
  have hl : loopF (M.spec_l27Counted_l1 t b (flg t D)) (([] : List Int), 0) = some (.nxt (((idxs t.Points.length).filter fun k => !decide (k ∈ D)).map (ptK t b), (t.Points.length : Int))) := by
    refine loop_run t.Points.length (by omega) (fun i => (((idxs i).filter fun k => !decide (k ∈ D)).map (ptK t b), (i : Int))) _ rfl (fun i hi => ?_) ?_
    · have e1 : ((i : Int) < ((flg t D).length : Int)) := by rw [flg_len]; omega
      have hl := filt_len (fun k => !decide (k ∈ D)) i
      obtain ⟨⟨rp, p1, p2, _⟩, _⟩ := tab_get t ht b h0 h1 (i : Int) ((idxs_mem _ _).2 ⟨i, hi, rfl⟩)
      simp only [M.spec_l27Counted_l1, M.spec_l27Counted_j1, M.spec_l27Counted_j2, e1, decide_true, ifB_true, flg_get t D i hi, bnd_some, step64 hi (by omega), filt_succ, p1, p2, List.map_append]
      by_cases hd : (i : Int) ∈ D
      · simp [hd]
      · simp only [hd, decide_false, Bool.not_false, ifB_true, if_true, List.length_singleton, List.map_cons, List.map_nil]
        rw [chk_pos (by rw [List.length_map]; omega)]
    · have e1 : ¬ (((t.Points.length : Nat) : Int) < ((flg t D).length : Int)) := by rw [flg_len]; omega
      simp only [M.spec_l27Counted_l1, e1, decide_false, ifB_false]
  rw [hl]
  unfold ctK
  rw [hD]
  rfl
theorem p_implCounted (t : Table) (rule : List Int) (b : Int) (ht : IsTable t) (h0 : 0 ≤ b) (h1 : b < t.Boats) (hr : rule.length ≤ 3) : M.impl_countedPoints t rule b = some (ctK t rule b) := by
  have hn := ht.2.1
  rw [M.impl_countedPoints, p_discardsOf t rule b ht h0 h1 hr, bnd_some]
  generalize hD : dsK t rule b = D
  have hlD := inD_len t D
  have hl : loopF (M.impl_countedPoints_l1 t b (inD t D)) (([] : List Int), 0) = some (.nxt (((idxs t.Points.length).filter fun k => !decide (k ∈ D)).map (ptK t b), (t.Points.length : Int))) := by
    refine loop_run t.Points.length (by omega) (fun i => (((idxs i).filter fun k => !decide (k ∈ D)).map (ptK t b), (i : Int))) _ rfl (fun i hi => ?_) ?_
    · have e1 : ((i : Int) < (t.Points.length : Int)) := by omega
      have hl := filt_len (fun k => !decide (k ∈ D)) i
      have him : (i : Int) ∈ idxs t.Points.length := (idxs_mem _ _).2 ⟨i, hi, rfl⟩
      obtain ⟨⟨rp, p1, p2, _⟩, _⟩ := tab_get t ht b h0 h1 (i : Int) him
      have hc : decide ((i : Int) ∈ inD t D) = decide ((i : Int) ∈ D) := by
        unfold inD
        rw [decide_eq_decide, List.mem_filter, decide_eq_true_eq]
        exact ⟨fun h => h.2, fun h => ⟨him, h⟩⟩
      simp only [M.impl_countedPoints_l1, M.impl_countedPoints_j1, M.impl_countedPoints_j2, e1, decide_true, ifB_true, p_Contains (inD t D) _ (by omega), hc, bnd_some, step64 hi (by omega), filt_succ, p1, p2, List.map_append]
      by_cases hd : (i : Int) ∈ D
      · simp [hd]
      · simp only [hd, decide_false, Bool.not_false, ifB_true, if_true, List.length_singleton, List.map_cons, List.map_nil]
        rw [chk_pos (by rw [List.length_map]; omega)]
    · simp only [M.impl_countedPoints_l1, Int.lt_irrefl, decide_false, ifB_false]
  rw [hl]
  unfold ctK
  rw [hD]
  rfl
theorem d_sum (xs : List Int) (h : xs.length ≤ 1048576) : ∃ v, M.spec_l27Sum xs = some v := by
  obtain ⟨o, ho, v, k, rfl⟩ : ∃ o, loopF (M.spec_l27Sum_l1 xs) (0, 0) = some o ∧ ∃ v k, o = .nxt (v, k) := by
    refine loop_count xs.length (by omega) (fun i s => s.2 = (i : Int)) _ rfl (fun i s hi hs => ?_) (fun s hs => ?_)
    · obtain ⟨v, k⟩ := s
      simp only at hs
      subst hs
      have e1 : ((i : Int) < (xs.length : Int)) := by omega
      exact ⟨.cont (w64 (v + xs[i]), ((i + 1 : Nat) : Int)), by simp only [M.spec_l27Sum_l1, e1, decide_true, ifB_true, idx_lt _ i hi, bnd_some, step64 hi (by omega)], rfl⟩
    · obtain ⟨v, k⟩ := s
      simp only at hs
      subst hs
      exact ⟨.brk (v, ((xs.length : Nat) : Int)), by simp only [M.spec_l27Sum_l1, Int.lt_irrefl, decide_false, ifB_false], v, _, rfl⟩
  exact ⟨v, by rw [M.spec_l27Sum, ho]; rfl⟩
theorem e_net (t : Table) (rule : List Int) (b : Int) : M.impl_netPoints t rule b = bnd (M.impl_countedPoints t rule b) fun x => M.spec_l27Sum x := rfl
def ntK (t : Table) (rule : List Int) (b : Int) : Int := (M.spec_l27Sum (ctK t rule b)).getD 0
theorem p_net (t : Table) (rule : List Int) (b : Int) (ht : IsTable t) (h0 : 0 ≤ b) (h1 : b < t.Boats) (hr : rule.length ≤ 3) : M.impl_netPoints t rule b = some (ntK t rule b) ∧ M.spec_l27Sum (ctK t rule b) = some (ntK t rule b) := by
  have hl := ctK_len t rule b
  have hn := ht.2.1
  obtain ⟨v, hv⟩ := d_sum (ctK t rule b) (by omega)
  have e : M.spec_l27Sum (ctK t rule b) = some (ntK t rule b) := by unfold ntK; rw [hv]; rfl
  exact ⟨by rw [e_net, p_implCounted t rule b ht h0 h1 hr, bnd_some, e], e⟩
theorem p_NetScores (t : Table) (rule : List Int) (h : szT t ≤ 1048576) (hr : rule.length ≤ 1048576) : ∃ r, M.spec_NetScores t rule = some r ∧ M.impl_NetScores t rule = some r ∧ r.1.length ≤ 1048576 := by
  obtain ⟨c1, c2⟩ := p_tableCode t rule 0 h hr
  by_cases h0 : cdT t rule 0 = 0
  · obtain ⟨ht, hru, _, _⟩ := cdT_zero t rule 0 h0
    have hb := ht.1
    have hnet : ∀ i, i < t.Boats.toNat → (M.impl_netPoints t rule (i : Int) = some (ntK t rule (i : Int)) ∧ M.spec_l27Sum (ctK t rule (i : Int)) = some (ntK t rule (i : Int))) ∧ M.spec_l27Counted t rule (i : Int) = some (ctK t rule (i : Int)) := fun i hi =>
      ⟨p_net t rule i ht (by omega) (by omega) (rule_le rule hru), p_specCounted t rule i ht (by omega) (by omega) (rule_le rule hru)⟩
    have hs : ∀ i : Nat, (idxs (i + 1)).map (ntK t rule) = (idxs i).map (ntK t rule) ++ [ntK t rule (i : Int)] := fun i => by rw [idxs_succ, List.map_append]; rfl
    have l1 : loopF (M.spec_NetScores_l1 t rule) (([] : List Int), 0) = some (.nxt ((idxs t.Boats.toNat).map (ntK t rule), ((t.Boats.toNat : Nat) : Int))) := by
      refine loop_run t.Boats.toNat (by omega) (fun i => ((idxs i).map (ntK t rule), (i : Int))) _ rfl (fun i hi => ?_) ?_
      · have e1 : ((i : Int) < t.Boats) := by omega
        obtain ⟨⟨n1, n2⟩, n3⟩ := hnet i hi
        simp only [M.spec_NetScores_l1, e1, decide_true, ifB_true, n3, n2, bnd_some, List.length_singleton, chk_pos (show ((idxs i).map (ntK t rule)).length + 1 < 1099511627776 by rw [List.length_map, idxs_len]; omega), step64 hi (by omega), hs]
      · have e1 : ¬ (((t.Boats.toNat : Nat) : Int) < t.Boats) := by omega
        simp only [M.spec_NetScores_l1, e1, decide_false, ifB_false]
    have l2 : loopF (M.impl_netScores_l1 t rule) (([] : List Int), 0) = some (.nxt ((idxs t.Boats.toNat).map (ntK t rule), ((t.Boats.toNat : Nat) : Int))) := by
      refine loop_run t.Boats.toNat (by omega) (fun i => ((idxs i).map (ntK t rule), (i : Int))) _ rfl (fun i hi => ?_) ?_
      · have e1 : ((i : Int) < t.Boats) := by omega
        obtain ⟨⟨n1, n2⟩, n3⟩ := hnet i hi
        simp only [M.impl_netScores_l1, e1, decide_true, ifB_true, n1, bnd_some, List.length_singleton, chk_pos (show ((idxs i).map (ntK t rule)).length + 1 < 1099511627776 by rw [List.length_map, idxs_len]; omega), step64 hi (by omega), hs]
      · have e1 : ¬ (((t.Boats.toNat : Nat) : Int) < t.Boats) := by omega
        simp only [M.impl_netScores_l1, e1, decide_false, ifB_false]
    refine ⟨((idxs t.Boats.toNat).map (ntK t rule), 0), ?_, ?_, by simp only [List.length_map, idxs_len]; omega⟩
    · simp only [M.spec_NetScores, c2, h0, bnd_some, bne_self_eq_false, ifB_false, l1, outc_nxt, M.spec_NetScores_a1]
    · simp only [M.impl_NetScores, M.impl_netScores, c1, h0, bnd_some, bne_self_eq_false, ifB_false, l2, outc_nxt, M.impl_netScores_a1]
  · have e : (cdT t rule 0 != 0) = true := by simpa using h0
    refine ⟨([], cdT t rule 0), ?_, ?_, by simp⟩
    · simp only [M.spec_NetScores, c2, bnd_some, e, ifB_true]
    · simp only [M.impl_NetScores, c1, bnd_some, e, ifB_true]
end Go.Proofs.Ytpobaajdhfoomaa
