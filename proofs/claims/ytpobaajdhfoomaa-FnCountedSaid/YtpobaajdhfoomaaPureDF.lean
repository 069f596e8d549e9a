/- Pure laws over drawn tables: discards, and counted points. -/
import Derived.Test.YtpobaajdhfoomaaPureDz
namespace Go.Proofs.Ytpobaajdhfoomaa
open Go
set_option linter.unusedVariables false
set_option linter.unusedSimpArgs false
theorem p_DiscardsOf2 (t : Table) (rule : List Int) (b : Int) (h : szT t ≤ 1048576) (hr : rule.length ≤ 1048576) :
    M.spec_DiscardsOf t rule b = some (if cdT t rule b = 0 then (inD t (dsK t rule b), 0) else ([], cdT t rule b)) ∧ M.impl_DiscardsOf t rule b = some (if cdT t rule b = 0 then (inD t (dsK t rule b), 0) else ([], cdT t rule b)) := by
  obtain ⟨c1, c2⟩ := p_tableCode t rule b h hr
  by_cases h0 : cdT t rule b = 0
  · obtain ⟨ht, hru, b0, b1⟩ := cdT_zero t rule b h0
    rw [if_pos h0]
    refine ⟨?_, ?_⟩
    · simp only [M.spec_DiscardsOf, c2, h0, bnd_some, bne_self_eq_false, ifB_false, p_l27Out t rule b ht b0 b1 (rule_le rule hru), p_specDiscards t _ ht.2.1, outc_nxt, M.spec_DiscardsOf_a1]
    · simp only [M.impl_DiscardsOf, c1, h0, bnd_some, bne_self_eq_false, ifB_false, p_discardsOf t rule b ht b0 b1 (rule_le rule hru)]
  · have e : (cdT t rule b != 0) = true := by simpa using h0
    rw [if_neg h0]
    refine ⟨?_, ?_⟩
    · simp only [M.spec_DiscardsOf, c2, bnd_some, e, ifB_true]
    · simp only [M.impl_DiscardsOf, c1, bnd_some, e, ifB_true]
theorem p_NetPoints2 (t : Table) (rule : List Int) (b : Int) (h : szT t ≤ 1048576) (hr : rule.length ≤ 1048576) (h0 : cdT t rule b = 0) : M.impl_NetPoints t rule b = some (ntK t rule b, 0) := by
  obtain ⟨c1, c2⟩ := p_tableCode t rule b h hr
  obtain ⟨ht, hru, b0, b1⟩ := cdT_zero t rule b h0
  obtain ⟨n1, n2⟩ := p_net t rule b ht b0 b1 (rule_le rule hru)
  simp only [M.impl_NetPoints, c1, h0, bnd_some, bne_self_eq_false, ifB_false, n1]
theorem p_CountedPoints2 (t : Table) (rule : List Int) (b : Int) (h : szT t ≤ 1048576) (hr : rule.length ≤ 1048576) (h0 : cdT t rule b = 0) : M.impl_CountedPoints t rule b = some (ctK t rule b, 0) := by
  obtain ⟨c1, c2⟩ := p_tableCode t rule b h hr
  obtain ⟨ht, hru, b0, b1⟩ := cdT_zero t rule b h0
  simp only [M.impl_CountedPoints, c1, h0, bnd_some, bne_self_eq_false, ifB_false, p_implCounted t rule b ht b0 b1 (rule_le rule hru)]
theorem p_NetScores2 (t : Table) (rule : List Int) (h : szT t ≤ 1048576) (hr : rule.length ≤ 1048576) :
    ∃ r, M.spec_NetScores t rule = some r ∧ M.impl_NetScores t rule = some r ∧ r.1.length ≤ 1048576 ∧ (r.2 = 0 → cdT t rule 0 = 0 ∧ r.1 = (idxs t.Boats.toNat).map (ntK t rule)) := by
  obtain ⟨r, h1, h2, h3⟩ := p_NetScores t rule h hr
  refine ⟨r, h1, h2, h3, fun hr0 => ?_⟩
  obtain ⟨c1, c2⟩ := p_tableCode t rule 0 h hr
  by_cases h0 : cdT t rule 0 = 0
  · obtain ⟨ht, hru, _, _⟩ := cdT_zero t rule 0 h0
    have hb := ht.1
    have hnet : ∀ i, i < t.Boats.toNat → M.impl_netPoints t rule (i : Int) = some (ntK t rule (i : Int)) := fun i hi => (p_net t rule i ht (by omega) (by omega) (rule_le rule hru)).1
    have hs : ∀ i : Nat, (idxs (i + 1)).map (ntK t rule) = (idxs i).map (ntK t rule) ++ [ntK t rule (i : Int)] := fun i => by rw [idxs_succ, List.map_append]; rfl
    have l2 : loopF (M.impl_netScores_l1 t rule) (([] : List Int), 0) = some (.nxt ((idxs t.Boats.toNat).map (ntK t rule), ((t.Boats.toNat : Nat) : Int))) := by
      refine loop_run t.Boats.toNat (by omega) (fun i => ((idxs i).map (ntK t rule), (i : Int))) _ rfl (fun i hi => ?_) ?_
      · have e1 : ((i : Int) < t.Boats) := by omega
        simp only [M.impl_netScores_l1, e1, decide_true, ifB_true, hnet i hi, bnd_some, List.length_singleton, chk_pos (show ((idxs i).map (ntK t rule)).length + 1 < 1099511627776 by rw [List.length_map, idxs_len]; omega), step64 hi (by omega), hs]
      · have e1 : ¬ (((t.Boats.toNat : Nat) : Int) < t.Boats) := by omega
        simp only [M.impl_netScores_l1, e1, decide_false, ifB_false]
    have h4 : M.impl_NetScores t rule = some ((idxs t.Boats.toNat).map (ntK t rule), 0) := by
      simp only [M.impl_NetScores, M.impl_netScores, c1, h0, bnd_some, bne_self_eq_false, ifB_false, l2, outc_nxt, M.impl_netScores_a1]
    rw [h2] at h4
    injection h4 with h4
    subst h4
    exact ⟨h0, rfl⟩
  · have e : (cdT t rule 0 != 0) = true := by simpa using h0
    have h4 : M.impl_NetScores t rule = some ([], cdT t rule 0) := by
      simp only [M.impl_NetScores, c1, bnd_some, e, ifB_true]
    rw [h2] at h4
    injection h4 with h4
    subst h4
    exact absurd hr0 h0
theorem sum_bd : ∀ xs : List Int, (∀ x ∈ xs, 0 ≤ x ∧ x ≤ 10000) → 0 ≤ xs.sum ∧ xs.sum ≤ 10000 * (xs.length : Int)
  | [], _ => by simp
  | x :: xs, h => by
    have h1 := h x List.mem_cons_self
    have h2 := sum_bd xs fun y hy => h y (List.mem_cons_of_mem _ hy)
    simp only [List.sum_cons, List.length_cons]
    push_cast
    omega
theorem sum_take (xs : List Int) (i : Nat) (hi : i < xs.length) : (xs.take (i + 1)).sum = (xs.take i).sum + xs[i] := by
  rw [List.take_succ_eq_append_getElem hi, List.sum_append]
  simp only [List.sum_cons, List.sum_nil, Int.add_zero]
theorem p_sum (xs : List Int) (h : xs.length ≤ 1000) (hb : ∀ x ∈ xs, 0 ≤ x ∧ x ≤ 10000) : M.spec_l27Sum xs = some xs.sum := by
  have hl : loopF (M.spec_l27Sum_l1 xs) (0, 0) = some (.nxt (xs.sum, (xs.length : Int))) := by
    have e0 : (xs.sum, (xs.length : Int)) = ((xs.take xs.length).sum, (xs.length : Int)) := by rw [List.take_length]
    rw [e0]
    refine loop_run xs.length (by omega) (fun i => ((xs.take i).sum, (i : Int))) _ (by simp) (fun i hi => ?_) (by simp [M.spec_l27Sum_l1])
    have h1 : ((i : Int) < (xs.length : Int)) := by omega
    have hbd := sum_bd (xs.take i) fun y hy => hb y (List.mem_of_mem_take hy)
    have hx := hb _ (List.getElem_mem hi)
    rw [List.length_take] at hbd
    simp only [M.spec_l27Sum_l1, h1, decide_true, ifB_true, idx_lt xs i hi, bnd_some, step64 hi (by omega), sum_take xs i hi]
    rw [w64_of (by omega)]
  rw [M.spec_l27Sum, hl]
  rfl
theorem pt_bd {t : Table} (ht : IsTable t) {b : Int} (b0 : 0 ≤ b) (b1 : b < t.Boats) {k : Int} (hk : k ∈ idxs t.Points.length) : 0 ≤ ptK t b k ∧ ptK t b k ≤ 10000 := by
  obtain ⟨⟨r, _, _, h1, h2⟩, _⟩ := tab_get t ht b b0 b1 k hk
  exact ⟨h1, h2⟩
theorem ctK_bd {t : Table} (ht : IsTable t) (rule : List Int) {b : Int} (b0 : 0 ≤ b) (b1 : b < t.Boats) : ∀ x ∈ ctK t rule b, 0 ≤ x ∧ x ≤ 10000 := by
  intro x hx
  unfold ctK at hx
  obtain ⟨k, hk, rfl⟩ := List.mem_map.1 hx
  exact pt_bd ht b0 b1 (List.mem_filter.1 hk).1
theorem ntK_sum {t : Table} (ht : IsTable t) (rule : List Int) {b : Int} (b0 : 0 ≤ b) (b1 : b < t.Boats) : ntK t rule b = (ctK t rule b).sum := by
  have h1 := ctK_len t rule b
  have h2 := ht.2.1
  unfold ntK
  rw [p_sum _ (by omega) (ctK_bd ht rule b0 b1)]
  rfl
theorem sum_parts (f : Int → Int) (p : Int → Bool) : ∀ xs : List Int, (xs.map f).sum = ((xs.filter p).map f).sum + ((xs.filter fun x => !p x).map f).sum
  | [] => by simp
  | x :: xs => by
    have ih := sum_parts f p xs
    by_cases h : p x = true
    · simp [h, ih, Int.add_assoc]
    · simp only [Bool.not_eq_true] at h
      simp only [List.map_cons, List.sum_cons, List.filter_cons, h, Bool.false_eq_true, if_false, Bool.not_false, if_true, ih]
      omega
theorem p_hasD (l : List Int) (b : Int) (h : l.length ≤ 1048576) : M.laws_hasInt l b = some (decide (b ∈ l)) := by
  by_cases hb : b ∈ l
  · rw [p_hasInt l b h hb, decide_eq_true hb]
  · have hl : loopF (M.laws_hasInt_l1 l b) 0 = some (.nxt (l.length : Int)) := by
      refine loop_run l.length (by omega) (fun i => (i : Int)) _ rfl (fun i hi => ?_) (by simp [M.laws_hasInt_l1])
      have h1 : ((i : Int) < (l.length : Int)) := by omega
      have hne : (l[i] == b) = false := by
        have : l[i] ≠ b := fun he => hb (he ▸ List.getElem_mem hi)
        simpa using this
      simp only [M.laws_hasInt_l1, h1, decide_true, ifB_true, idx_lt l i hi, bnd_some, step64 hi (by omega), hne, ifB_false]
    rw [M.laws_hasInt, hl, decide_eq_false hb]
    rfl
theorem inD_mem (t : Table) (D : List Int) (k : Int) : k ∈ inD t D ↔ k ∈ idxs t.Points.length ∧ k ∈ D := by
  unfold inD
  rw [List.mem_filter]
  simp
theorem ds_top {t : Table} (ht : IsTable t) {rule : List Int} {b : Int} (b0 : 0 ≤ b) (b1 : b < t.Boats) {i w : Int} (hi : i ∈ idxs t.Points.length) (hc : cdK t b i ≠ 7) (hn : i ∉ dsK t rule b) (hw : w ∈ dsK t rule b) : ptK t b i ≤ ptK t b w := by
  have hnd : i ∈ ndL t b := (ndL_mem t b i).2 ⟨hi, by unfold ndK; simpa using hc⟩
  have hs := ndL_sorted t ht b b0 b1
  unfold dsK at hn hw
  generalize cntK rule (t.Points.length : Int) = m at *
  rw [← List.take_append_drop m (ndL t b)] at hs hnd
  rcases List.mem_append.1 hnd with h | h
  · exact absurd h hn
  · have := (List.pairwise_append.1 hs).2.2 w hw i h
    unfold RK at this
    omega
theorem p_discCount (rule : List Int) (n : Int) (h : rule.length ≤ 1048576) : M.impl_DiscardCount rule n = some (if IsRule3 rule ∧ (0 ≤ n ∧ n ≤ 12) then ((cntK rule n : Nat) : Int) else -1) ∧ M.spec_DiscardCount rule n = some (if IsRule3 rule ∧ (0 ≤ n ∧ n ≤ 12) then ((cntK rule n : Nat) : Int) else -1) := by
  simp only [M.impl_DiscardCount, M.spec_DiscardCount, M.impl_DiscardCount_j1, M.spec_DiscardCount_j1, p_implIsDiscardRule rule h, p_specIsDiscardRule rule h, e_count, p_l01In, p_within, p_count rule n h, bnd_some, ifB_if]
  by_cases h1 : IsRule3 rule
  · by_cases h2 : 0 ≤ n ∧ n ≤ 12 <;> simp [h1, h2]
  · simp [h1]
theorem cntK_mono (rule : List Int) (n : Int) : cntK rule n ≤ cntK rule (n + 1) := by
  unfold cntK
  exact List.countP_mono_left fun x _ h => by simp at h ⊢; omega
theorem isRule3_nil : IsRule3 [] := ⟨by simp, fun i hi => by simp at hi⟩
theorem pure_FnDiscards (c : List UInt8) (hc : OkD.ok c) : M.laws_FnDiscards c = some true := by
  rw [M.laws_FnDiscards, p_big, bnd_some, ifB_if]
  by_cases hl : 4096 < (c.length : Int)
  · simp [hl]
  · rw [if_neg (by simpa using hl)]
    obtain ⟨q, hq, hq1, hq2⟩ := p_27Draw c (by omega)
    obtain ⟨t, rule, b⟩ := q
    simp only at hq1 hq2
    have hr : rule.length ≤ 1048576 := by omega
    have hD : M.spec_DrawDiscardsOf c = some (t, rule, b) := by rw [M.spec_DrawDiscardsOf, hq]; rfl
    obtain ⟨d1, d2⟩ := p_DiscardsOf2 t rule b hq1 hr
    simp only [hD, bnd_some, d1, d2, bne_self_eq_false, ifB_false]
    by_cases h0 : cdT t rule b = 0
    · obtain ⟨ht, hru, b0, b1⟩ := cdT_zero t rule b h0
      have hn := ht.2.1
      have hil := inD_len t (dsK t rule b)
      have h00 : cdT t [] b = 0 := by unfold cdT; rw [if_pos ht, if_pos ⟨isRule3_nil, b0, by omega⟩]
      simp only [h0, if_true, p_likeInts _ (show (inD t (dsK t rule b)).length ≤ 1048576 by omega), bnd_some, Bool.not_true, M.laws_FnDiscards_j1, ifB_false, bne_self_eq_false, p_NetPoints2 t rule b hq1 hr h0, (e_total t b).2, p_NetPoints2 t [] b hq1 (by simp) h00]
      have hmem : ∀ i : Nat, i < t.Points.length → (((i : Int)) ∈ inD t (dsK t rule b) ↔ (i : Int) ∈ dsK t rule b) := fun i hi => by
        rw [inD_mem]; exact ⟨fun h => h.2, fun h => ⟨(idxs_mem _ _).2 ⟨i, hi, rfl⟩, h⟩⟩
      have hrowbd : ∀ i : Nat, i ≤ t.Points.length → 0 ≤ (((idxs i).filter fun k => decide (k ∈ dsK t rule b)).map (ptK t b)).sum ∧ (((idxs i).filter fun k => decide (k ∈ dsK t rule b)).map (ptK t b)).sum ≤ 120000 := fun i hi => by
        have h1 := sum_bd (((idxs i).filter fun k => decide (k ∈ dsK t rule b)).map (ptK t b)) (fun x hx => by
          obtain ⟨k, hk, rfl⟩ := List.mem_map.1 hx
          obtain ⟨j, hj, rfl⟩ := (idxs_mem _ _).1 (List.mem_filter.1 hk).1
          exact pt_bd ht b0 b1 ((idxs_mem _ _).2 ⟨j, by omega, rfl⟩))
        have h2 := filt_len (fun k => decide (k ∈ dsK t rule b)) i
        rw [List.length_map] at h1
        omega
      have htot := sum_bd (ctK t [] b) (ctK_bd ht [] b0 b1)
      have htl := ctK_len t [] b
      have hnt := ntK_sum ht [] b0 b1
      have hloop : loopF (M.laws_FnDiscards_l1 (t, rule, b) (inD t (dsK t rule b), 0)) (ntK t [] b, 0) = some (.nxt (ntK t [] b - (((idxs t.Points.length).filter fun k => decide (k ∈ dsK t rule b)).map (ptK t b)).sum, (t.Points.length : Int))) := by
        refine loop_run t.Points.length (by omega) (fun i => (ntK t [] b - (((idxs i).filter fun k => decide (k ∈ dsK t rule b)).map (ptK t b)).sum, (i : Int))) _ (by simp [idxs]) (fun i hi => ?_) (by simp [M.laws_FnDiscards_l1])
        have g1 : (i : Int) < (t.Points.length : Int) := by omega
        have hik : (i : Int) ∈ idxs t.Points.length := (idxs_mem _ _).2 ⟨i, hi, rfl⟩
        obtain ⟨⟨r1, p1, p2, p3, p4⟩, r2, p5, p6⟩ := tab_get t ht b b0 b1 (i : Int) hik
        have hb1 := hrowbd i (by omega)
        have hs := filt_succ (fun k => decide (k ∈ dsK t rule b)) i
        simp only [M.laws_FnDiscards_l1, M.laws_FnDiscards_j4, M.laws_FnDiscards_j3, g1, decide_true, ifB_true, p_hasD _ _ (show (inD t (dsK t rule b)).length ≤ 1048576 by omega), bnd_some, step64 hi (by omega), ifB_if, if_true]
        by_cases hd : (i : Int) ∈ dsK t rule b
        · rw [if_pos (decide_eq_true ((hmem i hi).2 hd)), p1, bnd_some, p2, bnd_some, hs]
          rw [w64_of (by omega)]
          simp only [decide_eq_true hd, if_true, List.map_append, List.map_cons, List.map_nil, List.sum_append, List.sum_cons, List.sum_nil]
          congr 3
          omega
        · rw [if_neg (by rw [decide_eq_true_eq, hmem i hi]; exact hd), hs]
          have hin : loopF (M.laws_FnDiscards_l2 (t, rule, b) (inD t (dsK t rule b), 0) (ntK t [] b - (((idxs i).filter fun k => decide (k ∈ dsK t rule b)).map (ptK t b)).sum, (i : Int))) 0 = some (.nxt ((inD t (dsK t rule b)).length : Int)) := by
            refine loop_run (inD t (dsK t rule b)).length (by omega) (fun j => (j : Int)) _ rfl (fun j hj => ?_) (by simp [M.laws_FnDiscards_l2])
            have g2 : (j : Int) < ((inD t (dsK t rule b)).length : Int) := by omega
            have hw := (inD_mem t (dsK t rule b) _).1 (List.getElem_mem hj)
            obtain ⟨⟨r3, p7, p8, _, _⟩, _⟩ := tab_get t ht b b0 b1 _ hw.1
            simp only [M.laws_FnDiscards_l2, M.laws_FnDiscards_j5, g2, decide_true, ifB_true, p5, p6, bnd_some, idx_lt _ j hj, p1, p2, p7, p8, step64 hj (by omega)]
            by_cases hcd : cdK t b (i : Int) = 7
            · simp [hcd]
            · have hle := ds_top ht b0 b1 hik hcd hd hw.2
              have e1 : (cdK t b (i : Int) != 7) = true := by simp [hcd]
              have e2 : decide (ptK t b (inD t (dsK t rule b))[j] < ptK t b (i : Int)) = false := decide_eq_false (by omega)
              simp only [e1, e2, ifB_true, ifB_false]
          simp only [hin, bnd_some, outc_nxt, M.laws_FnDiscards_a2, M.laws_FnDiscards_j4, M.laws_FnDiscards_j3, step64 hi (by omega : t.Points.length < 4611686018427387904), decide_eq_false hd, Bool.false_eq_true, if_false, List.append_nil]
      rw [hloop]
      have hpart := sum_parts (ptK t b) (fun k => decide (k ∈ dsK t rule b)) (idxs t.Points.length)
      have hall : ntK t [] b = ((idxs t.Points.length).map (ptK t b)).sum := by
        rw [hnt]
        unfold ctK dsK cntK
        simp only [List.countP_nil, List.take_zero, List.not_mem_nil, decide_false, Bool.not_false]
        rw [List.filter_eq_self.2 (fun _ _ => rfl)]
      have hnet : ntK t rule b = (((idxs t.Points.length).filter fun x => !decide (x ∈ dsK t rule b)).map (ptK t b)).sum := by rw [ntK_sum ht rule b0 b1]; rfl
      have e3 : (ntK t [] b - (((idxs t.Points.length).filter fun k => decide (k ∈ dsK t rule b)).map (ptK t b)).sum == ntK t rule b) = true := by
        rw [beq_iff_eq, hall, hnet]; omega
      have hle : (inD t (dsK t rule b)).length ≤ cntK rule (t.Points.length : Int) := by
        have h1 : (inD t (dsK t rule b)).length ≤ (dsK t rule b).length := by
          have hp : (inD t (dsK t rule b)).Perm (srtI (dsK t rule b)) := by unfold dsK; rw [sort_ds]
          rw [hp.length_eq, srtI_len]; exact Nat.le_refl _
        have h2 : (dsK t rule b).length ≤ cntK rule (t.Points.length : Int) := by unfold dsK; rw [List.length_take]; omega
        omega
      simp only [bnd_some, outc_nxt, M.laws_FnDiscards_a1, M.laws_FnDiscards_j2, e3, ifB_true, (p_discCount rule (t.Points.length : Int) hr).1, if_pos (show IsRule3 rule ∧ (0 ≤ (t.Points.length : Int) ∧ (t.Points.length : Int) ≤ 12) from ⟨hru, by omega, by omega⟩)]
      rw [show ((0 : Int) == 0) = true from rfl, ifB_true, ifB_true, decide_eq_true (by omega)]
    · have e : (cdT t rule b != 0) = true := by simpa using h0
      simp only [if_neg h0, p_likeInts [] (by simp), bnd_some, Bool.not_true, M.laws_FnDiscards_j1, ifB_false, e, ifB_true]
theorem pure_FnCounted (c : List UInt8) (hc : OkD.ok c) : M.laws_FnCounted c = some true := by
  rw [M.laws_FnCounted, p_big, bnd_some, ifB_if]
  by_cases hl : 4096 < (c.length : Int)
  · simp [hl]
  · rw [if_neg (by simpa using hl)]
    obtain ⟨q, hq, hq1, hq2⟩ := p_27Draw c (by omega)
    obtain ⟨t, rule, b⟩ := q
    simp only at hq1 hq2
    have hr : rule.length ≤ 1048576 := by omega
    have hD : M.spec_DrawNetScores c = some (t, rule) := by rw [M.spec_DrawNetScores, hq]; rfl
    obtain ⟨r, d1, d2, d3, d4⟩ := p_NetScores2 t rule hq1 hr
    obtain ⟨⟨l, n⟩, hdc, hl1, hn1⟩ := p_DrawDiscCount c (by omega)
    simp only at hl1 hn1
    have hll : l.length ≤ 1048576 := by omega
    have fin : M.laws_FnCounted_j2 r (t, rule) false = some true := by
      simp only [M.laws_FnCounted_j2, ifB_false]
      rw [ifB_if]
      by_cases h0 : r.2 = 0
      · rw [if_neg (by simp [h0])]
        obtain ⟨hz, hr1⟩ := d4 h0
        obtain ⟨ht, hru, _, _⟩ := cdT_zero t rule 0 hz
        have hb := ht.1
        have hn := ht.2.1
        have hloop : loopF (M.laws_FnCounted_l1 r (t, rule)) 0 = some (.nxt ((t.Boats.toNat : Nat) : Int)) := by
          refine loop_run t.Boats.toNat (by omega) (fun i => (i : Int)) _ rfl (fun i hi => ?_) ?_
          · have g1 : (i : Int) < t.Boats := by omega
            have hzi : cdT t rule (i : Int) = 0 := by unfold cdT; rw [if_pos ht, if_pos ⟨hru, by omega, by omega⟩]
            have hcl := ctK_len t rule (i : Int)
            have hbd := ctK_bd ht rule (b := (i : Int)) (by omega) g1
            have hin : loopF (M.laws_FnCounted_l2 (ctK t rule (i : Int), 0)) (0, 0) = some (.nxt ((ctK t rule (i : Int)).sum, ((ctK t rule (i : Int)).length : Int))) := by
              have e0 : ((ctK t rule (i : Int)).sum, ((ctK t rule (i : Int)).length : Int)) = (((ctK t rule (i : Int)).take (ctK t rule (i : Int)).length).sum, ((ctK t rule (i : Int)).length : Int)) := by rw [List.take_length]
              rw [e0]
              generalize ctK t rule (i : Int) = xs at *
              refine loop_run xs.length (by omega) (fun j => ((xs.take j).sum, (j : Int))) _ (by simp) (fun j hj => ?_) (by simp [M.laws_FnCounted_l2])
              have h1 : ((j : Int) < (xs.length : Int)) := by omega
              have hbd2 := sum_bd (xs.take j) fun y hy => hbd y (List.mem_of_mem_take hy)
              have hx := hbd _ (List.getElem_mem hj)
              rw [List.length_take] at hbd2
              simp only [M.laws_FnCounted_l2, h1, decide_true, ifB_true, idx_lt xs j hj, bnd_some, step64 hj (by omega), sum_take xs j hj]
              rw [w64_of (by omega)]
            have hnt := ntK_sum ht rule (b := (i : Int)) (by omega) g1
            have hri : idx r.1 (i : Int) = some (ntK t rule (i : Int)) := by
              have hlt : i < ((idxs t.Boats.toNat).map (ntK t rule)).length := by rw [List.length_map, idxs_len]; exact hi
              rw [hr1, idx_lt _ i hlt]
              simp [idxs]
            simp only [M.laws_FnCounted_l1, g1, decide_true, ifB_true, p_CountedPoints2 t rule (i : Int) hq1 hr hzi, bnd_some, hin, outc_nxt, M.laws_FnCounted_a2, M.laws_FnCounted_j3, show ((0 : Int) != 0) = false from rfl, ifB_false, hri, hnt, bne_self_eq_false, step64 hi (by omega)]
          · have g1 : ¬ (((t.Boats.toNat : Nat) : Int) < t.Boats) := by omega
            simp only [M.laws_FnCounted_l1, g1, decide_false, ifB_false]
        rw [hloop]
        rfl
      · rw [if_pos (by simp [h0])]
    simp only [hD, bnd_some, d1, d2, bne_self_eq_false, ifB_false, p_likeInts _ d3, Bool.not_true, M.laws_FnCounted_j1, hdc, (p_discCount l n hll).1, (p_discCount l n hll).2]
    by_cases hh : IsRule3 l ∧ (0 ≤ n ∧ n ≤ 12)
    · rw [if_pos hh, decide_eq_true (p := (0 : Int) ≤ ((cntK l n : Nat) : Int)) (by omega), ifB_true]
      by_cases h12 : n < 12
      · rw [decide_eq_true h12, ifB_true, w64_of (n := n + 1) (by omega), (p_discCount l (n + 1) hll).1, bnd_some, if_pos ⟨hh.1, by omega, by omega⟩, decide_eq_false (by have := cntK_mono l n; omega)]
        exact fin
      · rw [decide_eq_false h12, ifB_false]
        exact fin
    · rw [if_neg hh, show decide ((0 : Int) ≤ -1) = false from rfl, ifB_false]
      exact fin
end Go.Proofs.Ytpobaajdhfoomaa
