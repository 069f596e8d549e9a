/- Pure law: the boats that are tied: the reference, and both together. -/
import Derived.Test.YtpobaajdhfoomaaPureTi
namespace Go.Proofs.Ytpobaajdhfoomaa
open Go
set_option linter.unusedVariables false
set_option linter.unusedSimpArgs false
def RQ (ν : Int → Int) (a b : Int) : Prop := QS ν b a
theorem ins_pw (ν : Int → Int) (ra : List Int) (x : Int) (h : ra.Pairwise (RQ ν)) (hx : ∀ a ∈ ra, a < x) : (insB (fun a b => decide (ν a - ν b < 0)) ra x).Pairwise (RQ ν) := by
  have hsplit := List.takeWhile_append_dropWhile (p := fun b => decide (ν x - ν b < 0)) (l := ra)
  have hp := h
  rw [← hsplit] at hp
  obtain ⟨p1, p2, p3⟩ := List.pairwise_append.1 hp
  have htw : ∀ a ∈ ra.takeWhile (fun b => decide (ν x - ν b < 0)), ν x < ν a := fun a ha => by
    obtain ⟨k, hk, rfl⟩ := List.getElem_of_mem ha
    have hk2 : k < ra.length := Nat.lt_of_lt_of_le hk (tw_le _ ra)
    have g := tw_get (fun b => decide (ν x - ν b < 0)) ra k hk2 hk
    have e : (ra.takeWhile (fun b => decide (ν x - ν b < 0)))[k] = ra[k] := by
      have := (tw_take (fun b => decide (ν x - ν b < 0)) ra).1
      have e1 : (ra.takeWhile (fun b => decide (ν x - ν b < 0)))[k]? = (ra.take (ra.takeWhile (fun b => decide (ν x - ν b < 0))).length)[k]? := by rw [← this]
      rw [List.getElem?_eq_getElem hk, List.getElem?_take_of_lt hk, List.getElem?_eq_getElem hk2] at e1
      exact Option.some.inj e1
    rw [e]
    have := of_decide_eq_true g
    omega
  have hdw : ∀ a ∈ ra.dropWhile (fun b => decide (ν x - ν b < 0)), RQ ν x a := fun a ha => by
    have hm : a < x := hx a (by rw [← hsplit]; exact List.mem_append_right _ ha)
    cases hd : ra.dropWhile (fun b => decide (ν x - ν b < 0)) with
    | nil => rw [hd] at ha; cases ha
    | cons d ds =>
      have hlt : (ra.takeWhile (fun b => decide (ν x - ν b < 0))).length < ra.length := by
        have := congrArg List.length hsplit
        rw [List.length_append, hd, List.length_cons] at this
        omega
      have g := tw_end (fun b => decide (ν x - ν b < 0)) ra hlt
      have e : ra[(ra.takeWhile (fun b => decide (ν x - ν b < 0))).length] = d := by
        have e2 := (tw_take (fun b => decide (ν x - ν b < 0)) ra).2
        rw [hd] at e2
        have e3 := congrArg (fun l => l[0]?) e2
        simp only [List.getElem?_cons_zero, List.getElem?_drop, Nat.add_zero] at e3
        rw [List.getElem?_eq_getElem hlt] at e3
        exact (Option.some.inj e3).symm
      rw [e] at g
      have g2 : ν d ≤ ν x := by have := of_decide_eq_false g; omega
      have g3 : ν a ≤ ν d := by
        rw [hd] at ha p2
        rcases List.mem_cons.1 ha with rfl | ha
        · exact Int.le_refl _
        · have := (List.pairwise_cons.1 p2).1 a ha
          unfold RQ QS at this; omega
      unfold RQ QS
      omega
  unfold insB
  refine List.pairwise_append.2 ⟨p1, List.pairwise_cons.2 ⟨hdw, p2⟩, fun a ha b hb => ?_⟩
  rcases List.mem_cons.1 hb with rfl | hb
  · have := htw a ha
    unfold RQ QS; omega
  · exact p3 a ha b hb
theorem fold_pw (ν : Int → Int) : ∀ (xs ra : List Int), ra.Pairwise (RQ ν) → xs.Pairwise (· < ·) → (∀ a ∈ ra, ∀ x ∈ xs, a < x) → (xs.foldl (insB (fun a b => decide (ν a - ν b < 0))) ra).Pairwise (RQ ν)
  | [], ra, h, _, _ => h
  | x :: xs, ra, h, hx, hb => by
    obtain ⟨h1, h2⟩ := List.pairwise_cons.1 hx
    refine fold_pw ν xs _ (ins_pw ν ra x h fun a ha => hb a ha x (by simp)) h2 fun a ha y hy => ?_
    rcases List.mem_cons.1 ((insB_perm _ ra x).mem_iff.1 ha) with rfl | ha
    · exact h1 y hy
    · exact hb a ha y (by simp [hy])
def sgB (ν : Int → Int) (n : Nat) : List Int := (srtB (fun a b => decide (ν a - ν b < 0)) (idxs n)).reverse
theorem sgB_pw (ν : Int → Int) (n : Nat) : (sgB ν n).Pairwise (QS ν) := by
  unfold sgB
  rw [List.pairwise_reverse]
  exact fold_pw ν (idxs n) [] List.Pairwise.nil (idxs_asc n) (fun a ha => by cases ha)
theorem sgB_perm (ν : Int → Int) (n : Nat) : (sgB ν n).Perm (idxs n) := (List.reverse_perm _).trans (srtB_perm _ _)
theorem ins_map (ν : Int → Int) (ra : List Int) (x : Int) : insB (fun a b : Int => decide (a < b)) (ra.map ν) (ν x) = (insB (fun a b => decide (ν a - ν b < 0)) ra x).map ν := by
  have e : ((fun a b : Int => decide (a < b)) (ν x) ∘ ν) = ((fun a b => decide (ν a - ν b < 0)) x) := by
    funext b
    simp only [Function.comp]
    rw [decide_eq_decide]; omega
  unfold insB
  rw [List.map_append, List.map_cons, List.takeWhile_map, List.dropWhile_map, e]
theorem fold_map (ν : Int → Int) : ∀ (xs ra : List Int), (xs.map ν).foldl (insB (fun a b : Int => decide (a < b))) (ra.map ν) = (xs.foldl (insB (fun a b => decide (ν a - ν b < 0))) ra).map ν
  | [], ra => rfl
  | x :: xs, ra => by rw [List.map_cons, List.foldl_cons, List.foldl_cons, ins_map, fold_map ν xs]
theorem srt_map (ν : Int → Int) (n : Nat) : srtI ((idxs n).map ν) = (sgB ν n).map ν := by
  unfold srtI sgB srtB
  rw [List.map_reverse]
  congr 1
  exact fold_map ν (idxs n) []
theorem run_idx (ν : Int → Int) (n : Nat) (v : Int) : runF ν (sgB ν n) v = runF ν (idxs n) v := by
  refine List.Perm.eq_of_pairwise (le := fun a b : Int => a < b) (fun a b _ _ h1 h2 => by omega) ?_ ((idxs_asc n).sublist List.filter_sublist) ((sgB_perm ν n).filter _)
  have h := List.Pairwise.filter (fun a => decide (ν a = v)) (sgB_pw ν n)
  unfold runF
  refine List.Pairwise.imp_of_mem (fun {a b} ha hb hq => ?_) h
  have h1 := of_decide_eq_true (List.mem_filter.1 ha).2
  have h2 := of_decide_eq_true (List.mem_filter.1 hb).2
  unfold QS at hq
  omega
def tieS (ν : Int → Int) (n : Nat) (q : List Int) : List (List Int) := ((ddL q).map (runF ν (idxs n))).filter fun r => decide (1 < (r.length : Int))
theorem tie_inner (ν : Int → Int) (t : Table) (c : Int) (q : List Int) (s : List (List Int) × Int) (hb : 0 ≤ t.Boats ∧ t.Boats ≤ 16) (v : Int) (hv : idx q s.2 = some v) :
    loopF (M.spec_TiedBoats_l2 t ((idxs t.Boats.toNat).map ν, c) q s) ([], 0) = some (.nxt (runF ν (idxs t.Boats.toNat) v, t.Boats)) := by
  have hBn : ((t.Boats.toNat : Nat) : Int) = t.Boats := by omega
  refine (loop_run (body := M.spec_TiedBoats_l2 t ((idxs t.Boats.toNat).map ν, c) q s) t.Boats.toNat (by omega) (fun k => (runF ν (idxs k) v, (k : Int))) _ rfl (fun k hk => ?_) ?_)
  · have e1 : (k : Int) < t.Boats := by omega
    have e2 : idx ((idxs t.Boats.toNat).map ν) (k : Int) = some (ν k) := by
      rw [idx_lt _ k (by rw [List.length_map, idxs_len]; exact hk)]
      simp [idxs]
    have hrl : (runF ν (idxs k) v).length ≤ 16 := by
      have := List.length_filter_le (fun a => decide (ν a = v)) (idxs k)
      rw [idxs_len] at this
      unfold runF; omega
    simp only [M.spec_TiedBoats_l2, e1, decide_true, ifB_true, e2, hv, bnd_some, M.spec_TiedBoats_j5, M.spec_TiedBoats_j4, step64 hk (by omega)]
    rw [chk_pos (by simp only [List.length_singleton]; omega), idxs_succ, runF_snoc]
    by_cases h : ν (k : Int) = v
    · rw [if_pos h, show (ν (k : Int) == v) = true by simpa using h]; rfl
    · rw [if_neg h, List.append_nil, show (ν (k : Int) == v) = false by simpa using h]; rfl
  · have e1 : ¬ ((t.Boats.toNat : Nat) : Int) < t.Boats := by omega
    simp only [M.spec_TiedBoats_l2, hBn, Int.lt_irrefl, decide_false, ifB_false]
theorem tie_spec (ν : Int → Int) (t : Table) (c : Int) (q : List Int) (hb : 0 ≤ t.Boats ∧ t.Boats ≤ 16) (hq : q.length ≤ 16) :
    loopF (M.spec_TiedBoats_l1 t ((idxs t.Boats.toNat).map ν, c) q) ([], 0) = some (.nxt (tieS ν t.Boats.toNat q, (q.length : Int))) := by
  refine (loop_run (body := M.spec_TiedBoats_l1 t ((idxs t.Boats.toNat).map ν, c) q) q.length (by omega) (fun k => (tieS ν t.Boats.toNat (q.take k), (k : Int))) _ rfl (fun k hk => ?_) ?_)
  · have e1 : (k : Int) < (q.length : Int) := by omega
    have ht : q.take (k + 1) = q.take k ++ [q[k]] := List.take_succ_eq_append_getElem hk
    have hlen : (tieS ν t.Boats.toNat (q.take k)).length ≤ 16 := by
      have g1 := List.length_filter_le (fun r : List Int => decide (1 < (r.length : Int))) ((ddL (q.take k)).map (runF ν (idxs t.Boats.toNat)))
      have g2 := ddL_len (q.take k)
      simp only [List.length_map, List.length_take] at g1 g2
      unfold tieS; omega
    have add : (q.take k).getLast? ≠ some q[k] → M.spec_TiedBoats_j3 t ((idxs t.Boats.toNat).map ν, c) q (tieS ν t.Boats.toNat (q.take k), (k : Int)) false = some (.cont (tieS ν t.Boats.toNat (q.take (k + 1)), ((k + 1 : Nat) : Int))) := fun hu => by
      have hsn : tieS ν t.Boats.toNat (q.take (k + 1)) = tieS ν t.Boats.toNat (q.take k) ++ (if 1 < ((runF ν (idxs t.Boats.toNat) q[k]).length : Int) then [runF ν (idxs t.Boats.toNat) q[k]] else []) := by
        unfold tieS
        rw [ht, ddL_snoc, ddS, ddL_last, if_neg hu, List.map_append, List.filter_append]
        congr 1
        by_cases h : 1 < ((runF ν (idxs t.Boats.toNat) q[k]).length : Int)
        · rw [if_pos h]; simp [h]
        · rw [if_neg h]; simp [h]
      simp only [M.spec_TiedBoats_j3, ifB_false, tie_inner ν t c q (tieS ν t.Boats.toNat (q.take k), (k : Int)) hb q[k] (idx_lt q k hk), bnd_some, outc_nxt, M.spec_TiedBoats_a2, M.spec_TiedBoats_j2, M.spec_TiedBoats_j1, step64 hk (by omega)]
      rw [chk_pos (by simp only [List.length_singleton]; omega), hsn]
      by_cases h : 1 < ((runF ν (idxs t.Boats.toNat) q[k]).length : Int)
      · rw [if_pos h, decide_eq_true h]; rfl
      · rw [if_neg h, decide_eq_false h, List.append_nil]; rfl
    simp only [M.spec_TiedBoats_l1, e1, decide_true, ifB_true]
    cases k with
    | zero =>
      simp only [Int.natCast_zero, Int.lt_irrefl, decide_false, ifB_false]
      exact add (by simp)
    | succ k =>
      have e2 : (0 : Int) < ((k + 1 : Nat) : Int) := by omega
      have e3 : w64 (((k + 1 : Nat) : Int) - 1) = (k : Int) := by rw [w64_of (by omega)]; omega
      have hlast : (q.take (k + 1)).getLast? = some q[k] := by rw [List.take_succ_eq_append_getElem (show k < q.length by omega), List.getLast?_append]; simp
      simp only [e2, decide_true, ifB_true, e3, idx_lt q k (by omega), idx_lt q (k + 1) hk, bnd_some]
      by_cases h : q[k] = q[k + 1]
      · rw [show (q[k] == q[k + 1]) = true by simpa using h]
        simp only [M.spec_TiedBoats_j3, ifB_true, M.spec_TiedBoats_j2, M.spec_TiedBoats_j1, step64 hk (by omega)]
        have : ddL (q.take (k + 1 + 1)) = ddL (q.take (k + 1)) := by rw [ht, ddL_snoc, ddS, ddL_last, if_pos (by rw [hlast, h])]
        unfold tieS
        rw [this]
      · rw [show (q[k] == q[k + 1]) = false by simpa using h]
        exact add (by rw [hlast]; simpa using h)
  · simp only [M.spec_TiedBoats_l1, List.take_length, Int.lt_irrefl, decide_false, ifB_false]
theorem p_NetScoresB (t : Table) (rule : List Int) (h : szT t ≤ 1048576) (hr : rule.length ≤ 1048576) :
    ∃ r, M.spec_NetScores t rule = some r ∧ M.impl_NetScores t rule = some r ∧ r.1.length ≤ 1048576 ∧ (r.2 = 0 → cdT t rule 0 = 0 ∧ r.1 = (idxs t.Boats.toNat).map (ntK t rule)) := by
  obtain ⟨r, h1, h2, h3⟩ := p_NetScores t rule h hr
  refine ⟨r, h1, h2, h3, fun hr0 => ?_⟩
  obtain ⟨c1, c2⟩ := p_tableCode t rule 0 h hr
  by_cases h0 : cdT t rule 0 = 0
  · obtain ⟨ht, hru, _, _⟩ := cdT_zero t rule 0 h0
    have hb := ht.1
    have hnet : ∀ i, i < t.Boats.toNat → M.impl_netPoints t rule (i : Int) = some (ntK t rule (i : Int)) := fun i hi => (p_net t rule i ht (by omega) (by omega) (rule_le rule hru)).1
    have hs : ∀ i : Nat, (idxs (i + 1)).map (ntK t rule) = (idxs i).map (ntK t rule) ++ [ntK t rule (i : Int)] := fun i => by rw [idxs_succ, List.map_append]; rfl
    have l2 : loopF (M.impl_netScores_l1 t rule) (([] : List Int), 0) = some (.nxt ((idxs t.Boats.toNat).map (ntK t rule), ((t.Boats.toNat : Nat) : Int))) := by
      refine loop_run t.Boats.toNat (by omega) (fun i => ((idxs i).map (ntK t rule), (i : Int))) _ rfl (fun i hi => ?_) ?_
      · have e1 : ((i : Int) < t.Boats) := by omega
        simp only [M.impl_netScores_l1, e1, decide_true, ifB_true, hnet i hi, bnd_some, List.length_singleton, chk_pos (show ((idxs i).map (ntK t rule)).length + 1 < 1099511627776 by rw [List.length_map, idxs_len]; omega), step64 hi (by omega), hs]
      · have e1 : ¬ (((t.Boats.toNat : Nat) : Int) < t.Boats) := by omega
        simp only [M.impl_netScores_l1, e1, decide_false, ifB_false]
    have h4 : M.impl_NetScores t rule = some ((idxs t.Boats.toNat).map (ntK t rule), 0) := by
      simp only [M.impl_NetScores, M.impl_netScores, c1, h0, bnd_some, bne_self_eq_false, ifB_false, l2, outc_nxt, M.impl_netScores_a1]
    rw [h2] at h4
    injection h4 with h4
    subst h4
    exact ⟨h0, rfl⟩
  · have e : (cdT t rule 0 != 0) = true := by simpa using h0
    have h4 : M.impl_NetScores t rule = some ([], cdT t rule 0) := by
      simp only [M.impl_NetScores, c1, bnd_some, e, ifB_true]
    rw [h2] at h4
    injection h4 with h4
    subst h4
    exact absurd hr0 h0
def tieT (t : Table) (rule : List Int) : List (List Int) := tieS (ntK t rule) t.Boats.toNat ((sgB (ntK t rule) t.Boats.toNat).map (ntK t rule))
theorem p_TiedBoats (t : Table) (rule : List Int) (h : szT t ≤ 1048576) (hr : rule.length ≤ 1048576) :
    ∃ r, M.spec_TiedBoats t rule = some r ∧ M.impl_TiedBoats t rule = some r ∧ ((r.1 = [] ∧ r.2 ≠ 0) ∨ (r.2 = 0 ∧ cdT t rule 0 = 0 ∧ r.1 = tieT t rule ∧ M.impl_NetScores t rule = some ((idxs t.Boats.toNat).map (ntK t rule), 0))) := by
  obtain ⟨⟨net, c⟩, n1, n2, n3, n4⟩ := p_NetScoresB t rule h hr
  simp only at n3 n4
  by_cases hc : c = 0
  · subst hc
    obtain ⟨h0, rfl⟩ := n4 rfl
    obtain ⟨ht, hru, _, _⟩ := cdT_zero t rule 0 h0
    have hb := ht.1
    have hlen : ((idxs t.Boats.toNat).map (ntK t rule)).length = t.Boats.toNat := by rw [List.length_map, idxs_len]
    have hbd : ∀ a ∈ idxs t.Boats.toNat, 0 ≤ ntK t rule a ∧ ntK t rule a ≤ 120000 := fun a ha => by
      obtain ⟨i, hi, rfl⟩ := (idxs_mem _ _).1 ha
      exact ntK_bd t rule i ht (by omega) (by omega)
    have hidx : ∀ a ∈ idxs t.Boats.toNat, idx ((idxs t.Boats.toNat).map (ntK t rule)) a = some (ntK t rule a) := fun a ha => by
      obtain ⟨i, hi, rfl⟩ := (idxs_mem _ _).1 ha
      rw [idx_lt _ i (by omega)]
      simp [idxs]
    have hso := p_sortedIndices t.Boats.toNat (by omega) (fun y0 y1 => M.impl_TiedBoats_1 y0 y1 ((idxs t.Boats.toNat).map (ntK t rule))) (fun a b => ntK t rule a - ntK t rule b) (fun a ha b hb' => by
      have g1 := hbd a ha
      have g2 := hbd b hb'
      simp only [M.impl_TiedBoats_1, hidx a ha, hidx b hb', bnd_some]
      rw [w64_of (by omega)])
    have hsl : (sgB (ntK t rule) t.Boats.toNat).length = t.Boats.toNat := by rw [(sgB_perm _ _).length_eq, idxs_len]
    have hloop := tie_loop (ntK t rule) ((idxs t.Boats.toNat).map (ntK t rule)) (sgB (ntK t rule) t.Boats.toNat) 0 (by omega) (sgB_pw _ _) (fun a ha => hidx a ((sgB_perm _ _).mem_iff.1 ha))
    have hspec := tie_spec (ntK t rule) t 0 ((sgB (ntK t rule) t.Boats.toNat).map (ntK t rule)) (by omega) (by rw [List.length_map]; omega)
    have hgl : 0 < (grp (ntK t rule) (sgB (ntK t rule) t.Boats.toNat)).length := by
      unfold grp
      rw [List.length_map]
      cases hd : ddL ((sgB (ntK t rule) t.Boats.toNat).map (ntK t rule)) with
      | nil =>
        have := ddL_last ((sgB (ntK t rule) t.Boats.toNat).map (ntK t rule))
        rw [hd] at this
        have e := List.getLast?_eq_none_iff.1 this.symm
        have := congrArg List.length e
        rw [List.length_map, hsl, List.length_nil] at this
        omega
      | cons x l => simp
    have hout : (grp (ntK t rule) (sgB (ntK t rule) t.Boats.toNat)).filter (fun r : List Int => !decide ((r.length : Int) < 2)) = tieT t rule := by
      unfold grp tieT tieS
      have e1 : (ddL ((sgB (ntK t rule) t.Boats.toNat).map (ntK t rule))).map (runF (ntK t rule) (sgB (ntK t rule) t.Boats.toNat)) = (ddL ((sgB (ntK t rule) t.Boats.toNat).map (ntK t rule))).map (runF (ntK t rule) (idxs t.Boats.toNat)) := List.map_congr_left fun v _ => run_idx _ _ v
      rw [e1]
      apply List.filter_congr
      intro r _
      by_cases h2 : (r.length : Int) < 2
      · rw [decide_eq_true h2, decide_eq_false (by omega)]; rfl
      · rw [decide_eq_false h2, decide_eq_true (by omega)]; rfl
    refine ⟨(tieT t rule, 0), ?_, ?_, .inr ⟨rfl, h0, rfl, n2⟩⟩
    · rw [M.spec_TiedBoats, n1, bnd_some]
      simp only [bne_self_eq_false, ifB_false]
      rw [p_l28Sorted _ (by rw [hlen]; omega), bnd_some, srt_map, hspec]
      rfl
    · rw [M.impl_TiedBoats, n2, bnd_some]
      simp only [bne_self_eq_false, ifB_false, hlen]
      rw [hso, bnd_some]
      rw [show (srtB (fun a b => decide (ntK t rule a - ntK t rule b < 0)) (idxs t.Boats.toNat)).reverse = sgB (ntK t rule) t.Boats.toNat from rfl, hloop]
      simp only [bnd_some, outc_nxt, M.impl_TiedBoats_a1]
      rw [chk_pos hgl, hout]
  · have e : (c != 0) = true := by simpa using hc
    refine ⟨([], c), ?_, ?_, .inl ⟨rfl, hc⟩⟩
    · simp only [M.spec_TiedBoats, n1, bnd_some, e, ifB_true]
    · simp only [M.impl_TiedBoats, n2, bnd_some, e, ifB_true]
theorem tie_size (t : Table) (rule : List Int) (hb : 0 ≤ t.Boats ∧ t.Boats ≤ 16) : (tieT t rule).length ≤ 16 ∧ (∀ r ∈ tieT t rule, r.length ≤ 16) := by
  constructor
  · have g1 := List.length_filter_le (fun r : List Int => decide (1 < (r.length : Int))) ((ddL ((sgB (ntK t rule) t.Boats.toNat).map (ntK t rule))).map (runF (ntK t rule) (idxs t.Boats.toNat)))
    have g2 := ddL_len ((sgB (ntK t rule) t.Boats.toNat).map (ntK t rule))
    have g3 : (sgB (ntK t rule) t.Boats.toNat).length = t.Boats.toNat := by rw [(sgB_perm _ _).length_eq, idxs_len]
    simp only [List.length_map] at g1 g2
    unfold tieT tieS; omega
  · intro r hr
    have h1 := (List.mem_filter.1 hr).1
    obtain ⟨v, _, rfl⟩ := List.mem_map.1 h1
    have := List.length_filter_le (fun a => decide (ntK t rule a = v)) (idxs t.Boats.toNat)
    rw [idxs_len] at this
    unfold runF; omega
end Go.Proofs.Ytpobaajdhfoomaa
