/- Pure law: the boats that are tied. -/
import Derived.Test.YtpobaajdhfoomaaPureCB
import Derived.Test.YtpobaajdhfoomaaMod6
namespace Go.Proofs.Ytpobaajdhfoomaa
open Go
set_option linter.unusedVariables false
set_option linter.unusedSimpArgs false
theorem snoc_ind {α : Type} {P : List α → Prop} (h0 : P []) (h1 : ∀ l a, P l → P (l ++ [a])) (l : List α) : P l := by
  rw [← List.reverse_reverse l]
  generalize l.reverse = m
  induction m with
  | nil => exact h0
  | cons a m ih => rw [List.reverse_cons]; exact h1 _ _ ih
def ddS (L : List Int) (x : Int) : List Int := if L.getLast? = some x then L else L ++ [x]
def ddL (q : List Int) : List Int := q.foldl ddS []
theorem ddL_snoc (q : List Int) (x : Int) : ddL (q ++ [x]) = ddS (ddL q) x := by simp [ddL]
theorem ddL_last (q : List Int) : (ddL q).getLast? = q.getLast? := by
  refine snoc_ind (P := fun q => (ddL q).getLast? = q.getLast?) rfl (fun l a ih => ?_) q
  rw [ddL_snoc, ddS]
  split
  · rename_i h; rw [h]; simp
  · simp
theorem ddL_mem (q : List Int) : ∀ x ∈ ddL q, x ∈ q := by
  refine snoc_ind (P := fun q => ∀ x ∈ ddL q, x ∈ q) (fun x h => h) (fun l a ih x hx => ?_) q
  rw [ddL_snoc, ddS] at hx
  split at hx
  · exact List.mem_append_left _ (ih x hx)
  · rcases List.mem_append.1 hx with h | h
    · exact List.mem_append_left _ (ih x h)
    · exact List.mem_append_right _ h
theorem ddL_len (q : List Int) : (ddL q).length ≤ q.length := by
  refine snoc_ind (P := fun q => (ddL q).length ≤ q.length) (Nat.le_refl _) (fun l a ih => ?_) q
  rw [ddL_snoc, ddS, List.length_append, List.length_singleton]
  split
  · omega
  · rw [List.length_append, List.length_singleton]; omega
theorem last_le {L : List Int} {u : Int} (h : L.Pairwise (· < ·)) (hu : L.getLast? = some u) : ∀ y ∈ L, y ≤ u := by
  obtain ⟨L', rfl⟩ := List.getLast?_eq_some_iff.1 hu
  intro y hy
  rcases List.mem_append.1 hy with g | g
  · exact Int.le_of_lt ((List.pairwise_append.1 h).2.2 y g u (by simp))
  · simp at g; omega
theorem ddL_asc (q : List Int) : q.Pairwise (· ≤ ·) → (ddL q).Pairwise (· < ·) := by
  refine snoc_ind (P := fun q => q.Pairwise (· ≤ ·) → (ddL q).Pairwise (· < ·)) (fun _ => List.Pairwise.nil) (fun l a ih h => ?_) q
  obtain ⟨h1, _, h3⟩ := List.pairwise_append.1 h
  have ih := ih h1
  rw [ddL_snoc, ddS]
  split
  · exact ih
  · rename_i hn
    refine List.pairwise_append.2 ⟨ih, List.pairwise_singleton _ _, fun y hy z hz => ?_⟩
    simp only [List.mem_singleton] at hz
    subst hz
    cases hl : (ddL l).getLast? with
    | none => rw [List.getLast?_eq_none_iff] at hl; rw [hl] at hy; cases hy
    | some u =>
      have g1 := last_le ih hl y hy
      have g2 : u ∈ ddL l := by obtain ⟨L', e⟩ := List.getLast?_eq_some_iff.1 hl; rw [e]; simp
      have g3 := h3 u (ddL_mem l u g2) z (by simp)
      have g4 : u ≠ z := fun e => hn (by rw [hl, e])
      omega
def runF (ν : Int → Int) (p : List Int) (v : Int) : List Int := p.filter fun a => decide (ν a = v)
def grp (ν : Int → Int) (p : List Int) : List (List Int) := (ddL (p.map ν)).map (runF ν p)
def QS (ν : Int → Int) (a b : Int) : Prop := ν a < ν b ∨ (ν a = ν b ∧ a < b)
theorem runF_snoc (ν : Int → Int) (p : List Int) (b v : Int) : runF ν (p ++ [b]) v = runF ν p v ++ (if ν b = v then [b] else []) := by
  unfold runF
  rw [List.filter_append]
  congr 1
  by_cases h : ν b = v
  · simp [h]
  · simp [h]
theorem QS_le {ν : Int → Int} {p : List Int} (h : p.Pairwise (QS ν)) : (p.map ν).Pairwise (· ≤ ·) :=
  List.pairwise_map.2 (h.imp fun {a b} hq => by unfold QS at hq; omega)
theorem grp_eq (ν : Int → Int) (p : List Int) (b : Int) (hp : (p ++ [b]).Pairwise (QS ν)) (L0 : List Int) (hL : ddL (p.map ν) = L0 ++ [ν b]) : grp ν (p ++ [b]) = L0.map (runF ν p) ++ [runF ν p (ν b) ++ [b]] := by
  have hasc := ddL_asc _ (QS_le (List.pairwise_append.1 hp).1)
  rw [hL] at hasc
  have h2 := (List.pairwise_append.1 hasc).2.2
  unfold grp
  rw [List.map_append, List.map_singleton, ddL_snoc, ddS, hL, if_pos (by simp), List.map_append, List.map_singleton, runF_snoc, if_pos rfl]
  congr 1
  apply List.map_congr_left
  intro v hv
  have := h2 v hv (ν b) (by simp)
  rw [runF_snoc, if_neg (by omega), List.append_nil]
theorem grp_ne (ν : Int → Int) (p : List Int) (b : Int) (hp : (p ++ [b]).Pairwise (QS ν)) (hu : (p.map ν).getLast? ≠ some (ν b)) : grp ν (p ++ [b]) = grp ν p ++ [[b]] := by
  have hq := QS_le hp
  rw [List.map_append, List.map_singleton] at hq
  obtain ⟨h1, _, h3⟩ := List.pairwise_append.1 hq
  have hlt : ∀ v ∈ p.map ν, v < ν b := fun v hv => by
    have g1 := h3 v hv (ν b) (by simp)
    rcases Int.lt_or_eq_of_le g1 with g | g
    · exact g
    · exfalso
      cases hl : (p.map ν).getLast? with
      | none => rw [List.getLast?_eq_none_iff] at hl; rw [hl] at hv; cases hv
      | some u =>
        obtain ⟨L', e⟩ := List.getLast?_eq_some_iff.1 hl
        have g2 : v ≤ u := by
          rw [e] at hv h1
          rcases List.mem_append.1 hv with k | k
          · exact (List.pairwise_append.1 h1).2.2 v k u (by simp)
          · simp at k; omega
        have g3 := h3 u (by rw [e]; simp) (ν b) (by simp)
        exact hu (by rw [hl]; congr 1; omega)
  unfold grp
  rw [List.map_append, List.map_singleton, ddL_snoc, ddS, ddL_last, if_neg hu, List.map_append, List.map_singleton, runF_snoc, if_pos rfl]
  have e1 : runF ν p (ν b) = [] := by
    unfold runF
    rw [List.filter_eq_nil_iff]
    intro a ha
    have := hlt (ν a) (List.mem_map.2 ⟨a, ha, rfl⟩)
    simp; omega
  rw [e1, List.nil_append]
  congr 1
  apply List.map_congr_left
  intro v hv
  have := hlt v (ddL_mem _ v hv)
  rw [runF_snoc, if_neg (by omega), List.append_nil]
theorem tie_loop (ν : Int → Int) (net σ : List Int) (c : Int) (hl : σ.length ≤ 16) (hσ : σ.Pairwise (QS ν)) (hnet : ∀ a ∈ σ, idx net a = some (ν a)) : loopF (M.impl_TiedBoats_l1 (net, c) σ) ([], 0) = some (.nxt (grp ν σ, (σ.length : Int))) := by
  refine loop_run (body := M.impl_TiedBoats_l1 (net, c) σ) σ.length (by omega) (fun k => (grp ν (σ.take k), (k : Int))) _ rfl (fun k hk => ?_) ?_
  · have e1 : (k : Int) < (σ.length : Int) := by omega
    have ht : σ.take (k + 1) = σ.take k ++ [σ[k]] := List.take_succ_eq_append_getElem hk
    have hsub : ∀ a ∈ σ.take k, a ∈ σ := fun a ha => List.mem_of_mem_take ha
    have hpw : (σ.take k ++ [σ[k]]).Pairwise (QS ν) := by rw [← ht]; exact hσ.sublist (List.take_sublist _ _)
    have hgl : (grp ν (σ.take k)).length ≤ 16 := by
      have g := ddL_len ((σ.take k).map ν)
      simp only [List.length_map, List.length_take] at g
      simp only [grp, List.length_map]; omega
    have no : (((σ.take k).map ν).getLast? ≠ some (ν σ[k])) → M.impl_TiedBoats_j3 (grp ν (σ.take k), (k : Int)) σ[k] false = some (.cont (grp ν (σ.take (k + 1)), ((k + 1 : Nat) : Int))) := fun hu => by
      simp only [M.impl_TiedBoats_j3, ifB_false, M.impl_TiedBoats_j2, M.impl_TiedBoats_j1, step64 hk (by omega)]
      rw [chk_pos (by simp only [List.length_singleton]; omega), ht, grp_ne ν _ _ hpw hu]
    simp only [M.impl_TiedBoats_l1, e1, decide_true, ifB_true, idx_lt σ k hk, bnd_some]
    cases hgu : ((σ.take k).map ν).getLast? with
    | none =>
      have hnil : (σ.take k).map ν = [] := List.getLast?_eq_none_iff.1 hgu
      have hg : grp ν (σ.take k) = [] := by unfold grp; rw [hnil]; rfl
      have e2 : ¬ (0 : Int) < ((grp ν (σ.take k)).length : Int) := by rw [hg]; simp
      rw [decide_eq_false e2, ifB_false]
      exact no (by rw [hgu]; simp)
    | some u =>
      obtain ⟨L0, hL⟩ := List.getLast?_eq_some_iff.1 ((ddL_last _).trans hgu)
      have hg : grp ν (σ.take k) = L0.map (runF ν (σ.take k)) ++ [runF ν (σ.take k) u] := by unfold grp; rw [hL, List.map_append, List.map_singleton]
      have hglen : (grp ν (σ.take k)).length = L0.length + 1 := by rw [hg]; simp
      have e2 : (0 : Int) < ((grp ν (σ.take k)).length : Int) := by omega
      have e3 : w64 (((grp ν (σ.take k)).length : Int) - 1) = ((L0.length : Nat) : Int) := by rw [w64_of (by omega)]; omega
      have e4 : idx (grp ν (σ.take k)) ((L0.length : Nat) : Int) = some (runF ν (σ.take k) u) := by
        rw [idx_lt _ _ (by omega)]
        congr 1
        simp [hg]
      obtain ⟨a, ha, hau⟩ : ∃ a ∈ σ.take k, ν a = u := by
        obtain ⟨L', e⟩ := List.getLast?_eq_some_iff.1 hgu
        have : u ∈ (σ.take k).map ν := by rw [e]; simp
        obtain ⟨a, h1, h2⟩ := List.mem_map.1 this
        exact ⟨a, h1, h2⟩
      have har : a ∈ runF ν (σ.take k) u := List.mem_filter.2 ⟨ha, by simpa using hau⟩
      obtain ⟨d, ds, hd⟩ : ∃ d ds, runF ν (σ.take k) u = d :: ds := by
        cases hr : runF ν (σ.take k) u with
        | nil => rw [hr] at har; cases har
        | cons d ds => exact ⟨d, ds, rfl⟩
      have hdm : d ∈ runF ν (σ.take k) u := by rw [hd]; simp
      obtain ⟨d1, d2⟩ := List.mem_filter.1 hdm
      have d3 : ν d = u := by simpa using d2
      have e5 : idx (runF ν (σ.take k) u) 0 = some d := by rw [hd]; rfl
      have e6 := hnet d (hsub d d1)
      have e7 := hnet σ[k] (List.getElem_mem hk)
      rw [d3] at e6
      rw [decide_eq_true e2, ifB_true]
      simp only [e3, e4, bnd_some, e5, e6, e7]
      by_cases hu : u = ν σ[k]
      · have eb : (u == ν σ[k]) = true := by simpa using hu
        have hrl : (runF ν (σ.take k) u).length ≤ 16 := by
          have := List.length_filter_le (fun a => decide (ν a = u)) (σ.take k)
          simp only [List.length_take] at this
          unfold runF; omega
        rw [eb]
        simp only [M.impl_TiedBoats_j3, ifB_true, e3, e4, bnd_some, M.impl_TiedBoats_j2, M.impl_TiedBoats_j1, step64 hk (by omega), Int.toNat_natCast]
        rw [chk_pos (by simp only [List.length_singleton]; omega), ht, grp_eq ν _ _ hpw L0 (by rw [hL, hu]), hg, ← hu]
        congr 2
        simp only [Prod.mk.injEq, and_true]
        rw [List.set_append_right _ _ (by simp)]
        simp
      · have eb : (u == ν σ[k]) = false := by simpa using hu
        rw [eb]
        exact no (by rw [hgu]; simpa using hu)
  · simp only [M.impl_TiedBoats_l1, List.take_length, Int.lt_irrefl, decide_false, ifB_false]
end Go.Proofs.Ytpobaajdhfoomaa
