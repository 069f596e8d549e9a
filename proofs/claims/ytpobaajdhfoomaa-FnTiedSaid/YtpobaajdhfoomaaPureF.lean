/- Pure laws over drawn races and series: tables, points, orders. -/
import Derived.Test.YtpobaajdhfoomaaPureD
import Derived.Test.YtpobaajdhfoomaaPureX
namespace Go.Proofs.Ytpobaajdhfoomaa
open Go
set_option linter.unusedVariables false
set_option linter.unusedSimpArgs false
theorem p_likeInts (xs : List Int) (h : xs.length ≤ 1048576) : M.laws_likeInts xs xs = some true := by
  have hl : loopF (M.laws_likeInts_l1 xs xs) 0 = some (.nxt (xs.length : Int)) := by
    refine loop_run xs.length (by omega) (fun i => (i : Int)) _ rfl (fun i hi => ?_) ?_
    · have h1 : ((i : Int) < (xs.length : Int)) := by omega
      simp only [M.laws_likeInts_l1, h1, decide_true, ifB_true, idx_lt xs i hi, bnd_some, bne_self_eq_false, ifB_false, step64 hi (by omega)]
    · simp [M.laws_likeInts_l1]
  simp only [M.laws_likeInts, hl, bnd_some, outc_nxt, M.laws_likeInts_a1, bne_self_eq_false, ifB_false]
theorem p_likeRows (xs : List (List Int)) (h : xs.length ≤ 1048576) (hr : ∀ x ∈ xs, x.length ≤ 1048576) : M.laws_likeRows xs xs = some true := by
  have hl : loopF (M.laws_likeRows_l1 xs xs) 0 = some (.nxt (xs.length : Int)) := by
    refine loop_run xs.length (by omega) (fun i => (i : Int)) _ rfl (fun i hi => ?_) ?_
    · have h1 : ((i : Int) < (xs.length : Int)) := by omega
      simp only [M.laws_likeRows_l1, h1, decide_true, ifB_true, idx_lt xs i hi, bnd_some, p_likeInts _ (hr _ (List.getElem_mem hi)), Bool.not_true, ifB_false, step64 hi (by omega)]
    · simp [M.laws_likeRows_l1]
  simp only [M.laws_likeRows, hl, bnd_some, outc_nxt, M.laws_likeRows_a1, bne_self_eq_false, ifB_false]
theorem pts_bd (xs : List Finish) (s : Int) (f : Finish) (h : xs.length ≤ 16) : 0 ≤ pts xs s f ∧ pts xs s f ≤ 10000 := by
  have h1 := pl_bd xs f.Time
  have h2 := sh_bd xs f.Time
  have h3 : dnc xs ≤ xs.length := List.countP_le_length
  unfold pts
  split
  · omega
  · split
    · omega
    · split <;> omega
theorem okRow_map (xs : List Finish) (g : Finish → Int) (n m : Int) (hn : (xs.length : Int) = n) (h : ∀ f ∈ xs, 0 ≤ g f ∧ g f ≤ m) : OkRow (xs.map g) n m := by
  refine ⟨by simpa using hn, fun j hj => ?_⟩
  have hj' : j < xs.length := by simpa using hj
  unfold badN
  simp only [List.getElem?_map, List.getElem?_eq_getElem hj', Option.map_some]
  simpa using h _ (List.getElem_mem hj')
theorem isTable_tbl (a : Series) (hs : IsSeries a) : IsTable (tbl a) := by
  refine ⟨hs.1, by simpa [tbl] using hs.2.2.1, by simp [tbl], fun i hi => ?_⟩
  have hi' : i < a.Races.length := by simpa [tbl] using hi
  have hr := hs.2.2.2 i hi'
  have hb := hs.1.2
  have hlen := hr.1
  unfold badT
  simp only [tbl, List.getElem?_map, List.getElem?_eq_getElem hi', Option.map_some]
  have r1 : OkRow (tblP a a.Races[i]) a.Boats 10000 := okRow_map _ _ _ _ hlen (fun f _ => pts_bd _ _ f (by omega))
  have r2 : OkRow (tblC a.Races[i]) a.Boats 9 := okRow_map _ _ _ _ hlen (fun f hf => by
    obtain ⟨j, hj, rfl⟩ := List.mem_iff_getElem.1 hf
    exact (fin_ok _ _ hr j hj).1)
  simp [r1, r2]
end Go.Proofs.Ytpobaajdhfoomaa
