/- Texts: races, curves. -/
import Derived.Test.YthkcfjlmblfipaaDoorPureTx
import Derived.Test.YthkcfjlmblfipaaDoorPureX
import Derived.Test.YthkcfjlmblfipaaDoorPureW
namespace Go.Proofs.YthkcfjlmblfipaaDoor
open Go
set_option linter.unusedVariables false
set_option linter.unusedSimpArgs false
theorem bts_data (x : ByteArray) : bts x.data.toList = x := by apply ByteArray.ext; simp [bts]
theorem bts_app (x y : List UInt8) : bts (x ++ y) = bts x ++ bts y := (ByteArray.mk_append_mk x y).symm
theorem joinB_nil (sep : ByteArray) : joinB [] sep = (⟨#[]⟩ : ByteArray) := rfl
theorem joinB_one (x sep : ByteArray) : joinB [x] sep = x := by
  unfold joinB
  rw [List.map_cons, List.map_nil, Lib.join_one, bts_data]
theorem joinB_snoc (xs : List ByteArray) (y sep : ByteArray) (h : xs ≠ []) : joinB (xs ++ [y]) sep = (joinB xs sep ++ sep) ++ y := by
  cases xs with
  | nil => exact absurd rfl h
  | cons x r =>
    unfold joinB
    simp only [List.cons_append, List.map_cons, List.map_append, List.map_nil, Lib.join_cons]
    have e : Lib.joinTail sep.data.toList (List.map (fun x => x.data.toList) r ++ [y.data.toList]) = Lib.joinTail sep.data.toList (List.map (fun x => x.data.toList) r) ++ (sep.data.toList ++ y.data.toList) := by simp [Lib.joinTail]
    rw [e]
    simp only [bts_app, bts_data, ByteArray.append_assoc]
theorem eq_sz : (⟨#[61]⟩ : ByteArray).size = 1 := rfl
theorem joinB_step (W : List ByteArray) (i : Nat) (hi : i < W.length) : joinB (W.take (i + 1)) (⟨#[32]⟩ : ByteArray) = (if 0 < i then joinB (W.take i) (⟨#[32]⟩ : ByteArray) ++ (⟨#[32]⟩ : ByteArray) else joinB (W.take i) (⟨#[32]⟩ : ByteArray)) ++ W[i] := by
  rw [List.take_succ_eq_append_getElem hi]
  by_cases h : 0 < i
  · rw [if_pos h, joinB_snoc _ _ _ (fun hn => by have h3 := congrArg List.length hn; rw [List.length_take, List.length_nil] at h3; omega)]
  · have h0 : i = 0 := by omega
    subst h0
    rw [if_neg (by omega), List.take_zero, List.nil_append, joinB_one, joinB_nil]
    exact (ByteArray.empty_append).symm
theorem joinB_le (W : List ByteArray) (hW : ∀ w ∈ W, w.size ≤ 62) : ∀ i, i ≤ W.length → (joinB (W.take i) (⟨#[32]⟩ : ByteArray)).size ≤ 63 * i
  | 0, _ => by rw [List.take_zero, joinB_nil]; exact Nat.le_refl _
  | i + 1, hi => by
    have h1 := joinB_le W hW i (by omega)
    have h2 := hW W[i] (List.getElem_mem (by omega))
    rw [joinB_step W i (by omega), ByteArray.size_append]
    split
    · rw [ByteArray.size_append, sp_sz]; omega
    · omega
theorem join_ok (W : List ByteArray) (hW : ∀ w ∈ W, w.size ≤ 62) (hl : W.length ≤ 1000) : M.strings_Join W (⟨#[32]⟩ : ByteArray) = some (joinB W (⟨#[32]⟩ : ByteArray)) := by
  have h := joinB_le W hW W.length (Nat.le_refl _)
  rw [List.take_length] at h
  unfold M.strings_Join
  rw [chk_pos ⟨by omega, by omega⟩]
def nmB (c : Int) : ByteArray := ([(⟨#[70, 73, 78]⟩ : ByteArray), (⟨#[68, 78, 67]⟩ : ByteArray), (⟨#[68, 78, 83]⟩ : ByteArray), (⟨#[79, 67, 83]⟩ : ByteArray), (⟨#[68, 78, 70]⟩ : ByteArray), (⟨#[82, 69, 84]⟩ : ByteArray), (⟨#[68, 83, 81]⟩ : ByteArray), (⟨#[68, 78, 69]⟩ : ByteArray), (⟨#[66, 70, 68]⟩ : ByteArray), (⟨#[82, 68, 71]⟩ : ByteArray)] : List ByteArray).getD c.toNat ByteArray.empty
theorem nm_idx (c : Int) (h0 : 0 ≤ c) (h1 : c ≤ 9) : idx ([(⟨#[70, 73, 78]⟩ : ByteArray), (⟨#[68, 78, 67]⟩ : ByteArray), (⟨#[68, 78, 83]⟩ : ByteArray), (⟨#[79, 67, 83]⟩ : ByteArray), (⟨#[68, 78, 70]⟩ : ByteArray), (⟨#[82, 69, 84]⟩ : ByteArray), (⟨#[68, 83, 81]⟩ : ByteArray), (⟨#[68, 78, 69]⟩ : ByteArray), (⟨#[66, 70, 68]⟩ : ByteArray), (⟨#[82, 68, 71]⟩ : ByteArray)] : List ByteArray) c = some (nmB c) ∧ (nmB c).size = 3 := by
  have : c = 0 ∨ c = 1 ∨ c = 2 ∨ c = 3 ∨ c = 4 ∨ c = 5 ∨ c = 6 ∨ c = 7 ∨ c = 8 ∨ c = 9 := by omega
  rcases this with rfl | rfl | rfl | rfl | rfl | rfl | rfl | rfl | rfl | rfl <;> exact ⟨rfl, rfl⟩
theorem p_CodeText (c : Int) (h0 : 0 ≤ c) (h1 : c ≤ 9) : M.impl_CodeText c = some (nmB c) := by
  simp only [M.impl_CodeText, p_within, bnd_some, decide_eq_true (show 0 ≤ c ∧ c ≤ 9 from ⟨h0, h1⟩), Bool.not_true, ifB_false, (nm_idx c h0 h1).1]
def wdR (f : Finish) : ByteArray := if f.Code = 0 then nmB f.Code ++ ((⟨#[61]⟩ : ByteArray) ++ numB f.Time) else nmB f.Code
theorem wdR_sz (f : Finish) (h : FinOk f) : (wdR f).size ≤ 62 := by
  have h1 := (nm_idx f.Code h.1.1 h.1.2).2
  unfold wdR
  split
  · rename_i hc
    have ht := h.2.1 hc
    have := numB_size f.Time (by omega) (by omega)
    simp only [ByteArray.size_append, eq_sz]
    omega
  · omega
def rtB (n : Int) (r : Race) : ByteArray := if (1 ≤ n ∧ n ≤ 16) ∧ OkRace n r.Finishes then joinB (r.Finishes.map wdR) (⟨#[32]⟩ : ByteArray) else (⟨#[]⟩ : ByteArray)
theorem p_RaceText (n : Int) (r : Race) (h : r.Finishes.length ≤ 1048576) : M.spec_RaceText n r = some (rtB n r) ∧ M.impl_RaceText n r = some (rtB n r) := by
  simp only [M.spec_RaceText, M.impl_RaceText, p_specIsRace n r h, p_implIsRace n r h, bnd_some, rtB]
  by_cases hv : (1 ≤ n ∧ n ≤ 16) ∧ OkRace n r.Finishes
  · simp only [decide_eq_true hv, Bool.not_true, ifB_false, if_pos hv]
    obtain ⟨fs⟩ := r
    simp only at hv h ⊢
    have hlen := hv.2.1
    have hf := fun i hi => fin_ok n fs hv.2 i hi
    have hW : ∀ w ∈ fs.map wdR, w.size ≤ 62 := fun w hw => by
      obtain ⟨f, hfm, rfl⟩ := List.mem_map.1 hw
      obtain ⟨i, hi, rfl⟩ := List.mem_iff_getElem.1 hfm
      exact wdR_sz _ (hf i hi)
    have hWl : (fs.map wdR).length = fs.length := List.length_map ..
    have eT : joinB (fs.map wdR) (⟨#[32]⟩ : ByteArray) = joinB ((fs.map wdR).take fs.length) (⟨#[32]⟩ : ByteArray) := by rw [← hWl, List.take_length]
    have ls : loopF (M.spec_RaceText_l1 ⟨fs⟩) ((⟨#[]⟩ : ByteArray), 0) = some (.nxt (joinB (fs.map wdR) (⟨#[32]⟩ : ByteArray), (fs.length : Int))) := by
      rw [eT]
      refine loop_run fs.length (by omega) (fun i => (joinB ((fs.map wdR).take i) (⟨#[32]⟩ : ByteArray), (i : Int))) _ rfl (fun i hi => ?_) (by simp [M.spec_RaceText_l1])
      have g1 : (i : Int) < (fs.length : Int) := by omega
      have q1 := hf i hi
      have q2 := nm_idx fs[i].Code q1.1.1 q1.1.2
      have q3 := joinB_le (fs.map wdR) hW i (by omega)
      have q4 := joinB_step (fs.map wdR) i (by omega)
      rw [List.getElem_map] at q4
      have fin : ∀ s : ByteArray, s.size ≤ 2000 → M.spec_RaceText_j3 ⟨fs⟩ (joinB ((fs.map wdR).take i) (⟨#[32]⟩ : ByteArray), (i : Int)) s = some (.cont (s ++ wdR fs[i], ((i + 1 : Nat) : Int))) := fun s hs => by
        simp only [M.spec_RaceText_j3, M.spec_l26Words, M.spec_l26Done, idx_lt fs i hi, bnd_some, q2.1]
        rw [chk_pos (by omega)]
        by_cases hc : fs[i].Code = 0
        · have ht := q1.2.1 hc
          have := numB_size fs[i].Time (by omega) (by omega)
          have e1 : (fs[i].Code == 0) = true := by simpa using hc
          simp only [e1, ifB_true, p_number fs[i].Time (by omega) (by omega), bnd_some, M.spec_RaceText_j2, M.spec_RaceText_j1, step64 hi (by omega)]
          repeat rw [chk_pos (by first | omega | (simp only [ByteArray.size_append, eq_sz]; omega))]
          simp only [wdR, if_pos hc, ByteArray.append_assoc]
        · have e1 : (fs[i].Code == 0) = false := by simpa using hc
          simp only [e1, ifB_false, M.spec_RaceText_j2, M.spec_RaceText_j1, step64 hi (by omega), wdR, if_neg hc]
      simp only [M.spec_RaceText_l1, g1, decide_true, ifB_true, q4]
      by_cases hi0 : 0 < i
      · rw [decide_eq_true (show (0 : Int) < (i : Int) by omega), ifB_true, chk_pos (by rw [sp_sz]; omega), if_pos hi0]
        exact fin _ (by rw [ByteArray.size_append, sp_sz]; omega)
      · rw [decide_eq_false (show ¬ (0 : Int) < (i : Int) by omega), ifB_false, if_neg hi0]
        exact fin _ (by omega)
    have li : loopF (M.impl_RaceText_l1 ⟨fs⟩) (([] : List ByteArray), 0) = some (.nxt (fs.map wdR, (fs.length : Int))) := by
      have e0 : fs.map wdR = (fs.map wdR).take fs.length := by rw [← hWl, List.take_length]
      rw [e0]
      refine loop_run fs.length (by omega) (fun i => ((fs.map wdR).take i, (i : Int))) _ rfl (fun i hi => ?_) (by simp [M.impl_RaceText_l1])
      have g1 : (i : Int) < (fs.length : Int) := by omega
      have q1 := hf i hi
      have q2 := nm_idx fs[i].Code q1.1.1 q1.1.2
      have q5 : (fs.map wdR).take (i + 1) = (fs.map wdR).take i ++ [wdR fs[i]] := by rw [List.take_succ_eq_append_getElem (by omega), List.getElem_map]
      simp only [M.impl_RaceText_l1, g1, decide_true, ifB_true, idx_lt fs i hi, bnd_some, p_CodeText _ q1.1.1 q1.1.2, q5]
      by_cases hc : fs[i].Code = 0
      · have ht := q1.2.1 hc
        have := numB_size fs[i].Time (by omega) (by omega)
        have e1 : (fs[i].Code == 0) = true := by simpa using hc
        simp only [e1, ifB_true, p_text fs[i].Time (by omega) (by omega), bnd_some, M.impl_RaceText_j1, step64 hi (by omega)]
        rw [chk_pos (by rw [eq_sz]; omega), chk_pos (by rw [ByteArray.size_append, eq_sz]; omega), chk_pos (by simp; omega)]
        simp only [wdR, if_pos hc]
      · have e1 : (fs[i].Code == 0) = false := by simpa using hc
        simp only [e1, ifB_false, M.impl_RaceText_j1, step64 hi (by omega)]
        rw [chk_pos (by simp; omega)]
        simp only [wdR, if_neg hc]
    simp only [ls, li, bnd_some, outc_nxt, M.spec_RaceText_a1, M.impl_RaceText_a1, join_ok _ hW (by omega), and_self]
  · simp only [decide_eq_false hv, Bool.not_false, ifB_true, if_neg hv, and_self]
end Go.Proofs.YthkcfjlmblfipaaDoor
