/- Pure laws: the table of a series. -/
import Derived.Test.YtmmkkcmliofknaaGreatDoorPureU
namespace Go.Proofs.YtmmkkcmliofknaaGreatDoor
open Go
set_option linter.unusedVariables false
set_option linter.unusedSimpArgs false
theorem zLZ {β : Type} (n : β → Nat) (c : Nat) : ∀ (xs : List β), (∀ x ∈ xs, n x ≤ c) → tot n xs ≤ c * xs.length
  | [], _ => by simp [tot]
  | x :: xs, h => by
    have h1 := zLZ n c xs (fun y hy => h y (List.mem_cons_of_mem _ hy))
    have h2 := h x List.mem_cons_self
    simp only [tot, List.map_cons, List.sum_cons, List.length_cons] at *
    rw [Nat.mul_add]
    omega
theorem zSN {α β : Type} (g : α → β) (n : β → Nat) (xs : List α) : tot n (xs.map g) = tot (fun x => n (g x)) xs := by
  simp [tot, Function.comp_def]
def zCo (a : Series) (r : Race) : List Int := r.Finishes.map (pts r.Finishes a.Scheme)
def zJn (r : Race) : List Int := r.Finishes.map Finish.Code
def tbl (a : Series) : Table := ⟨a.Boats, a.Races.map (zCo a), a.Races.map zJn⟩
theorem zNJ (a : Series) (h : zBM a) : szS a ≤ 204 := by
  have h1 : tot (fun x : Race => x.Finishes.length) a.Races ≤ 16 * a.Races.length := zLZ _ 16 _ fun x hx => by
    obtain ⟨i, hi, rfl⟩ := List.mem_iff_getElem.1 hx
    have h3 := (h.2.2.2 i hi).1
    have h4 := h.1.2
    omega
  have h2 := h.2.2.1
  unfold szS
  omega
theorem zLA (a : Series) (h : szS a ≤ 1048576) : zJi a = some (if zBM a then (tbl a, 0) else (⟨0, [], []⟩, 1)) := by
  rw [zJi, zJl a h, zAr, zBm]
  by_cases hs : zBM a
  · rw [if_pos hs, if_neg (by simp [hs])]
    unfold szS at h
    have hr := zLb (fun x : Race => x.Finishes.length) a.Races 1048576 (by omega)
    have hl : zAO (zG7 a) ([], [], 0) = some (.nxt (a.Races.map (zCo a), a.Races.map zJn, (a.Races.length : Int))) := by
      refine zBy a.Races.length (by omega) (fun i => ((a.Races.map (zCo a)).take i, (a.Races.map zJn).take i, (i : Int))) _ rfl (fun i hi => ?_) ?_
      · have h2 : ((i : Int) < (a.Races.length : Int)) := by omega
        have hri := hr _ (List.getElem_mem hi)
        have hl2 : zAO (zG6 a.Races[i]) (([] : List Int), 0) = some (.nxt (zJn a.Races[i], (a.Races[i].Finishes.length : Int))) := by
          refine zBy a.Races[i].Finishes.length (by omega) (fun j => ((a.Races[i].Finishes.map Finish.Code).take j, (j : Int))) _ rfl (fun j hj => ?_) ?_
          · have h3 : ((j : Int) < (a.Races[i].Finishes.length : Int)) := by omega
            have hlt : ((a.Races[i].Finishes.map Finish.Code).take j).length + 1 < 1099511627776 := by simp; omega
            simp only [zG6, h3, decide_true, zAy, zBs _ j hj, zAr, zBB hj (by omega), List.length_singleton, zBf hlt, zHk Finish.Code _ j hj]
          · have : (a.Races[i].Finishes.map Finish.Code).take a.Races[i].Finishes.length = a.Races[i].Finishes.map Finish.Code := by rw [List.take_of_length_le (by simp)]
            simp [zG6, this, zJn]
        have hlt1 : ((a.Races.map (zCo a)).take i).length + 1 < 1099511627776 := by simp; omega
        have hlt2 : ((a.Races.map zJn).take i).length + 1 < 1099511627776 := by simp; omega
        simp only [zG7, zG5, h2, decide_true, zAy, zBs _ i hi, zAr, hl2, zBx, zOa _ a.Scheme hs.2.1 hri, zBB hi (by omega), List.length_singleton, zBf hlt1, zBf hlt2, zHk (zCo a) _ i hi, zHk zJn _ i hi]
        rfl
      · have e1 : (a.Races.map (zCo a)).take a.Races.length = a.Races.map (zCo a) := by rw [List.take_of_length_le (by simp)]
        have e2 : (a.Races.map zJn).take a.Races.length = a.Races.map zJn := by rw [List.take_of_length_le (by simp)]
        simp [zG7, e1, e2]
    rw [zDs, hl]; rfl
  · rw [if_neg hs, if_pos (by simp [hs])]
theorem zNu (a : Series) (h : szS a ≤ 1048576) : zIv a = some (if zBM a then (tbl a, 0) else (⟨0, [], []⟩, 1)) := by
  rw [zIv, zLc a h, zAr, zBm]
  by_cases hs : zBM a
  · rw [if_pos hs, if_neg (by simp [hs])]
    unfold szS at h
    have hr := zLb (fun x : Race => x.Finishes.length) a.Races 1048576 (by omega)
    have hl : zAO (zHa a) (([] : List (List Int)), ([] : List (List Int)), 0) = some (.nxt (a.Races.map (zCo a), a.Races.map zJn, (a.Races.length : Int))) := by
      refine zBy a.Races.length (by omega) (fun i => ((a.Races.map (zCo a)).take i, (a.Races.map zJn).take i, (i : Int))) _ rfl (fun i hi => ?_) ?_
      · have h2 : ((i : Int) < (a.Races.length : Int)) := by omega
        have hri := hr _ (List.getElem_mem hi)
        have hl2 : zAO (zG9 a ((a.Races.map (zCo a)).take i, (a.Races.map zJn).take i, (i : Int))) (([] : List Int), 0) = some (.nxt (zJn a.Races[i], (a.Races[i].Finishes.length : Int))) := by
          refine zBy a.Races[i].Finishes.length (by omega) (fun j => ((a.Races[i].Finishes.map Finish.Code).take j, (j : Int))) _ rfl (fun j hj => ?_) ?_
          · have h3 : ((j : Int) < (a.Races[i].Finishes.length : Int)) := by omega
            have hlt : ((a.Races[i].Finishes.map Finish.Code).take j).length + 1 < 1099511627776 := by simp; omega
            simp only [zG9, zBs a.Races i hi, h3, decide_true, zAy, zBs _ j hj, zAr, zBB hj (by omega), List.length_singleton, zBf hlt, zHk Finish.Code _ j hj]
          · have : (a.Races[i].Finishes.map Finish.Code).take a.Races[i].Finishes.length = a.Races[i].Finishes.map Finish.Code := by rw [List.take_of_length_le (by simp)]
            simp [zG9, zBs a.Races i hi, this, zJn]
        have hlt1 : ((a.Races.map (zCo a)).take i).length + 1 < 1099511627776 := by simp; omega
        have hlt2 : ((a.Races.map zJn).take i).length + 1 < 1099511627776 := by simp; omega
        simp only [zHa, zG8, h2, decide_true, zAy, zBs _ i hi, zAr, hl2, zBx, zMJ _ a.Scheme hs.2.1 hri, zBB hi (by omega), List.length_singleton, zBf hlt1, zBf hlt2, zHk (zCo a) _ i hi, zHk zJn _ i hi]
        rfl
      · have e1 : (a.Races.map (zCo a)).take a.Races.length = a.Races.map (zCo a) := by rw [List.take_of_length_le (by simp)]
        have e2 : (a.Races.map zJn).take a.Races.length = a.Races.map zJn := by rw [List.take_of_length_le (by simp)]
        simp [zHa, e1, e2]
    rw [hl]; rfl
  · rw [if_neg hs, if_pos (by simp [hs])]
end Go.Proofs.YtmmkkcmliofknaaGreatDoor
