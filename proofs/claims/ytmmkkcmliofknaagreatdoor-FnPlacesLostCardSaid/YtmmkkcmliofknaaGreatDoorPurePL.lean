/- Pure law: the places that a boat loses. -/
import Derived.Test.YtmmkkcmliofknaaGreatDoorPureCB2
import Derived.Test.YtmmkkcmliofknaaGreatDoorPurePT
import Derived.Test.YtmmkkcmliofknaaGreatDoorPureF
namespace Go.Proofs.YtmmkkcmliofknaaGreatDoor
open Go
set_option linter.unusedVariables false
set_option linter.unusedSimpArgs false
theorem zI2 (a : Series) (xs : List Penalty) (hs : zBM a) (hp : zD1 a xs) : zCm (ptT a xs) := by
  have hS := zLe a xs hs hp
  refine ⟨hs.1, by have := hS.2.2.1; simpa [ptT, zIA] using this, by simp [ptT, zIA], fun i hi => ?_⟩
  have hi' : i < (zIY a xs).length := by simpa [ptT, zIA] using hi
  have hr := hS.2.2.2 i hi'
  simp only at hr
  have hb := hs.1.2
  have hlen := hr.1
  unfold zMM
  simp only [ptT, zIA, List.getElem?_map, List.getElem?_mapIdx, List.getElem?_eq_getElem hi', Option.map_some]
  have r1 : zIR (zIz a.Boats a.Scheme xs i (zIY a xs)[i]) a.Boats 10000 := by
    refine ⟨by simpa [zIz] using hlen, fun j hj => ?_⟩
    have hj' : j < (zIY a xs)[i].Finishes.length := by simpa [zIz] using hj
    unfold zLY
    simp only [zIz, List.getElem?_mapIdx, List.getElem?_eq_getElem hj', Option.map_some]
    have b1 := zMX (zIY a xs)[i].Finishes a.Scheme (zIY a xs)[i].Finishes[j] (by omega)
    have b2 := zMX (zIY a xs)[i].Finishes a.Scheme ⟨0, 4, 0⟩ (by omega)
    have hc : 0 ≤ zKI a.Boats a.Scheme xs i j (zIY a xs)[i].Finishes (zIY a xs)[i].Finishes[j] ∧ zKI a.Boats a.Scheme xs i j (zIY a xs)[i].Finishes (zIY a xs)[i].Finishes[j] ≤ 10000 := by
      unfold zKI
      split <;> omega
    simpa using hc
  have r2 : zIR (zJn (zIY a xs)[i]) a.Boats 9 := zQt _ _ _ _ hlen (fun f hf => by
    obtain ⟨j, hj, rfl⟩ := List.mem_iff_getElem.1 hf
    exact (zSa _ _ hr j hj).1)
  simp [r1, r2]
theorem zSI (a : Series) (hs : zBM a) : ptT a [] = tbl a := by
  have e : zIY a [] = a.Races := rfl
  unfold ptT tbl
  rw [e]
  congr 1
  apply List.ext_getElem
  · simp [zIA]
  · intro i h1 h2
    simp only [zIA, List.getElem_mapIdx, List.getElem_map, zCo]
    apply List.ext_getElem
    · simp [zIz]
    · intro j h3 h4
      have hz : ∀ b k c, zKN b [] k c = 0 := fun b k c => rfl
      simp only [zIz, List.getElem_mapIdx, List.getElem_map, zKI, hz]
      split <;> omega
theorem zN0 (a : Series) (xs : List Penalty) (rule : List Int) (b : Int) (h1 : szS a ≤ 1048576) (h : xs.length ≤ 1048576) (hr : rule.length ≤ 1048576) : ∃ r, zFn a xs rule b = some r ∧ zCi a xs rule b = some r := by
  obtain ⟨c1, c2⟩ := zOc a xs h1 h
  simp only [zFn, zCi, zFc, zBR, zCa, c1, c2, zAr, zJJ rule hr, zFP rule hr, zGw, zEV]
  by_cases h0 : zLd a xs = 0
  · obtain ⟨hs, hp⟩ := (zKq a xs).1 h0
    have hb := hs.1
    have e : w64 (a.Boats - 1) = a.Boats - 1 := zBl (by omega)
    by_cases h2 : zIW rule
    · by_cases h3 : 0 ≤ b ∧ b ≤ a.Boats - 1
      · have hpn : zD1 a [] := ⟨by simp, fun i hi => by simp at hi⟩
        have T1 := zI2 a xs hs hp
        have T2 := zI2 a [] hs hpn
        obtain ⟨s1, s2⟩ := zMl a xs hs hp
        obtain ⟨s3, s4⟩ := zMl a [] hs hpn
        have t3 : zDs a = some (tbl a) := by
          have t1 := zLA a h1
          rw [if_pos hs, zJi, zJl a h1, zAr, zBm, if_neg (by simp [hs])] at t1
          cases hq : zDs a with
          | none => rw [hq] at t1; cases t1
          | some t => rw [hq] at t1; simp at t1; rw [t1]
        rw [zSI a hs] at T2 s4
        have b0 : 0 ≤ b := h3.1
        have b1 : b < a.Boats := by omega
        have rl := zNZ rule h2
        have k1 := zLa _ rule T1 rl
        have k2 := zLa _ rule T2 rl
        have k3 := zKF _ rule b T1 b0 b1 rl
        have k4 := zKF _ rule b T2 b0 b1 rl
        have i1 : idx (zJo (ptT a xs) rule) b = some (rkB (ptT a xs) rule b) := by
          have := zK9 (ptT a xs) rule b.toNat (show b.toNat < a.Boats.toNat by omega)
          unfold idx; rw [if_pos b0, this]
          congr 2
          omega
        have i2 : idx (zJo (tbl a) rule) b = some (rkB (tbl a) rule b) := by
          have := zK9 (tbl a) rule b.toNat (show b.toNat < a.Boats.toNat by omega)
          unfold idx; rw [if_pos b0, this]
          congr 2
          omega
        refine ⟨(w64 (rkB (ptT a xs) rule b - rkB (tbl a) rule b), 0), ?_, ?_⟩
        · simp [h0, h2, h3, e, s1, k1, t3, k2, i1, i2]
        · simp [h0, h2, h3, e, s2, k3, s4, k4]
      · exact ⟨(0, 2), by simp [h0, h2, h3, e], by simp [h0, h2, h3, e]⟩
    · exact ⟨(0, 2), by simp [h0, h2], by simp [h0, h2]⟩
  · have e0 : (zLd a xs != 0) = true := by simpa using h0
    have e1 : (zLd a xs == 0) = false := by simpa using h0
    exact ⟨(0, zLd a xs), by rw [e0, zAy], by simp only [e1, e0, zAG, zAy]⟩
end Go.Proofs.YtmmkkcmliofknaaGreatDoor
