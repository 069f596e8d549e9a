/- Pure laws: what is drawn is drawn without a fault, and is small. -/
import Derived.Test.YtmmkkcmliofknaaGreatDoorPureS
import Derived.Test.YtmmkkcmliofknaaGreatDoorPureV
namespace Go.Proofs.YtmmkkcmliofknaaGreatDoor
open Go
set_option linter.unusedVariables false
set_option linter.unusedSimpArgs false
theorem zRS {β : Type} {c : Prop} [Decidable c] {k : Option β} {Q : β → Prop} (h : c) (hk : ∃ b, k = some b ∧ Q b) : ∃ b, chk c k = some b ∧ Q b := by rw [zBf h]; exact hk
theorem zOM {c : List UInt8} {a d : Int} (h : OkS c a d) : ∃ b, zHq ⟨c, a, d⟩ = some b ∧ OkS c b.2.1 b.2.2 ∧ 0 ≤ b.1 ∧ b.1 ≤ 16 := by
  refine nx h 24 (by omega) fun r a1 d1 h hr hr' => ?_
  refine zFr (fun _ => ?_) (fun _ => ?_)
  · refine nx h 2 (by omega) fun r a1 d1 h hr hr' => ⟨_, rfl, h, ?_⟩
    simp only
    rw [zBl (by omega)]
    omega
  · refine nx h 6 (by omega) fun r a1 d1 h hr hr' => ⟨_, rfl, h, ?_⟩
    simp only
    rw [zBl (by omega)]
    omega
theorem zLT {c : List UInt8} {a d : Int} (h : OkS c a d) (n : Int) (hn : n ≤ 100) (hn0 : -100 ≤ n) : ∃ b, zDD ⟨c, a, d⟩ n = some b ∧ OkS c b.2.1 b.2.2 ∧ (b.1.Finishes.length : Int) = max n 0 := by
  have hl : ∃ o, zAO (zDp ⟨c, a, d⟩ n) (a, d, ([] : List Finish), 0) = some o ∧ ∃ a' d' L k, o = .nxt (a', d', L, k) ∧ OkS c a' d' ∧ (L.length : Int) = max n 0 := by
    refine zDd n.toNat (by omega) (fun i s => OkS c s.1 s.2.1 ∧ s.2.2.1.length = i ∧ s.2.2.2 = (i : Int)) _ ⟨h, rfl, rfl⟩ (fun i s hi hs => ?_) (fun s hs => ?_)
    · obtain ⟨a1, d1, L, k⟩ := s
      obtain ⟨h1, h2, h3⟩ := hs
      simp only at h1 h2 h3
      subst h3
      have hlt : ((i : Int) < n) := by omega
      have key : ∃ t, zDp ⟨c, a, d⟩ n (a1, d1, L, (i : Int)) = some t ∧ ∃ s' : Int × Int × List Finish × Int, t = .cont s' ∧ OkS c s'.1 s'.2.1 ∧ s'.2.2.1.length = i + 1 ∧ s'.2.2.2 = ((i + 1 : Nat) : Int) := by
        unfold zDp
        refine zFr (fun _ => ?_) (fun hf => by simp [hlt] at hf)
        refine nx h1 _ (by rw [zBl (by omega)]; omega) fun r a2 d2 h4 hr hr' => ?_
        refine nx h4 4 (by omega) fun r2 a3 d3 h5 hr2 hr2' => ?_
        have fin : ∀ a4 d4 x y, OkS c a4 d4 → ∃ t, zDo (a1, d1, L, (i : Int)) (a4, d4, x, y) = some t ∧ ∃ s' : Int × Int × List Finish × Int, t = .cont s' ∧ OkS c s'.1 s'.2.1 ∧ s'.2.2.1.length = i + 1 ∧ s'.2.2.2 = ((i + 1 : Nat) : Int) := fun a4 d4 x y h6 => by
          refine ⟨_, by rw [zDo, zBf (by simp; omega)], _, rfl, h6, by simp [h2], ?_⟩
          simp only
          rw [zBl (by omega)]; omega
        refine zFr (fun _ => ?_) (fun _ => ?_)
        · refine nx h5 9 (by omega) fun r3 a4 d4 h6 hr3 hr3' => ?_
          exact fin _ _ _ _ h6
        · exact fin _ _ _ _ h5
      obtain ⟨t, ht, s', rfl, q⟩ := key
      exact ⟨_, ht, q⟩
    · obtain ⟨a1, d1, L, k⟩ := s
      obtain ⟨h1, h2, h3⟩ := hs
      simp only at h1 h2 h3
      subst h3
      have hlt : ¬ (((n.toNat : Nat) : Int) < n) := by omega
      exact ⟨.brk (a1, d1, L, ((n.toNat : Nat) : Int)), by simp only [zDp, hlt, decide_false, zAG], a1, d1, L, _, rfl, h1, by omega⟩
  obtain ⟨o, ho, a', d', L, k, rfl, h1, h2⟩ := hl
  refine ⟨(⟨L⟩, (a', d')), ?_, h1, h2⟩
  rw [zDD, ho]
  rfl
def zM9 (rs : List Race) (m : Nat) : Prop := rs.length ≤ m ∧ ∀ x ∈ rs, x.Finishes.length ≤ 100
theorem zNa (rs : List Race) (m : Nat) (x : Race) (h : zM9 rs m) (hx : x.Finishes.length ≤ 100) : zM9 (rs ++ [x]) (m + 1) :=
  ⟨by have := h.1; simp; omega, fun y hy => by
    rcases List.mem_append.1 hy with hy | hy
    · exact h.2 y hy
    · simp at hy; subst hy; exact hx⟩
theorem zNW {c : List UInt8} {a d : Int} (h : OkS c a d) : ∃ b, zGT ⟨c, a, d⟩ = some b ∧ OkS c b.2.1 b.2.2 ∧ (0 ≤ b.1.Boats ∧ b.1.Boats ≤ 16) ∧ zM9 b.1.Races 20 := by
  refine nxt (zOM h) fun x7 hx => ?_
  obtain ⟨h, hb0, hb1⟩ := hx
  refine nx h 2 (by omega) fun x12 a1 d1 h _ _ => ?_
  refine nx h 7 (by omega) fun x26 a2 d2 h hr hr' => ?_
  have hl : ∃ o, zAO (zCJ ⟨c, a, d⟩ x7) (a2, d2, ([] : List Race), x26) = some o ∧ ∃ a' d' L k, o = .nxt (a', d', L, k) ∧ OkS c a' d' ∧ zM9 L 7 := by
    refine zDd 7 (by omega) (fun i s => OkS c s.1 s.2.1 ∧ zM9 s.2.2.1 i ∧ s.2.2.2 ≤ 7 - (i : Int)) _ ⟨h, ⟨by simp, by simp⟩, by simp only; omega⟩ (fun i s hi hs => ?_) (fun s hs => ?_)
    · obtain ⟨a1, d1, L, k⟩ := s
      obtain ⟨h1, h2, h3⟩ := hs
      simp only at h1 h2 h3
      by_cases hk : 0 < k
      · obtain ⟨b, e1, e2, e3⟩ := zLT h1 x7.1 (by omega) (by omega)
        have := h2.1
        refine ⟨.cont (b.2.1, b.2.2, L ++ [⟨b.1.Finishes⟩], w64 (k - 1)), ?_, e2, zNa L i _ h2 (by simp only; omega), ?_⟩
        · simp only [zCJ, hk, decide_true, zAy, e1, zAr]
          rw [zBf (by simp; omega)]
        · simp only
          rw [zBl (by omega)]; omega
      · refine ⟨.brk (a1, d1, L, k), by simp only [zCJ, hk, decide_false, zAG], a1, d1, L, k, rfl, h1, ⟨by have := h2.1; omega, h2.2⟩⟩
    · obtain ⟨a1, d1, L, k⟩ := s
      obtain ⟨h1, h2, h3⟩ := hs
      simp only at h1 h2 h3
      have hk : ¬ (0 < k) := by omega
      exact ⟨.brk (a1, d1, L, k), by simp only [zCJ, hk, decide_false, zAG], a1, d1, L, k, rfl, h1, h2⟩
  obtain ⟨o, ho, a3, d3, L, k, rfl, h1, h2⟩ := hl
  rw [ho, zAr, zBx, zDQ]
  have fin : ∀ a4 d4 y R, OkS c a4 d4 → zM9 R 20 → ∃ b, zCh x7 (a4, d4, y, R) = some b ∧ OkS c b.2.1 b.2.2 ∧ (0 ≤ b.1.Boats ∧ b.1.Boats ≤ 16) ∧ zM9 b.1.Races 20 := fun a4 d4 y R h5 h6 => ⟨_, rfl, h5, ⟨hb0, hb1⟩, h6⟩
  have h20 : zM9 L 20 := ⟨by have := h2.1; omega, h2.2⟩
  refine nx h1 30 (by omega) fun x283 a4 d4 h _ _ => ?_
  refine zFr (fun _ => fin _ _ _ _ h h20) (fun _ => zFr (fun _ => ?_) (fun _ => zFr (fun _ => ?_) (fun _ => fin _ _ _ _ h h20)))
  · refine nxt (zLT h (w64 (x7.1 + 1)) (by rw [zBl (by omega)]; omega) (by rw [zBl (by omega)]; omega)) fun b hb => ?_
    obtain ⟨e2, e3⟩ := hb
    rw [zBl (by omega)] at e3
    have := h2.1
    refine zRS (by simp; omega) ?_
    refine fin _ _ _ _ e2 ?_
    have := zNa L 7 ⟨b.1.Finishes⟩ h2 (by simp only; omega)
    exact ⟨by have := this.1; simp only at this ⊢; omega, this.2⟩
  · have hl2 : ∃ o, zAO (zDP ⟨c, a, d⟩ x7) (a4, d4, L) = some o ∧ ∃ a' d' L', o = .nxt (a', d', L') ∧ OkS c a' d' ∧ zM9 L' 13 ∧ L'.length = 13 := by
      have hL := h2.1
      refine zDd (13 - L.length) (by omega) (fun i s => OkS c s.1 s.2.1 ∧ zM9 s.2.2 13 ∧ s.2.2.length = L.length + i) _ ⟨h, ⟨by simp only; omega, h2.2⟩, rfl⟩ (fun i s hi hs => ?_) (fun s hs => ?_)
      · obtain ⟨a5, d5, L'⟩ := s
        obtain ⟨h3, h4, h5⟩ := hs
        simp only at h3 h4 h5
        have hk : ((L'.length : Int) < 13) := by omega
        obtain ⟨b, e1, e2, e3⟩ := zLT h3 x7.1 (by omega) (by omega)
        refine ⟨.cont (b.2.1, b.2.2, L' ++ [⟨b.1.Finishes⟩]), ?_, e2, ⟨by simp; omega, (zNa L' 13 _ h4 (by simp only; omega)).2⟩, by simp; omega⟩
        simp only [zDP, hk, decide_true, zAy, e1, zAr]
        rw [zBf (by simp; omega)]
      · obtain ⟨a5, d5, L'⟩ := s
        obtain ⟨h3, h4, h5⟩ := hs
        simp only at h3 h4 h5
        have hk : ¬ ((L'.length : Int) < 13) := by omega
        exact ⟨.brk (a5, d5, L'), by simp only [zDP, hk, decide_false, zAG], a5, d5, L', rfl, h3, h4, by omega⟩
    obtain ⟨o, ho, a5, d5, L', rfl, h3, h4, h5⟩ := hl2
    rw [ho, zAr, zBx, zDO]
    refine nx h3 2 (by omega) fun r a6 d6 h hr hr' => ?_
    have e : w64 (12 + r) = 12 + r := zBl (by omega)
    refine zRS (by rw [e]; simp only; omega) ?_
    refine fin _ _ _ _ h ?_
    rw [e]
    refine ⟨?_, fun x hx => h4.2 x ?_⟩
    · simp [zNN]; omega
    · exact List.mem_of_mem_drop (List.mem_of_mem_take hx)
theorem zSC (rs : List Race) (m : Nat) (b s : Int) (h : zM9 rs m) (hm : m ≤ 100) : szS ⟨b, s, rs⟩ ≤ 1048576 := by
  have h1 : tot (fun x : Race => x.Finishes.length) rs ≤ 100 * rs.length := zLZ _ 100 _ h.2
  have h2 := h.1
  unfold szS
  simp only
  omega
end Go.Proofs.YtmmkkcmliofknaaGreatDoor
