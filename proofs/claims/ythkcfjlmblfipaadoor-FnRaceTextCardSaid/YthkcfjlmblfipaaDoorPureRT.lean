/- Pure law over draws: races' texts. -/
import Derived.Test.YthkcfjlmblfipaaDoorPureRR2
import Derived.Test.YthkcfjlmblfipaaDoorPureD
namespace Go.Proofs.YthkcfjlmblfipaaDoor
open Go
set_option linter.unusedVariables false
set_option linter.unusedSimpArgs false
theorem rtB_sz (n : Int) (r : Race) : (rtB n r).size ≤ 1048576 := by
  obtain ⟨fs⟩ := r
  by_cases ho : okR n fs
  · rw [rtB_ok ho]
    have hlen := ho.2.1
    have hn := ho.1
    have h := joinB_le2 14 (fs.map wdR) (fun w hw => by
      obtain ⟨f, hf, rfl⟩ := List.mem_map.1 hw
      obtain ⟨i, hi, rfl⟩ := List.mem_iff_getElem.1 hf
      exact (wdR_14 _ (fin_ok n fs ho.2 i hi)).2) (fs.map wdR).length (Nat.le_refl _)
    rw [List.take_length, List.length_map] at h
    omega
  · rw [rtB_no ho]
    exact Nat.zero_le _
theorem p_w6 (a : Race) (h : a.Finishes.length ≤ 1048576) : M.laws_w6Races a a = some true := by
  have hl : loopF (M.laws_w6Races_l1 a a) 0 = some (.nxt (a.Finishes.length : Int)) := by
    refine loop_run a.Finishes.length (by omega) (fun i => (i : Int)) _ rfl (fun i hi => ?_) (by simp [M.laws_w6Races_l1])
    have g : (i : Int) < (a.Finishes.length : Int) := by omega
    simp only [M.laws_w6Races_l1, g, decide_true, ifB_true, idx_lt a.Finishes i hi, bnd_some, step64 hi (by omega), eqL, beq_self_eq_true, Bool.and_self, Bool.not_true, ifB_false]
  simp only [M.laws_w6Races, bne_self_eq_false, ifB_false, hl, bnd_some, outc_nxt, M.laws_w6Races_a1]
theorem p_DrawReadRace (c : List UInt8) (h : c.length ≤ 4096) : ∃ b, M.spec_DrawReadRace c = some b ∧ b.2.size ≤ 1048576 := by
  obtain ⟨⟨n, r⟩, h1, h2⟩ := p_DrawIsRace c h
  simp only at h2
  have hcl : (([(UInt8.ofNat (2 : Int).toNat)] : List UInt8) ++ c).length ≤ 4097 := by simp; omega
  rw [M.spec_DrawReadRace, h1, bnd_some, chk_pos (by simp; omega)]
  obtain ⟨d, k1, k2⟩ := p_From (([(UInt8.ofNat (2 : Int).toNat)] : List UInt8) ++ c) (by omega)
  have hsz := rtB_sz n r
  rw [k1, bnd_some, (p_RaceText n r (by omega)).1, bnd_some, chk_pos (by omega)]
  generalize rtB n r = t at hsz ⊢
  have hlen : t.data.toList.length = t.size := ba_len t
  have fin : ∀ (a e : Int) (l : List UInt8), l.length = t.data.toList.length → ∃ b, M.spec_DrawReadRace_j1 (n, r) (a, e, l) = some b ∧ b.2.size ≤ 1048576 := fun a e l hl => ⟨_, rfl, by show (bts l).size ≤ _; rw [sz_lit]; omega⟩
  have fin2 : ∀ (a e : Int) (b : Bool), OkS (([(UInt8.ofNat (2 : Int).toNat)] : List UInt8) ++ c) a e → (b = true → 0 < t.data.toList.length) → ∃ q, M.spec_DrawReadRace_j2 c (n, r) t (a, e, b) = some q ∧ q.2.size ≤ 1048576 := fun a e b ho hb => by
    refine ifB_ex (fun hbb => ?_) (fun _ => fin _ _ _ rfl)
    have hp := hb (by simpa using hbb)
    refine nx ho _ (by omega) fun x a1 e1 o1 hx hx' => ?_
    refine nx o1 6 (by omega) fun y a2 e2 o2 hy hy' => ?_
    have hy6 : y.toNat < (⟨#[32, 61, 48, 70, 68, 57]⟩ : ByteArray).data.toList.length := by show y.toNat < 6; omega
    have hat := strAt_lt (⟨#[32, 61, 48, 70, 68, 57]⟩ : ByteArray) y.toNat hy6
    rw [Int.toNat_of_nonneg hy] at hat
    have hxi : x.toNat < t.data.toList.length := by omega
    have hix : idx t.data.toList x = some t.data.toList[x.toNat] := by unfold idx; rw [if_pos hx, List.getElem?_eq_getElem hxi]
    simp only [hat, bnd_some, hix]
    exact fin _ _ _ (List.length_set ..)
  refine ifB_ex (fun hb => ?_) (fun _ => fin2 _ _ _ k2 (fun hf => by cases hf))
  refine nx k2 4 (by omega) fun x a1 e1 o1 _ _ => fin2 _ _ _ o1 (fun _ => by have := of_decide_eq_true hb; omega)
theorem pure_FnRaceText (c : List UInt8) (hc : OkD.ok c) : M.laws_FnRaceText c = some true := by
  rw [M.laws_FnRaceText, p_big, bnd_some, ifB_if]
  by_cases hl : 4096 < (c.length : Int)
  · simp [hl]
  · rw [if_neg (by simpa using hl)]
    obtain ⟨⟨n, r⟩, h1, h2⟩ := p_DrawIsRace c (by omega)
    obtain ⟨⟨m, u⟩, h3, h4⟩ := p_DrawReadRace c (by omega)
    simp only at h2 h4
    have hD : M.spec_DrawRaceText c = some (n, r) := by rw [M.spec_DrawRaceText, h1]; rfl
    obtain ⟨t1, t2⟩ := p_RaceText n r (by omega)
    obtain ⟨q, q1, q2, q3, q4, _⟩ := p_ReadRace m u h4
    have hw := p_w6 q.1 (by omega)
    have fin : M.laws_FnRaceText_j1 (rtB n r) (n, r) false = some true := by
      simp only [M.laws_FnRaceText_j1, ifB_false]
      by_cases h0 : rtB n r = (⟨#[]⟩ : ByteArray)
      · rw [sEq_true.2 h0, ifB_true]
      · rw [sEq_false h0, ifB_false]
        obtain ⟨fs⟩ := r
        have ho : okR n fs := Classical.byContradiction fun hn => h0 (rtB_no hn)
        obtain ⟨p, p1, _, _, _, p5⟩ := p_ReadRace n (rtB n ⟨fs⟩) (rtB_sz _ _)
        have he := p5 fs ho rfl
        simp only [p1, bnd_some, he, ifB_true, p_w6 ⟨fs⟩ (by omega), M.laws_FnRaceText_j2]
    simp only [hD, bnd_some, t1, t2, sEq_refl, Bool.not_true, ifB_false, h3, q1, q2, bne_self_eq_false, hw]
    cases hq : q.2 with
    | false => rw [ifB_false]; exact fin
    | true =>
      have hr := (q4 hq).2
      rw [ifB_true, (p_RaceText m q.1 (by omega)).2, bnd_some, hr, sEq_refl]
      exact fin
end Go.Proofs.YthkcfjlmblfipaaDoor
