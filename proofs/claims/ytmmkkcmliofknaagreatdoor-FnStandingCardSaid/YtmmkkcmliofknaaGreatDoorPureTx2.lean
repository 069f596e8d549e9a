/- Texts: standings. -/
import Derived.Test.YtmmkkcmliofknaaGreatDoorPureTx
import Derived.Test.YtmmkkcmliofknaaGreatDoorPureCO
namespace Go.Proofs.YtmmkkcmliofknaaGreatDoor
open Go
set_option linter.unusedVariables false
set_option linter.unusedSimpArgs false
theorem nl_sz : (⟨#[10]⟩ : ByteArray).size = 1 := rfl
def lnT (t : Table) (rule : List Int) (b : Int) : ByteArray := ((((numB (rkB t rule b) ++ (⟨#[32]⟩ : ByteArray)) ++ numB b) ++ (⟨#[32]⟩ : ByteArray)) ++ numB (ntK t rule b)) ++ (⟨#[10]⟩ : ByteArray)
def txT (t : Table) (rule : List Int) (L : List Int) : ByteArray := L.foldl (fun s b => s ++ lnT t rule b) (⟨#[]⟩ : ByteArray)
theorem txT_snoc (t : Table) (rule : List Int) (L : List Int) (b : Int) : txT t rule (L ++ [b]) = txT t rule L ++ lnT t rule b := by simp [txT]
theorem p_StandingText (t : Table) (rule : List Int) (h : szT t ≤ 1048576) (hr : rule.length ≤ 1048576) : ∃ r, M.spec_StandingText t rule = some r ∧ M.impl_StandingText t rule = some r := by
  obtain ⟨c1, c2⟩ := p_tableCode t rule 0 h hr
  by_cases h0 : cdT t rule 0 = 0
  · obtain ⟨ht, hu, _, _⟩ := cdT_zero t rule 0 h0
    have hr3 := rule_le rule hu
    have hb := ht.1
    generalize hL : sdB t rule t.Boats.toNat = L
    have hlen : L.length = t.Boats.toNat := by rw [← hL]; exact sdB_len t rule ht
    have hin : ∀ b ∈ L, 0 ≤ b ∧ b < t.Boats := fun b hbm => by
      rw [← hL] at hbm
      exact inB t ht b ((sdB_mem t rule b _).1 hbm).1
    have hrk : ∀ b ∈ L, 1 ≤ rkB t rule b ∧ rkB t rule b ≤ 17 := fun b _ => by
      have := cntI_le (betB t rule b) t.Boats.toNat
      unfold rkB; omega
    have hnt : ∀ b ∈ L, 0 ≤ ntK t rule b ∧ ntK t rule b ≤ 120000 := fun b hbm => ntK_bd t rule b ht (hin b hbm).1 (hin b hbm).2
    have hsz : ∀ b ∈ L, (numB (rkB t rule b)).size ≤ 20 ∧ (numB b).size ≤ 20 ∧ (numB (ntK t rule b)).size ≤ 20 := fun b hbm => by
      have h1 := hin b hbm
      have h2 := hrk b hbm
      have h3 := hnt b hbm
      exact ⟨numB_size _ (by omega) (by omega), numB_size _ (by omega) (by omega), numB_size _ (by omega) (by omega)⟩
    have hacc : ∀ i, i ≤ L.length → (txT t rule (L.take i)).size ≤ 64 * i := by
      intro i
      induction i with
      | zero => intro _; show (0 : Nat) ≤ _; omega
      | succ i ih =>
        intro hi
        have hi' : i < L.length := by omega
        rw [List.take_succ_eq_append_getElem hi', txT_snoc, ByteArray.size_append]
        have h1 := ih (by omega)
        have h2 := hsz L[i] (List.getElem_mem hi')
        have h3 : (lnT t rule L[i]).size ≤ 63 := by
          unfold lnT
          simp only [ByteArray.size_append, sp_sz, nl_sz]
          omega
        omega
    have eT : txT t rule L = txT t rule (L.take L.length) := by rw [List.take_length]
    have ls : loopF (M.spec_StandingText_l1 t rule L) ((⟨#[]⟩ : ByteArray), 0) = some (.nxt (txT t rule L, (L.length : Int))) := by
      rw [eT]
      refine loop_run L.length (by omega) (fun i => (txT t rule (L.take i), (i : Int))) _ rfl (fun i hi => ?_) (by simp [M.spec_StandingText_l1])
      have g1 : (i : Int) < (L.length : Int) := by omega
      have hm := List.getElem_mem hi
      have q1 := hin _ hm
      have q2 := hrk _ hm
      have q3 := hnt _ hm
      have q4 := hsz _ hm
      have q5 := hacc i (by omega)
      obtain ⟨_, n2⟩ := p_net t rule L[i] ht q1.1 q1.2 hr3
      simp only [M.spec_StandingText_l1, g1, decide_true, ifB_true, idx_lt L i hi, bnd_some, p_specRank t rule L[i] ht q1.1 q1.2 hr3, p_number _ (show 0 ≤ rkB t rule L[i] by omega) (by omega), p_number _ q1.1 (by omega), p_specCounted t rule L[i] ht q1.1 q1.2 hr3, n2, p_number _ q3.1 (by omega)]
      repeat rw [chk_pos (by first | omega | (simp only [ByteArray.size_append, sp_sz, nl_sz]; omega))]
      rw [List.take_succ_eq_append_getElem hi, txT_snoc, w64_of (by omega)]
      simp only [lnT, ByteArray.append_assoc]
      rfl
    have li : loopF (M.impl_StandingText_l1 t rule (rksB t rule) L) ((⟨#[]⟩ : ByteArray), 0) = some (.nxt (txT t rule L, (L.length : Int))) := by
      rw [eT]
      refine loop_run L.length (by omega) (fun i => (txT t rule (L.take i), (i : Int))) _ rfl (fun i hi => ?_) (by simp [M.impl_StandingText_l1])
      have g1 : (i : Int) < (L.length : Int) := by omega
      have hm := List.getElem_mem hi
      have q1 := hin _ hm
      have q2 := hrk _ hm
      have q3 := hnt _ hm
      have q4 := hsz _ hm
      have q5 := hacc i (by omega)
      obtain ⟨n1, _⟩ := p_net t rule L[i] ht q1.1 q1.2 hr3
      have hri : idx (rksB t rule) L[i] = some (rkB t rule L[i]) := by
        have := rksB_get t rule L[i].toNat (by omega)
        unfold idx
        rw [if_pos q1.1, this, Int.toNat_of_nonneg q1.1]
      simp only [M.impl_StandingText_l1, g1, decide_true, ifB_true, idx_lt L i hi, bnd_some, hri, p_text _ (show -9223372036854775808 ≤ rkB t rule L[i] by omega) (by omega), p_text _ (show -9223372036854775808 ≤ L[i] by omega) (by omega), n1, p_text _ (show -9223372036854775808 ≤ ntK t rule L[i] by omega) (by omega)]
      repeat rw [chk_pos (by first | omega | (simp only [ByteArray.size_append, sp_sz, nl_sz]; omega))]
      rw [List.take_succ_eq_append_getElem hi, txT_snoc, w64_of (by omega)]
      rfl
    refine ⟨txT t rule L, ?_, ?_⟩
    · simp only [M.spec_StandingText, c2, h0, bnd_some, bne_self_eq_false, ifB_false, p_specStanding t rule ht hr3, hL, ls, outc_nxt, M.spec_StandingText_a1]
    · simp only [M.impl_StandingText, c1, h0, bnd_some, bne_self_eq_false, ifB_false, p_implRanks t rule ht hr3, p_implStanding t rule ht hr3, hL, li, outc_nxt, M.impl_StandingText_a1]
  · have e : (cdT t rule 0 != 0) = true := by simpa using h0
    exact ⟨_, by simp only [M.spec_StandingText, c2, bnd_some, e, ifB_true]; rfl, by simp only [M.impl_StandingText, c1, bnd_some, e, ifB_true]⟩
end Go.Proofs.YtmmkkcmliofknaaGreatDoor
