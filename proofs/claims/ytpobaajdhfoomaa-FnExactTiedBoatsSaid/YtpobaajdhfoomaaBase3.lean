/- More of my proof rules: results in variables and in cells, slices of slices. -/
import Derived.Test.YtpobaajdhfoomaaBase2
namespace Go.Proofs.Ytpobaajdhfoomaa
open Go Go.RowKit Go.ChangeShapes Go.WideShapes
set_option linter.unusedVariables false
set_option linter.unusedSimpArgs false
set_option linter.unusedSectionVars false
section
variable {P : Program} {fn : Func} {C : Ending → World → Prop} {F : Fr} {w : World}
end
def SubV (v : Value) (sz : Nat) (lo hi : Int) (v' : Value) : Prop := ∃ A n cap, v = .slice A n cap ∧ 0 ≤ lo ∧ lo ≤ hi ∧ hi ≤ (n : Int) ∧ n ≤ cap ∧ v' = .slice (if cap = lo.toNat then A else A.map (·.add (lo.toNat * sz))) (hi.toNat - lo.toNat) (cap - lo.toNat)
section
variable {P : Program} {F : Fr} {w : World} {t e ty : TypeId} {sz by_ : Nat} {zv v v' : Value} {x y z : Operand} {lo hi : Int} {k k' : IntKind}
end
def subL {α : Type} (xs : List α) (lo hi : Int) : List α := (xs.drop lo.toNat).take (hi.toNat - lo.toNat)
theorem subL_length {α : Type} (xs : List α) {lo hi : Int} (h : 0 ≤ lo ∧ lo ≤ hi ∧ hi ≤ (xs.length : Int)) : (subL xs lo hi).length = hi.toNat - lo.toNat := by
  simp [subL]; omega
theorem SubV.rdL {α : Type} [GoT α] {S : Nat → Prop} {w : World} {v v' : Value} {xs : List α} {lo hi : Int} (hs : SubV v (GoT.sz α) lo hi v') (h : rdL S w v xs) : rdL S w v' (subL xs lo hi) := by
  obtain ⟨A, cap, rfl, h1, h2, h3⟩ := h
  obtain ⟨A', n, cap', e1, g0, g1, g2, g3, rfl⟩ := hs
  injection e1 with e2 e3 e4
  subst e2 e3 e4
  have hlen := subL_length xs (lo := lo) (hi := hi) ⟨g0, g1, g2⟩
  refine ⟨_, _, by rw [hlen], by rw [hlen]; omega, by omega, fun hp => ?_⟩
  rw [hlen] at hp
  obtain ⟨b, o, rfl, hb, hr⟩ := h3 (by omega)
  have hne : ¬ cap = lo.toNat := by omega
  rw [if_neg hne]
  refine ⟨b, o + lo.toNat * GoT.sz α, by simp [add0], hb, fun i x hx => ?_⟩
  have hx' : xs[lo.toNat + i]? = some x := by
    unfold subL at hx
    rw [List.getElem?_take] at hx
    split at hx
    · rw [List.getElem?_drop] at hx; exact hx
    · cases hx
  obtain ⟨cs, hc, hcell⟩ := hr _ x hx'
  refine ⟨cs, hc, fun j u hj => ?_⟩
  rw [← hcell j u hj]
  congr 2
  rw [Nat.add_mul]
  omega
end Go.Proofs.Ytpobaajdhfoomaa
