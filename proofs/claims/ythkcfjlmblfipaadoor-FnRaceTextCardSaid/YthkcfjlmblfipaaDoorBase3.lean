/- More of my proof rules: results in variables and in cells, slices of slices. -/
import Derived.Test.YthkcfjlmblfipaaDoorBase2
namespace Go.Proofs.YthkcfjlmblfipaaDoor
open Go Go.RowKit Go.ChangeShapes Go.WideShapes
set_option linter.unusedVariables false
set_option linter.unusedSimpArgs false
set_option linter.unusedSectionVars false
section
variable {P : Program} {fn : Func} {C : Ending → World → Prop} {F : Fr} {w : World}
def ResT (P : Program) (F : Fr) (w : World) (T : Array Value) (r : ResultVar) (v : Value) : Prop :=
  (match r with | .tmp t => pure (T.getD t undef) | .cell a t => do loadVar t (← asAddr (T.getD a undef)) : Sem Value).run P w = .ok v w
def ResAt (P : Program) (F : Fr) (w : World) (r : ResultVar) (v : Value) : Prop := ∀ T, frOf T = F → ResT P F w T r v
theorem resTmp {t : Nat} {v : Value} (hv : F t = v) : ResAt P F w (.tmp t) v := by
  intro T hT; subst hT; subst hv; simp [ResT, frOf]
theorem resCell {t b : Nat} {ty : TypeId} {v : Value} (hv : F t = .pointer (some ⟨b, 0, none⟩)) (hl : (loadVar ty ⟨b, 0, none⟩).run P w = .ok v w) : ResAt P F w (.cell t ty) v := by
  intro T hT
  subst hT
  have hv' : T.getD t undef = .pointer (some ⟨b, 0, none⟩) := hv
  simp [ResT, hv', asAddr, hl]
def AllRes (P : Program) (F : Fr) (w : World) : List ResultVar → List Value → Prop
  | [], [] => True
  | r :: rs, v :: vs => ResAt P F w r v ∧ AllRes P F w rs vs
  | _, _ => False
theorem run_results {T : Array Value} (hT : frOf T = F) : ∀ {rs : List ResultVar} {vs : List Value}, AllRes P F w rs vs →
    (rs.mapM fun r => (match r with | .tmp t => pure (T.getD t undef) | .cell a t => do loadVar t (← asAddr (T.getD a undef)) : Sem Value)).run P w = .ok vs w
  | [], [], _ => by simp
  | r :: rs, v :: vs, h => by
    have h2 := h.1 T hT
    unfold ResT at h2
    simp only [List.mapM_cons, Sem.run_bind, h2, Result.andThen_ok, run_results hT h.2, Sem.run_pure]
  | [], _ :: _, h => h.elim
  | _ :: _, [], h => h.elim
theorem RRs {rs : List ResultVar} {v v2 : Value} {vs : List Value} (hr : fn.results = rs.toArray) (h : AllRes P F w rs (v :: v2 :: vs)) (hC : C (.returned (.tuple (v :: v2 :: vs).toArray)) w) : RR P fn C F w := by
  intro T hT
  have h1 := run_results hT h
  refine ⟨_, ?_, hC⟩
  unfold results
  rw [hr]
  simp at h1 ⊢
  refine (congrArg (fun r => Result.andThen r _) h1).trans ?_
  simp
end
theorem cells_int (k : IntKind) (n : Int) : (Value.int k n).cells = #[.int k n] := rfl
theorem cells_bool (b : Bool) : (Value.bool b).cells = #[.bool b] := rfl
theorem cells_string (s : ByteArray) : (Value.string s).cells = #[.string s] := rfl
theorem cells_agg (cs : Array Value) : (Value.agg cs).cells = cs := rfl
theorem cells_slice (a : Option Addr) (n c : Nat) : (Value.slice a n c).cells = #[.slice a n c] := rfl
theorem cells_pointer (a : Option Addr) : (Value.pointer a).cells = #[.pointer a] := rfl
def SubV (v : Value) (sz : Nat) (lo hi : Int) (v' : Value) : Prop := ∃ A n cap, v = .slice A n cap ∧ 0 ≤ lo ∧ lo ≤ hi ∧ hi ≤ (n : Int) ∧ n ≤ cap ∧ v' = .slice (if cap = lo.toNat then A else A.map (·.add (lo.toNat * sz))) (hi.toNat - lo.toNat) (cap - lo.toNat)
section
variable {P : Program} {F : Fr} {w : World} {t e ty : TypeId} {sz by_ : Nat} {zv v v' : Value} {x y z : Operand} {lo hi : Int} {k k' : IntKind}
end
def subL {α : Type} (xs : List α) (lo hi : Int) : List α := (xs.drop lo.toNat).take (hi.toNat - lo.toNat)
theorem subL_length {α : Type} (xs : List α) {lo hi : Int} (h : 0 ≤ lo ∧ lo ≤ hi ∧ hi ≤ (xs.length : Int)) : (subL xs lo hi).length = hi.toNat - lo.toNat := by
  simp [subL]; omega
theorem SubV.rdL {α : Type} [GoT α] {S : Nat → Prop} {w : World} {v v' : Value} {xs : List α} {lo hi : Int} (hs : SubV v (GoT.sz α) lo hi v') (h : rdL S w v xs) : rdL S w v' (subL xs lo hi) := by
  obtain ⟨A, cap, rfl, h1, h2, h3⟩ := h
  obtain ⟨A', n, cap', e1, g0, g1, g2, g3, rfl⟩ := hs
  injection e1 with e2 e3 e4
  subst e2 e3 e4
  have hlen := subL_length xs (lo := lo) (hi := hi) ⟨g0, g1, g2⟩
  refine ⟨_, _, by rw [hlen], by rw [hlen]; omega, by omega, fun hp => ?_⟩
  rw [hlen] at hp
  obtain ⟨b, o, rfl, hb, hr⟩ := h3 (by omega)
  have hne : ¬ cap = lo.toNat := by omega
  rw [if_neg hne]
  refine ⟨b, o + lo.toNat * GoT.sz α, by simp [add0], hb, fun i x hx => ?_⟩
  have hx' : xs[lo.toNat + i]? = some x := by
    unfold subL at hx
    rw [List.getElem?_take] at hx
    split at hx
    · rw [List.getElem?_drop] at hx; exact hx
    · cases hx
  obtain ⟨cs, hc, hcell⟩ := hr _ x hx'
  refine ⟨cs, hc, fun j u hj => ?_⟩
  rw [← hcell j u hj]
  congr 2
  rw [Nat.add_mul]
  omega
end Go.Proofs.YthkcfjlmblfipaaDoor
