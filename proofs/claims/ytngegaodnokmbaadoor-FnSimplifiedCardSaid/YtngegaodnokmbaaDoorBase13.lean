/- Words for shifts and bits. -/
import Derived.Test.YtngegaodnokmbaaDoorBase12
namespace Go.Proofs.YtngegaodnokmbaaDoor
open Go Go.RowKit Go.ChangeShapes Go.WideShapes
set_option linter.unusedVariables false
set_option linter.unusedSimpArgs false
def andI (k : IntKind) (a b : Int) : Int := k.wrap ((BitVec.ofInt k.bits a &&& BitVec.ofInt k.bits b).toNat)
def shlI (k : IntKind) (a b : Int) : Int := k.wrap (a * 2 ^ (min b.toNat k.bits))
def shrI (k : IntKind) (a b : Int) : Int := a.fdiv (2 ^ (min b.toNat k.bits))
variable {P : Program} {F : Fr} {t u ty : TypeId} {w : World} {x y : Operand}
theorem x_and {k : IntKind} {a b : Int} (hx : ev F x = .int k a) (hy : ev F y = .int k b) : XV P F (.binOp .and t x y u) ty w (.int k (andI k a b)) w := x_bin hx hy (by simp [binOp, Op.intBits, andI])
theorem x_bin2 {op : BinOp} {k j : IntKind} {a b : Int} {v : Value} (hx : ev F x = .int k a) (hy : ev F y = .int j b) (hr : (binOp op t (.int k a) (.int j b)).run P w = .ok v w) :
    XV P F (.binOp op t x y u) ty w v w := by
  intro d pos aft g
  simp only [execOp, hx, hy, Sem.run_bind, eqGuard_int, Result.andThen_ok, hr, Sem.run_pure]
theorem x_shl {k j : IntKind} {a b : Int} (hx : ev F x = .int k a) (hy : ev F y = .int j b) (hb : 0 ≤ b) : XV P F (.binOp .shl t x y u) ty w (.int k (shlI k a b)) w := x_bin2 hx hy (by simp [binOp, Op.shift, shlI, Int.not_lt.mpr hb])
theorem x_shr {k j : IntKind} {a b : Int} (hx : ev F x = .int k a) (hy : ev F y = .int j b) (hb : 0 ≤ b) : XV P F (.binOp .shr t x y u) ty w (.int k (shrI k a b)) w := x_bin2 hx hy (by simp [binOp, Op.shift, shrI, Int.not_lt.mpr hb])
theorem run_eqSliceNil' {P : Program} (w : World) (t e : TypeId) (a : Option Addr) (l c : Nat) (h : P.underlying t = some (.slice e)) : (Op.equal t (.slice a l c) (.slice none 0 0)).run P w = .ok a.isNone w := run_eqSliceNil w 9999 t e a l c h
theorem x_neqN {α : Type} [GoT α] {S : Nat → Prop} {v : Value} {xs : List α} {e : TypeId} (ht : P.underlying t = some (.slice e)) (hx : ev F x = v) (hy : ev F y = .slice none 0 0) (hr : rdL S w v xs) (hn : xs = [] → v = .slice none 0 0) :
    XV P F (.binOp .neq t x y u) ty w (.bool (!xs.isEmpty)) w := by
  obtain ⟨A, c, e1, h2⟩ := hr
  have hA : A.isNone = xs.isEmpty := by
    cases xs with
    | nil =>
      have := hn rfl
      rw [e1] at this
      injection this with q1 _ _
      rw [q1]; rfl
    | cons a l =>
      cases A with
      | some _ => rfl
      | none => exact absurd (rdL_isNone (A := none) (c := c) ⟨none, c, e1, h2⟩ e1 rfl) (by simp)
  rw [e1] at hx
  intro dd pos aft g
  have h : (binOp .neq t (.slice A xs.length c) (.slice none 0 0)).run P w = .ok (.bool (!xs.isEmpty)) w := by
    show (do pure (.bool (! (← Op.equal t (.slice A xs.length c) (.slice none 0 0)))) : Sem Value).run P w = _
    rw [Sem.run_bind, run_eqSliceNil' w t e A xs.length c ht, hA]; rfl
  have hg : (eqGuard .neq t x y (.slice A xs.length c) (.slice none 0 0)).run P w = .ok () w := by
    unfold eqGuard
    rfl
  simp only [execOp, hx, hy, Sem.run_bind, hg, Result.andThen_ok, h, Sem.run_pure]
theorem nnOf {α : Type} {xs : List α} {v u : Value} (h : 0 < xs.length) : xs = [] → v = u := fun e => absurd h (by rw [e]; exact Nat.lt_irrefl 0)
end Go.Proofs.YtngegaodnokmbaaDoor
