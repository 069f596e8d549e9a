/- What my pure proofs stand on: simp facts of the models' connectives, and rules for counted loops. -/
import Derived.Test.YtmngaoalphpjiaaDoorBase
namespace Go.Proofs.YtmngaoalphpjiaaDoor
open Go
set_option linter.unusedVariables false
set_option linter.unusedSimpArgs false
@[simp] theorem bnd_some {α β : Type} (a : α) (f : α → Option β) : bnd (some a) f = f a := by unfold bnd; rfl
@[simp] theorem ifB_true {β : Type} (t e : Option β) : ifB true t e = t := by unfold ifB; rfl
@[simp] theorem ifB_false {β : Type} (t e : Option β) : ifB false t e = e := by unfold ifB; rfl
theorem ifB_if {β : Type} (b : Bool) (t e : Option β) : ifB b t e = if b = true then t else e := by cases b <;> rfl
theorem chk_pos {β : Type} {c : Prop} [Decidable c] (h : c) (k : Option β) : chk c k = k := by simp [chk, h]
@[simp] theorem outc_ret {ρ σ β : Type} (r : ρ) (kr : ρ → Option β) (kn : σ → Option β) : outc (.ret r) kr kn = kr r := by unfold outc; rfl
@[simp] theorem outc_nxt {ρ σ β : Type} (s : σ) (kr : ρ → Option β) (kn : σ → Option β) : outc (.nxt s) kr kn = kn s := by unfold outc; rfl
theorem w64_of {n : Int} (h : -9223372036854775808 ≤ n ∧ n < 9223372036854775808) : w64 n = n := by
  rw [w64, IntKind.wrap_i64]; omega
def markL {α : Type} (g : Int → α → α) (c : Nat) : Int → List α → List α
  | _, [] => []
  | k, x :: xs => g k x :: markL g c (k + c) xs
@[simp] theorem markL_length {α : Type} (g : Int → α → α) (c : Nat) : ∀ (k : Int) (xs : List α), (markL g c k xs).length = xs.length
  | _, [] => rfl
  | k, x :: xs => by simp [markL, markL_length g c (k + c) xs]
end Go.Proofs.YtmngaoalphpjiaaDoor
