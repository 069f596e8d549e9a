/- Words for strings that are joined. -/
import Derived.Test.YtngegaodnokmbaaDoorBase9
import Derived.Lib.Join
import Derived.Below
namespace Go.Proofs.YtngegaodnokmbaaDoor
open Go Go.RowKit Go.ChangeShapes Go.WideShapes
set_option linter.unusedVariables false
set_option linter.unusedSimpArgs false
def joinB (xs : List ByteArray) (sep : ByteArray) : ByteArray := bts (Lib.join (xs.map (·.data.toList)) sep.data.toList)
def M.strings_Join (xs : List ByteArray) (sep : ByteArray) : Option ByteArray := chk ((joinB xs sep).size ≤ 140737488355328 ∧ xs.length ≤ 140737488355328) (some (joinB xs sep))
theorem join_fits {P : Program} {f : FuncId} {w0 : World} {v : Value} {xs : List ByteArray} {sep r : ByteArray} (h : rdL (· < w0.heap.size) w0 v xs) (hm : M.strings_Join xs sep = some r)
    (hj : ∀ bk o c, (∀ (j : Nat) x, xs[j]? = some x → w0.cell? ⟨bk, o + j, none⟩ = some (.string x)) → bk < w0.heap.size → xs.length ≤ 140737488355328 → xs.length ≤ c → (Lib.join (xs.map (·.data.toList)) sep.data.toList).length ≤ 140737488355328 →
      Calls P f #[.slice (some ⟨bk, o, none⟩) xs.length c, .string sep] w0 fun e w' => e = .returned (.string ⟨(Lib.join (xs.map (·.data.toList)) sep.data.toList).toArray⟩) ∧ Below w0.heap.size w0 w')
    (hz2 : ∀ a c, Calls P f #[.slice a 0 c, .string sep] w0 fun e w' => e = .returned (.string ⟨#[]⟩) ∧ w' = w0) :
    Calls P f #[v, .string sep] w0 fun e w' => e = .returned (.string r) ∧ Fresh w0 w' [] := by
  unfold M.strings_Join at hm
  obtain ⟨⟨h1, h2⟩, h3⟩ := chkE hm
  obtain rfl := Option.some.inj h3
  obtain ⟨A, cap, rfl, k1, k2, k3⟩ := h
  by_cases h0 : xs.length = 0
  · have hx := List.eq_nil_of_length_eq_zero h0
    subst hx
    exact (hz2 A cap).mono fun e w' ⟨he, hw⟩ => ⟨he, by subst hw; exact Fresh.nil (Mod.refl None_ _)⟩
  · obtain ⟨b, o, rfl, hb, hcs⟩ := k3 (by omega)
    refine (hj b o cap (fun j x hx => ?_) hb h2 k1 ?_).mono fun e w' ⟨he, hw⟩ => ⟨he, Fresh.nil (Mod.of_below hw)⟩
    · obtain ⟨cs, c1, c2⟩ := hcs j x hx
      have c1' : cs = [.string x] := c1
      subst c1'
      have := c2 0 _ rfl
      have e : j * GoT.sz ByteArray + 0 = j := by show j * 1 + 0 = j; omega
      rw [e] at this
      exact this
    · have : (joinB xs sep).size = (Lib.join (xs.map (·.data.toList)) sep.data.toList).length := by simp [joinB, ByteArray.size]
      omega
end Go.Proofs.YtngegaodnokmbaaDoor
