/- More of my proof rules: results in variables and in cells, slices of slices. -/
import Derived.Test.YtmmkkcmliofknaaGreatDoorBase2
namespace Go.Proofs.YtmmkkcmliofknaaGreatDoor
open Go Go.RowKit Go.ChangeShapes Go.WideShapes
set_option linter.unusedVariables false
set_option linter.unusedSimpArgs false
set_option linter.unusedSectionVars false
section
variable {P : Program} {fn : Func} {C : Ending → World → Prop} {F : Fr} {w : World}
def zSj (P : Program) (F : Fr) (w : World) (T : Array Value) (r : ResultVar) (v : Value) : Prop :=
  (match r with | .tmp t => pure (T.getD t undef) | .cell a t => do loadVar t (← asAddr (T.getD a undef)) : Sem Value).run P w = .ok v w
def zQP (P : Program) (F : Fr) (w : World) (r : ResultVar) (v : Value) : Prop := ∀ T, zDb T = F → zSj P F w T r v
theorem zJs {t : Nat} {v : Value} (hv : F t = v) : zQP P F w (.tmp t) v := by
  intro T hT; subst hT; subst hv; simp [zSj, zDb]
theorem zIB {t b : Nat} {ty : TypeId} {v : Value} (hv : F t = .pointer (some ⟨b, 0, none⟩)) (hl : (loadVar ty ⟨b, 0, none⟩).run P w = .ok v w) : zQP P F w (.cell t ty) v := by
  intro T hT
  subst hT
  have hv' : T.getD t undef = .pointer (some ⟨b, 0, none⟩) := hv
  simp [zSj, hv', asAddr, hl]
def zPa (P : Program) (F : Fr) (w : World) : List ResultVar → List Value → Prop
  | [], [] => True
  | r :: rs, v :: vs => zQP P F w r v ∧ zPa P F w rs vs
  | _, _ => False
theorem zMC {T : Array Value} (hT : zDb T = F) : ∀ {rs : List ResultVar} {vs : List Value}, zPa P F w rs vs →
    (rs.mapM fun r => (match r with | .tmp t => pure (T.getD t undef) | .cell a t => do loadVar t (← asAddr (T.getD a undef)) : Sem Value)).run P w = .ok vs w
  | [], [], _ => by simp
  | r :: rs, v :: vs, h => by
    have h2 := h.1 T hT
    unfold zSj at h2
    simp only [List.mapM_cons, Sem.run_bind, h2, Result.andThen_ok, zMC hT h.2, Sem.run_pure]
  | [], _ :: _, h => h.elim
  | _ :: _, [], h => h.elim
theorem RRs {rs : List ResultVar} {v v2 : Value} {vs : List Value} (hr : fn.results = rs.toArray) (h : zPa P F w rs (v :: v2 :: vs)) (hC : C (.returned (.tuple (v :: v2 :: vs).toArray)) w) : RR P fn C F w := by
  intro T hT
  have h1 := zMC hT h
  refine ⟨_, ?_, hC⟩
  unfold results
  rw [hr]
  simp at h1 ⊢
  refine (congrArg (fun r => Result.andThen r _) h1).trans ?_
  simp
end
theorem zBJ (k : IntKind) (n : Int) : (Value.int k n).cells = #[.int k n] := rfl
theorem zBA (b : Bool) : (Value.bool b).cells = #[.bool b] := rfl
theorem zBi (s : ByteArray) : (Value.string s).cells = #[.string s] := rfl
theorem zBK (cs : Array Value) : (Value.agg cs).cells = cs := rfl
theorem zBo (a : Option Addr) (n c : Nat) : (Value.slice a n c).cells = #[.slice a n c] := rfl
theorem zBc (a : Option Addr) : (Value.pointer a).cells = #[.pointer a] := rfl
def SubV (v : Value) (sz : Nat) (lo hi : Int) (v' : Value) : Prop := ∃ A n cap, v = .slice A n cap ∧ 0 ≤ lo ∧ lo ≤ hi ∧ hi ≤ (n : Int) ∧ n ≤ cap ∧ v' = .slice (if cap = lo.toNat then A else A.map (·.add (lo.toNat * sz))) (hi.toNat - lo.toNat) (cap - lo.toNat)
section
variable {P : Program} {F : Fr} {w : World} {t e ty : TypeId} {sz by_ : Nat} {zv v v' : Value} {x y z : Operand} {lo hi : Int} {k k' : IntKind}
theorem zQQ (ht : P.underlying t = some (.slice e)) (hi' : TyI P e sz by_ zv) (hx : ev F x = v) (hz : ev F z = .int k' hi) (h : SubV v sz 0 hi v') : XV P F (.slice t x none (some z) none) ty w v' w := by
  obtain ⟨A, n, cap, rfl, h0, h1, h2, h3, rfl⟩ := h
  intro d pos aft g
  have hc : hi ≤ (cap : Int) := by omega
  simp [execOp, hx, hz, Instr.sliceAt, Instr.slice, Instr.sliceBounds, Instr.sliceBound, asIntOf, run_underlying ht, zFY hi', h1, hc]
end
theorem zSk {α : Type} [GoT α] {S : Nat → Prop} {w : World} {v : Value} {xs : List α} (h : rdL S w v xs) {lo hi : Int} (h0 : 0 ≤ lo ∧ lo ≤ hi ∧ hi ≤ (xs.length : Int)) : ∃ v', SubV v (GoT.sz α) lo hi v' := by
  obtain ⟨A, cap, rfl, h1, h2, h3⟩ := h
  exact ⟨_, A, _, cap, rfl, h0.1, h0.2.1, h0.2.2, h1, rfl⟩
theorem zM1 {α : Type} [GoT α] {S : Nat → Prop} {w : World} {v : Value} {xs : List α} (h : rdL S w v xs) : ∃ A n cap, v = .slice A n cap ∧ (n : Int) = (xs.length : Int) := by
  obtain ⟨A, cap, rfl, h1, h2, h3⟩ := h
  exact ⟨A, _, cap, rfl, rfl⟩
def zNN {α : Type} (xs : List α) (lo hi : Int) : List α := (xs.drop lo.toNat).take (hi.toNat - lo.toNat)
theorem zMD {α : Type} (xs : List α) {lo hi : Int} (h : 0 ≤ lo ∧ lo ≤ hi ∧ hi ≤ (xs.length : Int)) : (zNN xs lo hi).length = hi.toNat - lo.toNat := by
  simp [zNN]; omega
theorem SubV.rdL {α : Type} [GoT α] {S : Nat → Prop} {w : World} {v v' : Value} {xs : List α} {lo hi : Int} (hs : SubV v (GoT.sz α) lo hi v') (h : rdL S w v xs) : rdL S w v' (zNN xs lo hi) := by
  obtain ⟨A, cap, rfl, h1, h2, h3⟩ := h
  obtain ⟨A', n, cap', e1, g0, g1, g2, g3, rfl⟩ := hs
  injection e1 with e2 e3 e4
  subst e2 e3 e4
  have hlen := zMD xs (lo := lo) (hi := hi) ⟨g0, g1, g2⟩
  refine ⟨_, _, by rw [hlen], by rw [hlen]; omega, by omega, fun hp => ?_⟩
  rw [hlen] at hp
  obtain ⟨b, o, rfl, hb, hr⟩ := h3 (by omega)
  have hne : ¬ cap = lo.toNat := by omega
  rw [if_neg hne]
  refine ⟨b, o + lo.toNat * GoT.sz α, by simp [zMY], hb, fun i x hx => ?_⟩
  have hx' : xs[lo.toNat + i]? = some x := by
    unfold zNN at hx
    rw [List.getElem?_take] at hx
    split at hx
    · rw [List.getElem?_drop] at hx; exact hx
    · cases hx
  obtain ⟨cs, hc, hcell⟩ := hr _ x hx'
  refine ⟨cs, hc, fun j u hj => ?_⟩
  rw [← hcell j u hj]
  congr 2
  rw [Nat.add_mul]
  omega
theorem Hp.prefix {α : Type} [GoT α] {w0 w : World} {Γ : List Ent} {E : TypeId} {S : Nat → Prop} {v v' : Value} {xs : List α} {hi : Int} (h : Hp w0 Γ w) (i : Nat) (hi' : Γ[i]? = some (Ent.own E S v xs)) (hs : SubV v (GoT.sz α) 0 hi v') : Hp w0 (Γ.set i (Ent.own E S v' (zNN xs 0 hi))) w := by
  refine h.upd i hi' (Mod.refl S w) (fun k _ hk => hk) ?_ (fun k hk => .inl hk)
  have ho := h.get i hi'
  obtain ⟨A', n, cap', e1, g0, g1, g2, g3, rfl⟩ := hs
  obtain ⟨A, cap, e2, h1, h2, h3⟩ := ho.1
  rw [e1] at e2
  injection e2 with e3 e4 e5
  subst e3 e4 e5
  have hlen := zMD xs (lo := 0) (hi := hi) ⟨g0, g1, g2⟩
  have hA : (if cap' = Int.toNat 0 then A' else A'.map (·.add (Int.toNat 0 * GoT.sz α))) = A' := by
    split
    · rfl
    · cases A' with
      | none => rfl
      | some a => simp [Addr.add]
  refine ⟨⟨A', cap', by rw [hA, hlen]; simp, by rw [hlen]; simp; omega, by omega, ?_⟩, ho.2⟩
  rcases h3 with h3 | ⟨b, arr, rfl, hb, hh, hsz, T, hT, hT1, hT2⟩
  · exact .inl h3
  · refine .inr ⟨b, arr, rfl, hb, hh, hsz, T, fun j x hx => hT j x ?_, hT1, hT2⟩
    unfold zNN at hx
    rw [List.getElem?_take] at hx
    split at hx
    · simpa using hx
    · cases hx
end Go.Proofs.YtmmkkcmliofknaaGreatDoor
