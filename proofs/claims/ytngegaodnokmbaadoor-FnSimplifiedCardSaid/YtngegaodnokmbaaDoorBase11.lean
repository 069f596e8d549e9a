/- Words for texts that are read: parts of a string, Split, Cut, ParseInt and its error; what the library's variables hold. -/
import Derived.Test.YtngegaodnokmbaaDoorBase10
import Derived.Laws.Strings2
import Derived.Laws.Slices
import Derived.Stop.IfaceNil
import Derived.Lib.Split
import Derived.Lib.SplitLaws
import Derived.Lib.IndexMore
import Derived.Lib.ParseIntB
import Derived.Lib.AtoiErrMem
import Derived.Handed
import Derived.LaidLaws
namespace Go.Proofs.YtngegaodnokmbaaDoor
open Go Go.RowKit Go.ChangeShapes Go.WideShapes
set_option linter.unusedVariables false
set_option linter.unusedSimpArgs false
abbrev subB (s : ByteArray) (l h : Int) : ByteArray := s.extract l.toNat h.toNat
def errV (v : Value) (b : Bool) : Prop := (b = true ∧ ∃ te pe, v = .iface te pe) ∨ (b = false ∧ v = .nilIface)
section
variable {P : Program} {F : Fr} {w : World} {ty : TypeId} {x y lo hi : Operand} {t u : TypeId}
theorem x_neqE {v : Value} {b : Bool} (ht : P.isIface t = true) (hx : ev F x = v) (he : errV v b) : XV P F (.binOp .neq t x (.const .nilIface) u) ty w (.bool b) w := by
  intro d pos aft g
  have hc : ev F (.const .nilIface) = .nilIface := rfl
  rcases he with ⟨rfl, te, pe, rfl⟩ | ⟨rfl, rfl⟩
  · have e : (eqGuard .neq t x (.const .nilIface) (.iface te pe) .nilIface).run P w = .ok () w := by unfold eqGuard; rfl
    simp only [execOp, hx, hc, Sem.run_bind, e, Result.andThen_ok, run_neq_iface_nil w t ht te pe, Sem.run_pure]
  · have e : (eqGuard .neq t x (.const .nilIface) .nilIface .nilIface).run P w = .ok () w := by unfold eqGuard; cases x <;> rfl
    simp only [execOp, hx, hc, Sem.run_bind, e, Result.andThen_ok, run_neq_nil_nil_at w t ht, Sem.run_pure]
end
structure TabsR (P : Program) (gm gs gr : Nat) (w : World) : Prop where
  tab : Lib.TabIs P w "internal/strconv.uint64pow10" .u64 Lib.pow10Tab
  mx : ∃ m, w.cell? ⟨gm, 0, none⟩ = some (.int .i64 m)
  es : ∃ v, w.cell? ⟨gs, 0, none⟩ = some v ∧ (v = .nilIface ∨ ∃ te pe, v = .iface te pe)
  er : ∃ v, w.cell? ⟨gr, 0, none⟩ = some v ∧ (v = .nilIface ∨ ∃ te pe, v = .iface te pe)
theorem snap_cell {w0 w w1 : World} {Γ : List Ent} {B : Nat} (h : Hp w0 Γ w) (i : Nat) (hi : Γ[i]? = some (Ent.snap w1 B)) (hB : B = w1.heap.size) {a : Addr} {v : Value} (hc : w1.cell? a = some v) : w.cell? a = some v := by
  have hs := h.get i hi
  subst hB
  have hlt : a.block < w1.heap.size := World.block_lt_of_cell? _ _ hc
  rw [← hc]
  simp only [World.cell?]
  rw [hs.2 _ hlt]
theorem Hp.tabR {P : Program} {gm gs gr : Nat} {w0 w w1 : World} {Γ : List Ent} {B : Nat} (h : Hp w0 Γ w) (i : Nat) (hi : Γ[i]? = some (Ent.snap w1 B)) (hB : B = w1.heap.size) (ht : TabsR P gm gs gr w1) : TabsR P gm gs gr w :=
  ⟨h.tab i hi hB ht.tab, let ⟨m, hm⟩ := ht.mx; ⟨m, snap_cell h i hi hB hm⟩, let ⟨v, hv, hv2⟩ := ht.es; ⟨v, snap_cell h i hi hB hv, hv2⟩, let ⟨v, hv, hv2⟩ := ht.er; ⟨v, snap_cell h i hi hB hv, hv2⟩⟩
def M.strings_Split (s sep : ByteArray) : Option (List ByteArray) := chk (s.size < 4294967281 ∧ 1 ≤ sep.size) (some (Lib.splitB sep 0 (Lib.countB s sep) s))
def M.strings_Cut (s sep : ByteArray) : Option (ByteArray × ByteArray × Bool) := chk (s.size < 4294967281) (some (bts (Lib.cut s.data.toList sep.data.toList).1, bts (Lib.cut s.data.toList sep.data.toList).2.1, (Lib.cut s.data.toList sep.data.toList).2.2))
def M.strconv_ParseInt (s : ByteArray) (base bits : Int) : Option (Int × Bool) := chk (base = 10 ∧ bits = 64 ∧ s.size ≤ 4294967296) (some (match Lib.parseIntB 64 s.data.toList with | .ok v => (v, false) | .syntax => (0, true) | .range => (Lib.intSat 64 s.data.toList, true)))
theorem split_fits {P : Program} {f : FuncId} {e9 : TypeId} {w0 : World} {s sep : ByteArray} {r : List ByteArray} (hm : M.strings_Split s sep = some r)
    (hj : s.size < 4294967281 → 1 ≤ sep.size → Calls P f #[.string s, .string sep] w0 fun e w' => e = .returned (.slice (some ⟨w0.heap.size, 0, none⟩) (Lib.countB s sep + 1) (Lib.countB s sep + 1)) ∧ w' = w0.alloc (.cells ((Lib.splitB sep 0 (Lib.countB s sep) s).map Value.string).toArray e9)) :
    Calls P f #[.string s, .string sep] w0 fun e w' => ∃ (rv0 : Value) (rS0 : Nat → Prop), e = .returned rv0 ∧ Fresh w0 w' [Ent.own e9 rS0 rv0 r] := by
  unfold M.strings_Split at hm
  obtain ⟨⟨h1, h2⟩, h3⟩ := chkE hm
  obtain rfl := Option.some.inj h3
  have hlen := Lib.splitB_all sep h2 0 _ s rfl
  have hle := Lib.countB_le sep h2 s.size s (Nat.le_refl _)
  refine (hj h1 h2).mono fun e w' ⟨he, hw⟩ => ⟨_, (· = w0.heap.size), he, ?_⟩
  subst hw
  rw [← hlen]
  have hown : ownL e9 (fun k => k = w0.heap.size) (w0.alloc (.cells ((Lib.splitB sep 0 (Lib.countB s sep) s).map Value.string).toArray e9)) (.slice (some ⟨w0.heap.size, 0, none⟩) (Lib.splitB sep 0 (Lib.countB s sep) s).length (Lib.splitB sep 0 (Lib.countB s sep) s).length) (Lib.splitB sep 0 (Lib.countB s sep) s) :=
    own_mk (α := ByteArray) (b := w0.heap.size) (Nat.le_refl _) (by rw [hlen]; unfold maxLen; omega) rfl (blk_new (cs := ((Lib.splitB sep 0 (Lib.countB s sep) s).map Value.string).toArray)) (by simp [Flat.sz]) (cells_str _) rfl
  have hL := (Hp.start w0).push (Mod.alloc _ _) (e := Ent.own e9 (fun k => k = w0.heap.size) (.slice (some ⟨w0.heap.size, 0, none⟩) (Lib.splitB sep 0 (Lib.countB s sep) s).length (Lib.splitB sep 0 (Lib.countB s sep) s).length) (Lib.splitB sep 0 (Lib.countB s sep) s)) ⟨hown, fun k hk => by have : k = w0.heap.size := hk; simp; omega⟩ (fun k hk => by have : k = w0.heap.size := hk; omega)
  exact hL.fresh 1 rfl [0] (by decide) (by decide) rfl
theorem cut_fits {P : Program} {f : FuncId} {w0 : World} {s sep : ByteArray} {r : ByteArray × ByteArray × Bool} (hm : M.strings_Cut s sep = some r)
    (hj : s.size < 4294967281 → Calls P f #[.string s, .string sep] w0 fun e w' => e = .returned (.tuple #[.string ⟨(Lib.cut s.data.toList sep.data.toList).1.toArray⟩, .string ⟨(Lib.cut s.data.toList sep.data.toList).2.1.toArray⟩, .bool (Lib.cut s.data.toList sep.data.toList).2.2]) ∧ ∃ n, w' = w0.drewN n) :
    Calls P f #[.string s, .string sep] w0 fun e w' => e = .returned (.tuple #[.string r.1, .string r.2.1, .bool r.2.2]) ∧ Fresh w0 w' [] := by
  unfold M.strings_Cut at hm
  obtain ⟨h1, h3⟩ := chkE hm
  obtain rfl := Option.some.inj h3
  refine (hj h1).mono fun e w' ⟨he, n, hw⟩ => ⟨he, fresh_grow ⟨n, #[], ?_⟩⟩
  rw [hw]; simp
theorem parse_fits {P : Program} {f : FuncId} {T : TypeId} {w0 : World} {s : ByteArray} {a1 a2 : Int} {r : Int × Bool} (hm : M.strconv_ParseInt s a1 a2 = some r)
    (h1 : ∀ v, s.size ≤ 9223372036854775806 → Lib.parseIntB 64 s.data.toList = .ok v → Calls P f #[.string s, .int .i64 10, .int .i64 64] w0 fun e w' => e = .returned (.tuple #[.int .i64 v, .nilIface]) ∧ (w' = w0 ∨ ∃ t, w' = Lib.bytesWorld w0 T t))
    (h2 : s.size ≤ 281474976710656 → Lib.parseIntB 64 s.data.toList = .«syntax» → Calls P f #[.string s, .int .i64 10, .int .i64 64] w0 fun e w' => ∃ te pe, e = .returned (.tuple #[.int .i64 0, .iface te pe]) ∧ Below w0.heap.size w0 w')
    (h3 : s.size ≤ 281474976710656 → Lib.parseIntB 64 s.data.toList = .range → Calls P f #[.string s, .int .i64 10, .int .i64 64] w0 fun e w' => ∃ te pe, e = .returned (.tuple #[.int .i64 (Lib.intSat 64 s.data.toList), .iface te pe]) ∧ Below w0.heap.size w0 w') :
    Calls P f #[.string s, .int .i64 a1, .int .i64 a2] w0 fun e w' => ∃ rv0 : Value, e = .returned (.tuple #[.int .i64 r.1, rv0]) ∧ errV rv0 r.2 ∧ Fresh w0 w' [] := by
  unfold M.strconv_ParseInt at hm
  obtain ⟨⟨rfl, rfl, hs⟩, hm2⟩ := chkE hm
  have hm3 := Option.some.inj hm2
  cases hp : Lib.parseIntB 64 s.data.toList with
  | ok v =>
    rw [hp] at hm3
    subst hm3
    refine (h1 v (by omega) hp).mono fun e w' ⟨he, hw⟩ => ⟨_, he, .inr ⟨rfl, rfl⟩, ?_⟩
    rcases hw with rfl | ⟨t, rfl⟩
    · exact Fresh.nil (Mod.refl None_ _)
    · exact Fresh.nil (Mod.of_below (Lib.bytesWorld_below _ _ _))
  | «syntax» =>
    rw [hp] at hm3
    subst hm3
    exact (h2 (by omega) hp).mono fun e w' ⟨te, pe, he, hw⟩ => ⟨_, he, .inl ⟨rfl, te, pe, rfl⟩, Fresh.nil (Mod.of_below hw)⟩
  | range =>
    rw [hp] at hm3
    subst hm3
    exact (h3 (by omega) hp).mono fun e w' ⟨te, pe, he, hw⟩ => ⟨_, he, .inl ⟨rfl, te, pe, rfl⟩, Fresh.nil (Mod.of_below hw)⟩
theorem es_of_laid {P : Program} {laid : List (String × DataW Unit)} {W : World} {n nm : String} {text : List UInt8} {ti tp te ts : TypeId} {ms : Array (String × TypeId)} {f : Field} (g j : Nat) (hj : laid[j]? = some (n, .iface nm (.ptr (.agg [.lit (.string text)]))))
    (hg : P.globalNamed n = some g) (ht : (P.globals[g]?).map (·.type) = some ti) (hi : P.underlying ti = some (.interface ms)) (hrow : ∀ u, P.typeName? 3 u = some nm → u = tp)
    (hp : P.underlying tp = some (.pointer te)) (he : P.underlying te = some (.struct #[f])) (hft : f.type = ts) (hfo : f.offset = 0) (hs : P.underlying ts = some .string) (hc : P.cellsOf te = 1) (hcs : P.cellsOf ts = 1) (h : laidMet P laid W) :
    ∃ v, W.cell? ⟨g, 0, none⟩ = some v ∧ (v = .nilIface ∨ ∃ te pe, v = .iface te pe) := by
  have h2 := laid_drop j laid h
  have hl : j < laid.length := (List.getElem?_eq_some_iff.1 hj).1
  rw [List.drop_eq_getElem_cons hl] at h2
  have e1 : laid[j] = (n, .iface nm (.ptr (.agg [.lit (.string text)]))) := by rw [List.getElem?_eq_getElem hl] at hj; exact Option.some.inj hj
  rw [e1] at h2
  obtain ⟨a, s, hv, _⟩ := laid_sentinel h2 hg ht hi hrow hp he hft hfo hs hc hcs
  exact ⟨.iface tp (.pointer (some a)), by have h0 := World.var?_cell hg hv 0; simpa using h0, .inr ⟨_, _, rfl⟩⟩
theorem handed_shaped {H : Type} {enc : TypeId × Value → H} {a : Assume} {C : Checked} {os : Os} {f : FuncId} {fn : Func} {s : ChangeSpec} {conds : List PathCond} {apart fresh handsOn again : Bool} {X : World → Array Value → Prop}
    (hX : ∀ (w w' : World) (args : Array Value), w.heap = w'.heap → X w args → X w' args)
    (own : ownKnob C.prog.godebug = none) (started : os.Started) (noInit : C.prog.inits.idxOf? f = none) (hfn : C.prog.funcs[f]? = some fn)
    (witness : ∃ (w : World) (tape : Tape) (i : Input), w.os = os ∧ (w.forCall tape i).Shaped C.prog ∧ i.vars = [] ∧ Input.okWide C.prog (w.forCall tape i) .any w.heap.size f i ∧
      ((s.pre enc C.prog fn conds apart (w.forCall tape i).memory i.args ∧ X (w.forCall tape i).memory i.args) ∧ sizedMet enc C.prog fn (OpenSpec.ofChange s) apart (w.forCall tape i).memory i.args) ∧ a.holds C.prog (lone (Frame.enter C.prog f i.args .normal) [] (w.forCall tape i)))
    (contract : ∀ (W : World) (base : Nat) (args : Array Value) (ds gs : List (DataW H)) (before : List MemPlace),
      (∀ (j : Nat) t v, fn.params[j]? = some t → args[j]? = some v → Value.okWide C.prog W .any base t v) →
      DataW.Whole enc C.prog fn.params.toList s.vars apart W args.toList ds gs before → X W args → W.ShapedOpen C.prog →
      Calls C.prog f args W fun e W' => ∃ v, e = .returned v ∧ s.post enc C.prog fn apart fresh handsOn again W args v W') :
    ReturnsInHanded a C os f .any (fun w args => (s.pre enc C.prog fn conds apart w args ∧ X w args) ∧ sizedMet enc C.prog fn (OpenSpec.ofChange s) apart w args) (s.post enc C.prog fn apart fresh handsOn again) := by
  refine returnsInHanded_of_calls own started noInit witness ?_
  intro w tape i _ hsh _ hok hpre hholds
  obtain ⟨_, _, _, fn', hfn', _, _, _, _, hval⟩ := hok
  obtain rfl : fn' = fn := Option.some.inj (hfn'.symm.trans hfn)
  obtain ⟨⟨⟨ds, gs, before, hw, _⟩, hx⟩, _⟩ := hpre
  refine (contract (w.forCall tape i) w.heap.size i.args ds gs before hval (DataW.Whole.of_heap (w' := w.forCall tape i) (by rfl) hw) (hX _ _ _ (by rfl) hx) hsh).mono fun e W' ⟨v, he, hp⟩ => ?_
  subst he
  exact ChangeSpec.post_blind hp
end Go.Proofs.YtngegaodnokmbaaDoor
