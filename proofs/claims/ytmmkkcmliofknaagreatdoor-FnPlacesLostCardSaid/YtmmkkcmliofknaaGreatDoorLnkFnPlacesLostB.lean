/- Links: each Go function returns what its model computes and leaves what was there. Printed by my generator. -/
import Derived.Test.YtmmkkcmliofknaaGreatDoorLnkFnPlacesLostA
namespace Go.Proofs.YtmmkkcmliofknaaGreatDoor
set_option maxRecDepth 10000
open Go Go.RowKit Go.ChangeShapes Go.WideShapes
set_option linter.unusedVariables false
set_option linter.unusedSimpArgs false

theorem zI6 (w0 : World) {E4 : TypeId} {S2 : Nat → Prop} {v1 : Value} (a0 : List Int) (he3 : (Ent.own E4 S2 v1 a0).H w0) (a1 : Int) (a2 : Int → Int → Option Int) {fk5 : FuncId} {cp6 : List Value} (hq7 : FnQ Tryz.prog fk5 cp6 (fun k => k < w0.heap.size ∧ ¬ (Ent.own E4 S2 v1 a0).S k) w0 (fun yw yvs yv => ∃ (y0 : Int) (y1 : Int) (yr : Int), yvs = [(IV y0), (IV y1)] ∧ a2 y0 y1 = some yr ∧ yv = (IV yr))) {r : (Unit) × (List Int)} (hm : zDn a0 a1 a2 = some r) :
    Calls Tryz.prog 113 #[v1, (IV a1), (.func (.func fk5) #[] cp6.toArray)] w0 fun e w' => ∃ (ioS : Nat → Prop), e = .returned (.tuple #[]) ∧ Mut w0 w' (Ent.own E4 S2 v1 a0).S [Ent.own E4 ioS v1 r.2] := by
 unfold zDn at hm
 refine zAD (args := [v1, (IV a1), (.func (.func fk5) #[] cp6.toArray)]) Tryz.func113 rfl rfl rfl ?_
 have hL := zDc he3
 refine CSR <| OV (IV 20) rfl (zAb) <| ONR <| OV (IV 20) rfl (zAe) <| OV (IV 0) rfl (zAb) <| OV (IV 20) rfl (zAb) <| ONS ?_
 obtain ⟨cX, bK, hm⟩ := zAs hm
 refine zAU (fun (s_l1 : (List Int) × Int × Int) F w => ∃ aM, F 0 = v1 ∧ F 1 = (IV a1) ∧ F 2 = (.func (.func fk5) #[] cp6.toArray) ∧ F 6 = (IV 20) ∧ F 7 = (IV s_l1.2.1) ∧ F 8 = (IV s_l1.2.2) ∧ Hp w0 [Ent.own E4 aM v1 s_l1.1, zAS w0 (Ent.own E4 S2 v1 a0).S] w) (fun o => zBh o (fun x => some x) (fun s => zB8 a1 a2 s) = some r) bK hm ⟨S2, rfl, rfl, rfl, rfl, rfl, rfl, hL⟩ ?_ ?_
 · intro s_l1 cY cD hJ hm
   have hm := zBD hm
   have hm : zB8 a1 a2 s_l1 = some r := hm
   unfold zB8 at hm
   obtain ⟨aM, bH, bI, bJ, bS, bT, cZ, hL⟩ := hJ
   refine CSR <| OV v1 rfl (zAo bH) <| OV (IV s_l1.2.1) rfl (zAo bT) <| OV (IV a1) rfl (zAo bI) <| OV (.func (.func fk5) #[] cp6.toArray) rfl (zAo bJ) ?_
   obtain ⟨aC, bL, hm⟩ := zAs hm
   refine zAa (OP.call rfl (zAq (vs := [v1, (IV s_l1.2.1), (IV a1), (.func (.func fk5) #[] cp6.toArray)]) zNC ⟨rfl, rfl, rfl, rfl, trivial⟩) (zES _ s_l1.1 (hL.get 0 rfl) s_l1.2.1 a1 a2 (hL.fnZX 1 0 (by decide) rfl rfl hq7) bL) ?_)
   rintro dA cE ⟨aN, rfl, bM⟩
   refine ⟨_, rfl, ?_⟩
   have hL := hL.mut 0 rfl bM
   simp only [lA, lB, lC, lD] at hL
   refine OW.nil ?_
   obtain ⟨cF, aZ, hm⟩ := zAs hm
   refine zAU (fun (s_l2 : Int) F w => F 0 = v1 ∧ F 1 = (IV a1) ∧ F 2 = (.func (.func fk5) #[] cp6.toArray) ∧ F 6 = (IV s_l2) ∧ Hp w0 [Ent.own E4 aN v1 aC.2, zAS w0 (Ent.own E4 S2 v1 a0).S] w) (fun o => zBh o (fun x => some x) (fun s => zB7 aC s) = some r) aZ hm ⟨bH, bI, bJ, bS, hL⟩ ?_ ?_
   · intro s_l2 cG bU hJ hm
     have hm := zBD hm
     have hm : zB7 aC s_l2 = some r := hm
     unfold zB7 at hm
     obtain ⟨cH, cI, cJ, cK, hL⟩ := hJ
     obtain rfl := oi hm
     exact RR0 rfl  ⟨aN, rfl, hL.mutOut 1 rfl [0] (by decide) (by decide) rfl⟩
   intro s_l2 cM bV aD hJ hm bW
   unfold zCE at hm
   obtain ⟨aO, aE, aP, aB, hL⟩ := hJ
   refine zAF <| CSR <| OV (IV s_l2) rfl (zAo aB) <| OV (IV a1) rfl (zAo aE) <| OV (.bool (decide (s_l2 < a1))) rfl (zBE rfl rfl) <| OW.nil ?_
   refine zAn (t := decide (s_l2 < a1)) rfl hm (fun bA hm => ?_) (fun bA hm => ?_)
   · refine zAt <| CW.block <| CSR <| OV (IV s_l2) rfl (zAo aB) <| OV (IV (w64 (2 * s_l2))) rfl (zHP rfl rfl) <| OV (IV 0) rfl (zAb) <| OV (IV (w64 (2 * s_l2))) rfl (zAb) <| ONS ?_
     obtain ⟨cN, bB, hm⟩ := zAs hm
     refine zAU (fun (s_l3 : Unit) F w => F 0 = v1 ∧ F 1 = (IV a1) ∧ F 2 = (.func (.func fk5) #[] cp6.toArray) ∧ F 6 = (IV s_l2) ∧ F 7 = (IV 0) ∧ F 8 = (IV (w64 (2 * s_l2))) ∧ Hp w0 [Ent.own E4 aN v1 aC.2, zAS w0 (Ent.own E4 S2 v1 a0).S] w) (fun o => zBh o (fun x => some (.ret x)) (fun s => zCD a1 s_l2 s) = some aD) bB hm ⟨aO, aE, aP, aB, rfl, rfl, hL⟩ ?_ ?_
     · intro s_l3 cO bX hJ hm
       have hm := zBD hm
       have hm : zCD a1 s_l2 s_l3 = some aD := hm
       unfold zCD at hm
       obtain ⟨aQ, aF, aR, aS, aT, cP, hL⟩ := hJ
       refine zAM (fun (s_j1 : Unit) F w => F 0 = v1 ∧ F 1 = (IV a1) ∧ F 2 = (.func (.func fk5) #[] cp6.toArray) ∧ F 6 = (IV s_l2) ∧ Hp w0 [Ent.own E4 aN v1 aC.2, zAS w0 (Ent.own E4 S2 v1 a0).S] w) (fun s_j1 => zEh s_l2 s_j1 = some aD) ?_ ?_
       · refine CSR <| OV (IV 0) rfl (zAo aT) <| OV (IV s_l2) rfl (zAo aS) <| OV (IV (w64 (0 + s_l2))) rfl (zBe rfl rfl) <| OV (IV (w64 (0 + s_l2))) rfl (zAb) <| ONR <| OV (IV (w64 (0 + s_l2))) rfl (zAe) <| OV (IV a1) rfl (zAo aF) <| OV (.bool (decide ((w64 (0 + s_l2)) < a1))) rfl (zBE rfl rfl) <| OW.nil ?_
         refine zAn (t := decide ((w64 (0 + s_l2)) < a1)) rfl hm (fun bC hm => ?_) (fun bC hm => ?_)
         · refine zAl <| OV v1 rfl (zAo aQ) <| OV (IV 0) rfl (zAo aT) <| OV (IV (w64 (0 + s_l2))) rfl (zAe) <| OV (IV a1) rfl (zAo aF) <| OV (.func (.func fk5) #[] cp6.toArray) rfl (zAo aR) ?_
           exact nomatch hm
         refine zAt ?_
         exact ⟨(), hm, ⟨aQ, aF, aR, aS, hL⟩⟩
       intro s_j1 cQ bY hJ hm
       unfold zEh at hm
       obtain ⟨bN, bO, bP, bQ, hL⟩ := hJ
       refine zAl <| OV (IV s_l2) rfl (zAo bQ) <| OV (IV (w64 (s_l2 * 2))) rfl (zHP rfl rfl) <| OV (IV (w64 (s_l2 * 2))) rfl (zAb) <| OW.nil ?_
       obtain rfl := oi hm
       exact ⟨_, rfl, ⟨bN, bO, bP, rfl, hL⟩⟩
     intro s_l3 cR bZ cS hJ hm cA
     unfold zHb at hm
     obtain ⟨aU, aV, aW, aX, aG, aH, hL⟩ := hJ
     refine zAF <| CSR <| OV (IV (w64 (2 * s_l2))) rfl (zAo aH) <| OV (IV a1) rfl (zAo aV) <| OV (.bool (decide ((w64 (2 * s_l2)) ≤ a1))) rfl (zKe rfl rfl) <| OW.nil ?_
     refine zAn (t := decide ((w64 (2 * s_l2)) ≤ a1)) rfl hm (fun bD hm => ?_) (fun bD hm => ?_)
     · refine zAt <| CW.block <| CSR <| OV v1 rfl (zAo aU) <| OV (IV 0) rfl (zAo aG) <| OV (IV 0) rfl (zAo aG) <| OV (IV s_l2) rfl (zAo aX) <| OV (IV (w64 (0 + s_l2))) rfl (zBe rfl rfl) <| OV (IV (w64 (2 * s_l2))) rfl (zAo aH) <| OV (.func (.func fk5) #[] cp6.toArray) rfl (zAo aW) ?_
       exact nomatch hm
     refine zA0 ?_
     refine zBk ?_
     obtain rfl := oi hm
     exact ⟨_, rfl, ⟨aU, aV, aW, aX, aG, aH, hL⟩⟩
   refine zA0 ?_
   refine zBk ?_
   obtain rfl := oi hm
   exact ⟨_, rfl, ⟨aO, aE, aP, aB, hL⟩⟩
 intro s_l1 cT cB dB hJ hm cU
 unfold zCF at hm
 obtain ⟨aM, aI, aJ, aK, aL, aY, aA, hL⟩ := hJ
 refine zAF <| CSR <| OV (IV s_l1.2.2) rfl (zAo aA) <| OV (IV a1) rfl (zAo aJ) <| OV (.bool (decide (s_l1.2.2 ≤ a1))) rfl (zKe rfl rfl) <| OW.nil ?_
 refine zAn (t := decide (s_l1.2.2 ≤ a1)) rfl hm (fun bE hm => ?_) (fun bE hm => ?_)
 · refine zAt <| CW.block <| CSR <| OV v1 rfl (zAo aI) <| OV (IV s_l1.2.1) rfl (zAo aY) <| OV (IV s_l1.2.2) rfl (zAo aA) <| OV (.func (.func fk5) #[] cp6.toArray) rfl (zAo aK) ?_
   obtain ⟨cV, bF, hm⟩ := zAs hm
   refine zAa (OP.call rfl (zAq (vs := [v1, (IV s_l1.2.1), (IV s_l1.2.2), (.func (.func fk5) #[] cp6.toArray)]) zNC ⟨rfl, rfl, rfl, rfl, trivial⟩) (zES _ s_l1.1 (hL.get 0 rfl) s_l1.2.1 s_l1.2.2 a2 (hL.fnZX 1 0 (by decide) rfl rfl hq7) bF) ?_)
   rintro cW cC ⟨bR, rfl, bG⟩
   refine ⟨_, rfl, ?_⟩
   have hL := hL.mut 0 rfl bG
   simp only [lA, lB, lC, lD] at hL
   refine ONR <| OV (IV s_l1.2.2) rfl (zAo aA) <| OV (IV s_l1.2.2) rfl (zAb) <| OW.nil <| zAl <| OV (IV s_l1.2.2) rfl (zAo aA) <| OV (IV 20) rfl (zAo aL) <| OV (IV (w64 (s_l1.2.2 + 20))) rfl (zBe rfl rfl) <| OV (IV (w64 (s_l1.2.2 + 20))) rfl (zAb) <| OW.nil ?_
   obtain rfl := oi hm
   exact ⟨_, rfl, ⟨bR, aI, aJ, aK, aL, rfl, rfl, hL⟩⟩
 refine zA0 ?_
 refine zBk ?_
 obtain rfl := oi hm
 exact ⟨_, rfl, ⟨aM, aI, aJ, aK, aL, aY, aA, hL⟩⟩

theorem zH3 (w0 : World) {E4 : TypeId} {S2 : Nat → Prop} {v1 : Value} (a0 : List Int) (he3 : (Ent.own E4 S2 v1 a0).H w0) (a1 : Int → Int → Option Int) {fk5 : FuncId} {cp6 : List Value} (hq7 : FnQ Tryz.prog fk5 cp6 (fun k => k < w0.heap.size ∧ ¬ (Ent.own E4 S2 v1 a0).S k) w0 (fun yw yvs yv => ∃ (y0 : Int) (y1 : Int) (yr : Int), yvs = [(IV y0), (IV y1)] ∧ a1 y0 y1 = some yr ∧ yv = (IV yr))) {r : (Unit) × (List Int)} (hm : zBH a0 a1 = some r) :
    Calls Tryz.prog 94 #[v1, (.func (.func fk5) #[] cp6.toArray)] w0 fun e w' => ∃ (ioS : Nat → Prop), e = .returned (.tuple #[]) ∧ Mut w0 w' (Ent.own E4 S2 v1 a0).S [Ent.own E4 ioS v1 r.2] := by
 unfold zBH at hm
 refine zAD (args := [v1, (.func (.func fk5) #[] cp6.toArray)]) Tryz.func94 rfl rfl rfl ?_
 have hL := zDc he3
 refine zAl <| OV v1 rfl (zAe) <| OV v1 rfl (zAe) <| OV (IV (a0.length : Int)) rfl (zA3 U27 rfl (hL.rdO 0 rfl)) <| OV (.func (.func fk5) #[] cp6.toArray) rfl (zAe) ?_
 obtain ⟨x8, hx9, hm⟩ := zAs hm
 refine zAa (OP.call rfl (zAq (vs := [v1, (IV (a0.length : Int)), (.func (.func fk5) #[] cp6.toArray)]) zQh ⟨rfl, rfl, rfl, trivial⟩) (zI6 _ a0 (hL.get 0 rfl) (a0.length : Int) a1 (hL.fnZX 1 0 (by decide) rfl rfl hq7) hx9) ?_)
 rintro aD aC ⟨aB, rfl, aA⟩
 refine ⟨_, rfl, ?_⟩
 have hL := hL.mut 0 rfl aA
 simp only [lA, lB, lC, lD] at hL
 refine OW.nil ?_
 obtain rfl := oi hm
 exact RR0 rfl  ⟨aB, rfl, hL.mutOut 1 rfl [0] (by decide) (by decide) rfl⟩

theorem zKl (w0 : World) (a0 : Int) (a1 : Int → Int → Option Int) {fk1 : FuncId} {cp2 : List Value} (hq3 : FnQ Tryz.prog fk1 cp2 (· < w0.heap.size) w0 (fun yw yvs yv => ∃ (y0 : Int) (y1 : Int) (yr : Int), yvs = [(IV y0), (IV y1)] ∧ a1 y0 y1 = some yr ∧ yv = (IV yr))) {r : (List Int)} (hm : zE7 a0 a1 = some r) :
    Calls Tryz.prog 62 #[(IV a0), (.func (.func fk1) #[] cp2.toArray)] w0 fun e w' => ∃ (rv0 : Value) (rS0 : Nat → Prop), e = .returned rv0 ∧ Fresh w0 w' [Ent.own 2 rS0 rv0 r] := by
 unfold zE7 at hm
 refine zAD (args := [(IV a0), (.func (.func fk1) #[] cp2.toArray)]) Tryz.func62 rfl rfl rfl ?_
 have hL := zAJ w0
 refine CSR ?_
 refine zAa (zC3 (cs := #[(.func (.func fk1) #[] cp2.toArray)]) hL rfl rfl rfl ?_)
 intro wd4 b5 hL
 refine OV (.slice none 0 0) rfl (zAb) <| ONR ?_
 refine zAa (zBS ([] : List Int) hL U27 zAf rfl (by decide) (by first | (simp [Instr.fill, madeCells, Value.cells, ev, upd, Flat.enc, Flat.sz]; done) | rfl | kernel_rfl) rfl rfl ?_)
 intro wd6 v7 S8 hL
 refine OV v7 rfl (zAb) <| ONS <| CSR <| OV (IV a0) rfl (zAe) <| OV (IV 0) rfl (zAe) <| OW.nil ?_
 obtain ⟨aW, aI, hm⟩ := zAs hm
 refine zAU (fun (s_l1 : (List Int) × Int) F w => ∃ aA aB, F 3 = (PV b5 0) ∧ F 5 = aA ∧ F 8 = (IV a0) ∧ F 9 = (IV s_l1.2) ∧ Hp w0 [Ent.own 2 aB aA s_l1.1, Ent.blk b5 83 #[(.func (.func fk1) #[] cp2.toArray)], zAg w0 w0.heap.size] w) (fun o => zBh o (fun x => some x) (fun s => zDW a1 s) = some r) aI hm ⟨v7, S8, rfl, rfl, rfl, rfl, hL⟩ ?_ ?_
 · intro s_l1 aX aQ hJ hm
   have hm := zBD hm
   have hm : zDW a1 s_l1 = some r := hm
   unfold zDW at hm
   obtain ⟨aA, aB, aN, aE, aY, aZ, hL⟩ := hJ
   refine CSR <| OV aA rfl (zAo aE) <| OV (.func (.func 95) #[] #[(PV b5 0)]) rfl (zLF (vs := [(PV b5 0)]) ⟨aN, trivial⟩) ?_
   obtain ⟨bA, aJ, hm⟩ := zAs hm
   refine zAa (OP.call rfl (zAq (vs := [aA, (.func (.func 95) #[] #[(PV b5 0)])]) zRK ⟨rfl, rfl, trivial⟩) (zH3 _ s_l1.1 (hL.get 0 rfl) (fun y0 y1 => zCY y0 y1 a1) ⟨zRL, fun yw hag yvs yv hR => by obtain ⟨y0, y1, yr, rfl, hyf, rfl⟩ := hR; exact zJT yw y0 y1 a1 (hag.fnS (hL.fnSX 2 0 (by decide) rfl rfl hq3)) (hag.bx (hL.bxX 1 0 (by decide) rfl rfl)) hyf⟩ aJ) ?_)
   rintro bB aR ⟨aO, rfl, aK⟩
   refine ⟨_, rfl, ?_⟩
   have hL := hL.mut 0 rfl aK
   simp only [lA, lB, lC, lD] at hL
   refine ONR <| OV aA rfl (zAo aE) <| OV aA rfl (zAb) <| OW.nil <| zAx ?_
   obtain rfl := oi hm
   exact RR1 rfl rfl ⟨aA, aO, rfl, hL.fresh 2 rfl [0] (by decide) (by decide) rfl⟩
 intro s_l1 bC aS bD hJ hm aT
 unfold zDX at hm
 obtain ⟨aA, aB, aF, aG, aD, aC, hL⟩ := hJ
 refine CSR <| OV (.bool (decide (s_l1.2 < a0))) rfl (zBE aC aD) <| ONS ?_
 refine zAn (t := decide (s_l1.2 < a0)) rfl hm (fun aL hm => ?_) (fun aL hm => ?_)
 · refine zAt <| zAF <| CW.block <| CSR <| OV (IV s_l1.2) rfl (zAo aC) <| OV (IV s_l1.2) rfl (zAb) <| OW.nil <| zAl <| OV aA rfl (zAo aG) <| OV (IV s_l1.2) rfl (zAe) ?_
   refine zAa (zBS ([s_l1.2] : List Int) hL U27 zAf rfl (by decide) (by first | (simp [Instr.fill, madeCells, Value.cells, ev, upd, Flat.enc, Flat.sz]; done) | rfl | kernel_rfl) rfl rfl ?_)
   intro aU bE bF hL
   obtain ⟨aM, hm⟩ := zEs hm
   refine zAa (zCA (ys := ([s_l1.2] : List Int)) hL 1 rfl U27 zAf rfl rfl rfl (hL.rdO 0 rfl) aM (by decide) rfl ?_)
   intro aV aH aP hL
   refine OV aH rfl (zAb) <| OW.nil <| zAl <| OV (IV (w64 (s_l1.2 + 1))) rfl (zBe aC rfl) <| OV (IV (w64 (s_l1.2 + 1))) rfl (zAe) <| OW.nil ?_
   have hL := hL.sl [1, 2, 3] rfl
   obtain rfl := oi hm
   exact ⟨_, rfl, ⟨aH, aP, aF, rfl, aD, rfl, hL⟩⟩
 refine zA0 ?_
 refine zBk ?_
 obtain rfl := oi hm
 exact ⟨_, rfl, ⟨aA, aB, aF, aG, aD, aC, hL⟩⟩

theorem zK1 (w0 : World) (a0 : Int) {r : Int} (hm : zJj a0 = some r) :
    Calls Tryz.prog 128 #[(.int .u64 a0)] w0 fun e w' => e = .returned (IV r) ∧ Fresh w0 w' [] := by
 unfold zJj at hm
 refine zAD (args := [(.int .u64 a0)]) Tryz.func128 rfl rfl rfl ?_
 have hL := zAJ w0
 refine CSR <| OV (IV 0) rfl (zAb) <| OW.nil ?_
 refine zAM (fun (s_j1 : Unit) F w => F 0 = (.int .u64 a0) ∧ F 2 = (IV 0) ∧ Hp w0 [zAg w0 w0.heap.size] w) (fun s_j1 => zIy a0 s_j1 = some r) ?_ ?_
 · refine CSR <| OV (.int .u64 a0) rfl (zAe) <| OV (.bool (decide (4294967296 ≤ a0))) rfl (zKf rfl rfl) <| OW.nil ?_
   refine zAn (t := decide (4294967296 ≤ a0)) rfl hm (fun aB hm => ?_) (fun aB hm => ?_)
   · exact nomatch hm
   refine zAt ?_
   exact ⟨(), hm, ⟨rfl, rfl, hL⟩⟩
 intro s_j1 F2 wd3 hJ hm
 unfold zIy at hm
 obtain ⟨f4, f5, hL⟩ := hJ
 refine zAM (fun (s_j2 : Unit) F w => F 0 = (.int .u64 a0) ∧ F 2 = (IV 0) ∧ Hp w0 [zAg w0 w0.heap.size] w) (fun s_j2 => zIx a0 s_j2 = some r) ?_ ?_
 · refine CSR <| OV (.int .u64 a0) rfl (zAo f4) <| OV (.bool (decide (65536 ≤ a0))) rfl (zKf rfl rfl) <| OW.nil ?_
   refine zAn (t := decide (65536 ≤ a0)) rfl hm (fun aC hm => ?_) (fun aC hm => ?_)
   · exact nomatch hm
   refine zAt ?_
   exact ⟨(), hm, ⟨f4, f5, hL⟩⟩
 intro s_j2 F7 wd8 hJ hm
 unfold zIx at hm
 obtain ⟨f9, aF, hL⟩ := hJ
 refine zAM (fun (s_j3 : Unit) F w => F 0 = (.int .u64 a0) ∧ F 2 = (IV 0) ∧ Hp w0 [zAg w0 w0.heap.size] w) (fun s_j3 => zIw a0 s_j3 = some r) ?_ ?_
 · refine CSR <| OV (.int .u64 a0) rfl (zAo f9) <| OV (.bool (decide (256 ≤ a0))) rfl (zKf rfl rfl) <| OW.nil ?_
   refine zAn (t := decide (256 ≤ a0)) rfl hm (fun aD hm => ?_) (fun aD hm => ?_)
   · exact nomatch hm
   refine zAt ?_
   exact ⟨(), hm, ⟨f9, aF, hL⟩⟩
 intro s_j3 aJ aI hJ hm
 unfold zIw at hm
 obtain ⟨aG, aH, hL⟩ := hJ
 refine CSR <| OV (IV 0) rfl (zAo aH) <| OV (.int .u64 a0) rfl (zAo aG) <| OV (.int .u8 (IntKind.u8.wrap a0)) rfl (zLB zT6 U5 rfl) ?_
 obtain ⟨aA, aE, hm⟩ := zAs hm
 refine OV (.int .u8 aA) rfl (zSm U9 rfl rfl aE) <| OV (IV (IntKind.i64.wrap aA)) rfl (zLB U5 U3 rfl) <| OV (IV (w64 (0 + (IntKind.i64.wrap aA)))) rfl (zBe rfl rfl) <| OV (IV (w64 (0 + (IntKind.i64.wrap aA)))) rfl (zAb) <| OW.nil <| zAx ?_
 obtain rfl := oi hm
 exact RR1 rfl rfl ⟨rfl, hL.fresh 0 rfl [] (by decide) (by decide) rfl⟩

theorem zLK (w0 : World) (a0 : Int) {r : Int} (hm : zIU a0 = some r) :
    Calls Tryz.prog 122 #[(.int .u64 a0)] w0 fun e w' => e = .returned (IV r) ∧ Fresh w0 w' [] := by
 unfold zIU at hm
 refine zAD (args := [(.int .u64 a0)]) Tryz.func122 rfl rfl rfl ?_
 have hL := zAJ w0
 refine CSR <| OV (IV 0) rfl (zAb) <| ONS ?_
 refine zOj rfl rfl ?_
 refine zAt <| CSR <| OV (.int .u64 a0) rfl (zAe) ?_
 obtain ⟨x1, hx2, hm⟩ := zAs hm
 refine zAa (OP.call rfl (zAq (vs := [(.int .u64 a0)]) zQp ⟨rfl, trivial⟩) (zK1 _ a0 hx2) ?_)
 rintro e3 wd4 ⟨rfl, hF5⟩
 refine ⟨_, rfl, ?_⟩
 have hL := hL.pushAll hF5
 simp only [lA, lB, lC, lD] at hL
 refine OV (IV x1) rfl (zAb) <| OW.nil <| zAx ?_
 obtain rfl := oi hm
 exact RR1 rfl rfl ⟨rfl, hL.fresh 0 rfl [] (by decide) (by decide) rfl⟩

theorem zJp (w0 : World) (a0 : Int) {r : Bool} (hm : zGs a0 = some r) :
    Calls Tryz.prog 151 #[(IV a0)] w0 fun e w' => e = .returned (.bool r) ∧ Fresh w0 w' [] := by
 unfold zGs at hm
 refine zAD (args := [(IV a0)]) Tryz.func151 rfl rfl rfl ?_
 have hL := zAJ w0
 refine CSR <| OV (.bool false) rfl (zAb) <| ONR <| OV (IV a0) rfl (zAe) <| OV (IV a0) rfl (zAe) <| OV (.bool (a0 != a0)) rfl (zDk rfl rfl) <| OV (.bool (a0 != a0)) rfl (zAb) <| OW.nil <| zAx ?_
 obtain rfl := oi hm
 exact RR1 rfl rfl ⟨rfl, hL.fresh 0 rfl [] (by decide) (by decide) rfl⟩

theorem zK2 (w0 : World) (a0 : Int) (a1 : Int) {r : Bool} (hm : zHc a0 a1 = some r) :
    Calls Tryz.prog 138 #[(IV a0), (IV a1)] w0 fun e w' => e = .returned (.bool r) ∧ Fresh w0 w' [] := by
 unfold zHc at hm
 refine zAD (args := [(IV a0), (IV a1)]) Tryz.func138 rfl rfl rfl ?_
 have hL := zAJ w0
 refine CSR <| OV (.bool false) rfl (zAb) <| OW.nil ?_
 refine zAM (fun (s_j1 : Bool) F w => F 4 = (.bool s_j1) ∧ Hp w0 [zAg w0 w0.heap.size] w) (fun s_j1 => zDY s_j1 = some r) ?_ ?_
 · refine zAl <| OV (IV a0) rfl (zAe) ?_
   obtain ⟨aH, aD, hm⟩ := zAs hm
   refine zAa (OP.call rfl (zAq (vs := [(IV a0)]) zND ⟨rfl, trivial⟩) (zJp _ a0 aD) ?_)
   rintro aM aJ ⟨rfl, aE⟩
   refine ⟨_, rfl, ?_⟩
   have hL := hL.pushAll aE
   simp only [lA, lB, lC, lD] at hL
   refine OV (.bool aH) rfl (zAe) ?_
   refine zAH hm (fun aA hm => ?_) (fun aA hm => ?_)
   · refine zAa (zAj rfl rfl aA (zAk (v := (IV a1)) rfl (zAe) ?_))
     obtain ⟨aC, aF, hm⟩ := zAs hm
     refine zAa (zAj rfl rfl aA (OP.call rfl (zAq (vs := [(IV a1)]) zND ⟨rfl, trivial⟩) (zJp _ a1 aF) ?_))
     rintro aN aK ⟨rfl, aG⟩
     refine ⟨_, rfl, ?_⟩
     have hL := hL.pushAll aG
     simp only [lA, lB, lC, lD] at hL
     refine zAa (zAj rfl rfl aA (zAk (v := (.bool (!aC))) rfl (zCb rfl) ?_))
     refine OV (.bool (!aC)) rfl (zAz rfl aA rfl) <| OV (.bool (!aC)) rfl (zAe) ?_
     refine zAH hm (fun aB hm => ?_) (fun aB hm => ?_)
     · refine zAa (zAh rfl rfl aB rfl ?_)
       refine zAa (zAh rfl rfl aB rfl ?_)
       refine zAa (zAh rfl rfl aB rfl ?_)
       refine OV (.bool true) rfl (zAz rfl aB rfl) <| OV (.bool true) rfl (zAb) <| OW.nil ?_
       exact ⟨true, hm, ⟨rfl, hL⟩⟩
     refine zAa (zAj rfl rfl aB (zAk (v := (IV a0)) rfl (zAe) ?_))
     refine zAa (zAj rfl rfl aB (zAk (v := (IV a1)) rfl (zAe) ?_))
     refine zAa (zAj rfl rfl aB (zAk (v := (.bool (decide (a0 < a1)))) rfl (zBE rfl rfl) ?_))
     refine OV (.bool (decide (a0 < a1))) rfl (zAA rfl aB rfl) <| OV (.bool (decide (a0 < a1))) rfl (zAb) <| OW.nil ?_
     exact ⟨decide (a0 < a1), hm, ⟨rfl, hL⟩⟩
   refine zAa (zAh rfl rfl aA rfl ?_)
   refine zAa (zAh rfl rfl aA rfl ?_)
   refine zAa (zAh rfl rfl aA rfl ?_)
   refine OV (.bool false) rfl (zAA rfl aA rfl) <| OV (.bool false) rfl (zAe) ?_
   refine zAa (zAj rfl rfl rfl (zAk (v := (IV a0)) rfl (zAe) ?_))
   refine zAa (zAj rfl rfl rfl (zAk (v := (IV a1)) rfl (zAe) ?_))
   refine zAa (zAj rfl rfl rfl (zAk (v := (.bool (decide (a0 < a1)))) rfl (zBE rfl rfl) ?_))
   refine OV (.bool (decide (a0 < a1))) rfl (zAA rfl rfl rfl) <| OV (.bool (decide (a0 < a1))) rfl (zAb) <| OW.nil ?_
   exact ⟨decide (a0 < a1), hm, ⟨rfl, hL⟩⟩
 intro s_j1 aO aL hJ hm
 unfold zDY at hm
 obtain ⟨aI, hL⟩ := hJ
 refine zAx ?_
 obtain rfl := oi hm
 exact RR1 rfl aI ⟨rfl, hL.fresh 0 rfl [] (by decide) (by decide) rfl⟩

theorem zIo (w0 : World) {E4 : TypeId} {S2 : Nat → Prop} {v1 : Value} (a0 : List Int) (he3 : (Ent.own E4 S2 v1 a0).H w0) (a1 : Int) (a2 : Int) {r : (Unit) × (List Int)} (hm : zBC a0 a1 a2 = some r) :
    Calls Tryz.prog 132 #[v1, (IV a1), (IV a2)] w0 fun e w' => ∃ (ioS : Nat → Prop), e = .returned (.tuple #[]) ∧ Mut w0 w' (Ent.own E4 S2 v1 a0).S [Ent.own E4 ioS v1 r.2] := by
 unfold zBC at hm
 refine zAD (args := [v1, (IV a1), (IV a2)]) Tryz.func132 rfl rfl rfl ?_
 have hL := zDc he3
 refine CSR <| OV (IV a1) rfl (zAe) <| OV (IV (w64 (a1 + 1))) rfl (zBe rfl rfl) <| OV (IV (w64 (a1 + 1))) rfl (zAb) <| OW.nil ?_
 obtain ⟨eD, cH, hm⟩ := zAs hm
 refine zAU (fun (s_l1 : (List Int) × Int) F w => ∃ aF, F 0 = v1 ∧ F 1 = (IV a1) ∧ F 2 = (IV a2) ∧ F 6 = (IV s_l1.2) ∧ Hp w0 [Ent.own E4 aF v1 s_l1.1, zAS w0 (Ent.own E4 S2 v1 a0).S] w) (fun o => zBh o (fun x => some x) (fun s => zBY s) = some r) cH hm ⟨S2, rfl, rfl, rfl, rfl, hL⟩ ?_ ?_
 · intro s_l1 eE dQ hJ hm
   have hm := zBD hm
   have hm : zBY s_l1 = some r := hm
   unfold zBY at hm
   obtain ⟨aF, eF, eG, eH, eI, hL⟩ := hJ
   obtain rfl := oi hm
   exact RR0 rfl  ⟨aF, rfl, hL.mutOut 1 rfl [0] (by decide) (by decide) rfl⟩
 intro s_l1 eJ dR bL hJ hm dS
 unfold zB2 at hm
 obtain ⟨aF, bM, bN, bI, aT, hL⟩ := hJ
 refine zAF <| CSR <| OV (IV s_l1.2) rfl (zAo aT) <| OV (IV a2) rfl (zAo bI) <| OV (.bool (decide (s_l1.2 < a2))) rfl (zBE rfl rfl) <| OW.nil ?_
 refine zAn (t := decide (s_l1.2 < a2)) rfl hm (fun cI hm => ?_) (fun cI hm => ?_)
 · refine zAt <| zAF <| CW.block <| CSR <| OV (IV s_l1.2) rfl (zAo aT) <| OV (IV s_l1.2) rfl (zAb) <| OW.nil ?_
   obtain ⟨dT, bO, hm⟩ := zAs hm
   refine zAU (fun (s_l2 : (List Int) × Int) F w => ∃ aB, F 0 = v1 ∧ F 1 = (IV a1) ∧ F 2 = (IV a2) ∧ F 6 = (IV s_l1.2) ∧ F 7 = (IV s_l2.2) ∧ Hp w0 [Ent.own E4 aB v1 s_l2.1, zAS w0 (Ent.own E4 S2 v1 a0).S] w) (fun o => zBh o (fun x => some (.ret x)) (fun s => zBZ s_l1 s) = some bL) bO hm ⟨aF, bM, bN, bI, aT, rfl, hL⟩ ?_ ?_
   · intro s_l2 dU dG hJ hm
     have hm := zBD hm
     have hm : zBZ s_l1 s_l2 = some bL := hm
     unfold zBZ at hm
     obtain ⟨aB, cJ, cK, cM, cN, dV, hL⟩ := hJ
     refine zAl <| OV (IV s_l1.2) rfl (zAo cN) <| OV (IV (w64 (s_l1.2 + 1))) rfl (zBe rfl rfl) <| OV (IV (w64 (s_l1.2 + 1))) rfl (zAb) <| OW.nil ?_
     obtain rfl := oi hm
     exact ⟨_, rfl, ⟨aB, cJ, cK, cM, rfl, hL⟩⟩
   intro s_l2 dW dH cO hJ hm dI
   unfold zB1 at hm
   obtain ⟨aB, aI, aU, bJ, bK, aE, hL⟩ := hJ
   refine zAF ?_
   refine zAM (fun (s_j1 : Bool) F w => F 0 = v1 ∧ F 1 = (IV a1) ∧ F 2 = (IV a2) ∧ F 6 = (IV s_l1.2) ∧ F 7 = (IV s_l2.2) ∧ F 30 = (.bool s_j1) ∧ Hp w0 [Ent.own E4 aB v1 s_l2.1, zAS w0 (Ent.own E4 S2 v1 a0).S] w) (fun s_j1 => zB0 s_l2 s_j1 = some cO) ?_ ?_
   · refine zBW zAQ ?_
     have hL := hL.call (zA8 _)
     refine DW.pre (fuel := 0) (fin := bma 15 32767) (C := fun w' => Mod zBO _ w') [0, 1, 2, 3, 4, 5, 6, 7, 8, 9, 10, 11, 12, 13, 14] (Mod.refl _ _) (by kernel_rfl) (by kernel_rfl) ?_
     refine QV (IV s_l2.2) rfl rfl (fun w' hm' => zAo aE) <| QV (IV a1) rfl rfl (fun w' hm' => zAo aU) <| QV (.bool (decide (a1 < s_l2.2))) rfl rfl (fun w' hm' => zIq rfl rfl) <| QV (.bool (decide (a1 < s_l2.2))) rfl rfl (fun w' hm' => zAe) ?_
     refine zAH hm (fun aA hm => ?_) (fun aA hm => ?_)
     · refine zAi rfl (zAB rfl rfl aA (zAN (v := v1) rfl (fun w' hm' => zAo aI) ?_))
       refine zAi rfl (zAB rfl rfl aA (zAN (v := (IV s_l2.2)) rfl (fun w' hm' => zAo aE) ?_))
       obtain ⟨aV, bP, hm⟩ := zAs hm
       obtain ⟨bQ, bB⟩ := zAZ bP
       obtain ⟨cP, cQ, aN⟩ := zAC (hL.rdO 0 rfl) bQ bB
       refine zAi rfl (zAB rfl rfl aA (zAN (v := (.pointer (some ⟨cP, cQ, none⟩))) rfl (fun w' hm' => zA1 U27 zAf rfl rfl aN) ?_))
       refine zAi rfl (zAB rfl rfl aA (zAN (v := (IV aV)) rfl (fun w' hm' => zAd U2 rfl rfl (zAv ((hL.call hm').rdO 0 rfl) aN bB 0 _ rfl)) ?_))
       refine zAi rfl (zAB rfl rfl aA (zAN (v := v1) rfl (fun w' hm' => zAo aI) ?_))
       refine zAi rfl (zAB rfl rfl aA (zAN (v := (IV s_l2.2)) rfl (fun w' hm' => zAo aE) ?_))
       refine zAi rfl (zAB rfl rfl aA (zAN (v := (IV (w64 (s_l2.2 - 1)))) rfl (fun w' hm' => zCn rfl rfl) ?_))
       obtain ⟨aW, bR, hm⟩ := zAs hm
       obtain ⟨bS, bC⟩ := zAZ bR
       obtain ⟨cR, cS, aO⟩ := zAC (hL.rdO 0 rfl) bS bC
       refine zAi rfl (zAB rfl rfl aA (zAN (v := (.pointer (some ⟨cR, cS, none⟩))) rfl (fun w' hm' => zA1 U27 zAf rfl rfl aO) ?_))
       refine zAi rfl (zAB rfl rfl aA (zAN (v := (IV aW)) rfl (fun w' hm' => zAd U2 rfl rfl (zAv ((hL.call hm').rdO 0 rfl) aO bC 0 _ rfl)) ?_))
       obtain ⟨aX, bT, hm⟩ := zAs hm
       refine zAi rfl (zAB rfl rfl aA (QP.call (v := (.bool aX)) rfl (fun w' hm' => zAq (vs := [(IV aV), (IV aW)]) zQr ⟨rfl, rfl, trivial⟩) (fun w' hm' => (zK2 w' aV aW bT).mono (fun e w'' h => ⟨h.1, hm'.trans h.2.mod⟩)) ?_))
       refine QV (.bool aX) rfl rfl (fun w' hm' => zAz rfl aA rfl) ?_
       refine QW.nil ?_
       intro dJ hmod
       have hL := hL.call hmod
       refine zBu (by kernel_rfl) ?_
       exact ⟨aX, hm, ⟨aI, aU, bJ, bK, aE, rfl, hL⟩⟩
     refine zAi rfl (zAK rfl rfl aA rfl ?_)
     refine zAi rfl (zAK rfl rfl aA rfl ?_)
     refine zAi rfl (zAK rfl rfl aA rfl ?_)
     refine zAi rfl (zAK rfl rfl aA rfl ?_)
     refine zAi rfl (zAK rfl rfl aA rfl ?_)
     refine zAi rfl (zAK rfl rfl aA rfl ?_)
     refine zAi rfl (zAK rfl rfl aA rfl ?_)
     refine zAi rfl (zAK rfl rfl aA rfl ?_)
     refine zAi rfl (zAK rfl rfl aA rfl ?_)
     refine zAi rfl (zAK rfl rfl aA rfl ?_)
     refine QV (.bool false) rfl rfl (fun w' hm' => zAA rfl aA rfl) ?_
     refine QW.nil ?_
     intro dK hmod
     have hL := hL.call hmod
     refine zBu (by kernel_rfl) ?_
     exact ⟨false, hm, ⟨aI, aU, bJ, bK, aE, rfl, hL⟩⟩
   intro s_j1 dX dL hJ hm
   unfold zB0 at hm
   obtain ⟨aC, aY, aZ, bA, aD, cT, hL⟩ := hJ
   refine zAn (t := s_j1) cT hm (fun bU hm => ?_) (fun bU hm => ?_)
   · refine zAt <| zAF <| CW.block ?_
     refine zDG (fun w' => Hp w0 [zAS w0 (Ent.own E4 S2 v1 a0).S] w') zAQ ?_
     have hL := hL.call (zA8 _)
     have hS := (hL.sl [1] rfl)
     refine zAw 0 rfl (by kernel_rfl) rfl rfl hS (zAp (v := v1) (fun w' hS' => zAo aC)) ?_
     have hS := (hL.sl [1] rfl)
     refine zAw 1 rfl (by kernel_rfl) rfl rfl hS (zAp (v := (IV s_l2.2)) (fun w' hS' => zAo aD)) ?_
     have hS := (hL.sl [1] rfl)
     refine zAw 2 rfl (by kernel_rfl) rfl rfl hS (zAp (v := v1) (fun w' hS' => zAo aC)) ?_
     have hS := (hL.sl [1] rfl)
     refine zAw 3 rfl (by kernel_rfl) rfl rfl hS (zAp (v := (IV s_l2.2)) (fun w' hS' => zAo aD)) ?_
     have hS := (hL.sl [1] rfl)
     refine zAw 4 rfl (by kernel_rfl) rfl rfl hS (zAp (v := (IV (w64 (s_l2.2 - 1)))) (fun w' hS' => zCn rfl rfl)) ?_
     have hS := (hL.sl [1] rfl)
     refine zAw 5 rfl (by kernel_rfl) rfl rfl hS (zAp (v := v1) (fun w' hS' => zAo aC)) ?_
     have hS := (hL.sl [1] rfl)
     refine zAw 6 rfl (by kernel_rfl) rfl rfl hS (zAp (v := (IV s_l2.2)) (fun w' hS' => zAo aD)) ?_
     have hS := (hL.sl [1] rfl)
     refine zAw 7 rfl (by kernel_rfl) rfl rfl hS (zAp (v := (IV (w64 (s_l2.2 - 1)))) (fun w' hS' => zCn rfl rfl)) ?_
     have hS := (hL.sl [1] rfl)
     obtain ⟨aJ, bV, hm⟩ := zAs hm
     obtain ⟨bW, aL⟩ := zAZ bV
     obtain ⟨cU, cV, aG⟩ := zAC (hL.rdO 0 rfl) bW aL
     refine zAw 8 rfl (by kernel_rfl) rfl rfl hS (zAp (v := (.pointer (some ⟨cU, cV, none⟩))) (fun w' hS' => zA1 U27 zAf rfl rfl aG)) ?_
     have hS := (hL.sl [1] rfl)
     refine zAw 10 rfl (by kernel_rfl) rfl rfl hS (zAp (v := v1) (fun w' hS' => zAo aC)) ?_
     have hS := (hL.sl [1] rfl)
     refine zAw 11 rfl (by kernel_rfl) rfl rfl hS (zAp (v := (IV s_l2.2)) (fun w' hS' => zAo aD)) ?_
     have hS := (hL.sl [1] rfl)
     obtain ⟨aK, bX, hm⟩ := zAs hm
     obtain ⟨bY, aM⟩ := zAZ bX
     obtain ⟨cW, cX, aH⟩ := zAC (hL.rdO 0 rfl) bY aM
     refine zAw 12 rfl (by kernel_rfl) rfl rfl hS (zAp (v := (.pointer (some ⟨cW, cX, none⟩))) (fun w' hS' => zA1 U27 zAf rfl rfl aH)) ?_
     refine DH.all (rs := [9, 13]) (by kernel_rfl) (by simp) ?_
     intro dY bD
     simp only [List.mem_cons, List.not_mem_nil, or_false] at bD
     rcases bD with rfl | rfl
     · refine ⟨_, rfl, ?_⟩
       refine zAk (v := (IV aJ)) rfl (zAd U2 rfl rfl (zAv (hL.rdO 0 rfl) aG aL 0 _ rfl)) ?_
       refine ⟨(hL.sl [1] rfl), ?_⟩
       refine zAT 13 rfl (by kernel_rfl) (zAk (v := (IV aK)) rfl (zAd U2 rfl rfl (zAv (hL.rdO 0 rfl) aH aM 0 _ rfl)) ?_)
       refine ⟨(hL.sl [1] rfl), ?_⟩
       have hS := (hL.sl [1] rfl)
       obtain ⟨dZ, bZ, hm⟩ := zAs hm
       obtain ⟨cA, bE⟩ := zAZ bZ
       obtain ⟨cY, cZ, aP⟩ := zAC (hL.rdO 0 rfl) cA bE
       refine zAw 14 rfl (by kernel_rfl) rfl rfl hS (zAp (v := (.pointer (some ⟨cY, cZ, none⟩))) (fun w' hS' => zA1 U27 zAf rfl rfl aP)) ?_
       refine zAT 15 rfl (by kernel_rfl) (zBV (j := 0) aJ hL 0 rfl zAf aP bE rfl rfl rfl rfl rfl rfl ?_)
       intro dM hL
       refine ⟨(hL.sl [1] rfl), ?_⟩
       have hS := (hL.sl [1] rfl)
       obtain ⟨eA, cB, hm⟩ := zAs hm
       obtain ⟨cC, bF⟩ := zAZ cB
       obtain ⟨dA, dB, aQ⟩ := zAC (hL.rdO 0 rfl) cC bF
       refine zAw 16 rfl (by kernel_rfl) rfl rfl hS (zAp (v := (.pointer (some ⟨dA, dB, none⟩))) (fun w' hS' => zA1 U27 zAf rfl rfl aQ)) ?_
       refine zAT 17 rfl (by kernel_rfl) (zBV (j := 0) aK hL 0 rfl zAf aQ bF rfl rfl rfl rfl rfl rfl ?_)
       intro dN hL
       refine ⟨(hL.sl [1] rfl), ?_⟩
       refine zDB (by kernel_rfl) ?_
       refine zAl <| OV (IV s_l2.2) rfl (zAo aD) <| OV (IV (w64 (s_l2.2 - 1))) rfl (zCn rfl rfl) <| OV (IV (w64 (s_l2.2 - 1))) rfl (zAb) <| OW.nil ?_
       obtain rfl := oi hm
       exact ⟨_, rfl, ⟨aB, aC, aY, aZ, bA, rfl, hL⟩⟩
     refine ⟨_, rfl, ?_⟩
     refine zAk (v := (IV aK)) rfl (zAd U2 rfl rfl (zAv (hL.rdO 0 rfl) aH aM 0 _ rfl)) ?_
     refine ⟨(hL.sl [1] rfl), ?_⟩
     refine zAT 9 rfl (by kernel_rfl) (zAk (v := (IV aJ)) rfl (zAd U2 rfl rfl (zAv (hL.rdO 0 rfl) aG aL 0 _ rfl)) ?_)
     refine ⟨(hL.sl [1] rfl), ?_⟩
     have hS := (hL.sl [1] rfl)
     obtain ⟨eB, cD, hm⟩ := zAs hm
     obtain ⟨cE, bG⟩ := zAZ cD
     obtain ⟨dC, dD, aR⟩ := zAC (hL.rdO 0 rfl) cE bG
     refine zAw 14 rfl (by kernel_rfl) rfl rfl hS (zAp (v := (.pointer (some ⟨dC, dD, none⟩))) (fun w' hS' => zA1 U27 zAf rfl rfl aR)) ?_
     refine zAT 15 rfl (by kernel_rfl) (zBV (j := 0) aJ hL 0 rfl zAf aR bG rfl rfl rfl rfl rfl rfl ?_)
     intro dO hL
     refine ⟨(hL.sl [1] rfl), ?_⟩
     have hS := (hL.sl [1] rfl)
     obtain ⟨eC, cF, hm⟩ := zAs hm
     obtain ⟨cG, bH⟩ := zAZ cF
     obtain ⟨dE, dF, aS⟩ := zAC (hL.rdO 0 rfl) cG bH
     refine zAw 16 rfl (by kernel_rfl) rfl rfl hS (zAp (v := (.pointer (some ⟨dE, dF, none⟩))) (fun w' hS' => zA1 U27 zAf rfl rfl aS)) ?_
     refine zAT 17 rfl (by kernel_rfl) (zBV (j := 0) aK hL 0 rfl zAf aS bH rfl rfl rfl rfl rfl rfl ?_)
     intro dP hL
     refine ⟨(hL.sl [1] rfl), ?_⟩
     refine zDB (by kernel_rfl) ?_
     refine zAl <| OV (IV s_l2.2) rfl (zAo aD) <| OV (IV (w64 (s_l2.2 - 1))) rfl (zCn rfl rfl) <| OV (IV (w64 (s_l2.2 - 1))) rfl (zAb) <| OW.nil ?_
     obtain rfl := oi hm
     exact ⟨_, rfl, ⟨aB, aC, aY, aZ, bA, rfl, hL⟩⟩
   refine zA0 ?_
   refine zBk ?_
   obtain rfl := oi hm
   exact ⟨_, rfl, ⟨aB, aC, aY, aZ, bA, aD, hL⟩⟩
 refine zA0 ?_
 refine zBk ?_
 obtain rfl := oi hm
 exact ⟨_, rfl, ⟨aF, bM, bN, bI, aT, hL⟩⟩

theorem zI3 (w0 : World) {E4 : TypeId} {S2 : Nat → Prop} {v1 : Value} (a0 : List Int) (he3 : (Ent.own E4 S2 v1 a0).H w0) (a1 : Int) (a2 : Int) (a3 : Int) {r : (Unit) × (List Int)} (hm : zCZ a0 a1 a2 a3 = some r) :
    Calls Tryz.prog 121 #[v1, (IV a1), (IV a2), (IV a3)] w0 fun e w' => ∃ (ioS : Nat → Prop), e = .returned (.tuple #[]) ∧ Mut w0 w' (Ent.own E4 S2 v1 a0).S [Ent.own E4 ioS v1 r.2] := by
 unfold zCZ at hm
 refine zAD (args := [v1, (IV a1), (IV a2), (IV a3)]) Tryz.func121 rfl rfl rfl ?_
 have hL := zDc he3
 refine CSR <| OV (.bool true) rfl (zAb) <| ONR <| OV (.bool true) rfl (zAb) <| OW.nil ?_
 obtain ⟨aV, aF, hm⟩ := zAs hm
 refine zAU (fun (s_l1 : Unit) F w => F 0 = v1 ∧ F 1 = (IV a1) ∧ F 2 = (IV a2) ∧ F 3 = (IV a3) ∧ F 8 = (.bool true) ∧ F 9 = (.bool true) ∧ Hp w0 [Ent.own E4 S2 v1 a0, zAS w0 (Ent.own E4 S2 v1 a0).S] w) (fun o => zBh o (fun x => some x) (fun s => zCs a0 s) = some r) aF hm ⟨rfl, rfl, rfl, rfl, rfl, rfl, hL⟩ ?_ ?_
 · intro s_l1 aW aR hJ hm
   have hm := zBD hm
   have hm : zCs a0 s_l1 = some r := hm
   unfold zCs at hm
   obtain ⟨aX, aY, aZ, bA, bB, bC, hL⟩ := hJ
   obtain rfl := oi hm
   exact RR0 rfl  ⟨S2, rfl, hL.mutOut 1 rfl [0] (by decide) (by decide) rfl⟩
 intro s_l1 bD aS aL hJ hm aG
 unfold zCt at hm
 obtain ⟨aC, aA, aB, aD, aE, aM, hL⟩ := hJ
 refine CW.block <| CSR <| OV (IV a2) rfl (zAo aB) <| OV (IV a1) rfl (zAo aA) <| OV (IV (w64 (a2 - a1))) rfl (zCn rfl rfl) <| OV (IV (w64 (a2 - a1))) rfl (zAb) <| ONS <| CSR <| OV (IV (w64 (a2 - a1))) rfl (zAe) <| OV (.bool (decide ((w64 (a2 - a1)) ≤ 12))) rfl (zKe rfl rfl) <| OW.nil ?_
 refine zAn (t := decide ((w64 (a2 - a1)) ≤ 12)) rfl hm (fun aH hm => ?_) (fun aH hm => ?_)
 · refine CSR <| OV v1 rfl (zAo aC) <| OV (IV a1) rfl (zAo aA) <| OV (IV a2) rfl (zAo aB) ?_
   obtain ⟨bE, aI, hm⟩ := zAs hm
   refine zAa (OP.call rfl (zAq (vs := [v1, (IV a1), (IV a2)]) zQq ⟨rfl, rfl, rfl, trivial⟩) (zIo _ a0 (hL.get 0 rfl) a1 a2 aI) ?_)
   rintro bF aT ⟨aN, rfl, aJ⟩
   refine ⟨_, rfl, ?_⟩
   have hL := hL.mut 0 rfl aJ
   simp only [lA, lB, lC, lD] at hL
   refine OW.nil <| zAx ?_
   obtain rfl := oi hm
   have hm := aG _ rfl
   obtain rfl := oi hm
   exact RR0 rfl  ⟨aN, rfl, hL.mutOut 1 rfl [0] (by decide) (by decide) rfl⟩
 refine zAt <| zAF <| CSR <| OV (IV a3) rfl (zAo aD) <| OV (.bool (a3 == 0)) rfl (zBv rfl rfl) <| OW.nil ?_
 refine zAn (t := a3 == 0) rfl hm (fun aK hm => ?_) (fun aK hm => ?_)
 · refine CSR <| OV v1 rfl (zAo aC) <| OV (IV a1) rfl (zAo aA) <| OV (IV a2) rfl (zAo aB) ?_
   exact nomatch hm
 refine zAt ?_
 refine zAM (fun (s_j1 : Unit) F w => F 0 = v1 ∧ F 1 = (IV a1) ∧ F 2 = (IV a2) ∧ F 3 = (IV a3) ∧ F 8 = (.bool true) ∧ F 9 = (.bool true) ∧ F 10 = (IV (w64 (a2 - a1))) ∧ Hp w0 [Ent.own E4 S2 v1 a0, zAS w0 (Ent.own E4 S2 v1 a0).S] w) (fun s_j1 => zD2 s_j1 = some aL) ?_ ?_
 · refine CSR <| OV (.bool true) rfl (zAo aE) <| OV (.bool false) rfl (zCb (b := true) rfl) <| OW.nil ?_
   refine zOj rfl rfl ?_
   refine zAt ?_
   exact ⟨(), hm, ⟨aC, aA, aB, aD, aE, aM, rfl, hL⟩⟩
 intro s_j1 bG aU hJ hm
 unfold zD2 at hm
 obtain ⟨aO, aP, aQ, bH, bI, bJ, bK, hL⟩ := hJ
 refine CSR <| OV v1 rfl (zAo aO) <| OV (IV a1) rfl (zAo aP) <| OV (IV a2) rfl (zAo aQ) ?_
 exact nomatch hm

theorem zHl (w0 : World) {E4 : TypeId} {S2 : Nat → Prop} {v1 : Value} (a0 : List Int) (he3 : (Ent.own E4 S2 v1 a0).H w0) {r : (Unit) × (List Int)} (hm : zB5 a0 = some r) :
    Calls Tryz.prog 103 #[v1] w0 fun e w' => ∃ (ioS : Nat → Prop), e = .returned (.tuple #[]) ∧ Mut w0 w' (Ent.own E4 S2 v1 a0).S [Ent.own E4 ioS v1 r.2] := by
 unfold zB5 at hm
 refine zAD (args := [v1]) Tryz.func103 rfl rfl rfl ?_
 have hL := zDc he3
 refine CSR <| OV v1 rfl (zAe) <| OV (IV (a0.length : Int)) rfl (zA3 U27 rfl (hL.rdO 0 rfl)) <| OV (IV (a0.length : Int)) rfl (zAb) <| OW.nil <| zAl <| OV v1 rfl (zAe) <| OV (IV (a0.length : Int)) rfl (zAe) <| OV (IV (a0.length : Int)) rfl (zAe) <| OV (.int .u64 (IntKind.u64.wrap (a0.length : Int))) rfl (zLB U3 zT7 rfl) ?_
 obtain ⟨x5, hx6, hm⟩ := zAs hm
 refine zAa (OP.call rfl (zAq (vs := [(.int .u64 (IntKind.u64.wrap (a0.length : Int)))]) zQm ⟨rfl, trivial⟩) (zLK _ (IntKind.u64.wrap (a0.length : Int)) hx6) ?_)
 rintro e7 wd8 ⟨rfl, hF9⟩
 refine ⟨_, rfl, ?_⟩
 have hL := hL.pushAll hF9
 simp only [lA, lB, lC, lD] at hL
 obtain ⟨aE, aA, hm⟩ := zAs hm
 refine zAa (OP.call rfl (zAq (vs := [v1, (IV 0), (IV (a0.length : Int)), (IV x5)]) zQl ⟨rfl, rfl, rfl, rfl, trivial⟩) (zI3 _ a0 (hL.get 0 rfl) 0 (a0.length : Int) x5 aA) ?_)
 rintro aF aD ⟨aC, rfl, aB⟩
 refine ⟨_, rfl, ?_⟩
 have hL := hL.mut 0 rfl aB
 simp only [lA, lB, lC, lD] at hL
 refine OW.nil ?_
 obtain rfl := oi hm
 exact RR0 rfl  ⟨aC, rfl, hL.mutOut 1 rfl [0] (by decide) (by decide) rfl⟩

theorem zK3 (w0 : World) (a0 : Table) {v1 : Value} {v3 : Value} (h2 : rdL (· < w0.heap.size) w0 v1 a0.Points) (h4 : rdL (· < w0.heap.size) w0 v3 a0.Codes) (a1 : List Int) {v5 : Value} (h6 : rdL (· < w0.heap.size) w0 v5 a1) (a2 : Int) {r : (List Int)} (hm : zHe a0 a1 a2 = some r) :
    Calls Tryz.prog 98 #[(.agg #[(IV a0.Boats), v1, v3]), v5, (IV a2)] w0 fun e w' => ∃ (rv0 : Value) (rS0 : Nat → Prop), e = .returned rv0 ∧ Fresh w0 w' [Ent.own 2 rS0 rv0 r] := by
 unfold zHe at hm
 refine zAD (args := [(.agg #[(IV a0.Boats), v1, v3]), v5, (IV a2)]) Tryz.func98 rfl rfl rfl ?_
 have hL := zAJ w0
 refine CSR ?_
 refine zAa (zC3 (cs := #[(IV a0.Boats), v1, v3]) hL rfl rfl rfl ?_)
 intro wd7 b8 hL
 refine zAa (zC3 (cs := #[(IV a2)]) hL rfl rfl rfl ?_)
 intro wd9 aD hL
 refine OV (.slice none 0 0) rfl (zAb) <| ONR ?_
 refine zAa (zBS ([] : List Int) hL U27 zAf rfl (by decide) (by first | (simp [Instr.fill, madeCells, Value.cells, ev, upd, Flat.enc, Flat.sz]; done) | rfl | kernel_rfl) rfl rfl ?_)
 intro dR bZ dE hL
 refine OV v5 rfl (zAe) <| OV (PV b8 1) rfl (zAc (fsz := 1) 0 1 1 U26 rfl zBq rfl rfl rfl) <| OV v1 rfl (zAd U24 rfl rfl (hL.cellB 2 rfl rfl)) <| OV (IV (a0.Points.length : Int)) rfl (zA3 U24 rfl (hL.rdS 3 rfl h2)) ?_
 obtain ⟨dF, cA, hm⟩ := zAs hm
 refine zAa (OP.call rfl (zAq (vs := [v5, (IV (a0.Points.length : Int))]) zQi ⟨rfl, rfl, trivial⟩) (zKy _ a1 (hL.rdS 3 rfl h6) (a0.Points.length : Int) cA) ?_)
 rintro eL dS ⟨rfl, cB⟩
 refine ⟨_, rfl, ?_⟩
 have hL := hL.pushAll cB
 simp only [lA, lB, lC, lD] at hL
 refine OV bZ rfl (zAb) <| OV (IV dF) rfl (zAb) <| ONS <| CSR <| OV (PV b8 1) rfl (zAc (fsz := 1) 0 1 1 U26 rfl zBq rfl rfl rfl) <| OV v1 rfl (zAd U24 rfl rfl (hL.cellB 2 rfl rfl)) <| OV (IV (a0.Points.length : Int)) rfl (zA3 U24 rfl (hL.rdS 3 rfl h2)) <| OV (.func (.func 119) #[] #[(PV b8 0), (PV aD 0)]) rfl (zLF (vs := [(PV b8 0), (PV aD 0)]) ⟨rfl, rfl, trivial⟩) ?_
 obtain ⟨aE, cC, hm⟩ := zAs hm
 refine zAa (OP.call rfl (zAq (vs := [(IV (a0.Points.length : Int)), (.func (.func 119) #[] #[(PV b8 0), (PV aD 0)])]) zRp ⟨rfl, rfl, trivial⟩) (zKl _ (a0.Points.length : Int) (fun y0 y1 => zDi y0 y1 a0 a2) ⟨zQj, fun yw hag yvs yv hR => by obtain ⟨y0, y1, yr, rfl, hyf, rfl⟩ := hR; exact zKz yw y0 y1 a0 (hag.rdL (hL.rdS 3 rfl h2)) (hag.rdL (hL.rdS 3 rfl h4)) (hag.bx (hL.bxB 2 rfl)) a2 (hag.bx (hL.bxB 1 rfl)) hyf⟩ cC) ?_)
 rintro eM dT ⟨aG, aW, rfl, cD⟩
 refine ⟨_, rfl, ?_⟩
 have hL := hL.pushAll cD
 simp only [lA, lB, lC, lD] at hL
 refine OV (IV (aE.length : Int)) rfl (zA3 U27 rfl (hL.rdO 0 rfl)) <| OV (IV 0) rfl (zAe) <| OW.nil ?_
 obtain ⟨dU, bK, hm⟩ := zAs hm
 have hL := hL.sl [1, 0, 2, 3, 4] rfl
 refine zAU (fun (s_l1 : (List Int) × Int × Int) F w => ∃ aB aF, F 3 = (PV b8 0) ∧ F 5 = (PV aD 0) ∧ F 7 = aB ∧ F 8 = (IV s_l1.2.1) ∧ F 21 = aG ∧ F 22 = (IV (aE.length : Int)) ∧ F 23 = (IV s_l1.2.2) ∧ Hp w0 [Ent.own 2 aF aB s_l1.1, Ent.own 2 aW aG aE, Ent.blk aD 2 #[(IV a2)], Ent.blk b8 26 #[(IV a0.Boats), v1, v3], zAg w0 w0.heap.size] w) (fun o => zBh o (fun x => some x) (fun s => zE8 s) = some r) bK hm ⟨bZ, dE, rfl, rfl, rfl, rfl, rfl, rfl, rfl, hL⟩ ?_ ?_
 · intro s_l1 dV dG hJ hm
   have hm := zBD hm
   have hm : zE8 s_l1 = some r := hm
   unfold zE8 at hm
   obtain ⟨aB, aF, dW, dX, bA, dY, dZ, eA, eB, hL⟩ := hJ
   refine CSR <| OV aB rfl (zAo bA) ?_
   obtain ⟨eC, bL, hm⟩ := zAs hm
   refine zAa (OP.call rfl (zAq (vs := [aB]) zNA ⟨rfl, trivial⟩) (zHl _ s_l1.1 (hL.get 0 rfl) bL) ?_)
   rintro eD dH ⟨cE, rfl, bM⟩
   refine ⟨_, rfl, ?_⟩
   have hL := hL.mut 0 rfl bM
   simp only [lA, lB, lC, lD] at hL
   refine ONR <| OV aB rfl (zAo bA) <| OV aB rfl (zAb) <| OW.nil <| zAx ?_
   obtain rfl := oi hm
   exact RR1 rfl rfl ⟨aB, cE, rfl, hL.fresh 4 rfl [0] (by decide) (by decide) rfl⟩
 intro s_l1 eE dI aS hJ hm dJ
 unfold zFb at hm
 obtain ⟨aB, aF, aI, aJ, aT, aK, aL, aM, aH, hL⟩ := hJ
 refine CSR <| OV (.bool (decide (s_l1.2.2 < (aE.length : Int)))) rfl (zBE aH aM) <| ONS ?_
 refine zAn (t := decide (s_l1.2.2 < (aE.length : Int))) rfl hm (fun bN hm => ?_) (fun bN hm => ?_)
 · refine zAt ?_
   refine zAM (fun (s_j1 : (List Int) × Int) F w => ∃ aN aU, F 3 = (PV b8 0) ∧ F 5 = (PV aD 0) ∧ F 7 = aN ∧ F 8 = (IV s_j1.2) ∧ F 21 = aG ∧ F 22 = (IV (aE.length : Int)) ∧ F 23 = (IV s_l1.2.2) ∧ Hp w0 [Ent.own 2 aU aN s_j1.1, Ent.own 2 aW aG aE, Ent.blk aD 2 #[(IV a2)], Ent.blk b8 26 #[(IV a0.Boats), v1, v3], zAg w0 w0.heap.size] w) (fun s_j1 => zHd s_l1 s_j1 = some aS) ?_ ?_
   · refine zBG (fun (s_j2 : (List Int) × Int) F w => ∃ aO aV, F 3 = (PV b8 0) ∧ F 5 = (PV aD 0) ∧ F 7 = aO ∧ F 8 = (IV s_j2.2) ∧ F 21 = aG ∧ F 22 = (IV (aE.length : Int)) ∧ F 23 = (IV s_l1.2.2) ∧ Hp w0 [Ent.own 2 aV aO s_j2.1, Ent.own 2 aW aG aE, Ent.blk aD 2 #[(IV a2)], Ent.blk b8 26 #[(IV a0.Boats), v1, v3], zAg w0 w0.heap.size] w) (fun s_j2 => zE9 s_l1 s_j2 = some aS) ?_ ?_
     · refine CSR ?_
       obtain ⟨aC, bO, hm⟩ := zAs hm
       obtain ⟨bP, aX⟩ := zAZ bO
       obtain ⟨cF, cG, aQ⟩ := zAC (hL.rdO 1 rfl) bP aX
       refine OV (.pointer (some ⟨cF, cG, none⟩)) rfl (zA1 U27 zAf aL aH aQ) <| OV (IV aC) rfl (zAd U2 rfl rfl (zAv (hL.rdO 1 rfl) aQ aX 0 _ rfl)) <| OV (IV aC) rfl (zAb) <| OW.nil ?_
       refine zAM (fun (s_j3 : Bool) F w => F 3 = (PV b8 0) ∧ F 5 = (PV aD 0) ∧ F 7 = aB ∧ F 8 = (IV s_l1.2.1) ∧ F 10 = (IV aC) ∧ F 21 = aG ∧ F 22 = (IV (aE.length : Int)) ∧ F 23 = (IV s_l1.2.2) ∧ F 39 = (.bool s_j3) ∧ Hp w0 [Ent.own 2 aF aB s_l1.1, Ent.own 2 aW aG aE, Ent.blk aD 2 #[(IV a2)], Ent.blk b8 26 #[(IV a0.Boats), v1, v3], zAg w0 w0.heap.size] w) (fun s_j3 => zFa s_l1 aC s_j3 = some aS) ?_ ?_
       · refine zBW zAQ ?_
         have hL := hL.call (zA8 _)
         refine DW.pre (fuel := 0) (fin := bma 13 8191) (C := fun w' => Mod zBO _ w') [0, 1, 2, 3, 4, 5, 6, 7, 8, 9, 10, 11, 12] (Mod.refl _ _) (by kernel_rfl) (by kernel_rfl) ?_
         refine QV (IV s_l1.2.1) rfl rfl (fun w' hm' => zAo aK) <| QV (.bool (decide (0 < s_l1.2.1))) rfl rfl (fun w' hm' => zIq rfl rfl) <| QV (.bool (decide (0 < s_l1.2.1))) rfl rfl (fun w' hm' => zAe) ?_
         refine zAH hm (fun aA hm => ?_) (fun aA hm => ?_)
         · refine zAi rfl (zAB rfl rfl aA (zAN (v := (PV b8 2)) rfl (fun w' hm' => zAc (fsz := 1) 0 2 2 U26 rfl zBq rfl aI rfl) ?_))
           refine zAi rfl (zAB rfl rfl aA (zAN (v := v3) rfl (fun w' hm' => zAd U24 rfl rfl ((hL.call hm').cellB 3 rfl rfl)) ?_))
           refine zAi rfl (zAB rfl rfl aA (zAN (v := (IV aC)) rfl (fun w' hm' => zAe) ?_))
           obtain ⟨eF, bQ, hm⟩ := zAs hm
           obtain ⟨bR, bS⟩ := zAZ bQ
           obtain ⟨cH, cI, cJ, bB, bT, bU, aY⟩ := zCp h4 bR bS
           refine zAi rfl (zAB rfl rfl aA (zAN (v := (.pointer (some ⟨cH, cI, none⟩))) rfl (fun w' hm' => zA1 U24 zAR rfl rfl bB) ?_))
           refine zAi rfl (zAB rfl rfl aA (zAN (v := cJ) rfl (fun w' hm' => zAd U27 rfl rfl ((hL.call hm').cellS 4 rfl bT bU)) ?_))
           refine zAi rfl (zAB rfl rfl aA (zAN (v := (IV a2)) rfl (fun w' hm' => zAd U2 rfl aJ ((hL.call hm').cellB 2 rfl rfl)) ?_))
           obtain ⟨aP, bV, hm⟩ := zAs hm
           obtain ⟨bW, aZ⟩ := zAZ bV
           obtain ⟨cK, cM, aR⟩ := zAC (hL.rdS 4 rfl aY) bW aZ
           refine zAi rfl (zAB rfl rfl aA (zAN (v := (.pointer (some ⟨cK, cM, none⟩))) rfl (fun w' hm' => zA1 U27 zAf rfl rfl aR) ?_))
           refine zAi rfl (zAB rfl rfl aA (zAN (v := (IV aP)) rfl (fun w' hm' => zAd U2 rfl rfl (zAv ((hL.call hm').rdS 4 rfl aY) aR aZ 0 _ rfl)) ?_))
           refine zAi rfl (zAB rfl rfl aA (zAN (v := (.bool (aP != 7))) rfl (fun w' hm' => zDk rfl rfl) ?_))
           refine QV (.bool (aP != 7)) rfl rfl (fun w' hm' => zAz rfl aA rfl) ?_
           refine QW.nil ?_
           intro dK hmod
           have hL := hL.call hmod
           refine zBu (by kernel_rfl) ?_
           exact ⟨aP != 7, hm, ⟨aI, aJ, aT, aK, rfl, aL, aM, aH, rfl, hL⟩⟩
         refine zAi rfl (zAK rfl rfl aA rfl ?_)
         refine zAi rfl (zAK rfl rfl aA rfl ?_)
         refine zAi rfl (zAK rfl rfl aA rfl ?_)
         refine zAi rfl (zAK rfl rfl aA rfl ?_)
         refine zAi rfl (zAK rfl rfl aA rfl ?_)
         refine zAi rfl (zAK rfl rfl aA rfl ?_)
         refine zAi rfl (zAK rfl rfl aA rfl ?_)
         refine zAi rfl (zAK rfl rfl aA rfl ?_)
         refine zAi rfl (zAK rfl rfl aA rfl ?_)
         refine QV (.bool false) rfl rfl (fun w' hm' => zAA rfl aA rfl) ?_
         refine QW.nil ?_
         intro dL hmod
         have hL := hL.call hmod
         refine zBu (by kernel_rfl) ?_
         exact ⟨false, hm, ⟨aI, aJ, aT, aK, rfl, aL, aM, aH, rfl, hL⟩⟩
       intro s_j3 eG dM hJ hm
       unfold zFa at hm
       obtain ⟨bC, bD, bE, bF, cN, bG, bH, bI, cO, hL⟩ := hJ
       refine zAn (t := s_j3) cO hm (fun bX hm => ?_) (fun bX hm => ?_)
       · refine CSR <| OV aB rfl (zAo bE) <| OV (IV aC) rfl (zAo cN) ?_
         refine zAa (zBS ([aC] : List Int) hL U27 zAf rfl (by decide) (by first | (simp [Instr.fill, madeCells, Value.cells, ev, upd, Flat.enc, Flat.sz]; done) | rfl | kernel_rfl) rfl rfl ?_)
         intro dN eH eI hL
         obtain ⟨bY, hm⟩ := zEs hm
         refine zAa (zCA (ys := ([aC] : List Int)) hL 1 rfl U27 zAf rfl rfl rfl (hL.rdO 0 rfl) bY (by decide) rfl ?_)
         intro dO bJ cP hL
         refine OV bJ rfl (zAb) <| OW.nil <| zAl <| OV (IV s_l1.2.1) rfl (zAo bF) <| OV (IV (w64 (s_l1.2.1 - 1))) rfl (zCn rfl rfl) <| OV (IV (w64 (s_l1.2.1 - 1))) rfl (zAb) <| OW.nil ?_
         have hL := hL.sl [1, 2, 3, 4, 5] rfl
         exact ⟨(s_l1.1 ++ ([aC] : List Int), w64 (s_l1.2.1 - 1)), hm, ⟨bJ, cP, bC, bD, rfl, rfl, bG, bH, bI, hL⟩⟩
       refine zAt ?_
       exact ⟨(s_l1.1, s_l1.2.1), hm, ⟨aB, aF, bC, bD, bE, bF, bG, bH, bI, hL⟩⟩
     intro s_j2 eJ dP hJ hm
     unfold zE9 at hm
     obtain ⟨aO, aV, cQ, cR, cS, cT, cU, cV, cW, hL⟩ := hJ
     exact ⟨(s_j2.1, s_j2.2), hm, ⟨aO, aV, cQ, cR, cS, cT, cU, cV, cW, hL⟩⟩
   intro s_j1 eK dQ hJ hm
   unfold zHd at hm
   obtain ⟨aN, aU, cX, cY, cZ, dA, dB, dC, dD, hL⟩ := hJ
   refine zAl <| OV (IV (w64 (s_l1.2.2 + 1))) rfl (zBe dD rfl) <| OV (IV (w64 (s_l1.2.2 + 1))) rfl (zAe) <| OW.nil ?_
   obtain rfl := oi hm
   exact ⟨_, rfl, ⟨aN, aU, cX, cY, cZ, dA, dB, dC, rfl, hL⟩⟩
 refine zA0 ?_
 refine zBk ?_
 obtain rfl := oi hm
 exact ⟨_, rfl, ⟨aB, aF, aI, aJ, aT, aK, aL, aM, aH, hL⟩⟩

theorem zI7 (w0 : World) (a0 : List Int) {v1 : Value} (h2 : rdL (· < w0.heap.size) w0 v1 a0) (a1 : Int) {r : Int} (hm : zCk a0 a1 = some r) :
    Calls Tryz.prog 120 #[v1, (IV a1)] w0 fun e w' => e = .returned (IV r) ∧ Fresh w0 w' [] := by
 unfold zCk at hm
 refine zAD (args := [v1, (IV a1)]) Tryz.func120 rfl rfl rfl ?_
 have hL := zAJ w0
 refine CSR <| OV (IV 0) rfl (zAb) <| ONS <| CSR <| OV v1 rfl (zAe) <| OV (IV (a0.length : Int)) rfl (zA3 U27 rfl (hL.rdS 0 rfl h2)) <| OV (IV 0) rfl (zAe) <| OW.nil ?_
 obtain ⟨aR, aH, hm⟩ := zAs hm
 refine zAU (fun (s_l1 : Int) F w => F 0 = v1 ∧ F 1 = (IV a1) ∧ F 7 = (IV (a0.length : Int)) ∧ F 8 = (IV s_l1) ∧ Hp w0 [zAg w0 w0.heap.size] w) (fun o => zBh o (fun x => some x) (fun s => zB9 s) = some r) aH hm ⟨rfl, rfl, rfl, rfl, hL⟩ ?_ ?_
 · intro s_l1 aS aP hJ hm
   have hm := zBD hm
   have hm : zB9 s_l1 = some r := hm
   unfold zB9 at hm
   obtain ⟨aT, aU, aV, aW, hL⟩ := hJ
   refine CSR <| OV (IV (-1)) rfl (zAb) <| OW.nil <| zAx ?_
   obtain rfl := oi hm
   exact RR1 rfl rfl ⟨rfl, hL.fresh 0 rfl [] (by decide) (by decide) rfl⟩
 intro s_l1 aX aQ aY hJ hm aI
 unfold zBp at hm
 obtain ⟨aC, aD, aE, aA, hL⟩ := hJ
 refine CSR <| OV (.bool (decide (s_l1 < (a0.length : Int)))) rfl (zBE aA aE) <| ONS ?_
 refine zAn (t := decide (s_l1 < (a0.length : Int))) rfl hm (fun aJ hm => ?_) (fun aJ hm => ?_)
 · refine zAt <| zAF <| CW.block <| CSR <| OV (IV s_l1) rfl (zAo aA) <| OV (IV s_l1) rfl (zAb) <| ONR <| OV (IV a1) rfl (zAo aD) <| OV v1 rfl (zAo aC) <| OV (IV s_l1) rfl (zAe) ?_
   obtain ⟨aF, aK, hm⟩ := zAs hm
   obtain ⟨aL, aG⟩ := zAZ aK
   obtain ⟨aN, aO, aB⟩ := zAC (hL.rdS 0 rfl h2) aL aG
   refine OV (.pointer (some ⟨aN, aO, none⟩)) rfl (zA1 U27 zAf rfl rfl aB) <| OV (IV aF) rfl (zAd U2 rfl rfl (zAv (hL.rdS 0 rfl h2) aB aG 0 _ rfl)) <| OV (.bool (a1 == aF)) rfl (zBv rfl rfl) <| OW.nil ?_
   refine zAn (t := a1 == aF) rfl hm (fun aM hm => ?_) (fun aM hm => ?_)
   · refine CSR <| OV (IV s_l1) rfl (zAe) <| OV (IV s_l1) rfl (zAb) <| OW.nil <| zAx ?_
     obtain rfl := oi hm
     have hm := aI _ rfl
     obtain rfl := oi hm
     exact RR1 rfl rfl ⟨rfl, hL.fresh 0 rfl [] (by decide) (by decide) rfl⟩
   refine zAt <| zAl <| OV (IV (w64 (s_l1 + 1))) rfl (zBe aA rfl) <| OV (IV (w64 (s_l1 + 1))) rfl (zAe) <| OW.nil ?_
   obtain rfl := oi hm
   exact ⟨_, rfl, ⟨aC, aD, aE, rfl, hL⟩⟩
 refine zA0 ?_
 refine zBk ?_
 obtain rfl := oi hm
 exact ⟨_, rfl, ⟨aC, aD, aE, aA, hL⟩⟩

theorem zIL (w0 : World) (a0 : List Int) {v1 : Value} (h2 : rdL (· < w0.heap.size) w0 v1 a0) (a1 : Int) {r : Bool} (hm : zBL a0 a1 = some r) :
    Calls Tryz.prog 99 #[v1, (IV a1)] w0 fun e w' => e = .returned (.bool r) ∧ Fresh w0 w' [] := by
 unfold zBL at hm
 refine zAD (args := [v1, (IV a1)]) Tryz.func99 rfl rfl rfl ?_
 have hL := zAJ w0
 refine CSR <| OV (.bool false) rfl (zAb) <| ONR <| OV v1 rfl (zAe) <| OV (IV a1) rfl (zAe) ?_
 obtain ⟨x3, hx4, hm⟩ := zAs hm
 refine zAa (OP.call rfl (zAq (vs := [v1, (IV a1)]) zQk ⟨rfl, rfl, trivial⟩) (zI7 _ a0 (hL.rdS 0 rfl h2) a1 hx4) ?_)
 rintro e5 wd6 ⟨rfl, hF7⟩
 refine ⟨_, rfl, ?_⟩
 have hL := hL.pushAll hF7
 simp only [lA, lB, lC, lD] at hL
 refine OV (.bool (decide (0 ≤ x3))) rfl (zKf rfl rfl) <| OV (.bool (decide (0 ≤ x3))) rfl (zAb) <| OW.nil <| zAx ?_
 obtain rfl := oi hm
 exact RR1 rfl rfl ⟨rfl, hL.fresh 0 rfl [] (by decide) (by decide) rfl⟩

theorem zI0 (w0 : World) (a0 : Table) {v1 : Value} {v3 : Value} (h2 : rdL (· < w0.heap.size) w0 v1 a0.Points) (h4 : rdL (· < w0.heap.size) w0 v3 a0.Codes) (a1 : List Int) {v5 : Value} (h6 : rdL (· < w0.heap.size) w0 v5 a1) (a2 : Int) {r : (List Int)} (hm : zCS a0 a1 a2 = some r) :
    Calls Tryz.prog 66 #[(.agg #[(IV a0.Boats), v1, v3]), v5, (IV a2)] w0 fun e w' => ∃ (rv0 : Value) (rS0 : Nat → Prop), e = .returned rv0 ∧ Fresh w0 w' [Ent.own 2 rS0 rv0 r] := by
 unfold zCS at hm
 refine zAD (args := [(.agg #[(IV a0.Boats), v1, v3]), v5, (IV a2)]) Tryz.func66 rfl rfl rfl ?_
 have hL := zAJ w0
 refine CSR ?_
 refine zAa (zC3 (cs := #[(IV a0.Boats), v1, v3]) hL rfl rfl rfl ?_)
 intro wd7 b8 hL
 refine OV (.slice none 0 0) rfl (zAb) <| ONR ?_
 refine zAa (zBS ([] : List Int) hL U27 zAf rfl (by decide) (by first | (simp [Instr.fill, madeCells, Value.cells, ev, upd, Flat.enc, Flat.sz]; done) | rfl | kernel_rfl) rfl rfl ?_)
 intro wd9 bK cG hL
 refine OV (.agg #[(IV a0.Boats), v1, v3]) rfl (zAW (cs := [(IV a0.Boats), v1, v3]) U26 zBg rfl rfl (hL.cellsB 1 rfl (o := 0) (l := [(IV a0.Boats), v1, v3]) (by intro j u hj; exact (by simpa using hj)))) <| OV v5 rfl (zAe) <| OV (IV a2) rfl (zAe) ?_
 obtain ⟨aP, bL, hm⟩ := zAs hm
 refine zAa (OP.call rfl (zAq (vs := [(.agg #[(IV a0.Boats), v1, v3]), v5, (IV a2)]) zRN ⟨rfl, rfl, rfl, trivial⟩) (zK3 _ a0 (hL.rdS 2 rfl h2) (hL.rdS 2 rfl h4) a1 (hL.rdS 2 rfl h6) a2 bL) ?_)
 rintro dF cQ ⟨aB, aS, rfl, bM⟩
 refine ⟨_, rfl, ?_⟩
 have hL := hL.pushAll bM
 simp only [lA, lB, lC, lD] at hL
 refine OV bK rfl (zAb) <| OV aB rfl (zAb) <| ONS <| CSR <| OV (PV b8 1) rfl (zAc (fsz := 1) 0 1 1 U26 rfl zBq rfl rfl rfl) <| OV v1 rfl (zAd U24 rfl rfl (hL.cellB 2 rfl rfl)) <| OV (IV (a0.Points.length : Int)) rfl (zA3 U24 rfl (hL.rdS 3 rfl h2)) <| OV (IV 0) rfl (zAe) <| OW.nil ?_
 obtain ⟨cR, aX, hm⟩ := zAs hm
 have hL := hL.sl [1, 0, 2, 3] rfl
 refine zAU (fun (s_l1 : (List Int) × Int) F w => ∃ aA aC, F 2 = (IV a2) ∧ F 3 = (PV b8 0) ∧ F 7 = aA ∧ F 8 = aB ∧ F 17 = (IV (a0.Points.length : Int)) ∧ F 18 = (IV s_l1.2) ∧ Hp w0 [Ent.own 2 aC aA s_l1.1, Ent.own 2 aS aB aP, Ent.blk b8 26 #[(IV a0.Boats), v1, v3], zAg w0 w0.heap.size] w) (fun o => zBh o (fun x => some x) (fun s => zFl s) = some r) aX hm ⟨bK, cG, rfl, rfl, rfl, rfl, rfl, rfl, hL⟩ ?_ ?_
 · intro s_l1 cS cH hJ hm
   have hm := zBD hm
   have hm : zFl s_l1 = some r := hm
   unfold zFl at hm
   obtain ⟨aA, aC, cT, cU, bN, cV, cW, cX, hL⟩ := hJ
   refine CSR <| OV aA rfl (zAo bN) <| OV aA rfl (zAb) <| OW.nil <| zAx ?_
   obtain rfl := oi hm
   exact RR1 rfl rfl ⟨aA, aC, rfl, hL.fresh 3 rfl [0] (by decide) (by decide) rfl⟩
 intro s_l1 cY cI aT hJ hm cJ
 unfold zD0 at hm
 obtain ⟨aA, aC, aE, aF, aM, aG, aH, aD, hL⟩ := hJ
 refine CSR <| OV (.bool (decide (s_l1.2 < (a0.Points.length : Int)))) rfl (zBE aD aH) <| ONS ?_
 refine zAn (t := decide (s_l1.2 < (a0.Points.length : Int))) rfl hm (fun aY hm => ?_) (fun aY hm => ?_)
 · refine zAt ?_
   refine zAM (fun (s_j1 : (List Int)) F w => ∃ aI aN, F 2 = (IV a2) ∧ F 3 = (PV b8 0) ∧ F 7 = aI ∧ F 8 = aB ∧ F 17 = (IV (a0.Points.length : Int)) ∧ F 18 = (IV s_l1.2) ∧ Hp w0 [Ent.own 2 aN aI s_j1, Ent.own 2 aS aB aP, Ent.blk b8 26 #[(IV a0.Boats), v1, v3], zAg w0 w0.heap.size] w) (fun s_j1 => zFm s_l1 s_j1 = some aT) ?_ ?_
   · refine zBG (fun (s_j2 : (List Int)) F w => ∃ aJ aO, F 2 = (IV a2) ∧ F 3 = (PV b8 0) ∧ F 7 = aJ ∧ F 8 = aB ∧ F 17 = (IV (a0.Points.length : Int)) ∧ F 18 = (IV s_l1.2) ∧ Hp w0 [Ent.own 2 aO aJ s_j2, Ent.own 2 aS aB aP, Ent.blk b8 26 #[(IV a0.Boats), v1, v3], zAg w0 w0.heap.size] w) (fun s_j2 => zDZ s_l1 s_j2 = some aT) ?_ ?_
     · refine CSR <| OV (IV s_l1.2) rfl (zAo aD) <| OV (IV s_l1.2) rfl (zAb) <| ONR <| OV aB rfl (zAo aG) <| OV (IV s_l1.2) rfl (zAe) ?_
       obtain ⟨aU, aZ, hm⟩ := zAs hm
       refine zAa (OP.call rfl (zAq (vs := [aB, (IV s_l1.2)]) zRO ⟨rfl, rfl, trivial⟩) (zIL _ aP (hL.rdO 1 rfl) s_l1.2 aZ) ?_)
       rintro cZ cK ⟨rfl, bA⟩
       refine ⟨_, rfl, ?_⟩
       have hL := hL.pushAll bA
       simp only [lA, lB, lC, lD] at hL
       refine OV (.bool (!aU)) rfl (zCb rfl) <| OW.nil ?_
       refine zAn (t := !aU) rfl hm (fun bB hm => ?_) (fun bB hm => ?_)
       · refine zAl <| OV aA rfl (zAo aM) <| OV (PV b8 1) rfl (zAc (fsz := 1) 0 1 1 U26 rfl zBq rfl aF rfl) <| OV v1 rfl (zAd U24 rfl rfl (hL.cellB 2 rfl rfl)) <| OV (IV s_l1.2) rfl (zAe) ?_
         obtain ⟨dA, bC, hm⟩ := zAs hm
         obtain ⟨bD, bE⟩ := zAZ bC
         obtain ⟨bO, bP, bQ, aV, bF, bG, aQ⟩ := zCp h2 bD bE
         refine OV (.pointer (some ⟨bO, bP, none⟩)) rfl (zA1 U24 zAR rfl rfl aV) <| OV bQ rfl (zAd U27 rfl rfl (hL.cellS 3 rfl bF bG)) <| OV (IV a2) rfl (zAo aE) ?_
         obtain ⟨aK, bH, hm⟩ := zAs hm
         obtain ⟨bI, aR⟩ := zAZ bH
         obtain ⟨bR, bS, aL⟩ := zAC (hL.rdS 3 rfl aQ) bI aR
         refine OV (.pointer (some ⟨bR, bS, none⟩)) rfl (zA1 U27 zAf rfl rfl aL) <| OV (IV aK) rfl (zAd U2 rfl rfl (zAv (hL.rdS 3 rfl aQ) aL aR 0 _ rfl)) ?_
         refine zAa (zBS ([aK] : List Int) hL U27 zAf rfl (by decide) (by first | (simp [Instr.fill, madeCells, Value.cells, ev, upd, Flat.enc, Flat.sz]; done) | rfl | kernel_rfl) rfl rfl ?_)
         intro cM dB dC hL
         obtain ⟨bJ, hm⟩ := zEs hm
         refine zAa (zCA (ys := ([aK] : List Int)) hL 1 rfl U27 zAf rfl rfl rfl (hL.rdO 0 rfl) bJ (by decide) rfl ?_)
         intro cN aW bT hL
         refine OV aW rfl (zAb) <| OW.nil ?_
         have hL := hL.sl [1, 2, 3, 4] rfl
         exact ⟨s_l1.1 ++ ([aK] : List Int), hm, ⟨aW, bT, aE, aF, rfl, aG, aH, aD, hL⟩⟩
       refine zAt ?_
       exact ⟨s_l1.1, hm, ⟨aA, aC, aE, aF, aM, aG, aH, aD, hL⟩⟩
     intro s_j2 dD cO hJ hm
     unfold zDZ at hm
     obtain ⟨aJ, aO, bU, bV, bW, bX, bY, bZ, hL⟩ := hJ
     exact ⟨s_j2, hm, ⟨aJ, aO, bU, bV, bW, bX, bY, bZ, hL⟩⟩
   intro s_j1 dE cP hJ hm
   unfold zFm at hm
   obtain ⟨aI, aN, cA, cB, cC, cD, cE, cF, hL⟩ := hJ
   refine zAl <| OV (IV (w64 (s_l1.2 + 1))) rfl (zBe cF rfl) <| OV (IV (w64 (s_l1.2 + 1))) rfl (zAe) <| OW.nil ?_
   obtain rfl := oi hm
   exact ⟨_, rfl, ⟨aI, aN, cA, cB, cC, cD, cE, rfl, hL⟩⟩
 refine zA0 ?_
 refine zBk ?_
 obtain rfl := oi hm
 exact ⟨_, rfl, ⟨aA, aC, aE, aF, aM, aG, aH, aD, hL⟩⟩

theorem zJF (w0 : World) (a0 : Table) {v1 : Value} {v3 : Value} (h2 : rdL (· < w0.heap.size) w0 v1 a0.Points) (h4 : rdL (· < w0.heap.size) w0 v3 a0.Codes) (a1 : List Int) {v5 : Value} (h6 : rdL (· < w0.heap.size) w0 v5 a1) (a2 : Int) {r : Int} (hm : zFX a0 a1 a2 = some r) :
    Calls Tryz.prog 30 #[(.agg #[(IV a0.Boats), v1, v3]), v5, (IV a2)] w0 fun e w' => e = .returned (IV r) ∧ Fresh w0 w' [] := by
 unfold zFX at hm
 refine zAD (args := [(.agg #[(IV a0.Boats), v1, v3]), v5, (IV a2)]) Tryz.func30 rfl rfl rfl ?_
 have hL := zAJ w0
 refine CSR ?_
 refine zAa (zC3 (cs := #[(IV a0.Boats), v1, v3]) hL rfl rfl rfl ?_)
 intro wd7 b8 hL
 refine OV (IV 0) rfl (zAb) <| ONR <| OV (IV 0) rfl (zAb) <| ONS <| CSR <| OV (.agg #[(IV a0.Boats), v1, v3]) rfl (zAW (cs := [(IV a0.Boats), v1, v3]) U26 zBg rfl rfl (hL.cellsB 0 rfl (o := 0) (l := [(IV a0.Boats), v1, v3]) (by intro j u hj; exact (by simpa using hj)))) <| OV v5 rfl (zAe) <| OV (IV a2) rfl (zAe) ?_
 obtain ⟨x9, aI, hm⟩ := zAs hm
 refine zAa (OP.call rfl (zAq (vs := [(.agg #[(IV a0.Boats), v1, v3]), v5, (IV a2)]) zOH ⟨rfl, rfl, rfl, trivial⟩) (zI0 _ a0 (hL.rdS 1 rfl h2) (hL.rdS 1 rfl h4) a1 (hL.rdS 1 rfl h6) a2 aI) ?_)
 rintro aW aS ⟨aG, aO, rfl, aJ⟩
 refine ⟨_, rfl, ?_⟩
 have hL := hL.pushAll aJ
 simp only [lA, lB, lC, lD] at hL
 refine OV (IV (x9.length : Int)) rfl (zA3 U27 rfl (hL.rdO 0 rfl)) <| OV (IV 0) rfl (zAe) <| OW.nil ?_
 obtain ⟨aX, aK, hm⟩ := zAs hm
 refine zAU (fun (s_l1 : Int × Int) F w => F 7 = (IV s_l1.1) ∧ F 13 = aG ∧ F 14 = (IV (x9.length : Int)) ∧ F 15 = (IV s_l1.2) ∧ Hp w0 [Ent.own 2 aO aG x9, Ent.blk b8 26 #[(IV a0.Boats), v1, v3], zAg w0 w0.heap.size] w) (fun o => zBh o (fun x => some x) (fun s => zHx s) = some r) aK hm ⟨rfl, rfl, rfl, rfl, hL⟩ ?_ ?_
 · intro s_l1 aY aT hJ hm
   have hm := zBD hm
   have hm : zHx s_l1 = some r := hm
   unfold zHx at hm
   obtain ⟨aP, aZ, bA, bB, hL⟩ := hJ
   refine CSR <| OV (IV s_l1.1) rfl (zAo aP) <| OV (IV s_l1.1) rfl (zAb) <| OW.nil <| zAx ?_
   obtain rfl := oi hm
   exact RR1 rfl rfl ⟨rfl, hL.fresh 2 rfl [] (by decide) (by decide) rfl⟩
 intro s_l1 bC aU bD hJ hm aV
 unfold zJI at hm
 obtain ⟨aH, aD, aE, aB, hL⟩ := hJ
 refine CSR <| OV (.bool (decide (s_l1.2 < (x9.length : Int)))) rfl (zBE aB aE) <| ONS ?_
 refine zAn (t := decide (s_l1.2 < (x9.length : Int))) rfl hm (fun aL hm => ?_) (fun aL hm => ?_)
 · refine zAt <| zAF <| CW.block <| CSR ?_
   obtain ⟨aA, aM, hm⟩ := zAs hm
   obtain ⟨aN, aF⟩ := zAZ aM
   obtain ⟨aQ, aR, aC⟩ := zAC (hL.rdO 0 rfl) aN aF
   refine OV (.pointer (some ⟨aQ, aR, none⟩)) rfl (zA1 U27 zAf aD aB aC) <| OV (IV aA) rfl (zAd U2 rfl rfl (zAv (hL.rdO 0 rfl) aC aF 0 _ rfl)) <| OV (IV aA) rfl (zAb) <| OW.nil <| zAl <| OV (IV s_l1.1) rfl (zAo aH) <| OV (IV aA) rfl (zAe) <| OV (IV (w64 (s_l1.1 + aA))) rfl (zBe rfl rfl) <| OV (IV (w64 (s_l1.1 + aA))) rfl (zAb) <| OW.nil <| zAl <| OV (IV (w64 (s_l1.2 + 1))) rfl (zBe aB rfl) <| OV (IV (w64 (s_l1.2 + 1))) rfl (zAe) <| OW.nil ?_
   obtain rfl := oi hm
   exact ⟨_, rfl, ⟨rfl, aD, aE, rfl, hL⟩⟩
 refine zA0 ?_
 refine zBk ?_
 obtain rfl := oi hm
 exact ⟨_, rfl, ⟨aH, aD, aE, aB, hL⟩⟩

theorem zI8 (w0 : World) (a0 : Table) {v1 : Value} {v3 : Value} (h2 : rdL (· < w0.heap.size) w0 v1 a0.Points) (h4 : rdL (· < w0.heap.size) w0 v3 a0.Codes) (a1 : List Int) {v5 : Value} (h6 : rdL (· < w0.heap.size) w0 v5 a1) (a2 : Int) {r : (List Int)} (hm : zCz a0 a1 a2 = some r) :
    Calls Tryz.prog 70 #[(.agg #[(IV a0.Boats), v1, v3]), v5, (IV a2)] w0 fun e w' => ∃ (rv0 : Value) (rS0 : Nat → Prop), e = .returned rv0 ∧ Fresh w0 w' [Ent.own 2 rS0 rv0 r] := by
 unfold zCz at hm
 refine zAD (args := [(.agg #[(IV a0.Boats), v1, v3]), v5, (IV a2)]) Tryz.func70 rfl rfl rfl ?_
 have hL := zAJ w0
 refine CSR ?_
 refine zAa (zC3 (cs := #[(IV a0.Boats), v1, v3]) hL rfl rfl rfl ?_)
 intro wd7 b8 hL
 refine OV (.slice none 0 0) rfl (zAb) <| ONR <| OV (.agg #[(IV a0.Boats), v1, v3]) rfl (zAW (cs := [(IV a0.Boats), v1, v3]) U26 zBg rfl rfl (hL.cellsB 0 rfl (o := 0) (l := [(IV a0.Boats), v1, v3]) (by intro j u hj; exact (by simpa using hj)))) <| OV v5 rfl (zAe) <| OV (IV a2) rfl (zAe) ?_
 obtain ⟨x9, aB, hm⟩ := zAs hm
 refine zAa (OP.call rfl (zAq (vs := [(.agg #[(IV a0.Boats), v1, v3]), v5, (IV a2)]) zOH ⟨rfl, rfl, rfl, trivial⟩) (zI0 _ a0 (hL.rdS 1 rfl h2) (hL.rdS 1 rfl h4) a1 (hL.rdS 1 rfl h6) a2 aB) ?_)
 rintro aI aG ⟨aA, aJ, rfl, aC⟩
 refine ⟨_, rfl, ?_⟩
 have hL := hL.pushAll aC
 simp only [lA, lB, lC, lD] at hL
 refine OV aA rfl (zAb) <| ONR <| OV aA rfl (zAe) ?_
 obtain ⟨aK, aD, hm⟩ := zAs hm
 refine zAa (OP.call rfl (zAq (vs := [aA]) zNA ⟨rfl, trivial⟩) (zHl _ x9 (hL.get 0 rfl) aD) ?_)
 rintro aL aH ⟨aF, rfl, aE⟩
 refine ⟨_, rfl, ?_⟩
 have hL := hL.mut 0 rfl aE
 simp only [lA, lB, lC, lD] at hL
 refine ONR <| OV aA rfl (zAe) <| OV aA rfl (zAb) <| OW.nil <| zAx ?_
 obtain rfl := oi hm
 exact RR1 rfl rfl ⟨aA, aF, rfl, hL.fresh 2 rfl [0] (by decide) (by decide) rfl⟩

theorem zNS (w0 : World) {v : Value} {α : Type} [GoT α] {S : Nat → Prop} {xs : List α} (h : rdL S w0 v xs) :
    Calls Tryz.prog 71 #[v] w0 fun e w' => ∃ b : Nat, e = .returned (.func (.func 104) #[] #[.pointer (some ⟨b, 0, none⟩)]) ∧ Fresh w0 w' [Ent.blk b 24 #[v]] := by
 refine zAD (args := [v]) Tryz.func71 rfl rfl rfl ?_
 have hL := zAJ w0
 refine CSR ?_
 refine zAa (zC3 (cs := #[v]) hL rfl (zAY h) rfl ?_)
 intro wd b hL
 refine zAa (zAk rfl zAb ?_)
 refine ONR <| OV (.func (.func 104) #[] #[.pointer (some ⟨b, 0, none⟩)]) rfl (zLF (vs := [(PV b 0)]) ⟨rfl, trivial⟩) ?_
 refine zAa (zAk rfl zAb ?_)
 refine OW.nil <| zAx ?_
 exact RR1 rfl rfl ⟨b, rfl, hL.fresh 1 rfl [0] (by decide) (by decide) rfl⟩
theorem zNT {v : Value} {b : Nat} {xs : List (List Int)} : zSW Tryz.prog 104 24 b v xs := by
 intro l Y Z W hY hr h0
 have hlen : (xs.length : Int) < 9223372036854775808 := by
   obtain ⟨Av, cap, _, h1, h2, _⟩ := (hY _ _ h0).2
   unfold maxLen at h2
   omega
 refine zQ1 (args := [(.func (.yield l) #[] #[]), (PV b 0)]) Tryz.func104 rfl rfl rfl ?_
 refine zJ8 ?_
 refine zJt ?_
 refine zAa (zAk rfl (zAd U24 rfl rfl (zGD (hY _ _ h0).1)) ?_)
 refine zAa (zAk rfl (zA3 U24 rfl (hY _ _ h0).2) ?_)
 refine zAa (zAk rfl (zCn rfl rfl) ?_)
 refine zAa (zAk rfl zAb ?_)
 refine OW.nil ?_
 refine CF.block ?_
 refine zSp (fun F w => ∃ k : Nat, k ≤ xs.length ∧ F 0 = (.func (.yield l) #[] #[]) ∧ F 1 = (PV b 0) ∧ F 3 = .int .i64 ((k : Int) - 1) ∧ Y k w) (fun F _ => match F 3 with | .int _ i => (i + 1).toNat | _ => 0) ⟨xs.length, Nat.le_refl _, rfl, rfl, congrArg (Value.int .i64) (zQ0 (by omega)), h0⟩ ?_
 rintro F w ⟨k, hk, f0, f1, f3, hYk⟩
 refine zJ8 ?_
 refine zJ8 ?_
 refine zJt ?_
 refine zAa (zAk rfl (zAo f3) ?_)
 refine zAa (zAk rfl (zKf rfl rfl) ?_)
 refine OW.nil ?_
 cases k with
 | zero =>
   refine zOn (t := decide ((0 : Int) ≤ ((0 : Nat) : Int) - 1)) rfl (decide_eq_false (by omega)) ?_
   refine zSo ?_
   refine zS9 ?_
   exact RR0 rfl ⟨⟨_, rfl⟩, .inl hYk⟩
 | succ k =>
   refine zOm (t := decide ((0 : Int) ≤ ((k + 1 : Nat) : Int) - 1)) rfl (decide_eq_true (by omega)) ?_
   refine zNQ ?_
   refine zJ8 ?_
   refine CF.block ?_
   refine zJ8 ?_
   have hlt : k < xs.length := by omega
   have e1 : (((k + 1 : Nat) : Int) - 1) = (k : Int) := by omega
   rw [e1] at f3
   obtain ⟨b1, q1, u1, hix, _, hc, _⟩ := zCp (hY _ _ hYk).2 (Int.natCast_nonneg k) (by rw [Int.toNat_natCast]; exact List.getElem?_eq_getElem hlt)
   obtain ⟨fn, tmps, assign, body, hy, hR⟩ := hr k w u1 hlt hYk (fun b' q' hix' => by obtain ⟨rfl, rfl⟩ := hix.inj hix'; exact hc)
   refine zPf ?_
   refine zJY rfl (zAk rfl (zAo f0) ?_)
   refine zJY rfl (zAk rfl (zAo f3) ?_)
   refine zJY rfl (zAk rfl (zAd U24 rfl f1 (zGD (hY _ _ hYk).1)) ?_)
   refine zJY rfl (zAk rfl (zAo f3) ?_)
   refine zJY rfl (zAk rfl (zA1 U24 zAR rfl rfl hix) ?_)
   refine zJY rfl (zAk rfl (zAd U27 rfl rfl hc) ?_)
   refine OF.yield rfl rfl rfl rfl hy (hR.mono ?_)
   rintro e W' (⟨rfl, hY'⟩ | ⟨rfl, hZ⟩)
   · refine ⟨_, rfl, ?_⟩
     refine zJY rfl (zAk rfl (zCb (b := true) rfl) ?_)
     refine OF.nil ?_
     refine zOn (t := !true) rfl rfl ?_
     refine zNQ ?_
     refine zJt ?_
     refine zAa (zAk rfl (zAo f3) ?_)
     refine zAa (zAk rfl (zCn rfl rfl) ?_)
     refine zAa (zAk rfl zAb ?_)
     refine OW.nil ?_
     have e2 : w64 ((k : Int) - 1) = (k : Int) - 1 := zQ0 (by omega)
     refine ⟨⟨k, by omega, f0, f1, congrArg (Value.int .i64) e2, hY'⟩, ?_⟩
     show (w64 ((k : Int) - 1) + 1).toNat < (match F 3 with | .int _ i => (i + 1).toNat | _ => 0)
     rw [e2, f3]
     simp
   · refine ⟨_, rfl, ?_⟩
     refine zJY rfl (zAk rfl (zCb (b := false) rfl) ?_)
     refine OF.nil ?_
     refine zOm (t := !false) rfl rfl ?_
     refine zPe ?_
     exact RR0 rfl ⟨⟨_, rfl⟩, .inr hZ⟩

theorem zKA (w0 : World) (a0 : Table) {v1 : Value} {v3 : Value} (h2 : rdL (· < w0.heap.size) w0 v1 a0.Points) (h4 : rdL (· < w0.heap.size) w0 v3 a0.Codes) (a1 : List Int) {v5 : Value} (h6 : rdL (· < w0.heap.size) w0 v5 a1) (a2 : Int) (a3 : Int) {r : Int × Int × Int} (hm : zFM a0 a1 a2 a3 = some r) :
    Calls Tryz.prog 36 #[(.agg #[(IV a0.Boats), v1, v3]), v5, (IV a2), (IV a3)] w0 fun e w' => e = .returned (.tuple #[(IV r.1), (IV r.2.1), (IV r.2.2)]) ∧ Fresh w0 w' [] := by
 unfold zFM at hm
 refine zQY (args := [(.agg #[(IV a0.Boats), v1, v3]), v5, (IV a2), (IV a3)]) Tryz.func36 rfl rfl rfl ?_
 have hL := zAJ w0
 refine zL4 ?_
 refine zAl ?_
 refine zAa (zC3 (cs := #[(IV a0.Boats), v1, v3]) hL rfl rfl rfl ?_)
 intro wd7 b8 hL
 refine zAa (zC3 (cs := #[(IV a2)]) hL rfl rfl rfl ?_)
 intro wd9 bK hL
 refine zAa (zC3 (cs := #[(IV a3)]) hL rfl rfl rfl ?_)
 intro fP bL hL
 refine zAa (zBb (cs := #[(IV 0)]) hL zAf rfl rfl ?_)
 intro fQ bU hL
 refine zAa (zBb (cs := #[(IV 0)]) hL zAf rfl rfl ?_)
 intro fR bV hL
 refine zAa (zBb (cs := #[(IV 0)]) hL zAf rfl rfl ?_)
 intro fS bW hL
 refine OW.nil ?_
 refine zL4 ?_
 refine zAF ?_
 refine zBW zAQ ?_
 have hL := hL.call (zA8 _)
 refine DW.pre (fuel := 0) (fin := bma 10 1023) (C := fun w' => Mod zBO _ w') [0, 1, 2, 3, 4, 5, 6, 7, 8, 9] (Mod.refl _ _) (by kernel_rfl) (by kernel_rfl) ?_
 refine QV (.agg #[(IV a0.Boats), v1, v3]) rfl rfl (fun w' hm' => zAW (cs := [(IV a0.Boats), v1, v3]) U26 zBg rfl rfl ((hL.call hm').cellsB 5 rfl (o := 0) (l := [(IV a0.Boats), v1, v3]) (by intro j u hj; exact (by simpa using hj)))) <| QV v5 rfl rfl (fun w' hm' => zAe) <| QV (IV a2) rfl rfl (fun w' hm' => zAd U2 rfl rfl ((hL.call hm').cellB 4 rfl rfl)) ?_
 obtain ⟨aB, dR, hm⟩ := zAs hm
 refine zAi rfl (QP.call (v := (IV aB)) rfl (fun w' hm' => zAq (vs := [(.agg #[(IV a0.Boats), v1, v3]), v5, (IV a2)]) zOu ⟨rfl, rfl, rfl, trivial⟩) (fun w' hm' => (zJF w' a0 ((hL.call hm').rdS 6 rfl h2) ((hL.call hm').rdS 6 rfl h4) a1 ((hL.call hm').rdS 6 rfl h6) a2 dR).mono (fun e w'' h => ⟨h.1, hm'.trans h.2.mod⟩)) ?_)
 refine QV (.agg #[(IV a0.Boats), v1, v3]) rfl rfl (fun w' hm' => zAW (cs := [(IV a0.Boats), v1, v3]) U26 zBg rfl rfl ((hL.call hm').cellsB 5 rfl (o := 0) (l := [(IV a0.Boats), v1, v3]) (by intro j u hj; exact (by simpa using hj)))) <| QV v5 rfl rfl (fun w' hm' => zAe) <| QV (IV a3) rfl rfl (fun w' hm' => zAd U2 rfl rfl ((hL.call hm').cellB 3 rfl rfl)) ?_
 obtain ⟨aC, dS, hm⟩ := zAs hm
 refine zAi rfl (QP.call (v := (IV aC)) rfl (fun w' hm' => zAq (vs := [(.agg #[(IV a0.Boats), v1, v3]), v5, (IV a3)]) zOu ⟨rfl, rfl, rfl, trivial⟩) (fun w' hm' => (zJF w' a0 ((hL.call hm').rdS 6 rfl h2) ((hL.call hm').rdS 6 rfl h4) a1 ((hL.call hm').rdS 6 rfl h6) a3 dS).mono (fun e w'' h => ⟨h.1, hm'.trans h.2.mod⟩)) ?_)
 refine QV (IV (w64 (aB - aC))) rfl rfl (fun w' hm' => zCn rfl rfl) <| QV (IV (w64 (aB - aC))) rfl rfl (fun w' hm' => zAb) ?_
 refine QW.nil ?_
 intro fT hmod
 have hL := hL.call hmod
 refine zBu (by kernel_rfl) ?_
 refine CSR <| OV (IV (w64 (aB - aC))) rfl (zAe) <| OV (.bool ((w64 (aB - aC)) != 0)) rfl (zDk rfl rfl) <| OW.nil ?_
 refine zAn (t := (w64 (aB - aC)) != 0) rfl hm (fun dT hm => ?_) (fun dT hm => ?_)
 · refine CSR <| OV (IV (w64 (aB - aC))) rfl (zAe) ?_
   obtain ⟨dO, dU, hm⟩ := zAs hm
   refine zAa (OP.call rfl (zAq (vs := [(IV (w64 (aB - aC)))]) zMb ⟨rfl, trivial⟩) (zI5 _ (w64 (aB - aC)) dU) ?_)
   rintro gP fU ⟨rfl, dV⟩
   refine ⟨_, rfl, ?_⟩
   have hL := hL.pushAll dV
   simp only [lA, lB, lC, lD] at hL
   refine zAa (zEt (cs' := #[(IV dO)]) hL 2 rfl zAf rfl rfl rfl rfl rfl ?_)
   intro fV hL
   refine zAa (zEt (cs' := #[(IV 1)]) hL 1 rfl zAf rfl rfl rfl rfl rfl ?_)
   intro fW hL
   refine zAa (zEt (cs' := #[(IV 0)]) hL 0 rfl zAf rfl rfl rfl rfl rfl ?_)
   intro fX hL
   refine OW.nil <| zAx ?_
   refine RM.nil ?_
   obtain rfl := oi hm
   exact RRs (v := (IV dO)) (v2 := (IV 1)) (vs := [(IV 0)]) (rs := [.cell 8 2, .cell 9 2, .cell 10 2]) rfl ⟨zIB rfl (zGz U2 rfl (zGD (hL.get 2 rfl))), zIB rfl (zGz U2 rfl (zGD (hL.get 1 rfl))), zIB rfl (zGz U2 rfl (zGD (hL.get 0 rfl))), trivial⟩ ⟨rfl, hL.fresh 6 rfl [] (by decide) (by decide) rfl⟩
 refine zAt ?_
 refine zL4 ?_
 refine zDG (fun w' => Hp w0 [Ent.blk bW 2 #[(IV 0)], Ent.blk bV 2 #[(IV 0)], Ent.blk bU 2 #[(IV 0)], Ent.blk bL 2 #[(IV a3)], Ent.blk bK 2 #[(IV a2)], Ent.blk b8 26 #[(IV a0.Boats), v1, v3], zAg w0 w0.heap.size] w') zAQ ?_
 have hL := hL.call (zA8 _)
 have hS := (hL.sl [0, 1, 2, 3, 4, 5, 6] rfl)
 refine zAw 0 rfl (by kernel_rfl) rfl rfl hS (zAp (v := (.agg #[(IV a0.Boats), v1, v3])) (fun w' hS' => zAW (cs := [(IV a0.Boats), v1, v3]) U26 zBg rfl rfl (hS'.cellsB 5 rfl (o := 0) (l := [(IV a0.Boats), v1, v3]) (by intro j u hj; exact (by simpa using hj))))) ?_
 have hS := (hL.sl [0, 1, 2, 3, 4, 5, 6] rfl)
 refine zAw 1 rfl (by kernel_rfl) rfl rfl hS (zAp (v := v5) (fun w' hS' => zAe)) ?_
 have hS := (hL.sl [0, 1, 2, 3, 4, 5, 6] rfl)
 refine zAw 2 rfl (by kernel_rfl) rfl rfl hS (zAp (v := (IV a2)) (fun w' hS' => zAd U2 rfl rfl (hS'.cellB 4 rfl rfl))) ?_
 have hS := (hL.sl [0, 1, 2, 3, 4, 5, 6] rfl)
 refine zAw 4 rfl (by kernel_rfl) rfl rfl hS (zAp (v := (.agg #[(IV a0.Boats), v1, v3])) (fun w' hS' => zAW (cs := [(IV a0.Boats), v1, v3]) U26 zBg rfl rfl (hS'.cellsB 5 rfl (o := 0) (l := [(IV a0.Boats), v1, v3]) (by intro j u hj; exact (by simpa using hj))))) ?_
 have hS := (hL.sl [0, 1, 2, 3, 4, 5, 6] rfl)
 refine zAw 5 rfl (by kernel_rfl) rfl rfl hS (zAp (v := v5) (fun w' hS' => zAe)) ?_
 have hS := (hL.sl [0, 1, 2, 3, 4, 5, 6] rfl)
 refine zAw 6 rfl (by kernel_rfl) rfl rfl hS (zAp (v := (IV a3)) (fun w' hS' => zAd U2 rfl rfl (hS'.cellB 3 rfl rfl))) ?_
 obtain ⟨aD, dW, hm⟩ := zAs hm
 refine zAT 3 rfl (by kernel_rfl) (OP.call rfl (zAq (vs := [(.agg #[(IV a0.Boats), v1, v3]), v5, (IV a2)]) zOI ⟨rfl, rfl, rfl, trivial⟩) (zI8 _ a0 (hL.rdS 6 rfl h2) (hL.rdS 6 rfl h4) a1 (hL.rdS 6 rfl h6) a2 dW) ?_)
 rintro gQ fY ⟨aE, dP, rfl, dX⟩
 refine ⟨_, rfl, ?_⟩
 have hL := hL.pushAll dX
 simp only [lA, lB, lC, lD] at hL
 refine ⟨(hL.sl [1, 2, 3, 4, 5, 6, 7] rfl), ?_⟩
 obtain ⟨aF, dY, hm⟩ := zAs hm
 refine zAT 7 rfl (by kernel_rfl) (OP.call rfl (zAq (vs := [(.agg #[(IV a0.Boats), v1, v3]), v5, (IV a3)]) zOI ⟨rfl, rfl, rfl, trivial⟩) (zI8 _ a0 (hL.rdS 7 rfl h2) (hL.rdS 7 rfl h4) a1 (hL.rdS 7 rfl h6) a3 dY) ?_)
 rintro gR fZ ⟨aG, dQ, rfl, dZ⟩
 refine ⟨_, rfl, ?_⟩
 have hL := hL.pushAll dZ
 simp only [lA, lB, lC, lD] at hL
 refine ⟨(hL.sl [2, 3, 4, 5, 6, 7, 8] rfl), ?_⟩
 have hS := (hL.sl [2, 3, 4, 5, 6, 7, 8] rfl)
 refine zAw 8 rfl (by kernel_rfl) rfl rfl hS (zAp (v := aE) (fun w' hS' => zAb)) ?_
 have hS := (hL.sl [2, 3, 4, 5, 6, 7, 8] rfl)
 refine zAw 9 rfl (by kernel_rfl) rfl rfl hS (zAp (v := aG) (fun w' hS' => zAb)) ?_
 refine zDB (by kernel_rfl) ?_
 refine zL4 ?_
 refine CSR <| OV aE rfl (zAe) <| OV (IV (aD.length : Int)) rfl (zA3 U27 rfl (hL.rdO 1 rfl)) <| OV aG rfl (zAe) <| OV (IV (aF.length : Int)) rfl (zA3 U27 rfl (hL.rdO 0 rfl)) <| OV (IV (min (aD.length : Int) (aF.length : Int))) rfl (zKP rfl rfl) <| OV (IV 0) rfl (zAe) <| OW.nil ?_
 obtain ⟨gA, cE, hm⟩ := zAs hm
 refine zAU (fun (s_l1 : Int) F w => F 4 = (PV b8 0) ∧ F 6 = (PV bK 0) ∧ F 7 = (PV bL 0) ∧ F 8 = (PV bU 0) ∧ F 9 = (PV bV 0) ∧ F 10 = (PV bW 0) ∧ F 12 = aE ∧ F 13 = aG ∧ F 42 = (IV (min (aD.length : Int) (aF.length : Int))) ∧ F 43 = (IV s_l1) ∧ Hp w0 [Ent.own 2 dQ aG aF, Ent.own 2 dP aE aD, Ent.blk bW 2 #[(IV 0)], Ent.blk bV 2 #[(IV 0)], Ent.blk bU 2 #[(IV 0)], Ent.blk bL 2 #[(IV a3)], Ent.blk bK 2 #[(IV a2)], Ent.blk b8 26 #[(IV a0.Boats), v1, v3], zAg w0 w0.heap.size] w) (fun o => zBh o (fun x => some x) (fun s => zEk a0 a2 a3 s) = some r) cE hm ⟨rfl, rfl, rfl, rfl, rfl, rfl, rfl, rfl, rfl, rfl, hL⟩ ?_ ?_
 · intro s_l1 gB eW hJ hm
   have hm := zBD hm
   have hm : zEk a0 a2 a3 s_l1 = some r := hm
   unfold zEk at hm
   obtain ⟨eA, bX, bY, aH, aI, aJ, gC, gD, gE, gF, hL⟩ := hJ
   refine zQX ?_
   refine zL4 ?_
   refine zAl <| OV (PV b8 1) rfl (zAc (fsz := 1) 0 1 1 U26 rfl zBq rfl eA rfl) <| OV v1 rfl (zAd U24 rfl rfl (hL.cellB 7 rfl rfl)) ?_
   refine zAa (OP.call rfl (zAq (vs := [v1]) zRt ⟨rfl, trivial⟩) (zNS _ (hL.rdS 8 rfl h2)) ?_)
   rintro gG eX ⟨eB, rfl, cF⟩
   refine ⟨_, rfl, ?_⟩
   have hL := hL.pushAll cF
   simp only [lA, lB, lC, lD] at hL
   refine OW.nil ?_
   refine SW.block ?_
   obtain ⟨gH, cG, hm⟩ := zAs hm
   refine zP9 (bodyM := zC0 a0 a2 a3) (fun o => zBh o (fun x => some x) (fun s => zEj s) = some r) (fun F x y => upd (upd (upd (upd F 69 x) 70 y) 15 x) 16 y) zQb rfl rfl rfl zNT hL (fun Γ0 W h => ⟨h.drops.get 0 rfl, h.drops.rdS 9 rfl h2⟩) cG hm ?_ ?_ ?_ ?_
   · intro t ht
     exact (Option.some.inj (show some (Stp.brk (-1)) = some t from ht)).symm
   · intro l x y W K hK
     refine zJ8 ?_
     refine zJt ?_
     refine zAa (zAk rfl zAb ?_)
     refine OW.nil ?_
     refine zJt ?_
     refine zAa (zAk rfl zAb ?_)
     refine OW.nil ?_
     exact hK
   · intro eC eD cH bD gI eY gJ eZ hL cI hm cJ
     unfold zC0 at hm
     have hm := zSt (by simp) hm
     obtain ⟨gK, cK, hm⟩ := zAs hm
     obtain ⟨cM, cN⟩ := zAZ cK
     obtain ⟨eE, eF, aK, bZ, cO, cP, aA⟩ := zCp h2 cM cN
     have cQ := Option.some.inj ((hL.cellS 11 rfl cO cP).symm.trans (cI eE eF bZ))
     subst cQ
     refine CF.block ?_
     refine zJ8 ?_
     refine zSq zAQ ?_
     have hL := hL.call (zA8 _)
     refine DW.pre (fuel := 0) (fin := bma 9 511) (C := fun w' => Mod zBO _ w') [0, 1, 2, 3, 4, 5, 6, 7, 8] (Mod.refl _ _) (by kernel_rfl) (by kernel_rfl) ?_
     refine QV aK rfl rfl (fun w' hm' => zAe) <| QV (IV a2) rfl rfl (fun w' hm' => zAd U2 rfl bX ((hL.call hm').cellB 9 rfl rfl)) ?_
     obtain ⟨bE, cR, hm⟩ := zAs hm
     obtain ⟨cS, bM⟩ := zAZ cR
     obtain ⟨eG, eH, aV⟩ := zAC (hL.rdS 11 rfl aA) cS bM
     refine QV (.pointer (some ⟨eG, eH, none⟩)) rfl rfl (fun w' hm' => zA1 U27 zAf rfl rfl aV) <| QV (IV bE) rfl rfl (fun w' hm' => zAd U2 rfl rfl (zAv ((hL.call hm').rdS 11 rfl aA) aV bM 0 _ rfl)) <| QV aK rfl rfl (fun w' hm' => zAe) <| QV (IV a3) rfl rfl (fun w' hm' => zAd U2 rfl bY ((hL.call hm').cellB 8 rfl rfl)) ?_
     obtain ⟨bF, cT, hm⟩ := zAs hm
     obtain ⟨cU, bN⟩ := zAZ cT
     obtain ⟨eI, eJ, aW⟩ := zAC (hL.rdS 11 rfl aA) cU bN
     refine QV (.pointer (some ⟨eI, eJ, none⟩)) rfl rfl (fun w' hm' => zA1 U27 zAf rfl rfl aW) <| QV (IV bF) rfl rfl (fun w' hm' => zAd U2 rfl rfl (zAv ((hL.call hm').rdS 11 rfl aA) aW bN 0 _ rfl)) <| QV (.bool (bE != bF)) rfl rfl (fun w' hm' => zDk rfl rfl) ?_
     refine QW.nil ?_
     intro fA hmod
     have hL := hL.call hmod
     refine zBu (by kernel_rfl) ?_
     refine zQU (t := bE != bF) rfl hm (fun cV hm => ?_) (fun cV hm => ?_)
     · refine zJ8 ?_
       refine zQV (fun w' => Hp w0 [zET eC cH, zET eD (.deferred (some [])), Ent.blk eB 24 #[v1], Ent.own 2 dQ aG aF, Ent.own 2 dP aE aD, Ent.blk bL 2 #[(IV a3)], Ent.blk bK 2 #[(IV a2)], Ent.blk b8 26 #[(IV a0.Boats), v1, v3], zAg w0 w0.heap.size] w') zAQ ?_
       have hL := hL.call (zA8 _)
       have hS := (hL.sl [0, 1, 2, 3, 4, 8, 9, 10, 11] rfl)
       refine zAw 0 rfl (by kernel_rfl) rfl rfl hS (zAp (v := aK) (fun w' hS' => zAe)) ?_
       have hS := (hL.sl [0, 1, 2, 3, 4, 8, 9, 10, 11] rfl)
       refine zAw 1 rfl (by kernel_rfl) rfl rfl hS (zAp (v := (IV a2)) (fun w' hS' => zAd U2 rfl bX (hS'.cellB 6 rfl rfl))) ?_
       have hS := (hL.sl [0, 1, 2, 3, 4, 8, 9, 10, 11] rfl)
       obtain ⟨aL, cW, hm⟩ := zAs hm
       obtain ⟨cX, bO⟩ := zAZ cW
       obtain ⟨eK, eL, aX⟩ := zAC (hL.rdS 11 rfl aA) cX bO
       refine zAw 2 rfl (by kernel_rfl) rfl rfl hS (zAp (v := (.pointer (some ⟨eK, eL, none⟩))) (fun w' hS' => zA1 U27 zAf rfl rfl aX)) ?_
       have hS := (hL.sl [0, 1, 2, 3, 4, 8, 9, 10, 11] rfl)
       refine zAw 3 rfl (by kernel_rfl) rfl rfl hS (zAp (v := (IV aL)) (fun w' hS' => zAd U2 rfl rfl (zAv (hS'.rdS 8 rfl aA) aX bO 0 _ rfl))) ?_
       have hS := (hL.sl [0, 1, 2, 3, 4, 8, 9, 10, 11] rfl)
       refine zAw 4 rfl (by kernel_rfl) rfl rfl hS (zAp (v := aK) (fun w' hS' => zAe)) ?_
       have hS := (hL.sl [0, 1, 2, 3, 4, 8, 9, 10, 11] rfl)
       refine zAw 5 rfl (by kernel_rfl) rfl rfl hS (zAp (v := (IV a3)) (fun w' hS' => zAd U2 rfl bY (hS'.cellB 5 rfl rfl))) ?_
       have hS := (hL.sl [0, 1, 2, 3, 4, 8, 9, 10, 11] rfl)
       obtain ⟨aM, cY, hm⟩ := zAs hm
       obtain ⟨cZ, bP⟩ := zAZ cY
       obtain ⟨eM, eN, aY⟩ := zAC (hL.rdS 11 rfl aA) cZ bP
       refine zAw 6 rfl (by kernel_rfl) rfl rfl hS (zAp (v := (.pointer (some ⟨eM, eN, none⟩))) (fun w' hS' => zA1 U27 zAf rfl rfl aY)) ?_
       have hS := (hL.sl [0, 1, 2, 3, 4, 8, 9, 10, 11] rfl)
       refine zAw 7 rfl (by kernel_rfl) rfl rfl hS (zAp (v := (IV aM)) (fun w' hS' => zAd U2 rfl rfl (zAv (hS'.rdS 8 rfl aA) aY bP 0 _ rfl))) ?_
       have hS := (hL.sl [0, 1, 2, 3, 4, 8, 9, 10, 11] rfl)
       refine zAw 8 rfl (by kernel_rfl) rfl rfl hS (zAp (v := (IV (w64 (aL - aM)))) (fun w' hS' => zCn rfl rfl)) ?_
       have hS := (hL.sl [0, 1, 2, 3, 4, 8, 9, 10, 11] rfl)
       refine zAw 10 rfl (by kernel_rfl) rfl rfl hS (zAp (v := (IV (bD : Int))) (fun w' hS' => zAe)) ?_
       obtain ⟨cA, dA, hm⟩ := zAs hm
       refine zAT 9 rfl (by kernel_rfl) (OP.call rfl (zAq (vs := [(IV (w64 (aL - aM)))]) zMb ⟨rfl, trivial⟩) (zI5 _ (w64 (aL - aM)) dA) ?_)
       rintro gL fB ⟨rfl, dB⟩
       refine ⟨_, rfl, ?_⟩
       have hL := hL.pushAll dB
       simp only [lA, lB, lC, lD] at hL
       refine ⟨(hL.sl [0, 1, 2, 3, 4, 8, 9, 10, 11] rfl), ?_⟩
       refine zAT 11 rfl (by kernel_rfl) (zEt (cs' := #[(IV cA)]) hL 7 rfl zAf aH rfl rfl rfl rfl ?_)
       intro fC hL
       refine ⟨(hL.sl [0, 1, 2, 3, 4, 8, 9, 10, 11] rfl), ?_⟩
       refine zAT 12 rfl (by kernel_rfl) (zEt (cs' := #[(IV 3)]) hL 6 rfl zAf aI rfl rfl rfl rfl ?_)
       intro fD hL
       refine ⟨(hL.sl [0, 1, 2, 3, 4, 8, 9, 10, 11] rfl), ?_⟩
       refine zAT 13 rfl (by kernel_rfl) (zEt (cs' := #[(IV (bD : Int))]) hL 5 rfl zAf aJ rfl rfl rfl rfl ?_)
       intro fE hL
       refine ⟨(hL.sl [0, 1, 2, 3, 4, 8, 9, 10, 11] rfl), ?_⟩
       refine zDB (by kernel_rfl) ?_
       refine zPe ?_
       obtain rfl := oi hm
       have hm := cJ _ rfl
       obtain rfl := oi hm
       refine ⟨_, hL, fun wq hL => ?_⟩
       refine zPI hL 0 rfl (fun wq hL => ?_)
       simp only [List.set_cons_zero, List.set_cons_succ, List.eraseIdx_cons_zero] at hL
       exact RRs (v := (IV cA)) (v2 := (IV 3)) (vs := [(IV (bD : Int))]) (rs := [.cell 8 2, .cell 9 2, .cell 10 2]) rfl ⟨zIB aH (zGz U2 rfl (zGD (hL.get 5 rfl))), zIB aI (zGz U2 rfl (zGD (hL.get 4 rfl))), zIB aJ (zGz U2 rfl (zGD (hL.get 3 rfl))), trivial⟩ ⟨rfl, hL.fresh 9 rfl [] (by decide) (by decide) rfl⟩
     refine zNQ ?_
     obtain rfl := oi hm
     exact ⟨rfl, hL⟩
   intro gM fF hL hm
   have hm := zBD hm
   have hm : zEj (-1) = some r := hm
   unfold zEj at hm
   refine zSr ?_
   refine zJ8 ?_
   refine zJt ?_
   refine zAa (zEt (cs' := #[(IV 0)]) hL 6 rfl zAf aH rfl rfl rfl rfl ?_)
   intro fG hL
   refine zAa (zEt (cs' := #[(IV 0)]) hL 5 rfl zAf aI rfl rfl rfl rfl ?_)
   intro fH hL
   refine zAa (zEt (cs' := #[(IV 0)]) hL 4 rfl zAf aJ rfl rfl rfl rfl ?_)
   intro fI hL
   refine OW.nil ?_
   refine zPe ?_
   obtain rfl := oi hm
   refine zPI hL 0 rfl (fun wq hL => ?_)
   simp only [List.set_cons_zero, List.set_cons_succ, List.eraseIdx_cons_zero] at hL
   exact RRs (v := (IV 0)) (v2 := (IV 0)) (vs := [(IV 0)]) (rs := [.cell 8 2, .cell 9 2, .cell 10 2]) rfl ⟨zIB aH (zGz U2 rfl (zGD (hL.get 5 rfl))), zIB aI (zGz U2 rfl (zGD (hL.get 4 rfl))), zIB aJ (zGz U2 rfl (zGD (hL.get 3 rfl))), trivial⟩ ⟨rfl, hL.fresh 9 rfl [] (by decide) (by decide) rfl⟩
 intro s_l1 gN fJ gO hJ hm dC
 unfold zEl at hm
 obtain ⟨cB, cC, cD, aN, aO, aP, aQ, aR, bG, aS, hL⟩ := hJ
 refine CSR <| OV (.bool (decide (s_l1 < (min (aD.length : Int) (aF.length : Int))))) rfl (zBE aS bG) <| ONS ?_
 refine zAn (t := decide (s_l1 < (min (aD.length : Int) (aF.length : Int)))) rfl hm (fun dD hm => ?_) (fun dD hm => ?_)
 · refine zAt <| zAF <| CW.block <| CSR <| OV (IV s_l1) rfl (zAo aS) <| OV (IV s_l1) rfl (zAb) <| ONS ?_
   refine zBW zAQ ?_
   have hL := hL.call (zA8 _)
   refine DW.pre (fuel := 0) (fin := bma 9 511) (C := fun w' => Mod zBO _ w') [0, 1, 2, 3, 4, 5, 6, 7, 8] (Mod.refl _ _) (by kernel_rfl) (by kernel_rfl) ?_
   refine QV aE rfl rfl (fun w' hm' => zAo aQ) <| QV (IV s_l1) rfl rfl (fun w' hm' => zAe) ?_
   obtain ⟨bH, dE, hm⟩ := zAs hm
   obtain ⟨dF, bQ⟩ := zAZ dE
   obtain ⟨eO, eP, aZ⟩ := zAC (hL.rdO 1 rfl) dF bQ
   refine QV (.pointer (some ⟨eO, eP, none⟩)) rfl rfl (fun w' hm' => zA1 U27 zAf rfl rfl aZ) <| QV (IV bH) rfl rfl (fun w' hm' => zAd U2 rfl rfl (zAv ((hL.call hm').rdO 1 rfl) aZ bQ 0 _ rfl)) <| QV aG rfl rfl (fun w' hm' => zAo aR) <| QV (IV s_l1) rfl rfl (fun w' hm' => zAe) ?_
   obtain ⟨bI, dG, hm⟩ := zAs hm
   obtain ⟨dH, bR⟩ := zAZ dG
   obtain ⟨eQ, eR, bA⟩ := zAC (hL.rdO 0 rfl) dH bR
   refine QV (.pointer (some ⟨eQ, eR, none⟩)) rfl rfl (fun w' hm' => zA1 U27 zAf rfl rfl bA) <| QV (IV bI) rfl rfl (fun w' hm' => zAd U2 rfl rfl (zAv ((hL.call hm').rdO 0 rfl) bA bR 0 _ rfl)) <| QV (.bool (bH != bI)) rfl rfl (fun w' hm' => zDk rfl rfl) ?_
   refine QW.nil ?_
   intro fK hmod
   have hL := hL.call hmod
   refine zBu (by kernel_rfl) ?_
   refine zAn (t := bH != bI) rfl hm (fun dI hm => ?_) (fun dI hm => ?_)
   · refine zAF ?_
     refine zBW zAQ ?_
     have hL := hL.call (zA8 _)
     refine DW.pre (fuel := 3) (fin := bma 13 1023) (C := fun w' => Mod zBO _ w') [0, 1, 2, 3, 4, 5, 6, 7, 8, 9] (Mod.refl _ _) (by kernel_rfl) (by kernel_rfl) ?_
     refine QV aE rfl rfl (fun w' hm' => zAo aQ) <| QV (IV s_l1) rfl rfl (fun w' hm' => zAe) ?_
     obtain ⟨aT, dJ, hm⟩ := zAs hm
     obtain ⟨dK, bS⟩ := zAZ dJ
     obtain ⟨eS, eT, bB⟩ := zAC (hL.rdO 1 rfl) dK bS
     refine QV (.pointer (some ⟨eS, eT, none⟩)) rfl rfl (fun w' hm' => zA1 U27 zAf rfl rfl bB) <| QV (IV aT) rfl rfl (fun w' hm' => zAd U2 rfl rfl (zAv ((hL.call hm').rdO 1 rfl) bB bS 0 _ rfl)) <| QV aG rfl rfl (fun w' hm' => zAo aR) <| QV (IV s_l1) rfl rfl (fun w' hm' => zAe) ?_
     obtain ⟨aU, dL, hm⟩ := zAs hm
     obtain ⟨dM, bT⟩ := zAZ dL
     obtain ⟨eU, eV, bC⟩ := zAC (hL.rdO 0 rfl) dM bT
     refine QV (.pointer (some ⟨eU, eV, none⟩)) rfl rfl (fun w' hm' => zA1 U27 zAf rfl rfl bC) <| QV (IV aU) rfl rfl (fun w' hm' => zAd U2 rfl rfl (zAv ((hL.call hm').rdO 0 rfl) bC bT 0 _ rfl)) <| QV (IV (w64 (aT - aU))) rfl rfl (fun w' hm' => zCn rfl rfl) ?_
     obtain ⟨bJ, dN, hm⟩ := zAs hm
     refine zAi rfl (QP.call (v := (IV bJ)) rfl (fun w' hm' => zAq (vs := [(IV (w64 (aT - aU)))]) zMb ⟨rfl, trivial⟩) (fun w' hm' => (zI5 w' (w64 (aT - aU)) dN).mono (fun e w'' h => ⟨h.1, hm'.trans h.2.mod⟩)) ?_)
     refine QW.nil ?_
     intro fL hmod
     have hL := hL.call hmod
     refine zJX 10 rfl (by kernel_rfl) (zEt (cs' := #[(IV bJ)]) hL 4 rfl zAf aN rfl rfl rfl rfl ?_)
     intro fM hL
     refine zJX 11 rfl (by kernel_rfl) (zEt (cs' := #[(IV 2)]) hL 3 rfl zAf aO rfl rfl rfl rfl ?_)
     intro fN hL
     refine zJX 12 rfl (by kernel_rfl) (zEt (cs' := #[(IV 0)]) hL 2 rfl zAf aP rfl rfl rfl rfl ?_)
     intro fO hL
     refine zBu (by kernel_rfl) ?_
     refine zAx ?_
     refine RM.nil ?_
     obtain rfl := oi hm
     have hm := dC _ rfl
     obtain rfl := oi hm
     exact RRs (v := (IV bJ)) (v2 := (IV 2)) (vs := [(IV 0)]) (rs := [.cell 8 2, .cell 9 2, .cell 10 2]) rfl ⟨zIB aN (zGz U2 rfl (zGD (hL.get 4 rfl))), zIB aO (zGz U2 rfl (zGD (hL.get 3 rfl))), zIB aP (zGz U2 rfl (zGD (hL.get 2 rfl))), trivial⟩ ⟨rfl, hL.fresh 8 rfl [] (by decide) (by decide) rfl⟩
   refine zAt <| zAl <| OV (IV (w64 (s_l1 + 1))) rfl (zBe aS rfl) <| OV (IV (w64 (s_l1 + 1))) rfl (zAe) <| OW.nil ?_
   obtain rfl := oi hm
   exact ⟨_, rfl, ⟨cB, cC, cD, aN, aO, aP, aQ, aR, bG, rfl, hL⟩⟩
 refine zA0 ?_
 refine zBk ?_
 obtain rfl := oi hm
 exact ⟨_, rfl, ⟨cB, cC, cD, aN, aO, aP, aQ, aR, bG, aS, hL⟩⟩

theorem zKm (w0 : World) (a0 : List Int) {v1 : Value} (h2 : rdL (· < w0.heap.size) w0 v1 a0) {r : Bool} (hm : zDI a0 = some r) :
    Calls Tryz.prog 47 #[v1] w0 fun e w' => e = .returned (.bool r) ∧ Fresh w0 w' [] := by
 unfold zDI at hm
 refine zAD (args := [v1]) Tryz.func47 rfl rfl rfl ?_
 have hL := zAJ w0
 refine CSR <| OV (.bool false) rfl (zAb) <| ONS <| CSR <| OV v1 rfl (zAe) <| OV (IV (a0.length : Int)) rfl (zA3 U27 rfl (hL.rdS 0 rfl h2)) <| OV (.bool (decide (3 < (a0.length : Int)))) rfl (zIq rfl rfl) <| OW.nil ?_
 refine zAn (t := decide (3 < (a0.length : Int))) rfl hm (fun hb3 hm => ?_) (fun hb3 hm => ?_)
 · refine CSR <| OV (.bool false) rfl (zAb) <| OW.nil <| zAx ?_
   obtain rfl := oi hm
   exact RR1 rfl rfl ⟨rfl, hL.fresh 0 rfl [] (by decide) (by decide) rfl⟩
 refine zAt <| zAF <| CSR <| OV (IV 0) rfl (zAb) <| OW.nil ?_
 obtain ⟨bP, aO, hm⟩ := zAs hm
 refine zAU (fun (s_l1 : Int) F w => F 0 = v1 ∧ F 3 = (IV s_l1) ∧ Hp w0 [zAg w0 w0.heap.size] w) (fun o => zBh o (fun x => some x) (fun s => zDH s) = some r) aO hm ⟨rfl, rfl, hL⟩ ?_ ?_
 · intro s_l1 bQ bJ hJ hm
   have hm := zBD hm
   have hm : zDH s_l1 = some r := hm
   unfold zDH at hm
   obtain ⟨bR, bS, hL⟩ := hJ
   refine CSR <| OV (.bool true) rfl (zAb) <| OW.nil <| zAx ?_
   obtain rfl := oi hm
   exact RR1 rfl rfl ⟨rfl, hL.fresh 0 rfl [] (by decide) (by decide) rfl⟩
 intro s_l1 bT bK aZ hJ hm aP
 unfold zCH at hm
 obtain ⟨aD, aC, hL⟩ := hJ
 refine zAF <| CSR <| OV (IV s_l1) rfl (zAo aC) <| OV v1 rfl (zAo aD) <| OV (IV (a0.length : Int)) rfl (zA3 U27 rfl (hL.rdS 0 rfl h2)) <| OV (.bool (decide (s_l1 < (a0.length : Int)))) rfl (zBE rfl rfl) <| OW.nil ?_
 refine zAn (t := decide (s_l1 < (a0.length : Int))) rfl hm (fun aQ hm => ?_) (fun aQ hm => ?_)
 · refine zAt <| zAF <| CW.block ?_
   refine zAM (fun (s_j1 : Bool) F w => F 0 = v1 ∧ F 3 = (IV s_l1) ∧ F 34 = (.bool s_j1) ∧ Hp w0 [zAg w0 w0.heap.size] w) (fun s_j1 => zCf s_l1 s_j1 = some aZ) ?_ ?_
   · refine zBW zAQ ?_
     have hL := hL.call (zA8 _)
     refine DW.pre (fuel := 0) (fin := bma 22 4194303) (C := fun w' => Mod zBO _ w') [0, 1, 2, 3, 4, 5, 6, 7, 8, 9, 10, 11, 12, 13, 14, 15, 16, 17, 18, 19, 20, 21] (Mod.refl _ _) (by kernel_rfl) (by kernel_rfl) ?_
     refine QV v1 rfl rfl (fun w' hm' => zAo aD) <| QV (IV s_l1) rfl rfl (fun w' hm' => zAo aC) ?_
     obtain ⟨aJ, aR, hm⟩ := zAs hm
     obtain ⟨aS, aL⟩ := zAZ aR
     obtain ⟨bA, bB, aG⟩ := zAC (hL.rdS 0 rfl h2) aS aL
     refine QV (.pointer (some ⟨bA, bB, none⟩)) rfl rfl (fun w' hm' => zA1 U27 zAf rfl rfl aG) <| QV (IV aJ) rfl rfl (fun w' hm' => zAd U2 rfl rfl (zAv ((hL.call hm').rdS 0 rfl h2) aG aL 0 _ rfl)) ?_
     obtain ⟨aK, aT, hm⟩ := zAs hm
     refine zAi rfl (QP.call (v := (.bool aK)) rfl (fun w' hm' => zAq (vs := [(IV aJ), (IV 1), (IV 12)]) zEw ⟨rfl, rfl, rfl, trivial⟩) (fun w' hm' => (zBw w' aJ 1 12 aT).mono (fun e w'' h => ⟨h.1, hm'.trans h.2.mod⟩)) ?_)
     refine QV (.bool (!aK)) rfl rfl (fun w' hm' => zCb rfl) <| QV (.bool (!aK)) rfl rfl (fun w' hm' => zAe) ?_
     refine zAH hm (fun aB hm => ?_) (fun aB hm => ?_)
     · refine zAi rfl (zAK rfl rfl aB rfl ?_)
       refine zAi rfl (zAK rfl rfl aB rfl ?_)
       refine zAi rfl (zAK rfl rfl aB rfl ?_)
       refine zAi rfl (zB6 rfl rfl rfl ?_)
       refine zAi rfl (zB6 rfl rfl rfl ?_)
       refine zAi rfl (zB6 rfl rfl rfl ?_)
       refine zAi rfl (zB6 rfl rfl rfl ?_)
       refine zAi rfl (zB6 rfl rfl rfl ?_)
       refine zAi rfl (zB6 rfl rfl rfl ?_)
       refine zAi rfl (zB6 rfl rfl rfl ?_)
       refine zAi rfl (zB6 rfl rfl rfl ?_)
       refine zAi rfl (zB6 rfl rfl rfl ?_)
       refine zAi rfl (zB6 rfl rfl rfl ?_)
       refine zAi rfl (zAK rfl rfl aB rfl ?_)
       refine QV (.bool true) rfl rfl (fun w' hm' => zAz rfl aB rfl) ?_
       refine QW.nil ?_
       intro bL hmod
       have hL := hL.call hmod
       refine zBu (by kernel_rfl) ?_
       exact ⟨true, hm, ⟨aD, aC, rfl, hL⟩⟩
     refine zAi rfl (zAB rfl rfl aB (zAN (v := (IV s_l1)) rfl (fun w' hm' => zAo aC) ?_))
     refine zAi rfl (zAB rfl rfl aB (zAN (v := (.bool (decide (0 < s_l1)))) rfl (fun w' hm' => zIq rfl rfl) ?_))
     refine zAi rfl (zAB rfl rfl aB (zAN (v := (.bool (decide (0 < s_l1)))) rfl (fun w' hm' => zAe) ?_))
     refine zAH hm (fun aA hm => ?_) (fun aA hm => ?_)
     · refine zAi rfl (zAB rfl rfl aA (zAN (v := v1) rfl (fun w' hm' => zAo aD) ?_))
       refine zAi rfl (zAB rfl rfl aA (zAN (v := (IV s_l1)) rfl (fun w' hm' => zAo aC) ?_))
       refine zAi rfl (zAB rfl rfl aA (zAN (v := (IV (w64 (s_l1 - 1)))) rfl (fun w' hm' => zCn rfl rfl) ?_))
       obtain ⟨aE, aU, hm⟩ := zAs hm
       obtain ⟨aV, aM⟩ := zAZ aU
       obtain ⟨bC, bD, aH⟩ := zAC (hL.rdS 0 rfl h2) aV aM
       refine zAi rfl (zAB rfl rfl aA (zAN (v := (.pointer (some ⟨bC, bD, none⟩))) rfl (fun w' hm' => zA1 U27 zAf rfl rfl aH) ?_))
       refine zAi rfl (zAB rfl rfl aA (zAN (v := (IV aE)) rfl (fun w' hm' => zAd U2 rfl rfl (zAv ((hL.call hm').rdS 0 rfl h2) aH aM 0 _ rfl)) ?_))
       refine zAi rfl (zAB rfl rfl aA (zAN (v := v1) rfl (fun w' hm' => zAo aD) ?_))
       refine zAi rfl (zAB rfl rfl aA (zAN (v := (IV s_l1)) rfl (fun w' hm' => zAo aC) ?_))
       obtain ⟨aF, aW, hm⟩ := zAs hm
       obtain ⟨aX, aN⟩ := zAZ aW
       obtain ⟨bE, bF, aI⟩ := zAC (hL.rdS 0 rfl h2) aX aN
       refine zAi rfl (zAB rfl rfl aA (zAN (v := (.pointer (some ⟨bE, bF, none⟩))) rfl (fun w' hm' => zA1 U27 zAf rfl rfl aI) ?_))
       refine zAi rfl (zAB rfl rfl aA (zAN (v := (IV aF)) rfl (fun w' hm' => zAd U2 rfl rfl (zAv ((hL.call hm').rdS 0 rfl h2) aI aN 0 _ rfl)) ?_))
       refine zAi rfl (zAB rfl rfl aA (zAN (v := (.bool (decide (aF ≤ aE)))) rfl (fun w' hm' => zKf rfl rfl) ?_))
       refine zAi rfl (zAB rfl rfl aB (zAN (v := (.bool (decide (aF ≤ aE)))) rfl (fun w' hm' => zAz rfl aA rfl) ?_))
       refine QV (.bool (decide (aF ≤ aE))) rfl rfl (fun w' hm' => zAA rfl aB rfl) ?_
       refine QW.nil ?_
       intro bM hmod
       have hL := hL.call hmod
       refine zBu (by kernel_rfl) ?_
       exact ⟨decide (aF ≤ aE), hm, ⟨aD, aC, rfl, hL⟩⟩
     refine zAi rfl (zAK rfl rfl aA rfl ?_)
     refine zAi rfl (zAK rfl rfl aA rfl ?_)
     refine zAi rfl (zAK rfl rfl aA rfl ?_)
     refine zAi rfl (zAK rfl rfl aA rfl ?_)
     refine zAi rfl (zAK rfl rfl aA rfl ?_)
     refine zAi rfl (zAK rfl rfl aA rfl ?_)
     refine zAi rfl (zAK rfl rfl aA rfl ?_)
     refine zAi rfl (zAK rfl rfl aA rfl ?_)
     refine zAi rfl (zAK rfl rfl aA rfl ?_)
     refine zAi rfl (zAK rfl rfl aA rfl ?_)
     refine zAi rfl (zAB rfl rfl aB (zAN (v := (.bool false)) rfl (fun w' hm' => zAA rfl aA rfl) ?_))
     refine QV (.bool false) rfl rfl (fun w' hm' => zAA rfl aB rfl) ?_
     refine QW.nil ?_
     intro bN hmod
     have hL := hL.call hmod
     refine zBu (by kernel_rfl) ?_
     exact ⟨false, hm, ⟨aD, aC, rfl, hL⟩⟩
   intro s_j1 bU bO hJ hm
   unfold zCf at hm
   obtain ⟨bG, bH, bI, hL⟩ := hJ
   refine zAn (t := s_j1) bI hm (fun aY hm => ?_) (fun aY hm => ?_)
   · refine CSR <| OV (.bool false) rfl (zAb) <| OW.nil <| zAx ?_
     obtain rfl := oi hm
     have hm := aP _ rfl
     obtain rfl := oi hm
     exact RR1 rfl rfl ⟨rfl, hL.fresh 0 rfl [] (by decide) (by decide) rfl⟩
   refine zAt <| zAl <| OV (IV s_l1) rfl (zAo bH) <| OV (IV (w64 (s_l1 + 1))) rfl (zBe rfl rfl) <| OV (IV (w64 (s_l1 + 1))) rfl (zAb) <| OW.nil ?_
   obtain rfl := oi hm
   exact ⟨_, rfl, ⟨bG, rfl, hL⟩⟩
 refine zA0 ?_
 refine zBk ?_
 obtain rfl := oi hm
 exact ⟨_, rfl, ⟨aD, aC, hL⟩⟩

theorem zLL (w0 : World) (a0 : List Int) {v1 : Value} (h2 : rdL (· < w0.heap.size) w0 v1 a0) (a1 : Int) {r : Int} (hm : zFo a0 a1 = some r) :
    Calls Tryz.prog 102 #[v1, (IV a1)] w0 fun e w' => e = .returned (IV r) ∧ Fresh w0 w' [] := by
 unfold zFo at hm
 refine zAD (args := [v1, (IV a1)]) Tryz.func102 rfl rfl rfl ?_
 have hL := zAJ w0
 refine CSR <| OV (IV 0) rfl (zAb) <| ONR <| OV (IV 0) rfl (zAb) <| ONS <| CSR <| OV (IV 0) rfl (zAb) <| OW.nil ?_
 obtain ⟨bD, aI, hm⟩ := zAs hm
 refine zAU (fun (s_l1 : Int × Int) F w => F 0 = v1 ∧ F 1 = (IV a1) ∧ F 5 = (IV s_l1.1) ∧ F 6 = (IV s_l1.2) ∧ Hp w0 [zAg w0 w0.heap.size] w) (fun o => zBh o (fun x => some x) (fun s => zFZ s) = some r) aI hm ⟨rfl, rfl, rfl, rfl, hL⟩ ?_ ?_
 · intro s_l1 bE aY hJ hm
   have hm := zBD hm
   have hm : zFZ s_l1 = some r := hm
   unfold zFZ at hm
   obtain ⟨bF, bG, aN, bH, hL⟩ := hJ
   refine CSR <| OV (IV s_l1.1) rfl (zAo aN) <| OV (IV s_l1.1) rfl (zAb) <| OW.nil <| zAx ?_
   obtain rfl := oi hm
   exact RR1 rfl rfl ⟨rfl, hL.fresh 0 rfl [] (by decide) (by decide) rfl⟩
 intro s_l1 bI aZ aH hJ hm bA
 unfold zDC at hm
 obtain ⟨aA, aC, aE, aB, hL⟩ := hJ
 refine zAF <| CSR <| OV (IV s_l1.2) rfl (zAo aB) <| OV v1 rfl (zAo aA) <| OV (IV (a0.length : Int)) rfl (zA3 U27 rfl (hL.rdS 0 rfl h2)) <| OV (.bool (decide (s_l1.2 < (a0.length : Int)))) rfl (zBE rfl rfl) <| OW.nil ?_
 refine zAn (t := decide (s_l1.2 < (a0.length : Int))) rfl hm (fun aJ hm => ?_) (fun aJ hm => ?_)
 · refine zAt ?_
   refine zAM (fun (s_j1 : Int) F w => F 0 = v1 ∧ F 1 = (IV a1) ∧ F 5 = (IV s_j1) ∧ F 6 = (IV s_l1.2) ∧ Hp w0 [zAg w0 w0.heap.size] w) (fun s_j1 => zF0 s_l1 s_j1 = some aH) ?_ ?_
   · refine zBG (fun (s_j2 : Int) F w => F 0 = v1 ∧ F 1 = (IV a1) ∧ F 5 = (IV s_j2) ∧ F 6 = (IV s_l1.2) ∧ Hp w0 [zAg w0 w0.heap.size] w) (fun s_j2 => zEG s_l1 s_j2 = some aH) ?_ ?_
     · refine CSR <| OV v1 rfl (zAo aA) <| OV (IV s_l1.2) rfl (zAo aB) ?_
       obtain ⟨aF, aK, hm⟩ := zAs hm
       obtain ⟨aL, aG⟩ := zAZ aK
       obtain ⟨aO, aP, aD⟩ := zAC (hL.rdS 0 rfl h2) aL aG
       refine OV (.pointer (some ⟨aO, aP, none⟩)) rfl (zA1 U27 zAf rfl rfl aD) <| OV (IV aF) rfl (zAd U2 rfl rfl (zAv (hL.rdS 0 rfl h2) aD aG 0 _ rfl)) <| OV (IV a1) rfl (zAo aC) <| OV (.bool (decide (aF ≤ a1))) rfl (zKe rfl rfl) <| OW.nil ?_
       refine zAn (t := decide (aF ≤ a1)) rfl hm (fun aM hm => ?_) (fun aM hm => ?_)
       · refine zAl <| OV (IV s_l1.1) rfl (zAo aE) <| OV (IV (w64 (s_l1.1 + 1))) rfl (zBe rfl rfl) <| OV (IV (w64 (s_l1.1 + 1))) rfl (zAb) <| OW.nil ?_
         exact ⟨w64 (s_l1.1 + 1), hm, ⟨aA, aC, rfl, aB, hL⟩⟩
       refine zAt ?_
       exact ⟨s_l1.1, hm, ⟨aA, aC, aE, aB, hL⟩⟩
     intro s_j2 bJ bB hJ hm
     unfold zEG at hm
     obtain ⟨aQ, aR, aS, aT, hL⟩ := hJ
     exact ⟨s_j2, hm, ⟨aQ, aR, aS, aT, hL⟩⟩
   intro s_j1 bK bC hJ hm
   unfold zF0 at hm
   obtain ⟨aU, aV, aW, aX, hL⟩ := hJ
   refine zAl <| OV (IV s_l1.2) rfl (zAo aX) <| OV (IV (w64 (s_l1.2 + 1))) rfl (zBe rfl rfl) <| OV (IV (w64 (s_l1.2 + 1))) rfl (zAb) <| OW.nil ?_
   obtain rfl := oi hm
   exact ⟨_, rfl, ⟨aU, aV, aW, rfl, hL⟩⟩
 refine zA0 ?_
 refine zBk ?_
 obtain rfl := oi hm
 exact ⟨_, rfl, ⟨aA, aC, aE, aB, hL⟩⟩

theorem zMv (w0 : World) (a0 : Table) {v1 : Value} {v3 : Value} (h2 : rdL (· < w0.heap.size) w0 v1 a0.Points) (h4 : rdL (· < w0.heap.size) w0 v3 a0.Codes) (a1 : List Int) {v5 : Value} (h6 : rdL (· < w0.heap.size) w0 v5 a1) (a2 : Int) {r : (List Bool)} (hm : zIP a0 a1 a2 = some r) :
    Calls Tryz.prog 68 #[(.agg #[(IV a0.Boats), v1, v3]), v5, (IV a2)] w0 fun e w' => ∃ (rv0 : Value) (rS0 : Nat → Prop), e = .returned rv0 ∧ Fresh w0 w' [Ent.own 4 rS0 rv0 r] := by
 unfold zIP at hm
 refine zAD (args := [(.agg #[(IV a0.Boats), v1, v3]), v5, (IV a2)]) Tryz.func68 rfl rfl rfl ?_
 have hL := zAJ w0
 refine CSR ?_
 refine zAa (zC3 (cs := #[(IV a0.Boats), v1, v3]) hL rfl rfl rfl ?_)
 intro wd7 b8 hL
 refine OV (.slice none 0 0) rfl (zAb) <| ONR <| OV (PV b8 1) rfl (zAc (fsz := 1) 0 1 1 U26 rfl zBq rfl rfl rfl) <| OV v1 rfl (zAd U24 rfl rfl (hL.cellB 0 rfl rfl)) <| OV (IV (a0.Points.length : Int)) rfl (zA3 U24 rfl (hL.rdS 1 rfl h2)) ?_
 obtain ⟨eT, hm⟩ := zEs hm
 refine zAa (zKS (α := Bool) false hL U85 zL6 rfl rfl rfl eT (by decide) rfl ?_)
 intro wd9 aE fM hL
 refine OV aE rfl (zAb) <| ONS <| CSR <| OV v5 rfl (zAe) <| OV (PV b8 1) rfl (zAc (fsz := 1) 0 1 1 U26 rfl zBq rfl rfl rfl) <| OV v1 rfl (zAd U24 rfl rfl (hL.cellB 1 rfl rfl)) <| OV (IV (a0.Points.length : Int)) rfl (zA3 U24 rfl (hL.rdS 2 rfl h2)) ?_
 obtain ⟨fN, eU, hm⟩ := zAs hm
 refine zAa (OP.call rfl (zAq (vs := [v5, (IV (a0.Points.length : Int))]) zQa ⟨rfl, rfl, trivial⟩) (zLL _ a1 (hL.rdS 2 rfl h6) (a0.Points.length : Int) eU) ?_)
 rintro gI gH ⟨rfl, eV⟩
 refine ⟨_, rfl, ?_⟩
 have hL := hL.pushAll eV
 simp only [lA, lB, lC, lD] at hL
 refine OV (IV fN) rfl (zAb) <| OW.nil ?_
 obtain ⟨fO, bX, hm⟩ := zAs hm
 refine zAU (fun (s_l1 : (List Bool) × Int) F w => ∃ aD, F 2 = (IV a2) ∧ F 3 = (PV b8 0) ∧ F 7 = aE ∧ F 8 = (IV s_l1.2) ∧ Hp w0 [Ent.own 4 aD aE s_l1.1, Ent.blk b8 26 #[(IV a0.Boats), v1, v3], zAg w0 w0.heap.size] w) (fun o => zBh o (fun x => some x) (fun s => zIE s) = some r) bX hm ⟨fM, rfl, rfl, rfl, rfl, hL⟩ ?_ ?_
 · intro s_l1 fP eW hJ hm
   have hm := zBD hm
   have hm : zIE s_l1 = some r := hm
   unfold zIE at hm
   obtain ⟨aD, fQ, fR, dD, fS, hL⟩ := hJ
   refine CSR <| OV aE rfl (zAo dD) <| OV aE rfl (zAb) <| OW.nil <| zAx ?_
   obtain rfl := oi hm
   exact RR1 rfl rfl ⟨aE, aD, rfl, hL.fresh 2 rfl [0] (by decide) (by decide) rfl⟩
 intro s_l1 fT eX aN hJ hm eY
 unfold zHG at hm
 obtain ⟨aD, bJ, bK, bL, aP, hL⟩ := hJ
 refine zAF <| CSR <| OV (IV s_l1.2) rfl (zAo aP) <| OV (.bool (decide (0 < s_l1.2))) rfl (zIq rfl rfl) <| OW.nil ?_
 refine zAn (t := decide (0 < s_l1.2)) rfl hm (fun bY hm => ?_) (fun bY hm => ?_)
 · refine zAt ?_
   refine zAM (fun (s_j1 : (List Bool)) F w => ∃ aQ, F 2 = (IV a2) ∧ F 3 = (PV b8 0) ∧ F 7 = aE ∧ F 8 = (IV s_l1.2) ∧ Hp w0 [Ent.own 4 aQ aE s_j1, Ent.blk b8 26 #[(IV a0.Boats), v1, v3], zAg w0 w0.heap.size] w) (fun s_j1 => zIF s_l1 s_j1 = some aN) ?_ ?_
   · refine zBG (fun (s_j2 : (List Bool)) F w => ∃ aR, F 2 = (IV a2) ∧ F 3 = (PV b8 0) ∧ F 7 = aE ∧ F 8 = (IV s_l1.2) ∧ Hp w0 [Ent.own 4 aR aE s_j2, Ent.blk b8 26 #[(IV a0.Boats), v1, v3], zAg w0 w0.heap.size] w) (fun s_j2 => zHE s_l1 s_j2 = some aN) ?_ ?_
     · refine CSR <| OV (IV (-1)) rfl (zAb) <| ONS <| CSR <| OV (IV 0) rfl (zAb) <| OW.nil ?_
       obtain ⟨fU, bZ, hm⟩ := zAs hm
       refine zAU (fun (s_l2 : Int × Int) F w => F 2 = (IV a2) ∧ F 3 = (PV b8 0) ∧ F 7 = aE ∧ F 8 = (IV s_l1.2) ∧ F 9 = (IV s_l2.1) ∧ F 10 = (IV s_l2.2) ∧ Hp w0 [Ent.own 4 aD aE s_l1.1, Ent.blk b8 26 #[(IV a0.Boats), v1, v3], zAg w0 w0.heap.size] w) (fun o => zBh o (fun x => some (.ret x)) (fun s => zHF s_l1 s) = some aN) bZ hm ⟨bJ, bK, bL, aP, rfl, rfl, hL⟩ ?_ ?_
       · intro s_l2 fV eZ hJ hm
         have hm := zBD hm
         have hm : zHF s_l1 s_l2 = some aN := hm
         unfold zHF at hm
         obtain ⟨bM, bN, aS, bO, bP, fW, hL⟩ := hJ
         refine CSR <| OV (IV s_l2.1) rfl (zAo bP) <| OV (.bool (decide (0 ≤ s_l2.1))) rfl (zKf rfl rfl) <| OW.nil ?_
         refine zAn (t := decide (0 ≤ s_l2.1)) rfl hm (fun cA hm => ?_) (fun cA hm => ?_)
         · refine zAl <| OV aE rfl (zAo aS) <| OV (IV s_l2.1) rfl (zAo bP) ?_
           obtain ⟨fX, cB, hm⟩ := zAs hm
           obtain ⟨cC, bB⟩ := zAZ cB
           obtain ⟨dE, dF, aT⟩ := zAC (hL.rdO 0 rfl) cC bB
           refine OV (.pointer (some ⟨dE, dF, none⟩)) rfl (zA1 U85 zL6 rfl rfl aT) ?_
           refine zAa (zBV (j := 0) true hL 0 rfl zL6 aT bB rfl rfl rfl rfl rfl rfl ?_)
           intro fA hL
           refine OW.nil ?_
           exact ⟨s_l1.1.set (s_l2.1 : Int).toNat true, hm, ⟨aD, bM, bN, aS, bO, hL⟩⟩
         refine zAt ?_
         exact ⟨s_l1.1, hm, ⟨aD, bM, bN, aS, bO, hL⟩⟩
       intro s_l2 fY fB aU hJ hm fC
       unfold zCU at hm
       obtain ⟨aG, aH, aI, aK, aJ, aF, hL⟩ := hJ
       refine zAF <| CSR <| OV (IV s_l2.2) rfl (zAo aF) <| OV aE rfl (zAo aI) <| OV (IV (s_l1.1.length : Int)) rfl (zA3 U85 rfl (hL.rdO 0 rfl)) <| OV (.bool (decide (s_l2.2 < (s_l1.1.length : Int)))) rfl (zBE rfl rfl) <| OW.nil ?_
       refine zAn (t := decide (s_l2.2 < (s_l1.1.length : Int))) rfl hm (fun cD hm => ?_) (fun cD hm => ?_)
       · refine zAt ?_
         refine zAM (fun (s_j3 : Int) F w => F 2 = (IV a2) ∧ F 3 = (PV b8 0) ∧ F 7 = aE ∧ F 8 = (IV s_l1.2) ∧ F 9 = (IV s_j3) ∧ F 10 = (IV s_l2.2) ∧ Hp w0 [Ent.own 4 aD aE s_l1.1, Ent.blk b8 26 #[(IV a0.Boats), v1, v3], zAg w0 w0.heap.size] w) (fun s_j3 => zDL s_l2 s_j3 = some aU) ?_ ?_
         · refine zBG (fun (s_j4 : Int) F w => F 2 = (IV a2) ∧ F 3 = (PV b8 0) ∧ F 7 = aE ∧ F 8 = (IV s_l1.2) ∧ F 9 = (IV s_j4) ∧ F 10 = (IV s_l2.2) ∧ Hp w0 [Ent.own 4 aD aE s_l1.1, Ent.blk b8 26 #[(IV a0.Boats), v1, v3], zAg w0 w0.heap.size] w) (fun s_j4 => zCT s_l2 s_j4 = some aU) ?_ ?_
           · refine zAM (fun (s_j5 : Bool) F w => F 2 = (IV a2) ∧ F 3 = (PV b8 0) ∧ F 7 = aE ∧ F 8 = (IV s_l1.2) ∧ F 9 = (IV s_l2.1) ∧ F 10 = (IV s_l2.2) ∧ F 68 = (.bool s_j5) ∧ Hp w0 [Ent.own 4 aD aE s_l1.1, Ent.blk b8 26 #[(IV a0.Boats), v1, v3], zAg w0 w0.heap.size] w) (fun s_j5 => zCg s_l2 s_j5 = some aU) ?_ ?_
             · refine zBW zAQ ?_
               have hL := hL.call (zA8 _)
               refine DW.pre (fuel := 0) (fin := bma 39 549755813887) (C := fun w' => Mod zBO _ w') [0, 1, 2, 3, 4, 5, 6, 7, 8, 9, 10, 11, 12, 13, 14, 15, 16, 17, 18, 19, 20, 21, 22, 23, 24, 25, 26, 27, 28, 29, 30, 31, 32, 33, 34, 35, 36, 37, 38] (Mod.refl _ _) (by kernel_rfl) (by kernel_rfl) ?_
               refine QV aE rfl rfl (fun w' hm' => zAo aI) <| QV (IV s_l2.2) rfl rfl (fun w' hm' => zAo aF) ?_
               obtain ⟨aV, cE, hm⟩ := zAs hm
               obtain ⟨cF, bC⟩ := zAZ cE
               obtain ⟨dG, dH, aW⟩ := zAC (hL.rdO 0 rfl) cF bC
               refine QV (.pointer (some ⟨dG, dH, none⟩)) rfl rfl (fun w' hm' => zA1 U85 zL6 rfl rfl aW) <| QV (.bool aV) rfl rfl (fun w' hm' => zAd U4 rfl rfl (zAv ((hL.call hm').rdO 0 rfl) aW bC 0 _ rfl)) <| QV (.bool (!aV)) rfl rfl (fun w' hm' => zCb rfl) <| QV (.bool (!aV)) rfl rfl (fun w' hm' => zAe) ?_
               refine zAH hm (fun aB hm => ?_) (fun aB hm => ?_)
               · refine zAi rfl (zAB rfl rfl aB (zAN (v := (PV b8 2)) rfl (fun w' hm' => zAc (fsz := 1) 0 2 2 U26 rfl zBq rfl aH rfl) ?_))
                 refine zAi rfl (zAB rfl rfl aB (zAN (v := v3) rfl (fun w' hm' => zAd U24 rfl rfl ((hL.call hm').cellB 1 rfl rfl)) ?_))
                 refine zAi rfl (zAB rfl rfl aB (zAN (v := (IV s_l2.2)) rfl (fun w' hm' => zAo aF) ?_))
                 obtain ⟨fZ, cG, hm⟩ := zAs hm
                 obtain ⟨cH, cI⟩ := zAZ cG
                 obtain ⟨dI, dJ, dK, bU, cJ, cK, bD⟩ := zCp h4 cH cI
                 refine zAi rfl (zAB rfl rfl aB (zAN (v := (.pointer (some ⟨dI, dJ, none⟩))) rfl (fun w' hm' => zA1 U24 zAR rfl rfl bU) ?_))
                 refine zAi rfl (zAB rfl rfl aB (zAN (v := dK) rfl (fun w' hm' => zAd U27 rfl rfl ((hL.call hm').cellS 2 rfl cJ cK)) ?_))
                 refine zAi rfl (zAB rfl rfl aB (zAN (v := (IV a2)) rfl (fun w' hm' => zAo aG) ?_))
                 obtain ⟨aO, cM, hm⟩ := zAs hm
                 obtain ⟨cN, bE⟩ := zAZ cM
                 obtain ⟨dL, dM, aX⟩ := zAC (hL.rdS 2 rfl bD) cN bE
                 refine zAi rfl (zAB rfl rfl aB (zAN (v := (.pointer (some ⟨dL, dM, none⟩))) rfl (fun w' hm' => zA1 U27 zAf rfl rfl aX) ?_))
                 refine zAi rfl (zAB rfl rfl aB (zAN (v := (IV aO)) rfl (fun w' hm' => zAd U2 rfl rfl (zAv ((hL.call hm').rdS 2 rfl bD) aX bE 0 _ rfl)) ?_))
                 refine zAi rfl (zAB rfl rfl aB (zAN (v := (.bool (aO != 7))) rfl (fun w' hm' => zDk rfl rfl) ?_))
                 refine QV (.bool (aO != 7)) rfl rfl (fun w' hm' => zAz rfl aB rfl) <| QV (.bool (aO != 7)) rfl rfl (fun w' hm' => zAe) ?_
                 refine zAH hm (fun aC hm => ?_) (fun aC hm => ?_)
                 · refine zAi rfl (zAB rfl rfl aC (zAN (v := (IV s_l2.1)) rfl (fun w' hm' => zAo aJ) ?_))
                   refine zAi rfl (zAB rfl rfl aC (zAN (v := (.bool (decide (s_l2.1 < 0)))) rfl (fun w' hm' => zBE rfl rfl) ?_))
                   refine zAi rfl (zAB rfl rfl aC (zAN (v := (.bool (decide (s_l2.1 < 0)))) rfl (fun w' hm' => zAe) ?_))
                   refine zAH hm (fun aA hm => ?_) (fun aA hm => ?_)
                   · refine zAi rfl (zAK rfl rfl aA rfl ?_)
                     refine zAi rfl (zAK rfl rfl aA rfl ?_)
                     refine zAi rfl (zAK rfl rfl aA rfl ?_)
                     refine zAi rfl (zAK rfl rfl aA rfl ?_)
                     refine zAi rfl (zAK rfl rfl aA rfl ?_)
                     refine zAi rfl (zAK rfl rfl aA rfl ?_)
                     refine zAi rfl (zAK rfl rfl aA rfl ?_)
                     refine zAi rfl (zAK rfl rfl aA rfl ?_)
                     refine zAi rfl (zAK rfl rfl aA rfl ?_)
                     refine zAi rfl (zAK rfl rfl aA rfl ?_)
                     refine zAi rfl (zAK rfl rfl aA rfl ?_)
                     refine zAi rfl (zAK rfl rfl aA rfl ?_)
                     refine zAi rfl (zAK rfl rfl aA rfl ?_)
                     refine zAi rfl (zAK rfl rfl aA rfl ?_)
                     refine zAi rfl (zAK rfl rfl aA rfl ?_)
                     refine zAi rfl (zAK rfl rfl aA rfl ?_)
                     refine zAi rfl (zAK rfl rfl aA rfl ?_)
                     refine zAi rfl (zAB rfl rfl aC (zAN (v := (.bool true)) rfl (fun w' hm' => zAz rfl aA rfl) ?_))
                     refine QV (.bool true) rfl rfl (fun w' hm' => zAz rfl aC rfl) ?_
                     refine QW.nil ?_
                     intro fD hmod
                     have hL := hL.call hmod
                     refine zBu (by kernel_rfl) ?_
                     exact ⟨true, hm, ⟨aG, aH, aI, aK, aJ, aF, rfl, hL⟩⟩
                   refine zAi rfl (zAB rfl rfl aA (zAN (v := (PV b8 1)) rfl (fun w' hm' => zAc (fsz := 1) 0 1 1 U26 rfl zBq rfl aH rfl) ?_))
                   refine zAi rfl (zAB rfl rfl aA (zAN (v := v1) rfl (fun w' hm' => zAd U24 rfl rfl ((hL.call hm').cellB 1 rfl rfl)) ?_))
                   refine zAi rfl (zAB rfl rfl aA (zAN (v := (IV s_l2.2)) rfl (fun w' hm' => zAo aF) ?_))
                   obtain ⟨gA, cO, hm⟩ := zAs hm
                   obtain ⟨cP, cQ⟩ := zAZ cO
                   obtain ⟨dN, dO, dP, bV, cR, cS, bF⟩ := zCp h2 cP cQ
                   refine zAi rfl (zAB rfl rfl aA (zAN (v := (.pointer (some ⟨dN, dO, none⟩))) rfl (fun w' hm' => zA1 U24 zAR rfl rfl bV) ?_))
                   refine zAi rfl (zAB rfl rfl aA (zAN (v := dP) rfl (fun w' hm' => zAd U27 rfl rfl ((hL.call hm').cellS 2 rfl cR cS)) ?_))
                   refine zAi rfl (zAB rfl rfl aA (zAN (v := (IV a2)) rfl (fun w' hm' => zAo aG) ?_))
                   obtain ⟨aL, cT, hm⟩ := zAs hm
                   obtain ⟨cU, bG⟩ := zAZ cT
                   obtain ⟨dQ, dR, aY⟩ := zAC (hL.rdS 2 rfl bF) cU bG
                   refine zAi rfl (zAB rfl rfl aA (zAN (v := (.pointer (some ⟨dQ, dR, none⟩))) rfl (fun w' hm' => zA1 U27 zAf rfl rfl aY) ?_))
                   refine zAi rfl (zAB rfl rfl aA (zAN (v := (IV aL)) rfl (fun w' hm' => zAd U2 rfl rfl (zAv ((hL.call hm').rdS 2 rfl bF) aY bG 0 _ rfl)) ?_))
                   refine zAi rfl (zAB rfl rfl aA (zAN (v := (PV b8 1)) rfl (fun w' hm' => zAc (fsz := 1) 0 1 1 U26 rfl zBq rfl aH rfl) ?_))
                   refine zAi rfl (zAB rfl rfl aA (zAN (v := v1) rfl (fun w' hm' => zAd U24 rfl rfl ((hL.call hm').cellB 1 rfl rfl)) ?_))
                   refine zAi rfl (zAB rfl rfl aA (zAN (v := (IV s_l2.1)) rfl (fun w' hm' => zAo aJ) ?_))
                   obtain ⟨gB, cV, hm⟩ := zAs hm
                   obtain ⟨cW, cX⟩ := zAZ cV
                   obtain ⟨dS, dT, dU, bW, cY, cZ, bH⟩ := zCp h2 cW cX
                   refine zAi rfl (zAB rfl rfl aA (zAN (v := (.pointer (some ⟨dS, dT, none⟩))) rfl (fun w' hm' => zA1 U24 zAR rfl rfl bW) ?_))
                   refine zAi rfl (zAB rfl rfl aA (zAN (v := dU) rfl (fun w' hm' => zAd U27 rfl rfl ((hL.call hm').cellS 2 rfl cY cZ)) ?_))
                   refine zAi rfl (zAB rfl rfl aA (zAN (v := (IV a2)) rfl (fun w' hm' => zAo aG) ?_))
                   obtain ⟨aM, dA, hm⟩ := zAs hm
                   obtain ⟨dB, bI⟩ := zAZ dA
                   obtain ⟨dV, dW, aZ⟩ := zAC (hL.rdS 2 rfl bH) dB bI
                   refine zAi rfl (zAB rfl rfl aA (zAN (v := (.pointer (some ⟨dV, dW, none⟩))) rfl (fun w' hm' => zA1 U27 zAf rfl rfl aZ) ?_))
                   refine zAi rfl (zAB rfl rfl aA (zAN (v := (IV aM)) rfl (fun w' hm' => zAd U2 rfl rfl (zAv ((hL.call hm').rdS 2 rfl bH) aZ bI 0 _ rfl)) ?_))
                   refine zAi rfl (zAB rfl rfl aA (zAN (v := (.bool (decide (aM < aL)))) rfl (fun w' hm' => zIq rfl rfl) ?_))
                   refine zAi rfl (zAB rfl rfl aC (zAN (v := (.bool (decide (aM < aL)))) rfl (fun w' hm' => zAA rfl aA rfl) ?_))
                   refine QV (.bool (decide (aM < aL))) rfl rfl (fun w' hm' => zAz rfl aC rfl) ?_
                   refine QW.nil ?_
                   intro fE hmod
                   have hL := hL.call hmod
                   refine zBu (by kernel_rfl) ?_
                   exact ⟨decide (aM < aL), hm, ⟨aG, aH, aI, aK, aJ, aF, rfl, hL⟩⟩
                 refine zAi rfl (zAK rfl rfl aC rfl ?_)
                 refine zAi rfl (zAK rfl rfl aC rfl ?_)
                 refine zAi rfl (zAK rfl rfl aC rfl ?_)
                 refine zAi rfl (zB6 rfl rfl rfl ?_)
                 refine zAi rfl (zB6 rfl rfl rfl ?_)
                 refine zAi rfl (zB6 rfl rfl rfl ?_)
                 refine zAi rfl (zB6 rfl rfl rfl ?_)
                 refine zAi rfl (zB6 rfl rfl rfl ?_)
                 refine zAi rfl (zB6 rfl rfl rfl ?_)
                 refine zAi rfl (zB6 rfl rfl rfl ?_)
                 refine zAi rfl (zB6 rfl rfl rfl ?_)
                 refine zAi rfl (zB6 rfl rfl rfl ?_)
                 refine zAi rfl (zB6 rfl rfl rfl ?_)
                 refine zAi rfl (zB6 rfl rfl rfl ?_)
                 refine zAi rfl (zB6 rfl rfl rfl ?_)
                 refine zAi rfl (zB6 rfl rfl rfl ?_)
                 refine zAi rfl (zB6 rfl rfl rfl ?_)
                 refine zAi rfl (zB6 rfl rfl rfl ?_)
                 refine zAi rfl (zB6 rfl rfl rfl ?_)
                 refine zAi rfl (zB6 rfl rfl rfl ?_)
                 refine zAi rfl (zAK rfl rfl aC rfl ?_)
                 refine QV (.bool false) rfl rfl (fun w' hm' => zAA rfl aC rfl) ?_
                 refine QW.nil ?_
                 intro fF hmod
                 have hL := hL.call hmod
                 refine zBu (by kernel_rfl) ?_
                 exact ⟨false, hm, ⟨aG, aH, aI, aK, aJ, aF, rfl, hL⟩⟩
               refine zAi rfl (zAK rfl rfl aB rfl ?_)
               refine zAi rfl (zAK rfl rfl aB rfl ?_)
               refine zAi rfl (zAK rfl rfl aB rfl ?_)
               refine zAi rfl (zAK rfl rfl aB rfl ?_)
               refine zAi rfl (zAK rfl rfl aB rfl ?_)
               refine zAi rfl (zAK rfl rfl aB rfl ?_)
               refine zAi rfl (zAK rfl rfl aB rfl ?_)
               refine zAi rfl (zAK rfl rfl aB rfl ?_)
               refine zAi rfl (zAK rfl rfl aB rfl ?_)
               refine QV (.bool false) rfl rfl (fun w' hm' => zAA rfl aB rfl) <| QV (.bool false) rfl rfl (fun w' hm' => zAe) ?_
               refine zAi rfl (zAK rfl rfl rfl rfl ?_)
               refine zAi rfl (zAK rfl rfl rfl rfl ?_)
               refine zAi rfl (zAK rfl rfl rfl rfl ?_)
               refine zAi rfl (zB6 rfl rfl rfl ?_)
               refine zAi rfl (zB6 rfl rfl rfl ?_)
               refine zAi rfl (zB6 rfl rfl rfl ?_)
               refine zAi rfl (zB6 rfl rfl rfl ?_)
               refine zAi rfl (zB6 rfl rfl rfl ?_)
               refine zAi rfl (zB6 rfl rfl rfl ?_)
               refine zAi rfl (zB6 rfl rfl rfl ?_)
               refine zAi rfl (zB6 rfl rfl rfl ?_)
               refine zAi rfl (zB6 rfl rfl rfl ?_)
               refine zAi rfl (zB6 rfl rfl rfl ?_)
               refine zAi rfl (zB6 rfl rfl rfl ?_)
               refine zAi rfl (zB6 rfl rfl rfl ?_)
               refine zAi rfl (zB6 rfl rfl rfl ?_)
               refine zAi rfl (zB6 rfl rfl rfl ?_)
               refine zAi rfl (zB6 rfl rfl rfl ?_)
               refine zAi rfl (zB6 rfl rfl rfl ?_)
               refine zAi rfl (zB6 rfl rfl rfl ?_)
               refine zAi rfl (zAK rfl rfl rfl rfl ?_)
               refine QV (.bool false) rfl rfl (fun w' hm' => zAA rfl rfl rfl) ?_
               refine QW.nil ?_
               intro fG hmod
               have hL := hL.call hmod
               refine zBu (by kernel_rfl) ?_
               exact ⟨false, hm, ⟨aG, aH, aI, aK, aJ, aF, rfl, hL⟩⟩
             intro s_j5 gC fH hJ hm
             unfold zCg at hm
             obtain ⟨bQ, bR, bS, bT, dX, bA, dY, hL⟩ := hJ
             refine zAn (t := s_j5) dY hm (fun dC hm => ?_) (fun dC hm => ?_)
             · refine zAl <| OV (IV s_l2.2) rfl (zAo bA) <| OV (IV s_l2.2) rfl (zAb) <| OW.nil ?_
               exact ⟨s_l2.2, hm, ⟨bQ, bR, bS, bT, rfl, bA, hL⟩⟩
             refine zAt ?_
             exact ⟨s_l2.1, hm, ⟨bQ, bR, bS, bT, dX, bA, hL⟩⟩
           intro s_j4 gD fI hJ hm
           unfold zCT at hm
           obtain ⟨dZ, eA, eB, eC, eD, eE, hL⟩ := hJ
           exact ⟨s_j4, hm, ⟨dZ, eA, eB, eC, eD, eE, hL⟩⟩
         intro s_j3 gE fJ hJ hm
         unfold zDL at hm
         obtain ⟨eF, eG, eH, eI, eJ, eK, hL⟩ := hJ
         refine zAl <| OV (IV s_l2.2) rfl (zAo eK) <| OV (IV (w64 (s_l2.2 + 1))) rfl (zBe rfl rfl) <| OV (IV (w64 (s_l2.2 + 1))) rfl (zAb) <| OW.nil ?_
         obtain rfl := oi hm
         exact ⟨_, rfl, ⟨eF, eG, eH, eI, eJ, rfl, hL⟩⟩
       refine zA0 ?_
       refine zBk ?_
       obtain rfl := oi hm
       exact ⟨_, rfl, ⟨aG, aH, aI, aK, aJ, aF, hL⟩⟩
     intro s_j2 gF fK hJ hm
     unfold zHE at hm
     obtain ⟨aR, eL, eM, eN, eO, hL⟩ := hJ
     exact ⟨s_j2, hm, ⟨aR, eL, eM, eN, eO, hL⟩⟩
   intro s_j1 gG fL hJ hm
   unfold zIF at hm
   obtain ⟨aQ, eP, eQ, eR, eS, hL⟩ := hJ
   refine zAl <| OV (IV s_l1.2) rfl (zAo eS) <| OV (IV (w64 (s_l1.2 - 1))) rfl (zCn rfl rfl) <| OV (IV (w64 (s_l1.2 - 1))) rfl (zAb) <| OW.nil ?_
   obtain rfl := oi hm
   exact ⟨_, rfl, ⟨aQ, eP, eQ, eR, rfl, hL⟩⟩
 refine zA0 ?_
 refine zBk ?_
 obtain rfl := oi hm
 exact ⟨_, rfl, ⟨aD, bJ, bK, bL, aP, hL⟩⟩

theorem zJA (w0 : World) (a0 : Table) {v1 : Value} {v3 : Value} (h2 : rdL (· < w0.heap.size) w0 v1 a0.Points) (h4 : rdL (· < w0.heap.size) w0 v3 a0.Codes) (a1 : List Int) {v5 : Value} (h6 : rdL (· < w0.heap.size) w0 v5 a1) (a2 : Int) {r : (List Int)} (hm : zFh a0 a1 a2 = some r) :
    Calls Tryz.prog 34 #[(.agg #[(IV a0.Boats), v1, v3]), v5, (IV a2)] w0 fun e w' => ∃ (rv0 : Value) (rS0 : Nat → Prop), e = .returned rv0 ∧ Fresh w0 w' [Ent.own 2 rS0 rv0 r] := by
 unfold zFh at hm
 refine zAD (args := [(.agg #[(IV a0.Boats), v1, v3]), v5, (IV a2)]) Tryz.func34 rfl rfl rfl ?_
 have hL := zAJ w0
 refine CSR ?_
 refine zAa (zC3 (cs := #[(IV a0.Boats), v1, v3]) hL rfl rfl rfl ?_)
 intro wd7 b8 hL
 refine OV (.slice none 0 0) rfl (zAb) <| ONR <| OV (.agg #[(IV a0.Boats), v1, v3]) rfl (zAW (cs := [(IV a0.Boats), v1, v3]) U26 zBg rfl rfl (hL.cellsB 0 rfl (o := 0) (l := [(IV a0.Boats), v1, v3]) (by intro j u hj; exact (by simpa using hj)))) <| OV v5 rfl (zAe) <| OV (IV a2) rfl (zAe) ?_
 obtain ⟨x9, bL, hm⟩ := zAs hm
 refine zAa (OP.call rfl (zAq (vs := [(.agg #[(IV a0.Boats), v1, v3]), v5, (IV a2)]) zRs ⟨rfl, rfl, rfl, trivial⟩) (zMv _ a0 (hL.rdS 1 rfl h2) (hL.rdS 1 rfl h4) a1 (hL.rdS 1 rfl h6) a2 bL) ?_)
 rintro dD cP ⟨aB, aT, rfl, bM⟩
 refine ⟨_, rfl, ?_⟩
 have hL := hL.pushAll bM
 simp only [lA, lB, lC, lD] at hL
 refine OV aB rfl (zAb) <| ONR ?_
 refine zAa (zBS ([] : List Int) hL U27 zAf rfl (by decide) (by first | (simp [Instr.fill, madeCells, Value.cells, ev, upd, Flat.enc, Flat.sz]; done) | rfl | kernel_rfl) rfl rfl ?_)
 intro cQ bK cG hL
 refine OV bK rfl (zAb) <| ONS <| CSR <| OV (IV 0) rfl (zAb) <| OW.nil ?_
 obtain ⟨cR, aX, hm⟩ := zAs hm
 refine zAU (fun (s_l1 : (List Int) × Int) F w => ∃ aA aC, F 2 = (IV a2) ∧ F 3 = (PV b8 0) ∧ F 7 = aB ∧ F 8 = aA ∧ F 9 = (IV s_l1.2) ∧ Hp w0 [Ent.own 2 aC aA s_l1.1, Ent.own 4 aT aB x9, Ent.blk b8 26 #[(IV a0.Boats), v1, v3], zAg w0 w0.heap.size] w) (fun o => zBh o (fun x => some x) (fun s => zGO s) = some r) aX hm ⟨bK, cG, rfl, rfl, rfl, rfl, rfl, hL⟩ ?_ ?_
 · intro s_l1 cS cH hJ hm
   have hm := zBD hm
   have hm : zGO s_l1 = some r := hm
   unfold zGO at hm
   obtain ⟨aA, aC, cT, cU, cV, bN, cW, hL⟩ := hJ
   refine CSR <| OV aA rfl (zAo bN) <| OV aA rfl (zAb) <| OW.nil <| zAx ?_
   obtain rfl := oi hm
   exact RR1 rfl rfl ⟨aA, aC, rfl, hL.fresh 3 rfl [0] (by decide) (by decide) rfl⟩
 intro s_l1 cX cI aU hJ hm cJ
 unfold zEX at hm
 obtain ⟨aA, aC, aF, aG, aE, aM, aD, hL⟩ := hJ
 refine zAF <| CSR <| OV (IV s_l1.2) rfl (zAo aD) <| OV aB rfl (zAo aE) <| OV (IV (x9.length : Int)) rfl (zA3 U85 rfl (hL.rdO 1 rfl)) <| OV (.bool (decide (s_l1.2 < (x9.length : Int)))) rfl (zBE rfl rfl) <| OW.nil ?_
 refine zAn (t := decide (s_l1.2 < (x9.length : Int))) rfl hm (fun aY hm => ?_) (fun aY hm => ?_)
 · refine zAt ?_
   refine zAM (fun (s_j1 : (List Int)) F w => ∃ aH aN, F 2 = (IV a2) ∧ F 3 = (PV b8 0) ∧ F 7 = aB ∧ F 8 = aH ∧ F 9 = (IV s_l1.2) ∧ Hp w0 [Ent.own 2 aN aH s_j1, Ent.own 4 aT aB x9, Ent.blk b8 26 #[(IV a0.Boats), v1, v3], zAg w0 w0.heap.size] w) (fun s_j1 => zGP s_l1 s_j1 = some aU) ?_ ?_
   · refine zBG (fun (s_j2 : (List Int)) F w => ∃ aI aO, F 2 = (IV a2) ∧ F 3 = (PV b8 0) ∧ F 7 = aB ∧ F 8 = aI ∧ F 9 = (IV s_l1.2) ∧ Hp w0 [Ent.own 2 aO aI s_j2, Ent.own 4 aT aB x9, Ent.blk b8 26 #[(IV a0.Boats), v1, v3], zAg w0 w0.heap.size] w) (fun s_j2 => zEW s_l1 s_j2 = some aU) ?_ ?_
     · refine CSR <| OV aB rfl (zAo aE) <| OV (IV s_l1.2) rfl (zAo aD) ?_
       obtain ⟨aP, aZ, hm⟩ := zAs hm
       obtain ⟨bA, aQ⟩ := zAZ aZ
       obtain ⟨bO, bP, aK⟩ := zAC (hL.rdO 1 rfl) bA aQ
       refine OV (.pointer (some ⟨bO, bP, none⟩)) rfl (zA1 U85 zL6 rfl rfl aK) <| OV (.bool aP) rfl (zAd U4 rfl rfl (zAv (hL.rdO 1 rfl) aK aQ 0 _ rfl)) <| OV (.bool (!aP)) rfl (zCb rfl) <| OW.nil ?_
       refine zAn (t := !aP) rfl hm (fun bB hm => ?_) (fun bB hm => ?_)
       · refine zAl <| OV aA rfl (zAo aM) <| OV (PV b8 1) rfl (zAc (fsz := 1) 0 1 1 U26 rfl zBq rfl aG rfl) <| OV v1 rfl (zAd U24 rfl rfl (hL.cellB 2 rfl rfl)) <| OV (IV s_l1.2) rfl (zAo aD) ?_
         obtain ⟨cY, bC, hm⟩ := zAs hm
         obtain ⟨bD, bE⟩ := zAZ bC
         obtain ⟨bQ, bR, bS, aV, bF, bG, aR⟩ := zCp h2 bD bE
         refine OV (.pointer (some ⟨bQ, bR, none⟩)) rfl (zA1 U24 zAR rfl rfl aV) <| OV bS rfl (zAd U27 rfl rfl (hL.cellS 3 rfl bF bG)) <| OV (IV a2) rfl (zAo aF) ?_
         obtain ⟨aJ, bH, hm⟩ := zAs hm
         obtain ⟨bI, aS⟩ := zAZ bH
         obtain ⟨bT, bU, aL⟩ := zAC (hL.rdS 3 rfl aR) bI aS
         refine OV (.pointer (some ⟨bT, bU, none⟩)) rfl (zA1 U27 zAf rfl rfl aL) <| OV (IV aJ) rfl (zAd U2 rfl rfl (zAv (hL.rdS 3 rfl aR) aL aS 0 _ rfl)) ?_
         refine zAa (zBS ([aJ] : List Int) hL U27 zAf rfl (by decide) (by first | (simp [Instr.fill, madeCells, Value.cells, ev, upd, Flat.enc, Flat.sz]; done) | rfl | kernel_rfl) rfl rfl ?_)
         intro cK cZ dA hL
         obtain ⟨bJ, hm⟩ := zEs hm
         refine zAa (zCA (ys := ([aJ] : List Int)) hL 1 rfl U27 zAf rfl rfl rfl (hL.rdO 0 rfl) bJ (by decide) rfl ?_)
         intro cM aW bV hL
         refine OV aW rfl (zAb) <| OW.nil ?_
         have hL := hL.sl [1, 2, 3, 4] rfl
         exact ⟨s_l1.1 ++ ([aJ] : List Int), hm, ⟨aW, bV, aF, aG, aE, rfl, aD, hL⟩⟩
       refine zAt ?_
       exact ⟨s_l1.1, hm, ⟨aA, aC, aF, aG, aE, aM, aD, hL⟩⟩
     intro s_j2 dB cN hJ hm
     unfold zEW at hm
     obtain ⟨aI, aO, bW, bX, bY, bZ, cA, hL⟩ := hJ
     exact ⟨s_j2, hm, ⟨aI, aO, bW, bX, bY, bZ, cA, hL⟩⟩
   intro s_j1 dC cO hJ hm
   unfold zGP at hm
   obtain ⟨aH, aN, cB, cC, cD, cE, cF, hL⟩ := hJ
   refine zAl <| OV (IV s_l1.2) rfl (zAo cF) <| OV (IV (w64 (s_l1.2 + 1))) rfl (zBe rfl rfl) <| OV (IV (w64 (s_l1.2 + 1))) rfl (zAb) <| OW.nil ?_
   obtain rfl := oi hm
   exact ⟨_, rfl, ⟨aH, aN, cB, cC, cD, cE, rfl, hL⟩⟩
 refine zA0 ?_
 refine zBk ?_
 obtain rfl := oi hm
 exact ⟨_, rfl, ⟨aA, aC, aF, aG, aE, aM, aD, hL⟩⟩

theorem zJG (w0 : World) (a0 : List Int) {v1 : Value} (h2 : rdL (· < w0.heap.size) w0 v1 a0) {r : (List Int)} (hm : zFT a0 = some r) :
    Calls Tryz.prog 100 #[v1] w0 fun e w' => ∃ (rv0 : Value) (rS0 : Nat → Prop), e = .returned rv0 ∧ Fresh w0 w' [Ent.own 2 rS0 rv0 r] := by
 unfold zFT at hm
 refine zAD (args := [v1]) Tryz.func100 rfl rfl rfl ?_
 have hL := zAJ w0
 refine CSR <| OV (.slice none 0 0) rfl (zAb) <| ONR ?_
 refine zAa (zBS ([] : List Int) hL U27 zAf rfl (by decide) (by first | (simp [Instr.fill, madeCells, Value.cells, ev, upd, Flat.enc, Flat.sz]; done) | rfl | kernel_rfl) rfl rfl ?_)
 intro wd3 v4 S5 hL
 refine OV v1 rfl (zAe) ?_
 obtain ⟨hc9, hm⟩ := zEs hm
 refine zAa (zCA (ys := a0) hL 0 rfl U27 zAf rfl rfl rfl (hL.rdS 1 rfl h2) hc9 (by decide) rfl ?_)
 intro wd6 v7 S8 hL
 refine OV v7 rfl (zAb) <| ONS <| CSR <| OV (IV 1) rfl (zAb) <| OW.nil ?_
 obtain ⟨cV, bC, hm⟩ := zAs hm
 refine zAU (fun (s_l1 : (List Int) × Int) F w => ∃ aC, F 3 = v7 ∧ F 4 = (IV s_l1.2) ∧ Hp w0 [Ent.own 2 aC v7 s_l1.1, zAg w0 w0.heap.size] w) (fun o => zBh o (fun x => some x) (fun s => zHp s) = some r) bC hm ⟨S8, rfl, rfl, hL⟩ ?_ ?_
 · intro s_l1 cW cJ hJ hm
   have hm := zBD hm
   have hm : zHp s_l1 = some r := hm
   unfold zHp at hm
   obtain ⟨aC, bS, cX, hL⟩ := hJ
   refine CSR <| OV v7 rfl (zAo bS) <| OV v7 rfl (zAb) <| OW.nil <| zAx ?_
   obtain rfl := oi hm
   exact RR1 rfl rfl ⟨v7, aC, rfl, hL.fresh 1 rfl [0] (by decide) (by decide) rfl⟩
 intro s_l1 cY cK aY hJ hm cM
 unfold zDe at hm
 obtain ⟨aC, aR, aG, hL⟩ := hJ
 refine zAF <| CSR <| OV (IV s_l1.2) rfl (zAo aG) <| OV v7 rfl (zAo aR) <| OV (IV (s_l1.1.length : Int)) rfl (zA3 U27 rfl (hL.rdO 0 rfl)) <| OV (.bool (decide (s_l1.2 < (s_l1.1.length : Int)))) rfl (zBE rfl rfl) <| OW.nil ?_
 refine zAn (t := decide (s_l1.2 < (s_l1.1.length : Int))) rfl hm (fun bD hm => ?_) (fun bD hm => ?_)
 · refine zAt <| zAF <| CW.block <| CSR <| OV (IV s_l1.2) rfl (zAo aG) <| OV (IV s_l1.2) rfl (zAb) <| OW.nil ?_
   obtain ⟨cZ, bE, hm⟩ := zAs hm
   refine zAU (fun (s_l2 : (List Int) × Int) F w => ∃ aB, F 3 = v7 ∧ F 4 = (IV s_l1.2) ∧ F 5 = (IV s_l2.2) ∧ Hp w0 [Ent.own 2 aB v7 s_l2.1, zAg w0 w0.heap.size] w) (fun o => zBh o (fun x => some (.ret x)) (fun s => zEq s_l1 s) = some aY) bE hm ⟨aC, aR, aG, rfl, hL⟩ ?_ ?_
   · intro s_l2 dA cN hJ hm
     have hm := zBD hm
     have hm : zEq s_l1 s_l2 = some aY := hm
     unfold zEq at hm
     obtain ⟨aB, bT, bU, dB, hL⟩ := hJ
     refine zAl <| OV (IV s_l1.2) rfl (zAo bU) <| OV (IV (w64 (s_l1.2 + 1))) rfl (zBe rfl rfl) <| OV (IV (w64 (s_l1.2 + 1))) rfl (zAb) <| OW.nil ?_
     obtain rfl := oi hm
     exact ⟨_, rfl, ⟨aB, bT, rfl, hL⟩⟩
   intro s_l2 dC cO bV hJ hm cP
   unfold zEr at hm
   obtain ⟨aB, aH, aZ, aF, hL⟩ := hJ
   refine zAF ?_
   refine zAM (fun (s_j1 : Bool) F w => F 3 = v7 ∧ F 4 = (IV s_l1.2) ∧ F 5 = (IV s_l2.2) ∧ F 30 = (.bool s_j1) ∧ Hp w0 [Ent.own 2 aB v7 s_l2.1, zAg w0 w0.heap.size] w) (fun s_j1 => zFv s_l2 s_j1 = some bV) ?_ ?_
   · refine zBW zAQ ?_
     have hL := hL.call (zA8 _)
     refine DW.pre (fuel := 0) (fin := bma 14 16383) (C := fun w' => Mod zBO _ w') [0, 1, 2, 3, 4, 5, 6, 7, 8, 9, 10, 11, 12, 13] (Mod.refl _ _) (by kernel_rfl) (by kernel_rfl) ?_
     refine QV (IV s_l2.2) rfl rfl (fun w' hm' => zAo aF) <| QV (.bool (decide (0 < s_l2.2))) rfl rfl (fun w' hm' => zIq rfl rfl) <| QV (.bool (decide (0 < s_l2.2))) rfl rfl (fun w' hm' => zAe) ?_
     refine zAH hm (fun aA hm => ?_) (fun aA hm => ?_)
     · refine zAi rfl (zAB rfl rfl aA (zAN (v := v7) rfl (fun w' hm' => zAo aH) ?_))
       refine zAi rfl (zAB rfl rfl aA (zAN (v := (IV s_l2.2)) rfl (fun w' hm' => zAo aF) ?_))
       refine zAi rfl (zAB rfl rfl aA (zAN (v := (IV (w64 (s_l2.2 - 1)))) rfl (fun w' hm' => zCn rfl rfl) ?_))
       obtain ⟨aI, bF, hm⟩ := zAs hm
       obtain ⟨bG, aS⟩ := zAZ bF
       obtain ⟨bW, bX, aL⟩ := zAC (hL.rdO 0 rfl) bG aS
       refine zAi rfl (zAB rfl rfl aA (zAN (v := (.pointer (some ⟨bW, bX, none⟩))) rfl (fun w' hm' => zA1 U27 zAf rfl rfl aL) ?_))
       refine zAi rfl (zAB rfl rfl aA (zAN (v := (IV aI)) rfl (fun w' hm' => zAd U2 rfl rfl (zAv ((hL.call hm').rdO 0 rfl) aL aS 0 _ rfl)) ?_))
       refine zAi rfl (zAB rfl rfl aA (zAN (v := v7) rfl (fun w' hm' => zAo aH) ?_))
       refine zAi rfl (zAB rfl rfl aA (zAN (v := (IV s_l2.2)) rfl (fun w' hm' => zAo aF) ?_))
       obtain ⟨aJ, bH, hm⟩ := zAs hm
       obtain ⟨bI, aT⟩ := zAZ bH
       obtain ⟨bY, bZ, aM⟩ := zAC (hL.rdO 0 rfl) bI aT
       refine zAi rfl (zAB rfl rfl aA (zAN (v := (.pointer (some ⟨bY, bZ, none⟩))) rfl (fun w' hm' => zA1 U27 zAf rfl rfl aM) ?_))
       refine zAi rfl (zAB rfl rfl aA (zAN (v := (IV aJ)) rfl (fun w' hm' => zAd U2 rfl rfl (zAv ((hL.call hm').rdO 0 rfl) aM aT 0 _ rfl)) ?_))
       refine zAi rfl (zAB rfl rfl aA (zAN (v := (.bool (decide (aJ < aI)))) rfl (fun w' hm' => zIq rfl rfl) ?_))
       refine QV (.bool (decide (aJ < aI))) rfl rfl (fun w' hm' => zAz rfl aA rfl) ?_
       refine QW.nil ?_
       intro cQ hmod
       have hL := hL.call hmod
       refine zBu (by kernel_rfl) ?_
       exact ⟨decide (aJ < aI), hm, ⟨aH, aZ, aF, rfl, hL⟩⟩
     refine zAi rfl (zAK rfl rfl aA rfl ?_)
     refine zAi rfl (zAK rfl rfl aA rfl ?_)
     refine zAi rfl (zAK rfl rfl aA rfl ?_)
     refine zAi rfl (zAK rfl rfl aA rfl ?_)
     refine zAi rfl (zAK rfl rfl aA rfl ?_)
     refine zAi rfl (zAK rfl rfl aA rfl ?_)
     refine zAi rfl (zAK rfl rfl aA rfl ?_)
     refine zAi rfl (zAK rfl rfl aA rfl ?_)
     refine zAi rfl (zAK rfl rfl aA rfl ?_)
     refine zAi rfl (zAK rfl rfl aA rfl ?_)
     refine QV (.bool false) rfl rfl (fun w' hm' => zAA rfl aA rfl) ?_
     refine QW.nil ?_
     intro cR hmod
     have hL := hL.call hmod
     refine zBu (by kernel_rfl) ?_
     exact ⟨false, hm, ⟨aH, aZ, aF, rfl, hL⟩⟩
   intro s_j1 dD cS hJ hm
   unfold zFv at hm
   obtain ⟨aD, bA, aE, cA, hL⟩ := hJ
   refine zAn (t := s_j1) cA hm (fun bJ hm => ?_) (fun bJ hm => ?_)
   · refine zAt <| zAF <| CW.block <| CSR <| OV v7 rfl (zAo aD) <| OV (IV s_l2.2) rfl (zAo aE) ?_
     obtain ⟨aK, bK, hm⟩ := zAs hm
     obtain ⟨bL, aU⟩ := zAZ bK
     obtain ⟨cB, cC, aN⟩ := zAC (hL.rdO 0 rfl) bL aU
     refine OV (.pointer (some ⟨cB, cC, none⟩)) rfl (zA1 U27 zAf rfl rfl aN) <| OV (IV aK) rfl (zAd U2 rfl rfl (zAv (hL.rdO 0 rfl) aN aU 0 _ rfl)) <| OV (IV aK) rfl (zAb) <| ONR <| OV v7 rfl (zAo aD) <| OV (IV s_l2.2) rfl (zAo aE) <| OV v7 rfl (zAo aD) <| OV (IV s_l2.2) rfl (zAo aE) <| OV (IV (w64 (s_l2.2 - 1))) rfl (zCn rfl rfl) ?_
     obtain ⟨bB, bM, hm⟩ := zAs hm
     obtain ⟨bN, aV⟩ := zAZ bM
     obtain ⟨cD, cE, aO⟩ := zAC (hL.rdO 0 rfl) bN aV
     refine OV (.pointer (some ⟨cD, cE, none⟩)) rfl (zA1 U27 zAf rfl rfl aO) <| OV (IV bB) rfl (zAd U2 rfl rfl (zAv (hL.rdO 0 rfl) aO aV 0 _ rfl)) ?_
     obtain ⟨dE, bO, hm⟩ := zAs hm
     obtain ⟨bP, aW⟩ := zAZ bO
     obtain ⟨cF, cG, aP⟩ := zAC (hL.rdO 0 rfl) bP aW
     refine OV (.pointer (some ⟨cF, cG, none⟩)) rfl (zA1 U27 zAf rfl rfl aP) ?_
     refine zAa (zBV (j := 0) bB hL 0 rfl zAf aP aW rfl rfl rfl rfl rfl rfl ?_)
     intro cT hL
     refine OW.nil <| zAl <| OV v7 rfl (zAo aD) <| OV (IV s_l2.2) rfl (zAo aE) <| OV (IV (w64 (s_l2.2 - 1))) rfl (zCn rfl rfl) <| OV (IV aK) rfl (zAe) ?_
     obtain ⟨dF, bQ, hm⟩ := zAs hm
     obtain ⟨bR, aX⟩ := zAZ bQ
     obtain ⟨cH, cI, aQ⟩ := zAC (hL.rdO 0 rfl) bR aX
     refine OV (.pointer (some ⟨cH, cI, none⟩)) rfl (zA1 U27 zAf rfl rfl aQ) ?_
     refine zAa (zBV (j := 0) aK hL 0 rfl zAf aQ aX rfl rfl rfl rfl rfl rfl ?_)
     intro cU hL
     refine OW.nil <| zAl <| OV (IV s_l2.2) rfl (zAo aE) <| OV (IV (w64 (s_l2.2 - 1))) rfl (zCn rfl rfl) <| OV (IV (w64 (s_l2.2 - 1))) rfl (zAb) <| OW.nil ?_
     obtain rfl := oi hm
     exact ⟨_, rfl, ⟨aB, aD, bA, rfl, hL⟩⟩
   refine zA0 ?_
   refine zBk ?_
   obtain rfl := oi hm
   exact ⟨_, rfl, ⟨aB, aD, bA, aE, hL⟩⟩
 refine zA0 ?_
 refine zBk ?_
 obtain rfl := oi hm
 exact ⟨_, rfl, ⟨aC, aR, aG, hL⟩⟩

theorem zID (w0 : World) (a0 : List Int) {v1 : Value} (h2 : rdL (· < w0.heap.size) w0 v1 a0) {r : Int} (hm : zBN a0 = some r) :
    Calls Tryz.prog 33 #[v1] w0 fun e w' => e = .returned (IV r) ∧ Fresh w0 w' [] := by
 unfold zBN at hm
 refine zAD (args := [v1]) Tryz.func33 rfl rfl rfl ?_
 have hL := zAJ w0
 refine CSR <| OV (IV 0) rfl (zAb) <| ONR <| OV (IV 0) rfl (zAb) <| ONS <| CSR <| OV (IV 0) rfl (zAb) <| OW.nil ?_
 obtain ⟨aQ, aG, hm⟩ := zAs hm
 refine zAU (fun (s_l1 : Int × Int) F w => F 0 = v1 ∧ F 3 = (IV s_l1.1) ∧ F 4 = (IV s_l1.2) ∧ Hp w0 [zAg w0 w0.heap.size] w) (fun o => zBh o (fun x => some x) (fun s => zIG s) = some r) aG hm ⟨rfl, rfl, rfl, hL⟩ ?_ ?_
 · intro s_l1 aR aN hJ hm
   have hm := zBD hm
   have hm : zIG s_l1 = some r := hm
   unfold zIG at hm
   obtain ⟨aS, aK, aT, hL⟩ := hJ
   refine CSR <| OV (IV s_l1.1) rfl (zAo aK) <| OV (IV s_l1.1) rfl (zAb) <| OW.nil <| zAx ?_
   obtain rfl := oi hm
   exact RR1 rfl rfl ⟨rfl, hL.fresh 0 rfl [] (by decide) (by decide) rfl⟩
 intro s_l1 aU aO aV hJ hm aP
 unfold zDM at hm
 obtain ⟨aA, aF, aB, hL⟩ := hJ
 refine zAF <| CSR <| OV (IV s_l1.2) rfl (zAo aB) <| OV v1 rfl (zAo aA) <| OV (IV (a0.length : Int)) rfl (zA3 U27 rfl (hL.rdS 0 rfl h2)) <| OV (.bool (decide (s_l1.2 < (a0.length : Int)))) rfl (zBE rfl rfl) <| OW.nil ?_
 refine zAn (t := decide (s_l1.2 < (a0.length : Int))) rfl hm (fun aH hm => ?_) (fun aH hm => ?_)
 · refine zAt <| zAF <| CW.block <| zAl <| OV (IV s_l1.1) rfl (zAo aF) <| OV v1 rfl (zAo aA) <| OV (IV s_l1.2) rfl (zAo aB) ?_
   obtain ⟨aD, aI, hm⟩ := zAs hm
   obtain ⟨aJ, aE⟩ := zAZ aI
   obtain ⟨aL, aM, aC⟩ := zAC (hL.rdS 0 rfl h2) aJ aE
   refine OV (.pointer (some ⟨aL, aM, none⟩)) rfl (zA1 U27 zAf rfl rfl aC) <| OV (IV aD) rfl (zAd U2 rfl rfl (zAv (hL.rdS 0 rfl h2) aC aE 0 _ rfl)) <| OV (IV (w64 (s_l1.1 + aD))) rfl (zBe rfl rfl) <| OV (IV (w64 (s_l1.1 + aD))) rfl (zAb) <| OW.nil <| zAl <| OV (IV s_l1.2) rfl (zAo aB) <| OV (IV (w64 (s_l1.2 + 1))) rfl (zBe rfl rfl) <| OV (IV (w64 (s_l1.2 + 1))) rfl (zAb) <| OW.nil ?_
   obtain rfl := oi hm
   exact ⟨_, rfl, ⟨aA, rfl, rfl, hL⟩⟩
 refine zA0 ?_
 refine zBk ?_
 obtain rfl := oi hm
 exact ⟨_, rfl, ⟨aA, aF, aB, hL⟩⟩

theorem zI9 (w0 : World) (a0 : Int) (a1 : Int) {r : Int} (hm : zEY a0 a1 = some r) :
    Calls Tryz.prog 101 #[(IV a0), (IV a1)] w0 fun e w' => e = .returned (IV r) ∧ Fresh w0 w' [] := by
 unfold zEY at hm
 refine zAD (args := [(IV a0), (IV a1)]) Tryz.func101 rfl rfl rfl ?_
 have hL := zAJ w0
 refine CSR <| OV (IV 0) rfl (zAb) <| ONS <| CSR <| OV (IV a0) rfl (zAe) <| OV (IV a1) rfl (zAe) <| OV (.bool (decide (a0 < a1))) rfl (zBE rfl rfl) <| OW.nil ?_
 refine zAn (t := decide (a0 < a1)) rfl hm (fun hb1 hm => ?_) (fun hb1 hm => ?_)
 · refine CSR <| OV (IV (-1)) rfl (zAb) <| OW.nil <| zAx ?_
   obtain rfl := oi hm
   exact RR1 rfl rfl ⟨rfl, hL.fresh 0 rfl [] (by decide) (by decide) rfl⟩
 refine zAt <| zAF <| CSR <| OV (IV a0) rfl (zAe) <| OV (IV a1) rfl (zAe) <| OV (.bool (decide (a1 < a0))) rfl (zIq rfl rfl) <| OW.nil ?_
 refine zAn (t := decide (a1 < a0)) rfl hm (fun hb2 hm => ?_) (fun hb2 hm => ?_)
 · refine CSR <| OV (IV 1) rfl (zAb) <| OW.nil <| zAx ?_
   obtain rfl := oi hm
   exact RR1 rfl rfl ⟨rfl, hL.fresh 0 rfl [] (by decide) (by decide) rfl⟩
 refine zAt <| CSR <| OV (IV 0) rfl (zAb) <| OW.nil <| zAx ?_
 obtain rfl := oi hm
 exact RR1 rfl rfl ⟨rfl, hL.fresh 0 rfl [] (by decide) (by decide) rfl⟩

theorem zK4 (w0 : World) (a0 : Table) {v1 : Value} {v3 : Value} (h2 : rdL (· < w0.heap.size) w0 v1 a0.Points) (h4 : rdL (· < w0.heap.size) w0 v3 a0.Codes) (a1 : List Int) {v5 : Value} (h6 : rdL (· < w0.heap.size) w0 v5 a1) (a2 : Int) (a3 : Int) {r : Int × Int × Int} (hm : zGQ a0 a1 a2 a3 = some r) :
    Calls Tryz.prog 67 #[(.agg #[(IV a0.Boats), v1, v3]), v5, (IV a2), (IV a3)] w0 fun e w' => e = .returned (.tuple #[(IV r.1), (IV r.2.1), (IV r.2.2)]) ∧ Fresh w0 w' [] := by
 unfold zGQ at hm
 refine zAD (args := [(.agg #[(IV a0.Boats), v1, v3]), v5, (IV a2), (IV a3)]) Tryz.func67 rfl rfl rfl ?_
 have hL := zAJ w0
 refine CSR ?_
 refine zAa (zC3 (cs := #[(IV a0.Boats), v1, v3]) hL rfl rfl rfl ?_)
 intro wd7 b8 hL
 refine OV (IV 0) rfl (zAb) <| OV (IV 0) rfl (zAb) <| OV (IV 0) rfl (zAb) <| ONR <| OV (.agg #[(IV a0.Boats), v1, v3]) rfl (zAW (cs := [(IV a0.Boats), v1, v3]) U26 zBg rfl rfl (hL.cellsB 0 rfl (o := 0) (l := [(IV a0.Boats), v1, v3]) (by intro j u hj; exact (by simpa using hj)))) <| OV v5 rfl (zAe) <| OV (IV a2) rfl (zAe) ?_
 obtain ⟨x9, eF, hm⟩ := zAs hm
 refine zAa (OP.call rfl (zAq (vs := [(.agg #[(IV a0.Boats), v1, v3]), v5, (IV a2)]) zOw ⟨rfl, rfl, rfl, trivial⟩) (zJA _ a0 (hL.rdS 1 rfl h2) (hL.rdS 1 rfl h4) a1 (hL.rdS 1 rfl h6) a2 eF) ?_)
 rintro hV gR ⟨gE, hW, rfl, eG⟩
 refine ⟨_, rfl, ?_⟩
 have hL := hL.pushAll eG
 simp only [lA, lB, lC, lD] at hL
 obtain ⟨aH, eH, hm⟩ := zAs hm
 refine zAa (OP.call rfl (zAq (vs := [gE]) zNz ⟨rfl, trivial⟩) (zJG _ x9 (hL.rdO 0 rfl) eH) ?_)
 rintro hX gS ⟨aB, dZ, rfl, eI⟩
 refine ⟨_, rfl, ?_⟩
 have hL := hL.pushAll eI
 simp only [lA, lB, lC, lD] at hL
 refine OV aB rfl (zAb) <| ONR <| OV (.agg #[(IV a0.Boats), v1, v3]) rfl (zAW (cs := [(IV a0.Boats), v1, v3]) U26 zBg rfl rfl (hL.cellsB 2 rfl (o := 0) (l := [(IV a0.Boats), v1, v3]) (by intro j u hj; exact (by simpa using hj)))) <| OV v5 rfl (zAe) <| OV (IV a3) rfl (zAe) ?_
 obtain ⟨gF, eJ, hm⟩ := zAs hm
 refine zAa (OP.call rfl (zAq (vs := [(.agg #[(IV a0.Boats), v1, v3]), v5, (IV a3)]) zOw ⟨rfl, rfl, rfl, trivial⟩) (zJA _ a0 (hL.rdS 3 rfl h2) (hL.rdS 3 rfl h4) a1 (hL.rdS 3 rfl h6) a3 eJ) ?_)
 rintro hY gT ⟨gG, hZ, rfl, eK⟩
 refine ⟨_, rfl, ?_⟩
 have hL := hL.pushAll eK
 simp only [lA, lB, lC, lD] at hL
 obtain ⟨aE, eL, hm⟩ := zAs hm
 refine zAa (OP.call rfl (zAq (vs := [gG]) zNz ⟨rfl, trivial⟩) (zJG _ gF (hL.rdO 0 rfl) eL) ?_)
 rintro iA gU ⟨aC, eA, rfl, eM⟩
 refine ⟨_, rfl, ?_⟩
 have hL := hL.pushAll eM
 simp only [lA, lB, lC, lD] at hL
 refine OV aC rfl (zAb) <| ONS <| CSR <| OV aB rfl (zAe) ?_
 obtain ⟨eB, eN, hm⟩ := zAs hm
 refine zAa (OP.call rfl (zAq (vs := [aB]) zMa ⟨rfl, trivial⟩) (zID _ aH (hL.rdO 2 rfl) eN) ?_)
 rintro iB gV ⟨rfl, eO⟩
 refine ⟨_, rfl, ?_⟩
 have hL := hL.pushAll eO
 simp only [lA, lB, lC, lD] at hL
 refine OV aC rfl (zAe) ?_
 obtain ⟨eC, eP, hm⟩ := zAs hm
 refine zAa (OP.call rfl (zAq (vs := [aC]) zMa ⟨rfl, trivial⟩) (zID _ aE (hL.rdO 0 rfl) eP) ?_)
 rintro iC gW ⟨rfl, eQ⟩
 refine ⟨_, rfl, ?_⟩
 have hL := hL.pushAll eQ
 simp only [lA, lB, lC, lD] at hL
 refine OV (.bool (eB != eC)) rfl (zDk rfl rfl) <| OW.nil ?_
 refine zAn (t := eB != eC) rfl hm (fun eR hm => ?_) (fun eR hm => ?_)
 · refine CSR <| OV aB rfl (zAe) ?_
   obtain ⟨eD, eS, hm⟩ := zAs hm
   refine zAa (OP.call rfl (zAq (vs := [aB]) zMa ⟨rfl, trivial⟩) (zID _ aH (hL.rdO 2 rfl) eS) ?_)
   rintro iD gX ⟨rfl, eT⟩
   refine ⟨_, rfl, ?_⟩
   have hL := hL.pushAll eT
   simp only [lA, lB, lC, lD] at hL
   refine OV aC rfl (zAe) ?_
   obtain ⟨eE, eU, hm⟩ := zAs hm
   refine zAa (OP.call rfl (zAq (vs := [aC]) zMa ⟨rfl, trivial⟩) (zID _ aE (hL.rdO 0 rfl) eU) ?_)
   rintro iE gY ⟨rfl, eV⟩
   refine ⟨_, rfl, ?_⟩
   have hL := hL.pushAll eV
   simp only [lA, lB, lC, lD] at hL
   obtain ⟨gH, eW, hm⟩ := zAs hm
   refine zAa (OP.call rfl (zAq (vs := [(IV eD), (IV eE)]) zMt ⟨rfl, rfl, trivial⟩) (zI9 _ eD eE eW) ?_)
   rintro iF gZ ⟨rfl, eX⟩
   refine ⟨_, rfl, ?_⟩
   have hL := hL.pushAll eX
   simp only [lA, lB, lC, lD] at hL
   refine OV (IV gH) rfl (zAb) <| OV (IV 1) rfl (zAb) <| OV (IV 0) rfl (zAb) <| OW.nil <| zAx ?_
   obtain rfl := oi hm
   exact RR3 rfl rfl rfl rfl ⟨rfl, hL.fresh 5 rfl [] (by decide) (by decide) rfl⟩
 refine zAt <| zAF <| CSR <| OV (IV 0) rfl (zAb) <| OW.nil ?_
 obtain ⟨hA, cE, hm⟩ := zAs hm
 have hL := hL.sl [0, 2, 4, 5] rfl
 refine zAU (fun (s_l1 : Int) F w => F 2 = (IV a2) ∧ F 3 = (IV a3) ∧ F 4 = (PV b8 0) ∧ F 11 = aB ∧ F 12 = aC ∧ F 13 = (IV s_l1) ∧ Hp w0 [Ent.own 2 eA aC aE, Ent.own 2 dZ aB aH, Ent.blk b8 26 #[(IV a0.Boats), v1, v3], zAg w0 w0.heap.size] w) (fun o => zBh o (fun x => some x) (fun s => zDN a0 a2 a3 s) = some r) cE hm ⟨rfl, rfl, rfl, rfl, rfl, rfl, hL⟩ ?_ ?_
 · intro s_l1 hB gI hJ hm
   have hm := zBD hm
   have hm : zDN a0 a2 a3 s_l1 = some r := hm
   unfold zDN at hm
   obtain ⟨eY, eZ, bR, hC, hD, hE, hL⟩ := hJ
   refine zAF <| CSR <| OV (PV b8 1) rfl (zAc (fsz := 1) 0 1 1 U26 rfl zBq rfl bR rfl) <| OV v1 rfl (zAd U24 rfl rfl (hL.cellB 2 rfl rfl)) <| OV (IV (a0.Points.length : Int)) rfl (zA3 U24 rfl (hL.rdS 3 rfl h2)) <| OV (IV (w64 ((a0.Points.length : Int) - 1))) rfl (zCn rfl rfl) <| OV (IV (w64 ((a0.Points.length : Int) - 1))) rfl (zAb) <| OW.nil ?_
   obtain ⟨hF, cF, hm⟩ := zAs hm
   have hL := hL.sl [2, 3] rfl
   refine zAU (fun (s_l2 : Int) F w => F 2 = (IV a2) ∧ F 3 = (IV a3) ∧ F 4 = (PV b8 0) ∧ F 14 = (IV s_l2) ∧ Hp w0 [Ent.blk b8 26 #[(IV a0.Boats), v1, v3], zAg w0 w0.heap.size] w) (fun o => zBh o (fun x => some x) (fun s => zEZ s) = some r) cF hm ⟨eY, eZ, bR, rfl, hL⟩ ?_ ?_
   · intro s_l2 hG gJ hJ hm
     have hm := zBD hm
     have hm : zEZ s_l2 = some r := hm
     unfold zEZ at hm
     obtain ⟨hH, hI, hK, hM, hL⟩ := hJ
     refine CSR <| OV (IV 0) rfl (zAb) <| OV (IV 0) rfl (zAb) <| OV (IV 0) rfl (zAb) <| OW.nil <| zAx ?_
     obtain rfl := oi hm
     exact RR3 rfl rfl rfl rfl ⟨rfl, hL.fresh 1 rfl [] (by decide) (by decide) rfl⟩
   intro s_l2 hN gK hO hJ hm cG
   unfold zE0 at hm
   obtain ⟨aI, aJ, aF, aD, hL⟩ := hJ
   refine zAF <| CSR <| OV (IV s_l2) rfl (zAo aD) <| OV (.bool (decide (0 ≤ s_l2))) rfl (zKf rfl rfl) <| OW.nil ?_
   refine zAn (t := decide (0 ≤ s_l2)) rfl hm (fun cH hm => ?_) (fun cH hm => ?_)
   · refine zAt <| zAF <| CW.block <| zAF ?_
     refine zBW zAQ ?_
     have hL := hL.call (zA8 _)
     refine DW.pre (fuel := 0) (fin := bma 17 131071) (C := fun w' => Mod zBO _ w') [0, 1, 2, 3, 4, 5, 6, 7, 8, 9, 10, 11, 12, 13, 14, 15, 16] (Mod.refl _ _) (by kernel_rfl) (by kernel_rfl) ?_
     refine QV (PV b8 1) rfl rfl (fun w' hm' => zAc (fsz := 1) 0 1 1 U26 rfl zBq rfl aF rfl) <| QV v1 rfl rfl (fun w' hm' => zAd U24 rfl rfl ((hL.call hm').cellB 0 rfl rfl)) <| QV (IV s_l2) rfl rfl (fun w' hm' => zAo aD) ?_
     obtain ⟨hP, cI, hm⟩ := zAs hm
     obtain ⟨cJ, cK⟩ := zAZ cI
     obtain ⟨fA, fB, fC, bS, cM, cN, bF⟩ := zCp h2 cJ cK
     refine QV (.pointer (some ⟨fA, fB, none⟩)) rfl rfl (fun w' hm' => zA1 U24 zAR rfl rfl bS) <| QV fC rfl rfl (fun w' hm' => zAd U27 rfl rfl ((hL.call hm').cellS 1 rfl cM cN)) <| QV (IV a2) rfl rfl (fun w' hm' => zAo aI) ?_
     obtain ⟨aV, cO, hm⟩ := zAs hm
     obtain ⟨cP, bG⟩ := zAZ cO
     obtain ⟨fD, fE, aN⟩ := zAC (hL.rdS 1 rfl bF) cP bG
     refine QV (.pointer (some ⟨fD, fE, none⟩)) rfl rfl (fun w' hm' => zA1 U27 zAf rfl rfl aN) <| QV (IV aV) rfl rfl (fun w' hm' => zAd U2 rfl rfl (zAv ((hL.call hm').rdS 1 rfl bF) aN bG 0 _ rfl)) <| QV (PV b8 1) rfl rfl (fun w' hm' => zAc (fsz := 1) 0 1 1 U26 rfl zBq rfl aF rfl) <| QV v1 rfl rfl (fun w' hm' => zAd U24 rfl rfl ((hL.call hm').cellB 0 rfl rfl)) <| QV (IV s_l2) rfl rfl (fun w' hm' => zAo aD) ?_
     obtain ⟨hQ, cQ, hm⟩ := zAs hm
     obtain ⟨cR, cS⟩ := zAZ cQ
     obtain ⟨fF, fG, fH, bT, cT, cU, bH⟩ := zCp h2 cR cS
     refine QV (.pointer (some ⟨fF, fG, none⟩)) rfl rfl (fun w' hm' => zA1 U24 zAR rfl rfl bT) <| QV fH rfl rfl (fun w' hm' => zAd U27 rfl rfl ((hL.call hm').cellS 1 rfl cT cU)) <| QV (IV a3) rfl rfl (fun w' hm' => zAo aJ) ?_
     obtain ⟨aW, cV, hm⟩ := zAs hm
     obtain ⟨cW, bI⟩ := zAZ cV
     obtain ⟨fI, fJ, aO⟩ := zAC (hL.rdS 1 rfl bH) cW bI
     refine QV (.pointer (some ⟨fI, fJ, none⟩)) rfl rfl (fun w' hm' => zA1 U27 zAf rfl rfl aO) <| QV (IV aW) rfl rfl (fun w' hm' => zAd U2 rfl rfl (zAv ((hL.call hm').rdS 1 rfl bH) aO bI 0 _ rfl)) <| QV (.bool (aV != aW)) rfl rfl (fun w' hm' => zDk rfl rfl) ?_
     refine QW.nil ?_
     intro gL hmod
     have hL := hL.call hmod
     refine zBu (by kernel_rfl) ?_
     refine zAn (t := aV != aW) rfl hm (fun cX hm => ?_) (fun cX hm => ?_)
     · refine zAF ?_
       refine zBW zAQ ?_
       have hL := hL.call (zA8 _)
       refine DW.pre (fuel := 0) (fin := bma 21 2097151) (C := fun w' => Mod zBO _ w') [0, 1, 2, 3, 4, 5, 6, 7, 8, 9, 10, 11, 12, 13, 14, 15, 16, 17, 18, 19, 20] (Mod.refl _ _) (by kernel_rfl) (by kernel_rfl) ?_
       refine QV (PV b8 1) rfl rfl (fun w' hm' => zAc (fsz := 1) 0 1 1 U26 rfl zBq rfl aF rfl) <| QV v1 rfl rfl (fun w' hm' => zAd U24 rfl rfl ((hL.call hm').cellB 0 rfl rfl)) <| QV (IV s_l2) rfl rfl (fun w' hm' => zAo aD) ?_
       obtain ⟨hR, cY, hm⟩ := zAs hm
       obtain ⟨cZ, dA⟩ := zAZ cY
       obtain ⟨fK, fL, fM, bU, dB, dC, bJ⟩ := zCp h2 cZ dA
       refine QV (.pointer (some ⟨fK, fL, none⟩)) rfl rfl (fun w' hm' => zA1 U24 zAR rfl rfl bU) <| QV fM rfl rfl (fun w' hm' => zAd U27 rfl rfl ((hL.call hm').cellS 1 rfl dB dC)) <| QV (IV a2) rfl rfl (fun w' hm' => zAo aI) ?_
       obtain ⟨aX, dD, hm⟩ := zAs hm
       obtain ⟨dE, bK⟩ := zAZ dD
       obtain ⟨fN, fO, aP⟩ := zAC (hL.rdS 1 rfl bJ) dE bK
       refine QV (.pointer (some ⟨fN, fO, none⟩)) rfl rfl (fun w' hm' => zA1 U27 zAf rfl rfl aP) <| QV (IV aX) rfl rfl (fun w' hm' => zAd U2 rfl rfl (zAv ((hL.call hm').rdS 1 rfl bJ) aP bK 0 _ rfl)) <| QV (PV b8 1) rfl rfl (fun w' hm' => zAc (fsz := 1) 0 1 1 U26 rfl zBq rfl aF rfl) <| QV v1 rfl rfl (fun w' hm' => zAd U24 rfl rfl ((hL.call hm').cellB 0 rfl rfl)) <| QV (IV s_l2) rfl rfl (fun w' hm' => zAo aD) ?_
       obtain ⟨hS, dF, hm⟩ := zAs hm
       obtain ⟨dG, dH⟩ := zAZ dF
       obtain ⟨fP, fQ, fR, bV, dI, dJ, bL⟩ := zCp h2 dG dH
       refine QV (.pointer (some ⟨fP, fQ, none⟩)) rfl rfl (fun w' hm' => zA1 U24 zAR rfl rfl bV) <| QV fR rfl rfl (fun w' hm' => zAd U27 rfl rfl ((hL.call hm').cellS 1 rfl dI dJ)) <| QV (IV a3) rfl rfl (fun w' hm' => zAo aJ) ?_
       obtain ⟨aY, dK, hm⟩ := zAs hm
       obtain ⟨dL, bM⟩ := zAZ dK
       obtain ⟨fS, fT, aQ⟩ := zAC (hL.rdS 1 rfl bL) dL bM
       refine QV (.pointer (some ⟨fS, fT, none⟩)) rfl rfl (fun w' hm' => zA1 U27 zAf rfl rfl aQ) <| QV (IV aY) rfl rfl (fun w' hm' => zAd U2 rfl rfl (zAv ((hL.call hm').rdS 1 rfl bL) aQ bM 0 _ rfl)) ?_
       obtain ⟨bW, dM, hm⟩ := zAs hm
       refine zAi rfl (QP.call (v := (IV bW)) rfl (fun w' hm' => zAq (vs := [(IV aX), (IV aY)]) zMt ⟨rfl, rfl, trivial⟩) (fun w' hm' => (zI9 w' aX aY dM).mono (fun e w'' h => ⟨h.1, hm'.trans h.2.mod⟩)) ?_)
       refine QV (IV s_l2) rfl rfl (fun w' hm' => zAo aD) <| QV (IV bW) rfl rfl (fun w' hm' => zAb) <| QV (IV 3) rfl rfl (fun w' hm' => zAb) <| QV (IV s_l2) rfl rfl (fun w' hm' => zAb) ?_
       refine QW.nil ?_
       intro gM hmod
       have hL := hL.call hmod
       refine zBu (by kernel_rfl) ?_
       refine zAx ?_
       obtain rfl := oi hm
       have hm := cG _ rfl
       obtain rfl := oi hm
       exact RR3 rfl rfl rfl rfl ⟨rfl, hL.fresh 1 rfl [] (by decide) (by decide) rfl⟩
     refine zAt <| zAl <| OV (IV s_l2) rfl (zAo aD) <| OV (IV (w64 (s_l2 - 1))) rfl (zCn rfl rfl) <| OV (IV (w64 (s_l2 - 1))) rfl (zAb) <| OW.nil ?_
     obtain rfl := oi hm
     exact ⟨_, rfl, ⟨aI, aJ, aF, rfl, hL⟩⟩
   refine zA0 ?_
   refine zBk ?_
   obtain rfl := oi hm
   exact ⟨_, rfl, ⟨aI, aJ, aF, aD, hL⟩⟩
 intro s_l1 hT gN fU hJ hm dN
 unfold zCP at hm
 obtain ⟨bX, bY, bZ, aZ, bA, aK, hL⟩ := hJ
 refine zAF ?_
 refine zAM (fun (s_j1 : Bool) F w => F 2 = (IV a2) ∧ F 3 = (IV a3) ∧ F 4 = (PV b8 0) ∧ F 11 = aB ∧ F 12 = aC ∧ F 13 = (IV s_l1) ∧ F 44 = (.bool s_j1) ∧ Hp w0 [Ent.own 2 eA aC aE, Ent.own 2 dZ aB aH, Ent.blk b8 26 #[(IV a0.Boats), v1, v3], zAg w0 w0.heap.size] w) (fun s_j1 => zCO aH aE s_l1 s_j1 = some fU) ?_ ?_
 · refine zAl <| OV (IV s_l1) rfl (zAo aK) <| OV aB rfl (zAo aZ) <| OV (IV (aH.length : Int)) rfl (zA3 U27 rfl (hL.rdO 1 rfl)) <| OV (.bool (decide (s_l1 < (aH.length : Int)))) rfl (zBE rfl rfl) <| OV (.bool (decide (s_l1 < (aH.length : Int)))) rfl (zAe) ?_
   refine zAH hm (fun aA hm => ?_) (fun aA hm => ?_)
   · refine zAa (zAj rfl rfl aA (zAk (v := (IV s_l1)) rfl (zAo aK) ?_))
     refine zAa (zAj rfl rfl aA (zAk (v := aC) rfl (zAo bA) ?_))
     refine zAa (zAj rfl rfl aA (zAk (v := (IV (aE.length : Int))) rfl (zA3 U27 rfl (hL.rdO 0 rfl)) ?_))
     refine zAa (zAj rfl rfl aA (zAk (v := (.bool (decide (s_l1 < (aE.length : Int))))) rfl (zBE rfl rfl) ?_))
     refine OV (.bool (decide (s_l1 < (aE.length : Int)))) rfl (zAz rfl aA rfl) <| OW.nil ?_
     exact ⟨decide (s_l1 < (aE.length : Int)), hm, ⟨bX, bY, bZ, aZ, bA, aK, rfl, hL⟩⟩
   refine zAa (zAh rfl rfl aA rfl ?_)
   refine zAa (zAh rfl rfl aA rfl ?_)
   refine zAa (zAh rfl rfl aA rfl ?_)
   refine zAa (zAh rfl rfl aA rfl ?_)
   refine OV (.bool false) rfl (zAA rfl aA rfl) <| OW.nil ?_
   exact ⟨false, hm, ⟨bX, bY, bZ, aZ, bA, aK, rfl, hL⟩⟩
 intro s_j1 hU gO hJ hm
 unfold zCO at hm
 obtain ⟨cA, cB, cC, aL, aM, aG, fV, hL⟩ := hJ
 refine zAn (t := s_j1) fV hm (fun dO hm => ?_) (fun dO hm => ?_)
 · refine zAt <| zAF <| CW.block <| zAF ?_
   refine zBW zAQ ?_
   have hL := hL.call (zA8 _)
   refine DW.pre (fuel := 0) (fin := bma 9 511) (C := fun w' => Mod zBO _ w') [0, 1, 2, 3, 4, 5, 6, 7, 8] (Mod.refl _ _) (by kernel_rfl) (by kernel_rfl) ?_
   refine QV aB rfl rfl (fun w' hm' => zAo aL) <| QV (IV s_l1) rfl rfl (fun w' hm' => zAo aG) ?_
   obtain ⟨bB, dP, hm⟩ := zAs hm
   obtain ⟨dQ, bN⟩ := zAZ dP
   obtain ⟨fW, fX, aR⟩ := zAC (hL.rdO 1 rfl) dQ bN
   refine QV (.pointer (some ⟨fW, fX, none⟩)) rfl rfl (fun w' hm' => zA1 U27 zAf rfl rfl aR) <| QV (IV bB) rfl rfl (fun w' hm' => zAd U2 rfl rfl (zAv ((hL.call hm').rdO 1 rfl) aR bN 0 _ rfl)) <| QV aC rfl rfl (fun w' hm' => zAo aM) <| QV (IV s_l1) rfl rfl (fun w' hm' => zAo aG) ?_
   obtain ⟨bC, dR, hm⟩ := zAs hm
   obtain ⟨dS, bO⟩ := zAZ dR
   obtain ⟨fY, fZ, aS⟩ := zAC (hL.rdO 0 rfl) dS bO
   refine QV (.pointer (some ⟨fY, fZ, none⟩)) rfl rfl (fun w' hm' => zA1 U27 zAf rfl rfl aS) <| QV (IV bC) rfl rfl (fun w' hm' => zAd U2 rfl rfl (zAv ((hL.call hm').rdO 0 rfl) aS bO 0 _ rfl)) <| QV (.bool (bB != bC)) rfl rfl (fun w' hm' => zDk rfl rfl) ?_
   refine QW.nil ?_
   intro gP hmod
   have hL := hL.call hmod
   refine zBu (by kernel_rfl) ?_
   refine zAn (t := bB != bC) rfl hm (fun dT hm => ?_) (fun dT hm => ?_)
   · refine zAF ?_
     refine zBW zAQ ?_
     have hL := hL.call (zA8 _)
     refine DW.pre (fuel := 0) (fin := bma 12 4095) (C := fun w' => Mod zBO _ w') [0, 1, 2, 3, 4, 5, 6, 7, 8, 9, 10, 11] (Mod.refl _ _) (by kernel_rfl) (by kernel_rfl) ?_
     refine QV aB rfl rfl (fun w' hm' => zAo aL) <| QV (IV s_l1) rfl rfl (fun w' hm' => zAo aG) ?_
     obtain ⟨bD, dU, hm⟩ := zAs hm
     obtain ⟨dV, bP⟩ := zAZ dU
     obtain ⟨gA, gB, aT⟩ := zAC (hL.rdO 1 rfl) dV bP
     refine QV (.pointer (some ⟨gA, gB, none⟩)) rfl rfl (fun w' hm' => zA1 U27 zAf rfl rfl aT) <| QV (IV bD) rfl rfl (fun w' hm' => zAd U2 rfl rfl (zAv ((hL.call hm').rdO 1 rfl) aT bP 0 _ rfl)) <| QV aC rfl rfl (fun w' hm' => zAo aM) <| QV (IV s_l1) rfl rfl (fun w' hm' => zAo aG) ?_
     obtain ⟨bE, dW, hm⟩ := zAs hm
     obtain ⟨dX, bQ⟩ := zAZ dW
     obtain ⟨gC, gD, aU⟩ := zAC (hL.rdO 0 rfl) dX bQ
     refine QV (.pointer (some ⟨gC, gD, none⟩)) rfl rfl (fun w' hm' => zA1 U27 zAf rfl rfl aU) <| QV (IV bE) rfl rfl (fun w' hm' => zAd U2 rfl rfl (zAv ((hL.call hm').rdO 0 rfl) aU bQ 0 _ rfl)) ?_
     obtain ⟨cD, dY, hm⟩ := zAs hm
     refine zAi rfl (QP.call (v := (IV cD)) rfl (fun w' hm' => zAq (vs := [(IV bD), (IV bE)]) zMt ⟨rfl, rfl, trivial⟩) (fun w' hm' => (zI9 w' bD bE dY).mono (fun e w'' h => ⟨h.1, hm'.trans h.2.mod⟩)) ?_)
     refine QV (IV cD) rfl rfl (fun w' hm' => zAb) <| QV (IV 2) rfl rfl (fun w' hm' => zAb) <| QV (IV 0) rfl rfl (fun w' hm' => zAb) ?_
     refine QW.nil ?_
     intro gQ hmod
     have hL := hL.call hmod
     refine zBu (by kernel_rfl) ?_
     refine zAx ?_
     obtain rfl := oi hm
     have hm := dN _ rfl
     obtain rfl := oi hm
     exact RR3 rfl rfl rfl rfl ⟨rfl, hL.fresh 3 rfl [] (by decide) (by decide) rfl⟩
   refine zAt <| zAl <| OV (IV s_l1) rfl (zAo aG) <| OV (IV (w64 (s_l1 + 1))) rfl (zBe rfl rfl) <| OV (IV (w64 (s_l1 + 1))) rfl (zAb) <| OW.nil ?_
   obtain rfl := oi hm
   exact ⟨_, rfl, ⟨cA, cB, cC, aL, aM, rfl, hL⟩⟩
 refine zA0 ?_
 refine zBk ?_
 obtain rfl := oi hm
 exact ⟨_, rfl, ⟨cA, cB, cC, aL, aM, aG, hL⟩⟩

theorem zJ1 (w0 : World) (a0 : Table) {v1 : Value} {v3 : Value} (h2 : rdL (· < w0.heap.size) w0 v1 a0.Points) (h4 : rdL (· < w0.heap.size) w0 v3 a0.Codes) (a1 : List Int) {v5 : Value} (h6 : rdL (· < w0.heap.size) w0 v5 a1) (a2 : Int) {r : Int} (hm : zHK a0 a1 a2 = some r) :
    Calls Tryz.prog 32 #[(.agg #[(IV a0.Boats), v1, v3]), v5, (IV a2)] w0 fun e w' => e = .returned (IV r) ∧ Fresh w0 w' [] := by
 unfold zHK at hm
 refine zAD (args := [(.agg #[(IV a0.Boats), v1, v3]), v5, (IV a2)]) Tryz.func32 rfl rfl rfl ?_
 have hL := zAJ w0
 refine CSR ?_
 refine zAa (zC3 (cs := #[(IV a0.Boats), v1, v3]) hL rfl rfl rfl ?_)
 intro wd7 b8 hL
 refine OV (IV 0) rfl (zAb) <| ONR <| OV (IV 1) rfl (zAb) <| ONS <| CSR <| OV (IV 0) rfl (zAb) <| OW.nil ?_
 obtain ⟨bD, aH, hm⟩ := zAs hm
 refine zAU (fun (s_l1 : Int × Int) F w => F 1 = v5 ∧ F 2 = (IV a2) ∧ F 3 = (PV b8 0) ∧ F 7 = (IV s_l1.1) ∧ F 8 = (IV s_l1.2) ∧ Hp w0 [Ent.blk b8 26 #[(IV a0.Boats), v1, v3], zAg w0 w0.heap.size] w) (fun o => zBh o (fun x => some x) (fun s => zIh s) = some r) aH hm ⟨rfl, rfl, rfl, rfl, rfl, hL⟩ ?_ ?_
 · intro s_l1 bE aX hJ hm
   have hm := zBD hm
   have hm : zIh s_l1 = some r := hm
   unfold zIh at hm
   obtain ⟨bF, bG, bH, aM, bI, hL⟩ := hJ
   refine CSR <| OV (IV s_l1.1) rfl (zAo aM) <| OV (IV s_l1.1) rfl (zAb) <| OW.nil <| zAx ?_
   obtain rfl := oi hm
   exact RR1 rfl rfl ⟨rfl, hL.fresh 1 rfl [] (by decide) (by decide) rfl⟩
 intro s_l1 bJ aY aG hJ hm aZ
 unfold zGS at hm
 obtain ⟨aD, aE, aB, aF, aC, hL⟩ := hJ
 refine zAF <| CSR <| OV (IV s_l1.2) rfl (zAo aC) <| OV (PV b8 0) rfl (zAc (fsz := 1) 0 0 0 U26 rfl zAf rfl aB rfl) <| OV (IV a0.Boats) rfl (zAd U2 rfl rfl (hL.cellB 0 rfl rfl)) <| OV (.bool (decide (s_l1.2 < a0.Boats))) rfl (zBE rfl rfl) <| OW.nil ?_
 refine zAn (t := decide (s_l1.2 < a0.Boats)) rfl hm (fun aI hm => ?_) (fun aI hm => ?_)
 · refine zAt ?_
   refine zAM (fun (s_j1 : Int) F w => F 1 = v5 ∧ F 2 = (IV a2) ∧ F 3 = (PV b8 0) ∧ F 7 = (IV s_j1) ∧ F 8 = (IV s_l1.2) ∧ Hp w0 [Ent.blk b8 26 #[(IV a0.Boats), v1, v3], zAg w0 w0.heap.size] w) (fun s_j1 => zIi s_l1 s_j1 = some aG) ?_ ?_
   · refine zBG (fun (s_j2 : Int) F w => F 1 = v5 ∧ F 2 = (IV a2) ∧ F 3 = (PV b8 0) ∧ F 7 = (IV s_j2) ∧ F 8 = (IV s_l1.2) ∧ Hp w0 [Ent.blk b8 26 #[(IV a0.Boats), v1, v3], zAg w0 w0.heap.size] w) (fun s_j2 => zGR s_l1 s_j2 = some aG) ?_ ?_
     · refine CSR <| OV (.agg #[(IV a0.Boats), v1, v3]) rfl (zAW (cs := [(IV a0.Boats), v1, v3]) U26 zBg rfl aB (hL.cellsB 0 rfl (o := 0) (l := [(IV a0.Boats), v1, v3]) (by intro j u hj; exact (by simpa using hj)))) <| OV v5 rfl (zAo aD) <| OV (IV s_l1.2) rfl (zAo aC) <| OV (IV a2) rfl (zAo aE) ?_
       obtain ⟨aA, aJ, hm⟩ := zAs hm
       refine zAa (OP.call rfl (zAq (vs := [(.agg #[(IV a0.Boats), v1, v3]), v5, (IV s_l1.2), (IV a2)]) zRr ⟨rfl, rfl, rfl, rfl, trivial⟩) (zK4 _ a0 (hL.rdS 1 rfl h2) (hL.rdS 1 rfl h4) a1 (hL.rdS 1 rfl h6) s_l1.2 a2 aJ) ?_)
       rintro bK bA ⟨rfl, aK⟩
       refine ⟨_, rfl, ?_⟩
       have hL := hL.pushAll aK
       simp only [lA, lB, lC, lD] at hL
       refine OV (.tuple #[(IV aA.1), (IV aA.2.1), (IV aA.2.2)]) rfl (zAe) <| OV (IV aA.1) rfl (zA7 rfl rfl) <| OV (IV aA.2.1) rfl (zA7 rfl rfl) <| OV (IV aA.2.2) rfl (zA7 rfl rfl) <| OV (IV aA.1) rfl (zAb) <| OV (IV aA.2.1) rfl (zAb) <| OV (IV aA.2.2) rfl (zAb) <| ONR <| OV (IV aA.1) rfl (zAe) <| OV (.bool (decide (aA.1 < 0))) rfl (zBE rfl rfl) <| OW.nil ?_
       refine zAn (t := decide (aA.1 < 0)) rfl hm (fun aL hm => ?_) (fun aL hm => ?_)
       · refine zAl <| OV (IV s_l1.1) rfl (zAo aF) <| OV (IV (w64 (s_l1.1 + 1))) rfl (zBe rfl rfl) <| OV (IV (w64 (s_l1.1 + 1))) rfl (zAb) <| OW.nil ?_
         exact ⟨w64 (s_l1.1 + 1), hm, ⟨aD, aE, aB, rfl, aC, hL⟩⟩
       refine zAt ?_
       exact ⟨s_l1.1, hm, ⟨aD, aE, aB, aF, aC, hL⟩⟩
     intro s_j2 bL bB hJ hm
     unfold zGR at hm
     obtain ⟨aN, aO, aP, aQ, aR, hL⟩ := hJ
     exact ⟨s_j2, hm, ⟨aN, aO, aP, aQ, aR, hL⟩⟩
   intro s_j1 bM bC hJ hm
   unfold zIi at hm
   obtain ⟨aS, aT, aU, aV, aW, hL⟩ := hJ
   refine zAl <| OV (IV s_l1.2) rfl (zAo aW) <| OV (IV (w64 (s_l1.2 + 1))) rfl (zBe rfl rfl) <| OV (IV (w64 (s_l1.2 + 1))) rfl (zAb) <| OW.nil ?_
   obtain rfl := oi hm
   exact ⟨_, rfl, ⟨aS, aT, aU, aV, rfl, hL⟩⟩
 refine zA0 ?_
 refine zBk ?_
 obtain rfl := oi hm
 exact ⟨_, rfl, ⟨aD, aE, aB, aF, aC, hL⟩⟩

theorem zJa (w0 : World) (a0 : Table) {v1 : Value} {v3 : Value} (h2 : rdL (· < w0.heap.size) w0 v1 a0.Points) (h4 : rdL (· < w0.heap.size) w0 v3 a0.Codes) (a1 : List Int) {v5 : Value} (h6 : rdL (· < w0.heap.size) w0 v5 a1) {r : (List Int)} (hm : zGt a0 a1 = some r) :
    Calls Tryz.prog 28 #[(.agg #[(IV a0.Boats), v1, v3]), v5] w0 fun e w' => ∃ (rv0 : Value) (rS0 : Nat → Prop), e = .returned rv0 ∧ Fresh w0 w' [Ent.own 2 rS0 rv0 r] := by
 unfold zGt at hm
 refine zAD (args := [(.agg #[(IV a0.Boats), v1, v3]), v5]) Tryz.func28 rfl rfl rfl ?_
 have hL := zAJ w0
 refine CSR ?_
 refine zAa (zC3 (cs := #[(IV a0.Boats), v1, v3]) hL rfl rfl rfl ?_)
 intro wd7 b8 hL
 refine OV (.slice none 0 0) rfl (zAb) <| ONR <| OV (PV b8 0) rfl (zAc (fsz := 1) 0 0 0 U26 rfl zAf rfl rfl rfl) <| OV (IV a0.Boats) rfl (zAd U2 rfl rfl (hL.cellB 0 rfl rfl)) ?_
 obtain ⟨cP, hm⟩ := zEs hm
 refine zAa (zKS (α := Int) 0 hL U27 zAf rfl rfl rfl cP (by decide) rfl ?_)
 intro wd9 aB cT hL
 refine OV aB rfl (zAb) <| ONS <| CSR <| OV aB rfl (zAe) <| OV (IV ((List.replicate (a0.Boats).toNat (0 : Int)).length : Int)) rfl (zA3 U27 rfl (hL.rdO 0 rfl)) <| OV (IV 0) rfl (zAe) <| OW.nil ?_
 obtain ⟨dP, bL, hm⟩ := zAs hm
 refine zAU (fun (s_l1 : (List Int) × Int) F w => ∃ aF, F 1 = v5 ∧ F 2 = (PV b8 0) ∧ F 5 = aB ∧ F 15 = (IV ((List.replicate (a0.Boats).toNat (0 : Int)).length : Int)) ∧ F 16 = (IV s_l1.2) ∧ Hp w0 [Ent.own 2 aF aB s_l1.1, Ent.blk b8 26 #[(IV a0.Boats), v1, v3], zAg w0 w0.heap.size] w) (fun o => zBh o (fun x => some x) (fun s => zIm s) = some r) bL hm ⟨cT, rfl, rfl, rfl, rfl, rfl, hL⟩ ?_ ?_
 · intro s_l1 dQ dB hJ hm
   have hm := zBD hm
   have hm : zIm s_l1 = some r := hm
   unfold zIm at hm
   obtain ⟨aF, dR, dS, cQ, dT, dU, hL⟩ := hJ
   refine CSR <| OV aB rfl (zAo cQ) <| OV aB rfl (zAb) <| OW.nil <| zAx ?_
   obtain rfl := oi hm
   exact RR1 rfl rfl ⟨aB, aF, rfl, hL.fresh 2 rfl [0] (by decide) (by decide) rfl⟩
 intro s_l1 dV dC aZ hJ hm dD
 unfold zHi at hm
 obtain ⟨aF, bA, bB, aN, aW, aO, hL⟩ := hJ
 refine CSR <| OV (.bool (decide (s_l1.2 < ((List.replicate (a0.Boats).toNat (0 : Int)).length : Int)))) rfl (zBE aO aW) <| ONS ?_
 refine zAn (t := decide (s_l1.2 < ((List.replicate (a0.Boats).toNat (0 : Int)).length : Int))) rfl hm (fun bM hm => ?_) (fun bM hm => ?_)
 · refine zAt <| zAF <| CW.block <| CSR <| OV (IV s_l1.2) rfl (zAo aO) <| OV (IV s_l1.2) rfl (zAb) <| ONR <| OV aB rfl (zAo aN) <| OV (IV s_l1.2) rfl (zAe) ?_
   obtain ⟨dW, bN, hm⟩ := zAs hm
   obtain ⟨bO, aX⟩ := zAZ bN
   obtain ⟨cR, cS, aT⟩ := zAC (hL.rdO 0 rfl) bO aX
   refine OV (.pointer (some ⟨cR, cS, none⟩)) rfl (zA1 U27 zAf rfl rfl aT) ?_
   refine zAa (zBV (j := 0) 1 hL 0 rfl zAf aT aX rfl rfl rfl rfl rfl rfl ?_)
   intro dE hL
   refine ONR <| OV aB rfl (zAo aN) <| OV (IV ((s_l1.1.set (s_l1.2 : Int).toNat 1).length : Int)) rfl (zA3 U27 rfl (hL.rdO 0 rfl)) <| OV (IV 0) rfl (zAe) <| OW.nil ?_
   obtain ⟨dF, bC, hm⟩ := zAs hm
   refine zAU (fun (s_l2 : (List Int) × Int) F w => ∃ aC, F 1 = v5 ∧ F 2 = (PV b8 0) ∧ F 5 = aB ∧ F 6 = (IV s_l1.2) ∧ F 15 = (IV ((List.replicate (a0.Boats).toNat (0 : Int)).length : Int)) ∧ F 16 = (IV s_l1.2) ∧ F 23 = (IV ((s_l1.1.set (s_l1.2 : Int).toNat 1).length : Int)) ∧ F 24 = (IV s_l2.2) ∧ Hp w0 [Ent.own 2 aC aB s_l2.1, Ent.blk b8 26 #[(IV a0.Boats), v1, v3], zAg w0 w0.heap.size] w) (fun o => zBh o (fun x => some (.ret x)) (fun s => zHf s_l1 s) = some aZ) bC hm ⟨aF, bA, bB, aN, rfl, aW, aO, rfl, rfl, hL⟩ ?_ ?_
   · intro s_l2 dG cU hJ hm
     have hm := zBD hm
     have hm : zHf s_l1 s_l2 = some aZ := hm
     unfold zHf at hm
     obtain ⟨aC, bP, bQ, bR, dH, bS, bT, dI, dJ, hL⟩ := hJ
     refine zAl <| OV (IV (w64 (s_l1.2 + 1))) rfl (zBe bT rfl) <| OV (IV (w64 (s_l1.2 + 1))) rfl (zAe) <| OW.nil ?_
     obtain rfl := oi hm
     exact ⟨_, rfl, ⟨aC, bP, bQ, bR, bS, rfl, hL⟩⟩
   intro s_l2 dK cV aY hJ hm cW
   unfold zHh at hm
   obtain ⟨aC, aG, aH, aI, aD, aP, aQ, aJ, aE, hL⟩ := hJ
   refine CSR <| OV (.bool (decide (s_l2.2 < ((s_l1.1.set (s_l1.2 : Int).toNat 1).length : Int)))) rfl (zBE aE aJ) <| ONS ?_
   refine zAn (t := decide (s_l2.2 < ((s_l1.1.set (s_l1.2 : Int).toNat 1).length : Int))) rfl hm (fun bD hm => ?_) (fun bD hm => ?_)
   · refine zAt ?_
     refine zAM (fun (s_j1 : (List Int)) F w => ∃ aR, F 1 = v5 ∧ F 2 = (PV b8 0) ∧ F 5 = aB ∧ F 6 = (IV s_l1.2) ∧ F 15 = (IV ((List.replicate (a0.Boats).toNat (0 : Int)).length : Int)) ∧ F 16 = (IV s_l1.2) ∧ F 23 = (IV ((s_l1.1.set (s_l1.2 : Int).toNat 1).length : Int)) ∧ F 24 = (IV s_l2.2) ∧ Hp w0 [Ent.own 2 aR aB s_j1, Ent.blk b8 26 #[(IV a0.Boats), v1, v3], zAg w0 w0.heap.size] w) (fun s_j1 => zIn s_l2 s_j1 = some aY) ?_ ?_
     · refine zBG (fun (s_j2 : (List Int)) F w => ∃ aS, F 1 = v5 ∧ F 2 = (PV b8 0) ∧ F 5 = aB ∧ F 6 = (IV s_l1.2) ∧ F 15 = (IV ((List.replicate (a0.Boats).toNat (0 : Int)).length : Int)) ∧ F 16 = (IV s_l1.2) ∧ F 23 = (IV ((s_l1.1.set (s_l1.2 : Int).toNat 1).length : Int)) ∧ F 24 = (IV s_l2.2) ∧ Hp w0 [Ent.own 2 aS aB s_j2, Ent.blk b8 26 #[(IV a0.Boats), v1, v3], zAg w0 w0.heap.size] w) (fun s_j2 => zHg s_l2 s_j2 = some aY) ?_ ?_
       · refine CSR <| OV (IV s_l2.2) rfl (zAo aE) <| OV (IV s_l2.2) rfl (zAb) <| ONR <| OV (.agg #[(IV a0.Boats), v1, v3]) rfl (zAW (cs := [(IV a0.Boats), v1, v3]) U26 zBg rfl aH (hL.cellsB 1 rfl (o := 0) (l := [(IV a0.Boats), v1, v3]) (by intro j u hj; exact (by simpa using hj)))) <| OV v5 rfl (zAo aG) <| OV (IV s_l2.2) rfl (zAe) <| OV (IV s_l1.2) rfl (zAo aD) ?_
         obtain ⟨aA, bE, hm⟩ := zAs hm
         refine zAa (OP.call rfl (zAq (vs := [(.agg #[(IV a0.Boats), v1, v3]), v5, (IV s_l2.2), (IV s_l1.2)]) zRe ⟨rfl, rfl, rfl, rfl, trivial⟩) (zKA _ a0 (hL.rdS 2 rfl h2) (hL.rdS 2 rfl h4) a1 (hL.rdS 2 rfl h6) s_l2.2 s_l1.2 bE) ?_)
         rintro dL cX ⟨rfl, bF⟩
         refine ⟨_, rfl, ?_⟩
         have hL := hL.pushAll bF
         simp only [lA, lB, lC, lD] at hL
         refine OV (.tuple #[(IV aA.1), (IV aA.2.1), (IV aA.2.2)]) rfl (zAe) <| OV (IV aA.1) rfl (zA7 rfl rfl) <| OV (IV aA.2.1) rfl (zA7 rfl rfl) <| OV (IV aA.2.2) rfl (zA7 rfl rfl) <| OV (IV aA.1) rfl (zAb) <| OV (IV aA.2.1) rfl (zAb) <| OV (IV aA.2.2) rfl (zAb) <| ONR <| OV (IV aA.1) rfl (zAe) <| OV (.bool (decide (aA.1 < 0))) rfl (zBE rfl rfl) <| OW.nil ?_
         refine zAn (t := decide (aA.1 < 0)) rfl hm (fun bG hm => ?_) (fun bG hm => ?_)
         · refine zAl <| OV aB rfl (zAo aI) <| OV (IV s_l1.2) rfl (zAo aD) ?_
           obtain ⟨aK, bH, hm⟩ := zAs hm
           obtain ⟨bI, aU⟩ := zAZ bH
           obtain ⟨bU, bV, aL⟩ := zAC (hL.rdO 0 rfl) bI aU
           refine OV (.pointer (some ⟨bU, bV, none⟩)) rfl (zA1 U27 zAf rfl rfl aL) <| OV (IV aK) rfl (zAd U2 rfl rfl (zAv (hL.rdO 0 rfl) aL aU 0 _ rfl)) <| OV (IV (w64 (aK + 1))) rfl (zBe rfl rfl) ?_
           obtain ⟨dM, bJ, hm⟩ := zAs hm
           obtain ⟨bK, aV⟩ := zAZ bJ
           obtain ⟨bW, bX, aM⟩ := zAC (hL.rdO 0 rfl) bK aV
           refine OV (.pointer (some ⟨bW, bX, none⟩)) rfl (zA1 U27 zAf rfl rfl aM) ?_
           refine zAa (zBV (j := 0) (w64 (aK + 1)) hL 0 rfl zAf aM aV rfl rfl rfl rfl rfl rfl ?_)
           intro cY hL
           refine OW.nil ?_
           exact ⟨s_l2.1.set (s_l1.2 : Int).toNat (w64 (aK + 1)), hm, ⟨aC, aG, aH, aI, aD, aP, aQ, aJ, aE, hL⟩⟩
         refine zAt ?_
         exact ⟨s_l2.1, hm, ⟨aC, aG, aH, aI, aD, aP, aQ, aJ, aE, hL⟩⟩
       intro s_j2 dN cZ hJ hm
       unfold zHg at hm
       obtain ⟨aS, bY, bZ, cA, cB, cC, cD, cE, cF, hL⟩ := hJ
       exact ⟨s_j2, hm, ⟨aS, bY, bZ, cA, cB, cC, cD, cE, cF, hL⟩⟩
     intro s_j1 dO dA hJ hm
     unfold zIn at hm
     obtain ⟨aR, cG, cH, cI, cJ, cK, cM, cN, cO, hL⟩ := hJ
     refine zAl <| OV (IV (w64 (s_l2.2 + 1))) rfl (zBe cO rfl) <| OV (IV (w64 (s_l2.2 + 1))) rfl (zAe) <| OW.nil ?_
     obtain rfl := oi hm
     exact ⟨_, rfl, ⟨aR, cG, cH, cI, cJ, cK, cM, cN, rfl, hL⟩⟩
   refine zA0 ?_
   refine zBk ?_
   obtain rfl := oi hm
   exact ⟨_, rfl, ⟨aC, aG, aH, aI, aD, aP, aQ, aJ, aE, hL⟩⟩
 refine zA0 ?_
 refine zBk ?_
 obtain rfl := oi hm
 exact ⟨_, rfl, ⟨aF, bA, bB, aN, aW, aO, hL⟩⟩

theorem zKB (w0 : World) (htab : Lib.TabIs Tryz.prog w0 "internal/strconv.uint64pow10" .u64 Lib.pow10Tab) (a0 : Int) (a1 : Int) {r : ByteArray} (hm : zHn a0 a1 = some r) :
    Calls Tryz.prog 65 #[(IV a0), (IV a1)] w0 fun e w' => e = .returned (.string r) ∧ Fresh w0 w' [] := by
 unfold zHn at hm
 obtain ⟨⟨hb, h0, h1⟩, h2⟩ := zEs hm
 subst hb
 obtain rfl := Option.some.inj h2
 exact (Any.strconv_FormatInt_10 zSx a0 h0 h1 w0 htab).mono fun e w' h => ⟨h.1, zPg h.2⟩

theorem zJb (w0 : World) (htab : Lib.TabIs Tryz.prog w0 "internal/strconv.uint64pow10" .u64 Lib.pow10Tab) (a0 : Int) {r : ByteArray} (hm : zHR a0 = some r) :
    Calls Tryz.prog 29 #[(IV a0)] w0 fun e w' => e = .returned (.string r) ∧ Fresh w0 w' [] := by
 unfold zHR at hm
 refine zAD (args := [(IV a0)]) Tryz.func29 rfl rfl rfl ?_
 have hL := zAJ w0
 refine CSR <| OV (.string (⟨#[]⟩ : ByteArray)) rfl (zAb) <| ONR <| OV (IV a0) rfl (zAe) ?_
 obtain ⟨x1, hx2, hm⟩ := zAs hm
 refine zAa (OP.call rfl (zAq (vs := [(IV a0), (IV 10)]) zRq ⟨rfl, rfl, trivial⟩) (zKB _ (hL.tab 0 rfl rfl htab) a0 10 hx2) ?_)
 rintro e3 wd4 ⟨rfl, hF5⟩
 refine ⟨_, rfl, ?_⟩
 have hL := hL.pushAll hF5
 simp only [lA, lB, lC, lD] at hL
 refine OV (.string x1) rfl (zAb) <| OW.nil <| zAx ?_
 obtain rfl := oi hm
 exact RR1 rfl rfl ⟨rfl, hL.fresh 0 rfl [] (by decide) (by decide) rfl⟩

theorem zHo (w0 : World) (a0 : Int) {r : ByteArray} (hm : zC1 a0 = some r) :
    Calls Tryz.prog 31 #[(IV a0)] w0 fun e w' => e = .returned (.string r) ∧ Fresh w0 w' [] := by
 unfold zC1 at hm
 refine zAD (args := [(IV a0)]) Tryz.func31 rfl rfl rfl ?_
 have hL := zAJ w0
 refine CSR <| OV (.string (⟨#[]⟩ : ByteArray)) rfl (zAb) <| ONR ?_
 refine zAa (zBS ([] : List UInt8) hL U22 zLi rfl (by decide) (by first | (simp [Instr.fill, madeCells, Value.cells, ev, upd, Flat.enc, Flat.sz]; done) | rfl | kernel_rfl) rfl rfl ?_)
 intro wd1 v2 S3 hL
 refine OV v2 rfl (zAb) <| ONS <| CSR <| OV (IV a0) rfl (zAe) <| OV (IV a0) rfl (zAb) <| OW.nil ?_
 obtain ⟨aV, aI, hm⟩ := zAs hm
 refine zAU (fun (s_l1 : (List UInt8) × Int) F w => ∃ aB aC, F 3 = aB ∧ F 4 = (IV s_l1.2) ∧ Hp w0 [Ent.own 5 aC aB s_l1.1, zAg w0 w0.heap.size] w) (fun o => zBh o (fun x => some x) (fun s => zFN s) = some r) aI hm ⟨v2, S3, rfl, rfl, hL⟩ ?_ ?_
 · intro s_l1 aW aP hJ hm
   have hm := zBD hm
   have hm : zFN s_l1 = some r := hm
   unfold zFN at hm
   obtain ⟨aB, aC, aL, aX, hL⟩ := hJ
   refine CSR <| OV aB rfl (zAo aL) <| OV (.string (bts s_l1.1)) rfl (zTA U22 U5 U9 rfl (hL.rdO 0 rfl)) <| OV (.string (bts s_l1.1)) rfl (zAb) <| OW.nil <| zAx ?_
   obtain rfl := oi hm
   exact RR1 rfl rfl ⟨rfl, hL.fresh 1 rfl [] (by decide) (by decide) rfl⟩
 intro s_l1 aY aQ aM hJ hm aR
 unfold zFO at hm
 obtain ⟨aB, aC, aD, aE, hL⟩ := hJ
 refine zAF ?_
 refine zAM (fun (s_j1 : Bool) F w => F 3 = aB ∧ F 4 = (IV s_l1.2) ∧ F 13 = (.bool s_j1) ∧ Hp w0 [Ent.own 5 aC aB s_l1.1, zAg w0 w0.heap.size] w) (fun s_j1 => zDj s_l1 s_j1 = some aM) ?_ ?_
 · refine zAl <| OV (IV s_l1.2) rfl (zAo aE) <| OV (.bool (decide (0 < s_l1.2))) rfl (zIq rfl rfl) <| OV (.bool (decide (0 < s_l1.2))) rfl (zAe) ?_
   refine zAH hm (fun aA hm => ?_) (fun aA hm => ?_)
   · refine zAa (zAh rfl rfl aA rfl ?_)
     refine zAa (zAh rfl rfl aA rfl ?_)
     refine zAa (zAh rfl rfl aA rfl ?_)
     refine OV (.bool true) rfl (zAz rfl aA rfl) <| OW.nil ?_
     exact ⟨true, hm, ⟨aD, aE, rfl, hL⟩⟩
   refine zAa (zAj rfl rfl aA (zAk (v := aB) rfl (zAo aD) ?_))
   refine zAa (zAj rfl rfl aA (zAk (v := (IV (s_l1.1.length : Int))) rfl (zA3 U22 rfl (hL.rdO 0 rfl)) ?_))
   refine zAa (zAj rfl rfl aA (zAk (v := (.bool ((s_l1.1.length : Int) == 0))) rfl (zBv rfl rfl) ?_))
   refine OV (.bool ((s_l1.1.length : Int) == 0)) rfl (zAA rfl aA rfl) <| OW.nil ?_
   exact ⟨(s_l1.1.length : Int) == 0, hm, ⟨aD, aE, rfl, hL⟩⟩
 intro s_j1 aZ aS hJ hm
 unfold zDj at hm
 obtain ⟨aG, aF, aN, hL⟩ := hJ
 refine zAn (t := s_j1) aN hm (fun aJ hm => ?_) (fun aJ hm => ?_)
 · refine zAt <| zAF <| CW.block <| zAl <| OV (IV s_l1.2) rfl (zAo aF) <| OV (IV (s_l1.2.tmod 10)) rfl (zNv rfl rfl (by decide)) <| OV (IV (w64 (48 + (s_l1.2.tmod 10)))) rfl (zBe rfl rfl) <| OV (.int .u8 (IntKind.u8.wrap (w64 (48 + (s_l1.2.tmod 10))))) rfl (zLB U2 U5 rfl) ?_
   refine zAa (zBS ([(UInt8.ofNat (IntKind.u8.wrap (w64 (48 + (s_l1.2.tmod 10)))).toNat)] : List UInt8) hL U22 zLi rfl (by decide) (by simp only [Flat.enc, List.flatMap_cons, List.flatMap_nil, u8w]; first | rfl | kernel_rfl) rfl rfl ?_)
   intro aT bA bB hL
   refine OV aB rfl (zAo aG) ?_
   obtain ⟨aK, hm⟩ := zEs hm
   refine zAa (zCA (ys := s_l1.1) hL 0 rfl U22 zLi rfl rfl rfl (hL.rdO 1 rfl) aK (by decide) rfl ?_)
   intro aU aH aO hL
   refine OV aH rfl (zAb) <| OW.nil <| zAl <| OV (IV s_l1.2) rfl (zAo aF) <| OV (IV (w64 (s_l1.2.tdiv 10))) rfl (zL1 rfl rfl (by decide)) <| OV (IV (w64 (s_l1.2.tdiv 10))) rfl (zAb) <| OW.nil ?_
   have hL := hL.sl [0, 2] rfl
   obtain rfl := oi hm
   exact ⟨_, rfl, ⟨aH, aO, rfl, rfl, hL⟩⟩
 refine zA0 ?_
 refine zBk ?_
 obtain rfl := oi hm
 exact ⟨_, rfl, ⟨aB, aC, aG, aF, hL⟩⟩

theorem zJ2 (w0 : World) (a0 : Table) {v1 : Value} {v3 : Value} (h2 : rdL (· < w0.heap.size) w0 v1 a0.Points) (h4 : rdL (· < w0.heap.size) w0 v3 a0.Codes) (a1 : List Int) {v5 : Value} (h6 : rdL (· < w0.heap.size) w0 v5 a1) {r : (List Int) × Int} (hm : zHN a0 a1 = some r) :
    Calls Tryz.prog 12 #[(.agg #[(IV a0.Boats), v1, v3]), v5] w0 fun e w' => ∃ (rv0 : Value) (rS0 : Nat → Prop), e = .returned (.tuple #[rv0, (IV r.2)]) ∧ Fresh w0 w' [Ent.own 2 rS0 rv0 r.1] := by
 unfold zHN at hm
 refine zAD (args := [(.agg #[(IV a0.Boats), v1, v3]), v5]) Tryz.func12 rfl rfl rfl ?_
 have hL := zAJ w0
 refine CSR ?_
 refine zAa (zC3 (cs := #[(IV a0.Boats), v1, v3]) hL rfl rfl rfl ?_)
 intro wd7 b8 hL
 refine OV (.slice none 0 0) rfl (zAb) <| OV (IV 0) rfl (zAb) <| ONS <| CSR <| OV (.agg #[(IV a0.Boats), v1, v3]) rfl (zAW (cs := [(IV a0.Boats), v1, v3]) U26 zBg rfl rfl (hL.cellsB 0 rfl (o := 0) (l := [(IV a0.Boats), v1, v3]) (by intro j u hj; exact (by simpa using hj)))) <| OV v5 rfl (zAe) ?_
 obtain ⟨x9, aB, hm⟩ := zAs hm
 refine zAa (OP.call rfl (zAq (vs := [(.agg #[(IV a0.Boats), v1, v3]), v5, (IV 0)]) zRd ⟨rfl, rfl, rfl, trivial⟩) (zLr _ a0 (hL.rdS 1 rfl h2) (hL.rdS 1 rfl h4) a1 (hL.rdS 1 rfl h6) 0 aB) ?_)
 rintro aJ aH ⟨rfl, aC⟩
 refine ⟨_, rfl, ?_⟩
 have hL := hL.pushAll aC
 simp only [lA, lB, lC, lD] at hL
 refine OV (IV x9) rfl (zAb) <| ONR <| OV (IV x9) rfl (zAe) <| OV (.bool (x9 != 0)) rfl (zDk rfl rfl) <| OW.nil ?_
 refine zAn (t := x9 != 0) rfl hm (fun aD hm => ?_) (fun aD hm => ?_)
 · refine CSR <| OV (IV x9) rfl (zAe) <| OV (.slice none 0 0) rfl (zAb) <| OV (IV x9) rfl (zAb) <| OW.nil <| zAx ?_
   have hL := hL.pushNil Int 2
   obtain rfl := oi hm
   exact RR2 rfl rfl rfl ⟨(.slice none 0 0), zBO, rfl, hL.fresh 2 rfl [0] (by decide) (by decide) rfl⟩
 refine zAt <| CSR <| OV (.agg #[(IV a0.Boats), v1, v3]) rfl (zAW (cs := [(IV a0.Boats), v1, v3]) U26 zBg rfl rfl (hL.cellsB 0 rfl (o := 0) (l := [(IV a0.Boats), v1, v3]) (by intro j u hj; exact (by simpa using hj)))) <| OV v5 rfl (zAe) ?_
 obtain ⟨aK, aE, hm⟩ := zAs hm
 refine zAa (OP.call rfl (zAq (vs := [(.agg #[(IV a0.Boats), v1, v3]), v5]) zM6 ⟨rfl, rfl, trivial⟩) (zJa _ a0 (hL.rdS 1 rfl h2) (hL.rdS 1 rfl h4) a1 (hL.rdS 1 rfl h6) aE) ?_)
 rintro aL aI ⟨aA, aG, rfl, aF⟩
 refine ⟨_, rfl, ?_⟩
 have hL := hL.pushAll aF
 simp only [lA, lB, lC, lD] at hL
 refine OV aA rfl (zAb) <| OV (IV 0) rfl (zAb) <| OW.nil <| zAx ?_
 obtain rfl := oi hm
 exact RR2 rfl rfl rfl ⟨aA, aG, rfl, hL.fresh 2 rfl [0] (by decide) (by decide) rfl⟩

theorem zKb (w0 : World) {b1 : Nat} {v2 : Value} (a0 : Src) (h3 : rdL (fun k => k < w0.heap.size ∧ ¬ (Ent.blk b1 92 #[v2, .int .i64 a0.at_, .int .i64 a0.seed]).S k) w0 v2 a0.code) (he4 : (Ent.blk b1 92 #[v2, .int .i64 a0.at_, .int .i64 a0.seed]).H w0) (a1 : Series) {v5 : Value} (h6 : rdL (fun k => k < w0.heap.size ∧ ¬ (Ent.blk b1 92 #[v2, .int .i64 a0.at_, .int .i64 a0.seed]).S k) w0 v5 a1.Races) {r : (Penalty) × (Int × Int)} (hm : zGy a0 a1 = some r) :
    Calls Tryz.prog 73 #[(PV b1 0), (.agg #[(IV a1.Boats), (IV a1.Scheme), v5])] w0 fun e w' => e = .returned (.agg #[(IV r.1.Race), (IV r.1.Boat), (IV r.1.Kind), (IV r.1.Value)]) ∧ Mut w0 w' (Ent.blk b1 92 #[v2, .int .i64 a0.at_, .int .i64 a0.seed]).S [Ent.blk b1 92 #[v2, .int .i64 r.2.1, .int .i64 r.2.2]] := by
 unfold zGy at hm
 refine zAD (args := [(PV b1 0), (.agg #[(IV a1.Boats), (IV a1.Scheme), v5])]) Tryz.func73 rfl rfl rfl ?_
 have hL := zDc he4
 refine CSR ?_
 refine zAa (zC3 (cs := #[(IV a1.Boats), (IV a1.Scheme), v5]) hL rfl rfl rfl ?_)
 intro wd7 b8 hL
 refine zAa (zBb (cs := #[(IV 0), (IV 0), (IV 0), (IV 0)]) hL zAX rfl rfl ?_)
 intro wd9 aD hL
 refine ONS ?_
 refine zDG (fun w' => Hp w0 [Ent.blk aD 49 #[(IV 0), (IV 0), (IV 0), (IV 0)], Ent.blk b8 38 #[(IV a1.Boats), (IV a1.Scheme), v5], zAS w0 (Ent.blk b1 92 #[v2, .int .i64 a0.at_, .int .i64 a0.seed]).S] w') zAQ ?_
 have hL := hL.call (zA8 _)
 have hS := (hL.sl [0, 1, 3] rfl)
 refine zAw 0 rfl (by kernel_rfl) rfl rfl hS (zAp (v := (PV b1 0)) (fun w' hS' => zAe)) ?_
 have hS := (hL.sl [0, 1, 3] rfl)
 refine zAw 1 rfl (by kernel_rfl) rfl rfl hS (zAp (v := (PV b8 2)) (fun w' hS' => zAc (fsz := 1) 0 2 2 U38 rfl zCq rfl rfl rfl)) ?_
 have hS := (hL.sl [0, 1, 3] rfl)
 refine zAw 2 rfl (by kernel_rfl) rfl rfl hS (zAp (v := v5) (fun w' hS' => zAd U36 rfl rfl (hS'.cellB 1 rfl rfl))) ?_
 have hS := (hL.sl [0, 1, 3] rfl)
 refine zAw 3 rfl (by kernel_rfl) rfl rfl hS (zAp (v := (IV (a1.Races.length : Int))) (fun w' hS' => zPb U36 rfl (zM1 (hL.rdZ 3 rfl h6)))) ?_
 have hS := (hL.sl [0, 1, 3] rfl)
 refine zAw 4 rfl (by kernel_rfl) rfl rfl hS (zAp (v := (IV (max 1 (a1.Races.length : Int)))) (fun w' hS' => zKQ rfl rfl)) ?_
 have hS := (hL.sl [0, 1, 3] rfl)
 refine zAw 6 rfl (by kernel_rfl) rfl rfl hS (zAp (v := (PV b1 0)) (fun w' hS' => zAe)) ?_
 have hS := (hL.sl [0, 1, 3] rfl)
 refine zAw 7 rfl (by kernel_rfl) rfl rfl hS (zAp (v := (PV b8 0)) (fun w' hS' => zAc (fsz := 1) 0 0 0 U38 rfl zAf rfl rfl rfl)) ?_
 have hS := (hL.sl [0, 1, 3] rfl)
 refine zAw 8 rfl (by kernel_rfl) rfl rfl hS (zAp (v := (IV a1.Boats)) (fun w' hS' => zAd U2 rfl rfl (hS'.cellB 1 rfl rfl))) ?_
 have hS := (hL.sl [0, 1, 3] rfl)
 refine zAw 9 rfl (by kernel_rfl) rfl rfl hS (zAp (v := (IV (max 1 a1.Boats))) (fun w' hS' => zKQ rfl rfl)) ?_
 have hS := (hL.sl [0, 1, 3] rfl)
 refine zAw 11 rfl (by kernel_rfl) rfl rfl hS (zAp (v := (PV b1 0)) (fun w' hS' => zAe)) ?_
 obtain ⟨aB, aT, hm⟩ := zAs hm
 obtain ⟨aC, aU, hm⟩ := zAs hm
 obtain ⟨aA, aV, hm⟩ := zAs hm
 refine zAI (listed' := (bma 17 131071)) (fuel' := 0) (fun F w => ∃ aE, F 0 = (PV b1 0) ∧ F 4 = (PV aD 0) ∧ F 5 = (PV aE 0) ∧ Hp w0 [Ent.blk aE 49 #[(IV aB.1), (IV aC.1), (IV (w64 (1 + aA.1))), (IV 0)], Ent.blk aD 49 #[(IV 0), (IV 0), (IV 0), (IV 0)], Ent.blk b8 38 #[(IV a1.Boats), (IV a1.Scheme), v5], Ent.blk b1 92 #[v2, (IV aA.2.1), (IV aA.2.2)], zAS w0 (Ent.blk b1 92 #[v2, .int .i64 a0.at_, .int .i64 a0.seed]).S] w) ?_ (fun cF => ?_)
 · intro fV eX hJ
   obtain ⟨aE, aW, aK, aF, hL⟩ := hJ
   refine zDB (by kernel_rfl) ?_
   refine zAM (fun (s_j1 : Int × Int × Int) F w => F 4 = (PV aD 0) ∧ F 5 = (PV aE 0) ∧ Hp w0 [Ent.blk aE 49 #[(IV aB.1), (IV aC.1), (IV (w64 (1 + aA.1))), (IV s_j1.2.2)], Ent.blk aD 49 #[(IV 0), (IV 0), (IV 0), (IV 0)], Ent.blk b8 38 #[(IV a1.Boats), (IV a1.Scheme), v5], Ent.blk b1 92 #[v2, (IV s_j1.1), (IV s_j1.2.1)], zAS w0 (Ent.blk b1 92 #[v2, .int .i64 a0.at_, .int .i64 a0.seed]).S] w) (fun s_j1 => zHj aB aC aA s_j1 = some r) ?_ ?_
   · refine CSR <| OV (PV aE 2) rfl (zAc (fsz := 1) 0 2 2 U49 rfl zAf rfl aF rfl) <| OV (IV (w64 (1 + aA.1))) rfl (zAd U2 rfl rfl (hL.cellB 0 rfl rfl)) <| OW.nil ?_
     refine zBG (fun (s_j2 : Int × Int × Int) F w => F 4 = (PV aD 0) ∧ F 5 = (PV aE 0) ∧ Hp w0 [Ent.blk aE 49 #[(IV aB.1), (IV aC.1), (IV (w64 (1 + aA.1))), (IV s_j2.2.2)], Ent.blk aD 49 #[(IV 0), (IV 0), (IV 0), (IV 0)], Ent.blk b8 38 #[(IV a1.Boats), (IV a1.Scheme), v5], Ent.blk b1 92 #[v2, (IV s_j2.1), (IV s_j2.2.1)], zAS w0 (Ent.blk b1 92 #[v2, .int .i64 a0.at_, .int .i64 a0.seed]).S] w) (fun s_j2 => zCu aB aC aA s_j2 = some r) ?_ ?_
     · refine CSR <| OV (.bool ((w64 (1 + aA.1)) == 1)) rfl (zBv rfl rfl) <| OV (.bool ((w64 (1 + aA.1)) == 1)) rfl (zAb) <| OW.nil ?_
       refine zAn (t := (w64 (1 + aA.1)) == 1) rfl hm (fun bO hm => ?_) (fun bO hm => ?_)
       · refine zAl ?_
         refine zAa (zBS ([6, 7, 5] : List Int) hL U27 zAf rfl (by decide) (by first | (simp [Instr.fill, madeCells, Value.cells, ev, upd, Flat.enc, Flat.sz]; done) | rfl | kernel_rfl) rfl rfl ?_)
         intro dV eY eZ hL
         refine OV (PV b1 0) rfl (zAo aW) ?_
         obtain ⟨aX, bP, hm⟩ := zAs hm
         refine zAa (OP.call rfl (zAq (vs := [(PV b1 0), (IV 3)]) zA6 ⟨rfl, rfl, trivial⟩) (zAu _ (Src.mk a0.code aA.2.1 aA.2.2) (hL.exZ 5 4 (by decide) rfl rfl h3) (hL.get 4 rfl) 3 bP) ?_)
         rintro fA dW ⟨rfl, bQ⟩
         refine ⟨_, rfl, ?_⟩
         have hL := hL.mut 4 rfl bQ
         simp only [lA, lB, lC, lD] at hL
         obtain ⟨aJ, bR, hm⟩ := zAs hm
         obtain ⟨bS, aL⟩ := zAZ bR
         obtain ⟨cG, cH, aI⟩ := zAC (hL.rdO 0 rfl) bS aL
         refine OV (.pointer (some ⟨cG, cH, none⟩)) rfl (zA1 U27 zAf rfl rfl aI) <| OV (IV aJ) rfl (zAd U2 rfl rfl (zAv (hL.rdO 0 rfl) aI aL 0 _ rfl)) <| OV (PV aE 3) rfl (zAc (fsz := 1) 0 3 3 U49 rfl zAf rfl aF rfl) ?_
         refine zAa (zEt (cs' := #[(IV aB.1), (IV aC.1), (IV (w64 (1 + aA.1))), (IV aJ)]) hL 1 rfl zAf rfl rfl rfl rfl rfl ?_)
         intro dX hL
         refine OW.nil ?_
         have hL := hL.sl [1, 2, 3, 4, 5] rfl
         exact ⟨(aX.2.1, aX.2.2, aJ), hm, ⟨aK, aF, hL⟩⟩
       refine CSR <| OV (.bool ((w64 (1 + aA.1)) == 2)) rfl (zBv rfl rfl) <| OV (.bool ((w64 (1 + aA.1)) == 2)) rfl (zAb) <| OW.nil ?_
       refine zAn (t := (w64 (1 + aA.1)) == 2) rfl hm (fun bT hm => ?_) (fun bT hm => ?_)
       · refine zAl <| OV (PV b1 0) rfl (zAo aW) ?_
         obtain ⟨aG, bU, hm⟩ := zAs hm
         refine zAa (OP.call rfl (zAq (vs := [(PV b1 0), (IV 8)]) zA6 ⟨rfl, rfl, trivial⟩) (zAu _ (Src.mk a0.code aA.2.1 aA.2.2) (hL.exZ 4 3 (by decide) rfl rfl h3) (hL.get 3 rfl) 8 bU) ?_)
         rintro fB dY ⟨rfl, bV⟩
         refine ⟨_, rfl, ?_⟩
         have hL := hL.mut 3 rfl bV
         simp only [lA, lB, lC, lD] at hL
         refine OV (IV (w64 (1 + aG.1))) rfl (zBe rfl rfl) <| OV (PV aE 3) rfl (zAc (fsz := 1) 0 3 3 U49 rfl zAf rfl aF rfl) ?_
         refine zAa (zEt (cs' := #[(IV aB.1), (IV aC.1), (IV (w64 (1 + aA.1))), (IV (w64 (1 + aG.1)))]) hL 0 rfl zAf rfl rfl rfl rfl rfl ?_)
         intro dZ hL
         refine OW.nil ?_
         exact ⟨(aG.2.1, aG.2.2, w64 (1 + aG.1)), hm, ⟨aK, aF, hL⟩⟩
       refine CSR <| OV (.bool ((w64 (1 + aA.1)) == 3)) rfl (zBv rfl rfl) <| OV (.bool ((w64 (1 + aA.1)) == 3)) rfl (zAb) <| OW.nil ?_
       refine zAn (t := (w64 (1 + aA.1)) == 3) rfl hm (fun bW hm => ?_) (fun bW hm => ?_)
       · refine zAl <| OV (PV b1 0) rfl (zAo aW) ?_
         obtain ⟨aH, bX, hm⟩ := zAs hm
         refine zAa (OP.call rfl (zAq (vs := [(PV b1 0), (IV 100)]) zA6 ⟨rfl, rfl, trivial⟩) (zAu _ (Src.mk a0.code aA.2.1 aA.2.2) (hL.exZ 4 3 (by decide) rfl rfl h3) (hL.get 3 rfl) 100 bX) ?_)
         rintro fC eA ⟨rfl, bY⟩
         refine ⟨_, rfl, ?_⟩
         have hL := hL.mut 3 rfl bY
         simp only [lA, lB, lC, lD] at hL
         refine OV (IV (w64 (1 + aH.1))) rfl (zBe rfl rfl) <| OV (PV aE 3) rfl (zAc (fsz := 1) 0 3 3 U49 rfl zAf rfl aF rfl) ?_
         refine zAa (zEt (cs' := #[(IV aB.1), (IV aC.1), (IV (w64 (1 + aA.1))), (IV (w64 (1 + aH.1)))]) hL 0 rfl zAf rfl rfl rfl rfl rfl ?_)
         intro eB hL
         refine OW.nil ?_
         exact ⟨(aH.2.1, aH.2.2, w64 (1 + aH.1)), hm, ⟨aK, aF, hL⟩⟩
       refine zAt ?_
       exact ⟨(aA.2.1, aA.2.2, 0), hm, ⟨aK, aF, hL⟩⟩
     intro s_j2 fD eC hJ hm
     unfold zCu at hm
     obtain ⟨cI, cJ, hL⟩ := hJ
     exact ⟨(s_j2.1, s_j2.2.1, s_j2.2.2), hm, ⟨cI, cJ, hL⟩⟩
   intro s_j1 fE eD hJ hm
   unfold zHj at hm
   obtain ⟨aY, cK, hL⟩ := hJ
   refine CSR <| OV (.agg #[(IV aB.1), (IV aC.1), (IV (w64 (1 + aA.1))), (IV s_j1.2.2)]) rfl (zAW (cs := [(IV aB.1), (IV aC.1), (IV (w64 (1 + aA.1))), (IV s_j1.2.2)]) U49 zAX rfl cK (hL.cellsB 0 rfl (o := 0) (l := [(IV aB.1), (IV aC.1), (IV (w64 (1 + aA.1))), (IV s_j1.2.2)]) (by intro j u hj; exact (by simpa using hj)))) ?_
   refine zAa (zA9 (l := [(IV aB.1), (IV aC.1), (IV (w64 (1 + aA.1))), (IV s_j1.2.2)]) (cs' := #[(IV aB.1), (IV aC.1), (IV (w64 (1 + aA.1))), (IV s_j1.2.2)]) hL 1 rfl zAX aY rfl (fc ⟨rfl, (fc ⟨rfl, (fc ⟨rfl, (fc ⟨rfl, fz⟩)⟩)⟩)⟩) rfl (nle rfl) rfl ?_)
   intro eE hL
   refine OW.nil <| zAx ?_
   obtain rfl := oi hm
   exact RRc rfl aY (zCN U49 zAX (hL.get 1 rfl) rfl) ⟨rfl, hL.mutOut 4 rfl [3] (by decide) (by decide) rfl⟩
 refine zAI (listed' := (bma 17 65535)) (fuel' := 1) (fun F w => ∃ aM, F 0 = (PV b1 0) ∧ F 4 = (PV aD 0) ∧ F 5 = (PV aM 0) ∧ F 20 = (.agg #[(IV aB.1), (IV aC.1), (IV (w64 (1 + aA.1))), (IV 0)]) ∧ Hp w0 [Ent.blk aM 49 #[(IV 0), (IV 0), (IV 0), (IV 0)], Ent.blk aD 49 #[(IV 0), (IV 0), (IV 0), (IV 0)], Ent.blk b8 38 #[(IV a1.Boats), (IV a1.Scheme), v5], Ent.blk b1 92 #[v2, (IV aA.2.1), (IV aA.2.2)], zAS w0 (Ent.blk b1 92 #[v2, .int .i64 a0.at_, .int .i64 a0.seed]).S] w) ?_ (fun aZ => ?_)
 · intro fF eF hJ
   obtain ⟨aM, cM, cN, bA, cO, hL⟩ := hJ
   refine zAT 16 rfl (by kernel_rfl) (zA9 (l := [(IV aB.1), (IV aC.1), (IV (w64 (1 + aA.1))), (IV 0)]) (cs' := #[(IV aB.1), (IV aC.1), (IV (w64 (1 + aA.1))), (IV 0)]) hL 0 rfl zAX bA rfl (fc ⟨rfl, (fc ⟨rfl, (fc ⟨rfl, (fc ⟨rfl, fz⟩)⟩)⟩)⟩) cO (nle rfl) rfl ?_)
   intro eG hL
   refine ⟨(hL.sl [1, 2, 4] rfl), ?_⟩
   exact zAm (listed' := (bma 17 131071)) (by kernel_rfl) (cF _ _ ⟨aM, cM, cN, bA, hL⟩)
 refine zAI (listed' := (bma 17 32767)) (fuel' := 2) (fun F w => F 0 = (PV b1 0) ∧ F 4 = (PV aD 0) ∧ F 20 = (.agg #[(IV aB.1), (IV aC.1), (IV (w64 (1 + aA.1))), (IV 0)]) ∧ Hp w0 [Ent.blk aD 49 #[(IV 0), (IV 0), (IV 0), (IV 0)], Ent.blk b8 38 #[(IV a1.Boats), (IV a1.Scheme), v5], Ent.blk b1 92 #[v2, (IV aA.2.1), (IV aA.2.2)], zAS w0 (Ent.blk b1 92 #[v2, .int .i64 a0.at_, .int .i64 a0.seed]).S] w) ?_ (fun cP => ?_)
 · intro fG eH hJ
   obtain ⟨cQ, cR, cS, hL⟩ := hJ
   refine zAT 15 rfl (by kernel_rfl) (zBb (cs := #[(IV 0), (IV 0), (IV 0), (IV 0)]) hL zAX rfl rfl ?_)
   intro eI cT hL
   refine ⟨(hL.sl [1, 2, 4] rfl), ?_⟩
   exact zAm (listed' := (bma 17 65535)) (by kernel_rfl) (aZ _ _ ⟨cT, cQ, cR, rfl, cS, hL⟩)
 refine zAI (listed' := (bma 17 36863)) (fuel' := 4) (fun F w => ∃ aN, F 0 = (PV b1 0) ∧ F 4 = (PV aD 0) ∧ F 5 = (PV aN 0) ∧ F 11 = (IV aB.1) ∧ F 16 = (IV aC.1) ∧ F 17 = (PV b1 0) ∧ Hp w0 [Ent.blk aN 49 #[(IV 0), (IV 0), (IV 0), (IV 0)], Ent.blk aD 49 #[(IV 0), (IV 0), (IV 0), (IV 0)], Ent.blk b8 38 #[(IV a1.Boats), (IV a1.Scheme), v5], Ent.blk b1 92 #[v2, (IV aC.2.1), (IV aC.2.2)], zAS w0 (Ent.blk b1 92 #[v2, .int .i64 a0.at_, .int .i64 a0.seed]).S] w) ?_ (fun bB => ?_)
 · intro fH eJ hJ
   obtain ⟨aN, cU, cV, cW, cX, cY, cZ, hL⟩ := hJ
   refine zAT 12 rfl (by kernel_rfl) (OP.call rfl (zAq (vs := [(PV b1 0), (IV 3)]) zA6 ⟨cZ, rfl, trivial⟩) (zAu _ (Src.mk a0.code aC.2.1 aC.2.2) (hL.exZ 4 3 (by decide) rfl rfl h3) (hL.get 3 rfl) 3 aV) ?_)
   rintro fI eK ⟨rfl, bZ⟩
   refine ⟨_, rfl, ?_⟩
   have hL := hL.mut 3 rfl bZ
   simp only [lA, lB, lC, lD] at hL
   refine ⟨(hL.sl [1, 2, 4] rfl), ?_⟩
   have hS := (hL.sl [1, 2, 4] rfl)
   refine zAw 13 rfl (by kernel_rfl) rfl rfl hS (zAp (v := (IV (w64 (1 + aA.1)))) (fun w' hS' => zBe rfl rfl)) ?_
   have hS := (hL.sl [1, 2, 4] rfl)
   refine zAw 14 rfl (by kernel_rfl) rfl rfl hS (zAp (v := (.agg #[(IV aB.1), (IV aC.1), (IV (w64 (1 + aA.1))), (IV 0)])) (fun w' hS' => zCB zKZ (ps := [(0, (IV aB.1)), (1, (IV aC.1)), (2, (IV (w64 (1 + aA.1))))]) ⟨⟨rfl, cX⟩, ⟨rfl, cY⟩, ⟨rfl, rfl⟩, trivial⟩ (by simp [Instr.fill, zBJ, zBA, zBi, zBK, zBo, zBc]))) ?_
   exact zAm (listed' := (bma 17 65535)) (by kernel_rfl) (aZ _ _ ⟨aN, cU, cV, cW, rfl, hL⟩)
 refine zAI (listed' := (bma 17 4095)) (fuel' := 5) (fun F w => F 0 = (PV b1 0) ∧ F 4 = (PV aD 0) ∧ F 11 = (IV aB.1) ∧ F 16 = (IV aC.1) ∧ F 17 = (PV b1 0) ∧ Hp w0 [Ent.blk aD 49 #[(IV 0), (IV 0), (IV 0), (IV 0)], Ent.blk b8 38 #[(IV a1.Boats), (IV a1.Scheme), v5], Ent.blk b1 92 #[v2, (IV aC.2.1), (IV aC.2.2)], zAS w0 (Ent.blk b1 92 #[v2, .int .i64 a0.at_, .int .i64 a0.seed]).S] w) ?_ (fun dA => ?_)
 · intro fJ eL hJ
   obtain ⟨bC, bD, bE, bF, bG, hL⟩ := hJ
   refine DH.all (rs := [12, 15]) (by kernel_rfl) (by simp) ?_
   intro fK aO
   simp only [List.mem_cons, List.not_mem_nil, or_false] at aO
   rcases aO with rfl | rfl
   · refine ⟨_, rfl, ?_⟩
     refine OP.call rfl (zAq (vs := [(PV b1 0), (IV 3)]) zA6 ⟨bG, rfl, trivial⟩) (zAu _ (Src.mk a0.code aC.2.1 aC.2.2) (hL.exZ 3 2 (by decide) rfl rfl h3) (hL.get 2 rfl) 3 aV) ?_
     rintro fL eM ⟨rfl, cA⟩
     refine ⟨_, rfl, ?_⟩
     have hL := hL.mut 2 rfl cA
     simp only [lA, lB, lC, lD] at hL
     refine ⟨(hL.sl [0, 1, 3] rfl), ?_⟩
     have hS := (hL.sl [0, 1, 3] rfl)
     refine zAw 13 rfl (by kernel_rfl) rfl rfl hS (zAp (v := (IV (w64 (1 + aA.1)))) (fun w' hS' => zBe rfl rfl)) ?_
     have hS := (hL.sl [0, 1, 3] rfl)
     refine zAw 14 rfl (by kernel_rfl) rfl rfl hS (zAp (v := (.agg #[(IV aB.1), (IV aC.1), (IV (w64 (1 + aA.1))), (IV 0)])) (fun w' hS' => zCB zKZ (ps := [(0, (IV aB.1)), (1, (IV aC.1)), (2, (IV (w64 (1 + aA.1))))]) ⟨⟨rfl, bE⟩, ⟨rfl, bF⟩, ⟨rfl, rfl⟩, trivial⟩ (by simp [Instr.fill, zBJ, zBA, zBi, zBK, zBo, zBc]))) ?_
     exact zAm (listed' := (bma 17 32767)) (by kernel_rfl) (cP _ _ ⟨bC, bD, rfl, hL⟩)
   refine ⟨_, rfl, ?_⟩
   refine zBb (cs := #[(IV 0), (IV 0), (IV 0), (IV 0)]) hL zAX rfl rfl ?_
   intro eN dB hL
   refine ⟨(hL.sl [1, 2, 4] rfl), ?_⟩
   exact zAm (listed' := (bma 17 36863)) (by kernel_rfl) (bB _ _ ⟨dB, bC, bD, rfl, bE, bF, bG, hL⟩)
 refine zAI (listed' := (bma 17 35839)) (fuel' := 5) (fun F w => ∃ aP, F 0 = (PV b1 0) ∧ F 4 = (PV aD 0) ∧ F 5 = (PV aP 0) ∧ F 11 = (IV aB.1) ∧ F 12 = (PV b1 0) ∧ F 15 = (IV (max 1 a1.Boats)) ∧ F 17 = (PV b1 0) ∧ Hp w0 [Ent.blk aP 49 #[(IV 0), (IV 0), (IV 0), (IV 0)], Ent.blk aD 49 #[(IV 0), (IV 0), (IV 0), (IV 0)], Ent.blk b8 38 #[(IV a1.Boats), (IV a1.Scheme), v5], Ent.blk b1 92 #[v2, (IV aB.2.1), (IV aB.2.2)], zAS w0 (Ent.blk b1 92 #[v2, .int .i64 a0.at_, .int .i64 a0.seed]).S] w) ?_ (fun bH => ?_)
 · intro fM eO hJ
   obtain ⟨aP, dC, dD, dE, dF, dG, dH, dI, hL⟩ := hJ
   refine zAT 10 rfl (by kernel_rfl) (OP.call rfl (zAq (vs := [(PV b1 0), (IV (max 1 a1.Boats))]) zA6 ⟨dG, dH, trivial⟩) (zAu _ (Src.mk a0.code aB.2.1 aB.2.2) (hL.exZ 4 3 (by decide) rfl rfl h3) (hL.get 3 rfl) (max 1 a1.Boats) aU) ?_)
   rintro fN eP ⟨rfl, cB⟩
   refine ⟨_, rfl, ?_⟩
   have hL := hL.mut 3 rfl cB
   simp only [lA, lB, lC, lD] at hL
   refine ⟨(hL.sl [1, 2, 4] rfl), ?_⟩
   exact zAm (listed' := (bma 17 36863)) (by kernel_rfl) (bB _ _ ⟨aP, dC, dD, dE, dF, rfl, dI, hL⟩)
 refine zAI (listed' := (bma 17 3071)) (fuel' := 6) (fun F w => F 0 = (PV b1 0) ∧ F 4 = (PV aD 0) ∧ F 11 = (IV aB.1) ∧ F 12 = (PV b1 0) ∧ F 15 = (IV (max 1 a1.Boats)) ∧ F 17 = (PV b1 0) ∧ Hp w0 [Ent.blk aD 49 #[(IV 0), (IV 0), (IV 0), (IV 0)], Ent.blk b8 38 #[(IV a1.Boats), (IV a1.Scheme), v5], Ent.blk b1 92 #[v2, (IV aB.2.1), (IV aB.2.2)], zAS w0 (Ent.blk b1 92 #[v2, .int .i64 a0.at_, .int .i64 a0.seed]).S] w) ?_ (fun dJ => ?_)
 · intro fO eQ hJ
   obtain ⟨bI, bJ, bK, bL, bM, bN, hL⟩ := hJ
   refine DH.all (rs := [10, 15]) (by kernel_rfl) (by simp) ?_
   intro fP aQ
   simp only [List.mem_cons, List.not_mem_nil, or_false] at aQ
   rcases aQ with rfl | rfl
   · refine ⟨_, rfl, ?_⟩
     refine OP.call rfl (zAq (vs := [(PV b1 0), (IV (max 1 a1.Boats))]) zA6 ⟨bL, bM, trivial⟩) (zAu _ (Src.mk a0.code aB.2.1 aB.2.2) (hL.exZ 3 2 (by decide) rfl rfl h3) (hL.get 2 rfl) (max 1 a1.Boats) aU) ?_
     rintro fQ eR ⟨rfl, cC⟩
     refine ⟨_, rfl, ?_⟩
     have hL := hL.mut 2 rfl cC
     simp only [lA, lB, lC, lD] at hL
     refine ⟨(hL.sl [0, 1, 3] rfl), ?_⟩
     exact zAm (listed' := (bma 17 4095)) (by kernel_rfl) (dA _ _ ⟨bI, bJ, bK, rfl, bN, hL⟩)
   refine ⟨_, rfl, ?_⟩
   refine zBb (cs := #[(IV 0), (IV 0), (IV 0), (IV 0)]) hL zAX rfl rfl ?_
   intro eS dK hL
   refine ⟨(hL.sl [1, 2, 4] rfl), ?_⟩
   exact zAm (listed' := (bma 17 35839)) (by kernel_rfl) (bH _ _ ⟨dK, bI, bJ, rfl, bK, bL, bM, bN, hL⟩)
 refine zAI (listed' := (bma 17 35807)) (fuel' := 6) (fun F w => ∃ aR, F 0 = (PV b1 0) ∧ F 4 = (PV aD 0) ∧ F 5 = (PV aR 0) ∧ F 6 = (PV b1 0) ∧ F 10 = (IV (max 1 (a1.Races.length : Int))) ∧ F 12 = (PV b1 0) ∧ F 15 = (IV (max 1 a1.Boats)) ∧ F 17 = (PV b1 0) ∧ Hp w0 [Ent.blk aR 49 #[(IV 0), (IV 0), (IV 0), (IV 0)], Ent.blk aD 49 #[(IV 0), (IV 0), (IV 0), (IV 0)], Ent.blk b8 38 #[(IV a1.Boats), (IV a1.Scheme), v5], Ent.blk b1 92 #[v2, (IV a0.at_), (IV a0.seed)], zAS w0 (Ent.blk b1 92 #[v2, .int .i64 a0.at_, .int .i64 a0.seed]).S] w) ?_ (fun dL => ?_)
 · intro fR eT hJ
   obtain ⟨aR, dM, dN, dO, dP, dQ, dR, dS, dT, hL⟩ := hJ
   refine zAT 5 rfl (by kernel_rfl) (OP.call rfl (zAq (vs := [(PV b1 0), (IV (max 1 (a1.Races.length : Int)))]) zA6 ⟨dP, dQ, trivial⟩) (zAu _ (Src.mk a0.code a0.at_ a0.seed) (hL.exZ 4 3 (by decide) rfl rfl h3) (hL.get 3 rfl) (max 1 (a1.Races.length : Int)) aT) ?_)
   rintro fS eU ⟨rfl, cD⟩
   refine ⟨_, rfl, ?_⟩
   have hL := hL.mut 3 rfl cD
   simp only [lA, lB, lC, lD] at hL
   refine ⟨(hL.sl [1, 2, 4] rfl), ?_⟩
   exact zAm (listed' := (bma 17 35839)) (by kernel_rfl) (bH _ _ ⟨aR, dM, dN, dO, rfl, dR, dS, dT, hL⟩)
 refine DH.all (rs := [5, 15]) (by kernel_rfl) (by simp) ?_
 intro fT aS
 simp only [List.mem_cons, List.not_mem_nil, or_false] at aS
 rcases aS with rfl | rfl
 · refine ⟨_, rfl, ?_⟩
   refine OP.call rfl (zAq (vs := [(PV b1 0), (IV (max 1 (a1.Races.length : Int)))]) zA6 ⟨rfl, rfl, trivial⟩) (zAu _ (Src.mk a0.code a0.at_ a0.seed) (hL.exZ 3 2 (by decide) rfl rfl h3) (hL.get 2 rfl) (max 1 (a1.Races.length : Int)) aT) ?_
   rintro fU eV ⟨rfl, cE⟩
   refine ⟨_, rfl, ?_⟩
   have hL := hL.mut 2 rfl cE
   simp only [lA, lB, lC, lD] at hL
   refine ⟨(hL.sl [0, 1, 3] rfl), ?_⟩
   exact zAm (listed' := (bma 17 3071)) (by kernel_rfl) (dJ _ _ ⟨rfl, rfl, rfl, rfl, rfl, rfl, hL⟩)
 refine ⟨_, rfl, ?_⟩
 refine zBb (cs := #[(IV 0), (IV 0), (IV 0), (IV 0)]) hL zAX rfl rfl ?_
 intro eW dU hL
 refine ⟨(hL.sl [1, 2, 4] rfl), ?_⟩
 exact zAm (listed' := (bma 17 35807)) (by kernel_rfl) (dL _ _ ⟨dU, rfl, rfl, rfl, rfl, rfl, rfl, rfl, rfl, hL⟩)

end Go.Proofs.YtmmkkcmliofknaaGreatDoor
