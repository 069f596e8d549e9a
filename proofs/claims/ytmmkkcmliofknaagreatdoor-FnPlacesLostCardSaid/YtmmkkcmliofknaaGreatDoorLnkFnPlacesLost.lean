/- Links: each Go function returns what its model computes and leaves what was there. Printed by my generator. -/
import Derived.Test.YtmmkkcmliofknaaGreatDoorLnkFnPlacesLostD
namespace Go.Proofs.YtmmkkcmliofknaaGreatDoor
set_option maxRecDepth 10000
open Go Go.RowKit Go.ChangeShapes Go.WideShapes
set_option linter.unusedVariables false
set_option linter.unusedSimpArgs false

theorem zL5 (w0 : World) {b1 : Nat} {v2 : Value} (a0 : Src) (h3 : rdL (fun k => k < w0.heap.size ∧ ¬ (Ent.blk b1 92 #[v2, .int .i64 a0.at_, .int .i64 a0.seed]).S k) w0 v2 a0.code) (he4 : (Ent.blk b1 92 #[v2, .int .i64 a0.at_, .int .i64 a0.seed]).H w0) {r : (Int × Int × (List Statement)) × (Int × Int)} (hm : zJh a0 = some r) :
    Calls Tryz.prog 50 #[(PV b1 0)] w0 fun e w' => ∃ (rv0 : Value) (rS0 : Nat → Prop), e = .returned (.tuple #[(IV r.1.1), (IV r.1.2.1), rv0]) ∧ Mut w0 w' (Ent.blk b1 92 #[v2, .int .i64 a0.at_, .int .i64 a0.seed]).S [Ent.blk b1 92 #[v2, .int .i64 r.2.1, .int .i64 r.2.2], Ent.own 108 rS0 rv0 r.1.2.2] := by
 unfold zJh at hm
 refine zAD (args := [(PV b1 0)]) Tryz.func50 rfl rfl rfl ?_
 have hL := zDc he4
 refine CSR <| OV (IV 0) rfl (zAb) <| OV (IV 0) rfl (zAb) <| OV (.slice none 0 0) rfl (zAb) <| ONR <| OV (PV b1 0) rfl (zAe) ?_
 obtain ⟨x5, hx6, hm⟩ := zAs hm
 refine zAa (OP.call rfl (zAq (vs := [(PV b1 0), (IV 5)]) zA6 ⟨rfl, rfl, trivial⟩) (zAu _ (Src.mk a0.code a0.at_ a0.seed) (hL.exZ 1 0 (by decide) rfl rfl h3) (hL.get 0 rfl) 5 hx6) ?_)
 rintro e7 wd8 ⟨rfl, hF9⟩
 refine ⟨_, rfl, ?_⟩
 have hL := hL.mut 0 rfl hF9
 simp only [lA, lB, lC, lD] at hL
 refine OV (IV x5.1) rfl (zAb) <| ONR <| OV (IV x5.1) rfl (zAe) <| OV (IV (w64 (x5.1 + 1))) rfl (zBe rfl rfl) <| OV (PV b1 0) rfl (zAe) ?_
 obtain ⟨aD, xY, hm⟩ := zAs hm
 refine zAa (OP.call rfl (zAq (vs := [(PV b1 0), (IV 4)]) zA6 ⟨rfl, rfl, trivial⟩) (zAu _ (Src.mk a0.code x5.2.1 x5.2.2) (hL.exZ 1 0 (by decide) rfl rfl h3) (hL.get 0 rfl) 4 xY) ?_)
 rintro e12 aEx ⟨rfl, xZ⟩
 refine ⟨_, rfl, ?_⟩
 have hL := hL.mut 0 rfl xZ
 simp only [lA, lB, lC, lD] at hL
 refine OV (IV (w64 ((w64 (x5.1 + 1)) + aD.1))) rfl (zBe rfl rfl) <| OV (IV ((w64 ((w64 (x5.1 + 1)) + aD.1)).tmod 5)) rfl (zNv rfl rfl (by decide)) <| OV (IV ((w64 ((w64 (x5.1 + 1)) + aD.1)).tmod 5)) rfl (zAb) <| ONR ?_
 refine zAa (zBS ([] : List Statement) hL U70 zBz rfl (by decide) (by first | (simp [Instr.fill, madeCells, Value.cells, ev, upd, Flat.enc, Flat.sz]; done) | rfl | kernel_rfl) rfl rfl ?_)
 intro aEy xX yC hL
 refine OV xX rfl (zAb) <| ONS <| CSR <| OV (PV b1 0) rfl (zAe) ?_
 obtain ⟨yD, yA, hm⟩ := zAs hm
 refine zAa (OP.call rfl (zAq (vs := [(PV b1 0), (IV 14)]) zA6 ⟨rfl, rfl, trivial⟩) (zAu _ (Src.mk a0.code aD.2.1 aD.2.2) (hL.exZ 2 1 (by decide) rfl rfl h3) (hL.get 1 rfl) 14 yA) ?_)
 rintro e20 aEz ⟨rfl, yB⟩
 refine ⟨_, rfl, ?_⟩
 have hL := hL.mut 1 rfl yB
 simp only [lA, lB, lC, lD] at hL
 refine OV (IV yD.1) rfl (zAb) <| OW.nil ?_
 obtain ⟨aBu, oG, hm⟩ := zAs hm
 refine zAU (fun (s_l1 : Int × Int × (List Statement) × Int) F w => ∃ aB aF, F 0 = (PV b1 0) ∧ F 5 = (IV x5.1) ∧ F 6 = (IV ((w64 ((w64 (x5.1 + 1)) + aD.1)).tmod 5)) ∧ F 7 = aB ∧ F 8 = (IV s_l1.2.2.2) ∧ Hp w0 [Ent.own 108 aF aB s_l1.2.2.1, Ent.blk b1 92 #[v2, (IV s_l1.1), (IV s_l1.2.1)], zAS w0 (Ent.blk b1 92 #[v2, .int .i64 a0.at_, .int .i64 a0.seed]).S] w) (fun o => zBh o (fun x => some x) (fun s => zGY a0 x5 aD s) = some r) oG hm ⟨xX, yC, rfl, rfl, rfl, rfl, rfl, hL⟩ ?_ ?_
 · intro s_l1 aBv yE hJ hm
   have hm := zBD hm
   have hm : zGY a0 x5 aD s_l1 = some r := hm
   unfold zGY at hm
   obtain ⟨aB, aF, eH, iO, iP, eI, aBw, hL⟩ := hJ
   refine zAM (fun (s_j1 : Int × Int × (List Statement)) F w => ∃ bY, F 0 = (PV b1 0) ∧ F 5 = (IV x5.1) ∧ F 6 = (IV ((w64 ((w64 (x5.1 + 1)) + aD.1)).tmod 5)) ∧ F 7 = aB ∧ Hp w0 [Ent.own 108 bY aB s_j1.2.2, Ent.blk b1 92 #[v2, (IV s_j1.1), (IV s_j1.2.1)], zAS w0 (Ent.blk b1 92 #[v2, .int .i64 a0.at_, .int .i64 a0.seed]).S] w) (fun s_j1 => zGW a0 x5 aD s_j1 = some r) ?_ ?_
   · refine zAM (fun (s_j3 : Int × Int × Bool) F w => F 0 = (PV b1 0) ∧ F 5 = (IV x5.1) ∧ F 6 = (IV ((w64 ((w64 (x5.1 + 1)) + aD.1)).tmod 5)) ∧ F 7 = aB ∧ F 65 = (.bool s_j3.2.2) ∧ Hp w0 [Ent.own 108 aF aB s_l1.2.2.1, Ent.blk b1 92 #[v2, (IV s_j3.1), (IV s_j3.2.1)], zAS w0 (Ent.blk b1 92 #[v2, .int .i64 a0.at_, .int .i64 a0.seed]).S] w) (fun s_j3 => zGX a0 x5 aD s_l1 s_j3 = some r) ?_ ?_
     · refine zAl <| OV aB rfl (zAo eI) <| OV (IV (s_l1.2.2.1.length : Int)) rfl (zA3 U70 rfl (hL.rdO 0 rfl)) <| OV (.bool (decide (0 < (s_l1.2.2.1.length : Int)))) rfl (zIq rfl rfl) <| OV (.bool (decide (0 < (s_l1.2.2.1.length : Int)))) rfl (zAe) ?_
       refine zAH hm (fun aL hm => ?_) (fun aL hm => ?_)
       · refine zAa (zAj rfl rfl aL (zAk (v := (PV b1 0)) rfl (zAo eH) ?_))
         obtain ⟨aY, oH, hm⟩ := zAs hm
         refine zAa (zAj rfl rfl aL (OP.call rfl (zAq (vs := [(PV b1 0), (IV 16)]) zA6 ⟨rfl, rfl, trivial⟩) (zAu _ (Src.mk a0.code s_l1.1 s_l1.2.1) (hL.exZ 2 1 (by decide) rfl rfl h3) (hL.get 1 rfl) 16 oH) ?_))
         rintro aBx yF ⟨rfl, oI⟩
         refine ⟨_, rfl, ?_⟩
         have hL := hL.mut 1 rfl oI
         simp only [lA, lB, lC, lD] at hL
         refine zAa (zAj rfl rfl aL (zAk (v := (.bool (aY.1 == 0))) rfl (zBv rfl rfl) ?_))
         refine OV (.bool (aY.1 == 0)) rfl (zAz rfl aL rfl) <| OW.nil ?_
         exact ⟨(aY.2.1, aY.2.2, aY.1 == 0), hm, ⟨eH, iO, iP, eI, rfl, hL⟩⟩
       refine zAa (zAh rfl rfl aL rfl ?_)
       refine zAa (zAh rfl rfl aL rfl ?_)
       refine zAa (zAh rfl rfl aL rfl ?_)
       refine OV (.bool false) rfl (zAA rfl aL rfl) <| OW.nil ?_
       exact ⟨(s_l1.1, s_l1.2.1, false), hm, ⟨eH, iO, iP, eI, rfl, hL⟩⟩
     intro s_j3 aBy yG hJ hm
     unfold zGX at hm
     obtain ⟨aT, aZ, bA, aP, rE, hL⟩ := hJ
     refine zAn (t := s_j3.2.2) rE hm (fun oJ hm => ?_) (fun oJ hm => ?_)
     · refine CSR <| OV (PV b1 0) rfl (zAo aT) <| OV aB rfl (zAo aP) <| OV (IV (s_l1.2.2.1.length : Int)) rfl (zA3 U70 rfl (hL.rdO 0 rfl)) ?_
       obtain ⟨aQ, oK, hm⟩ := zAs hm
       refine zAa (OP.call rfl (zAq (vs := [(PV b1 0), (IV (s_l1.2.2.1.length : Int))]) zA6 ⟨rfl, rfl, trivial⟩) (zAu _ (Src.mk a0.code s_j3.1 s_j3.2.1) (hL.exZ 2 1 (by decide) rfl rfl h3) (hL.get 1 rfl) (s_l1.2.2.1.length : Int) oK) ?_)
       rintro aBz yH ⟨rfl, oL⟩
       refine ⟨_, rfl, ?_⟩
       have hL := hL.mut 1 rfl oL
       simp only [lA, lB, lC, lD] at hL
       refine OV (IV aQ.1) rfl (zAb) <| ONR <| OV (PV b1 0) rfl (zAo aT) ?_
       obtain ⟨aJ, oM, hm⟩ := zAs hm
       refine zAa (OP.call rfl (zAq (vs := [(PV b1 0), (IV 3)]) zA6 ⟨rfl, rfl, trivial⟩) (zAu _ (Src.mk a0.code aQ.2.1 aQ.2.2) (hL.exZ 2 1 (by decide) rfl rfl h3) (hL.get 1 rfl) 3 oM) ?_)
       rintro aCa yI ⟨rfl, oN⟩
       refine ⟨_, rfl, ?_⟩
       have hL := hL.mut 1 rfl oN
       simp only [lA, lB, lC, lD] at hL
       refine OW.nil ?_
       refine zBG (fun (s_j4 : (List Statement)) F w => ∃ eJ, F 0 = (PV b1 0) ∧ F 5 = (IV x5.1) ∧ F 6 = (IV ((w64 ((w64 (x5.1 + 1)) + aD.1)).tmod 5)) ∧ F 7 = aB ∧ Hp w0 [Ent.own 108 eJ aB s_j4, Ent.blk b1 92 #[v2, (IV aJ.2.1), (IV aJ.2.2)], zAS w0 (Ent.blk b1 92 #[v2, .int .i64 a0.at_, .int .i64 a0.seed]).S] w) (fun s_j4 => zFj a0 x5 aD aJ s_j4 = some r) ?_ ?_
       · refine CSR <| OV (.bool (aJ.1 == 0)) rfl (zBv rfl rfl) <| OV (.bool (aJ.1 == 0)) rfl (zAb) <| OW.nil ?_
         refine zAn (t := aJ.1 == 0) rfl hm (fun oO hm => ?_) (fun oO hm => ?_)
         · refine zAl <| OV aB rfl (zAo aP) <| OV (IV aQ.1) rfl (zAe) ?_
           obtain ⟨bZ, oP, hm⟩ := zAs hm
           obtain ⟨oQ, hE⟩ := zAZ oP
           obtain ⟨iQ, cA, dT⟩ := zAC (hL.rdO 0 rfl) oQ hE
           refine OV (.pointer (some ⟨iQ, cA, none⟩)) rfl (zA1 U70 zBz rfl rfl dT) <| OV (.pointer (some ⟨iQ, cA + 2, none⟩)) rfl (zAc (fsz := 1) cA 2 (cA + 2) zLq rfl zAf rfl rfl rfl) ?_
           refine zAa (zBV (j := 2) (Statement.mk bZ.Speaker bZ.Fact 0) hL 0 rfl zAf dT hE rfl rfl rfl rfl rfl rfl ?_)
           intro yJ hL
           refine OW.nil ?_
           exact ⟨s_l1.2.2.1.set (aQ.1 : Int).toNat (Statement.mk bZ.Speaker bZ.Fact 0), hm, ⟨aF, aT, aZ, bA, aP, hL⟩⟩
         refine CSR <| OV (.bool (aJ.1 == 1)) rfl (zBv rfl rfl) <| OV (.bool (aJ.1 == 1)) rfl (zAb) <| OW.nil ?_
         refine zAn (t := aJ.1 == 1) rfl hm (fun oR hm => ?_) (fun oR hm => ?_)
         · refine zAl <| OV aB rfl (zAo aP) <| OV (IV aQ.1) rfl (zAe) ?_
           obtain ⟨cB, oS, hm⟩ := zAs hm
           obtain ⟨oT, hF⟩ := zAZ oS
           obtain ⟨iR, cC, dU⟩ := zAC (hL.rdO 0 rfl) oT hF
           refine OV (.pointer (some ⟨iR, cC, none⟩)) rfl (zA1 U70 zBz rfl rfl dU) <| OV (.pointer (some ⟨iR, cC + 1, none⟩)) rfl (zAc (fsz := 1) cC 1 (cC + 1) zLq rfl zAf rfl rfl rfl) ?_
           refine zAa (zBV (j := 1) (Statement.mk cB.Speaker 8 cB.Says) hL 0 rfl zAf dU hF rfl rfl rfl rfl rfl rfl ?_)
           intro yK hL
           refine OW.nil ?_
           exact ⟨s_l1.2.2.1.set (aQ.1 : Int).toNat (Statement.mk cB.Speaker 8 cB.Says), hm, ⟨aF, aT, aZ, bA, aP, hL⟩⟩
         refine CSR <| OV (.bool (aJ.1 == 2)) rfl (zBv rfl rfl) <| OV (.bool (aJ.1 == 2)) rfl (zAb) <| OW.nil ?_
         refine zAn (t := aJ.1 == 2) rfl hm (fun oU hm => ?_) (fun oU hm => ?_)
         · refine zAl <| OV aB rfl (zAo aP) <| OV (IV aQ.1) rfl (zAe) ?_
           obtain ⟨cD, oV, hm⟩ := zAs hm
           obtain ⟨oW, hG⟩ := zAZ oV
           obtain ⟨iS, cE, dV⟩ := zAC (hL.rdO 0 rfl) oW hG
           refine OV (.pointer (some ⟨iS, cE, none⟩)) rfl (zA1 U70 zBz rfl rfl dV) <| OV (.pointer (some ⟨iS, cE, none⟩)) rfl (zAc (fsz := 1) cE 0 cE zLq rfl zAf rfl rfl rfl) ?_
           refine zAa (zBV (j := 0) (Statement.mk 50 cD.Fact cD.Says) hL 0 rfl zAf dV hG rfl rfl rfl rfl rfl rfl ?_)
           intro yL hL
           refine OW.nil ?_
           exact ⟨s_l1.2.2.1.set (aQ.1 : Int).toNat (Statement.mk 50 cD.Fact cD.Says), hm, ⟨aF, aT, aZ, bA, aP, hL⟩⟩
         refine zAt ?_
         exact ⟨s_l1.2.2.1, hm, ⟨aF, aT, aZ, bA, aP, hL⟩⟩
       intro s_j4 aCb yM hJ hm
       unfold zFj at hm
       obtain ⟨eJ, rF, rG, rH, rI, hL⟩ := hJ
       exact ⟨(aJ.2.1, aJ.2.2, s_j4), hm, ⟨eJ, rF, rG, rH, rI, hL⟩⟩
     refine zAt ?_
     exact ⟨(s_j3.1, s_j3.2.1, s_l1.2.2.1), hm, ⟨aF, aT, aZ, bA, aP, hL⟩⟩
   intro s_j1 aCc yN hJ hm
   unfold zGW at hm
   obtain ⟨bY, rJ, eK, rK, iT, hL⟩ := hJ
   refine zAM (fun (s_j2 : Int × Int × Int) F w => F 5 = (IV x5.1) ∧ F 6 = (IV s_j2.2.2) ∧ F 7 = aB ∧ Hp w0 [Ent.own 108 bY aB s_j1.2.2, Ent.blk b1 92 #[v2, (IV s_j2.1), (IV s_j2.2.1)], zAS w0 (Ent.blk b1 92 #[v2, .int .i64 a0.at_, .int .i64 a0.seed]).S] w) (fun s_j2 => zIj x5 s_j1 s_j2 = some r) ?_ ?_
   · refine CSR <| OV (PV b1 0) rfl (zAo rJ) ?_
     obtain ⟨aV, oX, hm⟩ := zAs hm
     refine zAa (OP.call rfl (zAq (vs := [(PV b1 0), (IV 24)]) zA6 ⟨rfl, rfl, trivial⟩) (zAu _ (Src.mk a0.code s_j1.1 s_j1.2.1) (hL.exZ 2 1 (by decide) rfl rfl h3) (hL.get 1 rfl) 24 oX) ?_)
     rintro aCd yO ⟨rfl, oY⟩
     refine ⟨_, rfl, ?_⟩
     have hL := hL.mut 1 rfl oY
     simp only [lA, lB, lC, lD] at hL
     refine OV (.bool (aV.1 == 0)) rfl (zBv rfl rfl) <| OW.nil ?_
     refine zAn (t := aV.1 == 0) rfl hm (fun oZ hm => ?_) (fun oZ hm => ?_)
     · refine zAl <| OV (IV x5.1) rfl (zAo eK) <| OV (IV x5.1) rfl (zAb) <| OW.nil ?_
       exact ⟨(aV.2.1, aV.2.2, x5.1), hm, ⟨eK, rfl, iT, hL⟩⟩
     refine zAt ?_
     exact ⟨(aV.2.1, aV.2.2, (w64 ((w64 (x5.1 + 1)) + aD.1)).tmod 5), hm, ⟨eK, rK, iT, hL⟩⟩
   intro s_j2 aCe yP hJ hm
   unfold zIj at hm
   obtain ⟨rL, rM, rN, hL⟩ := hJ
   refine CSR <| OV (IV x5.1) rfl (zAo rL) <| OV (IV s_j2.2.2) rfl (zAo rM) <| OV aB rfl (zAo rN) <| OV (IV x5.1) rfl (zAb) <| OV (IV s_j2.2.2) rfl (zAb) <| OV aB rfl (zAb) <| OW.nil <| zAx ?_
   obtain rfl := oi hm
   exact RR3 rfl rfl rfl rfl ⟨aB, bY, rfl, hL.mutOut 2 rfl [1, 0] (by decide) (by decide) rfl⟩
 intro s_l1 aCf yQ eL hJ hm yR
 unfold zG0 at hm
 obtain ⟨aB, aF, aU, bB, bC, cF, bD, hL⟩ := hJ
 refine zAF <| CSR <| OV (IV s_l1.2.2.2) rfl (zAo bD) <| OV (.bool (decide (0 < s_l1.2.2.2))) rfl (zIq rfl rfl) <| OW.nil ?_
 refine zAn (t := decide (0 < s_l1.2.2.2)) rfl hm (fun pA hm => ?_) (fun pA hm => ?_)
 · refine zAt ?_
   refine zAM (fun (s_j5 : Int × Int × (List Statement)) F w => ∃ cG eM, F 0 = (PV b1 0) ∧ F 5 = (IV x5.1) ∧ F 6 = (IV ((w64 ((w64 (x5.1 + 1)) + aD.1)).tmod 5)) ∧ F 7 = cG ∧ F 8 = (IV s_l1.2.2.2) ∧ Hp w0 [Ent.own 108 eM cG s_j5.2.2, Ent.blk b1 92 #[v2, (IV s_j5.1), (IV s_j5.2.1)], zAS w0 (Ent.blk b1 92 #[v2, .int .i64 a0.at_, .int .i64 a0.seed]).S] w) (fun s_j5 => zGZ s_l1 s_j5 = some eL) ?_ ?_
   · refine zBG (fun (s_j6 : Int × Int × (List Statement)) F w => ∃ cH eN, F 0 = (PV b1 0) ∧ F 5 = (IV x5.1) ∧ F 6 = (IV ((w64 ((w64 (x5.1 + 1)) + aD.1)).tmod 5)) ∧ F 7 = cH ∧ F 8 = (IV s_l1.2.2.2) ∧ Hp w0 [Ent.own 108 eN cH s_j6.2.2, Ent.blk b1 92 #[v2, (IV s_j6.1), (IV s_j6.2.1)], zAS w0 (Ent.blk b1 92 #[v2, .int .i64 a0.at_, .int .i64 a0.seed]).S] w) (fun s_j6 => zFk s_l1 s_j6 = some eL) ?_ ?_
     · refine zAF ?_
       refine zDG (fun w' => Hp w0 [Ent.own 108 aF aB s_l1.2.2.1, zAS w0 (Ent.blk b1 92 #[v2, .int .i64 a0.at_, .int .i64 a0.seed]).S] w') zAQ ?_
       have hL := hL.call (zA8 _)
       have hS := (hL.sl [0, 2] rfl)
       refine zAw 0 rfl (by kernel_rfl) rfl rfl hS (zAp (v := (IV x5.1)) (fun w' hS' => zAo bB)) ?_
       have hS := (hL.sl [0, 2] rfl)
       refine zAw 1 rfl (by kernel_rfl) rfl rfl hS (zAp (v := (IV ((w64 ((w64 (x5.1 + 1)) + aD.1)).tmod 5))) (fun w' hS' => zAo bC)) ?_
       have hS := (hL.sl [0, 2] rfl)
       refine zAw 3 rfl (by kernel_rfl) rfl rfl hS (zAp (v := (PV b1 0)) (fun w' hS' => zAo aU)) ?_
       have hS := (hL.sl [0, 2] rfl)
       refine zAw 7 rfl (by kernel_rfl) rfl rfl hS (zAp (v := (PV b1 0)) (fun w' hS' => zAo aU)) ?_
       have hS := (hL.sl [0, 2] rfl)
       refine zAw 9 rfl (by kernel_rfl) rfl rfl hS (zAp (v := (PV b1 0)) (fun w' hS' => zAo aU)) ?_
       obtain ⟨aG, bE, hm⟩ := zAs hm
       obtain ⟨aE, aI, hm⟩ := zAs hm
       obtain ⟨aC, aR, hm⟩ := zAs hm
       obtain ⟨aA, aS, hm⟩ := zAs hm
       refine zAI (listed' := (bma 16 65535)) (fuel' := 0) (fun F w => ∃ aH aN aO, F 0 = (PV b1 0) ∧ F 5 = (IV x5.1) ∧ F 6 = (IV ((w64 ((w64 (x5.1 + 1)) + aD.1)).tmod 5)) ∧ F 7 = aB ∧ F 8 = (IV s_l1.2.2.2) ∧ F 9 = (PV aH 0) ∧ Hp w0 [Ent.blk aH 108 #[(IV aE), (IV aC.1), (IV (w64 ((w64 (2 * aA.1)) - 1)))], Ent.own 2 aO aN ([x5.1, (w64 ((w64 (x5.1 + 1)) + aD.1)).tmod 5, 100, 101, 199] : List Int), Ent.own 108 aF aB s_l1.2.2.1, Ent.blk b1 92 #[v2, (IV aA.2.1), (IV aA.2.2)], zAS w0 (Ent.blk b1 92 #[v2, .int .i64 a0.at_, .int .i64 a0.seed]).S] w) ?_ (fun pB => ?_)
       · intro aCg yS hJ
         obtain ⟨aH, aN, aO, iU, eO, eP, eQ, iV, eR, hL⟩ := hJ
         refine zDB (by kernel_rfl) ?_
         refine zAM (fun (s_j7 : Int × Int × Bool) F w => F 0 = (PV b1 0) ∧ F 5 = (IV x5.1) ∧ F 6 = (IV ((w64 ((w64 (x5.1 + 1)) + aD.1)).tmod 5)) ∧ F 7 = aB ∧ F 8 = (IV s_l1.2.2.2) ∧ F 9 = (PV aH 0) ∧ F 53 = (.bool s_j7.2.2) ∧ Hp w0 [Ent.blk aH 108 #[(IV aE), (IV aC.1), (IV (w64 ((w64 (2 * aA.1)) - 1)))], Ent.own 108 aF aB s_l1.2.2.1, Ent.blk b1 92 #[v2, (IV s_j7.1), (IV s_j7.2.1)], zAS w0 (Ent.blk b1 92 #[v2, .int .i64 a0.at_, .int .i64 a0.seed]).S] w) (fun s_j7 => zEc s_l1 aE aC aA s_j7 = some eL) ?_ ?_
         · refine zDG (fun w' => Hp w0 [Ent.blk aH 108 #[(IV aE), (IV aC.1), (IV (w64 ((w64 (2 * aA.1)) - 1)))], Ent.own 2 aO aN ([x5.1, (w64 ((w64 (x5.1 + 1)) + aD.1)).tmod 5, 100, 101, 199] : List Int), Ent.own 108 aF aB s_l1.2.2.1, zAS w0 (Ent.blk b1 92 #[v2, .int .i64 a0.at_, .int .i64 a0.seed]).S] w') zAQ ?_
           have hL := hL.call (zA8 _)
           have hS := (hL.sl [0, 1, 2, 4] rfl)
           refine zAw 0 rfl (by kernel_rfl) rfl rfl hS (zAp (v := (IV x5.1)) (fun w' hS' => zAo eO)) ?_
           have hS := (hL.sl [0, 1, 2, 4] rfl)
           refine zAw 1 rfl (by kernel_rfl) rfl rfl hS (zAp (v := (IV ((w64 ((w64 (x5.1 + 1)) + aD.1)).tmod 5))) (fun w' hS' => zAo eP)) ?_
           have hS := (hL.sl [0, 1, 2, 4] rfl)
           refine zAw 3 rfl (by kernel_rfl) rfl rfl hS (zAp (v := aB) (fun w' hS' => zAo eQ)) ?_
           have hS := (hL.sl [0, 1, 2, 4] rfl)
           refine zAw 5 rfl (by kernel_rfl) rfl rfl hS (zAp (v := (.agg #[(IV aE), (IV aC.1), (IV (w64 ((w64 (2 * aA.1)) - 1)))])) (fun w' hS' => zAW (cs := [(IV aE), (IV aC.1), (IV (w64 ((w64 (2 * aA.1)) - 1)))]) zLq zBz rfl eR (hS'.cellsB 0 rfl (o := 0) (l := [(IV aE), (IV aC.1), (IV (w64 ((w64 (2 * aA.1)) - 1)))]) (by intro j u hj; exact (by simpa using hj))))) ?_
           obtain ⟨hH, hm⟩ := zEs hm
           obtain ⟨pD, hm⟩ := zEs hm
           obtain ⟨iW, pE, hm⟩ := zAs hm
           refine zAI (listed' := (bma 14 511)) (fuel' := 5) (fun F w => ∃ iX iY iZ jA, F 0 = (PV b1 0) ∧ F 5 = (IV x5.1) ∧ F 6 = (IV ((w64 ((w64 (x5.1 + 1)) + aD.1)).tmod 5)) ∧ F 7 = aB ∧ F 8 = (IV s_l1.2.2.2) ∧ F 9 = (PV aH 0) ∧ F 48 = (.bool iW) ∧ Hp w0 [Ent.own 108 iY iX ([(Statement.mk aE aC.1 (w64 ((w64 (2 * aA.1)) - 1)))] : List Statement), Ent.own 108 jA iZ ((([] : List Statement) ++ s_l1.2.2.1) ++ ([(Statement.mk aE aC.1 (w64 ((w64 (2 * aA.1)) - 1)))] : List Statement)), Ent.blk aH 108 #[(IV aE), (IV aC.1), (IV (w64 ((w64 (2 * aA.1)) - 1)))], Ent.own 2 aO aN ([x5.1, (w64 ((w64 (x5.1 + 1)) + aD.1)).tmod 5, 100, 101, 199] : List Int), Ent.own 108 aF aB s_l1.2.2.1, Ent.blk b1 92 #[v2, (IV aA.2.1), (IV aA.2.2)], zAS w0 (Ent.blk b1 92 #[v2, .int .i64 a0.at_, .int .i64 a0.seed]).S] w) ?_ (fun pF => ?_)
           · intro aCh yT hJ
             obtain ⟨iX, iY, iZ, jA, eS, jB, jC, jD, jE, jF, rO, hL⟩ := hJ
             have hS := (hL.sl [2, 3, 4, 6] rfl)
             refine zAw 9 rfl (by kernel_rfl) rfl rfl hS (zAp (v := (.bool iW)) (fun w' hS' => zAo rO)) ?_
             have hS := (hL.sl [2, 3, 4, 6] rfl)
             refine zAH hm (fun aM hm => ?_) (fun aM hm => ?_)
             · refine zAw 10 rfl (by kernel_rfl) rfl rfl hS (zQO rfl rfl aM) ?_
               refine zAT 11 rfl (by kernel_rfl) (zAh rfl rfl aM rfl ?_)
               refine ⟨(hL.sl [2, 3, 4, 6] rfl), ?_⟩
               have hS := (hL.sl [2, 3, 4, 6] rfl)
               refine zAw 12 rfl (by kernel_rfl) rfl rfl hS (zQO rfl rfl aM) ?_
               have hS := (hL.sl [2, 3, 4, 6] rfl)
               refine zAw 13 rfl (by kernel_rfl) rfl rfl hS (zAp (v := (.bool true)) (fun w' hS' => zAz rfl aM rfl)) ?_
               refine zDB (by kernel_rfl) ?_
               have hL := hL.sl [2, 4, 5, 6] rfl
               exact ⟨(aA.2.1, aA.2.2, true), hm, ⟨eS, jB, jC, jD, jE, jF, rfl, hL⟩⟩
             refine zAw 10 rfl (by kernel_rfl) rfl rfl hS (zPE rfl rfl aM (zAp (v := (PV b1 0)) (fun w' hS' => zAo eS))) ?_
             obtain ⟨bF, pG, hm⟩ := zAs hm
             refine zAT 11 rfl (by kernel_rfl) (zAj rfl rfl aM (OP.call rfl (zAq (vs := [(PV b1 0), (IV 60)]) zA6 ⟨rfl, rfl, trivial⟩) (zAu _ (Src.mk a0.code aA.2.1 aA.2.2) (hL.exZ 6 5 (by decide) rfl rfl h3) (hL.get 5 rfl) 60 pG) ?_))
             rintro aCi yU ⟨rfl, pH⟩
             refine ⟨_, rfl, ?_⟩
             have hL := hL.mut 5 rfl pH
             simp only [lA, lB, lC, lD] at hL
             refine ⟨(hL.sl [2, 3, 4, 6] rfl), ?_⟩
             have hS := (hL.sl [2, 3, 4, 6] rfl)
             refine zAw 12 rfl (by kernel_rfl) rfl rfl hS (zPE rfl rfl aM (zAp (v := (.bool (bF.1 == 0))) (fun w' hS' => zBv rfl rfl))) ?_
             have hS := (hL.sl [2, 3, 4, 6] rfl)
             refine zAw 13 rfl (by kernel_rfl) rfl rfl hS (zAp (v := (.bool (bF.1 == 0))) (fun w' hS' => zAA rfl aM rfl)) ?_
             refine zDB (by kernel_rfl) ?_
             have hL := hL.sl [2, 4, 5, 6] rfl
             exact ⟨(bF.2.1, bF.2.2, bF.1 == 0), hm, ⟨eS, jB, jC, jD, jE, jF, rfl, hL⟩⟩
           refine zAI (listed' := (bma 14 255)) (fuel' := 6) (fun F w => ∃ eT eU bG eV, F 0 = (PV b1 0) ∧ F 5 = (IV x5.1) ∧ F 6 = (IV ((w64 ((w64 (x5.1 + 1)) + aD.1)).tmod 5)) ∧ F 7 = aB ∧ F 8 = (IV s_l1.2.2.2) ∧ F 9 = (PV aH 0) ∧ F 40 = (IV x5.1) ∧ F 41 = (IV ((w64 ((w64 (x5.1 + 1)) + aD.1)).tmod 5)) ∧ F 47 = bG ∧ Hp w0 [Ent.own 108 eU eT ([(Statement.mk aE aC.1 (w64 ((w64 (2 * aA.1)) - 1)))] : List Statement), Ent.own 108 eV bG ((([] : List Statement) ++ s_l1.2.2.1) ++ ([(Statement.mk aE aC.1 (w64 ((w64 (2 * aA.1)) - 1)))] : List Statement)), Ent.blk aH 108 #[(IV aE), (IV aC.1), (IV (w64 ((w64 (2 * aA.1)) - 1)))], Ent.own 2 aO aN ([x5.1, (w64 ((w64 (x5.1 + 1)) + aD.1)).tmod 5, 100, 101, 199] : List Int), Ent.own 108 aF aB s_l1.2.2.1, Ent.blk b1 92 #[v2, (IV aA.2.1), (IV aA.2.2)], zAS w0 (Ent.blk b1 92 #[v2, .int .i64 a0.at_, .int .i64 a0.seed]).S] w) ?_ (fun pI => ?_)
           · intro aCj yV hJ
             obtain ⟨eT, eU, bG, eV, rP, rQ, rR, rS, rT, rU, rV, rW, rX, hL⟩ := hJ
             refine zAT 8 rfl (by kernel_rfl) (OP.call rfl (zAq (vs := [(IV x5.1), (IV ((w64 ((w64 (x5.1 + 1)) + aD.1)).tmod 5)), bG]) zRF ⟨rV, rW, rX, trivial⟩) (zLS _ x5.1 ((w64 ((w64 (x5.1 + 1)) + aD.1)).tmod 5) ((([] : List Statement) ++ s_l1.2.2.1) ++ ([(Statement.mk aE aC.1 (w64 ((w64 (2 * aA.1)) - 1)))] : List Statement)) (hL.rdO 1 rfl) pE) ?_)
             rintro aCk yW ⟨rfl, pJ⟩
             refine ⟨_, rfl, ?_⟩
             have hL := hL.pushAll pJ
             simp only [lA, lB, lC, lD] at hL
             refine ⟨(hL.sl [2, 3, 4, 6] rfl), ?_⟩
             exact zAm (listed' := (bma 14 511)) (by kernel_rfl) (pF _ _ ⟨eT, eU, bG, eV, rP, rQ, rR, rS, rT, rU, rfl, hL⟩)
           refine zAI (listed' := (bma 14 127)) (fuel' := 7) (fun F w => ∃ cI eW eX jG, F 0 = (PV b1 0) ∧ F 5 = (IV x5.1) ∧ F 6 = (IV ((w64 ((w64 (x5.1 + 1)) + aD.1)).tmod 5)) ∧ F 7 = aB ∧ F 8 = (IV s_l1.2.2.2) ∧ F 9 = (PV aH 0) ∧ F 40 = (IV x5.1) ∧ F 41 = (IV ((w64 ((w64 (x5.1 + 1)) + aD.1)).tmod 5)) ∧ F 44 = eX ∧ F 46 = cI ∧ Hp w0 [Ent.own 108 eW cI ([(Statement.mk aE aC.1 (w64 ((w64 (2 * aA.1)) - 1)))] : List Statement), Ent.own 108 jG eX (([] : List Statement) ++ s_l1.2.2.1), Ent.blk aH 108 #[(IV aE), (IV aC.1), (IV (w64 ((w64 (2 * aA.1)) - 1)))], Ent.own 2 aO aN ([x5.1, (w64 ((w64 (x5.1 + 1)) + aD.1)).tmod 5, 100, 101, 199] : List Int), Ent.own 108 aF aB s_l1.2.2.1, Ent.blk b1 92 #[v2, (IV aA.2.1), (IV aA.2.2)], zAS w0 (Ent.blk b1 92 #[v2, .int .i64 a0.at_, .int .i64 a0.seed]).S] w) ?_ (fun hI => ?_)
           · intro aCl yX hJ
             obtain ⟨cI, eW, eX, jG, rY, rZ, sA, sB, sC, sD, sE, sF, sG, sH, hL⟩ := hJ
             refine zAT 7 rfl (by kernel_rfl) (zCA (ys := ([(Statement.mk aE aC.1 (w64 ((w64 (2 * aA.1)) - 1)))] : List Statement)) hL 1 rfl U70 zBz rfl sG sH (hL.rdO 0 rfl) pD (by decide) rfl ?_)
             intro yY sI sJ hL
             refine ⟨(hL.sl [2, 3, 4, 6] rfl), ?_⟩
             exact zAm (listed' := (bma 14 255)) (by kernel_rfl) (pI _ _ ⟨cI, eW, sI, sJ, rY, rZ, sA, sB, sC, sD, sE, sF, rfl, hL⟩)
           refine zAI (listed' := (bma 14 63)) (fuel' := 8) (fun F w => ∃ cJ eY, F 0 = (PV b1 0) ∧ F 5 = (IV x5.1) ∧ F 6 = (IV ((w64 ((w64 (x5.1 + 1)) + aD.1)).tmod 5)) ∧ F 7 = aB ∧ F 8 = (IV s_l1.2.2.2) ∧ F 9 = (PV aH 0) ∧ F 40 = (IV x5.1) ∧ F 41 = (IV ((w64 ((w64 (x5.1 + 1)) + aD.1)).tmod 5)) ∧ F 44 = cJ ∧ F 45 = (.agg #[(IV aE), (IV aC.1), (IV (w64 ((w64 (2 * aA.1)) - 1)))]) ∧ Hp w0 [Ent.own 108 eY cJ (([] : List Statement) ++ s_l1.2.2.1), Ent.blk aH 108 #[(IV aE), (IV aC.1), (IV (w64 ((w64 (2 * aA.1)) - 1)))], Ent.own 2 aO aN ([x5.1, (w64 ((w64 (x5.1 + 1)) + aD.1)).tmod 5, 100, 101, 199] : List Int), Ent.own 108 aF aB s_l1.2.2.1, Ent.blk b1 92 #[v2, (IV aA.2.1), (IV aA.2.2)], zAS w0 (Ent.blk b1 92 #[v2, .int .i64 a0.at_, .int .i64 a0.seed]).S] w) ?_ (fun pK => ?_)
           · intro aCm yZ hJ
             obtain ⟨cJ, eY, sK, sL, sM, sN, sO, sP, sQ, sR, sS, jH, hL⟩ := hJ
             refine zAT 6 rfl (by kernel_rfl) (zBS ([(Statement.mk aE aC.1 (w64 ((w64 (2 * aA.1)) - 1)))] : List Statement) hL U70 zBz rfl (by decide) (by first | (simp [Instr.fill, madeCells, Value.cells, ev, upd, Flat.enc, Flat.sz, jH]; done) | rfl | (simp only [List.map_toArray, List.map_cons, List.map_nil]; rw [show ev _ (Operand.tmp 45) = _ from jH]; kernel_rfl)) rfl rfl ?_)
             intro zA sT sU hL
             refine ⟨(hL.sl [2, 3, 4, 6] rfl), ?_⟩
             exact zAm (listed' := (bma 14 127)) (by kernel_rfl) (hI _ _ ⟨sT, sU, cJ, eY, sK, sL, sM, sN, sO, sP, sQ, sR, sS, rfl, hL⟩)
           refine zAI (listed' := (bma 14 111)) (fuel' := 8) (fun F w => ∃ cK eZ fA jI, F 0 = (PV b1 0) ∧ F 5 = (IV x5.1) ∧ F 6 = (IV ((w64 ((w64 (x5.1 + 1)) + aD.1)).tmod 5)) ∧ F 7 = aB ∧ F 8 = (IV s_l1.2.2.2) ∧ F 9 = (PV aH 0) ∧ F 40 = (IV x5.1) ∧ F 41 = (IV ((w64 ((w64 (x5.1 + 1)) + aD.1)).tmod 5)) ∧ F 42 = fA ∧ F 43 = aB ∧ F 46 = cK ∧ Hp w0 [Ent.own 108 eZ cK ([(Statement.mk aE aC.1 (w64 ((w64 (2 * aA.1)) - 1)))] : List Statement), Ent.own 108 jI fA ([] : List Statement), Ent.blk aH 108 #[(IV aE), (IV aC.1), (IV (w64 ((w64 (2 * aA.1)) - 1)))], Ent.own 2 aO aN ([x5.1, (w64 ((w64 (x5.1 + 1)) + aD.1)).tmod 5, 100, 101, 199] : List Int), Ent.own 108 aF aB s_l1.2.2.1, Ent.blk b1 92 #[v2, (IV aA.2.1), (IV aA.2.2)], zAS w0 (Ent.blk b1 92 #[v2, .int .i64 a0.at_, .int .i64 a0.seed]).S] w) ?_ (fun hK => ?_)
           · intro aCn zB hJ
             obtain ⟨cK, eZ, fA, jI, sV, sW, sX, sY, sZ, tA, tB, tC, tD, tE, tF, hL⟩ := hJ
             refine zAT 4 rfl (by kernel_rfl) (zCA (ys := s_l1.2.2.1) hL 1 rfl U70 zBz rfl tD tE (hL.rdO 4 rfl) hH (by decide) rfl ?_)
             intro zC tG tH hL
             refine ⟨(hL.sl [2, 3, 4, 6] rfl), ?_⟩
             exact zAm (listed' := (bma 14 127)) (by kernel_rfl) (hI _ _ ⟨cK, eZ, tG, tH, sV, sW, sX, sY, sZ, tA, tB, tC, rfl, tF, hL⟩)
           refine zAI (listed' := (bma 14 47)) (fuel' := 9) (fun F w => ∃ cM fB, F 0 = (PV b1 0) ∧ F 5 = (IV x5.1) ∧ F 6 = (IV ((w64 ((w64 (x5.1 + 1)) + aD.1)).tmod 5)) ∧ F 7 = aB ∧ F 8 = (IV s_l1.2.2.2) ∧ F 9 = (PV aH 0) ∧ F 40 = (IV x5.1) ∧ F 41 = (IV ((w64 ((w64 (x5.1 + 1)) + aD.1)).tmod 5)) ∧ F 42 = cM ∧ F 43 = aB ∧ F 45 = (.agg #[(IV aE), (IV aC.1), (IV (w64 ((w64 (2 * aA.1)) - 1)))]) ∧ Hp w0 [Ent.own 108 fB cM ([] : List Statement), Ent.blk aH 108 #[(IV aE), (IV aC.1), (IV (w64 ((w64 (2 * aA.1)) - 1)))], Ent.own 2 aO aN ([x5.1, (w64 ((w64 (x5.1 + 1)) + aD.1)).tmod 5, 100, 101, 199] : List Int), Ent.own 108 aF aB s_l1.2.2.1, Ent.blk b1 92 #[v2, (IV aA.2.1), (IV aA.2.2)], zAS w0 (Ent.blk b1 92 #[v2, .int .i64 a0.at_, .int .i64 a0.seed]).S] w) ?_ (fun pL => ?_)
           · intro aCo zD hJ
             obtain ⟨cM, fB, jJ, jK, jL, jM, jN, jO, jP, jQ, jR, jS, fC, hL⟩ := hJ
             refine DH.all (rs := [4, 6]) (by kernel_rfl) (by simp) ?_
             intro aCp hM
             simp only [List.mem_cons, List.not_mem_nil, or_false] at hM
             rcases hM with rfl | rfl
             · refine ⟨_, rfl, ?_⟩
               refine zCA (ys := s_l1.2.2.1) hL 0 rfl U70 zBz rfl jR jS (hL.rdO 3 rfl) hH (by decide) rfl ?_
               intro zE tI tJ hL
               refine ⟨(hL.sl [1, 2, 3, 5] rfl), ?_⟩
               exact zAm (listed' := (bma 14 63)) (by kernel_rfl) (pK _ _ ⟨tI, tJ, jJ, jK, jL, jM, jN, jO, jP, jQ, rfl, fC, hL⟩)
             refine ⟨_, rfl, ?_⟩
             refine zBS ([(Statement.mk aE aC.1 (w64 ((w64 (2 * aA.1)) - 1)))] : List Statement) hL U70 zBz rfl (by decide) (by first | (simp [Instr.fill, madeCells, Value.cells, ev, upd, Flat.enc, Flat.sz, fC]; done) | rfl | (simp only [List.map_toArray, List.map_cons, List.map_nil]; rw [show ev _ (Operand.tmp 45) = _ from fC]; kernel_rfl)) rfl rfl ?_
             intro zF tK tL hL
             refine ⟨(hL.sl [2, 3, 4, 6] rfl), ?_⟩
             exact zAm (listed' := (bma 14 111)) (by kernel_rfl) (hK _ _ ⟨tK, tL, cM, fB, jJ, jK, jL, jM, jN, jO, jP, jQ, jR, jS, rfl, hL⟩)
           refine zAI (listed' := (bma 14 107)) (fuel' := 9) (fun F w => ∃ cN fD, F 0 = (PV b1 0) ∧ F 5 = (IV x5.1) ∧ F 6 = (IV ((w64 ((w64 (x5.1 + 1)) + aD.1)).tmod 5)) ∧ F 7 = aB ∧ F 8 = (IV s_l1.2.2.2) ∧ F 9 = (PV aH 0) ∧ F 40 = (IV x5.1) ∧ F 41 = (IV ((w64 ((w64 (x5.1 + 1)) + aD.1)).tmod 5)) ∧ F 43 = aB ∧ F 46 = cN ∧ Hp w0 [Ent.own 108 fD cN ([(Statement.mk aE aC.1 (w64 ((w64 (2 * aA.1)) - 1)))] : List Statement), Ent.blk aH 108 #[(IV aE), (IV aC.1), (IV (w64 ((w64 (2 * aA.1)) - 1)))], Ent.own 2 aO aN ([x5.1, (w64 ((w64 (x5.1 + 1)) + aD.1)).tmod 5, 100, 101, 199] : List Int), Ent.own 108 aF aB s_l1.2.2.1, Ent.blk b1 92 #[v2, (IV aA.2.1), (IV aA.2.2)], zAS w0 (Ent.blk b1 92 #[v2, .int .i64 a0.at_, .int .i64 a0.seed]).S] w) ?_ (fun pM => ?_)
           · intro aCq zG hJ
             obtain ⟨cN, fD, tM, tN, tO, tP, tQ, tR, tS, tT, tU, tV, hL⟩ := hJ
             refine zAT 2 rfl (by kernel_rfl) (zBS ([] : List Statement) hL U70 zBz rfl (by decide) (by first | (simp [Instr.fill, madeCells, Value.cells, ev, upd, Flat.enc, Flat.sz]; done) | rfl | kernel_rfl) rfl rfl ?_)
             intro zH tW tX hL
             refine ⟨(hL.sl [2, 3, 4, 6] rfl), ?_⟩
             have hL := hL.sl [1, 0, 2, 3, 4, 5, 6] rfl
             exact zAm (listed' := (bma 14 111)) (by kernel_rfl) (hK _ _ ⟨cN, fD, tW, tX, tM, tN, tO, tP, tQ, tR, tS, tT, rfl, tU, tV, hL⟩)
           refine DH.all (rs := [2, 6]) (by kernel_rfl) (by simp) ?_
           intro aCr hN
           simp only [List.mem_cons, List.not_mem_nil, or_false] at hN
           rcases hN with rfl | rfl
           · refine ⟨_, rfl, ?_⟩
             refine zBS ([] : List Statement) hL U70 zBz rfl (by decide) (by first | (simp [Instr.fill, madeCells, Value.cells, ev, upd, Flat.enc, Flat.sz]; done) | rfl | kernel_rfl) rfl rfl ?_
             intro zI tY tZ hL
             refine ⟨(hL.sl [1, 2, 3, 5] rfl), ?_⟩
             exact zAm (listed' := (bma 14 47)) (by kernel_rfl) (pL _ _ ⟨tY, tZ, iU, eO, eP, eQ, iV, eR, rfl, rfl, rfl, rfl, rfl, hL⟩)
           refine ⟨_, rfl, ?_⟩
           refine zBS ([(Statement.mk aE aC.1 (w64 ((w64 (2 * aA.1)) - 1)))] : List Statement) hL U70 zBz rfl (by decide) (by first | (simp [Instr.fill, madeCells, Value.cells, ev, upd, Flat.enc, Flat.sz]; done) | rfl | kernel_rfl) rfl rfl ?_
           intro zJ uA uB hL
           refine ⟨(hL.sl [1, 2, 3, 5] rfl), ?_⟩
           exact zAm (listed' := (bma 14 107)) (by kernel_rfl) (pM _ _ ⟨uA, uB, iU, eO, eP, eQ, iV, eR, rfl, rfl, rfl, rfl, hL⟩)
         intro s_j7 aCs zK hJ hm
         unfold zEc at hm
         obtain ⟨jT, jU, jV, jW, jX, uC, uD, hL⟩ := hJ
         refine zAn (t := s_j7.2.2) uD hm (fun pN hm => ?_) (fun pN hm => ?_)
         · refine zAl <| OV aB rfl (zAo jW) <| OV (.agg #[(IV aE), (IV aC.1), (IV (w64 ((w64 (2 * aA.1)) - 1)))]) rfl (zAW (cs := [(IV aE), (IV aC.1), (IV (w64 ((w64 (2 * aA.1)) - 1)))]) zLq zBz rfl uC (hL.cellsB 0 rfl (o := 0) (l := [(IV aE), (IV aC.1), (IV (w64 ((w64 (2 * aA.1)) - 1)))]) (by intro j u hj; exact (by simpa using hj)))) ?_
           refine zAa (zBS ([(Statement.mk aE aC.1 (w64 ((w64 (2 * aA.1)) - 1)))] : List Statement) hL U70 zBz rfl (by decide) (by first | (simp [Instr.fill, madeCells, Value.cells, ev, upd, Flat.enc, Flat.sz]; done) | rfl | kernel_rfl) rfl rfl ?_)
           intro zL aCt aCu hL
           obtain ⟨pO, hm⟩ := zEs hm
           refine zAa (zCA (ys := ([(Statement.mk aE aC.1 (w64 ((w64 (2 * aA.1)) - 1)))] : List Statement)) hL 2 rfl U70 zBz rfl rfl rfl (hL.rdO 0 rfl) pO (by decide) rfl ?_)
           intro zM jY uE hL
           refine OV jY rfl (zAb) <| OW.nil ?_
           have hL := hL.sl [2, 3, 4] rfl
           exact ⟨(s_j7.1, s_j7.2.1, s_l1.2.2.1 ++ ([(Statement.mk aE aC.1 (w64 ((w64 (2 * aA.1)) - 1)))] : List Statement)), hm, ⟨jY, uE, jT, jU, jV, rfl, jX, hL⟩⟩
         refine zAt ?_
         have hL := hL.sl [1, 2, 3] rfl
         exact ⟨(s_j7.1, s_j7.2.1, s_l1.2.2.1), hm, ⟨aB, aF, jT, jU, jV, jW, jX, hL⟩⟩
       refine zAI (listed' := (bma 16 32767)) (fuel' := 1) (fun F w => ∃ cO fE fF, F 0 = (PV b1 0) ∧ F 5 = (IV x5.1) ∧ F 6 = (IV ((w64 ((w64 (x5.1 + 1)) + aD.1)).tmod 5)) ∧ F 7 = aB ∧ F 8 = (IV s_l1.2.2.2) ∧ F 9 = (PV cO 0) ∧ F 39 = (.agg #[(IV aE), (IV aC.1), (IV (w64 ((w64 (2 * aA.1)) - 1)))]) ∧ Hp w0 [Ent.blk cO 108 #[(IV 0), (IV 0), (IV 0)], Ent.own 2 fF fE ([x5.1, (w64 ((w64 (x5.1 + 1)) + aD.1)).tmod 5, 100, 101, 199] : List Int), Ent.own 108 aF aB s_l1.2.2.1, Ent.blk b1 92 #[v2, (IV aA.2.1), (IV aA.2.2)], zAS w0 (Ent.blk b1 92 #[v2, .int .i64 a0.at_, .int .i64 a0.seed]).S] w) ?_ (fun dO => ?_)
       · intro aCv zN hJ
         obtain ⟨cO, fE, fF, uF, uG, uH, uI, uJ, jZ, uK, hL⟩ := hJ
         refine zAT 15 rfl (by kernel_rfl) (zA9 (l := [(IV aE), (IV aC.1), (IV (w64 ((w64 (2 * aA.1)) - 1)))]) (cs' := #[(IV aE), (IV aC.1), (IV (w64 ((w64 (2 * aA.1)) - 1)))]) hL 0 rfl zBz jZ rfl (fc ⟨rfl, (fc ⟨rfl, (fc ⟨rfl, fz⟩)⟩)⟩) uK (nle rfl) rfl ?_)
         intro zO hL
         refine ⟨(hL.sl [2, 4] rfl), ?_⟩
         exact zAm (listed' := (bma 16 65535)) (by kernel_rfl) (pB _ _ ⟨cO, fE, fF, uF, uG, uH, uI, uJ, jZ, hL⟩)
       refine zAI (listed' := (bma 16 16383)) (fuel' := 2) (fun F w => ∃ fG fH, F 0 = (PV b1 0) ∧ F 5 = (IV x5.1) ∧ F 6 = (IV ((w64 ((w64 (x5.1 + 1)) + aD.1)).tmod 5)) ∧ F 7 = aB ∧ F 8 = (IV s_l1.2.2.2) ∧ F 39 = (.agg #[(IV aE), (IV aC.1), (IV (w64 ((w64 (2 * aA.1)) - 1)))]) ∧ Hp w0 [Ent.own 2 fH fG ([x5.1, (w64 ((w64 (x5.1 + 1)) + aD.1)).tmod 5, 100, 101, 199] : List Int), Ent.own 108 aF aB s_l1.2.2.1, Ent.blk b1 92 #[v2, (IV aA.2.1), (IV aA.2.2)], zAS w0 (Ent.blk b1 92 #[v2, .int .i64 a0.at_, .int .i64 a0.seed]).S] w) ?_ (fun hO => ?_)
       · intro aCw zP hJ
         obtain ⟨fG, fH, uL, uM, uN, uO, uP, uQ, hL⟩ := hJ
         refine zAT 14 rfl (by kernel_rfl) (zBb (cs := #[(IV 0), (IV 0), (IV 0)]) hL zBz rfl rfl ?_)
         intro zQ uR hL
         refine ⟨(hL.sl [2, 4] rfl), ?_⟩
         exact zAm (listed' := (bma 16 32767)) (by kernel_rfl) (dO _ _ ⟨uR, fG, fH, uL, uM, uN, uO, uP, rfl, uQ, hL⟩)
       refine zAI (listed' := (bma 16 24511)) (fuel' := 3) (fun F w => ∃ cP cQ fI fJ fK, IxAddr cQ (GoT.sz Int) aG.1 fJ fK ∧ F 0 = (PV b1 0) ∧ F 5 = (IV x5.1) ∧ F 6 = (IV ((w64 ((w64 (x5.1 + 1)) + aD.1)).tmod 5)) ∧ F 7 = aB ∧ F 8 = (IV s_l1.2.2.2) ∧ F 9 = (PV cP 0) ∧ F 31 = (.pointer (some ⟨fJ, fK, none⟩)) ∧ F 34 = (IV aC.1) ∧ F 38 = (IV (w64 ((w64 (2 * aA.1)) - 1))) ∧ Hp w0 [Ent.blk cP 108 #[(IV 0), (IV 0), (IV 0)], Ent.own 2 fI cQ ([x5.1, (w64 ((w64 (x5.1 + 1)) + aD.1)).tmod 5, 100, 101, 199] : List Int), Ent.own 108 aF aB s_l1.2.2.1, Ent.blk b1 92 #[v2, (IV aA.2.1), (IV aA.2.2)], zAS w0 (Ent.blk b1 92 #[v2, .int .i64 a0.at_, .int .i64 a0.seed]).S] w) ?_ (fun dP => ?_)
       · intro aCx zR hJ
         obtain ⟨cP, cQ, fI, fJ, fK, oF, uS, uT, uU, uV, uW, uX, uY, uZ, vA, hL⟩ := hJ
         obtain ⟨_, aK⟩ := zAZ aI
         refine zAT 6 rfl (by kernel_rfl) (zAk (v := (IV aE)) rfl (zAd U2 rfl uY (zAv (hL.rdO 1 rfl) oF aK 0 _ rfl)) ?_)
         refine ⟨(hL.sl [2, 4] rfl), ?_⟩
         have hS := (hL.sl [2, 4] rfl)
         refine zAw 13 rfl (by kernel_rfl) rfl rfl hS (zAp (v := (.agg #[(IV aE), (IV aC.1), (IV (w64 ((w64 (2 * aA.1)) - 1)))])) (fun w' hS' => zCB zLj (ps := [(0, (IV aE)), (1, (IV aC.1)), (2, (IV (w64 ((w64 (2 * aA.1)) - 1))))]) ⟨⟨rfl, rfl⟩, ⟨rfl, uZ⟩, ⟨rfl, vA⟩, trivial⟩ (by simp [Instr.fill, zBJ, zBA, zBi, zBK, zBo, zBc]))) ?_
         exact zAm (listed' := (bma 16 32767)) (by kernel_rfl) (dO _ _ ⟨cP, cQ, fI, uS, uT, uU, uV, uW, uX, rfl, hL⟩)
       refine zAI (listed' := (bma 16 8127)) (fuel' := 4) (fun F w => ∃ bH cR cS cT, IxAddr bH (GoT.sz Int) aG.1 cS cT ∧ F 0 = (PV b1 0) ∧ F 5 = (IV x5.1) ∧ F 6 = (IV ((w64 ((w64 (x5.1 + 1)) + aD.1)).tmod 5)) ∧ F 7 = aB ∧ F 8 = (IV s_l1.2.2.2) ∧ F 31 = (.pointer (some ⟨cS, cT, none⟩)) ∧ F 34 = (IV aC.1) ∧ F 38 = (IV (w64 ((w64 (2 * aA.1)) - 1))) ∧ Hp w0 [Ent.own 2 cR bH ([x5.1, (w64 ((w64 (x5.1 + 1)) + aD.1)).tmod 5, 100, 101, 199] : List Int), Ent.own 108 aF aB s_l1.2.2.1, Ent.blk b1 92 #[v2, (IV aA.2.1), (IV aA.2.2)], zAS w0 (Ent.blk b1 92 #[v2, .int .i64 a0.at_, .int .i64 a0.seed]).S] w) ?_ (fun hP => ?_)
       · intro aCy zS hJ
         obtain ⟨bH, cR, cS, cT, dW, kA, kB, kC, kD, kE, kF, kG, kH, hL⟩ := hJ
         obtain ⟨_, aK⟩ := zAZ aI
         refine DH.all (rs := [6, 14]) (by kernel_rfl) (by simp) ?_
         intro aCz hQ
         simp only [List.mem_cons, List.not_mem_nil, or_false] at hQ
         rcases hQ with rfl | rfl
         · refine ⟨_, rfl, ?_⟩
           refine zAk (v := (IV aE)) rfl (zAd U2 rfl kF (zAv (hL.rdO 0 rfl) dW aK 0 _ rfl)) ?_
           refine ⟨(hL.sl [1, 3] rfl), ?_⟩
           have hS := (hL.sl [1, 3] rfl)
           refine zAw 13 rfl (by kernel_rfl) rfl rfl hS (zAp (v := (.agg #[(IV aE), (IV aC.1), (IV (w64 ((w64 (2 * aA.1)) - 1)))])) (fun w' hS' => zCB zLj (ps := [(0, (IV aE)), (1, (IV aC.1)), (2, (IV (w64 ((w64 (2 * aA.1)) - 1))))]) ⟨⟨rfl, rfl⟩, ⟨rfl, kG⟩, ⟨rfl, kH⟩, trivial⟩ (by simp [Instr.fill, zBJ, zBA, zBi, zBK, zBo, zBc]))) ?_
           exact zAm (listed' := (bma 16 16383)) (by kernel_rfl) (hO _ _ ⟨bH, cR, kA, kB, kC, kD, kE, rfl, hL⟩)
         refine ⟨_, rfl, ?_⟩
         refine zBb (cs := #[(IV 0), (IV 0), (IV 0)]) hL zBz rfl rfl ?_
         intro zT vB hL
         refine ⟨(hL.sl [2, 4] rfl), ?_⟩
         exact zAm (listed' := (bma 16 24511)) (by kernel_rfl) (dP _ _ ⟨vB, bH, cR, cS, cT, dW, kA, kB, kC, kD, kE, rfl, kF, kG, kH, hL⟩)
       refine zAI (listed' := (bma 16 17407)) (fuel' := 5) (fun F w => ∃ cU fL fM, F 0 = (PV b1 0) ∧ F 5 = (IV x5.1) ∧ F 6 = (IV ((w64 ((w64 (x5.1 + 1)) + aD.1)).tmod 5)) ∧ F 7 = aB ∧ F 8 = (IV s_l1.2.2.2) ∧ F 9 = (PV cU 0) ∧ F 32 = (IV aE) ∧ F 34 = (IV aC.1) ∧ F 35 = (PV b1 0) ∧ Hp w0 [Ent.blk cU 108 #[(IV 0), (IV 0), (IV 0)], Ent.own 2 fM fL ([x5.1, (w64 ((w64 (x5.1 + 1)) + aD.1)).tmod 5, 100, 101, 199] : List Int), Ent.own 108 aF aB s_l1.2.2.1, Ent.blk b1 92 #[v2, (IV aC.2.1), (IV aC.2.2)], zAS w0 (Ent.blk b1 92 #[v2, .int .i64 a0.at_, .int .i64 a0.seed]).S] w) ?_ (fun dQ => ?_)
       · intro aDa zU hJ
         obtain ⟨cU, fL, fM, vC, vD, vE, vF, vG, vH, vI, vJ, vK, hL⟩ := hJ
         refine zAT 10 rfl (by kernel_rfl) (OP.call rfl (zAq (vs := [(PV b1 0), (IV 2)]) zA6 ⟨vK, rfl, trivial⟩) (zAu _ (Src.mk a0.code aC.2.1 aC.2.2) (hL.exZ 4 3 (by decide) rfl rfl h3) (hL.get 3 rfl) 2 aS) ?_)
         rintro aDb zV ⟨rfl, pR⟩
         refine ⟨_, rfl, ?_⟩
         have hL := hL.mut 3 rfl pR
         simp only [lA, lB, lC, lD] at hL
         refine ⟨(hL.sl [2, 4] rfl), ?_⟩
         have hS := (hL.sl [2, 4] rfl)
         refine zAw 11 rfl (by kernel_rfl) rfl rfl hS (zAp (v := (IV (w64 (2 * aA.1)))) (fun w' hS' => zHP rfl rfl)) ?_
         have hS := (hL.sl [2, 4] rfl)
         refine zAw 12 rfl (by kernel_rfl) rfl rfl hS (zAp (v := (IV (w64 ((w64 (2 * aA.1)) - 1)))) (fun w' hS' => zCn rfl rfl)) ?_
         have hS := (hL.sl [2, 4] rfl)
         refine zAw 13 rfl (by kernel_rfl) rfl rfl hS (zAp (v := (.agg #[(IV aE), (IV aC.1), (IV (w64 ((w64 (2 * aA.1)) - 1)))])) (fun w' hS' => zCB zLj (ps := [(0, (IV aE)), (1, (IV aC.1)), (2, (IV (w64 ((w64 (2 * aA.1)) - 1))))]) ⟨⟨rfl, vI⟩, ⟨rfl, vJ⟩, ⟨rfl, rfl⟩, trivial⟩ (by simp [Instr.fill, zBJ, zBA, zBi, zBK, zBo, zBc]))) ?_
         exact zAm (listed' := (bma 16 32767)) (by kernel_rfl) (dO _ _ ⟨cU, fL, fM, vC, vD, vE, vF, vG, vH, rfl, hL⟩)
       refine zAI (listed' := (bma 16 24475)) (fuel' := 5) (fun F w => ∃ cV, F 0 = (PV b1 0) ∧ F 5 = (IV x5.1) ∧ F 6 = (IV ((w64 ((w64 (x5.1 + 1)) + aD.1)).tmod 5)) ∧ F 7 = aB ∧ F 8 = (IV s_l1.2.2.2) ∧ F 9 = (PV cV 0) ∧ F 26 = (IV x5.1) ∧ F 27 = (IV ((w64 ((w64 (x5.1 + 1)) + aD.1)).tmod 5)) ∧ F 30 = (IV aG.1) ∧ F 34 = (IV aC.1) ∧ F 38 = (IV (w64 ((w64 (2 * aA.1)) - 1))) ∧ Hp w0 [Ent.blk cV 108 #[(IV 0), (IV 0), (IV 0)], Ent.own 108 aF aB s_l1.2.2.1, Ent.blk b1 92 #[v2, (IV aA.2.1), (IV aA.2.2)], zAS w0 (Ent.blk b1 92 #[v2, .int .i64 a0.at_, .int .i64 a0.seed]).S] w) ?_ (fun hR => ?_)
       · intro aDc zW hJ
         obtain ⟨cV, vL, vM, vN, vO, vP, vQ, kI, kJ, vR, vS, vT, hL⟩ := hJ
         refine zAT 2 rfl (by kernel_rfl) (zBS ([x5.1, (w64 ((w64 (x5.1 + 1)) + aD.1)).tmod 5, 100, 101, 199] : List Int) hL U27 zAf rfl (by decide) (by first | (simp [Instr.fill, madeCells, Value.cells, ev, upd, Flat.enc, Flat.sz, kI, kJ]; done) | rfl | (simp only [List.map_toArray, List.map_cons, List.map_nil]; rw [show ev _ (Operand.tmp 26) = _ from kI]; rw [show ev _ (Operand.tmp 27) = _ from kJ]; kernel_rfl)) rfl rfl ?_)
         intro zX vU vV hL
         refine ⟨(hL.sl [2, 4] rfl), ?_⟩
         have hS := (hL.sl [2, 4] rfl)
         obtain ⟨pS, pU⟩ := zAZ aI
         obtain ⟨kK, kL, dX⟩ := zAC (hL.rdO 0 rfl) pS pU
         refine zAw 5 rfl (by kernel_rfl) rfl rfl hS (zAp (v := (.pointer (some ⟨kK, kL, none⟩))) (fun w' hS' => zA1 U27 zAf rfl vR dX)) ?_
         have hL := hL.sl [1, 0, 2, 3, 4] rfl
         exact zAm (listed' := (bma 16 24511)) (by kernel_rfl) (dP _ _ ⟨cV, vU, vV, kK, kL, dX, vL, vM, vN, vO, vP, vQ, rfl, vS, vT, hL⟩)
       refine zAI (listed' := (bma 16 1023)) (fuel' := 6) (fun F w => ∃ cW cX, F 0 = (PV b1 0) ∧ F 5 = (IV x5.1) ∧ F 6 = (IV ((w64 ((w64 (x5.1 + 1)) + aD.1)).tmod 5)) ∧ F 7 = aB ∧ F 8 = (IV s_l1.2.2.2) ∧ F 32 = (IV aE) ∧ F 34 = (IV aC.1) ∧ F 35 = (PV b1 0) ∧ Hp w0 [Ent.own 2 cX cW ([x5.1, (w64 ((w64 (x5.1 + 1)) + aD.1)).tmod 5, 100, 101, 199] : List Int), Ent.own 108 aF aB s_l1.2.2.1, Ent.blk b1 92 #[v2, (IV aC.2.1), (IV aC.2.2)], zAS w0 (Ent.blk b1 92 #[v2, .int .i64 a0.at_, .int .i64 a0.seed]).S] w) ?_ (fun hT => ?_)
       · intro aDd zY hJ
         obtain ⟨cW, cX, kM, kN, kO, kP, kQ, kR, kS, kT, hL⟩ := hJ
         refine DH.all (rs := [10, 14]) (by kernel_rfl) (by simp) ?_
         intro aDe hU
         simp only [List.mem_cons, List.not_mem_nil, or_false] at hU
         rcases hU with rfl | rfl
         · refine ⟨_, rfl, ?_⟩
           refine OP.call rfl (zAq (vs := [(PV b1 0), (IV 2)]) zA6 ⟨kT, rfl, trivial⟩) (zAu _ (Src.mk a0.code aC.2.1 aC.2.2) (hL.exZ 3 2 (by decide) rfl rfl h3) (hL.get 2 rfl) 2 aS) ?_
           rintro aDf zZ ⟨rfl, pV⟩
           refine ⟨_, rfl, ?_⟩
           have hL := hL.mut 2 rfl pV
           simp only [lA, lB, lC, lD] at hL
           refine ⟨(hL.sl [1, 3] rfl), ?_⟩
           have hS := (hL.sl [1, 3] rfl)
           refine zAw 11 rfl (by kernel_rfl) rfl rfl hS (zAp (v := (IV (w64 (2 * aA.1)))) (fun w' hS' => zHP rfl rfl)) ?_
           have hS := (hL.sl [1, 3] rfl)
           refine zAw 12 rfl (by kernel_rfl) rfl rfl hS (zAp (v := (IV (w64 ((w64 (2 * aA.1)) - 1)))) (fun w' hS' => zCn rfl rfl)) ?_
           have hS := (hL.sl [1, 3] rfl)
           refine zAw 13 rfl (by kernel_rfl) rfl rfl hS (zAp (v := (.agg #[(IV aE), (IV aC.1), (IV (w64 ((w64 (2 * aA.1)) - 1)))])) (fun w' hS' => zCB zLj (ps := [(0, (IV aE)), (1, (IV aC.1)), (2, (IV (w64 ((w64 (2 * aA.1)) - 1))))]) ⟨⟨rfl, kR⟩, ⟨rfl, kS⟩, ⟨rfl, rfl⟩, trivial⟩ (by simp [Instr.fill, zBJ, zBA, zBi, zBK, zBo, zBc]))) ?_
           exact zAm (listed' := (bma 16 16383)) (by kernel_rfl) (hO _ _ ⟨cW, cX, kM, kN, kO, kP, kQ, rfl, hL⟩)
         refine ⟨_, rfl, ?_⟩
         refine zBb (cs := #[(IV 0), (IV 0), (IV 0)]) hL zBz rfl rfl ?_
         intro aAa vW hL
         refine ⟨(hL.sl [2, 4] rfl), ?_⟩
         exact zAm (listed' := (bma 16 17407)) (by kernel_rfl) (dQ _ _ ⟨vW, cW, cX, kM, kN, kO, kP, kQ, rfl, kR, kS, kT, hL⟩)
       refine zAI (listed' := (bma 16 17151)) (fuel' := 6) (fun F w => ∃ cY fN fO, F 0 = (PV b1 0) ∧ F 5 = (IV x5.1) ∧ F 6 = (IV ((w64 ((w64 (x5.1 + 1)) + aD.1)).tmod 5)) ∧ F 7 = aB ∧ F 8 = (IV s_l1.2.2.2) ∧ F 9 = (PV cY 0) ∧ F 32 = (IV aE) ∧ F 33 = (PV b1 0) ∧ F 35 = (PV b1 0) ∧ Hp w0 [Ent.blk cY 108 #[(IV 0), (IV 0), (IV 0)], Ent.own 2 fO fN ([x5.1, (w64 ((w64 (x5.1 + 1)) + aD.1)).tmod 5, 100, 101, 199] : List Int), Ent.own 108 aF aB s_l1.2.2.1, Ent.blk b1 92 #[v2, (IV aG.2.1), (IV aG.2.2)], zAS w0 (Ent.blk b1 92 #[v2, .int .i64 a0.at_, .int .i64 a0.seed]).S] w) ?_ (fun hV => ?_)
       · intro aDg aAb hJ
         obtain ⟨cY, fN, fO, vX, vY, vZ, wA, wB, wC, wD, wE, wF, hL⟩ := hJ
         refine zAT 8 rfl (by kernel_rfl) (OP.call rfl (zAq (vs := [(PV b1 0), (IV 4)]) zA6 ⟨wE, rfl, trivial⟩) (zAu _ (Src.mk a0.code aG.2.1 aG.2.2) (hL.exZ 4 3 (by decide) rfl rfl h3) (hL.get 3 rfl) 4 aR) ?_)
         rintro aDh aAc ⟨rfl, pW⟩
         refine ⟨_, rfl, ?_⟩
         have hL := hL.mut 3 rfl pW
         simp only [lA, lB, lC, lD] at hL
         refine ⟨(hL.sl [2, 4] rfl), ?_⟩
         exact zAm (listed' := (bma 16 17407)) (by kernel_rfl) (dQ _ _ ⟨cY, fN, fO, vX, vY, vZ, wA, wB, wC, wD, rfl, wF, hL⟩)
       refine zAI (listed' := (bma 16 17343)) (fuel' := 6) (fun F w => ∃ bI bJ cZ dA dB, IxAddr bJ (GoT.sz Int) aG.1 dA dB ∧ F 0 = (PV b1 0) ∧ F 5 = (IV x5.1) ∧ F 6 = (IV ((w64 ((w64 (x5.1 + 1)) + aD.1)).tmod 5)) ∧ F 7 = aB ∧ F 8 = (IV s_l1.2.2.2) ∧ F 9 = (PV bI 0) ∧ F 31 = (.pointer (some ⟨dA, dB, none⟩)) ∧ F 34 = (IV aC.1) ∧ F 35 = (PV b1 0) ∧ Hp w0 [Ent.blk bI 108 #[(IV 0), (IV 0), (IV 0)], Ent.own 2 cZ bJ ([x5.1, (w64 ((w64 (x5.1 + 1)) + aD.1)).tmod 5, 100, 101, 199] : List Int), Ent.own 108 aF aB s_l1.2.2.1, Ent.blk b1 92 #[v2, (IV aC.2.1), (IV aC.2.2)], zAS w0 (Ent.blk b1 92 #[v2, .int .i64 a0.at_, .int .i64 a0.seed]).S] w) ?_ (fun dR => ?_)
       · intro aDi aAd hJ
         obtain ⟨bI, bJ, cZ, dA, dB, dY, kU, kV, kW, kX, kY, kZ, lE, lF, lG, hL⟩ := hJ
         obtain ⟨_, aK⟩ := zAZ aI
         refine DH.all (rs := [6, 10]) (by kernel_rfl) (by simp) ?_
         intro aDj hW
         simp only [List.mem_cons, List.not_mem_nil, or_false] at hW
         rcases hW with rfl | rfl
         · refine ⟨_, rfl, ?_⟩
           refine zAk (v := (IV aE)) rfl (zAd U2 rfl lE (zAv (hL.rdO 1 rfl) dY aK 0 _ rfl)) ?_
           refine ⟨(hL.sl [2, 4] rfl), ?_⟩
           exact zAm (listed' := (bma 16 17407)) (by kernel_rfl) (dQ _ _ ⟨bI, bJ, cZ, kU, kV, kW, kX, kY, kZ, rfl, lF, lG, hL⟩)
         refine ⟨_, rfl, ?_⟩
         refine OP.call rfl (zAq (vs := [(PV b1 0), (IV 2)]) zA6 ⟨lG, rfl, trivial⟩) (zAu _ (Src.mk a0.code aC.2.1 aC.2.2) (hL.exZ 4 3 (by decide) rfl rfl h3) (hL.get 3 rfl) 2 aS) ?_
         rintro aDk aAe ⟨rfl, pX⟩
         refine ⟨_, rfl, ?_⟩
         have hL := hL.mut 3 rfl pX
         simp only [lA, lB, lC, lD] at hL
         refine ⟨(hL.sl [2, 4] rfl), ?_⟩
         have hS := (hL.sl [2, 4] rfl)
         refine zAw 11 rfl (by kernel_rfl) rfl rfl hS (zAp (v := (IV (w64 (2 * aA.1)))) (fun w' hS' => zHP rfl rfl)) ?_
         have hS := (hL.sl [2, 4] rfl)
         refine zAw 12 rfl (by kernel_rfl) rfl rfl hS (zAp (v := (IV (w64 ((w64 (2 * aA.1)) - 1)))) (fun w' hS' => zCn rfl rfl)) ?_
         exact zAm (listed' := (bma 16 24511)) (by kernel_rfl) (dP _ _ ⟨bI, bJ, cZ, dA, dB, dY, kU, kV, kW, kX, kY, kZ, lE, lF, rfl, hL⟩)
       refine zAI (listed' := (bma 16 8091)) (fuel' := 6) (fun F w => F 0 = (PV b1 0) ∧ F 5 = (IV x5.1) ∧ F 6 = (IV ((w64 ((w64 (x5.1 + 1)) + aD.1)).tmod 5)) ∧ F 7 = aB ∧ F 8 = (IV s_l1.2.2.2) ∧ F 26 = (IV x5.1) ∧ F 27 = (IV ((w64 ((w64 (x5.1 + 1)) + aD.1)).tmod 5)) ∧ F 30 = (IV aG.1) ∧ F 34 = (IV aC.1) ∧ F 38 = (IV (w64 ((w64 (2 * aA.1)) - 1))) ∧ Hp w0 [Ent.own 108 aF aB s_l1.2.2.1, Ent.blk b1 92 #[v2, (IV aA.2.1), (IV aA.2.2)], zAS w0 (Ent.blk b1 92 #[v2, .int .i64 a0.at_, .int .i64 a0.seed]).S] w) ?_ (fun pY => ?_)
       · intro aDl aAf hJ
         obtain ⟨lH, lI, lJ, lK, lL, fP, fQ, lM, lN, lO, hL⟩ := hJ
         refine DH.all (rs := [2, 14]) (by kernel_rfl) (by simp) ?_
         intro aDm hX
         simp only [List.mem_cons, List.not_mem_nil, or_false] at hX
         rcases hX with rfl | rfl
         · refine ⟨_, rfl, ?_⟩
           refine zBS ([x5.1, (w64 ((w64 (x5.1 + 1)) + aD.1)).tmod 5, 100, 101, 199] : List Int) hL U27 zAf rfl (by decide) (by first | (simp [Instr.fill, madeCells, Value.cells, ev, upd, Flat.enc, Flat.sz, fP, fQ]; done) | rfl | (simp only [List.map_toArray, List.map_cons, List.map_nil]; rw [show ev _ (Operand.tmp 26) = _ from fP]; rw [show ev _ (Operand.tmp 27) = _ from fQ]; kernel_rfl)) rfl rfl ?_
           intro aAg wG wH hL
           refine ⟨(hL.sl [1, 3] rfl), ?_⟩
           have hS := (hL.sl [1, 3] rfl)
           obtain ⟨pZ, qA⟩ := zAZ aI
           obtain ⟨lP, lQ, dZ⟩ := zAC (hL.rdO 0 rfl) pZ qA
           refine zAw 5 rfl (by kernel_rfl) rfl rfl hS (zAp (v := (.pointer (some ⟨lP, lQ, none⟩))) (fun w' hS' => zA1 U27 zAf rfl lM dZ)) ?_
           exact zAm (listed' := (bma 16 8127)) (by kernel_rfl) (hP _ _ ⟨wG, wH, lP, lQ, dZ, lH, lI, lJ, lK, lL, rfl, lN, lO, hL⟩)
         refine ⟨_, rfl, ?_⟩
         refine zBb (cs := #[(IV 0), (IV 0), (IV 0)]) hL zBz rfl rfl ?_
         intro aAh wI hL
         refine ⟨(hL.sl [1, 3] rfl), ?_⟩
         exact zAm (listed' := (bma 16 24475)) (by kernel_rfl) (hR _ _ ⟨wI, lH, lI, lJ, lK, lL, rfl, fP, fQ, lM, lN, lO, hL⟩)
       refine zAI (listed' := (bma 16 767)) (fuel' := 7) (fun F w => ∃ dC dD, F 0 = (PV b1 0) ∧ F 5 = (IV x5.1) ∧ F 6 = (IV ((w64 ((w64 (x5.1 + 1)) + aD.1)).tmod 5)) ∧ F 7 = aB ∧ F 8 = (IV s_l1.2.2.2) ∧ F 32 = (IV aE) ∧ F 33 = (PV b1 0) ∧ F 35 = (PV b1 0) ∧ Hp w0 [Ent.own 2 dD dC ([x5.1, (w64 ((w64 (x5.1 + 1)) + aD.1)).tmod 5, 100, 101, 199] : List Int), Ent.own 108 aF aB s_l1.2.2.1, Ent.blk b1 92 #[v2, (IV aG.2.1), (IV aG.2.2)], zAS w0 (Ent.blk b1 92 #[v2, .int .i64 a0.at_, .int .i64 a0.seed]).S] w) ?_ (fun qB => ?_)
       · intro aDn aAi hJ
         obtain ⟨dC, dD, lR, lS, lT, lU, lV, lW, lX, lY, hL⟩ := hJ
         refine DH.all (rs := [8, 14]) (by kernel_rfl) (by simp) ?_
         intro aDo hY
         simp only [List.mem_cons, List.not_mem_nil, or_false] at hY
         rcases hY with rfl | rfl
         · refine ⟨_, rfl, ?_⟩
           refine OP.call rfl (zAq (vs := [(PV b1 0), (IV 4)]) zA6 ⟨lX, rfl, trivial⟩) (zAu _ (Src.mk a0.code aG.2.1 aG.2.2) (hL.exZ 3 2 (by decide) rfl rfl h3) (hL.get 2 rfl) 4 aR) ?_
           rintro aDp aAj ⟨rfl, qC⟩
           refine ⟨_, rfl, ?_⟩
           have hL := hL.mut 2 rfl qC
           simp only [lA, lB, lC, lD] at hL
           refine ⟨(hL.sl [1, 3] rfl), ?_⟩
           exact zAm (listed' := (bma 16 1023)) (by kernel_rfl) (hT _ _ ⟨dC, dD, lR, lS, lT, lU, lV, lW, rfl, lY, hL⟩)
         refine ⟨_, rfl, ?_⟩
         refine zBb (cs := #[(IV 0), (IV 0), (IV 0)]) hL zBz rfl rfl ?_
         intro aAk wJ hL
         refine ⟨(hL.sl [2, 4] rfl), ?_⟩
         exact zAm (listed' := (bma 16 17151)) (by kernel_rfl) (hV _ _ ⟨wJ, dC, dD, lR, lS, lT, lU, lV, rfl, lW, lX, lY, hL⟩)
       refine zAI (listed' := (bma 16 959)) (fuel' := 7) (fun F w => ∃ aW bK bL bM, IxAddr aW (GoT.sz Int) aG.1 bL bM ∧ F 0 = (PV b1 0) ∧ F 5 = (IV x5.1) ∧ F 6 = (IV ((w64 ((w64 (x5.1 + 1)) + aD.1)).tmod 5)) ∧ F 7 = aB ∧ F 8 = (IV s_l1.2.2.2) ∧ F 31 = (.pointer (some ⟨bL, bM, none⟩)) ∧ F 34 = (IV aC.1) ∧ F 35 = (PV b1 0) ∧ Hp w0 [Ent.own 2 bK aW ([x5.1, (w64 ((w64 (x5.1 + 1)) + aD.1)).tmod 5, 100, 101, 199] : List Int), Ent.own 108 aF aB s_l1.2.2.1, Ent.blk b1 92 #[v2, (IV aC.2.1), (IV aC.2.2)], zAS w0 (Ent.blk b1 92 #[v2, .int .i64 a0.at_, .int .i64 a0.seed]).S] w) ?_ (fun hZ => ?_)
       · intro aDq aAl hJ
         obtain ⟨aW, bK, bL, bM, bW, fR, fS, fT, fU, fV, fW, fX, fY, hL⟩ := hJ
         obtain ⟨_, aK⟩ := zAZ aI
         refine DH.all (rs := [6, 10, 14]) (by kernel_rfl) (by simp) ?_
         intro aDr iA
         simp only [List.mem_cons, List.not_mem_nil, or_false] at iA
         rcases iA with rfl | rfl | rfl
         · refine ⟨_, rfl, ?_⟩
           refine zAk (v := (IV aE)) rfl (zAd U2 rfl fW (zAv (hL.rdO 0 rfl) bW aK 0 _ rfl)) ?_
           refine ⟨(hL.sl [1, 3] rfl), ?_⟩
           exact zAm (listed' := (bma 16 1023)) (by kernel_rfl) (hT _ _ ⟨aW, bK, fR, fS, fT, fU, fV, rfl, fX, fY, hL⟩)
         · refine ⟨_, rfl, ?_⟩
           refine OP.call rfl (zAq (vs := [(PV b1 0), (IV 2)]) zA6 ⟨fY, rfl, trivial⟩) (zAu _ (Src.mk a0.code aC.2.1 aC.2.2) (hL.exZ 3 2 (by decide) rfl rfl h3) (hL.get 2 rfl) 2 aS) ?_
           rintro aDs aAm ⟨rfl, qD⟩
           refine ⟨_, rfl, ?_⟩
           have hL := hL.mut 2 rfl qD
           simp only [lA, lB, lC, lD] at hL
           refine ⟨(hL.sl [1, 3] rfl), ?_⟩
           have hS := (hL.sl [1, 3] rfl)
           refine zAw 11 rfl (by kernel_rfl) rfl rfl hS (zAp (v := (IV (w64 (2 * aA.1)))) (fun w' hS' => zHP rfl rfl)) ?_
           have hS := (hL.sl [1, 3] rfl)
           refine zAw 12 rfl (by kernel_rfl) rfl rfl hS (zAp (v := (IV (w64 ((w64 (2 * aA.1)) - 1)))) (fun w' hS' => zCn rfl rfl)) ?_
           exact zAm (listed' := (bma 16 8127)) (by kernel_rfl) (hP _ _ ⟨aW, bK, bL, bM, bW, fR, fS, fT, fU, fV, fW, fX, rfl, hL⟩)
         refine ⟨_, rfl, ?_⟩
         refine zBb (cs := #[(IV 0), (IV 0), (IV 0)]) hL zBz rfl rfl ?_
         intro aAn wK hL
         refine ⟨(hL.sl [2, 4] rfl), ?_⟩
         exact zAm (listed' := (bma 16 17343)) (by kernel_rfl) (dR _ _ ⟨wK, aW, bK, bL, bM, bW, fR, fS, fT, fU, fV, rfl, fW, fX, fY, hL⟩)
       refine zAI (listed' := (bma 16 17087)) (fuel' := 7) (fun F w => ∃ bN bO dE dF dG, IxAddr bO (GoT.sz Int) aG.1 dF dG ∧ F 0 = (PV b1 0) ∧ F 5 = (IV x5.1) ∧ F 6 = (IV ((w64 ((w64 (x5.1 + 1)) + aD.1)).tmod 5)) ∧ F 7 = aB ∧ F 8 = (IV s_l1.2.2.2) ∧ F 9 = (PV bN 0) ∧ F 31 = (.pointer (some ⟨dF, dG, none⟩)) ∧ F 33 = (PV b1 0) ∧ F 35 = (PV b1 0) ∧ Hp w0 [Ent.blk bN 108 #[(IV 0), (IV 0), (IV 0)], Ent.own 2 dE bO ([x5.1, (w64 ((w64 (x5.1 + 1)) + aD.1)).tmod 5, 100, 101, 199] : List Int), Ent.own 108 aF aB s_l1.2.2.1, Ent.blk b1 92 #[v2, (IV aG.2.1), (IV aG.2.2)], zAS w0 (Ent.blk b1 92 #[v2, .int .i64 a0.at_, .int .i64 a0.seed]).S] w) ?_ (fun dS => ?_)
       · intro aDt aAo hJ
         obtain ⟨bN, bO, dE, dF, dG, eA, lZ, mA, mB, mC, mD, mE, mF, mG, mH, hL⟩ := hJ
         obtain ⟨_, aK⟩ := zAZ aI
         refine DH.all (rs := [6, 8]) (by kernel_rfl) (by simp) ?_
         intro aDu iB
         simp only [List.mem_cons, List.not_mem_nil, or_false] at iB
         rcases iB with rfl | rfl
         · refine ⟨_, rfl, ?_⟩
           refine zAk (v := (IV aE)) rfl (zAd U2 rfl mF (zAv (hL.rdO 1 rfl) eA aK 0 _ rfl)) ?_
           refine ⟨(hL.sl [2, 4] rfl), ?_⟩
           exact zAm (listed' := (bma 16 17151)) (by kernel_rfl) (hV _ _ ⟨bN, bO, dE, lZ, mA, mB, mC, mD, mE, rfl, mG, mH, hL⟩)
         refine ⟨_, rfl, ?_⟩
         refine OP.call rfl (zAq (vs := [(PV b1 0), (IV 4)]) zA6 ⟨mG, rfl, trivial⟩) (zAu _ (Src.mk a0.code aG.2.1 aG.2.2) (hL.exZ 4 3 (by decide) rfl rfl h3) (hL.get 3 rfl) 4 aR) ?_
         rintro aDv aAp ⟨rfl, qE⟩
         refine ⟨_, rfl, ?_⟩
         have hL := hL.mut 3 rfl qE
         simp only [lA, lB, lC, lD] at hL
         refine ⟨(hL.sl [2, 4] rfl), ?_⟩
         exact zAm (listed' := (bma 16 17343)) (by kernel_rfl) (dR _ _ ⟨bN, bO, dE, dF, dG, eA, lZ, mA, mB, mC, mD, mE, mF, rfl, mH, hL⟩)
       refine zAI (listed' := (bma 16 703)) (fuel' := 8) (fun F w => ∃ aX bP bQ bR, IxAddr aX (GoT.sz Int) aG.1 bQ bR ∧ F 0 = (PV b1 0) ∧ F 5 = (IV x5.1) ∧ F 6 = (IV ((w64 ((w64 (x5.1 + 1)) + aD.1)).tmod 5)) ∧ F 7 = aB ∧ F 8 = (IV s_l1.2.2.2) ∧ F 31 = (.pointer (some ⟨bQ, bR, none⟩)) ∧ F 33 = (PV b1 0) ∧ F 35 = (PV b1 0) ∧ Hp w0 [Ent.own 2 bP aX ([x5.1, (w64 ((w64 (x5.1 + 1)) + aD.1)).tmod 5, 100, 101, 199] : List Int), Ent.own 108 aF aB s_l1.2.2.1, Ent.blk b1 92 #[v2, (IV aG.2.1), (IV aG.2.2)], zAS w0 (Ent.blk b1 92 #[v2, .int .i64 a0.at_, .int .i64 a0.seed]).S] w) ?_ (fun iC => ?_)
       · intro aDw aAq hJ
         obtain ⟨aX, bP, bQ, bR, bX, fZ, gA, gB, gC, gD, gE, gF, gG, hL⟩ := hJ
         obtain ⟨_, aK⟩ := zAZ aI
         refine DH.all (rs := [6, 8, 14]) (by kernel_rfl) (by simp) ?_
         intro aDx iD
         simp only [List.mem_cons, List.not_mem_nil, or_false] at iD
         rcases iD with rfl | rfl | rfl
         · refine ⟨_, rfl, ?_⟩
           refine zAk (v := (IV aE)) rfl (zAd U2 rfl gE (zAv (hL.rdO 0 rfl) bX aK 0 _ rfl)) ?_
           refine ⟨(hL.sl [1, 3] rfl), ?_⟩
           exact zAm (listed' := (bma 16 767)) (by kernel_rfl) (qB _ _ ⟨aX, bP, fZ, gA, gB, gC, gD, rfl, gF, gG, hL⟩)
         · refine ⟨_, rfl, ?_⟩
           refine OP.call rfl (zAq (vs := [(PV b1 0), (IV 4)]) zA6 ⟨gF, rfl, trivial⟩) (zAu _ (Src.mk a0.code aG.2.1 aG.2.2) (hL.exZ 3 2 (by decide) rfl rfl h3) (hL.get 2 rfl) 4 aR) ?_
           rintro aDy aAr ⟨rfl, qF⟩
           refine ⟨_, rfl, ?_⟩
           have hL := hL.mut 2 rfl qF
           simp only [lA, lB, lC, lD] at hL
           refine ⟨(hL.sl [1, 3] rfl), ?_⟩
           exact zAm (listed' := (bma 16 959)) (by kernel_rfl) (hZ _ _ ⟨aX, bP, bQ, bR, bX, fZ, gA, gB, gC, gD, gE, rfl, gG, hL⟩)
         refine ⟨_, rfl, ?_⟩
         refine zBb (cs := #[(IV 0), (IV 0), (IV 0)]) hL zBz rfl rfl ?_
         intro aAs wL hL
         refine ⟨(hL.sl [2, 4] rfl), ?_⟩
         exact zAm (listed' := (bma 16 17087)) (by kernel_rfl) (dS _ _ ⟨wL, aX, bP, bQ, bR, bX, fZ, gA, gB, gC, gD, rfl, gE, gF, gG, hL⟩)
       refine zAI (listed' := (bma 16 17307)) (fuel' := 8) (fun F w => ∃ bS, F 0 = (PV b1 0) ∧ F 5 = (IV x5.1) ∧ F 6 = (IV ((w64 ((w64 (x5.1 + 1)) + aD.1)).tmod 5)) ∧ F 7 = aB ∧ F 8 = (IV s_l1.2.2.2) ∧ F 9 = (PV bS 0) ∧ F 26 = (IV x5.1) ∧ F 27 = (IV ((w64 ((w64 (x5.1 + 1)) + aD.1)).tmod 5)) ∧ F 30 = (IV aG.1) ∧ F 34 = (IV aC.1) ∧ F 35 = (PV b1 0) ∧ Hp w0 [Ent.blk bS 108 #[(IV 0), (IV 0), (IV 0)], Ent.own 108 aF aB s_l1.2.2.1, Ent.blk b1 92 #[v2, (IV aC.2.1), (IV aC.2.2)], zAS w0 (Ent.blk b1 92 #[v2, .int .i64 a0.at_, .int .i64 a0.seed]).S] w) ?_ (fun iE => ?_)
       · intro aDz aAt hJ
         obtain ⟨bS, mI, mJ, mK, mL, mM, mN, gH, gI, mO, mP, mQ, hL⟩ := hJ
         refine DH.all (rs := [2, 10]) (by kernel_rfl) (by simp) ?_
         intro aEa iF
         simp only [List.mem_cons, List.not_mem_nil, or_false] at iF
         rcases iF with rfl | rfl
         · refine ⟨_, rfl, ?_⟩
           refine zBS ([x5.1, (w64 ((w64 (x5.1 + 1)) + aD.1)).tmod 5, 100, 101, 199] : List Int) hL U27 zAf rfl (by decide) (by first | (simp [Instr.fill, madeCells, Value.cells, ev, upd, Flat.enc, Flat.sz, gH, gI]; done) | rfl | (simp only [List.map_toArray, List.map_cons, List.map_nil]; rw [show ev _ (Operand.tmp 26) = _ from gH]; rw [show ev _ (Operand.tmp 27) = _ from gI]; kernel_rfl)) rfl rfl ?_
           intro aAu wM wN hL
           refine ⟨(hL.sl [2, 4] rfl), ?_⟩
           have hS := (hL.sl [2, 4] rfl)
           obtain ⟨qG, qH⟩ := zAZ aI
           obtain ⟨mR, mS, eB⟩ := zAC (hL.rdO 0 rfl) qG qH
           refine zAw 5 rfl (by kernel_rfl) rfl rfl hS (zAp (v := (.pointer (some ⟨mR, mS, none⟩))) (fun w' hS' => zA1 U27 zAf rfl mO eB)) ?_
           have hL := hL.sl [1, 0, 2, 3, 4] rfl
           exact zAm (listed' := (bma 16 17343)) (by kernel_rfl) (dR _ _ ⟨bS, wM, wN, mR, mS, eB, mI, mJ, mK, mL, mM, mN, rfl, mP, mQ, hL⟩)
         refine ⟨_, rfl, ?_⟩
         refine OP.call rfl (zAq (vs := [(PV b1 0), (IV 2)]) zA6 ⟨mQ, rfl, trivial⟩) (zAu _ (Src.mk a0.code aC.2.1 aC.2.2) (hL.exZ 3 2 (by decide) rfl rfl h3) (hL.get 2 rfl) 2 aS) ?_
         rintro aEb aAv ⟨rfl, qI⟩
         refine ⟨_, rfl, ?_⟩
         have hL := hL.mut 2 rfl qI
         simp only [lA, lB, lC, lD] at hL
         refine ⟨(hL.sl [1, 3] rfl), ?_⟩
         have hS := (hL.sl [1, 3] rfl)
         refine zAw 11 rfl (by kernel_rfl) rfl rfl hS (zAp (v := (IV (w64 (2 * aA.1)))) (fun w' hS' => zHP rfl rfl)) ?_
         have hS := (hL.sl [1, 3] rfl)
         refine zAw 12 rfl (by kernel_rfl) rfl rfl hS (zAp (v := (IV (w64 ((w64 (2 * aA.1)) - 1)))) (fun w' hS' => zCn rfl rfl)) ?_
         exact zAm (listed' := (bma 16 24475)) (by kernel_rfl) (hR _ _ ⟨bS, mI, mJ, mK, mL, mM, mN, gH, gI, mO, mP, rfl, hL⟩)
       refine zAI (listed' := (bma 16 17039)) (fuel' := 9) (fun F w => ∃ dH dI gJ, F 0 = (PV b1 0) ∧ F 5 = (IV x5.1) ∧ F 6 = (IV ((w64 ((w64 (x5.1 + 1)) + aD.1)).tmod 5)) ∧ F 7 = aB ∧ F 8 = (IV s_l1.2.2.2) ∧ F 9 = (PV dH 0) ∧ F 28 = dI ∧ F 29 = (PV b1 0) ∧ F 33 = (PV b1 0) ∧ F 35 = (PV b1 0) ∧ Hp w0 [Ent.blk dH 108 #[(IV 0), (IV 0), (IV 0)], Ent.own 2 gJ dI ([x5.1, (w64 ((w64 (x5.1 + 1)) + aD.1)).tmod 5, 100, 101, 199] : List Int), Ent.own 108 aF aB s_l1.2.2.1, Ent.blk b1 92 #[v2, (IV s_l1.1), (IV s_l1.2.1)], zAS w0 (Ent.blk b1 92 #[v2, .int .i64 a0.at_, .int .i64 a0.seed]).S] w) ?_ (fun iG => ?_)
       · intro aEc aAw hJ
         obtain ⟨dH, dI, gJ, wO, wP, wQ, wS, wT, wU, wV, wW, wX, wY, hL⟩ := hJ
         refine zAT 4 rfl (by kernel_rfl) (OP.call rfl (zAq (vs := [(PV b1 0), (IV 5)]) zA6 ⟨wW, rfl, trivial⟩) (zAu _ (Src.mk a0.code s_l1.1 s_l1.2.1) (hL.exZ 4 3 (by decide) rfl rfl h3) (hL.get 3 rfl) 5 bE) ?_)
         rintro aEd aAx ⟨rfl, qJ⟩
         refine ⟨_, rfl, ?_⟩
         have hL := hL.mut 3 rfl qJ
         simp only [lA, lB, lC, lD] at hL
         refine ⟨(hL.sl [2, 4] rfl), ?_⟩
         have hS := (hL.sl [2, 4] rfl)
         obtain ⟨qK, qL⟩ := zAZ aI
         obtain ⟨mT, mU, eC⟩ := zAC (hL.rdO 1 rfl) qK qL
         refine zAw 5 rfl (by kernel_rfl) rfl rfl hS (zAp (v := (.pointer (some ⟨mT, mU, none⟩))) (fun w' hS' => zA1 U27 zAf wV rfl eC)) ?_
         exact zAm (listed' := (bma 16 17087)) (by kernel_rfl) (dS _ _ ⟨dH, dI, gJ, mT, mU, eC, wO, wP, wQ, wS, wT, wU, rfl, wX, wY, hL⟩)
       refine zAI (listed' := (bma 16 923)) (fuel' := 9) (fun F w => F 0 = (PV b1 0) ∧ F 5 = (IV x5.1) ∧ F 6 = (IV ((w64 ((w64 (x5.1 + 1)) + aD.1)).tmod 5)) ∧ F 7 = aB ∧ F 8 = (IV s_l1.2.2.2) ∧ F 26 = (IV x5.1) ∧ F 27 = (IV ((w64 ((w64 (x5.1 + 1)) + aD.1)).tmod 5)) ∧ F 30 = (IV aG.1) ∧ F 34 = (IV aC.1) ∧ F 35 = (PV b1 0) ∧ Hp w0 [Ent.own 108 aF aB s_l1.2.2.1, Ent.blk b1 92 #[v2, (IV aC.2.1), (IV aC.2.2)], zAS w0 (Ent.blk b1 92 #[v2, .int .i64 a0.at_, .int .i64 a0.seed]).S] w) ?_ (fun qM => ?_)
       · intro aEe aAy hJ
         obtain ⟨gK, gL, gM, gN, gO, dJ, dK, gP, gQ, gR, hL⟩ := hJ
         refine DH.all (rs := [2, 10, 14]) (by kernel_rfl) (by simp) ?_
         intro aEf iH
         simp only [List.mem_cons, List.not_mem_nil, or_false] at iH
         rcases iH with rfl | rfl | rfl
         · refine ⟨_, rfl, ?_⟩
           refine zBS ([x5.1, (w64 ((w64 (x5.1 + 1)) + aD.1)).tmod 5, 100, 101, 199] : List Int) hL U27 zAf rfl (by decide) (by first | (simp [Instr.fill, madeCells, Value.cells, ev, upd, Flat.enc, Flat.sz, dJ, dK]; done) | rfl | (simp only [List.map_toArray, List.map_cons, List.map_nil]; rw [show ev _ (Operand.tmp 26) = _ from dJ]; rw [show ev _ (Operand.tmp 27) = _ from dK]; kernel_rfl)) rfl rfl ?_
           intro aAz wZ xA hL
           refine ⟨(hL.sl [1, 3] rfl), ?_⟩
           have hS := (hL.sl [1, 3] rfl)
           obtain ⟨qN, qO⟩ := zAZ aI
           obtain ⟨mV, mW, eD⟩ := zAC (hL.rdO 0 rfl) qN qO
           refine zAw 5 rfl (by kernel_rfl) rfl rfl hS (zAp (v := (.pointer (some ⟨mV, mW, none⟩))) (fun w' hS' => zA1 U27 zAf rfl gP eD)) ?_
           exact zAm (listed' := (bma 16 959)) (by kernel_rfl) (hZ _ _ ⟨wZ, xA, mV, mW, eD, gK, gL, gM, gN, gO, rfl, gQ, gR, hL⟩)
         · refine ⟨_, rfl, ?_⟩
           refine OP.call rfl (zAq (vs := [(PV b1 0), (IV 2)]) zA6 ⟨gR, rfl, trivial⟩) (zAu _ (Src.mk a0.code aC.2.1 aC.2.2) (hL.exZ 2 1 (by decide) rfl rfl h3) (hL.get 1 rfl) 2 aS) ?_
           rintro aEg aBa ⟨rfl, qP⟩
           refine ⟨_, rfl, ?_⟩
           have hL := hL.mut 1 rfl qP
           simp only [lA, lB, lC, lD] at hL
           refine ⟨(hL.sl [0, 2] rfl), ?_⟩
           have hS := (hL.sl [0, 2] rfl)
           refine zAw 11 rfl (by kernel_rfl) rfl rfl hS (zAp (v := (IV (w64 (2 * aA.1)))) (fun w' hS' => zHP rfl rfl)) ?_
           have hS := (hL.sl [0, 2] rfl)
           refine zAw 12 rfl (by kernel_rfl) rfl rfl hS (zAp (v := (IV (w64 ((w64 (2 * aA.1)) - 1)))) (fun w' hS' => zCn rfl rfl)) ?_
           exact zAm (listed' := (bma 16 8091)) (by kernel_rfl) (pY _ _ ⟨gK, gL, gM, gN, gO, dJ, dK, gP, gQ, rfl, hL⟩)
         refine ⟨_, rfl, ?_⟩
         refine zBb (cs := #[(IV 0), (IV 0), (IV 0)]) hL zBz rfl rfl ?_
         intro aBb xB hL
         refine ⟨(hL.sl [1, 3] rfl), ?_⟩
         exact zAm (listed' := (bma 16 17307)) (by kernel_rfl) (iE _ _ ⟨xB, gK, gL, gM, gN, gO, rfl, dJ, dK, gP, gQ, gR, hL⟩)
       refine zAI (listed' := (bma 16 17051)) (fuel' := 9) (fun F w => ∃ bT, F 0 = (PV b1 0) ∧ F 5 = (IV x5.1) ∧ F 6 = (IV ((w64 ((w64 (x5.1 + 1)) + aD.1)).tmod 5)) ∧ F 7 = aB ∧ F 8 = (IV s_l1.2.2.2) ∧ F 9 = (PV bT 0) ∧ F 26 = (IV x5.1) ∧ F 27 = (IV ((w64 ((w64 (x5.1 + 1)) + aD.1)).tmod 5)) ∧ F 30 = (IV aG.1) ∧ F 33 = (PV b1 0) ∧ F 35 = (PV b1 0) ∧ Hp w0 [Ent.blk bT 108 #[(IV 0), (IV 0), (IV 0)], Ent.own 108 aF aB s_l1.2.2.1, Ent.blk b1 92 #[v2, (IV aG.2.1), (IV aG.2.2)], zAS w0 (Ent.blk b1 92 #[v2, .int .i64 a0.at_, .int .i64 a0.seed]).S] w) ?_ (fun iI => ?_)
       · intro aEh aBc hJ
         obtain ⟨bT, mX, mY, mZ, nA, nB, nC, gS, gT, nD, nE, nF, hL⟩ := hJ
         refine DH.all (rs := [2, 8]) (by kernel_rfl) (by simp) ?_
         intro aEi iJ
         simp only [List.mem_cons, List.not_mem_nil, or_false] at iJ
         rcases iJ with rfl | rfl
         · refine ⟨_, rfl, ?_⟩
           refine zBS ([x5.1, (w64 ((w64 (x5.1 + 1)) + aD.1)).tmod 5, 100, 101, 199] : List Int) hL U27 zAf rfl (by decide) (by first | (simp [Instr.fill, madeCells, Value.cells, ev, upd, Flat.enc, Flat.sz, gS, gT]; done) | rfl | (simp only [List.map_toArray, List.map_cons, List.map_nil]; rw [show ev _ (Operand.tmp 26) = _ from gS]; rw [show ev _ (Operand.tmp 27) = _ from gT]; kernel_rfl)) rfl rfl ?_
           intro aBd xC xD hL
           refine ⟨(hL.sl [2, 4] rfl), ?_⟩
           have hS := (hL.sl [2, 4] rfl)
           obtain ⟨qQ, qR⟩ := zAZ aI
           obtain ⟨nG, nH, eE⟩ := zAC (hL.rdO 0 rfl) qQ qR
           refine zAw 5 rfl (by kernel_rfl) rfl rfl hS (zAp (v := (.pointer (some ⟨nG, nH, none⟩))) (fun w' hS' => zA1 U27 zAf rfl nD eE)) ?_
           have hL := hL.sl [1, 0, 2, 3, 4] rfl
           exact zAm (listed' := (bma 16 17087)) (by kernel_rfl) (dS _ _ ⟨bT, xC, xD, nG, nH, eE, mX, mY, mZ, nA, nB, nC, rfl, nE, nF, hL⟩)
         refine ⟨_, rfl, ?_⟩
         refine OP.call rfl (zAq (vs := [(PV b1 0), (IV 4)]) zA6 ⟨nE, rfl, trivial⟩) (zAu _ (Src.mk a0.code aG.2.1 aG.2.2) (hL.exZ 3 2 (by decide) rfl rfl h3) (hL.get 2 rfl) 4 aR) ?_
         rintro aEj aBe ⟨rfl, qS⟩
         refine ⟨_, rfl, ?_⟩
         have hL := hL.mut 2 rfl qS
         simp only [lA, lB, lC, lD] at hL
         refine ⟨(hL.sl [1, 3] rfl), ?_⟩
         exact zAm (listed' := (bma 16 17307)) (by kernel_rfl) (iE _ _ ⟨bT, mX, mY, mZ, nA, nB, nC, gS, gT, nD, rfl, nF, hL⟩)
       refine zAI (listed' := (bma 16 655)) (fuel' := 10) (fun F w => ∃ bU dL, F 0 = (PV b1 0) ∧ F 5 = (IV x5.1) ∧ F 6 = (IV ((w64 ((w64 (x5.1 + 1)) + aD.1)).tmod 5)) ∧ F 7 = aB ∧ F 8 = (IV s_l1.2.2.2) ∧ F 28 = bU ∧ F 29 = (PV b1 0) ∧ F 33 = (PV b1 0) ∧ F 35 = (PV b1 0) ∧ Hp w0 [Ent.own 2 dL bU ([x5.1, (w64 ((w64 (x5.1 + 1)) + aD.1)).tmod 5, 100, 101, 199] : List Int), Ent.own 108 aF aB s_l1.2.2.1, Ent.blk b1 92 #[v2, (IV s_l1.1), (IV s_l1.2.1)], zAS w0 (Ent.blk b1 92 #[v2, .int .i64 a0.at_, .int .i64 a0.seed]).S] w) ?_ (fun qT => ?_)
       · intro aEk aBf hJ
         obtain ⟨bU, dL, nI, nJ, nK, nL, nM, nN, nO, nQ, nR, hL⟩ := hJ
         refine DH.all (rs := [4, 14]) (by kernel_rfl) (by simp) ?_
         intro aEl iK
         simp only [List.mem_cons, List.not_mem_nil, or_false] at iK
         rcases iK with rfl | rfl
         · refine ⟨_, rfl, ?_⟩
           refine OP.call rfl (zAq (vs := [(PV b1 0), (IV 5)]) zA6 ⟨nO, rfl, trivial⟩) (zAu _ (Src.mk a0.code s_l1.1 s_l1.2.1) (hL.exZ 3 2 (by decide) rfl rfl h3) (hL.get 2 rfl) 5 bE) ?_
           rintro aEm aBg ⟨rfl, qU⟩
           refine ⟨_, rfl, ?_⟩
           have hL := hL.mut 2 rfl qU
           simp only [lA, lB, lC, lD] at hL
           refine ⟨(hL.sl [1, 3] rfl), ?_⟩
           have hS := (hL.sl [1, 3] rfl)
           obtain ⟨qV, qW⟩ := zAZ aI
           obtain ⟨nS, nT, eF⟩ := zAC (hL.rdO 0 rfl) qV qW
           refine zAw 5 rfl (by kernel_rfl) rfl rfl hS (zAp (v := (.pointer (some ⟨nS, nT, none⟩))) (fun w' hS' => zA1 U27 zAf nN rfl eF)) ?_
           exact zAm (listed' := (bma 16 703)) (by kernel_rfl) (iC _ _ ⟨bU, dL, nS, nT, eF, nI, nJ, nK, nL, nM, rfl, nQ, nR, hL⟩)
         refine ⟨_, rfl, ?_⟩
         refine zBb (cs := #[(IV 0), (IV 0), (IV 0)]) hL zBz rfl rfl ?_
         intro aBh xE hL
         refine ⟨(hL.sl [2, 4] rfl), ?_⟩
         exact zAm (listed' := (bma 16 17039)) (by kernel_rfl) (iG _ _ ⟨xE, bU, dL, nI, nJ, nK, nL, nM, rfl, nN, nO, nQ, nR, hL⟩)
       refine zAI (listed' := (bma 16 667)) (fuel' := 10) (fun F w => F 0 = (PV b1 0) ∧ F 5 = (IV x5.1) ∧ F 6 = (IV ((w64 ((w64 (x5.1 + 1)) + aD.1)).tmod 5)) ∧ F 7 = aB ∧ F 8 = (IV s_l1.2.2.2) ∧ F 26 = (IV x5.1) ∧ F 27 = (IV ((w64 ((w64 (x5.1 + 1)) + aD.1)).tmod 5)) ∧ F 30 = (IV aG.1) ∧ F 33 = (PV b1 0) ∧ F 35 = (PV b1 0) ∧ Hp w0 [Ent.own 108 aF aB s_l1.2.2.1, Ent.blk b1 92 #[v2, (IV aG.2.1), (IV aG.2.2)], zAS w0 (Ent.blk b1 92 #[v2, .int .i64 a0.at_, .int .i64 a0.seed]).S] w) ?_ (fun qX => ?_)
       · intro aEn aBi hJ
         obtain ⟨gU, gV, gW, gX, gY, dM, dN, gZ, hA, hB, hL⟩ := hJ
         refine DH.all (rs := [2, 8, 14]) (by kernel_rfl) (by simp) ?_
         intro aEo iL
         simp only [List.mem_cons, List.not_mem_nil, or_false] at iL
         rcases iL with rfl | rfl | rfl
         · refine ⟨_, rfl, ?_⟩
           refine zBS ([x5.1, (w64 ((w64 (x5.1 + 1)) + aD.1)).tmod 5, 100, 101, 199] : List Int) hL U27 zAf rfl (by decide) (by first | (simp [Instr.fill, madeCells, Value.cells, ev, upd, Flat.enc, Flat.sz, dM, dN]; done) | rfl | (simp only [List.map_toArray, List.map_cons, List.map_nil]; rw [show ev _ (Operand.tmp 26) = _ from dM]; rw [show ev _ (Operand.tmp 27) = _ from dN]; kernel_rfl)) rfl rfl ?_
           intro aBj xF xG hL
           refine ⟨(hL.sl [1, 3] rfl), ?_⟩
           have hS := (hL.sl [1, 3] rfl)
           obtain ⟨qY, qZ⟩ := zAZ aI
           obtain ⟨nU, nV, eG⟩ := zAC (hL.rdO 0 rfl) qY qZ
           refine zAw 5 rfl (by kernel_rfl) rfl rfl hS (zAp (v := (.pointer (some ⟨nU, nV, none⟩))) (fun w' hS' => zA1 U27 zAf rfl gZ eG)) ?_
           exact zAm (listed' := (bma 16 703)) (by kernel_rfl) (iC _ _ ⟨xF, xG, nU, nV, eG, gU, gV, gW, gX, gY, rfl, hA, hB, hL⟩)
         · refine ⟨_, rfl, ?_⟩
           refine OP.call rfl (zAq (vs := [(PV b1 0), (IV 4)]) zA6 ⟨hA, rfl, trivial⟩) (zAu _ (Src.mk a0.code aG.2.1 aG.2.2) (hL.exZ 2 1 (by decide) rfl rfl h3) (hL.get 1 rfl) 4 aR) ?_
           rintro aEp aBk ⟨rfl, rA⟩
           refine ⟨_, rfl, ?_⟩
           have hL := hL.mut 1 rfl rA
           simp only [lA, lB, lC, lD] at hL
           refine ⟨(hL.sl [0, 2] rfl), ?_⟩
           exact zAm (listed' := (bma 16 923)) (by kernel_rfl) (qM _ _ ⟨gU, gV, gW, gX, gY, dM, dN, gZ, rfl, hB, hL⟩)
         refine ⟨_, rfl, ?_⟩
         refine zBb (cs := #[(IV 0), (IV 0), (IV 0)]) hL zBz rfl rfl ?_
         intro aBl xH hL
         refine ⟨(hL.sl [1, 3] rfl), ?_⟩
         exact zAm (listed' := (bma 16 17051)) (by kernel_rfl) (iI _ _ ⟨xH, gU, gV, gW, gX, gY, rfl, dM, dN, gZ, hA, hB, hL⟩)
       refine zAI (listed' := (bma 16 17035)) (fuel' := 10) (fun F w => ∃ bV, F 0 = (PV b1 0) ∧ F 5 = (IV x5.1) ∧ F 6 = (IV ((w64 ((w64 (x5.1 + 1)) + aD.1)).tmod 5)) ∧ F 7 = aB ∧ F 8 = (IV s_l1.2.2.2) ∧ F 9 = (PV bV 0) ∧ F 26 = (IV x5.1) ∧ F 27 = (IV ((w64 ((w64 (x5.1 + 1)) + aD.1)).tmod 5)) ∧ F 29 = (PV b1 0) ∧ F 33 = (PV b1 0) ∧ F 35 = (PV b1 0) ∧ Hp w0 [Ent.blk bV 108 #[(IV 0), (IV 0), (IV 0)], Ent.own 108 aF aB s_l1.2.2.1, Ent.blk b1 92 #[v2, (IV s_l1.1), (IV s_l1.2.1)], zAS w0 (Ent.blk b1 92 #[v2, .int .i64 a0.at_, .int .i64 a0.seed]).S] w) ?_ (fun rB => ?_)
       · intro aEq aBm hJ
         obtain ⟨bV, nW, nX, nY, nZ, oA, oB, hC, hD, oC, oD, oE, hL⟩ := hJ
         refine DH.all (rs := [2, 4]) (by kernel_rfl) (by simp) ?_
         intro aEr iM
         simp only [List.mem_cons, List.not_mem_nil, or_false] at iM
         rcases iM with rfl | rfl
         · refine ⟨_, rfl, ?_⟩
           refine zBS ([x5.1, (w64 ((w64 (x5.1 + 1)) + aD.1)).tmod 5, 100, 101, 199] : List Int) hL U27 zAf rfl (by decide) (by first | (simp [Instr.fill, madeCells, Value.cells, ev, upd, Flat.enc, Flat.sz, hC, hD]; done) | rfl | (simp only [List.map_toArray, List.map_cons, List.map_nil]; rw [show ev _ (Operand.tmp 26) = _ from hC]; rw [show ev _ (Operand.tmp 27) = _ from hD]; kernel_rfl)) rfl rfl ?_
           intro aBn xI xJ hL
           refine ⟨(hL.sl [2, 4] rfl), ?_⟩
           have hL := hL.sl [1, 0, 2, 3, 4] rfl
           exact zAm (listed' := (bma 16 17039)) (by kernel_rfl) (iG _ _ ⟨bV, xI, xJ, nW, nX, nY, nZ, oA, oB, rfl, oC, oD, oE, hL⟩)
         refine ⟨_, rfl, ?_⟩
         refine OP.call rfl (zAq (vs := [(PV b1 0), (IV 5)]) zA6 ⟨oC, rfl, trivial⟩) (zAu _ (Src.mk a0.code s_l1.1 s_l1.2.1) (hL.exZ 3 2 (by decide) rfl rfl h3) (hL.get 2 rfl) 5 bE) ?_
         rintro aEs aBo ⟨rfl, rC⟩
         refine ⟨_, rfl, ?_⟩
         have hL := hL.mut 2 rfl rC
         simp only [lA, lB, lC, lD] at hL
         refine ⟨(hL.sl [1, 3] rfl), ?_⟩
         exact zAm (listed' := (bma 16 17051)) (by kernel_rfl) (iI _ _ ⟨bV, nW, nX, nY, nZ, oA, oB, hC, hD, rfl, oD, oE, hL⟩)
       refine DH.all (rs := [2, 4, 14]) (by kernel_rfl) (by simp) ?_
       intro aEt iN
       simp only [List.mem_cons, List.not_mem_nil, or_false] at iN
       rcases iN with rfl | rfl | rfl
       · refine ⟨_, rfl, ?_⟩
         refine zBS ([x5.1, (w64 ((w64 (x5.1 + 1)) + aD.1)).tmod 5, 100, 101, 199] : List Int) hL U27 zAf rfl (by decide) (by first | (simp [Instr.fill, madeCells, Value.cells, ev, upd, Flat.enc, Flat.sz]; done) | rfl | kernel_rfl) rfl rfl ?_
         intro aBp xK xL hL
         refine ⟨(hL.sl [1, 3] rfl), ?_⟩
         exact zAm (listed' := (bma 16 655)) (by kernel_rfl) (qT _ _ ⟨xK, xL, aU, bB, bC, cF, bD, rfl, rfl, rfl, rfl, hL⟩)
       · refine ⟨_, rfl, ?_⟩
         refine OP.call rfl (zAq (vs := [(PV b1 0), (IV 5)]) zA6 ⟨rfl, rfl, trivial⟩) (zAu _ (Src.mk a0.code s_l1.1 s_l1.2.1) (hL.exZ 2 1 (by decide) rfl rfl h3) (hL.get 1 rfl) 5 bE) ?_
         rintro aEu aBq ⟨rfl, rD⟩
         refine ⟨_, rfl, ?_⟩
         have hL := hL.mut 1 rfl rD
         simp only [lA, lB, lC, lD] at hL
         refine ⟨(hL.sl [0, 2] rfl), ?_⟩
         exact zAm (listed' := (bma 16 667)) (by kernel_rfl) (qX _ _ ⟨aU, bB, bC, cF, bD, rfl, rfl, rfl, rfl, rfl, hL⟩)
       refine ⟨_, rfl, ?_⟩
       refine zBb (cs := #[(IV 0), (IV 0), (IV 0)]) hL zBz rfl rfl ?_
       intro aBr xM hL
       refine ⟨(hL.sl [1, 3] rfl), ?_⟩
       exact zAm (listed' := (bma 16 17035)) (by kernel_rfl) (rB _ _ ⟨xM, aU, bB, bC, cF, bD, rfl, rfl, rfl, rfl, rfl, rfl, hL⟩)
     intro s_j6 aEv aBs hJ hm
     unfold zFk at hm
     obtain ⟨cH, eN, xN, xO, xP, xQ, xR, hL⟩ := hJ
     exact ⟨(s_j6.1, s_j6.2.1, s_j6.2.2), hm, ⟨cH, eN, xN, xO, xP, xQ, xR, hL⟩⟩
   intro s_j5 aEw aBt hJ hm
   unfold zGZ at hm
   obtain ⟨cG, eM, xS, xT, xU, xV, xW, hL⟩ := hJ
   refine zAl <| OV (IV s_l1.2.2.2) rfl (zAo xW) <| OV (IV (w64 (s_l1.2.2.2 - 1))) rfl (zCn rfl rfl) <| OV (IV (w64 (s_l1.2.2.2 - 1))) rfl (zAb) <| OW.nil ?_
   obtain rfl := oi hm
   exact ⟨_, rfl, ⟨cG, eM, xS, xT, xU, xV, rfl, hL⟩⟩
 refine zA0 ?_
 refine zBk ?_
 obtain rfl := oi hm
 exact ⟨_, rfl, ⟨aB, aF, aU, bB, bC, cF, bD, hL⟩⟩

theorem zJN (w0 : World) (a0 : List UInt8) {v1 : Value} (h2 : rdL (· < w0.heap.size) w0 v1 a0) {r : Int × Int × Int × Int × Int} (hm : zDU a0 = some r) :
    Calls Tryz.prog 17 #[v1] w0 fun e w' => e = .returned (.tuple #[(IV r.1), (IV r.2.1), (IV r.2.2.1), (IV r.2.2.2.1), (IV r.2.2.2.2)]) ∧ Fresh w0 w' [] := by
 unfold zDU at hm
 refine zAD (args := [v1]) Tryz.func17 rfl rfl rfl ?_
 have hL := zAJ w0
 refine CSR <| OV (IV 0) rfl (zAb) <| OV (IV 0) rfl (zAb) <| OV (IV 0) rfl (zAb) <| OV (IV 0) rfl (zAb) <| OV (IV 0) rfl (zAb) <| ONR <| OV v1 rfl (zAe) ?_
 obtain ⟨x3, hx4, hm⟩ := zAs hm
 refine zAa (OP.call rfl (zAq (vs := [v1]) zOx ⟨rfl, trivial⟩) (zJZ _ a0 (hL.rdS 0 rfl h2) hx4) ?_)
 rintro e6 wd7 ⟨b5, rfl, hF8⟩
 refine ⟨_, rfl, ?_⟩
 have hL := hL.pushAll hF8
 simp only [lA, lB, lC, lD] at hL
 refine OV (PV b5 0) rfl (zAb) <| ONR <| OV (PV b5 0) rfl (zAe) ?_
 obtain ⟨x9, aM, hm⟩ := zAs hm
 refine zAa (OP.call rfl (zAq (vs := [(PV b5 0)]) zRj ⟨rfl, trivial⟩) (zL5 _ (Src.mk a0 x3.1 x3.2) (hL.exS 1 0 (by decide) rfl rfl h2) (hL.get 0 rfl) aM) ?_)
 rintro bU bL ⟨aE, bE, rfl, aN⟩
 refine ⟨_, rfl, ?_⟩
 have hL := hL.mut 0 rfl aN
 simp only [lA, lB, lC, lD] at hL
 refine OV (.tuple #[(IV x9.1.1), (IV x9.1.2.1), aE]) rfl (zAe) <| OV (IV x9.1.1) rfl (zA7 rfl rfl) <| OV (IV x9.1.2.1) rfl (zA7 rfl rfl) <| OV aE rfl (zA7 rfl rfl) <| OV (IV x9.1.1) rfl (zAb) <| OV (IV x9.1.2.1) rfl (zAb) <| OV aE rfl (zAb) <| ONR <| OV (PV b5 0) rfl (zAe) ?_
 obtain ⟨aC, aO, hm⟩ := zAs hm
 refine zAa (OP.call rfl (zAq (vs := [(PV b5 0), (IV 13)]) zA6 ⟨rfl, rfl, trivial⟩) (zAu _ (Src.mk a0 x9.2.1 x9.2.2) (hL.exS 2 1 (by decide) rfl rfl h2) (hL.get 1 rfl) 13 aO) ?_)
 rintro bV bM ⟨rfl, aP⟩
 refine ⟨_, rfl, ?_⟩
 have hL := hL.mut 1 rfl aP
 simp only [lA, lB, lC, lD] at hL
 refine OV (PV b5 0) rfl (zAe) ?_
 obtain ⟨aB, aQ, hm⟩ := zAs hm
 refine zAa (OP.call rfl (zAq (vs := [(PV b5 0), (IV 24)]) zA6 ⟨rfl, rfl, trivial⟩) (zAu _ (Src.mk a0 aC.2.1 aC.2.2) (hL.exS 2 1 (by decide) rfl rfl h2) (hL.get 1 rfl) 24 aQ) ?_)
 rintro bW bN ⟨rfl, aR⟩
 refine ⟨_, rfl, ?_⟩
 have hL := hL.mut 1 rfl aR
 simp only [lA, lB, lC, lD] at hL
 refine OV (IV (w64 (aB.1.tdiv 23))) rfl (zL1 rfl rfl (by decide)) <| OV (IV (w64 (aC.1 - (w64 (aB.1.tdiv 23))))) rfl (zCn rfl rfl) <| OV (IV (w64 (aC.1 - (w64 (aB.1.tdiv 23))))) rfl (zAb) <| ONR <| OV (PV b5 0) rfl (zAe) ?_
 obtain ⟨aD, aS, hm⟩ := zAs hm
 refine zAa (OP.call rfl (zAq (vs := [(PV b5 0), (IV 4)]) zA6 ⟨rfl, rfl, trivial⟩) (zAu _ (Src.mk a0 aB.2.1 aB.2.2) (hL.exS 2 1 (by decide) rfl rfl h2) (hL.get 1 rfl) 4 aS) ?_)
 rintro bX bO ⟨rfl, aT⟩
 refine ⟨_, rfl, ?_⟩
 have hL := hL.mut 1 rfl aT
 simp only [lA, lB, lC, lD] at hL
 refine OV (PV b5 0) rfl (zAe) ?_
 obtain ⟨aA, aU, hm⟩ := zAs hm
 refine zAa (OP.call rfl (zAq (vs := [(PV b5 0), (IV 24)]) zA6 ⟨rfl, rfl, trivial⟩) (zAu _ (Src.mk a0 aD.2.1 aD.2.2) (hL.exS 2 1 (by decide) rfl rfl h2) (hL.get 1 rfl) 24 aU) ?_)
 rintro bY bP ⟨rfl, aV⟩
 refine ⟨_, rfl, ?_⟩
 have hL := hL.mut 1 rfl aV
 simp only [lA, lB, lC, lD] at hL
 refine OV (IV (w64 (aA.1.tdiv 23))) rfl (zL1 rfl rfl (by decide)) <| OV (IV (w64 (aD.1 + (w64 (aA.1.tdiv 23))))) rfl (zBe rfl rfl) <| OV (IV (w64 (aD.1 + (w64 (aA.1.tdiv 23))))) rfl (zAb) <| ONS ?_
 refine zDG (fun w' => Hp w0 [Ent.own 108 bE aE x9.1.2.2, zAg w0 w0.heap.size] w') zAQ ?_
 have hL := hL.call (zA8 _)
 have hS := (hL.sl [0, 2] rfl)
 refine zAw 0 rfl (by kernel_rfl) rfl rfl hS (zAp (v := (IV (w64 (aC.1 - (w64 (aB.1.tdiv 23)))))) (fun w' hS' => zAe)) ?_
 have hS := (hL.sl [0, 2] rfl)
 refine zAw 1 rfl (by kernel_rfl) rfl rfl hS (zAp (v := (IV x9.1.1)) (fun w' hS' => zAe)) ?_
 have hS := (hL.sl [0, 2] rfl)
 refine zAw 2 rfl (by kernel_rfl) rfl rfl hS (zAp (v := (IV x9.1.2.1)) (fun w' hS' => zAe)) ?_
 have hS := (hL.sl [0, 2] rfl)
 refine zAw 3 rfl (by kernel_rfl) rfl rfl hS (zAp (v := (IV (w64 (aD.1 + (w64 (aA.1.tdiv 23)))))) (fun w' hS' => zAe)) ?_
 have hS := (hL.sl [0, 2] rfl)
 refine zAw 5 rfl (by kernel_rfl) rfl rfl hS (zAp (v := (PV b5 0)) (fun w' hS' => zAe)) ?_
 refine DH.all (rs := [4, 6]) (by kernel_rfl) (by simp) ?_
 intro bZ aH
 simp only [List.mem_cons, List.not_mem_nil, or_false] at aH
 rcases aH with rfl | rfl
 · refine ⟨_, rfl, ?_⟩
   refine zBS ([6, 7, 5, 4] : List Int) hL U27 zAf rfl (by decide) (by first | (simp [Instr.fill, madeCells, Value.cells, ev, upd, Flat.enc, Flat.sz]; done) | rfl | kernel_rfl) rfl rfl ?_
   intro bQ cA cB hL
   refine ⟨(hL.sl [1, 3] rfl), ?_⟩
   obtain ⟨bF, aW, hm⟩ := zAs hm
   refine zAT 6 rfl (by kernel_rfl) (OP.call rfl (zAq (vs := [(PV b5 0), (IV 7)]) zA6 ⟨rfl, rfl, trivial⟩) (zAu _ (Src.mk a0 aA.2.1 aA.2.2) (hL.exS 3 2 (by decide) rfl rfl h2) (hL.get 2 rfl) 7 aW) ?_)
   rintro cC bR ⟨rfl, aX⟩
   refine ⟨_, rfl, ?_⟩
   have hL := hL.mut 2 rfl aX
   simp only [lA, lB, lC, lD] at hL
   refine ⟨(hL.sl [1, 3] rfl), ?_⟩
   have hS := (hL.sl [1, 3] rfl)
   refine zAw 7 rfl (by kernel_rfl) rfl rfl hS (zAp (v := (IV (w64 (bF.1.tdiv 2)))) (fun w' hS' => zL1 rfl rfl (by decide))) ?_
   have hS := (hL.sl [1, 3] rfl)
   obtain ⟨aI, aY, hm⟩ := zAs hm
   obtain ⟨aZ, aJ⟩ := zAZ aY
   obtain ⟨bG, bH, aF⟩ := zAC (hL.rdO 0 rfl) aZ aJ
   refine zAw 8 rfl (by kernel_rfl) rfl rfl hS (zAp (v := (.pointer (some ⟨bG, bH, none⟩))) (fun w' hS' => zA1 U27 zAf rfl rfl aF)) ?_
   have hS := (hL.sl [1, 3] rfl)
   refine zAw 10 rfl (by kernel_rfl) rfl rfl hS (zAp (v := (IV (w64 (aC.1 - (w64 (aB.1.tdiv 23)))))) (fun w' hS' => zAb)) ?_
   have hS := (hL.sl [1, 3] rfl)
   refine zAw 11 rfl (by kernel_rfl) rfl rfl hS (zAp (v := (IV x9.1.1)) (fun w' hS' => zAb)) ?_
   have hS := (hL.sl [1, 3] rfl)
   refine zAw 12 rfl (by kernel_rfl) rfl rfl hS (zAp (v := (IV x9.1.2.1)) (fun w' hS' => zAb)) ?_
   have hS := (hL.sl [1, 3] rfl)
   refine zAw 13 rfl (by kernel_rfl) rfl rfl hS (zAp (v := (IV (w64 (aD.1 + (w64 (aA.1.tdiv 23)))))) (fun w' hS' => zAb)) ?_
   refine zAT 9 rfl (by kernel_rfl) (zAk (v := (IV aI)) rfl (zAd U2 rfl rfl (zAv (hL.rdO 0 rfl) aF aJ 0 _ rfl)) ?_)
   refine ⟨(hL.sl [1, 3] rfl), ?_⟩
   have hS := (hL.sl [1, 3] rfl)
   refine zAw 14 rfl (by kernel_rfl) rfl rfl hS (zAp (v := (IV aI)) (fun w' hS' => zAb)) ?_
   refine zDB (by kernel_rfl) ?_
   refine zAx ?_
   obtain rfl := oi hm
   exact RRs (v := (IV (w64 (aC.1 - (w64 (aB.1.tdiv 23)))))) (v2 := (IV x9.1.1)) (vs := [(IV x9.1.2.1), (IV (w64 (aD.1 + (w64 (aA.1.tdiv 23))))), (IV aI)]) (rs := [.tmp 2, .tmp 3, .tmp 4, .tmp 5, .tmp 6]) rfl ⟨zJs rfl, zJs rfl, zJs rfl, zJs rfl, zJs rfl, trivial⟩ ⟨rfl, hL.fresh 3 rfl [] (by decide) (by decide) rfl⟩
 refine ⟨_, rfl, ?_⟩
 obtain ⟨bI, bA, hm⟩ := zAs hm
 refine OP.call rfl (zAq (vs := [(PV b5 0), (IV 7)]) zA6 ⟨rfl, rfl, trivial⟩) (zAu _ (Src.mk a0 aA.2.1 aA.2.2) (hL.exS 2 1 (by decide) rfl rfl h2) (hL.get 1 rfl) 7 bA) ?_
 rintro cD bS ⟨rfl, bB⟩
 refine ⟨_, rfl, ?_⟩
 have hL := hL.mut 1 rfl bB
 simp only [lA, lB, lC, lD] at hL
 refine ⟨(hL.sl [0, 2] rfl), ?_⟩
 have hS := (hL.sl [0, 2] rfl)
 refine zAw 7 rfl (by kernel_rfl) rfl rfl hS (zAp (v := (IV (w64 (bI.1.tdiv 2)))) (fun w' hS' => zL1 rfl rfl (by decide))) ?_
 have hS := (hL.sl [0, 2] rfl)
 refine zAw 10 rfl (by kernel_rfl) rfl rfl hS (zAp (v := (IV (w64 (aC.1 - (w64 (aB.1.tdiv 23)))))) (fun w' hS' => zAb)) ?_
 have hS := (hL.sl [0, 2] rfl)
 refine zAw 11 rfl (by kernel_rfl) rfl rfl hS (zAp (v := (IV x9.1.1)) (fun w' hS' => zAb)) ?_
 have hS := (hL.sl [0, 2] rfl)
 refine zAw 12 rfl (by kernel_rfl) rfl rfl hS (zAp (v := (IV x9.1.2.1)) (fun w' hS' => zAb)) ?_
 have hS := (hL.sl [0, 2] rfl)
 refine zAw 13 rfl (by kernel_rfl) rfl rfl hS (zAp (v := (IV (w64 (aD.1 + (w64 (aA.1.tdiv 23)))))) (fun w' hS' => zAb)) ?_
 refine zAT 4 rfl (by kernel_rfl) (zBS ([6, 7, 5, 4] : List Int) hL U27 zAf rfl (by decide) (by first | (simp [Instr.fill, madeCells, Value.cells, ev, upd, Flat.enc, Flat.sz]; done) | rfl | kernel_rfl) rfl rfl ?_)
 intro bT cE cF hL
 refine ⟨(hL.sl [1, 3] rfl), ?_⟩
 have hS := (hL.sl [1, 3] rfl)
 obtain ⟨aK, bC, hm⟩ := zAs hm
 obtain ⟨bD, aL⟩ := zAZ bC
 obtain ⟨bJ, bK, aG⟩ := zAC (hL.rdO 0 rfl) bD aL
 refine zAw 8 rfl (by kernel_rfl) rfl rfl hS (zAp (v := (.pointer (some ⟨bJ, bK, none⟩))) (fun w' hS' => zA1 U27 zAf rfl rfl aG)) ?_
 refine zAT 9 rfl (by kernel_rfl) (zAk (v := (IV aK)) rfl (zAd U2 rfl rfl (zAv (hL.rdO 0 rfl) aG aL 0 _ rfl)) ?_)
 refine ⟨(hL.sl [1, 3] rfl), ?_⟩
 have hS := (hL.sl [1, 3] rfl)
 refine zAw 14 rfl (by kernel_rfl) rfl rfl hS (zAp (v := (IV aK)) (fun w' hS' => zAb)) ?_
 refine zDB (by kernel_rfl) ?_
 refine zAx ?_
 obtain rfl := oi hm
 exact RRs (v := (IV (w64 (aC.1 - (w64 (aB.1.tdiv 23)))))) (v2 := (IV x9.1.1)) (vs := [(IV x9.1.2.1), (IV (w64 (aD.1 + (w64 (aA.1.tdiv 23))))), (IV aK)]) (rs := [.tmp 2, .tmp 3, .tmp 4, .tmp 5, .tmp 6]) rfl ⟨zJs rfl, zJs rfl, zJs rfl, zJs rfl, zJs rfl, trivial⟩ ⟨rfl, hL.fresh 3 rfl [] (by decide) (by decide) rfl⟩

theorem zKW (w0 : World) (a0 : Int) (a1 : Int) {r : Bool} (hm : zG1 a0 a1 = some r) :
    Calls Tryz.prog 87 #[(IV a0), (IV a1)] w0 fun e w' => e = .returned (.bool r) ∧ Fresh w0 w' [] := by
 unfold zG1 at hm
 refine zAD (args := [(IV a0), (IV a1)]) Tryz.func87 rfl rfl rfl ?_
 have hL := zAJ w0
 refine CSR <| OV (.bool false) rfl (zAb) <| OW.nil ?_
 refine zAM (fun (s_j1 : Bool) F w => F 4 = (.bool s_j1) ∧ Hp w0 [zAg w0 w0.heap.size] w) (fun s_j1 => zDV s_j1 = some r) ?_ ?_
 · refine zAl <| OV (IV a0) rfl (zAe) ?_
   obtain ⟨aH, aD, hm⟩ := zAs hm
   refine zAa (OP.call rfl (zAq (vs := [(IV a0)]) zK0 ⟨rfl, trivial⟩) (zHz _ a0 aD) ?_)
   rintro aM aJ ⟨rfl, aE⟩
   refine ⟨_, rfl, ?_⟩
   have hL := hL.pushAll aE
   simp only [lA, lB, lC, lD] at hL
   refine OV (.bool aH) rfl (zAe) ?_
   refine zAH hm (fun aB hm => ?_) (fun aB hm => ?_)
   · refine zAa (zAj rfl rfl aB (zAk (v := (IV a1)) rfl (zAe) ?_))
     obtain ⟨aC, aF, hm⟩ := zAs hm
     refine zAa (zAj rfl rfl aB (OP.call rfl (zAq (vs := [(IV a1)]) zK0 ⟨rfl, trivial⟩) (zHz _ a1 aF) ?_))
     rintro aN aK ⟨rfl, aG⟩
     refine ⟨_, rfl, ?_⟩
     have hL := hL.pushAll aG
     simp only [lA, lB, lC, lD] at hL
     refine OV (.bool aC) rfl (zAz rfl aB rfl) <| OV (.bool aC) rfl (zAe) ?_
     refine zAH hm (fun aA hm => ?_) (fun aA hm => ?_)
     · refine zAa (zAj rfl rfl aA (zAk (v := (IV a0)) rfl (zAe) ?_))
       refine zAa (zAj rfl rfl aA (zAk (v := (IV a1)) rfl (zAe) ?_))
       refine zAa (zAj rfl rfl aA (zAk (v := (.bool (a0 != a1))) rfl (zDk rfl rfl) ?_))
       refine OV (.bool (a0 != a1)) rfl (zAz rfl aA rfl) <| OV (.bool (a0 != a1)) rfl (zAb) <| OW.nil ?_
       exact ⟨a0 != a1, hm, ⟨rfl, hL⟩⟩
     refine zAa (zAh rfl rfl aA rfl ?_)
     refine zAa (zAh rfl rfl aA rfl ?_)
     refine zAa (zAh rfl rfl aA rfl ?_)
     refine OV (.bool false) rfl (zAA rfl aA rfl) <| OV (.bool false) rfl (zAb) <| OW.nil ?_
     exact ⟨false, hm, ⟨rfl, hL⟩⟩
   refine zAa (zAh rfl rfl aB rfl ?_)
   refine zAa (zAh rfl rfl aB rfl ?_)
   refine OV (.bool false) rfl (zAA rfl aB rfl) <| OV (.bool false) rfl (zAe) ?_
   refine zAa (zAh rfl rfl rfl rfl ?_)
   refine zAa (zAh rfl rfl rfl rfl ?_)
   refine zAa (zAh rfl rfl rfl rfl ?_)
   refine OV (.bool false) rfl (zAA rfl rfl rfl) <| OV (.bool false) rfl (zAb) <| OW.nil ?_
   exact ⟨false, hm, ⟨rfl, hL⟩⟩
 intro s_j1 aO aL hJ hm
 unfold zDV at hm
 obtain ⟨aI, hL⟩ := hJ
 refine zAx ?_
 obtain rfl := oi hm
 exact RR1 rfl aI ⟨rfl, hL.fresh 0 rfl [] (by decide) (by decide) rfl⟩

theorem zLp (w0 : World) (a0 : Int) {r : Bool} (hm : zII a0 = some r) :
    Calls Tryz.prog 88 #[(IV a0)] w0 fun e w' => e = .returned (.bool r) ∧ Fresh w0 w' [] := by
 unfold zII at hm
 refine zAD (args := [(IV a0)]) Tryz.func88 rfl rfl rfl ?_
 have hL := zAJ w0
 refine CSR <| OV (.bool false) rfl (zAb) <| ONR <| OV (IV a0) rfl (zAe) ?_
 obtain ⟨x1, hx2, hm⟩ := zAs hm
 refine zAa (OP.call rfl (zAq (vs := [(IV a0), (IV 0), (IV 3)]) zD4 ⟨rfl, rfl, rfl, trivial⟩) (zBn _ a0 0 3 hx2) ?_)
 rintro e3 wd4 ⟨rfl, hF5⟩
 refine ⟨_, rfl, ?_⟩
 have hL := hL.pushAll hF5
 simp only [lA, lB, lC, lD] at hL
 refine OV (.bool x1) rfl (zAb) <| OW.nil <| zAx ?_
 obtain rfl := oi hm
 exact RR1 rfl rfl ⟨rfl, hL.fresh 0 rfl [] (by decide) (by decide) rfl⟩

theorem zJ9 (w0 : World) (a0 : Int) (a1 : Int) (a2 : Int) {r : (List Int) × Int} (hm : zED a0 a1 a2 = some r) :
    Calls Tryz.prog 51 #[(IV a0), (IV a1), (IV a2)] w0 fun e w' => ∃ (rv0 : Value) (rS0 : Nat → Prop), e = .returned (.tuple #[rv0, (IV r.2)]) ∧ Fresh w0 w' [Ent.own 2 rS0 rv0 r.1] := by
 unfold zED at hm
 refine zAD (args := [(IV a0), (IV a1), (IV a2)]) Tryz.func51 rfl rfl rfl ?_
 have hL := zAJ w0
 refine CSR <| OV (.slice none 0 0) rfl (zAb) <| OV (IV 0) rfl (zAb) <| ONS ?_
 refine zAM (fun (s_j1 : Bool) F w => F 0 = (IV a0) ∧ F 1 = (IV a1) ∧ F 2 = (IV a2) ∧ F 16 = (.bool s_j1) ∧ Hp w0 [zAg w0 w0.heap.size] w) (fun s_j1 => zCv a0 a1 a2 s_j1 = some r) ?_ ?_
 · refine zAl <| OV (IV a0) rfl (zAe) <| OV (IV a1) rfl (zAe) ?_
   obtain ⟨aE, aI, hm⟩ := zAs hm
   refine zAa (OP.call rfl (zAq (vs := [(IV a0), (IV a1)]) zRG ⟨rfl, rfl, trivial⟩) (zKW _ a0 a1 aI) ?_)
   rintro bB aV ⟨rfl, aJ⟩
   refine ⟨_, rfl, ?_⟩
   have hL := hL.pushAll aJ
   simp only [lA, lB, lC, lD] at hL
   refine OV (.bool (!aE)) rfl (zCb rfl) <| OV (.bool (!aE)) rfl (zAe) ?_
   refine zAH hm (fun aA hm => ?_) (fun aA hm => ?_)
   · refine zAa (zAh rfl rfl aA rfl ?_)
     refine zAa (zAh rfl rfl aA rfl ?_)
     refine zAa (zAh rfl rfl aA rfl ?_)
     refine OV (.bool true) rfl (zAz rfl aA rfl) <| OW.nil ?_
     exact ⟨true, hm, ⟨rfl, rfl, rfl, rfl, hL⟩⟩
   refine zAa (zAj rfl rfl aA (zAk (v := (IV a2)) rfl (zAe) ?_))
   obtain ⟨aB, aK, hm⟩ := zAs hm
   refine zAa (zAj rfl rfl aA (OP.call rfl (zAq (vs := [(IV a2)]) zRH ⟨rfl, trivial⟩) (zLp _ a2 aK) ?_))
   rintro bC aW ⟨rfl, aL⟩
   refine ⟨_, rfl, ?_⟩
   have hL := hL.pushAll aL
   simp only [lA, lB, lC, lD] at hL
   refine zAa (zAj rfl rfl aA (zAk (v := (.bool (!aB))) rfl (zCb rfl) ?_))
   refine OV (.bool (!aB)) rfl (zAA rfl aA rfl) <| OW.nil ?_
   exact ⟨!aB, hm, ⟨rfl, rfl, rfl, rfl, hL⟩⟩
 intro s_j1 bD aX hJ hm
 unfold zCv at hm
 obtain ⟨aC, aD, aQ, aR, hL⟩ := hJ
 refine zAn (t := s_j1) aR hm (fun aM hm => ?_) (fun aM hm => ?_)
 · refine CSR <| OV (.slice none 0 0) rfl (zAb) <| OV (IV 2) rfl (zAb) <| OW.nil <| zAx ?_
   have hL := hL.pushNil Int 2
   obtain rfl := oi hm
   exact RR2 rfl rfl rfl ⟨(.slice none 0 0), zBO, rfl, hL.fresh 1 rfl [0] (by decide) (by decide) rfl⟩
 refine zAt <| zAF <| CSR <| OV (IV a2) rfl (zAo aQ) <| OW.nil <| CW.block <| CSR <| OV (.bool (a2 == 1)) rfl (zBv rfl rfl) <| OV (.bool (a2 == 1)) rfl (zAb) <| OW.nil ?_
 refine zAn (t := a2 == 1) rfl hm (fun aN hm => ?_) (fun aN hm => ?_)
 · refine CSR <| OV (IV a1) rfl (zAo aD) ?_
   refine zAa (zBS ([a1] : List Int) hL U27 zAf rfl (by decide) (by first | (simp [Instr.fill, madeCells, Value.cells, ev, upd, Flat.enc, Flat.sz]; done) | rfl | kernel_rfl) rfl rfl ?_)
   intro aY aF aS hL
   refine OV aF rfl (zAb) <| OV (IV 0) rfl (zAb) <| OW.nil <| zAx ?_
   obtain rfl := oi hm
   exact RR2 rfl rfl rfl ⟨aF, aS, rfl, hL.fresh 1 rfl [0] (by decide) (by decide) rfl⟩
 refine CSR <| OV (.bool (a2 == 2)) rfl (zBv rfl rfl) <| OV (.bool (a2 == 2)) rfl (zAb) <| OW.nil ?_
 refine zAn (t := a2 == 2) rfl hm (fun aO hm => ?_) (fun aO hm => ?_)
 · refine CSR <| OV (IV a0) rfl (zAo aC) ?_
   refine zAa (zBS ([a0] : List Int) hL U27 zAf rfl (by decide) (by first | (simp [Instr.fill, madeCells, Value.cells, ev, upd, Flat.enc, Flat.sz]; done) | rfl | kernel_rfl) rfl rfl ?_)
   intro aZ aG aT hL
   refine OV aG rfl (zAb) <| OV (IV 0) rfl (zAb) <| OW.nil <| zAx ?_
   obtain rfl := oi hm
   exact RR2 rfl rfl rfl ⟨aG, aT, rfl, hL.fresh 1 rfl [0] (by decide) (by decide) rfl⟩
 refine CSR <| OV (.bool (a2 == 3)) rfl (zBv rfl rfl) <| OV (.bool (a2 == 3)) rfl (zAb) <| OW.nil ?_
 refine zAn (t := a2 == 3) rfl hm (fun aP hm => ?_) (fun aP hm => ?_)
 · refine CSR <| OV (IV a0) rfl (zAo aC) <| OV (IV a1) rfl (zAo aD) <| OV (IV (min a0 a1)) rfl (zKP rfl rfl) <| OV (IV a0) rfl (zAo aC) <| OV (IV a1) rfl (zAo aD) <| OV (IV (max a0 a1)) rfl (zKQ rfl rfl) ?_
   refine zAa (zBS ([min a0 a1, max a0 a1] : List Int) hL U27 zAf rfl (by decide) (by first | (simp [Instr.fill, madeCells, Value.cells, ev, upd, Flat.enc, Flat.sz]; done) | rfl | kernel_rfl) rfl rfl ?_)
   intro bA aH aU hL
   refine OV aH rfl (zAb) <| OV (IV 0) rfl (zAb) <| OW.nil <| zAx ?_
   obtain rfl := oi hm
   exact RR2 rfl rfl rfl ⟨aH, aU, rfl, hL.fresh 1 rfl [0] (by decide) (by decide) rfl⟩
 refine zAt <| CSR <| OV (.slice none 0 0) rfl (zAb) <| OV (IV 0) rfl (zAb) <| OW.nil <| zAx ?_
 have hL := hL.pushNil Int 2
 obtain rfl := oi hm
 exact RR2 rfl rfl rfl ⟨(.slice none 0 0), zBO, rfl, hL.fresh 1 rfl [0] (by decide) (by decide) rfl⟩

theorem zKt (w0 : World) (a0 : Int) (a1 : Int) (a2 : Int) (a3 : Int) (a4 : Int) {r : (List Penalty) × Int} (hm : zFD a0 a1 a2 a3 a4 = some r) :
    Calls Tryz.prog 18 #[(IV a0), (IV a1), (IV a2), (IV a3), (IV a4)] w0 fun e w' => ∃ (rv0 : Value) (rS0 : Nat → Prop), e = .returned (.tuple #[rv0, (IV r.2)]) ∧ Fresh w0 w' [Ent.own 49 rS0 rv0 r.1] := by
 unfold zFD at hm
 refine zAD (args := [(IV a0), (IV a1), (IV a2), (IV a3), (IV a4)]) Tryz.func18 rfl rfl rfl ?_
 have hL := zAJ w0
 refine CSR <| OV (.slice none 0 0) rfl (zAb) <| OV (IV 0) rfl (zAb) <| ONR <| OV (IV a1) rfl (zAe) <| OV (IV a2) rfl (zAe) <| OV (IV a3) rfl (zAe) ?_
 obtain ⟨x1, hx2, hm⟩ := zAs hm
 refine zAa (OP.call rfl (zAq (vs := [(IV a1), (IV a2), (IV a3)]) zRk ⟨rfl, rfl, rfl, trivial⟩) (zJ9 _ a1 a2 a3 hx2) ?_)
 rintro e5 wd6 ⟨v4, S3, rfl, hF7⟩
 refine ⟨_, rfl, ?_⟩
 have hL := hL.pushAll hF7
 simp only [lA, lB, lC, lD] at hL
 refine OV (.tuple #[v4, (IV x1.2)]) rfl (zAe) <| OV v4 rfl (zA7 rfl rfl) <| OV (IV x1.2) rfl (zA7 rfl rfl) <| OV v4 rfl (zAb) <| OV (IV x1.2) rfl (zAb) <| ONS ?_
 refine zAM (fun (s_j1 : Bool) F w => F 0 = (IV a0) ∧ F 4 = (IV a4) ∧ F 12 = v4 ∧ F 35 = (.bool s_j1) ∧ Hp w0 [Ent.own 2 S3 v4 x1.1, zAg w0 w0.heap.size] w) (fun s_j1 => zCX a0 a4 x1 s_j1 = some r) ?_ ?_
 · refine zAl <| OV (IV x1.2) rfl (zAe) <| OV (.bool (x1.2 != 0)) rfl (zDk rfl rfl) <| OV (.bool (x1.2 != 0)) rfl (zAe) ?_
   refine zAH hm (fun aB hm => ?_) (fun aB hm => ?_)
   · refine zAa (zAh rfl rfl aB rfl ?_)
     refine zAa (zAh rfl rfl aB rfl ?_)
     refine zAa (zAh rfl rfl aB rfl ?_)
     refine OV (.bool true) rfl (zAz rfl aB rfl) <| OV (.bool true) rfl (zAe) ?_
     refine zAa (zAh rfl rfl rfl rfl ?_)
     refine zAa (zAh rfl rfl rfl rfl ?_)
     refine zAa (zAh rfl rfl rfl rfl ?_)
     refine OV (.bool true) rfl (zAz rfl rfl rfl) <| OW.nil ?_
     exact ⟨true, hm, ⟨rfl, rfl, rfl, rfl, hL⟩⟩
   refine zAa (zAj rfl rfl aB (zAk (v := (IV a0)) rfl (zAe) ?_))
   obtain ⟨aF, aO, hm⟩ := zAs hm
   refine zAa (zAj rfl rfl aB (OP.call rfl (zAq (vs := [(IV a0), (IV 0), (IV 11)]) zD4 ⟨rfl, rfl, rfl, trivial⟩) (zBn _ a0 0 11 aO) ?_))
   rintro bM bK ⟨rfl, aP⟩
   refine ⟨_, rfl, ?_⟩
   have hL := hL.pushAll aP
   simp only [lA, lB, lC, lD] at hL
   refine zAa (zAj rfl rfl aB (zAk (v := (.bool (!aF))) rfl (zCb rfl) ?_))
   refine OV (.bool (!aF)) rfl (zAA rfl aB rfl) <| OV (.bool (!aF)) rfl (zAe) ?_
   refine zAH hm (fun aA hm => ?_) (fun aA hm => ?_)
   · refine zAa (zAh rfl rfl aA rfl ?_)
     refine zAa (zAh rfl rfl aA rfl ?_)
     refine zAa (zAh rfl rfl aA rfl ?_)
     refine OV (.bool true) rfl (zAz rfl aA rfl) <| OW.nil ?_
     exact ⟨true, hm, ⟨rfl, rfl, rfl, rfl, hL⟩⟩
   refine zAa (zAj rfl rfl aA (zAk (v := (IV a4)) rfl (zAe) ?_))
   obtain ⟨aG, aQ, hm⟩ := zAs hm
   refine zAa (zAj rfl rfl aA (OP.call rfl (zAq (vs := [(IV a4)]) zOD ⟨rfl, trivial⟩) (zI1 _ a4 aQ) ?_))
   rintro bN bL ⟨rfl, aR⟩
   refine ⟨_, rfl, ?_⟩
   have hL := hL.pushAll aR
   simp only [lA, lB, lC, lD] at hL
   refine zAa (zAj rfl rfl aA (zAk (v := (.bool (!aG))) rfl (zCb rfl) ?_))
   refine OV (.bool (!aG)) rfl (zAA rfl aA rfl) <| OW.nil ?_
   exact ⟨!aG, hm, ⟨rfl, rfl, rfl, rfl, hL⟩⟩
 intro s_j1 bV bO hJ hm
 unfold zCX at hm
 obtain ⟨bB, bC, bD, bE, hL⟩ := hJ
 refine zAn (t := s_j1) bE hm (fun aV hm => ?_) (fun aV hm => ?_)
 · refine CSR <| OV (.slice none 0 0) rfl (zAb) <| OV (IV 2) rfl (zAb) <| OW.nil <| zAx ?_
   have hL := hL.pushNil Penalty 49
   obtain rfl := oi hm
   exact RR2 rfl rfl rfl ⟨(.slice none 0 0), zBO, rfl, hL.fresh 2 rfl [0] (by decide) (by decide) rfl⟩
 refine zAt <| CSR ?_
 refine zAa (zBS ([] : List Penalty) hL U39 zAX rfl (by decide) (by first | (simp [Instr.fill, madeCells, Value.cells, ev, upd, Flat.enc, Flat.sz]; done) | rfl | kernel_rfl) rfl rfl ?_)
 intro bP aS bF hL
 refine OV aS rfl (zAb) <| ONS <| CSR <| OV v4 rfl (zAo bD) <| OV (IV (x1.1.length : Int)) rfl (zA3 U27 rfl (hL.rdO 1 rfl)) <| OV (IV 0) rfl (zAe) <| OW.nil ?_
 obtain ⟨bW, aW, hm⟩ := zAs hm
 refine zAU (fun (s_l1 : (List Penalty) × Int) F w => ∃ aC aE, F 0 = (IV a0) ∧ F 4 = (IV a4) ∧ F 14 = aC ∧ F 37 = v4 ∧ F 38 = (IV (x1.1.length : Int)) ∧ F 39 = (IV s_l1.2) ∧ Hp w0 [Ent.own 49 aE aC s_l1.1, Ent.own 2 S3 v4 x1.1, zAg w0 w0.heap.size] w) (fun o => zBh o (fun x => some x) (fun s => zEd s) = some r) aW hm ⟨aS, bF, bB, bC, rfl, rfl, rfl, rfl, hL⟩ ?_ ?_
 · intro s_l1 bX bQ hJ hm
   have hm := zBD hm
   have hm : zEd s_l1 = some r := hm
   unfold zEd at hm
   obtain ⟨aC, aE, bY, bZ, bG, cA, cB, cC, hL⟩ := hJ
   refine CSR <| OV aC rfl (zAo bG) <| OV aC rfl (zAb) <| OV (IV 0) rfl (zAb) <| OW.nil <| zAx ?_
   obtain rfl := oi hm
   exact RR2 rfl rfl rfl ⟨aC, aE, rfl, hL.fresh 2 rfl [0] (by decide) (by decide) rfl⟩
 intro s_l1 cD bR cE hJ hm bS
 unfold zCW at hm
 obtain ⟨aC, aE, aJ, aK, aT, aL, aM, aH, hL⟩ := hJ
 refine CSR <| OV (.bool (decide (s_l1.2 < (x1.1.length : Int)))) rfl (zBE aH aM) <| ONS ?_
 refine zAn (t := decide (s_l1.2 < (x1.1.length : Int))) rfl hm (fun aX hm => ?_) (fun aX hm => ?_)
 · refine zAt <| zAF <| CW.block <| CSR ?_
   obtain ⟨aD, aY, hm⟩ := zAs hm
   obtain ⟨aZ, aN⟩ := zAZ aY
   obtain ⟨bH, bI, aI⟩ := zAC (hL.rdO 1 rfl) aZ aN
   refine OV (.pointer (some ⟨bH, bI, none⟩)) rfl (zA1 U27 zAf aL aH aI) <| OV (IV aD) rfl (zAd U2 rfl rfl (zAv (hL.rdO 1 rfl) aI aN 0 _ rfl)) <| OV (IV aD) rfl (zAb) <| OW.nil <| zAl <| OV aC rfl (zAo aT) <| OV (IV a0) rfl (zAo aJ) <| OV (IV aD) rfl (zAe) <| OV (IV a4) rfl (zAo aK) <| OV (.agg #[(IV a0), (IV aD), (IV 1), (IV a4)]) rfl (zCB zKZ (ps := [(0, (IV a0)), (1, (IV aD)), (2, (IV 1)), (3, (IV a4))]) ⟨⟨rfl, rfl⟩, ⟨rfl, rfl⟩, ⟨rfl, rfl⟩, ⟨rfl, rfl⟩, trivial⟩ (by simp [Instr.fill, zBJ, zBA, zBi, zBK, zBo, zBc])) ?_
   refine zAa (zBS ([(Penalty.mk a0 aD 1 a4)] : List Penalty) hL U39 zAX rfl (by decide) (by first | (simp [Instr.fill, madeCells, Value.cells, ev, upd, Flat.enc, Flat.sz]; done) | rfl | kernel_rfl) rfl rfl ?_)
   intro bT cF cG hL
   obtain ⟨bA, hm⟩ := zEs hm
   refine zAa (zCA (ys := ([(Penalty.mk a0 aD 1 a4)] : List Penalty)) hL 1 rfl U39 zAX rfl rfl rfl (hL.rdO 0 rfl) bA (by decide) rfl ?_)
   intro bU aU bJ hL
   refine OV aU rfl (zAb) <| OW.nil <| zAl <| OV (IV (w64 (s_l1.2 + 1))) rfl (zBe aH rfl) <| OV (IV (w64 (s_l1.2 + 1))) rfl (zAe) <| OW.nil ?_
   have hL := hL.sl [1, 2, 3] rfl
   obtain rfl := oi hm
   exact ⟨_, rfl, ⟨aU, bJ, aJ, aK, rfl, aL, aM, rfl, hL⟩⟩
 refine zA0 ?_
 refine zBk ?_
 obtain rfl := oi hm
 exact ⟨_, rfl, ⟨aC, aE, aJ, aK, aT, aL, aM, aH, hL⟩⟩

theorem zKX (w0 : World) (a0 : Int) (a1 : Int) {r : Bool} (hm : zEe a0 a1 = some r) :
    Calls Tryz.prog 89 #[(IV a0), (IV a1)] w0 fun e w' => e = .returned (.bool r) ∧ Fresh w0 w' [] := by
 unfold zEe at hm
 refine zAD (args := [(IV a0), (IV a1)]) Tryz.func89 rfl rfl rfl ?_
 have hL := zAJ w0
 refine CSR <| OV (.bool false) rfl (zAb) <| OW.nil ?_
 refine zAM (fun (s_j1 : Bool) F w => F 4 = (.bool s_j1) ∧ Hp w0 [zAg w0 w0.heap.size] w) (fun s_j1 => zCR s_j1 = some r) ?_ ?_
 · refine zAl <| OV (IV a0) rfl (zAe) ?_
   obtain ⟨aH, aD, hm⟩ := zAs hm
   refine zAa (OP.call rfl (zAq (vs := [(IV a0), (IV 0), (IV 15)]) zEw ⟨rfl, rfl, rfl, trivial⟩) (zBw _ a0 0 15 aD) ?_)
   rintro aM aJ ⟨rfl, aE⟩
   refine ⟨_, rfl, ?_⟩
   have hL := hL.pushAll aE
   simp only [lA, lB, lC, lD] at hL
   refine OV (.bool aH) rfl (zAe) ?_
   refine zAH hm (fun aB hm => ?_) (fun aB hm => ?_)
   · refine zAa (zAj rfl rfl aB (zAk (v := (IV a1)) rfl (zAe) ?_))
     obtain ⟨aC, aF, hm⟩ := zAs hm
     refine zAa (zAj rfl rfl aB (OP.call rfl (zAq (vs := [(IV a1), (IV 0), (IV 15)]) zEw ⟨rfl, rfl, rfl, trivial⟩) (zBw _ a1 0 15 aF) ?_))
     rintro aN aK ⟨rfl, aG⟩
     refine ⟨_, rfl, ?_⟩
     have hL := hL.pushAll aG
     simp only [lA, lB, lC, lD] at hL
     refine OV (.bool aC) rfl (zAz rfl aB rfl) <| OV (.bool aC) rfl (zAe) ?_
     refine zAH hm (fun aA hm => ?_) (fun aA hm => ?_)
     · refine zAa (zAj rfl rfl aA (zAk (v := (IV a0)) rfl (zAe) ?_))
       refine zAa (zAj rfl rfl aA (zAk (v := (IV a1)) rfl (zAe) ?_))
       refine zAa (zAj rfl rfl aA (zAk (v := (.bool (a0 != a1))) rfl (zDk rfl rfl) ?_))
       refine OV (.bool (a0 != a1)) rfl (zAz rfl aA rfl) <| OV (.bool (a0 != a1)) rfl (zAb) <| OW.nil ?_
       exact ⟨a0 != a1, hm, ⟨rfl, hL⟩⟩
     refine zAa (zAh rfl rfl aA rfl ?_)
     refine zAa (zAh rfl rfl aA rfl ?_)
     refine zAa (zAh rfl rfl aA rfl ?_)
     refine OV (.bool false) rfl (zAA rfl aA rfl) <| OV (.bool false) rfl (zAb) <| OW.nil ?_
     exact ⟨false, hm, ⟨rfl, hL⟩⟩
   refine zAa (zAh rfl rfl aB rfl ?_)
   refine zAa (zAh rfl rfl aB rfl ?_)
   refine OV (.bool false) rfl (zAA rfl aB rfl) <| OV (.bool false) rfl (zAe) ?_
   refine zAa (zAh rfl rfl rfl rfl ?_)
   refine zAa (zAh rfl rfl rfl rfl ?_)
   refine zAa (zAh rfl rfl rfl rfl ?_)
   refine OV (.bool false) rfl (zAA rfl rfl rfl) <| OV (.bool false) rfl (zAb) <| OW.nil ?_
   exact ⟨false, hm, ⟨rfl, hL⟩⟩
 intro s_j1 aO aL hJ hm
 unfold zCR at hm
 obtain ⟨aI, hL⟩ := hJ
 refine zAx ?_
 obtain rfl := oi hm
 exact RR1 rfl aI ⟨rfl, hL.fresh 0 rfl [] (by decide) (by decide) rfl⟩

theorem zKa (w0 : World) (a0 : Int) (a1 : Int) (a2 : Int) {r : (List Int) × Int} (hm : zEE a0 a1 a2 = some r) :
    Calls Tryz.prog 54 #[(IV a0), (IV a1), (IV a2)] w0 fun e w' => ∃ (rv0 : Value) (rS0 : Nat → Prop), e = .returned (.tuple #[rv0, (IV r.2)]) ∧ Fresh w0 w' [Ent.own 2 rS0 rv0 r.1] := by
 unfold zEE at hm
 refine zAD (args := [(IV a0), (IV a1), (IV a2)]) Tryz.func54 rfl rfl rfl ?_
 have hL := zAJ w0
 refine CSR <| OV (.slice none 0 0) rfl (zAb) <| OV (IV 0) rfl (zAb) <| ONS ?_
 refine zAM (fun (s_j1 : Bool) F w => F 0 = (IV a0) ∧ F 1 = (IV a1) ∧ F 2 = (IV a2) ∧ F 16 = (.bool s_j1) ∧ Hp w0 [zAg w0 w0.heap.size] w) (fun s_j1 => zCw a0 a1 a2 s_j1 = some r) ?_ ?_
 · refine zAl <| OV (IV a0) rfl (zAe) <| OV (IV a1) rfl (zAe) ?_
   obtain ⟨aE, aJ, hm⟩ := zAs hm
   refine zAa (OP.call rfl (zAq (vs := [(IV a0), (IV a1)]) zRI ⟨rfl, rfl, trivial⟩) (zKX _ a0 a1 aJ) ?_)
   rintro bE aX ⟨rfl, aK⟩
   refine ⟨_, rfl, ?_⟩
   have hL := hL.pushAll aK
   simp only [lA, lB, lC, lD] at hL
   refine OV (.bool (!aE)) rfl (zCb rfl) <| OV (.bool (!aE)) rfl (zAe) ?_
   refine zAH hm (fun aA hm => ?_) (fun aA hm => ?_)
   · refine zAa (zAh rfl rfl aA rfl ?_)
     refine zAa (zAh rfl rfl aA rfl ?_)
     refine zAa (zAh rfl rfl aA rfl ?_)
     refine OV (.bool true) rfl (zAz rfl aA rfl) <| OW.nil ?_
     exact ⟨true, hm, ⟨rfl, rfl, rfl, rfl, hL⟩⟩
   refine zAa (zAj rfl rfl aA (zAk (v := (IV a2)) rfl (zAe) ?_))
   obtain ⟨aB, aL, hm⟩ := zAs hm
   refine zAa (zAj rfl rfl aA (OP.call rfl (zAq (vs := [(IV a2), (IV 0), (IV 3)]) zEw ⟨rfl, rfl, rfl, trivial⟩) (zBw _ a2 0 3 aL) ?_))
   rintro bF aY ⟨rfl, aM⟩
   refine ⟨_, rfl, ?_⟩
   have hL := hL.pushAll aM
   simp only [lA, lB, lC, lD] at hL
   refine zAa (zAj rfl rfl aA (zAk (v := (.bool (!aB))) rfl (zCb rfl) ?_))
   refine OV (.bool (!aB)) rfl (zAA rfl aA rfl) <| OW.nil ?_
   exact ⟨!aB, hm, ⟨rfl, rfl, rfl, rfl, hL⟩⟩
 intro s_j1 bG aZ hJ hm
 unfold zCw at hm
 obtain ⟨aC, aD, aR, aS, hL⟩ := hJ
 refine zAn (t := s_j1) aS hm (fun aN hm => ?_) (fun aN hm => ?_)
 · refine CSR <| OV (.slice none 0 0) rfl (zAb) <| OV (IV 2) rfl (zAb) <| OW.nil <| zAx ?_
   have hL := hL.pushNil Int 2
   obtain rfl := oi hm
   exact RR2 rfl rfl rfl ⟨(.slice none 0 0), zBO, rfl, hL.fresh 1 rfl [0] (by decide) (by decide) rfl⟩
 refine zAt <| zAF <| CSR <| OV (IV a2) rfl (zAo aR) <| OW.nil <| CW.block <| CSR <| OV (.bool (a2 == 1)) rfl (zBv rfl rfl) <| OV (.bool (a2 == 1)) rfl (zAb) <| OW.nil ?_
 refine zAn (t := a2 == 1) rfl hm (fun aO hm => ?_) (fun aO hm => ?_)
 · refine CSR <| OV (IV a1) rfl (zAo aD) ?_
   refine zAa (zBS ([a1] : List Int) hL U27 zAf rfl (by decide) (by first | (simp [Instr.fill, madeCells, Value.cells, ev, upd, Flat.enc, Flat.sz]; done) | rfl | kernel_rfl) rfl rfl ?_)
   intro bA aF aT hL
   refine OV aF rfl (zAb) <| OV (IV 0) rfl (zAb) <| OW.nil <| zAx ?_
   obtain rfl := oi hm
   exact RR2 rfl rfl rfl ⟨aF, aT, rfl, hL.fresh 1 rfl [0] (by decide) (by decide) rfl⟩
 refine CSR <| OV (.bool (a2 == 2)) rfl (zBv rfl rfl) <| OV (.bool (a2 == 2)) rfl (zAb) <| OW.nil ?_
 refine zAn (t := a2 == 2) rfl hm (fun aP hm => ?_) (fun aP hm => ?_)
 · refine CSR <| OV (IV a0) rfl (zAo aC) ?_
   refine zAa (zBS ([a0] : List Int) hL U27 zAf rfl (by decide) (by first | (simp [Instr.fill, madeCells, Value.cells, ev, upd, Flat.enc, Flat.sz]; done) | rfl | kernel_rfl) rfl rfl ?_)
   intro bB aG aU hL
   refine OV aG rfl (zAb) <| OV (IV 0) rfl (zAb) <| OW.nil <| zAx ?_
   obtain rfl := oi hm
   exact RR2 rfl rfl rfl ⟨aG, aU, rfl, hL.fresh 1 rfl [0] (by decide) (by decide) rfl⟩
 refine CSR <| OV (.bool (a2 == 3)) rfl (zBv rfl rfl) <| OV (.bool (a2 == 3)) rfl (zAb) <| OW.nil ?_
 refine zAn (t := a2 == 3) rfl hm (fun aQ hm => ?_) (fun aQ hm => ?_)
 · refine CSR <| OV (IV a0) rfl (zAo aC) <| OV (IV a1) rfl (zAo aD) <| OV (IV (min a0 a1)) rfl (zKP rfl rfl) <| OV (IV a0) rfl (zAo aC) <| OV (IV a1) rfl (zAo aD) <| OV (IV (max a0 a1)) rfl (zKQ rfl rfl) ?_
   refine zAa (zBS ([min a0 a1, max a0 a1] : List Int) hL U27 zAf rfl (by decide) (by first | (simp [Instr.fill, madeCells, Value.cells, ev, upd, Flat.enc, Flat.sz]; done) | rfl | kernel_rfl) rfl rfl ?_)
   intro bC aH aV hL
   refine OV aH rfl (zAb) <| OV (IV 0) rfl (zAb) <| OW.nil <| zAx ?_
   obtain rfl := oi hm
   exact RR2 rfl rfl rfl ⟨aH, aV, rfl, hL.fresh 1 rfl [0] (by decide) (by decide) rfl⟩
 refine zAt <| CSR ?_
 refine zAa (zBS ([] : List Int) hL U27 zAf rfl (by decide) (by first | (simp [Instr.fill, madeCells, Value.cells, ev, upd, Flat.enc, Flat.sz]; done) | rfl | kernel_rfl) rfl rfl ?_)
 intro bD aI aW hL
 refine OV aI rfl (zAb) <| OV (IV 0) rfl (zAb) <| OW.nil <| zAx ?_
 obtain rfl := oi hm
 exact RR2 rfl rfl rfl ⟨aI, aW, rfl, hL.fresh 1 rfl [0] (by decide) (by decide) rfl⟩

theorem zKu (w0 : World) (a0 : Int) (a1 : Int) (a2 : Int) (a3 : Int) (a4 : Int) {r : (List Penalty) × Int} (hm : zFE a0 a1 a2 a3 a4 = some r) :
    Calls Tryz.prog 19 #[(IV a0), (IV a1), (IV a2), (IV a3), (IV a4)] w0 fun e w' => ∃ (rv0 : Value) (rS0 : Nat → Prop), e = .returned (.tuple #[rv0, (IV r.2)]) ∧ Fresh w0 w' [Ent.own 49 rS0 rv0 r.1] := by
 unfold zFE at hm
 refine zAD (args := [(IV a0), (IV a1), (IV a2), (IV a3), (IV a4)]) Tryz.func19 rfl rfl rfl ?_
 have hL := zAJ w0
 refine CSR <| OV (.slice none 0 0) rfl (zAb) <| OV (IV 0) rfl (zAb) <| ONS ?_
 refine zAM (fun (s_j1 : Bool) F w => F 0 = (IV a0) ∧ F 1 = (IV a1) ∧ F 2 = (IV a2) ∧ F 3 = (IV a3) ∧ F 4 = (IV a4) ∧ F 23 = (.bool s_j1) ∧ Hp w0 [zAg w0 w0.heap.size] w) (fun s_j1 => zEg a0 a1 a2 a3 a4 s_j1 = some r) ?_ ?_
 · refine zAl <| OV (IV a0) rfl (zAe) ?_
   obtain ⟨aR, aN, hm⟩ := zAs hm
   refine zAa (OP.call rfl (zAq (vs := [(IV a0), (IV 0), (IV 11)]) zEw ⟨rfl, rfl, rfl, trivial⟩) (zBw _ a0 0 11 aN) ?_)
   rintro bS bQ ⟨rfl, aO⟩
   refine ⟨_, rfl, ?_⟩
   have hL := hL.pushAll aO
   simp only [lA, lB, lC, lD] at hL
   refine OV (.bool (!aR)) rfl (zCb rfl) <| OV (.bool (!aR)) rfl (zAe) ?_
   refine zAH hm (fun aA hm => ?_) (fun aA hm => ?_)
   · refine zAa (zAh rfl rfl aA rfl ?_)
     refine zAa (zAh rfl rfl aA rfl ?_)
     refine zAa (zAh rfl rfl aA rfl ?_)
     refine OV (.bool true) rfl (zAz rfl aA rfl) <| OW.nil ?_
     exact ⟨true, hm, ⟨rfl, rfl, rfl, rfl, rfl, rfl, hL⟩⟩
   refine zAa (zAj rfl rfl aA (zAk (v := (IV a4)) rfl (zAe) ?_))
   obtain ⟨aG, aP, hm⟩ := zAs hm
   refine zAa (zAj rfl rfl aA (OP.call rfl (zAq (vs := [(IV a4)]) zOE ⟨rfl, trivial⟩) (zJ4 _ a4 aP) ?_))
   rintro bT bR ⟨rfl, aQ⟩
   refine ⟨_, rfl, ?_⟩
   have hL := hL.pushAll aQ
   simp only [lA, lB, lC, lD] at hL
   refine zAa (zAj rfl rfl aA (zAk (v := (.bool (!aG))) rfl (zCb rfl) ?_))
   refine OV (.bool (!aG)) rfl (zAA rfl aA rfl) <| OW.nil ?_
   exact ⟨!aG, hm, ⟨rfl, rfl, rfl, rfl, rfl, rfl, hL⟩⟩
 intro s_j1 cC bU hJ hm
 unfold zEg at hm
 obtain ⟨bE, bF, bG, bH, bI, bJ, hL⟩ := hJ
 refine zAn (t := s_j1) bJ hm (fun aV hm => ?_) (fun aV hm => ?_)
 · refine CSR <| OV (.slice none 0 0) rfl (zAb) <| OV (IV 2) rfl (zAb) <| OW.nil <| zAx ?_
   have hL := hL.pushNil Penalty 49
   obtain rfl := oi hm
   exact RR2 rfl rfl rfl ⟨(.slice none 0 0), zBO, rfl, hL.fresh 1 rfl [0] (by decide) (by decide) rfl⟩
 refine zAt <| CSR <| OV (IV a1) rfl (zAo bF) <| OV (IV a2) rfl (zAo bG) <| OV (IV a3) rfl (zAo bH) ?_
 obtain ⟨aB, aW, hm⟩ := zAs hm
 refine zAa (OP.call rfl (zAq (vs := [(IV a1), (IV a2), (IV a3)]) zRl ⟨rfl, rfl, rfl, trivial⟩) (zKa _ a1 a2 a3 aW) ?_)
 rintro cD bV ⟨aD, bK, rfl, aX⟩
 refine ⟨_, rfl, ?_⟩
 have hL := hL.pushAll aX
 simp only [lA, lB, lC, lD] at hL
 refine OV (.tuple #[aD, (IV aB.2)]) rfl (zAe) <| OV aD rfl (zA7 rfl rfl) <| OV (IV aB.2) rfl (zA7 rfl rfl) <| OV aD rfl (zAb) <| OV (IV aB.2) rfl (zAb) <| ONS <| CSR <| OV (IV aB.2) rfl (zAe) <| OV (.bool (aB.2 != 0)) rfl (zDk rfl rfl) <| OW.nil ?_
 refine zAn (t := aB.2 != 0) rfl hm (fun aY hm => ?_) (fun aY hm => ?_)
 · refine CSR <| OV (.slice none 0 0) rfl (zAb) <| OV (IV 2) rfl (zAb) <| OW.nil <| zAx ?_
   have hL := hL.pushNil Penalty 49
   obtain rfl := oi hm
   exact RR2 rfl rfl rfl ⟨(.slice none 0 0), zBO, rfl, hL.fresh 2 rfl [0] (by decide) (by decide) rfl⟩
 refine zAt <| CSR ?_
 refine zAa (zBS ([] : List Penalty) hL U39 zAX rfl (by decide) (by first | (simp [Instr.fill, madeCells, Value.cells, ev, upd, Flat.enc, Flat.sz]; done) | rfl | kernel_rfl) rfl rfl ?_)
 intro bW aS bL hL
 refine OV aS rfl (zAb) <| ONS <| CSR <| OV (IV 0) rfl (zAb) <| OW.nil ?_
 obtain ⟨cE, aZ, hm⟩ := zAs hm
 refine zAU (fun (s_l1 : (List Penalty) × Int) F w => ∃ aC aE, F 0 = (IV a0) ∧ F 4 = (IV a4) ∧ F 12 = aD ∧ F 14 = aC ∧ F 15 = (IV s_l1.2) ∧ Hp w0 [Ent.own 49 aE aC s_l1.1, Ent.own 2 bK aD aB.1, zAg w0 w0.heap.size] w) (fun o => zBh o (fun x => some x) (fun s => zEf s) = some r) aZ hm ⟨aS, bL, bE, bI, rfl, rfl, rfl, hL⟩ ?_ ?_
 · intro s_l1 cF bX hJ hm
   have hm := zBD hm
   have hm : zEf s_l1 = some r := hm
   unfold zEf at hm
   obtain ⟨aC, aE, cG, cH, cI, bM, cJ, hL⟩ := hJ
   refine CSR <| OV aC rfl (zAo bM) <| OV aC rfl (zAb) <| OV (IV 0) rfl (zAb) <| OW.nil <| zAx ?_
   obtain rfl := oi hm
   exact RR2 rfl rfl rfl ⟨aC, aE, rfl, hL.fresh 2 rfl [0] (by decide) (by decide) rfl⟩
 intro s_l1 cK bY cM hJ hm bZ
 unfold zHX at hm
 obtain ⟨aC, aE, aK, aL, aH, aT, aI, hL⟩ := hJ
 refine zAF <| CSR <| OV (IV s_l1.2) rfl (zAo aI) <| OV aD rfl (zAo aH) <| OV (IV (aB.1.length : Int)) rfl (zA3 U27 rfl (hL.rdO 1 rfl)) <| OV (.bool (decide (s_l1.2 < (aB.1.length : Int)))) rfl (zBE rfl rfl) <| OW.nil ?_
 refine zAn (t := decide (s_l1.2 < (aB.1.length : Int))) rfl hm (fun bA hm => ?_) (fun bA hm => ?_)
 · refine zAt <| zAF <| CW.block <| zAl <| OV aC rfl (zAo aT) <| OV (IV a0) rfl (zAo aK) <| OV aD rfl (zAo aH) <| OV (IV s_l1.2) rfl (zAo aI) ?_
   obtain ⟨aF, bB, hm⟩ := zAs hm
   obtain ⟨bC, aM⟩ := zAZ bB
   obtain ⟨bN, bO, aJ⟩ := zAC (hL.rdO 1 rfl) bC aM
   refine OV (.pointer (some ⟨bN, bO, none⟩)) rfl (zA1 U27 zAf rfl rfl aJ) <| OV (IV aF) rfl (zAd U2 rfl rfl (zAv (hL.rdO 1 rfl) aJ aM 0 _ rfl)) <| OV (IV a4) rfl (zAo aL) <| OV (.agg #[(IV a0), (IV aF), (IV 1), (IV a4)]) rfl (zCB zKZ (ps := [(0, (IV a0)), (1, (IV aF)), (2, (IV 1)), (3, (IV a4))]) ⟨⟨rfl, rfl⟩, ⟨rfl, rfl⟩, ⟨rfl, rfl⟩, ⟨rfl, rfl⟩, trivial⟩ (by simp [Instr.fill, zBJ, zBA, zBi, zBK, zBo, zBc])) ?_
   refine zAa (zBS ([(Penalty.mk a0 aF 1 a4)] : List Penalty) hL U39 zAX rfl (by decide) (by first | (simp [Instr.fill, madeCells, Value.cells, ev, upd, Flat.enc, Flat.sz]; done) | rfl | kernel_rfl) rfl rfl ?_)
   intro cA cN cO hL
   obtain ⟨bD, hm⟩ := zEs hm
   refine zAa (zCA (ys := ([(Penalty.mk a0 aF 1 a4)] : List Penalty)) hL 1 rfl U39 zAX rfl rfl rfl (hL.rdO 0 rfl) bD (by decide) rfl ?_)
   intro cB aU bP hL
   refine OV aU rfl (zAb) <| OW.nil <| zAl <| OV (IV s_l1.2) rfl (zAo aI) <| OV (IV (w64 (s_l1.2 + 1))) rfl (zBe rfl rfl) <| OV (IV (w64 (s_l1.2 + 1))) rfl (zAb) <| OW.nil ?_
   have hL := hL.sl [1, 2, 3] rfl
   obtain rfl := oi hm
   exact ⟨_, rfl, ⟨aU, bP, aK, aL, aH, rfl, rfl, hL⟩⟩
 refine zA0 ?_
 refine zBk ?_
 obtain rfl := oi hm
 exact ⟨_, rfl, ⟨aC, aE, aK, aL, aH, aT, aI, hL⟩⟩

theorem zLH (w0 : World) (a0 : Int) {r : ByteArray} (hm : zIa a0 = some r) :
    Calls Tryz.prog 57 #[(IV a0)] w0 fun e w' => e = .returned (.string r) ∧ Fresh w0 w' [] := by
 unfold zIa at hm
 refine zAD (args := [(IV a0)]) Tryz.func57 rfl rfl rfl ?_
 have hL := zAJ w0
 refine CSR <| OV (.string (⟨#[]⟩ : ByteArray)) rfl (zAb) <| ONR <| OV (.agg #[(.string (⟨#[70, 73, 78]⟩ : ByteArray)), (.string (⟨#[68, 78, 67]⟩ : ByteArray)), (.string (⟨#[68, 78, 83]⟩ : ByteArray)), (.string (⟨#[79, 67, 83]⟩ : ByteArray)), (.string (⟨#[68, 78, 70]⟩ : ByteArray)), (.string (⟨#[82, 69, 84]⟩ : ByteArray)), (.string (⟨#[68, 83, 81]⟩ : ByteArray)), (.string (⟨#[68, 78, 69]⟩ : ByteArray)), (.string (⟨#[66, 70, 68]⟩ : ByteArray)), (.string (⟨#[82, 68, 71]⟩ : ByteArray))]) rfl (zQ3 zTO zMs zMT (ps := [(0, (.string (⟨#[70, 73, 78]⟩ : ByteArray))), (1, (.string (⟨#[68, 78, 67]⟩ : ByteArray))), (2, (.string (⟨#[68, 78, 83]⟩ : ByteArray))), (3, (.string (⟨#[79, 67, 83]⟩ : ByteArray))), (4, (.string (⟨#[68, 78, 70]⟩ : ByteArray))), (5, (.string (⟨#[82, 69, 84]⟩ : ByteArray))), (6, (.string (⟨#[68, 83, 81]⟩ : ByteArray))), (7, (.string (⟨#[68, 78, 69]⟩ : ByteArray))), (8, (.string (⟨#[66, 70, 68]⟩ : ByteArray))), (9, (.string (⟨#[82, 68, 71]⟩ : ByteArray)))]) ⟨⟨rfl, rfl⟩, ⟨rfl, rfl⟩, ⟨rfl, rfl⟩, ⟨rfl, rfl⟩, ⟨rfl, rfl⟩, ⟨rfl, rfl⟩, ⟨rfl, rfl⟩, ⟨rfl, rfl⟩, ⟨rfl, rfl⟩, ⟨rfl, rfl⟩, trivial⟩ (by first | rfl | kernel_rfl | simp [Instr.fill, zBi])) ?_
 refine zAa (zBb (cs := #[(.string ByteArray.empty), (.string ByteArray.empty), (.string ByteArray.empty), (.string ByteArray.empty), (.string ByteArray.empty), (.string ByteArray.empty), (.string ByteArray.empty), (.string ByteArray.empty), (.string ByteArray.empty), (.string ByteArray.empty)]) hL zMs rfl rfl ?_)
 intro wd1 b2 hL
 refine zAa (zA9 (l := [(.string (⟨#[70, 73, 78]⟩ : ByteArray)), (.string (⟨#[68, 78, 67]⟩ : ByteArray)), (.string (⟨#[68, 78, 83]⟩ : ByteArray)), (.string (⟨#[79, 67, 83]⟩ : ByteArray)), (.string (⟨#[68, 78, 70]⟩ : ByteArray)), (.string (⟨#[82, 69, 84]⟩ : ByteArray)), (.string (⟨#[68, 83, 81]⟩ : ByteArray)), (.string (⟨#[68, 78, 69]⟩ : ByteArray)), (.string (⟨#[66, 70, 68]⟩ : ByteArray)), (.string (⟨#[82, 68, 71]⟩ : ByteArray))]) (cs' := #[(.string (⟨#[70, 73, 78]⟩ : ByteArray)), (.string (⟨#[68, 78, 67]⟩ : ByteArray)), (.string (⟨#[68, 78, 83]⟩ : ByteArray)), (.string (⟨#[79, 67, 83]⟩ : ByteArray)), (.string (⟨#[68, 78, 70]⟩ : ByteArray)), (.string (⟨#[82, 69, 84]⟩ : ByteArray)), (.string (⟨#[68, 83, 81]⟩ : ByteArray)), (.string (⟨#[68, 78, 69]⟩ : ByteArray)), (.string (⟨#[66, 70, 68]⟩ : ByteArray)), (.string (⟨#[82, 68, 71]⟩ : ByteArray))]) hL 0 rfl zMs rfl rfl (fc ⟨rfl, (fc ⟨rfl, (fc ⟨rfl, (fc ⟨rfl, (fc ⟨rfl, (fc ⟨rfl, (fc ⟨rfl, (fc ⟨rfl, (fc ⟨rfl, (fc ⟨rfl, fz⟩)⟩)⟩)⟩)⟩)⟩)⟩)⟩)⟩)⟩) rfl (nle rfl) rfl ?_)
 intro wd3 hL
 refine ONS <| CSR <| OV (IV a0) rfl (zAe) ?_
 obtain ⟨x4, hx5, hm⟩ := zAs hm
 refine zAa (OP.call rfl (zAq (vs := [(IV a0), (IV 0), (IV 9)]) zD4 ⟨rfl, rfl, rfl, trivial⟩) (zBn _ a0 0 9 hx5) ?_)
 rintro e6 wd7 ⟨rfl, hF8⟩
 refine ⟨_, rfl, ?_⟩
 have hL := hL.pushAll hF8
 simp only [lA, lB, lC, lD] at hL
 refine OV (.bool (!x4)) rfl (zCb rfl) <| OW.nil ?_
 refine zAn (t := !x4) rfl hm (fun hb9 hm => ?_) (fun hb9 hm => ?_)
 · refine CSR <| OV (.string (⟨#[]⟩ : ByteArray)) rfl (zAb) <| OW.nil <| zAx ?_
   obtain rfl := oi hm
   exact RR1 rfl rfl ⟨rfl, hL.fresh 1 rfl [] (by decide) (by decide) rfl⟩
 refine zAt <| CSR <| OV (IV a0) rfl (zAe) ?_
 obtain ⟨aC, aD, hm⟩ := zAs hm
 obtain ⟨aE, aB⟩ := zAZ aD
 obtain ⟨aF, aG, aA⟩ := zAC (hL.rdArr 0 rfl ([(⟨#[70, 73, 78]⟩ : ByteArray), (⟨#[68, 78, 67]⟩ : ByteArray), (⟨#[68, 78, 83]⟩ : ByteArray), (⟨#[79, 67, 83]⟩ : ByteArray), (⟨#[68, 78, 70]⟩ : ByteArray), (⟨#[82, 69, 84]⟩ : ByteArray), (⟨#[68, 83, 81]⟩ : ByteArray), (⟨#[68, 78, 69]⟩ : ByteArray), (⟨#[66, 70, 68]⟩ : ByteArray), (⟨#[82, 68, 71]⟩ : ByteArray)] : List ByteArray) rfl (zNx _) (by decide)) aE aB
 refine OV (.pointer (some ⟨aF, aG, none⟩)) rfl (zSv zTO zMT rfl rfl aA) <| OV (.string aC) rfl (zAd U9 rfl rfl (zAv (hL.rdArr 0 rfl ([(⟨#[70, 73, 78]⟩ : ByteArray), (⟨#[68, 78, 67]⟩ : ByteArray), (⟨#[68, 78, 83]⟩ : ByteArray), (⟨#[79, 67, 83]⟩ : ByteArray), (⟨#[68, 78, 70]⟩ : ByteArray), (⟨#[82, 69, 84]⟩ : ByteArray), (⟨#[68, 83, 81]⟩ : ByteArray), (⟨#[68, 78, 69]⟩ : ByteArray), (⟨#[66, 70, 68]⟩ : ByteArray), (⟨#[82, 68, 71]⟩ : ByteArray)] : List ByteArray) rfl (zNx _) (by decide)) aA aB 0 _ rfl)) <| OV (.string aC) rfl (zAb) <| OW.nil <| zAx ?_
 obtain rfl := oi hm
 exact RR1 rfl rfl ⟨rfl, hL.fresh 1 rfl [] (by decide) (by decide) rfl⟩

theorem zKJ (w0 : World) (htab : Lib.TabIs Tryz.prog w0 "internal/strconv.uint64pow10" .u64 Lib.pow10Tab) (a0 : Penalty) {r : ByteArray} (hm : zGu a0 = some r) :
    Calls Tryz.prog 20 #[(.agg #[(IV a0.Race), (IV a0.Boat), (IV a0.Kind), (IV a0.Value)])] w0 fun e w' => e = .returned (.string r) ∧ Fresh w0 w' [] := by
 unfold zGu at hm
 refine zAD (args := [(.agg #[(IV a0.Race), (IV a0.Boat), (IV a0.Kind), (IV a0.Value)])]) Tryz.func20 rfl rfl rfl ?_
 have hL := zAJ w0
 refine CSR ?_
 refine zAa (zC3 (cs := #[(IV a0.Race), (IV a0.Boat), (IV a0.Kind), (IV a0.Value)]) hL rfl rfl rfl ?_)
 intro wd1 b2 hL
 refine OV (.string (⟨#[]⟩ : ByteArray)) rfl (zAb) <| ONS ?_
 refine zAM (fun (s_j1 : Bool) F w => F 1 = (PV b2 0) ∧ F 18 = (.bool s_j1) ∧ Hp w0 [Ent.blk b2 49 #[(IV a0.Race), (IV a0.Boat), (IV a0.Kind), (IV a0.Value)], zAg w0 w0.heap.size] w) (fun s_j1 => zBT a0 s_j1 = some r) ?_ ?_
 · refine zAl <| OV (PV b2 0) rfl (zAc (fsz := 1) 0 0 0 U49 rfl zAf rfl rfl rfl) <| OV (IV a0.Race) rfl (zAd U2 rfl rfl (hL.cellB 0 rfl rfl)) ?_
   obtain ⟨aH, aL, hm⟩ := zAs hm
   refine zAa (OP.call rfl (zAq (vs := [(IV a0.Race), (IV 0), (IV 11)]) zD4 ⟨rfl, rfl, rfl, trivial⟩) (zBn _ a0.Race 0 11 aL) ?_)
   rintro bT bL ⟨rfl, aM⟩
   refine ⟨_, rfl, ?_⟩
   have hL := hL.pushAll aM
   simp only [lA, lB, lC, lD] at hL
   refine OV (.bool (!aH)) rfl (zCb rfl) <| OV (.bool (!aH)) rfl (zAe) ?_
   refine zAH hm (fun aB hm => ?_) (fun aB hm => ?_)
   · refine zAa (zAh rfl rfl aB rfl ?_)
     refine zAa (zAh rfl rfl aB rfl ?_)
     refine zAa (zAh rfl rfl aB rfl ?_)
     refine zAa (zAh rfl rfl aB rfl ?_)
     refine OV (.bool true) rfl (zAz rfl aB rfl) <| OV (.bool true) rfl (zAe) ?_
     refine zAa (zAh rfl rfl rfl rfl ?_)
     refine zAa (zAh rfl rfl rfl rfl ?_)
     refine zAa (zAh rfl rfl rfl rfl ?_)
     refine OV (.bool true) rfl (zAz rfl rfl rfl) <| OW.nil ?_
     exact ⟨true, hm, ⟨rfl, rfl, hL⟩⟩
   refine zAa (zAj rfl rfl aB (zAk (v := (PV b2 1)) rfl (zAc (fsz := 1) 0 1 1 U49 rfl zAf rfl rfl rfl) ?_))
   refine zAa (zAj rfl rfl aB (zAk (v := (IV a0.Boat)) rfl (zAd U2 rfl rfl (hL.cellB 0 rfl rfl)) ?_))
   obtain ⟨aF, aN, hm⟩ := zAs hm
   refine zAa (zAj rfl rfl aB (OP.call rfl (zAq (vs := [(IV a0.Boat)]) zK0 ⟨rfl, trivial⟩) (zHz _ a0.Boat aN) ?_))
   rintro bU bM ⟨rfl, aO⟩
   refine ⟨_, rfl, ?_⟩
   have hL := hL.pushAll aO
   simp only [lA, lB, lC, lD] at hL
   refine zAa (zAj rfl rfl aB (zAk (v := (.bool (!aF))) rfl (zCb rfl) ?_))
   refine OV (.bool (!aF)) rfl (zAA rfl aB rfl) <| OV (.bool (!aF)) rfl (zAe) ?_
   refine zAH hm (fun aD hm => ?_) (fun aD hm => ?_)
   · refine zAa (zAh rfl rfl aD rfl ?_)
     refine zAa (zAh rfl rfl aD rfl ?_)
     refine zAa (zAh rfl rfl aD rfl ?_)
     refine OV (.bool true) rfl (zAz rfl aD rfl) <| OW.nil ?_
     exact ⟨true, hm, ⟨rfl, rfl, hL⟩⟩
   refine zAa (zAj rfl rfl aD (zAk (v := (.agg #[(IV a0.Race), (IV a0.Boat), (IV a0.Kind), (IV a0.Value)])) rfl (zAW (cs := [(IV a0.Race), (IV a0.Boat), (IV a0.Kind), (IV a0.Value)]) U49 zAX rfl rfl (hL.cellsB 0 rfl (o := 0) (l := [(IV a0.Race), (IV a0.Boat), (IV a0.Kind), (IV a0.Value)]) (by intro j u hj; exact (by simpa using hj)))) ?_))
   obtain ⟨aG, aP, hm⟩ := zAs hm
   refine zAa (zAj rfl rfl aD (OP.call rfl (zAq (vs := [(.agg #[(IV a0.Race), (IV a0.Boat), (IV a0.Kind), (IV a0.Value)])]) zOF ⟨rfl, trivial⟩) (zJH _ a0 aP) ?_))
   rintro bV bN ⟨rfl, aQ⟩
   refine ⟨_, rfl, ?_⟩
   have hL := hL.pushAll aQ
   simp only [lA, lB, lC, lD] at hL
   refine zAa (zAj rfl rfl aD (zAk (v := (.bool (!aG))) rfl (zCb rfl) ?_))
   refine OV (.bool (!aG)) rfl (zAA rfl aD rfl) <| OW.nil ?_
   exact ⟨!aG, hm, ⟨rfl, rfl, hL⟩⟩
 intro s_j1 bW bO hJ hm
 unfold zBT at hm
 obtain ⟨aE, bK, hL⟩ := hJ
 refine zAn (t := s_j1) bK hm (fun aR hm => ?_) (fun aR hm => ?_)
 · refine CSR <| OV (.string (⟨#[]⟩ : ByteArray)) rfl (zAb) <| OW.nil <| zAx ?_
   obtain rfl := oi hm
   exact RR1 rfl rfl ⟨rfl, hL.fresh 1 rfl [] (by decide) (by decide) rfl⟩
 refine zAt <| zAF ?_
 refine zBW zAQ ?_
 have hL := hL.call (zA8 _)
 refine DW.pre (fuel := 0) (fin := bma 9 511) (C := fun w' => Mod zBO _ w') [0, 1, 2, 3, 4, 5, 6, 7, 8] (Mod.refl _ _) (by kernel_rfl) (by kernel_rfl) ?_
 refine QV (PV b2 0) rfl rfl (fun w' hm' => zAc (fsz := 1) 0 0 0 U49 rfl zAf rfl aE rfl) <| QV (IV a0.Race) rfl rfl (fun w' hm' => zAd U2 rfl rfl ((hL.call hm').cellB 0 rfl rfl)) ?_
 obtain ⟨aA, aS, hm⟩ := zAs hm
 refine zAi rfl (QP.call (v := (.string aA)) rfl (fun w' hm' => zAq (vs := [(IV a0.Race)]) zL8 ⟨rfl, trivial⟩) (fun w' hm' => (zJb w' ((hL.call hm').tab 1 rfl rfl htab) a0.Race aS).mono (fun e w'' h => ⟨h.1, hm'.trans h.2.mod⟩)) ?_)
 obtain ⟨aT, hm⟩ := zEs hm
 refine QV (.string (aA ++ (⟨#[32]⟩ : ByteArray))) rfl rfl (fun w' hm' => zIs rfl rfl aT) <| QV (PV b2 1) rfl rfl (fun w' hm' => zAc (fsz := 1) 0 1 1 U49 rfl zAf rfl aE rfl) <| QV (IV a0.Boat) rfl rfl (fun w' hm' => zAd U2 rfl rfl ((hL.call hm').cellB 0 rfl rfl)) ?_
 obtain ⟨aC, aU, hm⟩ := zAs hm
 refine zAi rfl (QP.call (v := (.string aC)) rfl (fun w' hm' => zAq (vs := [(IV a0.Boat)]) zL8 ⟨rfl, trivial⟩) (fun w' hm' => (zJb w' ((hL.call hm').tab 1 rfl rfl htab) a0.Boat aU).mono (fun e w'' h => ⟨h.1, hm'.trans h.2.mod⟩)) ?_)
 obtain ⟨aV, hm⟩ := zEs hm
 refine QV (.string ((aA ++ (⟨#[32]⟩ : ByteArray)) ++ aC)) rfl rfl (fun w' hm' => zIs rfl rfl aV) <| QV (.string ((aA ++ (⟨#[32]⟩ : ByteArray)) ++ aC)) rfl rfl (fun w' hm' => zAb) ?_
 refine QW.nil ?_
 intro bP hmod
 have hL := hL.call hmod
 refine zBu (by kernel_rfl) ?_
 refine zAF <| CSR <| OV (PV b2 2) rfl (zAc (fsz := 1) 0 2 2 U49 rfl zAf rfl aE rfl) <| OV (IV a0.Kind) rfl (zAd U2 rfl rfl (hL.cellB 0 rfl rfl)) <| OW.nil <| CW.block <| CSR <| OV (.bool (a0.Kind == 1)) rfl (zBv rfl rfl) <| OV (.bool (a0.Kind == 1)) rfl (zAb) <| OW.nil ?_
 refine zAn (t := a0.Kind == 1) rfl hm (fun aW hm => ?_) (fun aW hm => ?_)
 · refine CSR <| OV (.string ((aA ++ (⟨#[32]⟩ : ByteArray)) ++ aC)) rfl (zAe) ?_
   obtain ⟨aX, hm⟩ := zEs hm
   refine OV (.string (((aA ++ (⟨#[32]⟩ : ByteArray)) ++ aC) ++ (⟨#[32, 99, 111, 100, 101, 32]⟩ : ByteArray))) rfl (zIs rfl rfl aX) <| OV (PV b2 3) rfl (zAc (fsz := 1) 0 3 3 U49 rfl zAf rfl aE rfl) <| OV (IV a0.Value) rfl (zAd U2 rfl rfl (hL.cellB 0 rfl rfl)) ?_
   obtain ⟨aI, aY, hm⟩ := zAs hm
   refine zAa (OP.call rfl (zAq (vs := [(IV a0.Value)]) zRm ⟨rfl, trivial⟩) (zLH _ a0.Value aY) ?_)
   rintro bX bQ ⟨rfl, aZ⟩
   refine ⟨_, rfl, ?_⟩
   have hL := hL.pushAll aZ
   simp only [lA, lB, lC, lD] at hL
   obtain ⟨bA, hm⟩ := zEs hm
   refine OV (.string ((((aA ++ (⟨#[32]⟩ : ByteArray)) ++ aC) ++ (⟨#[32, 99, 111, 100, 101, 32]⟩ : ByteArray)) ++ aI)) rfl (zIs rfl rfl bA) <| OV (.string ((((aA ++ (⟨#[32]⟩ : ByteArray)) ++ aC) ++ (⟨#[32, 99, 111, 100, 101, 32]⟩ : ByteArray)) ++ aI)) rfl (zAb) <| OW.nil <| zAx ?_
   obtain rfl := oi hm
   exact RR1 rfl rfl ⟨rfl, hL.fresh 1 rfl [] (by decide) (by decide) rfl⟩
 refine CSR <| OV (.bool (a0.Kind == 2)) rfl (zBv rfl rfl) <| OV (.bool (a0.Kind == 2)) rfl (zAb) <| OW.nil ?_
 refine zAn (t := a0.Kind == 2) rfl hm (fun bB hm => ?_) (fun bB hm => ?_)
 · refine CSR <| OV (.string ((aA ++ (⟨#[32]⟩ : ByteArray)) ++ aC)) rfl (zAe) ?_
   obtain ⟨bC, hm⟩ := zEs hm
   refine OV (.string (((aA ++ (⟨#[32]⟩ : ByteArray)) ++ aC) ++ (⟨#[32, 116, 105, 109, 101, 32]⟩ : ByteArray))) rfl (zIs rfl rfl bC) <| OV (PV b2 3) rfl (zAc (fsz := 1) 0 3 3 U49 rfl zAf rfl aE rfl) <| OV (IV a0.Value) rfl (zAd U2 rfl rfl (hL.cellB 0 rfl rfl)) ?_
   obtain ⟨aJ, bD, hm⟩ := zAs hm
   refine zAa (OP.call rfl (zAq (vs := [(IV a0.Value)]) zL8 ⟨rfl, trivial⟩) (zJb _ (hL.tab 1 rfl rfl htab) a0.Value bD) ?_)
   rintro bY bR ⟨rfl, bE⟩
   refine ⟨_, rfl, ?_⟩
   have hL := hL.pushAll bE
   simp only [lA, lB, lC, lD] at hL
   obtain ⟨bF, hm⟩ := zEs hm
   refine OV (.string ((((aA ++ (⟨#[32]⟩ : ByteArray)) ++ aC) ++ (⟨#[32, 116, 105, 109, 101, 32]⟩ : ByteArray)) ++ aJ)) rfl (zIs rfl rfl bF) <| OV (.string ((((aA ++ (⟨#[32]⟩ : ByteArray)) ++ aC) ++ (⟨#[32, 116, 105, 109, 101, 32]⟩ : ByteArray)) ++ aJ)) rfl (zAb) <| OW.nil <| zAx ?_
   obtain rfl := oi hm
   exact RR1 rfl rfl ⟨rfl, hL.fresh 1 rfl [] (by decide) (by decide) rfl⟩
 refine zAt <| CSR <| OV (.string ((aA ++ (⟨#[32]⟩ : ByteArray)) ++ aC)) rfl (zAe) ?_
 obtain ⟨bG, hm⟩ := zEs hm
 refine OV (.string (((aA ++ (⟨#[32]⟩ : ByteArray)) ++ aC) ++ (⟨#[32, 112, 101, 114, 99, 101, 110, 116, 32]⟩ : ByteArray))) rfl (zIs rfl rfl bG) <| OV (PV b2 3) rfl (zAc (fsz := 1) 0 3 3 U49 rfl zAf rfl aE rfl) <| OV (IV a0.Value) rfl (zAd U2 rfl rfl (hL.cellB 0 rfl rfl)) ?_
 obtain ⟨aK, bH, hm⟩ := zAs hm
 refine zAa (OP.call rfl (zAq (vs := [(IV a0.Value)]) zL8 ⟨rfl, trivial⟩) (zJb _ (hL.tab 1 rfl rfl htab) a0.Value bH) ?_)
 rintro bZ bS ⟨rfl, bI⟩
 refine ⟨_, rfl, ?_⟩
 have hL := hL.pushAll bI
 simp only [lA, lB, lC, lD] at hL
 obtain ⟨bJ, hm⟩ := zEs hm
 refine OV (.string ((((aA ++ (⟨#[32]⟩ : ByteArray)) ++ aC) ++ (⟨#[32, 112, 101, 114, 99, 101, 110, 116, 32]⟩ : ByteArray)) ++ aK)) rfl (zIs rfl rfl bJ) <| OV (.string ((((aA ++ (⟨#[32]⟩ : ByteArray)) ++ aC) ++ (⟨#[32, 112, 101, 114, 99, 101, 110, 116, 32]⟩ : ByteArray)) ++ aK)) rfl (zAb) <| OW.nil <| zAx ?_
 obtain rfl := oi hm
 exact RR1 rfl rfl ⟨rfl, hL.fresh 1 rfl [] (by decide) (by decide) rfl⟩

theorem zLI (w0 : World)  {r : (List ByteArray)} (hm : zIS  = some r) :
    Calls Tryz.prog 59 #[] w0 fun e w' => ∃ (rv0 : Value) (rS0 : Nat → Prop), e = .returned rv0 ∧ Fresh w0 w' [Ent.own 9 rS0 rv0 r] := by
 unfold zIS at hm
 refine zAD (args := []) Tryz.func59 rfl rfl rfl ?_
 have hL := zAJ w0
 refine CSR <| OV (.slice none 0 0) rfl (zAb) <| ONR ?_
 refine zAa (zBS ([(⟨#[70, 73, 78]⟩ : ByteArray), (⟨#[68, 78, 67]⟩ : ByteArray), (⟨#[68, 78, 83]⟩ : ByteArray), (⟨#[79, 67, 83]⟩ : ByteArray), (⟨#[68, 78, 70]⟩ : ByteArray), (⟨#[82, 69, 84]⟩ : ByteArray), (⟨#[68, 83, 81]⟩ : ByteArray), (⟨#[68, 78, 69]⟩ : ByteArray), (⟨#[66, 70, 68]⟩ : ByteArray), (⟨#[82, 68, 71]⟩ : ByteArray)] : List ByteArray) hL U77 zMT rfl (by decide) (by first | (simp [Instr.fill, madeCells, Value.cells, ev, upd, Flat.enc, Flat.sz]; done) | rfl | kernel_rfl) rfl rfl ?_)
 intro wd1 v2 S3 hL
 refine OV v2 rfl (zAb) <| OW.nil <| zAx ?_
 obtain rfl := oi hm
 exact RR1 rfl rfl ⟨v2, S3, rfl, hL.fresh 1 rfl [0] (by decide) (by decide) rfl⟩

theorem zKK (w0 : World) (a0 : Penalty) {r : ByteArray} (hm : zGv a0 = some r) :
    Calls Tryz.prog 21 #[(.agg #[(IV a0.Race), (IV a0.Boat), (IV a0.Kind), (IV a0.Value)])] w0 fun e w' => e = .returned (.string r) ∧ Fresh w0 w' [] := by
 unfold zGv at hm
 refine zAD (args := [(.agg #[(IV a0.Race), (IV a0.Boat), (IV a0.Kind), (IV a0.Value)])]) Tryz.func21 rfl rfl rfl ?_
 have hL := zAJ w0
 refine CSR ?_
 refine zAa (zC3 (cs := #[(IV a0.Race), (IV a0.Boat), (IV a0.Kind), (IV a0.Value)]) hL rfl rfl rfl ?_)
 intro wd1 b2 hL
 refine OV (.string (⟨#[]⟩ : ByteArray)) rfl (zAb) <| ONS ?_
 refine zAM (fun (s_j1 : Bool) F w => F 1 = (PV b2 0) ∧ F 21 = (.bool s_j1) ∧ Hp w0 [Ent.blk b2 49 #[(IV a0.Race), (IV a0.Boat), (IV a0.Kind), (IV a0.Value)], zAg w0 w0.heap.size] w) (fun s_j1 => zBU a0 s_j1 = some r) ?_ ?_
 · refine zAl <| OV (PV b2 0) rfl (zAc (fsz := 1) 0 0 0 U49 rfl zAf rfl rfl rfl) <| OV (IV a0.Race) rfl (zAd U2 rfl rfl (hL.cellB 0 rfl rfl)) ?_
   obtain ⟨aK, aN, hm⟩ := zAs hm
   refine zAa (OP.call rfl (zAq (vs := [(IV a0.Race), (IV 0), (IV 11)]) zEw ⟨rfl, rfl, rfl, trivial⟩) (zBw _ a0.Race 0 11 aN) ?_)
   rintro cA bS ⟨rfl, aO⟩
   refine ⟨_, rfl, ?_⟩
   have hL := hL.pushAll aO
   simp only [lA, lB, lC, lD] at hL
   refine OV (.bool (!aK)) rfl (zCb rfl) <| OV (.bool (!aK)) rfl (zAe) ?_
   refine zAH hm (fun aD hm => ?_) (fun aD hm => ?_)
   · refine zAa (zAh rfl rfl aD rfl ?_)
     refine zAa (zAh rfl rfl aD rfl ?_)
     refine zAa (zAh rfl rfl aD rfl ?_)
     refine zAa (zAh rfl rfl aD rfl ?_)
     refine OV (.bool true) rfl (zAz rfl aD rfl) <| OV (.bool true) rfl (zAe) ?_
     refine zAa (zAh rfl rfl rfl rfl ?_)
     refine zAa (zAh rfl rfl rfl rfl ?_)
     refine zAa (zAh rfl rfl rfl rfl ?_)
     refine zAa (zAh rfl rfl rfl rfl ?_)
     refine zAa (zAh rfl rfl rfl rfl ?_)
     refine zAa (zAh rfl rfl rfl rfl ?_)
     refine OV (.bool true) rfl (zAz rfl rfl rfl) <| OW.nil ?_
     exact ⟨true, hm, ⟨rfl, rfl, hL⟩⟩
   refine zAa (zAj rfl rfl aD (zAk (v := (PV b2 1)) rfl (zAc (fsz := 1) 0 1 1 U49 rfl zAf rfl rfl rfl) ?_))
   refine zAa (zAj rfl rfl aD (zAk (v := (IV a0.Boat)) rfl (zAd U2 rfl rfl (hL.cellB 0 rfl rfl)) ?_))
   obtain ⟨aG, aP, hm⟩ := zAs hm
   refine zAa (zAj rfl rfl aD (OP.call rfl (zAq (vs := [(IV a0.Boat), (IV 0), (IV 15)]) zEw ⟨rfl, rfl, rfl, trivial⟩) (zBw _ a0.Boat 0 15 aP) ?_))
   rintro cB bT ⟨rfl, aQ⟩
   refine ⟨_, rfl, ?_⟩
   have hL := hL.pushAll aQ
   simp only [lA, lB, lC, lD] at hL
   refine zAa (zAj rfl rfl aD (zAk (v := (.bool (!aG))) rfl (zCb rfl) ?_))
   refine OV (.bool (!aG)) rfl (zAA rfl aD rfl) <| OV (.bool (!aG)) rfl (zAe) ?_
   refine zAH hm (fun aA hm => ?_) (fun aA hm => ?_)
   · refine zAa (zAh rfl rfl aA rfl ?_)
     refine zAa (zAh rfl rfl aA rfl ?_)
     refine zAa (zAh rfl rfl aA rfl ?_)
     refine zAa (zAh rfl rfl aA rfl ?_)
     refine zAa (zAh rfl rfl aA rfl ?_)
     refine zAa (zAh rfl rfl aA rfl ?_)
     refine OV (.bool true) rfl (zAz rfl aA rfl) <| OW.nil ?_
     exact ⟨true, hm, ⟨rfl, rfl, hL⟩⟩
   refine zAa (zAj rfl rfl aA (zAk (v := (PV b2 2)) rfl (zAc (fsz := 1) 0 2 2 U49 rfl zAf rfl rfl rfl) ?_))
   refine zAa (zAj rfl rfl aA (zAk (v := (IV a0.Kind)) rfl (zAd U2 rfl rfl (hL.cellB 0 rfl rfl)) ?_))
   refine zAa (zAj rfl rfl aA (zAk (v := (PV b2 3)) rfl (zAc (fsz := 1) 0 3 3 U49 rfl zAf rfl rfl rfl) ?_))
   refine zAa (zAj rfl rfl aA (zAk (v := (IV a0.Value)) rfl (zAd U2 rfl rfl (hL.cellB 0 rfl rfl)) ?_))
   obtain ⟨aH, aR, hm⟩ := zAs hm
   refine zAa (zAj rfl rfl aA (OP.call rfl (zAq (vs := [(IV a0.Kind), (IV a0.Value)]) zOG ⟨rfl, rfl, trivial⟩) (zJP _ a0.Kind a0.Value aR) ?_))
   rintro cC bU ⟨rfl, aS⟩
   refine ⟨_, rfl, ?_⟩
   have hL := hL.pushAll aS
   simp only [lA, lB, lC, lD] at hL
   refine zAa (zAj rfl rfl aA (zAk (v := (.bool (!aH))) rfl (zCb rfl) ?_))
   refine OV (.bool (!aH)) rfl (zAA rfl aA rfl) <| OW.nil ?_
   exact ⟨!aH, hm, ⟨rfl, rfl, hL⟩⟩
 intro s_j1 cD bV hJ hm
 unfold zBU at hm
 obtain ⟨aE, bP, hL⟩ := hJ
 refine zAn (t := s_j1) bP hm (fun aT hm => ?_) (fun aT hm => ?_)
 · refine CSR <| OV (.string (⟨#[]⟩ : ByteArray)) rfl (zAb) <| OW.nil <| zAx ?_
   obtain rfl := oi hm
   exact RR1 rfl rfl ⟨rfl, hL.fresh 1 rfl [] (by decide) (by decide) rfl⟩
 refine zAt <| zAF ?_
 refine zBW zAQ ?_
 have hL := hL.call (zA8 _)
 refine DW.pre (fuel := 0) (fin := bma 10 1023) (C := fun w' => Mod zBO _ w') [0, 1, 2, 3, 4, 5, 6, 7, 8, 9] (Mod.refl _ _) (by kernel_rfl) (by kernel_rfl) ?_
 refine QV (PV b2 0) rfl rfl (fun w' hm' => zAc (fsz := 1) 0 0 0 U49 rfl zAf rfl aE rfl) <| QV (IV a0.Race) rfl rfl (fun w' hm' => zAd U2 rfl rfl ((hL.call hm').cellB 0 rfl rfl)) ?_
 obtain ⟨aB, aU, hm⟩ := zAs hm
 refine zAi rfl (QP.call (v := (.string aB)) rfl (fun w' hm' => zAq (vs := [(IV a0.Race)]) zL9 ⟨rfl, trivial⟩) (fun w' hm' => (zHo w' a0.Race aU).mono (fun e w'' h => ⟨h.1, hm'.trans h.2.mod⟩)) ?_)
 obtain ⟨aV, hm⟩ := zEs hm
 refine QV (.string (aB ++ (⟨#[32]⟩ : ByteArray))) rfl rfl (fun w' hm' => zIs rfl rfl aV) <| QV (PV b2 1) rfl rfl (fun w' hm' => zAc (fsz := 1) 0 1 1 U49 rfl zAf rfl aE rfl) <| QV (IV a0.Boat) rfl rfl (fun w' hm' => zAd U2 rfl rfl ((hL.call hm').cellB 0 rfl rfl)) ?_
 obtain ⟨aC, aW, hm⟩ := zAs hm
 refine zAi rfl (QP.call (v := (.string aC)) rfl (fun w' hm' => zAq (vs := [(IV a0.Boat)]) zL9 ⟨rfl, trivial⟩) (fun w' hm' => (zHo w' a0.Boat aW).mono (fun e w'' h => ⟨h.1, hm'.trans h.2.mod⟩)) ?_)
 obtain ⟨aX, hm⟩ := zEs hm
 refine QV (.string ((aB ++ (⟨#[32]⟩ : ByteArray)) ++ aC)) rfl rfl (fun w' hm' => zIs rfl rfl aX) ?_
 obtain ⟨aY, hm⟩ := zEs hm
 refine QV (.string (((aB ++ (⟨#[32]⟩ : ByteArray)) ++ aC) ++ (⟨#[32]⟩ : ByteArray))) rfl rfl (fun w' hm' => zIs rfl rfl aY) <| QV (.string (((aB ++ (⟨#[32]⟩ : ByteArray)) ++ aC) ++ (⟨#[32]⟩ : ByteArray))) rfl rfl (fun w' hm' => zAb) ?_
 refine QW.nil ?_
 intro bW hmod
 have hL := hL.call hmod
 refine zBu (by kernel_rfl) ?_
 refine zAF <| CSR <| OV (PV b2 2) rfl (zAc (fsz := 1) 0 2 2 U49 rfl zAf rfl aE rfl) <| OV (IV a0.Kind) rfl (zAd U2 rfl rfl (hL.cellB 0 rfl rfl)) <| OW.nil <| CW.block <| CSR <| OV (.bool (a0.Kind == 1)) rfl (zBv rfl rfl) <| OV (.bool (a0.Kind == 1)) rfl (zAb) <| OW.nil ?_
 refine zAn (t := a0.Kind == 1) rfl hm (fun aZ hm => ?_) (fun aZ hm => ?_)
 · refine zAF ?_
   refine zDG (fun w' => Hp w0 [Ent.blk b2 49 #[(IV a0.Race), (IV a0.Boat), (IV a0.Kind), (IV a0.Value)], zAg w0 w0.heap.size] w') zAQ ?_
   have hL := hL.call (zA8 _)
   have hS := (hL.sl [0, 1] rfl)
   refine zAw 0 rfl (by kernel_rfl) rfl rfl hS (zAp (v := (.string (((aB ++ (⟨#[32]⟩ : ByteArray)) ++ aC) ++ (⟨#[32]⟩ : ByteArray)))) (fun w' hS' => zAe)) ?_
   have hS := (hL.sl [0, 1] rfl)
   obtain ⟨bA, hm⟩ := zEs hm
   refine zAw 1 rfl (by kernel_rfl) rfl rfl hS (zAp (v := (.string ((((aB ++ (⟨#[32]⟩ : ByteArray)) ++ aC) ++ (⟨#[32]⟩ : ByteArray)) ++ (⟨#[99, 111, 100, 101, 32]⟩ : ByteArray)))) (fun w' hS' => zIs rfl rfl bA)) ?_
   have hS := (hL.sl [0, 1] rfl)
   refine zAw 3 rfl (by kernel_rfl) rfl rfl hS (zAp (v := (PV b2 3)) (fun w' hS' => zAc (fsz := 1) 0 3 3 U49 rfl zAf rfl aE rfl)) ?_
   have hS := (hL.sl [0, 1] rfl)
   refine zAw 4 rfl (by kernel_rfl) rfl rfl hS (zAp (v := (IV a0.Value)) (fun w' hS' => zAd U2 rfl rfl (hS'.cellB 0 rfl rfl))) ?_
   obtain ⟨cE, bB, hm⟩ := zAs hm
   refine zAT 2 rfl (by kernel_rfl) (OP.call rfl (zAq (vs := []) zRn trivial) (zLI _  bB) ?_)
   rintro cF bX ⟨cG, cH, rfl, bC⟩
   refine ⟨_, rfl, ?_⟩
   have hL := hL.pushAll bC
   simp only [lA, lB, lC, lD] at hL
   refine ⟨(hL.sl [1, 2] rfl), ?_⟩
   have hS := (hL.sl [1, 2] rfl)
   obtain ⟨aI, bD, hm⟩ := zAs hm
   obtain ⟨bE, aJ⟩ := zAZ bD
   obtain ⟨bQ, bR, aF⟩ := zAC (hL.rdO 0 rfl) bE aJ
   refine zAw 5 rfl (by kernel_rfl) rfl rfl hS (zAp (v := (.pointer (some ⟨bQ, bR, none⟩))) (fun w' hS' => zA1 U77 zMT rfl rfl aF)) ?_
   refine zAT 6 rfl (by kernel_rfl) (zAk (v := (.string aI)) rfl (zAd U9 rfl rfl (zAv (hL.rdO 0 rfl) aF aJ 0 _ rfl)) ?_)
   refine ⟨(hL.sl [1, 2] rfl), ?_⟩
   have hS := (hL.sl [1, 2] rfl)
   obtain ⟨bF, hm⟩ := zEs hm
   refine zAw 7 rfl (by kernel_rfl) rfl rfl hS (zAp (v := (.string (((((aB ++ (⟨#[32]⟩ : ByteArray)) ++ aC) ++ (⟨#[32]⟩ : ByteArray)) ++ (⟨#[99, 111, 100, 101, 32]⟩ : ByteArray)) ++ aI))) (fun w' hS' => zIs rfl rfl bF)) ?_
   have hS := (hL.sl [1, 2] rfl)
   refine zAw 8 rfl (by kernel_rfl) rfl rfl hS (zAp (v := (.string (((((aB ++ (⟨#[32]⟩ : ByteArray)) ++ aC) ++ (⟨#[32]⟩ : ByteArray)) ++ (⟨#[99, 111, 100, 101, 32]⟩ : ByteArray)) ++ aI))) (fun w' hS' => zAb)) ?_
   refine zDB (by kernel_rfl) ?_
   refine zAx ?_
   obtain rfl := oi hm
   exact RR1 rfl rfl ⟨rfl, hL.fresh 2 rfl [] (by decide) (by decide) rfl⟩
 refine CSR <| OV (.bool (a0.Kind == 2)) rfl (zBv rfl rfl) <| OV (.bool (a0.Kind == 2)) rfl (zAb) <| OW.nil ?_
 refine zAn (t := a0.Kind == 2) rfl hm (fun bG hm => ?_) (fun bG hm => ?_)
 · refine CSR <| OV (.string (((aB ++ (⟨#[32]⟩ : ByteArray)) ++ aC) ++ (⟨#[32]⟩ : ByteArray))) rfl (zAe) ?_
   obtain ⟨bH, hm⟩ := zEs hm
   refine OV (.string ((((aB ++ (⟨#[32]⟩ : ByteArray)) ++ aC) ++ (⟨#[32]⟩ : ByteArray)) ++ (⟨#[116, 105, 109, 101, 32]⟩ : ByteArray))) rfl (zIs rfl rfl bH) <| OV (PV b2 3) rfl (zAc (fsz := 1) 0 3 3 U49 rfl zAf rfl aE rfl) <| OV (IV a0.Value) rfl (zAd U2 rfl rfl (hL.cellB 0 rfl rfl)) ?_
   obtain ⟨aL, bI, hm⟩ := zAs hm
   refine zAa (OP.call rfl (zAq (vs := [(IV a0.Value)]) zL9 ⟨rfl, trivial⟩) (zHo _ a0.Value bI) ?_)
   rintro cI bY ⟨rfl, bJ⟩
   refine ⟨_, rfl, ?_⟩
   have hL := hL.pushAll bJ
   simp only [lA, lB, lC, lD] at hL
   obtain ⟨bK, hm⟩ := zEs hm
   refine OV (.string (((((aB ++ (⟨#[32]⟩ : ByteArray)) ++ aC) ++ (⟨#[32]⟩ : ByteArray)) ++ (⟨#[116, 105, 109, 101, 32]⟩ : ByteArray)) ++ aL)) rfl (zIs rfl rfl bK) <| OV (.string (((((aB ++ (⟨#[32]⟩ : ByteArray)) ++ aC) ++ (⟨#[32]⟩ : ByteArray)) ++ (⟨#[116, 105, 109, 101, 32]⟩ : ByteArray)) ++ aL)) rfl (zAb) <| OW.nil <| zAx ?_
   obtain rfl := oi hm
   exact RR1 rfl rfl ⟨rfl, hL.fresh 1 rfl [] (by decide) (by decide) rfl⟩
 refine zAt <| CSR <| OV (.string (((aB ++ (⟨#[32]⟩ : ByteArray)) ++ aC) ++ (⟨#[32]⟩ : ByteArray))) rfl (zAe) ?_
 obtain ⟨bL, hm⟩ := zEs hm
 refine OV (.string ((((aB ++ (⟨#[32]⟩ : ByteArray)) ++ aC) ++ (⟨#[32]⟩ : ByteArray)) ++ (⟨#[112, 101, 114, 99, 101, 110, 116, 32]⟩ : ByteArray))) rfl (zIs rfl rfl bL) <| OV (PV b2 3) rfl (zAc (fsz := 1) 0 3 3 U49 rfl zAf rfl aE rfl) <| OV (IV a0.Value) rfl (zAd U2 rfl rfl (hL.cellB 0 rfl rfl)) ?_
 obtain ⟨aM, bM, hm⟩ := zAs hm
 refine zAa (OP.call rfl (zAq (vs := [(IV a0.Value)]) zL9 ⟨rfl, trivial⟩) (zHo _ a0.Value bM) ?_)
 rintro cJ bZ ⟨rfl, bN⟩
 refine ⟨_, rfl, ?_⟩
 have hL := hL.pushAll bN
 simp only [lA, lB, lC, lD] at hL
 obtain ⟨bO, hm⟩ := zEs hm
 refine OV (.string (((((aB ++ (⟨#[32]⟩ : ByteArray)) ++ aC) ++ (⟨#[32]⟩ : ByteArray)) ++ (⟨#[112, 101, 114, 99, 101, 110, 116, 32]⟩ : ByteArray)) ++ aM)) rfl (zIs rfl rfl bO) <| OV (.string (((((aB ++ (⟨#[32]⟩ : ByteArray)) ++ aC) ++ (⟨#[32]⟩ : ByteArray)) ++ (⟨#[112, 101, 114, 99, 101, 110, 116, 32]⟩ : ByteArray)) ++ aM)) rfl (zAb) <| OW.nil <| zAx ?_
 obtain rfl := oi hm
 exact RR1 rfl rfl ⟨rfl, hL.fresh 1 rfl [] (by decide) (by decide) rfl⟩

theorem zIK (w0 : World) (a0 : Series) {v1 : Value} (h2 : rdL (· < w0.heap.size) w0 v1 a0.Races) (a1 : List Penalty) {v3 : Value} (h4 : rdL (· < w0.heap.size) w0 v3 a1) {r : Table × Int} (hm : zCd a0 a1 = some r) :
    Calls Tryz.prog 22 #[(.agg #[(IV a0.Boats), (IV a0.Scheme), v1]), v3] w0 fun e w' => ∃ (rv0 : Value) (rS0 : Nat → Prop), ∃ (rv1 : Value) (rS1 : Nat → Prop), e = .returned (.tuple #[(.agg #[(IV r.1.Boats), rv0, rv1]), (IV r.2)]) ∧ Fresh w0 w' [Ent.own 27 rS0 rv0 r.1.Points, Ent.own 27 rS1 rv1 r.1.Codes] := by
 unfold zCd at hm
 refine zAD (args := [(.agg #[(IV a0.Boats), (IV a0.Scheme), v1]), v3]) Tryz.func22 rfl rfl rfl ?_
 have hL := zAJ w0
 refine CSR ?_
 refine zAa (zC3 (cs := #[(IV a0.Boats), (IV a0.Scheme), v1]) hL rfl rfl rfl ?_)
 intro wd5 b6 hL
 refine zAa (zBb (cs := #[(IV 0), (.slice none 0 0), (.slice none 0 0)]) hL zBg rfl rfl ?_)
 intro wd7 b8 hL
 refine OV (IV 0) rfl (zAb) <| ONS <| CSR <| OV (.agg #[(IV a0.Boats), (IV a0.Scheme), v1]) rfl (zAW (cs := [(IV a0.Boats), (IV a0.Scheme), v1]) U38 zA5 rfl rfl (hL.cellsB 1 rfl (o := 0) (l := [(IV a0.Boats), (IV a0.Scheme), v1]) (by intro j u hj; exact (by simpa using hj)))) <| OV v3 rfl (zAe) ?_
 obtain ⟨x9, aD, hm⟩ := zAs hm
 refine zAa (OP.call rfl (zAq (vs := [(.agg #[(IV a0.Boats), (IV a0.Scheme), v1]), v3]) zOy ⟨rfl, rfl, trivial⟩) (zJq _ a0 (hL.rdS 2 rfl h2) a1 (hL.rdS 2 rfl h4) aD) ?_)
 rintro aO aK ⟨rfl, aE⟩
 refine ⟨_, rfl, ?_⟩
 have hL := hL.pushAll aE
 simp only [lA, lB, lC, lD] at hL
 refine OV (IV x9) rfl (zAb) <| ONR <| OV (IV x9) rfl (zAe) <| OV (.bool (x9 != 0)) rfl (zDk rfl rfl) <| OW.nil ?_
 refine zAn (t := x9 != 0) rfl hm (fun aF hm => ?_) (fun aF hm => ?_)
 · refine CSR <| OV (.agg #[(IV 0), (.slice none 0 0), (.slice none 0 0)]) rfl (zCB zKY (ps := []) trivial (by simp [Instr.fill, zBJ, zBA, zBi, zBK, zBo, zBc])) <| OV (IV x9) rfl (zAe) ?_
   refine zAa (zA9 (l := [(IV 0), (.slice none 0 0), (.slice none 0 0)]) (cs' := #[(IV 0), (.slice none 0 0), (.slice none 0 0)]) hL 0 rfl zBg rfl rfl (fc ⟨rfl, (fc ⟨rfl, (fc ⟨rfl, fz⟩)⟩)⟩) rfl (nle rfl) rfl ?_)
   intro aL hL
   refine OV (IV x9) rfl (zAb) <| OW.nil <| zAx ?_
   have hL := hL.pushNil (List Int) 27
   have hL := hL.pushNil (List Int) 27
   obtain rfl := oi hm
   exact zP6 rfl rfl (zCN U26 zBg (hL.get 2 rfl) rfl) rfl ⟨(.slice none 0 0), zBO, (.slice none 0 0), zBO, rfl, hL.fresh 4 rfl [1, 0] (by decide) (by decide) rfl⟩
 refine zAt <| CSR <| OV (.agg #[(IV a0.Boats), (IV a0.Scheme), v1]) rfl (zAW (cs := [(IV a0.Boats), (IV a0.Scheme), v1]) U38 zA5 rfl rfl (hL.cellsB 1 rfl (o := 0) (l := [(IV a0.Boats), (IV a0.Scheme), v1]) (by intro j u hj; exact (by simpa using hj)))) <| OV v3 rfl (zAe) ?_
 obtain ⟨aC, aG, hm⟩ := zAs hm
 refine zAa (OP.call rfl (zAq (vs := [(.agg #[(IV a0.Boats), (IV a0.Scheme), v1]), v3]) zOA ⟨rfl, rfl, trivial⟩) (zIN _ a0 (hL.rdS 2 rfl h2) a1 (hL.rdS 2 rfl h4) aG) ?_)
 rintro aP aM ⟨aA, aI, aB, aJ, rfl, aH⟩
 refine ⟨_, rfl, ?_⟩
 have hL := hL.pushAll aH
 simp only [lA, lB, lC, lD] at hL
 refine zAa (zA9 (l := [(IV aC.Boats), aA, aB]) (cs' := #[(IV aC.Boats), aA, aB]) hL 2 rfl zBg rfl rfl (fc ⟨rfl, (fc ⟨zBI (hL.rdO 0 rfl), (fc ⟨zBI (hL.rdO 1 rfl), fz⟩)⟩)⟩) rfl (nle rfl) rfl ?_)
 intro aN hL
 refine OV (IV 0) rfl (zAb) <| OW.nil <| zAx ?_
 obtain rfl := oi hm
 exact zP6 rfl rfl (zCN U26 zBg (hL.get 2 rfl) rfl) rfl ⟨aA, aI, aB, aJ, rfl, hL.fresh 4 rfl [0, 1] (by decide) (by decide) rfl⟩

theorem zKv (w0 : World) (htab : Lib.TabIs Tryz.prog w0 "internal/strconv.uint64pow10" .u64 Lib.pow10Tab) (a0 : List UInt8) {v1 : Value} (h2 : rdL (· < w0.heap.size) w0 v1 a0) {r : Bool} (hm : zHy a0 = some r) :
    Calls Tryz.prog 4 #[v1] w0 fun e w' => e = .returned (.bool r) ∧ Fresh w0 w' [] := by
 unfold zHy at hm
 refine zAD (args := [v1]) Tryz.func4 rfl rfl rfl ?_
 have hL := zAJ w0
 refine CSR <| OV (.bool false) rfl (zAb) <| ONS <| CSR <| OV v1 rfl (zAe) ?_
 obtain ⟨x3, hx4, hm⟩ := zAs hm
 refine zAa (OP.call rfl (zAq (vs := [v1]) zSy ⟨rfl, trivial⟩) (zNq _ a0 (hL.rdS 0 rfl h2) hx4) ?_)
 rintro e5 wd6 ⟨rfl, hF7⟩
 refine ⟨_, rfl, ?_⟩
 have hL := hL.pushAll hF7
 simp only [lA, lB, lC, lD] at hL
 refine OW.nil ?_
 refine zAn (t := x3) rfl hm (fun hb8 hm => ?_) (fun hb8 hm => ?_)
 · refine CSR <| OV (.bool true) rfl (zAb) <| OW.nil <| zAx ?_
   obtain rfl := oi hm
   exact RR1 rfl rfl ⟨rfl, hL.fresh 0 rfl [] (by decide) (by decide) rfl⟩
 refine zAt <| CSR <| OV v1 rfl (zAe) ?_
 obtain ⟨x9, eD, hm⟩ := zAs hm
 refine zAa (OP.call rfl (zAq (vs := [v1]) zOs ⟨rfl, trivial⟩) (zIM _ a0 (hL.rdS 0 rfl h2) eD) ?_)
 rintro iE hE ⟨bM, iF, bS, iG, bT, iH, rfl, eE⟩
 refine ⟨_, rfl, ?_⟩
 have hL := hL.pushAll eE
 simp only [lA, lB, lC, lD] at hL
 refine OV (.tuple #[(.agg #[(IV x9.1.Boats), (IV x9.1.Scheme), bM]), bS, bT, (IV x9.2.2.2)]) rfl (zAe) <| OV (.agg #[(IV x9.1.Boats), (IV x9.1.Scheme), bM]) rfl (zA7 rfl rfl) <| OV bS rfl (zA7 rfl rfl) <| OV bT rfl (zA7 rfl rfl) <| OV (IV x9.2.2.2) rfl (zA7 rfl rfl) ?_
 refine zAa (zBb (cs := #[(IV 0), (IV 0), (.slice none 0 0)]) hL zA5 rfl rfl ?_)
 intro hF bJ hL
 refine zAa (zA9 (l := [(IV x9.1.Boats), (IV x9.1.Scheme), bM]) (cs' := #[(IV x9.1.Boats), (IV x9.1.Scheme), bM]) hL 0 rfl zA5 rfl rfl (fc ⟨rfl, (fc ⟨rfl, (fc ⟨zBI (hL.rdO 1 rfl), fz⟩)⟩)⟩) rfl (nle rfl) rfl ?_)
 intro hG hL
 refine OV bS rfl (zAb) <| OV bT rfl (zAb) <| OV (IV x9.2.2.2) rfl (zAb) <| ONR <| OV (.agg #[(IV x9.1.Boats), (IV x9.1.Scheme), bM]) rfl (zAW (cs := [(IV x9.1.Boats), (IV x9.1.Scheme), bM]) U38 zA5 rfl rfl (hL.cellsB 0 rfl (o := 0) (l := [(IV x9.1.Boats), (IV x9.1.Scheme), bM]) (by intro j u hj; exact (by simpa using hj)))) <| OV bS rfl (zAe) <| OV bT rfl (zAe) <| OV (IV x9.2.2.2) rfl (zAe) ?_
 obtain ⟨aD, eF, hm⟩ := zAs hm
 refine zAa (OP.call rfl (zAq (vs := [(.agg #[(IV x9.1.Boats), (IV x9.1.Scheme), bM]), bS, bT, (IV x9.2.2.2)]) zQ6 ⟨rfl, rfl, rfl, rfl, trivial⟩) (zK5 _ x9.1 (hL.rdO 1 rfl) x9.2.1 (hL.rdO 2 rfl) x9.2.2.1 (hL.rdO 3 rfl) x9.2.2.2 eF) ?_)
 rintro iI hH ⟨rfl, eG⟩
 refine ⟨_, rfl, ?_⟩
 have hL := hL.pushAll eG
 simp only [lA, lB, lC, lD] at hL
 refine OV (.tuple #[(IV aD.1), (IV aD.2)]) rfl (zAe) <| OV (IV aD.1) rfl (zA7 rfl rfl) <| OV (IV aD.2) rfl (zA7 rfl rfl) <| OV (IV aD.1) rfl (zAb) <| OV (IV aD.2) rfl (zAb) <| ONR <| OV v1 rfl (zAe) ?_
 obtain ⟨aA, eH, hm⟩ := zAs hm
 refine zAa (OP.call rfl (zAq (vs := [v1]) zOs ⟨rfl, trivial⟩) (zIM _ a0 (hL.rdS 4 rfl h2) eH) ?_)
 rintro iJ hI ⟨aG, bU, aT, cH, aQ, cI, rfl, eI⟩
 refine ⟨_, rfl, ?_⟩
 have hL := hL.pushAll eI
 simp only [lA, lB, lC, lD] at hL
 refine OV (.tuple #[(.agg #[(IV aA.1.Boats), (IV aA.1.Scheme), aG]), aT, aQ, (IV aA.2.2.2)]) rfl (zAe) <| OV (.agg #[(IV aA.1.Boats), (IV aA.1.Scheme), aG]) rfl (zA7 rfl rfl) <| OV aT rfl (zA7 rfl rfl) <| OV aQ rfl (zA7 rfl rfl) <| OV (IV aA.2.2.2) rfl (zA7 rfl rfl) ?_
 refine zAa (zA9 (l := [(IV aA.1.Boats), (IV aA.1.Scheme), aG]) (cs' := #[(IV aA.1.Boats), (IV aA.1.Scheme), aG]) hL 3 rfl zA5 rfl rfl (fc ⟨rfl, (fc ⟨rfl, (fc ⟨zBI (hL.rdO 0 rfl), fz⟩)⟩)⟩) rfl (nle rfl) rfl ?_)
 intro hK hL
 refine OV aT rfl (zAb) <| OV aQ rfl (zAb) <| OV (IV aA.2.2.2) rfl (zAb) <| ONR <| OV (.agg #[(IV aA.1.Boats), (IV aA.1.Scheme), aG]) rfl (zAW (cs := [(IV aA.1.Boats), (IV aA.1.Scheme), aG]) U38 zA5 rfl rfl (hL.cellsB 3 rfl (o := 0) (l := [(IV aA.1.Boats), (IV aA.1.Scheme), aG]) (by intro j u hj; exact (by simpa using hj)))) <| OV aT rfl (zAe) <| OV aQ rfl (zAe) <| OV (IV aA.2.2.2) rfl (zAe) ?_
 obtain ⟨aZ, eJ, hm⟩ := zAs hm
 refine zAa (OP.call rfl (zAq (vs := [(.agg #[(IV aA.1.Boats), (IV aA.1.Scheme), aG]), aT, aQ, (IV aA.2.2.2)]) zQ7 ⟨rfl, rfl, rfl, rfl, trivial⟩) (zK7 _ aA.1 (hL.rdO 0 rfl) aA.2.1 (hL.rdO 1 rfl) aA.2.2.1 (hL.rdO 2 rfl) aA.2.2.2 eJ) ?_)
 rintro iK hM ⟨rfl, eK⟩
 refine ⟨_, rfl, ?_⟩
 have hL := hL.pushAll eK
 simp only [lA, lB, lC, lD] at hL
 refine OV (.tuple #[(IV aZ.1), (IV aZ.2)]) rfl (zAe) <| OV (IV aZ.1) rfl (zA7 rfl rfl) <| OV (IV aZ.2) rfl (zA7 rfl rfl) <| OV (IV aZ.1) rfl (zAb) <| OV (IV aZ.2) rfl (zAb) <| ONS ?_
 refine zAM (fun (s_j1 : Bool) F w => F 0 = v1 ∧ F 3 = (PV bJ 0) ∧ F 4 = aT ∧ F 5 = aQ ∧ F 6 = (IV aA.2.2.2) ∧ F 7 = (IV aD.1) ∧ F 8 = (IV aD.2) ∧ F 68 = (.bool s_j1) ∧ Hp w0 [Ent.own 101 bU aG aA.1.Races, Ent.own 49 cH aT aA.2.1, Ent.own 2 cI aQ aA.2.2.1, Ent.blk bJ 38 #[(IV aA.1.Boats), (IV aA.1.Scheme), aG], zAg w0 w0.heap.size] w) (fun s_j1 => zEp a0 aD aA s_j1 = some r) ?_ ?_
 · refine zAl <| OV (IV aD.2) rfl (zAe) <| OV (IV aZ.2) rfl (zAe) <| OV (.bool (aD.2 != aZ.2)) rfl (zDk rfl rfl) <| OV (.bool (aD.2 != aZ.2)) rfl (zAe) ?_
   refine zAH hm (fun aS hm => ?_) (fun aS hm => ?_)
   · refine zAa (zAh rfl rfl aS rfl ?_)
     refine zAa (zAh rfl rfl aS rfl ?_)
     refine zAa (zAh rfl rfl aS rfl ?_)
     refine OV (.bool true) rfl (zAz rfl aS rfl) <| OW.nil ?_
     have hL := hL.sl [0, 1, 2, 3, 7] rfl
     exact ⟨true, hm, ⟨rfl, rfl, rfl, rfl, rfl, rfl, rfl, rfl, hL⟩⟩
   refine zAa (zAj rfl rfl aS (zAk (v := (IV aD.1)) rfl (zAe) ?_))
   refine zAa (zAj rfl rfl aS (zAk (v := (IV aZ.1)) rfl (zAe) ?_))
   refine zAa (zAj rfl rfl aS (zAk (v := (.bool (aD.1 != aZ.1))) rfl (zDk rfl rfl) ?_))
   refine OV (.bool (aD.1 != aZ.1)) rfl (zAA rfl aS rfl) <| OW.nil ?_
   have hL := hL.sl [0, 1, 2, 3, 7] rfl
   exact ⟨aD.1 != aZ.1, hm, ⟨rfl, rfl, rfl, rfl, rfl, rfl, rfl, rfl, hL⟩⟩
 intro s_j1 iL hN hJ hm
 unfold zEp at hm
 obtain ⟨gE, dX, dY, dZ, eA, eB, eC, gF, hL⟩ := hJ
 refine zAn (t := s_j1) gF hm (fun eL hm => ?_) (fun eL hm => ?_)
 · refine CSR <| OV (.bool false) rfl (zAb) <| OW.nil <| zAx ?_
   obtain rfl := oi hm
   exact RR1 rfl rfl ⟨rfl, hL.fresh 4 rfl [] (by decide) (by decide) rfl⟩
 refine zAt <| CSR <| OV v1 rfl (zAo gE) ?_
 obtain ⟨aB, eM, hm⟩ := zAs hm
 refine zAa (OP.call rfl (zAq (vs := [v1]) zQ8 ⟨rfl, trivial⟩) (zJN _ a0 (hL.rdS 4 rfl h2) eM) ?_)
 rintro iM hO ⟨rfl, eN⟩
 refine ⟨_, rfl, ?_⟩
 have hL := hL.pushAll eN
 simp only [lA, lB, lC, lD] at hL
 refine OV (.tuple #[(IV aB.1), (IV aB.2.1), (IV aB.2.2.1), (IV aB.2.2.2.1), (IV aB.2.2.2.2)]) rfl (zAe) <| OV (IV aB.1) rfl (zA7 rfl rfl) <| OV (IV aB.2.1) rfl (zA7 rfl rfl) <| OV (IV aB.2.2.1) rfl (zA7 rfl rfl) <| OV (IV aB.2.2.2.1) rfl (zA7 rfl rfl) <| OV (IV aB.2.2.2.2) rfl (zA7 rfl rfl) <| OV (IV aB.1) rfl (zAb) <| OV (IV aB.2.1) rfl (zAb) <| OV (IV aB.2.2.1) rfl (zAb) <| OV (IV aB.2.2.2.1) rfl (zAb) <| OV (IV aB.2.2.2.2) rfl (zAb) <| ONR <| OV (IV aB.1) rfl (zAe) <| OV (IV aB.2.1) rfl (zAe) <| OV (IV aB.2.2.1) rfl (zAe) <| OV (IV aB.2.2.2.1) rfl (zAe) <| OV (IV aB.2.2.2.2) rfl (zAe) ?_
 obtain ⟨aR, eO, hm⟩ := zAs hm
 refine zAa (OP.call rfl (zAq (vs := [(IV aB.1), (IV aB.2.1), (IV aB.2.2.1), (IV aB.2.2.2.1), (IV aB.2.2.2.2)]) zQ9 ⟨rfl, rfl, rfl, rfl, rfl, trivial⟩) (zKt _ aB.1 aB.2.1 aB.2.2.1 aB.2.2.2.1 aB.2.2.2.2 eO) ?_)
 rintro iN hP ⟨bA, cQ, rfl, eP⟩
 refine ⟨_, rfl, ?_⟩
 have hL := hL.pushAll eP
 simp only [lA, lB, lC, lD] at hL
 refine OV (.tuple #[bA, (IV aR.2)]) rfl (zAe) <| OV bA rfl (zA7 rfl rfl) <| OV (IV aR.2) rfl (zA7 rfl rfl) <| OV bA rfl (zAb) <| OV (IV aR.2) rfl (zAb) <| ONR <| OV (IV aB.1) rfl (zAe) <| OV (IV aB.2.1) rfl (zAe) <| OV (IV aB.2.2.1) rfl (zAe) <| OV (IV aB.2.2.2.1) rfl (zAe) <| OV (IV aB.2.2.2.2) rfl (zAe) ?_
 obtain ⟨aU, eQ, hm⟩ := zAs hm
 refine zAa (OP.call rfl (zAq (vs := [(IV aB.1), (IV aB.2.1), (IV aB.2.2.1), (IV aB.2.2.2.1), (IV aB.2.2.2.2)]) zRa ⟨rfl, rfl, rfl, rfl, rfl, trivial⟩) (zKu _ aB.1 aB.2.1 aB.2.2.1 aB.2.2.2.1 aB.2.2.2.2 eQ) ?_)
 rintro iO hQ ⟨bE, cR, rfl, eR⟩
 refine ⟨_, rfl, ?_⟩
 have hL := hL.pushAll eR
 simp only [lA, lB, lC, lD] at hL
 refine OV (.tuple #[bE, (IV aU.2)]) rfl (zAe) <| OV bE rfl (zA7 rfl rfl) <| OV (IV aU.2) rfl (zA7 rfl rfl) <| OV bE rfl (zAb) <| OV (IV aU.2) rfl (zAb) <| ONS ?_
 refine zAM (fun (s_j2 : Bool) F w => F 3 = (PV bJ 0) ∧ F 4 = aT ∧ F 5 = aQ ∧ F 6 = (IV aA.2.2.2) ∧ F 7 = (IV aD.1) ∧ F 8 = (IV aD.2) ∧ F 16 = bA ∧ F 18 = bE ∧ F 104 = (.bool s_j2) ∧ Hp w0 [Ent.own 49 cR bE aU.1, Ent.own 49 cQ bA aR.1, Ent.own 101 bU aG aA.1.Races, Ent.own 49 cH aT aA.2.1, Ent.own 2 cI aQ aA.2.2.1, Ent.blk bJ 38 #[(IV aA.1.Boats), (IV aA.1.Scheme), aG], zAg w0 w0.heap.size] w) (fun s_j2 => zEo aD aA aR aU s_j2 = some r) ?_ ?_
 · refine zAl <| OV (IV aR.2) rfl (zAe) <| OV (IV aU.2) rfl (zAe) <| OV (.bool (aR.2 != aU.2)) rfl (zDk rfl rfl) <| OV (.bool (aR.2 != aU.2)) rfl (zAe) ?_
   refine zAH hm (fun aJ hm => ?_) (fun aJ hm => ?_)
   · refine zAa (zAh rfl rfl aJ rfl ?_)
     refine zAa (zAh rfl rfl aJ rfl ?_)
     refine zAa (zAh rfl rfl aJ rfl ?_)
     refine zAa (zAh rfl rfl aJ rfl ?_)
     refine zAa (zAh rfl rfl aJ rfl ?_)
     refine OV (.bool true) rfl (zAz rfl aJ rfl) <| OW.nil ?_
     exact ⟨true, hm, ⟨dX, dY, dZ, eA, eB, eC, rfl, rfl, rfl, hL⟩⟩
   refine zAa (zAj rfl rfl aJ (zAk (v := bA) rfl (zAe) ?_))
   refine zAa (zAj rfl rfl aJ (zAk (v := (IV (aR.1.length : Int))) rfl (zA3 U39 rfl (hL.rdO 1 rfl)) ?_))
   refine zAa (zAj rfl rfl aJ (zAk (v := bE) rfl (zAe) ?_))
   refine zAa (zAj rfl rfl aJ (zAk (v := (IV (aU.1.length : Int))) rfl (zA3 U39 rfl (hL.rdO 0 rfl)) ?_))
   refine zAa (zAj rfl rfl aJ (zAk (v := (.bool ((aR.1.length : Int) != (aU.1.length : Int)))) rfl (zDk rfl rfl) ?_))
   refine OV (.bool ((aR.1.length : Int) != (aU.1.length : Int))) rfl (zAA rfl aJ rfl) <| OW.nil ?_
   exact ⟨(aR.1.length : Int) != (aU.1.length : Int), hm, ⟨dX, dY, dZ, eA, eB, eC, rfl, rfl, rfl, hL⟩⟩
 intro s_j2 iP hR hJ hm
 unfold zEo at hm
 obtain ⟨gG, gH, gI, gJ, gK, gL, gM, gN, gO, hL⟩ := hJ
 refine zAn (t := s_j2) gO hm (fun eS hm => ?_) (fun eS hm => ?_)
 · refine CSR <| OV (.bool false) rfl (zAb) <| OW.nil <| zAx ?_
   obtain rfl := oi hm
   exact RR1 rfl rfl ⟨rfl, hL.fresh 6 rfl [] (by decide) (by decide) rfl⟩
 refine zAt <| zAF <| CSR <| OV (IV 0) rfl (zAb) <| OW.nil ?_
 obtain ⟨hS, cV, hm⟩ := zAs hm
 refine zAU (fun (s_l1 : Int) F w => F 3 = (PV bJ 0) ∧ F 4 = aT ∧ F 5 = aQ ∧ F 6 = (IV aA.2.2.2) ∧ F 7 = (IV aD.1) ∧ F 8 = (IV aD.2) ∧ F 16 = bA ∧ F 18 = bE ∧ F 20 = (IV s_l1) ∧ Hp w0 [Ent.own 49 cR bE aU.1, Ent.own 49 cQ bA aR.1, Ent.own 101 bU aG aA.1.Races, Ent.own 49 cH aT aA.2.1, Ent.own 2 cI aQ aA.2.2.1, Ent.blk bJ 38 #[(IV aA.1.Boats), (IV aA.1.Scheme), aG], zAg w0 w0.heap.size] w) (fun o => zBh o (fun x => some x) (fun s => zEm aD aA s) = some r) cV hm ⟨gG, gH, gI, gJ, gK, gL, gM, gN, rfl, hL⟩ ?_ ?_
 · intro s_l1 hT gP hJ hm
   have hm := zBD hm
   have hm : zEm aD aA s_l1 = some r := hm
   unfold zEm at hm
   obtain ⟨cS, eT, cT, bF, bK, eU, hU, hV, hW, hL⟩ := hJ
   refine zAF <| CSR <| OV (IV aD.2) rfl (zAo eU) <| OV (.bool (aD.2 != 0)) rfl (zDk rfl rfl) <| OW.nil ?_
   refine zAn (t := aD.2 != 0) rfl hm (fun cW hm => ?_) (fun cW hm => ?_)
   · refine CSR <| OV (.bool true) rfl (zAb) <| OW.nil <| zAx ?_
     obtain rfl := oi hm
     exact RR1 rfl rfl ⟨rfl, hL.fresh 6 rfl [] (by decide) (by decide) rfl⟩
   refine zAt <| CSR <| OV (.agg #[(IV aA.1.Boats), (IV aA.1.Scheme), aG]) rfl (zAW (cs := [(IV aA.1.Boats), (IV aA.1.Scheme), aG]) U38 zA5 rfl cS (hL.cellsB 5 rfl (o := 0) (l := [(IV aA.1.Boats), (IV aA.1.Scheme), aG]) (by intro j u hj; exact (by simpa using hj)))) ?_
   obtain ⟨aI, cX, hm⟩ := zAs hm
   refine zAa (OP.call rfl (zAq (vs := [(.agg #[(IV aA.1.Boats), (IV aA.1.Scheme), aG]), (.slice none 0 0)]) zOt ⟨rfl, rfl, trivial⟩) (zIK _ aA.1 (hL.rdO 2 rfl) ([] : List Penalty) zPD cX) ?_)
   rintro hX gQ ⟨aV, eV, aW, eW, rfl, cY⟩
   refine ⟨_, rfl, ?_⟩
   have hL := hL.pushAll cY
   simp only [lA, lB, lC, lD] at hL
   refine OV (.tuple #[(.agg #[(IV aI.1.Boats), aV, aW]), (IV aI.2)]) rfl (zAe) <| OV (.agg #[(IV aI.1.Boats), aV, aW]) rfl (zA7 rfl rfl) <| OV (IV aI.2) rfl (zA7 rfl rfl) ?_
   refine zAa (zBb (cs := #[(IV 0), (.slice none 0 0), (.slice none 0 0)]) hL zBg rfl rfl ?_)
   intro gR eX hL
   refine zAa (zA9 (l := [(IV aI.1.Boats), aV, aW]) (cs' := #[(IV aI.1.Boats), aV, aW]) hL 0 rfl zBg rfl rfl (fc ⟨rfl, (fc ⟨zBI (hL.rdO 1 rfl), (fc ⟨zBI (hL.rdO 2 rfl), fz⟩)⟩)⟩) rfl (nle rfl) rfl ?_)
   intro gS hL
   refine OV (IV aI.2) rfl (zAb) <| ONR <| OV (.agg #[(IV aA.1.Boats), (IV aA.1.Scheme), aG]) rfl (zAW (cs := [(IV aA.1.Boats), (IV aA.1.Scheme), aG]) U38 zA5 rfl cS (hL.cellsB 8 rfl (o := 0) (l := [(IV aA.1.Boats), (IV aA.1.Scheme), aG]) (by intro j u hj; exact (by simpa using hj)))) <| OV aT rfl (zAo eT) ?_
   obtain ⟨aH, cZ, hm⟩ := zAs hm
   refine zAa (OP.call rfl (zAq (vs := [(.agg #[(IV aA.1.Boats), (IV aA.1.Scheme), aG]), aT]) zOt ⟨rfl, rfl, trivial⟩) (zIK _ aA.1 (hL.rdO 5 rfl) aA.2.1 (hL.rdO 6 rfl) cZ) ?_)
   rintro hY gT ⟨aX, eY, aY, eZ, rfl, dA⟩
   refine ⟨_, rfl, ?_⟩
   have hL := hL.pushAll dA
   simp only [lA, lB, lC, lD] at hL
   refine OV (.tuple #[(.agg #[(IV aH.1.Boats), aX, aY]), (IV aH.2)]) rfl (zAe) <| OV (.agg #[(IV aH.1.Boats), aX, aY]) rfl (zA7 rfl rfl) <| OV (IV aH.2) rfl (zA7 rfl rfl) ?_
   refine zAa (zBb (cs := #[(IV 0), (.slice none 0 0), (.slice none 0 0)]) hL zBg rfl rfl ?_)
   intro gU fA hL
   refine zAa (zA9 (l := [(IV aH.1.Boats), aX, aY]) (cs' := #[(IV aH.1.Boats), aX, aY]) hL 0 rfl zBg rfl rfl (fc ⟨rfl, (fc ⟨zBI (hL.rdO 1 rfl), (fc ⟨zBI (hL.rdO 2 rfl), fz⟩)⟩)⟩) rfl (nle rfl) rfl ?_)
   intro gV hL
   refine OV (IV aH.2) rfl (zAb) <| ONR <| OV (.agg #[(IV aI.1.Boats), aV, aW]) rfl (zAW (cs := [(IV aI.1.Boats), aV, aW]) U26 zBg rfl rfl (hL.cellsB 3 rfl (o := 0) (l := [(IV aI.1.Boats), aV, aW]) (by intro j u hj; exact (by simpa using hj)))) <| OV aQ rfl (zAo cT) ?_
   obtain ⟨aM, dB, hm⟩ := zAs hm
   refine zAa (OP.call rfl (zAq (vs := [(.agg #[(IV aI.1.Boats), aV, aW]), aQ]) zOr ⟨rfl, rfl, trivial⟩) (zJ2 _ aI.1 (hL.rdO 4 rfl) (hL.rdO 5 rfl) aA.2.2.1 (hL.rdO 10 rfl) dB) ?_)
   rintro hZ gW ⟨bH, fB, rfl, dC⟩
   refine ⟨_, rfl, ?_⟩
   have hL := hL.pushAll dC
   simp only [lA, lB, lC, lD] at hL
   refine OV (.tuple #[bH, (IV aM.2)]) rfl (zAe) <| OV bH rfl (zA7 rfl rfl) <| OV (IV aM.2) rfl (zA7 rfl rfl) <| OV bH rfl (zAb) <| OV (IV aM.2) rfl (zAb) <| ONR <| OV (.agg #[(IV aH.1.Boats), aX, aY]) rfl (zAW (cs := [(IV aH.1.Boats), aX, aY]) U26 zBg rfl rfl (hL.cellsB 1 rfl (o := 0) (l := [(IV aH.1.Boats), aX, aY]) (by intro j u hj; exact (by simpa using hj)))) <| OV aQ rfl (zAo cT) ?_
   obtain ⟨aN, dD, hm⟩ := zAs hm
   refine zAa (OP.call rfl (zAq (vs := [(.agg #[(IV aH.1.Boats), aX, aY]), aQ]) zOr ⟨rfl, rfl, trivial⟩) (zJ2 _ aH.1 (hL.rdO 2 rfl) (hL.rdO 3 rfl) aA.2.2.1 (hL.rdO 11 rfl) dD) ?_)
   rintro iA gX ⟨bI, fC, rfl, dE⟩
   refine ⟨_, rfl, ?_⟩
   have hL := hL.pushAll dE
   simp only [lA, lB, lC, lD] at hL
   refine OV (.tuple #[bI, (IV aN.2)]) rfl (zAe) <| OV bI rfl (zA7 rfl rfl) <| OV (IV aN.2) rfl (zA7 rfl rfl) <| OV bI rfl (zAb) <| OV (IV aN.2) rfl (zAb) <| ONS ?_
   refine zAM (fun (s_j3 : Bool) F w => F 6 = (IV aA.2.2.2) ∧ F 7 = (IV aD.1) ∧ F 25 = bH ∧ F 27 = bI ∧ F 183 = (.bool s_j3) ∧ Hp w0 [Ent.own 2 fC bI aN.1, Ent.own 2 fB bH aM.1, Ent.blk fA 26 #[(IV aH.1.Boats), aX, aY], Ent.own 27 eY aX aH.1.Points, Ent.own 27 eZ aY aH.1.Codes, Ent.blk eX 26 #[(IV aI.1.Boats), aV, aW], Ent.own 27 eV aV aI.1.Points, Ent.own 27 eW aW aI.1.Codes, Ent.own 101 bU aG aA.1.Races, Ent.blk bJ 38 #[(IV aA.1.Boats), (IV aA.1.Scheme), aG], zAg w0 w0.heap.size] w) (fun s_j3 => zBQ aD aA aM aN s_j3 = some r) ?_ ?_
   · refine zAl <| OV (IV aI.2) rfl (zAe) <| OV (.bool (aI.2 != 0)) rfl (zDk rfl rfl) <| OV (.bool (aI.2 != 0)) rfl (zAe) ?_
     refine zAH hm (fun bB hm => ?_) (fun bB hm => ?_)
     · refine zAa (zAh rfl rfl bB rfl ?_)
       refine zAa (zAh rfl rfl bB rfl ?_)
       refine OV (.bool true) rfl (zAz rfl bB rfl) <| OV (.bool true) rfl (zAe) ?_
       refine zAa (zAh rfl rfl rfl rfl ?_)
       refine zAa (zAh rfl rfl rfl rfl ?_)
       refine OV (.bool true) rfl (zAz rfl rfl rfl) <| OV (.bool true) rfl (zAe) ?_
       refine zAa (zAh rfl rfl rfl rfl ?_)
       refine zAa (zAh rfl rfl rfl rfl ?_)
       refine OV (.bool true) rfl (zAz rfl rfl rfl) <| OV (.bool true) rfl (zAe) ?_
       refine zAa (zAh rfl rfl rfl rfl ?_)
       refine zAa (zAh rfl rfl rfl rfl ?_)
       refine zAa (zAh rfl rfl rfl rfl ?_)
       refine zAa (zAh rfl rfl rfl rfl ?_)
       refine OV (.bool true) rfl (zAz rfl rfl rfl) <| OV (.bool true) rfl (zAe) ?_
       refine zAa (zAh rfl rfl rfl rfl ?_)
       refine zAa (zAh rfl rfl rfl rfl ?_)
       refine zAa (zAh rfl rfl rfl rfl ?_)
       refine zAa (zAh rfl rfl rfl rfl ?_)
       refine OV (.bool true) rfl (zAz rfl rfl rfl) <| OW.nil ?_
       have hL := hL.sl [0, 1, 2, 3, 4, 5, 6, 7, 10, 13, 14] rfl
       exact ⟨true, hm, ⟨bF, bK, rfl, rfl, rfl, hL⟩⟩
     refine zAa (zAj rfl rfl bB (zAk (v := (IV aH.2)) rfl (zAe) ?_))
     refine zAa (zAj rfl rfl bB (zAk (v := (.bool (aH.2 != 0))) rfl (zDk rfl rfl) ?_))
     refine OV (.bool (aH.2 != 0)) rfl (zAA rfl bB rfl) <| OV (.bool (aH.2 != 0)) rfl (zAe) ?_
     refine zAH hm (fun bC hm => ?_) (fun bC hm => ?_)
     · refine zAa (zAh rfl rfl bC rfl ?_)
       refine zAa (zAh rfl rfl bC rfl ?_)
       refine OV (.bool true) rfl (zAz rfl bC rfl) <| OV (.bool true) rfl (zAe) ?_
       refine zAa (zAh rfl rfl rfl rfl ?_)
       refine zAa (zAh rfl rfl rfl rfl ?_)
       refine OV (.bool true) rfl (zAz rfl rfl rfl) <| OV (.bool true) rfl (zAe) ?_
       refine zAa (zAh rfl rfl rfl rfl ?_)
       refine zAa (zAh rfl rfl rfl rfl ?_)
       refine zAa (zAh rfl rfl rfl rfl ?_)
       refine zAa (zAh rfl rfl rfl rfl ?_)
       refine OV (.bool true) rfl (zAz rfl rfl rfl) <| OV (.bool true) rfl (zAe) ?_
       refine zAa (zAh rfl rfl rfl rfl ?_)
       refine zAa (zAh rfl rfl rfl rfl ?_)
       refine zAa (zAh rfl rfl rfl rfl ?_)
       refine zAa (zAh rfl rfl rfl rfl ?_)
       refine OV (.bool true) rfl (zAz rfl rfl rfl) <| OW.nil ?_
       have hL := hL.sl [0, 1, 2, 3, 4, 5, 6, 7, 10, 13, 14] rfl
       exact ⟨true, hm, ⟨bF, bK, rfl, rfl, rfl, hL⟩⟩
     refine zAa (zAj rfl rfl bC (zAk (v := (IV aM.2)) rfl (zAe) ?_))
     refine zAa (zAj rfl rfl bC (zAk (v := (.bool (aM.2 != 0))) rfl (zDk rfl rfl) ?_))
     refine OV (.bool (aM.2 != 0)) rfl (zAA rfl bC rfl) <| OV (.bool (aM.2 != 0)) rfl (zAe) ?_
     refine zAH hm (fun bD hm => ?_) (fun bD hm => ?_)
     · refine zAa (zAh rfl rfl bD rfl ?_)
       refine zAa (zAh rfl rfl bD rfl ?_)
       refine OV (.bool true) rfl (zAz rfl bD rfl) <| OV (.bool true) rfl (zAe) ?_
       refine zAa (zAh rfl rfl rfl rfl ?_)
       refine zAa (zAh rfl rfl rfl rfl ?_)
       refine zAa (zAh rfl rfl rfl rfl ?_)
       refine zAa (zAh rfl rfl rfl rfl ?_)
       refine OV (.bool true) rfl (zAz rfl rfl rfl) <| OV (.bool true) rfl (zAe) ?_
       refine zAa (zAh rfl rfl rfl rfl ?_)
       refine zAa (zAh rfl rfl rfl rfl ?_)
       refine zAa (zAh rfl rfl rfl rfl ?_)
       refine zAa (zAh rfl rfl rfl rfl ?_)
       refine OV (.bool true) rfl (zAz rfl rfl rfl) <| OW.nil ?_
       have hL := hL.sl [0, 1, 2, 3, 4, 5, 6, 7, 10, 13, 14] rfl
       exact ⟨true, hm, ⟨bF, bK, rfl, rfl, rfl, hL⟩⟩
     refine zAa (zAj rfl rfl bD (zAk (v := (IV aN.2)) rfl (zAe) ?_))
     refine zAa (zAj rfl rfl bD (zAk (v := (.bool (aN.2 != 0))) rfl (zDk rfl rfl) ?_))
     refine OV (.bool (aN.2 != 0)) rfl (zAA rfl bD rfl) <| OV (.bool (aN.2 != 0)) rfl (zAe) ?_
     refine zAH hm (fun aK hm => ?_) (fun aK hm => ?_)
     · refine zAa (zAh rfl rfl aK rfl ?_)
       refine zAa (zAh rfl rfl aK rfl ?_)
       refine zAa (zAh rfl rfl aK rfl ?_)
       refine zAa (zAh rfl rfl aK rfl ?_)
       refine OV (.bool true) rfl (zAz rfl aK rfl) <| OV (.bool true) rfl (zAe) ?_
       refine zAa (zAh rfl rfl rfl rfl ?_)
       refine zAa (zAh rfl rfl rfl rfl ?_)
       refine zAa (zAh rfl rfl rfl rfl ?_)
       refine zAa (zAh rfl rfl rfl rfl ?_)
       refine OV (.bool true) rfl (zAz rfl rfl rfl) <| OW.nil ?_
       have hL := hL.sl [0, 1, 2, 3, 4, 5, 6, 7, 10, 13, 14] rfl
       exact ⟨true, hm, ⟨bF, bK, rfl, rfl, rfl, hL⟩⟩
     refine zAa (zAj rfl rfl aK (zAk (v := (IV aA.2.2.2)) rfl (zAo bF) ?_))
     refine zAa (zAj rfl rfl aK (zAk (v := bH) rfl (zAe) ?_))
     refine zAa (zAj rfl rfl aK (zAk (v := (IV (aM.1.length : Int))) rfl (zA3 U27 rfl (hL.rdO 1 rfl)) ?_))
     refine zAa (zAj rfl rfl aK (zAk (v := (.bool (decide ((aM.1.length : Int) ≤ aA.2.2.2)))) rfl (zKf rfl rfl) ?_))
     refine OV (.bool (decide ((aM.1.length : Int) ≤ aA.2.2.2))) rfl (zAA rfl aK rfl) <| OV (.bool (decide ((aM.1.length : Int) ≤ aA.2.2.2))) rfl (zAe) ?_
     refine zAH hm (fun aL hm => ?_) (fun aL hm => ?_)
     · refine zAa (zAh rfl rfl aL rfl ?_)
       refine zAa (zAh rfl rfl aL rfl ?_)
       refine zAa (zAh rfl rfl aL rfl ?_)
       refine zAa (zAh rfl rfl aL rfl ?_)
       refine OV (.bool true) rfl (zAz rfl aL rfl) <| OW.nil ?_
       have hL := hL.sl [0, 1, 2, 3, 4, 5, 6, 7, 10, 13, 14] rfl
       exact ⟨true, hm, ⟨bF, bK, rfl, rfl, rfl, hL⟩⟩
     refine zAa (zAj rfl rfl aL (zAk (v := (IV aA.2.2.2)) rfl (zAo bF) ?_))
     refine zAa (zAj rfl rfl aL (zAk (v := bI) rfl (zAe) ?_))
     refine zAa (zAj rfl rfl aL (zAk (v := (IV (aN.1.length : Int))) rfl (zA3 U27 rfl (hL.rdO 0 rfl)) ?_))
     refine zAa (zAj rfl rfl aL (zAk (v := (.bool (decide ((aN.1.length : Int) ≤ aA.2.2.2)))) rfl (zKf rfl rfl) ?_))
     refine OV (.bool (decide ((aN.1.length : Int) ≤ aA.2.2.2))) rfl (zAA rfl aL rfl) <| OW.nil ?_
     have hL := hL.sl [0, 1, 2, 3, 4, 5, 6, 7, 10, 13, 14] rfl
     exact ⟨decide ((aN.1.length : Int) ≤ aA.2.2.2), hm, ⟨bF, bK, rfl, rfl, rfl, hL⟩⟩
   intro s_j3 iB gY hJ hm
   unfold zBQ at hm
   obtain ⟨cU, fD, fE, fF, fG, hL⟩ := hJ
   refine zAn (t := s_j3) fG hm (fun dF hm => ?_) (fun dF hm => ?_)
   · refine CSR <| OV (.bool false) rfl (zAb) <| OW.nil <| zAx ?_
     obtain rfl := oi hm
     exact RR1 rfl rfl ⟨rfl, hL.fresh 10 rfl [] (by decide) (by decide) rfl⟩
   refine zAt <| zAF ?_
   refine zBW zAQ ?_
   have hL := hL.call (zA8 _)
   refine DW.pre (fuel := 0) (fin := bma 12 4095) (C := fun w' => Mod zBO _ w') [0, 1, 2, 3, 4, 5, 6, 7, 8, 9, 10, 11] (Mod.refl _ _) (by kernel_rfl) (by kernel_rfl) ?_
   refine QV bI rfl rfl (fun w' hm' => zAo fF) <| QV (IV aA.2.2.2) rfl rfl (fun w' hm' => zAo cU) ?_
   obtain ⟨bO, dG, hm⟩ := zAs hm
   obtain ⟨dH, cJ⟩ := zAZ dG
   obtain ⟨fH, fI, bV⟩ := zAC (hL.rdO 0 rfl) dH cJ
   refine QV (.pointer (some ⟨fH, fI, none⟩)) rfl rfl (fun w' hm' => zA1 U27 zAf rfl rfl bV) <| QV (IV bO) rfl rfl (fun w' hm' => zAd U2 rfl rfl (zAv ((hL.call hm').rdO 0 rfl) bV cJ 0 _ rfl)) <| QV bH rfl rfl (fun w' hm' => zAo fE) <| QV (IV aA.2.2.2) rfl rfl (fun w' hm' => zAo cU) ?_
   obtain ⟨bP, dI, hm⟩ := zAs hm
   obtain ⟨dJ, cK⟩ := zAZ dI
   obtain ⟨fJ, fK, bW⟩ := zAC (hL.rdO 1 rfl) dJ cK
   refine QV (.pointer (some ⟨fJ, fK, none⟩)) rfl rfl (fun w' hm' => zA1 U27 zAf rfl rfl bW) <| QV (IV bP) rfl rfl (fun w' hm' => zAd U2 rfl rfl (zAv ((hL.call hm').rdO 1 rfl) bW cK 0 _ rfl)) <| QV (IV (w64 (bO - bP))) rfl rfl (fun w' hm' => zCn rfl rfl) <| QV (IV aD.1) rfl rfl (fun w' hm' => zAo fD) <| QV (.bool ((w64 (bO - bP)) == aD.1)) rfl rfl (fun w' hm' => zBv rfl rfl) <| QV (.bool ((w64 (bO - bP)) == aD.1)) rfl rfl (fun w' hm' => zAb) ?_
   refine QW.nil ?_
   intro gZ hmod
   have hL := hL.call hmod
   refine zBu (by kernel_rfl) ?_
   refine zAx ?_
   obtain rfl := oi hm
   exact RR1 rfl rfl ⟨rfl, hL.fresh 10 rfl [] (by decide) (by decide) rfl⟩
 intro s_l1 iC hA fL hJ hm dK
 unfold zC2 at hm
 obtain ⟨cB, cC, cD, cE, cF, cG, bL, bN, bG, hL⟩ := hJ
 refine zAF <| CSR <| OV (IV s_l1) rfl (zAo bG) <| OV bA rfl (zAo bL) <| OV (IV (aR.1.length : Int)) rfl (zA3 U39 rfl (hL.rdO 1 rfl)) <| OV (.bool (decide (s_l1 < (aR.1.length : Int)))) rfl (zBE rfl rfl) <| OW.nil ?_
 refine zAn (t := decide (s_l1 < (aR.1.length : Int))) rfl hm (fun dL hm => ?_) (fun dL hm => ?_)
 · refine zAt <| zAF <| CW.block ?_
   refine zAM (fun (s_j4 : Bool) F w => F 3 = (PV bJ 0) ∧ F 4 = aT ∧ F 5 = aQ ∧ F 6 = (IV aA.2.2.2) ∧ F 7 = (IV aD.1) ∧ F 8 = (IV aD.2) ∧ F 16 = bA ∧ F 18 = bE ∧ F 20 = (IV s_l1) ∧ F 132 = (.bool s_j4) ∧ Hp w0 [Ent.own 49 cR bE aU.1, Ent.own 49 cQ bA aR.1, Ent.own 101 bU aG aA.1.Races, Ent.own 49 cH aT aA.2.1, Ent.own 2 cI aQ aA.2.2.1, Ent.blk bJ 38 #[(IV aA.1.Boats), (IV aA.1.Scheme), aG], zAg w0 w0.heap.size] w) (fun s_j4 => zEn s_l1 s_j4 = some fL) ?_ ?_
   · refine zBW zAQ ?_
     have hL := hL.call (zA8 _)
     refine DW.pre (fuel := 0) (fin := bma 22 4194303) (C := fun w' => Mod zBO _ w') [0, 1, 2, 3, 4, 5, 6, 7, 8, 9, 10, 11, 12, 13, 14, 15, 16, 17, 18, 19, 20, 21] (Mod.refl _ _) (by kernel_rfl) (by kernel_rfl) ?_
     refine QV bA rfl rfl (fun w' hm' => zAo bL) <| QV (IV s_l1) rfl rfl (fun w' hm' => zAo bG) ?_
     obtain ⟨aE, dM, hm⟩ := zAs hm
     obtain ⟨dN, cM⟩ := zAZ dM
     obtain ⟨fM, fN, bX⟩ := zAC (hL.rdO 1 rfl) dN cM
     refine QV (.pointer (some ⟨fM, fN, none⟩)) rfl rfl (fun w' hm' => zA1 U39 zAX rfl rfl bX) <| QV (.agg #[(IV aE.Race), (IV aE.Boat), (IV aE.Kind), (IV aE.Value)]) rfl rfl (fun w' hm' => zAW (cs := [(IV aE.Race), (IV aE.Boat), (IV aE.Kind), (IV aE.Value)]) U49 zAX rfl rfl (zAv ((hL.call hm').rdO 1 rfl) bX cM)) <| QV bE rfl rfl (fun w' hm' => zAo bN) <| QV (IV s_l1) rfl rfl (fun w' hm' => zAo bG) ?_
     obtain ⟨aF, dO, hm⟩ := zAs hm
     obtain ⟨dP, cN⟩ := zAZ dO
     obtain ⟨fO, fP, bY⟩ := zAC (hL.rdO 0 rfl) dP cN
     refine QV (.pointer (some ⟨fO, fP, none⟩)) rfl rfl (fun w' hm' => zA1 U39 zAX rfl rfl bY) <| QV (.agg #[(IV aF.Race), (IV aF.Boat), (IV aF.Kind), (IV aF.Value)]) rfl rfl (fun w' hm' => zAW (cs := [(IV aF.Race), (IV aF.Boat), (IV aF.Kind), (IV aF.Value)]) U49 zAX rfl rfl (zAv ((hL.call hm').rdO 0 rfl) bY cN)) <| QV (.bool (!(eqL [aE.Race, aE.Boat, aE.Kind, aE.Value] [aF.Race, aF.Boat, aF.Kind, aF.Value]))) rfl rfl (fun w' hm' => (zTy (xs := [aE.Race, aE.Boat, aE.Kind, aE.Value]) (ys := [aF.Race, aF.Boat, aF.Kind, aF.Value]) (by kernel_rfl) rfl (by kernel_rfl) rfl rfl).2) <| QV (.bool (!(eqL [aE.Race, aE.Boat, aE.Kind, aE.Value] [aF.Race, aF.Boat, aF.Kind, aF.Value]))) rfl rfl (fun w' hm' => zAe) ?_
     refine zAH hm (fun aC hm => ?_) (fun aC hm => ?_)
     · refine zAi rfl (zAK rfl rfl aC rfl ?_)
       refine zAi rfl (zAK rfl rfl aC rfl ?_)
       refine zAi rfl (zAK rfl rfl aC rfl ?_)
       refine zAi rfl (zAK rfl rfl aC rfl ?_)
       refine zAi rfl (zAK rfl rfl aC rfl ?_)
       refine zAi rfl (zAK rfl rfl aC rfl ?_)
       refine zAi rfl (zAK rfl rfl aC rfl ?_)
       refine zAi rfl (zAK rfl rfl aC rfl ?_)
       refine zAi rfl (zAK rfl rfl aC rfl ?_)
       refine zAi rfl (zAK rfl rfl aC rfl ?_)
       refine zAi rfl (zAK rfl rfl aC rfl ?_)
       refine QV (.bool true) rfl rfl (fun w' hm' => zAz rfl aC rfl) ?_
       refine QW.nil ?_
       intro hB hmod
       have hL := hL.call hmod
       refine zBu (by kernel_rfl) ?_
       exact ⟨true, hm, ⟨cB, cC, cD, cE, cF, cG, bL, bN, bG, rfl, hL⟩⟩
     refine zAi rfl (zAB rfl rfl aC (zAN (v := bA) rfl (fun w' hm' => zAo bL) ?_))
     refine zAi rfl (zAB rfl rfl aC (zAN (v := (IV s_l1)) rfl (fun w' hm' => zAo bG) ?_))
     obtain ⟨aO, dQ, hm⟩ := zAs hm
     obtain ⟨dR, cO⟩ := zAZ dQ
     obtain ⟨fQ, fR, bZ⟩ := zAC (hL.rdO 1 rfl) dR cO
     refine zAi rfl (zAB rfl rfl aC (zAN (v := (.pointer (some ⟨fQ, fR, none⟩))) rfl (fun w' hm' => zA1 U39 zAX rfl rfl bZ) ?_))
     refine zAi rfl (zAB rfl rfl aC (zAN (v := (.agg #[(IV aO.Race), (IV aO.Boat), (IV aO.Kind), (IV aO.Value)])) rfl (fun w' hm' => zAW (cs := [(IV aO.Race), (IV aO.Boat), (IV aO.Kind), (IV aO.Value)]) U49 zAX rfl rfl (zAv ((hL.call hm').rdO 1 rfl) bZ cO)) ?_))
     obtain ⟨bQ, dS, hm⟩ := zAs hm
     refine zAi rfl (zAB rfl rfl aC (QP.call (v := (.string bQ)) rfl (fun w' hm' => zAq (vs := [(.agg #[(IV aO.Race), (IV aO.Boat), (IV aO.Kind), (IV aO.Value)])]) zRb ⟨rfl, trivial⟩) (fun w' hm' => (zKJ w' ((hL.call hm').tab 6 rfl rfl htab) aO dS).mono (fun e w'' h => ⟨h.1, hm'.trans h.2.mod⟩)) ?_))
     refine zAi rfl (zAB rfl rfl aC (zAN (v := bE) rfl (fun w' hm' => zAo bN) ?_))
     refine zAi rfl (zAB rfl rfl aC (zAN (v := (IV s_l1)) rfl (fun w' hm' => zAo bG) ?_))
     obtain ⟨aP, dT, hm⟩ := zAs hm
     obtain ⟨dU, cP⟩ := zAZ dT
     obtain ⟨fS, fT, cA⟩ := zAC (hL.rdO 0 rfl) dU cP
     refine zAi rfl (zAB rfl rfl aC (zAN (v := (.pointer (some ⟨fS, fT, none⟩))) rfl (fun w' hm' => zA1 U39 zAX rfl rfl cA) ?_))
     refine zAi rfl (zAB rfl rfl aC (zAN (v := (.agg #[(IV aP.Race), (IV aP.Boat), (IV aP.Kind), (IV aP.Value)])) rfl (fun w' hm' => zAW (cs := [(IV aP.Race), (IV aP.Boat), (IV aP.Kind), (IV aP.Value)]) U49 zAX rfl rfl (zAv ((hL.call hm').rdO 0 rfl) cA cP)) ?_))
     obtain ⟨bR, dV, hm⟩ := zAs hm
     refine zAi rfl (zAB rfl rfl aC (QP.call (v := (.string bR)) rfl (fun w' hm' => zAq (vs := [(.agg #[(IV aP.Race), (IV aP.Boat), (IV aP.Kind), (IV aP.Value)])]) zRc ⟨rfl, trivial⟩) (fun w' hm' => (zKK w' aP dV).mono (fun e w'' h => ⟨h.1, hm'.trans h.2.mod⟩)) ?_))
     refine zAi rfl (zAB rfl rfl aC (zAN (v := (.bool (!(sEq bQ bR)))) rfl (fun w' hm' => zTa rfl rfl) ?_))
     refine QV (.bool (!(sEq bQ bR))) rfl rfl (fun w' hm' => zAA rfl aC rfl) ?_
     refine QW.nil ?_
     intro hC hmod
     have hL := hL.call hmod
     refine zBu (by kernel_rfl) ?_
     exact ⟨!(sEq bQ bR), hm, ⟨cB, cC, cD, cE, cF, cG, bL, bN, bG, rfl, hL⟩⟩
   intro s_j4 iD hD hJ hm
   unfold zEn at hm
   obtain ⟨fU, fV, fW, fX, fY, fZ, gA, gB, gC, gD, hL⟩ := hJ
   refine zAn (t := s_j4) gD hm (fun dW hm => ?_) (fun dW hm => ?_)
   · refine CSR <| OV (.bool false) rfl (zAb) <| OW.nil <| zAx ?_
     obtain rfl := oi hm
     have hm := dK _ rfl
     obtain rfl := oi hm
     exact RR1 rfl rfl ⟨rfl, hL.fresh 6 rfl [] (by decide) (by decide) rfl⟩
   refine zAt <| zAl <| OV (IV s_l1) rfl (zAo gC) <| OV (IV (w64 (s_l1 + 1))) rfl (zBe rfl rfl) <| OV (IV (w64 (s_l1 + 1))) rfl (zAb) <| OW.nil ?_
   obtain rfl := oi hm
   exact ⟨_, rfl, ⟨fU, fV, fW, fX, fY, fZ, gA, gB, rfl, hL⟩⟩
 refine zA0 ?_
 refine zBk ?_
 obtain rfl := oi hm
 exact ⟨_, rfl, ⟨cB, cC, cD, cE, cF, cG, bL, bN, bG, hL⟩⟩

end Go.Proofs.YtmmkkcmliofknaaGreatDoor
