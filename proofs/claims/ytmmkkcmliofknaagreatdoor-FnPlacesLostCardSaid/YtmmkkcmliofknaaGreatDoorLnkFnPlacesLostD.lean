/- Links: each Go function returns what its model computes and leaves what was there. Printed by my generator. -/
import Derived.Test.YtmmkkcmliofknaaGreatDoorLnkFnPlacesLostC
namespace Go.Proofs.YtmmkkcmliofknaaGreatDoor
set_option maxRecDepth 10000
open Go Go.RowKit Go.ChangeShapes Go.WideShapes
set_option linter.unusedVariables false
set_option linter.unusedSimpArgs false

theorem zIN (w0 : World) (a0 : Series) {v1 : Value} (h2 : rdL (· < w0.heap.size) w0 v1 a0.Races) (a1 : List Penalty) {v3 : Value} (h4 : rdL (· < w0.heap.size) w0 v3 a1) {r : Table} (hm : zDr a0 a1 = some r) :
    Calls Tryz.prog 44 #[(.agg #[(IV a0.Boats), (IV a0.Scheme), v1]), v3] w0 fun e w' => ∃ (rv0 : Value) (rS0 : Nat → Prop), ∃ (rv1 : Value) (rS1 : Nat → Prop), e = .returned (.agg #[(IV r.Boats), rv0, rv1]) ∧ Fresh w0 w' [Ent.own 27 rS0 rv0 r.Points, Ent.own 27 rS1 rv1 r.Codes] := by
 unfold zDr at hm
 refine zAD (args := [(.agg #[(IV a0.Boats), (IV a0.Scheme), v1]), v3]) Tryz.func44 rfl rfl rfl ?_
 have hL := zAJ w0
 refine CSR ?_
 refine zAa (zC3 (cs := #[(IV a0.Boats), (IV a0.Scheme), v1]) hL rfl rfl rfl ?_)
 intro wd5 b6 hL
 refine zAa (zBb (cs := #[(IV 0), (.slice none 0 0), (.slice none 0 0)]) hL zBg rfl rfl ?_)
 intro wd7 b8 hL
 refine ONR <| OV (.agg #[(IV a0.Boats), (IV a0.Scheme), v1]) rfl (zAW (cs := [(IV a0.Boats), (IV a0.Scheme), v1]) U38 zA5 rfl rfl (hL.cellsB 1 rfl (o := 0) (l := [(IV a0.Boats), (IV a0.Scheme), v1]) (by intro j u hj; exact (by simpa using hj)))) <| OV v3 rfl (zAe) ?_
 obtain ⟨x9, kR, hm⟩ := zAs hm
 refine zAa (OP.call rfl (zAq (vs := [(.agg #[(IV a0.Boats), (IV a0.Scheme), v1]), v3]) zRy ⟨rfl, rfl, trivial⟩) (zJU _ a0 (hL.rdS 2 rfl h2) a1 (hL.rdS 2 rfl h4) kR) ?_)
 rintro nW nQ ⟨aH, cC, rfl, kS⟩
 refine ⟨_, rfl, ?_⟩
 have hL := hL.pushAll kS
 simp only [lA, lB, lC, lD] at hL
 refine zAa (zBb (cs := #[(IV 0), (IV 0), (.slice none 0 0)]) hL zA5 rfl rfl ?_)
 intro nR aN hL
 refine zAa (zA9 (l := [(IV x9.Boats), (IV x9.Scheme), aH]) (cs' := #[(IV x9.Boats), (IV x9.Scheme), aH]) hL 0 rfl zA5 rfl rfl (fc ⟨rfl, (fc ⟨rfl, (fc ⟨zBI (hL.rdO 1 rfl), fz⟩)⟩)⟩) rfl (nle rfl) rfl ?_)
 intro nS hL
 refine ONR <| OV (.agg #[(IV x9.Boats), (IV x9.Scheme), aH]) rfl (zAW (cs := [(IV x9.Boats), (IV x9.Scheme), aH]) U38 zA5 rfl rfl (hL.cellsB 0 rfl (o := 0) (l := [(IV x9.Boats), (IV x9.Scheme), aH]) (by intro j u hj; exact (by simpa using hj)))) ?_
 obtain ⟨aB, kT, hm⟩ := zAs hm
 refine zAa (OP.call rfl (zAq (vs := [(.agg #[(IV x9.Boats), (IV x9.Scheme), aH])]) zOB ⟨rfl, trivial⟩) (zJ3 _ x9 (hL.rdO 1 rfl) kT) ?_)
 rintro nX nT ⟨aD, mI, aG, bC, rfl, kU⟩
 refine ⟨_, rfl, ?_⟩
 have hL := hL.pushAll kU
 simp only [lA, lB, lC, lD] at hL
 refine zAa (zBb (cs := #[(IV 0), (.slice none 0 0), (.slice none 0 0)]) hL zBg rfl rfl ?_)
 intro nU aL hL
 refine zAa (zA9 (l := [(IV aB.Boats), aD, aG]) (cs' := #[(IV aB.Boats), aD, aG]) hL 0 rfl zBg rfl rfl (fc ⟨rfl, (fc ⟨zBI (hL.rdO 1 rfl), (fc ⟨zBI (hL.rdO 2 rfl), fz⟩)⟩)⟩) rfl (nle rfl) rfl ?_)
 intro nV hL
 refine ONS <| CSR <| OV (PV aL 1) rfl (zAc (fsz := 1) 0 1 1 U26 rfl zBq rfl rfl rfl) <| OV aD rfl (zAd U24 rfl rfl (hL.cellB 0 rfl rfl)) <| OV (IV (aB.Points.length : Int)) rfl (zA3 U24 rfl (hL.rdO 1 rfl)) <| OV (IV 0) rfl (zAe) <| OW.nil ?_
 obtain ⟨mJ, eO, hm⟩ := zAs hm
 refine zAU (fun (s_l1 : (List (List Int)) × Int) F w => ∃ aP, F 1 = v3 ∧ F 2 = (PV b6 0) ∧ F 4 = (PV b8 0) ∧ F 5 = (PV aN 0) ∧ F 6 = (PV aL 0) ∧ F 20 = aD ∧ F 21 = (IV (aB.Points.length : Int)) ∧ F 22 = (IV s_l1.2) ∧ Hp w0 [Ent.blk aL 26 #[(IV aB.Boats), aD, aG], Ent.own 27 aP aD s_l1.1, Ent.own 27 bC aG aB.Codes, Ent.blk aN 38 #[(IV x9.Boats), (IV x9.Scheme), aH], Ent.own 101 cC aH x9.Races, Ent.blk b8 26 #[(IV 0), (.slice none 0 0), (.slice none 0 0)], Ent.blk b6 38 #[(IV a0.Boats), (IV a0.Scheme), v1], zAg w0 w0.heap.size] w) (fun o => zBh o (fun x => some x) (fun s => zDt aB s) = some r) eO hm ⟨mI, rfl, rfl, rfl, rfl, rfl, rfl, rfl, rfl, hL⟩ ?_ ?_
 · intro s_l1 mK kV hJ hm
   have hm := zBD hm
   have hm : zDt aB s_l1 = some r := hm
   unfold zDt at hm
   obtain ⟨aP, mL, mM, dK, mN, gZ, mO, mP, mQ, hL⟩ := hJ
   refine CSR <| OV (.agg #[(IV aB.Boats), aD, aG]) rfl (zAW (cs := [(IV aB.Boats), aD, aG]) U26 zBg rfl gZ (hL.cellsB 0 rfl (o := 0) (l := [(IV aB.Boats), aD, aG]) (by intro j u hj; exact (by simpa using hj)))) ?_
   refine zAa (zA9 (l := [(IV aB.Boats), aD, aG]) (cs' := #[(IV aB.Boats), aD, aG]) hL 5 rfl zBg dK rfl (fc ⟨rfl, (fc ⟨zBI (hL.rdO 1 rfl), (fc ⟨zBI (hL.rdO 2 rfl), fz⟩)⟩)⟩) rfl (nle rfl) rfl ?_)
   intro kW hL
   refine OW.nil <| zAx ?_
   obtain rfl := oi hm
   exact RRc rfl dK (zCN U26 zBg (hL.get 5 rfl) rfl) ⟨aD, aP, aG, bC, rfl, hL.fresh 7 rfl [1, 2] (by decide) (by decide) rfl⟩
 intro s_l1 mR kX dL hJ hm kY
 unfold zDA at hm
 obtain ⟨aP, dM, dN, dO, dP, dQ, cD, cE, aU, hL⟩ := hJ
 refine CSR <| OV (.bool (decide (s_l1.2 < (aB.Points.length : Int)))) rfl (zBE aU cE) <| ONS ?_
 refine zAn (t := decide (s_l1.2 < (aB.Points.length : Int))) rfl hm (fun eP hm => ?_) (fun eP hm => ?_)
 · refine zAt <| zAF <| CW.block <| CSR <| OV (IV s_l1.2) rfl (zAo aU) ?_
   obtain ⟨kZ, hL, cZ⟩ := hL.freeze 1 rfl
   simp only [lC, lD] at hL
   obtain ⟨aI, eQ, hm⟩ := zAs hm
   obtain ⟨eR, eS⟩ := zAZ eQ
   obtain ⟨bD, bE, aC, aM, dA, dB, eT⟩ := zCp cZ.1.rdL eR eS
   refine OV (.pointer (some ⟨bD, bE, none⟩)) rfl (zA1 U24 zAR cD aU aM) <| OV aC rfl (zAd U27 rfl rfl (hL.cellF 1 rfl dA dB)) <| OV (IV s_l1.2) rfl (zAb) <| OV aC rfl (zAb) <| ONR <| OV aC rfl (zAe) <| OV (IV (aI.length : Int)) rfl (zA3 U27 rfl (hL.rdF 1 rfl eT)) <| OV (IV 0) rfl (zAe) <| OW.nil ?_
   obtain ⟨mS, eU, hm⟩ := zAs hm
   have eV := hL.cellF 1 rfl dA dB
   have hL := hL.thaw 1 rfl cZ
   refine zAU (fun (s_l2 : (List (List Int)) × Int) F w => ∃ aJ, F 1 = v3 ∧ F 2 = (PV b6 0) ∧ F 4 = (PV b8 0) ∧ F 5 = (PV aN 0) ∧ F 6 = (PV aL 0) ∧ F 7 = (IV s_l1.2) ∧ F 8 = aC ∧ F 20 = aD ∧ F 21 = (IV (aB.Points.length : Int)) ∧ F 22 = (IV s_l1.2) ∧ F 28 = (IV (aI.length : Int)) ∧ F 29 = (IV s_l2.2) ∧ w.cell? ⟨bD, bE, none⟩ = some aC ∧ Hp w0 [Ent.blk aL 26 #[(IV aB.Boats), aD, aG], Ent.own 27 aJ aD s_l2.1, Ent.own 27 bC aG aB.Codes, Ent.blk aN 38 #[(IV x9.Boats), (IV x9.Scheme), aH], Ent.own 101 cC aH x9.Races, Ent.blk b8 26 #[(IV 0), (.slice none 0 0), (.slice none 0 0)], Ent.blk b6 38 #[(IV a0.Boats), (IV a0.Scheme), v1], zAg w0 w0.heap.size] w) (fun o => zBh o (fun x => some (.ret x)) (fun s => zDu s_l1 s) = some dL) eU hm ⟨aP, dM, dN, dO, dP, dQ, rfl, rfl, cD, cE, aU, rfl, rfl, eV, hL⟩ ?_ ?_
   · intro s_l2 mT lE hJ hm
     have hm := zBD hm
     have hm : zDu s_l1 s_l2 = some dL := hm
     unfold zDu at hm
     obtain ⟨aJ, hA, hB, hC, hD, hE, mU, mV, hF, hG, hH, mW, mX, lF, hL⟩ := hJ
     refine zAl <| OV (IV (w64 (s_l1.2 + 1))) rfl (zBe hH rfl) <| OV (IV (w64 (s_l1.2 + 1))) rfl (zAe) <| OW.nil ?_
     obtain rfl := oi hm
     exact ⟨_, rfl, ⟨aJ, hA, hB, hC, hD, hE, hF, hG, rfl, hL⟩⟩
   intro s_l2 mY lG bF hJ hm lH
   unfold zDz at hm
   obtain ⟨aJ, bG, cF, cG, cH, bH, bI, cI, cJ, cK, cM, bJ, aV, eW, hL⟩ := hJ
   obtain ⟨aW, eX, hm⟩ := zAs hm
   obtain ⟨lI, dC⟩ := zAZ eX
   obtain ⟨bB, hL, bY, bZ, cA, aQ⟩ := hL.freezeAt (α := Int) 1 rfl aM dC eW
   simp only [lC, lD] at hL
   refine CSR <| OV (.bool (decide (s_l2.2 < (aI.length : Int)))) rfl (zBE aV bJ) <| ONS ?_
   refine zAn (t := decide (s_l2.2 < (aI.length : Int))) rfl hm (fun eY hm => ?_) (fun eY hm => ?_)
   · refine zAt ?_
     refine zAM (fun (s_j1 : (List (List Int))) F w => ∃ cN, F 1 = v3 ∧ F 2 = (PV b6 0) ∧ F 4 = (PV b8 0) ∧ F 5 = (PV aN 0) ∧ F 6 = (PV aL 0) ∧ F 7 = (IV s_l1.2) ∧ F 8 = aC ∧ F 20 = aD ∧ F 21 = (IV (aB.Points.length : Int)) ∧ F 22 = (IV s_l1.2) ∧ F 28 = (IV (aI.length : Int)) ∧ F 29 = (IV s_l2.2) ∧ w.cell? ⟨bD, bE, none⟩ = some aC ∧ Hp w0 [Ent.blk aL 26 #[(IV aB.Boats), aD, aG], Ent.own 27 cN aD s_j1, Ent.own 27 bC aG aB.Codes, Ent.blk aN 38 #[(IV x9.Boats), (IV x9.Scheme), aH], Ent.own 101 cC aH x9.Races, Ent.blk b8 26 #[(IV 0), (.slice none 0 0), (.slice none 0 0)], Ent.blk b6 38 #[(IV a0.Boats), (IV a0.Scheme), v1], zAg w0 w0.heap.size] w) (fun s_j1 => zDv s_l1 s_l2 s_j1 = some bF) ?_ ?_
     · refine zBG (fun (s_j2 : (List (List Int))) F w => ∃ cO, F 1 = v3 ∧ F 2 = (PV b6 0) ∧ F 4 = (PV b8 0) ∧ F 5 = (PV aN 0) ∧ F 6 = (PV aL 0) ∧ F 7 = (IV s_l1.2) ∧ F 8 = aC ∧ F 20 = aD ∧ F 21 = (IV (aB.Points.length : Int)) ∧ F 22 = (IV s_l1.2) ∧ F 28 = (IV (aI.length : Int)) ∧ F 29 = (IV s_l2.2) ∧ w.cell? ⟨bD, bE, none⟩ = some aC ∧ Hp w0 [Ent.blk aL 26 #[(IV aB.Boats), aD, aG], Ent.own 27 cO aD s_j2, Ent.own 27 bC aG aB.Codes, Ent.blk aN 38 #[(IV x9.Boats), (IV x9.Scheme), aH], Ent.own 101 cC aH x9.Races, Ent.blk b8 26 #[(IV 0), (.slice none 0 0), (.slice none 0 0)], Ent.blk b6 38 #[(IV a0.Boats), (IV a0.Scheme), v1], zAg w0 w0.heap.size] w) (fun s_j2 => zCx s_l1 s_l2 s_j2 = some bF) ?_ ?_
       · refine CSR <| OV (IV s_l2.2) rfl (zAo aV) <| OV (IV s_l2.2) rfl (zAb) <| ONS <| CSR <| OV (PV aL 2) rfl (zAc (fsz := 1) 0 2 2 U26 rfl zBq rfl bH rfl) <| OV aG rfl (zAd U24 rfl rfl (hL.cellB 0 rfl rfl)) <| OV (IV s_l1.2) rfl (zAo bI) ?_
         obtain ⟨lJ, hL, cB⟩ := hL.freeze 2 rfl
         simp only [lC, lD] at hL
         obtain ⟨mZ, eZ, hm⟩ := zAs hm
         obtain ⟨fA, fB⟩ := zAZ eZ
         obtain ⟨hI, hM, hN, eM, fC, fD, dD⟩ := zCp cB.1.rdL fA fB
         refine OV (.pointer (some ⟨hI, hM, none⟩)) rfl (zA1 U24 zAR rfl rfl eM) <| OV hN rfl (zAd U27 rfl rfl (hL.cellF 2 rfl fC fD)) <| OV (IV s_l2.2) rfl (zAe) ?_
         obtain ⟨cP, fE, hm⟩ := zAs hm
         obtain ⟨fF, dE⟩ := zAZ fE
         obtain ⟨hO, hP, cQ⟩ := zAC (hL.rdF 2 rfl dD) fF dE
         refine OV (.pointer (some ⟨hO, hP, none⟩)) rfl (zA1 U27 zAf rfl rfl cQ) <| OV (IV cP) rfl (zAd U2 rfl rfl (zAv (hL.rdF 2 rfl dD) cQ dE 0 _ rfl)) <| OV (.bool (cP != 0)) rfl (zDk rfl rfl) <| OW.nil ?_
         refine zAn (t := cP != 0) rfl hm (fun fG hm => ?_) (fun fG hm => ?_)
         · refine zA0 ?_
           refine zBk ?_
           have fH := hL.cellF 1 rfl bZ cA
           have hL := hL.thaw 1 rfl bY
           have hL := hL.thaw 2 rfl cB
           exact ⟨s_l2.1, hm, ⟨aJ, bG, cF, cG, cH, bH, bI, cI, cJ, cK, cM, bJ, aV, fH, hL⟩⟩
         refine zAt <| CSR <| OV (IV 0) rfl (zAb) <| ONS <| CSR <| OV v3 rfl (zAo bG) <| OV (IV (a1.length : Int)) rfl (zA3 U39 rfl (hL.rdS 7 rfl h4)) <| OV (IV 0) rfl (zAe) <| OW.nil ?_
         have hL := hL.thaw 2 rfl cB
         obtain ⟨nA, fI, hm⟩ := zAs hm
         refine zAU (fun (s_l3 : Int × Int) F w => F 1 = v3 ∧ F 2 = (PV b6 0) ∧ F 4 = (PV b8 0) ∧ F 5 = (PV aN 0) ∧ F 6 = (PV aL 0) ∧ F 7 = (IV s_l1.2) ∧ F 8 = aC ∧ F 9 = (IV s_l2.2) ∧ F 10 = (IV s_l3.1) ∧ F 20 = aD ∧ F 21 = (IV (aB.Points.length : Int)) ∧ F 22 = (IV s_l1.2) ∧ F 28 = (IV (aI.length : Int)) ∧ F 29 = (IV s_l2.2) ∧ F 41 = v3 ∧ F 42 = (IV (a1.length : Int)) ∧ F 43 = (IV s_l3.2) ∧ Hp w0 [Ent.blk aL 26 #[(IV aB.Boats), aD, aG], zA2 bB aJ, Ent.own 27 bC aG aB.Codes, Ent.blk aN 38 #[(IV x9.Boats), (IV x9.Scheme), aH], Ent.own 101 cC aH x9.Races, Ent.blk b8 26 #[(IV 0), (.slice none 0 0), (.slice none 0 0)], Ent.blk b6 38 #[(IV a0.Boats), (IV a0.Scheme), v1], zAg w0 w0.heap.size] w) (fun o => zBh o (fun x => some (.ret x)) (fun s => zDw a0 x9 s_l1 s_l2 aW s) = some bF) fI hm ⟨bG, cF, cG, cH, bH, bI, cI, rfl, rfl, cJ, cK, cM, bJ, aV, rfl, rfl, rfl, hL⟩ ?_ ?_
         · intro s_l3 nB lK hJ hm
           have hm := zBD hm
           have hm : zDw a0 x9 s_l1 s_l2 aW s_l3 = some bF := hm
           unfold zDw at hm
           obtain ⟨hQ, dR, hR, dS, hS, dT, bK, cR, hT, hU, hV, hW, hX, hY, nC, nD, nE, hL⟩ := hJ
           refine zAF ?_
           obtain ⟨lL, hL, fJ⟩ := hL.freeze 2 rfl
           simp only [lC, lD] at hL
           obtain ⟨lM, hL, dF⟩ := hL.freeze 4 rfl
           simp only [lC, lD] at hL
           refine zBW zAQ ?_
           have hL := hL.call (zA8 _)
           refine DW.pre (fuel := 0) (fin := bma 10 1023) (C := fun w' => Mod zBO _ w') [0, 1, 2, 3, 4, 5, 6, 7, 8, 9] (Mod.refl _ _) (by kernel_rfl) (by kernel_rfl) ?_
           refine QV (PV aN 2) rfl rfl (fun w' hm' => zAc (fsz := 1) 0 2 2 U38 rfl zCq rfl dS rfl) <| QV aH rfl rfl (fun w' hm' => zAd U36 rfl rfl ((hL.call hm').cellB 3 rfl rfl)) <| QV (IV s_l1.2) rfl rfl (fun w' hm' => zAo dT) ?_
           obtain ⟨hZ, fK, hm⟩ := zAs hm
           obtain ⟨fL, fM⟩ := zAZ fK
           obtain ⟨dU, bL, dV, eN, fN, fO, fP⟩ := zCp dF.1.rdL fL fM
           refine QV (.pointer (some ⟨dU, bL, none⟩)) rfl rfl (fun w' hm' => zA1 U36 zBd rfl rfl eN) <| QV (.pointer (some ⟨dU, bL, none⟩)) rfl rfl (fun w' hm' => zAc (fsz := 1) bL 0 bL zIJ rfl zCr rfl rfl rfl) <| QV dV rfl rfl (fun w' hm' => zAd U99 rfl rfl ((hL.call hm').cellF 4 rfl fN fO)) <| QV (PV b6 1) rfl rfl (fun w' hm' => zAc (fsz := 1) 0 1 1 U38 rfl zAf rfl dR rfl) <| QV (IV a0.Scheme) rfl rfl (fun w' hm' => zAd U2 rfl rfl ((hL.call hm').cellB 6 rfl rfl)) ?_
           obtain ⟨aK, fQ, hm⟩ := zAs hm
           refine zAi rfl (QP.call (v := (IV aK)) rfl (fun w' hm' => zAq (vs := [dV, (IV 4), (IV a0.Scheme)]) zOJ ⟨rfl, rfl, rfl, trivial⟩) (fun w' hm' => (zJB w' hZ.Finishes ((hL.call hm').rdF 4 rfl fP) 4 a0.Scheme fQ).mono (fun e w'' h => ⟨h.1, hm'.trans h.2.mod⟩)) ?_)
           refine QV (IV aK) rfl rfl (fun w' hm' => zAb) ?_
           refine QW.nil ?_
           intro lN hmod
           have hL := hL.call hmod
           refine zBu (by kernel_rfl) ?_
           refine zBW zAQ ?_
           have hL := hL.call (zA8 _)
           refine DW.pre (fuel := 1) (fin := bma 17 65535) (C := fun w' => Mod zBO _ w') [0, 1, 2, 3, 4, 5, 6, 7, 8, 9, 10, 11, 12, 13, 14, 15] (Mod.refl _ _) (by kernel_rfl) (by kernel_rfl) ?_
           refine QV aC rfl rfl (fun w' hm' => zAo bK) <| QV (IV s_l2.2) rfl rfl (fun w' hm' => zAo cR) <| QV aC rfl rfl (fun w' hm' => zAo bK) <| QV (IV s_l2.2) rfl rfl (fun w' hm' => zAo cR) ?_
           obtain ⟨aR, fR, hm⟩ := zAs hm
           obtain ⟨fS, dG⟩ := zAZ fR
           obtain ⟨iA, iB, cS⟩ := zAC (hL.rdF 1 rfl aQ) fS dG
           refine QV (.pointer (some ⟨iA, iB, none⟩)) rfl rfl (fun w' hm' => zA1 U27 zAf rfl rfl cS) <| QV (IV aR) rfl rfl (fun w' hm' => zAd U2 rfl rfl (zAv ((hL.call hm').rdF 1 rfl aQ) cS dG 0 _ rfl)) <| QV (IV aK) rfl rfl (fun w' hm' => zAe) <| QV aC rfl rfl (fun w' hm' => zAo bK) <| QV (IV s_l2.2) rfl rfl (fun w' hm' => zAo cR) ?_
           obtain ⟨aO, fT, hm⟩ := zAs hm
           obtain ⟨fU, dH⟩ := zAZ fT
           obtain ⟨iC, iD, cT⟩ := zAC (hL.rdF 1 rfl aQ) fU dH
           refine QV (.pointer (some ⟨iC, iD, none⟩)) rfl rfl (fun w' hm' => zA1 U27 zAf rfl rfl cT) <| QV (IV aO) rfl rfl (fun w' hm' => zAd U2 rfl rfl (zAv ((hL.call hm').rdF 1 rfl aQ) cT dH 0 _ rfl)) <| QV (IV s_l3.1) rfl rfl (fun w' hm' => zAo hT) <| QV (IV (w64 (aO + s_l3.1))) rfl rfl (fun w' hm' => zBe rfl rfl) <| QV (IV (min aK (w64 (aO + s_l3.1)))) rfl rfl (fun w' hm' => zKP rfl rfl) <| QV (IV (max aR (min aK (w64 (aO + s_l3.1))))) rfl rfl (fun w' hm' => zKQ rfl rfl) ?_
           obtain ⟨nF, fV, hm⟩ := zAs hm
           obtain ⟨fW, dI⟩ := zAZ fV
           obtain ⟨iE, iF, cU⟩ := zAC (hL.rdF 1 rfl aQ) fW dI
           refine QV (.pointer (some ⟨iE, iF, none⟩)) rfl rfl (fun w' hm' => zA1 U27 zAf rfl rfl cU) ?_
           refine QW.nil ?_
           intro lO hmod
           have hL := hL.call hmod
           have fX := hL.cellF 1 rfl bZ cA
           have hL := hL.thaw 1 rfl bY
           simp only [lC, lD] at hL
           refine zJX 16 rfl (by kernel_rfl) (zKU (α := Int) (aW.set (s_l2.2 : Int).toNat (max aR (min aK (w64 (aO + s_l3.1))))) (aW.set (s_l2.2 : Int).toNat (max aR (min aK (w64 (aO + s_l3.1))))) rfl hL 1 rfl aM dC fX (fun E2 S1 hL hK => zBV (j := 0) (max aR (min aK (w64 (aO + s_l3.1)))) hL 0 rfl zAf cU dI rfl rfl rfl rfl rfl rfl hK) ?_)
           intro lP iG hL fY fZ
           simp only [lC, lD] at hL
           obtain ⟨lQ, hL, gA, gB, gC, lR⟩ := hL.freezeAt (α := Int) 1 rfl aM fZ fY
           simp only [lC, lD] at hL
           refine zBu (by kernel_rfl) ?_
           have gD := hL.cellF 1 rfl gB gC
           have hL := hL.thaw 1 rfl gA
           have hL := hL.thaw 2 rfl fJ
           have hL := hL.thaw 4 rfl dF
           exact ⟨s_l2.1.set (s_l1.2 : Int).toNat (aW.set (s_l2.2 : Int).toNat (max aR (min aK (w64 (aO + s_l3.1))))), hm, ⟨iG, hQ, dR, hR, dS, hS, dT, bK, hU, hV, hW, hX, hY, gD, hL⟩⟩
         intro s_l3 nG lS cV hJ hm lT
         unfold zDy at hm
         obtain ⟨bM, bN, bO, bP, bQ, aX, bR, aY, bS, bT, bU, bV, bW, bX, aZ, bA, aS, hL⟩ := hJ
         refine CSR <| OV (.bool (decide (s_l3.2 < (a1.length : Int)))) rfl (zBE aS bA) <| ONS ?_
         refine zAn (t := decide (s_l3.2 < (a1.length : Int))) rfl hm (fun gE hm => ?_) (fun gE hm => ?_)
         · refine zAt ?_
           refine zAM (fun (s_j3 : Int) F w => F 1 = v3 ∧ F 2 = (PV b6 0) ∧ F 4 = (PV b8 0) ∧ F 5 = (PV aN 0) ∧ F 6 = (PV aL 0) ∧ F 7 = (IV s_l1.2) ∧ F 8 = aC ∧ F 9 = (IV s_l2.2) ∧ F 10 = (IV s_j3) ∧ F 20 = aD ∧ F 21 = (IV (aB.Points.length : Int)) ∧ F 22 = (IV s_l1.2) ∧ F 28 = (IV (aI.length : Int)) ∧ F 29 = (IV s_l2.2) ∧ F 41 = v3 ∧ F 42 = (IV (a1.length : Int)) ∧ F 43 = (IV s_l3.2) ∧ Hp w0 [Ent.blk aL 26 #[(IV aB.Boats), aD, aG], zA2 bB aJ, Ent.own 27 bC aG aB.Codes, Ent.blk aN 38 #[(IV x9.Boats), (IV x9.Scheme), aH], Ent.own 101 cC aH x9.Races, Ent.blk b8 26 #[(IV 0), (.slice none 0 0), (.slice none 0 0)], Ent.blk b6 38 #[(IV a0.Boats), (IV a0.Scheme), v1], zAg w0 w0.heap.size] w) (fun s_j3 => zEU s_l3 s_j3 = some cV) ?_ ?_
           · refine zBG (fun (s_j4 : Int) F w => F 1 = v3 ∧ F 2 = (PV b6 0) ∧ F 4 = (PV b8 0) ∧ F 5 = (PV aN 0) ∧ F 6 = (PV aL 0) ∧ F 7 = (IV s_l1.2) ∧ F 8 = aC ∧ F 9 = (IV s_l2.2) ∧ F 10 = (IV s_j4) ∧ F 20 = aD ∧ F 21 = (IV (aB.Points.length : Int)) ∧ F 22 = (IV s_l1.2) ∧ F 28 = (IV (aI.length : Int)) ∧ F 29 = (IV s_l2.2) ∧ F 41 = v3 ∧ F 42 = (IV (a1.length : Int)) ∧ F 43 = (IV s_l3.2) ∧ Hp w0 [Ent.blk aL 26 #[(IV aB.Boats), aD, aG], zA2 bB aJ, Ent.own 27 bC aG aB.Codes, Ent.blk aN 38 #[(IV x9.Boats), (IV x9.Scheme), aH], Ent.own 101 cC aH x9.Races, Ent.blk b8 26 #[(IV 0), (.slice none 0 0), (.slice none 0 0)], Ent.blk b6 38 #[(IV a0.Boats), (IV a0.Scheme), v1], zAg w0 w0.heap.size] w) (fun s_j4 => zDx s_l3 s_j4 = some cV) ?_ ?_
             · refine CSR ?_
               obtain ⟨aA, gF, hm⟩ := zAs hm
               obtain ⟨gG, dJ⟩ := zAZ gF
               obtain ⟨iH, iI, cW⟩ := zAC (hL.rdS 7 rfl h4) gG dJ
               refine OV (.pointer (some ⟨iH, iI, none⟩)) rfl (zA1 U39 zAX aZ aS cW) <| OV (.agg #[(IV aA.Race), (IV aA.Boat), (IV aA.Kind), (IV aA.Value)]) rfl (zAW (cs := [(IV aA.Race), (IV aA.Boat), (IV aA.Kind), (IV aA.Value)]) U49 zAX rfl rfl (zAv (hL.rdS 7 rfl h4) cW dJ)) ?_
               refine zAa (zBb (cs := #[(IV 0), (IV 0), (IV 0), (IV 0)]) hL zAX rfl rfl ?_)
               intro lU aT hL
               refine zAa (zA9 (l := [(IV aA.Race), (IV aA.Boat), (IV aA.Kind), (IV aA.Value)]) (cs' := #[(IV aA.Race), (IV aA.Boat), (IV aA.Kind), (IV aA.Value)]) hL 0 rfl zAX rfl rfl (fc ⟨rfl, (fc ⟨rfl, (fc ⟨rfl, (fc ⟨rfl, fz⟩)⟩)⟩)⟩) rfl (nle rfl) rfl ?_)
               intro lV hL
               refine OW.nil ?_
               refine zAM (fun (s_j5 : Bool) F w => F 1 = v3 ∧ F 2 = (PV b6 0) ∧ F 4 = (PV b8 0) ∧ F 5 = (PV aN 0) ∧ F 6 = (PV aL 0) ∧ F 7 = (IV s_l1.2) ∧ F 8 = aC ∧ F 9 = (IV s_l2.2) ∧ F 10 = (IV s_l3.1) ∧ F 12 = (PV aT 0) ∧ F 20 = aD ∧ F 21 = (IV (aB.Points.length : Int)) ∧ F 22 = (IV s_l1.2) ∧ F 28 = (IV (aI.length : Int)) ∧ F 29 = (IV s_l2.2) ∧ F 41 = v3 ∧ F 42 = (IV (a1.length : Int)) ∧ F 43 = (IV s_l3.2) ∧ F 61 = (.bool s_j5) ∧ Hp w0 [Ent.blk aT 49 #[(IV aA.Race), (IV aA.Boat), (IV aA.Kind), (IV aA.Value)], Ent.blk aL 26 #[(IV aB.Boats), aD, aG], zA2 bB aJ, Ent.own 27 bC aG aB.Codes, Ent.blk aN 38 #[(IV x9.Boats), (IV x9.Scheme), aH], Ent.own 101 cC aH x9.Races, Ent.blk b8 26 #[(IV 0), (.slice none 0 0), (.slice none 0 0)], Ent.blk b6 38 #[(IV a0.Boats), (IV a0.Scheme), v1], zAg w0 w0.heap.size] w) (fun s_j5 => zCy a0 s_l3 aA s_j5 = some cV) ?_ ?_
               · refine zAl <| OV (PV aT 2) rfl (zAc (fsz := 1) 0 2 2 U49 rfl zAf rfl rfl rfl) <| OV (IV aA.Kind) rfl (zAd U2 rfl rfl (hL.cellB 0 rfl rfl)) <| OV (.bool (aA.Kind == 3)) rfl (zBv rfl rfl) <| OV (.bool (aA.Kind == 3)) rfl (zAe) ?_
                 refine zAH hm (fun aE hm => ?_) (fun aE hm => ?_)
                 · refine zAa (zAj rfl rfl aE (zAk (v := (PV aT 0)) rfl (zAc (fsz := 1) 0 0 0 U49 rfl zAf rfl rfl rfl) ?_))
                   refine zAa (zAj rfl rfl aE (zAk (v := (IV aA.Race)) rfl (zAd U2 rfl rfl (hL.cellB 0 rfl rfl)) ?_))
                   refine zAa (zAj rfl rfl aE (zAk (v := (IV s_l1.2)) rfl (zAo aX) ?_))
                   refine zAa (zAj rfl rfl aE (zAk (v := (.bool (aA.Race == s_l1.2))) rfl (zBv rfl rfl) ?_))
                   refine OV (.bool (aA.Race == s_l1.2)) rfl (zAz rfl aE rfl) <| OV (.bool (aA.Race == s_l1.2)) rfl (zAe) ?_
                   refine zAH hm (fun aF hm => ?_) (fun aF hm => ?_)
                   · refine zAa (zAj rfl rfl aF (zAk (v := (PV aT 1)) rfl (zAc (fsz := 1) 0 1 1 U49 rfl zAf rfl rfl rfl) ?_))
                     refine zAa (zAj rfl rfl aF (zAk (v := (IV aA.Boat)) rfl (zAd U2 rfl rfl (hL.cellB 0 rfl rfl)) ?_))
                     refine zAa (zAj rfl rfl aF (zAk (v := (IV s_l2.2)) rfl (zAo aY) ?_))
                     refine zAa (zAj rfl rfl aF (zAk (v := (.bool (aA.Boat == s_l2.2))) rfl (zBv rfl rfl) ?_))
                     refine OV (.bool (aA.Boat == s_l2.2)) rfl (zAz rfl aF rfl) <| OW.nil ?_
                     exact ⟨aA.Boat == s_l2.2, hm, ⟨bM, bN, bO, bP, bQ, aX, bR, aY, bS, rfl, bT, bU, bV, bW, bX, aZ, bA, aS, rfl, hL⟩⟩
                   refine zAa (zAh rfl rfl aF rfl ?_)
                   refine zAa (zAh rfl rfl aF rfl ?_)
                   refine zAa (zAh rfl rfl aF rfl ?_)
                   refine zAa (zAh rfl rfl aF rfl ?_)
                   refine OV (.bool false) rfl (zAA rfl aF rfl) <| OW.nil ?_
                   exact ⟨false, hm, ⟨bM, bN, bO, bP, bQ, aX, bR, aY, bS, rfl, bT, bU, bV, bW, bX, aZ, bA, aS, rfl, hL⟩⟩
                 refine zAa (zAh rfl rfl aE rfl ?_)
                 refine zAa (zAh rfl rfl aE rfl ?_)
                 refine zAa (zAh rfl rfl aE rfl ?_)
                 refine zAa (zAh rfl rfl aE rfl ?_)
                 refine OV (.bool false) rfl (zAA rfl aE rfl) <| OV (.bool false) rfl (zAe) ?_
                 refine zAa (zAh rfl rfl rfl rfl ?_)
                 refine zAa (zAh rfl rfl rfl rfl ?_)
                 refine zAa (zAh rfl rfl rfl rfl ?_)
                 refine zAa (zAh rfl rfl rfl rfl ?_)
                 refine OV (.bool false) rfl (zAA rfl rfl rfl) <| OW.nil ?_
                 exact ⟨false, hm, ⟨bM, bN, bO, bP, bQ, aX, bR, aY, bS, rfl, bT, bU, bV, bW, bX, aZ, bA, aS, rfl, hL⟩⟩
               intro s_j5 nH lW hJ hm
               unfold zCy at hm
               obtain ⟨dW, cX, dX, dY, dZ, eA, eB, eC, eD, iJ, eE, eF, eG, eH, eI, eJ, eK, eL, iK, hL⟩ := hJ
               refine zAn (t := s_j5) iK hm (fun gH hm => ?_) (fun gH hm => ?_)
               · refine zAl <| OV (IV s_l3.1) rfl (zAo eD) <| OV (PV b6 0) rfl (zAc (fsz := 1) 0 0 0 U38 rfl zAf rfl cX rfl) <| OV (IV a0.Boats) rfl (zAd U2 rfl rfl (hL.cellB 7 rfl rfl)) <| OV (PV aT 3) rfl (zAc (fsz := 1) 0 3 3 U49 rfl zAf rfl iJ rfl) <| OV (IV aA.Value) rfl (zAd U2 rfl rfl (hL.cellB 0 rfl rfl)) ?_
                 obtain ⟨cY, gI, hm⟩ := zAs hm
                 refine zAa (OP.call rfl (zAq (vs := [(IV a0.Boats), (IV aA.Value)]) zRz ⟨rfl, rfl, trivial⟩) (zKn _ a0.Boats aA.Value gI) ?_)
                 rintro nI lX ⟨rfl, gJ⟩
                 refine ⟨_, rfl, ?_⟩
                 have hL := hL.pushAll gJ
                 simp only [lA, lB, lC, lD] at hL
                 refine OV (IV (w64 (s_l3.1 + cY))) rfl (zBe rfl rfl) <| OV (IV (w64 (s_l3.1 + cY))) rfl (zAb) <| OW.nil ?_
                 have hL := hL.sl [1, 2, 3, 4, 5, 6, 7, 8] rfl
                 exact ⟨w64 (s_l3.1 + cY), hm, ⟨dW, cX, dX, dY, dZ, eA, eB, eC, rfl, eE, eF, eG, eH, eI, eJ, eK, eL, hL⟩⟩
               refine zAt ?_
               have hL := hL.sl [1, 2, 3, 4, 5, 6, 7, 8] rfl
               exact ⟨s_l3.1, hm, ⟨dW, cX, dX, dY, dZ, eA, eB, eC, eD, eE, eF, eG, eH, eI, eJ, eK, eL, hL⟩⟩
             intro s_j4 nJ lY hJ hm
             unfold zDx at hm
             obtain ⟨iL, iM, iN, iO, iP, iQ, iR, iS, iT, iU, iV, iW, iX, iY, iZ, jA, jB, hL⟩ := hJ
             exact ⟨s_j4, hm, ⟨iL, iM, iN, iO, iP, iQ, iR, iS, iT, iU, iV, iW, iX, iY, iZ, jA, jB, hL⟩⟩
           intro s_j3 nK lZ hJ hm
           unfold zEU at hm
           obtain ⟨jC, jD, jE, jF, jG, jH, jI, jJ, jK, jL, jM, jN, jO, jP, jQ, jR, jS, hL⟩ := hJ
           refine zAl <| OV (IV (w64 (s_l3.2 + 1))) rfl (zBe jS rfl) <| OV (IV (w64 (s_l3.2 + 1))) rfl (zAe) <| OW.nil ?_
           obtain rfl := oi hm
           exact ⟨_, rfl, ⟨jC, jD, jE, jF, jG, jH, jI, jJ, jK, jL, jM, jN, jO, jP, jQ, jR, rfl, hL⟩⟩
         refine zA0 ?_
         refine zBk ?_
         obtain rfl := oi hm
         exact ⟨_, rfl, ⟨bM, bN, bO, bP, bQ, aX, bR, aY, bS, bT, bU, bV, bW, bX, aZ, bA, aS, hL⟩⟩
       intro s_j2 nL mA hJ hm
       unfold zCx at hm
       obtain ⟨cO, jT, jU, jV, jW, jX, jY, jZ, kA, kB, kC, kD, kE, gK, hL⟩ := hJ
       obtain ⟨nM, gL, hm⟩ := zAs hm
       obtain ⟨mB, gM⟩ := zAZ gL
       obtain ⟨mC, hL, gN, gO, gP, mD⟩ := hL.freezeAt (α := Int) 1 rfl aM gM gK
       simp only [lC, lD] at hL
       have gQ := hL.cellF 1 rfl gO gP
       have hL := hL.thaw 1 rfl gN
       exact ⟨s_j2, hm, ⟨cO, jT, jU, jV, jW, jX, jY, jZ, kA, kB, kC, kD, kE, gQ, hL⟩⟩
     intro s_j1 nN mE hJ hm
     unfold zDv at hm
     obtain ⟨cN, kF, kG, kH, kI, kJ, kK, kL, kM, kN, kO, kP, kQ, gR, hL⟩ := hJ
     obtain ⟨nO, gS, hm⟩ := zAs hm
     obtain ⟨mF, gT⟩ := zAZ gS
     obtain ⟨mG, hL, gU, gV, gW, mH⟩ := hL.freezeAt (α := Int) 1 rfl aM gT gR
     simp only [lC, lD] at hL
     refine zAl <| OV (IV (w64 (s_l2.2 + 1))) rfl (zBe kQ rfl) <| OV (IV (w64 (s_l2.2 + 1))) rfl (zAe) <| OW.nil ?_
     have gX := hL.cellF 1 rfl gV gW
     have hL := hL.thaw 1 rfl gU
     obtain rfl := oi hm
     exact ⟨_, rfl, ⟨cN, kF, kG, kH, kI, kJ, kK, kL, kM, kN, kO, kP, rfl, gX, hL⟩⟩
   refine zA0 ?_
   refine zBk ?_
   have gY := hL.cellF 1 rfl bZ cA
   have hL := hL.thaw 1 rfl bY
   obtain rfl := oi hm
   exact ⟨_, rfl, ⟨aJ, bG, cF, cG, cH, bH, bI, cI, cJ, cK, cM, bJ, aV, gY, hL⟩⟩
 refine zA0 ?_
 refine zBk ?_
 obtain rfl := oi hm
 exact ⟨_, rfl, ⟨aP, dM, dN, dO, dP, dQ, cD, cE, aU, hL⟩⟩

theorem zK5 (w0 : World) (a0 : Series) {v1 : Value} (h2 : rdL (· < w0.heap.size) w0 v1 a0.Races) (a1 : List Penalty) {v3 : Value} (h4 : rdL (· < w0.heap.size) w0 v3 a1) (a2 : List Int) {v5 : Value} (h6 : rdL (· < w0.heap.size) w0 v5 a2) (a3 : Int) {r : Int × Int} (hm : zFn a0 a1 a2 a3 = some r) :
    Calls Tryz.prog 15 #[(.agg #[(IV a0.Boats), (IV a0.Scheme), v1]), v3, v5, (IV a3)] w0 fun e w' => e = .returned (.tuple #[(IV r.1), (IV r.2)]) ∧ Fresh w0 w' [] := by
 unfold zFn at hm
 refine zAD (args := [(.agg #[(IV a0.Boats), (IV a0.Scheme), v1]), v3, v5, (IV a3)]) Tryz.func15 rfl rfl rfl ?_
 have hL := zAJ w0
 refine CSR ?_
 refine zAa (zC3 (cs := #[(IV a0.Boats), (IV a0.Scheme), v1]) hL rfl rfl rfl ?_)
 intro wd7 b8 hL
 refine OV (IV 0) rfl (zAb) <| OV (IV 0) rfl (zAb) <| ONS <| CSR <| OV (.agg #[(IV a0.Boats), (IV a0.Scheme), v1]) rfl (zAW (cs := [(IV a0.Boats), (IV a0.Scheme), v1]) U38 zA5 rfl rfl (hL.cellsB 0 rfl (o := 0) (l := [(IV a0.Boats), (IV a0.Scheme), v1]) (by intro j u hj; exact (by simpa using hj)))) <| OV v3 rfl (zAe) ?_
 obtain ⟨x9, aX, hm⟩ := zAs hm
 refine zAa (OP.call rfl (zAq (vs := [(.agg #[(IV a0.Boats), (IV a0.Scheme), v1]), v3]) zOy ⟨rfl, rfl, trivial⟩) (zJq _ a0 (hL.rdS 1 rfl h2) a1 (hL.rdS 1 rfl h4) aX) ?_)
 rintro cF bX ⟨rfl, aY⟩
 refine ⟨_, rfl, ?_⟩
 have hL := hL.pushAll aY
 simp only [lA, lB, lC, lD] at hL
 refine OV (IV x9) rfl (zAb) <| ONR <| OV (IV x9) rfl (zAe) <| OV (.bool (x9 != 0)) rfl (zDk rfl rfl) <| OW.nil ?_
 refine zAn (t := x9 != 0) rfl hm (fun aZ hm => ?_) (fun aZ hm => ?_)
 · refine CSR <| OV (IV x9) rfl (zAe) <| OV (IV 0) rfl (zAb) <| OV (IV x9) rfl (zAb) <| OW.nil <| zAx ?_
   obtain rfl := oi hm
   exact RR2 rfl rfl rfl ⟨rfl, hL.fresh 1 rfl [] (by decide) (by decide) rfl⟩
 refine zAt <| zAF ?_
 refine zAM (fun (s_j1 : Bool) F w => F 1 = v3 ∧ F 2 = v5 ∧ F 3 = (IV a3) ∧ F 4 = (PV b8 0) ∧ F 29 = (.bool s_j1) ∧ Hp w0 [Ent.blk b8 38 #[(IV a0.Boats), (IV a0.Scheme), v1], zAg w0 w0.heap.size] w) (fun s_j1 => zFc a0 a1 a2 a3 s_j1 = some r) ?_ ?_
 · refine zAl <| OV v5 rfl (zAe) ?_
   obtain ⟨aH, aJ, hm⟩ := zAs hm
   refine zAa (OP.call rfl (zAq (vs := [v5]) zOz ⟨rfl, trivial⟩) (zIZ _ a2 (hL.rdS 1 rfl h6) aJ) ?_)
   rintro bY bU ⟨rfl, aK⟩
   refine ⟨_, rfl, ?_⟩
   have hL := hL.pushAll aK
   simp only [lA, lB, lC, lD] at hL
   refine OV (.bool (!aH)) rfl (zCb rfl) <| OV (.bool (!aH)) rfl (zAe) ?_
   refine zAH hm (fun aA hm => ?_) (fun aA hm => ?_)
   · refine zAa (zAh rfl rfl aA rfl ?_)
     refine zAa (zAh rfl rfl aA rfl ?_)
     refine zAa (zAh rfl rfl aA rfl ?_)
     refine zAa (zAh rfl rfl aA rfl ?_)
     refine zAa (zAh rfl rfl aA rfl ?_)
     refine zAa (zAh rfl rfl aA rfl ?_)
     refine OV (.bool true) rfl (zAz rfl aA rfl) <| OW.nil ?_
     exact ⟨true, hm, ⟨rfl, rfl, rfl, rfl, rfl, hL⟩⟩
   refine zAa (zAj rfl rfl aA (zAk (v := (IV a3)) rfl (zAe) ?_))
   refine zAa (zAj rfl rfl aA (zAk (v := (PV b8 0)) rfl (zAc (fsz := 1) 0 0 0 U38 rfl zAf rfl rfl rfl) ?_))
   refine zAa (zAj rfl rfl aA (zAk (v := (IV a0.Boats)) rfl (zAd U2 rfl rfl (hL.cellB 0 rfl rfl)) ?_))
   refine zAa (zAj rfl rfl aA (zAk (v := (IV (w64 (a0.Boats - 1)))) rfl (zCn rfl rfl) ?_))
   obtain ⟨aD, aL, hm⟩ := zAs hm
   refine zAa (zAj rfl rfl aA (OP.call rfl (zAq (vs := [(IV a3), (IV 0), (IV (w64 (a0.Boats - 1)))]) zD4 ⟨rfl, rfl, rfl, trivial⟩) (zBn _ a3 0 (w64 (a0.Boats - 1)) aL) ?_))
   rintro bZ bV ⟨rfl, aM⟩
   refine ⟨_, rfl, ?_⟩
   have hL := hL.pushAll aM
   simp only [lA, lB, lC, lD] at hL
   refine zAa (zAj rfl rfl aA (zAk (v := (.bool (!aD))) rfl (zCb rfl) ?_))
   refine OV (.bool (!aD)) rfl (zAA rfl aA rfl) <| OW.nil ?_
   exact ⟨!aD, hm, ⟨rfl, rfl, rfl, rfl, rfl, hL⟩⟩
 intro s_j1 cG cA hJ hm
 unfold zFc at hm
 obtain ⟨bO, aQ, aR, aS, bP, hL⟩ := hJ
 refine zAn (t := s_j1) bP hm (fun bA hm => ?_) (fun bA hm => ?_)
 · refine CSR <| OV (IV 0) rfl (zAb) <| OV (IV 2) rfl (zAb) <| OW.nil <| zAx ?_
   obtain rfl := oi hm
   exact RR2 rfl rfl rfl ⟨rfl, hL.fresh 1 rfl [] (by decide) (by decide) rfl⟩
 refine zAt <| zAF ?_
 refine zDG (fun w' => Hp w0 [Ent.blk b8 38 #[(IV a0.Boats), (IV a0.Scheme), v1], zAg w0 w0.heap.size] w') zAQ ?_
 have hL := hL.call (zA8 _)
 have hS := (hL.sl [0, 1] rfl)
 refine zAw 0 rfl (by kernel_rfl) rfl rfl hS (zAp (v := (.agg #[(IV a0.Boats), (IV a0.Scheme), v1])) (fun w' hS' => zAW (cs := [(IV a0.Boats), (IV a0.Scheme), v1]) U38 zA5 rfl aS (hS'.cellsB 0 rfl (o := 0) (l := [(IV a0.Boats), (IV a0.Scheme), v1]) (by intro j u hj; exact (by simpa using hj))))) ?_
 have hS := (hL.sl [0, 1] rfl)
 refine zAw 1 rfl (by kernel_rfl) rfl rfl hS (zAp (v := v3) (fun w' hS' => zAo bO)) ?_
 have hS := (hL.sl [0, 1] rfl)
 refine zAw 3 rfl (by kernel_rfl) rfl rfl hS (zAp (v := v5) (fun w' hS' => zAo aQ)) ?_
 have hS := (hL.sl [0, 1] rfl)
 refine zAw 5 rfl (by kernel_rfl) rfl rfl hS (zAp (v := (.agg #[(IV a0.Boats), (IV a0.Scheme), v1])) (fun w' hS' => zAW (cs := [(IV a0.Boats), (IV a0.Scheme), v1]) U38 zA5 rfl aS (hS'.cellsB 0 rfl (o := 0) (l := [(IV a0.Boats), (IV a0.Scheme), v1]) (by intro j u hj; exact (by simpa using hj))))) ?_
 have hS := (hL.sl [0, 1] rfl)
 refine zAw 7 rfl (by kernel_rfl) rfl rfl hS (zAp (v := v5) (fun w' hS' => zAo aQ)) ?_
 obtain ⟨aT, bB, hm⟩ := zAs hm
 refine zAT 2 rfl (by kernel_rfl) (OP.call rfl (zAq (vs := [(.agg #[(IV a0.Boats), (IV a0.Scheme), v1]), v3]) zOA ⟨rfl, rfl, trivial⟩) (zIN _ a0 (hL.rdS 1 rfl h2) a1 (hL.rdS 1 rfl h4) bB) ?_)
 rintro cH cB ⟨bQ, cI, bR, cJ, rfl, bC⟩
 refine ⟨_, rfl, ?_⟩
 have hL := hL.pushAll bC
 simp only [lA, lB, lC, lD] at hL
 refine ⟨(hL.sl [2, 3] rfl), ?_⟩
 obtain ⟨cK, bD, hm⟩ := zAs hm
 refine zAT 4 rfl (by kernel_rfl) (OP.call rfl (zAq (vs := [(.agg #[(IV aT.Boats), bQ, bR]), v5]) zM6 ⟨rfl, rfl, trivial⟩) (zJa _ aT (hL.rdO 0 rfl) (hL.rdO 1 rfl) a2 (hL.rdS 3 rfl h6) bD) ?_)
 rintro cM cC ⟨aU, cN, rfl, bE⟩
 refine ⟨_, rfl, ?_⟩
 have hL := hL.pushAll bE
 simp only [lA, lB, lC, lD] at hL
 refine ⟨(hL.sl [3, 4] rfl), ?_⟩
 obtain ⟨aV, bF, hm⟩ := zAs hm
 refine zAT 6 rfl (by kernel_rfl) (OP.call rfl (zAq (vs := [(.agg #[(IV a0.Boats), (IV a0.Scheme), v1])]) zOB ⟨rfl, trivial⟩) (zJ3 _ a0 (hL.rdS 4 rfl h2) bF) ?_)
 rintro cO cD ⟨bS, cP, bT, cQ, rfl, bG⟩
 refine ⟨_, rfl, ?_⟩
 have hL := hL.pushAll bG
 simp only [lA, lB, lC, lD] at hL
 refine ⟨(hL.sl [5, 6] rfl), ?_⟩
 obtain ⟨cR, bH, hm⟩ := zAs hm
 refine zAT 8 rfl (by kernel_rfl) (OP.call rfl (zAq (vs := [(.agg #[(IV aV.Boats), bS, bT]), v5]) zM6 ⟨rfl, rfl, trivial⟩) (zJa _ aV (hL.rdO 0 rfl) (hL.rdO 1 rfl) a2 (hL.rdS 6 rfl h6) bH) ?_)
 rintro cS cE ⟨aW, cT, rfl, bI⟩
 refine ⟨_, rfl, ?_⟩
 have hL := hL.pushAll bI
 simp only [lA, lB, lC, lD] at hL
 refine ⟨(hL.sl [6, 7] rfl), ?_⟩
 have hS := (hL.sl [6, 7] rfl)
 refine zAw 9 rfl (by kernel_rfl) rfl rfl hS (zAp (v := aU) (fun w' hS' => zAb)) ?_
 have hS := (hL.sl [6, 7] rfl)
 refine zAw 10 rfl (by kernel_rfl) rfl rfl hS (zAp (v := aW) (fun w' hS' => zAb)) ?_
 refine zDB (by kernel_rfl) ?_
 refine zAF ?_
 refine zBW zAQ ?_
 have hL := hL.call (zA8 _)
 refine DW.pre (fuel := 0) (fin := bma 11 2047) (C := fun w' => Mod zBO _ w') [0, 1, 2, 3, 4, 5, 6, 7, 8, 9, 10] (Mod.refl _ _) (by kernel_rfl) (by kernel_rfl) ?_
 refine QV aU rfl rfl (fun w' hm' => zAe) <| QV (IV a3) rfl rfl (fun w' hm' => zAo aR) ?_
 obtain ⟨aI, bJ, hm⟩ := zAs hm
 obtain ⟨aN, aF⟩ := zAZ bJ
 obtain ⟨bK, bL, aB⟩ := zAC (hL.rdO 3 rfl) aN aF
 refine QV (.pointer (some ⟨bK, bL, none⟩)) rfl rfl (fun w' hm' => zA1 U27 zAf rfl rfl aB) <| QV (IV aI) rfl rfl (fun w' hm' => zAd U2 rfl rfl (zAv ((hL.call hm').rdO 3 rfl) aB aF 0 _ rfl)) <| QV aW rfl rfl (fun w' hm' => zAe) <| QV (IV a3) rfl rfl (fun w' hm' => zAo aR) ?_
 obtain ⟨aE, aO, hm⟩ := zAs hm
 obtain ⟨aP, aG⟩ := zAZ aO
 obtain ⟨bM, bN, aC⟩ := zAC (hL.rdO 0 rfl) aP aG
 refine QV (.pointer (some ⟨bM, bN, none⟩)) rfl rfl (fun w' hm' => zA1 U27 zAf rfl rfl aC) <| QV (IV aE) rfl rfl (fun w' hm' => zAd U2 rfl rfl (zAv ((hL.call hm').rdO 0 rfl) aC aG 0 _ rfl)) <| QV (IV (w64 (aI - aE))) rfl rfl (fun w' hm' => zCn rfl rfl) <| QV (IV (w64 (aI - aE))) rfl rfl (fun w' hm' => zAb) <| QV (IV 0) rfl rfl (fun w' hm' => zAb) ?_
 refine QW.nil ?_
 intro bW hmod
 have hL := hL.call hmod
 refine zBu (by kernel_rfl) ?_
 refine zAx ?_
 obtain rfl := oi hm
 exact RR2 rfl rfl rfl ⟨rfl, hL.fresh 7 rfl [] (by decide) (by decide) rfl⟩

theorem zJ4 (w0 : World) (a0 : Int) {r : Bool} (hm : zE1 a0 = some r) :
    Calls Tryz.prog 53 #[(IV a0)] w0 fun e w' => e = .returned (.bool r) ∧ Fresh w0 w' [] := by
 unfold zE1 at hm
 refine zAD (args := [(IV a0)]) Tryz.func53 rfl rfl rfl ?_
 have hL := zAJ w0
 refine CSR <| OV (.bool false) rfl (zAb) <| OW.nil ?_
 refine zAM (fun (s_j1 : Bool) F w => F 2 = (.bool s_j1) ∧ Hp w0 [zAg w0 w0.heap.size] w) (fun s_j1 => zD8 s_j1 = some r) ?_ ?_
 · refine zAl <| OV (IV a0) rfl (zAe) <| OV (.bool (a0 == 6)) rfl (zBv rfl rfl) <| OV (.bool (a0 == 6)) rfl (zAe) ?_
   refine zAH hm (fun hb6 hm => ?_) (fun hb6 hm => ?_)
   · refine zAa (zAh rfl rfl hb6 rfl ?_)
     refine zAa (zAh rfl rfl hb6 rfl ?_)
     refine OV (.bool true) rfl (zAz rfl hb6 rfl) <| OV (.bool true) rfl (zAe) ?_
     refine zAa (zAh rfl rfl rfl rfl ?_)
     refine zAa (zAh rfl rfl rfl rfl ?_)
     refine OV (.bool true) rfl (zAz rfl rfl rfl) <| OV (.bool true) rfl (zAb) <| OW.nil ?_
     exact ⟨true, hm, ⟨rfl, hL⟩⟩
   refine zAa (zAj rfl rfl hb6 (zAk (v := (IV a0)) rfl (zAe) ?_))
   refine zAa (zAj rfl rfl hb6 (zAk (v := (.bool (a0 == 7))) rfl (zBv rfl rfl) ?_))
   refine OV (.bool (a0 == 7)) rfl (zAA rfl hb6 rfl) <| OV (.bool (a0 == 7)) rfl (zAe) ?_
   refine zAH hm (fun hb7 hm => ?_) (fun hb7 hm => ?_)
   · refine zAa (zAh rfl rfl hb7 rfl ?_)
     refine zAa (zAh rfl rfl hb7 rfl ?_)
     refine OV (.bool true) rfl (zAz rfl hb7 rfl) <| OV (.bool true) rfl (zAb) <| OW.nil ?_
     exact ⟨true, hm, ⟨rfl, hL⟩⟩
   refine zAa (zAj rfl rfl hb7 (zAk (v := (IV a0)) rfl (zAe) ?_))
   refine zAa (zAj rfl rfl hb7 (zAk (v := (.bool (a0 == 5))) rfl (zBv rfl rfl) ?_))
   refine OV (.bool (a0 == 5)) rfl (zAA rfl hb7 rfl) <| OV (.bool (a0 == 5)) rfl (zAb) <| OW.nil ?_
   exact ⟨a0 == 5, hm, ⟨rfl, hL⟩⟩
 intro s_j1 F3 wd4 hJ hm
 unfold zD8 at hm
 obtain ⟨f5, hL⟩ := hJ
 refine zAx ?_
 obtain rfl := oi hm
 exact RR1 rfl f5 ⟨rfl, hL.fresh 0 rfl [] (by decide) (by decide) rfl⟩

theorem zJP (w0 : World) (a0 : Int) (a1 : Int) {r : Bool} (hm : zGB a0 a1 = some r) :
    Calls Tryz.prog 58 #[(IV a0), (IV a1)] w0 fun e w' => e = .returned (.bool r) ∧ Fresh w0 w' [] := by
 unfold zGB at hm
 refine zAD (args := [(IV a0), (IV a1)]) Tryz.func58 rfl rfl rfl ?_
 have hL := zAJ w0
 refine CSR <| OV (.bool false) rfl (zAb) <| ONS <| CSR <| OV (IV a0) rfl (zAe) <| OW.nil <| CW.block <| CSR <| OV (.bool (a0 == 1)) rfl (zBv rfl rfl) <| OV (.bool (a0 == 1)) rfl (zAb) <| OW.nil ?_
 refine zAn (t := a0 == 1) rfl hm (fun hb1 hm => ?_) (fun hb1 hm => ?_)
 · refine CSR <| OV (IV a1) rfl (zAe) ?_
   obtain ⟨x2, hx3, hm⟩ := zAs hm
   refine zAa (OP.call rfl (zAq (vs := [(IV a1)]) zOE ⟨rfl, trivial⟩) (zJ4 _ a1 hx3) ?_)
   rintro e4 wd5 ⟨rfl, hF6⟩
   refine ⟨_, rfl, ?_⟩
   have hL := hL.pushAll hF6
   simp only [lA, lB, lC, lD] at hL
   refine OV (.bool x2) rfl (zAb) <| OW.nil <| zAx ?_
   obtain rfl := oi hm
   exact RR1 rfl rfl ⟨rfl, hL.fresh 0 rfl [] (by decide) (by decide) rfl⟩
 refine CSR <| OV (.bool (a0 == 2)) rfl (zBv rfl rfl) <| OV (.bool (a0 == 2)) rfl (zAb) <| OW.nil ?_
 refine zAn (t := a0 == 2) rfl hm (fun hb7 hm => ?_) (fun hb7 hm => ?_)
 · refine CSR <| OV (IV a1) rfl (zAe) ?_
   obtain ⟨x8, hx9, hm⟩ := zAs hm
   refine zAa (OP.call rfl (zAq (vs := [(IV a1), (IV 1), (IV 1000000000)]) zEw ⟨rfl, rfl, rfl, trivial⟩) (zBw _ a1 1 1000000000 hx9) ?_)
   rintro aH aF ⟨rfl, aA⟩
   refine ⟨_, rfl, ?_⟩
   have hL := hL.pushAll aA
   simp only [lA, lB, lC, lD] at hL
   refine OV (.bool x8) rfl (zAb) <| OW.nil <| zAx ?_
   obtain rfl := oi hm
   exact RR1 rfl rfl ⟨rfl, hL.fresh 0 rfl [] (by decide) (by decide) rfl⟩
 refine CSR <| OV (.bool (a0 == 3)) rfl (zBv rfl rfl) <| OV (.bool (a0 == 3)) rfl (zAb) <| OW.nil ?_
 refine zAn (t := a0 == 3) rfl hm (fun aB hm => ?_) (fun aB hm => ?_)
 · refine CSR <| OV (IV a1) rfl (zAe) ?_
   obtain ⟨aE, aC, hm⟩ := zAs hm
   refine zAa (OP.call rfl (zAq (vs := [(IV a1), (IV 1), (IV 100)]) zEw ⟨rfl, rfl, rfl, trivial⟩) (zBw _ a1 1 100 aC) ?_)
   rintro aI aG ⟨rfl, aD⟩
   refine ⟨_, rfl, ?_⟩
   have hL := hL.pushAll aD
   simp only [lA, lB, lC, lD] at hL
   refine OV (.bool aE) rfl (zAb) <| OW.nil <| zAx ?_
   obtain rfl := oi hm
   exact RR1 rfl rfl ⟨rfl, hL.fresh 0 rfl [] (by decide) (by decide) rfl⟩
 refine zAt <| CSR <| OV (.bool false) rfl (zAb) <| OW.nil <| zAx ?_
 obtain rfl := oi hm
 exact RR1 rfl rfl ⟨rfl, hL.fresh 0 rfl [] (by decide) (by decide) rfl⟩

theorem zLQ (w0 : World) (a0 : Series) {v1 : Value} (h2 : rdL (· < w0.heap.size) w0 v1 a0.Races) (a1 : List Penalty) {v3 : Value} (h4 : rdL (· < w0.heap.size) w0 v3 a1) {r : Bool} (hm : zFp a0 a1 = some r) :
    Calls Tryz.prog 81 #[(.agg #[(IV a0.Boats), (IV a0.Scheme), v1]), v3] w0 fun e w' => e = .returned (.bool r) ∧ Fresh w0 w' [] := by
 unfold zFp at hm
 refine zAD (args := [(.agg #[(IV a0.Boats), (IV a0.Scheme), v1]), v3]) Tryz.func81 rfl rfl rfl ?_
 have hL := zAJ w0
 refine CSR ?_
 refine zAa (zC3 (cs := #[(IV a0.Boats), (IV a0.Scheme), v1]) hL rfl rfl rfl ?_)
 intro wd5 b6 hL
 refine OV (.bool false) rfl (zAb) <| ONS <| CSR <| OV (IV 0) rfl (zAb) <| OW.nil ?_
 obtain ⟨bO, aM, hm⟩ := zAs hm
 refine zAU (fun (s_l1 : Int) F w => F 1 = v3 ∧ F 2 = (PV b6 0) ∧ F 5 = (IV s_l1) ∧ Hp w0 [Ent.blk b6 38 #[(IV a0.Boats), (IV a0.Scheme), v1], zAg w0 w0.heap.size] w) (fun o => zBh o (fun x => some x) (fun s => zEK a1 s) = some r) aM hm ⟨rfl, rfl, rfl, hL⟩ ?_ ?_
 · intro s_l1 bP bG hJ hm
   have hm := zBD hm
   have hm : zEK a1 s_l1 = some r := hm
   unfold zEK at hm
   obtain ⟨aY, bQ, bR, hL⟩ := hJ
   refine CSR <| OV v3 rfl (zAo aY) <| OV (IV (a1.length : Int)) rfl (zA3 U39 rfl (hL.rdS 1 rfl h4)) <| OV (.bool (decide ((a1.length : Int) ≤ 60))) rfl (zKe rfl rfl) <| OV (.bool (decide ((a1.length : Int) ≤ 60))) rfl (zAb) <| OW.nil <| zAx ?_
   obtain rfl := oi hm
   exact RR1 rfl rfl ⟨rfl, hL.fresh 1 rfl [] (by decide) (by decide) rfl⟩
 intro s_l1 bS bH aZ hJ hm aN
 unfold zDF at hm
 obtain ⟨aD, aE, aF, hL⟩ := hJ
 refine zAF <| CSR <| OV (IV s_l1) rfl (zAo aF) <| OV v3 rfl (zAo aD) <| OV (IV (a1.length : Int)) rfl (zA3 U39 rfl (hL.rdS 1 rfl h4)) <| OV (.bool (decide (s_l1 < (a1.length : Int)))) rfl (zBE rfl rfl) <| OW.nil ?_
 refine zAn (t := decide (s_l1 < (a1.length : Int))) rfl hm (fun aO hm => ?_) (fun aO hm => ?_)
 · refine zAt <| zAF <| CW.block <| CSR <| OV v3 rfl (zAo aD) <| OV (IV s_l1) rfl (zAo aF) ?_
   obtain ⟨aA, aP, hm⟩ := zAs hm
   obtain ⟨aQ, aK⟩ := zAZ aP
   obtain ⟨bA, bB, aH⟩ := zAC (hL.rdS 1 rfl h4) aQ aK
   refine OV (.pointer (some ⟨bA, bB, none⟩)) rfl (zA1 U39 zAX rfl rfl aH) <| OV (.agg #[(IV aA.Race), (IV aA.Boat), (IV aA.Kind), (IV aA.Value)]) rfl (zAW (cs := [(IV aA.Race), (IV aA.Boat), (IV aA.Kind), (IV aA.Value)]) U49 zAX rfl rfl (zAv (hL.rdS 1 rfl h4) aH aK)) ?_
   refine zAa (zBb (cs := #[(IV 0), (IV 0), (IV 0), (IV 0)]) hL zAX rfl rfl ?_)
   intro bI aG hL
   refine zAa (zA9 (l := [(IV aA.Race), (IV aA.Boat), (IV aA.Kind), (IV aA.Value)]) (cs' := #[(IV aA.Race), (IV aA.Boat), (IV aA.Kind), (IV aA.Value)]) hL 0 rfl zAX rfl rfl (fc ⟨rfl, (fc ⟨rfl, (fc ⟨rfl, (fc ⟨rfl, fz⟩)⟩)⟩)⟩) rfl (nle rfl) rfl ?_)
   intro bJ hL
   refine OW.nil ?_
   refine zAM (fun (s_j1 : Bool) F w => F 1 = v3 ∧ F 2 = (PV b6 0) ∧ F 5 = (IV s_l1) ∧ F 41 = (.bool s_j1) ∧ Hp w0 [Ent.blk aG 49 #[(IV aA.Race), (IV aA.Boat), (IV aA.Kind), (IV aA.Value)], Ent.blk b6 38 #[(IV a0.Boats), (IV a0.Scheme), v1], zAg w0 w0.heap.size] w) (fun s_j1 => zDE s_l1 s_j1 = some aZ) ?_ ?_
   · refine zAl <| OV (PV aG 0) rfl (zAc (fsz := 1) 0 0 0 U49 rfl zAf rfl rfl rfl) <| OV (IV aA.Race) rfl (zAd U2 rfl rfl (hL.cellB 0 rfl rfl)) <| OV (PV b6 2) rfl (zAc (fsz := 1) 0 2 2 U38 rfl zCq rfl aE rfl) <| OV v1 rfl (zAd U36 rfl rfl (hL.cellB 1 rfl rfl)) <| OV (IV (a0.Races.length : Int)) rfl (zA3 U36 rfl (hL.rdS 2 rfl h2)) <| OV (IV (w64 ((a0.Races.length : Int) - 1))) rfl (zCn rfl rfl) ?_
     obtain ⟨aL, aR, hm⟩ := zAs hm
     refine zAa (OP.call rfl (zAq (vs := [(IV aA.Race), (IV 0), (IV (w64 ((a0.Races.length : Int) - 1)))]) zEw ⟨rfl, rfl, rfl, trivial⟩) (zBw _ aA.Race 0 (w64 ((a0.Races.length : Int) - 1)) aR) ?_)
     rintro bT bK ⟨rfl, aS⟩
     refine ⟨_, rfl, ?_⟩
     have hL := hL.pushAll aS
     simp only [lA, lB, lC, lD] at hL
     refine OV (.bool (!aL)) rfl (zCb rfl) <| OV (.bool (!aL)) rfl (zAe) ?_
     refine zAH hm (fun aB hm => ?_) (fun aB hm => ?_)
     · refine zAa (zAh rfl rfl aB rfl ?_)
       refine zAa (zAh rfl rfl aB rfl ?_)
       refine zAa (zAh rfl rfl aB rfl ?_)
       refine zAa (zAh rfl rfl aB rfl ?_)
       refine zAa (zAh rfl rfl aB rfl ?_)
       refine zAa (zAh rfl rfl aB rfl ?_)
       refine zAa (zAh rfl rfl aB rfl ?_)
       refine OV (.bool true) rfl (zAz rfl aB rfl) <| OV (.bool true) rfl (zAe) ?_
       refine zAa (zAh rfl rfl rfl rfl ?_)
       refine zAa (zAh rfl rfl rfl rfl ?_)
       refine zAa (zAh rfl rfl rfl rfl ?_)
       refine zAa (zAh rfl rfl rfl rfl ?_)
       refine zAa (zAh rfl rfl rfl rfl ?_)
       refine zAa (zAh rfl rfl rfl rfl ?_)
       refine OV (.bool true) rfl (zAz rfl rfl rfl) <| OW.nil ?_
       exact ⟨true, hm, ⟨aD, aE, aF, rfl, hL⟩⟩
     refine zAa (zAj rfl rfl aB (zAk (v := (PV aG 1)) rfl (zAc (fsz := 1) 0 1 1 U49 rfl zAf rfl rfl rfl) ?_))
     refine zAa (zAj rfl rfl aB (zAk (v := (IV aA.Boat)) rfl (zAd U2 rfl rfl (hL.cellB 0 rfl rfl)) ?_))
     refine zAa (zAj rfl rfl aB (zAk (v := (PV b6 0)) rfl (zAc (fsz := 1) 0 0 0 U38 rfl zAf rfl aE rfl) ?_))
     refine zAa (zAj rfl rfl aB (zAk (v := (IV a0.Boats)) rfl (zAd U2 rfl rfl (hL.cellB 1 rfl rfl)) ?_))
     refine zAa (zAj rfl rfl aB (zAk (v := (IV (w64 (a0.Boats - 1)))) rfl (zCn rfl rfl) ?_))
     obtain ⟨aI, aT, hm⟩ := zAs hm
     refine zAa (zAj rfl rfl aB (OP.call rfl (zAq (vs := [(IV aA.Boat), (IV 0), (IV (w64 (a0.Boats - 1)))]) zEw ⟨rfl, rfl, rfl, trivial⟩) (zBw _ aA.Boat 0 (w64 (a0.Boats - 1)) aT) ?_))
     rintro bU bL ⟨rfl, aU⟩
     refine ⟨_, rfl, ?_⟩
     have hL := hL.pushAll aU
     simp only [lA, lB, lC, lD] at hL
     refine zAa (zAj rfl rfl aB (zAk (v := (.bool (!aI))) rfl (zCb rfl) ?_))
     refine OV (.bool (!aI)) rfl (zAA rfl aB rfl) <| OV (.bool (!aI)) rfl (zAe) ?_
     refine zAH hm (fun aC hm => ?_) (fun aC hm => ?_)
     · refine zAa (zAh rfl rfl aC rfl ?_)
       refine zAa (zAh rfl rfl aC rfl ?_)
       refine zAa (zAh rfl rfl aC rfl ?_)
       refine zAa (zAh rfl rfl aC rfl ?_)
       refine zAa (zAh rfl rfl aC rfl ?_)
       refine zAa (zAh rfl rfl aC rfl ?_)
       refine OV (.bool true) rfl (zAz rfl aC rfl) <| OW.nil ?_
       exact ⟨true, hm, ⟨aD, aE, aF, rfl, hL⟩⟩
     refine zAa (zAj rfl rfl aC (zAk (v := (PV aG 2)) rfl (zAc (fsz := 1) 0 2 2 U49 rfl zAf rfl rfl rfl) ?_))
     refine zAa (zAj rfl rfl aC (zAk (v := (IV aA.Kind)) rfl (zAd U2 rfl rfl (hL.cellB 0 rfl rfl)) ?_))
     refine zAa (zAj rfl rfl aC (zAk (v := (PV aG 3)) rfl (zAc (fsz := 1) 0 3 3 U49 rfl zAf rfl rfl rfl) ?_))
     refine zAa (zAj rfl rfl aC (zAk (v := (IV aA.Value)) rfl (zAd U2 rfl rfl (hL.cellB 0 rfl rfl)) ?_))
     obtain ⟨aJ, aV, hm⟩ := zAs hm
     refine zAa (zAj rfl rfl aC (OP.call rfl (zAq (vs := [(IV aA.Kind), (IV aA.Value)]) zOG ⟨rfl, rfl, trivial⟩) (zJP _ aA.Kind aA.Value aV) ?_))
     rintro bV bM ⟨rfl, aW⟩
     refine ⟨_, rfl, ?_⟩
     have hL := hL.pushAll aW
     simp only [lA, lB, lC, lD] at hL
     refine zAa (zAj rfl rfl aC (zAk (v := (.bool (!aJ))) rfl (zCb rfl) ?_))
     refine OV (.bool (!aJ)) rfl (zAA rfl aC rfl) <| OW.nil ?_
     exact ⟨!aJ, hm, ⟨aD, aE, aF, rfl, hL⟩⟩
   intro s_j1 bW bN hJ hm
   unfold zDE at hm
   obtain ⟨bC, bD, bE, bF, hL⟩ := hJ
   refine zAn (t := s_j1) bF hm (fun aX hm => ?_) (fun aX hm => ?_)
   · refine CSR <| OV (.bool false) rfl (zAb) <| OW.nil <| zAx ?_
     obtain rfl := oi hm
     have hm := aN _ rfl
     obtain rfl := oi hm
     exact RR1 rfl rfl ⟨rfl, hL.fresh 2 rfl [] (by decide) (by decide) rfl⟩
   refine zAt <| zAl <| OV (IV s_l1) rfl (zAo bE) <| OV (IV (w64 (s_l1 + 1))) rfl (zBe rfl rfl) <| OV (IV (w64 (s_l1 + 1))) rfl (zAb) <| OW.nil ?_
   have hL := hL.sl [1, 2] rfl
   obtain rfl := oi hm
   exact ⟨_, rfl, ⟨bC, bD, rfl, hL⟩⟩
 refine zA0 ?_
 refine zBk ?_
 obtain rfl := oi hm
 exact ⟨_, rfl, ⟨aD, aE, aF, hL⟩⟩

theorem zLt (w0 : World) (a0 : Series) {v1 : Value} (h2 : rdL (· < w0.heap.size) w0 v1 a0.Races) (a1 : List Penalty) {v3 : Value} (h4 : rdL (· < w0.heap.size) w0 v3 a1) {r : Int} (hm : zFW a0 a1 = some r) :
    Calls Tryz.prog 46 #[(.agg #[(IV a0.Boats), (IV a0.Scheme), v1]), v3] w0 fun e w' => e = .returned (IV r) ∧ Fresh w0 w' [] := by
 unfold zFW at hm
 refine zAD (args := [(.agg #[(IV a0.Boats), (IV a0.Scheme), v1]), v3]) Tryz.func46 rfl rfl rfl ?_
 have hL := zAJ w0
 refine CSR ?_
 refine zAa (zC3 (cs := #[(IV a0.Boats), (IV a0.Scheme), v1]) hL rfl rfl rfl ?_)
 intro wd5 b6 hL
 refine OV (IV 0) rfl (zAb) <| ONS <| CSR <| OV (.agg #[(IV a0.Boats), (IV a0.Scheme), v1]) rfl (zAW (cs := [(IV a0.Boats), (IV a0.Scheme), v1]) U38 zA5 rfl rfl (hL.cellsB 0 rfl (o := 0) (l := [(IV a0.Boats), (IV a0.Scheme), v1]) (by intro j u hj; exact (by simpa using hj)))) ?_
 obtain ⟨x7, hx8, hm⟩ := zAs hm
 refine zAa (OP.call rfl (zAq (vs := [(.agg #[(IV a0.Boats), (IV a0.Scheme), v1])]) zOK ⟨rfl, trivial⟩) (zJO _ a0 (hL.rdS 1 rfl h2) hx8) ?_)
 rintro e9 aG ⟨rfl, aB⟩
 refine ⟨_, rfl, ?_⟩
 have hL := hL.pushAll aB
 simp only [lA, lB, lC, lD] at hL
 refine OV (.bool (!x7)) rfl (zCb rfl) <| OW.nil ?_
 refine zAn (t := !x7) rfl hm (fun aC hm => ?_) (fun aC hm => ?_)
 · refine CSR <| OV (IV 1) rfl (zAb) <| OW.nil <| zAx ?_
   obtain rfl := oi hm
   exact RR1 rfl rfl ⟨rfl, hL.fresh 1 rfl [] (by decide) (by decide) rfl⟩
 refine zAt <| zAF <| CSR <| OV (.agg #[(IV a0.Boats), (IV a0.Scheme), v1]) rfl (zAW (cs := [(IV a0.Boats), (IV a0.Scheme), v1]) U38 zA5 rfl rfl (hL.cellsB 0 rfl (o := 0) (l := [(IV a0.Boats), (IV a0.Scheme), v1]) (by intro j u hj; exact (by simpa using hj)))) <| OV v3 rfl (zAe) ?_
 obtain ⟨aA, aD, hm⟩ := zAs hm
 refine zAa (OP.call rfl (zAq (vs := [(.agg #[(IV a0.Boats), (IV a0.Scheme), v1]), v3]) zRA ⟨rfl, rfl, trivial⟩) (zLQ _ a0 (hL.rdS 1 rfl h2) a1 (hL.rdS 1 rfl h4) aD) ?_)
 rintro aI aH ⟨rfl, aE⟩
 refine ⟨_, rfl, ?_⟩
 have hL := hL.pushAll aE
 simp only [lA, lB, lC, lD] at hL
 refine OV (.bool (!aA)) rfl (zCb rfl) <| OW.nil ?_
 refine zAn (t := !aA) rfl hm (fun aF hm => ?_) (fun aF hm => ?_)
 · refine CSR <| OV (IV 2) rfl (zAb) <| OW.nil <| zAx ?_
   obtain rfl := oi hm
   exact RR1 rfl rfl ⟨rfl, hL.fresh 1 rfl [] (by decide) (by decide) rfl⟩
 refine zAt <| CSR <| OV (IV 0) rfl (zAb) <| OW.nil <| zAx ?_
 obtain rfl := oi hm
 exact RR1 rfl rfl ⟨rfl, hL.fresh 1 rfl [] (by decide) (by decide) rfl⟩

theorem zLu (w0 : World) (a0 : Series) {v1 : Value} (h2 : rdL (· < w0.heap.size) w0 v1 a0.Races) (a1 : List Penalty) {v3 : Value} (h4 : rdL (· < w0.heap.size) w0 v3 a1) {r : Series} (hm : zHM a0 a1 = some r) :
    Calls Tryz.prog 82 #[(.agg #[(IV a0.Boats), (IV a0.Scheme), v1]), v3] w0 fun e w' => ∃ (rv0 : Value) (rS0 : Nat → Prop), e = .returned (.agg #[(IV r.Boats), (IV r.Scheme), rv0]) ∧ Fresh w0 w' [Ent.own 101 rS0 rv0 r.Races] := by
 unfold zHM at hm
 refine zAD (args := [(.agg #[(IV a0.Boats), (IV a0.Scheme), v1]), v3]) Tryz.func82 rfl rfl rfl ?_
 have hL := zAJ w0
 refine CSR ?_
 refine zAa (zC3 (cs := #[(IV a0.Boats), (IV a0.Scheme), v1]) hL rfl rfl rfl ?_)
 intro wd5 b6 hL
 refine zAa (zBb (cs := #[(IV 0), (IV 0), (.slice none 0 0)]) hL zA5 rfl rfl ?_)
 intro wd7 b8 hL
 refine ONR ?_
 refine zAa (zM2 (α := Finish) Race hL U36 zBd rfl ?_)
 intro wd9 gP gR hL
 refine OV gP rfl (zAb) <| ONS <| CSR <| OV (IV 0) rfl (zAb) <| OW.nil ?_
 obtain ⟨jK, gQ, hm⟩ := zAs hm
 refine zAU (fun (s_l1 : (List Race) × Int) F w => ∃ aD bS, F 1 = v3 ∧ F 2 = (PV b6 0) ∧ F 4 = (PV b8 0) ∧ F 5 = aD ∧ F 6 = (IV s_l1.2) ∧ Hp w0 [Ent.own 101 bS aD s_l1.1, Ent.blk b8 38 #[(IV 0), (IV 0), (.slice none 0 0)], Ent.blk b6 38 #[(IV a0.Boats), (IV a0.Scheme), v1], zAg w0 w0.heap.size] w) (fun o => zBh o (fun x => some x) (fun s => zFK a0 a1 s) = some r) gQ hm ⟨gP, gR, rfl, rfl, rfl, rfl, rfl, hL⟩ ?_ ?_
 · intro s_l1 jL jI hJ hm
   have hm := zBD hm
   have hm : zFK a0 a1 s_l1 = some r := hm
   unfold zFK at hm
   obtain ⟨aD, bS, gS, gT, gU, gV, jM, hL⟩ := hJ
   refine zAF <| CSR <| OV (IV 0) rfl (zAb) <| OW.nil ?_
   obtain ⟨iL, dE, hm⟩ := zAs hm
   refine zAU (fun (s_l2 : (List Race) × Int) F w => ∃ aG, F 1 = v3 ∧ F 2 = (PV b6 0) ∧ F 4 = (PV b8 0) ∧ F 5 = aD ∧ F 7 = (IV s_l2.2) ∧ Hp w0 [Ent.own 101 aG aD s_l2.1, Ent.blk b8 38 #[(IV 0), (IV 0), (.slice none 0 0)], Ent.blk b6 38 #[(IV a0.Boats), (IV a0.Scheme), v1], zAg w0 w0.heap.size] w) (fun o => zBh o (fun x => some x) (fun s => zFH a0 a1 s) = some r) dE hm ⟨bS, gS, gT, gU, gV, rfl, hL⟩ ?_ ?_
   · intro s_l2 iM gW hJ hm
     have hm := zBD hm
     have hm : zFH a0 a1 s_l2 = some r := hm
     unfold zFH at hm
     obtain ⟨aG, eZ, fA, fB, fC, iN, hL⟩ := hJ
     refine zAF <| CSR <| OV (IV 0) rfl (zAb) <| OW.nil ?_
     obtain ⟨iO, dF, hm⟩ := zAs hm
     refine zAU (fun (s_l3 : (List Race) × Int) F w => ∃ aI, F 1 = v3 ∧ F 2 = (PV b6 0) ∧ F 4 = (PV b8 0) ∧ F 5 = aD ∧ F 10 = (IV s_l3.2) ∧ Hp w0 [Ent.own 101 aI aD s_l3.1, Ent.blk b8 38 #[(IV 0), (IV 0), (.slice none 0 0)], Ent.blk b6 38 #[(IV a0.Boats), (IV a0.Scheme), v1], zAg w0 w0.heap.size] w) (fun o => zBh o (fun x => some x) (fun s => zFF a0 s) = some r) dF hm ⟨aG, eZ, fA, fB, fC, rfl, hL⟩ ?_ ?_
     · intro s_l3 iP gX hJ hm
       have hm := zBD hm
       have hm : zFF a0 s_l3 = some r := hm
       unfold zFF at hm
       obtain ⟨aI, iQ, cI, cJ, fD, iR, hL⟩ := hJ
       refine CSR <| OV (PV b6 0) rfl (zAc (fsz := 1) 0 0 0 U38 rfl zAf rfl cI rfl) <| OV (IV a0.Boats) rfl (zAd U2 rfl rfl (hL.cellB 2 rfl rfl)) <| OV (PV b6 1) rfl (zAc (fsz := 1) 0 1 1 U38 rfl zAf rfl cI rfl) <| OV (IV a0.Scheme) rfl (zAd U2 rfl rfl (hL.cellB 2 rfl rfl)) <| OV aD rfl (zAo fD) <| OV (.agg #[(IV a0.Boats), (IV a0.Scheme), aD]) rfl (zCB zL7 (ps := [(0, (IV a0.Boats)), (1, (IV a0.Scheme)), (2, aD)]) ⟨⟨rfl, rfl⟩, ⟨rfl, rfl⟩, ⟨rfl, rfl⟩, trivial⟩ (by simp [Instr.fill, zBJ, zBA, zBi, zBK, zBo, zBc, (zAY (hL.rdO 0 rfl))])) ?_
       refine zAa (zA9 (l := [(IV a0.Boats), (IV a0.Scheme), aD]) (cs' := #[(IV a0.Boats), (IV a0.Scheme), aD]) hL 1 rfl zA5 cJ rfl (fc ⟨rfl, (fc ⟨rfl, (fc ⟨zBI (hL.rdO 0 rfl), fz⟩)⟩)⟩) rfl (nle rfl) rfl ?_)
       intro gY hL
       refine OW.nil <| zAx ?_
       obtain rfl := oi hm
       exact RRc rfl cJ (zCN U38 zA5 (hL.get 1 rfl) rfl) ⟨aD, aI, rfl, hL.fresh 3 rfl [0] (by decide) (by decide) rfl⟩
     intro s_l3 iS gZ cK hJ hm hA
     unfold zDg at hm
     obtain ⟨aI, aJ, bF, bG, aQ, aK, hL⟩ := hJ
     refine zAF <| CSR <| OV (IV s_l3.2) rfl (zAo aK) <| OV v3 rfl (zAo aJ) <| OV (IV (a1.length : Int)) rfl (zA3 U39 rfl (hL.rdS 3 rfl h4)) <| OV (.bool (decide (s_l3.2 < (a1.length : Int)))) rfl (zBE rfl rfl) <| OW.nil ?_
     refine zAn (t := decide (s_l3.2 < (a1.length : Int))) rfl hm (fun dG hm => ?_) (fun dG hm => ?_)
     · refine zAt ?_
       refine zAM (fun (s_j1 : (List Race)) F w => ∃ bH, F 1 = v3 ∧ F 2 = (PV b6 0) ∧ F 4 = (PV b8 0) ∧ F 5 = aD ∧ F 10 = (IV s_l3.2) ∧ Hp w0 [Ent.own 101 bH aD s_j1, Ent.blk b8 38 #[(IV 0), (IV 0), (.slice none 0 0)], Ent.blk b6 38 #[(IV a0.Boats), (IV a0.Scheme), v1], zAg w0 w0.heap.size] w) (fun s_j1 => zHv s_l3 s_j1 = some cK) ?_ ?_
       · refine zBG (fun (s_j2 : (List Race)) F w => ∃ bI, F 1 = v3 ∧ F 2 = (PV b6 0) ∧ F 4 = (PV b8 0) ∧ F 5 = aD ∧ F 10 = (IV s_l3.2) ∧ Hp w0 [Ent.own 101 bI aD s_j2, Ent.blk b8 38 #[(IV 0), (IV 0), (.slice none 0 0)], Ent.blk b6 38 #[(IV a0.Boats), (IV a0.Scheme), v1], zAg w0 w0.heap.size] w) (fun s_j2 => zFG s_l3 s_j2 = some cK) ?_ ?_
         · refine CSR <| OV v3 rfl (zAo aJ) <| OV (IV s_l3.2) rfl (zAo aK) ?_
           obtain ⟨aB, dH, hm⟩ := zAs hm
           obtain ⟨dI, bT⟩ := zAZ dH
           obtain ⟨fE, fF, bA⟩ := zAC (hL.rdS 3 rfl h4) dI bT
           refine OV (.pointer (some ⟨fE, fF, none⟩)) rfl (zA1 U39 zAX rfl rfl bA) <| OV (.agg #[(IV aB.Race), (IV aB.Boat), (IV aB.Kind), (IV aB.Value)]) rfl (zAW (cs := [(IV aB.Race), (IV aB.Boat), (IV aB.Kind), (IV aB.Value)]) U49 zAX rfl rfl (zAv (hL.rdS 3 rfl h4) bA bT)) ?_
           refine zAa (zBb (cs := #[(IV 0), (IV 0), (IV 0), (IV 0)]) hL zAX rfl rfl ?_)
           intro hB aL hL
           refine zAa (zA9 (l := [(IV aB.Race), (IV aB.Boat), (IV aB.Kind), (IV aB.Value)]) (cs' := #[(IV aB.Race), (IV aB.Boat), (IV aB.Kind), (IV aB.Value)]) hL 0 rfl zAX rfl rfl (fc ⟨rfl, (fc ⟨rfl, (fc ⟨rfl, (fc ⟨rfl, fz⟩)⟩)⟩)⟩) rfl (nle rfl) rfl ?_)
           intro hC hL
           refine ONR <| OV (PV aL 2) rfl (zAc (fsz := 1) 0 2 2 U49 rfl zAf rfl rfl rfl) <| OV (IV aB.Kind) rfl (zAd U2 rfl rfl (hL.cellB 0 rfl rfl)) <| OV (.bool (aB.Kind == 1)) rfl (zBv rfl rfl) <| OW.nil ?_
           refine zAn (t := aB.Kind == 1) rfl hm (fun dJ hm => ?_) (fun dJ hm => ?_)
           · obtain ⟨hD, hL, bU⟩ := hL.freeze 1 rfl
             simp only [lC, lD] at hL
             refine zBW zAQ ?_
             have hL := hL.call (zA8 _)
             refine DW.pre (fuel := 1) (fin := bma 15 16383) (C := fun w' => Mod zBO _ w') [0, 1, 2, 3, 4, 5, 6, 7, 8, 9, 10, 11, 12, 13] (Mod.refl _ _) (by kernel_rfl) (by kernel_rfl) ?_
             refine QV aD rfl rfl (fun w' hm' => zAo aQ) <| QV (PV aL 0) rfl rfl (fun w' hm' => zAc (fsz := 1) 0 0 0 U49 rfl zAf rfl rfl rfl) <| QV (IV aB.Race) rfl rfl (fun w' hm' => zAd U2 rfl rfl ((hL.call hm').cellB 0 rfl rfl)) ?_
             obtain ⟨bJ, dK, hm⟩ := zAs hm
             obtain ⟨dL, bV⟩ := zAZ dK
             obtain ⟨cM, aR, fG, aO, bW, bX, dM⟩ := zCp bU.1.rdL dL bV
             refine QV (.pointer (some ⟨cM, aR, none⟩)) rfl rfl (fun w' hm' => zA1 U36 zBd rfl rfl aO) <| QV (.pointer (some ⟨cM, aR, none⟩)) rfl rfl (fun w' hm' => zAc (fsz := 1) aR 0 aR zIJ rfl zCr rfl rfl rfl) <| QV fG rfl rfl (fun w' hm' => zAd U99 rfl rfl ((hL.call hm').cellF 1 rfl bW bX)) <| QV (PV aL 1) rfl rfl (fun w' hm' => zAc (fsz := 1) 0 1 1 U49 rfl zAf rfl rfl rfl) <| QV (IV aB.Boat) rfl rfl (fun w' hm' => zAd U2 rfl rfl ((hL.call hm').cellB 0 rfl rfl)) <| QV (PV aL 1) rfl rfl (fun w' hm' => zAc (fsz := 1) 0 1 1 U49 rfl zAf rfl rfl rfl) <| QV (IV aB.Boat) rfl rfl (fun w' hm' => zAd U2 rfl rfl ((hL.call hm').cellB 0 rfl rfl)) <| QV (PV aL 3) rfl rfl (fun w' hm' => zAc (fsz := 1) 0 3 3 U49 rfl zAf rfl rfl rfl) <| QV (IV aB.Value) rfl rfl (fun w' hm' => zAd U2 rfl rfl ((hL.call hm').cellB 0 rfl rfl)) <| QV (.agg #[(IV aB.Boat), (IV aB.Value), (IV 0)]) rfl rfl (fun w' hm' => zCB zKi (ps := [(0, (IV aB.Boat)), (1, (IV aB.Value))]) ⟨⟨rfl, rfl⟩, ⟨rfl, rfl⟩, trivial⟩ (by simp [Instr.fill, zBJ, zBA, zBi, zBK, zBo, zBc])) ?_
             obtain ⟨iT, dN, hm⟩ := zAs hm
             obtain ⟨dO, bY⟩ := zAZ dN
             obtain ⟨fH, fI, bB⟩ := zAC (hL.rdF 1 rfl dM) dO bY
             refine QV (.pointer (some ⟨fH, fI, none⟩)) rfl rfl (fun w' hm' => zA1 U99 zAP rfl rfl bB) ?_
             refine QW.nil ?_
             intro hE hmod
             have hL := hL.call hmod
             have dP := hL.cellF 1 rfl bW bX
             have hL := hL.thaw 1 rfl bU
             simp only [lC, lD] at hL
             refine zJX 14 rfl (by kernel_rfl) (zKU (α := Finish) (bJ.Finishes.set (aB.Boat : Int).toNat (Finish.mk aB.Boat aB.Value 0)) (Race.mk (bJ.Finishes.set (aB.Boat : Int).toNat (Finish.mk aB.Boat aB.Value 0))) rfl hL 1 rfl aO bV dP (fun E2 S1 hL hK => zLf (l := [(IV aB.Boat), (IV aB.Value), (IV 0)]) (Finish.mk aB.Boat aB.Value 0) hL 0 rfl zAP bB bY rfl rfl rfl hK) ?_)
             intro hF fJ hL dQ dR
             simp only [lC, lD] at hL
             obtain ⟨hG, hL, dS, hH, hI, hM⟩ := hL.freezeAt (α := Finish) 1 rfl aO dR dQ
             simp only [lC, lD] at hL
             refine zBu (by kernel_rfl) ?_
             have hL := hL.thaw 1 rfl dS
             have hL := hL.sl [1, 2, 3, 4] rfl
             exact ⟨s_l3.1.set (aB.Race : Int).toNat (Race.mk (bJ.Finishes.set (aB.Boat : Int).toNat (Finish.mk aB.Boat aB.Value 0))), hm, ⟨fJ, aJ, bF, bG, aQ, aK, hL⟩⟩
           refine zAt ?_
           have hL := hL.sl [1, 2, 3, 4] rfl
           exact ⟨s_l3.1, hm, ⟨aI, aJ, bF, bG, aQ, aK, hL⟩⟩
         intro s_j2 iU hN hJ hm
         unfold zFG at hm
         obtain ⟨bI, fK, fL, fM, fN, fO, hL⟩ := hJ
         exact ⟨s_j2, hm, ⟨bI, fK, fL, fM, fN, fO, hL⟩⟩
       intro s_j1 iV hO hJ hm
       unfold zHv at hm
       obtain ⟨bH, fP, fQ, fR, fS, fT, hL⟩ := hJ
       refine zAl <| OV (IV s_l3.2) rfl (zAo fT) <| OV (IV (w64 (s_l3.2 + 1))) rfl (zBe rfl rfl) <| OV (IV (w64 (s_l3.2 + 1))) rfl (zAb) <| OW.nil ?_
       obtain rfl := oi hm
       exact ⟨_, rfl, ⟨bH, fP, fQ, fR, fS, rfl, hL⟩⟩
     refine zA0 ?_
     refine zBk ?_
     obtain rfl := oi hm
     exact ⟨_, rfl, ⟨aI, aJ, bF, bG, aQ, aK, hL⟩⟩
   intro s_l2 iW hP bK hJ hm hQ
   unfold zDh at hm
   obtain ⟨aG, aM, bL, bM, aS, aN, hL⟩ := hJ
   refine zAF <| CSR <| OV (IV s_l2.2) rfl (zAo aN) <| OV v3 rfl (zAo aM) <| OV (IV (a1.length : Int)) rfl (zA3 U39 rfl (hL.rdS 3 rfl h4)) <| OV (.bool (decide (s_l2.2 < (a1.length : Int)))) rfl (zBE rfl rfl) <| OW.nil ?_
   refine zAn (t := decide (s_l2.2 < (a1.length : Int))) rfl hm (fun dT hm => ?_) (fun dT hm => ?_)
   · refine zAt ?_
     refine zAM (fun (s_j3 : (List Race)) F w => ∃ bN, F 1 = v3 ∧ F 2 = (PV b6 0) ∧ F 4 = (PV b8 0) ∧ F 5 = aD ∧ F 7 = (IV s_l2.2) ∧ Hp w0 [Ent.own 101 bN aD s_j3, Ent.blk b8 38 #[(IV 0), (IV 0), (.slice none 0 0)], Ent.blk b6 38 #[(IV a0.Boats), (IV a0.Scheme), v1], zAg w0 w0.heap.size] w) (fun s_j3 => zHw s_l2 s_j3 = some bK) ?_ ?_
     · refine zBG (fun (s_j4 : (List Race)) F w => ∃ bO, F 1 = v3 ∧ F 2 = (PV b6 0) ∧ F 4 = (PV b8 0) ∧ F 5 = aD ∧ F 7 = (IV s_l2.2) ∧ Hp w0 [Ent.own 101 bO aD s_j4, Ent.blk b8 38 #[(IV 0), (IV 0), (.slice none 0 0)], Ent.blk b6 38 #[(IV a0.Boats), (IV a0.Scheme), v1], zAg w0 w0.heap.size] w) (fun s_j4 => zFI s_l2 s_j4 = some bK) ?_ ?_
       · refine CSR <| OV v3 rfl (zAo aM) <| OV (IV s_l2.2) rfl (zAo aN) ?_
         obtain ⟨aA, dU, hm⟩ := zAs hm
         obtain ⟨dV, bZ⟩ := zAZ dU
         obtain ⟨fU, fV, bC⟩ := zAC (hL.rdS 3 rfl h4) dV bZ
         refine OV (.pointer (some ⟨fU, fV, none⟩)) rfl (zA1 U39 zAX rfl rfl bC) <| OV (.agg #[(IV aA.Race), (IV aA.Boat), (IV aA.Kind), (IV aA.Value)]) rfl (zAW (cs := [(IV aA.Race), (IV aA.Boat), (IV aA.Kind), (IV aA.Value)]) U49 zAX rfl rfl (zAv (hL.rdS 3 rfl h4) bC bZ)) ?_
         refine zAa (zBb (cs := #[(IV 0), (IV 0), (IV 0), (IV 0)]) hL zAX rfl rfl ?_)
         intro hR aE hL
         refine zAa (zA9 (l := [(IV aA.Race), (IV aA.Boat), (IV aA.Kind), (IV aA.Value)]) (cs' := #[(IV aA.Race), (IV aA.Boat), (IV aA.Kind), (IV aA.Value)]) hL 0 rfl zAX rfl rfl (fc ⟨rfl, (fc ⟨rfl, (fc ⟨rfl, (fc ⟨rfl, fz⟩)⟩)⟩)⟩) rfl (nle rfl) rfl ?_)
         intro hT hL
         refine ONS ?_
         obtain ⟨dW, hL, cA⟩ := hL.freeze 1 rfl
         simp only [lC, lD] at hL
         refine zDG (fun w' => Hp w0 [Ent.blk aE 49 #[(IV aA.Race), (IV aA.Boat), (IV aA.Kind), (IV aA.Value)], zA2 dW aG, Ent.blk b8 38 #[(IV 0), (IV 0), (.slice none 0 0)], Ent.blk b6 38 #[(IV a0.Boats), (IV a0.Scheme), v1], zAg w0 w0.heap.size] w') zAQ ?_
         have hL := hL.call (zA8 _)
         have hS := (hL.sl [0, 1, 2, 3, 4] rfl)
         refine zAw 0 rfl (by kernel_rfl) rfl rfl hS (zAp (v := aD) (fun w' hS' => zAo aS)) ?_
         have hS := (hL.sl [0, 1, 2, 3, 4] rfl)
         refine zAw 1 rfl (by kernel_rfl) rfl rfl hS (zAp (v := (PV aE 0)) (fun w' hS' => zAc (fsz := 1) 0 0 0 U49 rfl zAf rfl rfl rfl)) ?_
         have hS := (hL.sl [0, 1, 2, 3, 4] rfl)
         refine zAw 2 rfl (by kernel_rfl) rfl rfl hS (zAp (v := (IV aA.Race)) (fun w' hS' => zAd U2 rfl rfl (hS'.cellB 0 rfl rfl))) ?_
         have hS := (hL.sl [0, 1, 2, 3, 4] rfl)
         obtain ⟨iX, dX, hm⟩ := zAs hm
         obtain ⟨dY, dZ⟩ := zAZ dX
         obtain ⟨cN, aT, fW, dC, eA, eB, cB⟩ := zCp cA.1.rdL dY dZ
         refine zAw 3 rfl (by kernel_rfl) rfl rfl hS (zAp (v := (.pointer (some ⟨cN, aT, none⟩))) (fun w' hS' => zA1 U36 zBd rfl rfl dC)) ?_
         have hS := (hL.sl [0, 1, 2, 3, 4] rfl)
         refine zAw 4 rfl (by kernel_rfl) rfl rfl hS (zAp (v := (.pointer (some ⟨cN, aT, none⟩))) (fun w' hS' => zAc (fsz := 1) aT 0 aT zIJ rfl zCr rfl rfl rfl)) ?_
         have hS := (hL.sl [0, 1, 2, 3, 4] rfl)
         refine zAw 5 rfl (by kernel_rfl) rfl rfl hS (zAp (v := fW) (fun w' hS' => zAd U99 rfl rfl (hS'.cellF 1 rfl eA eB))) ?_
         have hS := (hL.sl [0, 1, 2, 3, 4] rfl)
         refine zAw 6 rfl (by kernel_rfl) rfl rfl hS (zAp (v := (PV aE 1)) (fun w' hS' => zAc (fsz := 1) 0 1 1 U49 rfl zAf rfl rfl rfl)) ?_
         have hS := (hL.sl [0, 1, 2, 3, 4] rfl)
         refine zAw 7 rfl (by kernel_rfl) rfl rfl hS (zAp (v := (IV aA.Boat)) (fun w' hS' => zAd U2 rfl rfl (hS'.cellB 0 rfl rfl))) ?_
         have hS := (hL.sl [0, 1, 2, 3, 4] rfl)
         obtain ⟨aC, eC, hm⟩ := zAs hm
         obtain ⟨eD, cC⟩ := zAZ eC
         obtain ⟨fX, fY, bD⟩ := zAC (hL.rdF 1 rfl cB) eD cC
         refine zAw 8 rfl (by kernel_rfl) rfl rfl hS (zAp (v := (.pointer (some ⟨fX, fY, none⟩))) (fun w' hS' => zA1 U99 zAP rfl rfl bD)) ?_
         have hS := (hL.sl [0, 1, 2, 3, 4] rfl)
         refine zAw 9 rfl (by kernel_rfl) rfl rfl hS (zAp (v := (.agg #[(IV aC.Boat), (IV aC.Code), (IV aC.Time)])) (fun w' hS' => zAW (cs := [(IV aC.Boat), (IV aC.Code), (IV aC.Time)]) zFd zAP rfl rfl (zAv (hS'.rdF 1 rfl cB) bD cC))) ?_
         refine zAT 10 rfl (by kernel_rfl) (zBb (cs := #[(IV 0), (IV 0), (IV 0)]) hL zAP rfl rfl ?_)
         intro hU aU hL
         refine ⟨(hL.sl [1, 2, 3, 4, 5] rfl), ?_⟩
         refine zAT 11 rfl (by kernel_rfl) (zA9 (l := [(IV aC.Boat), (IV aC.Code), (IV aC.Time)]) (cs' := #[(IV aC.Boat), (IV aC.Code), (IV aC.Time)]) hL 0 rfl zAP rfl rfl (fc ⟨rfl, (fc ⟨rfl, (fc ⟨rfl, fz⟩)⟩)⟩) rfl (nle rfl) rfl ?_)
         intro hV hL
         refine ⟨(hL.sl [1, 2, 3, 4, 5] rfl), ?_⟩
         refine zDB (by kernel_rfl) ?_
         have hL := hL.thaw 2 rfl cA
         refine zAM (fun (s_j5 : Bool) F w => F 1 = v3 ∧ F 2 = (PV b6 0) ∧ F 4 = (PV b8 0) ∧ F 5 = aD ∧ F 7 = (IV s_l2.2) ∧ F 8 = (PV aE 0) ∧ F 9 = (PV aU 0) ∧ F 58 = (.bool s_j5) ∧ Hp w0 [Ent.blk aU 103 #[(IV aC.Boat), (IV aC.Code), (IV aC.Time)], Ent.blk aE 49 #[(IV aA.Race), (IV aA.Boat), (IV aA.Kind), (IV aA.Value)], Ent.own 101 aG aD s_l2.1, Ent.blk b8 38 #[(IV 0), (IV 0), (.slice none 0 0)], Ent.blk b6 38 #[(IV a0.Boats), (IV a0.Scheme), v1], zAg w0 w0.heap.size] w) (fun s_j5 => zFJ s_l2 aA aC s_j5 = some bK) ?_ ?_
         · refine zAl <| OV (PV aE 2) rfl (zAc (fsz := 1) 0 2 2 U49 rfl zAf rfl rfl rfl) <| OV (IV aA.Kind) rfl (zAd U2 rfl rfl (hL.cellB 1 rfl rfl)) <| OV (.bool (aA.Kind == 2)) rfl (zBv rfl rfl) <| OV (.bool (aA.Kind == 2)) rfl (zAe) ?_
           refine zAH hm (fun aF hm => ?_) (fun aF hm => ?_)
           · refine zAa (zAj rfl rfl aF (zAk (v := (.agg #[(IV aC.Boat), (IV aC.Code), (IV aC.Time)])) rfl (zAW (cs := [(IV aC.Boat), (IV aC.Code), (IV aC.Time)]) zFd zAP rfl rfl (hL.cellsB 0 rfl (o := 0) (l := [(IV aC.Boat), (IV aC.Code), (IV aC.Time)]) (by intro j u hj; exact (by simpa using hj)))) ?_))
             obtain ⟨cO, eE, hm⟩ := zAs hm
             refine zAa (zAj rfl rfl aF (OP.call rfl (zAq (vs := [(.agg #[(IV aC.Boat), (IV aC.Code), (IV aC.Time)])]) zNB ⟨rfl, trivial⟩) (zJ0 _ aC eE) ?_))
             rintro iY hW ⟨rfl, eF⟩
             refine ⟨_, rfl, ?_⟩
             have hL := hL.pushAll eF
             simp only [lA, lB, lC, lD] at hL
             refine OV (.bool cO) rfl (zAz rfl aF rfl) <| OW.nil ?_
             exact ⟨cO, hm, ⟨aM, bL, bM, aS, aN, rfl, rfl, rfl, hL⟩⟩
           refine zAa (zAh rfl rfl aF rfl ?_)
           refine zAa (zAh rfl rfl aF rfl ?_)
           refine OV (.bool false) rfl (zAA rfl aF rfl) <| OW.nil ?_
           exact ⟨false, hm, ⟨aM, bL, bM, aS, aN, rfl, rfl, rfl, hL⟩⟩
         intro s_j5 iZ hX hJ hm
         unfold zFJ at hm
         obtain ⟨cP, cQ, cR, bP, cS, bQ, fZ, gA, hL⟩ := hJ
         refine zAn (t := s_j5) gA hm (fun eG hm => ?_) (fun eG hm => ?_)
         · obtain ⟨hY, hL, cD⟩ := hL.freeze 2 rfl
           simp only [lC, lD] at hL
           refine zDG (fun w' => Hp w0 [Ent.blk aU 103 #[(IV aC.Boat), (IV aC.Code), (IV aC.Time)], Ent.blk aE 49 #[(IV aA.Race), (IV aA.Boat), (IV aA.Kind), (IV aA.Value)], Ent.blk b8 38 #[(IV 0), (IV 0), (.slice none 0 0)], Ent.blk b6 38 #[(IV a0.Boats), (IV a0.Scheme), v1], zAg w0 w0.heap.size] w') zAQ ?_
           have hL := hL.call (zA8 _)
           have hS := (hL.sl [0, 1, 3, 4, 5] rfl)
           refine zAw 0 rfl (by kernel_rfl) rfl rfl hS (zAp (v := aD) (fun w' hS' => zAo bP)) ?_
           have hS := (hL.sl [0, 1, 3, 4, 5] rfl)
           refine zAw 1 rfl (by kernel_rfl) rfl rfl hS (zAp (v := (PV aE 0)) (fun w' hS' => zAc (fsz := 1) 0 0 0 U49 rfl zAf rfl bQ rfl)) ?_
           have hS := (hL.sl [0, 1, 3, 4, 5] rfl)
           refine zAw 2 rfl (by kernel_rfl) rfl rfl hS (zAp (v := (IV aA.Race)) (fun w' hS' => zAd U2 rfl rfl (hS'.cellB 1 rfl rfl))) ?_
           have hS := (hL.sl [0, 1, 3, 4, 5] rfl)
           obtain ⟨bR, eH, hm⟩ := zAs hm
           obtain ⟨eI, cE⟩ := zAZ eH
           obtain ⟨cT, aV, gB, aP, cF, cG, eJ⟩ := zCp cD.1.rdL eI cE
           refine zAw 3 rfl (by kernel_rfl) rfl rfl hS (zAp (v := (.pointer (some ⟨cT, aV, none⟩))) (fun w' hS' => zA1 U36 zBd rfl rfl aP)) ?_
           have hS := (hL.sl [0, 1, 3, 4, 5] rfl)
           refine zAw 4 rfl (by kernel_rfl) rfl rfl hS (zAp (v := (.pointer (some ⟨cT, aV, none⟩))) (fun w' hS' => zAc (fsz := 1) aV 0 aV zIJ rfl zCr rfl rfl rfl)) ?_
           have hS := (hL.sl [0, 1, 3, 4, 5] rfl)
           refine zAw 6 rfl (by kernel_rfl) rfl rfl hS (zAp (v := (PV aE 1)) (fun w' hS' => zAc (fsz := 1) 0 1 1 U49 rfl zAf rfl bQ rfl)) ?_
           have hS := (hL.sl [0, 1, 3, 4, 5] rfl)
           refine zAw 7 rfl (by kernel_rfl) rfl rfl hS (zAp (v := (IV aA.Boat)) (fun w' hS' => zAd U2 rfl rfl (hS'.cellB 1 rfl rfl))) ?_
           have hS := (hL.sl [0, 1, 3, 4, 5] rfl)
           refine zAw 8 rfl (by kernel_rfl) rfl rfl hS (zAp (v := (PV aU 2)) (fun w' hS' => zAc (fsz := 1) 0 2 2 zFd rfl zAf rfl fZ rfl)) ?_
           have hS := (hL.sl [0, 1, 3, 4, 5] rfl)
           refine zAw 9 rfl (by kernel_rfl) rfl rfl hS (zAp (v := (IV aC.Time)) (fun w' hS' => zAd U2 rfl rfl (hS'.cellB 0 rfl rfl))) ?_
           have hS := (hL.sl [0, 1, 3, 4, 5] rfl)
           refine zAw 10 rfl (by kernel_rfl) rfl rfl hS (zAp (v := (PV aE 3)) (fun w' hS' => zAc (fsz := 1) 0 3 3 U49 rfl zAf rfl bQ rfl)) ?_
           have hS := (hL.sl [0, 1, 3, 4, 5] rfl)
           refine zAw 11 rfl (by kernel_rfl) rfl rfl hS (zAp (v := (IV aA.Value)) (fun w' hS' => zAd U2 rfl rfl (hS'.cellB 1 rfl rfl))) ?_
           have hS := (hL.sl [0, 1, 3, 4, 5] rfl)
           refine zAw 12 rfl (by kernel_rfl) rfl rfl hS (zAp (v := (IV (w64 (aC.Time + aA.Value)))) (fun w' hS' => zBe rfl rfl)) ?_
           have hS := (hL.sl [0, 1, 3, 4, 5] rfl)
           refine zAw 13 rfl (by kernel_rfl) rfl rfl hS (zAp (v := (IV (min 1000000000 (w64 (aC.Time + aA.Value))))) (fun w' hS' => zKP rfl rfl)) ?_
           refine zAT 5 rfl (by kernel_rfl) (zAk (v := gB) rfl (zAd U99 rfl rfl (hL.cellF 2 rfl cF cG)) ?_)
           refine ⟨(hL.sl [0, 1, 3, 4, 5] rfl), ?_⟩
           have hS := (hL.sl [0, 1, 3, 4, 5] rfl)
           obtain ⟨aH, eK, hm⟩ := zAs hm
           obtain ⟨eL, cH⟩ := zAZ eK
           obtain ⟨cU, aW, bE⟩ := zAC (hL.rdF 2 rfl eJ) eL cH
           refine zAw 14 rfl (by kernel_rfl) rfl rfl hS (zAp (v := (.pointer (some ⟨cU, aW, none⟩))) (fun w' hS' => zA1 U99 zAP rfl rfl bE)) ?_
           have hS := (hL.sl [0, 1, 3, 4, 5] rfl)
           refine zAw 15 rfl (by kernel_rfl) rfl rfl hS (zAp (v := (.pointer (some ⟨cU, aW + 2, none⟩))) (fun w' hS' => zAc (fsz := 1) aW 2 (aW + 2) zFd rfl zAf rfl rfl rfl)) ?_
           have eM := hL.cellF 2 rfl cF cG
           have hL := hL.thaw 2 rfl cD
           simp only [lC, lD] at hL
           refine zAT 16 rfl (by kernel_rfl) (zKU (α := Finish) (bR.Finishes.set (aA.Boat : Int).toNat (Finish.mk aH.Boat aH.Code (min 1000000000 (w64 (aC.Time + aA.Value))))) (Race.mk (bR.Finishes.set (aA.Boat : Int).toNat (Finish.mk aH.Boat aH.Code (min 1000000000 (w64 (aC.Time + aA.Value)))))) rfl hL 2 rfl aP cE eM (fun E2 S1 hL hK => zBV (j := 2) (Finish.mk aH.Boat aH.Code (min 1000000000 (w64 (aC.Time + aA.Value)))) hL 0 rfl zAf bE cH rfl rfl rfl rfl rfl rfl hK) ?_)
           intro hZ gC hL eN eO
           simp only [lC, lD] at hL
           obtain ⟨iA, hL, eP, iB, iC, iD⟩ := hL.freezeAt (α := Finish) 2 rfl aP eO eN
           simp only [lC, lD] at hL
           refine ⟨(hL.sl [0, 1, 3, 4, 5] rfl), ?_⟩
           refine zDB (by kernel_rfl) ?_
           have hL := hL.thaw 2 rfl eP
           have hL := hL.sl [2, 3, 4, 5] rfl
           exact ⟨s_l2.1.set (aA.Race : Int).toNat (Race.mk (bR.Finishes.set (aA.Boat : Int).toNat (Finish.mk aH.Boat aH.Code (min 1000000000 (w64 (aC.Time + aA.Value)))))), hm, ⟨gC, cP, cQ, cR, bP, cS, hL⟩⟩
         refine zAt ?_
         have hL := hL.sl [2, 3, 4, 5] rfl
         exact ⟨s_l2.1, hm, ⟨aG, cP, cQ, cR, bP, cS, hL⟩⟩
       intro s_j4 jA iE hJ hm
       unfold zFI at hm
       obtain ⟨bO, gD, gE, gF, gG, gH, hL⟩ := hJ
       exact ⟨s_j4, hm, ⟨bO, gD, gE, gF, gG, gH, hL⟩⟩
     intro s_j3 jB iF hJ hm
     unfold zHw at hm
     obtain ⟨bN, gI, gJ, gK, gL, gM, hL⟩ := hJ
     refine zAl <| OV (IV s_l2.2) rfl (zAo gM) <| OV (IV (w64 (s_l2.2 + 1))) rfl (zBe rfl rfl) <| OV (IV (w64 (s_l2.2 + 1))) rfl (zAb) <| OW.nil ?_
     obtain rfl := oi hm
     exact ⟨_, rfl, ⟨bN, gI, gJ, gK, gL, rfl, hL⟩⟩
   refine zA0 ?_
   refine zBk ?_
   obtain rfl := oi hm
   exact ⟨_, rfl, ⟨aG, aM, bL, bM, aS, aN, hL⟩⟩
 intro s_l1 jC iG jN hJ hm jJ
 unfold zFL at hm
 obtain ⟨aD, bS, cV, aX, cW, cX, aY, hL⟩ := hJ
 refine zAF <| CSR <| OV (IV s_l1.2) rfl (zAo aY) <| OV (PV b6 2) rfl (zAc (fsz := 1) 0 2 2 U38 rfl zCq rfl aX rfl) <| OV v1 rfl (zAd U36 rfl rfl (hL.cellB 2 rfl rfl)) <| OV (IV (a0.Races.length : Int)) rfl (zA3 U36 rfl (hL.rdS 3 rfl h2)) <| OV (.bool (decide (s_l1.2 < (a0.Races.length : Int)))) rfl (zBE rfl rfl) <| OW.nil ?_
 refine zAn (t := decide (s_l1.2 < (a0.Races.length : Int))) rfl hm (fun eQ hm => ?_) (fun eQ hm => ?_)
 · refine zAt <| zAF <| CW.block <| zAl <| OV aD rfl (zAo cX) ?_
   refine zAa (zBS ([] : List Finish) hL U99 zAP rfl (by decide) (by first | (simp [Instr.fill, madeCells, Value.cells, ev, upd, Flat.enc, Flat.sz]; done) | rfl | kernel_rfl) rfl rfl ?_)
   intro iH jD jE hL
   refine OV (PV b6 2) rfl (zAc (fsz := 1) 0 2 2 U38 rfl zCq rfl aX rfl) <| OV v1 rfl (zAd U36 rfl rfl (hL.cellB 3 rfl rfl)) <| OV (IV s_l1.2) rfl (zAo aY) ?_
   obtain ⟨cY, eR, hm⟩ := zAs hm
   obtain ⟨eS, eT⟩ := zAZ eR
   obtain ⟨cZ, aZ, gN, dD, eU, eV, eW⟩ := zCp h2 eS eT
   refine OV (.pointer (some ⟨cZ, aZ, none⟩)) rfl (zA1 U36 zBd rfl rfl dD) <| OV (.pointer (some ⟨cZ, aZ, none⟩)) rfl (zAc (fsz := 1) aZ 0 aZ zIJ rfl zCr rfl rfl rfl) <| OV gN rfl (zAd U99 rfl rfl (hL.cellS 4 rfl eU eV)) ?_
   obtain ⟨eX, hm⟩ := zEs hm
   refine zAa (zCA (ys := cY.Finishes) hL 0 rfl U99 zAP rfl rfl rfl (hL.rdS 4 rfl eW) eX (by decide) rfl ?_)
   intro iI dA jF hL
   refine OV (.agg #[dA]) rfl (zCB zKh (ps := [(0, dA)]) ⟨⟨rfl, rfl⟩, trivial⟩ (by simp [Instr.fill, zBJ, zBA, zBi, zBK, zBo, zBc, (zAY (hL.rdO 0 rfl))])) ?_
   refine zAa (zBP (Race.mk (([] : List Finish) ++ cY.Finishes)) rfl hL U36 zBd rfl rfl ?_)
   intro iJ jG jH hL
   obtain ⟨eY, hm⟩ := zEs hm
   have hL := hL.sl [1, 0, 2, 3, 4] rfl
   refine zAa (zEF Finish hL U36 zBd rfl rfl rfl eY (by decide) rfl ?_)
   intro iK dB gO hL
   refine OV dB rfl (zAb) <| OW.nil <| zAl <| OV (IV s_l1.2) rfl (zAo aY) <| OV (IV (w64 (s_l1.2 + 1))) rfl (zBe rfl rfl) <| OV (IV (w64 (s_l1.2 + 1))) rfl (zAb) <| OW.nil ?_
   obtain rfl := oi hm
   exact ⟨_, rfl, ⟨dB, gO, cV, aX, cW, rfl, rfl, hL⟩⟩
 refine zA0 ?_
 refine zBk ?_
 obtain rfl := oi hm
 exact ⟨_, rfl, ⟨aD, bS, cV, aX, cW, cX, aY, hL⟩⟩

theorem zK6 (w0 : World) (a0 : Int) (a1 : Int) {r : Int} (hm : zFi a0 a1 = some r) :
    Calls Tryz.prog 84 #[(IV a0), (IV a1)] w0 fun e w' => e = .returned (IV r) ∧ Fresh w0 w' [] := by
 unfold zFi at hm
 refine zAD (args := [(IV a0), (IV a1)]) Tryz.func84 rfl rfl rfl ?_
 have hL := zAJ w0
 refine CSR <| OV (IV 0) rfl (zAb) <| ONR <| OV (IV a0) rfl (zAe) <| OV (IV (w64 (20 * a0))) rfl (zHP rfl rfl) <| OV (IV a1) rfl (zAe) <| OV (IV (w64 ((w64 (20 * a0)) * a1))) rfl (zHP rfl rfl) <| OV (IV (w64 ((w64 ((w64 (20 * a0)) * a1)) + 100))) rfl (zBe rfl rfl) <| OV (IV (w64 ((w64 ((w64 ((w64 (20 * a0)) * a1)) + 100)).tdiv 200))) rfl (zL1 rfl rfl (by decide)) <| OV (IV (w64 ((w64 ((w64 ((w64 (20 * a0)) * a1)) + 100)).tdiv 200))) rfl (zAb) <| OW.nil <| zAx ?_
 obtain rfl := oi hm
 exact RR1 rfl rfl ⟨rfl, hL.fresh 0 rfl [] (by decide) (by decide) rfl⟩

theorem zLR (w0 : World) (a0 : Series) {v1 : Value} (h2 : rdL (· < w0.heap.size) w0 v1 a0.Races) (a1 : Int) (a2 : Int) {r : Int} (hm : zH7 a0 a1 a2 = some r) :
    Calls Tryz.prog 85 #[(.agg #[(IV a0.Boats), (IV a0.Scheme), v1]), (IV a1), (IV a2)] w0 fun e w' => e = .returned (IV r) ∧ Fresh w0 w' [] := by
 unfold zH7 at hm
 refine zAD (args := [(.agg #[(IV a0.Boats), (IV a0.Scheme), v1]), (IV a1), (IV a2)]) Tryz.func85 rfl rfl rfl ?_
 have hL := zAJ w0
 refine CSR ?_
 refine zAa (zC3 (cs := #[(IV a0.Boats), (IV a0.Scheme), v1]) hL rfl rfl rfl ?_)
 intro wd3 b4 hL
 refine OV (IV 0) rfl (zAb) <| ONR ?_
 refine zAa (zBS ([] : List Finish) hL U99 zAP rfl (by decide) (by first | (simp [Instr.fill, madeCells, Value.cells, ev, upd, Flat.enc, Flat.sz]; done) | rfl | kernel_rfl) rfl rfl ?_)
 intro wd5 v6 S7 hL
 refine OV (PV b4 2) rfl (zAc (fsz := 1) 0 2 2 U38 rfl zCq rfl rfl rfl) <| OV v1 rfl (zAd U36 rfl rfl (hL.cellB 1 rfl rfl)) <| OV (IV a1) rfl (zAe) ?_
 obtain ⟨x8, ha9, hm⟩ := zAs hm
 obtain ⟨aJ, aK⟩ := zAZ ha9
 obtain ⟨aH, aB, aV, aG, aL, aM, aN⟩ := zCp h2 aJ aK
 refine OV (.pointer (some ⟨aH, aB, none⟩)) rfl (zA1 U36 zBd rfl rfl aG) <| OV (.pointer (some ⟨aH, aB, none⟩)) rfl (zAc (fsz := 1) aB 0 aB zIJ rfl zCr rfl rfl rfl) <| OV aV rfl (zAd U99 rfl rfl (hL.cellS 2 rfl aL aM)) ?_
 obtain ⟨aO, hm⟩ := zEs hm
 refine zAa (zCA (ys := x8.Finishes) hL 0 rfl U99 zAP rfl rfl rfl (hL.rdS 2 rfl aN) aO (by decide) rfl ?_)
 intro bA aA bD hL
 refine OV aA rfl (zAb) <| ONR <| OV aA rfl (zAe) <| OV (IV a2) rfl (zAe) <| OV (IV a2) rfl (zAe) <| OV (.agg #[(IV a2), (IV 4), (IV 0)]) rfl (zCB zKi (ps := [(0, (IV a2)), (1, (IV 4))]) ⟨⟨rfl, rfl⟩, ⟨rfl, rfl⟩, trivial⟩ (by simp [Instr.fill, zBJ, zBA, zBi, zBK, zBo, zBc])) ?_
 obtain ⟨bE, aP, hm⟩ := zAs hm
 obtain ⟨aQ, aE⟩ := zAZ aP
 obtain ⟨aW, aX, aC⟩ := zAC (hL.rdO 0 rfl) aQ aE
 refine OV (.pointer (some ⟨aW, aX, none⟩)) rfl (zA1 U99 zAP rfl rfl aC) ?_
 refine zAa (zLf (l := [(IV a2), (IV 4), (IV 0)]) (Finish.mk a2 4 0) hL 0 rfl zAP aC aE rfl rfl rfl ?_)
 intro bB hL
 refine ONR <| OV aA rfl (zAe) <| OV (.agg #[aA]) rfl (zCB zKh (ps := [(0, aA)]) ⟨⟨rfl, rfl⟩, trivial⟩ (by simp [Instr.fill, zBJ, zBA, zBi, zBK, zBo, zBc, (zAY (hL.rdO 0 rfl))])) <| OV (PV b4 1) rfl (zAc (fsz := 1) 0 1 1 U38 rfl zAf rfl rfl rfl) <| OV (IV a0.Scheme) rfl (zAd U2 rfl rfl (hL.cellB 1 rfl rfl)) ?_
 obtain ⟨bF, aR, hm⟩ := zAs hm
 refine zAa (OP.call rfl (zAq (vs := [(.agg #[aA]), (IV a0.Scheme)]) zIC ⟨rfl, rfl, trivial⟩) (zCe _ (Race.mk ((([] : List Finish) ++ x8.Finishes).set (a2 : Int).toNat (Finish.mk a2 4 0))) (hL.rdO 0 rfl) a0.Scheme aR) ?_)
 rintro bG bC ⟨bH, bI, rfl, aS⟩
 refine ⟨_, rfl, ?_⟩
 have hL := hL.pushAll aS
 simp only [lA, lB, lC, lD] at hL
 refine OV (IV a2) rfl (zAe) ?_
 obtain ⟨aI, aT, hm⟩ := zAs hm
 obtain ⟨aU, aF⟩ := zAZ aT
 obtain ⟨aY, aZ, aD⟩ := zAC (hL.rdO 0 rfl) aU aF
 refine OV (.pointer (some ⟨aY, aZ, none⟩)) rfl (zA1 U27 zAf rfl rfl aD) <| OV (IV aI) rfl (zAd U2 rfl rfl (zAv (hL.rdO 0 rfl) aD aF 0 _ rfl)) <| OV (IV aI) rfl (zAb) <| OW.nil <| zAx ?_
 obtain rfl := oi hm
 exact RR1 rfl rfl ⟨rfl, hL.fresh 3 rfl [] (by decide) (by decide) rfl⟩

theorem zJQ (w0 : World) (a0 : Series) {v1 : Value} (h2 : rdL (· < w0.heap.size) w0 v1 a0.Races) (a1 : List Penalty) {v3 : Value} (h4 : rdL (· < w0.heap.size) w0 v3 a1) {r : Table} (hm : zFq a0 a1 = some r) :
    Calls Tryz.prog 49 #[(.agg #[(IV a0.Boats), (IV a0.Scheme), v1]), v3] w0 fun e w' => ∃ (rv0 : Value) (rS0 : Nat → Prop), ∃ (rv1 : Value) (rS1 : Nat → Prop), e = .returned (.agg #[(IV r.Boats), rv0, rv1]) ∧ Fresh w0 w' [Ent.own 27 rS0 rv0 r.Points, Ent.own 27 rS1 rv1 r.Codes] := by
 unfold zFq at hm
 refine zAD (args := [(.agg #[(IV a0.Boats), (IV a0.Scheme), v1]), v3]) Tryz.func49 rfl rfl rfl ?_
 have hL := zAJ w0
 refine CSR ?_
 refine zAa (zC3 (cs := #[(IV a0.Boats), (IV a0.Scheme), v1]) hL rfl rfl rfl ?_)
 intro wd5 b6 hL
 refine zAa (zBb (cs := #[(IV 0), (.slice none 0 0), (.slice none 0 0)]) hL zBg rfl rfl ?_)
 intro wd7 b8 hL
 refine ONR <| OV (.agg #[(IV a0.Boats), (IV a0.Scheme), v1]) rfl (zAW (cs := [(IV a0.Boats), (IV a0.Scheme), v1]) U38 zA5 rfl rfl (hL.cellsB 1 rfl (o := 0) (l := [(IV a0.Boats), (IV a0.Scheme), v1]) (by intro j u hj; exact (by simpa using hj)))) <| OV v3 rfl (zAe) ?_
 obtain ⟨x9, iU, hm⟩ := zAs hm
 refine zAa (OP.call rfl (zAq (vs := [(.agg #[(IV a0.Boats), (IV a0.Scheme), v1]), v3]) zRB ⟨rfl, rfl, trivial⟩) (zLu _ a0 (hL.rdS 2 rfl h2) a1 (hL.rdS 2 rfl h4) iU) ?_)
 rintro lJ kZ ⟨aG, aZ, rfl, iV⟩
 refine ⟨_, rfl, ?_⟩
 have hL := hL.pushAll iV
 simp only [lA, lB, lC, lD] at hL
 refine zAa (zBb (cs := #[(IV 0), (IV 0), (.slice none 0 0)]) hL zA5 rfl rfl ?_)
 intro lE aJ hL
 refine zAa (zA9 (l := [(IV x9.Boats), (IV x9.Scheme), aG]) (cs' := #[(IV x9.Boats), (IV x9.Scheme), aG]) hL 0 rfl zA5 rfl rfl (fc ⟨rfl, (fc ⟨rfl, (fc ⟨zBI (hL.rdO 1 rfl), fz⟩)⟩)⟩) rfl (nle rfl) rfl ?_)
 intro lF hL
 refine ONR <| OV (.agg #[(IV x9.Boats), (IV x9.Scheme), aG]) rfl (zAW (cs := [(IV x9.Boats), (IV x9.Scheme), aG]) U38 zA5 rfl rfl (hL.cellsB 0 rfl (o := 0) (l := [(IV x9.Boats), (IV x9.Scheme), aG]) (by intro j u hj; exact (by simpa using hj)))) ?_
 obtain ⟨aD, iW, hm⟩ := zAs hm
 refine zAa (OP.call rfl (zAq (vs := [(.agg #[(IV x9.Boats), (IV x9.Scheme), aG])]) zRC ⟨rfl, trivial⟩) (zMe _ x9 (hL.rdO 1 rfl) iW) ?_)
 rintro lK lG ⟨aE, jZ, aF, aX, rfl, iX⟩
 refine ⟨_, rfl, ?_⟩
 have hL := hL.pushAll iX
 simp only [lA, lB, lC, lD] at hL
 refine OV (.tuple #[(.agg #[(IV aD.1.Boats), aE, aF]), (IV aD.2)]) rfl (zAe) <| OV (.agg #[(IV aD.1.Boats), aE, aF]) rfl (zA7 rfl rfl) <| OV (IV aD.2) rfl (zA7 rfl rfl) ?_
 refine zAa (zBb (cs := #[(IV 0), (.slice none 0 0), (.slice none 0 0)]) hL zBg rfl rfl ?_)
 intro lH aH hL
 refine zAa (zA9 (l := [(IV aD.1.Boats), aE, aF]) (cs' := #[(IV aD.1.Boats), aE, aF]) hL 0 rfl zBg rfl rfl (fc ⟨rfl, (fc ⟨zBI (hL.rdO 1 rfl), (fc ⟨zBI (hL.rdO 2 rfl), fz⟩)⟩)⟩) rfl (nle rfl) rfl ?_)
 intro lI hL
 refine OV (IV aD.2) rfl (zAb) <| ONS <| CSR <| OV (IV 0) rfl (zAb) <| OW.nil ?_
 obtain ⟨kA, eJ, hm⟩ := zAs hm
 refine zAU (fun (s_l1 : (List (List Int)) × Int) F w => ∃ aO, F 1 = v3 ∧ F 2 = (PV b6 0) ∧ F 4 = (PV b8 0) ∧ F 5 = (PV aJ 0) ∧ F 6 = (PV aH 0) ∧ F 8 = (IV s_l1.2) ∧ Hp w0 [Ent.blk aH 26 #[(IV aD.1.Boats), aE, aF], Ent.own 27 aO aE s_l1.1, Ent.own 27 aX aF aD.1.Codes, Ent.blk aJ 38 #[(IV x9.Boats), (IV x9.Scheme), aG], Ent.own 101 aZ aG x9.Races, Ent.blk b8 26 #[(IV 0), (.slice none 0 0), (.slice none 0 0)], Ent.blk b6 38 #[(IV a0.Boats), (IV a0.Scheme), v1], zAg w0 w0.heap.size] w) (fun o => zBh o (fun x => some x) (fun s => zGj aD s) = some r) eJ hm ⟨jZ, rfl, rfl, rfl, rfl, rfl, rfl, hL⟩ ?_ ?_
 · intro s_l1 kB iY hJ hm
   have hm := zBD hm
   have hm : zGj aD s_l1 = some r := hm
   unfold zGj at hm
   obtain ⟨aO, kC, kD, dE, kE, gG, kF, hL⟩ := hJ
   refine CSR <| OV (.agg #[(IV aD.1.Boats), aE, aF]) rfl (zAW (cs := [(IV aD.1.Boats), aE, aF]) U26 zBg rfl gG (hL.cellsB 0 rfl (o := 0) (l := [(IV aD.1.Boats), aE, aF]) (by intro j u hj; exact (by simpa using hj)))) ?_
   refine zAa (zA9 (l := [(IV aD.1.Boats), aE, aF]) (cs' := #[(IV aD.1.Boats), aE, aF]) hL 5 rfl zBg dE rfl (fc ⟨rfl, (fc ⟨zBI (hL.rdO 1 rfl), (fc ⟨zBI (hL.rdO 2 rfl), fz⟩)⟩)⟩) rfl (nle rfl) rfl ?_)
   intro iZ hL
   refine OW.nil <| zAx ?_
   obtain rfl := oi hm
   exact RRc rfl dE (zCN U26 zBg (hL.get 5 rfl) rfl) ⟨aE, aO, aF, aX, rfl, hL.fresh 7 rfl [1, 2] (by decide) (by decide) rfl⟩
 intro s_l1 kG jA dF hJ hm jB
 unfold zGr at hm
 obtain ⟨aO, dG, dH, dI, dJ, bN, bO, hL⟩ := hJ
 refine zAF <| CSR <| OV (IV s_l1.2) rfl (zAo bO) <| OV (PV aH 1) rfl (zAc (fsz := 1) 0 1 1 U26 rfl zBq rfl bN rfl) <| OV aE rfl (zAd U24 rfl rfl (hL.cellB 0 rfl rfl)) <| OV (IV (s_l1.1.length : Int)) rfl (zA3 U24 rfl (hL.rdO 1 rfl)) <| OV (.bool (decide (s_l1.2 < (s_l1.1.length : Int)))) rfl (zBE rfl rfl) <| OW.nil ?_
 refine zAn (t := decide (s_l1.2 < (s_l1.1.length : Int))) rfl hm (fun eK hm => ?_) (fun eK hm => ?_)
 · refine zAt <| zAF <| CW.block <| CSR <| OV (IV 0) rfl (zAb) <| OW.nil ?_
   obtain ⟨kH, eL, hm⟩ := zAs hm
   refine zAU (fun (s_l2 : (List (List Int)) × Int) F w => ∃ aI, F 1 = v3 ∧ F 2 = (PV b6 0) ∧ F 4 = (PV b8 0) ∧ F 5 = (PV aJ 0) ∧ F 6 = (PV aH 0) ∧ F 8 = (IV s_l1.2) ∧ F 9 = (IV s_l2.2) ∧ Hp w0 [Ent.blk aH 26 #[(IV aD.1.Boats), aE, aF], Ent.own 27 aI aE s_l2.1, Ent.own 27 aX aF aD.1.Codes, Ent.blk aJ 38 #[(IV x9.Boats), (IV x9.Scheme), aG], Ent.own 101 aZ aG x9.Races, Ent.blk b8 26 #[(IV 0), (.slice none 0 0), (.slice none 0 0)], Ent.blk b6 38 #[(IV a0.Boats), (IV a0.Scheme), v1], zAg w0 w0.heap.size] w) (fun o => zBh o (fun x => some (.ret x)) (fun s => zGk s_l1 s) = some dF) eL hm ⟨aO, dG, dH, dI, dJ, bN, bO, rfl, hL⟩ ?_ ?_
   · intro s_l2 kI jC hJ hm
     have hm := zBD hm
     have hm : zGk s_l1 s_l2 = some dF := hm
     unfold zGk at hm
     obtain ⟨aI, gH, gI, gJ, gK, gL, gM, kJ, hL⟩ := hJ
     refine zAl <| OV (IV s_l1.2) rfl (zAo gM) <| OV (IV (w64 (s_l1.2 + 1))) rfl (zBe rfl rfl) <| OV (IV (w64 (s_l1.2 + 1))) rfl (zAb) <| OW.nil ?_
     obtain rfl := oi hm
     exact ⟨_, rfl, ⟨aI, gH, gI, gJ, gK, gL, rfl, hL⟩⟩
   intro s_l2 kK jD aS hJ hm jE
   unfold zGq at hm
   obtain ⟨aI, dK, dL, dM, dN, bP, dO, bQ, hL⟩ := hJ
   refine zAF <| CSR <| OV (IV s_l2.2) rfl (zAo bQ) <| OV (PV aH 0) rfl (zAc (fsz := 1) 0 0 0 U26 rfl zAf rfl bP rfl) <| OV (IV aD.1.Boats) rfl (zAd U2 rfl rfl (hL.cellB 0 rfl rfl)) <| OV (.bool (decide (s_l2.2 < aD.1.Boats))) rfl (zBE rfl rfl) <| OW.nil ?_
   refine zAn (t := decide (s_l2.2 < aD.1.Boats)) rfl hm (fun eM hm => ?_) (fun eM hm => ?_)
   · refine zAt ?_
     refine zAM (fun (s_j1 : (List (List Int))) F w => ∃ bR, F 1 = v3 ∧ F 2 = (PV b6 0) ∧ F 4 = (PV b8 0) ∧ F 5 = (PV aJ 0) ∧ F 6 = (PV aH 0) ∧ F 8 = (IV s_l1.2) ∧ F 9 = (IV s_l2.2) ∧ Hp w0 [Ent.blk aH 26 #[(IV aD.1.Boats), aE, aF], Ent.own 27 bR aE s_j1, Ent.own 27 aX aF aD.1.Codes, Ent.blk aJ 38 #[(IV x9.Boats), (IV x9.Scheme), aG], Ent.own 101 aZ aG x9.Races, Ent.blk b8 26 #[(IV 0), (.slice none 0 0), (.slice none 0 0)], Ent.blk b6 38 #[(IV a0.Boats), (IV a0.Scheme), v1], zAg w0 w0.heap.size] w) (fun s_j1 => zH0 s_l2 s_j1 = some aS) ?_ ?_
     · refine zBG (fun (s_j2 : (List (List Int))) F w => ∃ bS, F 1 = v3 ∧ F 2 = (PV b6 0) ∧ F 4 = (PV b8 0) ∧ F 5 = (PV aJ 0) ∧ F 6 = (PV aH 0) ∧ F 8 = (IV s_l1.2) ∧ F 9 = (IV s_l2.2) ∧ Hp w0 [Ent.blk aH 26 #[(IV aD.1.Boats), aE, aF], Ent.own 27 bS aE s_j2, Ent.own 27 aX aF aD.1.Codes, Ent.blk aJ 38 #[(IV x9.Boats), (IV x9.Scheme), aG], Ent.own 101 aZ aG x9.Races, Ent.blk b8 26 #[(IV 0), (.slice none 0 0), (.slice none 0 0)], Ent.blk b6 38 #[(IV a0.Boats), (IV a0.Scheme), v1], zAg w0 w0.heap.size] w) (fun s_j2 => zGl s_l2 s_j2 = some aS) ?_ ?_
       · refine CSR <| OV (IV 0) rfl (zAb) <| ONS <| CSR <| OV (IV 0) rfl (zAb) <| OW.nil ?_
         obtain ⟨kL, eN, hm⟩ := zAs hm
         refine zAU (fun (s_l3 : Int × Int) F w => F 1 = v3 ∧ F 2 = (PV b6 0) ∧ F 4 = (PV b8 0) ∧ F 5 = (PV aJ 0) ∧ F 6 = (PV aH 0) ∧ F 8 = (IV s_l1.2) ∧ F 9 = (IV s_l2.2) ∧ F 10 = (IV s_l3.1) ∧ F 11 = (IV s_l3.2) ∧ Hp w0 [Ent.blk aH 26 #[(IV aD.1.Boats), aE, aF], Ent.own 27 aI aE s_l2.1, Ent.own 27 aX aF aD.1.Codes, Ent.blk aJ 38 #[(IV x9.Boats), (IV x9.Scheme), aG], Ent.own 101 aZ aG x9.Races, Ent.blk b8 26 #[(IV 0), (.slice none 0 0), (.slice none 0 0)], Ent.blk b6 38 #[(IV a0.Boats), (IV a0.Scheme), v1], zAg w0 w0.heap.size] w) (fun o => zBh o (fun x => some (.ret x)) (fun s => zGn x9 aD s_l1 s_l2 s) = some aS) eN hm ⟨dK, dL, dM, dN, bP, dO, bQ, rfl, rfl, hL⟩ ?_ ?_
         · intro s_l3 kM jF hJ hm
           have hm := zBD hm
           have hm : zGn x9 aD s_l1 s_l2 s_l3 = some aS := hm
           unfold zGn at hm
           obtain ⟨dP, dQ, dR, dS, bT, bU, bV, bW, kN, hL⟩ := hJ
           refine zAM (fun (s_j3 : Bool) F w => F 1 = v3 ∧ F 2 = (PV b6 0) ∧ F 4 = (PV b8 0) ∧ F 5 = (PV aJ 0) ∧ F 6 = (PV aH 0) ∧ F 8 = (IV s_l1.2) ∧ F 9 = (IV s_l2.2) ∧ F 10 = (IV s_l3.1) ∧ F 85 = (.bool s_j3) ∧ Hp w0 [Ent.blk aH 26 #[(IV aD.1.Boats), aE, aF], Ent.own 27 aI aE s_l2.1, Ent.own 27 aX aF aD.1.Codes, Ent.blk aJ 38 #[(IV x9.Boats), (IV x9.Scheme), aG], Ent.own 101 aZ aG x9.Races, Ent.blk b8 26 #[(IV 0), (.slice none 0 0), (.slice none 0 0)], Ent.blk b6 38 #[(IV a0.Boats), (IV a0.Scheme), v1], zAg w0 w0.heap.size] w) (fun s_j3 => zGm x9 s_l1 s_l2 s_l3 s_j3 = some aS) ?_ ?_
           · refine zAl <| OV (IV s_l3.1) rfl (zAo bW) <| OV (.bool (decide (0 < s_l3.1))) rfl (zIq rfl rfl) <| OV (.bool (decide (0 < s_l3.1))) rfl (zAe) ?_
             refine zAH hm (fun aA hm => ?_) (fun aA hm => ?_)
             · refine zAa (zAj rfl rfl aA (zAk (v := (PV aH 2)) rfl (zAc (fsz := 1) 0 2 2 U26 rfl zBq rfl bT rfl) ?_))
               refine zAa (zAj rfl rfl aA (zAk (v := aF) rfl (zAd U24 rfl rfl (hL.cellB 0 rfl rfl)) ?_))
               refine zAa (zAj rfl rfl aA (zAk (v := (IV s_l1.2)) rfl (zAo bU) ?_))
               obtain ⟨jG, hL, cO⟩ := hL.freeze 2 rfl
               simp only [lC, lD] at hL
               obtain ⟨kO, eO, hm⟩ := zAs hm
               obtain ⟨eP, eQ⟩ := zAZ eO
               obtain ⟨gN, gO, gP, eG, eR, eS, cP⟩ := zCp cO.1.rdL eP eQ
               refine zAa (zAj rfl rfl aA (zAk (v := (.pointer (some ⟨gN, gO, none⟩))) rfl (zA1 U24 zAR rfl rfl eG) ?_))
               refine zAa (zAj rfl rfl aA (zAk (v := gP) rfl (zAd U27 rfl rfl (hL.cellF 2 rfl eR eS)) ?_))
               refine zAa (zAj rfl rfl aA (zAk (v := (IV s_l2.2)) rfl (zAo bV) ?_))
               obtain ⟨bA, eT, hm⟩ := zAs hm
               obtain ⟨eU, cQ⟩ := zAZ eT
               obtain ⟨gQ, gR, bX⟩ := zAC (hL.rdF 2 rfl cP) eU cQ
               refine zAa (zAj rfl rfl aA (zAk (v := (.pointer (some ⟨gQ, gR, none⟩))) rfl (zA1 U27 zAf rfl rfl bX) ?_))
               refine zAa (zAj rfl rfl aA (zAk (v := (IV bA)) rfl (zAd U2 rfl rfl (zAv (hL.rdF 2 rfl cP) bX cQ 0 _ rfl)) ?_))
               refine zAa (zAj rfl rfl aA (zAk (v := (.bool (bA == 0))) rfl (zBv rfl rfl) ?_))
               refine OV (.bool (bA == 0)) rfl (zAz rfl aA rfl) <| OW.nil ?_
               have hL := hL.thaw 2 rfl cO
               exact ⟨bA == 0, hm, ⟨dP, dQ, dR, dS, bT, bU, bV, bW, rfl, hL⟩⟩
             refine zAa (zAh rfl rfl aA rfl ?_)
             refine zAa (zAh rfl rfl aA rfl ?_)
             refine zAa (zAh rfl rfl aA rfl ?_)
             refine zAa (zAh rfl rfl aA rfl ?_)
             refine zAa (zAh rfl rfl aA rfl ?_)
             refine zAa (zAh rfl rfl aA rfl ?_)
             refine zAa (zAh rfl rfl aA rfl ?_)
             refine zAa (zAh rfl rfl aA rfl ?_)
             refine zAa (zAh rfl rfl aA rfl ?_)
             refine OV (.bool false) rfl (zAA rfl aA rfl) <| OW.nil ?_
             exact ⟨false, hm, ⟨dP, dQ, dR, dS, bT, bU, bV, bW, rfl, hL⟩⟩
           intro s_j3 kP jH hJ hm
           unfold zGm at hm
           obtain ⟨dT, dU, dV, bY, aT, aP, aQ, gS, gT, hL⟩ := hJ
           refine zAn (t := s_j3) gT hm (fun eV hm => ?_) (fun eV hm => ?_)
           · obtain ⟨jI, hL, aW⟩ := hL.freeze 1 rfl
             simp only [lC, lD] at hL
             obtain ⟨jJ, hL, eW⟩ := hL.freeze 2 rfl
             simp only [lC, lD] at hL
             obtain ⟨jK, hL, cR⟩ := hL.freeze 4 rfl
             simp only [lC, lD] at hL
             refine zBW zAQ ?_
             have hL := hL.call (zA8 _)
             refine DW.pre (fuel := 1) (fin := bma 32 2147483647) (C := fun w' => Mod zBO _ w') [0, 1, 2, 3, 4, 5, 6, 7, 8, 9, 10, 11, 12, 13, 14, 15, 16, 17, 18, 19, 20, 21, 22, 23, 24, 25, 26, 27, 28, 29, 30] (Mod.refl _ _) (by kernel_rfl) (by kernel_rfl) ?_
             refine QV (PV aH 1) rfl rfl (fun w' hm' => zAc (fsz := 1) 0 1 1 U26 rfl zBq rfl aT rfl) <| QV aE rfl rfl (fun w' hm' => zAd U24 rfl rfl ((hL.call hm').cellB 0 rfl rfl)) <| QV (IV s_l1.2) rfl rfl (fun w' hm' => zAo aP) ?_
             obtain ⟨bZ, eX, hm⟩ := zAs hm
             obtain ⟨eY, cS⟩ := zAZ eX
             obtain ⟨gU, gV, gW, aY, cT, cU, eZ⟩ := zCp aW.1.rdL eY cS
             refine QV (.pointer (some ⟨gU, gV, none⟩)) rfl rfl (fun w' hm' => zA1 U24 zAR rfl rfl aY) <| QV gW rfl rfl (fun w' hm' => zAd U27 rfl rfl ((hL.call hm').cellF 1 rfl cT cU)) <| QV (IV s_l2.2) rfl rfl (fun w' hm' => zAo aQ) <| QV (PV aH 1) rfl rfl (fun w' hm' => zAc (fsz := 1) 0 1 1 U26 rfl zBq rfl aT rfl) <| QV aE rfl rfl (fun w' hm' => zAd U24 rfl rfl ((hL.call hm').cellB 0 rfl rfl)) <| QV (IV s_l1.2) rfl rfl (fun w' hm' => zAo aP) ?_
             obtain ⟨kQ, fA, hm⟩ := zAs hm
             obtain ⟨fB, fC⟩ := zAZ fA
             obtain ⟨gX, gY, gZ, eH, fD, fE, cV⟩ := zCp aW.1.rdL fB fC
             refine QV (.pointer (some ⟨gX, gY, none⟩)) rfl rfl (fun w' hm' => zA1 U24 zAR rfl rfl eH) <| QV gZ rfl rfl (fun w' hm' => zAd U27 rfl rfl ((hL.call hm').cellF 1 rfl fD fE)) <| QV (IV s_l2.2) rfl rfl (fun w' hm' => zAo aQ) ?_
             obtain ⟨aR, fF, hm⟩ := zAs hm
             obtain ⟨fG, cW⟩ := zAZ fF
             obtain ⟨hA, hB, cA⟩ := zAC (hL.rdF 1 rfl cV) fG cW
             refine QV (.pointer (some ⟨hA, hB, none⟩)) rfl rfl (fun w' hm' => zA1 U27 zAf rfl rfl cA) <| QV (IV aR) rfl rfl (fun w' hm' => zAd U2 rfl rfl (zAv ((hL.call hm').rdF 1 rfl cV) cA cW 0 _ rfl)) <| QV (PV aH 1) rfl rfl (fun w' hm' => zAc (fsz := 1) 0 1 1 U26 rfl zBq rfl aT rfl) <| QV aE rfl rfl (fun w' hm' => zAd U24 rfl rfl ((hL.call hm').cellB 0 rfl rfl)) <| QV (IV s_l1.2) rfl rfl (fun w' hm' => zAo aP) ?_
             obtain ⟨kR, fH, hm⟩ := zAs hm
             obtain ⟨fI, fJ⟩ := zAZ fH
             obtain ⟨hC, hD, hE, eI, fK, fL, cX⟩ := zCp aW.1.rdL fI fJ
             refine QV (.pointer (some ⟨hC, hD, none⟩)) rfl rfl (fun w' hm' => zA1 U24 zAR rfl rfl eI) <| QV hE rfl rfl (fun w' hm' => zAd U27 rfl rfl ((hL.call hm').cellF 1 rfl fK fL)) <| QV (IV s_l2.2) rfl rfl (fun w' hm' => zAo aQ) ?_
             obtain ⟨aK, fM, hm⟩ := zAs hm
             obtain ⟨fN, cY⟩ := zAZ fM
             obtain ⟨hF, hG, cB⟩ := zAC (hL.rdF 1 rfl cX) fN cY
             refine QV (.pointer (some ⟨hF, hG, none⟩)) rfl rfl (fun w' hm' => zA1 U27 zAf rfl rfl cB) <| QV (IV aK) rfl rfl (fun w' hm' => zAd U2 rfl rfl (zAv ((hL.call hm').rdF 1 rfl cX) cB cY 0 _ rfl)) <| QV (IV s_l3.1) rfl rfl (fun w' hm' => zAo gS) <| QV (IV (w64 (aK + s_l3.1))) rfl rfl (fun w' hm' => zBe rfl rfl) <| QV (.agg #[(IV x9.Boats), (IV x9.Scheme), aG]) rfl rfl (fun w' hm' => zAW (cs := [(IV x9.Boats), (IV x9.Scheme), aG]) U38 zA5 rfl bY ((hL.call hm').cellsB 3 rfl (o := 0) (l := [(IV x9.Boats), (IV x9.Scheme), aG]) (by intro j u hj; exact (by simpa using hj)))) <| QV (IV s_l1.2) rfl rfl (fun w' hm' => zAo aP) <| QV (IV s_l2.2) rfl rfl (fun w' hm' => zAo aQ) ?_
             obtain ⟨aN, fO, hm⟩ := zAs hm
             refine zAi rfl (QP.call (v := (IV aN)) rfl (fun w' hm' => zAq (vs := [(.agg #[(IV x9.Boats), (IV x9.Scheme), aG]), (IV s_l1.2), (IV s_l2.2)]) zRE ⟨rfl, rfl, rfl, trivial⟩) (fun w' hm' => (zLR w' x9 ((hL.call hm').rdF 4 rfl cR.1.rdL) s_l1.2 s_l2.2 fO).mono (fun e w'' h => ⟨h.1, hm'.trans h.2.mod⟩)) ?_)
             refine QV (IV (min (w64 (aK + s_l3.1)) aN)) rfl rfl (fun w' hm' => zKP rfl rfl) <| QV (IV (max aR (min (w64 (aK + s_l3.1)) aN))) rfl rfl (fun w' hm' => zKQ rfl rfl) ?_
             obtain ⟨kS, fP, hm⟩ := zAs hm
             obtain ⟨fQ, cZ⟩ := zAZ fP
             obtain ⟨hH, hI, cC⟩ := zAC (hL.rdF 1 rfl eZ) fQ cZ
             refine QV (.pointer (some ⟨hH, hI, none⟩)) rfl rfl (fun w' hm' => zA1 U27 zAf rfl rfl cC) ?_
             refine QW.nil ?_
             intro jL hmod
             have hL := hL.call hmod
             have fR := hL.cellF 1 rfl cT cU
             have hL := hL.thaw 1 rfl aW
             simp only [lC, lD] at hL
             refine zJX 31 rfl (by kernel_rfl) (zKU (α := Int) (bZ.set (s_l2.2 : Int).toNat (max aR (min (w64 (aK + s_l3.1)) aN))) (bZ.set (s_l2.2 : Int).toNat (max aR (min (w64 (aK + s_l3.1)) aN))) rfl hL 1 rfl aY cS fR (fun E2 S1 hL hK => zBV (j := 0) (max aR (min (w64 (aK + s_l3.1)) aN)) hL 0 rfl zAf cC cZ rfl rfl rfl rfl rfl rfl hK) ?_)
             intro jM hM hL fS fT
             simp only [lC, lD] at hL
             obtain ⟨jN, hL, fU, jO, jP, jQ⟩ := hL.freezeAt (α := Int) 1 rfl aY fT fS
             simp only [lC, lD] at hL
             refine zBu (by kernel_rfl) ?_
             have hL := hL.thaw 1 rfl fU
             have hL := hL.thaw 2 rfl eW
             have hL := hL.thaw 4 rfl cR
             exact ⟨s_l2.1.set (s_l1.2 : Int).toNat (bZ.set (s_l2.2 : Int).toNat (max aR (min (w64 (aK + s_l3.1)) aN))), hm, ⟨hM, dT, dU, dV, bY, aT, aP, aQ, hL⟩⟩
           refine zAt ?_
           exact ⟨s_l2.1, hm, ⟨aI, dT, dU, dV, bY, aT, aP, aQ, hL⟩⟩
         intro s_l3 kT jR cD hJ hm jS
         unfold zGp at hm
         obtain ⟨aL, bB, bC, bD, bE, aU, aV, bF, aM, hL⟩ := hJ
         refine zAF <| CSR <| OV (IV s_l3.2) rfl (zAo aM) <| OV v3 rfl (zAo aL) <| OV (IV (a1.length : Int)) rfl (zA3 U39 rfl (hL.rdS 7 rfl h4)) <| OV (.bool (decide (s_l3.2 < (a1.length : Int)))) rfl (zBE rfl rfl) <| OW.nil ?_
         refine zAn (t := decide (s_l3.2 < (a1.length : Int))) rfl hm (fun fV hm => ?_) (fun fV hm => ?_)
         · refine zAt ?_
           refine zAM (fun (s_j4 : Int) F w => F 1 = v3 ∧ F 2 = (PV b6 0) ∧ F 4 = (PV b8 0) ∧ F 5 = (PV aJ 0) ∧ F 6 = (PV aH 0) ∧ F 8 = (IV s_l1.2) ∧ F 9 = (IV s_l2.2) ∧ F 10 = (IV s_j4) ∧ F 11 = (IV s_l3.2) ∧ Hp w0 [Ent.blk aH 26 #[(IV aD.1.Boats), aE, aF], Ent.own 27 aI aE s_l2.1, Ent.own 27 aX aF aD.1.Codes, Ent.blk aJ 38 #[(IV x9.Boats), (IV x9.Scheme), aG], Ent.own 101 aZ aG x9.Races, Ent.blk b8 26 #[(IV 0), (.slice none 0 0), (.slice none 0 0)], Ent.blk b6 38 #[(IV a0.Boats), (IV a0.Scheme), v1], zAg w0 w0.heap.size] w) (fun s_j4 => zH1 s_l3 s_j4 = some cD) ?_ ?_
           · refine zBG (fun (s_j5 : Int) F w => F 1 = v3 ∧ F 2 = (PV b6 0) ∧ F 4 = (PV b8 0) ∧ F 5 = (PV aJ 0) ∧ F 6 = (PV aH 0) ∧ F 8 = (IV s_l1.2) ∧ F 9 = (IV s_l2.2) ∧ F 10 = (IV s_j5) ∧ F 11 = (IV s_l3.2) ∧ Hp w0 [Ent.blk aH 26 #[(IV aD.1.Boats), aE, aF], Ent.own 27 aI aE s_l2.1, Ent.own 27 aX aF aD.1.Codes, Ent.blk aJ 38 #[(IV x9.Boats), (IV x9.Scheme), aG], Ent.own 101 aZ aG x9.Races, Ent.blk b8 26 #[(IV 0), (.slice none 0 0), (.slice none 0 0)], Ent.blk b6 38 #[(IV a0.Boats), (IV a0.Scheme), v1], zAg w0 w0.heap.size] w) (fun s_j5 => zGo s_l3 s_j5 = some cD) ?_ ?_
             · refine zAM (fun (s_j6 : Bool) F w => F 1 = v3 ∧ F 2 = (PV b6 0) ∧ F 4 = (PV b8 0) ∧ F 5 = (PV aJ 0) ∧ F 6 = (PV aH 0) ∧ F 8 = (IV s_l1.2) ∧ F 9 = (IV s_l2.2) ∧ F 10 = (IV s_l3.1) ∧ F 11 = (IV s_l3.2) ∧ F 62 = (.bool s_j6) ∧ Hp w0 [Ent.blk aH 26 #[(IV aD.1.Boats), aE, aF], Ent.own 27 aI aE s_l2.1, Ent.own 27 aX aF aD.1.Codes, Ent.blk aJ 38 #[(IV x9.Boats), (IV x9.Scheme), aG], Ent.own 101 aZ aG x9.Races, Ent.blk b8 26 #[(IV 0), (.slice none 0 0), (.slice none 0 0)], Ent.blk b6 38 #[(IV a0.Boats), (IV a0.Scheme), v1], zAg w0 w0.heap.size] w) (fun s_j6 => zER a0 a1 s_l3 s_j6 = some cD) ?_ ?_
               · refine zAl <| OV v3 rfl (zAo aL) <| OV (IV s_l3.2) rfl (zAo aM) ?_
                 obtain ⟨cE, fW, hm⟩ := zAs hm
                 obtain ⟨fX, dA⟩ := zAZ fW
                 obtain ⟨dW, bG, cF⟩ := zAC (hL.rdS 7 rfl h4) fX dA
                 refine OV (.pointer (some ⟨dW, bG, none⟩)) rfl (zA1 U39 zAX rfl rfl cF) <| OV (.pointer (some ⟨dW, bG + 2, none⟩)) rfl (zAc (fsz := 1) bG 2 (bG + 2) U49 rfl zAf rfl rfl rfl) <| OV (IV cE.Kind) rfl (zAd U2 rfl rfl (zAv (hL.rdS 7 rfl h4) cF dA 2 _ rfl)) <| OV (.bool (cE.Kind == 3)) rfl (zBv rfl rfl) <| OV (.bool (cE.Kind == 3)) rfl (zAe) ?_
                 refine zAH hm (fun aB hm => ?_) (fun aB hm => ?_)
                 · refine zAa (zAj rfl rfl aB (zAk (v := v3) rfl (zAo aL) ?_))
                   refine zAa (zAj rfl rfl aB (zAk (v := (IV s_l3.2)) rfl (zAo aM) ?_))
                   obtain ⟨bH, fY, hm⟩ := zAs hm
                   obtain ⟨fZ, dB⟩ := zAZ fY
                   obtain ⟨dX, bI, cG⟩ := zAC (hL.rdS 7 rfl h4) fZ dB
                   refine zAa (zAj rfl rfl aB (zAk (v := (.pointer (some ⟨dX, bI, none⟩))) rfl (zA1 U39 zAX rfl rfl cG) ?_))
                   refine zAa (zAj rfl rfl aB (zAk (v := (.pointer (some ⟨dX, bI, none⟩))) rfl (zAc (fsz := 1) bI 0 bI U49 rfl zAf rfl rfl rfl) ?_))
                   refine zAa (zAj rfl rfl aB (zAk (v := (IV bH.Race)) rfl (zAd U2 rfl rfl (zAv (hL.rdS 7 rfl h4) cG dB 0 _ rfl)) ?_))
                   refine zAa (zAj rfl rfl aB (zAk (v := (IV s_l1.2)) rfl (zAo aU) ?_))
                   refine zAa (zAj rfl rfl aB (zAk (v := (.bool (bH.Race == s_l1.2))) rfl (zBv rfl rfl) ?_))
                   refine OV (.bool (bH.Race == s_l1.2)) rfl (zAz rfl aB rfl) <| OV (.bool (bH.Race == s_l1.2)) rfl (zAe) ?_
                   refine zAH hm (fun aC hm => ?_) (fun aC hm => ?_)
                   · refine zAa (zAj rfl rfl aC (zAk (v := v3) rfl (zAo aL) ?_))
                     refine zAa (zAj rfl rfl aC (zAk (v := (IV s_l3.2)) rfl (zAo aM) ?_))
                     obtain ⟨bJ, gA, hm⟩ := zAs hm
                     obtain ⟨gB, dC⟩ := zAZ gA
                     obtain ⟨dY, bK, cH⟩ := zAC (hL.rdS 7 rfl h4) gB dC
                     refine zAa (zAj rfl rfl aC (zAk (v := (.pointer (some ⟨dY, bK, none⟩))) rfl (zA1 U39 zAX rfl rfl cH) ?_))
                     refine zAa (zAj rfl rfl aC (zAk (v := (.pointer (some ⟨dY, bK + 1, none⟩))) rfl (zAc (fsz := 1) bK 1 (bK + 1) U49 rfl zAf rfl rfl rfl) ?_))
                     refine zAa (zAj rfl rfl aC (zAk (v := (IV bJ.Boat)) rfl (zAd U2 rfl rfl (zAv (hL.rdS 7 rfl h4) cH dC 1 _ rfl)) ?_))
                     refine zAa (zAj rfl rfl aC (zAk (v := (IV s_l2.2)) rfl (zAo aV) ?_))
                     refine zAa (zAj rfl rfl aC (zAk (v := (.bool (bJ.Boat == s_l2.2))) rfl (zBv rfl rfl) ?_))
                     refine OV (.bool (bJ.Boat == s_l2.2)) rfl (zAz rfl aC rfl) <| OW.nil ?_
                     exact ⟨bJ.Boat == s_l2.2, hm, ⟨aL, bB, bC, bD, bE, aU, aV, bF, aM, rfl, hL⟩⟩
                   refine zAa (zAh rfl rfl aC rfl ?_)
                   refine zAa (zAh rfl rfl aC rfl ?_)
                   refine zAa (zAh rfl rfl aC rfl ?_)
                   refine zAa (zAh rfl rfl aC rfl ?_)
                   refine zAa (zAh rfl rfl aC rfl ?_)
                   refine zAa (zAh rfl rfl aC rfl ?_)
                   refine zAa (zAh rfl rfl aC rfl ?_)
                   refine OV (.bool false) rfl (zAA rfl aC rfl) <| OW.nil ?_
                   exact ⟨false, hm, ⟨aL, bB, bC, bD, bE, aU, aV, bF, aM, rfl, hL⟩⟩
                 refine zAa (zAh rfl rfl aB rfl ?_)
                 refine zAa (zAh rfl rfl aB rfl ?_)
                 refine zAa (zAh rfl rfl aB rfl ?_)
                 refine zAa (zAh rfl rfl aB rfl ?_)
                 refine zAa (zAh rfl rfl aB rfl ?_)
                 refine zAa (zAh rfl rfl aB rfl ?_)
                 refine zAa (zAh rfl rfl aB rfl ?_)
                 refine OV (.bool false) rfl (zAA rfl aB rfl) <| OV (.bool false) rfl (zAe) ?_
                 refine zAa (zAh rfl rfl rfl rfl ?_)
                 refine zAa (zAh rfl rfl rfl rfl ?_)
                 refine zAa (zAh rfl rfl rfl rfl ?_)
                 refine zAa (zAh rfl rfl rfl rfl ?_)
                 refine zAa (zAh rfl rfl rfl rfl ?_)
                 refine zAa (zAh rfl rfl rfl rfl ?_)
                 refine zAa (zAh rfl rfl rfl rfl ?_)
                 refine OV (.bool false) rfl (zAA rfl rfl rfl) <| OW.nil ?_
                 exact ⟨false, hm, ⟨aL, bB, bC, bD, bE, aU, aV, bF, aM, rfl, hL⟩⟩
               intro s_j6 kU jT hJ hm
               unfold zER at hm
               obtain ⟨cI, cJ, dZ, eA, eB, eC, eD, eE, cK, hN, hL⟩ := hJ
               refine zAn (t := s_j6) hN hm (fun gC hm => ?_) (fun gC hm => ?_)
               · refine zBW zAQ ?_
                 have hL := hL.call (zA8 _)
                 refine DW.pre (fuel := 0) (fin := bma 11 2047) (C := fun w' => Mod zBO _ w') [0, 1, 2, 3, 4, 5, 6, 7, 8, 9, 10] (Mod.refl _ _) (by kernel_rfl) (by kernel_rfl) ?_
                 refine QV (IV s_l3.1) rfl rfl (fun w' hm' => zAo eE) <| QV (PV b6 0) rfl rfl (fun w' hm' => zAc (fsz := 1) 0 0 0 U38 rfl zAf rfl cJ rfl) <| QV (IV a0.Boats) rfl rfl (fun w' hm' => zAd U2 rfl rfl ((hL.call hm').cellB 6 rfl rfl)) <| QV v3 rfl rfl (fun w' hm' => zAo cI) <| QV (IV s_l3.2) rfl rfl (fun w' hm' => zAo cK) ?_
                 obtain ⟨cM, gD, hm⟩ := zAs hm
                 obtain ⟨gE, dD⟩ := zAZ gD
                 obtain ⟨eF, bL, cN⟩ := zAC (hL.rdS 7 rfl h4) gE dD
                 refine QV (.pointer (some ⟨eF, bL, none⟩)) rfl rfl (fun w' hm' => zA1 U39 zAX rfl rfl cN) <| QV (.pointer (some ⟨eF, bL + 3, none⟩)) rfl rfl (fun w' hm' => zAc (fsz := 1) bL 3 (bL + 3) U49 rfl zAf rfl rfl rfl) <| QV (IV cM.Value) rfl rfl (fun w' hm' => zAd U2 rfl rfl (zAv ((hL.call hm').rdS 7 rfl h4) cN dD 3 _ rfl)) ?_
                 obtain ⟨bM, gF, hm⟩ := zAs hm
                 refine zAi rfl (QP.call (v := (IV bM)) rfl (fun w' hm' => zAq (vs := [(IV a0.Boats), (IV cM.Value)]) zRD ⟨rfl, rfl, trivial⟩) (fun w' hm' => (zK6 w' a0.Boats cM.Value gF).mono (fun e w'' h => ⟨h.1, hm'.trans h.2.mod⟩)) ?_)
                 refine QV (IV (w64 (s_l3.1 + bM))) rfl rfl (fun w' hm' => zBe rfl rfl) <| QV (IV (w64 (s_l3.1 + bM))) rfl rfl (fun w' hm' => zAb) ?_
                 refine QW.nil ?_
                 intro jU hmod
                 have hL := hL.call hmod
                 refine zBu (by kernel_rfl) ?_
                 exact ⟨w64 (s_l3.1 + bM), hm, ⟨cI, cJ, dZ, eA, eB, eC, eD, rfl, cK, hL⟩⟩
               refine zAt ?_
               exact ⟨s_l3.1, hm, ⟨cI, cJ, dZ, eA, eB, eC, eD, eE, cK, hL⟩⟩
             intro s_j5 kV jV hJ hm
             unfold zGo at hm
             obtain ⟨hO, hP, hQ, hR, hS, hT, hU, hV, hW, hL⟩ := hJ
             exact ⟨s_j5, hm, ⟨hO, hP, hQ, hR, hS, hT, hU, hV, hW, hL⟩⟩
           intro s_j4 kW jW hJ hm
           unfold zH1 at hm
           obtain ⟨hX, hY, hZ, iA, iB, iC, iD, iE, iF, hL⟩ := hJ
           refine zAl <| OV (IV s_l3.2) rfl (zAo iF) <| OV (IV (w64 (s_l3.2 + 1))) rfl (zBe rfl rfl) <| OV (IV (w64 (s_l3.2 + 1))) rfl (zAb) <| OW.nil ?_
           obtain rfl := oi hm
           exact ⟨_, rfl, ⟨hX, hY, hZ, iA, iB, iC, iD, iE, rfl, hL⟩⟩
         refine zA0 ?_
         refine zBk ?_
         obtain rfl := oi hm
         exact ⟨_, rfl, ⟨aL, bB, bC, bD, bE, aU, aV, bF, aM, hL⟩⟩
       intro s_j2 kX jX hJ hm
       unfold zGl at hm
       obtain ⟨bS, iG, iH, iI, iJ, iK, iL, iM, hL⟩ := hJ
       exact ⟨s_j2, hm, ⟨bS, iG, iH, iI, iJ, iK, iL, iM, hL⟩⟩
     intro s_j1 kY jY hJ hm
     unfold zH0 at hm
     obtain ⟨bR, iN, iO, iP, iQ, iR, iS, iT, hL⟩ := hJ
     refine zAl <| OV (IV s_l2.2) rfl (zAo iT) <| OV (IV (w64 (s_l2.2 + 1))) rfl (zBe rfl rfl) <| OV (IV (w64 (s_l2.2 + 1))) rfl (zAb) <| OW.nil ?_
     obtain rfl := oi hm
     exact ⟨_, rfl, ⟨bR, iN, iO, iP, iQ, iR, iS, rfl, hL⟩⟩
   refine zA0 ?_
   refine zBk ?_
   obtain rfl := oi hm
   exact ⟨_, rfl, ⟨aI, dK, dL, dM, dN, bP, dO, bQ, hL⟩⟩
 refine zA0 ?_
 refine zBk ?_
 obtain rfl := oi hm
 exact ⟨_, rfl, ⟨aO, dG, dH, dI, dJ, bN, bO, hL⟩⟩

theorem zK7 (w0 : World) (a0 : Series) {v1 : Value} (h2 : rdL (· < w0.heap.size) w0 v1 a0.Races) (a1 : List Penalty) {v3 : Value} (h4 : rdL (· < w0.heap.size) w0 v3 a1) (a2 : List Int) {v5 : Value} (h6 : rdL (· < w0.heap.size) w0 v5 a2) (a3 : Int) {r : Int × Int} (hm : zCi a0 a1 a2 a3 = some r) :
    Calls Tryz.prog 16 #[(.agg #[(IV a0.Boats), (IV a0.Scheme), v1]), v3, v5, (IV a3)] w0 fun e w' => e = .returned (.tuple #[(IV r.1), (IV r.2)]) ∧ Fresh w0 w' [] := by
 unfold zCi at hm
 refine zAD (args := [(.agg #[(IV a0.Boats), (IV a0.Scheme), v1]), v3, v5, (IV a3)]) Tryz.func16 rfl rfl rfl ?_
 have hL := zAJ w0
 refine CSR ?_
 refine zAa (zC3 (cs := #[(IV a0.Boats), (IV a0.Scheme), v1]) hL rfl rfl rfl ?_)
 intro wd7 b8 hL
 refine OV (IV 0) rfl (zAb) <| OV (IV 0) rfl (zAb) <| ONR <| OV (.agg #[(IV a0.Boats), (IV a0.Scheme), v1]) rfl (zAW (cs := [(IV a0.Boats), (IV a0.Scheme), v1]) U38 zA5 rfl rfl (hL.cellsB 0 rfl (o := 0) (l := [(IV a0.Boats), (IV a0.Scheme), v1]) (by intro j u hj; exact (by simpa using hj)))) <| OV v3 rfl (zAe) ?_
 obtain ⟨x9, aY, hm⟩ := zAs hm
 refine zAa (OP.call rfl (zAq (vs := [(.agg #[(IV a0.Boats), (IV a0.Scheme), v1]), v3]) zRh ⟨rfl, rfl, trivial⟩) (zLt _ a0 (hL.rdS 1 rfl h2) a1 (hL.rdS 1 rfl h4) aY) ?_)
 rintro cC bS ⟨rfl, aZ⟩
 refine ⟨_, rfl, ?_⟩
 have hL := hL.pushAll aZ
 simp only [lA, lB, lC, lD] at hL
 refine OV (IV x9) rfl (zAb) <| OW.nil ?_
 refine zAM (fun (s_j1 : Int) F w => F 1 = v3 ∧ F 2 = v5 ∧ F 3 = (IV a3) ∧ F 4 = (PV b8 0) ∧ F 10 = (IV s_j1) ∧ Hp w0 [Ent.blk b8 38 #[(IV a0.Boats), (IV a0.Scheme), v1], zAg w0 w0.heap.size] w) (fun s_j1 => zCa a0 a1 a2 a3 s_j1 = some r) ?_ ?_
 · refine zAM (fun (s_j2 : Bool) F w => F 1 = v3 ∧ F 2 = v5 ∧ F 3 = (IV a3) ∧ F 4 = (PV b8 0) ∧ F 10 = (IV x9) ∧ F 28 = (.bool s_j2) ∧ Hp w0 [Ent.blk b8 38 #[(IV a0.Boats), (IV a0.Scheme), v1], zAg w0 w0.heap.size] w) (fun s_j2 => zBR a0 a1 a2 a3 x9 s_j2 = some r) ?_ ?_
   · refine zAl <| OV (IV x9) rfl (zAe) <| OV (.bool (x9 == 0)) rfl (zBv rfl rfl) <| OV (.bool (x9 == 0)) rfl (zAe) ?_
     refine zAH hm (fun aA hm => ?_) (fun aA hm => ?_)
     · refine zAa (zAj rfl rfl aA (zAk (v := v5) rfl (zAe) ?_))
       obtain ⟨aD, aJ, hm⟩ := zAs hm
       refine zAa (zAj rfl rfl aA (OP.call rfl (zAq (vs := [v5]) zRi ⟨rfl, trivial⟩) (zKm _ a2 (hL.rdS 1 rfl h6) aJ) ?_))
       rintro bT bN ⟨rfl, aK⟩
       refine ⟨_, rfl, ?_⟩
       have hL := hL.pushAll aK
       simp only [lA, lB, lC, lD] at hL
       refine zAa (zAj rfl rfl aA (zAk (v := (.bool (!aD))) rfl (zCb rfl) ?_))
       refine zAa (zAj rfl rfl aA (zAk (v := (.bool (!aD))) rfl (zAe) ?_))
       refine zAH hm (fun aB hm => ?_) (fun aB hm => ?_)
       · refine zAa (zAh rfl rfl aB rfl ?_)
         refine zAa (zAh rfl rfl aB rfl ?_)
         refine zAa (zAh rfl rfl aB rfl ?_)
         refine zAa (zAh rfl rfl aB rfl ?_)
         refine zAa (zAh rfl rfl aB rfl ?_)
         refine zAa (zAh rfl rfl aB rfl ?_)
         refine zAa (zAj rfl rfl aA (zAk (v := (.bool true)) rfl (zAz rfl aB rfl) ?_))
         refine OV (.bool true) rfl (zAz rfl aA rfl) <| OW.nil ?_
         exact ⟨true, hm, ⟨rfl, rfl, rfl, rfl, rfl, rfl, hL⟩⟩
       refine zAa (zAj rfl rfl aB (zAk (v := (IV a3)) rfl (zAe) ?_))
       refine zAa (zAj rfl rfl aB (zAk (v := (PV b8 0)) rfl (zAc (fsz := 1) 0 0 0 U38 rfl zAf rfl rfl rfl) ?_))
       refine zAa (zAj rfl rfl aB (zAk (v := (IV a0.Boats)) rfl (zAd U2 rfl rfl (hL.cellB 0 rfl rfl)) ?_))
       refine zAa (zAj rfl rfl aB (zAk (v := (IV (w64 (a0.Boats - 1)))) rfl (zCn rfl rfl) ?_))
       obtain ⟨aC, aL, hm⟩ := zAs hm
       refine zAa (zAj rfl rfl aB (OP.call rfl (zAq (vs := [(IV a3), (IV 0), (IV (w64 (a0.Boats - 1)))]) zEw ⟨rfl, rfl, rfl, trivial⟩) (zBw _ a3 0 (w64 (a0.Boats - 1)) aL) ?_))
       rintro bU bO ⟨rfl, aM⟩
       refine ⟨_, rfl, ?_⟩
       have hL := hL.pushAll aM
       simp only [lA, lB, lC, lD] at hL
       refine zAa (zAj rfl rfl aB (zAk (v := (.bool (!aC))) rfl (zCb rfl) ?_))
       refine zAa (zAj rfl rfl aA (zAk (v := (.bool (!aC))) rfl (zAA rfl aB rfl) ?_))
       refine OV (.bool (!aC)) rfl (zAz rfl aA rfl) <| OW.nil ?_
       exact ⟨!aC, hm, ⟨rfl, rfl, rfl, rfl, rfl, rfl, hL⟩⟩
     refine zAa (zAh rfl rfl aA rfl ?_)
     refine zAa (zAh rfl rfl aA rfl ?_)
     refine zAa (zAh rfl rfl aA rfl ?_)
     refine zAa (zAh rfl rfl aA rfl ?_)
     refine zAa (zHT rfl rfl rfl ?_)
     refine zAa (zHT rfl rfl rfl ?_)
     refine zAa (zHT rfl rfl rfl ?_)
     refine zAa (zHT rfl rfl rfl ?_)
     refine zAa (zHT rfl rfl rfl ?_)
     refine zAa (zHT rfl rfl rfl ?_)
     refine zAa (zAh rfl rfl aA rfl ?_)
     refine OV (.bool false) rfl (zAA rfl aA rfl) <| OW.nil ?_
     exact ⟨false, hm, ⟨rfl, rfl, rfl, rfl, rfl, rfl, hL⟩⟩
   intro s_j2 bV bP hJ hm
   unfold zBR at hm
   obtain ⟨aE, aF, aG, aH, bA, bB, hL⟩ := hJ
   refine zAn (t := s_j2) bB hm (fun aN hm => ?_) (fun aN hm => ?_)
   · refine zAl <| OV (IV 2) rfl (zAb) <| OW.nil ?_
     exact ⟨2, hm, ⟨aE, aF, aG, aH, rfl, hL⟩⟩
   refine zAt ?_
   exact ⟨x9, hm, ⟨aE, aF, aG, aH, bA, hL⟩⟩
 intro s_j1 cD bW hJ hm
 unfold zCa at hm
 obtain ⟨bK, aR, aS, aT, aU, hL⟩ := hJ
 refine zAF <| CSR <| OV (IV s_j1) rfl (zAo aU) <| OV (.bool (s_j1 != 0)) rfl (zDk rfl rfl) <| OW.nil ?_
 refine zAn (t := s_j1 != 0) rfl hm (fun bC hm => ?_) (fun bC hm => ?_)
 · refine CSR <| OV (IV s_j1) rfl (zAo aU) <| OV (IV 0) rfl (zAb) <| OV (IV s_j1) rfl (zAb) <| OW.nil <| zAx ?_
   obtain rfl := oi hm
   exact RR2 rfl rfl rfl ⟨rfl, hL.fresh 1 rfl [] (by decide) (by decide) rfl⟩
 refine zAt <| zAF ?_
 refine zDG (fun w' => Hp w0 [Ent.blk b8 38 #[(IV a0.Boats), (IV a0.Scheme), v1], zAg w0 w0.heap.size] w') zAQ ?_
 have hL := hL.call (zA8 _)
 have hS := (hL.sl [0, 1] rfl)
 refine zAw 0 rfl (by kernel_rfl) rfl rfl hS (zAp (v := (.agg #[(IV a0.Boats), (IV a0.Scheme), v1])) (fun w' hS' => zAW (cs := [(IV a0.Boats), (IV a0.Scheme), v1]) U38 zA5 rfl aT (hS'.cellsB 0 rfl (o := 0) (l := [(IV a0.Boats), (IV a0.Scheme), v1]) (by intro j u hj; exact (by simpa using hj))))) ?_
 have hS := (hL.sl [0, 1] rfl)
 refine zAw 1 rfl (by kernel_rfl) rfl rfl hS (zAp (v := v3) (fun w' hS' => zAo bK)) ?_
 have hS := (hL.sl [0, 1] rfl)
 refine zAw 3 rfl (by kernel_rfl) rfl rfl hS (zAp (v := v5) (fun w' hS' => zAo aR)) ?_
 have hS := (hL.sl [0, 1] rfl)
 refine zAw 4 rfl (by kernel_rfl) rfl rfl hS (zAp (v := (IV a3)) (fun w' hS' => zAo aS)) ?_
 have hS := (hL.sl [0, 1] rfl)
 refine zAw 6 rfl (by kernel_rfl) rfl rfl hS (zAp (v := (.agg #[(IV a0.Boats), (IV a0.Scheme), v1])) (fun w' hS' => zAW (cs := [(IV a0.Boats), (IV a0.Scheme), v1]) U38 zA5 rfl aT (hS'.cellsB 0 rfl (o := 0) (l := [(IV a0.Boats), (IV a0.Scheme), v1]) (by intro j u hj; exact (by simpa using hj))))) ?_
 have hS := (hL.sl [0, 1] rfl)
 refine zAw 8 rfl (by kernel_rfl) rfl rfl hS (zAp (v := v5) (fun w' hS' => zAo aR)) ?_
 have hS := (hL.sl [0, 1] rfl)
 refine zAw 9 rfl (by kernel_rfl) rfl rfl hS (zAp (v := (IV a3)) (fun w' hS' => zAo aS)) ?_
 obtain ⟨aV, bD, hm⟩ := zAs hm
 refine zAT 2 rfl (by kernel_rfl) (OP.call rfl (zAq (vs := [(.agg #[(IV a0.Boats), (IV a0.Scheme), v1]), v3]) zOC ⟨rfl, rfl, trivial⟩) (zJQ _ a0 (hL.rdS 1 rfl h2) a1 (hL.rdS 1 rfl h4) bD) ?_)
 rintro cE bX ⟨bL, cF, bM, cG, rfl, bE⟩
 refine ⟨_, rfl, ?_⟩
 have hL := hL.pushAll bE
 simp only [lA, lB, lC, lD] at hL
 refine ⟨(hL.sl [2, 3] rfl), ?_⟩
 obtain ⟨aW, bF, hm⟩ := zAs hm
 refine zAT 5 rfl (by kernel_rfl) (OP.call rfl (zAq (vs := [(.agg #[(IV aV.Boats), bL, bM]), v5, (IV a3)]) zOv ⟨rfl, rfl, rfl, trivial⟩) (zJ1 _ aV (hL.rdO 0 rfl) (hL.rdO 1 rfl) a2 (hL.rdS 3 rfl h6) a3 bF) ?_)
 rintro cH bY ⟨rfl, bG⟩
 refine ⟨_, rfl, ?_⟩
 have hL := hL.pushAll bG
 simp only [lA, lB, lC, lD] at hL
 refine ⟨(hL.sl [2, 3] rfl), ?_⟩
 obtain ⟨aX, bH, hm⟩ := zAs hm
 refine zAT 7 rfl (by kernel_rfl) (OP.call rfl (zAq (vs := [(.agg #[(IV a0.Boats), (IV a0.Scheme), v1]), (.slice none 0 0)]) zOC ⟨rfl, rfl, trivial⟩) (zJQ _ a0 (hL.rdS 3 rfl h2) ([] : List Penalty) zPD bH) ?_)
 rintro bZ bQ ⟨bI, cI, bJ, cA, rfl, aO⟩
 refine ⟨_, rfl, ?_⟩
 have hL := hL.pushAll aO
 simp only [lA, lB, lC, lD] at hL
 refine ⟨(hL.sl [4, 5] rfl), ?_⟩
 obtain ⟨aI, aP, hm⟩ := zAs hm
 refine zAT 10 rfl (by kernel_rfl) (OP.call rfl (zAq (vs := [(.agg #[(IV aX.Boats), bI, bJ]), v5, (IV a3)]) zOv ⟨rfl, rfl, rfl, trivial⟩) (zJ1 _ aX (hL.rdO 0 rfl) (hL.rdO 1 rfl) a2 (hL.rdS 5 rfl h6) a3 aP) ?_)
 rintro cB bR ⟨rfl, aQ⟩
 refine ⟨_, rfl, ?_⟩
 have hL := hL.pushAll aQ
 simp only [lA, lB, lC, lD] at hL
 refine ⟨(hL.sl [4, 5] rfl), ?_⟩
 have hS := (hL.sl [4, 5] rfl)
 refine zAw 11 rfl (by kernel_rfl) rfl rfl hS (zAp (v := (IV (w64 (aW - aI)))) (fun w' hS' => zCn rfl rfl)) ?_
 have hS := (hL.sl [4, 5] rfl)
 refine zAw 12 rfl (by kernel_rfl) rfl rfl hS (zAp (v := (IV (w64 (aW - aI)))) (fun w' hS' => zAb)) ?_
 have hS := (hL.sl [4, 5] rfl)
 refine zAw 13 rfl (by kernel_rfl) rfl rfl hS (zAp (v := (IV 0)) (fun w' hS' => zAb)) ?_
 refine zDB (by kernel_rfl) ?_
 refine zAx ?_
 obtain rfl := oi hm
 exact RR2 rfl rfl rfl ⟨rfl, hL.fresh 5 rfl [] (by decide) (by decide) rfl⟩

theorem zLS (w0 : World) (a0 : Int) (a1 : Int) (a2 : List Statement) {v1 : Value} (h2 : rdL (· < w0.heap.size) w0 v1 a2) {r : Bool} (hm : zH8 a0 a1 a2 = some r) :
    Calls Tryz.prog 86 #[(IV a0), (IV a1), v1] w0 fun e w' => e = .returned (.bool r) ∧ Fresh w0 w' [] := by
 unfold zH8 at hm
 refine zAD (args := [(IV a0), (IV a1), v1]) Tryz.func86 rfl rfl rfl ?_
 have hL := zAJ w0
 refine CSR <| OV (.bool false) rfl (zAb) <| ONS <| CSR <| OV v1 rfl (zAe) <| OV (IV (a2.length : Int)) rfl (zA3 U70 rfl (hL.rdS 0 rfl h2)) <| OV (.bool (decide (60 < (a2.length : Int)))) rfl (zIq rfl rfl) <| OW.nil ?_
 refine zAn (t := decide (60 < (a2.length : Int))) rfl hm (fun hb3 hm => ?_) (fun hb3 hm => ?_)
 · refine CSR <| OV (.bool false) rfl (zAb) <| OW.nil <| zAx ?_
   obtain rfl := oi hm
   exact RR1 rfl rfl ⟨rfl, hL.fresh 0 rfl [] (by decide) (by decide) rfl⟩
 refine zAt <| zAF <| CSR <| OV (IV 0) rfl (zAb) <| OW.nil ?_
 obtain ⟨dN, bM, hm⟩ := zAs hm
 refine zAU (fun (s_l1 : Int) F w => F 0 = (IV a0) ∧ F 1 = (IV a1) ∧ F 2 = v1 ∧ F 7 = (IV s_l1) ∧ Hp w0 [zAg w0 w0.heap.size] w) (fun o => zBh o (fun x => some x) (fun s => zHW s) = some r) bM hm ⟨rfl, rfl, rfl, rfl, hL⟩ ?_ ?_
 · intro s_l1 dO dA hJ hm
   have hm := zBD hm
   have hm : zHW s_l1 = some r := hm
   unfold zHW at hm
   obtain ⟨dP, dQ, dR, dS, hL⟩ := hJ
   refine CSR <| OV (.bool true) rfl (zAb) <| OW.nil <| zAx ?_
   obtain rfl := oi hm
   exact RR1 rfl rfl ⟨rfl, hL.fresh 0 rfl [] (by decide) (by decide) rfl⟩
 intro s_l1 dT dB aP hJ hm aQ
 unfold zEO at hm
 obtain ⟨aL, aM, aH, aI, hL⟩ := hJ
 refine zAF <| CSR <| OV (IV s_l1) rfl (zAo aI) <| OV v1 rfl (zAo aH) <| OV (IV (a2.length : Int)) rfl (zA3 U70 rfl (hL.rdS 0 rfl h2)) <| OV (.bool (decide (s_l1 < (a2.length : Int)))) rfl (zBE rfl rfl) <| OW.nil ?_
 refine zAn (t := decide (s_l1 < (a2.length : Int))) rfl hm (fun bN hm => ?_) (fun bN hm => ?_)
 · refine zAt <| zAF <| CW.block <| CSR <| OV v1 rfl (zAo aH) <| OV (IV s_l1) rfl (zAo aI) ?_
   obtain ⟨aA, bO, hm⟩ := zAs hm
   obtain ⟨bP, bG⟩ := zAZ bO
   obtain ⟨cE, cF, aV⟩ := zAC (hL.rdS 0 rfl h2) bP bG
   refine OV (.pointer (some ⟨cE, cF, none⟩)) rfl (zA1 U70 zBz rfl rfl aV) <| OV (.agg #[(IV aA.Speaker), (IV aA.Fact), (IV aA.Says)]) rfl (zAW (cs := [(IV aA.Speaker), (IV aA.Fact), (IV aA.Says)]) zLq zBz rfl rfl (zAv (hL.rdS 0 rfl h2) aV bG)) ?_
   refine zAa (zBb (cs := #[(IV 0), (IV 0), (IV 0)]) hL zBz rfl rfl ?_)
   intro dC aD hL
   refine zAa (zA9 (l := [(IV aA.Speaker), (IV aA.Fact), (IV aA.Says)]) (cs' := #[(IV aA.Speaker), (IV aA.Fact), (IV aA.Says)]) hL 0 rfl zBz rfl rfl (fc ⟨rfl, (fc ⟨rfl, (fc ⟨rfl, fz⟩)⟩)⟩) rfl (nle rfl) rfl ?_)
   intro dD hL
   refine ONS ?_
   refine zAM (fun (s_j1 : Bool) F w => F 0 = (IV a0) ∧ F 1 = (IV a1) ∧ F 2 = v1 ∧ F 7 = (IV s_l1) ∧ F 8 = (PV aD 0) ∧ F 38 = (.bool s_j1) ∧ Hp w0 [Ent.blk aD 108 #[(IV aA.Speaker), (IV aA.Fact), (IV aA.Says)], zAg w0 w0.heap.size] w) (fun s_j1 => zCl a2 s_l1 aA s_j1 = some aP) ?_ ?_
   · refine zAl <| OV (PV aD 0) rfl (zAc (fsz := 1) 0 0 0 zLq rfl zAf rfl rfl rfl) <| OV (IV aA.Speaker) rfl (zAd U2 rfl rfl (hL.cellB 0 rfl rfl)) <| OV (IV a0) rfl (zAo aL) <| OV (.bool (aA.Speaker != a0)) rfl (zDk rfl rfl) <| OV (.bool (aA.Speaker != a0)) rfl (zAe) ?_
     refine zAH hm (fun aE hm => ?_) (fun aE hm => ?_)
     · refine zAa (zAj rfl rfl aE (zAk (v := (PV aD 0)) rfl (zAc (fsz := 1) 0 0 0 zLq rfl zAf rfl rfl rfl) ?_))
       refine zAa (zAj rfl rfl aE (zAk (v := (IV aA.Speaker)) rfl (zAd U2 rfl rfl (hL.cellB 0 rfl rfl)) ?_))
       refine zAa (zAj rfl rfl aE (zAk (v := (IV a1)) rfl (zAo aM) ?_))
       refine zAa (zAj rfl rfl aE (zAk (v := (.bool (aA.Speaker != a1))) rfl (zDk rfl rfl) ?_))
       refine OV (.bool (aA.Speaker != a1)) rfl (zAz rfl aE rfl) <| OV (.bool (aA.Speaker != a1)) rfl (zAe) ?_
       refine zAH hm (fun aF hm => ?_) (fun aF hm => ?_)
       · refine zAa (zAj rfl rfl aF (zAk (v := (PV aD 0)) rfl (zAc (fsz := 1) 0 0 0 zLq rfl zAf rfl rfl rfl) ?_))
         refine zAa (zAj rfl rfl aF (zAk (v := (IV aA.Speaker)) rfl (zAd U2 rfl rfl (hL.cellB 0 rfl rfl)) ?_))
         obtain ⟨aY, bQ, hm⟩ := zAs hm
         refine zAa (zAj rfl rfl aF (OP.call rfl (zAq (vs := [(IV aA.Speaker), (IV 100), (IV 199)]) zEw ⟨rfl, rfl, rfl, trivial⟩) (zBw _ aA.Speaker 100 199 bQ) ?_))
         rintro dU dE ⟨rfl, bR⟩
         refine ⟨_, rfl, ?_⟩
         have hL := hL.pushAll bR
         simp only [lA, lB, lC, lD] at hL
         refine zAa (zAj rfl rfl aF (zAk (v := (.bool (!aY))) rfl (zCb rfl) ?_))
         refine OV (.bool (!aY)) rfl (zAz rfl aF rfl) <| OW.nil ?_
         exact ⟨!aY, hm, ⟨aL, aM, aH, aI, rfl, rfl, hL⟩⟩
       refine zAa (zAh rfl rfl aF rfl ?_)
       refine zAa (zAh rfl rfl aF rfl ?_)
       refine zAa (zAh rfl rfl aF rfl ?_)
       refine zAa (zAh rfl rfl aF rfl ?_)
       refine OV (.bool false) rfl (zAA rfl aF rfl) <| OW.nil ?_
       exact ⟨false, hm, ⟨aL, aM, aH, aI, rfl, rfl, hL⟩⟩
     refine zAa (zAh rfl rfl aE rfl ?_)
     refine zAa (zAh rfl rfl aE rfl ?_)
     refine zAa (zAh rfl rfl aE rfl ?_)
     refine zAa (zAh rfl rfl aE rfl ?_)
     refine OV (.bool false) rfl (zAA rfl aE rfl) <| OV (.bool false) rfl (zAe) ?_
     refine zAa (zAh rfl rfl rfl rfl ?_)
     refine zAa (zAh rfl rfl rfl rfl ?_)
     refine zAa (zAh rfl rfl rfl rfl ?_)
     refine zAa (zAh rfl rfl rfl rfl ?_)
     refine OV (.bool false) rfl (zAA rfl rfl rfl) <| OW.nil ?_
     exact ⟨false, hm, ⟨aL, aM, aH, aI, rfl, rfl, hL⟩⟩
   intro s_j1 dV dF hJ hm
   unfold zCl at hm
   obtain ⟨aZ, bA, bB, bC, aJ, cG, hL⟩ := hJ
   refine zAn (t := s_j1) cG hm (fun bS hm => ?_) (fun bS hm => ?_)
   · refine CSR <| OV (.bool false) rfl (zAb) <| OW.nil <| zAx ?_
     obtain rfl := oi hm
     have hm := aQ _ rfl
     obtain rfl := oi hm
     exact RR1 rfl rfl ⟨rfl, hL.fresh 1 rfl [] (by decide) (by decide) rfl⟩
   refine zAt <| zAF ?_
   refine zAM (fun (s_j2 : Bool) F w => F 0 = (IV a0) ∧ F 1 = (IV a1) ∧ F 2 = v1 ∧ F 7 = (IV s_l1) ∧ F 8 = (PV aD 0) ∧ F 52 = (.bool s_j2) ∧ Hp w0 [Ent.blk aD 108 #[(IV aA.Speaker), (IV aA.Fact), (IV aA.Says)], zAg w0 w0.heap.size] w) (fun s_j2 => zCQ a2 s_l1 aA s_j2 = some aP) ?_ ?_
   · refine zAl <| OV (PV aD 1) rfl (zAc (fsz := 1) 0 1 1 zLq rfl zAf rfl aJ rfl) <| OV (IV aA.Fact) rfl (zAd U2 rfl rfl (hL.cellB 0 rfl rfl)) ?_
     obtain ⟨bJ, bT, hm⟩ := zAs hm
     refine zAa (OP.call rfl (zAq (vs := [(IV aA.Fact), (IV 0), (IV 7)]) zEw ⟨rfl, rfl, rfl, trivial⟩) (zBw _ aA.Fact 0 7 bT) ?_)
     rintro dW dG ⟨rfl, bU⟩
     refine ⟨_, rfl, ?_⟩
     have hL := hL.pushAll bU
     simp only [lA, lB, lC, lD] at hL
     refine OV (.bool (!bJ)) rfl (zCb rfl) <| OV (.bool (!bJ)) rfl (zAe) ?_
     refine zAH hm (fun aC hm => ?_) (fun aC hm => ?_)
     · refine zAa (zAh rfl rfl aC rfl ?_)
       refine zAa (zAh rfl rfl aC rfl ?_)
       refine zAa (zAh rfl rfl aC rfl ?_)
       refine zAa (zAh rfl rfl aC rfl ?_)
       refine zAa (zHT rfl rfl rfl ?_)
       refine zAa (zHT rfl rfl rfl ?_)
       refine zAa (zHT rfl rfl rfl ?_)
       refine zAa (zAh rfl rfl aC rfl ?_)
       refine OV (.bool true) rfl (zAz rfl aC rfl) <| OW.nil ?_
       exact ⟨true, hm, ⟨aZ, bA, bB, bC, aJ, rfl, hL⟩⟩
     refine zAa (zAj rfl rfl aC (zAk (v := (PV aD 2)) rfl (zAc (fsz := 1) 0 2 2 zLq rfl zAf rfl aJ rfl) ?_))
     refine zAa (zAj rfl rfl aC (zAk (v := (IV aA.Says)) rfl (zAd U2 rfl rfl (hL.cellB 0 rfl rfl)) ?_))
     refine zAa (zAj rfl rfl aC (zAk (v := (.bool (aA.Says != 1))) rfl (zDk rfl rfl) ?_))
     refine zAa (zAj rfl rfl aC (zAk (v := (.bool (aA.Says != 1))) rfl (zAe) ?_))
     refine zAH hm (fun aG hm => ?_) (fun aG hm => ?_)
     · refine zAa (zAj rfl rfl aG (zAk (v := (PV aD 2)) rfl (zAc (fsz := 1) 0 2 2 zLq rfl zAf rfl aJ rfl) ?_))
       refine zAa (zAj rfl rfl aG (zAk (v := (IV aA.Says)) rfl (zAd U2 rfl rfl (hL.cellB 0 rfl rfl)) ?_))
       refine zAa (zAj rfl rfl aG (zAk (v := (.bool (aA.Says != (-1)))) rfl (zDk rfl rfl) ?_))
       refine zAa (zAj rfl rfl aC (zAk (v := (.bool (aA.Says != (-1)))) rfl (zAz rfl aG rfl) ?_))
       refine OV (.bool (aA.Says != (-1))) rfl (zAA rfl aC rfl) <| OW.nil ?_
       exact ⟨aA.Says != (-1), hm, ⟨aZ, bA, bB, bC, aJ, rfl, hL⟩⟩
     refine zAa (zAh rfl rfl aG rfl ?_)
     refine zAa (zAh rfl rfl aG rfl ?_)
     refine zAa (zAh rfl rfl aG rfl ?_)
     refine zAa (zAj rfl rfl aC (zAk (v := (.bool false)) rfl (zAA rfl aG rfl) ?_))
     refine OV (.bool false) rfl (zAA rfl aC rfl) <| OW.nil ?_
     exact ⟨false, hm, ⟨aZ, bA, bB, bC, aJ, rfl, hL⟩⟩
   intro s_j2 dX dH hJ hm
   unfold zCQ at hm
   obtain ⟨cH, cI, cJ, cK, cM, cN, hL⟩ := hJ
   refine zAn (t := s_j2) cN hm (fun bV hm => ?_) (fun bV hm => ?_)
   · refine CSR <| OV (.bool false) rfl (zAb) <| OW.nil <| zAx ?_
     obtain rfl := oi hm
     have hm := aQ _ rfl
     obtain rfl := oi hm
     exact RR1 rfl rfl ⟨rfl, hL.fresh 1 rfl [] (by decide) (by decide) rfl⟩
   refine zAt <| CSR <| OV (IV 0) rfl (zAb) <| OW.nil ?_
   obtain ⟨dY, bW, hm⟩ := zAs hm
   refine zAU (fun (s_l2 : Int) F w => F 0 = (IV a0) ∧ F 1 = (IV a1) ∧ F 2 = v1 ∧ F 7 = (IV s_l1) ∧ F 8 = (PV aD 0) ∧ F 9 = (IV s_l2) ∧ Hp w0 [Ent.blk aD 108 #[(IV aA.Speaker), (IV aA.Fact), (IV aA.Says)], zAg w0 w0.heap.size] w) (fun o => zBh o (fun x => some (.ret x)) (fun s => zGb s_l1 s) = some aP) bW hm ⟨cH, cI, cJ, cK, cM, rfl, hL⟩ ?_ ?_
   · intro s_l2 dZ dI hJ hm
     have hm := zBD hm
     have hm : zGb s_l1 s_l2 = some aP := hm
     unfold zGb at hm
     obtain ⟨cO, cP, cQ, cR, eA, eB, hL⟩ := hJ
     refine zAl <| OV (IV s_l1) rfl (zAo cR) <| OV (IV (w64 (s_l1 + 1))) rfl (zBe rfl rfl) <| OV (IV (w64 (s_l1 + 1))) rfl (zAb) <| OW.nil ?_
     have hL := hL.sl [1] rfl
     obtain rfl := oi hm
     exact ⟨_, rfl, ⟨cO, cP, cQ, rfl, hL⟩⟩
   intro s_l2 eC dJ cS hJ hm bX
   unfold zEN at hm
   obtain ⟨bD, bE, aN, aR, aO, aK, hL⟩ := hJ
   refine zAF <| CSR <| OV (IV s_l2) rfl (zAo aK) <| OV (IV s_l1) rfl (zAo aR) <| OV (.bool (decide (s_l2 < s_l1))) rfl (zBE rfl rfl) <| OW.nil ?_
   refine zAn (t := decide (s_l2 < s_l1)) rfl hm (fun bY hm => ?_) (fun bY hm => ?_)
   · refine zAt <| zAF <| CW.block ?_
     refine zAM (fun (s_j3 : Bool) F w => F 0 = (IV a0) ∧ F 1 = (IV a1) ∧ F 2 = v1 ∧ F 7 = (IV s_l1) ∧ F 8 = (PV aD 0) ∧ F 9 = (IV s_l2) ∧ F 75 = (.bool s_j3) ∧ Hp w0 [Ent.blk aD 108 #[(IV aA.Speaker), (IV aA.Fact), (IV aA.Says)], zAg w0 w0.heap.size] w) (fun s_j3 => zGc s_l2 s_j3 = some cS) ?_ ?_
     · refine zBW zAQ ?_
       have hL := hL.call (zA8 _)
       refine DW.pre (fuel := 0) (fin := bma 18 262143) (C := fun w' => Mod zBO _ w') [0, 1, 2, 3, 4, 5, 6, 7, 8, 9, 10, 11, 12, 13, 14, 15, 16, 17] (Mod.refl _ _) (by kernel_rfl) (by kernel_rfl) ?_
       refine QV v1 rfl rfl (fun w' hm' => zAo aN) <| QV (IV s_l2) rfl rfl (fun w' hm' => zAo aK) ?_
       obtain ⟨bF, bZ, hm⟩ := zAs hm
       obtain ⟨cA, bH⟩ := zAZ bZ
       obtain ⟨bK, aS, aW⟩ := zAC (hL.rdS 1 rfl h2) cA bH
       refine QV (.pointer (some ⟨bK, aS, none⟩)) rfl rfl (fun w' hm' => zA1 U70 zBz rfl rfl aW) <| QV (.pointer (some ⟨bK, aS, none⟩)) rfl rfl (fun w' hm' => zAc (fsz := 1) aS 0 aS zLq rfl zAf rfl rfl rfl) <| QV (IV bF.Speaker) rfl rfl (fun w' hm' => zAd U2 rfl rfl (zAv ((hL.call hm').rdS 1 rfl h2) aW bH 0 _ rfl)) <| QV (PV aD 0) rfl rfl (fun w' hm' => zAc (fsz := 1) 0 0 0 zLq rfl zAf rfl aO rfl) <| QV (IV aA.Speaker) rfl rfl (fun w' hm' => zAd U2 rfl rfl ((hL.call hm').cellB 0 rfl rfl)) <| QV (.bool (bF.Speaker == aA.Speaker)) rfl rfl (fun w' hm' => zBv rfl rfl) <| QV (.bool (bF.Speaker == aA.Speaker)) rfl rfl (fun w' hm' => zAe) ?_
       refine zAH hm (fun aB hm => ?_) (fun aB hm => ?_)
       · refine zAi rfl (zAB rfl rfl aB (zAN (v := v1) rfl (fun w' hm' => zAo aN) ?_))
         refine zAi rfl (zAB rfl rfl aB (zAN (v := (IV s_l2)) rfl (fun w' hm' => zAo aK) ?_))
         obtain ⟨aT, cB, hm⟩ := zAs hm
         obtain ⟨cC, bI⟩ := zAZ cB
         obtain ⟨bL, aU, aX⟩ := zAC (hL.rdS 1 rfl h2) cC bI
         refine zAi rfl (zAB rfl rfl aB (zAN (v := (.pointer (some ⟨bL, aU, none⟩))) rfl (fun w' hm' => zA1 U70 zBz rfl rfl aX) ?_))
         refine zAi rfl (zAB rfl rfl aB (zAN (v := (.pointer (some ⟨bL, aU + 1, none⟩))) rfl (fun w' hm' => zAc (fsz := 1) aU 1 (aU + 1) zLq rfl zAf rfl rfl rfl) ?_))
         refine zAi rfl (zAB rfl rfl aB (zAN (v := (IV aT.Fact)) rfl (fun w' hm' => zAd U2 rfl rfl (zAv ((hL.call hm').rdS 1 rfl h2) aX bI 1 _ rfl)) ?_))
         refine zAi rfl (zAB rfl rfl aB (zAN (v := (PV aD 1)) rfl (fun w' hm' => zAc (fsz := 1) 0 1 1 zLq rfl zAf rfl aO rfl) ?_))
         refine zAi rfl (zAB rfl rfl aB (zAN (v := (IV aA.Fact)) rfl (fun w' hm' => zAd U2 rfl rfl ((hL.call hm').cellB 0 rfl rfl)) ?_))
         refine zAi rfl (zAB rfl rfl aB (zAN (v := (.bool (aT.Fact == aA.Fact))) rfl (fun w' hm' => zBv rfl rfl) ?_))
         refine QV (.bool (aT.Fact == aA.Fact)) rfl rfl (fun w' hm' => zAz rfl aB rfl) ?_
         refine QW.nil ?_
         intro dK hmod
         have hL := hL.call hmod
         refine zBu (by kernel_rfl) ?_
         exact ⟨aT.Fact == aA.Fact, hm, ⟨bD, bE, aN, aR, aO, aK, rfl, hL⟩⟩
       refine zAi rfl (zAK rfl rfl aB rfl ?_)
       refine zAi rfl (zAK rfl rfl aB rfl ?_)
       refine zAi rfl (zAK rfl rfl aB rfl ?_)
       refine zAi rfl (zAK rfl rfl aB rfl ?_)
       refine zAi rfl (zAK rfl rfl aB rfl ?_)
       refine zAi rfl (zAK rfl rfl aB rfl ?_)
       refine zAi rfl (zAK rfl rfl aB rfl ?_)
       refine zAi rfl (zAK rfl rfl aB rfl ?_)
       refine QV (.bool false) rfl rfl (fun w' hm' => zAA rfl aB rfl) ?_
       refine QW.nil ?_
       intro dL hmod
       have hL := hL.call hmod
       refine zBu (by kernel_rfl) ?_
       exact ⟨false, hm, ⟨bD, bE, aN, aR, aO, aK, rfl, hL⟩⟩
     intro s_j3 eD dM hJ hm
     unfold zGc at hm
     obtain ⟨cT, cU, cV, cW, cX, cY, cZ, hL⟩ := hJ
     refine zAn (t := s_j3) cZ hm (fun cD hm => ?_) (fun cD hm => ?_)
     · refine CSR <| OV (.bool false) rfl (zAb) <| OW.nil <| zAx ?_
       obtain rfl := oi hm
       have hm := bX _ rfl
       obtain rfl := oi hm
       have hm := aQ _ rfl
       obtain rfl := oi hm
       exact RR1 rfl rfl ⟨rfl, hL.fresh 1 rfl [] (by decide) (by decide) rfl⟩
     refine zAt <| zAl <| OV (IV s_l2) rfl (zAo cY) <| OV (IV (w64 (s_l2 + 1))) rfl (zBe rfl rfl) <| OV (IV (w64 (s_l2 + 1))) rfl (zAb) <| OW.nil ?_
     obtain rfl := oi hm
     exact ⟨_, rfl, ⟨cT, cU, cV, cW, cX, rfl, hL⟩⟩
   refine zA0 ?_
   refine zBk ?_
   obtain rfl := oi hm
   exact ⟨_, rfl, ⟨bD, bE, aN, aR, aO, aK, hL⟩⟩
 refine zA0 ?_
 refine zBk ?_
 obtain rfl := oi hm
 exact ⟨_, rfl, ⟨aL, aM, aH, aI, hL⟩⟩

end Go.Proofs.YtmmkkcmliofknaaGreatDoor
