/- Links: each Go function returns what its model computes and leaves what was there. Printed by my generator. -/
import Derived.Test.YtmmkkcmliofknaaGreatDoorLnkFnPlacesLostB
namespace Go.Proofs.YtmmkkcmliofknaaGreatDoor
set_option maxRecDepth 10000
open Go Go.RowKit Go.ChangeShapes Go.WideShapes
set_option linter.unusedVariables false
set_option linter.unusedSimpArgs false

theorem zMg (w0 : World) {b1 : Nat} {v2 : Value} (a0 : Src) (h3 : rdL (fun k => k < w0.heap.size ∧ ¬ (Ent.blk b1 92 #[v2, .int .i64 a0.at_, .int .i64 a0.seed]).S k) w0 v2 a0.code) (he4 : (Ent.blk b1 92 #[v2, .int .i64 a0.at_, .int .i64 a0.seed]).H w0) {r : (Series × (List Penalty)) × (Int × Int)} (hm : zJg a0 = some r) :
    Calls Tryz.prog 38 #[(PV b1 0)] w0 fun e w' => ∃ (rv0 : Value) (rS0 : Nat → Prop), ∃ (rv1 : Value) (rS1 : Nat → Prop), e = .returned (.tuple #[(.agg #[(IV r.1.1.Boats), (IV r.1.1.Scheme), rv0]), rv1]) ∧ Mut w0 w' (Ent.blk b1 92 #[v2, .int .i64 a0.at_, .int .i64 a0.seed]).S [Ent.blk b1 92 #[v2, .int .i64 r.2.1, .int .i64 r.2.2], Ent.own 101 rS0 rv0 r.1.1.Races, Ent.own 49 rS1 rv1 r.1.2] := by
 unfold zJg at hm
 refine zAD (args := [(PV b1 0)]) Tryz.func38 rfl rfl rfl ?_
 have hL := zDc he4
 refine CSR ?_
 refine zAa (zBb (cs := #[(IV 0), (IV 0), (.slice none 0 0)]) hL zA5 rfl rfl ?_)
 intro wd5 b6 hL
 refine OV (.slice none 0 0) rfl (zAb) <| ONR <| OV (PV b1 0) rfl (zAe) ?_
 obtain ⟨x7, hx8, hm⟩ := zAs hm
 refine zAa (OP.call rfl (zAq (vs := [(PV b1 0)]) zRu ⟨rfl, trivial⟩) (zKj _ (Src.mk a0.code a0.at_ a0.seed) (hL.exZ 2 1 (by decide) rfl rfl h3) (hL.get 1 rfl) hx8) ?_)
 rintro fM eT ⟨aB, S9, rfl, dK⟩
 refine ⟨_, rfl, ?_⟩
 have hL := hL.mut 1 rfl dK
 simp only [lA, lB, lC, lD] at hL
 refine zAa (zBb (cs := #[(IV 0), (IV 0), (.slice none 0 0)]) hL zA5 rfl rfl ?_)
 intro eU aH hL
 refine zAa (zA9 (l := [(IV x7.1.Boats), (IV x7.1.Scheme), aB]) (cs' := #[(IV x7.1.Boats), (IV x7.1.Scheme), aB]) hL 0 rfl zA5 rfl rfl (fc ⟨rfl, (fc ⟨rfl, (fc ⟨zBI (hL.rdO 1 rfl), fz⟩)⟩)⟩) rfl (nle rfl) rfl ?_)
 intro eV hL
 refine ONR ?_
 refine zAa (zBS ([] : List Penalty) hL U39 zAX rfl (by decide) (by first | (simp [Instr.fill, madeCells, Value.cells, ev, upd, Flat.enc, Flat.sz]; done) | rfl | kernel_rfl) rfl rfl ?_)
 intro eW dJ eA hL
 refine OV dJ rfl (zAb) <| ONS <| CSR <| OV (PV b1 0) rfl (zAe) ?_
 obtain ⟨eB, dL, hm⟩ := zAs hm
 refine zAa (OP.call rfl (zAq (vs := [(PV b1 0), (IV 6)]) zA6 ⟨rfl, rfl, trivial⟩) (zAu _ (Src.mk a0.code x7.2.1 x7.2.2) (hL.exZ 5 4 (by decide) rfl rfl h3) (hL.get 4 rfl) 6 dL) ?_)
 rintro fN eX ⟨rfl, dM⟩
 refine ⟨_, rfl, ?_⟩
 have hL := hL.mut 4 rfl dM
 simp only [lA, lB, lC, lD] at hL
 refine OV (IV eB.1) rfl (zAb) <| OW.nil ?_
 obtain ⟨fO, dN, hm⟩ := zAs hm
 refine zAU (fun (s_l1 : Int × Int × (List Penalty) × Int) F w => ∃ aC aG, F 0 = (PV b1 0) ∧ F 2 = (PV b6 0) ∧ F 4 = (PV aH 0) ∧ F 5 = aC ∧ F 6 = (IV s_l1.2.2.2) ∧ Hp w0 [Ent.own 49 aG aC s_l1.2.2.1, Ent.blk aH 38 #[(IV x7.1.Boats), (IV x7.1.Scheme), aB], Ent.own 101 S9 aB x7.1.Races, Ent.blk b6 38 #[(IV 0), (IV 0), (.slice none 0 0)], Ent.blk b1 92 #[v2, (IV s_l1.1), (IV s_l1.2.1)], zAS w0 (Ent.blk b1 92 #[v2, .int .i64 a0.at_, .int .i64 a0.seed]).S] w) (fun o => zBh o (fun x => some x) (fun s => zGU a0 x7 s) = some r) dN hm ⟨dJ, eA, rfl, rfl, rfl, rfl, rfl, hL⟩ ?_ ?_
 · intro s_l1 fP eY hJ hm
   have hm := zBD hm
   have hm : zGU a0 x7 s_l1 = some r := hm
   unfold zGU at hm
   obtain ⟨aC, aG, bR, aP, aI, aE, fQ, hL⟩ := hJ
   refine zAF <| CSR <| OV aC rfl (zAo aE) <| OV (IV (s_l1.2.2.1.length : Int)) rfl (zA3 U39 rfl (hL.rdO 0 rfl)) <| OV (.bool ((s_l1.2.2.1.length : Int) == 0)) rfl (zBv rfl rfl) <| OW.nil ?_
   refine zAn (t := (s_l1.2.2.1.length : Int) == 0) rfl hm (fun dO hm => ?_) (fun dO hm => ?_)
   · refine CSR <| OV (.agg #[(IV x7.1.Boats), (IV x7.1.Scheme), aB]) rfl (zAW (cs := [(IV x7.1.Boats), (IV x7.1.Scheme), aB]) U38 zA5 rfl aI (hL.cellsB 1 rfl (o := 0) (l := [(IV x7.1.Boats), (IV x7.1.Scheme), aB]) (by intro j u hj; exact (by simpa using hj)))) <| OV aC rfl (zAo aE) ?_
     refine zAa (zA9 (l := [(IV x7.1.Boats), (IV x7.1.Scheme), aB]) (cs' := #[(IV x7.1.Boats), (IV x7.1.Scheme), aB]) hL 3 rfl zA5 aP rfl (fc ⟨rfl, (fc ⟨rfl, (fc ⟨zBI (hL.rdO 2 rfl), fz⟩)⟩)⟩) rfl (nle rfl) rfl ?_)
     intro eZ hL
     refine OV aC rfl (zAb) <| OW.nil <| zAx ?_
     obtain rfl := oi hm
     exact zP6 rfl aP (zCN U38 zA5 (hL.get 3 rfl) rfl) rfl ⟨aB, S9, aC, aG, rfl, hL.mutOut 5 rfl [4, 2, 0] (by decide) (by decide) rfl⟩
   refine zAt <| CSR <| OV (PV b1 0) rfl (zAo bR) <| OV aC rfl (zAo aE) <| OV (IV (s_l1.2.2.1.length : Int)) rfl (zA3 U39 rfl (hL.rdO 0 rfl)) ?_
   obtain ⟨aF, dP, hm⟩ := zAs hm
   refine zAa (OP.call rfl (zAq (vs := [(PV b1 0), (IV (s_l1.2.2.1.length : Int))]) zA6 ⟨rfl, rfl, trivial⟩) (zAu _ (Src.mk a0.code s_l1.1 s_l1.2.1) (hL.exZ 5 4 (by decide) rfl rfl h3) (hL.get 4 rfl) (s_l1.2.2.1.length : Int) dP) ?_)
   rintro fR fA ⟨rfl, dQ⟩
   refine ⟨_, rfl, ?_⟩
   have hL := hL.mut 4 rfl dQ
   simp only [lA, lB, lC, lD] at hL
   refine OV (IV aF.1) rfl (zAb) <| OW.nil ?_
   refine zAM (fun (s_j1 : Int × Int × (List Penalty)) F w => ∃ bE, F 2 = (PV b6 0) ∧ F 4 = (PV aH 0) ∧ F 5 = aC ∧ Hp w0 [Ent.own 49 bE aC s_j1.2.2, Ent.blk aH 38 #[(IV x7.1.Boats), (IV x7.1.Scheme), aB], Ent.own 101 S9 aB x7.1.Races, Ent.blk b6 38 #[(IV 0), (IV 0), (.slice none 0 0)], Ent.blk b1 92 #[v2, (IV s_j1.1), (IV s_j1.2.1)], zAS w0 (Ent.blk b1 92 #[v2, .int .i64 a0.at_, .int .i64 a0.seed]).S] w) (fun s_j1 => zJf x7 s_j1 = some r) ?_ ?_
   · refine CSR <| OV (PV b1 0) rfl (zAo bR) ?_
     obtain ⟨aA, cH, hm⟩ := zAs hm
     refine zAa (OP.call rfl (zAq (vs := [(PV b1 0), (IV 24)]) zA6 ⟨rfl, rfl, trivial⟩) (zAu _ (Src.mk a0.code aF.2.1 aF.2.2) (hL.exZ 5 4 (by decide) rfl rfl h3) (hL.get 4 rfl) 24 cH) ?_)
     rintro fB eD ⟨rfl, cI⟩
     refine ⟨_, rfl, ?_⟩
     have hL := hL.mut 4 rfl cI
     simp only [lA, lB, lC, lD] at hL
     refine OW.nil ?_
     refine zBG (fun (s_j2 : Int × Int × (List Penalty)) F w => ∃ bF, F 2 = (PV b6 0) ∧ F 4 = (PV aH 0) ∧ F 5 = aC ∧ Hp w0 [Ent.own 49 bF aC s_j2.2.2, Ent.blk aH 38 #[(IV x7.1.Boats), (IV x7.1.Scheme), aB], Ent.own 101 S9 aB x7.1.Races, Ent.blk b6 38 #[(IV 0), (IV 0), (.slice none 0 0)], Ent.blk b1 92 #[v2, (IV s_j2.1), (IV s_j2.2.1)], zAS w0 (Ent.blk b1 92 #[v2, .int .i64 a0.at_, .int .i64 a0.seed]).S] w) (fun s_j2 => zCC x7 s_j2 = some r) ?_ ?_
     · refine CSR <| OV (.bool (aA.1 == 0)) rfl (zBv rfl rfl) <| OV (.bool (aA.1 == 0)) rfl (zAb) <| OW.nil ?_
       refine zAn (t := aA.1 == 0) rfl hm (fun cJ hm => ?_) (fun cJ hm => ?_)
       · refine zAl <| OV aC rfl (zAo aE) <| OV (IV aF.1) rfl (zAe) <| OV (PV aH 2) rfl (zAc (fsz := 1) 0 2 2 U38 rfl zCq rfl aI rfl) <| OV aB rfl (zAd U36 rfl rfl (hL.cellB 1 rfl rfl)) <| OV (IV (x7.1.Races.length : Int)) rfl (zA3 U36 rfl (hL.rdO 2 rfl)) ?_
         obtain ⟨aJ, cK, hm⟩ := zAs hm
         obtain ⟨cM, bK⟩ := zAZ cK
         obtain ⟨bS, aR, aX⟩ := zAC (hL.rdO 0 rfl) cM bK
         refine OV (.pointer (some ⟨bS, aR, none⟩)) rfl (zA1 U39 zAX rfl rfl aX) <| OV (.pointer (some ⟨bS, aR, none⟩)) rfl (zAc (fsz := 1) aR 0 aR U49 rfl zAf rfl rfl rfl) ?_
         refine zAa (zBV (j := 0) (Penalty.mk (x7.1.Races.length : Int) aJ.Boat aJ.Kind aJ.Value) hL 0 rfl zAf aX bK rfl rfl rfl rfl rfl rfl ?_)
         intro eE hL
         refine OW.nil ?_
         exact ⟨(aA.2.1, aA.2.2, s_l1.2.2.1.set (aF.1 : Int).toNat (Penalty.mk (x7.1.Races.length : Int) aJ.Boat aJ.Kind aJ.Value)), hm, ⟨aG, aP, aI, aE, hL⟩⟩
       refine CSR <| OV (.bool (aA.1 == 1)) rfl (zBv rfl rfl) <| OV (.bool (aA.1 == 1)) rfl (zAb) <| OW.nil ?_
       refine zAn (t := aA.1 == 1) rfl hm (fun cN hm => ?_) (fun cN hm => ?_)
       · refine zAl <| OV aC rfl (zAo aE) <| OV (IV aF.1) rfl (zAe) <| OV (PV aH 0) rfl (zAc (fsz := 1) 0 0 0 U38 rfl zAf rfl aI rfl) <| OV (IV x7.1.Boats) rfl (zAd U2 rfl rfl (hL.cellB 1 rfl rfl)) ?_
         obtain ⟨aK, cO, hm⟩ := zAs hm
         obtain ⟨cP, bL⟩ := zAZ cO
         obtain ⟨bT, aS, aY⟩ := zAC (hL.rdO 0 rfl) cP bL
         refine OV (.pointer (some ⟨bT, aS, none⟩)) rfl (zA1 U39 zAX rfl rfl aY) <| OV (.pointer (some ⟨bT, aS + 1, none⟩)) rfl (zAc (fsz := 1) aS 1 (aS + 1) U49 rfl zAf rfl rfl rfl) ?_
         refine zAa (zBV (j := 1) (Penalty.mk aK.Race x7.1.Boats aK.Kind aK.Value) hL 0 rfl zAf aY bL rfl rfl rfl rfl rfl rfl ?_)
         intro eF hL
         refine OW.nil ?_
         exact ⟨(aA.2.1, aA.2.2, s_l1.2.2.1.set (aF.1 : Int).toNat (Penalty.mk aK.Race x7.1.Boats aK.Kind aK.Value)), hm, ⟨aG, aP, aI, aE, hL⟩⟩
       refine CSR <| OV (.bool (aA.1 == 2)) rfl (zBv rfl rfl) <| OV (.bool (aA.1 == 2)) rfl (zAb) <| OW.nil ?_
       refine zAn (t := aA.1 == 2) rfl hm (fun cQ hm => ?_) (fun cQ hm => ?_)
       · refine zAl <| OV aC rfl (zAo aE) <| OV (IV aF.1) rfl (zAe) <| OV (PV b1 0) rfl (zAo bR) ?_
         obtain ⟨aQ, cR, hm⟩ := zAs hm
         refine zAa (OP.call rfl (zAq (vs := [(PV b1 0), (IV 2)]) zA6 ⟨rfl, rfl, trivial⟩) (zAu _ (Src.mk a0.code aA.2.1 aA.2.2) (hL.exZ 5 4 (by decide) rfl rfl h3) (hL.get 4 rfl) 2 cR) ?_)
         rintro fC eG ⟨rfl, cS⟩
         refine ⟨_, rfl, ?_⟩
         have hL := hL.mut 4 rfl cS
         simp only [lA, lB, lC, lD] at hL
         refine OV (IV (w64 (4 * aQ.1))) rfl (zHP rfl rfl) ?_
         obtain ⟨aL, cT, hm⟩ := zAs hm
         obtain ⟨cU, bM⟩ := zAZ cT
         obtain ⟨bU, aT, aZ⟩ := zAC (hL.rdO 0 rfl) cU bM
         refine OV (.pointer (some ⟨bU, aT, none⟩)) rfl (zA1 U39 zAX rfl rfl aZ) <| OV (.pointer (some ⟨bU, aT + 2, none⟩)) rfl (zAc (fsz := 1) aT 2 (aT + 2) U49 rfl zAf rfl rfl rfl) ?_
         refine zAa (zBV (j := 2) (Penalty.mk aL.Race aL.Boat (w64 (4 * aQ.1)) aL.Value) hL 0 rfl zAf aZ bM rfl rfl rfl rfl rfl rfl ?_)
         intro eH hL
         refine OW.nil ?_
         exact ⟨(aQ.2.1, aQ.2.2, s_l1.2.2.1.set (aF.1 : Int).toNat (Penalty.mk aL.Race aL.Boat (w64 (4 * aQ.1)) aL.Value)), hm, ⟨aG, aP, aI, aE, hL⟩⟩
       refine CSR <| OV (.bool (aA.1 == 3)) rfl (zBv rfl rfl) <| OV (.bool (aA.1 == 3)) rfl (zAb) <| OW.nil ?_
       refine zAn (t := aA.1 == 3) rfl hm (fun cV hm => ?_) (fun cV hm => ?_)
       · refine zAl <| OV aC rfl (zAo aE) <| OV (IV aF.1) rfl (zAe) ?_
         obtain ⟨aM, cW, hm⟩ := zAs hm
         obtain ⟨cX, bN⟩ := zAZ cW
         obtain ⟨bV, aU, bA⟩ := zAC (hL.rdO 0 rfl) cX bN
         refine OV (.pointer (some ⟨bV, aU, none⟩)) rfl (zA1 U39 zAX rfl rfl bA) <| OV (.pointer (some ⟨bV, aU + 3, none⟩)) rfl (zAc (fsz := 1) aU 3 (aU + 3) U49 rfl zAf rfl rfl rfl) ?_
         refine zAa (zBV (j := 3) (Penalty.mk aM.Race aM.Boat aM.Kind 0) hL 0 rfl zAf bA bN rfl rfl rfl rfl rfl rfl ?_)
         intro eI hL
         refine OW.nil ?_
         exact ⟨(aA.2.1, aA.2.2, s_l1.2.2.1.set (aF.1 : Int).toNat (Penalty.mk aM.Race aM.Boat aM.Kind 0)), hm, ⟨aG, aP, aI, aE, hL⟩⟩
       refine CSR <| OV (.bool (aA.1 == 4)) rfl (zBv rfl rfl) <| OV (.bool (aA.1 == 4)) rfl (zAb) <| OW.nil ?_
       refine zAn (t := aA.1 == 4) rfl hm (fun cY hm => ?_) (fun cY hm => ?_)
       · refine zBW zAQ ?_
         have hL := hL.call (zA8 _)
         refine DW.pre (fuel := 1) (fin := bma 15 16383) (C := fun w' => Mod zBO _ w') [0, 1, 2, 3, 4, 5, 6, 7, 8, 9, 10, 11, 12, 13] (Mod.refl _ _) (by kernel_rfl) (by kernel_rfl) ?_
         refine QV aC rfl rfl (fun w' hm' => zAo aE) <| QV (IV aF.1) rfl rfl (fun w' hm' => zAe) <| QV aC rfl rfl (fun w' hm' => zAo aE) <| QV (IV aF.1) rfl rfl (fun w' hm' => zAe) ?_
         obtain ⟨aN, cZ, hm⟩ := zAs hm
         obtain ⟨dA, bO⟩ := zAZ cZ
         obtain ⟨bW, aV, bB⟩ := zAC (hL.rdO 0 rfl) dA bO
         refine QV (.pointer (some ⟨bW, aV, none⟩)) rfl rfl (fun w' hm' => zA1 U39 zAX rfl rfl bB) <| QV (.pointer (some ⟨bW, aV, none⟩)) rfl rfl (fun w' hm' => zAc (fsz := 1) aV 0 aV U49 rfl zAf rfl rfl rfl) <| QV (IV aN.Race) rfl rfl (fun w' hm' => zAd U2 rfl rfl (zAv ((hL.call hm').rdO 0 rfl) bB bO 0 _ rfl)) <| QV aC rfl rfl (fun w' hm' => zAo aE) <| QV (IV aF.1) rfl rfl (fun w' hm' => zAe) ?_
         obtain ⟨aO, dB, hm⟩ := zAs hm
         obtain ⟨dC, bP⟩ := zAZ dB
         obtain ⟨bX, aW, bC⟩ := zAC (hL.rdO 0 rfl) dC bP
         refine QV (.pointer (some ⟨bX, aW, none⟩)) rfl rfl (fun w' hm' => zA1 U39 zAX rfl rfl bC) <| QV (.pointer (some ⟨bX, aW + 1, none⟩)) rfl rfl (fun w' hm' => zAc (fsz := 1) aW 1 (aW + 1) U49 rfl zAf rfl rfl rfl) <| QV (IV aO.Boat) rfl rfl (fun w' hm' => zAd U2 rfl rfl (zAv ((hL.call hm').rdO 0 rfl) bC bP 1 _ rfl)) <| QV (.agg #[(IV aN.Race), (IV aO.Boat), (IV 2), (IV 1000000000)]) rfl rfl (fun w' hm' => zCB zKZ (ps := [(0, (IV aN.Race)), (1, (IV aO.Boat)), (2, (IV 2)), (3, (IV 1000000000))]) ⟨⟨rfl, rfl⟩, ⟨rfl, rfl⟩, ⟨rfl, rfl⟩, ⟨rfl, rfl⟩, trivial⟩ (by simp [Instr.fill, zBJ, zBA, zBi, zBK, zBo, zBc])) ?_
         obtain ⟨fD, dD, hm⟩ := zAs hm
         obtain ⟨dE, bQ⟩ := zAZ dD
         obtain ⟨dR, dS, bD⟩ := zAC (hL.rdO 0 rfl) dE bQ
         refine QV (.pointer (some ⟨dR, dS, none⟩)) rfl rfl (fun w' hm' => zA1 U39 zAX rfl rfl bD) ?_
         refine QW.nil ?_
         intro eJ hmod
         have hL := hL.call hmod
         refine zJX 14 rfl (by kernel_rfl) (zLf (l := [(IV aN.Race), (IV aO.Boat), (IV 2), (IV 1000000000)]) (Penalty.mk aN.Race aO.Boat 2 1000000000) hL 0 rfl zAX bD bQ rfl rfl rfl ?_)
         intro eK hL
         refine zBu (by kernel_rfl) ?_
         exact ⟨(aA.2.1, aA.2.2, s_l1.2.2.1.set (aF.1 : Int).toNat (Penalty.mk aN.Race aO.Boat 2 1000000000)), hm, ⟨aG, aP, aI, aE, hL⟩⟩
       refine zAt ?_
       exact ⟨(aA.2.1, aA.2.2, s_l1.2.2.1), hm, ⟨aG, aP, aI, aE, hL⟩⟩
     intro s_j2 fE eL hJ hm
     unfold zCC at hm
     obtain ⟨bF, dT, dU, dV, hL⟩ := hJ
     exact ⟨(s_j2.1, s_j2.2.1, s_j2.2.2), hm, ⟨bF, dT, dU, dV, hL⟩⟩
   intro s_j1 fF eM hJ hm
   unfold zJf at hm
   obtain ⟨bE, bY, dW, dX, hL⟩ := hJ
   refine CSR <| OV (.agg #[(IV x7.1.Boats), (IV x7.1.Scheme), aB]) rfl (zAW (cs := [(IV x7.1.Boats), (IV x7.1.Scheme), aB]) U38 zA5 rfl dW (hL.cellsB 1 rfl (o := 0) (l := [(IV x7.1.Boats), (IV x7.1.Scheme), aB]) (by intro j u hj; exact (by simpa using hj)))) <| OV aC rfl (zAo dX) ?_
   refine zAa (zA9 (l := [(IV x7.1.Boats), (IV x7.1.Scheme), aB]) (cs' := #[(IV x7.1.Boats), (IV x7.1.Scheme), aB]) hL 3 rfl zA5 bY rfl (fc ⟨rfl, (fc ⟨rfl, (fc ⟨zBI (hL.rdO 2 rfl), fz⟩)⟩)⟩) rfl (nle rfl) rfl ?_)
   intro eN hL
   refine OV aC rfl (zAb) <| OW.nil <| zAx ?_
   obtain rfl := oi hm
   exact zP6 rfl bY (zCN U38 zA5 (hL.get 3 rfl) rfl) rfl ⟨aB, S9, aC, bE, rfl, hL.mutOut 5 rfl [4, 2, 0] (by decide) (by decide) rfl⟩
 intro s_l1 fG eO eC hJ hm fH
 unfold zEa at hm
 obtain ⟨aC, aG, bZ, cA, bG, cB, bH, hL⟩ := hJ
 refine zAF ?_
 refine zAM (fun (s_j3 : Bool) F w => F 0 = (PV b1 0) ∧ F 2 = (PV b6 0) ∧ F 4 = (PV aH 0) ∧ F 5 = aC ∧ F 6 = (IV s_l1.2.2.2) ∧ F 20 = (.bool s_j3) ∧ Hp w0 [Ent.own 49 aG aC s_l1.2.2.1, Ent.blk aH 38 #[(IV x7.1.Boats), (IV x7.1.Scheme), aB], Ent.own 101 S9 aB x7.1.Races, Ent.blk b6 38 #[(IV 0), (IV 0), (.slice none 0 0)], Ent.blk b1 92 #[v2, (IV s_l1.1), (IV s_l1.2.1)], zAS w0 (Ent.blk b1 92 #[v2, .int .i64 a0.at_, .int .i64 a0.seed]).S] w) (fun s_j3 => zDm a0 x7 s_l1 s_j3 = some eC) ?_ ?_
 · refine zAl <| OV (IV s_l1.2.2.2) rfl (zAo bH) <| OV (.bool (decide (0 < s_l1.2.2.2))) rfl (zIq rfl rfl) <| OV (.bool (decide (0 < s_l1.2.2.2))) rfl (zAe) ?_
   refine zAH hm (fun aD hm => ?_) (fun aD hm => ?_)
   · refine zAa (zAj rfl rfl aD (zAk (v := (PV aH 2)) rfl (zAc (fsz := 1) 0 2 2 U38 rfl zCq rfl bG rfl) ?_))
     refine zAa (zAj rfl rfl aD (zAk (v := aB) rfl (zAd U36 rfl rfl (hL.cellB 1 rfl rfl)) ?_))
     refine zAa (zAj rfl rfl aD (zAk (v := (IV (x7.1.Races.length : Int))) rfl (zA3 U36 rfl (hL.rdO 2 rfl)) ?_))
     refine zAa (zAj rfl rfl aD (zAk (v := (.bool (decide (0 < (x7.1.Races.length : Int))))) rfl (zIq rfl rfl) ?_))
     refine OV (.bool (decide (0 < (x7.1.Races.length : Int)))) rfl (zAz rfl aD rfl) <| OW.nil ?_
     exact ⟨decide (0 < (x7.1.Races.length : Int)), hm, ⟨bZ, cA, bG, cB, bH, rfl, hL⟩⟩
   refine zAa (zAh rfl rfl aD rfl ?_)
   refine zAa (zAh rfl rfl aD rfl ?_)
   refine zAa (zAh rfl rfl aD rfl ?_)
   refine zAa (zAh rfl rfl aD rfl ?_)
   refine OV (.bool false) rfl (zAA rfl aD rfl) <| OW.nil ?_
   exact ⟨false, hm, ⟨bZ, cA, bG, cB, bH, rfl, hL⟩⟩
 intro s_j3 fI eP hJ hm
 unfold zDm at hm
 obtain ⟨bI, cC, bJ, cD, cE, dY, hL⟩ := hJ
 refine zAn (t := s_j3) dY hm (fun dF hm => ?_) (fun dF hm => ?_)
 · refine zAt <| zAF <| CW.block <| zAl <| OV aC rfl (zAo cD) <| OV (PV b1 0) rfl (zAo bI) <| OV (.agg #[(IV x7.1.Boats), (IV x7.1.Scheme), aB]) rfl (zAW (cs := [(IV x7.1.Boats), (IV x7.1.Scheme), aB]) U38 zA5 rfl bJ (hL.cellsB 1 rfl (o := 0) (l := [(IV x7.1.Boats), (IV x7.1.Scheme), aB]) (by intro j u hj; exact (by simpa using hj)))) ?_
   obtain ⟨cF, dG, hm⟩ := zAs hm
   refine zAa (OP.call rfl (zAq (vs := [(PV b1 0), (.agg #[(IV x7.1.Boats), (IV x7.1.Scheme), aB])]) zRv ⟨rfl, rfl, trivial⟩) (zKb _ (Src.mk a0.code s_l1.1 s_l1.2.1) (hL.exZ 5 4 (by decide) rfl rfl h3) (hL.get 4 rfl) x7.1 (hL.exO 2 4 (by decide) rfl rfl) dG) ?_)
   rintro fJ eQ ⟨rfl, dH⟩
   refine ⟨_, rfl, ?_⟩
   have hL := hL.mut 4 rfl dH
   simp only [lA, lB, lC, lD] at hL
   refine zAa (zBS ([cF.1] : List Penalty) hL U39 zAX rfl (by decide) (by first | (simp [Instr.fill, madeCells, Value.cells, ev, upd, Flat.enc, Flat.sz]; done) | rfl | kernel_rfl) rfl rfl ?_)
   intro eR fK fL hL
   obtain ⟨dI, hm⟩ := zEs hm
   refine zAa (zCA (ys := ([cF.1] : List Penalty)) hL 1 rfl U39 zAX rfl rfl rfl (hL.rdO 0 rfl) dI (by decide) rfl ?_)
   intro eS cG dZ hL
   refine OV cG rfl (zAb) <| OW.nil <| zAl <| OV (IV s_l1.2.2.2) rfl (zAo cE) <| OV (IV (w64 (s_l1.2.2.2 - 1))) rfl (zCn rfl rfl) <| OV (IV (w64 (s_l1.2.2.2 - 1))) rfl (zAb) <| OW.nil ?_
   have hL := hL.sl [1, 2, 3, 4, 5, 6] rfl
   obtain rfl := oi hm
   exact ⟨_, rfl, ⟨cG, dZ, bI, cC, bJ, rfl, rfl, hL⟩⟩
 refine zA0 ?_
 refine zBk ?_
 obtain rfl := oi hm
 exact ⟨_, rfl, ⟨aC, aG, bI, cC, bJ, cD, cE, hL⟩⟩

theorem zIM (w0 : World) (a0 : List UInt8) {v1 : Value} (h2 : rdL (· < w0.heap.size) w0 v1 a0) {r : Series × (List Penalty) × (List Int) × Int} (hm : zDq a0 = some r) :
    Calls Tryz.prog 14 #[v1] w0 fun e w' => ∃ (rv0 : Value) (rS0 : Nat → Prop), ∃ (rv1 : Value) (rS1 : Nat → Prop), ∃ (rv2 : Value) (rS2 : Nat → Prop), e = .returned (.tuple #[(.agg #[(IV r.1.Boats), (IV r.1.Scheme), rv0]), rv1, rv2, (IV r.2.2.2)]) ∧ Fresh w0 w' [Ent.own 101 rS0 rv0 r.1.Races, Ent.own 49 rS1 rv1 r.2.1, Ent.own 2 rS2 rv2 r.2.2.1] := by
 unfold zDq at hm
 refine zAD (args := [v1]) Tryz.func14 rfl rfl rfl ?_
 have hL := zAJ w0
 refine CSR ?_
 refine zAa (zBb (cs := #[(IV 0), (IV 0), (.slice none 0 0)]) hL zA5 rfl rfl ?_)
 intro wd3 b4 hL
 refine OV (.slice none 0 0) rfl (zAb) <| OV (.slice none 0 0) rfl (zAb) <| OV (IV 0) rfl (zAb) <| ONR <| OV v1 rfl (zAe) ?_
 obtain ⟨x5, hx6, hm⟩ := zAs hm
 refine zAa (OP.call rfl (zAq (vs := [v1]) zOx ⟨rfl, trivial⟩) (zJZ _ a0 (hL.rdS 1 rfl h2) hx6) ?_)
 rintro e8 wd9 ⟨b7, rfl, aL⟩
 refine ⟨_, rfl, ?_⟩
 have hL := hL.pushAll aL
 simp only [lA, lB, lC, lD] at hL
 refine OV (PV b7 0) rfl (zAb) <| ONR <| OV (PV b7 0) rfl (zAe) ?_
 obtain ⟨aA, aM, hm⟩ := zAs hm
 refine zAa (OP.call rfl (zAq (vs := [(PV b7 0)]) zRf ⟨rfl, trivial⟩) (zMg _ (Src.mk a0 x5.1 x5.2) (hL.exS 2 0 (by decide) rfl rfl h2) (hL.get 0 rfl) aM) ?_)
 rintro bB aU ⟨aB, aH, aC, aI, rfl, aN⟩
 refine ⟨_, rfl, ?_⟩
 have hL := hL.mut 0 rfl aN
 simp only [lA, lB, lC, lD] at hL
 refine OV (.tuple #[(.agg #[(IV aA.1.1.Boats), (IV aA.1.1.Scheme), aB]), aC]) rfl (zAe) <| OV (.agg #[(IV aA.1.1.Boats), (IV aA.1.1.Scheme), aB]) rfl (zA7 rfl rfl) <| OV aC rfl (zA7 rfl rfl) ?_
 refine zAa (zBb (cs := #[(IV 0), (IV 0), (.slice none 0 0)]) hL zA5 rfl rfl ?_)
 intro aV aJ hL
 refine zAa (zA9 (l := [(IV aA.1.1.Boats), (IV aA.1.1.Scheme), aB]) (cs' := #[(IV aA.1.1.Boats), (IV aA.1.1.Scheme), aB]) hL 0 rfl zA5 rfl rfl (fc ⟨rfl, (fc ⟨rfl, (fc ⟨zBI (hL.rdO 1 rfl), fz⟩)⟩)⟩) rfl (nle rfl) rfl ?_)
 intro aW hL
 refine OV aC rfl (zAb) <| ONR <| OV (PV b7 0) rfl (zAe) ?_
 obtain ⟨aG, aO, hm⟩ := zAs hm
 refine zAa (OP.call rfl (zAq (vs := [(PV b7 0)]) zRg ⟨rfl, trivial⟩) (zKL _ (Src.mk a0 aA.2.1 aA.2.2) (hL.exS 5 3 (by decide) rfl rfl h2) (hL.get 3 rfl) aO) ?_)
 rintro bC aX ⟨aD, aK, rfl, aP⟩
 refine ⟨_, rfl, ?_⟩
 have hL := hL.mut 3 rfl aP
 simp only [lA, lB, lC, lD] at hL
 refine OV aD rfl (zAb) <| ONS ?_
 refine zDG (fun w' => Hp w0 [Ent.own 2 aK aD aG.1, Ent.blk aJ 38 #[(IV aA.1.1.Boats), (IV aA.1.1.Scheme), aB], Ent.own 101 aH aB aA.1.1.Races, Ent.own 49 aI aC aA.1.2, zAg w0 w0.heap.size] w') zAQ ?_
 have hL := hL.call (zA8 _)
 have hS := (hL.sl [0, 1, 2, 3, 6] rfl)
 refine zAw 0 rfl (by kernel_rfl) rfl rfl hS (zAp (v := (.agg #[(IV aA.1.1.Boats), (IV aA.1.1.Scheme), aB])) (fun w' hS' => zAW (cs := [(IV aA.1.1.Boats), (IV aA.1.1.Scheme), aB]) U38 zA5 rfl rfl (hS'.cellsB 1 rfl (o := 0) (l := [(IV aA.1.1.Boats), (IV aA.1.1.Scheme), aB]) (by intro j u hj; exact (by simpa using hj))))) ?_
 have hS := (hL.sl [0, 1, 2, 3, 6] rfl)
 refine zAw 1 rfl (by kernel_rfl) rfl rfl hS (zAp (v := aC) (fun w' hS' => zAe)) ?_
 have hS := (hL.sl [0, 1, 2, 3, 6] rfl)
 refine zAw 2 rfl (by kernel_rfl) rfl rfl hS (zAp (v := aD) (fun w' hS' => zAe)) ?_
 have hS := (hL.sl [0, 1, 2, 3, 6] rfl)
 refine zAw 3 rfl (by kernel_rfl) rfl rfl hS (zAp (v := (PV b7 0)) (fun w' hS' => zAe)) ?_
 have hS := (hL.sl [0, 1, 2, 3, 6] rfl)
 refine zAw 4 rfl (by kernel_rfl) rfl rfl hS (zAp (v := (PV aJ 0)) (fun w' hS' => zAc (fsz := 1) 0 0 0 U38 rfl zAf rfl rfl rfl)) ?_
 have hS := (hL.sl [0, 1, 2, 3, 6] rfl)
 refine zAw 5 rfl (by kernel_rfl) rfl rfl hS (zAp (v := (IV aA.1.1.Boats)) (fun w' hS' => zAd U2 rfl rfl (hS'.cellB 1 rfl rfl))) ?_
 have hS := (hL.sl [0, 1, 2, 3, 6] rfl)
 refine zAw 6 rfl (by kernel_rfl) rfl rfl hS (zAp (v := (IV (max 1 aA.1.1.Boats))) (fun w' hS' => zKQ rfl rfl)) ?_
 have hS := (hL.sl [0, 1, 2, 3, 6] rfl)
 refine zAw 8 rfl (by kernel_rfl) rfl rfl hS (zAp (v := (PV b7 0)) (fun w' hS' => zAe)) ?_
 obtain ⟨aE, aQ, hm⟩ := zAs hm
 refine zAT 7 rfl (by kernel_rfl) (OP.call rfl (zAq (vs := [(PV b7 0), (IV (max 1 aA.1.1.Boats))]) zA6 ⟨rfl, rfl, trivial⟩) (zAu _ (Src.mk a0 aG.2.1 aG.2.2) (hL.exS 6 4 (by decide) rfl rfl h2) (hL.get 4 rfl) (max 1 aA.1.1.Boats) aQ) ?_)
 rintro bD aY ⟨rfl, aR⟩
 refine ⟨_, rfl, ?_⟩
 have hL := hL.mut 4 rfl aR
 simp only [lA, lB, lC, lD] at hL
 refine ⟨(hL.sl [0, 1, 2, 3, 6] rfl), ?_⟩
 obtain ⟨aF, aS, hm⟩ := zAs hm
 refine zAT 9 rfl (by kernel_rfl) (OP.call rfl (zAq (vs := [(PV b7 0), (IV 24)]) zA6 ⟨rfl, rfl, trivial⟩) (zAu _ (Src.mk a0 aE.2.1 aE.2.2) (hL.exS 6 4 (by decide) rfl rfl h2) (hL.get 4 rfl) 24 aS) ?_)
 rintro bE aZ ⟨rfl, aT⟩
 refine ⟨_, rfl, ?_⟩
 have hL := hL.mut 4 rfl aT
 simp only [lA, lB, lC, lD] at hL
 refine ⟨(hL.sl [0, 1, 2, 3, 6] rfl), ?_⟩
 have hS := (hL.sl [0, 1, 2, 3, 6] rfl)
 refine zAw 10 rfl (by kernel_rfl) rfl rfl hS (zAp (v := (IV (w64 (aF.1.tdiv 23)))) (fun w' hS' => zL1 rfl rfl (by decide))) ?_
 have hS := (hL.sl [0, 1, 2, 3, 6] rfl)
 refine zAw 11 rfl (by kernel_rfl) rfl rfl hS (zAp (v := (IV (w64 (16 * (w64 (aF.1.tdiv 23)))))) (fun w' hS' => zHP rfl rfl)) ?_
 have hS := (hL.sl [0, 1, 2, 3, 6] rfl)
 refine zAw 12 rfl (by kernel_rfl) rfl rfl hS (zAp (v := (IV (w64 (aE.1 + (w64 (16 * (w64 (aF.1.tdiv 23)))))))) (fun w' hS' => zBe rfl rfl)) ?_
 refine zAT 13 rfl (by kernel_rfl) (zA9 (l := [(IV aA.1.1.Boats), (IV aA.1.1.Scheme), aB]) (cs' := #[(IV aA.1.1.Boats), (IV aA.1.1.Scheme), aB]) hL 5 rfl zA5 rfl rfl (fc ⟨rfl, (fc ⟨rfl, (fc ⟨zBI (hL.rdO 2 rfl), fz⟩)⟩)⟩) rfl (nle rfl) rfl ?_)
 intro bA hL
 refine ⟨(hL.sl [0, 1, 2, 3, 6] rfl), ?_⟩
 have hS := (hL.sl [0, 1, 2, 3, 6] rfl)
 refine zAw 14 rfl (by kernel_rfl) rfl rfl hS (zAp (v := aC) (fun w' hS' => zAb)) ?_
 have hS := (hL.sl [0, 1, 2, 3, 6] rfl)
 refine zAw 15 rfl (by kernel_rfl) rfl rfl hS (zAp (v := aD) (fun w' hS' => zAb)) ?_
 have hS := (hL.sl [0, 1, 2, 3, 6] rfl)
 refine zAw 16 rfl (by kernel_rfl) rfl rfl hS (zAp (v := (IV (w64 (aE.1 + (w64 (16 * (w64 (aF.1.tdiv 23)))))))) (fun w' hS' => zAb)) ?_
 refine zDB (by kernel_rfl) ?_
 refine zAx ?_
 obtain rfl := oi hm
 exact RRs (v := (.agg #[(IV aA.1.1.Boats), (IV aA.1.1.Scheme), aB])) (v2 := aC) (vs := [aD, (IV (w64 (aE.1 + (w64 (16 * (w64 (aF.1.tdiv 23)))))))]) (rs := [.cell 2 38, .tmp 3, .tmp 4, .tmp 5]) rfl ⟨zIB rfl (zCN U38 zA5 (hL.get 5 rfl) rfl), zJs rfl, zJs rfl, zJs rfl, trivial⟩ ⟨aB, aH, aC, aI, aD, aK, rfl, hL.fresh 6 rfl [2, 3, 0] (by decide) (by decide) rfl⟩

theorem zHz (w0 : World) (a0 : Int) {r : Bool} (hm : zD3 a0 = some r) :
    Calls Tryz.prog 55 #[(IV a0)] w0 fun e w' => e = .returned (.bool r) ∧ Fresh w0 w' [] := by
 unfold zD3 at hm
 refine zAD (args := [(IV a0)]) Tryz.func55 rfl rfl rfl ?_
 have hL := zAJ w0
 refine CSR <| OV (.bool false) rfl (zAb) <| ONR <| OV (IV a0) rfl (zAe) ?_
 obtain ⟨x1, hx2, hm⟩ := zAs hm
 refine zAa (OP.call rfl (zAq (vs := [(IV a0), (IV 0), (IV 15)]) zD4 ⟨rfl, rfl, rfl, trivial⟩) (zBn _ a0 0 15 hx2) ?_)
 rintro e3 wd4 ⟨rfl, hF5⟩
 refine ⟨_, rfl, ?_⟩
 have hL := hL.pushAll hF5
 simp only [lA, lB, lC, lD] at hL
 refine OV (.bool x1) rfl (zAb) <| OW.nil <| zAx ?_
 obtain rfl := oi hm
 exact RR1 rfl rfl ⟨rfl, hL.fresh 0 rfl [] (by decide) (by decide) rfl⟩

theorem zLM (w0 : World) (a0 : Finish) {r : Bool} (hm : zH5 a0 = some r) :
    Calls Tryz.prog 142 #[(.agg #[(IV a0.Boat), (IV a0.Code), (IV a0.Time)])] w0 fun e w' => e = .returned (.bool r) ∧ Fresh w0 w' [] := by
 unfold zH5 at hm
 refine zAD (args := [(.agg #[(IV a0.Boat), (IV a0.Code), (IV a0.Time)])]) Tryz.func142 rfl rfl rfl ?_
 have hL := zAJ w0
 refine CSR ?_
 refine zAa (zC3 (cs := #[(IV a0.Boat), (IV a0.Code), (IV a0.Time)]) hL rfl rfl rfl ?_)
 intro wd1 b2 hL
 refine OV (.bool false) rfl (zAb) <| ONS <| CSR <| OV (PV b2 1) rfl (zAc (fsz := 1) 0 1 1 zFd rfl zAf rfl rfl rfl) <| OV (IV a0.Code) rfl (zAd U2 rfl rfl (hL.cellB 0 rfl rfl)) <| OV (.bool (a0.Code == 0)) rfl (zBv rfl rfl) <| OW.nil ?_
 refine zAn (t := a0.Code == 0) rfl hm (fun hb3 hm => ?_) (fun hb3 hm => ?_)
 · refine zAM (fun (s_j1 : Bool) F w => F 2 = (.bool s_j1) ∧ Hp w0 [Ent.blk b2 103 #[(IV a0.Boat), (IV a0.Code), (IV a0.Time)], zAg w0 w0.heap.size] w) (fun s_j1 => zF1 s_j1 = some r) ?_ ?_
   · refine zAl <| OV (PV b2 0) rfl (zAc (fsz := 1) 0 0 0 zFd rfl zAf rfl rfl rfl) <| OV (IV a0.Boat) rfl (zAd U2 rfl rfl (hL.cellB 0 rfl rfl)) ?_
     obtain ⟨aN, aF, hm⟩ := zAs hm
     refine zAa (OP.call rfl (zAq (vs := [(IV a0.Boat)]) zK0 ⟨rfl, trivial⟩) (zHz _ a0.Boat aF) ?_)
     rintro aX aR ⟨rfl, aG⟩
     refine ⟨_, rfl, ?_⟩
     have hL := hL.pushAll aG
     simp only [lA, lB, lC, lD] at hL
     refine OV (.bool aN) rfl (zAe) ?_
     refine zAH hm (fun aA hm => ?_) (fun aA hm => ?_)
     · refine zAa (zAj rfl rfl aA (zAk (v := (PV b2 2)) rfl (zAc (fsz := 1) 0 2 2 zFd rfl zAf rfl rfl rfl) ?_))
       refine zAa (zAj rfl rfl aA (zAk (v := (IV a0.Time)) rfl (zAd U2 rfl rfl (hL.cellB 0 rfl rfl)) ?_))
       obtain ⟨aD, aH, hm⟩ := zAs hm
       refine zAa (zAj rfl rfl aA (OP.call rfl (zAq (vs := [(IV a0.Time), (IV 1), (IV 1000000000)]) zD4 ⟨rfl, rfl, rfl, trivial⟩) (zBn _ a0.Time 1 1000000000 aH) ?_))
       rintro aY aS ⟨rfl, aI⟩
       refine ⟨_, rfl, ?_⟩
       have hL := hL.pushAll aI
       simp only [lA, lB, lC, lD] at hL
       refine OV (.bool aD) rfl (zAz rfl aA rfl) <| OV (.bool aD) rfl (zAb) <| OW.nil ?_
       exact ⟨aD, hm, ⟨rfl, hL⟩⟩
     refine zAa (zAh rfl rfl aA rfl ?_)
     refine zAa (zAh rfl rfl aA rfl ?_)
     refine zAa (zAh rfl rfl aA rfl ?_)
     refine OV (.bool false) rfl (zAA rfl aA rfl) <| OV (.bool false) rfl (zAb) <| OW.nil ?_
     exact ⟨false, hm, ⟨rfl, hL⟩⟩
   intro s_j1 aZ aT hJ hm
   unfold zF1 at hm
   obtain ⟨aO, hL⟩ := hJ
   refine zAx ?_
   obtain rfl := oi hm
   exact RR1 rfl aO ⟨rfl, hL.fresh 1 rfl [] (by decide) (by decide) rfl⟩
 refine zAt ?_
 refine zAM (fun (s_j2 : Bool) F w => F 2 = (.bool s_j2) ∧ Hp w0 [Ent.blk b2 103 #[(IV a0.Boat), (IV a0.Code), (IV a0.Time)], zAg w0 w0.heap.size] w) (fun s_j2 => zEH s_j2 = some r) ?_ ?_
 · refine zAl <| OV (PV b2 0) rfl (zAc (fsz := 1) 0 0 0 zFd rfl zAf rfl rfl rfl) <| OV (IV a0.Boat) rfl (zAd U2 rfl rfl (hL.cellB 0 rfl rfl)) ?_
   obtain ⟨aP, aJ, hm⟩ := zAs hm
   refine zAa (OP.call rfl (zAq (vs := [(IV a0.Boat)]) zK0 ⟨rfl, trivial⟩) (zHz _ a0.Boat aJ) ?_)
   rintro bA aU ⟨rfl, aK⟩
   refine ⟨_, rfl, ?_⟩
   have hL := hL.pushAll aK
   simp only [lA, lB, lC, lD] at hL
   refine OV (.bool aP) rfl (zAe) ?_
   refine zAH hm (fun aB hm => ?_) (fun aB hm => ?_)
   · refine zAa (zAj rfl rfl aB (zAk (v := (PV b2 1)) rfl (zAc (fsz := 1) 0 1 1 zFd rfl zAf rfl rfl rfl) ?_))
     refine zAa (zAj rfl rfl aB (zAk (v := (IV a0.Code)) rfl (zAd U2 rfl rfl (hL.cellB 0 rfl rfl)) ?_))
     obtain ⟨aE, aL, hm⟩ := zAs hm
     refine zAa (zAj rfl rfl aB (OP.call rfl (zAq (vs := [(IV a0.Code), (IV 1), (IV 9)]) zD4 ⟨rfl, rfl, rfl, trivial⟩) (zBn _ a0.Code 1 9 aL) ?_))
     rintro bB aV ⟨rfl, aM⟩
     refine ⟨_, rfl, ?_⟩
     have hL := hL.pushAll aM
     simp only [lA, lB, lC, lD] at hL
     refine OV (.bool aE) rfl (zAz rfl aB rfl) <| OV (.bool aE) rfl (zAe) ?_
     refine zAH hm (fun aC hm => ?_) (fun aC hm => ?_)
     · refine zAa (zAj rfl rfl aC (zAk (v := (PV b2 2)) rfl (zAc (fsz := 1) 0 2 2 zFd rfl zAf rfl rfl rfl) ?_))
       refine zAa (zAj rfl rfl aC (zAk (v := (IV a0.Time)) rfl (zAd U2 rfl rfl (hL.cellB 0 rfl rfl)) ?_))
       refine zAa (zAj rfl rfl aC (zAk (v := (.bool (a0.Time == 0))) rfl (zBv rfl rfl) ?_))
       refine OV (.bool (a0.Time == 0)) rfl (zAz rfl aC rfl) <| OV (.bool (a0.Time == 0)) rfl (zAb) <| OW.nil ?_
       exact ⟨a0.Time == 0, hm, ⟨rfl, hL⟩⟩
     refine zAa (zAh rfl rfl aC rfl ?_)
     refine zAa (zAh rfl rfl aC rfl ?_)
     refine zAa (zAh rfl rfl aC rfl ?_)
     refine OV (.bool false) rfl (zAA rfl aC rfl) <| OV (.bool false) rfl (zAb) <| OW.nil ?_
     exact ⟨false, hm, ⟨rfl, hL⟩⟩
   refine zAa (zAh rfl rfl aB rfl ?_)
   refine zAa (zAh rfl rfl aB rfl ?_)
   refine zAa (zAh rfl rfl aB rfl ?_)
   refine OV (.bool false) rfl (zAA rfl aB rfl) <| OV (.bool false) rfl (zAe) ?_
   refine zAa (zAh rfl rfl rfl rfl ?_)
   refine zAa (zAh rfl rfl rfl rfl ?_)
   refine zAa (zAh rfl rfl rfl rfl ?_)
   refine OV (.bool false) rfl (zAA rfl rfl rfl) <| OV (.bool false) rfl (zAb) <| OW.nil ?_
   exact ⟨false, hm, ⟨rfl, hL⟩⟩
 intro s_j2 bC aW hJ hm
 unfold zEH at hm
 obtain ⟨aQ, hL⟩ := hJ
 refine zAx ?_
 obtain rfl := oi hm
 exact RR1 rfl aQ ⟨rfl, hL.fresh 1 rfl [] (by decide) (by decide) rfl⟩

theorem zKM (w0 : World) (a0 : Int) (a1 : List Finish) {v1 : Value} (h2 : rdL (· < w0.heap.size) w0 v1 a1) {r : Bool} (hm : zF2 a0 a1 = some r) :
    Calls Tryz.prog 123 #[(IV a0), v1] w0 fun e w' => e = .returned (.bool r) ∧ Fresh w0 w' [] := by
 unfold zF2 at hm
 refine zAD (args := [(IV a0), v1]) Tryz.func123 rfl rfl rfl ?_
 have hL := zAJ w0
 refine CSR <| OV (.bool false) rfl (zAb) <| ONS ?_
 refine zAM (fun (s_j1 : Bool) F w => F 1 = v1 ∧ F 15 = (.bool s_j1) ∧ Hp w0 [zAg w0 w0.heap.size] w) (fun s_j1 => zEA a1 s_j1 = some r) ?_ ?_
 · refine zAl <| OV (IV a0) rfl (zAe) ?_
   obtain ⟨aI, aK, hm⟩ := zAs hm
   refine zAa (OP.call rfl (zAq (vs := [(IV a0), (IV 1), (IV 16)]) zD4 ⟨rfl, rfl, rfl, trivial⟩) (zBn _ a0 1 16 aK) ?_)
   rintro bI bF ⟨rfl, aL⟩
   refine ⟨_, rfl, ?_⟩
   have hL := hL.pushAll aL
   simp only [lA, lB, lC, lD] at hL
   refine OV (.bool (!aI)) rfl (zCb rfl) <| OV (.bool (!aI)) rfl (zAe) ?_
   refine zAH hm (fun aB hm => ?_) (fun aB hm => ?_)
   · refine zAa (zAh rfl rfl aB rfl ?_)
     refine zAa (zAh rfl rfl aB rfl ?_)
     refine zAa (zAh rfl rfl aB rfl ?_)
     refine zAa (zAh rfl rfl aB rfl ?_)
     refine OV (.bool true) rfl (zAz rfl aB rfl) <| OW.nil ?_
     exact ⟨true, hm, ⟨rfl, rfl, hL⟩⟩
   refine zAa (zAj rfl rfl aB (zAk (v := v1) rfl (zAe) ?_))
   refine zAa (zAj rfl rfl aB (zAk (v := (IV (a1.length : Int))) rfl (zA3 U99 rfl (hL.rdS 0 rfl h2)) ?_))
   refine zAa (zAj rfl rfl aB (zAk (v := (IV a0)) rfl (zAe) ?_))
   refine zAa (zAj rfl rfl aB (zAk (v := (.bool ((a1.length : Int) != a0))) rfl (zDk rfl rfl) ?_))
   refine OV (.bool ((a1.length : Int) != a0)) rfl (zAA rfl aB rfl) <| OW.nil ?_
   exact ⟨(a1.length : Int) != a0, hm, ⟨rfl, rfl, hL⟩⟩
 intro s_j1 F9 bJ hJ hm
 unfold zEA at hm
 obtain ⟨bA, bB, hL⟩ := hJ
 refine zAn (t := s_j1) bB hm (fun aQ hm => ?_) (fun aQ hm => ?_)
 · refine CSR <| OV (.bool false) rfl (zAb) <| OW.nil <| zAx ?_
   obtain rfl := oi hm
   exact RR1 rfl rfl ⟨rfl, hL.fresh 0 rfl [] (by decide) (by decide) rfl⟩
 refine zAt <| zAF <| CSR <| OV v1 rfl (zAo bA) <| OV (IV (a1.length : Int)) rfl (zA3 U99 rfl (hL.rdS 0 rfl h2)) <| OV (IV 0) rfl (zAe) <| OW.nil ?_
 obtain ⟨bQ, aR, hm⟩ := zAs hm
 refine zAU (fun (s_l1 : Int) F w => F 16 = v1 ∧ F 17 = (IV (a1.length : Int)) ∧ F 18 = (IV s_l1) ∧ Hp w0 [zAg w0 w0.heap.size] w) (fun o => zBh o (fun x => some x) (fun s => zEx s) = some r) aR hm ⟨rfl, rfl, rfl, hL⟩ ?_ ?_
 · intro s_l1 bR bK hJ hm
   have hm := zBD hm
   have hm : zEx s_l1 = some r := hm
   unfold zEx at hm
   obtain ⟨bS, bT, bU, hL⟩ := hJ
   refine CSR <| OV (.bool true) rfl (zAb) <| OW.nil <| zAx ?_
   obtain rfl := oi hm
   exact RR1 rfl rfl ⟨rfl, hL.fresh 0 rfl [] (by decide) (by decide) rfl⟩
 intro s_l1 bV bL bC hJ hm aS
 unfold zEz at hm
 obtain ⟨aF, aG, aD, hL⟩ := hJ
 refine CSR <| OV (.bool (decide (s_l1 < (a1.length : Int)))) rfl (zBE aD aG) <| ONS ?_
 refine zAn (t := decide (s_l1 < (a1.length : Int))) rfl hm (fun aT hm => ?_) (fun aT hm => ?_)
 · refine zAt <| zAF <| CW.block <| CSR <| OV (IV s_l1) rfl (zAo aD) ?_
   obtain ⟨aA, aU, hm⟩ := zAs hm
   obtain ⟨aV, aJ⟩ := zAZ aU
   obtain ⟨bD, bE, aH⟩ := zAC (hL.rdS 0 rfl h2) aV aJ
   refine OV (.pointer (some ⟨bD, bE, none⟩)) rfl (zA1 U99 zAP aF aD aH) <| OV (.agg #[(IV aA.Boat), (IV aA.Code), (IV aA.Time)]) rfl (zAW (cs := [(IV aA.Boat), (IV aA.Code), (IV aA.Time)]) zFd zAP rfl rfl (zAv (hL.rdS 0 rfl h2) aH aJ)) ?_
   refine zAa (zBb (cs := #[(IV 0), (IV 0), (IV 0)]) hL zAP rfl rfl ?_)
   intro bM aP hL
   refine OV (IV s_l1) rfl (zAb) ?_
   refine zAa (zA9 (l := [(IV aA.Boat), (IV aA.Code), (IV aA.Time)]) (cs' := #[(IV aA.Boat), (IV aA.Code), (IV aA.Time)]) hL 0 rfl zAP rfl rfl (fc ⟨rfl, (fc ⟨rfl, (fc ⟨rfl, fz⟩)⟩)⟩) rfl (nle rfl) rfl ?_)
   intro bN hL
   refine OW.nil ?_
   refine zAM (fun (s_j2 : Bool) F w => F 16 = v1 ∧ F 17 = (IV (a1.length : Int)) ∧ F 18 = (IV s_l1) ∧ F 31 = (.bool s_j2) ∧ Hp w0 [Ent.blk aP 103 #[(IV aA.Boat), (IV aA.Code), (IV aA.Time)], zAg w0 w0.heap.size] w) (fun s_j2 => zEy s_l1 s_j2 = some bC) ?_ ?_
   · refine zAl <| OV (PV aP 0) rfl (zAc (fsz := 1) 0 0 0 zFd rfl zAf rfl rfl rfl) <| OV (IV aA.Boat) rfl (zAd U2 rfl rfl (hL.cellB 0 rfl rfl)) <| OV (IV s_l1) rfl (zAe) <| OV (.bool (aA.Boat != s_l1)) rfl (zDk rfl rfl) <| OV (.bool (aA.Boat != s_l1)) rfl (zAe) ?_
     refine zAH hm (fun aC hm => ?_) (fun aC hm => ?_)
     · refine zAa (zAh rfl rfl aC rfl ?_)
       refine zAa (zAh rfl rfl aC rfl ?_)
       refine zAa (zAh rfl rfl aC rfl ?_)
       refine OV (.bool true) rfl (zAz rfl aC rfl) <| OW.nil ?_
       exact ⟨true, hm, ⟨aF, aG, aD, rfl, hL⟩⟩
     refine zAa (zAj rfl rfl aC (zAk (v := (.agg #[(IV aA.Boat), (IV aA.Code), (IV aA.Time)])) rfl (zAW (cs := [(IV aA.Boat), (IV aA.Code), (IV aA.Time)]) zFd zAP rfl rfl (hL.cellsB 0 rfl (o := 0) (l := [(IV aA.Boat), (IV aA.Code), (IV aA.Time)]) (by intro j u hj; exact (by simpa using hj)))) ?_))
     obtain ⟨aE, aM, hm⟩ := zAs hm
     refine zAa (zAj rfl rfl aC (OP.call rfl (zAq (vs := [(.agg #[(IV aA.Boat), (IV aA.Code), (IV aA.Time)])]) zQs ⟨rfl, trivial⟩) (zLM _ aA aM) ?_))
     rintro bO bG ⟨rfl, aN⟩
     refine ⟨_, rfl, ?_⟩
     have hL := hL.pushAll aN
     simp only [lA, lB, lC, lD] at hL
     refine zAa (zAj rfl rfl aC (zAk (v := (.bool (!aE))) rfl (zCb rfl) ?_))
     refine OV (.bool (!aE)) rfl (zAA rfl aC rfl) <| OW.nil ?_
     exact ⟨!aE, hm, ⟨aF, aG, aD, rfl, hL⟩⟩
   intro s_j2 bP bH hJ hm
   unfold zEy at hm
   obtain ⟨aW, aX, aY, aZ, hL⟩ := hJ
   refine zAn (t := s_j2) aZ hm (fun aO hm => ?_) (fun aO hm => ?_)
   · refine CSR <| OV (.bool false) rfl (zAb) <| OW.nil <| zAx ?_
     obtain rfl := oi hm
     have hm := aS _ rfl
     obtain rfl := oi hm
     exact RR1 rfl rfl ⟨rfl, hL.fresh 1 rfl [] (by decide) (by decide) rfl⟩
   refine zAt <| zAl <| OV (IV (w64 (s_l1 + 1))) rfl (zBe aY rfl) <| OV (IV (w64 (s_l1 + 1))) rfl (zAe) <| OW.nil ?_
   have hL := hL.sl [1] rfl
   obtain rfl := oi hm
   exact ⟨_, rfl, ⟨aW, aX, rfl, hL⟩⟩
 refine zA0 ?_
 refine zBk ?_
 obtain rfl := oi hm
 exact ⟨_, rfl, ⟨aF, aG, aD, hL⟩⟩

theorem zMw (w0 : World) (a0 : Int) (a1 : Race) {v1 : Value} (h2 : rdL (· < w0.heap.size) w0 v1 a1.Finishes) {r : Bool} (hm : zIO a0 a1 = some r) :
    Calls Tryz.prog 107 #[(IV a0), (.agg #[v1])] w0 fun e w' => e = .returned (.bool r) ∧ Fresh w0 w' [] := by
 unfold zIO at hm
 refine zAD (args := [(IV a0), (.agg #[v1])]) Tryz.func107 rfl rfl rfl ?_
 have hL := zAJ w0
 refine CSR ?_
 refine zAa (zC3 (cs := #[v1]) hL rfl rfl rfl ?_)
 intro wd3 b4 hL
 refine OV (.bool false) rfl (zAb) <| ONR <| OV (IV a0) rfl (zAe) <| OV (PV b4 0) rfl (zAc (fsz := 1) 0 0 0 zIJ rfl zCr rfl rfl rfl) <| OV v1 rfl (zAd U99 rfl rfl (hL.cellB 0 rfl rfl)) ?_
 obtain ⟨x5, hx6, hm⟩ := zAs hm
 refine zAa (OP.call rfl (zAq (vs := [(IV a0), v1]) zQn ⟨rfl, rfl, trivial⟩) (zKM _ a0 a1.Finishes (hL.rdS 1 rfl h2) hx6) ?_)
 rintro e7 wd8 ⟨rfl, hF9⟩
 refine ⟨_, rfl, ?_⟩
 have hL := hL.pushAll hF9
 simp only [lA, lB, lC, lD] at hL
 refine OV (.bool x5) rfl (zAb) <| OW.nil <| zAx ?_
 obtain rfl := oi hm
 exact RR1 rfl rfl ⟨rfl, hL.fresh 1 rfl [] (by decide) (by decide) rfl⟩

theorem zLN (w0 : World) (a0 : Int) {r : Bool} (hm : zIT a0 = some r) :
    Calls Tryz.prog 108 #[(IV a0)] w0 fun e w' => e = .returned (.bool r) ∧ Fresh w0 w' [] := by
 unfold zIT at hm
 refine zAD (args := [(IV a0)]) Tryz.func108 rfl rfl rfl ?_
 have hL := zAJ w0
 refine CSR <| OV (.bool false) rfl (zAb) <| ONR <| OV (IV a0) rfl (zAe) ?_
 obtain ⟨x1, hx2, hm⟩ := zAs hm
 refine zAa (OP.call rfl (zAq (vs := [(IV a0), (IV 0), (IV 1)]) zD4 ⟨rfl, rfl, rfl, trivial⟩) (zBn _ a0 0 1 hx2) ?_)
 rintro e3 wd4 ⟨rfl, hF5⟩
 refine ⟨_, rfl, ?_⟩
 have hL := hL.pushAll hF5
 simp only [lA, lB, lC, lD] at hL
 refine OV (.bool x1) rfl (zAb) <| OW.nil <| zAx ?_
 obtain rfl := oi hm
 exact RR1 rfl rfl ⟨rfl, hL.fresh 0 rfl [] (by decide) (by decide) rfl⟩

theorem zLO (w0 : World) (a0 : Series) {v1 : Value} (h2 : rdL (· < w0.heap.size) w0 v1 a0.Races) {r : Bool} (hm : zGC a0 = some r) :
    Calls Tryz.prog 74 #[(.agg #[(IV a0.Boats), (IV a0.Scheme), v1])] w0 fun e w' => e = .returned (.bool r) ∧ Fresh w0 w' [] := by
 unfold zGC at hm
 refine zAD (args := [(.agg #[(IV a0.Boats), (IV a0.Scheme), v1])]) Tryz.func74 rfl rfl rfl ?_
 have hL := zAJ w0
 refine CSR ?_
 refine zAa (zC3 (cs := #[(IV a0.Boats), (IV a0.Scheme), v1]) hL rfl rfl rfl ?_)
 intro wd3 b4 hL
 refine OV (.bool false) rfl (zAb) <| ONS <| CSR <| OV (PV b4 2) rfl (zAc (fsz := 1) 0 2 2 U38 rfl zCq rfl rfl rfl) <| OV v1 rfl (zAd U36 rfl rfl (hL.cellB 0 rfl rfl)) <| OV (IV (a0.Races.length : Int)) rfl (zA3 U36 rfl (hL.rdS 1 rfl h2)) <| OV (IV 0) rfl (zAe) <| OW.nil ?_
 obtain ⟨bQ, aQ, hm⟩ := zAs hm
 refine zAU (fun (s_l1 : Int) F w => F 1 = (PV b4 0) ∧ F 6 = v1 ∧ F 7 = (IV (a0.Races.length : Int)) ∧ F 8 = (IV s_l1) ∧ Hp w0 [Ent.blk b4 38 #[(IV a0.Boats), (IV a0.Scheme), v1], zAg w0 w0.heap.size] w) (fun o => zBh o (fun x => some x) (fun s => zF9 a0 s) = some r) aQ hm ⟨rfl, rfl, rfl, rfl, hL⟩ ?_ ?_
 · intro s_l1 bR bJ hJ hm
   have hm := zBD hm
   have hm : zF9 a0 s_l1 = some r := hm
   unfold zF9 at hm
   obtain ⟨aF, bS, bT, bU, hL⟩ := hJ
   refine zAM (fun (s_j1 : Bool) F w => F 2 = (.bool s_j1) ∧ Hp w0 [Ent.blk b4 38 #[(IV a0.Boats), (IV a0.Scheme), v1], zAg w0 w0.heap.size] w) (fun s_j1 => zEL s_j1 = some r) ?_ ?_
   · refine zAl <| OV (PV b4 0) rfl (zAc (fsz := 1) 0 0 0 U38 rfl zAf rfl aF rfl) <| OV (IV a0.Boats) rfl (zAd U2 rfl rfl (hL.cellB 0 rfl rfl)) ?_
     obtain ⟨bB, aR, hm⟩ := zAs hm
     refine zAa (OP.call rfl (zAq (vs := [(IV a0.Boats), (IV 1), (IV 16)]) zD4 ⟨rfl, rfl, rfl, trivial⟩) (zBn _ a0.Boats 1 16 aR) ?_)
     rintro bV bK ⟨rfl, aS⟩
     refine ⟨_, rfl, ?_⟩
     have hL := hL.pushAll aS
     simp only [lA, lB, lC, lD] at hL
     refine OV (.bool bB) rfl (zAe) ?_
     refine zAH hm (fun aB hm => ?_) (fun aB hm => ?_)
     · refine zAa (zAj rfl rfl aB (zAk (v := (PV b4 1)) rfl (zAc (fsz := 1) 0 1 1 U38 rfl zAf rfl aF rfl) ?_))
       refine zAa (zAj rfl rfl aB (zAk (v := (IV a0.Scheme)) rfl (zAd U2 rfl rfl (hL.cellB 0 rfl rfl)) ?_))
       obtain ⟨aP, aT, hm⟩ := zAs hm
       refine zAa (zAj rfl rfl aB (OP.call rfl (zAq (vs := [(IV a0.Scheme)]) zQe ⟨rfl, trivial⟩) (zLN _ a0.Scheme aT) ?_))
       rintro bW bL ⟨rfl, aU⟩
       refine ⟨_, rfl, ?_⟩
       have hL := hL.pushAll aU
       simp only [lA, lB, lC, lD] at hL
       refine OV (.bool aP) rfl (zAz rfl aB rfl) <| OV (.bool aP) rfl (zAe) ?_
       refine zAH hm (fun aA hm => ?_) (fun aA hm => ?_)
       · refine zAa (zAj rfl rfl aA (zAk (v := (PV b4 2)) rfl (zAc (fsz := 1) 0 2 2 U38 rfl zCq rfl aF rfl) ?_))
         refine zAa (zAj rfl rfl aA (zAk (v := v1) rfl (zAd U36 rfl rfl (hL.cellB 0 rfl rfl)) ?_))
         refine zAa (zAj rfl rfl aA (zAk (v := (IV (a0.Races.length : Int))) rfl (zA3 U36 rfl (hL.rdS 1 rfl h2)) ?_))
         refine zAa (zAj rfl rfl aA (zAk (v := (.bool (decide ((a0.Races.length : Int) ≤ 12)))) rfl (zKe rfl rfl) ?_))
         refine OV (.bool (decide ((a0.Races.length : Int) ≤ 12))) rfl (zAz rfl aA rfl) <| OV (.bool (decide ((a0.Races.length : Int) ≤ 12))) rfl (zAb) <| OW.nil ?_
         exact ⟨decide ((a0.Races.length : Int) ≤ 12), hm, ⟨rfl, hL⟩⟩
       refine zAa (zAh rfl rfl aA rfl ?_)
       refine zAa (zAh rfl rfl aA rfl ?_)
       refine zAa (zAh rfl rfl aA rfl ?_)
       refine zAa (zAh rfl rfl aA rfl ?_)
       refine OV (.bool false) rfl (zAA rfl aA rfl) <| OV (.bool false) rfl (zAb) <| OW.nil ?_
       exact ⟨false, hm, ⟨rfl, hL⟩⟩
     refine zAa (zAh rfl rfl aB rfl ?_)
     refine zAa (zAh rfl rfl aB rfl ?_)
     refine zAa (zAh rfl rfl aB rfl ?_)
     refine OV (.bool false) rfl (zAA rfl aB rfl) <| OV (.bool false) rfl (zAe) ?_
     refine zAa (zAh rfl rfl rfl rfl ?_)
     refine zAa (zAh rfl rfl rfl rfl ?_)
     refine zAa (zAh rfl rfl rfl rfl ?_)
     refine zAa (zAh rfl rfl rfl rfl ?_)
     refine OV (.bool false) rfl (zAA rfl rfl rfl) <| OV (.bool false) rfl (zAb) <| OW.nil ?_
     exact ⟨false, hm, ⟨rfl, hL⟩⟩
   intro s_j1 bX bM hJ hm
   unfold zEL at hm
   obtain ⟨bC, hL⟩ := hJ
   refine zAx ?_
   obtain rfl := oi hm
   exact RR1 rfl bC ⟨rfl, hL.fresh 1 rfl [] (by decide) (by decide) rfl⟩
 intro s_l1 bY bN bZ hJ hm aV
 unfold zGa at hm
 obtain ⟨aG, aH, aI, aD, hL⟩ := hJ
 refine CSR <| OV (.bool (decide (s_l1 < (a0.Races.length : Int)))) rfl (zBE aD aI) <| ONS ?_
 refine zAn (t := decide (s_l1 < (a0.Races.length : Int))) rfl hm (fun aW hm => ?_) (fun aW hm => ?_)
 · refine zAt <| zAF <| CW.block <| CSR ?_
   obtain ⟨bD, aX, hm⟩ := zAs hm
   obtain ⟨aY, aK⟩ := zAZ aX
   obtain ⟨bE, bF, aC, aL, aZ, bA, aE⟩ := zCp h2 aY aK
   refine OV (.pointer (some ⟨bE, bF, none⟩)) rfl (zA1 U36 zBd aH aD aL) <| OV (.agg #[aC]) rfl (zAW (cs := [aC]) zIJ zBd rfl rfl (by intro j u hj; match j, hj with | 0, hj => (simp at hj; subst hj; exact (hL.cellS 1 rfl aZ bA)))) ?_
   refine zAa (zBb (cs := #[(.slice none 0 0)]) hL zBd rfl rfl ?_)
   intro bG bO hL
   refine zAa (zA9 (l := [aC]) (cs' := #[aC]) hL 0 rfl zBd rfl rfl (fc ⟨zBI (hL.rdS 2 rfl aE), fz⟩) rfl (nle rfl) rfl ?_)
   intro bH hL
   refine ONR <| OV (PV b4 0) rfl (zAc (fsz := 1) 0 0 0 U38 rfl zAf rfl aG rfl) <| OV (IV a0.Boats) rfl (zAd U2 rfl rfl (hL.cellB 1 rfl rfl)) <| OV (.agg #[aC]) rfl (zAW (cs := [aC]) zIJ zBd rfl rfl (hL.cellsB 0 rfl (o := 0) (l := [aC]) (by intro j u hj; exact (by simpa using hj)))) ?_
   obtain ⟨aJ, aM, hm⟩ := zAs hm
   refine zAa (OP.call rfl (zAq (vs := [(IV a0.Boats), (.agg #[aC])]) zQd ⟨rfl, rfl, trivial⟩) (zMw _ a0.Boats bD (hL.rdS 2 rfl aE) aM) ?_)
   rintro bP bI ⟨rfl, aN⟩
   refine ⟨_, rfl, ?_⟩
   have hL := hL.pushAll aN
   simp only [lA, lB, lC, lD] at hL
   refine OV (.bool (!aJ)) rfl (zCb rfl) <| OW.nil ?_
   refine zAn (t := !aJ) rfl hm (fun aO hm => ?_) (fun aO hm => ?_)
   · refine CSR <| OV (.bool false) rfl (zAb) <| OW.nil <| zAx ?_
     obtain rfl := oi hm
     have hm := aV _ rfl
     obtain rfl := oi hm
     exact RR1 rfl rfl ⟨rfl, hL.fresh 2 rfl [] (by decide) (by decide) rfl⟩
   refine zAt <| zAl <| OV (IV (w64 (s_l1 + 1))) rfl (zBe aD rfl) <| OV (IV (w64 (s_l1 + 1))) rfl (zAe) <| OW.nil ?_
   have hL := hL.sl [1, 2] rfl
   obtain rfl := oi hm
   exact ⟨_, rfl, ⟨aG, aH, aI, rfl, hL⟩⟩
 refine zA0 ?_
 refine zBk ?_
 obtain rfl := oi hm
 exact ⟨_, rfl, ⟨aG, aH, aI, aD, hL⟩⟩

theorem zI1 (w0 : World) (a0 : Int) {r : Bool} (hm : zDR a0 = some r) :
    Calls Tryz.prog 52 #[(IV a0)] w0 fun e w' => e = .returned (.bool r) ∧ Fresh w0 w' [] := by
 unfold zDR at hm
 refine zAD (args := [(IV a0)]) Tryz.func52 rfl rfl rfl ?_
 have hL := zAJ w0
 refine CSR <| OV (.bool false) rfl (zAb) <| OW.nil ?_
 refine zAM (fun (s_j1 : Bool) F w => F 2 = (.bool s_j1) ∧ Hp w0 [zAg w0 w0.heap.size] w) (fun s_j1 => zCK s_j1 = some r) ?_ ?_
 · refine zAl <| OV (IV a0) rfl (zAe) <| OV (.bool (a0 == 6)) rfl (zBv rfl rfl) <| OV (.bool (a0 == 6)) rfl (zAe) ?_
   refine zAH hm (fun hb6 hm => ?_) (fun hb6 hm => ?_)
   · refine zAa (zAh rfl rfl hb6 rfl ?_)
     refine zAa (zAh rfl rfl hb6 rfl ?_)
     refine OV (.bool true) rfl (zAz rfl hb6 rfl) <| OV (.bool true) rfl (zAe) ?_
     refine zAa (zAh rfl rfl rfl rfl ?_)
     refine zAa (zAh rfl rfl rfl rfl ?_)
     refine OV (.bool true) rfl (zAz rfl rfl rfl) <| OV (.bool true) rfl (zAb) <| OW.nil ?_
     exact ⟨true, hm, ⟨rfl, hL⟩⟩
   refine zAa (zAj rfl rfl hb6 (zAk (v := (IV a0)) rfl (zAe) ?_))
   refine zAa (zAj rfl rfl hb6 (zAk (v := (.bool (a0 == 7))) rfl (zBv rfl rfl) ?_))
   refine OV (.bool (a0 == 7)) rfl (zAA rfl hb6 rfl) <| OV (.bool (a0 == 7)) rfl (zAe) ?_
   refine zAH hm (fun hb7 hm => ?_) (fun hb7 hm => ?_)
   · refine zAa (zAh rfl rfl hb7 rfl ?_)
     refine zAa (zAh rfl rfl hb7 rfl ?_)
     refine OV (.bool true) rfl (zAz rfl hb7 rfl) <| OV (.bool true) rfl (zAb) <| OW.nil ?_
     exact ⟨true, hm, ⟨rfl, hL⟩⟩
   refine zAa (zAj rfl rfl hb7 (zAk (v := (IV a0)) rfl (zAe) ?_))
   refine zAa (zAj rfl rfl hb7 (zAk (v := (.bool (a0 == 5))) rfl (zBv rfl rfl) ?_))
   refine OV (.bool (a0 == 5)) rfl (zAA rfl hb7 rfl) <| OV (.bool (a0 == 5)) rfl (zAb) <| OW.nil ?_
   exact ⟨a0 == 5, hm, ⟨rfl, hL⟩⟩
 intro s_j1 F3 wd4 hJ hm
 unfold zCK at hm
 obtain ⟨f5, hL⟩ := hJ
 refine zAx ?_
 obtain rfl := oi hm
 exact RR1 rfl f5 ⟨rfl, hL.fresh 0 rfl [] (by decide) (by decide) rfl⟩

theorem zLs (w0 : World) (a0 : Int) {r : Bool} (hm : zIH a0 = some r) :
    Calls Tryz.prog 90 #[(IV a0)] w0 fun e w' => e = .returned (.bool r) ∧ Fresh w0 w' [] := by
 unfold zIH at hm
 refine zAD (args := [(IV a0)]) Tryz.func90 rfl rfl rfl ?_
 have hL := zAJ w0
 refine CSR <| OV (.bool false) rfl (zAb) <| ONR <| OV (IV a0) rfl (zAe) ?_
 obtain ⟨x1, hx2, hm⟩ := zAs hm
 refine zAa (OP.call rfl (zAq (vs := [(IV a0), (IV 1), (IV 1000000000)]) zD4 ⟨rfl, rfl, rfl, trivial⟩) (zBn _ a0 1 1000000000 hx2) ?_)
 rintro e3 wd4 ⟨rfl, hF5⟩
 refine ⟨_, rfl, ?_⟩
 have hL := hL.pushAll hF5
 simp only [lA, lB, lC, lD] at hL
 refine OV (.bool x1) rfl (zAb) <| OW.nil <| zAx ?_
 obtain rfl := oi hm
 exact RR1 rfl rfl ⟨rfl, hL.fresh 0 rfl [] (by decide) (by decide) rfl⟩

theorem zJH (w0 : World) (a0 : Penalty) {r : Bool} (hm : zFV a0 = some r) :
    Calls Tryz.prog 56 #[(.agg #[(IV a0.Race), (IV a0.Boat), (IV a0.Kind), (IV a0.Value)])] w0 fun e w' => e = .returned (.bool r) ∧ Fresh w0 w' [] := by
 unfold zFV at hm
 refine zAD (args := [(.agg #[(IV a0.Race), (IV a0.Boat), (IV a0.Kind), (IV a0.Value)])]) Tryz.func56 rfl rfl rfl ?_
 have hL := zAJ w0
 refine CSR ?_
 refine zAa (zC3 (cs := #[(IV a0.Race), (IV a0.Boat), (IV a0.Kind), (IV a0.Value)]) hL rfl rfl rfl ?_)
 intro wd1 b2 hL
 refine OV (.bool false) rfl (zAb) <| ONS <| CSR <| OV (PV b2 2) rfl (zAc (fsz := 1) 0 2 2 U49 rfl zAf rfl rfl rfl) <| OV (IV a0.Kind) rfl (zAd U2 rfl rfl (hL.cellB 0 rfl rfl)) <| OW.nil <| CW.block <| CSR <| OV (.bool (a0.Kind == 1)) rfl (zBv rfl rfl) <| OV (.bool (a0.Kind == 1)) rfl (zAb) <| OW.nil ?_
 refine zAn (t := a0.Kind == 1) rfl hm (fun hb3 hm => ?_) (fun hb3 hm => ?_)
 · refine CSR <| OV (PV b2 3) rfl (zAc (fsz := 1) 0 3 3 U49 rfl zAf rfl rfl rfl) <| OV (IV a0.Value) rfl (zAd U2 rfl rfl (hL.cellB 0 rfl rfl)) ?_
   obtain ⟨x4, hx5, hm⟩ := zAs hm
   refine zAa (OP.call rfl (zAq (vs := [(IV a0.Value)]) zOD ⟨rfl, trivial⟩) (zI1 _ a0.Value hx5) ?_)
   rintro e6 wd7 ⟨rfl, hF8⟩
   refine ⟨_, rfl, ?_⟩
   have hL := hL.pushAll hF8
   simp only [lA, lB, lC, lD] at hL
   refine OV (.bool x4) rfl (zAb) <| OW.nil <| zAx ?_
   obtain rfl := oi hm
   exact RR1 rfl rfl ⟨rfl, hL.fresh 1 rfl [] (by decide) (by decide) rfl⟩
 refine CSR <| OV (.bool (a0.Kind == 2)) rfl (zBv rfl rfl) <| OV (.bool (a0.Kind == 2)) rfl (zAb) <| OW.nil ?_
 refine zAn (t := a0.Kind == 2) rfl hm (fun hb9 hm => ?_) (fun hb9 hm => ?_)
 · refine CSR <| OV (PV b2 3) rfl (zAc (fsz := 1) 0 3 3 U49 rfl zAf rfl rfl rfl) <| OV (IV a0.Value) rfl (zAd U2 rfl rfl (hL.cellB 0 rfl rfl)) ?_
   obtain ⟨aG, aC, hm⟩ := zAs hm
   refine zAa (OP.call rfl (zAq (vs := [(IV a0.Value)]) zRJ ⟨rfl, trivial⟩) (zLs _ a0.Value aC) ?_)
   rintro aL aI ⟨rfl, aD⟩
   refine ⟨_, rfl, ?_⟩
   have hL := hL.pushAll aD
   simp only [lA, lB, lC, lD] at hL
   refine OV (.bool aG) rfl (zAb) <| OW.nil <| zAx ?_
   obtain rfl := oi hm
   exact RR1 rfl rfl ⟨rfl, hL.fresh 1 rfl [] (by decide) (by decide) rfl⟩
 refine zAt ?_
 refine zAM (fun (s_j1 : Bool) F w => F 2 = (.bool s_j1) ∧ Hp w0 [Ent.blk b2 49 #[(IV a0.Race), (IV a0.Boat), (IV a0.Kind), (IV a0.Value)], zAg w0 w0.heap.size] w) (fun s_j1 => zFB s_j1 = some r) ?_ ?_
 · refine zAl <| OV (PV b2 2) rfl (zAc (fsz := 1) 0 2 2 U49 rfl zAf rfl rfl rfl) <| OV (IV a0.Kind) rfl (zAd U2 rfl rfl (hL.cellB 0 rfl rfl)) <| OV (.bool (a0.Kind == 3)) rfl (zBv rfl rfl) <| OV (.bool (a0.Kind == 3)) rfl (zAe) ?_
   refine zAH hm (fun aA hm => ?_) (fun aA hm => ?_)
   · refine zAa (zAj rfl rfl aA (zAk (v := (PV b2 3)) rfl (zAc (fsz := 1) 0 3 3 U49 rfl zAf rfl rfl rfl) ?_))
     refine zAa (zAj rfl rfl aA (zAk (v := (IV a0.Value)) rfl (zAd U2 rfl rfl (hL.cellB 0 rfl rfl)) ?_))
     obtain ⟨aB, aE, hm⟩ := zAs hm
     refine zAa (zAj rfl rfl aA (OP.call rfl (zAq (vs := [(IV a0.Value), (IV 1), (IV 100)]) zD4 ⟨rfl, rfl, rfl, trivial⟩) (zBn _ a0.Value 1 100 aE) ?_))
     rintro aM aJ ⟨rfl, aF⟩
     refine ⟨_, rfl, ?_⟩
     have hL := hL.pushAll aF
     simp only [lA, lB, lC, lD] at hL
     refine OV (.bool aB) rfl (zAz rfl aA rfl) <| OV (.bool aB) rfl (zAb) <| OW.nil ?_
     exact ⟨aB, hm, ⟨rfl, hL⟩⟩
   refine zAa (zAh rfl rfl aA rfl ?_)
   refine zAa (zAh rfl rfl aA rfl ?_)
   refine zAa (zAh rfl rfl aA rfl ?_)
   refine OV (.bool false) rfl (zAA rfl aA rfl) <| OV (.bool false) rfl (zAb) <| OW.nil ?_
   exact ⟨false, hm, ⟨rfl, hL⟩⟩
 intro s_j1 aN aK hJ hm
 unfold zFB at hm
 obtain ⟨aH, hL⟩ := hJ
 refine zAx ?_
 obtain rfl := oi hm
 exact RR1 rfl aH ⟨rfl, hL.fresh 1 rfl [] (by decide) (by decide) rfl⟩

theorem zKC (w0 : World) (a0 : Series) {v1 : Value} (h2 : rdL (· < w0.heap.size) w0 v1 a0.Races) (a1 : List Penalty) {v3 : Value} (h4 : rdL (· < w0.heap.size) w0 v3 a1) {r : Bool} (hm : zFC a0 a1 = some r) :
    Calls Tryz.prog 75 #[(.agg #[(IV a0.Boats), (IV a0.Scheme), v1]), v3] w0 fun e w' => e = .returned (.bool r) ∧ Fresh w0 w' [] := by
 unfold zFC at hm
 refine zAD (args := [(.agg #[(IV a0.Boats), (IV a0.Scheme), v1]), v3]) Tryz.func75 rfl rfl rfl ?_
 have hL := zAJ w0
 refine CSR ?_
 refine zAa (zC3 (cs := #[(IV a0.Boats), (IV a0.Scheme), v1]) hL rfl rfl rfl ?_)
 intro wd5 b6 hL
 refine OV (.bool false) rfl (zAb) <| ONS <| CSR <| OV v3 rfl (zAe) <| OV (IV (a1.length : Int)) rfl (zA3 U39 rfl (hL.rdS 1 rfl h4)) <| OV (IV 0) rfl (zAe) <| OW.nil ?_
 obtain ⟨bS, aO, hm⟩ := zAs hm
 refine zAU (fun (s_l1 : Int) F w => F 1 = v3 ∧ F 2 = (PV b6 0) ∧ F 7 = v3 ∧ F 8 = (IV (a1.length : Int)) ∧ F 9 = (IV s_l1) ∧ Hp w0 [Ent.blk b6 38 #[(IV a0.Boats), (IV a0.Scheme), v1], zAg w0 w0.heap.size] w) (fun o => zBh o (fun x => some x) (fun s => zD9 a1 s) = some r) aO hm ⟨rfl, rfl, rfl, rfl, rfl, hL⟩ ?_ ?_
 · intro s_l1 bT bK hJ hm
   have hm := zBD hm
   have hm : zD9 a1 s_l1 = some r := hm
   unfold zD9 at hm
   obtain ⟨bA, bU, bV, bW, bX, hL⟩ := hJ
   refine CSR <| OV v3 rfl (zAo bA) <| OV (IV (a1.length : Int)) rfl (zA3 U39 rfl (hL.rdS 1 rfl h4)) <| OV (.bool (decide ((a1.length : Int) ≤ 60))) rfl (zKe rfl rfl) <| OV (.bool (decide ((a1.length : Int) ≤ 60))) rfl (zAb) <| OW.nil <| zAx ?_
   obtain rfl := oi hm
   exact RR1 rfl rfl ⟨rfl, hL.fresh 1 rfl [] (by decide) (by decide) rfl⟩
 intro s_l1 bY bL bB hJ hm aP
 unfold zFS at hm
 obtain ⟨aH, aD, aF, aG, aE, hL⟩ := hJ
 refine CSR <| OV (.bool (decide (s_l1 < (a1.length : Int)))) rfl (zBE aE aG) <| ONS ?_
 refine zAn (t := decide (s_l1 < (a1.length : Int))) rfl hm (fun aQ hm => ?_) (fun aQ hm => ?_)
 · refine zAt <| zAF <| CW.block <| CSR ?_
   obtain ⟨aA, aR, hm⟩ := zAs hm
   obtain ⟨aS, aM⟩ := zAZ aR
   obtain ⟨bC, bD, aI⟩ := zAC (hL.rdS 1 rfl h4) aS aM
   refine OV (.pointer (some ⟨bC, bD, none⟩)) rfl (zA1 U39 zAX aF aE aI) <| OV (.agg #[(IV aA.Race), (IV aA.Boat), (IV aA.Kind), (IV aA.Value)]) rfl (zAW (cs := [(IV aA.Race), (IV aA.Boat), (IV aA.Kind), (IV aA.Value)]) U49 zAX rfl rfl (zAv (hL.rdS 1 rfl h4) aI aM)) ?_
   refine zAa (zBb (cs := #[(IV 0), (IV 0), (IV 0), (IV 0)]) hL zAX rfl rfl ?_)
   intro bM aJ hL
   refine zAa (zA9 (l := [(IV aA.Race), (IV aA.Boat), (IV aA.Kind), (IV aA.Value)]) (cs' := #[(IV aA.Race), (IV aA.Boat), (IV aA.Kind), (IV aA.Value)]) hL 0 rfl zAX rfl rfl (fc ⟨rfl, (fc ⟨rfl, (fc ⟨rfl, (fc ⟨rfl, fz⟩)⟩)⟩)⟩) rfl (nle rfl) rfl ?_)
   intro bN hL
   refine OW.nil ?_
   refine zAM (fun (s_j1 : Bool) F w => F 1 = v3 ∧ F 2 = (PV b6 0) ∧ F 7 = v3 ∧ F 8 = (IV (a1.length : Int)) ∧ F 9 = (IV s_l1) ∧ F 34 = (.bool s_j1) ∧ Hp w0 [Ent.blk aJ 49 #[(IV aA.Race), (IV aA.Boat), (IV aA.Kind), (IV aA.Value)], Ent.blk b6 38 #[(IV a0.Boats), (IV a0.Scheme), v1], zAg w0 w0.heap.size] w) (fun s_j1 => zCV s_l1 s_j1 = some bB) ?_ ?_
   · refine zAl <| OV (PV aJ 0) rfl (zAc (fsz := 1) 0 0 0 U49 rfl zAf rfl rfl rfl) <| OV (IV aA.Race) rfl (zAd U2 rfl rfl (hL.cellB 0 rfl rfl)) <| OV (PV b6 2) rfl (zAc (fsz := 1) 0 2 2 U38 rfl zCq rfl aD rfl) <| OV v1 rfl (zAd U36 rfl rfl (hL.cellB 1 rfl rfl)) <| OV (IV (a0.Races.length : Int)) rfl (zA3 U36 rfl (hL.rdS 2 rfl h2)) <| OV (IV (w64 ((a0.Races.length : Int) - 1))) rfl (zCn rfl rfl) ?_
     obtain ⟨aN, aT, hm⟩ := zAs hm
     refine zAa (OP.call rfl (zAq (vs := [(IV aA.Race), (IV 0), (IV (w64 ((a0.Races.length : Int) - 1)))]) zD4 ⟨rfl, rfl, rfl, trivial⟩) (zBn _ aA.Race 0 (w64 ((a0.Races.length : Int) - 1)) aT) ?_)
     rintro bZ bO ⟨rfl, aU⟩
     refine ⟨_, rfl, ?_⟩
     have hL := hL.pushAll aU
     simp only [lA, lB, lC, lD] at hL
     refine OV (.bool (!aN)) rfl (zCb rfl) <| OV (.bool (!aN)) rfl (zAe) ?_
     refine zAH hm (fun aB hm => ?_) (fun aB hm => ?_)
     · refine zAa (zAh rfl rfl aB rfl ?_)
       refine zAa (zAh rfl rfl aB rfl ?_)
       refine zAa (zAh rfl rfl aB rfl ?_)
       refine zAa (zAh rfl rfl aB rfl ?_)
       refine zAa (zAh rfl rfl aB rfl ?_)
       refine zAa (zAh rfl rfl aB rfl ?_)
       refine zAa (zAh rfl rfl aB rfl ?_)
       refine OV (.bool true) rfl (zAz rfl aB rfl) <| OV (.bool true) rfl (zAe) ?_
       refine zAa (zAh rfl rfl rfl rfl ?_)
       refine zAa (zAh rfl rfl rfl rfl ?_)
       refine zAa (zAh rfl rfl rfl rfl ?_)
       refine OV (.bool true) rfl (zAz rfl rfl rfl) <| OW.nil ?_
       exact ⟨true, hm, ⟨aH, aD, aF, aG, aE, rfl, hL⟩⟩
     refine zAa (zAj rfl rfl aB (zAk (v := (PV aJ 1)) rfl (zAc (fsz := 1) 0 1 1 U49 rfl zAf rfl rfl rfl) ?_))
     refine zAa (zAj rfl rfl aB (zAk (v := (IV aA.Boat)) rfl (zAd U2 rfl rfl (hL.cellB 0 rfl rfl)) ?_))
     refine zAa (zAj rfl rfl aB (zAk (v := (PV b6 0)) rfl (zAc (fsz := 1) 0 0 0 U38 rfl zAf rfl aD rfl) ?_))
     refine zAa (zAj rfl rfl aB (zAk (v := (IV a0.Boats)) rfl (zAd U2 rfl rfl (hL.cellB 1 rfl rfl)) ?_))
     refine zAa (zAj rfl rfl aB (zAk (v := (IV (w64 (a0.Boats - 1)))) rfl (zCn rfl rfl) ?_))
     obtain ⟨aK, aV, hm⟩ := zAs hm
     refine zAa (zAj rfl rfl aB (OP.call rfl (zAq (vs := [(IV aA.Boat), (IV 0), (IV (w64 (a0.Boats - 1)))]) zD4 ⟨rfl, rfl, rfl, trivial⟩) (zBn _ aA.Boat 0 (w64 (a0.Boats - 1)) aV) ?_))
     rintro cA bP ⟨rfl, aW⟩
     refine ⟨_, rfl, ?_⟩
     have hL := hL.pushAll aW
     simp only [lA, lB, lC, lD] at hL
     refine zAa (zAj rfl rfl aB (zAk (v := (.bool (!aK))) rfl (zCb rfl) ?_))
     refine OV (.bool (!aK)) rfl (zAA rfl aB rfl) <| OV (.bool (!aK)) rfl (zAe) ?_
     refine zAH hm (fun aC hm => ?_) (fun aC hm => ?_)
     · refine zAa (zAh rfl rfl aC rfl ?_)
       refine zAa (zAh rfl rfl aC rfl ?_)
       refine zAa (zAh rfl rfl aC rfl ?_)
       refine OV (.bool true) rfl (zAz rfl aC rfl) <| OW.nil ?_
       exact ⟨true, hm, ⟨aH, aD, aF, aG, aE, rfl, hL⟩⟩
     refine zAa (zAj rfl rfl aC (zAk (v := (.agg #[(IV aA.Race), (IV aA.Boat), (IV aA.Kind), (IV aA.Value)])) rfl (zAW (cs := [(IV aA.Race), (IV aA.Boat), (IV aA.Kind), (IV aA.Value)]) U49 zAX rfl rfl (hL.cellsB 0 rfl (o := 0) (l := [(IV aA.Race), (IV aA.Boat), (IV aA.Kind), (IV aA.Value)]) (by intro j u hj; exact (by simpa using hj)))) ?_))
     obtain ⟨aL, aX, hm⟩ := zAs hm
     refine zAa (zAj rfl rfl aC (OP.call rfl (zAq (vs := [(.agg #[(IV aA.Race), (IV aA.Boat), (IV aA.Kind), (IV aA.Value)])]) zOF ⟨rfl, trivial⟩) (zJH _ aA aX) ?_))
     rintro cB bQ ⟨rfl, aY⟩
     refine ⟨_, rfl, ?_⟩
     have hL := hL.pushAll aY
     simp only [lA, lB, lC, lD] at hL
     refine zAa (zAj rfl rfl aC (zAk (v := (.bool (!aL))) rfl (zCb rfl) ?_))
     refine OV (.bool (!aL)) rfl (zAA rfl aC rfl) <| OW.nil ?_
     exact ⟨!aL, hm, ⟨aH, aD, aF, aG, aE, rfl, hL⟩⟩
   intro s_j1 cC bR hJ hm
   unfold zCV at hm
   obtain ⟨bE, bF, bG, bH, bI, bJ, hL⟩ := hJ
   refine zAn (t := s_j1) bJ hm (fun aZ hm => ?_) (fun aZ hm => ?_)
   · refine CSR <| OV (.bool false) rfl (zAb) <| OW.nil <| zAx ?_
     obtain rfl := oi hm
     have hm := aP _ rfl
     obtain rfl := oi hm
     exact RR1 rfl rfl ⟨rfl, hL.fresh 2 rfl [] (by decide) (by decide) rfl⟩
   refine zAt <| zAl <| OV (IV (w64 (s_l1 + 1))) rfl (zBe bI rfl) <| OV (IV (w64 (s_l1 + 1))) rfl (zAe) <| OW.nil ?_
   have hL := hL.sl [1, 2] rfl
   obtain rfl := oi hm
   exact ⟨_, rfl, ⟨bE, bF, bG, bH, rfl, hL⟩⟩
 refine zA0 ?_
 refine zBk ?_
 obtain rfl := oi hm
 exact ⟨_, rfl, ⟨aH, aD, aF, aG, aE, hL⟩⟩

theorem zJq (w0 : World) (a0 : Series) {v1 : Value} (h2 : rdL (· < w0.heap.size) w0 v1 a0.Races) (a1 : List Penalty) {v3 : Value} (h4 : rdL (· < w0.heap.size) w0 v3 a1) {r : Int} (hm : zEM a0 a1 = some r) :
    Calls Tryz.prog 41 #[(.agg #[(IV a0.Boats), (IV a0.Scheme), v1]), v3] w0 fun e w' => e = .returned (IV r) ∧ Fresh w0 w' [] := by
 unfold zEM at hm
 refine zAD (args := [(.agg #[(IV a0.Boats), (IV a0.Scheme), v1]), v3]) Tryz.func41 rfl rfl rfl ?_
 have hL := zAJ w0
 refine CSR ?_
 refine zAa (zC3 (cs := #[(IV a0.Boats), (IV a0.Scheme), v1]) hL rfl rfl rfl ?_)
 intro wd5 b6 hL
 refine OV (IV 0) rfl (zAb) <| ONS <| CSR <| OV (.agg #[(IV a0.Boats), (IV a0.Scheme), v1]) rfl (zAW (cs := [(IV a0.Boats), (IV a0.Scheme), v1]) U38 zA5 rfl rfl (hL.cellsB 0 rfl (o := 0) (l := [(IV a0.Boats), (IV a0.Scheme), v1]) (by intro j u hj; exact (by simpa using hj)))) ?_
 obtain ⟨x7, hx8, hm⟩ := zAs hm
 refine zAa (OP.call rfl (zAq (vs := [(.agg #[(IV a0.Boats), (IV a0.Scheme), v1])]) zRw ⟨rfl, trivial⟩) (zLO _ a0 (hL.rdS 1 rfl h2) hx8) ?_)
 rintro e9 aG ⟨rfl, aB⟩
 refine ⟨_, rfl, ?_⟩
 have hL := hL.pushAll aB
 simp only [lA, lB, lC, lD] at hL
 refine OV (.bool (!x7)) rfl (zCb rfl) <| OW.nil ?_
 refine zAn (t := !x7) rfl hm (fun aC hm => ?_) (fun aC hm => ?_)
 · refine CSR <| OV (IV 1) rfl (zAb) <| OW.nil <| zAx ?_
   obtain rfl := oi hm
   exact RR1 rfl rfl ⟨rfl, hL.fresh 1 rfl [] (by decide) (by decide) rfl⟩
 refine zAt <| zAF <| CSR <| OV (.agg #[(IV a0.Boats), (IV a0.Scheme), v1]) rfl (zAW (cs := [(IV a0.Boats), (IV a0.Scheme), v1]) U38 zA5 rfl rfl (hL.cellsB 0 rfl (o := 0) (l := [(IV a0.Boats), (IV a0.Scheme), v1]) (by intro j u hj; exact (by simpa using hj)))) <| OV v3 rfl (zAe) ?_
 obtain ⟨aA, aD, hm⟩ := zAs hm
 refine zAa (OP.call rfl (zAq (vs := [(.agg #[(IV a0.Boats), (IV a0.Scheme), v1]), v3]) zRx ⟨rfl, rfl, trivial⟩) (zKC _ a0 (hL.rdS 1 rfl h2) a1 (hL.rdS 1 rfl h4) aD) ?_)
 rintro aI aH ⟨rfl, aE⟩
 refine ⟨_, rfl, ?_⟩
 have hL := hL.pushAll aE
 simp only [lA, lB, lC, lD] at hL
 refine OV (.bool (!aA)) rfl (zCb rfl) <| OW.nil ?_
 refine zAn (t := !aA) rfl hm (fun aF hm => ?_) (fun aF hm => ?_)
 · refine CSR <| OV (IV 2) rfl (zAb) <| OW.nil <| zAx ?_
   obtain rfl := oi hm
   exact RR1 rfl rfl ⟨rfl, hL.fresh 1 rfl [] (by decide) (by decide) rfl⟩
 refine zAt <| CSR <| OV (IV 0) rfl (zAb) <| OW.nil <| zAx ?_
 obtain rfl := oi hm
 exact RR1 rfl rfl ⟨rfl, hL.fresh 1 rfl [] (by decide) (by decide) rfl⟩

theorem zJU (w0 : World) (a0 : Series) {v1 : Value} (h2 : rdL (· < w0.heap.size) w0 v1 a0.Races) (a1 : List Penalty) {v3 : Value} (h4 : rdL (· < w0.heap.size) w0 v3 a1) {r : Series} (hm : zEi a0 a1 = some r) :
    Calls Tryz.prog 76 #[(.agg #[(IV a0.Boats), (IV a0.Scheme), v1]), v3] w0 fun e w' => ∃ (rv0 : Value) (rS0 : Nat → Prop), e = .returned (.agg #[(IV r.Boats), (IV r.Scheme), rv0]) ∧ Fresh w0 w' [Ent.own 101 rS0 rv0 r.Races] := by
 unfold zEi at hm
 refine zAD (args := [(.agg #[(IV a0.Boats), (IV a0.Scheme), v1]), v3]) Tryz.func76 rfl rfl rfl ?_
 have hL := zAJ w0
 refine CSR ?_
 refine zAa (zC3 (cs := #[(IV a0.Boats), (IV a0.Scheme), v1]) hL rfl rfl rfl ?_)
 intro wd5 b6 hL
 refine zAa (zBb (cs := #[(IV 0), (IV 0), (.slice none 0 0)]) hL zA5 rfl rfl ?_)
 intro wd7 b8 hL
 refine ONR <| OV (PV b6 0) rfl (zAc (fsz := 1) 0 0 0 U38 rfl zAf rfl rfl rfl) <| OV (IV a0.Boats) rfl (zAd U2 rfl rfl (hL.cellB 1 rfl rfl)) <| OV (PV b6 1) rfl (zAc (fsz := 1) 0 1 1 U38 rfl zAf rfl rfl rfl) <| OV (IV a0.Scheme) rfl (zAd U2 rfl rfl (hL.cellB 1 rfl rfl)) <| OV (.agg #[(IV a0.Boats), (IV a0.Scheme), (.slice none 0 0)]) rfl (zCB zL7 (ps := [(0, (IV a0.Boats)), (1, (IV a0.Scheme))]) ⟨⟨rfl, rfl⟩, ⟨rfl, rfl⟩, trivial⟩ (by simp [Instr.fill, zBJ, zBA, zBi, zBK, zBo, zBc])) ?_
 refine zAa (zBb (cs := #[(IV 0), (IV 0), (.slice none 0 0)]) hL zA5 rfl rfl ?_)
 intro wd9 aD hL
 refine zAa (zA9 (l := [(IV a0.Boats), (IV a0.Scheme), (.slice none 0 0)]) (cs' := #[(IV a0.Boats), (IV a0.Scheme), (.slice none 0 0)]) hL 0 rfl zA5 rfl rfl (fc ⟨rfl, (fc ⟨rfl, (fc ⟨rfl, fz⟩)⟩)⟩) rfl (nle rfl) rfl ?_)
 intro nJ hL
 refine ONS <| CSR <| OV (PV b6 2) rfl (zAc (fsz := 1) 0 2 2 U38 rfl zCq rfl rfl rfl) <| OV v1 rfl (zAd U36 rfl rfl (hL.cellB 2 rfl rfl)) <| OV (IV (a0.Races.length : Int)) rfl (zA3 U36 rfl (hL.rdS 3 rfl h2)) <| OV (IV 0) rfl (zAe) <| OW.nil ?_
 obtain ⟨nK, gA, hm⟩ := zAs hm
 have hL := hL.pushNil Race 101
 refine zAU (fun (s_l1 : (List Race) × Int) F w => ∃ aC aL, F 1 = v3 ∧ F 4 = (PV b8 0) ∧ F 5 = (PV aD 0) ∧ F 19 = v1 ∧ F 20 = (IV (a0.Races.length : Int)) ∧ F 21 = (IV s_l1.2) ∧ Hp w0 [Ent.own 101 aL aC s_l1.1, Ent.blk aD 38 #[(IV a0.Boats), (IV a0.Scheme), aC], Ent.blk b8 38 #[(IV 0), (IV 0), (.slice none 0 0)], Ent.blk b6 38 #[(IV a0.Boats), (IV a0.Scheme), v1], zAg w0 w0.heap.size] w) (fun o => zBh o (fun x => some x) (fun s => zC9 a0 a1 s) = some r) gA hm ⟨(.slice none 0 0), zBO, rfl, rfl, rfl, rfl, rfl, rfl, hL⟩ ?_ ?_
 · intro s_l1 nL mF hJ hm
   have hm := zBD hm
   have hm : zC9 a0 a1 s_l1 = some r := hm
   unfold zC9 at hm
   obtain ⟨aC, aL, eO, kF, kG, nM, nN, nO, hL⟩ := hJ
   refine zAF <| CSR <| OV v3 rfl (zAo eO) <| OV (IV (a1.length : Int)) rfl (zA3 U39 rfl (hL.rdS 4 rfl h4)) <| OV (IV 0) rfl (zAe) <| OW.nil ?_
   obtain ⟨nQ, gB, hm⟩ := zAs hm
   refine zAU (fun (s_l2 : (List Race) × Int) F w => ∃ aP, F 1 = v3 ∧ F 4 = (PV b8 0) ∧ F 5 = (PV aD 0) ∧ F 36 = v3 ∧ F 37 = (IV (a1.length : Int)) ∧ F 38 = (IV s_l2.2) ∧ Hp w0 [Ent.own 101 aP aC s_l2.1, Ent.blk aD 38 #[(IV a0.Boats), (IV a0.Scheme), aC], Ent.blk b8 38 #[(IV 0), (IV 0), (.slice none 0 0)], Ent.blk b6 38 #[(IV a0.Boats), (IV a0.Scheme), v1], zAg w0 w0.heap.size] w) (fun o => zBh o (fun x => some x) (fun s => zC6 a0 a1 s) = some r) gB hm ⟨aL, eO, kF, kG, rfl, rfl, rfl, hL⟩ ?_ ?_
   · intro s_l2 nR mG hJ hm
     have hm := zBD hm
     have hm : zC6 a0 a1 s_l2 = some r := hm
     unfold zC6 at hm
     obtain ⟨aP, kH, kI, kJ, nS, nT, nU, hL⟩ := hJ
     refine zAF <| CSR <| OV v3 rfl (zAo kH) <| OV (IV (a1.length : Int)) rfl (zA3 U39 rfl (hL.rdS 4 rfl h4)) <| OV (IV 0) rfl (zAe) <| OW.nil ?_
     obtain ⟨mH, eP, hm⟩ := zAs hm
     refine zAU (fun (s_l3 : (List Race) × Int) F w => ∃ aN, F 4 = (PV b8 0) ∧ F 5 = (PV aD 0) ∧ F 74 = v3 ∧ F 75 = (IV (a1.length : Int)) ∧ F 76 = (IV s_l3.2) ∧ Hp w0 [Ent.own 101 aN aC s_l3.1, Ent.blk aD 38 #[(IV a0.Boats), (IV a0.Scheme), aC], Ent.blk b8 38 #[(IV 0), (IV 0), (.slice none 0 0)], Ent.blk b6 38 #[(IV a0.Boats), (IV a0.Scheme), v1], zAg w0 w0.heap.size] w) (fun o => zBh o (fun x => some x) (fun s => zC4 a0 s) = some r) eP hm ⟨aP, kI, kJ, rfl, rfl, rfl, hL⟩ ?_ ?_
     · intro s_l3 mI kK hJ hm
       have hm := zBD hm
       have hm : zC4 a0 s_l3 = some r := hm
       unfold zC4 at hm
       obtain ⟨aN, dH, gC, mJ, mK, mL, hL⟩ := hJ
       refine CSR <| OV (.agg #[(IV a0.Boats), (IV a0.Scheme), aC]) rfl (zAW (cs := [(IV a0.Boats), (IV a0.Scheme), aC]) U38 zA5 rfl gC (hL.cellsB 1 rfl (o := 0) (l := [(IV a0.Boats), (IV a0.Scheme), aC]) (by intro j u hj; exact (by simpa using hj)))) ?_
       refine zAa (zA9 (l := [(IV a0.Boats), (IV a0.Scheme), aC]) (cs' := #[(IV a0.Boats), (IV a0.Scheme), aC]) hL 2 rfl zA5 dH rfl (fc ⟨rfl, (fc ⟨rfl, (fc ⟨zBI (hL.rdO 0 rfl), fz⟩)⟩)⟩) rfl (nle rfl) rfl ?_)
       intro kL hL
       refine OW.nil <| zAx ?_
       obtain rfl := oi hm
       exact RRc rfl dH (zCN U38 zA5 (hL.get 2 rfl) rfl) ⟨aC, aN, rfl, hL.fresh 4 rfl [0] (by decide) (by decide) rfl⟩
     intro s_l3 mM kM dI hJ hm kN
     unfold zB3 at hm
     obtain ⟨aN, bU, aX, aY, aZ, aQ, hL⟩ := hJ
     refine CSR <| OV (.bool (decide (s_l3.2 < (a1.length : Int)))) rfl (zBE aQ aZ) <| ONS ?_
     refine zAn (t := decide (s_l3.2 < (a1.length : Int))) rfl hm (fun eQ hm => ?_) (fun eQ hm => ?_)
     · refine zAt ?_
       refine zAM (fun (s_j1 : (List Race)) F w => ∃ bV, F 4 = (PV b8 0) ∧ F 5 = (PV aD 0) ∧ F 74 = v3 ∧ F 75 = (IV (a1.length : Int)) ∧ F 76 = (IV s_l3.2) ∧ Hp w0 [Ent.own 101 bV aC s_j1, Ent.blk aD 38 #[(IV a0.Boats), (IV a0.Scheme), aC], Ent.blk b8 38 #[(IV 0), (IV 0), (.slice none 0 0)], Ent.blk b6 38 #[(IV a0.Boats), (IV a0.Scheme), v1], zAg w0 w0.heap.size] w) (fun s_j1 => zEu s_l3 s_j1 = some dI) ?_ ?_
       · refine zBG (fun (s_j2 : (List Race)) F w => ∃ bW, F 4 = (PV b8 0) ∧ F 5 = (PV aD 0) ∧ F 74 = v3 ∧ F 75 = (IV (a1.length : Int)) ∧ F 76 = (IV s_l3.2) ∧ Hp w0 [Ent.own 101 bW aC s_j2, Ent.blk aD 38 #[(IV a0.Boats), (IV a0.Scheme), aC], Ent.blk b8 38 #[(IV 0), (IV 0), (.slice none 0 0)], Ent.blk b6 38 #[(IV a0.Boats), (IV a0.Scheme), v1], zAg w0 w0.heap.size] w) (fun s_j2 => zC5 s_l3 s_j2 = some dI) ?_ ?_
         · refine CSR ?_
           obtain ⟨aA, eR, hm⟩ := zAs hm
           obtain ⟨eS, cP⟩ := zAZ eR
           obtain ⟨gD, gE, bQ⟩ := zAC (hL.rdS 4 rfl h4) eS cP
           refine OV (.pointer (some ⟨gD, gE, none⟩)) rfl (zA1 U39 zAX aY aQ bQ) <| OV (.agg #[(IV aA.Race), (IV aA.Boat), (IV aA.Kind), (IV aA.Value)]) rfl (zAW (cs := [(IV aA.Race), (IV aA.Boat), (IV aA.Kind), (IV aA.Value)]) U49 zAX rfl rfl (zAv (hL.rdS 4 rfl h4) bQ cP)) ?_
           refine zAa (zBb (cs := #[(IV 0), (IV 0), (IV 0), (IV 0)]) hL zAX rfl rfl ?_)
           intro kO aR hL
           refine zAa (zA9 (l := [(IV aA.Race), (IV aA.Boat), (IV aA.Kind), (IV aA.Value)]) (cs' := #[(IV aA.Race), (IV aA.Boat), (IV aA.Kind), (IV aA.Value)]) hL 0 rfl zAX rfl rfl (fc ⟨rfl, (fc ⟨rfl, (fc ⟨rfl, (fc ⟨rfl, fz⟩)⟩)⟩)⟩) rfl (nle rfl) rfl ?_)
           intro kP hL
           refine ONR <| OV (PV aR 2) rfl (zAc (fsz := 1) 0 2 2 U49 rfl zAf rfl rfl rfl) <| OV (IV aA.Kind) rfl (zAd U2 rfl rfl (hL.cellB 0 rfl rfl)) <| OV (.bool (aA.Kind == 1)) rfl (zBv rfl rfl) <| OW.nil ?_
           refine zAn (t := aA.Kind == 1) rfl hm (fun eT hm => ?_) (fun eT hm => ?_)
           · obtain ⟨kQ, hL, cQ⟩ := hL.freeze 1 rfl
             simp only [lC, lD] at hL
             refine zBW zAQ ?_
             have hL := hL.call (zA8 _)
             refine DW.pre (fuel := 1) (fin := bma 16 32767) (C := fun w' => Mod zBO _ w') [0, 1, 2, 3, 4, 5, 6, 7, 8, 9, 10, 11, 12, 13, 14] (Mod.refl _ _) (by kernel_rfl) (by kernel_rfl) ?_
             refine QV (PV aD 2) rfl rfl (fun w' hm' => zAc (fsz := 1) 0 2 2 U38 rfl zCq rfl aX rfl) <| QV aC rfl rfl (fun w' hm' => zAd U36 rfl rfl ((hL.call hm').cellB 2 rfl rfl)) <| QV (PV aR 0) rfl rfl (fun w' hm' => zAc (fsz := 1) 0 0 0 U49 rfl zAf rfl rfl rfl) <| QV (IV aA.Race) rfl rfl (fun w' hm' => zAd U2 rfl rfl ((hL.call hm').cellB 0 rfl rfl)) ?_
             obtain ⟨bX, eU, hm⟩ := zAs hm
             obtain ⟨eV, cR⟩ := zAZ eU
             obtain ⟨dJ, bA, gF, aW, cS, cT, eW⟩ := zCp cQ.1.rdL eV cR
             refine QV (.pointer (some ⟨dJ, bA, none⟩)) rfl rfl (fun w' hm' => zA1 U36 zBd rfl rfl aW) <| QV (.pointer (some ⟨dJ, bA, none⟩)) rfl rfl (fun w' hm' => zAc (fsz := 1) bA 0 bA zIJ rfl zCr rfl rfl rfl) <| QV gF rfl rfl (fun w' hm' => zAd U99 rfl rfl ((hL.call hm').cellF 1 rfl cS cT)) <| QV (PV aR 1) rfl rfl (fun w' hm' => zAc (fsz := 1) 0 1 1 U49 rfl zAf rfl rfl rfl) <| QV (IV aA.Boat) rfl rfl (fun w' hm' => zAd U2 rfl rfl ((hL.call hm').cellB 0 rfl rfl)) <| QV (PV aR 1) rfl rfl (fun w' hm' => zAc (fsz := 1) 0 1 1 U49 rfl zAf rfl rfl rfl) <| QV (IV aA.Boat) rfl rfl (fun w' hm' => zAd U2 rfl rfl ((hL.call hm').cellB 0 rfl rfl)) <| QV (PV aR 3) rfl rfl (fun w' hm' => zAc (fsz := 1) 0 3 3 U49 rfl zAf rfl rfl rfl) <| QV (IV aA.Value) rfl rfl (fun w' hm' => zAd U2 rfl rfl ((hL.call hm').cellB 0 rfl rfl)) <| QV (.agg #[(IV aA.Boat), (IV aA.Value), (IV 0)]) rfl rfl (fun w' hm' => zCB zKi (ps := [(0, (IV aA.Boat)), (1, (IV aA.Value)), (2, (IV 0))]) ⟨⟨rfl, rfl⟩, ⟨rfl, rfl⟩, ⟨rfl, rfl⟩, trivial⟩ (by simp [Instr.fill, zBJ, zBA, zBi, zBK, zBo, zBc])) ?_
             obtain ⟨mN, eX, hm⟩ := zAs hm
             obtain ⟨eY, cU⟩ := zAZ eX
             obtain ⟨gG, gH, bR⟩ := zAC (hL.rdF 1 rfl eW) eY cU
             refine QV (.pointer (some ⟨gG, gH, none⟩)) rfl rfl (fun w' hm' => zA1 U99 zAP rfl rfl bR) ?_
             refine QW.nil ?_
             intro kR hmod
             have hL := hL.call hmod
             have eZ := hL.cellF 1 rfl cS cT
             have hL := hL.thaw 1 rfl cQ
             simp only [lC, lD] at hL
             refine zJX 15 rfl (by kernel_rfl) (zKU (α := Finish) (bX.Finishes.set (aA.Boat : Int).toNat (Finish.mk aA.Boat aA.Value 0)) (Race.mk (bX.Finishes.set (aA.Boat : Int).toNat (Finish.mk aA.Boat aA.Value 0))) rfl hL 1 rfl aW cR eZ (fun E2 S1 hL hK => zLf (l := [(IV aA.Boat), (IV aA.Value), (IV 0)]) (Finish.mk aA.Boat aA.Value 0) hL 0 rfl zAP bR cU rfl rfl rfl hK) ?_)
             intro kS gI hL fA fB
             simp only [lC, lD] at hL
             obtain ⟨kT, hL, fC, kU, kV, kW⟩ := hL.freezeAt (α := Finish) 1 rfl aW fB fA
             simp only [lC, lD] at hL
             refine zBu (by kernel_rfl) ?_
             have hL := hL.thaw 1 rfl fC
             have hL := hL.sl [1, 2, 3, 4, 5] rfl
             exact ⟨s_l3.1.set (aA.Race : Int).toNat (Race.mk (bX.Finishes.set (aA.Boat : Int).toNat (Finish.mk aA.Boat aA.Value 0))), hm, ⟨gI, bU, aX, aY, aZ, aQ, hL⟩⟩
           refine zAt ?_
           have hL := hL.sl [1, 2, 3, 4, 5] rfl
           exact ⟨s_l3.1, hm, ⟨aN, bU, aX, aY, aZ, aQ, hL⟩⟩
         intro s_j2 mO kX hJ hm
         unfold zC5 at hm
         obtain ⟨bW, gJ, gK, gL, gM, gN, hL⟩ := hJ
         exact ⟨s_j2, hm, ⟨bW, gJ, gK, gL, gM, gN, hL⟩⟩
       intro s_j1 mP kY hJ hm
       unfold zEu at hm
       obtain ⟨bV, gO, gP, gQ, gR, gS, hL⟩ := hJ
       refine zAl <| OV (IV (w64 (s_l3.2 + 1))) rfl (zBe gS rfl) <| OV (IV (w64 (s_l3.2 + 1))) rfl (zAe) <| OW.nil ?_
       obtain rfl := oi hm
       exact ⟨_, rfl, ⟨bV, gO, gP, gQ, gR, rfl, hL⟩⟩
     refine zA0 ?_
     refine zBk ?_
     obtain rfl := oi hm
     exact ⟨_, rfl, ⟨aN, bU, aX, aY, aZ, aQ, hL⟩⟩
   intro s_l2 mQ kZ dG hJ hm mR
   unfold zB4 at hm
   obtain ⟨aP, bY, bZ, bB, bC, bD, aS, hL⟩ := hJ
   refine CSR <| OV (.bool (decide (s_l2.2 < (a1.length : Int)))) rfl (zBE aS bD) <| ONS ?_
   refine zAn (t := decide (s_l2.2 < (a1.length : Int))) rfl hm (fun fD hm => ?_) (fun fD hm => ?_)
   · refine zAt ?_
     refine zAM (fun (s_j3 : (List Race)) F w => ∃ cA, F 1 = v3 ∧ F 4 = (PV b8 0) ∧ F 5 = (PV aD 0) ∧ F 36 = v3 ∧ F 37 = (IV (a1.length : Int)) ∧ F 38 = (IV s_l2.2) ∧ Hp w0 [Ent.own 101 cA aC s_j3, Ent.blk aD 38 #[(IV a0.Boats), (IV a0.Scheme), aC], Ent.blk b8 38 #[(IV 0), (IV 0), (.slice none 0 0)], Ent.blk b6 38 #[(IV a0.Boats), (IV a0.Scheme), v1], zAg w0 w0.heap.size] w) (fun s_j3 => zEv s_l2 s_j3 = some dG) ?_ ?_
     · refine zBG (fun (s_j4 : (List Race)) F w => ∃ cB, F 1 = v3 ∧ F 4 = (PV b8 0) ∧ F 5 = (PV aD 0) ∧ F 36 = v3 ∧ F 37 = (IV (a1.length : Int)) ∧ F 38 = (IV s_l2.2) ∧ Hp w0 [Ent.own 101 cB aC s_j4, Ent.blk aD 38 #[(IV a0.Boats), (IV a0.Scheme), aC], Ent.blk b8 38 #[(IV 0), (IV 0), (.slice none 0 0)], Ent.blk b6 38 #[(IV a0.Boats), (IV a0.Scheme), v1], zAg w0 w0.heap.size] w) (fun s_j4 => zC7 s_l2 s_j4 = some dG) ?_ ?_
       · refine CSR ?_
         obtain ⟨aB, fE, hm⟩ := zAs hm
         obtain ⟨fF, cV⟩ := zAZ fE
         obtain ⟨gT, gU, bS⟩ := zAC (hL.rdS 4 rfl h4) fF cV
         refine OV (.pointer (some ⟨gT, gU, none⟩)) rfl (zA1 U39 zAX bC aS bS) <| OV (.agg #[(IV aB.Race), (IV aB.Boat), (IV aB.Kind), (IV aB.Value)]) rfl (zAW (cs := [(IV aB.Race), (IV aB.Boat), (IV aB.Kind), (IV aB.Value)]) U49 zAX rfl rfl (zAv (hL.rdS 4 rfl h4) bS cV)) ?_
         refine zAa (zBb (cs := #[(IV 0), (IV 0), (IV 0), (IV 0)]) hL zAX rfl rfl ?_)
         intro lE aM hL
         refine zAa (zA9 (l := [(IV aB.Race), (IV aB.Boat), (IV aB.Kind), (IV aB.Value)]) (cs' := #[(IV aB.Race), (IV aB.Boat), (IV aB.Kind), (IV aB.Value)]) hL 0 rfl zAX rfl rfl (fc ⟨rfl, (fc ⟨rfl, (fc ⟨rfl, (fc ⟨rfl, fz⟩)⟩)⟩)⟩) rfl (nle rfl) rfl ?_)
         intro lF hL
         refine ONS ?_
         obtain ⟨fG, hL, bN⟩ := hL.freeze 1 rfl
         simp only [lC, lD] at hL
         refine zBW zAQ ?_
         have hL := hL.call (zA8 _)
         refine DW.pre (fuel := 0) (fin := bma 11 2047) (C := fun w' => Mod zBO _ w') [0, 1, 2, 3, 4, 5, 6, 7, 8, 9, 10] (Mod.refl _ _) (by kernel_rfl) (by kernel_rfl) ?_
         refine QV (PV aD 2) rfl rfl (fun w' hm' => zAc (fsz := 1) 0 2 2 U38 rfl zCq rfl bB rfl) <| QV aC rfl rfl (fun w' hm' => zAd U36 rfl rfl ((hL.call hm').cellB 2 rfl rfl)) <| QV (PV aM 0) rfl rfl (fun w' hm' => zAc (fsz := 1) 0 0 0 U49 rfl zAf rfl rfl rfl) <| QV (IV aB.Race) rfl rfl (fun w' hm' => zAd U2 rfl rfl ((hL.call hm').cellB 0 rfl rfl)) ?_
         obtain ⟨bE, fH, hm⟩ := zAs hm
         obtain ⟨fI, cW⟩ := zAZ fH
         obtain ⟨dK, bF, gV, bT, cX, cY, bO⟩ := zCp bN.1.rdL fI cW
         refine QV (.pointer (some ⟨dK, bF, none⟩)) rfl rfl (fun w' hm' => zA1 U36 zBd rfl rfl bT) <| QV (.pointer (some ⟨dK, bF, none⟩)) rfl rfl (fun w' hm' => zAc (fsz := 1) bF 0 bF zIJ rfl zCr rfl rfl rfl) <| QV gV rfl rfl (fun w' hm' => zAd U99 rfl rfl ((hL.call hm').cellF 1 rfl cX cY)) <| QV (PV aM 1) rfl rfl (fun w' hm' => zAc (fsz := 1) 0 1 1 U49 rfl zAf rfl rfl rfl) <| QV (IV aB.Boat) rfl rfl (fun w' hm' => zAd U2 rfl rfl ((hL.call hm').cellB 0 rfl rfl)) ?_
         obtain ⟨aE, fJ, hm⟩ := zAs hm
         obtain ⟨fK, aT⟩ := zAZ fJ
         obtain ⟨aI, aF, aO⟩ := zAC (hL.rdF 1 rfl bO) fK aT
         refine QV (.pointer (some ⟨aI, aF, none⟩)) rfl rfl (fun w' hm' => zA1 U99 zAP rfl rfl aO) <| QV (.pointer (some ⟨aI, aF, none⟩)) rfl rfl (fun w' hm' => zAb) ?_
         refine QW.nil ?_
         intro lG hmod
         have hL := hL.call hmod
         refine zBu (by kernel_rfl) ?_
         refine zAM (fun (s_j5 : Bool) F w => F 1 = v3 ∧ F 4 = (PV b8 0) ∧ F 5 = (PV aD 0) ∧ F 9 = (PV aM 0) ∧ F 10 = (.pointer (some ⟨aI, aF, none⟩)) ∧ F 36 = v3 ∧ F 37 = (IV (a1.length : Int)) ∧ F 38 = (IV s_l2.2) ∧ F 61 = (.bool s_j5) ∧ Hp w0 [Ent.blk aM 49 #[(IV aB.Race), (IV aB.Boat), (IV aB.Kind), (IV aB.Value)], zA2 fG aP, Ent.blk aD 38 #[(IV a0.Boats), (IV a0.Scheme), aC], Ent.blk b8 38 #[(IV 0), (IV 0), (.slice none 0 0)], Ent.blk b6 38 #[(IV a0.Boats), (IV a0.Scheme), v1], zAg w0 w0.heap.size] w) (fun s_j5 => zC8 s_l2 aB bE aE s_j5 = some dG) ?_ ?_
         · refine zAl <| OV (PV aM 2) rfl (zAc (fsz := 1) 0 2 2 U49 rfl zAf rfl rfl rfl) <| OV (IV aB.Kind) rfl (zAd U2 rfl rfl (hL.cellB 0 rfl rfl)) <| OV (.bool (aB.Kind == 2)) rfl (zBv rfl rfl) <| OV (.bool (aB.Kind == 2)) rfl (zAe) ?_
           refine zAH hm (fun aH hm => ?_) (fun aH hm => ?_)
           · refine zAa (zAj rfl rfl aH (zAk (v := (.pointer (some ⟨aI, aF, none⟩))) rfl (zAe) ?_))
             refine zAa (zAj rfl rfl aH (zAk (v := (.pointer (some ⟨aI, aF, none⟩))) rfl (zCM rfl) ?_))
             refine zAa (zAj rfl rfl aH (zAk (v := (.pointer (some ⟨aI, aF + 1, none⟩))) rfl (zAc (fsz := 1) aF 1 (aF + 1) zFd rfl zAf rfl rfl rfl) ?_))
             refine zAa (zAj rfl rfl aH (zAk (v := (IV aE.Code)) rfl (zAd U2 rfl rfl (zAv (hL.rdF 1 rfl bO) aO aT 1 _ rfl)) ?_))
             refine zAa (zAj rfl rfl aH (zAk (v := (.bool (aE.Code == 0))) rfl (zBv rfl rfl) ?_))
             refine OV (.bool (aE.Code == 0)) rfl (zAz rfl aH rfl) <| OW.nil ?_
             exact ⟨aE.Code == 0, hm, ⟨bY, bZ, bB, rfl, rfl, bC, bD, aS, rfl, hL⟩⟩
           refine zAa (zAh rfl rfl aH rfl ?_)
           refine zAa (zAh rfl rfl aH rfl ?_)
           refine zAa (zAh rfl rfl aH rfl ?_)
           refine zAa (zAh rfl rfl aH rfl ?_)
           refine zAa (zAh rfl rfl aH rfl ?_)
           refine OV (.bool false) rfl (zAA rfl aH rfl) <| OW.nil ?_
           exact ⟨false, hm, ⟨bY, bZ, bB, rfl, rfl, bC, bD, aS, rfl, hL⟩⟩
         intro s_j5 mS lH hJ hm
         unfold zC8 at hm
         obtain ⟨dL, dM, dN, gW, dO, dP, dQ, dR, gX, hL⟩ := hJ
         refine zAn (t := s_j5) gX hm (fun fL hm => ?_) (fun fL hm => ?_)
         · refine zDG (fun w' => Hp w0 [Ent.blk aM 49 #[(IV aB.Race), (IV aB.Boat), (IV aB.Kind), (IV aB.Value)], Ent.blk aD 38 #[(IV a0.Boats), (IV a0.Scheme), aC], Ent.blk b8 38 #[(IV 0), (IV 0), (.slice none 0 0)], Ent.blk b6 38 #[(IV a0.Boats), (IV a0.Scheme), v1], zAg w0 w0.heap.size] w') zAQ ?_
           have hL := hL.call (zA8 _)
           have hS := (hL.sl [0, 2, 3, 4, 5] rfl)
           refine zAw 0 rfl (by kernel_rfl) rfl rfl hS (zAp (v := (.pointer (some ⟨aI, aF, none⟩))) (fun w' hS' => zAo dO)) ?_
           have hS := (hL.sl [0, 2, 3, 4, 5] rfl)
           refine zAw 1 rfl (by kernel_rfl) rfl rfl hS (zAp (v := (.pointer (some ⟨aI, aF, none⟩))) (fun w' hS' => zAo dO)) ?_
           have hS := (hL.sl [0, 2, 3, 4, 5] rfl)
           refine zAw 2 rfl (by kernel_rfl) rfl rfl hS (zAp (v := (.pointer (some ⟨aI, aF, none⟩))) (fun w' hS' => zCM rfl)) ?_
           have hS := (hL.sl [0, 2, 3, 4, 5] rfl)
           refine zAw 3 rfl (by kernel_rfl) rfl rfl hS (zAp (v := (.pointer (some ⟨aI, aF + 2, none⟩))) (fun w' hS' => zAc (fsz := 1) aF 2 (aF + 2) zFd rfl zAf rfl rfl rfl)) ?_
           have hS := (hL.sl [0, 2, 3, 4, 5] rfl)
           refine zAw 5 rfl (by kernel_rfl) rfl rfl hS (zAp (v := (PV aM 3)) (fun w' hS' => zAc (fsz := 1) 0 3 3 U49 rfl zAf rfl gW rfl)) ?_
           have hS := (hL.sl [0, 2, 3, 4, 5] rfl)
           refine zAw 6 rfl (by kernel_rfl) rfl rfl hS (zAp (v := (IV aB.Value)) (fun w' hS' => zAd U2 rfl rfl (hS'.cellB 0 rfl rfl))) ?_
           refine zAT 4 rfl (by kernel_rfl) (zAk (v := (IV aE.Time)) rfl (zAd U2 rfl rfl (zAv (hL.rdF 1 rfl bO) aO aT 2 _ rfl)) ?_)
           refine ⟨(hL.sl [0, 2, 3, 4, 5] rfl), ?_⟩
           have hS := (hL.sl [0, 2, 3, 4, 5] rfl)
           refine zAw 7 rfl (by kernel_rfl) rfl rfl hS (zAp (v := (IV (w64 (aE.Time + aB.Value)))) (fun w' hS' => zBe rfl rfl)) ?_
           have hS := (hL.sl [0, 2, 3, 4, 5] rfl)
           refine zAw 8 rfl (by kernel_rfl) rfl rfl hS (zAp (v := (IV (min 1000000000 (w64 (aE.Time + aB.Value))))) (fun w' hS' => zKP rfl rfl)) ?_
           have hS := (hL.sl [0, 2, 3, 4, 5] rfl)
           refine zAw 9 rfl (by kernel_rfl) rfl rfl hS (zAp (v := (.pointer (some ⟨aI, aF, none⟩))) (fun w' hS' => zCM rfl)) ?_
           have hS := (hL.sl [0, 2, 3, 4, 5] rfl)
           refine zAw 10 rfl (by kernel_rfl) rfl rfl hS (zAp (v := (.pointer (some ⟨aI, aF + 2, none⟩))) (fun w' hS' => zAc (fsz := 1) aF 2 (aF + 2) zFd rfl zAf rfl rfl rfl)) ?_
           have fM := hL.cellF 1 rfl cX cY
           have hL := hL.thaw 1 rfl bN
           simp only [lC, lD] at hL
           refine zAT 11 rfl (by kernel_rfl) (zSl (α := Finish) (bE.Finishes.set (aB.Boat : Int).toNat (Finish.mk aE.Boat aE.Code (min 1000000000 (w64 (aE.Time + aB.Value))))) (Race.mk (bE.Finishes.set (aB.Boat : Int).toNat (Finish.mk aE.Boat aE.Code (min 1000000000 (w64 (aE.Time + aB.Value)))))) rfl hL 1 rfl bT cW fM (fun E2 S1 hL hK => zBV (j := 2) (Finish.mk aE.Boat aE.Code (min 1000000000 (w64 (aE.Time + aB.Value)))) hL 0 rfl zAf aO aT rfl rfl rfl rfl rfl rfl hK) ?_)
           intro lI gY hL
           simp only [lC, lD] at hL
           refine ⟨(hL.sl [0, 2, 3, 4, 5] rfl), ?_⟩
           refine zDB (by kernel_rfl) ?_
           have hL := hL.sl [1, 2, 3, 4, 5] rfl
           exact ⟨s_l2.1.set (aB.Race : Int).toNat (Race.mk (bE.Finishes.set (aB.Boat : Int).toNat (Finish.mk aE.Boat aE.Code (min 1000000000 (w64 (aE.Time + aB.Value)))))), hm, ⟨gY, dL, dM, dN, dP, dQ, dR, hL⟩⟩
         refine zAt ?_
         have hL := hL.thaw 1 rfl bN
         have hL := hL.sl [1, 2, 3, 4, 5] rfl
         exact ⟨s_l2.1, hm, ⟨aP, dL, dM, dN, dP, dQ, dR, hL⟩⟩
       intro s_j4 mT lJ hJ hm
       unfold zC7 at hm
       obtain ⟨cB, gZ, hA, hB, hC, hD, hE, hL⟩ := hJ
       exact ⟨s_j4, hm, ⟨cB, gZ, hA, hB, hC, hD, hE, hL⟩⟩
     intro s_j3 mU lK hJ hm
     unfold zEv at hm
     obtain ⟨cA, hF, hG, hH, hI, hM, hN, hL⟩ := hJ
     refine zAl <| OV (IV (w64 (s_l2.2 + 1))) rfl (zBe hN rfl) <| OV (IV (w64 (s_l2.2 + 1))) rfl (zAe) <| OW.nil ?_
     obtain rfl := oi hm
     exact ⟨_, rfl, ⟨cA, hF, hG, hH, hI, hM, rfl, hL⟩⟩
   refine zA0 ?_
   refine zBk ?_
   obtain rfl := oi hm
   exact ⟨_, rfl, ⟨aP, bY, bZ, bB, bC, bD, aS, hL⟩⟩
 intro s_l1 mV lL nV hJ hm mW
 unfold zDa at hm
 obtain ⟨aC, aL, cC, cD, bG, bH, bI, aU, hL⟩ := hJ
 refine CSR <| OV (.bool (decide (s_l1.2 < (a0.Races.length : Int)))) rfl (zBE aU bI) <| ONS ?_
 refine zAn (t := decide (s_l1.2 < (a0.Races.length : Int))) rfl hm (fun fN hm => ?_) (fun fN hm => ?_)
 · refine zAt <| zAF <| CW.block <| CSR ?_
   obtain ⟨aK, fO, hm⟩ := zAs hm
   obtain ⟨fP, fQ⟩ := zAZ fO
   obtain ⟨hO, hP, aG, eN, fR, fS, bP⟩ := zCp h2 fP fQ
   refine OV (.pointer (some ⟨hO, hP, none⟩)) rfl (zA1 U36 zBd bH aU eN) <| OV (.agg #[aG]) rfl (zAW (cs := [aG]) zIJ zBd rfl rfl (by intro j u hj; match j, hj with | 0, hj => (simp at hj; subst hj; exact (hL.cellS 4 rfl fR fS)))) ?_
   refine zAa (zBb (cs := #[(.slice none 0 0)]) hL zBd rfl rfl ?_)
   intro lM aJ hL
   refine zAa (zA9 (l := [aG]) (cs' := #[aG]) hL 0 rfl zBd rfl rfl (fc ⟨zBI (hL.rdS 5 rfl bP), fz⟩) rfl (nle rfl) rfl ?_)
   intro lN hL
   refine OW.nil ?_
   refine zDG (fun w' => Hp w0 [Ent.blk aJ 101 #[aG], Ent.blk b8 38 #[(IV 0), (IV 0), (.slice none 0 0)], Ent.blk b6 38 #[(IV a0.Boats), (IV a0.Scheme), v1], zAg w0 w0.heap.size] w') zAQ ?_
   have hL := hL.call (zA8 _)
   have hS := (hL.sl [0, 3, 4, 5] rfl)
   refine zAw 0 rfl (by kernel_rfl) rfl rfl hS (zAp (v := (PV aD 2)) (fun w' hS' => zAc (fsz := 1) 0 2 2 U38 rfl zCq rfl bG rfl)) ?_
   have hS := (hL.sl [0, 3, 4, 5] rfl)
   refine zAw 3 rfl (by kernel_rfl) rfl rfl hS (zAp (v := (PV aJ 0)) (fun w' hS' => zAc (fsz := 1) 0 0 0 zIJ rfl zCr rfl rfl rfl)) ?_
   have hS := (hL.sl [0, 3, 4, 5] rfl)
   refine zAw 4 rfl (by kernel_rfl) rfl rfl hS (zAp (v := aG) (fun w' hS' => zAd U99 rfl rfl (hS'.cellB 0 rfl rfl))) ?_
   obtain ⟨cZ, hm⟩ := zEs hm
   obtain ⟨fT, hm⟩ := zEs hm
   refine zAI (listed' := (bma 11 2047)) (fuel' := 0) (fun F w => ∃ bJ cE, F 1 = v3 ∧ F 4 = (PV b8 0) ∧ F 5 = (PV aD 0) ∧ F 19 = v1 ∧ F 20 = (IV (a0.Races.length : Int)) ∧ F 21 = (IV s_l1.2) ∧ Hp w0 [Ent.own 101 cE bJ (s_l1.1 ++ ([(Race.mk (([] : List Finish) ++ aK.Finishes))] : List Race)), Ent.blk aJ 101 #[aG], Ent.blk aD 38 #[(IV a0.Boats), (IV a0.Scheme), bJ], Ent.blk b8 38 #[(IV 0), (IV 0), (.slice none 0 0)], Ent.blk b6 38 #[(IV a0.Boats), (IV a0.Scheme), v1], zAg w0 w0.heap.size] w) ?_ (fun fU => ?_)
   · intro mX lO hJ
     obtain ⟨bJ, cE, hQ, hR, hT, hU, hV, hW, hL⟩ := hJ
     refine zDB (by kernel_rfl) ?_
     refine zAl <| OV (IV (w64 (s_l1.2 + 1))) rfl (zBe hW rfl) <| OV (IV (w64 (s_l1.2 + 1))) rfl (zAe) <| OW.nil ?_
     have hL := hL.sl [0, 2, 3, 4, 5] rfl
     obtain rfl := oi hm
     exact ⟨_, rfl, ⟨bJ, cE, hQ, hR, hT, hU, hV, rfl, hL⟩⟩
   refine zAI (listed' := (bma 11 1023)) (fuel' := 1) (fun F w => ∃ aV cF, F 1 = v3 ∧ F 4 = (PV b8 0) ∧ F 5 = (PV aD 0) ∧ F 19 = v1 ∧ F 20 = (IV (a0.Races.length : Int)) ∧ F 21 = (IV s_l1.2) ∧ F 33 = aV ∧ F 34 = (PV aD 2) ∧ Hp w0 [Ent.own 101 cF aV (s_l1.1 ++ ([(Race.mk (([] : List Finish) ++ aK.Finishes))] : List Race)), Ent.blk aJ 101 #[aG], Ent.blk aD 38 #[(IV a0.Boats), (IV a0.Scheme), aC], Ent.blk b8 38 #[(IV 0), (IV 0), (.slice none 0 0)], Ent.blk b6 38 #[(IV a0.Boats), (IV a0.Scheme), v1], zAg w0 w0.heap.size] w) ?_ (fun fV => ?_)
   · intro mY lP hJ
     obtain ⟨aV, cF, hX, hY, hZ, iA, iB, iC, iD, iE, hL⟩ := hJ
     refine zAT 10 rfl (by kernel_rfl) (zEt (cs' := #[(IV a0.Boats), (IV a0.Scheme), aV]) hL 2 rfl zCq iE (zBI (hL.rdO 0 rfl)) iD rfl rfl ?_)
     intro lQ hL
     refine ⟨(hL.sl [1, 3, 4, 5] rfl), ?_⟩
     exact zAm (listed' := (bma 11 2047)) (by kernel_rfl) (fU _ _ ⟨aV, cF, hX, hY, hZ, iA, iB, iC, hL⟩)
   refine zAI (listed' := (bma 11 255)) (fuel' := 3) (fun F w => ∃ cG dS, F 1 = v3 ∧ F 4 = (PV b8 0) ∧ F 5 = (PV aD 0) ∧ F 19 = v1 ∧ F 20 = (IV (a0.Races.length : Int)) ∧ F 21 = (IV s_l1.2) ∧ F 26 = aC ∧ F 32 = cG ∧ Hp w0 [Ent.own 101 dS cG ([(Race.mk (([] : List Finish) ++ aK.Finishes))] : List Race), Ent.blk aJ 101 #[aG], Ent.own 101 aL aC s_l1.1, Ent.blk aD 38 #[(IV a0.Boats), (IV a0.Scheme), aC], Ent.blk b8 38 #[(IV 0), (IV 0), (.slice none 0 0)], Ent.blk b6 38 #[(IV a0.Boats), (IV a0.Scheme), v1], zAg w0 w0.heap.size] w) ?_ (fun dA => ?_)
   · intro mZ lR hJ
     obtain ⟨cG, dS, iF, iG, dT, iH, iI, iJ, iK, iL, hL⟩ := hJ
     have hL := hL.sl [2, 0, 1, 3, 4, 5, 6] rfl
     refine zAT 8 rfl (by kernel_rfl) (zEF Finish hL U36 zBd rfl iK iL fT (by decide) rfl ?_)
     intro lS iM iN hL
     refine ⟨(hL.sl [1, 3, 4, 5] rfl), ?_⟩
     have hS := (hL.sl [1, 3, 4, 5] rfl)
     refine zAw 9 rfl (by kernel_rfl) rfl rfl hS (zAp (v := (PV aD 2)) (fun w' hS' => zAc (fsz := 1) 0 2 2 U38 rfl zCq rfl dT rfl)) ?_
     exact zAm (listed' := (bma 11 1023)) (by kernel_rfl) (fV _ _ ⟨iM, iN, iF, iG, dT, iH, iI, iJ, rfl, rfl, hL⟩)
   refine zAI (listed' := (bma 11 127)) (fuel' := 4) (fun F w => ∃ cH dU, F 1 = v3 ∧ F 4 = (PV b8 0) ∧ F 5 = (PV aD 0) ∧ F 19 = v1 ∧ F 20 = (IV (a0.Races.length : Int)) ∧ F 21 = (IV s_l1.2) ∧ F 26 = aC ∧ F 31 = (.agg #[cH]) ∧ Hp w0 [Ent.own 103 dU cH (([] : List Finish) ++ aK.Finishes), Ent.blk aJ 101 #[aG], Ent.own 101 aL aC s_l1.1, Ent.blk aD 38 #[(IV a0.Boats), (IV a0.Scheme), aC], Ent.blk b8 38 #[(IV 0), (IV 0), (.slice none 0 0)], Ent.blk b6 38 #[(IV a0.Boats), (IV a0.Scheme), v1], zAg w0 w0.heap.size] w) ?_ (fun dB => ?_)
   · intro nA lT hJ
     obtain ⟨cH, dU, iO, iP, iQ, iR, iS, iT, iU, iV, hL⟩ := hJ
     refine zAT 7 rfl (by kernel_rfl) (zBP (Race.mk (([] : List Finish) ++ aK.Finishes)) rfl hL U36 zBd ((congrArg Value.cells iV).trans rfl) rfl ?_)
     intro lU iW iX hL
     refine ⟨(hL.sl [1, 4, 5, 6] rfl), ?_⟩
     exact zAm (listed' := (bma 11 255)) (by kernel_rfl) (dA _ _ ⟨iW, iX, iO, iP, iQ, iR, iS, iT, iU, rfl, hL⟩)
   refine zAI (listed' := (bma 11 253)) (fuel' := 4) (fun F w => ∃ bK cI, F 1 = v3 ∧ F 4 = (PV b8 0) ∧ F 5 = (PV aD 0) ∧ F 19 = v1 ∧ F 20 = (IV (a0.Races.length : Int)) ∧ F 21 = (IV s_l1.2) ∧ F 25 = (PV aD 2) ∧ F 32 = bK ∧ Hp w0 [Ent.own 101 cI bK ([(Race.mk (([] : List Finish) ++ aK.Finishes))] : List Race), Ent.blk aJ 101 #[aG], Ent.own 101 aL aC s_l1.1, Ent.blk aD 38 #[(IV a0.Boats), (IV a0.Scheme), aC], Ent.blk b8 38 #[(IV 0), (IV 0), (.slice none 0 0)], Ent.blk b6 38 #[(IV a0.Boats), (IV a0.Scheme), v1], zAg w0 w0.heap.size] w) ?_ (fun fW => ?_)
   · intro nB lV hJ
     obtain ⟨bK, cI, iY, iZ, jA, jB, jC, jD, jE, jF, hL⟩ := hJ
     refine zAT 1 rfl (by kernel_rfl) (zAk (v := aC) rfl (zAd U36 rfl jE (hL.cellB 3 rfl rfl)) ?_)
     refine ⟨(hL.sl [1, 4, 5, 6] rfl), ?_⟩
     exact zAm (listed' := (bma 11 255)) (by kernel_rfl) (dA _ _ ⟨bK, cI, iY, iZ, jA, jB, jC, jD, rfl, jF, hL⟩)
   refine zAI (listed' := (bma 11 125)) (fuel' := 5) (fun F w => ∃ bL cJ, F 1 = v3 ∧ F 4 = (PV b8 0) ∧ F 5 = (PV aD 0) ∧ F 19 = v1 ∧ F 20 = (IV (a0.Races.length : Int)) ∧ F 21 = (IV s_l1.2) ∧ F 25 = (PV aD 2) ∧ F 31 = (.agg #[bL]) ∧ Hp w0 [Ent.own 103 cJ bL (([] : List Finish) ++ aK.Finishes), Ent.blk aJ 101 #[aG], Ent.own 101 aL aC s_l1.1, Ent.blk aD 38 #[(IV a0.Boats), (IV a0.Scheme), aC], Ent.blk b8 38 #[(IV 0), (IV 0), (.slice none 0 0)], Ent.blk b6 38 #[(IV a0.Boats), (IV a0.Scheme), v1], zAg w0 w0.heap.size] w) ?_ (fun fX => ?_)
   · intro nC lW hJ
     obtain ⟨bL, cJ, dV, dW, dX, dY, dZ, eA, eB, eC, hL⟩ := hJ
     refine DH.all (rs := [1, 7]) (by kernel_rfl) (by simp) ?_
     intro nD dC
     simp only [List.mem_cons, List.not_mem_nil, or_false] at dC
     rcases dC with rfl | rfl
     · refine ⟨_, rfl, ?_⟩
       refine zAk (v := aC) rfl (zAd U36 rfl eB (hL.cellB 3 rfl rfl)) ?_
       refine ⟨(hL.sl [1, 4, 5, 6] rfl), ?_⟩
       exact zAm (listed' := (bma 11 127)) (by kernel_rfl) (dB _ _ ⟨bL, cJ, dV, dW, dX, dY, dZ, eA, rfl, eC, hL⟩)
     refine ⟨_, rfl, ?_⟩
     refine zBP (Race.mk (([] : List Finish) ++ aK.Finishes)) rfl hL U36 zBd ((congrArg Value.cells eC).trans rfl) rfl ?_
     intro lX jG jH hL
     refine ⟨(hL.sl [1, 4, 5, 6] rfl), ?_⟩
     exact zAm (listed' := (bma 11 253)) (by kernel_rfl) (fW _ _ ⟨jG, jH, dV, dW, dX, dY, dZ, eA, eB, rfl, hL⟩)
   refine zAI (listed' := (bma 11 31)) (fuel' := 6) (fun F w => ∃ cK eD, F 1 = v3 ∧ F 4 = (PV b8 0) ∧ F 5 = (PV aD 0) ∧ F 19 = v1 ∧ F 20 = (IV (a0.Races.length : Int)) ∧ F 21 = (IV s_l1.2) ∧ F 26 = aC ∧ F 27 = cK ∧ F 29 = aG ∧ Hp w0 [Ent.own 103 eD cK ([] : List Finish), Ent.blk aJ 101 #[aG], Ent.own 101 aL aC s_l1.1, Ent.blk aD 38 #[(IV a0.Boats), (IV a0.Scheme), aC], Ent.blk b8 38 #[(IV 0), (IV 0), (.slice none 0 0)], Ent.blk b6 38 #[(IV a0.Boats), (IV a0.Scheme), v1], zAg w0 w0.heap.size] w) ?_ (fun dD => ?_)
   · intro nE lY hJ
     obtain ⟨cK, eD, jI, jJ, jK, jL, jM, jN, jO, jP, jQ, hL⟩ := hJ
     refine zAT 5 rfl (by kernel_rfl) (zCA (ys := aK.Finishes) hL 0 rfl U99 zAP rfl jP jQ (hL.rdS 6 rfl bP) cZ (by decide) rfl ?_)
     intro lZ cM jR hL
     refine ⟨(hL.sl [1, 4, 5, 6] rfl), ?_⟩
     have hS := (hL.sl [1, 4, 5, 6] rfl)
     refine zAw 6 rfl (by kernel_rfl) rfl rfl hS (zAp (v := (.agg #[cM])) (fun w' hS' => zCB zKh (ps := [(0, cM)]) ⟨⟨rfl, rfl⟩, trivial⟩ (by simp [Instr.fill, zBJ, zBA, zBi, zBK, zBo, zBc, (zAY (hL.rdO 0 rfl))]))) ?_
     exact zAm (listed' := (bma 11 127)) (by kernel_rfl) (dB _ _ ⟨cM, jR, jI, jJ, jK, jL, jM, jN, jO, rfl, hL⟩)
   refine zAI (listed' := (bma 11 27)) (fuel' := 7) (fun F w => F 1 = v3 ∧ F 4 = (PV b8 0) ∧ F 5 = (PV aD 0) ∧ F 19 = v1 ∧ F 20 = (IV (a0.Races.length : Int)) ∧ F 21 = (IV s_l1.2) ∧ F 26 = aC ∧ F 29 = aG ∧ Hp w0 [Ent.blk aJ 101 #[aG], Ent.own 101 aL aC s_l1.1, Ent.blk aD 38 #[(IV a0.Boats), (IV a0.Scheme), aC], Ent.blk b8 38 #[(IV 0), (IV 0), (.slice none 0 0)], Ent.blk b6 38 #[(IV a0.Boats), (IV a0.Scheme), v1], zAg w0 w0.heap.size] w) ?_ (fun fY => ?_)
   · intro nF mA hJ
     obtain ⟨jS, jT, jU, jV, jW, jX, jY, jZ, hL⟩ := hJ
     refine zAT 2 rfl (by kernel_rfl) (zBS ([] : List Finish) hL U99 zAP rfl (by decide) (by first | (simp [Instr.fill, madeCells, Value.cells, ev, upd, Flat.enc, Flat.sz]; done) | rfl | kernel_rfl) rfl rfl ?_)
     intro mB kA kB hL
     refine ⟨(hL.sl [1, 4, 5, 6] rfl), ?_⟩
     exact zAm (listed' := (bma 11 31)) (by kernel_rfl) (dD _ _ ⟨kA, kB, jS, jT, jU, jV, jW, jX, jY, rfl, jZ, hL⟩)
   refine zAI (listed' := (bma 11 29)) (fuel' := 7) (fun F w => ∃ bM cN, F 1 = v3 ∧ F 4 = (PV b8 0) ∧ F 5 = (PV aD 0) ∧ F 19 = v1 ∧ F 20 = (IV (a0.Races.length : Int)) ∧ F 21 = (IV s_l1.2) ∧ F 25 = (PV aD 2) ∧ F 27 = bM ∧ F 29 = aG ∧ Hp w0 [Ent.own 103 cN bM ([] : List Finish), Ent.blk aJ 101 #[aG], Ent.own 101 aL aC s_l1.1, Ent.blk aD 38 #[(IV a0.Boats), (IV a0.Scheme), aC], Ent.blk b8 38 #[(IV 0), (IV 0), (.slice none 0 0)], Ent.blk b6 38 #[(IV a0.Boats), (IV a0.Scheme), v1], zAg w0 w0.heap.size] w) ?_ (fun fZ => ?_)
   · intro nG mC hJ
     obtain ⟨bM, cN, eE, eF, eG, eH, eI, eJ, eK, eL, eM, hL⟩ := hJ
     refine DH.all (rs := [1, 5]) (by kernel_rfl) (by simp) ?_
     intro nH dE
     simp only [List.mem_cons, List.not_mem_nil, or_false] at dE
     rcases dE with rfl | rfl
     · refine ⟨_, rfl, ?_⟩
       refine zAk (v := aC) rfl (zAd U36 rfl eK (hL.cellB 3 rfl rfl)) ?_
       refine ⟨(hL.sl [1, 4, 5, 6] rfl), ?_⟩
       exact zAm (listed' := (bma 11 31)) (by kernel_rfl) (dD _ _ ⟨bM, cN, eE, eF, eG, eH, eI, eJ, rfl, eL, eM, hL⟩)
     refine ⟨_, rfl, ?_⟩
     refine zCA (ys := aK.Finishes) hL 0 rfl U99 zAP rfl eL eM (hL.rdS 6 rfl bP) cZ (by decide) rfl ?_
     intro mD cO kC hL
     refine ⟨(hL.sl [1, 4, 5, 6] rfl), ?_⟩
     have hS := (hL.sl [1, 4, 5, 6] rfl)
     refine zAw 6 rfl (by kernel_rfl) rfl rfl hS (zAp (v := (.agg #[cO])) (fun w' hS' => zCB zKh (ps := [(0, cO)]) ⟨⟨rfl, rfl⟩, trivial⟩ (by simp [Instr.fill, zBJ, zBA, zBi, zBK, zBo, zBc, (zAY (hL.rdO 0 rfl))]))) ?_
     exact zAm (listed' := (bma 11 125)) (by kernel_rfl) (fX _ _ ⟨cO, kC, eE, eF, eG, eH, eI, eJ, eK, rfl, hL⟩)
   refine DH.all (rs := [1, 2]) (by kernel_rfl) (by simp) ?_
   intro nI dF
   simp only [List.mem_cons, List.not_mem_nil, or_false] at dF
   rcases dF with rfl | rfl
   · refine ⟨_, rfl, ?_⟩
     refine zAk (v := aC) rfl (zAd U36 rfl rfl (hL.cellB 2 rfl rfl)) ?_
     refine ⟨(hL.sl [0, 3, 4, 5] rfl), ?_⟩
     exact zAm (listed' := (bma 11 27)) (by kernel_rfl) (fY _ _ ⟨cC, cD, bG, bH, bI, aU, rfl, rfl, hL⟩)
   refine ⟨_, rfl, ?_⟩
   refine zBS ([] : List Finish) hL U99 zAP rfl (by decide) (by first | (simp [Instr.fill, madeCells, Value.cells, ev, upd, Flat.enc, Flat.sz]; done) | rfl | kernel_rfl) rfl rfl ?_
   intro mE kD kE hL
   refine ⟨(hL.sl [1, 4, 5, 6] rfl), ?_⟩
   exact zAm (listed' := (bma 11 29)) (by kernel_rfl) (fZ _ _ ⟨kD, kE, cC, cD, bG, bH, bI, aU, rfl, rfl, rfl, hL⟩)
 refine zA0 ?_
 refine zBk ?_
 obtain rfl := oi hm
 exact ⟨_, rfl, ⟨aC, aL, cC, cD, bG, bH, bI, aU, hL⟩⟩

theorem zLP (w0 : World) (a0 : List Finish) {v1 : Value} (h2 : rdL (· < w0.heap.size) w0 v1 a0) {r : (List Int) × (List Int)} (hm : zH9 a0 = some r) :
    Calls Tryz.prog 109 #[v1] w0 fun e w' => ∃ (rv0 : Value) (rS0 : Nat → Prop), ∃ (rv1 : Value) (rS1 : Nat → Prop), e = .returned (.tuple #[rv0, rv1]) ∧ Fresh w0 w' [Ent.own 2 rS0 rv0 r.1, Ent.own 2 rS1 rv1 r.2] := by
 unfold zH9 at hm
 refine zAD (args := [v1]) Tryz.func109 rfl rfl rfl ?_
 have hL := zAJ w0
 refine CSR <| OV (.slice none 0 0) rfl (zAb) <| OV (.slice none 0 0) rfl (zAb) <| ONS ?_
 refine zDG (fun w' => Hp w0 [zAg w0 w0.heap.size] w') zAQ ?_
 have hL := hL.call (zA8 _)
 have hS := (hL.sl [0] rfl)
 refine zAw 0 rfl (by kernel_rfl) rfl rfl hS (zAp (v := v1) (fun w' hS' => zAe)) ?_
 have hS := (hL.sl [0] rfl)
 refine zAw 1 rfl (by kernel_rfl) rfl rfl hS (zAp (v := (IV (a0.length : Int))) (fun w' hS' => zPb U99 rfl (zM1 (hL.rdS 0 rfl h2)))) ?_
 have hS := (hL.sl [0] rfl)
 refine zAw 3 rfl (by kernel_rfl) rfl rfl hS (zAp (v := v1) (fun w' hS' => zAe)) ?_
 have hS := (hL.sl [0] rfl)
 refine zAw 4 rfl (by kernel_rfl) rfl rfl hS (zAp (v := (IV (a0.length : Int))) (fun w' hS' => zPb U99 rfl (zM1 (hL.rdS 0 rfl h2)))) ?_
 obtain ⟨eC, hm⟩ := zEs hm
 obtain ⟨eD, hm⟩ := zEs hm
 refine zAI (listed' := (bma 8 255)) (fuel' := 0) (fun F w => ∃ aG eE aF eF, F 0 = v1 ∧ F 2 = (.slice none 0 0) ∧ F 3 = (.slice none 0 0) ∧ F 4 = aF ∧ F 5 = aG ∧ Hp w0 [Ent.own 2 eE aG (List.replicate ((a0.length : Int)).toNat (0 : Int)), Ent.own 2 eF aF (List.replicate ((a0.length : Int)).toNat (0 : Int)), zAg w0 w0.heap.size] w) ?_ (fun eG => ?_)
 · intro jN jM hJ
   obtain ⟨aG, eE, aF, eF, hE, jO, jP, iG, iH, hL⟩ := hJ
   refine zDB (by kernel_rfl) ?_
   refine zAF <| CSR <| OV v1 rfl (zAo hE) <| OV (IV (a0.length : Int)) rfl (zA3 U99 rfl (hL.rdS 2 rfl h2)) <| OV (IV 0) rfl (zAe) <| OW.nil ?_
   obtain ⟨jF, eH, hm⟩ := zAs hm
   refine zAU (fun (s_l1 : (List Int) × (List Int) × Int) F w => ∃ aK aL, F 0 = v1 ∧ F 4 = aF ∧ F 5 = aG ∧ F 16 = v1 ∧ F 17 = (IV (a0.length : Int)) ∧ F 18 = (IV s_l1.2.2) ∧ Hp w0 [Ent.own 2 aL aG s_l1.2.1, Ent.own 2 aK aF s_l1.1, zAg w0 w0.heap.size] w) (fun o => zBh o (fun x => some x) (fun s => zHY s) = some r) eH hm ⟨eF, eE, hE, iG, iH, rfl, rfl, rfl, hL⟩ ?_ ?_
   · intro s_l1 jG iI hJ hm
     have hm := zBD hm
     have hm : zHY s_l1 = some r := hm
     unfold zHY at hm
     obtain ⟨aK, aL, jH, hC, hD, jI, jJ, jK, hL⟩ := hJ
     refine CSR <| OV aF rfl (zAo hC) <| OV aG rfl (zAo hD) <| OV aF rfl (zAb) <| OV aG rfl (zAb) <| OW.nil <| zAx ?_
     obtain rfl := oi hm
     exact RR2 rfl rfl rfl ⟨aF, aK, aG, aL, rfl, hL.fresh 2 rfl [1, 0] (by decide) (by decide) rfl⟩
   intro s_l1 jL iJ aX hJ hm iK
   unfold zGi at hm
   obtain ⟨aK, aL, aY, aZ, cR, bA, bB, aN, hL⟩ := hJ
   refine CSR <| OV (.bool (decide (s_l1.2.2 < (a0.length : Int)))) rfl (zBE aN bB) <| ONS ?_
   refine zAn (t := decide (s_l1.2.2 < (a0.length : Int))) rfl hm (fun eI hm => ?_) (fun eI hm => ?_)
   · refine zAt ?_
     refine zAM (fun (s_j1 : (List Int) × (List Int)) F w => ∃ bC bD, F 0 = v1 ∧ F 4 = aF ∧ F 5 = aG ∧ F 16 = v1 ∧ F 17 = (IV (a0.length : Int)) ∧ F 18 = (IV s_l1.2.2) ∧ Hp w0 [Ent.own 2 bD aG s_j1.2, Ent.own 2 bC aF s_j1.1, zAg w0 w0.heap.size] w) (fun s_j1 => zGd s_l1 s_j1 = some aX) ?_ ?_
     · refine zBG (fun (s_j2 : (List Int) × (List Int)) F w => ∃ bE bF, F 0 = v1 ∧ F 4 = aF ∧ F 5 = aG ∧ F 16 = v1 ∧ F 17 = (IV (a0.length : Int)) ∧ F 18 = (IV s_l1.2.2) ∧ Hp w0 [Ent.own 2 bF aG s_j2.2, Ent.own 2 bE aF s_j2.1, zAg w0 w0.heap.size] w) (fun s_j2 => zEP s_l1 s_j2 = some aX) ?_ ?_
       · refine CSR <| OV (IV s_l1.2.2) rfl (zAo aN) ?_
         obtain ⟨aA, dJ, hm⟩ := zAs hm
         obtain ⟨dK, cI⟩ := zAZ dJ
         obtain ⟨eJ, eK, bG⟩ := zAC (hL.rdS 2 rfl h2) dK cI
         refine OV (.pointer (some ⟨eJ, eK, none⟩)) rfl (zA1 U99 zAP bA aN bG) <| OV (.agg #[(IV aA.Boat), (IV aA.Code), (IV aA.Time)]) rfl (zAW (cs := [(IV aA.Boat), (IV aA.Code), (IV aA.Time)]) zFd zAP rfl rfl (zAv (hL.rdS 2 rfl h2) bG cI)) ?_
         refine zAa (zBb (cs := #[(IV 0), (IV 0), (IV 0)]) hL zAP rfl rfl ?_)
         intro hH aE hL
         refine OV (IV s_l1.2.2) rfl (zAb) ?_
         refine zAa (zA9 (l := [(IV aA.Boat), (IV aA.Code), (IV aA.Time)]) (cs' := #[(IV aA.Boat), (IV aA.Code), (IV aA.Time)]) hL 0 rfl zAP rfl rfl (fc ⟨rfl, (fc ⟨rfl, (fc ⟨rfl, fz⟩)⟩)⟩) rfl (nle rfl) rfl ?_)
         intro hI hL
         refine ONS <| CSR <| OV (PV aE 1) rfl (zAc (fsz := 1) 0 1 1 zFd rfl zAf rfl rfl rfl) <| OV (IV aA.Code) rfl (zAd U2 rfl rfl (hL.cellB 0 rfl rfl)) <| OV (.bool (aA.Code != 0)) rfl (zDk rfl rfl) <| OW.nil ?_
         refine zAn (t := aA.Code != 0) rfl hm (fun dL hm => ?_) (fun dL hm => ?_)
         · refine zA0 ?_
           refine zBk ?_
           have hL := hL.sl [1, 2, 3] rfl
           exact ⟨(s_l1.1, s_l1.2.1), hm, ⟨aK, aL, aY, aZ, cR, bA, bB, aN, hL⟩⟩
         refine zAt <| CSR <| OV aF rfl (zAo aZ) <| OV (IV s_l1.2.2) rfl (zAe) ?_
         obtain ⟨iL, dM, hm⟩ := zAs hm
         obtain ⟨dN, cJ⟩ := zAZ dM
         obtain ⟨eL, eM, bH⟩ := zAC (hL.rdO 2 rfl) dN cJ
         refine OV (.pointer (some ⟨eL, eM, none⟩)) rfl (zA1 U27 zAf rfl rfl bH) ?_
         refine zAa (zBV (j := 0) 1 hL 2 rfl zAf bH cJ rfl rfl rfl rfl rfl rfl ?_)
         intro hK hL
         refine ONR <| OV v1 rfl (zAo aY) <| OV (IV (a0.length : Int)) rfl (zA3 U99 rfl (hL.rdS 3 rfl h2)) <| OV (IV 0) rfl (zAe) <| OW.nil ?_
         obtain ⟨iM, dO, hm⟩ := zAs hm
         refine zAU (fun (s_l2 : (List Int) × (List Int) × Int) F w => ∃ aH aI, F 0 = v1 ∧ F 4 = aF ∧ F 5 = aG ∧ F 6 = (IV s_l1.2.2) ∧ F 7 = (PV aE 0) ∧ F 16 = v1 ∧ F 17 = (IV (a0.length : Int)) ∧ F 18 = (IV s_l1.2.2) ∧ F 29 = v1 ∧ F 30 = (IV (a0.length : Int)) ∧ F 31 = (IV s_l2.2.2) ∧ Hp w0 [Ent.blk aE 103 #[(IV aA.Boat), (IV aA.Code), (IV aA.Time)], Ent.own 2 aI aG s_l2.2.1, Ent.own 2 aH aF s_l2.1, zAg w0 w0.heap.size] w) (fun o => zBh o (fun x => some (.ret x)) (fun s => zGe s_l1 s) = some aX) dO hm ⟨aK, aL, aY, aZ, cR, rfl, rfl, bA, bB, aN, rfl, rfl, rfl, hL⟩ ?_ ?_
         · intro s_l2 iN hM hJ hm
           have hm := zBD hm
           have hm : zGe s_l1 s_l2 = some aX := hm
           unfold zGe at hm
           obtain ⟨aH, aI, eN, eO, eP, iO, iP, eQ, eR, eS, iQ, iR, iS, hL⟩ := hJ
           have hL := hL.sl [1, 2, 3] rfl
           exact ⟨(s_l2.1, s_l2.2.1), hm, ⟨aH, aI, eN, eO, eP, eQ, eR, eS, hL⟩⟩
         intro s_l2 iT hN aO hJ hm hO
         unfold zGh at hm
         obtain ⟨aH, aI, bI, bJ, bK, bL, aP, bM, bN, bO, aQ, aR, aM, hL⟩ := hJ
         refine CSR <| OV (.bool (decide (s_l2.2.2 < (a0.length : Int)))) rfl (zBE aM aR) <| ONS ?_
         refine zAn (t := decide (s_l2.2.2 < (a0.length : Int))) rfl hm (fun dP hm => ?_) (fun dP hm => ?_)
         · refine zAt ?_
           refine zAM (fun (s_j3 : (List Int) × (List Int)) F w => ∃ bP bQ, F 0 = v1 ∧ F 4 = aF ∧ F 5 = aG ∧ F 6 = (IV s_l1.2.2) ∧ F 7 = (PV aE 0) ∧ F 16 = v1 ∧ F 17 = (IV (a0.length : Int)) ∧ F 18 = (IV s_l1.2.2) ∧ F 29 = v1 ∧ F 30 = (IV (a0.length : Int)) ∧ F 31 = (IV s_l2.2.2) ∧ Hp w0 [Ent.blk aE 103 #[(IV aA.Boat), (IV aA.Code), (IV aA.Time)], Ent.own 2 bQ aG s_j3.2, Ent.own 2 bP aF s_j3.1, zAg w0 w0.heap.size] w) (fun s_j3 => zHZ s_l2 s_j3 = some aO) ?_ ?_
           · refine zBG (fun (s_j4 : (List Int) × (List Int)) F w => ∃ bR bS, F 0 = v1 ∧ F 4 = aF ∧ F 5 = aG ∧ F 6 = (IV s_l1.2.2) ∧ F 7 = (PV aE 0) ∧ F 16 = v1 ∧ F 17 = (IV (a0.length : Int)) ∧ F 18 = (IV s_l1.2.2) ∧ F 29 = v1 ∧ F 30 = (IV (a0.length : Int)) ∧ F 31 = (IV s_l2.2.2) ∧ Hp w0 [Ent.blk aE 103 #[(IV aA.Boat), (IV aA.Code), (IV aA.Time)], Ent.own 2 bS aG s_j4.2, Ent.own 2 bR aF s_j4.1, zAg w0 w0.heap.size] w) (fun s_j4 => zEQ s_l2 s_j4 = some aO) ?_ ?_
             · refine CSR ?_
               obtain ⟨aB, dQ, hm⟩ := zAs hm
               obtain ⟨dR, cK⟩ := zAZ dQ
               obtain ⟨eT, eU, bT⟩ := zAC (hL.rdS 3 rfl h2) dR cK
               refine OV (.pointer (some ⟨eT, eU, none⟩)) rfl (zA1 U99 zAP aQ aM bT) <| OV (.agg #[(IV aB.Boat), (IV aB.Code), (IV aB.Time)]) rfl (zAW (cs := [(IV aB.Boat), (IV aB.Code), (IV aB.Time)]) zFd zAP rfl rfl (zAv (hL.rdS 3 rfl h2) bT cK)) ?_
               refine zAa (zBb (cs := #[(IV 0), (IV 0), (IV 0)]) hL zAP rfl rfl ?_)
               intro hP aJ hL
               refine zAa (zA9 (l := [(IV aB.Boat), (IV aB.Code), (IV aB.Time)]) (cs' := #[(IV aB.Boat), (IV aB.Code), (IV aB.Time)]) hL 0 rfl zAP rfl rfl (fc ⟨rfl, (fc ⟨rfl, (fc ⟨rfl, fz⟩)⟩)⟩) rfl (nle rfl) rfl ?_)
               intro hQ hL
               refine OW.nil ?_
               refine zAM (fun (s_j5 : Bool) F w => F 0 = v1 ∧ F 4 = aF ∧ F 5 = aG ∧ F 6 = (IV s_l1.2.2) ∧ F 7 = (PV aE 0) ∧ F 9 = (PV aJ 0) ∧ F 16 = v1 ∧ F 17 = (IV (a0.length : Int)) ∧ F 18 = (IV s_l1.2.2) ∧ F 29 = v1 ∧ F 30 = (IV (a0.length : Int)) ∧ F 31 = (IV s_l2.2.2) ∧ F 44 = (.bool s_j5) ∧ Hp w0 [Ent.blk aJ 103 #[(IV aB.Boat), (IV aB.Code), (IV aB.Time)], Ent.blk aE 103 #[(IV aA.Boat), (IV aA.Code), (IV aA.Time)], Ent.own 2 aI aG s_l2.2.1, Ent.own 2 aH aF s_l2.1, zAg w0 w0.heap.size] w) (fun s_j5 => zGg s_l1 aA s_l2 aB s_j5 = some aO) ?_ ?_
               · refine zAl <| OV (PV aJ 1) rfl (zAc (fsz := 1) 0 1 1 zFd rfl zAf rfl rfl rfl) <| OV (IV aB.Code) rfl (zAd U2 rfl rfl (hL.cellB 0 rfl rfl)) <| OV (.bool (aB.Code == 0)) rfl (zBv rfl rfl) <| OV (.bool (aB.Code == 0)) rfl (zAe) ?_
                 refine zAH hm (fun aC hm => ?_) (fun aC hm => ?_)
                 · refine zAa (zAj rfl rfl aC (zAk (v := (PV aJ 2)) rfl (zAc (fsz := 1) 0 2 2 zFd rfl zAf rfl rfl rfl) ?_))
                   refine zAa (zAj rfl rfl aC (zAk (v := (IV aB.Time)) rfl (zAd U2 rfl rfl (hL.cellB 0 rfl rfl)) ?_))
                   refine zAa (zAj rfl rfl aC (zAk (v := (PV aE 2)) rfl (zAc (fsz := 1) 0 2 2 zFd rfl zAf rfl aP rfl) ?_))
                   refine zAa (zAj rfl rfl aC (zAk (v := (IV aA.Time)) rfl (zAd U2 rfl rfl (hL.cellB 1 rfl rfl)) ?_))
                   refine zAa (zAj rfl rfl aC (zAk (v := (.bool (decide (aB.Time < aA.Time)))) rfl (zBE rfl rfl) ?_))
                   refine OV (.bool (decide (aB.Time < aA.Time))) rfl (zAz rfl aC rfl) <| OW.nil ?_
                   exact ⟨decide (aB.Time < aA.Time), hm, ⟨bI, bJ, bK, bL, aP, rfl, bM, bN, bO, aQ, aR, aM, rfl, hL⟩⟩
                 refine zAa (zAh rfl rfl aC rfl ?_)
                 refine zAa (zAh rfl rfl aC rfl ?_)
                 refine zAa (zAh rfl rfl aC rfl ?_)
                 refine zAa (zAh rfl rfl aC rfl ?_)
                 refine zAa (zAh rfl rfl aC rfl ?_)
                 refine OV (.bool false) rfl (zAA rfl aC rfl) <| OW.nil ?_
                 exact ⟨false, hm, ⟨bI, bJ, bK, bL, aP, rfl, bM, bN, bO, aQ, aR, aM, rfl, hL⟩⟩
               intro s_j5 iU hR hJ hm
               unfold zGg at hm
               obtain ⟨bU, aS, bV, aT, aU, cS, bW, bX, bY, bZ, cA, cB, eV, hL⟩ := hJ
               refine zAn (t := s_j5) eV hm (fun dS hm => ?_) (fun dS hm => ?_)
               · refine zAl <| OV aF rfl (zAo aS) <| OV (IV s_l1.2.2) rfl (zAo aT) ?_
                 obtain ⟨aV, dT, hm⟩ := zAs hm
                 obtain ⟨dU, cM⟩ := zAZ dT
                 obtain ⟨eW, eX, cC⟩ := zAC (hL.rdO 3 rfl) dU cM
                 refine OV (.pointer (some ⟨eW, eX, none⟩)) rfl (zA1 U27 zAf rfl rfl cC) <| OV (IV aV) rfl (zAd U2 rfl rfl (zAv (hL.rdO 3 rfl) cC cM 0 _ rfl)) <| OV (IV (w64 (aV + 1))) rfl (zBe rfl rfl) ?_
                 obtain ⟨iV, dV, hm⟩ := zAs hm
                 obtain ⟨dW, cN⟩ := zAZ dV
                 obtain ⟨eY, eZ, cD⟩ := zAC (hL.rdO 3 rfl) dW cN
                 refine OV (.pointer (some ⟨eY, eZ, none⟩)) rfl (zA1 U27 zAf rfl rfl cD) ?_
                 refine zAa (zBV (j := 0) (w64 (aV + 1)) hL 3 rfl zAf cD cN rfl rfl rfl rfl rfl rfl ?_)
                 intro hT hL
                 refine OW.nil ?_
                 have hL := hL.sl [1, 2, 3, 4] rfl
                 exact ⟨(s_l2.1.set (s_l1.2.2 : Int).toNat (w64 (aV + 1)), s_l2.2.1), hm, ⟨aH, aI, bU, aS, bV, aT, aU, bW, bX, bY, bZ, cA, cB, hL⟩⟩
               refine zAM (fun (s_j6 : Bool) F w => F 0 = v1 ∧ F 4 = aF ∧ F 5 = aG ∧ F 6 = (IV s_l1.2.2) ∧ F 7 = (PV aE 0) ∧ F 16 = v1 ∧ F 17 = (IV (a0.length : Int)) ∧ F 18 = (IV s_l1.2.2) ∧ F 29 = v1 ∧ F 30 = (IV (a0.length : Int)) ∧ F 31 = (IV s_l2.2.2) ∧ F 60 = (.bool s_j6) ∧ Hp w0 [Ent.blk aJ 103 #[(IV aB.Boat), (IV aB.Code), (IV aB.Time)], Ent.blk aE 103 #[(IV aA.Boat), (IV aA.Code), (IV aA.Time)], Ent.own 2 aI aG s_l2.2.1, Ent.own 2 aH aF s_l2.1, zAg w0 w0.heap.size] w) (fun s_j6 => zGf s_l1 s_l2 s_j6 = some aO) ?_ ?_
               · refine zAl <| OV (PV aJ 1) rfl (zAc (fsz := 1) 0 1 1 zFd rfl zAf rfl cS rfl) <| OV (IV aB.Code) rfl (zAd U2 rfl rfl (hL.cellB 0 rfl rfl)) <| OV (.bool (aB.Code == 0)) rfl (zBv rfl rfl) <| OV (.bool (aB.Code == 0)) rfl (zAe) ?_
                 refine zAH hm (fun aD hm => ?_) (fun aD hm => ?_)
                 · refine zAa (zAj rfl rfl aD (zAk (v := (PV aJ 2)) rfl (zAc (fsz := 1) 0 2 2 zFd rfl zAf rfl cS rfl) ?_))
                   refine zAa (zAj rfl rfl aD (zAk (v := (IV aB.Time)) rfl (zAd U2 rfl rfl (hL.cellB 0 rfl rfl)) ?_))
                   refine zAa (zAj rfl rfl aD (zAk (v := (PV aE 2)) rfl (zAc (fsz := 1) 0 2 2 zFd rfl zAf rfl aU rfl) ?_))
                   refine zAa (zAj rfl rfl aD (zAk (v := (IV aA.Time)) rfl (zAd U2 rfl rfl (hL.cellB 1 rfl rfl)) ?_))
                   refine zAa (zAj rfl rfl aD (zAk (v := (.bool (aB.Time == aA.Time))) rfl (zBv rfl rfl) ?_))
                   refine OV (.bool (aB.Time == aA.Time)) rfl (zAz rfl aD rfl) <| OW.nil ?_
                   exact ⟨aB.Time == aA.Time, hm, ⟨bU, aS, bV, aT, aU, bW, bX, bY, bZ, cA, cB, rfl, hL⟩⟩
                 refine zAa (zAh rfl rfl aD rfl ?_)
                 refine zAa (zAh rfl rfl aD rfl ?_)
                 refine zAa (zAh rfl rfl aD rfl ?_)
                 refine zAa (zAh rfl rfl aD rfl ?_)
                 refine zAa (zAh rfl rfl aD rfl ?_)
                 refine OV (.bool false) rfl (zAA rfl aD rfl) <| OW.nil ?_
                 exact ⟨false, hm, ⟨bU, aS, bV, aT, aU, bW, bX, bY, bZ, cA, cB, rfl, hL⟩⟩
               intro s_j6 iW hU hJ hm
               unfold zGf at hm
               obtain ⟨cT, cU, cE, cF, cV, cW, cX, cY, cZ, dA, dB, fA, hL⟩ := hJ
               refine zAn (t := s_j6) fA hm (fun dX hm => ?_) (fun dX hm => ?_)
               · refine zAl <| OV aG rfl (zAo cE) <| OV (IV s_l1.2.2) rfl (zAo cF) ?_
                 obtain ⟨aW, dY, hm⟩ := zAs hm
                 obtain ⟨dZ, cO⟩ := zAZ dY
                 obtain ⟨fB, fC, cG⟩ := zAC (hL.rdO 2 rfl) dZ cO
                 refine OV (.pointer (some ⟨fB, fC, none⟩)) rfl (zA1 U27 zAf rfl rfl cG) <| OV (IV aW) rfl (zAd U2 rfl rfl (zAv (hL.rdO 2 rfl) cG cO 0 _ rfl)) <| OV (IV (w64 (aW + 1))) rfl (zBe rfl rfl) ?_
                 obtain ⟨iX, eA, hm⟩ := zAs hm
                 obtain ⟨eB, cP⟩ := zAZ eA
                 obtain ⟨fD, fE, cH⟩ := zAC (hL.rdO 2 rfl) eB cP
                 refine OV (.pointer (some ⟨fD, fE, none⟩)) rfl (zA1 U27 zAf rfl rfl cH) ?_
                 refine zAa (zBV (j := 0) (w64 (aW + 1)) hL 2 rfl zAf cH cP rfl rfl rfl rfl rfl rfl ?_)
                 intro hV hL
                 refine OW.nil ?_
                 have hL := hL.sl [1, 2, 3, 4] rfl
                 exact ⟨(s_l2.1, s_l2.2.1.set (s_l1.2.2 : Int).toNat (w64 (aW + 1))), hm, ⟨aH, aI, cT, cU, cE, cF, cV, cW, cX, cY, cZ, dA, dB, hL⟩⟩
               refine zAt ?_
               have hL := hL.sl [1, 2, 3, 4] rfl
               exact ⟨(s_l2.1, s_l2.2.1), hm, ⟨aH, aI, cT, cU, cE, cF, cV, cW, cX, cY, cZ, dA, dB, hL⟩⟩
             intro s_j4 iY hW hJ hm
             unfold zEQ at hm
             obtain ⟨bR, bS, fF, fG, fH, fI, fJ, fK, fL, fM, fN, fO, fP, hL⟩ := hJ
             exact ⟨(s_j4.1, s_j4.2), hm, ⟨bR, bS, fF, fG, fH, fI, fJ, fK, fL, fM, fN, fO, fP, hL⟩⟩
           intro s_j3 iZ hX hJ hm
           unfold zHZ at hm
           obtain ⟨bP, bQ, fQ, fR, fS, fT, fU, fV, fW, fX, fY, fZ, gA, hL⟩ := hJ
           refine zAl <| OV (IV (w64 (s_l2.2.2 + 1))) rfl (zBe gA rfl) <| OV (IV (w64 (s_l2.2.2 + 1))) rfl (zAe) <| OW.nil ?_
           obtain rfl := oi hm
           exact ⟨_, rfl, ⟨bP, bQ, fQ, fR, fS, fT, fU, fV, fW, fX, fY, fZ, rfl, hL⟩⟩
         refine zA0 ?_
         refine zBk ?_
         obtain rfl := oi hm
         exact ⟨_, rfl, ⟨aH, aI, bI, bJ, bK, bL, aP, bM, bN, bO, aQ, aR, aM, hL⟩⟩
       intro s_j2 jA hY hJ hm
       unfold zEP at hm
       obtain ⟨bE, bF, gB, gC, gD, gE, gF, gG, hL⟩ := hJ
       exact ⟨(s_j2.1, s_j2.2), hm, ⟨bE, bF, gB, gC, gD, gE, gF, gG, hL⟩⟩
     intro s_j1 jB hZ hJ hm
     unfold zGd at hm
     obtain ⟨bC, bD, gH, gI, gJ, gK, gL, gM, hL⟩ := hJ
     refine zAl <| OV (IV (w64 (s_l1.2.2 + 1))) rfl (zBe gM rfl) <| OV (IV (w64 (s_l1.2.2 + 1))) rfl (zAe) <| OW.nil ?_
     obtain rfl := oi hm
     exact ⟨_, rfl, ⟨bC, bD, gH, gI, gJ, gK, gL, rfl, hL⟩⟩
   refine zA0 ?_
   refine zBk ?_
   obtain rfl := oi hm
   exact ⟨_, rfl, ⟨aK, aL, aY, aZ, cR, bA, bB, aN, hL⟩⟩
 refine zAI (listed' := (bma 8 95)) (fuel' := 2) (fun F w => ∃ dI gN, F 0 = v1 ∧ F 2 = (.slice none 0 0) ∧ F 3 = (.slice none 0 0) ∧ F 4 = dI ∧ F 14 = (IV (a0.length : Int)) ∧ Hp w0 [Ent.own 2 gN dI (List.replicate ((a0.length : Int)).toNat (0 : Int)), zAg w0 w0.heap.size] w) ?_ (fun hF => ?_)
 · intro jC iA hJ
   obtain ⟨dI, gN, gO, gP, gQ, gR, dC, hL⟩ := hJ
   refine zAT 5 rfl (by kernel_rfl) (zKS (α := Int) 0 hL U27 zAf dC dC rfl eD (by decide) rfl ?_)
   intro iB dD gS hL
   refine ⟨(hL.sl [2] rfl), ?_⟩
   have hS := (hL.sl [2] rfl)
   refine zAw 7 rfl (by kernel_rfl) rfl rfl hS (zAp (v := dD) (fun w' hS' => zAb)) ?_
   exact zAm (listed' := (bma 8 255)) (by kernel_rfl) (eG _ _ ⟨dD, gS, dI, gN, gO, gP, gQ, gR, rfl, hL⟩)
 refine zAI (listed' := (bma 8 59)) (fuel' := 3) (fun F w => ∃ dE gT, F 0 = v1 ∧ F 2 = (.slice none 0 0) ∧ F 3 = (.slice none 0 0) ∧ F 11 = (IV (a0.length : Int)) ∧ F 15 = dE ∧ Hp w0 [Ent.own 2 gT dE (List.replicate ((a0.length : Int)).toNat (0 : Int)), zAg w0 w0.heap.size] w) ?_ (fun hG => ?_)
 · intro jD iC hJ
   obtain ⟨dE, gT, gU, gV, gW, dF, gX, hL⟩ := hJ
   refine zAT 2 rfl (by kernel_rfl) (zKS (α := Int) 0 hL U27 zAf dF dF rfl eC (by decide) rfl ?_)
   intro iD dG gY hL
   refine ⟨(hL.sl [2] rfl), ?_⟩
   have hS := (hL.sl [2] rfl)
   refine zAw 6 rfl (by kernel_rfl) rfl rfl hS (zAp (v := dG) (fun w' hS' => zAb)) ?_
   have hS := (hL.sl [2] rfl)
   refine zAw 7 rfl (by kernel_rfl) rfl rfl hS (zAp (v := dE) (fun w' hS' => zTw gX)) ?_
   have hL := hL.sl [1, 0, 2] rfl
   exact zAm (listed' := (bma 8 255)) (by kernel_rfl) (eG _ _ ⟨dE, gT, dG, gY, gU, gV, gW, rfl, rfl, hL⟩)
 refine DH.all (rs := [2, 5]) (by kernel_rfl) (by simp) ?_
 intro jE cQ
 simp only [List.mem_cons, List.not_mem_nil, or_false] at cQ
 rcases cQ with rfl | rfl
 · refine ⟨_, rfl, ?_⟩
   refine zKS (α := Int) 0 hL U27 zAf rfl rfl rfl eC (by decide) rfl ?_
   intro iE dH gZ hL
   refine ⟨(hL.sl [1] rfl), ?_⟩
   have hS := (hL.sl [1] rfl)
   refine zAw 6 rfl (by kernel_rfl) rfl rfl hS (zAp (v := dH) (fun w' hS' => zAb)) ?_
   exact zAm (listed' := (bma 8 95)) (by kernel_rfl) (hF _ _ ⟨dH, gZ, rfl, rfl, rfl, rfl, rfl, hL⟩)
 refine ⟨_, rfl, ?_⟩
 refine zKS (α := Int) 0 hL U27 zAf rfl rfl rfl eD (by decide) rfl ?_
 intro iF hA hB hL
 refine ⟨(hL.sl [1] rfl), ?_⟩
 exact zAm (listed' := (bma 8 59)) (by kernel_rfl) (hG _ _ ⟨hA, hB, rfl, rfl, rfl, rfl, rfl, hL⟩)

theorem zJB (w0 : World) (a0 : List Finish) {v1 : Value} (h2 : rdL (· < w0.heap.size) w0 v1 a0) (a1 : Int) (a2 : Int) {r : Int} (hm : zEb a0 a1 a2 = some r) :
    Calls Tryz.prog 78 #[v1, (IV a1), (IV a2)] w0 fun e w' => e = .returned (IV r) ∧ Fresh w0 w' [] := by
 unfold zEb at hm
 refine zAD (args := [v1, (IV a1), (IV a2)]) Tryz.func78 rfl rfl rfl ?_
 have hL := zAJ w0
 refine CSR <| OV (IV 0) rfl (zAb) <| ONS <| CSR <| OV (IV a1) rfl (zAe) <| OV (.bool (a1 == 9)) rfl (zBv rfl rfl) <| OW.nil ?_
 refine zAn (t := a1 == 9) rfl hm (fun hb3 hm => ?_) (fun hb3 hm => ?_)
 · refine CSR <| OV (IV 0) rfl (zAb) <| OW.nil <| zAx ?_
   obtain rfl := oi hm
   exact RR1 rfl rfl ⟨rfl, hL.fresh 0 rfl [] (by decide) (by decide) rfl⟩
 refine zAt <| CSR <| OV v1 rfl (zAe) <| OV (IV (a0.length : Int)) rfl (zA3 U99 rfl (hL.rdS 0 rfl h2)) <| OV (IV (a0.length : Int)) rfl (zAb) <| ONS <| CSR <| OV v1 rfl (zAe) <| OV (IV (a0.length : Int)) rfl (zA3 U99 rfl (hL.rdS 0 rfl h2)) <| OV (IV 0) rfl (zAe) <| OW.nil ?_
 obtain ⟨bW, aT, hm⟩ := zAs hm
 refine zAU (fun (s_l1 : Int × Int) F w => F 1 = (IV a1) ∧ F 2 = (IV a2) ∧ F 7 = (IV s_l1.1) ∧ F 14 = v1 ∧ F 15 = (IV (a0.length : Int)) ∧ F 16 = (IV s_l1.2) ∧ Hp w0 [zAg w0 w0.heap.size] w) (fun o => zBh o (fun x => some x) (fun s => zE2 s) = some r) aT hm ⟨rfl, rfl, rfl, rfl, rfl, rfl, hL⟩ ?_ ?_
 · intro s_l1 bX bO hJ hm
   have hm := zBD hm
   have hm : zE2 s_l1 = some r := hm
   unfold zE2 at hm
   obtain ⟨bY, bZ, aY, cA, cB, cC, hL⟩ := hJ
   refine CSR <| OV (IV s_l1.1) rfl (zAo aY) <| OV (IV (w64 (s_l1.1 + 1))) rfl (zBe rfl rfl) <| OV (IV (w64 (10 * (w64 (s_l1.1 + 1))))) rfl (zHP rfl rfl) <| OV (IV (w64 (10 * (w64 (s_l1.1 + 1))))) rfl (zAb) <| OW.nil <| zAx ?_
   obtain rfl := oi hm
   exact RR1 rfl rfl ⟨rfl, hL.fresh 0 rfl [] (by decide) (by decide) rfl⟩
 intro s_l1 cD bP aK hJ hm bQ
 unfold zE4 at hm
 obtain ⟨aE, aF, aI, aG, aH, aD, hL⟩ := hJ
 refine CSR <| OV (.bool (decide (s_l1.2 < (a0.length : Int)))) rfl (zBE aD aH) <| ONS ?_
 refine zAn (t := decide (s_l1.2 < (a0.length : Int))) rfl hm (fun aU hm => ?_) (fun aU hm => ?_)
 · refine zAt ?_
   refine zAM (fun (s_j1 : Int) F w => F 1 = (IV a1) ∧ F 2 = (IV a2) ∧ F 7 = (IV s_j1) ∧ F 14 = v1 ∧ F 15 = (IV (a0.length : Int)) ∧ F 16 = (IV s_l1.2) ∧ Hp w0 [zAg w0 w0.heap.size] w) (fun s_j1 => zGV s_l1 s_j1 = some aK) ?_ ?_
   · refine zBG (fun (s_j2 : Int) F w => F 1 = (IV a1) ∧ F 2 = (IV a2) ∧ F 7 = (IV s_j2) ∧ F 14 = v1 ∧ F 15 = (IV (a0.length : Int)) ∧ F 16 = (IV s_l1.2) ∧ Hp w0 [zAg w0 w0.heap.size] w) (fun s_j2 => zE3 s_l1 s_j2 = some aK) ?_ ?_
     · refine CSR ?_
       obtain ⟨aA, aV, hm⟩ := zAs hm
       obtain ⟨aW, aL⟩ := zAZ aV
       obtain ⟨aZ, bA, aJ⟩ := zAC (hL.rdS 0 rfl h2) aW aL
       refine OV (.pointer (some ⟨aZ, bA, none⟩)) rfl (zA1 U99 zAP aG aD aJ) <| OV (.agg #[(IV aA.Boat), (IV aA.Code), (IV aA.Time)]) rfl (zAW (cs := [(IV aA.Boat), (IV aA.Code), (IV aA.Time)]) zFd zAP rfl rfl (zAv (hL.rdS 0 rfl h2) aJ aL)) ?_
       refine zAa (zBb (cs := #[(IV 0), (IV 0), (IV 0)]) hL zAP rfl rfl ?_)
       intro bR aM hL
       refine zAa (zA9 (l := [(IV aA.Boat), (IV aA.Code), (IV aA.Time)]) (cs' := #[(IV aA.Boat), (IV aA.Code), (IV aA.Time)]) hL 0 rfl zAP rfl rfl (fc ⟨rfl, (fc ⟨rfl, (fc ⟨rfl, fz⟩)⟩)⟩) rfl (nle rfl) rfl ?_)
       intro bS hL
       refine OW.nil ?_
       refine zAM (fun (s_j3 : Bool) F w => F 1 = (IV a1) ∧ F 2 = (IV a2) ∧ F 7 = (IV s_l1.1) ∧ F 14 = v1 ∧ F 15 = (IV (a0.length : Int)) ∧ F 16 = (IV s_l1.2) ∧ F 30 = (.bool s_j3) ∧ Hp w0 [Ent.blk aM 103 #[(IV aA.Boat), (IV aA.Code), (IV aA.Time)], zAg w0 w0.heap.size] w) (fun s_j3 => zDS s_l1 s_j3 = some aK) ?_ ?_
       · refine zAl <| OV (PV aM 1) rfl (zAc (fsz := 1) 0 1 1 zFd rfl zAf rfl rfl rfl) <| OV (IV aA.Code) rfl (zAd U2 rfl rfl (hL.cellB 0 rfl rfl)) <| OV (.bool (aA.Code == 1)) rfl (zBv rfl rfl) <| OV (.bool (aA.Code == 1)) rfl (zAe) ?_
         refine zAH hm (fun aB hm => ?_) (fun aB hm => ?_)
         · refine zAa (zAj rfl rfl aB (zAk (v := (IV a1)) rfl (zAo aE) ?_))
           refine zAa (zAj rfl rfl aB (zAk (v := (.bool (a1 != 1))) rfl (zDk rfl rfl) ?_))
           refine OV (.bool (a1 != 1)) rfl (zAz rfl aB rfl) <| OV (.bool (a1 != 1)) rfl (zAe) ?_
           refine zAH hm (fun aC hm => ?_) (fun aC hm => ?_)
           · refine zAa (zAj rfl rfl aC (zAk (v := (IV a2)) rfl (zAo aF) ?_))
             refine zAa (zAj rfl rfl aC (zAk (v := (.bool (a2 == 1))) rfl (zBv rfl rfl) ?_))
             refine OV (.bool (a2 == 1)) rfl (zAz rfl aC rfl) <| OW.nil ?_
             exact ⟨a2 == 1, hm, ⟨aE, aF, aI, aG, aH, aD, rfl, hL⟩⟩
           refine zAa (zAh rfl rfl aC rfl ?_)
           refine zAa (zAh rfl rfl aC rfl ?_)
           refine OV (.bool false) rfl (zAA rfl aC rfl) <| OW.nil ?_
           exact ⟨false, hm, ⟨aE, aF, aI, aG, aH, aD, rfl, hL⟩⟩
         refine zAa (zAh rfl rfl aB rfl ?_)
         refine zAa (zAh rfl rfl aB rfl ?_)
         refine OV (.bool false) rfl (zAA rfl aB rfl) <| OV (.bool false) rfl (zAe) ?_
         refine zAa (zAh rfl rfl rfl rfl ?_)
         refine zAa (zAh rfl rfl rfl rfl ?_)
         refine OV (.bool false) rfl (zAA rfl rfl rfl) <| OW.nil ?_
         exact ⟨false, hm, ⟨aE, aF, aI, aG, aH, aD, rfl, hL⟩⟩
       intro s_j3 cE bT hJ hm
       unfold zDS at hm
       obtain ⟨aN, aO, aP, aQ, aR, aS, bB, hL⟩ := hJ
       refine zAn (t := s_j3) bB hm (fun aX hm => ?_) (fun aX hm => ?_)
       · refine zAl <| OV (IV s_l1.1) rfl (zAo aP) <| OV (IV (w64 (s_l1.1 - 1))) rfl (zCn rfl rfl) <| OV (IV (w64 (s_l1.1 - 1))) rfl (zAb) <| OW.nil ?_
         have hL := hL.sl [1] rfl
         exact ⟨w64 (s_l1.1 - 1), hm, ⟨aN, aO, rfl, aQ, aR, aS, hL⟩⟩
       refine zAt ?_
       have hL := hL.sl [1] rfl
       exact ⟨s_l1.1, hm, ⟨aN, aO, aP, aQ, aR, aS, hL⟩⟩
     intro s_j2 cF bU hJ hm
     unfold zE3 at hm
     obtain ⟨bC, bD, bE, bF, bG, bH, hL⟩ := hJ
     exact ⟨s_j2, hm, ⟨bC, bD, bE, bF, bG, bH, hL⟩⟩
   intro s_j1 cG bV hJ hm
   unfold zGV at hm
   obtain ⟨bI, bJ, bK, bL, bM, bN, hL⟩ := hJ
   refine zAl <| OV (IV (w64 (s_l1.2 + 1))) rfl (zBe bN rfl) <| OV (IV (w64 (s_l1.2 + 1))) rfl (zAe) <| OW.nil ?_
   obtain rfl := oi hm
   exact ⟨_, rfl, ⟨bI, bJ, bK, bL, bM, rfl, hL⟩⟩
 refine zA0 ?_
 refine zBk ?_
 obtain rfl := oi hm
 exact ⟨_, rfl, ⟨aE, aF, aI, aG, aH, aD, hL⟩⟩

theorem zCj (w0 : World) (a0 : List Finish) {v1 : Value} (h2 : rdL (· < w0.heap.size) w0 v1 a0) (a1 : Int) {r : (List Int)} (hm : zG4 a0 a1 = some r) :
    Calls Tryz.prog 79 #[v1, (IV a1)] w0 fun e w' => ∃ (rv0 : Value) (rS0 : Nat → Prop), e = .returned rv0 ∧ Fresh w0 w' [Ent.own 2 rS0 rv0 r] := by
 unfold zG4 at hm
 refine zAD (args := [v1, (IV a1)]) Tryz.func79 rfl rfl rfl ?_
 have hL := zAJ w0
 refine CSR <| OV (.slice none 0 0) rfl (zAb) <| ONR <| OV v1 rfl (zAe) ?_
 obtain ⟨x3, hx4, hm⟩ := zAs hm
 refine zAa (OP.call rfl (zAq (vs := [v1]) zQf ⟨rfl, trivial⟩) (zLP _ a0 (hL.rdS 0 rfl h2) hx4) ?_)
 rintro e9 dE ⟨v6, S5, v8, S7, rfl, bQ⟩
 refine ⟨_, rfl, ?_⟩
 have hL := hL.pushAll bQ
 simp only [lA, lB, lC, lD] at hL
 refine OV (.tuple #[v6, v8]) rfl (zAe) <| OV v6 rfl (zA7 rfl rfl) <| OV v8 rfl (zA7 rfl rfl) <| OV v6 rfl (zAb) <| OV v8 rfl (zAb) <| ONR ?_
 refine zAa (zBS ([] : List Int) hL U27 zAf rfl (by decide) (by first | (simp [Instr.fill, madeCells, Value.cells, ev, upd, Flat.enc, Flat.sz]; done) | rfl | kernel_rfl) rfl rfl ?_)
 intro dF bP cR hL
 refine OV bP rfl (zAb) <| ONS <| CSR <| OV v1 rfl (zAe) <| OV (IV (a0.length : Int)) rfl (zA3 U99 rfl (hL.rdS 3 rfl h2)) <| OV (IV 0) rfl (zAe) <| OW.nil ?_
 obtain ⟨dG, bC, hm⟩ := zAs hm
 refine zAU (fun (s_l1 : (List Int) × Int) F w => ∃ aB aF, F 0 = v1 ∧ F 1 = (IV a1) ∧ F 5 = v6 ∧ F 6 = v8 ∧ F 7 = aB ∧ F 16 = v1 ∧ F 17 = (IV (a0.length : Int)) ∧ F 18 = (IV s_l1.2) ∧ Hp w0 [Ent.own 2 aF aB s_l1.1, Ent.own 2 S5 v6 x3.1, Ent.own 2 S7 v8 x3.2, zAg w0 w0.heap.size] w) (fun o => zBh o (fun x => some x) (fun s => zG2 s) = some r) bC hm ⟨bP, cR, rfl, rfl, rfl, rfl, rfl, rfl, rfl, rfl, hL⟩ ?_ ?_
 · intro s_l1 dH cS hJ hm
   have hm := zBD hm
   have hm : zG2 s_l1 = some r := hm
   unfold zG2 at hm
   obtain ⟨aB, aF, dI, dJ, dK, dL, bR, dM, dN, dO, hL⟩ := hJ
   refine CSR <| OV aB rfl (zAo bR) <| OV aB rfl (zAb) <| OW.nil <| zAx ?_
   obtain rfl := oi hm
   exact RR1 rfl rfl ⟨aB, aF, rfl, hL.fresh 3 rfl [0] (by decide) (by decide) rfl⟩
 intro s_l1 dP cT aZ hJ hm cU
 unfold zE6 at hm
 obtain ⟨aB, aF, aG, aH, aI, aJ, aR, aK, aL, aE, hL⟩ := hJ
 refine CSR <| OV (.bool (decide (s_l1.2 < (a0.length : Int)))) rfl (zBE aE aL) <| ONS ?_
 refine zAn (t := decide (s_l1.2 < (a0.length : Int))) rfl hm (fun bD hm => ?_) (fun bD hm => ?_)
 · refine zAt ?_
   refine zAM (fun (s_j1 : (List Int)) F w => ∃ aM aS, F 0 = v1 ∧ F 1 = (IV a1) ∧ F 5 = v6 ∧ F 6 = v8 ∧ F 7 = aM ∧ F 16 = v1 ∧ F 17 = (IV (a0.length : Int)) ∧ F 18 = (IV s_l1.2) ∧ Hp w0 [Ent.own 2 aS aM s_j1, Ent.own 2 S5 v6 x3.1, Ent.own 2 S7 v8 x3.2, zAg w0 w0.heap.size] w) (fun s_j1 => zG3 s_l1 s_j1 = some aZ) ?_ ?_
   · refine zBG (fun (s_j2 : (List Int)) F w => ∃ aN aT, F 0 = v1 ∧ F 1 = (IV a1) ∧ F 5 = v6 ∧ F 6 = v8 ∧ F 7 = aN ∧ F 16 = v1 ∧ F 17 = (IV (a0.length : Int)) ∧ F 18 = (IV s_l1.2) ∧ Hp w0 [Ent.own 2 aT aN s_j2, Ent.own 2 S5 v6 x3.1, Ent.own 2 S7 v8 x3.2, zAg w0 w0.heap.size] w) (fun s_j2 => zE5 s_l1 s_j2 = some aZ) ?_ ?_
     · refine CSR <| OV (IV s_l1.2) rfl (zAo aE) ?_
       obtain ⟨aA, bE, hm⟩ := zAs hm
       obtain ⟨bF, aW⟩ := zAZ bE
       obtain ⟨bS, bT, aO⟩ := zAC (hL.rdS 3 rfl h2) bF aW
       refine OV (.pointer (some ⟨bS, bT, none⟩)) rfl (zA1 U99 zAP aK aE aO) <| OV (.agg #[(IV aA.Boat), (IV aA.Code), (IV aA.Time)]) rfl (zAW (cs := [(IV aA.Boat), (IV aA.Code), (IV aA.Time)]) zFd zAP rfl rfl (zAv (hL.rdS 3 rfl h2) aO aW)) ?_
       refine zAa (zBb (cs := #[(IV 0), (IV 0), (IV 0)]) hL zAP rfl rfl ?_)
       intro cV aU hL
       refine OV (IV s_l1.2) rfl (zAb) ?_
       refine zAa (zA9 (l := [(IV aA.Boat), (IV aA.Code), (IV aA.Time)]) (cs' := #[(IV aA.Boat), (IV aA.Code), (IV aA.Time)]) hL 0 rfl zAP rfl rfl (fc ⟨rfl, (fc ⟨rfl, (fc ⟨rfl, fz⟩)⟩)⟩) rfl (nle rfl) rfl ?_)
       intro cW hL
       refine ONR <| OV (PV aU 1) rfl (zAc (fsz := 1) 0 1 1 zFd rfl zAf rfl rfl rfl) <| OV (IV aA.Code) rfl (zAd U2 rfl rfl (hL.cellB 0 rfl rfl)) <| OV (.bool (aA.Code == 0)) rfl (zBv rfl rfl) <| OW.nil ?_
       refine zAn (t := aA.Code == 0) rfl hm (fun bG hm => ?_) (fun bG hm => ?_)
       · refine zDG (fun w' => Hp w0 [Ent.blk aU 103 #[(IV aA.Boat), (IV aA.Code), (IV aA.Time)], Ent.own 2 S5 v6 x3.1, Ent.own 2 S7 v8 x3.2, zAg w0 w0.heap.size] w') zAQ ?_
         have hL := hL.call (zA8 _)
         have hS := (hL.sl [0, 2, 3, 4] rfl)
         refine zAw 0 rfl (by kernel_rfl) rfl rfl hS (zAp (v := aB) (fun w' hS' => zAo aR)) ?_
         have hS := (hL.sl [0, 2, 3, 4] rfl)
         refine zAw 1 rfl (by kernel_rfl) rfl rfl hS (zAp (v := v6) (fun w' hS' => zAo aI)) ?_
         have hS := (hL.sl [0, 2, 3, 4] rfl)
         refine zAw 2 rfl (by kernel_rfl) rfl rfl hS (zAp (v := (IV s_l1.2)) (fun w' hS' => zAe)) ?_
         have hS := (hL.sl [0, 2, 3, 4] rfl)
         obtain ⟨aC, bH, hm⟩ := zAs hm
         obtain ⟨bI, aX⟩ := zAZ bH
         obtain ⟨bU, bV, aP⟩ := zAC (hL.rdO 2 rfl) bI aX
         refine zAw 3 rfl (by kernel_rfl) rfl rfl hS (zAp (v := (.pointer (some ⟨bU, bV, none⟩))) (fun w' hS' => zA1 U27 zAf rfl rfl aP)) ?_
         have hS := (hL.sl [0, 2, 3, 4] rfl)
         refine zAw 4 rfl (by kernel_rfl) rfl rfl hS (zAp (v := (IV aC)) (fun w' hS' => zAd U2 rfl rfl (zAv (hS'.rdO 1 rfl) aP aX 0 _ rfl))) ?_
         have hS := (hL.sl [0, 2, 3, 4] rfl)
         refine zAw 5 rfl (by kernel_rfl) rfl rfl hS (zAp (v := (IV (w64 (2 * aC)))) (fun w' hS' => zHP rfl rfl)) ?_
         have hS := (hL.sl [0, 2, 3, 4] rfl)
         refine zAw 6 rfl (by kernel_rfl) rfl rfl hS (zAp (v := v8) (fun w' hS' => zAo aJ)) ?_
         have hS := (hL.sl [0, 2, 3, 4] rfl)
         refine zAw 7 rfl (by kernel_rfl) rfl rfl hS (zAp (v := (IV s_l1.2)) (fun w' hS' => zAe)) ?_
         have hS := (hL.sl [0, 2, 3, 4] rfl)
         obtain ⟨aD, bJ, hm⟩ := zAs hm
         obtain ⟨bK, aY⟩ := zAZ bJ
         obtain ⟨bW, bX, aQ⟩ := zAC (hL.rdO 3 rfl) bK aY
         refine zAw 8 rfl (by kernel_rfl) rfl rfl hS (zAp (v := (.pointer (some ⟨bW, bX, none⟩))) (fun w' hS' => zA1 U27 zAf rfl rfl aQ)) ?_
         have hS := (hL.sl [0, 2, 3, 4] rfl)
         refine zAw 9 rfl (by kernel_rfl) rfl rfl hS (zAp (v := (IV aD)) (fun w' hS' => zAd U2 rfl rfl (zAv (hS'.rdO 2 rfl) aQ aY 0 _ rfl))) ?_
         have hS := (hL.sl [0, 2, 3, 4] rfl)
         refine zAw 10 rfl (by kernel_rfl) rfl rfl hS (zAp (v := (IV (w64 ((w64 (2 * aC)) + aD)))) (fun w' hS' => zBe rfl rfl)) ?_
         have hS := (hL.sl [0, 2, 3, 4] rfl)
         refine zAw 11 rfl (by kernel_rfl) rfl rfl hS (zAp (v := (IV (w64 ((w64 ((w64 (2 * aC)) + aD)) - 1)))) (fun w' hS' => zCn rfl rfl)) ?_
         have hS := (hL.sl [0, 2, 3, 4] rfl)
         refine zAw 12 rfl (by kernel_rfl) rfl rfl hS (zAp (v := (IV (w64 (5 * (w64 ((w64 ((w64 (2 * aC)) + aD)) - 1)))))) (fun w' hS' => zHP rfl rfl)) ?_
         refine zAT 13 rfl (by kernel_rfl) (zBS ([w64 (5 * (w64 ((w64 ((w64 (2 * aC)) + aD)) - 1)))] : List Int) hL U27 zAf rfl (by decide) (by first | (simp [Instr.fill, madeCells, Value.cells, ev, upd, Flat.enc, Flat.sz]; done) | rfl | kernel_rfl) rfl rfl ?_)
         intro cX dQ dR hL
         refine ⟨(hL.sl [1, 3, 4, 5] rfl), ?_⟩
         obtain ⟨bL, hm⟩ := zEs hm
         refine zAT 14 rfl (by kernel_rfl) (zCA (ys := ([w64 (5 * (w64 ((w64 ((w64 (2 * aC)) + aD)) - 1)))] : List Int)) hL 2 rfl U27 zAf rfl rfl rfl (hL.rdO 0 rfl) bL (by decide) rfl ?_)
         intro cY bA bY hL
         refine ⟨(hL.sl [1, 3, 4, 5] rfl), ?_⟩
         have hS := (hL.sl [1, 3, 4, 5] rfl)
         refine zAw 15 rfl (by kernel_rfl) rfl rfl hS (zAp (v := bA) (fun w' hS' => zAb)) ?_
         refine zDB (by kernel_rfl) ?_
         have hL := hL.sl [2, 3, 4, 5] rfl
         exact ⟨s_l1.1 ++ ([w64 (5 * (w64 ((w64 ((w64 (2 * aC)) + aD)) - 1)))] : List Int), hm, ⟨bA, bY, aG, aH, aI, aJ, rfl, aK, aL, aE, hL⟩⟩
       refine zAl <| OV aB rfl (zAo aR) <| OV v1 rfl (zAo aG) <| OV (PV aU 1) rfl (zAc (fsz := 1) 0 1 1 zFd rfl zAf rfl rfl rfl) <| OV (IV aA.Code) rfl (zAd U2 rfl rfl (hL.cellB 0 rfl rfl)) <| OV (IV a1) rfl (zAo aH) ?_
       obtain ⟨aV, bM, hm⟩ := zAs hm
       refine zAa (OP.call rfl (zAq (vs := [v1, (IV aA.Code), (IV a1)]) zOJ ⟨rfl, rfl, rfl, trivial⟩) (zJB _ a0 (hL.rdS 4 rfl h2) aA.Code a1 bM) ?_)
       rintro dS cZ ⟨rfl, bN⟩
       refine ⟨_, rfl, ?_⟩
       have hL := hL.pushAll bN
       simp only [lA, lB, lC, lD] at hL
       refine zAa (zBS ([aV] : List Int) hL U27 zAf rfl (by decide) (by first | (simp [Instr.fill, madeCells, Value.cells, ev, upd, Flat.enc, Flat.sz]; done) | rfl | kernel_rfl) rfl rfl ?_)
       intro dA dT dU hL
       obtain ⟨bO, hm⟩ := zEs hm
       refine zAa (zCA (ys := ([aV] : List Int)) hL 2 rfl U27 zAf rfl rfl rfl (hL.rdO 0 rfl) bO (by decide) rfl ?_)
       intro dB bB bZ hL
       refine OV bB rfl (zAb) <| OW.nil ?_
       have hL := hL.sl [2, 3, 4, 5] rfl
       exact ⟨s_l1.1 ++ ([aV] : List Int), hm, ⟨bB, bZ, aG, aH, aI, aJ, rfl, aK, aL, aE, hL⟩⟩
     intro s_j2 dV dC hJ hm
     unfold zE5 at hm
     obtain ⟨aN, aT, cA, cB, cC, cD, cE, cF, cG, cH, hL⟩ := hJ
     exact ⟨s_j2, hm, ⟨aN, aT, cA, cB, cC, cD, cE, cF, cG, cH, hL⟩⟩
   intro s_j1 dW dD hJ hm
   unfold zG3 at hm
   obtain ⟨aM, aS, cI, cJ, cK, cM, cN, cO, cP, cQ, hL⟩ := hJ
   refine zAl <| OV (IV (w64 (s_l1.2 + 1))) rfl (zBe cQ rfl) <| OV (IV (w64 (s_l1.2 + 1))) rfl (zAe) <| OW.nil ?_
   obtain rfl := oi hm
   exact ⟨_, rfl, ⟨aM, aS, cI, cJ, cK, cM, cN, cO, cP, rfl, hL⟩⟩
 refine zA0 ?_
 refine zBk ?_
 obtain rfl := oi hm
 exact ⟨_, rfl, ⟨aB, aF, aG, aH, aI, aJ, aR, aK, aL, aE, hL⟩⟩

theorem zJ3 (w0 : World) (a0 : Series) {v1 : Value} (h2 : rdL (· < w0.heap.size) w0 v1 a0.Races) {r : Table} (hm : zDs a0 = some r) :
    Calls Tryz.prog 45 #[(.agg #[(IV a0.Boats), (IV a0.Scheme), v1])] w0 fun e w' => ∃ (rv0 : Value) (rS0 : Nat → Prop), ∃ (rv1 : Value) (rS1 : Nat → Prop), e = .returned (.agg #[(IV r.Boats), rv0, rv1]) ∧ Fresh w0 w' [Ent.own 27 rS0 rv0 r.Points, Ent.own 27 rS1 rv1 r.Codes] := by
 unfold zDs at hm
 refine zAD (args := [(.agg #[(IV a0.Boats), (IV a0.Scheme), v1])]) Tryz.func45 rfl rfl rfl ?_
 have hL := zAJ w0
 refine CSR ?_
 refine zAa (zC3 (cs := #[(IV a0.Boats), (IV a0.Scheme), v1]) hL rfl rfl rfl ?_)
 intro wd3 b4 hL
 refine zAa (zBb (cs := #[(IV 0), (.slice none 0 0), (.slice none 0 0)]) hL zBg rfl rfl ?_)
 intro wd5 b6 hL
 refine ONR <| OV (PV b4 0) rfl (zAc (fsz := 1) 0 0 0 U38 rfl zAf rfl rfl rfl) <| OV (IV a0.Boats) rfl (zAd U2 rfl rfl (hL.cellB 1 rfl rfl)) <| OV (.agg #[(IV a0.Boats), (.slice none 0 0), (.slice none 0 0)]) rfl (zCB zKY (ps := [(0, (IV a0.Boats))]) ⟨⟨rfl, rfl⟩, trivial⟩ (by simp [Instr.fill, zBJ, zBA, zBi, zBK, zBo, zBc])) ?_
 refine zAa (zBb (cs := #[(IV 0), (.slice none 0 0), (.slice none 0 0)]) hL zBg rfl rfl ?_)
 intro wd7 b8 hL
 refine zAa (zA9 (l := [(IV a0.Boats), (.slice none 0 0), (.slice none 0 0)]) (cs' := #[(IV a0.Boats), (.slice none 0 0), (.slice none 0 0)]) hL 0 rfl zBg rfl rfl (fc ⟨rfl, (fc ⟨rfl, (fc ⟨rfl, fz⟩)⟩)⟩) rfl (nle rfl) rfl ?_)
 intro wd9 hL
 refine ONS <| CSR <| OV (PV b4 2) rfl (zAc (fsz := 1) 0 2 2 U38 rfl zCq rfl rfl rfl) <| OV v1 rfl (zAd U36 rfl rfl (hL.cellB 2 rfl rfl)) <| OV (IV (a0.Races.length : Int)) rfl (zA3 U36 rfl (hL.rdS 3 rfl h2)) <| OV (IV 0) rfl (zAe) <| OW.nil ?_
 obtain ⟨aAy, pF, hm⟩ := zAs hm
 have hL := hL.pushNil (List Int) 27
 have hL := hL.pushNil (List Int) 27
 have hL := hL.sl [1, 0, 2, 3, 4, 5] rfl
 refine zAU (fun (s_l1 : (List (List Int)) × (List (List Int)) × Int) F w => ∃ aB aH aA aF, F 1 = (PV b4 0) ∧ F 2 = (PV b6 0) ∧ F 3 = (PV b8 0) ∧ F 13 = v1 ∧ F 14 = (IV (a0.Races.length : Int)) ∧ F 15 = (IV s_l1.2.2) ∧ Hp w0 [Ent.own 27 aH aB s_l1.1, Ent.own 27 aF aA s_l1.2.1, Ent.blk b8 26 #[(IV a0.Boats), aB, aA], Ent.blk b6 26 #[(IV 0), (.slice none 0 0), (.slice none 0 0)], Ent.blk b4 38 #[(IV a0.Boats), (IV a0.Scheme), v1], zAg w0 w0.heap.size] w) (fun o => zBh o (fun x => some x) (fun s => zIk a0 s) = some r) pF hm ⟨(.slice none 0 0), zBO, (.slice none 0 0), zBO, rfl, rfl, rfl, rfl, rfl, rfl, hL⟩ ?_ ?_
 · intro s_l1 aAz xY hJ hm
   have hm := zBD hm
   have hm : zIk a0 s_l1 = some r := hm
   unfold zIk at hm
   obtain ⟨aB, aH, aA, aF, aBa, lG, rR, aBb, aBc, aBd, hL⟩ := hJ
   refine CSR <| OV (.agg #[(IV a0.Boats), aB, aA]) rfl (zAW (cs := [(IV a0.Boats), aB, aA]) U26 zBg rfl rR (hL.cellsB 2 rfl (o := 0) (l := [(IV a0.Boats), aB, aA]) (by intro j u hj; exact (by simpa using hj)))) ?_
   refine zAa (zA9 (l := [(IV a0.Boats), aB, aA]) (cs' := #[(IV a0.Boats), aB, aA]) hL 3 rfl zBg lG rfl (fc ⟨rfl, (fc ⟨zBI (hL.rdO 0 rfl), (fc ⟨zBI (hL.rdO 1 rfl), fz⟩)⟩)⟩) rfl (nle rfl) rfl ?_)
   intro xZ hL
   refine OW.nil <| zAx ?_
   obtain rfl := oi hm
   exact RRc rfl lG (zCN U26 zBg (hL.get 3 rfl) rfl) ⟨aB, aH, aA, aF, rfl, hL.fresh 5 rfl [0, 1] (by decide) (by decide) rfl⟩
 intro s_l1 aBe yA lH hJ hm yB
 unfold zG7 at hm
 obtain ⟨aB, aH, aA, aF, lI, lJ, lK, gU, gV, cC, hL⟩ := hJ
 refine CSR <| OV (.bool (decide (s_l1.2.2 < (a0.Races.length : Int)))) rfl (zBE cC gV) <| ONS ?_
 refine zAn (t := decide (s_l1.2.2 < (a0.Races.length : Int))) rfl hm (fun pG hm => ?_) (fun pG hm => ?_)
 · refine zAt <| zAF <| CW.block <| CSR ?_
   obtain ⟨aL, pH, hm⟩ := zAs hm
   obtain ⟨pI, pJ⟩ := zAZ pH
   obtain ⟨rS, rT, aC, lL, pK, pL, aK⟩ := zCp h2 pI pJ
   refine OV (.pointer (some ⟨rS, rT, none⟩)) rfl (zA1 U36 zBd gU cC lL) <| OV (.agg #[aC]) rfl (zAW (cs := [aC]) zIJ zBd rfl rfl (by intro j u hj; match j, hj with | 0, hj => (simp at hj; subst hj; exact (hL.cellS 5 rfl pK pL)))) ?_
   refine zAa (zBb (cs := #[(.slice none 0 0)]) hL zBd rfl rfl ?_)
   intro yC aD hL
   refine zAa (zA9 (l := [aC]) (cs' := #[aC]) hL 0 rfl zBd rfl rfl (fc ⟨zBI (hL.rdS 6 rfl aK), fz⟩) rfl (nle rfl) rfl ?_)
   intro yD hL
   refine ONR ?_
   refine zAa (zBS ([] : List Int) hL U27 zAf rfl (by decide) (by first | (simp [Instr.fill, madeCells, Value.cells, ev, upd, Flat.enc, Flat.sz]; done) | rfl | kernel_rfl) rfl rfl ?_)
   intro yE lM rU hL
   refine OV lM rfl (zAb) <| ONS <| CSR <| OV (PV aD 0) rfl (zAc (fsz := 1) 0 0 0 zIJ rfl zCr rfl rfl rfl) <| OV aC rfl (zAd U99 rfl rfl (hL.cellB 1 rfl rfl)) <| OV (IV (aL.Finishes.length : Int)) rfl (zA3 U99 rfl (hL.rdS 7 rfl aK)) <| OV (IV 0) rfl (zAe) <| OW.nil ?_
   obtain ⟨aBf, pM, hm⟩ := zAs hm
   refine zAU (fun (s_l2 : (List Int) × Int) F w => ∃ aE aJ, F 1 = (PV b4 0) ∧ F 2 = (PV b6 0) ∧ F 3 = (PV b8 0) ∧ F 5 = (PV aD 0) ∧ F 6 = aE ∧ F 13 = v1 ∧ F 14 = (IV (a0.Races.length : Int)) ∧ F 15 = (IV s_l1.2.2) ∧ F 21 = aC ∧ F 22 = (IV (aL.Finishes.length : Int)) ∧ F 23 = (IV s_l2.2) ∧ Hp w0 [Ent.own 2 aJ aE s_l2.1, Ent.blk aD 101 #[aC], Ent.own 27 aH aB s_l1.1, Ent.own 27 aF aA s_l1.2.1, Ent.blk b8 26 #[(IV a0.Boats), aB, aA], Ent.blk b6 26 #[(IV 0), (.slice none 0 0), (.slice none 0 0)], Ent.blk b4 38 #[(IV a0.Boats), (IV a0.Scheme), v1], zAg w0 w0.heap.size] w) (fun o => zBh o (fun x => some (.ret x)) (fun s => zG5 a0 s_l1 aL s) = some lH) pM hm ⟨lM, rU, lI, lJ, lK, rfl, rfl, gU, gV, cC, rfl, rfl, rfl, hL⟩ ?_ ?_
   · intro s_l2 aBg yF hJ hm
     have hm := zBD hm
     have hm : zG5 a0 s_l1 aL s_l2 = some lH := hm
     unfold zG5 at hm
     obtain ⟨aE, aJ, bG, cD, aN, rV, rW, cE, cF, cG, aBh, aBi, aBj, hL⟩ := hJ
     refine zDG (fun w' => Hp w0 [Ent.blk aD 101 #[aC], Ent.blk b6 26 #[(IV 0), (.slice none 0 0), (.slice none 0 0)], Ent.blk b4 38 #[(IV a0.Boats), (IV a0.Scheme), v1], zAg w0 w0.heap.size] w') zAQ ?_
     have hL := hL.call (zA8 _)
     have hS := (hL.sl [1, 5, 6, 7] rfl)
     refine zAw 0 rfl (by kernel_rfl) rfl rfl hS (zAp (v := (PV b8 1)) (fun w' hS' => zAc (fsz := 1) 0 1 1 U26 rfl zBq rfl aN rfl)) ?_
     have hS := (hL.sl [1, 5, 6, 7] rfl)
     refine zAw 2 rfl (by kernel_rfl) rfl rfl hS (zAp (v := (PV aD 0)) (fun w' hS' => zAc (fsz := 1) 0 0 0 zIJ rfl zCr rfl rV rfl)) ?_
     have hS := (hL.sl [1, 5, 6, 7] rfl)
     refine zAw 3 rfl (by kernel_rfl) rfl rfl hS (zAp (v := aC) (fun w' hS' => zAd U99 rfl rfl (hS'.cellB 0 rfl rfl))) ?_
     have hS := (hL.sl [1, 5, 6, 7] rfl)
     refine zAw 4 rfl (by kernel_rfl) rfl rfl hS (zAp (v := (PV b4 1)) (fun w' hS' => zAc (fsz := 1) 0 1 1 U38 rfl zAf rfl bG rfl)) ?_
     have hS := (hL.sl [1, 5, 6, 7] rfl)
     refine zAw 5 rfl (by kernel_rfl) rfl rfl hS (zAp (v := (IV a0.Scheme)) (fun w' hS' => zAd U2 rfl rfl (hS'.cellB 2 rfl rfl))) ?_
     have hS := (hL.sl [1, 5, 6, 7] rfl)
     refine zAw 9 rfl (by kernel_rfl) rfl rfl hS (zAp (v := (PV b8 2)) (fun w' hS' => zAc (fsz := 1) 0 2 2 U26 rfl zBq rfl aN rfl)) ?_
     have hS := (hL.sl [1, 5, 6, 7] rfl)
     refine zAw 11 rfl (by kernel_rfl) rfl rfl hS (zAp (v := aE) (fun w' hS' => zAo rW)) ?_
     obtain ⟨aG, aM, hm⟩ := zAs hm
     obtain ⟨aS, hm⟩ := zEs hm
     obtain ⟨pN, hm⟩ := zEs hm
     refine zAI (listed' := (bma 18 262143)) (fuel' := 0) (fun F w => ∃ cH gW cI gX, F 1 = (PV b4 0) ∧ F 2 = (PV b6 0) ∧ F 3 = (PV b8 0) ∧ F 13 = v1 ∧ F 14 = (IV (a0.Races.length : Int)) ∧ F 15 = (IV s_l1.2.2) ∧ Hp w0 [Ent.own 27 gW cH (s_l1.2.1 ++ ([s_l2.1] : List (List Int))), Ent.own 27 gX cI (s_l1.1 ++ ([aG] : List (List Int))), Ent.blk aD 101 #[aC], Ent.blk b8 26 #[(IV a0.Boats), cI, cH], Ent.blk b6 26 #[(IV 0), (.slice none 0 0), (.slice none 0 0)], Ent.blk b4 38 #[(IV a0.Boats), (IV a0.Scheme), v1], zAg w0 w0.heap.size] w) ?_ (fun pO => ?_)
     · intro aBk yG hJ
       obtain ⟨cH, gW, cI, gX, rX, rY, rZ, sA, sB, sC, hL⟩ := hJ
       refine zDB (by kernel_rfl) ?_
       refine zAl <| OV (IV (w64 (s_l1.2.2 + 1))) rfl (zBe sC rfl) <| OV (IV (w64 (s_l1.2.2 + 1))) rfl (zAe) <| OW.nil ?_
       have hL := hL.sl [1, 0, 3, 4, 5, 6] rfl
       obtain rfl := oi hm
       exact ⟨_, rfl, ⟨cI, gX, cH, gW, rX, rY, rZ, sA, sB, rfl, hL⟩⟩
     refine zAI (listed' := (bma 18 131071)) (fuel' := 1) (fun F w => ∃ bH gY bI gZ, F 1 = (PV b4 0) ∧ F 2 = (PV b6 0) ∧ F 3 = (PV b8 0) ∧ F 13 = v1 ∧ F 14 = (IV (a0.Races.length : Int)) ∧ F 15 = (IV s_l1.2.2) ∧ F 46 = bH ∧ F 48 = (PV b8 2) ∧ Hp w0 [Ent.own 27 gY bH (s_l1.2.1 ++ ([s_l2.1] : List (List Int))), Ent.own 27 gZ bI (s_l1.1 ++ ([aG] : List (List Int))), Ent.blk aD 101 #[aC], Ent.blk b8 26 #[(IV a0.Boats), bI, aA], Ent.blk b6 26 #[(IV 0), (.slice none 0 0), (.slice none 0 0)], Ent.blk b4 38 #[(IV a0.Boats), (IV a0.Scheme), v1], zAg w0 w0.heap.size] w) ?_ (fun pR => ?_)
     · intro aBl yH hJ
       obtain ⟨bH, gY, bI, gZ, sD, sE, sF, sG, sH, sI, sJ, sK, hL⟩ := hJ
       refine zAT 17 rfl (by kernel_rfl) (zEt (cs' := #[(IV a0.Boats), bI, bH]) hL 3 rfl zBq sK (zBI (hL.rdO 0 rfl)) sJ rfl rfl ?_)
       intro yI hL
       refine ⟨(hL.sl [2, 4, 5, 6] rfl), ?_⟩
       exact zAm (listed' := (bma 18 262143)) (by kernel_rfl) (pO _ _ ⟨bH, gY, bI, gZ, sD, sE, sF, sG, sH, sI, hL⟩)
     refine zAI (listed' := (bma 18 32767)) (fuel' := 3) (fun F w => ∃ cJ hA bJ hB, F 1 = (PV b4 0) ∧ F 2 = (PV b6 0) ∧ F 3 = (PV b8 0) ∧ F 13 = v1 ∧ F 14 = (IV (a0.Races.length : Int)) ∧ F 15 = (IV s_l1.2.2) ∧ F 41 = bJ ∧ F 46 = cJ ∧ F 47 = (PV b8 1) ∧ Hp w0 [Ent.own 27 hA cJ (s_l1.2.1 ++ ([s_l2.1] : List (List Int))), Ent.own 27 hB bJ (s_l1.1 ++ ([aG] : List (List Int))), Ent.blk aD 101 #[aC], Ent.blk b8 26 #[(IV a0.Boats), aB, aA], Ent.blk b6 26 #[(IV 0), (.slice none 0 0), (.slice none 0 0)], Ent.blk b4 38 #[(IV a0.Boats), (IV a0.Scheme), v1], zAg w0 w0.heap.size] w) ?_ (fun pS => ?_)
     · intro aBm yJ hJ
       obtain ⟨cJ, hA, bJ, hB, sL, sM, lN, sN, sO, sP, sQ, sR, sS, hL⟩ := hJ
       refine zAT 15 rfl (by kernel_rfl) (zEt (cs' := #[(IV a0.Boats), bJ, aA]) hL 3 rfl zBq sS (zBI (hL.rdO 1 rfl)) sQ rfl rfl ?_)
       intro yK hL
       refine ⟨(hL.sl [2, 4, 5, 6] rfl), ?_⟩
       have hS := (hL.sl [2, 4, 5, 6] rfl)
       refine zAw 16 rfl (by kernel_rfl) rfl rfl hS (zAp (v := (PV b8 2)) (fun w' hS' => zAc (fsz := 1) 0 2 2 U26 rfl zBq rfl lN rfl)) ?_
       exact zAm (listed' := (bma 18 131071)) (by kernel_rfl) (pR _ _ ⟨cJ, hA, bJ, hB, sL, sM, lN, sN, sO, sP, sR, rfl, hL⟩)
     refine zAI (listed' := (bma 18 24575)) (fuel' := 4) (fun F w => ∃ hC lO cK hD, F 1 = (PV b4 0) ∧ F 2 = (PV b6 0) ∧ F 3 = (PV b8 0) ∧ F 13 = v1 ∧ F 14 = (IV (a0.Races.length : Int)) ∧ F 15 = (IV s_l1.2.2) ∧ F 41 = cK ∧ F 43 = aA ∧ F 45 = hC ∧ F 47 = (PV b8 1) ∧ Hp w0 [Ent.own 27 lO hC ([s_l2.1] : List (List Int)), Ent.own 27 hD cK (s_l1.1 ++ ([aG] : List (List Int))), Ent.blk aD 101 #[aC], Ent.own 27 aF aA s_l1.2.1, Ent.blk b8 26 #[(IV a0.Boats), aB, aA], Ent.blk b6 26 #[(IV 0), (.slice none 0 0), (.slice none 0 0)], Ent.blk b4 38 #[(IV a0.Boats), (IV a0.Scheme), v1], zAg w0 w0.heap.size] w) ?_ (fun cM => ?_)
     · intro aBn yL hJ
       obtain ⟨hC, lO, cK, hD, sT, sU, sV, sW, sX, sY, sZ, tA, tB, tC, hL⟩ := hJ
       have hL := hL.sl [3, 0, 1, 2, 4, 5, 6, 7] rfl
       refine zAT 13 rfl (by kernel_rfl) (zEF Int hL U24 zAR rfl tA tB pN (by decide) rfl ?_)
       intro yM tD tE hL
       refine ⟨(hL.sl [2, 4, 5, 6] rfl), ?_⟩
       exact zAm (listed' := (bma 18 32767)) (by kernel_rfl) (pS _ _ ⟨tD, tE, cK, hD, sT, sU, sV, sW, sX, sY, sZ, rfl, tC, hL⟩)
     refine zAI (listed' := (bma 18 20479)) (fuel' := 5) (fun F w => ∃ cN hE, F 1 = (PV b4 0) ∧ F 2 = (PV b6 0) ∧ F 3 = (PV b8 0) ∧ F 13 = v1 ∧ F 14 = (IV (a0.Races.length : Int)) ∧ F 15 = (IV s_l1.2.2) ∧ F 41 = cN ∧ F 43 = aA ∧ F 44 = aE ∧ F 47 = (PV b8 1) ∧ Hp w0 [Ent.own 27 hE cN (s_l1.1 ++ ([aG] : List (List Int))), Ent.own 2 aJ aE s_l2.1, Ent.blk aD 101 #[aC], Ent.own 27 aF aA s_l1.2.1, Ent.blk b8 26 #[(IV a0.Boats), aB, aA], Ent.blk b6 26 #[(IV 0), (.slice none 0 0), (.slice none 0 0)], Ent.blk b4 38 #[(IV a0.Boats), (IV a0.Scheme), v1], zAg w0 w0.heap.size] w) ?_ (fun iS => ?_)
     · intro aBo yN hJ
       obtain ⟨cN, hE, tF, tG, tH, tI, tJ, tK, tL, tM, tN, tO, hL⟩ := hJ
       have hL := hL.sl [1, 0, 2, 3, 4, 5, 6, 7] rfl
       refine zAT 12 rfl (by kernel_rfl) (zBP s_l2.1 rfl hL U24 zAR ((congrArg Value.cells tN).trans (zAY (hL.rdO 0 rfl))) rfl ?_)
       intro yO tP tQ hL
       refine ⟨(hL.sl [2, 5, 6, 7] rfl), ?_⟩
       exact zAm (listed' := (bma 18 24575)) (by kernel_rfl) (cM _ _ ⟨tP, tQ, cN, hE, tF, tG, tH, tI, tJ, tK, tL, tM, rfl, tO, hL⟩)
     refine zAI (listed' := (bma 18 7167)) (fuel' := 6) (fun F w => ∃ cO hF cP hG, F 1 = (PV b4 0) ∧ F 2 = (PV b6 0) ∧ F 3 = (PV b8 0) ∧ F 13 = v1 ∧ F 14 = (IV (a0.Races.length : Int)) ∧ F 15 = (IV s_l1.2.2) ∧ F 41 = cP ∧ F 42 = (PV b8 2) ∧ F 45 = cO ∧ Hp w0 [Ent.own 27 hF cO ([s_l2.1] : List (List Int)), Ent.own 27 hG cP (s_l1.1 ++ ([aG] : List (List Int))), Ent.blk aD 101 #[aC], Ent.own 27 aF aA s_l1.2.1, Ent.blk b8 26 #[(IV a0.Boats), aB, aA], Ent.blk b6 26 #[(IV 0), (.slice none 0 0), (.slice none 0 0)], Ent.blk b4 38 #[(IV a0.Boats), (IV a0.Scheme), v1], zAg w0 w0.heap.size] w) ?_ (fun iT => ?_)
     · intro aBp yP hJ
       obtain ⟨cO, hF, cP, hG, tR, tS, lP, tT, tU, tV, tW, tX, tY, hL⟩ := hJ
       refine zAT 10 rfl (by kernel_rfl) (zAk (v := aA) rfl (zAd U24 rfl tX (hL.cellB 4 rfl rfl)) ?_)
       refine ⟨(hL.sl [2, 5, 6, 7] rfl), ?_⟩
       have hS := (hL.sl [2, 5, 6, 7] rfl)
       refine zAw 14 rfl (by kernel_rfl) rfl rfl hS (zAp (v := (PV b8 1)) (fun w' hS' => zAc (fsz := 1) 0 1 1 U26 rfl zBq rfl lP rfl)) ?_
       exact zAm (listed' := (bma 18 24575)) (by kernel_rfl) (cM _ _ ⟨cO, hF, cP, hG, tR, tS, lP, tT, tU, tV, tW, rfl, tY, rfl, hL⟩)
     refine zAI (listed' := (bma 18 7935)) (fuel' := 6) (fun F w => ∃ cQ hH hI lQ, F 1 = (PV b4 0) ∧ F 2 = (PV b6 0) ∧ F 3 = (PV b8 0) ∧ F 13 = v1 ∧ F 14 = (IV (a0.Races.length : Int)) ∧ F 15 = (IV s_l1.2.2) ∧ F 34 = aB ∧ F 40 = hI ∧ F 43 = aA ∧ F 45 = cQ ∧ Hp w0 [Ent.own 27 hH cQ ([s_l2.1] : List (List Int)), Ent.own 27 lQ hI ([aG] : List (List Int)), Ent.blk aD 101 #[aC], Ent.own 27 aH aB s_l1.1, Ent.own 27 aF aA s_l1.2.1, Ent.blk b8 26 #[(IV a0.Boats), aB, aA], Ent.blk b6 26 #[(IV 0), (.slice none 0 0), (.slice none 0 0)], Ent.blk b4 38 #[(IV a0.Boats), (IV a0.Scheme), v1], zAg w0 w0.heap.size] w) ?_ (fun aT => ?_)
     · intro aBq yQ hJ
       obtain ⟨cQ, hH, hI, lQ, tZ, uA, lR, uB, uC, uD, uE, uF, uG, uH, hL⟩ := hJ
       have hL := hL.sl [3, 1, 0, 2, 4, 5, 6, 7, 8] rfl
       refine zAT 8 rfl (by kernel_rfl) (zEF Int hL U24 zAR rfl uE uF aS (by decide) rfl ?_)
       intro yR uI uJ hL
       refine ⟨(hL.sl [2, 5, 6, 7] rfl), ?_⟩
       have hS := (hL.sl [2, 5, 6, 7] rfl)
       refine zAw 14 rfl (by kernel_rfl) rfl rfl hS (zAp (v := (PV b8 1)) (fun w' hS' => zAc (fsz := 1) 0 1 1 U26 rfl zBq rfl lR rfl)) ?_
       have hL := hL.sl [1, 0, 2, 3, 4, 5, 6, 7] rfl
       exact zAm (listed' := (bma 18 24575)) (by kernel_rfl) (cM _ _ ⟨cQ, hH, uI, uJ, tZ, uA, lR, uB, uC, uD, rfl, uG, uH, rfl, hL⟩)
     refine zAI (listed' := (bma 18 3071)) (fuel' := 7) (fun F w => ∃ bK cR, F 1 = (PV b4 0) ∧ F 2 = (PV b6 0) ∧ F 3 = (PV b8 0) ∧ F 13 = v1 ∧ F 14 = (IV (a0.Races.length : Int)) ∧ F 15 = (IV s_l1.2.2) ∧ F 41 = bK ∧ F 42 = (PV b8 2) ∧ F 44 = aE ∧ Hp w0 [Ent.own 27 cR bK (s_l1.1 ++ ([aG] : List (List Int))), Ent.own 2 aJ aE s_l2.1, Ent.blk aD 101 #[aC], Ent.own 27 aF aA s_l1.2.1, Ent.blk b8 26 #[(IV a0.Boats), aB, aA], Ent.blk b6 26 #[(IV 0), (.slice none 0 0), (.slice none 0 0)], Ent.blk b4 38 #[(IV a0.Boats), (IV a0.Scheme), v1], zAg w0 w0.heap.size] w) ?_ (fun pU => ?_)
     · intro aBr yS hJ
       obtain ⟨bK, cR, lS, lT, hK, lU, lV, lW, lX, lY, lZ, hL⟩ := hJ
       refine DH.all (rs := [10, 12]) (by kernel_rfl) (by simp) ?_
       intro aBs iU
       simp only [List.mem_cons, List.not_mem_nil, or_false] at iU
       rcases iU with rfl | rfl
       · refine ⟨_, rfl, ?_⟩
         refine zAk (v := aA) rfl (zAd U24 rfl lY (hL.cellB 4 rfl rfl)) ?_
         refine ⟨(hL.sl [2, 5, 6, 7] rfl), ?_⟩
         have hS := (hL.sl [2, 5, 6, 7] rfl)
         refine zAw 14 rfl (by kernel_rfl) rfl rfl hS (zAp (v := (PV b8 1)) (fun w' hS' => zAc (fsz := 1) 0 1 1 U26 rfl zBq rfl hK rfl)) ?_
         exact zAm (listed' := (bma 18 20479)) (by kernel_rfl) (iS _ _ ⟨bK, cR, lS, lT, hK, lU, lV, lW, lX, rfl, lZ, rfl, hL⟩)
       refine ⟨_, rfl, ?_⟩
       have hL := hL.sl [1, 0, 2, 3, 4, 5, 6, 7] rfl
       refine zBP s_l2.1 rfl hL U24 zAR ((congrArg Value.cells lZ).trans (zAY (hL.rdO 0 rfl))) rfl ?_
       intro yT uK uL hL
       refine ⟨(hL.sl [2, 5, 6, 7] rfl), ?_⟩
       exact zAm (listed' := (bma 18 7167)) (by kernel_rfl) (iT _ _ ⟨uK, uL, bK, cR, lS, lT, hK, lU, lV, lW, lX, lY, rfl, hL⟩)
     refine zAI (listed' := (bma 18 3839)) (fuel' := 7) (fun F w => ∃ cS hM, F 1 = (PV b4 0) ∧ F 2 = (PV b6 0) ∧ F 3 = (PV b8 0) ∧ F 13 = v1 ∧ F 14 = (IV (a0.Races.length : Int)) ∧ F 15 = (IV s_l1.2.2) ∧ F 34 = aB ∧ F 40 = cS ∧ F 43 = aA ∧ F 44 = aE ∧ Hp w0 [Ent.own 27 hM cS ([aG] : List (List Int)), Ent.own 2 aJ aE s_l2.1, Ent.blk aD 101 #[aC], Ent.own 27 aH aB s_l1.1, Ent.own 27 aF aA s_l1.2.1, Ent.blk b8 26 #[(IV a0.Boats), aB, aA], Ent.blk b6 26 #[(IV 0), (.slice none 0 0), (.slice none 0 0)], Ent.blk b4 38 #[(IV a0.Boats), (IV a0.Scheme), v1], zAg w0 w0.heap.size] w) ?_ (fun cT => ?_)
     · intro aBt yU hJ
       obtain ⟨cS, hM, mA, mB, hN, mC, mD, mE, mF, mG, mH, mI, hL⟩ := hJ
       refine DH.all (rs := [8, 12]) (by kernel_rfl) (by simp) ?_
       intro aBu iV
       simp only [List.mem_cons, List.not_mem_nil, or_false] at iV
       rcases iV with rfl | rfl
       · refine ⟨_, rfl, ?_⟩
         have hL := hL.sl [3, 0, 1, 2, 4, 5, 6, 7, 8] rfl
         refine zEF Int hL U24 zAR rfl mF mG aS (by decide) rfl ?_
         intro yV uM uN hL
         refine ⟨(hL.sl [2, 5, 6, 7] rfl), ?_⟩
         have hS := (hL.sl [2, 5, 6, 7] rfl)
         refine zAw 14 rfl (by kernel_rfl) rfl rfl hS (zAp (v := (PV b8 1)) (fun w' hS' => zAc (fsz := 1) 0 1 1 U26 rfl zBq rfl hN rfl)) ?_
         exact zAm (listed' := (bma 18 20479)) (by kernel_rfl) (iS _ _ ⟨uM, uN, mA, mB, hN, mC, mD, mE, rfl, mH, mI, rfl, hL⟩)
       refine ⟨_, rfl, ?_⟩
       have hL := hL.sl [1, 0, 2, 3, 4, 5, 6, 7, 8] rfl
       refine zBP s_l2.1 rfl hL U24 zAR ((congrArg Value.cells mI).trans (zAY (hL.rdO 0 rfl))) rfl ?_
       intro yW uO uP hL
       refine ⟨(hL.sl [2, 6, 7, 8] rfl), ?_⟩
       exact zAm (listed' := (bma 18 7935)) (by kernel_rfl) (aT _ _ ⟨uO, uP, cS, hM, mA, mB, hN, mC, mD, mE, mF, mG, mH, rfl, hL⟩)
     refine zAI (listed' := (bma 18 6911)) (fuel' := 7) (fun F w => ∃ bL cU cV hO, F 1 = (PV b4 0) ∧ F 2 = (PV b6 0) ∧ F 3 = (PV b8 0) ∧ F 13 = v1 ∧ F 14 = (IV (a0.Races.length : Int)) ∧ F 15 = (IV s_l1.2.2) ∧ F 34 = aB ∧ F 40 = cV ∧ F 42 = (PV b8 2) ∧ F 45 = bL ∧ Hp w0 [Ent.own 27 cU bL ([s_l2.1] : List (List Int)), Ent.own 27 hO cV ([aG] : List (List Int)), Ent.blk aD 101 #[aC], Ent.own 27 aH aB s_l1.1, Ent.own 27 aF aA s_l1.2.1, Ent.blk b8 26 #[(IV a0.Boats), aB, aA], Ent.blk b6 26 #[(IV 0), (.slice none 0 0), (.slice none 0 0)], Ent.blk b4 38 #[(IV a0.Boats), (IV a0.Scheme), v1], zAg w0 w0.heap.size] w) ?_ (fun cW => ?_)
     · intro aBv yX hJ
       obtain ⟨bL, cU, cV, hO, mJ, mK, mL, mM, mN, mO, mP, mQ, mR, mS, hL⟩ := hJ
       refine DH.all (rs := [8, 10]) (by kernel_rfl) (by simp) ?_
       intro aBw iW
       simp only [List.mem_cons, List.not_mem_nil, or_false] at iW
       rcases iW with rfl | rfl
       · refine ⟨_, rfl, ?_⟩
         have hL := hL.sl [3, 1, 0, 2, 4, 5, 6, 7, 8] rfl
         refine zEF Int hL U24 zAR rfl mP mQ aS (by decide) rfl ?_
         intro yY uQ uR hL
         refine ⟨(hL.sl [2, 5, 6, 7] rfl), ?_⟩
         have hL := hL.sl [1, 0, 2, 3, 4, 5, 6, 7] rfl
         exact zAm (listed' := (bma 18 7167)) (by kernel_rfl) (iT _ _ ⟨bL, cU, uQ, uR, mJ, mK, mL, mM, mN, mO, rfl, mR, mS, hL⟩)
       refine ⟨_, rfl, ?_⟩
       refine zAk (v := aA) rfl (zAd U24 rfl mR (hL.cellB 5 rfl rfl)) ?_
       refine ⟨(hL.sl [2, 6, 7, 8] rfl), ?_⟩
       exact zAm (listed' := (bma 18 7935)) (by kernel_rfl) (aT _ _ ⟨bL, cU, cV, hO, mJ, mK, mL, mM, mN, mO, mP, mQ, rfl, mS, hL⟩)
     refine zAI (listed' := (bma 18 7807)) (fuel' := 7) (fun F w => ∃ cX hP hQ mT, F 1 = (PV b4 0) ∧ F 2 = (PV b6 0) ∧ F 3 = (PV b8 0) ∧ F 13 = v1 ∧ F 14 = (IV (a0.Races.length : Int)) ∧ F 15 = (IV s_l1.2.2) ∧ F 34 = aB ∧ F 39 = hQ ∧ F 43 = aA ∧ F 45 = cX ∧ Hp w0 [Ent.own 27 hP cX ([s_l2.1] : List (List Int)), Ent.own 2 mT hQ aG, Ent.blk aD 101 #[aC], Ent.own 27 aH aB s_l1.1, Ent.own 27 aF aA s_l1.2.1, Ent.blk b8 26 #[(IV a0.Boats), aB, aA], Ent.blk b6 26 #[(IV 0), (.slice none 0 0), (.slice none 0 0)], Ent.blk b4 38 #[(IV a0.Boats), (IV a0.Scheme), v1], zAg w0 w0.heap.size] w) ?_ (fun aU => ?_)
     · intro aBx yZ hJ
       obtain ⟨cX, hP, hQ, mT, uS, uT, uU, uV, uW, uX, uY, uZ, vA, vB, hL⟩ := hJ
       have hL := hL.sl [1, 0, 2, 3, 4, 5, 6, 7, 8] rfl
       refine zAT 7 rfl (by kernel_rfl) (zBP aG rfl hL U24 zAR ((congrArg Value.cells uZ).trans (zAY (hL.rdO 0 rfl))) rfl ?_)
       intro zA vC vD hL
       refine ⟨(hL.sl [2, 6, 7, 8] rfl), ?_⟩
       have hL := hL.sl [1, 0, 2, 3, 4, 5, 6, 7, 8] rfl
       exact zAm (listed' := (bma 18 7935)) (by kernel_rfl) (aT _ _ ⟨cX, hP, vC, vD, uS, uT, uU, uV, uW, uX, uY, rfl, vA, vB, hL⟩)
     refine zAI (listed' := (bma 18 7933)) (fuel' := 7) (fun F w => ∃ cY hR cZ hT, F 1 = (PV b4 0) ∧ F 2 = (PV b6 0) ∧ F 3 = (PV b8 0) ∧ F 13 = v1 ∧ F 14 = (IV (a0.Races.length : Int)) ∧ F 15 = (IV s_l1.2.2) ∧ F 33 = (PV b8 1) ∧ F 40 = cZ ∧ F 43 = aA ∧ F 45 = cY ∧ Hp w0 [Ent.own 27 hR cY ([s_l2.1] : List (List Int)), Ent.own 27 hT cZ ([aG] : List (List Int)), Ent.blk aD 101 #[aC], Ent.own 27 aH aB s_l1.1, Ent.own 27 aF aA s_l1.2.1, Ent.blk b8 26 #[(IV a0.Boats), aB, aA], Ent.blk b6 26 #[(IV 0), (.slice none 0 0), (.slice none 0 0)], Ent.blk b4 38 #[(IV a0.Boats), (IV a0.Scheme), v1], zAg w0 w0.heap.size] w) ?_ (fun dA => ?_)
     · intro aBy zB hJ
       obtain ⟨cY, hR, cZ, hT, vE, vF, vG, vH, vI, vJ, vK, vL, vM, vN, hL⟩ := hJ
       refine zAT 1 rfl (by kernel_rfl) (zAk (v := aB) rfl (zAd U24 rfl vK (hL.cellB 5 rfl rfl)) ?_)
       refine ⟨(hL.sl [2, 6, 7, 8] rfl), ?_⟩
       exact zAm (listed' := (bma 18 7935)) (by kernel_rfl) (aT _ _ ⟨cY, hR, cZ, hT, vE, vF, vG, vH, vI, vJ, rfl, vL, vM, vN, hL⟩)
     refine zAI (listed' := (bma 18 2815)) (fuel' := 8) (fun F w => ∃ bM dB, F 1 = (PV b4 0) ∧ F 2 = (PV b6 0) ∧ F 3 = (PV b8 0) ∧ F 13 = v1 ∧ F 14 = (IV (a0.Races.length : Int)) ∧ F 15 = (IV s_l1.2.2) ∧ F 34 = aB ∧ F 40 = bM ∧ F 42 = (PV b8 2) ∧ F 44 = aE ∧ Hp w0 [Ent.own 27 dB bM ([aG] : List (List Int)), Ent.own 2 aJ aE s_l2.1, Ent.blk aD 101 #[aC], Ent.own 27 aH aB s_l1.1, Ent.own 27 aF aA s_l1.2.1, Ent.blk b8 26 #[(IV a0.Boats), aB, aA], Ent.blk b6 26 #[(IV 0), (.slice none 0 0), (.slice none 0 0)], Ent.blk b4 38 #[(IV a0.Boats), (IV a0.Scheme), v1], zAg w0 w0.heap.size] w) ?_ (fun iX => ?_)
     · intro aBz zC hJ
       obtain ⟨bM, dB, hU, hV, hW, hX, hY, hZ, iA, iB, iC, iD, hL⟩ := hJ
       refine DH.all (rs := [8, 10, 12]) (by kernel_rfl) (by simp) ?_
       intro aCa iY
       simp only [List.mem_cons, List.not_mem_nil, or_false] at iY
       rcases iY with rfl | rfl | rfl
       · refine ⟨_, rfl, ?_⟩
         have hL := hL.sl [3, 0, 1, 2, 4, 5, 6, 7, 8] rfl
         refine zEF Int hL U24 zAR rfl iA iB aS (by decide) rfl ?_
         intro zD vO vP hL
         refine ⟨(hL.sl [2, 5, 6, 7] rfl), ?_⟩
         exact zAm (listed' := (bma 18 3071)) (by kernel_rfl) (pU _ _ ⟨vO, vP, hU, hV, hW, hX, hY, hZ, rfl, iC, iD, hL⟩)
       · refine ⟨_, rfl, ?_⟩
         refine zAk (v := aA) rfl (zAd U24 rfl iC (hL.cellB 5 rfl rfl)) ?_
         refine ⟨(hL.sl [2, 6, 7, 8] rfl), ?_⟩
         exact zAm (listed' := (bma 18 3839)) (by kernel_rfl) (cT _ _ ⟨bM, dB, hU, hV, hW, hX, hY, hZ, iA, iB, rfl, iD, hL⟩)
       refine ⟨_, rfl, ?_⟩
       have hL := hL.sl [1, 0, 2, 3, 4, 5, 6, 7, 8] rfl
       refine zBP s_l2.1 rfl hL U24 zAR ((congrArg Value.cells iD).trans (zAY (hL.rdO 0 rfl))) rfl ?_
       intro zE vQ vR hL
       refine ⟨(hL.sl [2, 6, 7, 8] rfl), ?_⟩
       exact zAm (listed' := (bma 18 6911)) (by kernel_rfl) (cW _ _ ⟨vQ, vR, bM, dB, hU, hV, hW, hX, hY, hZ, iA, iB, iC, rfl, hL⟩)
     refine zAI (listed' := (bma 18 3711)) (fuel' := 8) (fun F w => ∃ dC iE, F 1 = (PV b4 0) ∧ F 2 = (PV b6 0) ∧ F 3 = (PV b8 0) ∧ F 13 = v1 ∧ F 14 = (IV (a0.Races.length : Int)) ∧ F 15 = (IV s_l1.2.2) ∧ F 34 = aB ∧ F 39 = dC ∧ F 43 = aA ∧ F 44 = aE ∧ Hp w0 [Ent.own 2 iE dC aG, Ent.own 2 aJ aE s_l2.1, Ent.blk aD 101 #[aC], Ent.own 27 aH aB s_l1.1, Ent.own 27 aF aA s_l1.2.1, Ent.blk b8 26 #[(IV a0.Boats), aB, aA], Ent.blk b6 26 #[(IV 0), (.slice none 0 0), (.slice none 0 0)], Ent.blk b4 38 #[(IV a0.Boats), (IV a0.Scheme), v1], zAg w0 w0.heap.size] w) ?_ (fun dD => ?_)
     · intro aCb zF hJ
       obtain ⟨dC, iE, mU, mV, mW, mX, mY, mZ, nA, nB, nC, nD, hL⟩ := hJ
       refine DH.all (rs := [7, 12]) (by kernel_rfl) (by simp) ?_
       intro aCc iZ
       simp only [List.mem_cons, List.not_mem_nil, or_false] at iZ
       rcases iZ with rfl | rfl
       · refine ⟨_, rfl, ?_⟩
         refine zBP aG rfl hL U24 zAR ((congrArg Value.cells nB).trans (zAY (hL.rdO 0 rfl))) rfl ?_
         intro zG vS vT hL
         refine ⟨(hL.sl [2, 6, 7, 8] rfl), ?_⟩
         exact zAm (listed' := (bma 18 3839)) (by kernel_rfl) (cT _ _ ⟨vS, vT, mU, mV, mW, mX, mY, mZ, nA, rfl, nC, nD, hL⟩)
       refine ⟨_, rfl, ?_⟩
       have hL := hL.sl [1, 0, 2, 3, 4, 5, 6, 7, 8] rfl
       refine zBP s_l2.1 rfl hL U24 zAR ((congrArg Value.cells nD).trans (zAY (hL.rdO 0 rfl))) rfl ?_
       intro zH vU vV hL
       refine ⟨(hL.sl [2, 6, 7, 8] rfl), ?_⟩
       exact zAm (listed' := (bma 18 7807)) (by kernel_rfl) (aU _ _ ⟨vU, vV, dC, iE, mU, mV, mW, mX, mY, mZ, nA, nB, nC, rfl, hL⟩)
     refine zAI (listed' := (bma 18 6783)) (fuel' := 8) (fun F w => ∃ bN dE dF iF, F 1 = (PV b4 0) ∧ F 2 = (PV b6 0) ∧ F 3 = (PV b8 0) ∧ F 13 = v1 ∧ F 14 = (IV (a0.Races.length : Int)) ∧ F 15 = (IV s_l1.2.2) ∧ F 34 = aB ∧ F 39 = dF ∧ F 42 = (PV b8 2) ∧ F 45 = bN ∧ Hp w0 [Ent.own 27 dE bN ([s_l2.1] : List (List Int)), Ent.own 2 iF dF aG, Ent.blk aD 101 #[aC], Ent.own 27 aH aB s_l1.1, Ent.own 27 aF aA s_l1.2.1, Ent.blk b8 26 #[(IV a0.Boats), aB, aA], Ent.blk b6 26 #[(IV 0), (.slice none 0 0), (.slice none 0 0)], Ent.blk b4 38 #[(IV a0.Boats), (IV a0.Scheme), v1], zAg w0 w0.heap.size] w) ?_ (fun dG => ?_)
     · intro aCd zI hJ
       obtain ⟨bN, dE, dF, iF, nE, nF, nG, nH, nI, nJ, nK, nL, nM, nN, hL⟩ := hJ
       refine DH.all (rs := [7, 10]) (by kernel_rfl) (by simp) ?_
       intro aCe jA
       simp only [List.mem_cons, List.not_mem_nil, or_false] at jA
       rcases jA with rfl | rfl
       · refine ⟨_, rfl, ?_⟩
         have hL := hL.sl [1, 0, 2, 3, 4, 5, 6, 7, 8] rfl
         refine zBP aG rfl hL U24 zAR ((congrArg Value.cells nL).trans (zAY (hL.rdO 0 rfl))) rfl ?_
         intro zJ vW vX hL
         refine ⟨(hL.sl [2, 6, 7, 8] rfl), ?_⟩
         have hL := hL.sl [1, 0, 2, 3, 4, 5, 6, 7, 8] rfl
         exact zAm (listed' := (bma 18 6911)) (by kernel_rfl) (cW _ _ ⟨bN, dE, vW, vX, nE, nF, nG, nH, nI, nJ, nK, rfl, nM, nN, hL⟩)
       refine ⟨_, rfl, ?_⟩
       refine zAk (v := aA) rfl (zAd U24 rfl nM (hL.cellB 5 rfl rfl)) ?_
       refine ⟨(hL.sl [2, 6, 7, 8] rfl), ?_⟩
       exact zAm (listed' := (bma 18 7807)) (by kernel_rfl) (aU _ _ ⟨bN, dE, dF, iF, nE, nF, nG, nH, nI, nJ, nK, nL, rfl, nN, hL⟩)
     refine zAI (listed' := (bma 18 7743)) (fuel' := 8) (fun F w => ∃ dH iG, F 1 = (PV b4 0) ∧ F 2 = (PV b6 0) ∧ F 3 = (PV b8 0) ∧ F 13 = v1 ∧ F 14 = (IV (a0.Races.length : Int)) ∧ F 15 = (IV s_l1.2.2) ∧ F 34 = aB ∧ F 36 = aC ∧ F 38 = (IV a0.Scheme) ∧ F 43 = aA ∧ F 45 = dH ∧ Hp w0 [Ent.own 27 iG dH ([s_l2.1] : List (List Int)), Ent.blk aD 101 #[aC], Ent.own 27 aH aB s_l1.1, Ent.own 27 aF aA s_l1.2.1, Ent.blk b8 26 #[(IV a0.Boats), aB, aA], Ent.blk b6 26 #[(IV 0), (.slice none 0 0), (.slice none 0 0)], Ent.blk b4 38 #[(IV a0.Boats), (IV a0.Scheme), v1], zAg w0 w0.heap.size] w) ?_ (fun dI => ?_)
     · intro aCf zK hJ
       obtain ⟨dH, iG, vY, vZ, wA, wB, wC, wD, wE, wF, wG, wH, wI, hL⟩ := hJ
       refine zAT 6 rfl (by kernel_rfl) (OP.call rfl (zAq (vs := [aC, (IV a0.Scheme)]) zJz ⟨wF, wG, trivial⟩) (zCj _ aL.Finishes (hL.rdS 7 rfl aK) a0.Scheme aM) ?_)
       rintro aCg zL ⟨wJ, wK, rfl, pV⟩
       refine ⟨_, rfl, ?_⟩
       have hL := hL.pushAll pV
       simp only [lA, lB, lC, lD] at hL
       refine ⟨(hL.sl [2, 6, 7, 8] rfl), ?_⟩
       have hL := hL.sl [1, 0, 2, 3, 4, 5, 6, 7, 8] rfl
       exact zAm (listed' := (bma 18 7807)) (by kernel_rfl) (aU _ _ ⟨dH, iG, wJ, wK, vY, vZ, wA, wB, wC, wD, wE, rfl, wH, wI, hL⟩)
     refine zAI (listed' := (bma 18 3837)) (fuel' := 8) (fun F w => ∃ bO dJ, F 1 = (PV b4 0) ∧ F 2 = (PV b6 0) ∧ F 3 = (PV b8 0) ∧ F 13 = v1 ∧ F 14 = (IV (a0.Races.length : Int)) ∧ F 15 = (IV s_l1.2.2) ∧ F 33 = (PV b8 1) ∧ F 40 = bO ∧ F 43 = aA ∧ F 44 = aE ∧ Hp w0 [Ent.own 27 dJ bO ([aG] : List (List Int)), Ent.own 2 aJ aE s_l2.1, Ent.blk aD 101 #[aC], Ent.own 27 aH aB s_l1.1, Ent.own 27 aF aA s_l1.2.1, Ent.blk b8 26 #[(IV a0.Boats), aB, aA], Ent.blk b6 26 #[(IV 0), (.slice none 0 0), (.slice none 0 0)], Ent.blk b4 38 #[(IV a0.Boats), (IV a0.Scheme), v1], zAg w0 w0.heap.size] w) ?_ (fun jB => ?_)
     · intro aCh zM hJ
       obtain ⟨bO, dJ, nO, nQ, nR, nS, nT, nU, nV, nW, nX, nY, hL⟩ := hJ
       refine DH.all (rs := [1, 12]) (by kernel_rfl) (by simp) ?_
       intro aCi jC
       simp only [List.mem_cons, List.not_mem_nil, or_false] at jC
       rcases jC with rfl | rfl
       · refine ⟨_, rfl, ?_⟩
         refine zAk (v := aB) rfl (zAd U24 rfl nV (hL.cellB 5 rfl rfl)) ?_
         refine ⟨(hL.sl [2, 6, 7, 8] rfl), ?_⟩
         exact zAm (listed' := (bma 18 3839)) (by kernel_rfl) (cT _ _ ⟨bO, dJ, nO, nQ, nR, nS, nT, nU, rfl, nW, nX, nY, hL⟩)
       refine ⟨_, rfl, ?_⟩
       have hL := hL.sl [1, 0, 2, 3, 4, 5, 6, 7, 8] rfl
       refine zBP s_l2.1 rfl hL U24 zAR ((congrArg Value.cells nY).trans (zAY (hL.rdO 0 rfl))) rfl ?_
       intro zN wL wM hL
       refine ⟨(hL.sl [2, 6, 7, 8] rfl), ?_⟩
       exact zAm (listed' := (bma 18 7933)) (by kernel_rfl) (dA _ _ ⟨wL, wM, bO, dJ, nO, nQ, nR, nS, nT, nU, nV, nW, nX, rfl, hL⟩)
     refine zAI (listed' := (bma 18 6909)) (fuel' := 8) (fun F w => ∃ bP dK bQ dL, F 1 = (PV b4 0) ∧ F 2 = (PV b6 0) ∧ F 3 = (PV b8 0) ∧ F 13 = v1 ∧ F 14 = (IV (a0.Races.length : Int)) ∧ F 15 = (IV s_l1.2.2) ∧ F 33 = (PV b8 1) ∧ F 40 = bQ ∧ F 42 = (PV b8 2) ∧ F 45 = bP ∧ Hp w0 [Ent.own 27 dK bP ([s_l2.1] : List (List Int)), Ent.own 27 dL bQ ([aG] : List (List Int)), Ent.blk aD 101 #[aC], Ent.own 27 aH aB s_l1.1, Ent.own 27 aF aA s_l1.2.1, Ent.blk b8 26 #[(IV a0.Boats), aB, aA], Ent.blk b6 26 #[(IV 0), (.slice none 0 0), (.slice none 0 0)], Ent.blk b4 38 #[(IV a0.Boats), (IV a0.Scheme), v1], zAg w0 w0.heap.size] w) ?_ (fun jD => ?_)
     · intro aCj zO hJ
       obtain ⟨bP, dK, bQ, dL, nZ, oA, oB, oC, oD, oE, oF, oG, oH, oI, hL⟩ := hJ
       refine DH.all (rs := [1, 10]) (by kernel_rfl) (by simp) ?_
       intro aCk jE
       simp only [List.mem_cons, List.not_mem_nil, or_false] at jE
       rcases jE with rfl | rfl
       · refine ⟨_, rfl, ?_⟩
         refine zAk (v := aB) rfl (zAd U24 rfl oF (hL.cellB 5 rfl rfl)) ?_
         refine ⟨(hL.sl [2, 6, 7, 8] rfl), ?_⟩
         exact zAm (listed' := (bma 18 6911)) (by kernel_rfl) (cW _ _ ⟨bP, dK, bQ, dL, nZ, oA, oB, oC, oD, oE, rfl, oG, oH, oI, hL⟩)
       refine ⟨_, rfl, ?_⟩
       refine zAk (v := aA) rfl (zAd U24 rfl oH (hL.cellB 5 rfl rfl)) ?_
       refine ⟨(hL.sl [2, 6, 7, 8] rfl), ?_⟩
       exact zAm (listed' := (bma 18 7933)) (by kernel_rfl) (dA _ _ ⟨bP, dK, bQ, dL, nZ, oA, oB, oC, oD, oE, oF, oG, rfl, oI, hL⟩)
     refine zAI (listed' := (bma 18 7805)) (fuel' := 8) (fun F w => ∃ bR dM dN iH, F 1 = (PV b4 0) ∧ F 2 = (PV b6 0) ∧ F 3 = (PV b8 0) ∧ F 13 = v1 ∧ F 14 = (IV (a0.Races.length : Int)) ∧ F 15 = (IV s_l1.2.2) ∧ F 33 = (PV b8 1) ∧ F 39 = dN ∧ F 43 = aA ∧ F 45 = bR ∧ Hp w0 [Ent.own 27 dM bR ([s_l2.1] : List (List Int)), Ent.own 2 iH dN aG, Ent.blk aD 101 #[aC], Ent.own 27 aH aB s_l1.1, Ent.own 27 aF aA s_l1.2.1, Ent.blk b8 26 #[(IV a0.Boats), aB, aA], Ent.blk b6 26 #[(IV 0), (.slice none 0 0), (.slice none 0 0)], Ent.blk b4 38 #[(IV a0.Boats), (IV a0.Scheme), v1], zAg w0 w0.heap.size] w) ?_ (fun dO => ?_)
     · intro aCl zP hJ
       obtain ⟨bR, dM, dN, iH, oJ, oK, oL, oM, oN, oO, oP, oQ, oR, oS, hL⟩ := hJ
       refine DH.all (rs := [1, 7]) (by kernel_rfl) (by simp) ?_
       intro aCm jF
       simp only [List.mem_cons, List.not_mem_nil, or_false] at jF
       rcases jF with rfl | rfl
       · refine ⟨_, rfl, ?_⟩
         refine zAk (v := aB) rfl (zAd U24 rfl oP (hL.cellB 5 rfl rfl)) ?_
         refine ⟨(hL.sl [2, 6, 7, 8] rfl), ?_⟩
         exact zAm (listed' := (bma 18 7807)) (by kernel_rfl) (aU _ _ ⟨bR, dM, dN, iH, oJ, oK, oL, oM, oN, oO, rfl, oQ, oR, oS, hL⟩)
       refine ⟨_, rfl, ?_⟩
       have hL := hL.sl [1, 0, 2, 3, 4, 5, 6, 7, 8] rfl
       refine zBP aG rfl hL U24 zAR ((congrArg Value.cells oQ).trans (zAY (hL.rdO 0 rfl))) rfl ?_
       intro zQ wN wO hL
       refine ⟨(hL.sl [2, 6, 7, 8] rfl), ?_⟩
       have hL := hL.sl [1, 0, 2, 3, 4, 5, 6, 7, 8] rfl
       exact zAm (listed' := (bma 18 7933)) (by kernel_rfl) (dA _ _ ⟨bR, dM, wN, wO, oJ, oK, oL, oM, oN, oO, oP, rfl, oR, oS, hL⟩)
     refine zAI (listed' := (bma 18 2687)) (fuel' := 9) (fun F w => ∃ bS dP, F 1 = (PV b4 0) ∧ F 2 = (PV b6 0) ∧ F 3 = (PV b8 0) ∧ F 13 = v1 ∧ F 14 = (IV (a0.Races.length : Int)) ∧ F 15 = (IV s_l1.2.2) ∧ F 34 = aB ∧ F 39 = bS ∧ F 42 = (PV b8 2) ∧ F 44 = aE ∧ Hp w0 [Ent.own 2 dP bS aG, Ent.own 2 aJ aE s_l2.1, Ent.blk aD 101 #[aC], Ent.own 27 aH aB s_l1.1, Ent.own 27 aF aA s_l1.2.1, Ent.blk b8 26 #[(IV a0.Boats), aB, aA], Ent.blk b6 26 #[(IV 0), (.slice none 0 0), (.slice none 0 0)], Ent.blk b4 38 #[(IV a0.Boats), (IV a0.Scheme), v1], zAg w0 w0.heap.size] w) ?_ (fun jG => ?_)
     · intro aCn zR hJ
       obtain ⟨bS, dP, iI, iJ, iK, iL, iM, iN, iO, iP, iQ, iR, hL⟩ := hJ
       refine DH.all (rs := [7, 10, 12]) (by kernel_rfl) (by simp) ?_
       intro aCo gH
       simp only [List.mem_cons, List.not_mem_nil, or_false] at gH
       rcases gH with rfl | rfl | rfl
       · refine ⟨_, rfl, ?_⟩
         refine zBP aG rfl hL U24 zAR ((congrArg Value.cells iP).trans (zAY (hL.rdO 0 rfl))) rfl ?_
         intro wP pW pX hL
         refine ⟨(hL.sl [2, 6, 7, 8] rfl), ?_⟩
         exact zAm (listed' := (bma 18 2815)) (by kernel_rfl) (iX _ _ ⟨pW, pX, iI, iJ, iK, iL, iM, iN, iO, rfl, iQ, iR, hL⟩)
       · refine ⟨_, rfl, ?_⟩
         refine zAk (v := aA) rfl (zAd U24 rfl iQ (hL.cellB 5 rfl rfl)) ?_
         refine ⟨(hL.sl [2, 6, 7, 8] rfl), ?_⟩
         exact zAm (listed' := (bma 18 3711)) (by kernel_rfl) (dD _ _ ⟨bS, dP, iI, iJ, iK, iL, iM, iN, iO, iP, rfl, iR, hL⟩)
       refine ⟨_, rfl, ?_⟩
       have hL := hL.sl [1, 0, 2, 3, 4, 5, 6, 7, 8] rfl
       refine zBP s_l2.1 rfl hL U24 zAR ((congrArg Value.cells iR).trans (zAY (hL.rdO 0 rfl))) rfl ?_
       intro wQ pY pZ hL
       refine ⟨(hL.sl [2, 6, 7, 8] rfl), ?_⟩
       exact zAm (listed' := (bma 18 6783)) (by kernel_rfl) (dG _ _ ⟨pY, pZ, bS, dP, iI, iJ, iK, iL, iM, iN, iO, iP, iQ, rfl, hL⟩)
     refine zAI (listed' := (bma 18 3647)) (fuel' := 9) (fun F w => F 1 = (PV b4 0) ∧ F 2 = (PV b6 0) ∧ F 3 = (PV b8 0) ∧ F 13 = v1 ∧ F 14 = (IV (a0.Races.length : Int)) ∧ F 15 = (IV s_l1.2.2) ∧ F 34 = aB ∧ F 36 = aC ∧ F 38 = (IV a0.Scheme) ∧ F 43 = aA ∧ F 44 = aE ∧ Hp w0 [Ent.own 2 aJ aE s_l2.1, Ent.blk aD 101 #[aC], Ent.own 27 aH aB s_l1.1, Ent.own 27 aF aA s_l1.2.1, Ent.blk b8 26 #[(IV a0.Boats), aB, aA], Ent.blk b6 26 #[(IV 0), (.slice none 0 0), (.slice none 0 0)], Ent.blk b4 38 #[(IV a0.Boats), (IV a0.Scheme), v1], zAg w0 w0.heap.size] w) ?_ (fun jH => ?_)
     · intro zS wS hJ
       obtain ⟨jI, jJ, jK, jL, jM, jN, jO, jP, jQ, jR, jS, hL⟩ := hJ
       refine DH.all (rs := [6, 12]) (by kernel_rfl) (by simp) ?_
       intro zT gI
       simp only [List.mem_cons, List.not_mem_nil, or_false] at gI
       rcases gI with rfl | rfl
       · refine ⟨_, rfl, ?_⟩
         refine OP.call rfl (zAq (vs := [aC, (IV a0.Scheme)]) zJz ⟨jP, jQ, trivial⟩) (zCj _ aL.Finishes (hL.rdS 7 rfl aK) a0.Scheme aM) ?_
         rintro zU wT ⟨qA, qB, rfl, oT⟩
         refine ⟨_, rfl, ?_⟩
         have hL := hL.pushAll oT
         simp only [lA, lB, lC, lD] at hL
         refine ⟨(hL.sl [2, 6, 7, 8] rfl), ?_⟩
         exact zAm (listed' := (bma 18 3711)) (by kernel_rfl) (dD _ _ ⟨qA, qB, jI, jJ, jK, jL, jM, jN, jO, rfl, jR, jS, hL⟩)
       refine ⟨_, rfl, ?_⟩
       refine zBP s_l2.1 rfl hL U24 zAR ((congrArg Value.cells jS).trans (zAY (hL.rdO 0 rfl))) rfl ?_
       intro wU qC qD hL
       refine ⟨(hL.sl [1, 5, 6, 7] rfl), ?_⟩
       exact zAm (listed' := (bma 18 7743)) (by kernel_rfl) (dI _ _ ⟨qC, qD, jI, jJ, jK, jL, jM, jN, jO, jP, jQ, jR, rfl, hL⟩)
     refine zAI (listed' := (bma 18 6719)) (fuel' := 9) (fun F w => ∃ bT dQ, F 1 = (PV b4 0) ∧ F 2 = (PV b6 0) ∧ F 3 = (PV b8 0) ∧ F 13 = v1 ∧ F 14 = (IV (a0.Races.length : Int)) ∧ F 15 = (IV s_l1.2.2) ∧ F 34 = aB ∧ F 36 = aC ∧ F 38 = (IV a0.Scheme) ∧ F 42 = (PV b8 2) ∧ F 45 = bT ∧ Hp w0 [Ent.own 27 dQ bT ([s_l2.1] : List (List Int)), Ent.blk aD 101 #[aC], Ent.own 27 aH aB s_l1.1, Ent.own 27 aF aA s_l1.2.1, Ent.blk b8 26 #[(IV a0.Boats), aB, aA], Ent.blk b6 26 #[(IV 0), (.slice none 0 0), (.slice none 0 0)], Ent.blk b4 38 #[(IV a0.Boats), (IV a0.Scheme), v1], zAg w0 w0.heap.size] w) ?_ (fun jT => ?_)
     · intro zV wV hJ
       obtain ⟨bT, dQ, jU, jV, jW, jX, jY, jZ, kA, kB, kC, kD, kE, hL⟩ := hJ
       refine DH.all (rs := [6, 10]) (by kernel_rfl) (by simp) ?_
       intro zW gJ
       simp only [List.mem_cons, List.not_mem_nil, or_false] at gJ
       rcases gJ with rfl | rfl
       · refine ⟨_, rfl, ?_⟩
         refine OP.call rfl (zAq (vs := [aC, (IV a0.Scheme)]) zJz ⟨kB, kC, trivial⟩) (zCj _ aL.Finishes (hL.rdS 7 rfl aK) a0.Scheme aM) ?_
         rintro zX wW ⟨qE, qF, rfl, oU⟩
         refine ⟨_, rfl, ?_⟩
         have hL := hL.pushAll oU
         simp only [lA, lB, lC, lD] at hL
         refine ⟨(hL.sl [2, 6, 7, 8] rfl), ?_⟩
         have hL := hL.sl [1, 0, 2, 3, 4, 5, 6, 7, 8] rfl
         exact zAm (listed' := (bma 18 6783)) (by kernel_rfl) (dG _ _ ⟨bT, dQ, qE, qF, jU, jV, jW, jX, jY, jZ, kA, rfl, kD, kE, hL⟩)
       refine ⟨_, rfl, ?_⟩
       refine zAk (v := aA) rfl (zAd U24 rfl kD (hL.cellB 4 rfl rfl)) ?_
       refine ⟨(hL.sl [1, 5, 6, 7] rfl), ?_⟩
       exact zAm (listed' := (bma 18 7743)) (by kernel_rfl) (dI _ _ ⟨bT, dQ, jU, jV, jW, jX, jY, jZ, kA, kB, kC, rfl, kE, hL⟩)
     refine zAI (listed' := (bma 18 2813)) (fuel' := 9) (fun F w => ∃ aO bU, F 1 = (PV b4 0) ∧ F 2 = (PV b6 0) ∧ F 3 = (PV b8 0) ∧ F 13 = v1 ∧ F 14 = (IV (a0.Races.length : Int)) ∧ F 15 = (IV s_l1.2.2) ∧ F 33 = (PV b8 1) ∧ F 40 = aO ∧ F 42 = (PV b8 2) ∧ F 44 = aE ∧ Hp w0 [Ent.own 27 bU aO ([aG] : List (List Int)), Ent.own 2 aJ aE s_l2.1, Ent.blk aD 101 #[aC], Ent.own 27 aH aB s_l1.1, Ent.own 27 aF aA s_l1.2.1, Ent.blk b8 26 #[(IV a0.Boats), aB, aA], Ent.blk b6 26 #[(IV 0), (.slice none 0 0), (.slice none 0 0)], Ent.blk b4 38 #[(IV a0.Boats), (IV a0.Scheme), v1], zAg w0 w0.heap.size] w) ?_ (fun qG => ?_)
     · intro zY wX hJ
       obtain ⟨aO, bU, dR, dS, dT, dU, dV, dW, dX, dY, dZ, eA, hL⟩ := hJ
       refine DH.all (rs := [1, 10, 12]) (by kernel_rfl) (by simp) ?_
       intro zZ gK
       simp only [List.mem_cons, List.not_mem_nil, or_false] at gK
       rcases gK with rfl | rfl | rfl
       · refine ⟨_, rfl, ?_⟩
         refine zAk (v := aB) rfl (zAd U24 rfl dX (hL.cellB 5 rfl rfl)) ?_
         refine ⟨(hL.sl [2, 6, 7, 8] rfl), ?_⟩
         exact zAm (listed' := (bma 18 2815)) (by kernel_rfl) (iX _ _ ⟨aO, bU, dR, dS, dT, dU, dV, dW, rfl, dY, dZ, eA, hL⟩)
       · refine ⟨_, rfl, ?_⟩
         refine zAk (v := aA) rfl (zAd U24 rfl dZ (hL.cellB 5 rfl rfl)) ?_
         refine ⟨(hL.sl [2, 6, 7, 8] rfl), ?_⟩
         exact zAm (listed' := (bma 18 3837)) (by kernel_rfl) (jB _ _ ⟨aO, bU, dR, dS, dT, dU, dV, dW, dX, dY, rfl, eA, hL⟩)
       refine ⟨_, rfl, ?_⟩
       have hL := hL.sl [1, 0, 2, 3, 4, 5, 6, 7, 8] rfl
       refine zBP s_l2.1 rfl hL U24 zAR ((congrArg Value.cells eA).trans (zAY (hL.rdO 0 rfl))) rfl ?_
       intro wY qH qI hL
       refine ⟨(hL.sl [2, 6, 7, 8] rfl), ?_⟩
       exact zAm (listed' := (bma 18 6909)) (by kernel_rfl) (jD _ _ ⟨qH, qI, aO, bU, dR, dS, dT, dU, dV, dW, dX, dY, dZ, rfl, hL⟩)
     refine zAI (listed' := (bma 18 3709)) (fuel' := 9) (fun F w => ∃ bV eB, F 1 = (PV b4 0) ∧ F 2 = (PV b6 0) ∧ F 3 = (PV b8 0) ∧ F 13 = v1 ∧ F 14 = (IV (a0.Races.length : Int)) ∧ F 15 = (IV s_l1.2.2) ∧ F 33 = (PV b8 1) ∧ F 39 = bV ∧ F 43 = aA ∧ F 44 = aE ∧ Hp w0 [Ent.own 2 eB bV aG, Ent.own 2 aJ aE s_l2.1, Ent.blk aD 101 #[aC], Ent.own 27 aH aB s_l1.1, Ent.own 27 aF aA s_l1.2.1, Ent.blk b8 26 #[(IV a0.Boats), aB, aA], Ent.blk b6 26 #[(IV 0), (.slice none 0 0), (.slice none 0 0)], Ent.blk b4 38 #[(IV a0.Boats), (IV a0.Scheme), v1], zAg w0 w0.heap.size] w) ?_ (fun kF => ?_)
     · intro aAa wZ hJ
       obtain ⟨bV, eB, eC, eD, eE, eF, eG, eH, eI, eJ, eK, eL, hL⟩ := hJ
       refine DH.all (rs := [1, 7, 12]) (by kernel_rfl) (by simp) ?_
       intro aAb gL
       simp only [List.mem_cons, List.not_mem_nil, or_false] at gL
       rcases gL with rfl | rfl | rfl
       · refine ⟨_, rfl, ?_⟩
         refine zAk (v := aB) rfl (zAd U24 rfl eI (hL.cellB 5 rfl rfl)) ?_
         refine ⟨(hL.sl [2, 6, 7, 8] rfl), ?_⟩
         exact zAm (listed' := (bma 18 3711)) (by kernel_rfl) (dD _ _ ⟨bV, eB, eC, eD, eE, eF, eG, eH, rfl, eJ, eK, eL, hL⟩)
       · refine ⟨_, rfl, ?_⟩
         refine zBP aG rfl hL U24 zAR ((congrArg Value.cells eJ).trans (zAY (hL.rdO 0 rfl))) rfl ?_
         intro xA qJ qK hL
         refine ⟨(hL.sl [2, 6, 7, 8] rfl), ?_⟩
         exact zAm (listed' := (bma 18 3837)) (by kernel_rfl) (jB _ _ ⟨qJ, qK, eC, eD, eE, eF, eG, eH, eI, rfl, eK, eL, hL⟩)
       refine ⟨_, rfl, ?_⟩
       have hL := hL.sl [1, 0, 2, 3, 4, 5, 6, 7, 8] rfl
       refine zBP s_l2.1 rfl hL U24 zAR ((congrArg Value.cells eL).trans (zAY (hL.rdO 0 rfl))) rfl ?_
       intro xB qL qM hL
       refine ⟨(hL.sl [2, 6, 7, 8] rfl), ?_⟩
       exact zAm (listed' := (bma 18 7805)) (by kernel_rfl) (dO _ _ ⟨qL, qM, bV, eB, eC, eD, eE, eF, eG, eH, eI, eJ, eK, rfl, hL⟩)
     refine zAI (listed' := (bma 18 6781)) (fuel' := 9) (fun F w => ∃ aP bW bX eM, F 1 = (PV b4 0) ∧ F 2 = (PV b6 0) ∧ F 3 = (PV b8 0) ∧ F 13 = v1 ∧ F 14 = (IV (a0.Races.length : Int)) ∧ F 15 = (IV s_l1.2.2) ∧ F 33 = (PV b8 1) ∧ F 39 = bX ∧ F 42 = (PV b8 2) ∧ F 45 = aP ∧ Hp w0 [Ent.own 27 bW aP ([s_l2.1] : List (List Int)), Ent.own 2 eM bX aG, Ent.blk aD 101 #[aC], Ent.own 27 aH aB s_l1.1, Ent.own 27 aF aA s_l1.2.1, Ent.blk b8 26 #[(IV a0.Boats), aB, aA], Ent.blk b6 26 #[(IV 0), (.slice none 0 0), (.slice none 0 0)], Ent.blk b4 38 #[(IV a0.Boats), (IV a0.Scheme), v1], zAg w0 w0.heap.size] w) ?_ (fun kG => ?_)
     · intro aAc xC hJ
       obtain ⟨aP, bW, bX, eM, eN, eO, eP, eQ, eR, eS, eT, eU, eV, eW, hL⟩ := hJ
       refine DH.all (rs := [1, 7, 10]) (by kernel_rfl) (by simp) ?_
       intro aAd gM
       simp only [List.mem_cons, List.not_mem_nil, or_false] at gM
       rcases gM with rfl | rfl | rfl
       · refine ⟨_, rfl, ?_⟩
         refine zAk (v := aB) rfl (zAd U24 rfl eT (hL.cellB 5 rfl rfl)) ?_
         refine ⟨(hL.sl [2, 6, 7, 8] rfl), ?_⟩
         exact zAm (listed' := (bma 18 6783)) (by kernel_rfl) (dG _ _ ⟨aP, bW, bX, eM, eN, eO, eP, eQ, eR, eS, rfl, eU, eV, eW, hL⟩)
       · refine ⟨_, rfl, ?_⟩
         have hL := hL.sl [1, 0, 2, 3, 4, 5, 6, 7, 8] rfl
         refine zBP aG rfl hL U24 zAR ((congrArg Value.cells eU).trans (zAY (hL.rdO 0 rfl))) rfl ?_
         intro xD qN qO hL
         refine ⟨(hL.sl [2, 6, 7, 8] rfl), ?_⟩
         have hL := hL.sl [1, 0, 2, 3, 4, 5, 6, 7, 8] rfl
         exact zAm (listed' := (bma 18 6909)) (by kernel_rfl) (jD _ _ ⟨aP, bW, qN, qO, eN, eO, eP, eQ, eR, eS, eT, rfl, eV, eW, hL⟩)
       refine ⟨_, rfl, ?_⟩
       refine zAk (v := aA) rfl (zAd U24 rfl eV (hL.cellB 5 rfl rfl)) ?_
       refine ⟨(hL.sl [2, 6, 7, 8] rfl), ?_⟩
       exact zAm (listed' := (bma 18 7805)) (by kernel_rfl) (dO _ _ ⟨aP, bW, bX, eM, eN, eO, eP, eQ, eR, eS, eT, eU, rfl, eW, hL⟩)
     refine zAI (listed' := (bma 18 7741)) (fuel' := 9) (fun F w => ∃ bY eX, F 1 = (PV b4 0) ∧ F 2 = (PV b6 0) ∧ F 3 = (PV b8 0) ∧ F 13 = v1 ∧ F 14 = (IV (a0.Races.length : Int)) ∧ F 15 = (IV s_l1.2.2) ∧ F 33 = (PV b8 1) ∧ F 36 = aC ∧ F 38 = (IV a0.Scheme) ∧ F 43 = aA ∧ F 45 = bY ∧ Hp w0 [Ent.own 27 eX bY ([s_l2.1] : List (List Int)), Ent.blk aD 101 #[aC], Ent.own 27 aH aB s_l1.1, Ent.own 27 aF aA s_l1.2.1, Ent.blk b8 26 #[(IV a0.Boats), aB, aA], Ent.blk b6 26 #[(IV 0), (.slice none 0 0), (.slice none 0 0)], Ent.blk b4 38 #[(IV a0.Boats), (IV a0.Scheme), v1], zAg w0 w0.heap.size] w) ?_ (fun kH => ?_)
     · intro aAe xE hJ
       obtain ⟨bY, eX, kI, kJ, kK, kL, kM, kN, kO, kP, kQ, kR, kS, hL⟩ := hJ
       refine DH.all (rs := [1, 6]) (by kernel_rfl) (by simp) ?_
       intro aAf gN
       simp only [List.mem_cons, List.not_mem_nil, or_false] at gN
       rcases gN with rfl | rfl
       · refine ⟨_, rfl, ?_⟩
         refine zAk (v := aB) rfl (zAd U24 rfl kO (hL.cellB 4 rfl rfl)) ?_
         refine ⟨(hL.sl [1, 5, 6, 7] rfl), ?_⟩
         exact zAm (listed' := (bma 18 7743)) (by kernel_rfl) (dI _ _ ⟨bY, eX, kI, kJ, kK, kL, kM, kN, rfl, kP, kQ, kR, kS, hL⟩)
       refine ⟨_, rfl, ?_⟩
       refine OP.call rfl (zAq (vs := [aC, (IV a0.Scheme)]) zJz ⟨kP, kQ, trivial⟩) (zCj _ aL.Finishes (hL.rdS 7 rfl aK) a0.Scheme aM) ?_
       rintro aAg xF ⟨qP, qQ, rfl, oV⟩
       refine ⟨_, rfl, ?_⟩
       have hL := hL.pushAll oV
       simp only [lA, lB, lC, lD] at hL
       refine ⟨(hL.sl [2, 6, 7, 8] rfl), ?_⟩
       have hL := hL.sl [1, 0, 2, 3, 4, 5, 6, 7, 8] rfl
       exact zAm (listed' := (bma 18 7805)) (by kernel_rfl) (dO _ _ ⟨bY, eX, qP, qQ, kI, kJ, kK, kL, kM, kN, kO, rfl, kR, kS, hL⟩)
     refine zAI (listed' := (bma 18 2623)) (fuel' := 10) (fun F w => F 1 = (PV b4 0) ∧ F 2 = (PV b6 0) ∧ F 3 = (PV b8 0) ∧ F 13 = v1 ∧ F 14 = (IV (a0.Races.length : Int)) ∧ F 15 = (IV s_l1.2.2) ∧ F 34 = aB ∧ F 36 = aC ∧ F 38 = (IV a0.Scheme) ∧ F 42 = (PV b8 2) ∧ F 44 = aE ∧ Hp w0 [Ent.own 2 aJ aE s_l2.1, Ent.blk aD 101 #[aC], Ent.own 27 aH aB s_l1.1, Ent.own 27 aF aA s_l1.2.1, Ent.blk b8 26 #[(IV a0.Boats), aB, aA], Ent.blk b6 26 #[(IV 0), (.slice none 0 0), (.slice none 0 0)], Ent.blk b4 38 #[(IV a0.Boats), (IV a0.Scheme), v1], zAg w0 w0.heap.size] w) ?_ (fun qR => ?_)
     · intro aAh xG hJ
       obtain ⟨eY, eZ, fA, fB, fC, fD, fE, fF, fG, fH, fI, hL⟩ := hJ
       refine DH.all (rs := [6, 10, 12]) (by kernel_rfl) (by simp) ?_
       intro aAi gO
       simp only [List.mem_cons, List.not_mem_nil, or_false] at gO
       rcases gO with rfl | rfl | rfl
       · refine ⟨_, rfl, ?_⟩
         refine OP.call rfl (zAq (vs := [aC, (IV a0.Scheme)]) zJz ⟨fF, fG, trivial⟩) (zCj _ aL.Finishes (hL.rdS 7 rfl aK) a0.Scheme aM) ?_
         rintro aAj xH ⟨qS, qT, rfl, oW⟩
         refine ⟨_, rfl, ?_⟩
         have hL := hL.pushAll oW
         simp only [lA, lB, lC, lD] at hL
         refine ⟨(hL.sl [2, 6, 7, 8] rfl), ?_⟩
         exact zAm (listed' := (bma 18 2687)) (by kernel_rfl) (jG _ _ ⟨qS, qT, eY, eZ, fA, fB, fC, fD, fE, rfl, fH, fI, hL⟩)
       · refine ⟨_, rfl, ?_⟩
         refine zAk (v := aA) rfl (zAd U24 rfl fH (hL.cellB 4 rfl rfl)) ?_
         refine ⟨(hL.sl [1, 5, 6, 7] rfl), ?_⟩
         exact zAm (listed' := (bma 18 3647)) (by kernel_rfl) (jH _ _ ⟨eY, eZ, fA, fB, fC, fD, fE, fF, fG, rfl, fI, hL⟩)
       refine ⟨_, rfl, ?_⟩
       refine zBP s_l2.1 rfl hL U24 zAR ((congrArg Value.cells fI).trans (zAY (hL.rdO 0 rfl))) rfl ?_
       intro xI qU qV hL
       refine ⟨(hL.sl [1, 5, 6, 7] rfl), ?_⟩
       exact zAm (listed' := (bma 18 6719)) (by kernel_rfl) (jT _ _ ⟨qU, qV, eY, eZ, fA, fB, fC, fD, fE, fF, fG, fH, rfl, hL⟩)
     refine zAI (listed' := (bma 18 2685)) (fuel' := 10) (fun F w => ∃ aQ bZ, F 1 = (PV b4 0) ∧ F 2 = (PV b6 0) ∧ F 3 = (PV b8 0) ∧ F 13 = v1 ∧ F 14 = (IV (a0.Races.length : Int)) ∧ F 15 = (IV s_l1.2.2) ∧ F 33 = (PV b8 1) ∧ F 39 = aQ ∧ F 42 = (PV b8 2) ∧ F 44 = aE ∧ Hp w0 [Ent.own 2 bZ aQ aG, Ent.own 2 aJ aE s_l2.1, Ent.blk aD 101 #[aC], Ent.own 27 aH aB s_l1.1, Ent.own 27 aF aA s_l1.2.1, Ent.blk b8 26 #[(IV a0.Boats), aB, aA], Ent.blk b6 26 #[(IV 0), (.slice none 0 0), (.slice none 0 0)], Ent.blk b4 38 #[(IV a0.Boats), (IV a0.Scheme), v1], zAg w0 w0.heap.size] w) ?_ (fun qW => ?_)
     · intro aAk xJ hJ
       obtain ⟨aQ, bZ, aV, aW, aX, aY, aZ, bA, bB, bC, bD, bE, hL⟩ := hJ
       refine DH.all (rs := [1, 7, 10, 12]) (by kernel_rfl) (by simp) ?_
       intro aAl gP
       simp only [List.mem_cons, List.not_mem_nil, or_false] at gP
       rcases gP with rfl | rfl | rfl | rfl
       · refine ⟨_, rfl, ?_⟩
         refine zAk (v := aB) rfl (zAd U24 rfl bB (hL.cellB 5 rfl rfl)) ?_
         refine ⟨(hL.sl [2, 6, 7, 8] rfl), ?_⟩
         exact zAm (listed' := (bma 18 2687)) (by kernel_rfl) (jG _ _ ⟨aQ, bZ, aV, aW, aX, aY, aZ, bA, rfl, bC, bD, bE, hL⟩)
       · refine ⟨_, rfl, ?_⟩
         refine zBP aG rfl hL U24 zAR ((congrArg Value.cells bC).trans (zAY (hL.rdO 0 rfl))) rfl ?_
         intro xK qX qY hL
         refine ⟨(hL.sl [2, 6, 7, 8] rfl), ?_⟩
         exact zAm (listed' := (bma 18 2813)) (by kernel_rfl) (qG _ _ ⟨qX, qY, aV, aW, aX, aY, aZ, bA, bB, rfl, bD, bE, hL⟩)
       · refine ⟨_, rfl, ?_⟩
         refine zAk (v := aA) rfl (zAd U24 rfl bD (hL.cellB 5 rfl rfl)) ?_
         refine ⟨(hL.sl [2, 6, 7, 8] rfl), ?_⟩
         exact zAm (listed' := (bma 18 3709)) (by kernel_rfl) (kF _ _ ⟨aQ, bZ, aV, aW, aX, aY, aZ, bA, bB, bC, rfl, bE, hL⟩)
       refine ⟨_, rfl, ?_⟩
       have hL := hL.sl [1, 0, 2, 3, 4, 5, 6, 7, 8] rfl
       refine zBP s_l2.1 rfl hL U24 zAR ((congrArg Value.cells bE).trans (zAY (hL.rdO 0 rfl))) rfl ?_
       intro xL qZ rA hL
       refine ⟨(hL.sl [2, 6, 7, 8] rfl), ?_⟩
       exact zAm (listed' := (bma 18 6781)) (by kernel_rfl) (kG _ _ ⟨qZ, rA, aQ, bZ, aV, aW, aX, aY, aZ, bA, bB, bC, bD, rfl, hL⟩)
     refine zAI (listed' := (bma 18 3645)) (fuel' := 10) (fun F w => F 1 = (PV b4 0) ∧ F 2 = (PV b6 0) ∧ F 3 = (PV b8 0) ∧ F 13 = v1 ∧ F 14 = (IV (a0.Races.length : Int)) ∧ F 15 = (IV s_l1.2.2) ∧ F 33 = (PV b8 1) ∧ F 36 = aC ∧ F 38 = (IV a0.Scheme) ∧ F 43 = aA ∧ F 44 = aE ∧ Hp w0 [Ent.own 2 aJ aE s_l2.1, Ent.blk aD 101 #[aC], Ent.own 27 aH aB s_l1.1, Ent.own 27 aF aA s_l1.2.1, Ent.blk b8 26 #[(IV a0.Boats), aB, aA], Ent.blk b6 26 #[(IV 0), (.slice none 0 0), (.slice none 0 0)], Ent.blk b4 38 #[(IV a0.Boats), (IV a0.Scheme), v1], zAg w0 w0.heap.size] w) ?_ (fun rB => ?_)
     · intro aAm xM hJ
       obtain ⟨fJ, fK, fL, fM, fN, fO, fP, fQ, fR, fS, fT, hL⟩ := hJ
       refine DH.all (rs := [1, 6, 12]) (by kernel_rfl) (by simp) ?_
       intro aAn gQ
       simp only [List.mem_cons, List.not_mem_nil, or_false] at gQ
       rcases gQ with rfl | rfl | rfl
       · refine ⟨_, rfl, ?_⟩
         refine zAk (v := aB) rfl (zAd U24 rfl fP (hL.cellB 4 rfl rfl)) ?_
         refine ⟨(hL.sl [1, 5, 6, 7] rfl), ?_⟩
         exact zAm (listed' := (bma 18 3647)) (by kernel_rfl) (jH _ _ ⟨fJ, fK, fL, fM, fN, fO, rfl, fQ, fR, fS, fT, hL⟩)
       · refine ⟨_, rfl, ?_⟩
         refine OP.call rfl (zAq (vs := [aC, (IV a0.Scheme)]) zJz ⟨fQ, fR, trivial⟩) (zCj _ aL.Finishes (hL.rdS 7 rfl aK) a0.Scheme aM) ?_
         rintro aAo xN ⟨rC, rD, rfl, oX⟩
         refine ⟨_, rfl, ?_⟩
         have hL := hL.pushAll oX
         simp only [lA, lB, lC, lD] at hL
         refine ⟨(hL.sl [2, 6, 7, 8] rfl), ?_⟩
         exact zAm (listed' := (bma 18 3709)) (by kernel_rfl) (kF _ _ ⟨rC, rD, fJ, fK, fL, fM, fN, fO, fP, rfl, fS, fT, hL⟩)
       refine ⟨_, rfl, ?_⟩
       refine zBP s_l2.1 rfl hL U24 zAR ((congrArg Value.cells fT).trans (zAY (hL.rdO 0 rfl))) rfl ?_
       intro xO rE rF hL
       refine ⟨(hL.sl [1, 5, 6, 7] rfl), ?_⟩
       exact zAm (listed' := (bma 18 7741)) (by kernel_rfl) (kH _ _ ⟨rE, rF, fJ, fK, fL, fM, fN, fO, fP, fQ, fR, fS, rfl, hL⟩)
     refine zAI (listed' := (bma 18 6717)) (fuel' := 10) (fun F w => ∃ aR cA, F 1 = (PV b4 0) ∧ F 2 = (PV b6 0) ∧ F 3 = (PV b8 0) ∧ F 13 = v1 ∧ F 14 = (IV (a0.Races.length : Int)) ∧ F 15 = (IV s_l1.2.2) ∧ F 33 = (PV b8 1) ∧ F 36 = aC ∧ F 38 = (IV a0.Scheme) ∧ F 42 = (PV b8 2) ∧ F 45 = aR ∧ Hp w0 [Ent.own 27 cA aR ([s_l2.1] : List (List Int)), Ent.blk aD 101 #[aC], Ent.own 27 aH aB s_l1.1, Ent.own 27 aF aA s_l1.2.1, Ent.blk b8 26 #[(IV a0.Boats), aB, aA], Ent.blk b6 26 #[(IV 0), (.slice none 0 0), (.slice none 0 0)], Ent.blk b4 38 #[(IV a0.Boats), (IV a0.Scheme), v1], zAg w0 w0.heap.size] w) ?_ (fun rG => ?_)
     · intro aAp xP hJ
       obtain ⟨aR, cA, fU, fV, fW, fX, fY, fZ, gA, gB, gC, gD, gE, hL⟩ := hJ
       refine DH.all (rs := [1, 6, 10]) (by kernel_rfl) (by simp) ?_
       intro aAq gR
       simp only [List.mem_cons, List.not_mem_nil, or_false] at gR
       rcases gR with rfl | rfl | rfl
       · refine ⟨_, rfl, ?_⟩
         refine zAk (v := aB) rfl (zAd U24 rfl gA (hL.cellB 4 rfl rfl)) ?_
         refine ⟨(hL.sl [1, 5, 6, 7] rfl), ?_⟩
         exact zAm (listed' := (bma 18 6719)) (by kernel_rfl) (jT _ _ ⟨aR, cA, fU, fV, fW, fX, fY, fZ, rfl, gB, gC, gD, gE, hL⟩)
       · refine ⟨_, rfl, ?_⟩
         refine OP.call rfl (zAq (vs := [aC, (IV a0.Scheme)]) zJz ⟨gB, gC, trivial⟩) (zCj _ aL.Finishes (hL.rdS 7 rfl aK) a0.Scheme aM) ?_
         rintro aAr xQ ⟨rH, rI, rfl, oY⟩
         refine ⟨_, rfl, ?_⟩
         have hL := hL.pushAll oY
         simp only [lA, lB, lC, lD] at hL
         refine ⟨(hL.sl [2, 6, 7, 8] rfl), ?_⟩
         have hL := hL.sl [1, 0, 2, 3, 4, 5, 6, 7, 8] rfl
         exact zAm (listed' := (bma 18 6781)) (by kernel_rfl) (kG _ _ ⟨aR, cA, rH, rI, fU, fV, fW, fX, fY, fZ, gA, rfl, gD, gE, hL⟩)
       refine ⟨_, rfl, ?_⟩
       refine zAk (v := aA) rfl (zAd U24 rfl gD (hL.cellB 4 rfl rfl)) ?_
       refine ⟨(hL.sl [1, 5, 6, 7] rfl), ?_⟩
       exact zAm (listed' := (bma 18 7741)) (by kernel_rfl) (kH _ _ ⟨aR, cA, fU, fV, fW, fX, fY, fZ, gA, gB, gC, rfl, gE, hL⟩)
     refine DH.all (rs := [1, 6, 10, 12]) (by kernel_rfl) (by simp) ?_
     intro aAs gS
     simp only [List.mem_cons, List.not_mem_nil, or_false] at gS
     rcases gS with rfl | rfl | rfl | rfl
     · refine ⟨_, rfl, ?_⟩
       refine zAk (v := aB) rfl (zAd U24 rfl rfl (hL.cellB 4 rfl rfl)) ?_
       refine ⟨(hL.sl [1, 5, 6, 7] rfl), ?_⟩
       exact zAm (listed' := (bma 18 2623)) (by kernel_rfl) (qR _ _ ⟨bG, cD, aN, cE, cF, cG, rfl, rfl, rfl, rfl, rfl, hL⟩)
     · refine ⟨_, rfl, ?_⟩
       refine OP.call rfl (zAq (vs := [aC, (IV a0.Scheme)]) zJz ⟨rfl, rfl, trivial⟩) (zCj _ aL.Finishes (hL.rdS 7 rfl aK) a0.Scheme aM) ?_
       rintro aAt xR ⟨rJ, rK, rfl, oZ⟩
       refine ⟨_, rfl, ?_⟩
       have hL := hL.pushAll oZ
       simp only [lA, lB, lC, lD] at hL
       refine ⟨(hL.sl [2, 6, 7, 8] rfl), ?_⟩
       exact zAm (listed' := (bma 18 2685)) (by kernel_rfl) (qW _ _ ⟨rJ, rK, bG, cD, aN, cE, cF, cG, rfl, rfl, rfl, rfl, hL⟩)
     · refine ⟨_, rfl, ?_⟩
       refine zAk (v := aA) rfl (zAd U24 rfl rfl (hL.cellB 4 rfl rfl)) ?_
       refine ⟨(hL.sl [1, 5, 6, 7] rfl), ?_⟩
       exact zAm (listed' := (bma 18 3645)) (by kernel_rfl) (rB _ _ ⟨bG, cD, aN, cE, cF, cG, rfl, rfl, rfl, rfl, rfl, hL⟩)
     refine ⟨_, rfl, ?_⟩
     refine zBP s_l2.1 rfl hL U24 zAR ((congrArg Value.cells (show _ = aE from rfl)).trans (zAY (hL.rdO 0 rfl))) rfl ?_
     intro xS rL rM hL
     refine ⟨(hL.sl [1, 5, 6, 7] rfl), ?_⟩
     exact zAm (listed' := (bma 18 6717)) (by kernel_rfl) (rG _ _ ⟨rL, rM, bG, cD, aN, cE, cF, cG, rfl, rfl, rfl, rfl, rfl, hL⟩)
   intro s_l2 aAu xT aCp hJ hm aAv
   unfold zG6 at hm
   obtain ⟨aE, aJ, kT, kU, kV, kW, kX, kY, kZ, lE, gF, gG, bF, hL⟩ := hJ
   refine CSR <| OV (.bool (decide (s_l2.2 < (aL.Finishes.length : Int)))) rfl (zBE bF gG) <| ONS ?_
   refine zAn (t := decide (s_l2.2 < (aL.Finishes.length : Int))) rfl hm (fun pA hm => ?_) (fun pA hm => ?_)
   · refine zAt <| zAF <| CW.block <| CSR ?_
     obtain ⟨aI, pB, hm⟩ := zAs hm
     obtain ⟨pD, gT⟩ := zAZ pB
     obtain ⟨rN, rO, cB⟩ := zAC (hL.rdS 7 rfl aK) pD gT
     refine OV (.pointer (some ⟨rN, rO, none⟩)) rfl (zA1 U99 zAP gF bF cB) <| OV (.agg #[(IV aI.Boat), (IV aI.Code), (IV aI.Time)]) rfl (zAW (cs := [(IV aI.Boat), (IV aI.Code), (IV aI.Time)]) zFd zAP rfl rfl (zAv (hL.rdS 7 rfl aK) cB gT)) ?_
     refine zAa (zBb (cs := #[(IV 0), (IV 0), (IV 0)]) hL zAP rfl rfl ?_)
     intro xU rP hL
     refine zAa (zA9 (l := [(IV aI.Boat), (IV aI.Code), (IV aI.Time)]) (cs' := #[(IV aI.Boat), (IV aI.Code), (IV aI.Time)]) hL 0 rfl zAP rfl rfl (fc ⟨rfl, (fc ⟨rfl, (fc ⟨rfl, fz⟩)⟩)⟩) rfl (nle rfl) rfl ?_)
     intro xV hL
     refine OW.nil <| zAl <| OV aE rfl (zAo kX) <| OV (PV rP 1) rfl (zAc (fsz := 1) 0 1 1 zFd rfl zAf rfl rfl rfl) <| OV (IV aI.Code) rfl (zAd U2 rfl rfl (hL.cellB 0 rfl rfl)) ?_
     refine zAa (zBS ([aI.Code] : List Int) hL U27 zAf rfl (by decide) (by first | (simp [Instr.fill, madeCells, Value.cells, ev, upd, Flat.enc, Flat.sz]; done) | rfl | kernel_rfl) rfl rfl ?_)
     intro xW aAw aAx hL
     obtain ⟨pE, hm⟩ := zEs hm
     refine zAa (zCA (ys := ([aI.Code] : List Int)) hL 2 rfl U27 zAf rfl rfl rfl (hL.rdO 0 rfl) pE (by decide) rfl ?_)
     intro xX lF rQ hL
     refine OV lF rfl (zAb) <| OW.nil <| zAl <| OV (IV (w64 (s_l2.2 + 1))) rfl (zBe bF rfl) <| OV (IV (w64 (s_l2.2 + 1))) rfl (zAe) <| OW.nil ?_
     have hL := hL.sl [2, 3, 4, 5, 6, 7, 8, 9] rfl
     obtain rfl := oi hm
     exact ⟨_, rfl, ⟨lF, rQ, kT, kU, kV, kW, rfl, kY, kZ, lE, gF, gG, rfl, hL⟩⟩
   refine zA0 ?_
   refine zBk ?_
   obtain rfl := oi hm
   exact ⟨_, rfl, ⟨aE, aJ, kT, kU, kV, kW, kX, kY, kZ, lE, gF, gG, bF, hL⟩⟩
 refine zA0 ?_
 refine zBk ?_
 obtain rfl := oi hm
 exact ⟨_, rfl, ⟨aB, aH, aA, aF, lI, lJ, lK, gU, gV, cC, hL⟩⟩

theorem zKn (w0 : World) (a0 : Int) (a1 : Int) {r : Int} (hm : zDT a0 a1 = some r) :
    Calls Tryz.prog 77 #[(IV a0), (IV a1)] w0 fun e w' => e = .returned (IV r) ∧ Fresh w0 w' [] := by
 unfold zDT at hm
 refine zAD (args := [(IV a0), (IV a1)]) Tryz.func77 rfl rfl rfl ?_
 have hL := zAJ w0
 refine CSR <| OV (IV 0) rfl (zAb) <| ONR <| OV (IV a0) rfl (zAe) <| OV (IV (w64 (20 * a0))) rfl (zHP rfl rfl) <| OV (IV a1) rfl (zAe) <| OV (IV (w64 ((w64 (20 * a0)) * a1))) rfl (zHP rfl rfl) <| OV (IV (w64 ((w64 ((w64 (20 * a0)) * a1)) + 100))) rfl (zBe rfl rfl) <| OV (IV (w64 ((w64 ((w64 ((w64 (20 * a0)) * a1)) + 100)).tdiv 200))) rfl (zL1 rfl rfl (by decide)) <| OV (IV (w64 ((w64 ((w64 ((w64 (20 * a0)) * a1)) + 100)).tdiv 200))) rfl (zAb) <| OW.nil <| zAx ?_
 obtain rfl := oi hm
 exact RR1 rfl rfl ⟨rfl, hL.fresh 0 rfl [] (by decide) (by decide) rfl⟩

end Go.Proofs.YtmmkkcmliofknaaGreatDoor
