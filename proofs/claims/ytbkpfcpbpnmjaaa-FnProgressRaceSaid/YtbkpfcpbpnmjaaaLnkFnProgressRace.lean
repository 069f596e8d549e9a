/- Links: each Go function returns what its model computes and leaves what was there. Printed by my generator. -/
import Derived.Test.YtbkpfcpbpnmjaaaLnkFnProgressRaceA
namespace Go.Proofs.Ytbkpfcpbpnmjaaa
set_option maxRecDepth 10000
open Go Go.RowKit Go.ChangeShapes Go.WideShapes
set_option linter.unusedVariables false
set_option linter.unusedSimpArgs false

theorem M.spec_l22DrawRace_ok (w0 : World) {b1 : Nat} {v2 : Value} (a0 : Src) (h3 : rdL (fun k => k < w0.heap.size ∧ ¬ (Ent.blk b1 111 #[v2, .int .i64 a0.at_, .int .i64 a0.seed]).S k) w0 v2 a0.code) (he4 : (Ent.blk b1 111 #[v2, .int .i64 a0.at_, .int .i64 a0.seed]).H w0) {r : (Int × (List Finish)) × (Int × Int)} (hm : M.spec_l22DrawRace a0 = some r) :
    Calls Try.prog 65 #[(.pointer (some ⟨b1, 0, none⟩))] w0 fun e w' => ∃ (rv0 : Value) (rS0 : Nat → Prop), e = .returned (.tuple #[(.int .i64 r.1.1), rv0]) ∧ Mut w0 w' (Ent.blk b1 111 #[v2, .int .i64 a0.at_, .int .i64 a0.seed]).S [Ent.blk b1 111 #[v2, .int .i64 r.2.1, .int .i64 r.2.2], Ent.own 56 rS0 rv0 r.1.2] := by
  unfold M.spec_l22DrawRace at hm
  refine calls_CW (args := [(.pointer (some ⟨b1, 0, none⟩))]) Try.func65 rfl rfl rfl ?_
  have hL := Hp.startIO he4
  refine CW.seq ?_
  refine CW.regionL ?_
  refine OW.cons (OP.val (v := (.int .i64 0)) rfl (x_assign) ?_)
  refine OW.cons (OP.val (v := (.slice none 0 0)) rfl (x_assign) ?_)
  refine OW.nil ?_
  refine CW.seq ?_
  refine CW.regionL ?_
  refine OW.cons (OP.val (v := (.pointer (some ⟨b1, 0, none⟩))) rfl (x_move) ?_)
  obtain ⟨x5, hx6, hm⟩ := bndE hm
  refine OW.cons (OP.call rfl (x_call (vs := [(.pointer (some ⟨b1, 0, none⟩)), (.int .i64 6)]) Try_C84 ⟨rfl, rfl, trivial⟩) (M.spec_l01Next_ok _ (Src.mk a0.code a0.at_ a0.seed) (hL.exZ 1 0 (by decide) rfl rfl h3) (hL.get 0 rfl) 6 hx6) ?_)
  rintro e7 wd8 ⟨rfl, hF9⟩
  refine ⟨_, rfl, ?_⟩
  have hL := hL.mut 0 rfl hF9
  simp only [lA, lB, lC, lD] at hL
  refine OW.cons (OP.val (v := (.int .i64 (w64 (1 + x5.1)))) rfl (x_add rfl rfl) ?_)
  refine OW.cons (OP.val (v := (.int .i64 (w64 (1 + x5.1)))) rfl (x_assign) ?_)
  refine OW.nil ?_
  refine CW.seqJ (fun (s_j1 : Int × Int × Int) (F : Fr) (w : World) => F 0 = (.pointer (some ⟨b1, 0, none⟩)) ∧ F 4 = (.int .i64 s_j1.2.2) ∧ Hp w0 [Ent.blk b1 111 #[v2, (.int .i64 s_j1.1), (.int .i64 s_j1.2.1)], Ent.frz w0 (Ent.blk b1 111 #[v2, .int .i64 a0.at_, .int .i64 a0.seed]).S] w) (fun s_j1 => M.spec_l22DrawRace_j1 a0 s_j1 = some r) ?_ ?_
  · refine CW.seq ?_
    refine CW.regionL ?_
    refine OW.cons (OP.val (v := (.pointer (some ⟨b1, 0, none⟩))) rfl (x_move) ?_)
    obtain ⟨x358, hx359, hm⟩ := bndE hm
    refine OW.cons (OP.call rfl (x_call (vs := [(.pointer (some ⟨b1, 0, none⟩)), (.int .i64 30)]) Try_C84 ⟨rfl, rfl, trivial⟩) (M.spec_l01Next_ok _ (Src.mk a0.code x5.2.1 x5.2.2) (hL.exZ 1 0 (by decide) rfl rfl h3) (hL.get 0 rfl) 30 hx359) ?_)
    rintro e360 wd361 ⟨rfl, hF362⟩
    refine ⟨_, rfl, ?_⟩
    have hL := hL.mut 0 rfl hF362
    simp only [lA, lB, lC, lD] at hL
    refine OW.cons (OP.val (v := (.bool (x358.1 == 0))) rfl (x_eql rfl rfl) ?_)
    refine OW.nil ?_
    refine CW.condM (t := x358.1 == 0) rfl hm (fun hb363 hm => ?_) (fun hb363 hm => ?_)
    · refine CW.regionL ?_
      refine OW.cons (S_lit ([0, 16, 17] : List Int) hL Try.underlying35 Try_T2 rfl (by decide) (by first | (simp [Instr.fill, madeCells, Value.cells, ev, upd, Flat.enc, Flat.sz]; done) | rfl | kernel_rfl) rfl rfl ?_)
      intro wd364 v365 S366 hL
      refine OW.cons (OP.val (v := (.pointer (some ⟨b1, 0, none⟩))) rfl (x_move) ?_)
      obtain ⟨x367, hx368, hm⟩ := bndE hm
      refine OW.cons (OP.call rfl (x_call (vs := [(.pointer (some ⟨b1, 0, none⟩)), (.int .i64 3)]) Try_C84 ⟨rfl, rfl, trivial⟩) (M.spec_l01Next_ok _ (Src.mk a0.code x358.2.1 x358.2.2) (hL.exZ 2 1 (by decide) rfl rfl h3) (hL.get 1 rfl) 3 hx368) ?_)
      rintro e369 wd370 ⟨rfl, hF371⟩
      refine ⟨_, rfl, ?_⟩
      have hL := hL.mut 1 rfl hF371
      simp only [lA, lB, lC, lD] at hL
      obtain ⟨x372, ha373, hm⟩ := bndE hm
      obtain ⟨hz374, ha378⟩ := idxE ha373
      obtain ⟨b375, q376, hix377⟩ := rdL_ix (hL.rdO 0 rfl) hz374 ha378
      refine OW.cons (OP.val (v := (.pointer (some ⟨b375, q376, none⟩))) rfl (x_ix Try.underlying35 Try_T2 rfl rfl hix377) ?_)
      refine OW.cons (OP.val (v := (.int .i64 x372)) rfl (x_load1 Try.underlying2 rfl rfl (rdF_cells (hL.rdO 0 rfl) hix377 ha378 0 _ rfl)) ?_)
      refine OW.cons (OP.val (v := (.int .i64 x372)) rfl (x_assign) ?_)
      refine OW.nil ?_
      have hL := hL.sel [1, 2] (by decide) rfl
      exact ⟨(x367.2.1, x367.2.2, x372), hm, ⟨rfl, rfl, hL⟩⟩
    · refine CW.skip ?_
      exact ⟨(x358.2.1, x358.2.2, w64 (1 + x5.1)), hm, ⟨rfl, rfl, hL⟩⟩
  · intro s_j1 F31 wd32 hJ hm
    unfold M.spec_l22DrawRace_j1 at hm
    obtain ⟨f33, f34, hL⟩ := hJ
    refine CW.seq ?_
    refine CW.regionL ?_
    refine OW.cons (S_lit ([] : List Finish) hL Try.underlying28 Try_T56 rfl (by decide) (by first | (simp [Instr.fill, madeCells, Value.cells, ev, upd, Flat.enc, Flat.sz]; done) | rfl | kernel_rfl) rfl rfl ?_)
    intro wd35 v36 S37 hL
    refine OW.cons (OP.val (v := v36) rfl (x_assign) ?_)
    refine OW.nil ?_
    refine CW.seq ?_
    refine CW.seq ?_
    refine CW.regionL ?_
    refine OW.cons (OP.val (v := (.int .i64 0)) rfl (x_assign) ?_)
    refine OW.nil ?_
    obtain ⟨o138, ho139, hm⟩ := bndE hm
    refine CW.loopB (fun (s_l1 : Int × Int × (List Finish) × Int) (F : Fr) (w : World) => ∃ (v134 : Value) (S135 : Nat → Prop), F 0 = (.pointer (some ⟨b1, 0, none⟩)) ∧ F 4 = (.int .i64 s_j1.2.2) ∧ F 5 = v134 ∧ F 6 = (.int .i64 s_l1.2.2.2) ∧ Hp w0 [Ent.own 56 S135 v134 s_l1.2.2.1, Ent.blk b1 111 #[v2, (.int .i64 s_l1.1), (.int .i64 s_l1.2.1)], Ent.frz w0 (Ent.blk b1 111 #[v2, .int .i64 a0.at_, .int .i64 a0.seed]).S] w) (fun o => outc o (fun x => some x) (fun s => M.spec_l22DrawRace_a1 a0 s_j1 s) = some r) ho139 hm ⟨v36, S37, f33, f34, rfl, rfl, hL⟩ ?_ ?_
    · intro s_l1 F140 wd141 hJ hm
      have hm := outcE hm
      have hm : M.spec_l22DrawRace_a1 a0 s_j1 s_l1 = some r := hm
      unfold M.spec_l22DrawRace_a1 at hm
      obtain ⟨v134, S135, f142, f143, f144, f145, hL⟩ := hJ
      refine CW.seqJ (fun (s_j2 : Int × Int × (List Finish)) (F : Fr) (w : World) => ∃ (S223 : Nat → Prop), F 4 = (.int .i64 s_j1.2.2) ∧ F 5 = v134 ∧ Hp w0 [Ent.own 56 S223 v134 s_j2.2.2, Ent.blk b1 111 #[v2, (.int .i64 s_j2.1), (.int .i64 s_j2.2.1)], Ent.frz w0 (Ent.blk b1 111 #[v2, .int .i64 a0.at_, .int .i64 a0.seed]).S] w) (fun s_j2 => M.spec_l22DrawRace_j2 s_j1 s_j2 = some r) ?_ ?_
      · refine CW.seq ?_
        refine CW.regionL ?_
        refine OW.cons (OP.val (v := v134) rfl (x_mv f144) ?_)
        refine OW.cons (OP.val (v := (.int .i64 (s_l1.2.2.1.length : Int))) rfl (x_lenR Try.underlying28 rfl (hL.rdO 0 rfl)) ?_)
        refine OW.cons (OP.val (v := (.bool (decide (0 < (s_l1.2.2.1.length : Int))))) rfl (x_gtr rfl rfl) ?_)
        refine OW.nil ?_
        refine CW.condM (t := decide (0 < (s_l1.2.2.1.length : Int))) rfl hm (fun hb228 hm => ?_) (fun hb228 hm => ?_)
        · refine CW.seq ?_
          refine CW.regionL ?_
          refine OW.cons (OP.val (v := (.pointer (some ⟨b1, 0, none⟩))) rfl (x_mv f142) ?_)
          obtain ⟨x229, hx230, hm⟩ := bndE hm
          refine OW.cons (OP.call rfl (x_call (vs := [(.pointer (some ⟨b1, 0, none⟩)), (.int .i64 30)]) Try_C84 ⟨rfl, rfl, trivial⟩) (M.spec_l01Next_ok _ (Src.mk a0.code s_l1.1 s_l1.2.1) (hL.exZ 2 1 (by decide) rfl rfl h3) (hL.get 1 rfl) 30 hx230) ?_)
          rintro e231 wd232 ⟨rfl, hF233⟩
          refine ⟨_, rfl, ?_⟩
          have hL := hL.mut 1 rfl hF233
          simp only [lA, lB, lC, lD] at hL
          refine OW.nil ?_
          refine CW.blockJ (fun (s_j3 : Int × Int × (List Finish)) (F : Fr) (w : World) => ∃ (S267 : Nat → Prop), F 4 = (.int .i64 s_j1.2.2) ∧ F 5 = v134 ∧ Hp w0 [Ent.own 56 S267 v134 s_j3.2.2, Ent.blk b1 111 #[v2, (.int .i64 s_j3.1), (.int .i64 s_j3.2.1)], Ent.frz w0 (Ent.blk b1 111 #[v2, .int .i64 a0.at_, .int .i64 a0.seed]).S] w) (fun s_j3 => M.spec_l22DrawRace_j3 s_j1 s_j3 = some r) ?_ ?_
          · refine CW.seq ?_
            refine CW.regionL ?_
            refine OW.cons (OP.val (v := (.bool (x229.1 == 0))) rfl (x_eql rfl rfl) ?_)
            refine OW.cons (OP.val (v := (.bool (x229.1 == 0))) rfl (x_assign) ?_)
            refine OW.nil ?_
            refine CW.condM (t := x229.1 == 0) rfl hm (fun hb272 hm => ?_) (fun hb272 hm => ?_)
            · refine CW.regionL ?_
              refine OW.cons (OP.val (v := v134) rfl (x_mv f144) ?_)
              obtain ⟨x273, ha274, hm⟩ := bndE hm
              obtain ⟨hz275, ha279⟩ := idxE ha274
              obtain ⟨b276, q277, hix278⟩ := rdL_ix (hL.rdO 0 rfl) hz275 ha279
              refine OW.cons (OP.val (v := (.pointer (some ⟨b276, q277, none⟩))) rfl (x_ix Try.underlying28 Try_T56 rfl rfl hix278) ?_)
              refine OW.cons (OP.val (v := (.pointer (some ⟨b276, q277, none⟩))) rfl (x_fieldAddr (fsz := 1) q277 0 q277 Try.underlying56 rfl Try_T2 rfl rfl rfl) ?_)
              refine OW.cons (S_storeX (j := 0) (Finish.mk 1 x273.Code x273.Time) hL 0 rfl Try_T2 hix278 ha279 rfl rfl rfl rfl rfl rfl ?_)
              intro wd280 hL
              refine OW.nil ?_
              exact ⟨(x229.2.1, x229.2.2, s_l1.2.2.1.set (0 : Int).toNat (Finish.mk 1 x273.Code x273.Time)), hm, ⟨S135, f143, f144, hL⟩⟩
            · refine CW.seq ?_
              refine CW.regionL ?_
              refine OW.cons (OP.val (v := (.bool (x229.1 == 1))) rfl (x_eql rfl rfl) ?_)
              refine OW.cons (OP.val (v := (.bool (x229.1 == 1))) rfl (x_assign) ?_)
              refine OW.nil ?_
              refine CW.condM (t := x229.1 == 1) rfl hm (fun hb281 hm => ?_) (fun hb281 hm => ?_)
              · refine CW.regionL ?_
                refine OW.cons (OP.val (v := v134) rfl (x_mv f144) ?_)
                refine OW.cons (S_lit ([0, 1000000000, 1000000001] : List Int) hL Try.underlying35 Try_T2 rfl (by decide) (by first | (simp [Instr.fill, madeCells, Value.cells, ev, upd, Flat.enc, Flat.sz]; done) | rfl | kernel_rfl) rfl rfl ?_)
                intro wd282 v283 S284 hL
                refine OW.cons (OP.val (v := (.pointer (some ⟨b1, 0, none⟩))) rfl (x_mv f142) ?_)
                obtain ⟨x285, hx286, hm⟩ := bndE hm
                refine OW.cons (OP.call rfl (x_call (vs := [(.pointer (some ⟨b1, 0, none⟩)), (.int .i64 3)]) Try_C84 ⟨rfl, rfl, trivial⟩) (M.spec_l01Next_ok _ (Src.mk a0.code x229.2.1 x229.2.2) (hL.exZ 3 2 (by decide) rfl rfl h3) (hL.get 2 rfl) 3 hx286) ?_)
                rintro e287 wd288 ⟨rfl, hF289⟩
                refine ⟨_, rfl, ?_⟩
                have hL := hL.mut 2 rfl hF289
                simp only [lA, lB, lC, lD] at hL
                obtain ⟨x290, ha291, hm⟩ := bndE hm
                obtain ⟨hz292, ha296⟩ := idxE ha291
                obtain ⟨b293, q294, hix295⟩ := rdL_ix (hL.rdO 0 rfl) hz292 ha296
                refine OW.cons (OP.val (v := (.pointer (some ⟨b293, q294, none⟩))) rfl (x_ix Try.underlying35 Try_T2 rfl rfl hix295) ?_)
                refine OW.cons (OP.val (v := (.int .i64 x290)) rfl (x_load1 Try.underlying2 rfl rfl (rdF_cells (hL.rdO 0 rfl) hix295 ha296 0 _ rfl)) ?_)
                obtain ⟨x297, ha298, hm⟩ := bndE hm
                obtain ⟨hz299, ha303⟩ := idxE ha298
                obtain ⟨b300, q301, hix302⟩ := rdL_ix (hL.rdO 1 rfl) hz299 ha303
                refine OW.cons (OP.val (v := (.pointer (some ⟨b300, q301, none⟩))) rfl (x_ix Try.underlying28 Try_T56 rfl rfl hix302) ?_)
                refine OW.cons (OP.val (v := (.pointer (some ⟨b300, q301 + 2, none⟩))) rfl (x_fieldAddr (fsz := 1) q301 2 (q301 + 2) Try.underlying56 rfl Try_T2 rfl rfl rfl) ?_)
                refine OW.cons (S_storeX (j := 2) (Finish.mk x297.Boat x297.Code x290) hL 1 rfl Try_T2 hix302 ha303 rfl rfl rfl rfl rfl rfl ?_)
                intro wd304 hL
                refine OW.nil ?_
                have hL := hL.sel [1, 2, 3] (by decide) rfl
                exact ⟨(x285.2.1, x285.2.2, s_l1.2.2.1.set (0 : Int).toNat (Finish.mk x297.Boat x297.Code x290)), hm, ⟨S135, f143, f144, hL⟩⟩
              · refine CW.skip ?_
                exact ⟨(x229.2.1, x229.2.2, s_l1.2.2.1), hm, ⟨S135, f143, f144, hL⟩⟩
          · intro s_j3 F268 wd269 hJ hm
            unfold M.spec_l22DrawRace_j3 at hm
            obtain ⟨S267, f270, f271, hL⟩ := hJ
            exact ⟨(s_j3.1, s_j3.2.1, s_j3.2.2), hm, ⟨S267, f270, f271, hL⟩⟩
        · refine CW.skip ?_
          exact ⟨(s_l1.1, s_l1.2.1, s_l1.2.2.1), hm, ⟨S135, f143, f144, hL⟩⟩
      · intro s_j2 F224 wd225 hJ hm
        unfold M.spec_l22DrawRace_j2 at hm
        obtain ⟨S223, f226, f227, hL⟩ := hJ
        refine CW.seq ?_
        refine CW.regionL ?_
        refine OW.cons (OP.val (v := (.int .i64 s_j1.2.2)) rfl (x_mv f226) ?_)
        refine OW.cons (OP.val (v := v134) rfl (x_mv f227) ?_)
        refine OW.cons (OP.val (v := (.int .i64 s_j1.2.2)) rfl (x_assign) ?_)
        refine OW.cons (OP.val (v := v134) rfl (x_assign) ?_)
        refine OW.nil ?_
        refine CW.ret ?_
        obtain rfl := Option.some.inj hm
        exact RR2 rfl rfl rfl ⟨v134, S223, rfl, hL.mutOut 2 rfl [1, 0] (by decide) (by decide) rfl⟩
    · intro s_l1 F305 wd306 t136 hJ hm hr137
      unfold M.spec_l22DrawRace_l1 at hm
      obtain ⟨v134, S135, f307, f308, f309, f310, hL⟩ := hJ
      refine CW.seq ?_
      refine CW.seq ?_
      refine CW.regionL ?_
      refine OW.cons (OP.val (v := (.int .i64 s_l1.2.2.2)) rfl (x_mv f310) ?_)
      refine OW.cons (OP.val (v := (.int .i64 s_j1.2.2)) rfl (x_mv f308) ?_)
      refine OW.cons (OP.val (v := (.bool (decide (s_l1.2.2.2 < s_j1.2.2)))) rfl (x_lss rfl rfl) ?_)
      refine OW.nil ?_
      refine CW.condM (t := decide (s_l1.2.2.2 < s_j1.2.2)) rfl hm (fun hb311 hm => ?_) (fun hb311 hm => ?_)
      · refine CW.skip ?_
        refine CW.seq ?_
        refine CW.block ?_
        refine CW.seq ?_
        refine CW.regionL ?_
        refine OW.cons (OP.val (v := (.int .i64 s_l1.2.2.2)) rfl (x_mv f310) ?_)
        refine OW.cons (OP.val (v := (.pointer (some ⟨b1, 0, none⟩))) rfl (x_mv f307) ?_)
        obtain ⟨x312, hx313, hm⟩ := bndE hm
        refine OW.cons (OP.call rfl (x_call (vs := [(.pointer (some ⟨b1, 0, none⟩)), (.int .i64 20000)]) Try_C84 ⟨rfl, rfl, trivial⟩) (M.spec_l01Next_ok _ (Src.mk a0.code s_l1.1 s_l1.2.1) (hL.exZ 2 1 (by decide) rfl rfl h3) (hL.get 1 rfl) 20000 hx313) ?_)
        rintro e314 wd315 ⟨rfl, hF316⟩
        refine ⟨_, rfl, ?_⟩
        have hL := hL.mut 1 rfl hF316
        simp only [lA, lB, lC, lD] at hL
        refine OW.cons (OP.val (v := (.int .i64 (w64 (50000 + x312.1)))) rfl (x_add rfl rfl) ?_)
        refine OW.cons (OP.val (v := (.agg #[(.int .i64 s_l1.2.2.2), (.int .i64 0), (.int .i64 (w64 (50000 + x312.1)))])) rfl (x_build Try_B56 (ps := [(0, (.int .i64 s_l1.2.2.2)), (2, (.int .i64 (w64 (50000 + x312.1))))]) ⟨⟨rfl, rfl⟩, ⟨rfl, rfl⟩, trivial⟩ (by simp [Instr.fill, cells_int, cells_bool, cells_string, cells_agg, cells_slice, cells_pointer])) ?_)
        refine OW.cons (S_alloc (cs := #[(.int .i64 0), (.int .i64 0), (.int .i64 0)]) hL Try_T56 rfl rfl ?_)
        intro wd317 b318 hL
        refine OW.cons (S_storeN (l := [(.int .i64 s_l1.2.2.2), (.int .i64 0), (.int .i64 (w64 (50000 + x312.1)))]) (cs' := #[(.int .i64 s_l1.2.2.2), (.int .i64 0), (.int .i64 (w64 (50000 + x312.1)))]) hL 0 rfl Try_T56 rfl rfl (List.forall_mem_cons.2 ⟨rfl, (List.forall_mem_cons.2 ⟨rfl, (List.forall_mem_cons.2 ⟨rfl, (fun _ h => by cases h)⟩)⟩)⟩) rfl (Nat.le_of_ble_eq_true rfl) rfl ?_)
        intro wd319 hL
        refine OW.nil ?_
        refine CW.seqJ (fun (s_j4 : Int × Int × Int × Int) (F : Fr) (w : World) => F 0 = (.pointer (some ⟨b1, 0, none⟩)) ∧ F 4 = (.int .i64 s_j1.2.2) ∧ F 5 = v134 ∧ F 6 = (.int .i64 s_l1.2.2.2) ∧ F 7 = (.pointer (some ⟨b318, 0, none⟩)) ∧ Hp w0 [Ent.blk b318 56 #[(.int .i64 s_l1.2.2.2), (.int .i64 s_j4.2.2.1), (.int .i64 s_j4.2.2.2)], Ent.own 56 S135 v134 s_l1.2.2.1, Ent.blk b1 111 #[v2, (.int .i64 s_j4.1), (.int .i64 s_j4.2.1)], Ent.frz w0 (Ent.blk b1 111 #[v2, .int .i64 a0.at_, .int .i64 a0.seed]).S] w) (fun s_j4 => M.spec_l22DrawRace_j4 s_l1 s_j4 = some t136) ?_ ?_
        · refine CW.seq ?_
          refine CW.regionL ?_
          refine OW.cons (OP.val (v := (.pointer (some ⟨b1, 0, none⟩))) rfl (x_mv f307) ?_)
          obtain ⟨x346, hx347, hm⟩ := bndE hm
          refine OW.cons (OP.call rfl (x_call (vs := [(.pointer (some ⟨b1, 0, none⟩)), (.int .i64 6)]) Try_C84 ⟨rfl, rfl, trivial⟩) (M.spec_l01Next_ok _ (Src.mk a0.code x312.2.1 x312.2.2) (hL.exZ 3 2 (by decide) rfl rfl h3) (hL.get 2 rfl) 6 hx347) ?_)
          rintro e348 wd349 ⟨rfl, hF350⟩
          refine ⟨_, rfl, ?_⟩
          have hL := hL.mut 2 rfl hF350
          simp only [lA, lB, lC, lD] at hL
          refine OW.cons (OP.val (v := (.bool (x346.1 == 0))) rfl (x_eql rfl rfl) ?_)
          refine OW.nil ?_
          refine CW.condM (t := x346.1 == 0) rfl hm (fun hb351 hm => ?_) (fun hb351 hm => ?_)
          · refine CW.regionL ?_
            refine OW.cons (OP.val (v := (.int .i64 s_l1.2.2.2)) rfl (x_mv f310) ?_)
            refine OW.cons (OP.val (v := (.pointer (some ⟨b1, 0, none⟩))) rfl (x_mv f307) ?_)
            obtain ⟨x352, hx353, hm⟩ := bndE hm
            refine OW.cons (OP.call rfl (x_call (vs := [(.pointer (some ⟨b1, 0, none⟩)), (.int .i64 9)]) Try_C84 ⟨rfl, rfl, trivial⟩) (M.spec_l01Next_ok _ (Src.mk a0.code x346.2.1 x346.2.2) (hL.exZ 3 2 (by decide) rfl rfl h3) (hL.get 2 rfl) 9 hx353) ?_)
            rintro e354 wd355 ⟨rfl, hF356⟩
            refine ⟨_, rfl, ?_⟩
            have hL := hL.mut 2 rfl hF356
            simp only [lA, lB, lC, lD] at hL
            refine OW.cons (OP.val (v := (.int .i64 (w64 (1 + x352.1)))) rfl (x_add rfl rfl) ?_)
            refine OW.cons (OP.val (v := (.agg #[(.int .i64 s_l1.2.2.2), (.int .i64 (w64 (1 + x352.1))), (.int .i64 0)])) rfl (x_build Try_B56 (ps := [(0, (.int .i64 s_l1.2.2.2)), (1, (.int .i64 (w64 (1 + x352.1))))]) ⟨⟨rfl, rfl⟩, ⟨rfl, rfl⟩, trivial⟩ (by simp [Instr.fill, cells_int, cells_bool, cells_string, cells_agg, cells_slice, cells_pointer])) ?_)
            refine OW.cons (S_storeN (l := [(.int .i64 s_l1.2.2.2), (.int .i64 (w64 (1 + x352.1))), (.int .i64 0)]) (cs' := #[(.int .i64 s_l1.2.2.2), (.int .i64 (w64 (1 + x352.1))), (.int .i64 0)]) hL 0 rfl Try_T56 rfl rfl (List.forall_mem_cons.2 ⟨rfl, (List.forall_mem_cons.2 ⟨rfl, (List.forall_mem_cons.2 ⟨rfl, (fun _ h => by cases h)⟩)⟩)⟩) rfl (Nat.le_of_ble_eq_true rfl) rfl ?_)
            intro wd357 hL
            refine OW.nil ?_
            exact ⟨(x352.2.1, x352.2.2, w64 (1 + x352.1), 0), hm, ⟨f307, f308, f309, f310, rfl, hL⟩⟩
          · refine CW.skip ?_
            exact ⟨(x346.2.1, x346.2.2, 0, w64 (50000 + x312.1)), hm, ⟨f307, f308, f309, f310, rfl, hL⟩⟩
        · intro s_j4 F332 wd333 hJ hm
          unfold M.spec_l22DrawRace_j4 at hm
          obtain ⟨f334, f335, f336, f337, f338, hL⟩ := hJ
          refine CW.regionL ?_
          refine OW.cons (OP.val (v := v134) rfl (x_mv f336) ?_)
          refine OW.cons (OP.val (v := (.agg #[(.int .i64 s_l1.2.2.2), (.int .i64 s_j4.2.2.1), (.int .i64 s_j4.2.2.2)])) rfl (x_loadN (cs := [(.int .i64 s_l1.2.2.2), (.int .i64 s_j4.2.2.1), (.int .i64 s_j4.2.2.2)]) Try.underlying56 Try_T56 rfl f338 (hL.cellsB 0 rfl (o := 0) (l := [(.int .i64 s_l1.2.2.2), (.int .i64 s_j4.2.2.1), (.int .i64 s_j4.2.2.2)]) (by intro j u hj; exact (by simpa using hj)))) ?_)
          refine OW.cons (S_lit ([(Finish.mk s_l1.2.2.2 s_j4.2.2.1 s_j4.2.2.2)] : List Finish) hL Try.underlying28 Try_T56 rfl (by decide) (by first | (simp [Instr.fill, madeCells, Value.cells, ev, upd, Flat.enc, Flat.sz]; done) | rfl | kernel_rfl) rfl rfl ?_)
          intro wd339 v340 S341 hL
          obtain ⟨hc345, hm⟩ := chkE hm
          refine OW.cons (S_append (ys := ([(Finish.mk s_l1.2.2.2 s_j4.2.2.1 s_j4.2.2.2)] : List Finish)) hL 2 rfl Try.underlying28 Try_T56 rfl rfl rfl (hL.rdO 0 rfl) hc345 (by decide) rfl ?_)
          intro wd342 v343 S344 hL
          refine OW.cons (OP.val (v := v343) rfl (x_assign) ?_)
          refine OW.nil ?_
          refine CW.regionL ?_
          refine OW.cons (OP.val (v := (.int .i64 s_l1.2.2.2)) rfl (x_mv f337) ?_)
          refine OW.cons (OP.val (v := (.int .i64 (w64 (s_l1.2.2.2 + 1)))) rfl (x_add rfl rfl) ?_)
          refine OW.cons (OP.val (v := (.int .i64 (w64 (s_l1.2.2.2 + 1)))) rfl (x_assign) ?_)
          refine OW.nil ?_
          have hL := hL.sel [2, 3, 4] (by decide) rfl
          obtain rfl := Option.some.inj hm
          exact ⟨_, rfl, ⟨v343, S344, f334, f335, rfl, rfl, hL⟩⟩
      · refine CW.exit ?_
        refine XJ.hit ?_
        obtain rfl := Option.some.inj hm
        exact ⟨_, rfl, ⟨v134, S135, f307, f308, f309, f310, hL⟩⟩

theorem M.spec_l22DrawFactor_ok (w0 : World) {b1 : Nat} {v2 : Value} (a0 : Src) (h3 : rdL (fun k => k < w0.heap.size ∧ ¬ (Ent.blk b1 111 #[v2, .int .i64 a0.at_, .int .i64 a0.seed]).S k) w0 v2 a0.code) (he4 : (Ent.blk b1 111 #[v2, .int .i64 a0.at_, .int .i64 a0.seed]).H w0) {r : (Int) × (Int × Int)} (hm : M.spec_l22DrawFactor a0 = some r) :
    Calls Try.prog 85 #[(.pointer (some ⟨b1, 0, none⟩))] w0 fun e w' => e = .returned (.int .i64 r.1) ∧ Mut w0 w' (Ent.blk b1 111 #[v2, .int .i64 a0.at_, .int .i64 a0.seed]).S [Ent.blk b1 111 #[v2, .int .i64 r.2.1, .int .i64 r.2.2]] := by
  unfold M.spec_l22DrawFactor at hm
  refine calls_CW (args := [(.pointer (some ⟨b1, 0, none⟩))]) Try.func85 rfl rfl rfl ?_
  have hL := Hp.startIO he4
  refine CW.seq ?_
  refine CW.regionL ?_
  refine OW.cons (OP.val (v := (.int .i64 0)) rfl (x_assign) ?_)
  refine OW.nil ?_
  refine CW.seq ?_
  refine CW.seq ?_
  refine CW.regionL ?_
  refine OW.cons (OP.val (v := (.pointer (some ⟨b1, 0, none⟩))) rfl (x_move) ?_)
  obtain ⟨x5, hx6, hm⟩ := bndE hm
  refine OW.cons (OP.call rfl (x_call (vs := [(.pointer (some ⟨b1, 0, none⟩)), (.int .i64 24)]) Try_C84 ⟨rfl, rfl, trivial⟩) (M.spec_l01Next_ok _ (Src.mk a0.code a0.at_ a0.seed) (hL.exZ 1 0 (by decide) rfl rfl h3) (hL.get 0 rfl) 24 hx6) ?_)
  rintro e7 wd8 ⟨rfl, hF9⟩
  refine ⟨_, rfl, ?_⟩
  have hL := hL.mut 0 rfl hF9
  simp only [lA, lB, lC, lD] at hL
  refine OW.cons (OP.val (v := (.bool (x5.1 == 0))) rfl (x_eql rfl rfl) ?_)
  refine OW.nil ?_
  refine CW.condM (t := x5.1 == 0) rfl hm (fun hb10 hm => ?_) (fun hb10 hm => ?_)
  · refine CW.seq ?_
    refine CW.regionL ?_
    refine OW.cons (S_lit ([0, 1, 3000, 3001] : List Int) hL Try.underlying35 Try_T2 rfl (by decide) (by first | (simp [Instr.fill, madeCells, Value.cells, ev, upd, Flat.enc, Flat.sz]; done) | rfl | kernel_rfl) rfl rfl ?_)
    intro wd11 v12 S13 hL
    refine OW.cons (OP.val (v := (.pointer (some ⟨b1, 0, none⟩))) rfl (x_move) ?_)
    obtain ⟨x14, hx15, hm⟩ := bndE hm
    refine OW.cons (OP.call rfl (x_call (vs := [(.pointer (some ⟨b1, 0, none⟩)), (.int .i64 4)]) Try_C84 ⟨rfl, rfl, trivial⟩) (M.spec_l01Next_ok _ (Src.mk a0.code x5.2.1 x5.2.2) (hL.exZ 2 1 (by decide) rfl rfl h3) (hL.get 1 rfl) 4 hx15) ?_)
    rintro e16 wd17 ⟨rfl, hF18⟩
    refine ⟨_, rfl, ?_⟩
    have hL := hL.mut 1 rfl hF18
    simp only [lA, lB, lC, lD] at hL
    obtain ⟨x19, ha20, hm⟩ := bndE hm
    obtain ⟨hz21, ha25⟩ := idxE ha20
    obtain ⟨b22, q23, hix24⟩ := rdL_ix (hL.rdO 0 rfl) hz21 ha25
    refine OW.cons (OP.val (v := (.pointer (some ⟨b22, q23, none⟩))) rfl (x_ix Try.underlying35 Try_T2 rfl rfl hix24) ?_)
    refine OW.cons (OP.val (v := (.int .i64 x19)) rfl (x_load1 Try.underlying2 rfl rfl (rdF_cells (hL.rdO 0 rfl) hix24 ha25 0 _ rfl)) ?_)
    refine OW.cons (OP.val (v := (.int .i64 x19)) rfl (x_assign) ?_)
    refine OW.nil ?_
    refine CW.ret ?_
    obtain rfl := Option.some.inj hm
    exact RR1 rfl rfl ⟨rfl, hL.mutOut 2 rfl [1] (by decide) (by decide) rfl⟩
  · refine CW.skip ?_
    refine CW.seq ?_
    refine CW.regionL ?_
    refine OW.cons (OP.val (v := (.pointer (some ⟨b1, 0, none⟩))) rfl (x_move) ?_)
    obtain ⟨x26, hx27, hm⟩ := bndE hm
    refine OW.cons (OP.call rfl (x_call (vs := [(.pointer (some ⟨b1, 0, none⟩)), (.int .i64 700)]) Try_C84 ⟨rfl, rfl, trivial⟩) (M.spec_l01Next_ok _ (Src.mk a0.code x5.2.1 x5.2.2) (hL.exZ 1 0 (by decide) rfl rfl h3) (hL.get 0 rfl) 700 hx27) ?_)
    rintro e28 wd29 ⟨rfl, hF30⟩
    refine ⟨_, rfl, ?_⟩
    have hL := hL.mut 0 rfl hF30
    simp only [lA, lB, lC, lD] at hL
    refine OW.cons (OP.val (v := (.int .i64 (w64 (700 + x26.1)))) rfl (x_add rfl rfl) ?_)
    refine OW.cons (OP.val (v := (.int .i64 (w64 (700 + x26.1)))) rfl (x_assign) ?_)
    refine OW.nil ?_
    refine CW.ret ?_
    obtain rfl := Option.some.inj hm
    exact RR1 rfl rfl ⟨rfl, hL.mutOut 1 rfl [0] (by decide) (by decide) rfl⟩

theorem M.spec_l22DrawRatings_ok (w0 : World) {b1 : Nat} {v2 : Value} (a0 : Src) (h3 : rdL (fun k => k < w0.heap.size ∧ ¬ (Ent.blk b1 111 #[v2, .int .i64 a0.at_, .int .i64 a0.seed]).S k) w0 v2 a0.code) (he4 : (Ent.blk b1 111 #[v2, .int .i64 a0.at_, .int .i64 a0.seed]).H w0) (a1 : Int) {r : ((List Rating)) × (Int × Int)} (hm : M.spec_l22DrawRatings a0 a1 = some r) :
    Calls Try.prog 66 #[(.pointer (some ⟨b1, 0, none⟩)), (.int .i64 a1)] w0 fun e w' => ∃ (rv0 : Value) (rS0 : Nat → Prop), e = .returned rv0 ∧ Mut w0 w' (Ent.blk b1 111 #[v2, .int .i64 a0.at_, .int .i64 a0.seed]).S [Ent.blk b1 111 #[v2, .int .i64 r.2.1, .int .i64 r.2.2], Ent.own 61 rS0 rv0 r.1] := by
  unfold M.spec_l22DrawRatings at hm
  refine calls_CW (args := [(.pointer (some ⟨b1, 0, none⟩)), (.int .i64 a1)]) Try.func66 rfl rfl rfl ?_
  have hL := Hp.startIO he4
  refine CW.seq ?_
  refine CW.regionL ?_
  refine OW.cons (OP.val (v := (.slice none 0 0)) rfl (x_assign) ?_)
  refine OW.nil ?_
  refine CW.seq ?_
  refine CW.regionL ?_
  refine OW.cons (S_lit ([] : List Rating) hL Try.underlying30 Try_T61 rfl (by decide) (by first | (simp [Instr.fill, madeCells, Value.cells, ev, upd, Flat.enc, Flat.sz]; done) | rfl | kernel_rfl) rfl rfl ?_)
  intro wd5 v6 S7 hL
  refine OW.cons (OP.val (v := v6) rfl (x_assign) ?_)
  refine OW.nil ?_
  refine CW.seq ?_
  refine CW.seq ?_
  refine CW.regionL ?_
  refine OW.cons (OP.val (v := (.int .i64 0)) rfl (x_assign) ?_)
  refine OW.nil ?_
  obtain ⟨o58, ho59, hm⟩ := bndE hm
  refine CW.loopB (fun (s_l1 : Int × Int × (List Rating) × Int) (F : Fr) (w : World) => ∃ (v54 : Value) (S55 : Nat → Prop), F 0 = (.pointer (some ⟨b1, 0, none⟩)) ∧ F 1 = (.int .i64 a1) ∧ F 5 = v54 ∧ F 6 = (.int .i64 s_l1.2.2.2) ∧ Hp w0 [Ent.own 61 S55 v54 s_l1.2.2.1, Ent.blk b1 111 #[v2, (.int .i64 s_l1.1), (.int .i64 s_l1.2.1)], Ent.frz w0 (Ent.blk b1 111 #[v2, .int .i64 a0.at_, .int .i64 a0.seed]).S] w) (fun o => outc o (fun x => some x) (fun s => M.spec_l22DrawRatings_a1 a0 s) = some r) ho59 hm ⟨v6, S7, rfl, rfl, rfl, rfl, hL⟩ ?_ ?_
  · intro s_l1 F60 wd61 hJ hm
    have hm := outcE hm
    have hm : M.spec_l22DrawRatings_a1 a0 s_l1 = some r := hm
    unfold M.spec_l22DrawRatings_a1 at hm
    obtain ⟨v54, S55, f62, f63, f64, f65, hL⟩ := hJ
    refine CW.seqJ (fun (s_j1 : Int × Int × (List Rating)) (F : Fr) (w : World) => ∃ (S91 : Nat → Prop), F 5 = v54 ∧ Hp w0 [Ent.own 61 S91 v54 s_j1.2.2, Ent.blk b1 111 #[v2, (.int .i64 s_j1.1), (.int .i64 s_j1.2.1)], Ent.frz w0 (Ent.blk b1 111 #[v2, .int .i64 a0.at_, .int .i64 a0.seed]).S] w) (fun s_j1 => M.spec_l22DrawRatings_j1 s_j1 = some r) ?_ ?_
    · refine CW.seqJ (fun (s_j2 : Int × Int × Bool) (F : Fr) (w : World) => F 5 = v54 ∧ F 31 = (.bool s_j2.2.2) ∧ Hp w0 [Ent.own 61 S55 v54 s_l1.2.2.1, Ent.blk b1 111 #[v2, (.int .i64 s_j2.1), (.int .i64 s_j2.2.1)], Ent.frz w0 (Ent.blk b1 111 #[v2, .int .i64 a0.at_, .int .i64 a0.seed]).S] w) (fun s_j2 => M.spec_l22DrawRatings_j2 s_l1 s_j2 = some r) ?_ ?_
      · refine CW.regionL ?_
        refine OW.cons (OP.val (v := v54) rfl (x_mv f64) ?_)
        refine OW.cons (OP.val (v := (.int .i64 (s_l1.2.2.1.length : Int))) rfl (x_lenR Try.underlying30 rfl (hL.rdO 0 rfl)) ?_)
        refine OW.cons (OP.val (v := (.bool (decide (0 < (s_l1.2.2.1.length : Int))))) rfl (x_gtr rfl rfl) ?_)
        refine OW.cons (OP.val (v := (.bool (decide (0 < (s_l1.2.2.1.length : Int))))) rfl (x_move) ?_)
        refine ifB_elim hm (fun hb114 hm => ?_) (fun hb114 hm => ?_)
        · refine OW.cons (OP.yes' rfl rfl hb114 (OP.val (v := (.pointer (some ⟨b1, 0, none⟩))) rfl (x_mv f62) ?_))
          obtain ⟨x115, hx116, hm⟩ := bndE hm
          refine OW.cons (OP.yes' rfl rfl hb114 (OP.call rfl (x_call (vs := [(.pointer (some ⟨b1, 0, none⟩)), (.int .i64 24)]) Try_C84 ⟨rfl, rfl, trivial⟩) (M.spec_l01Next_ok _ (Src.mk a0.code s_l1.1 s_l1.2.1) (hL.exZ 2 1 (by decide) rfl rfl h3) (hL.get 1 rfl) 24 hx116) ?_))
          rintro e117 wd118 ⟨rfl, hF119⟩
          refine ⟨_, rfl, ?_⟩
          have hL := hL.mut 1 rfl hF119
          simp only [lA, lB, lC, lD] at hL
          refine OW.cons (OP.yes' rfl rfl hb114 (OP.val (v := (.bool (x115.1 == 0))) rfl (x_eql rfl rfl) ?_))
          refine OW.cons (OP.val (v := (.bool (x115.1 == 0))) rfl (x_pickT' rfl hb114 rfl) ?_)
          refine OW.nil ?_
          exact ⟨(x115.2.1, x115.2.2, x115.1 == 0), hm, ⟨f64, rfl, hL⟩⟩
        · refine OW.cons (OP.no' rfl rfl hb114 rfl ?_)
          refine OW.cons (OP.no' rfl rfl hb114 rfl ?_)
          refine OW.cons (OP.no' rfl rfl hb114 rfl ?_)
          refine OW.cons (OP.val (v := (.bool false)) rfl (x_pickF' rfl hb114 rfl) ?_)
          refine OW.nil ?_
          exact ⟨(s_l1.1, s_l1.2.1, false), hm, ⟨f64, rfl, hL⟩⟩
      · intro s_j2 F101 wd102 hJ hm
        unfold M.spec_l22DrawRatings_j2 at hm
        obtain ⟨f103, f104, hL⟩ := hJ
        refine CW.condM (t := s_j2.2.2) f104 hm (fun hb105 hm => ?_) (fun hb105 hm => ?_)
        · refine CW.regionL ?_
          refine OW.cons (OP.val (v := v54) rfl (x_mv f103) ?_)
          obtain ⟨x106, ha107, hm⟩ := bndE hm
          obtain ⟨hz108, ha112⟩ := idxE ha107
          obtain ⟨b109, q110, hix111⟩ := rdL_ix (hL.rdO 0 rfl) hz108 ha112
          refine OW.cons (OP.val (v := (.pointer (some ⟨b109, q110, none⟩))) rfl (x_ix Try.underlying30 Try_T61 rfl rfl hix111) ?_)
          refine OW.cons (OP.val (v := (.pointer (some ⟨b109, q110, none⟩))) rfl (x_fieldAddr (fsz := 1) q110 0 q110 Try.underlying61 rfl Try_T2 rfl rfl rfl) ?_)
          refine OW.cons (S_storeX (j := 0) (Rating.mk 1 x106.Value) hL 0 rfl Try_T2 hix111 ha112 rfl rfl rfl rfl rfl rfl ?_)
          intro wd113 hL
          refine OW.nil ?_
          exact ⟨(s_j2.1, s_j2.2.1, s_l1.2.2.1.set (0 : Int).toNat (Rating.mk 1 x106.Value)), hm, ⟨S55, f103, hL⟩⟩
        · refine CW.skip ?_
          exact ⟨(s_j2.1, s_j2.2.1, s_l1.2.2.1), hm, ⟨S55, f103, hL⟩⟩
    · intro s_j1 F92 wd93 hJ hm
      unfold M.spec_l22DrawRatings_j1 at hm
      obtain ⟨S91, f94, hL⟩ := hJ
      refine CW.seq ?_
      refine CW.regionL ?_
      refine OW.cons (OP.val (v := v54) rfl (x_mv f94) ?_)
      refine OW.cons (OP.val (v := v54) rfl (x_assign) ?_)
      refine OW.nil ?_
      refine CW.ret ?_
      obtain rfl := Option.some.inj hm
      exact RR1 rfl rfl ⟨v54, S91, rfl, hL.mutOut 2 rfl [1, 0] (by decide) (by decide) rfl⟩
  · intro s_l1 F120 wd121 t56 hJ hm hr57
    unfold M.spec_l22DrawRatings_l1 at hm
    obtain ⟨v54, S55, f122, f123, f124, f125, hL⟩ := hJ
    refine CW.seq ?_
    refine CW.seqJ (fun (s_j3 : Bool) (F : Fr) (w : World) => F 0 = (.pointer (some ⟨b1, 0, none⟩)) ∧ F 1 = (.int .i64 a1) ∧ F 5 = v54 ∧ F 6 = (.int .i64 s_l1.2.2.2) ∧ F 14 = (.bool s_j3) ∧ Hp w0 [Ent.own 61 S55 v54 s_l1.2.2.1, Ent.blk b1 111 #[v2, (.int .i64 s_l1.1), (.int .i64 s_l1.2.1)], Ent.frz w0 (Ent.blk b1 111 #[v2, .int .i64 a0.at_, .int .i64 a0.seed]).S] w) (fun s_j3 => M.spec_l22DrawRatings_j3 a0 s_l1 s_j3 = some t56) ?_ ?_
    · refine CW.regionL ?_
      refine OW.cons (OP.val (v := (.int .i64 s_l1.2.2.2)) rfl (x_mv f125) ?_)
      refine OW.cons (OP.val (v := (.int .i64 a1)) rfl (x_mv f123) ?_)
      refine OW.cons (OP.val (v := (.bool (decide (s_l1.2.2.2 < a1)))) rfl (x_lss rfl rfl) ?_)
      refine OW.cons (OP.val (v := (.bool (decide (s_l1.2.2.2 < a1)))) rfl (x_move) ?_)
      refine ifB_elim hm (fun hb147 hm => ?_) (fun hb147 hm => ?_)
      · refine OW.cons (OP.yes' rfl rfl hb147 (OP.val (v := (.int .i64 s_l1.2.2.2)) rfl (x_mv f125) ?_))
        refine OW.cons (OP.yes' rfl rfl hb147 (OP.val (v := (.bool (decide (s_l1.2.2.2 ≤ 16)))) rfl (x_leq rfl rfl) ?_))
        refine OW.cons (OP.val (v := (.bool (decide (s_l1.2.2.2 ≤ 16)))) rfl (x_pickT' rfl hb147 rfl) ?_)
        refine OW.nil ?_
        exact ⟨decide (s_l1.2.2.2 ≤ 16), hm, ⟨f122, f123, f124, f125, rfl, hL⟩⟩
      · refine OW.cons (OP.no' rfl rfl hb147 rfl ?_)
        refine OW.cons (OP.no' rfl rfl hb147 rfl ?_)
        refine OW.cons (OP.val (v := (.bool false)) rfl (x_pickF' rfl hb147 rfl) ?_)
        refine OW.nil ?_
        exact ⟨false, hm, ⟨f122, f123, f124, f125, rfl, hL⟩⟩
    · intro s_j3 F127 wd128 hJ hm
      unfold M.spec_l22DrawRatings_j3 at hm
      obtain ⟨f129, f130, f131, f132, f133, hL⟩ := hJ
      refine CW.condM (t := s_j3) f133 hm (fun hb134 hm => ?_) (fun hb134 hm => ?_)
      · refine CW.skip ?_
        refine CW.seq ?_
        refine CW.block ?_
        refine CW.regionL ?_
        refine OW.cons (OP.val (v := v54) rfl (x_mv f131) ?_)
        refine OW.cons (OP.val (v := (.int .i64 s_l1.2.2.2)) rfl (x_mv f132) ?_)
        refine OW.cons (OP.val (v := (.pointer (some ⟨b1, 0, none⟩))) rfl (x_mv f129) ?_)
        obtain ⟨x135, hx136, hm⟩ := bndE hm
        refine OW.cons (OP.call rfl (x_call (vs := [(.pointer (some ⟨b1, 0, none⟩))]) Try_C85 ⟨rfl, trivial⟩) (M.spec_l22DrawFactor_ok _ (Src.mk a0.code s_l1.1 s_l1.2.1) (hL.exZ 2 1 (by decide) rfl rfl h3) (hL.get 1 rfl) hx136) ?_)
        rintro e137 wd138 ⟨rfl, hF139⟩
        refine ⟨_, rfl, ?_⟩
        have hL := hL.mut 1 rfl hF139
        simp only [lA, lB, lC, lD] at hL
        refine OW.cons (OP.val (v := (.agg #[(.int .i64 s_l1.2.2.2), (.int .i64 x135.1)])) rfl (x_build Try_B61 (ps := [(0, (.int .i64 s_l1.2.2.2)), (1, (.int .i64 x135.1))]) ⟨⟨rfl, rfl⟩, ⟨rfl, rfl⟩, trivial⟩ (by simp [Instr.fill, cells_int, cells_bool, cells_string, cells_agg, cells_slice, cells_pointer])) ?_)
        refine OW.cons (S_lit ([(Rating.mk s_l1.2.2.2 x135.1)] : List Rating) hL Try.underlying30 Try_T61 rfl (by decide) (by first | (simp [Instr.fill, madeCells, Value.cells, ev, upd, Flat.enc, Flat.sz]; done) | rfl | kernel_rfl) rfl rfl ?_)
        intro wd140 v141 S142 hL
        obtain ⟨hc146, hm⟩ := chkE hm
        refine OW.cons (S_append (ys := ([(Rating.mk s_l1.2.2.2 x135.1)] : List Rating)) hL 1 rfl Try.underlying30 Try_T61 rfl rfl rfl (hL.rdO 0 rfl) hc146 (by decide) rfl ?_)
        intro wd143 v144 S145 hL
        refine OW.cons (OP.val (v := v144) rfl (x_assign) ?_)
        refine OW.nil ?_
        refine CW.regionL ?_
        refine OW.cons (OP.val (v := (.int .i64 s_l1.2.2.2)) rfl (x_mv f132) ?_)
        refine OW.cons (OP.val (v := (.int .i64 (w64 (s_l1.2.2.2 + 1)))) rfl (x_add rfl rfl) ?_)
        refine OW.cons (OP.val (v := (.int .i64 (w64 (s_l1.2.2.2 + 1)))) rfl (x_assign) ?_)
        refine OW.nil ?_
        have hL := hL.sel [1, 2, 3] (by decide) rfl
        obtain rfl := Option.some.inj hm
        exact ⟨_, rfl, ⟨v144, S145, f129, f130, rfl, rfl, hL⟩⟩
      · refine CW.exit ?_
        refine XJ.hit ?_
        obtain rfl := Option.some.inj hm
        exact ⟨_, rfl, ⟨v54, S55, f129, f130, f131, f132, hL⟩⟩

theorem M.spec_l25Draw_ok (w0 : World) {b1 : Nat} {v2 : Value} (a0 : Src) (h3 : rdL (fun k => k < w0.heap.size ∧ ¬ (Ent.blk b1 111 #[v2, .int .i64 a0.at_, .int .i64 a0.seed]).S k) w0 v2 a0.code) (he4 : (Ent.blk b1 111 #[v2, .int .i64 a0.at_, .int .i64 a0.seed]).H w0) {r : (ProgressRules) × (Int × Int)} (hm : M.spec_l25Draw a0 = some r) :
    Calls Try.prog 64 #[(.pointer (some ⟨b1, 0, none⟩))] w0 fun e w' => e = .returned (.agg #[(.int .i64 r.1.Gain), (.int .i64 r.1.Step), (.int .i64 r.1.Low), (.int .i64 r.1.High)]) ∧ Mut w0 w' (Ent.blk b1 111 #[v2, .int .i64 a0.at_, .int .i64 a0.seed]).S [Ent.blk b1 111 #[v2, .int .i64 r.2.1, .int .i64 r.2.2]] := by
  unfold M.spec_l25Draw at hm
  refine calls_CW (args := [(.pointer (some ⟨b1, 0, none⟩))]) Try.func64 rfl rfl rfl ?_
  have hL := Hp.startIO he4
  refine CW.seq ?_
  refine CW.regionL ?_
  refine OW.cons (S_alloc (cs := #[(.int .i64 0), (.int .i64 0), (.int .i64 0), (.int .i64 0)]) hL Try_T46 rfl rfl ?_)
  intro wd5 b6 hL
  refine OW.nil ?_
  refine CW.seq ?_
  refine CW.regionL ?_
  refine OW.cons (OP.val (v := (.pointer (some ⟨b1, 0, none⟩))) rfl (x_move) ?_)
  obtain ⟨x7, hx8, hm⟩ := bndE hm
  refine OW.cons (OP.call rfl (x_call (vs := [(.pointer (some ⟨b1, 0, none⟩)), (.int .i64 1001)]) Try_C84 ⟨rfl, rfl, trivial⟩) (M.spec_l01Next_ok _ (Src.mk a0.code a0.at_ a0.seed) (hL.exZ 2 1 (by decide) rfl rfl h3) (hL.get 1 rfl) 1001 hx8) ?_)
  rintro e9 wd10 ⟨rfl, hF11⟩
  refine ⟨_, rfl, ?_⟩
  have hL := hL.mut 1 rfl hF11
  simp only [lA, lB, lC, lD] at hL
  refine OW.cons (OP.val (v := (.pointer (some ⟨b1, 0, none⟩))) rfl (x_move) ?_)
  obtain ⟨x12, hx13, hm⟩ := bndE hm
  refine OW.cons (OP.call rfl (x_call (vs := [(.pointer (some ⟨b1, 0, none⟩)), (.int .i64 60)]) Try_C84 ⟨rfl, rfl, trivial⟩) (M.spec_l01Next_ok _ (Src.mk a0.code x7.2.1 x7.2.2) (hL.exZ 2 1 (by decide) rfl rfl h3) (hL.get 1 rfl) 60 hx13) ?_)
  rintro e14 wd15 ⟨rfl, hF16⟩
  refine ⟨_, rfl, ?_⟩
  have hL := hL.mut 1 rfl hF16
  simp only [lA, lB, lC, lD] at hL
  refine OW.cons (OP.val (v := (.pointer (some ⟨b1, 0, none⟩))) rfl (x_move) ?_)
  obtain ⟨x17, hx18, hm⟩ := bndE hm
  refine OW.cons (OP.call rfl (x_call (vs := [(.pointer (some ⟨b1, 0, none⟩)), (.int .i64 300)]) Try_C84 ⟨rfl, rfl, trivial⟩) (M.spec_l01Next_ok _ (Src.mk a0.code x12.2.1 x12.2.2) (hL.exZ 2 1 (by decide) rfl rfl h3) (hL.get 1 rfl) 300 hx18) ?_)
  rintro e19 wd20 ⟨rfl, hF21⟩
  refine ⟨_, rfl, ?_⟩
  have hL := hL.mut 1 rfl hF21
  simp only [lA, lB, lC, lD] at hL
  refine OW.cons (OP.val (v := (.int .i64 (w64 (600 + x17.1)))) rfl (x_add rfl rfl) ?_)
  refine OW.cons (OP.val (v := (.pointer (some ⟨b1, 0, none⟩))) rfl (x_move) ?_)
  obtain ⟨x22, hx23, hm⟩ := bndE hm
  refine OW.cons (OP.call rfl (x_call (vs := [(.pointer (some ⟨b1, 0, none⟩)), (.int .i64 500)]) Try_C84 ⟨rfl, rfl, trivial⟩) (M.spec_l01Next_ok _ (Src.mk a0.code x17.2.1 x17.2.2) (hL.exZ 2 1 (by decide) rfl rfl h3) (hL.get 1 rfl) 500 hx23) ?_)
  rintro e24 wd25 ⟨rfl, hF26⟩
  refine ⟨_, rfl, ?_⟩
  have hL := hL.mut 1 rfl hF26
  simp only [lA, lB, lC, lD] at hL
  refine OW.cons (OP.val (v := (.int .i64 (w64 (1000 + x22.1)))) rfl (x_add rfl rfl) ?_)
  refine OW.cons (OP.val (v := (.agg #[(.int .i64 x7.1), (.int .i64 x12.1), (.int .i64 (w64 (600 + x17.1))), (.int .i64 (w64 (1000 + x22.1)))])) rfl (x_build Try_B46 (ps := [(0, (.int .i64 x7.1)), (1, (.int .i64 x12.1)), (2, (.int .i64 (w64 (600 + x17.1)))), (3, (.int .i64 (w64 (1000 + x22.1))))]) ⟨⟨rfl, rfl⟩, ⟨rfl, rfl⟩, ⟨rfl, rfl⟩, ⟨rfl, rfl⟩, trivial⟩ (by simp [Instr.fill, cells_int, cells_bool, cells_string, cells_agg, cells_slice, cells_pointer])) ?_)
  refine OW.cons (S_alloc (cs := #[(.int .i64 0), (.int .i64 0), (.int .i64 0), (.int .i64 0)]) hL Try_T46 rfl rfl ?_)
  intro wd27 b28 hL
  refine OW.cons (S_storeN (l := [(.int .i64 x7.1), (.int .i64 x12.1), (.int .i64 (w64 (600 + x17.1))), (.int .i64 (w64 (1000 + x22.1)))]) (cs' := #[(.int .i64 x7.1), (.int .i64 x12.1), (.int .i64 (w64 (600 + x17.1))), (.int .i64 (w64 (1000 + x22.1)))]) hL 0 rfl Try_T46 rfl rfl (List.forall_mem_cons.2 ⟨rfl, (List.forall_mem_cons.2 ⟨rfl, (List.forall_mem_cons.2 ⟨rfl, (List.forall_mem_cons.2 ⟨rfl, (fun _ h => by cases h)⟩)⟩)⟩)⟩) rfl (Nat.le_of_ble_eq_true rfl) rfl ?_)
  intro wd29 hL
  refine OW.nil ?_
  refine CW.seqJ (fun (s_j1 : Int × Int × Int × Int × Int × Int) (F : Fr) (w : World) => F 2 = (.pointer (some ⟨b6, 0, none⟩)) ∧ F 3 = (.pointer (some ⟨b28, 0, none⟩)) ∧ Hp w0 [Ent.blk b28 46 #[(.int .i64 s_j1.2.2.1), (.int .i64 s_j1.2.2.2.1), (.int .i64 s_j1.2.2.2.2.1), (.int .i64 s_j1.2.2.2.2.2)], Ent.blk b6 46 #[(.int .i64 0), (.int .i64 0), (.int .i64 0), (.int .i64 0)], Ent.blk b1 111 #[v2, (.int .i64 s_j1.1), (.int .i64 s_j1.2.1)], Ent.frz w0 (Ent.blk b1 111 #[v2, .int .i64 a0.at_, .int .i64 a0.seed]).S] w) (fun s_j1 => M.spec_l25Draw_j1 s_j1 = some r) ?_ ?_
  · refine CW.seq ?_
    refine CW.regionL ?_
    refine OW.cons (OP.val (v := (.pointer (some ⟨b1, 0, none⟩))) rfl (x_move) ?_)
    obtain ⟨x450, hx451, hm⟩ := bndE hm
    refine OW.cons (OP.call rfl (x_call (vs := [(.pointer (some ⟨b1, 0, none⟩)), (.int .i64 30)]) Try_C84 ⟨rfl, rfl, trivial⟩) (M.spec_l01Next_ok _ (Src.mk a0.code x22.2.1 x22.2.2) (hL.exZ 3 2 (by decide) rfl rfl h3) (hL.get 2 rfl) 30 hx451) ?_)
    rintro e452 wd453 ⟨rfl, hF454⟩
    refine ⟨_, rfl, ?_⟩
    have hL := hL.mut 2 rfl hF454
    simp only [lA, lB, lC, lD] at hL
    refine OW.nil ?_
    refine CW.blockJ (fun (s_j2 : Int × Int × Int × Int × Int × Int) (F : Fr) (w : World) => F 2 = (.pointer (some ⟨b6, 0, none⟩)) ∧ F 3 = (.pointer (some ⟨b28, 0, none⟩)) ∧ Hp w0 [Ent.blk b28 46 #[(.int .i64 s_j2.2.2.1), (.int .i64 s_j2.2.2.2.1), (.int .i64 s_j2.2.2.2.2.1), (.int .i64 s_j2.2.2.2.2.2)], Ent.blk b6 46 #[(.int .i64 0), (.int .i64 0), (.int .i64 0), (.int .i64 0)], Ent.blk b1 111 #[v2, (.int .i64 s_j2.1), (.int .i64 s_j2.2.1)], Ent.frz w0 (Ent.blk b1 111 #[v2, .int .i64 a0.at_, .int .i64 a0.seed]).S] w) (fun s_j2 => M.spec_l25Draw_j2 s_j2 = some r) ?_ ?_
    · refine CW.seq ?_
      refine CW.regionL ?_
      refine OW.cons (OP.val (v := (.bool (x450.1 == 0))) rfl (x_eql rfl rfl) ?_)
      refine OW.cons (OP.val (v := (.bool (x450.1 == 0))) rfl (x_assign) ?_)
      refine OW.nil ?_
      refine CW.condM (t := x450.1 == 0) rfl hm (fun hb662 hm => ?_) (fun hb662 hm => ?_)
      · refine CW.regionL ?_
        refine OW.cons (S_lit ([(-1), 1001] : List Int) hL Try.underlying35 Try_T2 rfl (by decide) (by first | (simp [Instr.fill, madeCells, Value.cells, ev, upd, Flat.enc, Flat.sz]; done) | rfl | kernel_rfl) rfl rfl ?_)
        intro wd663 v664 S665 hL
        refine OW.cons (OP.val (v := (.pointer (some ⟨b1, 0, none⟩))) rfl (x_move) ?_)
        obtain ⟨x666, hx667, hm⟩ := bndE hm
        refine OW.cons (OP.call rfl (x_call (vs := [(.pointer (some ⟨b1, 0, none⟩)), (.int .i64 2)]) Try_C84 ⟨rfl, rfl, trivial⟩) (M.spec_l01Next_ok _ (Src.mk a0.code x450.2.1 x450.2.2) (hL.exZ 4 3 (by decide) rfl rfl h3) (hL.get 3 rfl) 2 hx667) ?_)
        rintro e668 wd669 ⟨rfl, hF670⟩
        refine ⟨_, rfl, ?_⟩
        have hL := hL.mut 3 rfl hF670
        simp only [lA, lB, lC, lD] at hL
        obtain ⟨x671, ha672, hm⟩ := bndE hm
        obtain ⟨hz673, ha677⟩ := idxE ha672
        obtain ⟨b674, q675, hix676⟩ := rdL_ix (hL.rdO 0 rfl) hz673 ha677
        refine OW.cons (OP.val (v := (.pointer (some ⟨b674, q675, none⟩))) rfl (x_ix Try.underlying35 Try_T2 rfl rfl hix676) ?_)
        refine OW.cons (OP.val (v := (.int .i64 x671)) rfl (x_load1 Try.underlying2 rfl rfl (rdF_cells (hL.rdO 0 rfl) hix676 ha677 0 _ rfl)) ?_)
        refine OW.cons (OP.val (v := (.pointer (some ⟨b28, 0, none⟩))) rfl (x_fieldAddr (fsz := 1) 0 0 0 Try.underlying46 rfl Try_T2 rfl rfl rfl) ?_)
        refine OW.cons (S_store (cs' := #[(.int .i64 x671), (.int .i64 x12.1), (.int .i64 (w64 (600 + x17.1))), (.int .i64 (w64 (1000 + x22.1)))]) hL 1 rfl Try_T2 rfl rfl rfl rfl rfl ?_)
        intro wd678 hL
        refine OW.nil ?_
        have hL := hL.sel [1, 2, 3, 4] (by decide) rfl
        exact ⟨(x666.2.1, x666.2.2, x671, x12.1, w64 (600 + x17.1), w64 (1000 + x22.1)), hm, ⟨rfl, rfl, hL⟩⟩
      · refine CW.seq ?_
        refine CW.regionL ?_
        refine OW.cons (OP.val (v := (.bool (x450.1 == 1))) rfl (x_eql rfl rfl) ?_)
        refine OW.cons (OP.val (v := (.bool (x450.1 == 1))) rfl (x_assign) ?_)
        refine OW.nil ?_
        refine CW.condM (t := x450.1 == 1) rfl hm (fun hb679 hm => ?_) (fun hb679 hm => ?_)
        · refine CW.drawH (fun w' => Hp w0 [Ent.blk b6 46 #[(.int .i64 0), (.int .i64 0), (.int .i64 0), (.int .i64 0)], Ent.frz w0 (Ent.blk b1 111 #[v2, .int .i64 a0.at_, .int .i64 a0.seed]).S] w') Try_mixed ?_
          have hL := hL.call (Mod.drew _)
          have hS := (hL.sel [1, 3] (by decide) rfl)
          refine DH.take 0 rfl (by kernel_rfl) (by kernel_rfl) (by kernel_rfl) rfl rfl hS (YH.val (v := (.pointer (some ⟨b28, 3, none⟩))) (fun w' hS' => x_fieldAddr (fsz := 1) 0 3 3 Try.underlying46 rfl Try_T2 rfl rfl rfl)) ?_
          have hS := (hL.sel [1, 3] (by decide) rfl)
          refine DH.take 2 rfl (by kernel_rfl) (by kernel_rfl) (by kernel_rfl) rfl rfl hS (YH.val (v := (.pointer (some ⟨b28, 3, none⟩))) (fun w' hS' => x_fieldAddr (fsz := 1) 0 3 3 Try.underlying46 rfl Try_T2 rfl rfl rfl)) ?_
          have hS := (hL.sel [1, 3] (by decide) rfl)
          refine DH.take 6 rfl (by kernel_rfl) (by kernel_rfl) (by kernel_rfl) rfl rfl hS (YH.val (v := (.pointer (some ⟨b1, 0, none⟩))) (fun w' hS' => x_move)) ?_
          refine DH.all (rs := [1, 3, 7]) (by kernel_rfl) (by simp) ?_
          intro i696 hi697
          simp only [List.mem_cons, List.not_mem_nil, or_false] at hi697
          rcases hi697 with rfl | rfl | rfl
          · refine ⟨_, rfl, ?_⟩
            refine OP.val (v := (.int .i64 (w64 (1000 + x22.1)))) rfl (x_load1 Try.underlying2 rfl rfl (hL.cellB 0 rfl rfl)) ?_
            refine ⟨(hL.sel [1, 3] (by decide) rfl), ?_⟩
            refine DH.all (rs := [3, 7]) (by kernel_rfl) (by simp) ?_
            intro i698 hi699
            simp only [List.mem_cons, List.not_mem_nil, or_false] at hi699
            rcases hi699 with rfl | rfl
            · refine ⟨_, rfl, ?_⟩
              refine OP.val (v := (.int .i64 (w64 (1000 + x22.1)))) rfl (x_load1 Try.underlying2 rfl rfl (hL.cellB 0 rfl rfl)) ?_
              refine ⟨(hL.sel [1, 3] (by decide) rfl), ?_⟩
              have hS := (hL.sel [1, 3] (by decide) rfl)
              refine DH.take 4 rfl (by kernel_rfl) (by kernel_rfl) (by kernel_rfl) rfl rfl hS (YH.val (v := (.int .i64 (w64 ((w64 (1000 + x22.1)) + 1)))) (fun w' hS' => x_add rfl rfl)) ?_
              refine DH.all (rs := [5, 7]) (by kernel_rfl) (by simp) ?_
              intro i700 hi701
              simp only [List.mem_cons, List.not_mem_nil, or_false] at hi701
              rcases hi701 with rfl | rfl
              · refine ⟨_, rfl, ?_⟩
                refine S_lit ([0, w64 (1000 + x22.1), w64 ((w64 (1000 + x22.1)) + 1)] : List Int) hL Try.underlying35 Try_T2 rfl (by decide) (by first | (simp [Instr.fill, madeCells, Value.cells, ev, upd, Flat.enc, Flat.sz]; done) | rfl | kernel_rfl) rfl rfl ?_
                intro wd702 v703 S704 hL
                refine ⟨(hL.sel [2, 4] (by decide) rfl), ?_⟩
                obtain ⟨x705, hx706, hm⟩ := bndE hm
                refine DH.only 7 rfl (by kernel_rfl) (OP.call rfl (x_call (vs := [(.pointer (some ⟨b1, 0, none⟩)), (.int .i64 3)]) Try_C84 ⟨rfl, rfl, trivial⟩) (M.spec_l01Next_ok _ (Src.mk a0.code x450.2.1 x450.2.2) (hL.exZ 4 3 (by decide) rfl rfl h3) (hL.get 3 rfl) 3 hx706) ?_)
                rintro e707 wd708 ⟨rfl, hF709⟩
                refine ⟨_, rfl, ?_⟩
                have hL := hL.mut 3 rfl hF709
                simp only [lA, lB, lC, lD] at hL
                refine ⟨(hL.sel [2, 4] (by decide) rfl), ?_⟩
                have hS := (hL.sel [2, 4] (by decide) rfl)
                obtain ⟨x710, ha711, hm⟩ := bndE hm
                obtain ⟨hz712, ha716⟩ := idxE ha711
                obtain ⟨b713, q714, hix715⟩ := rdL_ix (hL.rdO 0 rfl) hz712 ha716
                refine DH.take 8 rfl (by kernel_rfl) (by kernel_rfl) (by kernel_rfl) rfl rfl hS (YH.val (v := (.pointer (some ⟨b713, q714, none⟩))) (fun w' hS' => x_ix Try.underlying35 Try_T2 rfl rfl hix715)) ?_
                refine DH.only 9 rfl (by kernel_rfl) (OP.val (v := (.int .i64 x710)) rfl (x_load1 Try.underlying2 rfl rfl (rdF_cells (hL.rdO 0 rfl) hix715 ha716 0 _ rfl)) ?_)
                refine ⟨(hL.sel [2, 4] (by decide) rfl), ?_⟩
                have hS := (hL.sel [2, 4] (by decide) rfl)
                refine DH.take 10 rfl (by kernel_rfl) (by kernel_rfl) (by kernel_rfl) rfl rfl hS (YH.val (v := (.pointer (some ⟨b28, 2, none⟩))) (fun w' hS' => x_fieldAddr (fsz := 1) 0 2 2 Try.underlying46 rfl Try_T2 rfl rfl rfl)) ?_
                refine DH.only 11 rfl (by kernel_rfl) (S_store (cs' := #[(.int .i64 x7.1), (.int .i64 x12.1), (.int .i64 x710), (.int .i64 (w64 (1000 + x22.1)))]) hL 1 rfl Try_T2 rfl rfl rfl rfl rfl ?_)
                intro wd717 hL
                refine ⟨(hL.sel [2, 4] (by decide) rfl), ?_⟩
                refine DH.done (by kernel_rfl) ?_
                have hL := hL.sel [1, 2, 3, 4] (by decide) rfl
                exact ⟨(x705.2.1, x705.2.2, x7.1, x12.1, x710, w64 (1000 + x22.1)), hm, ⟨rfl, rfl, hL⟩⟩
              · refine ⟨_, rfl, ?_⟩
                obtain ⟨x718, hx719, hm⟩ := bndE hm
                refine OP.call rfl (x_call (vs := [(.pointer (some ⟨b1, 0, none⟩)), (.int .i64 3)]) Try_C84 ⟨rfl, rfl, trivial⟩) (M.spec_l01Next_ok _ (Src.mk a0.code x450.2.1 x450.2.2) (hL.exZ 3 2 (by decide) rfl rfl h3) (hL.get 2 rfl) 3 hx719) ?_
                rintro e720 wd721 ⟨rfl, hF722⟩
                refine ⟨_, rfl, ?_⟩
                have hL := hL.mut 2 rfl hF722
                simp only [lA, lB, lC, lD] at hL
                refine ⟨(hL.sel [1, 3] (by decide) rfl), ?_⟩
                refine DH.only 5 rfl (by kernel_rfl) (S_lit ([0, w64 (1000 + x22.1), w64 ((w64 (1000 + x22.1)) + 1)] : List Int) hL Try.underlying35 Try_T2 rfl (by decide) (by first | (simp [Instr.fill, madeCells, Value.cells, ev, upd, Flat.enc, Flat.sz]; done) | rfl | kernel_rfl) rfl rfl ?_)
                intro wd723 v724 S725 hL
                refine ⟨(hL.sel [2, 4] (by decide) rfl), ?_⟩
                have hS := (hL.sel [2, 4] (by decide) rfl)
                obtain ⟨x726, ha727, hm⟩ := bndE hm
                obtain ⟨hz728, ha732⟩ := idxE ha727
                obtain ⟨b729, q730, hix731⟩ := rdL_ix (hL.rdO 0 rfl) hz728 ha732
                refine DH.take 8 rfl (by kernel_rfl) (by kernel_rfl) (by kernel_rfl) rfl rfl hS (YH.val (v := (.pointer (some ⟨b729, q730, none⟩))) (fun w' hS' => x_ix Try.underlying35 Try_T2 rfl rfl hix731)) ?_
                refine DH.only 9 rfl (by kernel_rfl) (OP.val (v := (.int .i64 x726)) rfl (x_load1 Try.underlying2 rfl rfl (rdF_cells (hL.rdO 0 rfl) hix731 ha732 0 _ rfl)) ?_)
                refine ⟨(hL.sel [2, 4] (by decide) rfl), ?_⟩
                have hS := (hL.sel [2, 4] (by decide) rfl)
                refine DH.take 10 rfl (by kernel_rfl) (by kernel_rfl) (by kernel_rfl) rfl rfl hS (YH.val (v := (.pointer (some ⟨b28, 2, none⟩))) (fun w' hS' => x_fieldAddr (fsz := 1) 0 2 2 Try.underlying46 rfl Try_T2 rfl rfl rfl)) ?_
                refine DH.only 11 rfl (by kernel_rfl) (S_store (cs' := #[(.int .i64 x7.1), (.int .i64 x12.1), (.int .i64 x726), (.int .i64 (w64 (1000 + x22.1)))]) hL 1 rfl Try_T2 rfl rfl rfl rfl rfl ?_)
                intro wd733 hL
                refine ⟨(hL.sel [2, 4] (by decide) rfl), ?_⟩
                refine DH.done (by kernel_rfl) ?_
                have hL := hL.sel [1, 2, 3, 4] (by decide) rfl
                exact ⟨(x718.2.1, x718.2.2, x7.1, x12.1, x726, w64 (1000 + x22.1)), hm, ⟨rfl, rfl, hL⟩⟩
            · refine ⟨_, rfl, ?_⟩
              obtain ⟨x734, hx735, hm⟩ := bndE hm
              refine OP.call rfl (x_call (vs := [(.pointer (some ⟨b1, 0, none⟩)), (.int .i64 3)]) Try_C84 ⟨rfl, rfl, trivial⟩) (M.spec_l01Next_ok _ (Src.mk a0.code x450.2.1 x450.2.2) (hL.exZ 3 2 (by decide) rfl rfl h3) (hL.get 2 rfl) 3 hx735) ?_
              rintro e736 wd737 ⟨rfl, hF738⟩
              refine ⟨_, rfl, ?_⟩
              have hL := hL.mut 2 rfl hF738
              simp only [lA, lB, lC, lD] at hL
              refine ⟨(hL.sel [1, 3] (by decide) rfl), ?_⟩
              refine DH.only 3 rfl (by kernel_rfl) (OP.val (v := (.int .i64 (w64 (1000 + x22.1)))) rfl (x_load1 Try.underlying2 rfl rfl (hL.cellB 0 rfl rfl)) ?_)
              refine ⟨(hL.sel [1, 3] (by decide) rfl), ?_⟩
              have hS := (hL.sel [1, 3] (by decide) rfl)
              refine DH.take 4 rfl (by kernel_rfl) (by kernel_rfl) (by kernel_rfl) rfl rfl hS (YH.val (v := (.int .i64 (w64 ((w64 (1000 + x22.1)) + 1)))) (fun w' hS' => x_add rfl rfl)) ?_
              refine DH.only 5 rfl (by kernel_rfl) (S_lit ([0, w64 (1000 + x22.1), w64 ((w64 (1000 + x22.1)) + 1)] : List Int) hL Try.underlying35 Try_T2 rfl (by decide) (by first | (simp [Instr.fill, madeCells, Value.cells, ev, upd, Flat.enc, Flat.sz]; done) | rfl | kernel_rfl) rfl rfl ?_)
              intro wd739 v740 S741 hL
              refine ⟨(hL.sel [2, 4] (by decide) rfl), ?_⟩
              have hS := (hL.sel [2, 4] (by decide) rfl)
              obtain ⟨x742, ha743, hm⟩ := bndE hm
              obtain ⟨hz744, ha748⟩ := idxE ha743
              obtain ⟨b745, q746, hix747⟩ := rdL_ix (hL.rdO 0 rfl) hz744 ha748
              refine DH.take 8 rfl (by kernel_rfl) (by kernel_rfl) (by kernel_rfl) rfl rfl hS (YH.val (v := (.pointer (some ⟨b745, q746, none⟩))) (fun w' hS' => x_ix Try.underlying35 Try_T2 rfl rfl hix747)) ?_
              refine DH.only 9 rfl (by kernel_rfl) (OP.val (v := (.int .i64 x742)) rfl (x_load1 Try.underlying2 rfl rfl (rdF_cells (hL.rdO 0 rfl) hix747 ha748 0 _ rfl)) ?_)
              refine ⟨(hL.sel [2, 4] (by decide) rfl), ?_⟩
              have hS := (hL.sel [2, 4] (by decide) rfl)
              refine DH.take 10 rfl (by kernel_rfl) (by kernel_rfl) (by kernel_rfl) rfl rfl hS (YH.val (v := (.pointer (some ⟨b28, 2, none⟩))) (fun w' hS' => x_fieldAddr (fsz := 1) 0 2 2 Try.underlying46 rfl Try_T2 rfl rfl rfl)) ?_
              refine DH.only 11 rfl (by kernel_rfl) (S_store (cs' := #[(.int .i64 x7.1), (.int .i64 x12.1), (.int .i64 x742), (.int .i64 (w64 (1000 + x22.1)))]) hL 1 rfl Try_T2 rfl rfl rfl rfl rfl ?_)
              intro wd749 hL
              refine ⟨(hL.sel [2, 4] (by decide) rfl), ?_⟩
              refine DH.done (by kernel_rfl) ?_
              have hL := hL.sel [1, 2, 3, 4] (by decide) rfl
              exact ⟨(x734.2.1, x734.2.2, x7.1, x12.1, x742, w64 (1000 + x22.1)), hm, ⟨rfl, rfl, hL⟩⟩
          · refine ⟨_, rfl, ?_⟩
            refine OP.val (v := (.int .i64 (w64 (1000 + x22.1)))) rfl (x_load1 Try.underlying2 rfl rfl (hL.cellB 0 rfl rfl)) ?_
            refine ⟨(hL.sel [1, 3] (by decide) rfl), ?_⟩
            have hS := (hL.sel [1, 3] (by decide) rfl)
            refine DH.take 4 rfl (by kernel_rfl) (by kernel_rfl) (by kernel_rfl) rfl rfl hS (YH.val (v := (.int .i64 (w64 ((w64 (1000 + x22.1)) + 1)))) (fun w' hS' => x_add rfl rfl)) ?_
            refine DH.all (rs := [1, 7]) (by kernel_rfl) (by simp) ?_
            intro i750 hi751
            simp only [List.mem_cons, List.not_mem_nil, or_false] at hi751
            rcases hi751 with rfl | rfl
            · refine ⟨_, rfl, ?_⟩
              refine OP.val (v := (.int .i64 (w64 (1000 + x22.1)))) rfl (x_load1 Try.underlying2 rfl rfl (hL.cellB 0 rfl rfl)) ?_
              refine ⟨(hL.sel [1, 3] (by decide) rfl), ?_⟩
              refine DH.all (rs := [5, 7]) (by kernel_rfl) (by simp) ?_
              intro i752 hi753
              simp only [List.mem_cons, List.not_mem_nil, or_false] at hi753
              rcases hi753 with rfl | rfl
              · refine ⟨_, rfl, ?_⟩
                refine S_lit ([0, w64 (1000 + x22.1), w64 ((w64 (1000 + x22.1)) + 1)] : List Int) hL Try.underlying35 Try_T2 rfl (by decide) (by first | (simp [Instr.fill, madeCells, Value.cells, ev, upd, Flat.enc, Flat.sz]; done) | rfl | kernel_rfl) rfl rfl ?_
                intro wd754 v755 S756 hL
                refine ⟨(hL.sel [2, 4] (by decide) rfl), ?_⟩
                obtain ⟨x757, hx758, hm⟩ := bndE hm
                refine DH.only 7 rfl (by kernel_rfl) (OP.call rfl (x_call (vs := [(.pointer (some ⟨b1, 0, none⟩)), (.int .i64 3)]) Try_C84 ⟨rfl, rfl, trivial⟩) (M.spec_l01Next_ok _ (Src.mk a0.code x450.2.1 x450.2.2) (hL.exZ 4 3 (by decide) rfl rfl h3) (hL.get 3 rfl) 3 hx758) ?_)
                rintro e759 wd760 ⟨rfl, hF761⟩
                refine ⟨_, rfl, ?_⟩
                have hL := hL.mut 3 rfl hF761
                simp only [lA, lB, lC, lD] at hL
                refine ⟨(hL.sel [2, 4] (by decide) rfl), ?_⟩
                have hS := (hL.sel [2, 4] (by decide) rfl)
                obtain ⟨x762, ha763, hm⟩ := bndE hm
                obtain ⟨hz764, ha768⟩ := idxE ha763
                obtain ⟨b765, q766, hix767⟩ := rdL_ix (hL.rdO 0 rfl) hz764 ha768
                refine DH.take 8 rfl (by kernel_rfl) (by kernel_rfl) (by kernel_rfl) rfl rfl hS (YH.val (v := (.pointer (some ⟨b765, q766, none⟩))) (fun w' hS' => x_ix Try.underlying35 Try_T2 rfl rfl hix767)) ?_
                refine DH.only 9 rfl (by kernel_rfl) (OP.val (v := (.int .i64 x762)) rfl (x_load1 Try.underlying2 rfl rfl (rdF_cells (hL.rdO 0 rfl) hix767 ha768 0 _ rfl)) ?_)
                refine ⟨(hL.sel [2, 4] (by decide) rfl), ?_⟩
                have hS := (hL.sel [2, 4] (by decide) rfl)
                refine DH.take 10 rfl (by kernel_rfl) (by kernel_rfl) (by kernel_rfl) rfl rfl hS (YH.val (v := (.pointer (some ⟨b28, 2, none⟩))) (fun w' hS' => x_fieldAddr (fsz := 1) 0 2 2 Try.underlying46 rfl Try_T2 rfl rfl rfl)) ?_
                refine DH.only 11 rfl (by kernel_rfl) (S_store (cs' := #[(.int .i64 x7.1), (.int .i64 x12.1), (.int .i64 x762), (.int .i64 (w64 (1000 + x22.1)))]) hL 1 rfl Try_T2 rfl rfl rfl rfl rfl ?_)
                intro wd769 hL
                refine ⟨(hL.sel [2, 4] (by decide) rfl), ?_⟩
                refine DH.done (by kernel_rfl) ?_
                have hL := hL.sel [1, 2, 3, 4] (by decide) rfl
                exact ⟨(x757.2.1, x757.2.2, x7.1, x12.1, x762, w64 (1000 + x22.1)), hm, ⟨rfl, rfl, hL⟩⟩
              · refine ⟨_, rfl, ?_⟩
                obtain ⟨x770, hx771, hm⟩ := bndE hm
                refine OP.call rfl (x_call (vs := [(.pointer (some ⟨b1, 0, none⟩)), (.int .i64 3)]) Try_C84 ⟨rfl, rfl, trivial⟩) (M.spec_l01Next_ok _ (Src.mk a0.code x450.2.1 x450.2.2) (hL.exZ 3 2 (by decide) rfl rfl h3) (hL.get 2 rfl) 3 hx771) ?_
                rintro e772 wd773 ⟨rfl, hF774⟩
                refine ⟨_, rfl, ?_⟩
                have hL := hL.mut 2 rfl hF774
                simp only [lA, lB, lC, lD] at hL
                refine ⟨(hL.sel [1, 3] (by decide) rfl), ?_⟩
                refine DH.only 5 rfl (by kernel_rfl) (S_lit ([0, w64 (1000 + x22.1), w64 ((w64 (1000 + x22.1)) + 1)] : List Int) hL Try.underlying35 Try_T2 rfl (by decide) (by first | (simp [Instr.fill, madeCells, Value.cells, ev, upd, Flat.enc, Flat.sz]; done) | rfl | kernel_rfl) rfl rfl ?_)
                intro wd775 v776 S777 hL
                refine ⟨(hL.sel [2, 4] (by decide) rfl), ?_⟩
                have hS := (hL.sel [2, 4] (by decide) rfl)
                obtain ⟨x778, ha779, hm⟩ := bndE hm
                obtain ⟨hz780, ha784⟩ := idxE ha779
                obtain ⟨b781, q782, hix783⟩ := rdL_ix (hL.rdO 0 rfl) hz780 ha784
                refine DH.take 8 rfl (by kernel_rfl) (by kernel_rfl) (by kernel_rfl) rfl rfl hS (YH.val (v := (.pointer (some ⟨b781, q782, none⟩))) (fun w' hS' => x_ix Try.underlying35 Try_T2 rfl rfl hix783)) ?_
                refine DH.only 9 rfl (by kernel_rfl) (OP.val (v := (.int .i64 x778)) rfl (x_load1 Try.underlying2 rfl rfl (rdF_cells (hL.rdO 0 rfl) hix783 ha784 0 _ rfl)) ?_)
                refine ⟨(hL.sel [2, 4] (by decide) rfl), ?_⟩
                have hS := (hL.sel [2, 4] (by decide) rfl)
                refine DH.take 10 rfl (by kernel_rfl) (by kernel_rfl) (by kernel_rfl) rfl rfl hS (YH.val (v := (.pointer (some ⟨b28, 2, none⟩))) (fun w' hS' => x_fieldAddr (fsz := 1) 0 2 2 Try.underlying46 rfl Try_T2 rfl rfl rfl)) ?_
                refine DH.only 11 rfl (by kernel_rfl) (S_store (cs' := #[(.int .i64 x7.1), (.int .i64 x12.1), (.int .i64 x778), (.int .i64 (w64 (1000 + x22.1)))]) hL 1 rfl Try_T2 rfl rfl rfl rfl rfl ?_)
                intro wd785 hL
                refine ⟨(hL.sel [2, 4] (by decide) rfl), ?_⟩
                refine DH.done (by kernel_rfl) ?_
                have hL := hL.sel [1, 2, 3, 4] (by decide) rfl
                exact ⟨(x770.2.1, x770.2.2, x7.1, x12.1, x778, w64 (1000 + x22.1)), hm, ⟨rfl, rfl, hL⟩⟩
            · refine ⟨_, rfl, ?_⟩
              obtain ⟨x786, hx787, hm⟩ := bndE hm
              refine OP.call rfl (x_call (vs := [(.pointer (some ⟨b1, 0, none⟩)), (.int .i64 3)]) Try_C84 ⟨rfl, rfl, trivial⟩) (M.spec_l01Next_ok _ (Src.mk a0.code x450.2.1 x450.2.2) (hL.exZ 3 2 (by decide) rfl rfl h3) (hL.get 2 rfl) 3 hx787) ?_
              rintro e788 wd789 ⟨rfl, hF790⟩
              refine ⟨_, rfl, ?_⟩
              have hL := hL.mut 2 rfl hF790
              simp only [lA, lB, lC, lD] at hL
              refine ⟨(hL.sel [1, 3] (by decide) rfl), ?_⟩
              refine DH.only 1 rfl (by kernel_rfl) (OP.val (v := (.int .i64 (w64 (1000 + x22.1)))) rfl (x_load1 Try.underlying2 rfl rfl (hL.cellB 0 rfl rfl)) ?_)
              refine ⟨(hL.sel [1, 3] (by decide) rfl), ?_⟩
              refine DH.only 5 rfl (by kernel_rfl) (S_lit ([0, w64 (1000 + x22.1), w64 ((w64 (1000 + x22.1)) + 1)] : List Int) hL Try.underlying35 Try_T2 rfl (by decide) (by first | (simp [Instr.fill, madeCells, Value.cells, ev, upd, Flat.enc, Flat.sz]; done) | rfl | kernel_rfl) rfl rfl ?_)
              intro wd791 v792 S793 hL
              refine ⟨(hL.sel [2, 4] (by decide) rfl), ?_⟩
              have hS := (hL.sel [2, 4] (by decide) rfl)
              obtain ⟨x794, ha795, hm⟩ := bndE hm
              obtain ⟨hz796, ha800⟩ := idxE ha795
              obtain ⟨b797, q798, hix799⟩ := rdL_ix (hL.rdO 0 rfl) hz796 ha800
              refine DH.take 8 rfl (by kernel_rfl) (by kernel_rfl) (by kernel_rfl) rfl rfl hS (YH.val (v := (.pointer (some ⟨b797, q798, none⟩))) (fun w' hS' => x_ix Try.underlying35 Try_T2 rfl rfl hix799)) ?_
              refine DH.only 9 rfl (by kernel_rfl) (OP.val (v := (.int .i64 x794)) rfl (x_load1 Try.underlying2 rfl rfl (rdF_cells (hL.rdO 0 rfl) hix799 ha800 0 _ rfl)) ?_)
              refine ⟨(hL.sel [2, 4] (by decide) rfl), ?_⟩
              have hS := (hL.sel [2, 4] (by decide) rfl)
              refine DH.take 10 rfl (by kernel_rfl) (by kernel_rfl) (by kernel_rfl) rfl rfl hS (YH.val (v := (.pointer (some ⟨b28, 2, none⟩))) (fun w' hS' => x_fieldAddr (fsz := 1) 0 2 2 Try.underlying46 rfl Try_T2 rfl rfl rfl)) ?_
              refine DH.only 11 rfl (by kernel_rfl) (S_store (cs' := #[(.int .i64 x7.1), (.int .i64 x12.1), (.int .i64 x794), (.int .i64 (w64 (1000 + x22.1)))]) hL 1 rfl Try_T2 rfl rfl rfl rfl rfl ?_)
              intro wd801 hL
              refine ⟨(hL.sel [2, 4] (by decide) rfl), ?_⟩
              refine DH.done (by kernel_rfl) ?_
              have hL := hL.sel [1, 2, 3, 4] (by decide) rfl
              exact ⟨(x786.2.1, x786.2.2, x7.1, x12.1, x794, w64 (1000 + x22.1)), hm, ⟨rfl, rfl, hL⟩⟩
          · refine ⟨_, rfl, ?_⟩
            obtain ⟨x802, hx803, hm⟩ := bndE hm
            refine OP.call rfl (x_call (vs := [(.pointer (some ⟨b1, 0, none⟩)), (.int .i64 3)]) Try_C84 ⟨rfl, rfl, trivial⟩) (M.spec_l01Next_ok _ (Src.mk a0.code x450.2.1 x450.2.2) (hL.exZ 3 2 (by decide) rfl rfl h3) (hL.get 2 rfl) 3 hx803) ?_
            rintro e804 wd805 ⟨rfl, hF806⟩
            refine ⟨_, rfl, ?_⟩
            have hL := hL.mut 2 rfl hF806
            simp only [lA, lB, lC, lD] at hL
            refine ⟨(hL.sel [1, 3] (by decide) rfl), ?_⟩
            refine DH.all (rs := [1, 3]) (by kernel_rfl) (by simp) ?_
            intro i807 hi808
            simp only [List.mem_cons, List.not_mem_nil, or_false] at hi808
            rcases hi808 with rfl | rfl
            · refine ⟨_, rfl, ?_⟩
              refine OP.val (v := (.int .i64 (w64 (1000 + x22.1)))) rfl (x_load1 Try.underlying2 rfl rfl (hL.cellB 0 rfl rfl)) ?_
              refine ⟨(hL.sel [1, 3] (by decide) rfl), ?_⟩
              refine DH.only 3 rfl (by kernel_rfl) (OP.val (v := (.int .i64 (w64 (1000 + x22.1)))) rfl (x_load1 Try.underlying2 rfl rfl (hL.cellB 0 rfl rfl)) ?_)
              refine ⟨(hL.sel [1, 3] (by decide) rfl), ?_⟩
              have hS := (hL.sel [1, 3] (by decide) rfl)
              refine DH.take 4 rfl (by kernel_rfl) (by kernel_rfl) (by kernel_rfl) rfl rfl hS (YH.val (v := (.int .i64 (w64 ((w64 (1000 + x22.1)) + 1)))) (fun w' hS' => x_add rfl rfl)) ?_
              refine DH.only 5 rfl (by kernel_rfl) (S_lit ([0, w64 (1000 + x22.1), w64 ((w64 (1000 + x22.1)) + 1)] : List Int) hL Try.underlying35 Try_T2 rfl (by decide) (by first | (simp [Instr.fill, madeCells, Value.cells, ev, upd, Flat.enc, Flat.sz]; done) | rfl | kernel_rfl) rfl rfl ?_)
              intro wd809 v810 S811 hL
              refine ⟨(hL.sel [2, 4] (by decide) rfl), ?_⟩
              have hS := (hL.sel [2, 4] (by decide) rfl)
              obtain ⟨x812, ha813, hm⟩ := bndE hm
              obtain ⟨hz814, ha818⟩ := idxE ha813
              obtain ⟨b815, q816, hix817⟩ := rdL_ix (hL.rdO 0 rfl) hz814 ha818
              refine DH.take 8 rfl (by kernel_rfl) (by kernel_rfl) (by kernel_rfl) rfl rfl hS (YH.val (v := (.pointer (some ⟨b815, q816, none⟩))) (fun w' hS' => x_ix Try.underlying35 Try_T2 rfl rfl hix817)) ?_
              refine DH.only 9 rfl (by kernel_rfl) (OP.val (v := (.int .i64 x812)) rfl (x_load1 Try.underlying2 rfl rfl (rdF_cells (hL.rdO 0 rfl) hix817 ha818 0 _ rfl)) ?_)
              refine ⟨(hL.sel [2, 4] (by decide) rfl), ?_⟩
              have hS := (hL.sel [2, 4] (by decide) rfl)
              refine DH.take 10 rfl (by kernel_rfl) (by kernel_rfl) (by kernel_rfl) rfl rfl hS (YH.val (v := (.pointer (some ⟨b28, 2, none⟩))) (fun w' hS' => x_fieldAddr (fsz := 1) 0 2 2 Try.underlying46 rfl Try_T2 rfl rfl rfl)) ?_
              refine DH.only 11 rfl (by kernel_rfl) (S_store (cs' := #[(.int .i64 x7.1), (.int .i64 x12.1), (.int .i64 x812), (.int .i64 (w64 (1000 + x22.1)))]) hL 1 rfl Try_T2 rfl rfl rfl rfl rfl ?_)
              intro wd819 hL
              refine ⟨(hL.sel [2, 4] (by decide) rfl), ?_⟩
              refine DH.done (by kernel_rfl) ?_
              have hL := hL.sel [1, 2, 3, 4] (by decide) rfl
              exact ⟨(x802.2.1, x802.2.2, x7.1, x12.1, x812, w64 (1000 + x22.1)), hm, ⟨rfl, rfl, hL⟩⟩
            · refine ⟨_, rfl, ?_⟩
              refine OP.val (v := (.int .i64 (w64 (1000 + x22.1)))) rfl (x_load1 Try.underlying2 rfl rfl (hL.cellB 0 rfl rfl)) ?_
              refine ⟨(hL.sel [1, 3] (by decide) rfl), ?_⟩
              have hS := (hL.sel [1, 3] (by decide) rfl)
              refine DH.take 4 rfl (by kernel_rfl) (by kernel_rfl) (by kernel_rfl) rfl rfl hS (YH.val (v := (.int .i64 (w64 ((w64 (1000 + x22.1)) + 1)))) (fun w' hS' => x_add rfl rfl)) ?_
              refine DH.only 1 rfl (by kernel_rfl) (OP.val (v := (.int .i64 (w64 (1000 + x22.1)))) rfl (x_load1 Try.underlying2 rfl rfl (hL.cellB 0 rfl rfl)) ?_)
              refine ⟨(hL.sel [1, 3] (by decide) rfl), ?_⟩
              refine DH.only 5 rfl (by kernel_rfl) (S_lit ([0, w64 (1000 + x22.1), w64 ((w64 (1000 + x22.1)) + 1)] : List Int) hL Try.underlying35 Try_T2 rfl (by decide) (by first | (simp [Instr.fill, madeCells, Value.cells, ev, upd, Flat.enc, Flat.sz]; done) | rfl | kernel_rfl) rfl rfl ?_)
              intro wd820 v821 S822 hL
              refine ⟨(hL.sel [2, 4] (by decide) rfl), ?_⟩
              have hS := (hL.sel [2, 4] (by decide) rfl)
              obtain ⟨x823, ha824, hm⟩ := bndE hm
              obtain ⟨hz825, ha829⟩ := idxE ha824
              obtain ⟨b826, q827, hix828⟩ := rdL_ix (hL.rdO 0 rfl) hz825 ha829
              refine DH.take 8 rfl (by kernel_rfl) (by kernel_rfl) (by kernel_rfl) rfl rfl hS (YH.val (v := (.pointer (some ⟨b826, q827, none⟩))) (fun w' hS' => x_ix Try.underlying35 Try_T2 rfl rfl hix828)) ?_
              refine DH.only 9 rfl (by kernel_rfl) (OP.val (v := (.int .i64 x823)) rfl (x_load1 Try.underlying2 rfl rfl (rdF_cells (hL.rdO 0 rfl) hix828 ha829 0 _ rfl)) ?_)
              refine ⟨(hL.sel [2, 4] (by decide) rfl), ?_⟩
              have hS := (hL.sel [2, 4] (by decide) rfl)
              refine DH.take 10 rfl (by kernel_rfl) (by kernel_rfl) (by kernel_rfl) rfl rfl hS (YH.val (v := (.pointer (some ⟨b28, 2, none⟩))) (fun w' hS' => x_fieldAddr (fsz := 1) 0 2 2 Try.underlying46 rfl Try_T2 rfl rfl rfl)) ?_
              refine DH.only 11 rfl (by kernel_rfl) (S_store (cs' := #[(.int .i64 x7.1), (.int .i64 x12.1), (.int .i64 x823), (.int .i64 (w64 (1000 + x22.1)))]) hL 1 rfl Try_T2 rfl rfl rfl rfl rfl ?_)
              intro wd830 hL
              refine ⟨(hL.sel [2, 4] (by decide) rfl), ?_⟩
              refine DH.done (by kernel_rfl) ?_
              have hL := hL.sel [1, 2, 3, 4] (by decide) rfl
              exact ⟨(x802.2.1, x802.2.2, x7.1, x12.1, x823, w64 (1000 + x22.1)), hm, ⟨rfl, rfl, hL⟩⟩
        · refine CW.seq ?_
          refine CW.regionL ?_
          refine OW.cons (OP.val (v := (.bool (x450.1 == 2))) rfl (x_eql rfl rfl) ?_)
          refine OW.cons (OP.val (v := (.bool (x450.1 == 2))) rfl (x_assign) ?_)
          refine OW.nil ?_
          refine CW.condM (t := x450.1 == 2) rfl hm (fun hb831 hm => ?_) (fun hb831 hm => ?_)
          · refine CW.regionL ?_
            refine OW.cons (S_lit ([3000, 3001] : List Int) hL Try.underlying35 Try_T2 rfl (by decide) (by first | (simp [Instr.fill, madeCells, Value.cells, ev, upd, Flat.enc, Flat.sz]; done) | rfl | kernel_rfl) rfl rfl ?_)
            intro wd832 v833 S834 hL
            refine OW.cons (OP.val (v := (.pointer (some ⟨b1, 0, none⟩))) rfl (x_move) ?_)
            obtain ⟨x835, hx836, hm⟩ := bndE hm
            refine OW.cons (OP.call rfl (x_call (vs := [(.pointer (some ⟨b1, 0, none⟩)), (.int .i64 2)]) Try_C84 ⟨rfl, rfl, trivial⟩) (M.spec_l01Next_ok _ (Src.mk a0.code x450.2.1 x450.2.2) (hL.exZ 4 3 (by decide) rfl rfl h3) (hL.get 3 rfl) 2 hx836) ?_)
            rintro e837 wd838 ⟨rfl, hF839⟩
            refine ⟨_, rfl, ?_⟩
            have hL := hL.mut 3 rfl hF839
            simp only [lA, lB, lC, lD] at hL
            obtain ⟨x840, ha841, hm⟩ := bndE hm
            obtain ⟨hz842, ha846⟩ := idxE ha841
            obtain ⟨b843, q844, hix845⟩ := rdL_ix (hL.rdO 0 rfl) hz842 ha846
            refine OW.cons (OP.val (v := (.pointer (some ⟨b843, q844, none⟩))) rfl (x_ix Try.underlying35 Try_T2 rfl rfl hix845) ?_)
            refine OW.cons (OP.val (v := (.int .i64 x840)) rfl (x_load1 Try.underlying2 rfl rfl (rdF_cells (hL.rdO 0 rfl) hix845 ha846 0 _ rfl)) ?_)
            refine OW.cons (OP.val (v := (.pointer (some ⟨b28, 3, none⟩))) rfl (x_fieldAddr (fsz := 1) 0 3 3 Try.underlying46 rfl Try_T2 rfl rfl rfl) ?_)
            refine OW.cons (S_store (cs' := #[(.int .i64 x7.1), (.int .i64 x12.1), (.int .i64 (w64 (600 + x17.1))), (.int .i64 x840)]) hL 1 rfl Try_T2 rfl rfl rfl rfl rfl ?_)
            intro wd847 hL
            refine OW.nil ?_
            have hL := hL.sel [1, 2, 3, 4] (by decide) rfl
            exact ⟨(x835.2.1, x835.2.2, x7.1, x12.1, w64 (600 + x17.1), x840), hm, ⟨rfl, rfl, hL⟩⟩
          · refine CW.seq ?_
            refine CW.regionL ?_
            refine OW.cons (OP.val (v := (.bool (x450.1 == 3))) rfl (x_eql rfl rfl) ?_)
            refine OW.cons (OP.val (v := (.bool (x450.1 == 3))) rfl (x_assign) ?_)
            refine OW.nil ?_
            refine CW.condM (t := x450.1 == 3) rfl hm (fun hb848 hm => ?_) (fun hb848 hm => ?_)
            · refine CW.regionL ?_
              refine OW.cons (S_lit ([(-1), 3000, 3001] : List Int) hL Try.underlying35 Try_T2 rfl (by decide) (by first | (simp [Instr.fill, madeCells, Value.cells, ev, upd, Flat.enc, Flat.sz]; done) | rfl | kernel_rfl) rfl rfl ?_)
              intro wd849 v850 S851 hL
              refine OW.cons (OP.val (v := (.pointer (some ⟨b1, 0, none⟩))) rfl (x_move) ?_)
              obtain ⟨x852, hx853, hm⟩ := bndE hm
              refine OW.cons (OP.call rfl (x_call (vs := [(.pointer (some ⟨b1, 0, none⟩)), (.int .i64 3)]) Try_C84 ⟨rfl, rfl, trivial⟩) (M.spec_l01Next_ok _ (Src.mk a0.code x450.2.1 x450.2.2) (hL.exZ 4 3 (by decide) rfl rfl h3) (hL.get 3 rfl) 3 hx853) ?_)
              rintro e854 wd855 ⟨rfl, hF856⟩
              refine ⟨_, rfl, ?_⟩
              have hL := hL.mut 3 rfl hF856
              simp only [lA, lB, lC, lD] at hL
              obtain ⟨x857, ha858, hm⟩ := bndE hm
              obtain ⟨hz859, ha863⟩ := idxE ha858
              obtain ⟨b860, q861, hix862⟩ := rdL_ix (hL.rdO 0 rfl) hz859 ha863
              refine OW.cons (OP.val (v := (.pointer (some ⟨b860, q861, none⟩))) rfl (x_ix Try.underlying35 Try_T2 rfl rfl hix862) ?_)
              refine OW.cons (OP.val (v := (.int .i64 x857)) rfl (x_load1 Try.underlying2 rfl rfl (rdF_cells (hL.rdO 0 rfl) hix862 ha863 0 _ rfl)) ?_)
              refine OW.cons (OP.val (v := (.pointer (some ⟨b28, 1, none⟩))) rfl (x_fieldAddr (fsz := 1) 0 1 1 Try.underlying46 rfl Try_T2 rfl rfl rfl) ?_)
              refine OW.cons (S_store (cs' := #[(.int .i64 x7.1), (.int .i64 x857), (.int .i64 (w64 (600 + x17.1))), (.int .i64 (w64 (1000 + x22.1)))]) hL 1 rfl Try_T2 rfl rfl rfl rfl rfl ?_)
              intro wd864 hL
              refine OW.nil ?_
              have hL := hL.sel [1, 2, 3, 4] (by decide) rfl
              exact ⟨(x852.2.1, x852.2.2, x7.1, x857, w64 (600 + x17.1), w64 (1000 + x22.1)), hm, ⟨rfl, rfl, hL⟩⟩
            · refine CW.skip ?_
              exact ⟨(x450.2.1, x450.2.2, x7.1, x12.1, w64 (600 + x17.1), w64 (1000 + x22.1)), hm, ⟨rfl, rfl, hL⟩⟩
    · intro s_j2 F658 wd659 hJ hm
      unfold M.spec_l25Draw_j2 at hm
      obtain ⟨f660, f661, hL⟩ := hJ
      exact ⟨(s_j2.1, s_j2.2.1, s_j2.2.2.1, s_j2.2.2.2.1, s_j2.2.2.2.2.1, s_j2.2.2.2.2.2), hm, ⟨f660, f661, hL⟩⟩
  · intro s_j1 F445 wd446 hJ hm
    unfold M.spec_l25Draw_j1 at hm
    obtain ⟨f447, f448, hL⟩ := hJ
    refine CW.seq ?_
    refine CW.regionL ?_
    refine OW.cons (OP.val (v := (.agg #[(.int .i64 s_j1.2.2.1), (.int .i64 s_j1.2.2.2.1), (.int .i64 s_j1.2.2.2.2.1), (.int .i64 s_j1.2.2.2.2.2)])) rfl (x_loadN (cs := [(.int .i64 s_j1.2.2.1), (.int .i64 s_j1.2.2.2.1), (.int .i64 s_j1.2.2.2.2.1), (.int .i64 s_j1.2.2.2.2.2)]) Try.underlying46 Try_T46 rfl f448 (hL.cellsB 0 rfl (o := 0) (l := [(.int .i64 s_j1.2.2.1), (.int .i64 s_j1.2.2.2.1), (.int .i64 s_j1.2.2.2.2.1), (.int .i64 s_j1.2.2.2.2.2)]) (by intro j u hj; exact (by simpa using hj)))) ?_)
    refine OW.cons (S_storeN (l := [(.int .i64 s_j1.2.2.1), (.int .i64 s_j1.2.2.2.1), (.int .i64 s_j1.2.2.2.2.1), (.int .i64 s_j1.2.2.2.2.2)]) (cs' := #[(.int .i64 s_j1.2.2.1), (.int .i64 s_j1.2.2.2.1), (.int .i64 s_j1.2.2.2.2.1), (.int .i64 s_j1.2.2.2.2.2)]) hL 1 rfl Try_T46 f447 rfl (List.forall_mem_cons.2 ⟨rfl, (List.forall_mem_cons.2 ⟨rfl, (List.forall_mem_cons.2 ⟨rfl, (List.forall_mem_cons.2 ⟨rfl, (fun _ h => by cases h)⟩)⟩)⟩)⟩) rfl (Nat.le_of_ble_eq_true rfl) rfl ?_)
    intro wd449 hL
    refine OW.nil ?_
    refine CW.ret ?_
    obtain rfl := Option.some.inj hm
    exact RRc rfl f447 (run_loadBlk Try.underlying46 Try_T46 (hL.get 1 rfl) rfl) ⟨rfl, hL.mutOut 3 rfl [2] (by decide) (by decide) rfl⟩

theorem M.spec_DrawProgressRace_ok (w0 : World) (a0 : List UInt8) {v1 : Value} (h2 : rdL (· < w0.heap.size) w0 v1 a0) {r : ProgressRules × Int × (List Finish) × (List Rating)} (hm : M.spec_DrawProgressRace a0 = some r) :
    Calls Try.prog 33 #[v1] w0 fun e w' => ∃ (rv0 : Value) (rS0 : Nat → Prop), ∃ (rv1 : Value) (rS1 : Nat → Prop), e = .returned (.tuple #[(.agg #[(.int .i64 r.1.Gain), (.int .i64 r.1.Step), (.int .i64 r.1.Low), (.int .i64 r.1.High)]), (.int .i64 r.2.1), rv0, rv1]) ∧ Fresh w0 w' [Ent.own 56 rS0 rv0 r.2.2.1, Ent.own 61 rS1 rv1 r.2.2.2] := by
  unfold M.spec_DrawProgressRace at hm
  refine calls_CW (args := [v1]) Try.func33 rfl rfl rfl ?_
  have hL := Hp.start w0
  refine CW.seq ?_
  refine CW.regionL ?_
  refine OW.cons (S_alloc (cs := #[(.int .i64 0), (.int .i64 0), (.int .i64 0), (.int .i64 0)]) hL Try_T46 rfl rfl ?_)
  intro wd3 b4 hL
  refine OW.cons (OP.val (v := (.int .i64 0)) rfl (x_assign) ?_)
  refine OW.cons (OP.val (v := (.slice none 0 0)) rfl (x_assign) ?_)
  refine OW.cons (OP.val (v := (.slice none 0 0)) rfl (x_assign) ?_)
  refine OW.nil ?_
  refine CW.seq ?_
  refine CW.regionL ?_
  refine OW.cons (OP.val (v := v1) rfl (x_move) ?_)
  obtain ⟨x5, hx6, hm⟩ := bndE hm
  refine OW.cons (OP.call rfl (x_call (vs := [v1]) Try_C63 ⟨rfl, trivial⟩) (M.spec_l01From_ok _ a0 (hL.rdS 1 rfl h2) hx6) ?_)
  rintro e8 wd9 ⟨b7, rfl, hF10⟩
  refine ⟨_, rfl, ?_⟩
  have hL := hL.pushAll hF10
  simp only [lA, lB, lC, lD] at hL
  refine OW.cons (OP.val (v := (.pointer (some ⟨b7, 0, none⟩))) rfl (x_assign) ?_)
  refine OW.nil ?_
  refine CW.seq ?_
  refine CW.regionL ?_
  refine OW.cons (OP.val (v := (.pointer (some ⟨b7, 0, none⟩))) rfl (x_move) ?_)
  obtain ⟨x11, hx12, hm⟩ := bndE hm
  refine OW.cons (OP.call rfl (x_call (vs := [(.pointer (some ⟨b7, 0, none⟩))]) Try_C64 ⟨rfl, trivial⟩) (M.spec_l25Draw_ok _ (Src.mk a0 x5.1 x5.2) (hL.exS 2 0 (by decide) rfl rfl h2) (hL.get 0 rfl) hx12) ?_)
  rintro e13 wd14 ⟨rfl, hF15⟩
  refine ⟨_, rfl, ?_⟩
  have hL := hL.mut 0 rfl hF15
  simp only [lA, lB, lC, lD] at hL
  refine OW.cons (S_alloc (cs := #[(.int .i64 0), (.int .i64 0), (.int .i64 0), (.int .i64 0)]) hL Try_T46 rfl rfl ?_)
  intro wd16 b17 hL
  refine OW.cons (S_storeN (l := [(.int .i64 x11.1.Gain), (.int .i64 x11.1.Step), (.int .i64 x11.1.Low), (.int .i64 x11.1.High)]) (cs' := #[(.int .i64 x11.1.Gain), (.int .i64 x11.1.Step), (.int .i64 x11.1.Low), (.int .i64 x11.1.High)]) hL 0 rfl Try_T46 rfl rfl (List.forall_mem_cons.2 ⟨rfl, (List.forall_mem_cons.2 ⟨rfl, (List.forall_mem_cons.2 ⟨rfl, (List.forall_mem_cons.2 ⟨rfl, (fun _ h => by cases h)⟩)⟩)⟩)⟩) rfl (Nat.le_of_ble_eq_true rfl) rfl ?_)
  intro wd18 hL
  refine OW.nil ?_
  refine CW.seq ?_
  refine CW.regionL ?_
  refine OW.cons (OP.val (v := (.pointer (some ⟨b7, 0, none⟩))) rfl (x_move) ?_)
  obtain ⟨x19, hx20, hm⟩ := bndE hm
  refine OW.cons (OP.call rfl (x_call (vs := [(.pointer (some ⟨b7, 0, none⟩))]) Try_C65 ⟨rfl, trivial⟩) (M.spec_l22DrawRace_ok _ (Src.mk a0 x11.2.1 x11.2.2) (hL.exS 3 1 (by decide) rfl rfl h2) (hL.get 1 rfl) hx20) ?_)
  rintro e23 wd24 ⟨v22, S21, rfl, hF25⟩
  refine ⟨_, rfl, ?_⟩
  have hL := hL.mut 1 rfl hF25
  simp only [lA, lB, lC, lD] at hL
  refine OW.cons (OP.val (v := (.tuple #[(.int .i64 x19.1.1), v22])) rfl (x_move) ?_)
  refine OW.cons (OP.val (v := (.int .i64 x19.1.1)) rfl (x_extract rfl rfl) ?_)
  refine OW.cons (OP.val (v := v22) rfl (x_extract rfl rfl) ?_)
  refine OW.cons (OP.val (v := (.int .i64 x19.1.1)) rfl (x_assign) ?_)
  refine OW.cons (OP.val (v := v22) rfl (x_assign) ?_)
  refine OW.nil ?_
  refine CW.seq ?_
  refine CW.drawH (fun w' => Hp w0 [Ent.own 56 S21 v22 x19.1.2, Ent.blk b17 46 #[(.int .i64 x11.1.Gain), (.int .i64 x11.1.Step), (.int .i64 x11.1.Low), (.int .i64 x11.1.High)], Ent.snap w0 w0.heap.size] w') Try_mixed ?_
  have hL := hL.call (Mod.drew _)
  have hS := (hL.sel [0, 1, 4] (by decide) rfl)
  refine DH.take 0 rfl (by kernel_rfl) (by kernel_rfl) (by kernel_rfl) rfl rfl hS (YH.val (v := (.agg #[(.int .i64 x11.1.Gain), (.int .i64 x11.1.Step), (.int .i64 x11.1.Low), (.int .i64 x11.1.High)])) (fun w' hS' => x_loadN (cs := [(.int .i64 x11.1.Gain), (.int .i64 x11.1.Step), (.int .i64 x11.1.Low), (.int .i64 x11.1.High)]) Try.underlying46 Try_T46 rfl rfl (hS'.cellsB 1 rfl (o := 0) (l := [(.int .i64 x11.1.Gain), (.int .i64 x11.1.Step), (.int .i64 x11.1.Low), (.int .i64 x11.1.High)]) (by intro j u hj; exact (by simpa using hj))))) ?_
  have hS := (hL.sel [0, 1, 4] (by decide) rfl)
  refine DH.take 1 rfl (by kernel_rfl) (by kernel_rfl) (by kernel_rfl) rfl rfl hS (YH.val (v := (.int .i64 x19.1.1)) (fun w' hS' => x_move)) ?_
  have hS := (hL.sel [0, 1, 4] (by decide) rfl)
  refine DH.take 2 rfl (by kernel_rfl) (by kernel_rfl) (by kernel_rfl) rfl rfl hS (YH.val (v := v22) (fun w' hS' => x_move)) ?_
  have hS := (hL.sel [0, 1, 4] (by decide) rfl)
  refine DH.take 3 rfl (by kernel_rfl) (by kernel_rfl) (by kernel_rfl) rfl rfl hS (YH.val (v := (.pointer (some ⟨b7, 0, none⟩))) (fun w' hS' => x_move)) ?_
  have hS := (hL.sel [0, 1, 4] (by decide) rfl)
  refine DH.take 4 rfl (by kernel_rfl) (by kernel_rfl) (by kernel_rfl) rfl rfl hS (YH.val (v := (.int .i64 x19.1.1)) (fun w' hS' => x_move)) ?_
  obtain ⟨x34, hx35, hm⟩ := bndE hm
  refine DH.only 5 rfl (by kernel_rfl) (OP.call rfl (x_call (vs := [(.pointer (some ⟨b7, 0, none⟩)), (.int .i64 x19.1.1)]) Try_C66 ⟨rfl, rfl, trivial⟩) (M.spec_l22DrawRatings_ok _ (Src.mk a0 x19.2.1 x19.2.2) (hL.exS 4 2 (by decide) rfl rfl h2) (hL.get 2 rfl) x19.1.1 hx35) ?_)
  rintro e38 wd39 ⟨v37, S36, rfl, hF40⟩
  refine ⟨_, rfl, ?_⟩
  have hL := hL.mut 2 rfl hF40
  simp only [lA, lB, lC, lD] at hL
  refine ⟨(hL.sel [1, 2, 5] (by decide) rfl), ?_⟩
  refine DH.only 6 rfl (by kernel_rfl) (S_storeN (l := [(.int .i64 x11.1.Gain), (.int .i64 x11.1.Step), (.int .i64 x11.1.Low), (.int .i64 x11.1.High)]) (cs' := #[(.int .i64 x11.1.Gain), (.int .i64 x11.1.Step), (.int .i64 x11.1.Low), (.int .i64 x11.1.High)]) hL 4 rfl Try_T46 rfl rfl (List.forall_mem_cons.2 ⟨rfl, (List.forall_mem_cons.2 ⟨rfl, (List.forall_mem_cons.2 ⟨rfl, (List.forall_mem_cons.2 ⟨rfl, (fun _ h => by cases h)⟩)⟩)⟩)⟩) rfl (Nat.le_of_ble_eq_true rfl) rfl ?_)
  intro wd41 hL
  refine ⟨(hL.sel [1, 2, 5] (by decide) rfl), ?_⟩
  have hS := (hL.sel [1, 2, 5] (by decide) rfl)
  refine DH.take 7 rfl (by kernel_rfl) (by kernel_rfl) (by kernel_rfl) rfl rfl hS (YH.val (v := (.int .i64 x19.1.1)) (fun w' hS' => x_assign)) ?_
  have hS := (hL.sel [1, 2, 5] (by decide) rfl)
  refine DH.take 8 rfl (by kernel_rfl) (by kernel_rfl) (by kernel_rfl) rfl rfl hS (YH.val (v := v22) (fun w' hS' => x_assign)) ?_
  have hS := (hL.sel [1, 2, 5] (by decide) rfl)
  refine DH.take 9 rfl (by kernel_rfl) (by kernel_rfl) (by kernel_rfl) rfl rfl hS (YH.val (v := v37) (fun w' hS' => x_assign)) ?_
  refine DH.done (by kernel_rfl) ?_
  refine CW.ret ?_
  obtain rfl := Option.some.inj hm
  exact RRs (v := (.agg #[(.int .i64 x11.1.Gain), (.int .i64 x11.1.Step), (.int .i64 x11.1.Low), (.int .i64 x11.1.High)])) (v2 := (.int .i64 x19.1.1)) (vs := [v22, v37]) (rs := [.cell 2 46, .tmp 3, .tmp 4, .tmp 5]) rfl ⟨resCell rfl (run_loadBlk Try.underlying46 Try_T46 (hL.get 4 rfl) rfl), resTmp rfl, resTmp rfl, resTmp rfl, trivial⟩ ⟨v22, S21, v37, S36, rfl, hL.fresh 5 rfl [1, 0] (by decide) (by decide) rfl⟩

theorem M.impl_finishesCode_ok (w0 : World) (a0 : List Finish) {v1 : Value} (h2 : rdL (· < w0.heap.size) w0 v1 a0) {r : Int} (hm : M.impl_finishesCode a0 = some r) :
    Calls Try.prog 67 #[v1] w0 fun e w' => e = .returned (.int .i64 r) ∧ Fresh w0 w' [] := by
  unfold M.impl_finishesCode at hm
  refine calls_CW (args := [v1]) Try.func67 rfl rfl rfl ?_
  have hL := Hp.start w0
  refine CW.seq ?_
  refine CW.regionL ?_
  refine OW.cons (OP.val (v := (.int .i64 0)) rfl (x_assign) ?_)
  refine OW.nil ?_
  refine CW.seq ?_
  refine CW.seq ?_
  refine CW.regionL ?_
  refine OW.cons (OP.val (v := v1) rfl (x_move) ?_)
  refine OW.cons (OP.val (v := (.int .i64 (a0.length : Int))) rfl (x_lenR Try.underlying28 rfl (hL.rdS 0 rfl h2)) ?_)
  refine OW.cons (OP.val (v := (.bool (decide (16 < (a0.length : Int))))) rfl (x_gtr rfl rfl) ?_)
  refine OW.nil ?_
  refine CW.condM (t := decide (16 < (a0.length : Int))) rfl hm (fun hb3 hm => ?_) (fun hb3 hm => ?_)
  · refine CW.seq ?_
    refine CW.regionL ?_
    refine OW.cons (OP.val (v := (.int .i64 3)) rfl (x_assign) ?_)
    refine OW.nil ?_
    refine CW.ret ?_
    obtain rfl := Option.some.inj hm
    exact RR1 rfl rfl ⟨rfl, hL.fresh 0 rfl [] (by decide) (by decide) rfl⟩
  · refine CW.skip ?_
    refine CW.seq ?_
    refine CW.seq ?_
    refine CW.regionL ?_
    refine OW.cons (OP.val (v := v1) rfl (x_move) ?_)
    refine OW.cons (OP.val (v := (.int .i64 (a0.length : Int))) rfl (x_lenR Try.underlying28 rfl (hL.rdS 0 rfl h2)) ?_)
    refine OW.cons (OP.val (v := (.int .i64 0)) rfl (x_move) ?_)
    refine OW.nil ?_
    obtain ⟨o40, ho41, hm⟩ := bndE hm
    refine CW.loopB (fun (s_l1 : Int) (F : Fr) (w : World) => F 8 = v1 ∧ F 9 = (.int .i64 (a0.length : Int)) ∧ F 10 = (.int .i64 s_l1) ∧ Hp w0 [Ent.snap w0 w0.heap.size] w) (fun o => outc o (fun x => some x) (fun s => M.impl_finishesCode_a1 s) = some r) ho41 hm ⟨rfl, rfl, rfl, hL⟩ ?_ ?_
    · intro s_l1 F42 wd43 hJ hm
      have hm := outcE hm
      have hm : M.impl_finishesCode_a1 s_l1 = some r := hm
      unfold M.impl_finishesCode_a1 at hm
      obtain ⟨f44, f45, f46, hL⟩ := hJ
      refine CW.seq ?_
      refine CW.regionL ?_
      refine OW.cons (OP.val (v := (.int .i64 0)) rfl (x_assign) ?_)
      refine OW.nil ?_
      refine CW.ret ?_
      obtain rfl := Option.some.inj hm
      exact RR1 rfl rfl ⟨rfl, hL.fresh 0 rfl [] (by decide) (by decide) rfl⟩
    · intro s_l1 F47 wd48 t38 hJ hm hr39
      unfold M.impl_finishesCode_l1 at hm
      obtain ⟨f49, f50, f51, hL⟩ := hJ
      refine CW.seq ?_
      refine CW.regionL ?_
      refine OW.cons (OP.val (v := (.bool (decide (s_l1 < (a0.length : Int))))) rfl (x_lss f51 f50) ?_)
      refine OW.nil ?_
      refine CW.seq ?_
      refine CW.condM (t := decide (s_l1 < (a0.length : Int))) rfl hm (fun hb52 hm => ?_) (fun hb52 hm => ?_)
      · refine CW.skip ?_
        refine CW.seq ?_
        refine CW.block ?_
        refine CW.seq ?_
        refine CW.regionL ?_
        obtain ⟨x53, ha54, hm⟩ := bndE hm
        obtain ⟨hz55, ha59⟩ := idxE ha54
        obtain ⟨b56, q57, hix58⟩ := rdL_ix (hL.rdS 0 rfl h2) hz55 ha59
        refine OW.cons (OP.val (v := (.pointer (some ⟨b56, q57, none⟩))) rfl (x_ix Try.underlying28 Try_T56 f49 f51 hix58) ?_)
        refine OW.cons (OP.val (v := (.agg #[(.int .i64 x53.Boat), (.int .i64 x53.Code), (.int .i64 x53.Time)])) rfl (x_loadN (cs := [(.int .i64 x53.Boat), (.int .i64 x53.Code), (.int .i64 x53.Time)]) Try.underlying56 Try_T56 rfl rfl (rdF_cells (hL.rdS 0 rfl h2) hix58 ha59)) ?_)
        refine OW.cons (S_alloc (cs := #[(.int .i64 0), (.int .i64 0), (.int .i64 0)]) hL Try_T56 rfl rfl ?_)
        intro wd60 b61 hL
        refine OW.cons (S_storeN (l := [(.int .i64 x53.Boat), (.int .i64 x53.Code), (.int .i64 x53.Time)]) (cs' := #[(.int .i64 x53.Boat), (.int .i64 x53.Code), (.int .i64 x53.Time)]) hL 0 rfl Try_T56 rfl rfl (List.forall_mem_cons.2 ⟨rfl, (List.forall_mem_cons.2 ⟨rfl, (List.forall_mem_cons.2 ⟨rfl, (fun _ h => by cases h)⟩)⟩)⟩) rfl (Nat.le_of_ble_eq_true rfl) rfl ?_)
        intro wd62 hL
        refine OW.nil ?_
        refine CW.seq ?_
        refine CW.regionL ?_
        refine OW.cons (OP.val (v := (.agg #[(.int .i64 x53.Boat), (.int .i64 x53.Code), (.int .i64 x53.Time)])) rfl (x_loadN (cs := [(.int .i64 x53.Boat), (.int .i64 x53.Code), (.int .i64 x53.Time)]) Try.underlying56 Try_T56 rfl rfl (hL.cellsB 0 rfl (o := 0) (l := [(.int .i64 x53.Boat), (.int .i64 x53.Code), (.int .i64 x53.Time)]) (by intro j u hj; exact (by simpa using hj)))) ?_)
        obtain ⟨x63, hx64, hm⟩ := bndE hm
        refine OW.cons (OP.call rfl (x_call (vs := [(.agg #[(.int .i64 x53.Boat), (.int .i64 x53.Code), (.int .i64 x53.Time)])]) Try_C86 ⟨rfl, trivial⟩) (M.impl_IsFinish_ok _ x53 hx64) ?_)
        rintro e65 wd66 ⟨rfl, hF67⟩
        refine ⟨_, rfl, ?_⟩
        have hL := hL.pushAll hF67
        simp only [lA, lB, lC, lD] at hL
        refine OW.cons (OP.val (v := (.bool (!x63))) rfl (x_not rfl) ?_)
        refine OW.nil ?_
        refine CW.condM (t := !x63) rfl hm (fun hb68 hm => ?_) (fun hb68 hm => ?_)
        · refine CW.seq ?_
          refine CW.regionL ?_
          refine OW.cons (OP.val (v := (.int .i64 1)) rfl (x_assign) ?_)
          refine OW.nil ?_
          refine CW.ret ?_
          obtain rfl := Option.some.inj hm
          have hm := hr39 _ rfl
          obtain rfl := Option.some.inj hm
          exact RR1 rfl rfl ⟨rfl, hL.fresh 1 rfl [] (by decide) (by decide) rfl⟩
        · refine CW.skip ?_
          refine CW.regionL ?_
          refine OW.cons (OP.val (v := (.int .i64 (w64 (s_l1 + 1)))) rfl (x_add f51 rfl) ?_)
          refine OW.cons (OP.val (v := (.int .i64 (w64 (s_l1 + 1)))) rfl (x_move) ?_)
          refine OW.nil ?_
          have hL := hL.sel [1] (by decide) rfl
          obtain rfl := Option.some.inj hm
          exact ⟨_, rfl, ⟨f49, f50, rfl, hL⟩⟩
      · refine CW.exit ?_
        refine XJ.hit ?_
        obtain rfl := Option.some.inj hm
        exact ⟨_, rfl, ⟨f49, f50, f51, hL⟩⟩

theorem M.impl_CountFinished_ok (w0 : World) (a0 : List Finish) {v1 : Value} (h2 : rdL (· < w0.heap.size) w0 v1 a0) {r : Int × Int} (hm : M.impl_CountFinished a0 = some r) :
    Calls Try.prog 34 #[v1] w0 fun e w' => e = .returned (.tuple #[(.int .i64 r.1), (.int .i64 r.2)]) ∧ Fresh w0 w' [] := by
  unfold M.impl_CountFinished at hm
  refine calls_CW (args := [v1]) Try.func34 rfl rfl rfl ?_
  have hL := Hp.start w0
  refine CW.seq ?_
  refine CW.regionL ?_
  refine OW.cons (OP.val (v := (.int .i64 0)) rfl (x_assign) ?_)
  refine OW.cons (OP.val (v := (.int .i64 0)) rfl (x_assign) ?_)
  refine OW.nil ?_
  refine CW.seq ?_
  refine CW.seq ?_
  refine CW.regionL ?_
  refine OW.cons (OP.val (v := v1) rfl (x_move) ?_)
  obtain ⟨x3, hx4, hm⟩ := bndE hm
  refine OW.cons (OP.call rfl (x_call (vs := [v1]) Try_C67 ⟨rfl, trivial⟩) (M.impl_finishesCode_ok _ a0 (hL.rdS 0 rfl h2) hx4) ?_)
  rintro e5 wd6 ⟨rfl, hF7⟩
  refine ⟨_, rfl, ?_⟩
  have hL := hL.pushAll hF7
  simp only [lA, lB, lC, lD] at hL
  refine OW.cons (OP.val (v := (.int .i64 x3)) rfl (x_assign) ?_)
  refine OW.nil ?_
  refine CW.seq ?_
  refine CW.regionL ?_
  refine OW.cons (OP.val (v := (.int .i64 x3)) rfl (x_move) ?_)
  refine OW.cons (OP.val (v := (.bool (x3 != 0))) rfl (x_neq rfl rfl) ?_)
  refine OW.nil ?_
  refine CW.condM (t := x3 != 0) rfl hm (fun hb8 hm => ?_) (fun hb8 hm => ?_)
  · refine CW.seq ?_
    refine CW.regionL ?_
    refine OW.cons (OP.val (v := (.int .i64 x3)) rfl (x_move) ?_)
    refine OW.cons (OP.val (v := (.int .i64 0)) rfl (x_assign) ?_)
    refine OW.cons (OP.val (v := (.int .i64 x3)) rfl (x_assign) ?_)
    refine OW.nil ?_
    refine CW.ret ?_
    obtain rfl := Option.some.inj hm
    exact RR2 rfl rfl rfl ⟨rfl, hL.fresh 0 rfl [] (by decide) (by decide) rfl⟩
  · refine CW.skip ?_
    refine CW.seq ?_
    refine CW.regionL ?_
    refine OW.cons (OP.val (v := (.int .i64 0)) rfl (x_assign) ?_)
    refine OW.nil ?_
    refine CW.seq ?_
    refine CW.seq ?_
    refine CW.regionL ?_
    refine OW.cons (OP.val (v := v1) rfl (x_move) ?_)
    refine OW.cons (OP.val (v := (.int .i64 (a0.length : Int))) rfl (x_lenR Try.underlying28 rfl (hL.rdS 0 rfl h2)) ?_)
    refine OW.cons (OP.val (v := (.int .i64 0)) rfl (x_move) ?_)
    refine OW.nil ?_
    obtain ⟨o137, ho138, hm⟩ := bndE hm
    refine CW.loopB (fun (s_l1 : Int × Int) (F : Fr) (w : World) => F 5 = (.int .i64 s_l1.1) ∧ F 13 = v1 ∧ F 14 = (.int .i64 (a0.length : Int)) ∧ F 15 = (.int .i64 s_l1.2) ∧ Hp w0 [Ent.snap w0 w0.heap.size] w) (fun o => outc o (fun x => some x) (fun s => M.impl_CountFinished_a1 s) = some r) ho138 hm ⟨rfl, rfl, rfl, rfl, hL⟩ ?_ ?_
    · intro s_l1 F139 wd140 hJ hm
      have hm := outcE hm
      have hm : M.impl_CountFinished_a1 s_l1 = some r := hm
      unfold M.impl_CountFinished_a1 at hm
      obtain ⟨f141, f142, f143, f144, hL⟩ := hJ
      refine CW.seq ?_
      refine CW.regionL ?_
      refine OW.cons (OP.val (v := (.int .i64 s_l1.1)) rfl (x_mv f141) ?_)
      refine OW.cons (OP.val (v := (.int .i64 s_l1.1)) rfl (x_assign) ?_)
      refine OW.cons (OP.val (v := (.int .i64 0)) rfl (x_assign) ?_)
      refine OW.nil ?_
      refine CW.ret ?_
      obtain rfl := Option.some.inj hm
      exact RR2 rfl rfl rfl ⟨rfl, hL.fresh 0 rfl [] (by decide) (by decide) rfl⟩
    · intro s_l1 F145 wd146 t135 hJ hm hr136
      unfold M.impl_CountFinished_l1 at hm
      obtain ⟨f147, f148, f149, f150, hL⟩ := hJ
      refine CW.seq ?_
      refine CW.regionL ?_
      refine OW.cons (OP.val (v := (.bool (decide (s_l1.2 < (a0.length : Int))))) rfl (x_lss f150 f149) ?_)
      refine OW.nil ?_
      refine CW.seq ?_
      refine CW.condM (t := decide (s_l1.2 < (a0.length : Int))) rfl hm (fun hb151 hm => ?_) (fun hb151 hm => ?_)
      · refine CW.skip ?_
        refine CW.seqJ (fun (s_j1 : Int) (F : Fr) (w : World) => F 5 = (.int .i64 s_j1) ∧ F 13 = v1 ∧ F 14 = (.int .i64 (a0.length : Int)) ∧ F 15 = (.int .i64 s_l1.2) ∧ Hp w0 [Ent.snap w0 w0.heap.size] w) (fun s_j1 => M.impl_CountFinished_j1 s_l1 s_j1 = some t135) ?_ ?_
        · refine CW.blockJ (fun (s_j2 : Int) (F : Fr) (w : World) => F 5 = (.int .i64 s_j2) ∧ F 13 = v1 ∧ F 14 = (.int .i64 (a0.length : Int)) ∧ F 15 = (.int .i64 s_l1.2) ∧ Hp w0 [Ent.snap w0 w0.heap.size] w) (fun s_j2 => M.impl_CountFinished_j2 s_l1 s_j2 = some t135) ?_ ?_
          · refine CW.seq ?_
            refine CW.regionL ?_
            obtain ⟨x203, ha204, hm⟩ := bndE hm
            obtain ⟨hz205, ha209⟩ := idxE ha204
            obtain ⟨b206, q207, hix208⟩ := rdL_ix (hL.rdS 0 rfl h2) hz205 ha209
            refine OW.cons (OP.val (v := (.pointer (some ⟨b206, q207, none⟩))) rfl (x_ix Try.underlying28 Try_T56 f148 f150 hix208) ?_)
            refine OW.cons (OP.val (v := (.agg #[(.int .i64 x203.Boat), (.int .i64 x203.Code), (.int .i64 x203.Time)])) rfl (x_loadN (cs := [(.int .i64 x203.Boat), (.int .i64 x203.Code), (.int .i64 x203.Time)]) Try.underlying56 Try_T56 rfl rfl (rdF_cells (hL.rdS 0 rfl h2) hix208 ha209)) ?_)
            refine OW.cons (S_alloc (cs := #[(.int .i64 0), (.int .i64 0), (.int .i64 0)]) hL Try_T56 rfl rfl ?_)
            intro wd210 b211 hL
            refine OW.cons (S_storeN (l := [(.int .i64 x203.Boat), (.int .i64 x203.Code), (.int .i64 x203.Time)]) (cs' := #[(.int .i64 x203.Boat), (.int .i64 x203.Code), (.int .i64 x203.Time)]) hL 0 rfl Try_T56 rfl rfl (List.forall_mem_cons.2 ⟨rfl, (List.forall_mem_cons.2 ⟨rfl, (List.forall_mem_cons.2 ⟨rfl, (fun _ h => by cases h)⟩)⟩)⟩) rfl (Nat.le_of_ble_eq_true rfl) rfl ?_)
            intro wd212 hL
            refine OW.nil ?_
            refine CW.seq ?_
            refine CW.regionL ?_
            refine OW.cons (OP.val (v := (.pointer (some ⟨b211, 1, none⟩))) rfl (x_fieldAddr (fsz := 1) 0 1 1 Try.underlying56 rfl Try_T2 rfl rfl rfl) ?_)
            refine OW.cons (OP.val (v := (.int .i64 x203.Code)) rfl (x_load1 Try.underlying2 rfl rfl (hL.cellB 0 rfl rfl)) ?_)
            refine OW.cons (OP.val (v := (.bool (x203.Code == 0))) rfl (x_eql rfl rfl) ?_)
            refine OW.nil ?_
            refine CW.condM (t := x203.Code == 0) rfl hm (fun hb213 hm => ?_) (fun hb213 hm => ?_)
            · refine CW.regionL ?_
              refine OW.cons (OP.val (v := (.int .i64 s_l1.1)) rfl (x_mv f147) ?_)
              refine OW.cons (OP.val (v := (.int .i64 (w64 (s_l1.1 + 1)))) rfl (x_add rfl rfl) ?_)
              refine OW.cons (OP.val (v := (.int .i64 (w64 (s_l1.1 + 1)))) rfl (x_assign) ?_)
              refine OW.nil ?_
              have hL := hL.sel [1] (by decide) rfl
              exact ⟨w64 (s_l1.1 + 1), hm, ⟨rfl, f148, f149, f150, hL⟩⟩
            · refine CW.skip ?_
              have hL := hL.sel [1] (by decide) rfl
              exact ⟨s_l1.1, hm, ⟨f147, f148, f149, f150, hL⟩⟩
          · intro s_j2 F197 wd198 hJ hm
            unfold M.impl_CountFinished_j2 at hm
            obtain ⟨f199, f200, f201, f202, hL⟩ := hJ
            exact ⟨s_j2, hm, ⟨f199, f200, f201, f202, hL⟩⟩
        · intro s_j1 F180 wd181 hJ hm
          unfold M.impl_CountFinished_j1 at hm
          obtain ⟨f182, f183, f184, f185, hL⟩ := hJ
          refine CW.regionL ?_
          refine OW.cons (OP.val (v := (.int .i64 (w64 (s_l1.2 + 1)))) rfl (x_add f185 rfl) ?_)
          refine OW.cons (OP.val (v := (.int .i64 (w64 (s_l1.2 + 1)))) rfl (x_move) ?_)
          refine OW.nil ?_
          obtain rfl := Option.some.inj hm
          exact ⟨_, rfl, ⟨f182, f183, f184, rfl, hL⟩⟩
      · refine CW.exit ?_
        refine XJ.hit ?_
        obtain rfl := Option.some.inj hm
        exact ⟨_, rfl, ⟨f147, f148, f149, f150, hL⟩⟩

theorem M.impl_ProgressFactor_ok (w0 : World) (a0 : ProgressRules) (a1 : Int) (a2 : Int) {r : Int × Int} (hm : M.impl_ProgressFactor a0 a1 a2 = some r) :
    Calls Try.prog 35 #[(.agg #[(.int .i64 a0.Gain), (.int .i64 a0.Step), (.int .i64 a0.Low), (.int .i64 a0.High)]), (.int .i64 a1), (.int .i64 a2)] w0 fun e w' => e = .returned (.tuple #[(.int .i64 r.1), (.int .i64 r.2)]) ∧ Fresh w0 w' [] := by
  unfold M.impl_ProgressFactor at hm
  refine calls_CW (args := [(.agg #[(.int .i64 a0.Gain), (.int .i64 a0.Step), (.int .i64 a0.Low), (.int .i64 a0.High)]), (.int .i64 a1), (.int .i64 a2)]) Try.func35 rfl rfl rfl ?_
  have hL := Hp.start w0
  refine CW.seq ?_
  refine CW.regionL ?_
  refine OW.cons (S_box (cs := #[(.int .i64 a0.Gain), (.int .i64 a0.Step), (.int .i64 a0.Low), (.int .i64 a0.High)]) hL rfl rfl rfl ?_)
  intro wd1 b2 hL
  refine OW.cons (OP.val (v := (.int .i64 0)) rfl (x_assign) ?_)
  refine OW.cons (OP.val (v := (.int .i64 0)) rfl (x_assign) ?_)
  refine OW.nil ?_
  refine CW.seq ?_
  refine CW.seq ?_
  refine CW.regionL ?_
  refine OW.cons (OP.val (v := (.agg #[(.int .i64 a0.Gain), (.int .i64 a0.Step), (.int .i64 a0.Low), (.int .i64 a0.High)])) rfl (x_loadN (cs := [(.int .i64 a0.Gain), (.int .i64 a0.Step), (.int .i64 a0.Low), (.int .i64 a0.High)]) Try.underlying46 Try_T46 rfl rfl (hL.cellsB 0 rfl (o := 0) (l := [(.int .i64 a0.Gain), (.int .i64 a0.Step), (.int .i64 a0.Low), (.int .i64 a0.High)]) (by intro j u hj; exact (by simpa using hj)))) ?_)
  obtain ⟨x3, hx4, hm⟩ := bndE hm
  refine OW.cons (OP.call rfl (x_call (vs := [(.agg #[(.int .i64 a0.Gain), (.int .i64 a0.Step), (.int .i64 a0.Low), (.int .i64 a0.High)])]) Try_C59 ⟨rfl, trivial⟩) (M.impl_IsProgress_ok _ a0 hx4) ?_)
  rintro e5 wd6 ⟨rfl, hF7⟩
  refine ⟨_, rfl, ?_⟩
  have hL := hL.pushAll hF7
  simp only [lA, lB, lC, lD] at hL
  refine OW.cons (OP.val (v := (.bool (!x3))) rfl (x_not rfl) ?_)
  refine OW.nil ?_
  refine CW.condM (t := !x3) rfl hm (fun hb8 hm => ?_) (fun hb8 hm => ?_)
  · refine CW.seq ?_
    refine CW.regionL ?_
    refine OW.cons (OP.val (v := (.int .i64 0)) rfl (x_assign) ?_)
    refine OW.cons (OP.val (v := (.int .i64 1)) rfl (x_assign) ?_)
    refine OW.nil ?_
    refine CW.ret ?_
    obtain rfl := Option.some.inj hm
    exact RR2 rfl rfl rfl ⟨rfl, hL.fresh 1 rfl [] (by decide) (by decide) rfl⟩
  · refine CW.skip ?_
    refine CW.seq ?_
    refine CW.seqJ (fun (s_j1 : Bool) (F : Fr) (w : World) => F 1 = (.int .i64 a1) ∧ F 2 = (.int .i64 a2) ∧ F 3 = (.pointer (some ⟨b2, 0, none⟩)) ∧ F 18 = (.bool s_j1) ∧ Hp w0 [Ent.blk b2 46 #[(.int .i64 a0.Gain), (.int .i64 a0.Step), (.int .i64 a0.Low), (.int .i64 a0.High)], Ent.snap w0 w0.heap.size] w) (fun s_j1 => M.impl_ProgressFactor_j1 a0 a1 a2 s_j1 = some r) ?_ ?_
    · refine CW.regionL ?_
      refine OW.cons (OP.val (v := (.int .i64 a1)) rfl (x_move) ?_)
      obtain ⟨x32, hx33, hm⟩ := bndE hm
      refine OW.cons (OP.call rfl (x_call (vs := [(.int .i64 a1)]) Try_C68 ⟨rfl, trivial⟩) (M.impl_isFactor_ok _ a1 hx33) ?_)
      rintro e34 wd35 ⟨rfl, hF36⟩
      refine ⟨_, rfl, ?_⟩
      have hL := hL.pushAll hF36
      simp only [lA, lB, lC, lD] at hL
      refine OW.cons (OP.val (v := (.bool (!x32))) rfl (x_not rfl) ?_)
      refine OW.cons (OP.val (v := (.bool (!x32))) rfl (x_move) ?_)
      refine ifB_elim hm (fun hb37 hm => ?_) (fun hb37 hm => ?_)
      · refine OW.cons (OP.no' rfl rfl hb37 rfl ?_)
        refine OW.cons (OP.no' rfl rfl hb37 rfl ?_)
        refine OW.cons (OP.no' rfl rfl hb37 rfl ?_)
        refine OW.cons (OP.val (v := (.bool true)) rfl (x_pickT' rfl hb37 rfl) ?_)
        refine OW.nil ?_
        exact ⟨true, hm, ⟨rfl, rfl, rfl, rfl, hL⟩⟩
      · refine OW.cons (OP.yes' rfl rfl hb37 (OP.val (v := (.int .i64 a2)) rfl (x_move) ?_))
        obtain ⟨x38, hx39, hm⟩ := bndE hm
        refine OW.cons (OP.yes' rfl rfl hb37 (OP.call rfl (x_call (vs := [(.int .i64 a2)]) Try_C68 ⟨rfl, trivial⟩) (M.impl_isFactor_ok _ a2 hx39) ?_))
        rintro e40 wd41 ⟨rfl, hF42⟩
        refine ⟨_, rfl, ?_⟩
        have hL := hL.pushAll hF42
        simp only [lA, lB, lC, lD] at hL
        refine OW.cons (OP.yes' rfl rfl hb37 (OP.val (v := (.bool (!x38))) rfl (x_not rfl) ?_))
        refine OW.cons (OP.val (v := (.bool (!x38))) rfl (x_pickF' rfl hb37 rfl) ?_)
        refine OW.nil ?_
        exact ⟨!x38, hm, ⟨rfl, rfl, rfl, rfl, hL⟩⟩
    · intro s_j1 F20 wd21 hJ hm
      unfold M.impl_ProgressFactor_j1 at hm
      obtain ⟨f22, f23, f24, f25, hL⟩ := hJ
      refine CW.condM (t := s_j1) f25 hm (fun hb26 hm => ?_) (fun hb26 hm => ?_)
      · refine CW.seq ?_
        refine CW.regionL ?_
        refine OW.cons (OP.val (v := (.int .i64 0)) rfl (x_assign) ?_)
        refine OW.cons (OP.val (v := (.int .i64 2)) rfl (x_assign) ?_)
        refine OW.nil ?_
        refine CW.ret ?_
        obtain rfl := Option.some.inj hm
        exact RR2 rfl rfl rfl ⟨rfl, hL.fresh 1 rfl [] (by decide) (by decide) rfl⟩
      · refine CW.skip ?_
        refine CW.seq ?_
        refine CW.regionL ?_
        refine OW.cons (OP.val (v := (.agg #[(.int .i64 a0.Gain), (.int .i64 a0.Step), (.int .i64 a0.Low), (.int .i64 a0.High)])) rfl (x_loadN (cs := [(.int .i64 a0.Gain), (.int .i64 a0.Step), (.int .i64 a0.Low), (.int .i64 a0.High)]) Try.underlying46 Try_T46 rfl f24 (hL.cellsB 0 rfl (o := 0) (l := [(.int .i64 a0.Gain), (.int .i64 a0.Step), (.int .i64 a0.Low), (.int .i64 a0.High)]) (by intro j u hj; exact (by simpa using hj)))) ?_)
        refine OW.cons (OP.val (v := (.int .i64 a1)) rfl (x_mv f22) ?_)
        refine OW.cons (OP.val (v := (.int .i64 a2)) rfl (x_mv f23) ?_)
        obtain ⟨x27, hx28, hm⟩ := bndE hm
        refine OW.cons (OP.call rfl (x_call (vs := [(.agg #[(.int .i64 a0.Gain), (.int .i64 a0.Step), (.int .i64 a0.Low), (.int .i64 a0.High)]), (.int .i64 a1), (.int .i64 a2)]) Try_C69 ⟨rfl, rfl, rfl, trivial⟩) (M.impl_progress_ok _ a0 a1 a2 hx28) ?_)
        rintro e29 wd30 ⟨rfl, hF31⟩
        refine ⟨_, rfl, ?_⟩
        have hL := hL.pushAll hF31
        simp only [lA, lB, lC, lD] at hL
        refine OW.cons (OP.val (v := (.int .i64 x27)) rfl (x_assign) ?_)
        refine OW.cons (OP.val (v := (.int .i64 0)) rfl (x_assign) ?_)
        refine OW.nil ?_
        refine CW.ret ?_
        obtain rfl := Option.some.inj hm
        exact RR2 rfl rfl rfl ⟨rfl, hL.fresh 1 rfl [] (by decide) (by decide) rfl⟩

theorem M.laws_FnProgressRace_ok (w0 : World) (a0 : List UInt8) {v1 : Value} (h2 : rdL (· < w0.heap.size) w0 v1 a0) {r : Bool} (hm : M.laws_FnProgressRace a0 = some r) :
    Calls Try.prog 7 #[v1] w0 fun e w' => e = .returned (.bool r) ∧ Fresh w0 w' [] := by
  unfold M.laws_FnProgressRace at hm
  refine calls_CW (args := [v1]) Try.func7 rfl rfl rfl ?_
  have hL := Hp.start w0
  refine CW.seq ?_
  refine CW.regionL ?_
  refine OW.cons (OP.val (v := (.bool false)) rfl (x_assign) ?_)
  refine OW.nil ?_
  refine CW.seq ?_
  refine CW.seq ?_
  refine CW.regionL ?_
  refine OW.cons (OP.val (v := v1) rfl (x_move) ?_)
  obtain ⟨x3, hx4, hm⟩ := bndE hm
  refine OW.cons (OP.call rfl (x_call (vs := [v1]) Try_C30 ⟨rfl, trivial⟩) (M.laws_big_ok _ a0 (hL.rdS 0 rfl h2) hx4) ?_)
  rintro e5 wd6 ⟨rfl, hF7⟩
  refine ⟨_, rfl, ?_⟩
  have hL := hL.pushAll hF7
  simp only [lA, lB, lC, lD] at hL
  refine OW.nil ?_
  refine CW.condM (t := x3) rfl hm (fun hb8 hm => ?_) (fun hb8 hm => ?_)
  · refine CW.seq ?_
    refine CW.regionL ?_
    refine OW.cons (OP.val (v := (.bool true)) rfl (x_assign) ?_)
    refine OW.nil ?_
    refine CW.ret ?_
    obtain rfl := Option.some.inj hm
    exact RR1 rfl rfl ⟨rfl, hL.fresh 0 rfl [] (by decide) (by decide) rfl⟩
  · refine CW.skip ?_
    refine CW.seq ?_
    refine CW.regionL ?_
    refine OW.cons (OP.val (v := v1) rfl (x_move) ?_)
    obtain ⟨x9, hx10, hm⟩ := bndE hm
    refine OW.cons (OP.call rfl (x_call (vs := [v1]) Try_C33 ⟨rfl, trivial⟩) (M.spec_DrawProgressRace_ok _ a0 (hL.rdS 0 rfl h2) hx10) ?_)
    rintro e15 wd16 ⟨v12, S11, v14, S13, rfl, hF17⟩
    refine ⟨_, rfl, ?_⟩
    have hL := hL.pushAll hF17
    simp only [lA, lB, lC, lD] at hL
    refine OW.cons (OP.val (v := (.tuple #[(.agg #[(.int .i64 x9.1.Gain), (.int .i64 x9.1.Step), (.int .i64 x9.1.Low), (.int .i64 x9.1.High)]), (.int .i64 x9.2.1), v12, v14])) rfl (x_move) ?_)
    refine OW.cons (OP.val (v := (.agg #[(.int .i64 x9.1.Gain), (.int .i64 x9.1.Step), (.int .i64 x9.1.Low), (.int .i64 x9.1.High)])) rfl (x_extract rfl rfl) ?_)
    refine OW.cons (OP.val (v := (.int .i64 x9.2.1)) rfl (x_extract rfl rfl) ?_)
    refine OW.cons (OP.val (v := v12) rfl (x_extract rfl rfl) ?_)
    refine OW.cons (OP.val (v := v14) rfl (x_extract rfl rfl) ?_)
    refine OW.cons (S_alloc (cs := #[(.int .i64 0), (.int .i64 0), (.int .i64 0), (.int .i64 0)]) hL Try_T46 rfl rfl ?_)
    intro wd18 b19 hL
    refine OW.cons (S_storeN (l := [(.int .i64 x9.1.Gain), (.int .i64 x9.1.Step), (.int .i64 x9.1.Low), (.int .i64 x9.1.High)]) (cs' := #[(.int .i64 x9.1.Gain), (.int .i64 x9.1.Step), (.int .i64 x9.1.Low), (.int .i64 x9.1.High)]) hL 0 rfl Try_T46 rfl rfl (List.forall_mem_cons.2 ⟨rfl, (List.forall_mem_cons.2 ⟨rfl, (List.forall_mem_cons.2 ⟨rfl, (List.forall_mem_cons.2 ⟨rfl, (fun _ h => by cases h)⟩)⟩)⟩)⟩) rfl (Nat.le_of_ble_eq_true rfl) rfl ?_)
    intro wd20 hL
    refine OW.cons (OP.val (v := (.int .i64 x9.2.1)) rfl (x_assign) ?_)
    refine OW.cons (OP.val (v := v12) rfl (x_assign) ?_)
    refine OW.cons (OP.val (v := v14) rfl (x_assign) ?_)
    refine OW.nil ?_
    refine CW.seq ?_
    refine CW.regionL ?_
    refine OW.cons (OP.val (v := (.agg #[(.int .i64 x9.1.Gain), (.int .i64 x9.1.Step), (.int .i64 x9.1.Low), (.int .i64 x9.1.High)])) rfl (x_loadN (cs := [(.int .i64 x9.1.Gain), (.int .i64 x9.1.Step), (.int .i64 x9.1.Low), (.int .i64 x9.1.High)]) Try.underlying46 Try_T46 rfl rfl (hL.cellsB 0 rfl (o := 0) (l := [(.int .i64 x9.1.Gain), (.int .i64 x9.1.Step), (.int .i64 x9.1.Low), (.int .i64 x9.1.High)]) (by intro j u hj; exact (by simpa using hj)))) ?_)
    refine OW.cons (OP.val (v := (.int .i64 x9.2.1)) rfl (x_move) ?_)
    refine OW.cons (OP.val (v := v12) rfl (x_move) ?_)
    refine OW.cons (OP.val (v := v14) rfl (x_move) ?_)
    obtain ⟨x21, hx22, hm⟩ := bndE hm
    refine OW.cons (OP.call rfl (x_call (vs := [(.agg #[(.int .i64 x9.1.Gain), (.int .i64 x9.1.Step), (.int .i64 x9.1.Low), (.int .i64 x9.1.High)]), (.int .i64 x9.2.1), v12, v14]) Try_C28 ⟨rfl, rfl, rfl, rfl, trivial⟩) (M.impl_ProgressRace_ok _ x9.1 x9.2.1 x9.2.2.1 (hL.rdO 1 rfl) x9.2.2.2 (hL.rdO 2 rfl) hx22) ?_)
    rintro e25 wd26 ⟨v24, S23, rfl, hF27⟩
    refine ⟨_, rfl, ?_⟩
    have hL := hL.pushAll hF27
    simp only [lA, lB, lC, lD] at hL
    refine OW.cons (OP.val (v := (.tuple #[v24, (.int .i64 x21.2)])) rfl (x_move) ?_)
    refine OW.cons (OP.val (v := v24) rfl (x_extract rfl rfl) ?_)
    refine OW.cons (OP.val (v := (.int .i64 x21.2)) rfl (x_extract rfl rfl) ?_)
    refine OW.cons (OP.val (v := v24) rfl (x_assign) ?_)
    refine OW.cons (OP.val (v := (.int .i64 x21.2)) rfl (x_assign) ?_)
    refine OW.nil ?_
    refine CW.seq ?_
    refine CW.regionL ?_
    refine OW.cons (OP.val (v := (.agg #[(.int .i64 x9.1.Gain), (.int .i64 x9.1.Step), (.int .i64 x9.1.Low), (.int .i64 x9.1.High)])) rfl (x_loadN (cs := [(.int .i64 x9.1.Gain), (.int .i64 x9.1.Step), (.int .i64 x9.1.Low), (.int .i64 x9.1.High)]) Try.underlying46 Try_T46 rfl rfl (hL.cellsB 1 rfl (o := 0) (l := [(.int .i64 x9.1.Gain), (.int .i64 x9.1.Step), (.int .i64 x9.1.Low), (.int .i64 x9.1.High)]) (by intro j u hj; exact (by simpa using hj)))) ?_)
    refine OW.cons (OP.val (v := (.int .i64 x9.2.1)) rfl (x_move) ?_)
    refine OW.cons (OP.val (v := v12) rfl (x_move) ?_)
    refine OW.cons (OP.val (v := v14) rfl (x_move) ?_)
    obtain ⟨x28, hx29, hm⟩ := bndE hm
    refine OW.cons (OP.call rfl (x_call (vs := [(.agg #[(.int .i64 x9.1.Gain), (.int .i64 x9.1.Step), (.int .i64 x9.1.Low), (.int .i64 x9.1.High)]), (.int .i64 x9.2.1), v12, v14]) Try_C26 ⟨rfl, rfl, rfl, rfl, trivial⟩) (M.spec_ProgressRace_ok _ x9.1 x9.2.1 x9.2.2.1 (hL.rdO 2 rfl) x9.2.2.2 (hL.rdO 3 rfl) hx29) ?_)
    rintro e32 wd33 ⟨v31, S30, rfl, hF34⟩
    refine ⟨_, rfl, ?_⟩
    have hL := hL.pushAll hF34
    simp only [lA, lB, lC, lD] at hL
    refine OW.cons (OP.val (v := (.tuple #[v31, (.int .i64 x28.2)])) rfl (x_move) ?_)
    refine OW.cons (OP.val (v := v31) rfl (x_extract rfl rfl) ?_)
    refine OW.cons (OP.val (v := (.int .i64 x28.2)) rfl (x_extract rfl rfl) ?_)
    refine OW.cons (OP.val (v := v31) rfl (x_assign) ?_)
    refine OW.cons (OP.val (v := (.int .i64 x28.2)) rfl (x_assign) ?_)
    refine OW.nil ?_
    refine CW.seq ?_
    refine CW.seq ?_
    refine CW.regionL ?_
    refine OW.cons (OP.val (v := (.int .i64 x21.2)) rfl (x_move) ?_)
    refine OW.cons (OP.val (v := (.int .i64 x28.2)) rfl (x_move) ?_)
    refine OW.cons (OP.val (v := (.bool (x21.2 != x28.2))) rfl (x_neq rfl rfl) ?_)
    refine OW.nil ?_
    refine CW.condM (t := x21.2 != x28.2) rfl hm (fun hb35 hm => ?_) (fun hb35 hm => ?_)
    · refine CW.seq ?_
      refine CW.regionL ?_
      refine OW.cons (OP.val (v := (.bool false)) rfl (x_assign) ?_)
      refine OW.nil ?_
      refine CW.ret ?_
      obtain rfl := Option.some.inj hm
      exact RR1 rfl rfl ⟨rfl, hL.fresh 5 rfl [] (by decide) (by decide) rfl⟩
    · refine CW.skip ?_
      refine CW.seq ?_
      refine CW.seq ?_
      refine CW.regionL ?_
      refine OW.cons (OP.val (v := (.int .i64 x21.2)) rfl (x_move) ?_)
      refine OW.cons (OP.val (v := (.bool (x21.2 != 0))) rfl (x_neq rfl rfl) ?_)
      refine OW.nil ?_
      refine CW.condM (t := x21.2 != 0) rfl hm (fun hb36 hm => ?_) (fun hb36 hm => ?_)
      · refine CW.seq ?_
        refine CW.regionL ?_
        refine OW.cons (OP.val (v := v24) rfl (x_move) ?_)
        refine OW.cons (OP.val (v := (.int .i64 (x21.1.length : Int))) rfl (x_lenR Try.underlying30 rfl (hL.rdO 1 rfl)) ?_)
        refine OW.cons (OP.val (v := (.bool ((x21.1.length : Int) == 0))) rfl (x_eql rfl rfl) ?_)
        refine OW.cons (OP.val (v := (.bool ((x21.1.length : Int) == 0))) rfl (x_assign) ?_)
        refine OW.nil ?_
        refine CW.ret ?_
        obtain rfl := Option.some.inj hm
        exact RR1 rfl rfl ⟨rfl, hL.fresh 5 rfl [] (by decide) (by decide) rfl⟩
      · refine CW.skip ?_
        refine CW.seq ?_
        refine CW.regionL ?_
        refine OW.cons (OP.val (v := v12) rfl (x_move) ?_)
        obtain ⟨x37, hx38, hm⟩ := bndE hm
        refine OW.cons (OP.call rfl (x_call (vs := [v12]) Try_C34 ⟨rfl, trivial⟩) (M.impl_CountFinished_ok _ x9.2.2.1 (hL.rdO 3 rfl) hx38) ?_)
        rintro e39 wd40 ⟨rfl, hF41⟩
        refine ⟨_, rfl, ?_⟩
        have hL := hL.pushAll hF41
        simp only [lA, lB, lC, lD] at hL
        refine OW.cons (OP.val (v := (.tuple #[(.int .i64 x37.1), (.int .i64 x37.2)])) rfl (x_move) ?_)
        refine OW.cons (OP.val (v := (.int .i64 x37.1)) rfl (x_extract rfl rfl) ?_)
        refine OW.cons (OP.val (v := (.int .i64 x37.2)) rfl (x_extract rfl rfl) ?_)
        refine OW.cons (OP.val (v := (.int .i64 x37.1)) rfl (x_assign) ?_)
        refine OW.cons (OP.val (v := (.int .i64 x37.2)) rfl (x_assign) ?_)
        refine OW.nil ?_
        refine CW.seq ?_
        refine CW.seqJ (fun (s_j1 : Bool) (F : Fr) (w : World) => F 3 = (.pointer (some ⟨b19, 0, none⟩)) ∧ F 4 = (.int .i64 x9.2.1) ∧ F 5 = v12 ∧ F 6 = v14 ∧ F 7 = v24 ∧ F 11 = (.int .i64 x37.1) ∧ F 64 = (.bool s_j1) ∧ Hp w0 [Ent.own 61 S23 v24 x21.1, Ent.blk b19 46 #[(.int .i64 x9.1.Gain), (.int .i64 x9.1.Step), (.int .i64 x9.1.Low), (.int .i64 x9.1.High)], Ent.own 56 S11 v12 x9.2.2.1, Ent.own 61 S13 v14 x9.2.2.2, Ent.snap w0 w0.heap.size] w) (fun s_j1 => M.laws_FnProgressRace_j1 x9 x21 x37 s_j1 = some r) ?_ ?_
        · refine CW.regionL ?_
          refine OW.cons (OP.val (v := (.int .i64 x37.2)) rfl (x_move) ?_)
          refine OW.cons (OP.val (v := (.bool (x37.2 != 0))) rfl (x_neq rfl rfl) ?_)
          refine OW.cons (OP.val (v := (.bool (x37.2 != 0))) rfl (x_move) ?_)
          refine ifB_elim hm (fun hb1605 hm => ?_) (fun hb1605 hm => ?_)
          · refine OW.cons (OP.no' rfl rfl hb1605 rfl ?_)
            refine OW.cons (OP.no' rfl rfl hb1605 rfl ?_)
            refine OW.cons (OP.no' rfl rfl hb1605 rfl ?_)
            refine OW.cons (OP.no' rfl rfl hb1605 rfl ?_)
            refine OW.cons (OP.no' rfl rfl hb1605 rfl ?_)
            refine OW.cons (OP.val (v := (.bool true)) rfl (x_pickT' rfl hb1605 rfl) ?_)
            refine OW.nil ?_
            have hL := hL.sel [1, 2, 3, 4, 5] (by decide) rfl
            exact ⟨true, hm, ⟨rfl, rfl, rfl, rfl, rfl, rfl, rfl, hL⟩⟩
          · refine OW.cons (OP.yes' rfl rfl hb1605 (OP.val (v := v24) rfl (x_move) ?_))
            refine OW.cons (OP.yes' rfl rfl hb1605 (OP.val (v := (.int .i64 (x21.1.length : Int))) rfl (x_lenR Try.underlying30 rfl (hL.rdO 1 rfl)) ?_))
            refine OW.cons (OP.yes' rfl rfl hb1605 (OP.val (v := v14) rfl (x_move) ?_))
            refine OW.cons (OP.yes' rfl rfl hb1605 (OP.val (v := (.int .i64 (x9.2.2.2.length : Int))) rfl (x_lenR Try.underlying30 rfl (hL.rdO 4 rfl)) ?_))
            refine OW.cons (OP.yes' rfl rfl hb1605 (OP.val (v := (.bool ((x21.1.length : Int) != (x9.2.2.2.length : Int)))) rfl (x_neq rfl rfl) ?_))
            refine OW.cons (OP.val (v := (.bool ((x21.1.length : Int) != (x9.2.2.2.length : Int)))) rfl (x_pickF' rfl hb1605 rfl) ?_)
            refine OW.nil ?_
            have hL := hL.sel [1, 2, 3, 4, 5] (by decide) rfl
            exact ⟨(x21.1.length : Int) != (x9.2.2.2.length : Int), hm, ⟨rfl, rfl, rfl, rfl, rfl, rfl, rfl, hL⟩⟩
        · intro s_j1 F43 wd44 hJ hm
          unfold M.laws_FnProgressRace_j1 at hm
          obtain ⟨f45, f46, f47, f48, f49, f50, f51, hL⟩ := hJ
          refine CW.condM (t := s_j1) f51 hm (fun hb52 hm => ?_) (fun hb52 hm => ?_)
          · refine CW.seq ?_
            refine CW.regionL ?_
            refine OW.cons (OP.val (v := (.bool false)) rfl (x_assign) ?_)
            refine OW.nil ?_
            refine CW.ret ?_
            obtain rfl := Option.some.inj hm
            exact RR1 rfl rfl ⟨rfl, hL.fresh 4 rfl [] (by decide) (by decide) rfl⟩
          · refine CW.skip ?_
            refine CW.seq ?_
            refine CW.regionL ?_
            refine OW.cons (OP.val (v := (.int .i64 x9.2.1)) rfl (x_mv f46) ?_)
            refine OW.cons (OP.val (v := v12) rfl (x_mv f47) ?_)
            refine OW.cons (OP.val (v := v14) rfl (x_mv f48) ?_)
            obtain ⟨x53, hx54, hm⟩ := bndE hm
            refine OW.cons (OP.call rfl (x_call (vs := [(.int .i64 x9.2.1), v12, v14]) Try_C20 ⟨rfl, rfl, rfl, trivial⟩) (M.impl_ParFactors_ok _ x9.2.1 x9.2.2.1 (hL.rdO 2 rfl) x9.2.2.2 (hL.rdO 3 rfl) hx54) ?_)
            rintro e57 wd58 ⟨v56, S55, rfl, hF59⟩
            refine ⟨_, rfl, ?_⟩
            have hL := hL.pushAll hF59
            simp only [lA, lB, lC, lD] at hL
            refine OW.cons (OP.val (v := (.tuple #[v56, (.int .i64 x53.2)])) rfl (x_move) ?_)
            refine OW.cons (OP.val (v := v56) rfl (x_extract rfl rfl) ?_)
            refine OW.cons (OP.val (v := (.int .i64 x53.2)) rfl (x_extract rfl rfl) ?_)
            refine OW.cons (OP.val (v := v56) rfl (x_assign) ?_)
            refine OW.cons (OP.val (v := (.int .i64 x53.2)) rfl (x_assign) ?_)
            refine OW.nil ?_
            refine CW.seq ?_
            refine CW.seq ?_
            refine CW.regionL ?_
            refine OW.cons (OP.val (v := (.int .i64 0)) rfl (x_assign) ?_)
            refine OW.nil ?_
            obtain ⟨o1076, ho1077, hm⟩ := bndE hm
            refine CW.loopB (fun (s_l1 : Int) (F : Fr) (w : World) => F 3 = (.pointer (some ⟨b19, 0, none⟩)) ∧ F 5 = v12 ∧ F 6 = v14 ∧ F 7 = v24 ∧ F 11 = (.int .i64 x37.1) ∧ F 13 = v56 ∧ F 14 = (.int .i64 x53.2) ∧ F 15 = (.int .i64 s_l1) ∧ Hp w0 [Ent.own 2 S55 v56 x53.1, Ent.own 61 S23 v24 x21.1, Ent.blk b19 46 #[(.int .i64 x9.1.Gain), (.int .i64 x9.1.Step), (.int .i64 x9.1.Low), (.int .i64 x9.1.High)], Ent.own 56 S11 v12 x9.2.2.1, Ent.own 61 S13 v14 x9.2.2.2, Ent.snap w0 w0.heap.size] w) (fun o => outc o (fun x => some x) (fun s => M.laws_FnProgressRace_a1 s) = some r) ho1077 hm ⟨f45, f47, f48, f49, f50, rfl, rfl, rfl, hL⟩ ?_ ?_
            · intro s_l1 F1078 wd1079 hJ hm
              have hm := outcE hm
              have hm : M.laws_FnProgressRace_a1 s_l1 = some r := hm
              unfold M.laws_FnProgressRace_a1 at hm
              obtain ⟨f1080, f1081, f1082, f1083, f1084, f1085, f1086, f1087, hL⟩ := hJ
              refine CW.seq ?_
              refine CW.regionL ?_
              refine OW.cons (OP.val (v := (.bool true)) rfl (x_assign) ?_)
              refine OW.nil ?_
              refine CW.ret ?_
              obtain rfl := Option.some.inj hm
              exact RR1 rfl rfl ⟨rfl, hL.fresh 5 rfl [] (by decide) (by decide) rfl⟩
            · intro s_l1 F1088 wd1089 t1074 hJ hm hr1075
              unfold M.laws_FnProgressRace_l1 at hm
              obtain ⟨f1090, f1091, f1092, f1093, f1094, f1095, f1096, f1097, hL⟩ := hJ
              refine CW.seq ?_
              refine CW.seq ?_
              refine CW.regionL ?_
              refine OW.cons (OP.val (v := (.int .i64 s_l1)) rfl (x_mv f1097) ?_)
              refine OW.cons (OP.val (v := v24) rfl (x_mv f1093) ?_)
              refine OW.cons (OP.val (v := (.int .i64 (x21.1.length : Int))) rfl (x_lenR Try.underlying30 rfl (hL.rdO 1 rfl)) ?_)
              refine OW.cons (OP.val (v := (.bool (decide (s_l1 < (x21.1.length : Int))))) rfl (x_lss rfl rfl) ?_)
              refine OW.nil ?_
              refine CW.condM (t := decide (s_l1 < (x21.1.length : Int))) rfl hm (fun hb1098 hm => ?_) (fun hb1098 hm => ?_)
              · refine CW.skip ?_
                refine CW.seqJ (fun (s_j2 : Unit) (F : Fr) (w : World) => F 3 = (.pointer (some ⟨b19, 0, none⟩)) ∧ F 5 = v12 ∧ F 6 = v14 ∧ F 7 = v24 ∧ F 11 = (.int .i64 x37.1) ∧ F 13 = v56 ∧ F 14 = (.int .i64 x53.2) ∧ F 15 = (.int .i64 s_l1) ∧ Hp w0 [Ent.own 2 S55 v56 x53.1, Ent.own 61 S23 v24 x21.1, Ent.blk b19 46 #[(.int .i64 x9.1.Gain), (.int .i64 x9.1.Step), (.int .i64 x9.1.Low), (.int .i64 x9.1.High)], Ent.own 56 S11 v12 x9.2.2.1, Ent.own 61 S13 v14 x9.2.2.2, Ent.snap w0 w0.heap.size] w) (fun s_j2 => M.laws_FnProgressRace_j2 s_l1 s_j2 = some t1074) ?_ ?_
                · refine CW.blockJ (fun (s_j3 : Unit) (F : Fr) (w : World) => F 3 = (.pointer (some ⟨b19, 0, none⟩)) ∧ F 5 = v12 ∧ F 6 = v14 ∧ F 7 = v24 ∧ F 11 = (.int .i64 x37.1) ∧ F 13 = v56 ∧ F 14 = (.int .i64 x53.2) ∧ F 15 = (.int .i64 s_l1) ∧ Hp w0 [Ent.own 2 S55 v56 x53.1, Ent.own 61 S23 v24 x21.1, Ent.blk b19 46 #[(.int .i64 x9.1.Gain), (.int .i64 x9.1.Step), (.int .i64 x9.1.Low), (.int .i64 x9.1.High)], Ent.own 56 S11 v12 x9.2.2.1, Ent.own 61 S13 v14 x9.2.2.2, Ent.snap w0 w0.heap.size] w) (fun s_j3 => M.laws_FnProgressRace_j3 s_l1 s_j3 = some t1074) ?_ ?_
                  · refine CW.seq ?_
                    refine CW.seqJ (fun (s_j4 : Bool) (F : Fr) (w : World) => F 3 = (.pointer (some ⟨b19, 0, none⟩)) ∧ F 5 = v12 ∧ F 6 = v14 ∧ F 7 = v24 ∧ F 11 = (.int .i64 x37.1) ∧ F 13 = v56 ∧ F 14 = (.int .i64 x53.2) ∧ F 15 = (.int .i64 s_l1) ∧ F 87 = (.bool s_j4) ∧ Hp w0 [Ent.own 2 S55 v56 x53.1, Ent.own 61 S23 v24 x21.1, Ent.blk b19 46 #[(.int .i64 x9.1.Gain), (.int .i64 x9.1.Step), (.int .i64 x9.1.Low), (.int .i64 x9.1.High)], Ent.own 56 S11 v12 x9.2.2.1, Ent.own 61 S13 v14 x9.2.2.2, Ent.snap w0 w0.heap.size] w) (fun s_j4 => M.laws_FnProgressRace_j4 x9 x21 x53 s_l1 s_j4 = some t1074) ?_ ?_
                    · refine CW.regionL ?_
                      refine OW.cons (OP.val (v := (.int .i64 x37.1)) rfl (x_mv f1094) ?_)
                      refine OW.cons (OP.val (v := (.bool (decide (x37.1 < 2)))) rfl (x_lss rfl rfl) ?_)
                      refine OW.cons (OP.val (v := (.bool (decide (x37.1 < 2)))) rfl (x_move) ?_)
                      refine ifB_elim hm (fun hb1597 hm => ?_) (fun hb1597 hm => ?_)
                      · refine OW.cons (OP.no' rfl rfl hb1597 rfl ?_)
                        refine OW.cons (OP.no' rfl rfl hb1597 rfl ?_)
                        refine OW.cons (OP.no' rfl rfl hb1597 rfl ?_)
                        refine OW.cons (OP.no' rfl rfl hb1597 rfl ?_)
                        refine OW.cons (OP.no' rfl rfl hb1597 rfl ?_)
                        refine OW.cons (OP.no' rfl rfl hb1597 rfl ?_)
                        refine OW.cons (OP.val (v := (.bool true)) rfl (x_pickT' rfl hb1597 rfl) ?_)
                        refine OW.nil ?_
                        exact ⟨true, hm, ⟨f1090, f1091, f1092, f1093, f1094, f1095, f1096, f1097, rfl, hL⟩⟩
                      · refine OW.cons (OP.yes' rfl rfl hb1597 (OP.val (v := v12) rfl (x_mv f1091) ?_))
                        refine OW.cons (OP.yes' rfl rfl hb1597 (OP.val (v := (.int .i64 s_l1)) rfl (x_mv f1097) ?_))
                        obtain ⟨x1598, ha1599, hm⟩ := bndE hm
                        obtain ⟨hz1600, ha1604⟩ := idxE ha1599
                        obtain ⟨b1601, q1602, hix1603⟩ := rdL_ix (hL.rdO 3 rfl) hz1600 ha1604
                        refine OW.cons (OP.yes' rfl rfl hb1597 (OP.val (v := (.pointer (some ⟨b1601, q1602, none⟩))) rfl (x_ix Try.underlying28 Try_T56 rfl rfl hix1603) ?_))
                        refine OW.cons (OP.yes' rfl rfl hb1597 (OP.val (v := (.pointer (some ⟨b1601, q1602 + 1, none⟩))) rfl (x_fieldAddr (fsz := 1) q1602 1 (q1602 + 1) Try.underlying56 rfl Try_T2 rfl rfl rfl) ?_))
                        refine OW.cons (OP.yes' rfl rfl hb1597 (OP.val (v := (.int .i64 x1598.Code)) rfl (x_load1 Try.underlying2 rfl rfl (rdF_cells (hL.rdO 3 rfl) hix1603 ha1604 1 _ rfl)) ?_))
                        refine OW.cons (OP.yes' rfl rfl hb1597 (OP.val (v := (.bool (x1598.Code != 0))) rfl (x_neq rfl rfl) ?_))
                        refine OW.cons (OP.val (v := (.bool (x1598.Code != 0))) rfl (x_pickF' rfl hb1597 rfl) ?_)
                        refine OW.nil ?_
                        exact ⟨x1598.Code != 0, hm, ⟨f1090, f1091, f1092, f1093, f1094, f1095, f1096, f1097, rfl, hL⟩⟩
                    · intro s_j4 F1494 wd1495 hJ hm
                      unfold M.laws_FnProgressRace_j4 at hm
                      obtain ⟨f1496, f1497, f1498, f1499, f1500, f1501, f1502, f1503, f1504, hL⟩ := hJ
                      refine CW.condM (t := s_j4) f1504 hm (fun hb1505 hm => ?_) (fun hb1505 hm => ?_)
                      · refine CW.seq ?_
                        refine CW.seq ?_
                        refine CW.draw Try_mixed ?_
                        have hL := hL.call (Mod.drew _)
                        refine DW.pre (fuel := 0) (fin := ((((((((((Array.replicate 9 false).setIfInBounds 0 true).setIfInBounds 1 true).setIfInBounds 2 true).setIfInBounds 3 true).setIfInBounds 4 true).setIfInBounds 5 true).setIfInBounds 6 true).setIfInBounds 7 true).setIfInBounds 8 true)) (C := fun w' => Mod None_ _ w') [0, 1, 2, 3, 4, 5, 6, 7, 8] (Mod.refl _ _) (by kernel_rfl) (by kernel_rfl) ?_
                        refine QW.cons rfl (QP.val (v := v24) rfl (fun w' hm' => x_mv f1499) ?_)
                        refine QW.cons rfl (QP.val (v := (.int .i64 s_l1)) rfl (fun w' hm' => x_mv f1503) ?_)
                        obtain ⟨x1506, ha1507, hm⟩ := bndE hm
                        obtain ⟨hz1508, ha1512⟩ := idxE ha1507
                        obtain ⟨b1509, q1510, hix1511⟩ := rdL_ix (hL.rdO 1 rfl) hz1508 ha1512
                        refine QW.cons rfl (QP.val (v := (.pointer (some ⟨b1509, q1510, none⟩))) rfl (fun w' hm' => x_ix Try.underlying30 Try_T61 rfl rfl hix1511) ?_)
                        refine QW.cons rfl (QP.val (v := (.agg #[(.int .i64 x1506.Boat), (.int .i64 x1506.Value)])) rfl (fun w' hm' => x_loadN (cs := [(.int .i64 x1506.Boat), (.int .i64 x1506.Value)]) Try.underlying61 Try_T61 rfl rfl (rdF_cells ((hL.call hm').rdO 1 rfl) hix1511 ha1512)) ?_)
                        refine QW.cons rfl (QP.val (v := v14) rfl (fun w' hm' => x_mv f1498) ?_)
                        refine QW.cons rfl (QP.val (v := (.int .i64 s_l1)) rfl (fun w' hm' => x_mv f1503) ?_)
                        obtain ⟨x1513, ha1514, hm⟩ := bndE hm
                        obtain ⟨hz1515, ha1519⟩ := idxE ha1514
                        obtain ⟨b1516, q1517, hix1518⟩ := rdL_ix (hL.rdO 4 rfl) hz1515 ha1519
                        refine QW.cons rfl (QP.val (v := (.pointer (some ⟨b1516, q1517, none⟩))) rfl (fun w' hm' => x_ix Try.underlying30 Try_T61 rfl rfl hix1518) ?_)
                        refine QW.cons rfl (QP.val (v := (.agg #[(.int .i64 x1513.Boat), (.int .i64 x1513.Value)])) rfl (fun w' hm' => x_loadN (cs := [(.int .i64 x1513.Boat), (.int .i64 x1513.Value)]) Try.underlying61 Try_T61 rfl rfl (rdF_cells ((hL.call hm').rdO 4 rfl) hix1518 ha1519)) ?_)
                        refine QW.cons rfl (QP.val (v := (.bool (!(eqL [x1506.Boat, x1506.Value] [x1513.Boat, x1513.Value])))) rfl (fun w' hm' => (x_eqS (xs := [x1506.Boat, x1506.Value]) (ys := [x1513.Boat, x1513.Value]) (by kernel_rfl) rfl (by kernel_rfl) rfl rfl).2) ?_)
                        refine QW.nil ?_
                        intro wd1520 hmod
                        have hL := hL.call hmod
                        refine DW.done (by kernel_rfl) ?_
                        refine CW.condM (t := !(eqL [x1506.Boat, x1506.Value] [x1513.Boat, x1513.Value])) rfl hm (fun hb1521 hm => ?_) (fun hb1521 hm => ?_)
                        · refine CW.seq ?_
                          refine CW.regionL ?_
                          refine OW.cons (OP.val (v := (.bool false)) rfl (x_assign) ?_)
                          refine OW.nil ?_
                          refine CW.ret ?_
                          obtain rfl := Option.some.inj hm
                          have hm := hr1075 _ rfl
                          obtain rfl := Option.some.inj hm
                          exact RR1 rfl rfl ⟨rfl, hL.fresh 5 rfl [] (by decide) (by decide) rfl⟩
                        · refine CW.skip ?_
                          refine CW.exit ?_
                          refine XJ.hit ?_
                          exact ⟨(), hm, ⟨f1496, f1497, f1498, f1499, f1500, f1501, f1502, f1503, hL⟩⟩
                      · refine CW.skip ?_
                        refine CW.seq ?_
                        refine CW.seqJ (fun (s_j5 : Bool) (F : Fr) (w : World) => F 3 = (.pointer (some ⟨b19, 0, none⟩)) ∧ F 5 = v12 ∧ F 6 = v14 ∧ F 7 = v24 ∧ F 11 = (.int .i64 x37.1) ∧ F 13 = v56 ∧ F 14 = (.int .i64 x53.2) ∧ F 15 = (.int .i64 s_l1) ∧ F 105 = (.bool s_j5) ∧ Hp w0 [Ent.own 2 S55 v56 x53.1, Ent.own 61 S23 v24 x21.1, Ent.blk b19 46 #[(.int .i64 x9.1.Gain), (.int .i64 x9.1.Step), (.int .i64 x9.1.Low), (.int .i64 x9.1.High)], Ent.own 56 S11 v12 x9.2.2.1, Ent.own 61 S13 v14 x9.2.2.2, Ent.snap w0 w0.heap.size] w) (fun s_j5 => M.laws_FnProgressRace_j5 x9 x21 x53 s_l1 s_j5 = some t1074) ?_ ?_
                        · refine CW.regionL ?_
                          refine OW.cons (OP.val (v := (.int .i64 x53.2)) rfl (x_mv f1502) ?_)
                          refine OW.cons (OP.val (v := (.bool (x53.2 != 0))) rfl (x_neq rfl rfl) ?_)
                          refine OW.cons (OP.val (v := (.bool (x53.2 != 0))) rfl (x_move) ?_)
                          refine ifB_elim hm (fun hb1596 hm => ?_) (fun hb1596 hm => ?_)
                          · refine OW.cons (OP.no' rfl rfl hb1596 rfl ?_)
                            refine OW.cons (OP.no' rfl rfl hb1596 rfl ?_)
                            refine OW.cons (OP.no' rfl rfl hb1596 rfl ?_)
                            refine OW.cons (OP.no' rfl rfl hb1596 rfl ?_)
                            refine OW.cons (OP.no' rfl rfl hb1596 rfl ?_)
                            refine OW.cons (OP.val (v := (.bool true)) rfl (x_pickT' rfl hb1596 rfl) ?_)
                            refine OW.nil ?_
                            exact ⟨true, hm, ⟨f1496, f1497, f1498, f1499, f1500, f1501, f1502, f1503, rfl, hL⟩⟩
                          · refine OW.cons (OP.yes' rfl rfl hb1596 (OP.val (v := v56) rfl (x_mv f1501) ?_))
                            refine OW.cons (OP.yes' rfl rfl hb1596 (OP.val (v := (.int .i64 (x53.1.length : Int))) rfl (x_lenR Try.underlying35 rfl (hL.rdO 0 rfl)) ?_))
                            refine OW.cons (OP.yes' rfl rfl hb1596 (OP.val (v := v24) rfl (x_mv f1499) ?_))
                            refine OW.cons (OP.yes' rfl rfl hb1596 (OP.val (v := (.int .i64 (x21.1.length : Int))) rfl (x_lenR Try.underlying30 rfl (hL.rdO 1 rfl)) ?_))
                            refine OW.cons (OP.yes' rfl rfl hb1596 (OP.val (v := (.bool ((x53.1.length : Int) != (x21.1.length : Int)))) rfl (x_neq rfl rfl) ?_))
                            refine OW.cons (OP.val (v := (.bool ((x53.1.length : Int) != (x21.1.length : Int)))) rfl (x_pickF' rfl hb1596 rfl) ?_)
                            refine OW.nil ?_
                            exact ⟨(x53.1.length : Int) != (x21.1.length : Int), hm, ⟨f1496, f1497, f1498, f1499, f1500, f1501, f1502, f1503, rfl, hL⟩⟩
                        · intro s_j5 F1523 wd1524 hJ hm
                          unfold M.laws_FnProgressRace_j5 at hm
                          obtain ⟨f1525, f1526, f1527, f1528, f1529, f1530, f1531, f1532, f1533, hL⟩ := hJ
                          refine CW.condM (t := s_j5) f1533 hm (fun hb1534 hm => ?_) (fun hb1534 hm => ?_)
                          · refine CW.seq ?_
                            refine CW.regionL ?_
                            refine OW.cons (OP.val (v := (.bool false)) rfl (x_assign) ?_)
                            refine OW.nil ?_
                            refine CW.ret ?_
                            obtain rfl := Option.some.inj hm
                            have hm := hr1075 _ rfl
                            obtain rfl := Option.some.inj hm
                            exact RR1 rfl rfl ⟨rfl, hL.fresh 5 rfl [] (by decide) (by decide) rfl⟩
                          · refine CW.skip ?_
                            refine CW.seq ?_
                            refine CW.draw Try_mixed ?_
                            have hL := hL.call (Mod.drew _)
                            refine DW.pre (fuel := 0) (fin := (((((((((((((((((Array.replicate 16 false).setIfInBounds 0 true).setIfInBounds 1 true).setIfInBounds 2 true).setIfInBounds 3 true).setIfInBounds 4 true).setIfInBounds 5 true).setIfInBounds 6 true).setIfInBounds 7 true).setIfInBounds 8 true).setIfInBounds 9 true).setIfInBounds 10 true).setIfInBounds 11 true).setIfInBounds 12 true).setIfInBounds 13 true).setIfInBounds 14 true).setIfInBounds 15 true)) (C := fun w' => Mod None_ _ w') [0, 1, 2, 3, 4, 5, 6, 7, 8, 9, 10, 11, 12, 13, 14, 15] (Mod.refl _ _) (by kernel_rfl) (by kernel_rfl) ?_
                            refine QW.cons rfl (QP.val (v := (.agg #[(.int .i64 x9.1.Gain), (.int .i64 x9.1.Step), (.int .i64 x9.1.Low), (.int .i64 x9.1.High)])) rfl (fun w' hm' => x_loadN (cs := [(.int .i64 x9.1.Gain), (.int .i64 x9.1.Step), (.int .i64 x9.1.Low), (.int .i64 x9.1.High)]) Try.underlying46 Try_T46 rfl f1525 ((hL.call hm').cellsB 2 rfl (o := 0) (l := [(.int .i64 x9.1.Gain), (.int .i64 x9.1.Step), (.int .i64 x9.1.Low), (.int .i64 x9.1.High)]) (by intro j u hj; exact (by simpa using hj)))) ?_)
                            refine QW.cons rfl (QP.val (v := v14) rfl (fun w' hm' => x_mv f1527) ?_)
                            refine QW.cons rfl (QP.val (v := (.int .i64 s_l1)) rfl (fun w' hm' => x_mv f1532) ?_)
                            obtain ⟨x1535, ha1536, hm⟩ := bndE hm
                            obtain ⟨hz1537, ha1541⟩ := idxE ha1536
                            obtain ⟨b1538, q1539, hix1540⟩ := rdL_ix (hL.rdO 4 rfl) hz1537 ha1541
                            refine QW.cons rfl (QP.val (v := (.pointer (some ⟨b1538, q1539, none⟩))) rfl (fun w' hm' => x_ix Try.underlying30 Try_T61 rfl rfl hix1540) ?_)
                            refine QW.cons rfl (QP.val (v := (.pointer (some ⟨b1538, q1539 + 1, none⟩))) rfl (fun w' hm' => x_fieldAddr (fsz := 1) q1539 1 (q1539 + 1) Try.underlying61 rfl Try_T2 rfl rfl rfl) ?_)
                            refine QW.cons rfl (QP.val (v := (.int .i64 x1535.Value)) rfl (fun w' hm' => x_load1 Try.underlying2 rfl rfl (rdF_cells ((hL.call hm').rdO 4 rfl) hix1540 ha1541 1 _ rfl)) ?_)
                            refine QW.cons rfl (QP.val (v := v56) rfl (fun w' hm' => x_mv f1530) ?_)
                            refine QW.cons rfl (QP.val (v := (.int .i64 s_l1)) rfl (fun w' hm' => x_mv f1532) ?_)
                            obtain ⟨x1542, ha1543, hm⟩ := bndE hm
                            obtain ⟨hz1544, ha1548⟩ := idxE ha1543
                            obtain ⟨b1545, q1546, hix1547⟩ := rdL_ix (hL.rdO 0 rfl) hz1544 ha1548
                            refine QW.cons rfl (QP.val (v := (.pointer (some ⟨b1545, q1546, none⟩))) rfl (fun w' hm' => x_ix Try.underlying35 Try_T2 rfl rfl hix1547) ?_)
                            refine QW.cons rfl (QP.val (v := (.int .i64 x1542)) rfl (fun w' hm' => x_load1 Try.underlying2 rfl rfl (rdF_cells ((hL.call hm').rdO 0 rfl) hix1547 ha1548 0 _ rfl)) ?_)
                            obtain ⟨x1549, hx1550, hm⟩ := bndE hm
                            refine QW.cons rfl (QP.call (v := (.tuple #[(.int .i64 x1549.1), (.int .i64 x1549.2)])) rfl (fun w' hm' => x_call (vs := [(.agg #[(.int .i64 x9.1.Gain), (.int .i64 x9.1.Step), (.int .i64 x9.1.Low), (.int .i64 x9.1.High)]), (.int .i64 x1535.Value), (.int .i64 x1542)]) Try_C35 ⟨rfl, rfl, rfl, trivial⟩) (fun w' hm' => (M.impl_ProgressFactor_ok w' x9.1 x1535.Value x1542 hx1550).mono (fun e w'' h => ⟨h.1, hm'.trans h.2.mod⟩)) ?_)
                            refine QW.cons rfl (QP.val (v := (.tuple #[(.int .i64 x1549.1), (.int .i64 x1549.2)])) rfl (fun w' hm' => x_move) ?_)
                            refine QW.cons rfl (QP.val (v := (.int .i64 x1549.1)) rfl (fun w' hm' => x_extract rfl rfl) ?_)
                            refine QW.cons rfl (QP.val (v := (.int .i64 x1549.2)) rfl (fun w' hm' => x_extract rfl rfl) ?_)
                            refine QW.cons rfl (QP.val (v := (.int .i64 x1549.1)) rfl (fun w' hm' => x_assign) ?_)
                            refine QW.cons rfl (QP.val (v := (.int .i64 x1549.2)) rfl (fun w' hm' => x_assign) ?_)
                            refine QW.nil ?_
                            intro wd1551 hmod
                            have hL := hL.call hmod
                            refine DW.done (by kernel_rfl) ?_
                            refine CW.seqJ (fun (s_j6 : Bool) (F : Fr) (w : World) => F 3 = (.pointer (some ⟨b19, 0, none⟩)) ∧ F 5 = v12 ∧ F 6 = v14 ∧ F 7 = v24 ∧ F 11 = (.int .i64 x37.1) ∧ F 13 = v56 ∧ F 14 = (.int .i64 x53.2) ∧ F 15 = (.int .i64 s_l1) ∧ F 139 = (.bool s_j6) ∧ Hp w0 [Ent.own 2 S55 v56 x53.1, Ent.own 61 S23 v24 x21.1, Ent.blk b19 46 #[(.int .i64 x9.1.Gain), (.int .i64 x9.1.Step), (.int .i64 x9.1.Low), (.int .i64 x9.1.High)], Ent.own 56 S11 v12 x9.2.2.1, Ent.own 61 S13 v14 x9.2.2.2, Ent.snap w0 w0.heap.size] w) (fun s_j6 => M.laws_FnProgressRace_j6 s_l1 s_j6 = some t1074) ?_ ?_
                            · refine CW.regionL ?_
                              refine OW.cons (OP.val (v := (.int .i64 x1549.2)) rfl (x_move) ?_)
                              refine OW.cons (OP.val (v := (.bool (x1549.2 != 0))) rfl (x_neq rfl rfl) ?_)
                              refine OW.cons (OP.val (v := (.bool (x1549.2 != 0))) rfl (x_move) ?_)
                              refine ifB_elim hm (fun hb1580 hm => ?_) (fun hb1580 hm => ?_)
                              · refine OW.cons (OP.no' rfl rfl hb1580 rfl ?_)
                                refine OW.cons (OP.no' rfl rfl hb1580 rfl ?_)
                                refine OW.cons (OP.no' rfl rfl hb1580 rfl ?_)
                                refine OW.cons (OP.no' rfl rfl hb1580 rfl ?_)
                                refine OW.cons (OP.no' rfl rfl hb1580 rfl ?_)
                                refine OW.cons (OP.no' rfl rfl hb1580 rfl ?_)
                                refine OW.cons (OP.no' rfl rfl hb1580 rfl ?_)
                                refine OW.cons (OP.val (v := (.bool true)) rfl (x_pickT' rfl hb1580 rfl) ?_)
                                refine OW.cons (OP.val (v := (.bool true)) rfl (x_move) ?_)
                                refine OW.cons (OP.no' rfl rfl rfl rfl ?_)
                                refine OW.cons (OP.no' rfl rfl rfl rfl ?_)
                                refine OW.cons (OP.no' rfl rfl rfl rfl ?_)
                                refine OW.cons (OP.no' rfl rfl rfl rfl ?_)
                                refine OW.cons (OP.no' rfl rfl rfl rfl ?_)
                                refine OW.cons (OP.no' rfl rfl rfl rfl ?_)
                                refine OW.cons (OP.no' rfl rfl rfl rfl ?_)
                                refine OW.cons (OP.val (v := (.bool true)) rfl (x_pickT' rfl rfl rfl) ?_)
                                refine OW.nil ?_
                                exact ⟨true, hm, ⟨f1525, f1526, f1527, f1528, f1529, f1530, f1531, f1532, rfl, hL⟩⟩
                              · refine OW.cons (OP.yes' rfl rfl hb1580 (OP.val (v := v24) rfl (x_mv f1528) ?_))
                                refine OW.cons (OP.yes' rfl rfl hb1580 (OP.val (v := (.int .i64 s_l1)) rfl (x_mv f1532) ?_))
                                obtain ⟨x1581, ha1582, hm⟩ := bndE hm
                                obtain ⟨hz1583, ha1587⟩ := idxE ha1582
                                obtain ⟨b1584, q1585, hix1586⟩ := rdL_ix (hL.rdO 1 rfl) hz1583 ha1587
                                refine OW.cons (OP.yes' rfl rfl hb1580 (OP.val (v := (.pointer (some ⟨b1584, q1585, none⟩))) rfl (x_ix Try.underlying30 Try_T61 rfl rfl hix1586) ?_))
                                refine OW.cons (OP.yes' rfl rfl hb1580 (OP.val (v := (.pointer (some ⟨b1584, q1585 + 1, none⟩))) rfl (x_fieldAddr (fsz := 1) q1585 1 (q1585 + 1) Try.underlying61 rfl Try_T2 rfl rfl rfl) ?_))
                                refine OW.cons (OP.yes' rfl rfl hb1580 (OP.val (v := (.int .i64 x1581.Value)) rfl (x_load1 Try.underlying2 rfl rfl (rdF_cells (hL.rdO 1 rfl) hix1586 ha1587 1 _ rfl)) ?_))
                                refine OW.cons (OP.yes' rfl rfl hb1580 (OP.val (v := (.int .i64 x1549.1)) rfl (x_move) ?_))
                                refine OW.cons (OP.yes' rfl rfl hb1580 (OP.val (v := (.bool (x1581.Value != x1549.1))) rfl (x_neq rfl rfl) ?_))
                                refine OW.cons (OP.val (v := (.bool (x1581.Value != x1549.1))) rfl (x_pickF' rfl hb1580 rfl) ?_)
                                refine OW.cons (OP.val (v := (.bool (x1581.Value != x1549.1))) rfl (x_move) ?_)
                                refine ifB_elim hm (fun hb1588 hm => ?_) (fun hb1588 hm => ?_)
                                · refine OW.cons (OP.no' rfl rfl hb1588 rfl ?_)
                                  refine OW.cons (OP.no' rfl rfl hb1588 rfl ?_)
                                  refine OW.cons (OP.no' rfl rfl hb1588 rfl ?_)
                                  refine OW.cons (OP.no' rfl rfl hb1588 rfl ?_)
                                  refine OW.cons (OP.no' rfl rfl hb1588 rfl ?_)
                                  refine OW.cons (OP.no' rfl rfl hb1588 rfl ?_)
                                  refine OW.cons (OP.no' rfl rfl hb1588 rfl ?_)
                                  refine OW.cons (OP.val (v := (.bool true)) rfl (x_pickT' rfl hb1588 rfl) ?_)
                                  refine OW.nil ?_
                                  exact ⟨true, hm, ⟨f1525, f1526, f1527, f1528, f1529, f1530, f1531, f1532, rfl, hL⟩⟩
                                · refine OW.cons (OP.yes' rfl rfl hb1588 (OP.val (v := v24) rfl (x_mv f1528) ?_))
                                  refine OW.cons (OP.yes' rfl rfl hb1588 (OP.val (v := (.int .i64 s_l1)) rfl (x_mv f1532) ?_))
                                  obtain ⟨x1589, ha1590, hm⟩ := bndE hm
                                  obtain ⟨hz1591, ha1595⟩ := idxE ha1590
                                  obtain ⟨b1592, q1593, hix1594⟩ := rdL_ix (hL.rdO 1 rfl) hz1591 ha1595
                                  refine OW.cons (OP.yes' rfl rfl hb1588 (OP.val (v := (.pointer (some ⟨b1592, q1593, none⟩))) rfl (x_ix Try.underlying30 Try_T61 rfl rfl hix1594) ?_))
                                  refine OW.cons (OP.yes' rfl rfl hb1588 (OP.val (v := (.pointer (some ⟨b1592, q1593, none⟩))) rfl (x_fieldAddr (fsz := 1) q1593 0 q1593 Try.underlying61 rfl Try_T2 rfl rfl rfl) ?_))
                                  refine OW.cons (OP.yes' rfl rfl hb1588 (OP.val (v := (.int .i64 x1589.Boat)) rfl (x_load1 Try.underlying2 rfl rfl (rdF_cells (hL.rdO 1 rfl) hix1594 ha1595 0 _ rfl)) ?_))
                                  refine OW.cons (OP.yes' rfl rfl hb1588 (OP.val (v := (.int .i64 s_l1)) rfl (x_mv f1532) ?_))
                                  refine OW.cons (OP.yes' rfl rfl hb1588 (OP.val (v := (.bool (x1589.Boat != s_l1))) rfl (x_neq rfl rfl) ?_))
                                  refine OW.cons (OP.val (v := (.bool (x1589.Boat != s_l1))) rfl (x_pickF' rfl hb1588 rfl) ?_)
                                  refine OW.nil ?_
                                  exact ⟨x1589.Boat != s_l1, hm, ⟨f1525, f1526, f1527, f1528, f1529, f1530, f1531, f1532, rfl, hL⟩⟩
                            · intro s_j6 F1568 wd1569 hJ hm
                              unfold M.laws_FnProgressRace_j6 at hm
                              obtain ⟨f1570, f1571, f1572, f1573, f1574, f1575, f1576, f1577, f1578, hL⟩ := hJ
                              refine CW.condM (t := s_j6) f1578 hm (fun hb1579 hm => ?_) (fun hb1579 hm => ?_)
                              · refine CW.seq ?_
                                refine CW.regionL ?_
                                refine OW.cons (OP.val (v := (.bool false)) rfl (x_assign) ?_)
                                refine OW.nil ?_
                                refine CW.ret ?_
                                obtain rfl := Option.some.inj hm
                                have hm := hr1075 _ rfl
                                obtain rfl := Option.some.inj hm
                                exact RR1 rfl rfl ⟨rfl, hL.fresh 5 rfl [] (by decide) (by decide) rfl⟩
                              · refine CW.skip ?_
                                exact ⟨(), hm, ⟨f1570, f1571, f1572, f1573, f1574, f1575, f1576, f1577, hL⟩⟩
                  · intro s_j3 F1476 wd1477 hJ hm
                    unfold M.laws_FnProgressRace_j3 at hm
                    obtain ⟨f1478, f1479, f1480, f1481, f1482, f1483, f1484, f1485, hL⟩ := hJ
                    exact ⟨(), hm, ⟨f1478, f1479, f1480, f1481, f1482, f1483, f1484, f1485, hL⟩⟩
                · intro s_j2 F1347 wd1348 hJ hm
                  unfold M.laws_FnProgressRace_j2 at hm
                  obtain ⟨f1349, f1350, f1351, f1352, f1353, f1354, f1355, f1356, hL⟩ := hJ
                  refine CW.regionL ?_
                  refine OW.cons (OP.val (v := (.int .i64 s_l1)) rfl (x_mv f1356) ?_)
                  refine OW.cons (OP.val (v := (.int .i64 (w64 (s_l1 + 1)))) rfl (x_add rfl rfl) ?_)
                  refine OW.cons (OP.val (v := (.int .i64 (w64 (s_l1 + 1)))) rfl (x_assign) ?_)
                  refine OW.nil ?_
                  obtain rfl := Option.some.inj hm
                  exact ⟨_, rfl, ⟨f1349, f1350, f1351, f1352, f1353, f1354, f1355, rfl, hL⟩⟩
              · refine CW.exit ?_
                refine XJ.hit ?_
                obtain rfl := Option.some.inj hm
                exact ⟨_, rfl, ⟨f1090, f1091, f1092, f1093, f1094, f1095, f1096, f1097, hL⟩⟩

end Go.Proofs.Ytbkpfcpbpnmjaaa
