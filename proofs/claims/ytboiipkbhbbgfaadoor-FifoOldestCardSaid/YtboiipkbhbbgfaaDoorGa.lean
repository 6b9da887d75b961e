/- The walk of fifo's land. -/
import Derived.Test.YtboiipkbhbbgfaaDoorG9
namespace Go.Proofs.YtboiipkbhbbgfaaDoor
open Go.RowKit

theorem end1 {B : Nat} {S : List Nat} {w w3 : World} {gx gl gp cl cp : Nat} {s : Stk} {m : Mov} {d0 : Int} {kl kp : Array Value} {q0 v0 : Int} (h : St w3 gx gl gp cl cp s m ⟨m.seq, q0, v0, d0⟩ kl kp) (hc : Chg S w w3) (hB : B ≤ w.heap.size) (hS : ∀ x ∈ S, B ≤ x) (b1 : B ≤ gx) (b2 : B ≤ gl) (b3 : B ≤ gp) (d : Int) :
    StB (w3.setCell ⟨gx, 16, none⟩ (.int .i64 d)) B gx s m ⟨m.seq, q0, v0, d⟩ ∧ Below B w (w3.setCell ⟨gx, 16, none⟩ (.int .i64 d)) := by
  have h3 := h.setx (s' := s) (c' := ⟨m.seq, q0, v0, d⟩) 16 (.int .i64 d) rfl rfl rfl
  exact ⟨⟨gl, gp, cl, cp, kl, kp, h3, b1, b2, b3⟩, (hc.below hB hS).setCell b1 _⟩

set_option maxRecDepth 100000 in
set_option maxHeartbeats 8000000 in
theorem land_any (B gx gl gp cl cp : Nat) (s : Stk) (m : Mov) (kl kp : Array Value) (w : World) (h : St w gx gl gp cl cp s m (c0 m) kl kp) (hn : s.lays.length ≤ 1000) (hnp : s.psts.length ≤ 1000) (hB : B ≤ w.heap.size) (b1 : B ≤ gx) (b2 : B ≤ gl) (b3 : B ≤ gp)
    (hok : LaysOk s.lays) (hpk : ∀ p ∈ s.psts, I64 p.qty) (_hq : I64 m.qty) (hcost : I64 m.cost) :
    Calls Tryd.prog 35 #[.pointer (some ⟨gx, 0, none⟩)] w fun e w' => MPost B gx s m (landM s m) w e w' := by
  have lx := h.x.lt
  have lg := h.l.blk.lt
  have lgp := h.p.blk.lt
  have HS := Lib.hid h; clear h
  have hle := find_le 1 m.ref s.psts
  have hR := referred_any gx gl gp cl cp s m (c0 m) kl kp 1 w HS.out hnp
  by_cases h1 : s.psts.length ≤ findM 1 m.ref s.psts
  · have HE := Lib.hid (show landM s m = bad 28 s m by unfold landM; rw [if_pos h1])
    have HV := Lib.hid (show refV gp (findM 1 m.ref s.psts) m.qty s.psts = .tuple #[.pointer none, .int .i64 28] by unfold refV; rw [if_pos h1])
    rw [HV.out] at hR
    rw [HE.out]
    go_enter Tryd.func35, Tryd.ntmps35
    go_wp2_with fail
    refine hR.mono ?_; rintro e w1 ⟨rfl, hb⟩
    go_wp2_with fail
    go_ret
    exact ⟨rfl, hb.mono hB, fun h => by cases h⟩
  · have hlt : findM 1 m.ref s.psts < s.psts.length := by omega
    generalize hk : findM 1 m.ref s.psts = k at *
    have HK := Lib.hid hk; clear hk
    by_cases h2 : wrap64 ((s.psts.getD k zPst).qty - (s.psts.getD k zPst).used) < m.qty
    · have HE := Lib.hid (show landM s m = bad 21 s m by unfold landM; rw [HK.out, if_neg h1, if_pos h2])
      have HV := Lib.hid (show refV gp k m.qty s.psts = .tuple #[.pointer none, .int .i64 21] by unfold refV; rw [if_neg h1, if_pos h2])
      rw [HV.out] at hR
      rw [HE.out]
      go_enter Tryd.func35, Tryd.ntmps35
      go_wp2_with fail
      refine hR.mono ?_; rintro e w1 ⟨rfl, hb⟩
      go_wp2_with fail
      go_ret
      exact ⟨rfl, hb.mono hB, fun h => by cases h⟩
    · have HV := Lib.hid (show refV gp k m.qty s.psts = .tuple #[.pointer (some ⟨gp, k * 7, none⟩), .int .i64 0] by unfold refV; rw [if_neg h1, if_neg h2])
      rw [HV.out] at hR
      have hSt : ∀ w1, Below w.heap.size w w1 → St w1 gx gl gp cl cp s m (c0 m) kl kp ∧ w1.cell? ⟨gx, 12, none⟩ = some (.int .i64 m.ref) ∧ w1.cell? ⟨gx, 9, none⟩ = some (.int .i64 m.qty) ∧ w1.cell? ⟨gx, 3, none⟩ = some (sl gl s.lays.length cl) ∧ w1.cell? ⟨gx, 10, none⟩ = some (.int .i64 m.cost) ∧ w1.cell? ⟨gx, 15, none⟩ = some (.int .i64 0) ∧ w1.cell? ⟨gx, 16, none⟩ = some (.int .i64 0) ∧ (∀ o, w1.frozen? ⟨gx, o, none⟩ = false) := by
        intro w1 hb
        have hS1 := HS.out.below' hb
        exact ⟨hS1, by rw [hS1.x.cell]; rfl, by rw [hS1.x.cell]; rfl, by rw [hS1.x.cell]; rfl, by rw [hS1.x.cell]; rfl, by rw [hS1.x.cell]; rfl, by rw [hS1.x.cell]; rfl, fun o => hS1.x.frozen o⟩
      have hlle := layer_le m.ref s.lays
      have hlay := fun w hx hl => layer_any gx gl cl s.lays kl m.ref w hx hl hn
      by_cases h3 : s.lays.length ≤ layerM m.ref s.lays
      · have HE := Lib.hid (show landM s m = ⟨0, s.lays, s.psts, ⟨m.seq, 0, 0, wrap64 (m.cost - 0)⟩⟩ by unfold landM; rw [HK.out, if_neg h1, if_neg h2, if_pos h3])
        have HLI := Lib.hid (show layI (layerM m.ref s.lays) s.lays.length = -1 by unfold layI; rw [if_neg (by omega)])
        rw [HLI.out] at hlay
        rw [HE.out]
        go_enter Tryd.func35, Tryd.ntmps35
        go_wp2_with fail
        refine hR.mono ?_; rintro e w1 ⟨rfl, hb⟩
        obtain ⟨hS1, q12, q9, q3, q10, q15, q16, qf⟩ := hSt w1 hb
        have HS1 := Lib.hid hS1; clear hS1
        go_wp2_with fail
        refine (hlay _ q3 HS1.out.l).mono ?_; rintro e w2 ⟨rfl, hb2⟩
        have hbb := hb.trans (hb2.mono hb.size)
        obtain ⟨hS2, q12, q9, q3, q10, q15, q16, qf⟩ := hSt w2 hbb
        have HS2 := Lib.hid hS2; clear hS2
        go_wp2_with fail
        refine still_tail2 12 (by kernel_rfl) (by kernel_rfl) ?_
        simp only [List.take_succ_cons, List.take_zero, List.drop_succ_cons, List.drop_zero]
        repeat still_step
        refine wpStill_nil ?_
        go_wp2_with fail
        go_ret
        have he := end1 HS2.out (Chg.of_below [] hbb) hB (by simp) b1 b2 b3 (wrap64 (m.cost - 0))
        have hw : wrap64 (m.cost - 0) = m.cost := by have := hcost; unfold I64 at this; unfold wrap64; omega
        rw [hw] at he ⊢
        exact ⟨rfl, he.2.drew, fun _ => he.1.drew⟩
      · have hll : layerM m.ref s.lays < s.lays.length := by omega
        have HLI := Lib.hid (show layI (layerM m.ref s.lays) s.lays.length = (layerM m.ref s.lays : Int) by unfold layI; rw [if_pos hll])
        rw [HLI.out] at hlay
        generalize hj : layerM m.ref s.lays = j at *
        have HJ := Lib.hid hj; clear hj
        have j0 : (0 : Int) ≤ (j : Int) := by omega
        have j1 : (j : Int) < (s.lays.length : Int) := by omega
        have jn : decide ((j : Int) < 0) = false := by simp
        have hlq := hok (s.lays.getD j zLay) (by rw [getD_at _ _ _ hll]; exact List.getElem_mem _)
        have hpq := hpk (s.psts.getD k zPst) (by rw [getD_at _ _ _ hlt]; exact List.getElem_mem _)
        have hEm := show landM s m = if (if (s.lays.getD j zLay).qty = (s.psts.getD k zPst).qty then (m.cost, 0) else mulDivM m.cost (s.lays.getD j zLay).qty (s.psts.getD k zPst).qty 4).2 ≠ 0 then bad 4 s m else ⟨0, s.lays.set j { s.lays.getD j zLay with val := wrap64 ((s.lays.getD j zLay).val + (if (s.lays.getD j zLay).qty = (s.psts.getD k zPst).qty then (m.cost, 0) else mulDivM m.cost (s.lays.getD j zLay).qty (s.psts.getD k zPst).qty 4).1) }, s.psts, ⟨m.seq, 0, (if (s.lays.getD j zLay).qty = (s.psts.getD k zPst).qty then (m.cost, 0) else mulDivM m.cost (s.lays.getD j zLay).qty (s.psts.getD k zPst).qty 4).1, wrap64 (m.cost - (if (s.lays.getD j zLay).qty = (s.psts.getD k zPst).qty then (m.cost, 0) else mulDivM m.cost (s.lays.getD j zLay).qty (s.psts.getD k zPst).qty 4).1)⟩⟩ by
          unfold landM; rw [HK.out, if_neg h1, if_neg h2, HJ.out, if_neg h3]
        rw [hEm]; clear hEm h1 h2 h3
        generalize hL : s.lays.getD j zLay = L at *
        generalize hP : s.psts.getD k zPst = P at *
        have HLe := Lib.hid hL; have HP := Lib.hid hP; clear hL hP
        by_cases heq : L.qty = P.qty
        · simp only [if_pos heq, ne_eq, not_true_eq_false, if_false]
          have heq' : (L.qty == P.qty) = true := by simpa using heq
          have HQ := Lib.hid heq; clear heq
          go_enter Tryd.func35, Tryd.ntmps35
          go_wp2_with fail
          refine hR.mono ?_; rintro e w1 ⟨rfl, hb⟩
          obtain ⟨hS1, q12, q9, q3, q10, q15, q16, qf⟩ := hSt w1 hb
          have HS1 := Lib.hid hS1; clear hS1
          go_wp2_with fail
          refine (hlay _ q3 HS1.out.l).mono ?_; rintro e w2 ⟨rfl, hb2⟩
          have hbb := hb.trans (hb2.mono hb.size)
          obtain ⟨hS2, q12, q9, q3, q10, q15, q16, qf⟩ := hSt w2 hbb
          obtain ⟨z0, z1, z2, z3⟩ := hS2.l.lay j hll
          rw [HLe.out] at z0 z1 z2 z3
          obtain ⟨p0, p1, p2, p3, p4, p5, p6⟩ := hS2.p.pst k hlt
          rw [HP.out] at p0 p1 p2 p3 p4 p5 p6
          have xl := hS2.xl
          have fl := fun o => hS2.l.blk.frozen o
          have HS2 := Lib.hid hS2; have HBB := Lib.hid hbb; clear hS2 hbb hb hb2
          go_wp2_with fail
          have h3 := HS2.out.setx (s' := s) (c' := ⟨m.seq, 0, m.cost, 0⟩) 15 (.int .i64 m.cost) rfl rfl rfl
          have hc3 : Chg [gx, gl, gp] w (w2.setCell ⟨gx, 15, none⟩ (.int .i64 m.cost)) := (Chg.of_below _ HBB.out).set (.inl (by simp)) _
          generalize (w2.setCell ⟨gx, 15, none⟩ (.int .i64 m.cost)) = w3 at *
          obtain ⟨z0, z1, z2, z3⟩ := h3.l.lay j hll
          rw [HLe.out] at z0 z1 z2 z3
          have q3 : w3.cell? ⟨gx, 3, none⟩ = some (sl gl s.lays.length cl) := by rw [h3.x.cell]; rfl
          have q15 : w3.cell? ⟨gx, 15, none⟩ = some (.int .i64 m.cost) := by rw [h3.x.cell]; rfl
          have fl := fun o => h3.l.blk.frozen o
          have H3 := Lib.hid h3; have HC3 := Lib.hid hc3; clear h3 hc3
          refine still_tail2 14 (by kernel_rfl) (by kernel_rfl) ?_
          simp only [List.take_succ_cons, List.take_zero, List.drop_succ_cons, List.drop_zero]
          repeat still_step
          refine wpStill_nil ?_
          go_wp2_with fail
          have h4 := (H3.out.setl j 3 (.int .i64 (wrap64 (L.val + m.cost))) { L with val := wrap64 (L.val + m.cost) } hll (by decide) (by rw [HLe.out]; rfl)).drew
          have hc4 : Chg [gx, gl, gp] w ((w3.setCell ⟨gl, j * 4 + 3, none⟩ (.int .i64 (wrap64 (L.val + m.cost)))).drew) := (HC3.out.set (.inl (by simp)) _).drew
          generalize ((w3.setCell ⟨gl, j * 4 + 3, none⟩ (.int .i64 (wrap64 (L.val + m.cost)))).drew) = w4 at *
          have q10 : w4.cell? ⟨gx, 10, none⟩ = some (.int .i64 m.cost) := by rw [h4.x.cell]; rfl
          have q15 : w4.cell? ⟨gx, 15, none⟩ = some (.int .i64 m.cost) := by rw [h4.x.cell]; rfl
          have q16 : w4.cell? ⟨gx, 16, none⟩ = some (.int .i64 0) := by rw [h4.x.cell]; rfl
          have fx := fun o => h4.x.frozen o
          have H4 := Lib.hid h4; have HC4 := Lib.hid hc4; clear h4 hc4
          refine still_tail2 12 (by kernel_rfl) (by kernel_rfl) ?_
          simp only [List.take_succ_cons, List.take_zero, List.drop_succ_cons, List.drop_zero]
          repeat still_step
          refine wpStill_nil ?_
          go_wp2_with fail
          go_ret
          have he := end1 H4.out HC4.out hB (by simp; omega) b1 b2 b3 (wrap64 (m.cost - m.cost))
          have hw : wrap64 (m.cost - m.cost) = 0 := by unfold wrap64; omega
          rw [hw] at he ⊢
          exact ⟨rfl, he.2.drew, fun _ => he.1.drew⟩
        · simp only [if_neg heq]
          have heq' : (L.qty == P.qty) = false := by simpa using heq
          have HQ := Lib.hid heq; clear heq
          have hmd := fun w => muldiv_calls m.cost L.qty P.qty 4 w hcost.1 hcost.2 hlq.1.1 hlq.1.2 hpq.1 hpq.2 (by omega) (by omega)
          generalize mulDivM m.cost L.qty P.qty 4 = V at *
          by_cases hv : V.2 = 0
          · have hv' : (V.2 == 0) = true := by simpa using hv
            rw [if_neg (by simpa using hv)]
            have HVV := Lib.hid hv; clear hv
            go_enter Tryd.func35, Tryd.ntmps35
            go_wp2_with fail
            refine hR.mono ?_; rintro e w1 ⟨rfl, hb⟩
            obtain ⟨hS1, q12, q9, q3, q10, q15, q16, qf⟩ := hSt w1 hb
            have HS1 := Lib.hid hS1; clear hS1
            go_wp2_with fail
            refine (hlay _ q3 HS1.out.l).mono ?_; rintro e w2 ⟨rfl, hb2⟩
            have hbb := hb.trans (hb2.mono hb.size)
            obtain ⟨hS2, q12, q9, q3, q10, q15, q16, qf⟩ := hSt w2 hbb
            obtain ⟨z0, z1, z2, z3⟩ := hS2.l.lay j hll
            rw [HLe.out] at z0 z1 z2 z3
            obtain ⟨p0, p1, p2, p3, p4, p5, p6⟩ := hS2.p.pst k hlt
            rw [HP.out] at p0 p1 p2 p3 p4 p5 p6
            have xl := hS2.xl
            have fl := fun o => hS2.l.blk.frozen o
            have HS2 := Lib.hid hS2; have HBB := Lib.hid hbb; clear hS2 hbb hb hb2
            go_wp2_with fail
            go_region_with (first | (go_at_call 23; refine (hmd _).mono ?_; rintro e w2b ⟨rfl, hb3⟩; have HBBb := Lib.hid (HBB.out.trans ((drew_below hb3).mono HBB.out.size)); obtain ⟨hS3, q12, q9, q3, q10, q15, q16, qf⟩ := hSt w2b HBBb.out; have HS2b := Lib.hid hS3; clear hS3))
            all_goals go_wp2_with fail
            all_goals
              have h3 := HS2b.out.setx (s' := s) (c' := ⟨m.seq, 0, V.1, 0⟩) 15 (.int .i64 V.1) rfl rfl rfl
              have hc3 : Chg [gx, gl, gp] w (w2b.setCell ⟨gx, 15, none⟩ (.int .i64 V.1)) := (Chg.of_below _ HBBb.out).set (.inl (by simp)) _
              generalize (w2b.setCell ⟨gx, 15, none⟩ (.int .i64 V.1)) = w3 at *
              obtain ⟨z0, z1, z2, z3⟩ := h3.l.lay j hll
              rw [HLe.out] at z0 z1 z2 z3
              have q3 : w3.cell? ⟨gx, 3, none⟩ = some (sl gl s.lays.length cl) := by rw [h3.x.cell]; rfl
              have q15 : w3.cell? ⟨gx, 15, none⟩ = some (.int .i64 V.1) := by rw [h3.x.cell]; rfl
              have fl := fun o => h3.l.blk.frozen o
              have H3 := Lib.hid h3; have HC3 := Lib.hid hc3; clear h3 hc3
              refine still_tail2 14 (by kernel_rfl) (by kernel_rfl) ?_
              simp only [List.take_succ_cons, List.take_zero, List.drop_succ_cons, List.drop_zero]
              repeat still_step
              refine wpStill_nil ?_
              go_wp2_with fail
              have h4 := (H3.out.setl j 3 (.int .i64 (wrap64 (L.val + V.1))) { L with val := wrap64 (L.val + V.1) } hll (by decide) (by rw [HLe.out]; rfl)).drew
              have hc4 : Chg [gx, gl, gp] w ((w3.setCell ⟨gl, j * 4 + 3, none⟩ (.int .i64 (wrap64 (L.val + V.1)))).drew) := (HC3.out.set (.inl (by simp)) _).drew
              generalize ((w3.setCell ⟨gl, j * 4 + 3, none⟩ (.int .i64 (wrap64 (L.val + V.1)))).drew) = w4 at *
              have q10 : w4.cell? ⟨gx, 10, none⟩ = some (.int .i64 m.cost) := by rw [h4.x.cell]; rfl
              have q15 : w4.cell? ⟨gx, 15, none⟩ = some (.int .i64 V.1) := by rw [h4.x.cell]; rfl
              have q16 : w4.cell? ⟨gx, 16, none⟩ = some (.int .i64 0) := by rw [h4.x.cell]; rfl
              have fx := fun o => h4.x.frozen o
              have H4 := Lib.hid h4; have HC4 := Lib.hid hc4; clear h4 hc4
              refine still_tail2 12 (by kernel_rfl) (by kernel_rfl) ?_
              simp only [List.take_succ_cons, List.take_zero, List.drop_succ_cons, List.drop_zero]
              repeat still_step
              refine wpStill_nil ?_
              go_wp2_with fail
              go_ret
              have he := end1 H4.out HC4.out hB (by simp; omega) b1 b2 b3 (wrap64 (m.cost - V.1))
              simp only [w64]
              exact ⟨rfl, he.2.drew, fun _ => he.1.drew⟩
          · have hv' : (V.2 == 0) = false := by simpa using hv
            rw [if_pos hv]
            have HVV := Lib.hid hv; clear hv
            go_enter Tryd.func35, Tryd.ntmps35
            go_wp2_with fail
            refine hR.mono ?_; rintro e w1 ⟨rfl, hb⟩
            obtain ⟨hS1, q12, q9, q3, q10, q15, q16, qf⟩ := hSt w1 hb
            have HS1 := Lib.hid hS1; clear hS1
            go_wp2_with fail
            refine (hlay _ q3 HS1.out.l).mono ?_; rintro e w2 ⟨rfl, hb2⟩
            have hbb := hb.trans (hb2.mono hb.size)
            obtain ⟨hS2, q12, q9, q3, q10, q15, q16, qf⟩ := hSt w2 hbb
            obtain ⟨z0, z1, z2, z3⟩ := hS2.l.lay j hll
            rw [HLe.out] at z0 z1 z2 z3
            obtain ⟨p0, p1, p2, p3, p4, p5, p6⟩ := hS2.p.pst k hlt
            rw [HP.out] at p0 p1 p2 p3 p4 p5 p6
            have xl := hS2.xl
            have fl := fun o => hS2.l.blk.frozen o
            have HS2 := Lib.hid hS2; have HBB := Lib.hid hbb; clear hS2 hbb hb hb2
            go_wp2_with fail
            go_region_with (first | (go_at_call 23; refine (hmd _).mono ?_; rintro e w2b ⟨rfl, hb3⟩; have HBBb := Lib.hid (HBB.out.trans ((drew_below hb3).mono HBB.out.size)); obtain ⟨hS3, q12, q9, q3, q10, q15, q16, qf⟩ := hSt w2b HBBb.out; have HS2b := Lib.hid hS3; clear hS3))
            all_goals go_wp2_with fail
            all_goals
              go_ret
              exact ⟨rfl, HBBb.out.mono hB, fun h => by cases h⟩
end Go.Proofs.YtboiipkbhbbgfaaDoor
