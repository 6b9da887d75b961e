/- The walk of fifo's send. -/
import Derived.Test.YtboiipkbhbbgfaaDoorG8
namespace Go.Proofs.YtboiipkbhbbgfaaDoor
open Go.RowKit

theorem end3 {B : Nat} {S : List Nat} {w w3 : World} {gx gl gp cl cp : Nat} {s : Stk} {m : Mov} {d0 : Int} {kl kp : Array Value} {q0 v0 : Int} (h : St w3 gx gl gp cl cp s m ⟨m.seq, q0, v0, d0⟩ kl kp) (hc : Chg S w w3) (hB : B ≤ w.heap.size) (hS : ∀ x ∈ S, B ≤ x) (b1 : B ≤ gx) (b2 : B ≤ gl) (b3 : B ≤ gp) (a b d : Int) :
    StB (((w3.setCell ⟨gx, 14, none⟩ (.int .i64 a)).setCell ⟨gx, 15, none⟩ (.int .i64 b)).setCell ⟨gx, 16, none⟩ (.int .i64 d)) B gx s m ⟨m.seq, a, b, d⟩ ∧ Below B w (((w3.setCell ⟨gx, 14, none⟩ (.int .i64 a)).setCell ⟨gx, 15, none⟩ (.int .i64 b)).setCell ⟨gx, 16, none⟩ (.int .i64 d)) := by
  have h1 := h.setx (s' := s) (c' := ⟨m.seq, a, v0, d0⟩) 14 (.int .i64 a) rfl rfl rfl
  have h2 := h1.setx (s' := s) (c' := ⟨m.seq, a, b, d0⟩) 15 (.int .i64 b) rfl rfl rfl
  have h3 := h2.setx (s' := s) (c' := ⟨m.seq, a, b, d⟩) 16 (.int .i64 d) rfl rfl rfl
  exact ⟨⟨gl, gp, cl, cp, kl, kp, h3, b1, b2, b3⟩, (((hc.below hB hS).setCell b1 _).setCell b1 _).setCell b1 _⟩

theorem cell_off (w : World) (b o o' : Nat) (v : Value) (h : o' ≠ o) : (w.setCell ⟨b, o', none⟩ v).cell? ⟨b, o, none⟩ = w.cell? ⟨b, o, none⟩ := World.cell?_setCell_other w _ _ v (by simp)
theorem St.same {w w' : World} {gx gl gp cl cp : Nat} {s : Stk} {m : Mov} {c : Cst} {kl kp : Array Value} (h : St w gx gl gp cl cp s m c kl kp) (he : w'.heap = w.heap) : St w' gx gl gp cl cp s m c kl kp :=
  ⟨h.x.of_same (by rw [he]), h.l.of_blk (h.l.blk.of_same (by rw [he])), h.p.of_blk (h.p.blk.of_same (by rw [he])), h.xl, h.xp, h.lp⟩

set_option maxRecDepth 100000 in
set_option maxHeartbeats 8000000 in
theorem send_any (B gx gl gp cl cp : Nat) (s : Stk) (m : Mov) (kl kp : Array Value) (w : World) (h : St w gx gl gp cl cp s m (c0 m) kl kp) (hn : s.lays.length ≤ 1000) (hnp : s.psts.length ≤ 1000) (hB : B ≤ w.heap.size) (b1 : B ≤ gx) (b2 : B ≤ gl) (b3 : B ≤ gp)
    (hok : LaysOk s.lays) (hq : I64 m.qty) :
    Calls Tryd.prog 34 #[.pointer (some ⟨gx, 0, none⟩)] w fun e w' => MPost B gx s m (sendM s m) w e w' := by
  have lx := h.x.lt
  have lg := h.l.blk.lt
  have lgp := h.p.blk.lt
  have HS := Lib.hid h; clear h
  have hle := find_le 1 m.ref s.psts
  have hR := referred_any gx gl gp cl cp s m (c0 m) kl kp 1 w HS.out hnp
  by_cases h1 : s.psts.length ≤ findM 1 m.ref s.psts
  · have HE := Lib.hid (show sendM s m = bad 28 s m by unfold sendM; rw [if_pos h1])
    have HV := Lib.hid (show refV gp (findM 1 m.ref s.psts) m.qty s.psts = .tuple #[.pointer none, .int .i64 28] by unfold refV; rw [if_pos h1])
    rw [HV.out] at hR
    rw [HE.out]
    go_enter Tryd.func34, Tryd.ntmps34
    go_wp2_with fail
    refine hR.mono ?_; rintro e w1 ⟨rfl, hb⟩
    go_wp2_with fail
    go_ret
    exact ⟨rfl, hb.mono hB, fun h => by cases h⟩
  · have hlt : findM 1 m.ref s.psts < s.psts.length := by omega
    generalize hk : findM 1 m.ref s.psts = k at *
    have HK := Lib.hid hk; clear hk
    by_cases h2 : wrap64 ((s.psts.getD k zPst).qty - (s.psts.getD k zPst).used) < m.qty
    · have HE := Lib.hid (show sendM s m = bad 21 s m by unfold sendM; rw [HK.out, if_neg h1, if_pos h2])
      have HV := Lib.hid (show refV gp k m.qty s.psts = .tuple #[.pointer none, .int .i64 21] by unfold refV; rw [if_neg h1, if_pos h2])
      rw [HV.out] at hR
      rw [HE.out]
      go_enter Tryd.func34, Tryd.ntmps34
      go_wp2_with fail
      refine hR.mono ?_; rintro e w1 ⟨rfl, hb⟩
      go_wp2_with fail
      go_ret
      exact ⟨rfl, hb.mono hB, fun h => by cases h⟩
    · have HV := Lib.hid (show refV gp k m.qty s.psts = .tuple #[.pointer (some ⟨gp, k * 7, none⟩), .int .i64 0] by unfold refV; rw [if_neg h1, if_neg h2])
      rw [HV.out] at hR
      have hSt : ∀ w1, Below w.heap.size w w1 → St w1 gx gl gp cl cp s m (c0 m) kl kp ∧ w1.cell? ⟨gx, 12, none⟩ = some (.int .i64 m.ref) ∧ w1.cell? ⟨gx, 9, none⟩ = some (.int .i64 m.qty) ∧ w1.cell? ⟨gx, 3, none⟩ = some (sl gl s.lays.length cl) := by
        intro w1 hb
        have hS1 := HS.out.below' hb
        exact ⟨hS1, by rw [hS1.x.cell]; rfl, by rw [hS1.x.cell]; rfl, by rw [hS1.x.cell]; rfl⟩
      have hlle := layer_le m.ref s.lays
      have hlay := fun w hx hl => layer_any gx gl cl s.lays kl m.ref w hx hl hn
      by_cases h3 : s.lays.length ≤ layerM m.ref s.lays
      · have HE := Lib.hid (show sendM s m = bad 21 s m by unfold sendM; rw [HK.out, if_neg h1, if_neg h2, if_pos (.inl h3)])
        have HLI := Lib.hid (show layI (layerM m.ref s.lays) s.lays.length = -1 by unfold layI; rw [if_neg (by omega)])
        rw [HLI.out] at hlay
        rw [HE.out]
        go_enter Tryd.func34, Tryd.ntmps34
        go_wp2_with fail
        refine hR.mono ?_; rintro e w1 ⟨rfl, hb⟩
        obtain ⟨hS1, q12, q9, q3⟩ := hSt w1 hb
        have HS1 := Lib.hid hS1; clear hS1
        go_wp2_with fail
        refine (hlay _ q3 HS1.out.l).mono ?_; rintro e w2 ⟨rfl, hb2⟩
        have hbb := hb.trans (hb2.mono hb.size)
        obtain ⟨hS2, q12, q9, q3⟩ := hSt w2 hbb
        have HS2 := Lib.hid hS2; clear hS2
        go_wp2_with fail
        go_quiet (fail)
        go_wp2_with fail
        go_ret
        exact ⟨rfl, (hbb.mono hB).trans ⟨rfl, rfl, rfl, Nat.le_refl _, fun _ _ => rfl⟩, fun h => by cases h⟩
      · have hll : layerM m.ref s.lays < s.lays.length := by omega
        have HLI := Lib.hid (show layI (layerM m.ref s.lays) s.lays.length = (layerM m.ref s.lays : Int) by unfold layI; rw [if_pos hll])
        rw [HLI.out] at hlay
        generalize hj : layerM m.ref s.lays = j at *
        have HJ := Lib.hid hj; clear hj
        have j0 : (0 : Int) ≤ (j : Int) := by omega
        have j1 : (j : Int) < (s.lays.length : Int) := by omega
        have jn : decide ((j : Int) < 0) = false := by simp
        have hlq := hok (s.lays.getD j zLay) (by rw [getD_at _ _ _ hll]; exact List.getElem_mem _)
        have hEt := fun h4 => (show sendM s m = ⟨0, (takeM s.lays j m.qty).2, s.psts.set k { s.psts.getD k zPst with used := wrap64 ((s.psts.getD k zPst).used + m.qty) }, ⟨m.seq, wrap64 (-m.qty), wrap64 (-(takeM s.lays j m.qty).1), wrap64 ((takeM s.lays j m.qty).1 - m.cost)⟩⟩ by
            unfold sendM; rw [HK.out, if_neg h1, if_neg h2, HJ.out, if_neg h4])
        have hEf := fun h4 => (show sendM s m = bad 21 s m by unfold sendM; rw [HK.out, if_neg h1, if_neg h2, HJ.out, if_pos (.inr h4)])
        generalize hL : s.lays.getD j zLay = L at *
        have HLe := Lib.hid hL; clear hL
        by_cases h4 : L.qty < m.qty
        · have h4' : decide (L.qty < m.qty) = true := by simpa using h4
          rw [hEf h4]
          clear h4 hEf hEt
          go_enter Tryd.func34, Tryd.ntmps34
          go_wp2_with fail
          refine hR.mono ?_; rintro e w1 ⟨rfl, hb⟩
          obtain ⟨hS1, q12, q9, q3⟩ := hSt w1 hb
          have HS1 := Lib.hid hS1; clear hS1
          go_wp2_with fail
          refine (hlay _ q3 HS1.out.l).mono ?_; rintro e w2 ⟨rfl, hb2⟩
          have hbb := hb.trans (hb2.mono hb.size)
          obtain ⟨hS2, q12, q9, q3⟩ := hSt w2 hbb
          obtain ⟨z0, z1, z2, z3⟩ := hS2.l.lay j hll
          rw [HLe.out] at z0 z1 z2 z3
          have HS2 := Lib.hid hS2; clear hS2
          go_wp2_with fail
          go_quiet (fail)
          go_wp2_with fail
          go_ret
          exact ⟨rfl, (hbb.mono hB).trans ⟨rfl, rfl, rfl, Nat.le_refl _, fun _ _ => rfl⟩, fun h => by cases h⟩
        · have h4' : decide (L.qty < m.qty) = false := by simpa using h4
          rw [hEt (by omega)]
          clear h4 hEf hEt h1 h2
          generalize hP : s.psts.getD k zPst = P at *
          have HP := Lib.hid hP; clear hP
          have htake := fun (s' : Stk) (kp' : Array Value) w h hn he => take_any gx gl gp cl cp s' m (c0 m) kl kp' j m.qty w h hn he
          go_enter Tryd.func34, Tryd.ntmps34
          go_wp2_with fail
          refine hR.mono ?_; rintro e w1 ⟨rfl, hb⟩
          obtain ⟨hS1, q12, q9, q3⟩ := hSt w1 hb
          have HS1 := Lib.hid hS1; clear hS1
          go_wp2_with fail
          refine (hlay _ q3 HS1.out.l).mono ?_; rintro e w2 ⟨rfl, hb2⟩
          have hbb := hb.trans (hb2.mono hb.size)
          obtain ⟨hS2, q12, q9, q3⟩ := hSt w2 hbb
          obtain ⟨z0, z1, z2, z3⟩ := hS2.l.lay j hll
          rw [HLe.out] at z0 z1 z2 z3
          have HS2 := Lib.hid hS2; have HBB := Lib.hid hbb; clear hS2 hbb hb hb2
          go_wp2_with fail
          go_quiet (fail)
          have hS3 : St (w2.drewN nq) gx gl gp cl cp s m (c0 m) kl kp := HS2.out.same rfl
          have hb3 : Below w.heap.size w (w2.drewN nq) := HBB.out.trans ⟨rfl, rfl, rfl, Nat.le_refl _, fun _ _ => rfl⟩
          generalize w2.drewN nq = w3 at *
          obtain ⟨hS3, q12, q9, q3⟩ := hSt w3 hb3
          obtain ⟨p0, p1, p2, p3, p4, p5, p6⟩ := hS3.p.pst k hlt
          rw [HP.out] at p0 p1 p2 p3 p4 p5 p6
          have fp := fun o => hS3.p.blk.frozen o
          have HS3 := Lib.hid hS3; have HB3 := Lib.hid hb3; clear hS3 hb3 z0 z1 z2 z3
          go_wp2_with fail
          refine still_tail2 9 (by kernel_rfl) (by kernel_rfl) ?_
          simp only [List.take_succ_cons, List.take_zero, List.drop_succ_cons, List.drop_zero]
          repeat still_step
          refine wpStill_nil ?_
          go_wp2_with fail
          have h1 := (HS3.out.setp k 5 (.int .i64 (wrap64 (P.used + m.qty))) { P with used := wrap64 (P.used + m.qty) } hlt (by decide) (by rw [HP.out]; rfl)).drew
          have hc4 : Chg [gx, gl, gp] w ((w3.setCell ⟨gp, k * 7 + 5, none⟩ (.int .i64 (wrap64 (P.used + m.qty)))).drew) := ((Chg.of_below _ HB3.out).set (.inl (by simp)) _).drew
          generalize ((w3.setCell ⟨gp, k * 7 + 5, none⟩ (.int .i64 (wrap64 (P.used + m.qty)))).drew) = w4 at *
          have H4 := Lib.hid h1; have HC4 := Lib.hid hc4; clear h1 hc4 p0 p1 p2 p3 p4 p5 p6 fp
          refine (htake _ _ _ H4.out hll hn (by show I64 (s.lays.getD j zLay).val; rw [HLe.out]; exact hlq.2) (by show I64 (s.lays.getD j zLay).qty; rw [HLe.out]; exact hlq.1) hq).mono ?_
          rintro e w5 ⟨rfl, gl', cl', kl', h5, hc5, hat⟩
          have c9 : w5.cell? ⟨gx, 9, none⟩ = some (.int .i64 m.qty) := by rw [h5.x.cell]; rfl
          have c10 : w5.cell? ⟨gx, 10, none⟩ = some (.int .i64 m.cost) := by rw [h5.x.cell]; rfl
          have e14 : w5.cell? ⟨gx, 14, none⟩ = some (.int .i64 0) := by rw [h5.x.cell]; rfl
          have e15 : w5.cell? ⟨gx, 15, none⟩ = some (.int .i64 0) := by rw [h5.x.cell]; rfl
          have e16 : w5.cell? ⟨gx, 16, none⟩ = some (.int .i64 0) := by rw [h5.x.cell]; rfl
          have fx := fun o => h5.x.frozen o
          have H5 := Lib.hid h5; have HC5 := Lib.hid hc5; clear h5 hc5
          go_wp2_with fail
          go_region_held3 (fun w' => w'.cell? ⟨gx, 9, none⟩ = some (.int .i64 m.qty) ∧ w'.cell? ⟨gx, 10, none⟩ = some (.int .i64 m.cost)) (simp [*, cell_off]) (fail)
          all_goals
            go_wp2_with fail
            go_ret
            have hs4 := HC4.out.size
            have he := end3 H5.out (HC4.out.trans HC5.out (by simp)) hB (by simp; omega) b1 (by omega) b3 (wrap64 (-m.qty)) (wrap64 (-(takeM s.lays j m.qty).1)) (wrap64 ((takeM s.lays j m.qty).1 - m.cost))
            simp only [w64]
            exact ⟨rfl, he.2.drew, fun _ => he.1.drew⟩
end Go.Proofs.YtboiipkbhbbgfaaDoor
