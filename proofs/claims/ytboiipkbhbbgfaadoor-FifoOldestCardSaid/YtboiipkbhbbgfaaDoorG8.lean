/- The walk of fifo's back. -/
import Derived.Test.YtboiipkbhbbgfaaDoorG7
namespace Go.Proofs.YtboiipkbhbbgfaaDoor
open Go.RowKit

theorem drew_below {w w1 : World} (hb : Below w.drew.heap.size w.drew w1) : Below w.heap.size w w1 := ((Below.refl _ _).drew).trans hb
theorem pst_at (ps : List Pst) (i : Nat) (p : Pst) (h : i < ps.length) : (ps.set i p).getD i zPst = p := by rw [getD_at _ _ _ (by simpa using h)]; simp

set_option maxRecDepth 100000 in
set_option maxHeartbeats 8000000 in
theorem back_any (B gx gl gp cl cp : Nat) (s : Stk) (m : Mov) (kl kp : Array Value) (w : World) (h : St w gx gl gp cl cp s m (c0 m) kl kp) (hn : s.lays.length ≤ 1000) (hnp : s.psts.length ≤ 1000) (hB : B ≤ w.heap.size) (b1 : B ≤ gx) (b2 : B ≤ gl) (b3 : B ≤ gp)
    (hq : I64 m.qty) :
    Calls Tryd.prog 33 #[.pointer (some ⟨gx, 0, none⟩)] w fun e w' => MPost B gx s m (backM s m) w e w' := by
  have lx := h.x.lt
  have lg := h.l.blk.lt
  have lgp := h.p.blk.lt
  have HS := Lib.hid h; clear h
  have hle := find_le 2 m.ref s.psts
  have hR := referred_any gx gl gp cl cp s m (c0 m) kl kp 2 w HS.out hnp
  by_cases h1 : s.psts.length ≤ findM 2 m.ref s.psts
  · have HE := Lib.hid (show backM s m = bad 28 s m by unfold backM; rw [if_pos h1])
    have HV := Lib.hid (show refV gp (findM 2 m.ref s.psts) m.qty s.psts = .tuple #[.pointer none, .int .i64 28] by unfold refV; rw [if_pos h1])
    rw [HV.out] at hR
    rw [HE.out]
    go_enter Tryd.func33, Tryd.ntmps33
    go_wp2_with fail
    refine hR.mono ?_; rintro e w1 ⟨rfl, hb⟩
    go_wp2_with fail
    go_ret
    exact ⟨rfl, hb.mono hB, fun h => by cases h⟩
  · have hlt : findM 2 m.ref s.psts < s.psts.length := by omega
    have hgd := HS.out.p.pst _ hlt
    generalize hk : findM 2 m.ref s.psts = k at *
    have HK := Lib.hid hk; clear hk
    by_cases h2 : wrap64 ((s.psts.getD k zPst).qty - (s.psts.getD k zPst).used) < m.qty
    · have HE := Lib.hid (show backM s m = bad 21 s m by unfold backM; rw [HK.out, if_neg h1, if_pos h2])
      have HV := Lib.hid (show refV gp k m.qty s.psts = .tuple #[.pointer none, .int .i64 21] by unfold refV; rw [if_neg h1, if_pos h2])
      rw [HV.out] at hR
      rw [HE.out]
      go_enter Tryd.func33, Tryd.ntmps33
      go_wp2_with fail
      refine hR.mono ?_; rintro e w1 ⟨rfl, hb⟩
      go_wp2_with fail
      go_ret
      exact ⟨rfl, hb.mono hB, fun h => by cases h⟩
    · have HE := Lib.hid (show backM s m = ⟨0, s.lays ++ [⟨m.seq, (s.psts.getD k zPst).lot, m.qty, partM (wrap64 ((s.psts.getD k zPst).val - (s.psts.getD k zPst).uval)) m.qty (wrap64 ((s.psts.getD k zPst).qty - (s.psts.getD k zPst).used))⟩], s.psts.set k { s.psts.getD k zPst with used := wrap64 ((s.psts.getD k zPst).used + m.qty), uval := wrap64 ((s.psts.getD k zPst).uval + partM (wrap64 ((s.psts.getD k zPst).val - (s.psts.getD k zPst).uval)) m.qty (wrap64 ((s.psts.getD k zPst).qty - (s.psts.getD k zPst).used))) }, ⟨m.seq, m.qty, partM (wrap64 ((s.psts.getD k zPst).val - (s.psts.getD k zPst).uval)) m.qty (wrap64 ((s.psts.getD k zPst).qty - (s.psts.getD k zPst).used)), 0⟩⟩ by unfold backM; rw [HK.out, if_neg h1, if_neg h2])
      have HV := Lib.hid (show refV gp k m.qty s.psts = .tuple #[.pointer (some ⟨gp, k * 7, none⟩), .int .i64 0] by unfold refV; rw [if_neg h1, if_neg h2])
      rw [HV.out] at hR
      rw [HE.out]
      clear HE h2 h1
      generalize hP : s.psts.getD k zPst = P at *
      have HP := Lib.hid hP; clear hP
      have hpart := fun w => part_any (wrap64 (P.val - P.uval)) m.qty (wrap64 (P.qty - P.used)) w (I64.wrap _) hq (I64.wrap _)
      generalize partM (wrap64 (P.val - P.uval)) m.qty (wrap64 (P.qty - P.used)) = v at *
      have hput := fun (s' : Stk) (kp' : Array Value) w h hn => put_any gx gl gp cl cp s' m (c0 m) kl kp' ⟨m.seq, P.lot, m.qty, v⟩ w h hn
      go_enter Tryd.func33, Tryd.ntmps33
      go_wp2_with fail
      refine hR.mono ?_; rintro e w1 ⟨rfl, hb⟩
      have hS1 := HS.out.below' hb
      obtain ⟨p0, p1, p2, p3, p4, p5, p6⟩ := hS1.p.pst k hlt
      rw [HP.out] at p0 p1 p2 p3 p4 p5 p6
      have c5 : w1.cell? ⟨gx, 5, none⟩ = some (.int .i64 m.seq) := by rw [hS1.x.cell]; rfl
      have c9 : w1.cell? ⟨gx, 9, none⟩ = some (.int .i64 m.qty) := by rw [hS1.x.cell]; rfl
      have HS1 := Lib.hid hS1; have HB1 := Lib.hid hb; clear hS1 hb
      go_wp2_with fail
      refine still_tail2 23 (by kernel_rfl) (by kernel_rfl) ?_
      simp only [List.take_succ_cons, List.take_zero, List.drop_succ_cons, List.drop_zero]
      repeat still_step
      refine wpStill_nil ?_
      go_wp2_with fail
      refine (hpart _).mono ?_; rintro e w2 ⟨rfl, hb⟩
      have hb2 := drew_below hb
      have hS2 := HS1.out.below' hb2
      obtain ⟨p0, p1, p2, p3, p4, p5, p6⟩ := hS2.p.pst k hlt
      rw [HP.out] at p0 p1 p2 p3 p4 p5 p6
      have c5 : w2.cell? ⟨gx, 5, none⟩ = some (.int .i64 m.seq) := by rw [hS2.x.cell]; rfl
      have c9 : w2.cell? ⟨gx, 9, none⟩ = some (.int .i64 m.qty) := by rw [hS2.x.cell]; rfl
      have fp := fun o => hS2.p.blk.frozen o
      have HS2 := Lib.hid hS2; have HB2 := Lib.hid (HB1.out.trans (hb2.mono HB1.out.size)); clear hS2 hb hb2
      go_wp2_with fail
      refine still_tail2 9 (by kernel_rfl) (by kernel_rfl) ?_
      simp only [List.take_succ_cons, List.take_zero, List.drop_succ_cons, List.drop_zero]
      repeat still_step
      refine wpStill_nil ?_
      go_wp2_with fail
      have h1 := (HS2.out.setp k 5 (.int .i64 (wrap64 (P.used + m.qty))) { P with used := wrap64 (P.used + m.qty) } hlt (by decide) (by rw [HP.out]; rfl))
      have h2 := (h1.setp k 6 (.int .i64 (wrap64 (P.uval + v))) { P with used := wrap64 (P.used + m.qty), uval := wrap64 (P.uval + v) } (by simpa using hlt) (by decide) (by rw [pst_at _ _ _ hlt]; rfl)).drew
      have hc4 : Chg [gx, gl, gp] w (((w2.setCell ⟨gp, k * 7 + 5, none⟩ (.int .i64 (wrap64 (P.used + m.qty)))).setCell ⟨gp, k * 7 + 6, none⟩ (.int .i64 (wrap64 (P.uval + v)))).drew) := (((Chg.of_below _ HB2.out).set (.inl (by simp)) _).set (.inl (by simp)) _).drew
      simp only [List.set_set] at h2
      generalize (((w2.setCell ⟨gp, k * 7 + 5, none⟩ (.int .i64 (wrap64 (P.used + m.qty)))).setCell ⟨gp, k * 7 + 6, none⟩ (.int .i64 (wrap64 (P.uval + v)))).drew) = w4 at *
      generalize ((kp.setIfInBounds (k * 7 + 5) (Value.int IntKind.i64 (wrap64 (P.used + m.qty)))).setIfInBounds (k * 7 + 6) (Value.int IntKind.i64 (wrap64 (P.uval + v)))) = kp4 at *
      obtain ⟨p0, p1, p2, p3, p4, p5, p6⟩ := h2.p.pst k (by simpa using hlt)
      rw [pst_at _ _ _ hlt] at p2
      have c5 : w4.cell? ⟨gx, 5, none⟩ = some (.int .i64 m.seq) := by rw [h2.x.cell]; rfl
      have c9 : w4.cell? ⟨gx, 9, none⟩ = some (.int .i64 m.qty) := by rw [h2.x.cell]; rfl
      have H4 := Lib.hid h2; have HC4 := Lib.hid hc4; clear h1 h2 hc4 HS2 HB2 p0 p1 p3 p4 p5 p6
      refine still_tail2 17 (by kernel_rfl) (by kernel_rfl) ?_
      simp only [List.take_succ_cons, List.take_zero, List.drop_succ_cons, List.drop_zero]
      repeat still_step
      refine wpStill_nil ?_
      go_wp2_with fail
      refine (hput _ _ _ H4.out.drew hn).mono ?_
      rintro e w5 ⟨rfl, gl', cl', kl', h5, hc5, hat⟩
      have c9 : w5.cell? ⟨gx, 9, none⟩ = some (.int .i64 m.qty) := by rw [h5.x.cell]; rfl
      have e14 : w5.cell? ⟨gx, 14, none⟩ = some (.int .i64 0) := by rw [h5.x.cell]; rfl
      have e15 : w5.cell? ⟨gx, 15, none⟩ = some (.int .i64 0) := by rw [h5.x.cell]; rfl
      have fx := fun o => h5.x.frozen o
      have H5 := Lib.hid h5; have HC5 := Lib.hid hc5; clear h5 hc5
      go_wp2_with fail
      go_ret
      have hs4 := HC4.out.size
      have he := end2 H5.out ((HC4.out.drew).trans HC5.out (by simp)) hB (by simp; omega) b1 (by simp at hat; omega) b3 m.qty v
      exact ⟨rfl, he.2, fun _ => he.1⟩
end Go.Proofs.YtboiipkbhbbgfaaDoor
