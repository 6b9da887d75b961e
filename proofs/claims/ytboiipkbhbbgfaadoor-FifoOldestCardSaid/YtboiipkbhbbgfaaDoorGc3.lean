/- Step, a movement of one kind. -/
import Derived.Test.YtboiipkbhbbgfaaDoorGc0
namespace Go.Proofs.YtboiipkbhbbgfaaDoor
open Go.RowKit

set_option maxRecDepth 100000 in
set_option maxHeartbeats 16000000 in
theorem step_k3 (s : Stk) (m : Mov) (vl vp : Value) (w : World) (hl : Rd w 4 vl s.lays.length (laysC s.lays)) (hp : Rd w 7 vp s.psts.length (pstsC s.psts)) (hn : s.lays.length ≤ 900) (hnp : s.psts.length ≤ 900)
    (_hok : LaysOk s.lays) (_hpk : PstsOk s.psts) (hq : I64 m.qty) (hcost : I64 m.cost) (hlen : LengthsAt w) (h1 : oneM m = 0) (h2 : ¬ findM 0 m.seq s.psts < s.psts.length) (hk : m.kind = 3) :
    Calls Tryd.prog 14 #[.agg (stkA s.qty s.val s.price vl vp), m.v] w fun e w' => StepPost (stepM s m) w e w' := by
  have HKD := Lib.hid hk; clear hk
  have HL := Lib.hid hl; have HP := Lib.hid hp; clear hl hp
  have hcl := fun w hl hp => cloned_any s.qty s.val s.price vl vp s.lays s.psts w hl hp (by omega) (by omega)
  go_enter Tryd.func14, Tryd.ntmps14
  go_wp2_with fail
  generalize hW : ((((w.alloc (.cells (stkA s.qty s.val s.price vl vp) 32)).alloc (.cells (mCells m) 38)).alloc (.cells stkZ 32)).alloc (.cells cstZ 34)) = W at *
  have hWs : W.heap.size = w.heap.size + 4 := by rw [← hW]; simp
  have hc0 : Below w.heap.size w W := by rw [← hW]; exact (((((Below.refl _ _).alloc (by simp) _).alloc (by simp <;> omega) _).alloc (by simp <;> omega) _).alloc (by simp <;> omega) _)
  have hA : Blk W w.heap.size 32 (stkA s.qty s.val s.price vl vp) := by rw [← hW]; exact ((((Blk.new w 32 _).alloc _).alloc _).alloc _)
  have hM : Blk W (w.heap.size + 1) 38 (mCells m) := by rw [← hW]; exact (((Blk.new2 w _ 38 _).alloc _).alloc _)
  have hZ : Blk W (w.heap.size + 1 + 1) 32 stkZ := by rw [← hW]; have := ((Blk.new2 (w.alloc (.cells (stkA s.qty s.val s.price vl vp) 32)) (.cells (mCells m) 38) 32 stkZ).alloc (.cells cstZ 34)); simpa using this
  have hC : Blk W (w.heap.size + 1 + 1 + 1) 34 cstZ := by rw [← hW]; have := Blk.new2 ((w.alloc (.cells (stkA s.qty s.val s.price vl vp) 32)).alloc (.cells (mCells m) 38)) (.cells stkZ 32) 34 cstZ; simpa using this
  clear hW
  have a0 : W.cell? ⟨w.heap.size, 0, none⟩ = some (.int .i64 s.qty) := by rw [hA.cell]; rfl
  have a1 : W.cell? ⟨w.heap.size, 1, none⟩ = some (.int .i64 s.val) := by rw [hA.cell]; rfl
  have a2 : W.cell? ⟨w.heap.size, 2, none⟩ = some (.int .i64 s.price) := by rw [hA.cell]; rfl
  have a3 : W.cell? ⟨w.heap.size, 3, none⟩ = some (vl) := by rw [hA.cell]; rfl
  have a4 : W.cell? ⟨w.heap.size, 4, none⟩ = some (vp) := by rw [hA.cell]; rfl
  have m0 : W.cell? ⟨w.heap.size + 1, 0, none⟩ = some (.int .i64 m.seq) := by rw [hM.cell]; rfl
  have m1 : W.cell? ⟨w.heap.size + 1, 1, none⟩ = some (.int .i64 m.value) := by rw [hM.cell]; rfl
  have m2 : W.cell? ⟨w.heap.size + 1, 2, none⟩ = some (.string m.item) := by rw [hM.cell]; rfl
  have m3 : W.cell? ⟨w.heap.size + 1, 3, none⟩ = some (.int .i64 m.kind) := by rw [hM.cell]; rfl
  have m4 : W.cell? ⟨w.heap.size + 1, 4, none⟩ = some (.int .i64 m.qty) := by rw [hM.cell]; rfl
  have m5 : W.cell? ⟨w.heap.size + 1, 5, none⟩ = some (.int .i64 m.cost) := by rw [hM.cell]; rfl
  have m6 : W.cell? ⟨w.heap.size + 1, 6, none⟩ = some (.string m.lot) := by rw [hM.cell]; rfl
  have m7 : W.cell? ⟨w.heap.size + 1, 7, none⟩ = some (.int .i64 m.ref) := by rw [hM.cell]; rfl
  have rl := (HL.out.below hc0).below (w' := W.drew) (Below.refl _ _).drew
  have rp := (HP.out.below hc0).below (w' := W.drew) (Below.refl _ _).drew
  have HRL := Lib.hid rl; have HRP := Lib.hid rp; clear rl rp
  have HA := Lib.hid hA; have HM := Lib.hid hM; have HZ := Lib.hid hZ; have HC := Lib.hid hC; have HC0 := Lib.hid hc0; clear hA hM hZ hC hc0
  have HLE := Lib.hid hlen; clear hlen
  go_region_held3 (fun w' => w'.cell? ⟨w.heap.size, 0, none⟩ = some (.int .i64 s.qty) ∧ w'.cell? ⟨w.heap.size, 1, none⟩ = some (.int .i64 s.val) ∧ w'.cell? ⟨w.heap.size, 2, none⟩ = some (.int .i64 s.price) ∧ w'.cell? ⟨w.heap.size, 3, none⟩ = some (vl) ∧ w'.cell? ⟨w.heap.size, 4, none⟩ = some (vp) ∧ w'.cell? ⟨w.heap.size + 1, 0, none⟩ = some (.int .i64 m.seq) ∧ w'.cell? ⟨w.heap.size + 1, 1, none⟩ = some (.int .i64 m.value) ∧ w'.cell? ⟨w.heap.size + 1, 2, none⟩ = some (.string m.item) ∧ w'.cell? ⟨w.heap.size + 1, 3, none⟩ = some (.int .i64 m.kind) ∧ w'.cell? ⟨w.heap.size + 1, 4, none⟩ = some (.int .i64 m.qty) ∧ w'.cell? ⟨w.heap.size + 1, 5, none⟩ = some (.int .i64 m.cost) ∧ w'.cell? ⟨w.heap.size + 1, 6, none⟩ = some (.string m.lot) ∧ w'.cell? ⟨w.heap.size + 1, 7, none⟩ = some (.int .i64 m.ref))
    (first | (go_keep; done) | ((try go_split_ands); (repeat' apply And.intro) <;> (first | (go_keep; done) | (rw [hb.cell (by simp <;> omega)]; (first | assumption | (go_keep; done))))))
    ((go_at_call 27; refine (hcl _ HRL.out HRP.out).mono ?_; rintro e w1 ⟨gl, gp, kl, kp, rfl, hb, hlr, hpr, hne, hg1, hg2⟩))
  have hxg : gl ≠ w1.heap.size := Nat.ne_of_lt hlr.blk.lt
  have hxp : gp ≠ w1.heap.size := Nat.ne_of_lt hpr.blk.lt
  have hV0 : St (w1.alloc (.cells (xCells s.qty s.val s.price (sl gl s.lays.length s.lays.length) (sl gp s.psts.length s.psts.length) m (c0 m)) 62)) w1.heap.size gl gp s.lays.length s.psts.length s m (c0 m) kl kp := ⟨Blk.new w1 62 _, hlr.of_blk (hlr.blk.alloc _), hpr.of_blk (hpr.blk.alloc _), Ne.symm hxg, Ne.symm hxp, hne⟩
  have hbV0 : Below W.heap.size W (w1.alloc (.cells (xCells s.qty s.val s.price (sl gl s.lays.length s.lays.length) (sl gp s.psts.length s.psts.length) m (c0 m)) 62)) := (drew_below hb).alloc (drew_below hb).size _
  generalize w1.alloc (.cells (xCells s.qty s.val s.price (sl gl s.lays.length s.lays.length) (sl gp s.psts.length s.psts.length) m (c0 m)) 62) = V at *
  generalize hgx : w1.heap.size = gx at *
  have hgx1 : w.heap.size + 4 ≤ gx := by have := hb.size; simp at this; omega
  have hgl1 : w.heap.size + 4 ≤ gl := by simp at hg1; omega
  have hgp1 : w.heap.size + 4 ≤ gp := by simp at hg2; omega
  have hMV := HM.out.below' hbV0
  have hZV := HZ.out.below' hbV0
  have hCV := HC.out.below' hbV0
  have hBV : Below w.heap.size w V := HC0.out.trans (hbV0.mono (by omega))
  have hSV := hbV0.size
  clear a0 a1 a2 a3 a4 m0 m1 m2 m3 m4 m5 m6 m7 hlr hpr hxg hxp hne hg1 hg2 hb hgx hcl
  rename_i hHeld
  clear hHeld
  have m0 : V.cell? ⟨w.heap.size + 1, 0, none⟩ = some (.int .i64 m.seq) := by rw [hMV.cell]; rfl
  have m1 : V.cell? ⟨w.heap.size + 1, 1, none⟩ = some (.int .i64 m.value) := by rw [hMV.cell]; rfl
  have m2 : V.cell? ⟨w.heap.size + 1, 2, none⟩ = some (.string m.item) := by rw [hMV.cell]; rfl
  have m3 : V.cell? ⟨w.heap.size + 1, 3, none⟩ = some (.int .i64 m.kind) := by rw [hMV.cell]; rfl
  have m4 : V.cell? ⟨w.heap.size + 1, 4, none⟩ = some (.int .i64 m.qty) := by rw [hMV.cell]; rfl
  have m5 : V.cell? ⟨w.heap.size + 1, 5, none⟩ = some (.int .i64 m.cost) := by rw [hMV.cell]; rfl
  have m6 : V.cell? ⟨w.heap.size + 1, 6, none⟩ = some (.string m.lot) := by rw [hMV.cell]; rfl
  have m7 : V.cell? ⟨w.heap.size + 1, 7, none⟩ = some (.int .i64 m.ref) := by rw [hMV.cell]; rfl
  have HST := Lib.hid hV0; have HBW := Lib.hid hbV0; have HMV := Lib.hid hMV; have HZV := Lib.hid hZV; have HCV := Lib.hid hCV; have HBV := Lib.hid hBV; clear hV0 hbV0 hMV hZV hCV hBV
  go_wp2_with fail
  refine (one_any m _ (HLE.out.below HBV.out)).mono ?_; rintro e w2 ⟨rfl, hb2⟩
  have h1' : (oneM m == 0) = true := by simpa using h1
  have hS2 := HST.out.below' hb2
  have hM2 := HMV.out.below' hb2
  have hZ2 := HZV.out.below' hb2
  have hC2 := HCV.out.below' hb2
  have hB2 := HBV.out.trans (hb2.mono (by omega))
  have hs2 := hB2.size
  have hs2' := hb2.size
  have x4 : w2.cell? ⟨gx, 4, none⟩ = some (sl gp s.psts.length s.psts.length) := by rw [hS2.x.cell]; rfl
  have m0 : w2.cell? ⟨w.heap.size + 1, 0, none⟩ = some (.int .i64 m.seq) := by rw [hM2.cell]; rfl
  have m1 : w2.cell? ⟨w.heap.size + 1, 1, none⟩ = some (.int .i64 m.value) := by rw [hM2.cell]; rfl
  have m2 : w2.cell? ⟨w.heap.size + 1, 2, none⟩ = some (.string m.item) := by rw [hM2.cell]; rfl
  have m3 : w2.cell? ⟨w.heap.size + 1, 3, none⟩ = some (.int .i64 m.kind) := by rw [hM2.cell]; rfl
  have m4 : w2.cell? ⟨w.heap.size + 1, 4, none⟩ = some (.int .i64 m.qty) := by rw [hM2.cell]; rfl
  have m5 : w2.cell? ⟨w.heap.size + 1, 5, none⟩ = some (.int .i64 m.cost) := by rw [hM2.cell]; rfl
  have m6 : w2.cell? ⟨w.heap.size + 1, 6, none⟩ = some (.string m.lot) := by rw [hM2.cell]; rfl
  have m7 : w2.cell? ⟨w.heap.size + 1, 7, none⟩ = some (.int .i64 m.ref) := by rw [hM2.cell]; rfl
  have HS2 := Lib.hid hS2; have HM2 := Lib.hid hM2; have HZ2 := Lib.hid hZ2; have HC2 := Lib.hid hC2; have HB2 := Lib.hid hB2; clear hS2 hM2 hZ2 hC2 hB2 hb2
  have hpa := past_any gx gp s.psts.length s.psts kp 0 m.seq w2 x4 HS2.out.p (by omega)
  have hfl := find_le 0 m.seq s.psts
  have hE := fun o ho => step_do s m h1 h2 o ho
  have hpp : pastP gp (findM 0 m.seq s.psts) s.psts.length = .pointer none := by unfold pastP; rw [if_neg h2]
  rw [hpp] at hpa
  have HEE := Lib.hid hE
  clear hpp h1 h2 hE hfl
  have hdl := do_len s m
  go_wp2_with fail
  refine hpa.mono ?_; rintro e w3 ⟨rfl, rfl⟩
  have hk := HKD.out
  have hdo := back_any W.heap.size gx gl gp _ _ s m kl kp w2 HS2.out (by omega) (by omega) (by omega) (by omega) (by omega) (by omega) hq
  rw [show backM s m = doM s m by unfold doM; rw [if_neg (by rw [hk]; decide), if_neg (by rw [hk]; decide), if_pos hk]] at hdo
  rw [hk] at m3
  clear hk
  go_wp2_with fail
  refine hdo.mono ?_
  clear hdo
  generalize doM s m = o at *
  rintro e w4 ⟨rfl, hb4, hst⟩
  have HEo := Lib.hid (HEE.out o rfl)
  have hM4 := HM2.out.below hb4 (by omega)
  have hZ4 := HZ2.out.below hb4 (by omega)
  have hC4 := HC2.out.below hb4 (by omega)
  have hB4 := HB2.out.trans (hb4.mono (by omega))
  have hs4 := hb4.size
  have HM4 := Lib.hid hM4; have HZ4 := Lib.hid hZ4; have HC4 := Lib.hid hC4; have HB4 := Lib.hid hB4; have HST4 := Lib.hid hst; clear hM4 hZ4 hC4 hB4 hb4 hst
  by_cases he : o.err = 0
  · have he' : (o.err == 0) = true := by simpa using he
    obtain ⟨gl4, gp4, cl4, cp4, kl4, kp4, hS4, q1, q2, q3⟩ := HST4.out he
    have HX := Lib.hid (show stepM s m = if overM o.lays (wrap64 (s.qty + o.cst.qty)) (wrap64 (s.val + o.cst.val)) o.cst.var then ⟨4, zStk, zCst⟩ else ⟨0, ⟨wrap64 (s.qty + o.cst.qty), wrap64 (s.val + o.cst.val), s.price, o.lays, o.psts⟩, o.cst⟩ by rw [HEo.out, if_neg (by simpa using he)])
    rw [he]
    clear he he'
    have x0 : w4.cell? ⟨gx, 0, none⟩ = some (.int .i64 s.qty) := by rw [hS4.x.cell]; rfl
    have x1 : w4.cell? ⟨gx, 1, none⟩ = some (.int .i64 s.val) := by rw [hS4.x.cell]; rfl
    have x14 : w4.cell? ⟨gx, 14, none⟩ = some (.int .i64 o.cst.qty) := by rw [hS4.x.cell]; rfl
    have x15 : w4.cell? ⟨gx, 15, none⟩ = some (.int .i64 o.cst.val) := by rw [hS4.x.cell]; rfl
    have fx := fun k => hS4.x.frozen k
    have HS4 := Lib.hid hS4; clear hS4
    go_wp2_with fail
    refine still_tail2 10 (by kernel_rfl) (by kernel_rfl) ?_
    simp only [List.take_succ_cons, List.take_zero, List.drop_succ_cons, List.drop_zero]
    repeat still_step
    refine wpStill_nil ?_
    go_wp2_with fail
    refine still_tail2 10 (by kernel_rfl) (by kernel_rfl) ?_
    simp only [List.take_succ_cons, List.take_zero, List.drop_succ_cons, List.drop_zero]
    repeat still_step
    refine wpStill_nil ?_
    go_wp2_with fail
    have hS5 := ((HS4.out.setx (s' := ⟨wrap64 (s.qty + o.cst.qty), s.val, s.price, o.lays, o.psts⟩) (c' := o.cst) 0 (.int .i64 (wrap64 (s.qty + o.cst.qty))) rfl rfl rfl).setx (s' := ⟨wrap64 (s.qty + o.cst.qty), wrap64 (s.val + o.cst.val), s.price, o.lays, o.psts⟩) (c' := o.cst) 1 (.int .i64 (wrap64 (s.val + o.cst.val))) rfl rfl rfl).drew.drew
    have hb5 : Below W.heap.size w4 ((w4.setCell ⟨gx, 0, none⟩ (.int .i64 (wrap64 (s.qty + o.cst.qty)))).setCell ⟨gx, 1, none⟩ (.int .i64 (wrap64 (s.val + o.cst.val)))).drew.drew := ((((Below.refl _ _).setCell q1 _).setCell q1 _).drew).drew
    generalize ((w4.setCell ⟨gx, 0, none⟩ (.int .i64 (wrap64 (s.qty + o.cst.qty)))).setCell ⟨gx, 1, none⟩ (.int .i64 (wrap64 (s.val + o.cst.val)))).drew.drew = w5 at *
    have x0 : w5.cell? ⟨gx, 0, none⟩ = some (.int .i64 (wrap64 (s.qty + o.cst.qty))) := by rw [hS5.x.cell]; rfl
    have x1 : w5.cell? ⟨gx, 1, none⟩ = some (.int .i64 (wrap64 (s.val + o.cst.val))) := by rw [hS5.x.cell]; rfl
    have x3 : w5.cell? ⟨gx, 3, none⟩ = some (sl gl4 o.lays.length cl4) := by rw [hS5.x.cell]; rfl
    have x16 : w5.cell? ⟨gx, 16, none⟩ = some (.int .i64 o.cst.var) := by rw [hS5.x.cell]; rfl
    have hs5 := hb5.size
    have hov := over_any gx gl4 cl4 o.lays kl4 _ _ _ w5 x3 x0 x1 x16 hS5.l (by omega)
    have HS5 := Lib.hid hS5; have HB5 := Lib.hid hb5; clear hS5 hb5
    cases hvv : overM o.lays (wrap64 (s.qty + o.cst.qty)) (wrap64 (s.val + o.cst.val)) o.cst.var with
    | true =>
      rw [hvv] at hov
      have HY := Lib.hid (show stepM s m = ⟨4, zStk, zCst⟩ by rw [HX.out, if_pos hvv]); clear hvv
      refine hov.mono ?_; rintro e w6 ⟨rfl, hb6⟩
      have hb46 := HB5.out.trans (hb6.mono (by omega))
      have hZ6 := HZ4.out.below hb46 (by omega)
      have hC6 := HC4.out.below hb46 (by omega)
      have hB6 := HB4.out.trans (hb46.mono (by omega))
      have z0 : w6.cell? ⟨w.heap.size + 1 + 1, 0, none⟩ = some (.int .i64 0) := by rw [hZ6.cell]; rfl
      have z1 : w6.cell? ⟨w.heap.size + 1 + 1, 1, none⟩ = some (.int .i64 0) := by rw [hZ6.cell]; rfl
      have z2 : w6.cell? ⟨w.heap.size + 1 + 1, 2, none⟩ = some (.int .i64 0) := by rw [hZ6.cell]; rfl
      have z3 : w6.cell? ⟨w.heap.size + 1 + 1, 3, none⟩ = some (.slice none 0 0) := by rw [hZ6.cell]; rfl
      have z4 : w6.cell? ⟨w.heap.size + 1 + 1, 4, none⟩ = some (.slice none 0 0) := by rw [hZ6.cell]; rfl
      have d0 : w6.cell? ⟨w.heap.size + 1 + 1 + 1, 0, none⟩ = some (.int .i64 0) := by rw [hC6.cell]; rfl
      have d1 : w6.cell? ⟨w.heap.size + 1 + 1 + 1, 1, none⟩ = some (.int .i64 0) := by rw [hC6.cell]; rfl
      have d2 : w6.cell? ⟨w.heap.size + 1 + 1 + 1, 2, none⟩ = some (.int .i64 0) := by rw [hC6.cell]; rfl
      have d3 : w6.cell? ⟨w.heap.size + 1 + 1 + 1, 3, none⟩ = some (.int .i64 0) := by rw [hC6.cell]; rfl
      have fZ := fun o => hZ6.frozen o
      have fC := fun o => hC6.frozen o
      have HB6 := Lib.hid hB6; clear hB6 hb46 hb6 hZ6 hC6 hov
      go_wp2_with fail
      rw [HY.out]
      refine bodyPost_ret (v := .tuple #[.agg stkZ, .agg cstZ, .int .i64 (4)]) (by simp [results, Tryd.results14, go_sem, *]) rfl (errEnd _ ?_)
      exact (((((((((HB6.out.setCell (by simp <;> omega) _).setCell (by simp <;> omega) _).setCell (by simp <;> omega) _).setCell (by simp <;> omega) _).setCell (by simp <;> omega) _).setCell (by simp <;> omega) _).setCell (by simp <;> omega) _).setCell (by simp <;> omega) _).setCell (by simp <;> omega) _)
    | false =>
      rw [hvv] at hov
      have HY := Lib.hid (show stepM s m = ⟨0, ⟨wrap64 (s.qty + o.cst.qty), wrap64 (s.val + o.cst.val), s.price, o.lays, o.psts⟩, o.cst⟩ by rw [HX.out, if_neg (by rw [hvv]; decide)]); clear hvv
      refine hov.mono ?_; rintro e w6 ⟨rfl, hb6⟩
      have hb46 := HB5.out.trans (hb6.mono (by omega))
      have hS6 := HS5.out.below' hb6
      have hZ6 := HZ4.out.below hb46 (by omega)
      have hC6 := HC4.out.below hb46 (by omega)
      have hB6 := HB4.out.trans (hb46.mono (by omega))
      have z0 : w6.cell? ⟨w.heap.size + 1 + 1, 0, none⟩ = some (.int .i64 0) := by rw [hZ6.cell]; rfl
      have z1 : w6.cell? ⟨w.heap.size + 1 + 1, 1, none⟩ = some (.int .i64 0) := by rw [hZ6.cell]; rfl
      have z2 : w6.cell? ⟨w.heap.size + 1 + 1, 2, none⟩ = some (.int .i64 0) := by rw [hZ6.cell]; rfl
      have z3 : w6.cell? ⟨w.heap.size + 1 + 1, 3, none⟩ = some (.slice none 0 0) := by rw [hZ6.cell]; rfl
      have z4 : w6.cell? ⟨w.heap.size + 1 + 1, 4, none⟩ = some (.slice none 0 0) := by rw [hZ6.cell]; rfl
      have d0 : w6.cell? ⟨w.heap.size + 1 + 1 + 1, 0, none⟩ = some (.int .i64 0) := by rw [hC6.cell]; rfl
      have d1 : w6.cell? ⟨w.heap.size + 1 + 1 + 1, 1, none⟩ = some (.int .i64 0) := by rw [hC6.cell]; rfl
      have d2 : w6.cell? ⟨w.heap.size + 1 + 1 + 1, 2, none⟩ = some (.int .i64 0) := by rw [hC6.cell]; rfl
      have d3 : w6.cell? ⟨w.heap.size + 1 + 1 + 1, 3, none⟩ = some (.int .i64 0) := by rw [hC6.cell]; rfl
      have fZ := fun o => hZ6.frozen o
      have fC := fun o => hC6.frozen o
      have x0 : w6.cell? ⟨gx, 0, none⟩ = some (.int .i64 (wrap64 (s.qty + o.cst.qty))) := by rw [hS6.x.cell]; rfl
      have x1 : w6.cell? ⟨gx, 1, none⟩ = some (.int .i64 (wrap64 (s.val + o.cst.val))) := by rw [hS6.x.cell]; rfl
      have x2 : w6.cell? ⟨gx, 2, none⟩ = some (.int .i64 s.price) := by rw [hS6.x.cell]; rfl
      have x3 : w6.cell? ⟨gx, 3, none⟩ = some (sl gl4 o.lays.length cl4) := by rw [hS6.x.cell]; rfl
      have x4 : w6.cell? ⟨gx, 4, none⟩ = some (sl gp4 o.psts.length cp4) := by rw [hS6.x.cell]; rfl
      have x13 : w6.cell? ⟨gx, 13, none⟩ = some (.int .i64 o.cst.seq) := by rw [hS6.x.cell]; rfl
      have x14 : w6.cell? ⟨gx, 14, none⟩ = some (.int .i64 o.cst.qty) := by rw [hS6.x.cell]; rfl
      have x15 : w6.cell? ⟨gx, 15, none⟩ = some (.int .i64 o.cst.val) := by rw [hS6.x.cell]; rfl
      have x16 : w6.cell? ⟨gx, 16, none⟩ = some (.int .i64 o.cst.var) := by rw [hS6.x.cell]; rfl
      have ne1 : gx ≠ w.heap.size + 1 + 1 := by omega
      have ne2 : w.heap.size + 1 + 1 ≠ gx := by omega
      have ne3 : gx ≠ w.heap.size + 1 + 1 + 1 := by omega
      have ne4 : w.heap.size + 1 + 1 + 1 ≠ gx := by omega
      have HB6 := Lib.hid hB6; have HS6 := Lib.hid hS6; clear hB6 hb46 hb6 hZ6 hC6 hov hS6
      go_wp2_with fail
      go_region_held3 (fun w' => w'.cell? ⟨gx, 0, none⟩ = some (.int .i64 (wrap64 (s.qty + o.cst.qty))) ∧ w'.cell? ⟨gx, 1, none⟩ = some (.int .i64 (wrap64 (s.val + o.cst.val))) ∧ w'.cell? ⟨gx, 2, none⟩ = some (.int .i64 s.price) ∧ w'.cell? ⟨gx, 3, none⟩ = some (sl gl4 o.lays.length cl4) ∧ w'.cell? ⟨gx, 4, none⟩ = some (sl gp4 o.psts.length cp4) ∧ w'.cell? ⟨gx, 13, none⟩ = some (.int .i64 o.cst.seq) ∧ w'.cell? ⟨gx, 14, none⟩ = some (.int .i64 o.cst.qty) ∧ w'.cell? ⟨gx, 15, none⟩ = some (.int .i64 o.cst.val) ∧ w'.cell? ⟨gx, 16, none⟩ = some (.int .i64 o.cst.var)) (go_keep) (fail)
      all_goals go_wp2_with fail
      all_goals
        refine bodyPost_ret (v := .tuple #[.agg (stkA (wrap64 (s.qty + o.cst.qty)) (wrap64 (s.val + o.cst.val)) s.price (sl gl4 o.lays.length cl4) (sl gp4 o.psts.length cp4)), .agg (cstA o.cst), .int .i64 0]) (by simp [results, Tryd.results14, go_sem, *]) rfl ?_
        rw [HY.out]
        refine ⟨_, _, rfl, ?_, .inr ⟨gl4, cl4, kl4, rfl, by omega, HS6.out.l.of_blk ?_⟩, .inr ⟨gp4, cp4, kp4, rfl, by omega, HS6.out.p.of_blk ?_⟩⟩
        · repeat (first | with_reducible exact HB6.out | with_reducible refine Below.drew ?_ | with_reducible refine Below.setCell ?_ (by simp <;> omega) _)
        · repeat (first | with_reducible exact HS6.out.l.blk | with_reducible refine Blk.drew ?_ | with_reducible refine Blk.set_other ?_ _ (by simp <;> omega))
        · repeat (first | with_reducible exact HS6.out.p.blk | with_reducible refine Blk.drew ?_ | with_reducible refine Blk.set_other ?_ _ (by simp <;> omega))
  · have he' : (o.err == 0) = false := by simpa using he
    have HX := Lib.hid (show stepM s m = ⟨o.err, zStk, zCst⟩ by rw [HEo.out, if_pos he])
    clear he
    have z0 : w4.cell? ⟨w.heap.size + 1 + 1, 0, none⟩ = some (.int .i64 0) := by rw [HZ4.out.cell]; rfl
    have z1 : w4.cell? ⟨w.heap.size + 1 + 1, 1, none⟩ = some (.int .i64 0) := by rw [HZ4.out.cell]; rfl
    have z2 : w4.cell? ⟨w.heap.size + 1 + 1, 2, none⟩ = some (.int .i64 0) := by rw [HZ4.out.cell]; rfl
    have z3 : w4.cell? ⟨w.heap.size + 1 + 1, 3, none⟩ = some (.slice none 0 0) := by rw [HZ4.out.cell]; rfl
    have z4 : w4.cell? ⟨w.heap.size + 1 + 1, 4, none⟩ = some (.slice none 0 0) := by rw [HZ4.out.cell]; rfl
    have d0 : w4.cell? ⟨w.heap.size + 1 + 1 + 1, 0, none⟩ = some (.int .i64 0) := by rw [HC4.out.cell]; rfl
    have d1 : w4.cell? ⟨w.heap.size + 1 + 1 + 1, 1, none⟩ = some (.int .i64 0) := by rw [HC4.out.cell]; rfl
    have d2 : w4.cell? ⟨w.heap.size + 1 + 1 + 1, 2, none⟩ = some (.int .i64 0) := by rw [HC4.out.cell]; rfl
    have d3 : w4.cell? ⟨w.heap.size + 1 + 1 + 1, 3, none⟩ = some (.int .i64 0) := by rw [HC4.out.cell]; rfl
    have fZ := fun o => HZ4.out.frozen o
    have fC := fun o => HC4.out.frozen o
    generalize o.err = er at *
    go_wp2_with fail
    rw [HX.out]
    refine bodyPost_ret (v := .tuple #[.agg stkZ, .agg cstZ, .int .i64 (er)]) (by simp [results, Tryd.results14, go_sem, *]) rfl (errEnd _ ?_)
    exact (((((((((HB4.out.setCell (by simp <;> omega) _).setCell (by simp <;> omega) _).setCell (by simp <;> omega) _).setCell (by simp <;> omega) _).setCell (by simp <;> omega) _).setCell (by simp <;> omega) _).setCell (by simp <;> omega) _).setCell (by simp <;> omega) _).setCell (by simp <;> omega) _)
end Go.Proofs.YtboiipkbhbbgfaaDoor
