/- The reference's landed and move. -/
import Derived.Test.YtboiipkbhbbgfaaDoorWd
import Derived.Test.YtboiipkbhbbgfaaDoorWc
namespace Go.Proofs.YtboiipkbhbbgfaaDoor
open Go.RowKit

set_option maxRecDepth 100000 in
set_option maxHeartbeats 8000000 in
theorem rland_any (s : Stk) (m : Mov) (gl gp cl cp : Nat) (kl kp : Array Value) (w : World) (hl : LRow w gl cl s.lays kl) (hp : PRow w gp cp s.psts kp) (lp : gl ≠ gp) (hn : s.lays.length ≤ 900) (hnp : s.psts.length ≤ 900)
    (hG : Good s) (hq : m.qty = 0) (c0 : 1 ≤ m.cost) (c1 : m.cost ≤ 1000000000000) :
    Calls Tryd.prog 72 #[.agg #[.int .i64 s.qty, .int .i64 s.val, .int .i64 s.price, sl gl s.lays.length cl, sl gp s.psts.length cp], m.v] w (RPost s (landM s m) gl gp w) := by
  have HQ := Lib.hid hq; clear hq
  have hb : Below w.heap.size w ((((w.alloc (.cells #[.int .i64 s.qty, .int .i64 s.val, .int .i64 s.price, sl gl s.lays.length cl, sl gp s.psts.length cp] 32)).alloc (.cells (mCells m) 38)).alloc (.cells stkZ 32)).alloc (.cells cstZ 34)) := ((((Below.refl _ _).alloc (Nat.le_refl _) _).alloc (by simp) _).alloc (by simp; omega) _).alloc (by simp; omega) _
  have hA : Blk ((((w.alloc (.cells #[.int .i64 s.qty, .int .i64 s.val, .int .i64 s.price, sl gl s.lays.length cl, sl gp s.psts.length cp] 32)).alloc (.cells (mCells m) 38)).alloc (.cells stkZ 32)).alloc (.cells cstZ 34)) w.heap.size 32 #[.int .i64 s.qty, .int .i64 s.val, .int .i64 s.price, sl gl s.lays.length cl, sl gp s.psts.length cp] := (((Blk.new _ _ _).alloc _).alloc _).alloc _
  have hM : Blk ((((w.alloc (.cells #[.int .i64 s.qty, .int .i64 s.val, .int .i64 s.price, sl gl s.lays.length cl, sl gp s.psts.length cp] 32)).alloc (.cells (mCells m) 38)).alloc (.cells stkZ 32)).alloc (.cells cstZ 34)) (w.heap.size + 1) 38 (mCells m) := ((Blk.new2 _ _ _ _).alloc _).alloc _
  have hZ : Blk ((((w.alloc (.cells #[.int .i64 s.qty, .int .i64 s.val, .int .i64 s.price, sl gl s.lays.length cl, sl gp s.psts.length cp] 32)).alloc (.cells (mCells m) 38)).alloc (.cells stkZ 32)).alloc (.cells cstZ 34)) (w.heap.size + 2) 32 stkZ := by
    have := (Blk.new ((w.alloc (.cells #[.int .i64 s.qty, .int .i64 s.val, .int .i64 s.price, sl gl s.lays.length cl, sl gp s.psts.length cp] 32)).alloc (.cells (mCells m) 38)) 32 stkZ).alloc (.cells cstZ 34)
    simpa using this
  have hC : Blk ((((w.alloc (.cells #[.int .i64 s.qty, .int .i64 s.val, .int .i64 s.price, sl gl s.lays.length cl, sl gp s.psts.length cp] 32)).alloc (.cells (mCells m) 38)).alloc (.cells stkZ 32)).alloc (.cells cstZ 34)) (w.heap.size + 3) 34 cstZ := by
    have := Blk.new (((w.alloc (.cells #[.int .i64 s.qty, .int .i64 s.val, .int .i64 s.price, sl gl s.lays.length cl, sl gp s.psts.length cp] 32)).alloc (.cells (mCells m) 38)).alloc (.cells stkZ 32)) 34 cstZ
    simpa using this
  have hs : ((((w.alloc (.cells #[.int .i64 s.qty, .int .i64 s.val, .int .i64 s.price, sl gl s.lays.length cl, sl gp s.psts.length cp] 32)).alloc (.cells (mCells m) 38)).alloc (.cells stkZ 32)).alloc (.cells cstZ 34)).heap.size = w.heap.size + 4 := by simp
  have lgl := hl.blk.lt
  have lgp := hp.blk.lt
  have hrow := hl.of_blk (hl.blk.below' hb)
  have hprow := hp.of_blk (hp.blk.below' hb)
  go_enter Tryd.func72, Tryd.ntmps72
  go_upto_region 1 with fail
  generalize ((((w.alloc (.cells #[.int .i64 s.qty, .int .i64 s.val, .int .i64 s.price, sl gl s.lays.length cl, sl gp s.psts.length cp] 32)).alloc (.cells (mCells m) 38)).alloc (.cells stkZ 32)).alloc (.cells cstZ 34)) = W at *
  have a0 : W.cell? ⟨w.heap.size, 0, none⟩ = some (.int .i64 s.qty) := by rw [hA.cell]; rfl
  have a1 : W.cell? ⟨w.heap.size, 1, none⟩ = some (.int .i64 s.val) := by rw [hA.cell]; rfl
  have a2 : W.cell? ⟨w.heap.size, 2, none⟩ = some (.int .i64 s.price) := by rw [hA.cell]; rfl
  have a3 : W.cell? ⟨w.heap.size, 3, none⟩ = some (sl gl s.lays.length cl) := by rw [hA.cell]; rfl
  have a4 : W.cell? ⟨w.heap.size, 4, none⟩ = some (sl gp s.psts.length cp) := by rw [hA.cell]; rfl
  have m0 : W.cell? ⟨w.heap.size + 1, 0, none⟩ = some (.int .i64 m.seq) := by rw [hM.cell]; rfl
  have m1 : W.cell? ⟨w.heap.size + 1, 1, none⟩ = some (.int .i64 m.value) := by rw [hM.cell]; rfl
  have m2 : W.cell? ⟨w.heap.size + 1, 2, none⟩ = some (.string m.item) := by rw [hM.cell]; rfl
  have m3 : W.cell? ⟨w.heap.size + 1, 3, none⟩ = some (.int .i64 m.kind) := by rw [hM.cell]; rfl
  have m4 : W.cell? ⟨w.heap.size + 1, 4, none⟩ = some (.int .i64 m.qty) := by rw [hM.cell]; rfl
  have m5 : W.cell? ⟨w.heap.size + 1, 5, none⟩ = some (.int .i64 m.cost) := by rw [hM.cell]; rfl
  have m6 : W.cell? ⟨w.heap.size + 1, 6, none⟩ = some (.string m.lot) := by rw [hM.cell]; rfl
  have m7 : W.cell? ⟨w.heap.size + 1, 7, none⟩ = some (.int .i64 m.ref) := by rw [hM.cell]; rfl
  have hF : RF W w.heap.size gl gp cl cp s m kl kp := ⟨hA, hM, hZ, hC, hrow, hprow, .inl (by omega), .inl (by omega)⟩
  have HF := Lib.hid hF; have HB := Lib.hid hb; have HS := Lib.hid hs; clear hA hM hZ hC hs hrow hprow hF hb
  generalize hb0 : w.heap.size = b0 at *
  have HB0 := Lib.hid hb0; clear hb0
  have HG := Lib.hid hG; clear hG
  have hfind := find_any s.qty s.val s.price (some ⟨gl, 0, none⟩) s.lays.length cl (some ⟨gp, 0, none⟩) cp s.psts 1 m.ref W (by decide) (.inr ⟨gp, cp, kp, rfl, Nat.zero_le _, HF.out.p⟩) (by omega)
  by_cases h1 : s.psts.length ≤ findM 1 m.ref s.psts
  · have HE := Lib.hid (show (landM s m).err = 28 by unfold landM; rw [if_pos h1]; rfl)
    rw [show findI 1 m.ref s.psts = -1 by unfold findI; rw [if_neg (by omega)]] at hfind
    clear h1
    go_wp2_with fail
    refine hfind.mono ?_; rintro e w1 ⟨rfl, hb1⟩
    have hF1 := HF.out.below hb1
    have hbw := HB.out.trans (hb1.mono (by have := HS.out; omega))
    have a0 : w1.cell? ⟨b0, 0, none⟩ = some (.int .i64 s.qty) := by rw [hF1.x.cell]; rfl
    have a1 : w1.cell? ⟨b0, 1, none⟩ = some (.int .i64 s.val) := by rw [hF1.x.cell]; rfl
    have a2 : w1.cell? ⟨b0, 2, none⟩ = some (.int .i64 s.price) := by rw [hF1.x.cell]; rfl
    have a3 : w1.cell? ⟨b0, 3, none⟩ = some (sl gl s.lays.length cl) := by rw [hF1.x.cell]; rfl
    have a4 : w1.cell? ⟨b0, 4, none⟩ = some (sl gp s.psts.length cp) := by rw [hF1.x.cell]; rfl
    have z0 : w1.cell? ⟨b0 + 2, 0, none⟩ = some (.int .i64 0) := by rw [hF1.z.cell]; rfl
    have z1 : w1.cell? ⟨b0 + 2, 1, none⟩ = some (.int .i64 0) := by rw [hF1.z.cell]; rfl
    have z2 : w1.cell? ⟨b0 + 2, 2, none⟩ = some (.int .i64 0) := by rw [hF1.z.cell]; rfl
    have z3 : w1.cell? ⟨b0 + 2, 3, none⟩ = some (.slice none 0 0) := by rw [hF1.z.cell]; rfl
    have z4 : w1.cell? ⟨b0 + 2, 4, none⟩ = some (.slice none 0 0) := by rw [hF1.z.cell]; rfl
    have y0 : w1.cell? ⟨b0 + 3, 0, none⟩ = some (.int .i64 0) := by rw [hF1.c.cell]; rfl
    have y1 : w1.cell? ⟨b0 + 3, 1, none⟩ = some (.int .i64 0) := by rw [hF1.c.cell]; rfl
    have y2 : w1.cell? ⟨b0 + 3, 2, none⟩ = some (.int .i64 0) := by rw [hF1.c.cell]; rfl
    have y3 : w1.cell? ⟨b0 + 3, 3, none⟩ = some (.int .i64 0) := by rw [hF1.c.cell]; rfl
    have fz := fun o => hF1.z.frozen o
    have fy := fun o => hF1.c.frozen o
    have HBW := Lib.hid hbw; clear hb1 hF1 hbw
    go_wp2_with fail
    refine bodyPost_ret (v := .tuple #[.agg #[.int .i64 s.qty, .int .i64 s.val, .int .i64 s.price, sl gl s.lays.length cl, sl gp s.psts.length cp], .agg #[.int .i64 0, .int .i64 0, .int .i64 0, .int .i64 0], .int .i64 28]) (by simp [results, Tryd.results72, go_sem, *]) rfl ?_
    exact rpost_err HE.out (by decide) HBW.out HB0.out _ _ _ _ _ _ _ _ _
  · have hlt : findM 1 m.ref s.psts < s.psts.length := by omega
    have hgp := HG.out.p _ (getD_mem zPst s.psts (findM 1 m.ref s.psts) hlt)
    have h2 : ¬ wrap64 ((s.psts.getD (findM 1 m.ref s.psts) zPst).qty - (s.psts.getD (findM 1 m.ref s.psts) zPst).used) < m.qty := by
      obtain ⟨_, b1, b2, b3, b4, _⟩ := hgp
      rw [w_id _ (by omega) (by omega), HQ.out]; omega
    have hE3 := fun h3 => (show landM s m = ⟨0, s.lays, s.psts, ⟨m.seq, 0, 0, wrap64 (m.cost - 0)⟩⟩ by unfold landM; rw [if_neg h1, if_neg h2, if_pos h3])
    have hE4 := fun h3 => (show landM s m = if (if (s.lays.getD (layerM m.ref s.lays) zLay).qty = (s.psts.getD (findM 1 m.ref s.psts) zPst).qty then (m.cost, 0) else mulDivM m.cost (s.lays.getD (layerM m.ref s.lays) zLay).qty (s.psts.getD (findM 1 m.ref s.psts) zPst).qty 4).2 ≠ 0 then bad 4 s m else ⟨0, s.lays.set (layerM m.ref s.lays) { (s.lays.getD (layerM m.ref s.lays) zLay) with val := wrap64 ((s.lays.getD (layerM m.ref s.lays) zLay).val + (if (s.lays.getD (layerM m.ref s.lays) zLay).qty = (s.psts.getD (findM 1 m.ref s.psts) zPst).qty then (m.cost, 0) else mulDivM m.cost (s.lays.getD (layerM m.ref s.lays) zLay).qty (s.psts.getD (findM 1 m.ref s.psts) zPst).qty 4).1) }, s.psts, ⟨m.seq, 0, (if (s.lays.getD (layerM m.ref s.lays) zLay).qty = (s.psts.getD (findM 1 m.ref s.psts) zPst).qty then (m.cost, 0) else mulDivM m.cost (s.lays.getD (layerM m.ref s.lays) zLay).qty (s.psts.getD (findM 1 m.ref s.psts) zPst).qty 4).1, wrap64 (m.cost - (if (s.lays.getD (layerM m.ref s.lays) zLay).qty = (s.psts.getD (findM 1 m.ref s.psts) zPst).qty then (m.cost, 0) else mulDivM m.cost (s.lays.getD (layerM m.ref s.lays) zLay).qty (s.psts.getD (findM 1 m.ref s.psts) zPst).qty 4).1)⟩⟩ by
      unfold landM; rw [if_neg h1, if_neg h2, if_neg h3])
    have HE3 := Lib.hid hE3; have HE4 := Lib.hid hE4; clear hE3 hE4 h2 h1
    rw [show findI 1 m.ref s.psts = ((findM 1 m.ref s.psts : Nat) : Int) by unfold findI; rw [if_pos hlt]] at hfind
    have hlay := fun W' h => rlayer_any s.qty s.val s.price (some ⟨gl, 0, none⟩) cl (some ⟨gp, 0, none⟩) s.psts.length cp s.lays m.ref W' h (by omega)
    have in0 : decide (((findM 1 m.ref s.psts : Nat) : Int) < 0) = false := by simp
    go_wp2_with fail
    refine hfind.mono ?_; rintro e w1 ⟨rfl, hb1⟩
    have hF1 := HF.out.below hb1
    have hbw := HB.out.trans (hb1.mono (by have := HS.out; omega))
    have hsz := hb1.size
    rw [HS.out] at hsz
    have a0 : w1.cell? ⟨b0, 0, none⟩ = some (.int .i64 s.qty) := by rw [hF1.x.cell]; rfl
    have a1 : w1.cell? ⟨b0, 1, none⟩ = some (.int .i64 s.val) := by rw [hF1.x.cell]; rfl
    have a2 : w1.cell? ⟨b0, 2, none⟩ = some (.int .i64 s.price) := by rw [hF1.x.cell]; rfl
    have a3 : w1.cell? ⟨b0, 3, none⟩ = some (sl gl s.lays.length cl) := by rw [hF1.x.cell]; rfl
    have a4 : w1.cell? ⟨b0, 4, none⟩ = some (sl gp s.psts.length cp) := by rw [hF1.x.cell]; rfl
    have m0 : w1.cell? ⟨b0 + 1, 0, none⟩ = some (.int .i64 m.seq) := by rw [hF1.m.cell]; rfl
    have m1 : w1.cell? ⟨b0 + 1, 1, none⟩ = some (.int .i64 m.value) := by rw [hF1.m.cell]; rfl
    have m2 : w1.cell? ⟨b0 + 1, 2, none⟩ = some (.string m.item) := by rw [hF1.m.cell]; rfl
    have m3 : w1.cell? ⟨b0 + 1, 3, none⟩ = some (.int .i64 m.kind) := by rw [hF1.m.cell]; rfl
    have m4 : w1.cell? ⟨b0 + 1, 4, none⟩ = some (.int .i64 m.qty) := by rw [hF1.m.cell]; rfl
    have m5 : w1.cell? ⟨b0 + 1, 5, none⟩ = some (.int .i64 m.cost) := by rw [hF1.m.cell]; rfl
    have m6 : w1.cell? ⟨b0 + 1, 6, none⟩ = some (.string m.lot) := by rw [hF1.m.cell]; rfl
    have m7 : w1.cell? ⟨b0 + 1, 7, none⟩ = some (.int .i64 m.ref) := by rw [hF1.m.cell]; rfl
    have HBW := Lib.hid hbw; have HF1 := Lib.hid hF1; clear hb1 hF1 hbw hfind
    go_wp2_with fail
    refine (hlay _ (.inr ⟨gl, cl, kl, rfl, Nat.zero_le _, HF1.out.l⟩)).mono ?_; rintro e w2 ⟨rfl, hb2⟩
    have hF2 := HF1.out.below hb2
    have hbw2 := HBW.out.trans (hb2.mono (by omega))
    have hsz2 := hb2.size
    have a0 : w2.cell? ⟨b0, 0, none⟩ = some (.int .i64 s.qty) := by rw [hF2.x.cell]; rfl
    have a1 : w2.cell? ⟨b0, 1, none⟩ = some (.int .i64 s.val) := by rw [hF2.x.cell]; rfl
    have a2 : w2.cell? ⟨b0, 2, none⟩ = some (.int .i64 s.price) := by rw [hF2.x.cell]; rfl
    have a3 : w2.cell? ⟨b0, 3, none⟩ = some (sl gl s.lays.length cl) := by rw [hF2.x.cell]; rfl
    have a4 : w2.cell? ⟨b0, 4, none⟩ = some (sl gp s.psts.length cp) := by rw [hF2.x.cell]; rfl
    have m0 : w2.cell? ⟨b0 + 1, 0, none⟩ = some (.int .i64 m.seq) := by rw [hF2.m.cell]; rfl
    have m1 : w2.cell? ⟨b0 + 1, 1, none⟩ = some (.int .i64 m.value) := by rw [hF2.m.cell]; rfl
    have m2 : w2.cell? ⟨b0 + 1, 2, none⟩ = some (.string m.item) := by rw [hF2.m.cell]; rfl
    have m3 : w2.cell? ⟨b0 + 1, 3, none⟩ = some (.int .i64 m.kind) := by rw [hF2.m.cell]; rfl
    have m4 : w2.cell? ⟨b0 + 1, 4, none⟩ = some (.int .i64 m.qty) := by rw [hF2.m.cell]; rfl
    have m5 : w2.cell? ⟨b0 + 1, 5, none⟩ = some (.int .i64 m.cost) := by rw [hF2.m.cell]; rfl
    have m6 : w2.cell? ⟨b0 + 1, 6, none⟩ = some (.string m.lot) := by rw [hF2.m.cell]; rfl
    have m7 : w2.cell? ⟨b0 + 1, 7, none⟩ = some (.int .i64 m.ref) := by rw [hF2.m.cell]; rfl
    have HBW2 := Lib.hid hbw2; have HF2 := Lib.hid hF2; clear hb2 hF2 hbw2 HBW HF1 hlay
    by_cases h3 : s.lays.length ≤ layerM m.ref s.lays
    · have HE := Lib.hid (HE3.out h3)
      rw [show layerI m.ref s.lays = -1 by unfold layerI; rw [if_neg (by omega)]]
      clear h3 hlt HE3 HE4 hgp
      have z0 : w2.cell? ⟨b0 + 2, 0, none⟩ = some (.int .i64 0) := by rw [HF2.out.z.cell]; rfl
      have z1 : w2.cell? ⟨b0 + 2, 1, none⟩ = some (.int .i64 0) := by rw [HF2.out.z.cell]; rfl
      have z2 : w2.cell? ⟨b0 + 2, 2, none⟩ = some (.int .i64 0) := by rw [HF2.out.z.cell]; rfl
      have z3 : w2.cell? ⟨b0 + 2, 3, none⟩ = some (.slice none 0 0) := by rw [HF2.out.z.cell]; rfl
      have z4 : w2.cell? ⟨b0 + 2, 4, none⟩ = some (.slice none 0 0) := by rw [HF2.out.z.cell]; rfl
      have y0 : w2.cell? ⟨b0 + 3, 0, none⟩ = some (.int .i64 0) := by rw [HF2.out.c.cell]; rfl
      have y1 : w2.cell? ⟨b0 + 3, 1, none⟩ = some (.int .i64 0) := by rw [HF2.out.c.cell]; rfl
      have y2 : w2.cell? ⟨b0 + 3, 2, none⟩ = some (.int .i64 0) := by rw [HF2.out.c.cell]; rfl
      have y3 : w2.cell? ⟨b0 + 3, 3, none⟩ = some (.int .i64 0) := by rw [HF2.out.c.cell]; rfl
      have fz := fun o => HF2.out.z.frozen o
      have fy := fun o => HF2.out.c.frozen o
      have e1 : b0 + 1 + 1 ≠ b0 := by omega
      have e2 : b0 + 1 + 1 + 1 ≠ b0 := by omega
      have e3 : b0 ≠ b0 + 1 + 1 := by omega
      have e4 : b0 ≠ b0 + 1 + 1 + 1 := by omega
      go_wp2_with fail
      go_region_held3 (fun w' => w'.cell? ⟨b0, 0, none⟩ = some (.int .i64 s.qty) ∧ w'.cell? ⟨b0, 1, none⟩ = some (.int .i64 s.val) ∧ w'.cell? ⟨b0, 2, none⟩ = some (.int .i64 s.price) ∧ w'.cell? ⟨b0, 3, none⟩ = some (sl gl s.lays.length cl) ∧ w'.cell? ⟨b0, 4, none⟩ = some (sl gp s.psts.length cp) ∧ w'.cell? ⟨b0 + 1, 5, none⟩ = some (.int .i64 m.cost)) (go_keep) (fail)
      all_goals go_wp2_with fail
      all_goals
        have hc2 := Chg.of_below [gl, gp] (show Below w.heap.size w w2 by rw [HB0.out]; exact HBW2.out)
        refine bodyPost_ret (v := .tuple #[.agg #[.int .i64 s.qty, .int .i64 s.val, .int .i64 s.price, sl gl s.lays.length cl, sl gp s.psts.length cp], .agg #[.int .i64 0, .int .i64 (0), .int .i64 (0), .int .i64 (m.cost)], .int .i64 0]) (by simp [results, Tryd.results72, go_sem, *]) rfl ?_
        rw [HE.out]
        have hb0 := HB0.out
        have hx := HF2.out.lg
        have hy := HF2.out.pg
        refine rpost_ok HF2.out ?_ rfl rfl rfl lp (.inl rfl) (.inl rfl) (fun g e cur n1 n2 hb => ?_) rfl rfl (by show m.cost = wrap64 (m.cost - 0); rw [w_id _ (by omega) (by omega)]; omega) rfl rfl
        · repeat (first | with_reducible exact hc2 | with_reducible refine Chg.drew ?_ | with_reducible refine Chg.set ?_ (.inr (by simp <;> omega)) _)
        · repeat (first | with_reducible exact hb | with_reducible refine Blk.drew ?_ | with_reducible refine Blk.set_other ?_ _ (by simp <;> omega))
    · have hll : layerM m.ref s.lays < s.lays.length := by omega
      have hE := HE4.out h3
      rw [show layerI m.ref s.lays = ((layerM m.ref s.lays : Nat) : Int) by unfold layerI; rw [if_pos hll]]
      clear HE3 HE4 h3
      generalize layerM m.ref s.lays = j at *
      generalize findM 1 m.ref s.psts = k at *
      have hL := HG.out.lay (getD_mem zLay s.lays j hll)
      obtain ⟨x0, x1, x2, x3⟩ := HF2.out.l.lay j hll
      generalize hLe : s.lays.getD j zLay = L at *
      have HLe := Lib.hid hLe; clear hLe
      obtain ⟨p0, p1, p2, p3, p4, p5, p6⟩ := HF2.out.p.pst k hlt
      generalize hPe : s.psts.getD k zPst = P at *
      have HPe := Lib.hid hPe; clear hPe
      have j0 : (0 : Int) ≤ (j : Int) := by omega
      have j1 : (j : Int) < (s.lays.length : Int) := by omega
      have jn : decide ((j : Int) < 0) = false := by simp
      have i0 : (0 : Int) ≤ (k : Int) := by omega
      have i1 : (k : Int) < (s.psts.length : Int) := by omega
      obtain ⟨b1, b2, b3, b4⟩ := hL
      obtain ⟨-, g1, g2, -⟩ := hgp
      by_cases h4 : L.qty = P.qty
      · have h4' : (L.qty == P.qty) = true := by simpa using h4
        simp only [if_pos h4, ne_eq, not_true_eq_false, if_false] at hE
        rw [show wrap64 (L.val + m.cost) = L.val + m.cost from w_id _ (by omega) (by omega)] at hE
        have HE := Lib.hid hE; clear h4 hE
        go_wp2_with fail
        go_quiet (fail)
        have hb3 : Below w2.heap.size w2 (w2.drewN nq) := ⟨rfl, rfl, rfl, Nat.le_refl _, fun _ _ => rfl⟩
        generalize w2.drewN nq = w3 at *
        have hF3 := HF2.out.below hb3
        have hbw := HBW2.out.trans (hb3.mono (by omega))
        have a0 : w3.cell? ⟨b0, 0, none⟩ = some (.int .i64 s.qty) := by rw [hF3.x.cell]; rfl
        have a1 : w3.cell? ⟨b0, 1, none⟩ = some (.int .i64 s.val) := by rw [hF3.x.cell]; rfl
        have a2 : w3.cell? ⟨b0, 2, none⟩ = some (.int .i64 s.price) := by rw [hF3.x.cell]; rfl
        have a3 : w3.cell? ⟨b0, 3, none⟩ = some (sl gl s.lays.length cl) := by rw [hF3.x.cell]; rfl
        have a4 : w3.cell? ⟨b0, 4, none⟩ = some (sl gp s.psts.length cp) := by rw [hF3.x.cell]; rfl
        have m0 : w3.cell? ⟨b0 + 1, 0, none⟩ = some (.int .i64 m.seq) := by rw [hF3.m.cell]; rfl
        have m1 : w3.cell? ⟨b0 + 1, 1, none⟩ = some (.int .i64 m.value) := by rw [hF3.m.cell]; rfl
        have m2 : w3.cell? ⟨b0 + 1, 2, none⟩ = some (.string m.item) := by rw [hF3.m.cell]; rfl
        have m3 : w3.cell? ⟨b0 + 1, 3, none⟩ = some (.int .i64 m.kind) := by rw [hF3.m.cell]; rfl
        have m4 : w3.cell? ⟨b0 + 1, 4, none⟩ = some (.int .i64 m.qty) := by rw [hF3.m.cell]; rfl
        have m5 : w3.cell? ⟨b0 + 1, 5, none⟩ = some (.int .i64 m.cost) := by rw [hF3.m.cell]; rfl
        have m6 : w3.cell? ⟨b0 + 1, 6, none⟩ = some (.string m.lot) := by rw [hF3.m.cell]; rfl
        have m7 : w3.cell? ⟨b0 + 1, 7, none⟩ = some (.int .i64 m.ref) := by rw [hF3.m.cell]; rfl
        obtain ⟨x0, x1, x2, x3⟩ := hF3.l.lay j hll
        rw [HLe.out] at x0 x1 x2 x3
        have fl := fun o => hF3.l.blk.frozen o
        have HF3 := Lib.hid hF3; have HBW := Lib.hid hbw; clear hb3 hF3 hbw HF2 HBW2
        go_wp2_with fail
        refine still_tail2 13 (by kernel_rfl) (by kernel_rfl) ?_
        simp only [List.take_succ_cons, List.take_zero, List.drop_succ_cons, List.drop_zero]
        repeat still_step
        refine wpStill_nil ?_
        go_upto_region 14 with fail
        have h4 := (HF3.out.setl lp j 3 (.int .i64 (L.val + m.cost)) { L with val := L.val + m.cost } hll (by decide) (by rw [HLe.out]; rfl)).drew
        have hc4 : Chg [gl, gp] w ((w3.setCell ⟨gl, j * 4 + 3, none⟩ (.int .i64 (L.val + m.cost))).drew) := ((Chg.of_below _ (by rw [HB0.out]; exact HBW.out)).set (.inl (by simp)) _).drew
        generalize (w3.setCell ⟨gl, j * 4 + 3, none⟩ (.int .i64 (L.val + m.cost))).drew = w4 at *
        generalize (kl.setIfInBounds (j * 4 + 3) (.int .i64 (L.val + m.cost))) = kl4 at *
        have a0 : w4.cell? ⟨b0, 0, none⟩ = some (.int .i64 s.qty) := by rw [h4.x.cell]; simp
        have a1 : w4.cell? ⟨b0, 1, none⟩ = some (.int .i64 s.val) := by rw [h4.x.cell]; simp
        have a2 : w4.cell? ⟨b0, 2, none⟩ = some (.int .i64 s.price) := by rw [h4.x.cell]; simp
        have a3 : w4.cell? ⟨b0, 3, none⟩ = some (sl gl s.lays.length cl) := by rw [h4.x.cell]; simp
        have a4 : w4.cell? ⟨b0, 4, none⟩ = some (sl gp s.psts.length cp) := by rw [h4.x.cell]; simp
        have m0 : w4.cell? ⟨b0 + 1, 0, none⟩ = some (.int .i64 m.seq) := by rw [h4.m.cell]; rfl
        have m1 : w4.cell? ⟨b0 + 1, 1, none⟩ = some (.int .i64 m.value) := by rw [h4.m.cell]; rfl
        have m2 : w4.cell? ⟨b0 + 1, 2, none⟩ = some (.string m.item) := by rw [h4.m.cell]; rfl
        have m3 : w4.cell? ⟨b0 + 1, 3, none⟩ = some (.int .i64 m.kind) := by rw [h4.m.cell]; rfl
        have m4 : w4.cell? ⟨b0 + 1, 4, none⟩ = some (.int .i64 m.qty) := by rw [h4.m.cell]; rfl
        have m5 : w4.cell? ⟨b0 + 1, 5, none⟩ = some (.int .i64 m.cost) := by rw [h4.m.cell]; rfl
        have m6 : w4.cell? ⟨b0 + 1, 6, none⟩ = some (.string m.lot) := by rw [h4.m.cell]; rfl
        have m7 : w4.cell? ⟨b0 + 1, 7, none⟩ = some (.int .i64 m.ref) := by rw [h4.m.cell]; rfl
        have z0 : w4.cell? ⟨b0 + 2, 0, none⟩ = some (.int .i64 0) := by rw [h4.z.cell]; rfl
        have z1 : w4.cell? ⟨b0 + 2, 1, none⟩ = some (.int .i64 0) := by rw [h4.z.cell]; rfl
        have z2 : w4.cell? ⟨b0 + 2, 2, none⟩ = some (.int .i64 0) := by rw [h4.z.cell]; rfl
        have z3 : w4.cell? ⟨b0 + 2, 3, none⟩ = some (.slice none 0 0) := by rw [h4.z.cell]; rfl
        have z4 : w4.cell? ⟨b0 + 2, 4, none⟩ = some (.slice none 0 0) := by rw [h4.z.cell]; rfl
        have y0 : w4.cell? ⟨b0 + 3, 0, none⟩ = some (.int .i64 0) := by rw [h4.c.cell]; rfl
        have y1 : w4.cell? ⟨b0 + 3, 1, none⟩ = some (.int .i64 0) := by rw [h4.c.cell]; rfl
        have y2 : w4.cell? ⟨b0 + 3, 2, none⟩ = some (.int .i64 0) := by rw [h4.c.cell]; rfl
        have y3 : w4.cell? ⟨b0 + 3, 3, none⟩ = some (.int .i64 0) := by rw [h4.c.cell]; rfl
        have fz := fun o => h4.z.frozen o
        have fy := fun o => h4.c.frozen o
        have HF4 := Lib.hid h4; have HC4 := Lib.hid hc4; clear h4 hc4 p0 p1 p2 p3 p4 p5 p6 x0 x1 x2 x3 fl
        have e1 : b0 + 1 + 1 ≠ b0 := by omega
        have e2 : b0 + 1 + 1 + 1 ≠ b0 := by omega
        have e3 : b0 ≠ b0 + 1 + 1 := by omega
        have e4 : b0 ≠ b0 + 1 + 1 + 1 := by omega
        go_region_held3 (fun w' => w'.cell? ⟨b0, 0, none⟩ = some (.int .i64 s.qty) ∧ w'.cell? ⟨b0, 1, none⟩ = some (.int .i64 s.val) ∧ w'.cell? ⟨b0, 2, none⟩ = some (.int .i64 s.price) ∧ w'.cell? ⟨b0, 3, none⟩ = some (sl gl s.lays.length cl) ∧ w'.cell? ⟨b0, 4, none⟩ = some (sl gp s.psts.length cp) ∧ w'.cell? ⟨b0 + 1, 5, none⟩ = some (.int .i64 m.cost)) (go_keep) (fail)
        all_goals go_wp2_with fail
        all_goals
          refine bodyPost_ret (v := .tuple #[.agg #[.int .i64 s.qty, .int .i64 s.val, .int .i64 s.price, sl gl s.lays.length cl, sl gp s.psts.length cp], .agg #[.int .i64 0, .int .i64 (0), .int .i64 (m.cost), .int .i64 (IntKind.i64.wrap 0)], .int .i64 0]) (by simp [results, Tryd.results72, go_sem, *]) rfl ?_
          rw [HE.out]
          have hb0 := HB0.out
          have hx := HF4.out.lg
          have hy := HF4.out.pg
          refine rpost_ok HF4.out ?_ rfl rfl rfl lp (.inl rfl) (.inl rfl) (fun g e cur n1 n2 hb => ?_) rfl rfl (by show _ = wrap64 (m.cost - m.cost); rw [Int.sub_self]; exact w64 0) (by simp) rfl
          · repeat (first | with_reducible exact HC4.out | with_reducible refine Chg.drew ?_ | with_reducible refine Chg.set ?_ (.inr (by simp <;> omega)) _)
          · repeat (first | with_reducible exact hb | with_reducible refine Blk.drew ?_ | with_reducible refine Blk.set_other ?_ _ (by simp <;> omega))
      · have h4' : (L.qty == P.qty) = false := by simpa using h4
        simp only [if_neg h4] at hE
        have hmd := fun W' => (rmuldiv_any m.cost L.qty P.qty W' (by omega) (by omega) (by omega) (by omega) (by omega) (by omega)).mono fun e w' h => (show _ ∧ Below W'.heap.size W' w' from ⟨h.1, h.2 ▸ Below.refl _ _⟩)
        generalize mulDivM m.cost L.qty P.qty 4 = R at *
        have HE0 := Lib.hid hE; clear h4 hE
        go_wp2_with fail
        go_quiet (fail)
        have hb3 : Below w2.heap.size w2 (w2.drewN nq) := ⟨rfl, rfl, rfl, Nat.le_refl _, fun _ _ => rfl⟩
        have hz3 : (w2.drewN nq).heap.size = w2.heap.size := rfl
        generalize w2.drewN nq = w3 at *
        have hF3 := HF2.out.below hb3
        have hbw := HBW2.out.trans (hb3.mono (by omega))
        have a0 : w3.cell? ⟨b0, 0, none⟩ = some (.int .i64 s.qty) := by rw [hF3.x.cell]; rfl
        have a1 : w3.cell? ⟨b0, 1, none⟩ = some (.int .i64 s.val) := by rw [hF3.x.cell]; rfl
        have a2 : w3.cell? ⟨b0, 2, none⟩ = some (.int .i64 s.price) := by rw [hF3.x.cell]; rfl
        have a3 : w3.cell? ⟨b0, 3, none⟩ = some (sl gl s.lays.length cl) := by rw [hF3.x.cell]; rfl
        have a4 : w3.cell? ⟨b0, 4, none⟩ = some (sl gp s.psts.length cp) := by rw [hF3.x.cell]; rfl
        have m0 : w3.cell? ⟨b0 + 1, 0, none⟩ = some (.int .i64 m.seq) := by rw [hF3.m.cell]; rfl
        have m1 : w3.cell? ⟨b0 + 1, 1, none⟩ = some (.int .i64 m.value) := by rw [hF3.m.cell]; rfl
        have m2 : w3.cell? ⟨b0 + 1, 2, none⟩ = some (.string m.item) := by rw [hF3.m.cell]; rfl
        have m3 : w3.cell? ⟨b0 + 1, 3, none⟩ = some (.int .i64 m.kind) := by rw [hF3.m.cell]; rfl
        have m4 : w3.cell? ⟨b0 + 1, 4, none⟩ = some (.int .i64 m.qty) := by rw [hF3.m.cell]; rfl
        have m5 : w3.cell? ⟨b0 + 1, 5, none⟩ = some (.int .i64 m.cost) := by rw [hF3.m.cell]; rfl
        have m6 : w3.cell? ⟨b0 + 1, 6, none⟩ = some (.string m.lot) := by rw [hF3.m.cell]; rfl
        have m7 : w3.cell? ⟨b0 + 1, 7, none⟩ = some (.int .i64 m.ref) := by rw [hF3.m.cell]; rfl
        obtain ⟨x0, x1, x2, x3⟩ := hF3.l.lay j hll
        rw [HLe.out] at x0 x1 x2 x3
        obtain ⟨p0, p1, p2, p3, p4, p5, p6⟩ := hF3.p.pst k hlt
        rw [HPe.out] at p0 p1 p2 p3 p4 p5 p6
        have HF3 := Lib.hid hF3; have HBW := Lib.hid hbw; have HZ3 := Lib.hid hz3; clear hb3 hF3 hbw hz3 HF2 HBW2
        go_wp2_with fail
        have r3 := cell_regrown a3
        have r4 := cell_regrown a4
        have r5 := cell_regrown m5
        have t2 := cell_regrown x2
        have t3 := cell_regrown p3
        refine wp_region_quiet_below (by kernel_rfl) (by kernel_rfl) ?_
        repeat (quiet_step (exact Calls.regrown_of (hmd _)))
        refine wpQuiet_nil ?_
        intro w4 hw'
        have hb4 : Below w3.heap.size w3 w4 := by obtain ⟨⟨dq, osq⟩, rfl⟩ := hw'; exact below_regrown w3 dq osq
        clear hw' r3 r4 r5 t2 t3
        have hF4 := HF3.out.below hb4
        have hbw := HBW.out.trans (hb4.mono (by have := HZ3.out; omega))
        by_cases h5 : R.2 = 0
        · have h5' : (R.2 == 0) = true := by simpa using h5
          have HE := Lib.hid (HE0.out.trans (if_neg (by simpa using h5)))
          clear h5 HE0
          have a0 : w4.cell? ⟨b0, 0, none⟩ = some (.int .i64 s.qty) := by rw [hF4.x.cell]; rfl
          have a1 : w4.cell? ⟨b0, 1, none⟩ = some (.int .i64 s.val) := by rw [hF4.x.cell]; rfl
          have a2 : w4.cell? ⟨b0, 2, none⟩ = some (.int .i64 s.price) := by rw [hF4.x.cell]; rfl
          have a3 : w4.cell? ⟨b0, 3, none⟩ = some (sl gl s.lays.length cl) := by rw [hF4.x.cell]; rfl
          have a4 : w4.cell? ⟨b0, 4, none⟩ = some (sl gp s.psts.length cp) := by rw [hF4.x.cell]; rfl
          have m0 : w4.cell? ⟨b0 + 1, 0, none⟩ = some (.int .i64 m.seq) := by rw [hF4.m.cell]; rfl
          have m1 : w4.cell? ⟨b0 + 1, 1, none⟩ = some (.int .i64 m.value) := by rw [hF4.m.cell]; rfl
          have m2 : w4.cell? ⟨b0 + 1, 2, none⟩ = some (.string m.item) := by rw [hF4.m.cell]; rfl
          have m3 : w4.cell? ⟨b0 + 1, 3, none⟩ = some (.int .i64 m.kind) := by rw [hF4.m.cell]; rfl
          have m4 : w4.cell? ⟨b0 + 1, 4, none⟩ = some (.int .i64 m.qty) := by rw [hF4.m.cell]; rfl
          have m5 : w4.cell? ⟨b0 + 1, 5, none⟩ = some (.int .i64 m.cost) := by rw [hF4.m.cell]; rfl
          have m6 : w4.cell? ⟨b0 + 1, 6, none⟩ = some (.string m.lot) := by rw [hF4.m.cell]; rfl
          have m7 : w4.cell? ⟨b0 + 1, 7, none⟩ = some (.int .i64 m.ref) := by rw [hF4.m.cell]; rfl
          obtain ⟨x0, x1, x2, x3⟩ := hF4.l.lay j hll
          rw [HLe.out] at x0 x1 x2 x3
          have fl := fun o => hF4.l.blk.frozen o
          have HF5 := Lib.hid hF4; have HBW5 := Lib.hid hbw; clear hb4 hF4 hbw HF3 HBW
          generalize w4 = w5 at *
          go_wp2_with fail
          refine still_tail2 13 (by kernel_rfl) (by kernel_rfl) ?_
          simp only [List.take_succ_cons, List.take_zero, List.drop_succ_cons, List.drop_zero]
          repeat still_step
          refine wpStill_nil ?_
          go_upto_region 14 with fail
          have h4 := (HF5.out.setl lp j 3 (.int .i64 (wrap64 (L.val + R.1))) { L with val := wrap64 (L.val + R.1) } hll (by decide) (by rw [HLe.out]; rfl)).drew
          have hc4 : Chg [gl, gp] w ((w5.setCell ⟨gl, j * 4 + 3, none⟩ (.int .i64 (wrap64 (L.val + R.1)))).drew) := ((Chg.of_below _ (by rw [HB0.out]; exact HBW5.out)).set (.inl (by simp)) _).drew
          generalize (w5.setCell ⟨gl, j * 4 + 3, none⟩ (.int .i64 (wrap64 (L.val + R.1)))).drew = w4 at *
          generalize (kl.setIfInBounds (j * 4 + 3) (.int .i64 (wrap64 (L.val + R.1)))) = kl4 at *
          have a0 : w4.cell? ⟨b0, 0, none⟩ = some (.int .i64 s.qty) := by rw [h4.x.cell]; simp
          have a1 : w4.cell? ⟨b0, 1, none⟩ = some (.int .i64 s.val) := by rw [h4.x.cell]; simp
          have a2 : w4.cell? ⟨b0, 2, none⟩ = some (.int .i64 s.price) := by rw [h4.x.cell]; simp
          have a3 : w4.cell? ⟨b0, 3, none⟩ = some (sl gl s.lays.length cl) := by rw [h4.x.cell]; simp
          have a4 : w4.cell? ⟨b0, 4, none⟩ = some (sl gp s.psts.length cp) := by rw [h4.x.cell]; simp
          have m0 : w4.cell? ⟨b0 + 1, 0, none⟩ = some (.int .i64 m.seq) := by rw [h4.m.cell]; rfl
          have m1 : w4.cell? ⟨b0 + 1, 1, none⟩ = some (.int .i64 m.value) := by rw [h4.m.cell]; rfl
          have m2 : w4.cell? ⟨b0 + 1, 2, none⟩ = some (.string m.item) := by rw [h4.m.cell]; rfl
          have m3 : w4.cell? ⟨b0 + 1, 3, none⟩ = some (.int .i64 m.kind) := by rw [h4.m.cell]; rfl
          have m4 : w4.cell? ⟨b0 + 1, 4, none⟩ = some (.int .i64 m.qty) := by rw [h4.m.cell]; rfl
          have m5 : w4.cell? ⟨b0 + 1, 5, none⟩ = some (.int .i64 m.cost) := by rw [h4.m.cell]; rfl
          have m6 : w4.cell? ⟨b0 + 1, 6, none⟩ = some (.string m.lot) := by rw [h4.m.cell]; rfl
          have m7 : w4.cell? ⟨b0 + 1, 7, none⟩ = some (.int .i64 m.ref) := by rw [h4.m.cell]; rfl
          have z0 : w4.cell? ⟨b0 + 2, 0, none⟩ = some (.int .i64 0) := by rw [h4.z.cell]; rfl
          have z1 : w4.cell? ⟨b0 + 2, 1, none⟩ = some (.int .i64 0) := by rw [h4.z.cell]; rfl
          have z2 : w4.cell? ⟨b0 + 2, 2, none⟩ = some (.int .i64 0) := by rw [h4.z.cell]; rfl
          have z3 : w4.cell? ⟨b0 + 2, 3, none⟩ = some (.slice none 0 0) := by rw [h4.z.cell]; rfl
          have z4 : w4.cell? ⟨b0 + 2, 4, none⟩ = some (.slice none 0 0) := by rw [h4.z.cell]; rfl
          have y0 : w4.cell? ⟨b0 + 3, 0, none⟩ = some (.int .i64 0) := by rw [h4.c.cell]; rfl
          have y1 : w4.cell? ⟨b0 + 3, 1, none⟩ = some (.int .i64 0) := by rw [h4.c.cell]; rfl
          have y2 : w4.cell? ⟨b0 + 3, 2, none⟩ = some (.int .i64 0) := by rw [h4.c.cell]; rfl
          have y3 : w4.cell? ⟨b0 + 3, 3, none⟩ = some (.int .i64 0) := by rw [h4.c.cell]; rfl
          have fz := fun o => h4.z.frozen o
          have fy := fun o => h4.c.frozen o
          have HF4 := Lib.hid h4; have HC4 := Lib.hid hc4; clear h4 hc4 p0 p1 p2 p3 p4 p5 p6 x0 x1 x2 x3 fl
          have e1 : b0 + 1 + 1 ≠ b0 := by omega
          have e2 : b0 + 1 + 1 + 1 ≠ b0 := by omega
          have e3 : b0 ≠ b0 + 1 + 1 := by omega
          have e4 : b0 ≠ b0 + 1 + 1 + 1 := by omega
          go_region_held3 (fun w' => w'.cell? ⟨b0, 0, none⟩ = some (.int .i64 s.qty) ∧ w'.cell? ⟨b0, 1, none⟩ = some (.int .i64 s.val) ∧ w'.cell? ⟨b0, 2, none⟩ = some (.int .i64 s.price) ∧ w'.cell? ⟨b0, 3, none⟩ = some (sl gl s.lays.length cl) ∧ w'.cell? ⟨b0, 4, none⟩ = some (sl gp s.psts.length cp) ∧ w'.cell? ⟨b0 + 1, 5, none⟩ = some (.int .i64 m.cost)) (go_keep) (fail)
          all_goals go_wp2_with fail
          all_goals
            refine bodyPost_ret (v := .tuple #[.agg #[.int .i64 s.qty, .int .i64 s.val, .int .i64 s.price, sl gl s.lays.length cl, sl gp s.psts.length cp], .agg #[.int .i64 0, .int .i64 (0), .int .i64 (R.1), .int .i64 (IntKind.i64.wrap (m.cost - R.1))], .int .i64 0]) (by simp [results, Tryd.results72, go_sem, *]) rfl ?_
            rw [HE.out]
            have hb0 := HB0.out
            have hx := HF4.out.lg
            have hy := HF4.out.pg
            refine rpost_ok HF4.out ?_ rfl rfl rfl lp (.inl rfl) (.inl rfl) (fun g e cur n1 n2 hb => ?_) rfl rfl (w64 _) (by simp) rfl
            · repeat (first | with_reducible exact HC4.out | with_reducible refine Chg.drew ?_ | with_reducible refine Chg.set ?_ (.inr (by simp <;> omega)) _)
            · repeat (first | with_reducible exact hb | with_reducible refine Blk.drew ?_ | with_reducible refine Blk.set_other ?_ _ (by simp <;> omega))
        · have h5' : (R.2 == 0) = false := by simpa using h5
          have HE := Lib.hid (show (landM s m).err = 4 by rw [HE0.out, if_pos h5]; rfl)
          clear h5 HE0
          have a0 : w4.cell? ⟨b0, 0, none⟩ = some (.int .i64 s.qty) := by rw [hF4.x.cell]; rfl
          have a1 : w4.cell? ⟨b0, 1, none⟩ = some (.int .i64 s.val) := by rw [hF4.x.cell]; rfl
          have a2 : w4.cell? ⟨b0, 2, none⟩ = some (.int .i64 s.price) := by rw [hF4.x.cell]; rfl
          have a3 : w4.cell? ⟨b0, 3, none⟩ = some (sl gl s.lays.length cl) := by rw [hF4.x.cell]; rfl
          have a4 : w4.cell? ⟨b0, 4, none⟩ = some (sl gp s.psts.length cp) := by rw [hF4.x.cell]; rfl
          have z0 : w4.cell? ⟨b0 + 2, 0, none⟩ = some (.int .i64 0) := by rw [hF4.z.cell]; rfl
          have z1 : w4.cell? ⟨b0 + 2, 1, none⟩ = some (.int .i64 0) := by rw [hF4.z.cell]; rfl
          have z2 : w4.cell? ⟨b0 + 2, 2, none⟩ = some (.int .i64 0) := by rw [hF4.z.cell]; rfl
          have z3 : w4.cell? ⟨b0 + 2, 3, none⟩ = some (.slice none 0 0) := by rw [hF4.z.cell]; rfl
          have z4 : w4.cell? ⟨b0 + 2, 4, none⟩ = some (.slice none 0 0) := by rw [hF4.z.cell]; rfl
          have y0 : w4.cell? ⟨b0 + 3, 0, none⟩ = some (.int .i64 0) := by rw [hF4.c.cell]; rfl
          have y1 : w4.cell? ⟨b0 + 3, 1, none⟩ = some (.int .i64 0) := by rw [hF4.c.cell]; rfl
          have y2 : w4.cell? ⟨b0 + 3, 2, none⟩ = some (.int .i64 0) := by rw [hF4.c.cell]; rfl
          have y3 : w4.cell? ⟨b0 + 3, 3, none⟩ = some (.int .i64 0) := by rw [hF4.c.cell]; rfl
          have fz := fun o => hF4.z.frozen o
          have fy := fun o => hF4.c.frozen o
          have HBW5 := Lib.hid hbw; clear hb4 hF4 hbw HF3 HBW
          go_wp2_with fail
          refine bodyPost_ret (v := .tuple #[.agg #[.int .i64 s.qty, .int .i64 s.val, .int .i64 s.price, sl gl s.lays.length cl, sl gp s.psts.length cp], .agg #[.int .i64 0, .int .i64 0, .int .i64 0, .int .i64 0], .int .i64 4]) (by simp [results, Tryd.results72, go_sem, *]) rfl ?_
          exact rpost_err HE.out (by decide) HBW5.out HB0.out _ _ _ _ _ _ _ _ _

theorem rpost_pass {s : Stk} {o : Out} {gl gp b0 : Nat} {w W w2 : World} {bl : Option Addr} {nl cl : Nat} {bp : Option Addr} {np cp : Nat} {c1 c2 c3 er : Int} (he : o.err = er) (hb : Below b0 w W) (h0 : w.heap.size = b0) (hs : b0 + 4 ≤ W.heap.size) (hl : gl < b0) (hp : gp < b0)
    (hc : Chg [gl, gp] W w2)
    (hok : er = 0 → c1 = o.cst.qty ∧ c2 = o.cst.val ∧ c3 = o.cst.var ∧ ∃ g1 k1 g2 k2, bl = some ⟨g1, 0, none⟩ ∧ nl = o.lays.length ∧ bp = some ⟨g2, 0, none⟩ ∧ np = o.psts.length ∧ LRow w2 g1 cl o.lays k1 ∧ PRow w2 g2 cp o.psts k2 ∧ g1 ≠ g2 ∧ (g1 = gl ∨ W.heap.size ≤ g1) ∧ (g2 = gp ∨ W.heap.size ≤ g2)) (q v p vl vp d0 d1 d2 d3 : Value) :
    RPost s o gl gp w (.returned (.tuple #[.agg #[.int .i64 s.qty, .int .i64 s.val, .int .i64 s.price, .slice bl nl cl, .slice bp np cp], .agg #[.int .i64 0, .int .i64 c1, .int .i64 c2, .int .i64 c3], .int .i64 er])) (set4 (set5 w2 (b0 + 2) q v p vl vp) (b0 + 3) d0 d1 d2 d3) := by
  subst h0
  refine ⟨bl, nl, cl, bp, np, cp, c1, c2, c3, by rw [he], ?_, fun h => ?_⟩
  · exact (((Chg.of_below [gl, gp] hb).trans hc (by simp)).trans (T := [w.heap.size + 2]) (set5_chg _ _ _ _ _ _ _) (by simp)).trans (T := [w.heap.size + 3]) (set4_chg _ _ _ _ _ _) (by simp)
  · obtain ⟨a1, a2, a3, g1, k1, g2, k2, b1, b2, b3, b4, r1, r2, n, x1, x2⟩ := hok (he ▸ h)
    exact ⟨a1, a2, a3, g1, k1, g2, k2, b1, b2, b3, b4, r1.of_blk ((r1.blk.set5_other _ _ _ _ _ (by omega)).set4_other _ _ _ _ (by omega)), r2.of_blk ((r2.blk.set5_other _ _ _ _ _ (by omega)).set4_other _ _ _ _ (by omega)), n, by omega, by omega⟩
theorem rd_one0 (w : World) (e : TypeId) (k : Nat) (xs : List Value) (hk : xs.length = k) : Rd (w.alloc (.cells xs.toArray e)) k (.slice (some ⟨w.heap.size, 0, none⟩) 1 1) 1 xs := by
  refine ⟨by simpa using hk, .inr ⟨_, 1, rfl, fun j u hu => ?_⟩⟩
  have hadd : (⟨w.heap.size, 0, none⟩ : Addr).add j = ⟨w.heap.size, j, none⟩ := by unfold Addr.add; split <;> simp_all
  rw [hadd, (Blk.new w e xs.toArray).cell]
  simpa using hu
theorem rpost_ok2 {s : Stk} {o : Out} {gl gp b0 g1 g2 c1 c2 : Nat} {w W W2 : World} {k1 k2 : Array Value} (hl : LRow W g1 c1 o.lays k1) (hp : PRow W g2 c2 o.psts k2) (a : g1 < b0 ∨ b0 + 4 ≤ g1) (b : g2 < b0 ∨ b0 + 4 ≤ g2) (hc : Chg [gl, gp] w W2) (he : o.err = 0) (hne : g1 ≠ g2) (h1 : g1 = gl ∨ w.heap.size ≤ g1) (h2 : g2 = gp ∨ w.heap.size ≤ g2)
    (hk : ∀ g e cur, g ≠ b0 + 2 → g ≠ b0 + 3 → Blk W g e cur → Blk W2 g e cur) {q v r : Int} (hq : q = o.cst.qty) (hv : v = o.cst.val) (hr : r = o.cst.var) {nl np : Nat} (hnl : nl = o.lays.length) (hnp : np = o.psts.length) :
    RPost s o gl gp w (.returned (.tuple #[.agg #[.int .i64 s.qty, .int .i64 s.val, .int .i64 s.price, sl g1 nl c1, sl g2 np c2], .agg #[.int .i64 0, .int .i64 q, .int .i64 v, .int .i64 r], .int .i64 0])) W2 :=
  ⟨_, _, c1, _, _, c2, q, v, r, by rw [he], hc, fun _ => ⟨hq, hv, hr, g1, k1, g2, k2, rfl, hnl, rfl, hnp, hl.of_blk (hk _ _ _ (by omega) (by omega) hl.blk), hp.of_blk (hk _ _ _ (by omega) (by omega) hp.blk), hne, h1, h2⟩⟩

set_option maxRecDepth 100000 in
set_option maxHeartbeats 8000000 in
theorem rmove_any (s : Stk) (m : Mov) (gl gp cl cp : Nat) (kl kp : Array Value) (w : World) (hl : LRow w gl cl s.lays kl) (hp : PRow w gp cp s.psts kp) (lp : gl ≠ gp) (hn : s.lays.length ≤ 900) (hnp : s.psts.length ≤ 900)
    (hG : Good s) (h1 : One m) :
    Calls Tryd.prog 39 #[.agg #[.int .i64 s.qty, .int .i64 s.val, .int .i64 s.price, sl gl s.lays.length cl, sl gp s.psts.length cp], m.v] w (RPost s (doM s m) gl gp w) := by
  obtain ⟨i0, hi0, hz0, hz1, hz2⟩ := info_parts Tryd.info44
  obtain ⟨i1, hi1, hy0, hy1, hy2⟩ := info_parts Tryd.info51
  have HO := Lib.hid h1; clear h1
  have hb : Below w.heap.size w ((((w.alloc (.cells #[.int .i64 s.qty, .int .i64 s.val, .int .i64 s.price, sl gl s.lays.length cl, sl gp s.psts.length cp] 32)).alloc (.cells (mCells m) 38)).alloc (.cells stkZ 32)).alloc (.cells cstZ 34)) := ((((Below.refl _ _).alloc (Nat.le_refl _) _).alloc (by simp) _).alloc (by simp; omega) _).alloc (by simp; omega) _
  have hA : Blk ((((w.alloc (.cells #[.int .i64 s.qty, .int .i64 s.val, .int .i64 s.price, sl gl s.lays.length cl, sl gp s.psts.length cp] 32)).alloc (.cells (mCells m) 38)).alloc (.cells stkZ 32)).alloc (.cells cstZ 34)) w.heap.size 32 #[.int .i64 s.qty, .int .i64 s.val, .int .i64 s.price, sl gl s.lays.length cl, sl gp s.psts.length cp] := (((Blk.new _ _ _).alloc _).alloc _).alloc _
  have hM : Blk ((((w.alloc (.cells #[.int .i64 s.qty, .int .i64 s.val, .int .i64 s.price, sl gl s.lays.length cl, sl gp s.psts.length cp] 32)).alloc (.cells (mCells m) 38)).alloc (.cells stkZ 32)).alloc (.cells cstZ 34)) (w.heap.size + 1) 38 (mCells m) := ((Blk.new2 _ _ _ _).alloc _).alloc _
  have hZ : Blk ((((w.alloc (.cells #[.int .i64 s.qty, .int .i64 s.val, .int .i64 s.price, sl gl s.lays.length cl, sl gp s.psts.length cp] 32)).alloc (.cells (mCells m) 38)).alloc (.cells stkZ 32)).alloc (.cells cstZ 34)) (w.heap.size + 2) 32 stkZ := by
    have := (Blk.new ((w.alloc (.cells #[.int .i64 s.qty, .int .i64 s.val, .int .i64 s.price, sl gl s.lays.length cl, sl gp s.psts.length cp] 32)).alloc (.cells (mCells m) 38)) 32 stkZ).alloc (.cells cstZ 34)
    simpa using this
  have hC : Blk ((((w.alloc (.cells #[.int .i64 s.qty, .int .i64 s.val, .int .i64 s.price, sl gl s.lays.length cl, sl gp s.psts.length cp] 32)).alloc (.cells (mCells m) 38)).alloc (.cells stkZ 32)).alloc (.cells cstZ 34)) (w.heap.size + 3) 34 cstZ := by
    have := Blk.new (((w.alloc (.cells #[.int .i64 s.qty, .int .i64 s.val, .int .i64 s.price, sl gl s.lays.length cl, sl gp s.psts.length cp] 32)).alloc (.cells (mCells m) 38)).alloc (.cells stkZ 32)) 34 cstZ
    simpa using this
  have hs : ((((w.alloc (.cells #[.int .i64 s.qty, .int .i64 s.val, .int .i64 s.price, sl gl s.lays.length cl, sl gp s.psts.length cp] 32)).alloc (.cells (mCells m) 38)).alloc (.cells stkZ 32)).alloc (.cells cstZ 34)).heap.size = w.heap.size + 4 := by simp
  have lgl := hl.blk.lt
  have lgp := hp.blk.lt
  have hrow := hl.of_blk (hl.blk.below' hb)
  have hprow := hp.of_blk (hp.blk.below' hb)
  go_enter Tryd.func39, Tryd.ntmps39
  go_upto_region 1 with fail
  generalize ((((w.alloc (.cells #[.int .i64 s.qty, .int .i64 s.val, .int .i64 s.price, sl gl s.lays.length cl, sl gp s.psts.length cp] 32)).alloc (.cells (mCells m) 38)).alloc (.cells stkZ 32)).alloc (.cells cstZ 34)) = W at *
  have a0 : W.cell? ⟨w.heap.size, 0, none⟩ = some (.int .i64 s.qty) := by rw [hA.cell]; rfl
  have a1 : W.cell? ⟨w.heap.size, 1, none⟩ = some (.int .i64 s.val) := by rw [hA.cell]; rfl
  have a2 : W.cell? ⟨w.heap.size, 2, none⟩ = some (.int .i64 s.price) := by rw [hA.cell]; rfl
  have a3 : W.cell? ⟨w.heap.size, 3, none⟩ = some (sl gl s.lays.length cl) := by rw [hA.cell]; rfl
  have a4 : W.cell? ⟨w.heap.size, 4, none⟩ = some (sl gp s.psts.length cp) := by rw [hA.cell]; rfl
  have m0 : W.cell? ⟨w.heap.size + 1, 0, none⟩ = some (.int .i64 m.seq) := by rw [hM.cell]; rfl
  have m1 : W.cell? ⟨w.heap.size + 1, 1, none⟩ = some (.int .i64 m.value) := by rw [hM.cell]; rfl
  have m2 : W.cell? ⟨w.heap.size + 1, 2, none⟩ = some (.string m.item) := by rw [hM.cell]; rfl
  have m3 : W.cell? ⟨w.heap.size + 1, 3, none⟩ = some (.int .i64 m.kind) := by rw [hM.cell]; rfl
  have m4 : W.cell? ⟨w.heap.size + 1, 4, none⟩ = some (.int .i64 m.qty) := by rw [hM.cell]; rfl
  have m5 : W.cell? ⟨w.heap.size + 1, 5, none⟩ = some (.int .i64 m.cost) := by rw [hM.cell]; rfl
  have m6 : W.cell? ⟨w.heap.size + 1, 6, none⟩ = some (.string m.lot) := by rw [hM.cell]; rfl
  have m7 : W.cell? ⟨w.heap.size + 1, 7, none⟩ = some (.int .i64 m.ref) := by rw [hM.cell]; rfl
  have hF : RF W w.heap.size gl gp cl cp s m kl kp := ⟨hA, hM, hZ, hC, hrow, hprow, .inl (by omega), .inl (by omega)⟩
  have HF := Lib.hid hF; have HB := Lib.hid hb; have HS := Lib.hid hs; clear hA hM hZ hC hs hrow hprow hF hb
  generalize hb0 : w.heap.size = b0 at *
  have HB0 := Lib.hid hb0; clear hb0
  have HG := Lib.hid hG; clear hG
  have hk6 := HO.out.k
  have hkinds : m.kind = 1 ∨ m.kind = 2 ∨ m.kind = 3 ∨ m.kind = 4 ∨ m.kind = 5 ∨ m.kind = 6 := by omega
  clear hk6
  rcases hkinds with hk | hk | hk | hk | hk | hk
  · have hE : doM s m = ⟨0, s.lays ++ [⟨m.seq, m.lot, m.qty, m.cost⟩], s.psts ++ [⟨m.seq, 1, m.lot, m.qty, m.cost, 0, 0⟩], ⟨m.seq, m.qty, m.cost, 0⟩⟩ := by unfold doM; rw [if_pos hk]; unfold receiveM; rw [hk]
    have t1 : (m.kind == 1) = true := by rw [hk]; rfl
    have HE := Lib.hid hE; clear hE hk
    have hrd : Rd (W.alloc (.cells #[.int .i64 m.seq, .string m.lot, .int .i64 m.qty, .int .i64 m.cost] 44)) 4 (.slice (some ⟨W.heap.size, 0, none⟩) 1 1) 1 (Lay.cs ⟨m.seq, m.lot, m.qty, m.cost⟩) := rd_one0 W 44 4 (Lay.cs ⟨m.seq, m.lot, m.qty, m.cost⟩) rfl
    have hF1 := HF.out.below ((Below.refl _ _).alloc (Nat.le_refl _) (.cells #[.int .i64 m.seq, .string m.lot, .int .i64 m.qty, .int .i64 m.cost] 44))
    have HRD := Lib.hid hrd; have HF1 := Lib.hid hF1; clear hrd hF1
    go_upto_region 4 with (first
      | (at_builtin
         (refine wpList_append_rd (by rfl) _ _ _ (by rfl) 44 i0 _ 4 40 Tryd.underlying29 hi0 hz0 hz1 hz2 rfl gl s.lays.length cl (laysC s.lays) kl (by rfl) HF1.out.l (.slice (some ⟨W.heap.size, 0, none⟩) 1 1) 1 (Lay.cs ⟨m.seq, m.lot, m.qty, m.cost⟩) (by rfl) HRD.out (by simp [Lay.cs, Value.oneCell']) (by simp [maxLen]; omega) (by omega) _ rfl ?_)
         intro g1 c1 k1 w5 hr5 hc5 hg5
         have hX := HF1.out.x.chg hc5 (by have := HF.out.lg; simp; omega)
         have f3 := hX.frozen 3
         have d3 : w5.cell? ⟨b0, 3, none⟩ = some (sl gl s.lays.length cl) := by rw [hX.cell]; rfl
         have HR5 := Lib.hid hr5; have HC5 := Lib.hid hc5; clear hX hr5 hc5))
    have hsW := HS.out
    have hrl : LRow w5 g1 c1 (s.lays ++ [⟨m.seq, m.lot, m.qty, m.cost⟩]) k1 := by
      rw [LRow, laysC_append, List.length_append]
      exact HR5.out
    obtain ⟨hF6, hne⟩ := HF1.out.newl lp HC5.out hrl (by simp at hg5 ⊢; omega) (by simp; omega)
    rw [List.length_append, List.length_singleton] at hF6
    have hc6 : Chg [gl, gp] w (w5.setCell ⟨b0, 3, none⟩ (sl g1 (s.lays.length + 1) c1)) := (((Chg.of_below [gl, gp] (show Below w.heap.size w W by rw [HB0.out]; exact HB.out)).alloc _).trans HC5.out (by simp)).set (.inr (by simp; have := HB0.out; omega)) _
    have hsz : b0 + 4 ≤ (w5.setCell ⟨b0, 3, none⟩ (sl g1 (s.lays.length + 1) c1)).heap.size := by have := HC5.out.size; simp at this ⊢; omega
    have hg1 : g1 = gl ∨ b0 + 4 ≤ g1 := by simp at hg5; omega
    generalize (w5.setCell ⟨b0, 3, none⟩ (sl g1 (s.lays.length + 1) c1)) = w6 at *
    have a0 : w6.cell? ⟨b0, 0, none⟩ = some (.int .i64 s.qty) := by rw [hF6.x.cell]; simp
    have a1 : w6.cell? ⟨b0, 1, none⟩ = some (.int .i64 s.val) := by rw [hF6.x.cell]; simp
    have a2 : w6.cell? ⟨b0, 2, none⟩ = some (.int .i64 s.price) := by rw [hF6.x.cell]; simp
    have a3 : w6.cell? ⟨b0, 3, none⟩ = some (sl g1 (s.lays.length + 1) c1) := by rw [hF6.x.cell]; simp
    have a4 : w6.cell? ⟨b0, 4, none⟩ = some (sl gp s.psts.length cp) := by rw [hF6.x.cell]; simp
    have m0 : w6.cell? ⟨b0 + 1, 0, none⟩ = some (.int .i64 m.seq) := by rw [hF6.m.cell]; rfl
    have m1 : w6.cell? ⟨b0 + 1, 1, none⟩ = some (.int .i64 m.value) := by rw [hF6.m.cell]; rfl
    have m2 : w6.cell? ⟨b0 + 1, 2, none⟩ = some (.string m.item) := by rw [hF6.m.cell]; rfl
    have m3 : w6.cell? ⟨b0 + 1, 3, none⟩ = some (.int .i64 m.kind) := by rw [hF6.m.cell]; rfl
    have m4 : w6.cell? ⟨b0 + 1, 4, none⟩ = some (.int .i64 m.qty) := by rw [hF6.m.cell]; rfl
    have m5 : w6.cell? ⟨b0 + 1, 5, none⟩ = some (.int .i64 m.cost) := by rw [hF6.m.cell]; rfl
    have m6 : w6.cell? ⟨b0 + 1, 6, none⟩ = some (.string m.lot) := by rw [hF6.m.cell]; rfl
    have m7 : w6.cell? ⟨b0 + 1, 7, none⟩ = some (.int .i64 m.ref) := by rw [hF6.m.cell]; rfl
    have hrd : Rd (w6.alloc (.cells #[.int .i64 m.seq, .int .i64 1, .string m.lot, .int .i64 m.qty, .int .i64 m.cost, .int .i64 0, .int .i64 0] 51)) 7 (.slice (some ⟨w6.heap.size, 0, none⟩) 1 1) 1 (Pst.cs ⟨m.seq, 1, m.lot, m.qty, m.cost, 0, 0⟩) := rd_one0 w6 51 7 (Pst.cs ⟨m.seq, 1, m.lot, m.qty, m.cost, 0, 0⟩) rfl
    have hF7 := hF6.below ((Below.refl _ _).alloc (Nat.le_refl _) (.cells #[.int .i64 m.seq, .int .i64 1, .string m.lot, .int .i64 m.qty, .int .i64 m.cost, .int .i64 0, .int .i64 0] 51))
    have HRD2 := Lib.hid hrd; have HF7 := Lib.hid hF7; have HC6 := Lib.hid hc6; clear hrd hF7 hF6 hc6 hrl d3 f3 hsW hg5 HRD HR5 HC5 HF1
    go_upto_region 5 with (first
      | (at_builtin
         (refine wpList_append_rd (by rfl) _ _ _ (by rfl) 51 i1 _ 7 64 Tryd.underlying30 hi1 hy0 hy1 hy2 rfl gp s.psts.length cp (pstsC s.psts) kp (by rfl) HF7.out.p (.slice (some ⟨w6.heap.size, 0, none⟩) 1 1) 1 (Pst.cs ⟨m.seq, 1, m.lot, m.qty, m.cost, 0, 0⟩) (by rfl) HRD2.out (by simp [Pst.cs, Value.oneCell']) (by simp [maxLen]; omega) (by omega) _ rfl ?_)
         intro g2 c2 k2 w7 hr7 hc7 hg7
         have hX := HF7.out.x.chg hc7 (by have := HF7.out.pg; simp; omega)
         have f4 := hX.frozen 4
         have d4 : w7.cell? ⟨b0, 4, none⟩ = some (sl gp s.psts.length cp) := by rw [hX.cell]; rfl
         have HR7 := Lib.hid hr7; have HC7 := Lib.hid hc7; clear hX hr7 hc7))
    have hrp : PRow w7 g2 c2 (s.psts ++ [⟨m.seq, 1, m.lot, m.qty, m.cost, 0, 0⟩]) k2 := by
      rw [PRow, pstsC_append, List.length_append]
      exact HR7.out
    obtain ⟨hF8, hne2⟩ := HF7.out.newp hne HC7.out hrp (by simp at hg7 ⊢; omega) (by simp; omega)
    simp only [List.length_append, List.length_singleton] at hF8
    have hc8 : Chg [gl, gp] w (w7.setCell ⟨b0, 4, none⟩ (sl g2 (s.psts.length + 1) c2)) := ((HC6.out.alloc _).trans HC7.out (by simp)).set (.inr (by simp; have := HB0.out; omega)) _
    have hg2 : g2 = gp ∨ b0 + 4 ≤ g2 := by simp at hg7; omega
    generalize (w7.setCell ⟨b0, 4, none⟩ (sl g2 (s.psts.length + 1) c2)) = w8 at *
    have a0 : w8.cell? ⟨b0, 0, none⟩ = some (.int .i64 s.qty) := by rw [hF8.x.cell]; simp
    have a1 : w8.cell? ⟨b0, 1, none⟩ = some (.int .i64 s.val) := by rw [hF8.x.cell]; simp
    have a2 : w8.cell? ⟨b0, 2, none⟩ = some (.int .i64 s.price) := by rw [hF8.x.cell]; simp
    have a3 : w8.cell? ⟨b0, 3, none⟩ = some (sl g1 (s.lays.length + 1) c1) := by rw [hF8.x.cell]; simp
    have a4 : w8.cell? ⟨b0, 4, none⟩ = some (sl g2 (s.psts.length + 1) c2) := by rw [hF8.x.cell]; simp
    have m0 : w8.cell? ⟨b0 + 1, 0, none⟩ = some (.int .i64 m.seq) := by rw [hF8.m.cell]; rfl
    have m1 : w8.cell? ⟨b0 + 1, 1, none⟩ = some (.int .i64 m.value) := by rw [hF8.m.cell]; rfl
    have m2 : w8.cell? ⟨b0 + 1, 2, none⟩ = some (.string m.item) := by rw [hF8.m.cell]; rfl
    have m3 : w8.cell? ⟨b0 + 1, 3, none⟩ = some (.int .i64 m.kind) := by rw [hF8.m.cell]; rfl
    have m4 : w8.cell? ⟨b0 + 1, 4, none⟩ = some (.int .i64 m.qty) := by rw [hF8.m.cell]; rfl
    have m5 : w8.cell? ⟨b0 + 1, 5, none⟩ = some (.int .i64 m.cost) := by rw [hF8.m.cell]; rfl
    have m6 : w8.cell? ⟨b0 + 1, 6, none⟩ = some (.string m.lot) := by rw [hF8.m.cell]; rfl
    have m7 : w8.cell? ⟨b0 + 1, 7, none⟩ = some (.int .i64 m.ref) := by rw [hF8.m.cell]; rfl
    have z0 : w8.cell? ⟨b0 + 2, 0, none⟩ = some (.int .i64 0) := by rw [hF8.z.cell]; rfl
    have z1 : w8.cell? ⟨b0 + 2, 1, none⟩ = some (.int .i64 0) := by rw [hF8.z.cell]; rfl
    have z2 : w8.cell? ⟨b0 + 2, 2, none⟩ = some (.int .i64 0) := by rw [hF8.z.cell]; rfl
    have z3 : w8.cell? ⟨b0 + 2, 3, none⟩ = some (.slice none 0 0) := by rw [hF8.z.cell]; rfl
    have z4 : w8.cell? ⟨b0 + 2, 4, none⟩ = some (.slice none 0 0) := by rw [hF8.z.cell]; rfl
    have y0 : w8.cell? ⟨b0 + 3, 0, none⟩ = some (.int .i64 0) := by rw [hF8.c.cell]; rfl
    have y1 : w8.cell? ⟨b0 + 3, 1, none⟩ = some (.int .i64 0) := by rw [hF8.c.cell]; rfl
    have y2 : w8.cell? ⟨b0 + 3, 2, none⟩ = some (.int .i64 0) := by rw [hF8.c.cell]; rfl
    have y3 : w8.cell? ⟨b0 + 3, 3, none⟩ = some (.int .i64 0) := by rw [hF8.c.cell]; rfl
    have fz := fun o => hF8.z.frozen o
    have fy := fun o => hF8.c.frozen o
    have HF8 := Lib.hid hF8; have HC8 := Lib.hid hc8; clear hF8 hc8 hrp d4 f4 hg7 HRD2 HR7 HC7 HF7 HC6
    have e1 : b0 + 1 + 1 ≠ b0 := by omega
    have e2 : b0 + 1 + 1 + 1 ≠ b0 := by omega
    have e3 : b0 ≠ b0 + 1 + 1 := by omega
    have e4 : b0 ≠ b0 + 1 + 1 + 1 := by omega
    go_region_held3 (fun w' => w'.cell? ⟨b0, 0, none⟩ = some (.int .i64 s.qty) ∧ w'.cell? ⟨b0, 1, none⟩ = some (.int .i64 s.val) ∧ w'.cell? ⟨b0, 2, none⟩ = some (.int .i64 s.price) ∧ w'.cell? ⟨b0, 3, none⟩ = some (sl g1 (s.lays.length + 1) c1) ∧ w'.cell? ⟨b0, 4, none⟩ = some (sl g2 (s.psts.length + 1) c2) ∧ w'.cell? ⟨b0 + 1, 4, none⟩ = some (.int .i64 m.qty) ∧ w'.cell? ⟨b0 + 1, 5, none⟩ = some (.int .i64 m.cost)) (go_keep) (fail)
    all_goals go_wp2_with fail
    all_goals
      refine bodyPost_ret (v := .tuple #[.agg #[.int .i64 s.qty, .int .i64 s.val, .int .i64 s.price, sl g1 (s.lays.length + 1) c1, sl g2 (s.psts.length + 1) c2], .agg #[.int .i64 0, .int .i64 (m.qty), .int .i64 (m.cost), .int .i64 (0)], .int .i64 0]) (by simp [results, Tryd.results39, go_sem, *]) rfl ?_
      rw [HE.out]
      have hb0 := HB0.out
      have hx := HF8.out.lg
      have hy := HF8.out.pg
      refine rpost_ok HF8.out ?_ rfl rfl rfl hne2 (by have := HB0.out; omega) (by have := HB0.out; omega) (fun g e cur n1 n2 hb => ?_) rfl rfl rfl (by simp) (by simp)
      · repeat (first | with_reducible exact HC8.out | with_reducible refine Chg.drew ?_ | with_reducible refine Chg.set ?_ (.inr (by simp <;> omega)) _)
      · repeat (first | with_reducible exact hb | with_reducible refine Blk.drew ?_ | with_reducible refine Blk.set_other ?_ _ (by simp <;> omega))
  · have hE : doM s m = issueStepM s m := by unfold doM; rw [if_neg (by omega), if_pos hk]
    have t1 : (m.kind == 1) = false := by rw [hk]; rfl
    have t2 : (m.kind == 2) = true := by rw [hk]; rfl
    have HK := Lib.hid hk; clear hk
    by_cases hlt : s.qty < m.qty
    · have tq : decide (s.qty < m.qty) = true := by simpa using hlt
      have HE := Lib.hid (show (doM s m).err = 21 by rw [hE]; unfold issueStepM; rw [if_pos hlt]; rfl); clear hlt hE
      have z0 : W.cell? ⟨b0 + 2, 0, none⟩ = some (.int .i64 0) := by rw [HF.out.z.cell]; rfl
      have z1 : W.cell? ⟨b0 + 2, 1, none⟩ = some (.int .i64 0) := by rw [HF.out.z.cell]; rfl
      have z2 : W.cell? ⟨b0 + 2, 2, none⟩ = some (.int .i64 0) := by rw [HF.out.z.cell]; rfl
      have z3 : W.cell? ⟨b0 + 2, 3, none⟩ = some (.slice none 0 0) := by rw [HF.out.z.cell]; rfl
      have z4 : W.cell? ⟨b0 + 2, 4, none⟩ = some (.slice none 0 0) := by rw [HF.out.z.cell]; rfl
      have y0 : W.cell? ⟨b0 + 3, 0, none⟩ = some (.int .i64 0) := by rw [HF.out.c.cell]; rfl
      have y1 : W.cell? ⟨b0 + 3, 1, none⟩ = some (.int .i64 0) := by rw [HF.out.c.cell]; rfl
      have y2 : W.cell? ⟨b0 + 3, 2, none⟩ = some (.int .i64 0) := by rw [HF.out.c.cell]; rfl
      have y3 : W.cell? ⟨b0 + 3, 3, none⟩ = some (.int .i64 0) := by rw [HF.out.c.cell]; rfl
      have fz := fun o => HF.out.z.frozen o
      have fy := fun o => HF.out.c.frozen o
      go_wp2_with fail
      refine bodyPost_ret (v := .tuple #[.agg #[.int .i64 s.qty, .int .i64 s.val, .int .i64 s.price, sl gl s.lays.length cl, sl gp s.psts.length cp], .agg #[.int .i64 0, .int .i64 0, .int .i64 0, .int .i64 0], .int .i64 21]) (by simp [results, Tryd.results39, go_sem, *]) rfl ?_
      exact rpost_err HE.out (by decide) HB.out HB0.out _ _ _ _ _ _ _ _ _
    · have tq : decide (s.qty < m.qty) = false := by simpa using hlt
      have hE2 := hE.trans (show issueStepM s m = ⟨0, (issueM s.lays m.qty 0).2, s.psts ++ [⟨m.seq, m.kind, m.lot, m.qty, (issueM s.lays m.qty 0).1, 0, 0⟩], ⟨m.seq, wrap64 (-m.qty), wrap64 (-(issueM s.lays m.qty 0).1), 0⟩⟩ by unfold issueStepM; rw [if_neg hlt])
      rw [HK.out] at hE2
      have hiss := rissue_any s.qty s.val s.price (some ⟨gp, 0, none⟩) s.psts.length cp gl cl s.lays kl m.qty W HF.out.l (by omega) (fun l hl => HG.out.lay hl) (by rcases HO.out.q with ⟨h, _⟩ | ⟨_, h, h'⟩; · have := HK.out; omega
                                                                                                                                                                    · exact ⟨by omega, by omega⟩)
      have HE := Lib.hid hE2; clear hlt hE hE2
      generalize issueM s.lays m.qty 0 = T at *
      go_wp2_with fail
      refine hiss.mono ?_
      rintro e w2 ⟨g1, c1, k1, rfl, hr2, hc2, hat2⟩
      have hsW := HS.out
      have hs2 := hc2.size
      have hM2 := HF.out.m.chg hc2 (by have := HF.out.lg; simp; omega)
      have hZ2 := HF.out.z.chg hc2 (by have := HF.out.lg; simp; omega)
      have hC2 := HF.out.c.chg hc2 (by have := HF.out.lg; simp; omega)
      have hP2 := HF.out.p.of_blk (HF.out.p.blk.chg hc2 (by simp; omega))
      have hg1 : g1 = gl ∨ b0 + 4 ≤ g1 := by omega
      have lg1 := hr2.blk.lt
      have lgp2 := hP2.blk.lt
      have lpW := HF.out.p.blk.lt
      have hne1 : g1 ≠ gp := by omega
      have hb7 : b0 + 4 ≤ w2.heap.size := by omega
      have hcw : Chg [gl, gp] w w2 := (Chg.of_below [gl, gp] (show Below w.heap.size w W by rw [HB0.out]; exact HB.out)).trans hc2 (by simp)
      have HM2 := Lib.hid hM2; have HZ2 := Lib.hid hZ2; have HC2 := Lib.hid hC2; have HP2 := Lib.hid hP2; have HR2 := Lib.hid hr2; have HCW := Lib.hid hcw; clear hM2 hZ2 hC2 hP2 hr2 hcw hc2 hat2 hsW hiss lpW
      go_upto_region 10 with fail
      have hX : Blk (w2.alloc (.cells #[.int .i64 s.qty, .int .i64 s.val, .int .i64 s.price, sl g1 T.2.length c1, sl gp s.psts.length cp] 32)) w2.heap.size 32 #[.int .i64 s.qty, .int .i64 s.val, .int .i64 s.price, sl g1 T.2.length c1, sl gp s.psts.length cp] := Blk.new _ _ _
      have hM3 := HM2.out.alloc (.cells #[.int .i64 s.qty, .int .i64 s.val, .int .i64 s.price, sl g1 T.2.length c1, sl gp s.psts.length cp] 32)
      have hZ3 := HZ2.out.alloc (.cells #[.int .i64 s.qty, .int .i64 s.val, .int .i64 s.price, sl g1 T.2.length c1, sl gp s.psts.length cp] 32)
      have hC3 := HC2.out.alloc (.cells #[.int .i64 s.qty, .int .i64 s.val, .int .i64 s.price, sl g1 T.2.length c1, sl gp s.psts.length cp] 32)
      have hP3 := HP2.out.of_blk (HP2.out.blk.alloc (.cells #[.int .i64 s.qty, .int .i64 s.val, .int .i64 s.price, sl g1 T.2.length c1, sl gp s.psts.length cp] 32))
      have hR3 := HR2.out.of_blk (HR2.out.blk.alloc (.cells #[.int .i64 s.qty, .int .i64 s.val, .int .i64 s.price, sl g1 T.2.length c1, sl gp s.psts.length cp] 32))
      have hc3 := HCW.out.alloc (.cells #[.int .i64 s.qty, .int .i64 s.val, .int .i64 s.price, sl g1 T.2.length c1, sl gp s.psts.length cp] 32)
      have hs3 : (w2.alloc (.cells #[.int .i64 s.qty, .int .i64 s.val, .int .i64 s.price, sl g1 T.2.length c1, sl gp s.psts.length cp] 32)).heap.size = w2.heap.size + 1 := by simp
      generalize (w2.alloc (.cells #[.int .i64 s.qty, .int .i64 s.val, .int .i64 s.price, sl g1 T.2.length c1, sl gp s.psts.length cp] 32)) = w3 at *
      generalize w2.heap.size = b7 at *
      have a0 : w3.cell? ⟨b7, 0, none⟩ = some (.int .i64 s.qty) := by rw [hX.cell]; rfl
      have a1 : w3.cell? ⟨b7, 1, none⟩ = some (.int .i64 s.val) := by rw [hX.cell]; rfl
      have a2 : w3.cell? ⟨b7, 2, none⟩ = some (.int .i64 s.price) := by rw [hX.cell]; rfl
      have a3 : w3.cell? ⟨b7, 3, none⟩ = some (sl g1 T.2.length c1) := by rw [hX.cell]; rfl
      have a4 : w3.cell? ⟨b7, 4, none⟩ = some (sl gp s.psts.length cp) := by rw [hX.cell]; rfl
      have m0 : w3.cell? ⟨b0 + 1, 0, none⟩ = some (.int .i64 m.seq) := by rw [hM3.cell]; rfl
      have m1 : w3.cell? ⟨b0 + 1, 1, none⟩ = some (.int .i64 m.value) := by rw [hM3.cell]; rfl
      have m2 : w3.cell? ⟨b0 + 1, 2, none⟩ = some (.string m.item) := by rw [hM3.cell]; rfl
      have m3 : w3.cell? ⟨b0 + 1, 3, none⟩ = some (.int .i64 m.kind) := by rw [hM3.cell]; rfl
      have m4 : w3.cell? ⟨b0 + 1, 4, none⟩ = some (.int .i64 m.qty) := by rw [hM3.cell]; rfl
      have m5 : w3.cell? ⟨b0 + 1, 5, none⟩ = some (.int .i64 m.cost) := by rw [hM3.cell]; rfl
      have m6 : w3.cell? ⟨b0 + 1, 6, none⟩ = some (.string m.lot) := by rw [hM3.cell]; rfl
      have m7 : w3.cell? ⟨b0 + 1, 7, none⟩ = some (.int .i64 m.ref) := by rw [hM3.cell]; rfl
      have hrd : Rd (w3.alloc (.cells #[.int .i64 m.seq, .int .i64 2, .string m.lot, .int .i64 m.qty, .int .i64 T.1, .int .i64 0, .int .i64 0] 51)) 7 (.slice (some ⟨w3.heap.size, 0, none⟩) 1 1) 1 (Pst.cs ⟨m.seq, 2, m.lot, m.qty, T.1, 0, 0⟩) := rd_one0 w3 51 7 (Pst.cs ⟨m.seq, 2, m.lot, m.qty, T.1, 0, 0⟩) rfl
      have hP4 := hP3.of_blk (hP3.blk.alloc (.cells #[.int .i64 m.seq, .int .i64 2, .string m.lot, .int .i64 m.qty, .int .i64 T.1, .int .i64 0, .int .i64 0] 51))
      have hX4 := hX.alloc (.cells #[.int .i64 m.seq, .int .i64 2, .string m.lot, .int .i64 m.qty, .int .i64 T.1, .int .i64 0, .int .i64 0] 51)
      have HRD2 := Lib.hid hrd; have HP4 := Lib.hid hP4; have HX4 := Lib.hid hX4; have HM3 := Lib.hid hM3; have HZ3 := Lib.hid hZ3; have HC3 := Lib.hid hC3; have HR3 := Lib.hid hR3; have HCC3 := Lib.hid hc3; have HS3 := Lib.hid hs3
      clear hrd hP4 hX4 hM3 hZ3 hC3 hR3 hc3 hs3 hP3 hX HM2 HZ2 HC2 HP2 HR2 HCW
      go_upto_region 11 with (first
        | (at_builtin
           (refine wpList_append_rd (by rfl) _ _ _ (by rfl) 51 i1 _ 7 64 Tryd.underlying30 hi1 hy0 hy1 hy2 rfl gp s.psts.length cp (pstsC s.psts) kp (by rfl) HP4.out (.slice (some ⟨w3.heap.size, 0, none⟩) 1 1) 1 (Pst.cs ⟨m.seq, 2, m.lot, m.qty, T.1, 0, 0⟩) (by rfl) HRD2.out (by simp [Pst.cs, Value.oneCell']) (by simp [maxLen]; omega) (by omega) _ rfl ?_)
           intro g2 c2 k2 w7 hr7 hc7 hg7
           have hX := HX4.out.chg hc7 (by simp; omega)
           have f4 := hX.frozen 4
           have d4 : w7.cell? ⟨b7, 4, none⟩ = some (sl gp s.psts.length cp) := by rw [hX.cell]; rfl
           have HR7 := Lib.hid hr7; have HC7 := Lib.hid hc7; have HX7 := Lib.hid hX; clear hX hr7 hc7))
      have hrp : PRow w7 g2 c2 (s.psts ++ [⟨m.seq, 2, m.lot, m.qty, T.1, 0, 0⟩]) k2 := by
        rw [PRow, pstsC_append, List.length_append]
        exact HR7.out
      have hs3 := HS3.out
      have hs7 := HC7.out.size
      simp at hg7 hs7
      have hg2 : g2 = gp ∨ b7 + 1 ≤ g2 := by omega
      have hX8 : Blk (w7.setCell ⟨b7, 4, none⟩ (sl g2 (s.psts.length + 1) c2)) b7 32 #[.int .i64 s.qty, .int .i64 s.val, .int .i64 s.price, sl g1 T.2.length c1, sl g2 (s.psts.length + 1) c2] := by have := HX7.out.set 4 (sl g2 (s.psts.length + 1) c2); simpa using this
      have hM8 := ((HM3.out.alloc (.cells #[.int .i64 m.seq, .int .i64 2, .string m.lot, .int .i64 m.qty, .int .i64 T.1, .int .i64 0, .int .i64 0] 51)).chg HC7.out (by simp; omega)).set_other (a := ⟨b7, 4, none⟩) (sl g2 (s.psts.length + 1) c2) (by simp; omega)
      have hZ8 := ((HZ3.out.alloc (.cells #[.int .i64 m.seq, .int .i64 2, .string m.lot, .int .i64 m.qty, .int .i64 T.1, .int .i64 0, .int .i64 0] 51)).chg HC7.out (by simp; omega)).set_other (a := ⟨b7, 4, none⟩) (sl g2 (s.psts.length + 1) c2) (by simp; omega)
      have hC8 := ((HC3.out.alloc (.cells #[.int .i64 m.seq, .int .i64 2, .string m.lot, .int .i64 m.qty, .int .i64 T.1, .int .i64 0, .int .i64 0] 51)).chg HC7.out (by simp; omega)).set_other (a := ⟨b7, 4, none⟩) (sl g2 (s.psts.length + 1) c2) (by simp; omega)
      have hR8 := HR3.out.of_blk (((HR3.out.blk.alloc (.cells #[.int .i64 m.seq, .int .i64 2, .string m.lot, .int .i64 m.qty, .int .i64 T.1, .int .i64 0, .int .i64 0] 51)).chg HC7.out (by simp; omega)).set_other (a := ⟨b7, 4, none⟩) (sl g2 (s.psts.length + 1) c2) (by simp; omega))
      have hP8 := hrp.of_blk (hrp.blk.set_other (a := ⟨b7, 4, none⟩) (sl g2 (s.psts.length + 1) c2) (by simp; omega))
      have hc8 : Chg [gl, gp] w (w7.setCell ⟨b7, 4, none⟩ (sl g2 (s.psts.length + 1) c2)) := ((HCC3.out.alloc _).trans HC7.out (by simp)).set (.inr (by simp; have := HB0.out; omega)) _
      generalize (w7.setCell ⟨b7, 4, none⟩ (sl g2 (s.psts.length + 1) c2)) = w8 at *
      clear a0 a1 a2 a3 a4 d4 f4 hrp HX7 HC7 HR7 HRD2 HP4 HX4 HM3 HZ3 HC3 HR3 HCC3 HS3
      have a0 : w8.cell? ⟨b7, 0, none⟩ = some (.int .i64 s.qty) := by rw [hX8.cell]; rfl
      have a1 : w8.cell? ⟨b7, 1, none⟩ = some (.int .i64 s.val) := by rw [hX8.cell]; rfl
      have a2 : w8.cell? ⟨b7, 2, none⟩ = some (.int .i64 s.price) := by rw [hX8.cell]; rfl
      have a3 : w8.cell? ⟨b7, 3, none⟩ = some (sl g1 T.2.length c1) := by rw [hX8.cell]; rfl
      have a4 : w8.cell? ⟨b7, 4, none⟩ = some (sl g2 (s.psts.length + 1) c2) := by rw [hX8.cell]; rfl
      have m0 : w8.cell? ⟨b0 + 1, 0, none⟩ = some (.int .i64 m.seq) := by rw [hM8.cell]; rfl
      have m1 : w8.cell? ⟨b0 + 1, 1, none⟩ = some (.int .i64 m.value) := by rw [hM8.cell]; rfl
      have m2 : w8.cell? ⟨b0 + 1, 2, none⟩ = some (.string m.item) := by rw [hM8.cell]; rfl
      have m3 : w8.cell? ⟨b0 + 1, 3, none⟩ = some (.int .i64 m.kind) := by rw [hM8.cell]; rfl
      have m4 : w8.cell? ⟨b0 + 1, 4, none⟩ = some (.int .i64 m.qty) := by rw [hM8.cell]; rfl
      have m5 : w8.cell? ⟨b0 + 1, 5, none⟩ = some (.int .i64 m.cost) := by rw [hM8.cell]; rfl
      have m6 : w8.cell? ⟨b0 + 1, 6, none⟩ = some (.string m.lot) := by rw [hM8.cell]; rfl
      have m7 : w8.cell? ⟨b0 + 1, 7, none⟩ = some (.int .i64 m.ref) := by rw [hM8.cell]; rfl
      have z0 : w8.cell? ⟨b0 + 2, 0, none⟩ = some (.int .i64 0) := by rw [hZ8.cell]; rfl
      have z1 : w8.cell? ⟨b0 + 2, 1, none⟩ = some (.int .i64 0) := by rw [hZ8.cell]; rfl
      have z2 : w8.cell? ⟨b0 + 2, 2, none⟩ = some (.int .i64 0) := by rw [hZ8.cell]; rfl
      have z3 : w8.cell? ⟨b0 + 2, 3, none⟩ = some (.slice none 0 0) := by rw [hZ8.cell]; rfl
      have z4 : w8.cell? ⟨b0 + 2, 4, none⟩ = some (.slice none 0 0) := by rw [hZ8.cell]; rfl
      have y0 : w8.cell? ⟨b0 + 3, 0, none⟩ = some (.int .i64 0) := by rw [hC8.cell]; rfl
      have y1 : w8.cell? ⟨b0 + 3, 1, none⟩ = some (.int .i64 0) := by rw [hC8.cell]; rfl
      have y2 : w8.cell? ⟨b0 + 3, 2, none⟩ = some (.int .i64 0) := by rw [hC8.cell]; rfl
      have y3 : w8.cell? ⟨b0 + 3, 3, none⟩ = some (.int .i64 0) := by rw [hC8.cell]; rfl
      have fz := fun o => hZ8.frozen o
      have fy := fun o => hC8.frozen o
      have HC8 := Lib.hid hc8; have HR8 := Lib.hid hR8; have HP8 := Lib.hid hP8; clear hc8 hR8 hP8 hX8 hM8 hZ8 hC8
      have e1 : b0 + 1 + 1 ≠ b7 := by omega
      have e2 : b0 + 1 + 1 + 1 ≠ b7 := by omega
      have e3 : b7 ≠ b0 + 1 + 1 := by omega
      have e4 : b7 ≠ b0 + 1 + 1 + 1 := by omega
      have e5 : b0 + 1 + 1 ≠ b0 := by omega
      have e6 : b0 + 1 + 1 + 1 ≠ b0 := by omega
      go_region_held3 (fun w' => w'.cell? ⟨b7, 0, none⟩ = some (.int .i64 s.qty) ∧ w'.cell? ⟨b7, 1, none⟩ = some (.int .i64 s.val) ∧ w'.cell? ⟨b7, 2, none⟩ = some (.int .i64 s.price) ∧ w'.cell? ⟨b7, 3, none⟩ = some (sl g1 T.2.length c1) ∧ w'.cell? ⟨b7, 4, none⟩ = some (sl g2 (s.psts.length + 1) c2) ∧ w'.cell? ⟨b0 + 1, 4, none⟩ = some (.int .i64 m.qty)) (go_keep) (fail)
      all_goals go_wp2_with fail
      all_goals
        refine bodyPost_ret (v := .tuple #[.agg #[.int .i64 s.qty, .int .i64 s.val, .int .i64 s.price, sl g1 T.2.length c1, sl g2 (s.psts.length + 1) c2], .agg #[.int .i64 0, .int .i64 (IntKind.i64.wrap (-m.qty)), .int .i64 (IntKind.i64.wrap (-T.1)), .int .i64 0], .int .i64 0]) (by simp [results, Tryd.results39, go_sem, *]) rfl ?_
        rw [HE.out]
        have hb0 := HB0.out
        refine rpost_ok2 (b0 := b0) HR8.out HP8.out (by omega) (by omega) ?_ rfl (by omega) (by omega) (by omega) (fun g e cur n1 n2 hb => ?_) (w64 _) (w64 _) rfl rfl (by simp)
        · repeat (first | with_reducible exact HC8.out | with_reducible refine Chg.drew ?_ | with_reducible refine Chg.set ?_ (.inr (by simp <;> omega)) _)
        · repeat (first | with_reducible exact hb | with_reducible refine Blk.drew ?_ | with_reducible refine Blk.set_other ?_ _ (by simp <;> omega))
  · have HE := Lib.hid (show doM s m = backM s m by unfold doM; rw [if_neg (by omega), if_neg (by omega), if_pos hk])
    have hb1 : 1 ≤ m.qty ∧ m.qty ≤ 1000000000 := by rcases HO.out.q with ⟨h, _⟩ | ⟨_, h, h'⟩ <;> omega
    have t1 : (m.kind == 1) = false := by rw [hk]; rfl
    have t2 : (m.kind == 2) = false := by rw [hk]; rfl
    have t3 : (m.kind == 3) = true := by rw [hk]; rfl
    have HK := Lib.hid hk; have HB1 := Lib.hid hb1; clear hk hb1
    go_wp2_with fail
    refine (rback_any s m gl gp cl cp kl kp W HF.out.l HF.out.p lp hn hnp HG.out HK.out (HB1.out).1 (HB1.out).2).mono ?_
    rintro e w2 ⟨bl, nl, cl2, bp, np, cp2, c1, c2, c3, rfl, hchg, hok⟩
    have hz := HF.out.z.chg hchg (by simp; have := HF.out.lg; have := HF.out.pg; omega)
    have hc := HF.out.c.chg hchg (by simp; have := HF.out.lg; have := HF.out.pg; omega)
    have z0 : w2.cell? ⟨b0 + 2, 0, none⟩ = some (.int .i64 0) := by rw [hz.cell]; rfl
    have z1 : w2.cell? ⟨b0 + 2, 1, none⟩ = some (.int .i64 0) := by rw [hz.cell]; rfl
    have z2 : w2.cell? ⟨b0 + 2, 2, none⟩ = some (.int .i64 0) := by rw [hz.cell]; rfl
    have z3 : w2.cell? ⟨b0 + 2, 3, none⟩ = some (.slice none 0 0) := by rw [hz.cell]; rfl
    have z4 : w2.cell? ⟨b0 + 2, 4, none⟩ = some (.slice none 0 0) := by rw [hz.cell]; rfl
    have y0 : w2.cell? ⟨b0 + 3, 0, none⟩ = some (.int .i64 0) := by rw [hc.cell]; rfl
    have y1 : w2.cell? ⟨b0 + 3, 1, none⟩ = some (.int .i64 0) := by rw [hc.cell]; rfl
    have y2 : w2.cell? ⟨b0 + 3, 2, none⟩ = some (.int .i64 0) := by rw [hc.cell]; rfl
    have y3 : w2.cell? ⟨b0 + 3, 3, none⟩ = some (.int .i64 0) := by rw [hc.cell]; rfl
    have fz := fun o => hz.frozen o
    have fy := fun o => hc.frozen o
    have HOK := Lib.hid hok; have HCH := Lib.hid hchg; clear hok hchg hz hc
    generalize hee : backM s m = oo at *
    clear hee
    generalize hoe : oo.err = er at *
    have HOE := Lib.hid hoe; clear hoe
    go_wp2_with fail
    refine bodyPost_ret (v := .tuple #[.agg #[.int .i64 s.qty, .int .i64 s.val, .int .i64 s.price, .slice bl nl cl2, .slice bp np cp2], .agg #[.int .i64 0, .int .i64 c1, .int .i64 c2, .int .i64 c3], .int .i64 er]) (by simp [results, Tryd.results39, go_sem, *]) rfl ?_
    rw [HE.out]
    exact rpost_pass HOE.out HB.out HB0.out (by rw [HS.out]; omega) lgl lgp HCH.out HOK.out _ _ _ _ _ _ _ _ _
  · have HE := Lib.hid (show doM s m = sendM s m by unfold doM; rw [if_neg (by omega), if_neg (by omega), if_neg (by omega), if_pos hk])
    have hb1 : 1 ≤ m.qty ∧ m.qty ≤ 1000000000 := by rcases HO.out.q with ⟨h, _⟩ | ⟨_, h, h'⟩ <;> omega
    have t1 : (m.kind == 1) = false := by rw [hk]; rfl
    have t2 : (m.kind == 2) = false := by rw [hk]; rfl
    have t3 : (m.kind == 3) = false := by rw [hk]; rfl
    have t4 : (m.kind == 4) = true := by rw [hk]; rfl
    have HK := Lib.hid hk; have HB1 := Lib.hid hb1; clear hk hb1
    go_wp2_with fail
    refine (rsend_any s m gl gp cl cp kl kp W HF.out.l HF.out.p lp hn hnp HG.out HK.out (HB1.out).1 (HB1.out).2).mono ?_
    rintro e w2 ⟨bl, nl, cl2, bp, np, cp2, c1, c2, c3, rfl, hchg, hok⟩
    have hz := HF.out.z.chg hchg (by simp; have := HF.out.lg; have := HF.out.pg; omega)
    have hc := HF.out.c.chg hchg (by simp; have := HF.out.lg; have := HF.out.pg; omega)
    have z0 : w2.cell? ⟨b0 + 2, 0, none⟩ = some (.int .i64 0) := by rw [hz.cell]; rfl
    have z1 : w2.cell? ⟨b0 + 2, 1, none⟩ = some (.int .i64 0) := by rw [hz.cell]; rfl
    have z2 : w2.cell? ⟨b0 + 2, 2, none⟩ = some (.int .i64 0) := by rw [hz.cell]; rfl
    have z3 : w2.cell? ⟨b0 + 2, 3, none⟩ = some (.slice none 0 0) := by rw [hz.cell]; rfl
    have z4 : w2.cell? ⟨b0 + 2, 4, none⟩ = some (.slice none 0 0) := by rw [hz.cell]; rfl
    have y0 : w2.cell? ⟨b0 + 3, 0, none⟩ = some (.int .i64 0) := by rw [hc.cell]; rfl
    have y1 : w2.cell? ⟨b0 + 3, 1, none⟩ = some (.int .i64 0) := by rw [hc.cell]; rfl
    have y2 : w2.cell? ⟨b0 + 3, 2, none⟩ = some (.int .i64 0) := by rw [hc.cell]; rfl
    have y3 : w2.cell? ⟨b0 + 3, 3, none⟩ = some (.int .i64 0) := by rw [hc.cell]; rfl
    have fz := fun o => hz.frozen o
    have fy := fun o => hc.frozen o
    have HOK := Lib.hid hok; have HCH := Lib.hid hchg; clear hok hchg hz hc
    generalize hee : sendM s m = oo at *
    clear hee
    generalize hoe : oo.err = er at *
    have HOE := Lib.hid hoe; clear hoe
    go_wp2_with fail
    refine bodyPost_ret (v := .tuple #[.agg #[.int .i64 s.qty, .int .i64 s.val, .int .i64 s.price, .slice bl nl cl2, .slice bp np cp2], .agg #[.int .i64 0, .int .i64 c1, .int .i64 c2, .int .i64 c3], .int .i64 er]) (by simp [results, Tryd.results39, go_sem, *]) rfl ?_
    rw [HE.out]
    exact rpost_pass HOE.out HB.out HB0.out (by rw [HS.out]; omega) lgl lgp HCH.out HOK.out _ _ _ _ _ _ _ _ _
  · have HE := Lib.hid (show doM s m = landM s m by unfold doM; rw [if_neg (by omega), if_neg (by omega), if_neg (by omega), if_neg (by omega), if_pos hk])
    have hb1 : m.qty = 0 ∧ 1 ≤ m.cost ∧ m.cost ≤ 1000000000000 := by rcases HO.out.q with ⟨_, h⟩ | ⟨h, _⟩ <;> rcases HO.out.c with ⟨h2, _⟩ | ⟨_, h2, h3⟩ | ⟨⟨_, h2⟩, _⟩ <;> omega
    have t1 : (m.kind == 1) = false := by rw [hk]; rfl
    have t2 : (m.kind == 2) = false := by rw [hk]; rfl
    have t3 : (m.kind == 3) = false := by rw [hk]; rfl
    have t4 : (m.kind == 4) = false := by rw [hk]; rfl
    have t5 : (m.kind == 5) = true := by rw [hk]; rfl
    have HK := Lib.hid hk; have HB1 := Lib.hid hb1; clear hk hb1
    go_wp2_with fail
    refine (rland_any s m gl gp cl cp kl kp W HF.out.l HF.out.p lp hn hnp HG.out (HB1.out).1 (HB1.out).2.1 (HB1.out).2.2).mono ?_
    rintro e w2 ⟨bl, nl, cl2, bp, np, cp2, c1, c2, c3, rfl, hchg, hok⟩
    have hz := HF.out.z.chg hchg (by simp; have := HF.out.lg; have := HF.out.pg; omega)
    have hc := HF.out.c.chg hchg (by simp; have := HF.out.lg; have := HF.out.pg; omega)
    have z0 : w2.cell? ⟨b0 + 2, 0, none⟩ = some (.int .i64 0) := by rw [hz.cell]; rfl
    have z1 : w2.cell? ⟨b0 + 2, 1, none⟩ = some (.int .i64 0) := by rw [hz.cell]; rfl
    have z2 : w2.cell? ⟨b0 + 2, 2, none⟩ = some (.int .i64 0) := by rw [hz.cell]; rfl
    have z3 : w2.cell? ⟨b0 + 2, 3, none⟩ = some (.slice none 0 0) := by rw [hz.cell]; rfl
    have z4 : w2.cell? ⟨b0 + 2, 4, none⟩ = some (.slice none 0 0) := by rw [hz.cell]; rfl
    have y0 : w2.cell? ⟨b0 + 3, 0, none⟩ = some (.int .i64 0) := by rw [hc.cell]; rfl
    have y1 : w2.cell? ⟨b0 + 3, 1, none⟩ = some (.int .i64 0) := by rw [hc.cell]; rfl
    have y2 : w2.cell? ⟨b0 + 3, 2, none⟩ = some (.int .i64 0) := by rw [hc.cell]; rfl
    have y3 : w2.cell? ⟨b0 + 3, 3, none⟩ = some (.int .i64 0) := by rw [hc.cell]; rfl
    have fz := fun o => hz.frozen o
    have fy := fun o => hc.frozen o
    have HOK := Lib.hid hok; have HCH := Lib.hid hchg; clear hok hchg hz hc
    generalize hee : landM s m = oo at *
    clear hee
    generalize hoe : oo.err = er at *
    have HOE := Lib.hid hoe; clear hoe
    go_wp2_with fail
    refine bodyPost_ret (v := .tuple #[.agg #[.int .i64 s.qty, .int .i64 s.val, .int .i64 s.price, .slice bl nl cl2, .slice bp np cp2], .agg #[.int .i64 0, .int .i64 c1, .int .i64 c2, .int .i64 c3], .int .i64 er]) (by simp [results, Tryd.results39, go_sem, *]) rfl ?_
    rw [HE.out]
    exact rpost_pass HOE.out HB.out HB0.out (by rw [HS.out]; omega) lgl lgp HCH.out HOK.out _ _ _ _ _ _ _ _ _
  · have HE := Lib.hid (show (doM s m).err = 10 by unfold doM; rw [if_neg (by omega), if_neg (by omega), if_neg (by omega), if_neg (by omega), if_neg (by omega)]; rfl)
    have t1 : (m.kind == 1) = false := by rw [hk]; rfl
    have t2 : (m.kind == 2) = false := by rw [hk]; rfl
    have t3 : (m.kind == 3) = false := by rw [hk]; rfl
    have t4 : (m.kind == 4) = false := by rw [hk]; rfl
    have t5 : (m.kind == 5) = false := by rw [hk]; rfl
    clear hk
    have z0 : W.cell? ⟨b0 + 2, 0, none⟩ = some (.int .i64 0) := by rw [HF.out.z.cell]; rfl
    have z1 : W.cell? ⟨b0 + 2, 1, none⟩ = some (.int .i64 0) := by rw [HF.out.z.cell]; rfl
    have z2 : W.cell? ⟨b0 + 2, 2, none⟩ = some (.int .i64 0) := by rw [HF.out.z.cell]; rfl
    have z3 : W.cell? ⟨b0 + 2, 3, none⟩ = some (.slice none 0 0) := by rw [HF.out.z.cell]; rfl
    have z4 : W.cell? ⟨b0 + 2, 4, none⟩ = some (.slice none 0 0) := by rw [HF.out.z.cell]; rfl
    have y0 : W.cell? ⟨b0 + 3, 0, none⟩ = some (.int .i64 0) := by rw [HF.out.c.cell]; rfl
    have y1 : W.cell? ⟨b0 + 3, 1, none⟩ = some (.int .i64 0) := by rw [HF.out.c.cell]; rfl
    have y2 : W.cell? ⟨b0 + 3, 2, none⟩ = some (.int .i64 0) := by rw [HF.out.c.cell]; rfl
    have y3 : W.cell? ⟨b0 + 3, 3, none⟩ = some (.int .i64 0) := by rw [HF.out.c.cell]; rfl
    have fz := fun o => HF.out.z.frozen o
    have fy := fun o => HF.out.c.frozen o
    go_wp2_with fail
    refine bodyPost_ret (v := .tuple #[.agg #[.int .i64 s.qty, .int .i64 s.val, .int .i64 s.price, sl gl s.lays.length cl, sl gp s.psts.length cp], .agg #[.int .i64 0, .int .i64 0, .int .i64 0, .int .i64 0], .int .i64 10]) (by simp [results, Tryd.results39, go_sem, *]) rfl ?_
    exact rpost_err HE.out (by decide) HB.out HB0.out _ _ _ _ _ _ _ _ _
end Go.Proofs.YtboiipkbhbbgfaaDoor
