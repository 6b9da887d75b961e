/- The reference's back and send. -/
import Derived.Test.YtboiipkbhbbgfaaDoorWc
import Derived.Test.YtboiipkbhbbgfaaDoorJ4
namespace Go.Proofs.YtboiipkbhbbgfaaDoor
open Go.RowKit

/-- the frame of a reference's function on a stock and a movement: its four variables, the rows of the stock -/
structure RF (w : World) (b0 gl gp cl cp : Nat) (s : Stk) (m : Mov) (kl kp : Array Value) : Prop where
  x : Blk w b0 32 #[.int .i64 s.qty, .int .i64 s.val, .int .i64 s.price, sl gl s.lays.length cl, sl gp s.psts.length cp]
  m : Blk w (b0 + 1) 38 (mCells m)
  z : Blk w (b0 + 2) 32 stkZ
  c : Blk w (b0 + 3) 34 cstZ
  l : LRow w gl cl s.lays kl
  p : PRow w gp cp s.psts kp
  lg : gl < b0 ∨ b0 + 4 ≤ gl
  pg : gp < b0 ∨ b0 + 4 ≤ gp
theorem RF.below {w w' : World} {b0 gl gp cl cp : Nat} {s : Stk} {m : Mov} {kl kp : Array Value} (h : RF w b0 gl gp cl cp s m kl kp) (hb : Below w.heap.size w w') : RF w' b0 gl gp cl cp s m kl kp :=
  ⟨h.x.below' hb, h.m.below' hb, h.z.below' hb, h.c.below' hb, h.l.of_blk (h.l.blk.below' hb), h.p.of_blk (h.p.blk.below' hb), h.lg, h.pg⟩
theorem RF.drew {w : World} {b0 gl gp cl cp : Nat} {s : Stk} {m : Mov} {kl kp : Array Value} (h : RF w b0 gl gp cl cp s m kl kp) : RF w.drew b0 gl gp cl cp s m kl kp := h.below ((Below.refl _ _).drew)
theorem RF.setp {w : World} {b0 gl gp cl cp : Nat} {s : Stk} {m : Mov} {kl kp : Array Value} (h : RF w b0 gl gp cl cp s m kl kp) (lp : gl ≠ gp) (i j : Nat) (v : Value) (p' : Pst) (hi : i < s.psts.length) (hj : j < 7) (hv : (s.psts.getD i zPst).cs.set j v = p'.cs) :
    RF (w.setCell ⟨gp, i * 7 + j, none⟩ v) b0 gl gp cl cp { s with psts := s.psts.set i p' } m kl (kp.setIfInBounds (i * 7 + j) v) := by
  obtain ⟨x, hm, z, c, l, p, lg, pg⟩ := h
  have n : gp ≠ b0 := by omega
  refine ⟨?_, hm.set_other _ (by simp; omega), z.set_other _ (by simp; omega), c.set_other _ (by simp; omega), l.of_blk (l.blk.set_other _ (Ne.symm lp)), ?_, lg, pg⟩
  · have := x.set_other (a := ⟨gp, i * 7 + j, none⟩) v n; simpa using this
  · have := p.set (i * 7 + j) v
    rw [pstsC_set s.psts i j v p' hi hj hv] at this
    simpa [PRow] using this
theorem RF.setl {w : World} {b0 gl gp cl cp : Nat} {s : Stk} {m : Mov} {kl kp : Array Value} (h : RF w b0 gl gp cl cp s m kl kp) (lp : gl ≠ gp) (i j : Nat) (v : Value) (l' : Lay) (hi : i < s.lays.length) (hj : j < 4) (hv : (s.lays.getD i zLay).cs.set j v = l'.cs) :
    RF (w.setCell ⟨gl, i * 4 + j, none⟩ v) b0 gl gp cl cp { s with lays := s.lays.set i l' } m (kl.setIfInBounds (i * 4 + j) v) kp := by
  obtain ⟨x, hm, z, c, l, p, lg, pg⟩ := h
  have n : gl ≠ b0 := by omega
  refine ⟨?_, hm.set_other _ (by simp; omega), z.set_other _ (by simp; omega), c.set_other _ (by simp; omega), ?_, p.of_blk (p.blk.set_other _ lp), lg, pg⟩
  · have := x.set_other (a := ⟨gl, i * 4 + j, none⟩) v n; simpa using this
  · have := l.set (i * 4 + j) v
    rw [laysC_set s.lays i j v l' hi hj hv] at this
    simpa [LRow] using this

theorem RF.newl {w w1 : World} {b0 gl gp cl cp g1 c1 : Nat} {s : Stk} {m : Mov} {kl kp k1 : Array Value} {ls' : List Lay} (h : RF w b0 gl gp cl cp s m kl kp) (lp : gl ≠ gp) (hc : Chg [gl] w w1) (hr : LRow w1 g1 c1 ls' k1) (hat : g1 = gl ∨ w.heap.size ≤ g1) (hs : b0 + 4 ≤ w.heap.size) :
    RF (w1.setCell ⟨b0, 3, none⟩ (sl g1 ls'.length c1)) b0 g1 gp c1 cp { s with lays := ls' } m k1 kp ∧ g1 ≠ gp := by
  obtain ⟨x, hm, z, c, l, p, lg, pg⟩ := h
  have h1 := p.blk.lt
  refine ⟨⟨?_, (hm.chg hc (by simp; omega)).set_other _ (by simp), (z.chg hc (by simp; omega)).set_other _ (by simp), (c.chg hc (by simp; omega)).set_other _ (by simp), hr.of_blk (hr.blk.set_other _ (by simp; omega)), p.of_blk ((p.blk.chg hc (by simp; omega)).set_other _ (by simp; omega)), by omega, pg⟩, by omega⟩
  have := (x.chg hc (by simp; omega)).set 3 (sl g1 ls'.length c1)
  simpa using this
theorem RF.newp {w w1 : World} {b0 gl gp cl cp g1 c1 : Nat} {s : Stk} {m : Mov} {kl kp k1 : Array Value} {ps' : List Pst} (h : RF w b0 gl gp cl cp s m kl kp) (lp : gl ≠ gp) (hc : Chg [gp] w w1) (hr : PRow w1 g1 c1 ps' k1) (hat : g1 = gp ∨ w.heap.size ≤ g1) (hs : b0 + 4 ≤ w.heap.size) :
    RF (w1.setCell ⟨b0, 4, none⟩ (sl g1 ps'.length c1)) b0 gl g1 cl c1 { s with psts := ps' } m kl k1 ∧ gl ≠ g1 := by
  obtain ⟨x, hm, z, c, l, p, lg, pg⟩ := h
  have h1 := l.blk.lt
  refine ⟨⟨?_, (hm.chg hc (by simp; omega)).set_other _ (by simp), (z.chg hc (by simp; omega)).set_other _ (by simp), (c.chg hc (by simp; omega)).set_other _ (by simp), l.of_blk ((l.blk.chg hc (by simp; omega)).set_other _ (by simp; omega)), hr.of_blk (hr.blk.set_other _ (by simp; omega)), lg, by omega⟩, by omega⟩
  have := (x.chg hc (by simp; omega)).set 4 (sl g1 ps'.length c1)
  simpa using this
/-- an element to be appended, read out of the block in which it was built -/
theorem rd_one (w : World) (e : TypeId) (k : Nat) (xs : List Value) (hk : xs.length = k) : Rd (w.alloc (.cells xs.toArray e)).drew k (.slice (some ⟨w.heap.size, 0, none⟩) 1 1) 1 xs := by
  refine ⟨by simpa using hk, .inr ⟨_, 1, rfl, fun j u hu => ?_⟩⟩
  have hadd : (⟨w.heap.size, 0, none⟩ : Addr).add j = ⟨w.heap.size, j, none⟩ := by unfold Addr.add; split <;> simp_all
  rw [hadd, ((Blk.new w e xs.toArray).drew).cell]
  simpa using hu

/-- what the reference's moves return: the stock that they were given but for its rows, the costs, the error -/
def RPost (s : Stk) (o : Out) (gl gp : Nat) (w : World) (e : Ending) (w' : World) : Prop :=
  ∃ bl nl cl bp np cp c1 c2 c3, e = .returned (.tuple #[.agg #[.int .i64 s.qty, .int .i64 s.val, .int .i64 s.price, .slice bl nl cl, .slice bp np cp], .agg #[.int .i64 0, .int .i64 c1, .int .i64 c2, .int .i64 c3], .int .i64 o.err]) ∧ Chg [gl, gp] w w' ∧
    (o.err = 0 → c1 = o.cst.qty ∧ c2 = o.cst.val ∧ c3 = o.cst.var ∧ ∃ g1 k1 g2 k2, bl = some ⟨g1, 0, none⟩ ∧ nl = o.lays.length ∧ bp = some ⟨g2, 0, none⟩ ∧ np = o.psts.length ∧ LRow w' g1 cl o.lays k1 ∧ PRow w' g2 cp o.psts k2 ∧ g1 ≠ g2 ∧ (g1 = gl ∨ w.heap.size ≤ g1) ∧ (g2 = gp ∨ w.heap.size ≤ g2))
theorem rpost_ok {s s2 : Stk} {o : Out} {gl gp b0 g1 g2 c1 c2 : Nat} {w W W2 : World} {m : Mov} {k1 k2 : Array Value} (F : RF W b0 g1 g2 c1 c2 s2 m k1 k2) (hc : Chg [gl, gp] w W2) (hl : s2.lays = o.lays) (hp : s2.psts = o.psts) (he : o.err = 0) (hne : g1 ≠ g2) (h1 : g1 = gl ∨ w.heap.size ≤ g1) (h2 : g2 = gp ∨ w.heap.size ≤ g2)
    (hk : ∀ g e cur, g ≠ b0 + 2 → g ≠ b0 + 3 → Blk W g e cur → Blk W2 g e cur) {q v r : Int} (hq : q = o.cst.qty) (hv : v = o.cst.val) (hr : r = o.cst.var) {nl np : Nat} (hnl : nl = s2.lays.length) (hnp : np = s2.psts.length) :
    RPost s o gl gp w (.returned (.tuple #[.agg #[.int .i64 s.qty, .int .i64 s.val, .int .i64 s.price, sl g1 nl c1, sl g2 np c2], .agg #[.int .i64 0, .int .i64 q, .int .i64 v, .int .i64 r], .int .i64 0])) W2 := by
  have a := F.lg
  have b := F.pg
  refine ⟨_, _, c1, _, _, c2, q, v, r, by rw [he], hc, fun _ => ⟨hq, hv, hr, g1, k1, g2, k2, rfl, by rw [hnl, hl], rfl, by rw [hnp, hp], ?_, ?_, hne, h1, h2⟩⟩
  · rw [← hl]; exact F.l.of_blk (hk _ _ _ (by omega) (by omega) F.l.blk)
  · rw [← hp]; exact F.p.of_blk (hk _ _ _ (by omega) (by omega) F.p.blk)
theorem rpost_err {s : Stk} {o : Out} {gl gp b0 : Nat} {w W : World} {bl : Option Addr} {nl cl : Nat} {bp : Option Addr} {np cp : Nat} {er : Int} (ho : o.err = er) (hne : ¬ er = 0) (hb : Below b0 w W) (h0 : w.heap.size = b0) (q v p vl vp c0 c1 c2 c3 : Value) :
    RPost s o gl gp w (.returned (.tuple #[.agg #[.int .i64 s.qty, .int .i64 s.val, .int .i64 s.price, .slice bl nl cl, .slice bp np cp], .agg #[.int .i64 0, .int .i64 0, .int .i64 0, .int .i64 0], .int .i64 er])) (set4 (set5 W (b0 + 2) q v p vl vp) (b0 + 3) c0 c1 c2 c3) := by
  subst h0
  refine ⟨bl, nl, cl, bp, np, cp, 0, 0, 0, by rw [ho], ?_, fun h => absurd (ho ▸ h) hne⟩
  exact ((Chg.of_below [gl, gp] hb).trans (T := [w.heap.size + 2]) (set5_chg _ _ _ _ _ _ _) (by simp)).trans (T := [w.heap.size + 3]) (set4_chg _ _ _ _ _ _) (by simp)

set_option maxRecDepth 100000 in
set_option maxHeartbeats 8000000 in
theorem rback_any (s : Stk) (m : Mov) (gl gp cl cp : Nat) (kl kp : Array Value) (w : World) (hl : LRow w gl cl s.lays kl) (hp : PRow w gp cp s.psts kp) (lp : gl ≠ gp) (hn : s.lays.length ≤ 900) (hnp : s.psts.length ≤ 900)
    (hG : Good s) (hk : m.kind = 3) (q0 : 1 ≤ m.qty) (_q1 : m.qty ≤ 1000000000) :
    Calls Tryd.prog 70 #[.agg #[.int .i64 s.qty, .int .i64 s.val, .int .i64 s.price, sl gl s.lays.length cl, sl gp s.psts.length cp], m.v] w (RPost s (backM s m) gl gp w) := by
  obtain ⟨i0, hi0, hz0, hz1, hz2⟩ := info_parts Tryd.info44
  have HK := Lib.hid hk; clear hk
  have hb : Below w.heap.size w ((((w.alloc (.cells #[.int .i64 s.qty, .int .i64 s.val, .int .i64 s.price, sl gl s.lays.length cl, sl gp s.psts.length cp] 32)).alloc (.cells (mCells m) 38)).alloc (.cells stkZ 32)).alloc (.cells cstZ 34)) := ((((Below.refl _ _).alloc (Nat.le_refl _) _).alloc (by simp) _).alloc (by simp; omega) _).alloc (by simp; omega) _
  have hA : Blk ((((w.alloc (.cells #[.int .i64 s.qty, .int .i64 s.val, .int .i64 s.price, sl gl s.lays.length cl, sl gp s.psts.length cp] 32)).alloc (.cells (mCells m) 38)).alloc (.cells stkZ 32)).alloc (.cells cstZ 34)) w.heap.size 32 #[.int .i64 s.qty, .int .i64 s.val, .int .i64 s.price, sl gl s.lays.length cl, sl gp s.psts.length cp] := (((Blk.new _ _ _).alloc _).alloc _).alloc _
  have hM : Blk ((((w.alloc (.cells #[.int .i64 s.qty, .int .i64 s.val, .int .i64 s.price, sl gl s.lays.length cl, sl gp s.psts.length cp] 32)).alloc (.cells (mCells m) 38)).alloc (.cells stkZ 32)).alloc (.cells cstZ 34)) (w.heap.size + 1) 38 (mCells m) := ((Blk.new2 _ _ _ _).alloc _).alloc _
  have hZ : Blk ((((w.alloc (.cells #[.int .i64 s.qty, .int .i64 s.val, .int .i64 s.price, sl gl s.lays.length cl, sl gp s.psts.length cp] 32)).alloc (.cells (mCells m) 38)).alloc (.cells stkZ 32)).alloc (.cells cstZ 34)) (w.heap.size + 2) 32 stkZ := by
    have := (Blk.new ((w.alloc (.cells #[.int .i64 s.qty, .int .i64 s.val, .int .i64 s.price, sl gl s.lays.length cl, sl gp s.psts.length cp] 32)).alloc (.cells (mCells m) 38)) 32 stkZ).alloc (.cells cstZ 34)
    simpa using this
  have hC : Blk ((((w.alloc (.cells #[.int .i64 s.qty, .int .i64 s.val, .int .i64 s.price, sl gl s.lays.length cl, sl gp s.psts.length cp] 32)).alloc (.cells (mCells m) 38)).alloc (.cells stkZ 32)).alloc (.cells cstZ 34)) (w.heap.size + 3) 34 cstZ := by
    have := Blk.new (((w.alloc (.cells #[.int .i64 s.qty, .int .i64 s.val, .int .i64 s.price, sl gl s.lays.length cl, sl gp s.psts.length cp] 32)).alloc (.cells (mCells m) 38)).alloc (.cells stkZ 32)) 34 cstZ
    simpa using this
  have hs : ((((w.alloc (.cells #[.int .i64 s.qty, .int .i64 s.val, .int .i64 s.price, sl gl s.lays.length cl, sl gp s.psts.length cp] 32)).alloc (.cells (mCells m) 38)).alloc (.cells stkZ 32)).alloc (.cells cstZ 34)).heap.size = w.heap.size + 4 := by simp
  have lgl := hl.blk.lt
  have lgp := hp.blk.lt
  have hrow := hl.of_blk (hl.blk.below' hb)
  have hprow := hp.of_blk (hp.blk.below' hb)
  go_enter Tryd.func70, Tryd.ntmps70
  go_upto_region 1 with fail
  generalize ((((w.alloc (.cells #[.int .i64 s.qty, .int .i64 s.val, .int .i64 s.price, sl gl s.lays.length cl, sl gp s.psts.length cp] 32)).alloc (.cells (mCells m) 38)).alloc (.cells stkZ 32)).alloc (.cells cstZ 34)) = W at *
  have a0 : W.cell? ⟨w.heap.size, 0, none⟩ = some (.int .i64 s.qty) := by rw [hA.cell]; rfl
  have a1 : W.cell? ⟨w.heap.size, 1, none⟩ = some (.int .i64 s.val) := by rw [hA.cell]; rfl
  have a2 : W.cell? ⟨w.heap.size, 2, none⟩ = some (.int .i64 s.price) := by rw [hA.cell]; rfl
  have a3 : W.cell? ⟨w.heap.size, 3, none⟩ = some (sl gl s.lays.length cl) := by rw [hA.cell]; rfl
  have a4 : W.cell? ⟨w.heap.size, 4, none⟩ = some (sl gp s.psts.length cp) := by rw [hA.cell]; rfl
  have m0 : W.cell? ⟨w.heap.size + 1, 0, none⟩ = some (.int .i64 m.seq) := by rw [hM.cell]; rfl
  have m1 : W.cell? ⟨w.heap.size + 1, 1, none⟩ = some (.int .i64 m.value) := by rw [hM.cell]; rfl
  have m2 : W.cell? ⟨w.heap.size + 1, 2, none⟩ = some (.string m.item) := by rw [hM.cell]; rfl
  have m3 : W.cell? ⟨w.heap.size + 1, 3, none⟩ = some (.int .i64 m.kind) := by rw [hM.cell]; rfl
  have m4 : W.cell? ⟨w.heap.size + 1, 4, none⟩ = some (.int .i64 m.qty) := by rw [hM.cell]; rfl
  have m5 : W.cell? ⟨w.heap.size + 1, 5, none⟩ = some (.int .i64 m.cost) := by rw [hM.cell]; rfl
  have m6 : W.cell? ⟨w.heap.size + 1, 6, none⟩ = some (.string m.lot) := by rw [hM.cell]; rfl
  have m7 : W.cell? ⟨w.heap.size + 1, 7, none⟩ = some (.int .i64 m.ref) := by rw [hM.cell]; rfl
  have hF : RF W w.heap.size gl gp cl cp s m kl kp := ⟨hA, hM, hZ, hC, hrow, hprow, .inl (by omega), .inl (by omega)⟩
  have HF := Lib.hid hF; have HB := Lib.hid hb; have HS := Lib.hid hs; clear hA hM hZ hC hs hrow hprow hF hb
  generalize hb0 : w.heap.size = b0 at *
  have HB0 := Lib.hid hb0; clear hb0
  have HG := Lib.hid hG; clear hG
  have hret := rret_any s m 2 (some ⟨gl, 0, none⟩) s.lays.length cl (some ⟨gp, 0, none⟩) cp W (.inr ⟨gp, cp, kp, rfl, Nat.zero_le _, HF.out.p⟩) hnp (by rw [HK.out]; rfl)
  by_cases h1 : s.psts.length ≤ findM 2 m.ref s.psts
  · have HE := Lib.hid (show (backM s m).err = 28 by unfold backM; rw [if_pos h1]; rfl)
    rw [show retM 2 s m = (0, 28) by unfold retM; rw [if_pos h1]] at hret
    clear h1
    go_wp2_with fail
    refine hret.mono ?_; rintro e w1 ⟨rfl, hb1⟩
    have hF1 := HF.out.below hb1
    have hbw := HB.out.trans (hb1.mono (by have := HS.out; omega))
    have a0 : w1.cell? ⟨b0, 0, none⟩ = some (.int .i64 s.qty) := by rw [hF1.x.cell]; rfl
    have a1 : w1.cell? ⟨b0, 1, none⟩ = some (.int .i64 s.val) := by rw [hF1.x.cell]; rfl
    have a2 : w1.cell? ⟨b0, 2, none⟩ = some (.int .i64 s.price) := by rw [hF1.x.cell]; rfl
    have a3 : w1.cell? ⟨b0, 3, none⟩ = some (sl gl s.lays.length cl) := by rw [hF1.x.cell]; rfl
    have a4 : w1.cell? ⟨b0, 4, none⟩ = some (sl gp s.psts.length cp) := by rw [hF1.x.cell]; rfl
    have z0 : w1.cell? ⟨b0 + 2, 0, none⟩ = some (.int .i64 0) := by rw [hF1.z.cell]; rfl
    have z1 : w1.cell? ⟨b0 + 2, 1, none⟩ = some (.int .i64 0) := by rw [hF1.z.cell]; rfl
    have z2 : w1.cell? ⟨b0 + 2, 2, none⟩ = some (.int .i64 0) := by rw [hF1.z.cell]; rfl
    have z3 : w1.cell? ⟨b0 + 2, 3, none⟩ = some (.slice none 0 0) := by rw [hF1.z.cell]; rfl
    have z4 : w1.cell? ⟨b0 + 2, 4, none⟩ = some (.slice none 0 0) := by rw [hF1.z.cell]; rfl
    have y0 : w1.cell? ⟨b0 + 3, 0, none⟩ = some (.int .i64 0) := by rw [hF1.c.cell]; rfl
    have y1 : w1.cell? ⟨b0 + 3, 1, none⟩ = some (.int .i64 0) := by rw [hF1.c.cell]; rfl
    have y2 : w1.cell? ⟨b0 + 3, 2, none⟩ = some (.int .i64 0) := by rw [hF1.c.cell]; rfl
    have y3 : w1.cell? ⟨b0 + 3, 3, none⟩ = some (.int .i64 0) := by rw [hF1.c.cell]; rfl
    have fz := fun o => hF1.z.frozen o
    have fy := fun o => hF1.c.frozen o
    have HBW := Lib.hid hbw; clear hb1 hF1 hbw
    go_wp2_with fail
    refine bodyPost_ret (v := .tuple #[.agg #[.int .i64 s.qty, .int .i64 s.val, .int .i64 s.price, sl gl s.lays.length cl, sl gp s.psts.length cp], .agg #[.int .i64 0, .int .i64 0, .int .i64 0, .int .i64 0], .int .i64 28]) (by simp [results, Tryd.results70, go_sem, *]) rfl ?_
    exact rpost_err HE.out (by decide) HBW.out HB0.out _ _ _ _ _ _ _ _ _
  · by_cases h2 : wrap64 ((s.psts.getD (findM 2 m.ref s.psts) zPst).qty - (s.psts.getD (findM 2 m.ref s.psts) zPst).used) < m.qty
    · have HE := Lib.hid (show (backM s m).err = 21 by unfold backM; rw [if_neg h1, if_pos h2]; rfl)
      rw [show retM 2 s m = (0, 21) by unfold retM; rw [if_neg h1, if_pos h2]] at hret
      clear h1 h2
      go_wp2_with fail
      refine hret.mono ?_; rintro e w1 ⟨rfl, hb1⟩
      have hF1 := HF.out.below hb1
      have hbw := HB.out.trans (hb1.mono (by have := HS.out; omega))
      have a0 : w1.cell? ⟨b0, 0, none⟩ = some (.int .i64 s.qty) := by rw [hF1.x.cell]; rfl
      have a1 : w1.cell? ⟨b0, 1, none⟩ = some (.int .i64 s.val) := by rw [hF1.x.cell]; rfl
      have a2 : w1.cell? ⟨b0, 2, none⟩ = some (.int .i64 s.price) := by rw [hF1.x.cell]; rfl
      have a3 : w1.cell? ⟨b0, 3, none⟩ = some (sl gl s.lays.length cl) := by rw [hF1.x.cell]; rfl
      have a4 : w1.cell? ⟨b0, 4, none⟩ = some (sl gp s.psts.length cp) := by rw [hF1.x.cell]; rfl
      have z0 : w1.cell? ⟨b0 + 2, 0, none⟩ = some (.int .i64 0) := by rw [hF1.z.cell]; rfl
      have z1 : w1.cell? ⟨b0 + 2, 1, none⟩ = some (.int .i64 0) := by rw [hF1.z.cell]; rfl
      have z2 : w1.cell? ⟨b0 + 2, 2, none⟩ = some (.int .i64 0) := by rw [hF1.z.cell]; rfl
      have z3 : w1.cell? ⟨b0 + 2, 3, none⟩ = some (.slice none 0 0) := by rw [hF1.z.cell]; rfl
      have z4 : w1.cell? ⟨b0 + 2, 4, none⟩ = some (.slice none 0 0) := by rw [hF1.z.cell]; rfl
      have y0 : w1.cell? ⟨b0 + 3, 0, none⟩ = some (.int .i64 0) := by rw [hF1.c.cell]; rfl
      have y1 : w1.cell? ⟨b0 + 3, 1, none⟩ = some (.int .i64 0) := by rw [hF1.c.cell]; rfl
      have y2 : w1.cell? ⟨b0 + 3, 2, none⟩ = some (.int .i64 0) := by rw [hF1.c.cell]; rfl
      have y3 : w1.cell? ⟨b0 + 3, 3, none⟩ = some (.int .i64 0) := by rw [hF1.c.cell]; rfl
      have fz := fun o => hF1.z.frozen o
      have fy := fun o => hF1.c.frozen o
      have HBW := Lib.hid hbw; clear hb1 hF1 hbw
      go_wp2_with fail
      refine bodyPost_ret (v := .tuple #[.agg #[.int .i64 s.qty, .int .i64 s.val, .int .i64 s.price, sl gl s.lays.length cl, sl gp s.psts.length cp], .agg #[.int .i64 0, .int .i64 0, .int .i64 0, .int .i64 0], .int .i64 21]) (by simp [results, Tryd.results70, go_sem, *]) rfl ?_
      exact rpost_err HE.out (by decide) HBW.out HB0.out _ _ _ _ _ _ _ _ _
    · rw [show retM 2 s m = (((findM 2 m.ref s.psts : Nat) : Int), (0 : Int)) by unfold retM; rw [if_neg h1, if_neg h2]] at hret
      have hE := show backM s m = ⟨0, s.lays ++ [⟨m.seq, (s.psts.getD (findM 2 m.ref s.psts) zPst).lot, m.qty, partM (wrap64 ((s.psts.getD (findM 2 m.ref s.psts) zPst).val - (s.psts.getD (findM 2 m.ref s.psts) zPst).uval)) m.qty (wrap64 ((s.psts.getD (findM 2 m.ref s.psts) zPst).qty - (s.psts.getD (findM 2 m.ref s.psts) zPst).used))⟩], s.psts.set (findM 2 m.ref s.psts) { s.psts.getD (findM 2 m.ref s.psts) zPst with used := wrap64 ((s.psts.getD (findM 2 m.ref s.psts) zPst).used + m.qty), uval := wrap64 ((s.psts.getD (findM 2 m.ref s.psts) zPst).uval + partM (wrap64 ((s.psts.getD (findM 2 m.ref s.psts) zPst).val - (s.psts.getD (findM 2 m.ref s.psts) zPst).uval)) m.qty (wrap64 ((s.psts.getD (findM 2 m.ref s.psts) zPst).qty - (s.psts.getD (findM 2 m.ref s.psts) zPst).used))) }, ⟨m.seq, m.qty, partM (wrap64 ((s.psts.getD (findM 2 m.ref s.psts) zPst).val - (s.psts.getD (findM 2 m.ref s.psts) zPst).uval)) m.qty (wrap64 ((s.psts.getD (findM 2 m.ref s.psts) zPst).qty - (s.psts.getD (findM 2 m.ref s.psts) zPst).used)), 0⟩⟩ by unfold backM; rw [if_neg h1, if_neg h2]
      have hlt : findM 2 m.ref s.psts < s.psts.length := by omega
      generalize findM 2 m.ref s.psts = k at *
      have hgp := HG.out.p _ (getD_mem zPst s.psts k hlt)
      generalize hP : s.psts.getD k zPst = P at *
      have HP := Lib.hid hP; clear hP h1
      have hsub : wrap64 (P.qty - P.used) = P.qty - P.used := by obtain ⟨_, b1, b2, b3, b4, _⟩ := hgp; exact w_id _ (by omega) (by omega)
      have hshare := fun w => rshare_any P m.qty w hgp q0 (by rw [hsub] at h2; omega)
      clear hsub h2 hgp
      generalize partM (wrap64 (P.val - P.uval)) m.qty (wrap64 (P.qty - P.used)) = v at *
      have HE := Lib.hid hE; clear hE
      have j0 : (0 : Int) ≤ (k : Int) := by omega
      have j1 : (k : Int) < (s.psts.length : Int) := by omega
      go_wp2_with fail
      refine hret.mono ?_; rintro e w1 ⟨rfl, hb1⟩
      have hF1 := HF.out.below hb1
      have hbw := HB.out.trans (hb1.mono (by have := HS.out; omega))
      have hsz := hb1.size
      rw [HS.out] at hsz
      have a0 : w1.cell? ⟨b0, 0, none⟩ = some (.int .i64 s.qty) := by rw [hF1.x.cell]; rfl
      have a1 : w1.cell? ⟨b0, 1, none⟩ = some (.int .i64 s.val) := by rw [hF1.x.cell]; rfl
      have a2 : w1.cell? ⟨b0, 2, none⟩ = some (.int .i64 s.price) := by rw [hF1.x.cell]; rfl
      have a3 : w1.cell? ⟨b0, 3, none⟩ = some (sl gl s.lays.length cl) := by rw [hF1.x.cell]; rfl
      have a4 : w1.cell? ⟨b0, 4, none⟩ = some (sl gp s.psts.length cp) := by rw [hF1.x.cell]; rfl
      have m0 : w1.cell? ⟨b0 + 1, 0, none⟩ = some (.int .i64 m.seq) := by rw [hF1.m.cell]; rfl
      have m1 : w1.cell? ⟨b0 + 1, 1, none⟩ = some (.int .i64 m.value) := by rw [hF1.m.cell]; rfl
      have m2 : w1.cell? ⟨b0 + 1, 2, none⟩ = some (.string m.item) := by rw [hF1.m.cell]; rfl
      have m3 : w1.cell? ⟨b0 + 1, 3, none⟩ = some (.int .i64 m.kind) := by rw [hF1.m.cell]; rfl
      have m4 : w1.cell? ⟨b0 + 1, 4, none⟩ = some (.int .i64 m.qty) := by rw [hF1.m.cell]; rfl
      have m5 : w1.cell? ⟨b0 + 1, 5, none⟩ = some (.int .i64 m.cost) := by rw [hF1.m.cell]; rfl
      have m6 : w1.cell? ⟨b0 + 1, 6, none⟩ = some (.string m.lot) := by rw [hF1.m.cell]; rfl
      have m7 : w1.cell? ⟨b0 + 1, 7, none⟩ = some (.int .i64 m.ref) := by rw [hF1.m.cell]; rfl
      obtain ⟨p0, p1, p2, p3, p4, p5, p6⟩ := hF1.p.pst k hlt
      rw [HP.out] at p0 p1 p2 p3 p4 p5 p6
      have HBW := Lib.hid hbw; have HF1 := Lib.hid hF1; clear hb1 hF1 hbw
      go_wp2_with fail
      have r4 := cell_regrown a4
      have r1 := cell_regrown m4
      have t0 := cell_regrown p0
      have t1 := cell_regrown p1
      have t2 := cell_regrown p2
      have t3 := cell_regrown p3
      have t4 := cell_regrown p4
      have t5 := cell_regrown p5
      have t6 := cell_regrown p6
      refine wp_region_quiet_below (by kernel_rfl) (by kernel_rfl) ?_
      repeat (quiet_step (exact Calls.regrown_of (hshare _)))
      refine wpQuiet_nil ?_
      intro w2 hw'
      have hb2 : Below w1.heap.size w1 w2 := by obtain ⟨⟨dq, osq⟩, rfl⟩ := hw'; exact below_regrown w1 dq osq
      clear hw' r4 r1 t0 t1 t2 t3 t4 t5 t6
      have hF2 := HF1.out.below hb2
      have hbw2 := HBW.out.trans (hb2.mono (by omega))
      have hsz2 := hb2.size
      have a0 : w2.cell? ⟨b0, 0, none⟩ = some (.int .i64 s.qty) := by rw [hF2.x.cell]; rfl
      have a1 : w2.cell? ⟨b0, 1, none⟩ = some (.int .i64 s.val) := by rw [hF2.x.cell]; rfl
      have a2 : w2.cell? ⟨b0, 2, none⟩ = some (.int .i64 s.price) := by rw [hF2.x.cell]; rfl
      have a3 : w2.cell? ⟨b0, 3, none⟩ = some (sl gl s.lays.length cl) := by rw [hF2.x.cell]; rfl
      have a4 : w2.cell? ⟨b0, 4, none⟩ = some (sl gp s.psts.length cp) := by rw [hF2.x.cell]; rfl
      have m0 : w2.cell? ⟨b0 + 1, 0, none⟩ = some (.int .i64 m.seq) := by rw [hF2.m.cell]; rfl
      have m1 : w2.cell? ⟨b0 + 1, 1, none⟩ = some (.int .i64 m.value) := by rw [hF2.m.cell]; rfl
      have m2 : w2.cell? ⟨b0 + 1, 2, none⟩ = some (.string m.item) := by rw [hF2.m.cell]; rfl
      have m3 : w2.cell? ⟨b0 + 1, 3, none⟩ = some (.int .i64 m.kind) := by rw [hF2.m.cell]; rfl
      have m4 : w2.cell? ⟨b0 + 1, 4, none⟩ = some (.int .i64 m.qty) := by rw [hF2.m.cell]; rfl
      have m5 : w2.cell? ⟨b0 + 1, 5, none⟩ = some (.int .i64 m.cost) := by rw [hF2.m.cell]; rfl
      have m6 : w2.cell? ⟨b0 + 1, 6, none⟩ = some (.string m.lot) := by rw [hF2.m.cell]; rfl
      have m7 : w2.cell? ⟨b0 + 1, 7, none⟩ = some (.int .i64 m.ref) := by rw [hF2.m.cell]; rfl
      obtain ⟨p0, p1, p2, p3, p4, p5, p6⟩ := hF2.p.pst k hlt
      rw [HP.out] at p0 p1 p2 p3 p4 p5 p6
      have fp := fun o => hF2.p.blk.frozen o
      have HBW2 := Lib.hid hbw2; have HF2 := Lib.hid hF2; clear hb2 hF2 hbw2 HBW HF1
      go_wp2_with fail
      refine still_tail2 14 (by kernel_rfl) (by kernel_rfl) ?_
      simp only [List.take_succ_cons, List.take_zero, List.drop_succ_cons, List.drop_zero]
      repeat still_step
      refine wpStill_nil ?_
      go_wp2_with fail
      have h3 := (HF2.out.setp lp k 5 (.int .i64 (wrap64 (P.used + m.qty))) { P with used := wrap64 (P.used + m.qty) } hlt (by decide) (by rw [HP.out]; rfl)).drew
      have hc3 : Chg [gl, gp] w ((w2.setCell ⟨gp, k * 7 + 5, none⟩ (.int .i64 (wrap64 (P.used + m.qty)))).drew) := ((Chg.of_below _ (by rw [HB0.out]; exact HBW2.out)).set (.inl (by simp)) _).drew
      have hs3 : ((w2.setCell ⟨gp, k * 7 + 5, none⟩ (.int .i64 (wrap64 (P.used + m.qty)))).drew).heap.size = w2.heap.size := by simp
      generalize (w2.setCell ⟨gp, k * 7 + 5, none⟩ (.int .i64 (wrap64 (P.used + m.qty)))).drew = w3 at *
      generalize (kp.setIfInBounds (k * 7 + 5) (.int .i64 (wrap64 (P.used + m.qty)))) = kp3 at *
      obtain ⟨p0, p1, p2, p3, p4, p5, p6⟩ := h3.p.pst k (by simpa using hlt)
      rw [pst_at _ _ _ hlt] at p0 p1 p2 p3 p4 p5 p6
      have a0 : w3.cell? ⟨b0, 0, none⟩ = some (.int .i64 s.qty) := by rw [h3.x.cell]; simp
      have a1 : w3.cell? ⟨b0, 1, none⟩ = some (.int .i64 s.val) := by rw [h3.x.cell]; simp
      have a2 : w3.cell? ⟨b0, 2, none⟩ = some (.int .i64 s.price) := by rw [h3.x.cell]; simp
      have a3 : w3.cell? ⟨b0, 3, none⟩ = some (sl gl s.lays.length cl) := by rw [h3.x.cell]; simp
      have a4 : w3.cell? ⟨b0, 4, none⟩ = some (sl gp s.psts.length cp) := by rw [h3.x.cell]; simp
      have m0 : w3.cell? ⟨b0 + 1, 0, none⟩ = some (.int .i64 m.seq) := by rw [h3.m.cell]; rfl
      have m1 : w3.cell? ⟨b0 + 1, 1, none⟩ = some (.int .i64 m.value) := by rw [h3.m.cell]; rfl
      have m2 : w3.cell? ⟨b0 + 1, 2, none⟩ = some (.string m.item) := by rw [h3.m.cell]; rfl
      have m3 : w3.cell? ⟨b0 + 1, 3, none⟩ = some (.int .i64 m.kind) := by rw [h3.m.cell]; rfl
      have m4 : w3.cell? ⟨b0 + 1, 4, none⟩ = some (.int .i64 m.qty) := by rw [h3.m.cell]; rfl
      have m5 : w3.cell? ⟨b0 + 1, 5, none⟩ = some (.int .i64 m.cost) := by rw [h3.m.cell]; rfl
      have m6 : w3.cell? ⟨b0 + 1, 6, none⟩ = some (.string m.lot) := by rw [h3.m.cell]; rfl
      have m7 : w3.cell? ⟨b0 + 1, 7, none⟩ = some (.int .i64 m.ref) := by rw [h3.m.cell]; rfl
      have fp := fun o => h3.p.blk.frozen o
      have HF3 := Lib.hid h3; have HC3 := Lib.hid hc3; have HS3 := Lib.hid hs3; clear h3 hc3 hs3 HF2 HBW2
      refine still_tail2 13 (by kernel_rfl) (by kernel_rfl) ?_
      simp only [List.take_succ_cons, List.take_zero, List.drop_succ_cons, List.drop_zero]
      repeat still_step
      refine wpStill_nil ?_
      go_wp2_with fail
      have h4 := (HF3.out.setp lp k 6 (.int .i64 (wrap64 (P.uval + v))) { P with used := wrap64 (P.used + m.qty), uval := wrap64 (P.uval + v) } (by simpa using hlt) (by decide) (by rw [pst_at _ _ _ hlt]; rfl)).drew
      simp only [List.set_set] at h4
      have hc4 : Chg [gl, gp] w ((w3.setCell ⟨gp, k * 7 + 6, none⟩ (.int .i64 (wrap64 (P.uval + v)))).drew) := (HC3.out.set (.inl (by simp)) _).drew
      have hs4 : ((w3.setCell ⟨gp, k * 7 + 6, none⟩ (.int .i64 (wrap64 (P.uval + v)))).drew).heap.size = w2.heap.size := by simp [HS3.out]
      generalize (w3.setCell ⟨gp, k * 7 + 6, none⟩ (.int .i64 (wrap64 (P.uval + v)))).drew = w4 at *
      generalize (kp3.setIfInBounds (k * 7 + 6) (.int .i64 (wrap64 (P.uval + v)))) = kp4 at *
      obtain ⟨p0, p1, p2, p3, p4, p5, p6⟩ := h4.p.pst k (by simpa using hlt)
      rw [pst_at _ _ _ hlt] at p0 p1 p2 p3 p4 p5 p6
      have a0 : w4.cell? ⟨b0, 0, none⟩ = some (.int .i64 s.qty) := by rw [h4.x.cell]; simp
      have a1 : w4.cell? ⟨b0, 1, none⟩ = some (.int .i64 s.val) := by rw [h4.x.cell]; simp
      have a2 : w4.cell? ⟨b0, 2, none⟩ = some (.int .i64 s.price) := by rw [h4.x.cell]; simp
      have a3 : w4.cell? ⟨b0, 3, none⟩ = some (sl gl s.lays.length cl) := by rw [h4.x.cell]; simp
      have a4 : w4.cell? ⟨b0, 4, none⟩ = some (sl gp s.psts.length cp) := by rw [h4.x.cell]; simp
      have m0 : w4.cell? ⟨b0 + 1, 0, none⟩ = some (.int .i64 m.seq) := by rw [h4.m.cell]; rfl
      have m1 : w4.cell? ⟨b0 + 1, 1, none⟩ = some (.int .i64 m.value) := by rw [h4.m.cell]; rfl
      have m2 : w4.cell? ⟨b0 + 1, 2, none⟩ = some (.string m.item) := by rw [h4.m.cell]; rfl
      have m3 : w4.cell? ⟨b0 + 1, 3, none⟩ = some (.int .i64 m.kind) := by rw [h4.m.cell]; rfl
      have m4 : w4.cell? ⟨b0 + 1, 4, none⟩ = some (.int .i64 m.qty) := by rw [h4.m.cell]; rfl
      have m5 : w4.cell? ⟨b0 + 1, 5, none⟩ = some (.int .i64 m.cost) := by rw [h4.m.cell]; rfl
      have m6 : w4.cell? ⟨b0 + 1, 6, none⟩ = some (.string m.lot) := by rw [h4.m.cell]; rfl
      have m7 : w4.cell? ⟨b0 + 1, 7, none⟩ = some (.int .i64 m.ref) := by rw [h4.m.cell]; rfl
      have HF4 := Lib.hid h4; have HC4 := Lib.hid hc4; have HS4 := Lib.hid hs4; clear h4 hc4 hs4 HF3 HC3 p0 p1 p3 p4 p5 p6
      have hrw := HF4.out.l.of_blk ((HF4.out.l.blk.alloc (.cells #[.int .i64 m.seq, .string P.lot, .int .i64 m.qty, .int .i64 v] 44)).drew)
      have h4a := HF4.out.below (((Below.refl _ _).alloc (Nat.le_refl _) (.cells #[.int .i64 m.seq, .string P.lot, .int .i64 m.qty, .int .i64 v] 44)).drew)
      have HRW := Lib.hid hrw; have H4A := Lib.hid h4a; clear hrw h4a
      have n3 := World.new_ne w4 _ a3
      have n4 := World.new_ne w4 _ m4
      have n5 := World.new_ne w4 _ p2
      have nl : gl ≠ b0 ∧ gl ≠ b0 + 1 := by have := HF4.out.lg; omega
      have ng : gp ≠ b0 := by have := HF4.out.pg; omega
      have ng' : b0 ≠ gp := by omega
      have lb0 := HF4.out.x.lt
      have lb1 := HF4.out.m.lt
      have lb2 := HF4.out.p.blk.lt
      go_wp2_with fail
      refine wp_region_held_drew (S := (fun w' => w'.cell? ⟨b0 + 1, 0, none⟩ = some (.int .i64 m.seq) ∧ w'.cell? ⟨b0, 4, none⟩ = some (sl gp s.psts.length cp) ∧ w'.cell? ⟨gp, k * 7 + 2, none⟩ = some (.string P.lot) ∧ w'.cell? ⟨b0 + 1, 4, none⟩ = some (.int .i64 m.qty))) (by kernel_rfl) (by (first | (go_keep; done) | ((try go_split_ands); (repeat' apply And.intro) <;> (first | (go_keep; done) | (rw [hchg.cell _ (by simp <;> omega) (by simp <;> omega)]; (first | assumption | (go_keep; done))) | (simp [*, cell_off]; done))))) (fun hHeld => ?_)
      refine wpAnyH_take (i := 0) (v := ?_) rfl (by kernel_rfl) (by kernel_rfl) (by kernel_rfl) (fun _ _ _ h => h) (Or.inl ⟨by rfl, ?_⟩) (by assumption) ?_
      rotate_left
      · (intro w hSw; (try dsimp only at hSw); go_simp)
        (try with_reducible rfl)
      (try simp only [Act.put, List.setIfInBounds_toArray])
      refine wpAnyH_take (i := 2) (v := ?_) rfl (by kernel_rfl) (by kernel_rfl) (by kernel_rfl) (fun _ _ _ h => h) (Or.inl ⟨by rfl, ?_⟩) (by assumption) ?_
      rotate_left
      · (intro w hSw; (try dsimp only at hSw); go_simp)
        (try with_reducible rfl)
      (try simp only [Act.put])
      refine wpAnyH_take (i := 3) (v := ?_) rfl (by kernel_rfl) (by kernel_rfl) (by kernel_rfl) (fun _ _ _ h => h) (Or.inl ⟨by rfl, ?_⟩) (by assumption) ?_
      rotate_left
      · (intro w hSw; (try dsimp only at hSw); go_simp)
        (try with_reducible rfl)
      (try simp only [Act.put])
      refine wpAnyH_take (i := 4) (v := ?_) rfl (by kernel_rfl) (by kernel_rfl) (by kernel_rfl) (fun _ _ _ h => h) (Or.inl ⟨by rfl, ?_⟩) (by assumption) ?_
      rotate_left
      · (intro w hSw; (try dsimp only at hSw); go_simp)
        (try with_reducible rfl)
      (try simp only [Act.put])
      refine wpAnyH_take (i := 5) (v := ?_) rfl (by kernel_rfl) (by kernel_rfl) (by kernel_rfl) (fun _ _ _ h => h) (Or.inl ⟨by rfl, ?_⟩) (by assumption) ?_
      rotate_left
      · (intro w hSw; (try dsimp only at hSw); go_simp)
        (try with_reducible rfl)
      (try simp only [Act.put])
      refine wpAnyH_take (i := 6) (v := ?_) rfl (by kernel_rfl) (by kernel_rfl) (by kernel_rfl) (fun _ _ _ h => h) (Or.inl ⟨by rfl, ?_⟩) (by assumption) ?_
      rotate_left
      · (intro w hSw; (try dsimp only at hSw); go_simp)
        (try with_reducible rfl)
      (try simp only [Act.put])
      refine wpAnyH_take (i := 7) (v := ?_) rfl (by kernel_rfl) (by kernel_rfl) (by kernel_rfl) (fun _ _ _ h => h) (Or.inl ⟨by rfl, ?_⟩) (by assumption) ?_
      rotate_left
      · (intro w hSw; (try dsimp only at hSw); go_simp)
        (try with_reducible rfl)
      (try simp only [Act.put])
      refine wpAnyH_take (i := 8) (v := ?_) rfl (by kernel_rfl) (by kernel_rfl) (by kernel_rfl) (fun _ _ _ h => h) (Or.inl ⟨by rfl, ?_⟩) (by assumption) ?_
      rotate_left
      · (intro w hSw; (try dsimp only at hSw); go_simp)
        (try with_reducible rfl)
      (try simp only [Act.put])
      refine wpAnyH_take (i := 9) (v := ?_) rfl (by kernel_rfl) (by kernel_rfl) (by kernel_rfl) (fun _ _ _ h => h) (Or.inl ⟨by rfl, ?_⟩) (by assumption) ?_
      rotate_left
      · (intro w hSw; (try dsimp only at hSw); go_simp)
        (try with_reducible rfl)
      (try simp only [Act.put])
      refine wpAnyH_take (i := 10) (v := ?_) rfl (by kernel_rfl) (by kernel_rfl) (by kernel_rfl) (fun _ _ _ h => h) (Or.inl ⟨by rfl, ?_⟩) (by assumption) ?_
      rotate_left
      · (intro w hSw; (try dsimp only at hSw); go_simp)
        (try with_reducible rfl)
      (try simp only [Act.put])
      refine wpAnyH_take (i := 11) (v := ?_) rfl (by kernel_rfl) (by kernel_rfl) (by kernel_rfl) (fun _ _ _ h => h) (Or.inl ⟨by rfl, ?_⟩) (by assumption) ?_
      rotate_left
      · (intro w hSw; (try dsimp only at hSw); go_simp)
        (try with_reducible rfl)
      (try simp only [Act.put])
      refine wpAnyH_take (i := 12) (v := ?_) rfl (by kernel_rfl) (by kernel_rfl) (by kernel_rfl) (fun _ _ _ h => h) (Or.inl ⟨by rfl, ?_⟩) (by assumption) ?_
      rotate_left
      · (intro w hSw; (try dsimp only at hSw); go_simp)
        (try with_reducible rfl)
      (try simp only [Act.put])
      refine wpAnyH_take (i := 13) (v := ?_) rfl (by kernel_rfl) (by kernel_rfl) (by kernel_rfl) (fun _ _ _ h => h) (Or.inl ⟨by rfl, ?_⟩) (by assumption) ?_
      rotate_left
      · (intro w hSw; (try dsimp only at hSw); go_simp)
        (try with_reducible rfl)
      (try simp only [Act.put])
      refine wpAnyH_ready (rs := [1, 14]) (by kernel_rfl) (by simp) ?_
      refine AllReadyH.cons (o := _) rfl (fun K hK => ?_) (AllReadyH.cons (o := _) rfl (fun K hK => ?_) AllReadyH.nil)
      · go_simp
        refine hK.out _ _ ?_ (fun hHeld => ?_)
        · (first | (go_keep; done) | ((try go_split_ands); (repeat' apply And.intro) <;> (first | (go_keep; done) | (rw [hchg.cell _ (by simp <;> omega) (by simp <;> omega)]; (first | assumption | (go_keep; done))) | (simp [*, cell_off]; done))))
        clear hK K
        (try simp only [Act.put, List.setIfInBounds_toArray, List.set_cons_zero, List.set_cons_succ])
        refine wpAnyH_ready (rs := [14]) (by kernel_rfl) (by simp) ?_
        refine AllReadyH.cons (o := _) rfl (fun K hK => ?_) AllReadyH.nil
        go_simp
        refine hK.out _ _ ?_ (fun hHeld => ?_)
        · (first | (go_keep; done) | ((try go_split_ands); (repeat' apply And.intro) <;> (first | (go_keep; done) | (rw [hchg.cell _ (by simp <;> omega) (by simp <;> omega)]; (first | assumption | (go_keep; done))) | (simp [*, cell_off]; done))))
        clear hK K
        (try simp only [Act.put, List.setIfInBounds_toArray, List.set_cons_zero, List.set_cons_succ])
        refine wpAnyH_ready (rs := [15]) (by kernel_rfl) (by simp) ?_
        refine AllReadyH.cons (o := _) rfl (fun K hK => ?_) AllReadyH.nil
        ((refine step_append_row _ (by rfl) _ _ _ (by rfl) 44 i0 _ 4 40 Tryd.underlying29 hi0 hz0 hz1 hz2 rfl gl s.lays.length cl (laysC s.lays) kl (by rfl) HRW.out
            ⟨w4.heap.size, 0, none⟩ 1 1 (Lay.cs ⟨m.seq, P.lot, m.qty, v⟩) (by rfl) (by rfl) (World.news_of_block (cs := #[.int .i64 m.seq, .string P.lot, .int .i64 m.qty, .int .i64 v]) (t := 44) (fr := (0, 0)) ((Blk.new w4 44 _).drew)) (by simp [Lay.cs, Value.oneCell'])
            (by simp [maxLen]; omega) (by omega) (w4.heap.size + 1) (by simp) ?_; intro g1 c1 k1 w5 hr5 hchg hg5
          have hX := H4A.out.x.chg hchg (by simp; omega)
          have f3 := hX.frozen 3
          have d3 : w5.cell? ⟨b0, 3, none⟩ = some (sl gl s.lays.length cl) := by rw [hX.cell]; rfl))
        refine hK.out _ _ ?_ (fun hHeld => ?_)
        · (first | (go_keep; done) | ((try go_split_ands); (repeat' apply And.intro) <;> (first | (go_keep; done) | (rw [hchg.cell _ (by simp <;> omega) (by simp <;> omega)]; (first | assumption | (go_keep; done))) | (simp [*, cell_off]; done))))
        clear hK K
        (try simp only [Act.put, List.setIfInBounds_toArray])
        refine wpAnyH_take (i := 16) (v := ?_) rfl (by kernel_rfl) (by kernel_rfl) (by kernel_rfl) (fun _ _ _ h => h) (Or.inl ⟨by rfl, ?_⟩) (by assumption) ?_
        rotate_left
        · (intro w hSw; (try dsimp only at hSw); go_simp)
          (try with_reducible rfl)
        (try simp only [Act.put])
        refine wpAnyH_ready (rs := [17]) (by kernel_rfl) (by simp) ?_
        refine AllReadyH.cons (o := _) rfl (fun K hK => ?_) AllReadyH.nil
        go_simp
        refine hK.out _ _ ?_ (fun hHeld => ?_)
        · (first | (go_keep; done) | ((try go_split_ands); (repeat' apply And.intro) <;> (first | (go_keep; done) | (rw [hchg.cell _ (by simp <;> omega) (by simp <;> omega)]; (first | assumption | (go_keep; done))) | (simp [*, cell_off]; done))))
        clear hK K
        (try simp only [Act.put, List.setIfInBounds_toArray, List.set_cons_zero, List.set_cons_succ])
        refine wpAnyH_done (by kernel_rfl) ?_ _
        have hs4 := HS4.out
        have HR5 := Lib.hid hr5; have HC5 := Lib.hid hchg; clear hX hr5 hchg
        have hrl : LRow w5 g1 c1 (s.lays ++ [⟨m.seq, P.lot, m.qty, v⟩]) k1 := by
          rw [LRow, laysC_append, List.length_append]
          exact HR5.out
        obtain ⟨hF6, hne⟩ := H4A.out.newl lp HC5.out hrl (by simp; omega) (by simp; omega)
        rw [List.length_append, List.length_singleton] at hF6
        have hc6 : Chg [gl, gp] w (w5.setCell ⟨b0, 3, none⟩ (sl g1 (s.lays.length + 1) c1)) := (((HC4.out.alloc _).drew).trans HC5.out (by simp)).set (.inr (by simp; have := HB0.out; omega)) _
        generalize (w5.setCell ⟨b0, 3, none⟩ (sl g1 (s.lays.length + 1) c1)) = w6 at *
        clear n3 n4 n5 nl lb0 lb1 lb2 f3 d3 hHeld
        have a0 : w6.cell? ⟨b0, 0, none⟩ = some (.int .i64 s.qty) := by rw [hF6.x.cell]; simp
        have a1 : w6.cell? ⟨b0, 1, none⟩ = some (.int .i64 s.val) := by rw [hF6.x.cell]; simp
        have a2 : w6.cell? ⟨b0, 2, none⟩ = some (.int .i64 s.price) := by rw [hF6.x.cell]; simp
        have a3 : w6.cell? ⟨b0, 3, none⟩ = some (sl g1 (s.lays.length + 1) c1) := by rw [hF6.x.cell]; simp
        have a4 : w6.cell? ⟨b0, 4, none⟩ = some (sl gp s.psts.length cp) := by rw [hF6.x.cell]; simp
        have m0 : w6.cell? ⟨b0 + 1, 0, none⟩ = some (.int .i64 m.seq) := by rw [hF6.m.cell]; rfl
        have m1 : w6.cell? ⟨b0 + 1, 1, none⟩ = some (.int .i64 m.value) := by rw [hF6.m.cell]; rfl
        have m2 : w6.cell? ⟨b0 + 1, 2, none⟩ = some (.string m.item) := by rw [hF6.m.cell]; rfl
        have m3 : w6.cell? ⟨b0 + 1, 3, none⟩ = some (.int .i64 m.kind) := by rw [hF6.m.cell]; rfl
        have m4 : w6.cell? ⟨b0 + 1, 4, none⟩ = some (.int .i64 m.qty) := by rw [hF6.m.cell]; rfl
        have m5 : w6.cell? ⟨b0 + 1, 5, none⟩ = some (.int .i64 m.cost) := by rw [hF6.m.cell]; rfl
        have m6 : w6.cell? ⟨b0 + 1, 6, none⟩ = some (.string m.lot) := by rw [hF6.m.cell]; rfl
        have m7 : w6.cell? ⟨b0 + 1, 7, none⟩ = some (.int .i64 m.ref) := by rw [hF6.m.cell]; rfl
        have z0 : w6.cell? ⟨b0 + 2, 0, none⟩ = some (.int .i64 0) := by rw [hF6.z.cell]; rfl
        have z1 : w6.cell? ⟨b0 + 2, 1, none⟩ = some (.int .i64 0) := by rw [hF6.z.cell]; rfl
        have z2 : w6.cell? ⟨b0 + 2, 2, none⟩ = some (.int .i64 0) := by rw [hF6.z.cell]; rfl
        have z3 : w6.cell? ⟨b0 + 2, 3, none⟩ = some (.slice none 0 0) := by rw [hF6.z.cell]; rfl
        have z4 : w6.cell? ⟨b0 + 2, 4, none⟩ = some (.slice none 0 0) := by rw [hF6.z.cell]; rfl
        have y0 : w6.cell? ⟨b0 + 3, 0, none⟩ = some (.int .i64 0) := by rw [hF6.c.cell]; rfl
        have y1 : w6.cell? ⟨b0 + 3, 1, none⟩ = some (.int .i64 0) := by rw [hF6.c.cell]; rfl
        have y2 : w6.cell? ⟨b0 + 3, 2, none⟩ = some (.int .i64 0) := by rw [hF6.c.cell]; rfl
        have y3 : w6.cell? ⟨b0 + 3, 3, none⟩ = some (.int .i64 0) := by rw [hF6.c.cell]; rfl
        have fz := fun o => hF6.z.frozen o
        have fy := fun o => hF6.c.frozen o
        have HF6 := Lib.hid hF6; have HC6 := Lib.hid hc6; clear hF6 hc6 hrl hs4
        have e1 : b0 + 1 + 1 ≠ b0 := by omega
        have e2 : b0 + 1 + 1 + 1 ≠ b0 := by omega
        have e3 : b0 ≠ b0 + 1 + 1 := by omega
        have e4 : b0 ≠ b0 + 1 + 1 + 1 := by omega
        go_wp2_with fail
        go_region_held3 (fun w' => w'.cell? ⟨b0, 0, none⟩ = some (.int .i64 s.qty) ∧ w'.cell? ⟨b0, 1, none⟩ = some (.int .i64 s.val) ∧ w'.cell? ⟨b0, 2, none⟩ = some (.int .i64 s.price) ∧ w'.cell? ⟨b0, 3, none⟩ = some (sl g1 (s.lays.length + 1) c1) ∧ w'.cell? ⟨b0, 4, none⟩ = some (sl gp s.psts.length cp) ∧ w'.cell? ⟨b0 + 1, 4, none⟩ = some (.int .i64 m.qty)) (go_keep) (fail)
        all_goals go_wp2_with fail
        all_goals
          refine bodyPost_ret (v := .tuple #[.agg #[.int .i64 s.qty, .int .i64 s.val, .int .i64 s.price, sl g1 (s.lays.length + 1) c1, sl gp s.psts.length cp], .agg #[.int .i64 0, .int .i64 (m.qty), .int .i64 (v), .int .i64 (0)], .int .i64 0]) (by simp [results, Tryd.results70, go_sem, *]) rfl ?_
          rw [HE.out]
          have hb0 := HB0.out
          have hx := HF6.out.lg
          have hy := HF6.out.pg
          refine rpost_ok HF6.out ?_ rfl rfl rfl hne (by have := HB0.out; have := HC4.out.size; omega) (.inl rfl) (fun g e cur n1 n2 hb => ?_) rfl rfl rfl (by simp) (by simp)
          · repeat (first | with_reducible exact HC6.out | with_reducible refine Chg.drew ?_ | with_reducible refine Chg.set ?_ (.inr (by simp <;> omega)) _)
          · repeat (first | with_reducible exact hb | with_reducible refine Blk.drew ?_ | with_reducible refine Blk.set_other ?_ _ (by simp <;> omega))
      · go_simp
        refine hK.out _ _ ?_ (fun hHeld => ?_)
        · (first | (go_keep; done) | ((try go_split_ands); (repeat' apply And.intro) <;> (first | (go_keep; done) | (rw [hchg.cell _ (by simp <;> omega) (by simp <;> omega)]; (first | assumption | (go_keep; done))) | (simp [*, cell_off]; done))))
        clear hK K
        (try simp only [Act.put, List.setIfInBounds_toArray, List.set_cons_zero, List.set_cons_succ])
        refine wpAnyH_ready (rs := [1]) (by kernel_rfl) (by simp) ?_
        refine AllReadyH.cons (o := _) rfl (fun K hK => ?_) AllReadyH.nil
        go_simp
        refine hK.out _ _ ?_ (fun hHeld => ?_)
        · (first | (go_keep; done) | ((try go_split_ands); (repeat' apply And.intro) <;> (first | (go_keep; done) | (rw [hchg.cell _ (by simp <;> omega) (by simp <;> omega)]; (first | assumption | (go_keep; done))) | (simp [*, cell_off]; done))))
        clear hK K
        (try simp only [Act.put, List.setIfInBounds_toArray, List.set_cons_zero, List.set_cons_succ])
        refine wpAnyH_ready (rs := [15]) (by kernel_rfl) (by simp) ?_
        refine AllReadyH.cons (o := _) rfl (fun K hK => ?_) AllReadyH.nil
        ((refine step_append_row _ (by rfl) _ _ _ (by rfl) 44 i0 _ 4 40 Tryd.underlying29 hi0 hz0 hz1 hz2 rfl gl s.lays.length cl (laysC s.lays) kl (by rfl) HRW.out
            ⟨w4.heap.size, 0, none⟩ 1 1 (Lay.cs ⟨m.seq, P.lot, m.qty, v⟩) (by rfl) (by rfl) (World.news_of_block (cs := #[.int .i64 m.seq, .string P.lot, .int .i64 m.qty, .int .i64 v]) (t := 44) (fr := (0, 0)) ((Blk.new w4 44 _).drew)) (by simp [Lay.cs, Value.oneCell'])
            (by simp [maxLen]; omega) (by omega) (w4.heap.size + 1) (by simp) ?_; intro g1 c1 k1 w5 hr5 hchg hg5
          have hX := H4A.out.x.chg hchg (by simp; omega)
          have f3 := hX.frozen 3
          have d3 : w5.cell? ⟨b0, 3, none⟩ = some (sl gl s.lays.length cl) := by rw [hX.cell]; rfl))
        refine hK.out _ _ ?_ (fun hHeld => ?_)
        · (first | (go_keep; done) | ((try go_split_ands); (repeat' apply And.intro) <;> (first | (go_keep; done) | (rw [hchg.cell _ (by simp <;> omega) (by simp <;> omega)]; (first | assumption | (go_keep; done))) | (simp [*, cell_off]; done))))
        clear hK K
        (try simp only [Act.put, List.setIfInBounds_toArray])
        refine wpAnyH_take (i := 16) (v := ?_) rfl (by kernel_rfl) (by kernel_rfl) (by kernel_rfl) (fun _ _ _ h => h) (Or.inl ⟨by rfl, ?_⟩) (by assumption) ?_
        rotate_left
        · (intro w hSw; (try dsimp only at hSw); go_simp)
          (try with_reducible rfl)
        (try simp only [Act.put])
        refine wpAnyH_ready (rs := [17]) (by kernel_rfl) (by simp) ?_
        refine AllReadyH.cons (o := _) rfl (fun K hK => ?_) AllReadyH.nil
        go_simp
        refine hK.out _ _ ?_ (fun hHeld => ?_)
        · (first | (go_keep; done) | ((try go_split_ands); (repeat' apply And.intro) <;> (first | (go_keep; done) | (rw [hchg.cell _ (by simp <;> omega) (by simp <;> omega)]; (first | assumption | (go_keep; done))) | (simp [*, cell_off]; done))))
        clear hK K
        (try simp only [Act.put, List.setIfInBounds_toArray, List.set_cons_zero, List.set_cons_succ])
        refine wpAnyH_done (by kernel_rfl) ?_ _
        have hs4 := HS4.out
        have HR5 := Lib.hid hr5; have HC5 := Lib.hid hchg; clear hX hr5 hchg
        have hrl : LRow w5 g1 c1 (s.lays ++ [⟨m.seq, P.lot, m.qty, v⟩]) k1 := by
          rw [LRow, laysC_append, List.length_append]
          exact HR5.out
        obtain ⟨hF6, hne⟩ := H4A.out.newl lp HC5.out hrl (by simp; omega) (by simp; omega)
        rw [List.length_append, List.length_singleton] at hF6
        have hc6 : Chg [gl, gp] w (w5.setCell ⟨b0, 3, none⟩ (sl g1 (s.lays.length + 1) c1)) := (((HC4.out.alloc _).drew).trans HC5.out (by simp)).set (.inr (by simp; have := HB0.out; omega)) _
        generalize (w5.setCell ⟨b0, 3, none⟩ (sl g1 (s.lays.length + 1) c1)) = w6 at *
        clear n3 n4 n5 nl lb0 lb1 lb2 f3 d3 hHeld
        have a0 : w6.cell? ⟨b0, 0, none⟩ = some (.int .i64 s.qty) := by rw [hF6.x.cell]; simp
        have a1 : w6.cell? ⟨b0, 1, none⟩ = some (.int .i64 s.val) := by rw [hF6.x.cell]; simp
        have a2 : w6.cell? ⟨b0, 2, none⟩ = some (.int .i64 s.price) := by rw [hF6.x.cell]; simp
        have a3 : w6.cell? ⟨b0, 3, none⟩ = some (sl g1 (s.lays.length + 1) c1) := by rw [hF6.x.cell]; simp
        have a4 : w6.cell? ⟨b0, 4, none⟩ = some (sl gp s.psts.length cp) := by rw [hF6.x.cell]; simp
        have m0 : w6.cell? ⟨b0 + 1, 0, none⟩ = some (.int .i64 m.seq) := by rw [hF6.m.cell]; rfl
        have m1 : w6.cell? ⟨b0 + 1, 1, none⟩ = some (.int .i64 m.value) := by rw [hF6.m.cell]; rfl
        have m2 : w6.cell? ⟨b0 + 1, 2, none⟩ = some (.string m.item) := by rw [hF6.m.cell]; rfl
        have m3 : w6.cell? ⟨b0 + 1, 3, none⟩ = some (.int .i64 m.kind) := by rw [hF6.m.cell]; rfl
        have m4 : w6.cell? ⟨b0 + 1, 4, none⟩ = some (.int .i64 m.qty) := by rw [hF6.m.cell]; rfl
        have m5 : w6.cell? ⟨b0 + 1, 5, none⟩ = some (.int .i64 m.cost) := by rw [hF6.m.cell]; rfl
        have m6 : w6.cell? ⟨b0 + 1, 6, none⟩ = some (.string m.lot) := by rw [hF6.m.cell]; rfl
        have m7 : w6.cell? ⟨b0 + 1, 7, none⟩ = some (.int .i64 m.ref) := by rw [hF6.m.cell]; rfl
        have z0 : w6.cell? ⟨b0 + 2, 0, none⟩ = some (.int .i64 0) := by rw [hF6.z.cell]; rfl
        have z1 : w6.cell? ⟨b0 + 2, 1, none⟩ = some (.int .i64 0) := by rw [hF6.z.cell]; rfl
        have z2 : w6.cell? ⟨b0 + 2, 2, none⟩ = some (.int .i64 0) := by rw [hF6.z.cell]; rfl
        have z3 : w6.cell? ⟨b0 + 2, 3, none⟩ = some (.slice none 0 0) := by rw [hF6.z.cell]; rfl
        have z4 : w6.cell? ⟨b0 + 2, 4, none⟩ = some (.slice none 0 0) := by rw [hF6.z.cell]; rfl
        have y0 : w6.cell? ⟨b0 + 3, 0, none⟩ = some (.int .i64 0) := by rw [hF6.c.cell]; rfl
        have y1 : w6.cell? ⟨b0 + 3, 1, none⟩ = some (.int .i64 0) := by rw [hF6.c.cell]; rfl
        have y2 : w6.cell? ⟨b0 + 3, 2, none⟩ = some (.int .i64 0) := by rw [hF6.c.cell]; rfl
        have y3 : w6.cell? ⟨b0 + 3, 3, none⟩ = some (.int .i64 0) := by rw [hF6.c.cell]; rfl
        have fz := fun o => hF6.z.frozen o
        have fy := fun o => hF6.c.frozen o
        have HF6 := Lib.hid hF6; have HC6 := Lib.hid hc6; clear hF6 hc6 hrl hs4
        have e1 : b0 + 1 + 1 ≠ b0 := by omega
        have e2 : b0 + 1 + 1 + 1 ≠ b0 := by omega
        have e3 : b0 ≠ b0 + 1 + 1 := by omega
        have e4 : b0 ≠ b0 + 1 + 1 + 1 := by omega
        go_wp2_with fail
        go_region_held3 (fun w' => w'.cell? ⟨b0, 0, none⟩ = some (.int .i64 s.qty) ∧ w'.cell? ⟨b0, 1, none⟩ = some (.int .i64 s.val) ∧ w'.cell? ⟨b0, 2, none⟩ = some (.int .i64 s.price) ∧ w'.cell? ⟨b0, 3, none⟩ = some (sl g1 (s.lays.length + 1) c1) ∧ w'.cell? ⟨b0, 4, none⟩ = some (sl gp s.psts.length cp) ∧ w'.cell? ⟨b0 + 1, 4, none⟩ = some (.int .i64 m.qty)) (go_keep) (fail)
        all_goals go_wp2_with fail
        all_goals
          refine bodyPost_ret (v := .tuple #[.agg #[.int .i64 s.qty, .int .i64 s.val, .int .i64 s.price, sl g1 (s.lays.length + 1) c1, sl gp s.psts.length cp], .agg #[.int .i64 0, .int .i64 (m.qty), .int .i64 (v), .int .i64 (0)], .int .i64 0]) (by simp [results, Tryd.results70, go_sem, *]) rfl ?_
          rw [HE.out]
          have hb0 := HB0.out
          have hx := HF6.out.lg
          have hy := HF6.out.pg
          refine rpost_ok HF6.out ?_ rfl rfl rfl hne (by have := HB0.out; have := HC4.out.size; omega) (.inl rfl) (fun g e cur n1 n2 hb => ?_) rfl rfl rfl (by simp) (by simp)
          · repeat (first | with_reducible exact HC6.out | with_reducible refine Chg.drew ?_ | with_reducible refine Chg.set ?_ (.inr (by simp <;> omega)) _)
          · repeat (first | with_reducible exact hb | with_reducible refine Blk.drew ?_ | with_reducible refine Blk.set_other ?_ _ (by simp <;> omega))

theorem RF.newl5 {w w1 : World} {b0 gl gp cl cp g1 c1 : Nat} {s : Stk} {m : Mov} {kl kp k1 : Array Value} {ls' : List Lay} (h : RF w b0 gl gp cl cp s m kl kp) (lp : gl ≠ gp) (hc : Chg [gl] w w1) (hr : LRow w1 g1 c1 ls' k1) (hat : g1 = gl ∨ w.heap.size ≤ g1) (hs : b0 + 4 ≤ w.heap.size) :
    RF (set5 w1 b0 (.int .i64 s.qty) (.int .i64 s.val) (.int .i64 s.price) (sl g1 ls'.length c1) (sl gp s.psts.length cp)) b0 g1 gp c1 cp { s with lays := ls' } m k1 kp ∧ g1 ≠ gp := by
  obtain ⟨x, hm, z, c, l, p, lg, pg⟩ := h
  have h1 := p.blk.lt
  exact ⟨⟨set5_blk (x.chg hc (by simp; omega)) _ _ _ _ _, (hm.chg hc (by simp; omega)).set5_other _ _ _ _ _ (by simp), (z.chg hc (by simp; omega)).set5_other _ _ _ _ _ (by simp), (c.chg hc (by simp; omega)).set5_other _ _ _ _ _ (by simp), hr.of_blk (hr.blk.set5_other _ _ _ _ _ (by omega)), p.of_blk ((p.blk.chg hc (by simp; omega)).set5_other _ _ _ _ _ (by omega)), by omega, pg⟩, by omega⟩

set_option maxRecDepth 100000 in
set_option maxHeartbeats 8000000 in
theorem rsend_any (s : Stk) (m : Mov) (gl gp cl cp : Nat) (kl kp : Array Value) (w : World) (hl : LRow w gl cl s.lays kl) (hp : PRow w gp cp s.psts kp) (lp : gl ≠ gp) (hn : s.lays.length ≤ 900) (hnp : s.psts.length ≤ 900)
    (hG : Good s) (hk : m.kind = 4) (q0 : 1 ≤ m.qty) (_q1 : m.qty ≤ 1000000000) :
    Calls Tryd.prog 71 #[.agg #[.int .i64 s.qty, .int .i64 s.val, .int .i64 s.price, sl gl s.lays.length cl, sl gp s.psts.length cp], m.v] w (RPost s (sendM s m) gl gp w) := by
  have HK := Lib.hid hk; clear hk
  have hb : Below w.heap.size w ((((w.alloc (.cells #[.int .i64 s.qty, .int .i64 s.val, .int .i64 s.price, sl gl s.lays.length cl, sl gp s.psts.length cp] 32)).alloc (.cells (mCells m) 38)).alloc (.cells stkZ 32)).alloc (.cells cstZ 34)) := ((((Below.refl _ _).alloc (Nat.le_refl _) _).alloc (by simp) _).alloc (by simp; omega) _).alloc (by simp; omega) _
  have hA : Blk ((((w.alloc (.cells #[.int .i64 s.qty, .int .i64 s.val, .int .i64 s.price, sl gl s.lays.length cl, sl gp s.psts.length cp] 32)).alloc (.cells (mCells m) 38)).alloc (.cells stkZ 32)).alloc (.cells cstZ 34)) w.heap.size 32 #[.int .i64 s.qty, .int .i64 s.val, .int .i64 s.price, sl gl s.lays.length cl, sl gp s.psts.length cp] := (((Blk.new _ _ _).alloc _).alloc _).alloc _
  have hM : Blk ((((w.alloc (.cells #[.int .i64 s.qty, .int .i64 s.val, .int .i64 s.price, sl gl s.lays.length cl, sl gp s.psts.length cp] 32)).alloc (.cells (mCells m) 38)).alloc (.cells stkZ 32)).alloc (.cells cstZ 34)) (w.heap.size + 1) 38 (mCells m) := ((Blk.new2 _ _ _ _).alloc _).alloc _
  have hZ : Blk ((((w.alloc (.cells #[.int .i64 s.qty, .int .i64 s.val, .int .i64 s.price, sl gl s.lays.length cl, sl gp s.psts.length cp] 32)).alloc (.cells (mCells m) 38)).alloc (.cells stkZ 32)).alloc (.cells cstZ 34)) (w.heap.size + 2) 32 stkZ := by
    have := (Blk.new ((w.alloc (.cells #[.int .i64 s.qty, .int .i64 s.val, .int .i64 s.price, sl gl s.lays.length cl, sl gp s.psts.length cp] 32)).alloc (.cells (mCells m) 38)) 32 stkZ).alloc (.cells cstZ 34)
    simpa using this
  have hC : Blk ((((w.alloc (.cells #[.int .i64 s.qty, .int .i64 s.val, .int .i64 s.price, sl gl s.lays.length cl, sl gp s.psts.length cp] 32)).alloc (.cells (mCells m) 38)).alloc (.cells stkZ 32)).alloc (.cells cstZ 34)) (w.heap.size + 3) 34 cstZ := by
    have := Blk.new (((w.alloc (.cells #[.int .i64 s.qty, .int .i64 s.val, .int .i64 s.price, sl gl s.lays.length cl, sl gp s.psts.length cp] 32)).alloc (.cells (mCells m) 38)).alloc (.cells stkZ 32)) 34 cstZ
    simpa using this
  have hs : ((((w.alloc (.cells #[.int .i64 s.qty, .int .i64 s.val, .int .i64 s.price, sl gl s.lays.length cl, sl gp s.psts.length cp] 32)).alloc (.cells (mCells m) 38)).alloc (.cells stkZ 32)).alloc (.cells cstZ 34)).heap.size = w.heap.size + 4 := by simp
  have lgl := hl.blk.lt
  have lgp := hp.blk.lt
  have hrow := hl.of_blk (hl.blk.below' hb)
  have hprow := hp.of_blk (hp.blk.below' hb)
  go_enter Tryd.func71, Tryd.ntmps71
  go_upto_region 1 with fail
  generalize ((((w.alloc (.cells #[.int .i64 s.qty, .int .i64 s.val, .int .i64 s.price, sl gl s.lays.length cl, sl gp s.psts.length cp] 32)).alloc (.cells (mCells m) 38)).alloc (.cells stkZ 32)).alloc (.cells cstZ 34)) = W at *
  have a0 : W.cell? ⟨w.heap.size, 0, none⟩ = some (.int .i64 s.qty) := by rw [hA.cell]; rfl
  have a1 : W.cell? ⟨w.heap.size, 1, none⟩ = some (.int .i64 s.val) := by rw [hA.cell]; rfl
  have a2 : W.cell? ⟨w.heap.size, 2, none⟩ = some (.int .i64 s.price) := by rw [hA.cell]; rfl
  have a3 : W.cell? ⟨w.heap.size, 3, none⟩ = some (sl gl s.lays.length cl) := by rw [hA.cell]; rfl
  have a4 : W.cell? ⟨w.heap.size, 4, none⟩ = some (sl gp s.psts.length cp) := by rw [hA.cell]; rfl
  have m0 : W.cell? ⟨w.heap.size + 1, 0, none⟩ = some (.int .i64 m.seq) := by rw [hM.cell]; rfl
  have m1 : W.cell? ⟨w.heap.size + 1, 1, none⟩ = some (.int .i64 m.value) := by rw [hM.cell]; rfl
  have m2 : W.cell? ⟨w.heap.size + 1, 2, none⟩ = some (.string m.item) := by rw [hM.cell]; rfl
  have m3 : W.cell? ⟨w.heap.size + 1, 3, none⟩ = some (.int .i64 m.kind) := by rw [hM.cell]; rfl
  have m4 : W.cell? ⟨w.heap.size + 1, 4, none⟩ = some (.int .i64 m.qty) := by rw [hM.cell]; rfl
  have m5 : W.cell? ⟨w.heap.size + 1, 5, none⟩ = some (.int .i64 m.cost) := by rw [hM.cell]; rfl
  have m6 : W.cell? ⟨w.heap.size + 1, 6, none⟩ = some (.string m.lot) := by rw [hM.cell]; rfl
  have m7 : W.cell? ⟨w.heap.size + 1, 7, none⟩ = some (.int .i64 m.ref) := by rw [hM.cell]; rfl
  have hF : RF W w.heap.size gl gp cl cp s m kl kp := ⟨hA, hM, hZ, hC, hrow, hprow, .inl (by omega), .inl (by omega)⟩
  have HF := Lib.hid hF; have HB := Lib.hid hb; have HS := Lib.hid hs; clear hA hM hZ hC hs hrow hprow hF hb
  generalize hb0 : w.heap.size = b0 at *
  have HB0 := Lib.hid hb0; clear hb0
  have HG := Lib.hid hG; clear hG
  have hret := rret_any s m 1 (some ⟨gl, 0, none⟩) s.lays.length cl (some ⟨gp, 0, none⟩) cp W (.inr ⟨gp, cp, kp, rfl, Nat.zero_le _, HF.out.p⟩) hnp (by rw [HK.out]; rfl)
  by_cases h1 : s.psts.length ≤ findM 1 m.ref s.psts
  · have HE := Lib.hid (show (sendM s m).err = 28 by unfold sendM; rw [if_pos h1]; rfl)
    rw [show retM 1 s m = (0, 28) by unfold retM; rw [if_pos h1]] at hret
    clear h1
    go_wp2_with fail
    refine hret.mono ?_; rintro e w1 ⟨rfl, hb1⟩
    have hF1 := HF.out.below hb1
    have hbw := HB.out.trans (hb1.mono (by have := HS.out; omega))
    have a0 : w1.cell? ⟨b0, 0, none⟩ = some (.int .i64 s.qty) := by rw [hF1.x.cell]; rfl
    have a1 : w1.cell? ⟨b0, 1, none⟩ = some (.int .i64 s.val) := by rw [hF1.x.cell]; rfl
    have a2 : w1.cell? ⟨b0, 2, none⟩ = some (.int .i64 s.price) := by rw [hF1.x.cell]; rfl
    have a3 : w1.cell? ⟨b0, 3, none⟩ = some (sl gl s.lays.length cl) := by rw [hF1.x.cell]; rfl
    have a4 : w1.cell? ⟨b0, 4, none⟩ = some (sl gp s.psts.length cp) := by rw [hF1.x.cell]; rfl
    have z0 : w1.cell? ⟨b0 + 2, 0, none⟩ = some (.int .i64 0) := by rw [hF1.z.cell]; rfl
    have z1 : w1.cell? ⟨b0 + 2, 1, none⟩ = some (.int .i64 0) := by rw [hF1.z.cell]; rfl
    have z2 : w1.cell? ⟨b0 + 2, 2, none⟩ = some (.int .i64 0) := by rw [hF1.z.cell]; rfl
    have z3 : w1.cell? ⟨b0 + 2, 3, none⟩ = some (.slice none 0 0) := by rw [hF1.z.cell]; rfl
    have z4 : w1.cell? ⟨b0 + 2, 4, none⟩ = some (.slice none 0 0) := by rw [hF1.z.cell]; rfl
    have y0 : w1.cell? ⟨b0 + 3, 0, none⟩ = some (.int .i64 0) := by rw [hF1.c.cell]; rfl
    have y1 : w1.cell? ⟨b0 + 3, 1, none⟩ = some (.int .i64 0) := by rw [hF1.c.cell]; rfl
    have y2 : w1.cell? ⟨b0 + 3, 2, none⟩ = some (.int .i64 0) := by rw [hF1.c.cell]; rfl
    have y3 : w1.cell? ⟨b0 + 3, 3, none⟩ = some (.int .i64 0) := by rw [hF1.c.cell]; rfl
    have fz := fun o => hF1.z.frozen o
    have fy := fun o => hF1.c.frozen o
    have HBW := Lib.hid hbw; clear hb1 hF1 hbw
    go_wp2_with fail
    refine bodyPost_ret (v := .tuple #[.agg #[.int .i64 s.qty, .int .i64 s.val, .int .i64 s.price, sl gl s.lays.length cl, sl gp s.psts.length cp], .agg #[.int .i64 0, .int .i64 0, .int .i64 0, .int .i64 0], .int .i64 28]) (by simp [results, Tryd.results71, go_sem, *]) rfl ?_
    exact rpost_err HE.out (by decide) HBW.out HB0.out _ _ _ _ _ _ _ _ _
  · by_cases h2 : wrap64 ((s.psts.getD (findM 1 m.ref s.psts) zPst).qty - (s.psts.getD (findM 1 m.ref s.psts) zPst).used) < m.qty
    · have HE := Lib.hid (show (sendM s m).err = 21 by unfold sendM; rw [if_neg h1, if_pos h2]; rfl)
      rw [show retM 1 s m = (0, 21) by unfold retM; rw [if_neg h1, if_pos h2]] at hret
      clear h1 h2
      go_wp2_with fail
      refine hret.mono ?_; rintro e w1 ⟨rfl, hb1⟩
      have hF1 := HF.out.below hb1
      have hbw := HB.out.trans (hb1.mono (by have := HS.out; omega))
      have a0 : w1.cell? ⟨b0, 0, none⟩ = some (.int .i64 s.qty) := by rw [hF1.x.cell]; rfl
      have a1 : w1.cell? ⟨b0, 1, none⟩ = some (.int .i64 s.val) := by rw [hF1.x.cell]; rfl
      have a2 : w1.cell? ⟨b0, 2, none⟩ = some (.int .i64 s.price) := by rw [hF1.x.cell]; rfl
      have a3 : w1.cell? ⟨b0, 3, none⟩ = some (sl gl s.lays.length cl) := by rw [hF1.x.cell]; rfl
      have a4 : w1.cell? ⟨b0, 4, none⟩ = some (sl gp s.psts.length cp) := by rw [hF1.x.cell]; rfl
      have z0 : w1.cell? ⟨b0 + 2, 0, none⟩ = some (.int .i64 0) := by rw [hF1.z.cell]; rfl
      have z1 : w1.cell? ⟨b0 + 2, 1, none⟩ = some (.int .i64 0) := by rw [hF1.z.cell]; rfl
      have z2 : w1.cell? ⟨b0 + 2, 2, none⟩ = some (.int .i64 0) := by rw [hF1.z.cell]; rfl
      have z3 : w1.cell? ⟨b0 + 2, 3, none⟩ = some (.slice none 0 0) := by rw [hF1.z.cell]; rfl
      have z4 : w1.cell? ⟨b0 + 2, 4, none⟩ = some (.slice none 0 0) := by rw [hF1.z.cell]; rfl
      have y0 : w1.cell? ⟨b0 + 3, 0, none⟩ = some (.int .i64 0) := by rw [hF1.c.cell]; rfl
      have y1 : w1.cell? ⟨b0 + 3, 1, none⟩ = some (.int .i64 0) := by rw [hF1.c.cell]; rfl
      have y2 : w1.cell? ⟨b0 + 3, 2, none⟩ = some (.int .i64 0) := by rw [hF1.c.cell]; rfl
      have y3 : w1.cell? ⟨b0 + 3, 3, none⟩ = some (.int .i64 0) := by rw [hF1.c.cell]; rfl
      have fz := fun o => hF1.z.frozen o
      have fy := fun o => hF1.c.frozen o
      have HBW := Lib.hid hbw; clear hb1 hF1 hbw
      go_wp2_with fail
      refine bodyPost_ret (v := .tuple #[.agg #[.int .i64 s.qty, .int .i64 s.val, .int .i64 s.price, sl gl s.lays.length cl, sl gp s.psts.length cp], .agg #[.int .i64 0, .int .i64 0, .int .i64 0, .int .i64 0], .int .i64 21]) (by simp [results, Tryd.results71, go_sem, *]) rfl ?_
      exact rpost_err HE.out (by decide) HBW.out HB0.out _ _ _ _ _ _ _ _ _
    · rw [show retM 1 s m = (((findM 1 m.ref s.psts : Nat) : Int), (0 : Int)) by unfold retM; rw [if_neg h1, if_neg h2]] at hret
      have hE3 := fun h3 => (show (sendM s m).err = 21 by unfold sendM; rw [if_neg h1, if_neg h2, if_pos (.inl h3)]; rfl)
      have hEt := fun h4 => (show sendM s m = ⟨0, (takeM s.lays (layerM m.ref s.lays) m.qty).2, s.psts.set (findM 1 m.ref s.psts) { (s.psts.getD (findM 1 m.ref s.psts) zPst) with used := wrap64 ((s.psts.getD (findM 1 m.ref s.psts) zPst).used + m.qty) }, ⟨m.seq, wrap64 (-m.qty), wrap64 (-(takeM s.lays (layerM m.ref s.lays) m.qty).1), wrap64 ((takeM s.lays (layerM m.ref s.lays) m.qty).1 - m.cost)⟩⟩ by
            unfold sendM; rw [if_neg h1, if_neg h2, if_neg h4])
      have hEf := fun h4 => (show (sendM s m).err = 21 by unfold sendM; rw [if_neg h1, if_neg h2, if_pos (.inr h4)]; rfl)
      have HE3 := Lib.hid hE3; have HET := Lib.hid hEt; have HEF := Lib.hid hEf; clear hE3 hEt hEf
      have hlay := fun W' h => rlayer_any s.qty s.val s.price (some ⟨gl, 0, none⟩) cl (some ⟨gp, 0, none⟩) s.psts.length cp s.lays m.ref W' h (by omega)
      have hlt : findM 1 m.ref s.psts < s.psts.length := by omega
      clear h2
      go_wp2_with fail
      refine hret.mono ?_; rintro e w1 ⟨rfl, hb1⟩
      have hF1 := HF.out.below hb1
      have hbw := HB.out.trans (hb1.mono (by have := HS.out; omega))
      have hsz := hb1.size
      rw [HS.out] at hsz
      have a0 : w1.cell? ⟨b0, 0, none⟩ = some (.int .i64 s.qty) := by rw [hF1.x.cell]; rfl
      have a1 : w1.cell? ⟨b0, 1, none⟩ = some (.int .i64 s.val) := by rw [hF1.x.cell]; rfl
      have a2 : w1.cell? ⟨b0, 2, none⟩ = some (.int .i64 s.price) := by rw [hF1.x.cell]; rfl
      have a3 : w1.cell? ⟨b0, 3, none⟩ = some (sl gl s.lays.length cl) := by rw [hF1.x.cell]; rfl
      have a4 : w1.cell? ⟨b0, 4, none⟩ = some (sl gp s.psts.length cp) := by rw [hF1.x.cell]; rfl
      have m0 : w1.cell? ⟨b0 + 1, 0, none⟩ = some (.int .i64 m.seq) := by rw [hF1.m.cell]; rfl
      have m1 : w1.cell? ⟨b0 + 1, 1, none⟩ = some (.int .i64 m.value) := by rw [hF1.m.cell]; rfl
      have m2 : w1.cell? ⟨b0 + 1, 2, none⟩ = some (.string m.item) := by rw [hF1.m.cell]; rfl
      have m3 : w1.cell? ⟨b0 + 1, 3, none⟩ = some (.int .i64 m.kind) := by rw [hF1.m.cell]; rfl
      have m4 : w1.cell? ⟨b0 + 1, 4, none⟩ = some (.int .i64 m.qty) := by rw [hF1.m.cell]; rfl
      have m5 : w1.cell? ⟨b0 + 1, 5, none⟩ = some (.int .i64 m.cost) := by rw [hF1.m.cell]; rfl
      have m6 : w1.cell? ⟨b0 + 1, 6, none⟩ = some (.string m.lot) := by rw [hF1.m.cell]; rfl
      have m7 : w1.cell? ⟨b0 + 1, 7, none⟩ = some (.int .i64 m.ref) := by rw [hF1.m.cell]; rfl
      have HBW := Lib.hid hbw; have HF1 := Lib.hid hF1; clear hb1 hF1 hbw hret
      go_wp2_with fail
      refine (hlay _ (.inr ⟨gl, cl, kl, rfl, Nat.zero_le _, HF1.out.l⟩)).mono ?_; rintro e w2 ⟨rfl, hb2⟩
      have hF2 := HF1.out.below hb2
      have hbw2 := HBW.out.trans (hb2.mono (by omega))
      have hsz2 := hb2.size
      have a0 : w2.cell? ⟨b0, 0, none⟩ = some (.int .i64 s.qty) := by rw [hF2.x.cell]; rfl
      have a1 : w2.cell? ⟨b0, 1, none⟩ = some (.int .i64 s.val) := by rw [hF2.x.cell]; rfl
      have a2 : w2.cell? ⟨b0, 2, none⟩ = some (.int .i64 s.price) := by rw [hF2.x.cell]; rfl
      have a3 : w2.cell? ⟨b0, 3, none⟩ = some (sl gl s.lays.length cl) := by rw [hF2.x.cell]; rfl
      have a4 : w2.cell? ⟨b0, 4, none⟩ = some (sl gp s.psts.length cp) := by rw [hF2.x.cell]; rfl
      have m0 : w2.cell? ⟨b0 + 1, 0, none⟩ = some (.int .i64 m.seq) := by rw [hF2.m.cell]; rfl
      have m1 : w2.cell? ⟨b0 + 1, 1, none⟩ = some (.int .i64 m.value) := by rw [hF2.m.cell]; rfl
      have m2 : w2.cell? ⟨b0 + 1, 2, none⟩ = some (.string m.item) := by rw [hF2.m.cell]; rfl
      have m3 : w2.cell? ⟨b0 + 1, 3, none⟩ = some (.int .i64 m.kind) := by rw [hF2.m.cell]; rfl
      have m4 : w2.cell? ⟨b0 + 1, 4, none⟩ = some (.int .i64 m.qty) := by rw [hF2.m.cell]; rfl
      have m5 : w2.cell? ⟨b0 + 1, 5, none⟩ = some (.int .i64 m.cost) := by rw [hF2.m.cell]; rfl
      have m6 : w2.cell? ⟨b0 + 1, 6, none⟩ = some (.string m.lot) := by rw [hF2.m.cell]; rfl
      have m7 : w2.cell? ⟨b0 + 1, 7, none⟩ = some (.int .i64 m.ref) := by rw [hF2.m.cell]; rfl
      have HBW2 := Lib.hid hbw2; have HF2 := Lib.hid hF2; clear hb2 hF2 hbw2 HBW HF1 hlay
      by_cases h3 : s.lays.length ≤ layerM m.ref s.lays
      · have HE := Lib.hid (HE3.out h3)
        rw [show layerI m.ref s.lays = -1 by unfold layerI; rw [if_neg (by omega)]]
        clear h1 h3 hlt HE3 HET HEF
        go_wp2_with fail
        go_quiet (fail)
        have hb3 : Below w2.heap.size w2 (w2.drewN nq) := ⟨rfl, rfl, rfl, Nat.le_refl _, fun _ _ => rfl⟩
        generalize w2.drewN nq = w3 at *
        have hF3 := HF2.out.below hb3
        have hbw := HBW2.out.trans (hb3.mono (by omega))
        have a0 : w3.cell? ⟨b0, 0, none⟩ = some (.int .i64 s.qty) := by rw [hF3.x.cell]; rfl
        have a1 : w3.cell? ⟨b0, 1, none⟩ = some (.int .i64 s.val) := by rw [hF3.x.cell]; rfl
        have a2 : w3.cell? ⟨b0, 2, none⟩ = some (.int .i64 s.price) := by rw [hF3.x.cell]; rfl
        have a3 : w3.cell? ⟨b0, 3, none⟩ = some (sl gl s.lays.length cl) := by rw [hF3.x.cell]; rfl
        have a4 : w3.cell? ⟨b0, 4, none⟩ = some (sl gp s.psts.length cp) := by rw [hF3.x.cell]; rfl
        have z0 : w3.cell? ⟨b0 + 2, 0, none⟩ = some (.int .i64 0) := by rw [hF3.z.cell]; rfl
        have z1 : w3.cell? ⟨b0 + 2, 1, none⟩ = some (.int .i64 0) := by rw [hF3.z.cell]; rfl
        have z2 : w3.cell? ⟨b0 + 2, 2, none⟩ = some (.int .i64 0) := by rw [hF3.z.cell]; rfl
        have z3 : w3.cell? ⟨b0 + 2, 3, none⟩ = some (.slice none 0 0) := by rw [hF3.z.cell]; rfl
        have z4 : w3.cell? ⟨b0 + 2, 4, none⟩ = some (.slice none 0 0) := by rw [hF3.z.cell]; rfl
        have y0 : w3.cell? ⟨b0 + 3, 0, none⟩ = some (.int .i64 0) := by rw [hF3.c.cell]; rfl
        have y1 : w3.cell? ⟨b0 + 3, 1, none⟩ = some (.int .i64 0) := by rw [hF3.c.cell]; rfl
        have y2 : w3.cell? ⟨b0 + 3, 2, none⟩ = some (.int .i64 0) := by rw [hF3.c.cell]; rfl
        have y3 : w3.cell? ⟨b0 + 3, 3, none⟩ = some (.int .i64 0) := by rw [hF3.c.cell]; rfl
        have fz := fun o => hF3.z.frozen o
        have fy := fun o => hF3.c.frozen o
        have HBW := Lib.hid hbw; clear hb3 hF3 hbw
        go_wp2_with fail
        refine bodyPost_ret (v := .tuple #[.agg #[.int .i64 s.qty, .int .i64 s.val, .int .i64 s.price, sl gl s.lays.length cl, sl gp s.psts.length cp], .agg #[.int .i64 0, .int .i64 0, .int .i64 0, .int .i64 0], .int .i64 21]) (by simp [results, Tryd.results71, go_sem, *]) rfl ?_
        exact rpost_err HE.out (by decide) HBW.out HB0.out _ _ _ _ _ _ _ _ _
      · have hll : layerM m.ref s.lays < s.lays.length := by omega
        rw [show layerI m.ref s.lays = ((layerM m.ref s.lays : Nat) : Int) by unfold layerI; rw [if_pos hll]]
        generalize layerM m.ref s.lays = j at *
        generalize findM 1 m.ref s.psts = k at *
        have hL := HG.out.lay (getD_mem zLay s.lays j hll)
        obtain ⟨x0, x1, x2, x3⟩ := HF2.out.l.lay j hll
        generalize hLe : s.lays.getD j zLay = L at *
        have HLe := Lib.hid hLe; clear hLe
        obtain ⟨p0, p1, p2, p3, p4, p5, p6⟩ := HF2.out.p.pst k hlt
        generalize hPe : s.psts.getD k zPst = P at *
        have HPe := Lib.hid hPe; clear hPe
        have j0 : (0 : Int) ≤ (j : Int) := by omega
        have j1 : (j : Int) < (s.lays.length : Int) := by omega
        have jn : decide ((j : Int) < 0) = false := by simp
        have i0 : (0 : Int) ≤ (k : Int) := by omega
        have i1 : (k : Int) < (s.psts.length : Int) := by omega
        by_cases h4 : L.qty < m.qty
        · have h4' : decide (L.qty < m.qty) = true := by simpa using h4
          have HE := Lib.hid (HEF.out h4)
          clear h1 h3 h4
          go_wp2_with fail
          go_quiet (fail)
          have hb3 : Below w2.heap.size w2 (w2.drewN nq) := ⟨rfl, rfl, rfl, Nat.le_refl _, fun _ _ => rfl⟩
          generalize w2.drewN nq = w3 at *
          have hF3 := HF2.out.below hb3
          have hbw := HBW2.out.trans (hb3.mono (by omega))
          have a0 : w3.cell? ⟨b0, 0, none⟩ = some (.int .i64 s.qty) := by rw [hF3.x.cell]; rfl
          have a1 : w3.cell? ⟨b0, 1, none⟩ = some (.int .i64 s.val) := by rw [hF3.x.cell]; rfl
          have a2 : w3.cell? ⟨b0, 2, none⟩ = some (.int .i64 s.price) := by rw [hF3.x.cell]; rfl
          have a3 : w3.cell? ⟨b0, 3, none⟩ = some (sl gl s.lays.length cl) := by rw [hF3.x.cell]; rfl
          have a4 : w3.cell? ⟨b0, 4, none⟩ = some (sl gp s.psts.length cp) := by rw [hF3.x.cell]; rfl
          have z0 : w3.cell? ⟨b0 + 2, 0, none⟩ = some (.int .i64 0) := by rw [hF3.z.cell]; rfl
          have z1 : w3.cell? ⟨b0 + 2, 1, none⟩ = some (.int .i64 0) := by rw [hF3.z.cell]; rfl
          have z2 : w3.cell? ⟨b0 + 2, 2, none⟩ = some (.int .i64 0) := by rw [hF3.z.cell]; rfl
          have z3 : w3.cell? ⟨b0 + 2, 3, none⟩ = some (.slice none 0 0) := by rw [hF3.z.cell]; rfl
          have z4 : w3.cell? ⟨b0 + 2, 4, none⟩ = some (.slice none 0 0) := by rw [hF3.z.cell]; rfl
          have y0 : w3.cell? ⟨b0 + 3, 0, none⟩ = some (.int .i64 0) := by rw [hF3.c.cell]; rfl
          have y1 : w3.cell? ⟨b0 + 3, 1, none⟩ = some (.int .i64 0) := by rw [hF3.c.cell]; rfl
          have y2 : w3.cell? ⟨b0 + 3, 2, none⟩ = some (.int .i64 0) := by rw [hF3.c.cell]; rfl
          have y3 : w3.cell? ⟨b0 + 3, 3, none⟩ = some (.int .i64 0) := by rw [hF3.c.cell]; rfl
          have fz := fun o => hF3.z.frozen o
          have fy := fun o => hF3.c.frozen o
          have HBW := Lib.hid hbw; clear hb3 hF3 hbw
          go_wp2_with fail
          refine bodyPost_ret (v := .tuple #[.agg #[.int .i64 s.qty, .int .i64 s.val, .int .i64 s.price, sl gl s.lays.length cl, sl gp s.psts.length cp], .agg #[.int .i64 0, .int .i64 0, .int .i64 0, .int .i64 0], .int .i64 21]) (by simp [results, Tryd.results71, go_sem, *]) rfl ?_
          exact rpost_err HE.out (by decide) HBW.out HB0.out _ _ _ _ _ _ _ _ _
        · have h4' : decide (L.qty < m.qty) = false := by simpa using h4
          have HE := Lib.hid (HET.out (by omega))
          clear h1 h3
          have htake := fun W' kk h => rtake_any s.qty s.val s.price (some ⟨gp, 0, none⟩) s.psts.length cp gl cl s.lays kk j m.qty W' h hll (by omega) (by rw [HLe.out]; exact hL.1) (by rw [HLe.out]; exact hL.2.1) (by rw [HLe.out]; exact hL.2.2.1) (by rw [HLe.out]; exact hL.2.2.2) q0 (by rw [HLe.out]; omega)
          clear h4 hL
          go_wp2_with fail
          go_quiet (fail)
          have hb3 : Below w2.heap.size w2 (w2.drewN nq) := ⟨rfl, rfl, rfl, Nat.le_refl _, fun _ _ => rfl⟩
          have hz3 : (w2.drewN nq).heap.size = w2.heap.size := rfl
          generalize w2.drewN nq = w3 at *
          have hF3 := HF2.out.below hb3
          have hbw := HBW2.out.trans (hb3.mono (by omega))
          have a0 : w3.cell? ⟨b0, 0, none⟩ = some (.int .i64 s.qty) := by rw [hF3.x.cell]; rfl
          have a1 : w3.cell? ⟨b0, 1, none⟩ = some (.int .i64 s.val) := by rw [hF3.x.cell]; rfl
          have a2 : w3.cell? ⟨b0, 2, none⟩ = some (.int .i64 s.price) := by rw [hF3.x.cell]; rfl
          have a3 : w3.cell? ⟨b0, 3, none⟩ = some (sl gl s.lays.length cl) := by rw [hF3.x.cell]; rfl
          have a4 : w3.cell? ⟨b0, 4, none⟩ = some (sl gp s.psts.length cp) := by rw [hF3.x.cell]; rfl
          have m0 : w3.cell? ⟨b0 + 1, 0, none⟩ = some (.int .i64 m.seq) := by rw [hF3.m.cell]; rfl
          have m1 : w3.cell? ⟨b0 + 1, 1, none⟩ = some (.int .i64 m.value) := by rw [hF3.m.cell]; rfl
          have m2 : w3.cell? ⟨b0 + 1, 2, none⟩ = some (.string m.item) := by rw [hF3.m.cell]; rfl
          have m3 : w3.cell? ⟨b0 + 1, 3, none⟩ = some (.int .i64 m.kind) := by rw [hF3.m.cell]; rfl
          have m4 : w3.cell? ⟨b0 + 1, 4, none⟩ = some (.int .i64 m.qty) := by rw [hF3.m.cell]; rfl
          have m5 : w3.cell? ⟨b0 + 1, 5, none⟩ = some (.int .i64 m.cost) := by rw [hF3.m.cell]; rfl
          have m6 : w3.cell? ⟨b0 + 1, 6, none⟩ = some (.string m.lot) := by rw [hF3.m.cell]; rfl
          have m7 : w3.cell? ⟨b0 + 1, 7, none⟩ = some (.int .i64 m.ref) := by rw [hF3.m.cell]; rfl
          obtain ⟨p0, p1, p2, p3, p4, p5, p6⟩ := hF3.p.pst k hlt
          rw [HPe.out] at p0 p1 p2 p3 p4 p5 p6
          have fp := fun o => hF3.p.blk.frozen o
          have HF3 := Lib.hid hF3; have HBW := Lib.hid hbw; have HZ3 := Lib.hid hz3; clear hb3 hF3 hbw hz3 x0 x1 x2 x3 HF2 HBW2
          go_wp2_with fail
          refine still_tail2 14 (by kernel_rfl) (by kernel_rfl) ?_
          simp only [List.take_succ_cons, List.take_zero, List.drop_succ_cons, List.drop_zero]
          repeat still_step
          refine wpStill_nil ?_
          go_upto_region 8 with fail
          have h4 := (HF3.out.setp lp k 5 (.int .i64 (wrap64 (P.used + m.qty))) { P with used := wrap64 (P.used + m.qty) } hlt (by decide) (by rw [HPe.out]; rfl)).drew
          have hc4 : Chg [gl, gp] w ((w3.setCell ⟨gp, k * 7 + 5, none⟩ (.int .i64 (wrap64 (P.used + m.qty)))).drew) := ((Chg.of_below _ (by rw [HB0.out]; exact HBW.out)).set (.inl (by simp)) _).drew
          have hs4 : ((w3.setCell ⟨gp, k * 7 + 5, none⟩ (.int .i64 (wrap64 (P.used + m.qty)))).drew).heap.size = w2.heap.size := by simp [HZ3.out]
          generalize (w3.setCell ⟨gp, k * 7 + 5, none⟩ (.int .i64 (wrap64 (P.used + m.qty)))).drew = w4 at *
          generalize (kp.setIfInBounds (k * 7 + 5) (.int .i64 (wrap64 (P.used + m.qty)))) = kp4 at *
          have a0 : w4.cell? ⟨b0, 0, none⟩ = some (.int .i64 s.qty) := by rw [h4.x.cell]; simp
          have a1 : w4.cell? ⟨b0, 1, none⟩ = some (.int .i64 s.val) := by rw [h4.x.cell]; simp
          have a2 : w4.cell? ⟨b0, 2, none⟩ = some (.int .i64 s.price) := by rw [h4.x.cell]; simp
          have a3 : w4.cell? ⟨b0, 3, none⟩ = some (sl gl s.lays.length cl) := by rw [h4.x.cell]; simp
          have a4 : w4.cell? ⟨b0, 4, none⟩ = some (sl gp s.psts.length cp) := by rw [h4.x.cell]; simp
          have m0 : w4.cell? ⟨b0 + 1, 0, none⟩ = some (.int .i64 m.seq) := by rw [h4.m.cell]; rfl
          have m1 : w4.cell? ⟨b0 + 1, 1, none⟩ = some (.int .i64 m.value) := by rw [h4.m.cell]; rfl
          have m2 : w4.cell? ⟨b0 + 1, 2, none⟩ = some (.string m.item) := by rw [h4.m.cell]; rfl
          have m3 : w4.cell? ⟨b0 + 1, 3, none⟩ = some (.int .i64 m.kind) := by rw [h4.m.cell]; rfl
          have m4 : w4.cell? ⟨b0 + 1, 4, none⟩ = some (.int .i64 m.qty) := by rw [h4.m.cell]; rfl
          have m5 : w4.cell? ⟨b0 + 1, 5, none⟩ = some (.int .i64 m.cost) := by rw [h4.m.cell]; rfl
          have m6 : w4.cell? ⟨b0 + 1, 6, none⟩ = some (.string m.lot) := by rw [h4.m.cell]; rfl
          have m7 : w4.cell? ⟨b0 + 1, 7, none⟩ = some (.int .i64 m.ref) := by rw [h4.m.cell]; rfl
          have HF4 := Lib.hid h4; have HC4 := Lib.hid hc4; have HS4 := Lib.hid hs4; clear h4 hc4 hs4 p0 p1 p2 p3 p4 p5 p6 fp HF3 HBW
          go_wp2_with fail
          refine (htake _ _ HF4.out.l).mono ?_
          rintro e w5 ⟨g1, c1, k1, rfl, hr5, hc5, hat5⟩
          have hX := HF4.out.x.chg hc5 (by have := HF4.out.lg; simp; omega)
          have d0 : w5.cell? ⟨b0, 0, none⟩ = some (.int .i64 s.qty) := by rw [hX.cell]; simp
          have d1 : w5.cell? ⟨b0, 1, none⟩ = some (.int .i64 s.val) := by rw [hX.cell]; simp
          have d2 : w5.cell? ⟨b0, 2, none⟩ = some (.int .i64 s.price) := by rw [hX.cell]; simp
          have d3 : w5.cell? ⟨b0, 3, none⟩ = some (sl gl s.lays.length cl) := by rw [hX.cell]; simp
          have d4 : w5.cell? ⟨b0, 4, none⟩ = some (sl gp s.psts.length cp) := by rw [hX.cell]; simp
          have fd := fun o => hX.frozen o
          have hs4 := HS4.out
          obtain ⟨hF6, hne⟩ := HF4.out.newl5 lp hc5 hr5 hat5 (by omega)
          simp only [List.length_set] at hF6
          have hc6 : Chg [gl, gp] w (set5 w5 b0 (.int .i64 s.qty) (.int .i64 s.val) (.int .i64 s.price) (sl g1 (takeM s.lays j m.qty).2.length c1) (sl gp s.psts.length cp)) := (HC4.out.trans hc5 (by simp)).trans (T := [b0]) (set5_chg _ _ _ _ _ _ _) (by have := HB0.out; simp; omega)
          have hg1 : g1 = gl ∨ w.heap.size ≤ g1 := by have := HB0.out; omega
          dsimp only [set5] at hF6 hc6
          have HF6 := Lib.hid hF6; have HC6 := Lib.hid hc6; clear hF6 hc6 hX hr5 hc5 hat5 hs4 HF4 HC4
          generalize takeM s.lays j m.qty = T at *
          go_upto_region 9 with fail
          generalize (((((w5.setCell ⟨b0, 0, none⟩ (.int .i64 s.qty)).setCell ⟨b0, 1, none⟩ (.int .i64 s.val)).setCell ⟨b0, 2, none⟩ (.int .i64 s.price)).setCell ⟨b0, 3, none⟩ (sl g1 T.2.length c1)).setCell ⟨b0, 4, none⟩ (sl gp s.psts.length cp)) = w6 at *
          have a0 : w6.cell? ⟨b0, 0, none⟩ = some (.int .i64 s.qty) := by rw [HF6.out.x.cell]; simp
          have a1 : w6.cell? ⟨b0, 1, none⟩ = some (.int .i64 s.val) := by rw [HF6.out.x.cell]; simp
          have a2 : w6.cell? ⟨b0, 2, none⟩ = some (.int .i64 s.price) := by rw [HF6.out.x.cell]; simp
          have a3 : w6.cell? ⟨b0, 3, none⟩ = some (sl g1 T.2.length c1) := by rw [HF6.out.x.cell]; simp
          have a4 : w6.cell? ⟨b0, 4, none⟩ = some (sl gp s.psts.length cp) := by rw [HF6.out.x.cell]; simp
          have m0 : w6.cell? ⟨b0 + 1, 0, none⟩ = some (.int .i64 m.seq) := by rw [HF6.out.m.cell]; rfl
          have m1 : w6.cell? ⟨b0 + 1, 1, none⟩ = some (.int .i64 m.value) := by rw [HF6.out.m.cell]; rfl
          have m2 : w6.cell? ⟨b0 + 1, 2, none⟩ = some (.string m.item) := by rw [HF6.out.m.cell]; rfl
          have m3 : w6.cell? ⟨b0 + 1, 3, none⟩ = some (.int .i64 m.kind) := by rw [HF6.out.m.cell]; rfl
          have m4 : w6.cell? ⟨b0 + 1, 4, none⟩ = some (.int .i64 m.qty) := by rw [HF6.out.m.cell]; rfl
          have m5 : w6.cell? ⟨b0 + 1, 5, none⟩ = some (.int .i64 m.cost) := by rw [HF6.out.m.cell]; rfl
          have m6 : w6.cell? ⟨b0 + 1, 6, none⟩ = some (.string m.lot) := by rw [HF6.out.m.cell]; rfl
          have m7 : w6.cell? ⟨b0 + 1, 7, none⟩ = some (.int .i64 m.ref) := by rw [HF6.out.m.cell]; rfl
          have z0 : w6.cell? ⟨b0 + 2, 0, none⟩ = some (.int .i64 0) := by rw [HF6.out.z.cell]; rfl
          have z1 : w6.cell? ⟨b0 + 2, 1, none⟩ = some (.int .i64 0) := by rw [HF6.out.z.cell]; rfl
          have z2 : w6.cell? ⟨b0 + 2, 2, none⟩ = some (.int .i64 0) := by rw [HF6.out.z.cell]; rfl
          have z3 : w6.cell? ⟨b0 + 2, 3, none⟩ = some (.slice none 0 0) := by rw [HF6.out.z.cell]; rfl
          have z4 : w6.cell? ⟨b0 + 2, 4, none⟩ = some (.slice none 0 0) := by rw [HF6.out.z.cell]; rfl
          have y0 : w6.cell? ⟨b0 + 3, 0, none⟩ = some (.int .i64 0) := by rw [HF6.out.c.cell]; rfl
          have y1 : w6.cell? ⟨b0 + 3, 1, none⟩ = some (.int .i64 0) := by rw [HF6.out.c.cell]; rfl
          have y2 : w6.cell? ⟨b0 + 3, 2, none⟩ = some (.int .i64 0) := by rw [HF6.out.c.cell]; rfl
          have y3 : w6.cell? ⟨b0 + 3, 3, none⟩ = some (.int .i64 0) := by rw [HF6.out.c.cell]; rfl
          have fz := fun o => HF6.out.z.frozen o
          have fy := fun o => HF6.out.c.frozen o
          have e1 : b0 + 1 + 1 ≠ b0 := by omega
          have e2 : b0 + 1 + 1 + 1 ≠ b0 := by omega
          have e3 : b0 ≠ b0 + 1 + 1 := by omega
          have e4 : b0 ≠ b0 + 1 + 1 + 1 := by omega
          go_region_held3 (fun w' => w'.cell? ⟨b0, 0, none⟩ = some (.int .i64 s.qty) ∧ w'.cell? ⟨b0, 1, none⟩ = some (.int .i64 s.val) ∧ w'.cell? ⟨b0, 2, none⟩ = some (.int .i64 s.price) ∧ w'.cell? ⟨b0, 3, none⟩ = some (sl g1 T.2.length c1) ∧ w'.cell? ⟨b0, 4, none⟩ = some (sl gp s.psts.length cp) ∧ w'.cell? ⟨b0 + 1, 4, none⟩ = some (.int .i64 m.qty) ∧ w'.cell? ⟨b0 + 1, 5, none⟩ = some (.int .i64 m.cost)) (go_keep) (fail)
          all_goals go_wp2_with fail
          all_goals
            refine bodyPost_ret (v := .tuple #[.agg #[.int .i64 s.qty, .int .i64 s.val, .int .i64 s.price, sl g1 T.2.length c1, sl gp s.psts.length cp], .agg #[.int .i64 0, .int .i64 (IntKind.i64.wrap (-m.qty)), .int .i64 (IntKind.i64.wrap (-T.1)), .int .i64 (IntKind.i64.wrap (T.1 - m.cost))], .int .i64 0]) (by simp [results, Tryd.results71, go_sem, *]) rfl ?_
            rw [HE.out]
            have hb0 := HB0.out
            have hx := HF6.out.lg
            have hy := HF6.out.pg
            refine rpost_ok HF6.out ?_ rfl rfl rfl hne hg1 (.inl rfl) (fun g e cur n1 n2 hb => ?_) (w64 _) (w64 _) (w64 _) rfl (by simp)
            · repeat (first | with_reducible exact HC6.out | with_reducible refine Chg.drew ?_ | with_reducible refine Chg.set ?_ (.inr (by simp <;> omega)) _)
            · repeat (first | with_reducible exact hb | with_reducible refine Blk.drew ?_ | with_reducible refine Blk.set_other ?_ _ (by simp <;> omega))
end Go.Proofs.YtboiipkbhbbgfaaDoor
