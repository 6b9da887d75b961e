/- The reference's Step. -/
import Derived.Test.YtboiipkbhbbgfaaDoorWe
import Derived.Test.YtboiipkbhbbgfaaDoorWb
import Derived.Test.YtboiipkbhbbgfaaDoorWa
namespace Go.Proofs.YtboiipkbhbbgfaaDoor
open Go.RowKit

/-- behind 't, c, e := move(Clone(s), m)' at wr: t in block x8, c in block x9; what was there is as it was -/
structure MoveAt (wr : World) (s : Stk) (o : Out) (x8 x9 : Nat) (bl : Option Addr) (nl cl : Nat) (bp : Option Addr) (np cp : Nat) (c1 c2 c3 : Int) (W : World) : Prop where
  t : Blk W x8 32 #[.int .i64 s.qty, .int .i64 s.val, .int .i64 s.price, .slice bl nl cl, .slice bp np cp]
  c : Blk W x9 34 #[.int .i64 0, .int .i64 c1, .int .i64 c2, .int .i64 c3]
  bel : Below wr.heap.size wr W
  h8 : wr.heap.size ≤ x8
  h9 : wr.heap.size ≤ x9
  ne : x8 ≠ x9
  ok : o.err = 0 → c1 = o.cst.qty ∧ c2 = o.cst.val ∧ c3 = o.cst.var ∧ ∃ g1 k1 g2 k2, bl = some ⟨g1, 0, none⟩ ∧ nl = o.lays.length ∧ bp = some ⟨g2, 0, none⟩ ∧ np = o.psts.length ∧ LRow W g1 cl o.lays k1 ∧ PRow W g2 cp o.psts k2 ∧ wr.heap.size ≤ g1 ∧ wr.heap.size ≤ g2 ∧ g1 ≠ x8 ∧ g1 ≠ x9 ∧ g2 ≠ x8 ∧ g2 ≠ x9

/-- the frame of the reference's Step -/
structure SF (w : World) (b0 : Nat) (s : Stk) (m : Mov) (bl : Option Addr) (cl : Nat) (bp : Option Addr) (cp : Nat) : Prop where
  x : Blk w b0 32 #[.int .i64 s.qty, .int .i64 s.val, .int .i64 s.price, .slice bl s.lays.length cl, .slice bp s.psts.length cp]
  m : Blk w (b0 + 1) 38 (mCells m)
  z : Blk w (b0 + 2) 32 stkZ
  c : Blk w (b0 + 3) 34 cstZ
  l : OwnL w 0 (.slice bl s.lays.length cl) s.lays
  p : OwnP w 0 (.slice bp s.psts.length cp) s.psts
theorem SF.below {w w' : World} {b0 : Nat} {s : Stk} {m : Mov} {bl : Option Addr} {cl : Nat} {bp : Option Addr} {cp : Nat} (h : SF w b0 s m bl cl bp cp) (hb : Below w.heap.size w w') : SF w' b0 s m bl cl bp cp :=
  ⟨h.x.below' hb, h.m.below' hb, h.z.below' hb, h.c.below' hb, h.l.below' hb, h.p.below' hb⟩
theorem stepq_err {w W : World} {b0 : Nat} {er : Int} (hb : Below b0 w W) (h0 : w.heap.size = b0) (q v p vl vp d0 d1 d2 d3 : Value) :
    StepQ ⟨er, zStk, zCst⟩ w (.returned (.tuple #[.agg stkZ, .agg cstZ, .int .i64 er])) (set4 (set5 W (b0 + 2) q v p vl vp) (b0 + 3) d0 d1 d2 d3) := by
  subst h0
  have h1 := ((Chg.of_below [] hb).trans (T := [w.heap.size + 2]) (set5_chg W (w.heap.size + 2) q v p vl vp) (by simp)).trans (T := [w.heap.size + 3]) (set4_chg _ (w.heap.size + 3) d0 d1 d2 d3) (by simp)
  exact ⟨none, 0, none, 0, rfl, h1.below (Nat.le_refl _) (by simp), .inl ⟨rfl, rfl⟩, .inl ⟨rfl, rfl⟩⟩
/-- the worlds in which what was there is as it was -/
def Hold (wr w : World) : Prop := Below wr.heap.size wr w
theorem Hold.size {wr w : World} (h : Hold wr w) : wr.heap.size ≤ w.heap.size := Below.size h
theorem Hold.drew {wr w : World} (h : Hold wr w) : Hold wr w.drew := Below.drew h
theorem Hold.alloc {wr w : World} (h : Hold wr w) (o : Obj) : Hold wr (w.alloc o) := Below.alloc h (Below.size h) o
theorem Hold.setCell {wr w : World} (h : Hold wr w) {p : Addr} (hp : wr.heap.size ≤ p.block) (v : Value) : Hold wr (w.setCell p v) := Below.setCell h hp v
theorem Hold.bel {wr w w' : World} (h : Hold wr w) (hb : Below w.heap.size w w') : Hold wr w' := Below.trans h (hb.mono (Below.size h))
theorem Hold.bel2 {wr w2 X w3 : World} (h : Hold wr w2) (hX : Below w2.heap.size w2 X) (hb : Below wr.heap.size X w3) : Hold wr w3 := Below.trans (Below.trans h (hX.mono (Below.size h))) hb
theorem z32 {w : World} {g : Nat} (h : Blk w g 32 stkZ) : w.cell? ⟨g, 0, none⟩ = some (.int .i64 0) ∧ w.cell? ⟨g, 1, none⟩ = some (.int .i64 0) ∧ w.cell? ⟨g, 2, none⟩ = some (.int .i64 0) ∧ w.cell? ⟨g, 3, none⟩ = some (.slice none 0 0) ∧ w.cell? ⟨g, 4, none⟩ = some (.slice none 0 0) ∧ (∀ o, w.frozen? ⟨g, o, none⟩ = false) ∧ g < w.heap.size ∧ w.heap.size ≠ g ∧ g ≠ w.heap.size :=
  ⟨by rw [h.cell]; rfl, by rw [h.cell]; rfl, by rw [h.cell]; rfl, by rw [h.cell]; rfl, by rw [h.cell]; rfl, fun o => h.frozen o, h.lt, Ne.symm (Nat.ne_of_lt h.lt), Nat.ne_of_lt h.lt⟩
theorem z34 {w : World} {g : Nat} (h : Blk w g 34 cstZ) : w.cell? ⟨g, 0, none⟩ = some (.int .i64 0) ∧ w.cell? ⟨g, 1, none⟩ = some (.int .i64 0) ∧ w.cell? ⟨g, 2, none⟩ = some (.int .i64 0) ∧ w.cell? ⟨g, 3, none⟩ = some (.int .i64 0) ∧ (∀ o, w.frozen? ⟨g, o, none⟩ = false) ∧ g < w.heap.size ∧ w.heap.size ≠ g ∧ g ≠ w.heap.size :=
  ⟨by rw [h.cell]; rfl, by rw [h.cell]; rfl, by rw [h.cell]; rfl, by rw [h.cell]; rfl, fun o => h.frozen o, h.lt, Ne.symm (Nat.ne_of_lt h.lt), Nat.ne_of_lt h.lt⟩
theorem moveat_of {wr w3 W : World} {B x8 x9 gl gp XS : Nat} {s : Stk} {o : Out} {bl : Option Addr} {nl cl : Nat} {bp : Option Addr} {np cp : Nat} {c1 c2 c3 : Int}
    (ha : After w3 B x8 x9 #[.int .i64 s.qty, .int .i64 s.val, .int .i64 s.price, .slice bl nl cl, .slice bp np cp] #[.int .i64 0, .int .i64 c1, .int .i64 c2, .int .i64 c3] W) (hh : Hold wr w3) (h8 : wr.heap.size ≤ x8) (h9 : wr.heap.size ≤ x9) (hne : x8 ≠ x9)
    (hok : o.err = 0 → c1 = o.cst.qty ∧ c2 = o.cst.val ∧ c3 = o.cst.var ∧ ∃ g1 k1 g2 k2, bl = some ⟨g1, 0, none⟩ ∧ nl = o.lays.length ∧ bp = some ⟨g2, 0, none⟩ ∧ np = o.psts.length ∧ LRow w3 g1 cl o.lays k1 ∧ PRow w3 g2 cp o.psts k2 ∧ g1 ≠ g2 ∧ (g1 = gl ∨ XS ≤ g1) ∧ (g2 = gp ∨ XS ≤ g2))
    (hl : wr.heap.size ≤ gl ∧ gl ≠ x8 ∧ gl ≠ x9) (hp : wr.heap.size ≤ gp ∧ gp ≠ x8 ∧ gp ≠ x9) (hx : wr.heap.size ≤ XS ∧ (x8 < XS ∨ w3.heap.size ≤ x8) ∧ (x9 < XS ∨ w3.heap.size ≤ x9)) : MoveAt wr s o x8 x9 bl nl cl bp np cp c1 c2 c3 W := by
  refine ⟨ha.t, ha.c, Below.trans hh (ha.chg.below (Hold.size hh) (by simp; exact ⟨h8, h9⟩)), h8, h9, hne, fun h => ?_⟩
  obtain ⟨a1, a2, a3, g1, k1, g2, k2, b1, b2, b3, b4, r1, r2, _, x1, x2⟩ := hok h
  have l1 := r1.blk.lt
  have l2 := r2.blk.lt
  exact ⟨a1, a2, a3, g1, k1, g2, k2, b1, b2, b3, b4, r1.of_blk (ha.blk r1.blk (by omega) (by omega)), r2.of_blk (ha.blk r2.blk (by omega) (by omega)), by omega, by omega, by omega, by omega, by omega, by omega⟩
theorem do_seq (s : Stk) (m : Mov) : (doM s m).cst.seq = m.seq := by
  unfold doM
  split
  · rfl
  split
  · unfold issueStepM; split <;> rfl
  split
  · unfold backM; simp only; split
    · rfl
    · split <;> rfl
  split
  · unfold sendM; simp only; split
    · rfl
    · split
      · rfl
      · split <;> rfl
  split
  · unfold landM; simp only; split
    · rfl
    · split
      · rfl
      · split
        · rfl
        · split <;> split <;> rfl
  · rfl
theorem do_lays_len (s : Stk) (m : Mov) (hn : s.lays.length ≤ 900) : (doM s m).lays.length ≤ 1000 := by have := do_len s m; omega

set_option maxRecDepth 100000 in
set_option maxHeartbeats 16000000 in
theorem rstep_q (s : Stk) (m : Mov) (bl : Option Addr) (cl : Nat) (bp : Option Addr) (cp : Nat) (w : World) (hl : OwnL w 0 (.slice bl s.lays.length cl) s.lays) (hp : OwnP w 0 (.slice bp s.psts.length cp) s.psts) (hn : s.lays.length ≤ 900) (hnp : s.psts.length ≤ 900)
    (hG : Good s) (si : m.item.size ≤ 9223372036854775807) (sz : m.lot.size ≤ 9223372036854775807) :
    Calls Tryd.prog 15 #[.agg #[.int .i64 s.qty, .int .i64 s.val, .int .i64 s.price, .slice bl s.lays.length cl, .slice bp s.psts.length cp], m.v] w (StepQ (stepM s m) w) := by
  have hb : Below w.heap.size w ((((w.alloc (.cells #[.int .i64 s.qty, .int .i64 s.val, .int .i64 s.price, .slice bl s.lays.length cl, .slice bp s.psts.length cp] 32)).alloc (.cells (mCells m) 38)).alloc (.cells stkZ 32)).alloc (.cells cstZ 34)) := ((((Below.refl _ _).alloc (Nat.le_refl _) _).alloc (by simp) _).alloc (by simp; omega) _).alloc (by simp; omega) _
  have hA : Blk ((((w.alloc (.cells #[.int .i64 s.qty, .int .i64 s.val, .int .i64 s.price, .slice bl s.lays.length cl, .slice bp s.psts.length cp] 32)).alloc (.cells (mCells m) 38)).alloc (.cells stkZ 32)).alloc (.cells cstZ 34)) w.heap.size 32 #[.int .i64 s.qty, .int .i64 s.val, .int .i64 s.price, .slice bl s.lays.length cl, .slice bp s.psts.length cp] := (((Blk.new _ _ _).alloc _).alloc _).alloc _
  have hM : Blk ((((w.alloc (.cells #[.int .i64 s.qty, .int .i64 s.val, .int .i64 s.price, .slice bl s.lays.length cl, .slice bp s.psts.length cp] 32)).alloc (.cells (mCells m) 38)).alloc (.cells stkZ 32)).alloc (.cells cstZ 34)) (w.heap.size + 1) 38 (mCells m) := ((Blk.new2 _ _ _ _).alloc _).alloc _
  have hZ : Blk ((((w.alloc (.cells #[.int .i64 s.qty, .int .i64 s.val, .int .i64 s.price, .slice bl s.lays.length cl, .slice bp s.psts.length cp] 32)).alloc (.cells (mCells m) 38)).alloc (.cells stkZ 32)).alloc (.cells cstZ 34)) (w.heap.size + 2) 32 stkZ := by
    have := (Blk.new ((w.alloc (.cells #[.int .i64 s.qty, .int .i64 s.val, .int .i64 s.price, .slice bl s.lays.length cl, .slice bp s.psts.length cp] 32)).alloc (.cells (mCells m) 38)) 32 stkZ).alloc (.cells cstZ 34)
    simpa using this
  have hC : Blk ((((w.alloc (.cells #[.int .i64 s.qty, .int .i64 s.val, .int .i64 s.price, .slice bl s.lays.length cl, .slice bp s.psts.length cp] 32)).alloc (.cells (mCells m) 38)).alloc (.cells stkZ 32)).alloc (.cells cstZ 34)) (w.heap.size + 3) 34 cstZ := by
    have := Blk.new (((w.alloc (.cells #[.int .i64 s.qty, .int .i64 s.val, .int .i64 s.price, .slice bl s.lays.length cl, .slice bp s.psts.length cp] 32)).alloc (.cells (mCells m) 38)).alloc (.cells stkZ 32)) 34 cstZ
    simpa using this
  have hs : ((((w.alloc (.cells #[.int .i64 s.qty, .int .i64 s.val, .int .i64 s.price, .slice bl s.lays.length cl, .slice bp s.psts.length cp] 32)).alloc (.cells (mCells m) 38)).alloc (.cells stkZ 32)).alloc (.cells cstZ 34)).heap.size = w.heap.size + 4 := by simp
  have hF : SF ((((w.alloc (.cells #[.int .i64 s.qty, .int .i64 s.val, .int .i64 s.price, .slice bl s.lays.length cl, .slice bp s.psts.length cp] 32)).alloc (.cells (mCells m) 38)).alloc (.cells stkZ 32)).alloc (.cells cstZ 34)) w.heap.size s m bl cl bp cp := ⟨hA, hM, hZ, hC, hl.below' hb, hp.below' hb⟩
  clear hl hp hA hM hZ hC
  go_enter Tryd.func15, Tryd.ntmps15
  go_upto_region 1 with fail
  generalize ((((w.alloc (.cells #[.int .i64 s.qty, .int .i64 s.val, .int .i64 s.price, .slice bl s.lays.length cl, .slice bp s.psts.length cp] 32)).alloc (.cells (mCells m) 38)).alloc (.cells stkZ 32)).alloc (.cells cstZ 34)) = W at *
  have HF := Lib.hid hF; have HB := Lib.hid hb; have HS := Lib.hid hs; have HG := Lib.hid hG; clear hF hb hs hG
  generalize hb0 : w.heap.size = b0 at *
  have HB0 := Lib.hid hb0; clear hb0
  have a0 : W.cell? ⟨b0, 0, none⟩ = some (.int .i64 s.qty) := by rw [HF.out.x.cell]; rfl
  have a1 : W.cell? ⟨b0, 1, none⟩ = some (.int .i64 s.val) := by rw [HF.out.x.cell]; rfl
  have a2 : W.cell? ⟨b0, 2, none⟩ = some (.int .i64 s.price) := by rw [HF.out.x.cell]; rfl
  have a3 : W.cell? ⟨b0, 3, none⟩ = some (.slice bl s.lays.length cl) := by rw [HF.out.x.cell]; rfl
  have a4 : W.cell? ⟨b0, 4, none⟩ = some (.slice bp s.psts.length cp) := by rw [HF.out.x.cell]; rfl
  have m0 : W.cell? ⟨b0 + 1, 0, none⟩ = some (.int .i64 m.seq) := by rw [HF.out.m.cell]; rfl
  have m1 : W.cell? ⟨b0 + 1, 1, none⟩ = some (.int .i64 m.value) := by rw [HF.out.m.cell]; rfl
  have m2 : W.cell? ⟨b0 + 1, 2, none⟩ = some (.string m.item) := by rw [HF.out.m.cell]; rfl
  have m3 : W.cell? ⟨b0 + 1, 3, none⟩ = some (.int .i64 m.kind) := by rw [HF.out.m.cell]; rfl
  have m4 : W.cell? ⟨b0 + 1, 4, none⟩ = some (.int .i64 m.qty) := by rw [HF.out.m.cell]; rfl
  have m5 : W.cell? ⟨b0 + 1, 5, none⟩ = some (.int .i64 m.cost) := by rw [HF.out.m.cell]; rfl
  have m6 : W.cell? ⟨b0 + 1, 6, none⟩ = some (.string m.lot) := by rw [HF.out.m.cell]; rfl
  have m7 : W.cell? ⟨b0 + 1, 7, none⟩ = some (.int .i64 m.ref) := by rw [HF.out.m.cell]; rfl
  have hone := rone_any m W si sz
  by_cases he : oneM m = 0
  · have HE1 := Lib.hid he
    rw [he] at hone
    clear he
    go_wp2_with fail
    refine hone.mono ?_; rintro e w1 ⟨rfl, hb1⟩
    have hF1 := HF.out.below hb1
    have hbw := HB.out.trans (hb1.mono (by have := HS.out; omega))
    have hsz := hb1.size
    rw [HS.out] at hsz
    have a0 : w1.cell? ⟨b0, 0, none⟩ = some (.int .i64 s.qty) := by rw [hF1.x.cell]; rfl
    have a1 : w1.cell? ⟨b0, 1, none⟩ = some (.int .i64 s.val) := by rw [hF1.x.cell]; rfl
    have a2 : w1.cell? ⟨b0, 2, none⟩ = some (.int .i64 s.price) := by rw [hF1.x.cell]; rfl
    have a3 : w1.cell? ⟨b0, 3, none⟩ = some (.slice bl s.lays.length cl) := by rw [hF1.x.cell]; rfl
    have a4 : w1.cell? ⟨b0, 4, none⟩ = some (.slice bp s.psts.length cp) := by rw [hF1.x.cell]; rfl
    have m0 : w1.cell? ⟨b0 + 1, 0, none⟩ = some (.int .i64 m.seq) := by rw [hF1.m.cell]; rfl
    have m1 : w1.cell? ⟨b0 + 1, 1, none⟩ = some (.int .i64 m.value) := by rw [hF1.m.cell]; rfl
    have m2 : w1.cell? ⟨b0 + 1, 2, none⟩ = some (.string m.item) := by rw [hF1.m.cell]; rfl
    have m3 : w1.cell? ⟨b0 + 1, 3, none⟩ = some (.int .i64 m.kind) := by rw [hF1.m.cell]; rfl
    have m4 : w1.cell? ⟨b0 + 1, 4, none⟩ = some (.int .i64 m.qty) := by rw [hF1.m.cell]; rfl
    have m5 : w1.cell? ⟨b0 + 1, 5, none⟩ = some (.int .i64 m.cost) := by rw [hF1.m.cell]; rfl
    have m6 : w1.cell? ⟨b0 + 1, 6, none⟩ = some (.string m.lot) := by rw [hF1.m.cell]; rfl
    have m7 : w1.cell? ⟨b0 + 1, 7, none⟩ = some (.int .i64 m.ref) := by rw [hF1.m.cell]; rfl
    have HBW := Lib.hid hbw; have HF1 := Lib.hid hF1; clear hb1 hF1 hbw hone HF HB HS
    have hkn := known_any s.qty s.val s.price bl s.lays.length cl bp cp s.psts m.seq w1 HF1.out.p (by omega)
    rw [known_iff HG.out.p] at hkn
    by_cases hk : findM 0 m.seq s.psts < s.psts.length
    · have HX := Lib.hid (show stepM s m = ⟨8, zStk, zCst⟩ by unfold stepM; rw [if_neg (by simpa using HE1.out), if_pos hk])
      rw [show decide (findM 0 m.seq s.psts < s.psts.length) = true by simpa using hk] at hkn
      clear hk
      go_wp2_with fail
      refine hkn.mono ?_; rintro e w2 ⟨rfl, hb2⟩
      have hF2 := HF1.out.below hb2
      have hbw2 := HBW.out.trans (hb2.mono (by omega))
      have z0 : w2.cell? ⟨b0 + 2, 0, none⟩ = some (.int .i64 0) := by rw [hF2.z.cell]; rfl
      have z1 : w2.cell? ⟨b0 + 2, 1, none⟩ = some (.int .i64 0) := by rw [hF2.z.cell]; rfl
      have z2 : w2.cell? ⟨b0 + 2, 2, none⟩ = some (.int .i64 0) := by rw [hF2.z.cell]; rfl
      have z3 : w2.cell? ⟨b0 + 2, 3, none⟩ = some (.slice none 0 0) := by rw [hF2.z.cell]; rfl
      have z4 : w2.cell? ⟨b0 + 2, 4, none⟩ = some (.slice none 0 0) := by rw [hF2.z.cell]; rfl
      have y0 : w2.cell? ⟨b0 + 3, 0, none⟩ = some (.int .i64 0) := by rw [hF2.c.cell]; rfl
      have y1 : w2.cell? ⟨b0 + 3, 1, none⟩ = some (.int .i64 0) := by rw [hF2.c.cell]; rfl
      have y2 : w2.cell? ⟨b0 + 3, 2, none⟩ = some (.int .i64 0) := by rw [hF2.c.cell]; rfl
      have y3 : w2.cell? ⟨b0 + 3, 3, none⟩ = some (.int .i64 0) := by rw [hF2.c.cell]; rfl
      have fz := fun o => hF2.z.frozen o
      have fy := fun o => hF2.c.frozen o
      have HBW2 := Lib.hid hbw2; clear hb2 hF2 hbw2 hkn
      go_wp2_with fail
      refine bodyPost_ret (v := .tuple #[.agg stkZ, .agg cstZ, .int .i64 (8)]) (by simp [results, Tryd.results15, go_sem, *]) rfl ?_
      rw [HX.out]
      exact stepq_err HBW2.out HB0.out _ _ _ _ _ _ _ _ _
    · have hstep := step_do s m HE1.out hk _ rfl
      rw [show decide (findM 0 m.seq s.psts < s.psts.length) = false by simpa using hk] at hkn
      have hseq := do_seq s m
      have hdl := do_lays_len s m hn
      have HSTEP := Lib.hid hstep; have HSEQ := Lib.hid hseq; clear hstep hk hseq
      go_wp2_with fail
      refine hkn.mono ?_; rintro e wr ⟨rfl, hb2⟩
      have hF2 := HF1.out.below hb2
      have hbw2 := HBW.out.trans (hb2.mono (by omega))
      have hsz2 : b0 + 4 ≤ wr.heap.size := by have := hb2.size; omega
      have a0 : wr.cell? ⟨b0, 0, none⟩ = some (.int .i64 s.qty) := by rw [hF2.x.cell]; rfl
      have a1 : wr.cell? ⟨b0, 1, none⟩ = some (.int .i64 s.val) := by rw [hF2.x.cell]; rfl
      have a2 : wr.cell? ⟨b0, 2, none⟩ = some (.int .i64 s.price) := by rw [hF2.x.cell]; rfl
      have a3 : wr.cell? ⟨b0, 3, none⟩ = some (.slice bl s.lays.length cl) := by rw [hF2.x.cell]; rfl
      have a4 : wr.cell? ⟨b0, 4, none⟩ = some (.slice bp s.psts.length cp) := by rw [hF2.x.cell]; rfl
      have m0 : wr.cell? ⟨b0 + 1, 0, none⟩ = some (.int .i64 m.seq) := by rw [hF2.m.cell]; rfl
      have m1 : wr.cell? ⟨b0 + 1, 1, none⟩ = some (.int .i64 m.value) := by rw [hF2.m.cell]; rfl
      have m2 : wr.cell? ⟨b0 + 1, 2, none⟩ = some (.string m.item) := by rw [hF2.m.cell]; rfl
      have m3 : wr.cell? ⟨b0 + 1, 3, none⟩ = some (.int .i64 m.kind) := by rw [hF2.m.cell]; rfl
      have m4 : wr.cell? ⟨b0 + 1, 4, none⟩ = some (.int .i64 m.qty) := by rw [hF2.m.cell]; rfl
      have m5 : wr.cell? ⟨b0 + 1, 5, none⟩ = some (.int .i64 m.cost) := by rw [hF2.m.cell]; rfl
      have m6 : wr.cell? ⟨b0 + 1, 6, none⟩ = some (.string m.lot) := by rw [hF2.m.cell]; rfl
      have m7 : wr.cell? ⟨b0 + 1, 7, none⟩ = some (.int .i64 m.ref) := by rw [hF2.m.cell]; rfl
      have HBW2 := Lib.hid hbw2; have HF2 := Lib.hid hF2; clear hb2 hF2 hbw2 hkn hsz HF1 HBW
      have hone := one_of HE1.out
      have HONE := Lib.hid hone; clear hone
      have hmov := fun gl gp cl cp kl kp W' h1 h2 h3 => rmove_any s m gl gp cl cp kl kp W' h1 h2 h3 hn hnp HG.out HONE.out
      generalize doM s m = o at *
      go_upto_region 6 with fail
      go_cut [8, 9, 10] (fun v8 v9 v10 W => ∃ x8 x9 bl1 nl1 cl1 bp1 np1 cp1 c1 c2 c3, v8 = .pointer (some ⟨x8, 0, none⟩) ∧ v9 = .pointer (some ⟨x9, 0, none⟩) ∧ v10 = .int .i64 o.err ∧ MoveAt wr s o x8 x9 bl1 nl1 cl1 bp1 np1 cp1 c1 c2 c3 W)
      case first =>
        have hh0 : Hold wr wr := Below.refl _ _
        have hcl : ∀ X, Hold wr X → Calls Tryd.prog 20 #[.agg #[.int .i64 s.qty, .int .i64 s.val, .int .i64 s.price, .slice bl s.lays.length cl, .slice bp s.psts.length cp]] X fun e w' => Hold wr X ∧ ClonePost s.qty s.val s.price s.lays s.psts X e w' := fun X h => (clone_any s.qty s.val s.price bl cl bp cp s.lays s.psts X (HF2.out.l.below' h) (HF2.out.p.below' h) hn hnp).mono fun e w' hp => ⟨h, hp⟩
        have q0 : ∀ w', Hold wr w' → w'.cell? ⟨b0, 0, none⟩ = some (.int .i64 s.qty) := fun w' h => by rw [(HF2.out.below h).x.cell]; rfl
        have q1 : ∀ w', Hold wr w' → w'.cell? ⟨b0, 1, none⟩ = some (.int .i64 s.val) := fun w' h => by rw [(HF2.out.below h).x.cell]; rfl
        have q2 : ∀ w', Hold wr w' → w'.cell? ⟨b0, 2, none⟩ = some (.int .i64 s.price) := fun w' h => by rw [(HF2.out.below h).x.cell]; rfl
        have q3 : ∀ w', Hold wr w' → w'.cell? ⟨b0, 3, none⟩ = some (.slice bl s.lays.length cl) := fun w' h => by rw [(HF2.out.below h).x.cell]; rfl
        have q4 : ∀ w', Hold wr w' → w'.cell? ⟨b0, 4, none⟩ = some (.slice bp s.psts.length cp) := fun w' h => by rw [(HF2.out.below h).x.cell]; rfl
        have r0 : ∀ w', Hold wr w' → w'.cell? ⟨b0 + 1, 0, none⟩ = some (.int .i64 m.seq) := fun w' h => by rw [(HF2.out.below h).m.cell]; rfl
        have r1 : ∀ w', Hold wr w' → w'.cell? ⟨b0 + 1, 1, none⟩ = some (.int .i64 m.value) := fun w' h => by rw [(HF2.out.below h).m.cell]; rfl
        have r2 : ∀ w', Hold wr w' → w'.cell? ⟨b0 + 1, 2, none⟩ = some (.string m.item) := fun w' h => by rw [(HF2.out.below h).m.cell]; rfl
        have r3 : ∀ w', Hold wr w' → w'.cell? ⟨b0 + 1, 3, none⟩ = some (.int .i64 m.kind) := fun w' h => by rw [(HF2.out.below h).m.cell]; rfl
        have r4 : ∀ w', Hold wr w' → w'.cell? ⟨b0 + 1, 4, none⟩ = some (.int .i64 m.qty) := fun w' h => by rw [(HF2.out.below h).m.cell]; rfl
        have r5 : ∀ w', Hold wr w' → w'.cell? ⟨b0 + 1, 5, none⟩ = some (.int .i64 m.cost) := fun w' h => by rw [(HF2.out.below h).m.cell]; rfl
        have r6 : ∀ w', Hold wr w' → w'.cell? ⟨b0 + 1, 6, none⟩ = some (.string m.lot) := fun w' h => by rw [(HF2.out.below h).m.cell]; rfl
        have r7 : ∀ w', Hold wr w' → w'.cell? ⟨b0 + 1, 7, none⟩ = some (.int .i64 m.ref) := fun w' h => by rw [(HF2.out.below h).m.cell]; rfl
        clear a0 a1 a2 a3 a4 m0 m1 m2 m3 m4 m5 m6 m7
        go_region_held3 (fun w' => Hold wr w')
          (((try dsimp only); (repeat' first | with_reducible assumption | with_reducible refine Hold.drew ?_ | with_reducible refine Hold.alloc ?_ _ | with_reducible refine Hold.setCell ?_ (by simp <;> omega) _)))
          ((first
          | (go_at_call 20; refine (hcl _ ?_).mono ?_
             exact (by ((try dsimp only); (repeat' first | with_reducible assumption | with_reducible refine Hold.drew ?_ | with_reducible refine Hold.alloc ?_ _ | with_reducible refine Hold.setCell ?_ (by simp <;> omega) _)))
             rintro e w2 ⟨hX0, gl, cl0, gp, cp0, kl, kp, rfl, hb2, hrl, hrp, hlp, hgl, hgp⟩
             (first | (have z2 : Blk w2 wr.heap.size 32 stkZ := Blk.below' (by with_reducible first | exact (Blk.new _ _ _).drew | exact ((Blk.new _ _ _).alloc _).drew | exact Blk.new _ _ _ | exact (Blk.new _ _ _).alloc _) hb2; have Hz2 := Lib.hid z2; clear z2) | (have z2 : Blk w2 (wr.heap.size + 1) 32 stkZ := Blk.below' (by with_reducible first | exact (Blk.new2 _ _ _ _).drew | exact Blk.new2 _ _ _ _) hb2; have Hz2 := Lib.hid z2; clear z2) | skip)
             (first | (have v2 : Blk w2 wr.heap.size 34 cstZ := Blk.below' (by with_reducible first | exact (Blk.new _ _ _).drew | exact ((Blk.new _ _ _).alloc _).drew | exact Blk.new _ _ _ | exact (Blk.new _ _ _).alloc _) hb2; have Hv2 := Lib.hid v2; clear v2) | (have v2 : Blk w2 (wr.heap.size + 1) 34 cstZ := Blk.below' (by with_reducible first | exact (Blk.new2 _ _ _ _).drew | exact Blk.new2 _ _ _ _) hb2; have Hv2 := Lib.hid v2; clear v2) | skip)
             have hh2 : Hold wr w2 := Hold.bel hX0 hb2
             have hs2 := hb2.size
             have hs0 := Hold.size hX0
             (try simp only [World.size_alloc, World.size_drew] at hs2 hgl hgp hs0)
             have lg2 := hrl.blk.lt
             have lp2 := hrp.blk.lt
             have hmv := fun X (h : Below w2.heap.size w2 X) => (hmov gl gp cl0 cp0 kl kp X (hrl.of_blk (hrl.blk.below' h)) (hrp.of_blk (hrp.blk.below' h)) hlp).mono fun e w' hp => (show Below w2.heap.size w2 X ∧ _ from ⟨h, hp⟩)
             have HMV := Lib.hid hmv; clear hmv hb2 hrl hrp)
          | (go_at_call 39; refine (HMV.out _ ?_).mono ?_
             exact (by (repeat' first | with_reducible exact Below.refl _ _ | with_reducible refine Below.drew ?_ | with_reducible refine Below.alloc ?_ (by simp <;> omega) _))
             rintro e w3 ⟨hX, bl1, nl1, cl1, bp1, np1, cp1, c1, c2, c3, rfl, hch, hok⟩
             (first | (have zz : Blk w3 _ 32 stkZ := Blk.chg (Hz2.out.below' hX) hch (by simp; omega); have Hzz := Lib.hid zz; obtain ⟨z0, z1, z2, z3, z4, gz, lz, nz, nz1⟩ := z32 zz; clear zz) | (have zz : Blk w3 w2.heap.size 32 stkZ := Blk.chg (by with_reducible first | exact (Blk.new _ _ _).drew | exact ((Blk.new _ _ _).alloc _).drew | exact Blk.new _ _ _ | exact (Blk.new _ _ _).alloc _) hch (by simp; omega); have Hzz := Lib.hid zz; obtain ⟨z0, z1, z2, z3, z4, gz, lz, nz, nz1⟩ := z32 zz; clear zz) | (have zz : Blk w3 (w2.heap.size + 1) 32 stkZ := Blk.chg (by with_reducible first | exact (Blk.new2 _ _ _ _).drew | exact Blk.new2 _ _ _ _) hch (by simp; omega); have Hzz := Lib.hid zz; obtain ⟨z0, z1, z2, z3, z4, gz, lz, nz, nz1⟩ := z32 zz; clear zz) | skip)
             (first | (have vv : Blk w3 _ 34 cstZ := Blk.chg (Hv2.out.below' hX) hch (by simp; omega); have Hvv := Lib.hid vv; obtain ⟨v0, v1, v2, v3, gv, lv, nv, nv1⟩ := z34 vv; clear vv) | (have vv : Blk w3 w2.heap.size 34 cstZ := Blk.chg (by with_reducible first | exact (Blk.new _ _ _).drew | exact ((Blk.new _ _ _).alloc _).drew | exact Blk.new _ _ _ | exact (Blk.new _ _ _).alloc _) hch (by simp; omega); have Hvv := Lib.hid vv; obtain ⟨v0, v1, v2, v3, gv, lv, nv, nv1⟩ := z34 vv; clear vv) | (have vv : Blk w3 (w2.heap.size + 1) 34 cstZ := Blk.chg (by with_reducible first | exact (Blk.new2 _ _ _ _).drew | exact Blk.new2 _ _ _ _) hch (by simp; omega); have Hvv := Lib.hid vv; obtain ⟨v0, v1, v2, v3, gv, lv, nv, nv1⟩ := z34 vv; clear vv) | skip)
             have hh3 : Hold wr w3 := Hold.bel2 hh2 hX (hch.below (Nat.le_trans (Hold.size hh2) hX.size) (by simp; omega))
             have hs3 := hch.size
             (try simp only [World.size_alloc] at hs3 hok)
             have HOK := Lib.hid hok; clear hok hch hX)))
        · go_wp2_with fail
          go_meet
          exact ⟨w3.heap.size, w3.heap.size + 1, bl1, nl1, cl1, bp1, np1, cp1, c1, c2, c3, rfl, rfl, rfl, moveat_of (B := w3.heap.size) (after1 _ _ _ _ _ _ _ _ _ _ _) hh3 (by omega) (by omega) (by omega) HOK.out (by omega) (by omega) (by omega)⟩
        · go_wp2_with fail
          go_meet
          exact ⟨w3.heap.size + 1, w3.heap.size, bl1, nl1, cl1, bp1, np1, cp1, c1, c2, c3, rfl, rfl, rfl, moveat_of (B := w3.heap.size) (after2 _ _ _ _ _ _ _ _ _ _ _) hh3 (by omega) (by omega) (by omega) HOK.out (by omega) (by omega) (by omega)⟩
        · go_wp2_with fail
          go_meet
          exact ⟨w2.heap.size, w3.heap.size, bl1, nl1, cl1, bp1, np1, cp1, c1, c2, c3, rfl, rfl, rfl, moveat_of (B := w3.heap.size) (after3 _ _ _ _ _ _ _ _ _ _ _ _ Hzz.out lz) hh3 (by omega) (by omega) (by omega) HOK.out (by omega) (by omega) (by omega)⟩
        · go_wp2_with fail
          go_meet
          exact ⟨w2.heap.size, w2.heap.size + 1, bl1, nl1, cl1, bp1, np1, cp1, c1, c2, c3, rfl, rfl, rfl, moveat_of (B := w3.heap.size) (after4 _ _ _ _ _ _ _ _ _ _ _ _ Hzz.out Hvv.out (by omega) lz lv) hh3 (by omega) (by omega) (by omega) HOK.out (by omega) (by omega) (by omega)⟩
        · go_wp2_with fail
          go_meet
          exact ⟨w3.heap.size, w2.heap.size, bl1, nl1, cl1, bp1, np1, cp1, c1, c2, c3, rfl, rfl, rfl, moveat_of (B := w3.heap.size) (after5 _ _ _ _ _ _ _ _ _ _ _ _ Hvv.out lv) hh3 (by omega) (by omega) (by omega) HOK.out (by omega) (by omega) (by omega)⟩
        · go_wp2_with fail
          go_meet
          exact ⟨w2.heap.size + 1, w2.heap.size, bl1, nl1, cl1, bp1, np1, cp1, c1, c2, c3, rfl, rfl, rfl, moveat_of (B := w3.heap.size) (after4 _ _ _ _ _ _ _ _ _ _ _ _ Hzz.out Hvv.out (by omega) lz lv) hh3 (by omega) (by omega) (by omega) HOK.out (by omega) (by omega) (by omega)⟩
        · go_wp2_with fail
          go_meet
          exact ⟨wr.heap.size, w3.heap.size, bl1, nl1, cl1, bp1, np1, cp1, c1, c2, c3, rfl, rfl, rfl, moveat_of (B := w3.heap.size) (after3 _ _ _ _ _ _ _ _ _ _ _ _ Hzz.out lz) hh3 (by omega) (by omega) (by omega) HOK.out (by omega) (by omega) (by omega)⟩
        · go_wp2_with fail
          go_meet
          exact ⟨wr.heap.size, w2.heap.size, bl1, nl1, cl1, bp1, np1, cp1, c1, c2, c3, rfl, rfl, rfl, moveat_of (B := w3.heap.size) (after4 _ _ _ _ _ _ _ _ _ _ _ _ Hzz.out Hvv.out (by omega) lz lv) hh3 (by omega) (by omega) (by omega) HOK.out (by omega) (by omega) (by omega)⟩
        · go_wp2_with fail
          go_meet
          exact ⟨wr.heap.size, wr.heap.size + 1, bl1, nl1, cl1, bp1, np1, cp1, c1, c2, c3, rfl, rfl, rfl, moveat_of (B := w3.heap.size) (after4 _ _ _ _ _ _ _ _ _ _ _ _ Hzz.out Hvv.out (by omega) lz lv) hh3 (by omega) (by omega) (by omega) HOK.out (by omega) (by omega) (by omega)⟩
        · go_wp2_with fail
          go_meet
          exact ⟨w3.heap.size, wr.heap.size, bl1, nl1, cl1, bp1, np1, cp1, c1, c2, c3, rfl, rfl, rfl, moveat_of (B := w3.heap.size) (after5 _ _ _ _ _ _ _ _ _ _ _ _ Hvv.out lv) hh3 (by omega) (by omega) (by omega) HOK.out (by omega) (by omega) (by omega)⟩
        · go_wp2_with fail
          go_meet
          exact ⟨w2.heap.size, wr.heap.size, bl1, nl1, cl1, bp1, np1, cp1, c1, c2, c3, rfl, rfl, rfl, moveat_of (B := w3.heap.size) (after4 _ _ _ _ _ _ _ _ _ _ _ _ Hzz.out Hvv.out (by omega) lz lv) hh3 (by omega) (by omega) (by omega) HOK.out (by omega) (by omega) (by omega)⟩
        · go_wp2_with fail
          go_meet
          exact ⟨wr.heap.size + 1, wr.heap.size, bl1, nl1, cl1, bp1, np1, cp1, c1, c2, c3, rfl, rfl, rfl, moveat_of (B := w3.heap.size) (after4 _ _ _ _ _ _ _ _ _ _ _ _ Hzz.out Hvv.out (by omega) lz lv) hh3 (by omega) (by omega) (by omega) HOK.out (by omega) (by omega) (by omega)⟩
      case rest =>
        obtain ⟨x8, x9, bl1, nl1, cl1, bp1, np1, cp1, c1, c2, c3, rfl, rfl, rfl, hat⟩ := hcut
        clear a0 a1 a2 a3 a4 m0 m1 m2 m3 m4 m5 m6 m7 hmov
        generalize wc = W3 at *
        have hF3 := HF2.out.below hat.bel
        have hbw3 := HBW2.out.trans (hat.bel.mono (by omega))
        have h8 := hat.h8
        have h9 := hat.h9
        have hne := hat.ne
        have HBW3 := Lib.hid hbw3; have HF3 := Lib.hid hF3; have HAT := Lib.hid hat; clear hbw3 hF3 hat HF2 HBW2
        by_cases her : o.err = 0
        · have ht : (o.err == 0) = true := by simpa using her
          obtain ⟨rfl, rfl, rfl, g1, k1, g2, k2, rfl, rfl, rfl, rfl, hr1, hr2, n1, n2, n3, n4, n5, n6⟩ := HAT.out.ok her
          have HSTEP2 := Lib.hid (HSTEP.out.trans (by rw [if_neg (by simpa using her)]))
          have HER := Lib.hid her; clear her HSTEP
          have t0 : W3.cell? ⟨x8, 0, none⟩ = some (.int .i64 s.qty) := by rw [HAT.out.t.cell]; rfl
          have t1 : W3.cell? ⟨x8, 1, none⟩ = some (.int .i64 s.val) := by rw [HAT.out.t.cell]; rfl
          have t2 : W3.cell? ⟨x8, 2, none⟩ = some (.int .i64 s.price) := by rw [HAT.out.t.cell]; rfl
          have t3 : W3.cell? ⟨x8, 3, none⟩ = some (.slice (some ⟨g1, 0, none⟩) o.lays.length cl1) := by rw [HAT.out.t.cell]; rfl
          have t4 : W3.cell? ⟨x8, 4, none⟩ = some (.slice (some ⟨g2, 0, none⟩) o.psts.length cp1) := by rw [HAT.out.t.cell]; rfl
          have u0 : W3.cell? ⟨x9, 0, none⟩ = some (.int .i64 0) := by rw [HAT.out.c.cell]; rfl
          have u1 : W3.cell? ⟨x9, 1, none⟩ = some (.int .i64 o.cst.qty) := by rw [HAT.out.c.cell]; rfl
          have u2 : W3.cell? ⟨x9, 2, none⟩ = some (.int .i64 o.cst.val) := by rw [HAT.out.c.cell]; rfl
          have u3 : W3.cell? ⟨x9, 3, none⟩ = some (.int .i64 o.cst.var) := by rw [HAT.out.c.cell]; rfl
          have f8 := fun o => HAT.out.t.frozen o
          have f9 := fun o => HAT.out.c.frozen o
          have hne' : x9 ≠ x8 := Ne.symm hne
          have HR1 := Lib.hid hr1; have HR2 := Lib.hid hr2; clear hr1 hr2
          go_upto_region 11 with fail
          have t5 := (HAT.out.t.set 0 (.int .i64 (wrap64 (s.qty + o.cst.qty)))).set 1 (.int .i64 (wrap64 (s.val + o.cst.val)))
          have u5 := (HAT.out.c.set_other (a := ⟨x8, 0, none⟩) (.int .i64 (wrap64 (s.qty + o.cst.qty))) (by simp; omega)).set_other (a := ⟨x8, 1, none⟩) (.int .i64 (wrap64 (s.val + o.cst.val))) (by simp; omega)
          have z5 := (HF3.out.z.set_other (a := ⟨x8, 0, none⟩) (.int .i64 (wrap64 (s.qty + o.cst.qty))) (by simp; omega)).set_other (a := ⟨x8, 1, none⟩) (.int .i64 (wrap64 (s.val + o.cst.val))) (by simp; omega)
          have y5 := (HF3.out.c.set_other (a := ⟨x8, 0, none⟩) (.int .i64 (wrap64 (s.qty + o.cst.qty))) (by simp; omega)).set_other (a := ⟨x8, 1, none⟩) (.int .i64 (wrap64 (s.val + o.cst.val))) (by simp; omega)
          have m5 := (HF3.out.m.set_other (a := ⟨x8, 0, none⟩) (.int .i64 (wrap64 (s.qty + o.cst.qty))) (by simp; omega)).set_other (a := ⟨x8, 1, none⟩) (.int .i64 (wrap64 (s.val + o.cst.val))) (by simp; omega)
          have r5 := HR1.out.of_blk ((HR1.out.blk.set_other (a := ⟨x8, 0, none⟩) (.int .i64 (wrap64 (s.qty + o.cst.qty))) (by simp; omega)).set_other (a := ⟨x8, 1, none⟩) (.int .i64 (wrap64 (s.val + o.cst.val))) (by simp; omega))
          have p5 := HR2.out.of_blk ((HR2.out.blk.set_other (a := ⟨x8, 0, none⟩) (.int .i64 (wrap64 (s.qty + o.cst.qty))) (by simp; omega)).set_other (a := ⟨x8, 1, none⟩) (.int .i64 (wrap64 (s.val + o.cst.val))) (by simp; omega))
          have b5 := (HBW3.out.setCell (p := ⟨x8, 0, none⟩) (by simp; omega) (.int .i64 (wrap64 (s.qty + o.cst.qty)))).setCell (p := ⟨x8, 1, none⟩) (by simp; omega) (.int .i64 (wrap64 (s.val + o.cst.val)))
          have s5 : b0 + 4 ≤ ((W3.setCell ⟨x8, 0, none⟩ (.int .i64 (wrap64 (s.qty + o.cst.qty)))).setCell ⟨x8, 1, none⟩ (.int .i64 (wrap64 (s.val + o.cst.val)))).heap.size := by have := HAT.out.bel.size; simp; omega
          clear t0 t1 t2 t3 t4 u0 u1 u2 u3 f8 f9
          generalize ((W3.setCell ⟨x8, 0, none⟩ (.int .i64 (wrap64 (s.qty + o.cst.qty)))).setCell ⟨x8, 1, none⟩ (.int .i64 (wrap64 (s.val + o.cst.val)))) = W5 at *
          simp only [List.setIfInBounds_toArray, List.set_cons_zero, List.set_cons_succ] at t5
          have t0 : W5.cell? ⟨x8, 0, none⟩ = some (.int .i64 (wrap64 (s.qty + o.cst.qty))) := by rw [t5.cell]; rfl
          have t1 : W5.cell? ⟨x8, 1, none⟩ = some (.int .i64 (wrap64 (s.val + o.cst.val))) := by rw [t5.cell]; rfl
          have t2 : W5.cell? ⟨x8, 2, none⟩ = some (.int .i64 s.price) := by rw [t5.cell]; rfl
          have t3 : W5.cell? ⟨x8, 3, none⟩ = some (.slice (some ⟨g1, 0, none⟩) o.lays.length cl1) := by rw [t5.cell]; rfl
          have t4 : W5.cell? ⟨x8, 4, none⟩ = some (.slice (some ⟨g2, 0, none⟩) o.psts.length cp1) := by rw [t5.cell]; rfl
          have u0 : W5.cell? ⟨x9, 0, none⟩ = some (.int .i64 0) := by rw [u5.cell]; rfl
          have u1 : W5.cell? ⟨x9, 1, none⟩ = some (.int .i64 o.cst.qty) := by rw [u5.cell]; rfl
          have u2 : W5.cell? ⟨x9, 2, none⟩ = some (.int .i64 o.cst.val) := by rw [u5.cell]; rfl
          have u3 : W5.cell? ⟨x9, 3, none⟩ = some (.int .i64 o.cst.var) := by rw [u5.cell]; rfl
          have hfit := rfits_any (wrap64 (s.qty + o.cst.qty)) (wrap64 (s.val + o.cst.val)) s.price g1 cl1 (some ⟨g2, 0, none⟩) o.psts.length cp1 o.lays k1 o.cst.var W5 r5 hdl
          have T5 := Lib.hid t5; have U5 := Lib.hid u5; have Z5 := Lib.hid z5; have Y5 := Lib.hid y5; have M5 := Lib.hid m5; have R5 := Lib.hid r5; have P5 := Lib.hid p5; have B5 := Lib.hid b5
          clear t5 u5 z5 y5 m5 r5 p5 b5 HR1 HR2 HBW3 HF3 HAT
          by_cases hov : overM o.lays (wrap64 (s.qty + o.cst.qty)) (wrap64 (s.val + o.cst.val)) o.cst.var = true
          · have HX := Lib.hid (HSTEP2.out.trans (if_pos hov))
            rw [hov] at hfit
            clear hov
            go_wp2_with fail
            refine hfit.mono ?_; rintro e w6 ⟨rfl, hb6⟩
            have z6 := Z5.out.below' hb6
            have y6 := Y5.out.below' hb6
            have hb := B5.out.trans (hb6.mono (by omega))
            have z0 : w6.cell? ⟨b0 + 2, 0, none⟩ = some (.int .i64 0) := by rw [z6.cell]; rfl
            have z1 : w6.cell? ⟨b0 + 2, 1, none⟩ = some (.int .i64 0) := by rw [z6.cell]; rfl
            have z2 : w6.cell? ⟨b0 + 2, 2, none⟩ = some (.int .i64 0) := by rw [z6.cell]; rfl
            have z3 : w6.cell? ⟨b0 + 2, 3, none⟩ = some (.slice none 0 0) := by rw [z6.cell]; rfl
            have z4 : w6.cell? ⟨b0 + 2, 4, none⟩ = some (.slice none 0 0) := by rw [z6.cell]; rfl
            have y0 : w6.cell? ⟨b0 + 3, 0, none⟩ = some (.int .i64 0) := by rw [y6.cell]; rfl
            have y1 : w6.cell? ⟨b0 + 3, 1, none⟩ = some (.int .i64 0) := by rw [y6.cell]; rfl
            have y2 : w6.cell? ⟨b0 + 3, 2, none⟩ = some (.int .i64 0) := by rw [y6.cell]; rfl
            have y3 : w6.cell? ⟨b0 + 3, 3, none⟩ = some (.int .i64 0) := by rw [y6.cell]; rfl
            have fz := fun o => z6.frozen o
            have fy := fun o => y6.frozen o
            have HB6 := Lib.hid hb; clear z6 y6 hb hb6 hfit
            go_wp2_with fail
            refine bodyPost_ret (v := .tuple #[.agg stkZ, .agg cstZ, .int .i64 (4)]) (by simp [results, Tryd.results15, go_sem, *]) rfl ?_
            rw [HX.out]
            exact stepq_err HB6.out HB0.out _ _ _ _ _ _ _ _ _
          · have hov' : overM o.lays (wrap64 (s.qty + o.cst.qty)) (wrap64 (s.val + o.cst.val)) o.cst.var = false := by simpa using hov
            have HX := Lib.hid (HSTEP2.out.trans (if_neg hov))
            rw [hov'] at hfit
            clear hov hov'
            go_wp2_with fail
            refine hfit.mono ?_; rintro e w6 ⟨rfl, hb6⟩
            have m6 := M5.out.below' hb6
            have u6 := U5.out.below' hb6
            have hb := B5.out.trans (hb6.mono (by omega))
            have ms : w6.cell? ⟨b0 + 1, 0, none⟩ = some (.int .i64 m.seq) := by rw [m6.cell]; rfl
            have u0 : w6.cell? ⟨x9, 0, none⟩ = some (.int .i64 0) := by rw [u6.cell]; rfl
            have u1 : w6.cell? ⟨x9, 1, none⟩ = some (.int .i64 o.cst.qty) := by rw [u6.cell]; rfl
            have u2 : w6.cell? ⟨x9, 2, none⟩ = some (.int .i64 o.cst.val) := by rw [u6.cell]; rfl
            have u3 : w6.cell? ⟨x9, 3, none⟩ = some (.int .i64 o.cst.var) := by rw [u6.cell]; rfl
            have fu := fun o => u6.frozen o
            have HU6 := Lib.hid u6; have HB6 := Lib.hid hb; have HB56 := Lib.hid hb6; clear m6 u6 hb hb6 hfit t0 t1 t2 t3 t4
            go_upto_region 14 with fail
            have t7 := (T5.out.below' HB56.out).set_other (a := ⟨x9, 0, none⟩) (.int .i64 m.seq) (by simp; omega)
            have z7 := (Z5.out.below' HB56.out).set_other (a := ⟨x9, 0, none⟩) (.int .i64 m.seq) (by simp; omega)
            have y7 := (Y5.out.below' HB56.out).set_other (a := ⟨x9, 0, none⟩) (.int .i64 m.seq) (by simp; omega)
            have r7 := R5.out.of_blk ((R5.out.blk.below' HB56.out).set_other (a := ⟨x9, 0, none⟩) (.int .i64 m.seq) (by simp; omega))
            have p7 := P5.out.of_blk ((P5.out.blk.below' HB56.out).set_other (a := ⟨x9, 0, none⟩) (.int .i64 m.seq) (by simp; omega))
            have u7 := HU6.out.set 0 (.int .i64 m.seq)
            have b7 := HB6.out.setCell (p := ⟨x9, 0, none⟩) (by simp; omega) (.int .i64 m.seq)
            clear u0 u1 u2 u3 fu ms
            generalize (w6.setCell ⟨x9, 0, none⟩ (.int .i64 m.seq)) = W7 at *
            simp only [List.setIfInBounds_toArray, List.set_cons_zero] at u7
            have t0 : W7.cell? ⟨x8, 0, none⟩ = some (.int .i64 (wrap64 (s.qty + o.cst.qty))) := by rw [t7.cell]; rfl
            have t1 : W7.cell? ⟨x8, 1, none⟩ = some (.int .i64 (wrap64 (s.val + o.cst.val))) := by rw [t7.cell]; rfl
            have t2 : W7.cell? ⟨x8, 2, none⟩ = some (.int .i64 s.price) := by rw [t7.cell]; rfl
            have t3 : W7.cell? ⟨x8, 3, none⟩ = some (.slice (some ⟨g1, 0, none⟩) o.lays.length cl1) := by rw [t7.cell]; rfl
            have t4 : W7.cell? ⟨x8, 4, none⟩ = some (.slice (some ⟨g2, 0, none⟩) o.psts.length cp1) := by rw [t7.cell]; rfl
            have u0 : W7.cell? ⟨x9, 0, none⟩ = some (.int .i64 m.seq) := by rw [u7.cell]; rfl
            have u1 : W7.cell? ⟨x9, 1, none⟩ = some (.int .i64 o.cst.qty) := by rw [u7.cell]; rfl
            have u2 : W7.cell? ⟨x9, 2, none⟩ = some (.int .i64 o.cst.val) := by rw [u7.cell]; rfl
            have u3 : W7.cell? ⟨x9, 3, none⟩ = some (.int .i64 o.cst.var) := by rw [u7.cell]; rfl
            have z0 : W7.cell? ⟨b0 + 2, 0, none⟩ = some (.int .i64 0) := by rw [z7.cell]; rfl
            have z1 : W7.cell? ⟨b0 + 2, 1, none⟩ = some (.int .i64 0) := by rw [z7.cell]; rfl
            have z2 : W7.cell? ⟨b0 + 2, 2, none⟩ = some (.int .i64 0) := by rw [z7.cell]; rfl
            have z3 : W7.cell? ⟨b0 + 2, 3, none⟩ = some (.slice none 0 0) := by rw [z7.cell]; rfl
            have z4 : W7.cell? ⟨b0 + 2, 4, none⟩ = some (.slice none 0 0) := by rw [z7.cell]; rfl
            have y0 : W7.cell? ⟨b0 + 3, 0, none⟩ = some (.int .i64 0) := by rw [y7.cell]; rfl
            have y1 : W7.cell? ⟨b0 + 3, 1, none⟩ = some (.int .i64 0) := by rw [y7.cell]; rfl
            have y2 : W7.cell? ⟨b0 + 3, 2, none⟩ = some (.int .i64 0) := by rw [y7.cell]; rfl
            have y3 : W7.cell? ⟨b0 + 3, 3, none⟩ = some (.int .i64 0) := by rw [y7.cell]; rfl
            have fz := fun o => z7.frozen o
            have fy := fun o => y7.frozen o
            have R7 := Lib.hid r7; have P7 := Lib.hid p7; have B7 := Lib.hid b7; clear r7 p7 b7 t7 u7 z7 y7
            have e1 : b0 + 1 + 1 ≠ x8 := by omega
            have e2 : b0 + 1 + 1 + 1 ≠ x8 := by omega
            have e3 : x8 ≠ b0 + 1 + 1 := by omega
            have e4 : x8 ≠ b0 + 1 + 1 + 1 := by omega
            have e5 : b0 + 1 + 1 ≠ x9 := by omega
            have e6 : b0 + 1 + 1 + 1 ≠ x9 := by omega
            have e7 : x9 ≠ b0 + 1 + 1 := by omega
            have e8 : x9 ≠ b0 + 1 + 1 + 1 := by omega
            go_region_held3 (fun w' => w'.cell? ⟨x8, 0, none⟩ = some (.int .i64 (wrap64 (s.qty + o.cst.qty))) ∧ w'.cell? ⟨x8, 1, none⟩ = some (.int .i64 (wrap64 (s.val + o.cst.val))) ∧ w'.cell? ⟨x8, 2, none⟩ = some (.int .i64 s.price) ∧ w'.cell? ⟨x8, 3, none⟩ = some (.slice (some ⟨g1, 0, none⟩) o.lays.length cl1) ∧ w'.cell? ⟨x8, 4, none⟩ = some (.slice (some ⟨g2, 0, none⟩) o.psts.length cp1) ∧ w'.cell? ⟨x9, 0, none⟩ = some (.int .i64 m.seq) ∧ w'.cell? ⟨x9, 1, none⟩ = some (.int .i64 o.cst.qty) ∧ w'.cell? ⟨x9, 2, none⟩ = some (.int .i64 o.cst.val) ∧ w'.cell? ⟨x9, 3, none⟩ = some (.int .i64 o.cst.var)) (go_keep) (fail)
            all_goals go_wp2_with fail
            all_goals
              refine bodyPost_ret (v := .tuple #[.agg #[.int .i64 (wrap64 (s.qty + o.cst.qty)), .int .i64 (wrap64 (s.val + o.cst.val)), .int .i64 s.price, .slice (some ⟨g1, 0, none⟩) o.lays.length cl1, .slice (some ⟨g2, 0, none⟩) o.psts.length cp1], .agg #[.int .i64 m.seq, .int .i64 o.cst.qty, .int .i64 o.cst.val, .int .i64 o.cst.var], .int .i64 0]) (by simp [results, Tryd.results15, go_sem, *]) rfl ?_
              rw [HX.out]
              have hb0 := HB0.out
              refine ⟨_, cl1, _, cp1, (by rw [HSEQ.out]), ?_, .inr ⟨g1, cl1, k1, rfl, by omega, R7.out.of_blk ?_⟩, .inr ⟨g2, cp1, k2, rfl, by omega, P7.out.of_blk ?_⟩⟩
              · rw [hb0]; repeat (first | with_reducible exact B7.out | with_reducible refine Below.drew ?_ | with_reducible refine Below.setCell ?_ (by simp <;> omega) _)
              · have hbl := R7.out.blk; repeat (first | with_reducible exact hbl | with_reducible refine Blk.drew ?_ | with_reducible refine Blk.set_other ?_ _ (by simp <;> omega))
              · have hbl := P7.out.blk; repeat (first | with_reducible exact hbl | with_reducible refine Blk.drew ?_ | with_reducible refine Blk.set_other ?_ _ (by simp <;> omega))
        · have ht : (o.err == 0) = false := by simpa using her
          have HX := Lib.hid (HSTEP.out.trans (if_pos (by simpa using her))); clear her HSTEP
          have z0 : W3.cell? ⟨b0 + 2, 0, none⟩ = some (.int .i64 0) := by rw [HF3.out.z.cell]; rfl
          have z1 : W3.cell? ⟨b0 + 2, 1, none⟩ = some (.int .i64 0) := by rw [HF3.out.z.cell]; rfl
          have z2 : W3.cell? ⟨b0 + 2, 2, none⟩ = some (.int .i64 0) := by rw [HF3.out.z.cell]; rfl
          have z3 : W3.cell? ⟨b0 + 2, 3, none⟩ = some (.slice none 0 0) := by rw [HF3.out.z.cell]; rfl
          have z4 : W3.cell? ⟨b0 + 2, 4, none⟩ = some (.slice none 0 0) := by rw [HF3.out.z.cell]; rfl
          have y0 : W3.cell? ⟨b0 + 3, 0, none⟩ = some (.int .i64 0) := by rw [HF3.out.c.cell]; rfl
          have y1 : W3.cell? ⟨b0 + 3, 1, none⟩ = some (.int .i64 0) := by rw [HF3.out.c.cell]; rfl
          have y2 : W3.cell? ⟨b0 + 3, 2, none⟩ = some (.int .i64 0) := by rw [HF3.out.c.cell]; rfl
          have y3 : W3.cell? ⟨b0 + 3, 3, none⟩ = some (.int .i64 0) := by rw [HF3.out.c.cell]; rfl
          have fz := fun o => HF3.out.z.frozen o
          have fy := fun o => HF3.out.c.frozen o
          generalize o.err = er at *
          go_wp2_with fail
          refine bodyPost_ret (v := .tuple #[.agg stkZ, .agg cstZ, .int .i64 (er)]) (by simp [results, Tryd.results15, go_sem, *]) rfl ?_
          rw [HX.out]
          exact stepq_err HBW3.out HB0.out _ _ _ _ _ _ _ _ _
  · have HX := Lib.hid (show stepM s m = ⟨oneM m, zStk, zCst⟩ by unfold stepM; rw [if_pos (by simpa using he)])
    have t : (oneM m == 0) = false := by simpa using he
    clear he
    generalize oneM m = er at *
    go_wp2_with fail
    refine hone.mono ?_; rintro e w1 ⟨rfl, hb1⟩
    have hF1 := HF.out.below hb1
    have hbw := HB.out.trans (hb1.mono (by have := HS.out; omega))
    have z0 : w1.cell? ⟨b0 + 2, 0, none⟩ = some (.int .i64 0) := by rw [hF1.z.cell]; rfl
    have z1 : w1.cell? ⟨b0 + 2, 1, none⟩ = some (.int .i64 0) := by rw [hF1.z.cell]; rfl
    have z2 : w1.cell? ⟨b0 + 2, 2, none⟩ = some (.int .i64 0) := by rw [hF1.z.cell]; rfl
    have z3 : w1.cell? ⟨b0 + 2, 3, none⟩ = some (.slice none 0 0) := by rw [hF1.z.cell]; rfl
    have z4 : w1.cell? ⟨b0 + 2, 4, none⟩ = some (.slice none 0 0) := by rw [hF1.z.cell]; rfl
    have y0 : w1.cell? ⟨b0 + 3, 0, none⟩ = some (.int .i64 0) := by rw [hF1.c.cell]; rfl
    have y1 : w1.cell? ⟨b0 + 3, 1, none⟩ = some (.int .i64 0) := by rw [hF1.c.cell]; rfl
    have y2 : w1.cell? ⟨b0 + 3, 2, none⟩ = some (.int .i64 0) := by rw [hF1.c.cell]; rfl
    have y3 : w1.cell? ⟨b0 + 3, 3, none⟩ = some (.int .i64 0) := by rw [hF1.c.cell]; rfl
    have fz := fun o => hF1.z.frozen o
    have fy := fun o => hF1.c.frozen o
    have HBW := Lib.hid hbw; clear hb1 hF1 hbw hone
    go_wp2_with fail
    refine bodyPost_ret (v := .tuple #[.agg stkZ, .agg cstZ, .int .i64 (er)]) (by simp [results, Tryd.results15, go_sem, *]) rfl ?_
    rw [HX.out]
    exact stepq_err HBW.out HB0.out _ _ _ _ _ _ _ _ _
end Go.Proofs.YtboiipkbhbbgfaaDoor
