/- What Step returns, stored into two new variables, in whatever order these are made. -/
import Derived.Test.YtboiipkbhbbgfaaDoorJ2
namespace Go.Proofs.YtboiipkbhbbgfaaDoor
open Go.RowKit

theorem OwnL.keep {w w' : World} {B : Nat} {v : Value} {ls : List Lay} (h : OwnL w B v ls) (hk : ∀ g e cur, B ≤ g → Blk w g e cur → Blk w' g e cur) : OwnL w' B v ls := by
  rcases h with h | ⟨g, c, k, hv, hg, hr⟩
  · exact .inl h
  · exact .inr ⟨g, c, k, hv, hg, hr.of_blk (hk _ _ _ hg hr.blk)⟩
theorem OwnP.keep {w w' : World} {B : Nat} {v : Value} {ps : List Pst} (h : OwnP w B v ps) (hk : ∀ g e cur, B ≤ g → Blk w g e cur → Blk w' g e cur) : OwnP w' B v ps := by
  rcases h with h | ⟨g, c, k, hv, hg, hr⟩
  · exact .inl h
  · exact .inr ⟨g, c, k, hv, hg, hr.of_blk (hk _ _ _ hg hr.blk)⟩

/-- what Step returns, its slices written out -/
def StepQ (r : Res) (w : World) (e : Ending) (w' : World) : Prop :=
  ∃ bl cl bp cp, e = .returned (.tuple #[.agg #[.int .i64 r.stk.qty, .int .i64 r.stk.val, .int .i64 r.stk.price, .slice bl r.stk.lays.length cl, .slice bp r.stk.psts.length cp], .agg #[.int .i64 r.cst.seq, .int .i64 r.cst.qty, .int .i64 r.cst.val, .int .i64 r.cst.var], .int .i64 r.err]) ∧ Below w.heap.size w w' ∧ OwnL w' w.heap.size (.slice bl r.stk.lays.length cl) r.stk.lays ∧ OwnP w' w.heap.size (.slice bp r.stk.psts.length cp) r.stk.psts
theorem step_q (s : Stk) (m : Mov) (bl : Option Addr) (cl : Nat) (bp : Option Addr) (cp : Nat) (w : World) (B : Nat) (hl : OwnL w B (.slice bl s.lays.length cl) s.lays) (hp : OwnP w B (.slice bp s.psts.length cp) s.psts) (hn : s.lays.length ≤ 900) (hnp : s.psts.length ≤ 900)
    (hg : Good s) (hq : I64 m.qty) (hc : I64 m.cost) (hlen : LengthsAt w) :
    Calls Tryd.prog 14 #[.agg #[.int .i64 s.qty, .int .i64 s.val, .int .i64 s.price, .slice bl s.lays.length cl, .slice bp s.psts.length cp], m.v] w (StepQ (stepM s m) w) := by
  refine (step_any s m _ _ w hl.rd hp.rd hn hnp hg.lok hg.pok hq hc hlen).mono fun e w' h => ?_
  obtain ⟨vl', vp', rfl, hb, hol, hop⟩ := h
  obtain ⟨bl, cl, rfl⟩ := hol.form
  obtain ⟨bp, cp, rfl⟩ := hop.form
  exact ⟨bl, cl, bp, cp, rfl, hb, hol, hop⟩

abbrev set4 (w : World) (b : Nat) (c0 c1 c2 c3 : Value) : World := (((w.setCell ⟨b, 0, none⟩ c0).setCell ⟨b, 1, none⟩ c1).setCell ⟨b, 2, none⟩ c2).setCell ⟨b, 3, none⟩ c3
theorem set4_blk {w : World} {b : Nat} {a0 a1 a2 a3 : Value} (h : Blk w b 34 #[a0, a1, a2, a3]) (c0 c1 c2 c3 : Value) : Blk (set4 w b c0 c1 c2 c3) b 34 #[c0, c1, c2, c3] := by
  have := (((h.set 0 c0).set 1 c1).set 2 c2).set 3 c3
  simpa using this
theorem set4_chg (w : World) (b : Nat) (c0 c1 c2 c3 : Value) : Chg [b] w (set4 w b c0 c1 c2 c3) := ((((Chg.refl [b] w).set (.inl (by simp)) _).set (.inl (by simp)) _).set (.inl (by simp)) _).set (.inl (by simp)) _
theorem set5_size (w : World) (b : Nat) (q v p vl vp : Value) : (set5 w b q v p vl vp).heap.size = w.heap.size := by simp
theorem set4_size (w : World) (b : Nat) (c0 c1 c2 c3 : Value) : (set4 w b c0 c1 c2 c3).heap.size = w.heap.size := by simp
theorem Blk.set5_other {w : World} {g b : Nat} {e : TypeId} {cur : Array Value} (h : Blk w g e cur) (q v p vl vp : Value) (hne : b ≠ g) : Blk (set5 w b q v p vl vp) g e cur :=
  ((((h.set_other _ hne).set_other _ hne).set_other _ hne).set_other _ hne).set_other _ hne
theorem Blk.set4_other {w : World} {g b : Nat} {e : TypeId} {cur : Array Value} (h : Blk w g e cur) (c0 c1 c2 c3 : Value) (hne : b ≠ g) : Blk (set4 w b c0 c1 c2 c3) g e cur :=
  (((h.set_other _ hne).set_other _ hne).set_other _ hne).set_other _ hne

/-- the two variables hold what was returned, and nothing else is changed; B: where the callee's new blocks begin -/
structure After (w1 : World) (B x5 x6 : Nat) (T C : Array Value) (W : World) : Prop where
  t : Blk W x5 32 T
  c : Blk W x6 34 C
  chg : Chg [x5, x6] w1 W
  far : ∀ g, B ≤ g → g < w1.heap.size → g ≠ x5 ∧ g ≠ x6

section
variable (w1 : World) (B n : Nat) (t0 t1 t2 t3 t4 c0 c1 c2 c3 : Value)
theorem after1 : After w1 B w1.heap.size (w1.heap.size + 1) #[t0, t1, t2, t3, t4] #[c0, c1, c2, c3] ((w1.alloc (.cells #[t0, t1, t2, t3, t4] 32)).alloc (.cells #[c0, c1, c2, c3] 34)) :=
  ⟨(Blk.new _ _ _).alloc _, Blk.new2 _ _ _ _, ((Chg.refl _ _).alloc _).alloc _, fun g _ h => ⟨by omega, by omega⟩⟩
theorem after2 : After w1 B (w1.heap.size + 1) w1.heap.size #[t0, t1, t2, t3, t4] #[c0, c1, c2, c3] ((w1.alloc (.cells #[c0, c1, c2, c3] 34)).alloc (.cells #[t0, t1, t2, t3, t4] 32)) :=
  ⟨Blk.new2 _ _ _ _, (Blk.new _ _ _).alloc _, ((Chg.refl _ _).alloc _).alloc _, fun g _ h => ⟨by omega, by omega⟩⟩
theorem after3 {a0 a1 a2 a3 a4 : Value} (h : Blk w1 n 32 #[a0, a1, a2, a3, a4]) (hB : n < B) : After w1 B n w1.heap.size #[t0, t1, t2, t3, t4] #[c0, c1, c2, c3] ((set5 w1 n t0 t1 t2 t3 t4).alloc (.cells #[c0, c1, c2, c3] 34)) := by
  have hl := h.lt
  refine ⟨(set5_blk h _ _ _ _ _).alloc _, ?_, ((set5_chg w1 n _ _ _ _ _).mono (by simp)).alloc _, fun g h1 h2 => ⟨by omega, by omega⟩⟩
  have := Blk.new (set5 w1 n t0 t1 t2 t3 t4) 34 #[c0, c1, c2, c3]
  rw [set5_size] at this
  exact this
theorem after4 {a0 a1 a2 a3 a4 d0 d1 d2 d3 : Value} {k : Nat} (h : Blk w1 n 32 #[a0, a1, a2, a3, a4]) (h2 : Blk w1 k 34 #[d0, d1, d2, d3]) (hne : n ≠ k) (hB : n < B) (hB2 : k < B) : After w1 B n k #[t0, t1, t2, t3, t4] #[c0, c1, c2, c3] (set4 (set5 w1 n t0 t1 t2 t3 t4) k c0 c1 c2 c3) :=
  ⟨(set5_blk h _ _ _ _ _).set4_other _ _ _ _ (Ne.symm hne), set4_blk (h2.set5_other _ _ _ _ _ hne) _ _ _ _, ((set5_chg w1 n _ _ _ _ _).mono (by simp)).trans (set4_chg _ _ _ _ _ _) (by simp), fun g h1 h2 => ⟨by omega, by omega⟩⟩
theorem after5 {d0 d1 d2 d3 : Value} (h : Blk w1 n 34 #[d0, d1, d2, d3]) (hB : n < B) : After w1 B w1.heap.size n #[t0, t1, t2, t3, t4] #[c0, c1, c2, c3] ((set4 w1 n c0 c1 c2 c3).alloc (.cells #[t0, t1, t2, t3, t4] 32)) := by
  have hl := h.lt
  refine ⟨?_, (set4_blk h _ _ _ _).alloc _, ((set4_chg w1 n _ _ _ _).mono (by simp)).alloc _, fun g h1 h2 => ⟨by omega, by omega⟩⟩
  have := Blk.new (set4 w1 n c0 c1 c2 c3) 32 #[t0, t1, t2, t3, t4]
  rw [set4_size] at this
  exact this
end
theorem After.blk {w1 : World} {B x5 x6 : Nat} {T C : Array Value} {W : World} (h : After w1 B x5 x6 T C W) {g : Nat} {e : TypeId} {cur : Array Value} (hb : Blk w1 g e cur) (h5 : g ≠ x5) (h6 : g ≠ x6) : Blk W g e cur := hb.chg h.chg (by simp [h5, h6])
theorem After.ownl {w1 : World} {B x5 x6 : Nat} {T C : Array Value} {W : World} (h : After w1 B x5 x6 T C W) {v : Value} {ls : List Lay} (ho : OwnL w1 B v ls) : OwnL W B v ls :=
  ho.keep fun g _ _ hg hb => h.blk hb (h.far g hg hb.lt).1 (h.far g hg hb.lt).2
theorem After.ownp {w1 : World} {B x5 x6 : Nat} {T C : Array Value} {W : World} (h : After w1 B x5 x6 T C W) {v : Value} {ls : List Pst} (ho : OwnP w1 B v ls) : OwnP W B v ls :=
  ho.keep fun g _ _ hg hb => h.blk hb (h.far g hg hb.lt).1 (h.far g hg hb.lt).2
/-- rows that were there before the variables and before the call -/
theorem After.ownl' {w1 wr : World} {B x5 x6 B' : Nat} {T C : Array Value} {W : World} (h : After w1 B x5 x6 T C W) (hb : Below wr.heap.size wr w1) (h5 : wr.heap.size ≤ x5) (h6 : wr.heap.size ≤ x6) {v : Value} {ls : List Lay} (ho : OwnL wr B' v ls) : OwnL W B' v ls :=
  ho.keep fun g _ _ _ hg => by have := hg.lt; exact h.blk (hg.below' hb) (by omega) (by omega)
theorem After.ownp' {w1 wr : World} {B x5 x6 B' : Nat} {T C : Array Value} {W : World} (h : After w1 B x5 x6 T C W) (hb : Below wr.heap.size wr w1) (h5 : wr.heap.size ≤ x5) (h6 : wr.heap.size ≤ x6) {v : Value} {ls : List Pst} (ho : OwnP wr B' v ls) : OwnP W B' v ls :=
  ho.keep fun g _ _ _ hg => by have := hg.lt; exact h.blk (hg.below' hb) (by omega) (by omega)
theorem After.below {w w1 wr : World} {B x5 x6 : Nat} {T C : Array Value} {W : World} (h : After w1 B x5 x6 T C W) (hw : Below w.heap.size w wr) (hb : Below wr.heap.size wr w1) (h5 : wr.heap.size ≤ x5) (h6 : wr.heap.size ≤ x6) : Below w.heap.size w W :=
  (hw.trans (hb.mono hw.size)).trans (h.chg.below (Nat.le_trans hw.size hb.size) (by simp; exact ⟨Nat.le_trans hw.size h5, Nat.le_trans hw.size h6⟩))
theorem After.old {wr w1 : World} {B x5 x6 : Nat} {T C : Array Value} {W : World} (h : After w1 B x5 x6 T C W) (hb : Below wr.heap.size wr w1) (h5 : wr.heap.size ≤ x5) (h6 : wr.heap.size ≤ x6) {g : Nat} {e : TypeId} {cur : Array Value} (hg : Blk wr g e cur) : Blk W g e cur := by
  have := hg.lt
  exact h.blk (hg.below' hb) (by omega) (by omega)
end Go.Proofs.YtboiipkbhbbgfaaDoor
