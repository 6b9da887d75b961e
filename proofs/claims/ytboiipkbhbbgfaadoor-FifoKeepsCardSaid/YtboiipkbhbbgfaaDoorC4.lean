/- FifoKeeps returns true for every list of movements and every movement. Condition: the table of the months' lengths stands as the program's text lays it. -/
import Derived.Test.YtboiipkbhbbgfaaDoorJ6
import Derived.Test.YtboiipkbhbbgfaaDoorC2
import Derived.Test.YtboiipkbhbbgfaaDoorC3
namespace Go.Proofs.YtboiipkbhbbgfaaDoor
open Go.RowKit

/-- a slice whose n elements of k cells lie in one block, from n0 on -/
def Hold (w : World) (n0 : Nat) (b : Option Addr) (n : Nat) (e : TypeId) (k : Nat) : Prop := 0 < n → ∃ g cur, b = some ⟨g, 0, none⟩ ∧ n0 ≤ g ∧ Blk w g e cur ∧ n * k ≤ cur.size
structure KeepR (W0 : World) (x7 : Nat) (T : Array Value) (bl : Option Addr) (nl : Nat) (bp : Option Addr) (np : Nat) (wx : World) : Prop where
  bel : Below W0.heap.size W0 wx
  t : Blk wx x7 32 T
  l : Hold wx W0.heap.size bl nl 44 4
  p : Hold wx W0.heap.size bp np 51 7
theorem OwnL.hold {w : World} {B : Nat} {b : Option Addr} {n c : Nat} {ls : List Lay} (h : OwnL w B (.slice b n c) ls) (hn : n = ls.length) : Hold w B b n 44 4 := by
  intro hp
  obtain ⟨g, k, rfl, _, hg, hr⟩ := h.block (by omega)
  exact ⟨g, k, rfl, hg, hr.blk, by have := hr.sz; have := hr.nc; omega⟩
theorem OwnP.hold {w : World} {B : Nat} {b : Option Addr} {n c : Nat} {ls : List Pst} (h : OwnP w B (.slice b n c) ls) (hn : n = ls.length) : Hold w B b n 51 7 := by
  intro hp
  obtain ⟨g, k, rfl, _, hg, hr⟩ := h.block (by omega)
  exact ⟨g, k, rfl, hg, hr.blk, by have := hr.sz; have := hr.nc; omega⟩
theorem Blk.ne_of {w : World} {g g' : Nat} {e e' : TypeId} {c c' : Array Value} (h : Blk w g e c) (h' : Blk w g' e' c') (he : e ≠ e') : g ≠ g' := by
  rintro rfl
  unfold Blk at h h'
  rw [h] at h'
  simp at h'
  exact he h'.2
theorem Hold.set {w : World} {n0 : Nat} {b : Option Addr} {n : Nat} {e : TypeId} {k : Nat} (h : Hold w n0 b n e k) (a : Addr) (v : Value) (hs : a.spot = none) : Hold (w.setCell a v) n0 b n e k := by
  intro hp
  obtain ⟨g, cur, hb, hg, hbl, hc⟩ := h hp
  by_cases hag : a.block = g
  · obtain ⟨ab, ao, sp⟩ := a
    simp only at hag hs
    subst hag hs
    exact ⟨ab, _, hb, hg, hbl.set ao v, by simpa using hc⟩
  · exact ⟨g, cur, hb, hg, hbl.set_other v hag, hc⟩
theorem KeepR.set {W0 : World} {x7 : Nat} {T : Array Value} {bl : Option Addr} {nl : Nat} {bp : Option Addr} {np : Nat} {wx : World} (h : KeepR W0 x7 T bl nl bp np wx) (g o : Nat) (v : Value) (h0 : W0.heap.size ≤ g) (hne : g ≠ x7) : KeepR W0 x7 T bl nl bp np (wx.setCell ⟨g, o, none⟩ v) :=
  ⟨h.bel.setCell h0 _, h.t.set_other _ hne, h.l.set _ _ rfl, h.p.set _ _ rfl⟩
theorem some_get {cur : Array Value} {i : Nat} (h : i < cur.size) : ∃ v, cur[i]? = some v := ⟨cur[i], by simp [h]⟩

set_option maxRecDepth 100000 in
set_option maxHeartbeats 8000000 in
theorem keeps_walk (ms : List Mov) (v0 : Value) (m : Mov) (w : World) (hm : Rd w 8 v0 ms.length (movsC ms)) (hmm : ms.length ≤ maxLen) (hok : ∀ m ∈ ms, MovOk m) (om : MovOk m) (hlen : LengthsAt w) :
    Calls Tryd.prog 9 #[v0, m.v] w fun e w' => e = .returned (.bool true) ∧ Below w.heap.size w w' := by
  obtain ⟨bv, cv, rfl⟩ := hm.form
  obtain ⟨hn1, hn2, hgood⟩ := play_len ms (min ms.length 60) (Nat.min_le_left _ _)
  have hw0 : Below w.heap.size w (w.alloc (.cells #[.int .i64 m.seq, .int .i64 m.value, .string m.item, .int .i64 m.kind, .int .i64 m.qty, .int .i64 m.cost, .string m.lot, .int .i64 m.ref] 38)) := (Below.refl _ _).alloc (Nat.le_refl _) _
  have hpl := play_any ms bv cv _ (hm.below hw0) hmm hok (hlen.below hw0)
  have hn1' : (playK ms (min ms.length 60)).lays.length ≤ 60 := by omega
  have hn2' : (playK ms (min ms.length 60)).psts.length ≤ 60 := by omega
  generalize playK ms (min ms.length 60) = s at *
  have hM0 : Blk (w.alloc (.cells #[.int .i64 m.seq, .int .i64 m.value, .string m.item, .int .i64 m.kind, .int .i64 m.qty, .int .i64 m.cost, .string m.lot, .int .i64 m.ref] 38)) w.heap.size 38 #[.int .i64 m.seq, .int .i64 m.value, .string m.item, .int .i64 m.kind, .int .i64 m.qty, .int .i64 m.cost, .string m.lot, .int .i64 m.ref] := Blk.new _ _ _
  have HLE := Lib.hid hlen; have HG := Lib.hid hgood; have HM0 := Lib.hid hM0; have HW0 := Lib.hid hw0; have HOM := Lib.hid om; clear hm hok hlen hn1 hn2 hgood hM0 hw0 om
  go_enter Tryd.func9, Tryd.ntmps9
  go_wp2_with fail
  refine hpl.mono ?_
  rintro e w1 ⟨bl0, cl0, bp0, cp0, rfl, hb1, hol1, hop1⟩
  clear hpl
  have hm1 := HM0.out.below' hb1
  have hbw1 := HW0.out.trans (hb1.mono HW0.out.size)
  have hlt0 := hm1.lt
  have HM1 := Lib.hid hm1; have HBW1 := Lib.hid hbw1; have HOL1 := Lib.hid hol1; have HOP1 := Lib.hid hop1; clear hm1 hbw1 hb1 hol1 hop1 HM0 HW0
  go_wp2_with fail
  have hS : Blk (w1.alloc (.cells #[.int .i64 s.qty, .int .i64 s.val, .int .i64 s.price, .slice bl0 s.lays.length cl0, .slice bp0 s.psts.length cp0] 32)) w1.heap.size 32 #[.int .i64 s.qty, .int .i64 s.val, .int .i64 s.price, .slice bl0 s.lays.length cl0, .slice bp0 s.psts.length cp0] := Blk.new _ _ _
  have hA : Below w1.heap.size w1 (w1.alloc (.cells #[.int .i64 s.qty, .int .i64 s.val, .int .i64 s.price, .slice bl0 s.lays.length cl0, .slice bp0 s.psts.length cp0] 32)) := (Below.refl _ _).alloc (Nat.le_refl _) _
  generalize w1.alloc (.cells #[.int .i64 s.qty, .int .i64 s.val, .int .i64 s.price, .slice bl0 s.lays.length cl0, .slice bp0 s.psts.length cp0] 32) = W1 at *
  have HOL2 := Lib.hid ((HOL1.out.below' hA).mono (Nat.zero_le _)); have HOP2 := Lib.hid ((HOP1.out.below' hA).mono (Nat.zero_le _))
  have HBW2 := Lib.hid (HBW1.out.trans (hA.mono HBW1.out.size)); have HM2 := Lib.hid (HM1.out.below' hA); clear hA HOL1 HOP1 HBW1 HM1
  generalize w1.heap.size = b5 at *
  have HS := Lib.hid hS; clear hS
  refine (clone_any _ _ _ _ _ _ _ s.lays s.psts _ HOL2.out HOP2.out (by omega) (by omega)).mono ?_
  rintro e w2 ⟨gl, cl2, gp, cp2, kl, kp, rfl, hb2, hlr, hpr, -, -, -⟩
  have HS2 := Lib.hid (HS.out.below' hb2); have HOL3 := Lib.hid (HOL2.out.below' hb2); have HOP3 := Lib.hid (HOP2.out.below' hb2)
  have HBW3 := Lib.hid (HBW2.out.trans (hb2.mono HBW2.out.size)); have HM3 := Lib.hid (HM2.out.below' hb2)
  have hcl : OwnL w2 0 (sl gl s.lays.length cl2) s.lays := .inr ⟨gl, cl2, kl, rfl, Nat.zero_le _, hlr⟩
  have hcp : OwnP w2 0 (sl gp s.psts.length cp2) s.psts := .inr ⟨gp, cp2, kp, rfl, Nat.zero_le _, hpr⟩
  have HCL := Lib.hid hcl; have HCP := Lib.hid hcp
  clear hb2 hlr hpr hcl hcp HS HOL2 HOP2 HBW2 HM2
  have hS2 := HS2.out
  have hM3 := HM3.out
  have k0 : w2.cell? ⟨b5, 0, none⟩ = some (.int .i64 s.qty) := by rw [hS2.cell]; rfl
  have k1 : w2.cell? ⟨b5, 1, none⟩ = some (.int .i64 s.val) := by rw [hS2.cell]; rfl
  have k2 : w2.cell? ⟨b5, 2, none⟩ = some (.int .i64 s.price) := by rw [hS2.cell]; rfl
  have k3 : w2.cell? ⟨b5, 3, none⟩ = some (.slice bl0 s.lays.length cl0) := by rw [hS2.cell]; rfl
  have k4 : w2.cell? ⟨b5, 4, none⟩ = some (.slice bp0 s.psts.length cp0) := by rw [hS2.cell]; rfl
  have q0 : w2.cell? ⟨w.heap.size, 0, none⟩ = some (.int .i64 m.seq) := by rw [hM3.cell]; rfl
  have q1 : w2.cell? ⟨w.heap.size, 1, none⟩ = some (.int .i64 m.value) := by rw [hM3.cell]; rfl
  have q2 : w2.cell? ⟨w.heap.size, 2, none⟩ = some (.string m.item) := by rw [hM3.cell]; rfl
  have q3 : w2.cell? ⟨w.heap.size, 3, none⟩ = some (.int .i64 m.kind) := by rw [hM3.cell]; rfl
  have q4 : w2.cell? ⟨w.heap.size, 4, none⟩ = some (.int .i64 m.qty) := by rw [hM3.cell]; rfl
  have q5 : w2.cell? ⟨w.heap.size, 5, none⟩ = some (.int .i64 m.cost) := by rw [hM3.cell]; rfl
  have q6 : w2.cell? ⟨w.heap.size, 6, none⟩ = some (.string m.lot) := by rw [hM3.cell]; rfl
  have q7 : w2.cell? ⟨w.heap.size, 7, none⟩ = some (.int .i64 m.ref) := by rw [hM3.cell]; rfl
  have n5 := hS2.lt
  have n3 := hM3.lt
  clear hS2 hM3
  go_wp2_with fail
  have hC : Blk (w2.alloc (.cells #[.int .i64 s.qty, .int .i64 s.val, .int .i64 s.price, sl gl s.lays.length cl2, sl gp s.psts.length cp2] 32)) w2.heap.size 32 #[.int .i64 s.qty, .int .i64 s.val, .int .i64 s.price, sl gl s.lays.length cl2, sl gp s.psts.length cp2] := Blk.new _ _ _
  have hA : Below w2.heap.size w2 (w2.alloc (.cells #[.int .i64 s.qty, .int .i64 s.val, .int .i64 s.price, sl gl s.lays.length cl2, sl gp s.psts.length cp2] 32)) := (Below.refl _ _).alloc (Nat.le_refl _) _
  generalize w2.alloc (.cells #[.int .i64 s.qty, .int .i64 s.val, .int .i64 s.price, sl gl s.lays.length cl2, sl gp s.psts.length cp2] 32) = W0 at *
  have HS4 := Lib.hid (HS2.out.below' hA); have HOL4 := Lib.hid (HOL3.out.below' hA); have HOP4 := Lib.hid (HOP3.out.below' hA); have HCL4 := Lib.hid (HCL.out.below' hA); have HCP4 := Lib.hid (HCP.out.below' hA)
  have HBW4 := Lib.hid (HBW3.out.trans (hA.mono HBW3.out.size))
  have HC4 := Lib.hid hC
  clear hA hC HS2 HOL3 HOP3 HCL HCP HBW3 HM3 k0 k1 k2 k3 k4 q0 q1 q2 q3 q4 q5 q6 q7
  generalize w2.heap.size = b6 at *
  have hll := step_lays_len s m
  have hlp := step_psts_len s m
  refine (step_q s m _ _ _ _ _ _ HOL4.out HOP4.out (by omega) (by omega) HG.out HOM.out.qty HOM.out.cost (HLE.out.below HBW4.out)).mono ?_
  rintro e w3 ⟨bl1, cl1, bp1, cp1, rfl, hb3, hol3, hop3⟩
  generalize stepM s m = r at *
  obtain ⟨er, t, c⟩ := r
  simp only at hol3 hop3 hll hlp
  have HB3 := Lib.hid hb3; have HOL5 := Lib.hid hol3; have HOP5 := Lib.hid hop3; clear hb3 hol3 hop3
  simp only
  go_wp2_with fail
  have hn := two_new w3 #[.int .i64 t.qty, .int .i64 t.val, .int .i64 t.price, .slice bl1 t.lays.length cl1, .slice bp1 t.psts.length cp1] #[.int .i64 c.seq, .int .i64 c.qty, .int .i64 c.val, .int .i64 c.var]
  have hR : KeepR W0 w3.heap.size #[.int .i64 t.qty, .int .i64 t.val, .int .i64 t.price, .slice bl1 t.lays.length cl1, .slice bp1 t.psts.length cp1] bl1 t.lays.length bp1 t.psts.length ((w3.alloc (.cells #[.int .i64 t.qty, .int .i64 t.val, .int .i64 t.price, .slice bl1 t.lays.length cl1, .slice bp1 t.psts.length cp1] 32)).alloc (.cells #[.int .i64 c.seq, .int .i64 c.qty, .int .i64 c.val, .int .i64 c.var] 34)) :=
    ⟨HB3.out.trans (hn.1.mono HB3.out.size), hn.2.1, (HOL5.out.below' hn.1).hold rfl, (HOP5.out.below' hn.1).hold rfl⟩
  generalize (w3.alloc (.cells #[.int .i64 t.qty, .int .i64 t.val, .int .i64 t.price, .slice bl1 t.lays.length cl1, .slice bp1 t.psts.length cp1] 32)).alloc (.cells #[.int .i64 c.seq, .int .i64 c.qty, .int .i64 c.val, .int .i64 c.var] 34) = W3 at *
  generalize w3.heap.size + 1 = b8 at *
  generalize w3.heap.size = b7 at *
  have HR := Lib.hid hR; clear hR hn HOL5 HOP5 HB3
  go_loopg [10] t.lays.length (fun g i wx => ∃ j : Nat, i = .int .i64 j ∧ j ≤ t.lays.length ∧ g = t.lays.length - j ∧ KeepR W0 b7 #[.int .i64 t.qty, .int .i64 t.val, .int .i64 t.price, .slice bl1 t.lays.length cl1, .slice bp1 t.psts.length cp1] bl1 t.lays.length bp1 t.psts.length wx)
  case atStart => exact ⟨0, rfl, Nat.zero_le _, rfl, HR.out⟩
  case round =>
    obtain ⟨j, rfl, hjn, hgj, hK⟩ := hrel
    have a3 : wr.cell? ⟨b7, 3, none⟩ = some (.slice bl1 t.lays.length cl1) := by rw [hK.t.cell]; rfl
    have HGJ := Lib.hid hgj; clear hgj HR
    by_cases hj : j < t.lays.length
    · obtain ⟨g, cur, rfl, hg, hbl, hsz⟩ := hK.l (by omega)
      obtain ⟨v0, x0⟩ := some_get (cur := cur) (i := j * 4) (by omega)
      obtain ⟨v1, x1⟩ := some_get (cur := cur) (i := j * 4 + 1) (by omega)
      obtain ⟨v2, x2⟩ := some_get (cur := cur) (i := j * 4 + 2) (by omega)
      obtain ⟨v3, x3⟩ := some_get (cur := cur) (i := j * 4 + 3) (by omega)
      have y0 : wr.cell? ⟨g, j * 4, none⟩ = some v0 := by rw [hbl.cell]; exact x0
      have y1 : wr.cell? ⟨g, j * 4 + 1, none⟩ = some v1 := by rw [hbl.cell]; exact x1
      have y2 : wr.cell? ⟨g, j * 4 + 2, none⟩ = some v2 := by rw [hbl.cell]; exact x2
      have y3 : wr.cell? ⟨g, j * 4 + 3, none⟩ = some v3 := by rw [hbl.cell]; exact x3
      have fg := fun o => hbl.frozen o
      have hne := hbl.ne_of hK.t (by decide)
      have j1 : (0 : Int) ≤ (j : Int) := by omega
      have j2 : (j : Int) < (t.lays.length : Int) := by omega
      have HK := Lib.hid hK; have HBL := Lib.hid hbl; clear hK hbl x0 x1 x2 x3 hsz
      go_wp2_with fail
      go_roundg (t.lays.length - (j + 1))
      case measure => rw [HGJ.out]; omega
      case rel => exact ⟨j + 1, by go_num, by omega, rfl, (((HK.out.set g _ _ hg hne).set g _ _ hg hne).set g _ _ hg hne).set g _ _ hg hne⟩
    · have HK := Lib.hid hK; clear hK
      generalize hww : wr = wl at *
      clear hww
      go_wp2_with fail
      go_loopg [11] t.psts.length (fun g i wx => ∃ k : Nat, i = .int .i64 k ∧ k ≤ t.psts.length ∧ g = t.psts.length - k ∧ KeepR W0 b7 #[.int .i64 t.qty, .int .i64 t.val, .int .i64 t.price, .slice bl1 t.lays.length cl1, .slice bp1 t.psts.length cp1] bl1 t.lays.length bp1 t.psts.length wx)
      case atStart => exact ⟨0, rfl, Nat.zero_le _, rfl, HK.out⟩
      case round =>
        obtain ⟨k, rfl, hkn, hgk, hK⟩ := hrel
        have a4 : wr.cell? ⟨b7, 4, none⟩ = some (.slice bp1 t.psts.length cp1) := by rw [hK.t.cell]; rfl
        have HGK := Lib.hid hgk; clear hgk HK
        by_cases hk : k < t.psts.length
        · obtain ⟨g, cur, rfl, hg, hbl, hsz⟩ := hK.p (by omega)
          obtain ⟨v0, x0⟩ := some_get (cur := cur) (i := k * 7) (by omega)
          have y0 : wr.cell? ⟨g, k * 7, none⟩ = some v0 := by rw [hbl.cell]; exact x0
          obtain ⟨v1, x1⟩ := some_get (cur := cur) (i := k * 7 + 1) (by omega)
          have y1 : wr.cell? ⟨g, k * 7 + 1, none⟩ = some v1 := by rw [hbl.cell]; exact x1
          obtain ⟨v2, x2⟩ := some_get (cur := cur) (i := k * 7 + 2) (by omega)
          have y2 : wr.cell? ⟨g, k * 7 + 2, none⟩ = some v2 := by rw [hbl.cell]; exact x2
          obtain ⟨v3, x3⟩ := some_get (cur := cur) (i := k * 7 + 3) (by omega)
          have y3 : wr.cell? ⟨g, k * 7 + 3, none⟩ = some v3 := by rw [hbl.cell]; exact x3
          obtain ⟨v4, x4⟩ := some_get (cur := cur) (i := k * 7 + 4) (by omega)
          have y4 : wr.cell? ⟨g, k * 7 + 4, none⟩ = some v4 := by rw [hbl.cell]; exact x4
          obtain ⟨v5, x5⟩ := some_get (cur := cur) (i := k * 7 + 5) (by omega)
          have y5 : wr.cell? ⟨g, k * 7 + 5, none⟩ = some v5 := by rw [hbl.cell]; exact x5
          obtain ⟨v6, x6⟩ := some_get (cur := cur) (i := k * 7 + 6) (by omega)
          have y6 : wr.cell? ⟨g, k * 7 + 6, none⟩ = some v6 := by rw [hbl.cell]; exact x6
          have fg := fun o => hbl.frozen o
          have hne := hbl.ne_of hK.t (by decide)
          have j1 : (0 : Int) ≤ (k : Int) := by omega
          have j2 : (k : Int) < (t.psts.length : Int) := by omega
          have HK := Lib.hid hK; have HBL := Lib.hid hbl; clear hK hbl x0 x1 x2 x3 x4 x5 x6 hsz
          go_wp2_with fail
          go_roundg (t.psts.length - (k + 1))
          case measure => rw [HGK.out]; omega
          case rel => exact ⟨k + 1, by go_num, by omega, rfl, ((((((HK.out.set g _ _ hg hne).set g _ _ hg hne).set g _ _ hg hne).set g _ _ hg hne).set g _ _ hg hne).set g _ _ hg hne).set g _ _ hg hne⟩
        · have hS5 := HS4.out.below' hK.bel
          have hC5 := HC4.out.below' hK.bel
          have e0 : wr.cell? ⟨b5, 0, none⟩ = some (.int .i64 s.qty) := by rw [hS5.cell]; rfl
          have e1 : wr.cell? ⟨b5, 1, none⟩ = some (.int .i64 s.val) := by rw [hS5.cell]; rfl
          have e2 : wr.cell? ⟨b5, 2, none⟩ = some (.int .i64 s.price) := by rw [hS5.cell]; rfl
          have e3 : wr.cell? ⟨b5, 3, none⟩ = some (.slice bl0 s.lays.length cl0) := by rw [hS5.cell]; rfl
          have e4 : wr.cell? ⟨b5, 4, none⟩ = some (.slice bp0 s.psts.length cp0) := by rw [hS5.cell]; rfl
          have f0 : wr.cell? ⟨b6, 0, none⟩ = some (.int .i64 s.qty) := by rw [hC5.cell]; rfl
          have f1 : wr.cell? ⟨b6, 1, none⟩ = some (.int .i64 s.val) := by rw [hC5.cell]; rfl
          have f2 : wr.cell? ⟨b6, 2, none⟩ = some (.int .i64 s.price) := by rw [hC5.cell]; rfl
          have f3 : wr.cell? ⟨b6, 3, none⟩ = some (sl gl s.lays.length cl2) := by rw [hC5.cell]; rfl
          have f4 : wr.cell? ⟨b6, 4, none⟩ = some (sl gp s.psts.length cp2) := by rw [hC5.cell]; rfl
          have HOL6 := Lib.hid (HOL4.out.below' hK.bel); have HOP6 := Lib.hid (HOP4.out.below' hK.bel); have HCL6 := Lib.hid (HCL4.out.below' hK.bel); have HCP6 := Lib.hid (HCP4.out.below' hK.bel)
          have HBW6 := Lib.hid (HBW4.out.trans (hK.bel.mono HBW4.out.size))
          clear hK hS5 hC5
          go_wp2_with fail
          refine (same_any _ _ _ _ _ _ _ _ _ _ _ s.lays s.psts _ HOL6.out HOP6.out HCL6.out HCP6.out (by omega) (by omega)).mono ?_
          rintro e w8 ⟨rfl, hb8⟩
          have HBW8 := Lib.hid (HBW6.out.trans (hb8.mono HBW6.out.size)); clear hb8 e0 e1 e2 e3 e4 f0 f1 f2 f3 f4
          go_wp2_with fail
          refine (lives_any _ (HLE.out.below HBW8.out)).mono ?_
          rintro e w9 ⟨rfl, hb9⟩
          have HBW9 := Lib.hid (HBW8.out.trans (hb9.mono HBW8.out.size)); clear hb9
          go_wp2_with fail
          go_ret
          exact ⟨rfl, HBW9.out⟩
end Go.Proofs.YtboiipkbhbbgfaaDoor
