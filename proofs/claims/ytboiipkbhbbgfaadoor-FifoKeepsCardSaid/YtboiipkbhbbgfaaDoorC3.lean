/- The walk of the reference's SameStock, at two stocks that hold the same. -/
import Derived.Test.YtboiipkbhbbgfaaDoorJ1
namespace Go.Proofs.YtboiipkbhbbgfaaDoor
open Go.RowKit

structure SameR (w : World) (a b : Array Value) (v1 u1 v2 u2 : Value) (ls : List Lay) (ps : List Pst) (wx : World) : Prop where
  bel : Below w.heap.size w wx
  a : Blk wx w.heap.size 32 a
  b : Blk wx (w.heap.size + 1) 32 b
  l1 : OwnL wx 0 v1 ls
  p1 : OwnP wx 0 u1 ps
  l2 : OwnL wx 0 v2 ls
  p2 : OwnP wx 0 u2 ps
theorem SameR.drew {w : World} {a b : Array Value} {v1 u1 v2 u2 : Value} {ls : List Lay} {ps : List Pst} {wx : World} (h : SameR w a b v1 u1 v2 u2 ls ps wx) : SameR w a b v1 u1 v2 u2 ls ps wx.drew :=
  ⟨h.bel.drew, h.a.drew, h.b.drew, h.l1.below' (Below.refl _ _).drew, h.p1.below' (Below.refl _ _).drew, h.l2.below' (Below.refl _ _).drew, h.p2.below' (Below.refl _ _).drew⟩

set_option maxRecDepth 100000 in
set_option maxHeartbeats 4000000 in
theorem same_any (q v p : Int) (bl1 : Option Addr) (cl1 : Nat) (bp1 : Option Addr) (cp1 : Nat) (bl2 : Option Addr) (cl2 : Nat) (bp2 : Option Addr) (cp2 : Nat) (ls : List Lay) (ps : List Pst) (w : World)
    (h1 : OwnL w 0 (.slice bl1 ls.length cl1) ls) (h2 : OwnP w 0 (.slice bp1 ps.length cp1) ps) (h3 : OwnL w 0 (.slice bl2 ls.length cl2) ls) (h4 : OwnP w 0 (.slice bp2 ps.length cp2) ps) (hn : ls.length ≤ 900) (hnp : ps.length ≤ 900) :
    Calls Tryd.prog 16 #[.agg #[.int .i64 q, .int .i64 v, .int .i64 p, .slice bl1 ls.length cl1, .slice bp1 ps.length cp1], .agg #[.int .i64 q, .int .i64 v, .int .i64 p, .slice bl2 ls.length cl2, .slice bp2 ps.length cp2]] w fun e w' => e = .returned (.bool true) ∧ Below w.heap.size w w' := by
  have hR : SameR w #[.int .i64 q, .int .i64 v, .int .i64 p, .slice bl1 ls.length cl1, .slice bp1 ps.length cp1] #[.int .i64 q, .int .i64 v, .int .i64 p, .slice bl2 ls.length cl2, .slice bp2 ps.length cp2] (.slice bl1 ls.length cl1) (.slice bp1 ps.length cp1) (.slice bl2 ls.length cl2) (.slice bp2 ps.length cp2) ls ps ((w.alloc (.cells #[.int .i64 q, .int .i64 v, .int .i64 p, .slice bl1 ls.length cl1, .slice bp1 ps.length cp1] 32)).alloc (.cells #[.int .i64 q, .int .i64 v, .int .i64 p, .slice bl2 ls.length cl2, .slice bp2 ps.length cp2] 32)) := by
    have hb : Below w.heap.size w ((w.alloc (.cells #[.int .i64 q, .int .i64 v, .int .i64 p, .slice bl1 ls.length cl1, .slice bp1 ps.length cp1] 32)).alloc (.cells #[.int .i64 q, .int .i64 v, .int .i64 p, .slice bl2 ls.length cl2, .slice bp2 ps.length cp2] 32)) := ((Below.refl _ _).alloc (Nat.le_refl _) _).alloc (by simp) _
    exact ⟨hb, (Blk.new _ _ _).alloc _, Blk.new2 _ _ _ _, h1.below' hb, h2.below' hb, h3.below' hb, h4.below' hb⟩
  have HR := Lib.hid hR; clear hR h1 h2 h3 h4
  go_enter Tryd.func16, Tryd.ntmps16
  go_wp2_with fail
  go_loopg [5] ls.length (fun g i wx => ∃ j : Nat, i = .int .i64 j ∧ j ≤ ls.length ∧ g = ls.length - j ∧ SameR w #[.int .i64 q, .int .i64 v, .int .i64 p, .slice bl1 ls.length cl1, .slice bp1 ps.length cp1] #[.int .i64 q, .int .i64 v, .int .i64 p, .slice bl2 ls.length cl2, .slice bp2 ps.length cp2] (.slice bl1 ls.length cl1) (.slice bp1 ps.length cp1) (.slice bl2 ls.length cl2) (.slice bp2 ps.length cp2) ls ps wx)
  case atStart => exact ⟨0, rfl, Nat.zero_le _, rfl, HR.out⟩
  case round =>
    obtain ⟨j, rfl, hjn, hgj, hR⟩ := hrel
    have a3 : wr.cell? ⟨w.heap.size, 3, none⟩ = some (.slice bl1 ls.length cl1) := by rw [hR.a.cell]; rfl
    have b3 : wr.cell? ⟨w.heap.size + 1, 3, none⟩ = some (.slice bl2 ls.length cl2) := by rw [hR.b.cell]; rfl
    have HGJ := Lib.hid hgj; clear hgj
    by_cases hj : j < ls.length
    · obtain ⟨g1, k1, rfl, -, -, hr1⟩ := hR.l1.block (by omega)
      obtain ⟨g2, k2, rfl, -, -, hr2⟩ := hR.l2.block (by omega)
      obtain ⟨l0, l1, l2, l3⟩ := hr1.lay j hj
      obtain ⟨m0, m1, m2, m3⟩ := hr2.lay j hj
      generalize ls.getD j zLay = L at *
      have j1 : (0 : Int) ≤ (j : Int) := by omega
      have j2 : (j : Int) < (ls.length : Int) := by omega
      have HR2 := Lib.hid hR; clear hR hr1 hr2 HR
      go_wp2_with fail
      refine still_tail2 10 (by kernel_rfl) (by kernel_rfl) ?_
      simp only [List.take_succ_cons, List.take_zero, List.drop_succ_cons, List.drop_zero]
      repeat still_step
      refine wpStill_nil ?_
      go_wp2_with fail
      go_roundg (ls.length - (j + 1))
      case measure => rw [HGJ.out]; omega
      case rel => exact ⟨j + 1, by go_num, by omega, rfl, HR2.out.drew⟩
    · have HR2 := Lib.hid hR; clear hR HR
      generalize hw0 : wr = w0 at *
      go_wp2_with fail
      go_loopg [6] ps.length (fun g i wx => ∃ k : Nat, i = .int .i64 k ∧ k ≤ ps.length ∧ g = ps.length - k ∧ SameR w #[.int .i64 q, .int .i64 v, .int .i64 p, .slice bl1 ls.length cl1, .slice bp1 ps.length cp1] #[.int .i64 q, .int .i64 v, .int .i64 p, .slice bl2 ls.length cl2, .slice bp2 ps.length cp2] (.slice bl1 ls.length cl1) (.slice bp1 ps.length cp1) (.slice bl2 ls.length cl2) (.slice bp2 ps.length cp2) ls ps wx)
      case atStart => exact ⟨0, rfl, Nat.zero_le _, rfl, HR2.out⟩
      case round =>
        obtain ⟨k, rfl, hkn, hgk, hR⟩ := hrel
        have a4 : wr.cell? ⟨w.heap.size, 4, none⟩ = some (.slice bp1 ps.length cp1) := by rw [hR.a.cell]; rfl
        have b4 : wr.cell? ⟨w.heap.size + 1, 4, none⟩ = some (.slice bp2 ps.length cp2) := by rw [hR.b.cell]; rfl
        have HGK := Lib.hid hgk; clear hgk
        by_cases hk : k < ps.length
        · obtain ⟨g1, k1, rfl, -, -, hr1⟩ := hR.p1.block (by omega)
          obtain ⟨g2, k2, rfl, -, -, hr2⟩ := hR.p2.block (by omega)
          obtain ⟨l0, l1, l2, l3, l4, l5, l6⟩ := hr1.pst k hk
          obtain ⟨m0, m1, m2, m3, m4, m5, m6⟩ := hr2.pst k hk
          generalize ps.getD k zPst = L at *
          have j1 : (0 : Int) ≤ (k : Int) := by omega
          have j2 : (k : Int) < (ps.length : Int) := by omega
          have HR3 := Lib.hid hR; clear hR hr1 hr2 HR2
          go_wp2_with fail
          refine still_tail2 10 (by kernel_rfl) (by kernel_rfl) ?_
          simp only [List.take_succ_cons, List.take_zero, List.drop_succ_cons, List.drop_zero]
          repeat still_step
          refine wpStill_nil ?_
          go_wp2_with fail
          go_roundg (ps.length - (k + 1))
          case measure => rw [HGK.out]; omega
          case rel => exact ⟨k + 1, by go_num, by omega, rfl, HR3.out.drew⟩
        · have HR3 := Lib.hid hR; clear hR HR2
          go_wp2_with fail
          go_ret
          exact ⟨rfl, HR3.out.bel⟩
end Go.Proofs.YtboiipkbhbbgfaaDoor
