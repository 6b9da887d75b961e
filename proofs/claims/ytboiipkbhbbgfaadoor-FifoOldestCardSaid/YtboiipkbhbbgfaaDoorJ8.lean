/- What a step leaves in memory, told without the order in which its variables were made; sums of the first layers. -/
import Derived.Test.YtboiipkbhbbgfaaDoorJ4
import Derived.Test.YtboiipkbhbbgfaaDoorJ5
namespace Go.Proofs.YtboiipkbhbbgfaaDoor
open Go.RowKit

/-- behind 't, c, e := Step(..)' at wr: t in block x5, c in block x6, the new rows from wr's end on; what was there is as it was -/
structure StepAt (wr : World) (r : Res) (bl : Option Addr) (cl : Nat) (bp : Option Addr) (cp x5 x6 : Nat) (W : World) : Prop where
  t : Blk W x5 32 #[.int .i64 r.stk.qty, .int .i64 r.stk.val, .int .i64 r.stk.price, .slice bl r.stk.lays.length cl, .slice bp r.stk.psts.length cp]
  c : Blk W x6 34 #[.int .i64 r.cst.seq, .int .i64 r.cst.qty, .int .i64 r.cst.val, .int .i64 r.cst.var]
  bel : Below wr.heap.size wr W
  l : OwnL W wr.heap.size (.slice bl r.stk.lays.length cl) r.stk.lays
  p : OwnP W wr.heap.size (.slice bp r.stk.psts.length cp) r.stk.psts
  h5 : wr.heap.size ≤ x5
  h6 : wr.heap.size ≤ x6
theorem After.at {wr w1 : World} {B x5 x6 : Nat} {W : World} {r : Res} {bl : Option Addr} {cl : Nat} {bp : Option Addr} {cp : Nat}
    (h : After w1 B x5 x6 #[.int .i64 r.stk.qty, .int .i64 r.stk.val, .int .i64 r.stk.price, .slice bl r.stk.lays.length cl, .slice bp r.stk.psts.length cp] #[.int .i64 r.cst.seq, .int .i64 r.cst.qty, .int .i64 r.cst.val, .int .i64 r.cst.var] W)
    (hb : Below wr.heap.size wr w1) (hB : wr.heap.size ≤ B) (h5 : wr.heap.size ≤ x5) (h6 : wr.heap.size ≤ x6)
    (hl : OwnL w1 B (.slice bl r.stk.lays.length cl) r.stk.lays) (hp : OwnP w1 B (.slice bp r.stk.psts.length cp) r.stk.psts) : StepAt wr r bl cl bp cp x5 x6 W :=
  ⟨h.t, h.c, hb.trans (h.chg.below hb.size (by simp; exact ⟨h5, h6⟩)), (h.ownl hl).mono hB, (h.ownp hp).mono hB, h5, h6⟩
theorem StepAt.drew {wr : World} {r : Res} {bl : Option Addr} {cl : Nat} {bp : Option Addr} {cp x5 x6 : Nat} {W : World} (h : StepAt wr r bl cl bp cp x5 x6 W) : StepAt wr r bl cl bp cp x5 x6 W.drew :=
  ⟨h.t.drew, h.c.drew, h.bel.drew, h.l.keep fun _ _ _ _ hb => hb.drew, h.p.keep fun _ _ _ _ hb => hb.drew, h.h5, h.h6⟩

theorem sumQ_take : ∀ (ls : List Lay) (k : Nat), k < ls.length → sumQ (ls.take (k + 1)) = sumQ (ls.take k) + (ls.getD k zLay).qty
  | [], k, h => by simp at h
  | l :: ls, 0, _ => by simp [sumQ]
  | l :: ls, k + 1, h => by
    have := sumQ_take ls k (by simpa using h)
    simp only [List.take_succ_cons, sumQ, List.getD_cons_succ, this]; omega
theorem sumV_take : ∀ (ls : List Lay) (k : Nat), k < ls.length → sumV (ls.take (k + 1)) = sumV (ls.take k) + (ls.getD k zLay).val
  | [], k, h => by simp at h
  | l :: ls, 0, _ => by simp [sumV]
  | l :: ls, k + 1, h => by
    have := sumV_take ls k (by simpa using h)
    simp only [List.take_succ_cons, sumV, List.getD_cons_succ, this]; omega
theorem take_le {ls : List Lay} (h : ∀ l ∈ ls, GL l) (k : Nat) : 0 ≤ sumQ (ls.take k) ∧ sumQ (ls.take k) ≤ sumQ ls ∧ 0 ≤ sumV (ls.take k) ∧ sumV (ls.take k) ≤ sumV ls := by
  have h1 : sumQ ls = sumQ (ls.take k) + sumQ (ls.drop k) := by rw [← sumQ_append, List.take_append_drop]
  have h2 : sumV ls = sumV (ls.take k) + sumV (ls.drop k) := by rw [← sumV_append, List.take_append_drop]
  have a1 := sumQ_nn (ls.take k) fun l hl => h l (List.mem_of_mem_take hl)
  have a2 := sumQ_nn (ls.drop k) fun l hl => h l (List.mem_of_mem_drop hl)
  have a3 := sumV_nn (ls.take k) fun l hl => h l (List.mem_of_mem_take hl)
  have a4 := sumV_nn (ls.drop k) fun l hl => h l (List.mem_of_mem_drop hl)
  exact ⟨a1.1, by omega, a3.1, by omega⟩
end Go.Proofs.YtboiipkbhbbgfaaDoor
