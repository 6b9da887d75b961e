/- The walks of fifo's writing to a state: put. -/
import Derived.Test.YtboiipkbhbbgfaaDoorF2
import Derived.Test.YtboiipkbhbbgfaaDoorG1
namespace Go.Proofs.YtboiipkbhbbgfaaDoor
open Go.RowKit

theorem Tryd.info44 : (Tryd.prog.info? 44).map (fun i => (i.zero, i.size, i.bytes)) = some (some (.agg #[.int .i64 0, .string ⟨#[]⟩, .int .i64 0, .int .i64 0]), 4, 40) := by kernel_rfl
theorem Tryd.info51 : (Tryd.prog.info? 51).map (fun i => (i.zero, i.size, i.bytes)) = some (some (.agg #[.int .i64 0, .int .i64 0, .string ⟨#[]⟩, .int .i64 0, .int .i64 0, .int .i64 0, .int .i64 0]), 7, 64) := by kernel_rfl

theorem putF {w w1 : World} {gx gl : Nat} {e : TypeId} {cur : Array Value} {o1 o2 : Obj} {o : Nat} {v : Value} (h : Chg [gl] ((w.alloc o1).alloc o2).drew w1) (hx : Blk w gx e cur) (hn : gx ≠ gl) (hv : cur[o]? = some v) :
    w1.cell? ⟨gx, o, none⟩ = some v ∧ w1.frozen? ⟨gx, o, none⟩ = false ∧ w.heap.size + 2 ≤ w1.heap.size := by
  have hb : Blk w1 gx e cur := (((hx.alloc o1).alloc o2).drew).chg h (by simpa using hn)
  have hs := h.size
  simp at hs
  exact ⟨by rw [hb.cell, hv], hb.frozen o, hs⟩

set_option maxRecDepth 100000 in
set_option maxHeartbeats 2000000 in
theorem put_any (gx gl gp cl cp : Nat) (s : Stk) (m : Mov) (c : Cst) (kl kp : Array Value) (l : Lay) (w : World) (h : St w gx gl gp cl cp s m c kl kp) (hn : s.lays.length ≤ 1000) :
    Calls Tryd.prog 57 #[.pointer (some ⟨gx, 0, none⟩), .agg #[.int .i64 l.seq, .string l.lot, .int .i64 l.qty, .int .i64 l.val]] w fun e w' => e = .returned (.tuple #[]) ∧ StL w w' gx gl gp cp { s with lays := s.lays ++ [l] } m c kp := by
  obtain ⟨hx, hl, hp, xl, xp, lp⟩ := h
  obtain ⟨i0, hi0, hz0, hz1, hz2⟩ := info_parts Tryd.info44
  have lx := hx.lt
  have ll := hl.blk.lt
  have lpp := hp.blk.lt
  have c3 : w.cell? ⟨gx, 3, none⟩ = some (sl gl s.lays.length cl) := by rw [hx.cell]; rfl
  have f3 : w.frozen? ⟨gx, 3, none⟩ = false := hx.frozen 3
  have HX := Lib.hid hx; have HL := Lib.hid hl; have HP := Lib.hid hp; clear hx hl hp
  have n3 := World.new_ne w _ c3
  go_enter Tryd.func57, Tryd.ntmps57
  go_wp2_with fail
  go_region_law
    ((refine step_append_row _ (by rfl) _ _ _ (by rfl) 44 i0 _ 4 40 Tryd.underlying29 hi0 hz0 hz1 hz2 rfl gl s.lays.length cl _ kl (by rfl) (HL.out.of_blk (((HL.out.blk.alloc _).alloc _).drew))
        ⟨w.heap.size + 1, 0, none⟩ 1 1 l.cs (by rfl) (by rfl) (World.news_of_block (cs := #[.int .i64 l.seq, .string l.lot, .int .i64 l.qty, .int .i64 l.val]) (t := 44) (fr := (0, 0)) ((Blk.new2 w _ 44 _).drew)) (by simp [Lay.cs, Value.oneCell'])
        (by simp [maxLen]; omega) (by omega) (w.heap.size + 2) (by simp) ?_; intro gg cap cur1 w1 hrow hchg hat
      obtain ⟨hx1, hf1, hs1⟩ := putF hchg HX.out xl (o := 3) (by rfl)))
  all_goals go_wp2_with fail
  all_goals
    have he := (show St w gx gl gp cl cp s m c kl kp from ⟨HX.out, HL.out, HP.out, xl, xp, lp⟩).setx3 (cur1 := cur1) (ls' := s.lays ++ [l]) (gg := gg) (cap := cap) hchg.two (by simpa [LRow, laysC] using hrow) (by omega)
    simp only [List.length_append, List.length_cons, List.length_nil, Nat.zero_add] at he
    refine bodyPost_end (v := .tuple #[]) (by simp [results, Tryd.results57, go_sem]) rfl ⟨rfl, he⟩
end Go.Proofs.YtboiipkbhbbgfaaDoor
