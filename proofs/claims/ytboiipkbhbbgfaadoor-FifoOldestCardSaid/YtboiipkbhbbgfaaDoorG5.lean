/- The walk of fifo's take. -/
import Derived.Test.YtboiipkbhbbgfaaDoorG4
namespace Go.Proofs.YtboiipkbhbbgfaaDoor
open Go.RowKit

theorem cut_set {α : Type} (ls : List α) : ∀ (i : Nat) (l : α), (ls.set i l).take i ++ (ls.set i l).drop (i + 1) = ls.take i ++ ls.drop (i + 1) := by
  induction ls with
  | nil => intro i l; simp
  | cons x xs ih =>
    intro i l
    cases i with
    | zero => simp
    | succ i => simp [ih i l]

set_option maxRecDepth 100000 in
set_option maxHeartbeats 4000000 in
theorem take_any (gx gl gp cl cp : Nat) (s : Stk) (m : Mov) (c : Cst) (kl kp : Array Value) (i : Nat) (q : Int) (w : World) (h : St w gx gl gp cl cp s m c kl kp) (hi : i < s.lays.length) (hn : s.lays.length ≤ 1000)
    (iv : I64 (s.lays.getD i zLay).val) (iq : I64 (s.lays.getD i zLay).qty) (hq : I64 q) :
    Calls Tryd.prog 58 #[.pointer (some ⟨gx, 0, none⟩), .int .i64 i, .int .i64 q] w fun e w' => e = .returned (.int .i64 (takeM s.lays i q).1) ∧ StL w w' gx gl gp cp { s with lays := (takeM s.lays i q).2 } m c kp := by
  have c3 : w.cell? ⟨gx, 3, none⟩ = some (sl gl s.lays.length cl) := by rw [h.x.cell]; rfl
  obtain ⟨l0, l1, l2, l3⟩ := h.l.lay i hi
  have HS := Lib.hid h; clear h
  have k0 : (0 : Int) ≤ (i : Int) := by omega
  have k1 : (i : Int) < (s.lays.length : Int) := by omega
  have ht1 : (takeM s.lays i q).1 = partM (s.lays.getD i zLay).val q (s.lays.getD i zLay).qty := rfl
  have ht2 : (takeM s.lays i q).2 = if wrap64 ((s.lays.getD i zLay).qty - q) = 0 then s.lays.take i ++ s.lays.drop (i + 1) else s.lays.set i { s.lays.getD i zLay with qty := wrap64 ((s.lays.getD i zLay).qty - q), val := wrap64 ((s.lays.getD i zLay).val - partM (s.lays.getD i zLay).val q (s.lays.getD i zLay).qty) } := rfl
  rw [ht1, ht2]
  clear ht1 ht2
  generalize hL : s.lays.getD i zLay = L at *
  have HLe := Lib.hid hL; clear hL
  have hpart := fun w => part_any L.val q L.qty w iv hq iq
  generalize hpm : partM L.val q L.qty = v at *
  clear hpm
  have hb0 : ∀ w1, Below w.drew.heap.size w.drew w1 → Below w.heap.size w w1 := fun w1 hb => ((Below.refl _ _).drew).trans hb
  have hw := w64 (L.qty - q)
  by_cases hz : wrap64 (L.qty - q) = 0
  · rw [if_pos hz]
    have h0 : (wrap64 (L.qty - q) == 0) = true := by simpa using hz
    have h0' : (IntKind.i64.wrap (L.qty - q) == 0) = true := by rw [hw]; exact h0
    have HZ := Lib.hid hz; clear hz hw
    go_enter Tryd.func58, Tryd.ntmps58
    go_wp2_with fail
    refine still_tail2 9 (by kernel_rfl) (by kernel_rfl) ?_
    simp only [List.take_succ_cons, List.take_zero, List.drop_succ_cons, List.drop_zero]
    repeat still_step
    refine wpStill_nil ?_
    go_wp2_with fail
    refine (hpart _).mono ?_; rintro e w1 ⟨rfl, hb⟩
    have hb1 := hb0 _ hb
    have HS1 := HS.out.below' (w' := w1) hb1
    obtain ⟨l0, l1, l2, l3⟩ := HS1.l.lay i hi
    have f0 := fun o => HS1.l.blk.frozen o
    rw [HLe.out] at l0 l1 l2 l3
    have HS1 := Lib.hid HS1
    go_wp2_with fail
    have h1 := HS1.out.setl i 2 (.int .i64 (wrap64 (L.qty - q))) { L with qty := wrap64 (L.qty - q) } hi (by decide) (by rw [HLe.out]; rfl)
    have h2 := h1.setl i 3 (.int .i64 (wrap64 (L.val - v))) { L with qty := wrap64 (L.qty - q), val := wrap64 (L.val - v) } (by simpa using hi) (by decide) (by rw [getD_at _ _ _ (by simpa using hi)]; simp [Lay.cs])
    have hbw : Chg [gx, gl] w ((w1.setCell ⟨gl, i * 4 + 2, none⟩ (.int .i64 (wrap64 (L.qty - q)))).setCell ⟨gl, i * 4 + 3, none⟩ (.int .i64 (wrap64 (L.val - v)))) := ((Chg.of_below _ hb1).set (.inl (by simp)) _).set (.inl (by simp)) _
    refine (remove_any gx gl gp cl cp _ m c _ _ i _ h2 (by simpa using hi) (by simpa using hn)).mono ?_
    rintro e w2 ⟨rfl, hs2⟩
    have H2 := Lib.hid (StL.trans hbw (.inl rfl) hs2)
    clear hs2 hbw h1 h2
    go_wp2_with fail
    go_ret
    refine ⟨rfl, ?_⟩
    have := H2.out
    simpa [cut_set] using this
  · rw [if_neg hz]
    have h0 : (wrap64 (L.qty - q) == 0) = false := by simpa using hz
    have h0' : (IntKind.i64.wrap (L.qty - q) == 0) = false := by rw [hw]; exact h0
    have HZ := Lib.hid hz; clear hz hw
    go_enter Tryd.func58, Tryd.ntmps58
    go_wp2_with fail
    refine still_tail2 9 (by kernel_rfl) (by kernel_rfl) ?_
    simp only [List.take_succ_cons, List.take_zero, List.drop_succ_cons, List.drop_zero]
    repeat still_step
    refine wpStill_nil ?_
    go_wp2_with fail
    refine (hpart _).mono ?_; rintro e w1 ⟨rfl, hb⟩
    have hb1 := hb0 _ hb
    have HS1 := HS.out.below' (w' := w1) hb1
    obtain ⟨l0, l1, l2, l3⟩ := HS1.l.lay i hi
    have f0 := fun o => HS1.l.blk.frozen o
    rw [HLe.out] at l0 l1 l2 l3
    have HS1 := Lib.hid HS1
    go_wp2_with fail
    go_ret
    have h1 := HS1.out.setl i 2 (.int .i64 (wrap64 (L.qty - q))) { L with qty := wrap64 (L.qty - q) } hi (by decide) (by rw [HLe.out]; rfl)
    have h2 := h1.setl i 3 (.int .i64 (wrap64 (L.val - v))) { L with qty := wrap64 (L.qty - q), val := wrap64 (L.val - v) } (by simpa using hi) (by decide) (by rw [getD_at _ _ _ (by simpa using hi)]; simp [Lay.cs])
    exact ⟨rfl, gl, cl, _, by simpa using h2, ((Chg.of_below _ hb1).set (.inl (by simp)) _).set (.inl (by simp)) _, .inl rfl⟩
end Go.Proofs.YtboiipkbhbbgfaaDoor
