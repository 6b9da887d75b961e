/- The examples of the chapter on money, walked: lives; and MoneyRounds itself. -/
import Derived.Test.YtboiipkbhbbgfaaDoorS4
namespace Go.Proofs.YtboiipkbhbbgfaaDoor
open Go.RowKit

/-- the table of the powers of ten, as it is laid -/
def PowersAt (w : World) : Prop := w.cell? ⟨0, 0, none⟩ = some (.int .i64 1) ∧ w.cell? ⟨0, 1, none⟩ = some (.int .i64 10) ∧ w.cell? ⟨0, 2, none⟩ = some (.int .i64 100) ∧
  w.cell? ⟨0, 3, none⟩ = some (.int .i64 1000) ∧ w.cell? ⟨0, 4, none⟩ = some (.int .i64 10000)

theorem PowersAt.below {w w' : World} (h : PowersAt w) (hb : Below w.heap.size w w') : PowersAt w' := by
  obtain ⟨h0, h1, h2, h3, h4⟩ := h
  have hl : 0 < w.heap.size := World.block_lt_of_cell? w _ h0
  exact ⟨by rw [hb.cell hl]; exact h0, by rw [hb.cell hl]; exact h1, by rw [hb.cell hl]; exact h2, by rw [hb.cell hl]; exact h3, by rw [hb.cell hl]; exact h4⟩

theorem scale_ex : scaleM (-125) 2 1 4 100 10 = (-12, 0) := by decide

set_option maxRecDepth 100000 in
set_option maxHeartbeats 4000000 in
theorem mlives (w : World) (hp0 : PowersAt w) : Calls Tryd.prog 12 #[] w fun e w' => e = .returned (.bool true) ∧ Below w.heap.size w w' := by
  have hp := Lib.hid hp0; clear hp0
  have he := Lib.hid scale_ex
  go_enter Tryd.func12, Tryd.ntmps12
  go_wp2_with fail
  refine (mtext _ hp.out.2.2.1).mono ?_; rintro e w1 ⟨rfl, hb1⟩
  go_wp2_with fail
  refine (parse_a _).mono ?_; rintro e w2 ⟨rfl, hb2⟩
  have hc2 : Below w.heap.size w w2 := hb1.trans (hb2.mono hb1.size)
  clear hb1 hb2
  go_wp2_with fail
  have hq := hp.out.below hc2
  refine (scale_any _ _ _ _ 100 10 _ (by decide) (by decide) (by decide) (by decide) (by decide) (by decide) (fun _ _ => hq.2.2.1) (fun _ _ => hq.2.1)).mono ?_; rintro e w3 ⟨rfl, hb3⟩
  rw [he.out]
  have hc3 : Below w.heap.size w w3 := hc2.trans (hb3.mono hc2.size)
  clear hq hb3 hc2
  go_wp2_with fail
  refine (parse_b _).mono ?_; rintro e w4 ⟨rfl, hb4⟩
  have hc4 : Below w.heap.size w w4 := hc3.trans (hb4.mono hc3.size)
  clear hb4 hc3
  go_wp2_with fail
  refine (code_eur _).mono ?_; rintro e w5 ⟨rfl, hb5⟩
  have hc5 : Below w.heap.size w w5 := hc4.trans (hb5.mono hc4.size)
  clear hb5 hc4
  go_wp2_with fail
  refine (code_eu1 _).mono ?_; rintro e w6 ⟨rfl, hb6⟩
  have hc6 : Below w.heap.size w w6 := hc5.trans (hb6.mono hc5.size)
  clear hb6 hc5
  go_wp2_with fail
  go_ret
  exact ⟨rfl, hc6⟩
end Go.Proofs.YtboiipkbhbbgfaaDoor
