/- What the rows of the Fifo statements share: the table of the months' lengths, and a list of movements as an argument brings it. -/
import Derived.Test.YtboiipkbhbbgfaaDoorR0
import Derived.Test.YtboiipkbhbbgfaaDoorCards
import Derived.Test.YtboiipkbhbbgfaaDoorTie
import Derived.Lib.LaidTab
import Derived.LaidLaws
import Derived.SevenTiedAt
namespace Go.Proofs.YtboiipkbhbbgfaaDoor
open Go.ChangeShapes Go.WideShapes Go.ChangeAt Go.RowKit

theorem laidOut : laidOutB Tryd.prog = true := by kernel_rfl
theorem own : ownKnob Tryd.prog.godebug = none := by kernel_rfl
theorem cells117 : Tryd.prog.cellsOf 117 = 12 := by kernel_rfl
theorem lenName : Tryd.prog.globalNamed "accounting/days.lengths" = some 1 := by kernel_rfl
theorem lenType : (Tryd.prog.globals[1]?).map (·.type) = some 117 := by kernel_rfl

theorem lengths_of_laid {W : World} (h : laidMet Tryd.prog [("accounting/days.lengths", Rows.laid_accounting_days_lengths)] W) : LengthsAt W := by
  have ht := Lib.tabIs_of_head (k := .i64) (zs := [31, 28, 31, 30, 31, 30, 31, 31, 30, 31, 30, 31]) (rest := []) lenName lenType Tryd.underlying117 Tryd.underlying3 cellsOf3 cells117 h
  intro k hk
  have hc := ht.cell lenName k hk
  rw [hc]
  rcases k with _ | _ | _ | _ | _ | _ | _ | _ | _ | _ | _ | _ | k
  all_goals first | rfl | omega

noncomputable def laidWorld (os : Os) : World :=
  { World.holding Tryd.prog os ⟨#[], #[], []⟩ with heap := (World.holding Tryd.prog os ⟨#[], #[], []⟩).heap.modify 1 fun
      | .cells _ t frozen => .cells #[.int .i64 31, .int .i64 28, .int .i64 31, .int .i64 30, .int .i64 31, .int .i64 30, .int .i64 31, .int .i64 31, .int .i64 30, .int .i64 31, .int .i64 30, .int .i64 31] t frozen
      | o => o }

set_option maxRecDepth 100000 in
theorem open_movs_arg {H : Type} {enc : TypeId × Value → H} {w : World} {base : Nat} {spare : Nat → Bool} {held : Bool} {r : Reach} {b0 : Nat} {v : Value} {d : DataW H} {p : List MemPlace}
    (hv : Value.okWide Tryd.prog w r b0 28 v) (h : DataW.Trod enc Tryd.prog w base spare held 28 v d p) : ∃ ms : List Mov, Rd w 8 v ms.length (movsC ms) ∧ ms.length ≤ maxLen ∧ ∀ m ∈ ms, MovOk m := by
  obtain ⟨a, len, cap, rfl⟩ := okWide_slice Tryd.underlying28 hv
  obtain ⟨fuel, hf⟩ := h
  exact open_movs hf
end Go.Proofs.YtboiipkbhbbgfaaDoor
