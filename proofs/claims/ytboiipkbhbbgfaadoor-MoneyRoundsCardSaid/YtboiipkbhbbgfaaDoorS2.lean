/- The currency codes and the notations of the example of money's chapter, walked: Code, split. -/
import Derived.Test.YtboiipkbhbbgfaaDoorS1
import Derived.Laws.RangeString
namespace Go.Proofs.YtboiipkbhbbgfaaDoor
open Go.RowKit

theorem next_ascii_drew {P : Program} (w : World) (s : ByteArray) (pos : Nat) (ty : TypeId) (n : Nat) (h : pos < s.size) (ha : (s[pos]'h).toNat < 128) :
    (Instr.next (.pointer (some ⟨w.heap.size, 0, none⟩)) true ty).run P ((w.iter s pos).drewN n) =
      .ok (.tuple #[.bool true, .int .i64 pos, .int .i32 (s[pos]'h).toNat]) ((w.iter s (pos + 1)).drewN n) := run_next_ascii (w.drewN n) s pos ty h ha
theorem next_end_drew {P : Program} (w : World) (s : ByteArray) (pos : Nat) (ty : TypeId) (n : Nat) (h : ¬ pos < s.size) :
    (Instr.next (.pointer (some ⟨w.heap.size, 0, none⟩)) true ty).run P ((w.iter s pos).drewN n) = .ok (.tuple #[.bool false]) ((w.iter s pos).drewN n) := run_next_end (w.drewN n) s pos ty h

set_option maxRecDepth 100000 in
set_option maxHeartbeats 1000000 in
theorem code_eur (w : World) : Calls Tryd.prog 26 #[.string ⟨#[69, 85, 82]⟩] w fun e w' => e = .returned (.bool true) ∧ Below w.heap.size w w' := by
  have n0 : ∀ ty, (Instr.next (.pointer (some ⟨w.heap.size, 0, none⟩)) true ty).run Tryd.prog (w.iter ⟨#[69, 85, 82]⟩ 0) = .ok (.tuple #[.bool true, .int .i64 0, .int .i32 69]) (w.iter ⟨#[69, 85, 82]⟩ 1) := fun ty => run_next_ascii (P := Tryd.prog) w ⟨#[69, 85, 82]⟩ 0 ty (by decide) (by decide)
  have n1 : ∀ ty, (Instr.next (.pointer (some ⟨w.heap.size, 0, none⟩)) true ty).run Tryd.prog (w.iter ⟨#[69, 85, 82]⟩ 1) = .ok (.tuple #[.bool true, .int .i64 1, .int .i32 85]) (w.iter ⟨#[69, 85, 82]⟩ 2) := fun ty => run_next_ascii (P := Tryd.prog) w ⟨#[69, 85, 82]⟩ 1 ty (by decide) (by decide)
  have n2 : ∀ ty, (Instr.next (.pointer (some ⟨w.heap.size, 0, none⟩)) true ty).run Tryd.prog (w.iter ⟨#[69, 85, 82]⟩ 2) = .ok (.tuple #[.bool true, .int .i64 2, .int .i32 82]) (w.iter ⟨#[69, 85, 82]⟩ 3) := fun ty => run_next_ascii (P := Tryd.prog) w ⟨#[69, 85, 82]⟩ 2 ty (by decide) (by decide)
  have n3 : ∀ ty, (Instr.next (.pointer (some ⟨w.heap.size, 0, none⟩)) true ty).run Tryd.prog (w.iter ⟨#[69, 85, 82]⟩ 3) = .ok (.tuple #[.bool false]) (w.iter ⟨#[69, 85, 82]⟩ 3) := fun ty => run_next_end (P := Tryd.prog) w ⟨#[69, 85, 82]⟩ 3 ty (by decide)
  go_enter Tryd.func26, Tryd.ntmps26
  go_wp2
  refine wp_loop_rounds 4 ?_
  rw [rounds_succ]
  go_wp2
  rw [rounds_succ]
  go_wp2
  rw [rounds_succ]
  go_wp2
  rw [rounds_succ]
  go_wp2
  go_ret
  exact ⟨rfl, (Below.refl _ _).alloc (Nat.le_refl _) _⟩

set_option maxRecDepth 100000 in
set_option maxHeartbeats 1000000 in
theorem code_eu1 (w : World) : Calls Tryd.prog 26 #[.string ⟨#[69, 85, 49]⟩] w fun e w' => e = .returned (.bool false) ∧ Below w.heap.size w w' := by
  have n0 : ∀ ty, (Instr.next (.pointer (some ⟨w.heap.size, 0, none⟩)) true ty).run Tryd.prog (w.iter ⟨#[69, 85, 49]⟩ 0) = .ok (.tuple #[.bool true, .int .i64 0, .int .i32 69]) (w.iter ⟨#[69, 85, 49]⟩ 1) := fun ty => run_next_ascii (P := Tryd.prog) w ⟨#[69, 85, 49]⟩ 0 ty (by decide) (by decide)
  have n1 : ∀ ty, (Instr.next (.pointer (some ⟨w.heap.size, 0, none⟩)) true ty).run Tryd.prog (w.iter ⟨#[69, 85, 49]⟩ 1) = .ok (.tuple #[.bool true, .int .i64 1, .int .i32 85]) (w.iter ⟨#[69, 85, 49]⟩ 2) := fun ty => run_next_ascii (P := Tryd.prog) w ⟨#[69, 85, 49]⟩ 1 ty (by decide) (by decide)
  have n2 : ∀ ty, (Instr.next (.pointer (some ⟨w.heap.size, 0, none⟩)) true ty).run Tryd.prog (w.iter ⟨#[69, 85, 49]⟩ 2) = .ok (.tuple #[.bool true, .int .i64 2, .int .i32 49]) (w.iter ⟨#[69, 85, 49]⟩ 3) := fun ty => run_next_ascii (P := Tryd.prog) w ⟨#[69, 85, 49]⟩ 2 ty (by decide) (by decide)
  go_enter Tryd.func26, Tryd.ntmps26
  go_wp2
  refine wp_loop_rounds 3 ?_
  rw [rounds_succ]
  go_wp2
  rw [rounds_succ]
  go_wp2
  rw [rounds_succ]
  go_wp2
  go_ret
  exact ⟨rfl, (Below.refl _ _).alloc (Nat.le_refl _) _⟩

set_option maxRecDepth 100000 in
set_option maxHeartbeats 2000000 in
theorem split_a (w : World) : Calls Tryd.prog 47 #[.string ⟨#[49, 50, 51, 52, 46, 53, 48]⟩] w fun e w' => e = .returned (.tuple #[.string ⟨#[49, 50, 51, 52]⟩, .string ⟨#[53, 48]⟩, .bool true]) ∧ Below w.heap.size w w' := by
  have n0 : ∀ ty, (Instr.next (.pointer (some ⟨w.heap.size, 0, none⟩)) true ty).run Tryd.prog (w.iter ⟨#[49, 50, 51, 52, 46, 53, 48]⟩ 0) = .ok (.tuple #[.bool true, .int .i64 0, .int .i32 49]) (w.iter ⟨#[49, 50, 51, 52, 46, 53, 48]⟩ 1) := fun ty => run_next_ascii (P := Tryd.prog) w ⟨#[49, 50, 51, 52, 46, 53, 48]⟩ 0 ty (by decide) (by decide)
  have n1 : ∀ ty, (Instr.next (.pointer (some ⟨w.heap.size, 0, none⟩)) true ty).run Tryd.prog (w.iter ⟨#[49, 50, 51, 52, 46, 53, 48]⟩ 1) = .ok (.tuple #[.bool true, .int .i64 1, .int .i32 50]) (w.iter ⟨#[49, 50, 51, 52, 46, 53, 48]⟩ 2) := fun ty => run_next_ascii (P := Tryd.prog) w ⟨#[49, 50, 51, 52, 46, 53, 48]⟩ 1 ty (by decide) (by decide)
  have n2 : ∀ ty, (Instr.next (.pointer (some ⟨w.heap.size, 0, none⟩)) true ty).run Tryd.prog (w.iter ⟨#[49, 50, 51, 52, 46, 53, 48]⟩ 2) = .ok (.tuple #[.bool true, .int .i64 2, .int .i32 51]) (w.iter ⟨#[49, 50, 51, 52, 46, 53, 48]⟩ 3) := fun ty => run_next_ascii (P := Tryd.prog) w ⟨#[49, 50, 51, 52, 46, 53, 48]⟩ 2 ty (by decide) (by decide)
  have n3 : ∀ ty, (Instr.next (.pointer (some ⟨w.heap.size, 0, none⟩)) true ty).run Tryd.prog (w.iter ⟨#[49, 50, 51, 52, 46, 53, 48]⟩ 3) = .ok (.tuple #[.bool true, .int .i64 3, .int .i32 52]) (w.iter ⟨#[49, 50, 51, 52, 46, 53, 48]⟩ 4) := fun ty => run_next_ascii (P := Tryd.prog) w ⟨#[49, 50, 51, 52, 46, 53, 48]⟩ 3 ty (by decide) (by decide)
  have n4 : ∀ ty, (Instr.next (.pointer (some ⟨w.heap.size, 0, none⟩)) true ty).run Tryd.prog (w.iter ⟨#[49, 50, 51, 52, 46, 53, 48]⟩ 4) = .ok (.tuple #[.bool true, .int .i64 4, .int .i32 46]) (w.iter ⟨#[49, 50, 51, 52, 46, 53, 48]⟩ 5) := fun ty => run_next_ascii (P := Tryd.prog) w ⟨#[49, 50, 51, 52, 46, 53, 48]⟩ 4 ty (by decide) (by decide)
  have n5 : ∀ ty n, (Instr.next (.pointer (some ⟨w.heap.size, 0, none⟩)) true ty).run Tryd.prog ((w.iter ⟨#[49, 50, 51, 52, 46, 53, 48]⟩ 5).drewN n) = .ok (.tuple #[.bool true, .int .i64 5, .int .i32 53]) ((w.iter ⟨#[49, 50, 51, 52, 46, 53, 48]⟩ 6).drewN n) := fun ty n => next_ascii_drew (P := Tryd.prog) w ⟨#[49, 50, 51, 52, 46, 53, 48]⟩ 5 ty n (by decide) (by decide)
  have n6 : ∀ ty n, (Instr.next (.pointer (some ⟨w.heap.size, 0, none⟩)) true ty).run Tryd.prog ((w.iter ⟨#[49, 50, 51, 52, 46, 53, 48]⟩ 6).drewN n) = .ok (.tuple #[.bool true, .int .i64 6, .int .i32 48]) ((w.iter ⟨#[49, 50, 51, 52, 46, 53, 48]⟩ 7).drewN n) := fun ty n => next_ascii_drew (P := Tryd.prog) w ⟨#[49, 50, 51, 52, 46, 53, 48]⟩ 6 ty n (by decide) (by decide)
  have n7 : ∀ ty n, (Instr.next (.pointer (some ⟨w.heap.size, 0, none⟩)) true ty).run Tryd.prog ((w.iter ⟨#[49, 50, 51, 52, 46, 53, 48]⟩ 7).drewN n) = .ok (.tuple #[.bool false]) ((w.iter ⟨#[49, 50, 51, 52, 46, 53, 48]⟩ 7).drewN n) := fun ty n => next_end_drew (P := Tryd.prog) w ⟨#[49, 50, 51, 52, 46, 53, 48]⟩ 7 ty n (by decide)
  have x1 : (⟨#[49, 50, 51, 52, 46, 53, 48]⟩ : ByteArray).extract 0 4 = ⟨#[49, 50, 51, 52]⟩ := by decide
  have x2 : (⟨#[49, 50, 51, 52, 46, 53, 48]⟩ : ByteArray).extract 5 7 = ⟨#[53, 48]⟩ := by decide
  go_enter Tryd.func47, Tryd.ntmps47
  go_wp2
  refine wp_loop_rounds 8 ?_
  rw [rounds_succ]
  go_wp2
  rw [rounds_succ]
  go_wp2
  rw [rounds_succ]
  go_wp2
  rw [rounds_succ]
  go_wp2
  rw [rounds_succ]
  go_wp2
  go_quiet (fail)
  go_wp2
  rw [rounds_succ]
  go_wp2
  rw [rounds_succ]
  go_wp2
  rw [rounds_succ]
  go_wp2
  go_ret3
  exact ⟨rfl, ((Below.refl _ _).alloc (Nat.le_refl _) _).trans ⟨rfl, rfl, rfl, Nat.le_refl _, fun _ _ => rfl⟩⟩

set_option maxRecDepth 100000 in
set_option maxHeartbeats 2000000 in
theorem split_b (w : World) : Calls Tryd.prog 47 #[.string ⟨#[48, 46, 48, 48]⟩] w fun e w' => e = .returned (.tuple #[.string ⟨#[48]⟩, .string ⟨#[48, 48]⟩, .bool true]) ∧ Below w.heap.size w w' := by
  have n0 : ∀ ty, (Instr.next (.pointer (some ⟨w.heap.size, 0, none⟩)) true ty).run Tryd.prog (w.iter ⟨#[48, 46, 48, 48]⟩ 0) = .ok (.tuple #[.bool true, .int .i64 0, .int .i32 48]) (w.iter ⟨#[48, 46, 48, 48]⟩ 1) := fun ty => run_next_ascii (P := Tryd.prog) w ⟨#[48, 46, 48, 48]⟩ 0 ty (by decide) (by decide)
  have n1 : ∀ ty, (Instr.next (.pointer (some ⟨w.heap.size, 0, none⟩)) true ty).run Tryd.prog (w.iter ⟨#[48, 46, 48, 48]⟩ 1) = .ok (.tuple #[.bool true, .int .i64 1, .int .i32 46]) (w.iter ⟨#[48, 46, 48, 48]⟩ 2) := fun ty => run_next_ascii (P := Tryd.prog) w ⟨#[48, 46, 48, 48]⟩ 1 ty (by decide) (by decide)
  have n2 : ∀ ty n, (Instr.next (.pointer (some ⟨w.heap.size, 0, none⟩)) true ty).run Tryd.prog ((w.iter ⟨#[48, 46, 48, 48]⟩ 2).drewN n) = .ok (.tuple #[.bool true, .int .i64 2, .int .i32 48]) ((w.iter ⟨#[48, 46, 48, 48]⟩ 3).drewN n) := fun ty n => next_ascii_drew (P := Tryd.prog) w ⟨#[48, 46, 48, 48]⟩ 2 ty n (by decide) (by decide)
  have n3 : ∀ ty n, (Instr.next (.pointer (some ⟨w.heap.size, 0, none⟩)) true ty).run Tryd.prog ((w.iter ⟨#[48, 46, 48, 48]⟩ 3).drewN n) = .ok (.tuple #[.bool true, .int .i64 3, .int .i32 48]) ((w.iter ⟨#[48, 46, 48, 48]⟩ 4).drewN n) := fun ty n => next_ascii_drew (P := Tryd.prog) w ⟨#[48, 46, 48, 48]⟩ 3 ty n (by decide) (by decide)
  have n4 : ∀ ty n, (Instr.next (.pointer (some ⟨w.heap.size, 0, none⟩)) true ty).run Tryd.prog ((w.iter ⟨#[48, 46, 48, 48]⟩ 4).drewN n) = .ok (.tuple #[.bool false]) ((w.iter ⟨#[48, 46, 48, 48]⟩ 4).drewN n) := fun ty n => next_end_drew (P := Tryd.prog) w ⟨#[48, 46, 48, 48]⟩ 4 ty n (by decide)
  have x1 : (⟨#[48, 46, 48, 48]⟩ : ByteArray).extract 0 1 = ⟨#[48]⟩ := by decide
  have x2 : (⟨#[48, 46, 48, 48]⟩ : ByteArray).extract 2 4 = ⟨#[48, 48]⟩ := by decide
  go_enter Tryd.func47, Tryd.ntmps47
  go_wp2
  refine wp_loop_rounds 5 ?_
  rw [rounds_succ]
  go_wp2
  rw [rounds_succ]
  go_wp2
  go_quiet (fail)
  go_wp2
  rw [rounds_succ]
  go_wp2
  rw [rounds_succ]
  go_wp2
  rw [rounds_succ]
  go_wp2
  go_ret3
  exact ⟨rfl, ((Below.refl _ _).alloc (Nat.le_refl _) _).trans ⟨rfl, rfl, rfl, Nat.le_refl _, fun _ _ => rfl⟩⟩

end Go.Proofs.YtboiipkbhbbgfaaDoor
