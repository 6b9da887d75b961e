/- Numbers read out of the notations of the example of the chapter on money, walked: num.Parse and what it calls. -/
import Derived.Test.YtboiipkbhbbgfaaDoorS3
namespace Go.Proofs.YtboiipkbhbbgfaaDoor
open Go.RowKit
theorem ret_ib {k : IntKind} {a b : Int} {c : Bool} (h : a = b) : Ending.returned (.tuple #[.int k a, .bool c]) = .returned (.tuple #[.int k b, .bool c]) := by rw [h]
set_option maxRecDepth 100000 in
set_option maxHeartbeats 2000000 in
theorem mul64_small (a b : Int) (w : World) (h : 0 ≤ a) (h1 : a ≤ 1000000) (h2 : 0 ≤ b) (h3 : b ≤ 1000000) : Calls Tryd.prog 94 #[.int .u64 a, .int .u64 b] w fun e w' => e = .returned (.tuple #[.int .u64 0, .int .u64 (a * b)]) ∧ w = w' := by
  have e1 : bits BinOp.and IntKind.u64 a 4294967295 = a := by rw [m32 a h (by omega)]; omega
  have e2 : bits BinOp.and IntKind.u64 b 4294967295 = b := by rw [m32 b h2 (by omega)]; omega
  have e3 : a / 4294967296 = 0 := by omega
  have e4 : b / 4294967296 = 0 := by omega
  have p0 : 0 ≤ a * b := Int.mul_nonneg h h2
  have p1 : a * b ≤ 1000000 * 1000000 := Int.mul_le_mul h1 h3 h2 (by omega)
  have p2 : a * b ≤ 1000000000000 := by omega
  go_enter Tryd.func94, Tryd.ntmps94
  go_wp2
  go_ret2
  have e5 : bits BinOp.and IntKind.u64 (a * b / 4294967296) 4294967295 = a * b / 4294967296 := by rw [m32 _ (by omega) (by omega)]; omega
  refine ⟨ret_int2 (c := 0) (d := a * b) ?_ rfl, rfl⟩
  show IntKind.u64.wrap (a * b / 4294967296 / 4294967296 + IntKind.u64.wrap (bits BinOp.and IntKind.u64 (a * b / 4294967296) 4294967295) / 4294967296) = 0
  rw [e5, u64_wrap, u64_wrap]
  omega

set_option maxRecDepth 100000 in
set_option maxHeartbeats 2000000 in
theorem mul_10 (a : Int) (w : World) (h : 0 ≤ a) (h1 : a ≤ 100000) : Calls Tryd.prog 78 #[.int .i64 a, .int .i64 10] w fun e w' => e = .returned (.tuple #[.int .i64 (a * 10), .bool true]) ∧ w = w' := by
  have hq : 0 ≤ a * 10 := by omega
  have hq' : a * 10 ≤ 1000000 := by omega
  have d1 : decide (9223372036854775807 < a * 10) = false := by simp; omega
  go_enter Tryd.func78, Tryd.ntmps78
  go_wp2_with (first | (go_at_call 73; refine (size_pos _ _ (by omega) (by omega)).mono ?_; rintro e w' ⟨rfl, rfl⟩) | (go_at_call 94; refine (mul64_small _ _ _ (by omega) (by omega) (by omega) (by omega)).mono ?_; rintro e w' ⟨rfl, rfl⟩))
  go_ret2
  exact ⟨rfl, rfl⟩

set_option maxRecDepth 100000 in
set_option maxHeartbeats 2000000 in
theorem add_small (a b : Int) (w : World) (h : 0 ≤ a) (h1 : a ≤ 1000000) (h2 : 0 ≤ b) (h3 : b ≤ 9) : Calls Tryd.prog 76 #[.int .i64 a, .int .i64 b] w fun e w' => e = .returned (.tuple #[.int .i64 (a + b), .bool true]) ∧ w = w' := by
  by_cases hb : b = 0
  · subst hb
    go_enter Tryd.func76, Tryd.ntmps76
    go_wp2
    go_ret2
    exact ⟨ret_ib (by omega), rfl⟩
  · have d1 : decide (a < a + b) = true := by simp; omega
    have d2 : decide (0 < b) = true := by simp; omega
    go_enter Tryd.func76, Tryd.ntmps76
    go_wp2
    go_ret2
    exact ⟨rfl, rfl⟩
set_option maxRecDepth 100000 in
set_option maxHeartbeats 2000000 in
theorem formed_a (w : World) : Calls Tryd.prog 75 #[.string ⟨#[49, 50, 51, 52, 53, 48]⟩] w fun e w' => e = .returned (.bool true) ∧ w = w' := by
  have b0 : ((⟨#[49, 50, 51, 52, 53, 48]⟩ : ByteArray)[0]'(by decide)).toNat = 49 := by decide
  have b1 : ((⟨#[49, 50, 51, 52, 53, 48]⟩ : ByteArray)[1]'(by decide)).toNat = 50 := by decide
  have b2 : ((⟨#[49, 50, 51, 52, 53, 48]⟩ : ByteArray)[2]'(by decide)).toNat = 51 := by decide
  have b3 : ((⟨#[49, 50, 51, 52, 53, 48]⟩ : ByteArray)[3]'(by decide)).toNat = 52 := by decide
  have b4 : ((⟨#[49, 50, 51, 52, 53, 48]⟩ : ByteArray)[4]'(by decide)).toNat = 53 := by decide
  have b5 : ((⟨#[49, 50, 51, 52, 53, 48]⟩ : ByteArray)[5]'(by decide)).toNat = 48 := by decide
  go_enter Tryd.func75, Tryd.ntmps75
  go_wp2
  refine wp_loop_rounds 7 ?_
  iterate 7
    rw [rounds_succ]
    go_wp2
  go_ret
  exact ⟨rfl, rfl⟩
set_option maxRecDepth 100000 in
set_option maxHeartbeats 2000000 in
theorem formed_b (w : World) : Calls Tryd.prog 75 #[.string ⟨#[45, 48]⟩] w fun e w' => e = .returned (.bool false) ∧ w = w' := by
  have b0 : ((⟨#[45, 48]⟩ : ByteArray)[0]'(by decide)).toNat = 45 := by decide
  have x0 : (⟨#[45, 48]⟩ : ByteArray).extract 1 2 = ⟨#[48]⟩ := by decide
  have b1 : ((⟨#[48]⟩ : ByteArray)[0]'(by decide)).toNat = 48 := by decide
  go_enter Tryd.func75, Tryd.ntmps75
  go_wp2
  go_ret
  exact ⟨rfl, rfl⟩

set_option maxRecDepth 100000 in
set_option maxHeartbeats 2000000 in
theorem plain_000 (w : World) : Calls Tryd.prog 48 #[.string ⟨#[48, 48, 48]⟩] w fun e w' => e = .returned (.string ⟨#[48]⟩) ∧ w = w' := by
  have b0 : ((⟨#[48, 48, 48]⟩ : ByteArray)[0]'(by decide)).toNat = 48 := by decide
  have x0 : (⟨#[48, 48, 48]⟩ : ByteArray).extract 1 3 = ⟨#[48, 48]⟩ := by decide
  have b1 : ((⟨#[48, 48]⟩ : ByteArray)[0]'(by decide)).toNat = 48 := by decide
  have x1 : (⟨#[48, 48]⟩ : ByteArray).extract 1 2 = ⟨#[48]⟩ := by decide
  go_enter Tryd.func48, Tryd.ntmps48
  go_wp2
  refine wp_loop_rounds 3 ?_
  iterate 3
    rw [rounds_succ]
    go_wp2
  go_ret
  exact ⟨rfl, rfl⟩
set_option maxRecDepth 100000 in
set_option maxHeartbeats 2000000 in
theorem plain_0 (w : World) : Calls Tryd.prog 48 #[.string ⟨#[48]⟩] w fun e w' => e = .returned (.string ⟨#[48]⟩) ∧ w = w' := by
  go_enter Tryd.func48, Tryd.ntmps48
  go_wp2
  refine wp_loop_rounds 1 ?_
  iterate 1
    rw [rounds_succ]
    go_wp2
  go_ret
  exact ⟨rfl, rfl⟩
set_option maxRecDepth 100000 in
set_option maxHeartbeats 2000000 in
theorem plain_1234 (w : World) : Calls Tryd.prog 48 #[.string ⟨#[49, 50, 51, 52]⟩] w fun e w' => e = .returned (.string ⟨#[49, 50, 51, 52]⟩) ∧ w = w' := by
  have b0 : ((⟨#[49, 50, 51, 52]⟩ : ByteArray)[0]'(by decide)).toNat = 49 := by decide
  go_enter Tryd.func48, Tryd.ntmps48
  go_wp2
  refine wp_loop_rounds 1 ?_
  iterate 1
    rw [rounds_succ]
    go_wp2
  go_ret
  exact ⟨rfl, rfl⟩
set_option maxRecDepth 100000 in
set_option maxHeartbeats 2000000 in
theorem plain_123450 (w : World) : Calls Tryd.prog 48 #[.string ⟨#[49, 50, 51, 52, 53, 48]⟩] w fun e w' => e = .returned (.string ⟨#[49, 50, 51, 52, 53, 48]⟩) ∧ w = w' := by
  have b0 : ((⟨#[49, 50, 51, 52, 53, 48]⟩ : ByteArray)[0]'(by decide)).toNat = 49 := by decide
  go_enter Tryd.func48, Tryd.ntmps48
  go_wp2
  refine wp_loop_rounds 1 ?_
  iterate 1
    rw [rounds_succ]
    go_wp2
  go_ret
  exact ⟨rfl, rfl⟩

set_option maxRecDepth 100000 in
set_option maxHeartbeats 4000000 in
theorem nparse_a (w : World) : Calls Tryd.prog 49 #[.string ⟨#[49, 50, 51, 52, 53, 48]⟩, .int .i64 (-1000000000000000), .int .i64 1000000000000000] w fun e w' => e = .returned (.tuple #[.int .i64 123450, .int .i64 0]) ∧ w = w' := by
  have b0 : ((⟨#[49, 50, 51, 52, 53, 48]⟩ : ByteArray)[0]'(by decide)).toNat = 49 := by decide
  have b1 : ((⟨#[49, 50, 51, 52, 53, 48]⟩ : ByteArray)[1]'(by decide)).toNat = 50 := by decide
  have b2 : ((⟨#[49, 50, 51, 52, 53, 48]⟩ : ByteArray)[2]'(by decide)).toNat = 51 := by decide
  have b3 : ((⟨#[49, 50, 51, 52, 53, 48]⟩ : ByteArray)[3]'(by decide)).toNat = 52 := by decide
  have b4 : ((⟨#[49, 50, 51, 52, 53, 48]⟩ : ByteArray)[4]'(by decide)).toNat = 53 := by decide
  have b5 : ((⟨#[49, 50, 51, 52, 53, 48]⟩ : ByteArray)[5]'(by decide)).toNat = 48 := by decide
  go_enter Tryd.func49, Tryd.ntmps49
  go_wp2_with (go_at_call 75; refine (formed_a _).mono ?_; rintro e w' ⟨rfl, rfl⟩)
  refine wp_loop_rounds 7 ?_
  iterate 7
    rw [rounds_succ]
    go_wp2_with (first | (go_at_call 78; refine (mul_10 _ _ (by omega) (by omega)).mono ?_; rintro e w' ⟨rfl, rfl⟩) | (go_at_call 76; refine (add_small _ _ _ (by omega) (by omega) (by omega) (by omega)).mono ?_; rintro e w' ⟨rfl, rfl⟩))
  go_ret2
  exact ⟨rfl, rfl⟩

set_option maxRecDepth 100000 in
set_option maxHeartbeats 4000000 in
theorem nparse_b (w : World) : Calls Tryd.prog 49 #[.string ⟨#[45, 48]⟩, .int .i64 (-1000000000000000), .int .i64 1000000000000000] w fun e w' => e = .returned (.tuple #[.int .i64 0, .int .i64 5]) ∧ w = w' := by
  go_enter Tryd.func49, Tryd.ntmps49
  go_wp2_with (go_at_call 75; refine (formed_b _).mono ?_; rintro e w' ⟨rfl, rfl⟩)
  go_ret2
  exact ⟨rfl, rfl⟩

set_option maxRecDepth 100000 in
set_option maxHeartbeats 4000000 in
theorem parse_a (w : World) : Calls Tryd.prog 25 #[.string ⟨#[49, 50, 51, 52, 46, 53, 48]⟩, .int .i64 2] w fun e w' => e = .returned (.tuple #[.int .i64 123450, .int .i64 0]) ∧ Below w.heap.size w w' := by
  have b0 : ((⟨#[49, 50, 51, 52, 46, 53, 48]⟩ : ByteArray)[0]'(by decide)).toNat = 49 := by decide
  have x1 : (⟨#[49, 50, 51, 52]⟩ : ByteArray) ++ ⟨#[53, 48]⟩ = ⟨#[49, 50, 51, 52, 53, 48]⟩ := by decide
  have x2 : (⟨#[]⟩ : ByteArray) ++ ⟨#[49, 50, 51, 52, 53, 48]⟩ = ⟨#[49, 50, 51, 52, 53, 48]⟩ := by decide
  have hf : fitsB 2 = true := rfl
  have HF := Lib.hid hf; clear hf
  go_enter Tryd.func25, Tryd.ntmps25
  go_wp2_with fail
  refine (fits_any _ _).mono ?_; rintro e w' ⟨rfl, rfl⟩
  rw [HF.out]
  go_wp2_with fail
  refine (split_a _).mono ?_; rintro e w1 ⟨rfl, hb1⟩
  go_wp2_with fail
  refine (plain_1234 _).mono ?_; rintro e w' ⟨rfl, rfl⟩
  go_wp2_with fail
  refine (plain_123450 _).mono ?_; rintro e w' ⟨rfl, rfl⟩
  go_wp2_with fail
  refine (nparse_a _).mono ?_; rintro e w' ⟨rfl, rfl⟩
  go_wp2_with fail
  go_ret2
  exact ⟨rfl, hb1⟩

set_option maxRecDepth 100000 in
set_option maxHeartbeats 4000000 in
theorem parse_b (w : World) : Calls Tryd.prog 25 #[.string ⟨#[45, 48, 46, 48, 48]⟩, .int .i64 2] w fun e w' => e = .returned (.tuple #[.int .i64 0, .int .i64 5]) ∧ Below w.heap.size w w' := by
  have b0 : ((⟨#[45, 48, 46, 48, 48]⟩ : ByteArray)[0]'(by decide)).toNat = 45 := by decide
  have x0 : (⟨#[45, 48, 46, 48, 48]⟩ : ByteArray).extract 1 5 = ⟨#[48, 46, 48, 48]⟩ := by decide
  have x1 : (⟨#[48]⟩ : ByteArray) ++ ⟨#[48, 48]⟩ = ⟨#[48, 48, 48]⟩ := by decide
  have x2 : (⟨#[45]⟩ : ByteArray) ++ ⟨#[48]⟩ = ⟨#[45, 48]⟩ := by decide
  have hf : fitsB 2 = true := rfl
  have HF := Lib.hid hf; clear hf
  go_enter Tryd.func25, Tryd.ntmps25
  go_wp2_with fail
  refine (fits_any _ _).mono ?_; rintro e w' ⟨rfl, rfl⟩
  rw [HF.out]
  go_wp2_with fail
  go_quiet (fail)
  go_wp2_with fail
  refine (split_b _).mono ?_; rintro e w1 ⟨rfl, hb1⟩
  have hb2 : Below w.heap.size w w1 := (show Below w.heap.size w (w.drewN nq) from ⟨rfl, rfl, rfl, Nat.le_refl _, fun _ _ => rfl⟩).trans hb1
  go_wp2_with fail
  refine (plain_0 _).mono ?_; rintro e w' ⟨rfl, rfl⟩
  go_wp2_with fail
  refine (plain_000 _).mono ?_; rintro e w' ⟨rfl, rfl⟩
  go_wp2_with fail
  refine (nparse_b _).mono ?_; rintro e w' ⟨rfl, rfl⟩
  go_wp2_with fail
  go_ret2
  exact ⟨rfl, hb2⟩
end Go.Proofs.YtboiipkbhbbgfaaDoor
