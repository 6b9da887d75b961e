/- The walks of the leaves of muldiv: multiply, away, signed, magnitude. -/
import Derived.Test.YtboiipkbhbbgfaaDoorK
namespace Go.Proofs.YtboiipkbhbbgfaaDoor
open Go.RowKit


set_option maxRecDepth 100000 in
set_option maxHeartbeats 400000 in
theorem multiply_any (a b : Int) (w : World) (ha : 0 ≤ a) (ha' : a ≤ 18446744073709551615)  (hb : 0 ≤ b) (hb' : b ≤ 18446744073709551615) :
    Calls Tryd.prog 41 #[.int .u64 a, .int .u64 b] w fun e w' => e = .returned (.agg #[.int .u64 (mhi a b), .int .u64 (mlo a b)]) ∧ Below w.heap.size w w' := by
  have hh := mul_raw a b ha ha' hb hb' _ _ _ _ rfl rfl rfl rfl
  obtain ⟨h1, h2⟩ := hh
  have H1 := Lib.hid h1
  have H2 := Lib.hid h2
  clear h1 h2
  go_enter Tryd.func41, Tryd.ntmps41
  go_wp2
  refine bodyPost_ret (by simp [results, Tryd.results41, go_sem]) rfl ⟨agg2 H1.out H2.out, ((Below.refl _ _).alloc (Nat.le_refl _) _)⟩

/-- is a quotient with a remainder rounded away from zero? -/
def awayM (m : Int) (neg odd : Bool) (r c : Int) : Bool :=
  if r = 0 then false else if m = 2 then true else if m = 3 then decide (c - r ≤ r) else if m = 4 then decide (c - r < r) || (decide (r = c - r) && odd) else if m = 5 then neg else false

set_option maxRecDepth 100000 in
set_option maxHeartbeats 1000000 in
theorem away_any (m c r : Int) (neg odd : Bool) (w : World) (hr : 0 ≤ r) (hr' : r < c) (hc : c ≤ 18446744073709551615) :
    Calls Tryd.prog 44 #[.int .i64 m, .bool neg, .bool odd, .int .u64 r, .int .u64 c] w fun e w' => e = .returned (.bool (awayM m neg odd r c)) ∧ w = w' := by
  by_cases hz : r = 0
  · subst hz
    go_enter Tryd.func44, Tryd.ntmps44
    go_wp2
    go_ret
    exact ⟨ret_bool (by simp [awayM]), rfl⟩
  · have hz' : (r == 0) = false := by simpa using hz
    have hw : IntKind.u64.wrap (c - r) = c - r := by rw [u64_wrap]; omega
    by_cases h2 : m = 2
    · subst h2
      go_enter Tryd.func44, Tryd.ntmps44
      go_wp2
      go_ret
      exact ⟨ret_bool (by simp [awayM, hz]), rfl⟩
    have h2' : (m == 2) = false := by simpa using h2
    by_cases h3 : m = 3
    · subst h3
      go_enter Tryd.func44, Tryd.ntmps44
      go_wp2
      go_ret
      exact ⟨ret_bool (by simp [awayM, hz]), rfl⟩
    have h3' : (m == 3) = false := by simpa using h3
    by_cases h4 : m = 4
    · subst h4
      by_cases g : c - r < r
      · have g' : decide (c - r < r) = true := by simpa using g
        go_enter Tryd.func44, Tryd.ntmps44
        go_wp2
        go_ret
        exact ⟨ret_bool (by simp [awayM, hz, g]), rfl⟩
      · have g' : decide (c - r < r) = false := by simpa using g
        by_cases k : r = c - r
        · have k' : (r == c - r) = true := by simpa using k
          have K := Lib.hid k
          clear k
          go_enter Tryd.func44, Tryd.ntmps44
          go_wp2
          go_ret
          exact ⟨ret_bool (by simp [awayM, hz, ← K.out]), rfl⟩
        · have k' : (r == c - r) = false := by simpa using k
          go_enter Tryd.func44, Tryd.ntmps44
          go_wp2
          go_ret
          exact ⟨ret_bool (by simp [awayM, hz, g, k]), rfl⟩
    have h4' : (m == 4) = false := by simpa using h4
    by_cases h5 : m = 5
    · subst h5
      go_enter Tryd.func44, Tryd.ntmps44
      go_wp2
      go_ret
      exact ⟨ret_bool (by simp [awayM, hz]), rfl⟩
    have h5' : (m == 5) = false := by simpa using h5
    go_enter Tryd.func44, Tryd.ntmps44
    go_wp2
    go_ret
    exact ⟨ret_bool (by simp [awayM, hz, h2, h3, h4, h5]), rfl⟩

/-- the integer with a sign and an absolute value -/
def signedM (neg : Bool) (n : Int) : Int × Int :=
  if neg then (if 9223372036854775808 < n then (0, 4) else (-n, 0)) else (if 9223372036854775808 ≤ n then (0, 4) else (n, 0))

theorem neg_size (n : Int) (h0 : 0 ≤ n) (h1 : n ≤ 9223372036854775808) : wrap64 (wrap64 (-wrap64 (IntKind.u64.wrap (n - 1))) - 1) = -n := by
  rw [u64_wrap]; unfold wrap64; omega

set_option maxHeartbeats 1000000 in
theorem signed_any (neg : Bool) (n : Int) (w : World) (h0 : 0 ≤ n) (h1 : n ≤ 18446744073709551615) :
    Calls Tryd.prog 45 #[.bool neg, .int .u64 n] w fun e w' => e = .returned (.tuple #[.int .i64 (signedM neg n).1, .int .i64 (signedM neg n).2]) ∧ w = w' := by
  cases neg with
  | true =>
    by_cases g : 9223372036854775808 < n
    · go_enter Tryd.func45, Tryd.ntmps45
      go_wp2
      go_ret2
      exact ⟨ret_int2 (by simp [signedM, g]) (by simp [signedM, g]), rfl⟩
    · have e : signedM true n = (-n, 0) := by simp [signedM, g]
      have E := Lib.hid e
      clear e
      have f := neg_size n h0 (by omega)
      have F := Lib.hid f
      clear f
      go_enter Tryd.func45, Tryd.ntmps45
      go_wp2
      go_ret2
      exact ⟨ret_int2 (by rw [E.out]; exact F.out) (by rw [E.out]), rfl⟩
  | false =>
    by_cases g : 9223372036854775808 ≤ n
    · go_enter Tryd.func45, Tryd.ntmps45
      go_wp2
      go_ret2
      exact ⟨ret_int2 (by simp [signedM, g]) (by simp [signedM, g]), rfl⟩
    · go_enter Tryd.func45, Tryd.ntmps45
      go_wp2
      go_ret2
      exact ⟨ret_int2 (by simp [signedM, Int.not_le.2 g]) (by simp [signedM, Int.not_le.2 g]), rfl⟩

/-- the absolute value -/
def magM (n : Int) : Int := if n < 0 then -n else n

set_option maxHeartbeats 400000 in
theorem magnitude_any (n : Int) (w : World) (h0 : -9223372036854775808 ≤ n) (h1 : n ≤ 9223372036854775807) :
    Calls Tryd.prog 42 #[.int .i64 n] w fun e w' => e = .returned (.int .u64 (magM n)) ∧ w = w' := by
  by_cases g : n < 0
  · have e : IntKind.u64.wrap (-IntKind.u64.wrap n) = magM n := by rw [u64_wrap, u64_wrap]; unfold magM; rw [if_pos g]; omega
    have E := Lib.hid e
    clear e
    go_enter Tryd.func42, Tryd.ntmps42
    go_wp2
    go_ret
    exact ⟨ret_int E.out, rfl⟩
  · have e : n = magM n := by unfold magM; rw [if_neg g]
    have E := Lib.hid e
    clear e
    go_enter Tryd.func42, Tryd.ntmps42
    go_wp2
    go_ret
    exact ⟨ret_int E.out, rfl⟩
end Go.Proofs.YtboiipkbhbbgfaaDoor
