/- Plain arithmetic: the long division of a number of two words, bit by bit. No program in sight. -/
import Derived.Test.YtboiipkbhbbgfaaDoorA0
namespace Go.Proofs.YtboiipkbhbbgfaaDoor
open Go.RowKit

/-- what has been divided after k bits of the word wd, with r0 before it; its quotient and remainder -/
def vv (r0 wd : Int) (k : Nat) : Int := r0 * 2 ^ k + wd / 2 ^ (64 - k)
def qv (r0 wd c : Int) (k : Nat) : Int := vv r0 wd k / c
def rv (r0 wd c : Int) (k : Nat) : Int := vv r0 wd k % c
def bitAt (wd : Int) (k : Nat) : Int := wd / 2 ^ (63 - k) % 2

theorem bitAt_01 (wd : Int) (k : Nat) : 0 ≤ bitAt wd k ∧ bitAt wd k ≤ 1 := by unfold bitAt; omega

theorem pow_pos' (k : Nat) : (0 : Int) < 2 ^ k := Int.pow_pos (by decide)

theorem vv_zero (r0 wd : Int) (h0 : 0 ≤ wd) (h1 : wd ≤ 18446744073709551615) : vv r0 wd 0 = r0 := by
  unfold vv
  have : (2 : Int) ^ (64 - 0) = 18446744073709551616 := by decide
  rw [this]
  have : (2 : Int) ^ 0 = 1 := rfl
  rw [this]
  omega

theorem vv_end (r0 wd : Int) : vv r0 wd 64 = r0 * 18446744073709551616 + wd := by
  unfold vv
  have : (2 : Int) ^ (64 - 64) = 1 := rfl
  rw [this]
  have : (2 : Int) ^ 64 = 18446744073709551616 := by decide
  rw [this]
  omega

theorem vv_succ (r0 wd : Int) (k : Nat) (hk : k ≤ 63) : vv r0 wd (k + 1) = 2 * vv r0 wd k + bitAt wd k := by
  unfold vv bitAt
  have e1 : 64 - (k + 1) = 63 - k := by omega
  have e2 : 64 - k = (63 - k) + 1 := by omega
  have e3 : wd / ((2 : Int) ^ (63 - k) * 2) = wd / 2 ^ (63 - k) / 2 := by
    have h := Int.ediv_ediv (x := wd) (y := (2 : Int) ^ (63 - k)) (z := 2)
    have hp := pow_pos' (63 - k)
    rw [if_neg (by omega)] at h
    omega
  rw [e1, e2, Int.pow_succ, Int.pow_succ, e3]
  generalize wd / 2 ^ (63 - k) = x
  generalize (2 : Int) ^ k = y
  rw [← Int.mul_assoc]
  generalize r0 * y = z
  omega

theorem vv_nonneg (r0 wd : Int) (k : Nat) (hr : 0 ≤ r0) (h0 : 0 ≤ wd) : 0 ≤ vv r0 wd k := by
  unfold vv
  exact Int.add_nonneg (Int.mul_nonneg hr (Int.le_of_lt (pow_pos' _))) (Int.ediv_nonneg h0 (Int.le_of_lt (pow_pos' _)))

/-- one bit more: numbers alone -/
theorem div_bit (c r q v v' b : Int) (hc : 1 ≤ c) (hq : q = v / c) (hr : r = v % c) (hv : v' = 2 * v + b) (hb : 0 ≤ b ∧ b ≤ 1) :
    (2 * r + b < c → v' / c = 2 * q ∧ v' % c = 2 * r + b) ∧ (c ≤ 2 * r + b → v' / c = 2 * q + 1 ∧ v' % c = 2 * r + b - c) := by
  have hd : v = c * q + r := by rw [hq, hr]; exact (Int.mul_ediv_add_emod v c).symm
  have hr0 : 0 ≤ r := by rw [hr]; exact Int.emod_nonneg _ (by omega)
  have hr1 : r < c := by rw [hr]; exact Int.emod_lt_of_pos _ (by omega)
  constructor
  · intro h
    have e : v' = (2 * r + b) + c * (2 * q) := by rw [hv, hd]; grind
    have h1 : v' / c = 2 * q := by
      rw [e, Int.add_mul_ediv_left _ _ (by omega), Int.ediv_eq_zero_of_lt (by omega) h]; omega
    exact ⟨h1, by rw [e, Int.add_mul_emod_self_left, Int.emod_eq_of_lt (by omega) h]⟩
  · intro h
    have e : v' = (2 * r + b - c) + c * (2 * q + 1) := by rw [hv, hd]; grind
    have h1 : v' / c = 2 * q + 1 := by
      rw [e, Int.add_mul_ediv_left _ _ (by omega), Int.ediv_eq_zero_of_lt (by omega) (by omega)]; omega
    exact ⟨h1, by rw [e, Int.add_mul_emod_self_left, Int.emod_eq_of_lt (by omega) (by omega)]⟩

theorem and_bit (x : Int) (h0 : 0 ≤ x) (h1 : x ≤ 18446744073709551615) : bits BinOp.and IntKind.u64 x 1 = x % 2 :=
  bits_mask .u64 64 (by decide) wraps_u64 1 (by decide) x h0 (by omega)

theorem or_bit (x y : Int) (hx : 0 ≤ x) (hx1 : x ≤ 18446744073709551615) (he : x % 2 = 0) (h0 : 0 ≤ y) (h1 : y ≤ 1) : bits .or .u64 x y = x + y :=
  bits_join .u64 64 (by decide) wraps_u64 1 x y hx (by omega) (by omega) h0 (by omega) (by omega)

theorem word_shr (wd : Int) (k : Nat) (h0 : 0 ≤ wd) (h1 : wd ≤ 18446744073709551615) : 0 ≤ wd / 2 ^ (63 - k) ∧ wd / 2 ^ (63 - k) ≤ 18446744073709551615 := by
  refine ⟨Int.ediv_nonneg h0 (Int.le_of_lt (pow_pos' _)), ?_⟩
  have := Int.ediv_le_self (2 ^ (63 - k)) h0
  omega

theorem and_bitAt (wd : Int) (k : Nat) (h0 : 0 ≤ wd) (h1 : wd ≤ 18446744073709551615) : bits BinOp.and IntKind.u64 (wd / 2 ^ (63 - k)) 1 = bitAt wd k :=
  and_bit _ (word_shr wd k h0 h1).1 (word_shr wd k h0 h1).2

theorem rv_bd (r0 wd c : Int) (k : Nat) (hc : 1 ≤ c) : 0 ≤ rv r0 wd c k ∧ rv r0 wd c k < c := by
  unfold rv
  exact ⟨Int.emod_nonneg _ (by omega), Int.emod_lt_of_pos _ (by omega)⟩

theorem qv_bd (r0 wd c : Int) (k : Nat) (hc : 1 ≤ c) (hr : 0 ≤ r0) (hr' : r0 < c) (h0 : 0 ≤ wd) (h1 : wd ≤ 18446744073709551615) (hk : k ≤ 64) : 0 ≤ qv r0 wd c k ∧ qv r0 wd c k < 2 ^ k := by
  have hv := vv_nonneg r0 wd k hr h0
  refine ⟨Int.ediv_nonneg hv (by omega), ?_⟩
  unfold qv
  apply Int.ediv_lt_of_lt_mul (by omega)
  unfold vv
  have hp := pow_pos' k
  have h2 : wd / 2 ^ (64 - k) < 2 ^ k := by
    apply Int.ediv_lt_of_lt_mul (pow_pos' _)
    rw [← Int.pow_add, show k + (64 - k) = 64 by omega]
    have : (2 : Int) ^ 64 = 18446744073709551616 := by decide
    omega
  have h3 : (r0 + 1) * 2 ^ k ≤ c * 2 ^ k := Int.mul_le_mul_of_nonneg_right (by omega) (by omega)
  have h4 : (r0 + 1) * 2 ^ k = r0 * 2 ^ k + 2 ^ k := by grind
  have h5 : c * 2 ^ k = 2 ^ k * c := Int.mul_comm _ _
  omega

theorem qv_lt (r0 wd c : Int) (k : Nat) (hc : 1 ≤ c) (hr : 0 ≤ r0) (hr' : r0 < c) (h0 : 0 ≤ wd) (h1 : wd ≤ 18446744073709551615) (hk : k ≤ 63) : 0 ≤ qv r0 wd c k ∧ qv r0 wd c k ≤ 9223372036854775807 := by
  have h := qv_bd r0 wd c k hc hr hr' h0 h1 (by omega)
  have : (2 : Int) ^ k ≤ 2 ^ 63 := by exact_mod_cast Nat.pow_le_pow_right (n := 2) (by decide) hk
  have e : (2 : Int) ^ 63 = 9223372036854775808 := by decide
  omega

theorem rv_zero (r0 wd c : Int) (h0 : 0 ≤ wd) (h1 : wd ≤ 18446744073709551615) (hr : 0 ≤ r0) (hr' : r0 < c) : rv r0 wd c 0 = r0 := by
  unfold rv
  rw [vv_zero _ _ h0 h1, Int.emod_eq_of_lt hr hr']

theorem qv_zero (r0 wd c : Int) (h0 : 0 ≤ wd) (h1 : wd ≤ 18446744073709551615) (hr : 0 ≤ r0) (hr' : r0 < c) : qv r0 wd c 0 = 0 := by
  unfold qv
  rw [vv_zero _ _ h0 h1, Int.ediv_eq_zero_of_lt hr hr']

theorem bit_step (r0 wd c : Int) (k : Nat) (hc : 1 ≤ c) (hc' : c ≤ 18446744073709551615) (hr : 0 ≤ r0) (hr' : r0 < c) (h0 : 0 ≤ wd) (h1 : wd ≤ 18446744073709551615) (hk : k ≤ 63) (t : Int)
    (ht : t = bits BinOp.or IntKind.u64 (IntKind.u64.wrap (rv r0 wd c k * 2)) (bits BinOp.and IntKind.u64 (wd / 2 ^ (63 - k)) 1)) :
    ((rv r0 wd c k / 9223372036854775808 = 1 ∨ c ≤ t) → IntKind.u64.wrap (t - c) = rv r0 wd c (k + 1) ∧ bits BinOp.or IntKind.u64 (IntKind.u64.wrap (qv r0 wd c k * 2)) 1 = qv r0 wd c (k + 1)) ∧
    (¬ rv r0 wd c k / 9223372036854775808 = 1 → t < c → t = rv r0 wd c (k + 1) ∧ IntKind.u64.wrap (qv r0 wd c k * 2) = qv r0 wd c (k + 1)) := by
  rw [and_bitAt wd k h0 h1] at ht
  have hb := bitAt_01 wd k
  have hrb := rv_bd r0 wd c k hc
  have hqb := qv_lt r0 wd c k hc hr hr' h0 h1 hk
  have hs := div_bit c (rv r0 wd c k) (qv r0 wd c k) (vv r0 wd k) (vv r0 wd (k + 1)) (bitAt wd k) hc rfl rfl (vv_succ r0 wd k hk) hb
  have e1 : rv r0 wd c (k + 1) = vv r0 wd (k + 1) % c := rfl
  have e2 : qv r0 wd c (k + 1) = vv r0 wd (k + 1) / c := rfl
  rw [e1, e2]
  generalize rv r0 wd c k = r at *
  generalize qv r0 wd c k = q at *
  generalize bitAt wd k = b at *
  generalize vv r0 wd (k + 1) / c = q' at *
  generalize vv r0 wd (k + 1) % c = r' at *
  rw [u64_wrap] at ht
  rw [or_bit (r * 2 % 18446744073709551616) b (by omega) (by omega) (by omega) hb.1 hb.2] at ht
  rw [u64_wrap, u64_wrap, or_bit (q * 2 % 18446744073709551616) 1 (by omega) (by omega) (by omega) (by omega) (by omega)]
  constructor
  · intro h
    have h2 : c ≤ 2 * r + b := by omega
    obtain ⟨h3, h4⟩ := hs.2 h2
    omega
  · intro h h'
    have h2 : 2 * r + b < c := by omega
    obtain ⟨h3, h4⟩ := hs.1 h2
    omega

theorem bit_skip (r0 wd c : Int) (k : Nat) (hc : 1 ≤ c) (hr : 0 ≤ r0) (hr' : r0 < c) (h0 : 0 ≤ wd) (h1 : wd ≤ 18446744073709551615) (hk : k ≤ 63) (hz : rv r0 wd c k = 0) (hs : IntKind.u64.wrap (wd * 2 ^ k) = 0) :
    rv r0 wd c 64 = 0 ∧ IntKind.u64.wrap (qv r0 wd c k * 2 ^ (64 - k)) = qv r0 wd c 64 := by
  have hqb := qv_bd r0 wd c k hc hr hr' h0 h1 (by omega)
  have hd : vv r0 wd k = c * qv r0 wd c k := by
    have := Int.mul_ediv_add_emod (vv r0 wd k) c
    unfold rv at hz
    rw [hz] at this
    unfold qv
    omega
  have e64 : (2 : Int) ^ 64 = 18446744073709551616 := by decide
  have ep : (2 : Int) ^ k * 2 ^ (64 - k) = 18446744073709551616 := by rw [← Int.pow_add, show k + (64 - k) = 64 by omega, e64]
  have hw : wd = wd / 2 ^ (64 - k) * 2 ^ (64 - k) := by
    rw [u64_wrap] at hs
    have h2 : (2 : Int) ^ k * 2 ^ (64 - k) ∣ 2 ^ k * wd := by
      rw [ep, Int.mul_comm]; exact Int.dvd_of_emod_eq_zero hs
    have h3 : (2 : Int) ^ (64 - k) ∣ wd := Int.dvd_of_mul_dvd_mul_left (by have := pow_pos' k; omega) h2
    exact (Int.ediv_mul_cancel h3).symm
  have hv : vv r0 wd 64 = c * (qv r0 wd c k * 2 ^ (64 - k)) := by
    rw [vv_end, ← Int.mul_assoc, ← hd]
    unfold vv
    rw [Int.add_mul, Int.mul_assoc, ep, ← hw]
  have hq : qv r0 wd c 64 = qv r0 wd c k * 2 ^ (64 - k) := by
    show vv r0 wd 64 / c = _
    rw [hv, Int.mul_ediv_cancel_left _ (by omega)]
  refine ⟨by show vv r0 wd 64 % c = 0; rw [hv]; exact Int.mul_emod_right _ _, ?_⟩
  rw [hq, u64_wrap, Int.emod_eq_of_lt (Int.mul_nonneg hqb.1 (Int.le_of_lt (pow_pos' _)))]
  rw [← ep]
  exact Int.mul_lt_mul_of_pos_right hqb.2 (pow_pos' _)
/-- the quotient of a number of two words, word by word -/
theorem long_div (P c : Int) (hc : 1 ≤ c) (hP : 0 ≤ P) :
    qv 0 (P / 18446744073709551616) c 64 = P / c / 18446744073709551616 ∧
    qv (rv 0 (P / 18446744073709551616) c 64) (P % 18446744073709551616) c 64 = P / c % 18446744073709551616 ∧
    rv (rv 0 (P / 18446744073709551616) c 64) (P % 18446744073709551616) c 64 = P % c := by
  have e1 : qv 0 (P / 18446744073709551616) c 64 = P / 18446744073709551616 / c := by unfold qv; rw [vv_end]; congr 1; omega
  have e2 : rv 0 (P / 18446744073709551616) c 64 = P / 18446744073709551616 % c := by unfold rv; rw [vv_end]; congr 1; omega
  have e3 : qv (P / 18446744073709551616 % c) (P % 18446744073709551616) c 64 = (P / 18446744073709551616 % c * 18446744073709551616 + P % 18446744073709551616) / c := by unfold qv; rw [vv_end]
  have e4 : rv (P / 18446744073709551616 % c) (P % 18446744073709551616) c 64 = (P / 18446744073709551616 % c * 18446744073709551616 + P % 18446744073709551616) % c := by unfold rv; rw [vv_end]
  rw [e1, e2, e3, e4]
  have d1 := Int.mul_ediv_add_emod (P / 18446744073709551616) c
  have r1 := Int.emod_nonneg (P / 18446744073709551616) (show c ≠ 0 by omega)
  have r2 := Int.emod_lt_of_pos (P / 18446744073709551616) (show 0 < c by omega)
  have q0 : 0 ≤ P / 18446744073709551616 / c := Int.ediv_nonneg (by omega) (by omega)
  generalize hq : P / 18446744073709551616 / c = q at *
  generalize hr : P / 18446744073709551616 % c = r at *
  generalize hx : r * 18446744073709551616 + P % 18446744073709551616 = X at *
  have hX0 : 0 ≤ X := by omega
  have hPX : P = X + c * (q * 18446744073709551616) := by
    have : c * (q * 18446744073709551616) = c * q * 18446744073709551616 := by rw [Int.mul_assoc]
    omega
  have hX1 : X < 18446744073709551616 * c := by omega
  have hXq : X / c < 18446744073709551616 := Int.ediv_lt_of_lt_mul (by omega) hX1
  have hXq0 : 0 ≤ X / c := Int.ediv_nonneg hX0 (by omega)
  have hd : P / c = X / c + q * 18446744073709551616 := by rw [hPX, Int.add_mul_ediv_left _ _ (by omega)]
  have hm : P % c = X % c := by rw [hPX, Int.add_mul_emod_self_left]
  rw [hd, hm]
  omega

theorem word_zero (P : Int) : ((P / 18446744073709551616 == 0) && (P % 18446744073709551616 == 0)) = decide (P = 0) := by
  rw [Bool.eq_iff_iff]
  simp
  omega
end Go.Proofs.YtboiipkbhbbgfaaDoor
