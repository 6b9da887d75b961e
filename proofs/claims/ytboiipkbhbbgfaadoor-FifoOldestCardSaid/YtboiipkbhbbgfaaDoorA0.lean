/- Plain arithmetic: products and quotients of words of 64 bits, rounding. No program in sight. -/
import Derived.WalkKit
import Derived.Laws.MathBits
import Derived.Laws.Bits64b
namespace Go.Proofs.YtboiipkbhbbgfaaDoor
open Go.RowKit

/-- the high and the low word of a product -/
def mhi (a b : Int) : Int := a * b / 18446744073709551616
def mlo (a b : Int) : Int := a * b % 18446744073709551616

theorem u64_wrap (n : Int) : IntKind.u64.wrap n = n % 18446744073709551616 := IntKind.wrap_u64 n

theorem wraps_u64 (n : Int) (h₀ : 0 ≤ n) (h₁ : n < 2 ^ 64) : IntKind.u64.wrap n = n := by rw [IntKind.wrap_u64]; omega

theorem or_join (x y : Int) (h0 : 0 ≤ x) (h1 : x < 4294967296) (h2 : 0 ≤ y) (h3 : y < 4294967296) : bits .or .u64 (x * 4294967296) y = x * 4294967296 + y :=
  bits_join .u64 64 (by decide) wraps_u64 32 (x * 4294967296) y (by omega) (by omega) (by omega) h2 (by omega) (by omega)

theorem m32 (x : Int) (h0 : 0 ≤ x) (h1 : x < 18446744073709551616) : bits BinOp.and IntKind.u64 x 4294967295 = x % 4294967296 := and_low32 x h0 h1

theorem mul_raw (a b : Int) (ha : 0 ≤ a) (ha' : a ≤ 18446744073709551615) (hb : 0 ≤ b) (hb' : b ≤ 18446744073709551615) (m u : Int → Int) (mid oth : Int)
    (hm : m = fun x => bits BinOp.and IntKind.u64 x 4294967295) (hu : u = IntKind.u64.wrap)
    (hmid : mid = u (u (a / 4294967296 * m b) + u (m a * m b) / 4294967296)) (hoth : oth = u (u (m a * (b / 4294967296)) + m mid)) :
    u (u (u (a / 4294967296 * (b / 4294967296)) + mid / 4294967296) + oth / 4294967296) = mhi a b ∧
    bits BinOp.or IntKind.u64 (u (oth * 4294967296)) (m (u (m a * m b))) = mlo a b := by
  have hu' : ∀ n, u n = n % 18446744073709551616 := by intro n; rw [hu, u64_wrap]
  have hmm : ∀ x, 0 ≤ x → x < 18446744073709551616 → m x = x % 4294967296 := by intro x h0 h1; rw [hm]; exact m32 x h0 h1
  have hua : ∀ n, 0 ≤ u n ∧ u n < 18446744073709551616 := by intro n; rw [hu']; omega
  rw [hmm a ha (by omega), hmm b hb (by omega)] at *
  have hm1 := hmm mid (by rw [hmid]; exact (hua _).1) (by rw [hmid]; exact (hua _).2)
  rw [hm1] at hoth
  rw [hmm (u _) (hua _).1 (hua _).2]
  unfold mhi mlo
  have ex : a = a / 4294967296 * 4294967296 + a % 4294967296 := by omega
  have ey : b = b / 4294967296 * 4294967296 + b % 4294967296 := by omega
  have b1 : 0 ≤ a / 4294967296 ∧ a / 4294967296 ≤ 4294967295 := by omega
  have b2 : 0 ≤ a % 4294967296 ∧ a % 4294967296 ≤ 4294967295 := by omega
  have b3 : 0 ≤ b / 4294967296 ∧ b / 4294967296 ≤ 4294967295 := by omega
  have b4 : 0 ≤ b % 4294967296 ∧ b % 4294967296 ≤ 4294967295 := by omega
  generalize a / 4294967296 = x1 at *
  generalize a % 4294967296 = x0 at *
  generalize b / 4294967296 = y1 at *
  generalize b % 4294967296 = y0 at *
  have pA := prod_bound x1 y1 b1.1 b1.2 b3.1 b3.2
  have pB := prod_bound x1 y0 b1.1 b1.2 b4.1 b4.2
  have pC := prod_bound x0 y0 b2.1 b2.2 b4.1 b4.2
  have pD := prod_bound x0 y1 b2.1 b2.2 b3.1 b3.2
  have hxy : a * b = x1 * y1 * 18446744073709551616 + (x1 * y0 + x0 * y1) * 4294967296 + x0 * y0 := by rw [ex, ey]; exact split_mul x1 x0 y1 y0
  rw [hxy]
  simp only [hu'] at *
  generalize x1 * y1 = A at *
  generalize x1 * y0 = B at *
  generalize x0 * y0 = C at *
  generalize x0 * y1 = D at *
  clear hm hu hm1 hmm hua ex ey hxy
  refine ⟨by omega, ?_⟩
  have hL : oth * 4294967296 % 18446744073709551616 = (oth % 4294967296) * 4294967296 := by omega
  rw [hL, or_join (oth % 4294967296) (C % 18446744073709551616 % 4294967296) (by omega) (by omega) (by omega) (by omega)]
  omega
end Go.Proofs.YtboiipkbhbbgfaaDoor
