/- The walk of muldiv.MulDiv: the rounded quotient of a product. -/
import Derived.Test.YtboiipkbhbbgfaaDoorM1
import Derived.Test.YtboiipkbhbbgfaaDoorM2
import Derived.Test.YtboiipkbhbbgfaaDoorM4
namespace Go.Proofs.YtboiipkbhbbgfaaDoor
open Go.RowKit

/-- is the product's quotient negative? -/
def negM (a b c : Int) : Bool := (!decide (magM a * magM b = 0)) && !((!(decide (a < 0) == decide (b < 0))) == decide (c < 0))

/-- what follows the division of the absolute values -/
def mdEnd (neg : Bool) (m Q R C : Int) : Int × Int :=
  if 18446744073709551616 ≤ Q then (0, 4) else
  if awayM m neg (Q % 2 == 1) R C then (if Q = 18446744073709551615 then (0, 4) else signedM neg (Q + 1)) else signedM neg Q

/-- a · b / c, rounded: the number and the error -/
def mulDivM (a b c m : Int) : Int × Int :=
  if m < 1 ∨ 5 < m then (0, 10) else if c = 0 then (0, 2) else mdEnd (negM a b c) m (magM a * magM b / magM c) (magM a * magM b % magM c) (magM c)

theorem mag_bd (n : Int) (h0 : -9223372036854775808 ≤ n) (h1 : n ≤ 9223372036854775807) : 0 ≤ magM n ∧ magM n ≤ 9223372036854775808 := by unfold magM; split <;> omega

set_option maxRecDepth 100000 in
set_option maxHeartbeats 2000000 in
theorem muldiv_any (a b c m : Int) (w : World) (a0 : -9223372036854775808 ≤ a) (a1 : a ≤ 9223372036854775807) (b0 : -9223372036854775808 ≤ b) (b1 : b ≤ 9223372036854775807) (c0 : -9223372036854775808 ≤ c) (c1 : c ≤ 9223372036854775807)
   (h1 : 1 ≤ m) (h5 : m ≤ 5) (hz : ¬ c = 0) :
    Calls Tryd.prog 23 #[.int .i64 a, .int .i64 b, .int .i64 c, .int .i64 m] w fun e w' => e = .returned (.tuple #[.int .i64 (mulDivM a b c m).1, .int .i64 (mulDivM a b c m).2]) ∧ Below w.heap.size w w' := by
  have hz' : (c == 0) = false := by simpa using hz
  have g1 : decide (m < 1) = false := by simp; omega
  have g5 : decide (5 < m) = false := by simp; omega
  obtain ⟨ma0, ma1⟩ := mag_bd a a0 a1
  obtain ⟨mb0, mb1⟩ := mag_bd b b0 b1
  obtain ⟨mc0, mc1⟩ := mag_bd c c0 c1
  have heq := eq_double (mhi (magM a) (magM b)) (mlo (magM a) (magM b))
  have hP0 : 0 ≤ magM a * magM b := Int.mul_nonneg ma0 mb0
  have hwz := Lib.hid (word_zero (magM a * magM b))
  have hC : 1 ≤ magM c := by unfold magM; split <;> omega
  have hld := Lib.hid (long_div (magM a * magM b) (magM c) hC hP0)
  go_enter Tryd.func23, Tryd.ntmps23
  go_wp2_with fail
  refine (magnitude_any _ _ a0 a1).mono ?_; rintro e w' ⟨rfl, rfl⟩
  go_wp2_with fail
  refine (magnitude_any _ _ b0 b1).mono ?_; rintro e w' ⟨rfl, rfl⟩
  go_wp2_with fail
  refine (multiply_any _ _ _ (by omega) (by omega) (by omega) (by omega)).mono ?_; rintro e w1 ⟨rfl, hb1⟩
  go_upto_region 6 with fail
  go_cut [11] (fun s11 wx => s11 = .bool (negM a b c) ∧ wx = w1.alloc (.cells #[.int .u64 (mhi (magM a) (magM b)), .int .u64 (mlo (magM a) (magM b))] 71))
  case first =>
    go_wp2_with fail
    · go_meet
      have hne : ¬ magM a * magM b = 0 := by
        have hor := ‹¬mhi (magM a) (magM b) = 0 ∨ ¬mlo (magM a) (magM b) = 0›
        unfold mhi mlo at hor
        omega
      exact ⟨by unfold negM; rw [show ((!mhi (magM a) (magM b) == 0 || !mlo (magM a) (magM b) == 0)) = !decide (magM a * magM b = 0) from by have := hwz.out; unfold mhi mlo; rw [← this]; simp], rfl⟩
    · go_meet
      have hne : magM a * magM b = 0 := by
        have hor := ‹¬ (¬mhi (magM a) (magM b) = 0 ∨ ¬mlo (magM a) (magM b) = 0)›
        unfold mhi mlo at hor
        omega
      exact ⟨by unfold negM; rw [hne]; rfl, rfl⟩
  case rest =>
    obtain ⟨rfl, rfl⟩ := hcut
    go_upto_region 7 with fail
    have hP1 : magM a * magM b ≤ 9223372036854775808 * 9223372036854775808 := Int.mul_le_mul ma1 mb1 mb0 (by omega)
    have hh0 : 0 ≤ mhi (magM a) (magM b) := by unfold mhi; omega
    have hh1 : mhi (magM a) (magM b) ≤ 18446744073709551615 := by unfold mhi; omega
    have hl0 : 0 ≤ mlo (magM a) (magM b) := by unfold mlo; omega
    have hl1 : mlo (magM a) (magM b) ≤ 18446744073709551615 := by unfold mlo; omega
    have hdv := fun wx => divide_any (mhi (magM a) (magM b)) (mlo (magM a) (magM b)) (magM c) wx hC (by omega) hh0 hh1 hl0 hl1
    clear hP1
    go_cut [12, 13] (fun s12 s13 wx => s13 = .int .u64 (rv (rv 0 (mhi (magM a) (magM b)) (magM c) 64) (mlo (magM a) (magM b)) (magM c) 64) ∧ ∃ g, s12 = .pointer (some ⟨g, 0, none⟩) ∧ wx.cell? ⟨g, 0, none⟩ = some (.int .u64 (qv 0 (mhi (magM a) (magM b)) (magM c) 64)) ∧ wx.cell? ⟨g, 1, none⟩ = some (.int .u64 (qv (rv 0 (mhi (magM a) (magM b)) (magM c) 64) (mlo (magM a) (magM b)) (magM c) 64)) ∧ Below w.heap.size w wx)
    case first =>
      go_region_with (first | (go_at_call 42; refine (magnitude_any _ _ c0 c1).mono ?_; rintro e w' ⟨rfl, rfl⟩) | (go_at_call 43; refine (hdv _).mono ?_; rintro e w2 ⟨rfl, hb2⟩; obtain ⟨hc2, hf2⟩ := bcell hb2))
      all_goals go_wp2_with fail
      all_goals go_meet
      all_goals
        have hs1 := hb1.size
        have hs2 := hb2.size
        simp at hs2
        refine ⟨rfl, _, rfl, ?_, ?_, ?_⟩
        · go_simp
        · go_simp
        · repeat' (first | exact hb1 | (with_reducible refine Below.setCell ?_ ?_ _) | (with_reducible refine Below.alloc ?_ ?_ _) | (with_reducible refine Below.drew ?_) | (with_reducible refine Below.trans ?_ (hb2.mono ?_)))
          all_goals (first | omega | (simp; omega))
    case rest =>
      obtain ⟨h13, g, rfl, hg0, hg1, hbw⟩ := hcut
      obtain ⟨ld1, ld2, ld3⟩ := hld.out
      have e1 : qv 0 (mhi (magM a) (magM b)) (magM c) 64 = magM a * magM b / magM c / 18446744073709551616 := ld1
      have e2 : qv (rv 0 (mhi (magM a) (magM b)) (magM c) 64) (mlo (magM a) (magM b)) (magM c) 64 = magM a * magM b / magM c % 18446744073709551616 := ld2
      have e3 : rv (rv 0 (mhi (magM a) (magM b)) (magM c) 64) (mlo (magM a) (magM b)) (magM c) 64 = magM a * magM b % magM c := ld3
      rw [e1] at hg0
      rw [e2] at hg1
      rw [e3] at h13
      have hM := Lib.hid (show mulDivM a b c m = mdEnd (negM a b c) m (magM a * magM b / magM c) (magM a * magM b % magM c) (magM c) by
        unfold mulDivM; rw [if_neg (by omega), if_neg hz])
      have hR0 : 0 ≤ magM a * magM b % magM c := Int.emod_nonneg _ (by omega)
      have hR1 : magM a * magM b % magM c < magM c := Int.emod_lt_of_pos _ (by omega)
      have hQ0 : 0 ≤ magM a * magM b / magM c := Int.ediv_nonneg hP0 (by omega)
      clear hld hdv hwz e1 e2 e3 ld1 ld2 ld3 heq hP0 hh0 hh1 hl0 hl1
      generalize magM a * magM b / magM c = Q at *
      generalize magM a * magM b % magM c = R at *
      subst h13
      by_cases hq : 18446744073709551616 ≤ Q
      · have hq' : (Q / 18446744073709551616 != 0) = true := by simp; omega
        go_wp2_with fail
        go_ret2
        exact ⟨ret_int2 (by rw [hM.out]; unfold mdEnd; rw [if_pos hq]) (by rw [hM.out]; unfold mdEnd; rw [if_pos hq]), hbw⟩
      · have hq' : (Q / 18446744073709551616 != 0) = false := by simp; omega
        rw [show Q % 18446744073709551616 = Q by omega] at hg1
        have hQ1 : Q ≤ 18446744073709551615 := by omega
        go_wp2_with fail
        refine (magnitude_any _ _ c0 c1).mono ?_; rintro e w' ⟨rfl, rfl⟩
        go_wp2_with fail
        refine (away_any _ _ _ _ _ _ hR0 hR1 (by omega)).mono ?_; rintro e w' ⟨rfl, rfl⟩
        generalize hA : awayM m (negM a b c) (Q % 2 == 1) R (magM c) = A
        have HA := Lib.hid hA
        clear hA
        cases A with
        | true =>
          by_cases hx : Q = 18446744073709551615
          · have HX := Lib.hid hx
            have hwr : (IntKind.u64.wrap (Q + 1) == 0) = true := by rw [hx]; decide
            clear hx
            go_wp2_with fail
            go_ret2
            have hE : mulDivM a b c m = (0, 4) := by rw [hM.out]; unfold mdEnd; rw [if_neg (by omega), HA.out, if_pos rfl, if_pos HX.out]
            exact ⟨ret_int2 (by rw [hE]) (by rw [hE]), hbw⟩
          · have hwr : (Q + 1 == 0) = false := by simp; omega
            go_wp2_with fail
            refine (signed_any _ _ _ (by omega) (by omega)).mono ?_; rintro e w' ⟨rfl, rfl⟩
            go_wp2_with fail
            go_ret2
            have hE : mulDivM a b c m = signedM (negM a b c) (Q + 1) := by rw [hM.out]; unfold mdEnd; rw [if_neg (by omega), HA.out, if_pos rfl, if_neg hx]
            exact ⟨ret_int2 (by rw [hE]) (by rw [hE]), hbw⟩
        | false =>
          go_wp2_with fail
          refine (signed_any _ _ _ hQ0 hQ1).mono ?_; rintro e w' ⟨rfl, rfl⟩
          go_wp2_with fail
          go_ret2
          have hE : mulDivM a b c m = signedM (negM a b c) Q := by rw [hM.out]; unfold mdEnd; rw [if_neg (by omega), HA.out]; rfl
          exact ⟨ret_int2 (by rw [hE]) (by rw [hE]), hbw⟩

set_option maxRecDepth 100000 in
set_option maxHeartbeats 1000000 in
theorem muldiv_zero (a b m : Int) (w : World) (h1 : 1 ≤ m) (h5 : m ≤ 5) :
    Calls Tryd.prog 23 #[.int .i64 a, .int .i64 b, .int .i64 0, .int .i64 m] w fun e w' => e = .returned (.tuple #[.int .i64 0, .int .i64 2]) ∧ w = w' := by
  have g1 : decide (m < 1) = false := by simp; omega
  have g5 : decide (5 < m) = false := by simp; omega
  go_enter Tryd.func23, Tryd.ntmps23
  go_wp2_with fail
  go_ret2
  exact ⟨rfl, rfl⟩

/-- MulDiv, in a mode that there is -/
theorem muldiv_calls (a b c m : Int) (w : World) (a0 : -9223372036854775808 ≤ a) (a1 : a ≤ 9223372036854775807) (b0 : -9223372036854775808 ≤ b) (b1 : b ≤ 9223372036854775807) (c0 : -9223372036854775808 ≤ c) (c1 : c ≤ 9223372036854775807)
   (h1 : 1 ≤ m) (h5 : m ≤ 5) :
    Calls Tryd.prog 23 #[.int .i64 a, .int .i64 b, .int .i64 c, .int .i64 m] w fun e w' => e = .returned (.tuple #[.int .i64 (mulDivM a b c m).1, .int .i64 (mulDivM a b c m).2]) ∧ Below w.heap.size w w' := by
  by_cases hz : c = 0
  · subst hz
    refine (muldiv_zero a b m w h1 h5).mono ?_
    rintro e w' ⟨rfl, rfl⟩
    have hE : mulDivM a b 0 m = (0, 2) := by unfold mulDivM; rw [if_neg (by omega), if_pos rfl]
    exact ⟨by rw [hE], Below.refl _ _⟩
  · exact muldiv_any a b c m w a0 a1 b0 b1 c0 c1 h1 h5 hz
end Go.Proofs.YtboiipkbhbbgfaaDoor
