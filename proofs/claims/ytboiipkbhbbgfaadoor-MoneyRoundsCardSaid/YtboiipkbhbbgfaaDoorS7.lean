/- The walk of MoneyRounds. -/
import Derived.Test.YtboiipkbhbbgfaaDoorS6
namespace Go.Proofs.YtboiipkbhbbgfaaDoor
open Go.RowKit

theorem scale_ok (a f t m pf pt n : Int) (h : scaleM a f t m pf pt = (n, 0)) : 1 ≤ m ∧ m ≤ 5 ∧ 0 ≤ f ∧ f ≤ 4 ∧ 0 ≤ t ∧ t ≤ 4 ∧ -1000000000000000 ≤ a ∧ a ≤ 1000000000000000 ∧ -1000000000000000 ≤ n ∧ n ≤ 1000000000000000 ∧ mulDivM a pt pf m = (n, 0) := by
  unfold scaleM at h
  split at h
  · cases h
  · split at h
    · cases h
    · split at h
      · cases h
      · split at h
        · cases h
        · rename_i h1 h2 h3 h4
          have hn : (mulDivM a pt pf m).1 = n := (Prod.mk.inj h).1
          have he : (mulDivM a pt pf m).2 = 0 := Classical.byContradiction fun hc => h4 (Or.inl hc)
          have hfar : farB (mulDivM a pt pf m).1 = false := by
            cases hh : farB (mulDivM a pt pf m).1
            · rfl
            · exact (h4 (Or.inr hh)).elim
          rw [hn] at hfar
          have hfit : fitsB f = true ∧ fitsB t = true := by
            cases hf : fitsB f <;> cases ht : fitsB t <;> simp [hf, ht] at h2 ⊢
          have hf1 := hfit.1
          have hf2 := hfit.2
          simp [fitsB] at hf1 hf2
          simp [farB] at h3 hfar
          exact ⟨by omega, by omega, by omega, by omega, by omega, by omega, by omega, by omega, by omega, by omega, Prod.ext hn he⟩

theorem powM_small (d : Nat) (h : d ≤ 4) : powM d = 10 ^ d ∧ 1 ≤ (10 : Int) ^ d ∧ (10 : Int) ^ d ≤ 10000 := by
  match d, h with
  | 0, _ => exact ⟨by kernel_rfl, by decide, by decide⟩
  | 1, _ => exact ⟨by kernel_rfl, by decide, by decide⟩
  | 2, _ => exact ⟨by kernel_rfl, by decide, by decide⟩
  | 3, _ => exact ⟨by kernel_rfl, by decide, by decide⟩
  | 4, _ => exact ⟨by kernel_rfl, by decide, by decide⟩
  | k + 5, hb => omega
theorem pow_quot (f t pf pt : Int) (f2 : 0 ≤ f) (f3 : f ≤ 4) (t2 : 0 ≤ t) (hft : ¬ f < t) (e1 : pf = 10 ^ f.toNat) (e2 : pt = 10 ^ t.toNat) : ∃ P : Int, powM (f - t).toNat = P ∧ 1 ≤ P ∧ P ≤ 10000 ∧ pf = P * pt := by
  obtain ⟨f, rfl⟩ := Int.eq_ofNat_of_zero_le f2
  obtain ⟨t, rfl⟩ := Int.eq_ofNat_of_zero_le t2
  rw [Int.toNat_natCast] at e1 e2
  obtain ⟨d, rfl⟩ : ∃ d, f = t + d := ⟨f - t, by omega⟩
  rw [show (((t + d : Nat) : Int) - (t : Int)).toNat = d by omega]
  obtain ⟨h1, h2, h3⟩ := powM_small d (by omega)
  exact ⟨_, h1, h2, h3, by rw [e1, e2, Int.pow_add, Int.mul_comm]⟩

set_option maxRecDepth 100000 in
set_option maxHeartbeats 8000000 in
theorem rounds_walk (a f t m : Int) (w : World) (a0 : -9223372036854775808 ≤ a) (a1 : a ≤ 9223372036854775807) (f0 : -9223372036854775808 ≤ f) (f1 : f ≤ 9223372036854775807)
    (t0 : -9223372036854775808 ≤ t) (t1 : t ≤ 9223372036854775807) (hpw : PowersAt w) :
    Calls Tryd.prog 3 #[.int .i64 a, .int .i64 f, .int .i64 t, .int .i64 m] w fun e w' => e = .returned (.bool true) ∧ Below w.heap.size w w' := by
  -- the powers that are read
  have hex : ∀ k : Int, ∃ p : Int, 1 ≤ p ∧ p ≤ 10000 ∧ (0 ≤ k → k ≤ 4 → w.cell? ⟨0, k.toNat, none⟩ = some (.int .i64 p) ∧ p = 10 ^ k.toNat) := by
    intro k
    obtain ⟨h0, h1, h2, h3, h4⟩ := hpw
    by_cases hk : 0 ≤ k ∧ k ≤ 4
    · obtain ⟨ka, kb⟩ := hk
      obtain ⟨k, rfl⟩ := Int.eq_ofNat_of_zero_le ka
      rw [Int.toNat_natCast]
      match k, kb with
      | 0, _ => exact ⟨1, by decide, by decide, fun _ _ => ⟨h0, rfl⟩⟩
      | 1, _ => exact ⟨10, by decide, by decide, fun _ _ => ⟨h1, rfl⟩⟩
      | 2, _ => exact ⟨100, by decide, by decide, fun _ _ => ⟨h2, rfl⟩⟩
      | 3, _ => exact ⟨1000, by decide, by decide, fun _ _ => ⟨h3, rfl⟩⟩
      | 4, _ => exact ⟨10000, by decide, by decide, fun _ _ => ⟨h4, rfl⟩⟩
      | n + 5, hb => omega
    · exact ⟨1, by decide, by decide, fun x y => (hk ⟨x, y⟩).elim⟩
  obtain ⟨pf, pf0, pf1, hpf⟩ := hex f
  obtain ⟨pt, pt0, pt1, hpt⟩ := hex t
  have hsc := scale_any a f t m pf pt w a0 a1 pf0 pf1 pt0 pt1 (fun x y => (hpf x y).1) (fun x y => (hpt x y).1)
  have hok : ∀ n, scaleM a f t m pf pt = (n, 0) → _ := fun n h => scale_ok a f t m pf pt n h
  have HP := Lib.hid hpw
  have HPF := Lib.hid hpf
  have HPT := Lib.hid hpt
  clear hex hpf hpt hpw
  generalize scaleM a f t m pf pt = r at hsc hok
  obtain ⟨n, er⟩ := r
  simp only at hsc
  by_cases he : er = 0
  · subst he
    obtain ⟨m0, m1, f2, f3, t2, t3, a2, a3, n2, n3, hmd⟩ := hok n rfl
    clear hok
    by_cases hft : f < t
    · have d1 : decide (f < t) = true := by simpa using hft
      clear hmd
      go_enter Tryd.func3, Tryd.ntmps3
      go_wp2_with fail
      refine hsc.mono ?_; rintro e w1 ⟨rfl, hb1⟩
      go_wp2_with fail
      refine (mlives _ (HP.out.below hb1)).mono ?_; rintro e w2 ⟨rfl, hb2⟩
      go_wp2_with fail
      go_ret
      exact ⟨rfl, hb1.trans (hb2.mono hb1.size)⟩
    · have hpp := pow_quot f t pf pt f2 f3 t2 hft (HPF.out f2 f3).2 (HPT.out t2 t3).2
      obtain ⟨P, hP, P0, P1, hpfP⟩ := hpp
      have hR := rounds_law a P pt pf m n P0 pt0 hpfP m0 m1 hmd
      have hpow := power_any (f - t)
      rw [hP] at hpow
      clear hP hpfP hmd pf0 pf1 pt0 pt1 HPF HPT
      generalize hX : n * P = X at hR
      obtain ⟨r1, r2, r5, r34, rl, rr⟩ := hR
      have hw : wrap64 (n * P) = X := by
        rw [hX]
        unfold wrap64
        omega
      clear hX
      have hft' : decide (f < t) = false := by simpa using hft
      have lv := fun wx (h : Below w.heap.size w wx) => mlives wx (HP.out.below h)
      by_cases k1 : m = 1
      · subst k1
        rcases r1 rfl with ⟨u1, u2, u3⟩ | ⟨u1, u2, u3⟩
        all_goals
          clear r1 r2 r5 r34
          go_enter Tryd.func3, Tryd.ntmps3
          go_wp2_with fail
          refine hsc.mono ?_; rintro e w1 ⟨rfl, hb1⟩
          go_wp2_with fail
          refine (hpow _ (by omega)).mono ?_; rintro e w' ⟨rfl, rfl⟩
          go_wp2_with fail
          refine (lv _ hb1).mono ?_; rintro e w2 ⟨rfl, hb2⟩
          go_wp2_with fail
          go_ret
          exact ⟨rfl, hb1.trans (hb2.mono hb1.size)⟩
      have k1' : (m == 1) = false := by simpa using k1
      by_cases k2 : m = 2
      · subst k2
        rcases r2 rfl with ⟨u1, u2, u3⟩ | ⟨u1, u2, u3⟩
        all_goals
          clear r1 r2 r5 r34
          go_enter Tryd.func3, Tryd.ntmps3
          go_wp2_with fail
          refine hsc.mono ?_; rintro e w1 ⟨rfl, hb1⟩
          go_wp2_with fail
          refine (hpow _ (by omega)).mono ?_; rintro e w' ⟨rfl, rfl⟩
          go_wp2_with fail
          refine (lv _ hb1).mono ?_; rintro e w2 ⟨rfl, hb2⟩
          go_wp2_with fail
          go_ret
          exact ⟨rfl, hb1.trans (hb2.mono hb1.size)⟩
      have k2' : (m == 2) = false := by simpa using k2
      by_cases k5 : m = 5
      · subst k5
        obtain ⟨u1, u2⟩ := r5 rfl
        clear r1 r2 r5 r34
        go_enter Tryd.func3, Tryd.ntmps3
        go_wp2_with fail
        refine hsc.mono ?_; rintro e w1 ⟨rfl, hb1⟩
        go_wp2_with fail
        refine (hpow _ (by omega)).mono ?_; rintro e w' ⟨rfl, rfl⟩
        go_wp2_with fail
        refine (lv _ hb1).mono ?_; rintro e w2 ⟨rfl, hb2⟩
        go_wp2_with fail
        go_ret
        exact ⟨rfl, hb1.trans (hb2.mono hb1.size)⟩
      have k5' : (m == 5) = false := by simpa using k5
      obtain ⟨u1, u2⟩ := r34 (by omega)
      clear r1 r2 r5 r34
      go_enter Tryd.func3, Tryd.ntmps3
      go_wp2_with fail
      refine hsc.mono ?_; rintro e w1 ⟨rfl, hb1⟩
      go_wp2_with fail
      refine (hpow _ (by omega)).mono ?_; rintro e w' ⟨rfl, rfl⟩
      go_wp2_with fail
      refine (lv _ hb1).mono ?_; rintro e w2 ⟨rfl, hb2⟩
      go_wp2_with fail
      go_ret
      exact ⟨rfl, hb1.trans (hb2.mono hb1.size)⟩
  · have he' : (er != 0) = true := by simpa using he
    clear hok
    go_enter Tryd.func3, Tryd.ntmps3
    go_wp2_with fail
    refine hsc.mono ?_; rintro e w1 ⟨rfl, hb1⟩
    go_wp2_with fail
    refine (mlives _ (HP.out.below hb1)).mono ?_; rintro e w2 ⟨rfl, hb2⟩
    go_wp2_with fail
    go_ret
    exact ⟨rfl, hb1.trans (hb2.mono hb1.size)⟩
end Go.Proofs.YtboiipkbhbbgfaaDoor
