/- The plain law of MoneyRounds: how far a rounded quotient lies from the number that was divided. No program is walked here. -/
import Derived.Test.YtboiipkbhbbgfaaDoorS5
namespace Go.Proofs.YtboiipkbhbbgfaaDoor
open Go.RowKit

theorem signed_ok (neg : Bool) (s n : Int) (h : signedM neg s = (n, 0)) : n = if neg = true then -s else s := by
  unfold signedM at h
  cases neg <;> simp only [if_true, Bool.false_eq_true, if_false] at h ⊢
  · split at h
    · cases h
    · exact (Prod.mk.inj h).1.symm
  · split at h
    · cases h
    · exact (Prod.mk.inj h).1.symm

theorem mdEnd_ok (neg : Bool) (m Q R C n : Int) (h : mdEnd neg m Q R C = (n, 0)) : n = if neg = true then -(if awayM m neg (Q % 2 == 1) R C = true then Q + 1 else Q) else (if awayM m neg (Q % 2 == 1) R C = true then Q + 1 else Q) := by
  unfold mdEnd at h
  split at h
  · cases h
  · split at h
    · rename_i hA
      rw [if_pos hA]
      split at h
      · cases h
      · exact signed_ok _ _ _ h
    · rename_i hA
      rw [if_neg hA]
      exact signed_ok _ _ _ h

/-- what a mode allows: d is how far the rounded number lies above a, p the unit -/
def Rounded (a d p m : Int) : Prop :=
  (m = 1 → (0 ≤ a ∧ d ≤ 0 ∧ -p < d) ∨ (a < 0 ∧ 0 ≤ d ∧ d < p)) ∧
  (m = 2 → (0 ≤ a ∧ 0 ≤ d ∧ d < p) ∨ (a < 0 ∧ d ≤ 0 ∧ -p < d)) ∧
  (m = 5 → d ≤ 0 ∧ -p < d) ∧
  (m = 3 ∨ m = 4 → 2 * d ≤ p ∧ -p ≤ 2 * d) ∧ d ≤ p ∧ -p ≤ d

theorem rounds_law (a p pt pf m n : Int) (hp : 1 ≤ p) (hpt : 1 ≤ pt) (hpf : pf = p * pt) (hm : 1 ≤ m) (hm' : m ≤ 5) (h : mulDivM a pt pf m = (n, 0)) : Rounded a (n * p - a) p m := by
  have hpf1 : 1 ≤ pf := by
    have := Int.mul_le_mul hp hpt (by omega) (by omega : (0 : Int) ≤ p)
    omega
  unfold mulDivM at h
  rw [if_neg (by omega), if_neg (by omega)] at h
  have hn := mdEnd_ok _ _ _ _ _ _ h
  clear h
  have e1 : magM pt = pt := by unfold magM; rw [if_neg (by omega)]
  have e2 : magM pf = pf := by unfold magM; rw [if_neg (by omega)]
  rw [e1, e2] at hn
  have hA0 : 0 ≤ magM a := by unfold magM; split <;> omega
  have eQ : magM a * pt / pf = magM a / p := by rw [hpf, Int.mul_comm p pt, Int.mul_comm (magM a) pt, Int.mul_ediv_mul_of_pos _ _ (by omega)]
  have eR : magM a * pt % pf = (magM a % p) * pt := by rw [hpf, Int.mul_comm p pt, Int.mul_comm (magM a) pt, Int.mul_emod_mul_of_pos _ _ (by omega), Int.mul_comm]
  rw [eQ, eR] at hn
  have hneg : negM a pt pf = decide (a < 0) := by
    unfold negM
    rw [e1]
    have h1 : decide (pt < 0) = false := by simp; omega
    have h2 : decide (pf < 0) = false := by simp; omega
    rw [h1, h2]
    by_cases ha : a < 0
    · have : ¬ magM a * pt = 0 := by
        intro h0
        rcases Int.mul_eq_zero.1 h0 with h | h
        · unfold magM at h; rw [if_pos ha] at h; omega
        · omega
      simp [ha, this]
    · simp [ha]
  rw [hneg] at hn
  have hr0 : 0 ≤ magM a % p := Int.emod_nonneg _ (by omega)
  have hr1 : magM a % p < p := Int.emod_lt_of_pos _ (by omega)
  have hd := Int.mul_ediv_add_emod (magM a) p
  have hR0 : (magM a % p) * pt = 0 ↔ magM a % p = 0 := by
    constructor
    · intro h0
      rcases Int.mul_eq_zero.1 h0 with h | h
      · exact h
      · omega
    · intro h0; rw [h0]; simp
  have hcmp : ∀ x y : Int, x * pt ≤ y * pt ↔ x ≤ y := fun x y => Int.mul_le_mul_right (by omega)
  have hhalf1 : pf - (magM a % p) * pt ≤ (magM a % p) * pt ↔ p - magM a % p ≤ magM a % p := by
    have : pf - (magM a % p) * pt = (p - magM a % p) * pt := by rw [hpf, Int.sub_mul]
    rw [this, hcmp]
  have hhalf2 : (magM a % p) * pt ≤ pf - (magM a % p) * pt ↔ magM a % p ≤ p - magM a % p := by
    have : pf - (magM a % p) * pt = (p - magM a % p) * pt := by rw [hpf, Int.sub_mul]
    rw [this, hcmp]
  have hAa : magM a = if a < 0 then -a else a := rfl
  generalize magM a / p = q at *
  generalize magM a % p = r at *
  generalize magM a = A at *
  generalize hRR : r * pt = R at *
  have hqp : p * q = A - r := by omega
  have hnp : n * p - a = if a < 0 then (if awayM m (decide (a < 0)) (q % 2 == 1) R pf = true then r - p else r) else (if awayM m (decide (a < 0)) (q % 2 == 1) R pf = true then p - r else -r) := by
    rw [hn]
    by_cases ha : a < 0
    · rw [if_pos (by simpa using ha), if_pos ha]
      rw [if_pos ha] at hAa
      split
      · have : -(q + 1) * p = -(p * q) - p := by grind
        omega
      · have : -q * p = -(p * q) := by grind
        omega
    · rw [if_neg (by simpa using ha), if_neg ha]
      rw [if_neg ha] at hAa
      split
      · have : (q + 1) * p = p * q + p := by grind
        omega
      · have : q * p = p * q := by grind
        omega
  generalize n * p - a = d at *
  clear hn hd hqp hcmp
  unfold Rounded
  unfold awayM at hnp
  by_cases hz : r = 0
  · rw [if_pos (hR0.2 hz)] at hnp
    simp only [Bool.false_eq_true, if_false] at hnp
    have : d = 0 := by split at hnp <;> omega
    omega
  · rw [if_neg (fun h => hz (hR0.1 h))] at hnp
    by_cases h2 : m = 2
    · rw [if_pos h2] at hnp
      simp only [if_true] at hnp
      split at hnp <;> omega
    rw [if_neg h2] at hnp
    by_cases h3 : m = 3
    · rw [if_pos h3] at hnp
      by_cases hh : pf - R ≤ R
      · have := hhalf1.1 hh
        simp only [decide_eq_true hh, if_true] at hnp
        split at hnp <;> omega
      · have : ¬ (p - r ≤ r) := fun h => hh (hhalf1.2 h)
        simp only [decide_eq_false hh, Bool.false_eq_true, if_false] at hnp
        split at hnp <;> omega
    rw [if_neg h3] at hnp
    by_cases h4 : m = 4
    · rw [if_pos h4] at hnp
      by_cases hh : (decide (pf - R < R) || (decide (R = pf - R) && (q % 2 == 1))) = true
      · have : pf - R ≤ R := by
          rcases Bool.or_eq_true _ _ ▸ hh with h | h
          · have := of_decide_eq_true h; omega
          · have := of_decide_eq_true (Bool.and_eq_true _ _ ▸ h).1; omega
        have := hhalf1.1 this
        rw [hh] at hnp
        simp only [if_true] at hnp
        split at hnp <;> omega
      · have : R ≤ pf - R := by
          have h1 : ¬ pf - R < R := fun h => hh (by simp [h])
          omega
        have := hhalf2.1 this
        simp only [hh, Bool.false_eq_true, if_false] at hnp
        split at hnp <;> omega
    rw [if_neg h4] at hnp
    by_cases h5 : m = 5
    · rw [if_pos h5] at hnp
      by_cases ha : a < 0
      · simp only [ha, decide_true, if_true] at hnp
        omega
      · simp only [ha, decide_false, Bool.false_eq_true, if_false] at hnp
        omega
    rw [if_neg h5] at hnp
    simp only [Bool.false_eq_true, if_false] at hnp
    split at hnp <;> omega
end Go.Proofs.YtboiipkbhbbgfaaDoor
