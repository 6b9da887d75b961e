/- The walk of money.Scale and of the reference's Power. -/
import Derived.Test.YtboiipkbhbbgfaaDoorM3
namespace Go.Proofs.YtboiipkbhbbgfaaDoor
open Go.RowKit

def fitsB (n : Int) : Bool := decide (0 ≤ n) && decide (n ≤ 4)
def farB (n : Int) : Bool := decide (1000000000000000 < n) || decide (n < -1000000000000000)

set_option maxHeartbeats 400000 in
theorem fits_any (n : Int) (w : World) : Calls Tryd.prog 21 #[.int .i64 n] w fun e w' => e = .returned (.bool (fitsB n)) ∧ w = w' := by
  by_cases h : 0 ≤ n
  · have h' : decide (0 ≤ n) = true := by simpa using h
    go_enter Tryd.func21, Tryd.ntmps21
    go_wp2
    go_ret
    exact ⟨ret_bool (by simp [fitsB, h]), rfl⟩
  · have h' : decide (0 ≤ n) = false := by simpa using h
    go_enter Tryd.func21, Tryd.ntmps21
    go_wp2
    go_ret
    exact ⟨ret_bool (by simp [fitsB]; omega), rfl⟩

set_option maxHeartbeats 400000 in
theorem far_any (n : Int) (w : World) : Calls Tryd.prog 22 #[.int .i64 n] w fun e w' => e = .returned (.bool (farB n)) ∧ w = w' := by
  by_cases h : 1000000000000000 < n
  · have h' : decide (1000000000000000 < n) = true := by simpa using h
    go_enter Tryd.func22, Tryd.ntmps22
    go_wp2
    go_ret
    exact ⟨ret_bool (by simp [farB, h]), rfl⟩
  · have h' : decide (1000000000000000 < n) = false := by simpa using h
    go_enter Tryd.func22, Tryd.ntmps22
    go_wp2
    go_ret
    exact ⟨ret_bool (by simp [farB]; omega), rfl⟩

/-- Scale: the number and the error; pf, pt: the powers of ten of the digits -/
def scaleM (amount f t mode pf pt : Int) : Int × Int :=
  if mode < 1 ∨ 5 < mode then (0, 10) else if fitsB f = false ∨ fitsB t = false then (0, 2) else if farB amount then (0, 4) else
  if (mulDivM amount pt pf mode).2 ≠ 0 ∨ farB (mulDivM amount pt pf mode).1 = true then (0, 4) else ((mulDivM amount pt pf mode).1, 0)

set_option maxRecDepth 100000 in
set_option maxHeartbeats 2000000 in
theorem scale_any (amount f t mode pf pt : Int) (w : World) (a0 : -9223372036854775808 ≤ amount) (a1 : amount ≤ 9223372036854775807)
    (pf0 : 1 ≤ pf) (pf1 : pf ≤ 10000) (pt0 : 1 ≤ pt) (pt1 : pt ≤ 10000)
    (hf : 0 ≤ f → f ≤ 4 → w.cell? ⟨0, f.toNat, none⟩ = some (.int .i64 pf)) (ht : 0 ≤ t → t ≤ 4 → w.cell? ⟨0, t.toNat, none⟩ = some (.int .i64 pt)) :
    Calls Tryd.prog 11 #[.int .i64 amount, .int .i64 f, .int .i64 t, .int .i64 mode] w fun e w' => e = .returned (.tuple #[.int .i64 (scaleM amount f t mode pf pt).1, .int .i64 (scaleM amount f t mode pf pt).2]) ∧ Below w.heap.size w w' := by
  by_cases hm1 : mode < 1
  · have g1 : decide (mode < 1) = true := by simpa using hm1
    go_enter Tryd.func11, Tryd.ntmps11
    go_wp2_with fail
    go_ret2
    have hE : scaleM amount f t mode pf pt = (0, 10) := by unfold scaleM; rw [if_pos (by omega)]
    exact ⟨ret_int2 (by rw [hE]) (by rw [hE]), Below.refl _ _⟩
  by_cases hm5 : 5 < mode
  · have g1 : decide (mode < 1) = false := by simpa using hm1
    have g5 : decide (5 < mode) = true := by simpa using hm5
    go_enter Tryd.func11, Tryd.ntmps11
    go_wp2_with fail
    go_ret2
    have hE : scaleM amount f t mode pf pt = (0, 10) := by unfold scaleM; rw [if_pos (by omega)]
    exact ⟨ret_int2 (by rw [hE]) (by rw [hE]), Below.refl _ _⟩
  have g1 : decide (mode < 1) = false := by simpa using hm1
  have g5 : decide (5 < mode) = false := by simpa using hm5
  cases hff : fitsB f with
  | false =>
    have HF := Lib.hid hff; clear hff
    go_enter Tryd.func11, Tryd.ntmps11
    go_wp2_with fail
    refine (fits_any _ _).mono ?_; rintro e w' ⟨rfl, rfl⟩
    rw [HF.out]
    go_wp2_with fail
    go_ret2
    have hE : scaleM amount f t mode pf pt = (0, 2) := by unfold scaleM; rw [if_neg (by omega), if_pos (Or.inl HF.out)]
    exact ⟨ret_int2 (by rw [hE]) (by rw [hE]), Below.refl _ _⟩
  | true =>
    have HF := Lib.hid hff; clear hff
    cases htt : fitsB t with
    | false =>
      have HT := Lib.hid htt; clear htt
      go_enter Tryd.func11, Tryd.ntmps11
      go_wp2_with fail
      refine (fits_any _ _).mono ?_; rintro e w' ⟨rfl, rfl⟩
      rw [HF.out]
      go_wp2_with fail
      refine (fits_any _ _).mono ?_; rintro e w' ⟨rfl, rfl⟩
      rw [HT.out]
      go_wp2_with fail
      go_ret2
      have hE : scaleM amount f t mode pf pt = (0, 2) := by unfold scaleM; rw [if_neg (by omega), if_pos (Or.inr HT.out)]
      exact ⟨ret_int2 (by rw [hE]) (by rw [hE]), Below.refl _ _⟩
    | true =>
      have HT := Lib.hid htt; clear htt
      have f0 : 0 ≤ f := by have := HF.out; simp [fitsB] at this; omega
      have f1 : f ≤ 4 := by have := HF.out; simp [fitsB] at this; omega
      have t0 : 0 ≤ t := by have := HT.out; simp [fitsB] at this; omega
      have t1 : t ≤ 4 := by have := HT.out; simp [fitsB] at this; omega
      have hf := hf f0 f1
      have ht := ht t0 t1
      cases hA : farB amount with
      | true =>
        have HA := Lib.hid hA; clear hA
        go_enter Tryd.func11, Tryd.ntmps11
        go_wp2_with fail
        refine (fits_any _ _).mono ?_; rintro e w' ⟨rfl, rfl⟩
        rw [HF.out]
        go_wp2_with fail
        refine (fits_any _ _).mono ?_; rintro e w' ⟨rfl, rfl⟩
        rw [HT.out]
        go_wp2_with fail
        refine (far_any _ _).mono ?_; rintro e w' ⟨rfl, rfl⟩
        rw [HA.out]
        go_wp2_with fail
        go_ret2
        have hE : scaleM amount f t mode pf pt = (0, 4) := by unfold scaleM; rw [if_neg (by omega), if_neg (by rw [HF.out, HT.out]; decide), if_pos HA.out]
        exact ⟨ret_int2 (by rw [hE]) (by rw [hE]), Below.refl _ _⟩
      | false =>
        have HA := Lib.hid hA; clear hA
        have hE : scaleM amount f t mode pf pt = if (mulDivM amount pt pf mode).2 ≠ 0 ∨ farB (mulDivM amount pt pf mode).1 = true then (0, 4) else ((mulDivM amount pt pf mode).1, 0) := by
          unfold scaleM; rw [if_neg (by omega), if_neg (by rw [HF.out, HT.out]; decide), if_neg (by rw [HA.out]; decide)]
        have HE := Lib.hid hE; clear hE
        obtain ⟨f, rfl⟩ := Int.eq_ofNat_of_zero_le f0
        obtain ⟨t, rfl⟩ := Int.eq_ofNat_of_zero_le t0
        rw [Int.toNat_natCast] at hf ht
        have f2 : (f : Int) < 5 := by omega
        have t2 : (t : Int) < 5 := by omega
        have hmd := fun wx => muldiv_calls amount pt pf mode wx a0 a1 (by omega) (by omega) (by omega) (by omega) (by omega) (by omega)
        generalize mulDivM amount pt pf mode = r at hmd HE
        obtain ⟨n, er⟩ := r
        simp only at hmd HE
        have hen : (er = 0 ∧ farB n = false) ∨ (er = 0 ∧ farB n = true) ∨ ¬ er = 0 := by
          by_cases he : er = 0
          · cases farB n <;> simp [he]
          · simp [he]
        have hbad : (er ≠ 0 ∨ farB n = true) → scaleM amount f t mode pf pt = (0, 4) := fun h => by rw [HE.out, if_pos h]
        have hgood : ¬ (er ≠ 0 ∨ farB n = true) → scaleM amount f t mode pf pt = (n, 0) := fun h => by rw [HE.out, if_neg h]
        have HB := Lib.hid hbad
        have HG := Lib.hid hgood
        clear hbad hgood HE
        have hfr := cell_regrown hf
        have htr := cell_regrown ht
        go_enter Tryd.func11, Tryd.ntmps11
        go_wp2_with fail
        refine (fits_any _ _).mono ?_; rintro e w' ⟨rfl, rfl⟩
        rw [HF.out]
        go_wp2_with fail
        refine (fits_any _ _).mono ?_; rintro e w' ⟨rfl, rfl⟩
        rw [HT.out]
        go_wp2_with fail
        refine (far_any _ _).mono ?_; rintro e w' ⟨rfl, rfl⟩
        rw [HA.out]
        go_wp2_with fail
        refine wp_region_quiet_below (by kernel_rfl) (by kernel_rfl) ?_
        repeat (quiet_step (exact Calls.regrown_of (hmd _)))
        refine wpQuiet_nil ?_
        intro w1 hw'
        have hb2 : Below w.heap.size w w1 := by obtain ⟨⟨dq, osq⟩, rfl⟩ := hw'; exact below_regrown w dq osq
        clear hw' hmd hf ht hfr htr
        rcases hen with ⟨rfl, hn⟩ | ⟨rfl, hn⟩ | he
        · have HN := Lib.hid hn; clear hn
          go_wp2_with fail
          refine (far_any _ _).mono ?_; rintro e w' ⟨rfl, rfl⟩
          rw [HN.out]
          go_wp2_with fail
          go_ret2
          have hE := HG.out (by rw [HN.out]; decide)
          exact ⟨ret_int2 (by rw [hE]) (by rw [hE]), hb2⟩
        · have HN := Lib.hid hn; clear hn
          go_wp2_with fail
          refine (far_any _ _).mono ?_; rintro e w' ⟨rfl, rfl⟩
          rw [HN.out]
          go_wp2_with fail
          go_ret2
          have hE := HB.out (Or.inr HN.out)
          exact ⟨ret_int2 (by rw [hE]) (by rw [hE]), hb2⟩
        · have he' : (er != 0) = true := by simpa using he
          go_wp2_with fail
          go_ret2
          have hE := HB.out (Or.inl he)
          exact ⟨ret_int2 (by rw [hE]) (by rw [hE]), hb2⟩

/-- the k-th power of ten -/
def powM : Nat → Int
  | 0 => 1
  | k + 1 => wrap64 (powM k * 10)

set_option maxHeartbeats 400000 in
theorem power_any (d : Int) (w : World) (d1 : d ≤ 100) : Calls Tryd.prog 13 #[.int .i64 d] w fun e w' => e = .returned (.int .i64 (powM d.toNat)) ∧ w = w' := by
  go_enter Tryd.func13, Tryd.ntmps13
  go_wp2
  go_loop [3, 4] (fun p i => ∃ k : Nat, k ≤ d.toNat ∧ i = .int .i64 k ∧ p = .int .i64 (powM k)) (fun _ i => d.toNat - (intOf i).toNat)
  case atStart => exact ⟨0, by omega, rfl, rfl⟩
  case round =>
    obtain ⟨k, hk, rfl, rfl⟩ := hrel
    by_cases hlt : (k : Int) < d
    · go_wp2
      go_round
      case rel => exact ⟨k + 1, by omega, by go_num, rfl⟩
      case measure => simp [intOf]; omega
    · go_wp2
      go_ret
      exact ⟨ret_int (by rw [show d.toNat = k by omega]), rfl⟩
end Go.Proofs.YtboiipkbhbbgfaaDoor
