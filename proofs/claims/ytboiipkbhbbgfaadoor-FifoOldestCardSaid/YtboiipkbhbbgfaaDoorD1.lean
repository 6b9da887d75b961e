/- The walk of days.Date: every day of the calendar has a date. -/
import Derived.Test.YtboiipkbhbbgfaaDoorK
namespace Go.Proofs.YtboiipkbhbbgfaaDoor
open Go.RowKit

def leapB (y : Int) : Bool := (y % 4 == 0 && !(y % 100 == 0)) || y % 400 == 0
def leapN (y : Int) : Int := if (y % 4 = 0 ∧ ¬ y % 100 = 0) ∨ y % 400 = 0 then 1 else 0
def befM (y : Int) : Int := 365 * (y - 1900) + ((y - 1) / 4 - (y - 1) / 100 + (y - 1) / 400 - 474 + 18 - 4)
def tabM (m : Int) : Int := if m = 2 then 28 else if m = 4 ∨ m = 6 ∨ m = 9 ∨ m = 11 then 30 else 31
def lenM (y m : Int) : Int := if m < 1 ∨ 12 < m then 0 else if m = 2 then 28 + leapN y else tabM m
/-- the days before a month -/
def cumM (y m : Int) : Int :=
  (if 1 < m then 31 else 0) + (if 2 < m then 28 + leapN y else 0) + (if 3 < m then 31 else 0) + (if 4 < m then 30 else 0) + (if 5 < m then 31 else 0) + (if 6 < m then 30 else 0) +
  (if 7 < m then 31 else 0) + (if 8 < m then 31 else 0) + (if 9 < m then 30 else 0) + (if 10 < m then 31 else 0) + (if 11 < m then 30 else 0) + (if 12 < m then 31 else 0)

theorem leap_eq (y : Int) : leapB y = decide (leapN y = 1) := by
  unfold leapB leapN
  rw [Bool.eq_iff_iff]
  simp
theorem leapN_01 (y : Int) : 0 ≤ leapN y ∧ leapN y ≤ 1 := by unfold leapN; split <;> omega
theorem bef_succ (y : Int) : befM (y + 1) = befM y + 365 + leapN y := by
  unfold befM leapN
  split <;> omega
theorem bef_guess (n : Int) (h0 : 0 ≤ n) : befM (1900 + n / 366) ≤ n := by unfold befM; omega
theorem bef_last : befM 2200 = 109573 := by decide
theorem bef_bd (y : Int) (h0 : 1900 ≤ y) (h1 : y ≤ 2200) : 0 ≤ befM y ∧ befM y ≤ 200000 := by unfold befM; omega
theorem cum_succ (y m : Int) (h0 : 1 ≤ m) (h1 : m ≤ 12) : cumM y (m + 1) = cumM y m + lenM y m := by
  have h : m = 1 ∨ m = 2 ∨ m = 3 ∨ m = 4 ∨ m = 5 ∨ m = 6 ∨ m = 7 ∨ m = 8 ∨ m = 9 ∨ m = 10 ∨ m = 11 ∨ m = 12 := by omega
  have := leapN_01 y
  rcases h with rfl | rfl | rfl | rfl | rfl | rfl | rfl | rfl | rfl | rfl | rfl | rfl <;> simp [cumM, lenM, tabM] <;> omega
theorem cum_13 (y : Int) : cumM y 13 = 365 + leapN y := by simp [cumM]; omega
theorem cum_1 (y : Int) : cumM y 1 = 0 := by simp [cumM]
theorem len_bd (y m : Int) (h0 : 1 ≤ m) (h1 : m ≤ 12) : 28 ≤ lenM y m ∧ lenM y m ≤ 31 := by
  have := leapN_01 y
  unfold lenM tabM
  rw [if_neg (by omega)]
  split
  · omega
  · split <;> omega

/-- the table of the lengths of the months, as it is laid -/
def LengthsAt (w : World) : Prop := ∀ k : Nat, k < 12 → w.cell? ⟨1, k, none⟩ = some (.int .i64 (tabM (k + 1)))
theorem LengthsAt.below {w w' : World} (h : LengthsAt w) (hb : Below w.heap.size w w') : LengthsAt w' := by
  have hl : 1 < w.heap.size := World.block_lt_of_cell? w _ (h 0 (by decide))
  intro k hk
  rw [hb.cell hl]
  exact h k hk

set_option maxHeartbeats 400000 in
theorem is_any (n : Int) (w : World) : Calls Tryd.prog 95 #[.int .i64 n] w fun e w' => e = .returned (.bool (decide (0 ≤ n) && decide (n ≤ 109572))) ∧ w = w' := by
  by_cases h : 0 ≤ n
  · have h' : decide (0 ≤ n) = true := by simpa using h
    go_enter Tryd.func95, Tryd.ntmps95
    go_wp2
    go_ret
    exact ⟨ret_bool (by simp [h]), rfl⟩
  · have h' : decide (0 ≤ n) = false := by simpa using h
    go_enter Tryd.func95, Tryd.ntmps95
    go_wp2
    go_ret
    exact ⟨ret_bool (by simp), rfl⟩

set_option maxHeartbeats 400000 in
theorem before_any (y : Int) (w : World) (h0 : 1900 ≤ y) (h1 : y ≤ 2200) : Calls Tryd.prog 96 #[.int .i64 y] w fun e w' => e = .returned (.int .i64 (befM y)) ∧ w = w' := by
  go_enter Tryd.func96, Tryd.ntmps96
  go_wp2
  go_ret
  exact ⟨ret_int rfl, rfl⟩

set_option maxHeartbeats 400000 in
theorem leap_any (y : Int) (w : World) (h0 : 1900 ≤ y) (h1 : y ≤ 2200) : Calls Tryd.prog 103 #[.int .i64 y] w fun e w' => e = .returned (.bool (leapB y)) ∧ w = w' := by
  by_cases h4 : y % 4 = 0
  · have h4' : (y % 4 == 0) = true := by simpa using h4
    have H4 := Lib.hid h4; clear h4
    by_cases h100 : y % 100 = 0
    · have h100' : (y % 100 != 0) = false := by simpa using h100
      have H100 := Lib.hid h100; clear h100
      go_enter Tryd.func103, Tryd.ntmps103
      go_wp2
      go_ret
      exact ⟨ret_bool (by unfold leapB; rw [H100.out]; simp), rfl⟩
    · have h100' : (y % 100 != 0) = true := by simpa using h100
      go_enter Tryd.func103, Tryd.ntmps103
      go_wp2
      go_ret
      exact ⟨ret_bool (by unfold leapB; rw [H4.out]; simp [h100]), rfl⟩
  · have h4' : (y % 4 == 0) = false := by simpa using h4
    go_enter Tryd.func103, Tryd.ntmps103
    go_wp2
    go_ret
    exact ⟨ret_bool (by unfold leapB; simp [h4]), rfl⟩

set_option maxRecDepth 100000 in
set_option maxHeartbeats 400000 in
theorem length_any (y m : Int) (w : World) (h0 : 1900 ≤ y) (h1 : y ≤ 2200) (m0 : 1 ≤ m) (m1 : m ≤ 12) (hl : LengthsAt w) : Calls Tryd.prog 97 #[.int .i64 y, .int .i64 m] w fun e w' => e = .returned (.int .i64 (lenM y m)) ∧ w = w' := by
  have HL := Lib.hid hl; clear hl
  have g1 : decide (m < 1) = false := by simp; omega
  have g2 : decide (12 < m) = false := by simp; omega
  by_cases h2 : m = 2
  · subst h2
    cases hb : leapB y with
    | true =>
      have HB := Lib.hid hb; clear hb
      go_enter Tryd.func97, Tryd.ntmps97
      go_wp2_with fail
      refine (leap_any _ _ h0 h1).mono ?_; rintro e w' ⟨rfl, rfl⟩
      rw [HB.out]
      go_wp2_with fail
      go_ret
      have := HB.out
      rw [leap_eq] at this
      exact ⟨ret_int (by simp [lenM, of_decide_eq_true this]), rfl⟩
    | false =>
      have HB := Lib.hid hb; clear hb
      have hc := HL.out 1 (by decide)
      go_enter Tryd.func97, Tryd.ntmps97
      go_wp2_with fail
      refine (leap_any _ _ h0 h1).mono ?_; rintro e w' ⟨rfl, rfl⟩
      rw [HB.out]
      go_wp2_with fail
      go_ret
      have := HB.out
      rw [leap_eq] at this
      have h3 := of_decide_eq_false this
      have h4 := leapN_01 y
      exact ⟨ret_int (by simp [lenM, tabM]; omega), rfl⟩
  · have h2' : (m == 2) = false := by simpa using h2
    obtain ⟨k, rfl⟩ : ∃ k : Nat, m = (k : Int) + 1 := ⟨(m - 1).toNat, by omega⟩
    have hc := HL.out k (by omega)
    have hk : (k : Int) < 12 := by omega
    go_enter Tryd.func97, Tryd.ntmps97
    go_wp2_with fail
    go_ret
    exact ⟨ret_int (by unfold lenM; rw [if_neg (by omega), if_neg h2]), rfl⟩

/-- a pair of a date and an error -/
def IsDate (e : Ending) : Prop := ∃ a b c : Int, e = .returned (.tuple #[.agg #[.int .i64 a, .int .i64 b, .int .i64 c], .int .i64 0])

set_option maxRecDepth 100000 in
set_option maxHeartbeats 400000 in
theorem date_no (n : Int) (w : World) (h : (decide (0 ≤ n) && decide (n ≤ 109572)) = false) :
    Calls Tryd.prog 79 #[.int .i64 n] w fun e w' => e = .returned (.tuple #[.agg #[.int .i64 0, .int .i64 0, .int .i64 0], .int .i64 11]) ∧ Below w.heap.size w w' := by
  have H := Lib.hid h; clear h
  go_enter Tryd.func79, Tryd.ntmps79
  go_wp2_with fail
  refine (is_any _ _).mono ?_; rintro e w' ⟨rfl, rfl⟩
  rw [H.out]
  go_wp2_with fail
  exact bodyPost_ret (v := .tuple #[.agg #[.int .i64 0, .int .i64 0, .int .i64 0], .int .i64 11]) (by simp [results, Tryd.results79, go_sem]) rfl ⟨rfl, (Below.refl _ _).alloc (Nat.le_refl _) _⟩

set_option maxRecDepth 100000 in
set_option maxHeartbeats 2000000 in
theorem date_yes (n : Int) (w : World) (h0 : 0 ≤ n) (h1 : n ≤ 109572) (hl : LengthsAt w) :
    Calls Tryd.prog 79 #[.int .i64 n] w fun e w' => IsDate e ∧ Below w.heap.size w w' := by
  have HL := Lib.hid hl; clear hl
  have H : Hid ((decide (0 ≤ n) && decide (n ≤ 109572)) = true) := by show _ = true; simp; omega
  have g0 := bef_guess n h0
  go_enter Tryd.func79, Tryd.ntmps79
  go_wp2_with fail
  refine (is_any _ _).mono ?_; rintro e w' ⟨rfl, rfl⟩
  rw [H.out]
  go_wp2_with fail
  go_loopg [] (2199 - (1900 + n / 366)).toNat (fun g wr => ∃ y : Int, 1900 ≤ y ∧ y ≤ 2199 ∧ befM y ≤ n ∧ g = (2199 - y).toNat ∧ wr = w.alloc (Obj.cells #[.int .i64 y, .int .i64 0, .int .i64 0] 100))
  case atStart => exact ⟨1900 + n / 366, by omega, by omega, g0, rfl, rfl⟩
  case round =>
    obtain ⟨y, y0, y1, hy, hg, rfl⟩ := hrel
    by_cases hc : y < 2199 ∧ befM (y + 1) ≤ n
    · obtain ⟨c1, c2⟩ := hc
      go_wp2_with (go_at_call 96; refine (before_any _ _ (by omega) (by omega)).mono ?_; rintro e w' ⟨rfl, rfl⟩)
      go_roundg (2199 - (y + 1)).toNat
      case measure => omega
      case rel => exact ⟨y + 1, by omega, by omega, c2, rfl, rfl⟩
    · have hz : n < befM (y + 1) := by
        by_cases e : y = 2199
        · rw [e]; have := bef_last; show n < befM 2200; omega
        · omega
      have hs := bef_succ y
      have h13 := cum_13 y
      have hb := bef_bd y y0 (by omega)
      have hl01 := leapN_01 y
      have S : Hid (befM (y + 1) = befM y + 365 + leapN y ∧ cumM y 13 = 365 + leapN y ∧ cumM y 1 = 0) := ⟨hs, h13, cum_1 y⟩
      clear hs h13 hc g0 hg
      obtain ⟨hb0, hb1⟩ := hb
      have hlw : LengthsAt (w.alloc (Obj.cells #[.int .i64 y, .int .i64 0, .int .i64 0] 100)) := HL.out.below ((Below.refl _ _).alloc (Nat.le_refl _) _)
      by_cases c1 : y < 2199
      all_goals
        go_wp2_with (go_at_call 96; refine (before_any _ _ (by omega) (by omega)).mono ?_; rintro e w' ⟨rfl, rfl⟩)
        go_loopg [0] 11 (fun g r wr => ∃ m : Int, 1 ≤ m ∧ m ≤ 12 ∧ g = (12 - m).toNat ∧ r = .int .i64 (n - befM y - cumM y m) ∧ 0 ≤ n - befM y - cumM y m ∧ wr = w.alloc (Obj.cells #[.int .i64 y, .int .i64 m, .int .i64 0] 100))
        case atStart => exact ⟨1, by omega, by omega, rfl, by rw [S.out.2.2]; simp, by rw [S.out.2.2]; omega, rfl⟩
        case round =>
          obtain ⟨m, m0, m1, hg, rfl, hr, rfl⟩ := hrel
          obtain ⟨lb0, lb1⟩ := len_bd y m m0 m1
          have cs := cum_succ y m m0 m1
          have cb : 0 ≤ cumM y m ∧ cumM y m ≤ 366 := by
            have := leapN_01 y
            unfold cumM
            omega
          obtain ⟨cb0, cb1⟩ := cb
          have hlm : LengthsAt (w.alloc (Obj.cells #[.int .i64 y, .int .i64 m, .int .i64 0] 100)) := HL.out.below ((Below.refl _ _).alloc (Nat.le_refl _) _)
          have hlen := fun wx (h : LengthsAt wx) => length_any y m wx y0 (by omega) m0 m1 h
          have T := Lib.hid cs
          have HG := Lib.hid hg
          have LM := Lib.hid hlm
          have LW := Lib.hid hlw
          clear cs hg hlm
          by_cases hd : lenM y m ≤ n - befM y - cumM y m
          · have hm : m < 12 := by
              by_cases e : m = 12
              · have t := T.out
                rw [e] at t hd
                have s := S.out
                have : cumM y 13 = cumM y 12 + lenM y 12 := t
                omega
              · omega
            go_wp2_with (go_at_call 97; refine (hlen _ LM.out).mono ?_; rintro e w' ⟨rfl, rfl⟩)
            go_roundg (12 - (m + 1)).toNat
            case measure => have := HG.out; omega
            case rel =>
              have t := T.out
              exact ⟨m + 1, by omega, by omega, rfl, congrArg (Value.int .i64) (by omega), by omega, rfl⟩
          · go_wp2_with (go_at_call 97; refine (hlen _ LM.out).mono ?_; rintro e w' ⟨rfl, rfl⟩)
            refine bodyPost_ret (v := .tuple #[.agg #[.int .i64 y, .int .i64 m, .int .i64 (n - befM y - cumM y m + 1)], .int .i64 0]) (by simp [results, Tryd.results79, go_sem]) rfl ⟨⟨_, _, _, rfl⟩, ?_⟩
            exact (Below.refl _ _).alloc (Nat.le_refl _) _

set_option maxRecDepth 100000 in
set_option maxHeartbeats 400000 in
theorem isDay_any (n : Int) (w : World) (hl : LengthsAt w) : Calls Tryd.prog 50 #[.int .i64 n] w fun e w' => e = .returned (.bool (decide (0 ≤ n) && decide (n ≤ 109572))) ∧ Below w.heap.size w w' := by
  cases h : (decide (0 ≤ n) && decide (n ≤ 109572)) with
  | false =>
    have H := Lib.hid h; clear h
    go_enter Tryd.func50, Tryd.ntmps50
    go_wp2_with fail
    refine (date_no _ _ H.out).mono ?_; rintro e w1 ⟨rfl, hb⟩
    go_wp2_with fail
    go_ret
    exact ⟨rfl, hb.alloc hb.size _⟩
  | true =>
    have h0 : 0 ≤ n ∧ n ≤ 109572 := by simpa using h
    clear h
    obtain ⟨h0, h1⟩ := h0
    go_enter Tryd.func50, Tryd.ntmps50
    go_wp2_with fail
    refine (date_yes _ _ h0 h1 hl).mono ?_; rintro e w1 ⟨⟨a, b, c, rfl⟩, hb⟩
    go_wp2_with fail
    go_ret
    exact ⟨rfl, hb.alloc hb.size _⟩
end Go.Proofs.YtboiipkbhbbgfaaDoor
