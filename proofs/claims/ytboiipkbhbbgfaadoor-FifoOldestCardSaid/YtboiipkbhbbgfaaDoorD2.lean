/- The walks of words.Code and of the reference's Code. -/
import Derived.Test.YtboiipkbhbbgfaaDoorK
namespace Go.Proofs.YtboiipkbhbbgfaaDoor
open Go.RowKit

def letterB (c : Int) : Bool := decide ((97 ≤ c ∧ c ≤ 122) ∨ (65 ≤ c ∧ c ≤ 90) ∨ c = 95)
def digitB (c : Int) : Bool := decide (48 ≤ c ∧ c ≤ 57)
def codeCh (c : UInt8) : Bool := letterB c.toNat || digitB c.toNat
def allB (s : ByteArray) : Bool := s.data.toList.all codeCh
/-- is it a code? -/
def codeB (s : ByteArray) : Bool := decide (1 ≤ s.size) && decide (s.size ≤ 12) && allB s

set_option maxRecDepth 100000 in
set_option maxHeartbeats 800000 in
theorem letter_any (c : Int) (w : World) : Calls Tryd.prog 82 #[.int .u8 c] w fun e w' => e = .returned (.bool (letterB c)) ∧ w = w' := by
  have h : c < 65 ∨ (65 ≤ c ∧ c ≤ 90) ∨ (91 ≤ c ∧ c ≤ 94) ∨ c = 95 ∨ c = 96 ∨ (97 ≤ c ∧ c ≤ 122) ∨ 123 ≤ c := by omega
  rcases h with h | ⟨h, h'⟩ | ⟨h, h'⟩ | rfl | rfl | ⟨h, h'⟩ | h
  all_goals
    go_enter Tryd.func82, Tryd.ntmps82
    go_wp2
    go_ret
    first | exact ⟨rfl, rfl⟩ | exact ⟨ret_bool (by rw [Bool.eq_iff_iff]; simp [letterB]; omega), rfl⟩

set_option maxRecDepth 100000 in
set_option maxHeartbeats 800000 in
theorem rletter_any (c : Int) (w : World) : Calls Tryd.prog 86 #[.int .u8 c] w fun e w' => e = .returned (.bool (letterB c)) ∧ w = w' := by
  have h : c < 65 ∨ (65 ≤ c ∧ c ≤ 90) ∨ (91 ≤ c ∧ c ≤ 94) ∨ c = 95 ∨ c = 96 ∨ (97 ≤ c ∧ c ≤ 122) ∨ 123 ≤ c := by omega
  rcases h with h | ⟨h, h'⟩ | ⟨h, h'⟩ | rfl | rfl | ⟨h, h'⟩ | h
  all_goals
    go_enter Tryd.func86, Tryd.ntmps86
    go_wp2
    go_ret
    first | exact ⟨rfl, rfl⟩ | exact ⟨ret_bool (by rw [Bool.eq_iff_iff]; simp [letterB]; omega), rfl⟩

set_option maxHeartbeats 800000 in
theorem digit_any (c : Int) (w : World) : Calls Tryd.prog 83 #[.int .u8 c] w fun e w' => e = .returned (.bool (digitB c)) ∧ w = w' := by
  have h : c < 48 ∨ (48 ≤ c ∧ c ≤ 57) ∨ 58 ≤ c := by omega
  rcases h with h | ⟨h, h'⟩ | h
  all_goals
    go_enter Tryd.func83, Tryd.ntmps83
    go_wp2
    go_ret
    exact ⟨ret_bool (by rw [Bool.eq_iff_iff]; simp [digitB]; omega), rfl⟩

set_option maxHeartbeats 800000 in
theorem rdigit_any (c : Int) (w : World) : Calls Tryd.prog 87 #[.int .u8 c] w fun e w' => e = .returned (.bool (digitB c)) ∧ w = w' := by
  have h : c < 48 ∨ (48 ≤ c ∧ c ≤ 57) ∨ 58 ≤ c := by omega
  rcases h with h | ⟨h, h'⟩ | h
  all_goals
    go_enter Tryd.func87, Tryd.ntmps87
    go_wp2
    go_ret
    exact ⟨ret_bool (by rw [Bool.eq_iff_iff]; simp [digitB]; omega), rfl⟩

set_option maxHeartbeats 800000 in
theorem codech_any (c : Int) (w : World) : Calls Tryd.prog 81 #[.int .u8 c] w fun e w' => e = .returned (.bool (letterB c || digitB c)) ∧ w = w' := by
  cases h : letterB c with
  | true =>
    have H := Lib.hid h; clear h
    go_enter Tryd.func81, Tryd.ntmps81
    go_wp2_with fail
    refine (letter_any _ _).mono ?_; rintro e w' ⟨rfl, rfl⟩
    rw [H.out]
    go_wp2_with fail
    go_ret
    exact ⟨rfl, rfl⟩
  | false =>
    have H := Lib.hid h; clear h
    go_enter Tryd.func81, Tryd.ntmps81
    go_wp2_with fail
    refine (letter_any _ _).mono ?_; rintro e w' ⟨rfl, rfl⟩
    rw [H.out]
    go_wp2_with fail
    refine (digit_any _ _).mono ?_; rintro e w' ⟨rfl, rfl⟩
    go_wp2_with fail
    go_ret
    exact ⟨rfl, rfl⟩

theorem all_snoc (s : ByteArray) (k : Nat) (h : k < s.size) : (s.data.toList.take (k + 1)).all codeCh = ((s.data.toList.take k).all codeCh && codeCh s[k]) := by
  have : s.data.toList.take (k + 1) = s.data.toList.take k ++ [s[k]] := by
    rw [List.take_succ_eq_append_getElem (by simpa using h)]; rfl
  rw [this, List.all_append]
  simp
theorem all_false (l : List UInt8) (k : Nat) (h : (l.take k).all codeCh = false) : l.all codeCh = false := by
  have : l = l.take k ++ l.drop k := (List.take_append_drop k l).symm
  rw [this, List.all_append, h]
  rfl

set_option maxRecDepth 100000 in
set_option maxHeartbeats 1000000 in
theorem every_any (s : ByteArray) (w : World) (hs : s.size ≤ 12) : Calls Tryd.prog 80 #[.string s, .func (.func 81) #[] #[]] w fun e w' => e = .returned (.bool (allB s)) ∧ w = w' := by
  go_enter Tryd.func80, Tryd.ntmps80
  go_wp2
  go_loop [8] (fun i => ∃ k : Nat, k ≤ s.size ∧ i = .int .i64 k ∧ Hid ((s.data.toList.take k).all codeCh = true)) (fun i => s.size - (intOf i).toNat)
  case atStart => exact ⟨0, Nat.zero_le _, rfl, by show _ = true; simp⟩
  case round =>
    obtain ⟨k, hk, rfl, HK⟩ := hrel
    by_cases hlt : k < s.size
    · have hsn := all_snoc s k hlt
      cases hc : (letterB s[k].toNat || digitB s[k].toNat) with
      | true =>
        have HN : Hid ((s.data.toList.take (k + 1)).all codeCh = true) := by
          show _ = true
          rw [hsn, HK.out]; exact hc
        have HC := Lib.hid hc; clear hc hsn
        go_wp2_with (go_at_call 81; refine (codech_any _ _).mono ?_; rintro e w' ⟨rfl, rfl⟩; rw [HC.out])
        go_round
        case rel => exact ⟨k + 1, by omega, by go_num, HN⟩
        case measure => simp [intOf]; omega
      | false =>
        have HN : Hid (allB s = false) := by
          show _ = false
          unfold allB
          apply all_false _ (k + 1)
          rw [hsn, HK.out]; exact hc
        have HC := Lib.hid hc; clear hc hsn
        go_wp2_with (go_at_call 81; refine (codech_any _ _).mono ?_; rintro e w' ⟨rfl, rfl⟩; rw [HC.out])
        go_ret
        exact ⟨ret_bool (by rw [HN.out]), rfl⟩
    · have HN : Hid (allB s = true) := by
        show _ = true
        unfold allB
        have := HK.out
        rw [List.take_of_length_le (by simp; omega)] at this
        exact this
      go_wp2
      go_ret
      exact ⟨ret_bool (by rw [HN.out]), rfl⟩

theorem toList_nil (s : ByteArray) : s.toList = [] ↔ s.size = 0 := by
  rw [ByteArray.toList_eq]
  constructor
  · intro h
    have := congrArg List.length h
    simpa using this
  · intro h
    exact List.eq_nil_of_length_eq_zero (by simpa using h)

set_option maxRecDepth 100000 in
set_option maxHeartbeats 1000000 in
theorem code_any (s : ByteArray) (w : World) : Calls Tryd.prog 51 #[.string s] w fun e w' => e = .returned (.bool (codeB s)) ∧ w = w' := by
  by_cases h0 : s.size = 0
  · have hn := (toList_nil s).2 h0
    have H0 := Lib.hid h0; clear h0
    go_enter Tryd.func51, Tryd.ntmps51
    go_wp2_with fail
    go_ret
    exact ⟨ret_bool (by unfold codeB; rw [H0.out]; rfl), rfl⟩
  · have hn : ¬ s.toList = [] := fun h => h0 ((toList_nil s).1 h)
    have hn' : s.toList.isEmpty = false := by simpa using hn
    by_cases h12 : s.size ≤ 12
    · have H0 := Lib.hid h0; clear h0
      go_enter Tryd.func51, Tryd.ntmps51
      go_wp2_with fail
      refine (every_any _ _ h12).mono ?_; rintro e w' ⟨rfl, rfl⟩
      go_wp2_with fail
      go_ret
      have h1 : 1 ≤ s.size := by have := H0.out; omega
      exact ⟨ret_bool (by unfold codeB; rw [decide_eq_true h1, decide_eq_true h12]; rfl), rfl⟩
    · have H0 := Lib.hid h0; clear h0
      have H12 := Lib.hid h12
      go_enter Tryd.func51, Tryd.ntmps51
      go_wp2_with fail
      go_ret
      exact ⟨ret_bool (by unfold codeB; rw [decide_eq_false H12.out]; simp), rfl⟩

set_option maxRecDepth 100000 in
set_option maxHeartbeats 1000000 in
theorem rcode_any (s : ByteArray) (w : World) (hs : s.size ≤ 9223372036854775807) : Calls Tryd.prog 64 #[.string s] w fun e w' => e = .returned (.bool (codeB s)) ∧ w = w' := by
  go_enter Tryd.func64, Tryd.ntmps64
  go_wp2
  go_loop [3] (fun i => ∃ k : Nat, k ≤ s.size ∧ i = .int .i64 k ∧ Hid ((s.data.toList.take k).all codeCh = true)) (fun i => s.size - (intOf i).toNat)
  case atStart => exact ⟨0, Nat.zero_le _, rfl, by show _ = true; simp⟩
  case round =>
    obtain ⟨k, hk, rfl, HK⟩ := hrel
    by_cases hlt : k < s.size
    · have hsn := all_snoc s k hlt
      cases hc : letterB s[k].toNat with
      | true =>
        have HN : Hid ((s.data.toList.take (k + 1)).all codeCh = true) := by
          show _ = true
          rw [hsn, HK.out]; unfold codeCh; rw [hc]; rfl
        have HC := Lib.hid hc; clear hc hsn
        go_wp2_with (go_at_call 86; refine (rletter_any _ _).mono ?_; rintro e w' ⟨rfl, rfl⟩; rw [HC.out])
        go_round
        case rel => exact ⟨k + 1, by omega, by go_num, HN⟩
        case measure => simp [intOf]; omega
      | false =>
        cases hd : digitB s[k].toNat with
        | true =>
          have HN : Hid ((s.data.toList.take (k + 1)).all codeCh = true) := by
            show _ = true
            rw [hsn, HK.out]; unfold codeCh; rw [hc, hd]; rfl
          have HC := Lib.hid hc; clear hc hsn
          have HD := Lib.hid hd; clear hd
          go_wp2_with (first | (go_at_call 86; refine (rletter_any _ _).mono ?_; rintro e w' ⟨rfl, rfl⟩; rw [HC.out]) | (go_at_call 87; refine (rdigit_any _ _).mono ?_; rintro e w' ⟨rfl, rfl⟩; rw [HD.out]))
          go_round
          case rel => exact ⟨k + 1, by omega, by go_num, HN⟩
          case measure => simp [intOf]; omega
        | false =>
          have HN : Hid (allB s = false) := by
            show _ = false
            unfold allB
            apply all_false _ (k + 1)
            rw [hsn, HK.out]; unfold codeCh; rw [hc, hd]; rfl
          have HC := Lib.hid hc; clear hc hsn
          have HD := Lib.hid hd; clear hd
          go_wp2_with (first | (go_at_call 86; refine (rletter_any _ _).mono ?_; rintro e w' ⟨rfl, rfl⟩; rw [HC.out]) | (go_at_call 87; refine (rdigit_any _ _).mono ?_; rintro e w' ⟨rfl, rfl⟩; rw [HD.out]))
          go_ret
          exact ⟨ret_bool (by unfold codeB; rw [HN.out]; simp), rfl⟩
    · have HN : Hid (allB s = true) := by
        show _ = true
        unfold allB
        have := HK.out
        rw [List.take_of_length_le (by simp; omega)] at this
        exact this
      by_cases g0 : 1 ≤ s.size
      · go_wp2
        go_ret
        exact ⟨ret_bool (by unfold codeB; rw [HN.out, decide_eq_true g0]; simp; omega), rfl⟩
      · have hz : s.size = 0 := by omega
        have HZ := Lib.hid hz; clear hz
        go_wp2
        go_ret
        exact ⟨ret_bool (by unfold codeB; rw [HZ.out]; rfl), rfl⟩
end Go.Proofs.YtboiipkbhbbgfaaDoor
