/- The walk of moves.One: the first error of a movement by itself. -/
import Derived.Test.YtboiipkbhbbgfaaDoorF0
import Derived.Test.YtboiipkbhbbgfaaDoorD1
namespace Go.Proofs.YtboiipkbhbbgfaaDoor
open Go.RowKit

set_option maxHeartbeats 400000 in
theorem in_any (n lo hi : Int) (w : World) : Calls Tryd.prog 52 #[.int .i64 n, .int .i64 lo, .int .i64 hi] w fun e w' => e = .returned (.bool (inB n lo hi)) ∧ w = w' := by
  by_cases h : lo ≤ n
  · have h' : decide (lo ≤ n) = true := by simpa using h
    go_enter Tryd.func52, Tryd.ntmps52
    go_wp2
    go_ret
    exact ⟨ret_bool (by simp [inB, h]), rfl⟩
  · have h' : decide (lo ≤ n) = false := by simpa using h
    go_enter Tryd.func52, Tryd.ntmps52
    go_wp2
    go_ret
    exact ⟨ret_bool (by simp [inB]; omega), rfl⟩

set_option maxHeartbeats 400000 in
theorem refers_any (k : Int) (w : World) : Calls Tryd.prog 56 #[.int .i64 k] w fun e w' => e = .returned (.bool (refersB k)) ∧ w = w' := by
  have h : k = 3 ∨ k = 4 ∨ k = 5 ∨ ((k == 3) = false ∧ (k == 4) = false ∧ (k == 5) = false) := by simp; omega
  rcases h with rfl | rfl | rfl | ⟨h3, h4, h5⟩
  all_goals
    go_enter Tryd.func56, Tryd.ntmps56
    go_wp2
    go_ret
    first | exact ⟨rfl, rfl⟩ | exact ⟨ret_bool (by simp at h3 h4 h5; simp [refersB]; omega), rfl⟩

set_option maxRecDepth 100000 in
set_option maxHeartbeats 800000 in
theorem quantity_any (m : Mov) (w : World) : Calls Tryd.prog 53 #[m.v] w fun e w' => e = .returned (.bool (qtyB m)) ∧ Below w.heap.size w w' := by
  have h : m.kind = 5 ∨ m.kind = 6 ∨ ((m.kind == 5) = false ∧ (m.kind == 6) = false) := by simp; omega
  rcases h with h | h | ⟨h5, h6⟩
  · have H := Lib.hid h
    have h' : (m.kind == 5) = true := by simpa using h
    clear h
    go_enter Tryd.func53, Tryd.ntmps53
    go_wp2_with (go_at_call 52; refine (in_any _ _ _ _).mono ?_; rintro e w' ⟨rfl, rfl⟩)
    go_ret
    exact ⟨ret_bool (by simp [qtyB, H.out]), (Below.refl _ _).alloc (Nat.le_refl _) _⟩
  · have H := Lib.hid h
    have h' : (m.kind == 6) = true := by simpa using h
    have h5 : (m.kind == 5) = false := by rw [h]; decide
    clear h
    go_enter Tryd.func53, Tryd.ntmps53
    go_wp2_with (go_at_call 52; refine (in_any _ _ _ _).mono ?_; rintro e w' ⟨rfl, rfl⟩)
    go_ret
    exact ⟨ret_bool (by simp [qtyB, H.out]), (Below.refl _ _).alloc (Nat.le_refl _) _⟩
  · go_enter Tryd.func53, Tryd.ntmps53
    go_wp2_with (go_at_call 52; refine (in_any _ _ _ _).mono ?_; rintro e w' ⟨rfl, rfl⟩)
    go_ret
    simp at h5 h6
    exact ⟨ret_bool (by simp [qtyB, h5, h6]), (Below.refl _ _).alloc (Nat.le_refl _) _⟩

set_option maxRecDepth 100000 in
set_option maxHeartbeats 800000 in
theorem cost_any (m : Mov) (w : World) : Calls Tryd.prog 54 #[m.v] w fun e w' => e = .returned (.bool (costB m)) ∧ Below w.heap.size w w' := by
  have h : m.kind = 2 ∨ m.kind = 3 ∨ m.kind = 5 ∨ ((m.kind == 2) = false ∧ (m.kind == 3) = false ∧ (m.kind == 5) = false) := by simp; omega
  rcases h with h | h | h | ⟨h2, h3, h5⟩
  · have H := Lib.hid h
    have h' : (m.kind == 2) = true := by simpa using h
    clear h
    go_enter Tryd.func54, Tryd.ntmps54
    go_wp2_with (go_at_call 52; refine (in_any _ _ _ _).mono ?_; rintro e w' ⟨rfl, rfl⟩)
    go_ret
    exact ⟨ret_bool (by simp [costB, H.out]), (Below.refl _ _).alloc (Nat.le_refl _) _⟩
  · have H := Lib.hid h
    have h' : (m.kind == 3) = true := by simpa using h
    have h2 : (m.kind == 2) = false := by rw [h]; decide
    clear h
    go_enter Tryd.func54, Tryd.ntmps54
    go_wp2_with (go_at_call 52; refine (in_any _ _ _ _).mono ?_; rintro e w' ⟨rfl, rfl⟩)
    go_ret
    exact ⟨ret_bool (by simp [costB, H.out]), (Below.refl _ _).alloc (Nat.le_refl _) _⟩
  · have H := Lib.hid h
    have h' : (m.kind == 5) = true := by simpa using h
    have h2 : (m.kind == 2) = false := by rw [h]; decide
    have h3 : (m.kind == 3) = false := by rw [h]; decide
    clear h
    go_enter Tryd.func54, Tryd.ntmps54
    go_wp2_with (go_at_call 52; refine (in_any _ _ _ _).mono ?_; rintro e w' ⟨rfl, rfl⟩)
    go_ret
    exact ⟨ret_bool (by simp [costB, H.out]), (Below.refl _ _).alloc (Nat.le_refl _) _⟩
  · go_enter Tryd.func54, Tryd.ntmps54
    go_wp2_with (go_at_call 52; refine (in_any _ _ _ _).mono ?_; rintro e w' ⟨rfl, rfl⟩)
    go_ret
    simp at h2 h3 h5
    exact ⟨ret_bool (by simp [costB, h2, h3, h5]), (Below.refl _ _).alloc (Nat.le_refl _) _⟩

set_option maxRecDepth 100000 in
set_option maxHeartbeats 800000 in
theorem lot_any (m : Mov) (w : World) : Calls Tryd.prog 55 #[m.v] w fun e w' => e = .returned (.bool (lotB m)) ∧ Below w.heap.size w w' := by
  by_cases h0 : m.lot.size = 0
  · have hn := (toList_nil m.lot).2 h0
    have H0 := Lib.hid h0; clear h0
    go_enter Tryd.func55, Tryd.ntmps55
    go_wp2_with fail
    go_ret
    exact ⟨ret_bool (by unfold lotB; rw [decide_eq_true H0.out]; rfl), (Below.refl _ _).alloc (Nat.le_refl _) _⟩
  · have hn : ¬ m.lot.toList = [] := fun h => h0 ((toList_nil m.lot).1 h)
    have hn' : m.lot.toList.isEmpty = false := by simpa using hn
    have H0 := Lib.hid h0; clear h0
    cases hc : codeB m.lot with
    | false =>
      have HC := Lib.hid hc; clear hc
      go_enter Tryd.func55, Tryd.ntmps55
      go_wp2_with fail
      refine (code_any _ _).mono ?_; rintro e w' ⟨rfl, rfl⟩
      rw [HC.out]
      go_wp2_with fail
      go_ret
      exact ⟨ret_bool (by unfold lotB; rw [decide_eq_false H0.out, HC.out]; rfl), (Below.refl _ _).alloc (Nat.le_refl _) _⟩
    | true =>
      have HC := Lib.hid hc; clear hc
      have h : m.kind = 1 ∨ m.kind = 2 ∨ ((m.kind == 1) = false ∧ (m.kind == 2) = false) := by simp; omega
      rcases h with h | h | ⟨h1, h2⟩
      · have H := Lib.hid h
        have h' : (m.kind == 1) = true := by simpa using h
        clear h
        go_enter Tryd.func55, Tryd.ntmps55
        go_wp2_with fail
        refine (code_any _ _).mono ?_; rintro e w' ⟨rfl, rfl⟩
        rw [HC.out]
        go_wp2_with fail
        go_ret
        exact ⟨ret_bool (by unfold lotB; rw [decide_eq_false H0.out, HC.out, H.out]; rfl), (Below.refl _ _).alloc (Nat.le_refl _) _⟩
      · have H := Lib.hid h
        have h' : (m.kind == 2) = true := by simpa using h
        have h1 : (m.kind == 1) = false := by rw [h]; decide
        clear h
        go_enter Tryd.func55, Tryd.ntmps55
        go_wp2_with fail
        refine (code_any _ _).mono ?_; rintro e w' ⟨rfl, rfl⟩
        rw [HC.out]
        go_wp2_with fail
        go_ret
        exact ⟨ret_bool (by unfold lotB; rw [decide_eq_false H0.out, HC.out, H.out]; rfl), (Below.refl _ _).alloc (Nat.le_refl _) _⟩
      · go_enter Tryd.func55, Tryd.ntmps55
        go_wp2_with fail
        refine (code_any _ _).mono ?_; rintro e w' ⟨rfl, rfl⟩
        rw [HC.out]
        go_wp2_with fail
        go_ret
        simp at h1 h2
        exact ⟨ret_bool (by unfold lotB; rw [decide_eq_false H0.out, HC.out]; simp [h1, h2]), (Below.refl _ _).alloc (Nat.le_refl _) _⟩

set_option maxRecDepth 100000 in
set_option maxHeartbeats 4000000 in
theorem one_any (m : Mov) (w : World) (hl : LengthsAt w) : Calls Tryd.prog 28 #[m.v] w fun e w' => e = .returned (.int .i64 (oneM m)) ∧ Below w.heap.size w w' := by
  have hlw : LengthsAt (w.alloc (.cells #[.int .i64 m.seq, .int .i64 m.value, .string m.item, .int .i64 m.kind, .int .i64 m.qty, .int .i64 m.cost, .string m.lot, .int .i64 m.ref] 38)) := hl.below ((Below.refl _ _).alloc (Nat.le_refl _) _)
  have HL := Lib.hid hlw
  clear hl hlw
  go_enter Tryd.func28, Tryd.ntmps28
  go_wp2_with fail
  refine (isDay_any _ _ HL.out).mono ?_; rintro e w1 ⟨rfl, hb1⟩
  have B1 : Hid (Below w.heap.size w w1) := ((Below.refl _ _).alloc (Nat.le_refl _) _).trans (hb1.mono (by simp))
  obtain ⟨hc1, hf1⟩ := bcell hb1
  cases hd : (decide (0 ≤ m.value) && decide (m.value ≤ 109572)) with
  | false =>
    have HD : Hid (inB m.value 0 109572 = false) := hd
    clear hd
    go_wp2_with fail
    go_ret
    exact ⟨ret_int (by unfold oneM; rw [if_pos HD.out]), B1.out⟩
  | true =>
    have HD : Hid (inB m.value 0 109572 = true) := hd
    clear hd
    go_wp2_with fail
    refine (code_any _ _).mono ?_; rintro e w' ⟨rfl, rfl⟩
    cases hc : codeB m.item with
    | false =>
      have HC := Lib.hid hc; clear hc
      go_wp2_with fail
      go_ret
      exact ⟨ret_int (by unfold oneM; rw [if_neg (by rw [HD.out]; decide), if_pos HC.out]), B1.out⟩
    | true =>
      have HC := Lib.hid hc; clear hc
      go_wp2_with fail
      refine (in_any _ _ _ _).mono ?_; rintro e w' ⟨rfl, rfl⟩
      cases hk : inB m.kind 1 6 with
      | false =>
        have HK := Lib.hid hk; clear hk
        go_wp2_with fail
        go_ret
        exact ⟨ret_int (by unfold oneM; rw [if_neg (by rw [HD.out]; decide), if_neg (by rw [HC.out]; decide), if_pos HK.out]), B1.out⟩
      | true =>
        have HK := Lib.hid hk; clear hk
        have e0 : oneM m = if qtyB m = false ∨ costB m = false then 3 else if lotB m = false then 22 else if refBad m = true then 28 else 0 := by
          unfold oneM; rw [if_neg (by rw [HD.out]; decide), if_neg (by rw [HC.out]; decide), if_neg (by rw [HK.out]; decide)]
        have E0 := Lib.hid e0; clear e0 HD HC HK
        go_wp2_with fail
        refine (quantity_any m _).mono ?_; rintro e w2 ⟨rfl, hb2⟩
        have B2 : Hid (Below w.heap.size w w2) := B1.out.trans (hb2.mono B1.out.size)
        have hz1 : w.heap.size < w1.heap.size := by have := hb1.size; simp at this; omega
        obtain ⟨hc2, hf2⟩ := bcell hb2
        cases hq : qtyB m with
        | false =>
          have HQ := Lib.hid hq; clear hq
          go_wp2_with fail
          go_ret
          exact ⟨ret_int (by rw [E0.out, if_pos (Or.inl HQ.out)]), B2.out⟩
        | true =>
          have HQ := Lib.hid hq; clear hq
          go_wp2_with fail
          refine (cost_any m _).mono ?_; rintro e w3 ⟨rfl, hb3⟩
          have B3 : Hid (Below w.heap.size w w3) := B2.out.trans (hb3.mono B2.out.size)
          have hz2 : w.heap.size < w2.heap.size := by have := hb2.size; omega
          obtain ⟨hc3, hf3⟩ := bcell hb3
          cases hco : costB m with
          | false =>
            have HCO := Lib.hid hco; clear hco
            go_wp2_with fail
            go_ret
            exact ⟨ret_int (by rw [E0.out, if_pos (Or.inr HCO.out)]), B3.out⟩
          | true =>
            have HCO := Lib.hid hco; clear hco
            go_wp2_with fail
            refine (lot_any m _).mono ?_; rintro e w4 ⟨rfl, hb4⟩
            have B4 : Hid (Below w.heap.size w w4) := B3.out.trans (hb4.mono B3.out.size)
            have hz3 : w.heap.size < w3.heap.size := by have := hb3.size; omega
            obtain ⟨hc4, hf4⟩ := bcell hb4
            cases hlo : lotB m with
            | false =>
              have HLO := Lib.hid hlo; clear hlo
              go_wp2_with fail
              go_ret
              exact ⟨ret_int (by rw [E0.out, if_neg (by rw [HQ.out, HCO.out]; decide), if_pos HLO.out]), B4.out⟩
            | true =>
              have HLO := Lib.hid hlo; clear hlo
              have e1 : oneM m = if refBad m = true then 28 else 0 := by rw [E0.out, if_neg (by rw [HQ.out, HCO.out]; decide), if_neg (by rw [HLO.out]; decide)]
              have E1 := Lib.hid e1; clear e1 E0 HQ HCO HLO
              go_wp2_with fail
              refine (refers_any _ _).mono ?_; rintro e w' ⟨rfl, rfl⟩
              cases hr : refersB m.kind with
              | true =>
                have HR := Lib.hid hr; clear hr
                by_cases hrf : m.ref < 1
                · have hr' : decide (m.ref < 1) = true := by simpa using hrf
                  go_wp2_with fail
                  go_ret
                  exact ⟨ret_int (by rw [E1.out, if_pos (by unfold refBad; rw [if_pos HR.out]; simpa using hrf)]), B4.out⟩
                · have hr' : decide (m.ref < 1) = false := by simpa using hrf
                  go_wp2_with fail
                  refine (refers_any _ _).mono ?_; rintro e w' ⟨rfl, rfl⟩
                  rw [HR.out]
                  go_wp2_with fail
                  go_ret
                  exact ⟨ret_int (by rw [E1.out, if_neg (by unfold refBad; rw [if_pos HR.out]; simp; omega)]), B4.out⟩
              | false =>
                have HR := Lib.hid hr; clear hr
                by_cases hrf : m.ref = 0
                · have hr' : (m.ref != 0) = false := by simpa using hrf
                  have HF := Lib.hid hrf; clear hrf
                  go_wp2_with fail
                  refine (refers_any _ _).mono ?_; rintro e w' ⟨rfl, rfl⟩
                  rw [HR.out]
                  go_wp2_with fail
                  go_ret
                  exact ⟨ret_int (by rw [E1.out, if_neg (by unfold refBad; rw [if_neg (by rw [HR.out]; decide), HF.out]; decide)]), B4.out⟩
                · have hr' : (m.ref != 0) = true := by simpa using hrf
                  go_wp2_with fail
                  refine (refers_any _ _).mono ?_; rintro e w' ⟨rfl, rfl⟩
                  rw [HR.out]
                  go_wp2_with fail
                  go_ret
                  exact ⟨ret_int (by rw [E1.out, if_pos (by unfold refBad; rw [if_neg (by rw [HR.out]; decide)]; simpa using hrf)]), B4.out⟩
end Go.Proofs.YtboiipkbhbbgfaaDoor
