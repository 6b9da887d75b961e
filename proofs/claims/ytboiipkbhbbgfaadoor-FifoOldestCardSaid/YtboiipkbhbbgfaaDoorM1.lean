/- The walk of muldiv.divide: the long division of a number of two words. -/
import Derived.Test.YtboiipkbhbbgfaaDoorK
namespace Go.Proofs.YtboiipkbhbbgfaaDoor
open Go.RowKit


set_option maxHeartbeats 1000000 in
theorem divide_any (hi lo c : Int) (w : World) (hc : 1 ≤ c) (hc' : c ≤ 18446744073709551615) (h0 : 0 ≤ hi) (h1 : hi ≤ 18446744073709551615) (l0 : 0 ≤ lo) (l1 : lo ≤ 18446744073709551615) :
    Calls Tryd.prog 43 #[.agg #[.int .u64 hi, .int .u64 lo], .int .u64 c] w fun e w' => e = .returned (.tuple #[.agg #[.int .u64 (qv 0 hi c 64), .int .u64 (qv (rv 0 hi c 64) lo c 64)], .int .u64 (rv (rv 0 hi c 64) lo c 64)]) ∧ Below w.heap.size w w' := by
  have i0 : ∀ w, (Instr.index 71 (.agg #[.int .u64 hi, .int .u64 lo]) (.int .i64 0)).run Tryd.prog w = .ok (.int .u64 hi) w := fun _ => by kernel_rfl
  have i1 : ∀ w, (Instr.index 71 (.agg #[.int .u64 hi, .int .u64 lo]) (.int .i64 1)).run Tryd.prog w = .ok (.int .u64 lo) w := fun _ => by kernel_rfl
  have R1 := rv_bd 0 hi c 64 hc
  obtain ⟨ra, rb⟩ := R1
  go_enter Tryd.func43, Tryd.ntmps43
  go_wp2
  go_step3
  go_wp2
  go_step3
  go_wp2
  go_loopg [5, 11] 2 (fun g r i wr => (g = 2 ∧ i = .int .i64 0 ∧ r = .int .u64 0 ∧ wr = (w.alloc (Obj.cells #[.int .u64 hi, .int .u64 lo] 71)).alloc (Obj.cells #[.int .u64 0, .int .u64 0] 71)) ∨ (g = 1 ∧ i = .int .i64 1 ∧ r = .int .u64 (rv 0 hi c 64) ∧ wr = (w.alloc (Obj.cells #[.int .u64 hi, .int .u64 lo] 71)).alloc (Obj.cells #[.int .u64 (qv 0 hi c 64), .int .u64 0] 71)) ∨ (g = 0 ∧ i = .int .i64 2 ∧ r = .int .u64 (rv (rv 0 hi c 64) lo c 64) ∧ wr = (w.alloc (Obj.cells #[.int .u64 hi, .int .u64 lo] 71)).alloc (Obj.cells #[.int .u64 (qv 0 hi c 64), .int .u64 (qv (rv 0 hi c 64) lo c 64)] 71)))
  case atStart => exact Or.inl ⟨rfl, rfl, rfl, rfl⟩
  case round =>
    rcases hrel with ⟨rfl, rfl, rfl, rfl⟩ | ⟨rfl, rfl, rfl, rfl⟩ | ⟨rfl, rfl, rfl, rfl⟩
    · go_wp2
      go_loopg [5, 8] 64 (fun g r b wr => ∃ k : Nat, k + g = 64 ∧ k ≤ 64 ∧ b = .int .i64 (63 - k) ∧ r = .int .u64 (rv 0 hi c k) ∧ wr = (w.alloc (Obj.cells #[.int .u64 hi, .int .u64 lo] 71)).alloc (Obj.cells #[.int .u64 (qv 0 hi c k), .int .u64 0] 71))
      case atStart => exact ⟨0, rfl, by omega, rfl, by rw [rv_zero 0 hi c h0 h1 (by omega) (by omega)], by rw [qv_zero 0 hi c h0 h1 (by omega) (by omega)]⟩
      case round =>
        obtain ⟨k, hk, hk', rfl, rfl, rfl⟩ := hrel
        obtain ⟨ka, kb⟩ := rv_bd 0 hi c k hc
        by_cases hlt : k ≤ 63
        · have B0 := bit_step 0 hi c k hc hc' (by omega) (by omega) h0 h1 hlt
          have B := Lib.hid B0
          clear B0
          have D0 := bit_skip 0 hi c k hc (by omega) (by omega) h0 h1 hlt
          have D := Lib.hid D0
          clear D0
          go_wp2
          · have hz : rv 0 hi c k = 0 := by assumption
            have hs : (IntKind.u64.wrap (hi * 2 ^ (63 - (63 - k))) == 0) = true := by assumption
            rw [show 63 - (63 - k) = k from by omega] at hs
            obtain ⟨d1, d2⟩ := D.out hz (by simpa using hs)
            go_roundg 1
            case measure => omega
            case rel => exact Or.inr (Or.inl ⟨rfl, rfl, by rw [d1], by rw [show 63 - k + 1 = 64 - k from by omega, d2]⟩)
          · have hz : rv 0 hi c k = 0 := by assumption
            have hz2 : IntKind.u64.wrap (rv 0 hi c k * 2) = 0 := by rw [hz, u64_wrap]; rfl
            obtain ⟨b1, b2⟩ := (B.out _ (by rw [hz2])).1 (Or.inr (by assumption))
            go_roundg (63 - k)
            case measure => omega
            case rel => exact ⟨k + 1, by omega, by omega, congrArg (Value.int .i64) (by omega), by rw [b1], by rw [b2]⟩
          · have hz : rv 0 hi c k = 0 := by assumption
            have hz2 : IntKind.u64.wrap (rv 0 hi c k * 2) = 0 := by rw [hz, u64_wrap]; rfl
            obtain ⟨b1, b2⟩ := (B.out _ (by rw [hz2])).2 (by rw [hz]; decide) (by assumption)
            go_roundg (63 - k)
            case measure => omega
            case rel => exact ⟨k + 1, by omega, by omega, congrArg (Value.int .i64) (by omega), by rw [b1], by rw [b2]⟩
          · obtain ⟨b1, b2⟩ := (B.out _ rfl).1 (Or.inl (by assumption))
            go_roundg (63 - k)
            case measure => omega
            case rel => exact ⟨k + 1, by omega, by omega, congrArg (Value.int .i64) (by omega), by rw [b1], by rw [b2]⟩
          · rename_i hor
            have hw : IntKind.u64.wrap (rv 0 hi c k * 2) = rv 0 hi c k * 2 := by rw [u64_wrap]; omega
            obtain ⟨b1, b2⟩ := (B.out _ (by rw [hw])).1 (by simpa using hor)
            go_roundg (63 - k)
            case measure => omega
            case rel => exact ⟨k + 1, by omega, by omega, congrArg (Value.int .i64) (by omega), by rw [b1], by rw [b2]⟩
          · rename_i hor
            have hw : IntKind.u64.wrap (rv 0 hi c k * 2) = rv 0 hi c k * 2 := by rw [u64_wrap]; omega
            obtain ⟨b1, b2⟩ := (B.out _ (by rw [hw])).2 (by assumption) hor.2
            go_roundg (63 - k)
            case measure => omega
            case rel => exact ⟨k + 1, by omega, by omega, congrArg (Value.int .i64) (by omega), by rw [b1], by rw [b2]⟩
        · obtain rfl : k = 64 := by omega
          go_wp2
          go_roundg 1
          case measure => omega
          case rel => exact Or.inr (Or.inl ⟨rfl, rfl, rfl, rfl⟩)
    · go_wp2
      go_loopg [5, 8] 64 (fun g r b wr => ∃ k : Nat, k + g = 64 ∧ k ≤ 64 ∧ b = .int .i64 (63 - k) ∧ r = .int .u64 (rv (rv 0 hi c 64) lo c k) ∧ wr = (w.alloc (Obj.cells #[.int .u64 hi, .int .u64 lo] 71)).alloc (Obj.cells #[.int .u64 (qv 0 hi c 64), .int .u64 (qv (rv 0 hi c 64) lo c k)] 71))
      case atStart => exact ⟨0, rfl, by omega, rfl, by rw [rv_zero (rv 0 hi c 64) lo c l0 l1 ra rb], by rw [qv_zero (rv 0 hi c 64) lo c l0 l1 ra rb]⟩
      case round =>
        obtain ⟨k, hk, hk', rfl, rfl, rfl⟩ := hrel
        obtain ⟨ka, kb⟩ := rv_bd (rv 0 hi c 64) lo c k hc
        by_cases hlt : k ≤ 63
        · have B0 := bit_step (rv 0 hi c 64) lo c k hc hc' ra rb l0 l1 hlt
          have B := Lib.hid B0
          clear B0
          have D0 := bit_skip (rv 0 hi c 64) lo c k hc ra rb l0 l1 hlt
          have D := Lib.hid D0
          clear D0
          go_wp2
          · have hz : rv (rv 0 hi c 64) lo c k = 0 := by assumption
            have hs : (IntKind.u64.wrap (lo * 2 ^ (63 - (63 - k))) == 0) = true := by assumption
            rw [show 63 - (63 - k) = k from by omega] at hs
            obtain ⟨d1, d2⟩ := D.out hz (by simpa using hs)
            go_roundg 0
            case measure => omega
            case rel => exact Or.inr (Or.inr ⟨rfl, rfl, by rw [d1], by rw [show 63 - k + 1 = 64 - k from by omega, d2]⟩)
          · have hz : rv (rv 0 hi c 64) lo c k = 0 := by assumption
            have hz2 : IntKind.u64.wrap (rv (rv 0 hi c 64) lo c k * 2) = 0 := by rw [hz, u64_wrap]; rfl
            obtain ⟨b1, b2⟩ := (B.out _ (by rw [hz2])).1 (Or.inr (by assumption))
            go_roundg (63 - k)
            case measure => omega
            case rel => exact ⟨k + 1, by omega, by omega, congrArg (Value.int .i64) (by omega), by rw [b1], by rw [b2]⟩
          · have hz : rv (rv 0 hi c 64) lo c k = 0 := by assumption
            have hz2 : IntKind.u64.wrap (rv (rv 0 hi c 64) lo c k * 2) = 0 := by rw [hz, u64_wrap]; rfl
            obtain ⟨b1, b2⟩ := (B.out _ (by rw [hz2])).2 (by rw [hz]; decide) (by assumption)
            go_roundg (63 - k)
            case measure => omega
            case rel => exact ⟨k + 1, by omega, by omega, congrArg (Value.int .i64) (by omega), by rw [b1], by rw [b2]⟩
          · obtain ⟨b1, b2⟩ := (B.out _ rfl).1 (Or.inl (by assumption))
            go_roundg (63 - k)
            case measure => omega
            case rel => exact ⟨k + 1, by omega, by omega, congrArg (Value.int .i64) (by omega), by rw [b1], by rw [b2]⟩
          · rename_i hor
            have hw : IntKind.u64.wrap (rv (rv 0 hi c 64) lo c k * 2) = rv (rv 0 hi c 64) lo c k * 2 := by rw [u64_wrap]; omega
            obtain ⟨b1, b2⟩ := (B.out _ (by rw [hw])).1 (by simpa using hor)
            go_roundg (63 - k)
            case measure => omega
            case rel => exact ⟨k + 1, by omega, by omega, congrArg (Value.int .i64) (by omega), by rw [b1], by rw [b2]⟩
          · rename_i hor
            have hw : IntKind.u64.wrap (rv (rv 0 hi c 64) lo c k * 2) = rv (rv 0 hi c 64) lo c k * 2 := by rw [u64_wrap]; omega
            obtain ⟨b1, b2⟩ := (B.out _ (by rw [hw])).2 (by assumption) hor.2
            go_roundg (63 - k)
            case measure => omega
            case rel => exact ⟨k + 1, by omega, by omega, congrArg (Value.int .i64) (by omega), by rw [b1], by rw [b2]⟩
        · obtain rfl : k = 64 := by omega
          go_wp2
          go_roundg 0
          case measure => omega
          case rel => exact Or.inr (Or.inr ⟨rfl, rfl, rfl, rfl⟩)
    · go_wp2
      rw [Exit.noGoto_ret]
      exact bodyPost_ret (v := .tuple #[.agg #[.int .u64 (qv 0 hi c 64), .int .u64 (qv (rv 0 hi c 64) lo c 64)], .int .u64 (rv (rv 0 hi c 64) lo c 64)]) (by simp [results, Tryd.results43, go_sem]) rfl ⟨rfl, ((Below.refl _ _).alloc (Nat.le_refl _) _).alloc (by simp) _⟩
end Go.Proofs.YtboiipkbhbbgfaaDoor
