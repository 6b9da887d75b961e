/- The walk of unused: a number that is not in the past. -/
import Derived.Test.YtboiipkbhbbgfaaDoorJ1
namespace Go.Proofs.YtboiipkbhbbgfaaDoor
open Go.RowKit

structure UnusedR (w : World) (cells : Array Value) (ps : List Pst) (k : Nat) (wr : World) : Prop where
  bel : Below w.heap.size w wr
  blk : Blk wr w.heap.size 32 cells
  free : freeM ps (ps.length + 1 - k) k = unusedM ps

theorem free_known {ps : List Pst} {k : Nat} (hk : k ≤ ps.length) (h : knownM ps k = true) : freeM ps (ps.length + 1 - k) k = freeM ps (ps.length + 1 - (k + 1)) (k + 1) := by
  rw [show ps.length + 1 - k = (ps.length + 1 - (k + 1)) + 1 by omega, freeM, if_pos h]
theorem free_new {ps : List Pst} {k : Nat} (hk : k ≤ ps.length) (h : knownM ps k = false) : freeM ps (ps.length + 1 - k) k = k := by
  rw [show ps.length + 1 - k = (ps.length + 1 - (k + 1)) + 1 by omega, freeM, if_neg (by simp [h])]

set_option maxRecDepth 100000 in
set_option maxHeartbeats 4000000 in
theorem unused_any (q v p : Int) (bl : Option Addr) (nl cl : Nat) (bp : Option Addr) (cp : Nat) (ps : List Pst) (w : World) (hp : OwnP w 0 (.slice bp ps.length cp) ps) (hn : ps.length ≤ 900) :
    Calls Tryd.prog 19 #[.agg #[.int .i64 q, .int .i64 v, .int .i64 p, .slice bl nl cl, .slice bp ps.length cp]] w fun e w' => e = .returned (.int .i64 (unusedM ps)) ∧ Below w.heap.size w w' := by
  have hf := fun sq w' h => known_any q v p bl nl cl bp cp ps sq w' h (by omega)
  have HP := Lib.hid hp; clear hp
  have hR0 : UnusedR w #[.int .i64 q, .int .i64 v, .int .i64 p, .slice bl nl cl, .slice bp ps.length cp] ps 1 (w.alloc (.cells #[.int .i64 q, .int .i64 v, .int .i64 p, .slice bl nl cl, .slice bp ps.length cp] 32)) :=
    ⟨(Below.refl _ _).alloc (Nat.le_refl _) _, Blk.new _ _ _, rfl⟩
  have HR0 := Lib.hid hR0; clear hR0
  go_enter Tryd.func19, Tryd.ntmps19
  go_wp2_with fail
  go_loopg [3] (ps.length + 1) (fun g i wr => ∃ k : Nat, i = .int .i64 k ∧ 1 ≤ k ∧ k ≤ ps.length + 1 ∧ g = ps.length + 1 + 1 - k ∧ UnusedR w #[.int .i64 q, .int .i64 v, .int .i64 p, .slice bl nl cl, .slice bp ps.length cp] ps k wr)
  case atStart => exact ⟨1, rfl, Nat.le_refl _, by omega, by omega, HR0.out⟩
  case round =>
    obtain ⟨k, rfl, hk1, hk2, hgk, hbel, hblk, hfree⟩ := hrel
    have b0 : wr.cell? ⟨w.heap.size, 0, none⟩ = some (.int .i64 q) := by rw [hblk.cell]; rfl
    have b1 : wr.cell? ⟨w.heap.size, 1, none⟩ = some (.int .i64 v) := by rw [hblk.cell]; rfl
    have b2 : wr.cell? ⟨w.heap.size, 2, none⟩ = some (.int .i64 p) := by rw [hblk.cell]; rfl
    have b3 : wr.cell? ⟨w.heap.size, 3, none⟩ = some (.slice bl nl cl) := by rw [hblk.cell]; rfl
    have b4 : wr.cell? ⟨w.heap.size, 4, none⟩ = some (.slice bp ps.length cp) := by rw [hblk.cell]; rfl
    have HBEL := Lib.hid hbel; have HBLK := Lib.hid hblk; have HFR := Lib.hid hfree; have HGK := Lib.hid hgk; clear hbel hblk hfree hgk
    by_cases hle : k ≤ ps.length
    · have t1 : decide ((k : Int) ≤ (ps.length : Int)) = true := by simp; omega
      go_wp2_with fail
      refine (hf (k : Int) _ (HP.out.below' HBEL.out)).mono ?_
      rintro e w1 ⟨rfl, hb1⟩
      have hbw := HBEL.out.trans (hb1.mono HBEL.out.size)
      have hblk1 := HBLK.out.below' hb1
      have HBW := Lib.hid hbw; have HBLK1 := Lib.hid hblk1; clear hbw hblk1 hb1
      by_cases hkn : knownM ps k = true
      · have HFK := Lib.hid (free_known hle hkn)
        go_wp2_with fail
        go_roundg (ps.length + 1 + 1 - (k + 1))
        case measure => rw [HGK.out]; omega
        case rel => exact ⟨k + 1, by go_num, by omega, by omega, rfl, HBW.out, HBLK1.out, by rw [← HFK.out]; exact HFR.out⟩
      · have hkn' : knownM ps k = false := by simpa using hkn
        have HFK := Lib.hid (free_new hle hkn'); clear hkn
        go_wp2_with fail
        go_ret
        exact ⟨by rw [← HFR.out, HFK.out]; rfl, HBW.out⟩
    · have t1 : decide ((k : Int) ≤ (ps.length : Int)) = false := by simp; omega
      have hk : k = ps.length + 1 := by omega
      subst hk
      go_wp2_with fail
      go_ret
      have h0 := HFR.out
      rw [show ps.length + 1 - (ps.length + 1) = 0 by omega, freeM] at h0
      exact ⟨by rw [← h0]; rfl, HBEL.out⟩
end Go.Proofs.YtboiipkbhbbgfaaDoor
