/- The notation of an amount of the example of the chapter on money, walked: num.Text, Text. -/
import Derived.Test.YtboiipkbhbbgfaaDoorS2
namespace Go.Proofs.YtboiipkbhbbgfaaDoor
open Go.RowKit

theorem conv_bytes (w : World) (b o n c : Nat) (ns : List Int) (hn : ns.length = n) (hc : ∀ j v, (ns.map (Value.int .u8))[j]? = some v → w.cell? ((⟨b, o, none⟩ : Addr).add j) = some v) :
    (convert 95 9 (.slice (some ⟨b, o, none⟩) n c)).run Tryd.prog w = .ok (.string (ns.foldl (fun r n => r.push (UInt8.ofNat n.toNat)) ByteArray.empty)) w := by
  subst hn
  rw [run_convert_bytes_string w 95 9 5 _ _ _ Tryd.underlying95 Tryd.underlying5 Tryd.underlying9]
  refine run_bytesToString w _ _ _ ns ?_
  have := run_loadCells_list (P := Tryd.prog) (w := w) ⟨b, o, none⟩ (ns.map (Value.int .u8)) hc
  simpa using this

theorem conv_new (w : World) (cs : List Value) (o n c : Nat) (ns : List Int) (s : ByteArray) (hn : ns.length = n) (hs : ns.foldl (fun r n => r.push (UInt8.ofNat n.toNat)) ByteArray.empty = s) (hc : cs.drop o = ns.map (Value.int .u8)) :
    (convert 95 9 (.slice (some ⟨w.heap.size, o, none⟩) n c)).run Tryd.prog (w.alloc (.cells cs.toArray 94)) = .ok (.string s) (w.alloc (.cells cs.toArray 94)) := by
  subst hs
  refine conv_bytes _ _ _ _ _ ns hn ?_
  intro j v hv
  rw [← hc, List.getElem?_drop] at hv
  have : (⟨w.heap.size, o, none⟩ : Addr).add j = ⟨w.heap.size, o + j, none⟩ := by simp [Addr.add]
  rw [this]
  simpa using hv

set_option maxHeartbeats 400000 in
theorem size_pos (n : Int) (w : World) (h : 0 ≤ n) (h1 : n ≤ 9223372036854775807) : Calls Tryd.prog 73 #[.int .i64 n] w fun e w' => e = .returned (.int .u64 n) ∧ w = w' := by
  go_enter Tryd.func73, Tryd.ntmps73
  go_wp2
  go_ret
  exact ⟨rfl, rfl⟩

set_option maxRecDepth 100000 in
set_option maxHeartbeats 2000000 in
theorem text_0 (w : World) : Calls Tryd.prog 46 #[.int .i64 0] w fun e w' => e = .returned (.string ⟨#[48]⟩) ∧ Below w.heap.size w w' := by
  have hcv := conv_new w (List.replicate 19 (.int .u8 0) ++ [.int .u8 48]) 19 1 1 [48] ⟨#[48]⟩ rfl rfl rfl
  simp only [List.replicate, List.cons_append, List.nil_append] at hcv
  go_enter Tryd.func46, Tryd.ntmps46
  go_wp2_with (go_at_call 73; refine (size_pos _ _ (by decide) (by decide)).mono ?_; rintro e w' ⟨rfl, rfl⟩)
  refine wp_loop_rounds 1 ?_
  rw [rounds_succ]
  go_wp2
  go_ret
  exact ⟨rfl, (Below.refl _ _).alloc (Nat.le_refl _) _⟩

set_option maxRecDepth 100000 in
set_option maxHeartbeats 2000000 in
theorem text_105 (w : World) : Calls Tryd.prog 46 #[.int .i64 105] w fun e w' => e = .returned (.string ⟨#[49, 48, 53]⟩) ∧ Below w.heap.size w w' := by
  have hcv := conv_new w (List.replicate 17 (.int .u8 0) ++ [.int .u8 49, .int .u8 48, .int .u8 53]) 17 3 3 [49, 48, 53] ⟨#[49, 48, 53]⟩ rfl rfl rfl
  simp only [List.replicate, List.cons_append, List.nil_append] at hcv
  go_enter Tryd.func46, Tryd.ntmps46
  go_wp2_with (go_at_call 73; refine (size_pos _ _ (by decide) (by decide)).mono ?_; rintro e w' ⟨rfl, rfl⟩)
  refine wp_loop_rounds 3 ?_
  rw [rounds_succ]
  go_wp2
  rw [rounds_succ]
  go_wp2
  rw [rounds_succ]
  go_wp2
  go_ret
  exact ⟨rfl, (Below.refl _ _).alloc (Nat.le_refl _) _⟩

set_option maxRecDepth 100000 in
set_option maxHeartbeats 2000000 in
theorem mtext (w : World) (hp : w.cell? ⟨0, 2, none⟩ = some (.int .i64 100)) : Calls Tryd.prog 24 #[.int .i64 (-5), .int .i64 2] w fun e w' => e = .returned (.tuple #[.string ⟨#[45, 48, 46, 48, 53]⟩, .int .i64 0]) ∧ Below w.heap.size w w' := by
  have hf : fitsB 2 = true := rfl
  have hr : farB (-5) = false := rfl
  have HF := Lib.hid hf; clear hf
  have HR := Lib.hid hr; clear hr
  go_enter Tryd.func24, Tryd.ntmps24
  go_wp2_with fail
  refine (fits_any _ _).mono ?_; rintro e w' ⟨rfl, rfl⟩
  rw [HF.out]
  go_wp2_with fail
  refine (far_any _ _).mono ?_; rintro e w' ⟨rfl, rfl⟩
  rw [HR.out]
  go_wp2_with fail
  refine (text_0 _).mono ?_; rintro e w1 ⟨rfl, hb1⟩
  have hp1 : w1.cell? ⟨0, 2, none⟩ = some (.int .i64 100) := by rw [hb1.cell (World.block_lt_of_cell? w _ hp)]; exact hp
  go_wp2_with fail
  have hpr := cell_regrown hp1
  refine wp_region_quiet_below (by kernel_rfl) (by kernel_rfl) ?_
  repeat (quiet_step (exact Calls.regrown_of (text_105 _)))
  refine wpQuiet_nil ?_
  intro w2 hw'
  have hb2 : Below w1.heap.size w1 w2 := by obtain ⟨⟨dq, osq⟩, rfl⟩ := hw'; exact below_regrown w1 dq osq
  have hb3 : Below w.heap.size w w2 := hb1.trans (hb2.mono hb1.size)
  clear hw' hpr hb2
  go_wp2_with fail
  go_ret2
  exact ⟨rfl, hb3⟩
end Go.Proofs.YtboiipkbhbbgfaaDoor
