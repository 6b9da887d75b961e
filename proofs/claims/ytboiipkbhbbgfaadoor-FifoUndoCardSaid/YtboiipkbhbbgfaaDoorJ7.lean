/- FifoUndo returns true for every list of movements and every two quantities. Condition: the table of the months' lengths stands as the program's text lays it. -/
import Derived.Test.YtboiipkbhbbgfaaDoorJ6
namespace Go.Proofs.YtboiipkbhbbgfaaDoor
open Go.RowKit

set_option maxRecDepth 100000 in
set_option maxHeartbeats 8000000 in
theorem undo_walk (ms : List Mov) (v0 : Value) (q part : Int) (w : World) (hm : Rd w 8 v0 ms.length (movsC ms)) (hmm : ms.length ≤ maxLen) (hok : ∀ m ∈ ms, MovOk m) (hq : -9223372036854775808 ≤ q ∧ q ≤ 9223372036854775807) (hpart : -9223372036854775808 ≤ part ∧ part ≤ 9223372036854775807) (hlen : LengthsAt w) :
    Calls Tryd.prog 8 #[v0, .int .i64 q, .int .i64 part] w fun e w' => e = .returned (.bool true) ∧ Below w.heap.size w w' := by
  obtain ⟨bv, cv, rfl⟩ := hm.form
  obtain ⟨hn1, hn2, hgood⟩ := play_len ms (min ms.length 60) (Nat.min_le_left _ _)
  have hpl := play_any ms bv cv w hm hmm hok hlen
  have hn1' : (playK ms (min ms.length 60)).lays.length ≤ 60 := by omega
  have hn2' : (playK ms (min ms.length 60)).psts.length ≤ 60 := by omega
  generalize playK ms (min ms.length 60) = s at *
  have HLE := Lib.hid hlen; have HG := Lib.hid hgood; clear hm hok hlen hn1 hn2
  by_cases h1 : q < 2
  · have t1 : decide (q < 2) = true := by simpa using h1
    go_enter Tryd.func8, Tryd.ntmps8
    go_wp2_with fail
    refine hpl.mono ?_
    rintro e w1 ⟨bl0, cl0, bp0, cp0, rfl, hb1, hol1, hop1⟩
    clear hpl
    go_wp2_with fail
    have hblk : Blk (w1.alloc (.cells #[.int .i64 s.qty, .int .i64 s.val, .int .i64 s.price, .slice bl0 s.lays.length cl0, .slice bp0 s.psts.length cp0] 32)) w1.heap.size 32 #[.int .i64 s.qty, .int .i64 s.val, .int .i64 s.price, .slice bl0 s.lays.length cl0, .slice bp0 s.psts.length cp0] := Blk.new _ _ _
    have hA : Below w1.heap.size w1 (w1.alloc (.cells #[.int .i64 s.qty, .int .i64 s.val, .int .i64 s.price, .slice bl0 s.lays.length cl0, .slice bp0 s.psts.length cp0] 32)) := (Below.refl _ _).alloc (Nat.le_refl _) _
    generalize w1.alloc (.cells #[.int .i64 s.qty, .int .i64 s.val, .int .i64 s.price, .slice bl0 s.lays.length cl0, .slice bp0 s.psts.length cp0] 32) = W1 at *
    have HOL1 := Lib.hid (hol1.below' hA); have HOP1 := Lib.hid (hop1.below' hA)
    have HBW := Lib.hid (hb1.trans (hA.mono hb1.size)); clear hb1 hA hol1 hop1
    generalize w1.heap.size = b5 at *
    have k0 : W1.cell? ⟨b5, 0, none⟩ = some (.int .i64 s.qty) := by rw [hblk.cell]; rfl
    have k1 : W1.cell? ⟨b5, 1, none⟩ = some (.int .i64 s.val) := by rw [hblk.cell]; rfl
    have k2 : W1.cell? ⟨b5, 2, none⟩ = some (.int .i64 s.price) := by rw [hblk.cell]; rfl
    have k3 : W1.cell? ⟨b5, 3, none⟩ = some (.slice bl0 s.lays.length cl0) := by rw [hblk.cell]; rfl
    have k4 : W1.cell? ⟨b5, 4, none⟩ = some (.slice bp0 s.psts.length cp0) := by rw [hblk.cell]; rfl
    have HK1 := Lib.hid hblk; clear hblk
    refine (lives_any _ (HLE.out.below HBW.out)).mono ?_
    rintro e w2 ⟨rfl, hb2⟩
    have HB2 := Lib.hid (HBW.out.trans (hb2.mono HBW.out.size)); clear hb2
    go_wp2_with fail
    go_ret
    exact ⟨rfl, HB2.out⟩

  have t1 : decide (q < 2) = false := by simpa using h1
  by_cases h2 : s.qty < q
  · have t2 : decide (s.qty < q) = true := by simpa using h2
    go_enter Tryd.func8, Tryd.ntmps8
    go_wp2_with fail
    refine hpl.mono ?_
    rintro e w1 ⟨bl0, cl0, bp0, cp0, rfl, hb1, hol1, hop1⟩
    clear hpl
    go_wp2_with fail
    have hblk : Blk (w1.alloc (.cells #[.int .i64 s.qty, .int .i64 s.val, .int .i64 s.price, .slice bl0 s.lays.length cl0, .slice bp0 s.psts.length cp0] 32)) w1.heap.size 32 #[.int .i64 s.qty, .int .i64 s.val, .int .i64 s.price, .slice bl0 s.lays.length cl0, .slice bp0 s.psts.length cp0] := Blk.new _ _ _
    have hA : Below w1.heap.size w1 (w1.alloc (.cells #[.int .i64 s.qty, .int .i64 s.val, .int .i64 s.price, .slice bl0 s.lays.length cl0, .slice bp0 s.psts.length cp0] 32)) := (Below.refl _ _).alloc (Nat.le_refl _) _
    generalize w1.alloc (.cells #[.int .i64 s.qty, .int .i64 s.val, .int .i64 s.price, .slice bl0 s.lays.length cl0, .slice bp0 s.psts.length cp0] 32) = W1 at *
    have HOL1 := Lib.hid (hol1.below' hA); have HOP1 := Lib.hid (hop1.below' hA)
    have HBW := Lib.hid (hb1.trans (hA.mono hb1.size)); clear hb1 hA hol1 hop1
    generalize w1.heap.size = b5 at *
    have k0 : W1.cell? ⟨b5, 0, none⟩ = some (.int .i64 s.qty) := by rw [hblk.cell]; rfl
    have k1 : W1.cell? ⟨b5, 1, none⟩ = some (.int .i64 s.val) := by rw [hblk.cell]; rfl
    have k2 : W1.cell? ⟨b5, 2, none⟩ = some (.int .i64 s.price) := by rw [hblk.cell]; rfl
    have k3 : W1.cell? ⟨b5, 3, none⟩ = some (.slice bl0 s.lays.length cl0) := by rw [hblk.cell]; rfl
    have k4 : W1.cell? ⟨b5, 4, none⟩ = some (.slice bp0 s.psts.length cp0) := by rw [hblk.cell]; rfl
    have HK1 := Lib.hid hblk; clear hblk
    refine (lives_any _ (HLE.out.below HBW.out)).mono ?_
    rintro e w2 ⟨rfl, hb2⟩
    have HB2 := Lib.hid (HBW.out.trans (hb2.mono HBW.out.size)); clear hb2
    go_wp2_with fail
    go_ret
    exact ⟨rfl, HB2.out⟩

  have t2 : decide (s.qty < q) = false := by simpa using h2
  by_cases h3 : part < 1
  · have t3 : decide (part < 1) = true := by simpa using h3
    go_enter Tryd.func8, Tryd.ntmps8
    go_wp2_with fail
    refine hpl.mono ?_
    rintro e w1 ⟨bl0, cl0, bp0, cp0, rfl, hb1, hol1, hop1⟩
    clear hpl
    go_wp2_with fail
    have hblk : Blk (w1.alloc (.cells #[.int .i64 s.qty, .int .i64 s.val, .int .i64 s.price, .slice bl0 s.lays.length cl0, .slice bp0 s.psts.length cp0] 32)) w1.heap.size 32 #[.int .i64 s.qty, .int .i64 s.val, .int .i64 s.price, .slice bl0 s.lays.length cl0, .slice bp0 s.psts.length cp0] := Blk.new _ _ _
    have hA : Below w1.heap.size w1 (w1.alloc (.cells #[.int .i64 s.qty, .int .i64 s.val, .int .i64 s.price, .slice bl0 s.lays.length cl0, .slice bp0 s.psts.length cp0] 32)) := (Below.refl _ _).alloc (Nat.le_refl _) _
    generalize w1.alloc (.cells #[.int .i64 s.qty, .int .i64 s.val, .int .i64 s.price, .slice bl0 s.lays.length cl0, .slice bp0 s.psts.length cp0] 32) = W1 at *
    have HOL1 := Lib.hid (hol1.below' hA); have HOP1 := Lib.hid (hop1.below' hA)
    have HBW := Lib.hid (hb1.trans (hA.mono hb1.size)); clear hb1 hA hol1 hop1
    generalize w1.heap.size = b5 at *
    have k0 : W1.cell? ⟨b5, 0, none⟩ = some (.int .i64 s.qty) := by rw [hblk.cell]; rfl
    have k1 : W1.cell? ⟨b5, 1, none⟩ = some (.int .i64 s.val) := by rw [hblk.cell]; rfl
    have k2 : W1.cell? ⟨b5, 2, none⟩ = some (.int .i64 s.price) := by rw [hblk.cell]; rfl
    have k3 : W1.cell? ⟨b5, 3, none⟩ = some (.slice bl0 s.lays.length cl0) := by rw [hblk.cell]; rfl
    have k4 : W1.cell? ⟨b5, 4, none⟩ = some (.slice bp0 s.psts.length cp0) := by rw [hblk.cell]; rfl
    have HK1 := Lib.hid hblk; clear hblk
    refine (lives_any _ (HLE.out.below HBW.out)).mono ?_
    rintro e w2 ⟨rfl, hb2⟩
    have HB2 := Lib.hid (HBW.out.trans (hb2.mono HBW.out.size)); clear hb2
    go_wp2_with fail
    go_ret
    exact ⟨rfl, HB2.out⟩

  have t3 : decide (part < 1) = false := by simpa using h3
  by_cases h4 : q ≤ part
  · have t4 : decide (q ≤ part) = true := by simpa using h4
    go_enter Tryd.func8, Tryd.ntmps8
    go_wp2_with fail
    refine hpl.mono ?_
    rintro e w1 ⟨bl0, cl0, bp0, cp0, rfl, hb1, hol1, hop1⟩
    clear hpl
    go_wp2_with fail
    have hblk : Blk (w1.alloc (.cells #[.int .i64 s.qty, .int .i64 s.val, .int .i64 s.price, .slice bl0 s.lays.length cl0, .slice bp0 s.psts.length cp0] 32)) w1.heap.size 32 #[.int .i64 s.qty, .int .i64 s.val, .int .i64 s.price, .slice bl0 s.lays.length cl0, .slice bp0 s.psts.length cp0] := Blk.new _ _ _
    have hA : Below w1.heap.size w1 (w1.alloc (.cells #[.int .i64 s.qty, .int .i64 s.val, .int .i64 s.price, .slice bl0 s.lays.length cl0, .slice bp0 s.psts.length cp0] 32)) := (Below.refl _ _).alloc (Nat.le_refl _) _
    generalize w1.alloc (.cells #[.int .i64 s.qty, .int .i64 s.val, .int .i64 s.price, .slice bl0 s.lays.length cl0, .slice bp0 s.psts.length cp0] 32) = W1 at *
    have HOL1 := Lib.hid (hol1.below' hA); have HOP1 := Lib.hid (hop1.below' hA)
    have HBW := Lib.hid (hb1.trans (hA.mono hb1.size)); clear hb1 hA hol1 hop1
    generalize w1.heap.size = b5 at *
    have k0 : W1.cell? ⟨b5, 0, none⟩ = some (.int .i64 s.qty) := by rw [hblk.cell]; rfl
    have k1 : W1.cell? ⟨b5, 1, none⟩ = some (.int .i64 s.val) := by rw [hblk.cell]; rfl
    have k2 : W1.cell? ⟨b5, 2, none⟩ = some (.int .i64 s.price) := by rw [hblk.cell]; rfl
    have k3 : W1.cell? ⟨b5, 3, none⟩ = some (.slice bl0 s.lays.length cl0) := by rw [hblk.cell]; rfl
    have k4 : W1.cell? ⟨b5, 4, none⟩ = some (.slice bp0 s.psts.length cp0) := by rw [hblk.cell]; rfl
    have HK1 := Lib.hid hblk; clear hblk
    refine (lives_any _ (HLE.out.below HBW.out)).mono ?_
    rintro e w2 ⟨rfl, hb2⟩
    have HB2 := Lib.hid (HBW.out.trans (hb2.mono HBW.out.size)); clear hb2
    go_wp2_with fail
    go_ret
    exact ⟨rfl, HB2.out⟩

  have t4 : decide (q ≤ part) = false := by simpa using h4
  · have hqb := HG.out.qb
    have hlaw := undo_law HG.out (q := q) (part := part) (by omega) (by omega) (by omega) (by omega) rfl rfl rfl rfl rfl rfl
    have hsub : IntKind.i64.wrap (q - part) = q - part := i64_id _ (by omega) (by omega)
    have hI1 : I64 q := i64_of (by omega) (by omega)
    have hI2 : I64 part := i64_of (by omega) (by omega)
    have hI3 : I64 (q - part) := i64_of (by omega) (by omega)
    have hI4 : I64 1 := i64_of (by omega) (by omega)
    generalize hn : unusedM s.psts = n at *
    have hl1 := step_lays_len s (issueMov n q)
    have hm1 := step_psts_len s (issueMov n q)
    have hst1 := fun bl cl bp cp W B h1 h2 h3 => step_q s (issueMov n q) bl cl bp cp W B h1 h2 (by omega) (by omega) HG.out hI1 (i64_small 0 (by decide) (by decide)) h3
    generalize hr1 : stepM s (issueMov n q) = r1 at *
    generalize hm : unusedM r1.stk.psts = m at *
    have hl2 := step_lays_len r1.stk (backMov m part n)
    have hm2 := step_psts_len r1.stk (backMov m part n)
    have hst2 := fun bl cl bp cp W B h1 h2 h3 => step_q r1.stk (backMov m part n) bl cl bp cp W B h1 h2 (by omega) (by omega) hlaw.2.2.2.2.2.2.1 hI2 (i64_small 0 (by decide) (by decide)) h3
    generalize hr2 : stepM r1.stk (backMov m part n) = r2 at *
    have hl3 := step_lays_len r2.stk (backMov m (q - part) n)
    have hm3 := step_psts_len r2.stk (backMov m (q - part) n)
    have hst3 := fun bl cl bp cp W B h1 h2 h3 => step_q r2.stk (backMov m (q - part) n) bl cl bp cp W B h1 h2 (by omega) (by omega) hlaw.2.2.2.2.2.2.2.1 hI3 (i64_small 0 (by decide) (by decide)) h3
    generalize hr3 : stepM r2.stk (backMov m (q - part) n) = r3 at *
    have hst4 := fun bl cl bp cp W B h1 h2 h3 => step_q r3.stk (backMov m 1 n) bl cl bp cp W B h1 h2 (by omega) (by omega) hlaw.2.2.2.2.2.2.2.2 hI4 (i64_small 0 (by decide) (by decide)) h3
    generalize hr4 : stepM r3.stk (backMov m 1 n) = r4 at *
    clear hr1 hr2 hr3 hr4 h1 h2 h3 h4
    obtain ⟨l1, l2, l3, l4, l5, l6, -, -, -⟩ := hlaw
    obtain ⟨er4, t4, c4⟩ := r4
    obtain ⟨er3, t3, c3⟩ := r3
    obtain ⟨er2, t2, c2⟩ := r2
    obtain ⟨er1, t1, c1⟩ := r1
    simp only at l1 l2 l3 l4 l5 l6 hst2 hst3 hst4 hl1 hl2 hl3 hm1 hm2 hm3
    subst l1 l2 l3 l6
    have L4 : (t3.qty == s.qty) = true := by simpa using l4
    have L5 : (t3.val == s.val) = true := by simpa using l5
    clear l4 l5 hI1 hI2 hI3 hI4
    have hp2 : t1.psts.length ≤ 900 := by omega
    have hq4 := hl1; clear hl1 hl2 hl3 hm2 hm3 hq4
    go_enter Tryd.func8, Tryd.ntmps8
    go_wp2_with fail
    refine hpl.mono ?_
    rintro e w1 ⟨bl0, cl0, bp0, cp0, rfl, hb1, hol1, hop1⟩
    clear hpl
    go_wp2_with fail
    have hblk : Blk (w1.alloc (.cells #[.int .i64 s.qty, .int .i64 s.val, .int .i64 s.price, .slice bl0 s.lays.length cl0, .slice bp0 s.psts.length cp0] 32)) w1.heap.size 32 #[.int .i64 s.qty, .int .i64 s.val, .int .i64 s.price, .slice bl0 s.lays.length cl0, .slice bp0 s.psts.length cp0] := Blk.new _ _ _
    have hA : Below w1.heap.size w1 (w1.alloc (.cells #[.int .i64 s.qty, .int .i64 s.val, .int .i64 s.price, .slice bl0 s.lays.length cl0, .slice bp0 s.psts.length cp0] 32)) := (Below.refl _ _).alloc (Nat.le_refl _) _
    generalize w1.alloc (.cells #[.int .i64 s.qty, .int .i64 s.val, .int .i64 s.price, .slice bl0 s.lays.length cl0, .slice bp0 s.psts.length cp0] 32) = W1 at *
    have HOL1 := Lib.hid (hol1.below' hA); have HOP1 := Lib.hid (hop1.below' hA)
    have HBW := Lib.hid (hb1.trans (hA.mono hb1.size)); clear hb1 hA hol1 hop1
    generalize w1.heap.size = b5 at *
    have k0 : W1.cell? ⟨b5, 0, none⟩ = some (.int .i64 s.qty) := by rw [hblk.cell]; rfl
    have k1 : W1.cell? ⟨b5, 1, none⟩ = some (.int .i64 s.val) := by rw [hblk.cell]; rfl
    have k2 : W1.cell? ⟨b5, 2, none⟩ = some (.int .i64 s.price) := by rw [hblk.cell]; rfl
    have k3 : W1.cell? ⟨b5, 3, none⟩ = some (.slice bl0 s.lays.length cl0) := by rw [hblk.cell]; rfl
    have k4 : W1.cell? ⟨b5, 4, none⟩ = some (.slice bp0 s.psts.length cp0) := by rw [hblk.cell]; rfl
    have HK1 := Lib.hid hblk; clear hblk
    refine (unused_any _ _ _ _ _ _ _ _ s.psts _ (HOP1.out.mono (Nat.zero_le _)) (by omega)).mono ?_
    rintro e w2 ⟨rfl, hb2⟩
    rw [hn]
    have hk := HK1.out.below' hb2
    have HOL2 := Lib.hid (HOL1.out.below' hb2); have HOP2 := Lib.hid (HOP1.out.below' hb2); have HBW2 := Lib.hid (HBW.out.trans (hb2.mono HBW.out.size))
    clear k0 k1 k2 k3 k4 hb2 HOL1 HOP1
    have k0 : w2.cell? ⟨b5, 0, none⟩ = some (.int .i64 s.qty) := by rw [hk.cell]; rfl
    have k1 : w2.cell? ⟨b5, 1, none⟩ = some (.int .i64 s.val) := by rw [hk.cell]; rfl
    have k2 : w2.cell? ⟨b5, 2, none⟩ = some (.int .i64 s.price) := by rw [hk.cell]; rfl
    have k3 : w2.cell? ⟨b5, 3, none⟩ = some (.slice bl0 s.lays.length cl0) := by rw [hk.cell]; rfl
    have k4 : w2.cell? ⟨b5, 4, none⟩ = some (.slice bp0 s.psts.length cp0) := by rw [hk.cell]; rfl
    have HK2 := Lib.hid hk; clear hk
    go_wp2_with fail
    refine (hst1 _ _ _ _ _ _ HOL2.out HOP2.out (HLE.out.below HBW2.out)).mono ?_
    rintro e w3 ⟨bl1, cl1, bp1, cp1, rfl, hb3, hol3, hop3⟩
    simp only at hol3 hop3
    have HK3 := Lib.hid (HK2.out.below' hb3); have HOL3 := Lib.hid hol3; have HOP3 := Lib.hid hop3; have HBW3 := Lib.hid (HBW2.out.trans (hb3.mono HBW2.out.size))
    clear k0 k1 k2 k3 k4 hb3 hol3 hop3 hst1
    go_wp2_with fail
    have hn' := two_new w3 #[.int .i64 t1.qty, .int .i64 t1.val, .int .i64 t1.price, .slice bl1 t1.lays.length cl1, .slice bp1 t1.psts.length cp1] #[.int .i64 c1.seq, .int .i64 c1.qty, .int .i64 c1.val, .int .i64 c1.var]
    generalize (w3.alloc (.cells #[.int .i64 t1.qty, .int .i64 t1.val, .int .i64 t1.price, .slice bl1 t1.lays.length cl1, .slice bp1 t1.psts.length cp1] 32)).alloc (.cells #[.int .i64 c1.seq, .int .i64 c1.qty, .int .i64 c1.val, .int .i64 c1.var] 34) = W3 at *
    obtain ⟨hbW, hT, -⟩ := hn'
    have HK4 := Lib.hid (HK3.out.below' hbW)
    have HOL4 := Lib.hid (HOL3.out.below' hbW); have HOP4 := Lib.hid (HOP3.out.below' hbW); have HBW4 := Lib.hid (HBW3.out.trans (hbW.mono HBW3.out.size))
    clear hbW HOL3 HOP3 HK3
    generalize w3.heap.size + 1 = b8 at *
    generalize w3.heap.size = b7 at *
    refine (unused_any _ _ _ _ _ _ _ _ t1.psts _ (HOP4.out.mono (Nat.zero_le _)) hp2).mono ?_
    rintro e w4 ⟨rfl, hb4⟩
    rw [hm]
    have hT4 := hT.below' hb4
    have HK5 := Lib.hid (HK4.out.below' hb4)
    have HOL5 := Lib.hid (HOL4.out.below' hb4); have HOP5 := Lib.hid (HOP4.out.below' hb4); have HBW5 := Lib.hid (HBW4.out.trans (hb4.mono HBW4.out.size))
    have k0 : w4.cell? ⟨b7, 0, none⟩ = some (.int .i64 t1.qty) := by rw [hT4.cell]; rfl
    have k1 : w4.cell? ⟨b7, 1, none⟩ = some (.int .i64 t1.val) := by rw [hT4.cell]; rfl
    have k2 : w4.cell? ⟨b7, 2, none⟩ = some (.int .i64 t1.price) := by rw [hT4.cell]; rfl
    have k3 : w4.cell? ⟨b7, 3, none⟩ = some (.slice bl1 t1.lays.length cl1) := by rw [hT4.cell]; rfl
    have k4 : w4.cell? ⟨b7, 4, none⟩ = some (.slice bp1 t1.psts.length cp1) := by rw [hT4.cell]; rfl
    clear hT hT4 hb4 HOL4 HOP4 HK4
    go_wp2_with fail
    refine (hst2 _ _ _ _ _ _ HOL5.out HOP5.out (HLE.out.below HBW5.out)).mono ?_
    rintro e w5 ⟨bl2, cl2, bp2, cp2, rfl, hb, hol', hop'⟩
    simp only at hol' hop'
    have HK6 := Lib.hid (HK5.out.below' hb); have HBW6 := Lib.hid (HBW5.out.trans (hb.mono HBW5.out.size))
    clear k0 k1 k2 k3 k4 hb hst2
    go_wp2_with fail
    have hn' := two_new w5 #[.int .i64 t2.qty, .int .i64 t2.val, .int .i64 t2.price, .slice bl2 t2.lays.length cl2, .slice bp2 t2.psts.length cp2] #[.int .i64 c2.seq, .int .i64 c2.qty, .int .i64 c2.val, .int .i64 c2.var]
    generalize (w5.alloc (.cells #[.int .i64 t2.qty, .int .i64 t2.val, .int .i64 t2.price, .slice bl2 t2.lays.length cl2, .slice bp2 t2.psts.length cp2] 32)).alloc (.cells #[.int .i64 c2.seq, .int .i64 c2.qty, .int .i64 c2.val, .int .i64 c2.var] 34) = W5 at *
    obtain ⟨hbW, hT2, -⟩ := hn'
    have HK7 := Lib.hid (HK6.out.below' hbW)
    have HOL7 := Lib.hid (hol'.below' hbW); have HOP7 := Lib.hid (hop'.below' hbW); have HBW7 := Lib.hid (HBW6.out.trans (hbW.mono HBW6.out.size))
    clear hbW hol' hop'
    generalize w5.heap.size + 1 = d5 at *
    generalize w5.heap.size = e5 at *
    clear hT2
    refine (hst3 _ _ _ _ _ _ HOL7.out HOP7.out (HLE.out.below HBW7.out)).mono ?_
    rintro e w7 ⟨bl3, cl3, bp3, cp3, rfl, hb, hol', hop'⟩
    simp only at hol' hop'
    have HK8 := Lib.hid (HK7.out.below' hb); have HBW8 := Lib.hid (HBW7.out.trans (hb.mono HBW7.out.size))
    clear hb hst3
    go_wp2_with fail
    have hn' := two_new w7 #[.int .i64 t3.qty, .int .i64 t3.val, .int .i64 t3.price, .slice bl3 t3.lays.length cl3, .slice bp3 t3.psts.length cp3] #[.int .i64 c3.seq, .int .i64 c3.qty, .int .i64 c3.val, .int .i64 c3.var]
    generalize (w7.alloc (.cells #[.int .i64 t3.qty, .int .i64 t3.val, .int .i64 t3.price, .slice bl3 t3.lays.length cl3, .slice bp3 t3.psts.length cp3] 32)).alloc (.cells #[.int .i64 c3.seq, .int .i64 c3.qty, .int .i64 c3.val, .int .i64 c3.var] 34) = W7 at *
    obtain ⟨hbW, hT3, -⟩ := hn'
    have HK9 := Lib.hid (HK8.out.below' hbW)
    have HOL9 := Lib.hid (hol'.below' hbW); have HOP9 := Lib.hid (hop'.below' hbW); have HBW9 := Lib.hid (HBW8.out.trans (hbW.mono HBW8.out.size))
    clear hbW hol' hop'
    generalize w7.heap.size + 1 = d7 at *
    generalize w7.heap.size = e7 at *
    have HT3 := Lib.hid hT3
    have le3 := hT3.lt
    clear hT3
    refine (hst4 _ _ _ _ _ _ HOL9.out HOP9.out (HLE.out.below HBW9.out)).mono ?_
    rintro e w9 ⟨bl4, cl4, bp4, cp4, rfl, hb, -, -⟩
    have hS := HK9.out.below' hb
    have hT := HT3.out.below' hb
    have HBWz := Lib.hid (HBW9.out.trans (hb.mono HBW9.out.size))
    have j0 : w9.cell? ⟨b5, 0, none⟩ = some (.int .i64 s.qty) := by rw [hS.cell]; rfl
    have j1 : w9.cell? ⟨b5, 1, none⟩ = some (.int .i64 s.val) := by rw [hS.cell]; rfl
    have i0 : w9.cell? ⟨e7, 0, none⟩ = some (.int .i64 t3.qty) := by rw [hT.cell]; rfl
    have i1 : w9.cell? ⟨e7, 1, none⟩ = some (.int .i64 t3.val) := by rw [hT.cell]; rfl
    have ls := hS.lt
    have lt := hT.lt
    clear hS hT hb hst4
    go_wp2_with fail
    refine (lives_any _ (HLE.out.below ((HBWz.out.alloc HBWz.out.size _).alloc (Nat.le_trans HBWz.out.size (by simp)) _))).mono ?_
    rintro e wz ⟨rfl, hb6⟩
    have HBW7 := Lib.hid (((HBWz.out.alloc HBWz.out.size _).alloc (Nat.le_trans HBWz.out.size (by simp)) _).trans (hb6.mono (Nat.le_trans HBWz.out.size (by simp; omega))))
    clear hb6
    go_wp2_with fail
    go_ret
    exact ⟨rfl, HBW7.out⟩
end Go.Proofs.YtboiipkbhbbgfaaDoor
