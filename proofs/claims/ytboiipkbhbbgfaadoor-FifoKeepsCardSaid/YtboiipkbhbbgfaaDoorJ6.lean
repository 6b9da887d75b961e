/- FifoEmpty returns true for every list of movements and every quantity. Condition: the table of the months' lengths stands as the program's text lays it. -/
import Derived.Test.YtboiipkbhbbgfaaDoorJ3
import Derived.Test.YtboiipkbhbbgfaaDoorJ5
namespace Go.Proofs.YtboiipkbhbbgfaaDoor
open Go.RowKit

theorem two_new (w : World) (T C : Array Value) : Below w.heap.size w ((w.alloc (.cells T 32)).alloc (.cells C 34)) ∧ Blk ((w.alloc (.cells T 32)).alloc (.cells C 34)) w.heap.size 32 T ∧ Blk ((w.alloc (.cells T 32)).alloc (.cells C 34)) (w.heap.size + 1) 34 C :=
  ⟨((Below.refl _ _).alloc (Nat.le_refl _) _).alloc (by simp) _, (Blk.new _ _ _).alloc _, Blk.new2 _ _ _ _⟩
theorem i64_of {n : Int} (h0 : -9223372036854775808 ≤ n) (h1 : n ≤ 9223372036854775807) : I64 n := ⟨h0, h1⟩

set_option maxRecDepth 100000 in
set_option maxHeartbeats 8000000 in
theorem empty_walk (ms : List Mov) (v0 : Value) (q : Int) (w : World) (hm : Rd w 8 v0 ms.length (movsC ms)) (hmm : ms.length ≤ maxLen) (hok : ∀ m ∈ ms, MovOk m) (hq : -9223372036854775808 ≤ q ∧ q ≤ 9223372036854775807) (hlen : LengthsAt w) :
    Calls Tryd.prog 7 #[v0, .int .i64 q] w fun e w' => e = .returned (.bool true) ∧ Below w.heap.size w w' := by
  obtain ⟨bv, cv, rfl⟩ := hm.form
  obtain ⟨hn1, hn2, hgood⟩ := play_len ms (min ms.length 60) (Nat.min_le_left _ _)
  have hpl := play_any ms bv cv w hm hmm hok hlen
  have hn1' : (playK ms (min ms.length 60)).lays.length ≤ 60 := by omega
  have hn2' : (playK ms (min ms.length 60)).psts.length ≤ 60 := by omega
  generalize playK ms (min ms.length 60) = s at *
  have HLE := Lib.hid hlen; have HG := Lib.hid hgood; clear hm hok hlen hn1 hn2
  by_cases h1 : s.qty < 2
  · have t1 : decide (s.qty < 2) = true := by simpa using h1
    go_enter Tryd.func7, Tryd.ntmps7
    go_wp2_with fail
    refine hpl.mono ?_
    rintro e w1 ⟨bl0, cl0, bp0, cp0, rfl, hb1, hol1, hop1⟩
    clear hpl
    go_wp2_with fail
    have hblk : Blk (w1.alloc (.cells #[.int .i64 s.qty, .int .i64 s.val, .int .i64 s.price, .slice bl0 s.lays.length cl0, .slice bp0 s.psts.length cp0] 32)) w1.heap.size 32 #[.int .i64 s.qty, .int .i64 s.val, .int .i64 s.price, .slice bl0 s.lays.length cl0, .slice bp0 s.psts.length cp0] := Blk.new _ _ _
    have hA : Below w1.heap.size w1 (w1.alloc (.cells #[.int .i64 s.qty, .int .i64 s.val, .int .i64 s.price, .slice bl0 s.lays.length cl0, .slice bp0 s.psts.length cp0] 32)) := (Below.refl _ _).alloc (Nat.le_refl _) _
    generalize w1.alloc (.cells #[.int .i64 s.qty, .int .i64 s.val, .int .i64 s.price, .slice bl0 s.lays.length cl0, .slice bp0 s.psts.length cp0] 32) = W1 at *
    have HOL1 := Lib.hid (hol1.below' hA); have HOP1 := Lib.hid (hop1.below' hA)
    have HBW := Lib.hid (hb1.trans (hA.mono hb1.size)); clear hb1 hA hol1 hop1
    generalize w1.heap.size = b5 at *
    have k0 : W1.cell? ⟨b5, 0, none⟩ = some (.int .i64 s.qty) := by rw [hblk.cell]; rfl
    have k1 : W1.cell? ⟨b5, 1, none⟩ = some (.int .i64 s.val) := by rw [hblk.cell]; rfl
    have k2 : W1.cell? ⟨b5, 2, none⟩ = some (.int .i64 s.price) := by rw [hblk.cell]; rfl
    have k3 : W1.cell? ⟨b5, 3, none⟩ = some (.slice bl0 s.lays.length cl0) := by rw [hblk.cell]; rfl
    have k4 : W1.cell? ⟨b5, 4, none⟩ = some (.slice bp0 s.psts.length cp0) := by rw [hblk.cell]; rfl
    have HK1 := Lib.hid hblk; clear hblk
    refine (lives_any _ (HLE.out.below HBW.out)).mono ?_
    rintro e w2 ⟨rfl, hb2⟩
    have HB2 := Lib.hid (HBW.out.trans (hb2.mono HBW.out.size)); clear hb2
    go_wp2_with fail
    go_ret
    exact ⟨rfl, HB2.out⟩
  have t1 : decide (s.qty < 2) = false := by simpa using h1
  by_cases h2 : q < 1
  · have t2 : decide (q < 1) = true := by simpa using h2
    go_enter Tryd.func7, Tryd.ntmps7
    go_wp2_with fail
    refine hpl.mono ?_
    rintro e w1 ⟨bl0, cl0, bp0, cp0, rfl, hb1, hol1, hop1⟩
    clear hpl
    go_wp2_with fail
    have hblk : Blk (w1.alloc (.cells #[.int .i64 s.qty, .int .i64 s.val, .int .i64 s.price, .slice bl0 s.lays.length cl0, .slice bp0 s.psts.length cp0] 32)) w1.heap.size 32 #[.int .i64 s.qty, .int .i64 s.val, .int .i64 s.price, .slice bl0 s.lays.length cl0, .slice bp0 s.psts.length cp0] := Blk.new _ _ _
    have hA : Below w1.heap.size w1 (w1.alloc (.cells #[.int .i64 s.qty, .int .i64 s.val, .int .i64 s.price, .slice bl0 s.lays.length cl0, .slice bp0 s.psts.length cp0] 32)) := (Below.refl _ _).alloc (Nat.le_refl _) _
    generalize w1.alloc (.cells #[.int .i64 s.qty, .int .i64 s.val, .int .i64 s.price, .slice bl0 s.lays.length cl0, .slice bp0 s.psts.length cp0] 32) = W1 at *
    have HOL1 := Lib.hid (hol1.below' hA); have HOP1 := Lib.hid (hop1.below' hA)
    have HBW := Lib.hid (hb1.trans (hA.mono hb1.size)); clear hb1 hA hol1 hop1
    generalize w1.heap.size = b5 at *
    have k0 : W1.cell? ⟨b5, 0, none⟩ = some (.int .i64 s.qty) := by rw [hblk.cell]; rfl
    have k1 : W1.cell? ⟨b5, 1, none⟩ = some (.int .i64 s.val) := by rw [hblk.cell]; rfl
    have k2 : W1.cell? ⟨b5, 2, none⟩ = some (.int .i64 s.price) := by rw [hblk.cell]; rfl
    have k3 : W1.cell? ⟨b5, 3, none⟩ = some (.slice bl0 s.lays.length cl0) := by rw [hblk.cell]; rfl
    have k4 : W1.cell? ⟨b5, 4, none⟩ = some (.slice bp0 s.psts.length cp0) := by rw [hblk.cell]; rfl
    have HK1 := Lib.hid hblk; clear hblk
    refine (lives_any _ (HLE.out.below HBW.out)).mono ?_
    rintro e w2 ⟨rfl, hb2⟩
    have HB2 := Lib.hid (HBW.out.trans (hb2.mono HBW.out.size)); clear hb2
    go_wp2_with fail
    go_ret
    exact ⟨rfl, HB2.out⟩
  have t2 : decide (q < 1) = false := by simpa using h2
  by_cases h3 : s.qty ≤ q
  · have t3 : decide (s.qty ≤ q) = true := by simpa using h3
    go_enter Tryd.func7, Tryd.ntmps7
    go_wp2_with fail
    refine hpl.mono ?_
    rintro e w1 ⟨bl0, cl0, bp0, cp0, rfl, hb1, hol1, hop1⟩
    clear hpl
    go_wp2_with fail
    have hblk : Blk (w1.alloc (.cells #[.int .i64 s.qty, .int .i64 s.val, .int .i64 s.price, .slice bl0 s.lays.length cl0, .slice bp0 s.psts.length cp0] 32)) w1.heap.size 32 #[.int .i64 s.qty, .int .i64 s.val, .int .i64 s.price, .slice bl0 s.lays.length cl0, .slice bp0 s.psts.length cp0] := Blk.new _ _ _
    have hA : Below w1.heap.size w1 (w1.alloc (.cells #[.int .i64 s.qty, .int .i64 s.val, .int .i64 s.price, .slice bl0 s.lays.length cl0, .slice bp0 s.psts.length cp0] 32)) := (Below.refl _ _).alloc (Nat.le_refl _) _
    generalize w1.alloc (.cells #[.int .i64 s.qty, .int .i64 s.val, .int .i64 s.price, .slice bl0 s.lays.length cl0, .slice bp0 s.psts.length cp0] 32) = W1 at *
    have HOL1 := Lib.hid (hol1.below' hA); have HOP1 := Lib.hid (hop1.below' hA)
    have HBW := Lib.hid (hb1.trans (hA.mono hb1.size)); clear hb1 hA hol1 hop1
    generalize w1.heap.size = b5 at *
    have k0 : W1.cell? ⟨b5, 0, none⟩ = some (.int .i64 s.qty) := by rw [hblk.cell]; rfl
    have k1 : W1.cell? ⟨b5, 1, none⟩ = some (.int .i64 s.val) := by rw [hblk.cell]; rfl
    have k2 : W1.cell? ⟨b5, 2, none⟩ = some (.int .i64 s.price) := by rw [hblk.cell]; rfl
    have k3 : W1.cell? ⟨b5, 3, none⟩ = some (.slice bl0 s.lays.length cl0) := by rw [hblk.cell]; rfl
    have k4 : W1.cell? ⟨b5, 4, none⟩ = some (.slice bp0 s.psts.length cp0) := by rw [hblk.cell]; rfl
    have HK1 := Lib.hid hblk; clear hblk
    refine (lives_any _ (HLE.out.below HBW.out)).mono ?_
    rintro e w2 ⟨rfl, hb2⟩
    have HB2 := Lib.hid (HBW.out.trans (hb2.mono HBW.out.size)); clear hb2
    go_wp2_with fail
    go_ret
    exact ⟨rfl, HB2.out⟩
  have t3 : decide (s.qty ≤ q) = false := by simpa using h3
  · have g1 : ¬ s.qty < 2 := h1
    have g2 : ¬ q < 1 := h2
    have g3 : ¬ s.qty ≤ q := h3
    have hqb := HG.out.qb
    have hlaw := empty_law HG.out (q := q) (by omega) (by omega) rfl rfl
    have hsub : IntKind.i64.wrap (s.qty - q) = s.qty - q := i64_id _ (by omega) (by omega)
    have hI1 : I64 q := i64_of (by omega) (by omega)
    have hI2 : I64 (s.qty - q) := i64_of (by omega) (by omega)
    have hlen1 := step_lays_len s (issueMov (unusedM s.psts) q)
    have hlen2 := step_psts_len s (issueMov (unusedM s.psts) q)
    have hst1 := fun bl cl bp cp W B h1 h2 h3 => step_q s (issueMov (unusedM s.psts) q) bl cl bp cp W B h1 h2 (by omega) (by omega) HG.out hI1 (i64_small 0 (by decide) (by decide)) h3
    have hvb := HG.out.vb
    have hvn := HG.out.nn.2
    generalize hr1 : stepM s (issueMov (unusedM s.psts) q) = r1 at *
    have hst2 := fun bl cl bp cp W B h1 h2 h3 => step_q r1.stk (issueMov (unusedM r1.stk.psts) (s.qty - q)) bl cl bp cp W B h1 h2 (by omega) (by omega) hlaw.2.2.2.2.2.2.1 hI2 (i64_small 0 (by decide) (by decide)) h3
    generalize hr2 : stepM r1.stk (issueMov (unusedM r1.stk.psts) (s.qty - q)) = r2 at *
    clear hr1 hr2 g1 g2 g3
    obtain ⟨l1, l2, l3, l4, l5, l6, -, -⟩ := hlaw
    obtain ⟨er2, ⟨q2, v2, p2, ls2, ps2⟩, c2⟩ := r2
    simp only at l2 l3 l4 l5 l6
    subst l2 l3 l4 l5
    obtain ⟨er1, t, c⟩ := r1
    simp only at l1 l6 hst2 hlen1 hlen2
    subst l1
    have hsum : wrap64 (c.val + c2.val) = -s.val := by rw [l6]; exact w_id _ (by omega) (by omega)
    have L6 := Lib.hid l6; clear l6 hI1 hI2
    have hp2 : t.psts.length ≤ 900 := by omega
    go_enter Tryd.func7, Tryd.ntmps7
    go_wp2_with fail
    refine hpl.mono ?_
    rintro e w1 ⟨bl0, cl0, bp0, cp0, rfl, hb1, hol1, hop1⟩
    clear hpl
    go_wp2_with fail
    have hblk : Blk (w1.alloc (.cells #[.int .i64 s.qty, .int .i64 s.val, .int .i64 s.price, .slice bl0 s.lays.length cl0, .slice bp0 s.psts.length cp0] 32)) w1.heap.size 32 #[.int .i64 s.qty, .int .i64 s.val, .int .i64 s.price, .slice bl0 s.lays.length cl0, .slice bp0 s.psts.length cp0] := Blk.new _ _ _
    have hA : Below w1.heap.size w1 (w1.alloc (.cells #[.int .i64 s.qty, .int .i64 s.val, .int .i64 s.price, .slice bl0 s.lays.length cl0, .slice bp0 s.psts.length cp0] 32)) := (Below.refl _ _).alloc (Nat.le_refl _) _
    generalize w1.alloc (.cells #[.int .i64 s.qty, .int .i64 s.val, .int .i64 s.price, .slice bl0 s.lays.length cl0, .slice bp0 s.psts.length cp0] 32) = W1 at *
    have HOL1 := Lib.hid (hol1.below' hA); have HOP1 := Lib.hid (hop1.below' hA)
    have HBW := Lib.hid (hb1.trans (hA.mono hb1.size)); clear hb1 hA hol1 hop1
    generalize w1.heap.size = b5 at *
    have k0 : W1.cell? ⟨b5, 0, none⟩ = some (.int .i64 s.qty) := by rw [hblk.cell]; rfl
    have k1 : W1.cell? ⟨b5, 1, none⟩ = some (.int .i64 s.val) := by rw [hblk.cell]; rfl
    have k2 : W1.cell? ⟨b5, 2, none⟩ = some (.int .i64 s.price) := by rw [hblk.cell]; rfl
    have k3 : W1.cell? ⟨b5, 3, none⟩ = some (.slice bl0 s.lays.length cl0) := by rw [hblk.cell]; rfl
    have k4 : W1.cell? ⟨b5, 4, none⟩ = some (.slice bp0 s.psts.length cp0) := by rw [hblk.cell]; rfl
    have HK1 := Lib.hid hblk; clear hblk
    refine (unused_any _ _ _ _ _ _ _ _ s.psts _ (HOP1.out.mono (Nat.zero_le _)) (by omega)).mono ?_
    rintro e w2 ⟨rfl, hb2⟩
    have hk := HK1.out.below' hb2
    have HOL2 := Lib.hid (HOL1.out.below' hb2); have HOP2 := Lib.hid (HOP1.out.below' hb2); have HBW2 := Lib.hid (HBW.out.trans (hb2.mono HBW.out.size))
    clear k0 k1 k2 k3 k4 hb2 HOL1 HOP1
    have k0 : w2.cell? ⟨b5, 0, none⟩ = some (.int .i64 s.qty) := by rw [hk.cell]; rfl
    have k1 : w2.cell? ⟨b5, 1, none⟩ = some (.int .i64 s.val) := by rw [hk.cell]; rfl
    have k2 : w2.cell? ⟨b5, 2, none⟩ = some (.int .i64 s.price) := by rw [hk.cell]; rfl
    have k3 : w2.cell? ⟨b5, 3, none⟩ = some (.slice bl0 s.lays.length cl0) := by rw [hk.cell]; rfl
    have k4 : w2.cell? ⟨b5, 4, none⟩ = some (.slice bp0 s.psts.length cp0) := by rw [hk.cell]; rfl
    have HK2 := Lib.hid hk; clear hk
    generalize hnn : unusedM s.psts = n at *
    go_wp2_with fail
    refine (hst1 _ _ _ _ _ _ HOL2.out HOP2.out (HLE.out.below HBW2.out)).mono ?_
    rintro e w3 ⟨bl1, cl1, bp1, cp1, rfl, hb3, hol3, hop3⟩
    simp only at hol3 hop3
    have hk3 := HK2.out.below' hb3
    have HK3 := Lib.hid hk3; have HOL3 := Lib.hid hol3; have HOP3 := Lib.hid hop3; have HBW3 := Lib.hid (HBW2.out.trans (hb3.mono HBW2.out.size))
    clear k0 k1 k2 k3 k4 hb3 hk3 hol3 hop3
    go_wp2_with fail
    have hn := two_new w3 #[.int .i64 t.qty, .int .i64 t.val, .int .i64 t.price, .slice bl1 t.lays.length cl1, .slice bp1 t.psts.length cp1] #[.int .i64 c.seq, .int .i64 c.qty, .int .i64 c.val, .int .i64 c.var]
    generalize (w3.alloc (.cells #[.int .i64 t.qty, .int .i64 t.val, .int .i64 t.price, .slice bl1 t.lays.length cl1, .slice bp1 t.psts.length cp1] 32)).alloc (.cells #[.int .i64 c.seq, .int .i64 c.qty, .int .i64 c.val, .int .i64 c.var] 34) = W3 at *
    obtain ⟨hbW, hT, hC⟩ := hn
    have hS := HK3.out.below' hbW
    have HOL4 := Lib.hid (HOL3.out.below' hbW); have HOP4 := Lib.hid (HOP3.out.below' hbW); have HBW4 := Lib.hid (HBW3.out.trans (hbW.mono HBW3.out.size))
    clear hbW HOL3 HOP3 HK3
    generalize w3.heap.size + 1 = b8 at *
    generalize w3.heap.size = b7 at *
    refine (unused_any _ _ _ _ _ _ _ _ t.psts _ (HOP4.out.mono (Nat.zero_le _)) hp2).mono ?_
    rintro e w4 ⟨rfl, hb4⟩
    have hT4 := hT.below' hb4
    have hC4 := hC.below' hb4
    have hS4 := hS.below' hb4
    have HOL5 := Lib.hid (HOL4.out.below' hb4); have HOP5 := Lib.hid (HOP4.out.below' hb4); have HBW5 := Lib.hid (HBW4.out.trans (hb4.mono HBW4.out.size))
    have k0 : w4.cell? ⟨b7, 0, none⟩ = some (.int .i64 t.qty) := by rw [hT4.cell]; rfl
    have k1 : w4.cell? ⟨b7, 1, none⟩ = some (.int .i64 t.val) := by rw [hT4.cell]; rfl
    have k2 : w4.cell? ⟨b7, 2, none⟩ = some (.int .i64 t.price) := by rw [hT4.cell]; rfl
    have k3 : w4.cell? ⟨b7, 3, none⟩ = some (.slice bl1 t.lays.length cl1) := by rw [hT4.cell]; rfl
    have k4 : w4.cell? ⟨b7, 4, none⟩ = some (.slice bp1 t.psts.length cp1) := by rw [hT4.cell]; rfl
    have j0 : w4.cell? ⟨b5, 0, none⟩ = some (.int .i64 s.qty) := by rw [hS4.cell]; rfl
    have HC4 := Lib.hid hC4; have HS4 := Lib.hid hS4
    clear hT hC hS hT4 hC4 hS4 hb4 HOL4 HOP4
    generalize hnn2 : unusedM t.psts = n2 at *
    go_wp2_with fail
    refine (hst2 _ _ _ _ _ _ HOL5.out HOP5.out (HLE.out.below HBW5.out)).mono ?_
    rintro e w5 ⟨bl2, cl2, bp2, cp2, rfl, hb5, -, -⟩
    have hC5 := HC4.out.below' hb5
    have hS5 := HS4.out.below' hb5
    have j1 : w5.cell? ⟨b5, 1, none⟩ = some (.int .i64 s.val) := by rw [hS5.cell]; rfl
    have j2 : w5.cell? ⟨b8, 2, none⟩ = some (.int .i64 c.val) := by rw [hC5.cell]; rfl
    have HBW6 := Lib.hid (HBW5.out.trans (hb5.mono HBW5.out.size))
    have lj1 := hS5.lt
    have lj2 := hC5.lt
    clear hC5 hS5 hb5 k0 k1 k2 k3 k4 j0 HC4 HS4
    simp only [List.length_nil]
    go_wp2_with fail
    refine (lives_any _ (HLE.out.below ((HBW6.out.alloc HBW6.out.size _).alloc (Nat.le_trans HBW6.out.size (by simp)) _))).mono ?_
    rintro e w6 ⟨rfl, hb6⟩
    have HBW7 := Lib.hid (((HBW6.out.alloc HBW6.out.size _).alloc (Nat.le_trans HBW6.out.size (by simp)) _).trans (hb6.mono (Nat.le_trans HBW6.out.size (by simp; omega))))
    clear hb6
    go_wp2_with fail
    go_ret
    exact ⟨rfl, HBW7.out⟩
end Go.Proofs.YtboiipkbhbbgfaaDoor
