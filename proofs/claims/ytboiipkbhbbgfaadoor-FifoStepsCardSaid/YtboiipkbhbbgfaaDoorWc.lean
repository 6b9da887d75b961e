/- The reference's take, issue, Fits. -/
import Derived.Test.YtboiipkbhbbgfaaDoorWa
import Derived.Test.YtboiipkbhbbgfaaDoorWb
namespace Go.Proofs.YtboiipkbhbbgfaaDoor
open Go.RowKit

/-- what take returns: the stock with the layers that are left, and the part -/
def TakeP (q v p : Int) (vp : Value) (gl : Nat) (T : Int × List Lay) (w : World) (e : Ending) (w' : World) : Prop :=
  ∃ gl' cl' kl', e = .returned (.tuple #[.agg #[.int .i64 q, .int .i64 v, .int .i64 p, sl gl' T.2.length cl', vp], .int .i64 T.1]) ∧ LRow w' gl' cl' T.2 kl' ∧ Chg [gl] w w' ∧ (gl' = gl ∨ w.heap.size ≤ gl')

theorem Row.setl {w : World} {g c : Nat} {ls : List Lay} {k : Array Value} (h : LRow w g c ls k) (i j : Nat) (v : Value) (l' : Lay) (hi : i < ls.length) (hj : j < 4) (hv : (ls.getD i zLay).cs.set j v = l'.cs) :
    LRow (w.setCell ⟨g, i * 4 + j, none⟩ v) g c (ls.set i l') (k.setIfInBounds (i * 4 + j) v) := by
  have := h.set (i * 4 + j) v
  rw [laysC_set ls i j v l' hi hj hv] at this
  simpa [LRow] using this

theorem Row.rdc {w : World} {g : Nat} {e : TypeId} {k n c : Nat} {cs : List Value} {cur : Array Value} (h : Row w g e k n c cs cur) (c2 : Nat) : Rd w k (sl g n c2) n cs := by
  rcases h.rd.2 with ⟨h1, _⟩ | ⟨a, c', h1, h2⟩
  · cases h1
  · injection h1 with h1 h3 h4
    injection h1 with h1
    subst h1
    exact ⟨h.rd.1, .inr ⟨_, c2, rfl, h2⟩⟩
theorem LRow.rdt {w : World} {g c : Nat} {ls : List Lay} {cur : Array Value} (h : LRow w g c ls cur) (i : Nat) (hi : i ≤ ls.length) (c2 : Nat) : Rd w 4 (.slice (some ⟨g, i * 4, none⟩) (ls.length - i) c2) (ls.length - i) (laysC (ls.drop i)) :=
  ⟨by rw [laysC_length, List.length_drop], .inr ⟨_, c2, rfl, fun j u hu => LRow.tail h i hi j u hu⟩⟩
theorem rd_nil (w : World) (k : Nat) (a : Addr) (n c2 : Nat) (hn : n = 0) : Rd w k (.slice (some a) n c2) n [] := ⟨by simp [hn], .inr ⟨_, c2, rfl, fun j u hu => by simp at hu⟩⟩

set_option maxRecDepth 100000 in
set_option maxHeartbeats 8000000 in
theorem rtake_any (qq vv pp : Int) (bp : Option Addr) (np cp gl cl : Nat) (ls : List Lay) (kl : Array Value) (i : Nat) (q : Int) (w : World) (h : LRow w gl cl ls kl) (hi : i < ls.length) (hn : ls.length ≤ 1000)
    (g1 : 1 ≤ (ls.getD i zLay).qty) (g2 : (ls.getD i zLay).qty ≤ 1000000000) (g3 : 0 ≤ (ls.getD i zLay).val) (g4 : (ls.getD i zLay).val ≤ 1000000000000000) (q0 : 1 ≤ q) (q1 : q ≤ (ls.getD i zLay).qty) :
    Calls Tryd.prog 89 #[.agg #[.int .i64 qq, .int .i64 vv, .int .i64 pp, sl gl ls.length cl, .slice bp np cp], .int .i64 i, .int .i64 q] w (TakeP qq vv pp (.slice bp np cp) gl (takeM ls i q) w) := by
  obtain ⟨i0, hi0, hz0, hz1, hz2⟩ := info_parts Tryd.info44
  have k0 : (0 : Int) ≤ (i : Int) := by omega
  have k1 : (i : Int) < (ls.length : Int) := by omega
  have ht1 : (takeM ls i q).1 = partM (ls.getD i zLay).val q (ls.getD i zLay).qty := rfl
  have ht2 : (takeM ls i q).2 = if wrap64 ((ls.getD i zLay).qty - q) = 0 then ls.take i ++ ls.drop (i + 1) else ls.set i { ls.getD i zLay with qty := wrap64 ((ls.getD i zLay).qty - q), val := wrap64 ((ls.getD i zLay).val - partM (ls.getD i zLay).val q (ls.getD i zLay).qty) } := rfl
  have HT1 := Lib.hid ht1; have HT2 := Lib.hid ht2; clear ht1 ht2
  obtain ⟨l0, l1, l2, l3⟩ := h.lay i hi
  generalize hL : ls.getD i zLay = L at *
  have HLe := Lib.hid hL; clear hL
  have hpart := fun w => rpart_any L.val q L.qty w g3 (by omega) (by omega) (by omega) (by omega) (by omega)
  generalize partM L.val q L.qty = v at *
  have hw0 : wrap64 (L.qty - q) = L.qty - q := w_id _ (by omega) (by omega)
  have HW0 := Lib.hid hw0; clear hw0
  have hb : Below w.heap.size w ((w.alloc (.cells #[.int .i64 qq, .int .i64 vv, .int .i64 pp, sl gl ls.length cl, .slice bp np cp] 32)).alloc (.cells stkZ 32)) := ((Below.refl _ _).alloc (Nat.le_refl _) _).alloc (by simp) _
  have hA : Blk ((w.alloc (.cells #[.int .i64 qq, .int .i64 vv, .int .i64 pp, sl gl ls.length cl, .slice bp np cp] 32)).alloc (.cells stkZ 32)) w.heap.size 32 #[.int .i64 qq, .int .i64 vv, .int .i64 pp, sl gl ls.length cl, .slice bp np cp] := (Blk.new _ _ _).alloc _
  have hZ : Blk ((w.alloc (.cells #[.int .i64 qq, .int .i64 vv, .int .i64 pp, sl gl ls.length cl, .slice bp np cp] 32)).alloc (.cells stkZ 32)) (w.heap.size + 1) 32 stkZ := Blk.new2 _ _ _ _
  have hs : ((w.alloc (.cells #[.int .i64 qq, .int .i64 vv, .int .i64 pp, sl gl ls.length cl, .slice bp np cp] 32)).alloc (.cells stkZ 32)).heap.size = w.heap.size + 2 := by simp
  have lgl := h.blk.lt
  have hrow := h.of_blk (h.blk.below' hb)
  go_enter Tryd.func89, Tryd.ntmps89
  go_upto_region 1 with fail
  generalize (w.alloc (.cells #[.int .i64 qq, .int .i64 vv, .int .i64 pp, sl gl ls.length cl, .slice bp np cp] 32)).alloc (.cells stkZ 32) = W at *
  have a3 : W.cell? ⟨w.heap.size, 3, none⟩ = some (sl gl ls.length cl) := by rw [hA.cell]; rfl
  clear l0 l1 l2 l3
  obtain ⟨l0, l1, l2, l3⟩ := hrow.lay i hi
  rw [HLe.out] at l0 l1 l2 l3
  have HA := Lib.hid hA; have HZ := Lib.hid hZ; have HB := Lib.hid hb; have HS := Lib.hid hs; have HROW := Lib.hid hrow; clear hA hZ hb hs hrow h
  generalize hb0 : w.heap.size = b0 at *
  go_wp2_with fail
  refine (hpart _).mono ?_; rintro e w1 ⟨rfl, rfl⟩
  have hX : Blk (W.alloc (.cells #[.int .i64 L.seq, .string L.lot, .int .i64 L.qty, .int .i64 L.val] 44)) W.heap.size 44 #[.int .i64 L.seq, .string L.lot, .int .i64 L.qty, .int .i64 L.val] := Blk.new _ _ _
  have hA1 := HA.out.alloc (.cells #[.int .i64 L.seq, .string L.lot, .int .i64 L.qty, .int .i64 L.val] 44)
  have hZ1 := HZ.out.alloc (.cells #[.int .i64 L.seq, .string L.lot, .int .i64 L.qty, .int .i64 L.val] 44)
  have hr1 := HROW.out.of_blk (HROW.out.blk.alloc (.cells #[.int .i64 L.seq, .string L.lot, .int .i64 L.qty, .int .i64 L.val] 44))
  have hb1 : Below b0 w (W.alloc (.cells #[.int .i64 L.seq, .string L.lot, .int .i64 L.qty, .int .i64 L.val] 44)) := HB.out.alloc (by rw [HS.out]; omega) _
  have hs1 : (W.alloc (.cells #[.int .i64 L.seq, .string L.lot, .int .i64 L.qty, .int .i64 L.val] 44)).heap.size = b0 + 3 := by simp [HS.out]
  generalize (W.alloc (.cells #[.int .i64 L.seq, .string L.lot, .int .i64 L.qty, .int .i64 L.val] 44)) = W1 at *
  have hgx := HS.out
  generalize W.heap.size = gx at *
  clear l0 l1 l2 l3 a3 HA HZ HROW HB HS
  have x2 : W1.cell? ⟨gx, 2, none⟩ = some (.int .i64 L.qty) := by rw [hX.cell]; rfl
  have x3 : W1.cell? ⟨gx, 3, none⟩ = some (.int .i64 L.val) := by rw [hX.cell]; rfl
  have a3 : W1.cell? ⟨b0, 3, none⟩ = some (sl gl ls.length cl) := by rw [hA1.cell]; rfl
  obtain ⟨l0, l1, l2, l3⟩ := hr1.lay i hi
  rw [HLe.out] at l0 l1 l2 l3
  have fl := fun o => hr1.blk.frozen o
  have n1 : gl ≠ gx := by omega
  have n2 : gl ≠ b0 := by omega
  have n3 : gl ≠ b0 + 1 := by omega
  have HX := Lib.hid hX; have HA := Lib.hid hA1; have HZ := Lib.hid hZ1; have HB := Lib.hid hb1; have HR := Lib.hid hr1; have HS := Lib.hid hs1; clear hX hA1 hZ1 hb1 hr1 hs1
  have HGX := Lib.hid hgx; clear hgx
  go_upto_region 5 with fail
  have h1 := HR.out.setl i 2 (.int .i64 (L.qty - q)) { L with qty := L.qty - q } hi (by decide) (by rw [HLe.out]; rfl)
  have h2 := h1.setl i 3 (.int .i64 (wrap64 (L.val - v))) { L with qty := L.qty - q, val := wrap64 (L.val - v) } (by simpa using hi) (by decide) (by rw [getD_at _ _ _ (by simpa using hi)]; simp [Lay.cs])
  simp only [List.set_set] at h2
  have hA3 := (HA.out.set_other (a := ⟨gl, i * 4 + 2, none⟩) (.int .i64 (L.qty - q)) n2).set_other (a := ⟨gl, i * 4 + 3, none⟩) (.int .i64 (wrap64 (L.val - v))) n2
  have hX3 := (HX.out.set_other (a := ⟨gl, i * 4 + 2, none⟩) (.int .i64 (L.qty - q)) n1).set_other (a := ⟨gl, i * 4 + 3, none⟩) (.int .i64 (wrap64 (L.val - v))) n1
  have hZ3 := (HZ.out.set_other (a := ⟨gl, i * 4 + 2, none⟩) (.int .i64 (L.qty - q)) n3).set_other (a := ⟨gl, i * 4 + 3, none⟩) (.int .i64 (wrap64 (L.val - v))) n3
  have hc3 : Chg [gl] w ((W1.setCell ⟨gl, i * 4 + 2, none⟩ (.int .i64 (L.qty - q))).setCell ⟨gl, i * 4 + 3, none⟩ (.int .i64 (wrap64 (L.val - v)))) := ((Chg.of_below [gl] (by rw [hb0]; exact HB.out)).set (.inl (by simp)) _).set (.inl (by simp)) _
  have hs3 : ((W1.setCell ⟨gl, i * 4 + 2, none⟩ (.int .i64 (L.qty - q))).setCell ⟨gl, i * 4 + 3, none⟩ (.int .i64 (wrap64 (L.val - v)))).heap.size = b0 + 3 := by simp [HS.out]
  have hkl : ∃ k3, k3 = (kl.setIfInBounds (i * 4 + 2) (.int .i64 (L.qty - q))).setIfInBounds (i * 4 + 3) (.int .i64 (wrap64 (L.val - v))) := ⟨_, rfl⟩
  obtain ⟨k3, hk3⟩ := hkl
  rw [← hk3] at h2
  clear hk3 h1 HX HA HZ HB HR HS
  generalize ((W1.setCell ⟨gl, i * 4 + 2, none⟩ (.int .i64 (L.qty - q))).setCell ⟨gl, i * 4 + 3, none⟩ (.int .i64 (wrap64 (L.val - v)))) = W3 at *
  clear x2 x3 a3 l0 l1 l2 l3 fl
  have x2 : W3.cell? ⟨gx, 2, none⟩ = some (.int .i64 L.qty) := by rw [hX3.cell]; rfl
  have a0 : W3.cell? ⟨b0, 0, none⟩ = some (.int .i64 qq) := by rw [hA3.cell]; rfl
  have a1 : W3.cell? ⟨b0, 1, none⟩ = some (.int .i64 vv) := by rw [hA3.cell]; rfl
  have a2 : W3.cell? ⟨b0, 2, none⟩ = some (.int .i64 pp) := by rw [hA3.cell]; rfl
  have a3 : W3.cell? ⟨b0, 3, none⟩ = some (sl gl ls.length cl) := by rw [hA3.cell]; rfl
  have a4 : W3.cell? ⟨b0, 4, none⟩ = some (.slice bp np cp) := by rw [hA3.cell]; rfl
  have fa := fun o => hA3.frozen o
  have HA := Lib.hid hA3; have HZ := Lib.hid hZ3; have HC := Lib.hid hc3; have HR := Lib.hid h2; have HS := Lib.hid hs3; clear hA3 hX3 hZ3 hc3 h2 hs3
  by_cases hq : L.qty = q
  · have t : (L.qty == q) = true := by simpa using hq
    have HT := Lib.hid (show (takeM ls i q).2 = ls.take i ++ ls.drop (i + 1) by rw [HT2.out, if_pos]; rw [HW0.out, hq]; omega)
    clear hq
    have hnc := HR.out.nc
    rw [List.length_set] at hnc
    have lgl3 := HR.out.blk.lt
    have hs3 := HS.out
    have j1 : (i : Int) ≤ (cl : Int) := by omega
    have j2 : (0 : Int) ≤ (i : Int) + 1 := by omega
    have j3 : (i : Int) + 1 ≤ (ls.length : Int) := by omega
    have j4 : ((i : Int) + 1).toNat = i + 1 := by omega
    have j5 : IntKind.i64.wrap ((i : Int) + 1) = i + 1 := i64_id _ (by omega) (by omega)
    have j6 : (i : Int) ≤ (i : Int) + 1 := by omega
    have hre : Row (W3.alloc (.cells #[] 44)) (b0 + 3) 44 4 0 0 [] #[] := by have := Row.empty W3 44 4; rwa [hs3] at this
    have hr3 := HR.out.of_blk (HR.out.blk.alloc (.cells #[] 44))
    have hd1 : Rd (W3.alloc (.cells #[] 44)) 4 (sl gl i cl) i (laysC (ls.take i)) := by
      have := (LRow.head hr3 i (by simp; omega)).rdc cl
      rwa [List.take_set_of_le (by omega)] at this
    have hA4 := HA.out.alloc (.cells #[] 44)
    have hZ4 := HZ.out.alloc (.cells #[] 44)
    have HRE := Lib.hid hre; have HD1 := Lib.hid hd1; have HA4 := Lib.hid hA4; have HZ4 := Lib.hid hZ4; have HR3 := Lib.hid hr3; clear hre hd1 hA4 hZ4 hr3 HA HZ HR
    have tl := laysC_one (ls.take i)
    have hlen2 : (ls.take i ++ ls.drop (i + 1)).length = i + (ls.length - (i + 1)) := by rw [List.length_append, List.length_take, List.length_drop]; omega
    have HL2 := Lib.hid hlen2; clear hlen2
    by_cases hcl : cl = i + 1
    · subst hcl
      have hdr : ls.drop (i + 1) = [] := List.drop_eq_nil_of_le (by omega)
      have hll : ls.length = i + 1 := by omega
      have HD := Lib.hid hdr; have HLL := Lib.hid hll; clear hdr hll
      go_wp2_with (first
      | (at_builtin
         (refine wpList_append_rd rfl _ _ _ rfl 44 i0 _ 4 40 Tryd.underlying29 hi0 hz0 hz1 hz2 rfl (b0 + 3) 0 0 [] #[] rfl HRE.out _ i (laysC (ls.take i)) rfl HD1.out tl (by simp [maxLen]; omega) (by omega) _ rfl ?_)
         intro g1 c1 k1 w4 hr1 hc1 hg1
         try simp only [Nat.zero_add, List.nil_append] at hr1
         have hA5 := HA4.out.chg hc1 (by simp)
         have hZ5 := HZ4.out.chg hc1 (by simp)
         have hr5 := HR3.out.of_blk (HR3.out.blk.chg hc1 (by simp; omega))
         have hg1' : b0 + 3 ≤ g1 := by rcases hg1 with h | h <;> (try simp at h) <;> omega
         have a3 : w4.cell? ⟨b0, 3, none⟩ = some (sl gl ls.length (i + 1)) := by rw [hA5.cell]; rfl
         have hc5 : Chg [gl] w w4 := (HC.out.alloc (.cells #[] 44)).trans hc1 (by simp; omega)
         have hs4 := hc1.size
         simp only [World.size_alloc] at hs4
         have HA5 := Lib.hid hA5; have HZ5 := Lib.hid hZ5; have HR5 := Lib.hid hr5; have HC5 := Lib.hid hc5
         have HR1 := Lib.hid hr1; clear hr1 hc1 hA5 hZ5 hr5 hc5 hg1)
      | (at_builtin
         (refine wpList_append_rd rfl _ _ _ rfl 44 i0 _ 4 40 Tryd.underlying29 hi0 hz0 hz1 hz2 rfl g1 i c1 (laysC (ls.take i)) k1 rfl HR1.out _ 0 [] rfl (rd_nil _ _ _ _ _ rfl) (by simp) (by simp [maxLen]; omega) (by omega) _ rfl ?_)
         intro g2 c2 k2 w5 hr2 hc2 hg2
         simp only [Nat.add_zero] at hr2
         have lg1 := HR1.out.blk.lt
         have hA6 := HA5.out.chg hc2 (by simp; omega)
         have hz6 := HZ5.out.chg hc2 (by simp; omega)
         have hs5 := hc2.size
         have hbw5 : Chg [gl] w w5 := HC5.out.trans hc2 (by simp; omega)
         have f6 := fun o => hA6.frozen o
         have hg2' : b0 + 3 ≤ g2 := by omega
         have hA7 : Blk (w5.setCell ⟨b0, 3, none⟩ (sl g2 i c2)) b0 32 #[.int .i64 qq, .int .i64 vv, .int .i64 pp, sl g2 i c2, .slice bp np cp] := by have := hA6.set 3 (sl g2 i c2); simpa using this
         have hZ7 : Blk (w5.setCell ⟨b0, 3, none⟩ (sl g2 i c2)) (b0 + 1) 32 stkZ := hz6.set_other _ (by simp)
         have hr7 := hr2.of_blk (hr2.blk.set_other (a := ⟨b0, 3, none⟩) (sl g2 i c2) (by simp; omega))
         have hc7 := hbw5.set (p := ⟨b0, 3, none⟩) (.inr (by simp; omega)) (sl g2 i c2)
         have d3 : w5.cell? ⟨b0, 3, none⟩ = some (sl gl ls.length (i + 1)) := by rw [hA6.cell]; rfl
         have y0 : (w5.setCell ⟨b0, 3, none⟩ (sl g2 i c2)).cell? ⟨b0, 0, none⟩ = some (.int .i64 qq) := by rw [hA7.cell]; rfl
         have y1 : (w5.setCell ⟨b0, 3, none⟩ (sl g2 i c2)).cell? ⟨b0, 1, none⟩ = some (.int .i64 vv) := by rw [hA7.cell]; rfl
         have y2 : (w5.setCell ⟨b0, 3, none⟩ (sl g2 i c2)).cell? ⟨b0, 2, none⟩ = some (.int .i64 pp) := by rw [hA7.cell]; rfl
         have y3 : (w5.setCell ⟨b0, 3, none⟩ (sl g2 i c2)).cell? ⟨b0, 3, none⟩ = some (sl g2 i c2) := by rw [hA7.cell]; rfl
         have y4 : (w5.setCell ⟨b0, 3, none⟩ (sl g2 i c2)).cell? ⟨b0, 4, none⟩ = some (.slice bp np cp) := by rw [hA7.cell]; rfl
         have z0 : (w5.setCell ⟨b0, 3, none⟩ (sl g2 i c2)).cell? ⟨b0 + 1, 0, none⟩ = some (.int .i64 0) := by rw [hZ7.cell]; rfl
         have z1 : (w5.setCell ⟨b0, 3, none⟩ (sl g2 i c2)).cell? ⟨b0 + 1, 1, none⟩ = some (.int .i64 0) := by rw [hZ7.cell]; rfl
         have z2 : (w5.setCell ⟨b0, 3, none⟩ (sl g2 i c2)).cell? ⟨b0 + 1, 2, none⟩ = some (.int .i64 0) := by rw [hZ7.cell]; rfl
         have z3 : (w5.setCell ⟨b0, 3, none⟩ (sl g2 i c2)).cell? ⟨b0 + 1, 3, none⟩ = some (.slice none 0 0) := by rw [hZ7.cell]; rfl
         have z4 : (w5.setCell ⟨b0, 3, none⟩ (sl g2 i c2)).cell? ⟨b0 + 1, 4, none⟩ = some (.slice none 0 0) := by rw [hZ7.cell]; rfl
         have fz := fun o => hZ7.frozen o
         have HR7 := Lib.hid hr7; have HC7 := Lib.hid hc7
         clear hA6 hz6 hs5 hbw5 hA7 hZ7 hr7 hc7 hr2 hc2 hg2 lg1))
      have hfin : LRow (w5.setCell ⟨b0, 3, none⟩ (sl g2 i c2)) g2 c2 (ls.take i ++ ls.drop (i + 1)) k2 := by
        rw [LRow, HL2.out, laysC_append, HLL.out, HD.out]
        simpa [laysC] using HR7.out
      have HF := Lib.hid hfin; clear hfin
      refine bodyPost_ret (v := .tuple #[.agg #[.int .i64 qq, .int .i64 vv, .int .i64 pp, sl g2 i c2, .slice bp np cp], .int .i64 v]) (by simp [results, Tryd.results89, go_sem, *]) rfl ⟨g2, c2, k2, ?_, ?_, ?_, .inr (by omega)⟩
      · rw [HT.out, HT1.out, HL2.out, HLL.out]; simp
      · rw [HT.out]; exact HF.out.of_blk (HF.out.blk.set5_other' _ _ _ _ _ (by omega))
      · exact HC7.out.trans (T := [b0 + 1]) (set5_chg _ _ _ _ _ _ _) (by simp; omega)
    · go_wp2_with (first
      | (at_builtin
         (refine wpList_append_rd rfl _ _ _ rfl 44 i0 _ 4 40 Tryd.underlying29 hi0 hz0 hz1 hz2 rfl (b0 + 3) 0 0 [] #[] rfl HRE.out _ i (laysC (ls.take i)) rfl HD1.out tl (by simp [maxLen]; omega) (by omega) _ rfl ?_)
         intro g1 c1 k1 w4 hr1 hc1 hg1
         try simp only [Nat.zero_add, List.nil_append] at hr1
         have hA5 := HA4.out.chg hc1 (by simp)
         have hZ5 := HZ4.out.chg hc1 (by simp)
         have hr5 := HR3.out.of_blk (HR3.out.blk.chg hc1 (by simp; omega))
         have hg1' : b0 + 3 ≤ g1 := by rcases hg1 with h | h <;> (try simp at h) <;> omega
         have a3 : w4.cell? ⟨b0, 3, none⟩ = some (sl gl ls.length cl) := by rw [hA5.cell]; rfl
         have hc5 : Chg [gl] w w4 := (HC.out.alloc (.cells #[] 44)).trans hc1 (by simp; omega)
         have hs4 := hc1.size
         simp only [World.size_alloc] at hs4
         have HA5 := Lib.hid hA5; have HZ5 := Lib.hid hZ5; have HR5 := Lib.hid hr5; have HC5 := Lib.hid hc5
         have HR1 := Lib.hid hr1; clear hr1 hc1 hA5 hZ5 hr5 hc5 hg1)
      | (at_builtin
         (refine wpList_append_rd rfl _ _ _ rfl 44 i0 _ 4 40 Tryd.underlying29 hi0 hz0 hz1 hz2 rfl g1 i c1 (laysC (ls.take i)) k1 rfl HR1.out _ (ls.length - (i + 1)) (laysC (ls.drop (i + 1))) rfl (by have := LRow.rdt HR5.out (i + 1) (by simp; omega) (cl - (i + 1)); rw [List.length_set, List.drop_set_of_lt (by omega)] at this; exact this) (laysC_one _) (by simp [maxLen]; omega) (by omega) _ rfl ?_)
         intro g2 c2 k2 w5 hr2 hc2 hg2
         have lg1 := HR1.out.blk.lt
         have hA6 := HA5.out.chg hc2 (by simp; omega)
         have hz6 := HZ5.out.chg hc2 (by simp; omega)
         have hs5 := hc2.size
         have hbw5 : Chg [gl] w w5 := HC5.out.trans hc2 (by simp; omega)
         have f6 := fun o => hA6.frozen o
         have hg2' : b0 + 3 ≤ g2 := by omega
         have hA7 : Blk (w5.setCell ⟨b0, 3, none⟩ (sl g2 (i + (ls.length - (i + 1))) c2)) b0 32 #[.int .i64 qq, .int .i64 vv, .int .i64 pp, sl g2 (i + (ls.length - (i + 1))) c2, .slice bp np cp] := by have := hA6.set 3 (sl g2 (i + (ls.length - (i + 1))) c2); simpa using this
         have hZ7 : Blk (w5.setCell ⟨b0, 3, none⟩ (sl g2 (i + (ls.length - (i + 1))) c2)) (b0 + 1) 32 stkZ := hz6.set_other _ (by simp)
         have hr7 := hr2.of_blk (hr2.blk.set_other (a := ⟨b0, 3, none⟩) (sl g2 (i + (ls.length - (i + 1))) c2) (by simp; omega))
         have hc7 := hbw5.set (p := ⟨b0, 3, none⟩) (.inr (by simp; omega)) (sl g2 (i + (ls.length - (i + 1))) c2)
         have d3 : w5.cell? ⟨b0, 3, none⟩ = some (sl gl ls.length cl) := by rw [hA6.cell]; rfl
         have y0 : (w5.setCell ⟨b0, 3, none⟩ (sl g2 (i + (ls.length - (i + 1))) c2)).cell? ⟨b0, 0, none⟩ = some (.int .i64 qq) := by rw [hA7.cell]; rfl
         have y1 : (w5.setCell ⟨b0, 3, none⟩ (sl g2 (i + (ls.length - (i + 1))) c2)).cell? ⟨b0, 1, none⟩ = some (.int .i64 vv) := by rw [hA7.cell]; rfl
         have y2 : (w5.setCell ⟨b0, 3, none⟩ (sl g2 (i + (ls.length - (i + 1))) c2)).cell? ⟨b0, 2, none⟩ = some (.int .i64 pp) := by rw [hA7.cell]; rfl
         have y3 : (w5.setCell ⟨b0, 3, none⟩ (sl g2 (i + (ls.length - (i + 1))) c2)).cell? ⟨b0, 3, none⟩ = some (sl g2 (i + (ls.length - (i + 1))) c2) := by rw [hA7.cell]; rfl
         have y4 : (w5.setCell ⟨b0, 3, none⟩ (sl g2 (i + (ls.length - (i + 1))) c2)).cell? ⟨b0, 4, none⟩ = some (.slice bp np cp) := by rw [hA7.cell]; rfl
         have z0 : (w5.setCell ⟨b0, 3, none⟩ (sl g2 (i + (ls.length - (i + 1))) c2)).cell? ⟨b0 + 1, 0, none⟩ = some (.int .i64 0) := by rw [hZ7.cell]; rfl
         have z1 : (w5.setCell ⟨b0, 3, none⟩ (sl g2 (i + (ls.length - (i + 1))) c2)).cell? ⟨b0 + 1, 1, none⟩ = some (.int .i64 0) := by rw [hZ7.cell]; rfl
         have z2 : (w5.setCell ⟨b0, 3, none⟩ (sl g2 (i + (ls.length - (i + 1))) c2)).cell? ⟨b0 + 1, 2, none⟩ = some (.int .i64 0) := by rw [hZ7.cell]; rfl
         have z3 : (w5.setCell ⟨b0, 3, none⟩ (sl g2 (i + (ls.length - (i + 1))) c2)).cell? ⟨b0 + 1, 3, none⟩ = some (.slice none 0 0) := by rw [hZ7.cell]; rfl
         have z4 : (w5.setCell ⟨b0, 3, none⟩ (sl g2 (i + (ls.length - (i + 1))) c2)).cell? ⟨b0 + 1, 4, none⟩ = some (.slice none 0 0) := by rw [hZ7.cell]; rfl
         have fz := fun o => hZ7.frozen o
         have HR7 := Lib.hid hr7; have HC7 := Lib.hid hc7
         clear hA6 hz6 hs5 hbw5 hA7 hZ7 hr7 hc7 hr2 hc2 hg2 lg1))
      have hfin : LRow (w5.setCell ⟨b0, 3, none⟩ (sl g2 (i + (ls.length - (i + 1))) c2)) g2 c2 (ls.take i ++ ls.drop (i + 1)) k2 := by
        rw [LRow, HL2.out, laysC_append]
        exact HR7.out
      have HF := Lib.hid hfin; clear hfin
      refine bodyPost_ret (v := .tuple #[.agg #[.int .i64 qq, .int .i64 vv, .int .i64 pp, sl g2 (i + (ls.length - (i + 1))) c2, .slice bp np cp], .int .i64 v]) (by simp [results, Tryd.results89, go_sem, *]) rfl ⟨g2, c2, k2, ?_, ?_, ?_, .inr (by omega)⟩
      · rw [HT.out, HT1.out, HL2.out]
      · rw [HT.out]; exact HF.out.of_blk (HF.out.blk.set5_other' _ _ _ _ _ (by omega))
      · exact HC7.out.trans (T := [b0 + 1]) (set5_chg _ _ _ _ _ _ _) (by simp; omega)
  · have t : (L.qty == q) = false := by simpa using hq
    have HT := Lib.hid (show (takeM ls i q).2 = ls.set i { L with qty := L.qty - q, val := wrap64 (L.val - v) } by rw [HT2.out, if_neg (by rw [HW0.out]; omega), HW0.out])
    clear hq
    have z0 : W3.cell? ⟨b0 + 1, 0, none⟩ = some (.int .i64 0) := by rw [HZ.out.cell]; rfl
    have z1 : W3.cell? ⟨b0 + 1, 1, none⟩ = some (.int .i64 0) := by rw [HZ.out.cell]; rfl
    have z2 : W3.cell? ⟨b0 + 1, 2, none⟩ = some (.int .i64 0) := by rw [HZ.out.cell]; rfl
    have z3 : W3.cell? ⟨b0 + 1, 3, none⟩ = some (.slice none 0 0) := by rw [HZ.out.cell]; rfl
    have z4 : W3.cell? ⟨b0 + 1, 4, none⟩ = some (.slice none 0 0) := by rw [HZ.out.cell]; rfl
    have fz := fun o => HZ.out.frozen o
    go_wp2_with fail
    refine bodyPost_ret (v := .tuple #[.agg #[.int .i64 qq, .int .i64 vv, .int .i64 pp, sl gl ls.length cl, .slice bp np cp], .int .i64 v]) (by simp [results, Tryd.results89, go_sem, *]) rfl ⟨gl, cl, k3, ?_, ?_, ?_, .inl rfl⟩
    · rw [HT.out, HT1.out, List.length_set]
    · rw [HT.out]; exact HR.out.of_blk (HR.out.blk.set5_other' _ _ _ _ _ (Ne.symm n3))
    · exact HC.out.trans (T := [b0 + 1]) (set5_chg _ _ _ _ _ _ _) (by simp; omega)

/-- a layer whose numbers are within the limits -/
def LB (l : Lay) : Prop := 1 ≤ l.qty ∧ l.qty ≤ 1000000000 ∧ 0 ≤ l.val ∧ l.val ≤ 1000000000000000

/-- what the loop of the reference's issue keeps -/
structure RIss (w0 : World) (b0 : Nat) (qq vv pp : Int) (vp : Value) (gl : Nat) (R : Int × List Lay) (g : Nat) (left v : Int) (ls : List Lay) (wr : World) : Prop where
  law : issueM ls left v = R
  mea : g = 2 * ls.length + (if 0 < left then 1 else 0)
  ok : ∀ l ∈ ls, LB l
  i64 : I64 left
  len : ls.length ≤ 1000
  row : ∃ gl' cl' kl', LRow wr gl' cl' ls kl' ∧ Blk wr b0 32 #[.int .i64 qq, .int .i64 vv, .int .i64 pp, sl gl' ls.length cl', vp] ∧ (gl' = gl ∨ b0 + 2 ≤ gl')
  res : Blk wr (b0 + 1) 32 stkZ
  chg : Chg [gl] w0 wr
  lt : b0 + 2 ≤ wr.heap.size

theorem RIss.round {w0 : World} {b0 : Nat} {qq vv pp : Int} {vp : Value} {gl : Nat} {R : Int × List Lay} {g : Nat} {left v : Int} {ls : List Lay} {wr : World} (h : RIss w0 b0 qq vv pp vp gl R g left v ls wr)
    (h0 : w0.heap.size = b0) (hgl : gl < b0) {gl' cl' : Nat} (hA : Blk wr b0 32 #[.int .i64 qq, .int .i64 vv, .int .i64 pp, sl gl' ls.length cl', vp]) (hat : gl' = gl ∨ b0 + 2 ≤ gl')
    {w2 : World} {ls2 : List Lay} {g2 c2 : Nat} {k2 : Array Value} (hr : LRow w2 g2 c2 ls2 k2) (hc : Chg [gl'] wr w2) (h2 : g2 = gl' ∨ wr.heap.size ≤ g2) {left2 v2 : Int}
    (hlaw : issueM ls2 left2 v2 = R) (hok : ∀ l ∈ ls2, LB l) (h64 : I64 left2) (hlen : ls2.length ≤ 1000) :
    RIss w0 b0 qq vv pp vp gl R (2 * ls2.length + (if 0 < left2 then 1 else 0)) left2 v2 ls2 (set5 w2 b0 (.int .i64 qq) (.int .i64 vv) (.int .i64 pp) (sl g2 ls2.length c2) vp) := by
  have hlt := h.lt
  have hs := hc.size
  have hA2 := hA.chg hc (by simp; omega)
  have hZ2 := h.res.chg hc (by simp; omega)
  refine ⟨hlaw, rfl, hok, h64, hlen, ⟨g2, c2, k2, hr.of_blk (hr.blk.set5_other' _ _ _ _ _ (by omega)), set5_blk hA2 _ _ _ _ _, by omega⟩, hZ2.set5_other' _ _ _ _ _ (by omega), ?_, by rw [show (set5 w2 b0 (.int .i64 qq) (.int .i64 vv) (.int .i64 pp) (sl g2 ls2.length c2) vp).heap.size = w2.heap.size by simp]; omega⟩
  exact (h.chg.trans hc (by simp; omega)).trans (T := [b0]) (set5_chg _ _ _ _ _ _ _) (by simp; omega)

theorem LB.part {l : Lay} {q : Int} (h : LB l) (h0 : 0 < q) (h1 : q < l.qty) : LB { l with qty := wrap64 (l.qty - q), val := wrap64 (l.val - partM l.val q l.qty) } := by
  obtain ⟨a, b, c, d⟩ := h
  have hp := part_bd l.val q l.qty c (by omega) (by omega) (by omega)
  have e1 : wrap64 (l.qty - q) = l.qty - q := w_id _ (by omega) (by omega)
  have e2 : wrap64 (l.val - partM l.val q l.qty) = l.val - partM l.val q l.qty := w_id _ (by omega) (by omega)
  refine ⟨?_, ?_, ?_, ?_⟩ <;> simp only [e1, e2] <;> omega

set_option maxRecDepth 100000 in
set_option maxHeartbeats 8000000 in
theorem rissue_any (qq vv pp : Int) (bp : Option Addr) (np cp gl cl : Nat) (ls : List Lay) (kl : Array Value) (q : Int) (w : World) (h : LRow w gl cl ls kl) (hn : ls.length ≤ 1000)
    (hok : ∀ l ∈ ls, LB l) (hq : I64 q) :
    Calls Tryd.prog 69 #[.agg #[.int .i64 qq, .int .i64 vv, .int .i64 pp, sl gl ls.length cl, .slice bp np cp], .int .i64 q] w (TakeP qq vv pp (.slice bp np cp) gl (issueM ls q 0) w) := by
  have hb : Below w.heap.size w ((w.alloc (.cells #[.int .i64 qq, .int .i64 vv, .int .i64 pp, sl gl ls.length cl, .slice bp np cp] 32)).alloc (.cells stkZ 32)) := ((Below.refl _ _).alloc (Nat.le_refl _) _).alloc (by simp) _
  have hA : Blk ((w.alloc (.cells #[.int .i64 qq, .int .i64 vv, .int .i64 pp, sl gl ls.length cl, .slice bp np cp] 32)).alloc (.cells stkZ 32)) w.heap.size 32 #[.int .i64 qq, .int .i64 vv, .int .i64 pp, sl gl ls.length cl, .slice bp np cp] := (Blk.new _ _ _).alloc _
  have hZ : Blk ((w.alloc (.cells #[.int .i64 qq, .int .i64 vv, .int .i64 pp, sl gl ls.length cl, .slice bp np cp] 32)).alloc (.cells stkZ 32)) (w.heap.size + 1) 32 stkZ := Blk.new2 _ _ _ _
  have hs : ((w.alloc (.cells #[.int .i64 qq, .int .i64 vv, .int .i64 pp, sl gl ls.length cl, .slice bp np cp] 32)).alloc (.cells stkZ 32)).heap.size = w.heap.size + 2 := by simp
  have lgl := h.blk.lt
  have hrow := h.of_blk (h.blk.below' hb)
  generalize hR : issueM ls q 0 = R
  go_enter Tryd.func69, Tryd.ntmps69
  go_upto_region 1 with fail
  generalize (w.alloc (.cells #[.int .i64 qq, .int .i64 vv, .int .i64 pp, sl gl ls.length cl, .slice bp np cp] 32)).alloc (.cells stkZ 32) = W at *
  have hI : RIss w w.heap.size qq vv pp (.slice bp np cp) gl R (2 * ls.length + (if 0 < q then 1 else 0)) q 0 ls W := ⟨hR, rfl, hok, hq, hn, ⟨gl, cl, kl, hrow, hA, .inl rfl⟩, hZ, Chg.of_below _ hb, by omega⟩
  have HI := Lib.hid hI; clear hA hZ hb hs hrow h hI hok hR
  generalize hb0 : w.heap.size = b0 at *
  have HB0 := Lib.hid hb0; clear hb0
  go_wp2_with fail
  go_loopg [1, 6] (2 * ls.length + (if 0 < q then 1 else 0)) (fun g a b wr => ∃ left v ls', a = .int .i64 left ∧ b = .int .i64 v ∧ RIss w b0 qq vv pp (.slice bp np cp) gl R g left v ls' wr)
  case atStart => exact ⟨q, 0, ls, rfl, rfl, HI.out⟩
  case round =>
    obtain ⟨left, v, ls', rfl, rfl, hI⟩ := hrel
    obtain ⟨gl', cl', kl', hrow, hA, hat⟩ := hI.row
    have hlt := hI.lt
    have hZ := hI.res
    have I := Lib.hid hI
    have h64 := hI.i64
    have a0 : wr.cell? ⟨b0, 0, none⟩ = some (.int .i64 qq) := by rw [hA.cell]; rfl
    have a1 : wr.cell? ⟨b0, 1, none⟩ = some (.int .i64 vv) := by rw [hA.cell]; rfl
    have a2 : wr.cell? ⟨b0, 2, none⟩ = some (.int .i64 pp) := by rw [hA.cell]; rfl
    have a3 : wr.cell? ⟨b0, 3, none⟩ = some (sl gl' ls'.length cl') := by rw [hA.cell]; rfl
    have a4 : wr.cell? ⟨b0, 4, none⟩ = some (.slice bp np cp) := by rw [hA.cell]; rfl
    have fa := fun o => hA.frozen o
    have fz := fun o => hZ.frozen o
    have z0 : wr.cell? ⟨b0 + 1, 0, none⟩ = some (.int .i64 0) := by rw [hZ.cell]; rfl
    have z1 : wr.cell? ⟨b0 + 1, 1, none⟩ = some (.int .i64 0) := by rw [hZ.cell]; rfl
    have z2 : wr.cell? ⟨b0 + 1, 2, none⟩ = some (.int .i64 0) := by rw [hZ.cell]; rfl
    have z3 : wr.cell? ⟨b0 + 1, 3, none⟩ = some (.slice none 0 0) := by rw [hZ.cell]; rfl
    have z4 : wr.cell? ⟨b0 + 1, 4, none⟩ = some (.slice none 0 0) := by rw [hZ.cell]; rfl
    have HROW := Lib.hid hrow; have HA := Lib.hid hA; have HAT := Lib.hid hat; clear hrow hA hZ hI hat
    by_cases h0 : left ≤ 0
    · have t : decide (0 < left) = false := by simpa using h0
      have HX := Lib.hid (iss_end I.out.law (.inl h0)); clear h0
      have hR1 : R.1 = v := by rw [HX.out]
      have hR2 : R.2 = ls' := by rw [HX.out]
      have HR1 := Lib.hid hR1; have HR2 := Lib.hid hR2; clear hR1 hR2
      go_wp2_with fail
      have hat := HAT.out; have hb0 := HB0.out
      refine bodyPost_ret (v := .tuple #[.agg #[.int .i64 qq, .int .i64 vv, .int .i64 pp, sl gl' ls'.length cl', .slice bp np cp], .int .i64 v]) (by simp [results, Tryd.results69, go_sem, *]) rfl ⟨gl', cl', kl', ?_, ?_, ?_, ?_⟩
      · rw [HR1.out, HR2.out]
      · rw [HR2.out]; exact HROW.out.of_blk (HROW.out.blk.set5_other' _ _ _ _ _ (by omega))
      · exact I.out.chg.trans (T := [b0 + 1]) (set5_chg _ _ _ _ _ _ _) (by simp; omega)
      · omega
    · have t : decide (0 < left) = true := by simp; omega
      cases ls' with
      | nil =>
        have HX := Lib.hid (iss_end I.out.law (.inr rfl)); clear h0
        have hR1 : R.1 = v := by rw [HX.out]
        have hR2 : R.2 = ([] : List Lay) := by rw [HX.out]
        have HR1 := Lib.hid hR1; have HR2 := Lib.hid hR2; clear hR1 hR2
        go_wp2_with fail
        have hat := HAT.out; have hb0 := HB0.out
        refine bodyPost_ret (v := .tuple #[.agg #[.int .i64 qq, .int .i64 vv, .int .i64 pp, sl gl' ([] : List Lay).length cl', .slice bp np cp], .int .i64 v]) (by simp [results, Tryd.results69, go_sem, *]) rfl ⟨gl', cl', kl', ?_, ?_, ?_, ?_⟩
        · rw [HR1.out, HR2.out]
        · rw [HR2.out]; exact HROW.out.of_blk (HROW.out.blk.set5_other' _ _ _ _ _ (by omega))
        · exact I.out.chg.trans (T := [b0 + 1]) (set5_chg _ _ _ _ _ _ _) (by simp; omega)
        · omega
      | cons l ls' =>
        obtain ⟨hl1, hl2, hl3, hl4⟩ := I.out.ok l (by simp)
        obtain ⟨x0, x1, x2, x3⟩ := HROW.out.lay 0 (by simp)
        simp at x0 x1 x2 x3
        have hpos : decide ((0 : Int) < ((l :: ls').length : Int)) = true := by simp
        have hpos2 : (0 : Int) < ((l :: ls').length : Int) := by simp
        have HLE := Lib.hid (show left = left from rfl)
        by_cases hle : l.qty ≤ left
        · obtain ⟨t1, t2, t3⟩ := iss_all I.out.law h0 hle
          have T1 := Lib.hid t1; have T2 := Lib.hid t2; have T3 := Lib.hid t3; clear t1 t2 t3
          have hcase : (l.qty < left) = True ∨ left = l.qty := by
            by_cases h : l.qty < left
            · exact .inl (eq_true h)
            · exact .inr (by omega)
          clear hle
          have hlen := I.out.len
          rw [List.length_cons] at hlen
          have hgk := I.out.mea
          rw [if_pos (by omega), List.length_cons] at hgk
          have hround : ∀ w2 g2 c2 k2, LRow w2 g2 c2 ls' k2 → Chg [gl'] wr w2 → (g2 = gl' ∨ wr.heap.size ≤ g2) → ∃ gn, gn < gk ∧ RIss w b0 qq vv pp (.slice bp np cp) gl R gn (wrap64 (left - l.qty)) (wrap64 (v + l.val)) ls' (set5 w2 b0 (.int .i64 qq) (.int .i64 vv) (.int .i64 pp) (sl g2 ls'.length c2) (.slice bp np cp)) :=
            fun w2 g2 c2 k2 hr2 hc2 hat2 => ⟨_, by split <;> omega, I.out.round HB0.out lgl HA.out HAT.out hr2 hc2 hat2 T3.out (fun x hx => I.out.ok x (by simp [hx])) (I64.wrap _) (by omega)⟩
          have HRO := Lib.hid hround; clear hround hgk
          rcases hcase with hcase | rfl
          all_goals
            go_wp2_with fail
            refine (rtake_any qq vv pp bp np cp gl' cl' (l :: ls') kl' 0 l.qty _ HROW.out (by simp) I.out.len hl1 hl2 hl3 hl4 hl1 (Int.le_refl _)).mono ?_
            rintro e w2 ⟨g2, c2, k2, rfl, hr2, hc2, hat2⟩
            rw [T1.out, T2.out]
            rw [T2.out] at hr2
            have hA2 := HA.out.chg hc2 (by have := HAT.out; simp; omega)
            have d0 : w2.cell? ⟨b0, 0, none⟩ = some (.int .i64 qq) := by rw [hA2.cell]; rfl
            have d1 : w2.cell? ⟨b0, 1, none⟩ = some (.int .i64 vv) := by rw [hA2.cell]; rfl
            have d2 : w2.cell? ⟨b0, 2, none⟩ = some (.int .i64 pp) := by rw [hA2.cell]; rfl
            have d3 : w2.cell? ⟨b0, 3, none⟩ = some (sl gl' (l :: ls').length cl') := by rw [hA2.cell]; rfl
            have d4 : w2.cell? ⟨b0, 4, none⟩ = some (.slice bp np cp) := by rw [hA2.cell]; rfl
            have fd := fun o => hA2.frozen o
            have hA3 := HAT.out
            have hR2 := HRO.out _ _ _ _ hr2 hc2 hat2
            have HR2 := Lib.hid hR2; clear hA2 hr2 hc2 hat2 hR2 hA3
            go_wp2_with fail
            obtain ⟨gn, hgn, hR2⟩ := HR2.out
            go_roundg gn
            case rel => exact ⟨_, _, ls', (by first | rfl | (congr 1; exact (w_id _ (by omega) (by omega)).symm) | (congr 1; simp [wrap64])), rfl, hR2⟩
            case measure => exact hgn
        · obtain ⟨t1, t2⟩ := iss_part I.out.law h0 hle h64 ⟨by omega, by omega⟩
          have T1 := Lib.hid t1; have T2 := Lib.hid t2; clear t1 t2
          have hcase : (l.qty < left) = False := eq_false (by omega)
          have hlb := (I.out.ok l (by simp)).part (q := left) (by omega) (by omega)
          go_wp2_with fail
          refine (rtake_any qq vv pp bp np cp gl' cl' (l :: ls') kl' 0 left _ HROW.out (by simp) I.out.len hl1 hl2 hl3 hl4 (by omega) (by show left ≤ l.qty; omega)).mono ?_
          rintro e w2 ⟨g2, c2, k2, rfl, hr2, hc2, hat2⟩
          have hA2 := HA.out.chg hc2 (by have := HAT.out; simp; omega)
          have d0 : w2.cell? ⟨b0, 0, none⟩ = some (.int .i64 qq) := by rw [hA2.cell]; rfl
          have d1 : w2.cell? ⟨b0, 1, none⟩ = some (.int .i64 vv) := by rw [hA2.cell]; rfl
          have d2 : w2.cell? ⟨b0, 2, none⟩ = some (.int .i64 pp) := by rw [hA2.cell]; rfl
          have d3 : w2.cell? ⟨b0, 3, none⟩ = some (sl gl' (l :: ls').length cl') := by rw [hA2.cell]; rfl
          have d4 : w2.cell? ⟨b0, 4, none⟩ = some (.slice bp np cp) := by rw [hA2.cell]; rfl
          have fd := fun o => hA2.frozen o
          have hlen := I.out.len
          rw [List.length_cons] at hlen
          have hgk := I.out.mea
          rw [if_pos (by omega), List.length_cons] at hgk
          have hR2 := I.out.round HB0.out lgl HA.out HAT.out hr2 hc2 hat2 T2.out (by
            rw [T1.out]
            intro x hx
            rcases List.mem_cons.1 hx with rfl | hx
            · exact hlb
            · exact I.out.ok x (by simp [hx])) (I64.wrap _) (by rw [T1.out]; simp; omega)
          have HR2 := Lib.hid hR2; clear hA2 hr2 hc2 hat2 hR2 hlb
          go_wp2_with fail
          go_roundg (2 * ls'.length + 2)
          case rel =>
            have := HR2.out
            have hw0 : wrap64 (left - left) = 0 := by simp [wrap64]
            rw [hw0] at this
            refine ⟨0, _, (takeM (l :: ls') 0 left).2, (by first | rfl | (congr 1)), rfl, ?_⟩
            have hl2 : (takeM (l :: ls') 0 left).2.length = ls'.length + 1 := by rw [T1.out]; simp
            simpa [hl2, Nat.mul_add] using this
          case measure => omega

theorem any_of_getD (ls : List Lay) (h : ∀ j, j < ls.length → farM (ls.getD j zLay).val = false) : ls.any (fun l => farM l.val) = false := by
  rw [List.any_eq_false]
  intro l hl
  obtain ⟨j, hj, rfl⟩ := List.getElem_of_mem hl
  have := h j hj
  rw [getD_at _ _ _ hj] at this
  simpa using this

set_option maxRecDepth 100000 in
set_option maxHeartbeats 4000000 in
theorem rfits_any (q v p : Int) (g c : Nat) (bp : Option Addr) (np cp : Nat) (ls : List Lay) (k : Array Value) (r : Int) (w : World) (h : LRow w g c ls k) (hn : ls.length ≤ 1000) :
    Calls Tryd.prog 40 #[.agg (stkA q v p (sl g ls.length c) (.slice bp np cp)), .int .i64 r] w fun e w' => e = .returned (.bool (!overM ls q v r)) ∧ Below w.heap.size w w' := by
  have hb := (Below.refl w.heap.size w).alloc (Nat.le_refl _) (.cells (stkA q v p (sl g ls.length c) (.slice bp np cp)) 32)
  have HP := Lib.hid (h.of_blk (h.blk.below' hb)); clear h hb
  by_cases c0 : 1000000000 < q
  · have t0 : decide (1000000000 < q) = true := by simpa using c0
    have HV := Lib.hid (show overM ls q v r = true by unfold overM farM; simp [c0])
    clear c0
    go_enter Tryd.func40, Tryd.ntmps40
    go_wp2_with fail
    go_ret
    exact ⟨ret_bool (by rw [HV.out]; rfl), (Below.refl _ _).alloc (Nat.le_refl _) _⟩
  have t0 : decide (1000000000 < q) = false := by simpa using c0
  by_cases c1 : 1000000000000000 < v
  · have t1 : decide (1000000000000000 < v) = true := by simpa using c1
    have HV := Lib.hid (show overM ls q v r = true by unfold overM farM; simp [c1])
    clear c1
    go_enter Tryd.func40, Tryd.ntmps40
    go_wp2_with fail
    go_ret
    exact ⟨ret_bool (by rw [HV.out]; rfl), (Below.refl _ _).alloc (Nat.le_refl _) _⟩
  have t1 : decide (1000000000000000 < v) = false := by simpa using c1
  by_cases c2 : v < -1000000000000000
  · have t2 : decide (v < -1000000000000000) = true := by simpa using c2
    have HV := Lib.hid (show overM ls q v r = true by unfold overM farM; simp [c2])
    clear c2
    go_enter Tryd.func40, Tryd.ntmps40
    go_wp2_with fail
    go_ret
    exact ⟨ret_bool (by rw [HV.out]; rfl), (Below.refl _ _).alloc (Nat.le_refl _) _⟩
  have t2 : decide (v < -1000000000000000) = false := by simpa using c2
  by_cases c3 : 1000000000000000 < r
  · have t3 : decide (1000000000000000 < r) = true := by simpa using c3
    have HV := Lib.hid (show overM ls q v r = true by unfold overM farM; simp [c3])
    clear c3
    go_enter Tryd.func40, Tryd.ntmps40
    go_wp2_with fail
    go_ret
    exact ⟨ret_bool (by rw [HV.out]; rfl), (Below.refl _ _).alloc (Nat.le_refl _) _⟩
  have t3 : decide (1000000000000000 < r) = false := by simpa using c3
  by_cases c4 : r < -1000000000000000
  · have t4 : decide (r < -1000000000000000) = true := by simpa using c4
    have HV := Lib.hid (show overM ls q v r = true by unfold overM farM; simp [c4])
    clear c4
    go_enter Tryd.func40, Tryd.ntmps40
    go_wp2_with fail
    go_ret
    exact ⟨ret_bool (by rw [HV.out]; rfl), (Below.refl _ _).alloc (Nat.le_refl _) _⟩
  have t4 : decide (r < -1000000000000000) = false := by simpa using c4
  have HV := Lib.hid (show overM ls q v r = ls.any (fun l => farM l.val) by unfold overM; rw [show farM v = false by unfold farM; simp; omega, show farM r = false by unfold farM; simp; omega, t0]; simp)
  clear c0 c1 c2 c3 c4
  go_enter Tryd.func40, Tryd.ntmps40
  go_wp2_with fail
  go_loop [5] (fun i => ∃ k : Nat, k ≤ ls.length ∧ (∀ j, j < k → farM (ls.getD j zLay).val = false) ∧ i = .int .i64 k) (fun i => ls.length - (intOf i).toNat)
  case atStart => exact ⟨0, Nat.zero_le _, fun j h => absurd h (Nat.not_lt_zero _), rfl⟩
  case round =>
    obtain ⟨k, hk, hf, rfl⟩ := hrel
    have HF := Lib.hid hf; clear hf
    by_cases hlt : k < ls.length
    · obtain ⟨l0, l1, l2, l3⟩ := HP.out.lay k hlt
      have hmem := getD_mem zLay ls k hlt
      have hyes := fun (hf : farM (ls.getD k zLay).val = true) => (show overM ls q v r = true by rw [HV.out, List.any_eq_true]; exact ⟨_, hmem, hf⟩)
      have hno := fun (hf : farM (ls.getD k zLay).val = false) j (hj : j < k + 1) => (show farM (ls.getD j zLay).val = false by
        rcases Nat.lt_succ_iff_lt_or_eq.1 hj with h | rfl
        · exact HF.out j h
        · exact hf)
      have HY := Lib.hid hyes; have HN := Lib.hid hno; clear hyes hno hmem
      generalize ls.getD k zLay = L at *
      by_cases d0 : 1000000000000000 < L.val
      · have d0' : decide (1000000000000000 < L.val) = true := by simpa using d0
        have HT := Lib.hid (HY.out (by unfold farM; simp; omega)); clear d0
        go_wp2_with fail
        go_ret
        exact ⟨ret_bool (by rw [HT.out]; rfl), (Below.refl _ _).alloc (Nat.le_refl _) _⟩
      · have d0' : decide (1000000000000000 < L.val) = false := by simpa using d0
        by_cases d1 : L.val < -1000000000000000
        · have d1' : decide (L.val < -1000000000000000) = true := by simpa using d1
          have HT := Lib.hid (HY.out (by unfold farM; simp; omega)); clear d0 d1
          go_wp2_with fail
          go_ret
          exact ⟨ret_bool (by rw [HT.out]; rfl), (Below.refl _ _).alloc (Nat.le_refl _) _⟩
        · have d1' : decide (L.val < -1000000000000000) = false := by simpa using d1
          have HT := Lib.hid (HN.out (by unfold farM; simp; omega)); clear d0 d1
          go_wp2_with fail
          go_round
          case rel => exact ⟨k + 1, by omega, HT.out, by go_num⟩
          case measure => simp [intOf]; omega
    · have hke : k = ls.length := by omega
      have HT := Lib.hid (show overM ls q v r = false by rw [HV.out]; exact any_of_getD ls fun j hj => HF.out j (by omega)); clear hke
      go_wp2_with fail
      go_ret
      exact ⟨ret_bool (by rw [HT.out]; rfl), (Below.refl _ _).alloc (Nat.le_refl _) _⟩
end Go.Proofs.YtboiipkbhbbgfaaDoor
